/- The law NumsSteps answers true. Condition: the library's variable ErrRange holds an error. -/
import Derived.Test.YtaokclnandjlpaaDoorNumsLives
namespace Go.Proofs.YtaokclnandjlpaaDoor
open Go.RowKit

theorem wrap_twice (n b m : Int) : IntKind.u64.wrap (IntKind.u64.wrap (n + b) + m) = IntKind.u64.wrap (n + IntKind.u64.wrap (b + m)) := by
  rw [IntKind.wrap_u64, IntKind.wrap_u64, IntKind.wrap_u64, IntKind.wrap_u64]; omega
theorem up_down {n b : Int} (hn : 0 ≤ n ∧ n ≤ 18446744073709551615) (hb : 0 ≤ b ∧ b ≤ 18446744073709551615) (h : n ≤ IntKind.u64.wrap (n + b)) : decrN (IntKind.u64.wrap (n + b)) b = n := by
  rw [IntKind.wrap_u64] at *
  unfold decrN
  split <;> omega
theorem down_le {n b : Int} (hn : 0 ≤ n) (hb : 0 ≤ b) : decrN n b ≤ n ∧ 0 ≤ decrN n b := by
  unfold decrN; split <;> omega
theorem down_zero {n b : Int} : (decrN n b == 0) = decide (n ≤ b) := by
  rw [Bool.eq_iff_iff, beq_iff_eq, decide_eq_true_eq]
  unfold decrN; split <;> omega
theorem down_up {n b : Int} (hn : 0 ≤ n ∧ n ≤ 18446744073709551615) (hb : 0 ≤ b ∧ b ≤ 18446744073709551615) : min n b ≤ IntKind.u64.wrap (decrN n b + b) := by
  rw [IntKind.wrap_u64]
  unfold decrN; split <;> omega
theorem u64_bounds (n : Int) : 0 ≤ IntKind.u64.wrap n ∧ IntKind.u64.wrap n < 18446744073709551616 := by rw [IntKind.wrap_u64]; omega

set_option maxHeartbeats 2000000 in
set_option maxRecDepth 100000 in
theorem numsSteps_walk (n b m : Int) (w : World) (hn : 0 ≤ n ∧ n ≤ 18446744073709551615) (hb : 0 ≤ b ∧ b ≤ 18446744073709551615) (_hm : 0 ≤ m ∧ m ≤ 18446744073709551615) (hE : HasErr w) :
    Calls Tryd.prog 12 #[.int .u64 n, .int .u64 b, .int .u64 m] w fun e w' => e = .returned (.bool true) ∧ Below w.heap.size w w' := by
  have hu := u64_bounds (n + b)
  have hdl := down_le hn.1 hb.1 (n := n) (b := b)
  have hdz := down_zero (n := n) (b := b)
  have hdu := down_up hn hb
  have hud := fun h => up_down hn hb h
  have htw := wrap_twice n b m
  have hi1 := fun W => incr_any n b W
  have hi2 := fun W => incr_any (IntKind.u64.wrap (n + b)) m W
  have hi3 := fun W => incr_any n (IntKind.u64.wrap (b + m)) W
  have hi4 := fun W => incr_any (decrN n b) b W
  have hd1 := fun W => decr_any n b W hn.1 (by omega) hb.1 (by omega)
  have hd2 := fun W => decr_any (IntKind.u64.wrap (n + b)) b W hu.1 hu.2 hb.1 (by omega)
  rw [htw] at hi2
  have e0 : ∃ Z, Z = decrN n b ∧ True := ⟨_, rfl, trivial⟩
  generalize decrN (IntKind.u64.wrap (n + b)) b = N at hud hd2
  generalize IntKind.u64.wrap (decrN n b + b) = X at hdu hi4
  generalize IntKind.u64.wrap (n + IntKind.u64.wrap (b + m)) = V at hi2 hi3
  generalize IntKind.u64.wrap (n + b) = U at *
  generalize decrN n b = D at *
  have HI1 := Lib.hid hi1
  have HI2 := Lib.hid hi2
  have HI3 := Lib.hid hi3
  have HI4 := Lib.hid hi4
  have HD1 := Lib.hid hd1
  have HD2 := Lib.hid hd2
  have HE := Lib.hid hE
  clear hi1 hi2 hi3 hi4 hd1 hd2 hE htw e0
  have hz : (((D == 0) == decide (n ≤ b)) = true) := by rw [hdz]; simp
  by_cases hge : n ≤ U
  · have hN := hud hge
    subst hN
    have hbb : (N != N) = false := by simp
    clear hud
    go_enter Tryd.func12, Tryd.ntmps12
    go_wp2_with fail
    refine (HI1.out _).mono ?_
    rintro e w2 ⟨rfl, rfl⟩
    go_wp2_with fail
    refine (HD1.out _).mono ?_
    rintro e w2 ⟨rfl, rfl⟩
    go_wp2_with fail
    refine (HD2.out _).mono ?_
    rintro e w2 ⟨rfl, rfl⟩
    go_wp2_with fail
    refine (HI2.out _).mono ?_
    rintro e w2 ⟨rfl, rfl⟩
    go_wp2_with fail
    refine (HI3.out _).mono ?_
    rintro e w2 ⟨rfl, rfl⟩
    go_wp2_with fail
    refine (HI4.out _).mono ?_
    rintro e w2 ⟨rfl, rfl⟩
    go_wp2_with fail
    refine (lives04 _ HE.out).mono ?_
    rintro e w2 ⟨rfl, hb2⟩
    go_wp2_with fail
    go_ret
    exact ⟨rfl, hb2⟩
  · have hlt : U < n := by omega
    clear hud hge
    go_enter Tryd.func12, Tryd.ntmps12
    go_wp2_with fail
    refine (HI1.out _).mono ?_
    rintro e w2 ⟨rfl, rfl⟩
    go_wp2_with fail
    refine (HD1.out _).mono ?_
    rintro e w2 ⟨rfl, rfl⟩
    go_wp2_with fail
    refine (HI2.out _).mono ?_
    rintro e w2 ⟨rfl, rfl⟩
    go_wp2_with fail
    refine (HI3.out _).mono ?_
    rintro e w2 ⟨rfl, rfl⟩
    go_wp2_with fail
    refine (HI4.out _).mono ?_
    rintro e w2 ⟨rfl, rfl⟩
    go_wp2_with fail
    refine (lives04 _ HE.out).mono ?_
    rintro e w2 ⟨rfl, hb2⟩
    go_wp2_with fail
    go_ret
    exact ⟨rfl, hb2⟩
end Go.Proofs.YtaokclnandjlpaaDoor
