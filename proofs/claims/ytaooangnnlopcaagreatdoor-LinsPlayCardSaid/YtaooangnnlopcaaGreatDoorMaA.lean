/- What the package epochs answers. No condition. What maps.comes, epochs.Flush, Dies and Alive answer. No condition. What epochs.Flush and epochs.Alive answer. No condition. -/
import Derived.Test.YtaooangnnlopcaaGreatDoorMapSpec
import Derived.Laws.Bits64
import Derived.Laws.BitsLemmas
import Derived.Deep.Light
import Derived.Lib.MinMax
import Derived.Test.YtaooangnnlopcaaGreatDoorStep
import Derived.Test.YtaooangnnlopcaaGreatDoorLowA
import Derived.Test.YtaooangnnlopcaaGreatDoorMapObj
import Derived.Lib.SmallJoins
namespace Go.Proofs.YtaooangnnlopcaaGreatDoor
open Go.RowKit

theorem bits_and_u64 (a b : Nat) (ha : a < 18446744073709551616) (hb : b < 18446744073709551616) : bits .and .u64 (a : Int) (b : Int) = ((a &&& b : Nat) : Int) := by
  have hx : a &&& b < 2 ^ 64 := Nat.and_lt_two_pow _ (by omega)
  have h1 : (BitVec.ofInt 64 (a : Int)).toNat = a := by rw [BitVec.ofInt_natCast, BitVec.toNat_ofNat]; omega
  have h2 : (BitVec.ofInt 64 (b : Int)).toNat = b := by rw [BitVec.ofInt_natCast, BitVec.toNat_ofNat]; omega
  show IntKind.u64.wrap ((BitVec.ofInt 64 (a : Int) &&& BitVec.ofInt 64 (b : Int)).toNat : Int) = _
  rw [BitVec.toNat_and, h1, h2, IntKind.wrap_u64]
  omega
theorem bits_or_u64 (a b : Nat) (ha : a < 18446744073709551616) (hb : b < 18446744073709551616) : bits .or .u64 (a : Int) (b : Int) = ((a ||| b : Nat) : Int) := by
  have hx : a ||| b < 2 ^ 64 := Nat.or_lt_two_pow (by omega) (by omega)
  have h1 : (BitVec.ofInt 64 (a : Int)).toNat = a := by rw [BitVec.ofInt_natCast, BitVec.toNat_ofNat]; omega
  have h2 : (BitVec.ofInt 64 (b : Int)).toNat = b := by rw [BitVec.ofInt_natCast, BitVec.toNat_ofNat]; omega
  show IntKind.u64.wrap ((BitVec.ofInt 64 (a : Int) ||| BitVec.ofInt 64 (b : Int)).toNat : Int) = _
  rw [BitVec.toNat_or, h1, h2, IntKind.wrap_u64]
  omega
theorem mask24 (a : Nat) : a &&& 16777215 = a % 16777216 := Nat.and_two_pow_sub_one_eq_mod a 24
theorem mask16 (a : Nat) : a &&& 65535 = a % 65536 := Nat.and_two_pow_sub_one_eq_mod a 16
theorem and24 (a : Nat) (ha : a < 18446744073709551616) : bits .and .u64 (a : Int) 16777215 = ((a % 16777216 : Nat) : Int) := by
  have h := bits_and_u64 a 16777215 ha (by omega)
  rw [mask24] at h
  exact h
theorem and16 (a : Nat) (ha : a < 18446744073709551616) : bits .and .u64 (a : Int) 65535 = ((a % 65536 : Nat) : Int) := by
  have h := bits_and_u64 a 65535 ha (by omega)
  rw [mask16] at h
  exact h
theorem or_parts (n a g : Nat) (hn : n < 16777216) (ha : a < 16777216) (hg : g < 65536) :
    bits .or .u64 (bits .or .u64 (n : Int) ((a : Int) * 16777216)) ((g : Int) * 281474976710656) = ((g * 281474976710656 + a * 16777216 + n : Nat) : Int) := by
  have h1 : n ||| a * 16777216 = a * 16777216 + n := by
    have := Nat.shiftLeft_add_eq_or_of_lt (i := 24) hn a
    rw [Nat.shiftLeft_eq] at this
    rw [Nat.or_comm]
    exact this.symm
  have h2 : (a * 16777216 + n) ||| g * 281474976710656 = g * 281474976710656 + (a * 16777216 + n) := by
    have := Nat.shiftLeft_add_eq_or_of_lt (i := 48) (show a * 16777216 + n < 2 ^ 48 by omega) g
    rw [Nat.shiftLeft_eq] at this
    rw [Nat.or_comm]
    exact this.symm
  have e1 : ((a : Int) * 16777216) = ((a * 16777216 : Nat) : Int) := by omega
  have e2 : ((g : Int) * 281474976710656) = ((g * 281474976710656 : Nat) : Int) := by omega
  rw [e1, e2, bits_or_u64 _ _ (by omega) (by omega), h1, bits_or_u64 _ _ (by omega) (by omega), h2]
  omega
theorem wrap64_nat (n : Nat) (h : n < 9223372036854775808) : wrap64 (n : Int) = (n : Int) := IntWalk.wrap64_in _ (by omega)
theorem said_any (ep : Nat) (h : ep < 18446744073709551616) (w : World) : Calls Tryz.prog 81 #[.int .u64 (ep : Int)] w fun e w' => e = .returned (.agg #[.int .i64 (nowE ep : Int), .int .i64 (atE ep : Int), .int .i64 (genE ep : Int)]) ∧ Below w.heap.size w w' := by
  have b0 : bits .and .u64 (ep : Int) 16777215 = (nowE ep : Int) := and24 ep h
  have b1 : bits .and .u64 ((ep : Int) / 16777216) 16777215 = (atE ep : Int) := and24 (ep / 16777216) (by omega)
  have b2 : bits .and .u64 ((ep : Int) / 281474976710656) 65535 = (genE ep : Int) := by
    rw [show ((ep : Int) / 281474976710656) = ((genE ep : Nat) : Int) from by unfold genE; omega, and16 _ (by unfold genE; omega), Nat.mod_eq_of_lt (gen_lt h)]
  have w0 := wrap64_nat (nowE ep) (by have := now_lt ep; omega)
  have w1 := wrap64_nat (atE ep) (by have := at_lt ep; omega)
  have w2 := wrap64_nat (genE ep) (by have := gen_lt h; omega)
  go_enter Tryz.func81, Tryz.ntmps81
  go_wp2_with fail
  exact bodyPost_ret (v := .agg #[.int .i64 (nowE ep : Int), .int .i64 (atE ep : Int), .int .i64 (genE ep : Int)]) (by simp [results, Tryz.results81, go_sem]) rfl ⟨rfl, (Below.refl _ _).alloc (Nat.le_refl _) _⟩
theorem fld_ep0 (x y z : Int) (W : World) : (Instr.field 110 (.agg #[.int .i64 x, .int .i64 y, .int .i64 z]) 0).run Tryz.prog W = .ok (.int .i64 x) W := by kernel_rfl
theorem fld_ep1 (x y z : Int) (W : World) : (Instr.field 110 (.agg #[.int .i64 x, .int .i64 y, .int .i64 z]) 1).run Tryz.prog W = .ok (.int .i64 y) W := by kernel_rfl
theorem fld_ep2 (x y z : Int) (W : World) : (Instr.field 110 (.agg #[.int .i64 x, .int .i64 y, .int .i64 z]) 2).run Tryz.prog W = .ok (.int .i64 z) W := by kernel_rfl
set_option maxRecDepth 100000 in
theorem now_any (ep : Nat) (h : ep < 18446744073709551616) (w : World) : Calls Tryz.prog 63 #[.int .u64 (ep : Int)] w fun e w' => e = .returned (.int .i64 (nowE ep : Int)) ∧ Below w.heap.size w w' := by
  have HS := Lib.hid (said_any ep h w)
  clear h
  have hf := fld_ep0 (nowE ep) (atE ep) (genE ep)
  go_enter Tryz.func63, Tryz.ntmps63
  go_wp2_with fail
  refine HS.out.mono ?_
  rintro e w1 ⟨rfl, hb⟩
  go_wp2_with fail
  go_ret
  exact ⟨rfl, hb⟩
set_option maxRecDepth 100000 in
theorem at_any (ep : Nat) (h : ep < 18446744073709551616) (w : World) : Calls Tryz.prog 97 #[.int .u64 (ep : Int)] w fun e w' => e = .returned (.int .i64 (atE ep : Int)) ∧ Below w.heap.size w w' := by
  have HS := Lib.hid (said_any ep h w)
  clear h
  have hf := fld_ep1 (nowE ep) (atE ep) (genE ep)
  go_enter Tryz.func97, Tryz.ntmps97
  go_wp2_with fail
  refine HS.out.mono ?_
  rintro e w1 ⟨rfl, hb⟩
  go_wp2_with fail
  go_ret
  exact ⟨rfl, hb⟩
set_option maxRecDepth 100000 in
theorem gen_any (ep : Nat) (h : ep < 18446744073709551616) (w : World) : Calls Tryz.prog 98 #[.int .u64 (ep : Int)] w fun e w' => e = .returned (.int .i64 (genE ep : Int)) ∧ Below w.heap.size w w' := by
  have HS := Lib.hid (said_any ep h w)
  clear h
  have hf := fld_ep2 (nowE ep) (atE ep) (genE ep)
  go_enter Tryz.func98, Tryz.ntmps98
  go_wp2_with fail
  refine HS.out.mono ?_
  rintro e w1 ⟨rfl, hb⟩
  go_wp2_with fail
  go_ret
  exact ⟨rfl, hb⟩
/-- A word put together. -/
theorem word_any (n a g : Nat) (hn : n < 9223372036854775808) (ha : a < 9223372036854775808) (hg : g < 9223372036854775808) (w : World) :
    Calls Tryz.prog 45 #[.agg #[.int .i64 (n : Int), .int .i64 (a : Int), .int .i64 (g : Int)]] w fun e w' => e = .returned (.int .u64 (putE n a g : Int)) ∧ Below w.heap.size w w' := by
  have c0 : IntKind.u64.wrap (n : Int) = (n : Int) := by rw [IntKind.wrap_u64]; omega
  have c1 : IntKind.u64.wrap (a : Int) = (a : Int) := by rw [IntKind.wrap_u64]; omega
  have c2 : IntKind.u64.wrap (g : Int) = (g : Int) := by rw [IntKind.wrap_u64]; omega
  have b0 := and24 n (by omega)
  have b1 := and24 a (by omega)
  have b2 := and16 g (by omega)
  have hor := or_parts (n % 16777216) (a % 16777216) (g % 65536) (Nat.mod_lt _ (by omega)) (Nat.mod_lt _ (by omega)) (Nat.mod_lt _ (by omega))
  rw [show g % 65536 * 281474976710656 + a % 16777216 * 16777216 + n % 16777216 = putE n a g from by unfold putE; omega] at hor
  obtain ⟨n', hn'⟩ : ∃ n', n' = n % 16777216 := ⟨_, rfl⟩
  obtain ⟨a', ha'⟩ : ∃ a', a' = a % 16777216 := ⟨_, rfl⟩
  obtain ⟨g', hg'⟩ : ∃ g', g' = g % 65536 := ⟨_, rfl⟩
  rw [← hn', ← ha', ← hg'] at hor
  rw [← hn'] at b0
  rw [← ha'] at b1
  rw [← hg'] at b2
  have m1 : IntKind.u64.wrap ((a' : Int) * 16777216) = (a' : Int) * 16777216 := by rw [IntKind.wrap_u64]; omega
  have m2 : IntKind.u64.wrap ((g' : Int) * 281474976710656) = (g' : Int) * 281474976710656 := by rw [IntKind.wrap_u64]; omega
  have m0 : IntKind.u64.wrap (n' : Int) = (n' : Int) := by rw [IntKind.wrap_u64]; omega
  clear hn' ha' hg'
  go_enter Tryz.func45, Tryz.ntmps45
  go_wp2_with fail
  go_ret
  exact ⟨rfl, (Below.refl _ _).alloc (Nat.le_refl _) _⟩
theorem put_any (n a g : Nat) (hn : n < 9223372036854775808) (ha : a < 9223372036854775808) (hg : g < 9223372036854775808) (w : World) :
    Calls Tryz.prog 34 #[.int .i64 (n : Int), .int .i64 (a : Int), .int .i64 (g : Int)] w fun e w' => e = .returned (.int .u64 (putE n a g : Int)) ∧ Below w.heap.size w w' := by
  have HW := Lib.hid (fun W => word_any n a g hn ha hg W)
  clear hn ha hg
  go_enter Tryz.func34, Tryz.ntmps34
  go_wp2_with fail
  refine (HW.out _).mono ?_
  rintro e w1 ⟨rfl, hb⟩
  go_wp2_with fail
  go_ret
  exact ⟨rfl, hb⟩
set_option maxRecDepth 100000 in
theorem tick_any (ep : Nat) (h : ep < 18446744073709551616) (w : World) : Calls Tryz.prog 65 #[.int .u64 (ep : Int)] w fun e w' => e = .returned (.int .u64 (tickE ep : Int)) ∧ Below w.heap.size w w' := by
  have HS := Lib.hid (said_any ep h w)
  have hn := now_lt ep
  have ha := at_lt ep
  have hg := gen_lt h
  clear h
  unfold tickE
  generalize nowE ep = n at hn HS ⊢
  generalize atE ep = a at ha HS ⊢
  generalize genE ep = g at hg HS ⊢
  obtain ⟨n1, hn1⟩ : ∃ n1, n1 = min (n + 1) 16777215 := ⟨_, rfl⟩
  obtain ⟨g1, hg1⟩ : ∃ g1, g1 = min (g + 1) 65535 := ⟨_, rfl⟩
  rw [← hn1, ← hg1]
  have q1 : wrap64 ((n : Int) + 1) = (n : Int) + 1 := IntWalk.wrap64_in _ (by omega)
  have q2 : wrap64 ((g : Int) + 1) = (g : Int) + 1 := IntWalk.wrap64_in _ (by omega)
  have m1 : min ((n : Int) + 1) 16777215 = (n1 : Int) := by omega
  have m2 : min ((g : Int) + 1) 65535 = (g1 : Int) := by omega
  have hn2 : n1 ≤ 16777215 := by omega
  have hg2 : g1 ≤ 65535 := by omega
  clear hn1 hg1
  by_cases hc : 0 < a ∧ a ≤ n1
  · rw [if_pos hc]
    have HW := Lib.hid (fun W => word_any n1 0 g1 (by omega) (by omega) (by omega) W)
    have d1 : decide (0 < a) = true := by rw [decide_eq_true_eq]; omega
    have d2 : decide (a ≤ n1) = true := by rw [decide_eq_true_eq]; omega
    clear hc hn ha hg hn2 hg2
    go_enter Tryz.func65, Tryz.ntmps65
    go_wp2_with fail
    refine HS.out.mono ?_
    rintro e w1 ⟨rfl, hb⟩
    have HB := Lib.hid hb
    clear hb
    go_wp2_with fail
    refine (HW.out _).mono ?_
    rintro e w2 ⟨rfl, hb2⟩
    have HB2 := Lib.hid hb2
    clear hb2
    go_wp2_with fail
    go_ret
    exact ⟨rfl, (HB.out.alloc HB.out.size _).trans (HB2.out.mono (by have := HB.out.size; simp; omega))⟩
  · rw [if_neg hc]
    have HW := Lib.hid (fun W => word_any n1 a g (by omega) (by omega) (by omega) W)
    clear hn hg hn2 hg2
    by_cases h0 : 0 < a
    · have d1 : decide (0 < a) = true := by rw [decide_eq_true_eq]; omega
      have d2 : decide (a ≤ n1) = false := by rw [decide_eq_false_iff_not]; omega
      clear hc ha h0
      go_enter Tryz.func65, Tryz.ntmps65
      go_wp2_with fail
      refine HS.out.mono ?_
      rintro e w1 ⟨rfl, hb⟩
      have HB := Lib.hid hb
      clear hb
      go_wp2_with fail
      refine (HW.out _).mono ?_
      rintro e w2 ⟨rfl, hb2⟩
      have HB2 := Lib.hid hb2
      clear hb2
      go_wp2_with fail
      go_ret
      exact ⟨rfl, (HB.out.alloc HB.out.size _).trans (HB2.out.mono (by have := HB.out.size; simp; omega))⟩
    · have d1 : decide (0 < a) = false := by rw [decide_eq_false_iff_not]; omega
      clear hc ha h0
      go_enter Tryz.func65, Tryz.ntmps65
      go_wp2_with fail
      refine HS.out.mono ?_
      rintro e w1 ⟨rfl, hb⟩
      have HB := Lib.hid hb
      clear hb
      go_wp2_with fail
      refine (HW.out _).mono ?_
      rintro e w2 ⟨rfl, hb2⟩
      have HB2 := Lib.hid hb2
      clear hb2
      go_wp2_with fail
      go_ret
      exact ⟨rfl, (HB.out.alloc HB.out.size _).trans (HB2.out.mono (by have := HB.out.size; simp; omega))⟩
def laterN (m d : Nat) : Nat := if 0 < d ∧ 0 < atE m ∧ atE m ≤ min (nowE m + d) 16777215 then putE (min (nowE m + d) 16777215) 0 (min (genE m + 1) 65535) else putE (min (nowE m + d) 16777215) (atE m) (genE m)
set_option maxRecDepth 100000 in
theorem later_any (ep d : Nat) (h : ep < 18446744073709551616) (hd : d < 4294967296) (w : World) : Calls Tryz.prog 64 #[.int .u64 (ep : Int), .int .i64 (d : Int)] w fun e w' => e = .returned (.int .u64 (laterN ep d : Int)) ∧ Below w.heap.size w w' := by
  have HN := Lib.hid (fun W => now_any ep h W)
  have HA := Lib.hid (fun W => at_any ep h W)
  have HG := Lib.hid (fun W => gen_any ep h W)
  have hn := now_lt ep
  have ha := at_lt ep
  have hg := gen_lt h
  clear h
  unfold laterN
  generalize nowE ep = n at hn HN ⊢
  generalize atE ep = a at ha HA ⊢
  generalize genE ep = g at hg HG ⊢
  obtain ⟨n1, hn1⟩ : ∃ n1, n1 = min (n + d) 16777215 := ⟨_, rfl⟩
  obtain ⟨g1, hg1⟩ : ∃ g1, g1 = min (g + 1) 65535 := ⟨_, rfl⟩
  rw [← hn1, ← hg1]
  have q1 : wrap64 ((n : Int) + (d : Int)) = (n : Int) + (d : Int) := IntWalk.wrap64_in _ (by omega)
  have q2 : wrap64 ((g : Int) + 1) = (g : Int) + 1 := IntWalk.wrap64_in _ (by omega)
  have m1 : min ((n : Int) + (d : Int)) 16777215 = (n1 : Int) := by omega
  have m2 : min ((g : Int) + 1) 65535 = (g1 : Int) := by omega
  have hn2 : n1 ≤ 16777215 := by omega
  have hg2 : g1 ≤ 65535 := by omega
  clear hn1 hg1 hd
  by_cases hc : 0 < d ∧ 0 < a ∧ a ≤ n1
  · rw [if_pos hc]
    have HW := Lib.hid (fun W => put_any n1 0 g1 (by omega) (by omega) (by omega) W)
    have d0 : decide (0 < d) = true := by rw [decide_eq_true_eq]; omega
    have d1 : decide (0 < a) = true := by rw [decide_eq_true_eq]; omega
    have d2 : decide (a ≤ n1) = true := by rw [decide_eq_true_eq]; omega
    clear hc hn ha hg hn2 hg2
    go_enter Tryz.func64, Tryz.ntmps64
    go_wp2_with fail
    refine (HN.out _).mono ?_
    rintro e w1 ⟨rfl, hb1⟩
    go_wp2_with fail
    refine (HA.out _).mono ?_
    rintro e w2 ⟨rfl, hb2⟩
    go_wp2_with fail
    refine (HG.out _).mono ?_
    rintro e w3 ⟨rfl, hb3⟩
    have HB3 := Lib.hid ((hb1.trans (hb2.mono hb1.size)).trans (hb3.mono (Nat.le_trans hb1.size hb2.size)))
    clear hb1 hb2 hb3
    go_wp2_with fail
    refine (HW.out _).mono ?_
    rintro e w4 ⟨rfl, hb4⟩
    have HB4 := Lib.hid (HB3.out.trans (hb4.mono HB3.out.size))
    clear hb4
    go_wp2_with fail
    go_ret
    exact ⟨rfl, HB4.out⟩
  · rw [if_neg hc]
    have HW := Lib.hid (fun W => put_any n1 a g (by omega) (by omega) (by omega) W)
    by_cases h0 : 0 < d
    · have d0 : decide (0 < d) = true := by rw [decide_eq_true_eq]; omega
      by_cases h1 : 0 < a
      · have d1 : decide (0 < a) = true := by rw [decide_eq_true_eq]; omega
        have d2 : decide (a ≤ n1) = false := by rw [decide_eq_false_iff_not]; omega
        clear hc hn ha hg hn2 hg2 h0 h1
        go_enter Tryz.func64, Tryz.ntmps64
        go_wp2_with fail
        refine (HN.out _).mono ?_
        rintro e w1 ⟨rfl, hb1⟩
        go_wp2_with fail
        refine (HA.out _).mono ?_
        rintro e w2 ⟨rfl, hb2⟩
        go_wp2_with fail
        refine (HG.out _).mono ?_
        rintro e w3 ⟨rfl, hb3⟩
        have HB3 := Lib.hid ((hb1.trans (hb2.mono hb1.size)).trans (hb3.mono (Nat.le_trans hb1.size hb2.size)))
        clear hb1 hb2 hb3
        go_wp2_with fail
        refine (HW.out _).mono ?_
        rintro e w4 ⟨rfl, hb4⟩
        have HB4 := Lib.hid (HB3.out.trans (hb4.mono HB3.out.size))
        clear hb4
        go_wp2_with fail
        go_ret
        exact ⟨rfl, HB4.out⟩
      · have d1 : decide (0 < a) = false := by rw [decide_eq_false_iff_not]; omega
        clear hc hn ha hg hn2 hg2 h0 h1
        go_enter Tryz.func64, Tryz.ntmps64
        go_wp2_with fail
        refine (HN.out _).mono ?_
        rintro e w1 ⟨rfl, hb1⟩
        go_wp2_with fail
        refine (HA.out _).mono ?_
        rintro e w2 ⟨rfl, hb2⟩
        go_wp2_with fail
        refine (HG.out _).mono ?_
        rintro e w3 ⟨rfl, hb3⟩
        have HB3 := Lib.hid ((hb1.trans (hb2.mono hb1.size)).trans (hb3.mono (Nat.le_trans hb1.size hb2.size)))
        clear hb1 hb2 hb3
        go_wp2_with fail
        refine (HW.out _).mono ?_
        rintro e w4 ⟨rfl, hb4⟩
        have HB4 := Lib.hid (HB3.out.trans (hb4.mono HB3.out.size))
        clear hb4
        go_wp2_with fail
        go_ret
        exact ⟨rfl, HB4.out⟩
    · have d0 : decide (0 < d) = false := by rw [decide_eq_false_iff_not]; omega
      clear hc hn ha hg hn2 hg2 h0
      go_enter Tryz.func64, Tryz.ntmps64
      go_wp2_with fail
      refine (HN.out _).mono ?_
      rintro e w1 ⟨rfl, hb1⟩
      go_wp2_with fail
      refine (HA.out _).mono ?_
      rintro e w2 ⟨rfl, hb2⟩
      go_wp2_with fail
      refine (HG.out _).mono ?_
      rintro e w3 ⟨rfl, hb3⟩
      have HB3 := Lib.hid ((hb1.trans (hb2.mono hb1.size)).trans (hb3.mono (Nat.le_trans hb1.size hb2.size)))
      clear hb1 hb2 hb3
      go_wp2_with fail
      refine (HW.out _).mono ?_
      rintro e w4 ⟨rfl, hb4⟩
      have HB4 := Lib.hid (HB3.out.trans (hb4.mono HB3.out.size))
      clear hb4
      go_wp2_with fail
      go_ret
      exact ⟨rfl, HB4.out⟩
end Go.Proofs.YtaooangnnlopcaaGreatDoor
namespace Go.Proofs.YtaooangnnlopcaaGreatDoor
open Go.RowKit

theorem later_is {m w : Nat} (h : nowE m ≤ nowE w) : laterN m (nowE w - nowE m) = laterE m (nowE w) := by
  have := now_lt w
  unfold laterN laterE
  rw [show min (nowE m + (nowE w - nowE m)) 16777215 = nowE w by omega]
  by_cases h1 : nowE m < nowE w ∧ 0 < atE m ∧ atE m ≤ nowE w
  · rw [if_pos h1, if_pos (by omega)]
  · rw [if_neg h1, if_neg (by omega)]
theorem laterE_lt (m n : Nat) : laterE m n < 18446744073709551616 := by
  unfold laterE
  split <;> exact put_lt _ _ _
set_option maxRecDepth 100000 in
theorem comes_any (p : Nat) (me ep : Nat) (hm : me < 18446744073709551616) (he : ep < 18446744073709551616) (w : World) (c1 : w.cell? ⟨p, 1, none⟩ = some (.int .u64 (me : Int))) :
    Calls Tryz.prog 46 #[.pointer (some ⟨p, 0, none⟩), .int .u64 (ep : Int)] w fun e w' => e = .returned (.bool (comesE me ep)) ∧ Below w.heap.size w w' := by
  have hp : p < w.heap.size := World.block_lt_of_cell? w _ c1
  have HN1 := Lib.hid (fun W => now_any ep he W)
  have HN2 := Lib.hid (fun W => now_any me hm W)
  have HL := Lib.hid (fun d hd W => later_any me d hm hd W)
  have HT := Lib.hid (fun W => tick_any (laterE me (nowE ep)) (laterE_lt _ _) W)
  have hn1 := now_lt ep
  have hn2 := now_lt me
  clear hm he
  by_cases hlt : nowE ep < nowE me
  · have hc : comesE me ep = false := by unfold comesE; rw [decide_eq_false (by omega)]; rfl
    rw [hc]
    have q1 : wrap64 ((nowE ep : Int) - (nowE me : Int)) = (nowE ep : Int) - (nowE me : Int) := IntWalk.wrap64_in _ (by omega)
    have q2 : IntKind.i64.wrap ((nowE ep : Int) - (nowE me : Int)) = (nowE ep : Int) - (nowE me : Int) := IntWalk.i64_in _ (by omega)
    have d1 : decide (nowE ep < nowE me) = true := by rw [decide_eq_true_eq]; omega
    have d2 : (nowE ep : Int) - (nowE me : Int) < 0 := by omega
    generalize nowE ep = n at *
    generalize nowE me = k at *
    clear hn1 hn2 hlt hc
    go_enter Tryz.func46, Tryz.ntmps46
    go_upto_region 1 with fail
    go_cut [5] (fun s5 wx => s5 = .int .i64 ((n : Int) - (k : Int)) ∧ Below w.heap.size w wx)
    case first =>
      go_region_law (first
        | (refine stepC (by rfl) 63 #[.int .u64 (ep : Int)] (by go_simp) (HN1.out _) ?_; rintro e w1 ⟨rfl, hb1⟩; refine ⟨_, rfl, ?_⟩; have k1 : w1.cell? ⟨p, 1, none⟩ = some (.int .u64 (me : Int)) := (hb1.cell (p := ⟨p, 1, none⟩) hp).trans c1; have HB1 := Lib.hid hb1; clear hb1)
        | (refine stepC (by rfl) 63 #[.int .u64 (me : Int)] (by go_simp) (HN2.out _) ?_; rintro e w2 ⟨rfl, hb2⟩; refine ⟨_, rfl, ?_⟩; have HB2 := Lib.hid hb2; clear hb2)
        | fail)
      all_goals
        go_wp2_with fail
        go_meet
        case rel => exact ⟨by first | rfl | exact int_congr q2, ((bdrew (Below.refl w.heap.size w)).trans HB1.out).trans (HB2.out.mono HB1.out.size)⟩
    case rest =>
      obtain ⟨rfl, hb⟩ := hcut
      have HB := Lib.hid hb
      clear hb c1
      go_wp2_with fail
      go_ret
      exact ⟨rfl, HB.out⟩
  · obtain ⟨d, hd⟩ : ∃ d, d = nowE ep - nowE me := ⟨_, rfl⟩
    have q1 : wrap64 ((nowE ep : Int) - (nowE me : Int)) = (d : Int) := by
      rw [show (nowE ep : Int) - (nowE me : Int) = (d : Int) from by omega]
      exact IntWalk.wrap64_in _ (by omega)
    have q2 : IntKind.i64.wrap ((nowE ep : Int) - (nowE me : Int)) = (d : Int) := by
      rw [show (nowE ep : Int) - (nowE me : Int) = (d : Int) from by omega]
      exact IntWalk.i64_in _ (by omega)
    have d1 : decide ((d : Int) < 0) = false := by rw [decide_eq_false_iff_not]; omega
    have hl := later_is (m := me) (w := ep) (by omega)
    rw [← hd] at hl
    have HLR := Lib.hid (fun W => HL.out d (by omega) W)
    rw [hl] at HLR
    have hres : comesE me ep = ((ep : Int) == (laterE me (nowE ep) : Int) || (nowE ep : Int) == 16777215 && (ep : Int) == (tickE (laterE me (nowE ep)) : Int)) := by
      unfold comesE
      rw [decide_eq_true (by omega), Bool.true_and, Bool.eq_iff_iff]
      simp only [Bool.or_eq_true, Bool.and_eq_true, beq_iff_eq]
      omega
    rw [hres]
    generalize laterE me (nowE ep) = is at *
    generalize tickE is = tk at *
    generalize nowE ep = n at *
    generalize nowE me = k at *
    clear hn1 hn2 hlt hl hd hres
    go_enter Tryz.func46, Tryz.ntmps46
    go_upto_region 1 with fail
    go_cut [5] (fun s5 wx => s5 = .int .i64 ((d : Int)) ∧ Below w.heap.size w wx)
    case first =>
      go_region_law (first
        | (refine stepC (by rfl) 63 #[.int .u64 (ep : Int)] (by go_simp) (HN1.out _) ?_; rintro e w1 ⟨rfl, hb1⟩; refine ⟨_, rfl, ?_⟩; have k1 : w1.cell? ⟨p, 1, none⟩ = some (.int .u64 (me : Int)) := (hb1.cell (p := ⟨p, 1, none⟩) hp).trans c1; have HB1 := Lib.hid hb1; clear hb1)
        | (refine stepC (by rfl) 63 #[.int .u64 (me : Int)] (by go_simp) (HN2.out _) ?_; rintro e w2 ⟨rfl, hb2⟩; refine ⟨_, rfl, ?_⟩; have HB2 := Lib.hid hb2; clear hb2)
        | fail)
      all_goals
        go_wp2_with fail
        go_meet
        case rel => exact ⟨by first | rfl | exact int_congr q2, ((bdrew (Below.refl w.heap.size w)).trans HB1.out).trans (HB2.out.mono HB1.out.size)⟩
    case rest =>
      obtain ⟨rfl, hb⟩ := hcut
      have c1' := (hb.cell (p := ⟨p, 1, none⟩) hp).trans c1
      have HB := Lib.hid hb
      clear hb c1
      cases h1 : (ep : Int) == (is : Int)
      · cases h2 : (n : Int) == 16777215
        · go_wp2_with fail
          refine (HLR.out _).mono ?_
          rintro e w3 ⟨rfl, hb3⟩
          have HB3 := Lib.hid (HB.out.trans (hb3.mono HB.out.size))
          clear hb3
          go_wp2_with fail
          refine (HN1.out _).mono ?_
          rintro e w4 ⟨rfl, hb4⟩
          have HB4 := Lib.hid (HB3.out.trans (hb4.mono HB3.out.size))
          clear hb4
          go_wp2_with fail
          go_ret
          exact ⟨(by rw [h1, h2]; rfl), HB4.out⟩
        · go_wp2_with fail
          refine (HLR.out _).mono ?_
          rintro e w3 ⟨rfl, hb3⟩
          have HB3 := Lib.hid (HB.out.trans (hb3.mono HB.out.size))
          clear hb3
          go_wp2_with fail
          refine (HN1.out _).mono ?_
          rintro e w4 ⟨rfl, hb4⟩
          have HB4 := Lib.hid (HB3.out.trans (hb4.mono HB3.out.size))
          clear hb4
          go_wp2_with fail
          refine (HT.out _).mono ?_
          rintro e w5 ⟨rfl, hb5⟩
          have HB5 := Lib.hid (HB4.out.trans (hb5.mono HB4.out.size))
          clear hb5
          go_wp2_with fail
          go_ret
          exact ⟨(by rw [h1, h2]; rfl), HB5.out⟩
      · go_wp2_with fail
        refine (HLR.out _).mono ?_
        rintro e w3 ⟨rfl, hb3⟩
        have HB3 := Lib.hid (HB.out.trans (hb3.mono HB.out.size))
        clear hb3
        go_wp2_with fail
        go_ret
        exact ⟨(by rw [h1]; rfl), HB3.out⟩
set_option maxRecDepth 100000 in
theorem dies_any (ep : Nat) (x : Int) (he : ep < 18446744073709551616) (hx : -9223372036854775808 ≤ x ∧ x ≤ 9223372036854775807) (w : World) : Calls Tryz.prog 99 #[.int .u64 (ep : Int), .int .i64 x] w fun e w' => e = .returned (.int .i64 (diesE ep x)) ∧ Below w.heap.size w w' := by
  have HS := Lib.hid (said_any ep he w)
  have hf := fld_ep0 (nowE ep) (atE ep) (genE ep)
  have hn := now_lt ep
  unfold diesE
  by_cases h0 : x = 0
  · have d0 : (x == 0) = true := by rw [h0]; rfl
    rw [if_pos h0]
    clear h0 he hx hn
    go_enter Tryz.func99, Tryz.ntmps99
    go_wp2_with fail
    refine HS.out.mono ?_
    rintro e w1 ⟨rfl, hb⟩
    go_wp2_with fail
    go_ret
    exact ⟨rfl, hb⟩
  · have d0 : (x == 0) = false := by rw [beq_eq_false_iff_ne]; exact h0
    rw [if_neg h0]
    by_cases h1 : x < 0
    · rw [if_pos h1]
      clear h0 he hx hn
      go_enter Tryz.func99, Tryz.ntmps99
      go_wp2_with fail
      refine HS.out.mono ?_
      rintro e w1 ⟨rfl, hb⟩
      go_wp2_with fail
      go_ret
      exact ⟨rfl, hb⟩
    · rw [if_neg h1]
      have h1' : 0 ≤ x := by omega
      by_cases h2 : x ≤ 2592000
      · rw [if_pos h2]
        have q : wrap64 ((nowE ep : Int) + x) = (nowE ep : Int) + x := IntWalk.wrap64_in _ (by omega)
        clear h0 he hx hn h1
        go_enter Tryz.func99, Tryz.ntmps99
        go_wp2_with fail
        refine HS.out.mono ?_
        rintro e w1 ⟨rfl, hb⟩
        go_wp2_with fail
        go_ret
        exact ⟨ret_congr (int_congr q), hb⟩
      · rw [if_neg h2]
        have h2' : 2592000 < x := by omega
        clear h0 he hx hn h1 h2
        go_enter Tryz.func99, Tryz.ntmps99
        go_wp2_with fail
        refine HS.out.mono ?_
        rintro e w1 ⟨rfl, hb⟩
        go_wp2_with fail
        go_ret
        exact ⟨rfl, hb⟩
end Go.Proofs.YtaooangnnlopcaaGreatDoor
namespace Go.Proofs.YtaooangnnlopcaaGreatDoor
open Go.RowKit

set_option maxRecDepth 100000 in
set_option maxHeartbeats 4000000 in
theorem flushEp_any (ep : Nat) (x : Int) (he : ep < 18446744073709551616) (w : World) : Calls Tryz.prog 102 #[.int .u64 (ep : Int), .int .i64 x] w fun e w' => e = .returned (.tuple #[.int .u64 ((flushE ep x).1 : Int), .bool (flushE ep x).2]) ∧ Below w.heap.size w w' := by
  have HS := Lib.hid (said_any ep he w)
  have hn := now_lt ep
  have ha := at_lt ep
  have hg := gen_lt he
  clear he
  unfold flushE
  generalize nowE ep = n at *
  generalize atE ep = a at *
  generalize genE ep = g at *
  by_cases h0 : g = 65535
  · rw [if_pos h0]
    have d0 : ((g : Int) == 65535) = true := by rw [beq_iff_eq]; omega
    clear h0 hn ha hg
    go_enter Tryz.func102, Tryz.ntmps102
    go_wp2_with fail
    refine HS.out.mono ?_
    rintro e w1 ⟨rfl, hb⟩
    have HB := Lib.hid hb
    clear hb
    go_wp2_with fail
    go_ret2
    exact ⟨rfl, HB.out.alloc HB.out.size _⟩
  · rw [if_neg h0]
    have d0 : ((g : Int) == 65535) = false := by rw [beq_eq_false_iff_ne]; omega
    by_cases h1 : 0 < x
    · rw [if_pos h1]
      obtain ⟨k, hk⟩ : ∃ k : Nat, k = (min x (16777215 - (n : Int))).toNat := ⟨_, rfl⟩
      rw [← hk]
      have m1 : min x (16777215 - (n : Int)) = (k : Int) := by omega
      have q0 : wrap64 (16777215 - (n : Int)) = 16777215 - (n : Int) := IntWalk.wrap64_in _ (by omega)
      have q1 : wrap64 ((n : Int) + (k : Int)) = (n : Int) + (k : Int) := IntWalk.wrap64_in _ (by omega)
      have hw := fun W => word_any n (n + k) g (by omega) (by omega) (by omega) W
      rw [show ((n + k : Nat) : Int) = (n : Int) + (k : Int) from by omega] at hw
      generalize n + k = nk at *
      have HW := Lib.hid hw
      clear hw
      clear h0 hn ha hg hk
      go_enter Tryz.func102, Tryz.ntmps102
      go_wp2_with fail
      refine HS.out.mono ?_
      rintro e w1 ⟨rfl, hb⟩
      have HB := Lib.hid hb
      clear hb
      go_wp2_with fail
      refine (HW.out _).mono ?_
      rintro e w2 ⟨rfl, hb2⟩
      have HB2 := Lib.hid hb2
      clear hb2
      go_wp2_with fail
      go_ret2
      exact ⟨rfl, (HB.out.alloc HB.out.size _).trans (HB2.out.mono (by have := HB.out.size; simp; omega))⟩
    · rw [if_neg h1]
      have h1' : x ≤ 0 := by omega
      have q1 : wrap64 ((g : Int) + 1) = (g : Int) + 1 := IntWalk.wrap64_in _ (by omega)
      have hw := fun W => word_any n 0 (g + 1) (by omega) (by omega) (by omega) W
      rw [show ((g + 1 : Nat) : Int) = (g : Int) + 1 from by omega] at hw
      generalize g + 1 = g1 at *
      have HW := Lib.hid hw
      clear hw
      clear h0 hn ha hg h1
      go_enter Tryz.func102, Tryz.ntmps102
      go_wp2_with fail
      refine HS.out.mono ?_
      rintro e w1 ⟨rfl, hb⟩
      have HB := Lib.hid hb
      clear hb
      go_wp2_with fail
      refine (HW.out _).mono ?_
      rintro e w2 ⟨rfl, hb2⟩
      have HB2 := Lib.hid hb2
      clear hb2
      go_wp2_with fail
      go_ret2
      exact ⟨rfl, (HB.out.alloc HB.out.size _).trans (HB2.out.mono (by have := HB.out.size; simp; omega))⟩
/-- An item asked of, in an epoch. -/
abbrev askedE (n a g : Nat) (x : ItemD) : Value := .agg #[.int .i64 (n : Int), .int .i64 (a : Int), .int .i64 (g : Int), .string x.key, .string x.value, .int .u32 x.flags, .int .u64 x.id, .int .i64 x.dies, .int .i64 x.gen]
set_option maxRecDepth 100000 in
theorem expired_any (n a g : Nat) (x : ItemD) (w : World) : Calls Tryz.prog 82 #[askedE n a g x] w fun e w' => e = .returned (.bool (x.dies != -1 && decide (x.dies ≤ (n : Int)))) ∧ Below w.heap.size w w' := by
  cases h1 : x.dies != -1
  · go_enter Tryz.func82, Tryz.ntmps82
    go_wp2_with fail
    go_ret
    exact ⟨rfl, (Below.refl _ _).alloc (Nat.le_refl _) _⟩
  · go_enter Tryz.func82, Tryz.ntmps82
    go_wp2_with fail
    go_ret
    exact ⟨rfl, (Below.refl _ _).alloc (Nat.le_refl _) _⟩
theorem flushed_any (n a g : Nat) (x : ItemD) (w : World) : Calls Tryz.prog 83 #[askedE n a g x] w fun e w' => e = .returned (.bool (x.gen != (g : Int))) ∧ Below w.heap.size w w' := by
  go_enter Tryz.func83, Tryz.ntmps83
  go_wp2_with fail
  go_ret
  exact ⟨rfl, (Below.refl _ _).alloc (Nat.le_refl _) _⟩
theorem cells_at {w : World} {p : Nat} {cs : Array Value} {t : TypeId} (h : w.heap[p]? = some (.cells cs t (0, 0))) (j : Nat) : w.cell? ⟨p, j, none⟩ = cs[j]? ∧ w.frozen? ⟨p, j, none⟩ = false := by
  constructor
  · simp [World.cell?, h]
  · simp [World.frozen?, h]
theorem box_drew {w w1 : World} {o : Obj} (hb : Below (w.alloc o).drew.heap.size (w.alloc o).drew w1) : w1.heap[w.heap.size]? = some o := by
  have h1 := hb.block w.heap.size (show w.heap.size < (w.alloc o).heap.size by rw [size_at]; omega)
  refine h1.trans ?_
  show (w.alloc o).heap[w.heap.size]? = _
  rw [heap_at, if_pos rfl]
theorem box_drew2 {w w1 : World} {o o2 : Obj} (hb : Below ((w.alloc o).drew.alloc o2).heap.size ((w.alloc o).drew.alloc o2) w1) : w1.heap[w.heap.size]? = some o ∧ w1.heap[w.heap.size + 1]? = some o2 := by
  constructor
  · have h1 := hb.block w.heap.size (show w.heap.size < ((w.alloc o).alloc o2).heap.size by rw [size_at, size_at]; omega)
    refine h1.trans ?_
    show ((w.alloc o).alloc o2).heap[w.heap.size]? = _
    rw [heap_at, if_neg (by rw [size_at]; omega), heap_at, if_pos rfl]
  · have h1 := hb.block (w.heap.size + 1) (show w.heap.size + 1 < ((w.alloc o).alloc o2).heap.size by rw [size_at, size_at]; omega)
    refine h1.trans ?_
    show ((w.alloc o).alloc o2).heap[w.heap.size + 1]? = _
    rw [heap_at, if_pos (by rw [size_at])]
theorem fill9 {w : World} {g : Nat} {t : TypeId} {fr : Nat × Nat} {x0 x1 x2 x3 x4 x5 x6 x7 x8 : Value} (h : w.heap[g]? = some (.cells #[x0, x1, x2, x3, x4, x5, x6, x7, x8] t fr)) (v0 v1 v2 v3 v4 v5 v6 v7 v8 : Value) :
    (((((((((w.setCell ⟨g, 0, none⟩ v0).setCell ⟨g, 1, none⟩ v1).setCell ⟨g, 2, none⟩ v2).setCell ⟨g, 3, none⟩ v3).setCell ⟨g, 4, none⟩ v4).setCell ⟨g, 5, none⟩ v5).setCell ⟨g, 6, none⟩ v6).setCell ⟨g, 7, none⟩ v7).setCell ⟨g, 8, none⟩ v8).heap[g]? = some (.cells #[v0, v1, v2, v3, v4, v5, v6, v7, v8] t fr) := by
  have h0 := Go.Joins.block_setCell (i := 0) h v0
  have h1 := Go.Joins.block_setCell (i := 1) h0 v1
  have h2 := Go.Joins.block_setCell (i := 2) h1 v2
  have h3 := Go.Joins.block_setCell (i := 3) h2 v3
  have h4 := Go.Joins.block_setCell (i := 4) h3 v4
  have h5 := Go.Joins.block_setCell (i := 5) h4 v5
  have h6 := Go.Joins.block_setCell (i := 6) h5 v6
  have h7 := Go.Joins.block_setCell (i := 7) h6 v7
  have h8 := Go.Joins.block_setCell (i := 8) h7 v8
  simpa using h8
theorem below9 {B : Nat} {w0 w : World} {g : Nat} (hb : Below B w0 w) (hg : B ≤ g) (v0 v1 v2 v3 v4 v5 v6 v7 v8 : Value) :
    Below B w0 (((((((((w.setCell ⟨g, 0, none⟩ v0).setCell ⟨g, 1, none⟩ v1).setCell ⟨g, 2, none⟩ v2).setCell ⟨g, 3, none⟩ v3).setCell ⟨g, 4, none⟩ v4).setCell ⟨g, 5, none⟩ v5).setCell ⟨g, 6, none⟩ v6).setCell ⟨g, 7, none⟩ v7).setCell ⟨g, 8, none⟩ v8) :=
  (Below.setCell (Below.setCell (Below.setCell (Below.setCell (Below.setCell (Below.setCell (Below.setCell (Below.setCell (Below.setCell hb hg v0) hg v1) hg v2) hg v3) hg v4) hg v5) hg v6) hg v7) hg v8)
theorem alive_parts (x : ItemD) (ep : Nat) : aliveE x ep = (!(x.dies != -1 && decide (x.dies ≤ (nowE ep : Int))) && !(x.gen != (genE ep : Int))) := by
  unfold aliveE
  rw [Bool.eq_iff_iff]
  simp only [Bool.and_eq_true, Bool.or_eq_true, Bool.not_eq_true', bne_eq_false_iff_eq, beq_iff_eq, decide_eq_true_eq, Bool.and_eq_false_iff, decide_eq_false_iff_not]
  omega
set_option maxRecDepth 100000 in
set_option maxHeartbeats 4000000 in
theorem alive_any (x : ItemD) (ep : Nat) (he : ep < 18446744073709551616) (w : World) : Calls Tryz.prog 49 #[x.val, .int .u64 (ep : Int)] w fun e w' => e = .returned (.bool (aliveE x ep)) ∧ Below w.heap.size w w' := by
  have HS := Lib.hid (fun W => said_any ep he W)
  clear he
  rw [alive_parts]
  generalize nowE ep = n at *
  generalize atE ep = a at *
  generalize genE ep = g at *
  have HX := Lib.hid (fun W => expired_any n a g x W)
  have HF := Lib.hid (fun W => flushed_any n a g x W)
  go_enter Tryz.func49, Tryz.ntmps49
  go_upto_region 1 with fail
  go_cut [5] (fun s5 wx => ∃ q, s5 = .pointer (some ⟨q, 0, none⟩) ∧ wx.heap[q]? = some (.cells #[.int .i64 (n : Int), .int .i64 (a : Int), .int .i64 (g : Int), .string x.key, .string x.value, .int .u32 x.flags, .int .u64 x.id, .int .i64 x.dies, .int .i64 x.gen] 145 (0, 0)) ∧ Below w.heap.size w wx)
  case first =>
    go_region_law (first
      | (refine stepC (by rfl) 81 #[.int .u64 (ep : Int)] (by go_simp) (HS.out _) ?_; rintro e w1 ⟨rfl, hb1⟩; refine ⟨_, rfl, ?_⟩; have hbx := box_drew hb1; have hlt := (Array.getElem?_eq_some_iff.1 hbx).1; have y0 : w1.cell? ⟨w.heap.size, 0, none⟩ = some (.string x.key) := (cells_at hbx 0).1; have y1 : w1.cell? ⟨w.heap.size, 1, none⟩ = some (.string x.value) := (cells_at hbx 1).1; have y2 : w1.cell? ⟨w.heap.size, 2, none⟩ = some (.int .u32 x.flags) := (cells_at hbx 2).1; have y3 : w1.cell? ⟨w.heap.size, 3, none⟩ = some (.int .u64 x.id) := (cells_at hbx 3).1; have y4 : w1.cell? ⟨w.heap.size, 4, none⟩ = some (.int .i64 x.dies) := (cells_at hbx 4).1; have y5 : w1.cell? ⟨w.heap.size, 5, none⟩ = some (.int .i64 x.gen) := (cells_at hbx 5).1; have HB2 := Lib.hid ((bdrew ((Below.refl w.heap.size w).alloc (Nat.le_refl _) _)).trans (hb1.mono (by show w.heap.size ≤ (w.alloc _).heap.size; rw [size_at]; omega))); clear hb1 hbx)
      | (refine stepC (by rfl) 81 #[.int .u64 (ep : Int)] (by go_simp) (HS.out _) ?_; rintro e w1 ⟨rfl, hb1⟩; refine ⟨_, rfl, ?_⟩; obtain ⟨hbx, hby⟩ := box_drew2 hb1; have hlt := (Array.getElem?_eq_some_iff.1 hby).1; have x0 : w1.cell? ⟨w.heap.size + 1, 0, none⟩ = some (.int .i64 0) := (cells_at hby 0).1; have f0 := (cells_at hby 0).2; have x1 : w1.cell? ⟨w.heap.size + 1, 1, none⟩ = some (.int .i64 0) := (cells_at hby 1).1; have f1 := (cells_at hby 1).2; have x2 : w1.cell? ⟨w.heap.size + 1, 2, none⟩ = some (.int .i64 0) := (cells_at hby 2).1; have f2 := (cells_at hby 2).2; have x3 : w1.cell? ⟨w.heap.size + 1, 3, none⟩ = some (.string ⟨#[]⟩) := (cells_at hby 3).1; have f3 := (cells_at hby 3).2; have x4 : w1.cell? ⟨w.heap.size + 1, 4, none⟩ = some (.string ⟨#[]⟩) := (cells_at hby 4).1; have f4 := (cells_at hby 4).2; have x5 : w1.cell? ⟨w.heap.size + 1, 5, none⟩ = some (.int .u32 0) := (cells_at hby 5).1; have f5 := (cells_at hby 5).2; have x6 : w1.cell? ⟨w.heap.size + 1, 6, none⟩ = some (.int .u64 0) := (cells_at hby 6).1; have f6 := (cells_at hby 6).2; have x7 : w1.cell? ⟨w.heap.size + 1, 7, none⟩ = some (.int .i64 0) := (cells_at hby 7).1; have f7 := (cells_at hby 7).2; have x8 : w1.cell? ⟨w.heap.size + 1, 8, none⟩ = some (.int .i64 0) := (cells_at hby 8).1; have f8 := (cells_at hby 8).2; have hlt0 := (Array.getElem?_eq_some_iff.1 hbx).1; have y0 : w1.cell? ⟨w.heap.size, 0, none⟩ = some (.string x.key) := (cells_at hbx 0).1; have y1 : w1.cell? ⟨w.heap.size, 1, none⟩ = some (.string x.value) := (cells_at hbx 1).1; have y2 : w1.cell? ⟨w.heap.size, 2, none⟩ = some (.int .u32 x.flags) := (cells_at hbx 2).1; have y3 : w1.cell? ⟨w.heap.size, 3, none⟩ = some (.int .u64 x.id) := (cells_at hbx 3).1; have y4 : w1.cell? ⟨w.heap.size, 4, none⟩ = some (.int .i64 x.dies) := (cells_at hbx 4).1; have y5 : w1.cell? ⟨w.heap.size, 5, none⟩ = some (.int .i64 x.gen) := (cells_at hbx 5).1; have HB2 := Lib.hid (((bdrew ((Below.refl w.heap.size w).alloc (Nat.le_refl _) _)).alloc (by show w.heap.size ≤ (w.alloc _).heap.size; rw [size_at]; omega) _).trans (hb1.mono (by show w.heap.size ≤ ((w.alloc _).alloc _).heap.size; rw [size_at, size_at]; omega))); have HBY := Lib.hid hby; clear hb1 hbx hby)
      | fail)
    all_goals
      go_wp2_with fail
      go_meet
    all_goals first
      | (case rel => exact ⟨_, rfl, fill9 HBY.out _ _ _ _ _ _ _ _ _, below9 HB2.out (Nat.le_succ _) _ _ _ _ _ _ _ _ _⟩)
      | (case rel => exact ⟨_, rfl, (by rw [heap_at, if_pos rfl]), Below.alloc HB2.out (Nat.le_of_lt hlt) _⟩)
  case rest =>
    obtain ⟨q, rfl, hbx, hb⟩ := hcut
    have hq : q < wc.heap.size := (Array.getElem?_eq_some_iff.1 hbx).1
    have z0 : wc.cell? ⟨q, 0, none⟩ = some (.int .i64 (n : Int)) := (cells_at hbx 0).1
    have z1 : wc.cell? ⟨q, 1, none⟩ = some (.int .i64 (a : Int)) := (cells_at hbx 1).1
    have z2 : wc.cell? ⟨q, 2, none⟩ = some (.int .i64 (g : Int)) := (cells_at hbx 2).1
    have z3 : wc.cell? ⟨q, 3, none⟩ = some (.string x.key) := (cells_at hbx 3).1
    have z4 : wc.cell? ⟨q, 4, none⟩ = some (.string x.value) := (cells_at hbx 4).1
    have z5 : wc.cell? ⟨q, 5, none⟩ = some (.int .u32 x.flags) := (cells_at hbx 5).1
    have z6 : wc.cell? ⟨q, 6, none⟩ = some (.int .u64 x.id) := (cells_at hbx 6).1
    have z7 : wc.cell? ⟨q, 7, none⟩ = some (.int .i64 x.dies) := (cells_at hbx 7).1
    have z8 : wc.cell? ⟨q, 8, none⟩ = some (.int .i64 x.gen) := (cells_at hbx 8).1
    have HB := Lib.hid hb
    clear hb hbx
    cases h1 : (x.dies != -1 && decide (x.dies ≤ (n : Int)))
    · go_wp2_with fail
      refine (HX.out _).mono ?_
      rintro e w3 ⟨rfl, hb3⟩
      rw [h1]
      have HB3 := Lib.hid (HB.out.trans (hb3.mono HB.out.size))
      obtain ⟨k3, -⟩ := bcell hb3
      clear hb3
      go_wp2_with fail
      refine (HF.out _).mono ?_
      rintro e w4 ⟨rfl, hb4⟩
      have HB4 := Lib.hid (HB3.out.trans (hb4.mono HB3.out.size))
      clear hb4
      go_wp2_with fail
      go_ret
      exact ⟨(by rw [h1]; rfl), HB4.out⟩
    · go_wp2_with fail
      refine (HX.out _).mono ?_
      rintro e w3 ⟨rfl, hb3⟩
      rw [h1]
      have HB3 := Lib.hid (HB.out.trans (hb3.mono HB.out.size))
      clear hb3
      go_wp2_with fail
      go_ret
      exact ⟨(by rw [h1]; rfl), HB3.out⟩
end Go.Proofs.YtaooangnnlopcaaGreatDoor
