/- What the package epochs answers. No condition. What maps.comes, epochs.Flush, Dies and Alive answer. No condition. -/
import Derived.Test.YtfajddlijgpgoaaGreatDoorLowB
import Derived.Laws.Bits64
import Derived.Laws.BitsLemmas
import Derived.Deep.Light
import Derived.Lib.MinMax
import Derived.Test.YtfajddlijgpgoaaGreatDoorLowA
namespace Go.Proofs.YtfajddlijgpgoaaGreatDoor
open Go.RowKit

theorem bits_and_u64 (a b : Nat) (ha : a < 18446744073709551616) (hb : b < 18446744073709551616) : bits .and .u64 (a : Int) (b : Int) = ((a &&& b : Nat) : Int) := by
  have hx : a &&& b < 2 ^ 64 := Nat.and_lt_two_pow _ (by omega)
  have h1 : (BitVec.ofInt 64 (a : Int)).toNat = a := by rw [BitVec.ofInt_natCast, BitVec.toNat_ofNat]; omega
  have h2 : (BitVec.ofInt 64 (b : Int)).toNat = b := by rw [BitVec.ofInt_natCast, BitVec.toNat_ofNat]; omega
  show IntKind.u64.wrap ((BitVec.ofInt 64 (a : Int) &&& BitVec.ofInt 64 (b : Int)).toNat : Int) = _
  rw [BitVec.toNat_and, h1, h2, IntKind.wrap_u64]
  omega
theorem mask24 (a : Nat) : a &&& 16777215 = a % 16777216 := Nat.and_two_pow_sub_one_eq_mod a 24
theorem mask16 (a : Nat) : a &&& 65535 = a % 65536 := Nat.and_two_pow_sub_one_eq_mod a 16
theorem and24 (a : Nat) (ha : a < 18446744073709551616) : bits .and .u64 (a : Int) 16777215 = ((a % 16777216 : Nat) : Int) := by
  have h := bits_and_u64 a 16777215 ha (by omega)
  rw [mask24] at h
  exact h
theorem and16 (a : Nat) (ha : a < 18446744073709551616) : bits .and .u64 (a : Int) 65535 = ((a % 65536 : Nat) : Int) := by
  have h := bits_and_u64 a 65535 ha (by omega)
  rw [mask16] at h
  exact h
theorem wrap64_nat (n : Nat) (h : n < 9223372036854775808) : wrap64 (n : Int) = (n : Int) := IntWalk.wrap64_in _ (by omega)
theorem said_any (ep : Nat) (h : ep < 18446744073709551616) (w : World) : Calls Tryz.prog 72 #[.int .u64 (ep : Int)] w fun e w' => e = .returned (.agg #[.int .i64 (nowE ep : Int), .int .i64 (atE ep : Int), .int .i64 (genE ep : Int)]) ∧ Below w.heap.size w w' := by
  have b0 : bits .and .u64 (ep : Int) 16777215 = (nowE ep : Int) := and24 ep h
  have b1 : bits .and .u64 ((ep : Int) / 16777216) 16777215 = (atE ep : Int) := and24 (ep / 16777216) (by omega)
  have b2 : bits .and .u64 ((ep : Int) / 281474976710656) 65535 = (genE ep : Int) := by
    rw [show ((ep : Int) / 281474976710656) = ((genE ep : Nat) : Int) from by unfold genE; omega, and16 _ (by unfold genE; omega), Nat.mod_eq_of_lt (gen_lt h)]
  have w0 := wrap64_nat (nowE ep) (by have := now_lt ep; omega)
  have w1 := wrap64_nat (atE ep) (by have := at_lt ep; omega)
  have w2 := wrap64_nat (genE ep) (by have := gen_lt h; omega)
  go_enter Tryz.func72, Tryz.ntmps72
  go_wp2_with fail
  exact bodyPost_ret (v := .agg #[.int .i64 (nowE ep : Int), .int .i64 (atE ep : Int), .int .i64 (genE ep : Int)]) (by simp [results, Tryz.results72, go_sem]) rfl ⟨rfl, (Below.refl _ _).alloc (Nat.le_refl _) _⟩
theorem fld_ep0 (x y z : Int) (W : World) : (Instr.field 172 (.agg #[.int .i64 x, .int .i64 y, .int .i64 z]) 0).run Tryz.prog W = .ok (.int .i64 x) W := by kernel_rfl
theorem fld_ep2 (x y z : Int) (W : World) : (Instr.field 172 (.agg #[.int .i64 x, .int .i64 y, .int .i64 z]) 2).run Tryz.prog W = .ok (.int .i64 z) W := by kernel_rfl
set_option maxRecDepth 100000 in
theorem gen_any (ep : Nat) (h : ep < 18446744073709551616) (w : World) : Calls Tryz.prog 201 #[.int .u64 (ep : Int)] w fun e w' => e = .returned (.int .i64 (genE ep : Int)) ∧ Below w.heap.size w w' := by
  have HS := Lib.hid (said_any ep h w)
  clear h
  have hf := fld_ep2 (nowE ep) (atE ep) (genE ep)
  go_enter Tryz.func201, Tryz.ntmps201
  go_wp2_with fail
  refine HS.out.mono ?_
  rintro e w1 ⟨rfl, hb⟩
  go_wp2_with fail
  go_ret
  exact ⟨rfl, hb⟩

set_option maxRecDepth 100000 in
theorem dies_any (ep : Nat) (x : Int) (he : ep < 18446744073709551616) (hx : -9223372036854775808 ≤ x ∧ x ≤ 9223372036854775807) (w : World) : Calls Tryz.prog 182 #[.int .u64 (ep : Int), .int .i64 x] w fun e w' => e = .returned (.int .i64 (diesE ep x)) ∧ Below w.heap.size w w' := by
  have HS := Lib.hid (said_any ep he w)
  have hf := fld_ep0 (nowE ep) (atE ep) (genE ep)
  have hn := now_lt ep
  unfold diesE
  by_cases h0 : x = 0
  · have d0 : (x == 0) = true := by rw [h0]; rfl
    rw [if_pos h0]
    clear h0 he hx hn
    go_enter Tryz.func182, Tryz.ntmps182
    go_wp2_with fail
    refine HS.out.mono ?_
    rintro e w1 ⟨rfl, hb⟩
    go_wp2_with fail
    go_ret
    exact ⟨rfl, hb⟩
  · have d0 : (x == 0) = false := by rw [beq_eq_false_iff_ne]; exact h0
    rw [if_neg h0]
    by_cases h1 : x < 0
    · rw [if_pos h1]
      clear h0 he hx hn
      go_enter Tryz.func182, Tryz.ntmps182
      go_wp2_with fail
      refine HS.out.mono ?_
      rintro e w1 ⟨rfl, hb⟩
      go_wp2_with fail
      go_ret
      exact ⟨rfl, hb⟩
    · rw [if_neg h1]
      have h1' : 0 ≤ x := by omega
      by_cases h2 : x ≤ 2592000
      · rw [if_pos h2]
        have q : wrap64 ((nowE ep : Int) + x) = (nowE ep : Int) + x := IntWalk.wrap64_in _ (by omega)
        clear h0 he hx hn h1
        go_enter Tryz.func182, Tryz.ntmps182
        go_wp2_with fail
        refine HS.out.mono ?_
        rintro e w1 ⟨rfl, hb⟩
        go_wp2_with fail
        go_ret
        exact ⟨ret_congr (int_congr q), hb⟩
      · rw [if_neg h2]
        have h2' : 2592000 < x := by omega
        clear h0 he hx hn h1 h2
        go_enter Tryz.func182, Tryz.ntmps182
        go_wp2_with fail
        refine HS.out.mono ?_
        rintro e w1 ⟨rfl, hb⟩
        go_wp2_with fail
        go_ret
        exact ⟨rfl, hb⟩
end Go.Proofs.YtfajddlijgpgoaaGreatDoor
