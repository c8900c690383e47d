/- What the package epochs answers. No condition. And what goes with it (2 texts). -/
import Derived.Test.YtnkkoicbnbjlnaaGreatDoorLowB
import Derived.Laws.Bits64
import Derived.Laws.BitsLemmas
import Derived.Deep.Light
import Derived.Lib.MinMax
import Derived.Test.YtnkkoicbnbjlnaaGreatDoorLowA
namespace Go.Proofs.YtnkkoicbnbjlnaaGreatDoor
set_option maxRecDepth 100000
set_option maxHeartbeats 8000000
open Go.RowKit
theorem bits_and_u64 (a b : Nat) (ha : a < 18446744073709551616) (hb : b < 18446744073709551616) : bits .and .u64 (a : Int) (b : Int) = ((a &&& b : Nat) : Int) := by
 have hx : a &&& b < 2 ^ 64 := Nat.and_lt_two_pow _ (by omega)
 have h1 : (BitVec.ofInt 64 (a : Int)).toNat = a := by rw [BitVec.ofInt_natCast, BitVec.toNat_ofNat]; omega
 have h2 : (BitVec.ofInt 64 (b : Int)).toNat = b := by rw [BitVec.ofInt_natCast, BitVec.toNat_ofNat]; omega
 show IntKind.u64.wrap ((BitVec.ofInt 64 (a : Int) &&& BitVec.ofInt 64 (b : Int)).toNat : Int) = _
 rw [BitVec.toNat_and, h1, h2, IntKind.wrap_u64]
 omega
theorem bits_or_u64 (a b : Nat) (ha : a < 18446744073709551616) (hb : b < 18446744073709551616) : bits .or .u64 (a : Int) (b : Int) = ((a ||| b : Nat) : Int) := by
 have hx : a ||| b < 2 ^ 64 := Nat.or_lt_two_pow (by omega) (by omega)
 have h1 : (BitVec.ofInt 64 (a : Int)).toNat = a := by rw [BitVec.ofInt_natCast, BitVec.toNat_ofNat]; omega
 have h2 : (BitVec.ofInt 64 (b : Int)).toNat = b := by rw [BitVec.ofInt_natCast, BitVec.toNat_ofNat]; omega
 show IntKind.u64.wrap ((BitVec.ofInt 64 (a : Int) ||| BitVec.ofInt 64 (b : Int)).toNat : Int) = _
 rw [BitVec.toNat_or, h1, h2, IntKind.wrap_u64]
 omega
theorem mask24 (a : Nat) : a &&& 16777215 = a % 16777216 := Nat.and_two_pow_sub_one_eq_mod a 24
theorem mask16 (a : Nat) : a &&& 65535 = a % 65536 := Nat.and_two_pow_sub_one_eq_mod a 16
theorem and24 (a : Nat) (ha : a < 18446744073709551616) : bits .and .u64 (a : Int) 16777215 = ((a % 16777216 : Nat) : Int) := by
 have h := bits_and_u64 a 16777215 ha (by omega)
 rw [mask24] at h
 exact h
theorem and16 (a : Nat) (ha : a < 18446744073709551616) : bits .and .u64 (a : Int) 65535 = ((a % 65536 : Nat) : Int) := by
 have h := bits_and_u64 a 65535 ha (by omega)
 rw [mask16] at h
 exact h
theorem or_parts (n a g : Nat) (hn : n < 16777216) (ha : a < 16777216) (hg : g < 65536) :
  bits .or .u64 (bits .or .u64 (n : Int) ((a : Int) * 16777216)) ((g : Int) * 281474976710656) = ((g * 281474976710656 + a * 16777216 + n : Nat) : Int) := by
 have h1 : n ||| a * 16777216 = a * 16777216 + n := by
  have := Nat.shiftLeft_add_eq_or_of_lt (i := 24) hn a
  rw [Nat.shiftLeft_eq] at this
  rw [Nat.or_comm]
  exact this.symm
 have h2 : (a * 16777216 + n) ||| g * 281474976710656 = g * 281474976710656 + (a * 16777216 + n) := by
  have := Nat.shiftLeft_add_eq_or_of_lt (i := 48) (show a * 16777216 + n < 2 ^ 48 by omega) g
  rw [Nat.shiftLeft_eq] at this
  rw [Nat.or_comm]
  exact this.symm
 have e1 : ((a : Int) * 16777216) = ((a * 16777216 : Nat) : Int) := by omega
 have e2 : ((g : Int) * 281474976710656) = ((g * 281474976710656 : Nat) : Int) := by omega
 rw [e1, e2, bits_or_u64 _ _ (by omega) (by omega), h1, bits_or_u64 _ _ (by omega) (by omega), h2]
 omega
theorem wrap64_nat (n : Nat) (h : n < 9223372036854775808) : wrap64 (n : Int) = (n : Int) := IntWalk.wrap64_in _ (by omega)
theorem said_any (ep : Nat) (h : ep < 18446744073709551616) (w : World) : Calls Tryz.prog 112 #[.int .u64 (ep : Int)] w fun e w' => e = .returned (.agg #[.int .i64 (nowE ep : Int), .int .i64 (atE ep : Int), .int .i64 (genE ep : Int)]) ∧ Below w.heap.size w w' := by
 have b0 : bits .and .u64 (ep : Int) 16777215 = (nowE ep : Int) := and24 ep h
 have b1 : bits .and .u64 ((ep : Int) / 16777216) 16777215 = (atE ep : Int) := and24 (ep / 16777216) (by omega)
 have b2 : bits .and .u64 ((ep : Int) / 281474976710656) 65535 = (genE ep : Int) := by
  rw [show ((ep : Int) / 281474976710656) = ((genE ep : Nat) : Int) from by unfold genE; omega, and16 _ (by unfold genE; omega), Nat.mod_eq_of_lt (gen_lt h)]
 have w0 := wrap64_nat (nowE ep) (by have := now_lt ep; omega)
 have w1 := wrap64_nat (atE ep) (by have := at_lt ep; omega)
 have w2 := wrap64_nat (genE ep) (by have := gen_lt h; omega)
 go_enter Tryz.func112, Tryz.ntmps112
 go_wp2_with fail
 exact bodyPost_ret (v := .agg #[.int .i64 (nowE ep : Int), .int .i64 (atE ep : Int), .int .i64 (genE ep : Int)]) (by simp [results, Tryz.results112, go_sem]) rfl ⟨rfl, (Below.refl _ _).alloc (Nat.le_refl _) _⟩
theorem fld_ep0 (x y z : Int) (W : World) : (Instr.field 224 (.agg #[.int .i64 x, .int .i64 y, .int .i64 z]) 0).run Tryz.prog W = .ok (.int .i64 x) W := by kernel_rfl
theorem fld_ep2 (x y z : Int) (W : World) : (Instr.field 224 (.agg #[.int .i64 x, .int .i64 y, .int .i64 z]) 2).run Tryz.prog W = .ok (.int .i64 z) W := by kernel_rfl
theorem gen_any (ep : Nat) (h : ep < 18446744073709551616) (w : World) : Calls Tryz.prog 225 #[.int .u64 (ep : Int)] w fun e w' => e = .returned (.int .i64 (genE ep : Int)) ∧ Below w.heap.size w w' := by
 have HS := hidZ (said_any ep h w)
 clear h
 have hf := fld_ep2 (nowE ep) (atE ep) (genE ep)
 go_enter Tryz.func225, Tryz.ntmps225
 go_wp2_with fail
 refine HS.out.mono ?_
 rintro e w1 ⟨rfl, hb⟩
 go_wp2_with fail
 go_ret
 exact ⟨rfl, hb⟩
theorem epWord_any (n a g : Nat) (hn : n < 9223372036854775808) (ha : a < 9223372036854775808) (hg : g < 9223372036854775808) (w : World) :
  Calls Tryz.prog 113 #[.agg #[.int .i64 (n : Int), .int .i64 (a : Int), .int .i64 (g : Int)]] w fun e w' => e = .returned (.int .u64 (putE n a g : Int)) ∧ Below w.heap.size w w' := by
 have c0 : IntKind.u64.wrap (n : Int) = (n : Int) := by rw [IntKind.wrap_u64]; omega
 have c1 : IntKind.u64.wrap (a : Int) = (a : Int) := by rw [IntKind.wrap_u64]; omega
 have c2 : IntKind.u64.wrap (g : Int) = (g : Int) := by rw [IntKind.wrap_u64]; omega
 have b0 := and24 n (by omega)
 have b1 := and24 a (by omega)
 have b2 := and16 g (by omega)
 have hor := or_parts (n % 16777216) (a % 16777216) (g % 65536) (Nat.mod_lt _ (by omega)) (Nat.mod_lt _ (by omega)) (Nat.mod_lt _ (by omega))
 rw [show g % 65536 * 281474976710656 + a % 16777216 * 16777216 + n % 16777216 = putE n a g from by unfold putE; omega] at hor
 obtain ⟨n', hn'⟩ : ∃ n', n' = n % 16777216 := ⟨_, rfl⟩
 obtain ⟨a', ha'⟩ : ∃ a', a' = a % 16777216 := ⟨_, rfl⟩
 obtain ⟨g', hg'⟩ : ∃ g', g' = g % 65536 := ⟨_, rfl⟩
 rw [← hn', ← ha', ← hg'] at hor
 rw [← hn'] at b0
 rw [← ha'] at b1
 rw [← hg'] at b2
 have m1 : IntKind.u64.wrap ((a' : Int) * 16777216) = (a' : Int) * 16777216 := by rw [IntKind.wrap_u64]; omega
 have m2 : IntKind.u64.wrap ((g' : Int) * 281474976710656) = (g' : Int) * 281474976710656 := by rw [IntKind.wrap_u64]; omega
 have m0 : IntKind.u64.wrap (n' : Int) = (n' : Int) := by rw [IntKind.wrap_u64]; omega
 clear hn' ha' hg'
 go_enter Tryz.func113, Tryz.ntmps113
 go_wp2_with fail
 go_ret
 exact ⟨rfl, (Below.refl _ _).alloc (Nat.le_refl _) _⟩
theorem tick_any (ep : Nat) (h : ep < 18446744073709551616) (w : World) : Calls Tryz.prog 77 #[.int .u64 (ep : Int)] w fun e w' => e = .returned (.int .u64 (tickE ep : Int)) ∧ Below w.heap.size w w' := by
 have HS := hidZ (said_any ep h w)
 have hn := now_lt ep
 have ha := at_lt ep
 have hg := gen_lt h
 clear h
 unfold tickE
 generalize nowE ep = n at hn HS ⊢
 generalize atE ep = a at ha HS ⊢
 generalize genE ep = g at hg HS ⊢
 obtain ⟨n1, hn1⟩ := xE (min (n + 1) 16777215)
 obtain ⟨g1, hg1⟩ := xE (min (g + 1) 65535)
 rw [← hn1, ← hg1]
 have q1 : wrap64 ((n : Int) + 1) = (n : Int) + 1 := IntWalk.wrap64_in _ (by omega)
 have q2 : wrap64 ((g : Int) + 1) = (g : Int) + 1 := IntWalk.wrap64_in _ (by omega)
 have m1 : min ((n : Int) + 1) 16777215 = (n1 : Int) := by omega
 have m2 : min ((g : Int) + 1) 65535 = (g1 : Int) := by omega
 have hn2 : n1 ≤ 16777215 := by omega
 have hg2 : g1 ≤ 65535 := by omega
 clear hn1 hg1
 by_cases hc : 0 < a ∧ a ≤ n1
 ·rw [if_pos hc]
  have HW := hidZ (fun W => epWord_any n1 0 g1 (by omega) (by omega) (by omega) W)
  have d1 : decide (0 < a) = true := by rw [decide_eq_true_eq]; omega
  have d2 : decide (a ≤ n1) = true := by rw [decide_eq_true_eq]; omega
  clear hc hn ha hg hn2 hg2
  go_enter Tryz.func77, Tryz.ntmps77
  go_wp2_with fail
  refine HS.out.mono ?_
  rintro e w1 ⟨rfl, hb⟩
  have HB := hidZ hb
  clear hb
  go_wp2_with fail
  refine (HW.out _).mono ?_
  rintro e w2 ⟨rfl, hb2⟩
  have HB2 := hidZ hb2
  clear hb2
  go_wp2_with fail
  go_ret
  exact ⟨rfl, (HB.out.alloc HB.out.size _).trans (HB2.out.mono (by have := HB.out.size; simp; omega))⟩
 ·rw [if_neg hc]
  have HW := hidZ (fun W => epWord_any n1 a g (by omega) (by omega) (by omega) W)
  clear hn hg hn2 hg2
  by_cases h0 : 0 < a
  ·have d1 : decide (0 < a) = true := by rw [decide_eq_true_eq]; omega
   have d2 : decide (a ≤ n1) = false := by rw [decide_eq_false_iff_not]; omega
   clear hc ha h0
   go_enter Tryz.func77, Tryz.ntmps77
   go_wp2_with fail
   refine HS.out.mono ?_
   rintro e w1 ⟨rfl, hb⟩
   have HB := hidZ hb
   clear hb
   go_wp2_with fail
   refine (HW.out _).mono ?_
   rintro e w2 ⟨rfl, hb2⟩
   have HB2 := hidZ hb2
   clear hb2
   go_wp2_with fail
   go_ret
   exact ⟨rfl, (HB.out.alloc HB.out.size _).trans (HB2.out.mono (by have := HB.out.size; simp; omega))⟩
  ·have d1 : decide (0 < a) = false := by rw [decide_eq_false_iff_not]; omega
   clear hc ha h0
   go_enter Tryz.func77, Tryz.ntmps77
   go_wp2_with fail
   refine HS.out.mono ?_
   rintro e w1 ⟨rfl, hb⟩
   have HB := hidZ hb
   clear hb
   go_wp2_with fail
   refine (HW.out _).mono ?_
   rintro e w2 ⟨rfl, hb2⟩
   have HB2 := hidZ hb2
   clear hb2
   go_wp2_with fail
   go_ret
   exact ⟨rfl, (HB.out.alloc HB.out.size _).trans (HB2.out.mono (by have := HB.out.size; simp; omega))⟩
theorem dies_any (ep : Nat) (x : Int) (he : ep < 18446744073709551616) (hx : -9223372036854775808 ≤ x ∧ x ≤ 9223372036854775807) (w : World) : Calls Tryz.prog 208 #[.int .u64 (ep : Int), .int .i64 x] w fun e w' => e = .returned (.int .i64 (diesE ep x)) ∧ Below w.heap.size w w' := by
 have HS := hidZ (said_any ep he w)
 have hf := fld_ep0 (nowE ep) (atE ep) (genE ep)
 have hn := now_lt ep
 unfold diesE
 by_cases h0 : x = 0
 ·have d0 : (x == 0) = true := by rw [h0]; rfl
  rw [if_pos h0]
  clear h0 he hx hn
  go_enter Tryz.func208, Tryz.ntmps208
  go_wp2_with fail
  refine HS.out.mono ?_
  rintro e w1 ⟨rfl, hb⟩
  go_wp2_with fail
  go_ret
  exact ⟨rfl, hb⟩
 ·have d0 : (x == 0) = false := by rw [beq_eq_false_iff_ne]; exact h0
  rw [if_neg h0]
  by_cases h1 : x < 0
  ·rw [if_pos h1]
   clear h0 he hx hn
   go_enter Tryz.func208, Tryz.ntmps208
   go_wp2_with fail
   refine HS.out.mono ?_
   rintro e w1 ⟨rfl, hb⟩
   go_wp2_with fail
   go_ret
   exact ⟨rfl, hb⟩
  ·rw [if_neg h1]
   have h1' : 0 ≤ x := by omega
   by_cases h2 : x ≤ 2592000
   ·rw [if_pos h2]
    have q : wrap64 ((nowE ep : Int) + x) = (nowE ep : Int) + x := IntWalk.wrap64_in _ (by omega)
    clear h0 he hx hn h1
    go_enter Tryz.func208, Tryz.ntmps208
    go_wp2_with fail
    refine HS.out.mono ?_
    rintro e w1 ⟨rfl, hb⟩
    go_wp2_with fail
    go_ret
    exact ⟨ret_congr (int_congr q), hb⟩
   ·rw [if_neg h2]
    have h2' : 2592000 < x := by omega
    clear h0 he hx hn h1 h2
    go_enter Tryz.func208, Tryz.ntmps208
    go_wp2_with fail
    refine HS.out.mono ?_
    rintro e w1 ⟨rfl, hb⟩
    go_wp2_with fail
    go_ret
    exact ⟨rfl, hb⟩
end Go.Proofs.YtnkkoicbnbjlnaaGreatDoor
