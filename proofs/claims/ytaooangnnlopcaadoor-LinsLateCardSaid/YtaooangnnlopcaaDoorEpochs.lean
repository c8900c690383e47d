/- What the package epochs answers. No condition. -/
import Derived.Test.YtaooangnnlopcaaDoorMapSpec
import Derived.Laws.Bits64
import Derived.Laws.BitsLemmas
import Derived.Deep.Light
import Derived.Lib.MinMax
namespace Go.Proofs.YtaooangnnlopcaaDoor
open Go.RowKit

theorem bits_and_u64 (a b : Nat) (ha : a < 18446744073709551616) (hb : b < 18446744073709551616) : bits .and .u64 (a : Int) (b : Int) = ((a &&& b : Nat) : Int) := by
  have hx : a &&& b < 2 ^ 64 := Nat.and_lt_two_pow _ (by omega)
  have h1 : (BitVec.ofInt 64 (a : Int)).toNat = a := by rw [BitVec.ofInt_natCast, BitVec.toNat_ofNat]; omega
  have h2 : (BitVec.ofInt 64 (b : Int)).toNat = b := by rw [BitVec.ofInt_natCast, BitVec.toNat_ofNat]; omega
  show IntKind.u64.wrap ((BitVec.ofInt 64 (a : Int) &&& BitVec.ofInt 64 (b : Int)).toNat : Int) = _
  rw [BitVec.toNat_and, h1, h2, IntKind.wrap_u64]
  omega
theorem bits_or_u64 (a b : Nat) (ha : a < 18446744073709551616) (hb : b < 18446744073709551616) : bits .or .u64 (a : Int) (b : Int) = ((a ||| b : Nat) : Int) := by
  have hx : a ||| b < 2 ^ 64 := Nat.or_lt_two_pow (by omega) (by omega)
  have h1 : (BitVec.ofInt 64 (a : Int)).toNat = a := by rw [BitVec.ofInt_natCast, BitVec.toNat_ofNat]; omega
  have h2 : (BitVec.ofInt 64 (b : Int)).toNat = b := by rw [BitVec.ofInt_natCast, BitVec.toNat_ofNat]; omega
  show IntKind.u64.wrap ((BitVec.ofInt 64 (a : Int) ||| BitVec.ofInt 64 (b : Int)).toNat : Int) = _
  rw [BitVec.toNat_or, h1, h2, IntKind.wrap_u64]
  omega
theorem mask24 (a : Nat) : a &&& 16777215 = a % 16777216 := Nat.and_two_pow_sub_one_eq_mod a 24
theorem mask16 (a : Nat) : a &&& 65535 = a % 65536 := Nat.and_two_pow_sub_one_eq_mod a 16
theorem and24 (a : Nat) (ha : a < 18446744073709551616) : bits .and .u64 (a : Int) 16777215 = ((a % 16777216 : Nat) : Int) := by
  have h := bits_and_u64 a 16777215 ha (by omega)
  rw [mask24] at h
  exact h
theorem and16 (a : Nat) (ha : a < 18446744073709551616) : bits .and .u64 (a : Int) 65535 = ((a % 65536 : Nat) : Int) := by
  have h := bits_and_u64 a 65535 ha (by omega)
  rw [mask16] at h
  exact h
theorem or_parts (n a g : Nat) (hn : n < 16777216) (ha : a < 16777216) (hg : g < 65536) :
    bits .or .u64 (bits .or .u64 (n : Int) ((a : Int) * 16777216)) ((g : Int) * 281474976710656) = ((g * 281474976710656 + a * 16777216 + n : Nat) : Int) := by
  have h1 : n ||| a * 16777216 = a * 16777216 + n := by
    have := Nat.shiftLeft_add_eq_or_of_lt (i := 24) hn a
    rw [Nat.shiftLeft_eq] at this
    rw [Nat.or_comm]
    exact this.symm
  have h2 : (a * 16777216 + n) ||| g * 281474976710656 = g * 281474976710656 + (a * 16777216 + n) := by
    have := Nat.shiftLeft_add_eq_or_of_lt (i := 48) (show a * 16777216 + n < 2 ^ 48 by omega) g
    rw [Nat.shiftLeft_eq] at this
    rw [Nat.or_comm]
    exact this.symm
  have e1 : ((a : Int) * 16777216) = ((a * 16777216 : Nat) : Int) := by omega
  have e2 : ((g : Int) * 281474976710656) = ((g * 281474976710656 : Nat) : Int) := by omega
  rw [e1, e2, bits_or_u64 _ _ (by omega) (by omega), h1, bits_or_u64 _ _ (by omega) (by omega), h2]
  omega
theorem wrap64_nat (n : Nat) (h : n < 9223372036854775808) : wrap64 (n : Int) = (n : Int) := IntWalk.wrap64_in _ (by omega)
theorem said_any (ep : Nat) (h : ep < 18446744073709551616) (w : World) : Calls Tryd.prog 35 #[.int .u64 (ep : Int)] w fun e w' => e = .returned (.agg #[.int .i64 (nowE ep : Int), .int .i64 (atE ep : Int), .int .i64 (genE ep : Int)]) ∧ Below w.heap.size w w' := by
  have b0 : bits .and .u64 (ep : Int) 16777215 = (nowE ep : Int) := and24 ep h
  have b1 : bits .and .u64 ((ep : Int) / 16777216) 16777215 = (atE ep : Int) := and24 (ep / 16777216) (by omega)
  have b2 : bits .and .u64 ((ep : Int) / 281474976710656) 65535 = (genE ep : Int) := by
    rw [show ((ep : Int) / 281474976710656) = ((genE ep : Nat) : Int) from by unfold genE; omega, and16 _ (by unfold genE; omega), Nat.mod_eq_of_lt (gen_lt h)]
  have w0 := wrap64_nat (nowE ep) (by have := now_lt ep; omega)
  have w1 := wrap64_nat (atE ep) (by have := at_lt ep; omega)
  have w2 := wrap64_nat (genE ep) (by have := gen_lt h; omega)
  go_enter Tryd.func35, Tryd.ntmps35
  go_wp2_with fail
  exact bodyPost_ret (v := .agg #[.int .i64 (nowE ep : Int), .int .i64 (atE ep : Int), .int .i64 (genE ep : Int)]) (by simp [results, Tryd.results35, go_sem]) rfl ⟨rfl, (Below.refl _ _).alloc (Nat.le_refl _) _⟩
theorem fld_ep0 (x y z : Int) (W : World) : (Instr.field 90 (.agg #[.int .i64 x, .int .i64 y, .int .i64 z]) 0).run Tryd.prog W = .ok (.int .i64 x) W := by kernel_rfl
theorem fld_ep1 (x y z : Int) (W : World) : (Instr.field 90 (.agg #[.int .i64 x, .int .i64 y, .int .i64 z]) 1).run Tryd.prog W = .ok (.int .i64 y) W := by kernel_rfl
theorem fld_ep2 (x y z : Int) (W : World) : (Instr.field 90 (.agg #[.int .i64 x, .int .i64 y, .int .i64 z]) 2).run Tryd.prog W = .ok (.int .i64 z) W := by kernel_rfl
set_option maxRecDepth 100000 in
theorem now_any (ep : Nat) (h : ep < 18446744073709551616) (w : World) : Calls Tryd.prog 24 #[.int .u64 (ep : Int)] w fun e w' => e = .returned (.int .i64 (nowE ep : Int)) ∧ Below w.heap.size w w' := by
  have HS := Lib.hid (said_any ep h w)
  clear h
  have hf := fld_ep0 (nowE ep) (atE ep) (genE ep)
  go_enter Tryd.func24, Tryd.ntmps24
  go_wp2_with fail
  refine HS.out.mono ?_
  rintro e w1 ⟨rfl, hb⟩
  go_wp2_with fail
  go_ret
  exact ⟨rfl, hb⟩
set_option maxRecDepth 100000 in
theorem at_any (ep : Nat) (h : ep < 18446744073709551616) (w : World) : Calls Tryd.prog 85 #[.int .u64 (ep : Int)] w fun e w' => e = .returned (.int .i64 (atE ep : Int)) ∧ Below w.heap.size w w' := by
  have HS := Lib.hid (said_any ep h w)
  clear h
  have hf := fld_ep1 (nowE ep) (atE ep) (genE ep)
  go_enter Tryd.func85, Tryd.ntmps85
  go_wp2_with fail
  refine HS.out.mono ?_
  rintro e w1 ⟨rfl, hb⟩
  go_wp2_with fail
  go_ret
  exact ⟨rfl, hb⟩
set_option maxRecDepth 100000 in
theorem gen_any (ep : Nat) (h : ep < 18446744073709551616) (w : World) : Calls Tryd.prog 23 #[.int .u64 (ep : Int)] w fun e w' => e = .returned (.int .i64 (genE ep : Int)) ∧ Below w.heap.size w w' := by
  have HS := Lib.hid (said_any ep h w)
  clear h
  have hf := fld_ep2 (nowE ep) (atE ep) (genE ep)
  go_enter Tryd.func23, Tryd.ntmps23
  go_wp2_with fail
  refine HS.out.mono ?_
  rintro e w1 ⟨rfl, hb⟩
  go_wp2_with fail
  go_ret
  exact ⟨rfl, hb⟩
/-- A word put together. -/
theorem word_any (n a g : Nat) (hn : n < 9223372036854775808) (ha : a < 9223372036854775808) (hg : g < 9223372036854775808) (w : World) :
    Calls Tryd.prog 36 #[.agg #[.int .i64 (n : Int), .int .i64 (a : Int), .int .i64 (g : Int)]] w fun e w' => e = .returned (.int .u64 (putE n a g : Int)) ∧ Below w.heap.size w w' := by
  have c0 : IntKind.u64.wrap (n : Int) = (n : Int) := by rw [IntKind.wrap_u64]; omega
  have c1 : IntKind.u64.wrap (a : Int) = (a : Int) := by rw [IntKind.wrap_u64]; omega
  have c2 : IntKind.u64.wrap (g : Int) = (g : Int) := by rw [IntKind.wrap_u64]; omega
  have b0 := and24 n (by omega)
  have b1 := and24 a (by omega)
  have b2 := and16 g (by omega)
  have hor := or_parts (n % 16777216) (a % 16777216) (g % 65536) (Nat.mod_lt _ (by omega)) (Nat.mod_lt _ (by omega)) (Nat.mod_lt _ (by omega))
  rw [show g % 65536 * 281474976710656 + a % 16777216 * 16777216 + n % 16777216 = putE n a g from by unfold putE; omega] at hor
  obtain ⟨n', hn'⟩ : ∃ n', n' = n % 16777216 := ⟨_, rfl⟩
  obtain ⟨a', ha'⟩ : ∃ a', a' = a % 16777216 := ⟨_, rfl⟩
  obtain ⟨g', hg'⟩ : ∃ g', g' = g % 65536 := ⟨_, rfl⟩
  rw [← hn', ← ha', ← hg'] at hor
  rw [← hn'] at b0
  rw [← ha'] at b1
  rw [← hg'] at b2
  have m1 : IntKind.u64.wrap ((a' : Int) * 16777216) = (a' : Int) * 16777216 := by rw [IntKind.wrap_u64]; omega
  have m2 : IntKind.u64.wrap ((g' : Int) * 281474976710656) = (g' : Int) * 281474976710656 := by rw [IntKind.wrap_u64]; omega
  have m0 : IntKind.u64.wrap (n' : Int) = (n' : Int) := by rw [IntKind.wrap_u64]; omega
  clear hn' ha' hg'
  go_enter Tryd.func36, Tryd.ntmps36
  go_wp2_with fail
  go_ret
  exact ⟨rfl, (Below.refl _ _).alloc (Nat.le_refl _) _⟩
theorem put_any (n a g : Nat) (hn : n < 9223372036854775808) (ha : a < 9223372036854775808) (hg : g < 9223372036854775808) (w : World) :
    Calls Tryd.prog 34 #[.int .i64 (n : Int), .int .i64 (a : Int), .int .i64 (g : Int)] w fun e w' => e = .returned (.int .u64 (putE n a g : Int)) ∧ Below w.heap.size w w' := by
  have HW := Lib.hid (fun W => word_any n a g hn ha hg W)
  clear hn ha hg
  go_enter Tryd.func34, Tryd.ntmps34
  go_wp2_with fail
  refine (HW.out _).mono ?_
  rintro e w1 ⟨rfl, hb⟩
  go_wp2_with fail
  go_ret
  exact ⟨rfl, hb⟩
set_option maxRecDepth 100000 in
theorem tick_any (ep : Nat) (h : ep < 18446744073709551616) (w : World) : Calls Tryd.prog 14 #[.int .u64 (ep : Int)] w fun e w' => e = .returned (.int .u64 (tickE ep : Int)) ∧ Below w.heap.size w w' := by
  have HS := Lib.hid (said_any ep h w)
  have hn := now_lt ep
  have ha := at_lt ep
  have hg := gen_lt h
  clear h
  unfold tickE
  generalize nowE ep = n at hn HS ⊢
  generalize atE ep = a at ha HS ⊢
  generalize genE ep = g at hg HS ⊢
  obtain ⟨n1, hn1⟩ : ∃ n1, n1 = min (n + 1) 16777215 := ⟨_, rfl⟩
  obtain ⟨g1, hg1⟩ : ∃ g1, g1 = min (g + 1) 65535 := ⟨_, rfl⟩
  rw [← hn1, ← hg1]
  have q1 : wrap64 ((n : Int) + 1) = (n : Int) + 1 := IntWalk.wrap64_in _ (by omega)
  have q2 : wrap64 ((g : Int) + 1) = (g : Int) + 1 := IntWalk.wrap64_in _ (by omega)
  have m1 : min ((n : Int) + 1) 16777215 = (n1 : Int) := by omega
  have m2 : min ((g : Int) + 1) 65535 = (g1 : Int) := by omega
  have hn2 : n1 ≤ 16777215 := by omega
  have hg2 : g1 ≤ 65535 := by omega
  clear hn1 hg1
  by_cases hc : 0 < a ∧ a ≤ n1
  · rw [if_pos hc]
    have HW := Lib.hid (fun W => word_any n1 0 g1 (by omega) (by omega) (by omega) W)
    have d1 : decide (0 < a) = true := by rw [decide_eq_true_eq]; omega
    have d2 : decide (a ≤ n1) = true := by rw [decide_eq_true_eq]; omega
    clear hc hn ha hg hn2 hg2
    go_enter Tryd.func14, Tryd.ntmps14
    go_wp2_with fail
    refine HS.out.mono ?_
    rintro e w1 ⟨rfl, hb⟩
    have HB := Lib.hid hb
    clear hb
    go_wp2_with fail
    refine (HW.out _).mono ?_
    rintro e w2 ⟨rfl, hb2⟩
    have HB2 := Lib.hid hb2
    clear hb2
    go_wp2_with fail
    go_ret
    exact ⟨rfl, (HB.out.alloc HB.out.size _).trans (HB2.out.mono (by have := HB.out.size; simp; omega))⟩
  · rw [if_neg hc]
    have HW := Lib.hid (fun W => word_any n1 a g (by omega) (by omega) (by omega) W)
    clear hn hg hn2 hg2
    by_cases h0 : 0 < a
    · have d1 : decide (0 < a) = true := by rw [decide_eq_true_eq]; omega
      have d2 : decide (a ≤ n1) = false := by rw [decide_eq_false_iff_not]; omega
      clear hc ha h0
      go_enter Tryd.func14, Tryd.ntmps14
      go_wp2_with fail
      refine HS.out.mono ?_
      rintro e w1 ⟨rfl, hb⟩
      have HB := Lib.hid hb
      clear hb
      go_wp2_with fail
      refine (HW.out _).mono ?_
      rintro e w2 ⟨rfl, hb2⟩
      have HB2 := Lib.hid hb2
      clear hb2
      go_wp2_with fail
      go_ret
      exact ⟨rfl, (HB.out.alloc HB.out.size _).trans (HB2.out.mono (by have := HB.out.size; simp; omega))⟩
    · have d1 : decide (0 < a) = false := by rw [decide_eq_false_iff_not]; omega
      clear hc ha h0
      go_enter Tryd.func14, Tryd.ntmps14
      go_wp2_with fail
      refine HS.out.mono ?_
      rintro e w1 ⟨rfl, hb⟩
      have HB := Lib.hid hb
      clear hb
      go_wp2_with fail
      refine (HW.out _).mono ?_
      rintro e w2 ⟨rfl, hb2⟩
      have HB2 := Lib.hid hb2
      clear hb2
      go_wp2_with fail
      go_ret
      exact ⟨rfl, (HB.out.alloc HB.out.size _).trans (HB2.out.mono (by have := HB.out.size; simp; omega))⟩
def laterN (m d : Nat) : Nat := if 0 < d ∧ 0 < atE m ∧ atE m ≤ min (nowE m + d) 16777215 then putE (min (nowE m + d) 16777215) 0 (min (genE m + 1) 65535) else putE (min (nowE m + d) 16777215) (atE m) (genE m)
set_option maxRecDepth 100000 in
theorem later_any (ep d : Nat) (h : ep < 18446744073709551616) (hd : d < 4294967296) (w : World) : Calls Tryd.prog 58 #[.int .u64 (ep : Int), .int .i64 (d : Int)] w fun e w' => e = .returned (.int .u64 (laterN ep d : Int)) ∧ Below w.heap.size w w' := by
  have HN := Lib.hid (fun W => now_any ep h W)
  have HA := Lib.hid (fun W => at_any ep h W)
  have HG := Lib.hid (fun W => gen_any ep h W)
  have hn := now_lt ep
  have ha := at_lt ep
  have hg := gen_lt h
  clear h
  unfold laterN
  generalize nowE ep = n at hn HN ⊢
  generalize atE ep = a at ha HA ⊢
  generalize genE ep = g at hg HG ⊢
  obtain ⟨n1, hn1⟩ : ∃ n1, n1 = min (n + d) 16777215 := ⟨_, rfl⟩
  obtain ⟨g1, hg1⟩ : ∃ g1, g1 = min (g + 1) 65535 := ⟨_, rfl⟩
  rw [← hn1, ← hg1]
  have q1 : wrap64 ((n : Int) + (d : Int)) = (n : Int) + (d : Int) := IntWalk.wrap64_in _ (by omega)
  have q2 : wrap64 ((g : Int) + 1) = (g : Int) + 1 := IntWalk.wrap64_in _ (by omega)
  have m1 : min ((n : Int) + (d : Int)) 16777215 = (n1 : Int) := by omega
  have m2 : min ((g : Int) + 1) 65535 = (g1 : Int) := by omega
  have hn2 : n1 ≤ 16777215 := by omega
  have hg2 : g1 ≤ 65535 := by omega
  clear hn1 hg1 hd
  by_cases hc : 0 < d ∧ 0 < a ∧ a ≤ n1
  · rw [if_pos hc]
    have HW := Lib.hid (fun W => put_any n1 0 g1 (by omega) (by omega) (by omega) W)
    have d0 : decide (0 < d) = true := by rw [decide_eq_true_eq]; omega
    have d1 : decide (0 < a) = true := by rw [decide_eq_true_eq]; omega
    have d2 : decide (a ≤ n1) = true := by rw [decide_eq_true_eq]; omega
    clear hc hn ha hg hn2 hg2
    go_enter Tryd.func58, Tryd.ntmps58
    go_wp2_with fail
    refine (HN.out _).mono ?_
    rintro e w1 ⟨rfl, hb1⟩
    go_wp2_with fail
    refine (HA.out _).mono ?_
    rintro e w2 ⟨rfl, hb2⟩
    go_wp2_with fail
    refine (HG.out _).mono ?_
    rintro e w3 ⟨rfl, hb3⟩
    have HB3 := Lib.hid ((hb1.trans (hb2.mono hb1.size)).trans (hb3.mono (Nat.le_trans hb1.size hb2.size)))
    clear hb1 hb2 hb3
    go_wp2_with fail
    refine (HW.out _).mono ?_
    rintro e w4 ⟨rfl, hb4⟩
    have HB4 := Lib.hid (HB3.out.trans (hb4.mono HB3.out.size))
    clear hb4
    go_wp2_with fail
    go_ret
    exact ⟨rfl, HB4.out⟩
  · rw [if_neg hc]
    have HW := Lib.hid (fun W => put_any n1 a g (by omega) (by omega) (by omega) W)
    by_cases h0 : 0 < d
    · have d0 : decide (0 < d) = true := by rw [decide_eq_true_eq]; omega
      by_cases h1 : 0 < a
      · have d1 : decide (0 < a) = true := by rw [decide_eq_true_eq]; omega
        have d2 : decide (a ≤ n1) = false := by rw [decide_eq_false_iff_not]; omega
        clear hc hn ha hg hn2 hg2 h0 h1
        go_enter Tryd.func58, Tryd.ntmps58
        go_wp2_with fail
        refine (HN.out _).mono ?_
        rintro e w1 ⟨rfl, hb1⟩
        go_wp2_with fail
        refine (HA.out _).mono ?_
        rintro e w2 ⟨rfl, hb2⟩
        go_wp2_with fail
        refine (HG.out _).mono ?_
        rintro e w3 ⟨rfl, hb3⟩
        have HB3 := Lib.hid ((hb1.trans (hb2.mono hb1.size)).trans (hb3.mono (Nat.le_trans hb1.size hb2.size)))
        clear hb1 hb2 hb3
        go_wp2_with fail
        refine (HW.out _).mono ?_
        rintro e w4 ⟨rfl, hb4⟩
        have HB4 := Lib.hid (HB3.out.trans (hb4.mono HB3.out.size))
        clear hb4
        go_wp2_with fail
        go_ret
        exact ⟨rfl, HB4.out⟩
      · have d1 : decide (0 < a) = false := by rw [decide_eq_false_iff_not]; omega
        clear hc hn ha hg hn2 hg2 h0 h1
        go_enter Tryd.func58, Tryd.ntmps58
        go_wp2_with fail
        refine (HN.out _).mono ?_
        rintro e w1 ⟨rfl, hb1⟩
        go_wp2_with fail
        refine (HA.out _).mono ?_
        rintro e w2 ⟨rfl, hb2⟩
        go_wp2_with fail
        refine (HG.out _).mono ?_
        rintro e w3 ⟨rfl, hb3⟩
        have HB3 := Lib.hid ((hb1.trans (hb2.mono hb1.size)).trans (hb3.mono (Nat.le_trans hb1.size hb2.size)))
        clear hb1 hb2 hb3
        go_wp2_with fail
        refine (HW.out _).mono ?_
        rintro e w4 ⟨rfl, hb4⟩
        have HB4 := Lib.hid (HB3.out.trans (hb4.mono HB3.out.size))
        clear hb4
        go_wp2_with fail
        go_ret
        exact ⟨rfl, HB4.out⟩
    · have d0 : decide (0 < d) = false := by rw [decide_eq_false_iff_not]; omega
      clear hc hn ha hg hn2 hg2 h0
      go_enter Tryd.func58, Tryd.ntmps58
      go_wp2_with fail
      refine (HN.out _).mono ?_
      rintro e w1 ⟨rfl, hb1⟩
      go_wp2_with fail
      refine (HA.out _).mono ?_
      rintro e w2 ⟨rfl, hb2⟩
      go_wp2_with fail
      refine (HG.out _).mono ?_
      rintro e w3 ⟨rfl, hb3⟩
      have HB3 := Lib.hid ((hb1.trans (hb2.mono hb1.size)).trans (hb3.mono (Nat.le_trans hb1.size hb2.size)))
      clear hb1 hb2 hb3
      go_wp2_with fail
      refine (HW.out _).mono ?_
      rintro e w4 ⟨rfl, hb4⟩
      have HB4 := Lib.hid (HB3.out.trans (hb4.mono HB3.out.size))
      clear hb4
      go_wp2_with fail
      go_ret
      exact ⟨rfl, HB4.out⟩
end Go.Proofs.YtaooangnnlopcaaDoor
