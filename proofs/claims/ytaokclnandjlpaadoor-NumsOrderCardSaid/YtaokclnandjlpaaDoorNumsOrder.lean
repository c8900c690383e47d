/- The law NumsOrder answers true. Conditions: the library's table of the powers of ten lies as it lays it, its variable ErrRange holds an error. -/
import Derived.Test.YtaokclnandjlpaaDoorNumsLives
namespace Go.Proofs.YtaokclnandjlpaaDoor
open Go.RowKit

theorem less_is : ∀ (x y : List UInt8), Op.bytesLess x y = decide (x < y)
  | [], [] => by simp [Op.bytesLess]
  | _ :: _, [] => by simp [Op.bytesLess]
  | [], _ :: _ => by simp [Op.bytesLess]
  | a :: x, b :: y => by
    rw [Op.bytesLess, less_is x y, Bool.eq_iff_iff]
    simp [List.cons_lt_cons_iff]

set_option maxHeartbeats 2000000 in
set_option maxRecDepth 100000 in
theorem numsOrder_walk (a b : Int) (w : World) (ha : 0 ≤ a ∧ a ≤ 18446744073709551615) (hb : 0 ≤ b ∧ b ≤ 18446744073709551615) (hP : HasPow w) (hE : HasErr w) :
    Calls Tryd.prog 15 #[.int .u64 a, .int .u64 b] w fun e w' => e = .returned (.bool true) ∧ Below w.heap.size w w' := by
  have h1 := fun W hW => text_any a ha.1 (by omega) W hW
  have h2 := fun W hW => text_any b hb.1 (by omega) W hW
  have ho := dec_order a.toNat b.toNat
  have hi : (Lib.decDigits a.toNat = Lib.decDigits b.toNat) ↔ a = b := ⟨fun h => by have := dec_inj h; omega, fun h => by rw [h]⟩
  have hsa := dec_short a.toNat (by omega)
  have hsb := dec_short b.toNat (by omega)
  have hab : a.toNat < b.toNat ↔ a < b := by omega
  rw [hab] at ho
  generalize Lib.decDigits a.toNat = S at *
  generalize Lib.decDigits b.toNat = T at *
  have H1 := Lib.hid h1
  have H2 := Lib.hid h2
  have hst : (S == T) = (a == b) := by rw [Bool.eq_iff_iff, beq_iff_eq, beq_iff_eq]; exact hi
  have HP := Lib.hid hP
  have HE := Lib.hid hE
  clear h1 h2 hP hE hi ha hb hab
  rcases Nat.lt_trichotomy S.length T.length with hlt | heq | hgt
  · have h3 : a < b := ho.1 (.inl hlt)
    clear ho
    go_enter Tryd.func15, Tryd.ntmps15
    go_wp2_with fail
    refine (H1.out _ HP.out).mono ?_
    rintro e w1 ⟨rfl, hb1⟩
    go_wp2_with fail
    refine (H2.out _ (HP.out.below hb1)).mono ?_
    rintro e w2 ⟨rfl, hb2⟩
    have hB2 := hb1.trans (hb2.mono hb1.size)
    clear hb2
    go_wp2_with fail
    refine (lives04 _ (HE.out.below hB2)).mono ?_
    rintro e w3 ⟨rfl, hb3⟩
    go_wp2_with fail
    go_ret
    exact ⟨rfl, hB2.trans (hb3.mono hB2.size)⟩
  · have h3 : Op.bytesLess S T = decide (a < b) := by
      rw [less_is, Bool.eq_iff_iff, decide_eq_true_eq, decide_eq_true_eq]
      rw [← ho]
      exact ⟨fun h => .inr ⟨heq, h⟩, fun h => by
        rcases h with h | h
        · omega
        · exact h.2⟩
    have h4 : ((S.length : Int) == (T.length : Int)) = true := by rw [heq]; simp
    have h5 : (S.length == T.length) = true := by rw [heq]; simp
    have h6 : T.length ≤ S.length := by omega
    have h7 : decide (S.length < T.length) = false := by rw [decide_eq_false_iff_not]; omega
    clear ho heq
    go_enter Tryd.func15, Tryd.ntmps15
    go_wp2_with fail
    refine (H1.out _ HP.out).mono ?_
    rintro e w1 ⟨rfl, hb1⟩
    go_wp2_with fail
    refine (H2.out _ (HP.out.below hb1)).mono ?_
    rintro e w2 ⟨rfl, hb2⟩
    have hB2 := hb1.trans (hb2.mono hb1.size)
    clear hb2
    go_wp2_with fail
    refine (lives04 _ (HE.out.below hB2)).mono ?_
    rintro e w3 ⟨rfl, hb3⟩
    go_wp2_with fail
    go_ret
    exact ⟨rfl, hB2.trans (hb3.mono hB2.size)⟩
  · have h3 : ¬ a < b := fun h => by
      rcases ho.2 h with h | h
      · omega
      · omega
    have h4 : ((S.length : Int) == (T.length : Int)) = false := by rw [beq_eq_false_iff_ne]; omega
    have h5 : (S.length == T.length) = false := by rw [beq_eq_false_iff_ne]; omega
    have h7 : decide (S.length < T.length) = false := by rw [decide_eq_false_iff_not]; omega
    have h8 : decide (a < b) = false := by rw [decide_eq_false_iff_not]; exact h3
    clear ho
    go_enter Tryd.func15, Tryd.ntmps15
    go_wp2_with fail
    refine (H1.out _ HP.out).mono ?_
    rintro e w1 ⟨rfl, hb1⟩
    go_wp2_with fail
    refine (H2.out _ (HP.out.below hb1)).mono ?_
    rintro e w2 ⟨rfl, hb2⟩
    have hB2 := hb1.trans (hb2.mono hb1.size)
    clear hb2
    go_wp2_with fail
    refine (lives04 _ (HE.out.below hB2)).mono ?_
    rintro e w3 ⟨rfl, hb3⟩
    go_wp2_with fail
    go_ret
    exact ⟨rfl, hB2.trans (hb3.mono hB2.size)⟩
end Go.Proofs.YtaokclnandjlpaaDoor
