/- The law KeysWords returns true at every line of at most 2^20 bytes. Condition beside: MaxLen holds a number. -/
import Derived.Test.YtaokclnandjlpaaDoorKeysLives
namespace Go.Proofs.YtaokclnandjlpaaDoor
open Go.RowKit

/-- The cells of a slice that may be written. -/
def Writable (w : World) (g o n : Nat) : Prop := ∀ j, j < n → (∃ x, w.cell? ⟨g, o + j, none⟩ = some x) ∧ w.frozen? ⟨g, o + j, none⟩ = false
theorem Writable.set {w : World} {g o n : Nat} (h : Writable w g o n) (k : Nat) (u : Value) : Writable (w.setCell ⟨g, o + k, none⟩ u) g o n := by
  intro j hj
  obtain ⟨⟨x, hx⟩, hf⟩ := h j hj
  refine ⟨?_, by rw [World.frozen?_setCell]; exact hf⟩
  by_cases e : j = k
  · subst e; exact ⟨u, World.cell?_setCell_same _ _ _ hx⟩
  · exact ⟨x, by rw [World.cell?_setCell_other _ _ _ _ (by simp)]; exact hx⟩

set_option maxRecDepth 100000 in
set_option maxHeartbeats 1000000 in
theorem keysWords_walk (s : ByteArray) (w : World) (hs : s.size ≤ 1048576) (hL : HasLen w) :
    Calls Tryd.prog 5 #[.string s] w fun e w' => e = .returned (.bool true) ∧ Below w.heap.size w w' := by
  have HL := Lib.hid hL
  clear hL
  go_enter Tryd.func5, Tryd.ntmps5
  go_wp2_with fail
  refine (refWords_any s _ hs).mono ?_
  rintro e w1 ⟨vw, rfl, hvw, hb1⟩
  have HL1 := Lib.hid (HL.out.below hb1)
  go_wp2_with fail
  refine (words_any s _ hs HL1.out).mono ?_
  rintro e w2 ⟨va, rfl, hva, hb2⟩
  have HL2 := Lib.hid (HL1.out.below hb2)
  have hvw2 := hvw.below hb2 (Nat.le_refl _)
  go_wp2_with fail
  refine (same_any hva hvw2).mono ?_
  rintro e w3 ⟨rfl, hb3⟩
  have HL3 := Lib.hid (HL2.out.below hb3)
  have hs2 := hb2.size
  have hs3 := hb3.size
  have hs1 := hb1.size
  have hva3 := hva.below hb3 (Nat.le_refl _)
  have hvw3 := hvw2.below hb3 (Nat.le_refl _)
  have hbw : Below w1.heap.size w1 w3 := hb2.trans (hb3.mono hs2)
  clear hva hvw2 hb2 hb3 HL1 HL2
  rw [beq_self_eq_true]
  obtain ⟨a, n, c, rfl, hn, hlt, hwr⟩ : ∃ a n c, va = .slice a n c ∧ n ≤ maxLen ∧ (∀ k, k < n → ∃ g o, a = some ⟨g, o, none⟩ ∧ w1.heap.size ≤ g) ∧ ∀ g o, a = some ⟨g, o, none⟩ → Writable w3 g o n := by
    have hm := hva3.max
    rcases hva3 with ⟨rfl, _⟩ | ⟨g, o, c, rfl, h1, h2, h3, h4⟩
    · exact ⟨none, 0, 0, rfl, by simp [maxLen], fun k hk => by omega, fun g o h => by cases h⟩
    · refine ⟨_, _, c, rfl, hm, fun k hk => ⟨g, o, rfl, h1⟩, fun g' o' e => ?_⟩
      obtain ⟨rfl, rfl⟩ : g = g' ∧ o = o' := by simpa using e
      exact fun j hj => ⟨⟨_, (h4 j _ (List.getElem?_eq_getElem hj)).1⟩, (h4 j _ (List.getElem?_eq_getElem hj)).2⟩
  unfold maxLen at hn
  have HW := Lib.hid hwr
  have HK := Lib.hid hlt
  clear hva3 hwr hlt
  have hvw1 := hvw.below hbw (Nat.le_refl _)
  have HV := Lib.hid hvw
  have hw31 : w1.heap.size ≤ w3.heap.size := by omega
  clear hvw hvw3 hvw1
  go_wp2_with fail
  go_loopw [5] (fun i wr => ∃ k : Nat, k ≤ n ∧ i = .int .i64 k ∧ Below w1.heap.size w1 wr ∧ Hid (∀ g o, a = some ⟨g, o, none⟩ → Writable wr g o n)) (fun i _ => n - (intOf i).toNat)
  case atStart => exact ⟨0, Nat.zero_le _, rfl, hbw, HW.out⟩
  case round =>
    obtain ⟨k, hk, rfl, hb, hwr⟩ := hrel
    by_cases hkn : k < n
    · obtain ⟨g, o, rfl, hg⟩ := HK.out k hkn
      obtain ⟨⟨x, hx⟩, hf⟩ := hwr.out g o rfl k hkn
      have hnx := (hwr.out g o rfl).set k (.string ⟨#[32]⟩)
      have hbx := hb.setCell (p := ⟨g, o + k, none⟩) hg (.string ⟨#[32]⟩)
      have HX := Lib.hid hnx
      clear hnx
      go_wp2_with fail
      go_roundw
      case rel =>
        refine ⟨k + 1, by omega, by go_num, hbx, fun g' o' e => ?_⟩
        obtain ⟨rfl, rfl⟩ : g = g' ∧ o = o' := by simpa using e
        exact HX.out
      case measure => simp [intOf]; omega
    · have HLr := Lib.hid ((HL.out.below hb1).below hb)
      have hsr := hb.size
      have hvr := HV.out.below hb (Nat.le_refl _)
      have hbr : Below w.heap.size w wr := hb1.trans (hb.mono hs1)
      go_wp2_with fail
      refine (words_any s _ hs HLr.out).mono ?_
      rintro e w4 ⟨v4, rfl, hv4, hb4⟩
      have hs4 := hb4.size
      have hvr4 := hvr.below hb4 (Nat.le_refl _)
      have HL4 := Lib.hid (HLr.out.below hb4)
      go_wp2_with fail
      refine (same_any hv4 hvr4).mono ?_
      rintro e w5 ⟨rfl, hb5⟩
      have hs5 := hb5.size
      have HL5 := Lib.hid (HL4.out.below hb5)
      rw [beq_self_eq_true]
      go_wp2_with fail
      refine (lives03 _ HL5.out).mono ?_
      rintro e w6 ⟨rfl, hb6⟩
      go_wp2_with fail
      go_ret
      exact ⟨rfl, hbr.trans ((hb4.mono (by omega)).trans ((hb5.mono (by omega)).trans (hb6.mono (by omega))))⟩
end Go.Proofs.YtaokclnandjlpaaDoor
