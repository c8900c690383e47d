/- The words of a line: keys.Words, the reference's Words, the law's 'same', slices.Clip at strings: what each answers. Conditions: a line of at most 2^20 bytes, MaxLen holds a number. -/
import Derived.Test.YtahpjhnbjkjkiaaGreatDoorBase
import Derived.Test.YtahpjhnbjkjkiaaGreatDoorShelf
namespace Go.Proofs.YtahpjhnbjkjkiaaGreatDoor
open Go.RowKit

theorem HasLen.of_shaped {w : World} (h : w.ShapedOpen Tryz.prog) : HasLen w := Tryz.laysM146.s1_3 w h

/-! ### Plain -/
def wordsGo : List UInt8 → List UInt8 → List (List UInt8)
  | [], cur => if cur = [] then [] else [cur]
  | c :: l, cur => if c = 32 then (if cur = [] then wordsGo l [] else cur :: wordsGo l []) else wordsGo l (cur ++ [c])
def words (l : List UInt8) : List (List UInt8) := wordsGo l []

theorem wordsGo_run : ∀ (w r cur : List UInt8), (∀ c ∈ w, c ≠ 32) → wordsGo (w ++ r) cur = wordsGo r (cur ++ w)
  | [], r, cur, _ => by simp
  | c :: w, r, cur, h => by
    have hc : c ≠ 32 := h c (by simp)
    rw [List.cons_append, wordsGo, if_neg hc, wordsGo_run w r (cur ++ [c]) (fun x hx => h x (by simp [hx]))]
    simp
theorem words_cut (w r : List UInt8) (h : ∀ c ∈ w, c ≠ 32) : words (w ++ 32 :: r) = (if w = [] then [] else [w]) ++ words r := by
  unfold words
  rw [wordsGo_run w _ [] h, List.nil_append, wordsGo, if_pos rfl]
  split <;> simp
theorem words_end (w : List UInt8) (h : ∀ c ∈ w, c ≠ 32) : words w = if w = [] then [] else [w] := by
  have := wordsGo_run w [] [] h
  simp only [List.append_nil, List.nil_append] at this
  unfold words; rw [this, wordsGo]
theorem words_nil : words [] = [] := rfl

/-- One step of a scan: at place 'a', the word ends at 'b'. -/
theorem words_scan {l : List UInt8} {a b : Nat} (hab : a ≤ b) (hb : b ≤ l.length) (h : ∀ j, a ≤ j → j < b → ∀ c, l[j]? = some c → c ≠ 32) (he : b = l.length ∨ l[b]? = some 32) :
    words (l.drop a) = (if a < b then [(l.take b).drop a] else []) ++ words (l.drop (b + 1)) := by
  have hw : ∀ c ∈ (l.take b).drop a, c ≠ 32 := by
    intro c hc
    obtain ⟨j, hj, rfl⟩ := List.getElem_of_mem hc
    simp only [List.length_drop, List.length_take] at hj
    rw [List.getElem_drop, List.getElem_take]
    exact h (a + j) (by omega) (by omega) _ (List.getElem?_eq_getElem (by omega))
  have hlen : ((l.take b).drop a).length = b - a := by simp; omega
  have hne : ((l.take b).drop a = []) ↔ ¬ a < b := by
    rw [← List.length_eq_zero_iff, hlen]; omega
  rcases he with he | he
  · have e1 : l.drop a = (l.take b).drop a := by rw [he, List.take_length]
    rw [List.drop_eq_nil_of_le (show l.length ≤ b + 1 by omega), words_nil, List.append_nil, e1]
    rw [words_end _ hw]
    by_cases hlt : a < b
    · rw [if_pos hlt, if_neg (by rw [hne]; omega)]
    · rw [if_neg hlt, if_pos (by rw [hne]; omega)]
  · obtain ⟨hbl, hbc⟩ := List.getElem?_eq_some_iff.1 he
    have e1 : l.drop a = (l.take b).drop a ++ 32 :: l.drop (b + 1) := by
      have : l.drop b = 32 :: l.drop (b + 1) := by rw [List.drop_eq_getElem_cons hbl, hbc]
      rw [← this]
      conv => lhs; rw [← List.take_append_drop b l]
      rw [List.drop_append_of_le_length (by simp; omega)]
    rw [e1, words_cut _ _ hw]
    by_cases hlt : a < b
    · rw [if_pos hlt, if_neg (by rw [hne]; omega)]
    · rw [if_neg hlt, if_pos (by rw [hne]; omega)]

/-- The pieces of the library's Split, without the empty ones. -/
theorem splitK_words : ∀ (k : Nat) (l : List UInt8), Lib.count l [32] = k → (Lib.splitK [32] 0 k l).filter (fun w => !w.isEmpty) = words l
  | 0, l, hk => by
    rcases Lib.index_spec l [32] with ⟨hi, hn⟩ | ⟨i, hi, _⟩
    · rw [Lib.splitK]
      have hw : ∀ c ∈ l, c ≠ 32 := by
        rintro c hc rfl
        obtain ⟨j, hj, hjc⟩ := List.getElem_of_mem hc
        have := hn j (by omega)
        simp [Lib.occAt, List.drop_eq_getElem_cons hj, hjc] at this
      rw [words_end l hw]
      cases l <;> simp
    · rw [Lib.count_hit (by simp) hi] at hk; omega
  | k + 1, l, hk => by
    rcases Lib.index_spec l [32] with ⟨hi, hn⟩ | ⟨i, hi, hil, ho, hno⟩
    · rw [Lib.count_miss hi] at hk; omega
    · have hc := Lib.count_hit (by simp) hi
      rw [hk] at hc
      have hi32 : l[i]? = some 32 := Lib.occAt_head rfl ho
      have hil' := (List.getElem?_eq_some_iff.1 hi32).1
      have ih := splitK_words k (l.drop (i + 1)) (by simp at hc; omega)
      rw [Lib.splitK, if_neg (by rw [hi]; simp), hi]
      simp only [Int.toNat_natCast, Nat.add_zero, List.length_cons, List.length_nil, Nat.zero_add]
      rw [List.filter_cons, ih]
      have := words_scan (l := l) (a := 0) (b := i) (by omega) (by omega) (fun j _ hj c hjc hc32 => by
        subst hc32
        have h1 := hno j hj
        obtain ⟨hjl, hjc'⟩ := List.getElem?_eq_some_iff.1 hjc
        simp [Lib.occAt, List.drop_eq_getElem_cons hjl, hjc'] at h1) (.inr hi32)
      rw [List.drop_zero] at this
      rw [this, List.drop_zero]
      by_cases h0 : 0 < i
      · rw [if_pos (by simp; exact ⟨by omega, by intro h; subst h; simp at hil'⟩), if_pos h0]; rfl
      · rw [if_neg (by simp; omega), if_neg h0]; rfl
theorem words_length : ∀ (l : List UInt8), (words l).length ≤ l.length := by
  have go : ∀ (l cur : List UInt8), (wordsGo l cur).length ≤ l.length + (if cur = [] then 0 else 1) := by
    intro l
    induction l with
    | nil => intro cur; simp only [wordsGo]; split <;> simp
    | cons c l ih =>
      intro cur
      simp only [wordsGo]
      split
      · split
        · have := ih []; simp at this ⊢; omega
        · have := ih []; simp at this ⊢; omega
      · have := ih (cur ++ [c]); simp at this; simp; split <;> omega
  intro l
  have := go l []
  simpa [words] using this
end Go.Proofs.YtahpjhnbjkjkiaaGreatDoor
