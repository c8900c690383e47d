/- The law KeysOne returns true at every text and number of blanks. Condition: MaxLen holds a number. -/
import Derived.Test.YtahpjhnbjkjkiaaGreatDoorKeysLives
import Derived.Lib.Repeat
namespace Go.Proofs.YtahpjhnbjkjkiaaGreatDoor
open Go.RowKit

/-! ### Plain -/
theorem repeat_blanks : ∀ k : Nat, Lib.repeatL [32] k = List.replicate k 32
  | 0 => rfl
  | k + 1 => by rw [Lib.repeatL, repeat_blanks k, List.replicate_succ]; rfl
theorem words_lead : ∀ (k : Nat) (l : List UInt8), words (List.replicate k 32 ++ l) = words l
  | 0, l => rfl
  | k + 1, l => by
    rw [List.replicate_succ, List.cons_append]
    have := words_cut [] (List.replicate k 32 ++ l) (by simp)
    simp only [List.nil_append, if_true] at this
    rw [this, words_lead k l]
theorem words_blanks (k : Nat) : words (List.replicate k 32) = [] := by
  have := words_lead k []
  simpa [words_nil] using this
theorem words_gap {s : List UInt8} (h0 : s ≠ []) (h : ∀ c ∈ s, c ≠ 32) (a b : Nat) : words (List.replicate a 32 ++ s ++ List.replicate b 32) = [s] := by
  rw [List.append_assoc, words_lead]
  cases b with
  | zero => rw [List.replicate_zero, List.append_nil, words_end s h, if_neg h0]
  | succ b => rw [List.replicate_succ, words_cut s _ h, if_neg h0, words_blanks]; rfl
theorem wordsGo_ne : ∀ (l cur : List UInt8), ∀ w ∈ wordsGo l cur, w ≠ []
  | [], cur => by
    intro w hw
    simp only [wordsGo] at hw
    split at hw
    · simp at hw
    · simp at hw; subst hw; assumption
  | c :: l, cur => by
    intro w hw
    simp only [wordsGo] at hw
    split at hw
    · split at hw
      · exact wordsGo_ne l [] w hw
      · rcases List.mem_cons.1 hw with rfl | hw
        · assumption
        · exact wordsGo_ne l [] w hw
    · exact wordsGo_ne l _ w hw
theorem words_ne (l : List UInt8) : ∀ w ∈ words l, w ≠ [] := wordsGo_ne l []
theorem ok_blank {s : List UInt8} (h : okB s = true) : s ≠ [] ∧ ∀ c ∈ s, c ≠ 32 := by
  unfold okB look at h
  split at h
  · simp at h
  · rename_i h0
    split at h
    · simp at h
    · split at h
      · simp at h
      · rename_i hf
        refine ⟨by rintro rfl; simp at h0, fun c hc h32 => ?_⟩
        have := List.findIdx?_eq_none_iff.1 hf c hc
        subst h32
        exact absurd this (by decide)
theorem not_ok_look {s : List UInt8} (h : okB s = false) (h0 : s ≠ []) : ((((look s).1 : Nat) : Int) != 1) = true ∧ ((((look s).1 : Nat) : Int) != 0) = true := by
  have h1 : (look s).1 ≠ 0 := by simpa [okB] using h
  have h2 : (look s).1 ≠ 1 := by
    have : s.length ≠ 0 := by simpa using h0
    unfold look; rw [if_neg this]
    split
    · simp
    · split <;> simp
  exact ⟨by rw [bne_iff_ne]; omega, by rw [bne_iff_ne]; omega⟩

theorem indexByte_mem {c : UInt8} : ∀ {l : List UInt8}, c ∈ l → 0 ≤ Lib.indexByte l c := by
  intro l h
  induction l with
  | nil => simp at h
  | cons b l ih =>
    rw [Lib.indexByte]
    by_cases hb : b = c
    · rw [if_pos (by simp [hb])]; omega
    · have h1 := ih (by rcases List.mem_cons.1 h with h | h; exact absurd h.symm hb; exact h)
      rw [if_neg (by simp [hb]), if_neg (by simp; omega)]; omega

end Go.Proofs.YtahpjhnbjkjkiaaGreatDoor
