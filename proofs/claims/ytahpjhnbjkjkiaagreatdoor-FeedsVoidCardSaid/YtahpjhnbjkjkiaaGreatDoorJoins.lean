/- Plain: words and blanks; the library's ReplaceAll of a blank by nothing, its Join with a blank. No condition. -/
import Derived.Test.YtahpjhnbjkjkiaaGreatDoorKeysOne
import Derived.Lib.Replace
import Derived.Lib.Join
namespace Go.Proofs.YtahpjhnbjkjkiaaGreatDoor
open Go.RowKit

theorem wordsGo_cut : ∀ (a b cur : List UInt8), wordsGo (a ++ 32 :: b) cur = wordsGo a cur ++ wordsGo b []
  | [], b, cur => by
    simp only [List.nil_append, wordsGo, if_true]
    split <;> simp
  | c :: a, b, cur => by
    rw [List.cons_append, wordsGo, wordsGo]
    split
    · split
      · exact wordsGo_cut a b []
      · rw [wordsGo_cut a b []]; rfl
    · exact wordsGo_cut a b _
theorem words_at_blank (a b : List UInt8) : words (a ++ 32 :: b) = words a ++ words b := wordsGo_cut a b []
theorem words_pad (a : List UInt8) : ∀ k : Nat, words (a ++ List.replicate k 32) = words a
  | 0 => by rw [List.replicate_zero, List.append_nil]
  | k + 1 => by rw [List.replicate_succ, words_at_blank, words_blanks, List.append_nil]
theorem words_one {x : List UInt8} (h0 : x ≠ []) (h : ∀ c ∈ x, c ≠ 32) : words x = [x] := by rw [words_end x h, if_neg h0]
theorem wordsGo_nb : ∀ (l cur : List UInt8), (∀ c ∈ cur, c ≠ 32) → ∀ x ∈ wordsGo l cur, ∀ c ∈ x, c ≠ 32
  | [], cur, hc => by
    intro x hx
    simp only [wordsGo] at hx
    split at hx
    · simp at hx
    · simp at hx; subst hx; exact hc
  | c :: l, cur, hc => by
    intro x hx
    simp only [wordsGo] at hx
    split at hx
    · split at hx
      · exact wordsGo_nb l [] (by simp) x hx
      · rcases List.mem_cons.1 hx with rfl | hx
        · exact hc
        · exact wordsGo_nb l [] (by simp) x hx
    · rename_i h32
      exact wordsGo_nb l _ (fun d hd => by
        rcases List.mem_append.1 hd with hd | hd
        · exact hc d hd
        · rw [List.mem_singleton.1 hd]; exact h32) x hx
theorem words_nb (l : List UInt8) : ∀ x ∈ words l, ∀ c ∈ x, c ≠ 32 := wordsGo_nb l [] (by simp)

/-- A text behind i words: it has these words; if none, it is blanks alone. -/
def Texts (T : List UInt8) (L : List (List UInt8)) : Prop := words T = L ∧ (L = [] → T = List.replicate T.length 32)
theorem texts_nil : Texts [] [] := ⟨rfl, fun _ => rfl⟩
theorem texts_skip {T : List UInt8} {L : List (List UInt8)} (h : Texts T L) (n : Nat) : Texts (T ++ List.replicate n 32) L := by
  refine ⟨by rw [words_pad, h.1], fun e => ?_⟩
  rw [h.2 e, List.replicate_append_replicate]; simp
theorem texts_word {T : List UInt8} {L : List (List UInt8)} (h : Texts T L) {n : Nat} (hn : L ≠ [] → 1 ≤ n) {x : List UInt8} (hx : x ≠ []) (hb : ∀ c ∈ x, c ≠ 32) : Texts (T ++ List.replicate n 32 ++ x) (L ++ [x]) := by
  refine ⟨?_, fun e => by simp at e⟩
  by_cases hL : L = []
  · have hT : words (T ++ List.replicate n 32 ++ x) = words x := by
      rw [h.2 hL, List.replicate_append_replicate, words_lead]
    rw [hT, hL, words_one hx hb]; rfl
  · obtain ⟨m, rfl⟩ : ∃ m, n = m + 1 := ⟨n - 1, by have := hn hL; omega⟩
    have e : T ++ List.replicate (m + 1) 32 ++ x = T ++ 32 :: (List.replicate m 32 ++ x) := by
      rw [List.replicate_succ]; simp
    rw [e, words_at_blank, h.1, words_lead, words_one hx hb]

/-- ReplaceAll of a blank by nothing. -/
theorem index32 (s : List UInt8) : (Lib.index s [32] = -1 ∧ ∀ c ∈ s, c ≠ 32) ∨ ∃ i : Nat, Lib.index s [32] = i ∧ (∃ hi : i < s.length, s[i] = 32) ∧ ∀ c ∈ s.take i, c ≠ 32 := by
  rcases Lib.index_spec s [32] with ⟨hi, hn⟩ | ⟨i, hi, hil, ho, hno⟩
  · left; refine ⟨hi, ?_⟩
    rintro c hc rfl
    obtain ⟨j, hj, hjc⟩ := List.getElem_of_mem hc
    have := hn j (by omega)
    simp [Lib.occAt, List.drop_eq_getElem_cons hj, hjc] at this
  · right; refine ⟨i, hi, ?_, ?_⟩
    · have := Lib.occAt_head rfl ho
      obtain ⟨h1, h2⟩ := List.getElem?_eq_some_iff.1 this
      exact ⟨h1, h2⟩
    · rintro c hc rfl
      obtain ⟨j, hj, hjc⟩ := List.getElem_of_mem hc
      rw [List.length_take] at hj
      rw [List.getElem_take] at hjc
      have := hno j (by omega)
      simp [Lib.occAt, List.drop_eq_getElem_cons (show j < s.length by omega), hjc] at this
theorem filter_nb {l : List UInt8} (h : ∀ c ∈ l, c ≠ 32) : l.filter (· ≠ 32) = l := List.filter_eq_self.2 (fun c hc => by simpa using h c hc)
theorem replaceK_blank : ∀ (k : Nat) (s : List UInt8), Lib.count s [32] = k → Lib.replaceK [32] [] k s = s.filter (· ≠ 32)
  | 0, s, hk => by
    rcases index32 s with ⟨_, hn⟩ | ⟨i, hi, _⟩
    · rw [Lib.replaceK, filter_nb hn]
    · rw [Lib.count_hit (by simp) hi] at hk; omega
  | k + 1, s, hk => by
    rcases index32 s with ⟨hi, hn⟩ | ⟨i, hi, ⟨hil, hc⟩, hn⟩
    · rw [Lib.count_miss hi] at hk; omega
    · have h1 := Lib.count_hit (by simp) hi
      rw [hk] at h1
      have ih := replaceK_blank k (s.drop (i + 1)) (by simp at h1; omega)
      rw [Lib.replaceK_hit _ _ _ _ _ hi]
      simp only [List.length_cons, List.length_nil, Nat.zero_add]
      rw [ih, List.append_nil]
      have hs : s = s.take i ++ 32 :: s.drop (i + 1) := by
        rw [← hc, ← List.drop_eq_getElem_cons hil, List.take_append_drop]
      conv => rhs; rw [hs]
      rw [List.filter_append, List.filter_cons, filter_nb hn]
      simp
theorem replace_blank (s : List UInt8) : Lib.replaceAll s [32] [] = s.filter (· ≠ 32) := by
  unfold Lib.replaceAll Lib.replace Lib.replaceNum
  rw [if_neg (by simp), if_pos (by simp), replaceK_blank _ s rfl]
theorem unblank_nb (s : List UInt8) : ∀ c ∈ s.filter (· ≠ 32), c ≠ 32 := fun c hc => by simpa using (List.mem_filter.1 hc).2

/-- Words with a blank between. -/
theorem words_join : ∀ (L : List (List UInt8)), (∀ x ∈ L, x ≠ []) → (∀ x ∈ L, ∀ c ∈ x, c ≠ 32) → words (Lib.join L [32]) = L
  | [], _, _ => by simp [Lib.join, words_nil]
  | [x], h0, hb => by
    rw [Lib.join_one]; exact words_one (h0 x (by simp)) (hb x (by simp))
  | x :: y :: L, h0, hb => by
    have ih := words_join (y :: L) (fun z hz => h0 z (by simp [hz])) (fun z hz => hb z (by simp [hz]))
    have e : Lib.join (x :: y :: L) [32] = x ++ 32 :: Lib.join (y :: L) [32] := by simp [Lib.join, List.intercalate]
    rw [e, words_at_blank, ih, words_one (h0 x (by simp)) (hb x (by simp))]; rfl
theorem join_len : ∀ (l : List UInt8), (Lib.join (words l) [32]).length ≤ l.length + 1 := by
  have go : ∀ (L : List (List UInt8)), (Lib.join L [32]).length ≤ (L.map (fun x => x.length + 1)).sum := by
    intro L
    induction L with
    | nil => simp [Lib.join]
    | cons x L ih =>
      cases L with
      | nil => rw [Lib.join_one]; simp
      | cons y L =>
        have e : Lib.join (x :: y :: L) [32] = x ++ 32 :: Lib.join (y :: L) [32] := by simp [Lib.join, List.intercalate]
        rw [e, List.length_append, List.length_cons, List.map_cons, List.sum_cons]
        omega
  have sumw : ∀ (l cur : List UInt8), ((wordsGo l cur).map (fun x => x.length + 1)).sum ≤ l.length + cur.length + 1 := by
    intro l
    induction l with
    | nil => intro cur; simp only [wordsGo]; split <;> simp
    | cons c l ih =>
      intro cur
      simp only [wordsGo]
      split
      · split
        · have := ih []; simp at this ⊢; omega
        · have := ih []; simp at this ⊢; omega
      · have := ih (cur ++ [c]); simp at this ⊢; omega
  intro l
  have h1 := go (words l)
  have h2 := sumw l []
  simp at h2
  unfold words at *
  omega
theorem row_kept {w w' : World} {B : Nat} {e : TypeId} {sz n : Nat} {v : Value} {xs : List Value} (h : w.ownsRow B e sz v n xs) (hb : Below w.heap.size w w') : w'.ownsRow B e sz v n xs := by
  obtain ⟨hl, h2⟩ := h
  refine ⟨hl, h2.imp id ?_⟩
  rintro ⟨g, cap, cur, rfl, hg, hh, hr⟩
  exact ⟨g, cap, cur, rfl, hg, (hb.block g (Array.getElem?_eq_some_iff.1 hh).1).trans hh, hr⟩
/-- The place of an element, without laying the slice's address open. -/
theorem idx_str {a : Option Addr} {g o n c k : Nat} (ha : a = some ⟨g, o, none⟩) (hk : k < n) (W : World) : (Instr.indexAt 38 (.slice a n c) (.int .i64 (k : Int))).run Tryz.prog W = .ok (.pointer (some ⟨g, o + k, none⟩)) W := by
  subst ha
  have h0 : (0 : Int) ≤ (k : Int) := by omega
  have h1 : (k : Int) < (n : Int) := by omega
  have h2 := Tryz.underlying38
  go_simp
theorem idx_byte {a : Option Addr} {g o n c k : Nat} (ha : a = some ⟨g, o, none⟩) (hk : k < n) (W : World) : (Instr.indexAt 23 (.slice a n c) (.int .i64 (k : Int))).run Tryz.prog W = .ok (.pointer (some ⟨g, o + k, none⟩)) W := by
  subst ha
  have h0 : (0 : Int) ≤ (k : Int) := by omega
  have h1 : (k : Int) < (n : Int) := by omega
  have h2 := Tryz.underlying23
  go_simp
end Go.Proofs.YtahpjhnbjkjkiaaGreatDoor
