/- Plain: as many bytes 10 as data may have, and two more, bring a feed back, unless something was too large. No program in sight. -/
import Derived.Test.YtahpjhnbjkjkiaaDoorFeedLaw
import Derived.Test.YtahpjhnbjkjkiaaDoorLinePlain2
namespace Go.Proofs.YtahpjhnbjkjkiaaDoor

/-- What holds of a feed that told no TdLarge: it does not swallow by number; its command's data is no more than may be. -/
def CalmF (st : FSt) : Prop := st.way ≤ 4 ∧ ((st.way = 1 ∨ st.way = 2 ∨ st.way = 3) → 0 ≤ st.cmd.bytes ∧ st.cmd.bytes ≤ 1024) ∧ (st.way = 1 → (st.held.length : Int) < st.cmd.bytes) ∧ ((st.way = 4) → st.held = [])
theorem told_small {s : List UInt8} (h : (parseL s).2 = 0) : (parseL s).1.bytes ≤ 1024 := by
  by_cases hv : (parseL s).1.verb = 0
  · exact absurd h (told_none hv).2
  · have hB := (line_back (s := s) (c := (parseL s).1) (t := (parseL s).2) rfl hv).told
    rw [h] at hB
    by_cases hb : 1024 < (parseL s).1.bytes
    · rw [if_pos hb] at hB; cases hB
    · omega
theorem calm_new : CalmF fNew := ⟨by decide, by simp [fNew], by simp [fNew], by simp [fNew]⟩
theorem calm_begin0 (st : FSt) : CalmF (beginF st 0) := ⟨by show 0 ≤ 4; decide, (by rintro (h | h | h) <;> cases h), (by intro h; cases h), by intro h; cases h⟩
theorem calm_begin4 (st : FSt) : CalmF (beginF st 4) := ⟨by show 4 ≤ 4; decide, (by rintro (h | h | h) <;> cases h), (by intro h; cases h), fun _ => rfl⟩
theorem calm_line {st : FSt} {s : List UInt8} (h : (parseL s).2 ≠ 5) : CalmF (lineF st s).1 := by
  unfold lineF
  simp only
  rw [if_neg h]
  by_cases h0 : (parseL s).2 = 0
  · rw [if_pos h0]
    have hsm := told_small h0
    by_cases hb : 0 ≤ (parseL s).1.bytes
    · rw [if_pos hb]
      unfold fullF
      simp only
      split
      · exact ⟨by show 2 ≤ 4; decide, fun _ => ⟨hb, hsm⟩, fun h => (by cases h), fun h => (by cases h)⟩
      · rename_i hn
        exact ⟨by show 1 ≤ 4; decide, fun _ => ⟨hb, hsm⟩, fun _ => by show ((beginF st 1).held.length : Int) < (parseL s).1.bytes; omega, fun h => (by cases h)⟩
    · rw [if_neg hb]; exact calm_begin0 st
  · rw [if_neg h0]; exact calm_begin0 st
theorem calm_step {st : FSt} {c : UInt8} (h : CalmF st) (hn : ∀ e ∈ (stepF st c).2, e.told ≠ 5) : CalmF (stepF st c).1 := by
  obtain ⟨h1, h2, h3, h4⟩ := h
  unfold stepF at hn ⊢
  by_cases w0 : st.way = 0
  · rw [if_pos w0] at hn ⊢
    unfold gatherF at hn ⊢
    by_cases hc : c = 10
    · rw [if_pos hc] at hn ⊢
      refine calm_line fun h5 => ?_
      unfold lineF at hn
      simp only at hn
      rw [if_pos h5] at hn
      exact hn (toldE 5) (by simp) rfl
    · rw [if_neg hc] at hn ⊢
      split
      · exact calm_begin4 st
      · exact ⟨h1, h2, fun h => absurd (w0.symm.trans h) (by decide), fun h => absurd (w0.symm.trans h) (by decide)⟩
  · rw [if_neg w0]
    by_cases w1 : st.way = 1
    · rw [if_pos w1]
      unfold fullF
      simp only
      split
      · exact ⟨by show 2 ≤ 4; decide, fun _ => h2 (.inl w1), fun h => (by cases h), fun h => (by cases h)⟩
      · rename_i hx
        exact ⟨h1, fun _ => h2 (.inl w1), fun _ => by show ((st.held ++ [c]).length : Int) < st.cmd.bytes; omega, fun h => absurd (w1.symm.trans h) (by decide)⟩
    · rw [if_neg w1]
      by_cases w2 : st.way = 2
      · rw [if_pos w2]
        split
        · exact ⟨by show 3 ≤ 4; decide, fun _ => h2 (.inr (.inl w2)), fun h => (by cases h), fun h => (by cases h)⟩
        · unfold chunkF; simp only; split
          · exact calm_begin0 st
          · exact calm_begin4 st
      · rw [if_neg w2]
        by_cases w3 : st.way = 3
        · rw [if_pos w3]
          split
          · exact calm_begin0 st
          · unfold chunkF; simp only; split
            · exact calm_begin0 st
            · exact calm_begin4 st
        · rw [if_neg w3, if_pos (by omega)]
          simp only
          split
          · exact calm_begin0 st
          · exact ⟨h1, h2, h3, h4⟩
theorem calm_run : ∀ (b : List UInt8) (st : FSt), CalmF st → (∀ e ∈ (runF st b).2, e.told ≠ 5) → CalmF (runF st b).1
  | [], _, h, _ => h
  | c :: b, st, h, hn => by
    rw [runF_cons] at hn ⊢
    exact calm_run b _ (calm_step h fun e he => hn e (by simp [he])) fun e he => hn e (by simp [he])
/-- At a line's begin. -/
def AtBegin (st : FSt) : Prop := st.way = 0 ∧ st.held = []
theorem begin10 {st : FSt} (h : AtBegin st) : AtBegin (stepF st 10).1 := by
  rw [step10 h.1, h.2]
  unfold lineF trimCr
  have hp : parseL (if ([] : List UInt8).getLast? = some 13 then ([] : List UInt8).dropLast else []) = (noCmd, 1) := rfl
  rw [hp]
  exact ⟨rfl, rfl⟩
theorem begin_run : ∀ (n : Nat) (st : FSt), AtBegin st → AtBegin (runF st (List.replicate n 10)).1
  | 0, _, h => h
  | n + 1, st, h => by
    rw [List.replicate_succ, runF_cons]
    exact begin_run n _ (begin10 h)
theorem atBegin_begin (st : FSt) : AtBegin (beginF st 0) := ⟨rfl, rfl⟩
theorem mend2 {st : FSt} (h : st.way = 2) (n : Nat) : AtBegin (runF st (List.replicate (n + 1) 10)).1 := by
  rw [List.replicate_succ, runF_cons, step2 h (by decide)]
  exact begin_run n _ (atBegin_begin st)
theorem mend_data : ∀ (n : Nat) (st : FSt), st.way = 1 → (st.held.length : Int) < st.cmd.bytes → st.cmd.bytes - st.held.length < n → AtBegin (runF st (List.replicate n 10)).1
  | 0, _, _, h1, h2 => by omega
  | n + 1, st, hw, h1, h2 => by
    rw [List.replicate_succ, runF_cons]
    have hs : stepF st 10 = (fullF { st with held := st.held ++ [10] }, []) := by
      unfold stepF
      rw [if_neg (by rw [hw]; decide), if_pos hw]
    rw [hs]
    unfold fullF
    simp only [List.length_append, List.length_cons, List.length_nil]
    by_cases hf : st.cmd.bytes ≤ ((st.held.length + 1 : Nat) : Int)
    · rw [if_pos hf]
      obtain ⟨m, rfl⟩ : ∃ m, n = m + 1 := ⟨n - 1, by omega⟩
      exact mend2 rfl m
    · rw [if_neg hf]
      refine mend_data n _ hw ?_ ?_
      · simp only [List.length_append, List.length_cons, List.length_nil]; omega
      · simp only [List.length_append, List.length_cons, List.length_nil]; omega
theorem mend {st : FSt} {n : Nat} (hn : 1025 ≤ n) (h : CalmF st) (h5 : ∀ e ∈ (stepF st 10).2, e.told ≠ 5) : AtBegin (runF st (List.replicate (n + 1) 10)).1 := by
  obtain ⟨h1, h2, h3, h4⟩ := h
  by_cases w1 : st.way = 1
  · have := h2 (.inl w1)
    exact mend_data (n + 1) st w1 (h3 w1) (by have := h3 w1; omega)
  by_cases w2 : st.way = 2
  · exact mend2 w2 n
  rw [List.replicate_succ, runF_cons]
  by_cases w0 : st.way = 0
  · rw [step10 w0] at h5 ⊢
    unfold lineF at h5 ⊢
    simp only at h5 ⊢
    by_cases e5 : (parseL (trimCr st.held)).2 = 5
    · rw [if_pos e5] at h5
      exact absurd rfl (h5 (toldE 5) (by simp))
    · rw [if_neg e5]
      by_cases e0 : (parseL (trimCr st.held)).2 = 0
      · rw [if_pos e0]
        have hsm := told_small e0
        by_cases hb : 0 ≤ (parseL (trimCr st.held)).1.bytes
        · rw [if_pos hb]
          unfold fullF
          simp only
          by_cases hf : (parseL (trimCr st.held)).1.bytes ≤ ((beginF st 1).held.length : Int)
          · rw [if_pos hf]; obtain ⟨m, rfl⟩ : ∃ m, n = m + 1 := ⟨n - 1, by omega⟩
            exact mend2 rfl m
          · rw [if_neg hf]
            refine mend_data n _ rfl ?_ ?_
            · show ((beginF st 1).held.length : Int) < (parseL (trimCr st.held)).1.bytes; omega
            · show (parseL (trimCr st.held)).1.bytes - ((beginF st 1).held.length : Int) < n; omega
        · rw [if_neg hb]; exact begin_run n _ (atBegin_begin st)
      · rw [if_neg e0]; exact begin_run n _ (atBegin_begin st)
  · by_cases w3 : st.way = 3
    · have hs : stepF st 10 = (beginF st 0, [⟨st.cmd, st.held, 0⟩]) := by
        unfold stepF
        rw [if_neg w0, if_neg w1, if_neg w2, if_pos w3, if_pos rfl]
      rw [hs]; exact begin_run n _ (atBegin_begin st)
    · have hs : stepF st 10 = (beginF st 0, []) := by
        unfold stepF
        rw [if_neg w0, if_neg w1, if_neg w2, if_neg w3, if_pos (by omega), if_pos rfl]
      rw [hs]; exact begin_run n _ (atBegin_begin st)
/-- Behind whatever came, and a line's end, without a TdLarge, and 1026 bytes 10: a line's begin. -/
theorem mended (b : List UInt8) {n : Nat} (hn : 1025 ≤ n) (h : ∀ e ∈ (refEv (b ++ [10])).1, e.told ≠ 5) : AtBegin (runF (runF fNew b).1 (List.replicate (n + 1) 10)).1 := by
  have h1 := feed_more b [10]
  rw [h1.1, runF_cons, runF_nil, List.append_nil] at h
  have hb : ∀ e ∈ (runF fNew b).2, e.told ≠ 5 := fun e he => h e (by rw [← (feed_all b).1]; simp [he])
  exact mend hn (calm_run b fNew calm_new hb) (fun e he => h e (by simp [he]))
end Go.Proofs.YtahpjhnbjkjkiaaDoor
