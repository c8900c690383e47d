/- Plain: FeedsBack's and FeedsMend's texts. No program in sight. -/
import Derived.Test.YtahpjhnbjkjkiaaDoorFeedSent
namespace Go.Proofs.YtahpjhnbjkjkiaaDoor

/-- Commands one behind the other, a line without sense ahead of one. -/
def backText (bad : Nat) : List SentD → Nat → List UInt8
  | [], _ => []
  | x :: l, i => (if i = bad then senseless ++ [13, 10] else []) ++ sentText x ++ backText bad l (i + 1)
def backEvs (bad : Nat) : List SentD → Nat → List Ev
  | [], _ => []
  | x :: l, i => (if i = bad then [toldE 1] else []) ++ sentEv x :: backEvs bad l (i + 1)
theorem back_run (bad : Nat) : ∀ (l : List SentD) (i : Nat) (st : FSt), (∀ x ∈ l, SentOk x) → AtBegin st → ∃ st', runF st (backText bad l i) = (st', backEvs bad l i) ∧ AtBegin st'
  | [], _, st, _, hb => ⟨st, rfl, hb⟩
  | x :: l, i, st, h, hb => by
    obtain ⟨s0, h0, hb0⟩ : ∃ s0, runF st (if i = bad then senseless ++ [13, 10] else []) = (s0, if i = bad then [toldE 1] else []) ∧ AtBegin s0 := by
      by_cases hi : i = bad
      · rw [if_pos hi, if_pos hi]
        exact senseless_run hb true
      · rw [if_neg hi, if_neg hi]
        exact ⟨st, rfl, hb⟩
    obtain ⟨s1, h1, hb1⟩ := sent_run (h x (by simp)) hb0
    obtain ⟨s2, h2, hb2⟩ := back_run bad l (i + 1) s1 (fun y hy => h y (by simp [hy])) hb1
    refine ⟨s2, ?_, hb2⟩
    unfold backText backEvs
    rw [runF_append, runF_append, h0]
    simp only
    rw [h1]
    simp only
    rw [h2]
    simp
theorem begin_left {st : FSt} (h : AtBegin st) : leftF st = 0 := by
  unfold leftF
  rw [if_neg (by rw [h.1]; decide), h.2]; rfl
theorem begin_new : AtBegin fNew := ⟨rfl, rfl⟩
/-- The events that are looked through: where the bad one is, and how many commands there were ahead. -/
theorem backEvs_get (bad : Nat) : ∀ (l : List SentD) (i k : Nat), (backEvs bad l i)[k]? = if i ≤ bad ∧ bad < i + l.length then (if i + k = bad then some (toldE 1) else if bad < i + k then (l[k - 1]?).map sentEv else (l[k]?).map sentEv) else (l[k]?).map sentEv
  | [], i, k => by
    rw [if_neg (by simp only [List.length_nil]; omega)]
    simp [backEvs]
  | x :: l, i, k => by
    have hlen : (x :: l).length = l.length + 1 := rfl
    unfold backEvs
    by_cases hi : i = bad
    · subst hi
      rw [if_pos rfl, if_pos (show i ≤ i ∧ i < i + (x :: l).length by omega)]
      cases k with
      | zero => simp
      | succ k =>
        rw [if_neg (show ¬ i + (k + 1) = i by omega), if_pos (show i < i + (k + 1) by omega)]
        simp only [List.cons_append, List.nil_append, List.getElem?_cons_succ, Nat.add_sub_cancel]
        cases k with
        | zero => simp
        | succ k =>
          simp only [List.getElem?_cons_succ]
          rw [backEvs_get i l (i + 1) k, if_neg (show ¬ (i + 1 ≤ i ∧ i < i + 1 + l.length) by omega)]
    · rw [if_neg hi, List.nil_append]
      cases k with
      | zero =>
        simp only [List.getElem?_cons_zero, Option.map_some, Nat.add_zero]
        by_cases hr : i ≤ bad ∧ bad < i + (x :: l).length
        · rw [if_pos hr, if_neg hi, if_neg (show ¬ bad < i by omega)]
        · rw [if_neg hr]
      | succ k =>
        simp only [List.getElem?_cons_succ]
        rw [backEvs_get bad l (i + 1) k]
        by_cases hr : i ≤ bad ∧ bad < i + (x :: l).length
        · have hr2 : i + 1 ≤ bad ∧ bad < i + 1 + l.length := by omega
          rw [if_pos hr, if_pos hr2]
          by_cases h1 : i + 1 + k = bad
          · rw [if_pos h1, if_pos (show i + (k + 1) = bad by omega)]
          · rw [if_neg h1, if_neg (show ¬ i + (k + 1) = bad by omega)]
            by_cases h2 : bad < i + 1 + k
            · rw [if_pos h2, if_pos (show bad < i + (k + 1) by omega)]
              obtain ⟨j, rfl⟩ : ∃ j, k = j + 1 := ⟨k - 1, by omega⟩
              simp
            · rw [if_neg h2, if_neg (show ¬ bad < i + (k + 1) by omega)]
        · have hr2 : ¬ (i + 1 ≤ bad ∧ bad < i + 1 + l.length) := by omega
          rw [if_neg hr, if_neg hr2]
theorem backEvs_len (bad : Nat) : ∀ (l : List SentD) (i : Nat), (backEvs bad l i).length = l.length + if i ≤ bad ∧ bad < i + l.length then 1 else 0
  | [], i => by
    rw [if_neg (by simp only [List.length_nil]; omega)]; rfl
  | x :: l, i => by
    have hlen : (x :: l).length = l.length + 1 := rfl
    unfold backEvs
    rw [List.length_append, List.length_cons, backEvs_len bad l (i + 1)]
    by_cases hi : i = bad
    · subst hi
      rw [if_pos rfl, if_pos (show i ≤ i ∧ i < i + (x :: l).length by omega), if_neg (show ¬ (i + 1 ≤ i ∧ i < i + 1 + l.length) by omega), hlen]
      simp only [List.length_cons, List.length_nil]; omega
    · rw [if_neg hi, hlen]
      by_cases hr : i ≤ bad ∧ bad < i + (l.length + 1)
      · rw [if_pos hr, if_pos (show i + 1 ≤ bad ∧ bad < i + 1 + l.length by omega)]
        simp only [List.length_nil]; omega
      · rw [if_neg hr, if_neg (show ¬ (i + 1 ≤ bad ∧ bad < i + 1 + l.length) by omega)]
        simp only [List.length_nil]; omega
/-- A line without sense, and a get: behind a line's begin. -/
def getD29 (key : List UInt8) : SentD := ⟨3, key, [], 0, 0, false, false⟩
theorem getD29_text (key : List UInt8) : sentText (getD29 key) = [103, 101, 116, 32] ++ key ++ [10] := by
  unfold sentText sentLine sentW getD29
  simp [join_flat, flatW]
theorem getD29_ok {key : List UInt8} (h : okB key = true) : SentOk (getD29 key) := ⟨h, by simp [getD29], by simp [getD29], by simp [getD29], by simp [getD29]⟩
theorem mend_tells {st : FSt} (hb : AtBegin st) {key : List UInt8} (h : okB key = true) : (runF st (senseless ++ [10] ++ ([103, 101, 116, 32] ++ key ++ [10]))).2 = [toldE 1, sentEv (getD29 key)] := by
  obtain ⟨s1, h1, hb1⟩ := senseless_run hb false
  obtain ⟨s2, h2, _⟩ := sent_run (getD29_ok h) hb1
  rw [← getD29_text, runF_append]
  have h1' : runF st (senseless ++ [10]) = (s1, [toldE 1]) := by simpa using h1
  rw [h1']
  simp only
  rw [h2]; rfl
end Go.Proofs.YtahpjhnbjkjkiaaDoor
