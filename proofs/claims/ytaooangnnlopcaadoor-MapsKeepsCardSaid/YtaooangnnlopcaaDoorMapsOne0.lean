/- Plain: of each call one answer fits, or that there is no room. No program in sight. -/
import Derived.Test.YtaooangnnlopcaaDoorMapsRun
namespace Go.Proofs.YtaooangnnlopcaaDoor
open Go.RowKit Go.ChangeMaps Go.MapKept
theorem givesV_kind {c : CallD} {ep next : Nat} {was : ItemD} {there : Bool} {g : GivD} (h : givesV c ep next was there = some g) : g.ans.kind = 1 → g.stored = true := by
  unfold givesV at h
  repeat' split at h
  all_goals (try cases h)
  all_goals (try (first | unfold casG | unfold countG | unfold flushG))
  all_goals (repeat' split)
  all_goals (simp [saysG, storesG, hitG, goneG, touchG, numberG])
section
variable {m : MapM} {c : CallD} {ep : Nat} {a : AnsD}
/-- Stored where the key has no record, but there was no room. -/
def refusedM (m : MapM) (c : CallD) (ep : Nat) (a : AnsD) : Bool := isM m c ep && !(atL m.L c.key).isSome && decide ((ansM m c ep).kind = 1) && decide (a = noRoom)
theorem one_fits : (fitsM m c ep a).1 = ((isM m c ep && decide (a = ansM m c ep)) || refusedM m c ep a) := by
  unfold fitsM refusedM isM ansM
  cases hg : givesM m c ep with
  | none => rfl
  | some g =>
    have h1 := (gives_facts hg).1
    have h2 : g.ans.kind = 1 → g.stored = true := by
      unfold givesM at hg
      split at hg
      · exact givesV_kind hg
      · cases hg
    show (if a = g.ans then (true, applyM m c.key g) else if g.stored = true ∧ (atL m.L c.key).isNone = true ∧ a = noRoom then (true, { m with epoch := ep }) else (false, m)).1 = (true && decide (a = g.ans) || (true && !(atL m.L c.key).isSome && decide (g.ans.kind = 1) && decide (a = noRoom)))
    by_cases e : a = g.ans
    · rw [if_pos e, decide_eq_true e]; rfl
    · rw [if_neg e, decide_eq_false e]
      by_cases e2 : g.stored = true ∧ (atL m.L c.key).isNone = true ∧ a = noRoom
      · rw [if_pos e2]
        obtain ⟨e3, e4, e5⟩ := e2
        cases hh : atL m.L c.key
        · simp [h1 e3, e5]
        · rw [hh] at e4; cases e4
      · rw [if_neg e2]
        cases hh : atL m.L c.key
        · by_cases hk : g.ans.kind = 1
          · by_cases hn : a = noRoom
            · exact absurd ⟨h2 hk, by rw [hh]; rfl, hn⟩ e2
            · simp [hn]
          · simp [hk]
        · simp
theorem one_keeps (h : (!(fitsM m c ep a).1 || refusedM m c ep a) = true) : (fitsM m c ep a).2.L.length = m.L.length ∧ (fitsM m c ep a).2.ids = m.ids := by
  unfold refusedM isM ansM at h
  unfold fitsM at h ⊢
  cases hg : givesM m c ep with
  | none => exact ⟨rfl, rfl⟩
  | some g =>
    rw [hg] at h
    have h' : (!(if a = g.ans then (true, applyM m c.key g) else if g.stored = true ∧ (atL m.L c.key).isNone = true ∧ a = noRoom then (true, { m with epoch := ep }) else (false, m)).1 || (true && !(atL m.L c.key).isSome && decide (g.ans.kind = 1) && decide (a = noRoom))) = true := h
    show (if a = g.ans then (true, applyM m c.key g) else if g.stored = true ∧ (atL m.L c.key).isNone = true ∧ a = noRoom then (true, { m with epoch := ep }) else (false, m)).2.L.length = _ ∧ (if a = g.ans then (true, applyM m c.key g) else if g.stored = true ∧ (atL m.L c.key).isNone = true ∧ a = noRoom then (true, { m with epoch := ep }) else (false, m)).2.ids = _
    by_cases e : a = g.ans
    · exfalso
      rw [if_pos e] at h'
      simp only [Bool.not_true, Bool.false_or, Bool.true_and, Bool.and_eq_true, decide_eq_true_eq] at h'
      obtain ⟨⟨-, h1⟩, h2⟩ := h'
      rw [← e, h2] at h1
      exact absurd h1 (by decide)
    · rw [if_neg e]
      split <;> exact ⟨rfl, rfl⟩
end
end Go.Proofs.YtaooangnnlopcaaDoor
