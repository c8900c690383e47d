/- A region that draws its order and whose last operations are stores that hit what it has read: reads are taken first while the store (number k) has not come up. No condition. -/
import Derived.Test.YtddifbimlmkcbaaGreatDoorLowA
import Derived.OrdersHeld
import Derived.Deep.RegionHeld
namespace Go.Proofs.YtddifbimlmkcbaaGreatDoor
open Go Go.RowKit
section
variable {P : Program} {ops : Array Oper} {Q : Exit → Act → World → Prop} {md : Region.Mode} {S S' : World → Prop} {k : Nat}
theorem set_listed {l : Array Bool} {j : Nat} (h : l.getD j true = false) : (l.setIfInBounds j true).getD j true = true := by
  rcases Nat.lt_or_ge j l.size with h' | h'
  · simp [h']
  · simp [Array.getElem?_eq_none h'] at h
/-- In whatever order; S holds till number k has come up. -/
def Late (P : Program) (md : Region.Mode) (ops : Array Oper) (Q : Exit → Act → World → Prop) (k : Nat) (S : World → Prop) : Nat → Array Bool → Act → World → Prop
  | 0, l, a, w => Region.ready md ops l = [] ∧ Q .normal a w
  | m + 1, l, a, w => (Region.ready md ops l = [] → Q .normal a w) ∧
    ∀ i ∈ Region.ready md ops l, wpOp P ops Q i (fun a' w' => (l.getD k true = false → i ≠ k → S w') ∧ Late P md ops Q k S m (l.setIfInBounds i true) a' w') a w
theorem late_any : ∀ (m : Nat) (l : Array Bool) (a : Act) (w : World), Late P md ops Q k S m l a w → wpAny P md ops Q m l a w
  | 0, _, _, _, h => h
  | m + 1, _, _, _, h => ⟨h.1, fun i hi => wpOp_mono (fun a' w' h' => late_any m _ a' w' h'.2) (h.2 i hi)⟩
theorem late_first {i : Nat} {oi : Oper} {v : Value} (hi : ops[i]? = some oi) (hsel : ∀ (j : Nat) (o : Oper) cs b, ops[j]? = some o → o.op ≠ .select cs b)
    (hQ : ∀ c a w, Q (.panic c) (a.put oi.dst v) w → Q (.panic c) a w) (hik : i ≠ k) (hS' : (∀ w, S' w) ∨ (∀ w, S w → S' w) ∧ ∃ ok, ops[k]? = some ok ∧ ∃ e ∈ ok.after, Region.binds md e = true ∧ e.on = i) :
    ∀ (m : Nat) (l : Array Bool) (a : Act) (w : World),
      (∀ j oj, ops[j]? = some oj → j ≠ i → l.getD j true = false → (∀ e ∈ oj.after, Region.binds md e = true → e.on ≠ i) → oi.apart ops oj = true) →
      i ∈ Region.ready md ops l → YieldsIf P ops S' oi v a → S' w → (l.getD k true = false → S w) → ((∀ w, S' w) ∨ l.getD k true = false) →
      Late P md ops Q k S m (l.setIfInBounds i true) (a.put oi.dst v) w → Late P md ops Q k S (m + 1) l a w := by
  intro m
  have hget : ∀ l : Array Bool, (l.setIfInBounds i true).getD k true = l.getD k true := fun l => getD_set_ne true hik
  induction m with
  | zero =>
    intro l a w _ hr hy hS hSk _ H
    refine ⟨fun h => (by rw [h] at hr; cases hr), fun j hj => ?_⟩
    by_cases hji : j = i
    · subst hji; exact hy.wpOp hi hS ⟨fun h _ => hSk h, H⟩
    · have := ready_mono hj hji
      rw [H.1] at this
      cases this
  | succ m ih =>
    intro l a w hfree hr hy hS hSk hinv H
    refine ⟨fun h => (by rw [h] at hr; cases hr), fun j hj => ?_⟩
    by_cases hji : j = i
    · subst hji; exact hy.wpOp hi hS ⟨fun h _ => hSk h, H⟩
    · have h1 := H.2 j (ready_mono hj hji)
      obtain ⟨hjun, oj, hoj, hall⟩ := mem_ready.1 hj
      have hun : l.getD i true = false := (mem_ready.1 hr).1
      have hnot : ∀ e ∈ oj.after, Region.binds md e = true → e.on ≠ i := fun e he hb heq => by
        have h1 := hall e he hb
        rw [heq] at h1
        rcases Nat.lt_or_ge i l.size with h' | h'
        · simp [h'] at hun h1; rw [hun] at h1; cases h1
        · simp [Array.getElem?_eq_none h'] at h1
      have h2 := wpOp_putIf hoj (hfree j oj hoj hji hjun hnot) (fun cs b => hsel i oi cs b hi) (fun cs b => hsel j oj cs b hoj) hQ hy h1
      have hfree' : ∀ k ok, ops[k]? = some ok → k ≠ i → (l.setIfInBounds j true).getD k true = false →
          (∀ e ∈ ok.after, Region.binds md e = true → e.on ≠ i) → oi.apart ops ok = true := fun k ok hk hki hun hno => by
        refine hfree k ok hk hki ?_ hno
        by_cases hjk : j = k
        · subst hjk; exact hjun
        · rw [getD_set_ne true hjk] at hun; exact hun
      refine wpOp_mono (fun a' w' h3 => ?_) h2
      obtain ⟨hy2, hs2, hL⟩ := h3
      rw [hget l] at hs2
      refine ⟨hs2, ?_⟩
      have hL2 : Late P md ops Q k S m ((l.setIfInBounds j true).setIfInBounds i true) (a'.put oi.dst v) w' := by
        rw [Array.setIfInBounds_comm _ _ hji]
        exact hL
      have way1 : (∀ w, S' w) → Late P md ops Q k S (m + 1) (l.setIfInBounds j true) a' w' := fun hall' => by
        refine ih (l.setIfInBounds j true) a' w' hfree' (ready_mono hr (Ne.symm hji)) hy2 (hall' _) (fun hk2 => ?_) (.inl hall') hL2
        by_cases hjk : j = k
        · subst hjk
          rw [set_listed hjun] at hk2
          cases hk2
        · rw [getD_set_ne true hjk] at hk2
          exact hs2 hk2 hjk
      rcases hinv with hall' | hk0
      · exact way1 hall'
      · rcases hS' with hall' | ⟨hsub, ok, hok, e, he, hb, heq⟩
        · exact way1 hall'
        · have hjk : j ≠ k := fun e2 => by
            subst e2
            rw [hok] at hoj
            cases Option.some.inj hoj
            exact hnot e he hb heq
          have hk1 : (l.setIfInBounds j true).getD k true = false := by rw [getD_set_ne true hjk]; exact hk0
          exact ih (l.setIfInBounds j true) a' w' hfree' (ready_mono hr (Ne.symm hji)) hy2 (hsub _ (hs2 hk0 hjk)) (fun _ => hs2 hk0 hjk) (.inr hk1) hL2
/-- An operation that yields its value in whatever world is taken first. -/
theorem late_take {i : Nat} {oi : Oper} {v : Value} {m : Nat} {l : Array Bool} {a : Act} {w : World} (hi : ops[i]? = some oi)
    (hs : Region.noSelect ops = true) (hf : Region.free md ops l i = true) (hr : (Region.ready md ops l).contains i = true)
    (hQ : ∀ c a w, Q (.panic c) (a.put oi.dst v) w → Q (.panic c) a w) (hik : i ≠ k) (hy : YieldsIf P ops (fun _ => True) oi v a) (hS : l.getD k true = false → S w)
    (h : Late P md ops Q k S m (l.setIfInBounds i true) (a.put oi.dst v) w) : Late P md ops Q k S (m + 1) l a w :=
  late_first hi (Region.noSelect_spec hs) hQ hik (.inl fun _ => trivial) m l a w (Region.free_spec hi hf) (by simpa using hr) hy trivial hS (.inl fun _ => trivial) h
/-- A read is taken first: number k waits for it. -/
theorem late_read {i : Nat} {oi ok : Oper} {v : Value} {m : Nat} {l : Array Bool} {a : Act} {w : World} (hi : ops[i]? = some oi)
    (hs : Region.noSelect ops = true) (hf : Region.free md ops l i = true) (hr : (Region.ready md ops l).contains i = true)
    (hQ : ∀ c a w, Q (.panic c) (a.put oi.dst v) w → Q (.panic c) a w) (hik : i ≠ k) (hok : ops[k]? = some ok) (hed : ok.after.any (fun e => Region.binds md e && e.on == i) = true)
    (hy : YieldsIf P ops S oi v a) (hS : S w) (hlk : l.getD k true = false)
    (h : Late P md ops Q k S m (l.setIfInBounds i true) (a.put oi.dst v) w) : Late P md ops Q k S (m + 1) l a w := by
  obtain ⟨e, he, h2⟩ := Array.any_eq_true'.1 hed
  rw [Bool.and_eq_true, beq_iff_eq] at h2
  exact late_first hi (Region.noSelect_spec hs) hQ hik (.inr ⟨fun _ h => h, ok, hok, e, he, h2⟩) m l a w (Region.free_spec hi hf) (by simpa using hr) hy hS (fun _ => hS) (.inr hlk) h
/-- One alone may come up. -/
theorem late_one {i : Nat} {oi : Oper} {m : Nat} {l : Array Bool} {a : Act} {w : World} (hr : Region.ready md ops l = [i]) (hi : ops[i]? = some oi)
    (h : ∀ K' : Act → World → Prop, Shut (∀ a w, (l.getD k true = false → i ≠ k → S w) → Late P md ops Q k S m (l.setIfInBounds i true) a w → K' a w) → if Region.wanted oi (yielded ops a.tmps) = true then Oper.wp P oi a w K' Q else K' (a.put oi.dst undef) w) : Late P md ops Q k S (m + 1) l a w := by
  refine ⟨fun h0 => absurd (hr ▸ h0) (by simp), fun j hj => ?_⟩
  rw [hr, List.mem_singleton] at hj
  subst hj
  exact wpOp_step hi (fun K' hK => h K' (fun a w hS hW => hK a w ⟨hS, hW⟩))
theorem late_done {m : Nat} {l : Array Bool} {a : Act} {w : World} (hr : Region.ready md ops l = []) (h : Q .normal a w) : Late P md ops Q k S m l a w := by
  cases m with
  | zero => exact ⟨hr, h⟩
  | succ m => exact ⟨fun _ => h, by rw [hr]; simp⟩
theorem wp_region_late (k : Nat) (S : World → Prop) {id : Nat} {a : Act} {w : World} (hm : P.follows .mixedOrders = true) (hS : S w.drew)
    (h : S w.drew → Late P .any ops Q k S ops.size (Array.replicate ops.size false) a w.drew) : (Code.region id ops true).wp P Q a w :=
  wp_region_any hm (late_any _ _ _ _ (h hS))
end
end Go.Proofs.YtddifbimlmkcbaaGreatDoor
