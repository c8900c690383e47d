/- Both maps side by side: the program's, and the document's. No condition. -/
import Derived.Test.YtaooangnnlopcaaGreatDoorMapsAct
namespace Go.Proofs.YtaooangnnlopcaaGreatDoor
open Go.RowKit Go.ChangeMaps Go.MapKept
theorem flushE_ltR {ep : Nat} (h : ep < 18446744073709551616) (d : Int) : (flushE ep d).1 < 18446744073709551616 := by
  unfold flushE
  split
  · exact h
  · split <;> exact put_lt _ _ _
theorem givesV_epochR {c : CallD} {ep next : Nat} {was : ItemD} {there : Bool} {g : GivD} (h : givesV c ep next was there = some g) : g.epoch = ep ∨ g.epoch = (flushE ep c.exp).1 := by
  unfold givesV at h
  repeat' split at h
  all_goals (try cases h)
  all_goals (try (first | unfold casG | unfold countG | unfold flushG))
  all_goals (repeat' split)
  all_goals first
    | exact .inl rfl
    | exact .inr rfl
theorem dec_max (u : Nat) (h : u < 18446744073709551616) : (⟨(Lib.decDigits u).toArray⟩ : ByteArray).size ≤ maxLen := by
  have h1 : (Lib.decDigits u).length ≤ 20 := dec_short _ h
  unfold maxLen
  simp [ByteArray.size]
  omega
theorem countN_lt {up : Bool} {n b : Nat} (h : n < 18446744073709551616) : countN up n b < 18446744073709551616 := by
  unfold countN
  split
  · exact Nat.mod_lt _ (by omega)
  · omega
theorem givesV_value {c : CallD} {ep next : Nat} {was : ItemD} {there : Bool} {g : GivD} (h : givesV c ep next was there = some g) (hc : c.value.size ≤ maxLen) (hw : was.value.size ≤ maxLen) : g.isx.value.size ≤ maxLen := by
  have h0 : noItem.value.size ≤ maxLen := by show 0 ≤ maxLen; omega
  unfold givesV at h
  repeat' split at h
  all_goals (try cases h)
  all_goals (try (first | unfold casG | unfold countG | unfold flushG))
  all_goals (repeat' split)
  all_goals first
    | exact h0
    | exact hc
    | exact hw
    | exact dec_max _ (countN_lt (parse_lt (by assumption)))
/-- What holds of a map behind i acts. -/
structure MOk (m : MapM) (i : Nat) : Prop where
  len : m.L.length ≤ i
  ids : m.ids ≤ i
  ep : m.epoch < 18446744073709551616
  val : ∀ x ∈ m.L, x.value.size ≤ maxLen
theorem MOk.new : MOk newM 0 := ⟨Nat.le_refl _, Nat.le_refl _, by decide, fun x hx => by cases hx⟩
theorem MOk.more {m : MapM} {i j : Nat} (h : MOk m i) (hj : i ≤ j) : MOk m j := ⟨Nat.le_trans h.len hj, Nat.le_trans h.ids hj, h.ep, h.val⟩
theorem MOk.was {m : MapM} {i : Nat} (h : MOk m i) (k : ByteArray) : (wasL m.L k).value.size ≤ maxLen := by
  unfold wasL
  cases ha : atL m.L k with
  | none => show 0 ≤ maxLen; omega
  | some x => exact h.val x (List.mem_of_find?_eq_some ha)
theorem MOk.fits {m : MapM} {i : Nat} (h : MOk m i) {c : CallD} {ep : Nat} (hv : c.value.size ≤ maxLen) (he : ep < 18446744073709551616) (a : AnsD) : MOk (fitsM m c ep a).2 (i + 1) := by
  unfold fitsM
  cases hg : givesM m c ep with
  | none => exact h.more (Nat.le_succ _)
  | some g =>
    have hgv : givesV c ep (m.ids + 1) (wasL m.L c.key) (thereL m.L c.key ep) = some g := by
      unfold givesM at hg
      split at hg
      · exact hg
      · cases hg
    show MOk (if a = g.ans then (true, applyM m c.key g) else if g.stored = true ∧ (atL m.L c.key).isNone = true ∧ a = noRoom then (true, { m with epoch := ep }) else (false, m)).2 (i + 1)
    split
    · refine ⟨?_, ?_, ?_, ?_⟩
      · show (if g.gone then withoutL m.L c.key else if g.put then withoutL m.L c.key ++ [g.isx] else m.L).length ≤ i + 1
        have h1 := h.len
        have h2 := without_len m.L c.key
        split
        · omega
        · split
          · rw [List.length_append]; show _ + 1 ≤ _; omega
          · omega
      · show (if g.drawn then m.ids + 1 else m.ids) ≤ i + 1
        have := h.ids
        split <;> omega
      · show g.epoch < _
        rcases givesV_epochR hgv with e | e
        · rw [e]; exact he
        · rw [e]; exact flushE_ltR he _
      · intro x hx
        have hx' : x ∈ (if g.gone then withoutL m.L c.key else if g.put then withoutL m.L c.key ++ [g.isx] else m.L) := hx
        split at hx'
        · exact h.val x (mem_without.1 hx').1
        · split at hx'
          · rcases List.mem_append.1 hx' with h1 | h1
            · exact h.val x (mem_without.1 h1).1
            · obtain rfl : x = g.isx := by simpa using h1
              exact givesV_value hgv hv (h.was c.key)
          · exact h.val x hx'
    · split
      · exact ⟨Nat.le_succ_of_le h.len, Nat.le_succ_of_le h.ids, he, h.val⟩
      · exact h.more (Nat.le_succ _)
theorem MOk.drop {m : MapM} {i : Nat} (h : MOk m i) (x : ItemD) : MOk (dropM m x).2 (i + 1) := by
  unfold dropM
  split
  · exact ⟨Nat.le_trans (without_len _ _) (Nat.le_succ_of_le h.len), Nat.le_succ_of_le h.ids, h.ep, fun y hy => h.val y (mem_without.1 hy).1⟩
  · exact h.more (Nat.le_succ _)
/-- The two maps, and blocks that are kept beside them. -/
structure PlS (w W : World) (p r : Nat) (mm mr : MapM) (bs : List (Nat × Array Value × TypeId)) : Prop where
  lv : LvAt w W p mm []
  ref : ∃ v, RMap W r v mr
  rlow : w.heap.size ≤ r
  kept : ∀ x ∈ bs, x.2.2 ≠ 57 ∧ x.2.2 ≠ 31 ∧ W.heap[x.1]? = some (.cells x.2.1 x.2.2 (0, 0))
theorem cells_type {a b : Array Value} {t t' : TypeId} {f f' : Nat × Nat} (h : some (Obj.cells a t f) = some (Obj.cells b t' f')) : t = t' := by
  injection h with h
  injection h
section
variable {w W W' : World} {p r : Nat} {mm mr m' : MapM} {bs : List (Nat × Array Value × TypeId)}
theorem mm_not {g : Nat} {cs : Array Value} {t : TypeId} {fz : Nat × Nat} (h : MapAt W p mm) (hg : W.heap[g]? = some (.cells cs t fz)) (ht : t ≠ 57) : ¬ MM W p g := fun hM => by
  rcases MM.kind h hM with e | ⟨es, clock, e⟩
  · subst e
    obtain ⟨mb, hb, -⟩ := h
    rw [hg] at hb
    cases hb
    exact ht rfl
  · rw [hg] at e; cases e
/-- A step of the program's map. -/
theorem PlS.stepM (h : PlS w W p r mm mr bs) (hm : MapAt W' p m') (hc : MChg W p W') : PlS w W' p r m' mr bs := by
  refine ⟨h.lv.step hm hc, ?_, h.rlow, fun x hx => ⟨(h.kept x hx).1, (h.kept x hx).2.1, hc.chg.obj (h.kept x hx).2.2 (mm_not h.lv.map (h.kept x hx).2.2 (h.kept x hx).1)⟩⟩
  obtain ⟨v, hv⟩ := h.ref
  refine ⟨v, hv.kept hc.chg (mm_not h.lv.map hv.box (by decide)) (fun g ⟨cs, fz, hg⟩ => mm_not h.lv.map hg (by decide))⟩
/-- A step of the document's. -/
theorem PlS.stepR (h : PlS w W p r mm mr bs) (hr : ∃ v, RMap W' r v m') (hc : Chg (fun k => k = r) W W') : PlS w W' p r mm m' bs := by
  obtain ⟨v, hv⟩ := h.ref
  have hpr : p ≠ r := fun e => by
    subst e
    obtain ⟨mb, hb, -⟩ := h.lv.map
    rw [hv.box] at hb
    exact absurd (cells_type hb) (by decide)
  have hm := h.lv.map.kept hc hpr (fun b ⟨es, clock, hb⟩ e => by
    subst e
    rw [hv.box] at hb
    cases hb)
  obtain ⟨mb, h0, -, -⟩ := h.lv.map.cells
  have hrl := h.rlow
  refine ⟨⟨hm, h.lv.low, fun k hk => h.lv.new k ?_, h.lv.bel.trans (hc.below (fun k hk => ⟨Nat.lt_of_lt_of_le hk h.lv.bel.size, fun e => by omega⟩)), fun x hx => by cases hx⟩, hr, h.rlow, fun x hx => ⟨(h.kept x hx).1, (h.kept x hx).2.1, hc.obj (h.kept x hx).2.2 (fun e => ?_)⟩⟩
  · rw [hc.cell h0 hpr] at hk
    rw [h0]
    exact hk
  · have h2 := (h.kept x hx).2.2
    rw [e, hv.box] at h2
    exact (h.kept x hx).2.1 (cells_type h2).symm
theorem PlS.below (h : PlS w W p r mm mr bs) (hb : Below W.heap.size W W') : PlS w W' p r mm mr bs := by
  obtain ⟨v, hv⟩ := h.ref
  exact ⟨h.lv.below hb, ⟨v, hv.below hb⟩, h.rlow, fun x hx => ⟨(h.kept x hx).1, (h.kept x hx).2.1, (hb.block _ (Array.getElem?_eq_some_iff.1 (h.kept x hx).2.2).1).trans (h.kept x hx).2.2⟩⟩
theorem PlS.put {cs : Array Value} {t : TypeId} {o : Obj} (h : PlS w W p r mm mr bs) (hr : W'.heap[W.heap.size]? = some (.cells cs t (0, 0))) (hg : (W.alloc o).grownBy W' (some W.heap.size)) (h1 : t ≠ 57) (h2 : t ≠ 31) : PlS w W' p r mm mr ((W.heap.size, cs, t) :: bs) := by
  have hb : Below W.heap.size W W' := grown_below ((Below.refl _ _).alloc (Nat.le_refl _) o) (by rw [size_at]; omega) hg (fun k hk => by cases hk; exact Nat.le_refl _)
  have h3 := h.below hb
  refine ⟨h3.lv, h3.ref, h3.rlow, fun x hx => ?_⟩
  rcases List.mem_cons.1 hx with rfl | hx
  · exact ⟨h1, h2, hr⟩
  · exact h3.kept x hx
theorem PlS.add {q : Nat} {cs : Array Value} {t : TypeId} (h : PlS w W p r mm mr bs) (hr : W.heap[q]? = some (.cells cs t (0, 0))) (h1 : t ≠ 57) (h2 : t ≠ 31) : PlS w W p r mm mr ((q, cs, t) :: bs) :=
  ⟨h.lv, h.ref, h.rlow, fun x hx => by
    rcases List.mem_cons.1 hx with rfl | hx
    · exact ⟨h1, h2, hr⟩
    · exact h.kept x hx⟩
theorem PlS.none (h : PlS w W p r mm mr bs) : PlS w W p r mm mr [] := ⟨h.lv, h.ref, h.rlow, fun x hx => by cases hx⟩
theorem PlS.less {b : Nat × Array Value × TypeId} (h : PlS w W p r mm mr (b :: bs)) : PlS w W p r mm mr bs := ⟨h.lv, h.ref, h.rlow, fun x hx => h.kept x (.tail _ hx)⟩
/-- A block of one's own written over. -/
theorem PlS.over {q : Nat} {cs cs' : Array Value} {t : TypeId} (h : PlS w W p r mm mr ((q, cs, t) :: bs)) (hq : w.heap.size ≤ q) (hd : ∀ x ∈ bs, x.1 ≠ q) (ht : t ≠ 38) (hr : W'.heap[q]? = some (.cells cs' t (0, 0))) (hg : W.grownBy W' (some q)) : PlS w W' p r mm mr ((q, cs', t) :: bs) := by
  have hc : Chg (fun k => k = q) W W' := Chg.of_grown hg (fun i _ e => by cases e; rfl)
  obtain ⟨v, hv⟩ := h.ref
  have hk := h.kept _ (.head _)
  have hpq : p ≠ q := fun e => by
    subst e
    obtain ⟨mb, hb, -⟩ := h.lv.map
    rw [hk.2.2] at hb
    cases hb
    exact hk.1 rfl
  have hrq : r ≠ q := fun e => by
    subst e
    have h2 := hv.box
    rw [hk.2.2] at h2
    cases h2
    exact hk.2.1 rfl
  have hm := h.lv.map.kept hc hpq (fun b ⟨es, clock, hb⟩ e => by
    subst e
    rw [hk.2.2] at hb
    cases hb)
  obtain ⟨mb, h0, -, -⟩ := h.lv.map.cells
  refine ⟨⟨hm, h.lv.low, fun k hk => h.lv.new k ?_, h.lv.bel.trans (hc.below (fun k hk => ⟨Nat.lt_of_lt_of_le hk h.lv.bel.size, fun e => by omega⟩)), fun x hx => by cases hx⟩, ⟨v, hv.kept hc hrq (fun g ⟨cs2, fz, hg2⟩ e => by subst e; rw [hk.2.2] at hg2; cases hg2; exact ht rfl)⟩, h.rlow, fun x hx => ?_⟩
  · rw [hc.cell h0 hpq] at hk
    rw [h0]
    exact hk
  · rcases List.mem_cons.1 hx with rfl | hx
    · exact ⟨hk.1, hk.2.1, hr⟩
    · exact ⟨(h.kept x (.tail _ hx)).1, (h.kept x (.tail _ hx)).2.1, hc.obj (h.kept x (.tail _ hx)).2.2 (hd x hx)⟩
end
end Go.Proofs.YtaooangnnlopcaaGreatDoor
