/- Plain: entries run through on a map, one behind the other; how far numbers and records go. Then: a map of one's own with blocks kept beside it. No condition. -/
import Derived.Test.YtaooangnnlopcaaDoorLinWell
import Derived.Test.YtaooangnnlopcaaDoorMapsRun
import Derived.Test.YtaooangnnlopcaaDoorRangeRec
namespace Go.Proofs.YtaooangnnlopcaaDoor
open Go.RowKit Go.ChangeMaps Go.MapKept
section
variable {cs : List CalledD} {ds : List DropD}
def runE (cs : List CalledD) (ds : List DropD) : List EntD → MapM → Bool × MapM
  | [], m => (true, m)
  | e :: l, m => if (stepE cs ds m e).1 then runE cs ds l (stepE cs ds m e).2 else (false, (stepE cs ds m e).2)
theorem runE_snoc {e : EntD} : ∀ {l : List EntD} {m : MapM}, (runE cs ds l m).1 = true → runE cs ds (l ++ [e]) m = stepE cs ds (runE cs ds l m).2 e
  | [], m, _ => by
    show (if (stepE cs ds m e).1 then (true, (stepE cs ds m e).2) else (false, (stepE cs ds m e).2)) = stepE cs ds m e
    generalize stepE cs ds m e = r
    obtain ⟨b, m'⟩ := r
    cases b <;> rfl
  | x :: l, m, h => by
    unfold runE at h
    show (if (stepE cs ds m x).1 then runE cs ds (l ++ [e]) (stepE cs ds m x).2 else (false, (stepE cs ds m x).2)) = stepE cs ds (if (stepE cs ds m x).1 then runE cs ds l (stepE cs ds m x).2 else (false, (stepE cs ds m x).2)).2 e
    split at h
    · rename_i h2
      rw [if_pos h2, if_pos h2]
      exact runE_snoc h
    · cases h
theorem goE_all : ∀ {l : List EntD} {i : Nat} {m : MapM}, (runE cs ds l m).1 = true → goE cs ds l i m = (-1, (runE cs ds l m).2)
  | [], _, _, _ => rfl
  | x :: l, i, m, h => by
    unfold runE at h ⊢
    unfold goE
    split at h
    · rename_i h2
      rw [if_pos h2, if_pos h2]
      exact goE_all h
    · cases h
theorem goE_stop : ∀ {l : List EntD} {i j : Nat} {m : MapM} {e : EntD}, (runE cs ds (l.take j) m).1 = true → l[j]? = some e → (stepE cs ds (runE cs ds (l.take j) m).2 e).1 = false → goE cs ds l i m = (((i + j : Nat) : Int), (stepE cs ds (runE cs ds (l.take j) m).2 e).2)
  | [], _, _, _, _, _, h, _ => by simp at h
  | x :: l, i, 0, m, e, _, he, hs => by
    obtain rfl : x = e := by simpa using he
    have hs2 : (stepE cs ds m x).1 = false := hs
    unfold goE
    rw [if_neg (by rw [hs2]; decide)]
    rfl
  | x :: l, i, j + 1, m, e, h, he, hs => by
    rw [List.take_succ_cons] at h hs ⊢
    unfold runE at h hs ⊢
    unfold goE
    split at h
    · rename_i h2
      rw [if_pos h2] at hs ⊢
      rw [if_pos h2, goE_stop h (by simpa using he) hs]
      congr 2
      omega
    · cases h
theorem fits_bound {m : MapM} {c : CallD} {ep : Nat} {a : AnsD} (hm : m.epoch < 18446744073709551616) (he : ep < 18446744073709551616) : (fitsM m c ep a).2.epoch < 18446744073709551616 ∧ (fitsM m c ep a).2.ids ≤ m.ids + 1 ∧ (fitsM m c ep a).2.L.length ≤ m.L.length + 1 := by
  unfold fitsM
  cases hg : givesM m c ep with
  | none => exact ⟨hm, Nat.le_succ _, Nat.le_succ _⟩
  | some g =>
    simp only
    split
    · refine ⟨?_, ?_, ?_⟩
      · show g.epoch < _
        unfold givesM at hg
        split at hg
        · rcases givesV_epoch hg with e | e
          · rw [e]; exact he
          · rw [e]; exact flushE_lt he _
        · cases hg
      · show (if g.drawn then m.ids + 1 else m.ids) ≤ _
        split <;> omega
      · show (if g.gone then withoutL m.L c.key else if g.put then withoutL m.L c.key ++ [g.isx] else m.L).length ≤ _
        have h1 : (withoutL m.L c.key).length ≤ m.L.length := List.length_filter_le _ _
        split
        · omega
        · split
          · simp; omega
          · omega
    · split
      · exact ⟨he, Nat.le_succ _, Nat.le_succ _⟩
      · exact ⟨hm, Nat.le_succ _, Nat.le_succ _⟩
theorem drop_bound {m : MapM} {x : ItemD} : (dropM m x).2.epoch = m.epoch ∧ (dropM m x).2.ids = m.ids ∧ (dropM m x).2.L.length ≤ m.L.length := by
  unfold dropM
  split
  · exact ⟨rfl, rfl, List.length_filter_le _ _⟩
  · exact ⟨rfl, rfl, Nat.le_refl _⟩
def isCallE (e : EntD) : Bool := decide (0 ≤ e.call)
theorem step_bound {m : MapM} {e : EntD} (hc : ∀ x ∈ cs, x.epoch < 18446744073709551616) (hm : m.epoch < 18446744073709551616) :
    (stepE cs ds m e).2.epoch < 18446744073709551616 ∧ (stepE cs ds m e).2.ids ≤ m.ids + 1 ∧ (stepE cs ds m e).2.L.length ≤ m.L.length + (if isCallE e then 1 else 0) := by
  unfold stepE isCallE
  by_cases h0 : 0 ≤ e.call
  · rw [if_pos h0, if_pos (by simpa using h0)]
    cases h : cs[e.call.toNat]? with
    | none => exact ⟨hm, Nat.le_succ _, Nat.le_succ _⟩
    | some c => exact fits_bound hm (hc c (List.mem_of_getElem? h))
  · rw [if_neg h0, if_neg (by simpa using h0)]
    cases h : ds[e.drop.toNat]? with
    | none => exact ⟨hm, Nat.le_succ _, Nat.le_refl _⟩
    | some d =>
      obtain ⟨h1, h2, h3⟩ := drop_bound (m := m) (x := d.item)
      exact ⟨by show (dropM m d.item).2.epoch < _; rw [h1]; exact hm, by show (dropM m d.item).2.ids ≤ _; omega, h3⟩
theorem run_bound (hc : ∀ x ∈ cs, x.epoch < 18446744073709551616) : ∀ {l : List EntD} {m : MapM}, m.epoch < 18446744073709551616 → (runE cs ds l m).2.epoch < 18446744073709551616 ∧ (runE cs ds l m).2.ids ≤ m.ids + l.length ∧ (runE cs ds l m).2.L.length ≤ m.L.length + l.countP isCallE
  | [], m, h => ⟨h, by simp [runE], by simp [runE]⟩
  | e :: l, m, h => by
    obtain ⟨h1, h2, h3⟩ := step_bound (ds := ds) (e := e) hc h
    unfold runE
    rw [List.length_cons, List.countP_cons]
    split
    · obtain ⟨k1, k2, k3⟩ := run_bound hc (l := l) h1
      exact ⟨k1, by omega, by omega⟩
    · exact ⟨h1, by show (stepE cs ds m e).2.ids ≤ _; omega, by show (stepE cs ds m e).2.L.length ≤ _; omega⟩
theorem go_bound (hc : ∀ x ∈ cs, x.epoch < 18446744073709551616) : ∀ {l : List EntD} {i : Nat} {m : MapM}, m.epoch < 18446744073709551616 → (goE cs ds l i m).2.L.length ≤ m.L.length + l.countP isCallE
  | [], _, m, h => by simp [goE]
  | e :: l, i, m, h => by
    obtain ⟨h1, h2, h3⟩ := step_bound (ds := ds) (e := e) hc h
    unfold goE
    rw [List.countP_cons]
    split
    · have := go_bound hc (l := l) (i := i + 1) h1
      omega
    · show (stepE cs ds m e).2.L.length ≤ _
      omega
end
/-- A map of one's own, and blocks of any kind kept beside it. -/
structure QpAt (w W : World) (p : Nat) (m : MapM) (bs : List (Nat × Array Value × TypeId)) : Prop where
  lv : LvAt w W p m []
  kept : ∀ x ∈ bs, x.1 ≠ p ∧ W.heap[x.1]? = some (.cells x.2.1 x.2.2 (0, 0))
theorem QpAt.step {w W W' : World} {p : Nat} {m m' : MapM} {bs : List (Nat × Array Value × TypeId)} (h : QpAt w W p m bs) (hm : MapAt W' p m') (hc : MChg W p W') : QpAt w W' p m' bs :=
  ⟨h.lv.step hm hc, fun x hx => ⟨(h.kept x hx).1, hc.chg.obj (h.kept x hx).2 (fun hM => by
    have h2 := h.kept x hx
    rcases MM.kind h.lv.map hM with e | ⟨es, clock, e⟩
    · exact h2.1 e
    · rw [h2.2] at e; cases e)⟩⟩
theorem QpAt.below {w W W' : World} {p : Nat} {m : MapM} {bs : List (Nat × Array Value × TypeId)} (h : QpAt w W p m bs) (hb : Below W.heap.size W W') : QpAt w W' p m bs :=
  h.step (h.lv.map.below hb) (MChg.below hb h.lv.map.lt)
theorem QpAt.keep {w W W' : World} {p : Nat} {m : MapM} {bs : List (Nat × Array Value × TypeId)} (h : QpAt w W p m bs) (hc : MChg W p W') (B : Nat) : KeepsR B W W' :=
  ⟨hc.chg.size, fun k o _ hk ho => hc.chg.obj hk (fun hM => by
    rcases MM.kind h.lv.map hM with e | ⟨es, clock, e⟩
    · obtain ⟨mb, hb, -⟩ := h.lv.map
      subst e
      rw [hk] at hb
      obtain rfl := Option.some.inj hb
      cases ho
    · rw [hk] at e
      obtain rfl := Option.some.inj e
      cases ho)⟩
theorem QpAt.turn {w W : World} {p : Nat} {m : MapM} {bs : List (Nat × Array Value × TypeId)} (h : QpAt w W p m bs) {l : Nat} {o o' : Obj} (hl : w.heap.size ≤ l) (ho : W.heap[l]? = some o) (hr : isRec o = true) : QpAt w (W.putObj l o') p m bs := by
  have hc : Chg (fun k => k = l) W (W.putObj l o') := ⟨rfl, rfl, rfl, by simp [World.putObj], fun k _ hk => World.putObj_heap_other (fun e => hk (by rw [e]))⟩
  have hne : ∀ {k : Nat} {c : Obj}, W.heap[k]? = some c → isRec c = false → k ≠ l := fun hk hcr e => by
    subst e
    rw [hk] at ho
    obtain rfl := Option.some.inj ho
    rw [hr] at hcr
    cases hcr
  obtain ⟨mb, hb, hmo⟩ := h.lv.map
  have hp : p ≠ l := hne hb rfl
  have hmap : MapAt (W.putObj l o') p m := ⟨mb, hc.obj hb hp, hmo.imp id (fun ⟨b, h1, es, clock, E, h2, h3⟩ => ⟨b, h1, es, clock, E, hc.obj h2 (hne h2 rfl), h3⟩)⟩
  refine ⟨⟨hmap, h.lv.low, fun k hk => h.lv.new k (by rwa [World.cell?_of_block (hc.block p (Array.getElem?_eq_some_iff.1 hb).1 hp)] at hk), h.lv.bel.trans (hc.below (fun k hk => ⟨Nat.lt_of_lt_of_le hk h.lv.bel.size, fun e => by omega⟩)), fun x hx => by cases hx⟩, fun x hx => ⟨(h.kept x hx).1, hc.obj (h.kept x hx).2 (hne (h.kept x hx).2 rfl)⟩⟩
end Go.Proofs.YtaooangnnlopcaaDoor
