/- A map of one's own, beside blocks that are written to. No condition. -/
import Derived.Test.YtaooangnnlopcaaDoorMapsCount1
import Derived.Test.YtaooangnnlopcaaDoorMapsKeep1
namespace Go.Proofs.YtaooangnnlopcaaDoor
open Go.RowKit Go.ChangeMaps Go.MapKept
theorem LvAt.base {w w0 W : World} {p : Nat} {m : MapM} {bs : List (Nat × Array Value)} (h : LvAt w0 W p m bs) (hb : Below w.heap.size w w0) : LvAt w W p m bs :=
  ⟨h.map, Nat.le_trans hb.size h.low, fun k hk => Nat.le_trans hb.size (h.new k hk), hb.trans (h.bel.mono hb.size), h.held⟩
theorem KpAt.add {w W : World} {p : Nat} {m : MapM} {bs : List (Nat × Array Value × TypeId)} (h : KpAt w W p m bs) {q : Nat} {cs : Array Value} {t : TypeId} (hq : q ≠ p) (hr : W.heap[q]? = some (.cells cs t (0, 0))) : KpAt w W p m ((q, cs, t) :: bs) :=
  ⟨h.lv, fun x hx => by
    rcases List.mem_cons.1 hx with rfl | hx
    · exact ⟨hq, hr⟩
    · exact h.kept x hx⟩
theorem LvAt.set {w W : World} {p : Nat} {m : MapM} {q i : Nat} {v : Value} {cs : Array Value} {t : TypeId} (h : LvAt w W p m []) (hp : q ≠ p) (hr : W.heap[q]? = some (.cells cs t (0, 0))) (hq : w.heap.size ≤ q) : LvAt w (W.setCell ⟨q, i, none⟩ v) p m [] := by
  have hc : Chg (fun k => k = q) W (W.setCell ⟨q, i, none⟩ v) := Chg.set (M := fun k => k = q) (Chg.refl _ _) (fun _ => rfl) _
  have hm := h.map.kept hc (fun e => hp e.symm) (fun b ⟨es, clock, hb⟩ e => by
    subst e
    rw [hr] at hb
    cases hb)
  obtain ⟨mb, h0, -, -⟩ := h.map.cells
  refine ⟨hm, h.low, fun k hk => h.new k ?_, h.bel.setCell hq _, fun x hx => by cases hx⟩
  rw [hc.cell h0 (fun e => hp e.symm)] at hk
  rw [h0]
  exact hk
theorem KpAt.set {w W : World} {p : Nat} {m : MapM} {bs : List (Nat × Array Value × TypeId)} {q i : Nat} {v : Value} {cs : Array Value} {t : TypeId} (h : KpAt w W p m ((q, cs, t) :: bs)) (hq : w.heap.size ≤ q) (hd : ∀ x ∈ bs, x.1 ≠ q) : KpAt w (W.setCell ⟨q, i, none⟩ v) p m ((q, cs.setIfInBounds i v, t) :: bs) := by
  have h1 := h.kept _ (.head _)
  refine ⟨h.lv.set h1.1 h1.2 hq, fun x hx => ?_⟩
  rcases List.mem_cons.1 hx with rfl | hx
  · exact ⟨h1.1, Go.Joins.block_setCell h1.2 v⟩
  · refine ⟨(h.kept x (.tail _ hx)).1, ?_⟩
    rw [Below.heap_setCell _ _ _ _ (by show x.1 ≠ q; exact hd x hx)]
    exact (h.kept x (.tail _ hx)).2
end Go.Proofs.YtaooangnnlopcaaDoor
