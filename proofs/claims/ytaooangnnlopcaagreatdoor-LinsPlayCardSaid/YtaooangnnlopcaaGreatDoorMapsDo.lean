/- A call done on a map, with its own answer (does). Condition: the map lies behind its pointer; the library's tables lie as they are laid. -/
import Derived.Test.YtaooangnnlopcaaGreatDoorMapsFits
namespace Go.Proofs.YtaooangnnlopcaaGreatDoor
open Go.RowKit Go.ChangeMaps Go.MapKept
/-- Where does stands. -/
structure DoAt (w W : World) (p : Nat) (m : MapM) (c : CallD) (q : Nat) (a : AnsD) : Prop where
  map : MapAt W p m
  box : W.heap[w.heap.size]? = some (.cells #[.int .u8 c.verb, .string c.key, .string c.value, .int .u32 c.flags, .int .i64 c.exp, .int .u64 c.id, .int .u64 c.by'] 35 (0, 0))
  res : W.heap[w.heap.size + 1]? = some (.cells #[.int .u8 0, .int .u64 0, .string ⟨#[]⟩, .string ⟨#[]⟩, .int .u32 0, .int .u64 0, .int .i64 0, .int .i64 0] 40 (0, 0))
  own : W.heap[q]? = some (.cells #[.int .u8 a.kind, .int .u64 a.number, .string a.item.key, .string a.item.value, .int .u32 a.item.flags, .int .u64 a.item.id, .int .i64 a.item.dies, .int .i64 a.item.gen] 40 (0, 0))
  chg : MChg w p W
  low : p < w.heap.size
  far : w.heap.size + 1 < q
theorem DoAt.mm {w W W' : World} {p : Nat} {m m' : MapM} {c : CallD} {q : Nat} {a : AnsD} (h : DoAt w W p m c q a) (hc : MChg W p W') (hm : MapAt W' p m') : DoAt w W' p m' c q a := by
  have h1 := h.low; have h2 := h.far
  refine ⟨hm, hc.chg.obj h.box (fun hk => ?_), hc.chg.obj h.res (fun hk => ?_), hc.chg.obj h.own (fun hk => ?_), h.chg.then hc, h.low, h.far⟩
  · rcases MM.kind h.map hk with e | ⟨es, clock, e⟩
    · omega
    · rw [h.box] at e; cases e
  · rcases MM.kind h.map hk with e | ⟨es, clock, e⟩
    · omega
    · rw [h.res] at e; cases e
  · rcases MM.kind h.map hk with e | ⟨es, clock, e⟩
    · omega
    · rw [h.own] at e; cases e
theorem DoAt.ret {w W W' : World} {p : Nat} {m : MapM} {c : CallD} {q : Nat} {a : AnsD} (h : DoAt w W p m c q a) (hg : W.grownBy W' (some (w.heap.size + 1))) : MapAt W' p m ∧ MChg w p W' := by
  have h1 := h.low
  have hc : Chg (fun k => k = w.heap.size + 1) W W' := Chg.of_grown hg (fun i _ e => by cases e; rfl)
  have hm := h.map
  obtain ⟨mb, hb, -⟩ := h.map
  refine ⟨h.map.kept hc (by omega) (fun b ⟨es, clock, hb⟩ e => ?_), h.chg.chg.then hc (fun i hi e => by omega), fun i hi e => h.chg.own i hi ?_⟩
  · subst e
    rw [h.res] at hb
    cases hb
  · have h0 := (cells_at hb 0).1
    rw [hc.cell h0 (by omega)] at e
    rw [h0]
    exact e
section
variable {w : World} {p : Nat} {m : MapM} {c : CallD} {ep : Nat}
end
end Go.Proofs.YtaooangnnlopcaaGreatDoor
