/- Structs that lie in a block of their own: stored whole, handed back whole. No condition. -/
import Derived.Test.YtahpjhnbjkjkiaaGreatDoorMapLit
import Derived.Deep.MidRow
import Derived.Laws.Rows
import Derived.Laws.ResultCell
namespace Go.Proofs.YtahpjhnbjkjkiaaGreatDoor
open Go.RowKit

theorem setCells_block : ∀ (vs : List Value) (o : Nat) (w : World) (b : Nat) (cs : Array Value) (t : TypeId), w.heap[b]? = some (.cells cs t (0, 0)) → o + vs.length ≤ cs.size →
    ∃ cs' : Array Value, (w.setCells b o vs).heap[b]? = some (.cells cs' t (0, 0)) ∧ cs'.size = cs.size ∧ (∀ j, j < o → cs'[j]? = cs[j]?) ∧ (∀ j v, vs[j]? = some v → cs'[o + j]? = some v)
  | [], o, w, b, cs, t, h, _ => ⟨cs, h, rfl, fun _ _ => rfl, fun j v hv => by simp at hv⟩
  | v :: r, o, w, b, cs, t, h, hl => by
    have h1 := heap_setCell_same w b o cs t v h
    obtain ⟨cs', h2, h3, h4, h5⟩ := setCells_block r (o + 1) (w.setCell ⟨b, o, none⟩ v) b (cs.setIfInBounds o v) t h1 (by simp at hl ⊢; omega)
    refine ⟨cs', h2, by rw [h3]; simp, fun j hj => ?_, fun j u hu => ?_⟩
    · rw [h4 j (by omega), Array.getElem?_setIfInBounds_ne (by omega)]
    · cases j with
      | zero =>
        rw [List.getElem?_cons_zero] at hu
        obtain rfl := Option.some.inj hu
        rw [Nat.add_zero, h4 o (by omega), Array.getElem?_setIfInBounds_self_of_lt (by simp at hl; omega)]
      | succ j =>
        have := h5 j u (by simpa using hu)
        rwa [show o + (j + 1) = o + 1 + j from by omega]
theorem setCells_grown : ∀ (vs : List Value) (o : Nat) (w : World) (b : Nat), w.grownBy (w.setCells b o vs) (some b) ∧ (w.setCells b o vs).heap.size = w.heap.size
  | [], _, w, _ => ⟨World.grownBy.refl _ _, rfl⟩
  | v :: r, o, w, b => by
    obtain ⟨h1, h2⟩ := setCells_grown r (o + 1) (w.setCell ⟨b, o, none⟩ v) b
    have h0 : w.grownBy (w.setCell ⟨b, o, none⟩ v) (some b) := ⟨rfl, rfl, rfl, by simp, fun k _ hk => Below.heap_setCell w ⟨b, o, none⟩ v k (fun e => hk (by rw [e]))⟩
    refine ⟨⟨h1.os.trans h0.os, h1.tape.trans h0.tape, h1.output.trans h0.output, Nat.le_trans h0.size h1.size, fun k hk hne => (h1.block k (Nat.lt_of_lt_of_le hk h0.size) hne).trans (h0.block k hk hne)⟩, ?_⟩
    show ((w.setCell ⟨b, o, none⟩ v).setCells b (o + 1) r).heap.size = _
    rw [h2]; simp
theorem setCells_whole {w : World} {b : Nat} {old cells : Array Value} {t : TypeId} (h : w.heap[b]? = some (.cells old t (0, 0))) (hs : cells.size = old.size) : (w.setCells b 0 cells.toList).heap[b]? = some (.cells cells t (0, 0)) := by
  obtain ⟨cs', h1, h2, _, h3⟩ := setCells_block cells.toList 0 w b old t h (by simp; omega)
  rw [h1]
  have : cs' = cells := by
    apply Array.ext_getElem?
    intro i
    by_cases hi : i < cells.size
    · have := h3 i (cells[i]) (by simp [hi])
      rw [Nat.zero_add] at this
      rw [this]; simp [hi]
    · rw [Array.getElem?_eq_none (by omega), Array.getElem?_eq_none (by omega)]
  rw [this]
/-- A struct stored whole into a block of its own. -/
theorem wpList_store_whole {P : Program} {ops : Array Oper} {rest : List Oper} {op : Oper} {a : Act} {w : World} {Q : Exit → Act → World → Prop} (hgd : op.guard = none) (ty : TypeId) (x y : Operand) (ho : op.op = .store ty x y)
    (b : Nat) (hx : a.eval x = .pointer (some ⟨b, 0, none⟩)) (cells : Array Value) (hy : a.eval y = .agg cells) (old : Array Value) (t : TypeId) (hb : w.heap[b]? = some (.cells old t (0, 0))) (hs : cells.size = old.size)
    (hi : (P.info? ty).map (·.size) = some cells.size) (h1 : ∀ v ∈ cells.toList, v.oneCell' = true)
    (h : ∀ w', w'.heap[b]? = some (.cells cells t (0, 0)) → w.grownBy w' (some b) → w'.heap.size = w.heap.size → wpList P ops Q rest (a.put op.dst undef) w') : wpList P ops Q (op :: rest) a w :=
  wpList_store_mid hgd ty x y ho b 0 cells hx hy (fun j hj => by
      rw [Nat.zero_add]
      refine ⟨?_, frozen_of_row w b j old t hb⟩
      rw [cell_of_row w b j old t (0, 0) hb, Array.getElem?_eq_getElem (by omega)]; rfl) hi (Array.all_eq_true_iff_forall_mem.2 (fun v hv => h1 v (by simpa using hv)))
    (h _ (setCells_whole hb hs) (setCells_grown _ _ _ _).1 (setCells_grown _ _ _ _).2)
theorem results_row_tmp {P : Program} {fn : Func} {p u : Tmp} {ty : TypeId} (h : fn.results = #[.cell p ty, .tmp u]) (tmps : Array Value) (w : World) (g : Nat) (t : TypeId) (cs : Array Value) (fr : Nat × Nat) (d : TypeDesc)
    (hp : tmps.getD p undef = .pointer (some ⟨g, 0, none⟩)) (hg : w.heap[g]? = some (.cells cs t fr))
    (hu : P.underlying ty = some d) (hd : (match d with | .struct _ | .array _ _ => true | _ => false) = true) (hi : (P.info? ty).map (·.size) = some cs.size) (v : Value) (hv : tmps.getD u undef = v) :
    (results fn tmps).run P w = .ok (.tuple #[.agg cs, v]) w := by
  rw [results_cell_tmp h, hp, hv]
  simp [asAddr, run_loadVar_row w g t ty cs fr d hg hu hd hi, Result.andThen]
end Go.Proofs.YtahpjhnbjkjkiaaGreatDoor
