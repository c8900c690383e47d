/- Map literals: an entry laid into a map that the call itself has made, the world written out. No condition. -/
import Derived.Test.YtahpjhnbjkjkiaaGreatDoorBase
import Derived.Maps.OwnSet
import Derived.Carry
namespace Go.Proofs.YtahpjhnbjkjkiaaGreatDoor
open Go.RowKit Go.ChangeMaps Go.MapKept

theorem heap_at (w : World) (o : Obj) (k : Nat) : (w.alloc o).heap[k]? = if k = w.heap.size then some o else w.heap[k]? := by
  simp only [World.alloc, Array.getElem?_push]
theorem size_at (w : World) (o : Obj) : (w.alloc o).heap.size = w.heap.size + 1 := by simp only [World.alloc, Array.size_push]
theorem set_new (w : World) (o1 o2 : Obj) : setBlock (w.alloc o1) w.heap.size o2 = w.alloc o2 := by
  unfold setBlock World.alloc
  congr 1
  apply Array.ext_getElem?
  intro i
  rw [Array.getElem?_setIfInBounds, Array.getElem?_push, Array.getElem?_push, Array.size_push]
  by_cases h : i = w.heap.size
  · subst h; simp
  · rw [if_neg (Ne.symm h), if_neg h, if_neg h]
theorem set_old (w : World) (o1 o2 : Obj) (b : Nat) (hb : b < w.heap.size) : setBlock (w.alloc o1) b o2 = (setBlock w b o2).alloc o1 := by
  unfold setBlock World.alloc
  simp only
  congr 1
  apply Array.ext_getElem?
  intro i
  rw [Array.getElem?_setIfInBounds, Array.getElem?_push, Array.getElem?_push, Array.getElem?_setIfInBounds, Array.size_push, Array.size_setIfInBounds]
  by_cases h : b = i
  · subst h
    rw [if_pos rfl, if_pos (by omega), if_neg (by omega), if_pos rfl, if_pos hb]
  · rw [if_neg h, if_neg h]

/-- New blocks, one behind the other. -/
def allocs (w : World) : List Obj → World
  | [] => w
  | o :: r => allocs (w.alloc o) r
theorem allocs_at : ∀ (L : List Obj) (w : World) (k : Nat), k < w.heap.size → (allocs w L).heap[k]? = w.heap[k]?
  | [], _, _, _ => rfl
  | o :: L, w, k, h => by
    rw [allocs, allocs_at L _ k (by rw [size_at]; omega), heap_at, if_neg (by omega)]
theorem allocs_set : ∀ (L : List Obj) (w : World) (b : Nat) (o : Obj), b < w.heap.size → setBlock (allocs w L) b o = allocs (setBlock w b o) L
  | [], _, _, _, _ => rfl
  | x :: L, w, b, o, h => by
    rw [allocs, allocs_set L _ b o (by rw [size_at]; omega), set_old _ _ _ _ h, allocs]

/-- An entry of a new key into the map that lies behind X, with new blocks L behind it. -/
theorem wpList_insert_lit {P : Program} {w : World} {ops : Array Oper} {rest : List Oper} {o : Oper} {a : Act} {Q : Exit → Act → World → Prop} (X : World) (b : Nat) (hXb : X.heap.size = b) (L : List Obj) (es : Array MapEntry) (clock : Nat)
    (hwx : w = allocs (X.alloc (.map es clock)) L) (hg : o.guard = none) (m x v : Operand) (t : TypeId) (hop : o.op = Op.insert t m x v) (k e : TypeId) (K : Go.Maps.Keyed P k) (ht : P.underlying t = some (.map k e)) (kd : TypeDesc) (hk : P.underlying k = some kd)
    (hm : a.eval m = .map (some b)) (key : Value) (kl : Lit) (hx : a.eval x = key) (hkey : keyOf P k key = some kl)
    (hnew : Instr.findNow kd key es.toList 0 = some none) (w' : World) (hw : allocs (X.alloc (.map (es.push ⟨key, a.eval v, clock⟩) (clock + 1))) L = w') (hK : wpList P ops Q rest (a.put o.dst undef) w') :
    wpList P ops Q (o :: rest) a w := by
  subst hXb
  refine wpList_plain hg fun K' hK' => ?_
  have hck := K.check w false hkey
  have hf : (Instr.findKey k key es.toList).run P w = .ok none w := by
    simp [Instr.findKey, run_underlying hk, hnew]
  have hb : w.heap[X.heap.size]? = some (.map es clock) := by
    rw [hwx, allocs_at _ _ _ (by rw [size_at]; omega), heap_at, if_pos rfl]
  have hset : ∀ o, setBlock w X.heap.size o = allocs (X.alloc o) L := fun o => by
    rw [hwx, allocs_set _ _ _ _ (by rw [size_at]; omega), set_new]
  have hrun : (Instr.mapUpdate t (.map (some X.heap.size)) key (a.eval v)).run P w = .ok () w' := by
    rw [← hw, ← hset]
    simp [Instr.mapUpdate, run_underlying ht, MapKept.run_getObj_map hb, hck, hf, MapKept.run_setObj_map _ hb, Result.andThen, setBlock]
  unfold Oper.wp
  simp [execOp, hop, hm, hx, hrun, Result.andThen]
  exact hK' _ _ hK

/-- A look-up in a map that is known whole. -/
theorem run_lookup_hit {P : Program} {w : World} {b : Nat} {es : Array MapEntry} {clock : Nat} {t k e : TypeId} {kd : TypeDesc} {key v : Value} {kl : Lit} {i : Nat} (K : Go.Maps.Keyed P k) (ht : P.underlying t = some (.map k e)) (hk : P.underlying k = some kd)
    (hb : w.heap[b]? = some (.map es clock)) (hkey : keyOf P k key = some kl) (hf : Instr.findNow kd key es.toList 0 = some (some (i, v))) (ok : Bool) :
    (Instr.lookup t (.map (some b)) key ok).run P w = .ok (if ok then .tuple #[v, .bool true] else v) w := by
  have hck := fun em => K.check w em hkey
  have hf' : (Instr.findKey k key es.toList).run P w = .ok (some (i, v)) w := by
    simp [Instr.findKey, run_underlying hk, hf]
  simp [Instr.lookup, run_underlying ht, MapKept.run_getObj_map hb, hck, hf', Result.andThen]
theorem run_lookup_miss {P : Program} {w : World} {b : Nat} {es : Array MapEntry} {clock : Nat} {t k e : TypeId} {kd : TypeDesc} {key z : Value} {kl : Lit} (K : Go.Maps.Keyed P k) (ht : P.underlying t = some (.map k e)) (hk : P.underlying k = some kd)
    (hb : w.heap[b]? = some (.map es clock)) (hkey : keyOf P k key = some kl) (hf : Instr.findNow kd key es.toList 0 = some none) (hz : (zeroValue e).run P w = .ok z w) (ok : Bool) :
    (Instr.lookup t (.map (some b)) key ok).run P w = .ok (if ok then .tuple #[z, .bool false] else z) w := by
  have hck := fun em => K.check w em hkey
  have hf' : (Instr.findKey k key es.toList).run P w = .ok none w := by
    simp [Instr.findKey, run_underlying hk, hf]
  simp [Instr.lookup, run_underlying ht, MapKept.run_getObj_map hb, hck, hf', hz, Result.andThen]
end Go.Proofs.YtahpjhnbjkjkiaaGreatDoor
