/- Cells in memory: a map of addresses, a block for each word. No condition. And what goes with it (6 texts). -/
import Derived.Test.YtnkkoicbnbjlnaaGreatDoorMcA
import Derived.Maps.OwnSet
import Derived.Laws.LoneSync
import Derived.Lib.SmallJoins
import Derived.Test.YtnkkoicbnbjlnaaGreatDoorLowA
import Derived.Deep.RegionHeld3
import Derived.Test.YtnkkoicbnbjlnaaGreatDoorMcB
namespace Go.Proofs.YtnkkoicbnbjlnaaGreatDoor
set_option maxRecDepth 100000
set_option maxHeartbeats 8000000
open Go.RowKit Go.ChangeMaps Go.MapKept
structure AccM where
 kind : Nat
 addr : Nat
 was : Nat
 is : Nat
structure CellsM where
 f : Nat → Nat
 count : Nat
 last : AccM
def noAcc : AccM := ⟨0, 0, 0, 0⟩
def setF (f : Nat → Nat) (a v : Nat) : Nat → Nat := fun x => if x = a then v else f x
def CellsM.acc (c : CellsM) (k a v : Nat) : CellsM := ⟨setF c.f a v, c.count + 1, ⟨k, a, c.f a, v⟩⟩
def U64 (n : Nat) : Prop := n < 18446744073709551616
structure CellsM.Ok (c : CellsM) : Prop where
 f : ∀ a, U64 (c.f a)
 count : c.count < 4611686018427387904
theorem setF_same (f : Nat → Nat) (a : Nat) : setF f a (f a) = f := by
 funext x
 unfold setF
 split
 ·rename_i h; rw [h]
 ·rfl
theorem setF_at (f : Nat → Nat) (a v : Nat) : setF f a v a = v := by unfold setF; rw [if_pos rfl]
theorem setF_ne (f : Nat → Nat) {a x : Nat} (v : Nat) (h : x ≠ a) : setF f a v x = f x := by unfold setF; rw [if_neg h]
abbrev addrV (a : Nat) : Value := .int .u64 (a : Int)
abbrev ptrV (g : Nat) : Value := .pointer (some ⟨g, 0, none⟩)
def entW (e : MapEntry) : Value × Value := (e.key, e.val)
def wordV (e : Nat × Nat) : Value × Value := (addrV e.1, ptrV e.2)
def WMap (w : World) (mo : Option Nat) (E : List (Nat × Nat)) : Prop :=
 mo = none ∧ E = [] ∨ ∃ b, mo = some b ∧ ∃ (es : Array MapEntry) (clock : Nat), w.heap[b]? = some (.map es clock) ∧ es.toList.map entW = E.map wordV
structure WordsIs (w : World) (f : Nat → Nat) (E : List (Nat × Nat)) : Prop where
 nodup : (E.map (·.1)).Nodup
 inj : (E.map (·.2)).Nodup
 cell : ∀ e ∈ E, w.heap[e.2]? = some (.cells #[.int .u64 (f e.1 : Int)] 234 (0, 0))
 rest : ∀ a, a ∉ E.map (·.1) → f a = 0
 small : ∀ e ∈ E, U64 e.1
abbrev accCells (c : CellsM) (mo : Option Nat) : List Value := [.map mo, .int .i64 (c.count : Int), .int .u8 (c.last.kind : Int), .int .u64 (c.last.addr : Int), .int .u64 (c.last.was : Int), .int .u64 (c.last.is : Int)]
def CellsIs (p : Nat) (c : CellsM) : Thing := fun w S =>
 ∃ (mo : Option Nat) (E : List (Nat × Nat)), w.heap[p]? = some (.cells (accCells c mo).toArray 191 (0, 0)) ∧ WMap w mo E ∧ WordsIs w c.f E ∧ (∀ k, S k ↔ k = p ∨ mo = some k ∨ k ∈ E.map (·.2))
theorem WMap.keep {w w' : World} {M : Nat → Prop} {mo : Option Nat} {E : List (Nat × Nat)} (h : WMap w mo E) (hc : Chg M w w') (hM : ∀ b, mo = some b → ¬ M b) : WMap w' mo E := by
 rcases h with h | ⟨b, rfl, es, clock, h1, h2⟩
 ·exact .inl h
 ·exact .inr ⟨b, rfl, es, clock, hc.obj h1 (hM b rfl), h2⟩
theorem WordsIs.keep {w w' : World} {M : Nat → Prop} {f : Nat → Nat} {E : List (Nat × Nat)} (h : WordsIs w f E) (hc : Chg M w w') (hM : ∀ b ∈ E.map (·.2), ¬ M b) : WordsIs w' f E :=
 ⟨h.nodup, h.inj, fun e he => hc.obj (h.cell e he) (hM e.2 (List.mem_map.2 ⟨e, he, rfl⟩)), h.rest, h.small⟩
theorem framed_cells (p : Nat) (c : CellsM) : Framed (CellsIs p c) where
 keep := by
  rintro w w' S M ⟨mo, E, h1, h2, h3, hs⟩ hc hM
  exact ⟨mo, E, hc.obj h1 (fun e => (hM p e).1 ((hs p).2 (.inl rfl))), h2.keep hc (fun b hb e => (hM b e).1 ((hs b).2 (.inr (.inl hb)))), h3.keep hc (fun b hb e => (hM b e).1 ((hs b).2 (.inr (.inr hb)))), hs⟩
 txt := by
  rintro w S k ⟨mo, E, h1, h2, h3, hs⟩ hk e
  rcases (hs k).1 hk with rfl | rfl | hk
  ·exact absurd ((Tag.of h1).one e) (by decide)
  ·rcases h2 with ⟨h, -⟩ | ⟨b, h, es, clock, h4, -⟩
   ·cases h
   ·cases h
    obtain ⟨cs, fz, h5⟩ := e
    rw [h4] at h5
    cases h5
  ·obtain ⟨x, hx, rfl⟩ := List.mem_map.1 hk
   exact absurd ((Tag.of (h3.cell x hx)).one e) (by decide)
 lt := by
  rintro w S k ⟨mo, E, h1, h2, h3, hs⟩ hk
  rcases (hs k).1 hk with rfl | rfl | hk
  ·exact (Array.getElem?_eq_some_iff.1 h1).1
  ·rcases h2 with ⟨h, -⟩ | ⟨b, h, es, clock, h4, -⟩
   ·cases h
   ·cases h
    exact (Array.getElem?_eq_some_iff.1 h4).1
  ·obtain ⟨e, he, rfl⟩ := List.mem_map.1 hk
   exact (Array.getElem?_eq_some_iff.1 (h3.cell e he)).1
theorem addr_keyed : Go.Maps.Keyed Tryz.prog 148 := Go.Maps.int_keyed Tryz.underlying148
theorem key_addr {a : Nat} (h : U64 a) : keyOf Tryz.prog 148 (addrV a) = some (.int .u64 (a : Int)) := Go.Maps.keyOf_int_mk Tryz.underlying148 (by
 unfold U64 at h
 have h1 : (IntKind.u64.min ≤ (a : Int)) := by rw [show IntKind.u64.min = 0 from rfl]; omega
 have h2 : ((a : Int) ≤ IntKind.u64.max) := by rw [show IntKind.u64.max = 18446744073709551615 from rfl]; omega
 simp only [Lit.wf, h1, h2, decide_true, Bool.and_self])
def blkE (E : List (Nat × Nat)) (a : Nat) : Option Nat := (E.find? fun e => e.1 == a).map (·.2)
theorem wfind : ∀ {es : List MapEntry} {E : List (Nat × Nat)} (a i : Nat), es.map entW = E.map wordV →
  (blkE E a = none ∧ Instr.findNow (.int .u64) (addrV a) es i = some none) ∨ ∃ j g, blkE E a = some g ∧ (a, g) ∈ E ∧ Instr.findNow (.int .u64) (addrV a) es i = some (some (j, ptrV g))
 | [], [], _, _, _ => .inl ⟨rfl, rfl⟩
 | [], _ :: _, _, _, h => by simp at h
 | _ :: _, [], _, _, h => by simp at h
 | e :: es, (x, g) :: E, a, i, h => by
  simp only [List.map_cons, List.cons.injEq, entW, wordV, Prod.mk.injEq] at h
  obtain ⟨⟨hk, hv⟩, hr⟩ := h
  by_cases hx : a = x
  ·subst hx
   refine .inr ⟨i, g, ?_, List.mem_cons_self .., ?_⟩
   ·simp [blkE]
   ·simp [Instr.findNow, Instr.sameNow, hk, hv]
  ·have hne : ((a : Int) == (x : Int)) = false := by simp; omega
   have hb : blkE ((x, g) :: E) a = blkE E a := by
    unfold blkE
    rw [List.find?_cons, show (x == a) = false from by simp; omega]
   have hf : Instr.findNow (.int .u64) (addrV a) (e :: es) i = Instr.findNow (.int .u64) (addrV a) es (i + 1) := by
    simp only [Instr.findNow, Instr.sameNow, hk, hne, if_pos]
   rw [hb, hf]
   rcases wfind a (i + 1) hr with h | ⟨j, g', h1, h2, h3⟩
   ·exact .inl h
   ·exact .inr ⟨j, g', h1, List.mem_cons_of_mem _ h2, h3⟩
abbrev lookV (o : Option Nat) : Value := .pointer (o.map fun g => ⟨g, 0, none⟩)
theorem zeroPtr (w : World) : (zeroValue 192).run Tryz.prog w = .ok (.pointer none) w := by kernel_rfl
theorem WMap.look {w : World} {mo : Option Nat} {E : List (Nat × Nat)} (h : WMap w mo E) {a : Nat} (ha : U64 a) : (Instr.lookup 186 (.map mo) (addrV a) false).run Tryz.prog w = .ok (lookV (blkE E a)) w := by
 rcases h with ⟨rfl, rfl⟩ | ⟨b, rfl, es, clock, h1, h2⟩
 ·have hck := fun em => addr_keyed.check w em (key_addr ha)
  simp [Instr.lookup, run_underlying Tryz.underlying186, hck, Instr.findKey, run_underlying Tryz.underlying148, Instr.findNow, Result.andThen, blkE]
 ·rcases wfind a 0 h2 with ⟨h3, h4⟩ | ⟨j, g, h3, -, h4⟩
  ·rw [h3]
   exact run_lookup_miss addr_keyed Tryz.underlying186 Tryz.underlying148 h1 (key_addr ha) h4 (zeroPtr w) false
  ·rw [h3]
   exact run_lookup_hit addr_keyed Tryz.underlying186 Tryz.underlying148 h1 (key_addr ha) h4 false
theorem blk_mem {E : List (Nat × Nat)} {a g : Nat} (h : blkE E a = some g) : (a, g) ∈ E := by
 unfold blkE at h
 obtain ⟨e, he, rfl⟩ := Option.map_eq_some_iff.1 h
 have h1 := List.find?_some he
 have h2 := List.mem_of_find?_eq_some he
 obtain ⟨x, y⟩ := e
 have : x = a := by simpa using h1
 subst this
 exact h2
theorem blk_none {E : List (Nat × Nat)} {a : Nat} (h : blkE E a = none) : a ∉ E.map (·.1) := by
 unfold blkE at h
 rw [Option.map_eq_none_iff, List.find?_eq_none] at h
 intro hm
 obtain ⟨e, he, rfl⟩ := List.mem_map.1 hm
 exact absurd (h e he) (by simp)
theorem wmap_put {w : World} {b : Nat} {es : Array MapEntry} {clock : Nat} {E : List (Nat × Nat)} (hb : w.heap[b]? = some (.map es clock)) (he : es.toList.map entW = E.map wordV) {a : Nat} (ha : U64 a) (hn : blkE E a = none) (g : Nat) :
  ∃ w', (Instr.mapUpdate 186 (.map (some b)) (addrV a) (ptrV g)).run Tryz.prog w = .ok () w' ∧ (∃ es' clock', w'.heap[b]? = some (.map es' clock') ∧ es'.toList.map entW = (E ++ [(a, g)]).map wordV) ∧ Chg (fun k => k = b) w w' := by
 have hck := addr_keyed.check w false (key_addr ha)
 have hff : (Instr.findKey 148 (addrV a) es.toList).run Tryz.prog w = .ok none w := by
  rcases wfind a 0 he with ⟨h3, h4⟩ | ⟨j, g, h3, -, h4⟩
  ·exact run_findKey Tryz.underlying148 h4
  ·rw [hn] at h3; cases h3
 refine ⟨setBlock w b (.map (es.push ⟨addrV a, ptrV g, clock⟩) (clock + 1)), ?_, ⟨_, _, heap_setBlock_same hb _, ?_⟩, ⟨rfl, rfl, rfl, by simp [setBlock], fun k _ hk => heap_setBlock_other hb _ hk⟩⟩
 ·simp [Instr.mapUpdate, run_underlying Tryz.underlying186, MapKept.run_getObj_map hb, hck, hff, MapKept.run_setObj_map _ hb, Result.andThen, setBlock]
 ·rw [Array.toList_push, List.map_append, he, List.map_append]; rfl
open Go.RowKit
theorem wrapU (n : Nat) : IntKind.u64.wrap (n : Int) = ((n % 18446744073709551616 : Nat) : Int) := by rw [IntKind.wrap_u64]; omega
theorem run_call_swap {P : Program} {f : FuncId} {fn : Func} (hf : P.funcs[f]? = some fn) (hname : (fn.name == "runtime.NumGoroutine") = false) (hb : fn.body.isNone = true) (hn : Extern.findNext fn = none) (k : IntKind)
  (he : Extern.find fn = some (Extern.Atomic.swapT (.int k))) {a : Addr} {x y : Int} {w : World} (hc : w.cell? a = some (.int k x)) (hz : w.frozen? a = false) :
  (callFunc f #[.pointer (some a), .int k y]).run P w = .ok (.value (.int k x)) (w.setCell a (.int k y)) := by
 rw [run_callFunc_extern hf hname hb hn he]
 change (Sem.run P (do
  let a' ← asAddr (.pointer (some a))
  let old ← Extern.Atomic.read (.int k) a'
  store a' (.int k y) .atomic
  pure old) w).andThen _ = _
 simp [Extern.Atomic.read, asAddr, hc, hz, run_store P w a (.int k y) .atomic rfl, Result.andThen]
section
variable {w : World} {g : Nat} {x : Nat}
def WordB (w : World) (g x : Nat) : Prop := w.heap[g]? = some (.cells #[.int .u64 (x : Int)] 234 (0, 0))
theorem WordB.cell (h : WordB w g x) : w.cell? ⟨g, 0, none⟩ = some (.int .u64 (x : Int)) ∧ w.frozen? ⟨g, 0, none⟩ = false := cellsAt h 0
theorem WordB.set (h : WordB w g x) (y : Nat) : WordB (w.setCell ⟨g, 0, none⟩ (.int .u64 (y : Int))) g y := Go.Joins.block_setCell (i := 0) h _
theorem uload_any (h : WordB w g x) : Calls Tryz.prog 108 #[.pointer (some ⟨g, 0, none⟩)] w fun e w' => e = .returned (.int .u64 (x : Int)) ∧ w = w' := by
 have hl := run_call_load (P := Tryz.prog) Tryz.func146 (by kernel_rfl) (by kernel_rfl) (by kernel_rfl) .u64 (by kernel_rfl) h.cell.1
 clear h
 go_enter Tryz.func108, Tryz.ntmps108
 go_wp2_with fail
 go_ret
 exact ⟨rfl, rfl⟩
theorem ustore_any (h : WordB w g x) (y : Nat) : Calls Tryz.prog 91 #[.pointer (some ⟨g, 0, none⟩), .int .u64 (y : Int)] w fun e w' => (∃ v, e = .returned v) ∧ w' = w.setCell ⟨g, 0, none⟩ (.int .u64 (y : Int)) := by
 have hl := run_call_store (P := Tryz.prog) Tryz.func118 (by kernel_rfl) (by kernel_rfl) (by kernel_rfl) (by kernel_rfl) (k := .u64) (y := (y : Int)) h.cell.1 h.cell.2
 clear h
 go_enter Tryz.func91, Tryz.ntmps91
 go_wp2_with fail
 exact bodyPost_end (results_none (by exact Tryz.results91) _ _ _) rfl ⟨⟨_, rfl⟩, rfl⟩
theorem uswap_any (h : WordB w g x) (y : Nat) : Calls Tryz.prog 291 #[.pointer (some ⟨g, 0, none⟩), .int .u64 (y : Int)] w fun e w' => e = .returned (.int .u64 (x : Int)) ∧ w' = w.setCell ⟨g, 0, none⟩ (.int .u64 (y : Int)) := by
 have hl := run_call_swap (P := Tryz.prog) Tryz.func316 (by kernel_rfl) (by kernel_rfl) (by kernel_rfl) .u64 (by kernel_rfl) (y := (y : Int)) h.cell.1 h.cell.2
 clear h
 go_enter Tryz.func291, Tryz.ntmps291
 go_wp2_with fail
 go_ret
 exact ⟨rfl, rfl⟩
theorem uadd_any (h : WordB w g x) (y : Nat) : Calls Tryz.prog 216 #[.pointer (some ⟨g, 0, none⟩), .int .u64 (y : Int)] w fun e w' => e = .returned (.int .u64 (((x + y) % 18446744073709551616 : Nat) : Int)) ∧ w' = w.setCell ⟨g, 0, none⟩ (.int .u64 (((x + y) % 18446744073709551616 : Nat) : Int)) := by
 have hl := run_call_add (P := Tryz.prog) Tryz.func249 (by kernel_rfl) (by kernel_rfl) (by kernel_rfl) .u64 (by kernel_rfl) (y := (y : Int)) (s := (((x + y) % 18446744073709551616 : Nat) : Int)) h.cell.1 h.cell.2 (by
  have := wrapU (x + y)
  simp only [Op.intArith, Int.natCast_add] at this ⊢
  simp [this])
 clear h
 obtain ⟨s, hs⟩ : ∃ s : Int, s = (((x + y) % 18446744073709551616 : Nat) : Int) := ⟨_, rfl⟩
 rw [← hs] at hl ⊢
 clear hs
 go_enter Tryz.func216, Tryz.ntmps216
 go_wp2_with fail
 go_ret
 exact ⟨rfl, rfl⟩
theorem ucas_hit (h : WordB w g x) (y : Nat) : Calls Tryz.prog 111 #[.pointer (some ⟨g, 0, none⟩), .int .u64 (x : Int), .int .u64 (y : Int)] w fun e w' => e = .returned (.bool true) ∧ w' = w.setCell ⟨g, 0, none⟩ (.int .u64 (y : Int)) := by
 have hl := run_call_cas_hit (P := Tryz.prog) Tryz.func147 (by kernel_rfl) (by kernel_rfl) (by kernel_rfl) .u64 (by kernel_rfl) (y := (y : Int)) h.cell.1 h.cell.2
 clear h
 go_enter Tryz.func111, Tryz.ntmps111
 go_wp2_with fail
 go_ret
 exact ⟨rfl, rfl⟩
end
open Go.RowKit Go.ChangeMaps Go.MapKept
section
variable {w w' : World} {p : Nat} {c : CellsM} {S : Nat → Prop}
def AtIs (p : Nat) (c : CellsM) (a g : Nat) (w : World) (S : Nat → Prop) : Prop :=
 ∃ (mo : Option Nat) (E : List (Nat × Nat)), w.heap[p]? = some (.cells (accCells c mo).toArray 191 (0, 0)) ∧ WMap w mo E ∧ WordsIs w c.f E ∧ (∀ k, S k ↔ k = p ∨ mo = some k ∨ k ∈ E.map (·.2)) ∧ (a, g) ∈ E
theorem AtIs.cells {a g : Nat} (h : AtIs p c a g w S) : CellsIs p c w S := by
 obtain ⟨mo, E, h1, h2, h3, h4, -⟩ := h
 exact ⟨mo, E, h1, h2, h3, h4⟩
theorem AtIs.word {a g : Nat} (h : AtIs p c a g w S) : WordB w g (c.f a) := by
 obtain ⟨mo, E, h1, h2, h3, h4, h5⟩ := h
 exact h3.cell _ h5
theorem nodup_of_map {α β : Type} (f : α → β) : ∀ {l : List α}, (l.map f).Nodup → ∀ {x y : α}, x ∈ l → y ∈ l → f x = f y → x = y
 | [], _, _, _, hx, _, _ => nomatch hx
 | z :: l, h, x, y, hx, hy, e => by
  rw [List.map_cons, List.nodup_cons] at h
  have in_l : ∀ u ∈ l, f u ∈ l.map f := fun u hu => List.mem_map.2 ⟨u, hu, rfl⟩
  rcases List.mem_cons.1 hx with h1 | h1
  ·rcases List.mem_cons.1 hy with h2 | h2
   ·rw [h1, h2]
   ·exact absurd (by rw [← h1, e]; exact in_l y h2) h.1
  ·rcases List.mem_cons.1 hy with h2 | h2
   ·exact absurd (by rw [← h2, ← e]; exact in_l x h1) h.1
   ·exact nodup_of_map f h.2 h1 h2 e
theorem AtIs.store {a g : Nat} (h : AtIs p c a g w S) (v : Nat) : AtIs p { c with f := setF c.f a v } a g (w.setCell ⟨g, 0, none⟩ (.int .u64 (v : Int))) S ∧ Chg S w (w.setCell ⟨g, 0, none⟩ (.int .u64 (v : Int))) := by
 obtain ⟨mo, E, h1, h2, h3, h4, h5⟩ := h
 have hg : S g := (h4 g).2 (.inr (.inr (List.mem_map.2 ⟨_, h5, rfl⟩)))
 have hw := h3.cell _ h5
 have hc : Chg (fun k => k = g) w (w.setCell ⟨g, 0, none⟩ (.int .u64 (v : Int))) := Chg.set (M := fun k => k = g) (Chg.refl _ _) (fun _ => rfl) _
 refine ⟨⟨mo, E, hc.obj h1 (fun e => ?_), h2.keep hc (fun b hb e => ?_), ⟨h3.nodup, h3.inj, fun e he => ?_, fun x hx => ?_, h3.small⟩, h4, h5⟩, hc.mono (fun k _ e => by subst e; exact hg)⟩
 ·subst e
  exact absurd ((Tag.of hw).one (Tag.of h1)) (by decide)
 ·subst e
  rcases h2 with ⟨h, -⟩ | ⟨b', h, es, clock, h6, -⟩
  ·rw [h] at hb; cases hb
  ·rw [h] at hb
   cases hb
   rw [hw] at h6
   cases h6
 ·by_cases hne : e.2 = g
  ·obtain rfl : e = (a, g) := nodup_of_map (·.2) h3.inj he h5 hne
   show _ = some (Obj.cells #[.int .u64 (setF c.f a v a : Int)] _ _)
   rw [setF_at]
   exact Go.Joins.block_setCell (i := 0) hw _
  ·show _ = some (Obj.cells #[.int .u64 (setF c.f a v e.1 : Int)] _ _)
   rw [setF_ne _ _ (fun e' => hne (by rw [nodup_of_map (·.1) h3.nodup he h5 e']))]
   exact hc.obj (h3.cell e he) hne
 ·show setF c.f a v x = 0
  rw [setF_ne _ _ (fun e => hx (by rw [e]; exact List.mem_map.2 ⟨_, h5, rfl⟩))]
  exact h3.rest x hx
theorem AtIs.counted {a g : Nat} (h : AtIs p c a g w S) (n : Nat) : AtIs p { c with count := n } a g (w.setCell ⟨p, 1, none⟩ (.int .i64 (n : Int))) S ∧ Chg S w (w.setCell ⟨p, 1, none⟩ (.int .i64 (n : Int))) := by
 obtain ⟨mo, E, h1, h2, h3, h4, h5⟩ := h
 have hc : Chg (fun k => k = p) w (w.setCell ⟨p, 1, none⟩ (.int .i64 (n : Int))) := Chg.set (M := fun k => k = p) (Chg.refl _ _) (fun _ => rfl) _
 refine ⟨⟨mo, E, Go.Joins.block_setCell (i := 1) h1 _, h2.keep hc (fun b hb e => ?_), h3.keep hc (fun b hb e => ?_), h4, h5⟩, hc.mono (fun k _ e => by subst e; exact (h4 _).2 (.inl rfl))⟩
 ·subst e
  rcases h2 with ⟨h, -⟩ | ⟨b', h, es, clock, h6, -⟩
  ·rw [h] at hb; cases hb
  ·rw [h] at hb
   cases hb
   rw [h1] at h6
   cases h6
 ·subst e
  obtain ⟨x, hx, hxe⟩ := List.mem_map.1 hb
  have := h3.cell x hx
  rw [hxe] at this
  exact absurd ((Tag.of this).one (Tag.of h1)) (by decide)
abbrev zeroWord : Obj := .cells #[.int .u64 0] 234
theorem heap_new (w : World) (o : Obj) : (w.alloc o).heap[w.heap.size]? = some o := by rw [heap_at, if_pos rfl]
def AtStep (p : Nat) (c : CellsM) (a : Nat) (S : Nat → Prop) (w : World) (e : Ending) (w' : World) : Prop := ∃ g S', e = .returned (ptrV g) ∧ AtIs p c a g w' S' ∧ Chg S w w' ∧ ∀ k, S' k → S k ∨ w.heap.size ≤ k
theorem cat_hit {a g : Nat} {mo : Option Nat} {E : List (Nat × Nat)} (h1 : w.heap[p]? = some (.cells (accCells c mo).toArray 191 (0, 0))) (h2 : WMap w mo E) (ha : U64 a) (hg : blkE E a = some g) :
  Calls Tryz.prog 90 #[ptrV p, addrV a] w fun e w' => e = .returned (ptrV g) ∧ w = w' := by
 have c0 : w.cell? ⟨p, 0, none⟩ = some (.map mo) := (cellsAt h1 0).1
 have hl := h2.look ha
 rw [hg] at hl
 clear h1 h2 ha hg
 go_enter Tryz.func90, Tryz.ntmps90
 go_wp2_with fail
 go_ret
 exact ⟨rfl, rfl⟩
theorem cat_miss {a b : Nat} {es : Array MapEntry} {clock : Nat} {E : List (Nat × Nat)} (h1 : w.heap[p]? = some (.cells (accCells c (some b)).toArray 191 (0, 0))) (hb : w.heap[b]? = some (.map es clock)) (he : es.toList.map entW = E.map wordV) (ha : U64 a) (hg : blkE E a = none) :
  Calls Tryz.prog 90 #[ptrV p, addrV a] w fun e w' => e = .returned (ptrV w.heap.size) ∧ (∃ es' clock', w'.heap[b]? = some (.map es' clock') ∧ es'.toList.map entW = (E ++ [(a, w.heap.size)]).map wordV) ∧ Chg (fun k => k = b) (w.alloc zeroWord) w' := by
 have c0 : w.cell? ⟨p, 0, none⟩ = some (.map (some b)) := (cellsAt h1 0).1
 have hpl : p < w.heap.size := (Array.getElem?_eq_some_iff.1 h1).1
 have hbl : b < w.heap.size := (Array.getElem?_eq_some_iff.1 hb).1
 have hl := WMap.look (mo := some b) (.inr ⟨b, rfl, es, clock, hb, he⟩) ha
 rw [hg] at hl
 obtain ⟨w9, hrun, h9, hch⟩ := wmap_put (w := w.alloc zeroWord) (b := b) (by rw [heap_at, if_neg (by omega)]; exact hb) he ha hg w.heap.size
 have qn : ∀ (w : World) (r : Option Nat), (binOp .eql 186 (.map r) (.map none)).run Tryz.prog w = .ok (.bool r.isNone) w := fun w r => run_eql_map_nil w _ _ _ r Tryz.underlying186
 have H9 := hidZ h9
 have HC := hidZ hch
 clear h1 hb he ha hg h9 hch hbl
 go_enter Tryz.func90, Tryz.ntmps90
 go_wp2_with fail
 go_ret
 exact ⟨rfl, H9.out, HC.out⟩
theorem cat_none {a : Nat} (h1 : w.heap[p]? = some (.cells (accCells c none).toArray 191 (0, 0))) (ha : U64 a) :
  Calls Tryz.prog 90 #[ptrV p, addrV a] w fun e w' => e = .returned (ptrV (w.heap.size + 1)) ∧ (∃ es' clock', w'.heap[w.heap.size]? = some (.map es' clock') ∧ es'.toList.map entW = ([] ++ [(a, w.heap.size + 1)]).map wordV) ∧
   Chg (fun k => k = w.heap.size) (((w.setCell ⟨p, 0, none⟩ (.map (some w.heap.size))).alloc (.map #[] 0)).alloc zeroWord) w' := by
 have c0 : w.cell? ⟨p, 0, none⟩ = some (.map none) := (cellsAt h1 0).1
 have f0 := (cellsAt h1 0).2
 have hpl : p < w.heap.size := (Array.getElem?_eq_some_iff.1 h1).1
 have hl := WMap.look (w := w) (mo := none) (E := []) (.inl ⟨rfl, rfl⟩) ha
 have hs : (w.setCell ⟨p, 0, none⟩ (.map (some w.heap.size))).heap.size = w.heap.size := by simp
 obtain ⟨w9, hrun, h9, hch⟩ := wmap_put (w := ((w.setCell ⟨p, 0, none⟩ (.map (some w.heap.size))).alloc (.map #[] 0)).alloc zeroWord) (b := w.heap.size) (E := []) (es := #[]) (clock := 0) (by rw [heap_at, if_neg (by rw [size_at, hs]; omega), heap_at, if_pos hs.symm]) rfl ha rfl (w.heap.size + 1)
 have H9 := hidZ h9
 have HC := hidZ hch
 have hmm := @run_makeMap Tryz.prog
 have qn : ∀ (w : World) (r : Option Nat), (binOp .eql 186 (.map r) (.map none)).run Tryz.prog w = .ok (.bool r.isNone) w := fun w r => run_eql_map_nil w _ _ _ r Tryz.underlying186
 clear h1 ha h9 hch
 go_enter Tryz.func90, Tryz.ntmps90
 go_wp2_with fail
 go_ret
 exact ⟨rfl, H9.out, HC.out⟩
theorem WordsIs.snoc {f : Nat → Nat} {E : List (Nat × Nat)} (h : WordsIs w f E) {a g : Nat} (ha : U64 a) (hn : a ∉ E.map (·.1)) (hg : g ∉ E.map (·.2)) (hw : w.heap[g]? = some zeroWord) : WordsIs w f (E ++ [(a, g)]) where
 nodup := by
  rw [List.map_append, List.nodup_append]
  exact ⟨h.nodup, by simp, fun x hx y hy e => hn (by simp at hy; rw [← hy, ← e]; exact hx)⟩
 inj := by
  rw [List.map_append, List.nodup_append]
  exact ⟨h.inj, by simp, fun x hx y hy e => hg (by simp at hy; rw [← hy, ← e]; exact hx)⟩
 cell := fun e he => by
  rcases List.mem_append.1 he with he | he
  ·exact h.cell e he
  ·obtain rfl := List.mem_singleton.1 he
   show _ = some (Obj.cells #[.int .u64 (f a : Int)] _ _)
   rw [h.rest a hn]
   exact hw
 rest := fun x hx => h.rest x (fun hm => hx (by rw [List.map_append]; exact List.mem_append_left _ hm))
 small := fun e he => by
  rcases List.mem_append.1 he with he | he
  ·exact h.small e he
  ·obtain rfl := List.mem_singleton.1 he
   exact ha
theorem cat_any {a : Nat} (h : CellsIs p c w S) (ha : U64 a) : Calls Tryz.prog 90 #[ptrV p, addrV a] w fun e w' => AtStep p c a S w e w' := by
 have hlt := fun k hk => (framed_cells p c).lt (k := k) h hk
 obtain ⟨mo, E, h1, h2, h3, h4⟩ := h
 have hpl : p < w.heap.size := hlt p ((h4 p).2 (.inl rfl))
 cases hg : blkE E a with
 | some g =>
  refine (cat_hit h1 h2 ha hg).mono ?_
  rintro e w' ⟨rfl, rfl⟩
  exact ⟨g, S, rfl, ⟨mo, E, h1, h2, h3, h4, blk_mem hg⟩, Chg.refl _ _, fun _ h => .inl h⟩
 | none =>
  have hnew : w.heap.size ∉ E.map (·.2) := fun hm => by have := hlt _ ((h4 _).2 (.inr (.inr hm))); omega
  rcases h2 with ⟨rfl, rfl⟩ | ⟨b, rfl, es, clock, hb, he⟩
  ·refine (cat_none h1 ha).mono ?_
   rintro e w' ⟨rfl, ⟨es', clock', hb', he'⟩, hc⟩
   have hs : (w.setCell ⟨p, 0, none⟩ (.map (some w.heap.size))).heap.size = w.heap.size := by simp
   have hc0 : Chg S w (((w.setCell ⟨p, 0, none⟩ (.map (some w.heap.size))).alloc (.map #[] 0)).alloc zeroWord) := (((Chg.refl S w).set (fun _ => (h4 p).2 (.inl rfl)) _).alloc _).alloc _
   have hp0 : (((w.setCell ⟨p, 0, none⟩ (.map (some w.heap.size))).alloc (.map #[] 0)).alloc zeroWord).heap[p]? = some (.cells (accCells c (some w.heap.size)).toArray 191 (0, 0)) := by
    rw [heap_at, if_neg (by rw [size_at, hs]; omega), heap_at, if_neg (by rw [hs]; omega)]
    exact Go.Joins.block_setCell (i := 0) h1 _
   have hw0 : (((w.setCell ⟨p, 0, none⟩ (.map (some w.heap.size))).alloc (.map #[] 0)).alloc zeroWord).heap[w.heap.size + 1]? = some zeroWord := by
    rw [heap_at, if_pos (by rw [size_at, hs])]
   refine ⟨w.heap.size + 1, fun k => S k ∨ k = w.heap.size ∨ k = w.heap.size + 1, rfl, ⟨some w.heap.size, [(a, w.heap.size + 1)], hc.obj hp0 (by omega), .inr ⟨_, rfl, es', clock', hb', he'⟩, ?_, fun k => ?_, by simp⟩, ?_, fun k hk => ?_⟩
   ·refine (WordsIs.snoc (E := []) ⟨List.nodup_nil, List.nodup_nil, (fun _ h => nomatch h), h3.rest, (fun _ h => nomatch h)⟩ ha (by simp) (by simp) (hc.obj hw0 (by omega)))
   ·show (S k ∨ _) ↔ _
    rw [h4]
    simp only [List.map_nil, List.not_mem_nil, List.map_cons, List.mem_singleton, Option.some.injEq, reduceCtorEq, or_false]
    rw [eq_comm (a := w.heap.size)]
   ·exact hc0.then hc (fun i hi e => by omega)
   ·rcases hk with hk | hk | hk
    ·exact .inl hk
    ·exact .inr (by omega)
    ·exact .inr (by omega)
  ·refine (cat_miss h1 hb he ha hg).mono ?_
   rintro e w' ⟨rfl, ⟨es', clock', hb', he'⟩, hc⟩
   have hSb : S b := (h4 b).2 (.inr (.inl rfl))
   have hbl := hlt b hSb
   have hpb : p ≠ b := fun e => by
    subst e
    rw [h1] at hb
    cases hb
   have hw0 := heap_new w zeroWord
   refine ⟨w.heap.size, fun k => S k ∨ k = w.heap.size, rfl, ⟨some b, E ++ [(a, w.heap.size)], hc.obj (by rw [heap_at, if_neg (by omega)]; exact h1) hpb, .inr ⟨_, rfl, es', clock', hb', he'⟩, ?_, fun k => ?_, by simp⟩, ?_, fun k hk => ?_⟩
   ·refine WordsIs.snoc ?_ ha (blk_none hg) hnew (hc.obj hw0 (by omega))
    refine (h3.keep (M := fun _ => False) (Chg.of_below ((Below.refl _ _).alloc (Nat.le_refl _) _)) (fun _ _ e => e)).keep hc (fun k hk e => ?_)
    subst e
    obtain ⟨x, hx, hxe⟩ := List.mem_map.1 hk
    have := h3.cell x hx
    rw [hxe, hb] at this
    cases this
   ·show (S k ∨ _) ↔ _
    rw [h4]
    simp only [List.map_append, List.map_cons, List.map_nil, List.mem_append, List.mem_singleton, or_assoc]
   ·exact ((Chg.refl S w).alloc zeroWord).then hc (fun i hi e => by subst e; exact hSb)
   ·exact hk.imp id (fun e => by omega)
end
open Go.RowKit Go.ChangeMaps Go.MapKept
section
variable {w w' : World} {p : Nat} {c : CellsM} {S : Nat → Prop}
theorem AtIs.last {a g : Nat} (h : AtIs p c a g w S) (x : AccM) :
  CellsIs p { c with last := x } ((((w.setCell ⟨p, 2, none⟩ (.int .u8 (x.kind : Int))).setCell ⟨p, 3, none⟩ (.int .u64 (x.addr : Int))).setCell ⟨p, 4, none⟩ (.int .u64 (x.was : Int))).setCell ⟨p, 5, none⟩ (.int .u64 (x.is : Int))) S ∧
  Chg (fun k => k = p) w ((((w.setCell ⟨p, 2, none⟩ (.int .u8 (x.kind : Int))).setCell ⟨p, 3, none⟩ (.int .u64 (x.addr : Int))).setCell ⟨p, 4, none⟩ (.int .u64 (x.was : Int))).setCell ⟨p, 5, none⟩ (.int .u64 (x.is : Int))) := by
 obtain ⟨mo, E, h1, h2, h3, h4, h5⟩ := h
 have hc : Chg (fun k => k = p) w ((((w.setCell ⟨p, 2, none⟩ (.int .u8 (x.kind : Int))).setCell ⟨p, 3, none⟩ (.int .u64 (x.addr : Int))).setCell ⟨p, 4, none⟩ (.int .u64 (x.was : Int))).setCell ⟨p, 5, none⟩ (.int .u64 (x.is : Int))) :=
  ((((Chg.refl (fun k => k = p) w).set (fun _ => rfl) _).set (fun _ => rfl) _).set (fun _ => rfl) _).set (fun _ => rfl) _
 refine ⟨⟨mo, E, ?_, h2.keep hc (fun b hb e => ?_), h3.keep hc (fun b hb e => ?_), h4⟩, hc⟩
 ·exact Go.Joins.block_setCell (i := 5) (Go.Joins.block_setCell (i := 4) (Go.Joins.block_setCell (i := 3) (Go.Joins.block_setCell (i := 2) h1 _) _) _) _
 ·subst e
  rcases h2 with ⟨h, -⟩ | ⟨b', h, es, clock, h6, -⟩
  ·rw [h] at hb; cases hb
  ·rw [h] at hb
   cases hb
   rw [h1] at h6
   cases h6
 ·subst e
  obtain ⟨x, hx, hxe⟩ := List.mem_map.1 hb
  have := h3.cell x hx
  rw [hxe] at this
  exact absurd ((Tag.of this).one (Tag.of h1)) (by decide)
def AccStep (p : Nat) (c : CellsM) (S D : Nat → Prop) (R : World → Prop) (w w' : World) : Prop := ∃ S', CellsIs p c w' S' ∧ Chg (fun k => S k ∨ D k) w w' ∧ (∀ k, S' k → S k ∨ w.heap.size ≤ k) ∧ R w'
theorem access_any {F : Nat} {cap : Array Value} {D : Nat → Prop} {R : World → Prop} {k a v : Nat} (h : CellsIs p c w S) (ha : U64 a) (hn : c.count < 4611686018427387904)
  (henter : ∀ (g : Nat) (W : World), (callFunc F (#[ptrV g] ++ cap)).run Tryz.prog W = .ok (.enter F (#[ptrV g] ++ cap)) W)
  (hF : ∀ (g : Nat) (S' : Nat → Prop) (W : World), AtIs p c a g W S' → Chg S w W → (∀ k, S' k → S k ∨ w.heap.size ≤ k) → Calls Tryz.prog F (#[ptrV g] ++ cap) W fun e w' => e = .returned (.int .u64 (c.f a : Int)) ∧ AtIs p { c with f := setF c.f a v } a g w' S' ∧ Chg (fun k => S' k ∨ D k) W w' ∧ R w')
  (hR : ∀ W W', R W → Chg (fun k => k = p) W W' → R W') :
  Calls Tryz.prog 109 #[ptrV p, .int .u8 (k : Int), addrV a, .func (.func F) #[] cap] w fun e w' => e = .returned (.int .u64 (c.f a : Int)) ∧ AccStep p (c.acc k a v) S D R w w' := by
 have HA := hidZ (cat_any h ha)
 have HF := hidZ hF
 have HR := hidZ hR
 have hw : IntKind.i64.wrap ((c.count : Int) + 1) = ((c.count + 1 : Nat) : Int) := IntWalk.i64_in _ (by omega)
 clear h hF hR ha
 obtain ⟨n1, hn1⟩ := xE (c.count + 1)
 rw [← hn1] at hw
 go_enter Tryz.func109, Tryz.ntmps109
 go_wp2_with fail
 refine HA.out.mono ?_
 rintro e w1 ⟨g, S1, rfl, hat, hch, hsub⟩
 have HC := hidZ (HF.out g S1 w1 hat hch hsub)
 have HCH := hidZ hch
 have HSUB := hidZ hsub
 clear hat hch hsub HA HF
 go_wp2_with fail
 refine HC.out.mono ?_
 rintro e w2 ⟨rfl, hat, hch, hr⟩
 clear HC
 have hat0 := hat
 obtain ⟨mo, E, h1, h2, h3, h4, h5⟩ := hat
 have c1 : w2.cell? ⟨p, 1, none⟩ = some (.int .i64 (c.count : Int)) := (cellsAt h1 1).1
 have c2 : w2.cell? ⟨p, 2, none⟩ = some (.int .u8 (c.last.kind : Int)) := (cellsAt h1 2).1
 have c3 : w2.cell? ⟨p, 3, none⟩ = some (.int .u64 (c.last.addr : Int)) := (cellsAt h1 3).1
 have c4 : w2.cell? ⟨p, 4, none⟩ = some (.int .u64 (c.last.was : Int)) := (cellsAt h1 4).1
 have c5 : w2.cell? ⟨p, 5, none⟩ = some (.int .u64 (c.last.is : Int)) := (cellsAt h1 5).1
 have f1 := (cellsAt h1 1).2
 have f2 := (cellsAt h1 2).2
 have f3 := (cellsAt h1 3).2
 have f4 := (cellsAt h1 4).2
 have f5 := (cellsAt h1 5).2
 obtain ⟨hat3, hch3⟩ := hat0.counted n1
 have hword := hat3.word
 rw [show ({ ({ c with f := setF c.f a v } : CellsM) with count := n1 } : CellsM).f a = v from setF_at _ _ _] at hword
 have HU := hidZ (uload_any hword)
 have HL := hidZ (hat3.last ⟨k, a, c.f a, v⟩)
 have HCH3 := hidZ hch3
 have HCH2 := hidZ hch
 have HRR := hidZ hr
 have HN := hidZ hn1
 have HS1 := hidZ (show S1 p from (h4 p).2 (.inl rfl))
 clear h1 h2 h3 h4 h5 hat0 hat3 hch3 hword hch hr hn1 hn
 go_wp2_with fail
 refine HU.out.mono ?_
 rintro e w3 ⟨rfl, rfl⟩
 clear HU
 go_wp2_with fail
 go_ret
 obtain ⟨hl, hlc⟩ := HL.out
 have hp1 : Chg (fun k => k = p) w2 (w2.setCell ⟨p, 1, none⟩ (.int .i64 (n1 : Int))) := Chg.set (M := fun k => k = p) (Chg.refl _ _) (fun _ => rfl) _
 have hx : c.acc k a v = { f := setF c.f a v, count := n1, last := ⟨k, a, c.f a, v⟩ } := by unfold CellsM.acc; rw [HN.out]
 refine ⟨rfl, S1, by rw [hx]; exact hl, ?_, HSUB.out, HR.out _ _ HRR.out (hp1.trans hlc)⟩
 have hA : Chg (fun k => S1 k ∨ D k) w1 _ := (HCH2.out.trans (hp1.mono (fun k _ e => by rw [e]; exact .inl HS1.out))).trans (hlc.mono (fun k _ e => by rw [e]; exact .inl HS1.out))
 refine (HCH.out.mono (fun k _ h => Or.inl h)).then hA (fun i hi e => ?_)
 rcases e with e | e
 ·rcases HSUB.out i e with e | e
  ·exact .inl e
  ·omega
 ·exact .inr e
theorem AccStep.stp {c' : CellsM} {R : World → Prop} (h : AccStep p c' S (fun _ => False) R w w') : Stp (CellsIs p c') S w w' := by
 obtain ⟨S', h1, h2, h3, -⟩ := h
 exact ⟨S', h1, h2.mono (fun k _ e => e.elim id (fun e => e.elim)), h3⟩
theorem cload_any {a : Nat} (h : CellsIs p c w S) (ha : U64 a) (hn : c.count < 4611686018427387904) :
  Calls Tryz.prog 186 #[ptrV p, addrV a] w fun e w' => e = .returned (.int .u64 (c.f a : Int)) ∧ Stp (CellsIs p (c.acc 1 a (c.f a))) S w w' := by
 have HA := hidZ (access_any (F := 108) (cap := #[]) (D := fun _ => False) (R := fun _ => True) (k := 1) (v := c.f a) h ha hn (fun g W => by kernel_rfl) (fun g S' W hat hch hs => by
  refine (uload_any hat.word).mono ?_
  rintro e w' ⟨rfl, rfl⟩
  refine ⟨rfl, ?_, Chg.refl _ _, trivial⟩
  rw [setF_same]
  exact hat) (fun _ _ _ _ => trivial))
 clear h ha hn
 go_enter Tryz.func186, Tryz.ntmps186
 go_wp2_with fail
 refine HA.out.mono ?_
 rintro e w1 ⟨rfl, hs⟩
 have HS := hidZ hs.stp
 clear hs HA
 go_wp2_with fail
 go_ret
 exact ⟨rfl, HS.out⟩
end
open Go.RowKit Go.ChangeMaps Go.MapKept
section
variable {w w' : World} {p : Nat} {c : CellsM} {S : Nat → Prop}
theorem AtIs.drew {a g : Nat} (h : AtIs p c a g w S) : AtIs p c a g w.drew S := by
 obtain ⟨mo, E, h1, h2, h3, h4, h5⟩ := h
 exact ⟨mo, E, h1, h2, h3.keep (M := fun _ => False) ((Chg.refl _ w).drew) (fun _ _ e => e), h4, h5⟩
abbrev boxU (v : Nat) : Obj := .cells #[.int .u64 (v : Int)] 24
theorem box_kept {A : Thing} (hA : Framed A) (h : A w S) (o : Obj) {W : World} (hc : Chg S (w.alloc o) W) : W.heap[w.heap.size]? = some o ∧ ¬ S w.heap.size := by
 have hn : ¬ S w.heap.size := fun e => by have := hA.lt h e; omega
 exact ⟨hc.obj (heap_new w o) hn, hn⟩
theorem AccStep.behind {c' : CellsM} {R : World → Prop} {o : Obj} (h : AccStep p c' S (fun _ => False) R (w.alloc o) w') : Stp (CellsIs p c') S w w' := by
 obtain ⟨S', h1, h2, h3⟩ := h.stp
 exact ⟨S', h1, ((Chg.refl S w).alloc o).then h2 (fun _ _ e => e), fun k hk => (h3 k hk).imp id (fun e => by rw [size_at] at e; omega)⟩
theorem cellsIs_alloc (h : CellsIs p c w S) (o : Obj) : CellsIs p c (w.alloc o) S := (framed_cells p c).below h ((Below.refl _ _).alloc (Nat.le_refl _) _)
theorem swaps_any (v : Nat) (w : World) : Calls Tryz.prog 261 #[.int .u64 (v : Int)] w fun e w' => e = .returned (.func (.func 290) #[] #[ptrV w.heap.size]) ∧ w' = w.alloc (boxU v) := by
 have hmf := @mkFn Tryz.prog
 go_enter Tryz.func261, Tryz.ntmps261
 go_wp2_with fail
 go_ret
 exact ⟨rfl, rfl⟩
theorem swaps1_any {g bx x v : Nat} (h : WordB w g x) (hb : w.cell? ⟨bx, 0, none⟩ = some (.int .u64 (v : Int))) : Calls Tryz.prog 290 #[ptrV g, ptrV bx] w fun e w' => e = .returned (.int .u64 (x : Int)) ∧ w' = w.setCell ⟨g, 0, none⟩ (.int .u64 (v : Int)) := by
 have HS := hidZ (uswap_any h v)
 clear h
 go_enter Tryz.func290, Tryz.ntmps290
 go_wp2_with fail
 refine HS.out.mono ?_
 rintro e w1 ⟨rfl, rfl⟩
 go_wp2_with fail
 go_ret
 exact ⟨rfl, rfl⟩
theorem cstore_any {a v : Nat} (h : CellsIs p c w S) (ha : U64 a) (hn : c.count < 4611686018427387904) :
  Calls Tryz.prog 227 #[ptrV p, addrV a, .int .u64 (v : Int)] w fun e w' => e = .returned (.int .u64 (c.f a : Int)) ∧ Stp (CellsIs p (c.acc 2 a v)) S w w' := by
 have HS := hidZ (swaps_any v w)
 have HA := hidZ (access_any (F := 290) (cap := #[ptrV w.heap.size]) (D := fun _ => False) (R := fun _ => True) (k := 2) (v := v) (cellsIs_alloc h (boxU v)) ha hn (fun g W => by kernel_rfl) (fun g S' W hat hch hs => by
  obtain ⟨hbx, -⟩ := box_kept (framed_cells p c) h (boxU v) hch
  refine (swaps1_any hat.word (cellsAt hbx 0).1).mono ?_
  rintro e w' ⟨rfl, rfl⟩
  obtain ⟨h1, h2⟩ := hat.store v
  exact ⟨rfl, h1, h2.mono (fun _ _ e => .inl e), trivial⟩) (fun _ _ _ _ => trivial))
 clear h ha hn
 go_enter Tryz.func227, Tryz.ntmps227
 go_wp2_with fail
 refine HS.out.mono ?_
 rintro e w0 ⟨rfl, rfl⟩
 go_wp2_with fail
 refine HA.out.mono ?_
 rintro e w1 ⟨rfl, hs⟩
 have HS := hidZ hs.behind
 clear hs HA
 go_wp2_with fail
 go_ret
 exact ⟨rfl, HS.out⟩
theorem add1_any {g bx x v : Nat} (h : WordB w g x) (hx : x < 18446744073709551616) (hb : w.cell? ⟨bx, 0, none⟩ = some (.int .u64 (v : Int))) (hne : bx ≠ g) : Calls Tryz.prog 215 #[ptrV g, ptrV bx] w fun e w' => e = .returned (.int .u64 (x : Int)) ∧ ∃ W, w' = World.setCell W ⟨g, 0, none⟩ (.int .u64 (((x + v) % 18446744073709551616 : Nat) : Int)) ∧ W = w.drew := by
 have HS := hidZ (uadd_any (w := w.drew) h v)
 have hsub : IntKind.u64.wrap ((((x + v) % 18446744073709551616 : Nat) : Int) - (v : Int)) = (x : Int) := by rw [IntKind.wrap_u64]; omega
 obtain ⟨s, hs⟩ : ∃ s : Int, s = (((x + v) % 18446744073709551616 : Nat) : Int) := ⟨_, rfl⟩
 rw [← hs] at HS hsub ⊢
 clear hs h hx
 go_enter Tryz.func215, Tryz.ntmps215
 go_upto_region 1 with fail
 refine wp_region_held_drew (S := fun W => W.cell? ⟨bx, 0, none⟩ = some (.int .u64 (v : Int))) (by kernel_rfl) hb (fun hHe => ?_)
 refine tkz 0 rfl ?_
 try simp only [tp, tz]
 refine tkz 1 rfl ?_
 try simp only [tp, tz]
 refine tkz 3 rfl ?_
 try simp only [tp, tz]
 refine rdy 2 rfl (fun K hK => ?_)
 go_simp
 go_at_call 216
 refine (HS.out).mono ?_
 rintro e w1 ⟨rfl, rfl⟩
 refine hK.out _ _ ((World.cell?_setCell_other _ ⟨g, 0, none⟩ ⟨bx, 0, none⟩ _ (by simp <;> omega)).trans hb) (fun hHf => ?_)
 clear hK K
 try simp only [tp, tz]
 refine tkz 4 rfl ?_
 try simp only [tp, tz]
 refine tkz 5 rfl ?_
 try simp only [tp, tz]
 refine wpAnyH_done (by kernel_rfl) ?_ _
 clear hHe
 go_wp2_with fail
 go_ret
 exact ⟨rfl, _, rfl, rfl⟩
theorem cadd_any {a v : Nat} (h : CellsIs p c w S) (ha : U64 a) (hfa : U64 (c.f a)) (hn : c.count < 4611686018427387904) :
  Calls Tryz.prog 184 #[ptrV p, addrV a, .int .u64 (v : Int)] w fun e w' => e = .returned (.int .u64 (c.f a : Int)) ∧ Stp (CellsIs p (c.acc 4 a ((c.f a + v) % 18446744073709551616))) S w w' := by
 have hmf := @mkFn Tryz.prog
 have HA := hidZ (access_any (F := 215) (cap := #[ptrV w.heap.size]) (D := fun _ => False) (R := fun _ => True) (k := 4) (v := (c.f a + v) % 18446744073709551616) (cellsIs_alloc h (boxU v)) ha hn (fun g W => by kernel_rfl) (fun g S' W hat hch hs => by
  obtain ⟨hbx, hnS⟩ := box_kept (framed_cells p c) h (boxU v) hch
  have hg : w.heap.size ≠ g := fun e => by
   subst e
   exact absurd ((Tag.of hbx).one (Tag.of hat.word)) (by decide)
  refine (add1_any hat.word hfa (cellsAt hbx 0).1 hg).mono ?_
  rintro e w' ⟨rfl, W1, rfl, rfl⟩
  obtain ⟨h1, h2⟩ := AtIs.store (w := W.drew) (S := S') hat.drew ((c.f a + v) % 18446744073709551616)
  exact ⟨rfl, h1, (((Chg.refl S' W).drew).trans h2).mono (fun _ _ e => .inl e), trivial⟩) (fun _ _ _ _ => trivial))
 clear h ha hn hfa
 go_enter Tryz.func184, Tryz.ntmps184
 go_wp2_with fail
 refine HA.out.mono ?_
 rintro e w1 ⟨rfl, hs⟩
 have HS := hidZ hs.behind
 clear hs HA
 go_wp2_with fail
 go_ret
 exact ⟨rfl, HS.out⟩
theorem ccount_any (h : CellsIs p c w S) : Calls Tryz.prog 74 #[ptrV p] w fun e w' => e = .returned (.int .i64 (c.count : Int)) ∧ w = w' := by
 obtain ⟨mo, E, h1, -, -, -⟩ := h
 have c1 : w.cell? ⟨p, 1, none⟩ = some (.int .i64 (c.count : Int)) := (cellsAt h1 1).1
 clear h1
 go_enter Tryz.func74, Tryz.ntmps74
 go_wp2_with fail
 go_ret
 exact ⟨rfl, rfl⟩
theorem cpeek_any {a : Nat} (h : CellsIs p c w S) (ha : U64 a) : Calls Tryz.prog 75 #[ptrV p, addrV a] w fun e w' => e = .returned (.int .u64 (c.f a : Int)) ∧ w = w' := by
 obtain ⟨mo, E, h1, h2, h3, -⟩ := h
 have c0 : w.cell? ⟨p, 0, none⟩ = some (.map mo) := (cellsAt h1 0).1
 have hl := h2.look ha
 cases hg : blkE E a with
 | none =>
  rw [hg] at hl
  rw [h3.rest a (blk_none hg)]
  clear h1 h2 h3 hg
  go_enter Tryz.func75, Tryz.ntmps75
  go_wp2_with fail
  go_ret
  exact ⟨rfl, rfl⟩
 | some g =>
  rw [hg] at hl
  have HU := hidZ (uload_any (g := g) (x := c.f a) (h3.cell _ (blk_mem hg)))
  clear h1 h2 h3 hg
  go_enter Tryz.func75, Tryz.ntmps75
  go_wp2_with fail
  refine HU.out.mono ?_
  rintro e w1 ⟨rfl, rfl⟩
  clear HU
  go_wp2_with fail
  go_ret
  exact ⟨rfl, rfl⟩
end
open Go.RowKit Go.ChangeMaps Go.MapKept
def noCells : CellsM := ⟨fun _ => 0, 0, noAcc⟩
theorem cells_new (w : World) : CellsIs w.heap.size noCells (w.alloc (.cells #[.map none, .int .i64 0, .int .u8 0, .int .u64 0, .int .u64 0, .int .u64 0] 191)) (fun k => k = w.heap.size) :=
 ⟨none, [], by rw [heap_at, if_pos rfl]; rfl, .inl ⟨rfl, rfl⟩, ⟨List.nodup_nil, List.nodup_nil, (fun _ h => nomatch h), (fun _ _ => rfl), (fun _ h => nomatch h)⟩, fun k => by simp⟩
def oneF (a v k : Nat) : CellsM := if k = 0 then noCells else ⟨setF (fun _ => 0) a v, 0, noAcc⟩
structure NewC (w : World) (pc a v k : Nat) (W : World) : Prop where
 cells : ∃ S, CellsIs pc (oneF a v k) W S ∧ ∀ j, S j → w.heap.size ≤ j
 low : Below w.heap.size w W
theorem infoWord : (Tryz.prog.info? 151).map (fun i => (i.zero, i.size, i.bytes)) = some (some (.agg #[.int .u64 0, .int .u64 0]), 2, 16) := by kernel_rfl
theorem idx_word {g o c : Nat} (W : World) : (Instr.indexAt 185 (.slice (some ⟨g, o, none⟩) 1 c) (.int .i64 0)).run Tryz.prog W = .ok (.pointer (some ⟨g, o, none⟩)) W := by
 have h2 := Tryz.underlying185
 cases hi : Tryz.prog.info? 151 with
 | none => have := infoWord; rw [hi] at this; cases this
 | some i =>
  have h3 := infoWord
  rw [hi] at h3
  simp at h3
  obtain ⟨z0, z1, z2⟩ := h3
  go_simp
theorem cellsNew_any {w : World} {g o c a v : Nat} (ha : U64 a) (x0 : w.cell? ⟨g, o, none⟩ = some (addrV a)) (x1 : w.cell? ⟨g, o + 1, none⟩ = some (.int .u64 (v : Int))) :
  Calls Tryz.prog 66 #[.slice (some ⟨g, o, none⟩) 1 c] w fun e w' => ∃ pc, e = .returned (ptrV pc) ∧ NewC w pc a v 1 w' := by
 have hgl : g < w.heap.size := cell_lt x0
 have hix := fun W => idx_word (g := g) (o := o) (c := c) W
 have H0 := hidZ (show NewC w w.heap.size a v 0 (w.alloc (.cells #[.map none, .int .i64 0, .int .u8 0, .int .u64 0, .int .u64 0, .int .u64 0] 191)) from ⟨⟨_, cells_new w, fun j e => by rw [e]; exact Nat.le_refl _⟩, (Below.refl _ _).alloc (Nat.le_refl _) _⟩)
 obtain ⟨pc, hpc⟩ := xE (w.heap.size)
 go_enter Tryz.func66, Tryz.ntmps66
 go_upto_region 3 with fail
 rw [← hpc] at H0 ⊢
 have HPC := hidZ hpc
 clear hpc
 go_loopw [10] (fun s10 wr => ∃ k : Nat, s10 = .int .i64 (k : Int) ∧ k ≤ 1 ∧ Hid (NewC w pc a v k wr)) (fun s10 _ => 1 - (intOf s10).toNat)
 case atStart => exact ⟨0, rfl, Nat.zero_le _, H0⟩
 case round =>
  obtain ⟨k, rfl, hk, HN⟩ := hrel
  rcases (by omega : k = 0 ∨ k = 1) with rfl | rfl
  ·have y0 : wr.cell? ⟨g, o, none⟩ = some (addrV a) := (HN.out.low.cell (p := ⟨g, o, none⟩) hgl).trans x0
   have y1 : wr.cell? ⟨g, o + 1, none⟩ = some (.int .u64 (v : Int)) := (HN.out.low.cell (p := ⟨g, o + 1, none⟩) hgl).trans x1
   clear x0 x1
   have hgr : g < wr.heap.size := cell_lt y0
   go_upto_region 5 with fail
   obtain ⟨W1, hW1⟩ := xE (wr.alloc (.cells #[addrV a, .int .u64 (v : Int)] 151))
   have hb1 : Below wr.heap.size wr W1 := bal hW1
   have hx1 : W1.heap[wr.heap.size]? = some (.cells #[addrV a, .int .u64 (v : Int)] 151 (0, 0)) := by rw [hW1, heap_at, if_pos rfl]
   rw [← hW1]
   obtain ⟨S0, hS0, hSl⟩ := HN.out.cells
   have hnb : ¬ S0 wr.heap.size := fun e => by have := (framed_cells pc _).lt hS0 e; omega
   have HS1 := hidZ ((framed_cells pc _).below hS0 hb1.drew)
   have HSL := hidZ hSl
   have HNB := hidZ hnb
   have HLOW := hidZ (show Below w.heap.size w W1.drew from (HN.out.low.trans (hb1.mono HN.out.low.size)).drew)
   have HX1 := hidZ (show W1.drew.heap[wr.heap.size]? = _ from hx1)
   obtain ⟨bx, hbx⟩ := xE (wr.heap.size)
   rw [← hbx] at HX1 HNB ⊢
   have k0 : W1.cell? ⟨bx, 0, none⟩ = some (addrV a) := (cellsAt HX1.out 0).1
   have k1 : W1.cell? ⟨bx, 1, none⟩ = some (.int .u64 (v : Int)) := (cellsAt HX1.out 1).1
   have HC := hidZ (cat_any HS1.out ha)
   clear hW1 hb1 hx1 hS0 hSl hnb hbx y0 y1 hgr hix hgl
   refine wp_region_held_drew (S := fun W => W.cell? ⟨bx, 0, none⟩ = some (addrV a) ∧ W.cell? ⟨bx, 1, none⟩ = some (.int .u64 (v : Int))) (by kernel_rfl) ⟨k0, k1⟩ (fun hHe => ?_)
   refine tkz 0 rfl ?_
   try simp only [tp, tz]
   refine tkz 1 rfl ?_
   try simp only [tp, tz]
   refine tkw 2 rfl ?_
   try simp only [tp, tz]
   refine tkz 4 rfl ?_
   try simp only [tp, tz]
   refine tkw 5 rfl ?_
   try simp only [tp, tz]
   refine rdy 3 rfl (fun K hK => ?_)
   go_simp
   go_at_call 90
   refine (HC.out).mono ?_
   rintro e w2 ⟨gg, S2, rfl, hat, hch, hsub⟩
   have HAT := hidZ hat
   have HCH := hidZ hch
   have HSUB := hidZ hsub
   have hbg : bx ≠ gg := fun e => absurd ((Tag.of (hch.obj HX1.out HNB.out)).one (e ▸ Tag.of hat.word)) (by decide)
   refine hK.out _ _ ⟨hch.cell (w := W1.drew) k0 HNB.out, hch.cell (w := W1.drew) k1 HNB.out⟩ (fun hHf => ?_)
   clear hK K
   try simp only [tp, tz]
   refine rdy 6 rfl (fun K hK => ?_)
   go_simp
   go_at_call 91
   refine (ustore_any HAT.out.word v).mono ?_
   rintro e w3 ⟨⟨vv, rfl⟩, rfl⟩
   refine hK.out _ _ ⟨(World.cell?_setCell_other _ ⟨gg, 0, none⟩ ⟨bx, 0, none⟩ _ (by simp)).trans hHf.1, (World.cell?_setCell_other _ ⟨gg, 0, none⟩ ⟨bx, 1, none⟩ _ (by simp)).trans hHf.2⟩ (fun hHf => ?_)
   clear hK K
   try simp only [tp, tz]
   refine wpAnyH_done (by kernel_rfl) ?_ _
   clear hHe
   obtain ⟨hs1, hs2⟩ := HAT.out.store v
   have HST := hidZ hs1.cells
   have HSC := hidZ (HCH.out.then hs2 (fun i hi e => (HSUB.out i e).elim id (fun e => by omega)))
   obtain ⟨w4, hw4⟩ := xE (w2.setCell ⟨gg, 0, none⟩ (.int .u64 (v : Int)))
   rw [← hw4] at HST HSC ⊢
   clear hw4 hs1 hs2 hHf hat hch hsub
   go_wp2_with fail
   refine ⟨⟨1, rfl, Nat.le_refl _, hidZ ⟨⟨S2, HST.out, fun j hj => ?_⟩, ?_⟩⟩, by simp [intOf]⟩
   ·rcases HSUB.out j hj with e | e
    ·exact HSL.out j e
    ·exact Nat.le_trans HLOW.out.size e
   ·exact HLOW.out.trans (HSC.out.below (fun j hj => ⟨Nat.lt_of_lt_of_le hj HLOW.out.size, fun e => by have := HSL.out j e; omega⟩))
  ·go_wp2_with fail
   go_ret
   exact ⟨pc, rfl, HN.out⟩
end Go.Proofs.YtnkkoicbnbjlnaaGreatDoor
