/- What worlds.May, bounds.sum, Room, Turn, Evict and Steps answer. No condition. And what goes with it (3 texts). -/
import Derived.Test.YtnkkoicbnbjlnaaGreatDoorLowA
import Derived.RegionTactic
import Derived.ChangeAlike
import Derived.Test.YtnkkoicbnbjlnaaGreatDoorMcC
import Derived.Test.YtnkkoicbnbjlnaaGreatDoorMcF
namespace Go.Proofs.YtnkkoicbnbjlnaaGreatDoor
set_option maxRecDepth 100000
set_option maxHeartbeats 8000000
open Go.RowKit Go.ChangeMaps Go.MapKept
structure CfgD where
 bits : Int
 budget : Int
 tries : Int
 quantum : Int
 way : Int
abbrev cfgCells (c : CfgD) : List Value := [.int .i64 c.bits, .int .i64 c.budget, .int .i64 c.tries, .int .i64 c.quantum, .int .i64 c.way]
abbrev cfgV (c : CfgD) : Value := .agg (cfgCells c).toArray
structure MayP (c : CfgD) : Prop where
 b0 : 1 ≤ c.bits
 b1 : c.bits ≤ 12
 u0 : 1 ≤ c.budget
 u1 : c.budget ≤ 65536
 t0 : 0 ≤ c.tries
 t1 : c.tries ≤ 16
 q0 : 1 ≤ c.quantum
 q1 : c.quantum ≤ 8
 y0 : 2 ≤ c.way
 y1 : c.way ≤ 256
def mayC (c : CfgD) : Bool := decide (1 ≤ c.bits) && decide (c.bits ≤ 12) && decide (1 ≤ c.budget) && decide (c.budget ≤ 65536) && decide (0 ≤ c.tries) && decide (c.tries ≤ 16) && decide (1 ≤ c.quantum) && decide (c.quantum ≤ 8) && decide (2 ≤ c.way) && decide (c.way ≤ 256)
theorem may_of {c : CfgD} (h : mayC c = true) : MayP c := by
 unfold mayC at h
 simp only [Bool.and_eq_true, decide_eq_true_eq] at h
 obtain ⟨⟨⟨⟨⟨⟨⟨⟨⟨h0, h1⟩, h2⟩, h3⟩, h4⟩, h5⟩, h6⟩, h7⟩, h8⟩, h9⟩ := h
 exact ⟨h0, h1, h2, h3, h4, h5, h6, h7, h8, h9⟩
theorem may_mk {c : CfgD} (h : MayP c) : mayC c = true := by
 unfold mayC
 simp only [Bool.and_eq_true, decide_eq_true_eq]
 exact ⟨⟨⟨⟨⟨⟨⟨⟨⟨h.b0, h.b1⟩, h.u0⟩, h.u1⟩, h.t0⟩, h.t1⟩, h.q0⟩, h.q1⟩, h.y0⟩, h.y1⟩
theorem may_no {c : CfgD} (h : ¬ MayP c) : mayC c = false := by
 cases hm : mayC c
 ·rfl
 ·exact absurd (may_of hm) h
def MayTo (c : CfgD) (k : Nat) : Prop := (1 ≤ k → 1 ≤ c.bits ∧ c.bits ≤ 12) ∧ (2 ≤ k → 1 ≤ c.budget ∧ c.budget ≤ 65536) ∧ (3 ≤ k → 0 ≤ c.tries ∧ c.tries ≤ 16) ∧ (4 ≤ k → 1 ≤ c.quantum ∧ c.quantum ≤ 8) ∧ (5 ≤ k → 2 ≤ c.way ∧ c.way ≤ 256)
theorem may_any (c : CfgD) (w : World) : Calls Tryz.prog 64 #[cfgV c] w fun e w' => e = .returned (.bool (mayC c)) ∧ Below w.heap.size w w' := by
 obtain ⟨V, hV⟩ : ∃ V : Value, V = .agg #[.int .i64 c.bits, .int .i64 1, .int .i64 12, .int .i64 c.budget, .int .i64 1, .int .i64 65536, .int .i64 c.tries, .int .i64 0, .int .i64 16, .int .i64 c.quantum, .int .i64 1, .int .i64 8, .int .i64 c.way, .int .i64 2, .int .i64 256] := ⟨_, rfl⟩
 have i0 : ∀ W, (Instr.index 184 V (.int .i64 0)).run Tryz.prog W = .ok (.agg #[.int .i64 c.bits, .int .i64 1, .int .i64 12]) W := fun W => by rw [hV]; kernel_rfl
 have i1 : ∀ W, (Instr.index 184 V (.int .i64 1)).run Tryz.prog W = .ok (.agg #[.int .i64 c.budget, .int .i64 1, .int .i64 65536]) W := fun W => by rw [hV]; kernel_rfl
 have i2 : ∀ W, (Instr.index 184 V (.int .i64 2)).run Tryz.prog W = .ok (.agg #[.int .i64 c.tries, .int .i64 0, .int .i64 16]) W := fun W => by rw [hV]; kernel_rfl
 have i3 : ∀ W, (Instr.index 184 V (.int .i64 3)).run Tryz.prog W = .ok (.agg #[.int .i64 c.quantum, .int .i64 1, .int .i64 8]) W := fun W => by rw [hV]; kernel_rfl
 have i4 : ∀ W, (Instr.index 184 V (.int .i64 4)).run Tryz.prog W = .ok (.agg #[.int .i64 c.way, .int .i64 2, .int .i64 256]) W := fun W => by rw [hV]; kernel_rfl
 have HV := hidZ hV
 clear hV
 have hb0 : Below w.heap.size w (w.alloc (.cells (cfgCells c).toArray 40)) := (Below.refl _ _).alloc (Nat.le_refl _) _
 have HB0 := hidZ hb0
 clear hb0
 go_enter Tryz.func64, Tryz.ntmps64
 go_wp2_with fail
 rw [← HV.out]
 go_loopw [21] (fun s21 wr => ∃ k : Nat, s21 = .int .i64 (k : Int) ∧ k ≤ 5 ∧ MayTo c k ∧ Below w.heap.size w wr) (fun s21 _ => 5 - (intOf s21).toNat)
 case atStart => exact ⟨0, rfl, by omega, ⟨by omega, by omega, by omega, by omega, by omega⟩, HB0.out⟩
 case round =>
  obtain ⟨k, rfl, hk, hm, hlo⟩ := hrel
  have HLO := hidZ hlo
  have HM := hidZ hm
  have hsz := hlo.size
  clear hlo hm
  rcases (by omega : k = 0 ∨ k = 1 ∨ k = 2 ∨ k = 3 ∨ k = 4 ∨ k = 5) with rfl | rfl | rfl | rfl | rfl | rfl
  ·by_cases ha : c.bits < 1
   ·have hno : mayC c = false := may_no (fun h => by have := h.b0; omega)
    have HN := hidZ hno
    clear hno
    go_wp2_with fail
    go_ret
    exact ⟨by rw [HN.out]; rfl, HLO.out.alloc hsz _⟩
   ·by_cases hb : 12 < c.bits
    ·have hno : mayC c = false := may_no (fun h => by have := h.b1; omega)
     have HN := hidZ hno
     clear hno
     go_wp2_with fail
     go_ret
     exact ⟨by rw [HN.out]; rfl, HLO.out.alloc hsz _⟩
    ·go_wp2_with fail
     go_roundw
     case rel => exact ⟨1, by go_num, by omega, ⟨fun _ => ⟨by omega, by omega⟩, by omega, by omega, by omega, by omega⟩, HLO.out.alloc hsz _⟩
     case measure => simp [intOf]
  ·by_cases ha : c.budget < 1
   ·have hno : mayC c = false := may_no (fun h => by have := h.u0; omega)
    have HN := hidZ hno
    clear hno
    go_wp2_with fail
    go_ret
    exact ⟨by rw [HN.out]; rfl, HLO.out.alloc hsz _⟩
   ·by_cases hb : 65536 < c.budget
    ·have hno : mayC c = false := may_no (fun h => by have := h.u1; omega)
     have HN := hidZ hno
     clear hno
     go_wp2_with fail
     go_ret
     exact ⟨by rw [HN.out]; rfl, HLO.out.alloc hsz _⟩
    ·go_wp2_with fail
     go_roundw
     case rel => exact ⟨2, by go_num, by omega, ⟨fun _ => HM.out.1 (by omega), fun _ => ⟨by omega, by omega⟩, by omega, by omega, by omega⟩, HLO.out.alloc hsz _⟩
     case measure => simp [intOf]
  ·by_cases ha : c.tries < 0
   ·have hno : mayC c = false := may_no (fun h => by have := h.t0; omega)
    have HN := hidZ hno
    clear hno
    go_wp2_with fail
    go_ret
    exact ⟨by rw [HN.out]; rfl, HLO.out.alloc hsz _⟩
   ·by_cases hb : 16 < c.tries
    ·have hno : mayC c = false := may_no (fun h => by have := h.t1; omega)
     have HN := hidZ hno
     clear hno
     go_wp2_with fail
     go_ret
     exact ⟨by rw [HN.out]; rfl, HLO.out.alloc hsz _⟩
    ·go_wp2_with fail
     go_roundw
     case rel => exact ⟨3, by go_num, by omega, ⟨fun _ => HM.out.1 (by omega), fun _ => HM.out.2.1 (by omega), fun _ => ⟨by omega, by omega⟩, by omega, by omega⟩, HLO.out.alloc hsz _⟩
     case measure => simp [intOf]
  ·by_cases ha : c.quantum < 1
   ·have hno : mayC c = false := may_no (fun h => by have := h.q0; omega)
    have HN := hidZ hno
    clear hno
    go_wp2_with fail
    go_ret
    exact ⟨by rw [HN.out]; rfl, HLO.out.alloc hsz _⟩
   ·by_cases hb : 8 < c.quantum
    ·have hno : mayC c = false := may_no (fun h => by have := h.q1; omega)
     have HN := hidZ hno
     clear hno
     go_wp2_with fail
     go_ret
     exact ⟨by rw [HN.out]; rfl, HLO.out.alloc hsz _⟩
    ·go_wp2_with fail
     go_roundw
     case rel => exact ⟨4, by go_num, by omega, ⟨fun _ => HM.out.1 (by omega), fun _ => HM.out.2.1 (by omega), fun _ => HM.out.2.2.1 (by omega), fun _ => ⟨by omega, by omega⟩, by omega⟩, HLO.out.alloc hsz _⟩
     case measure => simp [intOf]
  ·by_cases ha : c.way < 2
   ·have hno : mayC c = false := may_no (fun h => by have := h.y0; omega)
    have HN := hidZ hno
    clear hno
    go_wp2_with fail
    go_ret
    exact ⟨by rw [HN.out]; rfl, HLO.out.alloc hsz _⟩
   ·by_cases hb : 256 < c.way
    ·have hno : mayC c = false := may_no (fun h => by have := h.y1; omega)
     have HN := hidZ hno
     clear hno
     go_wp2_with fail
     go_ret
     exact ⟨by rw [HN.out]; rfl, HLO.out.alloc hsz _⟩
    ·go_wp2_with fail
     go_roundw
     case rel => exact ⟨5, by go_num, by omega, ⟨fun _ => HM.out.1 (by omega), fun _ => HM.out.2.1 (by omega), fun _ => HM.out.2.2.1 (by omega), fun _ => HM.out.2.2.2.1 (by omega), fun _ => ⟨by omega, by omega⟩⟩, HLO.out.alloc hsz _⟩
     case measure => simp [intOf]
  ·have hyes : mayC c = true := may_mk ⟨(HM.out.1 (by omega)).1, (HM.out.1 (by omega)).2, (HM.out.2.1 (by omega)).1, (HM.out.2.1 (by omega)).2, (HM.out.2.2.1 (by omega)).1, (HM.out.2.2.1 (by omega)).2, (HM.out.2.2.2.1 (by omega)).1, (HM.out.2.2.2.1 (by omega)).2, (HM.out.2.2.2.2 (by omega)).1, (HM.out.2.2.2.2 (by omega)).2⟩
   have HY := hidZ hyes
   clear hyes
   go_wp2_with fail
   go_ret
   exact ⟨by rw [HY.out]; rfl, HLO.out⟩
structure NoteD where
 step : Int
 thread : Int
 kind : Int
 ref : Int
 bits : Int
 bucket : Int
 slot : Int
 value : Int
abbrev noteCells (x : NoteD) : List Value := [.int .i64 x.step, .int .i64 x.thread, .int .u8 x.kind, .int .i64 x.ref, .int .i64 x.bits, .int .i64 x.bucket, .int .i64 x.slot, .int .i64 x.value]
def NotesIs (p : Nat) (L : List NoteD) : Thing := fun w S => ∃ v : Value, w.heap[p]? = some (.cells #[v] 199 (0, 0)) ∧ w.ownsRow 0 134 8 v L.length (L.flatMap noteCells) ∧ (∀ k, S k ↔ k = p ∨ v.ownBlock = some k)
theorem framed_notes (p : Nat) (L : List NoteD) : Framed (NotesIs p L) where
 keep := by
  rintro w w' S M ⟨v, h1, h2, hs⟩ hc hM
  exact ⟨v, hc.obj h1 (fun e => (hM p e).1 ((hs p).2 (.inl rfl))), owns_grow h2 hc (fun g hg e => (hM g e).1 ((hs g).2 (.inr hg))), hs⟩
 lt := by
  rintro w S k ⟨v, h1, h2, hs⟩ hk
  rcases (hs k).1 hk with rfl | hk
  ·exact (Array.getElem?_eq_some_iff.1 h1).1
  ·exact (owns_tag h2 hk).lt
 txt := by
  rintro w S k ⟨v, h1, h2, hs⟩ hk e
  rcases (hs k).1 hk with rfl | hk
  ·exact absurd ((Tag.of h1).one e) (by decide)
  ·exact absurd ((owns_tag h2 hk).one e) (by decide)
theorem notesNew_any (w : World) : Calls Tryz.prog 68 #[] w fun e w' => e = .returned (ptrN w.heap.size) ∧ w' = w.alloc (.cells #[.slice none 0 0] 199) := by
 go_enter Tryz.func68, Tryz.ntmps68
 go_wp2_with fail
 go_ret
 exact ⟨rfl, rfl⟩
theorem notes_new (w : World) : NotesIs w.heap.size [] (w.alloc (.cells #[.slice none 0 0] 199)) (fun k => k = w.heap.size) :=
 ⟨.slice none 0 0, by rw [heap_at, if_pos rfl], World.ownsRow_nil _ _ _ _, fun k => by simp [Value.ownBlock]⟩
structure WorldM where
 cells : CellsM
 items : List ItemD
 notes : List NoteD
 cfg : CfgD
 tickets : List Nat
 holder : Int
def worldCells (pc pi pn : Nat) (W : WorldM) : List Value := [ptrN pc, ptrN pi, ptrN pn] ++ (cfgCells W.cfg ++ (W.tickets.map (fun n : Nat => Value.int .u64 (n : Int)) ++ [.int .i64 W.holder]))
def WorldIs (p : Nat) (W : WorldM) : Thing := fun w S => ∃ pc pi pn, W.tickets.length = 64 ∧ Star (Blk p (worldCells pc pi pn W) 126) (Star (CellsIs pc W.cells) (Star (ItemsIs pi W.items) (NotesIs pn W.notes))) w S
theorem framed_world (p : Nat) (W : WorldM) : Framed (WorldIs p W) where
 keep := by
  rintro w w' S M ⟨pc, pi, pn, ht, h⟩ hc hM
  exact ⟨pc, pi, pn, ht, ((framed_blk p _ _ (by decide)).star ((framed_cells pc _).star ((framed_items pi _).star (framed_notes pn _)))).keep h hc hM⟩
 lt := by
  rintro w S k ⟨pc, pi, pn, ht, h⟩ hk
  exact ((framed_blk p _ _ (by decide)).star ((framed_cells pc _).star ((framed_items pi _).star (framed_notes pn _)))).lt h hk
 txt := by
  rintro w S k ⟨pc, pi, pn, ht, h⟩ hk
  exact ((framed_blk p _ _ (by decide)).star ((framed_cells pc _).star ((framed_items pi _).star (framed_notes pn _)))).txt h hk
def newWorld (c : CfgD) : WorldM := ⟨⟨setF (fun _ => 0) 2 (wordN c.bits.toNat 0), 0, noAcc⟩, [], [], c, List.replicate 64 0, -1⟩
def Made (A : Thing) (w w' : World) : Prop := (∃ S, A w' S ∧ ∀ k, S k → w.heap.size ≤ k) ∧ Below w.heap.size w w'
theorem Made.below {A : Thing} (hA : Framed A) {w w1 w2 : World} (h : Made A w w1) (hb : Below w1.heap.size w1 w2) : Made A w w2 := by
 obtain ⟨⟨S, h1, h2⟩, h3⟩ := h
 exact ⟨⟨S, hA.below h1 hb, h2⟩, h3.trans (hb.mono h3.size)⟩
theorem Made.star {A B : Thing} (hA : Framed A) {w w1 w2 : World} (h : Made A w w1) (h' : Made B w1 w2) : Made (Star A B) w w2 := by
 obtain ⟨⟨S, h1, h2⟩, h3⟩ := h
 obtain ⟨⟨T, h4, h5⟩, h6⟩ := h'
 refine ⟨⟨fun k => S k ∨ T k, ⟨S, T, hA.below h1 h6, h4, fun k a b => by have := hA.lt h1 a; have := h5 k b; omega, fun _ => Iff.rfl⟩, fun k hk => hk.elim (h2 k) (fun e => Nat.le_trans h3.size (h5 k e))⟩, h3.trans (h6.mono h3.size)⟩
theorem Made.later {A : Thing} {w w1 w2 : World} (hb : Below w.heap.size w w1) (h : Made A w1 w2) : Made A w w2 := by
 obtain ⟨⟨S, h1, h2⟩, h3⟩ := h
 exact ⟨⟨S, h1, fun k hk => Nat.le_trans hb.size (h2 k hk)⟩, hb.trans (h3.mono hb.size)⟩
theorem made_blk (w : World) (cs : List Value) (t : TypeId) : Made (Blk w.heap.size cs t) w (w.alloc (.cells cs.toArray t)) :=
 ⟨⟨fun k => k = w.heap.size, ⟨by rw [heap_at, if_pos rfl], fun _ => Iff.rfl⟩, fun k e => by rw [e]; exact Nat.le_refl _⟩, (Below.refl _ _).alloc (Nat.le_refl _) _⟩
theorem made_items (w : World) : Made (ItemsIs w.heap.size []) w (w.alloc (.cells #[.slice none 0 0, .int .i64 0] 197)) :=
 ⟨⟨_, items_new w, fun k e => by rw [e]; exact Nat.le_refl _⟩, (Below.refl _ _).alloc (Nat.le_refl _) _⟩
theorem made_notes (w : World) : Made (NotesIs w.heap.size []) w (w.alloc (.cells #[.slice none 0 0] 199)) :=
 ⟨⟨_, notes_new w, fun k e => by rw [e]; exact Nat.le_refl _⟩, (Below.refl _ _).alloc (Nat.le_refl _) _⟩
theorem NewC.made {w W : World} {pc a v : Nat} (h : NewC w pc a v 1 W) : Made (CellsIs pc ⟨setF (fun _ => 0) a v, 0, noAcc⟩) w W := ⟨h.cells, h.low⟩
theorem made_world {w w' : World} {p pc pi pn : Nat} {W : WorldM} (ht : W.tickets.length = 64) (h : Made (Star (CellsIs pc W.cells) (Star (ItemsIs pi W.items) (NotesIs pn W.notes))) w w') (hp : p = w'.heap.size) :
  Made (WorldIs p W) w (w'.alloc (.cells (worldCells pc pi pn W).toArray 126)) := by
 subst hp
 obtain ⟨⟨S, h1, h2⟩, h3⟩ := Made.star ((framed_cells pc _).star ((framed_items pi _).star (framed_notes pn _))) h (made_blk w' (worldCells pc pi pn W) 126)
 exact ⟨⟨S, ⟨pc, pi, pn, ht, Star.comm h1⟩, h2⟩, h3⟩
theorem worldsNew_any (c : CfgD) (hc : mayC c = true) (w : World) : Calls Tryz.prog 42 #[cfgV c] w fun e w' => ∃ p, e = .returned (.tuple #[ptrN p, .int .i64 0]) ∧ Made (WorldIs p (newWorld c)) w w' := by
 have hmp : MayP c := by
  by_cases h : MayP c
  ·exact h
  ·rw [may_no h] at hc; cases hc
 have hM := may_any c (w.alloc (.cells (cfgCells c).toArray 40))
 rw [hc] at hM
 have HM := hidZ hM
 obtain ⟨b, hb⟩ : ∃ b : Nat, c.bits = (b : Int) := ⟨c.bits.toNat, by have := hmp.b0; omega⟩
 have hb12 : b ≤ 12 := by have := hmp.b1; omega
 have HW := hidZ (fun W => word_any8 b 0 hb12 (by omega) W)
 have HB := hidZ hb
 have HBX := hidZ (show (w.alloc (.cells (cfgCells c).toArray 40)).heap[w.heap.size]? = some (.cells (cfgCells c).toArray 40 (0, 0)) from by rw [heap_at, if_pos rfl])
 have HB0 := hidZ (show Below w.heap.size w (w.alloc (.cells (cfgCells c).toArray 40)) from (Below.refl _ _).alloc (Nat.le_refl _) _)
 clear hc hmp hM hb hb12
 go_enter Tryz.func42, Tryz.ntmps42
 go_wp2_with fail
 refine HM.out.mono ?_
 rintro e w1 ⟨rfl, hb1⟩
 have hx1 := boxAt HBX.out hb1
 have x0 : w1.cell? ⟨w.heap.size, 0, none⟩ = some (.int .i64 (b : Int)) := by rw [← HB.out]; exact (cellsAt hx1 0).1
 have HX1 := hidZ hx1
 have HL1 := hidZ (HB0.out.trans (hb1.mono (by rw [size_at]; omega)))
 clear hx1 hb1 HM HBX HB0
 go_wp2_with fail
 refine (HW.out _).mono ?_
 rintro e w2 ⟨rfl, rfl⟩
 go_upto_region 4 with fail
 obtain ⟨W2, hW2⟩ := xE (w1.alloc (.cells #[addrV 2, addrV (wordN b 0)] 151))
 have hb2 : Below w1.heap.size w1 W2 := bal hW2
 have hx2 : W2.heap[w1.heap.size]? = some (.cells #[addrV 2, addrV (wordN b 0)] 151 (0, 0)) := by rw [hW2, heap_at, if_pos rfl]
 have hW2' : w1.alloc (.cells #[.int .u64 2, .int .u64 (wordN b 0 : Int)] 151) = W2 := hW2.symm
 rw [hW2']
 have HC2 := hidZ (World.rangeAt_of_cells (boxAt HX1.out hb2))
 have HL2 := hidZ (HL1.out.trans (hb2.mono HL1.out.size))
 have hcl : w.heap.size < W2.heap.size := cell_lt (cellsAt (boxAt HX1.out hb2) 0).1
 have y0 : W2.cell? ⟨w1.heap.size, 0, none⟩ = some (addrV 2) := (cellsAt hx2 0).1
 have y1 : W2.cell? ⟨w1.heap.size, 1, none⟩ = some (addrV (wordN b 0)) := (cellsAt hx2 1).1
 obtain ⟨bf, hbf⟩ := xE (w1.heap.size)
 rw [← hbf] at y0 y1 ⊢
 obtain ⟨bx, hbx⟩ := xE (w.heap.size)
 rw [← hbx] at HC2 hcl ⊢
 have HBX := hidZ hbx
 have hfl : bf < W2.heap.size := cell_lt y0
 clear hW2 hW2' hb2 hx2 x0 hbf hbx HX1 HL1
 refine wp_region_held_drew (S := fun W => W.cell? ⟨bf, 0, none⟩ = some (addrV 2) ∧ W.cell? ⟨bf, 1, none⟩ = some (addrV (wordN b 0)) ∧ W.rangeAt bx 0 (cfgCells c)) (by kernel_rfl) ⟨y0, y1, HC2.out⟩ (fun hHe => ?_)
 refine tkw 0 rfl ?_
 try simp only [tp, tz]
 refine wpAnyH_take (i := 5) rfl (by kernel_rfl) (by kernel_rfl) (by kernel_rfl) (fun _ _ _ h => h) (yieldsIf_load_mid (by rfl) 40 (.tmp 1) (by rfl) bx 0 (by rfl) (cfgCells c) _ (fun w hSw => hSw.2.2) Tryz.underlying40 rfl (by kernel_rfl)) (by assumption) ?_
 try simp only [tp, tz]
 refine rdy 1 rfl (fun K hK => ?_)
 go_simp
 refine hK.out _ _ ⟨((Below.refl _ W2.drew).alloc (Nat.le_refl _) _ |>.cell (p := ⟨bf, 0, none⟩) hfl).trans y0, ((Below.refl _ W2.drew).alloc (Nat.le_refl _) _ |>.cell (p := ⟨bf, 1, none⟩) hfl).trans y1, World.rangeAt_alloc ((World.rangeAt_drew W2 _ _ _).2 HC2.out) _⟩ (fun hHf => ?_)
 clear hK K
 try simp only [tp, tz]
 obtain ⟨W3, hW3⟩ := xE ((W2.alloc (.cells #[addrV 2, addrV (wordN b 0)] 151)).drew)
 have hx3 : W3.heap[W2.heap.size]? = some (.cells #[addrV 2, addrV (wordN b 0)] 151 (0, 0)) := by rw [hW3]; exact heap_mem W2 _
 have HL3 := hidZ (show Below w.heap.size w W3 from by rw [hW3]; exact (HL2.out.alloc HL2.out.size _).drew)
 obtain ⟨bs3, hbs⟩ := xE (W2.heap.size)
 rw [← hbs] at hx3 ⊢
 have z0 : W3.cell? ⟨bs3, 0, none⟩ = some (addrV 2) := (cellsAt hx3 0).1
 have z1 : W3.cell? ⟨bs3, 0 + 1, none⟩ = some (.int .u64 ((wordN b 0 : Nat) : Int)) := (cellsAt hx3 1).1
 rw [← hW3] at hHf ⊢
 clear hHe y0 y1 hfl hcl HC2 HL2 hW3 hbs hx3
 obtain ⟨q0, q1, q2⟩ := hHf
 have hf3 : bf < W3.heap.size := cell_lt q0
 have HQ2 := hidZ q2
 have HC := hidZ (cellsNew_any (w := W3) (g := bs3) (o := 0) (c := 1) (a := 2) (v := wordN b 0) (by unfold U64; omega) z0 z1)
 clear z0 z1 q2
 refine rdy 2 rfl (fun K hK => ?_)
 go_simp
 go_at_call 66
 refine (HC.out).mono ?_
 rintro e w4 ⟨pc, rfl, hnc⟩
 have HNC := hidZ hnc.made
 have hl4 := hnc.low.size
 refine hK.out _ _ ⟨(hnc.low.cell (p := ⟨bf, 0, none⟩) hf3).trans q0, (hnc.low.cell (p := ⟨bf, 1, none⟩) hf3).trans q1, fun j v hv => (hnc.low.cell (p := ⟨bx, 0 + j, none⟩) (cell_lt (HQ2.out j v hv))).trans (HQ2.out j v hv)⟩ (fun hHf => ?_)
 clear hK K
 try simp only [tp, tz]
 refine rdy 3 rfl (fun K hK => ?_)
 go_simp
 go_at_call 67
 refine (itemsNew_any w4).mono ?_
 rintro e w5 ⟨rfl, rfl⟩
 refine hK.out _ _ ⟨((Below.refl _ w4).alloc (Nat.le_refl _) _ |>.cell (p := ⟨bf, 0, none⟩) (by show bf < _; omega)).trans hHf.1, ((Below.refl _ w4).alloc (Nat.le_refl _) _ |>.cell (p := ⟨bf, 1, none⟩) (by show bf < _; omega)).trans hHf.2.1, World.rangeAt_alloc hHf.2.2 _⟩ (fun hHf => ?_)
 clear hK K
 try simp only [tp, tz]
 have HI := hidZ (made_items w4)
 have hl5 := (made_items w4).2.size
 obtain ⟨w5, hw5⟩ := xE (w4.alloc (.cells #[.slice none 0 0, .int .i64 0] 197))
 rw [← hw5] at HI hHf hl5 ⊢
 clear hw5 hnc HC HW
 refine rdy 4 rfl (fun K hK => ?_)
 go_simp
 go_at_call 68
 refine (notesNew_any w5).mono ?_
 rintro e w6 ⟨rfl, rfl⟩
 refine hK.out _ _ ⟨((Below.refl _ w5).alloc (Nat.le_refl _) _ |>.cell (p := ⟨bf, 0, none⟩) (by show bf < _; omega)).trans hHf.1, ((Below.refl _ w5).alloc (Nat.le_refl _) _ |>.cell (p := ⟨bf, 1, none⟩) (by show bf < _; omega)).trans hHf.2.1, World.rangeAt_alloc hHf.2.2 _⟩ (fun hHf => ?_)
 clear hK K
 try simp only [tp, tz]
 refine tkz 6 rfl ?_
 try simp only [tp, tz]
 have HNo := hidZ (made_notes w5)
 have hl6 := (made_notes w5).2.size
 obtain ⟨w6, hw6⟩ := xE (w5.alloc (.cells #[.slice none 0 0] 199))
 rw [← hw6] at HNo hHf hl6 ⊢
 clear hw6
 have hf6 : bf < w6.heap.size := by omega
 refine rdy 7 rfl (fun K hK => ?_)
 go_simp
 refine hK.out _ _ ⟨((Below.refl _ w6).alloc (Nat.le_refl _) _ |>.cell (p := ⟨bf, 0, none⟩) hf6).trans hHf.1, ((Below.refl _ w6).alloc (Nat.le_refl _) _ |>.cell (p := ⟨bf, 1, none⟩) hf6).trans hHf.2.1, World.rangeAt_alloc hHf.2.2 _⟩ (fun hHf => ?_)
 clear hK K
 try simp only [tp, tz]
 refine tkz 8 rfl ?_
 try simp only [tp, tz]
 refine tkz 9 rfl ?_
 try simp only [tp, tz]
 refine wpAnyH_done (by kernel_rfl) ?_ _
 have hmade : Made (WorldIs w6.heap.size (newWorld c)) w (w6.alloc (.cells (worldCells pc w4.heap.size w5.heap.size (newWorld c)).toArray 126)) := by
  have hbn : c.bits.toNat = b := by have := HB.out; omega
  refine made_world (W := newWorld c) (by simp [newWorld]) (Made.later HL3.out (Made.star (framed_cells pc _) ?_ (Made.star (framed_items _ _) HI.out HNo.out))) rfl
  show Made (CellsIs pc ⟨setF (fun _ => 0) 2 (wordN c.bits.toNat 0), 0, noAcc⟩) W3 w4
  rw [hbn]
  exact HNC.out
 have hA : ((((((((((Tryz.zeroCells126.setIfInBounds 0 (ptrV pc)).setIfInBounds 1 (ptrN w4.heap.size)).setIfInBounds 2 (ptrN w5.heap.size)).setIfInBounds 3 (.int .i64 c.bits)).setIfInBounds 4 (.int .i64 c.budget)).setIfInBounds 5 (.int .i64 c.tries)).setIfInBounds 6 (.int .i64 c.quantum)).setIfInBounds 7 (.int .i64 c.way)).setIfInBounds 72 (.int .i64 (-1)))) = (worldCells pc w4.heap.size w5.heap.size (newWorld c)).toArray := by kernel_rfl
 rw [hA]
 have HM := hidZ hmade
 obtain ⟨CS, hCS⟩ := xE ((worldCells pc w4.heap.size w5.heap.size (newWorld c)).toArray)
 rw [← hCS] at HM ⊢
 clear hmade hHf hf6 hl6 hl5 hl4 hf3 q0 q1 hA hCS
 go_wp2_with fail
 exact bodyPost_ret (results_tmp2 (by exact Tryz.results42) _ _ _) rfl ⟨w6.heap.size, rfl, HM.out⟩
structure Two (A B : Thing) (w : World) (S1 S2 : Nat → Prop) : Prop where
 fst : A w S1
 snd : B w S2
 dis : ∀ k, S1 k → S2 k → False
def Or2 (S1 S2 : Nat → Prop) : Nat → Prop := fun k => S1 k ∨ S2 k
theorem Two.left {A A' B : Thing} {w w' : World} {S1 S2 : Nat → Prop} (hA : Framed A) (hB : Framed B) (h : Two A B w S1 S2) (h' : A' w' S1 ∧ Chg S1 w w') : Two A' B w' S1 S2 ∧ Chg (Or2 S1 S2) w w' :=
 ⟨⟨h'.1, hB.keep h.snd h'.2 (fun k hk => ⟨fun e => h.dis k hk e, hA.txt h.fst hk⟩), h.dis⟩, h'.2.mono (fun _ _ e => .inl e)⟩
theorem Two.right {A B B' : Thing} {w w' : World} {S1 S2 : Nat → Prop} (hA : Framed A) (hB : Framed B) (h : Two A B w S1 S2) (h' : B' w' S2 ∧ Chg S2 w w') : Two A B' w' S1 S2 ∧ Chg (Or2 S1 S2) w w' :=
 ⟨⟨hA.keep h.fst h'.2 (fun k hk => ⟨fun e => h.dis k e hk, hB.txt h.snd hk⟩), h'.1, h.dis⟩, h'.2.mono (fun _ _ e => .inr e)⟩
theorem Two.step {A A' B : Thing} {w w' : World} {S1 S2 : Nat → Prop} (hA : Framed A) (hB : Framed B) (h : Two A B w S1 S2) (h' : Stp A' S1 w w') : ∃ S1', Two A' B w' S1' S2 ∧ Chg S1 w w' ∧ (∀ k, S1' k → S1 k ∨ w.heap.size ≤ k) := by
 obtain ⟨S1', a, b, c⟩ := h'
 refine ⟨S1', ⟨a, hB.keep h.snd b (fun k hk => ⟨fun e => h.dis k hk e, hA.txt h.fst hk⟩), fun k hk e => ?_⟩, b, c⟩
 rcases c k hk with hk | hk
 ·exact h.dis k hk e
 ·have := hB.lt h.snd e
  omega
theorem Two.star {A B : Thing} {w w' : World} {S1 S2 S : Nat → Prop} (h : Two A B w' S1 S2) (hc : Chg S w w') (hk : ∀ k, Or2 S1 S2 k → S k ∨ w.heap.size ≤ k) : Stp (Star A B) S w w' :=
 ⟨Or2 S1 S2, ⟨S1, S2, h.fst, h.snd, h.dis, fun _ => Iff.rfl⟩, hc, hk⟩
def WorldAt (p pc pi pn : Nat) (W : WorldM) : Thing := Star (Blk p (worldCells pc pi pn W) 126) (Star (CellsIs pc W.cells) (Star (ItemsIs pi W.items) (NotesIs pn W.notes)))
structure WorldM.Ok (W : WorldM) : Prop where
 tickets : W.tickets.length = 64
 small : ∀ n ∈ W.tickets, U64 n
 f : ∀ a, U64 (W.cells.f a)
 count : W.cells.count < 4611686018427387904
theorem framed_at (p pc pi pn : Nat) (W : WorldM) : Framed (WorldAt p pc pi pn W) := (framed_blk p _ _ (by decide)).star ((framed_cells pc _).star ((framed_items pi _).star (framed_notes pn _)))
section
variable {w : World} {p pc pi pn : Nat} {W : WorldM} {S : Nat → Prop}
theorem WorldIs.at (h : WorldIs p W w S) : ∃ pc pi pn, WorldAt p pc pi pn W w S := by
 obtain ⟨pc, pi, pn, -, h⟩ := h
 exact ⟨pc, pi, pn, h⟩
theorem WorldAt.is (h : WorldAt p pc pi pn W w S) (ht : W.tickets.length = 64) : WorldIs p W w S := ⟨pc, pi, pn, ht, h⟩
theorem WorldAt.blk (h : WorldAt p pc pi pn W w S) : w.heap[p]? = some (.cells (worldCells pc pi pn W).toArray 126 (0, 0)) ∧ S p := by
 obtain ⟨S1, S2, ⟨h1, h2⟩, -, -, hs⟩ := h
 exact ⟨h1, (hs p).2 (.inl ((h2 p).2 rfl))⟩
theorem WorldAt.cell (h : WorldAt p pc pi pn W w S) {j : Nat} {v : Value} (hj : (worldCells pc pi pn W)[j]? = some v) : w.cell? ⟨p, j, none⟩ = some v ∧ w.frozen? ⟨p, j, none⟩ = false := by
 obtain ⟨h1, h2⟩ := cellsAt h.blk.1 j
 exact ⟨by rw [h1]; simpa using hj, h2⟩
theorem WorldAt.cells (h : WorldAt p pc pi pn W w S) : ∃ S1, CellsIs pc W.cells w S1 ∧ (∀ k, S1 k → S k ∧ k ≠ p) ∧ (∀ c' w', Stp (CellsIs pc c') S1 w w' → Stp (WorldAt p pc pi pn { W with cells := c' }) S w w') := by
 obtain ⟨S0, S123, h0, ⟨S1, S23, h1, h23, hd, hs⟩, hd', hs'⟩ := h
 refine ⟨S1, h1, fun k hk => ⟨(hs' k).2 (.inr ((hs k).2 (.inl hk))), fun e => hd' k ((h0.2 k).2 e) ((hs k).2 (.inl hk))⟩, fun c' w' hst => ?_⟩
 have hF : Framed (Star (ItemsIs pi W.items) (NotesIs pn W.notes)) := (framed_items pi _).star (framed_notes pn _)
 have h2 : Stp (Star (CellsIs pc c') (Star (ItemsIs pi W.items) (NotesIs pn W.notes))) S123 w w' := Stp.left hF (framed_cells pc _) h1 h23 hd hs hst
 exact Stp.right (A := Blk p (worldCells pc pi pn W) 126) (B' := Star (CellsIs pc c') (Star (ItemsIs pi W.items) (NotesIs pn W.notes))) (framed_blk p _ _ (by decide)) ((framed_cells pc _).star hF) h0 ⟨S1, S23, h1, h23, hd, hs⟩ hd' hs' h2
theorem WorldAt.set (h : WorldAt p pc pi pn W w S) {W' : WorldM} {j : Nat} {v : Value} (hc : W'.cells = W.cells) (hi : W'.items = W.items) (hn : W'.notes = W.notes) (hj : (worldCells pc pi pn W).set j v = worldCells pc pi pn W') : WorldAt p pc pi pn W' (w.setCell ⟨p, j, none⟩ v) S ∧ Chg S w (w.setCell ⟨p, j, none⟩ v) := by
 obtain ⟨S0, S123, h0, h1, hd, hs⟩ := h
 have hp : S0 p := (h0.2 p).2 rfl
 have hc0 : Chg S0 w (w.setCell ⟨p, j, none⟩ v) := (Chg.refl S0 w).set (fun _ => hp) v
 refine ⟨⟨S0, S123, ⟨?_, h0.2⟩, ?_, hd, hs⟩, hc0.mono (fun k _ e => (hs k).2 (.inl e))⟩
 ·have := Go.Joins.block_setCell (i := j) h0.1 v
  rw [← hj]
  simpa using this
 ·unfold WorldAt at *
  rw [hc, hi, hn]
  exact ((framed_cells pc _).star ((framed_items pi _).star (framed_notes pn _))).keep h1 hc0 (fun k hk => ⟨fun e => hd k hk e, (framed_blk p _ _ (by decide)).txt h0 hk⟩)
end
theorem Blk.set {x : Nat} {cs : List Value} {ty : TypeId} {w : World} {S : Nat → Prop} (h : Blk x cs ty w S) (j : Nat) (v : Value) : Blk x (cs.set j v) ty (w.setCell ⟨x, j, none⟩ v) S ∧ Chg S w (w.setCell ⟨x, j, none⟩ v) := by
 refine ⟨⟨?_, h.2⟩, (Chg.refl S w).set (fun _ => (h.2 x).2 rfl) v⟩
 have := Go.Joins.block_setCell (i := j) h.1 v
 simpa using this
theorem Blk.cell {x : Nat} {cs : List Value} {ty : TypeId} {w : World} {S : Nat → Prop} (h : Blk x cs ty w S) {j : Nat} {v : Value} (hj : cs[j]? = some v) : w.cell? ⟨x, j, none⟩ = some v ∧ w.frozen? ⟨x, j, none⟩ = false := by
 obtain ⟨h1, h2⟩ := cellsAt h.1 j
 exact ⟨by rw [h1]; simpa using hj, h2⟩
theorem world_get0 (pc pi pn : Nat) (W : WorldM) : (worldCells pc pi pn W)[0]? = some (ptrN pc) := rfl
theorem world_get1 (pc pi pn : Nat) (W : WorldM) : (worldCells pc pi pn W)[1]? = some (ptrN pi) := rfl
theorem world_get2 (pc pi pn : Nat) (W : WorldM) : (worldCells pc pi pn W)[2]? = some (ptrN pn) := rfl
theorem world_ticket {pc pi pn : Nat} {W : WorldM} {t n : Nat} (h : W.tickets[t]? = some n) : (worldCells pc pi pn W)[8 + t]? = some (.int .u64 (n : Int)) := by
 unfold worldCells
 rw [List.getElem?_append_right (by simp; omega), List.getElem?_append_right (by simp; omega), List.getElem?_append_left (by
  have := (List.getElem?_eq_some_iff.1 h).1
  simp; omega)]
 simp only [List.length_cons, List.length_nil, show 8 + t - 3 - 5 = t by omega, List.getElem?_map, h, Option.map_some]
theorem world_setTicket {pc pi pn : Nat} {W : WorldM} {t : Nat} (n : Nat) (ht : t < W.tickets.length) : (worldCells pc pi pn W).set (8 + t) (.int .u64 (n : Int)) = worldCells pc pi pn { W with tickets := W.tickets.set t n } := by
 unfold worldCells
 rw [List.set_append_right _ _ (by simp; omega), List.set_append_right _ _ (by simp; omega), List.set_append_left _ _ (by simp; omega)]
 simp only [List.length_cons, List.length_nil, show 8 + t - 3 - 5 = t by omega, List.map_set]
theorem world_holder {pc pi pn : Nat} {W : WorldM} (ht : W.tickets.length = 64) : (worldCells pc pi pn W)[72]? = some (.int .i64 W.holder) := by
 unfold worldCells
 rw [List.getElem?_append_right (by simp), List.getElem?_append_right (by simp), List.getElem?_append_right (by simp [ht])]
 simp [ht]
theorem world_setHolder {pc pi pn : Nat} {W : WorldM} (ht : W.tickets.length = 64) (n : Int) : (worldCells pc pi pn W).set 72 (.int .i64 n) = worldCells pc pi pn { W with holder := n } := by
 unfold worldCells
 rw [List.set_append_right _ _ (by simp), List.set_append_right _ _ (by simp), List.set_append_right _ _ (by simp [ht])]
 simp [ht]
theorem wsteps_any {w : World} {p : Nat} {W : WorldM} {S : Nat → Prop} (h : WorldIs p W w S) : Calls Tryz.prog 49 #[ptrN p] w fun e w' => e = .returned (.int .i64 (W.cells.count : Int)) ∧ w = w' := by
 obtain ⟨pc, pi, pn, ha⟩ := h.at
 have c0 := (ha.cell (world_get0 pc pi pn W)).1
 obtain ⟨S1, hc, -, -⟩ := ha.cells
 have HC := hidZ (ccount_any hc)
 clear h ha hc
 go_enter Tryz.func49, Tryz.ntmps49
 go_wp2_with fail
 refine HC.out.mono ?_
 rintro e w1 ⟨rfl, rfl⟩
 clear HC
 go_wp2_with fail
 go_ret
 exact ⟨rfl, rfl⟩
end Go.Proofs.YtnkkoicbnbjlnaaGreatDoor
