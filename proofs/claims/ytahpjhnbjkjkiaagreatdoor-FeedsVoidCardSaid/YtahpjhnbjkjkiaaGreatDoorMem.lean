/- Memory: slices of elements of some cells each, blocks' types, what a step keeps that changes some blocks alone. No condition. -/
import Derived.Test.YtahpjhnbjkjkiaaGreatDoorBase
import Derived.RangeFuncWrites
namespace Go.Proofs.YtahpjhnbjkjkiaaGreatDoor
open Go.RowKit

/-- Block g holds cells of type e. -/
def Tag (w : World) (g : Nat) (e : TypeId) : Prop := ∃ cs fz, w.heap[g]? = some (.cells cs e fz)
theorem Tag.lt {w : World} {g : Nat} {e : TypeId} (h : Tag w g e) : g < w.heap.size := by
  obtain ⟨cs, fz, h⟩ := h
  exact (Array.getElem?_eq_some_iff.1 h).1
theorem Tag.one {w : World} {g : Nat} {e e' : TypeId} (h : Tag w g e) (h' : Tag w g e') : e = e' := by
  obtain ⟨cs, fz, h⟩ := h
  obtain ⟨cs', fz', h'⟩ := h'
  rw [h] at h'
  simp at h'
  exact h'.2.1
theorem Tag.of {w : World} {g : Nat} {e : TypeId} {cs : Array Value} {fz : Nat × Nat} (h : w.heap[g]? = some (.cells cs e fz)) : Tag w g e := ⟨cs, fz, h⟩

/-- What lay before lies as it lay, but blocks of M. -/
structure Chg (M : Nat → Prop) (w w' : World) : Prop where
  os : w'.os = w.os
  tape : w'.tape = w.tape
  output : w'.output = w.output
  size : w.heap.size ≤ w'.heap.size
  block : ∀ k, k < w.heap.size → ¬ M k → w'.heap[k]? = w.heap[k]?
theorem Chg.refl (M : Nat → Prop) (w : World) : Chg M w w := ⟨rfl, rfl, rfl, Nat.le_refl _, fun _ _ _ => rfl⟩
theorem Chg.trans {M : Nat → Prop} {a b c : World} (h : Chg M a b) (k : Chg M b c) : Chg M a c :=
  ⟨k.os.trans h.os, k.tape.trans h.tape, k.output.trans h.output, Nat.le_trans h.size k.size, fun i hi hm => (k.block i (Nat.lt_of_lt_of_le hi h.size) hm).trans (h.block i hi hm)⟩
/-- The second step may change more, of what is new. -/
theorem Chg.then {M M' : Nat → Prop} {a b c : World} (h : Chg M a b) (k : Chg M' b c) (hM : ∀ i, i < a.heap.size → M' i → M i) : Chg M a c :=
  ⟨k.os.trans h.os, k.tape.trans h.tape, k.output.trans h.output, Nat.le_trans h.size k.size, fun i hi hm => (k.block i (Nat.lt_of_lt_of_le hi h.size) (fun e => hm (hM i hi e))).trans (h.block i hi hm)⟩
theorem Chg.mono {M M' : Nat → Prop} {a b : World} (h : Chg M a b) (hM : ∀ i, i < a.heap.size → M i → M' i) : Chg M' a b :=
  ⟨h.os, h.tape, h.output, h.size, fun i hi hm => h.block i hi (fun e => hm (hM i hi e))⟩
theorem Chg.of_grown {M : Nat → Prop} {a b : World} {r : Option Nat} (h : a.grownBy b r) (hM : ∀ i, i < a.heap.size → r = some i → M i) : Chg M a b :=
  ⟨h.os, h.tape, h.output, h.size, fun i hi hm => h.block i hi (fun e => hm (hM i hi e.symm))⟩
theorem Chg.of_below {M : Nat → Prop} {a b : World} (h : Below a.heap.size a b) : Chg M a b :=
  ⟨h.os, h.tape, h.output, h.size, fun i hi _ => h.block i hi⟩
theorem Chg.alloc {M : Nat → Prop} {a b : World} (h : Chg M a b) (o : Obj) : Chg M a (b.alloc o) := h.then (M' := fun _ => False) (Chg.of_grown (World.grownBy_alloc b o none) (fun _ _ e => by cases e)) (fun _ _ e => e.elim)
theorem Chg.drew {M : Nat → Prop} {a b : World} (h : Chg M a b) : Chg M a b.drew := ⟨h.os, h.tape, h.output, h.size, h.block⟩
theorem Chg.drewN {M : Nat → Prop} {a b : World} (h : Chg M a b) (n : Nat) : Chg M a (b.drewN n) := ⟨h.os, h.tape, h.output, h.size, h.block⟩
theorem Chg.set {M : Nat → Prop} {a b : World} (h : Chg M a b) {p j : Nat} (hp : p < a.heap.size → M p) (v : Value) : Chg M a (b.setCell ⟨p, j, none⟩ v) :=
  h.then (M' := fun k => k = p) ⟨rfl, rfl, rfl, by simp, fun k _ hk => Below.heap_setCell b ⟨p, j, none⟩ v k hk⟩ (fun i hi e => by subst e; exact hp hi)
theorem Chg.below {M : Nat → Prop} {a b : World} {B : Nat} (h : Chg M a b) (hB : ∀ k, k < B → k < a.heap.size ∧ ¬ M k) : Below B a b :=
  ⟨h.os, h.tape, h.output, h.size, fun k hk => h.block k (hB k hk).1 (hB k hk).2⟩
theorem Chg.cell {M : Nat → Prop} {w w' : World} (hc : Chg M w w') {g o : Nat} {v : Value} (h : w.cell? ⟨g, o, none⟩ = some v) (hM : ¬ M g) : w'.cell? ⟨g, o, none⟩ = some v :=
  (World.cell?_of_block (hc.block g (cell_lt h) hM)).trans h
theorem Chg.frozen {M : Nat → Prop} {w w' : World} (hc : Chg M w w') {g o : Nat} (hg : g < w.heap.size) (hM : ¬ M g) : w'.frozen? ⟨g, o, none⟩ = w.frozen? ⟨g, o, none⟩ :=
  World.frozen?_of_block (hc.block g hg hM)
theorem Chg.obj {M : Nat → Prop} {w w' : World} (hc : Chg M w w') {g : Nat} {o : Obj} (h : w.heap[g]? = some o) (hM : ¬ M g) : w'.heap[g]? = some o :=
  (hc.block g (Array.getElem?_eq_some_iff.1 h).1 hM).trans h
theorem Chg.tag {M : Nat → Prop} {w w' : World} (hc : Chg M w w') {g : Nat} {e : TypeId} (h : Tag w g e) (hM : ¬ M g) : Tag w' g e := by
  obtain ⟨cs, fz, h⟩ := h
  exact ⟨cs, fz, hc.obj h hM⟩
/-- Blocks that are no cells lie as they lay. -/
theorem Chg.others {M : Nat → Prop} {w w' : World} (hc : Chg M w w') (hM : ∀ k, k < w.heap.size → M k → ∃ e, Tag w k e) : KeepsOthers w w' :=
  ⟨hc.size, fun k o hk ho => hc.obj hk (fun e => by
    obtain ⟨t, cs, fz, h⟩ := hM k (Array.getElem?_eq_some_iff.1 hk).1 e
    rw [hk] at h
    cases h
    cases ho)⟩

/-- A slice of n elements of sz cells each. -/
def Row (w : World) (e : TypeId) (sz : Nat) (v : Value) (n : Nat) (xs : List Value) : Prop :=
  xs.length = n * sz ∧ ∃ (a : Option Addr) (c : Nat), v = .slice a n c ∧ n ≤ c ∧ c ≤ maxLen ∧ (a = none → c = 0) ∧ (∀ g, v.ownBlock = some g → Tag w g e) ∧
    (xs = [] ∨ ∃ g o : Nat, a = some ⟨g, o, none⟩ ∧ ∀ j x, xs[j]? = some x → w.cell? ⟨g, o + j, none⟩ = some x ∧ w.frozen? ⟨g, o + j, none⟩ = false)
theorem Row.nil (w : World) (e : TypeId) (sz : Nat) : Row w e sz (.slice none 0 0) 0 [] := ⟨by simp, none, 0, rfl, Nat.le_refl _, by simp [maxLen], fun _ => rfl, (fun g hg => by simp [Value.ownBlock] at hg), .inl rfl⟩
theorem Row.len {w : World} {e : TypeId} {sz n : Nat} {v : Value} {xs : List Value} (h : Row w e sz v n xs) : ∃ a c, v = .slice a n c := by
  obtain ⟨_, a, c, rfl, _⟩ := h
  exact ⟨a, c, rfl⟩
theorem Row.max {w : World} {e : TypeId} {sz n : Nat} {v : Value} {xs : List Value} (h : Row w e sz v n xs) : n ≤ maxLen := by
  obtain ⟨_, a, c, rfl, h1, h2, _⟩ := h
  omega
theorem Row.tag {w : World} {e : TypeId} {sz n : Nat} {v : Value} {xs : List Value} (h : Row w e sz v n xs) {g : Nat} (hg : v.ownBlock = some g) : Tag w g e := by
  obtain ⟨_, a, c, rfl, h1, h2, h3, h4, _⟩ := h
  exact h4 g hg
theorem Row.kept {M : Nat → Prop} {w w' : World} {e : TypeId} {sz n : Nat} {v : Value} {xs : List Value} (h : Row w e sz v n xs) (hc : Chg M w w') (hM : ∀ g, v.ownBlock = some g → ¬ M g) : Row w' e sz v n xs := by
  obtain ⟨h0, a, c, rfl, h1, h2, h3, h4, h5⟩ := h
  refine ⟨h0, a, c, rfl, h1, h2, h3, fun g hg => hc.tag (h4 g hg) (hM g hg), h5.imp id ?_⟩
  rintro ⟨g, o, rfl, h6⟩
  refine ⟨g, o, rfl, fun j x hx => ?_⟩
  have hg : ¬ M g := hM g rfl
  exact ⟨hc.cell (h6 j x hx).1 hg, (hc.frozen (cell_lt (h6 j x hx).1) hg).trans (h6 j x hx).2⟩
theorem Row.below {w w' : World} {e : TypeId} {sz n : Nat} {v : Value} {xs : List Value} (h : Row w e sz v n xs) (hb : Below w.heap.size w w') : Row w' e sz v n xs :=
  h.kept (M := fun _ => False) (Chg.of_below hb) (fun _ _ h => h)
theorem Row.of_owns {w : World} {B : Nat} {e : TypeId} {sz n : Nat} {v : Value} {xs : List Value} (h : w.ownsRow B e sz v n xs) : Row w e sz v n xs := by
  obtain ⟨hl, h2⟩ := h
  rcases h2 with ⟨rfl, rfl⟩ | ⟨g, cap, cur, rfl, hg, hh, hn, hm, hs, ht⟩
  · obtain rfl : xs = [] := List.eq_nil_of_length_eq_zero (by omega)
    exact Row.nil w e sz
  · refine ⟨hl, _, cap, rfl, hn, hm, (fun h => by cases h), (fun g' hg' => ?_), .inr ⟨g, 0, rfl, fun j x hx => ?_⟩⟩
    · obtain rfl : g = g' := by simpa [Value.ownBlock] using hg'
      exact ⟨_, _, hh⟩
    · have hj : j < xs.length := (List.getElem?_eq_some_iff.1 hx).1
      constructor
      · rw [Nat.zero_add, cell_of_row w g j cur e (0, 0) hh]
        rw [← ht, List.getElem?_take, if_pos (by omega)] at hx
        simpa using hx
      · simp [World.frozen?, hh]
/-- The cell at a place. -/
theorem Row.at {w : World} {e : TypeId} {sz n : Nat} {v : Value} {xs : List Value} (h : Row w e sz v n xs) {k : Nat} {x : Value} (hx : xs[k]? = some x) :
    ∃ g o c : Nat, v = .slice (some ⟨g, o, none⟩) n c ∧ n ≤ c ∧ w.cell? ⟨g, o + k, none⟩ = some x ∧ w.frozen? ⟨g, o + k, none⟩ = false := by
  obtain ⟨_, a, c, rfl, h1, h2, h3, h4, h5⟩ := h
  rcases h5 with rfl | ⟨g, o, rfl, h6⟩
  · simp at hx
  · exact ⟨g, o, c, rfl, h1, (h6 k x hx).1, (h6 k x hx).2⟩
theorem Row.some {w : World} {e : TypeId} {sz n : Nat} {v : Value} {xs : List Value} (h : Row w e sz v n xs) (hne : xs ≠ []) :
    ∃ g o c : Nat, v = .slice (Option.some ⟨g, o, none⟩) n c ∧ g < w.heap.size ∧ n ≤ c ∧ c ≤ maxLen ∧ Tag w g e ∧ ∀ j x, xs[j]? = Option.some x → w.cell? ⟨g, o + j, none⟩ = Option.some x ∧ w.frozen? ⟨g, o + j, none⟩ = false := by
  obtain ⟨_, a, c, rfl, h1, h2, h3, h4, h5⟩ := h
  rcases h5 with rfl | ⟨g, o, rfl, h6⟩
  · exact absurd rfl hne
  · exact ⟨g, o, c, rfl, (h4 g rfl).lt, h1, h2, h4 g rfl, h6⟩
/-- Rows of one cell an element are Own. -/
theorem Row.own {w : World} {e : TypeId} {n : Nat} {v : Value} {xs : List Value} (h : Row w e 1 v n xs) : Own w 0 v xs := by
  obtain ⟨h0, a, c, rfl, h1, h2, h3, h4, h5⟩ := h
  have hn : n = xs.length := by omega
  subst hn
  exact ⟨a, c, rfl, h1, h2, h3, h5.imp id (fun ⟨g, o, ha, h6⟩ => ⟨g, o, ha, Nat.zero_le _, h6⟩)⟩
theorem owns_grow {w w' : World} {M : Nat → Prop} {B : Nat} {e : TypeId} {sz n : Nat} {v : Value} {xs : List Value} (h : w.ownsRow B e sz v n xs) (hc : Chg M w w') (hM : ∀ g, v.ownBlock = some g → ¬ M g) : w'.ownsRow B e sz v n xs := by
  refine ⟨h.1, ?_⟩
  rcases h.2 with hn | ⟨g, cap, cur, rfl, hb, hgg, rest⟩
  · exact .inl hn
  · exact .inr ⟨g, cap, cur, rfl, hb, hc.obj hgg (hM g rfl), rest⟩
theorem owns_tag {w : World} {B : Nat} {e : TypeId} {sz n : Nat} {v : Value} {xs : List Value} (h : w.ownsRow B e sz v n xs) {g : Nat} (hg : v.ownBlock = some g) : Tag w g e := (Row.of_owns h).tag hg
/-- A slice of bytes that is read. -/
def BRow (w : World) (bv : Value) (bl : List UInt8) : Prop :=
  ∃ (a : Option Addr) (c : Nat), bv = .slice a bl.length c ∧ bl.length ≤ c ∧ c ≤ maxLen ∧ (a = none → c = 0) ∧ (bl = [] ∨ ∃ g o : Nat, a = some ⟨g, o, none⟩ ∧ g < w.heap.size ∧ ∀ j x, bl[j]? = some x → w.cell? ⟨g, o + j, none⟩ = some (u8v x))
theorem BRow.len {w : World} {bv : Value} {bl : List UInt8} (h : BRow w bv bl) : ∃ a c, bv = .slice a bl.length c := by
  obtain ⟨a, c, rfl, _⟩ := h
  exact ⟨a, c, rfl⟩
theorem BRow.cap {w : World} {bv : Value} {bl : List UInt8} (h : BRow w bv bl) : bl.length ≤ maxLen := by
  obtain ⟨a, c, rfl, h1, h2, _⟩ := h
  omega
theorem BRow.at {w : World} {bv : Value} {bl : List UInt8} (h : BRow w bv bl) {k : Nat} {x : UInt8} (hx : bl[k]? = some x) : ∃ g o c : Nat, bv = .slice (some ⟨g, o, none⟩) bl.length c ∧ bl.length ≤ c ∧ w.cell? ⟨g, o + k, none⟩ = some (u8v x) := by
  obtain ⟨a, c, rfl, h1, h2, h3, h4⟩ := h
  rcases h4 with rfl | ⟨g, o, rfl, _, h5⟩
  · simp at hx
  · exact ⟨g, o, c, rfl, h1, h5 k x hx⟩
theorem BRow.get {w : World} {bv : Value} {bl : List UInt8} (h : BRow w bv bl) (hne : bl ≠ []) : ∃ g o c : Nat, bv = .slice (Option.some ⟨g, o, none⟩) bl.length c ∧ g < w.heap.size ∧ bl.length ≤ c ∧ c ≤ maxLen ∧ ∀ j x, bl[j]? = Option.some x → w.cell? ⟨g, o + j, none⟩ = Option.some (u8v x) := by
  obtain ⟨a, c, rfl, h1, h2, h3, h4⟩ := h
  rcases h4 with rfl | ⟨g, o, rfl, hg, h5⟩
  · exact absurd rfl hne
  · exact ⟨g, o, c, rfl, hg, h1, h2, h5⟩
theorem BRow.kept {M : Nat → Prop} {w w' : World} {bv : Value} {bl : List UInt8} (h : BRow w bv bl) (hc : Chg M w w') (hM : bl ≠ [] → ∀ g, bv.ownBlock = some g → ¬ M g) : BRow w' bv bl := by
  obtain ⟨a, c, rfl, h1, h2, h3, h4⟩ := h
  refine ⟨a, c, rfl, h1, h2, h3, h4.imp id ?_⟩
  rintro ⟨g, o, rfl, hg, h5⟩
  exact ⟨g, o, rfl, Nat.lt_of_lt_of_le hg hc.size, fun j x hx => hc.cell (h5 j x hx) (hM (by rintro rfl; simp at hx) g rfl)⟩
theorem BRow.below {w w' : World} {bv : Value} {bl : List UInt8} (h : BRow w bv bl) (hb : Below w.heap.size w w') : BRow w' bv bl :=
  h.kept (M := fun _ => False) (Chg.of_below hb) (fun _ _ _ h => h)
/-- A slice that is not empty lies in a block that is there. -/
theorem BRow.blk {w : World} {bv : Value} {bl : List UInt8} (h : BRow w bv bl) (hne : bl ≠ []) {g : Nat} (hg : bv.ownBlock = some g) : g < w.heap.size := by
  obtain ⟨g', o, c, rfl, hg', _⟩ := h.get hne
  obtain rfl : g' = g := by simpa [Value.ownBlock] using hg
  exact hg'
theorem Row.bytes {w : World} {bv : Value} {bl : List UInt8} (h : Row w 5 1 bv bl.length (bl.map u8v)) : BRow w bv bl := by
  obtain ⟨h0, a, c, rfl, h1, h2, h3, h4, h5⟩ := h
  refine ⟨a, c, rfl, h1, h2, h3, ?_⟩
  rcases h5 with h5 | ⟨g, o, rfl, h6⟩
  · exact .inl (by simpa using h5)
  · exact .inr ⟨g, o, rfl, (h4 g rfl).lt, fun j x hx => (h6 j (u8v x) (by rw [List.getElem?_map, hx]; rfl)).1⟩
theorem own_bytes {w : World} {B : Nat} {bv : Value} {bl : List UInt8} (h : Own w B bv (bl.map u8v)) : BRow w bv bl := by
  obtain ⟨a, c, rfl, h1, h2, h3, h4⟩ := h
  simp only [List.length_map] at h1 ⊢
  refine ⟨a, c, rfl, h1, h2, h3, ?_⟩
  rcases h4 with h4 | ⟨g, o, rfl, _, h5⟩
  · exact .inl (by simpa using h4)
  · have hb : ∀ j x, bl[j]? = some x → w.cell? ⟨g, o + j, none⟩ = some (u8v x) := fun j x hx => (h5 j (u8v x) (by rw [List.getElem?_map, hx]; rfl)).1
    cases bl with
    | nil => exact .inl rfl
    | cons x bl => exact .inr ⟨g, o, rfl, cell_lt (hb 0 x rfl), hb⟩
end Go.Proofs.YtahpjhnbjkjkiaaGreatDoor
