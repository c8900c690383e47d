/- lines.Line: the line of a command. Conditions: the numbers of their kinds; the line of at most 2^20 bytes; the library variables as they must be. -/
import Derived.Test.YtddifbimlmkcbaaGreatDoorLowE
import Derived.Laws.AppendOwnNone
import Derived.Maps.AppendAt
import Derived.Lib.Join
namespace Go.Proofs.YtddifbimlmkcbaaGreatDoor
open Go.RowKit Go.ChangeMaps Go.MapKept

/-- The fields that are written of a command. -/
def fieldsOf (c : Cmd) : List Nat := if 0 < leastOf c.verb ∨ c.exp ≠ 0 then restOf c.verb else []
/-- A command's words, whatever it says. -/
def lineW (c : Cmd) : List (List UInt8) := names.getD (c.verb - 1) [] :: c.keys ++ (fieldsOf c).map (textF c) ++ (if c.quiet then [noreply] else [])
def lineS (c : Cmd) : List UInt8 := Lib.join (lineW c) [32]
def lineOk (c : Cmd) : Bool := (parseL (lineS c)).2 == 0 && sameC (parseL (lineS c)).1 c
/-- A command's line, if it has one. -/
def lineL (c : Cmd) : List UInt8 × Bool := if c.verb ≠ 0 ∧ c.verb < 14 ∧ lineOk c = true then (lineS c, true) else ([], false)

def LineOk (c : Cmd) (w : World) (e : Ending) (w' : World) : Prop := e = .returned (.tuple #[sv (lineL c).1, .bool (lineL c).2]) ∧ Below w.heap.size w w'

/-- What the loop over the shapes holds. -/
def LineInv (c : Cmd) (B r : Nat) (W wr : World) : Prop :=
  ∃ seen c0, wr.heap[r]? = some (.mapIter (some (B + 1)) 13 seen c0) ∧ 13 ≤ c0 ∧ W.grownBy wr (some r) ∧ ((c.verb ≠ 0 ∧ c.verb < 14 → entryV B c.verb ∈ (leftOf (shapeEs B).toArray seen).toList) ∨ lineL c = ([], false))

theorem below_to {w w1 w2 : World} (h : Below w.heap.size w w1) (hg : w1.grownBy w2 none) : Below w.heap.size w w2 := ⟨hg.os.trans h.os, hg.tape.trans h.tape, hg.output.trans h.output, Nat.le_trans h.size hg.size, fun k hk => (hg.block k (Nat.lt_of_lt_of_le hk h.size) (by simp)).trans (h.block k hk)⟩
theorem row_none {w w' : World} {row : Option Nat} (h : w.grownBy w' none) : w.grownBy w' row := ⟨h.os, h.tape, h.output, h.size, fun k hk _ => h.block k hk (by simp)⟩
theorem own_none {w : World} {B n c : Nat} {L : List (List UInt8)} (h : Strs w B (.slice none n c) L) : L.length = 0 := by
  obtain ⟨a, c', he, _, _, _, h4⟩ := h
  rcases h4 with h4 | ⟨g, o, rfl, _⟩
  · rw [List.map_eq_nil_iff.1 h4]; rfl
  · have := (slice_inj he).1; cases this
theorem own_none_cap {w : World} {B n c : Nat} {L : List (List UInt8)} (h : Strs w B (.slice none n c) L) : c = 0 := by
  obtain ⟨a, c', he, _, _, h3, _⟩ := h
  obtain ⟨h1, _, h2⟩ := slice_inj he
  rw [h2]; exact h3 h1.symm
theorem own_cells {w : World} {B n c : Nat} {ad : Addr} {L : List (List UInt8)} (h : Strs w B (.slice (some ad) n c) L) (ob : Obj) (j : Nat) (x : Value) (hx : (L.map sv)[j]? = some x) : (w.alloc ob).cell? (ad.add j) = some x := by
  obtain ⟨a, c', he, _, _, _, h4⟩ := h
  rcases h4 with h4 | ⟨g, o, ha, _, h5⟩
  · rw [h4] at hx; simp at hx
  · have h1 := (slice_inj he).1
    rw [ha] at h1
    cases h1
    rw [show (⟨g, o, none⟩ : Addr).add j = ⟨g, o + j, none⟩ from Addr.add_mid g o j]
    exact (((Below.refl w.heap.size w).alloc (Nat.le_refl _) ob).cell (p := ⟨g, o + j, none⟩) (cell_lt (h5 j x hx).1)).trans (h5 j x hx).1
theorem one_svs (L : List (List UInt8)) : ∀ u ∈ L.map sv, u.oneCell' = true := fun u hu => by
  obtain ⟨x, _, rfl⟩ := List.mem_map.1 hu; rfl
theorem grown_new {w w' : World} {ob : Obj} (h : (w.alloc ob).grownBy w' (some w.heap.size)) : w.grownBy w' none := by
  have h1 := World.grownBy_alloc w ob none
  exact ⟨h.os.trans h1.os, h.tape.trans h1.tape, h.output.trans h1.output, Nat.le_trans h1.size h.size, fun k hk _ => (h.block k (by simp; omega) (by simp; omega)).trans (h1.block k hk (by simp))⟩
theorem rowKept {w w' : World} {B : Nat} {e : TypeId} {sz n : Nat} {v : Value} {xs : List Value} (h : w.ownsRow B e sz v n xs) (hb : Below w.heap.size w w') : w'.ownsRow B e sz v n xs := by
  obtain ⟨hl, h2⟩ := h
  refine ⟨hl, h2.imp id ?_⟩
  rintro ⟨g, cap, cur, rfl, hg, hh, hr⟩
  exact ⟨g, cap, cur, rfl, hg, (hb.block g (Array.getElem?_eq_some_iff.1 hh).1).trans hh, hr⟩
/-- The words behind i fields. -/
def wordsTo (c : Cmd) (nm : List UInt8) (i : Nat) : List (List UInt8) := nm :: c.keys ++ (if 0 < leastOf c.verb ∨ c.exp ≠ 0 then ((restOf c.verb).take i).map (textF c) else [])
theorem wordsTo_zero (c : Cmd) (nm : List UInt8) : wordsTo c nm 0 = nm :: c.keys := by unfold wordsTo; split <;> simp
theorem wordsTo_len (c : Cmd) (nm : List UInt8) (i : Nat) : (wordsTo c nm i).length ≤ c.keys.length + 5 := by
  have := rest_len c.verb
  unfold wordsTo
  split
  · simp only [List.cons_append, List.length_cons, List.length_append, List.length_map, List.length_take]; omega
  · simp
theorem wordsTo_next {c : Cmd} {nm : List UInt8} {i f : Nat} (hG : 0 < leastOf c.verb ∨ c.exp ≠ 0) (hf : (restOf c.verb)[i]? = some f) : wordsTo c nm (i + 1) = wordsTo c nm i ++ [textF c f] := by
  unfold wordsTo
  rw [if_pos hG, if_pos hG, List.take_add_one, hf]
  simp
theorem wordsTo_same {c : Cmd} {nm : List UInt8} (hG : ¬ (0 < leastOf c.verb ∨ c.exp ≠ 0)) (i j : Nat) : wordsTo c nm i = wordsTo c nm j := by
  unfold wordsTo
  rw [if_neg hG, if_neg hG]
theorem lineW_is (c : Cmd) (nm : List UInt8) (h : nm = names.getD (c.verb - 1) []) : lineW c = wordsTo c nm (restOf c.verb).length ++ (if c.quiet then [noreply] else []) := by
  subst h
  unfold lineW wordsTo fieldsOf
  split
  · rw [List.take_length]
  · rfl
theorem lineW_len (c : Cmd) : (lineW c).length ≤ c.keys.length + 6 := by
  rw [lineW_is c _ rfl, List.length_append]
  generalize names.getD (c.verb - 1) [] = nm
  have := wordsTo_len c nm (restOf c.verb).length
  have h2 : (if c.quiet then [noreply] else [] : List (List UInt8)).length ≤ 1 := by split <;> simp
  omega
theorem join_at {w : World} {B : Nat} {v : Value} {L : List (List UInt8)} (h : Strs w B v L) (hne : L ≠ []) (hN : L.length ≤ 140737488355328) (hlen : (Lib.join L [32]).length ≤ 140737488355328) :
    Calls Tryz.prog 48 #[v, sv [32]] w fun e w' => e = .returned (sv (Lib.join L [32])) ∧ Below w.heap.size w w' := by
  obtain ⟨g, o, c, rfl, _, hg, hle, _, hcell⟩ := Own.some h (by simpa using hne)
  rw [List.length_map] at hle ⊢
  have hm : (L.map (fun l : List UInt8 => (⟨l.toArray⟩ : ByteArray))).map (·.data.toList) = L := by
    rw [List.map_map]
    exact (List.map_congr_left (fun x _ => rfl)).trans (List.map_id L)
  have hx := Tryz.strings_Join g o c (L.map (fun l : List UInt8 => (⟨l.toArray⟩ : ByteArray))) ⟨#[32]⟩ w (fun j x hx => by
    rw [List.getElem?_map] at hx
    cases hl : L[j]? with
    | none => rw [hl] at hx; simp at hx
    | some y => rw [hl] at hx; simp at hx; subst hx; exact (hcell j (sv y) (by rw [List.getElem?_map, hl]; rfl)).1) hg (by simpa using hN) (by simpa using hle) (by rw [hm]; exact hlen)
  rw [List.length_map, hm] at hx
  exact hx
theorem idx_field {a : Option Addr} {g o n c k : Nat} (ha : a = some ⟨g, o, none⟩) (hk : k < n) (W : World) : (Instr.indexAt 150 (.slice a n c) (.int .i64 (k : Int))).run Tryz.prog W = .ok (.pointer (some ⟨g, o + k, none⟩)) W := by
  subst ha
  have h0 : (0 : Int) ≤ (k : Int) := by omega
  have h1 : (k : Int) < (n : Int) := by omega
  have h2 := Tryz.underlying150
  go_simp
theorem entry_start (B : Nat) {v : Nat} (h0 : v ≠ 0) (h : v < 14) : entryV B v ∈ (leftOf (shapeEs B).toArray #[]).toList := by
  have h1 := entry_in B v h0 h
  rw [Array.mem_toList_iff, leftOf, Array.mem_filter]
  exact ⟨Array.mem_toList_iff.1 h1, by simp⟩
end Go.Proofs.YtddifbimlmkcbaaGreatDoor
