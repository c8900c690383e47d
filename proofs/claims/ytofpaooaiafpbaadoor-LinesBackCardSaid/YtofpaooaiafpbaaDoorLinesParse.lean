/- The law LinesParse returns true at every line. Conditions: a line that a string may be; MaxLen, ErrRange, the powers of ten as they must be. -/
import Derived.Test.YtofpaooaiafpbaaDoorLineLives
import Derived.Test.YtofpaooaiafpbaaDoorLineSame2
import Derived.Test.YtofpaooaiafpbaaDoorLineRefParse
import Derived.Test.YtofpaooaiafpbaaDoorLinePlain
namespace Go.Proofs.YtofpaooaiafpbaaDoor
open Go.RowKit Go.ChangeMaps Go.MapKept

/-- The cells of a slice that may be written. -/
def Writable (w : World) (g o n : Nat) : Prop := ∀ j, j < n → (∃ x, w.cell? ⟨g, o + j, none⟩ = some x) ∧ w.frozen? ⟨g, o + j, none⟩ = false
theorem Writable.set {w : World} {g o n : Nat} (h : Writable w g o n) (k : Nat) (u : Value) : Writable (w.setCell ⟨g, o + k, none⟩ u) g o n := by
  intro j hj
  obtain ⟨⟨x, hx⟩, hf⟩ := h j hj
  refine ⟨?_, by rw [World.frozen?_setCell]; exact hf⟩
  by_cases e : j = k
  · subst e; exact ⟨u, World.cell?_setCell_same _ _ _ hx⟩
  · exact ⟨x, by rw [World.cell?_setCell_other _ _ _ _ (by simp)]; exact hx⟩
theorem grown_setW {w w' : World} {g : Nat} (h : w.grownBy w' (some g)) (k : Nat) (v : Value) : w.grownBy (w'.setCell ⟨g, k, none⟩ v) (some g) := grown_trans h (grown_set w' g k v)
/-- The cells of the keys may be written. -/
def Wr (w : World) (a : Option Addr) (n : Nat) : Prop := ∀ g o, a = some ⟨g, o, none⟩ → Writable w g o n
theorem keys_wr {w : World} {B : Nat} {a : Option Addr} {n c : Nat} {xs : List Value} (h : Own w B (.slice a n c) xs) : (∀ k, k < n → ∃ g o, a = some ⟨g, o, none⟩ ∧ B ≤ g ∧ g < w.heap.size) ∧ Wr w a n := by
  obtain ⟨a', c', he, h1, h2, h3, h4⟩ := h
  obtain ⟨rfl, rfl, rfl⟩ := slice_inj he
  refine ⟨fun k hk => ?_, fun g' o' e => ?_⟩
  · rcases h4 with h4 | ⟨g, o, rfl, hg, h5⟩
    · rw [h4] at hk; simp at hk
    · exact ⟨g, o, rfl, hg, cell_lt (h5 k _ (List.getElem?_eq_getElem hk)).1⟩
  · rcases h4 with h4 | ⟨g, o, rfl, hg, h5⟩
    · intro j hj; rw [h4] at hj; simp at hj
    · obtain ⟨rfl, rfl⟩ : g = g' ∧ o = o' := by simpa using e
      exact fun j hj => ⟨⟨_, (h5 j _ (List.getElem?_eq_getElem hj)).1⟩, (h5 j _ (List.getElem?_eq_getElem hj)).2⟩

theorem box_cells {w : World} {p : Nat} {ks : Value} {c : Cmd} {T : TypeId} (h : w.heap[p]? = some (.cells (cmdCells ks c).toArray T (0, 0))) :
    w.cell? ⟨p, 0, none⟩ = some (.int .u8 (c.verb : Int)) ∧ w.cell? ⟨p, 1, none⟩ = some ks ∧ w.cell? ⟨p, 2, none⟩ = some (.int .u8 (c.cverb : Int)) ∧ w.cell? ⟨p, 3, none⟩ = some (sv c.key) ∧ w.cell? ⟨p, 4, none⟩ = some (sv c.value) ∧ w.cell? ⟨p, 5, none⟩ = some (.int .u32 (c.flags : Int)) ∧ w.cell? ⟨p, 6, none⟩ = some (.int .i64 c.exp) ∧ w.cell? ⟨p, 7, none⟩ = some (.int .u64 (c.id : Int)) ∧ w.cell? ⟨p, 8, none⟩ = some (.int .u64 (c.by' : Int)) ∧ w.cell? ⟨p, 9, none⟩ = some (.int .i64 c.bytes) ∧ w.cell? ⟨p, 10, none⟩ = some (.bool c.quiet) :=
  ⟨(block_cell h 0).1, (block_cell h 1).1, (block_cell h 2).1, (block_cell h 3).1, (block_cell h 4).1, (block_cell h 5).1, (block_cell h 6).1, (block_cell h 7).1, (block_cell h 8).1, (block_cell h 9).1, (block_cell h 10).1⟩
theorem told_le (s : List UInt8) : (parseL s).2 ≤ 5 := by
  by_cases hlen : 2048 < s.length
  · unfold parseL
    rw [if_pos hlen]; decide
  cases hw : words s with
  | nil => unfold parseL; rw [if_neg hlen, hw]; decide
  | cons name l =>
    rw [parseL_some hlen hw]
    split
    · decide
    · rcases parseW_is (verbOf name) (isQuiet (verbOf name) l) (tailOf (verbOf name) l) with ⟨_, h2⟩ | ⟨_, _, ht⟩
      · omega
      · rw [ht]; split <;> decide
end Go.Proofs.YtofpaooaiafpbaaDoor
