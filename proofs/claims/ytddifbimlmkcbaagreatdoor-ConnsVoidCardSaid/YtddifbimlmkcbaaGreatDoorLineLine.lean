/- lines.Line: the line of a command. Conditions: the numbers of their kinds; the line of at most 2^20 bytes; the library variables as they must be. -/
import Derived.Test.YtddifbimlmkcbaaGreatDoorLowE
import Derived.Laws.AppendOwnNone
import Derived.Maps.AppendAt
import Derived.Lib.Join
namespace Go.Proofs.YtddifbimlmkcbaaGreatDoor
open Go.RowKit Go.ChangeMaps Go.MapKept

/-- The fields that are written of a command. -/
def fieldsOf (c : Cmd) : List Nat := if 0 < leastOf c.verb ∨ c.exp ≠ 0 then restOf c.verb else []
/-- A command's words, whatever it says. -/
def lineW (c : Cmd) : List (List UInt8) := names.getD (c.verb - 1) [] :: c.keys ++ (fieldsOf c).map (textF c) ++ (if c.quiet then [noreply] else [])
def lineS (c : Cmd) : List UInt8 := Lib.join (lineW c) [32]
theorem rowKept {w w' : World} {B : Nat} {e : TypeId} {sz n : Nat} {v : Value} {xs : List Value} (h : w.ownsRow B e sz v n xs) (hb : Below w.heap.size w w') : w'.ownsRow B e sz v n xs := by
  obtain ⟨hl, h2⟩ := h
  refine ⟨hl, h2.imp id ?_⟩
  rintro ⟨g, cap, cur, rfl, hg, hh, hr⟩
  exact ⟨g, cap, cur, rfl, hg, (hb.block g (Array.getElem?_eq_some_iff.1 hh).1).trans hh, hr⟩
end Go.Proofs.YtddifbimlmkcbaaGreatDoor
