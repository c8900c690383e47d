/- Commands alike: slices.Equal of strings, lines.same, the laws' Same and Other, the reference's Same. No condition. -/
import Derived.Test.YtahpjhnbjkjkiaaGreatDoorLineRefParse
import Derived.Deep.Light
namespace Go.Proofs.YtahpjhnbjkjkiaaGreatDoor
open Go.RowKit Go.ChangeMaps Go.MapKept

theorem below_drewN {B : Nat} {w w' : World} (h : Below B w w') (n : Nat) : Below B w (w'.drewN n) := ⟨h.os, h.tape, h.output, h.size, h.block⟩
/-- Commands alike. -/
def sameC (a b : Cmd) : Bool := a.verb == b.verb && (a.keys == b.keys && ((a.cverb == b.cverb && a.key == b.key && a.value == b.value && a.flags == b.flags && a.exp == b.exp && a.id == b.id && a.by' == b.by') && (a.bytes == b.bytes && a.quiet == b.quiet)))
theorem sameC_iff (a b : Cmd) : sameC a b = true ↔ a = b := by
  cases a; cases b; simp [sameC, Cmd.mk.injEq]; grind

theorem strs_below {w w' : World} {B : Nat} {v : Value} {L : List (List UInt8)} (h : Strs w B v L) (hb : Below w.heap.size w w') : Strs w' B v L := Own.below h hb (Nat.le_refl _)
/-- All but the keys. -/
def restC (a b : Cmd) : Bool := a.verb == b.verb && ((a.cverb == b.cverb && a.key == b.key && a.value == b.value && a.flags == b.flags && a.exp == b.exp && a.id == b.id && a.by' == b.by') && (a.bytes == b.bytes && a.quiet == b.quiet))
theorem sameC_rest (a b : Cmd) : sameC a b = (restC a b && (a.keys == b.keys)) := by
  unfold sameC restC
  cases (a.verb == b.verb) <;> cases (a.keys == b.keys) <;> simp
theorem rest_eq {a b : Cmd} (h : restC a b = true) : a = { b with keys := a.keys } := by
  cases a; cases b; simp [restC] at h ⊢; grind

end Go.Proofs.YtahpjhnbjkjkiaaGreatDoor
