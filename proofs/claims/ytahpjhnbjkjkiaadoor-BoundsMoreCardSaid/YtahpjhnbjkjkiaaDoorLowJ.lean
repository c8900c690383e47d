/- The reference's Parse, ParseSigned, Parse32, at any text. No condition. The reference's small functions on lines: names, verb, rest, gets, bare, bounds; and how it reads a word into a command. No condition. -/
import Derived.Test.YtahpjhnbjkjkiaaDoorLowB
import Derived.Test.YtahpjhnbjkjkiaaDoorLineParse
namespace Go.Proofs.YtahpjhnbjkjkiaaDoor
open Go.RowKit

theorem over_no {n c : Nat} (h0 : 48 ≤ c) (h9 : c ≤ 57) (h : ¬ ((18446744073709551615 : Int) - ((c : Int) - 48)) / 10 < (n : Int)) : n * 10 + (c - 48) < 18446744073709551616 := by omega
theorem over_yes {n c : Nat} (h0 : 48 ≤ c) (h9 : c ≤ 57) (h : ((18446744073709551615 : Int) - ((c : Int) - 48)) / 10 < (n : Int)) : ¬ n * 10 + (c - 48) < 18446744073709551616 := by omega

end Go.Proofs.YtahpjhnbjkjkiaaDoor
namespace Go.Proofs.YtahpjhnbjkjkiaaDoor
open Go.RowKit Go.ChangeMaps Go.MapKept

theorem verb_hit {x : List UInt8} {k : Nat} {y : List UInt8} (hy : names[k]? = some y) (he : (y == x) = true) (hf : Good (fun y => y == x) names k) : verbOf x = k + 1 := by
  unfold verbOf; rw [good_hit hy he hf]
theorem verb_none {x : List UInt8} (hf : Good (fun y => y == x) names names.length) : verbOf x = 0 := by
  unfold verbOf; rw [good_all hf]
theorem verb_lt (x : List UInt8) : verbOf x < 14 := by
  unfold verbOf
  cases h : names.findIdx? (· == x) with
  | none => simp
  | some i =>
    obtain ⟨hi, _⟩ := List.findIdx?_eq_some_iff_getElem.1 h
    have : names.length = 13 := rfl
    simp; omega

/-- A field's letter. -/
def letter (f : Nat) : UInt8 := [102, 101, 98, 105, 121].getD f 0
def letters (v : Nat) : List UInt8 := (restOf v).map letter
def bareOf (v : Nat) : Bool := v == 11 || v == 12 || v == 13
/-- What the reference's read makes of a field's word. -/
def toldF (c : Cmd) (f : Nat) (x : List UInt8) : Nat := if (readF c f x).2 then 0 else if f = 4 then 4 else 2
theorem le_small {n : Nat} (h : n < 18446744073709551616) : IntKind.u64.wrap (n : Int) = (n : Int) := by rw [IntKind.wrap_u64]; omega
end Go.Proofs.YtahpjhnbjkjkiaaDoor
