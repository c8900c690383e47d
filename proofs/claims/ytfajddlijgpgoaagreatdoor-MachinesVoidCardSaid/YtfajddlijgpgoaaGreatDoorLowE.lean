/- Commands alike: slices.Equal of strings, lines.same, the laws' Same and Other, the reference's Same. No condition. The laws' Other and Same. No condition. The text of a command's field. Condition: the library's table of powers is as it must be; the numbers are of their kinds. A range over a map that is known whole: the step's law; the entries of the shapes' map. No condition. -/
import Derived.Test.YtfajddlijgpgoaaGreatDoorLowJ
import Derived.Deep.Light
import Derived.Test.YtfajddlijgpgoaaGreatDoorShelf2
import Derived.Lib.AppendIntMem
import Derived.Maps.RangeRun
namespace Go.Proofs.YtfajddlijgpgoaaGreatDoor
open Go.RowKit Go.ChangeMaps Go.MapKept

theorem below_drewN {B : Nat} {w w' : World} (h : Below B w w') (n : Nat) : Below B w (w'.drewN n) := ⟨h.os, h.tape, h.output, h.size, h.block⟩

open Go.RowKit Go.ChangeMaps Go.MapKept Go.Sort

def textF (c : Cmd) (f : Nat) : List UInt8 := if f = 0 then Lib.decDigits c.flags else if f = 1 then Lib.itoa c.exp else if f = 2 then Lib.itoa c.bytes else if f = 3 then Lib.decDigits c.id else Lib.decDigits c.by'

end Go.Proofs.YtfajddlijgpgoaaGreatDoor
