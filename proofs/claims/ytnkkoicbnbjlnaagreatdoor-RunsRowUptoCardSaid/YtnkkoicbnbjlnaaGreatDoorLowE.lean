/- Commands alike: slices.Equal of strings, lines.same, the laws' Same and Other, the reference's Same. No condition. And what goes with it (4 texts). -/
import Derived.Test.YtnkkoicbnbjlnaaGreatDoorLowJ
import Derived.Deep.Light
import Derived.Test.YtnkkoicbnbjlnaaGreatDoorShelf2
import Derived.Lib.AppendIntMem
import Derived.Maps.RangeRun
namespace Go.Proofs.YtnkkoicbnbjlnaaGreatDoor
set_option maxRecDepth 100000
set_option maxHeartbeats 8000000
open Go.RowKit Go.ChangeMaps Go.MapKept
theorem below_drewN {B : Nat} {w w' : World} (h : Below B w w') (n : Nat) : Below B w (w'.drewN n) := ⟨h.os, h.tape, h.output, h.size, h.block⟩
open Go.RowKit Go.ChangeMaps Go.MapKept Go.Sort
def textF (c : Cmd) (f : Nat) : List UInt8 := if f = 0 then Lib.decDigits c.flags else if f = 1 then Lib.itoa c.exp else if f = 2 then Lib.itoa c.bytes else if f = 3 then Lib.decDigits c.id else Lib.decDigits c.by'
theorem below_grow' (w : World) (k : Nat) (os : Array Obj) : Below w.heap.size w (grow (w.drewN k) os) := Lib.below_grow w.heap.size w (Nat.le_refl _) k os
theorem itoa_at (n : Int) (h0 : -9223372036854775808 ≤ n) (h1 : n ≤ 9223372036854775807) (W : World) (hP : HasPow W) :
  Calls Tryz.prog 15 #[.int .i64 n] W fun e w' => e = .returned (sv (Lib.itoa n)) ∧ Below W.heap.size W w' :=
 (Tryz.strconv_Itoa n h0 h1 W hP).mono fun _ _ ⟨he, k, os, hw⟩ => ⟨he, hw ▸ below_grow' W k os⟩
end Go.Proofs.YtnkkoicbnbjlnaaGreatDoor
