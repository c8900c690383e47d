/- The text of a command's field. Condition: the library's table of powers is as it must be; the numbers are of their kinds. -/
import Derived.Test.YtahpjhnbjkjkiaaGreatDoorLineSame2
import Derived.Test.YtahpjhnbjkjkiaaGreatDoorShelf2
import Derived.Lib.AppendIntMem
namespace Go.Proofs.YtahpjhnbjkjkiaaGreatDoor
open Go.RowKit Go.ChangeMaps Go.MapKept Go.Sort

/-- The numbers of a command are of their kinds. -/
structure OkCmd (c : Cmd) : Prop where
  verb : c.verb < 256
  cverb : c.cverb < 256
  flags : c.flags < 4294967296
  exp0 : -9223372036854775808 ≤ c.exp
  exp1 : c.exp ≤ 9223372036854775807
  id : c.id < 18446744073709551616
  by' : c.by' < 18446744073709551616
  bytes0 : -9223372036854775808 ≤ c.bytes
  bytes1 : c.bytes ≤ 9223372036854775807
def textF (c : Cmd) (f : Nat) : List UInt8 := if f = 0 then Lib.decDigits c.flags else if f = 1 then Lib.itoa c.exp else if f = 2 then Lib.itoa c.bytes else if f = 3 then Lib.decDigits c.id else Lib.decDigits c.by'
theorem below_grow' (w : World) (k : Nat) (os : Array Obj) : Below w.heap.size w (grow (w.drewN k) os) := Lib.below_grow w.heap.size w (Nat.le_refl _) k os
theorem itoa_at (n : Int) (h0 : -9223372036854775808 ≤ n) (h1 : n ≤ 9223372036854775807) (W : World) (hP : HasPow W) :
    Calls Tryz.prog 179 #[.int .i64 n] W fun e w' => e = .returned (sv (Lib.itoa n)) ∧ Below W.heap.size W w' :=
  (Tryz.strconv_Itoa n h0 h1 W hP).mono fun _ _ ⟨he, k, os, hw⟩ => ⟨he, hw ▸ below_grow' W k os⟩
theorem textF_len {c : Cmd} (hc : OkCmd c) (f : Nat) : (textF c f).length ≤ 21 := by
  have d := fun (u : Nat) (hu : u < 18446744073709551616) => dec_short u hu
  have i : ∀ z : Int, -9223372036854775808 ≤ z → z ≤ 9223372036854775807 → (Lib.itoa z).length ≤ 21 := by
    intro z h0 h1
    unfold Lib.itoa
    split
    · have := d z.natAbs (by omega); simp; omega
    · have := d z.toNat (by omega); omega
  unfold textF
  split
  · have := d c.flags (by have := hc.flags; omega); omega
  · split
    · exact i _ hc.exp0 hc.exp1
    · split
      · exact i _ hc.bytes0 hc.bytes1
      · split
        · have := d c.id hc.id; omega
        · have := d c.by' hc.by'; omega
end Go.Proofs.YtahpjhnbjkjkiaaGreatDoor
