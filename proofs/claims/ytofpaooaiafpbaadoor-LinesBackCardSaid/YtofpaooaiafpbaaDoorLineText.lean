/- The text of a command's field. Condition: the library's table of powers is as it must be; the numbers are of their kinds. -/
import Derived.Test.YtofpaooaiafpbaaDoorLineSame2
import Derived.Test.YtofpaooaiafpbaaDoorShelf2
import Derived.Lib.AppendIntMem
namespace Go.Proofs.YtofpaooaiafpbaaDoor
open Go.RowKit Go.ChangeMaps Go.MapKept Go.Sort

/-- The numbers of a command are of their kinds. -/
structure OkCmd (c : Cmd) : Prop where
  verb : c.verb < 256
  cverb : c.cverb < 256
  flags : c.flags < 4294967296
  exp0 : -9223372036854775808 ≤ c.exp
  exp1 : c.exp ≤ 9223372036854775807
  id : c.id < 18446744073709551616
  by' : c.by' < 18446744073709551616
  bytes0 : -9223372036854775808 ≤ c.bytes
  bytes1 : c.bytes ≤ 9223372036854775807
def textF (c : Cmd) (f : Nat) : List UInt8 := if f = 0 then Lib.decDigits c.flags else if f = 1 then Lib.itoa c.exp else if f = 2 then Lib.itoa c.bytes else if f = 3 then Lib.decDigits c.id else Lib.decDigits c.by'
theorem below_grow' (w : World) (k : Nat) (os : Array Obj) : Below w.heap.size w (grow (w.drewN k) os) := Lib.below_grow w.heap.size w (Nat.le_refl _) k os
theorem formatInt_at (n : Int) (h0 : -9223372036854775808 ≤ n) (h1 : n ≤ 9223372036854775807) (W : World) (hP : HasPow W) :
    Calls Tryd.prog 31 #[.int .i64 n, .int .i64 10] W fun e w' => e = .returned (sv (Lib.itoa n)) ∧ Below W.heap.size W w' :=
  (Tryd.strconv_FormatInt_10 n h0 h1 W hP).mono fun _ _ ⟨he, k, os, hw⟩ => ⟨he, hw ▸ below_grow' W k os⟩
theorem itoa_at (n : Int) (h0 : -9223372036854775808 ≤ n) (h1 : n ≤ 9223372036854775807) (W : World) (hP : HasPow W) :
    Calls Tryd.prog 32 #[.int .i64 n] W fun e w' => e = .returned (sv (Lib.itoa n)) ∧ Below W.heap.size W w' :=
  (Tryd.strconv_Itoa n h0 h1 W hP).mono fun _ _ ⟨he, k, os, hw⟩ => ⟨he, hw ▸ below_grow' W k os⟩
abbrev TextAt (f : Nat) : Prop := ∀ (a : Option Addr) (n cp : Nat) (c : Cmd) (w : World), OkCmd c → HasPow w →
  Calls Tryd.prog 15 #[cmdV (.slice a n cp) c, .int .i64 (f : Int)] w fun e w' => e = .returned (sv (textF c f)) ∧ Below w.heap.size w w'

set_option maxHeartbeats 1000000 in
set_option maxRecDepth 100000 in
theorem textAt0 : TextAt 0 := by
  intro a n cp c w hc hP
  have hcall := fun W (hW : HasPow W) => text_any (c.flags : Int) (by omega) (by have := hc.flags; omega) W hW
  rw [Int.toNat_natCast] at hcall
  have hw64 : IntKind.u64.wrap (c.flags : Int) = (c.flags : Int) := le_small (by have := hc.flags; omega)
  rw [show textF c 0 = Lib.decDigits c.flags from rfl]
  generalize Lib.decDigits c.flags = l at *
  have HC := Lib.hid hcall
  have HP := Lib.hid hP
  clear hcall hP hc
  show Calls _ _ #[_, .int .i64 0] _ _
  go_enter Tryd.func15, Tryd.ntmps15
  go_wp2_with fail
  have hb0 : Below w.heap.size w (w.alloc (.cells (cmdCells (.slice a n cp) c).toArray 29)) := (Below.refl _ _).alloc (Nat.le_refl _) _
  refine (HC.out _ (HP.out.below hb0)).mono ?_
  rintro e w1 ⟨rfl, hb⟩
  have HB := Lib.hid (hb0.trans (hb.mono (by simp)))
  clear hb hb0
  go_wp2_with fail
  go_ret
  exact ⟨rfl, HB.out⟩

set_option maxHeartbeats 1000000 in
set_option maxRecDepth 100000 in
theorem textAt1 : TextAt 1 := by
  intro a n cp c w hc hP
  have hcall := fun W (hW : HasPow W) => formatInt_at c.exp hc.exp0 hc.exp1 W hW
  rw [show textF c 1 = Lib.itoa c.exp from rfl]
  generalize Lib.itoa c.exp = l at *
  have HC := Lib.hid hcall
  have HP := Lib.hid hP
  clear hcall hP hc
  show Calls _ _ #[_, .int .i64 1] _ _
  go_enter Tryd.func15, Tryd.ntmps15
  go_wp2_with fail
  have hb0 : Below w.heap.size w (w.alloc (.cells (cmdCells (.slice a n cp) c).toArray 29)) := (Below.refl _ _).alloc (Nat.le_refl _) _
  refine (HC.out _ (HP.out.below hb0)).mono ?_
  rintro e w1 ⟨rfl, hb⟩
  have HB := Lib.hid (hb0.trans (hb.mono (by simp)))
  clear hb hb0
  go_wp2_with fail
  go_ret
  exact ⟨rfl, HB.out⟩

set_option maxHeartbeats 1000000 in
set_option maxRecDepth 100000 in
theorem textAt2 : TextAt 2 := by
  intro a n cp c w hc hP
  have hcall := fun W (hW : HasPow W) => itoa_at c.bytes hc.bytes0 hc.bytes1 W hW
  rw [show textF c 2 = Lib.itoa c.bytes from rfl]
  generalize Lib.itoa c.bytes = l at *
  have HC := Lib.hid hcall
  have HP := Lib.hid hP
  clear hcall hP hc
  show Calls _ _ #[_, .int .i64 2] _ _
  go_enter Tryd.func15, Tryd.ntmps15
  go_wp2_with fail
  have hb0 : Below w.heap.size w (w.alloc (.cells (cmdCells (.slice a n cp) c).toArray 29)) := (Below.refl _ _).alloc (Nat.le_refl _) _
  refine (HC.out _ (HP.out.below hb0)).mono ?_
  rintro e w1 ⟨rfl, hb⟩
  have HB := Lib.hid (hb0.trans (hb.mono (by simp)))
  clear hb hb0
  go_wp2_with fail
  go_ret
  exact ⟨rfl, HB.out⟩

set_option maxHeartbeats 1000000 in
set_option maxRecDepth 100000 in
theorem textAt3 : TextAt 3 := by
  intro a n cp c w hc hP
  have hcall := fun W (hW : HasPow W) => text_any (c.id : Int) (by omega) (by have := hc.id; omega) W hW
  rw [Int.toNat_natCast] at hcall
  rw [show textF c 3 = Lib.decDigits c.id from rfl]
  generalize Lib.decDigits c.id = l at *
  have HC := Lib.hid hcall
  have HP := Lib.hid hP
  clear hcall hP hc
  show Calls _ _ #[_, .int .i64 3] _ _
  go_enter Tryd.func15, Tryd.ntmps15
  go_wp2_with fail
  have hb0 : Below w.heap.size w (w.alloc (.cells (cmdCells (.slice a n cp) c).toArray 29)) := (Below.refl _ _).alloc (Nat.le_refl _) _
  refine (HC.out _ (HP.out.below hb0)).mono ?_
  rintro e w1 ⟨rfl, hb⟩
  have HB := Lib.hid (hb0.trans (hb.mono (by simp)))
  clear hb hb0
  go_wp2_with fail
  go_ret
  exact ⟨rfl, HB.out⟩

set_option maxHeartbeats 1000000 in
set_option maxRecDepth 100000 in
theorem textAt4 : TextAt 4 := by
  intro a n cp c w hc hP
  have hcall := fun W (hW : HasPow W) => text_any (c.by' : Int) (by omega) (by have := hc.by'; omega) W hW
  rw [Int.toNat_natCast] at hcall
  rw [show textF c 4 = Lib.decDigits c.by' from rfl]
  generalize Lib.decDigits c.by' = l at *
  have HC := Lib.hid hcall
  have HP := Lib.hid hP
  clear hcall hP hc
  show Calls _ _ #[_, .int .i64 4] _ _
  go_enter Tryd.func15, Tryd.ntmps15
  go_wp2_with fail
  have hb0 : Below w.heap.size w (w.alloc (.cells (cmdCells (.slice a n cp) c).toArray 29)) := (Below.refl _ _).alloc (Nat.le_refl _) _
  refine (HC.out _ (HP.out.below hb0)).mono ?_
  rintro e w1 ⟨rfl, hb⟩
  have HB := Lib.hid (hb0.trans (hb.mono (by simp)))
  clear hb hb0
  go_wp2_with fail
  go_ret
  exact ⟨rfl, HB.out⟩
theorem textF_any {f : Nat} (hf : f < 5) : TextAt f := by
  match f, hf with
  | 0, _ => exact textAt0
  | 1, _ => exact textAt1
  | 2, _ => exact textAt2
  | 3, _ => exact textAt3
  | 4, _ => exact textAt4
theorem textF_len {c : Cmd} (hc : OkCmd c) (f : Nat) : (textF c f).length ≤ 21 := by
  have d := fun (u : Nat) (hu : u < 18446744073709551616) => dec_short u hu
  have i : ∀ z : Int, -9223372036854775808 ≤ z → z ≤ 9223372036854775807 → (Lib.itoa z).length ≤ 21 := by
    intro z h0 h1
    unfold Lib.itoa
    split
    · have := d z.natAbs (by omega); simp; omega
    · have := d z.toNat (by omega); omega
  unfold textF
  split
  · have := d c.flags (by have := hc.flags; omega); omega
  · split
    · exact i _ hc.exp0 hc.exp1
    · split
      · exact i _ hc.bytes0 hc.bytes1
      · split
        · have := d c.id hc.id; omega
        · have := d c.by' hc.by'; omega
end Go.Proofs.YtofpaooaiafpbaaDoor
