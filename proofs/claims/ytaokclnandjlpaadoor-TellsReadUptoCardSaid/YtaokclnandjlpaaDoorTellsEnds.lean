/- The law's 'ended' and 'line' of layer 31. Condition: the table of the powers of ten lies as the library lays it. -/
import Derived.Test.YtaokclnandjlpaaDoorTellsLives
namespace Go.Proofs.YtaokclnandjlpaaDoor
open Go.RowKit

set_option maxHeartbeats 1000000 in
set_option maxRecDepth 100000 in
/-- A line with its end, and no other one. -/
theorem ended_yes (s : List UInt8) (w : World) (h2 : 2 < s.length) (hl : s.length ≤ 100000) (hs : Lib.hasSuffix s [13, 10] = true) (hc : Lib.containsAny (s.take (s.length - 2)) [13, 10] = false) (ha : ∀ c ∈ s, c.toNat < 128) :
    Calls Tryd.prog 46 #[sv s] w fun e w' => e = .returned (.bool true) ∧ Below w.heap.size w w' := by
  have h1 : ∀ W, Calls Tryd.prog 76 #[sv s, .string ⟨#[13, 10]⟩] W fun e w' => e = .returned (.bool true) ∧ W = w' := fun W =>
    (Tryd.strings_HasSuffix ⟨s.toArray⟩ ⟨#[13, 10]⟩ W (by rw [sv_size]; omega)).mono fun e w' ⟨he, hw⟩ => ⟨by rw [he]; exact ret_congr (by rw [show Lib.hasSuffix (⟨s.toArray⟩ : ByteArray).data.toList (⟨#[13, 10]⟩ : ByteArray).data.toList = true from hs]), hw.symm⟩
  have hlt : (s.take (s.length - 2)).length ≤ s.length := by rw [List.length_take]; omega
  have h3 : ∀ W, Calls Tryd.prog 77 #[sv (s.take (s.length - 2)), .string ⟨#[13, 10]⟩] W fun e w' => e = .returned (.bool false) ∧ Below W.heap.size W w' := fun W =>
    (Tryd.strings_ContainsAny_laid ⟨(s.take (s.length - 2)).toArray⟩ ⟨#[13, 10]⟩ W (by rw [sv_size]; omega) (by decide) (fun j b hb => ha b (List.mem_of_mem_take (List.mem_of_getElem? hb))) (fun j b hb => by
      have hm : b ∈ [(13 : UInt8), 10] := List.mem_of_getElem? hb
      revert b; intro b _ hm; simp at hm; rcases hm with rfl | rfl <;> decide)).mono fun e w' ⟨he, hw⟩ => ⟨by rw [he]; exact ret_congr (by rw [show Lib.containsAny (⟨(s.take (s.length - 2)).toArray⟩ : ByteArray).data.toList (⟨#[13, 10]⟩ : ByteArray).data.toList = false from hc]), hw⟩
  have hsl := fun W => slice_to s (s.length - 2) (by omega) W
  have hcast : (((s.length - 2 : Nat)) : Int) = (s.length : Int) - 2 := by omega
  rw [hcast] at hsl
  have H1 := Lib.hid h1
  have H3 := Lib.hid h3
  clear h1 h3 hs hc ha hcast hlt
  go_enter Tryd.func46, Tryd.ntmps46
  go_wp2_with fail
  refine (H1.out _).mono ?_
  rintro e w1 ⟨rfl, rfl⟩
  go_wp2_with fail
  refine (H3.out _).mono ?_
  rintro e w1 ⟨rfl, hb1⟩
  go_wp2_with fail
  go_ret
  exact ⟨rfl, hb1⟩

/-- All lines that there are. -/
def lineN (n : Nat) : List UInt8 := if n < 7 then tOf n else if n < 20 then ansOf false ((n : Int) - 7) 5 else if n = 20 then endL else versionL

set_option maxHeartbeats 1000000 in
set_option maxRecDepth 100000 in
theorem line31_any (n : Nat) (w : World) (hn : n < 22) (hP : HasPow w) :
    Calls Tryd.prog 45 #[.int .i64 n] w fun e w' => e = .returned (sv (lineN n)) ∧ Below w.heap.size w w' := by
  have HP := Lib.hid hP
  clear hP
  by_cases h7 : n < 7
  · rw [show lineN n = tOf n from if_pos h7]
    go_enter Tryd.func45, Tryd.ntmps45
    go_wp2_with fail
    refine (of_any n _ (by omega)).mono ?_
    rintro e w1 ⟨rfl, hb1⟩
    go_wp2_with fail
    go_ret
    exact ⟨rfl, hb1⟩
  · by_cases h20 : n < 20
    · rw [show lineN n = ansOf false ((n : Int) - 7) 5 from by rw [lineN, if_neg h7, if_pos h20]]
      have hans := fun W hW => answer_any lifeC0 ⟨(n : Int) - 7, 5, lifeI0⟩ W ⟨by simp; omega, show (0 : Int) ≤ 5 ∧ (5 : Int) ≤ 18446744073709551615 from by decide, lifeA0_ok.item⟩ hW
      have HA := Lib.hid hans
      clear hans
      go_enter Tryd.func45, Tryd.ntmps45
      go_wp2_with fail
      refine (HA.out _ HP.out).mono ?_
      rintro e w1 ⟨rfl, hb1⟩
      go_wp2_with fail
      go_ret
      exact ⟨rfl, hb1⟩
    · rcases (show n = 20 ∨ n = 21 by omega) with rfl | rfl
      · rw [show lineN 20 = endL from rfl]
        go_enter Tryd.func45, Tryd.ntmps45
        go_wp2_with fail
        refine (end_any _).mono ?_
        rintro e w1 ⟨rfl, hb1⟩
        go_wp2_with fail
        go_ret
        exact ⟨rfl, hb1⟩
      · rw [show lineN 21 = versionL from rfl]
        go_enter Tryd.func45, Tryd.ntmps45
        go_wp2_with fail
        refine (version_any _).mono ?_
        rintro e w1 ⟨rfl, hb1⟩
        go_wp2_with fail
        go_ret
        exact ⟨rfl, hb1⟩

def noneB (n : Nat) : Bool := n == 0 || n == 7 || n == 18 || n == 19
theorem lines_none : ∀ n : Fin 22, (lineN n).isEmpty = noneB n := by decide +kernel
theorem lines_end : ∀ n : Fin 22, noneB n = true ∨ (2 < (lineN n).length ∧ (lineN n).length ≤ 100 ∧ Lib.hasSuffix (lineN n) [13, 10] = true ∧ Lib.containsAny ((lineN n).take ((lineN n).length - 2)) [13, 10] = false ∧ ∀ c ∈ lineN n, c.toNat < 128) := by decide +kernel
theorem lines_unlike : ∀ n m : Fin 22, n = m ∨ noneB n = true ∨ (lineN n == lineN m) = false := by decide +kernel
end Go.Proofs.YtaokclnandjlpaaDoor
