/- What tells.Of, Answer, End, Version, told, answers and the reference's functions of these names answer. -/
import Derived.Test.YtddifbimlmkcbaaGreatDoorTypes
import Derived.Test.YtddifbimlmkcbaaGreatDoorLine
import Derived.Test.YtddifbimlmkcbaaGreatDoorLowB
namespace Go.Proofs.YtddifbimlmkcbaaGreatDoor
open Go.RowKit

theorem own_new (w : World) (T : TypeId) (xs : List Value) (h : xs.length ≤ maxLen) : Own (w.alloc (.cells xs.toArray T)) w.heap.size (.slice (some ⟨w.heap.size, 0, none⟩) xs.length xs.length) xs := by
  refine ⟨some ⟨w.heap.size, 0, none⟩, xs.length, rfl, Nat.le_refl _, h, (fun h => by cases h), Or.inr ?_⟩
  refine ⟨w.heap.size, 0, rfl, Nat.le_refl _, fun j x hx => ⟨?_, World.frozen?_alloc_new _ _ _ _⟩⟩
  rw [World.cell?_alloc_new, Nat.zero_add]
  simpa using hx

def toldL : List (List UInt8) := [[], [69, 82, 82, 79, 82], [67, 76, 73, 69, 78, 84, 95, 69, 82, 82, 79, 82, 32, 98, 97, 100, 32, 99, 111, 109, 109, 97, 110, 100, 32, 108, 105, 110, 101, 32, 102, 111, 114, 109, 97, 116], [67, 76, 73, 69, 78, 84, 95, 69, 82, 82, 79, 82, 32, 108, 105, 110, 101, 32, 116, 111, 111, 32, 108, 111, 110, 103], [67, 76, 73, 69, 78, 84, 95, 69, 82, 82, 79, 82, 32, 105, 110, 118, 97, 108, 105, 100, 32, 110, 117, 109, 101, 114, 105, 99, 32, 100, 101, 108, 116, 97, 32, 97, 114, 103, 117, 109, 101, 110, 116], [83, 69, 82, 86, 69, 82, 95, 69, 82, 82, 79, 82, 32, 111, 98, 106, 101, 99, 116, 32, 116, 111, 111, 32, 108, 97, 114, 103, 101, 32, 102, 111, 114, 32, 99, 97, 99, 104, 101], [67, 76, 73, 69, 78, 84, 95, 69, 82, 82, 79, 82, 32, 98, 97, 100, 32, 100, 97, 116, 97, 32, 99, 104, 117, 110, 107]]
def answersL : List (List UInt8) := [[], [83, 84, 79, 82, 69, 68], [78, 79, 84, 95, 83, 84, 79, 82, 69, 68], [69, 88, 73, 83, 84, 83], [78, 79, 84, 95, 70, 79, 85, 78, 68], [83, 69, 82, 86, 69, 82, 95, 69, 82, 82, 79, 82, 32, 111, 117, 116, 32, 111, 102, 32, 109, 101, 109, 111, 114, 121, 32, 115, 116, 111, 114, 105, 110, 103, 32, 111, 98, 106, 101, 99, 116], [68, 69, 76, 69, 84, 69, 68], [84, 79, 85, 67, 72, 69, 68], [], [67, 76, 73, 69, 78, 84, 95, 69, 82, 82, 79, 82, 32, 99, 97, 110, 110, 111, 116, 32, 105, 110, 99, 114, 101, 109, 101, 110, 116, 32, 111, 114, 32, 100, 101, 99, 114, 101, 109, 101, 110, 116, 32, 110, 111, 110, 45, 110, 117, 109, 101, 114, 105, 99, 32, 118, 97, 108, 117, 101], [79, 75]]
def tOf (t : Nat) : List UInt8 := lineOf [toldL.getD t []]
def aOf (k : Nat) : List UInt8 := lineOf [answersL.getD k []]

theorem told_any (w : World) : Calls Tryz.prog 32 #[] w fun e w' => ∃ v, e = .returned v ∧ Own w' w.heap.size v (toldL.map sv) ∧ Below w.heap.size w w' := by
  go_enter Tryz.func32, Tryz.ntmps32
  go_wp2_with fail
  go_ret
  exact ⟨_, rfl, own_new w 9 (toldL.map sv) (by decide), (Below.refl _ _).alloc (Nat.le_refl _) _⟩
theorem answers_any (w : World) : Calls Tryz.prog 35 #[] w fun e w' => ∃ v, e = .returned v ∧ Own w' w.heap.size v (answersL.map sv) ∧ Below w.heap.size w w' := by
  go_enter Tryz.func35, Tryz.ntmps35
  go_wp2_with fail
  go_ret
  exact ⟨_, rfl, own_new w 9 (answersL.map sv) (by decide), (Below.refl _ _).alloc (Nat.le_refl _) _⟩

theorem own_set {w : World} {B : Nat} {v : Value} {L : List (List UInt8)} (h : Own w B v (L.map sv)) {k : Nat} {x : List UInt8} (hx : L[k]? = some x) :
    ∃ g o c : Nat, v = .slice (some ⟨g, o, none⟩) L.length c ∧ g < w.heap.size ∧ w.cell? ⟨g, o + k, none⟩ = some (sv x) := by
  obtain ⟨g, o, c, rfl, _, h2, h3, _⟩ := h.at (k := k) (x := sv x) (by rw [List.getElem?_map, hx]; rfl)
  exact ⟨g, o, c, by rw [List.length_map], h2, h3⟩

theorem below_step {w w1 w2 : World} (h1 : Below w.heap.size w w1) (o : Obj) (h2 : Below (w1.alloc o).heap.size (w1.alloc o) w2) : Below w.heap.size w w2 :=
  (h1.alloc h1.size o).trans (h2.mono (by have := h1.size; simp; omega))
theorem tline_one (x : List UInt8) (w : World) (hx : x.length ≤ 2097152) :
    Calls Tryz.prog 33 #[.slice (some ⟨w.heap.size, 0, none⟩) 1 1] (w.alloc (.cells #[sv x] 9)) fun e w' => e = .returned (sv (lineOf [x])) ∧ Below w.heap.size w w' :=
  (tline_any (L := [x]) (own_new w 9 [sv x] (by simp [maxLen])) (by simp) (by rw [Lib.join_one]; exact hx)).mono fun _ _ ⟨he, hb⟩ => ⟨he, below_step (Below.refl _ _) _ hb⟩

set_option maxHeartbeats 1000000 in
set_option maxRecDepth 100000 in
theorem of_any (k : Nat) (w : World) (hk : k ≤ 255) : Calls Tryz.prog 13 #[.int .u8 k] w fun e w' => e = .returned (sv (tOf k)) ∧ Below w.heap.size w w' := by
  by_cases h7 : k < 7
  · obtain ⟨x, hx⟩ : ∃ x, toldL[k]? = some x := ⟨_, List.getElem?_eq_getElem (by simpa [toldL] using h7)⟩
    have htx : tOf k = lineOf [x] := by unfold tOf; rw [List.getD_eq_getElem?_getD, hx]; rfl
    have hxl : x.length ≤ 100 := by
      have : ∀ y ∈ toldL, y.length ≤ 100 := by decide
      exact this x (List.mem_of_getElem? hx)
    rw [htx]
    have HX := Lib.hid hx
    clear hx htx
    go_enter Tryz.func13, Tryz.ntmps13
    go_wp2_with fail
    refine (told_any _).mono ?_
    rintro e w1 ⟨v, rfl, hv, hb1⟩
    obtain ⟨g, o, c, rfl, hg, hcell⟩ := own_set hv HX.out
    have hl7 : toldL.length = 7 := rfl
    rw [hl7]
    clear hv hl7
    go_wp2_with fail
    refine (tline_one x w1 (by omega)).mono ?_
    rintro e w2 ⟨rfl, hb2⟩
    go_wp2_with fail
    go_ret
    exact ⟨rfl, hb1.trans (hb2.mono hb1.size)⟩
  · have htx : tOf k = lineOf [[]] := by
      unfold tOf
      rw [List.getD_eq_getElem?_getD, List.getElem?_eq_none (by simpa [toldL] using Nat.le_of_not_lt h7)]; rfl
    rw [htx]
    clear htx
    go_enter Tryz.func13, Tryz.ntmps13
    go_wp2_with fail
    refine (told_any _).mono ?_
    rintro e w1 ⟨v, rfl, hv, hb1⟩
    obtain ⟨g, o, c, rfl, hg, hcell⟩ := own_set hv (k := 0) (x := []) rfl
    have hl7 : toldL.length = 7 := rfl
    rw [hl7]
    rw [Nat.add_zero] at hcell
    clear hv hl7
    go_wp2_with fail
    refine (tline_one [] w1 (by decide)).mono ?_
    rintro e w2 ⟨rfl, hb2⟩
    go_wp2_with fail
    go_ret
    exact ⟨rfl, hb1.trans (hb2.mono hb1.size)⟩

theorem refOf_any (k : Nat) (w : World) : Calls Tryz.prog 52 #[.int .i64 k] w fun e w' => e = .returned (sv (tOf k)) ∧ w = w' := by
  by_cases h7 : k < 7
  · match k, h7 with
    | 0, _ | 1, _ | 2, _ | 3, _ | 4, _ | 5, _ | 6, _ =>
      go_enter Tryz.func52, Tryz.ntmps52
      go_wp2_with fail
      go_ret
      exact ⟨by first | rfl | decide, rfl⟩
  · have htx : tOf k = [] := by
      unfold tOf
      rw [List.getD_eq_getElem?_getD, List.getElem?_eq_none (by simpa [toldL] using Nat.le_of_not_lt h7)]; rfl
    rw [htx]
    have e1 : ((k : Int) == 1) = false := by rw [beq_eq_false_iff_ne]; omega
    have e2 : ((k : Int) == 2) = false := by rw [beq_eq_false_iff_ne]; omega
    have e3 : ((k : Int) == 3) = false := by rw [beq_eq_false_iff_ne]; omega
    have e4 : ((k : Int) == 4) = false := by rw [beq_eq_false_iff_ne]; omega
    have e5 : ((k : Int) == 5) = false := by rw [beq_eq_false_iff_ne]; omega
    have e6 : ((k : Int) == 6) = false := by rw [beq_eq_false_iff_ne]; omega
    clear htx
    go_enter Tryz.func52, Tryz.ntmps52
    go_wp2_with fail
    go_ret
    exact ⟨rfl, rfl⟩

def endL : List UInt8 := lineOf [[69, 78, 68]]
def versionL : List UInt8 := lineOf [[86, 69, 82, 83, 73, 79, 78], [110, 101, 115, 116, 98, 111, 120], [49]]
theorem end_any (w : World) : Calls Tryz.prog 16 #[] w fun e w' => e = .returned (sv endL) ∧ Below w.heap.size w w' := by
  go_enter Tryz.func16, Tryz.ntmps16
  go_wp2_with fail
  refine (tline_one [69, 78, 68] w (by decide)).mono ?_
  rintro e w2 ⟨rfl, hb2⟩
  go_wp2_with fail
  go_ret
  exact ⟨rfl, hb2⟩
theorem version_any (w : World) : Calls Tryz.prog 14 #[] w fun e w' => e = .returned (sv versionL) ∧ Below w.heap.size w w' := by
  have h := tline_any (L := [[86, 69, 82, 83, 73, 79, 78], [110, 101, 115, 116, 98, 111, 120], [49]]) (own_new w 9 [sv [86, 69, 82, 83, 73, 79, 78], sv [110, 101, 115, 116, 98, 111, 120], sv [49]] (by decide)) (by decide) (by decide)
  have H := Lib.hid h
  clear h
  go_enter Tryz.func14, Tryz.ntmps14
  go_wp2_with fail
  refine H.out.mono ?_
  rintro e w2 ⟨rfl, hb2⟩
  go_wp2_with fail
  go_ret
  exact ⟨rfl, below_step (Below.refl _ _) _ hb2⟩
theorem refVersion_any (w : World) : Calls Tryz.prog 53 #[] w fun e w' => e = .returned (sv versionL) ∧ w = w' := by
  go_enter Tryz.func53, Tryz.ntmps53
  go_wp2_with fail
  go_ret
  exact ⟨by first | rfl | decide, rfl⟩
end Go.Proofs.YtddifbimlmkcbaaGreatDoor
