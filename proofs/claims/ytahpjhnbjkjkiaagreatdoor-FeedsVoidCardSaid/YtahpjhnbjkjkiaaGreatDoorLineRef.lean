/- The reference's small functions on lines: names, verb, rest, gets, bare, bounds; and how it reads a word into a command. No condition. -/
import Derived.Test.YtahpjhnbjkjkiaaGreatDoorLineParse
import Derived.Test.YtahpjhnbjkjkiaaGreatDoorNumsRef
namespace Go.Proofs.YtahpjhnbjkjkiaaGreatDoor
open Go.RowKit Go.ChangeMaps Go.MapKept

theorem refNames_any (w : World) : Calls Tryz.prog 113 #[] w fun e w' => e = .returned (.slice (some ⟨w.heap.size, 0, none⟩) 13 13) ∧ w' = w.alloc (.cells (names.map sv).toArray 9) := by
  go_enter Tryz.func113, Tryz.ntmps113
  go_wp2_with fail
  go_ret
  exact ⟨rfl, rfl⟩

theorem verb_hit {x : List UInt8} {k : Nat} {y : List UInt8} (hy : names[k]? = some y) (he : (y == x) = true) (hf : Good (fun y => y == x) names k) : verbOf x = k + 1 := by
  unfold verbOf; rw [good_hit hy he hf]
theorem verb_none {x : List UInt8} (hf : Good (fun y => y == x) names names.length) : verbOf x = 0 := by
  unfold verbOf; rw [good_all hf]
theorem verb_lt (x : List UInt8) : verbOf x < 14 := by
  unfold verbOf
  cases h : names.findIdx? (· == x) with
  | none => simp
  | some i =>
    obtain ⟨hi, _⟩ := List.findIdx?_eq_some_iff_getElem.1 h
    have : names.length = 13 := rfl
    simp; omega

set_option maxHeartbeats 1000000 in
set_option maxRecDepth 100000 in
theorem refVerb_any (x : List UInt8) (w : World) : Calls Tryz.prog 98 #[sv x] w fun e w' => e = .returned (.int .u8 (verbOf x : Int)) ∧ Below w.heap.size w w' := by
  go_enter Tryz.func98, Tryz.ntmps98
  go_wp2_with fail
  refine (refNames_any w).mono ?_
  rintro e w' ⟨rfl, rfl⟩
  have hcell : ∀ (k : Nat) (y : List UInt8), names[k]? = some y → (w.alloc (.cells (names.map sv).toArray 9)).cell? ⟨w.heap.size, k, none⟩ = some (sv y) := fun k y h => by
    rw [(block_cell (heap_alloc_new _ _) k).1]; simp [h]
  have HC := Lib.hid hcell
  clear hcell
  have hb := (Below.refl w.heap.size w).alloc (Nat.le_refl _) (.cells (names.map sv).toArray 9)
  generalize w.alloc (.cells (names.map sv).toArray 9) = w1 at *
  have HB := Lib.hid hb
  clear hb
  go_wp2_with fail
  go_loop [4] (fun i => ∃ k : Nat, k ≤ 13 ∧ i = .int .i64 k ∧ Good (fun y => y == x) names k) (fun i => 13 - (intOf i).toNat)
  case atStart => exact ⟨0, by omega, rfl, good_zero _ _⟩
  case round =>
    obtain ⟨k, hk, rfl, hg⟩ := hrel
    by_cases hlt : k < 13
    · obtain ⟨y, hy⟩ : ∃ y, names[k]? = some y := ⟨_, List.getElem?_eq_getElem hlt⟩
      have hcy := HC.out k y hy
      have HG := Lib.hid hg
      have HY := Lib.hid hy
      clear hg hy
      cases hyx : (y == x)
      · have HX := Lib.hid (good_step HY.out hyx HG.out)
        go_wp2_with fail
        go_round
        case rel => exact ⟨k + 1, by omega, by go_num, HX.out⟩
        case measure => simp [intOf]; omega
      · have HX := Lib.hid (verb_hit HY.out hyx HG.out)
        have hwr : IntKind.u8.wrap ((k : Int) + 1) = (k : Int) + 1 := by rw [IntKind.wrap_u8]; omega
        go_wp2_with fail
        go_ret
        exact ⟨by rw [HX.out]; rfl, HB.out⟩
    · have HX := Lib.hid (verb_none (hg.mono (by show 13 ≤ k; omega)))
      clear hg
      go_wp2_with fail
      go_ret
      exact ⟨by rw [HX.out]; rfl, HB.out⟩

/-- A field's letter. -/
def letter (f : Nat) : UInt8 := [102, 101, 98, 105, 121].getD f 0
def letters (v : Nat) : List UInt8 := (restOf v).map letter
def bareOf (v : Nat) : Bool := v == 11 || v == 12 || v == 13
theorem refGets_any (v : Nat) (hv : v < 14) (w : World) : Calls Tryz.prog 100 #[.int .u8 (v : Int)] w fun e w' => e = .returned (.bool (keysOf v)) ∧ w = w' := by
  match v, hv with
  | 0, _ =>
    go_enter Tryz.func100, Tryz.ntmps100
    go_wp2_with fail
    go_ret
    exact ⟨rfl, rfl⟩
  | 1, _ =>
    go_enter Tryz.func100, Tryz.ntmps100
    go_wp2_with fail
    go_ret
    exact ⟨rfl, rfl⟩
  | 2, _ =>
    go_enter Tryz.func100, Tryz.ntmps100
    go_wp2_with fail
    go_ret
    exact ⟨rfl, rfl⟩
  | 3, _ =>
    go_enter Tryz.func100, Tryz.ntmps100
    go_wp2_with fail
    go_ret
    exact ⟨rfl, rfl⟩
  | 4, _ =>
    go_enter Tryz.func100, Tryz.ntmps100
    go_wp2_with fail
    go_ret
    exact ⟨rfl, rfl⟩
  | 5, _ =>
    go_enter Tryz.func100, Tryz.ntmps100
    go_wp2_with fail
    go_ret
    exact ⟨rfl, rfl⟩
  | 6, _ =>
    go_enter Tryz.func100, Tryz.ntmps100
    go_wp2_with fail
    go_ret
    exact ⟨rfl, rfl⟩
  | 7, _ =>
    go_enter Tryz.func100, Tryz.ntmps100
    go_wp2_with fail
    go_ret
    exact ⟨rfl, rfl⟩
  | 8, _ =>
    go_enter Tryz.func100, Tryz.ntmps100
    go_wp2_with fail
    go_ret
    exact ⟨rfl, rfl⟩
  | 9, _ =>
    go_enter Tryz.func100, Tryz.ntmps100
    go_wp2_with fail
    go_ret
    exact ⟨rfl, rfl⟩
  | 10, _ =>
    go_enter Tryz.func100, Tryz.ntmps100
    go_wp2_with fail
    go_ret
    exact ⟨rfl, rfl⟩
  | 11, _ =>
    go_enter Tryz.func100, Tryz.ntmps100
    go_wp2_with fail
    go_ret
    exact ⟨rfl, rfl⟩
  | 12, _ =>
    go_enter Tryz.func100, Tryz.ntmps100
    go_wp2_with fail
    go_ret
    exact ⟨rfl, rfl⟩
  | 13, _ =>
    go_enter Tryz.func100, Tryz.ntmps100
    go_wp2_with fail
    go_ret
    exact ⟨rfl, rfl⟩
theorem refBare_any (v : Nat) (hv : v < 14) (w : World) : Calls Tryz.prog 101 #[.int .u8 (v : Int)] w fun e w' => e = .returned (.bool (bareOf v)) ∧ w = w' := by
  match v, hv with
  | 0, _ =>
    go_enter Tryz.func101, Tryz.ntmps101
    go_wp2_with fail
    go_ret
    exact ⟨rfl, rfl⟩
  | 1, _ =>
    go_enter Tryz.func101, Tryz.ntmps101
    go_wp2_with fail
    go_ret
    exact ⟨rfl, rfl⟩
  | 2, _ =>
    go_enter Tryz.func101, Tryz.ntmps101
    go_wp2_with fail
    go_ret
    exact ⟨rfl, rfl⟩
  | 3, _ =>
    go_enter Tryz.func101, Tryz.ntmps101
    go_wp2_with fail
    go_ret
    exact ⟨rfl, rfl⟩
  | 4, _ =>
    go_enter Tryz.func101, Tryz.ntmps101
    go_wp2_with fail
    go_ret
    exact ⟨rfl, rfl⟩
  | 5, _ =>
    go_enter Tryz.func101, Tryz.ntmps101
    go_wp2_with fail
    go_ret
    exact ⟨rfl, rfl⟩
  | 6, _ =>
    go_enter Tryz.func101, Tryz.ntmps101
    go_wp2_with fail
    go_ret
    exact ⟨rfl, rfl⟩
  | 7, _ =>
    go_enter Tryz.func101, Tryz.ntmps101
    go_wp2_with fail
    go_ret
    exact ⟨rfl, rfl⟩
  | 8, _ =>
    go_enter Tryz.func101, Tryz.ntmps101
    go_wp2_with fail
    go_ret
    exact ⟨rfl, rfl⟩
  | 9, _ =>
    go_enter Tryz.func101, Tryz.ntmps101
    go_wp2_with fail
    go_ret
    exact ⟨rfl, rfl⟩
  | 10, _ =>
    go_enter Tryz.func101, Tryz.ntmps101
    go_wp2_with fail
    go_ret
    exact ⟨rfl, rfl⟩
  | 11, _ =>
    go_enter Tryz.func101, Tryz.ntmps101
    go_wp2_with fail
    go_ret
    exact ⟨rfl, rfl⟩
  | 12, _ =>
    go_enter Tryz.func101, Tryz.ntmps101
    go_wp2_with fail
    go_ret
    exact ⟨rfl, rfl⟩
  | 13, _ =>
    go_enter Tryz.func101, Tryz.ntmps101
    go_wp2_with fail
    go_ret
    exact ⟨rfl, rfl⟩
set_option maxHeartbeats 1000000 in
theorem refRest_any (v : Nat) (hv : v < 14) (w : World) : Calls Tryz.prog 103 #[.int .u8 (v : Int)] w fun e w' => e = .returned (sv (letters v)) ∧ w = w' := by
  match v, hv with
  | 0, _ =>
    go_enter Tryz.func103, Tryz.ntmps103
    go_wp2_with fail
    go_ret
    exact ⟨rfl, rfl⟩
  | 1, _ =>
    go_enter Tryz.func103, Tryz.ntmps103
    go_wp2_with fail
    go_ret
    exact ⟨rfl, rfl⟩
  | 2, _ =>
    go_enter Tryz.func103, Tryz.ntmps103
    go_wp2_with fail
    go_ret
    exact ⟨rfl, rfl⟩
  | 3, _ =>
    go_enter Tryz.func103, Tryz.ntmps103
    go_wp2_with fail
    go_ret
    exact ⟨rfl, rfl⟩
  | 4, _ =>
    go_enter Tryz.func103, Tryz.ntmps103
    go_wp2_with fail
    go_ret
    exact ⟨rfl, rfl⟩
  | 5, _ =>
    go_enter Tryz.func103, Tryz.ntmps103
    go_wp2_with fail
    go_ret
    exact ⟨rfl, rfl⟩
  | 6, _ =>
    go_enter Tryz.func103, Tryz.ntmps103
    go_wp2_with fail
    go_ret
    exact ⟨rfl, rfl⟩
  | 7, _ =>
    go_enter Tryz.func103, Tryz.ntmps103
    go_wp2_with fail
    go_ret
    exact ⟨rfl, rfl⟩
  | 8, _ =>
    go_enter Tryz.func103, Tryz.ntmps103
    go_wp2_with fail
    go_ret
    exact ⟨rfl, rfl⟩
  | 9, _ =>
    go_enter Tryz.func103, Tryz.ntmps103
    go_wp2_with fail
    go_ret
    exact ⟨rfl, rfl⟩
  | 10, _ =>
    go_enter Tryz.func103, Tryz.ntmps103
    go_wp2_with fail
    go_ret
    exact ⟨rfl, rfl⟩
  | 11, _ =>
    go_enter Tryz.func103, Tryz.ntmps103
    go_wp2_with fail
    go_ret
    exact ⟨rfl, rfl⟩
  | 12, _ =>
    go_enter Tryz.func103, Tryz.ntmps103
    go_wp2_with fail
    go_ret
    exact ⟨rfl, rfl⟩
  | 13, _ =>
    go_enter Tryz.func103, Tryz.ntmps103
    go_wp2_with fail
    go_ret
    exact ⟨rfl, rfl⟩
set_option maxHeartbeats 4000000 in
theorem refBounds_any (v : Nat) (h0 : v ≠ 0) (hv : v < 14) (w : World) : Calls Tryz.prog 99 #[.int .u8 (v : Int)] w fun e w' => e = .returned (.tuple #[.int .i64 (leastOf v : Int), .int .i64 (mostOf v : Int)]) ∧ w = w' := by
  match v, h0, hv with
  | 1, _, _ =>
    have hl : (letters 1).length = 0 := rfl
    go_enter Tryz.func99, Tryz.ntmps99
    go_wp2_with (first | (go_at_call 103; refine (refRest_any 1 (by omega) _).mono ?_; rintro e w' ⟨rfl, rfl⟩) | (go_at_call 100; refine (refGets_any 1 (by omega) _).mono ?_; rintro e w' ⟨rfl, rfl⟩) | (go_at_call 101; refine (refBare_any 1 (by omega) _).mono ?_; rintro e w' ⟨rfl, rfl⟩))
    go_ret2
    exact ⟨rfl, rfl⟩
  | 2, _, _ =>
    have hl : (letters 2).length = 0 := rfl
    go_enter Tryz.func99, Tryz.ntmps99
    go_wp2_with (first | (go_at_call 103; refine (refRest_any 2 (by omega) _).mono ?_; rintro e w' ⟨rfl, rfl⟩) | (go_at_call 100; refine (refGets_any 2 (by omega) _).mono ?_; rintro e w' ⟨rfl, rfl⟩) | (go_at_call 101; refine (refBare_any 2 (by omega) _).mono ?_; rintro e w' ⟨rfl, rfl⟩))
    go_ret2
    exact ⟨rfl, rfl⟩
  | 3, _, _ =>
    have hl : (letters 3).length = 3 := rfl
    go_enter Tryz.func99, Tryz.ntmps99
    go_wp2_with (first | (go_at_call 103; refine (refRest_any 3 (by omega) _).mono ?_; rintro e w' ⟨rfl, rfl⟩) | (go_at_call 100; refine (refGets_any 3 (by omega) _).mono ?_; rintro e w' ⟨rfl, rfl⟩) | (go_at_call 101; refine (refBare_any 3 (by omega) _).mono ?_; rintro e w' ⟨rfl, rfl⟩))
    go_ret2
    exact ⟨rfl, rfl⟩
  | 4, _, _ =>
    have hl : (letters 4).length = 3 := rfl
    go_enter Tryz.func99, Tryz.ntmps99
    go_wp2_with (first | (go_at_call 103; refine (refRest_any 4 (by omega) _).mono ?_; rintro e w' ⟨rfl, rfl⟩) | (go_at_call 100; refine (refGets_any 4 (by omega) _).mono ?_; rintro e w' ⟨rfl, rfl⟩) | (go_at_call 101; refine (refBare_any 4 (by omega) _).mono ?_; rintro e w' ⟨rfl, rfl⟩))
    go_ret2
    exact ⟨rfl, rfl⟩
  | 5, _, _ =>
    have hl : (letters 5).length = 3 := rfl
    go_enter Tryz.func99, Tryz.ntmps99
    go_wp2_with (first | (go_at_call 103; refine (refRest_any 5 (by omega) _).mono ?_; rintro e w' ⟨rfl, rfl⟩) | (go_at_call 100; refine (refGets_any 5 (by omega) _).mono ?_; rintro e w' ⟨rfl, rfl⟩) | (go_at_call 101; refine (refBare_any 5 (by omega) _).mono ?_; rintro e w' ⟨rfl, rfl⟩))
    go_ret2
    exact ⟨rfl, rfl⟩
  | 6, _, _ =>
    have hl : (letters 6).length = 4 := rfl
    go_enter Tryz.func99, Tryz.ntmps99
    go_wp2_with (first | (go_at_call 103; refine (refRest_any 6 (by omega) _).mono ?_; rintro e w' ⟨rfl, rfl⟩) | (go_at_call 100; refine (refGets_any 6 (by omega) _).mono ?_; rintro e w' ⟨rfl, rfl⟩) | (go_at_call 101; refine (refBare_any 6 (by omega) _).mono ?_; rintro e w' ⟨rfl, rfl⟩))
    go_ret2
    exact ⟨rfl, rfl⟩
  | 7, _, _ =>
    have hl : (letters 7).length = 0 := rfl
    go_enter Tryz.func99, Tryz.ntmps99
    go_wp2_with (first | (go_at_call 103; refine (refRest_any 7 (by omega) _).mono ?_; rintro e w' ⟨rfl, rfl⟩) | (go_at_call 100; refine (refGets_any 7 (by omega) _).mono ?_; rintro e w' ⟨rfl, rfl⟩) | (go_at_call 101; refine (refBare_any 7 (by omega) _).mono ?_; rintro e w' ⟨rfl, rfl⟩))
    go_ret2
    exact ⟨rfl, rfl⟩
  | 8, _, _ =>
    have hl : (letters 8).length = 1 := rfl
    go_enter Tryz.func99, Tryz.ntmps99
    go_wp2_with (first | (go_at_call 103; refine (refRest_any 8 (by omega) _).mono ?_; rintro e w' ⟨rfl, rfl⟩) | (go_at_call 100; refine (refGets_any 8 (by omega) _).mono ?_; rintro e w' ⟨rfl, rfl⟩) | (go_at_call 101; refine (refBare_any 8 (by omega) _).mono ?_; rintro e w' ⟨rfl, rfl⟩))
    go_ret2
    exact ⟨rfl, rfl⟩
  | 9, _, _ =>
    have hl : (letters 9).length = 1 := rfl
    go_enter Tryz.func99, Tryz.ntmps99
    go_wp2_with (first | (go_at_call 103; refine (refRest_any 9 (by omega) _).mono ?_; rintro e w' ⟨rfl, rfl⟩) | (go_at_call 100; refine (refGets_any 9 (by omega) _).mono ?_; rintro e w' ⟨rfl, rfl⟩) | (go_at_call 101; refine (refBare_any 9 (by omega) _).mono ?_; rintro e w' ⟨rfl, rfl⟩))
    go_ret2
    exact ⟨rfl, rfl⟩
  | 10, _, _ =>
    have hl : (letters 10).length = 1 := rfl
    go_enter Tryz.func99, Tryz.ntmps99
    go_wp2_with (first | (go_at_call 103; refine (refRest_any 10 (by omega) _).mono ?_; rintro e w' ⟨rfl, rfl⟩) | (go_at_call 100; refine (refGets_any 10 (by omega) _).mono ?_; rintro e w' ⟨rfl, rfl⟩) | (go_at_call 101; refine (refBare_any 10 (by omega) _).mono ?_; rintro e w' ⟨rfl, rfl⟩))
    go_ret2
    exact ⟨rfl, rfl⟩
  | 11, _, _ =>
    have hl : (letters 11).length = 1 := rfl
    go_enter Tryz.func99, Tryz.ntmps99
    go_wp2_with (first | (go_at_call 103; refine (refRest_any 11 (by omega) _).mono ?_; rintro e w' ⟨rfl, rfl⟩) | (go_at_call 100; refine (refGets_any 11 (by omega) _).mono ?_; rintro e w' ⟨rfl, rfl⟩) | (go_at_call 101; refine (refBare_any 11 (by omega) _).mono ?_; rintro e w' ⟨rfl, rfl⟩))
    go_ret2
    exact ⟨rfl, rfl⟩
  | 12, _, _ =>
    have hl : (letters 12).length = 0 := rfl
    go_enter Tryz.func99, Tryz.ntmps99
    go_wp2_with (first | (go_at_call 103; refine (refRest_any 12 (by omega) _).mono ?_; rintro e w' ⟨rfl, rfl⟩) | (go_at_call 100; refine (refGets_any 12 (by omega) _).mono ?_; rintro e w' ⟨rfl, rfl⟩) | (go_at_call 101; refine (refBare_any 12 (by omega) _).mono ?_; rintro e w' ⟨rfl, rfl⟩))
    go_ret2
    exact ⟨rfl, rfl⟩
  | 13, _, _ =>
    have hl : (letters 13).length = 0 := rfl
    go_enter Tryz.func99, Tryz.ntmps99
    go_wp2_with (first | (go_at_call 103; refine (refRest_any 13 (by omega) _).mono ?_; rintro e w' ⟨rfl, rfl⟩) | (go_at_call 100; refine (refGets_any 13 (by omega) _).mono ?_; rintro e w' ⟨rfl, rfl⟩) | (go_at_call 101; refine (refBare_any 13 (by omega) _).mono ?_; rintro e w' ⟨rfl, rfl⟩))
    go_ret2
    exact ⟨rfl, rfl⟩

/-- Block b holds a command of the reference's. -/
def CAt (w : World) (b : Nat) (ks : Value) (c : Cmd) : Prop := w.heap[b]? = some (.cells (cmdCells ks c).toArray 82 (0, 0))
theorem CAt.free {w : World} {p : Nat} {ks : Value} {c : Cmd} (h : CAt w p ks c) (j : Nat) : w.frozen? ⟨p, j, none⟩ = false := (block_cell h j).2
theorem CAt.cell {w : World} {p : Nat} {ks : Value} {c : Cmd} (h : CAt w p ks c) (j : Nat) {v : Value} (hj : (cmdCells ks c)[j]? = some v) : w.cell? ⟨p, j, none⟩ = some v := by
  rw [(block_cell h j).1]; simpa using hj
theorem CAt.lt {w : World} {p : Nat} {ks : Value} {c : Cmd} (h : CAt w p ks c) : p < w.heap.size := lt_of_block h
theorem CAt.grown {w w' : World} {p : Nat} {ks : Value} {c : Cmd} {row : Option Nat} (h : CAt w p ks c) (hg : w.grownBy w' row) (hne : some p ≠ row) : CAt w' p ks c := (hg.block p h.lt hne).trans h
theorem CAt.set {w : World} {p : Nat} {ks : Value} {c : Cmd} (h : CAt w p ks c) (j : Nat) (v : Value) {ks' : Value} {c' : Cmd} (he : ((cmdCells ks c).toArray).setIfInBounds j v = (cmdCells ks' c').toArray) : CAt (w.setCell ⟨p, j, none⟩ v) p ks' c' := by
  unfold CAt
  rw [heap_setCell_same w p j _ _ v h, he]

/-- What the reference's read makes of a field's word. -/
def toldF (c : Cmd) (f : Nat) (x : List UInt8) : Nat := if (readF c f x).2 then 0 else if f = 4 then 4 else 2
def RefReadOk (p : Nat) (ks : Value) (_c r : Cmd) (ok : Bool) (t : Nat) (w : World) (e : Ending) (w' : World) : Prop :=
  e = .returned (.int .i64 (t : Int)) ∧ ∃ c', CAt w' p ks c' ∧ w.grownBy w' (some p) ∧ (ok = true → c' = r)
def RefReads (f : Nat) : Prop := ∀ (p : Nat) (ks : Value) (c : Cmd) (x : List UInt8) (w : World), x.length ≤ maxLen → CAt w p ks c →
  Calls Tryz.prog 104 #[.pointer (some ⟨p, 0, none⟩), .int .u8 ((letter f).toNat : Int), sv x] w (RefReadOk p ks c (readF c f x).1 (readF c f x).2 (toldF c f x) w)

set_option maxHeartbeats 1000000 in
set_option maxRecDepth 100000 in
theorem refFlags : RefReads 0 := by
  intro p ks c x w hx hp
  have hc := fun W => refParse32_any ⟨x.toArray⟩ W (by rw [sv_size]; exact hx)
  rw [show bs ⟨x.toArray⟩ = x from rfl, parse32V_is] at hc
  have h2 : readF c 0 x = ({ c with flags := (parse32N x).getD 0 }, (parse32N x).isSome) := rfl
  have h3 : toldF c 0 x = if (parse32N x).isSome then 0 else 2 := rfl
  rw [h2, h3]
  show Calls _ _ #[_, .int .u8 102, _] _ _
  generalize (parse32N x).getD 0 = n at *
  have HC := Lib.hid hc
  have c6 := hp.cell 5 rfl
  have f6 := hp.free 5
  have HP := Lib.hid hp
  clear hc hp h2 h3
  cases hb : (parse32N x).isSome
  all_goals
    have HC2 := Lib.hid (by have := HC.out; rw [hb] at this; exact this)
    clear HC hb
    go_enter Tryz.func104, Tryz.ntmps104
    go_wp2_with fail
    refine (HC2.out _).mono ?_
    rintro e w1 ⟨rfl, rfl⟩
    go_wp2_with fail
    go_ret
    exact ⟨rfl, _, HP.out.set 5 _ rfl, grown_set _ _ _ _, fun _ => rfl⟩

set_option maxHeartbeats 1000000 in
set_option maxRecDepth 100000 in
theorem refExp : RefReads 1 := by
  intro p ks c x w hx hp
  have hc := fun W => refParseSigned_any ⟨x.toArray⟩ W (by rw [sv_size]; exact hx)
  rw [show bs ⟨x.toArray⟩ = x from rfl, signedV_is] at hc
  have h2 : readF c 1 x = ({ c with exp := (signedN x).getD 0 }, (signedN x).isSome) := rfl
  have h3 : toldF c 1 x = if (signedN x).isSome then 0 else 2 := rfl
  rw [h2, h3]
  show Calls _ _ #[_, .int .u8 101, _] _ _
  generalize (signedN x).getD 0 = n at *
  have HC := Lib.hid hc
  have c6 := hp.cell 6 rfl
  have f6 := hp.free 6
  have HP := Lib.hid hp
  clear hc hp h2 h3
  cases hb : (signedN x).isSome
  all_goals
    have HC2 := Lib.hid (by have := HC.out; rw [hb] at this; exact this)
    clear HC hb
    go_enter Tryz.func104, Tryz.ntmps104
    go_wp2_with fail
    refine (HC2.out _).mono ?_
    rintro e w1 ⟨rfl, rfl⟩
    go_wp2_with fail
    go_ret
    exact ⟨rfl, _, HP.out.set 6 _ rfl, grown_set _ _ _ _, fun _ => rfl⟩

set_option maxHeartbeats 1000000 in
set_option maxRecDepth 100000 in
theorem refId : RefReads 3 := by
  intro p ks c x w hx hp
  have hc := fun W => refParse_any ⟨x.toArray⟩ W (by rw [sv_size]; exact hx)
  rw [show bs ⟨x.toArray⟩ = x from rfl, parseV_is] at hc
  have h2 : readF c 3 x = ({ c with id := (parseN x).getD 0 }, (parseN x).isSome) := rfl
  have h3 : toldF c 3 x = if (parseN x).isSome then 0 else 2 := rfl
  rw [h2, h3]
  show Calls _ _ #[_, .int .u8 105, _] _ _
  generalize (parseN x).getD 0 = n at *
  have HC := Lib.hid hc
  have c6 := hp.cell 7 rfl
  have f6 := hp.free 7
  have HP := Lib.hid hp
  clear hc hp h2 h3
  cases hb : (parseN x).isSome
  all_goals
    have HC2 := Lib.hid (by have := HC.out; rw [hb] at this; exact this)
    clear HC hb
    go_enter Tryz.func104, Tryz.ntmps104
    go_wp2_with fail
    refine (HC2.out _).mono ?_
    rintro e w1 ⟨rfl, rfl⟩
    go_wp2_with fail
    go_ret
    exact ⟨rfl, _, HP.out.set 7 _ rfl, grown_set _ _ _ _, fun _ => rfl⟩

set_option maxHeartbeats 1000000 in
set_option maxRecDepth 100000 in
theorem refBy : RefReads 4 := by
  intro p ks c x w hx hp
  have hc := fun W => refParse_any ⟨x.toArray⟩ W (by rw [sv_size]; exact hx)
  rw [show bs ⟨x.toArray⟩ = x from rfl, parseV_is] at hc
  have h2 : readF c 4 x = ({ c with by' := (parseN x).getD 0 }, (parseN x).isSome) := rfl
  have h3 : toldF c 4 x = if (parseN x).isSome then 0 else 4 := rfl
  rw [h2, h3]
  show Calls _ _ #[_, .int .u8 121, _] _ _
  generalize (parseN x).getD 0 = n at *
  have HC := Lib.hid hc
  have c6 := hp.cell 8 rfl
  have f6 := hp.free 8
  have HP := Lib.hid hp
  clear hc hp h2 h3
  cases hb : (parseN x).isSome
  all_goals
    have HC2 := Lib.hid (by have := HC.out; rw [hb] at this; exact this)
    clear HC hb
    go_enter Tryz.func104, Tryz.ntmps104
    go_wp2_with fail
    refine (HC2.out _).mono ?_
    rintro e w1 ⟨rfl, rfl⟩
    go_wp2_with fail
    go_ret
    exact ⟨rfl, _, HP.out.set 8 _ rfl, grown_set _ _ _ _, fun _ => rfl⟩

theorem le_small {n : Nat} (h : n < 18446744073709551616) : IntKind.u64.wrap (n : Int) = (n : Int) := by rw [IntKind.wrap_u64]; omega
set_option maxHeartbeats 1000000 in
set_option maxRecDepth 100000 in
theorem refBytes : RefReads 2 := by
  intro p ks c x w hx hp
  have hc := fun W => refParse_any ⟨x.toArray⟩ W (by rw [sv_size]; exact hx)
  rw [show bs ⟨x.toArray⟩ = x from rfl] at hc
  show Calls _ _ #[_, .int .u8 98, _] _ _
  have hcase : (parseN x = none) ∨ ∃ n, parseN x = some n := by cases parseN x; exact .inl rfl; exact .inr ⟨_, rfl⟩
  have c9 := hp.cell 9 rfl
  have f9 := hp.free 9
  have HP := Lib.hid hp
  clear hp
  rcases hcase with h | ⟨n, h⟩
  · rw [parseV_none h] at hc
    have h2 : readF c 2 x = ({ c with bytes := 0 }, false) := by simp [readF, h]
    have h3 : toldF c 2 x = 2 := by simp [toldF, h2]
    rw [h2, h3]
    have HC := Lib.hid hc
    clear hc h2 h3 h
    go_enter Tryz.func104, Tryz.ntmps104
    go_wp2_with fail
    refine (HC.out _).mono ?_
    rintro e w1 ⟨rfl, rfl⟩
    go_wp2_with fail
    go_ret
    exact ⟨rfl, _, HP.out, World.grownBy.refl _ _, fun h => by cases h⟩
  · rw [parseV_some h] at hc
    have hlt := parse_lt h
    by_cases hM : n ≤ 2147483647
    · have h2 : readF c 2 x = ({ c with bytes := (n : Int) }, true) := by simp [readF, h, hM]
      have h3 : toldF c 2 x = 0 := by simp [toldF, h2]
      rw [h2, h3]
      have hw : IntKind.i64.wrap (n : Int) = (n : Int) := IntWalk.i64_in _ (by omega)
      have hle : decide ((n : Int) ≤ 2147483647) = true := by rw [decide_eq_true_eq]; omega
      have HC := Lib.hid hc
      clear hc h2 h3 h hlt hM
      go_enter Tryz.func104, Tryz.ntmps104
      go_wp2_with fail
      refine (HC.out _).mono ?_
      rintro e w1 ⟨rfl, rfl⟩
      go_wp2_with fail
      go_ret
      exact ⟨rfl, _, HP.out.set 9 _ rfl, grown_set _ _ _ _, fun _ => rfl⟩
    · have h2 : (readF c 2 x).2 = false := by simp [readF, h, hM]
      have h3 : toldF c 2 x = 2 := by simp [toldF, h2]
      rw [h2, h3]
      generalize (readF c 2 x).1 = r
      have hle : decide ((n : Int) ≤ 2147483647) = false := by rw [decide_eq_false_iff_not]; omega
      have HC := Lib.hid hc
      clear hc h2 h3 h hlt hM
      go_enter Tryz.func104, Tryz.ntmps104
      go_wp2_with fail
      refine (HC.out _).mono ?_
      rintro e w1 ⟨rfl, rfl⟩
      go_wp2_with fail
      go_ret
      exact ⟨rfl, _, HP.out, World.grownBy.refl _ _, fun h => by cases h⟩
theorem refRead_any {f : Nat} (hf : f < 5) : RefReads f := by
  match f, hf with
  | 0, _ => exact refFlags
  | 1, _ => exact refExp
  | 2, _ => exact refBytes
  | 3, _ => exact refId
  | 4, _ => exact refBy
end Go.Proofs.YtahpjhnbjkjkiaaGreatDoor
