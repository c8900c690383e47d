/- Contracts of the package tagwords. No condition. And what goes with it (2 texts). -/
import Derived.Test.YtnkkoicbnbjlnaaGreatDoorMcA
import Derived.Test.YtnkkoicbnbjlnaaGreatDoorLowA
namespace Go.Proofs.YtnkkoicbnbjlnaaGreatDoor
set_option maxRecDepth 100000
set_option maxHeartbeats 8000000
open Go.RowKit
def partK (u k s : Nat) : Int := if s < k then (partN u s : Int) else 0
abbrev partCells (u k : Nat) : List Value := [.int .i64 (partK u k 0), .int .i64 (partK u k 1), .int .i64 (partK u k 2), .int .i64 (partK u k 3)]
abbrev partV (u : Nat) : Value := .agg #[.int .i64 (partN u 0 : Int), .int .i64 (partN u 1 : Int), .int .i64 (partN u 2 : Int), .int .i64 (partN u 3 : Int)]
def PartAt (w : World) (u k : Nat) (W : World) : Prop := W.heap[w.heap.size]? = some (.cells (partCells u k).toArray 412 (0, 0)) ∧ Below w.heap.size w W
theorem and255 (a : Nat) (ha : a < 18446744073709551616) : bits .and .u64 (a : Int) 255 = ((a % 256 : Nat) : Int) := by
 have h := uand a 255 ha (by omega)
 rw [show a &&& 255 = a % 256 from Nat.and_two_pow_sub_one_eq_mod a 8] at h
 exact h
theorem part_step (u : Nat) (hu : u < 18446744073709551616) (s d : Nat) (hd : 256 ^ s = d) : bits .and .u64 ((u : Int) / (d : Int)) 255 = (partN u s : Int) ∧ wrap64 (partN u s : Int) = (partN u s : Int) := by
 have hlt : partN u s < 256 := Nat.mod_lt _ (by omega)
 refine ⟨?_, IntWalk.wrap64_in _ (by omega)⟩
 rw [show (u : Int) / (d : Int) = ((u / d : Nat) : Int) from by omega, and255 _ (Nat.lt_of_le_of_lt (Nat.div_le_self _ _) hu)]
 unfold partN
 rw [hd]
theorem PartAt.next {w W : World} {u k : Nat} (h : PartAt w u k W) (hk : k < 4) {v : Int} (hv : v = (partN u k : Int)) : PartAt w u (k + 1) (W.setCell ⟨w.heap.size, k, none⟩ (.int .i64 v)) := by
 subst hv
 refine ⟨?_, h.2.setCell (p := ⟨w.heap.size, k, none⟩) (Nat.le_refl _) _⟩
 have := Go.Joins.block_setCell (i := k) h.1 (.int .i64 (partN u k : Int))
 refine this.trans ?_
 congr 2
 rcases (by omega : k = 0 ∨ k = 1 ∨ k = 2 ∨ k = 3) with rfl | rfl | rfl | rfl <;> simp [partK]
theorem parts_any (u : Nat) (hu : u < 18446744073709551616) (w : World) : Calls Tryz.prog 288 #[.int .u64 (u : Int)] w fun e w' => e = .returned (partV u) ∧ Below w.heap.size w w' := by
 have H0 := hidZ (show PartAt w u 0 (w.alloc (.cells #[.int .i64 0, .int .i64 0, .int .i64 0, .int .i64 0] 412)) from ⟨by rw [heap_at, if_pos rfl]; rfl, (Below.refl _ _).alloc (Nat.le_refl _) _⟩)
 obtain ⟨p0, q0⟩ := part_step u hu 0 1 (by decide)
 obtain ⟨p1, q1⟩ := part_step u hu 1 256 (by decide)
 obtain ⟨p2, q2⟩ := part_step u hu 2 65536 (by decide)
 obtain ⟨p3, q3⟩ := part_step u hu 3 16777216 (by decide)
 have P0 := hidZ (show wrap64 (bits .and .u64 (u : Int) 255) = (partN u 0 : Int) from by rw [show (u : Int) / ((1 : Nat) : Int) = (u : Int) from by omega] at p0; rw [p0]; exact q0)
 have P1 := hidZ (show wrap64 (bits .and .u64 ((u : Int) / 256) 255) = (partN u 1 : Int) from by rw [show ((256 : Nat) : Int) = 256 from rfl] at p1; rw [p1]; exact q1)
 have P2 := hidZ (show wrap64 (bits .and .u64 ((u : Int) / 65536) 255) = (partN u 2 : Int) from by rw [show ((65536 : Nat) : Int) = 65536 from rfl] at p2; rw [p2]; exact q2)
 have P3 := hidZ (show wrap64 (bits .and .u64 ((u : Int) / 16777216) 255) = (partN u 3 : Int) from by rw [show ((16777216 : Nat) : Int) = 16777216 from rfl] at p3; rw [p3]; exact q3)
 clear p0 q0 p1 q1 p2 q2 p3 q3 hu
 go_enter Tryz.func288, Tryz.ntmps288
 go_upto_region 2 with fail
 go_loopw [4] (fun s4 wr => ∃ k : Nat, s4 = .int .i64 (k : Int) ∧ k ≤ 4 ∧ Hid (PartAt w u k wr)) (fun s4 _ => 4 - (intOf s4).toNat)
 case atStart => exact ⟨0, rfl, Nat.zero_le _, H0⟩
 case round =>
  obtain ⟨k, rfl, hk, HP⟩ := hrel
  have c0 := (cellsAt HP.out.1 0)
  have c1 := (cellsAt HP.out.1 1)
  have c2 := (cellsAt HP.out.1 2)
  have c3 := (cellsAt HP.out.1 3)
  rcases (by omega : k = 0 ∨ k = 1 ∨ k = 2 ∨ k = 3 ∨ k = 4) with rfl | rfl | rfl | rfl | rfl
  ·obtain ⟨x, f⟩ := c0
   clear c1 c2 c3
   go_wp2_with fail
   exact ⟨⟨1, rfl, by omega, hidZ (HP.out.next (by omega) P0.out)⟩, by simp [intOf]⟩
  ·obtain ⟨x, f⟩ := c1
   clear c0 c2 c3
   go_wp2_with fail
   exact ⟨⟨2, rfl, by omega, hidZ (HP.out.next (by omega) P1.out)⟩, by simp [intOf]⟩
  ·obtain ⟨x, f⟩ := c2
   clear c0 c1 c3
   go_wp2_with fail
   exact ⟨⟨3, rfl, by omega, hidZ (HP.out.next (by omega) P2.out)⟩, by simp [intOf]⟩
  ·obtain ⟨x, f⟩ := c3
   clear c0 c1 c2
   go_wp2_with fail
   exact ⟨⟨4, rfl, by omega, hidZ (HP.out.next (by omega) P3.out)⟩, by simp [intOf]⟩
  ·obtain ⟨x0, f0⟩ := c0
   obtain ⟨x1, f1⟩ := c1
   obtain ⟨x2, f2⟩ := c2
   obtain ⟨x3, f3⟩ := c3
   clear P0 P1 P2 P3 H0
   go_wp2_with fail
   exact bodyPost_ret (v := partV u) (by simp [results, Tryz.results288, go_sem, x0, x1, x2, x3, partK]) rfl ⟨rfl, ((((HP.out.2.setCell (p := ⟨w.heap.size, 0, none⟩) (Nat.le_refl _) _).setCell (p := ⟨w.heap.size, 1, none⟩) (Nat.le_refl _) _).setCell (p := ⟨w.heap.size, 2, none⟩) (Nat.le_refl _) _).setCell (p := ⟨w.heap.size, 3, none⟩) (Nat.le_refl _) _)⟩
def freeI (u : Nat) : Int := match freeN u with | some s => (s : Int) | none => -1
theorem free_at {u k : Nat} (hk : k < 4) (h0 : ∀ s, s < k → partN u s ≠ 0) (h1 : partN u k = 0) : freeN u = some k := by
 unfold freeN
 rw [List.find?_eq_some_iff_getElem]
 refine ⟨by simp [h1], k, by simp [hk], by simp, fun j hj => ?_⟩
 have := h0 j hj
 simp [this]
theorem free_none {u : Nat} (h0 : ∀ s, s < 4 → partN u s ≠ 0) : freeN u = none := by
 unfold freeN
 rw [List.find?_eq_none]
 intro s hs
 have := h0 s (by simpa using hs)
 simp [this]
theorem free_any (u : Nat) (hu : u < 18446744073709551616) (w : World) : Calls Tryz.prog 292 #[.int .u64 (u : Int)] w fun e w' => e = .returned (.int .i64 (freeI u)) ∧ Below w.heap.size w w' := by
 have HP := hidZ (parts_any u hu w)
 obtain ⟨V, hV⟩ := xE (partV u)
 rw [← hV] at HP
 have i0 : ∀ W, (Instr.index 412 V (.int .i64 0)).run Tryz.prog W = .ok (.int .i64 (partN u 0 : Int)) W := fun W => by rw [hV]; kernel_rfl
 have i1 : ∀ W, (Instr.index 412 V (.int .i64 1)).run Tryz.prog W = .ok (.int .i64 (partN u 1 : Int)) W := fun W => by rw [hV]; kernel_rfl
 have i2 : ∀ W, (Instr.index 412 V (.int .i64 2)).run Tryz.prog W = .ok (.int .i64 (partN u 2 : Int)) W := fun W => by rw [hV]; kernel_rfl
 have i3 : ∀ W, (Instr.index 412 V (.int .i64 3)).run Tryz.prog W = .ok (.int .i64 (partN u 3 : Int)) W := fun W => by rw [hV]; kernel_rfl
 clear hV hu
 go_enter Tryz.func292, Tryz.ntmps292
 go_wp2_with fail
 refine HP.out.mono ?_
 rintro e w1 ⟨rfl, hb⟩
 have HB := hidZ hb
 clear hb HP
 go_wp2_with fail
 go_loop [7] (fun s7 => ∃ k : Nat, s7 = .int .i64 (k : Int) ∧ k ≤ 4 ∧ Hid (∀ s, s < k → partN u s ≠ 0)) (fun s7 => 4 - (intOf s7).toNat)
 case atStart => exact ⟨0, rfl, Nat.zero_le _, hidZ (fun s hs => by omega)⟩
 case round =>
  obtain ⟨k, rfl, hk, HN⟩ := hrel
  rcases (by omega : k = 0 ∨ k = 1 ∨ k = 2 ∨ k = 3 ∨ k = 4) with rfl | rfl | rfl | rfl | rfl
  ·by_cases h : partN u 0 = 0
   ·have HF := hidZ (show freeI u = 0 from by unfold freeI; rw [free_at (by omega) HN.out h]; rfl)
    have e0 : ((partN u 0 : Int) == 0) = true := by rw [beq_iff_eq]; omega
    clear h
    go_wp2_with fail
    go_ret
    exact ⟨ret_congr (int_congr HF.out.symm), HB.out⟩
   ·have HM := hidZ (show ∀ s, s < 1 → partN u s ≠ 0 from fun s hs => by
     by_cases e : s = 0
     ·rw [e]; exact h
     ·exact HN.out s (by omega))
    have e0 : ((partN u 0 : Int) == 0) = false := by rw [beq_eq_false_iff_ne]; omega
    clear h
    go_wp2_with fail
    exact ⟨⟨1, rfl, by omega, HM⟩, by simp [intOf]⟩
  ·by_cases h : partN u 1 = 0
   ·have HF := hidZ (show freeI u = 1 from by unfold freeI; rw [free_at (by omega) HN.out h]; rfl)
    have e0 : ((partN u 1 : Int) == 0) = true := by rw [beq_iff_eq]; omega
    clear h
    go_wp2_with fail
    go_ret
    exact ⟨ret_congr (int_congr HF.out.symm), HB.out⟩
   ·have HM := hidZ (show ∀ s, s < 2 → partN u s ≠ 0 from fun s hs => by
     by_cases e : s = 1
     ·rw [e]; exact h
     ·exact HN.out s (by omega))
    have e0 : ((partN u 1 : Int) == 0) = false := by rw [beq_eq_false_iff_ne]; omega
    clear h
    go_wp2_with fail
    exact ⟨⟨2, rfl, by omega, HM⟩, by simp [intOf]⟩
  ·by_cases h : partN u 2 = 0
   ·have HF := hidZ (show freeI u = 2 from by unfold freeI; rw [free_at (by omega) HN.out h]; rfl)
    have e0 : ((partN u 2 : Int) == 0) = true := by rw [beq_iff_eq]; omega
    clear h
    go_wp2_with fail
    go_ret
    exact ⟨ret_congr (int_congr HF.out.symm), HB.out⟩
   ·have HM := hidZ (show ∀ s, s < 3 → partN u s ≠ 0 from fun s hs => by
     by_cases e : s = 2
     ·rw [e]; exact h
     ·exact HN.out s (by omega))
    have e0 : ((partN u 2 : Int) == 0) = false := by rw [beq_eq_false_iff_ne]; omega
    clear h
    go_wp2_with fail
    exact ⟨⟨3, rfl, by omega, HM⟩, by simp [intOf]⟩
  ·by_cases h : partN u 3 = 0
   ·have HF := hidZ (show freeI u = 3 from by unfold freeI; rw [free_at (by omega) HN.out h]; rfl)
    have e0 : ((partN u 3 : Int) == 0) = true := by rw [beq_iff_eq]; omega
    clear h
    go_wp2_with fail
    go_ret
    exact ⟨ret_congr (int_congr HF.out.symm), HB.out⟩
   ·have HM := hidZ (show ∀ s, s < 4 → partN u s ≠ 0 from fun s hs => by
     by_cases e : s = 3
     ·rw [e]; exact h
     ·exact HN.out s (by omega))
    have e0 : ((partN u 3 : Int) == 0) = false := by rw [beq_eq_false_iff_ne]; omega
    clear h
    go_wp2_with fail
    exact ⟨⟨4, rfl, by omega, HM⟩, by simp [intOf]⟩
  ·have HF := hidZ (show freeI u = -1 from by unfold freeI; rw [free_none HN.out])
   go_wp2_with fail
   go_ret
   exact ⟨ret_congr (int_congr HF.out.symm), HB.out⟩
theorem slot_any (s : Nat) (hs : s < 4) (w : World) : Calls Tryz.prog 357 #[.int .i64 (s : Int)] w fun e w' => e = .returned (.bool true) ∧ w = w' := by
 rcases (by omega : s = 0 ∨ s = 1 ∨ s = 2 ∨ s = 3) with rfl | rfl | rfl | rfl <;>
 (go_enter Tryz.func357, Tryz.ntmps357
  go_wp2_with fail
  go_ret
  exact ⟨rfl, rfl⟩)
theorem with_any (u s t : Nat) (hu : u < 18446744073709551616) (hs : s < 4) (ht : t < 256) (w : World) : Calls Tryz.prog 377 #[.int .u64 (u : Int), .int .i64 (s : Int), .int .i64 (t : Int)] w fun e w' => e = .returned (.int .u64 (withN u s t : Int)) ∧ Below w.heap.size w w' := by
 have d0 : decide ((t : Int) < 0) = false := by rw [decide_eq_false_iff_not]; omega
 have d1 : decide (255 < (t : Int)) = false := by rw [decide_eq_false_iff_not]; omega
 have HT := hidZ (slot_any s hs w)
 rcases (by omega : s = 0 ∨ s = 1 ∨ s = 2 ∨ s = 3) with rfl | rfl | rfl | rfl
 ·have HB := hidZ (show bits .or .u64 (bits .andNot .u64 (u : Int) 255) (t : Int) = (withN u 0 t : Int) from by
   have h1 := byte_all u t 0 255 (t * 1) hu ht (by omega) (by decide) (by rw [Nat.shiftLeft_eq]) (by omega)
   rw [byte_with u t 0 0 ht (by omega)] at h1
   rw [← h1]
   congr 1 <;> omega)
  have hw : IntKind.u64.wrap ((t : Int) * 1) = (t : Int) * 1 := by rw [IntKind.wrap_u64]; omega
  go_enter Tryz.func377, Tryz.ntmps377
  go_wp2_with fail
  refine HT.out.mono ?_
  rintro e w1 ⟨rfl, rfl⟩
  go_wp2_with fail
  go_quiet (fail)
  go_wp2_with fail
  go_ret
  exact ⟨ret_congr (int_congr HB.out), low_drawn (Below.refl _ _) _⟩
 ·have HB := hidZ (show bits .or .u64 (bits .andNot .u64 (u : Int) 65280) ((t : Int) * 256) = (withN u 1 t : Int) from by
   have h1 := byte_all u t 8 65280 (t * 256) hu ht (by omega) (by decide) (by rw [Nat.shiftLeft_eq]) (by omega)
   rw [byte_with u t 1 8 ht (by omega)] at h1
   rw [← h1]
   congr 1 <;> omega)
  have hw : IntKind.u64.wrap ((t : Int) * 256) = (t : Int) * 256 := by rw [IntKind.wrap_u64]; omega
  go_enter Tryz.func377, Tryz.ntmps377
  go_wp2_with fail
  refine HT.out.mono ?_
  rintro e w1 ⟨rfl, rfl⟩
  go_wp2_with fail
  go_quiet (fail)
  go_wp2_with fail
  go_ret
  exact ⟨ret_congr (int_congr HB.out), low_drawn (Below.refl _ _) _⟩
 ·have HB := hidZ (show bits .or .u64 (bits .andNot .u64 (u : Int) 16711680) ((t : Int) * 65536) = (withN u 2 t : Int) from by
   have h1 := byte_all u t 16 16711680 (t * 65536) hu ht (by omega) (by decide) (by rw [Nat.shiftLeft_eq]) (by omega)
   rw [byte_with u t 2 16 ht (by omega)] at h1
   rw [← h1]
   congr 1 <;> omega)
  have hw : IntKind.u64.wrap ((t : Int) * 65536) = (t : Int) * 65536 := by rw [IntKind.wrap_u64]; omega
  go_enter Tryz.func377, Tryz.ntmps377
  go_wp2_with fail
  refine HT.out.mono ?_
  rintro e w1 ⟨rfl, rfl⟩
  go_wp2_with fail
  go_quiet (fail)
  go_wp2_with fail
  go_ret
  exact ⟨ret_congr (int_congr HB.out), low_drawn (Below.refl _ _) _⟩
 ·have HB := hidZ (show bits .or .u64 (bits .andNot .u64 (u : Int) 4278190080) ((t : Int) * 16777216) = (withN u 3 t : Int) from by
   have h1 := byte_all u t 24 4278190080 (t * 16777216) hu ht (by omega) (by decide) (by rw [Nat.shiftLeft_eq]) (by omega)
   rw [byte_with u t 3 24 ht (by omega)] at h1
   rw [← h1]
   congr 1 <;> omega)
  have hw : IntKind.u64.wrap ((t : Int) * 16777216) = (t : Int) * 16777216 := by rw [IntKind.wrap_u64]; omega
  go_enter Tryz.func377, Tryz.ntmps377
  go_wp2_with fail
  refine HT.out.mono ?_
  rintro e w1 ⟨rfl, rfl⟩
  go_wp2_with fail
  go_quiet (fail)
  go_wp2_with fail
  go_ret
  exact ⟨ret_congr (int_congr HB.out), low_drawn (Below.refl _ _) _⟩
abbrev addrN (a : Nat) : Value := .int .u64 (a : Int)
theorem there_any {b k : Nat} (h : Bkt b k) (w : World) : Calls Tryz.prog 262 #[placeV b k] w fun e w' => e = .returned (.bool true) ∧ Below w.heap.size w w' := by
 have hbx : (w.alloc (.cells #[.int .i64 (b : Int), .int .i64 (k : Int)] 130)).heap[w.heap.size]? = some (.cells #[.int .i64 (b : Int), .int .i64 (k : Int)] 130 (0, 0)) := by rw [heap_at, if_pos rfl]
 have hlow : Below w.heap.size w (w.alloc (.cells #[.int .i64 (b : Int), .int .i64 (k : Int)] 130)) := (Below.refl _ _).alloc (Nat.le_refl _) _
 have HS := hidZ (fun W => fnvSize_any b (by have := h.b2; omega) W)
 have hk := h.le
 have hkl := h.k
 obtain ⟨K, hK⟩ : ∃ K : Int, K = (k : Int) := ⟨_, rfl⟩
 obtain ⟨n, hn⟩ : ∃ n : Int, n = (sizeN b : Int) := ⟨_, rfl⟩
 obtain ⟨B, hB⟩ : ∃ B : Int, B = (b : Int) := ⟨_, rfl⟩
 have d0 : decide (0 ≤ K) = true := by rw [decide_eq_true_eq]; omega
 have d1 : decide (K < n) = true := by rw [decide_eq_true_eq]; omega
 rw [← hn, ← hB] at HS
 rw [← hK, ← hB] at hbx hlow
 unfold placeV
 rw [← hK, ← hB]
 have HL := hidZ hlow
 have HX := hidZ hbx
 clear h hk hkl hK hn hB hlow hbx
 go_enter Tryz.func262, Tryz.ntmps262
 go_upto_region 1 with fail
 obtain ⟨wx, hwx⟩ := xE (w.alloc (.cells #[.int .i64 B, .int .i64 K] 130))
 rw [← hwx] at HL HX ⊢
 have x0 : wx.cell? ⟨w.heap.size, 0, none⟩ = some (.int .i64 B) := (cellsAt HX.out 0).1
 have x1 : wx.cell? ⟨w.heap.size, 1, none⟩ = some (.int .i64 K) := (cellsAt HX.out 1).1
 clear hwx
 refine wp_region_held_drew (S := fun W => W.cell? ⟨w.heap.size, 0, none⟩ = some (.int .i64 B) ∧ W.cell? ⟨w.heap.size, 1, none⟩ = some (.int .i64 K)) (by kernel_rfl) ⟨x0, x1⟩ (fun hHe => ?_)
 refine tkz 0 rfl ?_
 try simp only [tp, tz]
 refine tkw 1 rfl ?_
 try simp only [tp, tz]
 refine tkz 2 rfl ?_
 try simp only [tp, tz]
 refine tkz 3 rfl ?_
 try simp only [tp, tz]
 refine tkz 4 rfl ?_
 try simp only [tp, tz]
 refine tkw 5 rfl ?_
 try simp only [tp, tz]
 refine tkz 6 rfl ?_
 try simp only [tp, tz]
 refine tkw 7 rfl ?_
 try simp only [tp, tz]
 refine rdy 8 rfl (fun K hK => ?_)
 go_simp
 go_at_call 263
 refine (HS.out _).mono ?_
 rintro e w1 ⟨rfl, rfl⟩
 refine hK.out _ _ hHe (fun hHf => ?_)
 clear hK K
 try simp only [tp, tz]
 refine tkz 9 rfl ?_
 try simp only [tp, tz]
 refine tkz 10 rfl ?_
 try simp only [tp, tz]
 refine tkz 11 rfl ?_
 try simp only [tp, tz]
 refine wpAnyH_done (by kernel_rfl) ?_ _
 clear hHe
 clear hHf
 have HD := hidZ (show Below w.heap.size w wx.drew from HL.out.drew)
 go_wp2_with fail
 go_ret
 exact ⟨rfl, HD.out⟩
theorem boxAt {w1 W : World} {o : Obj} {g : Nat} (h : W.heap[g]? = some o) (hb : Below W.heap.size W w1) : w1.heap[g]? = some o := (hb.block g (Array.getElem?_eq_some_iff.1 h).1).trans h
theorem tagsA_lt {b k : Nat} (h : Bkt b k) : tagsA b k < 100000 := by
 have := h.le
 have := size_le b
 unfold tagsA
 omega
theorem tagsA_any {b k : Nat} (h : Bkt b k) (w : World) : Calls Tryz.prog 257 #[placeV b k] w fun e w' => e = .returned (addrN (tagsA b k)) ∧ Below w.heap.size w w' := by
 have hbx : (w.alloc (.cells #[.int .i64 (b : Int), .int .i64 (k : Int)] 130)).heap[w.heap.size]? = some (.cells #[.int .i64 (b : Int), .int .i64 (k : Int)] 130 (0, 0)) := by rw [heap_at, if_pos rfl]
 have hlow : Below w.heap.size w (w.alloc (.cells #[.int .i64 (b : Int), .int .i64 (k : Int)] 130)) := (Below.refl _ _).alloc (Nat.le_refl _) _
 have HT := hidZ (fun W => there_any h W)
 have HS := hidZ (fun W => fnvSize_any b (by have := h.b2; omega) W)
 have hk := h.le
 have hs := size_le b
 have hw1 : IntKind.i64.wrap ((sizeN b : Int) + (k : Int)) = ((sizeN b + k : Nat) : Int) := IntWalk.i64_in _ (by omega)
 have hw2 : IntKind.u64.wrap ((sizeN b + k : Nat) : Int) = ((sizeN b + k : Nat) : Int) := by rw [IntKind.wrap_u64]; omega
 have hw3 : IntKind.u64.wrap (8 * ((sizeN b + k : Nat) : Int)) = ((8 * (sizeN b + k) : Nat) : Int) := by rw [IntKind.wrap_u64]; omega
 have hw4 : IntKind.u64.wrap (4096 + ((8 * (sizeN b + k) : Nat) : Int)) = (tagsA b k : Int) := by rw [IntKind.wrap_u64]; unfold tagsA; omega
 obtain ⟨K, hK⟩ : ∃ K : Int, K = (k : Int) := ⟨_, rfl⟩
 obtain ⟨n, hn⟩ : ∃ n : Int, n = (sizeN b : Int) := ⟨_, rfl⟩
 obtain ⟨B, hB⟩ : ∃ B : Int, B = (b : Int) := ⟨_, rfl⟩
 obtain ⟨x, hx⟩ : ∃ B : Int, B = ((sizeN b + k : Nat) : Int) := ⟨_, rfl⟩
 obtain ⟨y, hy⟩ : ∃ B : Int, B = ((8 * (sizeN b + k) : Nat) : Int) := ⟨_, rfl⟩
 obtain ⟨z, hz⟩ : ∃ B : Int, B = (tagsA b k : Int) := ⟨_, rfl⟩
 unfold placeV at HT ⊢
 rw [← hx, ← hn, ← hK] at hw1
 rw [← hx] at hw2 hw3
 rw [← hy] at hw3 hw4
 rw [← hz] at hw4
 rw [← hn, ← hB] at HS
 rw [← hK, ← hB] at hbx hlow HT ⊢
 unfold addrN
 rw [← hz]
 have HL := hidZ hlow
 have HX := hidZ hbx
 clear h hk hs hK hn hB hlow hbx hx hy hz
 go_enter Tryz.func257, Tryz.ntmps257
 go_wp2_with fail
 refine (HT.out _).mono ?_
 rintro e w1 ⟨rfl, hb1⟩
 have x0 : w1.cell? ⟨w.heap.size, 0, none⟩ = some (.int .i64 B) := (cellsAt (boxAt HX.out hb1) 0).1
 have x1 : w1.cell? ⟨w.heap.size, 1, none⟩ = some (.int .i64 K) := (cellsAt (boxAt HX.out hb1) 1).1
 have HB := hidZ (show Below w.heap.size w w1 from HL.out.trans (hb1.mono (by rw [size_at]; omega)))
 clear HL HX HT hb1
 go_wp2_with fail
 refine wp_region_held_drew (S := fun W => W.cell? ⟨w.heap.size, 0, none⟩ = some (.int .i64 B) ∧ W.cell? ⟨w.heap.size, 1, none⟩ = some (.int .i64 K)) (by kernel_rfl) ⟨x0, x1⟩ (fun hHe => ?_)
 refine tkz 0 rfl ?_
 try simp only [tp, tz]
 refine tkw 1 rfl ?_
 try simp only [tp, tz]
 refine tkz 3 rfl ?_
 try simp only [tp, tz]
 refine tkw 4 rfl ?_
 try simp only [tp, tz]
 refine rdy 2 rfl (fun K hK => ?_)
 go_simp
 go_at_call 263
 refine (HS.out _).mono ?_
 rintro e w2 ⟨rfl, rfl⟩
 refine hK.out _ _ hHe (fun hHf => ?_)
 clear hK K
 try simp only [tp, tz]
 refine tkz 5 rfl ?_
 try simp only [tp, tz]
 refine tkz 6 rfl ?_
 try simp only [tp, tz]
 refine tkz 7 rfl ?_
 try simp only [tp, tz]
 refine tkz 8 rfl ?_
 try simp only [tp, tz]
 refine tkz 9 rfl ?_
 try simp only [tp, tz]
 refine wpAnyH_done (by kernel_rfl) ?_ _
 clear hHe
 clear hHf
 have HD := hidZ (show Below w.heap.size w w1.drew from HB.out.drew)
 go_wp2_with fail
 go_ret
 exact ⟨rfl, HD.out⟩
theorem verA_any {b k : Nat} (h : Bkt b k) (w : World) : Calls Tryz.prog 246 #[placeV b k] w fun e w' => e = .returned (addrN (verA b k)) ∧ Below w.heap.size w w' := by
 have hbx : (w.alloc (.cells #[.int .i64 (b : Int), .int .i64 (k : Int)] 130)).heap[w.heap.size]? = some (.cells #[.int .i64 (b : Int), .int .i64 (k : Int)] 130 (0, 0)) := by rw [heap_at, if_pos rfl]
 have hlow : Below w.heap.size w (w.alloc (.cells #[.int .i64 (b : Int), .int .i64 (k : Int)] 130)) := (Below.refl _ _).alloc (Nat.le_refl _) _
 have HT := hidZ (fun W => there_any h W)
 have HS := hidZ (fun W => stripe_any b k h W)
 have hs : stripeN b k < 64 := Nat.mod_lt _ (by omega)
 have hw2 : IntKind.u64.wrap (stripeN b k : Int) = (stripeN b k : Int) := by rw [IntKind.wrap_u64]; omega
 have hw4 : IntKind.u64.wrap (64 + (stripeN b k : Int)) = (verA b k : Int) := by rw [IntKind.wrap_u64]; unfold verA; omega
 obtain ⟨K, hK⟩ : ∃ K : Int, K = (k : Int) := ⟨_, rfl⟩
 obtain ⟨B, hB⟩ : ∃ B : Int, B = (b : Int) := ⟨_, rfl⟩
 obtain ⟨y, hy⟩ : ∃ B : Int, B = (stripeN b k : Int) := ⟨_, rfl⟩
 obtain ⟨z, hz⟩ : ∃ B : Int, B = (verA b k : Int) := ⟨_, rfl⟩
 unfold placeV at HT HS ⊢
 rw [← hy] at hw2 hw4
 rw [← hz] at hw4
 rw [← hK, ← hB, ← hy] at HS
 rw [← hK, ← hB] at hbx hlow HT ⊢
 unfold addrN
 rw [← hz]
 have HL := hidZ hlow
 have HX := hidZ hbx
 clear h hs hK hB hlow hbx hy hz
 go_enter Tryz.func246, Tryz.ntmps246
 go_wp2_with fail
 refine (HT.out _).mono ?_
 rintro e w1 ⟨rfl, hb1⟩
 have x0 : w1.cell? ⟨w.heap.size, 0, none⟩ = some (.int .i64 B) := (cellsAt (boxAt HX.out hb1) 0).1
 have x1 : w1.cell? ⟨w.heap.size, 1, none⟩ = some (.int .i64 K) := (cellsAt (boxAt HX.out hb1) 1).1
 have HB := hidZ (show Below w.heap.size w w1 from HL.out.trans (hb1.mono (by rw [size_at]; omega)))
 clear HL HX HT hb1
 go_wp2_with fail
 refine (HS.out _).mono ?_
 rintro e w2 ⟨rfl, hb2⟩
 have HD := hidZ (show Below w.heap.size w w2 from HB.out.trans (hb2.mono HB.out.size))
 clear hb2 HS HB
 go_wp2_with fail
 go_ret
 exact ⟨rfl, HD.out⟩
abbrev spotV (b k s : Nat) : Value := .agg #[.int .i64 (b : Int), .int .i64 (k : Int), .int .i64 (s : Int)]
theorem itemA_any {b k s : Nat} (h : Bkt b k) (hs4 : s < 4) (w : World) : Calls Tryz.prog 228 #[spotV b k s] w fun e w' => e = .returned (addrN (itemA b k s)) ∧ Below w.heap.size w w' := by
 have hbx : (w.alloc (.cells #[.int .i64 (b : Int), .int .i64 (k : Int), .int .i64 (s : Int)] 132)).heap[w.heap.size]? = some (.cells #[.int .i64 (b : Int), .int .i64 (k : Int), .int .i64 (s : Int)] 132 (0, 0)) := by rw [heap_at, if_pos rfl]
 have hlow : Below w.heap.size w (w.alloc (.cells #[.int .i64 (b : Int), .int .i64 (k : Int), .int .i64 (s : Int)] 132)) := (Below.refl _ _).alloc (Nat.le_refl _) _
 have HT := hidZ (fun W => there_any h W)
 have HS := hidZ (fun W => tagsA_any h W)
 have hl := tagsA_lt h
 have hw1 : IntKind.u64.wrap ((tagsA b k : Int) + 1) = ((tagsA b k + 1 : Nat) : Int) := by rw [IntKind.wrap_u64]; omega
 have hw2 : IntKind.u64.wrap (s : Int) = (s : Int) := by rw [IntKind.wrap_u64]; omega
 have hw4 : IntKind.u64.wrap (((tagsA b k + 1 : Nat) : Int) + (s : Int)) = (itemA b k s : Int) := by rw [IntKind.wrap_u64]; unfold itemA; omega
 obtain ⟨K, hK⟩ : ∃ K : Int, K = (k : Int) := ⟨_, rfl⟩
 obtain ⟨B, hB⟩ : ∃ B : Int, B = (b : Int) := ⟨_, rfl⟩
 obtain ⟨X, hX⟩ : ∃ B : Int, B = (s : Int) := ⟨_, rfl⟩
 obtain ⟨y, hy⟩ : ∃ B : Int, B = (tagsA b k : Int) := ⟨_, rfl⟩
 obtain ⟨y1, hy1⟩ : ∃ B : Int, B = ((tagsA b k + 1 : Nat) : Int) := ⟨_, rfl⟩
 obtain ⟨z, hz⟩ : ∃ B : Int, B = (itemA b k s : Int) := ⟨_, rfl⟩
 unfold placeV at HT HS
 unfold addrN at HS
 unfold spotV addrN
 rw [← hy, ← hy1] at hw1
 rw [← hX] at hw2
 rw [← hz, ← hy1, ← hX] at hw4
 rw [← hK, ← hB, ← hy] at HS
 rw [← hK, ← hB] at HT
 rw [← hK, ← hB, ← hX] at hbx hlow ⊢
 rw [← hz]
 have d0 : decide (X < 0) = false := by rw [decide_eq_false_iff_not]; omega
 have d1 : decide (4 ≤ X) = false := by rw [decide_eq_false_iff_not]; omega
 have HL := hidZ hlow
 have HX := hidZ hbx
 clear h hs4 hK hB hlow hbx hy hz hX hy1 hl
 go_enter Tryz.func228, Tryz.ntmps228
 go_wp2_with fail
 refine (HT.out _).mono ?_
 rintro e w1 ⟨rfl, hb1⟩
 have x0 : w1.cell? ⟨w.heap.size, 0, none⟩ = some (.int .i64 B) := (cellsAt (boxAt HX.out hb1) 0).1
 have x1 : w1.cell? ⟨w.heap.size, 1, none⟩ = some (.int .i64 K) := (cellsAt (boxAt HX.out hb1) 1).1
 have x2 : w1.cell? ⟨w.heap.size, 2, none⟩ = some (.int .i64 X) := (cellsAt (boxAt HX.out hb1) 2).1
 have HB := hidZ (show Below w.heap.size w w1 from HL.out.trans (hb1.mono (by rw [size_at]; omega)))
 clear HL HX HT hb1
 go_wp2_with fail
 refine wp_region_held_drew (S := fun W => W.cell? ⟨w.heap.size, 0, none⟩ = some (.int .i64 B) ∧ W.cell? ⟨w.heap.size, 1, none⟩ = some (.int .i64 K) ∧ W.cell? ⟨w.heap.size, 2, none⟩ = some (.int .i64 X)) (by kernel_rfl) ⟨x0, x1, x2⟩ (fun hHe => ?_)
 refine tkz 0 rfl ?_
 try simp only [tp, tz]
 refine tkw 1 rfl ?_
 try simp only [tp, tz]
 refine tkz 4 rfl ?_
 try simp only [tp, tz]
 refine tkw 5 rfl ?_
 try simp only [tp, tz]
 refine tkz 6 rfl ?_
 try simp only [tp, tz]
 refine rdy 2 rfl (fun K hK => ?_)
 go_simp
 go_at_call 257
 refine (HS.out _).mono ?_
 rintro e w2 ⟨rfl, hb2⟩
 refine hK.out _ _ ⟨(hb2.cell (p := ⟨w.heap.size, 0, none⟩) (cell_lt x0)).trans x0, (hb2.cell (p := ⟨w.heap.size, 1, none⟩) (cell_lt x0)).trans x1, (hb2.cell (p := ⟨w.heap.size, 2, none⟩) (cell_lt x0)).trans x2⟩ (fun hHf => ?_)
 clear hK K
 try simp only [tp, tz]
 refine tkz 3 rfl ?_
 try simp only [tp, tz]
 refine tkz 7 rfl ?_
 try simp only [tp, tz]
 refine tkz 8 rfl ?_
 try simp only [tp, tz]
 refine wpAnyH_done (by kernel_rfl) ?_ _
 clear hHe
 clear hHf
 have HD := hidZ (show Below w.heap.size w w2 from HB.out.drew.trans (hb2.mono (show w.heap.size ≤ w1.drew.heap.size from HB.out.size)))
 clear hb2
 go_wp2_with fail
 go_ret
 exact ⟨rfl, HD.out⟩
theorem word_any8 (o n : Nat) (ho : o ≤ 12) (hn : n ≤ 12) (w : World) : Calls Tryz.prog 65 #[.int .i64 (o : Int), .int .i64 (n : Int)] w fun e w' => e = .returned (addrN (wordN o n)) ∧ w = w' := by
 have hw1 : IntKind.u8.wrap (o : Int) = (o : Int) := by rw [IntKind.wrap_u8]; omega
 have hw2 : IntKind.u8.wrap (n : Int) = (n : Int) := by rw [IntKind.wrap_u8]; omega
 have hw3 : IntKind.u64.wrap (256 * (n : Int)) = ((256 * n : Nat) : Int) := by rw [IntKind.wrap_u64]; omega
 have hw4 : IntKind.u64.wrap ((o : Int) + ((256 * n : Nat) : Int)) = (wordN o n : Int) := by rw [IntKind.wrap_u64]; unfold wordN; omega
 have hw5 : IntKind.u64.wrap (o : Int) = (o : Int) := by rw [IntKind.wrap_u64]; omega
 have hw6 : IntKind.u64.wrap (n : Int) = (n : Int) := by rw [IntKind.wrap_u64]; omega
 obtain ⟨O, hO⟩ : ∃ K : Int, K = (o : Int) := ⟨_, rfl⟩
 obtain ⟨N, hN⟩ : ∃ K : Int, K = (n : Int) := ⟨_, rfl⟩
 obtain ⟨x, hx⟩ : ∃ K : Int, K = ((256 * n : Nat) : Int) := ⟨_, rfl⟩
 obtain ⟨z, hz⟩ : ∃ K : Int, K = (wordN o n : Int) := ⟨_, rfl⟩
 unfold addrN
 rw [← hO, ← hx, ← hz] at hw4
 rw [← hN, ← hx] at hw3
 rw [← hO] at hw1 hw5 ⊢
 rw [← hN] at hw2 hw6 ⊢
 rw [← hz]
 clear hO hN hx hz ho hn
 go_enter Tryz.func65, Tryz.ntmps65
 go_wp2_with fail
 go_ret
 exact ⟨rfl, rfl⟩
end Go.Proofs.YtnkkoicbnbjlnaaGreatDoor
