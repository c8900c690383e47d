/- machines.Do: a pick, a feed. No condition. The law's Finish, by what each round leaves. No condition. The chapter's example on a machine: what each round leaves. No condition. machines.Hist where one call is over and nothing was dropped. No condition. -/
import Derived.Test.YtfajddlijgpgoaaGreatDoorMgA
import Derived.Test.YtfajddlijgpgoaaGreatDoorMPhase
import Derived.Test.YtfajddlijgpgoaaGreatDoorLowA
namespace Go.Proofs.YtfajddlijgpgoaaGreatDoor
open Go.RowKit Go.ChangeMaps Go.MapKept

set_option maxRecDepth 100000 in
set_option maxHeartbeats 4000000 in
theorem doPick_any {w : World} {mp wp tb tc : Nat} {th : List Value} {cv : Value} {R Y B : Thing} {S : Nat → Prop} (hR : Framed R) (hY : Framed Y) (hB : Framed B) (h : Star (Star R (MachB mp wp tb tc 2 th cv)) Y w S)
    (hp : ∀ V, Below w.heap.size w V → Star (Star R (MachB mp wp tb tc 2 th cv)) Y V S → Calls Tryz.prog 20 #[ptrN mp, .int .i64 0] V fun e w' => DidE e ∧ Stp B S V w') :
    Calls Tryz.prog 6 #[ptrN mp, .agg #[.int .u8 1, .int .i64 0, .slice none 0 0]] w fun e w' => DidE e ∧ Stp B S w w' := by
  have HSF : Framed (Star (Star R (MachB mp wp tb tc 2 th cv)) Y) := (hR.star (framed_mach _ _ _ _ _ _ _)).star hY
  obtain ⟨q, hq⟩ : ∃ b, b = w.heap.size := ⟨_, rfl⟩
  obtain ⟨rb, hrb⟩ : ∃ b, b = w.heap.size + 1 := ⟨_, rfl⟩
  obtain ⟨w1, hw1⟩ : ∃ X, X = w.alloc (.cells #[.int .u8 1, .int .i64 0, .slice none 0 0] 25) := ⟨_, rfl⟩
  have hz1 : w1.heap.size = w.heap.size + 1 := by rw [hw1, size_at]
  obtain ⟨w2, hw2⟩ : ∃ X, X = w1.alloc (.cells #[.int .i64 0, .int .i64 0, .bool false, .int .u8 0, .int .u64 0, .string ⟨#[]⟩, .string ⟨#[]⟩, .int .u32 0, .int .u64 0, .int .i64 0, .int .i64 0] 46) := ⟨_, rfl⟩
  have hb1 : Below w.heap.size w w1 := by rw [hw1]; exact (Below.refl _ _).alloc (Nat.le_refl _) _
  have hb2 : Below w1.heap.size w1 w2 := by rw [hw2]; exact (Below.refl _ _).alloc (Nat.le_refl _) _
  have hq1 : w1.heap[q]? = some (.cells #[.int .u8 1, .int .i64 0, .slice none 0 0] 25 (0, 0)) := by rw [hw1, hq]; exact heap_mem w _
  have hq2 := boxAt hq1 hb2
  have hr2 : w2.heap[rb]? = some (.cells #[.int .i64 0, .int .i64 0, .bool false, .int .u8 0, .int .u64 0, .string ⟨#[]⟩, .string ⟨#[]⟩, .int .u32 0, .int .u64 0, .int .i64 0, .int .i64 0] 46 (0, 0)) := by rw [hw2, hrb, ← hz1]; exact heap_mem w1 _
  have hb : Below w.heap.size w w2 := hb1.trans (hb2.mono hb1.size)
  have k0 : w2.cell? ⟨q, 0, none⟩ = some (.int .u8 1) := (cellsAt hq2 0).1
  have k1 : w2.cell? ⟨q, 1, none⟩ = some (.int .i64 0) := (cellsAt hq2 1).1
  have hs2 := HSF.below h hb
  have HW := Lib.hid (show (w.alloc (.cells #[.int .u8 1, .int .i64 0, .slice none 0 0] 25)).alloc (.cells #[.int .i64 0, .int .i64 0, .bool false, .int .u8 0, .int .u64 0, .string ⟨#[]⟩, .string ⟨#[]⟩, .int .u32 0, .int .u64 0, .int .i64 0, .int .i64 0] 46) = w2 from by rw [hw2, hw1])
  have HQB := Lib.hid (And.intro hq (And.intro hrb hb))
  have HR2 := Lib.hid hr2
  have HN := Lib.hid (show ¬ S rb from fun e => by have := HSF.lt h e; omega)
  have hnil : ∀ (x : Option Addr) (W : World), (binOp .eql 27 (.pointer x) (.pointer none)).run Tryz.prog W = .ok (.bool x.isNone) W := mptr_nil
  have c1 := hs2.mach.c1
  have hbd : Below w.heap.size w w2.drew := low_drew1 hb
  have HP := Lib.hid (hp w2.drew hbd (Star.drew (hR.star (framed_mach _ _ _ _ _ _ _)) hY hs2))
  have HBF := Lib.hid hB
  have HB2 := Lib.hid hb
  clear h hp hs2 hb hb1 hb2 hbd hq1 hq2 hr2 hw1 hw2 hz1 hq hrb hR hY hB HSF
  go_enter Tryz.func6, Tryz.ntmps6
  go_upto_region 1 with fail
  rw [HW.out, ← HQB.out.2.1, ← HQB.out.1]
  clear HW
  go_upto_region 3 with fail
  refine wp_region_held_drew (S := fun V => V.cell? ⟨q, 0, none⟩ = some (.int .u8 1) ∧ V.cell? ⟨q, 1, none⟩ = some (.int .i64 0) ∧ V.cell? ⟨mp, 1, none⟩ = some (.slice (some ⟨tb, 0, none⟩) 2 tc)) (by kernel_rfl) ⟨k0, k1, c1⟩ (fun hHeld => ?_)
  refine tkz 0 rfl ?_
  try simp only [Act.put, tz]
  refine tkv 1 (v := ?_) rfl ?_ ?_
  rotate_left 1
  · ((intro w hSw; (try dsimp only at hSw); obtain ⟨c0, c1, c2⟩ := hSw; go_simp) <;> with_reducible rfl)
  try simp only [Act.put, tz]
  refine tkz 2 rfl ?_
  try simp only [Act.put, tz]
  refine tkz 3 rfl ?_
  try simp only [Act.put, tz]
  refine tkz 4 rfl ?_
  try simp only [Act.put, tz]
  refine tkv 5 (v := ?_) rfl ?_ ?_
  rotate_left 1
  · ((intro w hSw; (try dsimp only at hSw); obtain ⟨c0, c1, c2⟩ := hSw; go_simp) <;> with_reducible rfl)
  try simp only [Act.put, tz]
  refine tkz 6 rfl ?_
  try simp only [Act.put, tz]
  refine tkz 7 rfl ?_
  try simp only [Act.put, tz]
  refine tkz 8 rfl ?_
  try simp only [Act.put, tz]
  refine wpAnyH_done (by kernel_rfl) ?_ _
  clear hHeld
  obtain ⟨w3, hw3⟩ : ∃ X, X = w2.drew := ⟨_, rfl⟩
  rw [← hw3] at HP ⊢
  have k03 : w3.cell? ⟨q, 0, none⟩ = some (.int .u8 1) := by rw [hw3]; exact k0
  have HR3 := Lib.hid (show w3.heap[rb]? = some (.cells #[.int .i64 0, .int .i64 0, .bool false, .int .u8 0, .int .u64 0, .string ⟨#[]⟩, .string ⟨#[]⟩, .int .u32 0, .int .u64 0, .int .i64 0, .int .i64 0] 46 (0, 0)) ∧ Chg S w w3 from by rw [hw3]; exact ⟨HR2.out, (Chg.of_below HB2.out).drew⟩)
  clear hw3 k0 k1 c1 HR2 HB2
  go_upto_region 9 with fail
  go_wp2_with fail
  refine HP.out.mono ?_
  rintro e w4 ⟨⟨i, n, b, k, nm, rfl⟩, S4, hs4, hc4, hk4⟩
  have hr4 := hc4.obj HR3.out.1 HN.out
  have HR4 := Lib.hid hr4
  have HS4 := Lib.hid hs4
  have HC4 := Lib.hid (show Chg S w w4 ∧ (∀ k, S4 k → S k ∨ w.heap.size ≤ k) ∧ ¬ S4 rb from by
    have z := HR3.out.2.size
    have z2 := (Array.getElem?_eq_some_iff.1 HR3.out.1).1
    exact ⟨HR3.out.2.trans hc4, fun k hk => (hk4 k hk).imp (fun e => e) (fun e => by omega), fun e => (hk4 rb e).elim HN.out (fun e => by omega)⟩)
  clear hr4 hs4 hc4 hk4 HP HR3
  go_wp2_with (first
    | ((with_reducible show wpList _ _ _ (⟨none, Op.store _ _ _, _, _, _, _⟩ :: _) _ _); refine wpList_store_whole (by rfl) 46 (.tmp 4) (.tmp 52) (by rfl) rb (by rfl) #[.int .i64 i, .int .i64 n, .bool b, .int .u8 k, .int .u64 nm, .string ⟨#[]⟩, .string ⟨#[]⟩, .int .u32 0, .int .u64 0, .int .i64 0, .int .i64 0] (by rfl) _ 46 HR4.out (by rfl) (by kernel_rfl) (by simp [Value.oneCell']) ?_; intro w5 hr5 hg5 hz5)
    | ((with_reducible show bodyPost _ _ _ Exit.ret _ _); exact bodyPost_ret (results_cell_row (by exact Tryz.results6) _ _ rb _ _ _ _ (by rfl) hr5 Tryz.underlying46 rfl (by kernel_rfl)) rfl (by
        have hc5 : Chg (fun k => k = rb) w4 w5 := Chg.of_grown hg5 (fun _ _ e => (Option.some.inj e).symm)
        refine ⟨⟨_, _, _, _, _, rfl⟩, S4, keep_box HBF.out HS4.out hc5 HC4.out.2.2 (Tag.of HR4.out) (by decide), HC4.out.1.then hc5 (fun k hk e => ?_), HC4.out.2.1⟩
        have := HQB.out.2.1
        omega))
    | fail)
set_option maxRecDepth 100000 in
set_option maxHeartbeats 4000000 in
theorem doFeed_any {w : World} {mp wp tb tc c0 : Nat} {ba : Option Addr} {bn bc : Nat} {th : List Value} {cv : Value} {R Y B : Thing} {S : Nat → Prop} (hR : Framed R) (hY : Framed Y) (hB : Framed B) (h : Star (Star R (MachB mp wp tb tc 2 th cv)) Y w S) (hth : th[0]? = some (ptrN c0))
    (hBR : ∀ V S0, B V S0 → V.cell? ⟨tb, 0, none⟩ = some (ptrN c0) ∧ V.cell? ⟨mp, 1, none⟩ = some (.slice (some ⟨tb, 0, none⟩) 2 tc))
    (hp : ∀ V, Below w.heap.size w V → Star (Star R (MachB mp wp tb tc 2 th cv)) Y V S → Calls Tryz.prog 19 #[ptrN c0, .slice ba bn bc] V fun e w' => (∃ u, e = .returned u) ∧ Stp B S V w') :
    Calls Tryz.prog 6 #[ptrN mp, .agg #[.int .u8 0, .int .i64 0, .slice ba bn bc]] w fun e w' => e = .returned (didV 0 0 false 0 0) ∧ Stp B S w w' := by
  have HSF : Framed (Star (Star R (MachB mp wp tb tc 2 th cv)) Y) := (hR.star (framed_mach _ _ _ _ _ _ _)).star hY
  obtain ⟨q, hq⟩ : ∃ b, b = w.heap.size := ⟨_, rfl⟩
  obtain ⟨rb, hrb⟩ : ∃ b, b = w.heap.size + 1 := ⟨_, rfl⟩
  obtain ⟨w1, hw1⟩ : ∃ X, X = w.alloc (.cells #[.int .u8 0, .int .i64 0, .slice ba bn bc] 25) := ⟨_, rfl⟩
  have hz1 : w1.heap.size = w.heap.size + 1 := by rw [hw1, size_at]
  obtain ⟨w2, hw2⟩ : ∃ X, X = w1.alloc (.cells #[.int .i64 0, .int .i64 0, .bool false, .int .u8 0, .int .u64 0, .string ⟨#[]⟩, .string ⟨#[]⟩, .int .u32 0, .int .u64 0, .int .i64 0, .int .i64 0] 46) := ⟨_, rfl⟩
  have hb1 : Below w.heap.size w w1 := by rw [hw1]; exact (Below.refl _ _).alloc (Nat.le_refl _) _
  have hb2 : Below w1.heap.size w1 w2 := by rw [hw2]; exact (Below.refl _ _).alloc (Nat.le_refl _) _
  have hq1 : w1.heap[q]? = some (.cells #[.int .u8 0, .int .i64 0, .slice ba bn bc] 25 (0, 0)) := by rw [hw1, hq]; exact heap_mem w _
  have hq2 := boxAt hq1 hb2
  have hr2 : w2.heap[rb]? = some (.cells #[.int .i64 0, .int .i64 0, .bool false, .int .u8 0, .int .u64 0, .string ⟨#[]⟩, .string ⟨#[]⟩, .int .u32 0, .int .u64 0, .int .i64 0, .int .i64 0] 46 (0, 0)) := by rw [hw2, hrb, ← hz1]; exact heap_mem w1 _
  have hb : Below w.heap.size w w2 := hb1.trans (hb2.mono hb1.size)
  have k0 : w2.cell? ⟨q, 0, none⟩ = some (.int .u8 0) := (cellsAt hq2 0).1
  have k1 : w2.cell? ⟨q, 1, none⟩ = some (.int .i64 0) := (cellsAt hq2 1).1
  have hs2 := HSF.below h hb
  have HW := Lib.hid (show (w.alloc (.cells #[.int .u8 0, .int .i64 0, .slice ba bn bc] 25)).alloc (.cells #[.int .i64 0, .int .i64 0, .bool false, .int .u8 0, .int .u64 0, .string ⟨#[]⟩, .string ⟨#[]⟩, .int .u32 0, .int .u64 0, .int .i64 0, .int .i64 0] 46) = w2 from by rw [hw2, hw1])
  have HQB := Lib.hid (And.intro hq (And.intro hrb hb))
  have HR2 := Lib.hid hr2
  have HN := Lib.hid (show ¬ S rb from fun e => by have := HSF.lt h e; omega)
  have hnil : ∀ (x : Option Addr) (W : World), (binOp .eql 27 (.pointer x) (.pointer none)).run Tryz.prog W = .ok (.bool x.isNone) W := mptr_nil
  have c1 := hs2.mach.c1
  obtain ⟨w3, hw3⟩ : ∃ X, X = w2.drew := ⟨_, rfl⟩
  have hs3 := Star.drew (hR.star (framed_mach _ _ _ _ _ _ _)) hY hs2
  rw [← hw3] at hs3
  have c13 := hs3.mach.c1
  have t03 := (hs3.mach.th 0 (ptrN c0) hth).1
  have k03 : w3.cell? ⟨q, 0, none⟩ = some (.int .u8 0) := by rw [hw3]; exact k0
  have k23 : w3.cell? ⟨q, 2, none⟩ = some (.slice ba bn bc) := by rw [hw3]; exact (cellsAt hq2 2).1
  have hb3 : Below w.heap.size w w3 := by rw [hw3]; exact low_drew1 hb
  have HP := Lib.hid (hp w3.drew (low_drew1 hb3) (Star.drew (hR.star (framed_mach _ _ _ _ _ _ _)) hY hs3))
  have HBF := Lib.hid (And.intro hB hBR)
  have HB3 := Lib.hid hb3
  have HR3 := Lib.hid (show w3.heap[rb]? = some (.cells #[.int .i64 0, .int .i64 0, .bool false, .int .u8 0, .int .u64 0, .string ⟨#[]⟩, .string ⟨#[]⟩, .int .u32 0, .int .u64 0, .int .i64 0, .int .i64 0] 46 (0, 0)) ∧ Chg S w w3 ∧ w3.heap[q]? = some (.cells #[.int .u8 0, .int .i64 0, .slice ba bn bc] 25 (0, 0)) ∧ ¬ S q from by rw [hw3]; exact ⟨hr2, (Chg.of_below hb).drew, hq2, fun e => by have := HSF.lt h e; omega⟩)
  have HW3 := Lib.hid hw3
  have hix : ∀ W : World, (Instr.indexAt 29 (.slice (some ⟨tb, 0, none⟩) 2 tc) (.int .i64 0)).run Tryz.prog W = .ok (.pointer (some ⟨tb, 0, none⟩)) W := fun W => by
    have h := idx_thread (g := tb) (o := 0) (n := 2) (c := tc) (k := 0) (by omega) W
    simpa using h
  clear h hp hs2 hs3 hb hb1 hb2 hb3 hq1 hq2 hr2 hw1 hw2 hw3 hz1 hq hrb hR hY hB hBR hth HSF HR2
  go_enter Tryz.func6, Tryz.ntmps6
  go_upto_region 1 with fail
  rw [HW.out, ← HQB.out.2.1, ← HQB.out.1]
  clear HW
  go_upto_region 3 with fail
  refine wp_region_held_drew (S := fun V => V.cell? ⟨q, 0, none⟩ = some (.int .u8 0) ∧ V.cell? ⟨q, 1, none⟩ = some (.int .i64 0) ∧ V.cell? ⟨mp, 1, none⟩ = some (.slice (some ⟨tb, 0, none⟩) 2 tc)) (by kernel_rfl) ⟨k0, k1, c1⟩ (fun hHeld => ?_)
  refine tkz 0 rfl ?_
  try simp only [Act.put, tz]
  refine tkv 1 (v := ?_) rfl ?_ ?_
  rotate_left 1
  · ((intro w hSw; (try dsimp only at hSw); obtain ⟨c0, c1, c2⟩ := hSw; go_simp) <;> with_reducible rfl)
  try simp only [Act.put, tz]
  refine tkz 2 rfl ?_
  try simp only [Act.put, tz]
  refine tkz 3 rfl ?_
  try simp only [Act.put, tz]
  refine tkz 4 rfl ?_
  try simp only [Act.put, tz]
  refine tkv 5 (v := ?_) rfl ?_ ?_
  rotate_left 1
  · ((intro w hSw; (try dsimp only at hSw); obtain ⟨c0, c1, c2⟩ := hSw; go_simp) <;> with_reducible rfl)
  try simp only [Act.put, tz]
  refine tkz 6 rfl ?_
  try simp only [Act.put, tz]
  refine tkz 7 rfl ?_
  try simp only [Act.put, tz]
  refine tkz 8 rfl ?_
  try simp only [Act.put, tz]
  refine wpAnyH_done (by kernel_rfl) ?_ _
  clear hHeld
  rw [← HW3.out]
  clear HW3 k0 k1 c1
  go_upto_region 6 with fail
  refine wp_region_held_drew (S := fun V => V.cell? ⟨tb, 0, none⟩ = some (ptrN c0) ∧ V.cell? ⟨q, 2, none⟩ = some (.slice ba bn bc) ∧ V.cell? ⟨mp, 1, none⟩ = some (.slice (some ⟨tb, 0, none⟩) 2 tc)) (by kernel_rfl) ⟨t03, k23, c13⟩ (fun hHeld => ?_)
  refine tkz 0 rfl ?_
  try simp only [Act.put, tz]
  refine tkz 1 rfl ?_
  try simp only [Act.put, tz]
  refine tkz 2 rfl ?_
  try simp only [Act.put, tz]
  refine tkv 3 (v := ?_) rfl ?_ ?_
  rotate_left 1
  · ((intro w hSw; (try dsimp only at hSw); obtain ⟨c0, c1, c2⟩ := hSw; go_simp) <;> with_reducible rfl)
  try simp only [Act.put, tz]
  refine tkz 4 rfl ?_
  try simp only [Act.put, tz]
  refine tkz 5 rfl ?_
  try simp only [Act.put, tz]
  refine tkz 6 rfl ?_
  try simp only [Act.put, tz]
  refine tkv 7 (v := ?_) rfl ?_ ?_
  rotate_left 1
  · ((intro w hSw; (try dsimp only at hSw); obtain ⟨c0, c1, c2⟩ := hSw; go_simp) <;> with_reducible rfl)
  try simp only [Act.put, tz]
  refine tkz 8 rfl ?_
  try simp only [Act.put, tz]
  refine tkv 9 (v := ?_) rfl ?_ ?_
  rotate_left 1
  · ((intro w hSw; (try dsimp only at hSw); obtain ⟨c0, c1, c2⟩ := hSw; go_simp) <;> with_reducible rfl)
  try simp only [Act.put, tz]
  refine rdy 10 rfl (fun K hK => ?_)
  go_simp
  refine HP.out.mono ?_
  rintro e w4 ⟨⟨uu, rfl⟩, S4, hs4, hc4, hk4⟩
  have hr4 := hc4.obj (w := w3.drew) HR3.out.1 HN.out
  have hb4 := HBF.out.2 w4 S4 hs4
  refine hK.out _ _ ⟨hb4.1, (cellsAt (hc4.obj (w := w3.drew) HR3.out.2.2.1 HR3.out.2.2.2) 2).1, hb4.2⟩ (fun hHeld2 => ?_)
  clear hK K
  try simp only [Act.put, tz]
  refine wpAnyH_done (by kernel_rfl) ?_ _
  clear hHeld hHeld2
  have HR4 := Lib.hid hr4
  have HS4 := Lib.hid hs4
  have HC4 := Lib.hid (show Chg S w w4 ∧ (∀ k, S4 k → S k ∨ w.heap.size ≤ k) ∧ ¬ S4 rb from by
    have z := HR3.out.2.1.size
    have z2 := (Array.getElem?_eq_some_iff.1 HR3.out.1).1
    have z3 : w3.drew.heap.size = w3.heap.size := rfl
    exact ⟨HR3.out.2.1.drew.trans hc4, fun k hk => (hk4 k hk).imp (fun e => e) (fun e => by omega), fun e => (hk4 rb e).elim HN.out (fun e => by omega)⟩)
  clear hr4 hs4 hc4 hk4 hb4 HP HR3 t03 k03 k23 c13
  go_wp2_with (first
    | ((with_reducible show wpList _ _ _ (⟨none, Op.store _ _ _, _, _, _, _⟩ :: _) _ _); refine wpList_store_whole (by rfl) 46 (.tmp 4) (.tmp 47) (by rfl) rb (by rfl) #[.int .i64 0, .int .i64 0, .bool false, .int .u8 0, .int .u64 0, .string ⟨#[]⟩, .string ⟨#[]⟩, .int .u32 0, .int .u64 0, .int .i64 0, .int .i64 0] (by rfl) _ 46 HR4.out (by rfl) (by kernel_rfl) (by simp [Value.oneCell']) ?_; intro w5 hr5 hg5 hz5)
    | ((with_reducible show bodyPost _ _ _ Exit.ret _ _); exact bodyPost_ret (results_cell_row (by exact Tryz.results6) _ _ rb _ _ _ _ (by rfl) hr5 Tryz.underlying46 rfl (by kernel_rfl)) rfl (by
        have hc5 : Chg (fun k => k = rb) w4 w5 := Chg.of_grown hg5 (fun _ _ e => (Option.some.inj e).symm)
        refine ⟨rfl, S4, keep_box HBF.out.1 HS4.out hc5 HC4.out.2.2 (Tag.of HR4.out) (by decide), HC4.out.1.then hc5 (fun k hk e => ?_), HC4.out.2.1⟩
        have := HQB.out.2.1
        omega))
    | fail)

/-- What holds of a machine ahead of round n. -/
def RoundJ (w0 : World) (SN : Nat → Thing) (n : Nat) (V : World) : Prop := ∃ S, SN n V S ∧ EnvP w0.heap.size V ∧ (∀ k, S k → w0.heap.size ≤ k) ∧ Below w0.heap.size w0 V
theorem RoundJ.step {w0 : World} {SN : Nat → Thing} {n : Nat} {V W : World} {S : Nat → Prop} (hE : EnvP w0.heap.size V) (hl : ∀ k, S k → w0.heap.size ≤ k) (hb : Below w0.heap.size w0 V) (h : Stp (SN n) S V W) : RoundJ w0 SN n W := by
  obtain ⟨S', h1, h2, h3⟩ := h
  exact ⟨S', h1, hE.chg h2 hl, fun k hk => (h3 k hk).elim (hl k) (fun e => Nat.le_trans hb.size e), hb.trans (h2.below (fun k hk => ⟨Nat.lt_of_lt_of_le hk hb.size, fun e => by have := hl k e; omega⟩))⟩
theorem RoundJ.below {w0 : World} {SN : Nat → Thing} {n : Nat} {V W : World} (hF : Framed (SN n)) (h : RoundJ w0 SN n V) (hb : Below V.heap.size V W) : RoundJ w0 SN n W := by
  obtain ⟨S, h1, h2, h3, h4⟩ := h
  exact RoundJ.step h2 h3 h4 (Stp.of_below hF h1 hb)
structure Rounds (w0 : World) (mp : Nat) (SN : Nat → Thing) : Prop where
  framed : ∀ n, Framed (SN n)
  conns : ∀ n V, n ≤ 18 → RoundJ w0 SN n V → Calls Tryz.prog 8 #[ptrN mp] V fun e w' => e = .returned (.int .i64 2) ∧ V = w'
  may0 : ∀ n V, n ≤ 18 → RoundJ w0 SN n V → Calls Tryz.prog 11 #[ptrN mp, .int .i64 0] V fun e w' => e = .returned (.bool (decide (n < 18))) ∧ Below V.heap.size V w'
  may1 : ∀ n V, n ≤ 18 → RoundJ w0 SN n V → Calls Tryz.prog 11 #[ptrN mp, .int .i64 1] V fun e w' => e = .returned (.bool false) ∧ Below V.heap.size V w'
  do0 : ∀ n V, n < 18 → RoundJ w0 SN n V → Calls Tryz.prog 6 #[ptrN mp, .agg #[.int .u8 1, .int .i64 0, .slice none 0 0]] V fun e w' => DidE e ∧ RoundJ w0 SN (n + 1) w'
/-- Inside of a round. -/
def InRound (w0 : World) (SN : Nat → Thing) (k i : Nat) (b : Bool) (V : World) : Prop := i = 0 ∧ b = false ∧ RoundJ w0 SN k V ∨ 1 ≤ i ∧ i ≤ 2 ∧ (k < 18 ∧ b = true ∧ RoundJ w0 SN (k + 1) V ∨ k = 18 ∧ b = false ∧ RoundJ w0 SN 18 V)
set_option maxRecDepth 100000 in
set_option maxHeartbeats 4000000 in
theorem finish_any {w0 w : World} {mp : Nat} {SN : Nat → Thing} (hR : Rounds w0 mp SN) (h : RoundJ w0 SN 0 w) : Calls Tryz.prog 13 #[ptrN mp] w fun e w' => e = .returned (.bool true) ∧ RoundJ w0 SN 18 w' := by
  have HR := Lib.hid hR
  have H := Lib.hid h
  have qb : ∀ W : World, (Instr.build 25 #[(0, .int .u8 1), (1, .int .i64 0)]).run Tryz.prog W = .ok (.agg #[.int .u8 1, .int .i64 0, .slice none 0 0]) W := fun W => by kernel_rfl
  clear hR h
  go_enter Tryz.func13, Tryz.ntmps13
  go_upto_region 2 with fail
  go_loopw [3] (fun s3 wr => ∃ (k : Nat) (z : Int), s3 = .int .i64 z ∧ Hid (z = (k : Int) ∧ k ≤ 18) ∧ Hid (RoundJ w0 SN k wr)) (fun s3 _ => 19 - (intOf s3).toNat)
  case atStart => exact ⟨0, 0, rfl, Lib.hid ⟨rfl, by omega⟩, H⟩
  case round =>
    obtain ⟨k, z, rfl, HK, HJ⟩ := hrel
    have hk2 : decide (z < 200000) = true := decide_eq_true (by have := HK.out; omega)
    clear H
    go_upto_region 6 with fail
    go_loopw [4, 5] (fun s4 s5 wr => ∃ (i : Nat) (b : Bool), s5 = .int .i64 (i : Int) ∧ s4 = .bool b ∧ Hid (InRound w0 SN k i b wr)) (fun _ s5 _ => 3 - (intOf s5).toNat)
    case atStart => exact ⟨0, false, rfl, rfl, Lib.hid (.inl ⟨rfl, rfl, HJ.out⟩)⟩
    case round =>
      obtain ⟨i, b, rfl, rfl, HI⟩ := hrel
      rcases HI.out with ⟨rfl, rfl, hj⟩ | ⟨h1, h2, hj⟩
      · have HCN := Lib.hid (HR.out.conns k wr HK.out.2 hj)
        have HMY := Lib.hid (HR.out.may0 k wr HK.out.2 hj)
        have HJ2 := Lib.hid hj
        clear hj HI
        go_wp2_with fail
        refine HCN.out.mono ?_
        rintro e V ⟨rfl, rfl⟩
        clear HCN
        go_wp2_with fail
        refine HMY.out.mono ?_
        rintro e V ⟨rfl, hb⟩
        have hj := HJ2.out.below (HR.out.framed k) hb
        by_cases hlt : k < 18
        · rw [decide_eq_true hlt]
          have HD := Lib.hid (HR.out.do0 k V hlt hj)
          have HLT := Lib.hid hlt
          clear hj hb HMY HJ2 hlt
          go_wp2_with fail
          refine HD.out.mono ?_
          rintro e V2 ⟨⟨i, n, b, kk, nm, rfl⟩, hj⟩
          have HJ3 := Lib.hid hj
          clear hj HD
          go_wp2_with fail
          go_roundw
          case rel => exact ⟨1, true, by go_num, rfl, Lib.hid (.inr ⟨by omega, by omega, .inl ⟨HLT.out, rfl, HJ3.out⟩⟩)⟩
          case measure => simp [intOf]
        · rw [decide_eq_false hlt]
          obtain rfl : k = 18 := by have := HK.out.2; omega
          have HJ3 := Lib.hid hj
          clear hj hb HMY HJ2 hlt
          go_wp2_with fail
          go_roundw
          case rel => exact ⟨1, false, by go_num, rfl, Lib.hid (.inr ⟨by omega, by omega, .inr ⟨rfl, rfl, HJ3.out⟩⟩)⟩
          case measure => simp [intOf]
      · clear HI
        obtain ⟨k', hk', hj', hbk⟩ : ∃ k', k' ≤ 18 ∧ RoundJ w0 SN k' wr ∧ (k < 18 ∧ b = true ∧ k' = k + 1 ∨ k = 18 ∧ b = false ∧ k' = 18) := by
          rcases hj with ⟨a1, a2, a3⟩ | ⟨a1, a2, a3⟩
          · exact ⟨k + 1, by omega, a3, .inl ⟨a1, a2, rfl⟩⟩
          · exact ⟨18, by omega, a3, .inr ⟨a1, a2, rfl⟩⟩
        have HCN := Lib.hid (HR.out.conns k' wr hk' hj')
        have HMY := Lib.hid (HR.out.may1 k' wr hk' hj')
        have HJ2 := Lib.hid hj'
        have HBK := Lib.hid hbk
        have HK' := Lib.hid hk'
        clear hj hj' hbk hk'
        rcases (by omega : i = 1 ∨ i = 2) with rfl | rfl
        · clear h1 h2
          go_wp2_with fail
          refine HCN.out.mono ?_
          rintro e V ⟨rfl, rfl⟩
          clear HCN
          go_wp2_with fail
          refine HMY.out.mono ?_
          rintro e V ⟨rfl, hb⟩
          have HJ3 := Lib.hid (HJ2.out.below (HR.out.framed k') hb)
          clear hb HMY HJ2
          go_wp2_with fail
          go_roundw
          case rel => exact ⟨2, b, by go_num, rfl, Lib.hid (.inr ⟨by omega, by omega, by
            have hj := HJ3.out
            rcases HBK.out with ⟨a1, a2, a3⟩ | ⟨a1, a2, a3⟩
            · rw [a3] at hj
              exact .inl ⟨a1, a2, hj⟩
            · rw [a3] at hj
              exact .inr ⟨a1, a2, hj⟩⟩)⟩
          case measure => simp [intOf]
        · clear h1 h2 HMY
          rcases HBK.out with ⟨a1, rfl, rfl⟩ | ⟨rfl, rfl, rfl⟩
          · have hz : IntKind.i64.wrap (z + 1) = z + 1 := IntWalk.i64_in _ (by have := HK.out; omega)
            have HA := Lib.hid a1
            clear a1 HBK HK'
            go_wp2_with fail
            refine HCN.out.mono ?_
            rintro e V ⟨rfl, rfl⟩
            clear HCN
            go_wp2_with fail
            go_roundw
            case rel => exact ⟨k + 1, z + 1, by go_num, Lib.hid ⟨by have := HK.out.1; omega, by have := HA.out; omega⟩, HJ2⟩
            case measure => have h1 := HK.out; have h2 := HA.out; simp [intOf]; omega
          · clear HBK HK'
            go_wp2_with fail
            refine HCN.out.mono ?_
            rintro e V ⟨rfl, rfl⟩
            clear HCN
            go_wp2_with fail
            go_ret
            exact ⟨rfl, HJ2.out⟩

def setLine : List UInt8 := [115, 101, 116, 32, 97, 32, 48, 32, 48, 32, 49, 13, 10, 120, 13, 10]
def ansS : AnsD := ⟨1, 1, ⟨⟨#[]⟩, ⟨#[]⟩, 0, 0, 0, 0⟩⟩
def mcA : ConnM := inM cNew setLine
def mcB : ConnM := tookM mcA
def mcC : ConnM := afterM mcB ansS
theorem mfA : FitM 16 4000 mcA := ((fit_new 0).in setLine).1.mono (by decide) (by decide)
theorem mfB : FitM 16 4000 mcB := mfA.took
theorem ansS_ok : ansS.Ok := ⟨by decide, by decide, ⟨by decide, by decide, by decide, by decide⟩⟩
theorem mfC : FitM 16 2400000 mcC := (mfB.after ansS_ok (by decide)).1.mono (by decide) (by decide)
abbrev callL : List Value := [.int .u8 3, sv sm0.key, sv sm0.value, .int .u32 (sm0.flags : Int), .int .i64 sm0.exp, .int .u64 (sm0.id : Int), .int .u64 (sm0.by' : Int)]
abbrev calledL : List Value := [.int .i64 0, .int .u8 3, sv sm0.key, sv sm0.value, .int .u32 (sm0.flags : Int), .int .i64 sm0.exp, .int .u64 (sm0.id : Int), .int .u64 (sm0.by' : Int), .int .i64 ((0 : Nat) : Int), .int .i64 ((17 + 1 : Nat) : Int), .int .u8 1, .int .u64 1, .string ⟨#[]⟩, .string ⟨#[]⟩, .int .u32 0, .int .u64 0, .int .i64 0, .int .i64 0, .int .u64 0, .int .i64 11]
section
variable (X : Thing) (n₀ mp wp tb tc c0 c1 : Nat)
def SA : Thing := Star (Star (Star (Star X (ConnT n₀ c1 cNew)) (ConnT n₀ c0 mcA)) (MachB mp wp tb tc 2 (thCells c0 call7 .nilIface 0 ++ thCells0 c1) (.slice none 0 0))) (WorldIs wp lw0)
def SB (n x : Nat) : Thing := Star (Star (Star (Star X (ConnT n₀ c1 cNew)) (ConnT n₀ c0 mcB)) (MachB mp wp tb tc 2 (thCells c0 callL (.iface 151 (ptrN x)) (0 : Nat) ++ thCells0 c1) (.slice none 0 0))) (LP wp x n)
def SC (x : Nat) (cv : Value) : Thing := Star (Star (Star (Star X (ConnT n₀ c1 cNew)) (ConnT n₀ c0 mcC)) (MachB mp wp tb tc 2 (thCells c0 callL .nilIface (0 : Nat) ++ thCells0 c1) cv)) (Star (LP18 wp x) (DoneRow cv 1 calledL))
def SN (n : Nat) : Thing := if n = 0 then SA X n₀ mp wp tb tc c0 c1 else if n < 18 then fun V S => ∃ x, SB X n₀ mp wp tb tc c0 c1 n x V S else fun V S => ∃ q : Nat × Value, SC X n₀ mp wp tb tc c0 c1 q.1 q.2 V S
end
theorem framed_LP (p x n : Nat) : Framed (LP p x n) := by
  rcases n with _ | _ | _ | _ | _ | _ | _ | _ | _ | _ | _ | _ | _ | _ | _ | _ | _ | _ | n
  · exact framed_LP0
  · exact framed_LP1
  · exact framed_LP2
  · exact framed_LP3
  · exact framed_LP4
  · exact framed_LP5
  · exact framed_LP6
  · exact framed_LP7
  · exact framed_LP8
  · exact framed_LP9
  · exact framed_LP10
  · exact framed_LP11
  · exact framed_LP12
  · exact framed_LP13
  · exact framed_LP14
  · exact framed_LP15
  · exact framed_LP16
  · exact framed_LP17
  · exact framed_LP18
theorem count_LP (p x n : Nat) (h : n ≤ 18) : CountIs p n (LP p x n) := by
  rcases n with _ | _ | _ | _ | _ | _ | _ | _ | _ | _ | _ | _ | _ | _ | _ | _ | _ | _ | _ | n
  · exact count_LP0
  · exact count_LP1
  · exact count_LP2
  · exact count_LP3
  · exact count_LP4
  · exact count_LP5
  · exact count_LP6
  · exact count_LP7
  · exact count_LP8
  · exact count_LP9
  · exact count_LP10
  · exact count_LP11
  · exact count_LP12
  · exact count_LP13
  · exact count_LP14
  · exact count_LP15
  · exact count_LP16
  · exact count_LP17
  · exact count_LP18
  · omega
section
variable {X : Thing} {n₀ mp wp tb tc c0 c1 : Nat}
theorem framed_R (hX : Framed X) (m : ConnM) : Framed (Star (Star X (ConnT n₀ c1 cNew)) (ConnT n₀ c0 m)) := (hX.star (framed_connT _ _ _)).star (framed_connT _ _ _)
theorem framed_SA (hX : Framed X) : Framed (SA X n₀ mp wp tb tc c0 c1) := ((framed_R hX _).star (framed_mach _ _ _ _ _ _ _)).star (framed_worldIs _ _)
theorem framed_SB (hX : Framed X) (n x : Nat) : Framed (SB X n₀ mp wp tb tc c0 c1 n x) := ((framed_R hX _).star (framed_mach _ _ _ _ _ _ _)).star (framed_LP _ _ _)
theorem framed_SC (hX : Framed X) (x : Nat) (cv : Value) : Framed (SC X n₀ mp wp tb tc c0 c1 x cv) := ((framed_R hX _).star (framed_mach _ _ _ _ _ _ _)).star (framed_LP18.star (framed_done _ _ _))
theorem SNm {n : Nat} (h1 : 1 ≤ n) (h2 : n < 18) : SN X n₀ mp wp tb tc c0 c1 n = fun V S => ∃ x, SB X n₀ mp wp tb tc c0 c1 n x V S := by
  unfold SN
  rw [if_neg (by omega), if_pos h2]
theorem framed_SN (hX : Framed X) (n : Nat) : Framed (SN X n₀ mp wp tb tc c0 c1 n) := by
  unfold SN
  split
  · exact framed_SA hX
  · split
    · exact Framed.ex fun x => framed_SB hX n x
    · exact Framed.ex fun q => framed_SC hX q.1 q.2
theorem SN_cases {n : Nat} (hn : n ≤ 18) {V : World} {S : Nat → Prop} (h : SN X n₀ mp wp tb tc c0 c1 n V S) : n = 0 ∧ SA X n₀ mp wp tb tc c0 c1 V S ∨ (1 ≤ n ∧ n < 18 ∧ ∃ x, SB X n₀ mp wp tb tc c0 c1 n x V S) ∨ n = 18 ∧ ∃ x cv, SC X n₀ mp wp tb tc c0 c1 x cv V S := by
  by_cases h0 : n = 0
  · subst h0
    exact .inl ⟨rfl, h⟩
  · by_cases h1 : n < 18
    · rw [SNm (by omega) h1] at h
      exact .inr (.inl ⟨by omega, h1, h⟩)
    · obtain rfl : n = 18 := by omega
      obtain ⟨q, h⟩ := h
      exact .inr (.inr ⟨rfl, q.1, q.2, h⟩)
/-- The reads of a machine in a round: its first two cells, and both threads' connections. -/
theorem SN_mach {n : Nat} (hn : n ≤ 18) {V : World} {S : Nat → Prop} (h : SN X n₀ mp wp tb tc c0 c1 n V S) : ∃ th cv, MachR V mp wp tb tc 2 th cv ∧ th[0]? = some (ptrN c0) ∧ th[10]? = some (ptrN c1) ∧ th[18]? = some .nilIface := by
  rcases SN_cases hn h with ⟨-, h⟩ | ⟨-, -, x, h⟩ | ⟨-, x, cv, h⟩
  · exact ⟨_, _, Star.mach h, rfl, rfl, rfl⟩
  · exact ⟨_, _, Star.mach h, rfl, rfl, rfl⟩
  · exact ⟨_, _, Star.mach h, rfl, rfl, rfl⟩
theorem SN_c1 {n : Nat} (hn : n ≤ 18) {V : World} {S : Nat → Prop} (h : SN X n₀ mp wp tb tc c0 c1 n V S) : ∃ S1, ConnIs n₀ V c1 cNew S1 := by
  rcases SN_cases hn h with ⟨-, h⟩ | ⟨-, -, x, h⟩ | ⟨-, x, cv, h⟩ <;> (obtain ⟨T1, T2, ⟨T3, T4, ⟨T5, T6, ⟨T7, T8, -, a1, -⟩, -⟩, -⟩, -⟩ := h; exact ⟨T8, a1⟩)
theorem rounds_any (hX : Framed X) (w0 : World) : Rounds w0 mp (SN X w0.heap.size mp wp tb tc c0 c1) where
  framed := framed_SN hX
  conns := by
    rintro n V hn ⟨S, h, -⟩
    obtain ⟨th, cv, hr, -⟩ := SN_mach hn h
    exact mConns_any hr
  may0 := by
    rintro n V hn ⟨S, h, -⟩
    rcases SN_cases hn h with ⟨rfl, h⟩ | ⟨h1, h2, x, h⟩ | ⟨rfl, x, cv, h⟩
    · have hc : ∃ S1, ConnIs w0.heap.size V c0 mcA S1 := by
        obtain ⟨T1, T2, ⟨T3, T4, ⟨T5, T6, -, a2, -⟩, -⟩, -⟩ := h
        exact ⟨T6, a2⟩
      obtain ⟨S1, hc⟩ := hc
      have hm := mMay_conn (k := 0) (c := c0) (Star.mach h) (by omega) rfl rfl (left_is32 hc mfA (by omega))
      rw [show decide (0 < leftM mcA) = true from by kernel_rfl] at hm
      exact hm
    · rw [decide_eq_true h2]
      refine (mMay_do (k := 0) (t := 151) (o := x) (Star.mach h) (by omega) rfl).mono ?_
      rintro e w' ⟨rfl, rfl⟩
      exact ⟨rfl, Below.refl _ _⟩
    · have hc : ∃ S1, ConnIs w0.heap.size V c0 mcC S1 := by
        obtain ⟨T1, T2, ⟨T3, T4, ⟨T5, T6, -, a2, -⟩, -⟩, -⟩ := h
        exact ⟨T6, a2⟩
      obtain ⟨S1, hc⟩ := hc
      have hm := mMay_conn (k := 0) (c := c0) (Star.mach h) (by omega) rfl rfl (left_is32 hc mfC (by omega))
      rw [show decide (0 < leftM mcC) = false from by kernel_rfl] at hm
      exact hm
  may1 := by
    rintro n V hn ⟨S, h, -⟩
    obtain ⟨th, cv, hr, -, h1, h2⟩ := SN_mach hn h
    obtain ⟨S1, hc⟩ := SN_c1 hn h
    have hm := mMay_conn (k := 1) (c := c1) hr (by omega) h1 h2 (left_is32 hc (fit_new 0) (by omega))
    rw [show decide (0 < leftM cNew) = false from by kernel_rfl] at hm
    exact hm
  do0 := by
    rintro n V hn ⟨S, h, hE, hl, hb⟩
    have hlow := hb.size
    rcases SN_cases (by omega) h with ⟨rfl, h⟩ | ⟨h1, h2, x, h⟩ | ⟨rfl, -⟩
    · refine (doPick_any (B := SN X w0.heap.size mp wp tb tc c0 c1 1) (framed_R hX _) (framed_worldIs _ _) (framed_SN hX 1) h (fun W hbW hW => ?_)).mono ?_
      · refine (pickFirst_any (n := 0) (m := sm0) (W := lw0) (Y1 := fun x => LP1 wp x) (by kernel_rfl) (by kernel_rfl) (by decide) (by decide) (by kernel_rfl) (by kernel_rfl) (hX.star (framed_connT _ _ _)) (fun _ => framed_LP1) mfA.good (by kernel_rfl) (by kernel_rfl) rfl hW (fun x => ?_) (fun x => count_LP1)).mono ?_
        · exact lstep0.wk (fun V S ⟨T1, T2, a1, ⟨q, T3, T4, ⟨T5, T6, b1, b2, b3, b4⟩, d2, d3, d4⟩, a3, a4⟩ => ⟨S, ⟨q, Star.fst_mono (Star.assoc' ⟨T1, T2, a1, ⟨T3, T4, ⟨T5, T6, b1, b2, b3, b4⟩, d2, d3, d4⟩, a3, a4⟩) (fun _ h => Star.assoc' h)⟩, fun _ e => e⟩) (Wk.refl _)
        · rintro e w' ⟨he, hst⟩
          exact ⟨he, hst⟩
      · rintro e w' ⟨he, hst⟩
        exact ⟨he, RoundJ.step hE hl hb hst⟩
    · by_cases h17 : n = 17
      · subst h17
        refine (doPick_any (B := SN X w0.heap.size mp wp tb tc c0 c1 18) (framed_R hX _) (framed_LP _ _ _) (framed_SN hX 18) h (fun W hbW hW => ?_)).mono ?_
        · refine (pickLast_any (n := 17) (f := 0) (kd := 1) (nm := 1) (ep := 0) (pt := 11) (m := sm0) (cm := mcB) (hX.star (framed_connT _ _ _)) (framed_LP _ _ _) framed_LP18 hW (lsteps 17 (by omega)) (count_LP _ _ 17 (by omega)) count_LP18 got_LP18 (hE.chg (Chg.of_below (M := fun _ => False) hbW) (fun _ e => e.elim)) (Nat.le_trans hlow hbW.size) hl mfB (by omega) (by omega) ansS_ok).mono ?_
          rintro e w' ⟨he, hst⟩
          exact ⟨he, hst.mono (fun S' ⟨cv, h⟩ => ⟨(x, cv), h⟩)⟩
        · rintro e w' ⟨he, hst⟩
          exact ⟨he, RoundJ.step hE hl hb hst⟩
      · refine (doPick_any (B := SB X w0.heap.size mp wp tb tc c0 c1 (n + 1) x) (framed_R hX _) (framed_LP _ _ _) (framed_SB hX (n + 1) x) h (fun W hbW hW => ?_)).mono ?_
        · have hs := lsteps (p := wp) (x := x) n (by omega)
          rw [decide_eq_false h17] at hs
          exact pickMid_any rfl (framed_R hX _) (framed_LP _ _ _) (framed_LP _ _ _) hW hs (count_LP _ _ _ (by omega)) (count_LP _ _ _ (by omega))
        · rintro e w' ⟨he, hst⟩
          refine ⟨he, RoundJ.step hE hl hb (hst.mono (fun S' h => ?_))⟩
          rw [SNm (by omega) (by omega)]
          exact ⟨x, h⟩
    · omega
end
open Go.RowKit Go.ChangeMaps Go.MapKept

theorem clipNote_any {a : Option Addr} {n c : Nat} (w : World) (h : n ≤ c) (_hc : c ≤ maxLen) (ha : a = none → c = 0) : Calls Tryz.prog 81 #[.slice a n c] w fun e w' => e = .returned (.slice a n n) ∧ w = w' := by
  unfold maxLen at _hc
  cases a with
  | none =>
    obtain rfl := ha rfl
    obtain rfl : n = 0 := by omega
    clear ha h _hc
    go_enter Tryz.func81, Tryz.ntmps81
    go_wp2_with fail
    go_ret
    exact ⟨rfl, rfl⟩
  | some a =>
    clear ha
    go_enter Tryz.func81, Tryz.ntmps81
    go_wp2_with fail
    go_ret
    exact ⟨rfl, rfl⟩
theorem clipDrop_any {a : Option Addr} {n c : Nat} (w : World) (h : n ≤ c) (_hc : c ≤ maxLen) (ha : a = none → c = 0) : Calls Tryz.prog 32 #[.slice a n c] w fun e w' => e = .returned (.slice a n n) ∧ w = w' := by
  unfold maxLen at _hc
  cases a with
  | none =>
    obtain rfl := ha rfl
    obtain rfl : n = 0 := by omega
    clear ha h _hc
    go_enter Tryz.func32, Tryz.ntmps32
    go_wp2_with fail
    go_ret
    exact ⟨rfl, rfl⟩
  | some a =>
    clear ha
    go_enter Tryz.func32, Tryz.ntmps32
    go_wp2_with fail
    go_ret
    exact ⟨rfl, rfl⟩
theorem clipCalled_any {a : Option Addr} {n c : Nat} (w : World) (h : n ≤ c) (_hc : c ≤ maxLen) (ha : a = none → c = 0) : Calls Tryz.prog 16 #[.slice a n c] w fun e w' => e = .returned (.slice a n n) ∧ w = w' := by
  unfold maxLen at _hc
  cases a with
  | none =>
    obtain rfl := ha rfl
    obtain rfl : n = 0 := by omega
    clear ha h _hc
    go_enter Tryz.func16, Tryz.ntmps16
    go_wp2_with fail
    go_ret
    exact ⟨rfl, rfl⟩
  | some a =>
    clear ha
    go_enter Tryz.func16, Tryz.ntmps16
    go_wp2_with fail
    go_ret
    exact ⟨rfl, rfl⟩

theorem lptr_nil (x : Option Addr) (W : World) : (binOp .eql 97 (.pointer x) (.pointer none)).run Tryz.prog W = .ok (.bool x.isNone) W := by cases x <;> kernel_rfl
theorem notesNotes_any {w : World} {p c : Nat} {a : Option Addr} (h : w.cell? ⟨p, 0, none⟩ = some (.slice a 0 c)) : Calls Tryz.prog 80 #[ptrN p] w fun e w' => e = .returned (.slice a 0 c) ∧ w = w' := by
  have q := lptr_nil
  go_enter Tryz.func80, Tryz.ntmps80
  go_wp2_with fail
  go_ret
  exact ⟨rfl, rfl⟩
set_option maxRecDepth 100000 in
theorem notesPicked_none {w : World} {p c : Nat} {a : Option Addr} {fn : Value} (h : w.cell? ⟨p, 0, none⟩ = some (.slice a 0 c)) : Calls Tryz.prog 49 #[ptrN p, fn] w fun e w' => e = .returned (.slice none 0 0) ∧ w = w' := by
  have HN := Lib.hid (notesNotes_any h)
  have HC := Lib.hid (clipNote_any (a := none) (n := 0) (c := 0) w (Nat.le_refl _) (Nat.zero_le _) (fun _ => rfl))
  clear h
  go_enter Tryz.func49, Tryz.ntmps49
  go_upto_region 3 with (first
    | (go_at_call 80; refine HN.out.mono ?_; rintro e w' ⟨rfl, rfl⟩)
    | fail)
  go_loopw [5, 11] (fun s5 s11 wr => s5 = .slice none 0 0 ∧ s11 = .int .i64 0 ∧ wr = w) (fun _ _ _ => 0)
  case atStart => exact ⟨rfl, rfl, rfl⟩
  case round =>
    obtain ⟨rfl, rfl, rfl⟩ := hrel
    go_wp2_with fail
    refine HC.out.mono ?_
    rintro e w' ⟨rfl, rfl⟩
    go_wp2_with fail
    go_ret
    exact ⟨rfl, rfl⟩
theorem notesOf_none {w : World} {p c : Nat} {a : Option Addr} {k : Int} (h : w.cell? ⟨p, 0, none⟩ = some (.slice a 0 c)) : Calls Tryz.prog 30 #[ptrN p, .int .u8 k] w fun e w' => e = .returned (.slice none 0 0) ∧ Below w.heap.size w w' := by
  obtain ⟨w1, hw1⟩ : ∃ X, X = w.alloc (.cells #[.int .u8 k] 102) := ⟨_, rfl⟩
  have hb : Below w.heap.size w w1 := by rw [hw1]; exact (Below.refl _ _).alloc (Nat.le_refl _) _
  have h1 : w1.cell? ⟨p, 0, none⟩ = some (.slice a 0 c) := (hb.cell (p := ⟨p, 0, none⟩) (cell_lt h)).trans h
  have HP := Lib.hid (fun fn : Value => notesPicked_none (fn := fn) h1)
  have HB := Lib.hid hb
  have hmf : ∀ (fn : Fn) (first cap : Array Value) (w : World), (Instr.makeFunc fn first cap).run Tryz.prog w = .ok (.func fn first cap) w := fun _ _ _ _ => rfl
  clear h h1 hb
  go_enter Tryz.func30, Tryz.ntmps30
  go_upto_region 1 with fail
  rw [← hw1]
  clear hw1
  go_wp2_with fail
  refine (HP.out _).mono ?_
  rintro e w2 ⟨rfl, rfl⟩
  go_wp2_with fail
  go_ret
  exact ⟨rfl, HB.out⟩
theorem Star.notesW {p : Nat} {W : WorldM} {w : World} {S : Nat → Prop} (h : WorldIs p W w S) (hn : W.notes = []) : ∃ pn a c, w.cell? ⟨p, 2, none⟩ = some (ptrN pn) ∧ w.cell? ⟨pn, 0, none⟩ = some (.slice a 0 c) := by
  obtain ⟨pc, pi, pn, ha⟩ := h.at
  obtain ⟨S0, S1, h0, ⟨S2, S3, h2, ⟨S4, S5, h4, ⟨v, b1, b2, b3⟩, -⟩, -⟩, -⟩ := ha
  rw [hn] at b2
  obtain ⟨a, c, rfl⟩ := (Row.of_owns b2).len
  exact ⟨pn, a, c, (Blk.cell h0 (world_get2 pc pi pn W)).1, (cellsAt b1 0).1⟩
theorem wptr_nil (x : Option Addr) (W : World) : (binOp .eql 28 (.pointer x) (.pointer none)).run Tryz.prog W = .ok (.bool x.isNone) W := by cases x <;> kernel_rfl
set_option maxRecDepth 100000 in
theorem drops_none {w : World} {p : Nat} {W : WorldM} {S : Nat → Prop} (h : WorldIs p W w S) (hn : W.notes = []) : Calls Tryz.prog 18 #[ptrN p] w fun e w' => e = .returned (.slice none 0 0) ∧ Below w.heap.size w w' := by
  obtain ⟨pn, a, c, c2, n0⟩ := Star.notesW h hn
  have HO := Lib.hid (notesOf_none (k := 1) n0)
  have q := wptr_nil
  clear h hn n0
  go_enter Tryz.func18, Tryz.ntmps18
  go_upto_region 5 with (first
    | (go_at_call 30; refine HO.out.mono ?_; rintro e w1 ⟨rfl, hb⟩)
    | fail)
  have HC := Lib.hid (clipDrop_any (a := none) (n := 0) (c := 0) w1 (Nat.le_refl _) (Nat.zero_le _) (fun _ => rfl))
  have HB := Lib.hid hb
  clear hb HO
  go_loopw [3, 16] (fun s3 s16 wr => s3 = .slice none 0 0 ∧ s16 = .int .i64 0 ∧ wr = w1) (fun _ _ _ => 0)
  case atStart => exact ⟨rfl, rfl, rfl⟩
  case round =>
    obtain ⟨rfl, rfl, rfl⟩ := hrel
    go_wp2_with fail
    refine HC.out.mono ?_
    rintro e w' ⟨rfl, rfl⟩
    go_wp2_with fail
    go_ret
    exact ⟨rfl, HB.out⟩
theorem calledSlice (g n c : Nat) (W : World) : (binOp .eql 30 (.slice (some ⟨g, 0, none⟩) n c) (.slice none 0 0)).run Tryz.prog W = .ok (.bool false) W := by kernel_rfl
set_option maxRecDepth 100000 in
theorem app_clone {w : World} {g c : Nat} {cs : List Value} (hl : cs.length = 20) (h1 : ∀ u ∈ cs, u.oneCell' = true) (hc : ∀ j u, cs[j]? = some u → w.cell? ⟨g, j, none⟩ = some u) {q : Nat} (hq : w.heap[q]? = some (.cells #[] 71 (0, 0))) :
    ∃ v' W, (Builtin.append_ #[30, 30] 30 #[.slice (some ⟨q, 0, none⟩) 0 0, .slice (some ⟨g, 0, none⟩) 1 c]).run Tryz.prog w = .ok v' W ∧ W.ownsRow q 71 20 v' 1 cs ∧ w.grownBy W (some q) := by
  obtain ⟨i0, hi0, hz0, hz1, hz2⟩ := infoP_parts infoCalledM
  have hnews : ∀ j u, cs[j]? = some u → w.cell? (Addr.add ⟨g, 0, none⟩ j) = some u := by
    intro j u hj
    have := hc j u hj
    by_cases h0 : j = 0
    · subst h0
      exact this
    · simpa [Addr.add, h0] using this
  obtain ⟨v', w', hr, h2, h3, h4, h5⟩ := run_append_own_at (P := Tryz.prog) w q 30 30 71 i0 _ 20 192 Tryz.underlying30 hi0 hz0 hz1 hz2 (by rfl) (by omega) (.slice (some ⟨q, 0, none⟩) 0 0) 0 [] ⟨rfl, .inr ⟨q, 0, #[], rfl, Nat.le_refl _, hq, Nat.le_refl _, Nat.zero_le _, rfl, rfl⟩⟩ ⟨g, 0, none⟩ 1 c cs (by omega) hnews h1 (by unfold maxLen; omega) (by omega) (Nat.le_of_lt (Array.getElem?_eq_some_iff.1 hq).1)
  exact ⟨v', w', hr, by simpa using h2, h3⟩
set_option maxRecDepth 100000 in
theorem cloneCalled_one {w : World} {g c : Nat} {cs : List Value} (hl : cs.length = 20) (h1 : ∀ u ∈ cs, u.oneCell' = true) (hc : ∀ j u, cs[j]? = some u → w.cell? ⟨g, j, none⟩ = some u) :
    Calls Tryz.prog 17 #[.slice (some ⟨g, 0, none⟩) 1 c] w fun e w' => ∃ g' c', e = .returned (.slice (some ⟨g', 0, none⟩) 1 c') ∧ w.heap.size ≤ g' ∧ 1 ≤ c' ∧ c' ≤ maxLen ∧ (∀ j u, cs[j]? = some u → w'.cell? ⟨g', j, none⟩ = some u) ∧ Below w.heap.size w w' := by
  have q1 := calledSlice
  obtain ⟨w1, hw1⟩ : ∃ X, X = w.alloc (.cells #[] 71) := ⟨_, rfl⟩
  have hb : Below w.heap.size w w1 := by rw [hw1]; exact (Below.refl _ _).alloc (Nat.le_refl _) _
  have hq : w1.heap[w.heap.size]? = some (.cells #[] 71 (0, 0)) := by rw [hw1]; exact heap_mem w _
  have hc1 : ∀ j u, cs[j]? = some u → w1.cell? ⟨g, j, none⟩ = some u := fun j u hj => (hb.cell (p := ⟨g, j, none⟩) (cell_lt (hc j u hj))).trans (hc j u hj)
  obtain ⟨v', W, hrun, hown, hgr⟩ := app_clone (c := c) hl h1 hc1 hq
  obtain ⟨g2, o2, c2, e2, -, hn2, hm2, -, hx2⟩ := (Row.of_owns hown).some (fun e => by rw [e] at hl; simp at hl)
  obtain ⟨g3, c3, e3, hg3⟩ : ∃ g3 c3, v' = .slice (some ⟨g3, 0, none⟩) 1 c3 ∧ w.heap.size ≤ g3 := by
    rcases hown.2 with ⟨-, h⟩ | ⟨g, cap, cur, h, h', -⟩
    · omega
    · exact ⟨g, cap, h, h'⟩
  obtain rfl := e3
  obtain ⟨ha, -, rfl⟩ := slice_inj e2
  obtain ⟨rfl, rfl⟩ : g3 = g2 ∧ o2 = 0 := by
    have := Option.some.inj ha
    injection this with e1 e2
    exact ⟨e1, e2.symm⟩
  have HO := Lib.hid (show w.heap.size ≤ g3 ∧ 1 ≤ c3 ∧ c3 ≤ maxLen ∧ (∀ j u, cs[j]? = some u → W.cell? ⟨g3, j, none⟩ = some u) ∧ Below w.heap.size w W from ⟨hg3, hn2, hm2, fun j u hj => by have := (hx2 j u hj).1; rwa [Nat.zero_add] at this, hb.trans ((Chg.of_grown (M := fun k => k = w.heap.size) hgr (fun _ _ e => (Option.some.inj e).symm)).below (fun k hk => ⟨Nat.lt_of_lt_of_le hk hb.size, fun e => by omega⟩))⟩)
  rw [hw1] at hrun
  clear hw1 hl h1 hc hb hq hc1 hown hgr hg3 e2 hn2 hm2 hx2 ha
  go_enter Tryz.func17, Tryz.ntmps17
  go_wp2_with (first
    | (at_builtin; refine wpList_plain (by rfl) fun _ hK => wp_append_run (.tmp 5) (.tmp 6) 30 (by rfl) _ _ _ (by rfl) (by rfl) hrun (hK _ _ ?_))
    | fail)
  go_ret
  exact ⟨_, _, rfl, HO.out⟩
set_option maxRecDepth 100000 in
set_option maxHeartbeats 4000000 in
theorem hist_any {w : World} {mp wp tb tc n g c : Nat} {th : List Value} {cs : List Value} {W : WorldM} {S : Nat → Prop} (hr : MachR w mp wp tb tc n th (.slice (some ⟨g, 0, none⟩) 1 c)) (hl : cs.length = 20) (h1 : ∀ u ∈ cs, u.oneCell' = true)
    (hc : ∀ j u, cs[j]? = some u → w.cell? ⟨g, j, none⟩ = some u) (hW : WorldIs wp W w S) (hn : W.notes = []) :
    Calls Tryz.prog 5 #[ptrN mp] w fun e w' => ∃ q, e = .returned (.agg #[.slice (some ⟨q, 0, none⟩) 1 1, .slice none 0 0]) ∧ (∀ j u, cs[j]? = some u → w'.cell? ⟨q, j, none⟩ = some u) ∧ Below w.heap.size w w' := by
  obtain ⟨rb, hrb⟩ : ∃ X, X = w.heap.size := ⟨_, rfl⟩
  obtain ⟨w1, hw1⟩ : ∃ X, X = w.alloc (.cells #[.slice none 0 0, .slice none 0 0] 36) := ⟨_, rfl⟩
  have hb1 : Below w.heap.size w w1 := by rw [hw1]; exact (Below.refl _ _).alloc (Nat.le_refl _) _
  have hq1 : w1.heap[rb]? = some (.cells #[.slice none 0 0, .slice none 0 0] 36 (0, 0)) := by rw [hw1, hrb]; exact heap_mem w _
  have c0 : w1.cell? ⟨mp, 0, none⟩ = some (ptrN wp) := (hb1.cell (p := ⟨mp, 0, none⟩) (cell_lt hr.c0)).trans hr.c0
  have c2 : w1.cell? ⟨mp, 2, none⟩ = some (.slice (some ⟨g, 0, none⟩) 1 c) := (hb1.cell (p := ⟨mp, 2, none⟩) (cell_lt hr.c2)).trans hr.c2
  have q := mptr_nil
  have HC0 := Lib.hid hr.c0
  have HCL := Lib.hid (cloneCalled_one (w := w1.drew) (g := g) (c := c) hl h1 (fun j u hj => (hb1.cell (p := ⟨g, j, none⟩) (cell_lt (hc j u hj))).trans (hc j u hj)))
  have HDR := Lib.hid (show ∀ V, Below w.heap.size w V → Calls Tryz.prog 18 #[ptrN wp] V fun e w' => e = .returned (.slice none 0 0) ∧ Below V.heap.size V w' from fun V hb => drops_none ((framed_worldIs wp W).below hW hb) hn)
  have HB1 := Lib.hid hb1
  have HQ1 := Lib.hid (And.intro hq1 hrb)
  clear hr hl h1 hc hW hn hb1 hq1
  go_enter Tryz.func5, Tryz.ntmps5
  go_upto_region 3 with fail
  rw [← hw1, ← hrb]
  clear hw1 hrb
  refine wp_region_held_drew (S := fun V => V.cell? ⟨mp, 0, none⟩ = some (ptrN wp) ∧ V.cell? ⟨mp, 2, none⟩ = some (.slice (some ⟨g, 0, none⟩) 1 c)) (by kernel_rfl) ⟨c0, c2⟩ (fun hHeld => ?_)
  refine tkz 0 rfl ?_
  try simp only [Act.put, tz]
  refine tkz 1 rfl ?_
  try simp only [Act.put, tz]
  refine tkz 2 rfl ?_
  try simp only [Act.put, tz]
  refine tkv 3 (v := ?_) rfl ?_ ?_
  rotate_left 1
  · ((intro w hSw; (try dsimp only at hSw); obtain ⟨c0, c1⟩ := hSw; go_simp) <;> with_reducible rfl)
  try simp only [Act.put, tz]
  refine tkz 6 rfl ?_
  try simp only [Act.put, tz]
  refine tkz 7 rfl ?_
  try simp only [Act.put, tz]
  refine tkz 8 rfl ?_
  try simp only [Act.put, tz]
  refine tkv 9 (v := ?_) rfl ?_ ?_
  rotate_left 1
  · ((intro w hSw; (try dsimp only at hSw); obtain ⟨c0, c1⟩ := hSw; go_simp) <;> with_reducible rfl)
  try simp only [Act.put, tz]
  refine rdy 4 rfl (fun K hK => ?_)
  go_simp
  refine HCL.out.mono ?_
  rintro e w2 ⟨g', c', rfl, hgl', hc1', hcm', hx', hb2⟩
  refine hK.out _ _ ⟨(hb2.cell (p := ⟨mp, 0, none⟩) (cell_lt hHeld.1)).trans hHeld.1, (hb2.cell (p := ⟨mp, 2, none⟩) (cell_lt hHeld.2)).trans hHeld.2⟩ (fun hHeld2 => ?_)
  clear hK K
  try simp only [Act.put, tz]
  have HCP := Lib.hid (clipCalled_any (a := some ⟨g', 0, none⟩) w2 hc1' hcm' (fun e => nomatch e))
  have hbw2 : Below w.heap.size w w2 := (low_drew1 HB1.out).trans (hb2.mono HB1.out.size)
  have HD2 := Lib.hid (HDR.out w2 hbw2)
  clear HCL hc1' hcm'
  refine rdy 5 rfl (fun K hK => ?_)
  go_simp
  go_at_call 16
  refine (HCP.out).mono ?_
  rintro e w' ⟨rfl, rfl⟩
  refine hK.out _ _ hHeld2 (fun hHeld2 => ?_)
  clear hK K
  try simp only [Act.put, tz]
  refine rdy 10 rfl (fun K hK => ?_)
  go_simp
  go_at_call 18
  refine (HD2.out).mono ?_
  rintro e w3 ⟨rfl, hb3⟩
  refine hK.out _ _ ⟨(hb3.cell (p := ⟨mp, 0, none⟩) (cell_lt hHeld2.1)).trans hHeld2.1, (hb3.cell (p := ⟨mp, 2, none⟩) (cell_lt hHeld2.2)).trans hHeld2.2⟩ (fun hHeld2 => ?_)
  clear hK K
  try simp only [Act.put, tz]
  refine tkz 11 rfl ?_
  try simp only [Act.put, tz]
  have hq3 : w3.heap[rb]? = some (.cells #[.slice none 0 0, .slice none 0 0] 36 (0, 0)) := boxAt (boxAt (W := w1.drew) HQ1.out.1 hb2) hb3
  have ht3 : w3.there rb 0 2 := fun j hj => by
    rcases j with _ | _ | j
    all_goals first | exact ⟨by rw [(cellsAt hq3 _).1]; rfl, (cellsAt hq3 _).2⟩ | (exfalso; omega)
  have hne : ¬ mp = rb := fun e => by have := cell_lt HC0.out; have := HQ1.out.2; omega
  obtain ⟨w4, hw4⟩ : ∃ X, X = w3.setCells rb 0 [.slice (some ⟨g', 0, none⟩) 1 1, .slice none 0 0] := ⟨_, rfl⟩
  have hc4 : Chg (fun k => k = rb) w3 w4 := by rw [hw4]; exact mcells_chg _ _ _ _
  have hq4 : w4.heap[rb]? = some (.cells #[.slice (some ⟨g', 0, none⟩) 1 1, .slice none 0 0] 36 (0, 0)) := by rw [hw4]; exact setCells_whole hq3 rfl
  have hS4 : w4.cell? ⟨mp, 0, none⟩ = some (ptrN wp) ∧ w4.cell? ⟨mp, 2, none⟩ = some (.slice (some ⟨g, 0, none⟩) 1 c) := ⟨hc4.cell ((hb3.cell (p := ⟨mp, 0, none⟩) (cell_lt ((hb2.cell (p := ⟨mp, 0, none⟩) (cell_lt hHeld.1)).trans hHeld.1))).trans ((hb2.cell (p := ⟨mp, 0, none⟩) (cell_lt hHeld.1)).trans hHeld.1)) hne, hc4.cell ((hb3.cell (p := ⟨mp, 2, none⟩) (cell_lt ((hb2.cell (p := ⟨mp, 2, none⟩) (cell_lt hHeld.2)).trans hHeld.2))).trans ((hb2.cell (p := ⟨mp, 2, none⟩) (cell_lt hHeld.2)).trans hHeld.2)) hne⟩
  have HX := Lib.hid (show (∀ j u, cs[j]? = some u → w4.cell? ⟨g', j, none⟩ = some u) ∧ Below w.heap.size w w4 from by
    refine ⟨fun j u hj => ?_, ?_⟩
    · have h2 := hx' j u hj
      refine hc4.cell ((hb3.cell (p := ⟨g', j, none⟩) (cell_lt h2)).trans h2) (fun e => ?_)
      have h4 : w1.drew.heap.size = w1.heap.size := rfl
      have h5 := (Array.getElem?_eq_some_iff.1 HQ1.out.1).1
      omega
    · have hb := hbw2.trans (hb3.mono hbw2.size)
      exact hb.trans (hc4.below (fun k hk => ⟨Nat.lt_of_lt_of_le hk hb.size, fun e => by have := HQ1.out.2; omega⟩)))
  have HQ4 := Lib.hid hq4
  have HW4 := Lib.hid hw4
  clear hb2 hb3 hx' hgl' hq3 hq4 hw4 hc4 hbw2 hne
  refine rdy 12 rfl (fun K hK => ?_)
  rw [if_pos (by rfl)]
  refine wp_store_mid 36 (.tmp 2) (.tmp 17) (by rfl) rb 0 #[.slice (some ⟨g', 0, none⟩) 1 1, .slice none 0 0] (by rfl) (by rfl) ht3 (by kernel_rfl) (by simp [Value.oneCell']) ?_
  refine hK.out _ _ (by have h : _ ∧ _ := hS4; rw [HW4.out] at h; exact h) (fun hHeld2 => ?_)
  clear hK K
  try simp only [Act.put, tzD, tzE, tzF]
  rw [show w3.setCells rb 0 (#[.slice (some ⟨g', 0, none⟩) 1 1, .slice none 0 0] : Array Value).toList = w4 from HW4.out.symm] at hHeld2 ⊢
  clear HW4 ht3
  refine wpAnyH_done (by kernel_rfl) ?_ _
  clear hHeld hHeld2
  go_wp2_with (first
    | ((with_reducible show bodyPost _ _ _ Exit.ret _ _); exact bodyPost_ret (results_cell_row (by exact Tryz.results5) _ _ rb _ _ _ _ (by rfl) HQ4.out Tryz.underlying36 rfl (by kernel_rfl)) rfl ⟨g', rfl, HX.out⟩)
    | fail)
end Go.Proofs.YtfajddlijgpgoaaGreatDoor
