/- What the document's map changes. Condition: the map lies behind its pointer; fewer than 2^20 records. -/
import Derived.Test.YtaooangnnlopcaaGreatDoorLiG
import Derived.Test.YtaooangnnlopcaaGreatDoorLowJ
import Derived.Test.YtaooangnnlopcaaGreatDoorLowA
namespace Go.Proofs.YtaooangnnlopcaaGreatDoor
open Go.RowKit Go.ChangeMaps Go.MapKept
/-- Records of the call's own, beside blocks that are older. -/
structure ItemK (B : Nat) (w W : World) (v : Value) (L : List ItemD) : Prop where
  row : W.ownsRow B 38 6 v L.length (itemsCells L)
  low : Below w.heap.size w W
  le : w.heap.size ≤ B
  bs : B ≤ W.heap.size
theorem ItemK.below {B : Nat} {w W W' : World} {v : Value} {L : List ItemD} (h : ItemK B w W v L) (hb : Below W.heap.size W W') : ItemK B w W' v L :=
  ⟨owns_grow h.row (Chg.of_below (M := fun _ => False) hb) (fun _ _ e => e), h.low.trans (hb.mono h.low.size), h.le, Nat.le_trans h.bs hb.size⟩
theorem ItemK.push {B : Nat} {w W w1 : World} {ov ov' : Value} {L : List ItemD} {x : ItemD} (h : ItemK B w W ov L) (hown : w1.ownsRow B 38 6 ov' (L.length + 1) (itemsCells L ++ itemCells x)) (hg : W.grownBy w1 ov.ownBlock) : ItemK B w w1 ov' (L ++ [x]) ∧ ∀ k, k < B → w1.heap[k]? = W.heap[k]? := by
  have hc : Chg (fun k => ov.ownBlock = some k) W w1 := Chg.of_grown hg (fun _ _ e => e)
  have hle := h.le
  refine ⟨⟨by rw [List.length_append, itemsCells_snoc]; exact hown, h.low.trans (hc.below (fun k hk => ⟨Nat.lt_of_lt_of_le hk h.low.size, fun e => by have := (h.row.lt k e).1; omega⟩)), h.le, Nat.le_trans h.bs hc.size⟩, fun k hk => hc.block k (Nat.lt_of_lt_of_le hk h.bs) (fun e => by have := (h.row.lt k e).1; omega)⟩
/-- Behind a store into an older block of the call's own. -/
theorem ItemK.store {B : Nat} {w W W' : World} {v : Value} {L : List ItemD} {q : Nat} (h : ItemK B w W v L) (hg : W.grownBy W' (some q)) (hq1 : w.heap.size ≤ q) (hq2 : q < B) : ItemK B w W' v L := by
  have hc : Chg (fun k => k = q) W W' := Chg.of_grown hg (fun i _ e => by cases e; rfl)
  exact ⟨owns_grow h.row hc (fun g hg e => by have := (h.row.lt g hg).1; omega), h.low.trans (hc.below (fun k hk => ⟨Nat.lt_of_lt_of_le hk h.low.size, fun e => by omega⟩)), h.le, Nat.le_trans h.bs hc.size⟩
theorem ItemK.set {B : Nat} {w W : World} {v : Value} {L : List ItemD} {q : Nat} (h : ItemK B w W v L) (hq1 : w.heap.size ≤ q) (hq2 : q < B) (i : Nat) (u : Value) : ItemK B w (W.setCell ⟨q, i, none⟩ u) v L := by
  have hc : Chg (fun k => k = q) W (W.setCell ⟨q, i, none⟩ u) := Chg.set (M := fun k => k = q) (Chg.refl _ _) (fun _ => rfl) _
  exact ⟨owns_grow h.row hc (fun g hg e => by have := (h.row.lt g hg).1; omega), h.low.trans (hc.below (fun k hk => ⟨Nat.lt_of_lt_of_le hk h.low.size, fun e => by omega⟩)), h.le, Nat.le_trans h.bs hc.size⟩
theorem ItemK.irow {B : Nat} {w W : World} {v : Value} {L : List ItemD} (h : ItemK B w W v L) : IRow W v L := Row.of_owns h.row
/-- What a region of changes reads. -/
structure StC (w : World) (x : Array Value) (W : World) : Prop where
  item : W.heap[w.heap.size + 1]? = some (.cells x 38 (0, 0))
  low : Below w.heap.size w W
theorem StC.below {w W W' : World} {x : Array Value} (h : StC w x W) (hb : Below W.heap.size W W') : StC w x W' :=
  ⟨(hb.block _ (Array.getElem?_eq_some_iff.1 h.item).1).trans h.item, h.low.trans (hb.mono h.low.size)⟩
theorem StC.store {w W W' : World} {x : Array Value} (h : StC w x W) (hg : W.grownBy W' (some (w.heap.size + 2))) : StC w x W' := by
  have hc : Chg (fun k => k = w.heap.size + 2) W W' := Chg.of_grown hg (fun i _ e => by cases e; rfl)
  exact ⟨hc.obj h.item (by omega), below_grown h.low h.low.size hg (by omega)⟩
theorem heap_three (w : World) (a b c : Obj) : (((w.alloc a).alloc b).alloc c).heap[w.heap.size]? = some a ∧ (((w.alloc a).alloc b).alloc c).heap[w.heap.size + 1]? = some b ∧ (((w.alloc a).alloc b).alloc c).heap[w.heap.size + 2]? = some c ∧ (((w.alloc a).alloc b).alloc c).heap.size = w.heap.size + 3 := by
  refine ⟨?_, ?_, ?_, ?_⟩
  · rw [heap_at, if_neg (by rw [size_at, size_at]; omega), heap_at, if_neg (by rw [size_at]; omega), heap_at, if_pos rfl]
  · rw [heap_at, if_neg (by rw [size_at, size_at]; omega), heap_at, if_pos (by rw [size_at])]
  · rw [heap_at, if_pos (by rw [size_at, size_at])]
  · rw [size_at, size_at, size_at]
section
variable {w : World} {r : Nat} {v : Value} {m : MapM} {ep : Nat} {KY V : ByteArray} {F X ID BY : Int} {was : ItemD}
set_option maxRecDepth 100000 in
set_option maxHeartbeats 8000000 in
theorem rGone_any (h : RMap w r v m) (hfew : m.L.length ≤ 1000000) : Calls Tryz.prog 55 #[.pointer (some ⟨r, 0, none⟩), .agg #[.int .u8 7, .string KY, .string V, .int .u32 F, .int .i64 X, .int .u64 ID, .int .u64 BY], .int .u64 (ep : Int), was.val] w fun e w' => ∃ v', e = .returned (.agg #[.int .u8 6, .int .u64 0, .string ⟨#[]⟩, .string ⟨#[]⟩, .int .u32 0, .int .u64 0, .int .i64 0, .int .i64 0, v', .int .u64 (ep : Int), .int .u64 (m.ids : Int), .bool false]) ∧ IRow w' v' (withoutL m.L KY) ∧ Below w.heap.size w w' := by
  have HM := Lib.hid (fun W (hb : Below w.heap.size w W) => h.below hb)
  have HF := Lib.hid hfew
  have HR := Lib.hid h.lt
  clear h hfew
  go_enter Tryz.func55, Tryz.ntmps55
  go_upto_region 1 with fail
  obtain ⟨W0, hW0⟩ : ∃ Y, Y = ((w.alloc (.cells #[.int .u8 7, .string KY, .string V, .int .u32 F, .int .i64 X, .int .u64 ID, .int .u64 BY] 35)).alloc (.cells #[.string was.key, .string was.value, .int .u32 was.flags, .int .u64 was.id, .int .i64 was.dies, .int .i64 was.gen] 38)).alloc (.cells givRZero 88) := ⟨_, rfl⟩
  have hb0 : Below w.heap.size w W0 := by rw [hW0]; exact (below_two w _ _).alloc (by rw [size_at, size_at]; omega) _
  have h3 := heap_three w (.cells #[.int .u8 7, .string KY, .string V, .int .u32 F, .int .i64 X, .int .u64 ID, .int .u64 BY] 35) (.cells #[.string was.key, .string was.value, .int .u32 was.flags, .int .u64 was.id, .int .i64 was.dies, .int .i64 was.gen] 38) (.cells givRZero 88)
  rw [← hW0] at h3 ⊢
  obtain ⟨hx0, hi0, hg0, hs0⟩ := h3
  have HB0 := Lib.hid hb0
  have HX0 := Lib.hid hx0
  have HI0 := Lib.hid hi0
  have HG0 := Lib.hid hg0
  have HS0 := Lib.hid hs0
  have k1 : W0.cell? ⟨w.heap.size, 1, none⟩ = some (.string KY) := (cells_at hx0 1).1
  clear hW0 hb0 hx0 hi0 hg0 hs0
  go_wp2_with fail
  clear k1
  refine (rWithout_any (k := KY) (HM.out W0 HB0.out) (Nat.le_trans HF.out (by omega))).mono ?_
  rintro e W1 ⟨v', rfl, hj⟩
  have hk : ItemK W0.heap.size w W1 v' (withoutL m.L KY) := ⟨hj.row, HB0.out.trans (hj.low.mono HB0.out.size), HB0.out.size, hj.low.size⟩
  obtain ⟨a1, c1, hv1⟩ := Row.len hk.irow
  obtain ⟨n1, hn1⟩ : ∃ k, k = (withoutL m.L KY).length := ⟨_, rfl⟩
  have HN1 := Lib.hid (show (withoutL m.L KY).length ≤ 1000000 from Nat.le_trans (without_len _ _) HF.out)
  rw [← hn1] at hv1
  subst hv1
  have HK := Lib.hid hk
  have HX := Lib.hid ((hj.low.block w.heap.size (by rw [HS0.out]; omega)).trans HX0.out)
  have HI := Lib.hid ((hj.low.block (w.heap.size + 1) (by rw [HS0.out]; omega)).trans HI0.out)
  have HG := Lib.hid ((hj.low.block (w.heap.size + 2) (by rw [HS0.out]; omega)).trans HG0.out)
  have HBE := Lib.hid (show w.heap.size + 2 < W0.heap.size from by rw [HS0.out]; omega)
  clear hk hj hn1 HX0 HI0 HG0 HS0 HB0
  obtain ⟨B, hB⟩ : ∃ b, b = W0.heap.size := ⟨_, rfl⟩
  rw [← hB] at HK HBE
  clear hB
  have c2 : W1.cell? ⟨r, 2, none⟩ = some (.int .u64 (m.ids : Int)) := (cells_at (HM.out W1 HK.out.low).box 2).1
  have k0 : W1.cell? ⟨w.heap.size, 0, none⟩ = some (.int .u8 7) := (cells_at HX.out 0).1
  have qa : ∀ W : World, (Instr.build 40 #[(0, .int .u8 6)]).run Tryz.prog W = .ok (.agg #[.int .u8 6, .int .u64 0, .string ⟨#[]⟩, .string ⟨#[]⟩, .int .u32 0, .int .u64 0, .int .i64 0, .int .i64 0]) W := fun W => by kernel_rfl
  have qm : ∀ (a : Option Addr) (n k : Nat) (W : World), (Instr.build 31 #[(0, .slice a n k), (1, .int .u64 (ep : Int)), (2, .int .u64 (m.ids : Int))]).run Tryz.prog W = .ok (.agg #[.slice a n k, .int .u64 (ep : Int), .int .u64 (m.ids : Int)]) W := fun a n k W => by kernel_rfl
  have qg : ∀ (a : Option Addr) (n k : Nat) (W : World), (Instr.build 88 #[(0, .agg #[.int .u8 6, .int .u64 0, .string ⟨#[]⟩, .string ⟨#[]⟩, .int .u32 0, .int .u64 0, .int .i64 0, .int .i64 0]), (1, .agg #[.slice a n k, .int .u64 (ep : Int), .int .u64 (m.ids : Int)])]).run Tryz.prog W = .ok (.agg #[.int .u8 6, .int .u64 0, .string ⟨#[]⟩, .string ⟨#[]⟩, .int .u32 0, .int .u64 0, .int .i64 0, .int .i64 0, .slice a n k, .int .u64 (ep : Int), .int .u64 (m.ids : Int), .bool false]) W := fun a n k W => by kernel_rfl
  go_wp2_with (first | ((with_reducible show wpList _ _ _ (⟨none, Op.store 88 _ _, _, _, _, _⟩ :: _) _ _); refine wpList_store_whole (by rfl) 88 (.tmp 8) (.tmp 27) (by rfl) (w.heap.size + 2) (by rfl) #[.int .u8 6, .int .u64 0, .string ⟨#[]⟩, .string ⟨#[]⟩, .int .u32 0, .int .u64 0, .int .i64 0, .int .i64 0, .slice a1 n1 c1, .int .u64 (ep : Int), .int .u64 (m.ids : Int), .bool false] (by rfl) _ 88 HG.out (by rfl) (by kernel_rfl) (by simp [Value.oneCell']) ?_; intro w3 hr3 hg3 hs3) | ((with_reducible show bodyPost _ _ _ Exit.ret _ _); exact bodyPost_ret (v := .agg #[.int .u8 6, .int .u64 0, .string ⟨#[]⟩, .string ⟨#[]⟩, .int .u32 0, .int .u64 0, .int .i64 0, .int .i64 0, .slice a1 n1 c1, .int .u64 (ep : Int), .int .u64 (m.ids : Int), .bool false]) (results_row_one rfl _ _ (w.heap.size + 2) _ _ _ _ (by rfl) hr3 Tryz.underlying88 rfl (by kernel_rfl)) rfl ⟨_, rfl, (HK.out.store hg3 (by omega) HBE.out).irow, (HK.out.store hg3 (by omega) HBE.out).low⟩) | fail)
set_option maxRecDepth 100000 in
set_option maxHeartbeats 8000000 in
theorem rTouch_any (h : RMap w r v m) (hfew : m.L.length ≤ 1000000) (hx : -9223372036854775808 ≤ X ∧ X ≤ 9223372036854775807) : Calls Tryz.prog 55 #[.pointer (some ⟨r, 0, none⟩), .agg #[.int .u8 8, .string KY, .string V, .int .u32 F, .int .i64 X, .int .u64 ID, .int .u64 BY], .int .u64 (ep : Int), was.val] w fun e w' => ∃ v', e = .returned (.agg #[.int .u8 7, .int .u64 0, .string ⟨#[]⟩, .string ⟨#[]⟩, .int .u32 0, .int .u64 0, .int .i64 0, .int .i64 0, v', .int .u64 (ep : Int), .int .u64 (m.ids : Int), .bool false]) ∧ IRow w' v' (withoutL m.L KY ++ [{ was with dies := diesE ep X }]) ∧ Below w.heap.size w w' := by
  have HM := Lib.hid (fun W (hb : Below w.heap.size w W) => h.below hb)
  have HF := Lib.hid hfew
  have HR := Lib.hid h.lt
  have HDI := Lib.hid (fun W => rDies_any ep X hx W)
  obtain ⟨dd, hdd⟩ : ∃ d, d = diesE ep X := ⟨_, rfl⟩
  rw [← hdd] at HDI ⊢
  clear hx hdd
  clear h hfew
  go_enter Tryz.func55, Tryz.ntmps55
  go_upto_region 1 with fail
  obtain ⟨W0, hW0⟩ : ∃ Y, Y = ((w.alloc (.cells #[.int .u8 8, .string KY, .string V, .int .u32 F, .int .i64 X, .int .u64 ID, .int .u64 BY] 35)).alloc (.cells #[.string was.key, .string was.value, .int .u32 was.flags, .int .u64 was.id, .int .i64 was.dies, .int .i64 was.gen] 38)).alloc (.cells givRZero 88) := ⟨_, rfl⟩
  have hb0 : Below w.heap.size w W0 := by rw [hW0]; exact (below_two w _ _).alloc (by rw [size_at, size_at]; omega) _
  have h3 := heap_three w (.cells #[.int .u8 8, .string KY, .string V, .int .u32 F, .int .i64 X, .int .u64 ID, .int .u64 BY] 35) (.cells #[.string was.key, .string was.value, .int .u32 was.flags, .int .u64 was.id, .int .i64 was.dies, .int .i64 was.gen] 38) (.cells givRZero 88)
  rw [← hW0] at h3 ⊢
  obtain ⟨hx0, hi0, hg0, hs0⟩ := h3
  have HB0 := Lib.hid hb0
  have HX0 := Lib.hid hx0
  have HI0 := Lib.hid hi0
  have HG0 := Lib.hid hg0
  have HS0 := Lib.hid hs0
  have k1 : W0.cell? ⟨w.heap.size, 1, none⟩ = some (.string KY) := (cells_at hx0 1).1
  clear hW0 hb0 hx0 hi0 hg0 hs0
  go_wp2_with fail
  clear k1
  refine (rWithout_any (k := KY) (HM.out W0 HB0.out) (Nat.le_trans HF.out (by omega))).mono ?_
  rintro e W1 ⟨v', rfl, hj⟩
  have hk : ItemK W0.heap.size w W1 v' (withoutL m.L KY) := ⟨hj.row, HB0.out.trans (hj.low.mono HB0.out.size), HB0.out.size, hj.low.size⟩
  obtain ⟨a1, c1, hv1⟩ := Row.len hk.irow
  obtain ⟨n1, hn1⟩ : ∃ k, k = (withoutL m.L KY).length := ⟨_, rfl⟩
  have HN1 := Lib.hid (show (withoutL m.L KY).length ≤ 1000000 from Nat.le_trans (without_len _ _) HF.out)
  rw [← hn1] at hv1
  subst hv1
  have HK := Lib.hid hk
  have HX := Lib.hid ((hj.low.block w.heap.size (by rw [HS0.out]; omega)).trans HX0.out)
  have HI := Lib.hid ((hj.low.block (w.heap.size + 1) (by rw [HS0.out]; omega)).trans HI0.out)
  have HG := Lib.hid ((hj.low.block (w.heap.size + 2) (by rw [HS0.out]; omega)).trans HG0.out)
  have HBE := Lib.hid (show w.heap.size + 2 < W0.heap.size from by rw [HS0.out]; omega)
  clear hk hj hn1 HX0 HI0 HG0 HS0 HB0
  obtain ⟨B, hB⟩ : ∃ b, b = W0.heap.size := ⟨_, rfl⟩
  rw [← hB] at HK HBE
  clear hB
  have k0 : W1.cell? ⟨w.heap.size, 0, none⟩ = some (.int .u8 8) := (cells_at HX.out 0).1
  have k4 : W1.cell? ⟨w.heap.size, 4, none⟩ = some (.int .i64 X) := (cells_at HX.out 4).1
  have y4 : W1.cell? ⟨w.heap.size + 1, 4, none⟩ = some (.int .i64 was.dies) := (cells_at HI.out 4).1
  have f4 : W1.frozen? ⟨w.heap.size + 1, 4, none⟩ = false := (cells_at HI.out 4).2
  go_upto_region 5 with fail
  go_wp2_with fail
  refine (HDI.out _).mono ?_
  rintro e W2 ⟨rfl, rfl⟩
  obtain ⟨i0, hi0, hz0, hz1, hz2⟩ := info_parts infoItem
  have Hi := Lib.hid hi0
  have Hz := Lib.hid (And.intro hz0 (And.intro hz1 hz2))
  clear hi0 hz0 hz1 hz2
  go_upto_region 6 with fail
  clear k0 k4 y4 f4
  obtain ⟨W3, hW3⟩ : ∃ Y, Y = W1.setCell ⟨w.heap.size + 1, 4, none⟩ (.int .i64 dd) := ⟨_, rfl⟩
  have hk3 := HK.out.set (q := w.heap.size + 1) (by omega) (by have := HBE.out; omega) 4 (.int .i64 dd)
  have hi3 : (W1.setCell ⟨w.heap.size + 1, 4, none⟩ (.int .i64 dd)).heap[w.heap.size + 1]? = some (.cells #[.string was.key, .string was.value, .int .u32 was.flags, .int .u64 was.id, .int .i64 dd, .int .i64 was.gen] 38 (0, 0)) := Go.Joins.block_setCell HI.out _
  have hg3 : (W1.setCell ⟨w.heap.size + 1, 4, none⟩ (.int .i64 dd)).heap[w.heap.size + 2]? = some (.cells givRZero 88 (0, 0)) := by rw [Below.heap_setCell _ _ _ _ (by show w.heap.size + 2 ≠ w.heap.size + 1; omega)]; exact HG.out
  rw [← hW3] at hk3 hi3 hg3 ⊢
  clear hW3 HK HI HG HX
  have HK := Lib.hid hk3
  have HI := Lib.hid hi3
  have HG := Lib.hid hg3
  clear hk3 hi3 hg3
  have qa : ∀ W : World, (Instr.build 40 #[(0, .int .u8 7)]).run Tryz.prog W = .ok (.agg #[.int .u8 7, .int .u64 0, .string ⟨#[]⟩, .string ⟨#[]⟩, .int .u32 0, .int .u64 0, .int .i64 0, .int .i64 0]) W := fun W => by kernel_rfl
  have qm : ∀ (a : Option Addr) (n k : Nat) (W : World), (Instr.build 31 #[(0, .slice a n k), (1, .int .u64 (ep : Int)), (2, .int .u64 (m.ids : Int))]).run Tryz.prog W = .ok (.agg #[.slice a n k, .int .u64 (ep : Int), .int .u64 (m.ids : Int)]) W := fun a n k W => by kernel_rfl
  have qg : ∀ (a : Option Addr) (n k : Nat) (W : World), (Instr.build 88 #[(0, .agg #[.int .u8 7, .int .u64 0, .string ⟨#[]⟩, .string ⟨#[]⟩, .int .u32 0, .int .u64 0, .int .i64 0, .int .i64 0]), (1, .agg #[.slice a n k, .int .u64 (ep : Int), .int .u64 (m.ids : Int)])]).run Tryz.prog W = .ok (.agg #[.int .u8 7, .int .u64 0, .string ⟨#[]⟩, .string ⟨#[]⟩, .int .u32 0, .int .u64 0, .int .i64 0, .int .i64 0, .slice a n k, .int .u64 (ep : Int), .int .u64 (m.ids : Int), .bool false]) W := fun a n k W => by kernel_rfl
  have HS1 := Lib.hid (show StC w #[.string was.key, .string was.value, .int .u32 was.flags, .int .u64 was.id, .int .i64 dd, .int .i64 was.gen] W3 from ⟨HI.out, HK.out.low⟩)
  refine wp_region_held_drew (S := StC w #[.string was.key, .string was.value, .int .u32 was.flags, .int .u64 was.id, .int .i64 dd, .int .i64 was.gen]) (by kernel_rfl) (HS1.out.below (bdrew (Below.refl _ _))) (fun hHeld => ?_)
  refine tkq (i := 0) (v := ?_) rfl (by kernel_rfl) (fun _ _ _ h => h) (by rfl) ?_ (by assumption) ?_
  rotate_left 1
  · ((intro w hSw; (try dsimp only at hSw); go_simp) <;> with_reducible rfl)
  try simp only [Act.put, tzA, tzB, tzC, tzD, tzE]
  refine tkq (i := 1) (v := ?_) rfl (by kernel_rfl) (fun _ _ _ h => h) (by rfl) ?_ (by assumption) ?_
  rotate_left 1
  · ((intro w hSw; (try dsimp only at hSw); go_simp) <;> with_reducible rfl)
  try simp only [Act.put, tzA, tzB, tzC, tzD, tzE, tzF]
  refine tkq (i := 2) (v := ?_) rfl (by kernel_rfl) (fun _ _ _ h => h) (by rfl) ?_ (by assumption) ?_
  rotate_left 1
  · ((intro w hSw; (try dsimp only at hSw); have hq := hSw.item; have x0 := (cells_at hq 0).1; have x1 := (cells_at hq 1).1; have x2 := (cells_at hq 2).1; have x3 := (cells_at hq 3).1; have x4 := (cells_at hq 4).1; have x5 := (cells_at hq 5).1; go_simp) <;> with_reducible rfl)
  try simp only [Act.put, tzA, tzB, tzC, tzD, tzE, tzF]
  refine tkq (i := 5) (v := ?_) rfl (by kernel_rfl) (fun _ _ _ h => h) (by rfl) ?_ (by assumption) ?_
  rotate_left 1
  · ((intro w hSw; (try dsimp only at hSw); go_simp) <;> with_reducible rfl)
  try simp only [Act.put, tzA, tzB, tzC, tzD, tzE, tzF]
  refine tkq (i := 6) (v := ?_) rfl (by kernel_rfl) (fun _ _ _ h => h) (by rfl) ?_ (by assumption) ?_
  rotate_left 1
  · ((intro w hSw; (try dsimp only at hSw); go_simp) <;> with_reducible rfl)
  try simp only [Act.put, tzA, tzB, tzC, tzD, tzE, tzF]
  refine tkq (i := 7) (v := ?_) rfl (by kernel_rfl) (fun _ _ _ h => h) (by rfl) ?_ (by assumption) ?_
  rotate_left 1
  · ((intro w hSw; (try dsimp only at hSw); go_simp) <;> with_reducible rfl)
  try simp only [Act.put, tzA, tzB, tzC, tzD, tzE, tzF]
  refine tkq (i := 8) (v := ?_) rfl (by kernel_rfl) (fun _ _ _ h => h) (by rfl) ?_ (by assumption) ?_
  rotate_left 1
  · ((intro w hSw; (try dsimp only at hSw); go_simp) <;> with_reducible rfl)
  try simp only [Act.put, tzA, tzB, tzC, tzD, tzE, tzF]
  refine tkq (i := 9) (v := ?_) rfl (by kernel_rfl) (fun _ _ _ h => h) (by rfl) ?_ (by assumption) ?_
  rotate_left 1
  · ((intro w hSw; (try dsimp only at hSw); have c2 := (cells_at (HM.out _ hSw.low).box 2).1; go_simp) <;> with_reducible rfl)
  try simp only [Act.put, tzA, tzB, tzC, tzD, tzE, tzF]
  refine wpAnyH_ready (rs := [3]) (by kernel_rfl) (by simp) ?_
  refine (AllReadyH.cons rfl (fun K hK => ?_) AllReadyH.nil)
  go_simp
  have HK2 := Lib.hid (HK.out.below (show Below W3.heap.size W3 (World.drew (W3.alloc (.cells #[.string was.key, .string was.value, .int .u32 was.flags, .int .u64 was.id, .int .i64 dd, .int .i64 was.gen] 38))) from bdrew ((Below.refl _ _).alloc (Nat.le_refl _) _)))
  have HBK := Lib.hid (show (World.drew (W3.alloc (.cells #[.string was.key, .string was.value, .int .u32 was.flags, .int .u64 was.id, .int .i64 dd, .int .i64 was.gen] 38))).heap[W3.heap.size]? = some (.cells #[.string was.key, .string was.value, .int .u32 was.flags, .int .u64 was.id, .int .i64 dd, .int .i64 was.gen] 38 (0, 0)) from heap_alloc_new _ _)
  have HG2 := Lib.hid (((show Below W3.heap.size W3 (World.drew (W3.alloc (.cells #[.string was.key, .string was.value, .int .u32 was.flags, .int .u64 was.id, .int .i64 dd, .int .i64 was.gen] 38))) from bdrew ((Below.refl _ _).alloc (Nat.le_refl _) _)).block (w.heap.size + 2) (Array.getElem?_eq_some_iff.1 HG.out).1).trans HG.out)
  refine hK.out _ _ (HS1.out.below (show Below W3.heap.size W3 (World.drew (W3.alloc (.cells #[.string was.key, .string was.value, .int .u32 was.flags, .int .u64 was.id, .int .i64 dd, .int .i64 was.gen] 38))) from bdrew ((Below.refl _ _).alloc (Nat.le_refl _) _))) (fun hHeld2 => ?_)
  clear hK K
  try simp only [Act.put, tzA, tzB, tzC, tzD, tzE, tzF]
  refine wpAnyH_ready (rs := [4]) (by kernel_rfl) (by simp) ?_
  refine (AllReadyH.cons rfl (fun K hK => ?_) AllReadyH.nil)
  rw [if_pos (by rfl)]
  refine wp_append_own _ (.tmp 37) (.tmp 39) 28 (by rfl) B 38 i0 (.agg itemZero) 6 64 Tryz.underlying28 Hi.out Hz.out.1 Hz.out.2.1 Hz.out.2.2 rfl (by omega) _ _ _ (by rfl) HK2.out.row ⟨W3.heap.size, 0, none⟩ 1 1 (itemCells { was with dies := dd }) (by rfl) rfl (World.news_of_block (cs := (itemCells { was with dies := dd }).toArray) HBK.out) (by simp [Value.oneCell']) (by have := HN1.out; unfold maxLen; omega) (by have := HN1.out; omega) HK2.out.bs ?_
  intro v2 w2 hown2 hg2 _
  obtain ⟨hk2, hot⟩ := HK2.out.push (x := { was with dies := dd }) hown2 hg2
  obtain ⟨a2, c2, hv2⟩ := Row.len hk2.irow
  obtain ⟨n2, hn2⟩ : ∃ k, k = (withoutL m.L KY ++ ([{ was with dies := dd }] : List ItemD)).length := ⟨_, rfl⟩
  rw [← hn2] at hv2
  subst hv2
  have HK3 := Lib.hid hk2
  have HG3 := Lib.hid ((hot (w.heap.size + 2) HBE.out).trans HG2.out)
  have HS2 := Lib.hid (show StC w #[.string was.key, .string was.value, .int .u32 was.flags, .int .u64 was.id, .int .i64 dd, .int .i64 was.gen] w2 from ⟨(hot (w.heap.size + 1) (by have := HBE.out; omega)).trans (HS1.out.below (show Below W3.heap.size W3 (World.drew (W3.alloc (.cells #[.string was.key, .string was.value, .int .u32 was.flags, .int .u64 was.id, .int .i64 dd, .int .i64 was.gen] 38))) from bdrew ((Below.refl _ _).alloc (Nat.le_refl _) _))).item, hk2.low⟩)
  clear hown2 hg2 hk2 hn2 hot
  refine hK.out _ _ HS2.out (fun hHeld2 => ?_)
  clear hK K
  try simp only [Act.put, tzA, tzB, tzC, tzD, tzE, tzF]
  refine tkq (i := 10) (v := ?_) rfl (by kernel_rfl) (fun _ _ _ h => h) (by rfl) ?_ (by assumption) ?_
  rotate_left 1
  · ((intro w hSw; (try dsimp only at hSw); go_simp) <;> with_reducible rfl)
  try simp only [Act.put, tzA, tzB, tzC, tzD, tzE, tzF]
  refine tkq (i := 11) (v := ?_) rfl (by kernel_rfl) (fun _ _ _ h => h) (by rfl) ?_ (by assumption) ?_
  rotate_left 1
  · ((intro w hSw; (try dsimp only at hSw); go_simp) <;> with_reducible rfl)
  try simp only [Act.put, tzA, tzB, tzC, tzD, tzE, tzF]
  refine wpAnyH_ready (rs := [12]) (by kernel_rfl) (by simp) ?_
  refine (AllReadyH.cons rfl (fun K hK => ?_) AllReadyH.nil)
  rw [if_pos (by rfl)]
  refine wp_store_mid 88 (.tmp 8) (.tmp 47) (by rfl) (w.heap.size + 2) 0 #[.int .u8 7, .int .u64 0, .string ⟨#[]⟩, .string ⟨#[]⟩, .int .u32 0, .int .u64 0, .int .i64 0, .int .i64 0, .slice a2 n2 c2, .int .u64 (ep : Int), .int .u64 (m.ids : Int), .bool false] (by rfl) (by rfl) (by have h := there_block HG3.out; exact h) (by kernel_rfl) (by simp [Value.oneCell']) ?_
  have HQ := Lib.hid (setCells_whole (cells := #[.int .u8 7, .int .u64 0, .string ⟨#[]⟩, .string ⟨#[]⟩, .int .u32 0, .int .u64 0, .int .i64 0, .int .i64 0, .slice a2 n2 c2, .int .u64 (ep : Int), .int .u64 (m.ids : Int), .bool false]) HG3.out (by rfl))
  have hgr := (setCells_grown #[.int .u8 7, .int .u64 0, .string ⟨#[]⟩, .string ⟨#[]⟩, .int .u32 0, .int .u64 0, .int .i64 0, .int .i64 0, .slice a2 n2 c2, .int .u64 (ep : Int), .int .u64 (m.ids : Int), .bool false].toList 0 w2 (w.heap.size + 2)).1
  have HFJ := Lib.hid (HK3.out.store hgr (by omega) HBE.out)
  have HS3 := Lib.hid (HS2.out.store hgr)
  clear hgr
  refine hK.out _ _ HS3.out (fun hHeld2 => ?_)
  clear hK K
  try simp only [Act.put, tzD, tzE, tzF]
  refine wpAnyH_done (by kernel_rfl) ?_ _
  clear hHeld2
  go_wp2_with (first | ((with_reducible show bodyPost _ _ _ Exit.ret _ _); exact bodyPost_ret (v := .agg #[.int .u8 7, .int .u64 0, .string ⟨#[]⟩, .string ⟨#[]⟩, .int .u32 0, .int .u64 0, .int .i64 0, .int .i64 0, .slice a2 n2 c2, .int .u64 (ep : Int), .int .u64 (m.ids : Int), .bool false]) (results_row_one rfl _ _ (w.heap.size + 2) _ _ _ _ (by rfl) HQ.out Tryz.underlying88 rfl (by kernel_rfl)) rfl ⟨_, rfl, HFJ.out.irow, HFJ.out.low⟩) | fail)
set_option maxRecDepth 100000 in
set_option maxHeartbeats 8000000 in
theorem rBad9_any (h : RMap w r v m) (hfew : m.L.length ≤ 1000000) (hwv : was.value.size ≤ maxLen) (hp : parseN (bs was.value) = none) : Calls Tryz.prog 55 #[.pointer (some ⟨r, 0, none⟩), .agg #[.int .u8 9, .string KY, .string V, .int .u32 F, .int .i64 X, .int .u64 ID, .int .u64 BY], .int .u64 (ep : Int), was.val] w fun e w' => ∃ v', e = .returned (.agg #[.int .u8 9, .int .u64 0, .string ⟨#[]⟩, .string ⟨#[]⟩, .int .u32 0, .int .u64 0, .int .i64 0, .int .i64 0, v', .int .u64 (ep : Int), .int .u64 (m.ids : Int), .bool false]) ∧ IRow w' v' m.L ∧ Below w.heap.size w w' := by
  have HM := Lib.hid (fun W (hb : Below w.heap.size w W) => h.below hb)
  have HF := Lib.hid hfew
  have HR := Lib.hid h.lt
  have HPA := Lib.hid (fun W => refParse_any was.value W hwv)
  have hp2 := parseV_none hp
  rw [hp2] at HPA
  clear hwv hp hp2
  clear h hfew
  go_enter Tryz.func55, Tryz.ntmps55
  go_upto_region 1 with fail
  obtain ⟨W0, hW0⟩ : ∃ Y, Y = ((w.alloc (.cells #[.int .u8 9, .string KY, .string V, .int .u32 F, .int .i64 X, .int .u64 ID, .int .u64 BY] 35)).alloc (.cells #[.string was.key, .string was.value, .int .u32 was.flags, .int .u64 was.id, .int .i64 was.dies, .int .i64 was.gen] 38)).alloc (.cells givRZero 88) := ⟨_, rfl⟩
  have hb0 : Below w.heap.size w W0 := by rw [hW0]; exact (below_two w _ _).alloc (by rw [size_at, size_at]; omega) _
  have h3 := heap_three w (.cells #[.int .u8 9, .string KY, .string V, .int .u32 F, .int .i64 X, .int .u64 ID, .int .u64 BY] 35) (.cells #[.string was.key, .string was.value, .int .u32 was.flags, .int .u64 was.id, .int .i64 was.dies, .int .i64 was.gen] 38) (.cells givRZero 88)
  rw [← hW0] at h3 ⊢
  obtain ⟨hx0, hi0, hg0, hs0⟩ := h3
  have HB0 := Lib.hid hb0
  have HX0 := Lib.hid hx0
  have HI0 := Lib.hid hi0
  have HG0 := Lib.hid hg0
  have HS0 := Lib.hid hs0
  have k1 : W0.cell? ⟨w.heap.size, 1, none⟩ = some (.string KY) := (cells_at hx0 1).1
  clear hW0 hb0 hx0 hi0 hg0 hs0
  go_wp2_with fail
  clear k1
  refine (rWithout_any (k := KY) (HM.out W0 HB0.out) (Nat.le_trans HF.out (by omega))).mono ?_
  rintro e W1 ⟨v', rfl, hj⟩
  have hk : ItemK W0.heap.size w W1 v' (withoutL m.L KY) := ⟨hj.row, HB0.out.trans (hj.low.mono HB0.out.size), HB0.out.size, hj.low.size⟩
  obtain ⟨a1, c1, hv1⟩ := Row.len hk.irow
  obtain ⟨n1, hn1⟩ : ∃ k, k = (withoutL m.L KY).length := ⟨_, rfl⟩
  have HN1 := Lib.hid (show (withoutL m.L KY).length ≤ 1000000 from Nat.le_trans (without_len _ _) HF.out)
  rw [← hn1] at hv1
  subst hv1
  have HK := Lib.hid hk
  have HX := Lib.hid ((hj.low.block w.heap.size (by rw [HS0.out]; omega)).trans HX0.out)
  have HI := Lib.hid ((hj.low.block (w.heap.size + 1) (by rw [HS0.out]; omega)).trans HI0.out)
  have HG := Lib.hid ((hj.low.block (w.heap.size + 2) (by rw [HS0.out]; omega)).trans HG0.out)
  have HBE := Lib.hid (show w.heap.size + 2 < W0.heap.size from by rw [HS0.out]; omega)
  clear hk hj hn1 HX0 HI0 HG0 HS0 HB0
  obtain ⟨B, hB⟩ : ∃ b, b = W0.heap.size := ⟨_, rfl⟩
  rw [← hB] at HK HBE
  clear hB
  have c0 : W1.cell? ⟨r, 0, none⟩ = some v := (cells_at (HM.out W1 HK.out.low).box 0).1
  have c2 : W1.cell? ⟨r, 2, none⟩ = some (.int .u64 (m.ids : Int)) := (cells_at (HM.out W1 HK.out.low).box 2).1
  have k0 : W1.cell? ⟨w.heap.size, 0, none⟩ = some (.int .u8 9) := (cells_at HX.out 0).1
  have y1 : W1.cell? ⟨w.heap.size + 1, 1, none⟩ = some (.string was.value) := (cells_at HI.out 1).1
  obtain ⟨va, vc, hv0⟩ := RMap.slice (HM.out W1 HK.out.low)
  obtain ⟨n0, hn0⟩ : ∃ k, k = m.L.length := ⟨_, rfl⟩
  rw [← hn0] at hv0
  subst hv0
  clear hn0
  go_wp2_with fail
  refine (HPA.out _).mono ?_
  rintro e W2 ⟨rfl, rfl⟩
  have qa : ∀ W : World, (Instr.build 40 #[(0, .int .u8 9)]).run Tryz.prog W = .ok (.agg #[.int .u8 9, .int .u64 0, .string ⟨#[]⟩, .string ⟨#[]⟩, .int .u32 0, .int .u64 0, .int .i64 0, .int .i64 0]) W := fun W => by kernel_rfl
  have qm : ∀ (a : Option Addr) (n k : Nat) (W : World), (Instr.build 31 #[(0, .slice a n k), (1, .int .u64 (ep : Int)), (2, .int .u64 (m.ids : Int))]).run Tryz.prog W = .ok (.agg #[.slice a n k, .int .u64 (ep : Int), .int .u64 (m.ids : Int)]) W := fun a n k W => by kernel_rfl
  have qg : ∀ (a : Option Addr) (n k : Nat) (W : World), (Instr.build 88 #[(0, .agg #[.int .u8 9, .int .u64 0, .string ⟨#[]⟩, .string ⟨#[]⟩, .int .u32 0, .int .u64 0, .int .i64 0, .int .i64 0]), (1, .agg #[.slice a n k, .int .u64 (ep : Int), .int .u64 (m.ids : Int)])]).run Tryz.prog W = .ok (.agg #[.int .u8 9, .int .u64 0, .string ⟨#[]⟩, .string ⟨#[]⟩, .int .u32 0, .int .u64 0, .int .i64 0, .int .i64 0, .slice a n k, .int .u64 (ep : Int), .int .u64 (m.ids : Int), .bool false]) W := fun a n k W => by kernel_rfl
  go_upto_region 9 with fail
  clear k0 y1
  refine wp_region_held_drew (S := fun W => Below w.heap.size w W) (by kernel_rfl) (bdrew HK.out.low) (fun hHeld => ?_)
  refine tkq (i := 0) (v := ?_) rfl (by kernel_rfl) (fun _ _ _ h => h) (by rfl) ?_ (by assumption) ?_
  rotate_left 1
  · ((intro w hSw; (try dsimp only at hSw); go_simp) <;> with_reducible rfl)
  try simp only [Act.put, tzA, tzB, tzC, tzD, tzE]
  refine tkq (i := 1) (v := ?_) rfl (by kernel_rfl) (fun _ _ _ h => h) (by rfl) ?_ (by assumption) ?_
  rotate_left 1
  · ((intro w hSw; (try dsimp only at hSw); go_simp) <;> with_reducible rfl)
  try simp only [Act.put, tzA, tzB, tzC, tzD, tzE, tzF]
  refine tkq (i := 2) (v := ?_) rfl (by kernel_rfl) (fun _ _ _ h => h) (by rfl) ?_ (by assumption) ?_
  rotate_left 1
  · ((intro w hSw; (try dsimp only at hSw); go_simp) <;> with_reducible rfl)
  try simp only [Act.put, tzA, tzB, tzC, tzD, tzE, tzF]
  refine tkq (i := 3) (v := ?_) rfl (by kernel_rfl) (fun _ _ _ h => h) (by rfl) ?_ (by assumption) ?_
  rotate_left 1
  · ((intro w hSw; (try dsimp only at hSw); go_simp) <;> with_reducible rfl)
  try simp only [Act.put, tzA, tzB, tzC, tzD, tzE, tzF]
  refine tkq (i := 4) (v := ?_) rfl (by kernel_rfl) (fun _ _ _ h => h) (by rfl) ?_ (by assumption) ?_
  rotate_left 1
  · ((intro w hSw; (try dsimp only at hSw); have c0 := (cells_at (HM.out _ hSw).box 0).1; go_simp) <;> with_reducible rfl)
  try simp only [Act.put, tzA, tzB, tzC, tzD, tzE, tzF]
  refine tkq (i := 5) (v := ?_) rfl (by kernel_rfl) (fun _ _ _ h => h) (by rfl) ?_ (by assumption) ?_
  rotate_left 1
  · ((intro w hSw; (try dsimp only at hSw); go_simp) <;> with_reducible rfl)
  try simp only [Act.put, tzA, tzB, tzC, tzD, tzE, tzF]
  refine tkq (i := 6) (v := ?_) rfl (by kernel_rfl) (fun _ _ _ h => h) (by rfl) ?_ (by assumption) ?_
  rotate_left 1
  · ((intro w hSw; (try dsimp only at hSw); go_simp) <;> with_reducible rfl)
  try simp only [Act.put, tzA, tzB, tzC, tzD, tzE, tzF]
  refine tkq (i := 7) (v := ?_) rfl (by kernel_rfl) (fun _ _ _ h => h) (by rfl) ?_ (by assumption) ?_
  rotate_left 1
  · ((intro w hSw; (try dsimp only at hSw); go_simp) <;> with_reducible rfl)
  try simp only [Act.put, tzA, tzB, tzC, tzD, tzE, tzF]
  refine tkq (i := 8) (v := ?_) rfl (by kernel_rfl) (fun _ _ _ h => h) (by rfl) ?_ (by assumption) ?_
  rotate_left 1
  · ((intro w hSw; (try dsimp only at hSw); go_simp) <;> with_reducible rfl)
  try simp only [Act.put, tzA, tzB, tzC, tzD, tzE, tzF]
  refine tkq (i := 9) (v := ?_) rfl (by kernel_rfl) (fun _ _ _ h => h) (by rfl) ?_ (by assumption) ?_
  rotate_left 1
  · ((intro w hSw; (try dsimp only at hSw); have c2 := (cells_at (HM.out _ hSw).box 2).1; go_simp) <;> with_reducible rfl)
  try simp only [Act.put, tzA, tzB, tzC, tzD, tzE, tzF]
  refine tkq (i := 10) (v := ?_) rfl (by kernel_rfl) (fun _ _ _ h => h) (by rfl) ?_ (by assumption) ?_
  rotate_left 1
  · ((intro w hSw; (try dsimp only at hSw); go_simp) <;> with_reducible rfl)
  try simp only [Act.put, tzA, tzB, tzC, tzD, tzE, tzF]
  refine tkq (i := 11) (v := ?_) rfl (by kernel_rfl) (fun _ _ _ h => h) (by rfl) ?_ (by assumption) ?_
  rotate_left 1
  · ((intro w hSw; (try dsimp only at hSw); go_simp) <;> with_reducible rfl)
  try simp only [Act.put, tzA, tzB, tzC, tzD, tzE, tzF]
  refine wpAnyH_ready (rs := [12]) (by kernel_rfl) (by simp) ?_
  refine (AllReadyH.cons rfl (fun K hK => ?_) AllReadyH.nil)
  rw [if_pos (by rfl)]
  refine wp_store_mid 88 (.tmp 8) (.tmp 67) (by rfl) (w.heap.size + 2) 0 #[.int .u8 9, .int .u64 0, .string ⟨#[]⟩, .string ⟨#[]⟩, .int .u32 0, .int .u64 0, .int .i64 0, .int .i64 0, .slice va n0 vc, .int .u64 (ep : Int), .int .u64 (m.ids : Int), .bool false] (by rfl) (by rfl) (by have h := there_block (w := W1.drew) HG.out; exact h) (by kernel_rfl) (by simp [Value.oneCell']) ?_
  have HQ := Lib.hid (setCells_whole (w := W1.drew) (cells := #[.int .u8 9, .int .u64 0, .string ⟨#[]⟩, .string ⟨#[]⟩, .int .u32 0, .int .u64 0, .int .i64 0, .int .i64 0, .slice va n0 vc, .int .u64 (ep : Int), .int .u64 (m.ids : Int), .bool false]) HG.out (by rfl))
  have hgr := (setCells_grown #[.int .u8 9, .int .u64 0, .string ⟨#[]⟩, .string ⟨#[]⟩, .int .u32 0, .int .u64 0, .int .i64 0, .int .i64 0, .slice va n0 vc, .int .u64 (ep : Int), .int .u64 (m.ids : Int), .bool false].toList 0 W1.drew (w.heap.size + 2)).1
  have HFJ := Lib.hid (below_grown (bdrew HK.out.low) HK.out.low.size hgr (by omega))
  clear hgr
  refine hK.out _ _ HFJ.out (fun hHeld2 => ?_)
  clear hK K
  try simp only [Act.put, tzD, tzE, tzF]
  refine wpAnyH_done (by kernel_rfl) ?_ _
  clear hHeld2
  go_wp2_with (first | ((with_reducible show bodyPost _ _ _ Exit.ret _ _); exact bodyPost_ret (v := .agg #[.int .u8 9, .int .u64 0, .string ⟨#[]⟩, .string ⟨#[]⟩, .int .u32 0, .int .u64 0, .int .i64 0, .int .i64 0, .slice va n0 vc, .int .u64 (ep : Int), .int .u64 (m.ids : Int), .bool false]) (results_row_one rfl _ _ (w.heap.size + 2) _ _ _ _ (by rfl) HQ.out Tryz.underlying88 rfl (by kernel_rfl)) rfl ⟨_, rfl, (HM.out _ HFJ.out).row, HFJ.out⟩) | fail)
set_option maxRecDepth 100000 in
set_option maxHeartbeats 8000000 in
theorem rBad10_any (h : RMap w r v m) (hfew : m.L.length ≤ 1000000) (hwv : was.value.size ≤ maxLen) (hp : parseN (bs was.value) = none) : Calls Tryz.prog 55 #[.pointer (some ⟨r, 0, none⟩), .agg #[.int .u8 10, .string KY, .string V, .int .u32 F, .int .i64 X, .int .u64 ID, .int .u64 BY], .int .u64 (ep : Int), was.val] w fun e w' => ∃ v', e = .returned (.agg #[.int .u8 9, .int .u64 0, .string ⟨#[]⟩, .string ⟨#[]⟩, .int .u32 0, .int .u64 0, .int .i64 0, .int .i64 0, v', .int .u64 (ep : Int), .int .u64 (m.ids : Int), .bool false]) ∧ IRow w' v' m.L ∧ Below w.heap.size w w' := by
  have HM := Lib.hid (fun W (hb : Below w.heap.size w W) => h.below hb)
  have HF := Lib.hid hfew
  have HR := Lib.hid h.lt
  have HPA := Lib.hid (fun W => refParse_any was.value W hwv)
  have hp2 := parseV_none hp
  rw [hp2] at HPA
  clear hwv hp hp2
  clear h hfew
  go_enter Tryz.func55, Tryz.ntmps55
  go_upto_region 1 with fail
  obtain ⟨W0, hW0⟩ : ∃ Y, Y = ((w.alloc (.cells #[.int .u8 10, .string KY, .string V, .int .u32 F, .int .i64 X, .int .u64 ID, .int .u64 BY] 35)).alloc (.cells #[.string was.key, .string was.value, .int .u32 was.flags, .int .u64 was.id, .int .i64 was.dies, .int .i64 was.gen] 38)).alloc (.cells givRZero 88) := ⟨_, rfl⟩
  have hb0 : Below w.heap.size w W0 := by rw [hW0]; exact (below_two w _ _).alloc (by rw [size_at, size_at]; omega) _
  have h3 := heap_three w (.cells #[.int .u8 10, .string KY, .string V, .int .u32 F, .int .i64 X, .int .u64 ID, .int .u64 BY] 35) (.cells #[.string was.key, .string was.value, .int .u32 was.flags, .int .u64 was.id, .int .i64 was.dies, .int .i64 was.gen] 38) (.cells givRZero 88)
  rw [← hW0] at h3 ⊢
  obtain ⟨hx0, hi0, hg0, hs0⟩ := h3
  have HB0 := Lib.hid hb0
  have HX0 := Lib.hid hx0
  have HI0 := Lib.hid hi0
  have HG0 := Lib.hid hg0
  have HS0 := Lib.hid hs0
  have k1 : W0.cell? ⟨w.heap.size, 1, none⟩ = some (.string KY) := (cells_at hx0 1).1
  clear hW0 hb0 hx0 hi0 hg0 hs0
  go_wp2_with fail
  clear k1
  refine (rWithout_any (k := KY) (HM.out W0 HB0.out) (Nat.le_trans HF.out (by omega))).mono ?_
  rintro e W1 ⟨v', rfl, hj⟩
  have hk : ItemK W0.heap.size w W1 v' (withoutL m.L KY) := ⟨hj.row, HB0.out.trans (hj.low.mono HB0.out.size), HB0.out.size, hj.low.size⟩
  obtain ⟨a1, c1, hv1⟩ := Row.len hk.irow
  obtain ⟨n1, hn1⟩ : ∃ k, k = (withoutL m.L KY).length := ⟨_, rfl⟩
  have HN1 := Lib.hid (show (withoutL m.L KY).length ≤ 1000000 from Nat.le_trans (without_len _ _) HF.out)
  rw [← hn1] at hv1
  subst hv1
  have HK := Lib.hid hk
  have HX := Lib.hid ((hj.low.block w.heap.size (by rw [HS0.out]; omega)).trans HX0.out)
  have HI := Lib.hid ((hj.low.block (w.heap.size + 1) (by rw [HS0.out]; omega)).trans HI0.out)
  have HG := Lib.hid ((hj.low.block (w.heap.size + 2) (by rw [HS0.out]; omega)).trans HG0.out)
  have HBE := Lib.hid (show w.heap.size + 2 < W0.heap.size from by rw [HS0.out]; omega)
  clear hk hj hn1 HX0 HI0 HG0 HS0 HB0
  obtain ⟨B, hB⟩ : ∃ b, b = W0.heap.size := ⟨_, rfl⟩
  rw [← hB] at HK HBE
  clear hB
  have c0 : W1.cell? ⟨r, 0, none⟩ = some v := (cells_at (HM.out W1 HK.out.low).box 0).1
  have c2 : W1.cell? ⟨r, 2, none⟩ = some (.int .u64 (m.ids : Int)) := (cells_at (HM.out W1 HK.out.low).box 2).1
  have k0 : W1.cell? ⟨w.heap.size, 0, none⟩ = some (.int .u8 10) := (cells_at HX.out 0).1
  have y1 : W1.cell? ⟨w.heap.size + 1, 1, none⟩ = some (.string was.value) := (cells_at HI.out 1).1
  obtain ⟨va, vc, hv0⟩ := RMap.slice (HM.out W1 HK.out.low)
  obtain ⟨n0, hn0⟩ : ∃ k, k = m.L.length := ⟨_, rfl⟩
  rw [← hn0] at hv0
  subst hv0
  clear hn0
  go_wp2_with fail
  refine (HPA.out _).mono ?_
  rintro e W2 ⟨rfl, rfl⟩
  have qa : ∀ W : World, (Instr.build 40 #[(0, .int .u8 9)]).run Tryz.prog W = .ok (.agg #[.int .u8 9, .int .u64 0, .string ⟨#[]⟩, .string ⟨#[]⟩, .int .u32 0, .int .u64 0, .int .i64 0, .int .i64 0]) W := fun W => by kernel_rfl
  have qm : ∀ (a : Option Addr) (n k : Nat) (W : World), (Instr.build 31 #[(0, .slice a n k), (1, .int .u64 (ep : Int)), (2, .int .u64 (m.ids : Int))]).run Tryz.prog W = .ok (.agg #[.slice a n k, .int .u64 (ep : Int), .int .u64 (m.ids : Int)]) W := fun a n k W => by kernel_rfl
  have qg : ∀ (a : Option Addr) (n k : Nat) (W : World), (Instr.build 88 #[(0, .agg #[.int .u8 9, .int .u64 0, .string ⟨#[]⟩, .string ⟨#[]⟩, .int .u32 0, .int .u64 0, .int .i64 0, .int .i64 0]), (1, .agg #[.slice a n k, .int .u64 (ep : Int), .int .u64 (m.ids : Int)])]).run Tryz.prog W = .ok (.agg #[.int .u8 9, .int .u64 0, .string ⟨#[]⟩, .string ⟨#[]⟩, .int .u32 0, .int .u64 0, .int .i64 0, .int .i64 0, .slice a n k, .int .u64 (ep : Int), .int .u64 (m.ids : Int), .bool false]) W := fun a n k W => by kernel_rfl
  go_upto_region 9 with fail
  clear k0 y1
  refine wp_region_held_drew (S := fun W => Below w.heap.size w W) (by kernel_rfl) (bdrew HK.out.low) (fun hHeld => ?_)
  refine tkq (i := 0) (v := ?_) rfl (by kernel_rfl) (fun _ _ _ h => h) (by rfl) ?_ (by assumption) ?_
  rotate_left 1
  · ((intro w hSw; (try dsimp only at hSw); go_simp) <;> with_reducible rfl)
  try simp only [Act.put, tzA, tzB, tzC, tzD, tzE]
  refine tkq (i := 1) (v := ?_) rfl (by kernel_rfl) (fun _ _ _ h => h) (by rfl) ?_ (by assumption) ?_
  rotate_left 1
  · ((intro w hSw; (try dsimp only at hSw); go_simp) <;> with_reducible rfl)
  try simp only [Act.put, tzA, tzB, tzC, tzD, tzE, tzF]
  refine tkq (i := 2) (v := ?_) rfl (by kernel_rfl) (fun _ _ _ h => h) (by rfl) ?_ (by assumption) ?_
  rotate_left 1
  · ((intro w hSw; (try dsimp only at hSw); go_simp) <;> with_reducible rfl)
  try simp only [Act.put, tzA, tzB, tzC, tzD, tzE, tzF]
  refine tkq (i := 3) (v := ?_) rfl (by kernel_rfl) (fun _ _ _ h => h) (by rfl) ?_ (by assumption) ?_
  rotate_left 1
  · ((intro w hSw; (try dsimp only at hSw); go_simp) <;> with_reducible rfl)
  try simp only [Act.put, tzA, tzB, tzC, tzD, tzE, tzF]
  refine tkq (i := 4) (v := ?_) rfl (by kernel_rfl) (fun _ _ _ h => h) (by rfl) ?_ (by assumption) ?_
  rotate_left 1
  · ((intro w hSw; (try dsimp only at hSw); have c0 := (cells_at (HM.out _ hSw).box 0).1; go_simp) <;> with_reducible rfl)
  try simp only [Act.put, tzA, tzB, tzC, tzD, tzE, tzF]
  refine tkq (i := 5) (v := ?_) rfl (by kernel_rfl) (fun _ _ _ h => h) (by rfl) ?_ (by assumption) ?_
  rotate_left 1
  · ((intro w hSw; (try dsimp only at hSw); go_simp) <;> with_reducible rfl)
  try simp only [Act.put, tzA, tzB, tzC, tzD, tzE, tzF]
  refine tkq (i := 6) (v := ?_) rfl (by kernel_rfl) (fun _ _ _ h => h) (by rfl) ?_ (by assumption) ?_
  rotate_left 1
  · ((intro w hSw; (try dsimp only at hSw); go_simp) <;> with_reducible rfl)
  try simp only [Act.put, tzA, tzB, tzC, tzD, tzE, tzF]
  refine tkq (i := 7) (v := ?_) rfl (by kernel_rfl) (fun _ _ _ h => h) (by rfl) ?_ (by assumption) ?_
  rotate_left 1
  · ((intro w hSw; (try dsimp only at hSw); go_simp) <;> with_reducible rfl)
  try simp only [Act.put, tzA, tzB, tzC, tzD, tzE, tzF]
  refine tkq (i := 8) (v := ?_) rfl (by kernel_rfl) (fun _ _ _ h => h) (by rfl) ?_ (by assumption) ?_
  rotate_left 1
  · ((intro w hSw; (try dsimp only at hSw); go_simp) <;> with_reducible rfl)
  try simp only [Act.put, tzA, tzB, tzC, tzD, tzE, tzF]
  refine tkq (i := 9) (v := ?_) rfl (by kernel_rfl) (fun _ _ _ h => h) (by rfl) ?_ (by assumption) ?_
  rotate_left 1
  · ((intro w hSw; (try dsimp only at hSw); have c2 := (cells_at (HM.out _ hSw).box 2).1; go_simp) <;> with_reducible rfl)
  try simp only [Act.put, tzA, tzB, tzC, tzD, tzE, tzF]
  refine tkq (i := 10) (v := ?_) rfl (by kernel_rfl) (fun _ _ _ h => h) (by rfl) ?_ (by assumption) ?_
  rotate_left 1
  · ((intro w hSw; (try dsimp only at hSw); go_simp) <;> with_reducible rfl)
  try simp only [Act.put, tzA, tzB, tzC, tzD, tzE, tzF]
  refine tkq (i := 11) (v := ?_) rfl (by kernel_rfl) (fun _ _ _ h => h) (by rfl) ?_ (by assumption) ?_
  rotate_left 1
  · ((intro w hSw; (try dsimp only at hSw); go_simp) <;> with_reducible rfl)
  try simp only [Act.put, tzA, tzB, tzC, tzD, tzE, tzF]
  refine wpAnyH_ready (rs := [12]) (by kernel_rfl) (by simp) ?_
  refine (AllReadyH.cons rfl (fun K hK => ?_) AllReadyH.nil)
  rw [if_pos (by rfl)]
  refine wp_store_mid 88 (.tmp 8) (.tmp 67) (by rfl) (w.heap.size + 2) 0 #[.int .u8 9, .int .u64 0, .string ⟨#[]⟩, .string ⟨#[]⟩, .int .u32 0, .int .u64 0, .int .i64 0, .int .i64 0, .slice va n0 vc, .int .u64 (ep : Int), .int .u64 (m.ids : Int), .bool false] (by rfl) (by rfl) (by have h := there_block (w := W1.drew) HG.out; exact h) (by kernel_rfl) (by simp [Value.oneCell']) ?_
  have HQ := Lib.hid (setCells_whole (w := W1.drew) (cells := #[.int .u8 9, .int .u64 0, .string ⟨#[]⟩, .string ⟨#[]⟩, .int .u32 0, .int .u64 0, .int .i64 0, .int .i64 0, .slice va n0 vc, .int .u64 (ep : Int), .int .u64 (m.ids : Int), .bool false]) HG.out (by rfl))
  have hgr := (setCells_grown #[.int .u8 9, .int .u64 0, .string ⟨#[]⟩, .string ⟨#[]⟩, .int .u32 0, .int .u64 0, .int .i64 0, .int .i64 0, .slice va n0 vc, .int .u64 (ep : Int), .int .u64 (m.ids : Int), .bool false].toList 0 W1.drew (w.heap.size + 2)).1
  have HFJ := Lib.hid (below_grown (bdrew HK.out.low) HK.out.low.size hgr (by omega))
  clear hgr
  refine hK.out _ _ HFJ.out (fun hHeld2 => ?_)
  clear hK K
  try simp only [Act.put, tzD, tzE, tzF]
  refine wpAnyH_done (by kernel_rfl) ?_ _
  clear hHeld2
  go_wp2_with (first | ((with_reducible show bodyPost _ _ _ Exit.ret _ _); exact bodyPost_ret (v := .agg #[.int .u8 9, .int .u64 0, .string ⟨#[]⟩, .string ⟨#[]⟩, .int .u32 0, .int .u64 0, .int .i64 0, .int .i64 0, .slice va n0 vc, .int .u64 (ep : Int), .int .u64 (m.ids : Int), .bool false]) (results_row_one rfl _ _ (w.heap.size + 2) _ _ _ _ (by rfl) HQ.out Tryz.underlying88 rfl (by kernel_rfl)) rfl ⟨_, rfl, (HM.out _ HFJ.out).row, HFJ.out⟩) | fail)
set_option maxRecDepth 100000 in
set_option maxHeartbeats 8000000 in
theorem rCount9_any (h : RMap w r v m) (hfew : m.L.length ≤ 1000000) {n u : Nat} (hid : m.ids < 18446744073709551615) (hwv : was.value.size ≤ maxLen) (hp : parseN (bs was.value) = some n) (hco : ∀ W, Calls Tryz.prog 92 #[.int .u64 (n : Int), .int .u64 BY] W fun e w' => e = .returned (.int .u64 (u : Int)) ∧ W = w') (htx : ∀ W, Calls Tryz.prog 94 #[.int .u64 (u : Int)] W fun e w' => e = .returned (.string ⟨(Lib.decDigits u).toArray⟩) ∧ W = w') : Calls Tryz.prog 55 #[.pointer (some ⟨r, 0, none⟩), .agg #[.int .u8 9, .string KY, .string V, .int .u32 F, .int .i64 X, .int .u64 ID, .int .u64 BY], .int .u64 (ep : Int), was.val] w fun e w' => ∃ v', e = .returned (.agg #[.int .u8 8, .int .u64 (u : Int), .string ⟨#[]⟩, .string ⟨#[]⟩, .int .u32 0, .int .u64 0, .int .i64 0, .int .i64 0, v', .int .u64 (ep : Int), .int .u64 ((m.ids + 1 : Nat) : Int), .bool false]) ∧ IRow w' v' (withoutL m.L KY ++ [{ was with id := ((m.ids + 1 : Nat) : Int), value := ⟨(Lib.decDigits u).toArray⟩ }]) ∧ Below w.heap.size w w' := by
  have HM := Lib.hid (fun W (hb : Below w.heap.size w W) => h.below hb)
  have HF := Lib.hid hfew
  have HR := Lib.hid h.lt
  have HPA := Lib.hid (fun W => refParse_any was.value W hwv)
  have hp2 := parseV_some hp
  rw [hp2] at HPA
  have HCO := Lib.hid hco
  have HTX := Lib.hid htx
  obtain ⟨nx, hnx⟩ : ∃ k, k = m.ids + 1 := ⟨_, rfl⟩
  rw [← hnx]
  have w1 : IntKind.u64.wrap ((m.ids : Int) + 1) = (nx : Int) := by rw [IntKind.wrap_u64]; omega
  obtain ⟨D, hD⟩ : ∃ d, d = (⟨(Lib.decDigits u).toArray⟩ : ByteArray) := ⟨_, rfl⟩
  rw [← hD] at HTX ⊢
  clear hwv hp hp2 hco htx hnx hid hD
  clear h hfew
  go_enter Tryz.func55, Tryz.ntmps55
  go_upto_region 1 with fail
  obtain ⟨W0, hW0⟩ : ∃ Y, Y = ((w.alloc (.cells #[.int .u8 9, .string KY, .string V, .int .u32 F, .int .i64 X, .int .u64 ID, .int .u64 BY] 35)).alloc (.cells #[.string was.key, .string was.value, .int .u32 was.flags, .int .u64 was.id, .int .i64 was.dies, .int .i64 was.gen] 38)).alloc (.cells givRZero 88) := ⟨_, rfl⟩
  have hb0 : Below w.heap.size w W0 := by rw [hW0]; exact (below_two w _ _).alloc (by rw [size_at, size_at]; omega) _
  have h3 := heap_three w (.cells #[.int .u8 9, .string KY, .string V, .int .u32 F, .int .i64 X, .int .u64 ID, .int .u64 BY] 35) (.cells #[.string was.key, .string was.value, .int .u32 was.flags, .int .u64 was.id, .int .i64 was.dies, .int .i64 was.gen] 38) (.cells givRZero 88)
  rw [← hW0] at h3 ⊢
  obtain ⟨hx0, hi0, hg0, hs0⟩ := h3
  have HB0 := Lib.hid hb0
  have HX0 := Lib.hid hx0
  have HI0 := Lib.hid hi0
  have HG0 := Lib.hid hg0
  have HS0 := Lib.hid hs0
  have k1 : W0.cell? ⟨w.heap.size, 1, none⟩ = some (.string KY) := (cells_at hx0 1).1
  clear hW0 hb0 hx0 hi0 hg0 hs0
  go_wp2_with fail
  clear k1
  refine (rWithout_any (k := KY) (HM.out W0 HB0.out) (Nat.le_trans HF.out (by omega))).mono ?_
  rintro e W1 ⟨v', rfl, hj⟩
  have hk : ItemK W0.heap.size w W1 v' (withoutL m.L KY) := ⟨hj.row, HB0.out.trans (hj.low.mono HB0.out.size), HB0.out.size, hj.low.size⟩
  obtain ⟨a1, c1, hv1⟩ := Row.len hk.irow
  obtain ⟨n1, hn1⟩ : ∃ k, k = (withoutL m.L KY).length := ⟨_, rfl⟩
  have HN1 := Lib.hid (show (withoutL m.L KY).length ≤ 1000000 from Nat.le_trans (without_len _ _) HF.out)
  rw [← hn1] at hv1
  subst hv1
  have HK := Lib.hid hk
  have HX := Lib.hid ((hj.low.block w.heap.size (by rw [HS0.out]; omega)).trans HX0.out)
  have HI := Lib.hid ((hj.low.block (w.heap.size + 1) (by rw [HS0.out]; omega)).trans HI0.out)
  have HG := Lib.hid ((hj.low.block (w.heap.size + 2) (by rw [HS0.out]; omega)).trans HG0.out)
  have HBE := Lib.hid (show w.heap.size + 2 < W0.heap.size from by rw [HS0.out]; omega)
  clear hk hj hn1 HX0 HI0 HG0 HS0 HB0
  obtain ⟨B, hB⟩ : ∃ b, b = W0.heap.size := ⟨_, rfl⟩
  rw [← hB] at HK HBE
  clear hB
  have c2 : W1.cell? ⟨r, 2, none⟩ = some (.int .u64 (m.ids : Int)) := (cells_at (HM.out W1 HK.out.low).box 2).1
  have k0 : W1.cell? ⟨w.heap.size, 0, none⟩ = some (.int .u8 9) := (cells_at HX.out 0).1
  have k6 : W1.cell? ⟨w.heap.size, 6, none⟩ = some (.int .u64 BY) := (cells_at HX.out 6).1
  have y1 : W1.cell? ⟨w.heap.size + 1, 1, none⟩ = some (.string was.value) := (cells_at HI.out 1).1
  have f1 : W1.frozen? ⟨w.heap.size + 1, 1, none⟩ = false := (cells_at HI.out 1).2
  have y3 : W1.cell? ⟨w.heap.size + 1, 3, none⟩ = some (.int .u64 was.id) := (cells_at HI.out 3).1
  have f3 : W1.frozen? ⟨w.heap.size + 1, 3, none⟩ = false := (cells_at HI.out 3).2
  go_wp2_with fail
  refine (HPA.out _).mono ?_
  rintro e W2 ⟨rfl, rfl⟩
  go_wp2_with fail
  refine (HCO.out _).mono ?_
  rintro e W2 ⟨rfl, rfl⟩
  go_upto_region 14 with fail
  go_wp2_with fail
  refine (HTX.out _).mono ?_
  rintro e W2 ⟨rfl, rfl⟩
  obtain ⟨i0, hi0, hz0, hz1, hz2⟩ := info_parts infoItem
  have Hi := Lib.hid hi0
  have Hz := Lib.hid (And.intro hz0 (And.intro hz1 hz2))
  clear hi0 hz0 hz1 hz2
  go_upto_region 15 with fail
  clear k0 k6 y1 f1 y3 f3 c2
  obtain ⟨W3, hW3⟩ : ∃ Y, Y = ((W1.setCell ⟨w.heap.size + 1, 3, none⟩ (.int .u64 (nx : Int))).setCell ⟨w.heap.size + 1, 1, none⟩ (.string D)) := ⟨_, rfl⟩
  have hk3 := (HK.out.set (q := w.heap.size + 1) (by omega) (by have := HBE.out; omega) 3 (.int .u64 (nx : Int))).set (q := w.heap.size + 1) (by omega) (by have := HBE.out; omega) 1 (.string D)
  have hi3 : ((W1.setCell ⟨w.heap.size + 1, 3, none⟩ (.int .u64 (nx : Int))).setCell ⟨w.heap.size + 1, 1, none⟩ (.string D)).heap[w.heap.size + 1]? = some (.cells #[.string was.key, .string D, .int .u32 was.flags, .int .u64 (nx : Int), .int .i64 was.dies, .int .i64 was.gen] 38 (0, 0)) := Go.Joins.block_setCell (Go.Joins.block_setCell HI.out _) _
  have hg3 : ((W1.setCell ⟨w.heap.size + 1, 3, none⟩ (.int .u64 (nx : Int))).setCell ⟨w.heap.size + 1, 1, none⟩ (.string D)).heap[w.heap.size + 2]? = some (.cells givRZero 88 (0, 0)) := by rw [Below.heap_setCell _ _ _ _ (by show w.heap.size + 2 ≠ w.heap.size + 1; omega), Below.heap_setCell _ _ _ _ (by show w.heap.size + 2 ≠ w.heap.size + 1; omega)]; exact HG.out
  rw [← hW3] at hk3 hi3 hg3 ⊢
  clear hW3 HK HI HG HX
  have HK := Lib.hid hk3
  have HI := Lib.hid hi3
  have HG := Lib.hid hg3
  clear hk3 hi3 hg3
  have qa : ∀ W : World, (Instr.build 40 #[(0, .int .u8 8), (1, .int .u64 (u : Int))]).run Tryz.prog W = .ok (.agg #[.int .u8 8, .int .u64 (u : Int), .string ⟨#[]⟩, .string ⟨#[]⟩, .int .u32 0, .int .u64 0, .int .i64 0, .int .i64 0]) W := fun W => by kernel_rfl
  have qm : ∀ (a : Option Addr) (n k : Nat) (W : World), (Instr.build 31 #[(0, .slice a n k), (1, .int .u64 (ep : Int)), (2, .int .u64 (nx : Int))]).run Tryz.prog W = .ok (.agg #[.slice a n k, .int .u64 (ep : Int), .int .u64 (nx : Int)]) W := fun a n k W => by kernel_rfl
  have qg : ∀ (a : Option Addr) (n k : Nat) (W : World), (Instr.build 88 #[(0, .agg #[.int .u8 8, .int .u64 (u : Int), .string ⟨#[]⟩, .string ⟨#[]⟩, .int .u32 0, .int .u64 0, .int .i64 0, .int .i64 0]), (1, .agg #[.slice a n k, .int .u64 (ep : Int), .int .u64 (nx : Int)])]).run Tryz.prog W = .ok (.agg #[.int .u8 8, .int .u64 (u : Int), .string ⟨#[]⟩, .string ⟨#[]⟩, .int .u32 0, .int .u64 0, .int .i64 0, .int .i64 0, .slice a n k, .int .u64 (ep : Int), .int .u64 (nx : Int), .bool false]) W := fun a n k W => by kernel_rfl
  have HS1 := Lib.hid (show StC w #[.string was.key, .string D, .int .u32 was.flags, .int .u64 (nx : Int), .int .i64 was.dies, .int .i64 was.gen] W3 from ⟨HI.out, HK.out.low⟩)
  refine wp_region_held_drew (S := StC w #[.string was.key, .string D, .int .u32 was.flags, .int .u64 (nx : Int), .int .i64 was.dies, .int .i64 was.gen]) (by kernel_rfl) (HS1.out.below (bdrew (Below.refl _ _))) (fun hHeld => ?_)
  refine tkq (i := 0) (v := ?_) rfl (by kernel_rfl) (fun _ _ _ h => h) (by rfl) ?_ (by assumption) ?_
  rotate_left 1
  · ((intro w hSw; (try dsimp only at hSw); go_simp) <;> with_reducible rfl)
  try simp only [Act.put, tzA, tzB, tzC, tzD, tzE]
  refine tkq (i := 1) (v := ?_) rfl (by kernel_rfl) (fun _ _ _ h => h) (by rfl) ?_ (by assumption) ?_
  rotate_left 1
  · ((intro w hSw; (try dsimp only at hSw); go_simp) <;> with_reducible rfl)
  try simp only [Act.put, tzA, tzB, tzC, tzD, tzE, tzF]
  refine tkq (i := 2) (v := ?_) rfl (by kernel_rfl) (fun _ _ _ h => h) (by rfl) ?_ (by assumption) ?_
  rotate_left 1
  · ((intro w hSw; (try dsimp only at hSw); go_simp) <;> with_reducible rfl)
  try simp only [Act.put, tzA, tzB, tzC, tzD, tzE, tzF]
  refine tkq (i := 3) (v := ?_) rfl (by kernel_rfl) (fun _ _ _ h => h) (by rfl) ?_ (by assumption) ?_
  rotate_left 1
  · ((intro w hSw; (try dsimp only at hSw); have hq := hSw.item; have x0 := (cells_at hq 0).1; have x1 := (cells_at hq 1).1; have x2 := (cells_at hq 2).1; have x3 := (cells_at hq 3).1; have x4 := (cells_at hq 4).1; have x5 := (cells_at hq 5).1; go_simp) <;> with_reducible rfl)
  try simp only [Act.put, tzA, tzB, tzC, tzD, tzE, tzF]
  refine tkq (i := 6) (v := ?_) rfl (by kernel_rfl) (fun _ _ _ h => h) (by rfl) ?_ (by assumption) ?_
  rotate_left 1
  · ((intro w hSw; (try dsimp only at hSw); go_simp) <;> with_reducible rfl)
  try simp only [Act.put, tzA, tzB, tzC, tzD, tzE, tzF]
  refine tkq (i := 7) (v := ?_) rfl (by kernel_rfl) (fun _ _ _ h => h) (by rfl) ?_ (by assumption) ?_
  rotate_left 1
  · ((intro w hSw; (try dsimp only at hSw); go_simp) <;> with_reducible rfl)
  try simp only [Act.put, tzA, tzB, tzC, tzD, tzE, tzF]
  refine tkq (i := 8) (v := ?_) rfl (by kernel_rfl) (fun _ _ _ h => h) (by rfl) ?_ (by assumption) ?_
  rotate_left 1
  · ((intro w hSw; (try dsimp only at hSw); go_simp) <;> with_reducible rfl)
  try simp only [Act.put, tzA, tzB, tzC, tzD, tzE, tzF]
  refine tkq (i := 9) (v := ?_) rfl (by kernel_rfl) (fun _ _ _ h => h) (by rfl) ?_ (by assumption) ?_
  rotate_left 1
  · ((intro w hSw; (try dsimp only at hSw); go_simp) <;> with_reducible rfl)
  try simp only [Act.put, tzA, tzB, tzC, tzD, tzE, tzF]
  refine tkq (i := 10) (v := ?_) rfl (by kernel_rfl) (fun _ _ _ h => h) (by rfl) ?_ (by assumption) ?_
  rotate_left 1
  · ((intro w hSw; (try dsimp only at hSw); have c2 := (cells_at (HM.out _ hSw.low).box 2).1; go_simp) <;> with_reducible rfl)
  try simp only [Act.put, tzA, tzB, tzC, tzD, tzE, tzF]
  refine tkq (i := 11) (v := ?_) rfl (by kernel_rfl) (fun _ _ _ h => h) (by rfl) ?_ (by assumption) ?_
  rotate_left 1
  · ((intro w hSw; (try dsimp only at hSw); go_simp) <;> with_reducible rfl)
  try simp only [Act.put, tzA, tzB, tzC, tzD, tzE, tzF]
  refine wpAnyH_ready (rs := [4]) (by kernel_rfl) (by simp) ?_
  refine (AllReadyH.cons rfl (fun K hK => ?_) AllReadyH.nil)
  go_simp
  have HK2 := Lib.hid (HK.out.below (show Below W3.heap.size W3 (World.drew (W3.alloc (.cells #[.string was.key, .string D, .int .u32 was.flags, .int .u64 (nx : Int), .int .i64 was.dies, .int .i64 was.gen] 38))) from bdrew ((Below.refl _ _).alloc (Nat.le_refl _) _)))
  have HBK := Lib.hid (show (World.drew (W3.alloc (.cells #[.string was.key, .string D, .int .u32 was.flags, .int .u64 (nx : Int), .int .i64 was.dies, .int .i64 was.gen] 38))).heap[W3.heap.size]? = some (.cells #[.string was.key, .string D, .int .u32 was.flags, .int .u64 (nx : Int), .int .i64 was.dies, .int .i64 was.gen] 38 (0, 0)) from heap_alloc_new _ _)
  have HG2 := Lib.hid (((show Below W3.heap.size W3 (World.drew (W3.alloc (.cells #[.string was.key, .string D, .int .u32 was.flags, .int .u64 (nx : Int), .int .i64 was.dies, .int .i64 was.gen] 38))) from bdrew ((Below.refl _ _).alloc (Nat.le_refl _) _)).block (w.heap.size + 2) (Array.getElem?_eq_some_iff.1 HG.out).1).trans HG.out)
  refine hK.out _ _ (HS1.out.below (show Below W3.heap.size W3 (World.drew (W3.alloc (.cells #[.string was.key, .string D, .int .u32 was.flags, .int .u64 (nx : Int), .int .i64 was.dies, .int .i64 was.gen] 38))) from bdrew ((Below.refl _ _).alloc (Nat.le_refl _) _))) (fun hHeld2 => ?_)
  clear hK K
  try simp only [Act.put, tzA, tzB, tzC, tzD, tzE, tzF]
  refine wpAnyH_ready (rs := [5]) (by kernel_rfl) (by simp) ?_
  refine (AllReadyH.cons rfl (fun K hK => ?_) AllReadyH.nil)
  rw [if_pos (by rfl)]
  refine wp_append_own _ (.tmp 90) (.tmp 92) 28 (by rfl) B 38 i0 (.agg itemZero) 6 64 Tryz.underlying28 Hi.out Hz.out.1 Hz.out.2.1 Hz.out.2.2 rfl (by omega) _ _ _ (by rfl) HK2.out.row ⟨W3.heap.size, 0, none⟩ 1 1 (itemCells { was with id := (nx : Int), value := D }) (by rfl) rfl (World.news_of_block (cs := (itemCells { was with id := (nx : Int), value := D }).toArray) HBK.out) (by simp [Value.oneCell']) (by have := HN1.out; unfold maxLen; omega) (by have := HN1.out; omega) HK2.out.bs ?_
  intro v2 w2 hown2 hg2 _
  obtain ⟨hk2, hot⟩ := HK2.out.push (x := { was with id := (nx : Int), value := D }) hown2 hg2
  obtain ⟨a2, c2, hv2⟩ := Row.len hk2.irow
  obtain ⟨n2, hn2⟩ : ∃ k, k = (withoutL m.L KY ++ ([{ was with id := (nx : Int), value := D }] : List ItemD)).length := ⟨_, rfl⟩
  rw [← hn2] at hv2
  subst hv2
  have HK3 := Lib.hid hk2
  have HG3 := Lib.hid ((hot (w.heap.size + 2) HBE.out).trans HG2.out)
  have HS2 := Lib.hid (show StC w #[.string was.key, .string D, .int .u32 was.flags, .int .u64 (nx : Int), .int .i64 was.dies, .int .i64 was.gen] w2 from ⟨(hot (w.heap.size + 1) (by have := HBE.out; omega)).trans (HS1.out.below (show Below W3.heap.size W3 (World.drew (W3.alloc (.cells #[.string was.key, .string D, .int .u32 was.flags, .int .u64 (nx : Int), .int .i64 was.dies, .int .i64 was.gen] 38))) from bdrew ((Below.refl _ _).alloc (Nat.le_refl _) _))).item, hk2.low⟩)
  clear hown2 hg2 hk2 hn2 hot
  refine hK.out _ _ HS2.out (fun hHeld2 => ?_)
  clear hK K
  try simp only [Act.put, tzA, tzB, tzC, tzD, tzE, tzF]
  refine tkq (i := 12) (v := ?_) rfl (by kernel_rfl) (fun _ _ _ h => h) (by rfl) ?_ (by assumption) ?_
  rotate_left 1
  · ((intro w hSw; (try dsimp only at hSw); go_simp) <;> with_reducible rfl)
  try simp only [Act.put, tzA, tzB, tzC, tzD, tzE, tzF]
  refine tkq (i := 13) (v := ?_) rfl (by kernel_rfl) (fun _ _ _ h => h) (by rfl) ?_ (by assumption) ?_
  rotate_left 1
  · ((intro w hSw; (try dsimp only at hSw); go_simp) <;> with_reducible rfl)
  try simp only [Act.put, tzA, tzB, tzC, tzD, tzE, tzF]
  refine wpAnyH_ready (rs := [14]) (by kernel_rfl) (by simp) ?_
  refine (AllReadyH.cons rfl (fun K hK => ?_) AllReadyH.nil)
  rw [if_pos (by rfl)]
  refine wp_store_mid 88 (.tmp 8) (.tmp 101) (by rfl) (w.heap.size + 2) 0 #[.int .u8 8, .int .u64 (u : Int), .string ⟨#[]⟩, .string ⟨#[]⟩, .int .u32 0, .int .u64 0, .int .i64 0, .int .i64 0, .slice a2 n2 c2, .int .u64 (ep : Int), .int .u64 (nx : Int), .bool false] (by rfl) (by rfl) (by have h := there_block HG3.out; exact h) (by kernel_rfl) (by simp [Value.oneCell']) ?_
  have HQ := Lib.hid (setCells_whole (cells := #[.int .u8 8, .int .u64 (u : Int), .string ⟨#[]⟩, .string ⟨#[]⟩, .int .u32 0, .int .u64 0, .int .i64 0, .int .i64 0, .slice a2 n2 c2, .int .u64 (ep : Int), .int .u64 (nx : Int), .bool false]) HG3.out (by rfl))
  have hgr := (setCells_grown #[.int .u8 8, .int .u64 (u : Int), .string ⟨#[]⟩, .string ⟨#[]⟩, .int .u32 0, .int .u64 0, .int .i64 0, .int .i64 0, .slice a2 n2 c2, .int .u64 (ep : Int), .int .u64 (nx : Int), .bool false].toList 0 w2 (w.heap.size + 2)).1
  have HFJ := Lib.hid (HK3.out.store hgr (by omega) HBE.out)
  have HS3 := Lib.hid (HS2.out.store hgr)
  clear hgr
  refine hK.out _ _ HS3.out (fun hHeld2 => ?_)
  clear hK K
  try simp only [Act.put, tzD, tzE, tzF]
  refine wpAnyH_done (by kernel_rfl) ?_ _
  clear hHeld2
  go_wp2_with (first | ((with_reducible show bodyPost _ _ _ Exit.ret _ _); exact bodyPost_ret (v := .agg #[.int .u8 8, .int .u64 (u : Int), .string ⟨#[]⟩, .string ⟨#[]⟩, .int .u32 0, .int .u64 0, .int .i64 0, .int .i64 0, .slice a2 n2 c2, .int .u64 (ep : Int), .int .u64 (nx : Int), .bool false]) (results_row_one rfl _ _ (w.heap.size + 2) _ _ _ _ (by rfl) HQ.out Tryz.underlying88 rfl (by kernel_rfl)) rfl ⟨_, rfl, HFJ.out.irow, HFJ.out.low⟩) | fail)
set_option maxRecDepth 100000 in
set_option maxHeartbeats 8000000 in
theorem rCount10_any (h : RMap w r v m) (hfew : m.L.length ≤ 1000000) {n u : Nat} (hid : m.ids < 18446744073709551615) (hwv : was.value.size ≤ maxLen) (hp : parseN (bs was.value) = some n) (hco : ∀ W, Calls Tryz.prog 93 #[.int .u64 (n : Int), .int .u64 BY] W fun e w' => e = .returned (.int .u64 (u : Int)) ∧ W = w') (htx : ∀ W, Calls Tryz.prog 94 #[.int .u64 (u : Int)] W fun e w' => e = .returned (.string ⟨(Lib.decDigits u).toArray⟩) ∧ W = w') : Calls Tryz.prog 55 #[.pointer (some ⟨r, 0, none⟩), .agg #[.int .u8 10, .string KY, .string V, .int .u32 F, .int .i64 X, .int .u64 ID, .int .u64 BY], .int .u64 (ep : Int), was.val] w fun e w' => ∃ v', e = .returned (.agg #[.int .u8 8, .int .u64 (u : Int), .string ⟨#[]⟩, .string ⟨#[]⟩, .int .u32 0, .int .u64 0, .int .i64 0, .int .i64 0, v', .int .u64 (ep : Int), .int .u64 ((m.ids + 1 : Nat) : Int), .bool false]) ∧ IRow w' v' (withoutL m.L KY ++ [{ was with id := ((m.ids + 1 : Nat) : Int), value := ⟨(Lib.decDigits u).toArray⟩ }]) ∧ Below w.heap.size w w' := by
  have HM := Lib.hid (fun W (hb : Below w.heap.size w W) => h.below hb)
  have HF := Lib.hid hfew
  have HR := Lib.hid h.lt
  have HPA := Lib.hid (fun W => refParse_any was.value W hwv)
  have hp2 := parseV_some hp
  rw [hp2] at HPA
  have HCO := Lib.hid hco
  have HTX := Lib.hid htx
  obtain ⟨nx, hnx⟩ : ∃ k, k = m.ids + 1 := ⟨_, rfl⟩
  rw [← hnx]
  have w1 : IntKind.u64.wrap ((m.ids : Int) + 1) = (nx : Int) := by rw [IntKind.wrap_u64]; omega
  obtain ⟨D, hD⟩ : ∃ d, d = (⟨(Lib.decDigits u).toArray⟩ : ByteArray) := ⟨_, rfl⟩
  rw [← hD] at HTX ⊢
  clear hwv hp hp2 hco htx hnx hid hD
  clear h hfew
  go_enter Tryz.func55, Tryz.ntmps55
  go_upto_region 1 with fail
  obtain ⟨W0, hW0⟩ : ∃ Y, Y = ((w.alloc (.cells #[.int .u8 10, .string KY, .string V, .int .u32 F, .int .i64 X, .int .u64 ID, .int .u64 BY] 35)).alloc (.cells #[.string was.key, .string was.value, .int .u32 was.flags, .int .u64 was.id, .int .i64 was.dies, .int .i64 was.gen] 38)).alloc (.cells givRZero 88) := ⟨_, rfl⟩
  have hb0 : Below w.heap.size w W0 := by rw [hW0]; exact (below_two w _ _).alloc (by rw [size_at, size_at]; omega) _
  have h3 := heap_three w (.cells #[.int .u8 10, .string KY, .string V, .int .u32 F, .int .i64 X, .int .u64 ID, .int .u64 BY] 35) (.cells #[.string was.key, .string was.value, .int .u32 was.flags, .int .u64 was.id, .int .i64 was.dies, .int .i64 was.gen] 38) (.cells givRZero 88)
  rw [← hW0] at h3 ⊢
  obtain ⟨hx0, hi0, hg0, hs0⟩ := h3
  have HB0 := Lib.hid hb0
  have HX0 := Lib.hid hx0
  have HI0 := Lib.hid hi0
  have HG0 := Lib.hid hg0
  have HS0 := Lib.hid hs0
  have k1 : W0.cell? ⟨w.heap.size, 1, none⟩ = some (.string KY) := (cells_at hx0 1).1
  clear hW0 hb0 hx0 hi0 hg0 hs0
  go_wp2_with fail
  clear k1
  refine (rWithout_any (k := KY) (HM.out W0 HB0.out) (Nat.le_trans HF.out (by omega))).mono ?_
  rintro e W1 ⟨v', rfl, hj⟩
  have hk : ItemK W0.heap.size w W1 v' (withoutL m.L KY) := ⟨hj.row, HB0.out.trans (hj.low.mono HB0.out.size), HB0.out.size, hj.low.size⟩
  obtain ⟨a1, c1, hv1⟩ := Row.len hk.irow
  obtain ⟨n1, hn1⟩ : ∃ k, k = (withoutL m.L KY).length := ⟨_, rfl⟩
  have HN1 := Lib.hid (show (withoutL m.L KY).length ≤ 1000000 from Nat.le_trans (without_len _ _) HF.out)
  rw [← hn1] at hv1
  subst hv1
  have HK := Lib.hid hk
  have HX := Lib.hid ((hj.low.block w.heap.size (by rw [HS0.out]; omega)).trans HX0.out)
  have HI := Lib.hid ((hj.low.block (w.heap.size + 1) (by rw [HS0.out]; omega)).trans HI0.out)
  have HG := Lib.hid ((hj.low.block (w.heap.size + 2) (by rw [HS0.out]; omega)).trans HG0.out)
  have HBE := Lib.hid (show w.heap.size + 2 < W0.heap.size from by rw [HS0.out]; omega)
  clear hk hj hn1 HX0 HI0 HG0 HS0 HB0
  obtain ⟨B, hB⟩ : ∃ b, b = W0.heap.size := ⟨_, rfl⟩
  rw [← hB] at HK HBE
  clear hB
  have c2 : W1.cell? ⟨r, 2, none⟩ = some (.int .u64 (m.ids : Int)) := (cells_at (HM.out W1 HK.out.low).box 2).1
  have k0 : W1.cell? ⟨w.heap.size, 0, none⟩ = some (.int .u8 10) := (cells_at HX.out 0).1
  have k6 : W1.cell? ⟨w.heap.size, 6, none⟩ = some (.int .u64 BY) := (cells_at HX.out 6).1
  have y1 : W1.cell? ⟨w.heap.size + 1, 1, none⟩ = some (.string was.value) := (cells_at HI.out 1).1
  have f1 : W1.frozen? ⟨w.heap.size + 1, 1, none⟩ = false := (cells_at HI.out 1).2
  have y3 : W1.cell? ⟨w.heap.size + 1, 3, none⟩ = some (.int .u64 was.id) := (cells_at HI.out 3).1
  have f3 : W1.frozen? ⟨w.heap.size + 1, 3, none⟩ = false := (cells_at HI.out 3).2
  go_wp2_with fail
  refine (HPA.out _).mono ?_
  rintro e W2 ⟨rfl, rfl⟩
  go_wp2_with fail
  refine (HCO.out _).mono ?_
  rintro e W2 ⟨rfl, rfl⟩
  go_upto_region 14 with fail
  go_wp2_with fail
  refine (HTX.out _).mono ?_
  rintro e W2 ⟨rfl, rfl⟩
  obtain ⟨i0, hi0, hz0, hz1, hz2⟩ := info_parts infoItem
  have Hi := Lib.hid hi0
  have Hz := Lib.hid (And.intro hz0 (And.intro hz1 hz2))
  clear hi0 hz0 hz1 hz2
  go_upto_region 15 with fail
  clear k0 k6 y1 f1 y3 f3 c2
  obtain ⟨W3, hW3⟩ : ∃ Y, Y = ((W1.setCell ⟨w.heap.size + 1, 3, none⟩ (.int .u64 (nx : Int))).setCell ⟨w.heap.size + 1, 1, none⟩ (.string D)) := ⟨_, rfl⟩
  have hk3 := (HK.out.set (q := w.heap.size + 1) (by omega) (by have := HBE.out; omega) 3 (.int .u64 (nx : Int))).set (q := w.heap.size + 1) (by omega) (by have := HBE.out; omega) 1 (.string D)
  have hi3 : ((W1.setCell ⟨w.heap.size + 1, 3, none⟩ (.int .u64 (nx : Int))).setCell ⟨w.heap.size + 1, 1, none⟩ (.string D)).heap[w.heap.size + 1]? = some (.cells #[.string was.key, .string D, .int .u32 was.flags, .int .u64 (nx : Int), .int .i64 was.dies, .int .i64 was.gen] 38 (0, 0)) := Go.Joins.block_setCell (Go.Joins.block_setCell HI.out _) _
  have hg3 : ((W1.setCell ⟨w.heap.size + 1, 3, none⟩ (.int .u64 (nx : Int))).setCell ⟨w.heap.size + 1, 1, none⟩ (.string D)).heap[w.heap.size + 2]? = some (.cells givRZero 88 (0, 0)) := by rw [Below.heap_setCell _ _ _ _ (by show w.heap.size + 2 ≠ w.heap.size + 1; omega), Below.heap_setCell _ _ _ _ (by show w.heap.size + 2 ≠ w.heap.size + 1; omega)]; exact HG.out
  rw [← hW3] at hk3 hi3 hg3 ⊢
  clear hW3 HK HI HG HX
  have HK := Lib.hid hk3
  have HI := Lib.hid hi3
  have HG := Lib.hid hg3
  clear hk3 hi3 hg3
  have qa : ∀ W : World, (Instr.build 40 #[(0, .int .u8 8), (1, .int .u64 (u : Int))]).run Tryz.prog W = .ok (.agg #[.int .u8 8, .int .u64 (u : Int), .string ⟨#[]⟩, .string ⟨#[]⟩, .int .u32 0, .int .u64 0, .int .i64 0, .int .i64 0]) W := fun W => by kernel_rfl
  have qm : ∀ (a : Option Addr) (n k : Nat) (W : World), (Instr.build 31 #[(0, .slice a n k), (1, .int .u64 (ep : Int)), (2, .int .u64 (nx : Int))]).run Tryz.prog W = .ok (.agg #[.slice a n k, .int .u64 (ep : Int), .int .u64 (nx : Int)]) W := fun a n k W => by kernel_rfl
  have qg : ∀ (a : Option Addr) (n k : Nat) (W : World), (Instr.build 88 #[(0, .agg #[.int .u8 8, .int .u64 (u : Int), .string ⟨#[]⟩, .string ⟨#[]⟩, .int .u32 0, .int .u64 0, .int .i64 0, .int .i64 0]), (1, .agg #[.slice a n k, .int .u64 (ep : Int), .int .u64 (nx : Int)])]).run Tryz.prog W = .ok (.agg #[.int .u8 8, .int .u64 (u : Int), .string ⟨#[]⟩, .string ⟨#[]⟩, .int .u32 0, .int .u64 0, .int .i64 0, .int .i64 0, .slice a n k, .int .u64 (ep : Int), .int .u64 (nx : Int), .bool false]) W := fun a n k W => by kernel_rfl
  have HS1 := Lib.hid (show StC w #[.string was.key, .string D, .int .u32 was.flags, .int .u64 (nx : Int), .int .i64 was.dies, .int .i64 was.gen] W3 from ⟨HI.out, HK.out.low⟩)
  refine wp_region_held_drew (S := StC w #[.string was.key, .string D, .int .u32 was.flags, .int .u64 (nx : Int), .int .i64 was.dies, .int .i64 was.gen]) (by kernel_rfl) (HS1.out.below (bdrew (Below.refl _ _))) (fun hHeld => ?_)
  refine tkq (i := 0) (v := ?_) rfl (by kernel_rfl) (fun _ _ _ h => h) (by rfl) ?_ (by assumption) ?_
  rotate_left 1
  · ((intro w hSw; (try dsimp only at hSw); go_simp) <;> with_reducible rfl)
  try simp only [Act.put, tzA, tzB, tzC, tzD, tzE]
  refine tkq (i := 1) (v := ?_) rfl (by kernel_rfl) (fun _ _ _ h => h) (by rfl) ?_ (by assumption) ?_
  rotate_left 1
  · ((intro w hSw; (try dsimp only at hSw); go_simp) <;> with_reducible rfl)
  try simp only [Act.put, tzA, tzB, tzC, tzD, tzE, tzF]
  refine tkq (i := 2) (v := ?_) rfl (by kernel_rfl) (fun _ _ _ h => h) (by rfl) ?_ (by assumption) ?_
  rotate_left 1
  · ((intro w hSw; (try dsimp only at hSw); go_simp) <;> with_reducible rfl)
  try simp only [Act.put, tzA, tzB, tzC, tzD, tzE, tzF]
  refine tkq (i := 3) (v := ?_) rfl (by kernel_rfl) (fun _ _ _ h => h) (by rfl) ?_ (by assumption) ?_
  rotate_left 1
  · ((intro w hSw; (try dsimp only at hSw); have hq := hSw.item; have x0 := (cells_at hq 0).1; have x1 := (cells_at hq 1).1; have x2 := (cells_at hq 2).1; have x3 := (cells_at hq 3).1; have x4 := (cells_at hq 4).1; have x5 := (cells_at hq 5).1; go_simp) <;> with_reducible rfl)
  try simp only [Act.put, tzA, tzB, tzC, tzD, tzE, tzF]
  refine tkq (i := 6) (v := ?_) rfl (by kernel_rfl) (fun _ _ _ h => h) (by rfl) ?_ (by assumption) ?_
  rotate_left 1
  · ((intro w hSw; (try dsimp only at hSw); go_simp) <;> with_reducible rfl)
  try simp only [Act.put, tzA, tzB, tzC, tzD, tzE, tzF]
  refine tkq (i := 7) (v := ?_) rfl (by kernel_rfl) (fun _ _ _ h => h) (by rfl) ?_ (by assumption) ?_
  rotate_left 1
  · ((intro w hSw; (try dsimp only at hSw); go_simp) <;> with_reducible rfl)
  try simp only [Act.put, tzA, tzB, tzC, tzD, tzE, tzF]
  refine tkq (i := 8) (v := ?_) rfl (by kernel_rfl) (fun _ _ _ h => h) (by rfl) ?_ (by assumption) ?_
  rotate_left 1
  · ((intro w hSw; (try dsimp only at hSw); go_simp) <;> with_reducible rfl)
  try simp only [Act.put, tzA, tzB, tzC, tzD, tzE, tzF]
  refine tkq (i := 9) (v := ?_) rfl (by kernel_rfl) (fun _ _ _ h => h) (by rfl) ?_ (by assumption) ?_
  rotate_left 1
  · ((intro w hSw; (try dsimp only at hSw); go_simp) <;> with_reducible rfl)
  try simp only [Act.put, tzA, tzB, tzC, tzD, tzE, tzF]
  refine tkq (i := 10) (v := ?_) rfl (by kernel_rfl) (fun _ _ _ h => h) (by rfl) ?_ (by assumption) ?_
  rotate_left 1
  · ((intro w hSw; (try dsimp only at hSw); have c2 := (cells_at (HM.out _ hSw.low).box 2).1; go_simp) <;> with_reducible rfl)
  try simp only [Act.put, tzA, tzB, tzC, tzD, tzE, tzF]
  refine tkq (i := 11) (v := ?_) rfl (by kernel_rfl) (fun _ _ _ h => h) (by rfl) ?_ (by assumption) ?_
  rotate_left 1
  · ((intro w hSw; (try dsimp only at hSw); go_simp) <;> with_reducible rfl)
  try simp only [Act.put, tzA, tzB, tzC, tzD, tzE, tzF]
  refine wpAnyH_ready (rs := [4]) (by kernel_rfl) (by simp) ?_
  refine (AllReadyH.cons rfl (fun K hK => ?_) AllReadyH.nil)
  go_simp
  have HK2 := Lib.hid (HK.out.below (show Below W3.heap.size W3 (World.drew (W3.alloc (.cells #[.string was.key, .string D, .int .u32 was.flags, .int .u64 (nx : Int), .int .i64 was.dies, .int .i64 was.gen] 38))) from bdrew ((Below.refl _ _).alloc (Nat.le_refl _) _)))
  have HBK := Lib.hid (show (World.drew (W3.alloc (.cells #[.string was.key, .string D, .int .u32 was.flags, .int .u64 (nx : Int), .int .i64 was.dies, .int .i64 was.gen] 38))).heap[W3.heap.size]? = some (.cells #[.string was.key, .string D, .int .u32 was.flags, .int .u64 (nx : Int), .int .i64 was.dies, .int .i64 was.gen] 38 (0, 0)) from heap_alloc_new _ _)
  have HG2 := Lib.hid (((show Below W3.heap.size W3 (World.drew (W3.alloc (.cells #[.string was.key, .string D, .int .u32 was.flags, .int .u64 (nx : Int), .int .i64 was.dies, .int .i64 was.gen] 38))) from bdrew ((Below.refl _ _).alloc (Nat.le_refl _) _)).block (w.heap.size + 2) (Array.getElem?_eq_some_iff.1 HG.out).1).trans HG.out)
  refine hK.out _ _ (HS1.out.below (show Below W3.heap.size W3 (World.drew (W3.alloc (.cells #[.string was.key, .string D, .int .u32 was.flags, .int .u64 (nx : Int), .int .i64 was.dies, .int .i64 was.gen] 38))) from bdrew ((Below.refl _ _).alloc (Nat.le_refl _) _))) (fun hHeld2 => ?_)
  clear hK K
  try simp only [Act.put, tzA, tzB, tzC, tzD, tzE, tzF]
  refine wpAnyH_ready (rs := [5]) (by kernel_rfl) (by simp) ?_
  refine (AllReadyH.cons rfl (fun K hK => ?_) AllReadyH.nil)
  rw [if_pos (by rfl)]
  refine wp_append_own _ (.tmp 90) (.tmp 92) 28 (by rfl) B 38 i0 (.agg itemZero) 6 64 Tryz.underlying28 Hi.out Hz.out.1 Hz.out.2.1 Hz.out.2.2 rfl (by omega) _ _ _ (by rfl) HK2.out.row ⟨W3.heap.size, 0, none⟩ 1 1 (itemCells { was with id := (nx : Int), value := D }) (by rfl) rfl (World.news_of_block (cs := (itemCells { was with id := (nx : Int), value := D }).toArray) HBK.out) (by simp [Value.oneCell']) (by have := HN1.out; unfold maxLen; omega) (by have := HN1.out; omega) HK2.out.bs ?_
  intro v2 w2 hown2 hg2 _
  obtain ⟨hk2, hot⟩ := HK2.out.push (x := { was with id := (nx : Int), value := D }) hown2 hg2
  obtain ⟨a2, c2, hv2⟩ := Row.len hk2.irow
  obtain ⟨n2, hn2⟩ : ∃ k, k = (withoutL m.L KY ++ ([{ was with id := (nx : Int), value := D }] : List ItemD)).length := ⟨_, rfl⟩
  rw [← hn2] at hv2
  subst hv2
  have HK3 := Lib.hid hk2
  have HG3 := Lib.hid ((hot (w.heap.size + 2) HBE.out).trans HG2.out)
  have HS2 := Lib.hid (show StC w #[.string was.key, .string D, .int .u32 was.flags, .int .u64 (nx : Int), .int .i64 was.dies, .int .i64 was.gen] w2 from ⟨(hot (w.heap.size + 1) (by have := HBE.out; omega)).trans (HS1.out.below (show Below W3.heap.size W3 (World.drew (W3.alloc (.cells #[.string was.key, .string D, .int .u32 was.flags, .int .u64 (nx : Int), .int .i64 was.dies, .int .i64 was.gen] 38))) from bdrew ((Below.refl _ _).alloc (Nat.le_refl _) _))).item, hk2.low⟩)
  clear hown2 hg2 hk2 hn2 hot
  refine hK.out _ _ HS2.out (fun hHeld2 => ?_)
  clear hK K
  try simp only [Act.put, tzA, tzB, tzC, tzD, tzE, tzF]
  refine tkq (i := 12) (v := ?_) rfl (by kernel_rfl) (fun _ _ _ h => h) (by rfl) ?_ (by assumption) ?_
  rotate_left 1
  · ((intro w hSw; (try dsimp only at hSw); go_simp) <;> with_reducible rfl)
  try simp only [Act.put, tzA, tzB, tzC, tzD, tzE, tzF]
  refine tkq (i := 13) (v := ?_) rfl (by kernel_rfl) (fun _ _ _ h => h) (by rfl) ?_ (by assumption) ?_
  rotate_left 1
  · ((intro w hSw; (try dsimp only at hSw); go_simp) <;> with_reducible rfl)
  try simp only [Act.put, tzA, tzB, tzC, tzD, tzE, tzF]
  refine wpAnyH_ready (rs := [14]) (by kernel_rfl) (by simp) ?_
  refine (AllReadyH.cons rfl (fun K hK => ?_) AllReadyH.nil)
  rw [if_pos (by rfl)]
  refine wp_store_mid 88 (.tmp 8) (.tmp 101) (by rfl) (w.heap.size + 2) 0 #[.int .u8 8, .int .u64 (u : Int), .string ⟨#[]⟩, .string ⟨#[]⟩, .int .u32 0, .int .u64 0, .int .i64 0, .int .i64 0, .slice a2 n2 c2, .int .u64 (ep : Int), .int .u64 (nx : Int), .bool false] (by rfl) (by rfl) (by have h := there_block HG3.out; exact h) (by kernel_rfl) (by simp [Value.oneCell']) ?_
  have HQ := Lib.hid (setCells_whole (cells := #[.int .u8 8, .int .u64 (u : Int), .string ⟨#[]⟩, .string ⟨#[]⟩, .int .u32 0, .int .u64 0, .int .i64 0, .int .i64 0, .slice a2 n2 c2, .int .u64 (ep : Int), .int .u64 (nx : Int), .bool false]) HG3.out (by rfl))
  have hgr := (setCells_grown #[.int .u8 8, .int .u64 (u : Int), .string ⟨#[]⟩, .string ⟨#[]⟩, .int .u32 0, .int .u64 0, .int .i64 0, .int .i64 0, .slice a2 n2 c2, .int .u64 (ep : Int), .int .u64 (nx : Int), .bool false].toList 0 w2 (w.heap.size + 2)).1
  have HFJ := Lib.hid (HK3.out.store hgr (by omega) HBE.out)
  have HS3 := Lib.hid (HS2.out.store hgr)
  clear hgr
  refine hK.out _ _ HS3.out (fun hHeld2 => ?_)
  clear hK K
  try simp only [Act.put, tzD, tzE, tzF]
  refine wpAnyH_done (by kernel_rfl) ?_ _
  clear hHeld2
  go_wp2_with (first | ((with_reducible show bodyPost _ _ _ Exit.ret _ _); exact bodyPost_ret (v := .agg #[.int .u8 8, .int .u64 (u : Int), .string ⟨#[]⟩, .string ⟨#[]⟩, .int .u32 0, .int .u64 0, .int .i64 0, .int .i64 0, .slice a2 n2 c2, .int .u64 (ep : Int), .int .u64 (nx : Int), .bool false]) (results_row_one rfl _ _ (w.heap.size + 2) _ _ _ _ (by rfl) HQ.out Tryz.underlying88 rfl (by kernel_rfl)) rfl ⟨_, rfl, HFJ.out.irow, HFJ.out.low⟩) | fail)
end
end Go.Proofs.YtaooangnnlopcaaGreatDoor
