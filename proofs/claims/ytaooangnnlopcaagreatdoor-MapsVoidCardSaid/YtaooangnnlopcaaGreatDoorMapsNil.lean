/- The program's maps where there is none: nothing is given, fits, or is dropped. No condition. -/
import Derived.Test.YtaooangnnlopcaaGreatDoorMapsFits
namespace Go.Proofs.YtaooangnnlopcaaGreatDoor
open Go.RowKit Go.ChangeMaps Go.MapKept
section
variable {w : World} {c : CallD} {ep : Nat}
set_option maxRecDepth 100000 in
set_option maxHeartbeats 4000000 in
theorem gives_nil (w : World) : Calls Tryz.prog 35 #[.pointer none, .agg #[.int .u8 c.verb, .string c.key, .string c.value, .int .u32 c.flags, .int .i64 c.exp, .int .u64 c.id, .int .u64 c.by'], .int .u64 (ep : Int)] w fun e w' => e = .returned (.tuple #[.agg givZero, .bool false, .bool false]) ∧ Below w.heap.size w w' := by
  go_enter Tryz.func35, Tryz.ntmps35
  go_upto_region 1 with fail
  obtain ⟨W0, hW0⟩ : ∃ X, X = (w.alloc (.cells #[.int .u8 c.verb, .string c.key, .string c.value, .int .u32 c.flags, .int .i64 c.exp, .int .u64 c.id, .int .u64 c.by'] 35)).alloc (.cells givZero 84) := ⟨_, rfl⟩
  have hb0 : Below w.heap.size w W0 := by rw [hW0]; exact below_two w _ _
  have hr0 : W0.heap[w.heap.size + 1]? = some (.cells givZero 84 (0, 0)) := by rw [hW0]; exact (heap_two w _ _).2
  rw [← hW0]
  have HB := Lib.hid hb0
  have HR := Lib.hid hr0
  clear hW0 hb0 hr0
  have q0 := build_giv0
  go_wp2_with (first
    | ((with_reducible show wpList _ _ _ (⟨none, Op.store 84 _ _, _, _, _, _⟩ :: _) _ _); refine wpList_store_whole (by rfl) 84 (.tmp 6) (.tmp 30) (by rfl) (w.heap.size + 1) (by rfl) givZero (by rfl) _ 84 HR.out (by rfl) (by kernel_rfl) (by simp [Value.oneCell']) ?_; intro w3 hr3 hg3 hs3)
    | ((with_reducible show bodyPost _ _ _ Exit.ret _ _); exact bodyPost_ret (v := .tuple #[.agg givZero, .bool false, .bool false]) (results_row_two rfl _ _ (w.heap.size + 1) _ _ _ _ (by rfl) hr3 Tryz.underlying84 rfl (by kernel_rfl) _ _ (by rfl) (by rfl)) rfl ⟨rfl, below_grown HB.out HB.out.size hg3 (Nat.le_succ _)⟩)
    | fail)
set_option maxRecDepth 100000 in
set_option maxHeartbeats 4000000 in
theorem mapsGives_nil (w : World) : Calls Tryz.prog 9 #[.pointer none, .agg #[.int .u8 c.verb, .string c.key, .string c.value, .int .u32 c.flags, .int .i64 c.exp, .int .u64 c.id, .int .u64 c.by'], .int .u64 (ep : Int)] w fun e w' => e = .returned (.tuple #[.agg noAns.cells, .bool false]) ∧ Below w.heap.size w w' := by
  have HGV := Lib.hid (fun W (_hW : Below w.heap.size w W) => (show Calls Tryz.prog 35 #[.pointer none, .agg #[.int .u8 c.verb, .string c.key, .string c.value, .int .u32 c.flags, .int .i64 c.exp, .int .u64 c.id, .int .u64 c.by'], .int .u64 (ep : Int)] W fun e w' => e = .returned (.tuple #[.agg (givCells (saysG 0 0)), .bool false, .bool false]) ∧ Below W.heap.size W w' from gives_nil W))
  rw [show noAns = (saysG 0 0).ans from rfl]
  generalize saysG 0 0 = g at HGV ⊢
  obtain ⟨is, his⟩ : ∃ b, b = false := ⟨_, rfl⟩
  rw [← his] at HGV ⊢
  clear his
  go_enter Tryz.func9, Tryz.ntmps9
  go_upto_region 1 with fail
  obtain ⟨W0, hW0⟩ : ∃ X, X = (w.alloc (.cells #[.int .u8 c.verb, .string c.key, .string c.value, .int .u32 c.flags, .int .i64 c.exp, .int .u64 c.id, .int .u64 c.by'] 35)).alloc (.cells #[.int .u8 0, .int .u64 0, .string ⟨#[]⟩, .string ⟨#[]⟩, .int .u32 0, .int .u64 0, .int .i64 0, .int .i64 0] 40) := ⟨_, rfl⟩
  have hb0 : Below w.heap.size w W0 := by rw [hW0]; exact below_two w _ _
  have hx0 : W0.heap[w.heap.size]? = some (.cells #[.int .u8 c.verb, .string c.key, .string c.value, .int .u32 c.flags, .int .i64 c.exp, .int .u64 c.id, .int .u64 c.by'] 35 (0, 0)) := by rw [hW0]; exact (heap_two w _ _).1
  have hr0 : W0.heap[w.heap.size + 1]? = some (.cells #[.int .u8 0, .int .u64 0, .string ⟨#[]⟩, .string ⟨#[]⟩, .int .u32 0, .int .u64 0, .int .i64 0, .int .i64 0] 40 (0, 0)) := by rw [hW0]; exact (heap_two w _ _).2
  rw [← hW0]
  have HB0 := Lib.hid hb0
  have HX0 := Lib.hid hx0
  have HR0 := Lib.hid hr0
  clear hW0 hb0 hx0 hr0
  go_wp2_with (first | ((with_reducible show wpList _ _ _ (⟨_, Op.load 35 _, _, _, _, _⟩ :: _) _ _); refine wpList_load_row (by rfl) 35 (.tmp 4) (by rfl) w.heap.size (by rfl) 35 _ _ _ HX0.out Tryz.underlying35 rfl (by kernel_rfl) ?_) | fail)
  refine (HGV.out _ HB0.out).mono ?_
  rintro e w1 ⟨rfl, hb1⟩
  have hlt : w.heap.size + 1 < W0.heap.size := (Array.getElem?_eq_some_iff.1 HR0.out).1
  have HR1 := Lib.hid ((hb1.block _ hlt).trans HR0.out)
  have HB1 := Lib.hid (HB0.out.trans (hb1.mono HB0.out.size))
  have HL1 := Lib.hid (Nat.lt_of_lt_of_le hlt hb1.size)
  clear hb1 hlt
  go_upto_region 2 with (first | (((with_reducible show wpList _ _ _ (⟨none, Op.store 84 _ _, _, _, _, _⟩ :: _) _ _); refine wpList_store_whole (by rfl) 84 (.tmp 8) (.tmp 15) (by rfl) w1.heap.size (by rfl) #[.int .u8 g.ans.kind, .int .u64 g.ans.number, .string g.ans.item.key, .string g.ans.item.value, .int .u32 g.ans.item.flags, .int .u64 g.ans.item.id, .int .i64 g.ans.item.dies, .int .i64 g.ans.item.gen, .string g.isx.key, .string g.isx.value, .int .u32 g.isx.flags, .int .u64 g.isx.id, .int .i64 g.isx.dies, .int .i64 g.isx.gen, .bool g.put, .bool g.gone, .bool g.drawn, .bool g.stored, .int .u64 (g.epoch : Int)] (by rfl) _ 84 (heap_alloc_new _ _) (by rfl) (by kernel_rfl) (by simp [Value.oneCell']) ?_; intro w2 hr2 hg2 hs2); have HG2 := Lib.hid hg2; have HR2 := Lib.hid hr2; clear hg2 hr2 hs2) | fail)
  have HB2 := Lib.hid (grown_below (HB1.out.alloc HB1.out.size _) (by rw [size_at]; have := HB1.out.size; omega) HG2.out (fun k hk => by cases hk; exact HB1.out.size))
  have HRR := Lib.hid ((HG2.out.block (w.heap.size + 1) (by rw [size_at]; have := HL1.out; omega) (by have := HL1.out; simp; omega)).trans ((show (w1.alloc _).heap[w.heap.size + 1]? = w1.heap[w.heap.size + 1]? from by rw [heap_at, if_neg (by have := HL1.out; omega)]).trans HR1.out))
  have y0 : w2.cell? ⟨w1.heap.size, 0, none⟩ = some (.int .u8 g.ans.kind) := (cells_at HR2.out 0).1
  have y1 : w2.cell? ⟨w1.heap.size, 1, none⟩ = some (.int .u64 g.ans.number) := (cells_at HR2.out 1).1
  have y2 : w2.cell? ⟨w1.heap.size, 2, none⟩ = some (.string g.ans.item.key) := (cells_at HR2.out 2).1
  have y3 : w2.cell? ⟨w1.heap.size, 3, none⟩ = some (.string g.ans.item.value) := (cells_at HR2.out 3).1
  have y4 : w2.cell? ⟨w1.heap.size, 4, none⟩ = some (.int .u32 g.ans.item.flags) := (cells_at HR2.out 4).1
  have y5 : w2.cell? ⟨w1.heap.size, 5, none⟩ = some (.int .u64 g.ans.item.id) := (cells_at HR2.out 5).1
  have y6 : w2.cell? ⟨w1.heap.size, 6, none⟩ = some (.int .i64 g.ans.item.dies) := (cells_at HR2.out 6).1
  have y7 : w2.cell? ⟨w1.heap.size, 7, none⟩ = some (.int .i64 g.ans.item.gen) := (cells_at HR2.out 7).1
  go_wp2_with (first
    | ((with_reducible show wpList _ _ _ (⟨none, Op.store 40 _ _, _, _, _, _⟩ :: _) _ _); refine wpList_store_whole (by rfl) 40 (.tmp 6) (.tmp 19) (by rfl) (w.heap.size + 1) (by rfl) #[.int .u8 g.ans.kind, .int .u64 g.ans.number, .string g.ans.item.key, .string g.ans.item.value, .int .u32 g.ans.item.flags, .int .u64 g.ans.item.id, .int .i64 g.ans.item.dies, .int .i64 g.ans.item.gen] (by rfl) _ 40 HRR.out (by rfl) (by kernel_rfl) (by simp [Value.oneCell']) ?_; intro w3 hr3 hg3 hs3)
    | ((with_reducible show bodyPost _ _ _ Exit.ret _ _); exact bodyPost_ret (v := .tuple #[.agg g.ans.cells, .bool is]) (results_row_tmp rfl _ _ (w.heap.size + 1) _ _ _ _ (by rfl) hr3 Tryz.underlying40 rfl (by kernel_rfl) _ (by rfl)) rfl ⟨rfl, grown_below HB2.out HB2.out.size hg3 (fun k hk => by cases hk; exact Nat.le_succ _)⟩)
    | fail)
end
set_option maxRecDepth 100000 in
set_option maxHeartbeats 4000000 in
theorem mapsDrop_nil (x : ItemD) (w : World) : Calls Tryz.prog 12 #[.pointer none, .agg #[.string x.key, .string x.value, .int .u32 x.flags, .int .u64 x.id, .int .i64 x.dies, .int .i64 x.gen]] w fun e w' => e = .returned (.bool false) ∧ Below w.heap.size w w' := by
  go_enter Tryz.func12, Tryz.ntmps12
  go_upto_region 1 with fail
  obtain ⟨W0, hW0⟩ : ∃ X, X = w.alloc (.cells #[.string x.key, .string x.value, .int .u32 x.flags, .int .u64 x.id, .int .i64 x.dies, .int .i64 x.gen] 38) := ⟨_, rfl⟩
  have hb0 : Below w.heap.size w W0 := by rw [hW0]; exact (Below.refl _ _).alloc (Nat.le_refl _) _
  have hx0 : W0.heap[w.heap.size]? = some (.cells #[.string x.key, .string x.value, .int .u32 x.flags, .int .u64 x.id, .int .i64 x.dies, .int .i64 x.gen] 38 (0, 0)) := by rw [hW0, heap_at, if_pos rfl]
  rw [← hW0]
  have k0 : W0.cell? ⟨w.heap.size, 0, none⟩ = some (.string x.key) := (cells_at hx0 0).1
  have HB := Lib.hid hb0
  clear hW0 hb0 hx0
  go_wp2_with fail
  refine (mapsAt_nil W0).mono ?_
  rintro e w1 ⟨rfl, hb⟩
  have HB1 := Lib.hid (HB.out.trans (hb.mono HB.out.size))
  clear hb HB k0
  rw [show noItem.val = .agg #[.string ⟨#[]⟩, .string ⟨#[]⟩, .int .u32 0, .int .u64 0, .int .i64 0, .int .i64 0] from rfl]
  go_upto_region 2 with (first | ((with_reducible show wpList _ _ _ (⟨none, Op.store _ _ _, _, _, _, _⟩ :: _) _ _); refine wpList_store_whole (by rfl) 38 (.tmp 5) (.tmp 12) (by rfl) w1.heap.size (by rfl) #[.string ⟨#[]⟩, .string ⟨#[]⟩, .int .u32 0, .int .u64 0, .int .i64 0, .int .i64 0] (by rfl) _ 38 (heap_alloc_new _ _) (by rfl) (by kernel_rfl) (by simp [Value.oneCell']) ?_; intro w2 hr2 hg2 hs2; have HGI := Lib.hid hg2; clear hr2 hg2 hs2) | fail)
  have hb2 : Below w1.heap.size w1 w2 := grown_below ((Below.refl _ _).alloc (Nat.le_refl _) _) (by rw [size_at]; omega) HGI.out (fun k hk => by cases hk; exact Nat.le_refl _)
  have HB2 := Lib.hid (HB1.out.trans (hb2.mono HB1.out.size))
  clear hb2 HGI HB1
  go_wp2_with fail
  go_ret
  exact ⟨rfl, HB2.out⟩
set_option maxRecDepth 100000 in
set_option maxHeartbeats 4000000 in
theorem mapsFits_nil (x : CalledD) (w : World) : Calls Tryz.prog 14 #[.pointer none, .agg #[.int .i64 x.thread, .int .u8 x.call.verb, .string x.call.key, .string x.call.value, .int .u32 x.call.flags, .int .i64 x.call.exp, .int .u64 x.call.id, .int .u64 x.call.by', .int .i64 x.from', .int .i64 x.till, .int .u8 x.ans.kind, .int .u64 x.ans.number, .string x.ans.item.key, .string x.ans.item.value, .int .u32 x.ans.item.flags, .int .u64 x.ans.item.id, .int .i64 x.ans.item.dies, .int .i64 x.ans.item.gen, .int .u64 (x.epoch : Int), .int .i64 x.point]] w fun e w' => e = .returned (.bool false) ∧ Below w.heap.size w w' := by
  go_enter Tryz.func14, Tryz.ntmps14
  go_upto_region 1 with fail
  obtain ⟨W0, hW0⟩ : ∃ X, X = w.alloc (.cells #[.int .i64 x.thread, .int .u8 x.call.verb, .string x.call.key, .string x.call.value, .int .u32 x.call.flags, .int .i64 x.call.exp, .int .u64 x.call.id, .int .u64 x.call.by', .int .i64 x.from', .int .i64 x.till, .int .u8 x.ans.kind, .int .u64 x.ans.number, .string x.ans.item.key, .string x.ans.item.value, .int .u32 x.ans.item.flags, .int .u64 x.ans.item.id, .int .i64 x.ans.item.dies, .int .i64 x.ans.item.gen, .int .u64 (x.epoch : Int), .int .i64 x.point] 42) := ⟨_, rfl⟩
  have hb0 : Below w.heap.size w W0 := by rw [hW0]; exact (Below.refl _ _).alloc (Nat.le_refl _) _
  have hx0 : W0.heap[w.heap.size]? = some (.cells #[.int .i64 x.thread, .int .u8 x.call.verb, .string x.call.key, .string x.call.value, .int .u32 x.call.flags, .int .i64 x.call.exp, .int .u64 x.call.id, .int .u64 x.call.by', .int .i64 x.from', .int .i64 x.till, .int .u8 x.ans.kind, .int .u64 x.ans.number, .string x.ans.item.key, .string x.ans.item.value, .int .u32 x.ans.item.flags, .int .u64 x.ans.item.id, .int .i64 x.ans.item.dies, .int .i64 x.ans.item.gen, .int .u64 (x.epoch : Int), .int .i64 x.point] 42 (0, 0)) := by rw [hW0, heap_at, if_pos rfl]
  rw [← hW0]
  have k1 : W0.cell? ⟨w.heap.size, 1, none⟩ = some (.int .u8 x.call.verb) := (cells_at hx0 1).1
  have k2 : W0.cell? ⟨w.heap.size, 2, none⟩ = some (.string x.call.key) := (cells_at hx0 2).1
  have k3 : W0.cell? ⟨w.heap.size, 3, none⟩ = some (.string x.call.value) := (cells_at hx0 3).1
  have k4 : W0.cell? ⟨w.heap.size, 4, none⟩ = some (.int .u32 x.call.flags) := (cells_at hx0 4).1
  have k5 : W0.cell? ⟨w.heap.size, 5, none⟩ = some (.int .i64 x.call.exp) := (cells_at hx0 5).1
  have k6 : W0.cell? ⟨w.heap.size, 6, none⟩ = some (.int .u64 x.call.id) := (cells_at hx0 6).1
  have k7 : W0.cell? ⟨w.heap.size, 7, none⟩ = some (.int .u64 x.call.by') := (cells_at hx0 7).1
  have k18 : W0.cell? ⟨w.heap.size, 18, none⟩ = some (.int .u64 (x.epoch : Int)) := (cells_at hx0 18).1
  have HB := Lib.hid hb0
  clear hW0 hb0 hx0
  go_wp2_with fail
  refine (gives_nil (c := x.call) (ep := x.epoch) W0).mono ?_
  rintro e w1 ⟨rfl, hb⟩
  have HB1 := Lib.hid (HB.out.trans (hb.mono HB.out.size))
  clear hb HB k1 k2 k3 k4 k5 k6 k7 k18
  go_upto_region 2 with (first | ((with_reducible show wpList _ _ _ (⟨none, Op.store _ _ _, _, _, _, _⟩ :: _) _ _); refine wpList_store_whole (by rfl) 84 (.tmp 5) (.tmp 16) (by rfl) w1.heap.size (by rfl) givZero (by rfl) _ 84 (heap_alloc_new _ _) (by rfl) (by kernel_rfl) (by simp [Value.oneCell']) ?_; intro w2 hr2 hg2 hs2; have HGI := Lib.hid hg2; clear hr2 hg2 hs2) | fail)
  have hb2 : Below w1.heap.size w1 w2 := grown_below ((Below.refl _ _).alloc (Nat.le_refl _) _) (by rw [size_at]; omega) HGI.out (fun k hk => by cases hk; exact Nat.le_refl _)
  have HB2 := Lib.hid (HB1.out.trans (hb2.mono HB1.out.size))
  clear hb2 HGI HB1
  go_wp2_with fail
  go_ret
  exact ⟨rfl, HB2.out⟩
end Go.Proofs.YtaooangnnlopcaaGreatDoor
