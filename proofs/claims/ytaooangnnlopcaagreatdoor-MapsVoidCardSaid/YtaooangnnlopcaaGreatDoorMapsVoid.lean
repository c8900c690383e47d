/- The law MapsVoid, walked. Condition: the library's tables lie as they are laid. -/
import Derived.Test.YtaooangnnlopcaaGreatDoorMapsPlay
import Derived.Test.YtaooangnnlopcaaGreatDoorMapsNil
namespace Go.Proofs.YtaooangnnlopcaaGreatDoor
open Go.RowKit Go.ChangeMaps Go.MapKept
theorem actRow_one (w : World) {c : CalledD} {d : ItemD} (h : ActIs ⟨0, c, d⟩) : ActRow (w.alloc (.cells #[.int .u8 0, .int .i64 c.thread, .int .u8 c.call.verb, .string c.call.key, .string c.call.value, .int .u32 c.call.flags, .int .i64 c.call.exp, .int .u64 c.call.id, .int .u64 c.call.by', .int .i64 c.from', .int .i64 c.till, .int .u8 c.ans.kind, .int .u64 c.ans.number, .string c.ans.item.key, .string c.ans.item.value, .int .u32 c.ans.item.flags, .int .u64 c.ans.item.id, .int .i64 c.ans.item.dies, .int .i64 c.ans.item.gen, .int .u64 (c.epoch : Int), .int .i64 c.point, .string d.key, .string d.value, .int .u32 d.flags, .int .u64 d.id, .int .i64 d.dies, .int .i64 d.gen] 44)) (.slice (some ⟨w.heap.size, 0, none⟩) 1 1) [⟨0, c, d⟩] := by
  refine ⟨by unfold maxLen; simp, fun x hx => ?_, some ⟨w.heap.size, 0, none⟩, 1, rfl, fun j x hj => ?_⟩
  · obtain rfl : x = ⟨0, c, d⟩ := by simpa using hx
    exact h
  · match j, hj with
    | 0, hj =>
      obtain rfl : ⟨0, c, d⟩ = x := by simpa using hj
      refine ⟨w.heap.size, 0, rfl, by rw [size_at]; omega, fun i u hu => ?_⟩
      have hb : (w.alloc (.cells #[.int .u8 0, .int .i64 c.thread, .int .u8 c.call.verb, .string c.call.key, .string c.call.value, .int .u32 c.call.flags, .int .i64 c.call.exp, .int .u64 c.call.id, .int .u64 c.call.by', .int .i64 c.from', .int .i64 c.till, .int .u8 c.ans.kind, .int .u64 c.ans.number, .string c.ans.item.key, .string c.ans.item.value, .int .u32 c.ans.item.flags, .int .u64 c.ans.item.id, .int .i64 c.ans.item.dies, .int .i64 c.ans.item.gen, .int .u64 (c.epoch : Int), .int .i64 c.point, .string d.key, .string d.value, .int .u32 d.flags, .int .u64 d.id, .int .i64 d.dies, .int .i64 d.gen] 44)).heap[w.heap.size]? = some (.cells (actCells ⟨0, c, d⟩).toArray 44 (0, 0)) := by rw [heap_at, if_pos rfl]; rfl
      rw [show 0 + (0 * 27 + i) = i from by omega, (cells_at hb i).1, List.getElem?_toArray]
      exact hu
    | j + 1, hj => simp at hj
theorem build_act1 (c : CalledD) (d : ItemD) (W : World) : (Instr.build 44 #[(1, .agg #[.int .i64 c.thread, .int .u8 c.call.verb, .string c.call.key, .string c.call.value, .int .u32 c.call.flags, .int .i64 c.call.exp, .int .u64 c.call.id, .int .u64 c.call.by', .int .i64 c.from', .int .i64 c.till, .int .u8 c.ans.kind, .int .u64 c.ans.number, .string c.ans.item.key, .string c.ans.item.value, .int .u32 c.ans.item.flags, .int .u64 c.ans.item.id, .int .i64 c.ans.item.dies, .int .i64 c.ans.item.gen, .int .u64 (c.epoch : Int), .int .i64 c.point]), (2, .agg #[.string d.key, .string d.value, .int .u32 d.flags, .int .u64 d.id, .int .i64 d.dies, .int .i64 d.gen])]).run Tryz.prog W = .ok (.agg #[.int .u8 0, .int .i64 c.thread, .int .u8 c.call.verb, .string c.call.key, .string c.call.value, .int .u32 c.call.flags, .int .i64 c.call.exp, .int .u64 c.call.id, .int .u64 c.call.by', .int .i64 c.from', .int .i64 c.till, .int .u8 c.ans.kind, .int .u64 c.ans.number, .string c.ans.item.key, .string c.ans.item.value, .int .u32 c.ans.item.flags, .int .u64 c.ans.item.id, .int .i64 c.ans.item.dies, .int .i64 c.ans.item.gen, .int .u64 (c.epoch : Int), .int .i64 c.point, .string d.key, .string d.value, .int .u32 d.flags, .int .u64 d.id, .int .i64 d.dies, .int .i64 d.gen]) W := by kernel_rfl
theorem build_ansZ2 (W : World) : (Instr.build 40 #[]).run Tryz.prog W = .ok (.agg #[.int .u8 0, .int .u64 0, .string ⟨#[]⟩, .string ⟨#[]⟩, .int .u32 0, .int .u64 0, .int .i64 0, .int .i64 0]) W := by kernel_rfl
theorem build_itemZ2 (W : World) : (Instr.build 38 #[]).run Tryz.prog W = .ok (.agg #[.string ⟨#[]⟩, .string ⟨#[]⟩, .int .u32 0, .int .u64 0, .int .i64 0, .int .i64 0]) W := by kernel_rfl
set_option maxRecDepth 100000 in
set_option maxHeartbeats 16000000 in
theorem mapsVoid_walk {w : World} {c : CalledD} {d : ItemD} (hfc : FitC c.call) (hik : c.ans.item.key.size ≤ maxLen) (hiv : c.ans.item.value.size ≤ maxLen) (hep : c.epoch < 18446744073709551616) (hdk : d.key.size ≤ maxLen) (hdv : d.value.size ≤ maxLen) (hE : HasErr w) (hP : HasPow w) : Calls Tryz.prog 4 #[.agg #[.int .i64 c.thread, .int .u8 c.call.verb, .string c.call.key, .string c.call.value, .int .u32 c.call.flags, .int .i64 c.call.exp, .int .u64 c.call.id, .int .u64 c.call.by', .int .i64 c.from', .int .i64 c.till, .int .u8 c.ans.kind, .int .u64 c.ans.number, .string c.ans.item.key, .string c.ans.item.value, .int .u32 c.ans.item.flags, .int .u64 c.ans.item.id, .int .i64 c.ans.item.dies, .int .i64 c.ans.item.gen, .int .u64 (c.epoch : Int), .int .i64 c.point], .agg #[.string d.key, .string d.value, .int .u32 d.flags, .int .u64 d.id, .int .i64 d.dies, .int .i64 d.gen]] w fun e w' => e = .returned (.bool true) ∧ Below w.heap.size w w' := by
  have HAI := Lib.hid (show ActIs ⟨0, c, d⟩ from ⟨by show (0 : Int) ≤ 0 ∧ (0 : Int) ≤ 255; omega, hfc, hik, hiv, hep, hdk, hdv⟩)
  have HFC := Lib.hid hfc
  have HEP := Lib.hid hep
  have HDK := Lib.hid hdk
  have HE := Lib.hid hE
  have HP := Lib.hid hP
  clear hfc hik hiv hep hdk hdv hE hP
  go_enter Tryz.func4, Tryz.ntmps4
  go_upto_region 1 with fail
  obtain ⟨W0, hW0⟩ : ∃ Y, Y = (w.alloc (.cells #[.int .i64 c.thread, .int .u8 c.call.verb, .string c.call.key, .string c.call.value, .int .u32 c.call.flags, .int .i64 c.call.exp, .int .u64 c.call.id, .int .u64 c.call.by', .int .i64 c.from', .int .i64 c.till, .int .u8 c.ans.kind, .int .u64 c.ans.number, .string c.ans.item.key, .string c.ans.item.value, .int .u32 c.ans.item.flags, .int .u64 c.ans.item.id, .int .i64 c.ans.item.dies, .int .i64 c.ans.item.gen, .int .u64 (c.epoch : Int), .int .i64 c.point] 42)).alloc (.cells #[.string d.key, .string d.value, .int .u32 d.flags, .int .u64 d.id, .int .i64 d.dies, .int .i64 d.gen] 38) := ⟨_, rfl⟩
  have hb0 : Below w.heap.size w W0 := by rw [hW0]; exact below_two w _ _
  have hx0 : W0.heap[w.heap.size]? = some (.cells #[.int .i64 c.thread, .int .u8 c.call.verb, .string c.call.key, .string c.call.value, .int .u32 c.call.flags, .int .i64 c.call.exp, .int .u64 c.call.id, .int .u64 c.call.by', .int .i64 c.from', .int .i64 c.till, .int .u8 c.ans.kind, .int .u64 c.ans.number, .string c.ans.item.key, .string c.ans.item.value, .int .u32 c.ans.item.flags, .int .u64 c.ans.item.id, .int .i64 c.ans.item.dies, .int .i64 c.ans.item.gen, .int .u64 (c.epoch : Int), .int .i64 c.point] 42 (0, 0)) := by rw [hW0]; exact (heap_two w _ _).1
  have hi0 : W0.heap[w.heap.size + 1]? = some (.cells #[.string d.key, .string d.value, .int .u32 d.flags, .int .u64 d.id, .int .i64 d.dies, .int .i64 d.gen] 38 (0, 0)) := by rw [hW0]; exact (heap_two w _ _).2
  rw [← hW0]
  have HB0 := Lib.hid hb0
  have HX0 := Lib.hid hx0
  have HI0 := Lib.hid hi0
  clear hW0 hb0 hx0 hi0
  obtain ⟨n0, hn0⟩ : ∃ k, k = w.heap.size := ⟨_, rfl⟩
  rw [← hn0] at HX0 HI0 ⊢
  clear hn0
  have qb := build_act1 c d
  go_wp2_with (first | ((with_reducible show wpList _ _ _ (⟨_, Op.load 42 _, _, _, _, _⟩ :: _) _ _); refine wpList_load_row (by rfl) 42 (.tmp 2) (by rfl) n0 (by rfl) 42 _ _ _ HX0.out Tryz.underlying42 rfl (by kernel_rfl) ?_) | ((with_reducible show wpList _ _ _ (⟨_, Op.load 38 _, _, _, _, _⟩ :: _) _ _); refine wpList_load_row (by rfl) 38 (.tmp 3) (by rfl) (n0 + 1) (by rfl) 38 _ _ _ HI0.out Tryz.underlying38 rfl (by kernel_rfl) ?_) | fail)
  refine (great_any (actRow_one W0 HAI.out)).mono ?_
  rintro e W1 ⟨⟨b, rfl, -⟩, hb⟩
  have hb1 : Below W0.heap.size W0 W1 := ((Below.refl _ _).alloc (Nat.le_refl _) _).trans (hb.mono (by rw [size_at]; omega))
  have HX1 := Lib.hid ((hb1.block n0 (Array.getElem?_eq_some_iff.1 HX0.out).1).trans HX0.out)
  have HI1 := Lib.hid ((hb1.block (n0 + 1) (Array.getElem?_eq_some_iff.1 HI0.out).1).trans HI0.out)
  have HBW := Lib.hid (HB0.out.trans (hb1.mono HB0.out.size))
  have HE1 := Lib.hid (HE.out.below HBW.out)
  have HP1 := Lib.hid (HP.out.below HBW.out)
  clear hb hb1 HX0 HI0 HB0 qb HE HP HAI
  cases b
  · skip
    have qb := build_mapR
    go_upto_region 6 with fail
    obtain ⟨W2, hW2⟩ : ∃ Y, Y = (W1.alloc (.cells #[.map none, .int .u64 0, .int .u64 0] 57)).alloc (.cells #[.slice none 0 0, .int .u64 0, .int .u64 0] 31) := ⟨_, rfl⟩
    have hv1 : W2.heap[W1.heap.size]? = some (.cells #[.map none, .int .u64 0, .int .u64 0] 57 (0, 0)) := by rw [hW2]; exact (heap_two W1 _ _).1
    have hv2 : W2.heap[W1.heap.size + 1]? = some (.cells #[.slice none 0 0, .int .u64 0, .int .u64 0] 31 (0, 0)) := by rw [hW2]; exact (heap_two W1 _ _).2
    have hb2 : Below W1.heap.size W1 W2 := by rw [hW2]; exact below_two W1 _ _
    have hlv : LvAt W1 W2 W1.heap.size newM [] := ⟨⟨none, hv1, .inl ⟨rfl, rfl⟩⟩, Nat.le_refl _, fun k hk => (by rw [(cells_at hv1 0).1] at hk; cases hk), hb2, fun x hx => by cases hx⟩
    have hps : PlS W1 W2 W1.heap.size (W1.heap.size + 1) newM newM [(n0, #[.int .i64 c.thread, .int .u8 c.call.verb, .string c.call.key, .string c.call.value, .int .u32 c.call.flags, .int .i64 c.call.exp, .int .u64 c.call.id, .int .u64 c.call.by', .int .i64 c.from', .int .i64 c.till, .int .u8 c.ans.kind, .int .u64 c.ans.number, .string c.ans.item.key, .string c.ans.item.value, .int .u32 c.ans.item.flags, .int .u64 c.ans.item.id, .int .i64 c.ans.item.dies, .int .i64 c.ans.item.gen, .int .u64 (c.epoch : Int), .int .i64 c.point], 42), (n0 + 1, #[.string d.key, .string d.value, .int .u32 d.flags, .int .u64 d.id, .int .i64 d.dies, .int .i64 d.gen], 38)] := PlS.add (PlS.add ⟨hlv, ⟨.slice none 0 0, hv2, IRow.nil _⟩, Nat.le_succ _, fun x hx => by cases hx⟩ ((hb2.block (n0 + 1) (Array.getElem?_eq_some_iff.1 HI1.out).1).trans HI1.out) (by decide) (by decide)) ((hb2.block n0 (Array.getElem?_eq_some_iff.1 HX1.out).1).trans HX1.out) (by decide) (by decide)
    obtain ⟨r, hr⟩ : ∃ r, r = W1.heap.size + 1 := ⟨_, rfl⟩
    rw [← hr] at hps
    obtain ⟨p, hp⟩ : ∃ p, p = W1.heap.size := ⟨_, rfl⟩
    have HPL := Lib.hid (show PlS W1 W2 p r newM newM _ from by rw [hp]; exact hps)
    rw [← hW2, ← hr, ← hp]
    clear hps hW2 hr hp hlv hv1 hv2 hb2 qb HX1 HI1
    have k1 : W2.cell? ⟨n0, 1, none⟩ = some (.int .u8 c.call.verb) := (cells_at (HPL.out.kept _ (.head _)).2.2 1).1
    have k2 : W2.cell? ⟨n0, 2, none⟩ = some (.string c.call.key) := (cells_at (HPL.out.kept _ (.head _)).2.2 2).1
    have k3 : W2.cell? ⟨n0, 3, none⟩ = some (.string c.call.value) := (cells_at (HPL.out.kept _ (.head _)).2.2 3).1
    have k4 : W2.cell? ⟨n0, 4, none⟩ = some (.int .u32 c.call.flags) := (cells_at (HPL.out.kept _ (.head _)).2.2 4).1
    have k5 : W2.cell? ⟨n0, 5, none⟩ = some (.int .i64 c.call.exp) := (cells_at (HPL.out.kept _ (.head _)).2.2 5).1
    have k6 : W2.cell? ⟨n0, 6, none⟩ = some (.int .u64 c.call.id) := (cells_at (HPL.out.kept _ (.head _)).2.2 6).1
    have k7 : W2.cell? ⟨n0, 7, none⟩ = some (.int .u64 c.call.by') := (cells_at (HPL.out.kept _ (.head _)).2.2 7).1
    have k18 : W2.cell? ⟨n0, 18, none⟩ = some (.int .u64 (c.epoch : Int)) := (cells_at (HPL.out.kept _ (.head _)).2.2 18).1
    go_wp2_with fail
    refine (mapsGives_nil (c := c.call) (ep := c.epoch) W2).mono ?_
    rintro e W3 ⟨rfl, hb⟩
    have HB1 := Lib.hid (HPL.out.below hb)
    clear hb HPL k1 k2 k3 k4 k5 k6 k7 k18
    go_upto_region 7 with (first | ((with_reducible show wpList _ _ _ (⟨none, Op.store 40 _ _, _, _, _, _⟩ :: _) _ _); refine wpList_store_whole (by rfl) 40 (.tmp 8) (.tmp 31) (by rfl) W3.heap.size (by rfl) #[.int .u8 0, .int .u64 0, .string ⟨#[]⟩, .string ⟨#[]⟩, .int .u32 0, .int .u64 0, .int .i64 0, .int .i64 0] (by rfl) _ 40 (heap_alloc_new _ _) (by rfl) (by kernel_rfl) (by simp [Value.oneCell']) ?_; intro w2 hr2 hg2 hs2; have HRI := Lib.hid hr2; have HGI := Lib.hid hg2; clear hr2 hg2 hs2) | fail)
    have hp2 := HB1.out.put HRI.out HGI.out (by decide) (by decide)
    obtain ⟨q1, hq⟩ : ∃ q, q = W3.heap.size := ⟨_, rfl⟩
    rw [← hq] at hp2 ⊢
    have HQ2 := Lib.hid hp2
    clear hp2 hq HRI HGI HB1
    obtain ⟨q1W, rfl⟩ : ∃ Y, Y = w2 := ⟨_, rfl⟩
    have k2 : q1W.cell? ⟨n0, 2, none⟩ = some (.string c.call.key) := (cells_at (HQ2.out.kept _ (.tail _ (.head _))).2.2 2).1
    go_wp2_with fail
    refine (mapsAt_nil (k := c.call.key) q1W).mono ?_
    rintro e W4 ⟨rfl, hb⟩
    have HB3 := Lib.hid (HQ2.out.below hb)
    clear hb HQ2 k2
    rw [show noItem.val = .agg #[.string ⟨#[]⟩, .string ⟨#[]⟩, .int .u32 0, .int .u64 0, .int .i64 0, .int .i64 0] from rfl]
    go_upto_region 8 with (first | ((with_reducible show wpList _ _ _ (⟨none, Op.store 38 _ _, _, _, _, _⟩ :: _) _ _); refine wpList_store_whole (by rfl) 38 (.tmp 10) (.tmp 39) (by rfl) W4.heap.size (by rfl) #[.string ⟨#[]⟩, .string ⟨#[]⟩, .int .u32 0, .int .u64 0, .int .i64 0, .int .i64 0] (by rfl) _ 38 (heap_alloc_new _ _) (by rfl) (by kernel_rfl) (by simp [Value.oneCell']) ?_; intro w2 hr2 hg2 hs2; have HRI := Lib.hid hr2; have HGI := Lib.hid hg2; clear hr2 hg2 hs2) | fail)
    have hp2 := HB3.out.put HRI.out HGI.out (by decide) (by decide)
    obtain ⟨q2, hq⟩ : ∃ q, q = W4.heap.size := ⟨_, rfl⟩
    rw [← hq] at hp2 ⊢
    have HQ4 := Lib.hid hp2
    clear hp2 hq HRI HGI HB3
    obtain ⟨q2W, rfl⟩ : ∃ Y, Y = w2 := ⟨_, rfl⟩
    have a0 : q2W.cell? ⟨q1, 0, none⟩ = some (.int .u8 0) := (cells_at (HQ4.out.kept _ (.tail _ (.head _))).2.2 0).1
    have a1 : q2W.cell? ⟨q1, 1, none⟩ = some (.int .u64 0) := (cells_at (HQ4.out.kept _ (.tail _ (.head _))).2.2 1).1
    have a2 : q2W.cell? ⟨q1, 2, none⟩ = some (.string ⟨#[]⟩) := (cells_at (HQ4.out.kept _ (.tail _ (.head _))).2.2 2).1
    have a3 : q2W.cell? ⟨q1, 3, none⟩ = some (.string ⟨#[]⟩) := (cells_at (HQ4.out.kept _ (.tail _ (.head _))).2.2 3).1
    have a4 : q2W.cell? ⟨q1, 4, none⟩ = some (.int .u32 0) := (cells_at (HQ4.out.kept _ (.tail _ (.head _))).2.2 4).1
    have a5 : q2W.cell? ⟨q1, 5, none⟩ = some (.int .u64 0) := (cells_at (HQ4.out.kept _ (.tail _ (.head _))).2.2 5).1
    have a6 : q2W.cell? ⟨q1, 6, none⟩ = some (.int .i64 0) := (cells_at (HQ4.out.kept _ (.tail _ (.head _))).2.2 6).1
    have a7 : q2W.cell? ⟨q1, 7, none⟩ = some (.int .i64 0) := (cells_at (HQ4.out.kept _ (.tail _ (.head _))).2.2 7).1
    have b0 : q2W.cell? ⟨q2, 0, none⟩ = some (.string ⟨#[]⟩) := (cells_at (HQ4.out.kept _ (.head _)).2.2 0).1
    have b1 : q2W.cell? ⟨q2, 1, none⟩ = some (.string ⟨#[]⟩) := (cells_at (HQ4.out.kept _ (.head _)).2.2 1).1
    have b2 : q2W.cell? ⟨q2, 2, none⟩ = some (.int .u32 0) := (cells_at (HQ4.out.kept _ (.head _)).2.2 2).1
    have b3 : q2W.cell? ⟨q2, 3, none⟩ = some (.int .u64 0) := (cells_at (HQ4.out.kept _ (.head _)).2.2 3).1
    have b4 : q2W.cell? ⟨q2, 4, none⟩ = some (.int .i64 0) := (cells_at (HQ4.out.kept _ (.head _)).2.2 4).1
    have b5 : q2W.cell? ⟨q2, 5, none⟩ = some (.int .i64 0) := (cells_at (HQ4.out.kept _ (.head _)).2.2 5).1
    have HCB := Lib.hid ((HQ4.out.kept _ (.tail _ (.tail _ (.head _)))).2.2)
    have qz := build_ansZ2
    have qi := build_itemZ2
    have qa : ∀ W : World, (binOp .neq 40 (.agg #[.int .u8 0, .int .u64 0, .string ⟨#[]⟩, .string ⟨#[]⟩, .int .u32 0, .int .u64 0, .int .i64 0, .int .i64 0]) (.agg #[.int .u8 0, .int .u64 0, .string ⟨#[]⟩, .string ⟨#[]⟩, .int .u32 0, .int .u64 0, .int .i64 0, .int .i64 0])).run Tryz.prog W = .ok (.bool false) W := fun W => by have h := run_ans_ne noAns noAns W; rw [decide_eq_true rfl] at h; exact h
    have qj : ∀ W : World, (binOp .neq 38 (.agg #[.string ⟨#[]⟩, .string ⟨#[]⟩, .int .u32 0, .int .u64 0, .int .i64 0, .int .i64 0]) (.agg #[.string ⟨#[]⟩, .string ⟨#[]⟩, .int .u32 0, .int .u64 0, .int .i64 0, .int .i64 0])).run Tryz.prog W = .ok (.bool false) W := fun W => by have h := run_item_ne noItem noItem W; rw [decide_eq_true rfl] at h; exact h
    go_wp2_with (first | ((with_reducible show wpList _ _ _ (⟨some 57, Op.load 42 _, _, _, _, _⟩ :: _) _ _); refine Go.BigFrame.wpList_want (by rfl) fun K hK => wp_load_row 42 (.tmp 2) (by rfl) n0 (by rfl) 42 _ _ _ HCB.out Tryz.underlying42 rfl (by kernel_rfl) (hK _ _ ?_)) | fail)
    clear HCB
    refine (mapsFits_nil c q2W).mono ?_
    rintro e W5 ⟨rfl, hb⟩
    have HB5 := Lib.hid (HQ4.out.below hb)
    clear hb HQ4 a0 a1 a2 a3 a4 a5 a6 a7 b0 b1 b2 b3 b4 b5 qz qi qa qj
    have y0 : W5.cell? ⟨n0 + 1, 0, none⟩ = some (.string d.key) := (cells_at (HB5.out.kept _ (.tail _ (.tail _ (.tail _ (.head _))))).2.2 0).1
    have y1 : W5.cell? ⟨n0 + 1, 1, none⟩ = some (.string d.value) := (cells_at (HB5.out.kept _ (.tail _ (.tail _ (.tail _ (.head _))))).2.2 1).1
    have y2 : W5.cell? ⟨n0 + 1, 2, none⟩ = some (.int .u32 d.flags) := (cells_at (HB5.out.kept _ (.tail _ (.tail _ (.tail _ (.head _))))).2.2 2).1
    have y3 : W5.cell? ⟨n0 + 1, 3, none⟩ = some (.int .u64 d.id) := (cells_at (HB5.out.kept _ (.tail _ (.tail _ (.tail _ (.head _))))).2.2 3).1
    have y4 : W5.cell? ⟨n0 + 1, 4, none⟩ = some (.int .i64 d.dies) := (cells_at (HB5.out.kept _ (.tail _ (.tail _ (.tail _ (.head _))))).2.2 4).1
    have y5 : W5.cell? ⟨n0 + 1, 5, none⟩ = some (.int .i64 d.gen) := (cells_at (HB5.out.kept _ (.tail _ (.tail _ (.tail _ (.head _))))).2.2 5).1
    go_wp2_with fail
    refine (mapsDrop_nil d W5).mono ?_
    rintro e W6 ⟨rfl, hb⟩
    have HB6 := Lib.hid (HB5.out.below hb)
    clear hb HB5 y0 y1 y2 y3 y4 y5
    go_wp2_with fail
    refine (mapsCount_nil W6).mono ?_
    rintro e W7 ⟨rfl, rfl⟩
    go_wp2_with fail
    refine (mapsEpoch_nil W6).mono ?_
    rintro e W7 ⟨rfl, rfl⟩
    go_wp2_with fail
    refine (mapsIds_nil W6).mono ?_
    rintro e W7 ⟨rfl, rfl⟩
    go_upto_region 10 with fail
    have k1 : W6.cell? ⟨n0, 1, none⟩ = some (.int .u8 c.call.verb) := (cells_at (HB6.out.kept _ (.tail _ (.tail _ (.head _)))).2.2 1).1
    have k2 : W6.cell? ⟨n0, 2, none⟩ = some (.string c.call.key) := (cells_at (HB6.out.kept _ (.tail _ (.tail _ (.head _)))).2.2 2).1
    have k3 : W6.cell? ⟨n0, 3, none⟩ = some (.string c.call.value) := (cells_at (HB6.out.kept _ (.tail _ (.tail _ (.head _)))).2.2 3).1
    have k4 : W6.cell? ⟨n0, 4, none⟩ = some (.int .u32 c.call.flags) := (cells_at (HB6.out.kept _ (.tail _ (.tail _ (.head _)))).2.2 4).1
    have k5 : W6.cell? ⟨n0, 5, none⟩ = some (.int .i64 c.call.exp) := (cells_at (HB6.out.kept _ (.tail _ (.tail _ (.head _)))).2.2 5).1
    have k6 : W6.cell? ⟨n0, 6, none⟩ = some (.int .u64 c.call.id) := (cells_at (HB6.out.kept _ (.tail _ (.tail _ (.head _)))).2.2 6).1
    have k7 : W6.cell? ⟨n0, 7, none⟩ = some (.int .u64 c.call.by') := (cells_at (HB6.out.kept _ (.tail _ (.tail _ (.head _)))).2.2 7).1
    have k18 : W6.cell? ⟨n0, 18, none⟩ = some (.int .u64 (c.epoch : Int)) := (cells_at (HB6.out.kept _ (.tail _ (.tail _ (.head _)))).2.2 18).1
    go_wp2_with fail
    refine (mapsGives_any (c := c.call) (ep := c.epoch) HB6.out.lv.map MOk.new.ep HEP.out HFC.out.key HFC.out.verb HFC.out.exp HFC.out.by' (by decide) (HE1.out.below HB6.out.lv.bel) (HP1.out.below HB6.out.lv.bel)).mono ?_
    rintro e W8 ⟨rfl, hb⟩
    have HB7 := Lib.hid (HB6.out.below hb)
    clear hb HB6 k1 k2 k3 k4 k5 k6 k7 k18
    have HGR := Lib.hid (fun (W : World) (v : Value) (hr : RMap W r v newM) => rGives_any (c := c.call) (ep := c.epoch) hr (Nat.zero_le _) MOk.new.ep HEP.out HFC.out.key HFC.out.exp HFC.out.by' (by decide) MOk.new.val)
    obtain ⟨A, hA⟩ : ∃ A, A = ansM newM c.call c.epoch := ⟨_, rfl⟩
    obtain ⟨is, his⟩ : ∃ b, b = isM newM c.call c.epoch := ⟨_, rfl⟩
    rw [← hA, ← his] at HGR ⊢
    clear hA his
    go_upto_region 11 with (first | ((with_reducible show wpList _ _ _ (⟨none, Op.store 40 _ _, _, _, _, _⟩ :: _) _ _); refine wpList_store_whole (by rfl) 40 (.tmp 12) (.tmp 86) (by rfl) W8.heap.size (by rfl) #[.int .u8 A.kind, .int .u64 A.number, .string A.item.key, .string A.item.value, .int .u32 A.item.flags, .int .u64 A.item.id, .int .i64 A.item.dies, .int .i64 A.item.gen] (by rfl) _ 40 (heap_alloc_new _ _) (by rfl) (by kernel_rfl) (by simp [Value.oneCell']) ?_; intro w2 hr2 hg2 hs2; have HRI := Lib.hid hr2; have HGI := Lib.hid hg2; clear hr2 hg2 hs2) | fail)
    have hp2 := HB7.out.put HRI.out HGI.out (by decide) (by decide)
    obtain ⟨q3, hq⟩ : ∃ q, q = W8.heap.size := ⟨_, rfl⟩
    rw [← hq] at hp2 ⊢
    have HQ8 := Lib.hid hp2
    clear hp2 hq HRI HGI HB7
    obtain ⟨q3W, rfl⟩ : ∃ Y, Y = w2 := ⟨_, rfl⟩
    have k1 : q3W.cell? ⟨n0, 1, none⟩ = some (.int .u8 c.call.verb) := (cells_at (HQ8.out.kept _ (.tail _ (.tail _ (.tail _ (.head _))))).2.2 1).1
    have k2 : q3W.cell? ⟨n0, 2, none⟩ = some (.string c.call.key) := (cells_at (HQ8.out.kept _ (.tail _ (.tail _ (.tail _ (.head _))))).2.2 2).1
    have k3 : q3W.cell? ⟨n0, 3, none⟩ = some (.string c.call.value) := (cells_at (HQ8.out.kept _ (.tail _ (.tail _ (.tail _ (.head _))))).2.2 3).1
    have k4 : q3W.cell? ⟨n0, 4, none⟩ = some (.int .u32 c.call.flags) := (cells_at (HQ8.out.kept _ (.tail _ (.tail _ (.tail _ (.head _))))).2.2 4).1
    have k5 : q3W.cell? ⟨n0, 5, none⟩ = some (.int .i64 c.call.exp) := (cells_at (HQ8.out.kept _ (.tail _ (.tail _ (.tail _ (.head _))))).2.2 5).1
    have k6 : q3W.cell? ⟨n0, 6, none⟩ = some (.int .u64 c.call.id) := (cells_at (HQ8.out.kept _ (.tail _ (.tail _ (.tail _ (.head _))))).2.2 6).1
    have k7 : q3W.cell? ⟨n0, 7, none⟩ = some (.int .u64 c.call.by') := (cells_at (HQ8.out.kept _ (.tail _ (.tail _ (.tail _ (.head _))))).2.2 7).1
    have k18 : q3W.cell? ⟨n0, 18, none⟩ = some (.int .u64 (c.epoch : Int)) := (cells_at (HQ8.out.kept _ (.tail _ (.tail _ (.tail _ (.head _))))).2.2 18).1
    go_wp2_with fail
    obtain ⟨v3, hv3⟩ := HQ8.out.ref
    refine (HGR.out _ v3 hv3).mono ?_
    rintro e W9 ⟨rfl, hb⟩
    have HB9 := Lib.hid (HQ8.out.below hb)
    clear hb HQ8 k1 k2 k3 k4 k5 k6 k7 k18 hv3 HGR
    go_upto_region 12 with (first | ((with_reducible show wpList _ _ _ (⟨none, Op.store 40 _ _, _, _, _, _⟩ :: _) _ _); refine wpList_store_whole (by rfl) 40 (.tmp 14) (.tmp 95) (by rfl) W9.heap.size (by rfl) #[.int .u8 A.kind, .int .u64 A.number, .string A.item.key, .string A.item.value, .int .u32 A.item.flags, .int .u64 A.item.id, .int .i64 A.item.dies, .int .i64 A.item.gen] (by rfl) _ 40 (heap_alloc_new _ _) (by rfl) (by kernel_rfl) (by simp [Value.oneCell']) ?_; intro w2 hr2 hg2 hs2; have HRI := Lib.hid hr2; have HGI := Lib.hid hg2; clear hr2 hg2 hs2) | fail)
    have hp2 := HB9.out.put HRI.out HGI.out (by decide) (by decide)
    obtain ⟨q4, hq⟩ : ∃ q, q = W9.heap.size := ⟨_, rfl⟩
    rw [← hq] at hp2 ⊢
    have HQ10 := Lib.hid hp2
    clear hp2 hq HRI HGI HB9
    obtain ⟨q4W, rfl⟩ : ∃ Y, Y = w2 := ⟨_, rfl⟩
    have qe : ∀ W : World, (binOp .eql 40 (.agg #[.int .u8 A.kind, .int .u64 A.number, .string A.item.key, .string A.item.value, .int .u32 A.item.flags, .int .u64 A.item.id, .int .i64 A.item.dies, .int .i64 A.item.gen]) (.agg #[.int .u8 A.kind, .int .u64 A.number, .string A.item.key, .string A.item.value, .int .u32 A.item.flags, .int .u64 A.item.id, .int .i64 A.item.dies, .int .i64 A.item.gen])).run Tryz.prog W = .ok (.bool true) W := fun W => by have h := run_ans_eq A A W; rw [decide_eq_true rfl] at h; exact h
    have hmo := MOk.new.drop d
    obtain ⟨⟨fb, m2⟩, hf⟩ : ∃ y, y = dropM newM d := ⟨_, rfl⟩
    rw [← hf] at hmo
    have HM2 := Lib.hid (show MOk m2 (0 + 1) from hmo)
    have HFF := Lib.hid hf
    have hmo3 := hmo.fits (c := c.call) HFC.out.value HEP.out c.ans
    obtain ⟨⟨fb3, m3⟩, hf3⟩ : ∃ y, y = fitsM m2 c.call c.epoch c.ans := ⟨_, rfl⟩
    simp only at hmo3
    rw [← hf3] at hmo3
    have HM3 := Lib.hid (show MOk m3 (0 + 1 + 1) from hmo3)
    have HF3 := Lib.hid hf3
    clear hmo hmo3 hf hf3
    have HD0 := Lib.hid (show PlS W1 q4W.drew p r newM newM [(q4, #[.int .u8 A.kind, .int .u64 A.number, .string A.item.key, .string A.item.value, .int .u32 A.item.flags, .int .u64 A.item.id, .int .i64 A.item.dies, .int .i64 A.item.gen], 40), (q3, #[.int .u8 A.kind, .int .u64 A.number, .string A.item.key, .string A.item.value, .int .u32 A.item.flags, .int .u64 A.item.id, .int .i64 A.item.dies, .int .i64 A.item.gen], 40), (q2, #[.string ⟨#[]⟩, .string ⟨#[]⟩, .int .u32 0, .int .u64 0, .int .i64 0, .int .i64 0], 38), (q1, #[.int .u8 0, .int .u64 0, .string ⟨#[]⟩, .string ⟨#[]⟩, .int .u32 0, .int .u64 0, .int .i64 0, .int .i64 0], 40), (n0, #[.int .i64 c.thread, .int .u8 c.call.verb, .string c.call.key, .string c.call.value, .int .u32 c.call.flags, .int .i64 c.call.exp, .int .u64 c.call.id, .int .u64 c.call.by', .int .i64 c.from', .int .i64 c.till, .int .u8 c.ans.kind, .int .u64 c.ans.number, .string c.ans.item.key, .string c.ans.item.value, .int .u32 c.ans.item.flags, .int .u64 c.ans.item.id, .int .i64 c.ans.item.dies, .int .i64 c.ans.item.gen, .int .u64 (c.epoch : Int), .int .i64 c.point], 42), (n0 + 1, #[.string d.key, .string d.value, .int .u32 d.flags, .int .u64 d.id, .int .i64 d.dies, .int .i64 d.gen], 38)] from HQ10.out.below (bdrew (Below.refl _ _)))
    clear HQ10
    refine wp_region_held_drew (S := PlK W1 p r [(q4, #[.int .u8 A.kind, .int .u64 A.number, .string A.item.key, .string A.item.value, .int .u32 A.item.flags, .int .u64 A.item.id, .int .i64 A.item.dies, .int .i64 A.item.gen], 40), (q3, #[.int .u8 A.kind, .int .u64 A.number, .string A.item.key, .string A.item.value, .int .u32 A.item.flags, .int .u64 A.item.id, .int .i64 A.item.dies, .int .i64 A.item.gen], 40), (q2, #[.string ⟨#[]⟩, .string ⟨#[]⟩, .int .u32 0, .int .u64 0, .int .i64 0, .int .i64 0], 38), (q1, #[.int .u8 0, .int .u64 0, .string ⟨#[]⟩, .string ⟨#[]⟩, .int .u32 0, .int .u64 0, .int .i64 0, .int .i64 0], 40), (n0, #[.int .i64 c.thread, .int .u8 c.call.verb, .string c.call.key, .string c.call.value, .int .u32 c.call.flags, .int .i64 c.call.exp, .int .u64 c.call.id, .int .u64 c.call.by', .int .i64 c.from', .int .i64 c.till, .int .u8 c.ans.kind, .int .u64 c.ans.number, .string c.ans.item.key, .string c.ans.item.value, .int .u32 c.ans.item.flags, .int .u64 c.ans.item.id, .int .i64 c.ans.item.dies, .int .i64 c.ans.item.gen, .int .u64 (c.epoch : Int), .int .i64 c.point], 42), (n0 + 1, #[.string d.key, .string d.value, .int .u32 d.flags, .int .u64 d.id, .int .i64 d.dies, .int .i64 d.gen], 38)]) (by kernel_rfl) HD0.out.k (fun hHeld => ?_)
    refine wpAnyH_take (i := 0) rfl (by kernel_rfl) (by kernel_rfl) (by kernel_rfl) (fun _ _ _ h => h) (yieldsIf_load_mid (by rfl) 40 (.tmp 12) (by rfl) q3 0 (by rfl) [.int .u8 A.kind, .int .u64 A.number, .string A.item.key, .string A.item.value, .int .u32 A.item.flags, .int .u64 A.item.id, .int .i64 A.item.dies, .int .i64 A.item.gen] _ (fun w hSw => range_block (PlK.at hSw (.tail _ (.head _)))) Tryz.underlying40 rfl (by kernel_rfl)) (by assumption) ?_
    try simp only [Act.put, List.setIfInBounds_toArray, List.set_cons_zero, List.set_cons_succ, List.getElem_toArray, List.getElem_cons_zero]
    refine wpAnyH_take (i := 1) rfl (by kernel_rfl) (by kernel_rfl) (by kernel_rfl) (fun _ _ _ h => h) (yieldsIf_load_mid (by rfl) 40 (.tmp 14) (by rfl) q4 0 (by rfl) [.int .u8 A.kind, .int .u64 A.number, .string A.item.key, .string A.item.value, .int .u32 A.item.flags, .int .u64 A.item.id, .int .i64 A.item.dies, .int .i64 A.item.gen] _ (fun w hSw => range_block (PlK.at hSw (.head _))) Tryz.underlying40 rfl (by kernel_rfl)) (by assumption) ?_
    try simp only [Act.put, List.setIfInBounds_toArray, List.set_cons_zero, List.set_cons_succ, List.getElem_toArray, List.getElem_cons_zero, List.getElem_cons_succ]
    refine wpAnyH_take (i := 2) (v := ?_) rfl (by kernel_rfl) (by kernel_rfl) (by kernel_rfl) (fun _ _ _ h => h) (Or.inl ⟨by rfl, ?_⟩) (by assumption) ?_
    rotate_left 1
    · ((intro w hSw; (try dsimp only at hSw); go_simp) <;> with_reducible rfl)
    try simp only [Act.put, List.setIfInBounds_toArray, List.set_cons_zero, List.set_cons_succ, List.getElem_toArray, List.getElem_cons_zero, List.getElem_cons_succ]
    refine wpAnyH_take (i := 3) (v := ?_) rfl (by kernel_rfl) (by kernel_rfl) (by kernel_rfl) (fun _ _ _ h => h) (Or.inl ⟨by rfl, ?_⟩) (by assumption) ?_
    rotate_left 1
    · ((intro w hSw; (try dsimp only at hSw); go_simp) <;> with_reducible rfl)
    try simp only [Act.put, List.setIfInBounds_toArray, List.set_cons_zero, List.set_cons_succ, List.getElem_toArray, List.getElem_cons_zero, List.getElem_cons_succ]
    refine wpAnyH_take (i := 4) (v := ?_) rfl (by kernel_rfl) (by kernel_rfl) (by kernel_rfl) (fun _ _ _ h => h) (Or.inl ⟨by rfl, ?_⟩) (by assumption) ?_
    rotate_left 1
    · ((intro w hSw; (try dsimp only at hSw); go_simp) <;> with_reducible rfl)
    try simp only [Act.put, List.setIfInBounds_toArray, List.set_cons_zero, List.set_cons_succ, List.getElem_toArray, List.getElem_cons_zero, List.getElem_cons_succ]
    refine wpAnyH_take (i := 5) (v := ?_) rfl (by kernel_rfl) (by kernel_rfl) (by kernel_rfl) (fun _ _ _ h => h) (Or.inl ⟨by rfl, ?_⟩) (by assumption) ?_
    rotate_left 1
    · ((intro w hSw; (try dsimp only at hSw); go_simp) <;> with_reducible rfl)
    try simp only [Act.put, List.setIfInBounds_toArray, List.set_cons_zero, List.set_cons_succ, List.getElem_toArray, List.getElem_cons_zero, List.getElem_cons_succ]
    refine wpAnyH_take (i := 6) (v := ?_) rfl (by kernel_rfl) (by kernel_rfl) (by kernel_rfl) (fun _ _ _ h => h) (Or.inl ⟨by rfl, ?_⟩) (by assumption) ?_
    rotate_left 1
    · ((intro w hSw; (try dsimp only at hSw); go_simp) <;> with_reducible rfl)
    try simp only [Act.put, List.setIfInBounds_toArray, List.set_cons_zero, List.set_cons_succ, List.getElem_toArray, List.getElem_cons_zero, List.getElem_cons_succ]
    refine wpAnyH_take (i := 7) (v := ?_) rfl (by kernel_rfl) (by kernel_rfl) (by kernel_rfl) (fun _ _ _ h => h) (Or.inl ⟨by rfl, ?_⟩) (by assumption) ?_
    rotate_left 1
    · ((intro w hSw; (try dsimp only at hSw); go_simp) <;> with_reducible rfl)
    try simp only [Act.put, List.setIfInBounds_toArray, List.set_cons_zero, List.set_cons_succ, List.getElem_toArray, List.getElem_cons_zero, List.getElem_cons_succ]
    refine wpAnyH_take (i := 8) (v := ?_) rfl (by kernel_rfl) (by kernel_rfl) (by kernel_rfl) (fun _ _ _ h => h) (Or.inl ⟨by rfl, ?_⟩) (by assumption) ?_
    rotate_left 1
    · ((intro w hSw; (try dsimp only at hSw); go_simp) <;> with_reducible rfl)
    try simp only [Act.put, List.setIfInBounds_toArray, List.set_cons_zero, List.set_cons_succ, List.getElem_toArray, List.getElem_cons_zero, List.getElem_cons_succ]
    refine wpAnyH_take (i := 9) rfl (by kernel_rfl) (by kernel_rfl) (by kernel_rfl) (fun _ _ _ h => h) (yieldsIf_load_mid (by rfl) 38 (.tmp 3) (by rfl) (n0 + 1) 0 (by rfl) [.string d.key, .string d.value, .int .u32 d.flags, .int .u64 d.id, .int .i64 d.dies, .int .i64 d.gen] _ (fun w hSw => range_block (PlK.at hSw (.tail _ (.tail _ (.tail _ (.tail _ (.tail _ (.head _)))))))) Tryz.underlying38 rfl (by kernel_rfl)) (by assumption) ?_
    try simp only [Act.put, List.setIfInBounds_toArray, List.set_cons_zero, List.set_cons_succ, List.getElem_toArray, List.getElem_cons_zero, List.getElem_cons_succ]
    refine wpAnyH_take (i := 11) (v := ?_) rfl (by kernel_rfl) (by kernel_rfl) (by kernel_rfl) (fun _ _ _ h => h) (Or.inl ⟨by rfl, ?_⟩) (by assumption) ?_
    rotate_left 1
    · ((intro w hSw; (try dsimp only at hSw); go_simp) <;> with_reducible rfl)
    try simp only [Act.put, List.setIfInBounds_toArray, List.set_cons_zero, List.set_cons_succ, List.getElem_toArray, List.getElem_cons_zero, List.getElem_cons_succ]
    refine wpAnyH_take (i := 12) rfl (by kernel_rfl) (by kernel_rfl) (by kernel_rfl) (fun _ _ _ h => h) (yieldsIf_load_mid (by rfl) 38 (.tmp 3) (by rfl) (n0 + 1) 0 (by rfl) [.string d.key, .string d.value, .int .u32 d.flags, .int .u64 d.id, .int .i64 d.dies, .int .i64 d.gen] _ (fun w hSw => range_block (PlK.at hSw (.tail _ (.tail _ (.tail _ (.tail _ (.tail _ (.head _)))))))) Tryz.underlying38 rfl (by kernel_rfl)) (by assumption) ?_
    try simp only [Act.put, List.setIfInBounds_toArray, List.set_cons_zero, List.set_cons_succ, List.getElem_toArray, List.getElem_cons_zero, List.getElem_cons_succ]
    refine wpAnyH_ready (rs := [10]) (by kernel_rfl) (by simp) ?_
    refine (AllReadyH.cons rfl (fun K hK => ?_) AllReadyH.nil)
    go_simp
    go_at_call 12
    refine (mapsDrop_any HD0.out.lv.map HDK.out).mono ?_
    rintro e V2 ⟨rfl, hm2, hc2⟩
    have hp2 := HD0.out.stepM hm2 hc2
    rw [← HFF.out] at hp2 ⊢
    simp only at hp2 ⊢
    have HD2 := Lib.hid hp2
    clear hm2 hc2 hp2
    refine hK.out _ _ HD2.out.k (fun hHeld2 => ?_)
    clear hK K
    try simp only [Act.put, List.setIfInBounds_toArray, List.set_cons_zero, List.set_cons_succ, List.getElem_toArray, List.getElem_cons_zero, List.getElem_cons_succ]
    refine wpAnyH_ready (rs := [13]) (by kernel_rfl) (by simp) ?_
    refine (AllReadyH.cons rfl (fun K hK => ?_) AllReadyH.nil)
    go_simp
    go_at_call 13
    obtain ⟨v5, hv5⟩ := HD2.out.ref
    refine (rDrop_any (x := d) hv5 (Nat.zero_le _)).mono ?_
    rintro e V6 ⟨rfl, hr6, hc6⟩
    have hp6 := HD2.out.stepR hr6 hc6
    rw [← HFF.out] at hp6 ⊢
    simp only at hp6 ⊢
    have HD6 := Lib.hid hp6
    clear hr6 hc6 hp6 hv5 HFF
    refine hK.out _ _ HD6.out.k (fun hHeld2 => ?_)
    clear hK K
    try simp only [Act.put, List.setIfInBounds_toArray, List.set_cons_zero, List.set_cons_succ, List.getElem_toArray, List.getElem_cons_zero, List.getElem_cons_succ]
    refine wpAnyH_take (i := 14) (v := ?_) rfl (by kernel_rfl) (by kernel_rfl) (by kernel_rfl) (fun _ _ _ h => h) (Or.inl ⟨by rfl, ?_⟩) (by assumption) ?_
    rotate_left 1
    · ((intro w hSw; (try dsimp only at hSw); go_simp) <;> with_reducible rfl)
    try simp only [Act.put, List.setIfInBounds_toArray, List.set_cons_zero, List.set_cons_succ, List.getElem_toArray, List.getElem_cons_zero, List.getElem_cons_succ]
    refine wpAnyH_take (i := 15) (v := ?_) rfl (by kernel_rfl) (by kernel_rfl) (by kernel_rfl) (fun _ _ _ h => h) (Or.inl ⟨by rfl, ?_⟩) (by assumption) ?_
    rotate_left 1
    · ((intro w hSw; (try dsimp only at hSw); go_simp) <;> with_reducible rfl)
    try simp only [Act.put, List.setIfInBounds_toArray, List.set_cons_zero, List.set_cons_succ, List.getElem_toArray, List.getElem_cons_zero, List.getElem_cons_succ]
    refine wpAnyH_take (i := 16) (v := ?_) rfl (by kernel_rfl) (by kernel_rfl) (by kernel_rfl) (fun _ _ _ h => h) (Or.inl ⟨by rfl, ?_⟩) (by assumption) ?_
    rotate_left 1
    · ((intro w hSw; (try dsimp only at hSw); go_simp) <;> with_reducible rfl)
    try simp only [Act.put, List.setIfInBounds_toArray, List.set_cons_zero, List.set_cons_succ, List.getElem_toArray, List.getElem_cons_zero, List.getElem_cons_succ]
    refine wpAnyH_take (i := 17) rfl (by kernel_rfl) (by kernel_rfl) (by kernel_rfl) (fun _ _ _ h => h) (yieldsIf_load_mid (by rfl) 42 (.tmp 2) (by rfl) n0 0 (by rfl) [.int .i64 c.thread, .int .u8 c.call.verb, .string c.call.key, .string c.call.value, .int .u32 c.call.flags, .int .i64 c.call.exp, .int .u64 c.call.id, .int .u64 c.call.by', .int .i64 c.from', .int .i64 c.till, .int .u8 c.ans.kind, .int .u64 c.ans.number, .string c.ans.item.key, .string c.ans.item.value, .int .u32 c.ans.item.flags, .int .u64 c.ans.item.id, .int .i64 c.ans.item.dies, .int .i64 c.ans.item.gen, .int .u64 (c.epoch : Int), .int .i64 c.point] _ (fun w hSw => range_block (PlK.at hSw (.tail _ (.tail _ (.tail _ (.tail _ (.head _))))))) Tryz.underlying42 rfl (by kernel_rfl)) (by assumption) ?_
    try simp only [Act.put, List.setIfInBounds_toArray, List.set_cons_zero, List.set_cons_succ, List.getElem_toArray, List.getElem_cons_zero, List.getElem_cons_succ]
    refine wpAnyH_take (i := 19) (v := ?_) rfl (by kernel_rfl) (by kernel_rfl) (by kernel_rfl) (fun _ _ _ h => h) (Or.inl ⟨by rfl, ?_⟩) (by assumption) ?_
    rotate_left 1
    · ((intro w hSw; (try dsimp only at hSw); go_simp) <;> with_reducible rfl)
    try simp only [Act.put, List.setIfInBounds_toArray, List.set_cons_zero, List.set_cons_succ, List.getElem_toArray, List.getElem_cons_zero, List.getElem_cons_succ]
    refine wpAnyH_take (i := 20) rfl (by kernel_rfl) (by kernel_rfl) (by kernel_rfl) (fun _ _ _ h => h) (yieldsIf_load_mid (by rfl) 42 (.tmp 2) (by rfl) n0 0 (by rfl) [.int .i64 c.thread, .int .u8 c.call.verb, .string c.call.key, .string c.call.value, .int .u32 c.call.flags, .int .i64 c.call.exp, .int .u64 c.call.id, .int .u64 c.call.by', .int .i64 c.from', .int .i64 c.till, .int .u8 c.ans.kind, .int .u64 c.ans.number, .string c.ans.item.key, .string c.ans.item.value, .int .u32 c.ans.item.flags, .int .u64 c.ans.item.id, .int .i64 c.ans.item.dies, .int .i64 c.ans.item.gen, .int .u64 (c.epoch : Int), .int .i64 c.point] _ (fun w hSw => range_block (PlK.at hSw (.tail _ (.tail _ (.tail _ (.tail _ (.head _))))))) Tryz.underlying42 rfl (by kernel_rfl)) (by assumption) ?_
    try simp only [Act.put, List.setIfInBounds_toArray, List.set_cons_zero, List.set_cons_succ, List.getElem_toArray, List.getElem_cons_zero, List.getElem_cons_succ]
    refine wpAnyH_ready (rs := [18]) (by kernel_rfl) (by simp) ?_
    refine (AllReadyH.cons rfl (fun K hK => ?_) AllReadyH.nil)
    go_simp
    go_at_call 14
    refine (mapsFits_any (x := c) HD6.out.lv.map HM2.out.ep HEP.out HFC.out.key HFC.out.verb HFC.out.exp HFC.out.by' (by have := HM2.out.ids; show m2.ids < _; omega) (HE1.out.below HD6.out.lv.bel) (HP1.out.below HD6.out.lv.bel)).mono ?_
    rintro e V7 ⟨rfl, hm2, hc2⟩
    have hp2 := HD6.out.stepM hm2 hc2
    rw [← HF3.out] at hp2 ⊢
    simp only at hp2 ⊢
    have HD7 := Lib.hid hp2
    clear hm2 hc2 hp2
    refine hK.out _ _ HD7.out.k (fun hHeld2 => ?_)
    clear hK K
    try simp only [Act.put, List.setIfInBounds_toArray, List.set_cons_zero, List.set_cons_succ, List.getElem_toArray, List.getElem_cons_zero, List.getElem_cons_succ]
    refine wpAnyH_ready (rs := [21]) (by kernel_rfl) (by simp) ?_
    refine (AllReadyH.cons rfl (fun K hK => ?_) AllReadyH.nil)
    go_simp
    go_at_call 16
    refine (otherCall_any c _).mono ?_
    rintro e V8 ⟨rfl, hb⟩
    have HD8 := Lib.hid (HD7.out.below hb)
    clear hb
    refine hK.out _ _ HD8.out.k (fun hHeld2 => ?_)
    clear hK K
    try simp only [Act.put, List.setIfInBounds_toArray, List.set_cons_zero, List.set_cons_succ, List.getElem_toArray, List.getElem_cons_zero, List.getElem_cons_succ]
    refine wpAnyH_ready (rs := [22]) (by kernel_rfl) (by simp) ?_
    refine (AllReadyH.cons rfl (fun K hK => ?_) AllReadyH.nil)
    go_simp
    go_at_call 15
    obtain ⟨v8, hv8⟩ := HD8.out.ref
    refine (rFits_any (x := c) hv8 (by have := HM2.out.len; show m2.L.length ≤ _; omega) HM2.out.ep HEP.out HFC.out.key HFC.out.exp HFC.out.by' (by have := HM2.out.ids; show m2.ids < _; omega) HM2.out.val).mono ?_
    rintro e V9 ⟨rfl, hr6, hc6⟩
    have hp6 := HD8.out.stepR hr6 hc6
    rw [← HF3.out] at hp6 ⊢
    simp only at hp6 ⊢
    have HD9 := Lib.hid hp6
    clear hr6 hc6 hp6 hv8 HF3
    refine hK.out _ _ HD9.out.k (fun hHeld2 => ?_)
    clear hK K
    try simp only [Act.put, List.setIfInBounds_toArray, List.set_cons_zero, List.set_cons_succ, List.getElem_toArray, List.getElem_cons_zero, List.getElem_cons_succ]
    refine wpAnyH_take (i := 23) (v := ?_) rfl (by kernel_rfl) (by kernel_rfl) (by kernel_rfl) (fun _ _ _ h => h) (Or.inl ⟨by rfl, ?_⟩) (by assumption) ?_
    rotate_left 1
    · ((intro w hSw; (try dsimp only at hSw); go_simp) <;> with_reducible rfl)
    try simp only [Act.put, List.setIfInBounds_toArray, List.set_cons_zero, List.set_cons_succ, List.getElem_toArray, List.getElem_cons_zero, List.getElem_cons_succ]
    refine wpAnyH_take (i := 24) (v := ?_) rfl (by kernel_rfl) (by kernel_rfl) (by kernel_rfl) (fun _ _ _ h => h) (Or.inl ⟨by rfl, ?_⟩) (by assumption) ?_
    rotate_left 1
    · ((intro w hSw; (try dsimp only at hSw); go_simp) <;> with_reducible rfl)
    try simp only [Act.put, List.setIfInBounds_toArray, List.set_cons_zero, List.set_cons_succ, List.getElem_toArray, List.getElem_cons_zero, List.getElem_cons_succ]
    refine wpAnyH_take (i := 25) (v := ?_) rfl (by kernel_rfl) (by kernel_rfl) (by kernel_rfl) (fun _ _ _ h => h) (Or.inl ⟨by rfl, ?_⟩) (by assumption) ?_
    rotate_left 1
    · ((intro w hSw; (try dsimp only at hSw); go_simp) <;> with_reducible rfl)
    try simp only [Act.put, List.setIfInBounds_toArray, List.set_cons_zero, List.set_cons_succ, List.getElem_toArray, List.getElem_cons_zero, List.getElem_cons_succ]
    refine wpAnyH_take (i := 26) (v := ?_) rfl (by kernel_rfl) (by kernel_rfl) (by kernel_rfl) (fun _ _ _ h => h) (Or.inl ⟨by rfl, ?_⟩) (by assumption) ?_
    rotate_left 1
    · ((intro w hSw; (try dsimp only at hSw); go_simp) <;> with_reducible rfl)
    try simp only [Act.put, List.setIfInBounds_toArray, List.set_cons_zero, List.set_cons_succ, List.getElem_toArray, List.getElem_cons_zero, List.getElem_cons_succ]
    refine wpAnyH_ready (rs := [27]) (by kernel_rfl) (by simp) ?_
    refine (AllReadyH.cons rfl (fun K hK => ?_) AllReadyH.nil)
    go_simp
    go_at_call 18
    obtain ⟨v9, hv9⟩ := HD9.out.ref
    refine (mapsSame_any HD9.out.lv.map hv9 (by have := HM3.out.len; show m3.L.length ≤ _; omega)).mono ?_
    rintro e V10 ⟨rfl, hb⟩
    have HD10 := Lib.hid (HD9.out.below hb)
    clear hb hv9
    refine hK.out _ _ HD10.out.k (fun hHeld2 => ?_)
    clear hK K
    try simp only [Act.put, List.setIfInBounds_toArray, List.set_cons_zero, List.set_cons_succ, List.getElem_toArray, List.getElem_cons_zero, List.getElem_cons_succ]
    refine wpAnyH_take (i := 28) (v := ?_) rfl (by kernel_rfl) (by kernel_rfl) (by kernel_rfl) (fun _ _ _ h => h) (Or.inl ⟨by rfl, ?_⟩) (by assumption) ?_
    rotate_left 1
    · ((intro w hSw; (try dsimp only at hSw); go_simp) <;> with_reducible rfl)
    try simp only [Act.put, List.setIfInBounds_toArray, List.set_cons_zero, List.set_cons_succ, List.getElem_toArray, List.getElem_cons_zero, List.getElem_cons_succ]
    refine wpAnyH_take (i := 29) (v := ?_) rfl (by kernel_rfl) (by kernel_rfl) (by kernel_rfl) (fun _ _ _ h => h) (Or.inl ⟨by rfl, ?_⟩) (by assumption) ?_
    rotate_left 1
    · ((intro w hSw; (try dsimp only at hSw); go_simp) <;> with_reducible rfl)
    try simp only [Act.put, List.setIfInBounds_toArray, List.set_cons_zero, List.set_cons_succ, List.getElem_toArray, List.getElem_cons_zero, List.getElem_cons_succ]
    refine wpAnyH_ready (rs := [30]) (by kernel_rfl) (by simp) ?_
    refine (AllReadyH.cons rfl (fun K hK => ?_) AllReadyH.nil)
    go_simp
    go_at_call 7
    refine (lives36 _ (HE1.out.below HD10.out.lv.bel) (HP1.out.below HD10.out.lv.bel)).mono ?_
    rintro e V11 ⟨rfl, hb⟩
    have HD11 := Lib.hid (HD10.out.below hb)
    clear hb
    refine hK.out _ _ HD11.out.k (fun hHeld2 => ?_)
    clear hK K
    try simp only [Act.put, List.setIfInBounds_toArray, List.set_cons_zero, List.set_cons_succ, List.getElem_toArray, List.getElem_cons_zero, List.getElem_cons_succ]
    refine wpAnyH_take (i := 31) (v := ?_) rfl (by kernel_rfl) (by kernel_rfl) (by kernel_rfl) (fun _ _ _ h => h) (Or.inl ⟨by rfl, ?_⟩) (by assumption) ?_
    rotate_left 1
    · ((intro w hSw; (try dsimp only at hSw); go_simp) <;> with_reducible rfl)
    try simp only [Act.put, List.setIfInBounds_toArray, List.set_cons_zero, List.set_cons_succ, List.getElem_toArray, List.getElem_cons_zero, List.getElem_cons_succ]
    refine wpAnyH_take (i := 32) (v := ?_) rfl (by kernel_rfl) (by kernel_rfl) (by kernel_rfl) (fun _ _ _ h => h) (Or.inl ⟨by rfl, ?_⟩) (by assumption) ?_
    rotate_left 1
    · ((intro w hSw; (try dsimp only at hSw); go_simp) <;> with_reducible rfl)
    try simp only [Act.put, List.setIfInBounds_toArray, List.set_cons_zero, List.set_cons_succ, List.getElem_toArray, List.getElem_cons_zero, List.getElem_cons_succ]
    refine wpAnyH_done (by kernel_rfl) ?_ _
    have HBF := Lib.hid (HBW.out.trans (HD11.out.lv.bel.mono HBW.out.size))
    go_wp2_with fail
    go_ret
    exact ⟨rfl, HBF.out⟩
  · go_wp2_with fail
    refine (lives36 _ HE1.out HP1.out).mono ?_
    rintro e W2 ⟨rfl, hb⟩
    have HB := Lib.hid (HBW.out.trans (hb.mono HBW.out.size))
    clear hb
    go_wp2_with fail
    go_ret
    exact ⟨rfl, HB.out⟩
end Go.Proofs.YtaooangnnlopcaaGreatDoor
