/- The document's Drop; a call as the document has it; have both maps the same? Condition: the maps lie behind their pointers; fewer than 2^20 records. -/
import Derived.Test.YtaooangnnlopcaaGreatDoorMapsRF
namespace Go.Proofs.YtaooangnnlopcaaGreatDoor
open Go.RowKit Go.ChangeMaps Go.MapKept
section
variable {w : World} {r : Nat} {v : Value} {m : MapM} {x : ItemD}
set_option maxRecDepth 100000 in
set_option maxHeartbeats 8000000 in
theorem rDrop_any (h : RMap w r v m) (hfew : m.L.length ≤ 1000000) : Calls Tryz.prog 13 #[.pointer (some ⟨r, 0, none⟩), .agg #[.string x.key, .string x.value, .int .u32 x.flags, .int .u64 x.id, .int .i64 x.dies, .int .i64 x.gen]] w (RFOk w r (dropM m x).1 (dropM m x).2) := by
  have HM := Lib.hid (fun W (hb : Below w.heap.size w W) => h.below hb)
  have HF := Lib.hid hfew
  have HLT := Lib.hid h.lt
  clear h hfew
  go_enter Tryz.func13, Tryz.ntmps13
  go_upto_region 1 with fail
  obtain ⟨W0, hW0⟩ : ∃ Y, Y = w.alloc (.cells #[.string x.key, .string x.value, .int .u32 x.flags, .int .u64 x.id, .int .i64 x.dies, .int .i64 x.gen] 38) := ⟨_, rfl⟩
  have hb0 : Below w.heap.size w W0 := by rw [hW0]; exact (Below.refl _ _).alloc (Nat.le_refl _) _
  have hx0 : W0.heap[w.heap.size]? = some (.cells #[.string x.key, .string x.value, .int .u32 x.flags, .int .u64 x.id, .int .i64 x.dies, .int .i64 x.gen] 38 (0, 0)) := by rw [hW0, heap_at, if_pos rfl]
  rw [← hW0]
  have HB0 := Lib.hid hb0
  have HX0 := Lib.hid hx0
  have k0 : W0.cell? ⟨w.heap.size, 0, none⟩ = some (.string x.key) := (cells_at hx0 0).1
  clear hW0 hb0 hx0
  go_wp2_with fail
  refine (rAtM_any (k := x.key) (HM.out W0 HB0.out)).mono ?_
  rintro e w1 ⟨rfl, hb⟩
  have hdr : dropM m x = if (atL m.L x.key).isSome && decide (wasL m.L x.key = x) then (true, { m with L := withoutL m.L x.key }) else (false, m) := by
    unfold dropM wasL
    cases ha : atL m.L x.key with
    | none => rw [if_neg (by simp)]; rfl
    | some y =>
      by_cases e : y = x
      · rw [e, if_pos rfl]; simp
      · rw [if_neg (fun h => e (Option.some.inj h))]
        show _ = if (true && decide (y = x)) = true then _ else _
        rw [decide_eq_false e]; rfl
  obtain ⟨was, hwas⟩ : ∃ y, y = wasL m.L x.key := ⟨_, rfl⟩
  obtain ⟨has, hhas⟩ : ∃ b, b = (atL m.L x.key).isSome := ⟨_, rfl⟩
  rw [← hwas, ← hhas] at hdr ⊢
  have HDR := Lib.hid hdr
  have HB1 := Lib.hid (HB0.out.trans (hb.mono HB0.out.size))
  have HX1 := Lib.hid ((hb.block w.heap.size (Array.getElem?_eq_some_iff.1 HX0.out).1).trans HX0.out)
  clear hwas hhas hdr hb HB0 HX0 k0
  go_upto_region 2 with (first | ((with_reducible show wpList _ _ _ (⟨none, Op.store _ _ _, _, _, _, _⟩ :: _) _ _); refine wpList_store_whole (by rfl) 38 (.tmp 5) (.tmp 12) (by rfl) w1.heap.size (by rfl) #[.string was.key, .string was.value, .int .u32 was.flags, .int .u64 was.id, .int .i64 was.dies, .int .i64 was.gen] (by rfl) _ 38 (heap_alloc_new _ _) (by rfl) (by kernel_rfl) (by simp [Value.oneCell']) ?_; intro w2 hr2 hg2 hs2; have HRI := Lib.hid hr2; have HGI := Lib.hid hg2; clear hr2 hg2 hs2) | fail)
  have hb2 : Below w1.heap.size w1 w2 := grown_below ((Below.refl _ _).alloc (Nat.le_refl _) _) (by rw [size_at]; omega) HGI.out (fun k hk => by cases hk; exact Nat.le_refl _)
  have HB2 := Lib.hid (HB1.out.trans (hb2.mono HB1.out.size))
  have HX2 := Lib.hid ((hb2.block w.heap.size (Array.getElem?_eq_some_iff.1 HX1.out).1).trans HX1.out)
  obtain ⟨q, hq⟩ : ∃ q, q = w1.heap.size := ⟨_, rfl⟩
  rw [← hq] at HRI ⊢
  clear hb2 hq HGI HB1 HX1
  have HREF := Lib.hid (HM.out w2 HB2.out)
  cases has
  · have hno : dropM m x = (false, m) := HDR.out.trans (by rw [Bool.false_and]; rfl)
    have HNO := Lib.hid hno
    clear hno
    go_wp2_with fail
    go_ret
    exact ⟨by rw [HNO.out]; rfl, by rw [HNO.out]; exact ⟨v, HREF.out⟩, Chg.below' HB2.out⟩
  · have qn := run_item_ne was x
    have x0 : w2.cell? ⟨w.heap.size, 0, none⟩ = some (.string x.key) := (cells_at HX2.out 0).1
    have x1 : w2.cell? ⟨w.heap.size, 1, none⟩ = some (.string x.value) := (cells_at HX2.out 1).1
    have x2 : w2.cell? ⟨w.heap.size, 2, none⟩ = some (.int .u32 x.flags) := (cells_at HX2.out 2).1
    have x3 : w2.cell? ⟨w.heap.size, 3, none⟩ = some (.int .u64 x.id) := (cells_at HX2.out 3).1
    have x4 : w2.cell? ⟨w.heap.size, 4, none⟩ = some (.int .i64 x.dies) := (cells_at HX2.out 4).1
    have x5 : w2.cell? ⟨w.heap.size, 5, none⟩ = some (.int .i64 x.gen) := (cells_at HX2.out 5).1
    have y0 : w2.cell? ⟨q, 0, none⟩ = some (.string was.key) := (cells_at HRI.out 0).1
    have y1 : w2.cell? ⟨q, 1, none⟩ = some (.string was.value) := (cells_at HRI.out 1).1
    have y2 : w2.cell? ⟨q, 2, none⟩ = some (.int .u32 was.flags) := (cells_at HRI.out 2).1
    have y3 : w2.cell? ⟨q, 3, none⟩ = some (.int .u64 was.id) := (cells_at HRI.out 3).1
    have y4 : w2.cell? ⟨q, 4, none⟩ = some (.int .i64 was.dies) := (cells_at HRI.out 4).1
    have y5 : w2.cell? ⟨q, 5, none⟩ = some (.int .i64 was.gen) := (cells_at HRI.out 5).1
    have qi : ∀ W : World, (binOp .neq 38 (.agg #[.string was.key, .string was.value, .int .u32 was.flags, .int .u64 was.id, .int .i64 was.dies, .int .i64 was.gen]) (.agg #[.string x.key, .string x.value, .int .u32 x.flags, .int .u64 x.id, .int .i64 x.dies, .int .i64 x.gen])).run Tryz.prog W = .ok (.bool (!decide (was = x))) W := qn
    clear qn
    by_cases hwx : was = x
    · rw [decide_eq_true hwx] at qi
      have hye : dropM m x = (true, { m with L := withoutL m.L x.key }) := HDR.out.trans (by rw [decide_eq_true hwx]; rfl)
      have HYE := Lib.hid hye
      clear hye hwx
      go_upto_region 4 with fail
      go_wp2_with fail
      clear x0 x1 x2 x3 x4 x5 y0 y1 y2 y3 y4 y5 qi
      refine (rWithout_any (k := x.key) HREF.out (Nat.le_trans HF.out (by omega))).mono ?_
      rintro e w3 ⟨v', rfl, hj⟩
      obtain ⟨a', c', hv'⟩ := Row.len hj.irow
      obtain ⟨n', hn'⟩ : ∃ k, k = (withoutL m.L x.key).length := ⟨_, rfl⟩
      rw [← hn'] at hv'
      subst hv'
      have hr3 := HREF.out.below hj.low
      have HJ := Lib.hid hj
      have HR3 := Lib.hid hr3
      obtain ⟨va, vc, hv0⟩ := RMap.slice hr3
      have b0 : w3.cell? ⟨r, 0, none⟩ = some v := (cells_at hr3.box 0).1
      have f0 : w3.frozen? ⟨r, 0, none⟩ = false := (cells_at hr3.box 0).2
      clear hj hr3 hn'
      subst hv0
      go_wp2_with fail
      go_ret
      have hbx := Go.Joins.block_setCell (i := 0) HR3.out.box (.slice a' n' c')
      refine ⟨by rw [HYE.out]; rfl, ?_, ?_⟩
      · rw [HYE.out]
        refine ⟨.slice a' n' c', hbx, Row.kept (M := fun k => k = r) HJ.out.irow (Chg.set (M := fun k => k = r) (Chg.refl _ _) (fun _ => rfl) _) (fun g hgo e => by
          subst e
          exact absurd ((Row.tag HJ.out.irow hgo).one (Tag.of HR3.out.box)) (by decide))⟩
      · exact ((Chg.below' (M := fun k => k = r) HB2.out).then (M' := fun _ => False) (Chg.of_below HJ.out.low) (fun _ _ e => e.elim)).then (M' := fun k => k = r) (Chg.set (M := fun k => k = r) (Chg.refl _ _) (fun _ => rfl) _) (fun i _ e => e)
    · rw [decide_eq_false hwx] at qi
      have hno : dropM m x = (false, m) := HDR.out.trans (by rw [decide_eq_false hwx]; rfl)
      have HNO := Lib.hid hno
      clear hno hwx
      go_wp2_with fail
      go_ret
      exact ⟨by rw [HNO.out]; rfl, by rw [HNO.out]; exact ⟨v, HREF.out⟩, Chg.below' HB2.out⟩
end
set_option maxRecDepth 100000 in
set_option maxHeartbeats 8000000 in
theorem otherCall_any (x : CalledD) (w : World) : Calls Tryz.prog 16 #[.agg #[.int .i64 x.thread, .int .u8 x.call.verb, .string x.call.key, .string x.call.value, .int .u32 x.call.flags, .int .i64 x.call.exp, .int .u64 x.call.id, .int .u64 x.call.by', .int .i64 x.from', .int .i64 x.till, .int .u8 x.ans.kind, .int .u64 x.ans.number, .string x.ans.item.key, .string x.ans.item.value, .int .u32 x.ans.item.flags, .int .u64 x.ans.item.id, .int .i64 x.ans.item.dies, .int .i64 x.ans.item.gen, .int .u64 (x.epoch : Int), .int .i64 x.point]] w fun e w' => e = .returned (.agg #[.int .i64 x.thread, .int .u8 x.call.verb, .string x.call.key, .string x.call.value, .int .u32 x.call.flags, .int .i64 x.call.exp, .int .u64 x.call.id, .int .u64 x.call.by', .int .i64 x.from', .int .i64 x.till, .int .u8 x.ans.kind, .int .u64 x.ans.number, .string x.ans.item.key, .string x.ans.item.value, .int .u32 x.ans.item.flags, .int .u64 x.ans.item.id, .int .i64 x.ans.item.dies, .int .i64 x.ans.item.gen, .int .u64 (x.epoch : Int), .int .i64 x.point]) ∧ Below w.heap.size w w' := by
  have qb : ∀ W : World, (Instr.build 52 #[(0, .int .i64 x.thread), (1, .agg #[.int .u8 x.call.verb, .string x.call.key, .string x.call.value, .int .u32 x.call.flags, .int .i64 x.call.exp, .int .u64 x.call.id, .int .u64 x.call.by']), (2, .int .i64 x.from'), (3, .int .i64 x.till), (4, .agg #[.int .u8 x.ans.kind, .int .u64 x.ans.number, .string x.ans.item.key, .string x.ans.item.value, .int .u32 x.ans.item.flags, .int .u64 x.ans.item.id, .int .i64 x.ans.item.dies, .int .i64 x.ans.item.gen]), (5, .int .u64 (x.epoch : Int)), (6, .int .i64 x.point)]).run Tryz.prog W = .ok (.agg #[.int .i64 x.thread, .int .u8 x.call.verb, .string x.call.key, .string x.call.value, .int .u32 x.call.flags, .int .i64 x.call.exp, .int .u64 x.call.id, .int .u64 x.call.by', .int .i64 x.from', .int .i64 x.till, .int .u8 x.ans.kind, .int .u64 x.ans.number, .string x.ans.item.key, .string x.ans.item.value, .int .u32 x.ans.item.flags, .int .u64 x.ans.item.id, .int .i64 x.ans.item.dies, .int .i64 x.ans.item.gen, .int .u64 (x.epoch : Int), .int .i64 x.point]) W := fun W => by kernel_rfl
  go_enter Tryz.func16, Tryz.ntmps16
  go_upto_region 1 with fail
  obtain ⟨W0, hW0⟩ : ∃ Y, Y = (w.alloc (.cells #[.int .i64 x.thread, .int .u8 x.call.verb, .string x.call.key, .string x.call.value, .int .u32 x.call.flags, .int .i64 x.call.exp, .int .u64 x.call.id, .int .u64 x.call.by', .int .i64 x.from', .int .i64 x.till, .int .u8 x.ans.kind, .int .u64 x.ans.number, .string x.ans.item.key, .string x.ans.item.value, .int .u32 x.ans.item.flags, .int .u64 x.ans.item.id, .int .i64 x.ans.item.dies, .int .i64 x.ans.item.gen, .int .u64 (x.epoch : Int), .int .i64 x.point] 42)).alloc (.cells #[.int .i64 0, .int .u8 0, .string ⟨#[]⟩, .string ⟨#[]⟩, .int .u32 0, .int .i64 0, .int .u64 0, .int .u64 0, .int .i64 0, .int .i64 0, .int .u8 0, .int .u64 0, .string ⟨#[]⟩, .string ⟨#[]⟩, .int .u32 0, .int .u64 0, .int .i64 0, .int .i64 0, .int .u64 0, .int .i64 0] 52) := ⟨_, rfl⟩
  have hb0 : Below w.heap.size w W0 := by rw [hW0]; exact below_two w _ _
  have hx0 : W0.heap[w.heap.size]? = some (.cells #[.int .i64 x.thread, .int .u8 x.call.verb, .string x.call.key, .string x.call.value, .int .u32 x.call.flags, .int .i64 x.call.exp, .int .u64 x.call.id, .int .u64 x.call.by', .int .i64 x.from', .int .i64 x.till, .int .u8 x.ans.kind, .int .u64 x.ans.number, .string x.ans.item.key, .string x.ans.item.value, .int .u32 x.ans.item.flags, .int .u64 x.ans.item.id, .int .i64 x.ans.item.dies, .int .i64 x.ans.item.gen, .int .u64 (x.epoch : Int), .int .i64 x.point] 42 (0, 0)) := by rw [hW0]; exact (heap_two w _ _).1
  have hr0 : W0.heap[w.heap.size + 1]? = some (.cells #[.int .i64 0, .int .u8 0, .string ⟨#[]⟩, .string ⟨#[]⟩, .int .u32 0, .int .i64 0, .int .u64 0, .int .u64 0, .int .i64 0, .int .i64 0, .int .u8 0, .int .u64 0, .string ⟨#[]⟩, .string ⟨#[]⟩, .int .u32 0, .int .u64 0, .int .i64 0, .int .i64 0, .int .u64 0, .int .i64 0] 52 (0, 0)) := by rw [hW0]; exact (heap_two w _ _).2
  rw [← hW0]
  have HB0 := Lib.hid hb0
  have HR0 := Lib.hid hr0
  have x0 : W0.cell? ⟨w.heap.size, 0, none⟩ = some (.int .i64 x.thread) := (cells_at hx0 0).1
  have x1 : W0.cell? ⟨w.heap.size, 1, none⟩ = some (.int .u8 x.call.verb) := (cells_at hx0 1).1
  have x2 : W0.cell? ⟨w.heap.size, 2, none⟩ = some (.string x.call.key) := (cells_at hx0 2).1
  have x3 : W0.cell? ⟨w.heap.size, 3, none⟩ = some (.string x.call.value) := (cells_at hx0 3).1
  have x4 : W0.cell? ⟨w.heap.size, 4, none⟩ = some (.int .u32 x.call.flags) := (cells_at hx0 4).1
  have x5 : W0.cell? ⟨w.heap.size, 5, none⟩ = some (.int .i64 x.call.exp) := (cells_at hx0 5).1
  have x6 : W0.cell? ⟨w.heap.size, 6, none⟩ = some (.int .u64 x.call.id) := (cells_at hx0 6).1
  have x7 : W0.cell? ⟨w.heap.size, 7, none⟩ = some (.int .u64 x.call.by') := (cells_at hx0 7).1
  have x8 : W0.cell? ⟨w.heap.size, 8, none⟩ = some (.int .i64 x.from') := (cells_at hx0 8).1
  have x9 : W0.cell? ⟨w.heap.size, 9, none⟩ = some (.int .i64 x.till) := (cells_at hx0 9).1
  have x10 : W0.cell? ⟨w.heap.size, 10, none⟩ = some (.int .u8 x.ans.kind) := (cells_at hx0 10).1
  have x11 : W0.cell? ⟨w.heap.size, 11, none⟩ = some (.int .u64 x.ans.number) := (cells_at hx0 11).1
  have x12 : W0.cell? ⟨w.heap.size, 12, none⟩ = some (.string x.ans.item.key) := (cells_at hx0 12).1
  have x13 : W0.cell? ⟨w.heap.size, 13, none⟩ = some (.string x.ans.item.value) := (cells_at hx0 13).1
  have x14 : W0.cell? ⟨w.heap.size, 14, none⟩ = some (.int .u32 x.ans.item.flags) := (cells_at hx0 14).1
  have x15 : W0.cell? ⟨w.heap.size, 15, none⟩ = some (.int .u64 x.ans.item.id) := (cells_at hx0 15).1
  have x16 : W0.cell? ⟨w.heap.size, 16, none⟩ = some (.int .i64 x.ans.item.dies) := (cells_at hx0 16).1
  have x17 : W0.cell? ⟨w.heap.size, 17, none⟩ = some (.int .i64 x.ans.item.gen) := (cells_at hx0 17).1
  have x18 : W0.cell? ⟨w.heap.size, 18, none⟩ = some (.int .u64 (x.epoch : Int)) := (cells_at hx0 18).1
  have x19 : W0.cell? ⟨w.heap.size, 19, none⟩ = some (.int .i64 x.point) := (cells_at hx0 19).1
  clear hW0 hb0 hx0 hr0
  go_wp2_with (first | ((with_reducible show wpList _ _ _ (⟨none, Op.store _ _ _, _, _, _, _⟩ :: _) _ _); refine wpList_store_whole (by rfl) 52 (.tmp 2) (.tmp 17) (by rfl) (w.heap.size + 1) (by rfl) #[.int .i64 x.thread, .int .u8 x.call.verb, .string x.call.key, .string x.call.value, .int .u32 x.call.flags, .int .i64 x.call.exp, .int .u64 x.call.id, .int .u64 x.call.by', .int .i64 x.from', .int .i64 x.till, .int .u8 x.ans.kind, .int .u64 x.ans.number, .string x.ans.item.key, .string x.ans.item.value, .int .u32 x.ans.item.flags, .int .u64 x.ans.item.id, .int .i64 x.ans.item.dies, .int .i64 x.ans.item.gen, .int .u64 (x.epoch : Int), .int .i64 x.point] (by rfl) _ 52 HR0.out (by rfl) (by kernel_rfl) (by simp [Value.oneCell']) ?_; intro w3 hr3 hg3 hs3) | ((with_reducible show bodyPost _ _ _ Exit.ret _ _); exact bodyPost_ret (v := .agg #[.int .i64 x.thread, .int .u8 x.call.verb, .string x.call.key, .string x.call.value, .int .u32 x.call.flags, .int .i64 x.call.exp, .int .u64 x.call.id, .int .u64 x.call.by', .int .i64 x.from', .int .i64 x.till, .int .u8 x.ans.kind, .int .u64 x.ans.number, .string x.ans.item.key, .string x.ans.item.value, .int .u32 x.ans.item.flags, .int .u64 x.ans.item.id, .int .i64 x.ans.item.dies, .int .i64 x.ans.item.gen, .int .u64 (x.epoch : Int), .int .i64 x.point]) (results_row_one rfl _ _ (w.heap.size + 1) _ _ _ _ (by rfl) hr3 Tryz.underlying52 rfl (by kernel_rfl)) rfl ⟨rfl, below_grown HB0.out HB0.out.size hg3 (Nat.le_succ _)⟩) | fail)
set_option maxRecDepth 100000 in
set_option maxHeartbeats 8000000 in
theorem mapsSame_any {w : World} {p r : Nat} {v : Value} {m : MapM} (h : MapAt w p m) (hr : RMap w r v m) (_hfew : m.L.length ≤ 1000000) : Calls Tryz.prog 18 #[.pointer (some ⟨p, 0, none⟩), .pointer (some ⟨r, 0, none⟩)] w fun e w' => e = .returned (.bool true) ∧ Below w.heap.size w w' := by
  obtain ⟨va, vc, rfl⟩ := RMap.slice hr
  have H := Lib.hid (And.intro h hr)
  clear h hr
  obtain ⟨n0, hn0⟩ : ∃ k, k = m.L.length := ⟨_, rfl⟩
  have HN := Lib.hid hn0
  rw [← hn0] at H
  obtain ⟨id0, hid0⟩ : ∃ k : Int, k = (m.ids : Int) := ⟨_, rfl⟩
  obtain ⟨ep0, hep0⟩ : ∃ k : Int, k = (m.epoch : Int) := ⟨_, rfl⟩
  have HID := Lib.hid hid0
  have HEP := Lib.hid hep0
  have HCN := Lib.hid (fun W (hm : MapAt W p m) => (show Calls Tryz.prog 19 #[.pointer (some ⟨p, 0, none⟩)] W fun e w' => e = .returned (.int .i64 (n0 : Int)) ∧ W = w' from by rw [hn0]; exact mapsCount_any hm))
  have HCE := Lib.hid (fun W (hm : MapAt W p m) => (show Calls Tryz.prog 20 #[.pointer (some ⟨p, 0, none⟩)] W fun e w' => e = .returned (.int .u64 ep0) ∧ W = w' from by rw [hep0]; exact mapsEpoch_any hm))
  have HCI := Lib.hid (fun W (hm : MapAt W p m) => (show Calls Tryz.prog 21 #[.pointer (some ⟨p, 0, none⟩)] W fun e w' => e = .returned (.int .u64 id0) ∧ W = w' from by rw [hid0]; exact mapsIds_any hm))
  have HRC := Lib.hid (fun W (hm : RMap W r (.slice va n0 vc) m) => (⟨(cells_at hm.box 0).1, by rw [hep0]; exact (cells_at hm.box 1).1, by rw [hid0]; exact (cells_at hm.box 2).1⟩ : W.cell? ⟨r, 0, none⟩ = some (.slice va n0 vc) ∧ W.cell? ⟨r, 1, none⟩ = some (.int .u64 ep0) ∧ W.cell? ⟨r, 2, none⟩ = some (.int .u64 id0)))
  clear hn0 hid0 hep0 HN HID HEP
  go_enter Tryz.func18, Tryz.ntmps18
  go_upto_region 1 with fail
  refine wp_region_held_drew (S := fun W => MapAt W p m ∧ RMap W r (.slice va n0 vc) m) (by kernel_rfl) ⟨H.out.1.drew, H.out.2.below (bdrew (Below.refl _ _))⟩ (fun hHeld => ?_)
  refine wpAnyH_take (i := 0) (v := ?_) rfl (by kernel_rfl) (by kernel_rfl) (by kernel_rfl) (fun _ _ _ h => h) (Or.inl ⟨by rfl, ?_⟩) (by assumption) ?_
  rotate_left 1
  · ((intro w hSw; (try dsimp only at hSw); go_simp) <;> with_reducible rfl)
  try simp only [Act.put, List.setIfInBounds_toArray, List.set_cons_zero, List.set_cons_succ, List.getElem_toArray, List.getElem_cons_zero]
  refine wpAnyH_take (i := 2) (v := ?_) rfl (by kernel_rfl) (by kernel_rfl) (by kernel_rfl) (fun _ _ _ h => h) (Or.inl ⟨by rfl, ?_⟩) (by assumption) ?_
  rotate_left 1
  · ((intro w hSw; (try dsimp only at hSw); go_simp) <;> with_reducible rfl)
  try simp only [Act.put, List.setIfInBounds_toArray, List.set_cons_zero, List.set_cons_succ, List.getElem_toArray, List.getElem_cons_zero, List.getElem_cons_succ]
  refine wpAnyH_take (i := 3) (v := ?_) rfl (by kernel_rfl) (by kernel_rfl) (by kernel_rfl) (fun _ _ _ h => h) (Or.inl ⟨by rfl, ?_⟩) (by assumption) ?_
  rotate_left 1
  · ((intro w hSw; (try dsimp only at hSw); go_simp) <;> with_reducible rfl)
  try simp only [Act.put, List.setIfInBounds_toArray, List.set_cons_zero, List.set_cons_succ, List.getElem_toArray, List.getElem_cons_zero, List.getElem_cons_succ]
  refine wpAnyH_take (i := 4) (v := ?_) rfl (by kernel_rfl) (by kernel_rfl) (by kernel_rfl) (fun _ _ _ h => h) (Or.inl ⟨by rfl, ?_⟩) (by assumption) ?_
  rotate_left 1
  · ((intro w hSw; (try dsimp only at hSw); go_simp) <;> with_reducible rfl)
  try simp only [Act.put, List.setIfInBounds_toArray, List.set_cons_zero, List.set_cons_succ, List.getElem_toArray, List.getElem_cons_zero, List.getElem_cons_succ]
  refine wpAnyH_take (i := 5) (v := ?_) rfl (by kernel_rfl) (by kernel_rfl) (by kernel_rfl) (fun _ _ _ h => h) (Or.inl ⟨by rfl, ?_⟩) (by assumption) ?_
  rotate_left 1
  · ((intro w hSw; (try dsimp only at hSw); obtain ⟨c0, c1, c2⟩ := HRC.out _ hSw.2; go_simp) <;> with_reducible rfl)
  try simp only [Act.put, List.setIfInBounds_toArray, List.set_cons_zero, List.set_cons_succ, List.getElem_toArray, List.getElem_cons_zero, List.getElem_cons_succ]
  refine wpAnyH_take (i := 6) (v := ?_) rfl (by kernel_rfl) (by kernel_rfl) (by kernel_rfl) (fun _ _ _ h => h) (Or.inl ⟨by rfl, ?_⟩) (by assumption) ?_
  rotate_left 1
  · ((intro w hSw; (try dsimp only at hSw); go_simp) <;> with_reducible rfl)
  try simp only [Act.put, List.setIfInBounds_toArray, List.set_cons_zero, List.set_cons_succ, List.getElem_toArray, List.getElem_cons_zero, List.getElem_cons_succ]
  refine wpAnyH_ready (rs := [1]) (by kernel_rfl) (by simp) ?_
  refine (AllReadyH.cons rfl (fun K hK => ?_) AllReadyH.nil)
  go_simp
  go_at_call 19
  refine (HCN.out _ (by exact hHeld.1)).mono ?_
  rintro e _ ⟨rfl, rfl⟩
  refine hK.out _ _ hHeld (fun hHeld2 => ?_)
  clear hK K
  try simp only [Act.put, List.setIfInBounds_toArray, List.set_cons_zero, List.set_cons_succ, List.getElem_toArray, List.getElem_cons_zero, List.getElem_cons_succ]
  refine wpAnyH_take (i := 7) (v := ?_) rfl (by kernel_rfl) (by kernel_rfl) (by kernel_rfl) (fun _ _ _ h => h) (Or.inl ⟨by rfl, ?_⟩) (by assumption) ?_
  rotate_left 1
  · ((intro w hSw; (try dsimp only at hSw); go_simp) <;> with_reducible rfl)
  try simp only [Act.put, List.setIfInBounds_toArray, List.set_cons_zero, List.set_cons_succ, List.getElem_toArray, List.getElem_cons_zero, List.getElem_cons_succ]
  refine wpAnyH_take (i := 8) (v := ?_) rfl (by kernel_rfl) (by kernel_rfl) (by kernel_rfl) (fun _ _ _ h => h) (Or.inl ⟨by rfl, ?_⟩) (by assumption) ?_
  rotate_left 1
  · ((intro w hSw; (try dsimp only at hSw); go_simp) <;> with_reducible rfl)
  try simp only [Act.put, List.setIfInBounds_toArray, List.set_cons_zero, List.set_cons_succ, List.getElem_toArray, List.getElem_cons_zero, List.getElem_cons_succ]
  refine wpAnyH_take (i := 9) (v := ?_) rfl (by kernel_rfl) (by kernel_rfl) (by kernel_rfl) (fun _ _ _ h => h) (Or.inl ⟨by rfl, ?_⟩) (by assumption) ?_
  rotate_left 1
  · ((intro w hSw; (try dsimp only at hSw); go_simp) <;> with_reducible rfl)
  try simp only [Act.put, List.setIfInBounds_toArray, List.set_cons_zero, List.set_cons_succ, List.getElem_toArray, List.getElem_cons_zero, List.getElem_cons_succ]
  refine wpAnyH_take (i := 11) (v := ?_) rfl (by kernel_rfl) (by kernel_rfl) (by kernel_rfl) (fun _ _ _ h => h) (Or.inl ⟨by rfl, ?_⟩) (by assumption) ?_
  rotate_left 1
  · ((intro w hSw; (try dsimp only at hSw); go_simp) <;> with_reducible rfl)
  try simp only [Act.put, List.setIfInBounds_toArray, List.set_cons_zero, List.set_cons_succ, List.getElem_toArray, List.getElem_cons_zero, List.getElem_cons_succ]
  refine wpAnyH_take (i := 12) (v := ?_) rfl (by kernel_rfl) (by kernel_rfl) (by kernel_rfl) (fun _ _ _ h => h) (Or.inl ⟨by rfl, ?_⟩) (by assumption) ?_
  rotate_left 1
  · ((intro w hSw; (try dsimp only at hSw); go_simp) <;> with_reducible rfl)
  try simp only [Act.put, List.setIfInBounds_toArray, List.set_cons_zero, List.set_cons_succ, List.getElem_toArray, List.getElem_cons_zero, List.getElem_cons_succ]
  refine wpAnyH_take (i := 13) (v := ?_) rfl (by kernel_rfl) (by kernel_rfl) (by kernel_rfl) (fun _ _ _ h => h) (Or.inl ⟨by rfl, ?_⟩) (by assumption) ?_
  rotate_left 1
  · ((intro w hSw; (try dsimp only at hSw); go_simp) <;> with_reducible rfl)
  try simp only [Act.put, List.setIfInBounds_toArray, List.set_cons_zero, List.set_cons_succ, List.getElem_toArray, List.getElem_cons_zero, List.getElem_cons_succ]
  refine wpAnyH_take (i := 14) (v := ?_) rfl (by kernel_rfl) (by kernel_rfl) (by kernel_rfl) (fun _ _ _ h => h) (Or.inl ⟨by rfl, ?_⟩) (by assumption) ?_
  rotate_left 1
  · ((intro w hSw; (try dsimp only at hSw); obtain ⟨c0, c1, c2⟩ := HRC.out _ hSw.2; go_simp) <;> with_reducible rfl)
  try simp only [Act.put, List.setIfInBounds_toArray, List.set_cons_zero, List.set_cons_succ, List.getElem_toArray, List.getElem_cons_zero, List.getElem_cons_succ]
  refine wpAnyH_ready (rs := [10]) (by kernel_rfl) (by simp) ?_
  refine (AllReadyH.cons rfl (fun K hK => ?_) AllReadyH.nil)
  go_simp
  go_at_call 20
  refine (HCE.out _ (by exact hHeld.1)).mono ?_
  rintro e _ ⟨rfl, rfl⟩
  refine hK.out _ _ hHeld (fun hHeld2 => ?_)
  clear hK K
  try simp only [Act.put, List.setIfInBounds_toArray, List.set_cons_zero, List.set_cons_succ, List.getElem_toArray, List.getElem_cons_zero, List.getElem_cons_succ]
  refine wpAnyH_take (i := 15) (v := ?_) rfl (by kernel_rfl) (by kernel_rfl) (by kernel_rfl) (fun _ _ _ h => h) (Or.inl ⟨by rfl, ?_⟩) (by assumption) ?_
  rotate_left 1
  · ((intro w hSw; (try dsimp only at hSw); go_simp) <;> with_reducible rfl)
  try simp only [Act.put, List.setIfInBounds_toArray, List.set_cons_zero, List.set_cons_succ, List.getElem_toArray, List.getElem_cons_zero, List.getElem_cons_succ]
  refine wpAnyH_take (i := 16) (v := ?_) rfl (by kernel_rfl) (by kernel_rfl) (by kernel_rfl) (fun _ _ _ h => h) (Or.inl ⟨by rfl, ?_⟩) (by assumption) ?_
  rotate_left 1
  · ((intro w hSw; (try dsimp only at hSw); go_simp) <;> with_reducible rfl)
  try simp only [Act.put, List.setIfInBounds_toArray, List.set_cons_zero, List.set_cons_succ, List.getElem_toArray, List.getElem_cons_zero, List.getElem_cons_succ]
  refine wpAnyH_take (i := 17) (v := ?_) rfl (by kernel_rfl) (by kernel_rfl) (by kernel_rfl) (fun _ _ _ h => h) (Or.inl ⟨by rfl, ?_⟩) (by assumption) ?_
  rotate_left 1
  · ((intro w hSw; (try dsimp only at hSw); go_simp) <;> with_reducible rfl)
  try simp only [Act.put, List.setIfInBounds_toArray, List.set_cons_zero, List.set_cons_succ, List.getElem_toArray, List.getElem_cons_zero, List.getElem_cons_succ]
  refine wpAnyH_take (i := 18) (v := ?_) rfl (by kernel_rfl) (by kernel_rfl) (by kernel_rfl) (fun _ _ _ h => h) (Or.inl ⟨by rfl, ?_⟩) (by assumption) ?_
  rotate_left 1
  · ((intro w hSw; (try dsimp only at hSw); go_simp) <;> with_reducible rfl)
  try simp only [Act.put, List.setIfInBounds_toArray, List.set_cons_zero, List.set_cons_succ, List.getElem_toArray, List.getElem_cons_zero, List.getElem_cons_succ]
  refine wpAnyH_take (i := 20) (v := ?_) rfl (by kernel_rfl) (by kernel_rfl) (by kernel_rfl) (fun _ _ _ h => h) (Or.inl ⟨by rfl, ?_⟩) (by assumption) ?_
  rotate_left 1
  · ((intro w hSw; (try dsimp only at hSw); go_simp) <;> with_reducible rfl)
  try simp only [Act.put, List.setIfInBounds_toArray, List.set_cons_zero, List.set_cons_succ, List.getElem_toArray, List.getElem_cons_zero, List.getElem_cons_succ]
  refine wpAnyH_take (i := 21) (v := ?_) rfl (by kernel_rfl) (by kernel_rfl) (by kernel_rfl) (fun _ _ _ h => h) (Or.inl ⟨by rfl, ?_⟩) (by assumption) ?_
  rotate_left 1
  · ((intro w hSw; (try dsimp only at hSw); go_simp) <;> with_reducible rfl)
  try simp only [Act.put, List.setIfInBounds_toArray, List.set_cons_zero, List.set_cons_succ, List.getElem_toArray, List.getElem_cons_zero, List.getElem_cons_succ]
  refine wpAnyH_take (i := 22) (v := ?_) rfl (by kernel_rfl) (by kernel_rfl) (by kernel_rfl) (fun _ _ _ h => h) (Or.inl ⟨by rfl, ?_⟩) (by assumption) ?_
  rotate_left 1
  · ((intro w hSw; (try dsimp only at hSw); go_simp) <;> with_reducible rfl)
  try simp only [Act.put, List.setIfInBounds_toArray, List.set_cons_zero, List.set_cons_succ, List.getElem_toArray, List.getElem_cons_zero, List.getElem_cons_succ]
  refine wpAnyH_take (i := 23) (v := ?_) rfl (by kernel_rfl) (by kernel_rfl) (by kernel_rfl) (fun _ _ _ h => h) (Or.inl ⟨by rfl, ?_⟩) (by assumption) ?_
  rotate_left 1
  · ((intro w hSw; (try dsimp only at hSw); obtain ⟨c0, c1, c2⟩ := HRC.out _ hSw.2; go_simp) <;> with_reducible rfl)
  try simp only [Act.put, List.setIfInBounds_toArray, List.set_cons_zero, List.set_cons_succ, List.getElem_toArray, List.getElem_cons_zero, List.getElem_cons_succ]
  refine wpAnyH_ready (rs := [19]) (by kernel_rfl) (by simp) ?_
  refine (AllReadyH.cons rfl (fun K hK => ?_) AllReadyH.nil)
  go_simp
  go_at_call 21
  refine (HCI.out _ (by exact hHeld.1)).mono ?_
  rintro e _ ⟨rfl, rfl⟩
  refine hK.out _ _ hHeld (fun hHeld2 => ?_)
  clear hK K
  try simp only [Act.put, List.setIfInBounds_toArray, List.set_cons_zero, List.set_cons_succ, List.getElem_toArray, List.getElem_cons_zero, List.getElem_cons_succ]
  refine wpAnyH_take (i := 24) (v := ?_) rfl (by kernel_rfl) (by kernel_rfl) (by kernel_rfl) (fun _ _ _ h => h) (Or.inl ⟨by rfl, ?_⟩) (by assumption) ?_
  rotate_left 1
  · ((intro w hSw; (try dsimp only at hSw); go_simp) <;> with_reducible rfl)
  try simp only [Act.put, List.setIfInBounds_toArray, List.set_cons_zero, List.set_cons_succ, List.getElem_toArray, List.getElem_cons_zero, List.getElem_cons_succ]
  refine wpAnyH_take (i := 25) (v := ?_) rfl (by kernel_rfl) (by kernel_rfl) (by kernel_rfl) (fun _ _ _ h => h) (Or.inl ⟨by rfl, ?_⟩) (by assumption) ?_
  rotate_left 1
  · ((intro w hSw; (try dsimp only at hSw); go_simp) <;> with_reducible rfl)
  try simp only [Act.put, List.setIfInBounds_toArray, List.set_cons_zero, List.set_cons_succ, List.getElem_toArray, List.getElem_cons_zero, List.getElem_cons_succ]
  refine wpAnyH_take (i := 26) (v := ?_) rfl (by kernel_rfl) (by kernel_rfl) (by kernel_rfl) (fun _ _ _ h => h) (Or.inl ⟨by rfl, ?_⟩) (by assumption) ?_
  rotate_left 1
  · ((intro w hSw; (try dsimp only at hSw); go_simp) <;> with_reducible rfl)
  try simp only [Act.put, List.setIfInBounds_toArray, List.set_cons_zero, List.set_cons_succ, List.getElem_toArray, List.getElem_cons_zero, List.getElem_cons_succ]
  refine wpAnyH_done (by kernel_rfl) ?_ _
  go_wp2_with fail
  go_ret
  exact ⟨rfl, bdrew (Below.refl _ _)⟩
end Go.Proofs.YtaooangnnlopcaaGreatDoor
