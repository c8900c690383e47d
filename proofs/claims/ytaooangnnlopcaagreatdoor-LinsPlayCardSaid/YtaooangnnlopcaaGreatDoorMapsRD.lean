/- The document's Drop; a call as the document has it; have both maps the same? Condition: the maps lie behind their pointers; fewer than 2^20 records. -/
import Derived.Test.YtaooangnnlopcaaGreatDoorMapsRF
import Derived.Test.YtaooangnnlopcaaGreatDoorLowA
namespace Go.Proofs.YtaooangnnlopcaaGreatDoor
open Go.RowKit Go.ChangeMaps Go.MapKept
section
variable {w : World} {r : Nat} {v : Value} {m : MapM} {x : ItemD}
set_option maxRecDepth 100000 in
set_option maxHeartbeats 8000000 in
theorem rDrop_any (h : RMap w r v m) (hfew : m.L.length ≤ 1000000) : Calls Tryz.prog 13 #[.pointer (some ⟨r, 0, none⟩), .agg #[.string x.key, .string x.value, .int .u32 x.flags, .int .u64 x.id, .int .i64 x.dies, .int .i64 x.gen]] w (RFOk w r (dropM m x).1 (dropM m x).2) := by
  have HM := Lib.hid (fun W (hb : Below w.heap.size w W) => h.below hb)
  have HF := Lib.hid hfew
  have HLT := Lib.hid h.lt
  clear h hfew
  go_enter Tryz.func13, Tryz.ntmps13
  go_upto_region 1 with fail
  obtain ⟨W0, hW0⟩ : ∃ Y, Y = w.alloc (.cells #[.string x.key, .string x.value, .int .u32 x.flags, .int .u64 x.id, .int .i64 x.dies, .int .i64 x.gen] 38) := ⟨_, rfl⟩
  have hb0 : Below w.heap.size w W0 := by rw [hW0]; exact (Below.refl _ _).alloc (Nat.le_refl _) _
  have hx0 : W0.heap[w.heap.size]? = some (.cells #[.string x.key, .string x.value, .int .u32 x.flags, .int .u64 x.id, .int .i64 x.dies, .int .i64 x.gen] 38 (0, 0)) := by rw [hW0, heap_at, if_pos rfl]
  rw [← hW0]
  have HB0 := Lib.hid hb0
  have HX0 := Lib.hid hx0
  have k0 : W0.cell? ⟨w.heap.size, 0, none⟩ = some (.string x.key) := (cells_at hx0 0).1
  clear hW0 hb0 hx0
  go_wp2_with fail
  refine (rAtM_any (k := x.key) (HM.out W0 HB0.out)).mono ?_
  rintro e w1 ⟨rfl, hb⟩
  have hdr : dropM m x = if (atL m.L x.key).isSome && decide (wasL m.L x.key = x) then (true, { m with L := withoutL m.L x.key }) else (false, m) := by
    unfold dropM wasL
    cases ha : atL m.L x.key with
    | none => rw [if_neg (by simp)]; rfl
    | some y =>
      by_cases e : y = x
      · rw [e, if_pos rfl]; simp
      · rw [if_neg (fun h => e (Option.some.inj h))]
        show _ = if (true && decide (y = x)) = true then _ else _
        rw [decide_eq_false e]; rfl
  obtain ⟨was, hwas⟩ : ∃ y, y = wasL m.L x.key := ⟨_, rfl⟩
  obtain ⟨has, hhas⟩ : ∃ b, b = (atL m.L x.key).isSome := ⟨_, rfl⟩
  rw [← hwas, ← hhas] at hdr ⊢
  have HDR := Lib.hid hdr
  have HB1 := Lib.hid (HB0.out.trans (hb.mono HB0.out.size))
  have HX1 := Lib.hid ((hb.block w.heap.size (Array.getElem?_eq_some_iff.1 HX0.out).1).trans HX0.out)
  clear hwas hhas hdr hb HB0 HX0 k0
  go_upto_region 2 with (first | ((with_reducible show wpList _ _ _ (⟨none, Op.store _ _ _, _, _, _, _⟩ :: _) _ _); refine wpList_store_whole (by rfl) 38 (.tmp 5) (.tmp 12) (by rfl) w1.heap.size (by rfl) #[.string was.key, .string was.value, .int .u32 was.flags, .int .u64 was.id, .int .i64 was.dies, .int .i64 was.gen] (by rfl) _ 38 (heap_alloc_new _ _) (by rfl) (by kernel_rfl) (by simp [Value.oneCell']) ?_; intro w2 hr2 hg2 hs2; have HRI := Lib.hid hr2; have HGI := Lib.hid hg2; clear hr2 hg2 hs2) | fail)
  have hb2 : Below w1.heap.size w1 w2 := grown_below ((Below.refl _ _).alloc (Nat.le_refl _) _) (by rw [size_at]; omega) HGI.out (fun k hk => by cases hk; exact Nat.le_refl _)
  have HB2 := Lib.hid (HB1.out.trans (hb2.mono HB1.out.size))
  have HX2 := Lib.hid ((hb2.block w.heap.size (Array.getElem?_eq_some_iff.1 HX1.out).1).trans HX1.out)
  obtain ⟨q, hq⟩ : ∃ q, q = w1.heap.size := ⟨_, rfl⟩
  rw [← hq] at HRI ⊢
  clear hb2 hq HGI HB1 HX1
  have HREF := Lib.hid (HM.out w2 HB2.out)
  cases has
  · have hno : dropM m x = (false, m) := HDR.out.trans (by rw [Bool.false_and]; rfl)
    have HNO := Lib.hid hno
    clear hno
    go_wp2_with fail
    go_ret
    exact ⟨by rw [HNO.out]; rfl, by rw [HNO.out]; exact ⟨v, HREF.out⟩, Chg.below' HB2.out⟩
  · have qn := run_item_ne was x
    have x0 : w2.cell? ⟨w.heap.size, 0, none⟩ = some (.string x.key) := (cells_at HX2.out 0).1
    have x1 : w2.cell? ⟨w.heap.size, 1, none⟩ = some (.string x.value) := (cells_at HX2.out 1).1
    have x2 : w2.cell? ⟨w.heap.size, 2, none⟩ = some (.int .u32 x.flags) := (cells_at HX2.out 2).1
    have x3 : w2.cell? ⟨w.heap.size, 3, none⟩ = some (.int .u64 x.id) := (cells_at HX2.out 3).1
    have x4 : w2.cell? ⟨w.heap.size, 4, none⟩ = some (.int .i64 x.dies) := (cells_at HX2.out 4).1
    have x5 : w2.cell? ⟨w.heap.size, 5, none⟩ = some (.int .i64 x.gen) := (cells_at HX2.out 5).1
    have y0 : w2.cell? ⟨q, 0, none⟩ = some (.string was.key) := (cells_at HRI.out 0).1
    have y1 : w2.cell? ⟨q, 1, none⟩ = some (.string was.value) := (cells_at HRI.out 1).1
    have y2 : w2.cell? ⟨q, 2, none⟩ = some (.int .u32 was.flags) := (cells_at HRI.out 2).1
    have y3 : w2.cell? ⟨q, 3, none⟩ = some (.int .u64 was.id) := (cells_at HRI.out 3).1
    have y4 : w2.cell? ⟨q, 4, none⟩ = some (.int .i64 was.dies) := (cells_at HRI.out 4).1
    have y5 : w2.cell? ⟨q, 5, none⟩ = some (.int .i64 was.gen) := (cells_at HRI.out 5).1
    have qi : ∀ W : World, (binOp .neq 38 (.agg #[.string was.key, .string was.value, .int .u32 was.flags, .int .u64 was.id, .int .i64 was.dies, .int .i64 was.gen]) (.agg #[.string x.key, .string x.value, .int .u32 x.flags, .int .u64 x.id, .int .i64 x.dies, .int .i64 x.gen])).run Tryz.prog W = .ok (.bool (!decide (was = x))) W := qn
    clear qn
    by_cases hwx : was = x
    · rw [decide_eq_true hwx] at qi
      have hye : dropM m x = (true, { m with L := withoutL m.L x.key }) := HDR.out.trans (by rw [decide_eq_true hwx]; rfl)
      have HYE := Lib.hid hye
      clear hye hwx
      go_upto_region 4 with fail
      go_wp2_with fail
      clear x0 x1 x2 x3 x4 x5 y0 y1 y2 y3 y4 y5 qi
      refine (rWithout_any (k := x.key) HREF.out (Nat.le_trans HF.out (by omega))).mono ?_
      rintro e w3 ⟨v', rfl, hj⟩
      obtain ⟨a', c', hv'⟩ := Row.len hj.irow
      obtain ⟨n', hn'⟩ : ∃ k, k = (withoutL m.L x.key).length := ⟨_, rfl⟩
      rw [← hn'] at hv'
      subst hv'
      have hr3 := HREF.out.below hj.low
      have HJ := Lib.hid hj
      have HR3 := Lib.hid hr3
      obtain ⟨va, vc, hv0⟩ := RMap.slice hr3
      have b0 : w3.cell? ⟨r, 0, none⟩ = some v := (cells_at hr3.box 0).1
      have f0 : w3.frozen? ⟨r, 0, none⟩ = false := (cells_at hr3.box 0).2
      clear hj hr3 hn'
      subst hv0
      go_wp2_with fail
      go_ret
      have hbx := Go.Joins.block_setCell (i := 0) HR3.out.box (.slice a' n' c')
      refine ⟨by rw [HYE.out]; rfl, ?_, ?_⟩
      · rw [HYE.out]
        refine ⟨.slice a' n' c', hbx, Row.kept (M := fun k => k = r) HJ.out.irow (Chg.set (M := fun k => k = r) (Chg.refl _ _) (fun _ => rfl) _) (fun g hgo e => by
          subst e
          exact absurd ((Row.tag HJ.out.irow hgo).one (Tag.of HR3.out.box)) (by decide))⟩
      · exact ((Chg.below' (M := fun k => k = r) HB2.out).then (M' := fun _ => False) (Chg.of_below HJ.out.low) (fun _ _ e => e.elim)).then (M' := fun k => k = r) (Chg.set (M := fun k => k = r) (Chg.refl _ _) (fun _ => rfl) _) (fun i _ e => e)
    · rw [decide_eq_false hwx] at qi
      have hno : dropM m x = (false, m) := HDR.out.trans (by rw [decide_eq_false hwx]; rfl)
      have HNO := Lib.hid hno
      clear hno hwx
      go_wp2_with fail
      go_ret
      exact ⟨by rw [HNO.out]; rfl, by rw [HNO.out]; exact ⟨v, HREF.out⟩, Chg.below' HB2.out⟩
end
end Go.Proofs.YtaooangnnlopcaaGreatDoor
