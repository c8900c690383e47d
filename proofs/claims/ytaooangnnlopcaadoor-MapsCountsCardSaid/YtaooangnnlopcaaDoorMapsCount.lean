/- The law MapsCounts, walked. Condition: the library's tables lie as they are laid. -/
import Derived.Test.YtaooangnnlopcaaDoorMapsCount1
namespace Go.Proofs.YtaooangnnlopcaaDoor
open Go.RowKit Go.ChangeMaps Go.MapKept
theorem wrap_less {a b v : Nat} (h : v = a - b) (hb : b < a) (ha : a < 18446744073709551616) : IntKind.u64.wrap ((a : Int) - (b : Int)) = (v : Int) := by
  have e : (v : Int) = (a : Int) - (b : Int) := by omega
  rw [← e, IntKind.wrap_u64]
  omega
set_option maxRecDepth 100000 in
set_option maxHeartbeats 8000000 in
theorem mapsCounts_walk {w : World} {n b0 b1 : Nat} {f : Int} {t : ByteArray} (hn : n < 18446744073709551616) (hb0 : b0 < 18446744073709551616) (hb1 : b1 < 18446744073709551616) (ht : t.size ≤ maxLen) (hE : HasErr w) (hP : HasPow w) : Calls Tryd.prog 4 #[.int .u64 (n : Int), .agg #[.int .u64 (b0 : Int), .int .u64 (b1 : Int)], .agg #[.int .u32 f, .string t]] w fun e w' => e = .returned (.bool true) ∧ Below w.heap.size w w' := by
  unfold maxLen at ht
  have HE := Lib.hid hE
  have HP := Lib.hid hP
  clear hE hP
  go_enter Tryd.func4, Tryd.ntmps4
  go_upto_region 1 with fail
  obtain ⟨W0, hW0⟩ : ∃ X, X = (w.alloc (.cells #[.int .u64 (b0 : Int), .int .u64 (b1 : Int)] 49)).alloc (.cells #[.int .u32 f, .string t] 51) := ⟨_, rfl⟩
  have hbw : Below w.heap.size w W0 := by rw [hW0]; exact below_two w _ _
  have hx0 : W0.heap[w.heap.size]? = some (.cells #[.int .u64 (b0 : Int), .int .u64 (b1 : Int)] 49 (0, 0)) := by rw [hW0]; exact (heap_two w _ _).1
  have hr0 : W0.heap[w.heap.size + 1]? = some (.cells #[.int .u32 f, .string t] 51 (0, 0)) := by rw [hW0]; exact (heap_two w _ _).2
  rw [← hW0]
  obtain ⟨n0, hn0⟩ : ∃ k, k = w.heap.size := ⟨_, rfl⟩
  rw [← hn0] at hx0 hr0 ⊢
  have HBW := Lib.hid hbw
  have HE0 := Lib.hid (HE.out.below hbw)
  have HP0 := Lib.hid (HP.out.below hbw)
  have HX := Lib.hid (fun W (hW : Below W0.heap.size W0 W) => (hW.block n0 (Array.getElem?_eq_some_iff.1 hx0).1).trans hx0)
  have t0 : W0.cell? ⟨n0 + 1, 0, none⟩ = some (.int .u32 f) := (cells_at hr0 0).1
  have t1 : W0.cell? ⟨n0 + 1, 1, none⟩ = some (.string t) := (cells_at hr0 1).1
  clear hW0 hbw hx0 hr0 hn0 HE HP
  go_upto_region 3 with fail
  clear t0 t1
  by_cases h1 : 1000 < t.size
  · have d1 : decide ((1000 : Int) < (t.size : Int)) = true := by rw [decide_eq_true_eq]; omega
    go_wp2_with fail
    refine (lives36 _ HE0.out HP0.out).mono ?_
    rintro e W1 ⟨rfl, hb⟩
    have HB := Lib.hid (HBW.out.trans (hb.mono HBW.out.size))
    clear hb
    go_wp2_with fail
    go_ret
    exact ⟨rfl, HB.out⟩
  · have d1 : decide ((1000 : Int) < (t.size : Int)) = false := by rw [decide_eq_false_iff_not]; omega
    go_upto_region 5 with fail
    go_wp2_with fail
    refine (mapsNew_own _).mono ?_
    rintro e W2 ⟨rfl, hl⟩
    obtain ⟨p, hp⟩ : ∃ p, p = W0.heap.size := ⟨_, rfl⟩
    rw [← hp] at hl ⊢
    have HK := Lib.hid (show KpAt W0 W2 p newM [] from ⟨hl, fun x hx => (nomatch hx)⟩)
    clear hl hp d1
    go_upto_region 6 with fail
    go_wp2_with fail
    have htx := text_at hn W2 (HP0.out.below HK.out.lv.bel)
    refine htx.mono ?_
    rintro e W3 ⟨rfl, hb⟩
    have hk := HK.out.below hb
    clear hb htx
    have HK2 := Lib.hid hk
    clear hk HK
    have HK := HK2
    clear HK2
    go_wp2_with fail
    refine (kp_does (c := ⟨3, kK, ⟨(Lib.decDigits n).toArray⟩, f, 9, 0, 0⟩) HK.out (does_first _ f 9) rfl (show kK.size ≤ maxLen by decide) (show (0 : Int) ≤ 3 ∧ (3 : Int) ≤ 255 by decide) (by show -9223372036854775808 ≤ (9 : Int) ∧ (9 : Int) ≤ 9223372036854775807; omega) (by show (0 : Int) ≤ 0 ∧ (0 : Int) ≤ 18446744073709551615; omega) (by decide) HE0.out HP0.out).mono ?_
    rintro e W4 ⟨rfl, hk⟩
    rw [show diesE 0 9 = 9 from rfl] at hk
    have HK2 := Lib.hid hk
    clear hk HK
    have HK := HK2
    clear HK2
    have hx := HX.out W4 HK.out.lv.bel
    have x0 : W4.cell? ⟨n0, 0, none⟩ = some (.int .u64 (b0 : Int)) := (cells_at hx 0).1
    clear hx
    go_upto_region 7 with fail
    go_wp2_with fail
    obtain ⟨v1, hv1⟩ : ∃ v, v = countN true n b0 := ⟨_, rfl⟩
    have hd1 := does_count (f := f) (i := 1) (d := 9) true b0 (.inl rfl) hn
    rw [← hv1] at hd1
    refine (kp_does (c := ⟨9, kK, ⟨#[]⟩, 0, 0, 0, (b0 : Int)⟩) HK.out hd1 rfl (show kK.size ≤ maxLen by decide) (show (0 : Int) ≤ 9 ∧ (9 : Int) ≤ 255 by decide) (by show -9223372036854775808 ≤ (0 : Int) ∧ (0 : Int) ≤ 9223372036854775807; omega) (by show (0 : Int) ≤ (b0 : Int) ∧ (b0 : Int) ≤ 18446744073709551615; omega) (show 1 < 18446744073709551615 by decide) HE0.out HP0.out).mono ?_
    rintro e W5 ⟨rfl, hk⟩
    have HV1 := Lib.hid hv1
    clear hv1 hd1 x0
    have HK2 := Lib.hid hk
    clear hk HK
    have HK := HK2
    clear HK2
    go_upto_region 8 with (first | ((with_reducible show wpList _ _ _ (⟨none, Op.store 39 _ _, _, _, _, _⟩ :: _) _ _); refine wpList_store_whole (by rfl) 39 (.tmp 10) (.tmp 41) (by rfl) W5.heap.size (by rfl) #[.int .u8 8, .int .u64 (v1 : Int), .string ⟨#[]⟩, .string ⟨#[]⟩, .int .u32 0, .int .u64 0, .int .i64 0, .int .i64 0] (by rfl) _ 39 (heap_alloc_new _ _) (by rfl) (by kernel_rfl) (by simp [Value.oneCell']) ?_; intro w2 hr2 hg2 hs2; have HG2 := Lib.hid hg2; have HR2 := Lib.hid hr2; clear hg2 hr2 hs2) | fail)
    have hk := HK.out.put HR2.out HG2.out
    obtain ⟨q1, hq⟩ : ∃ q, q = W5.heap.size := ⟨_, rfl⟩
    rw [← hq] at hk ⊢
    clear hq HG2 HR2
    obtain ⟨W6, rfl⟩ : ∃ X, X = w2 := ⟨_, rfl⟩
    have HK2 := Lib.hid hk
    clear hk HK
    have HK := HK2
    clear HK2
    go_wp2_with fail
    refine (kp_at HK.out).mono ?_
    rintro e W7 ⟨rfl, hk⟩
    have HK2 := Lib.hid hk
    clear hk HK
    have HK := HK2
    clear HK2
    go_upto_region 9 with (first | ((with_reducible show wpList _ _ _ (⟨none, Op.store 37 _ _, _, _, _, _⟩ :: _) _ _); refine wpList_store_whole (by rfl) 37 (.tmp 11) (.tmp 45) (by rfl) W7.heap.size (by rfl) #[.string ⟨#[107]⟩, .string ⟨(Lib.decDigits v1).toArray⟩, .int .u32 f, .int .u64 2, .int .i64 9, .int .i64 0] (by rfl) _ 37 (heap_alloc_new _ _) (by rfl) (by kernel_rfl) (by simp [Value.oneCell']) ?_; intro w2 hr2 hg2 hs2; have HG2 := Lib.hid hg2; have HR2 := Lib.hid hr2; clear hg2 hr2 hs2) | fail)
    have hk := HK.out.put HR2.out HG2.out
    obtain ⟨q2, hq⟩ : ∃ q, q = W7.heap.size := ⟨_, rfl⟩
    rw [← hq] at hk ⊢
    clear hq HG2 HR2
    obtain ⟨W8, rfl⟩ : ∃ X, X = w2 := ⟨_, rfl⟩
    have HK2 := Lib.hid hk
    clear hk HK
    have HK := HK2
    clear HK2
    have hx := HX.out W8 HK.out.lv.bel
    have x1 : W8.cell? ⟨n0, 1, none⟩ = some (.int .u64 (b1 : Int)) := (cells_at hx 1).1
    clear hx
    go_wp2_with fail
    have hv1l : v1 < 18446744073709551616 := by rw [HV1.out]; unfold countN; rw [if_pos rfl]; exact Nat.mod_lt _ (by omega)
    obtain ⟨v2, hv2⟩ : ∃ v, v = countN false v1 b1 := ⟨_, rfl⟩
    have hd1 := does_count (f := f) (i := 2) (d := 9) false b1 (.inl rfl) hv1l
    rw [← hv2] at hd1
    refine (kp_does (c := ⟨10, kK, ⟨#[]⟩, 0, 0, 0, (b1 : Int)⟩) HK.out hd1 rfl (show kK.size ≤ maxLen by decide) (show (0 : Int) ≤ 10 ∧ (10 : Int) ≤ 255 by decide) (by show -9223372036854775808 ≤ (0 : Int) ∧ (0 : Int) ≤ 9223372036854775807; omega) (by show (0 : Int) ≤ (b1 : Int) ∧ (b1 : Int) ≤ 18446744073709551615; omega) (show 2 < 18446744073709551615 by decide) HE0.out HP0.out).mono ?_
    rintro e W9 ⟨rfl, hk⟩
    have HV2 := Lib.hid hv2
    have HV1L := Lib.hid hv1l
    clear hv2 hd1 x1 hv1l
    have HK2 := Lib.hid hk
    clear hk HK
    have HK := HK2
    clear HK2
    go_upto_region 10 with (first | ((with_reducible show wpList _ _ _ (⟨none, Op.store 39 _ _, _, _, _, _⟩ :: _) _ _); refine wpList_store_whole (by rfl) 39 (.tmp 13) (.tmp 51) (by rfl) W9.heap.size (by rfl) #[.int .u8 8, .int .u64 (v2 : Int), .string ⟨#[]⟩, .string ⟨#[]⟩, .int .u32 0, .int .u64 0, .int .i64 0, .int .i64 0] (by rfl) _ 39 (heap_alloc_new _ _) (by rfl) (by kernel_rfl) (by simp [Value.oneCell']) ?_; intro w2 hr2 hg2 hs2; have HG2 := Lib.hid hg2; have HR2 := Lib.hid hr2; clear hg2 hr2 hs2) | fail)
    have hk := HK.out.put HR2.out HG2.out
    obtain ⟨q3, hq⟩ : ∃ q, q = W9.heap.size := ⟨_, rfl⟩
    rw [← hq] at hk ⊢
    clear hq HG2 HR2
    obtain ⟨W10, rfl⟩ : ∃ X, X = w2 := ⟨_, rfl⟩
    have HK2 := Lib.hid hk
    clear hk HK
    have HK := HK2
    clear HK2
    go_wp2_with fail
    refine (kp_at HK.out).mono ?_
    rintro e W11 ⟨rfl, hk⟩
    have HK2 := Lib.hid hk
    clear hk HK
    have HK := HK2
    clear HK2
    go_upto_region 11 with (first | ((with_reducible show wpList _ _ _ (⟨none, Op.store 37 _ _, _, _, _, _⟩ :: _) _ _); refine wpList_store_whole (by rfl) 37 (.tmp 14) (.tmp 55) (by rfl) W11.heap.size (by rfl) #[.string ⟨#[107]⟩, .string ⟨(Lib.decDigits v2).toArray⟩, .int .u32 f, .int .u64 3, .int .i64 9, .int .i64 0] (by rfl) _ 37 (heap_alloc_new _ _) (by rfl) (by kernel_rfl) (by simp [Value.oneCell']) ?_; intro w2 hr2 hg2 hs2; have HG2 := Lib.hid hg2; have HR2 := Lib.hid hr2; clear hg2 hr2 hs2) | fail)
    have hk := HK.out.put HR2.out HG2.out
    obtain ⟨q4, hq⟩ : ∃ q, q = W11.heap.size := ⟨_, rfl⟩
    rw [← hq] at hk ⊢
    clear hq HG2 HR2
    obtain ⟨W12, rfl⟩ : ∃ X, X = w2 := ⟨_, rfl⟩
    have HK2 := Lib.hid hk
    clear hk HK
    have HK := HK2
    clear HK2
    obtain ⟨D1, hD1⟩ : ∃ d, d = (⟨(Lib.decDigits v1).toArray⟩ : ByteArray) := ⟨_, rfl⟩
    have hkk := HK.out.kept
    rw [← hD1] at hkk
    have g1 := (hkk _ (.tail _ (.tail _ (.tail _ (.head _))))).2
    have g2 := (hkk _ (.tail _ (.tail _ (.head _)))).2
    have y0 : W12.cell? ⟨q1, 0, none⟩ = some (.int .u8 8) := (cells_at g1 0).1
    have y1 : W12.cell? ⟨q1, 1, none⟩ = some (.int .u64 (v1 : Int)) := (cells_at g1 1).1
    have y2 : W12.cell? ⟨q1, 2, none⟩ = some (.string ⟨#[]⟩) := (cells_at g1 2).1
    have y3 : W12.cell? ⟨q1, 3, none⟩ = some (.string ⟨#[]⟩) := (cells_at g1 3).1
    have y4 : W12.cell? ⟨q1, 4, none⟩ = some (.int .u32 0) := (cells_at g1 4).1
    have y5 : W12.cell? ⟨q1, 5, none⟩ = some (.int .u64 0) := (cells_at g1 5).1
    have y6 : W12.cell? ⟨q1, 6, none⟩ = some (.int .i64 0) := (cells_at g1 6).1
    have y7 : W12.cell? ⟨q1, 7, none⟩ = some (.int .i64 0) := (cells_at g1 7).1
    have z0 : W12.cell? ⟨q2, 0, none⟩ = some (.string ⟨#[107]⟩) := (cells_at g2 0).1
    have z1 : W12.cell? ⟨q2, 1, none⟩ = some (.string D1) := (cells_at g2 1).1
    have z2 : W12.cell? ⟨q2, 2, none⟩ = some (.int .u32 f) := (cells_at g2 2).1
    have z3 : W12.cell? ⟨q2, 3, none⟩ = some (.int .u64 2) := (cells_at g2 3).1
    have z4 : W12.cell? ⟨q2, 4, none⟩ = some (.int .i64 9) := (cells_at g2 4).1
    have z5 : W12.cell? ⟨q2, 5, none⟩ = some (.int .i64 0) := (cells_at g2 5).1
    have x0 : W12.cell? ⟨n0, 0, none⟩ = some (.int .u64 (b0 : Int)) := (cells_at (HX.out W12 HK.out.lv.bel) 0).1
    have hw1 : IntKind.u64.wrap ((n : Int) + (b0 : Int)) = (v1 : Int) := by rw [HV1.out]; unfold countN; rw [if_pos rfl, IntKind.wrap_u64]; omega
    have HTX := Lib.hid (fun W (hW : Below W12.heap.size W12 W) => (show Calls Tryd.prog 18 #[.int .u64 (v1 : Int)] W fun e w' => e = .returned (.string D1) ∧ Below W.heap.size W w' from by rw [hD1]; exact text_at HV1L.out W (HP0.out.below (HK.out.lv.bel.trans (hW.mono HK.out.lv.bel.size)))))
    have qa : ∀ W : World, (binOp .neq 39 (.agg #[.int .u8 8, .int .u64 (v1 : Int), .string ⟨#[]⟩, .string ⟨#[]⟩, .int .u32 0, .int .u64 0, .int .i64 0, .int .i64 0]) (.agg #[.int .u8 8, .int .u64 (v1 : Int), .string ⟨#[]⟩, .string ⟨#[]⟩, .int .u32 0, .int .u64 0, .int .i64 0, .int .i64 0])).run Tryd.prog W = .ok (.bool false) W := fun W => by have h := run_ans_ne ⟨8, v1, noItem⟩ ⟨8, v1, noItem⟩ W; rw [decide_eq_true rfl] at h; exact h
    have qi : ∀ W : World, (binOp .neq 37 (.agg #[.string ⟨#[107]⟩, .string D1, .int .u32 f, .int .u64 2, .int .i64 9, .int .i64 0]) (.agg #[.string ⟨#[107]⟩, .string D1, .int .u32 f, .int .u64 2, .int .i64 9, .int .i64 0])).run Tryd.prog W = .ok (.bool false) W := fun W => by have h := run_item_ne ⟨⟨#[107]⟩, D1, f, 2, 9, 0⟩ ⟨⟨#[107]⟩, D1, f, 2, 9, 0⟩ W; rw [decide_eq_true rfl] at h; exact h
    clear hkk g1 g2 hD1
    have qb1 : ∀ W : World, (Instr.build 39 #[(0, .int .u8 8), (1, .int .u64 (v1 : Int))]).run Tryd.prog W = .ok (.agg #[.int .u8 8, .int .u64 (v1 : Int), .string ⟨#[]⟩, .string ⟨#[]⟩, .int .u32 0, .int .u64 0, .int .i64 0, .int .i64 0]) W := fun W => by kernel_rfl
    have qb2 : ∀ W : World, (Instr.build 37 #[(0, .string ⟨#[107]⟩), (1, .string D1), (2, .int .u32 f), (3, .int .u64 2), (4, .int .i64 9)]).run Tryd.prog W = .ok (.agg #[.string ⟨#[107]⟩, .string D1, .int .u32 f, .int .u64 2, .int .i64 9, .int .i64 0]) W := fun W => by kernel_rfl
    have HCY := Lib.hid (fun (W : World) (hW : Below W12.heap.size W12 W) => (⟨(hW.cell (cell_lt y0)).trans y0, (hW.cell (cell_lt y1)).trans y1, (hW.cell (cell_lt y2)).trans y2, (hW.cell (cell_lt y3)).trans y3, (hW.cell (cell_lt y4)).trans y4, (hW.cell (cell_lt y5)).trans y5, (hW.cell (cell_lt y6)).trans y6, (hW.cell (cell_lt y7)).trans y7⟩ : W.cell? ⟨q1, 0, none⟩ = some (.int .u8 8) ∧ W.cell? ⟨q1, 1, none⟩ = some (.int .u64 (v1 : Int)) ∧ W.cell? ⟨q1, 2, none⟩ = some (.string ⟨#[]⟩) ∧ W.cell? ⟨q1, 3, none⟩ = some (.string ⟨#[]⟩) ∧ W.cell? ⟨q1, 4, none⟩ = some (.int .u32 0) ∧ W.cell? ⟨q1, 5, none⟩ = some (.int .u64 0) ∧ W.cell? ⟨q1, 6, none⟩ = some (.int .i64 0) ∧ W.cell? ⟨q1, 7, none⟩ = some (.int .i64 0)))
    have HCZ := Lib.hid (fun (W : World) (hW : Below W12.heap.size W12 W) => (⟨(hW.cell (cell_lt z0)).trans z0, (hW.cell (cell_lt z1)).trans z1, (hW.cell (cell_lt z2)).trans z2, (hW.cell (cell_lt z3)).trans z3, (hW.cell (cell_lt z4)).trans z4, (hW.cell (cell_lt z5)).trans z5⟩ : W.cell? ⟨q2, 0, none⟩ = some (.string ⟨#[107]⟩) ∧ W.cell? ⟨q2, 1, none⟩ = some (.string D1) ∧ W.cell? ⟨q2, 2, none⟩ = some (.int .u32 f) ∧ W.cell? ⟨q2, 3, none⟩ = some (.int .u64 2) ∧ W.cell? ⟨q2, 4, none⟩ = some (.int .i64 9) ∧ W.cell? ⟨q2, 5, none⟩ = some (.int .i64 0)))
    have HCX := Lib.hid (fun (W : World) (hW : Below W12.heap.size W12 W) => (hW.cell (cell_lt x0)).trans x0)
    clear y0 y1 y2 y3 y4 y5 y6 y7 z0 z1 z2 z3 z4 z5 x0
    go_cut [74] (fun s74 wx => s74 = .bool false ∧ Below W12.heap.size W12 wx)
    case first =>
      refine wp_region_held_drew (S := fun W => Below W12.heap.size W12 W) (by kernel_rfl) (bdrew (Below.refl _ _)) (fun hHeld => ?_)
      refine wpAnyH_take (i := 0) (v := ?_) rfl (by kernel_rfl) (by kernel_rfl) (by kernel_rfl) (fun _ _ _ h => h) (Or.inl ⟨by rfl, ?_⟩) (by assumption) ?_
      rotate_left 1
      · ((intro w hSw; (try dsimp only at hSw); obtain ⟨y0, y1, y2, y3, y4, y5, y6, y7⟩ := HCY.out _ hSw; go_simp) <;> with_reducible rfl)
      try simp only [Act.put, List.setIfInBounds_toArray, List.set_cons_zero, List.set_cons_succ, List.getElem_toArray, List.getElem_cons_zero]
      refine wpAnyH_take (i := 1) (v := ?_) rfl (by kernel_rfl) (by kernel_rfl) (by kernel_rfl) (fun _ _ _ h => h) (Or.inl ⟨by rfl, ?_⟩) (by assumption) ?_
      rotate_left 1
      · ((intro w hSw; (try dsimp only at hSw); go_simp) <;> with_reducible rfl)
      try simp only [Act.put, List.setIfInBounds_toArray, List.set_cons_zero, List.set_cons_succ, List.getElem_toArray, List.getElem_cons_zero, List.getElem_cons_succ]
      refine wpAnyH_take (i := 2) (v := ?_) rfl (by kernel_rfl) (by kernel_rfl) (by kernel_rfl) (fun _ _ _ h => h) (Or.inl ⟨by rfl, ?_⟩) (by assumption) ?_
      rotate_left 1
      · ((intro w hSw; (try dsimp only at hSw); go_simp) <;> with_reducible rfl)
      try simp only [Act.put, List.setIfInBounds_toArray, List.set_cons_zero, List.set_cons_succ, List.getElem_toArray, List.getElem_cons_zero, List.getElem_cons_succ]
      refine wpAnyH_take (i := 3) (v := ?_) rfl (by kernel_rfl) (by kernel_rfl) (by kernel_rfl) (fun _ _ _ h => h) (Or.inl ⟨by rfl, ?_⟩) (by assumption) ?_
      rotate_left 1
      · ((intro w hSw; (try dsimp only at hSw); have x0 := HCX.out _ hSw; go_simp) <;> with_reducible rfl)
      try simp only [Act.put, List.setIfInBounds_toArray, List.set_cons_zero, List.set_cons_succ, List.getElem_toArray, List.getElem_cons_zero, List.getElem_cons_succ]
      refine wpAnyH_take (i := 4) (v := ?_) rfl (by kernel_rfl) (by kernel_rfl) (by kernel_rfl) (fun _ _ _ h => h) (Or.inl ⟨by rfl, ?_⟩) (by assumption) ?_
      rotate_left 1
      · ((intro w hSw; (try dsimp only at hSw); go_simp) <;> with_reducible rfl)
      try simp only [Act.put, List.setIfInBounds_toArray, List.set_cons_zero, List.set_cons_succ, List.getElem_toArray, List.getElem_cons_zero, List.getElem_cons_succ]
      refine wpAnyH_take (i := 5) (v := ?_) rfl (by kernel_rfl) (by kernel_rfl) (by kernel_rfl) (fun _ _ _ h => h) (Or.inl ⟨by rfl, ?_⟩) (by assumption) ?_
      rotate_left 1
      · ((intro w hSw; (try dsimp only at hSw); go_simp) <;> with_reducible rfl)
      try simp only [Act.put, List.setIfInBounds_toArray, List.set_cons_zero, List.set_cons_succ, List.getElem_toArray, List.getElem_cons_zero, List.getElem_cons_succ]
      refine wpAnyH_take (i := 6) (v := ?_) rfl (by kernel_rfl) (by kernel_rfl) (by kernel_rfl) (fun _ _ _ h => h) (Or.inl ⟨by rfl, ?_⟩) (by assumption) ?_
      rotate_left 1
      · ((intro w hSw; (try dsimp only at hSw); go_simp) <;> with_reducible rfl)
      try simp only [Act.put, List.setIfInBounds_toArray, List.set_cons_zero, List.set_cons_succ, List.getElem_toArray, List.getElem_cons_zero, List.getElem_cons_succ]
      refine wpAnyH_take (i := 7) (v := ?_) rfl (by kernel_rfl) (by kernel_rfl) (by kernel_rfl) (fun _ _ _ h => h) (Or.inl ⟨by rfl, ?_⟩) (by assumption) ?_
      rotate_left 1
      · ((intro w hSw; (try dsimp only at hSw); go_simp) <;> with_reducible rfl)
      try simp only [Act.put, List.setIfInBounds_toArray, List.set_cons_zero, List.set_cons_succ, List.getElem_toArray, List.getElem_cons_zero, List.getElem_cons_succ]
      refine wpAnyH_take (i := 8) (v := ?_) rfl (by kernel_rfl) (by kernel_rfl) (by kernel_rfl) (fun _ _ _ h => h) (Or.inl ⟨by rfl, ?_⟩) (by assumption) ?_
      rotate_left 1
      · ((intro w hSw; (try dsimp only at hSw); obtain ⟨z0, z1, z2, z3, z4, z5⟩ := HCZ.out _ hSw; go_simp) <;> with_reducible rfl)
      try simp only [Act.put, List.setIfInBounds_toArray, List.set_cons_zero, List.set_cons_succ, List.getElem_toArray, List.getElem_cons_zero, List.getElem_cons_succ]
      refine wpAnyH_take (i := 9) (v := ?_) rfl (by kernel_rfl) (by kernel_rfl) (by kernel_rfl) (fun _ _ _ h => h) (Or.inl ⟨by rfl, ?_⟩) (by assumption) ?_
      rotate_left 1
      · ((intro w hSw; (try dsimp only at hSw); go_simp) <;> with_reducible rfl)
      try simp only [Act.put, List.setIfInBounds_toArray, List.set_cons_zero, List.set_cons_succ, List.getElem_toArray, List.getElem_cons_zero, List.getElem_cons_succ]
      refine wpAnyH_take (i := 10) (v := ?_) rfl (by kernel_rfl) (by kernel_rfl) (by kernel_rfl) (fun _ _ _ h => h) (Or.inl ⟨by rfl, ?_⟩) (by assumption) ?_
      rotate_left 1
      · ((intro w hSw; (try dsimp only at hSw); go_simp) <;> with_reducible rfl)
      try simp only [Act.put, List.setIfInBounds_toArray, List.set_cons_zero, List.set_cons_succ, List.getElem_toArray, List.getElem_cons_zero, List.getElem_cons_succ]
      refine wpAnyH_take (i := 11) (v := ?_) rfl (by kernel_rfl) (by kernel_rfl) (by kernel_rfl) (fun _ _ _ h => h) (Or.inl ⟨by rfl, ?_⟩) (by assumption) ?_
      rotate_left 1
      · ((intro w hSw; (try dsimp only at hSw); have x0 := HCX.out _ hSw; go_simp) <;> with_reducible rfl)
      try simp only [Act.put, List.setIfInBounds_toArray, List.set_cons_zero, List.set_cons_succ, List.getElem_toArray, List.getElem_cons_zero, List.getElem_cons_succ]
      refine wpAnyH_take (i := 12) (v := ?_) rfl (by kernel_rfl) (by kernel_rfl) (by kernel_rfl) (fun _ _ _ h => h) (Or.inl ⟨by rfl, ?_⟩) (by assumption) ?_
      rotate_left 1
      · ((intro w hSw; (try dsimp only at hSw); go_simp) <;> with_reducible rfl)
      try simp only [Act.put, List.setIfInBounds_toArray, List.set_cons_zero, List.set_cons_succ, List.getElem_toArray, List.getElem_cons_zero, List.getElem_cons_succ]
      refine wpAnyH_take (i := 14) (v := ?_) rfl (by kernel_rfl) (by kernel_rfl) (by kernel_rfl) (fun _ _ _ h => h) (Or.inl ⟨by rfl, ?_⟩) (by assumption) ?_
      rotate_left 1
      · ((intro w hSw; (try dsimp only at hSw); go_simp) <;> with_reducible rfl)
      try simp only [Act.put, List.setIfInBounds_toArray, List.set_cons_zero, List.set_cons_succ, List.getElem_toArray, List.getElem_cons_zero, List.getElem_cons_succ]
      refine wpAnyH_ready (rs := [13]) (by kernel_rfl) (by simp) ?_
      refine AllReadyH.cons rfl (fun K hK => ?_) AllReadyH.nil
      go_simp
      go_at_call 18
      refine (HTX.out _ (bdrew (Below.refl _ _))).mono ?_
      rintro e V1 ⟨rfl, hb1⟩
      refine hK.out _ _ ((bdrew (Below.refl W12.heap.size W12)).trans hb1) (fun hHeld2 => ?_)
      have HB1 := Lib.hid (show Below W12.heap.size W12 V1 from (bdrew (Below.refl W12.heap.size W12)).trans hb1)
      clear hK K hb1
      try simp only [Act.put, List.setIfInBounds_toArray, List.set_cons_zero, List.set_cons_succ, List.getElem_toArray, List.getElem_cons_zero, List.getElem_cons_succ]
      refine wpAnyH_take (i := 15) (v := ?_) rfl (by kernel_rfl) (by kernel_rfl) (by kernel_rfl) (fun _ _ _ h => h) (Or.inl ⟨by rfl, ?_⟩) (by assumption) ?_
      rotate_left 1
      · ((intro w hSw; (try dsimp only at hSw); go_simp) <;> with_reducible rfl)
      try simp only [Act.put, List.setIfInBounds_toArray, List.set_cons_zero, List.set_cons_succ, List.getElem_toArray, List.getElem_cons_zero, List.getElem_cons_succ]
      refine wpAnyH_take (i := 16) (v := ?_) rfl (by kernel_rfl) (by kernel_rfl) (by kernel_rfl) (fun _ _ _ h => h) (Or.inl ⟨by rfl, ?_⟩) (by assumption) ?_
      rotate_left 1
      · ((intro w hSw; (try dsimp only at hSw); go_simp) <;> with_reducible rfl)
      try simp only [Act.put, List.setIfInBounds_toArray, List.set_cons_zero, List.set_cons_succ, List.getElem_toArray, List.getElem_cons_zero, List.getElem_cons_succ]
      refine wpAnyH_take (i := 17) (v := ?_) rfl (by kernel_rfl) (by kernel_rfl) (by kernel_rfl) (fun _ _ _ h => h) (Or.inl ⟨by rfl, ?_⟩) (by assumption) ?_
      rotate_left 1
      · ((intro w hSw; (try dsimp only at hSw); go_simp) <;> with_reducible rfl)
      try simp only [Act.put, List.setIfInBounds_toArray, List.set_cons_zero, List.set_cons_succ, List.getElem_toArray, List.getElem_cons_zero, List.getElem_cons_succ]
      refine wpAnyH_done (by kernel_rfl) ?_ _
      clear hHeld2
      go_wp2_with fail
      go_meet
      case rel => exact ⟨rfl, HB1.out⟩
    case rest =>
      obtain ⟨rfl, hb⟩ := hcut
      have hk := HK.out.below hb
      have HK2 := Lib.hid hk
      clear hk HK hb HCY HCZ HCX HTX qa qi qb1 qb2
      have HK := HK2
      clear HK2
      obtain ⟨W13, rfl⟩ : ∃ X, X = wc := ⟨_, rfl⟩
      obtain ⟨D2, hD2⟩ : ∃ d, d = (⟨(Lib.decDigits v2).toArray⟩ : ByteArray) := ⟨_, rfl⟩
      have hkk := HK.out.kept
      rw [← hD2] at hkk
      have g3 := (hkk _ (.tail _ (.head _))).2
      have g4 := (hkk _ (.head _)).2
      have y0 : W13.cell? ⟨q3, 0, none⟩ = some (.int .u8 8) := (cells_at g3 0).1
      have y1 : W13.cell? ⟨q3, 1, none⟩ = some (.int .u64 (v2 : Int)) := (cells_at g3 1).1
      have y2 : W13.cell? ⟨q3, 2, none⟩ = some (.string ⟨#[]⟩) := (cells_at g3 2).1
      have y3 : W13.cell? ⟨q3, 3, none⟩ = some (.string ⟨#[]⟩) := (cells_at g3 3).1
      have y4 : W13.cell? ⟨q3, 4, none⟩ = some (.int .u32 0) := (cells_at g3 4).1
      have y5 : W13.cell? ⟨q3, 5, none⟩ = some (.int .u64 0) := (cells_at g3 5).1
      have y6 : W13.cell? ⟨q3, 6, none⟩ = some (.int .i64 0) := (cells_at g3 6).1
      have y7 : W13.cell? ⟨q3, 7, none⟩ = some (.int .i64 0) := (cells_at g3 7).1
      have z0 : W13.cell? ⟨q4, 0, none⟩ = some (.string ⟨#[107]⟩) := (cells_at g4 0).1
      have z1 : W13.cell? ⟨q4, 1, none⟩ = some (.string D2) := (cells_at g4 1).1
      have z2 : W13.cell? ⟨q4, 2, none⟩ = some (.int .u32 f) := (cells_at g4 2).1
      have z3 : W13.cell? ⟨q4, 3, none⟩ = some (.int .u64 3) := (cells_at g4 3).1
      have z4 : W13.cell? ⟨q4, 4, none⟩ = some (.int .i64 9) := (cells_at g4 4).1
      have z5 : W13.cell? ⟨q4, 5, none⟩ = some (.int .i64 0) := (cells_at g4 5).1
      have x0 : W13.cell? ⟨n0, 0, none⟩ = some (.int .u64 (b0 : Int)) := (cells_at (HX.out W13 HK.out.lv.bel) 0).1
      have x1 : W13.cell? ⟨n0, 1, none⟩ = some (.int .u64 (b1 : Int)) := (cells_at (HX.out W13 HK.out.lv.bel) 1).1
      have hv2l : v2 < 18446744073709551616 := by have h := HV2.out; have := HV1L.out; unfold countN at h; rw [if_neg (by decide)] at h; omega
      have HTX := Lib.hid (fun W (hW : Below W13.heap.size W13 W) => (show Calls Tryd.prog 18 #[.int .u64 (v2 : Int)] W fun e w' => e = .returned (.string D2) ∧ Below W.heap.size W w' from by rw [hD2]; exact text_at hv2l W (HP0.out.below (HK.out.lv.bel.trans (hW.mono HK.out.lv.bel.size)))))
      have HCY := Lib.hid (fun (W : World) (hW : Below W13.heap.size W13 W) => (⟨(hW.cell (cell_lt y0)).trans y0, (hW.cell (cell_lt y1)).trans y1, (hW.cell (cell_lt y2)).trans y2, (hW.cell (cell_lt y3)).trans y3, (hW.cell (cell_lt y4)).trans y4, (hW.cell (cell_lt y5)).trans y5, (hW.cell (cell_lt y6)).trans y6, (hW.cell (cell_lt y7)).trans y7⟩ : W.cell? ⟨q3, 0, none⟩ = some (.int .u8 8) ∧ W.cell? ⟨q3, 1, none⟩ = some (.int .u64 (v2 : Int)) ∧ W.cell? ⟨q3, 2, none⟩ = some (.string ⟨#[]⟩) ∧ W.cell? ⟨q3, 3, none⟩ = some (.string ⟨#[]⟩) ∧ W.cell? ⟨q3, 4, none⟩ = some (.int .u32 0) ∧ W.cell? ⟨q3, 5, none⟩ = some (.int .u64 0) ∧ W.cell? ⟨q3, 6, none⟩ = some (.int .i64 0) ∧ W.cell? ⟨q3, 7, none⟩ = some (.int .i64 0)))
      have HCZ := Lib.hid (fun (W : World) (hW : Below W13.heap.size W13 W) => (⟨(hW.cell (cell_lt z0)).trans z0, (hW.cell (cell_lt z1)).trans z1, (hW.cell (cell_lt z2)).trans z2, (hW.cell (cell_lt z3)).trans z3, (hW.cell (cell_lt z4)).trans z4, (hW.cell (cell_lt z5)).trans z5⟩ : W.cell? ⟨q4, 0, none⟩ = some (.string ⟨#[107]⟩) ∧ W.cell? ⟨q4, 1, none⟩ = some (.string D2) ∧ W.cell? ⟨q4, 2, none⟩ = some (.int .u32 f) ∧ W.cell? ⟨q4, 3, none⟩ = some (.int .u64 3) ∧ W.cell? ⟨q4, 4, none⟩ = some (.int .i64 9) ∧ W.cell? ⟨q4, 5, none⟩ = some (.int .i64 0)))
      clear hkk g3 g4 hD2 hv2l y0 y1 y2 y3 y4 y5 y6 y7 z0 z1 z2 z3 z4 z5
      go_upto_region 13 with fail
      go_upto_region 14 with fail
      go_upto_if 81 with fail
      go_cut [16, 82, 83, 84, 85, 86, 87, 88] (fun s16 _ _ _ _ _ _ _ wx => s16 = .int .u64 (v2 : Int) ∧ wx = W13)
      case first =>
        have h2 := HV2.out
        unfold countN at h2
        rw [if_neg (by decide)] at h2
        by_cases hgt : b1 < v1
        · have d1 : decide ((b1 : Int) < (v1 : Int)) = true := by rw [decide_eq_true_eq]; omega
          have hw2 : IntKind.u64.wrap ((v1 : Int) - (b1 : Int)) = (v2 : Int) := wrap_less h2 hgt HV1L.out
          clear h2
          go_wp2_with fail
          go_meet
          case rel => exact ⟨by first | rfl | exact congrArg _ hw2, rfl⟩
        · have d1 : decide ((b1 : Int) < (v1 : Int)) = false := by rw [decide_eq_false_iff_not]; omega
          obtain rfl : v2 = 0 := by omega
          clear h2
          go_wp2_with fail
          go_meet
          case rel => exact ⟨rfl, rfl⟩
      case rest =>
        obtain ⟨rfl, rfl⟩ := hcut
        obtain ⟨W14, rfl⟩ : ∃ X, X = wc := ⟨_, rfl⟩
        clear x0 x1 hw1 HV1L HV2 HV1
        have qa : ∀ W : World, (binOp .neq 39 (.agg #[.int .u8 8, .int .u64 (v2 : Int), .string ⟨#[]⟩, .string ⟨#[]⟩, .int .u32 0, .int .u64 0, .int .i64 0, .int .i64 0]) (.agg #[.int .u8 8, .int .u64 (v2 : Int), .string ⟨#[]⟩, .string ⟨#[]⟩, .int .u32 0, .int .u64 0, .int .i64 0, .int .i64 0])).run Tryd.prog W = .ok (.bool false) W := fun W => by have h := run_ans_ne ⟨8, v2, noItem⟩ ⟨8, v2, noItem⟩ W; rw [decide_eq_true rfl] at h; exact h
        have qi : ∀ W : World, (binOp .neq 37 (.agg #[.string ⟨#[107]⟩, .string D2, .int .u32 f, .int .u64 3, .int .i64 9, .int .i64 0]) (.agg #[.string ⟨#[107]⟩, .string D2, .int .u32 f, .int .u64 3, .int .i64 9, .int .i64 0])).run Tryd.prog W = .ok (.bool false) W := fun W => by have h := run_item_ne ⟨⟨#[107]⟩, D2, f, 3, 9, 0⟩ ⟨⟨#[107]⟩, D2, f, 3, 9, 0⟩ W; rw [decide_eq_true rfl] at h; exact h
        have qb1 : ∀ W : World, (Instr.build 39 #[(0, .int .u8 8), (1, .int .u64 (v2 : Int))]).run Tryd.prog W = .ok (.agg #[.int .u8 8, .int .u64 (v2 : Int), .string ⟨#[]⟩, .string ⟨#[]⟩, .int .u32 0, .int .u64 0, .int .i64 0, .int .i64 0]) W := fun W => by kernel_rfl
        have qb2 : ∀ W : World, (Instr.build 37 #[(0, .string ⟨#[107]⟩), (1, .string D2), (2, .int .u32 f), (3, .int .u64 3), (4, .int .i64 9)]).run Tryd.prog W = .ok (.agg #[.string ⟨#[107]⟩, .string D2, .int .u32 f, .int .u64 3, .int .i64 9, .int .i64 0]) W := fun W => by kernel_rfl
        go_upto_region 16 with fail
        go_cut [100] (fun s100 wx => s100 = .bool false ∧ Below W14.heap.size W14 wx)
        case first =>
          refine wp_region_held_drew (S := fun W => Below W14.heap.size W14 W) (by kernel_rfl) (bdrew (Below.refl _ _)) (fun hHeld => ?_)
          refine wpAnyH_take (i := 0) (v := ?_) rfl (by kernel_rfl) (by kernel_rfl) (by kernel_rfl) (fun _ _ _ h => h) (Or.inl ⟨by rfl, ?_⟩) (by assumption) ?_
          rotate_left 1
          · ((intro w hSw; (try dsimp only at hSw); obtain ⟨y0, y1, y2, y3, y4, y5, y6, y7⟩ := HCY.out _ hSw; go_simp) <;> with_reducible rfl)
          try simp only [Act.put, List.setIfInBounds_toArray, List.set_cons_zero, List.set_cons_succ, List.getElem_toArray, List.getElem_cons_zero]
          refine wpAnyH_take (i := 1) (v := ?_) rfl (by kernel_rfl) (by kernel_rfl) (by kernel_rfl) (fun _ _ _ h => h) (Or.inl ⟨by rfl, ?_⟩) (by assumption) ?_
          rotate_left 1
          · ((intro w hSw; (try dsimp only at hSw); go_simp) <;> with_reducible rfl)
          try simp only [Act.put, List.setIfInBounds_toArray, List.set_cons_zero, List.set_cons_succ, List.getElem_toArray, List.getElem_cons_zero, List.getElem_cons_succ]
          refine wpAnyH_take (i := 2) (v := ?_) rfl (by kernel_rfl) (by kernel_rfl) (by kernel_rfl) (fun _ _ _ h => h) (Or.inl ⟨by rfl, ?_⟩) (by assumption) ?_
          rotate_left 1
          · ((intro w hSw; (try dsimp only at hSw); go_simp) <;> with_reducible rfl)
          try simp only [Act.put, List.setIfInBounds_toArray, List.set_cons_zero, List.set_cons_succ, List.getElem_toArray, List.getElem_cons_zero, List.getElem_cons_succ]
          refine wpAnyH_take (i := 3) (v := ?_) rfl (by kernel_rfl) (by kernel_rfl) (by kernel_rfl) (fun _ _ _ h => h) (Or.inl ⟨by rfl, ?_⟩) (by assumption) ?_
          rotate_left 1
          · ((intro w hSw; (try dsimp only at hSw); go_simp) <;> with_reducible rfl)
          try simp only [Act.put, List.setIfInBounds_toArray, List.set_cons_zero, List.set_cons_succ, List.getElem_toArray, List.getElem_cons_zero, List.getElem_cons_succ]
          refine wpAnyH_take (i := 4) (v := ?_) rfl (by kernel_rfl) (by kernel_rfl) (by kernel_rfl) (fun _ _ _ h => h) (Or.inl ⟨by rfl, ?_⟩) (by assumption) ?_
          rotate_left 1
          · ((intro w hSw; (try dsimp only at hSw); go_simp) <;> with_reducible rfl)
          try simp only [Act.put, List.setIfInBounds_toArray, List.set_cons_zero, List.set_cons_succ, List.getElem_toArray, List.getElem_cons_zero, List.getElem_cons_succ]
          refine wpAnyH_take (i := 5) (v := ?_) rfl (by kernel_rfl) (by kernel_rfl) (by kernel_rfl) (fun _ _ _ h => h) (Or.inl ⟨by rfl, ?_⟩) (by assumption) ?_
          rotate_left 1
          · ((intro w hSw; (try dsimp only at hSw); obtain ⟨z0, z1, z2, z3, z4, z5⟩ := HCZ.out _ hSw; go_simp) <;> with_reducible rfl)
          try simp only [Act.put, List.setIfInBounds_toArray, List.set_cons_zero, List.set_cons_succ, List.getElem_toArray, List.getElem_cons_zero, List.getElem_cons_succ]
          refine wpAnyH_take (i := 6) (v := ?_) rfl (by kernel_rfl) (by kernel_rfl) (by kernel_rfl) (fun _ _ _ h => h) (Or.inl ⟨by rfl, ?_⟩) (by assumption) ?_
          rotate_left 1
          · ((intro w hSw; (try dsimp only at hSw); go_simp) <;> with_reducible rfl)
          try simp only [Act.put, List.setIfInBounds_toArray, List.set_cons_zero, List.set_cons_succ, List.getElem_toArray, List.getElem_cons_zero, List.getElem_cons_succ]
          refine wpAnyH_take (i := 8) (v := ?_) rfl (by kernel_rfl) (by kernel_rfl) (by kernel_rfl) (fun _ _ _ h => h) (Or.inl ⟨by rfl, ?_⟩) (by assumption) ?_
          rotate_left 1
          · ((intro w hSw; (try dsimp only at hSw); go_simp) <;> with_reducible rfl)
          try simp only [Act.put, List.setIfInBounds_toArray, List.set_cons_zero, List.set_cons_succ, List.getElem_toArray, List.getElem_cons_zero, List.getElem_cons_succ]
          refine wpAnyH_ready (rs := [7]) (by kernel_rfl) (by simp) ?_
          refine AllReadyH.cons rfl (fun K hK => ?_) AllReadyH.nil
          go_simp
          go_at_call 18
          refine (HTX.out _ (bdrew (Below.refl _ _))).mono ?_
          rintro e V1 ⟨rfl, hb1⟩
          refine hK.out _ _ ((bdrew (Below.refl W14.heap.size W14)).trans hb1) (fun hHeld2 => ?_)
          have HB1 := Lib.hid (show Below W14.heap.size W14 V1 from (bdrew (Below.refl W14.heap.size W14)).trans hb1)
          clear hK K hb1
          try simp only [Act.put, List.setIfInBounds_toArray, List.set_cons_zero, List.set_cons_succ, List.getElem_toArray, List.getElem_cons_zero, List.getElem_cons_succ]
          refine wpAnyH_take (i := 9) (v := ?_) rfl (by kernel_rfl) (by kernel_rfl) (by kernel_rfl) (fun _ _ _ h => h) (Or.inl ⟨by rfl, ?_⟩) (by assumption) ?_
          rotate_left 1
          · ((intro w hSw; (try dsimp only at hSw); go_simp) <;> with_reducible rfl)
          try simp only [Act.put, List.setIfInBounds_toArray, List.set_cons_zero, List.set_cons_succ, List.getElem_toArray, List.getElem_cons_zero, List.getElem_cons_succ]
          refine wpAnyH_take (i := 10) (v := ?_) rfl (by kernel_rfl) (by kernel_rfl) (by kernel_rfl) (fun _ _ _ h => h) (Or.inl ⟨by rfl, ?_⟩) (by assumption) ?_
          rotate_left 1
          · ((intro w hSw; (try dsimp only at hSw); go_simp) <;> with_reducible rfl)
          try simp only [Act.put, List.setIfInBounds_toArray, List.set_cons_zero, List.set_cons_succ, List.getElem_toArray, List.getElem_cons_zero, List.getElem_cons_succ]
          refine wpAnyH_take (i := 11) (v := ?_) rfl (by kernel_rfl) (by kernel_rfl) (by kernel_rfl) (fun _ _ _ h => h) (Or.inl ⟨by rfl, ?_⟩) (by assumption) ?_
          rotate_left 1
          · ((intro w hSw; (try dsimp only at hSw); go_simp) <;> with_reducible rfl)
          try simp only [Act.put, List.setIfInBounds_toArray, List.set_cons_zero, List.set_cons_succ, List.getElem_toArray, List.getElem_cons_zero, List.getElem_cons_succ]
          refine wpAnyH_done (by kernel_rfl) ?_ _
          clear hHeld2
          go_wp2_with fail
          go_meet
          case rel => exact ⟨rfl, HB1.out⟩
        case rest =>
          obtain ⟨rfl, hb⟩ := hcut
          have HK2 := Lib.hid ((KpAt.mk HK.out.lv (fun x hx => nomatch hx) : KpAt W0 W14 p _ []).below hb)
          clear hb HCY HCZ HTX qa qi qb1 qb2 HK
          have HK := HK2
          clear HK2
          obtain ⟨W15, rfl⟩ : ∃ X, X = wc := ⟨_, rfl⟩
          go_upto_region 18 with fail
          go_wp2_with fail
          refine (kp_does (c := ⟨3, kK, t, 0, 0, 0, 0⟩) HK.out (does_again t 0 0) rfl (show kK.size ≤ maxLen by decide) (show (0 : Int) ≤ 3 ∧ (3 : Int) ≤ 255 by decide) (by show -9223372036854775808 ≤ (0 : Int) ∧ (0 : Int) ≤ 9223372036854775807; omega) (by show (0 : Int) ≤ 0 ∧ (0 : Int) ≤ 18446744073709551615; omega) (show 3 < 18446744073709551615 by decide) HE0.out HP0.out).mono ?_
          rintro e W16 ⟨rfl, hk⟩
          rw [show diesE 0 0 = -1 from rfl] at hk
          have HK2 := Lib.hid hk
          clear hk HK
          have HK := HK2
          clear HK2
          go_upto_region 19 with fail
          go_wp2_with fail
          obtain ⟨a, u, j, hd1, hj, hak⟩ := does_text (v := t) (f := 0) (i := 4) (.inr rfl)
          refine (kp_does (c := ⟨9, kK, ⟨#[]⟩, 0, 0, 0, 0⟩) HK.out hd1 rfl (show kK.size ≤ maxLen by decide) (show (0 : Int) ≤ 9 ∧ (9 : Int) ≤ 255 by decide) (by show -9223372036854775808 ≤ (0 : Int) ∧ (0 : Int) ≤ 9223372036854775807; omega) (by show (0 : Int) ≤ 0 ∧ (0 : Int) ≤ 18446744073709551615; omega) (show 4 < 18446744073709551615 by decide) HE0.out HP0.out).mono ?_
          rintro e W17 ⟨rfl, hk⟩
          have HAK := Lib.hid hak
          have HJ := Lib.hid hj
          clear hd1 hak hj
          have HK2 := Lib.hid hk
          clear hk HK
          have HK := HK2
          clear HK2
          unfold AnsD.cells
          go_upto_region 20 with (first | ((with_reducible show wpList _ _ _ (⟨none, Op.store 39 _ _, _, _, _, _⟩ :: _) _ _); refine wpList_store_whole (by rfl) 39 (.tmp 17) (.tmp 107) (by rfl) W17.heap.size (by rfl) #[.int .u8 a.kind, .int .u64 a.number, .string a.item.key, .string a.item.value, .int .u32 a.item.flags, .int .u64 a.item.id, .int .i64 a.item.dies, .int .i64 a.item.gen] (by rfl) _ 39 (heap_alloc_new _ _) (by rfl) (by kernel_rfl) (by simp [Value.oneCell']) ?_; intro w2 hr2 hg2 hs2; have HG2 := Lib.hid hg2; have HR2 := Lib.hid hr2; clear hg2 hr2 hs2) | fail)
          have hk := HK.out.put HR2.out HG2.out
          obtain ⟨q5, hq⟩ : ∃ q, q = W17.heap.size := ⟨_, rfl⟩
          rw [← hq] at hk ⊢
          clear hq HG2 HR2
          obtain ⟨q5W, rfl⟩ : ∃ X, X = w2 := ⟨_, rfl⟩
          have HK2 := Lib.hid hk
          clear hk HK
          have HK := HK2
          clear HK2
          go_wp2_with fail
          obtain ⟨pn, hpn⟩ : ∃ pn : Nat, parseV (bs t) = .tuple #[.int .u64 (pn : Int), .bool (parseN (bs t)).isSome] := by
            cases hp : parseN (bs t) with
            | none => exact ⟨0, parseV_none hp⟩
            | some u => exact ⟨u, parseV_some hp⟩
          have hpa := parse_any t q5W (HE0.out.below HK.out.lv.bel)
          rw [hpn] at hpa
          refine hpa.mono ?_
          rintro e W18 ⟨rfl, hb⟩
          have hk := HK.out.below hb
          obtain ⟨pb, hpb⟩ : ∃ b, b = (parseN (bs t)).isSome := ⟨_, rfl⟩
          have hak2 := HAK.out
          rw [← hpb] at hak2 ⊢
          have HAK2 := Lib.hid hak2
          clear hb hpa hpn hpb hak2 HAK
          have HK2 := Lib.hid hk
          clear hk HK
          have HK := HK2
          clear HK2
          go_upto_region 21 with fail
          go_wp2_with fail
          refine (kp_does (c := ⟨7, kK, ⟨#[]⟩, 0, 0, 0, 0⟩) HK.out (does_gone (.inr rfl)) rfl (show kK.size ≤ maxLen by decide) (show (0 : Int) ≤ 7 ∧ (7 : Int) ≤ 255 by decide) (by show -9223372036854775808 ≤ (0 : Int) ∧ (0 : Int) ≤ 9223372036854775807; omega) (by show (0 : Int) ≤ 0 ∧ (0 : Int) ≤ 18446744073709551615; omega) (by have := HJ.out; show j < _; omega) HE0.out HP0.out).mono ?_
          rintro e W19 ⟨rfl, hk⟩
          have HK2 := Lib.hid hk
          clear hk HK
          have HK := HK2
          clear HK2
          go_upto_region 22 with (first | ((with_reducible show wpList _ _ _ (⟨none, Op.store 39 _ _, _, _, _, _⟩ :: _) _ _); refine wpList_store_whole (by rfl) 39 (.tmp 20) (.tmp 115) (by rfl) W19.heap.size (by rfl) #[.int .u8 6, .int .u64 0, .string ⟨#[]⟩, .string ⟨#[]⟩, .int .u32 0, .int .u64 0, .int .i64 0, .int .i64 0] (by rfl) _ 39 (heap_alloc_new _ _) (by rfl) (by kernel_rfl) (by simp [Value.oneCell']) ?_; intro w2 hr2 hg2 hs2; have HG2 := Lib.hid hg2; have HR2 := Lib.hid hr2; clear hg2 hr2 hs2) | fail)
          have hk := HK.out.put HR2.out HG2.out
          obtain ⟨q6, hq⟩ : ∃ q, q = W19.heap.size := ⟨_, rfl⟩
          rw [← hq] at hk ⊢
          clear hq HG2 HR2
          obtain ⟨q6W, rfl⟩ : ∃ X, X = w2 := ⟨_, rfl⟩
          have HK2 := Lib.hid hk
          clear hk HK
          have HK := HK2
          clear HK2
          go_wp2_with fail
          refine (kp_does (c := ⟨7, kK, ⟨#[]⟩, 0, 0, 0, 0⟩) HK.out (does_none j) rfl (show kK.size ≤ maxLen by decide) (show (0 : Int) ≤ 7 ∧ (7 : Int) ≤ 255 by decide) (by show -9223372036854775808 ≤ (0 : Int) ∧ (0 : Int) ≤ 9223372036854775807; omega) (by show (0 : Int) ≤ 0 ∧ (0 : Int) ≤ 18446744073709551615; omega) (by have := HJ.out; show j < _; omega) HE0.out HP0.out).mono ?_
          rintro e W20 ⟨rfl, hk⟩
          have HK2 := Lib.hid hk
          clear hk HK
          have HK := HK2
          clear HK2
          go_upto_region 23 with (first | ((with_reducible show wpList _ _ _ (⟨none, Op.store 39 _ _, _, _, _, _⟩ :: _) _ _); refine wpList_store_whole (by rfl) 39 (.tmp 21) (.tmp 118) (by rfl) W20.heap.size (by rfl) #[.int .u8 4, .int .u64 0, .string ⟨#[]⟩, .string ⟨#[]⟩, .int .u32 0, .int .u64 0, .int .i64 0, .int .i64 0] (by rfl) _ 39 (heap_alloc_new _ _) (by rfl) (by kernel_rfl) (by simp [Value.oneCell']) ?_; intro w2 hr2 hg2 hs2; have HG2 := Lib.hid hg2; have HR2 := Lib.hid hr2; clear hg2 hr2 hs2) | fail)
          have hk := HK.out.put HR2.out HG2.out
          obtain ⟨q7, hq⟩ : ∃ q, q = W20.heap.size := ⟨_, rfl⟩
          rw [← hq] at hk ⊢
          clear hq HG2 HR2
          obtain ⟨q7W, rfl⟩ : ∃ X, X = w2 := ⟨_, rfl⟩
          have HK2 := Lib.hid hk
          clear hk HK
          have HK := HK2
          clear HK2
          have y0 : q7W.cell? ⟨q7, 0, none⟩ = some (.int .u8 4) := (cells_at (HK.out.kept _ (.head _)).2 0).1
          have y1 : q7W.cell? ⟨q6, 0, none⟩ = some (.int .u8 6) := (cells_at (HK.out.kept _ (.tail _ (.head _))).2 0).1
          have y2 : q7W.cell? ⟨q5, 0, none⟩ = some (.int .u8 a.kind) := (cells_at (HK.out.kept _ (.tail _ (.tail _ (.head _)))).2 0).1
          have hak := HAK2.out
          clear HAK2
          generalize a.kind = ak at *
          have HLV := Lib.hid (lives36 q7W (HE0.out.below HK.out.lv.bel) (HP0.out.below HK.out.lv.bel))
          cases pb
          · obtain rfl : ak = 9 := by simpa using hak
            clear hak
            go_wp2_with fail
            refine (mapsCount_any HK.out.lv.map).mono ?_
            rintro e W21 ⟨rfl, rfl⟩
            go_wp2_with fail
            refine HLV.out.mono ?_
            rintro e W21 ⟨rfl, hb⟩
            have HB := Lib.hid (HBW.out.trans ((HK.out.lv.bel.trans (hb.mono HK.out.lv.bel.size)).mono HBW.out.size))
            clear hb
            go_wp2_with fail
            go_ret
            exact ⟨rfl, HB.out⟩
          · obtain rfl : ak = 8 := by simpa using hak
            clear hak
            go_wp2_with fail
            refine (mapsCount_any HK.out.lv.map).mono ?_
            rintro e W21 ⟨rfl, rfl⟩
            go_wp2_with fail
            refine HLV.out.mono ?_
            rintro e W21 ⟨rfl, hb⟩
            have HB := Lib.hid (HBW.out.trans ((HK.out.lv.bel.trans (hb.mono HK.out.lv.bel.size)).mono HBW.out.size))
            clear hb
            go_wp2_with fail
            go_ret
            exact ⟨rfl, HB.out⟩
end Go.Proofs.YtaooangnnlopcaaDoor
