/- The law BoundsMore, walked: a config with more of one part has bounds no less, and each call adds to what has been. Condition: the library's variables MaxLen and ErrRange are as they are laid. -/
import Derived.Test.YtahpjhnbjkjkiaaDoorLowM
import Derived.Test.YtahpjhnbjkjkiaaDoorBoundMono
import Derived.Test.YtahpjhnbjkjkiaaDoorLowI
import Derived.Deep.CutBlock
namespace Go.Proofs.YtahpjhnbjkjkiaaDoor
open Go.RowKit Go.ChangeMaps Go.MapKept

/-- A call of a verb, and of nothing else. -/
abbrev callN (v : Nat) : Cmd := ⟨0, [], v, [], [], 0, 0, 0, 0, 0, false⟩
/-- Both configs lie where they lie. -/
structure MoreJ (w : World) (c D : CfgD) (pd : Nat) (W : World) : Prop where
  box : W.heap[w.heap.size]? = some (.cells (cfgCells c).toArray 54 (0, 0))
  dbx : W.heap[pd]? = some (.cells (cfgCells D).toArray 54 (0, 0))
  low : Below w.heap.size w W
theorem MoreJ.kept {w : World} {c D : CfgD} {pd : Nat} {W W' : World} (h : MoreJ w c D pd W) {M : Nat → Prop} (hc : Chg M W W') (hM : ∀ k, M k → w.heap.size ≤ k ∧ ∀ t, t ≠ 37 → ¬ Tag W k t) : MoreJ w c D pd W' :=
  ⟨hc.obj h.box (fun e => (hM _ e).2 _ (by decide) (Tag.of h.box)), hc.obj h.dbx (fun e => (hM _ e).2 _ (by decide) (Tag.of h.dbx)), h.low.trans (hc.below (fun k hk => ⟨Nat.lt_of_lt_of_le hk h.low.size, fun e => by have := (hM k e).1; omega⟩))⟩
theorem MoreJ.below {w : World} {c D : CfgD} {pd : Nat} {W W' : World} (h : MoreJ w c D pd W) (hb : Below W.heap.size W W') : MoreJ w c D pd W' := h.kept (M := fun _ => False) (Chg.of_below hb) (fun _ e => e.elim)
def callsN (bl : List UInt8) : List Cmd := bl.map fun x => callN (1 + x.toNat % 11)
theorem callsN_take {bl : List UInt8} {i : Nat} {x : UInt8} (h : bl[i]? = some x) : callsN (bl.take (i + 1)) = callsN (bl.take i) ++ [callN (1 + x.toNat % 11)] := by
  obtain ⟨hi, he⟩ := List.getElem?_eq_some_iff.1 h
  rw [List.take_succ_eq_append_getElem hi, he]
  simp [callsN]
theorem callsN_len (bl : List UInt8) (i : Nat) (hi : i ≤ bl.length) : (callsN (bl.take i)).length = i := by simp [callsN]; omega
theorem callsN_verb {bl : List UInt8} : ∀ x ∈ callsN bl, x.cverb < 256 := fun x hx => by
  obtain ⟨y, _, rfl⟩ := List.mem_map.1 hx
  show 1 + y.toNat % 11 < 256
  omega
def MoreS (w : World) (c D : CfgD) (pd : Nat) (lv : Value) (C : List Cmd) (W : World) : Prop := W.cell? ⟨w.heap.size, 0, none⟩ = some (.int .i64 c.bits) ∧ W.cell? ⟨w.heap.size, 1, none⟩ = some (.int .i64 c.budget) ∧ W.cell? ⟨w.heap.size, 2, none⟩ = some (.int .i64 c.tries) ∧ W.cell? ⟨w.heap.size, 3, none⟩ = some (.int .i64 c.quantum) ∧ W.cell? ⟨w.heap.size, 4, none⟩ = some (.int .i64 c.way) ∧ W.cell? ⟨pd, 0, none⟩ = some (.int .i64 D.bits) ∧ W.cell? ⟨pd, 1, none⟩ = some (.int .i64 D.budget) ∧ W.cell? ⟨pd, 2, none⟩ = some (.int .i64 D.tries) ∧ W.cell? ⟨pd, 3, none⟩ = some (.int .i64 D.quantum) ∧ W.cell? ⟨pd, 4, none⟩ = some (.int .i64 D.way) ∧ MoreJ w c D pd W ∧ CallJ w W lv C
theorem moreS_of {w : World} {c D : CfgD} {pd : Nat} {lv : Value} {C : List Cmd} {W : World} (h : MoreJ w c D pd W) (hr : CallJ w W lv C) : MoreS w c D pd lv C W :=
  ⟨(block_cell h.box 0).1, (block_cell h.box 1).1, (block_cell h.box 2).1, (block_cell h.box 3).1, (block_cell h.box 4).1, (block_cell h.dbx 0).1, (block_cell h.dbx 1).1, (block_cell h.dbx 2).1, (block_cell h.dbx 3).1, (block_cell h.dbx 4).1, h, hr⟩
theorem more_keep {w : World} {c D : CfgD} {pd : Nat} {lv : Value} {C : List Cmd} {W W' : World} (hb : Below W.heap.size W W') (h : MoreS w c D pd lv C W) : MoreS w c D pd lv C W' := by
  obtain ⟨-, -, -, -, -, -, -, -, -, -, hj, hr⟩ := h
  exact moreS_of (hj.below hb) (hr.below hb)
set_option maxRecDepth 100000 in
set_option maxHeartbeats 16000000 in
theorem boundsMore_walk {w : World} {c : CfgD} {z0 z1 : Nat} {bv : Value} {bl : List UInt8} (hz0 : z0 < 256) (hz1 : z1 < 256) (hb : BRow w bv bl) (hL : HasLen w) (hE : HasErr w) :
    Calls Tryd.prog 6 #[cfgV c, .agg #[.int .u8 (z0 : Int), .int .u8 (z1 : Int)], bv] w fun e w' => e = .returned (.bool true) ∧ Below w.heap.size w w' := by
  obtain ⟨ba, bc, rfl⟩ := hb.len
  obtain ⟨i0, hi0, hx0, hx1, hx2⟩ := info_parts infoCall
  have Hi := Lib.hid hi0
  have Hz := Lib.hid (And.intro hx0 (And.intro hx1 hx2))
  have hlv : ∀ W, Below w.heap.size w W → Calls Tryd.prog 18 #[] W fun e w' => e = .returned (.bool true) ∧ Below W.heap.size W w' := fun W hb => lives40 W (hL.below hb) (hE.below hb)
  have HLV := Lib.hid hlv
  have HBR := Lib.hid hb
  have hbm := hb.cap
  unfold maxLen at hbm
  have HB0 := Lib.hid (show Below w.heap.size w ((w.alloc (.cells (cfgCells c).toArray 54)).alloc (.cells #[.int .u8 (z0 : Int), .int .u8 (z1 : Int)] 55)) from ((Below.refl _ _).alloc (Nat.le_refl _) _).alloc (by simp) _)
  have HM0 := Lib.hid (may_any c ((w.alloc (.cells (cfgCells c).toArray 54)).alloc (.cells #[.int .u8 (z0 : Int), .int .u8 (z1 : Int)] 55)))
  clear hlv hb hL hE hi0 hx0 hx1 hx2
  cases hm : mayC c
  · rw [hm] at HM0
    clear hm
    go_enter Tryd.func6, Tryd.ntmps6
    go_wp2_with fail
    refine HM0.out.mono ?_
    rintro e w1 ⟨rfl, hb1⟩
    have HB1 := Lib.hid (HB0.out.trans (hb1.mono HB0.out.size))
    clear hb1 HB0 HM0
    go_wp2_with fail
    refine (HLV.out _ HB1.out).mono ?_
    rintro e w' ⟨rfl, hb⟩
    have HB := Lib.hid hb
    clear hb
    go_wp2_with fail
    go_ret
    exact ⟨rfl, HB1.out.trans (HB.out.mono HB1.out.size)⟩
  · rw [hm] at HM0
    by_cases h1 : 50 < bl.length
    · have d1 : decide ((50 : Int) < (bl.length : Int)) = true := by rw [decide_eq_true_eq]; omega
      clear hm
      go_enter Tryd.func6, Tryd.ntmps6
      go_wp2_with fail
      refine HM0.out.mono ?_
      rintro e w1 ⟨rfl, hb1⟩
      have HB1 := Lib.hid (HB0.out.trans (hb1.mono HB0.out.size))
      clear hb1 HB0 HM0
      go_wp2_with fail
      refine (HLV.out _ HB1.out).mono ?_
      rintro e w' ⟨rfl, hb⟩
      have HB := Lib.hid hb
      clear hb
      go_wp2_with fail
      go_ret
      exact ⟨rfl, HB1.out.trans (HB.out.mono HB1.out.size)⟩
    · have d1 : decide ((50 : Int) < (bl.length : Int)) = false := by rw [decide_eq_false_iff_not]; omega
      have hbx : ((w.alloc (.cells (cfgCells c).toArray 54)).alloc (.cells #[.int .u8 (z0 : Int), .int .u8 (z1 : Int)] 55)).heap[w.heap.size]? = some (.cells (cfgCells c).toArray 54 (0, 0)) := by rw [heap_at, if_neg (by simp)]; exact heap_alloc_new _ _
      have hzx : ((w.alloc (.cells (cfgCells c).toArray 54)).alloc (.cells #[.int .u8 (z0 : Int), .int .u8 (z1 : Int)] 55)).heap[w.heap.size + 1]? = some (.cells #[.int .u8 (z0 : Int), .int .u8 (z1 : Int)] 55 (0, 0)) := by rw [heap_at, if_pos (by simp)]
      have HBX := Lib.hid hbx
      have HZX := Lib.hid hzx
      have HM := Lib.hid hm
      obtain ⟨p0, p1, p2, p3, p4, p5, p6, p7, p8, p9⟩ := may_of hm
      clear hm hbx hzx
      go_enter Tryd.func6, Tryd.ntmps6
      go_wp2_with fail
      refine HM0.out.mono ?_
      rintro e w1 ⟨rfl, hb1⟩
      have hx1 : w1.heap[w.heap.size]? = some (.cells (cfgCells c).toArray 54 (0, 0)) := by rw [hb1.block _ (by simp; omega)]; exact HBX.out
      have hz1 : w1.heap[w.heap.size + 1]? = some (.cells #[.int .u8 (z0 : Int), .int .u8 (z1 : Int)] 55 (0, 0)) := by rw [hb1.block _ (by simp)]; exact HZX.out
      have y0 : w1.cell? ⟨w.heap.size, 0, none⟩ = some (.int .i64 c.bits) := (block_cell hx1 0).1
      have y1 : w1.cell? ⟨w.heap.size, 1, none⟩ = some (.int .i64 c.budget) := (block_cell hx1 1).1
      have y2 : w1.cell? ⟨w.heap.size, 2, none⟩ = some (.int .i64 c.tries) := (block_cell hx1 2).1
      have y3 : w1.cell? ⟨w.heap.size, 3, none⟩ = some (.int .i64 c.quantum) := (block_cell hx1 3).1
      have y4 : w1.cell? ⟨w.heap.size, 4, none⟩ = some (.int .i64 c.way) := (block_cell hx1 4).1
      have q0 : w1.cell? ⟨w.heap.size + 1, 0, none⟩ = some (.int .u8 (z0 : Int)) := (block_cell hz1 0).1
      have q1 : w1.cell? ⟨w.heap.size + 1, 1, none⟩ = some (.int .u8 (z1 : Int)) := (block_cell hz1 1).1
      have hs1 : w.heap.size + 1 < w1.heap.size := (Array.getElem?_eq_some_iff.1 hz1).1
      have HX1 := Lib.hid hx1
      have HB1 := Lib.hid (HB0.out.trans (hb1.mono HB0.out.size))
      clear hb1 HB0 HM0 hx1 hz1 HBX HZX
      obtain ⟨pd, hpd⟩ : ∃ pd, pd = w1.heap.size := ⟨_, rfl⟩
      have hjj : ∀ D : CfgD, MoreJ w c D pd (w1.alloc (.cells (cfgCells D).toArray 54)) := fun D => by
        refine ⟨?_, ?_, HB1.out.alloc HB1.out.size _⟩
        · rw [heap_at, if_neg (by omega)]; exact HX1.out
        · rw [heap_at, if_pos hpd]
      have HJJ := Lib.hid hjj
      have HPD := Lib.hid hpd
      have hr4 : z0 % 4 = 0 ∨ z0 % 4 = 1 ∨ z0 % 4 = 2 ∨ z0 % 4 = 3 := by omega
      clear hjj hpd
      go_upto_block 0 with fail
      have hs0 : w.heap.size < w1.heap.size := by omega
      go_cut [34, 44, 54] (fun _ _ _ wx => ∃ D : CfgD, MoreD c D ∧ MoreJ w c D pd wx)
      case first =>
        rcases hr4 with hr | hr | hr | hr
        · have hz0 : ((z0 : Int) % 4 == 0) = true := by rw [beq_iff_eq]; omega
          have hz1 : ((z0 : Int) % 4 == 1) = false := by rw [beq_eq_false_iff_ne]; omega
          have hz2 : ((z0 : Int) % 4 == 2) = false := by rw [beq_eq_false_iff_ne]; omega
          clear hr
          go_wp2_with fail
          go_meet
          exact ⟨_, moreWay (z := z1) HM.out, HJJ.out _⟩
        · have hz0 : ((z0 : Int) % 4 == 0) = false := by rw [beq_eq_false_iff_ne]; omega
          have hz1 : ((z0 : Int) % 4 == 1) = true := by rw [beq_iff_eq]; omega
          have hz2 : ((z0 : Int) % 4 == 2) = false := by rw [beq_eq_false_iff_ne]; omega
          clear hr
          go_wp2_with fail
          go_meet
          exact ⟨_, moreQuantum (z := z1) HM.out, HJJ.out _⟩
        · have hz0 : ((z0 : Int) % 4 == 0) = false := by rw [beq_eq_false_iff_ne]; omega
          have hz1 : ((z0 : Int) % 4 == 1) = false := by rw [beq_eq_false_iff_ne]; omega
          have hz2 : ((z0 : Int) % 4 == 2) = true := by rw [beq_iff_eq]; omega
          clear hr
          go_wp2_with fail
          go_meet
          exact ⟨_, moreBudget (z := z1) HM.out, HJJ.out _⟩
        · have hz0 : ((z0 : Int) % 4 == 0) = false := by rw [beq_eq_false_iff_ne]; omega
          have hz1 : ((z0 : Int) % 4 == 1) = false := by rw [beq_eq_false_iff_ne]; omega
          have hz2 : ((z0 : Int) % 4 == 2) = false := by rw [beq_eq_false_iff_ne]; omega
          clear hr
          go_wp2_with fail
          go_meet
          exact ⟨_, moreTries (z := z1) HM.out, HJJ.out _⟩
      case rest =>
        obtain ⟨D, hmd, hj⟩ := hcut
        rw [← HPD.out]
        clear hr4 HJJ HPD HX1 HB1 hs0 hs1 p0 p1 p2 p3 p4 p5 p6 p7 p8 p9 y0 y1 y2 y3 y4 q0 q1
        clear w1
        have hc0 : CallJ w wc (.slice none 0 0) [] := ⟨World.ownsRow_nil _ _ _ _, hj.low⟩
        have HS0 := Lib.hid (moreS_of hj hc0)
        have HRC := Lib.hid (fun W => boundRoom_any c W)
        have HTC := Lib.hid (fun W => boundTurn_any c W)
        have HEC := Lib.hid (fun W => boundEvict_any c W)
        have HRD := Lib.hid (fun W => boundRoom_any D W)
        have HTD := Lib.hid (fun W => boundTurn_any D W)
        have HED := Lib.hid (fun W => boundEvict_any D W)
        have k1 := room_more hmd
        have k2 := turn_more hmd
        have k3 := evict_more hmd
        have k4 := (room_bd hmd.c0).2.1
        have k5 := turn_room hmd.c0
        have k6 := (evict_bd hmd.c0).1
        have HMD := Lib.hid hmd
        clear hmd hj hc0 HM
        generalize roomZ c = R at *
        generalize turnZ c = T at *
        generalize evictZ c = E at *
        generalize roomZ D = R2 at *
        generalize turnZ D = T2 at *
        generalize evictZ D = E2 at *
        have f1 : decide (R2 < R) = false := by rw [decide_eq_false_iff_not]; omega
        have f2 : decide (T2 < T) = false := by rw [decide_eq_false_iff_not]; omega
        have f3 : decide (E2 < E) = false := by rw [decide_eq_false_iff_not]; omega
        have f4 : decide (R < 1) = false := by rw [decide_eq_false_iff_not]; omega
        have f5 : decide (T < R) = false := by rw [decide_eq_false_iff_not]; omega
        have f6 : decide (E < 1) = false := by rw [decide_eq_false_iff_not]; omega
        clear k1 k2 k3 k4 k5 k6
        go_upto_region 12 with fail
        go_cut [99] (fun s99 wx => s99 = .bool false ∧ MoreJ w c D pd wx)
        case first =>
          go_wp2_with fail
          refine wp_region_held_drew (S := fun W => W.cell? ⟨w.heap.size, 0, none⟩ = some (.int .i64 c.bits) ∧ W.cell? ⟨w.heap.size, 1, none⟩ = some (.int .i64 c.budget) ∧ W.cell? ⟨w.heap.size, 2, none⟩ = some (.int .i64 c.tries) ∧ W.cell? ⟨w.heap.size, 3, none⟩ = some (.int .i64 c.quantum) ∧ W.cell? ⟨w.heap.size, 4, none⟩ = some (.int .i64 c.way) ∧ W.cell? ⟨pd, 0, none⟩ = some (.int .i64 D.bits) ∧ W.cell? ⟨pd, 1, none⟩ = some (.int .i64 D.budget) ∧ W.cell? ⟨pd, 2, none⟩ = some (.int .i64 D.tries) ∧ W.cell? ⟨pd, 3, none⟩ = some (.int .i64 D.quantum) ∧ W.cell? ⟨pd, 4, none⟩ = some (.int .i64 D.way) ∧ MoreJ w c D pd W ∧ CallJ w W (.slice none 0 0) []) (by kernel_rfl) (more_keep (w := w) (c := c) (D := D) (pd := pd) (Below.refl _ _).drew HS0.out) (fun hHeld => ?_)
          refine wpAnyH_take (i := 0) (v := ?_) rfl (by kernel_rfl) (by kernel_rfl) (by kernel_rfl) (fun _ _ _ h => h) (Or.inl ⟨by rfl, ?_⟩) (by assumption) ?_
          rotate_left 1
          · ((intro w hSw; (try dsimp only at hSw); go_simp) <;> with_reducible rfl)
          try simp only [Act.put, List.setIfInBounds_toArray, List.set_cons_zero, List.set_cons_succ, List.getElem_toArray, List.getElem_cons_zero]
          refine wpAnyH_take (i := 2) (v := ?_) rfl (by kernel_rfl) (by kernel_rfl) (by kernel_rfl) (fun _ _ _ h => h) (Or.inl ⟨by rfl, ?_⟩) (by assumption) ?_
          rotate_left 1
          · ((intro w hSw; (try dsimp only at hSw); go_simp) <;> with_reducible rfl)
          try simp only [Act.put, List.setIfInBounds_toArray, List.set_cons_zero, List.set_cons_succ, List.getElem_toArray, List.getElem_cons_zero, List.getElem_cons_succ]
          refine wpAnyH_ready (rs := [1]) (by kernel_rfl) (by simp) ?_
          refine AllReadyH.cons rfl (fun K hK => ?_) AllReadyH.nil
          go_split_ands
          go_simp
          go_at_call 19
          refine (HRD.out _).mono ?_
          rintro e w9 ⟨rfl, hb9⟩
          refine hK.out _ _ (more_keep (w := w) (c := c) (D := D) (pd := pd) hb9 ⟨by assumption, by assumption, by assumption, by assumption, by assumption, by assumption, by assumption, by assumption, by assumption, by assumption, by assumption, by assumption⟩) (fun hHeld2 => ?_)
          clear hK K
          try simp only [Act.put, List.setIfInBounds_toArray, List.set_cons_zero, List.set_cons_succ, List.getElem_toArray, List.getElem_cons_zero, List.getElem_cons_succ]
          refine wpAnyH_ready (rs := [3]) (by kernel_rfl) (by simp) ?_
          refine AllReadyH.cons rfl (fun K hK => ?_) AllReadyH.nil
          go_split_ands
          go_simp
          go_at_call 19
          refine (HRC.out _).mono ?_
          rintro e w9 ⟨rfl, hb9⟩
          refine hK.out _ _ (more_keep (w := w) (c := c) (D := D) (pd := pd) hb9 ⟨by assumption, by assumption, by assumption, by assumption, by assumption, by assumption, by assumption, by assumption, by assumption, by assumption, by assumption, by assumption⟩) (fun hHeld2 => ?_)
          clear hK K
          try simp only [Act.put, List.setIfInBounds_toArray, List.set_cons_zero, List.set_cons_succ, List.getElem_toArray, List.getElem_cons_zero, List.getElem_cons_succ]
          refine wpAnyH_take (i := 4) (v := ?_) rfl (by kernel_rfl) (by kernel_rfl) (by kernel_rfl) (fun _ _ _ h => h) (Or.inl ⟨by rfl, ?_⟩) (by assumption) ?_
          rotate_left 1
          · ((intro w hSw; (try dsimp only at hSw); go_simp) <;> with_reducible rfl)
          try simp only [Act.put, List.setIfInBounds_toArray, List.set_cons_zero, List.set_cons_succ, List.getElem_toArray, List.getElem_cons_zero, List.getElem_cons_succ]
          refine wpAnyH_take (i := 5) (v := ?_) rfl (by kernel_rfl) (by kernel_rfl) (by kernel_rfl) (fun _ _ _ h => h) (Or.inl ⟨by rfl, ?_⟩) (by assumption) ?_
          rotate_left 1
          · ((intro w hSw; (try dsimp only at hSw); go_simp) <;> with_reducible rfl)
          try simp only [Act.put, List.setIfInBounds_toArray, List.set_cons_zero, List.set_cons_succ, List.getElem_toArray, List.getElem_cons_zero, List.getElem_cons_succ]
          refine wpAnyH_take (i := 6) (v := ?_) rfl (by kernel_rfl) (by kernel_rfl) (by kernel_rfl) (fun _ _ _ h => h) (Or.inl ⟨by rfl, ?_⟩) (by assumption) ?_
          rotate_left 1
          · ((intro w hSw; (try dsimp only at hSw); go_simp) <;> with_reducible rfl)
          try simp only [Act.put, List.setIfInBounds_toArray, List.set_cons_zero, List.set_cons_succ, List.getElem_toArray, List.getElem_cons_zero, List.getElem_cons_succ]
          refine wpAnyH_take (i := 8) (v := ?_) rfl (by kernel_rfl) (by kernel_rfl) (by kernel_rfl) (fun _ _ _ h => h) (Or.inl ⟨by rfl, ?_⟩) (by assumption) ?_
          rotate_left 1
          · ((intro w hSw; (try dsimp only at hSw); go_simp) <;> with_reducible rfl)
          try simp only [Act.put, List.setIfInBounds_toArray, List.set_cons_zero, List.set_cons_succ, List.getElem_toArray, List.getElem_cons_zero, List.getElem_cons_succ]
          refine wpAnyH_ready (rs := [7]) (by kernel_rfl) (by simp) ?_
          refine AllReadyH.cons rfl (fun K hK => ?_) AllReadyH.nil
          go_split_ands
          go_simp
          go_at_call 20
          refine (HTD.out _).mono ?_
          rintro e w9 ⟨rfl, hb9⟩
          refine hK.out _ _ (more_keep (w := w) (c := c) (D := D) (pd := pd) hb9 ⟨by assumption, by assumption, by assumption, by assumption, by assumption, by assumption, by assumption, by assumption, by assumption, by assumption, by assumption, by assumption⟩) (fun hHeld2 => ?_)
          clear hK K
          try simp only [Act.put, List.setIfInBounds_toArray, List.set_cons_zero, List.set_cons_succ, List.getElem_toArray, List.getElem_cons_zero, List.getElem_cons_succ]
          refine wpAnyH_ready (rs := [9]) (by kernel_rfl) (by simp) ?_
          refine AllReadyH.cons rfl (fun K hK => ?_) AllReadyH.nil
          go_split_ands
          go_simp
          go_at_call 20
          refine (HTC.out _).mono ?_
          rintro e w9 ⟨rfl, hb9⟩
          refine hK.out _ _ (more_keep (w := w) (c := c) (D := D) (pd := pd) hb9 ⟨by assumption, by assumption, by assumption, by assumption, by assumption, by assumption, by assumption, by assumption, by assumption, by assumption, by assumption, by assumption⟩) (fun hHeld2 => ?_)
          clear hK K
          try simp only [Act.put, List.setIfInBounds_toArray, List.set_cons_zero, List.set_cons_succ, List.getElem_toArray, List.getElem_cons_zero, List.getElem_cons_succ]
          refine wpAnyH_take (i := 10) (v := ?_) rfl (by kernel_rfl) (by kernel_rfl) (by kernel_rfl) (fun _ _ _ h => h) (Or.inl ⟨by rfl, ?_⟩) (by assumption) ?_
          rotate_left 1
          · ((intro w hSw; (try dsimp only at hSw); go_simp) <;> with_reducible rfl)
          try simp only [Act.put, List.setIfInBounds_toArray, List.set_cons_zero, List.set_cons_succ, List.getElem_toArray, List.getElem_cons_zero, List.getElem_cons_succ]
          refine wpAnyH_take (i := 11) (v := ?_) rfl (by kernel_rfl) (by kernel_rfl) (by kernel_rfl) (fun _ _ _ h => h) (Or.inl ⟨by rfl, ?_⟩) (by assumption) ?_
          rotate_left 1
          · ((intro w hSw; (try dsimp only at hSw); go_simp) <;> with_reducible rfl)
          try simp only [Act.put, List.setIfInBounds_toArray, List.set_cons_zero, List.set_cons_succ, List.getElem_toArray, List.getElem_cons_zero, List.getElem_cons_succ]
          refine wpAnyH_take (i := 12) (v := ?_) rfl (by kernel_rfl) (by kernel_rfl) (by kernel_rfl) (fun _ _ _ h => h) (Or.inl ⟨by rfl, ?_⟩) (by assumption) ?_
          rotate_left 1
          · ((intro w hSw; (try dsimp only at hSw); go_simp) <;> with_reducible rfl)
          try simp only [Act.put, List.setIfInBounds_toArray, List.set_cons_zero, List.set_cons_succ, List.getElem_toArray, List.getElem_cons_zero, List.getElem_cons_succ]
          refine wpAnyH_take (i := 13) (v := ?_) rfl (by kernel_rfl) (by kernel_rfl) (by kernel_rfl) (fun _ _ _ h => h) (Or.inl ⟨by rfl, ?_⟩) (by assumption) ?_
          rotate_left 1
          · ((intro w hSw; (try dsimp only at hSw); go_simp) <;> with_reducible rfl)
          try simp only [Act.put, List.setIfInBounds_toArray, List.set_cons_zero, List.set_cons_succ, List.getElem_toArray, List.getElem_cons_zero, List.getElem_cons_succ]
          refine wpAnyH_take (i := 15) (v := ?_) rfl (by kernel_rfl) (by kernel_rfl) (by kernel_rfl) (fun _ _ _ h => h) (Or.inl ⟨by rfl, ?_⟩) (by assumption) ?_
          rotate_left 1
          · ((intro w hSw; (try dsimp only at hSw); go_simp) <;> with_reducible rfl)
          try simp only [Act.put, List.setIfInBounds_toArray, List.set_cons_zero, List.set_cons_succ, List.getElem_toArray, List.getElem_cons_zero, List.getElem_cons_succ]
          refine wpAnyH_ready (rs := [14]) (by kernel_rfl) (by simp) ?_
          refine AllReadyH.cons rfl (fun K hK => ?_) AllReadyH.nil
          go_split_ands
          go_simp
          go_at_call 21
          refine (HED.out _).mono ?_
          rintro e w9 ⟨rfl, hb9⟩
          refine hK.out _ _ (more_keep (w := w) (c := c) (D := D) (pd := pd) hb9 ⟨by assumption, by assumption, by assumption, by assumption, by assumption, by assumption, by assumption, by assumption, by assumption, by assumption, by assumption, by assumption⟩) (fun hHeld2 => ?_)
          clear hK K
          try simp only [Act.put, List.setIfInBounds_toArray, List.set_cons_zero, List.set_cons_succ, List.getElem_toArray, List.getElem_cons_zero, List.getElem_cons_succ]
          refine wpAnyH_ready (rs := [16]) (by kernel_rfl) (by simp) ?_
          refine AllReadyH.cons rfl (fun K hK => ?_) AllReadyH.nil
          go_split_ands
          go_simp
          go_at_call 21
          refine (HEC.out _).mono ?_
          rintro e w9 ⟨rfl, hb9⟩
          refine hK.out _ _ (more_keep (w := w) (c := c) (D := D) (pd := pd) hb9 ⟨by assumption, by assumption, by assumption, by assumption, by assumption, by assumption, by assumption, by assumption, by assumption, by assumption, by assumption, by assumption⟩) (fun hHeld2 => ?_)
          clear hK K
          try simp only [Act.put, List.setIfInBounds_toArray, List.set_cons_zero, List.set_cons_succ, List.getElem_toArray, List.getElem_cons_zero, List.getElem_cons_succ]
          refine wpAnyH_take (i := 17) (v := ?_) rfl (by kernel_rfl) (by kernel_rfl) (by kernel_rfl) (fun _ _ _ h => h) (Or.inl ⟨by rfl, ?_⟩) (by assumption) ?_
          rotate_left 1
          · ((intro w hSw; (try dsimp only at hSw); go_simp) <;> with_reducible rfl)
          try simp only [Act.put, List.setIfInBounds_toArray, List.set_cons_zero, List.set_cons_succ, List.getElem_toArray, List.getElem_cons_zero, List.getElem_cons_succ]
          refine wpAnyH_take (i := 18) (v := ?_) rfl (by kernel_rfl) (by kernel_rfl) (by kernel_rfl) (fun _ _ _ h => h) (Or.inl ⟨by rfl, ?_⟩) (by assumption) ?_
          rotate_left 1
          · ((intro w hSw; (try dsimp only at hSw); go_simp) <;> with_reducible rfl)
          try simp only [Act.put, List.setIfInBounds_toArray, List.set_cons_zero, List.set_cons_succ, List.getElem_toArray, List.getElem_cons_zero, List.getElem_cons_succ]
          refine wpAnyH_take (i := 19) (v := ?_) rfl (by kernel_rfl) (by kernel_rfl) (by kernel_rfl) (fun _ _ _ h => h) (Or.inl ⟨by rfl, ?_⟩) (by assumption) ?_
          rotate_left 1
          · ((intro w hSw; (try dsimp only at hSw); go_simp) <;> with_reducible rfl)
          try simp only [Act.put, List.setIfInBounds_toArray, List.set_cons_zero, List.set_cons_succ, List.getElem_toArray, List.getElem_cons_zero, List.getElem_cons_succ]
          refine wpAnyH_take (i := 20) (v := ?_) rfl (by kernel_rfl) (by kernel_rfl) (by kernel_rfl) (fun _ _ _ h => h) (Or.inl ⟨by rfl, ?_⟩) (by assumption) ?_
          rotate_left 1
          · ((intro w hSw; (try dsimp only at hSw); go_simp) <;> with_reducible rfl)
          try simp only [Act.put, List.setIfInBounds_toArray, List.set_cons_zero, List.set_cons_succ, List.getElem_toArray, List.getElem_cons_zero, List.getElem_cons_succ]
          refine wpAnyH_ready (rs := [21]) (by kernel_rfl) (by simp) ?_
          refine AllReadyH.cons rfl (fun K hK => ?_) AllReadyH.nil
          go_split_ands
          go_simp
          go_at_call 19
          refine (HRC.out _).mono ?_
          rintro e w9 ⟨rfl, hb9⟩
          refine hK.out _ _ (more_keep (w := w) (c := c) (D := D) (pd := pd) hb9 ⟨by assumption, by assumption, by assumption, by assumption, by assumption, by assumption, by assumption, by assumption, by assumption, by assumption, by assumption, by assumption⟩) (fun hHeld2 => ?_)
          clear hK K
          try simp only [Act.put, List.setIfInBounds_toArray, List.set_cons_zero, List.set_cons_succ, List.getElem_toArray, List.getElem_cons_zero, List.getElem_cons_succ]
          refine wpAnyH_take (i := 22) (v := ?_) rfl (by kernel_rfl) (by kernel_rfl) (by kernel_rfl) (fun _ _ _ h => h) (Or.inl ⟨by rfl, ?_⟩) (by assumption) ?_
          rotate_left 1
          · ((intro w hSw; (try dsimp only at hSw); go_simp) <;> with_reducible rfl)
          try simp only [Act.put, List.setIfInBounds_toArray, List.set_cons_zero, List.set_cons_succ, List.getElem_toArray, List.getElem_cons_zero, List.getElem_cons_succ]
          refine wpAnyH_take (i := 23) (v := ?_) rfl (by kernel_rfl) (by kernel_rfl) (by kernel_rfl) (fun _ _ _ h => h) (Or.inl ⟨by rfl, ?_⟩) (by assumption) ?_
          rotate_left 1
          · ((intro w hSw; (try dsimp only at hSw); go_simp) <;> with_reducible rfl)
          try simp only [Act.put, List.setIfInBounds_toArray, List.set_cons_zero, List.set_cons_succ, List.getElem_toArray, List.getElem_cons_zero, List.getElem_cons_succ]
          refine wpAnyH_take (i := 24) (v := ?_) rfl (by kernel_rfl) (by kernel_rfl) (by kernel_rfl) (fun _ _ _ h => h) (Or.inl ⟨by rfl, ?_⟩) (by assumption) ?_
          rotate_left 1
          · ((intro w hSw; (try dsimp only at hSw); go_simp) <;> with_reducible rfl)
          try simp only [Act.put, List.setIfInBounds_toArray, List.set_cons_zero, List.set_cons_succ, List.getElem_toArray, List.getElem_cons_zero, List.getElem_cons_succ]
          refine wpAnyH_take (i := 25) (v := ?_) rfl (by kernel_rfl) (by kernel_rfl) (by kernel_rfl) (fun _ _ _ h => h) (Or.inl ⟨by rfl, ?_⟩) (by assumption) ?_
          rotate_left 1
          · ((intro w hSw; (try dsimp only at hSw); go_simp) <;> with_reducible rfl)
          try simp only [Act.put, List.setIfInBounds_toArray, List.set_cons_zero, List.set_cons_succ, List.getElem_toArray, List.getElem_cons_zero, List.getElem_cons_succ]
          refine wpAnyH_take (i := 27) (v := ?_) rfl (by kernel_rfl) (by kernel_rfl) (by kernel_rfl) (fun _ _ _ h => h) (Or.inl ⟨by rfl, ?_⟩) (by assumption) ?_
          rotate_left 1
          · ((intro w hSw; (try dsimp only at hSw); go_simp) <;> with_reducible rfl)
          try simp only [Act.put, List.setIfInBounds_toArray, List.set_cons_zero, List.set_cons_succ, List.getElem_toArray, List.getElem_cons_zero, List.getElem_cons_succ]
          refine wpAnyH_ready (rs := [26]) (by kernel_rfl) (by simp) ?_
          refine AllReadyH.cons rfl (fun K hK => ?_) AllReadyH.nil
          go_split_ands
          go_simp
          go_at_call 20
          refine (HTC.out _).mono ?_
          rintro e w9 ⟨rfl, hb9⟩
          refine hK.out _ _ (more_keep (w := w) (c := c) (D := D) (pd := pd) hb9 ⟨by assumption, by assumption, by assumption, by assumption, by assumption, by assumption, by assumption, by assumption, by assumption, by assumption, by assumption, by assumption⟩) (fun hHeld2 => ?_)
          clear hK K
          try simp only [Act.put, List.setIfInBounds_toArray, List.set_cons_zero, List.set_cons_succ, List.getElem_toArray, List.getElem_cons_zero, List.getElem_cons_succ]
          refine wpAnyH_ready (rs := [28]) (by kernel_rfl) (by simp) ?_
          refine AllReadyH.cons rfl (fun K hK => ?_) AllReadyH.nil
          go_split_ands
          go_simp
          go_at_call 19
          refine (HRC.out _).mono ?_
          rintro e w9 ⟨rfl, hb9⟩
          refine hK.out _ _ (more_keep (w := w) (c := c) (D := D) (pd := pd) hb9 ⟨by assumption, by assumption, by assumption, by assumption, by assumption, by assumption, by assumption, by assumption, by assumption, by assumption, by assumption, by assumption⟩) (fun hHeld2 => ?_)
          clear hK K
          try simp only [Act.put, List.setIfInBounds_toArray, List.set_cons_zero, List.set_cons_succ, List.getElem_toArray, List.getElem_cons_zero, List.getElem_cons_succ]
          refine wpAnyH_take (i := 29) (v := ?_) rfl (by kernel_rfl) (by kernel_rfl) (by kernel_rfl) (fun _ _ _ h => h) (Or.inl ⟨by rfl, ?_⟩) (by assumption) ?_
          rotate_left 1
          · ((intro w hSw; (try dsimp only at hSw); go_simp) <;> with_reducible rfl)
          try simp only [Act.put, List.setIfInBounds_toArray, List.set_cons_zero, List.set_cons_succ, List.getElem_toArray, List.getElem_cons_zero, List.getElem_cons_succ]
          refine wpAnyH_take (i := 30) (v := ?_) rfl (by kernel_rfl) (by kernel_rfl) (by kernel_rfl) (fun _ _ _ h => h) (Or.inl ⟨by rfl, ?_⟩) (by assumption) ?_
          rotate_left 1
          · ((intro w hSw; (try dsimp only at hSw); go_simp) <;> with_reducible rfl)
          try simp only [Act.put, List.setIfInBounds_toArray, List.set_cons_zero, List.set_cons_succ, List.getElem_toArray, List.getElem_cons_zero, List.getElem_cons_succ]
          refine wpAnyH_take (i := 31) (v := ?_) rfl (by kernel_rfl) (by kernel_rfl) (by kernel_rfl) (fun _ _ _ h => h) (Or.inl ⟨by rfl, ?_⟩) (by assumption) ?_
          rotate_left 1
          · ((intro w hSw; (try dsimp only at hSw); go_simp) <;> with_reducible rfl)
          try simp only [Act.put, List.setIfInBounds_toArray, List.set_cons_zero, List.set_cons_succ, List.getElem_toArray, List.getElem_cons_zero, List.getElem_cons_succ]
          refine wpAnyH_take (i := 32) (v := ?_) rfl (by kernel_rfl) (by kernel_rfl) (by kernel_rfl) (fun _ _ _ h => h) (Or.inl ⟨by rfl, ?_⟩) (by assumption) ?_
          rotate_left 1
          · ((intro w hSw; (try dsimp only at hSw); go_simp) <;> with_reducible rfl)
          try simp only [Act.put, List.setIfInBounds_toArray, List.set_cons_zero, List.set_cons_succ, List.getElem_toArray, List.getElem_cons_zero, List.getElem_cons_succ]
          refine wpAnyH_ready (rs := [33]) (by kernel_rfl) (by simp) ?_
          refine AllReadyH.cons rfl (fun K hK => ?_) AllReadyH.nil
          go_split_ands
          go_simp
          go_at_call 21
          refine (HEC.out _).mono ?_
          rintro e w9 ⟨rfl, hb9⟩
          refine hK.out _ _ (more_keep (w := w) (c := c) (D := D) (pd := pd) hb9 ⟨by assumption, by assumption, by assumption, by assumption, by assumption, by assumption, by assumption, by assumption, by assumption, by assumption, by assumption, by assumption⟩) (fun hHeld2 => ?_)
          clear hK K
          try simp only [Act.put, List.setIfInBounds_toArray, List.set_cons_zero, List.set_cons_succ, List.getElem_toArray, List.getElem_cons_zero, List.getElem_cons_succ]
          refine wpAnyH_take (i := 34) (v := ?_) rfl (by kernel_rfl) (by kernel_rfl) (by kernel_rfl) (fun _ _ _ h => h) (Or.inl ⟨by rfl, ?_⟩) (by assumption) ?_
          rotate_left 1
          · ((intro w hSw; (try dsimp only at hSw); go_simp) <;> with_reducible rfl)
          try simp only [Act.put, List.setIfInBounds_toArray, List.set_cons_zero, List.set_cons_succ, List.getElem_toArray, List.getElem_cons_zero, List.getElem_cons_succ]
          refine wpAnyH_take (i := 35) (v := ?_) rfl (by kernel_rfl) (by kernel_rfl) (by kernel_rfl) (fun _ _ _ h => h) (Or.inl ⟨by rfl, ?_⟩) (by assumption) ?_
          rotate_left 1
          · ((intro w hSw; (try dsimp only at hSw); go_simp) <;> with_reducible rfl)
          try simp only [Act.put, List.setIfInBounds_toArray, List.set_cons_zero, List.set_cons_succ, List.getElem_toArray, List.getElem_cons_zero, List.getElem_cons_succ]
          refine wpAnyH_done (by kernel_rfl) ?_ _
          have HJ1 := Lib.hid hHeld2.2.2.2.2.2.2.2.2.2.2.1
          clear hHeld2 f1 f2 f3 f4 f5 f6 HRC HTC HEC HRD HTD HED HS0
          go_wp2_with fail
          go_meet
          exact ⟨rfl, HJ1.out⟩
        case rest =>
        obtain ⟨rfl, hj1⟩ := hcut
        have HC1 := Lib.hid (show CallJ w wc (.slice none 0 0) [] from ⟨World.ownsRow_nil _ _ _ _, hj1.low⟩)
        have HJ1 := Lib.hid hj1
        clear f1 f2 f3 f4 f5 f6 HRC HTC HEC HRD HTD HED HS0 hj1
        go_wp2_with fail
        go_loopw [8, 9, 10] (fun s8 s9 s10 wr => ∃ (i : Nat) (ov : Value) (Z : Int), s10 = .int .i64 (i : Int) ∧ s8 = ov ∧ s9 = .int .i64 Z ∧ i ≤ bl.length ∧ CallJ w wr ov (callsN (bl.take i)) ∧ MoreJ w c D pd wr ∧ Hid (Z = windowsZ c ((callsN (bl.take i)).map (·.cverb)))) (fun _ _ s10 _ => bl.length - (intOf s10).toNat)
        case atStart => exact ⟨0, _, 0, rfl, rfl, rfl, Nat.zero_le _, HC1.out, HJ1.out, Lib.hid rfl⟩
        case round =>
          obtain ⟨i, ov, Z, rfl, rfl, rfl, hi, hcj, hmj, HZ⟩ := hrel
          clear HC1 HJ1
          obtain ⟨va, vc, rfl⟩ := row_slice hcj.row
          have HCJ := Lib.hid hcj
          have HMJ := Lib.hid hmj
          by_cases hlt : i < bl.length
          · obtain ⟨x, hx⟩ : ∃ x, bl[i]? = some x := ⟨_, List.getElem?_eq_getElem hlt⟩
            obtain ⟨g, o, cc, hs1, -, hcx⟩ := (HBR.out.below hcj.low).at hx
            obtain ⟨rfl, -, -⟩ := slice_inj hs1
            have ix : ∀ W : World, (Instr.indexAt 22 (.slice (some ⟨g, o, none⟩) bl.length bc) (.int .i64 (i : Int))).run Tryd.prog W = .ok (.pointer (some ⟨g, o + i, none⟩)) W := fun W => idx_byte30 (c := bc) rfl hlt W
            obtain ⟨v, hv⟩ : ∃ v : Nat, v = 1 + x.toNat % 11 := ⟨_, rfl⟩
            have hrem : (x.toNat : Int) % 11 = (v : Int) - 1 := by omega
            have hv1 : 1 ≤ v := by omega
            have hv2 : v ≤ 11 := by omega
            have hadd : (1 : Int) + ((v : Int) - 1) = (v : Int) := by omega
            have hwv : IntKind.u8.wrap ((v : Int)) = (v : Int) := IntWalk.u8_in _ (by omega)
            have hwv2 : IntKind.u8.wrap (1 + ((v : Int) - 1)) = (v : Int) := by rw [hadd]; exact hwv
            have HTK := Lib.hid (callsN_take hx)
            rw [← hv] at HTK
            have hml := callsN_len bl i hi
            have hzb := windows_bd c ((callsN (bl.take i)).map (·.cverb))
            rw [← HZ.out, List.length_map, hml] at hzb
            obtain ⟨hzb0, hzb1⟩ := hzb
            have HSC := Lib.hid (fun W => boundSteps_any c v (by omega) W)
            have HSD := Lib.hid (fun W => boundSteps_any D v (by omega) W)
            have k1 := steps_more HMD.out v
            have k2 := steps_four HMD.out.c0 hv1 hv2
            have k3 := steps_bd c v
            have hZN : Z + stepsZ c v = windowsZ c ((callsN (bl.take (i + 1))).map (·.cverb)) := by rw [HTK.out, List.map_append, HZ.out]; exact (windows_push c _ v).symm
            have hND := windows_more HMD.out ((callsN (bl.take (i + 1))).map (·.cverb))
            have hW1 := fun W lv (hr : CallRow W lv (callsN (bl.take (i + 1)))) => boundWindows_any c hr callsN_verb (by rw [callsN_len bl (i + 1) hlt]; omega)
            have hW2 := fun W lv (hr : CallRow W lv (callsN (bl.take (i + 1)))) => boundWindows_any D hr callsN_verb (by rw [callsN_len bl (i + 1) hlt]; omega)
            have hl1 := callsN_len bl (i + 1) hlt
            have HHS := Lib.hid (moreS_of hmj hcj)
            have HHZ := Lib.hid (rfl : windowsZ c ((callsN (bl.take (i + 1))).map (·.cverb)) = windowsZ c ((callsN (bl.take (i + 1))).map (·.cverb)))
            obtain ⟨N, hN⟩ : ∃ N, N = windowsZ c ((callsN (bl.take (i + 1))).map (·.cverb)) := ⟨_, rfl⟩
            rw [← hN] at hZN hND hW1
            have HN := Lib.hid hN
            clear hN HHZ
            generalize windowsZ D ((callsN (bl.take (i + 1))).map (·.cverb)) = N2 at *
            have HW1 := Lib.hid hW1
            have HW2 := Lib.hid hW2
            clear hW1 hW2
            generalize stepsZ c v = S1 at *
            generalize stepsZ D v = S2 at *
            have f1 : decide (S2 < S1) = false := by rw [decide_eq_false_iff_not]; omega
            have f2 : decide (S1 < 4) = false := by rw [decide_eq_false_iff_not]; omega
            have f3 : decide (N < Z + 4) = false := by rw [decide_eq_false_iff_not]; omega
            have f4 : decide (N2 < N) = false := by rw [decide_eq_false_iff_not]; omega
            have hZ2 : Z ≤ 200000000 := by omega
            clear hcj hmj hs1 hx hv hZN hND k1 k2 k3 HZ
            generalize hC2 : callsN (bl.take (i + 1)) = C2 at *
            have HC2 := Lib.hid hC2
            clear hC2
            generalize callsN (bl.take i) = C at *
            subst hml
            go_wp2_with fail
            refine wp_region_held_drew (S := fun W => W.cell? ⟨w.heap.size, 0, none⟩ = some (.int .i64 c.bits) ∧ W.cell? ⟨w.heap.size, 1, none⟩ = some (.int .i64 c.budget) ∧ W.cell? ⟨w.heap.size, 2, none⟩ = some (.int .i64 c.tries) ∧ W.cell? ⟨w.heap.size, 3, none⟩ = some (.int .i64 c.quantum) ∧ W.cell? ⟨w.heap.size, 4, none⟩ = some (.int .i64 c.way) ∧ W.cell? ⟨pd, 0, none⟩ = some (.int .i64 D.bits) ∧ W.cell? ⟨pd, 1, none⟩ = some (.int .i64 D.budget) ∧ W.cell? ⟨pd, 2, none⟩ = some (.int .i64 D.tries) ∧ W.cell? ⟨pd, 3, none⟩ = some (.int .i64 D.quantum) ∧ W.cell? ⟨pd, 4, none⟩ = some (.int .i64 D.way) ∧ MoreJ w c D pd W ∧ CallJ w W (.slice va C.length vc) C) (by kernel_rfl) (more_keep (w := w) (c := c) (D := D) (pd := pd) (Below.refl _ _).drew HHS.out) (fun hHeld => ?_)
            refine wpAnyH_take (i := 0) (v := ?_) rfl (by kernel_rfl) (by kernel_rfl) (by kernel_rfl) (fun _ _ _ h => h) (Or.inl ⟨by rfl, ?_⟩) (by assumption) ?_
            rotate_left 1
            · ((intro w hSw; (try dsimp only at hSw); go_simp) <;> with_reducible rfl)
            try simp only [Act.put, List.setIfInBounds_toArray, List.set_cons_zero, List.set_cons_succ, List.getElem_toArray, List.getElem_cons_zero]
            refine wpAnyH_take (i := 1) (v := ?_) rfl (by kernel_rfl) (by kernel_rfl) (by kernel_rfl) (fun _ _ _ h => h) (Or.inl ⟨by rfl, ?_⟩) (by assumption) ?_
            rotate_left 1
            · ((intro w hSw; (try dsimp only at hSw); go_simp) <;> with_reducible rfl)
            try simp only [Act.put, List.setIfInBounds_toArray, List.set_cons_zero, List.set_cons_succ, List.getElem_toArray, List.getElem_cons_zero, List.getElem_cons_succ]
            refine wpAnyH_take (i := 3) (v := ?_) rfl (by kernel_rfl) (by kernel_rfl) (by kernel_rfl) (fun _ _ _ h => h) (Or.inl ⟨by rfl, ?_⟩) (by assumption) ?_
            rotate_left 1
            · ((intro w hSw; (try dsimp only at hSw); go_simp) <;> with_reducible rfl)
            try simp only [Act.put, List.setIfInBounds_toArray, List.set_cons_zero, List.set_cons_succ, List.getElem_toArray, List.getElem_cons_zero, List.getElem_cons_succ]
            refine wpAnyH_take (i := 4) (v := ?_) rfl (by kernel_rfl) (by kernel_rfl) (by kernel_rfl) (fun _ _ _ h => h) (Or.inl ⟨by rfl, ?_⟩) (by assumption) ?_
            rotate_left 1
            · ((intro w hSw; (try dsimp only at hSw); go_simp) <;> with_reducible rfl)
            try simp only [Act.put, List.setIfInBounds_toArray, List.set_cons_zero, List.set_cons_succ, List.getElem_toArray, List.getElem_cons_zero, List.getElem_cons_succ]
            refine wpAnyH_ready (rs := [2]) (by kernel_rfl) (by simp) ?_
            refine AllReadyH.cons rfl (fun K hK => ?_) AllReadyH.nil
            go_split_ands
            go_simp
            go_at_call 22
            refine (HSD.out _).mono ?_
            rintro e w9 ⟨rfl, hb9⟩
            refine hK.out _ _ (more_keep (w := w) (c := c) (D := D) (pd := pd) hb9 ⟨by assumption, by assumption, by assumption, by assumption, by assumption, by assumption, by assumption, by assumption, by assumption, by assumption, by assumption, by assumption⟩) (fun hHeld2 => ?_)
            clear hK K
            try simp only [Act.put, List.setIfInBounds_toArray, List.set_cons_zero, List.set_cons_succ, List.getElem_toArray, List.getElem_cons_zero, List.getElem_cons_succ]
            refine wpAnyH_ready (rs := [5]) (by kernel_rfl) (by simp) ?_
            refine AllReadyH.cons rfl (fun K hK => ?_) AllReadyH.nil
            go_split_ands
            go_simp
            go_at_call 22
            refine (HSC.out _).mono ?_
            rintro e w9 ⟨rfl, hb9⟩
            refine hK.out _ _ (more_keep (w := w) (c := c) (D := D) (pd := pd) hb9 ⟨by assumption, by assumption, by assumption, by assumption, by assumption, by assumption, by assumption, by assumption, by assumption, by assumption, by assumption, by assumption⟩) (fun hHeld2 => ?_)
            clear hK K
            try simp only [Act.put, List.setIfInBounds_toArray, List.set_cons_zero, List.set_cons_succ, List.getElem_toArray, List.getElem_cons_zero, List.getElem_cons_succ]
            refine wpAnyH_take (i := 6) (v := ?_) rfl (by kernel_rfl) (by kernel_rfl) (by kernel_rfl) (fun _ _ _ h => h) (Or.inl ⟨by rfl, ?_⟩) (by assumption) ?_
            rotate_left 1
            · ((intro w hSw; (try dsimp only at hSw); go_simp) <;> with_reducible rfl)
            try simp only [Act.put, List.setIfInBounds_toArray, List.set_cons_zero, List.set_cons_succ, List.getElem_toArray, List.getElem_cons_zero, List.getElem_cons_succ]
            refine wpAnyH_take (i := 7) (v := ?_) rfl (by kernel_rfl) (by kernel_rfl) (by kernel_rfl) (fun _ _ _ h => h) (Or.inl ⟨by rfl, ?_⟩) (by assumption) ?_
            rotate_left 1
            · ((intro w hSw; (try dsimp only at hSw); go_simp) <;> with_reducible rfl)
            try simp only [Act.put, List.setIfInBounds_toArray, List.set_cons_zero, List.set_cons_succ, List.getElem_toArray, List.getElem_cons_zero, List.getElem_cons_succ]
            refine wpAnyH_take (i := 8) (v := ?_) rfl (by kernel_rfl) (by kernel_rfl) (by kernel_rfl) (fun _ _ _ h => h) (Or.inl ⟨by rfl, ?_⟩) (by assumption) ?_
            rotate_left 1
            · ((intro w hSw; (try dsimp only at hSw); go_simp) <;> with_reducible rfl)
            try simp only [Act.put, List.setIfInBounds_toArray, List.set_cons_zero, List.set_cons_succ, List.getElem_toArray, List.getElem_cons_zero, List.getElem_cons_succ]
            refine wpAnyH_take (i := 9) (v := ?_) rfl (by kernel_rfl) (by kernel_rfl) (by kernel_rfl) (fun _ _ _ h => h) (Or.inl ⟨by rfl, ?_⟩) (by assumption) ?_
            rotate_left 1
            · ((intro w hSw; (try dsimp only at hSw); go_simp) <;> with_reducible rfl)
            try simp only [Act.put, List.setIfInBounds_toArray, List.set_cons_zero, List.set_cons_succ, List.getElem_toArray, List.getElem_cons_zero, List.getElem_cons_succ]
            refine wpAnyH_ready (rs := [10]) (by kernel_rfl) (by simp) ?_
            refine AllReadyH.cons rfl (fun K hK => ?_) AllReadyH.nil
            go_split_ands
            go_simp
            go_at_call 22
            refine (HSC.out _).mono ?_
            rintro e w9 ⟨rfl, hb9⟩
            refine hK.out _ _ (more_keep (w := w) (c := c) (D := D) (pd := pd) hb9 ⟨by assumption, by assumption, by assumption, by assumption, by assumption, by assumption, by assumption, by assumption, by assumption, by assumption, by assumption, by assumption⟩) (fun hHeld2 => ?_)
            clear hK K
            try simp only [Act.put, List.setIfInBounds_toArray, List.set_cons_zero, List.set_cons_succ, List.getElem_toArray, List.getElem_cons_zero, List.getElem_cons_succ]
            refine wpAnyH_take (i := 11) (v := ?_) rfl (by kernel_rfl) (by kernel_rfl) (by kernel_rfl) (fun _ _ _ h => h) (Or.inl ⟨by rfl, ?_⟩) (by assumption) ?_
            rotate_left 1
            · ((intro w hSw; (try dsimp only at hSw); go_simp) <;> with_reducible rfl)
            try simp only [Act.put, List.setIfInBounds_toArray, List.set_cons_zero, List.set_cons_succ, List.getElem_toArray, List.getElem_cons_zero, List.getElem_cons_succ]
            refine wpAnyH_take (i := 12) (v := ?_) rfl (by kernel_rfl) (by kernel_rfl) (by kernel_rfl) (fun _ _ _ h => h) (Or.inl ⟨by rfl, ?_⟩) (by assumption) ?_
            rotate_left 1
            · ((intro w hSw; (try dsimp only at hSw); go_simp) <;> with_reducible rfl)
            try simp only [Act.put, List.setIfInBounds_toArray, List.set_cons_zero, List.set_cons_succ, List.getElem_toArray, List.getElem_cons_zero, List.getElem_cons_succ]
            refine wpAnyH_done (by kernel_rfl) ?_ _
            obtain ⟨y0, y1, y2, y3, y4, z0', z1', z2', z3', z4', hmj, hcj⟩ := hHeld2
            have HMJ2 := Lib.hid hmj
            have HCJ2 := Lib.hid hcj
            have hlow := hcj.low.size
            clear hmj hcj HSC HSD f1 f2 HCJ HMJ HHS
            clear y0 y1 y2 y3 y4 z0' z1' z2' z3' z4'
            obtain ⟨wq, rfl⟩ : ∃ W : World, W = w9 := ⟨_, rfl⟩
            go_upto_region 23 with (first | (at_builtin; refine wpList_append_own_at _ (by rfl) _ _ 58 (by rfl) w.heap.size 37 i0 (.agg callZero) 7 72 Tryd.underlying58 Hi.out Hz.out.1 Hz.out.2.1 Hz.out.2.2 rfl (by omega) _ _ _ (by rfl) (HCJ2.out.row.alloc _) ⟨wq.heap.size, 0, none⟩ 1 1 (callCells (callN v)) (by rfl) rfl (World.news_of_block (cs := (callCells (callN v)).toArray) (by rw [heap_at, if_pos (by simp)]; rfl)) (by simp [Value.oneCell']) (by unfold maxLen; omega) (by omega) (by simp; omega) ?_; intro ov' w2 hown2 hg2 _ hat2) | fail)
            obtain ⟨hcj2, hch2, hno⟩ := HCJ2.out.pushed (c := callN v) hown2 hg2
            have hsj2 := HMJ2.out.kept hch2 (fun k hk => ⟨(HCJ2.out.row.lt k hk).1, hno k hk⟩)
            rw [← HTK.out] at hcj2
            have hs2 := moreS_of hsj2 hcj2
            have hw1 := HW1.out _ _ (Row.of_owns hcj2.row)
            have HHS2 := Lib.hid hs2
            have HHW := Lib.hid hw1
            obtain ⟨y0, y1, y2, y3, y4, -⟩ := hs2
            clear hown2 hg2 hat2 hcj2 hch2 hno hsj2 hw1 HW1 HCJ2 HMJ2 hlow
            go_wp2_with fail
            refine HHW.out.mono ?_
            rintro e w3 ⟨rfl, hb3⟩
            have hs3 := more_keep hb3 HHS2.out
            have HHS3 := Lib.hid hs3
            obtain ⟨y0, y1, y2, y3, y4, z0', z1', z2', z3', z4', -, hcj3⟩ := hs3
            have HHW2 := Lib.hid (HW2.out _ _ (Row.of_owns hcj3.row))
            clear hb3 HHW HHS2 HW2 hcj3
            go_wp2_with fail
            refine HHW2.out.mono ?_
            rintro e w4 ⟨rfl, hb4⟩
            have HHS4 := Lib.hid (more_keep hb4 HHS3.out)
            clear hb4 HHW2 HHS3 y0 y1 y2 y3 y4 z0' z1' z2' z3' z4'
            have HMJ3 := Lib.hid HHS4.out.2.2.2.2.2.2.2.2.2.2.1
            have HCJ3 := Lib.hid HHS4.out.2.2.2.2.2.2.2.2.2.2.2
            go_wp2_with fail
            go_roundw
            case rel => exact ⟨C.length + 1, ov', N, by go_num, rfl, rfl, by omega, by rw [HC2.out]; exact HCJ3.out, HMJ3.out, by rw [HC2.out]; exact HN⟩
            case measure => simp [intOf]; omega
          · have HLW := Lib.hid hcj.low
            clear hcj hmj HCJ HMJ HZ
            go_wp2_with fail
            refine (HLV.out _ HLW.out).mono ?_
            rintro e w' ⟨rfl, hb⟩
            have HB := Lib.hid hb
            clear hb
            go_wp2_with fail
            go_ret
            exact ⟨rfl, HLW.out.trans (HB.out.mono HLW.out.size)⟩
end Go.Proofs.YtahpjhnbjkjkiaaDoor
