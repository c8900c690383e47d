/- The law BoundsSum, walked: of whatever config all bounds are the document's. Condition: the library's variables MaxLen and ErrRange are as they are laid. -/
import Derived.Test.YtahpjhnbjkjkiaaGreatDoorLowM
import Derived.Test.YtahpjhnbjkjkiaaGreatDoorBoundRef
import Derived.Test.YtahpjhnbjkjkiaaGreatDoorLowI
namespace Go.Proofs.YtahpjhnbjkjkiaaGreatDoor
open Go.RowKit Go.ChangeMaps Go.MapKept

/-- A call of a verb, and of nothing else. -/
abbrev callV (x : UInt8) : Cmd := ⟨0, [], x.toNat, [], [], 0, 0, 0, 0, 0, false⟩
/-- Both configs lie where they lie. -/
structure SumJ (w : World) (c : CfgD) (pd : Nat) (W : World) : Prop where
  box : W.heap[w.heap.size]? = some (.cells (cfgCells c).toArray 49 (0, 0))
  dbx : W.heap[pd]? = some (.cells (cfgCells c).toArray 50 (0, 0))
  low : Below w.heap.size w W
theorem SumJ.kept {w : World} {c : CfgD} {pd : Nat} {W W' : World} (h : SumJ w c pd W) {M : Nat → Prop} (hc : Chg M W W') (hM : ∀ k, M k → w.heap.size ≤ k ∧ ∀ t, t ≠ 42 → ¬ Tag W k t) : SumJ w c pd W' :=
  ⟨hc.obj h.box (fun e => (hM _ e).2 _ (by decide) (Tag.of h.box)), hc.obj h.dbx (fun e => (hM _ e).2 _ (by decide) (Tag.of h.dbx)), h.low.trans (hc.below (fun k hk => ⟨Nat.lt_of_lt_of_le hk h.low.size, fun e => by have := (hM k e).1; omega⟩))⟩
theorem SumJ.below {w : World} {c : CfgD} {pd : Nat} {W W' : World} (h : SumJ w c pd W) (hb : Below W.heap.size W W') : SumJ w c pd W' := h.kept (M := fun _ => False) (Chg.of_below hb) (fun _ e => e.elim)
theorem map_take {bl : List UInt8} {i : Nat} {x : UInt8} (h : bl[i]? = some x) : (bl.take (i + 1)).map callV = (bl.take i).map callV ++ [callV x] := by
  obtain ⟨hi, he⟩ := List.getElem?_eq_some_iff.1 h
  rw [List.take_succ_eq_append_getElem hi, he]
  simp
def SumS (w : World) (c : CfgD) (pd : Nat) (la : Option Addr) (lc : Nat) (C : List Cmd) (W : World) : Prop := W.cell? ⟨w.heap.size, 0, none⟩ = some (.int .i64 c.bits) ∧ W.cell? ⟨w.heap.size, 1, none⟩ = some (.int .i64 c.budget) ∧ W.cell? ⟨w.heap.size, 2, none⟩ = some (.int .i64 c.tries) ∧ W.cell? ⟨w.heap.size, 3, none⟩ = some (.int .i64 c.quantum) ∧ W.cell? ⟨w.heap.size, 4, none⟩ = some (.int .i64 c.way) ∧ W.cell? ⟨pd, 0, none⟩ = some (.int .i64 c.bits) ∧ W.cell? ⟨pd, 1, none⟩ = some (.int .i64 c.budget) ∧ W.cell? ⟨pd, 2, none⟩ = some (.int .i64 c.tries) ∧ W.cell? ⟨pd, 3, none⟩ = some (.int .i64 c.quantum) ∧ W.cell? ⟨pd, 4, none⟩ = some (.int .i64 c.way) ∧ CallRow W (.slice la C.length lc) C ∧ Below w.heap.size w W
theorem sum_keep {w : World} {c : CfgD} {pd : Nat} {la : Option Addr} {lc : Nat} {C : List Cmd} {W W' : World} (hb : Below W.heap.size W W') (h : SumS w c pd la lc C W) : SumS w c pd la lc C W' := by
  have hk := fun (p j : Nat) (x : Value) (hx : W.cell? ⟨p, j, none⟩ = some x) => (hb.cell (p := ⟨p, j, none⟩) (cell_lt hx)).trans hx
  obtain ⟨h0, h1, h2, h3, h4, h5, h6, h7, h8, h9, hr, hl⟩ := h
  exact ⟨hk _ _ _ h0, hk _ _ _ h1, hk _ _ _ h2, hk _ _ _ h3, hk _ _ _ h4, hk _ _ _ h5, hk _ _ _ h6, hk _ _ _ h7, hk _ _ _ h8, hk _ _ _ h9, hr.below hb, hl.trans (hb.mono hl.size)⟩
theorem sumS_of {w : World} {c : CfgD} {pd : Nat} {la : Option Addr} {lc : Nat} {C : List Cmd} {W : World} (h : SumJ w c pd W) (hr : CallRow W (.slice la C.length lc) C) : SumS w c pd la lc C W :=
  ⟨(block_cell h.box 0).1, (block_cell h.box 1).1, (block_cell h.box 2).1, (block_cell h.box 3).1, (block_cell h.box 4).1, (block_cell h.dbx 0).1, (block_cell h.dbx 1).1, (block_cell h.dbx 2).1, (block_cell h.dbx 3).1, (block_cell h.dbx 4).1, hr, h.low⟩
set_option maxRecDepth 100000 in
set_option maxHeartbeats 16000000 in
theorem boundsSum_walk {w : World} {c : CfgD} {v : Nat} {bv : Value} {bl : List UInt8} (hv : v < 256) (hb : BRow w bv bl) (hL : HasLen w) (hE : HasErr w) :
    Calls Tryz.prog 5 #[cfgV c, .int .u8 (v : Int), bv] w fun e w' => e = .returned (.bool true) ∧ Below w.heap.size w w' := by
  obtain ⟨ba, bc, rfl⟩ := hb.len
  obtain ⟨i0, hi0, hz0, hz1, hz2⟩ := info_parts infoCall
  have Hi := Lib.hid hi0
  have Hz := Lib.hid (And.intro hz0 (And.intro hz1 hz2))
  have hlv : ∀ W, Below w.heap.size w W → Calls Tryz.prog 19 #[] W fun e w' => e = .returned (.bool true) ∧ Below W.heap.size W w' := fun W hb => lives40 W (hL.below hb) (hE.below hb)
  have HLV := Lib.hid hlv
  have HBR := Lib.hid hb
  have hbm := hb.cap
  unfold maxLen at hbm
  have HB0 := Lib.hid (show Below w.heap.size w (w.alloc (.cells (cfgCells c).toArray 49)) from (Below.refl _ _).alloc (Nat.le_refl _) _)
  clear hlv hb hL hE hi0 hz0 hz1 hz2
  by_cases h1 : 200 < bl.length
  · have d1 : decide ((200 : Int) < (bl.length : Int)) = true := by rw [decide_eq_true_eq]; omega
    go_enter Tryz.func5, Tryz.ntmps5
    go_wp2_with fail
    refine (HLV.out _ HB0.out).mono ?_
    rintro e w' ⟨rfl, hb⟩
    have HB := Lib.hid hb
    clear hb
    go_wp2_with fail
    go_ret
    exact ⟨rfl, HB0.out.trans (HB.out.mono HB0.out.size)⟩
  · have d1 : decide ((200 : Int) < (bl.length : Int)) = false := by rw [decide_eq_false_iff_not]; omega
    have HOT := Lib.hid (other10_any c (w.alloc (.cells (cfgCells c).toArray 49)))
    go_enter Tryz.func5, Tryz.ntmps5
    go_wp2_with fail
    refine HOT.out.mono ?_
    rintro e w1 ⟨rfl, hb1⟩
    obtain ⟨pd, hpd⟩ : ∃ pd, pd = w1.heap.size := ⟨_, rfl⟩
    have hj1 : SumJ w c pd (w1.alloc (.cells (cfgCells c).toArray 50)) := by
      have hs := hb1.size
      simp at hs
      refine ⟨?_, ?_, (HB0.out.trans (hb1.mono HB0.out.size)).alloc (HB0.out.trans (hb1.mono HB0.out.size)).size _⟩
      · rw [heap_at, if_neg (by omega), hb1.block _ (by simp)]; exact heap_alloc_new _ _
      · rw [heap_at, if_pos hpd]
    have HJ1 := Lib.hid hj1
    have hcj1 : CallJ w (w1.alloc (.cells (cfgCells c).toArray 50)) (.slice none 0 0) [] := ⟨World.ownsRow_nil _ _ _ _, hj1.low⟩
    have HC1 := Lib.hid hcj1
    have HPD := Lib.hid hpd
    clear hb1 hj1 hcj1 HOT HB0 hpd
    go_wp2_with fail
    rw [← HPD.out]
    go_loopw [8, 9] (fun s8 s9 wr => ∃ (i : Nat) (ov : Value), s9 = .int .i64 (i : Int) ∧ s8 = ov ∧ i ≤ bl.length ∧ CallJ w wr ov ((bl.take i).map callV) ∧ SumJ w c pd wr) (fun _ s9 _ => bl.length - (intOf s9).toNat)
    case atStart => exact ⟨0, _, rfl, rfl, Nat.zero_le _, by rw [List.take_zero]; exact HC1.out, HJ1.out⟩
    case round =>
      obtain ⟨i, ov, rfl, rfl, hi, hcj, hsj⟩ := hrel
      clear HC1 HJ1 HPD w1
      obtain ⟨va, vc, rfl⟩ := row_slice hcj.row
      have HCJ := Lib.hid hcj
      have HSJ := Lib.hid hsj
      have hlow := hcj.low.size
      by_cases hlt : i < bl.length
      · obtain ⟨x, hx⟩ : ∃ x, bl[i]? = some x := ⟨_, List.getElem?_eq_getElem hlt⟩
        obtain ⟨g, o, cc, hs1, -, hcx⟩ := (HBR.out.below hcj.low).at hx
        obtain ⟨rfl, -, -⟩ := slice_inj hs1
        have ix : ∀ W : World, (Instr.indexAt 23 (.slice (some ⟨g, o, none⟩) bl.length bc) (.int .i64 (i : Int))).run Tryz.prog W = .ok (.pointer (some ⟨g, o + i, none⟩)) W := fun W => idx_byte30 (c := bc) rfl hlt W
        have HTK := Lib.hid (map_take hx)
        have hml : ((bl.take i).map callV).length ≤ 200 := by rw [List.length_map, List.length_take]; omega
        clear hcj hsj hs1 hx
        generalize (bl.take i).map callV = C at *
        go_wp2_with (first | (at_builtin; refine wpList_append_own_at _ (by rfl) _ _ 52 (by rfl) w.heap.size 42 i0 (.agg callZero) 7 72 Tryz.underlying52 Hi.out Hz.out.1 Hz.out.2.1 Hz.out.2.2 rfl (by omega) _ _ _ (by rfl) (HCJ.out.row.alloc _) ⟨wr.heap.size, 0, none⟩ 1 1 (callCells (callV x)) (by rfl) rfl (World.news_of_block (cs := (callCells (callV x)).toArray) (by rw [heap_at, if_pos (by simp)]; rfl)) (by simp [Value.oneCell']) (by unfold maxLen; omega) (by omega) (by simp; omega) ?_; intro ov' w2 hown2 hg2 _ hat2) | fail)
        obtain ⟨hcj2, hch2, hno⟩ := HCJ.out.pushed (c := callV x) hown2 hg2
        have hsj2 := HSJ.out.kept hch2 (fun k hk => ⟨(HCJ.out.row.lt k hk).1, hno k hk⟩)
        go_roundw
        case rel => exact ⟨i + 1, _, by go_num, rfl, by omega, by rw [HTK.out]; exact hcj2, hsj2⟩
        case measure => simp [intOf]; omega
      · obtain rfl : i = bl.length := by omega
        have hC : ((bl.take bl.length).map callV).length = bl.length := by rw [List.take_of_length_le (Nat.le_refl _), List.length_map]
        have hget : ∀ (j : Nat) (x : UInt8), bl[j]? = some x → ((bl.take bl.length).map callV)[j]? = some (callV x) := fun j x hx => by rw [List.take_of_length_le (Nat.le_refl _), List.getElem?_map, hx]; rfl
        have hcv : ∀ x ∈ (bl.take bl.length).map callV, x.cverb < 256 := fun x hx => by
          obtain ⟨y, _, rfl⟩ := List.mem_map.1 hx
          exact y.toNat_lt
        have hrow : CallRow wr (.slice va ((bl.take bl.length).map callV).length vc) ((bl.take bl.length).map callV) := Row.of_owns hcj.row
        generalize (bl.take bl.length).map callV = C at *
        have hw1 := fun W (hr : CallRow W (.slice va C.length vc) C) => boundWindows_any c hr hcv (by omega)
        have hw2 := fun W (hr : CallRow W (.slice va C.length vc) C) => refWindows_any c hr hcv (by omega)
        have HW1 := Lib.hid hw1
        have HW2 := Lib.hid hw2
        have HROW := Lib.hid hrow
        have HGET := Lib.hid hget
        have hs0 := sumS_of hsj hrow
        obtain ⟨y0, y1, y2, y3, y4, -⟩ := hs0
        have HCL := Lib.hid hC
        have hC1 : C.length ≤ 200 := by omega
        clear hcj hsj hrow hget hcv hw1 hw2 HCJ hC
        generalize windowsZ c (C.map (·.cverb)) = N at *
        go_wp2_with fail
        refine (HW1.out _ HROW.out).mono ?_
        rintro e w3 ⟨rfl, hb3⟩
        have HJ3 := Lib.hid (HSJ.out.below hb3)
        have HR3 := Lib.hid (HROW.out.below hb3)
        clear hb3 y0 y1 y2 y3 y4 HW1 HROW HSJ
        go_wp2_with fail
        go_loopw [11] (fun s11 wr => ∃ j : Nat, s11 = .int .i64 (j : Int) ∧ j ≤ C.length ∧ SumJ w c pd wr ∧ CallRow wr (.slice va C.length vc) C) (fun s11 _ => C.length - (intOf s11).toNat)
        case atStart => exact ⟨0, rfl, Nat.zero_le _, HJ3.out, HR3.out⟩
        case round =>
          obtain ⟨j, rfl, hj, hsj, hrow⟩ := hrel
          clear HJ3 HR3
          by_cases hlt2 : j < C.length
          · obtain ⟨x, hx⟩ : ∃ x, bl[j]? = some x := ⟨_, List.getElem?_eq_getElem (by have := HCL.out; omega)⟩
            obtain ⟨g, o, cc, hs1, -, hcx⟩ := (HBR.out.below hsj.low).at hx
            obtain ⟨rfl, -, -⟩ := slice_inj hs1
            have ix : ∀ W : World, (Instr.indexAt 23 (.slice (some ⟨g, o, none⟩) bl.length bc) (.int .i64 (j : Int))).run Tryz.prog W = .ok (.pointer (some ⟨g, o + j, none⟩)) W := fun W => idx_byte30 (c := bc) rfl (by have := HCL.out; omega) W
            obtain ⟨g2, o2, c2, hs2, _, hcell⟩ := callRow_at hrow (HGET.out j x hx)
            obtain ⟨rfl, -, -⟩ := slice_inj hs2
            obtain ⟨b, hbb⟩ : ∃ b, b = o2 + j * 7 := ⟨_, rfl⟩
            have ix2 : ∀ W : World, (Instr.indexAt 52 (.slice (some ⟨g2, o2, none⟩) C.length vc) (.int .i64 (j : Int))).run Tryz.prog W = .ok (.pointer (some ⟨g2, b, none⟩)) W := fun W => by rw [hbb]; exact idx_call rfl hlt2 W
            have z0 : wr.cell? ⟨g2, b, none⟩ = some (.int .u8 (x.toNat : Int)) := by
              have h := (hcell 0 _ rfl).1
              rwa [show o2 + (j * 7 + 0) = b from by omega] at h
            have z1 : wr.cell? ⟨g2, b + 1, none⟩ = some (sv []) := by
              have h := (hcell 1 _ rfl).1
              rwa [show o2 + (j * 7 + 1) = b + 1 from by omega] at h
            have z2 : wr.cell? ⟨g2, b + 2, none⟩ = some (sv []) := by
              have h := (hcell 2 _ rfl).1
              rwa [show o2 + (j * 7 + 2) = b + 2 from by omega] at h
            have z3 : wr.cell? ⟨g2, b + 3, none⟩ = some (.int .u32 0) := by
              have h := (hcell 3 _ rfl).1
              rwa [show o2 + (j * 7 + 3) = b + 3 from by omega] at h
            have z4 : wr.cell? ⟨g2, b + 4, none⟩ = some (.int .i64 0) := by
              have h := (hcell 4 _ rfl).1
              rwa [show o2 + (j * 7 + 4) = b + 4 from by omega] at h
            have z5 : wr.cell? ⟨g2, b + 5, none⟩ = some (.int .u64 0) := by
              have h := (hcell 5 _ rfl).1
              rwa [show o2 + (j * 7 + 5) = b + 5 from by omega] at h
            have z6 : wr.cell? ⟨g2, b + 6, none⟩ = some (.int .u64 0) := by
              have h := (hcell 6 _ rfl).1
              rwa [show o2 + (j * 7 + 6) = b + 6 from by omega] at h
            have HSJ2 := Lib.hid hsj
            have HRW2 := Lib.hid hrow
            clear hsj hrow hs1 hs2 hcell hx hbb
            go_wp2_with fail
            go_quiet (fail)
            go_wp2_with fail
            go_roundw
            case rel => exact ⟨j + 1, by go_num, by omega, HSJ2.out.kept (M := fun _ => False) ((Chg.refl _ _).drewN _) (fun _ e => e.elim), HRW2.out.kept (M := fun _ => False) ((Chg.refl _ _).drewN _) (fun _ _ e => e)⟩
            case measure => simp [intOf]; omega
          · obtain rfl : j = C.length := by omega
            have HRM := Lib.hid (fun W => boundRoom_any c W)
            have HTN := Lib.hid (fun W => boundTurn_any c W)
            have HEV := Lib.hid (fun W => boundEvict_any c W)
            have HSP := Lib.hid (fun W => boundSteps_any c v hv W)
            have HRM2 := Lib.hid (fun W => refRoom_any c W)
            have HTN2 := Lib.hid (fun W => refTurn_any c W)
            have HEV2 := Lib.hid (fun W => refEvict_any c W)
            have HSP2 := Lib.hid (fun W => refSteps_any c v (v : Int) rfl hv W)
            generalize roomZ c = R at *
            generalize turnZ c = T at *
            generalize evictZ c = E at *
            generalize stepsZ c v = Z at *
            have HS0 := Lib.hid (sumS_of hsj hrow)
            clear hsj hrow
            go_wp2_with fail
            refine wp_region_held_drew (S := fun W => W.cell? ⟨w.heap.size, 0, none⟩ = some (.int .i64 c.bits) ∧ W.cell? ⟨w.heap.size, 1, none⟩ = some (.int .i64 c.budget) ∧ W.cell? ⟨w.heap.size, 2, none⟩ = some (.int .i64 c.tries) ∧ W.cell? ⟨w.heap.size, 3, none⟩ = some (.int .i64 c.quantum) ∧ W.cell? ⟨w.heap.size, 4, none⟩ = some (.int .i64 c.way) ∧ W.cell? ⟨pd, 0, none⟩ = some (.int .i64 c.bits) ∧ W.cell? ⟨pd, 1, none⟩ = some (.int .i64 c.budget) ∧ W.cell? ⟨pd, 2, none⟩ = some (.int .i64 c.tries) ∧ W.cell? ⟨pd, 3, none⟩ = some (.int .i64 c.quantum) ∧ W.cell? ⟨pd, 4, none⟩ = some (.int .i64 c.way) ∧ CallRow W (.slice va C.length vc) C ∧ Below w.heap.size w W) (by kernel_rfl) (sum_keep (w := w) (c := c) (pd := pd) (Below.refl _ _).drew HS0.out) (fun hHeld => ?_)
            refine wpAnyH_take (i := 0) (v := ?_) rfl (by kernel_rfl) (by kernel_rfl) (by kernel_rfl) (fun _ _ _ h => h) (Or.inl ⟨by rfl, ?_⟩) (by assumption) ?_
            rotate_left 1
            · ((intro w hSw; (try dsimp only at hSw); go_simp) <;> with_reducible rfl)
            try simp only [Act.put, List.setIfInBounds_toArray, List.set_cons_zero, List.set_cons_succ, List.getElem_toArray, List.getElem_cons_zero]
            refine wpAnyH_take (i := 2) (v := ?_) rfl (by kernel_rfl) (by kernel_rfl) (by kernel_rfl) (fun _ _ _ h => h) (Or.inl ⟨by rfl, ?_⟩) (by assumption) ?_
            rotate_left 1
            · ((intro w hSw; (try dsimp only at hSw); go_simp) <;> with_reducible rfl)
            try simp only [Act.put, List.setIfInBounds_toArray, List.set_cons_zero, List.set_cons_succ, List.getElem_toArray, List.getElem_cons_zero, List.getElem_cons_succ]
            refine wpAnyH_ready (rs := [1]) (by kernel_rfl) (by simp) ?_
            refine AllReadyH.cons rfl (fun K hK => ?_) AllReadyH.nil
            go_split_ands
            go_simp
            go_at_call 22
            refine (HRM.out _).mono ?_
            rintro e w9 ⟨rfl, hb9⟩
            refine hK.out _ _ (sum_keep (w := w) (c := c) (pd := pd) hb9 ⟨by assumption, by assumption, by assumption, by assumption, by assumption, by assumption, by assumption, by assumption, by assumption, by assumption, by assumption, by assumption⟩) (fun hHeld2 => ?_)
            clear hK K
            try simp only [Act.put, List.setIfInBounds_toArray, List.set_cons_zero, List.set_cons_succ, List.getElem_toArray, List.getElem_cons_zero, List.getElem_cons_succ]
            refine wpAnyH_ready (rs := [3]) (by kernel_rfl) (by simp) ?_
            refine AllReadyH.cons rfl (fun K hK => ?_) AllReadyH.nil
            go_split_ands
            go_simp
            go_at_call 23
            refine (HRM2.out _).mono ?_
            rintro e w9 ⟨rfl, hb9⟩
            refine hK.out _ _ (sum_keep (w := w) (c := c) (pd := pd) hb9 ⟨by assumption, by assumption, by assumption, by assumption, by assumption, by assumption, by assumption, by assumption, by assumption, by assumption, by assumption, by assumption⟩) (fun hHeld2 => ?_)
            clear hK K
            try simp only [Act.put, List.setIfInBounds_toArray, List.set_cons_zero, List.set_cons_succ, List.getElem_toArray, List.getElem_cons_zero, List.getElem_cons_succ]
            refine wpAnyH_take (i := 4) (v := ?_) rfl (by kernel_rfl) (by kernel_rfl) (by kernel_rfl) (fun _ _ _ h => h) (Or.inl ⟨by rfl, ?_⟩) (by assumption) ?_
            rotate_left 1
            · ((intro w hSw; (try dsimp only at hSw); go_simp) <;> with_reducible rfl)
            try simp only [Act.put, List.setIfInBounds_toArray, List.set_cons_zero, List.set_cons_succ, List.getElem_toArray, List.getElem_cons_zero, List.getElem_cons_succ]
            refine wpAnyH_take (i := 5) (v := ?_) rfl (by kernel_rfl) (by kernel_rfl) (by kernel_rfl) (fun _ _ _ h => h) (Or.inl ⟨by rfl, ?_⟩) (by assumption) ?_
            rotate_left 1
            · ((intro w hSw; (try dsimp only at hSw); go_simp) <;> with_reducible rfl)
            try simp only [Act.put, List.setIfInBounds_toArray, List.set_cons_zero, List.set_cons_succ, List.getElem_toArray, List.getElem_cons_zero, List.getElem_cons_succ]
            refine wpAnyH_take (i := 6) (v := ?_) rfl (by kernel_rfl) (by kernel_rfl) (by kernel_rfl) (fun _ _ _ h => h) (Or.inl ⟨by rfl, ?_⟩) (by assumption) ?_
            rotate_left 1
            · ((intro w hSw; (try dsimp only at hSw); go_simp) <;> with_reducible rfl)
            try simp only [Act.put, List.setIfInBounds_toArray, List.set_cons_zero, List.set_cons_succ, List.getElem_toArray, List.getElem_cons_zero, List.getElem_cons_succ]
            refine wpAnyH_take (i := 8) (v := ?_) rfl (by kernel_rfl) (by kernel_rfl) (by kernel_rfl) (fun _ _ _ h => h) (Or.inl ⟨by rfl, ?_⟩) (by assumption) ?_
            rotate_left 1
            · ((intro w hSw; (try dsimp only at hSw); go_simp) <;> with_reducible rfl)
            try simp only [Act.put, List.setIfInBounds_toArray, List.set_cons_zero, List.set_cons_succ, List.getElem_toArray, List.getElem_cons_zero, List.getElem_cons_succ]
            refine wpAnyH_ready (rs := [7]) (by kernel_rfl) (by simp) ?_
            refine AllReadyH.cons rfl (fun K hK => ?_) AllReadyH.nil
            go_split_ands
            go_simp
            go_at_call 24
            refine (HTN.out _).mono ?_
            rintro e w9 ⟨rfl, hb9⟩
            refine hK.out _ _ (sum_keep (w := w) (c := c) (pd := pd) hb9 ⟨by assumption, by assumption, by assumption, by assumption, by assumption, by assumption, by assumption, by assumption, by assumption, by assumption, by assumption, by assumption⟩) (fun hHeld2 => ?_)
            clear hK K
            try simp only [Act.put, List.setIfInBounds_toArray, List.set_cons_zero, List.set_cons_succ, List.getElem_toArray, List.getElem_cons_zero, List.getElem_cons_succ]
            refine wpAnyH_ready (rs := [9]) (by kernel_rfl) (by simp) ?_
            refine AllReadyH.cons rfl (fun K hK => ?_) AllReadyH.nil
            go_split_ands
            go_simp
            go_at_call 25
            refine (HTN2.out _).mono ?_
            rintro e w9 ⟨rfl, hb9⟩
            refine hK.out _ _ (sum_keep (w := w) (c := c) (pd := pd) hb9 ⟨by assumption, by assumption, by assumption, by assumption, by assumption, by assumption, by assumption, by assumption, by assumption, by assumption, by assumption, by assumption⟩) (fun hHeld2 => ?_)
            clear hK K
            try simp only [Act.put, List.setIfInBounds_toArray, List.set_cons_zero, List.set_cons_succ, List.getElem_toArray, List.getElem_cons_zero, List.getElem_cons_succ]
            refine wpAnyH_take (i := 10) (v := ?_) rfl (by kernel_rfl) (by kernel_rfl) (by kernel_rfl) (fun _ _ _ h => h) (Or.inl ⟨by rfl, ?_⟩) (by assumption) ?_
            rotate_left 1
            · ((intro w hSw; (try dsimp only at hSw); go_simp) <;> with_reducible rfl)
            try simp only [Act.put, List.setIfInBounds_toArray, List.set_cons_zero, List.set_cons_succ, List.getElem_toArray, List.getElem_cons_zero, List.getElem_cons_succ]
            refine wpAnyH_take (i := 11) (v := ?_) rfl (by kernel_rfl) (by kernel_rfl) (by kernel_rfl) (fun _ _ _ h => h) (Or.inl ⟨by rfl, ?_⟩) (by assumption) ?_
            rotate_left 1
            · ((intro w hSw; (try dsimp only at hSw); go_simp) <;> with_reducible rfl)
            try simp only [Act.put, List.setIfInBounds_toArray, List.set_cons_zero, List.set_cons_succ, List.getElem_toArray, List.getElem_cons_zero, List.getElem_cons_succ]
            refine wpAnyH_take (i := 12) (v := ?_) rfl (by kernel_rfl) (by kernel_rfl) (by kernel_rfl) (fun _ _ _ h => h) (Or.inl ⟨by rfl, ?_⟩) (by assumption) ?_
            rotate_left 1
            · ((intro w hSw; (try dsimp only at hSw); go_simp) <;> with_reducible rfl)
            try simp only [Act.put, List.setIfInBounds_toArray, List.set_cons_zero, List.set_cons_succ, List.getElem_toArray, List.getElem_cons_zero, List.getElem_cons_succ]
            refine wpAnyH_take (i := 13) (v := ?_) rfl (by kernel_rfl) (by kernel_rfl) (by kernel_rfl) (fun _ _ _ h => h) (Or.inl ⟨by rfl, ?_⟩) (by assumption) ?_
            rotate_left 1
            · ((intro w hSw; (try dsimp only at hSw); go_simp) <;> with_reducible rfl)
            try simp only [Act.put, List.setIfInBounds_toArray, List.set_cons_zero, List.set_cons_succ, List.getElem_toArray, List.getElem_cons_zero, List.getElem_cons_succ]
            refine wpAnyH_take (i := 15) (v := ?_) rfl (by kernel_rfl) (by kernel_rfl) (by kernel_rfl) (fun _ _ _ h => h) (Or.inl ⟨by rfl, ?_⟩) (by assumption) ?_
            rotate_left 1
            · ((intro w hSw; (try dsimp only at hSw); go_simp) <;> with_reducible rfl)
            try simp only [Act.put, List.setIfInBounds_toArray, List.set_cons_zero, List.set_cons_succ, List.getElem_toArray, List.getElem_cons_zero, List.getElem_cons_succ]
            refine wpAnyH_ready (rs := [14]) (by kernel_rfl) (by simp) ?_
            refine AllReadyH.cons rfl (fun K hK => ?_) AllReadyH.nil
            go_split_ands
            go_simp
            go_at_call 26
            refine (HEV.out _).mono ?_
            rintro e w9 ⟨rfl, hb9⟩
            refine hK.out _ _ (sum_keep (w := w) (c := c) (pd := pd) hb9 ⟨by assumption, by assumption, by assumption, by assumption, by assumption, by assumption, by assumption, by assumption, by assumption, by assumption, by assumption, by assumption⟩) (fun hHeld2 => ?_)
            clear hK K
            try simp only [Act.put, List.setIfInBounds_toArray, List.set_cons_zero, List.set_cons_succ, List.getElem_toArray, List.getElem_cons_zero, List.getElem_cons_succ]
            refine wpAnyH_ready (rs := [16]) (by kernel_rfl) (by simp) ?_
            refine AllReadyH.cons rfl (fun K hK => ?_) AllReadyH.nil
            go_split_ands
            go_simp
            go_at_call 27
            refine (HEV2.out _).mono ?_
            rintro e w9 ⟨rfl, hb9⟩
            refine hK.out _ _ (sum_keep (w := w) (c := c) (pd := pd) hb9 ⟨by assumption, by assumption, by assumption, by assumption, by assumption, by assumption, by assumption, by assumption, by assumption, by assumption, by assumption, by assumption⟩) (fun hHeld2 => ?_)
            clear hK K
            try simp only [Act.put, List.setIfInBounds_toArray, List.set_cons_zero, List.set_cons_succ, List.getElem_toArray, List.getElem_cons_zero, List.getElem_cons_succ]
            refine wpAnyH_take (i := 17) (v := ?_) rfl (by kernel_rfl) (by kernel_rfl) (by kernel_rfl) (fun _ _ _ h => h) (Or.inl ⟨by rfl, ?_⟩) (by assumption) ?_
            rotate_left 1
            · ((intro w hSw; (try dsimp only at hSw); go_simp) <;> with_reducible rfl)
            try simp only [Act.put, List.setIfInBounds_toArray, List.set_cons_zero, List.set_cons_succ, List.getElem_toArray, List.getElem_cons_zero, List.getElem_cons_succ]
            refine wpAnyH_take (i := 18) (v := ?_) rfl (by kernel_rfl) (by kernel_rfl) (by kernel_rfl) (fun _ _ _ h => h) (Or.inl ⟨by rfl, ?_⟩) (by assumption) ?_
            rotate_left 1
            · ((intro w hSw; (try dsimp only at hSw); go_simp) <;> with_reducible rfl)
            try simp only [Act.put, List.setIfInBounds_toArray, List.set_cons_zero, List.set_cons_succ, List.getElem_toArray, List.getElem_cons_zero, List.getElem_cons_succ]
            refine wpAnyH_take (i := 19) (v := ?_) rfl (by kernel_rfl) (by kernel_rfl) (by kernel_rfl) (fun _ _ _ h => h) (Or.inl ⟨by rfl, ?_⟩) (by assumption) ?_
            rotate_left 1
            · ((intro w hSw; (try dsimp only at hSw); go_simp) <;> with_reducible rfl)
            try simp only [Act.put, List.setIfInBounds_toArray, List.set_cons_zero, List.set_cons_succ, List.getElem_toArray, List.getElem_cons_zero, List.getElem_cons_succ]
            refine wpAnyH_take (i := 20) (v := ?_) rfl (by kernel_rfl) (by kernel_rfl) (by kernel_rfl) (fun _ _ _ h => h) (Or.inl ⟨by rfl, ?_⟩) (by assumption) ?_
            rotate_left 1
            · ((intro w hSw; (try dsimp only at hSw); go_simp) <;> with_reducible rfl)
            try simp only [Act.put, List.setIfInBounds_toArray, List.set_cons_zero, List.set_cons_succ, List.getElem_toArray, List.getElem_cons_zero, List.getElem_cons_succ]
            refine wpAnyH_take (i := 21) (v := ?_) rfl (by kernel_rfl) (by kernel_rfl) (by kernel_rfl) (fun _ _ _ h => h) (Or.inl ⟨by rfl, ?_⟩) (by assumption) ?_
            rotate_left 1
            · ((intro w hSw; (try dsimp only at hSw); go_simp) <;> with_reducible rfl)
            try simp only [Act.put, List.setIfInBounds_toArray, List.set_cons_zero, List.set_cons_succ, List.getElem_toArray, List.getElem_cons_zero, List.getElem_cons_succ]
            refine wpAnyH_take (i := 23) (v := ?_) rfl (by kernel_rfl) (by kernel_rfl) (by kernel_rfl) (fun _ _ _ h => h) (Or.inl ⟨by rfl, ?_⟩) (by assumption) ?_
            rotate_left 1
            · ((intro w hSw; (try dsimp only at hSw); go_simp) <;> with_reducible rfl)
            try simp only [Act.put, List.setIfInBounds_toArray, List.set_cons_zero, List.set_cons_succ, List.getElem_toArray, List.getElem_cons_zero, List.getElem_cons_succ]
            refine wpAnyH_take (i := 24) (v := ?_) rfl (by kernel_rfl) (by kernel_rfl) (by kernel_rfl) (fun _ _ _ h => h) (Or.inl ⟨by rfl, ?_⟩) (by assumption) ?_
            rotate_left 1
            · ((intro w hSw; (try dsimp only at hSw); go_simp) <;> with_reducible rfl)
            try simp only [Act.put, List.setIfInBounds_toArray, List.set_cons_zero, List.set_cons_succ, List.getElem_toArray, List.getElem_cons_zero, List.getElem_cons_succ]
            refine wpAnyH_ready (rs := [22]) (by kernel_rfl) (by simp) ?_
            refine AllReadyH.cons rfl (fun K hK => ?_) AllReadyH.nil
            go_split_ands
            go_simp
            go_at_call 28
            refine (HSP.out _).mono ?_
            rintro e w9 ⟨rfl, hb9⟩
            refine hK.out _ _ (sum_keep (w := w) (c := c) (pd := pd) hb9 ⟨by assumption, by assumption, by assumption, by assumption, by assumption, by assumption, by assumption, by assumption, by assumption, by assumption, by assumption, by assumption⟩) (fun hHeld2 => ?_)
            clear hK K
            try simp only [Act.put, List.setIfInBounds_toArray, List.set_cons_zero, List.set_cons_succ, List.getElem_toArray, List.getElem_cons_zero, List.getElem_cons_succ]
            refine wpAnyH_ready (rs := [25]) (by kernel_rfl) (by simp) ?_
            refine AllReadyH.cons rfl (fun K hK => ?_) AllReadyH.nil
            go_split_ands
            go_simp
            go_at_call 29
            refine (HSP2.out _).mono ?_
            rintro e w9 ⟨rfl, hb9⟩
            refine hK.out _ _ (sum_keep (w := w) (c := c) (pd := pd) hb9 ⟨by assumption, by assumption, by assumption, by assumption, by assumption, by assumption, by assumption, by assumption, by assumption, by assumption, by assumption, by assumption⟩) (fun hHeld2 => ?_)
            clear hK K
            try simp only [Act.put, List.setIfInBounds_toArray, List.set_cons_zero, List.set_cons_succ, List.getElem_toArray, List.getElem_cons_zero, List.getElem_cons_succ]
            refine wpAnyH_take (i := 26) (v := ?_) rfl (by kernel_rfl) (by kernel_rfl) (by kernel_rfl) (fun _ _ _ h => h) (Or.inl ⟨by rfl, ?_⟩) (by assumption) ?_
            rotate_left 1
            · ((intro w hSw; (try dsimp only at hSw); go_simp) <;> with_reducible rfl)
            try simp only [Act.put, List.setIfInBounds_toArray, List.set_cons_zero, List.set_cons_succ, List.getElem_toArray, List.getElem_cons_zero, List.getElem_cons_succ]
            refine wpAnyH_take (i := 27) (v := ?_) rfl (by kernel_rfl) (by kernel_rfl) (by kernel_rfl) (fun _ _ _ h => h) (Or.inl ⟨by rfl, ?_⟩) (by assumption) ?_
            rotate_left 1
            · ((intro w hSw; (try dsimp only at hSw); go_simp) <;> with_reducible rfl)
            try simp only [Act.put, List.setIfInBounds_toArray, List.set_cons_zero, List.set_cons_succ, List.getElem_toArray, List.getElem_cons_zero, List.getElem_cons_succ]
            refine wpAnyH_take (i := 28) (v := ?_) rfl (by kernel_rfl) (by kernel_rfl) (by kernel_rfl) (fun _ _ _ h => h) (Or.inl ⟨by rfl, ?_⟩) (by assumption) ?_
            rotate_left 1
            · ((intro w hSw; (try dsimp only at hSw); go_simp) <;> with_reducible rfl)
            try simp only [Act.put, List.setIfInBounds_toArray, List.set_cons_zero, List.set_cons_succ, List.getElem_toArray, List.getElem_cons_zero, List.getElem_cons_succ]
            refine wpAnyH_take (i := 29) (v := ?_) rfl (by kernel_rfl) (by kernel_rfl) (by kernel_rfl) (fun _ _ _ h => h) (Or.inl ⟨by rfl, ?_⟩) (by assumption) ?_
            rotate_left 1
            · ((intro w hSw; (try dsimp only at hSw); go_simp) <;> with_reducible rfl)
            try simp only [Act.put, List.setIfInBounds_toArray, List.set_cons_zero, List.set_cons_succ, List.getElem_toArray, List.getElem_cons_zero, List.getElem_cons_succ]
            refine wpAnyH_take (i := 30) (v := ?_) rfl (by kernel_rfl) (by kernel_rfl) (by kernel_rfl) (fun _ _ _ h => h) (Or.inl ⟨by rfl, ?_⟩) (by assumption) ?_
            rotate_left 1
            · ((intro w hSw; (try dsimp only at hSw); go_simp) <;> with_reducible rfl)
            try simp only [Act.put, List.setIfInBounds_toArray, List.set_cons_zero, List.set_cons_succ, List.getElem_toArray, List.getElem_cons_zero, List.getElem_cons_succ]
            refine wpAnyH_take (i := 31) (v := ?_) rfl (by kernel_rfl) (by kernel_rfl) (by kernel_rfl) (fun _ _ _ h => h) (Or.inl ⟨by rfl, ?_⟩) (by assumption) ?_
            rotate_left 1
            · ((intro w hSw; (try dsimp only at hSw); go_simp) <;> with_reducible rfl)
            try simp only [Act.put, List.setIfInBounds_toArray, List.set_cons_zero, List.set_cons_succ, List.getElem_toArray, List.getElem_cons_zero, List.getElem_cons_succ]
            refine wpAnyH_ready (rs := [32]) (by kernel_rfl) (by simp) ?_
            refine AllReadyH.cons rfl (fun K hK => ?_) AllReadyH.nil
            go_split_ands
            go_simp
            go_at_call 30
            refine (HW2.out _ (by assumption)).mono ?_
            rintro e w9 ⟨rfl, hb9⟩
            refine hK.out _ _ (sum_keep (w := w) (c := c) (pd := pd) hb9 ⟨by assumption, by assumption, by assumption, by assumption, by assumption, by assumption, by assumption, by assumption, by assumption, by assumption, by assumption, by assumption⟩) (fun hHeld2 => ?_)
            clear hK K
            try simp only [Act.put, List.setIfInBounds_toArray, List.set_cons_zero, List.set_cons_succ, List.getElem_toArray, List.getElem_cons_zero, List.getElem_cons_succ]
            refine wpAnyH_take (i := 33) (v := ?_) rfl (by kernel_rfl) (by kernel_rfl) (by kernel_rfl) (fun _ _ _ h => h) (Or.inl ⟨by rfl, ?_⟩) (by assumption) ?_
            rotate_left 1
            · ((intro w hSw; (try dsimp only at hSw); go_simp) <;> with_reducible rfl)
            try simp only [Act.put, List.setIfInBounds_toArray, List.set_cons_zero, List.set_cons_succ, List.getElem_toArray, List.getElem_cons_zero, List.getElem_cons_succ]
            refine wpAnyH_take (i := 34) (v := ?_) rfl (by kernel_rfl) (by kernel_rfl) (by kernel_rfl) (fun _ _ _ h => h) (Or.inl ⟨by rfl, ?_⟩) (by assumption) ?_
            rotate_left 1
            · ((intro w hSw; (try dsimp only at hSw); go_simp) <;> with_reducible rfl)
            try simp only [Act.put, List.setIfInBounds_toArray, List.set_cons_zero, List.set_cons_succ, List.getElem_toArray, List.getElem_cons_zero, List.getElem_cons_succ]
            refine wpAnyH_take (i := 35) (v := ?_) rfl (by kernel_rfl) (by kernel_rfl) (by kernel_rfl) (fun _ _ _ h => h) (Or.inl ⟨by rfl, ?_⟩) (by assumption) ?_
            rotate_left 1
            · ((intro w hSw; (try dsimp only at hSw); go_simp) <;> with_reducible rfl)
            try simp only [Act.put, List.setIfInBounds_toArray, List.set_cons_zero, List.set_cons_succ, List.getElem_toArray, List.getElem_cons_zero, List.getElem_cons_succ]
            refine wpAnyH_ready (rs := [36]) (by kernel_rfl) (by simp) ?_
            refine AllReadyH.cons rfl (fun K hK => ?_) AllReadyH.nil
            go_split_ands
            go_simp
            go_at_call 19
            refine (HLV.out _ (by assumption)).mono ?_
            rintro e w9 ⟨rfl, hb9⟩
            refine hK.out _ _ (sum_keep (w := w) (c := c) (pd := pd) hb9 ⟨by assumption, by assumption, by assumption, by assumption, by assumption, by assumption, by assumption, by assumption, by assumption, by assumption, by assumption, by assumption⟩) (fun hHeld2 => ?_)
            clear hK K
            try simp only [Act.put, List.setIfInBounds_toArray, List.set_cons_zero, List.set_cons_succ, List.getElem_toArray, List.getElem_cons_zero, List.getElem_cons_succ]
            refine wpAnyH_take (i := 37) (v := ?_) rfl (by kernel_rfl) (by kernel_rfl) (by kernel_rfl) (fun _ _ _ h => h) (Or.inl ⟨by rfl, ?_⟩) (by assumption) ?_
            rotate_left 1
            · ((intro w hSw; (try dsimp only at hSw); go_simp) <;> with_reducible rfl)
            try simp only [Act.put, List.setIfInBounds_toArray, List.set_cons_zero, List.set_cons_succ, List.getElem_toArray, List.getElem_cons_zero, List.getElem_cons_succ]
            refine wpAnyH_take (i := 38) (v := ?_) rfl (by kernel_rfl) (by kernel_rfl) (by kernel_rfl) (fun _ _ _ h => h) (Or.inl ⟨by rfl, ?_⟩) (by assumption) ?_
            rotate_left 1
            · ((intro w hSw; (try dsimp only at hSw); go_simp) <;> with_reducible rfl)
            try simp only [Act.put, List.setIfInBounds_toArray, List.set_cons_zero, List.set_cons_succ, List.getElem_toArray, List.getElem_cons_zero, List.getElem_cons_succ]
            refine wpAnyH_done (by kernel_rfl) ?_ _
            have HL := Lib.hid hHeld2.2.2.2.2.2.2.2.2.2.2.2
            clear hHeld2
            go_wp2_with fail
            go_ret
            exact ⟨rfl, HL.out⟩
end Go.Proofs.YtahpjhnbjkjkiaaGreatDoor
