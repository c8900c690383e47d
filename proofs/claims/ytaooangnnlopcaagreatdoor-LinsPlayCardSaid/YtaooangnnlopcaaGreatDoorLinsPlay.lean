/- LinsPlay walked. Condition: the history lies in memory. -/
import Derived.Test.YtaooangnnlopcaaGreatDoorLinSame
import Derived.Test.YtaooangnnlopcaaGreatDoorLinRThr
import Derived.Test.YtaooangnnlopcaaGreatDoorLinRLate
import Derived.Test.YtaooangnnlopcaaGreatDoorLiJ
import Derived.Test.YtaooangnnlopcaaGreatDoorLinEnd
import Derived.Test.YtaooangnnlopcaaGreatDoorLowA
namespace Go.Proofs.YtaooangnnlopcaaGreatDoor
open Go.RowKit Go.ChangeMaps Go.MapKept
set_option maxRecDepth 100000 in
set_option maxHeartbeats 16000000 in
theorem linsPlay_walk {w : World} {cv dv : Value} {cs : List CalledD} {ds : List DropD} (h : HistAt w cv dv cs ds) (hE : HasErr w) (hP : HasPow w) : Calls Tryz.prog 5 #[.agg #[cv, dv]] w fun e w' => e = .returned (.bool true) ∧ Below w.heap.size w w' := by
  obtain ⟨ca, cc, rfl⟩ := h.calls.len
  obtain ⟨da, dc, rfl⟩ := h.drops.len
  have HH := Lib.hid h
  have HEP := Lib.hid (And.intro hE hP)
  clear h hE hP
  go_enter Tryz.func5, Tryz.ntmps5
  go_upto_region 1 with fail
  obtain ⟨W0, hW0⟩ : ∃ X, X = w.alloc (.cells #[.slice ca cs.length cc, .slice da ds.length dc] 64) := ⟨_, rfl⟩
  have hb0 : Below w.heap.size w W0 := by rw [hW0]; exact (Below.refl _ _).alloc (Nat.le_refl _) _
  have hx0 : W0.heap[w.heap.size]? = some (.cells #[.slice ca cs.length cc, .slice da ds.length dc] 64 (0, 0)) := by rw [hW0, heap_at, if_pos rfl]
  rw [← hW0]
  clear hW0
  obtain ⟨ph, hph⟩ : ∃ z, z = w.heap.size := ⟨_, rfl⟩
  rw [← hph] at hx0 ⊢
  have k0 : W0.cell? ⟨ph, 0, none⟩ = some (.slice ca cs.length cc) := (cells_at hx0 0).1
  have k1 : W0.cell? ⟨ph, 1, none⟩ = some (.slice da ds.length dc) := (cells_at hx0 1).1
  have HK := Lib.hid (show ∀ W, Below W0.heap.size W0 W → W.cell? ⟨ph, 0, none⟩ = some (.slice ca cs.length cc) ∧ W.cell? ⟨ph, 1, none⟩ = some (.slice da ds.length dc) from fun W hW => ⟨(hW.cell (p := ⟨ph, 0, none⟩) (cell_lt k0)).trans k0, (hW.cell (p := ⟨ph, 1, none⟩) (cell_lt k1)).trans k1⟩)
  have HB0 := Lib.hid hb0
  have HH0 := Lib.hid (HH.out.below hb0)
  have HE0 := Lib.hid (And.intro (HEP.out.1.below hb0) (HEP.out.2.below hb0))
  clear hb0 hx0 hph HEP HH
  go_wp2_with fail
  refine (greatL_any HH0.out).mono ?_
  rintro e W1 ⟨⟨b, rfl, hgr⟩, hb1⟩
  have g0 := (HK.out W1 hb1).1
  have g1 := (HK.out W1 hb1).2
  have HB1 := Lib.hid hb1
  have HGR := Lib.hid hgr
  clear hgr hb1 k0 k1
  cases b
  · have HN := Lib.hid (show cs.length + ds.length ≤ 1000000 from by have := HGR.out rfl; omega)
    go_wp2_with fail
    refine (copied37_any (HH0.out.below HB1.out) HN.out).mono ?_
    rintro e W2 ⟨tv, uv, rfl, ht, hb2⟩
    obtain ⟨ta, tc, rfl⟩ := ht.calls.len
    obtain ⟨ua, uc, rfl⟩ := ht.drops.len
    have HB2 := Lib.hid (HB1.out.trans (hb2.mono HB1.out.size))
    have HT2 := Lib.hid ht
    clear hb2 ht g0 g1 HGR
    go_upto_region 4 with (first
      | ((with_reducible show wpList _ _ _ (⟨none, Op.store _ _ _, _, _, _, _⟩ :: _) _ _); refine wpList_store_whole (by rfl) 64 (.tmp 3) (.tmp 14) (by rfl) W2.heap.size (by rfl) #[.slice ta cs.length tc, .slice ua ds.length uc] (by rfl) #[.slice none 0 0, .slice none 0 0] 64 (by rw [heap_at, if_pos rfl]) (by rfl) (by kernel_rfl) (by simp [Value.oneCell']) ?_; intro w3 hw3 hgw3 hsw3; have hb3 : Below W2.heap.size W2 w3 := ((Below.refl W2.heap.size W2).alloc (Nat.le_refl _) (.cells #[.slice none 0 0, .slice none 0 0] 64)).grown hgw3 (by simp) (fun k hk => by cases hk; exact Nat.le_refl _); clear hgw3 hsw3)
      | fail)
    obtain ⟨pt, hpt⟩ : ∃ z, z = W2.heap.size := ⟨_, rfl⟩
    rw [← hpt] at hw3 ⊢
    have t0 : w3.cell? ⟨pt, 0, none⟩ = some (.slice ta cs.length tc) := (cells_at hw3 0).1
    have t1 : w3.cell? ⟨pt, 1, none⟩ = some (.slice ua ds.length uc) := (cells_at hw3 1).1
    have HKT := Lib.hid (show ∀ W, Below w3.heap.size w3 W → W.cell? ⟨pt, 0, none⟩ = some (.slice ta cs.length tc) ∧ W.cell? ⟨pt, 1, none⟩ = some (.slice ua ds.length uc) from fun W hW => ⟨(hW.cell (p := ⟨pt, 0, none⟩) (cell_lt t0)).trans t0, (hW.cell (p := ⟨pt, 1, none⟩) (cell_lt t1)).trans t1⟩)
    have HB3 := Lib.hid (HB2.out.trans (hb3.mono HB2.out.size))
    have HT3 := Lib.hid (HT2.out.below hb3)
    have g0 := (HK.out w3 HB3.out).1
    have g1 := (HK.out w3 HB3.out).2
    clear hpt hb3 hw3 HT2 t0 t1 HB2
    go_wp2_with fail
    refine (other37_any (HH0.out.below HB3.out) HN.out).mono ?_
    rintro e W4 ⟨ov, pv, rfl, ho, hb4⟩
    obtain ⟨oa, oc, rfl⟩ := ho.calls.len
    obtain ⟨pa, pc, rfl⟩ := ho.drops.len
    have HO := Lib.hid ho
    have HB4 := Lib.hid hb4
    clear ho hb4 g0 g1
    go_wp2_with fail
    refine (rthr_any HO.out HN.out).mono ?_
    rintro e W5 ⟨r, vm, rfl, hmap, hrl, hb5⟩
    obtain ⟨lr, hlr⟩ : ∃ z, z = linH cs ds := ⟨_, rfl⟩
    rw [← hlr]
    have HLR := Lib.hid hlr
    have HMP := Lib.hid hmap
    have HB5 := Lib.hid (HB4.out.trans (hb5.mono HB4.out.size))
    have HC5 := Lib.hid (HB3.out.trans (HB5.out.mono HB3.out.size))
    have g0 := (HK.out W5 HC5.out).1
    have g1 := (HK.out W5 HC5.out).2
    clear hlr hmap hrl hb5 HO HB4
    go_upto_region 5 with fail
    go_wp2_with fail
    refine (other37_any (HH0.out.below HC5.out) HN.out).mono ?_
    rintro e W6 ⟨ov, pv, rfl, ho, hb6⟩
    obtain ⟨oa, oc, rfl⟩ := ho.calls.len
    obtain ⟨pa, pc, rfl⟩ := ho.drops.len
    have HO := Lib.hid ho
    have HB6 := Lib.hid (HB5.out.trans (hb6.mono HB5.out.size))
    have HM6 := Lib.hid (HMP.out.below hb6)
    clear ho hb6 g0 g1 HMP HB5 HC5
    go_wp2_with fail
    refine (rlate_any HO.out HN.out).mono ?_
    rintro e W7 ⟨lc, ld, rfl, hls, hb7⟩
    have HLS := Lib.hid hls
    have HB7 := Lib.hid (HB6.out.trans (hb7.mono HB6.out.size))
    have HM7 := Lib.hid (HM6.out.below hb7)
    have HC7 := Lib.hid (HB3.out.trans (HB7.out.mono HB3.out.size))
    clear hls hb7 HO HB6 HM6
    go_upto_region 6 with fail
    have HBD := Lib.hid (show Below W7.heap.size W7 W7.drew from (Below.refl _ _).drew)
    refine wp_region_held_drew (S := fun W => Below W7.heap.size W7 W) (by kernel_rfl) HBD.out (fun hHeld => ?_)
    refine tkq (i := 0) (v := ?_) rfl (by kernel_rfl) (fun _ _ _ h => h) (by rfl) ?_ (by assumption) ?_
    rotate_left 1
    · ((intro w hSw; (try dsimp only at hSw); have c0 := (HKT.out _ (HB7.out.trans (hSw.mono HB7.out.size))).1; have c1 := (HKT.out _ (HB7.out.trans (hSw.mono HB7.out.size))).2; go_simp) <;> with_reducible rfl)
    try simp only [Act.put, tzA, tzB, tzC, tzD, tzE]
    refine tkq (i := 2) (v := ?_) rfl (by kernel_rfl) (fun _ _ _ h => h) (by rfl) ?_ (by assumption) ?_
    rotate_left 1
    · ((intro w hSw; (try dsimp only at hSw); go_simp) <;> with_reducible rfl)
    try simp only [Act.put, tzA, tzB, tzC, tzD, tzE, tzF]
    refine wpAnyH_ready (rs := [1]) (by kernel_rfl) (by simp) ?_
    refine (AllReadyH.cons rfl (fun K hK => ?_) AllReadyH.nil)
    go_simp
    go_at_call 28
    refine (lin_any (HT3.out.below (HB7.out.trans (HBD.out.mono HB7.out.size))) HN.out (HE0.out.1.below (HC7.out.trans (HBD.out.mono HC7.out.size))) (HE0.out.2.below (HC7.out.trans (HBD.out.mono HC7.out.size)))).mono ?_
    rintro e V1 ⟨rfl, hv1⟩
    rw [← HLR.out]
    have HBA := Lib.hid (HBD.out.trans (hv1.mono HBD.out.size))
    refine hK.out _ _ HBA.out (fun hHeld2 => ?_)
    clear hK K
    try simp only [Act.put, tzA, tzB, tzC, tzD, tzE, tzF]
    refine tkq (i := 3) (v := ?_) rfl (by kernel_rfl) (fun _ _ _ h => h) (by rfl) ?_ (by assumption) ?_
    rotate_left 1
    · ((intro w hSw; (try dsimp only at hSw); go_simp) <;> with_reducible rfl)
    try simp only [Act.put, tzA, tzB, tzC, tzD, tzE, tzF]
    refine tkq (i := 4) (v := ?_) rfl (by kernel_rfl) (fun _ _ _ h => h) (by rfl) ?_ (by assumption) ?_
    rotate_left 1
    · ((intro w hSw; (try dsimp only at hSw); go_simp) <;> with_reducible rfl)
    try simp only [Act.put, tzA, tzB, tzC, tzD, tzE, tzF]
    refine tkq (i := 5) (v := ?_) rfl (by kernel_rfl) (fun _ _ _ h => h) (by rfl) ?_ (by assumption) ?_
    rotate_left 1
    · ((intro w hSw; (try dsimp only at hSw); have c0 := (HKT.out _ (HB7.out.trans (hSw.mono HB7.out.size))).1; have c1 := (HKT.out _ (HB7.out.trans (hSw.mono HB7.out.size))).2; go_simp) <;> with_reducible rfl)
    try simp only [Act.put, tzA, tzB, tzC, tzD, tzE, tzF]
    refine tkq (i := 7) (v := ?_) rfl (by kernel_rfl) (fun _ _ _ h => h) (by rfl) ?_ (by assumption) ?_
    rotate_left 1
    · ((intro w hSw; (try dsimp only at hSw); go_simp) <;> with_reducible rfl)
    try simp only [Act.put, tzA, tzB, tzC, tzD, tzE, tzF]
    refine tkq (i := 8) (v := ?_) rfl (by kernel_rfl) (fun _ _ _ h => h) (by rfl) ?_ (by assumption) ?_
    rotate_left 1
    · ((intro w hSw; (try dsimp only at hSw); have c0 := (HK.out _ (HC7.out.trans (hSw.mono HC7.out.size))).1; have c1 := (HK.out _ (HC7.out.trans (hSw.mono HC7.out.size))).2; go_simp) <;> with_reducible rfl)
    try simp only [Act.put, tzA, tzB, tzC, tzD, tzE, tzF]
    refine wpAnyH_ready (rs := [6]) (by kernel_rfl) (by simp) ?_
    refine (AllReadyH.cons rfl (fun K hK => ?_) AllReadyH.nil)
    rw [if_pos (by rfl)]
    go_simp
    go_at_call 30
    refine (end_any (HT3.out.below (HB7.out.trans (HBA.out.mono HB7.out.size))) HN.out (HE0.out.1.below (HC7.out.trans (HBA.out.mono HC7.out.size))) (HE0.out.2.below (HC7.out.trans (HBA.out.mono HC7.out.size)))).mono ?_
    rintro e V2 ⟨p, rfl, hlv⟩
    have HBC := Lib.hid (HBA.out.trans (hlv.bel.mono HBA.out.size))
    have HLV := Lib.hid hlv.map
    refine hK.out _ _ HBC.out (fun hHeld2 => ?_)
    clear hK K
    try simp only [Act.put, tzA, tzB, tzC, tzD, tzE, tzF]
    refine wpAnyH_ready (rs := [9]) (by kernel_rfl) (by simp) ?_
    refine (AllReadyH.cons rfl (fun K hK => ?_) AllReadyH.nil)
    rw [if_pos (by rfl)]
    go_simp
    go_at_call 29
    refine (sameMap37_any HLV.out (HM7.out.below HBC.out) (HH0.out.below (HC7.out.trans (HBC.out.mono HC7.out.size))) HN.out).mono ?_
    rintro e V3 ⟨rfl, hv3⟩
    have HBF := Lib.hid (HBC.out.trans (hv3.mono HBC.out.size))
    refine hK.out _ _ HBF.out (fun hHeld2 => ?_)
    clear hK K
    try simp only [Act.put, tzA, tzB, tzC, tzD, tzE, tzF]
    refine tkq (i := 10) (v := ?_) rfl (by kernel_rfl) (fun _ _ _ h => h) (by rfl) ?_ (by assumption) ?_
    rotate_left 1
    · ((intro w hSw; (try dsimp only at hSw); go_simp) <;> with_reducible rfl)
    try simp only [Act.put, tzA, tzB, tzC, tzD, tzE, tzF]
    refine tkq (i := 11) (v := ?_) rfl (by kernel_rfl) (fun _ _ _ h => h) (by rfl) ?_ (by assumption) ?_
    rotate_left 1
    · ((intro w hSw; (try dsimp only at hSw); go_simp) <;> with_reducible rfl)
    try simp only [Act.put, tzA, tzB, tzC, tzD, tzE, tzF]
    refine wpAnyH_done (by kernel_rfl) ?_ _
    clear hHeld
    clear hHeld2
    have HB9 := Lib.hid (HB7.out.trans (HBF.out.mono HB7.out.size))
    have HC9 := Lib.hid (HB3.out.trans (HB9.out.mono HB3.out.size))
    have t0 := (HKT.out _ HB9.out).1
    have t1 := (HKT.out _ HB9.out).2
    clear HBF HBD HM7 HC7 HB7
    go_upto_region 8 with fail
    go_wp2_with fail
    refine (linLate_any (HT3.out.below HB9.out) HN.out).mono ?_
    rintro e W10 ⟨l1, l2, rfl, hls, hb10⟩
    obtain ⟨rfl, rfl⟩ := LateIs.one HLS.out hls
    have HB10 := Lib.hid (HB9.out.trans (hb10.mono HB9.out.size))
    have HC10 := Lib.hid (HB3.out.trans (HB10.out.mono HB3.out.size))
    have t0 := (HKT.out _ HB10.out).1
    have t1 := (HKT.out _ HB10.out).2
    have g0 := (HK.out _ HC10.out).1
    have g1 := (HK.out _ HC10.out).2
    clear hls hb10 HB9 HC9 HLS
    go_upto_region 9 with fail
    go_wp2_with fail
    refine (left37_any (HT3.out.below HB10.out) (HH0.out.below HC10.out) HN.out).mono ?_
    rintro e W11 ⟨rfl, hb11⟩
    have HC11 := Lib.hid (HC10.out.trans (hb11.mono HC10.out.size))
    clear hb11 g0 g1 t0 t1
    go_wp2_with fail
    refine (lives37 _ (HE0.out.1.below HC11.out) (HE0.out.2.below HC11.out)).mono ?_
    rintro e W12 ⟨rfl, hv12⟩
    have HV12 := Lib.hid (HB0.out.trans ((HC11.out.trans (hv12.mono HC11.out.size)).mono HB0.out.size))
    clear hv12
    go_wp2_with fail
    go_ret
    exact ⟨rfl, HV12.out⟩
  · go_wp2_with fail
    refine (lives37 _ (HE0.out.1.below HB1.out) (HE0.out.2.below HB1.out)).mono ?_
    rintro e W3 ⟨rfl, hv3⟩
    have HV3 := Lib.hid (HB0.out.trans ((HB1.out.trans (hv3.mono HB1.out.size)).mono HB0.out.size))
    clear hv3
    go_wp2_with fail
    go_ret
    exact ⟨rfl, HV3.out⟩
end Go.Proofs.YtaooangnnlopcaaGreatDoor
