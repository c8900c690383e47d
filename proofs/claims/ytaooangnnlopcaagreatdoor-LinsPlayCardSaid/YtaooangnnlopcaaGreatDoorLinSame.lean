/- The map behind a history beside the document's (nestboxlaw37.sameMap). Condition: both hold the same. -/
import Derived.Test.YtaooangnnlopcaaGreatDoorLiI
import Derived.Test.YtaooangnnlopcaaGreatDoorMapsRD
import Derived.Test.YtaooangnnlopcaaGreatDoorMapsEq
import Derived.Test.YtaooangnnlopcaaGreatDoorLowA
namespace Go.Proofs.YtaooangnnlopcaaGreatDoor
open Go.RowKit Go.ChangeMaps Go.MapKept
set_option maxRecDepth 100000 in
set_option maxHeartbeats 16000000 in
theorem sameMap37_any {w : World} {p r : Nat} {v cv dv : Value} {m : MapM} {cs : List CalledD} {ds : List DropD} (hm : MapAt w p m) (hr : RMap w r v m) (h : HistAt w cv dv cs ds) (hn : cs.length + ds.length ≤ 1000000) : Calls Tryz.prog 29 #[.pointer (some ⟨p, 0, none⟩), .pointer (some ⟨r, 0, none⟩), .agg #[cv, dv]] w fun e w' => e = .returned (.bool true) ∧ Below w.heap.size w w' := by
  obtain ⟨ca, cc, rfl⟩ := h.calls.len
  obtain ⟨da, dc, rfl⟩ := h.drops.len
  obtain ⟨va, vc, rfl⟩ := hr.slice
  have HH := Lib.hid h
  have HM := Lib.hid hm
  have HR := Lib.hid hr
  have hcl : cs.length ≤ 1000000 := by omega
  obtain ⟨n0, hn0⟩ : ∃ n, n = m.L.length := ⟨_, rfl⟩
  have hrl := hr.lt
  clear h hm hr
  go_enter Tryz.func29, Tryz.ntmps29
  go_upto_region 1 with fail
  obtain ⟨W0, hW0⟩ : ∃ X, X = w.alloc (.cells #[.slice ca cs.length cc, .slice da ds.length dc] 64) := ⟨_, rfl⟩
  have hb0 : Below w.heap.size w W0 := by rw [hW0]; exact (Below.refl _ _).alloc (Nat.le_refl _) _
  have hx0 : W0.heap[w.heap.size]? = some (.cells #[.slice ca cs.length cc, .slice da ds.length dc] 64 (0, 0)) := by rw [hW0, heap_at, if_pos rfl]
  rw [← hW0]
  clear hW0
  obtain ⟨pb, hpb⟩ : ∃ z, z = w.heap.size := ⟨_, rfl⟩
  rw [← hpb] at hx0 ⊢
  have hpbl : pb < W0.heap.size := (Array.getElem?_eq_some_iff.1 hx0).1
  have HH0 := Lib.hid (HH.out.below hb0)
  have HM0 := Lib.hid (HM.out.below hb0)
  have HR0 := Lib.hid (HR.out.below hb0)
  have HB0 := Lib.hid hb0
  have HX := Lib.hid hx0
  have c0 : W0.cell? ⟨r, 0, none⟩ = some (.slice va m.L.length vc) := (cells_at HR0.out.box 0).1
  have c1 : W0.cell? ⟨r, 1, none⟩ = some (.int .u64 (m.epoch : Int)) := (cells_at HR0.out.box 1).1
  have c2 : W0.cell? ⟨r, 2, none⟩ = some (.int .u64 (m.ids : Int)) := (cells_at HR0.out.box 2).1
  have HMW := Lib.hid (show MapAt W0.drew p m from HM0.out.below (Below.refl _ _).drew)
  clear hb0 hx0 hpb
  rw [← hn0] at c0
  have HN0 := Lib.hid hn0
  have ER := Lib.hid (show Below W0.heap.size W0 W0.drew from (Below.refl _ _).drew)
  refine wp_region_held_drew (S := fun W => MapAt W p m ∧ W.cell? ⟨r, 0, none⟩ = some (.slice va n0 vc) ∧ W.cell? ⟨r, 1, none⟩ = some (.int .u64 (m.epoch : Int)) ∧ W.cell? ⟨r, 2, none⟩ = some (.int .u64 (m.ids : Int))) (by kernel_rfl) ⟨HMW.out, c0, c1, c2⟩ (fun hHeld => ?_)
  refine tkq (i := 0) (v := ?_) rfl (by kernel_rfl) (fun _ _ _ h => h) (by rfl) ?_ (by assumption) ?_
  rotate_left 1
  · ((intro w hSw; (try dsimp only at hSw); go_simp) <;> with_reducible rfl)
  try simp only [Act.put, tzA, tzB, tzC, tzD, tzE]
  refine tkq (i := 2) (v := ?_) rfl (by kernel_rfl) (fun _ _ _ h => h) (by rfl) ?_ (by assumption) ?_
  rotate_left 1
  · ((intro w hSw; (try dsimp only at hSw); go_simp) <;> with_reducible rfl)
  try simp only [Act.put, tzA, tzB, tzC, tzD, tzE, tzF]
  refine tkq (i := 3) (v := ?_) rfl (by kernel_rfl) (fun _ _ _ h => h) (by rfl) ?_ (by assumption) ?_
  rotate_left 1
  · ((intro w hSw; (try dsimp only at hSw); go_simp) <;> with_reducible rfl)
  try simp only [Act.put, tzA, tzB, tzC, tzD, tzE, tzF]
  refine tkq (i := 4) (v := ?_) rfl (by kernel_rfl) (fun _ _ _ h => h) (by rfl) ?_ (by assumption) ?_
  rotate_left 1
  · ((intro w hSw; (try dsimp only at hSw); go_simp) <;> with_reducible rfl)
  try simp only [Act.put, tzA, tzB, tzC, tzD, tzE, tzF]
  refine tkq (i := 5) (v := ?_) rfl (by kernel_rfl) (fun _ _ _ h => h) (by rfl) ?_ (by assumption) ?_
  rotate_left 1
  · ((intro w hSw; (try dsimp only at hSw); obtain ⟨-, d0, d1, d2⟩ := hSw; go_simp) <;> with_reducible rfl)
  try simp only [Act.put, tzA, tzB, tzC, tzD, tzE, tzF]
  refine tkq (i := 6) (v := ?_) rfl (by kernel_rfl) (fun _ _ _ h => h) (by rfl) ?_ (by assumption) ?_
  rotate_left 1
  · ((intro w hSw; (try dsimp only at hSw); go_simp) <;> with_reducible rfl)
  try simp only [Act.put, tzA, tzB, tzC, tzD, tzE, tzF]
  refine wpAnyH_ready (rs := [1]) (by kernel_rfl) (by simp) ?_
  refine (AllReadyH.cons rfl (fun K hK => ?_) AllReadyH.nil)
  go_simp
  go_at_call 19
  refine (mapsCount_any HMW.out).mono ?_
  rintro e V1 ⟨rfl, rfl⟩
  rw [← HN0.out]
  refine hK.out _ _ ⟨HMW.out, c0, c1, c2⟩ (fun hHeld2 => ?_)
  clear hK K
  try simp only [Act.put, tzA, tzB, tzC, tzD, tzE, tzF]
  refine tkq (i := 7) (v := ?_) rfl (by kernel_rfl) (fun _ _ _ h => h) (by rfl) ?_ (by assumption) ?_
  rotate_left 1
  · ((intro w hSw; (try dsimp only at hSw); go_simp) <;> with_reducible rfl)
  try simp only [Act.put, tzA, tzB, tzC, tzD, tzE, tzF]
  refine tkq (i := 8) (v := ?_) rfl (by kernel_rfl) (fun _ _ _ h => h) (by rfl) ?_ (by assumption) ?_
  rotate_left 1
  · ((intro w hSw; (try dsimp only at hSw); go_simp) <;> with_reducible rfl)
  try simp only [Act.put, tzA, tzB, tzC, tzD, tzE, tzF]
  refine tkq (i := 9) (v := ?_) rfl (by kernel_rfl) (fun _ _ _ h => h) (by rfl) ?_ (by assumption) ?_
  rotate_left 1
  · ((intro w hSw; (try dsimp only at hSw); go_simp) <;> with_reducible rfl)
  try simp only [Act.put, tzA, tzB, tzC, tzD, tzE, tzF]
  refine tkq (i := 11) (v := ?_) rfl (by kernel_rfl) (fun _ _ _ h => h) (by rfl) ?_ (by assumption) ?_
  rotate_left 1
  · ((intro w hSw; (try dsimp only at hSw); go_simp) <;> with_reducible rfl)
  try simp only [Act.put, tzA, tzB, tzC, tzD, tzE, tzF]
  refine tkq (i := 12) (v := ?_) rfl (by kernel_rfl) (fun _ _ _ h => h) (by rfl) ?_ (by assumption) ?_
  rotate_left 1
  · ((intro w hSw; (try dsimp only at hSw); go_simp) <;> with_reducible rfl)
  try simp only [Act.put, tzA, tzB, tzC, tzD, tzE, tzF]
  refine tkq (i := 13) (v := ?_) rfl (by kernel_rfl) (fun _ _ _ h => h) (by rfl) ?_ (by assumption) ?_
  rotate_left 1
  · ((intro w hSw; (try dsimp only at hSw); go_simp) <;> with_reducible rfl)
  try simp only [Act.put, tzA, tzB, tzC, tzD, tzE, tzF]
  refine tkq (i := 14) (v := ?_) rfl (by kernel_rfl) (fun _ _ _ h => h) (by rfl) ?_ (by assumption) ?_
  rotate_left 1
  · ((intro w hSw; (try dsimp only at hSw); obtain ⟨-, d0, d1, d2⟩ := hSw; go_simp) <;> with_reducible rfl)
  try simp only [Act.put, tzA, tzB, tzC, tzD, tzE, tzF]
  refine wpAnyH_ready (rs := [10]) (by kernel_rfl) (by simp) ?_
  refine (AllReadyH.cons rfl (fun K hK => ?_) AllReadyH.nil)
  rw [if_pos (by rfl)]
  go_simp
  go_at_call 20
  refine (mapsEpoch_any HMW.out).mono ?_
  rintro e V1 ⟨rfl, rfl⟩
  refine hK.out _ _ ⟨HMW.out, c0, c1, c2⟩ (fun hHeld2 => ?_)
  clear hK K
  try simp only [Act.put, tzA, tzB, tzC, tzD, tzE, tzF]
  refine tkq (i := 15) (v := ?_) rfl (by kernel_rfl) (fun _ _ _ h => h) (by rfl) ?_ (by assumption) ?_
  rotate_left 1
  · ((intro w hSw; (try dsimp only at hSw); go_simp) <;> with_reducible rfl)
  try simp only [Act.put, tzA, tzB, tzC, tzD, tzE, tzF]
  refine tkq (i := 16) (v := ?_) rfl (by kernel_rfl) (fun _ _ _ h => h) (by rfl) ?_ (by assumption) ?_
  rotate_left 1
  · ((intro w hSw; (try dsimp only at hSw); go_simp) <;> with_reducible rfl)
  try simp only [Act.put, tzA, tzB, tzC, tzD, tzE, tzF]
  refine tkq (i := 17) (v := ?_) rfl (by kernel_rfl) (fun _ _ _ h => h) (by rfl) ?_ (by assumption) ?_
  rotate_left 1
  · ((intro w hSw; (try dsimp only at hSw); go_simp) <;> with_reducible rfl)
  try simp only [Act.put, tzA, tzB, tzC, tzD, tzE, tzF]
  refine tkq (i := 18) (v := ?_) rfl (by kernel_rfl) (fun _ _ _ h => h) (by rfl) ?_ (by assumption) ?_
  rotate_left 1
  · ((intro w hSw; (try dsimp only at hSw); go_simp) <;> with_reducible rfl)
  try simp only [Act.put, tzA, tzB, tzC, tzD, tzE, tzF]
  refine tkq (i := 20) (v := ?_) rfl (by kernel_rfl) (fun _ _ _ h => h) (by rfl) ?_ (by assumption) ?_
  rotate_left 1
  · ((intro w hSw; (try dsimp only at hSw); go_simp) <;> with_reducible rfl)
  try simp only [Act.put, tzA, tzB, tzC, tzD, tzE, tzF]
  refine tkq (i := 21) (v := ?_) rfl (by kernel_rfl) (fun _ _ _ h => h) (by rfl) ?_ (by assumption) ?_
  rotate_left 1
  · ((intro w hSw; (try dsimp only at hSw); go_simp) <;> with_reducible rfl)
  try simp only [Act.put, tzA, tzB, tzC, tzD, tzE, tzF]
  refine tkq (i := 22) (v := ?_) rfl (by kernel_rfl) (fun _ _ _ h => h) (by rfl) ?_ (by assumption) ?_
  rotate_left 1
  · ((intro w hSw; (try dsimp only at hSw); go_simp) <;> with_reducible rfl)
  try simp only [Act.put, tzA, tzB, tzC, tzD, tzE, tzF]
  refine tkq (i := 23) (v := ?_) rfl (by kernel_rfl) (fun _ _ _ h => h) (by rfl) ?_ (by assumption) ?_
  rotate_left 1
  · ((intro w hSw; (try dsimp only at hSw); obtain ⟨-, d0, d1, d2⟩ := hSw; go_simp) <;> with_reducible rfl)
  try simp only [Act.put, tzA, tzB, tzC, tzD, tzE, tzF]
  refine wpAnyH_ready (rs := [19]) (by kernel_rfl) (by simp) ?_
  refine (AllReadyH.cons rfl (fun K hK => ?_) AllReadyH.nil)
  rw [if_pos (by rfl)]
  go_simp
  go_at_call 21
  refine (mapsIds_any HMW.out).mono ?_
  rintro e V1 ⟨rfl, rfl⟩
  refine hK.out _ _ ⟨HMW.out, c0, c1, c2⟩ (fun hHeld2 => ?_)
  clear hK K
  try simp only [Act.put, tzA, tzB, tzC, tzD, tzE, tzF]
  refine tkq (i := 24) (v := ?_) rfl (by kernel_rfl) (fun _ _ _ h => h) (by rfl) ?_ (by assumption) ?_
  rotate_left 1
  · ((intro w hSw; (try dsimp only at hSw); go_simp) <;> with_reducible rfl)
  try simp only [Act.put, tzA, tzB, tzC, tzD, tzE, tzF]
  refine tkq (i := 25) (v := ?_) rfl (by kernel_rfl) (fun _ _ _ h => h) (by rfl) ?_ (by assumption) ?_
  rotate_left 1
  · ((intro w hSw; (try dsimp only at hSw); go_simp) <;> with_reducible rfl)
  try simp only [Act.put, tzA, tzB, tzC, tzD, tzE, tzF]
  refine wpAnyH_done (by kernel_rfl) ?_ _
  clear hHeld
  clear hHeld2
  obtain ⟨wd, hwd⟩ : ∃ z, z = W0.drew := ⟨_, rfl⟩
  rw [← hwd] at ER HMW ⊢
  have HW := Lib.hid ER.out
  have HRW := Lib.hid (HR0.out.below HW.out)
  clear c0 c1 c2 hwd ER
  go_upto_region 4 with fail
  go_loopw [7] (fun s7 wr => ∃ i : Nat, s7 = .int .i64 (i : Int) ∧ i ≤ cs.length ∧ Hid (Below W0.heap.size W0 wr)) (fun s7 _ => cs.length - (intOf s7).toNat)
  case atStart => exact ⟨0, rfl, Nat.zero_le _, HW⟩
  case round =>
    clear HW HRW HMW
    obtain ⟨i, rfl, hil, HBW⟩ := hrel
    have k0 : wr.cell? ⟨pb, 0, none⟩ = some (.slice ca cs.length cc) := (HBW.out.cell (p := ⟨pb, 0, none⟩) hpbl).trans (cells_at HX.out 0).1
    have hpbr : pb < wr.heap.size := Nat.lt_of_lt_of_le hpbl HBW.out.size
    by_cases hlt : i < cs.length
    · obtain ⟨x, hx⟩ : ∃ x, cs[i]? = some x := ⟨_, List.getElem?_eq_getElem hlt⟩
      obtain ⟨g, o, c', hv, hg, hr⟩ := HH0.out.calls.get hx
      obtain ⟨rfl, -, rfl⟩ := slice_inj hv
      have hrr := hr wr HBW.out
      have hgr : g < wr.heap.size := Nat.lt_of_lt_of_le hg HBW.out.size
      have ix : ∀ W : World, (Instr.indexAt 61 (.slice (some ⟨g, o, none⟩) cs.length cc) (.int .i64 (i : Int))).run Tryz.prog W = .ok (.pointer (some ⟨g, o + i * 20, none⟩)) W := fun W => idx_called rfl hlt W
      obtain ⟨b, hb⟩ : ∃ b, b = o + i * 20 := ⟨_, rfl⟩
      rw [← hb] at ix
      have hrb : ∀ W, Below W0.heap.size W0 W → W.cell? ⟨g, b + 1 + 1, none⟩ = some (.string x.call.key) := fun W hW => by rw [hb]; exact hr W hW 2 _ rfl
      have HRB := Lib.hid hrb
      have HK := Lib.hid (HH.out.callsIs x (List.mem_of_getElem? hx)).key
      have z2 := HRB.out wr HBW.out
      have hi6 : i ≤ 1000000 := by omega
      have HA1 := Lib.hid (mapsAt_any (HM0.out.below HBW.out) HK.out)
      clear hb hx hv hr hrr hrb
      go_upto_region 6 with fail
      go_wp2_with fail
      refine HA1.out.mono ?_
      rintro e V1 ⟨rfl, hv1⟩
      obtain ⟨it, hit⟩ : ∃ z, z = wasL m.L x.call.key := ⟨_, rfl⟩
      obtain ⟨th, hth⟩ : ∃ z, z = (atL m.L x.call.key).isSome := ⟨_, rfl⟩
      rw [← hit, ← hth]
      have HIT := Lib.hid (And.intro hit hth)
      have HV1 := Lib.hid (HBW.out.trans (hv1.mono HBW.out.size))
      clear hit hth hv1 HA1 z2
      go_upto_region 7 with (first
        | ((with_reducible show wpList _ _ _ (⟨none, Op.store _ _ _, _, _, _, _⟩ :: _) _ _); refine wpList_store_whole (by rfl) 38 (.tmp 8) (.tmp 55) (by rfl) V1.heap.size (by rfl) (itemCells it).toArray (by rfl) itemZero 38 (by rw [heap_at, if_pos rfl]) (by rfl) (by kernel_rfl) (by simp [Value.oneCell']) ?_; intro w1 hw1 hgw1 hsw1; have hb1 : Below V1.heap.size V1 w1 := ((Below.refl V1.heap.size V1).alloc (Nat.le_refl _) (.cells itemZero 38)).grown hgw1 (by simp) (fun k hk => by cases hk; exact Nat.le_refl _); clear hgw1 hsw1)
        | fail)
      obtain ⟨p8, hp8⟩ : ∃ z, z = V1.heap.size := ⟨_, rfl⟩
      rw [← hp8] at hw1 ⊢
      have HB1 := Lib.hid (HV1.out.trans (hb1.mono HV1.out.size))
      have HW1 := Lib.hid hw1
      have k0 : w1.cell? ⟨pb, 0, none⟩ = some (.slice (some ⟨g, o, none⟩) cs.length cc) := (HB1.out.cell (p := ⟨pb, 0, none⟩) hpbl).trans (cells_at HX.out 0).1
      have z2 := HRB.out w1 HB1.out
      have hpbr : pb < w1.heap.size := Nat.lt_of_lt_of_le hpbl HB1.out.size
      have hgr : g < w1.heap.size := Nat.lt_of_lt_of_le hg HB1.out.size
      have HA2 := Lib.hid (rAtM_any (k := x.call.key) (HR0.out.below HB1.out))
      rw [← HIT.out.1, ← HIT.out.2] at HA2
      clear hp8 hb1 HV1
      go_wp2_with fail
      refine HA2.out.mono ?_
      rintro e V2 ⟨rfl, hv2⟩
      have hw2 : V2.heap[p8]? = some (.cells (itemCells it).toArray 38 (0, 0)) := (Chg.of_below (M := fun _ => False) hv2).obj HW1.out id
      have HV2 := Lib.hid (HB1.out.trans (hv2.mono HB1.out.size))
      have hp8 : p8 < V2.heap.size := (Array.getElem?_eq_some_iff.1 hw2).1
      have HW2 := Lib.hid hw2
      clear hv2 HA2 z2 hw1 hw2 HW1
      go_upto_region 8 with (first
        | ((with_reducible show wpList _ _ _ (⟨none, Op.store _ _ _, _, _, _, _⟩ :: _) _ _); refine wpList_store_whole (by rfl) 38 (.tmp 10) (.tmp 67) (by rfl) V2.heap.size (by rfl) (itemCells it).toArray (by rfl) itemZero 38 (by rw [heap_at, if_pos rfl]) (by rfl) (by kernel_rfl) (by simp [Value.oneCell']) ?_; intro w3 hw3 hgw3 hsw3; have hb3 : Below V2.heap.size V2 w3 := ((Below.refl V2.heap.size V2).alloc (Nat.le_refl _) (.cells itemZero 38)).grown hgw3 (by simp) (fun k hk => by cases hk; exact Nat.le_refl _); clear hgw3 hsw3)
        | fail)
      obtain ⟨p10, hp10⟩ : ∃ z, z = V2.heap.size := ⟨_, rfl⟩
      rw [← hp10] at hw3 ⊢
      have hw4 : w3.heap[p8]? = some (.cells (itemCells it).toArray 38 (0, 0)) := (Chg.of_below (M := fun _ => False) hb3).obj HW2.out id
      have HRA := Lib.hid (show w3.rangeAt p8 0 (itemCells it) from fun k u hu => by rw [Nat.zero_add, (cells_at hw4 k).1, List.getElem?_toArray]; exact hu)
      have HRB2 := Lib.hid (show w3.rangeAt p10 0 (itemCells it) from fun k u hu => by rw [Nat.zero_add, (cells_at hw3 k).1, List.getElem?_toArray]; exact hu)
      have HB3 := Lib.hid (HV2.out.trans (hb3.mono HV2.out.size))
      have qn : ∀ W : World, (binOp .neq 38 (.agg (itemCells it).toArray) (.agg (itemCells it).toArray)).run Tryz.prog W = .ok (.bool false) W := fun W => by have := run_item_ne it it W; simpa using this
      clear hp8 hp10 hw3 hw4 hb3 HW2 HV2 k0 hpbr hgr
      go_wp2_with (first
        | ((with_reducible show wpList _ _ _ (⟨_, Op.load _ (.tmp 8), _, _, _, _⟩ :: _) _ _); refine wpList_load_mid (by rfl) 38 (.tmp 8) (by rfl) p8 0 (by rfl) (itemCells it) _ HRA.out Tryz.underlying38 rfl (by kernel_rfl) ?_)
        | ((with_reducible show wpList _ _ _ (⟨_, Op.load _ (.tmp 10), _, _, _, _⟩ :: _) _ _); refine wpList_load_mid (by rfl) 38 (.tmp 10) (by rfl) p10 0 (by rfl) (itemCells it) _ HRB2.out Tryz.underlying38 rfl (by kernel_rfl) ?_)
        | fail)
      go_roundw
      case rel => exact ⟨i + 1, by go_num, by omega, HB3⟩
      case measure => simp [intOf]; omega
    · obtain rfl : i = cs.length := by omega
      go_wp2_with fail
      go_ret
      exact ⟨rfl, HB0.out.trans (HBW.out.mono HB0.out.size)⟩
end Go.Proofs.YtaooangnnlopcaaGreatDoor
