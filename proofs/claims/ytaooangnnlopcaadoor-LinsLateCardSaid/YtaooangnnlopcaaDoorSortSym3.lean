/- Two sorted runs of entries are merged in place: the whole. Condition: they lie one behind the other, and the first run's places are below the second's. -/
import Derived.Test.YtaooangnnlopcaaDoorSortSymT
namespace Go.Proofs.YtaooangnnlopcaaDoor
open Go.RowKit Go.ChangeMaps Go.MapKept
set_option maxRecDepth 100000 in
set_option maxHeartbeats 8000000 in
theorem symC_any {N : Nat} (HI : SymIH N) {w : World} {g o n c nc a m b : Nat} {P A B R : List EntD} (hN : A.length + B.length ≤ N + 1) (h : EntAt w g o (P ++ A ++ B ++ R)) (hg : g < w.heap.size) (hn : n = (P ++ A ++ B ++ R).length) (hmx : n ≤ 1000000) (ha : a = P.length) (hm : m = P.length + A.length) (hb : b = P.length + A.length + B.length) (hA0 : 0 < A.length) (hB0 : 0 < B.length) (hA1 : A.length ≠ 1) (hB1 : B.length ≠ 1) (hSA : SortE nc A) (hSB : SortE nc B) (hlow : LowE nc A B) : Calls Tryd.prog 84 #[.slice (some ⟨g, o, none⟩) n c, .int .i64 (a : Int), .int .i64 (m : Int), .int .i64 (b : Int), cmpF] w fun e w' => (∃ v, e = .returned v) ∧ MergeOk w g o nc P A B R w' := by
  have HL := Lib.hid (show b + R.length = n from by rw [hn, hb]; simp; omega)
  have HD := Lib.hid (show m = a + A.length ∧ b = m + B.length ∧ a = P.length from by omega)
  have hbm : b ≤ 1000000 := by have := HL.out; omega
  have ham : a < m := by omega
  have hmb : m < b := by omega
  have hw0 : IntKind.i64.wrap ((m : Int) - (a : Int)) = ((A.length : Nat) : Int) := by rw [show ((m : Int) - (a : Int)) = ((A.length : Nat) : Int) from by omega]; exact IntWalk.i64_in _ (by omega)
  have hq0 : (((A.length : Nat) : Int) == 1) = false := by rw [beq_eq_false_iff_ne]; omega
  have hw1 : IntKind.i64.wrap ((b : Int) - (m : Int)) = ((B.length : Nat) : Int) := by rw [show ((b : Int) - (m : Int)) = ((B.length : Nat) : Int) from by omega]; exact IntWalk.i64_in _ (by omega)
  have hq1 : (((B.length : Nat) : Int) == 1) = false := by rw [beq_eq_false_iff_ne]; omega
  obtain ⟨t, ht⟩ : ∃ t, t = a + b := ⟨_, rfl⟩
  obtain ⟨md, hmd⟩ : ∃ d, d = t / 2 := ⟨_, rfl⟩
  obtain ⟨nn, hnn⟩ : ∃ d, d = md + m := ⟨_, rfl⟩
  have wt : IntKind.i64.wrap ((a : Int) + (b : Int)) = (t : Int) := by rw [ht]; exact IntWalk.i64_in _ (by omega)
  have wt2 : IntKind.u64.wrap (t : Int) = (t : Int) := IntWalk.u64_in _ (by omega)
  have wt3 : IntKind.i64.wrap ((t : Int) / 2) = (md : Int) := by rw [hmd]; exact half_run t (by omega)
  have wt4 : IntKind.i64.wrap ((md : Int) + (m : Int)) = (nn : Int) := by rw [hnn]; exact IntWalk.i64_in _ (by omega)
  have wt5 : IntKind.i64.wrap ((nn : Int) - 1) = ((nn - 1 : Nat) : Int) := by rw [show ((nn : Int) - 1) = ((nn - 1 : Nat) : Int) from by omega]; exact IntWalk.i64_in _ (by omega)
  obtain ⟨pp, hpp⟩ : ∃ d, d = nn - 1 := ⟨_, rfl⟩
  rw [← hpp] at wt5
  have hamd : a < md := by omega
  have hmdb : md < b := by omega
  obtain ⟨tb, htb⟩ : ∃ tb, decide ((md : Int) < (m : Int)) = tb := ⟨_, rfl⟩
  obtain ⟨lo, hi, HLH⟩ : ∃ lo hi, Hid (LoHi tb a m b md nn lo hi) := by
    cases tb
    · exact ⟨a, m, Lib.hid (.inr ⟨rfl, by rw [decide_eq_false_iff_not] at htb; omega, rfl, rfl⟩)⟩
    · exact ⟨nn - b, md, Lib.hid (.inl ⟨rfl, by rw [decide_eq_true_iff] at htb; omega, by rw [decide_eq_true_iff] at htb; omega, rfl⟩)⟩
  have hlh : lo ≤ hi ∧ a ≤ lo ∧ hi ≤ m ∧ hi ≤ md ∧ nn ≤ lo + b := by
    clear wt wt2 wt3 wt4 wt5 hw0 hw1 hq0 hq1 htb hpp hN hn hA1 hB1
    rcases HLH.out.facts with ⟨h1, h2, h3⟩ | ⟨h1, h2, h3⟩ <;> refine ⟨?_, ?_, ?_, ?_, ?_⟩ <;> omega
  obtain ⟨hlo, hal, him, himd, hnb⟩ := hlh
  have HN := Lib.hid hN
  have HM := Lib.hid (show nn = md + m ∧ pp + 1 = nn from by omega)
  have HLOW := Lib.hid hlow
  have HSA := Lib.hid hSA
  have HSB := Lib.hid hSB
  have HG := Lib.hid hg
  have HE := Lib.hid h
  have hnn1 : nn ≤ 2000000 := by omega
  have hpp1 : pp ≤ 2000000 := by omega
  clear hn ha hm hb hg h hlow hSA hSB hA0 hB0 hA1 hB1 ht hmd hnn hpp hN
  go_enter Tryd.func84, Tryd.ntmps84
  go_upto_if 140 with fail
  first | rw [show decide ((md : Int) < (m : Int)) = tb from htb] | rw [show decide (md < m) = tb from by rw [← htb]; simp]
  go_cut [20, 21] (fun s20 s21 wx => s20 = .int .i64 (lo : Int) ∧ s21 = .int .i64 (hi : Int) ∧ w = wx)
  case first =>
    cases tb
    · have hlo2 : lo = a ∧ hi = m := by have h1 := HLH.out; unfold LoHi at h1; simp at h1; exact h1.2
      have HLO := Lib.hid hlo2
      clear hlo2 hlo hal him himd hnb HLH
      go_wp2_with fail
      go_meet
      case rel => exact ⟨by rw [HLO.out.1], by rw [HLO.out.2], rfl⟩
    · have hlo2 : lo + b = nn ∧ hi = md := by have h1 := HLH.out; unfold LoHi at h1; simp at h1; exact h1.2
      have w20 : IntKind.i64.wrap ((nn : Int) - (b : Int)) = (lo : Int) := by rw [show ((nn : Int) - (b : Int)) = (lo : Int) from by omega]; exact IntWalk.i64_in _ (by omega)
      have HLO := Lib.hid hlo2
      clear hlo2 hlo hal him himd hnb HLH
      go_wp2_with fail
      go_meet
      case rel => exact ⟨rfl, by rw [HLO.out.2], rfl⟩
  case rest =>
    obtain ⟨rfl, rfl, rfl⟩ := hcut
    go_upto_region 33 with fail
    go_loopw [20, 21] (fun si sj wr => ∃ (i j : Nat), si = .int .i64 (i : Int) ∧ sj = .int .i64 (j : Int) ∧ i ≤ j ∧ lo ≤ i ∧ j ≤ hi ∧ Hid (Cut nc A B (md - 1 - a) (lo - a) (hi - a) (i - a) (j - a)) ∧ Hid (Chg (fun _ => False) w wr)) (fun si sj _ => (intOf sj).toNat - (intOf si).toNat)
    case atStart => exact ⟨lo, hi, rfl, rfl, hlo, Nat.le_refl _, Nat.le_refl _, Lib.hid (Cut.start (by omega)), Lib.hid (Chg.refl _ _)⟩
    case round =>
      obtain ⟨i, j, rfl, rfl, hij, hli, hjh, HCT, HC⟩ := hrel
      have hE : EntAt wr g o (P ++ A ++ B ++ R) := HE.out.kept (M := fun _ => False) HC.out HG.out id
      have hgr : g < wr.heap.size := Nat.lt_of_lt_of_le HG.out HC.out.size
      by_cases hlt : i < j
      · obtain ⟨t2, ht⟩ : ∃ t, t = i + j := ⟨_, rfl⟩
        obtain ⟨d, hd⟩ : ∃ d, d = t2 / 2 := ⟨_, rfl⟩
        have hdi : i ≤ d := by omega
        have hdj : d < j := by omega
        have vt : IntKind.i64.wrap ((i : Int) + (j : Int)) = (t2 : Int) := by rw [ht]; exact IntWalk.i64_in _ (by omega)
        have vt2 : IntKind.u64.wrap (t2 : Int) = (t2 : Int) := IntWalk.u64_in _ (by omega)
        have vt3 : IntKind.i64.wrap ((t2 : Int) / 2) = (d : Int) := by rw [hd]; exact half_run t2 (by omega)
        have hdp : d < pp := by have := HM.out; omega
        obtain ⟨pd, hpd⟩ : ∃ z, z = pp - d := ⟨_, rfl⟩
        have vt4 : IntKind.i64.wrap ((pp : Int) - (d : Int)) = (pd : Int) := by rw [show ((pp : Int) - (d : Int)) = (pd : Int) from by omega]; exact IntWalk.i64_in _ (by omega)
        have HPD := Lib.hid (show pd - m = md - 1 - a - (d - a) ∧ m ≤ pd ∧ pd < b from by have := HM.out; omega)
        clear ht hd hpd
        obtain ⟨x, hx⟩ : ∃ x, A[d - a]? = some x := ⟨_, List.getElem?_eq_getElem (by have := HD.out; omega)⟩
        obtain ⟨y, hy⟩ : ∃ y, B[pd - m]? = some y := ⟨_, List.getElem?_eq_getElem (by have := HD.out; have := HPD.out; omega)⟩
        go_upto_region 35 with fail
        obtain ⟨b1, hb1⟩ : ∃ z, z = o + pd * 3 := ⟨_, rfl⟩
        obtain ⟨b2, hb2⟩ : ∃ z, z = o + d * 3 := ⟨_, rfl⟩
        have i1 : ∀ W : World, (Instr.indexAt 71 (.slice (some ⟨g, o, none⟩) n c) (.int .i64 (pd : Int))).run Tryd.prog W = .ok (.pointer (some ⟨g, b1, none⟩)) W := fun W => by rw [hb1]; exact idx_ent (k := pd) rfl (by have := HL.out; have := HPD.out; omega) W
        have i2 : ∀ W : World, (Instr.indexAt 71 (.slice (some ⟨g, o, none⟩) n c) (.int .i64 (d : Int))).run Tryd.prog W = .ok (.pointer (some ⟨g, b2, none⟩)) W := fun W => by rw [hb2]; exact idx_ent (k := d) rfl (by have := HL.out; omega) W
        have hx1 : EntC wr g b1 y := by rw [hb1]; exact entC hE (by have h2 := HD.out; have h3 := HPD.out; have h4 := (List.getElem?_eq_some_iff.1 hy).1; rw [List.append_assoc, List.append_assoc, List.getElem?_append_right (by omega), List.getElem?_append_right (by omega), List.getElem?_append_left (by omega), show pd - P.length - A.length = pd - m from by omega]; exact hy)
        have hx2 : EntC wr g b2 x := by rw [hb2]; exact entC hE (by have h2 := HD.out; have h4 := (List.getElem?_eq_some_iff.1 hx).1; rw [List.append_assoc, List.append_assoc, List.getElem?_append_right (by omega), List.getElem?_append_left (by omega), show d - P.length = d - a from by omega]; exact hx)
        rw [HPD.out.1] at hy
        have HU := Lib.hid (And.intro hx hy)
        clear hE hb1 hb2 hx hy
        refine wp_region_held_drew (S := fun W => EntC W g b1 y ∧ EntC W g b2 x) (by kernel_rfl) ⟨hx1, hx2⟩ (fun hHeld => ?_)
        refine wpAnyH_take (i := 0) (v := ?_) rfl (by kernel_rfl) (by kernel_rfl) (by kernel_rfl) (fun _ _ _ h => h) (Or.inl ⟨by rfl, ?_⟩) (by assumption) ?_
        rotate_left 1
        · ((intro w hSw; (try dsimp only at hSw); go_simp) <;> with_reducible rfl)
        try simp only [Act.put, List.setIfInBounds_toArray, List.set_cons_zero, List.set_cons_succ, List.getElem_toArray, List.getElem_cons_zero]
        refine wpAnyH_take (i := 1) (v := ?_) rfl (by kernel_rfl) (by kernel_rfl) (by kernel_rfl) (fun _ _ _ h => h) (Or.inl ⟨by rfl, ?_⟩) (by assumption) ?_
        rotate_left 1
        · ((intro w hSw; (try dsimp only at hSw); go_simp) <;> with_reducible rfl)
        try simp only [Act.put, List.setIfInBounds_toArray, List.set_cons_zero, List.set_cons_succ, List.getElem_toArray, List.getElem_cons_zero, List.getElem_cons_succ]
        refine wpAnyH_take (i := 2) (v := ?_) rfl (by kernel_rfl) (by kernel_rfl) (by kernel_rfl) (fun _ _ _ h => h) (Or.inl ⟨by rfl, ?_⟩) (by assumption) ?_
        rotate_left 1
        · ((intro w hSw; (try dsimp only at hSw); go_simp) <;> with_reducible rfl)
        try simp only [Act.put, List.setIfInBounds_toArray, List.set_cons_zero, List.set_cons_succ, List.getElem_toArray, List.getElem_cons_zero, List.getElem_cons_succ]
        refine wpAnyH_take (i := 3) (v := ?_) rfl (by kernel_rfl) (by kernel_rfl) (by kernel_rfl) (fun _ _ _ h => h) (Or.inl ⟨by rfl, ?_⟩) (by assumption) ?_
        rotate_left 1
        · ((intro w hSw; (try dsimp only at hSw); go_simp) <;> with_reducible rfl)
        try simp only [Act.put, List.setIfInBounds_toArray, List.set_cons_zero, List.set_cons_succ, List.getElem_toArray, List.getElem_cons_zero, List.getElem_cons_succ]
        refine wpAnyH_take (i := 4) (v := ?_) rfl (by kernel_rfl) (by kernel_rfl) (by kernel_rfl) (fun _ _ _ h => h) (Or.inl ⟨by rfl, ?_⟩) (by assumption) ?_
        rotate_left 1
        · ((intro w hSw; (try dsimp only at hSw); go_simp) <;> with_reducible rfl)
        try simp only [Act.put, List.setIfInBounds_toArray, List.set_cons_zero, List.set_cons_succ, List.getElem_toArray, List.getElem_cons_zero, List.getElem_cons_succ]
        refine wpAnyH_take (i := 5) (v := ?_) rfl (by kernel_rfl) (by kernel_rfl) (by kernel_rfl) (fun _ _ _ h => h) (Or.inl ⟨by rfl, ?_⟩) (by assumption) ?_
        rotate_left 1
        · ((intro w hSw; (try dsimp only at hSw); go_simp) <;> with_reducible rfl)
        try simp only [Act.put, List.setIfInBounds_toArray, List.set_cons_zero, List.set_cons_succ, List.getElem_toArray, List.getElem_cons_zero, List.getElem_cons_succ]
        refine wpAnyH_take (i := 6) (v := ?_) rfl (by kernel_rfl) (by kernel_rfl) (by kernel_rfl) (fun _ _ _ h => h) (Or.inl ⟨by rfl, ?_⟩) (by assumption) ?_
        rotate_left 1
        · ((intro w hSw; (try dsimp only at hSw); obtain ⟨⟨c0, c1, c2⟩, -⟩ := hSw; go_simp) <;> with_reducible rfl)
        try simp only [Act.put, List.setIfInBounds_toArray, List.set_cons_zero, List.set_cons_succ, List.getElem_toArray, List.getElem_cons_zero, List.getElem_cons_succ]
        refine wpAnyH_take (i := 7) (v := ?_) rfl (by kernel_rfl) (by kernel_rfl) (by kernel_rfl) (fun _ _ _ h => h) (Or.inl ⟨by rfl, ?_⟩) (by assumption) ?_
        rotate_left 1
        · ((intro w hSw; (try dsimp only at hSw); go_simp) <;> with_reducible rfl)
        try simp only [Act.put, List.setIfInBounds_toArray, List.set_cons_zero, List.set_cons_succ, List.getElem_toArray, List.getElem_cons_zero, List.getElem_cons_succ]
        refine wpAnyH_take (i := 8) (v := ?_) rfl (by kernel_rfl) (by kernel_rfl) (by kernel_rfl) (fun _ _ _ h => h) (Or.inl ⟨by rfl, ?_⟩) (by assumption) ?_
        rotate_left 1
        · ((intro w hSw; (try dsimp only at hSw); go_simp) <;> with_reducible rfl)
        try simp only [Act.put, List.setIfInBounds_toArray, List.set_cons_zero, List.set_cons_succ, List.getElem_toArray, List.getElem_cons_zero, List.getElem_cons_succ]
        refine wpAnyH_take (i := 9) (v := ?_) rfl (by kernel_rfl) (by kernel_rfl) (by kernel_rfl) (fun _ _ _ h => h) (Or.inl ⟨by rfl, ?_⟩) (by assumption) ?_
        rotate_left 1
        · ((intro w hSw; (try dsimp only at hSw); go_simp) <;> with_reducible rfl)
        try simp only [Act.put, List.setIfInBounds_toArray, List.set_cons_zero, List.set_cons_succ, List.getElem_toArray, List.getElem_cons_zero, List.getElem_cons_succ]
        refine wpAnyH_take (i := 10) (v := ?_) rfl (by kernel_rfl) (by kernel_rfl) (by kernel_rfl) (fun _ _ _ h => h) (Or.inl ⟨by rfl, ?_⟩) (by assumption) ?_
        rotate_left 1
        · ((intro w hSw; (try dsimp only at hSw); obtain ⟨-, c0, c1, c2⟩ := hSw; go_simp) <;> with_reducible rfl)
        try simp only [Act.put, List.setIfInBounds_toArray, List.set_cons_zero, List.set_cons_succ, List.getElem_toArray, List.getElem_cons_zero, List.getElem_cons_succ]
        refine wpAnyH_ready (rs := [11]) (by kernel_rfl) (by simp) ?_
        refine (AllReadyH.cons rfl (fun K hK => ?_) AllReadyH.nil)
        go_simp
        refine (order1_any y x _).mono ?_
        rintro e V1 ⟨⟨kk, rfl, hkk⟩, hbv⟩
        obtain ⟨bk, hbk⟩ : ∃ z, decide (y.step < x.step) = z := ⟨_, rfl⟩
        refine hK.out _ _ ⟨entC_below (w := wr.drew) hbv hgr hx1, entC_below (w := wr.drew) hbv hgr hx2⟩ (fun hHeld2 => ?_)
        clear hK K
        try simp only [Act.put, List.setIfInBounds_toArray, List.set_cons_zero, List.set_cons_succ, List.getElem_toArray, List.getElem_cons_zero, List.getElem_cons_succ]
        refine wpAnyH_take (i := 12) (v := ?_) rfl (by kernel_rfl) (by kernel_rfl) (by kernel_rfl) (fun _ _ _ h => h) (Or.inl ⟨by rfl, ?_⟩) (by assumption) ?_
        rotate_left 1
        · ((intro w hSw; (try dsimp only at hSw); go_simp) <;> with_reducible rfl)
        try simp only [Act.put, List.setIfInBounds_toArray, List.set_cons_zero, List.set_cons_succ, List.getElem_toArray, List.getElem_cons_zero, List.getElem_cons_succ]
        refine wpAnyH_take (i := 13) (v := ?_) rfl (by kernel_rfl) (by kernel_rfl) (by kernel_rfl) (fun _ _ _ h => h) (Or.inl ⟨by rfl, ?_⟩) (by assumption) ?_
        rotate_left 1
        · ((intro w hSw; (try dsimp only at hSw); go_simp) <;> with_reducible rfl)
        try simp only [Act.put, List.setIfInBounds_toArray, List.set_cons_zero, List.set_cons_succ, List.getElem_toArray, List.getElem_cons_zero, List.getElem_cons_succ]
        refine wpAnyH_done (by kernel_rfl) ?_ _
        clear hHeld hHeld2
        have HCV := Lib.hid (show Chg (fun _ => False) wr V1 from (Chg.refl _ wr).drew.trans (Chg.of_below hbv))
        have hHst := Lib.hid (show y.step < x.step ↔ bk = true from by rw [← hbk, decide_eq_true_iff])
        try rw [hbk]
        clear hbv hx1 hx2 hkk hbk
        cases bk
        · go_wp2_with fail
          go_roundw
          case rel => exact ⟨d + 1, j, by go_num, rfl, by omega, by omega, hjh, Lib.hid (by rw [show d + 1 - a = d - a + 1 from by omega]; exact HCT.out.up HSA.out HSB.out HLOW.out (by omega) (by omega) HU.out.1 HU.out.2 (fun h => by have h2 := hHst.out.1 h; cases h2)), Lib.hid (HC.out.trans HCV.out)⟩
          case measure => simp [intOf]; omega
        · go_wp2_with fail
          go_roundw
          case rel => exact ⟨i, d, rfl, rfl, hdi, hli, by omega, Lib.hid (HCT.out.down HSA.out HSB.out HLOW.out (by omega) (by omega) HU.out.1 HU.out.2 (hHst.out.2 rfl) (by omega)), Lib.hid (HC.out.trans HCV.out)⟩
          case measure => simp [intOf]; omega
      · obtain rfl : i = j := by omega
        obtain ⟨wo, rfl⟩ : ∃ wo : World, wo = wr := ⟨_, rfl⟩
        obtain ⟨en, hen⟩ : ∃ z, z = nn - i := ⟨_, rfl⟩
        have hen2 : en + i = nn := by have := HM.out; omega
        have vt6 : IntKind.i64.wrap ((nn : Int) - (i : Int)) = (en : Int) := by rw [show ((nn : Int) - (i : Int)) = (en : Int) from by omega]; exact IntWalk.i64_in _ (by omega)
        have hme : m ≤ en := by have := HM.out; omega
        have heb : en ≤ b := by have := HM.out; omega
        have hai : a ≤ i := by omega
        have him2 : i ≤ m := by omega
        have himd2 : i ≤ md := by omega
        have hends := HCT.out.ends (s := i - a) (by have := HD.out; omega) (by have := HD.out; have := HM.out; omega) (by omega) (by have h1 := HLH.out.facts; have h2 := HD.out; have h3 := HM.out; omega) (by have h1 := HLH.out.facts; have h2 := HD.out; omega)
        rw [show md - 1 - a + 1 - (i - a) = en - m from by have := HM.out; omega] at hends
        obtain ⟨A1, A2, B1, B2, HV⟩ : ∃ A1 A2 B1 B2, Hid (A1 = A.take (i - a) ∧ A2 = A.drop (i - a) ∧ B1 = B.take (en - m) ∧ B2 = B.drop (en - m) ∧ A1 ++ A2 = A ∧ B1 ++ B2 = B ∧ A1.length = i - a ∧ B1.length = en - m ∧ A2.length = m - i ∧ B2.length = b - en) := ⟨_, _, _, _, Lib.hid ⟨rfl, rfl, rfl, rfl, List.take_append_drop _ _, List.take_append_drop _ _, by have h2 := HD.out; rw [List.length_take]; omega, by have h2 := HD.out; rw [List.length_take]; omega, by have h2 := HD.out; rw [List.length_drop]; omega, by have h2 := HD.out; rw [List.length_drop]; omega⟩⟩
        rw [← HV.out.1, ← HV.out.2.1, ← HV.out.2.2.1, ← HV.out.2.2.2.1] at hends
        have HEN := Lib.hid hends
        have hsA := HSA.out; rw [← HV.out.2.2.2.2.1] at hsA
        have hsB := HSB.out; rw [← HV.out.2.2.2.2.2.1] at hsB
        have hlw := HLOW.out; rw [← HV.out.2.2.2.2.1, ← HV.out.2.2.2.2.2.1] at hlw
        have HSS := Lib.hid (And.intro hsA.parts (And.intro hsB.parts (And.intro hsA (And.intro hsB hlw))))
        have hE1 : EntAt wo g o (P ++ A1 ++ A2 ++ B1 ++ B2 ++ R) := by have h1 := hE; rw [← HV.out.2.2.2.2.1, ← HV.out.2.2.2.2.2.1] at h1; simpa [List.append_assoc] using h1
        have HE1 := Lib.hid hE1
        have HGR := Lib.hid hgr
        have HNN := Lib.hid (show (P ++ A1 ++ A2 ++ B1 ++ B2 ++ R).length = n from by have h1 := HV.out; have h2 := HL.out; have h3 := HD.out; simp only [List.length_append]; omega)
        clear hlt hij hE hE1 hgr hsA hsB hlw hends HCT hen HE hli hjh
        go_upto_region 38 with fail
        go_cut [24] (fun s24 wx => s24 = .int .i64 (en : Int) ∧ wo = wx)
        case first =>
          go_wp2_with fail
          go_meet
          case rel => exact ⟨rfl, rfl⟩
        case rest =>
          obtain ⟨rfl, rfl⟩ := hcut
          apply_assumption
          exact symTail1_any (_wc := wo) HI hmx HN HD HM.out.1 hen2 hai him2 himd2 hme heb hamd hmdb HV HEN HSS HNN HC HGR HE1
theorem symMerge_any (N : Nat) : SymIH N := by
  induction N with
  | zero =>
    unfold SymIH
    intro w g o n c nc a m b P A B R hN h hg hn hmx ha hm hb hA0 hB0 hSA hSB hlow
    omega
  | succ N ih =>
    unfold SymIH
    intro w g o n c nc a m b P A B R hN h hg hn hmx ha hm hb hA0 hB0 hSA hSB hlow
    by_cases hA1 : A.length = 1
    · obtain ⟨x, rfl⟩ := List.length_eq_one_iff.1 hA1
      exact symA_any h hg hn hmx ha hm hb rfl hSB hlow
    · by_cases hB1 : B.length = 1
      · obtain ⟨y, rfl⟩ := List.length_eq_one_iff.1 hB1
        exact symB_any h hg hn hmx ha hm hb hA1 rfl hSA hlow
      · exact symC_any ih hN h hg hn hmx ha hm hb hA0 hB0 hA1 hB1 hSA hSB hlow
end Go.Proofs.YtaooangnnlopcaaDoor
