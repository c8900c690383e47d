/- Two sorted runs of entries are merged, where one has a single entry. Condition: they lie one behind the other. -/
import Derived.Test.YtaooangnnlopcaaDoorSortSwap
import Derived.Test.YtaooangnnlopcaaDoorSortMerge
namespace Go.Proofs.YtaooangnnlopcaaDoor
open Go.RowKit Go.ChangeMaps Go.MapKept
def MergeOk (w : World) (g o nc : Nat) (P A B R : List EntD) (w' : World) : Prop := ∃ s, SortE nc s ∧ s.Perm (A ++ B) ∧ EntAt w' g o (P ++ s ++ R) ∧ Chg (fun k => k = g) w w'
/-- Where an entry is to stand in a sorted list: between i and j. -/
structure Seek (nc : Nat) (S : List EntD) (z : EntD) (i j : Nat) : Prop where
  le : i ≤ j
  most : j ≤ S.length
  low : ∀ c x, c < i → S[c]? = some x → lessE nc x z
  high : ∀ c x, j ≤ c → S[c]? = some x → lessE nc z x
theorem Seek.start {nc : Nat} (S : List EntD) (z : EntD) : Seek nc S z 0 S.length := ⟨Nat.zero_le _, Nat.le_refl _, fun _ _ h => by omega, fun c x h hx => by have := (List.getElem?_eq_some_iff.1 hx).1; omega⟩
theorem Seek.up {nc : Nat} {S : List EntD} {z x : EntD} {i j c : Nat} (h : Seek nc S z i j) (hS : SortE nc S) (hc : c < j) (hx : S[c]? = some x) (hl : lessE nc x z) : Seek nc S z (c + 1) j :=
  ⟨by omega, h.most, fun d y hd hy => (sortE_le hS hy hx (by omega)).elim (fun e => by rw [e]; exact hl) (fun e => lessE_trans e hl), h.high⟩
theorem Seek.down {nc : Nat} {S : List EntD} {z x : EntD} {i j c : Nat} (h : Seek nc S z i j) (hS : SortE nc S) (hi : i ≤ c) (hc : c < j) (hx : S[c]? = some x) (hl : lessE nc z x) : Seek nc S z i c :=
  ⟨hi, by have := h.most; omega, h.low, fun d y hd hy => (sortE_le hS hx hy hd).elim (fun e => by rw [← e]; exact hl) (fun e => lessE_trans hl e)⟩
theorem Seek.ends {nc : Nat} {S : List EntD} {z : EntD} {i : Nat} (h : Seek nc S z i i) (hS : SortE nc S) : SortE nc (S.take i ++ z :: S.drop i) ∧ (S.take i ++ z :: S.drop i).Perm (z :: S) := by
  constructor
  · have h1 : S = S.take i ++ S.drop i := (List.take_append_drop i S).symm
    have h2 : SortE nc (S.take i ++ S.drop i) := h1 ▸ hS
    obtain ⟨h3, h4, h5⟩ := h2.parts
    have hlo : ∀ x ∈ S.take i, lessE nc x z := fun x hx => by
      obtain ⟨c, hc, rfl⟩ := List.getElem_of_mem hx
      rw [List.length_take] at hc
      refine h.low c _ (by omega) ?_
      rw [List.getElem_take]
      exact List.getElem?_eq_getElem _
    have hhi : ∀ x ∈ S.drop i, lessE nc z x := fun x hx => by
      obtain ⟨c, hc, rfl⟩ := List.getElem_of_mem hx
      rw [List.length_drop] at hc
      refine h.high (i + c) _ (by omega) ?_
      rw [List.getElem_drop]
      exact List.getElem?_eq_getElem _
    refine SortE.append h3 (List.pairwise_cons.2 ⟨hhi, h4⟩) ?_
    intro y hy v hv
    rcases List.mem_cons.1 hv with rfl | hv
    · exact hlo y hy
    · exact h5 y hy v hv
  · refine List.perm_middle.trans (List.Perm.cons z ?_)
    rw [List.take_append_drop]
/-- Half of a sum, as it is reckoned. -/
theorem half_run (s : Nat) (hs : s ≤ 2000000) : IntKind.i64.wrap ((s : Int) / 2) = ((s / 2 : Nat) : Int) := by
  rw [show (s : Int) / 2 = ((s / 2 : Nat) : Int) from by omega]
  exact IntWalk.i64_in _ (by omega)

set_option maxRecDepth 100000 in
set_option maxHeartbeats 8000000 in
theorem symA_any {w : World} {g o n c nc a m b : Nat} {P A B R : List EntD} {x : EntD} (h : EntAt w g o (P ++ A ++ B ++ R)) (hg : g < w.heap.size) (hn : n = (P ++ A ++ B ++ R).length) (hmx : n ≤ 1000000) (ha : a = P.length) (hm : m = P.length + A.length) (hb : b = P.length + A.length + B.length) (hA : A = [x]) (hS : SortE nc B) (hlow : LowE nc A B) : Calls Tryd.prog 84 #[.slice (some ⟨g, o, none⟩) n c, .int .i64 (a : Int), .int .i64 (m : Int), .int .i64 (b : Int), cmpF] w fun e w' => (∃ v, e = .returned v) ∧ MergeOk w g o nc P A B R w' := by
  subst hA
  have hl : b = m + B.length := by simp at hm hb; omega
  have hma : m = a + 1 := by simp at hm; omega
  have HL := Lib.hid (show b + R.length = n from by rw [hn, hb]; simp; omega)
  have HB := Lib.hid (And.intro hl (And.intro hma ha))
  have hbm : b ≤ 1000000 := by have := HL.out; omega
  have hmm : m ≤ 1000000 := by omega
  have ham : a ≤ 1000000 := by omega
  have hab : a < b := by omega
  have hamm : a ≤ m := by omega
  have hmb2 : m ≤ b := by omega
  have hw1 : IntKind.i64.wrap ((m : Int) - (a : Int)) = 1 := by rw [show ((m : Int) - (a : Int)) = 1 from by omega]; rfl
  have HLOW := Lib.hid hlow
  have HS := Lib.hid hS
  have HG := Lib.hid hg
  have HE := Lib.hid h
  clear hn ha hm hb hg h hlow hS hl hma
  go_enter Tryd.func84, Tryd.ntmps84
  go_upto_region 3 with fail
  go_loopw [10, 11] (fun si sj wr => ∃ (i j : Nat), si = .int .i64 (i : Int) ∧ sj = .int .i64 (j : Int) ∧ i ≤ j ∧ j ≤ b ∧ m ≤ i ∧ Hid (Seek nc B x (i - m) (j - m)) ∧ Hid (Chg (fun _ => False) w wr)) (fun si sj _ => (intOf sj).toNat - (intOf si).toNat)
  case atStart => exact ⟨m, b, rfl, rfl, by omega, by omega, by omega, Lib.hid (by have h1 := Seek.start (nc := nc) B x; have h2 := HB.out.1; rw [show b - m = B.length from by omega, Nat.sub_self]; exact h1), Lib.hid (Chg.refl _ _)⟩
  case round =>
    obtain ⟨i, j, rfl, rfl, hij, hjb, hmi, HSK, HC⟩ := hrel
    have hE : EntAt wr g o (P ++ [x] ++ B ++ R) := by have h1 := HE.out.kept (M := fun _ => False) HC.out HG.out id; simpa [List.append_assoc] using h1
    have hgr : g < wr.heap.size := Nat.lt_of_lt_of_le HG.out HC.out.size
    by_cases hlt : i < j
    · obtain ⟨t, ht⟩ : ∃ t, t = i + j := ⟨_, rfl⟩
      obtain ⟨d, hd⟩ : ∃ d, d = t / 2 := ⟨_, rfl⟩
      have hdi : i ≤ d := by omega
      have hdj : d < j := by omega
      have wt : IntKind.i64.wrap ((i : Int) + (j : Int)) = (t : Int) := by rw [ht]; exact IntWalk.i64_in _ (by omega)
      have wt2 : IntKind.u64.wrap (t : Int) = (t : Int) := IntWalk.u64_in _ (by omega)
      have wt3 : IntKind.i64.wrap ((t : Int) / 2) = (d : Int) := by rw [hd]; exact half_run t (by omega)
      clear ht hd
      go_upto_region 5 with fail
      obtain ⟨y, hy⟩ : ∃ y, B[d - m]? = some y := ⟨_, List.getElem?_eq_getElem (by have := HB.out; omega)⟩
      have hxy : rkE nc x < rkE nc y := HLOW.out x (by simp) y (List.mem_of_getElem? hy)
      obtain ⟨b1, hb1⟩ : ∃ z, z = o + a * 3 := ⟨_, rfl⟩
      obtain ⟨b2, hb2⟩ : ∃ z, z = o + d * 3 := ⟨_, rfl⟩
      have i1 : ∀ W : World, (Instr.indexAt 71 (.slice (some ⟨g, o, none⟩) n c) (.int .i64 (a : Int))).run Tryd.prog W = .ok (.pointer (some ⟨g, b1, none⟩)) W := fun W => by rw [hb1]; exact idx_ent (k := a) rfl (by have := HL.out; omega) W
      have i2 : ∀ W : World, (Instr.indexAt 71 (.slice (some ⟨g, o, none⟩) n c) (.int .i64 (d : Int))).run Tryd.prog W = .ok (.pointer (some ⟨g, b2, none⟩)) W := fun W => by rw [hb2]; exact idx_ent (k := d) rfl (by have := HL.out; omega) W
      have hx1 : EntC wr g b1 x := by rw [hb1]; exact entC hE (by rw [HB.out.2.2]; simp)
      have hx2 : EntC wr g b2 y := by rw [hb2]; exact entC hE (by have h2 := HB.out.2; have h3 : (B ++ R)[d - m]? = some y := (by rw [List.getElem?_append_left (List.getElem?_eq_some_iff.1 hy).1]; exact hy); rw [List.append_assoc, List.append_assoc, List.getElem?_append_right (by omega), show d - P.length = (d - m) + 1 from by omega]; exact h3)
      have HXY := Lib.hid hxy
      have HU := Lib.hid hy
      clear hE hb1 hb2 hxy hy
      by_cases hst : y.step < x.step
      · have hHst := Lib.hid hst
        refine wp_region_held_drew (S := fun W => EntC W g b1 x ∧ EntC W g b2 y) (by kernel_rfl) ⟨hx1, hx2⟩ (fun hHeld => ?_)
        refine wpAnyH_take (i := 0) (v := ?_) rfl (by kernel_rfl) (by kernel_rfl) (by kernel_rfl) (fun _ _ _ h => h) (Or.inl ⟨by rfl, ?_⟩) (by assumption) ?_
        rotate_left 1
        · ((intro w hSw; (try dsimp only at hSw); go_simp) <;> with_reducible rfl)
        try simp only [Act.put, List.setIfInBounds_toArray, List.set_cons_zero, List.set_cons_succ, List.getElem_toArray, List.getElem_cons_zero]
        refine wpAnyH_take (i := 1) (v := ?_) rfl (by kernel_rfl) (by kernel_rfl) (by kernel_rfl) (fun _ _ _ h => h) (Or.inl ⟨by rfl, ?_⟩) (by assumption) ?_
        rotate_left 1
        · ((intro w hSw; (try dsimp only at hSw); go_simp) <;> with_reducible rfl)
        try simp only [Act.put, List.setIfInBounds_toArray, List.set_cons_zero, List.set_cons_succ, List.getElem_toArray, List.getElem_cons_zero, List.getElem_cons_succ]
        refine wpAnyH_take (i := 2) (v := ?_) rfl (by kernel_rfl) (by kernel_rfl) (by kernel_rfl) (fun _ _ _ h => h) (Or.inl ⟨by rfl, ?_⟩) (by assumption) ?_
        rotate_left 1
        · ((intro w hSw; (try dsimp only at hSw); go_simp) <;> with_reducible rfl)
        try simp only [Act.put, List.setIfInBounds_toArray, List.set_cons_zero, List.set_cons_succ, List.getElem_toArray, List.getElem_cons_zero, List.getElem_cons_succ]
        refine wpAnyH_take (i := 3) (v := ?_) rfl (by kernel_rfl) (by kernel_rfl) (by kernel_rfl) (fun _ _ _ h => h) (Or.inl ⟨by rfl, ?_⟩) (by assumption) ?_
        rotate_left 1
        · ((intro w hSw; (try dsimp only at hSw); go_simp) <;> with_reducible rfl)
        try simp only [Act.put, List.setIfInBounds_toArray, List.set_cons_zero, List.set_cons_succ, List.getElem_toArray, List.getElem_cons_zero, List.getElem_cons_succ]
        refine wpAnyH_take (i := 4) (v := ?_) rfl (by kernel_rfl) (by kernel_rfl) (by kernel_rfl) (fun _ _ _ h => h) (Or.inl ⟨by rfl, ?_⟩) (by assumption) ?_
        rotate_left 1
        · ((intro w hSw; (try dsimp only at hSw); obtain ⟨-, c0, c1, c2⟩ := hSw; go_simp) <;> with_reducible rfl)
        try simp only [Act.put, List.setIfInBounds_toArray, List.set_cons_zero, List.set_cons_succ, List.getElem_toArray, List.getElem_cons_zero, List.getElem_cons_succ]
        refine wpAnyH_take (i := 5) (v := ?_) rfl (by kernel_rfl) (by kernel_rfl) (by kernel_rfl) (fun _ _ _ h => h) (Or.inl ⟨by rfl, ?_⟩) (by assumption) ?_
        rotate_left 1
        · ((intro w hSw; (try dsimp only at hSw); go_simp) <;> with_reducible rfl)
        try simp only [Act.put, List.setIfInBounds_toArray, List.set_cons_zero, List.set_cons_succ, List.getElem_toArray, List.getElem_cons_zero, List.getElem_cons_succ]
        refine wpAnyH_take (i := 6) (v := ?_) rfl (by kernel_rfl) (by kernel_rfl) (by kernel_rfl) (fun _ _ _ h => h) (Or.inl ⟨by rfl, ?_⟩) (by assumption) ?_
        rotate_left 1
        · ((intro w hSw; (try dsimp only at hSw); go_simp) <;> with_reducible rfl)
        try simp only [Act.put, List.setIfInBounds_toArray, List.set_cons_zero, List.set_cons_succ, List.getElem_toArray, List.getElem_cons_zero, List.getElem_cons_succ]
        refine wpAnyH_take (i := 7) (v := ?_) rfl (by kernel_rfl) (by kernel_rfl) (by kernel_rfl) (fun _ _ _ h => h) (Or.inl ⟨by rfl, ?_⟩) (by assumption) ?_
        rotate_left 1
        · ((intro w hSw; (try dsimp only at hSw); go_simp) <;> with_reducible rfl)
        try simp only [Act.put, List.setIfInBounds_toArray, List.set_cons_zero, List.set_cons_succ, List.getElem_toArray, List.getElem_cons_zero, List.getElem_cons_succ]
        refine wpAnyH_take (i := 8) (v := ?_) rfl (by kernel_rfl) (by kernel_rfl) (by kernel_rfl) (fun _ _ _ h => h) (Or.inl ⟨by rfl, ?_⟩) (by assumption) ?_
        rotate_left 1
        · ((intro w hSw; (try dsimp only at hSw); obtain ⟨⟨c0, c1, c2⟩, -⟩ := hSw; go_simp) <;> with_reducible rfl)
        try simp only [Act.put, List.setIfInBounds_toArray, List.set_cons_zero, List.set_cons_succ, List.getElem_toArray, List.getElem_cons_zero, List.getElem_cons_succ]
        refine wpAnyH_ready (rs := [9]) (by kernel_rfl) (by simp) ?_
        refine (AllReadyH.cons rfl (fun K hK => ?_) AllReadyH.nil)
        go_simp
        refine (order1_any y x _).mono ?_
        rintro e V1 ⟨⟨kk, rfl, hkk⟩, hbv⟩
        have hkt : decide (kk < 0) = true := by rw [decide_eq_true_iff, hkk]; exact hst
        refine hK.out _ _ ⟨entC_below (w := wr.drew) hbv hgr hx1, entC_below (w := wr.drew) hbv hgr hx2⟩ (fun hHeld2 => ?_)
        clear hK K
        try simp only [Act.put, List.setIfInBounds_toArray, List.set_cons_zero, List.set_cons_succ, List.getElem_toArray, List.getElem_cons_zero, List.getElem_cons_succ]
        refine wpAnyH_take (i := 10) (v := ?_) rfl (by kernel_rfl) (by kernel_rfl) (by kernel_rfl) (fun _ _ _ h => h) (Or.inl ⟨by rfl, ?_⟩) (by assumption) ?_
        rotate_left 1
        · ((intro w hSw; (try dsimp only at hSw); go_simp) <;> with_reducible rfl)
        try simp only [Act.put, List.setIfInBounds_toArray, List.set_cons_zero, List.set_cons_succ, List.getElem_toArray, List.getElem_cons_zero, List.getElem_cons_succ]
        refine wpAnyH_done (by kernel_rfl) ?_ _
        clear hHeld hHeld2
        have HCV := Lib.hid (show Chg (fun _ => False) wr V1 from (Chg.refl _ wr).drew.trans (Chg.of_below hbv))
        clear hbv hx1 hx2 hst hkk
        go_wp2_with fail
        go_roundw
        case rel => exact ⟨d + 1, j, by go_num, rfl, by omega, hjb, by omega, Lib.hid (by rw [show d + 1 - m = d - m + 1 from by omega]; exact HSK.out.up HS.out (by omega) HU.out ((lessE_high HXY.out).2 hHst.out)), Lib.hid (HC.out.trans HCV.out)⟩
        case measure => simp [intOf]; omega
      · have hHst := Lib.hid hst
        refine wp_region_held_drew (S := fun W => EntC W g b1 x ∧ EntC W g b2 y) (by kernel_rfl) ⟨hx1, hx2⟩ (fun hHeld => ?_)
        refine wpAnyH_take (i := 0) (v := ?_) rfl (by kernel_rfl) (by kernel_rfl) (by kernel_rfl) (fun _ _ _ h => h) (Or.inl ⟨by rfl, ?_⟩) (by assumption) ?_
        rotate_left 1
        · ((intro w hSw; (try dsimp only at hSw); go_simp) <;> with_reducible rfl)
        try simp only [Act.put, List.setIfInBounds_toArray, List.set_cons_zero, List.set_cons_succ, List.getElem_toArray, List.getElem_cons_zero]
        refine wpAnyH_take (i := 1) (v := ?_) rfl (by kernel_rfl) (by kernel_rfl) (by kernel_rfl) (fun _ _ _ h => h) (Or.inl ⟨by rfl, ?_⟩) (by assumption) ?_
        rotate_left 1
        · ((intro w hSw; (try dsimp only at hSw); go_simp) <;> with_reducible rfl)
        try simp only [Act.put, List.setIfInBounds_toArray, List.set_cons_zero, List.set_cons_succ, List.getElem_toArray, List.getElem_cons_zero, List.getElem_cons_succ]
        refine wpAnyH_take (i := 2) (v := ?_) rfl (by kernel_rfl) (by kernel_rfl) (by kernel_rfl) (fun _ _ _ h => h) (Or.inl ⟨by rfl, ?_⟩) (by assumption) ?_
        rotate_left 1
        · ((intro w hSw; (try dsimp only at hSw); go_simp) <;> with_reducible rfl)
        try simp only [Act.put, List.setIfInBounds_toArray, List.set_cons_zero, List.set_cons_succ, List.getElem_toArray, List.getElem_cons_zero, List.getElem_cons_succ]
        refine wpAnyH_take (i := 3) (v := ?_) rfl (by kernel_rfl) (by kernel_rfl) (by kernel_rfl) (fun _ _ _ h => h) (Or.inl ⟨by rfl, ?_⟩) (by assumption) ?_
        rotate_left 1
        · ((intro w hSw; (try dsimp only at hSw); go_simp) <;> with_reducible rfl)
        try simp only [Act.put, List.setIfInBounds_toArray, List.set_cons_zero, List.set_cons_succ, List.getElem_toArray, List.getElem_cons_zero, List.getElem_cons_succ]
        refine wpAnyH_take (i := 4) (v := ?_) rfl (by kernel_rfl) (by kernel_rfl) (by kernel_rfl) (fun _ _ _ h => h) (Or.inl ⟨by rfl, ?_⟩) (by assumption) ?_
        rotate_left 1
        · ((intro w hSw; (try dsimp only at hSw); obtain ⟨-, c0, c1, c2⟩ := hSw; go_simp) <;> with_reducible rfl)
        try simp only [Act.put, List.setIfInBounds_toArray, List.set_cons_zero, List.set_cons_succ, List.getElem_toArray, List.getElem_cons_zero, List.getElem_cons_succ]
        refine wpAnyH_take (i := 5) (v := ?_) rfl (by kernel_rfl) (by kernel_rfl) (by kernel_rfl) (fun _ _ _ h => h) (Or.inl ⟨by rfl, ?_⟩) (by assumption) ?_
        rotate_left 1
        · ((intro w hSw; (try dsimp only at hSw); go_simp) <;> with_reducible rfl)
        try simp only [Act.put, List.setIfInBounds_toArray, List.set_cons_zero, List.set_cons_succ, List.getElem_toArray, List.getElem_cons_zero, List.getElem_cons_succ]
        refine wpAnyH_take (i := 6) (v := ?_) rfl (by kernel_rfl) (by kernel_rfl) (by kernel_rfl) (fun _ _ _ h => h) (Or.inl ⟨by rfl, ?_⟩) (by assumption) ?_
        rotate_left 1
        · ((intro w hSw; (try dsimp only at hSw); go_simp) <;> with_reducible rfl)
        try simp only [Act.put, List.setIfInBounds_toArray, List.set_cons_zero, List.set_cons_succ, List.getElem_toArray, List.getElem_cons_zero, List.getElem_cons_succ]
        refine wpAnyH_take (i := 7) (v := ?_) rfl (by kernel_rfl) (by kernel_rfl) (by kernel_rfl) (fun _ _ _ h => h) (Or.inl ⟨by rfl, ?_⟩) (by assumption) ?_
        rotate_left 1
        · ((intro w hSw; (try dsimp only at hSw); go_simp) <;> with_reducible rfl)
        try simp only [Act.put, List.setIfInBounds_toArray, List.set_cons_zero, List.set_cons_succ, List.getElem_toArray, List.getElem_cons_zero, List.getElem_cons_succ]
        refine wpAnyH_take (i := 8) (v := ?_) rfl (by kernel_rfl) (by kernel_rfl) (by kernel_rfl) (fun _ _ _ h => h) (Or.inl ⟨by rfl, ?_⟩) (by assumption) ?_
        rotate_left 1
        · ((intro w hSw; (try dsimp only at hSw); obtain ⟨⟨c0, c1, c2⟩, -⟩ := hSw; go_simp) <;> with_reducible rfl)
        try simp only [Act.put, List.setIfInBounds_toArray, List.set_cons_zero, List.set_cons_succ, List.getElem_toArray, List.getElem_cons_zero, List.getElem_cons_succ]
        refine wpAnyH_ready (rs := [9]) (by kernel_rfl) (by simp) ?_
        refine (AllReadyH.cons rfl (fun K hK => ?_) AllReadyH.nil)
        go_simp
        refine (order1_any y x _).mono ?_
        rintro e V1 ⟨⟨kk, rfl, hkk⟩, hbv⟩
        have hkt : decide (kk < 0) = false := by rw [decide_eq_false_iff_not, hkk]; exact hst
        refine hK.out _ _ ⟨entC_below (w := wr.drew) hbv hgr hx1, entC_below (w := wr.drew) hbv hgr hx2⟩ (fun hHeld2 => ?_)
        clear hK K
        try simp only [Act.put, List.setIfInBounds_toArray, List.set_cons_zero, List.set_cons_succ, List.getElem_toArray, List.getElem_cons_zero, List.getElem_cons_succ]
        refine wpAnyH_take (i := 10) (v := ?_) rfl (by kernel_rfl) (by kernel_rfl) (by kernel_rfl) (fun _ _ _ h => h) (Or.inl ⟨by rfl, ?_⟩) (by assumption) ?_
        rotate_left 1
        · ((intro w hSw; (try dsimp only at hSw); go_simp) <;> with_reducible rfl)
        try simp only [Act.put, List.setIfInBounds_toArray, List.set_cons_zero, List.set_cons_succ, List.getElem_toArray, List.getElem_cons_zero, List.getElem_cons_succ]
        refine wpAnyH_done (by kernel_rfl) ?_ _
        clear hHeld hHeld2
        have HCV := Lib.hid (show Chg (fun _ => False) wr V1 from (Chg.refl _ wr).drew.trans (Chg.of_below hbv))
        clear hbv hx1 hx2 hst hkk
        go_wp2_with fail
        go_roundw
        case rel => exact ⟨i, d, rfl, rfl, hdi, by omega, hmi, Lib.hid (HSK.out.down HS.out (by omega) (by omega) HU.out ((lessE_low HXY.out).2 hHst.out)), Lib.hid (HC.out.trans HCV.out)⟩
        case measure => simp [intOf]; omega
    · obtain rfl : i = j := by omega
      clear hlt hij
      obtain ⟨V1, V2, HV⟩ : ∃ V1 V2, Hid (V1 = B.take (i - m) ∧ V2 = B.drop (i - m) ∧ V1.length = i - m ∧ V1 ++ V2 = B) := ⟨_, _, Lib.hid ⟨rfl, rfl, by have h2 := HB.out; rw [List.length_take]; omega, List.take_append_drop _ _⟩⟩
      obtain ⟨hEN, hEP⟩ := HSK.out.ends HS.out
      rw [← HV.out.1, ← HV.out.2.1] at hEN hEP
      have HEN := Lib.hid (And.intro hEN (show (V1 ++ x :: V2).Perm ([x] ++ B) from hEP))
      have HE1 := Lib.hid hE
      have HGR := Lib.hid hgr
      clear hEN hEP HSK hE hgr
      obtain ⟨wo, rfl⟩ : ∃ wo : World, wo = wr := ⟨_, rfl⟩
      have hi1 : 1 ≤ i := by have := HB.out; omega
      have wi : IntKind.i64.wrap ((i : Int) - 1) = ((i - 1 : Nat) : Int) := by rw [show ((i : Int) - 1) = ((i - 1 : Nat) : Int) from by omega]; exact IntWalk.i64_in _ (by omega)
      obtain ⟨q, hq⟩ : ∃ q, q = i - 1 := ⟨_, rfl⟩
      rw [← hq] at wi
      go_upto_region 9 with fail
      go_loopw [13] (fun s wk => ∃ (k : Nat) (U1 U2 : List EntD), s = .int .i64 (k : Int) ∧ k ≤ q ∧ Hid (k = a + U1.length ∧ U1 ++ U2 = V1 ∧ EntAt wk g o (P ++ U1 ++ x :: U2 ++ V2 ++ R) ∧ Chg (fun j => j = g) w wk)) (fun s _ => q - (intOf s).toNat)
      case atStart => exact ⟨a, [], V1, rfl, by have := HB.out; omega, Lib.hid ⟨rfl, rfl, by have h1 := HE1.out; rw [← HV.out.2.2.2] at h1; simpa [List.append_assoc] using h1, chg_no HC.out⟩⟩
      case round =>
        obtain ⟨k, U1, U2, rfl, hkq, HR⟩ := hrel
        by_cases hlt : k < q
        · obtain ⟨y, U3, hy⟩ : ∃ y U3, U2 = y :: U3 := by
            cases U2 with
            | nil => have h1 := congrArg List.length HR.out.2.1; have h2 := HR.out.1; have h3 := HV.out.2.2.1; have h4 := HB.out; simp at h1; omega
            | cons y U3 => exact ⟨y, U3, rfl⟩
          subst hy
          have hE : EntAt wr.drew g o ((P ++ U1) ++ x :: ([] ++ y :: (U3 ++ V2 ++ R))) := EntAt.drew (by have h1 := HR.out.2.2.1; simpa [List.append_assoc] using h1)
          have hl1 : k = (P ++ U1).length := by rw [HR.out.1, List.length_append, HB.out.2.2]
          have hl2 : k + 1 = (P ++ U1).length + 1 + ([] : List EntD).length := by simp [hl1]
          have hzn : k + 1 < n := by have h1 := HL.out; have h3 := HB.out; omega
          have hk2 : k ≤ 1000000 := by omega
          have wk1 : IntKind.i64.wrap ((k : Int) + 1) = (k : Int) + 1 := IntWalk.i64_in _ (by omega)
          obtain ⟨b1, hb1⟩ : ∃ z, z = o + k * 3 := ⟨_, rfl⟩
          obtain ⟨b2, hb2⟩ : ∃ z, z = o + (k + 1) * 3 := ⟨_, rfl⟩
          have i1 : ∀ W : World, (Instr.indexAt 71 (.slice (some ⟨g, o, none⟩) n c) (.int .i64 (k : Int))).run Tryd.prog W = .ok (.pointer (some ⟨g, b1, none⟩)) W := fun W => by rw [hb1]; exact idx_ent (k := k) rfl (by omega) W
          have i2 : ∀ W : World, (Instr.indexAt 71 (.slice (some ⟨g, o, none⟩) n c) (.int .i64 ((k : Int) + 1))).run Tryd.prog W = .ok (.pointer (some ⟨g, b2, none⟩)) W := fun W => by rw [hb2]; exact idx_ent (k := k + 1) rfl hzn W
          have hx1 : EntC wr.drew g b1 x := by rw [hb1]; exact entC hE (by rw [hl1]; exact get_first)
          have hx2 : EntC wr.drew g b2 y := by rw [hb2]; exact entC hE (by rw [hl2]; exact get_second)
          have ht1 : wr.drew.there g b1 3 := by rw [hb1, hl1]; exact hE.free _ (by simp)
          have ht2 : wr.drew.there g b2 3 := by rw [hb2, hl2]; exact hE.free _ (by simp only [List.length_append, List.length_cons, List.length_nil]; omega)
          have HE2 := Lib.hid (And.intro hE (And.intro ht1 (And.intro ht2 (And.intro hl1 (And.intro hl2 (And.intro hb1 hb2))))))
          clear hE ht1 ht2 hl1 hl2 hb1 hb2
          go_upto_region 11 with fail
          refine wp_region_late 15 (fun W => EntC W g b1 x ∧ EntC W g b2 y) (by kernel_rfl) ⟨hx1, hx2⟩ (fun hHeld => ?_)
          refine late_take (i := 0) (v := ?_) rfl (by kernel_rfl) (by kernel_rfl) (by kernel_rfl) (fun _ _ _ h => h) (by decide) (Or.inl ⟨by rfl, ?_⟩) (fun _ => hHeld) ?_
          rotate_left 1
          · ((intro w _; go_simp) <;> with_reducible rfl)
          try simp only [Act.put, List.setIfInBounds_toArray, List.set_cons_zero, List.set_cons_succ, List.getElem_toArray, List.getElem_cons_zero]
          refine late_take (i := 1) (v := ?_) rfl (by kernel_rfl) (by kernel_rfl) (by kernel_rfl) (fun _ _ _ h => h) (by decide) (Or.inl ⟨by rfl, ?_⟩) (fun _ => hHeld) ?_
          rotate_left 1
          · ((intro w _; go_simp) <;> with_reducible rfl)
          try simp only [Act.put, List.setIfInBounds_toArray, List.set_cons_zero, List.set_cons_succ, List.getElem_toArray, List.getElem_cons_zero, List.getElem_cons_succ]
          refine late_take (i := 2) (v := ?_) rfl (by kernel_rfl) (by kernel_rfl) (by kernel_rfl) (fun _ _ _ h => h) (by decide) (Or.inl ⟨by rfl, ?_⟩) (fun _ => hHeld) ?_
          rotate_left 1
          · ((intro w _; go_simp) <;> with_reducible rfl)
          try simp only [Act.put, List.setIfInBounds_toArray, List.set_cons_zero, List.set_cons_succ, List.getElem_toArray, List.getElem_cons_zero, List.getElem_cons_succ]
          refine late_take (i := 3) (v := ?_) rfl (by kernel_rfl) (by kernel_rfl) (by kernel_rfl) (fun _ _ _ h => h) (by decide) (Or.inl ⟨by rfl, ?_⟩) (fun _ => hHeld) ?_
          rotate_left 1
          · ((intro w _; go_simp) <;> with_reducible rfl)
          try simp only [Act.put, List.setIfInBounds_toArray, List.set_cons_zero, List.set_cons_succ, List.getElem_toArray, List.getElem_cons_zero, List.getElem_cons_succ]
          refine late_take (i := 4) (v := ?_) rfl (by kernel_rfl) (by kernel_rfl) (by kernel_rfl) (fun _ _ _ h => h) (by decide) (Or.inl ⟨by rfl, ?_⟩) (fun _ => hHeld) ?_
          rotate_left 1
          · ((intro w _; go_simp) <;> with_reducible rfl)
          try simp only [Act.put, List.setIfInBounds_toArray, List.set_cons_zero, List.set_cons_succ, List.getElem_toArray, List.getElem_cons_zero, List.getElem_cons_succ]
          refine late_take (i := 5) (v := ?_) rfl (by kernel_rfl) (by kernel_rfl) (by kernel_rfl) (fun _ _ _ h => h) (by decide) (Or.inl ⟨by rfl, ?_⟩) (fun _ => hHeld) ?_
          rotate_left 1
          · ((intro w _; go_simp) <;> with_reducible rfl)
          try simp only [Act.put, List.setIfInBounds_toArray, List.set_cons_zero, List.set_cons_succ, List.getElem_toArray, List.getElem_cons_zero, List.getElem_cons_succ]
          refine late_take (i := 6) (v := ?_) rfl (by kernel_rfl) (by kernel_rfl) (by kernel_rfl) (fun _ _ _ h => h) (by decide) (Or.inl ⟨by rfl, ?_⟩) (fun _ => hHeld) ?_
          rotate_left 1
          · ((intro w _; go_simp) <;> with_reducible rfl)
          try simp only [Act.put, List.setIfInBounds_toArray, List.set_cons_zero, List.set_cons_succ, List.getElem_toArray, List.getElem_cons_zero, List.getElem_cons_succ]
          refine late_take (i := 7) (v := ?_) rfl (by kernel_rfl) (by kernel_rfl) (by kernel_rfl) (fun _ _ _ h => h) (by decide) (Or.inl ⟨by rfl, ?_⟩) (fun _ => hHeld) ?_
          rotate_left 1
          · ((intro w _; go_simp) <;> with_reducible rfl)
          try simp only [Act.put, List.setIfInBounds_toArray, List.set_cons_zero, List.set_cons_succ, List.getElem_toArray, List.getElem_cons_zero, List.getElem_cons_succ]
          refine late_take (i := 8) (v := ?_) rfl (by kernel_rfl) (by kernel_rfl) (by kernel_rfl) (fun _ _ _ h => h) (by decide) (Or.inl ⟨by rfl, ?_⟩) (fun _ => hHeld) ?_
          rotate_left 1
          · ((intro w _; go_simp) <;> with_reducible rfl)
          try simp only [Act.put, List.setIfInBounds_toArray, List.set_cons_zero, List.set_cons_succ, List.getElem_toArray, List.getElem_cons_zero, List.getElem_cons_succ]
          refine late_read (i := 9) (v := ?_) rfl (by kernel_rfl) (by kernel_rfl) (by kernel_rfl) (fun _ _ _ h => h) (by decide) rfl (by kernel_rfl) (Or.inl ⟨by rfl, ?_⟩) hHeld (by kernel_rfl) ?_
          rotate_left 1
          · ((intro w hSw; (try dsimp only at hSw); obtain ⟨-, c0, c1, c2⟩ := hSw; go_simp) <;> with_reducible rfl)
          try simp only [Act.put, List.setIfInBounds_toArray, List.set_cons_zero, List.set_cons_succ, List.getElem_toArray, List.getElem_cons_zero, List.getElem_cons_succ]
          refine late_take (i := 10) (v := ?_) rfl (by kernel_rfl) (by kernel_rfl) (by kernel_rfl) (fun _ _ _ h => h) (by decide) (Or.inl ⟨by rfl, ?_⟩) (fun _ => hHeld) ?_
          rotate_left 1
          · ((intro w _; go_simp) <;> with_reducible rfl)
          try simp only [Act.put, List.setIfInBounds_toArray, List.set_cons_zero, List.set_cons_succ, List.getElem_toArray, List.getElem_cons_zero, List.getElem_cons_succ]
          refine late_take (i := 11) (v := ?_) rfl (by kernel_rfl) (by kernel_rfl) (by kernel_rfl) (fun _ _ _ h => h) (by decide) (Or.inl ⟨by rfl, ?_⟩) (fun _ => hHeld) ?_
          rotate_left 1
          · ((intro w _; go_simp) <;> with_reducible rfl)
          try simp only [Act.put, List.setIfInBounds_toArray, List.set_cons_zero, List.set_cons_succ, List.getElem_toArray, List.getElem_cons_zero, List.getElem_cons_succ]
          refine late_take (i := 12) (v := ?_) rfl (by kernel_rfl) (by kernel_rfl) (by kernel_rfl) (fun _ _ _ h => h) (by decide) (Or.inl ⟨by rfl, ?_⟩) (fun _ => hHeld) ?_
          rotate_left 1
          · ((intro w _; go_simp) <;> with_reducible rfl)
          try simp only [Act.put, List.setIfInBounds_toArray, List.set_cons_zero, List.set_cons_succ, List.getElem_toArray, List.getElem_cons_zero, List.getElem_cons_succ]
          refine late_read (i := 13) (v := ?_) rfl (by kernel_rfl) (by kernel_rfl) (by kernel_rfl) (fun _ _ _ h => h) (by decide) rfl (by kernel_rfl) (Or.inl ⟨by rfl, ?_⟩) hHeld (by kernel_rfl) ?_
          rotate_left 1
          · ((intro w hSw; (try dsimp only at hSw); obtain ⟨⟨c0, c1, c2⟩, -⟩ := hSw; go_simp) <;> with_reducible rfl)
          try simp only [Act.put, List.setIfInBounds_toArray, List.set_cons_zero, List.set_cons_succ, List.getElem_toArray, List.getElem_cons_zero, List.getElem_cons_succ]
          refine late_take (i := 14) (v := ?_) rfl (by kernel_rfl) (by kernel_rfl) (by kernel_rfl) (fun _ _ _ h => h) (by decide) (Or.inl ⟨by rfl, ?_⟩) (fun _ => hHeld) ?_
          rotate_left 1
          · ((intro w _; go_simp) <;> with_reducible rfl)
          try simp only [Act.put, List.setIfInBounds_toArray, List.set_cons_zero, List.set_cons_succ, List.getElem_toArray, List.getElem_cons_zero, List.getElem_cons_succ]
          refine late_one (i := 15) (by kernel_rfl) rfl (fun K hK => ?_)
          rw [if_pos (by rfl)]
          refine wp_store_mid 76 (.tmp 75) (.tmp 70) rfl g b1 #[.int .i64 y.step, .int .i64 y.call, .int .i64 y.drop] (by rfl) (by rfl) HE2.out.2.1 (by kernel_rfl) (by simp [Value.oneCell']) ?_
          refine hK.out _ _ (fun _ h => absurd rfl h) ?_
          clear hK K
          try simp only [Act.put, List.getElem_toArray, List.getElem_cons_zero, List.getElem_cons_succ]
          refine late_take (i := 16) (v := ?_) rfl (by kernel_rfl) (by kernel_rfl) (by kernel_rfl) (fun _ _ _ h => h) (by decide) (Or.inl ⟨by rfl, ?_⟩) (fun h => absurd h (by simp)) ?_
          rotate_left 1
          · ((intro w _; go_simp) <;> with_reducible rfl)
          try simp only [Act.put, List.setIfInBounds_toArray, List.set_cons_zero, List.set_cons_succ, List.getElem_toArray, List.getElem_cons_zero, List.getElem_cons_succ]
          refine late_one (i := 17) (by kernel_rfl) rfl (fun K hK => ?_)
          rw [if_pos (by rfl)]
          refine wp_store_mid 76 (.tmp 76) (.tmp 74) rfl g b2 #[.int .i64 x.step, .int .i64 x.call, .int .i64 x.drop] (by rfl) (by rfl) (World.there_setCells HE2.out.2.2.1 _ _ _) (by kernel_rfl) (by simp [Value.oneCell']) ?_
          refine hK.out _ _ (fun h => absurd h (by simp)) ?_
          clear hK K
          try simp only [Act.put, List.getElem_toArray, List.getElem_cons_zero, List.getElem_cons_succ]
          refine late_done (by kernel_rfl) ?_
          clear hHeld
          have hE3 := EntAt.swap2 (W := wr.drew) HE2.out.1 HE2.out.2.2.2.1 HE2.out.2.2.2.2.1
          rw [← HE2.out.2.2.2.2.2.1, ← HE2.out.2.2.2.2.2.2] at hE3
          have hc3 : Chg (fun j => j = g) wr ((wr.drew.setCells g b1 (entCells y)).setCells g b2 (entCells x)) := Chg.setCells (M := fun j => j = g) (g := g) (fun _ => rfl) _ _ (Chg.setCells (M := fun j => j = g) (g := g) (fun _ => rfl) _ _ (Chg.refl _ _).drew)
          have HE3 := Lib.hid (And.intro hE3 hc3)
          clear hE3 hc3 HE2
          go_wp2_with fail
          go_roundw
          case rel => exact ⟨k + 1, U1 ++ [y], U3, by go_num, by omega, Lib.hid ⟨by have h1 := HR.out.1; simp; omega, by rw [← HR.out.2.1]; simp, by have h2 := HE3.out.1; simpa [List.append_assoc] using h2, HR.out.2.2.2.trans HE3.out.2⟩⟩
          case measure => simp [intOf]; omega
        · go_wp2_with fail
          have h1 : U2 = [] := List.eq_nil_of_length_eq_zero (by have h1 := congrArg List.length HR.out.2.1; have h2 := HR.out.1; have h3 := HV.out.2.2.1; have h4 := HB.out; simp at h1; omega)
          have h2 : U1 = V1 := by have h3 := HR.out.2.1; rw [h1, List.append_nil] at h3; exact h3
          have hE : EntAt wr g o (P ++ (V1 ++ x :: V2) ++ R) := by have h3 := HR.out.2.2.1; rw [h1, h2] at h3; simpa [List.append_assoc] using h3
          exact bodyPost_ret (results_none (by exact Tryd.results84) _ _ _) rfl ⟨⟨_, rfl⟩, _, HEN.out.1, HEN.out.2, hE, HR.out.2.2.2⟩
set_option maxRecDepth 100000 in
set_option maxHeartbeats 8000000 in
theorem symB_any {w : World} {g o n c nc a m b : Nat} {P A B R : List EntD} {y : EntD} (h : EntAt w g o (P ++ A ++ B ++ R)) (hg : g < w.heap.size) (hn : n = (P ++ A ++ B ++ R).length) (hmx : n ≤ 1000000) (ha : a = P.length) (hm : m = P.length + A.length) (hb : b = P.length + A.length + B.length) (hA1 : A.length ≠ 1) (hB : B = [y]) (hS : SortE nc A) (hlow : LowE nc A B) : Calls Tryd.prog 84 #[.slice (some ⟨g, o, none⟩) n c, .int .i64 (a : Int), .int .i64 (m : Int), .int .i64 (b : Int), cmpF] w fun e w' => (∃ v, e = .returned v) ∧ MergeOk w g o nc P A B R w' := by
  subst hB
  have hl : m = a + A.length := by omega
  have hmb : b = m + 1 := by simp at hb; omega
  have HL := Lib.hid (show b + R.length = n from by rw [hn, hb]; simp; omega)
  have HB := Lib.hid (And.intro hl (And.intro hmb ha))
  have hbm : b ≤ 1000000 := by have := HL.out; omega
  have hmm : m ≤ 1000000 := by omega
  have ham : a ≤ 1000000 := by omega
  have hab : a < b := by omega
  have hamm : a ≤ m := by omega
  have hmb2 : m < b := by omega
  have hw0 : IntKind.i64.wrap ((m : Int) - (a : Int)) = ((A.length : Nat) : Int) := by rw [show ((m : Int) - (a : Int)) = ((A.length : Nat) : Int) from by omega]; exact IntWalk.i64_in _ (by omega)
  have hq0 : (((A.length : Nat) : Int) == 1) = false := by rw [beq_eq_false_iff_ne]; omega
  have hw1 : IntKind.i64.wrap ((b : Int) - (m : Int)) = 1 := by rw [show ((b : Int) - (m : Int)) = 1 from by omega]; rfl
  have HLOW := Lib.hid hlow
  have HS := Lib.hid hS
  have HG := Lib.hid hg
  have HE := Lib.hid h
  clear hn ha hm hb hg h hlow hS hl hmb
  go_enter Tryd.func84, Tryd.ntmps84
  go_upto_region 15 with fail
  go_loopw [14, 15] (fun si sj wr => ∃ (i j : Nat), si = .int .i64 (i : Int) ∧ sj = .int .i64 (j : Int) ∧ i ≤ j ∧ j ≤ m ∧ a ≤ i ∧ Hid (Seek nc A y (i - a) (j - a)) ∧ Hid (Chg (fun _ => False) w wr)) (fun si sj _ => (intOf sj).toNat - (intOf si).toNat)
  case atStart => exact ⟨a, m, rfl, rfl, by omega, by omega, by omega, Lib.hid (by have h1 := Seek.start (nc := nc) A y; have h2 := HB.out.1; rw [show m - a = A.length from by omega, Nat.sub_self]; exact h1), Lib.hid (Chg.refl _ _)⟩
  case round =>
    obtain ⟨i, j, rfl, rfl, hij, hjb, hmi, HSK, HC⟩ := hrel
    have hE : EntAt wr g o (P ++ A ++ [y] ++ R) := by have h1 := HE.out.kept (M := fun _ => False) HC.out HG.out id; simpa [List.append_assoc] using h1
    have hgr : g < wr.heap.size := Nat.lt_of_lt_of_le HG.out HC.out.size
    by_cases hlt : i < j
    · obtain ⟨t, ht⟩ : ∃ t, t = i + j := ⟨_, rfl⟩
      obtain ⟨d, hd⟩ : ∃ d, d = t / 2 := ⟨_, rfl⟩
      have hdi : i ≤ d := by omega
      have hdj : d < j := by omega
      have wt : IntKind.i64.wrap ((i : Int) + (j : Int)) = (t : Int) := by rw [ht]; exact IntWalk.i64_in _ (by omega)
      have wt2 : IntKind.u64.wrap (t : Int) = (t : Int) := IntWalk.u64_in _ (by omega)
      have wt3 : IntKind.i64.wrap ((t : Int) / 2) = (d : Int) := by rw [hd]; exact half_run t (by omega)
      clear ht hd
      go_upto_region 17 with fail
      obtain ⟨x, hx⟩ : ∃ x, A[d - a]? = some x := ⟨_, List.getElem?_eq_getElem (by have := HB.out; omega)⟩
      have hxy : rkE nc x < rkE nc y := HLOW.out x (List.mem_of_getElem? hx) y (by simp)
      obtain ⟨b1, hb1⟩ : ∃ z, z = o + m * 3 := ⟨_, rfl⟩
      obtain ⟨b2, hb2⟩ : ∃ z, z = o + d * 3 := ⟨_, rfl⟩
      have i1 : ∀ W : World, (Instr.indexAt 71 (.slice (some ⟨g, o, none⟩) n c) (.int .i64 (m : Int))).run Tryd.prog W = .ok (.pointer (some ⟨g, b1, none⟩)) W := fun W => by rw [hb1]; exact idx_ent (k := m) rfl (by have := HL.out; omega) W
      have i2 : ∀ W : World, (Instr.indexAt 71 (.slice (some ⟨g, o, none⟩) n c) (.int .i64 (d : Int))).run Tryd.prog W = .ok (.pointer (some ⟨g, b2, none⟩)) W := fun W => by rw [hb2]; exact idx_ent (k := d) rfl (by have := HL.out; omega) W
      have hx1 : EntC wr g b1 y := by rw [hb1]; exact entC hE (by have h2 := HB.out; rw [List.append_assoc, List.append_assoc, List.getElem?_append_right (by omega), List.getElem?_append_right (by omega), show m - P.length - A.length = 0 from by omega]; rfl)
      have hx2 : EntC wr g b2 x := by rw [hb2]; exact entC hE (by have h2 := HB.out; have h4 := (List.getElem?_eq_some_iff.1 hx).1; rw [List.append_assoc, List.append_assoc, List.getElem?_append_right (by omega), List.getElem?_append_left (by omega), show d - P.length = d - a from by omega]; exact hx)
      have HXY := Lib.hid hxy
      have HU := Lib.hid hx
      clear hE hb1 hb2 hxy hx
      by_cases hst : y.step < x.step
      · have hHst := Lib.hid hst
        refine wp_region_held_drew (S := fun W => EntC W g b1 y ∧ EntC W g b2 x) (by kernel_rfl) ⟨hx1, hx2⟩ (fun hHeld => ?_)
        refine wpAnyH_take (i := 0) (v := ?_) rfl (by kernel_rfl) (by kernel_rfl) (by kernel_rfl) (fun _ _ _ h => h) (Or.inl ⟨by rfl, ?_⟩) (by assumption) ?_
        rotate_left 1
        · ((intro w hSw; (try dsimp only at hSw); go_simp) <;> with_reducible rfl)
        try simp only [Act.put, List.setIfInBounds_toArray, List.set_cons_zero, List.set_cons_succ, List.getElem_toArray, List.getElem_cons_zero]
        refine wpAnyH_take (i := 1) (v := ?_) rfl (by kernel_rfl) (by kernel_rfl) (by kernel_rfl) (fun _ _ _ h => h) (Or.inl ⟨by rfl, ?_⟩) (by assumption) ?_
        rotate_left 1
        · ((intro w hSw; (try dsimp only at hSw); go_simp) <;> with_reducible rfl)
        try simp only [Act.put, List.setIfInBounds_toArray, List.set_cons_zero, List.set_cons_succ, List.getElem_toArray, List.getElem_cons_zero, List.getElem_cons_succ]
        refine wpAnyH_take (i := 2) (v := ?_) rfl (by kernel_rfl) (by kernel_rfl) (by kernel_rfl) (fun _ _ _ h => h) (Or.inl ⟨by rfl, ?_⟩) (by assumption) ?_
        rotate_left 1
        · ((intro w hSw; (try dsimp only at hSw); go_simp) <;> with_reducible rfl)
        try simp only [Act.put, List.setIfInBounds_toArray, List.set_cons_zero, List.set_cons_succ, List.getElem_toArray, List.getElem_cons_zero, List.getElem_cons_succ]
        refine wpAnyH_take (i := 3) (v := ?_) rfl (by kernel_rfl) (by kernel_rfl) (by kernel_rfl) (fun _ _ _ h => h) (Or.inl ⟨by rfl, ?_⟩) (by assumption) ?_
        rotate_left 1
        · ((intro w hSw; (try dsimp only at hSw); go_simp) <;> with_reducible rfl)
        try simp only [Act.put, List.setIfInBounds_toArray, List.set_cons_zero, List.set_cons_succ, List.getElem_toArray, List.getElem_cons_zero, List.getElem_cons_succ]
        refine wpAnyH_take (i := 4) (v := ?_) rfl (by kernel_rfl) (by kernel_rfl) (by kernel_rfl) (fun _ _ _ h => h) (Or.inl ⟨by rfl, ?_⟩) (by assumption) ?_
        rotate_left 1
        · ((intro w hSw; (try dsimp only at hSw); obtain ⟨⟨c0, c1, c2⟩, -⟩ := hSw; go_simp) <;> with_reducible rfl)
        try simp only [Act.put, List.setIfInBounds_toArray, List.set_cons_zero, List.set_cons_succ, List.getElem_toArray, List.getElem_cons_zero, List.getElem_cons_succ]
        refine wpAnyH_take (i := 5) (v := ?_) rfl (by kernel_rfl) (by kernel_rfl) (by kernel_rfl) (fun _ _ _ h => h) (Or.inl ⟨by rfl, ?_⟩) (by assumption) ?_
        rotate_left 1
        · ((intro w hSw; (try dsimp only at hSw); go_simp) <;> with_reducible rfl)
        try simp only [Act.put, List.setIfInBounds_toArray, List.set_cons_zero, List.set_cons_succ, List.getElem_toArray, List.getElem_cons_zero, List.getElem_cons_succ]
        refine wpAnyH_take (i := 6) (v := ?_) rfl (by kernel_rfl) (by kernel_rfl) (by kernel_rfl) (fun _ _ _ h => h) (Or.inl ⟨by rfl, ?_⟩) (by assumption) ?_
        rotate_left 1
        · ((intro w hSw; (try dsimp only at hSw); go_simp) <;> with_reducible rfl)
        try simp only [Act.put, List.setIfInBounds_toArray, List.set_cons_zero, List.set_cons_succ, List.getElem_toArray, List.getElem_cons_zero, List.getElem_cons_succ]
        refine wpAnyH_take (i := 7) (v := ?_) rfl (by kernel_rfl) (by kernel_rfl) (by kernel_rfl) (fun _ _ _ h => h) (Or.inl ⟨by rfl, ?_⟩) (by assumption) ?_
        rotate_left 1
        · ((intro w hSw; (try dsimp only at hSw); go_simp) <;> with_reducible rfl)
        try simp only [Act.put, List.setIfInBounds_toArray, List.set_cons_zero, List.set_cons_succ, List.getElem_toArray, List.getElem_cons_zero, List.getElem_cons_succ]
        refine wpAnyH_take (i := 8) (v := ?_) rfl (by kernel_rfl) (by kernel_rfl) (by kernel_rfl) (fun _ _ _ h => h) (Or.inl ⟨by rfl, ?_⟩) (by assumption) ?_
        rotate_left 1
        · ((intro w hSw; (try dsimp only at hSw); obtain ⟨-, c0, c1, c2⟩ := hSw; go_simp) <;> with_reducible rfl)
        try simp only [Act.put, List.setIfInBounds_toArray, List.set_cons_zero, List.set_cons_succ, List.getElem_toArray, List.getElem_cons_zero, List.getElem_cons_succ]
        refine wpAnyH_ready (rs := [9]) (by kernel_rfl) (by simp) ?_
        refine (AllReadyH.cons rfl (fun K hK => ?_) AllReadyH.nil)
        go_simp
        refine (order1_any y x _).mono ?_
        rintro e V1 ⟨⟨kk, rfl, hkk⟩, hbv⟩
        have hkt : decide (kk < 0) = true := by rw [decide_eq_true_iff, hkk]; exact hst
        refine hK.out _ _ ⟨entC_below (w := wr.drew) hbv hgr hx1, entC_below (w := wr.drew) hbv hgr hx2⟩ (fun hHeld2 => ?_)
        clear hK K
        try simp only [Act.put, List.setIfInBounds_toArray, List.set_cons_zero, List.set_cons_succ, List.getElem_toArray, List.getElem_cons_zero, List.getElem_cons_succ]
        refine wpAnyH_take (i := 10) (v := ?_) rfl (by kernel_rfl) (by kernel_rfl) (by kernel_rfl) (fun _ _ _ h => h) (Or.inl ⟨by rfl, ?_⟩) (by assumption) ?_
        rotate_left 1
        · ((intro w hSw; (try dsimp only at hSw); go_simp) <;> with_reducible rfl)
        try simp only [Act.put, List.setIfInBounds_toArray, List.set_cons_zero, List.set_cons_succ, List.getElem_toArray, List.getElem_cons_zero, List.getElem_cons_succ]
        refine wpAnyH_take (i := 11) (v := ?_) rfl (by kernel_rfl) (by kernel_rfl) (by kernel_rfl) (fun _ _ _ h => h) (Or.inl ⟨by rfl, ?_⟩) (by assumption) ?_
        rotate_left 1
        · ((intro w hSw; (try dsimp only at hSw); go_simp) <;> with_reducible rfl)
        try simp only [Act.put, List.setIfInBounds_toArray, List.set_cons_zero, List.set_cons_succ, List.getElem_toArray, List.getElem_cons_zero, List.getElem_cons_succ]
        refine wpAnyH_done (by kernel_rfl) ?_ _
        clear hHeld hHeld2
        have HCV := Lib.hid (show Chg (fun _ => False) wr V1 from (Chg.refl _ wr).drew.trans (Chg.of_below hbv))
        clear hbv hx1 hx2 hst hkk
        go_wp2_with fail
        go_roundw
        case rel => exact ⟨i, d, rfl, rfl, hdi, by omega, hmi, Lib.hid (HSK.out.down HS.out (by omega) (by omega) HU.out ((lessE_high HXY.out).2 hHst.out)), Lib.hid (HC.out.trans HCV.out)⟩
        case measure => simp [intOf]; omega
      · have hHst := Lib.hid hst
        refine wp_region_held_drew (S := fun W => EntC W g b1 y ∧ EntC W g b2 x) (by kernel_rfl) ⟨hx1, hx2⟩ (fun hHeld => ?_)
        refine wpAnyH_take (i := 0) (v := ?_) rfl (by kernel_rfl) (by kernel_rfl) (by kernel_rfl) (fun _ _ _ h => h) (Or.inl ⟨by rfl, ?_⟩) (by assumption) ?_
        rotate_left 1
        · ((intro w hSw; (try dsimp only at hSw); go_simp) <;> with_reducible rfl)
        try simp only [Act.put, List.setIfInBounds_toArray, List.set_cons_zero, List.set_cons_succ, List.getElem_toArray, List.getElem_cons_zero]
        refine wpAnyH_take (i := 1) (v := ?_) rfl (by kernel_rfl) (by kernel_rfl) (by kernel_rfl) (fun _ _ _ h => h) (Or.inl ⟨by rfl, ?_⟩) (by assumption) ?_
        rotate_left 1
        · ((intro w hSw; (try dsimp only at hSw); go_simp) <;> with_reducible rfl)
        try simp only [Act.put, List.setIfInBounds_toArray, List.set_cons_zero, List.set_cons_succ, List.getElem_toArray, List.getElem_cons_zero, List.getElem_cons_succ]
        refine wpAnyH_take (i := 2) (v := ?_) rfl (by kernel_rfl) (by kernel_rfl) (by kernel_rfl) (fun _ _ _ h => h) (Or.inl ⟨by rfl, ?_⟩) (by assumption) ?_
        rotate_left 1
        · ((intro w hSw; (try dsimp only at hSw); go_simp) <;> with_reducible rfl)
        try simp only [Act.put, List.setIfInBounds_toArray, List.set_cons_zero, List.set_cons_succ, List.getElem_toArray, List.getElem_cons_zero, List.getElem_cons_succ]
        refine wpAnyH_take (i := 3) (v := ?_) rfl (by kernel_rfl) (by kernel_rfl) (by kernel_rfl) (fun _ _ _ h => h) (Or.inl ⟨by rfl, ?_⟩) (by assumption) ?_
        rotate_left 1
        · ((intro w hSw; (try dsimp only at hSw); go_simp) <;> with_reducible rfl)
        try simp only [Act.put, List.setIfInBounds_toArray, List.set_cons_zero, List.set_cons_succ, List.getElem_toArray, List.getElem_cons_zero, List.getElem_cons_succ]
        refine wpAnyH_take (i := 4) (v := ?_) rfl (by kernel_rfl) (by kernel_rfl) (by kernel_rfl) (fun _ _ _ h => h) (Or.inl ⟨by rfl, ?_⟩) (by assumption) ?_
        rotate_left 1
        · ((intro w hSw; (try dsimp only at hSw); obtain ⟨⟨c0, c1, c2⟩, -⟩ := hSw; go_simp) <;> with_reducible rfl)
        try simp only [Act.put, List.setIfInBounds_toArray, List.set_cons_zero, List.set_cons_succ, List.getElem_toArray, List.getElem_cons_zero, List.getElem_cons_succ]
        refine wpAnyH_take (i := 5) (v := ?_) rfl (by kernel_rfl) (by kernel_rfl) (by kernel_rfl) (fun _ _ _ h => h) (Or.inl ⟨by rfl, ?_⟩) (by assumption) ?_
        rotate_left 1
        · ((intro w hSw; (try dsimp only at hSw); go_simp) <;> with_reducible rfl)
        try simp only [Act.put, List.setIfInBounds_toArray, List.set_cons_zero, List.set_cons_succ, List.getElem_toArray, List.getElem_cons_zero, List.getElem_cons_succ]
        refine wpAnyH_take (i := 6) (v := ?_) rfl (by kernel_rfl) (by kernel_rfl) (by kernel_rfl) (fun _ _ _ h => h) (Or.inl ⟨by rfl, ?_⟩) (by assumption) ?_
        rotate_left 1
        · ((intro w hSw; (try dsimp only at hSw); go_simp) <;> with_reducible rfl)
        try simp only [Act.put, List.setIfInBounds_toArray, List.set_cons_zero, List.set_cons_succ, List.getElem_toArray, List.getElem_cons_zero, List.getElem_cons_succ]
        refine wpAnyH_take (i := 7) (v := ?_) rfl (by kernel_rfl) (by kernel_rfl) (by kernel_rfl) (fun _ _ _ h => h) (Or.inl ⟨by rfl, ?_⟩) (by assumption) ?_
        rotate_left 1
        · ((intro w hSw; (try dsimp only at hSw); go_simp) <;> with_reducible rfl)
        try simp only [Act.put, List.setIfInBounds_toArray, List.set_cons_zero, List.set_cons_succ, List.getElem_toArray, List.getElem_cons_zero, List.getElem_cons_succ]
        refine wpAnyH_take (i := 8) (v := ?_) rfl (by kernel_rfl) (by kernel_rfl) (by kernel_rfl) (fun _ _ _ h => h) (Or.inl ⟨by rfl, ?_⟩) (by assumption) ?_
        rotate_left 1
        · ((intro w hSw; (try dsimp only at hSw); obtain ⟨-, c0, c1, c2⟩ := hSw; go_simp) <;> with_reducible rfl)
        try simp only [Act.put, List.setIfInBounds_toArray, List.set_cons_zero, List.set_cons_succ, List.getElem_toArray, List.getElem_cons_zero, List.getElem_cons_succ]
        refine wpAnyH_ready (rs := [9]) (by kernel_rfl) (by simp) ?_
        refine (AllReadyH.cons rfl (fun K hK => ?_) AllReadyH.nil)
        go_simp
        refine (order1_any y x _).mono ?_
        rintro e V1 ⟨⟨kk, rfl, hkk⟩, hbv⟩
        have hkt : decide (kk < 0) = false := by rw [decide_eq_false_iff_not, hkk]; exact hst
        refine hK.out _ _ ⟨entC_below (w := wr.drew) hbv hgr hx1, entC_below (w := wr.drew) hbv hgr hx2⟩ (fun hHeld2 => ?_)
        clear hK K
        try simp only [Act.put, List.setIfInBounds_toArray, List.set_cons_zero, List.set_cons_succ, List.getElem_toArray, List.getElem_cons_zero, List.getElem_cons_succ]
        refine wpAnyH_take (i := 10) (v := ?_) rfl (by kernel_rfl) (by kernel_rfl) (by kernel_rfl) (fun _ _ _ h => h) (Or.inl ⟨by rfl, ?_⟩) (by assumption) ?_
        rotate_left 1
        · ((intro w hSw; (try dsimp only at hSw); go_simp) <;> with_reducible rfl)
        try simp only [Act.put, List.setIfInBounds_toArray, List.set_cons_zero, List.set_cons_succ, List.getElem_toArray, List.getElem_cons_zero, List.getElem_cons_succ]
        refine wpAnyH_take (i := 11) (v := ?_) rfl (by kernel_rfl) (by kernel_rfl) (by kernel_rfl) (fun _ _ _ h => h) (Or.inl ⟨by rfl, ?_⟩) (by assumption) ?_
        rotate_left 1
        · ((intro w hSw; (try dsimp only at hSw); go_simp) <;> with_reducible rfl)
        try simp only [Act.put, List.setIfInBounds_toArray, List.set_cons_zero, List.set_cons_succ, List.getElem_toArray, List.getElem_cons_zero, List.getElem_cons_succ]
        refine wpAnyH_done (by kernel_rfl) ?_ _
        clear hHeld hHeld2
        have HCV := Lib.hid (show Chg (fun _ => False) wr V1 from (Chg.refl _ wr).drew.trans (Chg.of_below hbv))
        clear hbv hx1 hx2 hst hkk
        go_wp2_with fail
        go_roundw
        case rel => exact ⟨d + 1, j, by go_num, rfl, by omega, hjb, by omega, Lib.hid (by rw [show d + 1 - a = d - a + 1 from by omega]; exact HSK.out.up HS.out (by omega) HU.out ((lessE_low HXY.out).2 hHst.out)), Lib.hid (HC.out.trans HCV.out)⟩
        case measure => simp [intOf]; omega
    · obtain rfl : i = j := by omega
      clear hlt hij
      obtain ⟨V1, V2, HV⟩ : ∃ V1 V2, Hid (V1 = A.take (i - a) ∧ V2 = A.drop (i - a) ∧ V1.length = i - a ∧ V1 ++ V2 = A) := ⟨_, _, Lib.hid ⟨rfl, rfl, by have h2 := HB.out; rw [List.length_take]; omega, List.take_append_drop _ _⟩⟩
      obtain ⟨hEN, hEP⟩ := HSK.out.ends HS.out
      rw [← HV.out.1, ← HV.out.2.1] at hEN hEP
      have HEN := Lib.hid (And.intro hEN (show (V1 ++ y :: V2).Perm (A ++ [y]) from hEP.trans (List.perm_append_singleton y A).symm))
      have HE1 := Lib.hid hE
      have HGR := Lib.hid hgr
      clear hEN hEP HSK hE hgr
      obtain ⟨wo, rfl⟩ : ∃ wo : World, wo = wr := ⟨_, rfl⟩
      go_upto_region 21 with fail
      go_loopw [17] (fun s wk => ∃ (k : Nat) (U1 U2 : List EntD), s = .int .i64 (k : Int) ∧ i ≤ k ∧ k ≤ 1000000 ∧ Hid (k = i + U1.length ∧ U1 ++ U2 = V2 ∧ EntAt wk g o (P ++ V1 ++ U1 ++ y :: U2 ++ R) ∧ Chg (fun j => j = g) w wk)) (fun s _ => (intOf s).toNat)
      case atStart => exact ⟨m, V2, [], rfl, hjb, hmm, Lib.hid ⟨by have h1 := congrArg List.length HV.out.2.2.2; have h2 := HV.out.2.2.1; have h3 := HB.out; simp at h1; omega, by simp, by have h1 := HE1.out; rw [← HV.out.2.2.2] at h1; simpa [List.append_assoc] using h1, chg_no HC.out⟩⟩
      case round =>
        obtain ⟨k, U1, U2, rfl, hik, hkm, HR⟩ := hrel
        by_cases hlt : i < k
        · rcases List.eq_nil_or_concat U1 with hU | ⟨U3, x, hU⟩
          · subst hU
            have := HR.out.1
            simp at this
            omega
          · rw [List.concat_eq_append] at hU
            subst hU
            have hk1 : 1 ≤ k := by omega
            obtain ⟨q, hq⟩ : ∃ q, q + 1 = k := ⟨k - 1, by omega⟩
            have wq : IntKind.i64.wrap ((k : Int) - 1) = (q : Int) := by rw [show ((k : Int) - 1) = (q : Int) from by omega]; exact IntWalk.i64_in _ (by omega)
            have hE : EntAt wr.drew g o ((P ++ V1 ++ U3) ++ x :: ([] ++ y :: (U2 ++ R))) := EntAt.drew (by have h1 := HR.out.2.2.1; simpa [List.append_assoc] using h1)
            have hl1 : q = (P ++ V1 ++ U3).length := by have h1 := HR.out.1; have h2 := HV.out.2.2.1; have h3 := HB.out; simp at h1; simp; omega
            have hl2 : k = (P ++ V1 ++ U3).length + 1 + ([] : List EntD).length := by simp at hl1; simp; omega
            have hzn : k < n := by have h1 := HL.out; have h3 := HB.out; have h2 := HV.out; have h4 := congrArg List.length HR.out.2.1; have h5 := congrArg List.length HV.out.2.2.2; have h6 := HR.out.1; simp at h4 h5 h6; omega
            obtain ⟨b1, hb1⟩ : ∃ z, z = o + q * 3 := ⟨_, rfl⟩
            obtain ⟨b2, hb2⟩ : ∃ z, z = o + k * 3 := ⟨_, rfl⟩
            have i1 : ∀ W : World, (Instr.indexAt 71 (.slice (some ⟨g, o, none⟩) n c) (.int .i64 (q : Int))).run Tryd.prog W = .ok (.pointer (some ⟨g, b1, none⟩)) W := fun W => by rw [hb1]; exact idx_ent (k := q) rfl (by omega) W
            have i2 : ∀ W : World, (Instr.indexAt 71 (.slice (some ⟨g, o, none⟩) n c) (.int .i64 (k : Int))).run Tryd.prog W = .ok (.pointer (some ⟨g, b2, none⟩)) W := fun W => by rw [hb2]; exact idx_ent (k := k) rfl hzn W
            have hx1 : EntC wr.drew g b1 x := by rw [hb1]; exact entC hE (by rw [hl1]; exact get_first)
            have hx2 : EntC wr.drew g b2 y := by rw [hb2]; exact entC hE (by rw [hl2]; exact get_second)
            have ht1 : wr.drew.there g b1 3 := by rw [hb1, hl1]; exact hE.free _ (by simp)
            have ht2 : wr.drew.there g b2 3 := by rw [hb2, hl2]; exact hE.free _ (by simp only [List.length_append, List.length_cons, List.length_nil]; omega)
            have hE3 := hE.swap (l1 := P ++ V1 ++ U3) (l2 := U2 ++ R)
            have hk3 : (P ++ V1 ++ U3).length + 1 = k := by rw [hl2]; rfl
            rw [hk3, ← hl1, ← hb1, ← hb2] at hE3
            have HE2 := Lib.hid (And.intro hE3 (And.intro ht1 (And.intro ht2 hq)))
            clear hE ht1 ht2 hl1 hl2 hb1 hb2 hE3 hk3 hq
            go_upto_region 23 with fail
            refine wp_region_late 15 (fun W => EntC W g b1 x ∧ EntC W g b2 y) (by kernel_rfl) ⟨hx1, hx2⟩ (fun hHeld => ?_)
            refine late_take (i := 0) (v := ?_) rfl (by kernel_rfl) (by kernel_rfl) (by kernel_rfl) (fun _ _ _ h => h) (by decide) (Or.inl ⟨by rfl, ?_⟩) (fun _ => hHeld) ?_
            rotate_left 1
            · ((intro w _; go_simp) <;> with_reducible rfl)
            try simp only [Act.put, List.setIfInBounds_toArray, List.set_cons_zero, List.set_cons_succ, List.getElem_toArray, List.getElem_cons_zero]
            refine late_take (i := 1) (v := ?_) rfl (by kernel_rfl) (by kernel_rfl) (by kernel_rfl) (fun _ _ _ h => h) (by decide) (Or.inl ⟨by rfl, ?_⟩) (fun _ => hHeld) ?_
            rotate_left 1
            · ((intro w _; go_simp) <;> with_reducible rfl)
            try simp only [Act.put, List.setIfInBounds_toArray, List.set_cons_zero, List.set_cons_succ, List.getElem_toArray, List.getElem_cons_zero, List.getElem_cons_succ]
            refine late_take (i := 2) (v := ?_) rfl (by kernel_rfl) (by kernel_rfl) (by kernel_rfl) (fun _ _ _ h => h) (by decide) (Or.inl ⟨by rfl, ?_⟩) (fun _ => hHeld) ?_
            rotate_left 1
            · ((intro w _; go_simp) <;> with_reducible rfl)
            try simp only [Act.put, List.setIfInBounds_toArray, List.set_cons_zero, List.set_cons_succ, List.getElem_toArray, List.getElem_cons_zero, List.getElem_cons_succ]
            refine late_take (i := 3) (v := ?_) rfl (by kernel_rfl) (by kernel_rfl) (by kernel_rfl) (fun _ _ _ h => h) (by decide) (Or.inl ⟨by rfl, ?_⟩) (fun _ => hHeld) ?_
            rotate_left 1
            · ((intro w _; go_simp) <;> with_reducible rfl)
            try simp only [Act.put, List.setIfInBounds_toArray, List.set_cons_zero, List.set_cons_succ, List.getElem_toArray, List.getElem_cons_zero, List.getElem_cons_succ]
            refine late_take (i := 4) (v := ?_) rfl (by kernel_rfl) (by kernel_rfl) (by kernel_rfl) (fun _ _ _ h => h) (by decide) (Or.inl ⟨by rfl, ?_⟩) (fun _ => hHeld) ?_
            rotate_left 1
            · ((intro w _; go_simp) <;> with_reducible rfl)
            try simp only [Act.put, List.setIfInBounds_toArray, List.set_cons_zero, List.set_cons_succ, List.getElem_toArray, List.getElem_cons_zero, List.getElem_cons_succ]
            refine late_take (i := 5) (v := ?_) rfl (by kernel_rfl) (by kernel_rfl) (by kernel_rfl) (fun _ _ _ h => h) (by decide) (Or.inl ⟨by rfl, ?_⟩) (fun _ => hHeld) ?_
            rotate_left 1
            · ((intro w _; go_simp) <;> with_reducible rfl)
            try simp only [Act.put, List.setIfInBounds_toArray, List.set_cons_zero, List.set_cons_succ, List.getElem_toArray, List.getElem_cons_zero, List.getElem_cons_succ]
            refine late_take (i := 6) (v := ?_) rfl (by kernel_rfl) (by kernel_rfl) (by kernel_rfl) (fun _ _ _ h => h) (by decide) (Or.inl ⟨by rfl, ?_⟩) (fun _ => hHeld) ?_
            rotate_left 1
            · ((intro w _; go_simp) <;> with_reducible rfl)
            try simp only [Act.put, List.setIfInBounds_toArray, List.set_cons_zero, List.set_cons_succ, List.getElem_toArray, List.getElem_cons_zero, List.getElem_cons_succ]
            refine late_take (i := 7) (v := ?_) rfl (by kernel_rfl) (by kernel_rfl) (by kernel_rfl) (fun _ _ _ h => h) (by decide) (Or.inl ⟨by rfl, ?_⟩) (fun _ => hHeld) ?_
            rotate_left 1
            · ((intro w _; go_simp) <;> with_reducible rfl)
            try simp only [Act.put, List.setIfInBounds_toArray, List.set_cons_zero, List.set_cons_succ, List.getElem_toArray, List.getElem_cons_zero, List.getElem_cons_succ]
            refine late_take (i := 8) (v := ?_) rfl (by kernel_rfl) (by kernel_rfl) (by kernel_rfl) (fun _ _ _ h => h) (by decide) (Or.inl ⟨by rfl, ?_⟩) (fun _ => hHeld) ?_
            rotate_left 1
            · ((intro w _; go_simp) <;> with_reducible rfl)
            try simp only [Act.put, List.setIfInBounds_toArray, List.set_cons_zero, List.set_cons_succ, List.getElem_toArray, List.getElem_cons_zero, List.getElem_cons_succ]
            refine late_read (i := 9) (v := ?_) rfl (by kernel_rfl) (by kernel_rfl) (by kernel_rfl) (fun _ _ _ h => h) (by decide) rfl (by kernel_rfl) (Or.inl ⟨by rfl, ?_⟩) hHeld (by kernel_rfl) ?_
            rotate_left 1
            · ((intro w hSw; (try dsimp only at hSw); obtain ⟨⟨c0, c1, c2⟩, -⟩ := hSw; go_simp) <;> with_reducible rfl)
            try simp only [Act.put, List.setIfInBounds_toArray, List.set_cons_zero, List.set_cons_succ, List.getElem_toArray, List.getElem_cons_zero, List.getElem_cons_succ]
            refine late_take (i := 10) (v := ?_) rfl (by kernel_rfl) (by kernel_rfl) (by kernel_rfl) (fun _ _ _ h => h) (by decide) (Or.inl ⟨by rfl, ?_⟩) (fun _ => hHeld) ?_
            rotate_left 1
            · ((intro w _; go_simp) <;> with_reducible rfl)
            try simp only [Act.put, List.setIfInBounds_toArray, List.set_cons_zero, List.set_cons_succ, List.getElem_toArray, List.getElem_cons_zero, List.getElem_cons_succ]
            refine late_take (i := 11) (v := ?_) rfl (by kernel_rfl) (by kernel_rfl) (by kernel_rfl) (fun _ _ _ h => h) (by decide) (Or.inl ⟨by rfl, ?_⟩) (fun _ => hHeld) ?_
            rotate_left 1
            · ((intro w _; go_simp) <;> with_reducible rfl)
            try simp only [Act.put, List.setIfInBounds_toArray, List.set_cons_zero, List.set_cons_succ, List.getElem_toArray, List.getElem_cons_zero, List.getElem_cons_succ]
            refine late_take (i := 12) (v := ?_) rfl (by kernel_rfl) (by kernel_rfl) (by kernel_rfl) (fun _ _ _ h => h) (by decide) (Or.inl ⟨by rfl, ?_⟩) (fun _ => hHeld) ?_
            rotate_left 1
            · ((intro w _; go_simp) <;> with_reducible rfl)
            try simp only [Act.put, List.setIfInBounds_toArray, List.set_cons_zero, List.set_cons_succ, List.getElem_toArray, List.getElem_cons_zero, List.getElem_cons_succ]
            refine late_read (i := 13) (v := ?_) rfl (by kernel_rfl) (by kernel_rfl) (by kernel_rfl) (fun _ _ _ h => h) (by decide) rfl (by kernel_rfl) (Or.inl ⟨by rfl, ?_⟩) hHeld (by kernel_rfl) ?_
            rotate_left 1
            · ((intro w hSw; (try dsimp only at hSw); obtain ⟨-, c0, c1, c2⟩ := hSw; go_simp) <;> with_reducible rfl)
            try simp only [Act.put, List.setIfInBounds_toArray, List.set_cons_zero, List.set_cons_succ, List.getElem_toArray, List.getElem_cons_zero, List.getElem_cons_succ]
            refine late_take (i := 14) (v := ?_) rfl (by kernel_rfl) (by kernel_rfl) (by kernel_rfl) (fun _ _ _ h => h) (by decide) (Or.inl ⟨by rfl, ?_⟩) (fun _ => hHeld) ?_
            rotate_left 1
            · ((intro w _; go_simp) <;> with_reducible rfl)
            try simp only [Act.put, List.setIfInBounds_toArray, List.set_cons_zero, List.set_cons_succ, List.getElem_toArray, List.getElem_cons_zero, List.getElem_cons_succ]
            refine late_one (i := 15) (by kernel_rfl) rfl (fun K hK => ?_)
            rw [if_pos (by rfl)]
            refine wp_store_mid 76 (.tmp 127) (.tmp 122) rfl g b2 #[.int .i64 x.step, .int .i64 x.call, .int .i64 x.drop] (by rfl) (by rfl) HE2.out.2.2.1 (by kernel_rfl) (by simp [Value.oneCell']) ?_
            refine hK.out _ _ (fun _ h => absurd rfl h) ?_
            clear hK K
            try simp only [Act.put, List.getElem_toArray, List.getElem_cons_zero, List.getElem_cons_succ]
            refine late_take (i := 16) (v := ?_) rfl (by kernel_rfl) (by kernel_rfl) (by kernel_rfl) (fun _ _ _ h => h) (by decide) (Or.inl ⟨by rfl, ?_⟩) (fun h => absurd h (by simp)) ?_
            rotate_left 1
            · ((intro w _; go_simp) <;> with_reducible rfl)
            try simp only [Act.put, List.setIfInBounds_toArray, List.set_cons_zero, List.set_cons_succ, List.getElem_toArray, List.getElem_cons_zero, List.getElem_cons_succ]
            refine late_one (i := 17) (by kernel_rfl) rfl (fun K hK => ?_)
            rw [if_pos (by rfl)]
            refine wp_store_mid 76 (.tmp 128) (.tmp 126) rfl g b1 #[.int .i64 y.step, .int .i64 y.call, .int .i64 y.drop] (by rfl) (by rfl) (World.there_setCells HE2.out.2.1 _ _ _) (by kernel_rfl) (by simp [Value.oneCell']) ?_
            refine hK.out _ _ (fun h => absurd h (by simp)) ?_
            clear hK K
            try simp only [Act.put, List.getElem_toArray, List.getElem_cons_zero, List.getElem_cons_succ]
            refine late_done (by kernel_rfl) ?_
            clear hHeld
            have hc3 : Chg (fun j => j = g) wr ((wr.drew.setCells g b2 (entCells x)).setCells g b1 (entCells y)) := Chg.setCells (M := fun j => j = g) (g := g) (fun _ => rfl) _ _ (Chg.setCells (M := fun j => j = g) (g := g) (fun _ => rfl) _ _ (Chg.refl _ _).drew)
            have HE3 := Lib.hid (And.intro HE2.out.1 hc3)
            have HQ := Lib.hid HE2.out.2.2.2
            clear hc3 HE2
            go_wp2_with fail
            go_roundw
            case rel => exact ⟨q, U3, x :: U2, rfl, by have := HQ.out; omega, by have := HQ.out; omega, Lib.hid ⟨by have h1 := HR.out.1; have := HQ.out; simp at h1; omega, by rw [← HR.out.2.1]; simp, by have h2 := HE3.out.1; simpa [List.append_assoc] using h2, HR.out.2.2.2.trans HE3.out.2⟩⟩
            case measure => have := HQ.out; simp [intOf]; omega
        · go_wp2_with fail
          have h1 : U1 = [] := List.eq_nil_of_length_eq_zero (by have h2 := HR.out.1; omega)
          have h2 : U2 = V2 := by have h3 := HR.out.2.1; rw [h1, List.nil_append] at h3; exact h3
          have hE : EntAt wr g o (P ++ (V1 ++ y :: V2) ++ R) := by have h3 := HR.out.2.2.1; rw [h1, h2] at h3; simpa [List.append_assoc] using h3
          exact bodyPost_ret (results_none (by exact Tryd.results84) _ _ _) rfl ⟨⟨_, rfl⟩, _, HEN.out.1, HEN.out.2, hE, HR.out.2.2.2⟩
end Go.Proofs.YtaooangnnlopcaaDoor
