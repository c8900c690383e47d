/- Two sorted runs of entries are merged, where one has a single entry. Condition: they lie one behind the other. Two sorted runs of entries are merged in place. Condition: they lie one behind the other, and the first run's places are below the second's. Two sorted runs of entries are merged in place: the whole. Condition: they lie one behind the other, and the first run's places are below the second's. -/
import Derived.Test.YtaooangnnlopcaaGreatDoorSortSwap
import Derived.Test.YtaooangnnlopcaaGreatDoorLiB
import Derived.Test.YtaooangnnlopcaaGreatDoorLowA
namespace Go.Proofs.YtaooangnnlopcaaGreatDoor
open Go.RowKit Go.ChangeMaps Go.MapKept
def MergeOk (w : World) (g o nc : Nat) (P A B R : List EntD) (w' : World) : Prop := ∃ s, SortE nc s ∧ s.Perm (A ++ B) ∧ EntAt w' g o (P ++ s ++ R) ∧ Chg (fun k => k = g) w w'
/-- Where an entry is to stand in a sorted list: between i and j. -/
structure Seek (nc : Nat) (S : List EntD) (z : EntD) (i j : Nat) : Prop where
  le : i ≤ j
  most : j ≤ S.length
  low : ∀ c x, c < i → S[c]? = some x → lessE nc x z
  high : ∀ c x, j ≤ c → S[c]? = some x → lessE nc z x
theorem Seek.start {nc : Nat} (S : List EntD) (z : EntD) : Seek nc S z 0 S.length := ⟨Nat.zero_le _, Nat.le_refl _, fun _ _ h => by omega, fun c x h hx => by have := (List.getElem?_eq_some_iff.1 hx).1; omega⟩
theorem Seek.up {nc : Nat} {S : List EntD} {z x : EntD} {i j c : Nat} (h : Seek nc S z i j) (hS : SortE nc S) (hc : c < j) (hx : S[c]? = some x) (hl : lessE nc x z) : Seek nc S z (c + 1) j :=
  ⟨by omega, h.most, fun d y hd hy => (sortE_le hS hy hx (by omega)).elim (fun e => by rw [e]; exact hl) (fun e => lessE_trans e hl), h.high⟩
theorem Seek.down {nc : Nat} {S : List EntD} {z x : EntD} {i j c : Nat} (h : Seek nc S z i j) (hS : SortE nc S) (hi : i ≤ c) (hc : c < j) (hx : S[c]? = some x) (hl : lessE nc z x) : Seek nc S z i c :=
  ⟨hi, by have := h.most; omega, h.low, fun d y hd hy => (sortE_le hS hx hy hd).elim (fun e => by rw [← e]; exact hl) (fun e => lessE_trans hl e)⟩
theorem Seek.ends {nc : Nat} {S : List EntD} {z : EntD} {i : Nat} (h : Seek nc S z i i) (hS : SortE nc S) : SortE nc (S.take i ++ z :: S.drop i) ∧ (S.take i ++ z :: S.drop i).Perm (z :: S) := by
  constructor
  · have h1 : S = S.take i ++ S.drop i := (List.take_append_drop i S).symm
    have h2 : SortE nc (S.take i ++ S.drop i) := h1 ▸ hS
    obtain ⟨h3, h4, h5⟩ := h2.parts
    have hlo : ∀ x ∈ S.take i, lessE nc x z := fun x hx => by
      obtain ⟨c, hc, rfl⟩ := List.getElem_of_mem hx
      rw [List.length_take] at hc
      refine h.low c _ (by omega) ?_
      rw [List.getElem_take]
      exact List.getElem?_eq_getElem _
    have hhi : ∀ x ∈ S.drop i, lessE nc z x := fun x hx => by
      obtain ⟨c, hc, rfl⟩ := List.getElem_of_mem hx
      rw [List.length_drop] at hc
      refine h.high (i + c) _ (by omega) ?_
      rw [List.getElem_drop]
      exact List.getElem?_eq_getElem _
    refine SortE.append h3 (List.pairwise_cons.2 ⟨hhi, h4⟩) ?_
    intro y hy v hv
    rcases List.mem_cons.1 hv with rfl | hv
    · exact hlo y hy
    · exact h5 y hy v hv
  · refine List.perm_middle.trans (List.Perm.cons z ?_)
    rw [List.take_append_drop]
/-- Half of a sum, as it is reckoned. -/
theorem half_run (s : Nat) (hs : s ≤ 2000000) : IntKind.i64.wrap ((s : Int) / 2) = ((s / 2 : Nat) : Int) := by
  rw [show (s : Int) / 2 = ((s / 2 : Nat) : Int) from by omega]
  exact IntWalk.i64_in _ (by omega)

set_option maxRecDepth 100000 in
set_option maxHeartbeats 8000000 in
theorem symA_any {w : World} {g o n c nc a m b : Nat} {P A B R : List EntD} {x : EntD} (h : EntAt w g o (P ++ A ++ B ++ R)) (hg : g < w.heap.size) (hn : n = (P ++ A ++ B ++ R).length) (hmx : n ≤ 1000000) (ha : a = P.length) (hm : m = P.length + A.length) (hb : b = P.length + A.length + B.length) (hA : A = [x]) (hS : SortE nc B) (hlow : LowE nc A B) : Calls Tryz.prog 105 #[.slice (some ⟨g, o, none⟩) n c, .int .i64 (a : Int), .int .i64 (m : Int), .int .i64 (b : Int), cmpF] w fun e w' => (∃ v, e = .returned v) ∧ MergeOk w g o nc P A B R w' := by
  subst hA
  have hl : b = m + B.length := by simp at hm hb; omega
  have hma : m = a + 1 := by simp at hm; omega
  have HL := Lib.hid (show b + R.length = n from by rw [hn, hb]; simp; omega)
  have HB := Lib.hid (And.intro hl (And.intro hma ha))
  have hbm : b ≤ 1000000 := by have := HL.out; omega
  have hmm : m ≤ 1000000 := by omega
  have ham : a ≤ 1000000 := by omega
  have hab : a < b := by omega
  have hamm : a ≤ m := by omega
  have hmb2 : m ≤ b := by omega
  have hw1 : IntKind.i64.wrap ((m : Int) - (a : Int)) = 1 := by rw [show ((m : Int) - (a : Int)) = 1 from by omega]; rfl
  have HLOW := Lib.hid hlow
  have HS := Lib.hid hS
  have HG := Lib.hid hg
  have HE := Lib.hid h
  clear hn ha hm hb hg h hlow hS hl hma
  go_enter Tryz.func105, Tryz.ntmps105
  go_upto_region 3 with fail
  go_loopw [10, 11] (fun si sj wr => ∃ (i j : Nat), si = .int .i64 (i : Int) ∧ sj = .int .i64 (j : Int) ∧ i ≤ j ∧ j ≤ b ∧ m ≤ i ∧ Hid (Seek nc B x (i - m) (j - m)) ∧ Hid (Chg (fun _ => False) w wr)) (fun si sj _ => (intOf sj).toNat - (intOf si).toNat)
  case atStart => exact ⟨m, b, rfl, rfl, by omega, by omega, by omega, Lib.hid (by have h1 := Seek.start (nc := nc) B x; have h2 := HB.out.1; rw [show b - m = B.length from by omega, Nat.sub_self]; exact h1), Lib.hid (Chg.refl _ _)⟩
  case round =>
    obtain ⟨i, j, rfl, rfl, hij, hjb, hmi, HSK, HC⟩ := hrel
    have hE : EntAt wr g o (P ++ [x] ++ B ++ R) := by have h1 := HE.out.kept (M := fun _ => False) HC.out HG.out id; simpa [List.append_assoc] using h1
    have hgr : g < wr.heap.size := Nat.lt_of_lt_of_le HG.out HC.out.size
    by_cases hlt : i < j
    · obtain ⟨t, ht⟩ : ∃ t, t = i + j := ⟨_, rfl⟩
      obtain ⟨d, hd⟩ : ∃ d, d = t / 2 := ⟨_, rfl⟩
      have hdi : i ≤ d := by omega
      have hdj : d < j := by omega
      have wt : IntKind.i64.wrap ((i : Int) + (j : Int)) = (t : Int) := by rw [ht]; exact IntWalk.i64_in _ (by omega)
      have wt2 : IntKind.u64.wrap (t : Int) = (t : Int) := IntWalk.u64_in _ (by omega)
      have wt3 : IntKind.i64.wrap ((t : Int) / 2) = (d : Int) := by rw [hd]; exact half_run t (by omega)
      clear ht hd
      go_upto_region 5 with fail
      obtain ⟨y, hy⟩ : ∃ y, B[d - m]? = some y := ⟨_, List.getElem?_eq_getElem (by have := HB.out; omega)⟩
      have hxy : rkE nc x < rkE nc y := HLOW.out x (by simp) y (List.mem_of_getElem? hy)
      obtain ⟨b1, hb1⟩ : ∃ z, z = o + a * 3 := ⟨_, rfl⟩
      obtain ⟨b2, hb2⟩ : ∃ z, z = o + d * 3 := ⟨_, rfl⟩
      have i1 : ∀ W : World, (Instr.indexAt 106 (.slice (some ⟨g, o, none⟩) n c) (.int .i64 (a : Int))).run Tryz.prog W = .ok (.pointer (some ⟨g, b1, none⟩)) W := fun W => by rw [hb1]; exact idx_ent (k := a) rfl (by have := HL.out; omega) W
      have i2 : ∀ W : World, (Instr.indexAt 106 (.slice (some ⟨g, o, none⟩) n c) (.int .i64 (d : Int))).run Tryz.prog W = .ok (.pointer (some ⟨g, b2, none⟩)) W := fun W => by rw [hb2]; exact idx_ent (k := d) rfl (by have := HL.out; omega) W
      have hx1 : EntC wr g b1 x := by rw [hb1]; exact entC hE (by rw [HB.out.2.2]; simp)
      have hx2 : EntC wr g b2 y := by rw [hb2]; exact entC hE (by have h2 := HB.out.2; have h3 : (B ++ R)[d - m]? = some y := (by rw [List.getElem?_append_left (List.getElem?_eq_some_iff.1 hy).1]; exact hy); rw [List.append_assoc, List.append_assoc, List.getElem?_append_right (by omega), show d - P.length = (d - m) + 1 from by omega]; exact h3)
      have HXY := Lib.hid hxy
      have HU := Lib.hid hy
      clear hE hb1 hb2 hxy hy
      by_cases hst : y.step < x.step
      · have hHst := Lib.hid hst
        refine wp_region_held_drew (S := fun W => EntC W g b1 x ∧ EntC W g b2 y) (by kernel_rfl) ⟨hx1, hx2⟩ (fun hHeld => ?_)
        refine tkq (i := 0) (v := ?_) rfl (by kernel_rfl) (fun _ _ _ h => h) (by rfl) ?_ (by assumption) ?_
        rotate_left 1
        · ((intro w hSw; (try dsimp only at hSw); go_simp) <;> with_reducible rfl)
        try simp only [Act.put, tzA, tzB, tzC, tzD, tzE]
        refine tkq (i := 1) (v := ?_) rfl (by kernel_rfl) (fun _ _ _ h => h) (by rfl) ?_ (by assumption) ?_
        rotate_left 1
        · ((intro w hSw; (try dsimp only at hSw); go_simp) <;> with_reducible rfl)
        try simp only [Act.put, tzA, tzB, tzC, tzD, tzE, tzF]
        refine tkq (i := 2) (v := ?_) rfl (by kernel_rfl) (fun _ _ _ h => h) (by rfl) ?_ (by assumption) ?_
        rotate_left 1
        · ((intro w hSw; (try dsimp only at hSw); go_simp) <;> with_reducible rfl)
        try simp only [Act.put, tzA, tzB, tzC, tzD, tzE, tzF]
        refine tkq (i := 3) (v := ?_) rfl (by kernel_rfl) (fun _ _ _ h => h) (by rfl) ?_ (by assumption) ?_
        rotate_left 1
        · ((intro w hSw; (try dsimp only at hSw); go_simp) <;> with_reducible rfl)
        try simp only [Act.put, tzA, tzB, tzC, tzD, tzE, tzF]
        refine tkq (i := 4) (v := ?_) rfl (by kernel_rfl) (fun _ _ _ h => h) (by rfl) ?_ (by assumption) ?_
        rotate_left 1
        · ((intro w hSw; (try dsimp only at hSw); obtain ⟨-, c0, c1, c2⟩ := hSw; go_simp) <;> with_reducible rfl)
        try simp only [Act.put, tzA, tzB, tzC, tzD, tzE, tzF]
        refine tkq (i := 5) (v := ?_) rfl (by kernel_rfl) (fun _ _ _ h => h) (by rfl) ?_ (by assumption) ?_
        rotate_left 1
        · ((intro w hSw; (try dsimp only at hSw); go_simp) <;> with_reducible rfl)
        try simp only [Act.put, tzA, tzB, tzC, tzD, tzE, tzF]
        refine tkq (i := 6) (v := ?_) rfl (by kernel_rfl) (fun _ _ _ h => h) (by rfl) ?_ (by assumption) ?_
        rotate_left 1
        · ((intro w hSw; (try dsimp only at hSw); go_simp) <;> with_reducible rfl)
        try simp only [Act.put, tzA, tzB, tzC, tzD, tzE, tzF]
        refine tkq (i := 7) (v := ?_) rfl (by kernel_rfl) (fun _ _ _ h => h) (by rfl) ?_ (by assumption) ?_
        rotate_left 1
        · ((intro w hSw; (try dsimp only at hSw); go_simp) <;> with_reducible rfl)
        try simp only [Act.put, tzA, tzB, tzC, tzD, tzE, tzF]
        refine tkq (i := 8) (v := ?_) rfl (by kernel_rfl) (fun _ _ _ h => h) (by rfl) ?_ (by assumption) ?_
        rotate_left 1
        · ((intro w hSw; (try dsimp only at hSw); obtain ⟨⟨c0, c1, c2⟩, -⟩ := hSw; go_simp) <;> with_reducible rfl)
        try simp only [Act.put, tzA, tzB, tzC, tzD, tzE, tzF]
        refine wpAnyH_ready (rs := [9]) (by kernel_rfl) (by simp) ?_
        refine (AllReadyH.cons rfl (fun K hK => ?_) AllReadyH.nil)
        go_simp
        refine (order1_any y x _).mono ?_
        rintro e V1 ⟨⟨kk, rfl, hkk⟩, hbv⟩
        have hkt : decide (kk < 0) = true := by rw [decide_eq_true_iff, hkk]; exact hst
        refine hK.out _ _ ⟨entC_below (w := wr.drew) hbv hgr hx1, entC_below (w := wr.drew) hbv hgr hx2⟩ (fun hHeld2 => ?_)
        clear hK K
        try simp only [Act.put, tzA, tzB, tzC, tzD, tzE, tzF]
        refine tkq (i := 10) (v := ?_) rfl (by kernel_rfl) (fun _ _ _ h => h) (by rfl) ?_ (by assumption) ?_
        rotate_left 1
        · ((intro w hSw; (try dsimp only at hSw); go_simp) <;> with_reducible rfl)
        try simp only [Act.put, tzA, tzB, tzC, tzD, tzE, tzF]
        refine wpAnyH_done (by kernel_rfl) ?_ _
        clear hHeld hHeld2
        have HCV := Lib.hid (show Chg (fun _ => False) wr V1 from (Chg.refl _ wr).drew.trans (Chg.of_below hbv))
        clear hbv hx1 hx2 hst hkk
        go_wp2_with fail
        go_roundw
        case rel => exact ⟨d + 1, j, by go_num, rfl, by omega, hjb, by omega, Lib.hid (by rw [show d + 1 - m = d - m + 1 from by omega]; exact HSK.out.up HS.out (by omega) HU.out ((lessE_high HXY.out).2 hHst.out)), Lib.hid (HC.out.trans HCV.out)⟩
        case measure => simp [intOf]; omega
      · have hHst := Lib.hid hst
        refine wp_region_held_drew (S := fun W => EntC W g b1 x ∧ EntC W g b2 y) (by kernel_rfl) ⟨hx1, hx2⟩ (fun hHeld => ?_)
        refine tkq (i := 0) (v := ?_) rfl (by kernel_rfl) (fun _ _ _ h => h) (by rfl) ?_ (by assumption) ?_
        rotate_left 1
        · ((intro w hSw; (try dsimp only at hSw); go_simp) <;> with_reducible rfl)
        try simp only [Act.put, tzA, tzB, tzC, tzD, tzE]
        refine tkq (i := 1) (v := ?_) rfl (by kernel_rfl) (fun _ _ _ h => h) (by rfl) ?_ (by assumption) ?_
        rotate_left 1
        · ((intro w hSw; (try dsimp only at hSw); go_simp) <;> with_reducible rfl)
        try simp only [Act.put, tzA, tzB, tzC, tzD, tzE, tzF]
        refine tkq (i := 2) (v := ?_) rfl (by kernel_rfl) (fun _ _ _ h => h) (by rfl) ?_ (by assumption) ?_
        rotate_left 1
        · ((intro w hSw; (try dsimp only at hSw); go_simp) <;> with_reducible rfl)
        try simp only [Act.put, tzA, tzB, tzC, tzD, tzE, tzF]
        refine tkq (i := 3) (v := ?_) rfl (by kernel_rfl) (fun _ _ _ h => h) (by rfl) ?_ (by assumption) ?_
        rotate_left 1
        · ((intro w hSw; (try dsimp only at hSw); go_simp) <;> with_reducible rfl)
        try simp only [Act.put, tzA, tzB, tzC, tzD, tzE, tzF]
        refine tkq (i := 4) (v := ?_) rfl (by kernel_rfl) (fun _ _ _ h => h) (by rfl) ?_ (by assumption) ?_
        rotate_left 1
        · ((intro w hSw; (try dsimp only at hSw); obtain ⟨-, c0, c1, c2⟩ := hSw; go_simp) <;> with_reducible rfl)
        try simp only [Act.put, tzA, tzB, tzC, tzD, tzE, tzF]
        refine tkq (i := 5) (v := ?_) rfl (by kernel_rfl) (fun _ _ _ h => h) (by rfl) ?_ (by assumption) ?_
        rotate_left 1
        · ((intro w hSw; (try dsimp only at hSw); go_simp) <;> with_reducible rfl)
        try simp only [Act.put, tzA, tzB, tzC, tzD, tzE, tzF]
        refine tkq (i := 6) (v := ?_) rfl (by kernel_rfl) (fun _ _ _ h => h) (by rfl) ?_ (by assumption) ?_
        rotate_left 1
        · ((intro w hSw; (try dsimp only at hSw); go_simp) <;> with_reducible rfl)
        try simp only [Act.put, tzA, tzB, tzC, tzD, tzE, tzF]
        refine tkq (i := 7) (v := ?_) rfl (by kernel_rfl) (fun _ _ _ h => h) (by rfl) ?_ (by assumption) ?_
        rotate_left 1
        · ((intro w hSw; (try dsimp only at hSw); go_simp) <;> with_reducible rfl)
        try simp only [Act.put, tzA, tzB, tzC, tzD, tzE, tzF]
        refine tkq (i := 8) (v := ?_) rfl (by kernel_rfl) (fun _ _ _ h => h) (by rfl) ?_ (by assumption) ?_
        rotate_left 1
        · ((intro w hSw; (try dsimp only at hSw); obtain ⟨⟨c0, c1, c2⟩, -⟩ := hSw; go_simp) <;> with_reducible rfl)
        try simp only [Act.put, tzA, tzB, tzC, tzD, tzE, tzF]
        refine wpAnyH_ready (rs := [9]) (by kernel_rfl) (by simp) ?_
        refine (AllReadyH.cons rfl (fun K hK => ?_) AllReadyH.nil)
        go_simp
        refine (order1_any y x _).mono ?_
        rintro e V1 ⟨⟨kk, rfl, hkk⟩, hbv⟩
        have hkt : decide (kk < 0) = false := by rw [decide_eq_false_iff_not, hkk]; exact hst
        refine hK.out _ _ ⟨entC_below (w := wr.drew) hbv hgr hx1, entC_below (w := wr.drew) hbv hgr hx2⟩ (fun hHeld2 => ?_)
        clear hK K
        try simp only [Act.put, tzA, tzB, tzC, tzD, tzE, tzF]
        refine tkq (i := 10) (v := ?_) rfl (by kernel_rfl) (fun _ _ _ h => h) (by rfl) ?_ (by assumption) ?_
        rotate_left 1
        · ((intro w hSw; (try dsimp only at hSw); go_simp) <;> with_reducible rfl)
        try simp only [Act.put, tzA, tzB, tzC, tzD, tzE, tzF]
        refine wpAnyH_done (by kernel_rfl) ?_ _
        clear hHeld hHeld2
        have HCV := Lib.hid (show Chg (fun _ => False) wr V1 from (Chg.refl _ wr).drew.trans (Chg.of_below hbv))
        clear hbv hx1 hx2 hst hkk
        go_wp2_with fail
        go_roundw
        case rel => exact ⟨i, d, rfl, rfl, hdi, by omega, hmi, Lib.hid (HSK.out.down HS.out (by omega) (by omega) HU.out ((lessE_low HXY.out).2 hHst.out)), Lib.hid (HC.out.trans HCV.out)⟩
        case measure => simp [intOf]; omega
    · obtain rfl : i = j := by omega
      clear hlt hij
      obtain ⟨V1, V2, HV⟩ : ∃ V1 V2, Hid (V1 = B.take (i - m) ∧ V2 = B.drop (i - m) ∧ V1.length = i - m ∧ V1 ++ V2 = B) := ⟨_, _, Lib.hid ⟨rfl, rfl, by have h2 := HB.out; rw [List.length_take]; omega, List.take_append_drop _ _⟩⟩
      obtain ⟨hEN, hEP⟩ := HSK.out.ends HS.out
      rw [← HV.out.1, ← HV.out.2.1] at hEN hEP
      have HEN := Lib.hid (And.intro hEN (show (V1 ++ x :: V2).Perm ([x] ++ B) from hEP))
      have HE1 := Lib.hid hE
      have HGR := Lib.hid hgr
      clear hEN hEP HSK hE hgr
      obtain ⟨wo, rfl⟩ : ∃ wo : World, wo = wr := ⟨_, rfl⟩
      have hi1 : 1 ≤ i := by have := HB.out; omega
      have wi : IntKind.i64.wrap ((i : Int) - 1) = ((i - 1 : Nat) : Int) := by rw [show ((i : Int) - 1) = ((i - 1 : Nat) : Int) from by omega]; exact IntWalk.i64_in _ (by omega)
      obtain ⟨q, hq⟩ : ∃ q, q = i - 1 := ⟨_, rfl⟩
      rw [← hq] at wi
      go_upto_region 9 with fail
      go_loopw [13] (fun s wk => ∃ (k : Nat) (U1 U2 : List EntD), s = .int .i64 (k : Int) ∧ k ≤ q ∧ Hid (k = a + U1.length ∧ U1 ++ U2 = V1 ∧ EntAt wk g o (P ++ U1 ++ x :: U2 ++ V2 ++ R) ∧ Chg (fun j => j = g) w wk)) (fun s _ => q - (intOf s).toNat)
      case atStart => exact ⟨a, [], V1, rfl, by have := HB.out; omega, Lib.hid ⟨rfl, rfl, by have h1 := HE1.out; rw [← HV.out.2.2.2] at h1; simpa [List.append_assoc] using h1, chg_no HC.out⟩⟩
      case round =>
        obtain ⟨k, U1, U2, rfl, hkq, HR⟩ := hrel
        by_cases hlt : k < q
        · obtain ⟨y, U3, hy⟩ : ∃ y U3, U2 = y :: U3 := by
            cases U2 with
            | nil => have h1 := congrArg List.length HR.out.2.1; have h2 := HR.out.1; have h3 := HV.out.2.2.1; have h4 := HB.out; simp at h1; omega
            | cons y U3 => exact ⟨y, U3, rfl⟩
          subst hy
          have hE : EntAt wr.drew g o ((P ++ U1) ++ x :: ([] ++ y :: (U3 ++ V2 ++ R))) := EntAt.drew (by have h1 := HR.out.2.2.1; simpa [List.append_assoc] using h1)
          have hl1 : k = (P ++ U1).length := by rw [HR.out.1, List.length_append, HB.out.2.2]
          have hl2 : k + 1 = (P ++ U1).length + 1 + ([] : List EntD).length := by simp [hl1]
          have hzn : k + 1 < n := by have h1 := HL.out; have h3 := HB.out; omega
          have hk2 : k ≤ 1000000 := by omega
          have wk1 : IntKind.i64.wrap ((k : Int) + 1) = (k : Int) + 1 := IntWalk.i64_in _ (by omega)
          obtain ⟨b1, hb1⟩ : ∃ z, z = o + k * 3 := ⟨_, rfl⟩
          obtain ⟨b2, hb2⟩ : ∃ z, z = o + (k + 1) * 3 := ⟨_, rfl⟩
          have i1 : ∀ W : World, (Instr.indexAt 106 (.slice (some ⟨g, o, none⟩) n c) (.int .i64 (k : Int))).run Tryz.prog W = .ok (.pointer (some ⟨g, b1, none⟩)) W := fun W => by rw [hb1]; exact idx_ent (k := k) rfl (by omega) W
          have i2 : ∀ W : World, (Instr.indexAt 106 (.slice (some ⟨g, o, none⟩) n c) (.int .i64 ((k : Int) + 1))).run Tryz.prog W = .ok (.pointer (some ⟨g, b2, none⟩)) W := fun W => by rw [hb2]; exact idx_ent (k := k + 1) rfl hzn W
          have hx1 : EntC wr.drew g b1 x := by rw [hb1]; exact entC hE (by rw [hl1]; exact get_first)
          have hx2 : EntC wr.drew g b2 y := by rw [hb2]; exact entC hE (by rw [hl2]; exact get_second)
          have ht1 : wr.drew.there g b1 3 := by rw [hb1, hl1]; exact hE.free _ (by simp)
          have ht2 : wr.drew.there g b2 3 := by rw [hb2, hl2]; exact hE.free _ (by simp only [List.length_append, List.length_cons, List.length_nil]; omega)
          have HE2 := Lib.hid (And.intro hE (And.intro ht1 (And.intro ht2 (And.intro hl1 (And.intro hl2 (And.intro hb1 hb2))))))
          clear hE ht1 ht2 hl1 hl2 hb1 hb2
          go_upto_region 11 with fail
          refine wp_region_late 15 (fun W => EntC W g b1 x ∧ EntC W g b2 y) (by kernel_rfl) ⟨hx1, hx2⟩ (fun hHeld => ?_)
          refine late_take (i := 0) (v := ?_) rfl (by kernel_rfl) (by kernel_rfl) (by kernel_rfl) (fun _ _ _ h => h) (by decide) (Or.inl ⟨by rfl, ?_⟩) (fun _ => hHeld) ?_
          rotate_left 1
          · ((intro w _; go_simp) <;> with_reducible rfl)
          try simp only [Act.put, tzA, tzB, tzC, tzD, tzE]
          refine late_take (i := 1) (v := ?_) rfl (by kernel_rfl) (by kernel_rfl) (by kernel_rfl) (fun _ _ _ h => h) (by decide) (Or.inl ⟨by rfl, ?_⟩) (fun _ => hHeld) ?_
          rotate_left 1
          · ((intro w _; go_simp) <;> with_reducible rfl)
          try simp only [Act.put, tzA, tzB, tzC, tzD, tzE, tzF]
          refine late_take (i := 2) (v := ?_) rfl (by kernel_rfl) (by kernel_rfl) (by kernel_rfl) (fun _ _ _ h => h) (by decide) (Or.inl ⟨by rfl, ?_⟩) (fun _ => hHeld) ?_
          rotate_left 1
          · ((intro w _; go_simp) <;> with_reducible rfl)
          try simp only [Act.put, tzA, tzB, tzC, tzD, tzE, tzF]
          refine late_take (i := 3) (v := ?_) rfl (by kernel_rfl) (by kernel_rfl) (by kernel_rfl) (fun _ _ _ h => h) (by decide) (Or.inl ⟨by rfl, ?_⟩) (fun _ => hHeld) ?_
          rotate_left 1
          · ((intro w _; go_simp) <;> with_reducible rfl)
          try simp only [Act.put, tzA, tzB, tzC, tzD, tzE, tzF]
          refine late_take (i := 4) (v := ?_) rfl (by kernel_rfl) (by kernel_rfl) (by kernel_rfl) (fun _ _ _ h => h) (by decide) (Or.inl ⟨by rfl, ?_⟩) (fun _ => hHeld) ?_
          rotate_left 1
          · ((intro w _; go_simp) <;> with_reducible rfl)
          try simp only [Act.put, tzA, tzB, tzC, tzD, tzE, tzF]
          refine late_take (i := 5) (v := ?_) rfl (by kernel_rfl) (by kernel_rfl) (by kernel_rfl) (fun _ _ _ h => h) (by decide) (Or.inl ⟨by rfl, ?_⟩) (fun _ => hHeld) ?_
          rotate_left 1
          · ((intro w _; go_simp) <;> with_reducible rfl)
          try simp only [Act.put, tzA, tzB, tzC, tzD, tzE, tzF]
          refine late_take (i := 6) (v := ?_) rfl (by kernel_rfl) (by kernel_rfl) (by kernel_rfl) (fun _ _ _ h => h) (by decide) (Or.inl ⟨by rfl, ?_⟩) (fun _ => hHeld) ?_
          rotate_left 1
          · ((intro w _; go_simp) <;> with_reducible rfl)
          try simp only [Act.put, tzA, tzB, tzC, tzD, tzE, tzF]
          refine late_take (i := 7) (v := ?_) rfl (by kernel_rfl) (by kernel_rfl) (by kernel_rfl) (fun _ _ _ h => h) (by decide) (Or.inl ⟨by rfl, ?_⟩) (fun _ => hHeld) ?_
          rotate_left 1
          · ((intro w _; go_simp) <;> with_reducible rfl)
          try simp only [Act.put, tzA, tzB, tzC, tzD, tzE, tzF]
          refine late_take (i := 8) (v := ?_) rfl (by kernel_rfl) (by kernel_rfl) (by kernel_rfl) (fun _ _ _ h => h) (by decide) (Or.inl ⟨by rfl, ?_⟩) (fun _ => hHeld) ?_
          rotate_left 1
          · ((intro w _; go_simp) <;> with_reducible rfl)
          try simp only [Act.put, tzA, tzB, tzC, tzD, tzE, tzF]
          refine late_read (i := 9) (v := ?_) rfl (by kernel_rfl) (by kernel_rfl) (by kernel_rfl) (fun _ _ _ h => h) (by decide) rfl (by kernel_rfl) (Or.inl ⟨by rfl, ?_⟩) hHeld (by kernel_rfl) ?_
          rotate_left 1
          · ((intro w hSw; (try dsimp only at hSw); obtain ⟨-, c0, c1, c2⟩ := hSw; go_simp) <;> with_reducible rfl)
          try simp only [Act.put, tzA, tzB, tzC, tzD, tzE, tzF]
          refine late_take (i := 10) (v := ?_) rfl (by kernel_rfl) (by kernel_rfl) (by kernel_rfl) (fun _ _ _ h => h) (by decide) (Or.inl ⟨by rfl, ?_⟩) (fun _ => hHeld) ?_
          rotate_left 1
          · ((intro w _; go_simp) <;> with_reducible rfl)
          try simp only [Act.put, tzA, tzB, tzC, tzD, tzE, tzF]
          refine late_take (i := 11) (v := ?_) rfl (by kernel_rfl) (by kernel_rfl) (by kernel_rfl) (fun _ _ _ h => h) (by decide) (Or.inl ⟨by rfl, ?_⟩) (fun _ => hHeld) ?_
          rotate_left 1
          · ((intro w _; go_simp) <;> with_reducible rfl)
          try simp only [Act.put, tzA, tzB, tzC, tzD, tzE, tzF]
          refine late_take (i := 12) (v := ?_) rfl (by kernel_rfl) (by kernel_rfl) (by kernel_rfl) (fun _ _ _ h => h) (by decide) (Or.inl ⟨by rfl, ?_⟩) (fun _ => hHeld) ?_
          rotate_left 1
          · ((intro w _; go_simp) <;> with_reducible rfl)
          try simp only [Act.put, tzA, tzB, tzC, tzD, tzE, tzF]
          refine late_read (i := 13) (v := ?_) rfl (by kernel_rfl) (by kernel_rfl) (by kernel_rfl) (fun _ _ _ h => h) (by decide) rfl (by kernel_rfl) (Or.inl ⟨by rfl, ?_⟩) hHeld (by kernel_rfl) ?_
          rotate_left 1
          · ((intro w hSw; (try dsimp only at hSw); obtain ⟨⟨c0, c1, c2⟩, -⟩ := hSw; go_simp) <;> with_reducible rfl)
          try simp only [Act.put, tzA, tzB, tzC, tzD, tzE, tzF]
          refine late_take (i := 14) (v := ?_) rfl (by kernel_rfl) (by kernel_rfl) (by kernel_rfl) (fun _ _ _ h => h) (by decide) (Or.inl ⟨by rfl, ?_⟩) (fun _ => hHeld) ?_
          rotate_left 1
          · ((intro w _; go_simp) <;> with_reducible rfl)
          try simp only [Act.put, tzA, tzB, tzC, tzD, tzE, tzF]
          refine late_one (i := 15) (by kernel_rfl) rfl (fun K hK => ?_)
          rw [if_pos (by rfl)]
          refine wp_store_mid 108 (.tmp 75) (.tmp 70) rfl g b1 #[.int .i64 y.step, .int .i64 y.call, .int .i64 y.drop] (by rfl) (by rfl) HE2.out.2.1 (by kernel_rfl) (by simp [Value.oneCell']) ?_
          refine hK.out _ _ (fun _ h => absurd rfl h) ?_
          clear hK K
          try simp only [Act.put, tzD, tzE, tzF]
          refine late_take (i := 16) (v := ?_) rfl (by kernel_rfl) (by kernel_rfl) (by kernel_rfl) (fun _ _ _ h => h) (by decide) (Or.inl ⟨by rfl, ?_⟩) (fun h => absurd h (by simp)) ?_
          rotate_left 1
          · ((intro w _; go_simp) <;> with_reducible rfl)
          try simp only [Act.put, tzA, tzB, tzC, tzD, tzE, tzF]
          refine late_one (i := 17) (by kernel_rfl) rfl (fun K hK => ?_)
          rw [if_pos (by rfl)]
          refine wp_store_mid 108 (.tmp 76) (.tmp 74) rfl g b2 #[.int .i64 x.step, .int .i64 x.call, .int .i64 x.drop] (by rfl) (by rfl) (World.there_setCells HE2.out.2.2.1 _ _ _) (by kernel_rfl) (by simp [Value.oneCell']) ?_
          refine hK.out _ _ (fun h => absurd h (by simp)) ?_
          clear hK K
          try simp only [Act.put, tzD, tzE, tzF]
          refine late_done (by kernel_rfl) ?_
          clear hHeld
          have hE3 := EntAt.swap2 (W := wr.drew) HE2.out.1 HE2.out.2.2.2.1 HE2.out.2.2.2.2.1
          rw [← HE2.out.2.2.2.2.2.1, ← HE2.out.2.2.2.2.2.2] at hE3
          have hc3 : Chg (fun j => j = g) wr ((wr.drew.setCells g b1 (entCells y)).setCells g b2 (entCells x)) := Chg.setCells (M := fun j => j = g) (g := g) (fun _ => rfl) _ _ (Chg.setCells (M := fun j => j = g) (g := g) (fun _ => rfl) _ _ (Chg.refl _ _).drew)
          have HE3 := Lib.hid (And.intro hE3 hc3)
          clear hE3 hc3 HE2
          go_wp2_with fail
          go_roundw
          case rel => exact ⟨k + 1, U1 ++ [y], U3, by go_num, by omega, Lib.hid ⟨by have h1 := HR.out.1; simp; omega, by rw [← HR.out.2.1]; simp, by have h2 := HE3.out.1; simpa [List.append_assoc] using h2, HR.out.2.2.2.trans HE3.out.2⟩⟩
          case measure => simp [intOf]; omega
        · go_wp2_with fail
          have h1 : U2 = [] := List.eq_nil_of_length_eq_zero (by have h1 := congrArg List.length HR.out.2.1; have h2 := HR.out.1; have h3 := HV.out.2.2.1; have h4 := HB.out; simp at h1; omega)
          have h2 : U1 = V1 := by have h3 := HR.out.2.1; rw [h1, List.append_nil] at h3; exact h3
          have hE : EntAt wr g o (P ++ (V1 ++ x :: V2) ++ R) := by have h3 := HR.out.2.2.1; rw [h1, h2] at h3; simpa [List.append_assoc] using h3
          exact bodyPost_ret (results_none (by exact Tryz.results105) _ _ _) rfl ⟨⟨_, rfl⟩, _, HEN.out.1, HEN.out.2, hE, HR.out.2.2.2⟩
set_option maxRecDepth 100000 in
set_option maxHeartbeats 8000000 in
theorem symB_any {w : World} {g o n c nc a m b : Nat} {P A B R : List EntD} {y : EntD} (h : EntAt w g o (P ++ A ++ B ++ R)) (hg : g < w.heap.size) (hn : n = (P ++ A ++ B ++ R).length) (hmx : n ≤ 1000000) (ha : a = P.length) (hm : m = P.length + A.length) (hb : b = P.length + A.length + B.length) (hA1 : A.length ≠ 1) (hB : B = [y]) (hS : SortE nc A) (hlow : LowE nc A B) : Calls Tryz.prog 105 #[.slice (some ⟨g, o, none⟩) n c, .int .i64 (a : Int), .int .i64 (m : Int), .int .i64 (b : Int), cmpF] w fun e w' => (∃ v, e = .returned v) ∧ MergeOk w g o nc P A B R w' := by
  subst hB
  have hl : m = a + A.length := by omega
  have hmb : b = m + 1 := by simp at hb; omega
  have HL := Lib.hid (show b + R.length = n from by rw [hn, hb]; simp; omega)
  have HB := Lib.hid (And.intro hl (And.intro hmb ha))
  have hbm : b ≤ 1000000 := by have := HL.out; omega
  have hmm : m ≤ 1000000 := by omega
  have ham : a ≤ 1000000 := by omega
  have hab : a < b := by omega
  have hamm : a ≤ m := by omega
  have hmb2 : m < b := by omega
  have hw0 : IntKind.i64.wrap ((m : Int) - (a : Int)) = ((A.length : Nat) : Int) := by rw [show ((m : Int) - (a : Int)) = ((A.length : Nat) : Int) from by omega]; exact IntWalk.i64_in _ (by omega)
  have hq0 : (((A.length : Nat) : Int) == 1) = false := by rw [beq_eq_false_iff_ne]; omega
  have hw1 : IntKind.i64.wrap ((b : Int) - (m : Int)) = 1 := by rw [show ((b : Int) - (m : Int)) = 1 from by omega]; rfl
  have HLOW := Lib.hid hlow
  have HS := Lib.hid hS
  have HG := Lib.hid hg
  have HE := Lib.hid h
  clear hn ha hm hb hg h hlow hS hl hmb
  go_enter Tryz.func105, Tryz.ntmps105
  go_upto_region 15 with fail
  go_loopw [14, 15] (fun si sj wr => ∃ (i j : Nat), si = .int .i64 (i : Int) ∧ sj = .int .i64 (j : Int) ∧ i ≤ j ∧ j ≤ m ∧ a ≤ i ∧ Hid (Seek nc A y (i - a) (j - a)) ∧ Hid (Chg (fun _ => False) w wr)) (fun si sj _ => (intOf sj).toNat - (intOf si).toNat)
  case atStart => exact ⟨a, m, rfl, rfl, by omega, by omega, by omega, Lib.hid (by have h1 := Seek.start (nc := nc) A y; have h2 := HB.out.1; rw [show m - a = A.length from by omega, Nat.sub_self]; exact h1), Lib.hid (Chg.refl _ _)⟩
  case round =>
    obtain ⟨i, j, rfl, rfl, hij, hjb, hmi, HSK, HC⟩ := hrel
    have hE : EntAt wr g o (P ++ A ++ [y] ++ R) := by have h1 := HE.out.kept (M := fun _ => False) HC.out HG.out id; simpa [List.append_assoc] using h1
    have hgr : g < wr.heap.size := Nat.lt_of_lt_of_le HG.out HC.out.size
    by_cases hlt : i < j
    · obtain ⟨t, ht⟩ : ∃ t, t = i + j := ⟨_, rfl⟩
      obtain ⟨d, hd⟩ : ∃ d, d = t / 2 := ⟨_, rfl⟩
      have hdi : i ≤ d := by omega
      have hdj : d < j := by omega
      have wt : IntKind.i64.wrap ((i : Int) + (j : Int)) = (t : Int) := by rw [ht]; exact IntWalk.i64_in _ (by omega)
      have wt2 : IntKind.u64.wrap (t : Int) = (t : Int) := IntWalk.u64_in _ (by omega)
      have wt3 : IntKind.i64.wrap ((t : Int) / 2) = (d : Int) := by rw [hd]; exact half_run t (by omega)
      clear ht hd
      go_upto_region 17 with fail
      obtain ⟨x, hx⟩ : ∃ x, A[d - a]? = some x := ⟨_, List.getElem?_eq_getElem (by have := HB.out; omega)⟩
      have hxy : rkE nc x < rkE nc y := HLOW.out x (List.mem_of_getElem? hx) y (by simp)
      obtain ⟨b1, hb1⟩ : ∃ z, z = o + m * 3 := ⟨_, rfl⟩
      obtain ⟨b2, hb2⟩ : ∃ z, z = o + d * 3 := ⟨_, rfl⟩
      have i1 : ∀ W : World, (Instr.indexAt 106 (.slice (some ⟨g, o, none⟩) n c) (.int .i64 (m : Int))).run Tryz.prog W = .ok (.pointer (some ⟨g, b1, none⟩)) W := fun W => by rw [hb1]; exact idx_ent (k := m) rfl (by have := HL.out; omega) W
      have i2 : ∀ W : World, (Instr.indexAt 106 (.slice (some ⟨g, o, none⟩) n c) (.int .i64 (d : Int))).run Tryz.prog W = .ok (.pointer (some ⟨g, b2, none⟩)) W := fun W => by rw [hb2]; exact idx_ent (k := d) rfl (by have := HL.out; omega) W
      have hx1 : EntC wr g b1 y := by rw [hb1]; exact entC hE (by have h2 := HB.out; rw [List.append_assoc, List.append_assoc, List.getElem?_append_right (by omega), List.getElem?_append_right (by omega), show m - P.length - A.length = 0 from by omega]; rfl)
      have hx2 : EntC wr g b2 x := by rw [hb2]; exact entC hE (by have h2 := HB.out; have h4 := (List.getElem?_eq_some_iff.1 hx).1; rw [List.append_assoc, List.append_assoc, List.getElem?_append_right (by omega), List.getElem?_append_left (by omega), show d - P.length = d - a from by omega]; exact hx)
      have HXY := Lib.hid hxy
      have HU := Lib.hid hx
      clear hE hb1 hb2 hxy hx
      by_cases hst : y.step < x.step
      · have hHst := Lib.hid hst
        refine wp_region_held_drew (S := fun W => EntC W g b1 y ∧ EntC W g b2 x) (by kernel_rfl) ⟨hx1, hx2⟩ (fun hHeld => ?_)
        refine tkq (i := 0) (v := ?_) rfl (by kernel_rfl) (fun _ _ _ h => h) (by rfl) ?_ (by assumption) ?_
        rotate_left 1
        · ((intro w hSw; (try dsimp only at hSw); go_simp) <;> with_reducible rfl)
        try simp only [Act.put, tzA, tzB, tzC, tzD, tzE]
        refine tkq (i := 1) (v := ?_) rfl (by kernel_rfl) (fun _ _ _ h => h) (by rfl) ?_ (by assumption) ?_
        rotate_left 1
        · ((intro w hSw; (try dsimp only at hSw); go_simp) <;> with_reducible rfl)
        try simp only [Act.put, tzA, tzB, tzC, tzD, tzE, tzF]
        refine tkq (i := 2) (v := ?_) rfl (by kernel_rfl) (fun _ _ _ h => h) (by rfl) ?_ (by assumption) ?_
        rotate_left 1
        · ((intro w hSw; (try dsimp only at hSw); go_simp) <;> with_reducible rfl)
        try simp only [Act.put, tzA, tzB, tzC, tzD, tzE, tzF]
        refine tkq (i := 3) (v := ?_) rfl (by kernel_rfl) (fun _ _ _ h => h) (by rfl) ?_ (by assumption) ?_
        rotate_left 1
        · ((intro w hSw; (try dsimp only at hSw); go_simp) <;> with_reducible rfl)
        try simp only [Act.put, tzA, tzB, tzC, tzD, tzE, tzF]
        refine tkq (i := 4) (v := ?_) rfl (by kernel_rfl) (fun _ _ _ h => h) (by rfl) ?_ (by assumption) ?_
        rotate_left 1
        · ((intro w hSw; (try dsimp only at hSw); obtain ⟨⟨c0, c1, c2⟩, -⟩ := hSw; go_simp) <;> with_reducible rfl)
        try simp only [Act.put, tzA, tzB, tzC, tzD, tzE, tzF]
        refine tkq (i := 5) (v := ?_) rfl (by kernel_rfl) (fun _ _ _ h => h) (by rfl) ?_ (by assumption) ?_
        rotate_left 1
        · ((intro w hSw; (try dsimp only at hSw); go_simp) <;> with_reducible rfl)
        try simp only [Act.put, tzA, tzB, tzC, tzD, tzE, tzF]
        refine tkq (i := 6) (v := ?_) rfl (by kernel_rfl) (fun _ _ _ h => h) (by rfl) ?_ (by assumption) ?_
        rotate_left 1
        · ((intro w hSw; (try dsimp only at hSw); go_simp) <;> with_reducible rfl)
        try simp only [Act.put, tzA, tzB, tzC, tzD, tzE, tzF]
        refine tkq (i := 7) (v := ?_) rfl (by kernel_rfl) (fun _ _ _ h => h) (by rfl) ?_ (by assumption) ?_
        rotate_left 1
        · ((intro w hSw; (try dsimp only at hSw); go_simp) <;> with_reducible rfl)
        try simp only [Act.put, tzA, tzB, tzC, tzD, tzE, tzF]
        refine tkq (i := 8) (v := ?_) rfl (by kernel_rfl) (fun _ _ _ h => h) (by rfl) ?_ (by assumption) ?_
        rotate_left 1
        · ((intro w hSw; (try dsimp only at hSw); obtain ⟨-, c0, c1, c2⟩ := hSw; go_simp) <;> with_reducible rfl)
        try simp only [Act.put, tzA, tzB, tzC, tzD, tzE, tzF]
        refine wpAnyH_ready (rs := [9]) (by kernel_rfl) (by simp) ?_
        refine (AllReadyH.cons rfl (fun K hK => ?_) AllReadyH.nil)
        go_simp
        refine (order1_any y x _).mono ?_
        rintro e V1 ⟨⟨kk, rfl, hkk⟩, hbv⟩
        have hkt : decide (kk < 0) = true := by rw [decide_eq_true_iff, hkk]; exact hst
        refine hK.out _ _ ⟨entC_below (w := wr.drew) hbv hgr hx1, entC_below (w := wr.drew) hbv hgr hx2⟩ (fun hHeld2 => ?_)
        clear hK K
        try simp only [Act.put, tzA, tzB, tzC, tzD, tzE, tzF]
        refine tkq (i := 10) (v := ?_) rfl (by kernel_rfl) (fun _ _ _ h => h) (by rfl) ?_ (by assumption) ?_
        rotate_left 1
        · ((intro w hSw; (try dsimp only at hSw); go_simp) <;> with_reducible rfl)
        try simp only [Act.put, tzA, tzB, tzC, tzD, tzE, tzF]
        refine tkq (i := 11) (v := ?_) rfl (by kernel_rfl) (fun _ _ _ h => h) (by rfl) ?_ (by assumption) ?_
        rotate_left 1
        · ((intro w hSw; (try dsimp only at hSw); go_simp) <;> with_reducible rfl)
        try simp only [Act.put, tzA, tzB, tzC, tzD, tzE, tzF]
        refine wpAnyH_done (by kernel_rfl) ?_ _
        clear hHeld hHeld2
        have HCV := Lib.hid (show Chg (fun _ => False) wr V1 from (Chg.refl _ wr).drew.trans (Chg.of_below hbv))
        clear hbv hx1 hx2 hst hkk
        go_wp2_with fail
        go_roundw
        case rel => exact ⟨i, d, rfl, rfl, hdi, by omega, hmi, Lib.hid (HSK.out.down HS.out (by omega) (by omega) HU.out ((lessE_high HXY.out).2 hHst.out)), Lib.hid (HC.out.trans HCV.out)⟩
        case measure => simp [intOf]; omega
      · have hHst := Lib.hid hst
        refine wp_region_held_drew (S := fun W => EntC W g b1 y ∧ EntC W g b2 x) (by kernel_rfl) ⟨hx1, hx2⟩ (fun hHeld => ?_)
        refine tkq (i := 0) (v := ?_) rfl (by kernel_rfl) (fun _ _ _ h => h) (by rfl) ?_ (by assumption) ?_
        rotate_left 1
        · ((intro w hSw; (try dsimp only at hSw); go_simp) <;> with_reducible rfl)
        try simp only [Act.put, tzA, tzB, tzC, tzD, tzE]
        refine tkq (i := 1) (v := ?_) rfl (by kernel_rfl) (fun _ _ _ h => h) (by rfl) ?_ (by assumption) ?_
        rotate_left 1
        · ((intro w hSw; (try dsimp only at hSw); go_simp) <;> with_reducible rfl)
        try simp only [Act.put, tzA, tzB, tzC, tzD, tzE, tzF]
        refine tkq (i := 2) (v := ?_) rfl (by kernel_rfl) (fun _ _ _ h => h) (by rfl) ?_ (by assumption) ?_
        rotate_left 1
        · ((intro w hSw; (try dsimp only at hSw); go_simp) <;> with_reducible rfl)
        try simp only [Act.put, tzA, tzB, tzC, tzD, tzE, tzF]
        refine tkq (i := 3) (v := ?_) rfl (by kernel_rfl) (fun _ _ _ h => h) (by rfl) ?_ (by assumption) ?_
        rotate_left 1
        · ((intro w hSw; (try dsimp only at hSw); go_simp) <;> with_reducible rfl)
        try simp only [Act.put, tzA, tzB, tzC, tzD, tzE, tzF]
        refine tkq (i := 4) (v := ?_) rfl (by kernel_rfl) (fun _ _ _ h => h) (by rfl) ?_ (by assumption) ?_
        rotate_left 1
        · ((intro w hSw; (try dsimp only at hSw); obtain ⟨⟨c0, c1, c2⟩, -⟩ := hSw; go_simp) <;> with_reducible rfl)
        try simp only [Act.put, tzA, tzB, tzC, tzD, tzE, tzF]
        refine tkq (i := 5) (v := ?_) rfl (by kernel_rfl) (fun _ _ _ h => h) (by rfl) ?_ (by assumption) ?_
        rotate_left 1
        · ((intro w hSw; (try dsimp only at hSw); go_simp) <;> with_reducible rfl)
        try simp only [Act.put, tzA, tzB, tzC, tzD, tzE, tzF]
        refine tkq (i := 6) (v := ?_) rfl (by kernel_rfl) (fun _ _ _ h => h) (by rfl) ?_ (by assumption) ?_
        rotate_left 1
        · ((intro w hSw; (try dsimp only at hSw); go_simp) <;> with_reducible rfl)
        try simp only [Act.put, tzA, tzB, tzC, tzD, tzE, tzF]
        refine tkq (i := 7) (v := ?_) rfl (by kernel_rfl) (fun _ _ _ h => h) (by rfl) ?_ (by assumption) ?_
        rotate_left 1
        · ((intro w hSw; (try dsimp only at hSw); go_simp) <;> with_reducible rfl)
        try simp only [Act.put, tzA, tzB, tzC, tzD, tzE, tzF]
        refine tkq (i := 8) (v := ?_) rfl (by kernel_rfl) (fun _ _ _ h => h) (by rfl) ?_ (by assumption) ?_
        rotate_left 1
        · ((intro w hSw; (try dsimp only at hSw); obtain ⟨-, c0, c1, c2⟩ := hSw; go_simp) <;> with_reducible rfl)
        try simp only [Act.put, tzA, tzB, tzC, tzD, tzE, tzF]
        refine wpAnyH_ready (rs := [9]) (by kernel_rfl) (by simp) ?_
        refine (AllReadyH.cons rfl (fun K hK => ?_) AllReadyH.nil)
        go_simp
        refine (order1_any y x _).mono ?_
        rintro e V1 ⟨⟨kk, rfl, hkk⟩, hbv⟩
        have hkt : decide (kk < 0) = false := by rw [decide_eq_false_iff_not, hkk]; exact hst
        refine hK.out _ _ ⟨entC_below (w := wr.drew) hbv hgr hx1, entC_below (w := wr.drew) hbv hgr hx2⟩ (fun hHeld2 => ?_)
        clear hK K
        try simp only [Act.put, tzA, tzB, tzC, tzD, tzE, tzF]
        refine tkq (i := 10) (v := ?_) rfl (by kernel_rfl) (fun _ _ _ h => h) (by rfl) ?_ (by assumption) ?_
        rotate_left 1
        · ((intro w hSw; (try dsimp only at hSw); go_simp) <;> with_reducible rfl)
        try simp only [Act.put, tzA, tzB, tzC, tzD, tzE, tzF]
        refine tkq (i := 11) (v := ?_) rfl (by kernel_rfl) (fun _ _ _ h => h) (by rfl) ?_ (by assumption) ?_
        rotate_left 1
        · ((intro w hSw; (try dsimp only at hSw); go_simp) <;> with_reducible rfl)
        try simp only [Act.put, tzA, tzB, tzC, tzD, tzE, tzF]
        refine wpAnyH_done (by kernel_rfl) ?_ _
        clear hHeld hHeld2
        have HCV := Lib.hid (show Chg (fun _ => False) wr V1 from (Chg.refl _ wr).drew.trans (Chg.of_below hbv))
        clear hbv hx1 hx2 hst hkk
        go_wp2_with fail
        go_roundw
        case rel => exact ⟨d + 1, j, by go_num, rfl, by omega, hjb, by omega, Lib.hid (by rw [show d + 1 - a = d - a + 1 from by omega]; exact HSK.out.up HS.out (by omega) HU.out ((lessE_low HXY.out).2 hHst.out)), Lib.hid (HC.out.trans HCV.out)⟩
        case measure => simp [intOf]; omega
    · obtain rfl : i = j := by omega
      clear hlt hij
      obtain ⟨V1, V2, HV⟩ : ∃ V1 V2, Hid (V1 = A.take (i - a) ∧ V2 = A.drop (i - a) ∧ V1.length = i - a ∧ V1 ++ V2 = A) := ⟨_, _, Lib.hid ⟨rfl, rfl, by have h2 := HB.out; rw [List.length_take]; omega, List.take_append_drop _ _⟩⟩
      obtain ⟨hEN, hEP⟩ := HSK.out.ends HS.out
      rw [← HV.out.1, ← HV.out.2.1] at hEN hEP
      have HEN := Lib.hid (And.intro hEN (show (V1 ++ y :: V2).Perm (A ++ [y]) from hEP.trans (List.perm_append_singleton y A).symm))
      have HE1 := Lib.hid hE
      have HGR := Lib.hid hgr
      clear hEN hEP HSK hE hgr
      obtain ⟨wo, rfl⟩ : ∃ wo : World, wo = wr := ⟨_, rfl⟩
      go_upto_region 21 with fail
      go_loopw [17] (fun s wk => ∃ (k : Nat) (U1 U2 : List EntD), s = .int .i64 (k : Int) ∧ i ≤ k ∧ k ≤ 1000000 ∧ Hid (k = i + U1.length ∧ U1 ++ U2 = V2 ∧ EntAt wk g o (P ++ V1 ++ U1 ++ y :: U2 ++ R) ∧ Chg (fun j => j = g) w wk)) (fun s _ => (intOf s).toNat)
      case atStart => exact ⟨m, V2, [], rfl, hjb, hmm, Lib.hid ⟨by have h1 := congrArg List.length HV.out.2.2.2; have h2 := HV.out.2.2.1; have h3 := HB.out; simp at h1; omega, by simp, by have h1 := HE1.out; rw [← HV.out.2.2.2] at h1; simpa [List.append_assoc] using h1, chg_no HC.out⟩⟩
      case round =>
        obtain ⟨k, U1, U2, rfl, hik, hkm, HR⟩ := hrel
        by_cases hlt : i < k
        · rcases List.eq_nil_or_concat U1 with hU | ⟨U3, x, hU⟩
          · subst hU
            have := HR.out.1
            simp at this
            omega
          · rw [List.concat_eq_append] at hU
            subst hU
            have hk1 : 1 ≤ k := by omega
            obtain ⟨q, hq⟩ : ∃ q, q + 1 = k := ⟨k - 1, by omega⟩
            have wq : IntKind.i64.wrap ((k : Int) - 1) = (q : Int) := by rw [show ((k : Int) - 1) = (q : Int) from by omega]; exact IntWalk.i64_in _ (by omega)
            have hE : EntAt wr.drew g o ((P ++ V1 ++ U3) ++ x :: ([] ++ y :: (U2 ++ R))) := EntAt.drew (by have h1 := HR.out.2.2.1; simpa [List.append_assoc] using h1)
            have hl1 : q = (P ++ V1 ++ U3).length := by have h1 := HR.out.1; have h2 := HV.out.2.2.1; have h3 := HB.out; simp at h1; simp; omega
            have hl2 : k = (P ++ V1 ++ U3).length + 1 + ([] : List EntD).length := by simp at hl1; simp; omega
            have hzn : k < n := by have h1 := HL.out; have h3 := HB.out; have h2 := HV.out; have h4 := congrArg List.length HR.out.2.1; have h5 := congrArg List.length HV.out.2.2.2; have h6 := HR.out.1; simp at h4 h5 h6; omega
            obtain ⟨b1, hb1⟩ : ∃ z, z = o + q * 3 := ⟨_, rfl⟩
            obtain ⟨b2, hb2⟩ : ∃ z, z = o + k * 3 := ⟨_, rfl⟩
            have i1 : ∀ W : World, (Instr.indexAt 106 (.slice (some ⟨g, o, none⟩) n c) (.int .i64 (q : Int))).run Tryz.prog W = .ok (.pointer (some ⟨g, b1, none⟩)) W := fun W => by rw [hb1]; exact idx_ent (k := q) rfl (by omega) W
            have i2 : ∀ W : World, (Instr.indexAt 106 (.slice (some ⟨g, o, none⟩) n c) (.int .i64 (k : Int))).run Tryz.prog W = .ok (.pointer (some ⟨g, b2, none⟩)) W := fun W => by rw [hb2]; exact idx_ent (k := k) rfl hzn W
            have hx1 : EntC wr.drew g b1 x := by rw [hb1]; exact entC hE (by rw [hl1]; exact get_first)
            have hx2 : EntC wr.drew g b2 y := by rw [hb2]; exact entC hE (by rw [hl2]; exact get_second)
            have ht1 : wr.drew.there g b1 3 := by rw [hb1, hl1]; exact hE.free _ (by simp)
            have ht2 : wr.drew.there g b2 3 := by rw [hb2, hl2]; exact hE.free _ (by simp only [List.length_append, List.length_cons, List.length_nil]; omega)
            have hE3 := hE.swap (l1 := P ++ V1 ++ U3) (l2 := U2 ++ R)
            have hk3 : (P ++ V1 ++ U3).length + 1 = k := by rw [hl2]; rfl
            rw [hk3, ← hl1, ← hb1, ← hb2] at hE3
            have HE2 := Lib.hid (And.intro hE3 (And.intro ht1 (And.intro ht2 hq)))
            clear hE ht1 ht2 hl1 hl2 hb1 hb2 hE3 hk3 hq
            go_upto_region 23 with fail
            refine wp_region_late 15 (fun W => EntC W g b1 x ∧ EntC W g b2 y) (by kernel_rfl) ⟨hx1, hx2⟩ (fun hHeld => ?_)
            refine late_take (i := 0) (v := ?_) rfl (by kernel_rfl) (by kernel_rfl) (by kernel_rfl) (fun _ _ _ h => h) (by decide) (Or.inl ⟨by rfl, ?_⟩) (fun _ => hHeld) ?_
            rotate_left 1
            · ((intro w _; go_simp) <;> with_reducible rfl)
            try simp only [Act.put, tzA, tzB, tzC, tzD, tzE]
            refine late_take (i := 1) (v := ?_) rfl (by kernel_rfl) (by kernel_rfl) (by kernel_rfl) (fun _ _ _ h => h) (by decide) (Or.inl ⟨by rfl, ?_⟩) (fun _ => hHeld) ?_
            rotate_left 1
            · ((intro w _; go_simp) <;> with_reducible rfl)
            try simp only [Act.put, tzA, tzB, tzC, tzD, tzE, tzF]
            refine late_take (i := 2) (v := ?_) rfl (by kernel_rfl) (by kernel_rfl) (by kernel_rfl) (fun _ _ _ h => h) (by decide) (Or.inl ⟨by rfl, ?_⟩) (fun _ => hHeld) ?_
            rotate_left 1
            · ((intro w _; go_simp) <;> with_reducible rfl)
            try simp only [Act.put, tzA, tzB, tzC, tzD, tzE, tzF]
            refine late_take (i := 3) (v := ?_) rfl (by kernel_rfl) (by kernel_rfl) (by kernel_rfl) (fun _ _ _ h => h) (by decide) (Or.inl ⟨by rfl, ?_⟩) (fun _ => hHeld) ?_
            rotate_left 1
            · ((intro w _; go_simp) <;> with_reducible rfl)
            try simp only [Act.put, tzA, tzB, tzC, tzD, tzE, tzF]
            refine late_take (i := 4) (v := ?_) rfl (by kernel_rfl) (by kernel_rfl) (by kernel_rfl) (fun _ _ _ h => h) (by decide) (Or.inl ⟨by rfl, ?_⟩) (fun _ => hHeld) ?_
            rotate_left 1
            · ((intro w _; go_simp) <;> with_reducible rfl)
            try simp only [Act.put, tzA, tzB, tzC, tzD, tzE, tzF]
            refine late_take (i := 5) (v := ?_) rfl (by kernel_rfl) (by kernel_rfl) (by kernel_rfl) (fun _ _ _ h => h) (by decide) (Or.inl ⟨by rfl, ?_⟩) (fun _ => hHeld) ?_
            rotate_left 1
            · ((intro w _; go_simp) <;> with_reducible rfl)
            try simp only [Act.put, tzA, tzB, tzC, tzD, tzE, tzF]
            refine late_take (i := 6) (v := ?_) rfl (by kernel_rfl) (by kernel_rfl) (by kernel_rfl) (fun _ _ _ h => h) (by decide) (Or.inl ⟨by rfl, ?_⟩) (fun _ => hHeld) ?_
            rotate_left 1
            · ((intro w _; go_simp) <;> with_reducible rfl)
            try simp only [Act.put, tzA, tzB, tzC, tzD, tzE, tzF]
            refine late_take (i := 7) (v := ?_) rfl (by kernel_rfl) (by kernel_rfl) (by kernel_rfl) (fun _ _ _ h => h) (by decide) (Or.inl ⟨by rfl, ?_⟩) (fun _ => hHeld) ?_
            rotate_left 1
            · ((intro w _; go_simp) <;> with_reducible rfl)
            try simp only [Act.put, tzA, tzB, tzC, tzD, tzE, tzF]
            refine late_take (i := 8) (v := ?_) rfl (by kernel_rfl) (by kernel_rfl) (by kernel_rfl) (fun _ _ _ h => h) (by decide) (Or.inl ⟨by rfl, ?_⟩) (fun _ => hHeld) ?_
            rotate_left 1
            · ((intro w _; go_simp) <;> with_reducible rfl)
            try simp only [Act.put, tzA, tzB, tzC, tzD, tzE, tzF]
            refine late_read (i := 9) (v := ?_) rfl (by kernel_rfl) (by kernel_rfl) (by kernel_rfl) (fun _ _ _ h => h) (by decide) rfl (by kernel_rfl) (Or.inl ⟨by rfl, ?_⟩) hHeld (by kernel_rfl) ?_
            rotate_left 1
            · ((intro w hSw; (try dsimp only at hSw); obtain ⟨⟨c0, c1, c2⟩, -⟩ := hSw; go_simp) <;> with_reducible rfl)
            try simp only [Act.put, tzA, tzB, tzC, tzD, tzE, tzF]
            refine late_take (i := 10) (v := ?_) rfl (by kernel_rfl) (by kernel_rfl) (by kernel_rfl) (fun _ _ _ h => h) (by decide) (Or.inl ⟨by rfl, ?_⟩) (fun _ => hHeld) ?_
            rotate_left 1
            · ((intro w _; go_simp) <;> with_reducible rfl)
            try simp only [Act.put, tzA, tzB, tzC, tzD, tzE, tzF]
            refine late_take (i := 11) (v := ?_) rfl (by kernel_rfl) (by kernel_rfl) (by kernel_rfl) (fun _ _ _ h => h) (by decide) (Or.inl ⟨by rfl, ?_⟩) (fun _ => hHeld) ?_
            rotate_left 1
            · ((intro w _; go_simp) <;> with_reducible rfl)
            try simp only [Act.put, tzA, tzB, tzC, tzD, tzE, tzF]
            refine late_take (i := 12) (v := ?_) rfl (by kernel_rfl) (by kernel_rfl) (by kernel_rfl) (fun _ _ _ h => h) (by decide) (Or.inl ⟨by rfl, ?_⟩) (fun _ => hHeld) ?_
            rotate_left 1
            · ((intro w _; go_simp) <;> with_reducible rfl)
            try simp only [Act.put, tzA, tzB, tzC, tzD, tzE, tzF]
            refine late_read (i := 13) (v := ?_) rfl (by kernel_rfl) (by kernel_rfl) (by kernel_rfl) (fun _ _ _ h => h) (by decide) rfl (by kernel_rfl) (Or.inl ⟨by rfl, ?_⟩) hHeld (by kernel_rfl) ?_
            rotate_left 1
            · ((intro w hSw; (try dsimp only at hSw); obtain ⟨-, c0, c1, c2⟩ := hSw; go_simp) <;> with_reducible rfl)
            try simp only [Act.put, tzA, tzB, tzC, tzD, tzE, tzF]
            refine late_take (i := 14) (v := ?_) rfl (by kernel_rfl) (by kernel_rfl) (by kernel_rfl) (fun _ _ _ h => h) (by decide) (Or.inl ⟨by rfl, ?_⟩) (fun _ => hHeld) ?_
            rotate_left 1
            · ((intro w _; go_simp) <;> with_reducible rfl)
            try simp only [Act.put, tzA, tzB, tzC, tzD, tzE, tzF]
            refine late_one (i := 15) (by kernel_rfl) rfl (fun K hK => ?_)
            rw [if_pos (by rfl)]
            refine wp_store_mid 108 (.tmp 127) (.tmp 122) rfl g b2 #[.int .i64 x.step, .int .i64 x.call, .int .i64 x.drop] (by rfl) (by rfl) HE2.out.2.2.1 (by kernel_rfl) (by simp [Value.oneCell']) ?_
            refine hK.out _ _ (fun _ h => absurd rfl h) ?_
            clear hK K
            try simp only [Act.put, tzD, tzE, tzF]
            refine late_take (i := 16) (v := ?_) rfl (by kernel_rfl) (by kernel_rfl) (by kernel_rfl) (fun _ _ _ h => h) (by decide) (Or.inl ⟨by rfl, ?_⟩) (fun h => absurd h (by simp)) ?_
            rotate_left 1
            · ((intro w _; go_simp) <;> with_reducible rfl)
            try simp only [Act.put, tzA, tzB, tzC, tzD, tzE, tzF]
            refine late_one (i := 17) (by kernel_rfl) rfl (fun K hK => ?_)
            rw [if_pos (by rfl)]
            refine wp_store_mid 108 (.tmp 128) (.tmp 126) rfl g b1 #[.int .i64 y.step, .int .i64 y.call, .int .i64 y.drop] (by rfl) (by rfl) (World.there_setCells HE2.out.2.1 _ _ _) (by kernel_rfl) (by simp [Value.oneCell']) ?_
            refine hK.out _ _ (fun h => absurd h (by simp)) ?_
            clear hK K
            try simp only [Act.put, tzD, tzE, tzF]
            refine late_done (by kernel_rfl) ?_
            clear hHeld
            have hc3 : Chg (fun j => j = g) wr ((wr.drew.setCells g b2 (entCells x)).setCells g b1 (entCells y)) := Chg.setCells (M := fun j => j = g) (g := g) (fun _ => rfl) _ _ (Chg.setCells (M := fun j => j = g) (g := g) (fun _ => rfl) _ _ (Chg.refl _ _).drew)
            have HE3 := Lib.hid (And.intro HE2.out.1 hc3)
            have HQ := Lib.hid HE2.out.2.2.2
            clear hc3 HE2
            go_wp2_with fail
            go_roundw
            case rel => exact ⟨q, U3, x :: U2, rfl, by have := HQ.out; omega, by have := HQ.out; omega, Lib.hid ⟨by have h1 := HR.out.1; have := HQ.out; simp at h1; omega, by rw [← HR.out.2.1]; simp, by have h2 := HE3.out.1; simpa [List.append_assoc] using h2, HR.out.2.2.2.trans HE3.out.2⟩⟩
            case measure => have := HQ.out; simp [intOf]; omega
        · go_wp2_with fail
          have h1 : U1 = [] := List.eq_nil_of_length_eq_zero (by have h2 := HR.out.1; omega)
          have h2 : U2 = V2 := by have h3 := HR.out.2.1; rw [h1, List.nil_append] at h3; exact h3
          have hE : EntAt wr g o (P ++ (V1 ++ y :: V2) ++ R) := by have h3 := HR.out.2.2.1; rw [h1, h2] at h3; simpa [List.append_assoc] using h3
          exact bodyPost_ret (results_none (by exact Tryz.results105) _ _ _) rfl ⟨⟨_, rfl⟩, _, HEN.out.1, HEN.out.2, hE, HR.out.2.2.2⟩
end Go.Proofs.YtaooangnnlopcaaGreatDoor
namespace Go.Proofs.YtaooangnnlopcaaGreatDoor
open Go.RowKit Go.ChangeMaps Go.MapKept
/-- Runs of at most N entries are merged. -/
def SymIH (N : Nat) : Prop := ∀ {w : World} {g o n c nc a m b : Nat} {P A B R : List EntD}, A.length + B.length ≤ N → EntAt w g o (P ++ A ++ B ++ R) → g < w.heap.size → n = (P ++ A ++ B ++ R).length → n ≤ 1000000 → a = P.length → m = P.length + A.length → b = P.length + A.length + B.length → 0 < A.length → 0 < B.length → SortE nc A → SortE nc B → LowE nc A B → Calls Tryz.prog 105 #[.slice (some ⟨g, o, none⟩) n c, .int .i64 (a : Int), .int .i64 (m : Int), .int .i64 (b : Int), cmpF] w fun e w' => (∃ v, e = .returned v) ∧ MergeOk w g o nc P A B R w'
/-- Between which numbers the cut is sought. -/
def LoHi (tb : Bool) (a m b md nn lo hi : Nat) : Prop := (tb = true ∧ md < m ∧ lo + b = nn ∧ hi = md) ∨ (tb = false ∧ m ≤ md ∧ lo = a ∧ hi = m)
theorem LoHi.facts {tb : Bool} {a m b md nn lo hi : Nat} (h : LoHi tb a m b md nn lo hi) : (md < m ∧ lo + b = nn ∧ hi = md) ∨ (m ≤ md ∧ lo = a ∧ hi = m) := h.imp (fun h => h.2) (fun h => h.2)
def RotOk (w : World) (g o : Nat) (P A1 A2 B1 B2 R : List EntD) (w' : World) : Prop := EntAt w' g o (P ++ A1 ++ B1 ++ A2 ++ B2 ++ R) ∧ Chg (fun k => k = g) w w'
def HeadOk (w : World) (g o nc : Nat) (P A1 A2 B1 B2 R : List EntD) (w' : World) : Prop := ∃ S, SortE nc S ∧ S.Perm (A1 ++ B1) ∧ EntAt w' g o (P ++ S ++ A2 ++ B2 ++ R) ∧ Chg (fun k => k = g) w w'
def tailN : Nat → Code → Code
  | 0, c => c
  | n + 1, .seq _ b => tailN n b
  | _ + 1, c => c
noncomputable def symTail3 : Code := tailN 11 (Tryz.f105.body.getD .skip)
set_option maxRecDepth 1000000 in
set_option maxHeartbeats 100000000 in
theorem symTail3_any {N : Nat} (HI : SymIH N) {w wo wc : World} {g o n c nc a m b md nn en i : Nat} {P A B A1 A2 B1 B2 R : List EntD} {c5 c6 c7 c8 c9 c10 c11 c12 c13 c14 c15 c16 c17 c19 c21 c22 c23 c25 c26 c27 c28 c29 c30 c31 c32 c33 c34 c35 c36 c37 c38 c39 c40 c41 c42 c43 c44 c45 c46 c47 c48 c49 c50 c51 c52 c53 c54 c55 c56 c57 c58 c59 c60 c61 c62 c63 c64 c65 c66 c67 c68 c69 c70 c71 c72 c73 c74 c75 c76 c77 c78 c79 c80 c81 c82 c83 c84 c85 c86 c87 c88 c89 c90 c91 c92 c93 c94 c95 c96 c97 c98 c99 c100 c101 c102 c103 c104 c105 c106 c107 c108 c109 c110 c111 c112 c113 c114 c115 c116 c117 c118 c119 c120 c121 c122 c123 c124 c125 c126 c127 c128 c129 c130 c131 c132 c133 c134 c135 c136 c137 c138 c139 c140 c141 c142 c143 c144 c145 c146 c147 c148 c149 c150 c151 c152 c153 c154 c155 c156 c157 c158 c159 c160 c161 c162 c163 c164 c165 c166 c167 c168 c169 c170 c171 c172 c173 c174 c175 c176 c177 c178 c179 c180 c181 c182 c183 c184 c185 c186 c187 c188 c189 c190 c191 c192 c193 c194 c195 c196 c197 c198 c199 c200 c201 c202 c203 c204 c205 c206 c207 c208 c209 c210 c211 c212 c213 c214 c215 c216 c217 c218 c219 : Value}
    (hmx : n ≤ 1000000) (HN : Hid (A.length + B.length ≤ N + 1)) (HD : Hid (m = a + A.length ∧ b = m + B.length ∧ a = P.length)) (hnn : nn = md + m) (hen2 : en + i = nn) (hai : a ≤ i) (him2 : i ≤ m) (himd2 : i ≤ md) (hme : m ≤ en) (heb : en ≤ b) (hamd : a < md) (_hmdb : md < b)
    (HV : Hid (A1 = A.take (i - a) ∧ A2 = A.drop (i - a) ∧ B1 = B.take (en - m) ∧ B2 = B.drop (en - m) ∧ A1 ++ A2 = A ∧ B1 ++ B2 = B ∧ A1.length = i - a ∧ B1.length = en - m ∧ A2.length = m - i ∧ B2.length = b - en))
    (HEN : Hid ((∀ x y, A1.getLast? = some x → B2.head? = some y → lessE nc x y) ∧ (∀ x y, B1.getLast? = some x → A2.head? = some y → lessE nc x y)))
    (HSS : Hid ((SortE nc A1 ∧ SortE nc A2 ∧ AllE nc A1 A2) ∧ (SortE nc B1 ∧ SortE nc B2 ∧ AllE nc B1 B2) ∧ SortE nc (A1 ++ A2) ∧ SortE nc (B1 ++ B2) ∧ LowE nc (A1 ++ A2) (B1 ++ B2)))
    (HNN : Hid ((P ++ A1 ++ A2 ++ B1 ++ B2 ++ R).length = n)) (HC : Hid (Chg (fun _ => False) w wo)) (HGR : Hid (g < wo.heap.size)) (HF : Hid (HeadOk wo g o nc P A1 A2 B1 B2 R wc)) :
    Code.wp Tryz.prog symTail3 (bodyPost Tryz.prog Tryz.f105 (fun e w' => (∃ v, e = .returned v) ∧ MergeOk w g o nc P A B R w')) ⟨#[.slice (some ⟨g, o, none⟩) n c, .int .i64 (a : Int), .int .i64 (m : Int), .int .i64 (b : Int), cmpF, c5, c6, c7, c8, c9, c10, c11, c12, c13, c14, c15, c16, c17, .int .i64 (md : Int), c19, .int .i64 (i : Int), c21, c22, c23, .int .i64 (en : Int), c25, c26, c27, c28, c29, c30, c31, c32, c33, c34, c35, c36, c37, c38, c39, c40, c41, c42, c43, c44, c45, c46, c47, c48, c49, c50, c51, c52, c53, c54, c55, c56, c57, c58, c59, c60, c61, c62, c63, c64, c65, c66, c67, c68, c69, c70, c71, c72, c73, c74, c75, c76, c77, c78, c79, c80, c81, c82, c83, c84, c85, c86, c87, c88, c89, c90, c91, c92, c93, c94, c95, c96, c97, c98, c99, c100, c101, c102, c103, c104, c105, c106, c107, c108, c109, c110, c111, c112, c113, c114, c115, c116, c117, c118, c119, c120, c121, c122, c123, c124, c125, c126, c127, c128, c129, c130, c131, c132, c133, c134, c135, c136, c137, c138, c139, c140, c141, c142, c143, c144, c145, c146, c147, c148, c149, c150, c151, c152, c153, c154, c155, c156, c157, c158, c159, c160, c161, c162, c163, c164, c165, c166, c167, c168, c169, c170, c171, c172, c173, c174, c175, c176, c177, c178, c179, c180, c181, c182, c183, c184, c185, c186, c187, c188, c189, c190, c191, c192, c193, c194, c195, c196, c197, c198, c199, c200, c201, c202, c203, c204, c205, c206, c207, c208, c209, c210, c211, c212, c213, c214, c215, c216, c217, c218, c219], []⟩ wc := by
  have HM := Lib.hid (And.intro hnn hnn)
  conv => arg 2; whnf
  dsimp only
  obtain ⟨S, hS1, hS2, hE, hc⟩ := HF.out
  have HH := Lib.hid (And.intro hS1 (And.intro hS2 (And.intro hE hc)))
  clear hS1 hS2 hE hc HF
  have HG3 := Lib.hid (Nat.lt_of_lt_of_le HGR.out HH.out.2.2.2.size)
  have HSL := Lib.hid (show S.length = md - a from by have h1 := HH.out.2.1.length_eq; have h2 := HV.out; have h3 := HM.out; simp at h1; omega)
  go_upto_region 43 with fail
  obtain ⟨rb3, hrb3⟩ : ∃ z, z = decide (md < en ∧ en < b) := ⟨_, rfl⟩
  have Hrb3 := Lib.hid hrb3
  clear hrb3
  go_cut [213] (fun s wx => s = .bool rb3 ∧ wx = wc)
  case first =>
    by_cases hc1 : md < en
    · have q1 : ((md : Nat) : Int) < ((en : Nat) : Int) := by omega
      by_cases hc2 : en < b
      · have q2 : ((en : Nat) : Int) < ((b : Nat) : Int) := by omega
        have hv : rb3 = true := by rw [Hrb3.out]; simp; omega
        subst hv
        go_wp2_with fail
        go_meet
        case rel => exact ⟨rfl, rfl⟩
      · have q2 : ¬ ((en : Nat) : Int) < ((b : Nat) : Int) := by omega
        have hv : rb3 = false := by rw [Hrb3.out]; simp; omega
        subst hv
        go_wp2_with fail
        go_meet
        case rel => exact ⟨rfl, rfl⟩
    · have q1 : ¬ ((md : Nat) : Int) < ((en : Nat) : Int) := by omega
      have hv : rb3 = false := by rw [Hrb3.out]; simp; omega
      subst hv
      go_wp2_with fail
      go_meet
      case rel => exact ⟨rfl, rfl⟩
  case rest =>
    obtain ⟨rfl, rfl⟩ := hcut
    go_upto_if 213 with fail
    cases rb3
    · have hno : ¬ (md < en ∧ en < b) := of_decide_eq_false Hrb3.out.symm
      have hT1 : SortE nc (A2 ++ B2) := by
        rcases (show A2.length = 0 ∨ B2.length = 0 from by have h1 := HV.out; have h2 := HM.out; omega) with h1 | h1
        · rw [List.eq_nil_of_length_eq_zero h1]; exact HSS.out.2.1.2.1
        · rw [List.eq_nil_of_length_eq_zero h1, List.append_nil]; exact HSS.out.1.2.1
      have hE := HH.out.2.2.1
      have hc := HH.out.2.2.2
      obtain ⟨S2, hS2⟩ : ∃ z, z = A2 ++ B2 := ⟨_, rfl⟩
      rw [List.append_assoc (P ++ S), ← hS2, List.append_assoc P] at hE
      rw [← hS2] at hT1
      have hT2 : S2.Perm (A2 ++ B2) := by rw [hS2]
      have hj := merge_join HSS.out.2.2.1 HSS.out.2.2.2.1 HEN.out.1 HEN.out.2 HH.out.1 HH.out.2.1 hT1 hT2
      rw [HV.out.2.2.2.2.1, HV.out.2.2.2.2.2.1] at hj
      have HJ := Lib.hid (And.intro hj.1 (And.intro hj.2 (And.intro hE hc)))
      clear hj hT1 hT2 hE hc
      go_wp2_with fail
      exact bodyPost_end (results_none (by exact Tryz.results105) _ _ _) rfl ⟨⟨_, rfl⟩, S ++ S2, HJ.out.1, HJ.out.2.1, HJ.out.2.2.1, (chg_no HC.out).trans HJ.out.2.2.2⟩
    · obtain ⟨hc1, hc2⟩ : md < en ∧ en < b := of_decide_eq_true Hrb3.out.symm
      go_wp2_with fail
      refine (HI (nc := nc) (n := n) (a := md) (m := en) (b := b) (P := P ++ S) (A := A2) (B := B2) (R := R) (by have h1 := HV.out; have h2 := HN.out; have h3 := HD.out; have h4 := HM.out; omega) (by have h1 := HH.out.2.2.1; simpa [List.append_assoc] using h1) HG3.out (by rw [← HNN.out]; have h1 := HSL.out; have h2 := HV.out; have h4 := HM.out; simp; omega) hmx (by have h1 := HSL.out; have h3 := HD.out; simp; omega) (by have h1 := HV.out; have h2 := HSL.out; have h3 := HD.out; have h4 := HM.out; simp; omega) (by have h1 := HV.out; have h2 := HSL.out; have h3 := HD.out; have h4 := HM.out; simp; omega) (by have h1 := HV.out; have h4 := HM.out; omega) (by have h1 := HV.out; omega) HSS.out.1.2.1 HSS.out.2.1.2.1 (HSS.out.2.2.2.2.sub (fun _ h => List.mem_append_right _ h) (fun _ h => List.mem_append_right _ h))).mono ?_
      rintro e W2 ⟨⟨v, rfl⟩, S2, hT1, hT2, hE, hc⟩
      replace hE : EntAt W2 g o (P ++ (S ++ S2) ++ R) := by simpa [List.append_assoc] using hE
      replace hc := HH.out.2.2.2.trans hc
      have hj := merge_join HSS.out.2.2.1 HSS.out.2.2.2.1 HEN.out.1 HEN.out.2 HH.out.1 HH.out.2.1 hT1 hT2
      rw [HV.out.2.2.2.2.1, HV.out.2.2.2.2.2.1] at hj
      have HJ := Lib.hid (And.intro hj.1 (And.intro hj.2 (And.intro hE hc)))
      clear hj hT1 hT2 hE hc
      go_wp2_with fail
      exact bodyPost_end (results_none (by exact Tryz.results105) _ _ _) rfl ⟨⟨_, rfl⟩, S ++ S2, HJ.out.1, HJ.out.2.1, HJ.out.2.2.1, (chg_no HC.out).trans HJ.out.2.2.2⟩
noncomputable def symTail2 : Code := tailN 10 (Tryz.f105.body.getD .skip)
set_option maxRecDepth 1000000 in
set_option maxHeartbeats 100000000 in
theorem symTail2_any {N : Nat} (HI : SymIH N) {w wo wc : World} {g o n c nc a m b md nn en i : Nat} {P A B A1 A2 B1 B2 R : List EntD} {c5 c6 c7 c8 c9 c10 c11 c12 c13 c14 c15 c16 c17 c19 c21 c22 c23 c25 c26 c27 c28 c29 c30 c31 c32 c33 c34 c35 c36 c37 c38 c39 c40 c41 c42 c43 c44 c45 c46 c47 c48 c49 c50 c51 c52 c53 c54 c55 c56 c57 c58 c59 c60 c61 c62 c63 c64 c65 c66 c67 c68 c69 c70 c71 c72 c73 c74 c75 c76 c77 c78 c79 c80 c81 c82 c83 c84 c85 c86 c87 c88 c89 c90 c91 c92 c93 c94 c95 c96 c97 c98 c99 c100 c101 c102 c103 c104 c105 c106 c107 c108 c109 c110 c111 c112 c113 c114 c115 c116 c117 c118 c119 c120 c121 c122 c123 c124 c125 c126 c127 c128 c129 c130 c131 c132 c133 c134 c135 c136 c137 c138 c139 c140 c141 c142 c143 c144 c145 c146 c147 c148 c149 c150 c151 c152 c153 c154 c155 c156 c157 c158 c159 c160 c161 c162 c163 c164 c165 c166 c167 c168 c169 c170 c171 c172 c173 c174 c175 c176 c177 c178 c179 c180 c181 c182 c183 c184 c185 c186 c187 c188 c189 c190 c191 c192 c193 c194 c195 c196 c197 c198 c199 c200 c201 c202 c203 c204 c205 c206 c207 c208 c209 c210 c211 c212 c213 c214 c215 c216 c217 c218 c219 : Value}
    (hmx : n ≤ 1000000) (HN : Hid (A.length + B.length ≤ N + 1)) (HD : Hid (m = a + A.length ∧ b = m + B.length ∧ a = P.length)) (hnn : nn = md + m) (hen2 : en + i = nn) (hai : a ≤ i) (him2 : i ≤ m) (himd2 : i ≤ md) (hme : m ≤ en) (heb : en ≤ b) (hamd : a < md) (hmdb : md < b)
    (HV : Hid (A1 = A.take (i - a) ∧ A2 = A.drop (i - a) ∧ B1 = B.take (en - m) ∧ B2 = B.drop (en - m) ∧ A1 ++ A2 = A ∧ B1 ++ B2 = B ∧ A1.length = i - a ∧ B1.length = en - m ∧ A2.length = m - i ∧ B2.length = b - en))
    (HEN : Hid ((∀ x y, A1.getLast? = some x → B2.head? = some y → lessE nc x y) ∧ (∀ x y, B1.getLast? = some x → A2.head? = some y → lessE nc x y)))
    (HSS : Hid ((SortE nc A1 ∧ SortE nc A2 ∧ AllE nc A1 A2) ∧ (SortE nc B1 ∧ SortE nc B2 ∧ AllE nc B1 B2) ∧ SortE nc (A1 ++ A2) ∧ SortE nc (B1 ++ B2) ∧ LowE nc (A1 ++ A2) (B1 ++ B2)))
    (HNN : Hid ((P ++ A1 ++ A2 ++ B1 ++ B2 ++ R).length = n)) (HC : Hid (Chg (fun _ => False) w wo)) (HGR : Hid (g < wo.heap.size)) (HF : Hid (RotOk wo g o P A1 A2 B1 B2 R wc)) :
    Code.wp Tryz.prog symTail2 (bodyPost Tryz.prog Tryz.f105 (fun e w' => (∃ v, e = .returned v) ∧ MergeOk w g o nc P A B R w')) ⟨#[.slice (some ⟨g, o, none⟩) n c, .int .i64 (a : Int), .int .i64 (m : Int), .int .i64 (b : Int), cmpF, c5, c6, c7, c8, c9, c10, c11, c12, c13, c14, c15, c16, c17, .int .i64 (md : Int), c19, .int .i64 (i : Int), c21, c22, c23, .int .i64 (en : Int), c25, c26, c27, c28, c29, c30, c31, c32, c33, c34, c35, c36, c37, c38, c39, c40, c41, c42, c43, c44, c45, c46, c47, c48, c49, c50, c51, c52, c53, c54, c55, c56, c57, c58, c59, c60, c61, c62, c63, c64, c65, c66, c67, c68, c69, c70, c71, c72, c73, c74, c75, c76, c77, c78, c79, c80, c81, c82, c83, c84, c85, c86, c87, c88, c89, c90, c91, c92, c93, c94, c95, c96, c97, c98, c99, c100, c101, c102, c103, c104, c105, c106, c107, c108, c109, c110, c111, c112, c113, c114, c115, c116, c117, c118, c119, c120, c121, c122, c123, c124, c125, c126, c127, c128, c129, c130, c131, c132, c133, c134, c135, c136, c137, c138, c139, c140, c141, c142, c143, c144, c145, c146, c147, c148, c149, c150, c151, c152, c153, c154, c155, c156, c157, c158, c159, c160, c161, c162, c163, c164, c165, c166, c167, c168, c169, c170, c171, c172, c173, c174, c175, c176, c177, c178, c179, c180, c181, c182, c183, c184, c185, c186, c187, c188, c189, c190, c191, c192, c193, c194, c195, c196, c197, c198, c199, c200, c201, c202, c203, c204, c205, c206, c207, c208, c209, c210, c211, c212, c213, c214, c215, c216, c217, c218, c219], []⟩ wc := by
  have HM := Lib.hid (And.intro hnn hnn)
  conv => arg 2; whnf
  dsimp only
  have HG2 := Lib.hid (Nat.lt_of_lt_of_le HGR.out HF.out.2.size)
  go_upto_region 41 with fail
  obtain ⟨rb2, hrb2⟩ : ∃ z, z = decide (a < i ∧ i < md) := ⟨_, rfl⟩
  have Hrb2 := Lib.hid hrb2
  clear hrb2
  go_cut [199] (fun s wx => s = .bool rb2 ∧ wx = wc)
  case first =>
    by_cases hc1 : a < i
    · have q1 : ((a : Nat) : Int) < ((i : Nat) : Int) := by omega
      by_cases hc2 : i < md
      · have q2 : ((i : Nat) : Int) < ((md : Nat) : Int) := by omega
        have hv : rb2 = true := by rw [Hrb2.out]; simp; omega
        subst hv
        go_wp2_with fail
        go_meet
        case rel => exact ⟨rfl, rfl⟩
      · have q2 : ¬ ((i : Nat) : Int) < ((md : Nat) : Int) := by omega
        have hv : rb2 = false := by rw [Hrb2.out]; simp; omega
        subst hv
        go_wp2_with fail
        go_meet
        case rel => exact ⟨rfl, rfl⟩
    · have q1 : ¬ ((a : Nat) : Int) < ((i : Nat) : Int) := by omega
      have hv : rb2 = false := by rw [Hrb2.out]; simp; omega
      subst hv
      go_wp2_with fail
      go_meet
      case rel => exact ⟨rfl, rfl⟩
  case rest =>
    obtain ⟨rfl, rfl⟩ := hcut
    go_upto_if 199 with fail
    go_cut [] (fun wx => HeadOk wo g o nc P A1 A2 B1 B2 R wx)
    case first =>
      cases rb2
      · have hno : ¬ (a < i ∧ i < md) := of_decide_eq_false Hrb2.out.symm
        have h0 : SortE nc (A1 ++ B1) := by
          rcases (show A1.length = 0 ∨ B1.length = 0 from by have h1 := HV.out; have h2 := HM.out; omega) with h1 | h1
          · rw [List.eq_nil_of_length_eq_zero h1]; exact HSS.out.2.1.1
          · rw [List.eq_nil_of_length_eq_zero h1, List.append_nil]; exact HSS.out.1.1
        have HH := Lib.hid (show HeadOk wo g o nc P A1 A2 B1 B2 R _ from ⟨A1 ++ B1, h0, .refl _, by have h1 := HF.out.1; simpa [List.append_assoc] using h1, HF.out.2⟩)
        clear h0
        go_wp2_with fail
        go_meet
        case rel => exact HH.out
      · obtain ⟨hc1, hc2⟩ : a < i ∧ i < md := of_decide_eq_true Hrb2.out.symm
        go_wp2_with fail
        refine (HI (nc := nc) (n := n) (a := a) (m := i) (b := md) (P := P) (A := A1) (B := B1) (R := A2 ++ B2 ++ R) (by have h1 := HV.out; have h2 := HN.out; have h3 := HD.out; have h4 := HM.out; omega) (by have h1 := HF.out.1; simpa [List.append_assoc] using h1) HG2.out (by rw [← HNN.out]; simp; omega) hmx HD.out.2.2 (by have h1 := HV.out; have h3 := HD.out; omega) (by have h1 := HV.out; have h3 := HD.out; have h4 := HM.out; omega) (by have h1 := HV.out; omega) (by have h1 := HV.out; have h4 := HM.out; omega) HSS.out.1.1 HSS.out.2.1.1 (HSS.out.2.2.2.2.sub (fun _ h => List.mem_append_left _ h) (fun _ h => List.mem_append_left _ h))).mono ?_
        rintro e W2 ⟨⟨v, rfl⟩, S, hS1, hS2, hE, hc⟩
        have HH := Lib.hid (show HeadOk wo g o nc P A1 A2 B1 B2 R W2 from ⟨S, hS1, hS2, by simpa [List.append_assoc] using hE, HF.out.2.trans hc⟩)
        clear hE hc hS1 hS2
        go_wp2_with fail
        go_meet
        case rel => exact HH.out
    case rest =>
      apply_assumption
      exact symTail3_any HI hmx HN HD hnn hen2 hai him2 himd2 hme heb hamd hmdb HV HEN HSS HNN HC HGR (Lib.hid hcut)
noncomputable def symTail1 : Code := tailN 9 (Tryz.f105.body.getD .skip)
set_option maxRecDepth 1000000 in
set_option maxHeartbeats 100000000 in
theorem symTail1_any {N : Nat} (HI : SymIH N) {w wo _wc : World} {g o n c nc a m b md nn en i : Nat} {P A B A1 A2 B1 B2 R : List EntD} {c5 c6 c7 c8 c9 c10 c11 c12 c13 c14 c15 c16 c17 c19 c21 c22 c23 c25 c26 c27 c28 c29 c30 c31 c32 c33 c34 c35 c36 c37 c38 c39 c40 c41 c42 c43 c44 c45 c46 c47 c48 c49 c50 c51 c52 c53 c54 c55 c56 c57 c58 c59 c60 c61 c62 c63 c64 c65 c66 c67 c68 c69 c70 c71 c72 c73 c74 c75 c76 c77 c78 c79 c80 c81 c82 c83 c84 c85 c86 c87 c88 c89 c90 c91 c92 c93 c94 c95 c96 c97 c98 c99 c100 c101 c102 c103 c104 c105 c106 c107 c108 c109 c110 c111 c112 c113 c114 c115 c116 c117 c118 c119 c120 c121 c122 c123 c124 c125 c126 c127 c128 c129 c130 c131 c132 c133 c134 c135 c136 c137 c138 c139 c140 c141 c142 c143 c144 c145 c146 c147 c148 c149 c150 c151 c152 c153 c154 c155 c156 c157 c158 c159 c160 c161 c162 c163 c164 c165 c166 c167 c168 c169 c170 c171 c172 c173 c174 c175 c176 c177 c178 c179 c180 c181 c182 c183 c184 c185 c186 c187 c188 c189 c190 c191 c192 c193 c194 c195 c196 c197 c198 c199 c200 c201 c202 c203 c204 c205 c206 c207 c208 c209 c210 c211 c212 c213 c214 c215 c216 c217 c218 c219 : Value}
    (hmx : n ≤ 1000000) (HN : Hid (A.length + B.length ≤ N + 1)) (HD : Hid (m = a + A.length ∧ b = m + B.length ∧ a = P.length)) (hnn : nn = md + m) (hen2 : en + i = nn) (hai : a ≤ i) (him2 : i ≤ m) (himd2 : i ≤ md) (hme : m ≤ en) (heb : en ≤ b) (hamd : a < md) (hmdb : md < b)
    (HV : Hid (A1 = A.take (i - a) ∧ A2 = A.drop (i - a) ∧ B1 = B.take (en - m) ∧ B2 = B.drop (en - m) ∧ A1 ++ A2 = A ∧ B1 ++ B2 = B ∧ A1.length = i - a ∧ B1.length = en - m ∧ A2.length = m - i ∧ B2.length = b - en))
    (HEN : Hid ((∀ x y, A1.getLast? = some x → B2.head? = some y → lessE nc x y) ∧ (∀ x y, B1.getLast? = some x → A2.head? = some y → lessE nc x y)))
    (HSS : Hid ((SortE nc A1 ∧ SortE nc A2 ∧ AllE nc A1 A2) ∧ (SortE nc B1 ∧ SortE nc B2 ∧ AllE nc B1 B2) ∧ SortE nc (A1 ++ A2) ∧ SortE nc (B1 ++ B2) ∧ LowE nc (A1 ++ A2) (B1 ++ B2)))
    (HNN : Hid ((P ++ A1 ++ A2 ++ B1 ++ B2 ++ R).length = n)) (HC : Hid (Chg (fun _ => False) w wo)) (HGR : Hid (g < wo.heap.size)) (HE1 : Hid (EntAt wo g o (P ++ A1 ++ A2 ++ B1 ++ B2 ++ R))) :
    Code.wp Tryz.prog symTail1 (bodyPost Tryz.prog Tryz.f105 (fun e w' => (∃ v, e = .returned v) ∧ MergeOk w g o nc P A B R w')) ⟨#[.slice (some ⟨g, o, none⟩) n c, .int .i64 (a : Int), .int .i64 (m : Int), .int .i64 (b : Int), cmpF, c5, c6, c7, c8, c9, c10, c11, c12, c13, c14, c15, c16, c17, .int .i64 (md : Int), c19, .int .i64 (i : Int), c21, c22, c23, .int .i64 (en : Int), c25, c26, c27, c28, c29, c30, c31, c32, c33, c34, c35, c36, c37, c38, c39, c40, c41, c42, c43, c44, c45, c46, c47, c48, c49, c50, c51, c52, c53, c54, c55, c56, c57, c58, c59, c60, c61, c62, c63, c64, c65, c66, c67, c68, c69, c70, c71, c72, c73, c74, c75, c76, c77, c78, c79, c80, c81, c82, c83, c84, c85, c86, c87, c88, c89, c90, c91, c92, c93, c94, c95, c96, c97, c98, c99, c100, c101, c102, c103, c104, c105, c106, c107, c108, c109, c110, c111, c112, c113, c114, c115, c116, c117, c118, c119, c120, c121, c122, c123, c124, c125, c126, c127, c128, c129, c130, c131, c132, c133, c134, c135, c136, c137, c138, c139, c140, c141, c142, c143, c144, c145, c146, c147, c148, c149, c150, c151, c152, c153, c154, c155, c156, c157, c158, c159, c160, c161, c162, c163, c164, c165, c166, c167, c168, c169, c170, c171, c172, c173, c174, c175, c176, c177, c178, c179, c180, c181, c182, c183, c184, c185, c186, c187, c188, c189, c190, c191, c192, c193, c194, c195, c196, c197, c198, c199, c200, c201, c202, c203, c204, c205, c206, c207, c208, c209, c210, c211, c212, c213, c214, c215, c216, c217, c218, c219], []⟩ wo := by
  have HM := Lib.hid (And.intro hnn hnn)
  conv => arg 2; whnf
  dsimp only
  go_upto_region 39 with fail
  obtain ⟨rb1, hrb1⟩ : ∃ z, z = decide (i < m ∧ m < en) := ⟨_, rfl⟩
  have Hrb1 := Lib.hid hrb1
  clear hrb1
  go_cut [185] (fun s wx => s = .bool rb1 ∧ wo = wx)
  case first =>
    by_cases hc1 : i < m
    · have q1 : ((i : Nat) : Int) < ((m : Nat) : Int) := by omega
      by_cases hc2 : m < en
      · have q2 : ((m : Nat) : Int) < ((en : Nat) : Int) := by omega
        have hv : rb1 = true := by rw [Hrb1.out]; simp; omega
        subst hv
        go_wp2_with fail
        go_meet
        case rel => exact ⟨rfl, rfl⟩
      · have q2 : ¬ ((m : Nat) : Int) < ((en : Nat) : Int) := by omega
        have hv : rb1 = false := by rw [Hrb1.out]; simp; omega
        subst hv
        go_wp2_with fail
        go_meet
        case rel => exact ⟨rfl, rfl⟩
    · have q1 : ¬ ((i : Nat) : Int) < ((m : Nat) : Int) := by omega
      have hv : rb1 = false := by rw [Hrb1.out]; simp; omega
      subst hv
      go_wp2_with fail
      go_meet
      case rel => exact ⟨rfl, rfl⟩
  case rest =>
    obtain ⟨rfl, rfl⟩ := hcut
    go_upto_if 185 with fail
    go_cut [] (fun wx => RotOk wo g o P A1 A2 B1 B2 R wx)
    case first =>
      cases rb1
      · have hno : ¬ (i < m ∧ m < en) := of_decide_eq_false Hrb1.out.symm
        have h0 : A2 ++ B1 = B1 ++ A2 := by
          rcases (show A2.length = 0 ∨ B1.length = 0 from by have h1 := HV.out; omega) with h1 | h1
          · rw [List.eq_nil_of_length_eq_zero h1]; simp
          · rw [List.eq_nil_of_length_eq_zero h1]; simp
        have HF := Lib.hid (show RotOk wo g o P A1 A2 B1 B2 R wo from ⟨by have h1 := HE1.out; rw [show P ++ A1 ++ A2 ++ B1 ++ B2 ++ R = P ++ A1 ++ (A2 ++ B1) ++ B2 ++ R from by simp [List.append_assoc], h0] at h1; simpa [List.append_assoc] using h1, Chg.refl _ _⟩)
        clear h0
        go_wp2_with fail
        go_meet
        case rel => exact HF.out
      · obtain ⟨hc1, hc2⟩ : i < m ∧ m < en := of_decide_eq_true Hrb1.out.symm
        go_wp2_with fail
        refine (rotate_any (n := n) (a := i) (m := m) (b := en) (P := P ++ A1) (A := A2) (B := B1) (R := B2 ++ R) (by have h1 := HE1.out; simpa [List.append_assoc] using h1) HGR.out (by rw [← HNN.out]; simp [List.append_assoc]) hmx (by have h1 := HV.out; have h3 := HD.out; simp; omega) (by have h1 := HV.out; have h3 := HD.out; simp; omega) (by have h1 := HV.out; have h3 := HD.out; simp; omega) (by have h1 := HV.out; omega) (by have h1 := HV.out; omega)).mono ?_
        rintro e W2 ⟨⟨v, rfl⟩, hE, hc⟩
        have HF := Lib.hid (show RotOk wo g o P A1 A2 B1 B2 R W2 from ⟨by simpa [List.append_assoc] using hE, hc⟩)
        clear hE hc
        go_wp2_with fail
        go_meet
        case rel => exact HF.out
    case rest =>
      apply_assumption
      exact symTail2_any HI hmx HN HD hnn hen2 hai him2 himd2 hme heb hamd hmdb HV HEN HSS HNN HC HGR (Lib.hid hcut)
end Go.Proofs.YtaooangnnlopcaaGreatDoor
namespace Go.Proofs.YtaooangnnlopcaaGreatDoor
open Go.RowKit Go.ChangeMaps Go.MapKept
set_option maxRecDepth 100000 in
set_option maxHeartbeats 8000000 in
theorem symC_any {N : Nat} (HI : SymIH N) {w : World} {g o n c nc a m b : Nat} {P A B R : List EntD} (hN : A.length + B.length ≤ N + 1) (h : EntAt w g o (P ++ A ++ B ++ R)) (hg : g < w.heap.size) (hn : n = (P ++ A ++ B ++ R).length) (hmx : n ≤ 1000000) (ha : a = P.length) (hm : m = P.length + A.length) (hb : b = P.length + A.length + B.length) (hA0 : 0 < A.length) (hB0 : 0 < B.length) (hA1 : A.length ≠ 1) (hB1 : B.length ≠ 1) (hSA : SortE nc A) (hSB : SortE nc B) (hlow : LowE nc A B) : Calls Tryz.prog 105 #[.slice (some ⟨g, o, none⟩) n c, .int .i64 (a : Int), .int .i64 (m : Int), .int .i64 (b : Int), cmpF] w fun e w' => (∃ v, e = .returned v) ∧ MergeOk w g o nc P A B R w' := by
  have HL := Lib.hid (show b + R.length = n from by rw [hn, hb]; simp; omega)
  have HD := Lib.hid (show m = a + A.length ∧ b = m + B.length ∧ a = P.length from by omega)
  have hbm : b ≤ 1000000 := by have := HL.out; omega
  have ham : a < m := by omega
  have hmb : m < b := by omega
  have hw0 : IntKind.i64.wrap ((m : Int) - (a : Int)) = ((A.length : Nat) : Int) := by rw [show ((m : Int) - (a : Int)) = ((A.length : Nat) : Int) from by omega]; exact IntWalk.i64_in _ (by omega)
  have hq0 : (((A.length : Nat) : Int) == 1) = false := by rw [beq_eq_false_iff_ne]; omega
  have hw1 : IntKind.i64.wrap ((b : Int) - (m : Int)) = ((B.length : Nat) : Int) := by rw [show ((b : Int) - (m : Int)) = ((B.length : Nat) : Int) from by omega]; exact IntWalk.i64_in _ (by omega)
  have hq1 : (((B.length : Nat) : Int) == 1) = false := by rw [beq_eq_false_iff_ne]; omega
  obtain ⟨t, ht⟩ : ∃ t, t = a + b := ⟨_, rfl⟩
  obtain ⟨md, hmd⟩ : ∃ d, d = t / 2 := ⟨_, rfl⟩
  obtain ⟨nn, hnn⟩ : ∃ d, d = md + m := ⟨_, rfl⟩
  have wt : IntKind.i64.wrap ((a : Int) + (b : Int)) = (t : Int) := by rw [ht]; exact IntWalk.i64_in _ (by omega)
  have wt2 : IntKind.u64.wrap (t : Int) = (t : Int) := IntWalk.u64_in _ (by omega)
  have wt3 : IntKind.i64.wrap ((t : Int) / 2) = (md : Int) := by rw [hmd]; exact half_run t (by omega)
  have wt4 : IntKind.i64.wrap ((md : Int) + (m : Int)) = (nn : Int) := by rw [hnn]; exact IntWalk.i64_in _ (by omega)
  have wt5 : IntKind.i64.wrap ((nn : Int) - 1) = ((nn - 1 : Nat) : Int) := by rw [show ((nn : Int) - 1) = ((nn - 1 : Nat) : Int) from by omega]; exact IntWalk.i64_in _ (by omega)
  obtain ⟨pp, hpp⟩ : ∃ d, d = nn - 1 := ⟨_, rfl⟩
  rw [← hpp] at wt5
  have hamd : a < md := by omega
  have hmdb : md < b := by omega
  obtain ⟨tb, htb⟩ : ∃ tb, decide ((md : Int) < (m : Int)) = tb := ⟨_, rfl⟩
  obtain ⟨lo, hi, HLH⟩ : ∃ lo hi, Hid (LoHi tb a m b md nn lo hi) := by
    cases tb
    · exact ⟨a, m, Lib.hid (.inr ⟨rfl, by rw [decide_eq_false_iff_not] at htb; omega, rfl, rfl⟩)⟩
    · exact ⟨nn - b, md, Lib.hid (.inl ⟨rfl, by rw [decide_eq_true_iff] at htb; omega, by rw [decide_eq_true_iff] at htb; omega, rfl⟩)⟩
  have hlh : lo ≤ hi ∧ a ≤ lo ∧ hi ≤ m ∧ hi ≤ md ∧ nn ≤ lo + b := by
    clear wt wt2 wt3 wt4 wt5 hw0 hw1 hq0 hq1 htb hpp hN hn hA1 hB1
    rcases HLH.out.facts with ⟨h1, h2, h3⟩ | ⟨h1, h2, h3⟩ <;> refine ⟨?_, ?_, ?_, ?_, ?_⟩ <;> omega
  obtain ⟨hlo, hal, him, himd, hnb⟩ := hlh
  have HN := Lib.hid hN
  have HM := Lib.hid (show nn = md + m ∧ pp + 1 = nn from by omega)
  have HLOW := Lib.hid hlow
  have HSA := Lib.hid hSA
  have HSB := Lib.hid hSB
  have HG := Lib.hid hg
  have HE := Lib.hid h
  have hnn1 : nn ≤ 2000000 := by omega
  have hpp1 : pp ≤ 2000000 := by omega
  clear hn ha hm hb hg h hlow hSA hSB hA0 hB0 hA1 hB1 ht hmd hnn hpp hN
  go_enter Tryz.func105, Tryz.ntmps105
  go_upto_if 140 with fail
  first | rw [show decide ((md : Int) < (m : Int)) = tb from htb] | rw [show decide (md < m) = tb from by rw [← htb]; simp]
  go_cut [20, 21] (fun s20 s21 wx => s20 = .int .i64 (lo : Int) ∧ s21 = .int .i64 (hi : Int) ∧ w = wx)
  case first =>
    cases tb
    · have hlo2 : lo = a ∧ hi = m := by have h1 := HLH.out; unfold LoHi at h1; simp at h1; exact h1.2
      have HLO := Lib.hid hlo2
      clear hlo2 hlo hal him himd hnb HLH
      go_wp2_with fail
      go_meet
      case rel => exact ⟨by rw [HLO.out.1], by rw [HLO.out.2], rfl⟩
    · have hlo2 : lo + b = nn ∧ hi = md := by have h1 := HLH.out; unfold LoHi at h1; simp at h1; exact h1.2
      have w20 : IntKind.i64.wrap ((nn : Int) - (b : Int)) = (lo : Int) := by rw [show ((nn : Int) - (b : Int)) = (lo : Int) from by omega]; exact IntWalk.i64_in _ (by omega)
      have HLO := Lib.hid hlo2
      clear hlo2 hlo hal him himd hnb HLH
      go_wp2_with fail
      go_meet
      case rel => exact ⟨rfl, by rw [HLO.out.2], rfl⟩
  case rest =>
    obtain ⟨rfl, rfl, rfl⟩ := hcut
    go_upto_region 33 with fail
    go_loopw [20, 21] (fun si sj wr => ∃ (i j : Nat), si = .int .i64 (i : Int) ∧ sj = .int .i64 (j : Int) ∧ i ≤ j ∧ lo ≤ i ∧ j ≤ hi ∧ Hid (Cut nc A B (md - 1 - a) (lo - a) (hi - a) (i - a) (j - a)) ∧ Hid (Chg (fun _ => False) w wr)) (fun si sj _ => (intOf sj).toNat - (intOf si).toNat)
    case atStart => exact ⟨lo, hi, rfl, rfl, hlo, Nat.le_refl _, Nat.le_refl _, Lib.hid (Cut.start (by omega)), Lib.hid (Chg.refl _ _)⟩
    case round =>
      obtain ⟨i, j, rfl, rfl, hij, hli, hjh, HCT, HC⟩ := hrel
      have hE : EntAt wr g o (P ++ A ++ B ++ R) := HE.out.kept (M := fun _ => False) HC.out HG.out id
      have hgr : g < wr.heap.size := Nat.lt_of_lt_of_le HG.out HC.out.size
      by_cases hlt : i < j
      · obtain ⟨t2, ht⟩ : ∃ t, t = i + j := ⟨_, rfl⟩
        obtain ⟨d, hd⟩ : ∃ d, d = t2 / 2 := ⟨_, rfl⟩
        have hdi : i ≤ d := by omega
        have hdj : d < j := by omega
        have vt : IntKind.i64.wrap ((i : Int) + (j : Int)) = (t2 : Int) := by rw [ht]; exact IntWalk.i64_in _ (by omega)
        have vt2 : IntKind.u64.wrap (t2 : Int) = (t2 : Int) := IntWalk.u64_in _ (by omega)
        have vt3 : IntKind.i64.wrap ((t2 : Int) / 2) = (d : Int) := by rw [hd]; exact half_run t2 (by omega)
        have hdp : d < pp := by have := HM.out; omega
        obtain ⟨pd, hpd⟩ : ∃ z, z = pp - d := ⟨_, rfl⟩
        have vt4 : IntKind.i64.wrap ((pp : Int) - (d : Int)) = (pd : Int) := by rw [show ((pp : Int) - (d : Int)) = (pd : Int) from by omega]; exact IntWalk.i64_in _ (by omega)
        have HPD := Lib.hid (show pd - m = md - 1 - a - (d - a) ∧ m ≤ pd ∧ pd < b from by have := HM.out; omega)
        clear ht hd hpd
        obtain ⟨x, hx⟩ : ∃ x, A[d - a]? = some x := ⟨_, List.getElem?_eq_getElem (by have := HD.out; omega)⟩
        obtain ⟨y, hy⟩ : ∃ y, B[pd - m]? = some y := ⟨_, List.getElem?_eq_getElem (by have := HD.out; have := HPD.out; omega)⟩
        go_upto_region 35 with fail
        obtain ⟨b1, hb1⟩ : ∃ z, z = o + pd * 3 := ⟨_, rfl⟩
        obtain ⟨b2, hb2⟩ : ∃ z, z = o + d * 3 := ⟨_, rfl⟩
        have i1 : ∀ W : World, (Instr.indexAt 106 (.slice (some ⟨g, o, none⟩) n c) (.int .i64 (pd : Int))).run Tryz.prog W = .ok (.pointer (some ⟨g, b1, none⟩)) W := fun W => by rw [hb1]; exact idx_ent (k := pd) rfl (by have := HL.out; have := HPD.out; omega) W
        have i2 : ∀ W : World, (Instr.indexAt 106 (.slice (some ⟨g, o, none⟩) n c) (.int .i64 (d : Int))).run Tryz.prog W = .ok (.pointer (some ⟨g, b2, none⟩)) W := fun W => by rw [hb2]; exact idx_ent (k := d) rfl (by have := HL.out; omega) W
        have hx1 : EntC wr g b1 y := by rw [hb1]; exact entC hE (by have h2 := HD.out; have h3 := HPD.out; have h4 := (List.getElem?_eq_some_iff.1 hy).1; rw [List.append_assoc, List.append_assoc, List.getElem?_append_right (by omega), List.getElem?_append_right (by omega), List.getElem?_append_left (by omega), show pd - P.length - A.length = pd - m from by omega]; exact hy)
        have hx2 : EntC wr g b2 x := by rw [hb2]; exact entC hE (by have h2 := HD.out; have h4 := (List.getElem?_eq_some_iff.1 hx).1; rw [List.append_assoc, List.append_assoc, List.getElem?_append_right (by omega), List.getElem?_append_left (by omega), show d - P.length = d - a from by omega]; exact hx)
        rw [HPD.out.1] at hy
        have HU := Lib.hid (And.intro hx hy)
        clear hE hb1 hb2 hx hy
        refine wp_region_held_drew (S := fun W => EntC W g b1 y ∧ EntC W g b2 x) (by kernel_rfl) ⟨hx1, hx2⟩ (fun hHeld => ?_)
        refine tkq (i := 0) (v := ?_) rfl (by kernel_rfl) (fun _ _ _ h => h) (by rfl) ?_ (by assumption) ?_
        rotate_left 1
        · ((intro w hSw; (try dsimp only at hSw); go_simp) <;> with_reducible rfl)
        try simp only [Act.put, tzA, tzB, tzC, tzD, tzE]
        refine tkq (i := 1) (v := ?_) rfl (by kernel_rfl) (fun _ _ _ h => h) (by rfl) ?_ (by assumption) ?_
        rotate_left 1
        · ((intro w hSw; (try dsimp only at hSw); go_simp) <;> with_reducible rfl)
        try simp only [Act.put, tzA, tzB, tzC, tzD, tzE, tzF]
        refine tkq (i := 2) (v := ?_) rfl (by kernel_rfl) (fun _ _ _ h => h) (by rfl) ?_ (by assumption) ?_
        rotate_left 1
        · ((intro w hSw; (try dsimp only at hSw); go_simp) <;> with_reducible rfl)
        try simp only [Act.put, tzA, tzB, tzC, tzD, tzE, tzF]
        refine tkq (i := 3) (v := ?_) rfl (by kernel_rfl) (fun _ _ _ h => h) (by rfl) ?_ (by assumption) ?_
        rotate_left 1
        · ((intro w hSw; (try dsimp only at hSw); go_simp) <;> with_reducible rfl)
        try simp only [Act.put, tzA, tzB, tzC, tzD, tzE, tzF]
        refine tkq (i := 4) (v := ?_) rfl (by kernel_rfl) (fun _ _ _ h => h) (by rfl) ?_ (by assumption) ?_
        rotate_left 1
        · ((intro w hSw; (try dsimp only at hSw); go_simp) <;> with_reducible rfl)
        try simp only [Act.put, tzA, tzB, tzC, tzD, tzE, tzF]
        refine tkq (i := 5) (v := ?_) rfl (by kernel_rfl) (fun _ _ _ h => h) (by rfl) ?_ (by assumption) ?_
        rotate_left 1
        · ((intro w hSw; (try dsimp only at hSw); go_simp) <;> with_reducible rfl)
        try simp only [Act.put, tzA, tzB, tzC, tzD, tzE, tzF]
        refine tkq (i := 6) (v := ?_) rfl (by kernel_rfl) (fun _ _ _ h => h) (by rfl) ?_ (by assumption) ?_
        rotate_left 1
        · ((intro w hSw; (try dsimp only at hSw); obtain ⟨⟨c0, c1, c2⟩, -⟩ := hSw; go_simp) <;> with_reducible rfl)
        try simp only [Act.put, tzA, tzB, tzC, tzD, tzE, tzF]
        refine tkq (i := 7) (v := ?_) rfl (by kernel_rfl) (fun _ _ _ h => h) (by rfl) ?_ (by assumption) ?_
        rotate_left 1
        · ((intro w hSw; (try dsimp only at hSw); go_simp) <;> with_reducible rfl)
        try simp only [Act.put, tzA, tzB, tzC, tzD, tzE, tzF]
        refine tkq (i := 8) (v := ?_) rfl (by kernel_rfl) (fun _ _ _ h => h) (by rfl) ?_ (by assumption) ?_
        rotate_left 1
        · ((intro w hSw; (try dsimp only at hSw); go_simp) <;> with_reducible rfl)
        try simp only [Act.put, tzA, tzB, tzC, tzD, tzE, tzF]
        refine tkq (i := 9) (v := ?_) rfl (by kernel_rfl) (fun _ _ _ h => h) (by rfl) ?_ (by assumption) ?_
        rotate_left 1
        · ((intro w hSw; (try dsimp only at hSw); go_simp) <;> with_reducible rfl)
        try simp only [Act.put, tzA, tzB, tzC, tzD, tzE, tzF]
        refine tkq (i := 10) (v := ?_) rfl (by kernel_rfl) (fun _ _ _ h => h) (by rfl) ?_ (by assumption) ?_
        rotate_left 1
        · ((intro w hSw; (try dsimp only at hSw); obtain ⟨-, c0, c1, c2⟩ := hSw; go_simp) <;> with_reducible rfl)
        try simp only [Act.put, tzA, tzB, tzC, tzD, tzE, tzF]
        refine wpAnyH_ready (rs := [11]) (by kernel_rfl) (by simp) ?_
        refine (AllReadyH.cons rfl (fun K hK => ?_) AllReadyH.nil)
        go_simp
        refine (order1_any y x _).mono ?_
        rintro e V1 ⟨⟨kk, rfl, hkk⟩, hbv⟩
        obtain ⟨bk, hbk⟩ : ∃ z, decide (y.step < x.step) = z := ⟨_, rfl⟩
        refine hK.out _ _ ⟨entC_below (w := wr.drew) hbv hgr hx1, entC_below (w := wr.drew) hbv hgr hx2⟩ (fun hHeld2 => ?_)
        clear hK K
        try simp only [Act.put, tzA, tzB, tzC, tzD, tzE, tzF]
        refine tkq (i := 12) (v := ?_) rfl (by kernel_rfl) (fun _ _ _ h => h) (by rfl) ?_ (by assumption) ?_
        rotate_left 1
        · ((intro w hSw; (try dsimp only at hSw); go_simp) <;> with_reducible rfl)
        try simp only [Act.put, tzA, tzB, tzC, tzD, tzE, tzF]
        refine tkq (i := 13) (v := ?_) rfl (by kernel_rfl) (fun _ _ _ h => h) (by rfl) ?_ (by assumption) ?_
        rotate_left 1
        · ((intro w hSw; (try dsimp only at hSw); go_simp) <;> with_reducible rfl)
        try simp only [Act.put, tzA, tzB, tzC, tzD, tzE, tzF]
        refine wpAnyH_done (by kernel_rfl) ?_ _
        clear hHeld hHeld2
        have HCV := Lib.hid (show Chg (fun _ => False) wr V1 from (Chg.refl _ wr).drew.trans (Chg.of_below hbv))
        have hHst := Lib.hid (show y.step < x.step ↔ bk = true from by rw [← hbk, decide_eq_true_iff])
        try rw [hbk]
        clear hbv hx1 hx2 hkk hbk
        cases bk
        · go_wp2_with fail
          go_roundw
          case rel => exact ⟨d + 1, j, by go_num, rfl, by omega, by omega, hjh, Lib.hid (by rw [show d + 1 - a = d - a + 1 from by omega]; exact HCT.out.up HSA.out HSB.out HLOW.out (by omega) (by omega) HU.out.1 HU.out.2 (fun h => by have h2 := hHst.out.1 h; cases h2)), Lib.hid (HC.out.trans HCV.out)⟩
          case measure => simp [intOf]; omega
        · go_wp2_with fail
          go_roundw
          case rel => exact ⟨i, d, rfl, rfl, hdi, hli, by omega, Lib.hid (HCT.out.down HSA.out HSB.out HLOW.out (by omega) (by omega) HU.out.1 HU.out.2 (hHst.out.2 rfl) (by omega)), Lib.hid (HC.out.trans HCV.out)⟩
          case measure => simp [intOf]; omega
      · obtain rfl : i = j := by omega
        obtain ⟨wo, rfl⟩ : ∃ wo : World, wo = wr := ⟨_, rfl⟩
        obtain ⟨en, hen⟩ : ∃ z, z = nn - i := ⟨_, rfl⟩
        have hen2 : en + i = nn := by have := HM.out; omega
        have vt6 : IntKind.i64.wrap ((nn : Int) - (i : Int)) = (en : Int) := by rw [show ((nn : Int) - (i : Int)) = (en : Int) from by omega]; exact IntWalk.i64_in _ (by omega)
        have hme : m ≤ en := by have := HM.out; omega
        have heb : en ≤ b := by have := HM.out; omega
        have hai : a ≤ i := by omega
        have him2 : i ≤ m := by omega
        have himd2 : i ≤ md := by omega
        have hends := HCT.out.ends (s := i - a) (by have := HD.out; omega) (by have := HD.out; have := HM.out; omega) (by omega) (by have h1 := HLH.out.facts; have h2 := HD.out; have h3 := HM.out; omega) (by have h1 := HLH.out.facts; have h2 := HD.out; omega)
        rw [show md - 1 - a + 1 - (i - a) = en - m from by have := HM.out; omega] at hends
        obtain ⟨A1, A2, B1, B2, HV⟩ : ∃ A1 A2 B1 B2, Hid (A1 = A.take (i - a) ∧ A2 = A.drop (i - a) ∧ B1 = B.take (en - m) ∧ B2 = B.drop (en - m) ∧ A1 ++ A2 = A ∧ B1 ++ B2 = B ∧ A1.length = i - a ∧ B1.length = en - m ∧ A2.length = m - i ∧ B2.length = b - en) := ⟨_, _, _, _, Lib.hid ⟨rfl, rfl, rfl, rfl, List.take_append_drop _ _, List.take_append_drop _ _, by have h2 := HD.out; rw [List.length_take]; omega, by have h2 := HD.out; rw [List.length_take]; omega, by have h2 := HD.out; rw [List.length_drop]; omega, by have h2 := HD.out; rw [List.length_drop]; omega⟩⟩
        rw [← HV.out.1, ← HV.out.2.1, ← HV.out.2.2.1, ← HV.out.2.2.2.1] at hends
        have HEN := Lib.hid hends
        have hsA := HSA.out; rw [← HV.out.2.2.2.2.1] at hsA
        have hsB := HSB.out; rw [← HV.out.2.2.2.2.2.1] at hsB
        have hlw := HLOW.out; rw [← HV.out.2.2.2.2.1, ← HV.out.2.2.2.2.2.1] at hlw
        have HSS := Lib.hid (And.intro hsA.parts (And.intro hsB.parts (And.intro hsA (And.intro hsB hlw))))
        have hE1 : EntAt wo g o (P ++ A1 ++ A2 ++ B1 ++ B2 ++ R) := by have h1 := hE; rw [← HV.out.2.2.2.2.1, ← HV.out.2.2.2.2.2.1] at h1; simpa [List.append_assoc] using h1
        have HE1 := Lib.hid hE1
        have HGR := Lib.hid hgr
        have HNN := Lib.hid (show (P ++ A1 ++ A2 ++ B1 ++ B2 ++ R).length = n from by have h1 := HV.out; have h2 := HL.out; have h3 := HD.out; simp only [List.length_append]; omega)
        clear hlt hij hE hE1 hgr hsA hsB hlw hends HCT hen HE hli hjh
        go_upto_region 38 with fail
        go_cut [24] (fun s24 wx => s24 = .int .i64 (en : Int) ∧ wo = wx)
        case first =>
          go_wp2_with fail
          go_meet
          case rel => exact ⟨rfl, rfl⟩
        case rest =>
          obtain ⟨rfl, rfl⟩ := hcut
          apply_assumption
          exact symTail1_any (_wc := wo) HI hmx HN HD HM.out.1 hen2 hai him2 himd2 hme heb hamd hmdb HV HEN HSS HNN HC HGR HE1
theorem symMerge_any (N : Nat) : SymIH N := by
  induction N with
  | zero =>
    unfold SymIH
    intro w g o n c nc a m b P A B R hN h hg hn hmx ha hm hb hA0 hB0 hSA hSB hlow
    omega
  | succ N ih =>
    unfold SymIH
    intro w g o n c nc a m b P A B R hN h hg hn hmx ha hm hb hA0 hB0 hSA hSB hlow
    by_cases hA1 : A.length = 1
    · obtain ⟨x, rfl⟩ := List.length_eq_one_iff.1 hA1
      exact symA_any h hg hn hmx ha hm hb rfl hSB hlow
    · by_cases hB1 : B.length = 1
      · obtain ⟨y, rfl⟩ := List.length_eq_one_iff.1 hB1
        exact symB_any h hg hn hmx ha hm hb hA1 rfl hSA hlow
      · exact symC_any ih hN h hg hn hmx ha hm hb hA0 hB0 hA1 hB1 hSA hSB hlow
end Go.Proofs.YtaooangnnlopcaaGreatDoor
