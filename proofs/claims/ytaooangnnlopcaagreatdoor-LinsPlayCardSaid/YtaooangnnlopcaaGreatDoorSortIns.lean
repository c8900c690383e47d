/- Insertion sort of entries. Condition: they lie one behind the other, in their places' order. -/
import Derived.Test.YtaooangnnlopcaaGreatDoorLiB
import Derived.Test.YtaooangnnlopcaaGreatDoorLowA
namespace Go.Proofs.YtaooangnnlopcaaGreatDoor
open Go.RowKit Go.ChangeMaps Go.MapKept
abbrev cmpF : Value := .func (.func 60) #[] #[]
theorem ent_cells {W : World} {g o : Nat} {l : List EntD} (h : EntAt W g o l) {j : Nat} {x : EntD} (hj : l[j]? = some x) : W.cell? ⟨g, o + j * 3, none⟩ = some (.int .i64 x.step) ∧ W.cell? ⟨g, o + j * 3 + 1, none⟩ = some (.int .i64 x.call) ∧ W.cell? ⟨g, o + j * 3 + 2, none⟩ = some (.int .i64 x.drop) :=
  ⟨h.at' j x hj 0 _ rfl, h.at' j x hj 1 _ rfl, h.at' j x hj 2 _ rfl⟩
def InsOk (w : World) (g o nc : Nat) (P M R : List EntD) (w' : World) : Prop := ∃ s, SortE nc s ∧ s.Perm M ∧ EntAt w' g o (P ++ s ++ R) ∧ Chg (fun k => k = g) w w'
theorem Chg.setCells {M : Nat → Prop} {a : World} {g : Nat} (hg : g < a.heap.size → M g) : ∀ (vs : List Value) {b : World} (o : Nat), Chg M a b → Chg M a (b.setCells g o vs)
  | [], _, _, h => h
  | v :: vs, _, o, h => Chg.setCells hg vs (o + 1) (h.set hg v)
theorem chg_no {M : Nat → Prop} {a b : World} (h : Chg (fun _ => False) a b) : Chg M a b := h.mono (fun _ _ h => False.elim h)
theorem mid_get2 {P A B C : List EntD} {x y : EntD} : (P ++ (A ++ [y] ++ (x :: B ++ C)))[P.length + (A.length + 1)]? = some x := by
  rw [List.getElem?_append_right (by omega), show P.length + (A.length + 1) - P.length = A.length + 1 from by omega]
  simp
theorem mid_get3 {P A B C : List EntD} {x y : EntD} : (P ++ (A ++ [y] ++ x :: B) ++ C)[P.length + A.length]? = some y := by
  rw [List.append_assoc, List.getElem?_append_right (by omega), show P.length + A.length - P.length = A.length from by omega]
  simp
/-- An entry's cells, one by one. -/
def EntC (W : World) (g b : Nat) (x : EntD) : Prop := W.cell? ⟨g, b, none⟩ = some (.int .i64 x.step) ∧ W.cell? ⟨g, b + 1, none⟩ = some (.int .i64 x.call) ∧ W.cell? ⟨g, b + 2, none⟩ = some (.int .i64 x.drop)
theorem entC {W : World} {g o k : Nat} {x : EntD} {l : List EntD} (h : EntAt W g o l) (hk : l[k]? = some x) : EntC W g (o + k * 3) x := ent_cells h hk
theorem entC_below {w W' : World} {g b : Nat} {x : EntD} (hb : Below w.heap.size w W') (hg : g < w.heap.size) (h : EntC w g b x) : EntC W' g b x :=
  ⟨(hb.cell hg).trans h.1, (hb.cell hg).trans h.2.1, (hb.cell hg).trans h.2.2⟩
theorem ins_next {nc k : Nat} {M S A B : List EntD} {x : EntD} (hS : SortE nc S) (hp : S.Perm (M.take k)) (hx : M[k]? = some x) (hAB : A ++ B = S) (hB : ∀ y ∈ B, lessE nc x y) (hA : ∀ y ∈ A, lessE nc y x) : SortE nc (A ++ x :: B) ∧ (A ++ x :: B).Perm (M.take (k + 1)) := by
  subst hAB
  obtain ⟨h1, h2, h3⟩ := hS.parts
  refine ⟨SortE.append h1 (List.pairwise_cons.2 ⟨hB, h2⟩) ?_, ?_⟩
  · intro y hy z hz
    rcases List.mem_cons.1 hz with rfl | hz
    · exact hA y hy
    · exact h3 y hy z hz
  · rw [List.take_add_one, hx]
    exact List.perm_middle.trans ((List.Perm.cons x hp).trans (List.perm_append_singleton x _).symm)
theorem ins_low {nc k : Nat} {M S : List EntD} {x y : EntD} (hr : M.Pairwise (fun x y => rkE nc x < rkE nc y)) (hp : S.Perm (M.take k)) (hx : M[k]? = some x) (hy : y ∈ S) : rkE nc y < rkE nc x := by
  have h1 : M = M.take k ++ M.drop k := (List.take_append_drop k M).symm
  obtain ⟨hk, he⟩ := List.getElem?_eq_some_iff.1 hx
  rw [h1] at hr
  refine (List.pairwise_append.1 hr).2.2 y (hp.mem_iff.1 hy) x ?_
  rw [List.drop_eq_getElem_cons hk, he]
  exact .head _
theorem ins_all {nc : Nat} {S A B : List EntD} {x y : EntD} (hS : SortE nc S) (hAB : (A ++ [y]) ++ B = S) (hr : rkE nc y < rkE nc x) (hst : ¬ x.step < y.step) : ∀ z ∈ A ++ [y], lessE nc z x := by
  subst hAB
  have hy : lessE nc y x := (lessE_low hr).2 hst
  intro z hz
  rcases List.mem_append.1 hz with hz | hz
  · exact lessE_trans ((List.pairwise_append.1 hS.parts.1).2.2 z hz y (by simp)) hy
  · rw [List.mem_singleton.1 hz]; exact hy
set_option maxRecDepth 100000 in
set_option maxHeartbeats 8000000 in
theorem insSort_any {w : World} {g o n c nc a b : Nat} {P M R : List EntD} (h : EntAt w g o (P ++ M ++ R)) (hg : g < w.heap.size) (hn : n = (P ++ M ++ R).length) (hmx : n ≤ 1000000) (ha : a = P.length) (hb : b = P.length + M.length) (hrk : M.Pairwise (fun x y => rkE nc x < rkE nc y)) : Calls Tryz.prog 104 #[.slice (some ⟨g, o, none⟩) n c, .int .i64 (a : Int), .int .i64 (b : Int), cmpF] w fun e w' => (∃ v, e = .returned v) ∧ InsOk w g o nc P M R w' := by
  have HL := Lib.hid (show P.length + M.length + R.length = n from by rw [hn]; simp [Nat.add_assoc])
  have HA := Lib.hid ha
  have HB := Lib.hid hb
  have HRK := Lib.hid hrk
  have HG := Lib.hid hg
  have HE := Lib.hid h
  clear hn ha hb hrk hg h
  go_enter Tryz.func104, Tryz.ntmps104
  have hbm : b ≤ 1000000 := by have := HL.out; have := HB.out; omega
  have ham : a ≤ b := by have := HA.out; have := HB.out; omega
  go_upto_region 1 with fail
  go_loopw [8] (fun s8 wr => ∃ (k : Nat) (S X : List EntD), s8 = .int .i64 (((a + k : Nat) : Int)) ∧ 1 ≤ k ∧ k ≤ M.length + 1 ∧ Hid (SortE nc S ∧ S.Perm (M.take k) ∧ X = M.drop k ∧ EntAt wr g o (P ++ S ++ (X ++ R)) ∧ Chg (fun j => j = g) w wr)) (fun s8 _ => b + 1 - (intOf s8).toNat)
  case atStart => exact ⟨1, M.take 1, M.drop 1, by go_num, Nat.le_refl _, by omega, Lib.hid ⟨by cases M with | nil => exact List.Pairwise.nil | cons x M => exact List.pairwise_singleton _ _, List.Perm.refl _, rfl, by rw [List.append_assoc, ← List.append_assoc (M.take 1), List.take_append_drop, ← List.append_assoc]; exact HE.out, Chg.refl _ _⟩⟩
  case round =>
    obtain ⟨k, S, X, hs8, hk1, hk2, HR⟩ := hrel
    obtain ⟨z8, hz8⟩ : ∃ z, z = a + k := ⟨_, rfl⟩
    rw [← hz8] at hs8
    subst hs8
    have HZ := Lib.hid hz8
    clear hz8
    obtain ⟨wo, rfl⟩ : ∃ wo : World, wo = wr := ⟨_, rfl⟩
    by_cases hkm : k < M.length
    · have hlt : (z8 : Int) < (b : Int) := by have := HZ.out; have := HA.out; have := HB.out; omega
      have hk3 : k ≤ 1000000 := by have := HL.out; omega
      have hz3 : z8 ≤ 1000000 := by omega
      obtain ⟨x, X', HX⟩ : ∃ x X', Hid (M[k]? = some x ∧ X = x :: X' ∧ X' = M.drop (k + 1)) := ⟨M[k], M.drop (k + 1), Lib.hid ⟨List.getElem?_eq_getElem hkm, by rw [HR.out.2.2.1]; exact (List.drop_eq_getElem_cons hkm), rfl⟩⟩
      have HSL := Lib.hid (show S.length = k from by rw [HR.out.2.1.length_eq, List.length_take]; omega)
      go_upto_region 4 with fail
      go_loopw [9] (fun s9 wr => ∃ (A B : List EntD), s9 = .int .i64 (((a + A.length : Nat) : Int)) ∧ A.length ≤ k ∧ Hid (A ++ B = S ∧ EntAt wr g o (P ++ (A ++ x :: B) ++ (X' ++ R)) ∧ (∀ y ∈ B, lessE nc x y) ∧ Chg (fun j => j = g) w wr)) (fun s9 _ => (intOf s9).toNat)
      case atStart => exact ⟨S, [], by rw [HSL.out, HZ.out], by rw [HSL.out]; exact Nat.le_refl _, Lib.hid ⟨List.append_nil S, by have h2 := HR.out.2.2.2.1; rw [HX.out.2.1] at h2; simpa [List.append_assoc] using h2, by simp, HR.out.2.2.2.2⟩⟩
      case round =>
        obtain ⟨A, B, rfl, hAk, HI⟩ := hrel
        have hgr : g < wr.heap.size := Nat.lt_of_lt_of_le HG.out HI.out.2.2.2.size
        rcases List.eq_nil_or_concat A with hA0 | ⟨A0, y, hA0⟩
        · subst hA0
          simp only [List.length_nil, Nat.add_zero]
          go_upto_region 4 with fail
          refine wp_region_held_drew (S := fun _ => True) (by kernel_rfl) trivial (fun hHeld => ?_)
          refine tkq (i := 0) (v := ?_) rfl (by kernel_rfl) (fun _ _ _ h => h) (by rfl) ?_ (by assumption) ?_
          rotate_left 1
          · ((intro w hSw; (try dsimp only at hSw); go_simp) <;> with_reducible rfl)
          try simp only [Act.put, tzA, tzB, tzC, tzD, tzE]
          refine tkq (i := 1) (v := ?_) rfl (by kernel_rfl) (fun _ _ _ h => h) (by rfl) ?_ (by assumption) ?_
          rotate_left 1
          · ((intro w hSw; (try dsimp only at hSw); go_simp) <;> with_reducible rfl)
          try simp only [Act.put, tzA, tzB, tzC, tzD, tzE, tzF]
          refine tkq (i := 2) (v := ?_) rfl (by kernel_rfl) (fun _ _ _ h => h) (by rfl) ?_ (by assumption) ?_
          rotate_left 1
          · ((intro w hSw; (try dsimp only at hSw); go_simp) <;> with_reducible rfl)
          try simp only [Act.put, tzA, tzB, tzC, tzD, tzE, tzF]
          refine tkq (i := 3) (v := ?_) rfl (by kernel_rfl) (fun _ _ _ h => h) (by rfl) ?_ (by assumption) ?_
          rotate_left 1
          · ((intro w hSw; (try dsimp only at hSw); go_simp) <;> with_reducible rfl)
          try simp only [Act.put, tzA, tzB, tzC, tzD, tzE, tzF]
          refine tkn (i := 4) rfl (by kernel_rfl) (fun _ _ _ h => h) (by rfl) (by assumption) ?_
          try simp only [Act.put, tzA, tzB, tzC, tzD, tzE, tzF]
          refine tkn (i := 5) rfl (by kernel_rfl) (fun _ _ _ h => h) (by rfl) (by assumption) ?_
          try simp only [Act.put, tzA, tzB, tzC, tzD, tzE, tzF]
          refine tkn (i := 6) rfl (by kernel_rfl) (fun _ _ _ h => h) (by rfl) (by assumption) ?_
          try simp only [Act.put, tzA, tzB, tzC, tzD, tzE, tzF]
          refine tkn (i := 7) rfl (by kernel_rfl) (fun _ _ _ h => h) (by rfl) (by assumption) ?_
          try simp only [Act.put, tzA, tzB, tzC, tzD, tzE, tzF]
          refine tkn (i := 8) rfl (by kernel_rfl) (fun _ _ _ h => h) (by rfl) (by assumption) ?_
          try simp only [Act.put, tzA, tzB, tzC, tzD, tzE, tzF]
          refine tkn (i := 9) rfl (by kernel_rfl) (fun _ _ _ h => h) (by rfl) (by assumption) ?_
          try simp only [Act.put, tzA, tzB, tzC, tzD, tzE, tzF]
          refine tkn (i := 10) rfl (by kernel_rfl) (fun _ _ _ h => h) (by rfl) (by assumption) ?_
          try simp only [Act.put, tzA, tzB, tzC, tzD, tzE, tzF]
          refine tkn (i := 11) rfl (by kernel_rfl) (fun _ _ _ h => h) (by rfl) (by assumption) ?_
          try simp only [Act.put, tzA, tzB, tzC, tzD, tzE, tzF]
          refine tkn (i := 12) rfl (by kernel_rfl) (fun _ _ _ h => h) (by rfl) (by assumption) ?_
          try simp only [Act.put, tzA, tzB, tzC, tzD, tzE, tzF]
          refine tkn (i := 13) rfl (by kernel_rfl) (fun _ _ _ h => h) (by rfl) (by assumption) ?_
          try simp only [Act.put, tzA, tzB, tzC, tzD, tzE, tzF]
          refine tkn (i := 14) rfl (by kernel_rfl) (fun _ _ _ h => h) (by rfl) (by assumption) ?_
          try simp only [Act.put, tzA, tzB, tzC, tzD, tzE, tzF]
          refine tkn (i := 15) rfl (by kernel_rfl) (fun _ _ _ h => h) (by rfl) (by assumption) ?_
          try simp only [Act.put, tzA, tzB, tzC, tzD, tzE, tzF]
          refine tkq (i := 16) (v := ?_) rfl (by kernel_rfl) (fun _ _ _ h => h) (by rfl) ?_ (by assumption) ?_
          rotate_left 1
          · ((intro w hSw; (try dsimp only at hSw); go_simp) <;> with_reducible rfl)
          try simp only [Act.put, tzA, tzB, tzC, tzD, tzE, tzF]
          refine wpAnyH_done (by kernel_rfl) ?_ _
          clear hHeld
          have hN := ins_next HR.out.1 HR.out.2.1 HX.out.1 HI.out.1 HI.out.2.2.1 (by simp)
          go_wp2_with fail
          go_roundw
          case rel => exact ⟨k + 1, ([] : List EntD) ++ x :: B, X', int_congr (by have := HZ.out; omega), by omega, by omega, Lib.hid ⟨hN.1, hN.2, HX.out.2.2, HI.out.2.1.kept (M := fun _ => False) ((Chg.refl _ wr).drew) hgr id, HI.out.2.2.2.trans (chg_no ((Chg.refl _ wr).drew))⟩⟩
          case measure => simp [intOf]; omega
        · rw [List.concat_eq_append] at hA0
          subst hA0
          obtain ⟨q, hq⟩ : ∃ q, q = a + A0.length := ⟨_, rfl⟩
          have hq1 : a + (A0 ++ [y]).length = q + 1 := by rw [hq]; simp [Nat.add_assoc]
          rw [hq1]
          have hqn : q + 1 < n := by have h1 := HL.out; have h2 := HA.out; have h3 : A0.length + 1 ≤ k := (by simpa using hAk); omega
          have hqa : a ≤ q := by omega
          have hrk2 : rkE nc y < rkE nc x := ins_low HRK.out HR.out.2.1 HX.out.1 (by rw [← HI.out.1]; simp)
          obtain ⟨b1, hb1⟩ : ∃ z, z = o + (q + 1) * 3 := ⟨_, rfl⟩
          obtain ⟨b0, hb0⟩ : ∃ z, z = o + q * 3 := ⟨_, rfl⟩
          have i1 : ∀ W : World, (Instr.indexAt 106 (.slice (some ⟨g, o, none⟩) n c) (.int .i64 ((q : Int) + 1))).run Tryz.prog W = .ok (.pointer (some ⟨g, b1, none⟩)) W := fun W => by rw [hb1]; exact idx_ent (k := q + 1) rfl hqn W
          have i0 : ∀ W : World, (Instr.indexAt 106 (.slice (some ⟨g, o, none⟩) n c) (.int .i64 (q : Int))).run Tryz.prog W = .ok (.pointer (some ⟨g, b0, none⟩)) W := fun W => by rw [hb0]; exact idx_ent (k := q) rfl (by omega) W
          have hx1 : EntC wr g b1 x := by rw [hb1]; exact entC HI.out.2.1 (k := q + 1) (by rw [hq, HA.out, List.append_assoc, List.append_assoc, show P.length + A0.length + 1 = P.length + (A0.length + 1) from by omega]; exact mid_get2)
          have hx0 : EntC wr g b0 y := by rw [hb0]; exact entC HI.out.2.1 (k := q) (by rw [hq, HA.out]; exact mid_get3)
          have qa : (a : Int) < (q : Int) + 1 := by omega
          have hwq : IntKind.i64.wrap (q : Int) = (q : Int) := IntWalk.i64_in _ (by omega)
          have HQ := Lib.hid (And.intro hq (And.intro hb1 hb0))
          clear hb1 hb0 hq hq1
          by_cases hst : x.step < y.step
          · go_upto_region 4 with fail
            refine wp_region_held_drew (S := fun W => EntC W g b1 x ∧ EntC W g b0 y) (by kernel_rfl) ⟨hx1, hx0⟩ (fun hHeld => ?_)
            refine tkq (i := 0) (v := ?_) rfl (by kernel_rfl) (fun _ _ _ h => h) (by rfl) ?_ (by assumption) ?_
            rotate_left 1
            · ((intro w hSw; (try dsimp only at hSw); go_simp) <;> with_reducible rfl)
            try simp only [Act.put, tzA, tzB, tzC, tzD, tzE]
            refine tkq (i := 1) (v := ?_) rfl (by kernel_rfl) (fun _ _ _ h => h) (by rfl) ?_ (by assumption) ?_
            rotate_left 1
            · ((intro w hSw; (try dsimp only at hSw); go_simp) <;> with_reducible rfl)
            try simp only [Act.put, tzA, tzB, tzC, tzD, tzE, tzF]
            refine tkq (i := 2) (v := ?_) rfl (by kernel_rfl) (fun _ _ _ h => h) (by rfl) ?_ (by assumption) ?_
            rotate_left 1
            · ((intro w hSw; (try dsimp only at hSw); go_simp) <;> with_reducible rfl)
            try simp only [Act.put, tzA, tzB, tzC, tzD, tzE, tzF]
            refine tkq (i := 3) (v := ?_) rfl (by kernel_rfl) (fun _ _ _ h => h) (by rfl) ?_ (by assumption) ?_
            rotate_left 1
            · ((intro w hSw; (try dsimp only at hSw); go_simp) <;> with_reducible rfl)
            try simp only [Act.put, tzA, tzB, tzC, tzD, tzE, tzF]
            refine tkq (i := 4) (v := ?_) rfl (by kernel_rfl) (fun _ _ _ h => h) (by rfl) ?_ (by assumption) ?_
            rotate_left 1
            · ((intro w hSw; (try dsimp only at hSw); go_simp) <;> with_reducible rfl)
            try simp only [Act.put, tzA, tzB, tzC, tzD, tzE, tzF]
            refine tkq (i := 5) (v := ?_) rfl (by kernel_rfl) (fun _ _ _ h => h) (by rfl) ?_ (by assumption) ?_
            rotate_left 1
            · ((intro w hSw; (try dsimp only at hSw); go_simp) <;> with_reducible rfl)
            try simp only [Act.put, tzA, tzB, tzC, tzD, tzE, tzF]
            refine tkq (i := 6) (v := ?_) rfl (by kernel_rfl) (fun _ _ _ h => h) (by rfl) ?_ (by assumption) ?_
            rotate_left 1
            · ((intro w hSw; (try dsimp only at hSw); go_simp) <;> with_reducible rfl)
            try simp only [Act.put, tzA, tzB, tzC, tzD, tzE, tzF]
            refine tkq (i := 7) (v := ?_) rfl (by kernel_rfl) (fun _ _ _ h => h) (by rfl) ?_ (by assumption) ?_
            rotate_left 1
            · ((intro w hSw; (try dsimp only at hSw); go_simp) <;> with_reducible rfl)
            try simp only [Act.put, tzA, tzB, tzC, tzD, tzE, tzF]
            refine tkq (i := 8) (v := ?_) rfl (by kernel_rfl) (fun _ _ _ h => h) (by rfl) ?_ (by assumption) ?_
            rotate_left 1
            · ((intro w hSw; (try dsimp only at hSw); obtain ⟨⟨c0, c1, c2⟩, -⟩ := hSw; go_simp) <;> with_reducible rfl)
            try simp only [Act.put, tzA, tzB, tzC, tzD, tzE, tzF]
            refine tkq (i := 9) (v := ?_) rfl (by kernel_rfl) (fun _ _ _ h => h) (by rfl) ?_ (by assumption) ?_
            rotate_left 1
            · ((intro w hSw; (try dsimp only at hSw); go_simp) <;> with_reducible rfl)
            try simp only [Act.put, tzA, tzB, tzC, tzD, tzE, tzF]
            refine tkq (i := 10) (v := ?_) rfl (by kernel_rfl) (fun _ _ _ h => h) (by rfl) ?_ (by assumption) ?_
            rotate_left 1
            · ((intro w hSw; (try dsimp only at hSw); go_simp) <;> with_reducible rfl)
            try simp only [Act.put, tzA, tzB, tzC, tzD, tzE, tzF]
            refine tkq (i := 11) (v := ?_) rfl (by kernel_rfl) (fun _ _ _ h => h) (by rfl) ?_ (by assumption) ?_
            rotate_left 1
            · ((intro w hSw; (try dsimp only at hSw); go_simp) <;> with_reducible rfl)
            try simp only [Act.put, tzA, tzB, tzC, tzD, tzE, tzF]
            refine tkq (i := 12) (v := ?_) rfl (by kernel_rfl) (fun _ _ _ h => h) (by rfl) ?_ (by assumption) ?_
            rotate_left 1
            · ((intro w hSw; (try dsimp only at hSw); go_simp) <;> with_reducible rfl)
            try simp only [Act.put, tzA, tzB, tzC, tzD, tzE, tzF]
            refine tkq (i := 13) (v := ?_) rfl (by kernel_rfl) (fun _ _ _ h => h) (by rfl) ?_ (by assumption) ?_
            rotate_left 1
            · ((intro w hSw; (try dsimp only at hSw); obtain ⟨-, c0, c1, c2⟩ := hSw; go_simp) <;> with_reducible rfl)
            try simp only [Act.put, tzA, tzB, tzC, tzD, tzE, tzF]
            refine wpAnyH_ready (rs := [14]) (by kernel_rfl) (by simp) ?_
            refine (AllReadyH.cons rfl (fun K hK => ?_) AllReadyH.nil)
            go_simp
            refine (order1_any x y _).mono ?_
            rintro e V1 ⟨⟨kk, rfl, hkk⟩, hbv⟩
            have hkt : decide (kk < 0) = true := by rw [decide_eq_true_iff, hkk]; exact hst
            refine hK.out _ _ ⟨entC_below (w := wr.drew) hbv hgr hx1, entC_below (w := wr.drew) hbv hgr hx0⟩ (fun hHeld2 => ?_)
            clear hK K
            try simp only [Act.put, tzA, tzB, tzC, tzD, tzE, tzF]
            refine tkq (i := 15) (v := ?_) rfl (by kernel_rfl) (fun _ _ _ h => h) (by rfl) ?_ (by assumption) ?_
            rotate_left 1
            · ((intro w hSw; (try dsimp only at hSw); go_simp) <;> with_reducible rfl)
            try simp only [Act.put, tzA, tzB, tzC, tzD, tzE, tzF]
            refine tkq (i := 16) (v := ?_) rfl (by kernel_rfl) (fun _ _ _ h => h) (by rfl) ?_ (by assumption) ?_
            rotate_left 1
            · ((intro w hSw; (try dsimp only at hSw); go_simp) <;> with_reducible rfl)
            try simp only [Act.put, tzA, tzB, tzC, tzD, tzE, tzF]
            refine wpAnyH_done (by kernel_rfl) ?_ _
            clear hHeld hHeld2
            have hcv : Chg (fun _ => False) wr V1 := (Chg.refl _ wr).drew.trans (Chg.of_below hbv)
            go_upto_region 6 with fail
            have hy1 := entC_below (w := wr.drew) hbv hgr hx1
            have hy0 := entC_below (w := wr.drew) hbv hgr hx0
            have hE2 : EntAt V1.drew g o ((P ++ A0) ++ y :: x :: (B ++ (X' ++ R))) := by have h2 := HI.out.2.1.kept (M := fun _ => False) hcv.drew hgr id; simpa [List.append_assoc] using h2
            have hq2 : q = (P ++ A0).length := by rw [HQ.out.1, List.length_append, HA.out]
            have ht1 : V1.drew.there g b1 3 := by rw [HQ.out.2.1, hq2]; exact hE2.free ((P ++ A0).length + 1) (by simp only [List.length_append, List.length_cons]; omega)
            have ht0 : V1.drew.there g b0 3 := by rw [HQ.out.2.2, hq2]; exact hE2.free ((P ++ A0).length) (by simp only [List.length_append, List.length_cons]; omega)
            have HE2 := Lib.hid (And.intro hE2 (And.intro hq2 (And.intro ht1 ht0)))
            clear hE2 hq2 ht1 ht0 hx0 hx1
            refine wp_region_late 15 (fun W => EntC W g b1 x ∧ EntC W g b0 y) (by kernel_rfl) ⟨hy1, hy0⟩ (fun hHeld => ?_)
            refine late_take (i := 0) (v := ?_) rfl (by kernel_rfl) (by kernel_rfl) (by kernel_rfl) (fun _ _ _ h => h) (by decide) (Or.inl ⟨by rfl, ?_⟩) (fun _ => hHeld) ?_
            rotate_left 1
            · ((intro w _; go_simp) <;> with_reducible rfl)
            try simp only [Act.put, tzA, tzB, tzC, tzD, tzE]
            refine late_take (i := 1) (v := ?_) rfl (by kernel_rfl) (by kernel_rfl) (by kernel_rfl) (fun _ _ _ h => h) (by decide) (Or.inl ⟨by rfl, ?_⟩) (fun _ => hHeld) ?_
            rotate_left 1
            · ((intro w _; go_simp) <;> with_reducible rfl)
            try simp only [Act.put, tzA, tzB, tzC, tzD, tzE, tzF]
            refine late_take (i := 2) (v := ?_) rfl (by kernel_rfl) (by kernel_rfl) (by kernel_rfl) (fun _ _ _ h => h) (by decide) (Or.inl ⟨by rfl, ?_⟩) (fun _ => hHeld) ?_
            rotate_left 1
            · ((intro w _; go_simp) <;> with_reducible rfl)
            try simp only [Act.put, tzA, tzB, tzC, tzD, tzE, tzF]
            refine late_take (i := 3) (v := ?_) rfl (by kernel_rfl) (by kernel_rfl) (by kernel_rfl) (fun _ _ _ h => h) (by decide) (Or.inl ⟨by rfl, ?_⟩) (fun _ => hHeld) ?_
            rotate_left 1
            · ((intro w _; go_simp) <;> with_reducible rfl)
            try simp only [Act.put, tzA, tzB, tzC, tzD, tzE, tzF]
            refine late_take (i := 4) (v := ?_) rfl (by kernel_rfl) (by kernel_rfl) (by kernel_rfl) (fun _ _ _ h => h) (by decide) (Or.inl ⟨by rfl, ?_⟩) (fun _ => hHeld) ?_
            rotate_left 1
            · ((intro w _; go_simp) <;> with_reducible rfl)
            try simp only [Act.put, tzA, tzB, tzC, tzD, tzE, tzF]
            refine late_take (i := 5) (v := ?_) rfl (by kernel_rfl) (by kernel_rfl) (by kernel_rfl) (fun _ _ _ h => h) (by decide) (Or.inl ⟨by rfl, ?_⟩) (fun _ => hHeld) ?_
            rotate_left 1
            · ((intro w _; go_simp) <;> with_reducible rfl)
            try simp only [Act.put, tzA, tzB, tzC, tzD, tzE, tzF]
            refine late_take (i := 6) (v := ?_) rfl (by kernel_rfl) (by kernel_rfl) (by kernel_rfl) (fun _ _ _ h => h) (by decide) (Or.inl ⟨by rfl, ?_⟩) (fun _ => hHeld) ?_
            rotate_left 1
            · ((intro w _; go_simp) <;> with_reducible rfl)
            try simp only [Act.put, tzA, tzB, tzC, tzD, tzE, tzF]
            refine late_take (i := 7) (v := ?_) rfl (by kernel_rfl) (by kernel_rfl) (by kernel_rfl) (fun _ _ _ h => h) (by decide) (Or.inl ⟨by rfl, ?_⟩) (fun _ => hHeld) ?_
            rotate_left 1
            · ((intro w _; go_simp) <;> with_reducible rfl)
            try simp only [Act.put, tzA, tzB, tzC, tzD, tzE, tzF]
            refine late_take (i := 8) (v := ?_) rfl (by kernel_rfl) (by kernel_rfl) (by kernel_rfl) (fun _ _ _ h => h) (by decide) (Or.inl ⟨by rfl, ?_⟩) (fun _ => hHeld) ?_
            rotate_left 1
            · ((intro w _; go_simp) <;> with_reducible rfl)
            try simp only [Act.put, tzA, tzB, tzC, tzD, tzE, tzF]
            refine late_read (i := 9) (v := ?_) rfl (by kernel_rfl) (by kernel_rfl) (by kernel_rfl) (fun _ _ _ h => h) (by decide) rfl (by kernel_rfl) (Or.inl ⟨by rfl, ?_⟩) hHeld (by kernel_rfl) ?_
            rotate_left 1
            · ((intro w hSw; (try dsimp only at hSw); obtain ⟨-, c0, c1, c2⟩ := hSw; go_simp) <;> with_reducible rfl)
            try simp only [Act.put, tzA, tzB, tzC, tzD, tzE, tzF]
            refine late_take (i := 10) (v := ?_) rfl (by kernel_rfl) (by kernel_rfl) (by kernel_rfl) (fun _ _ _ h => h) (by decide) (Or.inl ⟨by rfl, ?_⟩) (fun _ => hHeld) ?_
            rotate_left 1
            · ((intro w _; go_simp) <;> with_reducible rfl)
            try simp only [Act.put, tzA, tzB, tzC, tzD, tzE, tzF]
            refine late_take (i := 11) (v := ?_) rfl (by kernel_rfl) (by kernel_rfl) (by kernel_rfl) (fun _ _ _ h => h) (by decide) (Or.inl ⟨by rfl, ?_⟩) (fun _ => hHeld) ?_
            rotate_left 1
            · ((intro w _; go_simp) <;> with_reducible rfl)
            try simp only [Act.put, tzA, tzB, tzC, tzD, tzE, tzF]
            refine late_take (i := 12) (v := ?_) rfl (by kernel_rfl) (by kernel_rfl) (by kernel_rfl) (fun _ _ _ h => h) (by decide) (Or.inl ⟨by rfl, ?_⟩) (fun _ => hHeld) ?_
            rotate_left 1
            · ((intro w _; go_simp) <;> with_reducible rfl)
            try simp only [Act.put, tzA, tzB, tzC, tzD, tzE, tzF]
            refine late_read (i := 13) (v := ?_) rfl (by kernel_rfl) (by kernel_rfl) (by kernel_rfl) (fun _ _ _ h => h) (by decide) rfl (by kernel_rfl) (Or.inl ⟨by rfl, ?_⟩) hHeld (by kernel_rfl) ?_
            rotate_left 1
            · ((intro w hSw; (try dsimp only at hSw); obtain ⟨⟨c0, c1, c2⟩, -⟩ := hSw; go_simp) <;> with_reducible rfl)
            try simp only [Act.put, tzA, tzB, tzC, tzD, tzE, tzF]
            refine late_take (i := 14) (v := ?_) rfl (by kernel_rfl) (by kernel_rfl) (by kernel_rfl) (fun _ _ _ h => h) (by decide) (Or.inl ⟨by rfl, ?_⟩) (fun _ => hHeld) ?_
            rotate_left 1
            · ((intro w _; go_simp) <;> with_reducible rfl)
            try simp only [Act.put, tzA, tzB, tzC, tzD, tzE, tzF]
            refine late_one (i := 15) (by kernel_rfl) rfl (fun K hK => ?_)
            rw [if_pos (by rfl)]
            refine wp_store_mid 108 (.tmp 51) (.tmp 46) rfl g b1 #[.int .i64 y.step, .int .i64 y.call, .int .i64 y.drop] (by rfl) (by rfl) HE2.out.2.2.1 (by kernel_rfl) (by simp [Value.oneCell']) ?_
            refine hK.out _ _ (fun _ h => absurd rfl h) ?_
            clear hK K
            try simp only [Act.put, tzD, tzE, tzF]
            refine late_take (i := 16) (v := ?_) rfl (by kernel_rfl) (by kernel_rfl) (by kernel_rfl) (fun _ _ _ h => h) (by decide) (Or.inl ⟨by rfl, ?_⟩) (fun h => absurd h (by simp)) ?_
            rotate_left 1
            · ((intro w _; go_simp) <;> with_reducible rfl)
            try simp only [Act.put, tzA, tzB, tzC, tzD, tzE, tzF]
            refine late_one (i := 17) (by kernel_rfl) rfl (fun K hK => ?_)
            rw [if_pos (by rfl)]
            refine wp_store_mid 108 (.tmp 52) (.tmp 50) rfl g b0 #[.int .i64 x.step, .int .i64 x.call, .int .i64 x.drop] (by rfl) (by rfl) (World.there_setCells HE2.out.2.2.2 _ _ _) (by kernel_rfl) (by simp [Value.oneCell']) ?_
            refine hK.out _ _ (fun h => absurd h (by simp)) ?_
            clear hK K
            try simp only [Act.put, tzD, tzE, tzF]
            refine late_done (by kernel_rfl) ?_
            clear hHeld
            have hE3 := HE2.out.1.swap
            rw [← HE2.out.2.1, ← HQ.out.2.1, ← HQ.out.2.2] at hE3
            have hc3 : Chg (fun j => j = g) wr ((V1.drew.setCells g b1 (entCells y)).setCells g b0 (entCells x)) := Chg.setCells (M := fun j => j = g) (g := g) (fun _ => rfl) _ _ (Chg.setCells (M := fun j => j = g) (g := g) (fun _ => rfl) _ _ (chg_no hcv.drew))
            have HE3 := Lib.hid (And.intro hE3 hc3)
            clear hE3 hc3 HE2
            go_wp2_with fail
            go_roundw
            case rel => exact ⟨A0, y :: B, by rw [HQ.out.1], by have h3 : A0.length + 1 ≤ k := (by simpa using hAk); omega, Lib.hid ⟨by rw [← HI.out.1]; simp [List.append_assoc], by have h2 := HE3.out.1; simpa [List.append_assoc] using h2, fun z hz => (List.mem_cons.1 hz).elim (fun e => by rw [e]; exact .inl hst) (HI.out.2.2.1 z), HI.out.2.2.2.trans HE3.out.2⟩⟩
            case measure => simp [intOf]
          · go_upto_region 4 with fail
            refine wp_region_held_drew (S := fun W => EntC W g b1 x ∧ EntC W g b0 y) (by kernel_rfl) ⟨hx1, hx0⟩ (fun hHeld => ?_)
            refine tkq (i := 0) (v := ?_) rfl (by kernel_rfl) (fun _ _ _ h => h) (by rfl) ?_ (by assumption) ?_
            rotate_left 1
            · ((intro w hSw; (try dsimp only at hSw); go_simp) <;> with_reducible rfl)
            try simp only [Act.put, tzA, tzB, tzC, tzD, tzE]
            refine tkq (i := 1) (v := ?_) rfl (by kernel_rfl) (fun _ _ _ h => h) (by rfl) ?_ (by assumption) ?_
            rotate_left 1
            · ((intro w hSw; (try dsimp only at hSw); go_simp) <;> with_reducible rfl)
            try simp only [Act.put, tzA, tzB, tzC, tzD, tzE, tzF]
            refine tkq (i := 2) (v := ?_) rfl (by kernel_rfl) (fun _ _ _ h => h) (by rfl) ?_ (by assumption) ?_
            rotate_left 1
            · ((intro w hSw; (try dsimp only at hSw); go_simp) <;> with_reducible rfl)
            try simp only [Act.put, tzA, tzB, tzC, tzD, tzE, tzF]
            refine tkq (i := 3) (v := ?_) rfl (by kernel_rfl) (fun _ _ _ h => h) (by rfl) ?_ (by assumption) ?_
            rotate_left 1
            · ((intro w hSw; (try dsimp only at hSw); go_simp) <;> with_reducible rfl)
            try simp only [Act.put, tzA, tzB, tzC, tzD, tzE, tzF]
            refine tkq (i := 4) (v := ?_) rfl (by kernel_rfl) (fun _ _ _ h => h) (by rfl) ?_ (by assumption) ?_
            rotate_left 1
            · ((intro w hSw; (try dsimp only at hSw); go_simp) <;> with_reducible rfl)
            try simp only [Act.put, tzA, tzB, tzC, tzD, tzE, tzF]
            refine tkq (i := 5) (v := ?_) rfl (by kernel_rfl) (fun _ _ _ h => h) (by rfl) ?_ (by assumption) ?_
            rotate_left 1
            · ((intro w hSw; (try dsimp only at hSw); go_simp) <;> with_reducible rfl)
            try simp only [Act.put, tzA, tzB, tzC, tzD, tzE, tzF]
            refine tkq (i := 6) (v := ?_) rfl (by kernel_rfl) (fun _ _ _ h => h) (by rfl) ?_ (by assumption) ?_
            rotate_left 1
            · ((intro w hSw; (try dsimp only at hSw); go_simp) <;> with_reducible rfl)
            try simp only [Act.put, tzA, tzB, tzC, tzD, tzE, tzF]
            refine tkq (i := 7) (v := ?_) rfl (by kernel_rfl) (fun _ _ _ h => h) (by rfl) ?_ (by assumption) ?_
            rotate_left 1
            · ((intro w hSw; (try dsimp only at hSw); go_simp) <;> with_reducible rfl)
            try simp only [Act.put, tzA, tzB, tzC, tzD, tzE, tzF]
            refine tkq (i := 8) (v := ?_) rfl (by kernel_rfl) (fun _ _ _ h => h) (by rfl) ?_ (by assumption) ?_
            rotate_left 1
            · ((intro w hSw; (try dsimp only at hSw); obtain ⟨⟨c0, c1, c2⟩, -⟩ := hSw; go_simp) <;> with_reducible rfl)
            try simp only [Act.put, tzA, tzB, tzC, tzD, tzE, tzF]
            refine tkq (i := 9) (v := ?_) rfl (by kernel_rfl) (fun _ _ _ h => h) (by rfl) ?_ (by assumption) ?_
            rotate_left 1
            · ((intro w hSw; (try dsimp only at hSw); go_simp) <;> with_reducible rfl)
            try simp only [Act.put, tzA, tzB, tzC, tzD, tzE, tzF]
            refine tkq (i := 10) (v := ?_) rfl (by kernel_rfl) (fun _ _ _ h => h) (by rfl) ?_ (by assumption) ?_
            rotate_left 1
            · ((intro w hSw; (try dsimp only at hSw); go_simp) <;> with_reducible rfl)
            try simp only [Act.put, tzA, tzB, tzC, tzD, tzE, tzF]
            refine tkq (i := 11) (v := ?_) rfl (by kernel_rfl) (fun _ _ _ h => h) (by rfl) ?_ (by assumption) ?_
            rotate_left 1
            · ((intro w hSw; (try dsimp only at hSw); go_simp) <;> with_reducible rfl)
            try simp only [Act.put, tzA, tzB, tzC, tzD, tzE, tzF]
            refine tkq (i := 12) (v := ?_) rfl (by kernel_rfl) (fun _ _ _ h => h) (by rfl) ?_ (by assumption) ?_
            rotate_left 1
            · ((intro w hSw; (try dsimp only at hSw); go_simp) <;> with_reducible rfl)
            try simp only [Act.put, tzA, tzB, tzC, tzD, tzE, tzF]
            refine tkq (i := 13) (v := ?_) rfl (by kernel_rfl) (fun _ _ _ h => h) (by rfl) ?_ (by assumption) ?_
            rotate_left 1
            · ((intro w hSw; (try dsimp only at hSw); obtain ⟨-, c0, c1, c2⟩ := hSw; go_simp) <;> with_reducible rfl)
            try simp only [Act.put, tzA, tzB, tzC, tzD, tzE, tzF]
            refine wpAnyH_ready (rs := [14]) (by kernel_rfl) (by simp) ?_
            refine (AllReadyH.cons rfl (fun K hK => ?_) AllReadyH.nil)
            go_simp
            refine (order1_any x y _).mono ?_
            rintro e V1 ⟨⟨kk, rfl, hkk⟩, hbv⟩
            have hkt : decide (kk < 0) = false := by rw [decide_eq_false_iff_not, hkk]; exact hst
            refine hK.out _ _ ⟨entC_below (w := wr.drew) hbv hgr hx1, entC_below (w := wr.drew) hbv hgr hx0⟩ (fun hHeld2 => ?_)
            clear hK K
            try simp only [Act.put, tzA, tzB, tzC, tzD, tzE, tzF]
            refine tkq (i := 15) (v := ?_) rfl (by kernel_rfl) (fun _ _ _ h => h) (by rfl) ?_ (by assumption) ?_
            rotate_left 1
            · ((intro w hSw; (try dsimp only at hSw); go_simp) <;> with_reducible rfl)
            try simp only [Act.put, tzA, tzB, tzC, tzD, tzE, tzF]
            refine tkq (i := 16) (v := ?_) rfl (by kernel_rfl) (fun _ _ _ h => h) (by rfl) ?_ (by assumption) ?_
            rotate_left 1
            · ((intro w hSw; (try dsimp only at hSw); go_simp) <;> with_reducible rfl)
            try simp only [Act.put, tzA, tzB, tzC, tzD, tzE, tzF]
            refine wpAnyH_done (by kernel_rfl) ?_ _
            clear hHeld hHeld2
            have hcv : Chg (fun _ => False) wr V1 := (Chg.refl _ wr).drew.trans (Chg.of_below hbv)
            have hN := ins_next HR.out.1 HR.out.2.1 HX.out.1 HI.out.1 HI.out.2.2.1 (ins_all HR.out.1 HI.out.1 hrk2 hst)
            go_wp2_with fail
            go_roundw
            case rel => exact ⟨k + 1, (A0 ++ [y]) ++ x :: B, X', int_congr (by have := HZ.out; omega), by omega, by omega, Lib.hid ⟨hN.1, hN.2, HX.out.2.2, HI.out.2.1.kept (M := fun _ => False) hcv hgr id, HI.out.2.2.2.trans (chg_no hcv)⟩⟩
            case measure => simp [intOf]; omega
    · have hlt : ¬ (z8 : Int) < (b : Int) := by have := HZ.out; have := HA.out; have := HB.out; omega
      go_wp2_with fail
      have hke : k = M.length + 1 ∨ k = M.length := by omega
      have hXn : X = [] := by rw [HR.out.2.2.1]; exact List.drop_eq_nil_of_le (by omega)
      have hTk : M.take k = M := List.take_of_length_le (by omega)
      have hE := HR.out.2.2.2.1
      rw [hXn, List.nil_append] at hE
      exact bodyPost_end (results_none (by exact Tryz.results104) _ _ _) rfl ⟨⟨_, rfl⟩, S, HR.out.1, hTk ▸ HR.out.2.1, hE, HR.out.2.2.2.2⟩
end Go.Proofs.YtaooangnnlopcaaGreatDoor
