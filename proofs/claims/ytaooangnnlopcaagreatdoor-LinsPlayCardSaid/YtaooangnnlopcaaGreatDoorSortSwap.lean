/- Ranges of entries change places; a rotation. Condition: the entries lie one behind the other. -/
import Derived.Test.YtaooangnnlopcaaGreatDoorSortIns
import Derived.Test.YtaooangnnlopcaaGreatDoorLowA
namespace Go.Proofs.YtaooangnnlopcaaGreatDoor
open Go.RowKit Go.ChangeMaps Go.MapKept
/-- Two entries, wherever they stand, change places. -/
theorem EntAt.swap2 {W : World} {g o z1 z2 : Nat} {X Y Z : List EntD} {x y : EntD} (h : EntAt W g o (X ++ x :: (Y ++ y :: Z))) (h1 : z1 = X.length) (h2 : z2 = X.length + 1 + Y.length) : EntAt ((W.setCells g (o + z1 * 3) (entCells y)).setCells g (o + z2 * 3) (entCells x)) g o (X ++ y :: (Y ++ x :: Z)) := by
  subst h1 h2
  have h1 := h.put (k := X.length) (by simp) y
  have h2 := h1.put (k := X.length + 1 + Y.length) (by simp; omega) x
  rw [show ((X ++ x :: (Y ++ y :: Z)).set X.length y).set (X.length + 1 + Y.length) x = X ++ y :: (Y ++ x :: Z) from by
    rw [List.set_append_right _ _ (by omega), Nat.sub_self, List.set_cons_zero, List.set_append_right _ _ (by omega), show X.length + 1 + Y.length - X.length = Y.length + 1 from by omega, List.set_cons_succ, List.set_append_right _ _ (by omega), Nat.sub_self]
    rfl] at h2
  exact h2
theorem EntAt.drew {W : World} {g o : Nat} {l : List EntD} (h : EntAt W g o l) : EntAt W.drew g o l := ⟨h.at', h.free⟩
theorem get_first {X Z : List EntD} {x : EntD} : (X ++ x :: Z)[X.length]? = some x := by simp
theorem get_second {X Y Z : List EntD} {x y : EntD} : (X ++ x :: (Y ++ y :: Z))[X.length + 1 + Y.length]? = some y := by
  rw [List.getElem?_append_right (by omega), show X.length + 1 + Y.length - X.length = Y.length + 1 from by omega, List.getElem?_cons_succ, List.getElem?_append_right (by omega), Nat.sub_self]
  rfl
set_option maxRecDepth 100000 in
set_option maxHeartbeats 8000000 in
theorem swapRange_any {w : World} {g o n c a b k : Nat} {P A M B R : List EntD} (h : EntAt w g o (P ++ A ++ M ++ B ++ R)) (hg : g < w.heap.size) (hn : n = (P ++ A ++ M ++ B ++ R).length) (hmx : n ≤ 1000000) (ha : a = P.length) (hb : b = P.length + A.length + M.length) (hk : k = A.length) (hk2 : k = B.length) : Calls Tryz.prog 113 #[.slice (some ⟨g, o, none⟩) n c, .int .i64 (a : Int), .int .i64 (b : Int), .int .i64 (k : Int), cmpF] w fun e w' => (∃ v, e = .returned v) ∧ EntAt w' g o (P ++ B ++ M ++ A ++ R) ∧ Chg (fun j => j = g) w w' := by
  have HL := Lib.hid (show P.length + A.length + M.length + B.length + R.length = n from by rw [hn]; simp [Nat.add_assoc])
  have HA := Lib.hid (And.intro ha (And.intro hb (And.intro hk hk2)))
  have HG := Lib.hid hg
  have HE := Lib.hid h
  have hkm : k ≤ 1000000 := by have := HL.out; omega
  have ham : a ≤ 1000000 := by have := HL.out; omega
  have hbm : b ≤ 1000000 := by have := HL.out; omega
  clear hn ha hb hk hk2 hg h
  go_enter Tryz.func113, Tryz.ntmps113
  go_upto_region 1 with fail
  go_loopw [10] (fun s10 wr => ∃ (i : Nat) (A1 A2 B1 B2 : List EntD), s10 = .int .i64 (i : Int) ∧ i ≤ k ∧ Hid (A1 ++ A2 = A ∧ B1 ++ B2 = B ∧ A1.length = i ∧ B1.length = i ∧ EntAt wr g o (P ++ B1 ++ A2 ++ M ++ A1 ++ B2 ++ R) ∧ Chg (fun j => j = g) w wr)) (fun s10 _ => k - (intOf s10).toNat)
  case atStart => exact ⟨0, [], A, [], B, rfl, Nat.zero_le _, Lib.hid ⟨rfl, rfl, rfl, rfl, by simpa using HE.out, Chg.refl _ _⟩⟩
  case round =>
    obtain ⟨i, A1, A2, B1, B2, rfl, hik, HR⟩ := hrel
    by_cases hlt : i < k
    · obtain ⟨x, A3, hx⟩ : ∃ x A3, A2 = x :: A3 := by
        cases A2 with
        | nil => have h1 := congrArg List.length HR.out.1; have h2 := HR.out.2.2.1; have h3 := HA.out.2.2.1; simp at h1; omega
        | cons x A3 => exact ⟨x, A3, rfl⟩
      obtain ⟨y, B3, hy⟩ : ∃ y B3, B2 = y :: B3 := by
        cases B2 with
        | nil => have h1 := congrArg List.length HR.out.2.1; have h2 := HR.out.2.2.2.1; have h3 := HA.out.2.2.2; simp at h1; omega
        | cons y B3 => exact ⟨y, B3, rfl⟩
      subst hx hy
      have hE : EntAt wr.drew g o ((P ++ B1) ++ x :: ((A3 ++ M ++ A1) ++ y :: (B3 ++ R))) := EntAt.drew (by simpa [List.append_assoc] using HR.out.2.2.2.2.1)
      obtain ⟨z1, hz1⟩ : ∃ z, z = a + i := ⟨_, rfl⟩
      obtain ⟨z2, hz2⟩ : ∃ z, z = b + i := ⟨_, rfl⟩
      have hl1 : z1 = (P ++ B1).length := by rw [hz1, List.length_append, HA.out.1, HR.out.2.2.2.1]
      have hl2 : z2 = (P ++ B1).length + 1 + (A3 ++ M ++ A1).length := by have h1 := congrArg List.length HR.out.1; have h2 := HR.out.2.2.1; have h3 := HA.out; have h4 := HR.out.2.2.2.1; simp at h1; simp; omega
      have hzn : z2 < n := by have h1 := HL.out; have h3 := HA.out; omega
      have hzn1 : z1 < n := by have h1 := HL.out; have h3 := HA.out; omega
      have hgr : g < wr.heap.size := Nat.lt_of_lt_of_le HG.out HR.out.2.2.2.2.2.size
      obtain ⟨b1, hb1⟩ : ∃ z, z = o + z1 * 3 := ⟨_, rfl⟩
      obtain ⟨b2, hb2⟩ : ∃ z, z = o + z2 * 3 := ⟨_, rfl⟩
      have i1 : ∀ W : World, (Instr.indexAt 106 (.slice (some ⟨g, o, none⟩) n c) (.int .i64 (z1 : Int))).run Tryz.prog W = .ok (.pointer (some ⟨g, b1, none⟩)) W := fun W => by rw [hb1]; exact idx_ent (k := z1) rfl hzn1 W
      have i2 : ∀ W : World, (Instr.indexAt 106 (.slice (some ⟨g, o, none⟩) n c) (.int .i64 (z2 : Int))).run Tryz.prog W = .ok (.pointer (some ⟨g, b2, none⟩)) W := fun W => by rw [hb2]; exact idx_ent (k := z2) rfl hzn W
      have hx1 : EntC wr.drew g b1 x := by rw [hb1]; exact entC hE (by rw [hl1]; exact get_first)
      have hx2 : EntC wr.drew g b2 y := by rw [hb2]; exact entC hE (by rw [hl2]; exact get_second)
      have ht1 : wr.drew.there g b1 3 := by rw [hb1, hl1]; exact hE.free _ (by simp)
      have ht2 : wr.drew.there g b2 3 := by rw [hb2, hl2]; exact hE.free _ (by simp; omega)
      have hw1 : IntKind.i64.wrap ((a : Int) + (i : Int)) = (z1 : Int) := by rw [hz1]; exact IntWalk.i64_in _ (by omega)
      have hw2 : IntKind.i64.wrap ((b : Int) + (i : Int)) = (z2 : Int) := by rw [hz2]; exact IntWalk.i64_in _ (by omega)
      have HE2 := Lib.hid (And.intro hE (And.intro ht1 (And.intro ht2 (And.intro hl1 (And.intro hl2 (And.intro hb1 hb2))))))
      clear hE ht1 ht2 hl1 hl2 hb1 hb2 hz1 hz2
      go_upto_region 3 with fail
      refine wp_region_late 21 (fun W => EntC W g b1 x ∧ EntC W g b2 y) (by kernel_rfl) ⟨hx1, hx2⟩ (fun hHeld => ?_)
      refine late_take (i := 0) (v := ?_) rfl (by kernel_rfl) (by kernel_rfl) (by kernel_rfl) (fun _ _ _ h => h) (by decide) (Or.inl ⟨by rfl, ?_⟩) (fun _ => hHeld) ?_
      rotate_left 1
      · ((intro w _; go_simp) <;> with_reducible rfl)
      try simp only [Act.put, tzA, tzB, tzC, tzD, tzE]
      refine late_take (i := 1) (v := ?_) rfl (by kernel_rfl) (by kernel_rfl) (by kernel_rfl) (fun _ _ _ h => h) (by decide) (Or.inl ⟨by rfl, ?_⟩) (fun _ => hHeld) ?_
      rotate_left 1
      · ((intro w _; go_simp) <;> with_reducible rfl)
      try simp only [Act.put, tzA, tzB, tzC, tzD, tzE, tzF]
      refine late_take (i := 2) (v := ?_) rfl (by kernel_rfl) (by kernel_rfl) (by kernel_rfl) (fun _ _ _ h => h) (by decide) (Or.inl ⟨by rfl, ?_⟩) (fun _ => hHeld) ?_
      rotate_left 1
      · ((intro w _; go_simp) <;> with_reducible rfl)
      try simp only [Act.put, tzA, tzB, tzC, tzD, tzE, tzF]
      refine late_take (i := 3) (v := ?_) rfl (by kernel_rfl) (by kernel_rfl) (by kernel_rfl) (fun _ _ _ h => h) (by decide) (Or.inl ⟨by rfl, ?_⟩) (fun _ => hHeld) ?_
      rotate_left 1
      · ((intro w _; go_simp) <;> with_reducible rfl)
      try simp only [Act.put, tzA, tzB, tzC, tzD, tzE, tzF]
      refine late_take (i := 4) (v := ?_) rfl (by kernel_rfl) (by kernel_rfl) (by kernel_rfl) (fun _ _ _ h => h) (by decide) (Or.inl ⟨by rfl, ?_⟩) (fun _ => hHeld) ?_
      rotate_left 1
      · ((intro w _; go_simp) <;> with_reducible rfl)
      try simp only [Act.put, tzA, tzB, tzC, tzD, tzE, tzF]
      refine late_take (i := 5) (v := ?_) rfl (by kernel_rfl) (by kernel_rfl) (by kernel_rfl) (fun _ _ _ h => h) (by decide) (Or.inl ⟨by rfl, ?_⟩) (fun _ => hHeld) ?_
      rotate_left 1
      · ((intro w _; go_simp) <;> with_reducible rfl)
      try simp only [Act.put, tzA, tzB, tzC, tzD, tzE, tzF]
      refine late_take (i := 6) (v := ?_) rfl (by kernel_rfl) (by kernel_rfl) (by kernel_rfl) (fun _ _ _ h => h) (by decide) (Or.inl ⟨by rfl, ?_⟩) (fun _ => hHeld) ?_
      rotate_left 1
      · ((intro w _; go_simp) <;> with_reducible rfl)
      try simp only [Act.put, tzA, tzB, tzC, tzD, tzE, tzF]
      refine late_take (i := 7) (v := ?_) rfl (by kernel_rfl) (by kernel_rfl) (by kernel_rfl) (fun _ _ _ h => h) (by decide) (Or.inl ⟨by rfl, ?_⟩) (fun _ => hHeld) ?_
      rotate_left 1
      · ((intro w _; go_simp) <;> with_reducible rfl)
      try simp only [Act.put, tzA, tzB, tzC, tzD, tzE, tzF]
      refine late_take (i := 8) (v := ?_) rfl (by kernel_rfl) (by kernel_rfl) (by kernel_rfl) (fun _ _ _ h => h) (by decide) (Or.inl ⟨by rfl, ?_⟩) (fun _ => hHeld) ?_
      rotate_left 1
      · ((intro w _; go_simp) <;> with_reducible rfl)
      try simp only [Act.put, tzA, tzB, tzC, tzD, tzE, tzF]
      refine late_take (i := 9) (v := ?_) rfl (by kernel_rfl) (by kernel_rfl) (by kernel_rfl) (fun _ _ _ h => h) (by decide) (Or.inl ⟨by rfl, ?_⟩) (fun _ => hHeld) ?_
      rotate_left 1
      · ((intro w _; go_simp) <;> with_reducible rfl)
      try simp only [Act.put, tzA, tzB, tzC, tzD, tzE, tzF]
      refine late_take (i := 10) (v := ?_) rfl (by kernel_rfl) (by kernel_rfl) (by kernel_rfl) (fun _ _ _ h => h) (by decide) (Or.inl ⟨by rfl, ?_⟩) (fun _ => hHeld) ?_
      rotate_left 1
      · ((intro w _; go_simp) <;> with_reducible rfl)
      try simp only [Act.put, tzA, tzB, tzC, tzD, tzE, tzF]
      refine late_take (i := 11) (v := ?_) rfl (by kernel_rfl) (by kernel_rfl) (by kernel_rfl) (fun _ _ _ h => h) (by decide) (Or.inl ⟨by rfl, ?_⟩) (fun _ => hHeld) ?_
      rotate_left 1
      · ((intro w _; go_simp) <;> with_reducible rfl)
      try simp only [Act.put, tzA, tzB, tzC, tzD, tzE, tzF]
      refine late_take (i := 12) (v := ?_) rfl (by kernel_rfl) (by kernel_rfl) (by kernel_rfl) (fun _ _ _ h => h) (by decide) (Or.inl ⟨by rfl, ?_⟩) (fun _ => hHeld) ?_
      rotate_left 1
      · ((intro w _; go_simp) <;> with_reducible rfl)
      try simp only [Act.put, tzA, tzB, tzC, tzD, tzE, tzF]
      refine late_read (i := 13) (v := ?_) rfl (by kernel_rfl) (by kernel_rfl) (by kernel_rfl) (fun _ _ _ h => h) (by decide) rfl (by kernel_rfl) (Or.inl ⟨by rfl, ?_⟩) hHeld (by kernel_rfl) ?_
      rotate_left 1
      · ((intro w hSw; (try dsimp only at hSw); obtain ⟨-, c0, c1, c2⟩ := hSw; go_simp) <;> with_reducible rfl)
      try simp only [Act.put, tzA, tzB, tzC, tzD, tzE, tzF]
      refine late_take (i := 14) (v := ?_) rfl (by kernel_rfl) (by kernel_rfl) (by kernel_rfl) (fun _ _ _ h => h) (by decide) (Or.inl ⟨by rfl, ?_⟩) (fun _ => hHeld) ?_
      rotate_left 1
      · ((intro w _; go_simp) <;> with_reducible rfl)
      try simp only [Act.put, tzA, tzB, tzC, tzD, tzE, tzF]
      refine late_take (i := 15) (v := ?_) rfl (by kernel_rfl) (by kernel_rfl) (by kernel_rfl) (fun _ _ _ h => h) (by decide) (Or.inl ⟨by rfl, ?_⟩) (fun _ => hHeld) ?_
      rotate_left 1
      · ((intro w _; go_simp) <;> with_reducible rfl)
      try simp only [Act.put, tzA, tzB, tzC, tzD, tzE, tzF]
      refine late_take (i := 16) (v := ?_) rfl (by kernel_rfl) (by kernel_rfl) (by kernel_rfl) (fun _ _ _ h => h) (by decide) (Or.inl ⟨by rfl, ?_⟩) (fun _ => hHeld) ?_
      rotate_left 1
      · ((intro w _; go_simp) <;> with_reducible rfl)
      try simp only [Act.put, tzA, tzB, tzC, tzD, tzE, tzF]
      refine late_take (i := 17) (v := ?_) rfl (by kernel_rfl) (by kernel_rfl) (by kernel_rfl) (fun _ _ _ h => h) (by decide) (Or.inl ⟨by rfl, ?_⟩) (fun _ => hHeld) ?_
      rotate_left 1
      · ((intro w _; go_simp) <;> with_reducible rfl)
      try simp only [Act.put, tzA, tzB, tzC, tzD, tzE, tzF]
      refine late_take (i := 18) (v := ?_) rfl (by kernel_rfl) (by kernel_rfl) (by kernel_rfl) (fun _ _ _ h => h) (by decide) (Or.inl ⟨by rfl, ?_⟩) (fun _ => hHeld) ?_
      rotate_left 1
      · ((intro w _; go_simp) <;> with_reducible rfl)
      try simp only [Act.put, tzA, tzB, tzC, tzD, tzE, tzF]
      refine late_read (i := 19) (v := ?_) rfl (by kernel_rfl) (by kernel_rfl) (by kernel_rfl) (fun _ _ _ h => h) (by decide) rfl (by kernel_rfl) (Or.inl ⟨by rfl, ?_⟩) hHeld (by kernel_rfl) ?_
      rotate_left 1
      · ((intro w hSw; (try dsimp only at hSw); obtain ⟨⟨c0, c1, c2⟩, -⟩ := hSw; go_simp) <;> with_reducible rfl)
      try simp only [Act.put, tzA, tzB, tzC, tzD, tzE, tzF]
      refine late_take (i := 20) (v := ?_) rfl (by kernel_rfl) (by kernel_rfl) (by kernel_rfl) (fun _ _ _ h => h) (by decide) (Or.inl ⟨by rfl, ?_⟩) (fun _ => hHeld) ?_
      rotate_left 1
      · ((intro w _; go_simp) <;> with_reducible rfl)
      try simp only [Act.put, tzA, tzB, tzC, tzD, tzE, tzF]
      refine late_one (i := 21) (by kernel_rfl) rfl (fun K hK => ?_)
      rw [if_pos (by rfl)]
      refine wp_store_mid 108 (.tmp 36) (.tmp 29) rfl g b1 #[.int .i64 y.step, .int .i64 y.call, .int .i64 y.drop] (by rfl) (by rfl) HE2.out.2.1 (by kernel_rfl) (by simp [Value.oneCell']) ?_
      refine hK.out _ _ (fun _ h => absurd rfl h) ?_
      clear hK K
      try simp only [Act.put, tzD, tzE, tzF]
      refine late_take (i := 22) (v := ?_) rfl (by kernel_rfl) (by kernel_rfl) (by kernel_rfl) (fun _ _ _ h => h) (by decide) (Or.inl ⟨by rfl, ?_⟩) (fun h => absurd h (by simp)) ?_
      rotate_left 1
      · ((intro w _; go_simp) <;> with_reducible rfl)
      try simp only [Act.put, tzA, tzB, tzC, tzD, tzE, tzF]
      refine late_one (i := 23) (by kernel_rfl) rfl (fun K hK => ?_)
      rw [if_pos (by rfl)]
      refine wp_store_mid 108 (.tmp 37) (.tmp 35) rfl g b2 #[.int .i64 x.step, .int .i64 x.call, .int .i64 x.drop] (by rfl) (by rfl) (World.there_setCells HE2.out.2.2.1 _ _ _) (by kernel_rfl) (by simp [Value.oneCell']) ?_
      refine hK.out _ _ (fun h => absurd h (by simp)) ?_
      clear hK K
      try simp only [Act.put, tzD, tzE, tzF]
      refine late_done (by kernel_rfl) ?_
      clear hHeld
      have hE3 := EntAt.swap2 (W := wr.drew) HE2.out.1 HE2.out.2.2.2.1 HE2.out.2.2.2.2.1
      rw [← HE2.out.2.2.2.2.2.1, ← HE2.out.2.2.2.2.2.2] at hE3
      have hc3 : Chg (fun j => j = g) wr ((wr.drew.setCells g b1 (entCells y)).setCells g b2 (entCells x)) := Chg.setCells (M := fun j => j = g) (g := g) (fun _ => rfl) _ _ (Chg.setCells (M := fun j => j = g) (g := g) (fun _ => rfl) _ _ (Chg.refl _ _).drew)
      have HE3 := Lib.hid (And.intro hE3 hc3)
      clear hE3 hc3 HE2
      go_wp2_with fail
      go_roundw
      case rel => exact ⟨i + 1, A1 ++ [x], A3, B1 ++ [y], B3, by go_num, by omega, Lib.hid ⟨by rw [← HR.out.1]; simp, by rw [← HR.out.2.1]; simp, by simp [HR.out.2.2.1], by simp [HR.out.2.2.2.1], by have h2 := HE3.out.1; simpa [List.append_assoc] using h2, HR.out.2.2.2.2.2.trans HE3.out.2⟩⟩
      case measure => simp [intOf]; omega
    · go_wp2_with fail
      have h1 : A2 = [] := List.eq_nil_of_length_eq_zero (by have h1 := congrArg List.length HR.out.1; have h2 := HR.out.2.2.1; have h3 := HA.out; simp at h1; omega)
      have h2 : B2 = [] := List.eq_nil_of_length_eq_zero (by have h1 := congrArg List.length HR.out.2.1; have h2 := HR.out.2.2.2.1; have h3 := HA.out; simp at h1; omega)
      have hE : EntAt wr g o (P ++ B ++ M ++ A ++ R) := by rw [← HR.out.1, ← HR.out.2.1]; have h3 := HR.out.2.2.2.2.1; rw [h1, h2] at h3 ⊢; simpa [List.append_assoc] using h3
      exact bodyPost_end (results_none (by exact Tryz.results113) _ _ _) rfl ⟨⟨_, rfl⟩, hE, HR.out.2.2.2.2.2⟩
/-- What a rotation's loop leaves at each stage: X and Y stand in their places, U and V are to change theirs. -/
structure Rot (A B X U V Y : List EntD) : Prop where
  join : X ++ (V ++ (U ++ Y)) = B ++ A
  left : 0 < U.length
  right : 0 < V.length
set_option maxRecDepth 100000 in
set_option maxHeartbeats 8000000 in
theorem rotate_any {w : World} {g o n c a m b : Nat} {P A B R : List EntD} (h : EntAt w g o (P ++ A ++ B ++ R)) (hg : g < w.heap.size) (hn : n = (P ++ A ++ B ++ R).length) (hmx : n ≤ 1000000) (ha : a = P.length) (hm : m = P.length + A.length) (hb : b = P.length + A.length + B.length) (hA : 0 < A.length) (hB : 0 < B.length) : Calls Tryz.prog 109 #[.slice (some ⟨g, o, none⟩) n c, .int .i64 (a : Int), .int .i64 (m : Int), .int .i64 (b : Int), cmpF] w fun e w' => (∃ v, e = .returned v) ∧ EntAt w' g o (P ++ B ++ A ++ R) ∧ Chg (fun j => j = g) w w' := by
  have HL := Lib.hid (show P.length + A.length + B.length + R.length = n from by rw [hn]; simp [Nat.add_assoc])
  have HG := Lib.hid hg
  have HE := Lib.hid h
  have HA := Lib.hid (And.intro hA hB)
  have hmm : m ≤ 1000000 := by have := HL.out; omega
  have w1 : IntKind.i64.wrap ((m : Int) - (a : Int)) = (A.length : Int) := by rw [show ((m : Int) - (a : Int)) = ((A.length : Nat) : Int) from by omega]; exact IntWalk.i64_in _ (by have := HL.out; omega)
  have w2 : IntKind.i64.wrap ((b : Int) - (m : Int)) = (B.length : Int) := by rw [show ((b : Int) - (m : Int)) = ((B.length : Nat) : Int) from by omega]; exact IntWalk.i64_in _ (by have := HL.out; omega)
  have HM := Lib.hid hm
  clear hn ha hm hb hg h hA hB
  go_enter Tryz.func109, Tryz.ntmps109
  go_upto_region 2 with fail
  go_loopw [10, 11] (fun s10 s11 wr => ∃ (i j : Nat) (X U V Y : List EntD), s10 = .int .i64 (i : Int) ∧ s11 = .int .i64 (j : Int) ∧ Hid (i = U.length ∧ j = V.length ∧ Rot A B X U V Y ∧ P.length + X.length + U.length = m) ∧ Hid (EntAt wr g o (P ++ X ++ U ++ V ++ Y ++ R) ∧ Chg (fun j => j = g) w wr)) (fun s10 s11 _ => (intOf s10).toNat + (intOf s11).toNat)
  case atStart => exact ⟨A.length, B.length, [], A, B, [], rfl, rfl, Lib.hid ⟨rfl, rfl, ⟨by simp, HA.out.1, HA.out.2⟩, by rw [HM.out]; simp⟩, Lib.hid ⟨by simpa using HE.out, Chg.refl _ _⟩⟩
  case round =>
    obtain ⟨i, j, X, U, V, Y, rfl, rfl, HI, HR⟩ := hrel
    have hjn : X.length + V.length + U.length + Y.length = B.length + A.length := by have h1 := congrArg List.length HI.out.2.2.1.join; simp at h1; omega
    have hij : 0 < i ∧ 0 < j ∧ i ≤ 1000000 ∧ j ≤ 1000000 ∧ i ≤ m := by have h1 := HI.out; have h2 := HL.out; have h3 := h1.2.2.1.left; have h4 := h1.2.2.1.right; omega
    obtain ⟨hi0, hj0, hi1, hj1, him⟩ := hij
    have hln : (P ++ X ++ U ++ V ++ Y ++ R).length = n := by have := HL.out; simp; omega
    have hgr : g < wr.heap.size := Nat.lt_of_lt_of_le HG.out HR.out.2.size
    have w3 : IntKind.i64.wrap ((m : Int) - (i : Int)) = ((P.length + X.length : Nat) : Int) := by rw [show ((m : Int) - (i : Int)) = ((P.length + X.length : Nat) : Int) from by have h1 := HI.out; omega]; exact IntWalk.i64_in _ (by have := HL.out; omega)
    obtain ⟨q, hq⟩ : ∃ q, q = P.length + X.length := ⟨_, rfl⟩
    rw [← hq] at w3
    have HQ := Lib.hid (And.intro hq (And.intro hjn hln))
    clear hq hjn hln
    by_cases hne : i = j
    · subst hne
      go_wp2_with fail
      refine (swapRange_any (P := P ++ X) (A := U) (M := []) (B := V) (R := Y ++ R) (by simpa [List.append_assoc] using HR.out.1) hgr (by rw [← HQ.out.2.2]; simp [List.append_assoc]) hmx (by rw [HQ.out.1, List.length_append]) (by have h1 := HI.out; simp; omega) HI.out.1 HI.out.2.1).mono ?_
      rintro e W2 ⟨⟨v, rfl⟩, hE, hc⟩
      have hE2 : EntAt W2 g o (P ++ B ++ A ++ R) := by have h1 := HI.out.2.2.1.join; have h2 : P ++ (X ++ (V ++ (U ++ Y))) ++ R = P ++ B ++ A ++ R := by { rw [h1]; simp [List.append_assoc] }; rw [← h2]; simpa [List.append_assoc] using hE
      have HF := Lib.hid (And.intro hE2 hc)
      clear hE hE2 hc
      go_wp2_with fail
      exact bodyPost_end (results_none (by exact Tryz.results109) _ _ _) rfl ⟨⟨_, rfl⟩, HF.out.1, HR.out.2.trans HF.out.2⟩
    · have hne2 : ((i : Int) == (j : Int)) = false := by rw [beq_eq_false_iff_ne]; omega
      by_cases hgt : j < i
      · obtain ⟨U1, U2, hU⟩ : ∃ U1 U2, U = U1 ++ U2 ∧ U1.length = j := ⟨U.take j, U.drop j, (List.take_append_drop j U).symm, by have h1 := HI.out; rw [List.length_take]; omega⟩
        have HU := Lib.hid hU
        clear hU
        have w4 : IntKind.i64.wrap ((i : Int) - (j : Int)) = ((i - j : Nat) : Int) := by rw [show ((i : Int) - (j : Int)) = ((i - j : Nat) : Int) from by omega]; exact IntWalk.i64_in _ (by omega)
        obtain ⟨d, hd⟩ : ∃ d, d = i - j := ⟨_, rfl⟩
        rw [← hd] at w4
        have HD := Lib.hid hd
        clear hd
        go_wp2_with fail
        refine (swapRange_any (P := P ++ X) (A := U1) (M := U2) (B := V) (R := Y ++ R) (by have h1 := HR.out.1; rw [HU.out.1] at h1; simpa [List.append_assoc] using h1) hgr (by rw [← HQ.out.2.2, HU.out.1]; simp [List.append_assoc]) hmx (by rw [HQ.out.1, List.length_append]) (by have h1 := HI.out; have h2 := congrArg List.length HU.out.1; simp at h2; simp; omega) HU.out.2.symm HI.out.2.1).mono ?_
        rintro e W2 ⟨⟨v, rfl⟩, hE, hc⟩
        have HF := Lib.hid (And.intro hE hc)
        clear hE hc
        go_wp2_with fail
        go_roundw
        case rel => exact ⟨d, j, X ++ V, U2, U1, Y, rfl, rfl, Lib.hid ⟨by have h1 := HI.out; have h2 := congrArg List.length HU.out.1; have h3 := HU.out.2; have h4 := HD.out; simp at h2; omega, HU.out.2.symm, ⟨by have h1 := HI.out.2.2.1.join; rw [HU.out.1] at h1; simpa [List.append_assoc] using h1, by have h1 := HI.out; have h2 := congrArg List.length HU.out.1; have h3 := HU.out.2; simp at h2; omega, by have h3 := HU.out.2; omega⟩, by have h1 := HI.out; have h2 := congrArg List.length HU.out.1; have h3 := HU.out.2; simp at h2; simp; omega⟩, Lib.hid ⟨by have h1 := HF.out.1; simpa [List.append_assoc] using h1, HR.out.2.trans HF.out.2⟩⟩
        case measure => have h4 := HD.out; simp [intOf]; omega
      · obtain ⟨V1, V2, hU⟩ : ∃ V1 V2, V = V1 ++ V2 ∧ V2.length = i := ⟨V.take (j - i), V.drop (j - i), (List.take_append_drop (j - i) V).symm, by have h1 := HI.out; rw [List.length_drop]; omega⟩
        have HU := Lib.hid hU
        clear hU
        have w4 : IntKind.i64.wrap ((j : Int) - (i : Int)) = ((j - i : Nat) : Int) := by rw [show ((j : Int) - (i : Int)) = ((j - i : Nat) : Int) from by omega]; exact IntWalk.i64_in _ (by omega)
        have w5 : IntKind.i64.wrap ((m : Int) + (j : Int)) = ((m + j : Nat) : Int) := IntWalk.i64_in _ (by omega)
        have w6 : IntKind.i64.wrap (((m + j : Nat) : Int) - (i : Int)) = ((m + j - i : Nat) : Int) := by rw [show (((m + j : Nat) : Int) - (i : Int)) = ((m + j - i : Nat) : Int) from by omega]; exact IntWalk.i64_in _ (by omega)
        obtain ⟨mj, hmj⟩ : ∃ d, d = m + j := ⟨_, rfl⟩
        rw [← hmj] at w5 w6
        obtain ⟨mi, hmi⟩ : ∃ d, d = mj - i := ⟨_, rfl⟩
        rw [← hmi] at w6
        obtain ⟨d, hd⟩ : ∃ d, d = j - i := ⟨_, rfl⟩
        have HMJ := Lib.hid (And.intro hmj hmi)
        clear hmj hmi
        rw [← hd] at w4
        have HD := Lib.hid hd
        clear hd
        go_wp2_with fail
        refine (swapRange_any (P := P ++ X) (A := U) (M := V1) (B := V2) (R := Y ++ R) (by have h1 := HR.out.1; rw [HU.out.1] at h1; simpa [List.append_assoc] using h1) hgr (by rw [← HQ.out.2.2, HU.out.1]; simp [List.append_assoc]) hmx (by rw [HQ.out.1, List.length_append]) (by have h1 := HI.out; have h3 := HMJ.out; have h4 := HU.out.2; have h2 := congrArg List.length HU.out.1; simp at h2; simp; omega) HI.out.1 HU.out.2.symm).mono ?_
        rintro e W2 ⟨⟨v, rfl⟩, hE, hc⟩
        have HF := Lib.hid (And.intro hE hc)
        clear hE hc
        go_wp2_with fail
        go_roundw
        case rel => exact ⟨i, d, X, V2, V1, U ++ Y, rfl, rfl, Lib.hid ⟨HU.out.2.symm, by have h1 := HI.out; have h2 := congrArg List.length HU.out.1; have h3 := HU.out.2; have h4 := HD.out; simp at h2; omega, ⟨by have h1 := HI.out.2.2.1.join; rw [HU.out.1] at h1; simpa [List.append_assoc] using h1, by have h3 := HU.out.2; omega, by have h1 := HI.out; have h2 := congrArg List.length HU.out.1; have h3 := HU.out.2; simp at h2; omega⟩, by have h1 := HI.out; have h3 := HU.out.2; omega⟩, Lib.hid ⟨by have h1 := HF.out.1; simpa [List.append_assoc] using h1, HR.out.2.trans HF.out.2⟩⟩
        case measure => have h4 := HD.out; simp [intOf]; omega
end Go.Proofs.YtaooangnnlopcaaGreatDoor
