/- Entries are sorted by their steps, then by their places (slices.SortStableFunc). Condition: they lie one behind the other, in their places' order. -/
import Derived.Test.YtaooangnnlopcaaGreatDoorLiC
namespace Go.Proofs.YtaooangnnlopcaaGreatDoor
open Go.RowKit Go.ChangeMaps Go.MapKept
def StableOk (w : World) (g o nc : Nat) (L : List EntD) (w' : World) : Prop := ∃ s, SortE nc s ∧ s.Perm L ∧ EntAt w' g o s ∧ Chg (fun k => k = g) w w'
theorem low_of {nc : Nat} {_X A B _Y lX lA lB lY L : List EntD} (hr : L.Pairwise (fun x y => rkE nc x < rkE nc y)) (hL : L = lX ++ (lA ++ (lB ++ lY))) (hA : A.Perm lA) (hB : B.Perm lB) : LowE nc A B := by
  subst hL
  have h1 := (List.pairwise_append.1 (List.pairwise_append.1 hr).2.1).2.2
  intro x hx y hy
  exact h1 x (hA.mem_iff.1 hx) y (List.mem_append_left _ (hB.mem_iff.1 hy))
set_option maxRecDepth 100000 in
set_option maxHeartbeats 8000000 in
theorem stable_any {w : World} {g o n c nc : Nat} {L : List EntD} (h : EntAt w g o L) (hg : g < w.heap.size) (hn : n = L.length) (hmx : n ≤ 1000000) (hrk : L.Pairwise (fun x y => rkE nc x < rkE nc y)) : Calls Tryz.prog 95 #[.slice (some ⟨g, o, none⟩) n c, .int .i64 (n : Int), cmpF] w fun e w' => (∃ v, e = .returned v) ∧ StableOk w g o nc L w' := by
  have HN := Lib.hid hn
  have HG := Lib.hid hg
  have HE := Lib.hid h
  have HR := Lib.hid hrk
  clear hn hg h hrk
  go_enter Tryz.func95, Tryz.ntmps95
  go_upto_region 2 with fail
  go_loopw [7, 8] (fun s7 s8 wr => ∃ (a b : Nat) (X lX Y : List EntD), s7 = .int .i64 (a : Int) ∧ s8 = .int .i64 (b : Int) ∧ Hid (b = a + 20) ∧ a ≤ n ∧ Hid (Fulls nc 20 X lX ∧ X.length = a ∧ lX ++ Y = L ∧ EntAt wr g o (X ++ Y) ∧ Chg (fun j => j = g) w wr)) (fun _ s8 _ => n + 21 - (intOf s8).toNat)
  case atStart => exact ⟨0, 20, [], [], L, rfl, rfl, Lib.hid rfl, Nat.zero_le _, Lib.hid ⟨.nil, rfl, rfl, by simpa using HE.out, Chg.refl _ _⟩⟩
  case round =>
    obtain ⟨a, b, X, lX, Y, rfl, rfl, HAB, han, HI⟩ := hrel
    obtain ⟨wo, rfl⟩ : ∃ wo : World, wo = wr := ⟨_, rfl⟩
    have hlx : lX.length = a := by rw [← HI.out.1.perm.length_eq]; exact HI.out.2.1
    have hly : a + Y.length = n := by have h1 := congrArg List.length HI.out.2.2.1; rw [HN.out]; simp at h1; omega
    have hgr : g < wo.heap.size := Nat.lt_of_lt_of_le HG.out HI.out.2.2.2.2.size
    have hry : Y.Pairwise (fun x y => rkE nc x < rkE nc y) := by have h1 := HR.out; rw [← HI.out.2.2.1] at h1; exact (List.pairwise_append.1 h1).2.1
    have HY := Lib.hid (And.intro hry (And.intro hlx (And.intro hly hgr)))
    clear hry hlx hly hgr
    by_cases hbn : b ≤ n
    · obtain ⟨M, Y2, HM⟩ : ∃ M Y2, Hid (M ++ Y2 = Y ∧ M.length = 20) := ⟨Y.take 20, Y.drop 20, Lib.hid ⟨List.take_append_drop _ _, by have h0 := HAB.out; have := HY.out; rw [List.length_take]; omega⟩⟩
      go_wp2_with fail
      refine (insSort_any (n := n) (a := a) (b := b) (nc := nc) (P := X) (M := M) (R := Y2) (by have h1 := HI.out.2.2.2.1; rw [← HM.out.1] at h1; simpa [List.append_assoc] using h1) HY.out.2.2.2 (by have h0 := HAB.out; have h1 := HY.out; have h2 := HI.out.2.1; have h3 := congrArg List.length HM.out.1; simp at h3; simp; omega) hmx HI.out.2.1.symm (by have h0 := HAB.out; have h2 := HI.out.2.1; have h3 := HM.out.2; omega) (by have h1 := HY.out.1; rw [← HM.out.1] at h1; exact (List.pairwise_append.1 h1).1)).mono ?_
      rintro e W2 ⟨⟨v, rfl⟩, S, hS1, hS2, hE, hc⟩
      have HS := Lib.hid (And.intro hS1 (And.intro hS2 (And.intro hE hc)))
      clear hS1 hS2 hE hc
      go_wp2_with fail
      go_roundw
      case rel => exact ⟨b, b + 20, X ++ S, lX ++ M, Y2, rfl, by go_num, Lib.hid rfl, hbn, Lib.hid ⟨HI.out.1.snoc (by rw [HS.out.2.1.length_eq]; exact HM.out.2) HS.out.1 HS.out.2.1, by have h0 := HAB.out; have h1 := HS.out.2.1.length_eq; have h2 := HI.out.2.1; have h3 := HM.out.2; simp; omega, by rw [List.append_assoc, HM.out.1]; exact HI.out.2.2.1, HS.out.2.2.1, HI.out.2.2.2.2.trans HS.out.2.2.2⟩⟩
      case measure => have h0 := HAB.out; simp [intOf]; omega
    · go_wp2_with fail
      refine (insSort_any (n := n) (a := a) (b := n) (nc := nc) (P := X) (M := Y) (R := []) (by have h1 := HI.out.2.2.2.1; simpa using h1) HY.out.2.2.2 (by have h0 := HAB.out; have h1 := HY.out; have h2 := HI.out.2.1; simp; omega) hmx HI.out.2.1.symm (by have h0 := HAB.out; have h2 := HI.out.2.1; have h3 := HY.out; omega) HY.out.1).mono ?_
      rintro e W2 ⟨⟨v, rfl⟩, S, hS1, hS2, hE, hc⟩
      have hrun : Runs nc 20 (X ++ S) L := by
        have h1 := HI.out.1.runs (D' := S) (L' := Y) (.last (by rw [hS2.length_eq]; have h0 := HAB.out; have := HY.out; omega) hS1 hS2)
        rw [HI.out.2.2.1] at h1
        exact h1
      have HS := Lib.hid (And.intro hrun (And.intro (show EntAt W2 g o (X ++ S) by simpa using hE) (HI.out.2.2.2.2.trans hc)))
      clear hrun hE hc hS1 hS2
      go_upto_region 7 with fail
      go_loopw [6] (fun s6 wr => ∃ (bs : Nat) (D : List EntD), s6 = .int .i64 (bs : Int) ∧ 0 < bs ∧ bs ≤ 2000000 ∧ Hid (Runs nc bs D L ∧ EntAt wr g o D ∧ Chg (fun j => j = g) w wr)) (fun s6 _ => n - (intOf s6).toNat)
      case atStart => exact ⟨20, X ++ S, rfl, by omega, by omega, HS⟩
      case round =>
        clear HS HI HY
        obtain ⟨bs, D, rfl, hb0, hb1, HD⟩ := hrel
        obtain ⟨wq, rfl⟩ : ∃ wq : World, wq = wr := ⟨_, rfl⟩
        have hdl : D.length = n := by rw [HN.out]; exact HD.out.1.perm.length_eq
        have HDL := Lib.hid hdl
        clear hdl
        by_cases hbn2 : bs < n
        · obtain ⟨b2, hb2⟩ : ∃ z, z = 2 * bs := ⟨_, rfl⟩
          have v1 : IntKind.i64.wrap (2 * (bs : Int)) = (b2 : Int) := by rw [hb2]; exact IntWalk.i64_in _ (by omega)
          have v2 : IntKind.i64.wrap ((bs : Int) * 2) = (b2 : Int) := by rw [show (bs : Int) * 2 = ((2 * bs : Nat) : Int) from by omega, hb2]; exact IntWalk.i64_in _ (by omega)
          have hb3 : b2 ≤ 2000000 := by omega
          have HB2 := Lib.hid hb2
          clear hb2
          go_upto_region 9 with fail
          go_loopw [7, 8] (fun s7 s8 wr => ∃ (a b : Nat) (X lX Y lY : List EntD), s7 = .int .i64 (a : Int) ∧ s8 = .int .i64 (b : Int) ∧ Hid (b = a + b2) ∧ a ≤ n ∧ Hid (Fulls nc b2 X lX ∧ X.length = a ∧ Runs nc bs Y lY ∧ lX ++ lY = L ∧ EntAt wr g o (X ++ Y) ∧ Chg (fun j => j = g) w wr)) (fun _ s8 _ => n + 2000001 - (intOf s8).toNat)
          case atStart => exact ⟨0, b2, [], [], D, L, rfl, rfl, Lib.hid (by omega), Nat.zero_le _, Lib.hid ⟨.nil, rfl, HD.out.1, rfl, by simpa using HD.out.2.1, HD.out.2.2⟩⟩
          case round =>
            clear HD
            obtain ⟨a, b, X, lX, Y, lY, rfl, rfl, HAB, han, HI⟩ := hrel
            have hlx : lX.length = a := by rw [← HI.out.1.perm.length_eq]; exact HI.out.2.1
            have hly : a + Y.length = n := by have h1 := congrArg List.length HI.out.2.2.2.1; have h2 := HI.out.2.2.1.perm.length_eq; rw [HN.out]; simp at h1; omega
            have hgr : g < wr.heap.size := Nat.lt_of_lt_of_le HG.out HI.out.2.2.2.2.2.size
            have HY := Lib.hid (And.intro hlx (And.intro hly hgr))
            clear hlx hly hgr
            by_cases hbn : b ≤ n
            · obtain ⟨d1, l1, Y1, L1, e1, e2, hd1, hs1, hp1, hr1⟩ := HI.out.2.2.1.one (by have := HAB.out; have := HY.out; have := HB2.out; omega)
              obtain ⟨d2, l2, Y2, L2, e3, e4, hd2, hs2, hp2, hr2⟩ := hr1.one (by have := HAB.out; have := HY.out; have := HB2.out; have h3 := congrArg List.length e1; simp at h3; omega)
              subst e3 e4
              have HT := Lib.hid (And.intro e1 (And.intro e2 (And.intro hd1 (And.intro hd2 (And.intro hs1 (And.intro hs2 (And.intro hp1 (And.intro hp2 hr2))))))))
              have hlow : LowE nc d1 d2 := low_of (_X := X) (_Y := Y2) HR.out (lX := lX) (lY := L2) (by rw [← HI.out.2.2.2.1, HT.out.2.1]) hp1 hp2
              have HW := Lib.hid hlow
              clear e1 e2 hd1 hd2 hs1 hs2 hp1 hp2 hr2 hr1 hlow
              go_wp2_with fail
              refine (symMerge_any (d1.length + d2.length) (w := wr) (n := n) (a := a) (m := a + bs) (b := b) (nc := nc) (P := X) (A := d1) (B := d2) (R := Y2) (Nat.le_refl _) (by have h1 := HI.out.2.2.2.2.1; rw [HT.out.1] at h1; simpa [List.append_assoc] using h1) HY.out.2.2 (by have h0 := HAB.out; have h1 := HY.out; have h2 := HI.out.2.1; have h3 := congrArg List.length HT.out.1; simp at h3; simp; omega) hmx HI.out.2.1.symm (by have h0 := HAB.out; have h2 := HI.out.2.1; have h3 := HT.out.2.2; omega) (by have h0 := HAB.out; have h2 := HI.out.2.1; have h3 := HT.out.2.2; have h4 := HB2.out; omega) (by have h3 := HT.out.2.2; omega) (by have h3 := HT.out.2.2; omega) HT.out.2.2.2.2.1 HT.out.2.2.2.2.2.1 HW.out).mono ?_
              rintro e W2 ⟨⟨v, rfl⟩, S, hS1, hS2, hE, hc⟩
              have HS := Lib.hid (And.intro hS1 (And.intro hS2 (And.intro hE hc)))
              clear hS1 hS2 hE hc
              go_wp2_with fail
              go_roundw
              case rel => exact ⟨b, b + b2, X ++ S, lX ++ (l1 ++ l2), Y2, L2, rfl, by go_num, Lib.hid rfl, hbn, Lib.hid ⟨HI.out.1.snoc (by have h0 := HAB.out; have h1 := HS.out.2.1.length_eq; have h3 := HT.out.2.2; have h4 := HB2.out; simp at h1; omega) HS.out.1 (HS.out.2.1.trans (HT.out.2.2.2.2.2.2.1.append HT.out.2.2.2.2.2.2.2.1)), by have h0 := HAB.out; have h1 := HS.out.2.1.length_eq; have h2 := HI.out.2.1; have h3 := HT.out.2.2; have h4 := HB2.out; simp at h1; simp; omega, HT.out.2.2.2.2.2.2.2.2, by rw [← HI.out.2.2.2.1, HT.out.2.1]; simp [List.append_assoc], HS.out.2.2.1, HI.out.2.2.2.2.2.trans HS.out.2.2.2⟩⟩
              case measure => have h0 := HAB.out; have := HB2.out; simp [intOf]; omega
            · by_cases hmn : a + bs < n
              · obtain ⟨d1, l1, Y1, L1, e1, e2, hd1, hs1, hp1, hr1⟩ := HI.out.2.2.1.one (by have h0 := HAB.out; have := HY.out; omega)
                have hsg := hr1.single (by have := HAB.out; have := HY.out; have := HB2.out; have h3 := congrArg List.length e1; simp at h3; omega)
                have hy1 : 0 < Y1.length := by have h0 := HAB.out; have := HY.out; have h3 := congrArg List.length e1; simp at h3; omega
                have hlow : LowE nc d1 Y1 := low_of (_X := X) (_Y := []) HR.out (lX := lX) (lA := l1) (lB := L1) (lY := []) (by rw [← HI.out.2.2.2.1, e2]; simp) hp1 hsg.2
                have HT := Lib.hid (And.intro e1 (And.intro e2 (And.intro hd1 (And.intro hs1 (And.intro hsg.1 (And.intro hp1 (And.intro hsg.2 (And.intro hlow hy1))))))))
                clear e1 e2 hd1 hs1 hsg hp1 hlow hy1 hr1
                go_wp2_with fail
                refine (symMerge_any (d1.length + Y1.length) (w := wr) (n := n) (a := a) (m := a + bs) (b := n) (nc := nc) (P := X) (A := d1) (B := Y1) (R := []) (Nat.le_refl _) (by have h1 := HI.out.2.2.2.2.1; rw [HT.out.1] at h1; simpa [List.append_assoc] using h1) HY.out.2.2 (by have h0 := HAB.out; have h1 := HY.out; have h2 := HI.out.2.1; have h3 := congrArg List.length HT.out.1; simp at h3; simp; omega) hmx HI.out.2.1.symm (by have h0 := HAB.out; have h2 := HI.out.2.1; have h3 := HT.out.2.2; omega) (by have h0 := HAB.out; have h1 := HY.out; have h2 := HI.out.2.1; have h3 := congrArg List.length HT.out.1; simp at h3; omega) (by have h3 := HT.out.2.2; omega) HT.out.2.2.2.2.2.2.2.2 HT.out.2.2.2.1 HT.out.2.2.2.2.1 HT.out.2.2.2.2.2.2.2.1).mono ?_
                rintro e W2 ⟨⟨v, rfl⟩, S, hS1, hS2, hE, hc⟩
                have hrun : Runs nc b2 (X ++ S) L := by
                  have h1 := HI.out.1.runs (D' := S) (L' := lY) (.last (by have h0 := HAB.out; have h1 := HY.out; have h2 := hS2.length_eq; have h3 := congrArg List.length HT.out.1; simp at h2 h3; omega) hS1 (by rw [HT.out.2.1]; exact hS2.trans (HT.out.2.2.2.2.2.1.append HT.out.2.2.2.2.2.2.1)))
                  rw [HI.out.2.2.2.1] at h1
                  exact h1
                have HS := Lib.hid (And.intro hrun (And.intro (show EntAt W2 g o (X ++ S) by simpa using hE) (HI.out.2.2.2.2.2.trans hc)))
                clear hrun hE hc hS1 hS2
                go_wp2_with fail
                go_roundw
                case rel => exact ⟨b2, X ++ S, rfl, by have := HB2.out; omega, hb3, HS⟩
                case measure => have := HB2.out; simp [intOf]; omega
              · have hrun : Runs nc b2 (X ++ Y) L := by
                  have hsg := HI.out.2.2.1.single (by have h0 := HAB.out; have := HY.out; omega)
                  have h1 := HI.out.1.runs (D' := Y) (L' := lY) (.last (by have h0 := HAB.out; have := HY.out; omega) hsg.1 hsg.2)
                  rw [HI.out.2.2.2.1] at h1
                  exact h1
                have HS := Lib.hid hrun
                clear hrun
                go_wp2_with fail
                go_roundw
                case rel => exact ⟨b2, X ++ Y, rfl, by have := HB2.out; omega, hb3, Lib.hid ⟨HS.out, HI.out.2.2.2.2.1, HI.out.2.2.2.2.2⟩⟩
                case measure => have := HB2.out; simp [intOf]; omega
        · have hsg := HD.out.1.single (by have := HDL.out; omega)
          go_wp2_with fail
          exact bodyPost_end (results_none (by exact Tryz.results95) _ _ _) rfl ⟨⟨_, rfl⟩, D, hsg.1, hsg.2, HD.out.2.1, HD.out.2.2⟩
end Go.Proofs.YtaooangnnlopcaaGreatDoor
