/- The law FeedsVoid, walked: a nil feed tells nothing; a feed that nobody made is a feed. Condition: the library's variables MaxLen and ErrRange are as they are laid. -/
import Derived.Test.YtahpjhnbjkjkiaaGreatDoorFeedSame
import Derived.Test.YtahpjhnbjkjkiaaGreatDoorFeedLives
namespace Go.Proofs.YtahpjhnbjkjkiaaGreatDoor
open Go.RowKit Go.ChangeMaps Go.MapKept

theorem left_nil (w : World) : Calls Tryz.prog 17 #[.pointer none] w fun e w' => e = .returned (.int .i64 0) ∧ w = w' := by
  go_enter Tryz.func17, Tryz.ntmps17
  go_wp2_with fail
  go_ret
  exact ⟨rfl, rfl⟩
theorem in_nil (bv : Value) (w : World) : Calls Tryz.prog 15 #[.pointer none, bv] w fun e w' => e = .returned (.slice none 0 0) ∧ w = w' := by
  refine (callsIn_wide (n := 3)).1 ?_
  refine callsIn_of_wp_marks Tryz.func15 rfl trivial ?_ rfl
  simp only [Tryz.ntmps15, List.size_toArray, List.length_cons, List.length_nil, Nat.reduceAdd, Nat.reduceSub, Array.replicate_succ, Array.replicate_zero, List.push_toArray, List.append_toArray, List.nil_append, List.cons_append]
  gi_wp2
  exact ⟨_, results_tmp rfl _ _ _, rfl, rfl⟩
set_option maxRecDepth 100000 in
set_option maxHeartbeats 8000000 in
theorem feedsVoid_walk {w : World} {bv : Value} {bl : List UInt8} (hb : BRow w bv bl) (hL : HasLen w) (hE : HasErr w) :
    Calls Tryz.prog 4 #[bv] w fun e w' => e = .returned (.bool true) ∧ Below w.heap.size w w' := by
  obtain ⟨ba, bc, rfl⟩ := hb.len
  by_cases h1 : 3000 < bl.length
  · have d1 : decide ((3000 : Int) < (bl.length : Int)) = true := by rw [decide_eq_true_eq]; omega
    have hlives := lives30 w hL hE
    have HLV := Lib.hid hlives
    clear hlives hb hL hE
    go_enter Tryz.func4, Tryz.ntmps4
    go_wp2_with fail
    refine HLV.out.mono ?_
    rintro e w' ⟨rfl, hb⟩
    have HB := Lib.hid hb
    clear hb
    go_wp2_with fail
    go_ret
    exact ⟨rfl, HB.out⟩
  · have d1 : decide ((3000 : Int) < (bl.length : Int)) = false := by rw [decide_eq_false_iff_not]; omega
    have HBR := Lib.hid hb
    have HBL := Lib.hid (show bl ≠ [] → ∀ g, (Value.slice ba bl.length bc).ownBlock = some g → g < w.heap.size from fun hne g hg => hb.blk hne hg)
    have ha := Chg.alloc (M := fun _ => False) (Chg.alloc (Chg.refl _ w) (.cells feedZero 46)) (.cells #[.slice none 0 0, .int .i64 0] 29)
    have HE0 := Lib.hid ((Env.of hL hE).chg ha (fun _ e => e.elim))
    have H0 := Lib.hid ((feed_new (n₀ := w.heap.size) w (Nat.le_refl _)).alloc (.cells #[.slice none 0 0, .int .i64 0] 29))
    have hb0 : Below w.heap.size w ((w.alloc (.cells feedZero 46)).alloc (.cells #[.slice none 0 0, .int .i64 0] 29)) := ((Below.refl _ _).alloc (Nat.le_refl _) _).alloc (by simp) _
    have HB0 := Lib.hid hb0
    have hr0 : ((w.alloc (.cells feedZero 46)).alloc (.cells #[.slice none 0 0, .int .i64 0] 29)).heap[w.heap.size + 1]? = some (.cells #[.slice none 0 0, .int .i64 0] 29 (0, 0)) := by
      rw [heap_at, if_pos (by simp)]
    have HR0 := Lib.hid hr0
    clear ha hb hL hE hb0 hr0
    go_enter Tryz.func4, Tryz.ntmps4
    go_wp2_with fail
    obtain ⟨p, hp⟩ : ∃ p, p = w.heap.size := ⟨_, rfl⟩
    obtain ⟨r, hr⟩ : ∃ r, r = w.heap.size + 1 := ⟨_, rfl⟩
    refine (in_nil _ _).mono ?_
    rintro e w0 ⟨rfl, rfl⟩
    generalize (w.alloc (.cells feedZero 46)).alloc (.cells #[.slice none 0 0, .int .i64 0] 29) = W0 at *
    have hleft0 : Calls Tryz.prog 17 #[.pointer (some ⟨w.heap.size, 0, none⟩)] W0 fun e w' => e = .returned (.int .i64 0) ∧ W0 = w' := left_any (way := 0) (n := 0) (hc := 0) (ha := none) H0.out.box (by omega)
    have HLEFT0 := Lib.hid hleft0
    clear hleft0
    go_wp2_with fail
    refine (left_nil _).mono ?_
    rintro e w0 ⟨rfl, rfl⟩
    go_wp2_with fail
    refine HLEFT0.out.mono ?_
    rintro e w0 ⟨rfl, rfl⟩
    go_wp2_with fail
    refine (in_any H0.out HE0.out HB0.out.size goodF_new (by show 0 + bl.length < _; omega) (HBR.out.below HB0.out) (fun hne g hg => .inl (HBL.out hne g hg)) (fun _ _ _ e => by simp [Value.ownBlock] at e) ⟨by decide, by decide, by decide⟩ (by decide)).mono ?_
    rintro e W1 ⟨hv1, ks1, ov1, L1, rfl, hf1, hc1, -, hev1, hcut1, hkw1⟩
    have hb1 := HB0.out.trans (hc1.below (fun k hk => ⟨Nat.lt_of_lt_of_le hk HB0.out.size, fun hm => by have := H0.out.lowM k hm; omega⟩))
    have he1 := HE0.out.chg hc1 H0.out.lowM
    have hr1 : W1.heap[w.heap.size + 1]? = some (.cells #[.slice none 0 0, .int .i64 0] 29 (0, 0)) := hc1.obj HR0.out (fun hm => by
      rcases (H0.out.fm hm).2 with h | h
      · exact absurd (h.one (Tag.of HR0.out)) (by decide)
      · exact absurd (h.one (Tag.of HR0.out)) (by decide))
    have hrf : RFeed W1 (w.heap.size + 1) (.slice none 0 0) [] := ⟨by rw [refEv_nil]; exact hr1, ⟨none, 0, rfl, Nat.le_refl _, by unfold maxLen; omega, fun _ => rfl, .inl rfl⟩⟩
    obtain ⟨a1, rfl⟩ : ∃ a, ov1 = .slice a L1.length L1.length := hcut1.1
    have hrow1 : EvRow W1 (.slice a1 L1.length L1.length) L1 := ⟨hcut1.2.1, hkw1⟩
    obtain ⟨ah, ch, rfl⟩ := row_slice hf1.held
    have HRIN := Lib.hid (refIn_any hrf (HBR.out.below hb1) (by show 0 + bl.length < _; omega))
    have HT1 := Lib.hid (show Tag W1 (w.heap.size + 1) 29 from Tag.of hr1)
    have H1 := Lib.hid hf1
    have HE1 := Lib.hid he1
    have HB1 := Lib.hid hb1
    have HW1 := Lib.hid hrow1
    have HEV1 := Lib.hid hev1
    clear hf1 hc1 hb1 he1 hr1 hrf hcut1 hkw1 hrow1 hev1 H0 HE0 HB0 HR0 HLEFT0 HBL
    go_wp2_with fail
    refine HRIN.out.mono ?_
    rintro e W2 ⟨v2, L2, b2, rfl, hrow2, hev2, hrf2, -, hc2⟩
    have hnt : ∀ k, k = w.heap.size + 1 → ∀ t, t ≠ 29 → ¬ Tag W1 k t := fun k hk t ht h => by subst hk; exact ht (h.one HT1.out)
    have hw2 := HW1.out.kept hc2 (fun k hk => ⟨hnt k hk _ (by decide), hnt k hk _ (by decide)⟩)
    have hbx2 := H1.out.box.kept hc2 (fun e => hnt _ e _ (by decide) H1.out.box.tag)
    have he2 := HE1.out.chg hc2 (fun k hk => by omega)
    have hb2 := HB1.out.trans (hc2.below (fun k hk => ⟨Nat.lt_of_lt_of_le hk HB1.out.size, fun e => by omega⟩))
    have hfa := feed_all bl
    have hm : L1.map (·.2) = L2.map (·.2) := by rw [HEV1.out, hev2, refEv_nil]; exact hfa.1
    have HS := Lib.hid (same30_any hw2 hrow2 hm (by rw [HEV1.out]; exact run_none bl fNew))
    have HBX := Lib.hid hbx2
    have HRF := Lib.hid hrf2
    have HE2 := Lib.hid he2
    have HB2 := Lib.hid hb2
    have HFA := Lib.hid hfa
    clear hrow2 hev2 hrf2 hc2 hnt hw2 hbx2 he2 hb2 hfa hm HRIN HT1 H1 HE1 HB1 HW1 HEV1
    go_wp2_with fail
    refine HS.out.mono ?_
    rintro e W3 ⟨rfl, hb3⟩
    have hbx3 := HBX.out.kept (M := fun _ => False) (Chg.of_below hb3) (fun e => e)
    have hrf3 : RFeed W3 (w.heap.size + 1) b2 ([] ++ bl) := ⟨by rw [hb3.block _ (Array.getElem?_eq_some_iff.1 HRF.out.1).1]; exact HRF.out.1, HRF.out.2.below hb3⟩
    have he3 := HE2.out.chg (M := fun _ => False) (Chg.of_below hb3) (fun _ e => e.elim)
    have hb03 := HB2.out.trans (hb3.mono HB2.out.size)
    have hsmall : (runF fNew bl).1.held.length ≤ 3000 := by
      have := heldF_run bl fNew
      have h0 : fNew.held.length = 0 := rfl
      omega
    have HH := Lib.hid hbx3
    obtain ⟨N, hN⟩ : ∃ N : Int, N = (((refEv bl).2 : Nat) : Int) := ⟨_, rfl⟩
    have hlf : ∀ (ha : Option Addr) (hc : Nat) (ks : Value), FeedBox W3 w.heap.size 46 [] ((runF fNew bl).1.way : Int) (.slice ha (runF fNew bl).1.held.length hc) ks (runF fNew bl).1.cmd ((runF fNew bl).1.many : Int) →
        Calls Tryz.prog 17 #[.pointer (some ⟨w.heap.size, 0, none⟩)] W3 fun e w' => e = .returned (.int .i64 N) ∧ W3 = w' := fun ha hc ks hx => by
      have h := left_any hx (by omega)
      rw [hN, ← HFA.out.2]
      exact h
    have hleft := hlf _ _ _ HH.out
    have HLEFT := Lib.hid hleft
    have hrl := refLeft_any hrf3 (by show ([] ++ bl).length < _; rw [List.nil_append]; omega)
    rw [List.nil_append, ← hN] at hrl
    have HRL := Lib.hid hrl
    have HE3 := Lib.hid he3
    have HB3 := Lib.hid hb03
    clear hbx3 hrf3 he3 hb03 hsmall HH hN hlf hleft hrl hb3 HS HBX HRF HE2 HB2 HFA
    go_wp2_with fail
    refine HLEFT.out.mono ?_
    rintro e W3' ⟨rfl, rfl⟩
    go_wp2_with fail
    refine HRL.out.mono ?_
    rintro e W4 ⟨rfl, hb4⟩
    have he4 := HE3.out.chg (M := fun _ => False) (Chg.of_below hb4) (fun _ e => e.elim)
    have HB4 := Lib.hid (HB3.out.trans (hb4.mono HB3.out.size))
    have hlv := lives30 W4 he4.len he4.err
    have HLV := Lib.hid hlv
    clear hb4 he4 hlv HRL HLEFT HE3 HB3
    go_wp2_with fail
    refine HLV.out.mono ?_
    rintro e w9 ⟨rfl, hb⟩
    have HB := Lib.hid (HB4.out.trans (hb.mono HB4.out.size))
    clear hb
    go_wp2_with fail
    go_ret
    exact ⟨rfl, HB.out⟩
end Go.Proofs.YtahpjhnbjkjkiaaGreatDoor
