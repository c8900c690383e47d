/- The document's epochs (nestboxref07). No condition. Whether an epoch may come, as the document has it. Condition: the document's map lies behind its pointer. -/
import Derived.Test.YtaooangnnlopcaaGreatDoorMapsVerbs
import Derived.Test.YtaooangnnlopcaaGreatDoorLowA
import Derived.Test.YtaooangnnlopcaaGreatDoorMaA
namespace Go.Proofs.YtaooangnnlopcaaGreatDoor
open Go.RowKit Go.ChangeMaps Go.MapKept
theorem i64_nat (n : Nat) (h : n < 9223372036854775808) : IntKind.i64.wrap (n : Int) = (n : Int) := IntWalk.i64_in _ (by omega)
theorem u64_nat (n : Nat) (h : n < 18446744073709551616) : IntKind.u64.wrap (n : Int) = (n : Int) := by rw [IntKind.wrap_u64]; omega
set_option maxRecDepth 100000 in
theorem rNow_any (ep : Nat) (w : World) : Calls Tryz.prog 84 #[.int .u64 (ep : Int)] w fun e w' => e = .returned (.int .i64 (nowE ep : Int)) ∧ w = w' := by
  have q1 : (ep : Int) % 16777216 = (nowE ep : Int) := by unfold nowE; omega
  have q2 : (ep : Int).tmod 16777216 = (nowE ep : Int) := by rw [Int.tmod_eq_emod_of_nonneg (by omega)]; exact q1
  have w1 := wrap64_nat (nowE ep) (by have := now_lt ep; omega)
  have w2 := i64_nat (nowE ep) (by have := now_lt ep; omega)
  generalize nowE ep = n at *
  go_enter Tryz.func84, Tryz.ntmps84
  go_wp2_with fail
  go_ret
  exact ⟨by first | rfl | rw [w1] | rw [w2], rfl⟩
set_option maxRecDepth 100000 in
theorem rAt_any (ep : Nat) (h : ep < 18446744073709551616) (w : World) : Calls Tryz.prog 85 #[.int .u64 (ep : Int)] w fun e w' => e = .returned (.int .i64 (atE ep : Int)) ∧ w = w' := by
  obtain ⟨d, hd⟩ : ∃ d, d = ep / 16777216 := ⟨_, rfl⟩
  have p1 : (ep : Int) / 16777216 = (d : Int) := by omega
  have p2 : (ep : Int).tdiv 16777216 = (d : Int) := by rw [Int.tdiv_eq_ediv_of_nonneg (by omega)]; exact p1
  have q1 : (d : Int) % 16777216 = (atE ep : Int) := by unfold atE; omega
  have q2 : (d : Int).tmod 16777216 = (atE ep : Int) := by rw [Int.tmod_eq_emod_of_nonneg (by omega)]; exact q1
  have w1 := wrap64_nat (atE ep) (by have := at_lt ep; omega)
  have w2 := i64_nat (atE ep) (by have := at_lt ep; omega)
  have u1 := u64_nat d (by omega)
  clear hd
  generalize atE ep = n at *
  go_enter Tryz.func85, Tryz.ntmps85
  go_wp2_with fail
  go_ret
  exact ⟨by first | rfl | rw [w1] | rw [w2], rfl⟩
set_option maxRecDepth 100000 in
theorem rGen_any (ep : Nat) (h : ep < 18446744073709551616) (w : World) : Calls Tryz.prog 86 #[.int .u64 (ep : Int)] w fun e w' => e = .returned (.int .i64 (genE ep : Int)) ∧ w = w' := by
  obtain ⟨d, hd⟩ : ∃ d, d = ep / 16777216 := ⟨_, rfl⟩
  have p1 : (ep : Int) / 16777216 = (d : Int) := by omega
  have p2 : (ep : Int).tdiv 16777216 = (d : Int) := by rw [Int.tdiv_eq_ediv_of_nonneg (by omega)]; exact p1
  have q1 : (d : Int) / 16777216 = (genE ep : Int) := by unfold genE; omega
  have q2 : (d : Int).tdiv 16777216 = (genE ep : Int) := by rw [Int.tdiv_eq_ediv_of_nonneg (by omega)]; exact q1
  have w1 := wrap64_nat (genE ep) (by have := gen_lt h; omega)
  have w2 := i64_nat (genE ep) (by have := gen_lt h; omega)
  have u1 := u64_nat d (by omega)
  have u2 := u64_nat (genE ep) (by have := gen_lt h; omega)
  clear hd
  generalize genE ep = n at *
  go_enter Tryz.func86, Tryz.ntmps86
  go_wp2_with fail
  go_ret
  exact ⟨by first | rfl | rw [w1] | rw [w2], rfl⟩
set_option maxRecDepth 100000 in
theorem rPut_any (n a g : Nat) (hn : n < 9223372036854775808) (ha : a < 9223372036854775808) (hg : g < 9223372036854775808) (w : World) : Calls Tryz.prog 87 #[.int .i64 (n : Int), .int .i64 (a : Int), .int .i64 (g : Int)] w fun e w' => e = .returned (.int .u64 (putE n a g : Int)) ∧ w = w' := by
  have u1 := u64_nat n (by omega)
  have u2 := u64_nat a (by omega)
  have u3 := u64_nat g (by omega)
  obtain ⟨n1, hn1⟩ : ∃ k, k = n % 16777216 := ⟨_, rfl⟩
  obtain ⟨a1, ha1⟩ : ∃ k, k = a % 16777216 := ⟨_, rfl⟩
  obtain ⟨g1, hg1⟩ : ∃ k, k = g % 65536 := ⟨_, rfl⟩
  have hp : putE n a g = (g1 * 16777216 + a1) * 16777216 + n1 := by rw [hn1, ha1, hg1]; rfl
  have b1 : n1 < 16777216 := by omega
  have b2 : a1 < 16777216 := by omega
  have b3 : g1 < 65536 := by omega
  have p1 : (n : Int) % 16777216 = (n1 : Int) := by omega
  have p2 : (n : Int).tmod 16777216 = (n1 : Int) := by rw [Int.tmod_eq_emod_of_nonneg (by omega)]; exact p1
  have q1 : (a : Int) % 16777216 = (a1 : Int) := by omega
  have q2 : (a : Int).tmod 16777216 = (a1 : Int) := by rw [Int.tmod_eq_emod_of_nonneg (by omega)]; exact q1
  have r1 : (g : Int) % 65536 = (g1 : Int) := by omega
  have r2 : (g : Int).tmod 65536 = (g1 : Int) := by rw [Int.tmod_eq_emod_of_nonneg (by omega)]; exact r1
  have s1 : IntKind.u64.wrap ((g1 : Int) * 16777216) = (g1 : Int) * 16777216 := by rw [IntKind.wrap_u64]; omega
  have s2 : IntKind.u64.wrap ((g1 : Int) * 16777216 + (a1 : Int)) = (g1 : Int) * 16777216 + (a1 : Int) := by rw [IntKind.wrap_u64]; omega
  have s3 : IntKind.u64.wrap (((g1 : Int) * 16777216 + (a1 : Int)) * 16777216) = ((g1 : Int) * 16777216 + (a1 : Int)) * 16777216 := by rw [IntKind.wrap_u64]; omega
  have s4 : IntKind.u64.wrap (((g1 : Int) * 16777216 + (a1 : Int)) * 16777216 + (n1 : Int)) = ((g1 : Int) * 16777216 + (a1 : Int)) * 16777216 + (n1 : Int) := by rw [IntKind.wrap_u64]; omega
  have hp2 : (putE n a g : Int) = ((g1 : Int) * 16777216 + (a1 : Int)) * 16777216 + (n1 : Int) := by rw [hp]; omega
  rw [hp2]
  clear hp hp2 hn1 ha1 hg1 b1 b2 b3 hn ha hg
  go_enter Tryz.func87, Tryz.ntmps87
  go_wp2_with fail
  go_ret
  exact ⟨by first | rfl | rw [s4], rfl⟩
set_option maxRecDepth 100000 in
theorem rTick_any (ep : Nat) (h : ep < 18446744073709551616) (w : World) : Calls Tryz.prog 88 #[.int .u64 (ep : Int)] w fun e w' => e = .returned (.int .u64 (tickE ep : Int)) ∧ w = w' := by
  have HN := Lib.hid (rNow_any ep w)
  have HA := Lib.hid (rAt_any ep h w)
  have HG := Lib.hid (rGen_any ep h w)
  have hn := now_lt ep
  have ha := at_lt ep
  have hg := gen_lt h
  have ht : tickE ep = if 0 < atE ep ∧ atE ep ≤ min (nowE ep + 1) 16777215 then putE (min (nowE ep + 1) 16777215) 0 (min (genE ep + 1) 65535) else putE (min (nowE ep + 1) 16777215) (atE ep) (genE ep) := rfl
  rw [ht]
  clear h ht
  generalize nowE ep = n at *
  generalize atE ep = a at *
  generalize genE ep = g at *
  go_enter Tryz.func88, Tryz.ntmps88
  obtain ⟨n1, hn1⟩ : ∃ k, k = min (n + 1) 16777215 := ⟨_, rfl⟩
  obtain ⟨a1, ha1⟩ : ∃ k, k = if 0 < a ∧ a ≤ n1 then 0 else a := ⟨_, rfl⟩
  obtain ⟨g1, hg1⟩ : ∃ k, k = if 0 < a ∧ a ≤ n1 then min (g + 1) 65535 else g := ⟨_, rfl⟩
  have hpt : putE n1 a1 g1 = if 0 < a ∧ a ≤ min (n + 1) 16777215 then putE (min (n + 1) 16777215) 0 (min (g + 1) 65535) else putE (min (n + 1) 16777215) a g := by
    rw [ha1, hg1, hn1]
    split <;> rfl
  rw [← hpt]
  have HN1 := Lib.hid hn1
  have HA1 := Lib.hid ha1
  have HG1 := Lib.hid hg1
  have HBD := Lib.hid (show n < 16777216 ∧ a < 16777216 ∧ g < 65536 ∧ n1 < 16777216 ∧ a1 < 16777216 ∧ g1 < 65536 from ⟨hn, ha, hg, by omega, by rw [ha1]; split <;> omega, by rw [hg1]; split <;> omega⟩)
  clear hpt hn1 ha1 hg1 hn ha hg
  obtain ⟨N, hN⟩ : ∃ N : Int, N = (n : Int) := ⟨_, rfl⟩
  obtain ⟨G, hG⟩ : ∃ G : Int, G = (g : Int) := ⟨_, rfl⟩
  rw [← hN] at HN
  rw [← hG] at HG
  have HNN := Lib.hid hN
  have HGG := Lib.hid hG
  clear hN hG
  go_wp2_with fail
  refine HN.out.mono ?_
  rintro e w1 ⟨rfl, rfl⟩
  go_wp2_with fail
  refine HA.out.mono ?_
  rintro e w1 ⟨rfl, rfl⟩
  go_wp2_with fail
  refine HG.out.mono ?_
  rintro e w1 ⟨rfl, rfl⟩
  go_upto_region 4 with fail
  go_upto_if 13 with fail
  go_cut [3, 14, 15] (fun s3 _ _ wx => s3 = .int .i64 (n1 : Int) ∧ wx = w)
  case first =>
    by_cases hlt : n < 16777215
    · have d1 : decide (N < 16777215) = true := by rw [HNN.out, decide_eq_true_eq]; omega
      have w1 : wrap64 (N + 1) = (n1 : Int) := by have h1 := HN1.out; rw [HNN.out, IntWalk.wrap64_in _ (by omega)]; omega
      clear hlt
      rw [d1]
      go_wp2_with fail
      go_meet
      case rel => exact ⟨by first | rfl | rw [w1], rfl⟩
    · have d1 : decide (N < 16777215) = false := by rw [HNN.out, decide_eq_false_iff_not]; omega
      have HNE := Lib.hid (show N = (n1 : Int) by have h1 := HN1.out; have := HBD.out; have := HNN.out; omega)
      clear hlt
      rw [d1]
      go_wp2_with fail
      go_meet
      case rel => exact ⟨congrArg _ HNE.out, rfl⟩
  case rest =>
    obtain ⟨rfl, rfl⟩ := hcut
    obtain ⟨W, rfl⟩ : ∃ X, X = wc := ⟨_, rfl⟩
    go_upto_region 6 with fail
    obtain ⟨cb, hcb⟩ : ∃ b, b = decide (0 < a ∧ a ≤ n1) := ⟨_, rfl⟩
    have HCB := Lib.hid hcb
    clear hcb
    go_cut [22] (fun s22 wx => s22 = .bool cb ∧ wx = W)
    case first =>
      by_cases h0 : 0 < a
      · have d1 : decide (0 < a) = true := by rw [decide_eq_true_eq]; omega
        by_cases h2 : a ≤ n1
        · have d2 : decide (a ≤ n1) = true := by rw [decide_eq_true_eq]; omega
          have hc2 : cb = true := by rw [HCB.out, decide_eq_true_eq]; omega
          clear h0 h2 HCB
          subst hc2
          go_wp2_with fail
          go_meet
          case rel => exact ⟨rfl, rfl⟩
        · have d2 : decide (a ≤ n1) = false := by rw [decide_eq_false_iff_not]; omega
          have hc2 : cb = false := by rw [HCB.out, decide_eq_false_iff_not]; omega
          clear h0 h2 HCB
          subst hc2
          go_wp2_with fail
          go_meet
          case rel => exact ⟨rfl, rfl⟩
      · have d1 : decide (0 < a) = false := by rw [decide_eq_false_iff_not]; omega
        have hc2 : cb = false := by rw [HCB.out, decide_eq_false_iff_not]; omega
        clear h0 HCB
        subst hc2
        go_wp2_with fail
        go_meet
        case rel => exact ⟨rfl, rfl⟩
    case rest =>
      obtain ⟨rfl, rfl⟩ := hcut
      obtain ⟨W, rfl⟩ : ∃ X, X = wc := ⟨_, rfl⟩
      go_upto_if 22 with fail
      go_cut [4, 5, 23, 24, 25, 26] (fun s4 s5 _ _ _ _ wx => s4 = .int .i64 (a1 : Int) ∧ s5 = .int .i64 (g1 : Int) ∧ wx = W)
      case first =>
        cases cb
        · have hc : ¬ (0 < a ∧ a ≤ n1) := fun h => by have := HCB.out; rw [decide_eq_true h] at this; cases this
          have h1 := HA1.out
          have h2 := HG1.out
          rw [if_neg hc] at h1 h2
          have H1 := Lib.hid h1
          have H2 := Lib.hid (HGG.out.trans (congrArg Int.ofNat h2).symm)
          clear h1 h2 hc
          go_wp2_with fail
          go_meet
          case rel => exact ⟨by rw [H1.out], congrArg _ H2.out, rfl⟩
        · have hc : 0 < a ∧ a ≤ n1 := by have := HCB.out; exact of_decide_eq_true this.symm
          have h1 := HA1.out
          have h2 := HG1.out
          rw [if_pos hc] at h1 h2
          have H1 := Lib.hid h1
          have H2 := Lib.hid h2
          clear h1 h2 hc
          by_cases hlt : g < 65535
          · have d2 : decide (G < 65535) = true := by rw [HGG.out, decide_eq_true_eq]; omega
            have w1 : wrap64 (G + 1) = (g1 : Int) := by have h1 := H2.out; rw [HGG.out, IntWalk.wrap64_in _ (by omega)]; omega
            clear hlt
            go_wp2_with fail
            go_meet
            case rel => exact ⟨by rw [H1.out]; rfl, by first | rfl | rw [w1], rfl⟩
          · have d2 : decide (G < 65535) = false := by rw [HGG.out, decide_eq_false_iff_not]; omega
            have HG2 := Lib.hid (show G = (g1 : Int) by have h1 := H2.out; have := HBD.out; have := HGG.out; omega)
            clear hlt
            go_wp2_with fail
            go_meet
            case rel => exact ⟨by rw [H1.out]; rfl, congrArg _ HG2.out, rfl⟩
      case rest =>
        obtain ⟨rfl, rfl, rfl⟩ := hcut
        obtain ⟨W, rfl⟩ : ∃ X, X = wc := ⟨_, rfl⟩
        go_wp2_with fail
        have hbd := HBD.out
        refine (rPut_any n1 a1 g1 (by omega) (by omega) (by omega) _).mono ?_
        rintro e w1 ⟨rfl, rfl⟩
        clear hbd
        go_wp2_with fail
        go_ret
        exact ⟨rfl, rfl⟩
/-- A flush as the document has it. -/
theorem flushE_parts (ep : Nat) (d : Int) : flushE ep d = if genE ep = 65535 then (ep, false) else if d < 1 then (putE (nowE ep) 0 (genE ep + 1), true) else (putE (nowE ep) (if d < 16777215 - (nowE ep : Int) then nowE ep + d.toNat else 16777215) (genE ep), true) := by
  have hn := now_lt ep
  unfold flushE
  split
  · rfl
  · by_cases h : 0 < d
    · rw [if_pos h, if_neg (by omega)]
      congr 2
      split <;> omega
    · rw [if_neg h, if_pos (by omega)]
set_option maxRecDepth 100000 in
theorem rFlush_any (ep : Nat) (h : ep < 18446744073709551616) (d : Int) (hd : -9223372036854775808 ≤ d ∧ d ≤ 9223372036854775807) (w : World) : Calls Tryz.prog 54 #[.int .u64 (ep : Int), .int .i64 d] w fun e w' => e = .returned (.tuple #[.int .u64 ((flushE ep d).1 : Int), .bool (flushE ep d).2]) ∧ w = w' := by
  have HN := Lib.hid (rNow_any ep w)
  have HG := Lib.hid (rGen_any ep h w)
  have hn := now_lt ep
  have hg := gen_lt h
  rw [flushE_parts]
  clear h
  generalize nowE ep = n at *
  generalize genE ep = g at *
  have HBD := Lib.hid (And.intro hn hg)
  by_cases hge : g = 65535
  · rw [if_pos hge]
    have e1 : ((g : Int) == 65535) = true := by rw [hge]; rfl
    clear hge hn hg hd
    go_enter Tryz.func54, Tryz.ntmps54
    go_wp2_with fail
    refine HN.out.mono ?_
    rintro e w1 ⟨rfl, rfl⟩
    go_wp2_with fail
    refine HG.out.mono ?_
    rintro e w1 ⟨rfl, rfl⟩
    go_wp2_with fail
    go_ret2
    exact ⟨rfl, rfl⟩
  · rw [if_neg hge]
    have e1 : ((g : Int) == 65535) = false := by rw [beq_eq_false_iff_ne]; omega
    clear hge
    by_cases h1 : d < 1
    · have d1 : decide (d < 1) = true := decide_eq_true h1
      rw [if_pos h1]
      clear h1 hd
      have w1 : wrap64 ((g : Int) + 1) = ((g + 1 : Nat) : Int) := by rw [IntWalk.wrap64_in _ (by omega)]; omega
      have w2 : IntKind.i64.wrap ((g : Int) + 1) = ((g + 1 : Nat) : Int) := by rw [IntWalk.i64_in _ (by omega)]; omega
      clear hn hg
      go_enter Tryz.func54, Tryz.ntmps54
      go_wp2_with fail
      refine HN.out.mono ?_
      rintro e w1 ⟨rfl, rfl⟩
      go_wp2_with fail
      refine HG.out.mono ?_
      rintro e w1 ⟨rfl, rfl⟩
      go_wp2_with fail
      refine HG.out.mono ?_
      rintro e w1 ⟨rfl, rfl⟩
      go_wp2_with fail
      refine (rPut_any n 0 (g + 1) (by have := HBD.out; omega) (by have := HBD.out; omega) (by have := HBD.out; omega) _).mono ?_
      rintro e w1 ⟨rfl, rfl⟩
      go_wp2_with fail
      go_ret2
      exact ⟨rfl, rfl⟩
    · have d1 : decide (d < 1) = false := decide_eq_false h1
      rw [if_neg h1]
      have v1 : wrap64 (16777215 - (n : Int)) = 16777215 - (n : Int) := IntWalk.wrap64_in _ (by omega)
      have v2 : IntKind.i64.wrap (16777215 - (n : Int)) = 16777215 - (n : Int) := IntWalk.i64_in _ (by omega)
      by_cases h2 : d < 16777215 - (n : Int)
      · have d2 : decide (d < 16777215 - (n : Int)) = true := decide_eq_true h2
        rw [if_pos h2]
        obtain ⟨t, ht⟩ : ∃ t, t = n + d.toNat := ⟨_, rfl⟩
        rw [← ht]
        have w1 : wrap64 ((n : Int) + d) = (t : Int) := by rw [IntWalk.wrap64_in _ (by omega)]; omega
        have w2 : IntKind.i64.wrap ((n : Int) + d) = (t : Int) := by rw [IntWalk.i64_in _ (by omega)]; omega
        have ht2 : t < 16777216 := by omega
        have HT2 := Lib.hid ht2
        clear h1 h2 ht ht2 hn hg hd
        go_enter Tryz.func54, Tryz.ntmps54
        go_wp2_with fail
        refine HN.out.mono ?_
        rintro e w1 ⟨rfl, rfl⟩
        go_wp2_with fail
        refine HG.out.mono ?_
        rintro e w1 ⟨rfl, rfl⟩
        go_wp2_with fail
        refine HG.out.mono ?_
        rintro e w1 ⟨rfl, rfl⟩
        go_wp2_with fail
        refine (rPut_any n t g (by have := HBD.out; omega) (by have := HT2.out; omega) (by have := HBD.out; omega) _).mono ?_
        rintro e w1 ⟨rfl, rfl⟩
        go_wp2_with fail
        go_ret2
        exact ⟨rfl, rfl⟩
      · have d2 : decide (d < 16777215 - (n : Int)) = false := decide_eq_false h2
        rw [if_neg h2]
        clear h1 h2 hn hg hd
        go_enter Tryz.func54, Tryz.ntmps54
        go_wp2_with fail
        refine HN.out.mono ?_
        rintro e w1 ⟨rfl, rfl⟩
        go_wp2_with fail
        refine HG.out.mono ?_
        rintro e w1 ⟨rfl, rfl⟩
        go_wp2_with fail
        refine HG.out.mono ?_
        rintro e w1 ⟨rfl, rfl⟩
        go_wp2_with fail
        refine (rPut_any n 16777215 g (by have := HBD.out; omega) (by have := HBD.out; omega) (by have := HBD.out; omega) _).mono ?_
        rintro e w1 ⟨rfl, rfl⟩
        go_wp2_with fail
        go_ret2
        exact ⟨rfl, rfl⟩
set_option maxRecDepth 100000 in
theorem rDies_any (ep : Nat) (x : Int) (hx : -9223372036854775808 ≤ x ∧ x ≤ 9223372036854775807) (w : World) : Calls Tryz.prog 90 #[.int .u64 (ep : Int), .int .i64 x] w fun e w' => e = .returned (.int .i64 (diesE ep x)) ∧ w = w' := by
  have HN := Lib.hid (rNow_any ep w)
  have hn := now_lt ep
  unfold diesE
  generalize nowE ep = n at *
  by_cases h0 : x = 0
  · subst h0
    rw [if_pos rfl]
    clear hn hx
    go_enter Tryz.func90, Tryz.ntmps90
    go_wp2_with fail
    go_ret
    exact ⟨rfl, rfl⟩
  · rw [if_neg h0]
    have e0 : (x == 0) = false := beq_eq_false_iff_ne.2 h0
    by_cases h1 : x < 0
    · have d1 : decide (x < 0) = true := decide_eq_true h1
      rw [if_pos h1]
      clear h0 h1 hn hx
      go_enter Tryz.func90, Tryz.ntmps90
      go_wp2_with fail
      refine HN.out.mono ?_
      rintro e w1 ⟨rfl, rfl⟩
      go_wp2_with fail
      go_ret
      exact ⟨rfl, rfl⟩
    · have d1 : decide (x < 0) = false := decide_eq_false h1
      rw [if_neg h1]
      by_cases h2 : x ≤ 2592000
      · have d2 : decide (x ≤ 2592000) = true := decide_eq_true h2
        have w1 : wrap64 ((n : Int) + x) = (n : Int) + x := IntWalk.wrap64_in _ (by omega)
        have w2 : IntKind.i64.wrap ((n : Int) + x) = (n : Int) + x := IntWalk.i64_in _ (by omega)
        rw [if_pos h2]
        clear h0 h1 h2 hn hx
        go_enter Tryz.func90, Tryz.ntmps90
        go_wp2_with fail
        refine HN.out.mono ?_
        rintro e w1 ⟨rfl, rfl⟩
        go_wp2_with fail
        go_ret
        exact ⟨by first | rfl | rw [w1] | rw [w2], rfl⟩
      · have d2 : decide (x ≤ 2592000) = false := decide_eq_false h2
        rw [if_neg h2]
        clear h0 h1 h2 hn hx
        go_enter Tryz.func90, Tryz.ntmps90
        go_wp2_with fail
        go_ret
        exact ⟨rfl, rfl⟩
set_option maxRecDepth 100000 in
set_option maxHeartbeats 4000000 in
theorem rAlive_any (x : ItemD) (ep : Nat) (h : ep < 18446744073709551616) (w : World) : Calls Tryz.prog 52 #[x.val, .int .u64 (ep : Int)] w fun e w' => e = .returned (.bool (aliveE x ep)) ∧ Below w.heap.size w w' := by
  have HN := Lib.hid (fun W => rNow_any ep W)
  have HG := Lib.hid (fun W => rGen_any ep h W)
  unfold aliveE
  obtain ⟨N, hN⟩ : ∃ N : Int, N = (nowE ep : Int) := ⟨_, rfl⟩
  obtain ⟨G, hG⟩ : ∃ G : Int, G = (genE ep : Int) := ⟨_, rfl⟩
  rw [← hN] at HN ⊢
  rw [← hG] at HG ⊢
  clear hN hG h
  obtain ⟨K, V, F, I, D, X⟩ := x
  show Calls Tryz.prog 52 #[.agg #[.string K, .string V, .int .u32 F, .int .u64 I, .int .i64 D, .int .i64 X], .int .u64 (ep : Int)] w fun e w' => e = .returned (.bool ((D == -1 || decide (N < D)) && X == G)) ∧ Below w.heap.size w w'
  go_enter Tryz.func52, Tryz.ntmps52
  go_upto_region 1 with fail
  obtain ⟨W0, hW0⟩ : ∃ Y, Y = w.alloc (.cells #[.string K, .string V, .int .u32 F, .int .u64 I, .int .i64 D, .int .i64 X] 38) := ⟨_, rfl⟩
  have hb0 : Below w.heap.size w W0 := by rw [hW0]; exact (Below.refl _ _).alloc (Nat.le_refl _) _
  have hx0 : W0.heap[w.heap.size]? = some (.cells #[.string K, .string V, .int .u32 F, .int .u64 I, .int .i64 D, .int .i64 X] 38 (0, 0)) := by rw [hW0, heap_at, if_pos rfl]
  rw [← hW0]
  have x4 : W0.cell? ⟨w.heap.size, 4, none⟩ = some (.int .i64 D) := (cells_at hx0 4).1
  have x5 : W0.cell? ⟨w.heap.size, 5, none⟩ = some (.int .i64 X) := (cells_at hx0 5).1
  have HB0 := Lib.hid hb0
  clear hW0 hb0 hx0
  go_cut [4] (fun s4 wx => s4 = .bool ((D == -1 || decide (N < D)) && X == G) ∧ Below w.heap.size w wx)
  case first =>
    cases h1 : (X == G)
    · skip
      refine wp_region_held_drew (S := fun W => W.cell? ⟨w.heap.size, 4, none⟩ = some (.int .i64 D) ∧ W.cell? ⟨w.heap.size, 5, none⟩ = some (.int .i64 X) ∧ Below w.heap.size w W) (by kernel_rfl) ⟨x4, x5, bdrew HB0.out⟩ (fun hHeld => ?_)
      refine tkq (i := 0) (v := ?_) rfl (by kernel_rfl) (fun _ _ _ h => h) (by rfl) ?_ (by assumption) ?_
      rotate_left 1
      · ((intro w hSw; (try dsimp only at hSw); go_simp) <;> with_reducible rfl)
      try simp only [Act.put, tzA, tzB, tzC, tzD, tzE]
      refine tkq (i := 1) (v := ?_) rfl (by kernel_rfl) (fun _ _ _ h => h) (by rfl) ?_ (by assumption) ?_
      rotate_left 1
      · ((intro w hSw; (try dsimp only at hSw); go_simp) <;> with_reducible rfl)
      try simp only [Act.put, tzA, tzB, tzC, tzD, tzE, tzF]
      refine tkq (i := 2) (v := ?_) rfl (by kernel_rfl) (fun _ _ _ h => h) (by rfl) ?_ (by assumption) ?_
      rotate_left 1
      · ((intro w hSw; (try dsimp only at hSw); go_simp) <;> with_reducible rfl)
      try simp only [Act.put, tzA, tzB, tzC, tzD, tzE, tzF]
      refine wpAnyH_ready (rs := [3]) (by kernel_rfl) (by simp) ?_
      refine AllReadyH.cons rfl (fun K hK => ?_) AllReadyH.nil
      go_simp
      go_at_call 86
      refine (HG.out _).mono ?_
      rintro e V3 ⟨rfl, rfl⟩
      refine hK.out _ _ ⟨x4, x5, bdrew HB0.out⟩ (fun hHeld2 => ?_)
      clear hK K
      try simp only [Act.put, tzA, tzB, tzC, tzD, tzE, tzF]
      refine tkq (i := 4) (v := ?_) rfl (by kernel_rfl) (fun _ _ _ h => h) (by rfl) ?_ (by assumption) ?_
      rotate_left 1
      · ((intro w hSw; (try dsimp only at hSw); go_simp) <;> with_reducible rfl)
      try simp only [Act.put, tzA, tzB, tzC, tzD, tzE, tzF]
      refine tkq (i := 5) (v := ?_) rfl (by kernel_rfl) (fun _ _ _ h => h) (by rfl) ?_ (by assumption) ?_
      rotate_left 1
      · ((intro w hSw; (try dsimp only at hSw); go_simp) <;> with_reducible rfl)
      try simp only [Act.put, tzA, tzB, tzC, tzD, tzE, tzF]
      refine tkn (i := 6) rfl (by kernel_rfl) (fun _ _ _ h => h) (by rfl) (by assumption) ?_
      try simp only [Act.put, tzA, tzB, tzC, tzD, tzE, tzF]
      refine tkn (i := 7) rfl (by kernel_rfl) (fun _ _ _ h => h) (by rfl) (by assumption) ?_
      try simp only [Act.put, tzA, tzB, tzC, tzD, tzE, tzF]
      refine tkn (i := 8) rfl (by kernel_rfl) (fun _ _ _ h => h) (by rfl) (by assumption) ?_
      try simp only [Act.put, tzA, tzB, tzC, tzD, tzE, tzF]
      refine tkn (i := 9) rfl (by kernel_rfl) (fun _ _ _ h => h) (by rfl) (by assumption) ?_
      try simp only [Act.put, tzA, tzB, tzC, tzD, tzE, tzF]
      refine tkn (i := 10) rfl (by kernel_rfl) (fun _ _ _ h => h) (by rfl) (by assumption) ?_
      try simp only [Act.put, tzA, tzB, tzC, tzD, tzE, tzF]
      refine tkn (i := 11) rfl (by kernel_rfl) (fun _ _ _ h => h) (by rfl) (by assumption) ?_
      try simp only [Act.put, tzA, tzB, tzC, tzD, tzE, tzF]
      refine tkn (i := 12) rfl (by kernel_rfl) (fun _ _ _ h => h) (by rfl) (by assumption) ?_
      try simp only [Act.put, tzA, tzB, tzC, tzD, tzE, tzF]
      refine tkn (i := 13) rfl (by kernel_rfl) (fun _ _ _ h => h) (by rfl) (by assumption) ?_
      try simp only [Act.put, tzA, tzB, tzC, tzD, tzE, tzF]
      refine tkn (i := 14) rfl (by kernel_rfl) (fun _ _ _ h => h) (by rfl) (by assumption) ?_
      try simp only [Act.put, tzA, tzB, tzC, tzD, tzE, tzF]
      refine tkn (i := 15) rfl (by kernel_rfl) (fun _ _ _ h => h) (by rfl) (by assumption) ?_
      try simp only [Act.put, tzA, tzB, tzC, tzD, tzE, tzF]
      refine tkq (i := 16) (v := ?_) rfl (by kernel_rfl) (fun _ _ _ h => h) (by rfl) ?_ (by assumption) ?_
      rotate_left 1
      · ((intro w hSw; (try dsimp only at hSw); go_simp) <;> with_reducible rfl)
      try simp only [Act.put, tzA, tzB, tzC, tzD, tzE, tzF]
      refine tkq (i := 17) (v := ?_) rfl (by kernel_rfl) (fun _ _ _ h => h) (by rfl) ?_ (by assumption) ?_
      rotate_left 1
      · ((intro w hSw; (try dsimp only at hSw); go_simp) <;> with_reducible rfl)
      try simp only [Act.put, tzA, tzB, tzC, tzD, tzE, tzF]
      refine wpAnyH_done (by kernel_rfl) ?_ _
      clear hHeld
      go_wp2_with fail
      go_meet
      case rel => exact ⟨by rw [h1, Bool.and_false], bdrew HB0.out⟩
    · cases h2 : (D == -1)
      · skip
        refine wp_region_held_drew (S := fun W => W.cell? ⟨w.heap.size, 4, none⟩ = some (.int .i64 D) ∧ W.cell? ⟨w.heap.size, 5, none⟩ = some (.int .i64 X) ∧ Below w.heap.size w W) (by kernel_rfl) ⟨x4, x5, bdrew HB0.out⟩ (fun hHeld => ?_)
        refine tkq (i := 0) (v := ?_) rfl (by kernel_rfl) (fun _ _ _ h => h) (by rfl) ?_ (by assumption) ?_
        rotate_left 1
        · ((intro w hSw; (try dsimp only at hSw); go_simp) <;> with_reducible rfl)
        try simp only [Act.put, tzA, tzB, tzC, tzD, tzE]
        refine tkq (i := 1) (v := ?_) rfl (by kernel_rfl) (fun _ _ _ h => h) (by rfl) ?_ (by assumption) ?_
        rotate_left 1
        · ((intro w hSw; (try dsimp only at hSw); go_simp) <;> with_reducible rfl)
        try simp only [Act.put, tzA, tzB, tzC, tzD, tzE, tzF]
        refine tkq (i := 2) (v := ?_) rfl (by kernel_rfl) (fun _ _ _ h => h) (by rfl) ?_ (by assumption) ?_
        rotate_left 1
        · ((intro w hSw; (try dsimp only at hSw); go_simp) <;> with_reducible rfl)
        try simp only [Act.put, tzA, tzB, tzC, tzD, tzE, tzF]
        refine wpAnyH_ready (rs := [3]) (by kernel_rfl) (by simp) ?_
        refine AllReadyH.cons rfl (fun K hK => ?_) AllReadyH.nil
        go_simp
        go_at_call 86
        refine (HG.out _).mono ?_
        rintro e V3 ⟨rfl, rfl⟩
        refine hK.out _ _ ⟨x4, x5, bdrew HB0.out⟩ (fun hHeld2 => ?_)
        clear hK K
        try simp only [Act.put, tzA, tzB, tzC, tzD, tzE, tzF]
        refine tkq (i := 4) (v := ?_) rfl (by kernel_rfl) (fun _ _ _ h => h) (by rfl) ?_ (by assumption) ?_
        rotate_left 1
        · ((intro w hSw; (try dsimp only at hSw); go_simp) <;> with_reducible rfl)
        try simp only [Act.put, tzA, tzB, tzC, tzD, tzE, tzF]
        refine tkq (i := 5) (v := ?_) rfl (by kernel_rfl) (fun _ _ _ h => h) (by rfl) ?_ (by assumption) ?_
        rotate_left 1
        · ((intro w hSw; (try dsimp only at hSw); go_simp) <;> with_reducible rfl)
        try simp only [Act.put, tzA, tzB, tzC, tzD, tzE, tzF]
        refine tkq (i := 6) (v := ?_) rfl (by kernel_rfl) (fun _ _ _ h => h) (by rfl) ?_ (by assumption) ?_
        rotate_left 1
        · ((intro w hSw; (try dsimp only at hSw); go_simp) <;> with_reducible rfl)
        try simp only [Act.put, tzA, tzB, tzC, tzD, tzE, tzF]
        refine tkq (i := 7) (v := ?_) rfl (by kernel_rfl) (fun _ _ _ h => h) (by rfl) ?_ (by assumption) ?_
        rotate_left 1
        · ((intro w hSw; (try dsimp only at hSw); go_simp) <;> with_reducible rfl)
        try simp only [Act.put, tzA, tzB, tzC, tzD, tzE, tzF]
        refine tkq (i := 8) (v := ?_) rfl (by kernel_rfl) (fun _ _ _ h => h) (by rfl) ?_ (by assumption) ?_
        rotate_left 1
        · ((intro w hSw; (try dsimp only at hSw); go_simp) <;> with_reducible rfl)
        try simp only [Act.put, tzA, tzB, tzC, tzD, tzE, tzF]
        refine tkq (i := 9) (v := ?_) rfl (by kernel_rfl) (fun _ _ _ h => h) (by rfl) ?_ (by assumption) ?_
        rotate_left 1
        · ((intro w hSw; (try dsimp only at hSw); go_simp) <;> with_reducible rfl)
        try simp only [Act.put, tzA, tzB, tzC, tzD, tzE, tzF]
        refine tkq (i := 10) (v := ?_) rfl (by kernel_rfl) (fun _ _ _ h => h) (by rfl) ?_ (by assumption) ?_
        rotate_left 1
        · ((intro w hSw; (try dsimp only at hSw); go_simp) <;> with_reducible rfl)
        try simp only [Act.put, tzA, tzB, tzC, tzD, tzE, tzF]
        refine tkq (i := 11) (v := ?_) rfl (by kernel_rfl) (fun _ _ _ h => h) (by rfl) ?_ (by assumption) ?_
        rotate_left 1
        · ((intro w hSw; (try dsimp only at hSw); go_simp) <;> with_reducible rfl)
        try simp only [Act.put, tzA, tzB, tzC, tzD, tzE, tzF]
        refine tkq (i := 12) (v := ?_) rfl (by kernel_rfl) (fun _ _ _ h => h) (by rfl) ?_ (by assumption) ?_
        rotate_left 1
        · ((intro w hSw; (try dsimp only at hSw); go_simp) <;> with_reducible rfl)
        try simp only [Act.put, tzA, tzB, tzC, tzD, tzE, tzF]
        refine wpAnyH_ready (rs := [13]) (by kernel_rfl) (by simp) ?_
        refine AllReadyH.cons rfl (fun K hK => ?_) AllReadyH.nil
        go_simp
        go_at_call 84
        refine (HN.out _).mono ?_
        rintro e V13 ⟨rfl, rfl⟩
        refine hK.out _ _ ⟨x4, x5, bdrew HB0.out⟩ (fun hHeld2 => ?_)
        clear hK K
        try simp only [Act.put, tzA, tzB, tzC, tzD, tzE, tzF]
        refine tkq (i := 14) (v := ?_) rfl (by kernel_rfl) (fun _ _ _ h => h) (by rfl) ?_ (by assumption) ?_
        rotate_left 1
        · ((intro w hSw; (try dsimp only at hSw); go_simp) <;> with_reducible rfl)
        try simp only [Act.put, tzA, tzB, tzC, tzD, tzE, tzF]
        refine tkq (i := 15) (v := ?_) rfl (by kernel_rfl) (fun _ _ _ h => h) (by rfl) ?_ (by assumption) ?_
        rotate_left 1
        · ((intro w hSw; (try dsimp only at hSw); go_simp) <;> with_reducible rfl)
        try simp only [Act.put, tzA, tzB, tzC, tzD, tzE, tzF]
        refine tkq (i := 16) (v := ?_) rfl (by kernel_rfl) (fun _ _ _ h => h) (by rfl) ?_ (by assumption) ?_
        rotate_left 1
        · ((intro w hSw; (try dsimp only at hSw); go_simp) <;> with_reducible rfl)
        try simp only [Act.put, tzA, tzB, tzC, tzD, tzE, tzF]
        refine tkq (i := 17) (v := ?_) rfl (by kernel_rfl) (fun _ _ _ h => h) (by rfl) ?_ (by assumption) ?_
        rotate_left 1
        · ((intro w hSw; (try dsimp only at hSw); go_simp) <;> with_reducible rfl)
        try simp only [Act.put, tzA, tzB, tzC, tzD, tzE, tzF]
        refine wpAnyH_done (by kernel_rfl) ?_ _
        clear hHeld
        go_wp2_with fail
        go_meet
        case rel => exact ⟨by rw [h1, h2, Bool.and_true, Bool.false_or], bdrew HB0.out⟩
      · skip
        refine wp_region_held_drew (S := fun W => W.cell? ⟨w.heap.size, 4, none⟩ = some (.int .i64 D) ∧ W.cell? ⟨w.heap.size, 5, none⟩ = some (.int .i64 X) ∧ Below w.heap.size w W) (by kernel_rfl) ⟨x4, x5, bdrew HB0.out⟩ (fun hHeld => ?_)
        refine tkq (i := 0) (v := ?_) rfl (by kernel_rfl) (fun _ _ _ h => h) (by rfl) ?_ (by assumption) ?_
        rotate_left 1
        · ((intro w hSw; (try dsimp only at hSw); go_simp) <;> with_reducible rfl)
        try simp only [Act.put, tzA, tzB, tzC, tzD, tzE]
        refine tkq (i := 1) (v := ?_) rfl (by kernel_rfl) (fun _ _ _ h => h) (by rfl) ?_ (by assumption) ?_
        rotate_left 1
        · ((intro w hSw; (try dsimp only at hSw); go_simp) <;> with_reducible rfl)
        try simp only [Act.put, tzA, tzB, tzC, tzD, tzE, tzF]
        refine tkq (i := 2) (v := ?_) rfl (by kernel_rfl) (fun _ _ _ h => h) (by rfl) ?_ (by assumption) ?_
        rotate_left 1
        · ((intro w hSw; (try dsimp only at hSw); go_simp) <;> with_reducible rfl)
        try simp only [Act.put, tzA, tzB, tzC, tzD, tzE, tzF]
        refine wpAnyH_ready (rs := [3]) (by kernel_rfl) (by simp) ?_
        refine AllReadyH.cons rfl (fun K hK => ?_) AllReadyH.nil
        go_simp
        go_at_call 86
        refine (HG.out _).mono ?_
        rintro e V3 ⟨rfl, rfl⟩
        refine hK.out _ _ ⟨x4, x5, bdrew HB0.out⟩ (fun hHeld2 => ?_)
        clear hK K
        try simp only [Act.put, tzA, tzB, tzC, tzD, tzE, tzF]
        refine tkq (i := 4) (v := ?_) rfl (by kernel_rfl) (fun _ _ _ h => h) (by rfl) ?_ (by assumption) ?_
        rotate_left 1
        · ((intro w hSw; (try dsimp only at hSw); go_simp) <;> with_reducible rfl)
        try simp only [Act.put, tzA, tzB, tzC, tzD, tzE, tzF]
        refine tkq (i := 5) (v := ?_) rfl (by kernel_rfl) (fun _ _ _ h => h) (by rfl) ?_ (by assumption) ?_
        rotate_left 1
        · ((intro w hSw; (try dsimp only at hSw); go_simp) <;> with_reducible rfl)
        try simp only [Act.put, tzA, tzB, tzC, tzD, tzE, tzF]
        refine tkq (i := 6) (v := ?_) rfl (by kernel_rfl) (fun _ _ _ h => h) (by rfl) ?_ (by assumption) ?_
        rotate_left 1
        · ((intro w hSw; (try dsimp only at hSw); go_simp) <;> with_reducible rfl)
        try simp only [Act.put, tzA, tzB, tzC, tzD, tzE, tzF]
        refine tkq (i := 7) (v := ?_) rfl (by kernel_rfl) (fun _ _ _ h => h) (by rfl) ?_ (by assumption) ?_
        rotate_left 1
        · ((intro w hSw; (try dsimp only at hSw); go_simp) <;> with_reducible rfl)
        try simp only [Act.put, tzA, tzB, tzC, tzD, tzE, tzF]
        refine tkq (i := 8) (v := ?_) rfl (by kernel_rfl) (fun _ _ _ h => h) (by rfl) ?_ (by assumption) ?_
        rotate_left 1
        · ((intro w hSw; (try dsimp only at hSw); go_simp) <;> with_reducible rfl)
        try simp only [Act.put, tzA, tzB, tzC, tzD, tzE, tzF]
        refine tkq (i := 9) (v := ?_) rfl (by kernel_rfl) (fun _ _ _ h => h) (by rfl) ?_ (by assumption) ?_
        rotate_left 1
        · ((intro w hSw; (try dsimp only at hSw); go_simp) <;> with_reducible rfl)
        try simp only [Act.put, tzA, tzB, tzC, tzD, tzE, tzF]
        refine tkn (i := 10) rfl (by kernel_rfl) (fun _ _ _ h => h) (by rfl) (by assumption) ?_
        try simp only [Act.put, tzA, tzB, tzC, tzD, tzE, tzF]
        refine tkn (i := 11) rfl (by kernel_rfl) (fun _ _ _ h => h) (by rfl) (by assumption) ?_
        try simp only [Act.put, tzA, tzB, tzC, tzD, tzE, tzF]
        refine tkn (i := 12) rfl (by kernel_rfl) (fun _ _ _ h => h) (by rfl) (by assumption) ?_
        try simp only [Act.put, tzA, tzB, tzC, tzD, tzE, tzF]
        refine tkn (i := 13) rfl (by kernel_rfl) (fun _ _ _ h => h) (by rfl) (by assumption) ?_
        try simp only [Act.put, tzA, tzB, tzC, tzD, tzE, tzF]
        refine tkn (i := 14) rfl (by kernel_rfl) (fun _ _ _ h => h) (by rfl) (by assumption) ?_
        try simp only [Act.put, tzA, tzB, tzC, tzD, tzE, tzF]
        refine tkq (i := 15) (v := ?_) rfl (by kernel_rfl) (fun _ _ _ h => h) (by rfl) ?_ (by assumption) ?_
        rotate_left 1
        · ((intro w hSw; (try dsimp only at hSw); go_simp) <;> with_reducible rfl)
        try simp only [Act.put, tzA, tzB, tzC, tzD, tzE, tzF]
        refine tkq (i := 16) (v := ?_) rfl (by kernel_rfl) (fun _ _ _ h => h) (by rfl) ?_ (by assumption) ?_
        rotate_left 1
        · ((intro w hSw; (try dsimp only at hSw); go_simp) <;> with_reducible rfl)
        try simp only [Act.put, tzA, tzB, tzC, tzD, tzE, tzF]
        refine tkq (i := 17) (v := ?_) rfl (by kernel_rfl) (fun _ _ _ h => h) (by rfl) ?_ (by assumption) ?_
        rotate_left 1
        · ((intro w hSw; (try dsimp only at hSw); go_simp) <;> with_reducible rfl)
        try simp only [Act.put, tzA, tzB, tzC, tzD, tzE, tzF]
        refine wpAnyH_done (by kernel_rfl) ?_ _
        clear hHeld
        go_wp2_with fail
        go_meet
        case rel => exact ⟨by rw [h1, h2]; rfl, bdrew HB0.out⟩
  case rest =>
    obtain ⟨rfl, hb⟩ := hcut
    have HB := Lib.hid hb
    clear hb x4 x5
    go_wp2_with fail
    go_ret
    exact ⟨rfl, HB.out⟩
set_option maxRecDepth 100000 in
theorem rOk_any (s : ByteArray) (w : World) (hs : s.size ≤ maxLen) : Calls Tryz.prog 51 #[.string s] w fun e w' => e = .returned (.bool (okB (bs s))) ∧ w = w' := by
  have h := refLook_any s w hs
  rw [← okB_is]
  generalize (look (bs s)).1 = a at *
  generalize (look (bs s)).2 = b at *
  have HL := Lib.hid h
  clear h hs
  go_enter Tryz.func51, Tryz.ntmps51
  go_wp2_with fail
  refine HL.out.mono ?_
  rintro e w1 ⟨rfl, rfl⟩
  go_wp2_with fail
  go_ret
  exact ⟨rfl, rfl⟩
end Go.Proofs.YtaooangnnlopcaaGreatDoor
namespace Go.Proofs.YtaooangnnlopcaaGreatDoor
open Go.RowKit Go.ChangeMaps Go.MapKept
theorem comes_parts (me ep : Nat) : comesE me ep = (!decide (nowE ep < nowE me) && (ep == laterE me (nowE ep) || (nowE ep == 16777215 && ep == tickE (laterE me (nowE ep))))) := by
  unfold comesE
  rw [show (!decide (nowE ep < nowE me)) = decide (nowE me ≤ nowE ep) from by rw [Bool.eq_iff_iff]; simp]
theorem int_beq (a b : Nat) : ((a : Int) == (b : Int)) = (a == b) := by
  rw [Bool.eq_iff_iff]
  simp only [beq_iff_eq]
  omega
set_option maxRecDepth 100000 in
set_option maxHeartbeats 4000000 in
theorem rComes_any {w : World} {r me ep : Nat} (c1 : w.cell? ⟨r, 1, none⟩ = some (.int .u64 (me : Int))) (hm : me < 18446744073709551616) : Calls Tryz.prog 50 #[.pointer (some ⟨r, 0, none⟩), .int .u64 (ep : Int)] w fun e w' => e = .returned (.bool (comesE me ep)) ∧ w = w' := by
  have HN1 := Lib.hid (rNow_any ep w)
  have HN2 := Lib.hid (rNow_any me w)
  have HA := Lib.hid (rAt_any me hm w)
  have HG := Lib.hid (rGen_any me hm w)
  have HT := Lib.hid (rTick_any (laterE me (nowE ep)) (laterE_lt _ _) w)
  have hn := now_lt ep
  have ha := at_lt me
  have hg := gen_lt hm
  rw [comes_parts]
  obtain ⟨a1, ha1⟩ : ∃ k, k = if nowE me < nowE ep ∧ 0 < atE me ∧ atE me ≤ nowE ep then 0 else atE me := ⟨_, rfl⟩
  obtain ⟨g1, hg1⟩ : ∃ k, k = if nowE me < nowE ep ∧ 0 < atE me ∧ atE me ≤ nowE ep then min (genE me + 1) 65535 else genE me := ⟨_, rfl⟩
  have hl : laterE me (nowE ep) = putE (nowE ep) a1 g1 := by
    unfold laterE
    rw [ha1, hg1]
    split <;> rfl
  have HP := Lib.hid (rPut_any (nowE ep) a1 g1 (by omega) (by rw [ha1]; split <;> omega) (by rw [hg1]; split <;> omega) w)
  rw [← hl] at HP
  have t1 : (nowE ep == 16777215) = ((nowE ep : Int) == 16777215) := (int_beq _ 16777215).symm
  rw [t1, ← int_beq ep, ← int_beq ep]
  have t2 : decide (nowE ep < nowE me) = decide ((nowE ep : Int) < (nowE me : Int)) := by rw [Bool.eq_iff_iff]; simp
  rw [t2]
  have hcc : (nowE me < nowE ep ∧ 0 < atE me ∧ atE me ≤ nowE ep) ↔ ((nowE me : Int) < (nowE ep : Int) ∧ 0 < (atE me : Int) ∧ (atE me : Int) ≤ (nowE ep : Int)) := by omega
  have hA1 : (a1 : Int) = if (nowE me : Int) < (nowE ep : Int) ∧ 0 < (atE me : Int) ∧ (atE me : Int) ≤ (nowE ep : Int) then 0 else (atE me : Int) := by
    rw [ha1]
    by_cases h : nowE me < nowE ep ∧ 0 < atE me ∧ atE me ≤ nowE ep
    · rw [if_pos h, if_pos (hcc.1 h)]; rfl
    · rw [if_neg h, if_neg (fun e => h (hcc.2 e))]
  have hG1 : (g1 : Int) = if (nowE me : Int) < (nowE ep : Int) ∧ 0 < (atE me : Int) ∧ (atE me : Int) ≤ (nowE ep : Int) then min ((genE me : Int) + 1) 65535 else (genE me : Int) := by
    rw [hg1]
    by_cases h : nowE me < nowE ep ∧ 0 < atE me ∧ atE me ≤ nowE ep
    · rw [if_pos h, if_pos (hcc.1 h)]; omega
    · rw [if_neg h, if_neg (fun e => h (hcc.2 e))]
  have hg2 : (genE me : Int) < 65536 ∧ 0 ≤ (genE me : Int) := by omega
  clear hl hm hn ha hg ha1 hg1 t1 t2 hcc
  generalize (tickE (laterE me (nowE ep)) : Int) = TT at *
  generalize (laterE me (nowE ep) : Int) = LT at *
  generalize (nowE ep : Int) = N at *
  generalize (nowE me : Int) = K at *
  generalize (atE me : Int) = A at *
  generalize (genE me : Int) = G at *
  generalize (a1 : Int) = A1 at *
  generalize (g1 : Int) = G1 at *
  generalize (me : Int) = M at *
  generalize (ep : Int) = E at *
  have HA1 := Lib.hid hA1
  have HG1 := Lib.hid hG1
  have HG2 := Lib.hid hg2
  clear hA1 hG1 hg2
  go_enter Tryz.func50, Tryz.ntmps50
  go_wp2_with fail
  refine HN1.out.mono ?_
  rintro e w1 ⟨rfl, rfl⟩
  go_wp2_with fail
  refine HN2.out.mono ?_
  rintro e w1 ⟨rfl, rfl⟩
  go_wp2_with fail
  refine HA.out.mono ?_
  rintro e w1 ⟨rfl, rfl⟩
  go_wp2_with fail
  refine HG.out.mono ?_
  rintro e w1 ⟨rfl, rfl⟩
  go_upto_region 5 with fail
  cases h0 : decide (N < K)
  · go_upto_region 7 with fail
    obtain ⟨cb, hcb⟩ : ∃ b, b = decide (K < N ∧ 0 < A ∧ A ≤ N) := ⟨_, rfl⟩
    have HCB := Lib.hid hcb
    clear hcb
    go_cut [41] (fun s41 wx => s41 = .bool cb ∧ wx = w)
    case first =>
      have hcb := HCB.out
      cases h1 : decide (K < N)
      · have hc2 : cb = false := by rw [hcb, decide_eq_false_iff_not]; have := of_decide_eq_false h1; omega
        clear hcb HCB
        subst hc2
        go_wp2_with fail
        go_meet
        case rel => exact ⟨rfl, rfl⟩
      · cases h2 : decide (0 < A)
        · have hc2 : cb = false := by rw [hcb, decide_eq_false_iff_not]; have := of_decide_eq_false h2; omega
          clear hcb HCB
          subst hc2
          go_wp2_with fail
          go_meet
          case rel => exact ⟨rfl, rfl⟩
        · cases h3 : decide (A ≤ N)
          · have hc2 : cb = false := by rw [hcb, decide_eq_false_iff_not]; have := of_decide_eq_false h3; omega
            clear hcb HCB
            subst hc2
            go_wp2_with fail
            go_meet
            case rel => exact ⟨rfl, rfl⟩
          · have hc2 : cb = true := by rw [hcb, decide_eq_true_eq]; exact ⟨of_decide_eq_true h1, of_decide_eq_true h2, of_decide_eq_true h3⟩
            clear hcb HCB
            subst hc2
            go_wp2_with fail
            go_meet
            case rel => exact ⟨rfl, rfl⟩
    case rest =>
      obtain ⟨rfl, rfl⟩ := hcut
      obtain ⟨W, rfl⟩ : ∃ X, X = wc := ⟨_, rfl⟩
      go_upto_if 41 with fail
      go_cut [7, 8, 42, 43, 44] (fun s7 s8 _ _ _ wx => s7 = .int .i64 A1 ∧ s8 = .int .i64 G1 ∧ wx = W)
      case first =>
        cases cb
        · have hc := of_decide_eq_false HCB.out.symm
          have h1 := HA1.out
          have h2 := HG1.out
          rw [if_neg hc] at h1 h2
          have H1 := Lib.hid h1
          have H2 := Lib.hid h2
          clear hc h1 h2
          go_wp2_with fail
          go_meet
          case rel => exact ⟨by rw [H1.out], by rw [H2.out], rfl⟩
        · have hc := of_decide_eq_true HCB.out.symm
          have h1 := HA1.out
          have h2 := HG1.out
          rw [if_pos hc] at h1 h2
          have w1 : wrap64 (G + 1) = G + 1 := IntWalk.wrap64_in _ (by have := HG2.out; omega)
          have H1 := Lib.hid h1
          have H2 := Lib.hid h2
          obtain ⟨z, hz⟩ : ∃ z, z = G + 1 := ⟨_, rfl⟩
          rw [← hz] at w1
          clear hc h1 h2
          have HZ := Lib.hid hz
          clear hz
          go_wp2_with fail
          go_meet
          case rel => exact ⟨by rw [H1.out], by rw [H2.out, show wrap64 (G + 1) = G + 1 from by have h := w1; rw [HZ.out] at h; exact h], rfl⟩
      case rest =>
        obtain ⟨rfl, rfl, rfl⟩ := hcut
        obtain ⟨W, rfl⟩ : ∃ X, X = wc := ⟨_, rfl⟩
        clear HA1 HG1 HG2 HCB
        go_wp2_with fail
        refine HP.out.mono ?_
        rintro e w1 ⟨rfl, rfl⟩
        go_upto_region 11 with fail
        cases h1 : (E == LT)
        · cases h2 : (N == 16777215)
          · go_wp2_with fail
            go_ret
            exact ⟨by rw [h0, h1, h2]; rfl, rfl⟩
          · go_wp2_with fail
            refine HT.out.mono ?_
            rintro e w1 ⟨rfl, rfl⟩
            go_wp2_with fail
            go_ret
            exact ⟨by rw [h0, h1, h2]; rfl, rfl⟩
        · go_wp2_with fail
          go_ret
          exact ⟨by rw [h0, h1]; rfl, rfl⟩
  · go_wp2_with fail
    go_ret
    exact ⟨by rw [h0]; rfl, rfl⟩
end Go.Proofs.YtaooangnnlopcaaGreatDoor
