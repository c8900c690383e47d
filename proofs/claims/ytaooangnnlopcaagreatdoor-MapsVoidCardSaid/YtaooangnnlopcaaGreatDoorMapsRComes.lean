/- Whether an epoch may come, as the document has it. Condition: the document's map lies behind its pointer. -/
import Derived.Test.YtaooangnnlopcaaGreatDoorRef07
import Derived.Test.YtaooangnnlopcaaGreatDoorMapsEp
namespace Go.Proofs.YtaooangnnlopcaaGreatDoor
open Go.RowKit Go.ChangeMaps Go.MapKept
theorem comes_parts (me ep : Nat) : comesE me ep = (!decide (nowE ep < nowE me) && (ep == laterE me (nowE ep) || (nowE ep == 16777215 && ep == tickE (laterE me (nowE ep))))) := by
  unfold comesE
  rw [show (!decide (nowE ep < nowE me)) = decide (nowE me ≤ nowE ep) from by rw [Bool.eq_iff_iff]; simp]
theorem int_beq (a b : Nat) : ((a : Int) == (b : Int)) = (a == b) := by
  rw [Bool.eq_iff_iff]
  simp only [beq_iff_eq]
  omega
set_option maxRecDepth 100000 in
set_option maxHeartbeats 4000000 in
theorem rComes_any {w : World} {r me ep : Nat} (c1 : w.cell? ⟨r, 1, none⟩ = some (.int .u64 (me : Int))) (hm : me < 18446744073709551616) : Calls Tryz.prog 50 #[.pointer (some ⟨r, 0, none⟩), .int .u64 (ep : Int)] w fun e w' => e = .returned (.bool (comesE me ep)) ∧ w = w' := by
  have HN1 := Lib.hid (rNow_any ep w)
  have HN2 := Lib.hid (rNow_any me w)
  have HA := Lib.hid (rAt_any me hm w)
  have HG := Lib.hid (rGen_any me hm w)
  have HT := Lib.hid (rTick_any (laterE me (nowE ep)) (laterE_lt _ _) w)
  have hn := now_lt ep
  have ha := at_lt me
  have hg := gen_lt hm
  rw [comes_parts]
  obtain ⟨a1, ha1⟩ : ∃ k, k = if nowE me < nowE ep ∧ 0 < atE me ∧ atE me ≤ nowE ep then 0 else atE me := ⟨_, rfl⟩
  obtain ⟨g1, hg1⟩ : ∃ k, k = if nowE me < nowE ep ∧ 0 < atE me ∧ atE me ≤ nowE ep then min (genE me + 1) 65535 else genE me := ⟨_, rfl⟩
  have hl : laterE me (nowE ep) = putE (nowE ep) a1 g1 := by
    unfold laterE
    rw [ha1, hg1]
    split <;> rfl
  have HP := Lib.hid (rPut_any (nowE ep) a1 g1 (by omega) (by rw [ha1]; split <;> omega) (by rw [hg1]; split <;> omega) w)
  rw [← hl] at HP
  have t1 : (nowE ep == 16777215) = ((nowE ep : Int) == 16777215) := (int_beq _ 16777215).symm
  rw [t1, ← int_beq ep, ← int_beq ep]
  have t2 : decide (nowE ep < nowE me) = decide ((nowE ep : Int) < (nowE me : Int)) := by rw [Bool.eq_iff_iff]; simp
  rw [t2]
  have hcc : (nowE me < nowE ep ∧ 0 < atE me ∧ atE me ≤ nowE ep) ↔ ((nowE me : Int) < (nowE ep : Int) ∧ 0 < (atE me : Int) ∧ (atE me : Int) ≤ (nowE ep : Int)) := by omega
  have hA1 : (a1 : Int) = if (nowE me : Int) < (nowE ep : Int) ∧ 0 < (atE me : Int) ∧ (atE me : Int) ≤ (nowE ep : Int) then 0 else (atE me : Int) := by
    rw [ha1]
    by_cases h : nowE me < nowE ep ∧ 0 < atE me ∧ atE me ≤ nowE ep
    · rw [if_pos h, if_pos (hcc.1 h)]; rfl
    · rw [if_neg h, if_neg (fun e => h (hcc.2 e))]
  have hG1 : (g1 : Int) = if (nowE me : Int) < (nowE ep : Int) ∧ 0 < (atE me : Int) ∧ (atE me : Int) ≤ (nowE ep : Int) then min ((genE me : Int) + 1) 65535 else (genE me : Int) := by
    rw [hg1]
    by_cases h : nowE me < nowE ep ∧ 0 < atE me ∧ atE me ≤ nowE ep
    · rw [if_pos h, if_pos (hcc.1 h)]; omega
    · rw [if_neg h, if_neg (fun e => h (hcc.2 e))]
  have hg2 : (genE me : Int) < 65536 ∧ 0 ≤ (genE me : Int) := by omega
  clear hl hm hn ha hg ha1 hg1 t1 t2 hcc
  generalize (tickE (laterE me (nowE ep)) : Int) = TT at *
  generalize (laterE me (nowE ep) : Int) = LT at *
  generalize (nowE ep : Int) = N at *
  generalize (nowE me : Int) = K at *
  generalize (atE me : Int) = A at *
  generalize (genE me : Int) = G at *
  generalize (a1 : Int) = A1 at *
  generalize (g1 : Int) = G1 at *
  generalize (me : Int) = M at *
  generalize (ep : Int) = E at *
  have HA1 := Lib.hid hA1
  have HG1 := Lib.hid hG1
  have HG2 := Lib.hid hg2
  clear hA1 hG1 hg2
  go_enter Tryz.func50, Tryz.ntmps50
  go_wp2_with fail
  refine HN1.out.mono ?_
  rintro e w1 ⟨rfl, rfl⟩
  go_wp2_with fail
  refine HN2.out.mono ?_
  rintro e w1 ⟨rfl, rfl⟩
  go_wp2_with fail
  refine HA.out.mono ?_
  rintro e w1 ⟨rfl, rfl⟩
  go_wp2_with fail
  refine HG.out.mono ?_
  rintro e w1 ⟨rfl, rfl⟩
  go_upto_region 5 with fail
  cases h0 : decide (N < K)
  · go_upto_region 7 with fail
    obtain ⟨cb, hcb⟩ : ∃ b, b = decide (K < N ∧ 0 < A ∧ A ≤ N) := ⟨_, rfl⟩
    have HCB := Lib.hid hcb
    clear hcb
    go_cut [41] (fun s41 wx => s41 = .bool cb ∧ wx = w)
    case first =>
      have hcb := HCB.out
      cases h1 : decide (K < N)
      · have hc2 : cb = false := by rw [hcb, decide_eq_false_iff_not]; have := of_decide_eq_false h1; omega
        clear hcb HCB
        subst hc2
        go_wp2_with fail
        go_meet
        case rel => exact ⟨rfl, rfl⟩
      · cases h2 : decide (0 < A)
        · have hc2 : cb = false := by rw [hcb, decide_eq_false_iff_not]; have := of_decide_eq_false h2; omega
          clear hcb HCB
          subst hc2
          go_wp2_with fail
          go_meet
          case rel => exact ⟨rfl, rfl⟩
        · cases h3 : decide (A ≤ N)
          · have hc2 : cb = false := by rw [hcb, decide_eq_false_iff_not]; have := of_decide_eq_false h3; omega
            clear hcb HCB
            subst hc2
            go_wp2_with fail
            go_meet
            case rel => exact ⟨rfl, rfl⟩
          · have hc2 : cb = true := by rw [hcb, decide_eq_true_eq]; exact ⟨of_decide_eq_true h1, of_decide_eq_true h2, of_decide_eq_true h3⟩
            clear hcb HCB
            subst hc2
            go_wp2_with fail
            go_meet
            case rel => exact ⟨rfl, rfl⟩
    case rest =>
      obtain ⟨rfl, rfl⟩ := hcut
      obtain ⟨W, rfl⟩ : ∃ X, X = wc := ⟨_, rfl⟩
      go_upto_if 41 with fail
      go_cut [7, 8, 42, 43, 44] (fun s7 s8 _ _ _ wx => s7 = .int .i64 A1 ∧ s8 = .int .i64 G1 ∧ wx = W)
      case first =>
        cases cb
        · have hc := of_decide_eq_false HCB.out.symm
          have h1 := HA1.out
          have h2 := HG1.out
          rw [if_neg hc] at h1 h2
          have H1 := Lib.hid h1
          have H2 := Lib.hid h2
          clear hc h1 h2
          go_wp2_with fail
          go_meet
          case rel => exact ⟨by rw [H1.out], by rw [H2.out], rfl⟩
        · have hc := of_decide_eq_true HCB.out.symm
          have h1 := HA1.out
          have h2 := HG1.out
          rw [if_pos hc] at h1 h2
          have w1 : wrap64 (G + 1) = G + 1 := IntWalk.wrap64_in _ (by have := HG2.out; omega)
          have H1 := Lib.hid h1
          have H2 := Lib.hid h2
          obtain ⟨z, hz⟩ : ∃ z, z = G + 1 := ⟨_, rfl⟩
          rw [← hz] at w1
          clear hc h1 h2
          have HZ := Lib.hid hz
          clear hz
          go_wp2_with fail
          go_meet
          case rel => exact ⟨by rw [H1.out], by rw [H2.out, show wrap64 (G + 1) = G + 1 from by have h := w1; rw [HZ.out] at h; exact h], rfl⟩
      case rest =>
        obtain ⟨rfl, rfl, rfl⟩ := hcut
        obtain ⟨W, rfl⟩ : ∃ X, X = wc := ⟨_, rfl⟩
        clear HA1 HG1 HG2 HCB
        go_wp2_with fail
        refine HP.out.mono ?_
        rintro e w1 ⟨rfl, rfl⟩
        go_upto_region 11 with fail
        cases h1 : (E == LT)
        · cases h2 : (N == 16777215)
          · go_wp2_with fail
            go_ret
            exact ⟨by rw [h0, h1, h2]; rfl, rfl⟩
          · go_wp2_with fail
            refine HT.out.mono ?_
            rintro e w1 ⟨rfl, rfl⟩
            go_wp2_with fail
            go_ret
            exact ⟨by rw [h0, h1, h2]; rfl, rfl⟩
        · go_wp2_with fail
          go_ret
          exact ⟨by rw [h0, h1]; rfl, rfl⟩
  · go_wp2_with fail
    go_ret
    exact ⟨by rw [h0]; rfl, rfl⟩
end Go.Proofs.YtaooangnnlopcaaGreatDoor
