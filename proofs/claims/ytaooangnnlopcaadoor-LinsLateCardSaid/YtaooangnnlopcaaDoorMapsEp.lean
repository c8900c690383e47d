/- What maps.comes, epochs.Flush, Dies and Alive answer. No condition. -/
import Derived.Test.YtaooangnnlopcaaDoorEpochs
import Derived.Test.YtaooangnnlopcaaDoorStep
import Derived.Test.YtaooangnnlopcaaDoorLowA
namespace Go.Proofs.YtaooangnnlopcaaDoor
open Go.RowKit

theorem later_is {m w : Nat} (h : nowE m ≤ nowE w) : laterN m (nowE w - nowE m) = laterE m (nowE w) := by
  have := now_lt w
  unfold laterN laterE
  rw [show min (nowE m + (nowE w - nowE m)) 16777215 = nowE w by omega]
  by_cases h1 : nowE m < nowE w ∧ 0 < atE m ∧ atE m ≤ nowE w
  · rw [if_pos h1, if_pos (by omega)]
  · rw [if_neg h1, if_neg (by omega)]
theorem laterE_lt (m n : Nat) : laterE m n < 18446744073709551616 := by
  unfold laterE
  split <;> exact put_lt _ _ _
set_option maxRecDepth 100000 in
theorem comes_any (p : Nat) (me ep : Nat) (hm : me < 18446744073709551616) (he : ep < 18446744073709551616) (w : World) (c1 : w.cell? ⟨p, 1, none⟩ = some (.int .u64 (me : Int))) :
    Calls Tryd.prog 49 #[.pointer (some ⟨p, 0, none⟩), .int .u64 (ep : Int)] w fun e w' => e = .returned (.bool (comesE me ep)) ∧ Below w.heap.size w w' := by
  have hp : p < w.heap.size := World.block_lt_of_cell? w _ c1
  have HN1 := Lib.hid (fun W => now_any ep he W)
  have HN2 := Lib.hid (fun W => now_any me hm W)
  have HL := Lib.hid (fun d hd W => later_any me d hm hd W)
  have HT := Lib.hid (fun W => tick_any (laterE me (nowE ep)) (laterE_lt _ _) W)
  have hn1 := now_lt ep
  have hn2 := now_lt me
  clear hm he
  by_cases hlt : nowE ep < nowE me
  · have hc : comesE me ep = false := by unfold comesE; rw [decide_eq_false (by omega)]; rfl
    rw [hc]
    have q1 : wrap64 ((nowE ep : Int) - (nowE me : Int)) = (nowE ep : Int) - (nowE me : Int) := IntWalk.wrap64_in _ (by omega)
    have q2 : IntKind.i64.wrap ((nowE ep : Int) - (nowE me : Int)) = (nowE ep : Int) - (nowE me : Int) := IntWalk.i64_in _ (by omega)
    have d1 : decide (nowE ep < nowE me) = true := by rw [decide_eq_true_eq]; omega
    have d2 : (nowE ep : Int) - (nowE me : Int) < 0 := by omega
    generalize nowE ep = n at *
    generalize nowE me = k at *
    clear hn1 hn2 hlt hc
    go_enter Tryd.func49, Tryd.ntmps49
    go_upto_region 1 with fail
    go_cut [5] (fun s5 wx => s5 = .int .i64 ((n : Int) - (k : Int)) ∧ Below w.heap.size w wx)
    case first =>
      go_region_law (first
        | (refine stepC (by rfl) 24 #[.int .u64 (ep : Int)] (by go_simp) (HN1.out _) ?_; rintro e w1 ⟨rfl, hb1⟩; refine ⟨_, rfl, ?_⟩; have k1 : w1.cell? ⟨p, 1, none⟩ = some (.int .u64 (me : Int)) := (hb1.cell (p := ⟨p, 1, none⟩) hp).trans c1; have HB1 := Lib.hid hb1; clear hb1)
        | (refine stepC (by rfl) 24 #[.int .u64 (me : Int)] (by go_simp) (HN2.out _) ?_; rintro e w2 ⟨rfl, hb2⟩; refine ⟨_, rfl, ?_⟩; have HB2 := Lib.hid hb2; clear hb2)
        | fail)
      all_goals
        go_wp2_with fail
        go_meet
        case rel => exact ⟨by first | rfl | exact int_congr q2, ((bdrew (Below.refl w.heap.size w)).trans HB1.out).trans (HB2.out.mono HB1.out.size)⟩
    case rest =>
      obtain ⟨rfl, hb⟩ := hcut
      have HB := Lib.hid hb
      clear hb c1
      go_wp2_with fail
      go_ret
      exact ⟨rfl, HB.out⟩
  · obtain ⟨d, hd⟩ : ∃ d, d = nowE ep - nowE me := ⟨_, rfl⟩
    have q1 : wrap64 ((nowE ep : Int) - (nowE me : Int)) = (d : Int) := by
      rw [show (nowE ep : Int) - (nowE me : Int) = (d : Int) from by omega]
      exact IntWalk.wrap64_in _ (by omega)
    have q2 : IntKind.i64.wrap ((nowE ep : Int) - (nowE me : Int)) = (d : Int) := by
      rw [show (nowE ep : Int) - (nowE me : Int) = (d : Int) from by omega]
      exact IntWalk.i64_in _ (by omega)
    have d1 : decide ((d : Int) < 0) = false := by rw [decide_eq_false_iff_not]; omega
    have hl := later_is (m := me) (w := ep) (by omega)
    rw [← hd] at hl
    have HLR := Lib.hid (fun W => HL.out d (by omega) W)
    rw [hl] at HLR
    have hres : comesE me ep = ((ep : Int) == (laterE me (nowE ep) : Int) || (nowE ep : Int) == 16777215 && (ep : Int) == (tickE (laterE me (nowE ep)) : Int)) := by
      unfold comesE
      rw [decide_eq_true (by omega), Bool.true_and, Bool.eq_iff_iff]
      simp only [Bool.or_eq_true, Bool.and_eq_true, beq_iff_eq]
      omega
    rw [hres]
    generalize laterE me (nowE ep) = is at *
    generalize tickE is = tk at *
    generalize nowE ep = n at *
    generalize nowE me = k at *
    clear hn1 hn2 hlt hl hd hres
    go_enter Tryd.func49, Tryd.ntmps49
    go_upto_region 1 with fail
    go_cut [5] (fun s5 wx => s5 = .int .i64 ((d : Int)) ∧ Below w.heap.size w wx)
    case first =>
      go_region_law (first
        | (refine stepC (by rfl) 24 #[.int .u64 (ep : Int)] (by go_simp) (HN1.out _) ?_; rintro e w1 ⟨rfl, hb1⟩; refine ⟨_, rfl, ?_⟩; have k1 : w1.cell? ⟨p, 1, none⟩ = some (.int .u64 (me : Int)) := (hb1.cell (p := ⟨p, 1, none⟩) hp).trans c1; have HB1 := Lib.hid hb1; clear hb1)
        | (refine stepC (by rfl) 24 #[.int .u64 (me : Int)] (by go_simp) (HN2.out _) ?_; rintro e w2 ⟨rfl, hb2⟩; refine ⟨_, rfl, ?_⟩; have HB2 := Lib.hid hb2; clear hb2)
        | fail)
      all_goals
        go_wp2_with fail
        go_meet
        case rel => exact ⟨by first | rfl | exact int_congr q2, ((bdrew (Below.refl w.heap.size w)).trans HB1.out).trans (HB2.out.mono HB1.out.size)⟩
    case rest =>
      obtain ⟨rfl, hb⟩ := hcut
      have c1' := (hb.cell (p := ⟨p, 1, none⟩) hp).trans c1
      have HB := Lib.hid hb
      clear hb c1
      cases h1 : (ep : Int) == (is : Int)
      · cases h2 : (n : Int) == 16777215
        · go_wp2_with fail
          refine (HLR.out _).mono ?_
          rintro e w3 ⟨rfl, hb3⟩
          have HB3 := Lib.hid (HB.out.trans (hb3.mono HB.out.size))
          clear hb3
          go_wp2_with fail
          refine (HN1.out _).mono ?_
          rintro e w4 ⟨rfl, hb4⟩
          have HB4 := Lib.hid (HB3.out.trans (hb4.mono HB3.out.size))
          clear hb4
          go_wp2_with fail
          go_ret
          exact ⟨(by rw [h1, h2]; rfl), HB4.out⟩
        · go_wp2_with fail
          refine (HLR.out _).mono ?_
          rintro e w3 ⟨rfl, hb3⟩
          have HB3 := Lib.hid (HB.out.trans (hb3.mono HB.out.size))
          clear hb3
          go_wp2_with fail
          refine (HN1.out _).mono ?_
          rintro e w4 ⟨rfl, hb4⟩
          have HB4 := Lib.hid (HB3.out.trans (hb4.mono HB3.out.size))
          clear hb4
          go_wp2_with fail
          refine (HT.out _).mono ?_
          rintro e w5 ⟨rfl, hb5⟩
          have HB5 := Lib.hid (HB4.out.trans (hb5.mono HB4.out.size))
          clear hb5
          go_wp2_with fail
          go_ret
          exact ⟨(by rw [h1, h2]; rfl), HB5.out⟩
      · go_wp2_with fail
        refine (HLR.out _).mono ?_
        rintro e w3 ⟨rfl, hb3⟩
        have HB3 := Lib.hid (HB.out.trans (hb3.mono HB.out.size))
        clear hb3
        go_wp2_with fail
        go_ret
        exact ⟨(by rw [h1]; rfl), HB3.out⟩
set_option maxRecDepth 100000 in
theorem dies_any (ep : Nat) (x : Int) (he : ep < 18446744073709551616) (hx : -9223372036854775808 ≤ x ∧ x ≤ 9223372036854775807) (w : World) : Calls Tryd.prog 86 #[.int .u64 (ep : Int), .int .i64 x] w fun e w' => e = .returned (.int .i64 (diesE ep x)) ∧ Below w.heap.size w w' := by
  have HS := Lib.hid (said_any ep he w)
  have hf := fld_ep0 (nowE ep) (atE ep) (genE ep)
  have hn := now_lt ep
  unfold diesE
  by_cases h0 : x = 0
  · have d0 : (x == 0) = true := by rw [h0]; rfl
    rw [if_pos h0]
    clear h0 he hx hn
    go_enter Tryd.func86, Tryd.ntmps86
    go_wp2_with fail
    refine HS.out.mono ?_
    rintro e w1 ⟨rfl, hb⟩
    go_wp2_with fail
    go_ret
    exact ⟨rfl, hb⟩
  · have d0 : (x == 0) = false := by rw [beq_eq_false_iff_ne]; exact h0
    rw [if_neg h0]
    by_cases h1 : x < 0
    · rw [if_pos h1]
      clear h0 he hx hn
      go_enter Tryd.func86, Tryd.ntmps86
      go_wp2_with fail
      refine HS.out.mono ?_
      rintro e w1 ⟨rfl, hb⟩
      go_wp2_with fail
      go_ret
      exact ⟨rfl, hb⟩
    · rw [if_neg h1]
      have h1' : 0 ≤ x := by omega
      by_cases h2 : x ≤ 2592000
      · rw [if_pos h2]
        have q : wrap64 ((nowE ep : Int) + x) = (nowE ep : Int) + x := IntWalk.wrap64_in _ (by omega)
        clear h0 he hx hn h1
        go_enter Tryd.func86, Tryd.ntmps86
        go_wp2_with fail
        refine HS.out.mono ?_
        rintro e w1 ⟨rfl, hb⟩
        go_wp2_with fail
        go_ret
        exact ⟨ret_congr (int_congr q), hb⟩
      · rw [if_neg h2]
        have h2' : 2592000 < x := by omega
        clear h0 he hx hn h1 h2
        go_enter Tryd.func86, Tryd.ntmps86
        go_wp2_with fail
        refine HS.out.mono ?_
        rintro e w1 ⟨rfl, hb⟩
        go_wp2_with fail
        go_ret
        exact ⟨rfl, hb⟩
end Go.Proofs.YtaooangnnlopcaaDoor
