/- The law ConnsStays, walked: what was told stays, a call under way stays the only one, a closed connection takes none. Condition: the library's variables are as they are laid. -/
import Derived.Test.YtddifbimlmkcbaaGreatDoorCoE
import Derived.Test.YtddifbimlmkcbaaGreatDoorLowI
namespace Go.Proofs.YtddifbimlmkcbaaGreatDoor
open Go.RowKit Go.ChangeMaps Go.MapKept
def zeroAn : AnsD := ⟨0, 0, ⟨⟨#[]⟩, ⟨#[]⟩, 0, 0, 0, 0⟩⟩
theorem zeroAn_ok : zeroAn.Ok := ⟨by decide, by decide, ⟨by decide, by decide, by decide, by decide⟩⟩
theorem zeroAn_small : zeroAn.item.key.size + zeroAn.item.value.size ≤ 1048576 := by decide
theorem dones_under {m : ConnM} (h : GoodM m) (hc : m.calls ≠ []) (a : AnsD) : (doneM m a).under = false := by
  obtain ⟨e, es, h1, -, -⟩ := h.turn hc
  unfold doneM
  rw [h1]
  dsimp only
  split
  · exact (on_wait _).2.2.2
  · rfl
theorem after_under {m : ConnM} (h : GoodM m) (a : AnsD) : (afterM m a).under = false := by
  unfold afterM
  split
  · rename_i hu
    exact dones_under h (h.under hu) a
  · rename_i hu
    simpa using hu
theorem left_took (m : ConnM) : leftM (tookM m) = leftM m := by
  unfold tookM
  split <;> rfl
theorem took_closed (m : ConnM) : (tookM m).closed = m.closed := by
  unfold tookM
  split <;> rfl
theorem took_out (m : ConnM) : (tookM m).out = m.out := by
  unfold tookM
  split <;> rfl
theorem took_under (m : ConnM) (hu : m.under = false) : (tookM m).under = (nextM m).isSome := by
  unfold tookM nextM
  by_cases hc : m.calls = []
  · rw [if_pos hc, hu, if_neg (by simp), hc]; rfl
  · obtain ⟨c, cs, hcs⟩ := List.exists_cons_of_ne_nil hc
    rw [if_neg hc, hu, if_neg (by simp), hcs]; rfl
theorem in_under (m : ConnM) (b : List UInt8) : (inM m b).under = m.under := by
  unfold inM
  split
  · rfl
  · exact (on_wait _).2.2.2
/-- What a round has: whether a call is under way, whether it is closed, whether there is one more. -/
structure StaysQ (m : ConnM) (bl : List UInt8) (u c q : Bool) : Prop where
  u : (nextM m).isSome = u
  c : (tookM m).closed = c
  q : (nextM (inM (tookM m) bl)).isSome = q
theorem stays_cases {m : ConnM} (hg : GoodM m) (hu : m.under = false) (bl : List UInt8) : (∃ u c q, StaysQ m bl u c q ∧ (u = true ∧ c = false ∧ q = false ∨ u = false ∧ c = true ∧ q = false ∨ u = false ∧ c = false ∧ q = true ∨ u = false ∧ c = false ∧ q = false)) := by
  refine ⟨_, _, _, ⟨rfl, rfl, rfl⟩, ?_⟩
  have htu := took_under m hu
  cases h1 : (nextM m).isSome
  · cases h2 : (tookM m).closed
    · cases h3 : (nextM (inM (tookM m) bl)).isSome <;> simp
    · have h3 : inM (tookM m) bl = tookM m := by unfold inM; rw [h2, if_pos rfl]
      rw [h3]
      have h4 : (tookM m).calls = [] := ((took_good hg).closed h2).2
      have h5 : nextM (tookM m) = none := by unfold nextM; rw [h4]; split <;> rfl
      rw [h5]
      simp
  · rw [h1] at htu
    have h2 : (tookM m).closed = false := by
      cases h2 : (tookM m).closed
      · rfl
      · exact absurd ((took_good hg).closed h2).2 ((took_good hg).under htu)
    have h3 : nextM (inM (tookM m) bl) = none := by unfold nextM; rw [in_under, htu, if_pos rfl]
    rw [h2, h3]
    simp
theorem stays_facts {B K : Nat} {m : ConnM} (hf : FitM B K m) (hu : m.under = false) {bl : List UInt8} {u c q : Bool} (h : StaysQ m bl u c q) :
    (tookM (inM (tookM m) bl)).under = (u || q) ∧ (nextM m).isSome = u ∧ (nextM (inM (tookM m) bl)).isSome = q ∧ (c = true → leftM (tookM (inM (tookM m) bl)) = leftM (tookM m)) ∧ (c = true → (tookM (inM (tookM m) bl)).closed = true) ∧ ∃ t, (tookM (inM (tookM m) bl)).out = m.out ++ t := by
  have htu := took_under m hu
  rw [h.u] at htu
  have hg2 := (hf.took.in bl).1.good
  refine ⟨?_, h.u, h.q, fun hc => ?_, fun hc => ?_, ?_⟩
  · cases hu1 : u
    · rw [hu1] at htu
      rw [took_under _ (by rw [in_under, htu]), h.q]
      rfl
    · rw [hu1] at htu
      have h2 : (inM (tookM m) bl).under = true := by rw [in_under, htu]
      unfold tookM
      rw [if_neg (by show (inM (tookM m) bl).calls ≠ []; exact hg2.under h2)]
      rfl
  · have h3 : inM (tookM m) bl = tookM m := by unfold inM; rw [h.c, hc, if_pos rfl]
    rw [h3, left_took]
  · have h3 : inM (tookM m) bl = tookM m := by unfold inM; rw [h.c, hc, if_pos rfl]
    rw [h3, took_closed, h.c, hc]
  · obtain ⟨-, t, ht⟩ := hf.took.in bl
    exact ⟨t, by rw [took_out, ht, took_out]⟩
set_option maxRecDepth 100000 in
set_option maxHeartbeats 16000000 in
theorem connsStays_walk {w : World} {lv : Value} {L : List (List UInt8)} (hl : BRows w lv L) (hE : EnvP w.heap.size w) :
    Calls Tryz.prog 7 #[lv] w fun e w' => e = .returned (.bool true) ∧ Below w.heap.size w w' := by
  obtain ⟨la, lc, rfl⟩ := hl.len
  have hmx := hl.max
  unfold maxLen at hmx
  have hlives := lives32 w hE
  have HLV := Lib.hid hlives
  have HL := Lib.hid hl
  have HENV := Lib.hid hE
  clear hlives hl hE
  go_enter Tryz.func7, Tryz.ntmps7
  go_wp2_with fail
  go_loop [3, 4] (fun s3 s4 => ∃ i n : Nat, i ≤ L.length ∧ s4 = .int .i64 (i : Int) ∧ s3 = .int .i64 (n : Int) ∧ n ≤ 8001 ∧ Hid (n = capSum 4001 (L.take i))) (fun _ s4 => L.length - (intOf s4).toNat)
  case atStart => exact ⟨0, 0, Nat.zero_le _, rfl, rfl, by omega, Lib.hid (by simp [capSum])⟩
  case round =>
    obtain ⟨i, n, hi, rfl, rfl, hn, HN⟩ := hrel
    by_cases hlt : i < L.length
    · by_cases hnl : n ≤ 4000
      · obtain ⟨bl, hx⟩ : ∃ x, L[i]? = some x := ⟨_, List.getElem?_eq_getElem hlt⟩
        obtain ⟨g, o, c', x, he, hgl, hcx, hbx⟩ := HL.out.at hx
        obtain ⟨xa, xc, rfl⟩ := hbx.len
        have hix := fun W => idx_rows (c := lc) (slice_inj he).1 hlt W
        have hbm := hbx.cap
        unfold maxLen at hbm
        obtain ⟨m, hm⟩ : ∃ m, m = min bl.length 4001 := ⟨_, rfl⟩
        have hmin : min (bl.length : Int) (4001 : Int) = (m : Int) := by omega
        have hm2 : m ≤ 4001 := by omega
        have HX := Lib.hid hx
        have HM := Lib.hid hm
        clear he hx hm hbx
        go_wp2_with fail
        go_round
        case rel => exact ⟨i + 1, n + m, by omega, by go_num, by go_num, by omega, Lib.hid (by rw [capSum_snoc 4001 HX.out, ← HN.out, HM.out])⟩
        case measure => simp [intOf]; omega
      · have t1 : decide ((4000 : Int) < (n : Int)) = true := by rw [decide_eq_true_eq]; omega
        have t2 : decide ((n : Int) ≤ 4000) = false := by rw [decide_eq_false_iff_not]; omega
        by_cases hbig : 30 < L.length
        · have t3 : decide ((30 : Int) < (L.length : Int)) = true := by rw [decide_eq_true_eq]; omega
          go_wp2_with fail
          refine HLV.out.mono ?_
          rintro e w' ⟨rfl, hb⟩
          have HB := Lib.hid hb
          clear hb
          go_wp2_with fail
          go_ret
          exact ⟨rfl, HB.out⟩
        · have t3 : decide ((30 : Int) < (L.length : Int)) = false := by rw [decide_eq_false_iff_not]; omega
          go_wp2_with fail
          refine HLV.out.mono ?_
          rintro e w' ⟨rfl, hb⟩
          have HB := Lib.hid hb
          clear hb
          go_wp2_with fail
          go_ret
          exact ⟨rfl, HB.out⟩
    · obtain rfl : i = L.length := by omega
      by_cases hbig : 30 < L.length
      · have t3 : decide ((30 : Int) < (L.length : Int)) = true := by rw [decide_eq_true_eq]; omega
        go_wp2_with fail
        refine HLV.out.mono ?_
        rintro e w' ⟨rfl, hb⟩
        have HB := Lib.hid hb
        clear hb
        go_wp2_with fail
        go_ret
        exact ⟨rfl, HB.out⟩
      · have t3 : decide ((30 : Int) < (L.length : Int)) = false := by rw [decide_eq_false_iff_not]; omega
        by_cases hnl : 4000 < n
        · have t1 : decide ((4000 : Int) < (n : Int)) = true := by rw [decide_eq_true_eq]; omega
          go_wp2_with fail
          refine HLV.out.mono ?_
          rintro e w' ⟨rfl, hb⟩
          have HB := Lib.hid hb
          clear hb
          go_wp2_with fail
          go_ret
          exact ⟨rfl, HB.out⟩
        · have t1 : decide ((4000 : Int) < (n : Int)) = false := by rw [decide_eq_false_iff_not]; omega
          have hsum : L.flatten.length ≤ 4000 := by
            refine capSum_flat (m := 4001) (by omega) ?_
            have := HN.out
            rw [List.take_of_length_le (Nat.le_refl _)] at this
            omega
          have hL30 : L.length ≤ 30 := by omega
          clear hlt hi hbig hnl hn
          go_wp2_with fail
          refine (connNew_any w).mono ?_
          rintro e W ⟨rfl, hc, hbw⟩
          obtain ⟨S0, hj⟩ := CJ.new HENV.out hc hbw
          obtain ⟨p, hp⟩ : ∃ p, p = w.heap.size := ⟨_, rfl⟩
          have HST := Lib.hid (show CJ w p cNew W S0 by rw [hp]; exact hj)
          have HBW := Lib.hid hbw
          rw [← hp]
          clear hc hbw hj hp
          go_wp2_with fail
          go_loopw [6, 7] (fun s6 s7 wr => ∃ (i : Nat) (m : ConnM) (S : Nat → Prop), s7 = .int .i64 (i : Int) ∧ s6 = sv m.out ∧ i ≤ L.length ∧ CJ w p m wr S ∧ FitM (L.take i).flatten.length (20000000 * (i + 1)) m ∧ m.under = false ∧ Below w.heap.size w wr) (fun _ s7 _ => L.length - (intOf s7).toNat)
          case atStart => exact ⟨0, cNew, S0, rfl, rfl, Nat.zero_le _, HST.out, (fit_new _).mono (Nat.zero_le _) (Nat.le_refl _), rfl, HBW.out⟩
          case round =>
            obtain ⟨i, m, S, rfl, rfl, hi, hj, hf, hu, hlo⟩ := hrel
            clear HST HBW
            have HJ := Lib.hid hj
            have HF := Lib.hid hf
            have HLO := Lib.hid hlo
            have HU := Lib.hid hu
            clear hj hf hlo hu
            by_cases hlt : i < L.length
            · obtain ⟨bl, hx⟩ : ∃ x, L[i]? = some x := ⟨_, List.getElem?_eq_getElem hlt⟩
              have hfl := flat_snoc hx
              have hfl2 := flat_le L (i + 1)
              have HFL := Lib.hid (show (L.take i).flatten.length + bl.length = (L.take (i + 1)).flatten.length ∧ (L.take (i + 1)).flatten.length ≤ 4000 ∧ i ≤ 30 from ⟨by rw [hfl, List.length_append], by omega, by omega⟩)
              obtain ⟨u, cl, q, hq, hcase⟩ := stays_cases HF.out.good HU.out bl
              have HQ0 := Lib.hid hq
              have HFA := Lib.hid (stays_facts HF.out HU.out hq)
              have HNX := Lib.hid (next_is HJ.out.is HF.out.good)
              obtain ⟨g, o, c', x, he, hgl, hcx, hbx⟩ := HL.out.at hx
              obtain ⟨xa, xc, rfl⟩ := hbx.len
              have hix := fun W => idx_rows (c := lc) (slice_inj he).1 hlt W
              have HBL := Lib.hid hbx
              clear hfl hfl2 hq he hbx
              go_wp2_with fail
              refine HNX.out.mono ?_
              rintro e V1 ⟨rfl, hst⟩
              rw [HQ0.out.u]
              obtain ⟨S1, hj1, hch1, -⟩ := HJ.out.step hst
              have hb1 : Below w.heap.size w V1 := HLO.out.trans (hch1.below (fun k hk => ⟨Nat.lt_of_lt_of_le hk HLO.out.size, fun e => by have := HJ.out.is.low e; omega⟩))
              have hj2 := hj1.below ((Below.refl _ _).alloc (Nat.le_refl _) (.cells (callCells (nextC m)).toArray 39))
              have hb2 : Below w.heap.size w (V1.alloc (.cells (callCells (nextC m)).toArray 39)) := hb1.alloc hb1.size _
              have HJ2 := Lib.hid hj2
              have HB2 := Lib.hid hb2
              clear hst hj1 hch1 hb1 hj2 hb2 HNX
              generalize nextC m = nc1 at *
              go_upto_region 14 with fail
              generalize V1.alloc (.cells (callCells nc1).toArray 39) = V2 at *
              have HCL := Lib.hid (closed_is HJ2.out.is)
              have HLF := Lib.hid (left_is32 HJ2.out.is HF.out.took (by have := HFL.out; omega))
              go_wp2_with fail
              refine HCL.out.mono ?_
              rintro e w' ⟨rfl, rfl⟩
              rw [HQ0.out.c]
              go_wp2_with fail
              refine HLF.out.mono ?_
              rintro e V3 ⟨rfl, hb3⟩
              have HJ3 := Lib.hid (HJ2.out.below hb3)
              have HB3 := Lib.hid (HB2.out.trans (hb3.mono HB2.out.size))
              have hcx3 : V3.cell? ⟨g, o + i, none⟩ = some (.slice xa bl.length xc) := by rw [HB3.out.cell (p := ⟨g, o + i, none⟩) hgl]; exact hcx
              have hin := in_is HJ3.out.is HJ3.out.env HJ3.out.low.size HF.out.took (bl := bl) (bv := .slice xa bl.length xc) (by have := HFL.out; omega) (by have := HFL.out; omega) (HBL.out.below HB3.out) (fun hne g hg => .inl (HBL.out.blk hne hg)) (fun hne g hg e => by
                have h1 := HBL.out.blk hne hg
                have h2 := HJ3.out.is.low e
                omega)
              have HIN := Lib.hid hin
              clear hin hb3 HCL HLF HJ2 HB2 hcx
              generalize leftM (tookM m) = lf at *
              go_wp2_with fail
              refine HIN.out.mono ?_
              rintro e V4 ⟨⟨v4, rfl⟩, hst⟩
              obtain ⟨S3, hj4, hch4, -⟩ := HJ3.out.step hst
              have hb4 : Below w.heap.size w V4 := HB3.out.trans (hch4.below (fun k hk => ⟨Nat.lt_of_lt_of_le hk HB3.out.size, fun e => by have := HJ3.out.is.low e; omega⟩))
              have HJ4 := Lib.hid hj4
              have HB4 := Lib.hid hb4
              have hf4 := (HF.out.took.in bl).1
              have HF4 := Lib.hid hf4
              have HNX := Lib.hid (next_is hj4.is hf4.good)
              clear hst hj4 hch4 hb4 hf4 HIN HJ3 HB3 hcx3
              go_wp2_with fail
              refine HNX.out.mono ?_
              rintro e V5 ⟨rfl, hst⟩
              rw [HQ0.out.q]
              obtain ⟨S4, hj5, hch5, -⟩ := HJ4.out.step hst
              have hb5 : Below w.heap.size w V5 := HB4.out.trans (hch5.below (fun k hk => ⟨Nat.lt_of_lt_of_le hk HB4.out.size, fun e => by have := HJ4.out.is.low e; omega⟩))
              have hj6 := hj5.below ((Below.refl _ _).alloc (Nat.le_refl _) (.cells (callCells (nextC (inM (tookM m) bl))).toArray 39))
              have hb6 : Below w.heap.size w (V5.alloc (.cells (callCells (nextC (inM (tookM m) bl))).toArray 39)) := hb5.alloc hb5.size _
              have HJ5 := Lib.hid hj6
              have HLO5 := Lib.hid hb6
              have HF5 := Lib.hid HF4.out.took
              clear hst hj5 hch5 hb5 hj6 hb6 HNX HJ4 HB4 HF4
              generalize nextC (inM (tookM m) bl) = nc2 at *
              go_upto_region 18 with fail
              generalize V5.alloc (.cells (callCells nc2).toArray 39) = V5b at *
              rcases hcase with ⟨rfl, rfl, rfl⟩ | ⟨rfl, rfl, rfl⟩ | ⟨rfl, rfl, rfl⟩ | ⟨rfl, rfl, rfl⟩
              · have HQ := HFA
                clear HFA HQ0
                have hdone := done_is HJ5.out.is HJ5.out.env HJ5.out.low.size HF5.out (by have := HFL.out; omega) (by have := HFL.out; omega) missA missA_ok missA_small
                rw [HQ.out.1] at hdone
                have HD := Lib.hid hdone
                clear hdone
                go_wp2_with fail
                refine HD.out.mono ?_
                rintro e V7 ⟨rfl, hst7⟩
                obtain ⟨S7, hj7, hch7, -⟩ := HJ5.out.step hst7
                obtain ⟨hf7, t7, ht7⟩ := HF5.out.after (a := missA) missA_ok missA_small
                have hu7 : (afterM (tookM (inM (tookM m) bl)) missA).under = false := after_under HF5.out.good _
                have hlo7 := HLO5.out.trans (hch7.below (fun k hk => ⟨Nat.lt_of_lt_of_le hk HLO5.out.size, fun e => by have := HJ5.out.is.low e; omega⟩))
                obtain ⟨t5, ht5⟩ : ∃ t, (tookM (inM (tookM m) bl)).out = m.out ++ t := HQ.out.2.2.2.2.2
                have hpre : (afterM (tookM (inM (tookM m) bl)) missA).out = m.out ++ (t5 ++ t7) := by rw [ht7, ht5, List.append_assoc]
                have hfin := hf7.mono (B' := (L.take (i + 1)).flatten.length) (K' := 20000000 * (i + 2)) (by have := HFL.out; omega) (by have := HFL.out; omega)
                obtain ⟨m9, hm9⟩ : ∃ m9, m9 = afterM (tookM (inM (tookM m) bl)) missA := ⟨_, rfl⟩
                rw [← hm9] at hj7 hu7 hpre hfin
                have HJ7 := Lib.hid hj7
                have HF7 := Lib.hid hfin
                have HU7 := Lib.hid hu7
                have HLO7 := Lib.hid hlo7
                have HX := Lib.hid hx
                have hcutr := fun W => slice_to m9.out m.out.length (by rw [hpre, List.length_append]; omega) W
                rw [show m9.out.take m.out.length = m.out from by rw [hpre, List.take_append_of_le_length (Nat.le_refl _), List.take_length]] at hcutr
                have hlen9 : m.out.length ≤ m9.out.length := by rw [hpre, List.length_append]; omega
                have hout := Lib.hid (out_is hj7.is)
                clear hst7 hj7 hch7 hf7 ht7 hu7 hlo7 ht5 hpre hfin hm9 HD HJ5 HF5 HLO5 HQ HJ HF hx HBL
                go_wp2_with fail
                refine hout.out.mono ?_
                rintro e w' ⟨rfl, rfl⟩
                generalize hT : m9.out = T at *
                generalize hT0 : m.out = T0 at *
                have HT := Lib.hid hT
                clear hT hT0 hout
                have hlt26 : ¬ (T.length : Int) < (T0.length : Int) := by omega
                go_wp2_with fail
                go_roundw
                case rel => exact ⟨i + 1, m9, S7, by go_num, by rw [HT.out], by omega, HJ7.out, HF7.out, HU7.out, HLO7.out⟩
                case measure => simp [intOf]; omega
              · have HQ := Lib.hid (And.intro HFA.out.1 (And.intro HFA.out.2.1 (And.intro HFA.out.2.2.1 (And.intro (HFA.out.2.2.2.1 rfl) (And.intro (HFA.out.2.2.2.2.1 rfl) HFA.out.2.2.2.2.2)))))
                clear HFA HQ0
                have hleft := left_is32 HJ5.out.is HF5.out (by have := HFL.out; omega)
                have hlq : leftM (tookM (inM (tookM m) bl)) = lf := HQ.out.2.2.2.1
                rw [hlq] at hleft
                have HLE := Lib.hid hleft
                clear hleft hlq
                go_wp2_with fail
                refine HLE.out.mono ?_
                rintro e V6 ⟨rfl, hb6⟩
                have HJ6 := Lib.hid (HJ5.out.below hb6)
                have HW6 := Lib.hid (HLO5.out.trans (hb6.mono HLO5.out.size))
                clear hb6
                go_wp2_with fail
                refine (closed_is HJ6.out.is).mono ?_
                rintro e w' ⟨rfl, rfl⟩
                rw [HQ.out.2.2.2.2.1]
                clear HJ5 HLO5 HLE
                obtain ⟨V5, hV5⟩ : ∃ V, V = V6 := ⟨_, rfl⟩
                have HJ5 := Lib.hid (show CJ w p _ V5 S4 by rw [hV5]; exact HJ6.out)
                have HLO5 := Lib.hid (show Below w.heap.size w V5 by rw [hV5]; exact HW6.out)
                rw [← hV5]
                clear HJ6 HW6 hV5
                have hdone := done_is HJ5.out.is HJ5.out.env HJ5.out.low.size HF5.out (by have := HFL.out; omega) (by have := HFL.out; omega) zeroAn zeroAn_ok zeroAn_small
                rw [HQ.out.1] at hdone
                have HD := Lib.hid hdone
                clear hdone
                go_wp2_with fail
                refine HD.out.mono ?_
                rintro e V7 ⟨rfl, hst7⟩
                obtain ⟨S7, hj7, hch7, -⟩ := HJ5.out.step hst7
                obtain ⟨hf7, t7, ht7⟩ := HF5.out.after (a := zeroAn) zeroAn_ok zeroAn_small
                have hu7 : (afterM (tookM (inM (tookM m) bl)) zeroAn).under = false := after_under HF5.out.good _
                have hlo7 := HLO5.out.trans (hch7.below (fun k hk => ⟨Nat.lt_of_lt_of_le hk HLO5.out.size, fun e => by have := HJ5.out.is.low e; omega⟩))
                obtain ⟨t5, ht5⟩ : ∃ t, (tookM (inM (tookM m) bl)).out = m.out ++ t := HQ.out.2.2.2.2.2
                have hpre : (afterM (tookM (inM (tookM m) bl)) zeroAn).out = m.out ++ (t5 ++ t7) := by rw [ht7, ht5, List.append_assoc]
                have hfin := hf7.mono (B' := (L.take (i + 1)).flatten.length) (K' := 20000000 * (i + 2)) (by have := HFL.out; omega) (by have := HFL.out; omega)
                obtain ⟨m9, hm9⟩ : ∃ m9, m9 = afterM (tookM (inM (tookM m) bl)) zeroAn := ⟨_, rfl⟩
                rw [← hm9] at hj7 hu7 hpre hfin
                have HJ7 := Lib.hid hj7
                have HF7 := Lib.hid hfin
                have HU7 := Lib.hid hu7
                have HLO7 := Lib.hid hlo7
                have HX := Lib.hid hx
                have hcutr := fun W => slice_to m9.out m.out.length (by rw [hpre, List.length_append]; omega) W
                rw [show m9.out.take m.out.length = m.out from by rw [hpre, List.take_append_of_le_length (Nat.le_refl _), List.take_length]] at hcutr
                have hlen9 : m.out.length ≤ m9.out.length := by rw [hpre, List.length_append]; omega
                have hout := Lib.hid (out_is hj7.is)
                clear hst7 hj7 hch7 hf7 ht7 hu7 hlo7 ht5 hpre hfin hm9 HD HJ5 HF5 HLO5 HQ HJ HF hx HBL
                go_wp2_with fail
                refine hout.out.mono ?_
                rintro e w' ⟨rfl, rfl⟩
                generalize hT : m9.out = T at *
                generalize hT0 : m.out = T0 at *
                have HT := Lib.hid hT
                clear hT hT0 hout
                have hlt26 : ¬ (T.length : Int) < (T0.length : Int) := by omega
                go_wp2_with fail
                go_roundw
                case rel => exact ⟨i + 1, m9, S7, by go_num, by rw [HT.out], by omega, HJ7.out, HF7.out, HU7.out, HLO7.out⟩
                case measure => simp [intOf]; omega
              · have HQ := HFA
                clear HFA HQ0
                have hdone := done_is HJ5.out.is HJ5.out.env HJ5.out.low.size HF5.out (by have := HFL.out; omega) (by have := HFL.out; omega) missA missA_ok missA_small
                rw [HQ.out.1] at hdone
                have HD := Lib.hid hdone
                clear hdone
                go_wp2_with fail
                refine HD.out.mono ?_
                rintro e V7 ⟨rfl, hst7⟩
                obtain ⟨S7, hj7, hch7, -⟩ := HJ5.out.step hst7
                obtain ⟨hf7, t7, ht7⟩ := HF5.out.after (a := missA) missA_ok missA_small
                have hu7 : (afterM (tookM (inM (tookM m) bl)) missA).under = false := after_under HF5.out.good _
                have hlo7 := HLO5.out.trans (hch7.below (fun k hk => ⟨Nat.lt_of_lt_of_le hk HLO5.out.size, fun e => by have := HJ5.out.is.low e; omega⟩))
                obtain ⟨t5, ht5⟩ : ∃ t, (tookM (inM (tookM m) bl)).out = m.out ++ t := HQ.out.2.2.2.2.2
                have hpre : (afterM (tookM (inM (tookM m) bl)) missA).out = m.out ++ (t5 ++ t7) := by rw [ht7, ht5, List.append_assoc]
                have hfin := hf7.mono (B' := (L.take (i + 1)).flatten.length) (K' := 20000000 * (i + 2)) (by have := HFL.out; omega) (by have := HFL.out; omega)
                obtain ⟨m9, hm9⟩ : ∃ m9, m9 = afterM (tookM (inM (tookM m) bl)) missA := ⟨_, rfl⟩
                rw [← hm9] at hj7 hu7 hpre hfin
                have HJ7 := Lib.hid hj7
                have HF7 := Lib.hid hfin
                have HU7 := Lib.hid hu7
                have HLO7 := Lib.hid hlo7
                have HX := Lib.hid hx
                have hcutr := fun W => slice_to m9.out m.out.length (by rw [hpre, List.length_append]; omega) W
                rw [show m9.out.take m.out.length = m.out from by rw [hpre, List.take_append_of_le_length (Nat.le_refl _), List.take_length]] at hcutr
                have hlen9 : m.out.length ≤ m9.out.length := by rw [hpre, List.length_append]; omega
                have hout := Lib.hid (out_is hj7.is)
                clear hst7 hj7 hch7 hf7 ht7 hu7 hlo7 ht5 hpre hfin hm9 HD HJ5 HF5 HLO5 HQ HJ HF hx HBL
                go_wp2_with fail
                refine hout.out.mono ?_
                rintro e w' ⟨rfl, rfl⟩
                generalize hT : m9.out = T at *
                generalize hT0 : m.out = T0 at *
                have HT := Lib.hid hT
                clear hT hT0 hout
                have hlt26 : ¬ (T.length : Int) < (T0.length : Int) := by omega
                go_wp2_with fail
                go_roundw
                case rel => exact ⟨i + 1, m9, S7, by go_num, by rw [HT.out], by omega, HJ7.out, HF7.out, HU7.out, HLO7.out⟩
                case measure => simp [intOf]; omega
              · have HQ := HFA
                clear HFA HQ0
                have hdone := done_is HJ5.out.is HJ5.out.env HJ5.out.low.size HF5.out (by have := HFL.out; omega) (by have := HFL.out; omega) zeroAn zeroAn_ok zeroAn_small
                rw [HQ.out.1] at hdone
                have HD := Lib.hid hdone
                clear hdone
                go_wp2_with fail
                refine HD.out.mono ?_
                rintro e V7 ⟨rfl, hst7⟩
                obtain ⟨S7, hj7, hch7, -⟩ := HJ5.out.step hst7
                obtain ⟨hf7, t7, ht7⟩ := HF5.out.after (a := zeroAn) zeroAn_ok zeroAn_small
                have hu7 : (afterM (tookM (inM (tookM m) bl)) zeroAn).under = false := after_under HF5.out.good _
                have hlo7 := HLO5.out.trans (hch7.below (fun k hk => ⟨Nat.lt_of_lt_of_le hk HLO5.out.size, fun e => by have := HJ5.out.is.low e; omega⟩))
                obtain ⟨t5, ht5⟩ : ∃ t, (tookM (inM (tookM m) bl)).out = m.out ++ t := HQ.out.2.2.2.2.2
                have hpre : (afterM (tookM (inM (tookM m) bl)) zeroAn).out = m.out ++ (t5 ++ t7) := by rw [ht7, ht5, List.append_assoc]
                have hfin := hf7.mono (B' := (L.take (i + 1)).flatten.length) (K' := 20000000 * (i + 2)) (by have := HFL.out; omega) (by have := HFL.out; omega)
                obtain ⟨m9, hm9⟩ : ∃ m9, m9 = afterM (tookM (inM (tookM m) bl)) zeroAn := ⟨_, rfl⟩
                rw [← hm9] at hj7 hu7 hpre hfin
                have HJ7 := Lib.hid hj7
                have HF7 := Lib.hid hfin
                have HU7 := Lib.hid hu7
                have HLO7 := Lib.hid hlo7
                have HX := Lib.hid hx
                have hcutr := fun W => slice_to m9.out m.out.length (by rw [hpre, List.length_append]; omega) W
                rw [show m9.out.take m.out.length = m.out from by rw [hpre, List.take_append_of_le_length (Nat.le_refl _), List.take_length]] at hcutr
                have hlen9 : m.out.length ≤ m9.out.length := by rw [hpre, List.length_append]; omega
                have hout := Lib.hid (out_is hj7.is)
                clear hst7 hj7 hch7 hf7 ht7 hu7 hlo7 ht5 hpre hfin hm9 HD HJ5 HF5 HLO5 HQ HJ HF hx HBL
                go_wp2_with fail
                refine hout.out.mono ?_
                rintro e w' ⟨rfl, rfl⟩
                generalize hT : m9.out = T at *
                generalize hT0 : m.out = T0 at *
                have HT := Lib.hid hT
                clear hT hT0 hout
                have hlt26 : ¬ (T.length : Int) < (T0.length : Int) := by omega
                go_wp2_with fail
                go_roundw
                case rel => exact ⟨i + 1, m9, S7, by go_num, by rw [HT.out], by omega, HJ7.out, HF7.out, HU7.out, HLO7.out⟩
                case measure => simp [intOf]; omega
            · have hge : ¬ (i : Int) < (L.length : Int) := by omega
              have HLL := Lib.hid ((lives32 _ (HJ.out.env.mono HLO.out.size)))
              go_wp2_with fail
              refine HLL.out.mono ?_
              rintro e w' ⟨rfl, hb⟩
              have HB := Lib.hid (HLO.out.trans (hb.mono HLO.out.size))
              clear hb
              go_wp2_with fail
              go_ret
              exact ⟨rfl, HB.out⟩
end Go.Proofs.YtddifbimlmkcbaaGreatDoor
