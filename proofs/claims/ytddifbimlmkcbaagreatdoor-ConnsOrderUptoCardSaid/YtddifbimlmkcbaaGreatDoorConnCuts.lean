/- The law ConnsCuts, walked: however bytes are cut, and however late calls are answered, it is the same. Condition: the answers' texts are of at most 1048576 bytes; the library's variables are as they are laid. -/
import Derived.Test.YtddifbimlmkcbaaGreatDoorConnRunW
namespace Go.Proofs.YtddifbimlmkcbaaGreatDoor
open Go.RowKit Go.ChangeMaps Go.MapKept
section
variable {w : World} {bl : List UInt8} {A : List AnsD} {p : Nat} {W W' : World} {cv : Value} {m : ConnM} {C : List Cmd} {S : Nat → Prop}
theorem RunOk.below (h : RunOk w bl A p W cv m C S) (hb : Below W.heap.size W W') : RunOk w bl A p W' cv m C S :=
  ⟨h.cj.below hb, row_below h.row hb, h.apart, h.fit, h.none, h.sum, h.few⟩
theorem RunOk.left (h : RunOk w bl A p W cv m C S) : leftM m = 0 := by
  unfold leftM
  rw [if_pos h.none, h.fit.good.idle h.none]
  rfl
theorem callsC_cell : ∀ {C : List Cmd} {k : Nat} {x : Cmd} {j : Nat} {u : Value}, C[k]? = some x → (callCells x)[j]? = some u → (callsCells C)[k * 7 + j]? = some u
  | [], k, x, j, u, h, _ => by simp at h
  | c :: C, 0, x, j, u, h, hu => by
    obtain rfl : c = x := by simpa using h
    show (callCells c ++ callsCells C)[0 * 7 + j]? = _
    rw [Nat.zero_mul, Nat.zero_add, List.getElem?_append_left (List.getElem?_eq_some_iff.1 hu).1]
    exact hu
  | c :: C, k + 1, x, j, u, h, hu => by
    show (callCells c ++ callsCells C)[(k + 1) * 7 + j]? = _
    rw [show (k + 1) * 7 + j = (callCells c).length + (k * 7 + j) from by show _ = 7 + _; omega, List.getElem?_append_right (by omega), Nat.add_sub_cancel_left]
    exact callsC_cell (by simpa using h) hu
theorem idx_callC {a : Option Addr} {g n c k : Nat} (ha : a = some ⟨g, 0, none⟩) (hk : k < n) (W : World) : (Instr.indexAt 31 (.slice a n c) (.int .i64 (k : Int))).run Tryz.prog W = .ok (.pointer (some ⟨g, k * 7, none⟩)) W := by
  subst ha
  have h0 : (0 : Int) ≤ (k : Int) := by omega
  have h1 : (k : Int) < (n : Int) := by omega
  have h2 := Tryz.underlying31
  obtain ⟨i0, hi, hz0, hz1, hz2⟩ := info_parts infoCall
  go_simp
/-- A call of a row of one's own. -/
theorem callRow_cells {B : Nat} {a : Option Addr} {n c : Nat} {C : List Cmd} (h : W.ownsRow B 39 7 (.slice a n c) n (callsCells C)) {k : Nat} {x : Cmd} (hk : C[k]? = some x) :
    ∃ g, a = some ⟨g, 0, none⟩ ∧ W.cell? ⟨g, k * 7, none⟩ = some (.int .u8 (x.cverb : Int)) ∧ W.cell? ⟨g, k * 7 + 1, none⟩ = some (sv x.key) ∧ W.cell? ⟨g, k * 7 + 2, none⟩ = some (sv x.value) ∧ W.cell? ⟨g, k * 7 + 3, none⟩ = some (.int .u32 (x.flags : Int)) ∧
      W.cell? ⟨g, k * 7 + 4, none⟩ = some (.int .i64 x.exp) ∧ W.cell? ⟨g, k * 7 + 5, none⟩ = some (.int .u64 (x.id : Int)) ∧ W.cell? ⟨g, k * 7 + 6, none⟩ = some (.int .u64 (x.by' : Int)) := by
  have hm := MidRow.of_owns h
  rcases h.2 with ⟨h1, h2⟩ | ⟨g, cap, cur, h1, -⟩
  · have hl := h.1
    rw [h2, Nat.zero_mul] at hl
    have := callsC_cell hk (j := 0) (u := .int .u8 (x.cverb : Int)) rfl
    rw [List.eq_nil_of_length_eq_zero hl] at this
    simp at this
  · obtain ⟨rfl, -, rfl⟩ := slice_inj h1
    have hc := fun j u hju => hm.cell (callsC_cell hk (j := j) (u := u) hju)
    simp only [Nat.zero_add] at hc
    exact ⟨g, rfl, hc 0 _ rfl, hc 1 _ rfl, hc 2 _ rfl, hc 3 _ rfl, hc 4 _ rfl, hc 5 _ rfl, hc 6 _ rfl⟩
end
theorem livesW {w W : World} (hE : EnvP w.heap.size W) (hb : Below w.heap.size w W) : Calls Tryz.prog 9 #[] W fun e w' => e = .returned (.bool true) ∧ Below w.heap.size w w' :=
  (lives32 W (hE.mono hb.size)).mono fun _ _ h => ⟨h.1, hb.trans (h.2.mono hb.size)⟩
set_option maxRecDepth 100000 in
set_option maxHeartbeats 16000000 in
theorem connsCuts_walk {w : World} {bv av : Value} {bl : List UInt8} {A : List AnsD} (ch : Nat) (hch : ch < 65536) (hb : BRow w bv bl) (hA : AnsRow w av A) (hAs : AnsSmall A) (hE : EnvP w.heap.size w) :
    Calls Tryz.prog 6 #[bv, .int .u16 (ch : Int), av] w fun e w' => e = .returned (.bool true) ∧ Below w.heap.size w w' := by
  obtain ⟨ba, bc, rfl⟩ := hb.len
  obtain ⟨aa, ac, rfl⟩ := hA.len
  have hAl := hA.1
  unfold maxLen at hAl
  have HLV := Lib.hid (fun W (h1 : EnvP w.heap.size W) (h2 : Below w.heap.size w W) => livesW h1 h2)
  have HLV0 := Lib.hid (livesW hE (Below.refl _ _))
  by_cases h1 : 4000 < bl.length
  · have d1 : decide ((4000 : Int) < (bl.length : Int)) = true := by rw [decide_eq_true_eq]; omega
    clear hb hA hAs hE HLV
    go_enter Tryz.func6, Tryz.ntmps6
    go_wp2_with fail
    refine HLV0.out.mono ?_
    rintro e w' ⟨rfl, hb⟩
    have HB := Lib.hid hb
    clear hb
    go_wp2_with fail
    go_ret
    exact ⟨rfl, HB.out⟩
  · have d1 : decide ((4000 : Int) < (bl.length : Int)) = false := by rw [decide_eq_false_iff_not]; omega
    by_cases h2 : 40 < A.length
    · have d2 : decide ((40 : Int) < (A.length : Int)) = true := by rw [decide_eq_true_eq]; omega
      clear hb hA hAs hE HLV
      go_enter Tryz.func6, Tryz.ntmps6
      go_wp2_with fail
      refine HLV0.out.mono ?_
      rintro e w' ⟨rfl, hb⟩
      have HB := Lib.hid hb
      clear hb
      go_wp2_with fail
      go_ret
      exact ⟨rfl, HB.out⟩
    · have d2 : decide ((40 : Int) < (A.length : Int)) = false := by rw [decide_eq_false_iff_not]; omega
      have hsz := size32_any hA
      have HSZ := Lib.hid hsz
      have HB := Lib.hid hb
      have HA := Lib.hid hA
      have HAS := Lib.hid hAs
      have HE := Lib.hid hE
      clear hb hA hAs hE hsz HLV0
      go_enter Tryz.func6, Tryz.ntmps6
      go_wp2_with fail
      refine HSZ.out.mono ?_
      rintro e W0 ⟨⟨n, rfl⟩, hb0⟩
      have HB0 := Lib.hid hb0
      have HE0 := Lib.hid (HE.out.chg (M := fun _ => False) (Chg.of_below hb0) (fun _ e => e.elim))
      clear hb0 HSZ
      by_cases h3 : 3000 < n
      · have d3 : decide (3000 < n) = true := by rw [decide_eq_true_eq]; exact h3
        go_wp2_with fail
        refine (HLV.out _ HE0.out HB0.out).mono ?_
        rintro e w' ⟨rfl, hb⟩
        have HB := Lib.hid hb
        clear hb
        go_wp2_with fail
        go_ret
        exact ⟨rfl, HB.out⟩
      · have d3 : decide (3000 < n) = false := by rw [decide_eq_false_iff_not]; exact h3
        have hrun := run_any 4001 false (HB.out.below HB0.out) (by omega) (by decide) (by decide) (HA.out.below HB0.out) HAS.out (HE0.out.mono HB0.out.size)
        have HRUN := Lib.hid hrun
        clear hrun
        go_wp2_with fail
        refine HRUN.out.mono ?_
        rintro e W1 ⟨p, cv, m, C, S, rfl, hok⟩
        have HOK := Lib.hid hok
        have hfew := hok.few
        obtain ⟨ca, cc, rfl⟩ := row_slice hok.row
        clear hok HRUN
        go_wp2_with fail
        go_loopw [9] (fun s9 wr => ∃ i : Nat, s9 = .int .i64 (i : Int) ∧ i ≤ 2 ∧ RunOk W0 bl A p wr (.slice ca C.length cc) m C S ∧ Below w.heap.size w wr) (fun s9 _ => 3 - (intOf s9).toNat)
        case atStart => exact ⟨0, rfl, by omega, HOK.out, HB0.out.trans (HOK.out.cj.low.mono HB0.out.size)⟩
        case round =>
          obtain ⟨i, rfl, hi, hok, hlo⟩ := hrel
          clear HOK
          have HOK := Lib.hid hok
          have HLO := Lib.hid hlo
          have hEr := HE.out.chg (M := fun _ => False) (w' := wr) ((Chg.refl _ _).then (M' := fun k => w.heap.size ≤ k) ⟨hlo.os, hlo.tape, hlo.output, hlo.size, fun k hk hm => hlo.block k hk⟩ (fun k hk e => by omega)) (fun _ e => e.elim)
          have HER := Lib.hid hEr
          clear hok hlo hEr
          by_cases hi2 : i < 2
          · obtain ⟨lt, hlt⟩ : ∃ b : Bool, ((i : Int) == 1) = b := ⟨_, rfl⟩
            have hrun : Calls Tryz.prog 12 #[.slice ba bl.length bc, .int .i64 (1 + (ch : Int)), .slice aa A.length ac, .bool lt] wr (RunPost wr bl A) := by
              have := run_any (1 + ch) lt (HB.out.below HLO.out) (by omega) (by omega) (by omega) (HA.out.below HLO.out) HAS.out (HER.out.mono HLO.out.size)
              rw [show ((1 + ch : Nat) : Int) = 1 + (ch : Int) from by omega] at this
              exact this
            have HRUN := Lib.hid hrun
            clear hrun
            go_wp2_with fail
            refine HRUN.out.mono ?_
            rintro e W2 ⟨q, dv, m', D, S', rfl, hok2⟩
            have hsum := hok2.sum.symm.trans HOK.out.sum
            obtain ⟨rfl, ho, hcl⟩ : D = C ∧ m'.out = m.out ∧ m'.closed = m.closed := ⟨congrArg SumR.calls hsum, congrArg SumR.out hsum, congrArg SumR.closed hsum⟩
            have hok1 := HOK.out.below hok2.cj.low
            have hlo2 := HLO.out.trans (hok2.cj.low.mono HLO.out.size)
            obtain ⟨da, dc, rfl⟩ := row_slice hok2.row
            have hout1 := out_is hok1.cj.is
            have hout2 := out_is hok2.cj.is
            have hcl1 := closed_is hok1.cj.is
            have hcl2 := closed_is hok2.cj.is
            have hleft := left_is32 hok2.cj.is hok2.fit (by decide)
            rw [hok2.left] at hleft
            rw [ho] at hout2
            rw [hcl] at hcl2
            have HO1 := Lib.hid hout1
            have HO2 := Lib.hid hout2
            have HC1 := Lib.hid hcl1
            have HC2 := Lib.hid hcl2
            have HLF := Lib.hid hleft
            have HK1 := Lib.hid hok1
            have HK2 := Lib.hid hok2
            have HLO2 := Lib.hid hlo2
            clear hsum ho hcl hout1 hout2 hcl1 hcl2 hleft hok1 hok2 hlo2 HRUN HOK HLO HER
            go_wp2_with fail
            refine HO1.out.mono ?_
            rintro e w' ⟨rfl, rfl⟩
            go_wp2_with fail
            refine HO2.out.mono ?_
            rintro e w' ⟨rfl, rfl⟩
            go_wp2_with fail
            refine HC1.out.mono ?_
            rintro e w' ⟨rfl, rfl⟩
            go_wp2_with fail
            refine HC2.out.mono ?_
            rintro e w' ⟨rfl, rfl⟩
            go_wp2_with fail
            refine HLF.out.mono ?_
            rintro e W3 ⟨rfl, hb3⟩
            have HK1' := Lib.hid (HK1.out.below hb3)
            have HK2' := Lib.hid (HK2.out.below hb3)
            have HLO3 := Lib.hid (HLO2.out.trans (hb3.mono HLO2.out.size))
            clear hb3 HO1 HO2 HC1 HC2 HLF HK1 HK2 HLO2
            go_wp2_with fail
            obtain ⟨B2, hB2⟩ : ∃ B2, B2 = wr.heap.size := ⟨_, rfl⟩
            have HR2 := Lib.hid HK2'.out.row
            rw [← hB2] at HR2
            clear hB2 HK2'
            go_loopw [12] (fun s12 wr => ∃ k : Nat, s12 = .int .i64 (k : Int) ∧ k ≤ D.length ∧ RunOk W0 bl A p wr (.slice ca D.length cc) m D S ∧ wr.ownsRow B2 39 7 (.slice da D.length dc) D.length (callsCells D) ∧ Below w.heap.size w wr) (fun s12 _ => D.length - (intOf s12).toNat)
            case atStart => exact ⟨0, rfl, Nat.zero_le _, HK1'.out, HR2.out, HLO3.out⟩
            case round =>
              obtain ⟨k, rfl, hk, hok1, hr2, hlo⟩ := hrel
              clear HK1' HR2 HLO3
              by_cases hkl : k < D.length
              · obtain ⟨x, hx⟩ : ∃ x, D[k]? = some x := ⟨_, List.getElem?_eq_getElem hkl⟩
                obtain ⟨g1, rfl, y0, y1, y2, y3, y4, y5, y6⟩ := callRow_cells hok1.row hx
                obtain ⟨g2, rfl, z0, z1, z2, z3, z4, z5, z6⟩ := callRow_cells hr2 hx
                have ix1 := fun W => idx_callC (a := some ⟨g1, 0, none⟩) (c := cc) rfl hkl W
                have ix2 := fun W => idx_callC (a := some ⟨g2, 0, none⟩) (c := dc) rfl hkl W
                obtain ⟨b, hb⟩ : ∃ b, b = k * 7 := ⟨_, rfl⟩
                rw [← hb] at y0 y1 y2 y3 y4 y5 y6 z0 z1 z2 z3 z4 z5 z6 ix1 ix2
                have HK1 := Lib.hid hok1
                have HR2 := Lib.hid hr2
                have HLO := Lib.hid hlo
                clear hb hok1 hr2 hlo hx
                go_upto_region 13 with fail
                go_quiet (fail)
                go_wp2_with fail
                go_roundw
                case rel => exact ⟨k + 1, by go_num, by omega, HK1.out.below (clow_drewN (Below.refl _ _) _), row_below HR2.out (clow_drewN (Below.refl _ _) _), clow_drewN HLO.out _⟩
                case measure => simp [intOf]; omega
              · have hkd : ¬ (k : Int) < (D.length : Int) := by omega
                have HK1 := Lib.hid hok1
                have HLO := Lib.hid hlo
                clear hok1 hr2 hlo
                go_wp2_with fail
                go_roundw
                case rel => exact ⟨i + 1, by go_num, by omega, HK1.out, HLO.out⟩
                case measure => simp [intOf]; omega
          · have hi3 : ¬ (i : Int) < 2 := by omega
            go_wp2_with fail
            refine (HLV.out _ HER.out HLO.out).mono ?_
            rintro e w' ⟨rfl, hb⟩
            have HB := Lib.hid hb
            clear hb
            go_wp2_with fail
            go_ret
            exact ⟨rfl, HB.out⟩
end Go.Proofs.YtddifbimlmkcbaaGreatDoor
