/- The law ConnsOrder, walked: what is told is, event by event, in the order in which they came. Condition: the answers' texts are of at most 1048576 bytes; the library's variables are as they are laid. -/
import Derived.Test.YtddifbimlmkcbaaGreatDoorConnOrderG
namespace Go.Proofs.YtddifbimlmkcbaaGreatDoor
open Go.RowKit Go.ChangeMaps Go.MapKept
set_option maxRecDepth 100000 in
set_option maxHeartbeats 100000000 in
theorem connsOrder_walk {w : World} {bv av : Value} {bl : List UInt8} {A : List AnsD} (hb : BRow w bv bl) (hA : AnsRow w av A) (hAs : AnsSmall A) (hE : EnvP w.heap.size w) :
    Calls Tryz.prog 3 #[bv, av] w fun e w' => e = .returned (.bool true) ∧ Below w.heap.size w w' := by
  obtain ⟨ba, bc, rfl⟩ := hb.len
  obtain ⟨aa, ac, rfl⟩ := hA.len
  have hAl := hA.1
  unfold maxLen at hAl
  have HLV := Lib.hid (fun W (h1 : EnvP w.heap.size W) (h2 : Below w.heap.size w W) => livesW h1 h2)
  have HLV0 := Lib.hid (livesW hE (Below.refl _ _))
  by_cases h1 : 4000 < bl.length
  · have d1 : decide ((4000 : Int) < (bl.length : Int)) = true := by rw [decide_eq_true_eq]; omega
    clear hb hA hAs hE HLV
    go_enter Tryz.func3, Tryz.ntmps3
    go_wp2_with fail
    refine HLV0.out.mono ?_
    rintro e w' ⟨rfl, hb⟩
    have HB := Lib.hid hb
    clear hb
    go_wp2_with fail
    go_ret
    exact ⟨rfl, HB.out⟩
  · have d1 : decide ((4000 : Int) < (bl.length : Int)) = false := by rw [decide_eq_false_iff_not]; omega
    by_cases h2 : 40 < A.length
    · have d2 : decide ((40 : Int) < (A.length : Int)) = true := by rw [decide_eq_true_eq]; omega
      clear hb hA hAs hE HLV
      go_enter Tryz.func3, Tryz.ntmps3
      go_wp2_with fail
      refine HLV0.out.mono ?_
      rintro e w' ⟨rfl, hb⟩
      have HB := Lib.hid hb
      clear hb
      go_wp2_with fail
      go_ret
      exact ⟨rfl, HB.out⟩
    · have d2 : decide ((40 : Int) < (A.length : Int)) = false := by rw [decide_eq_false_iff_not]; omega
      have hsz := size32_any hA
      have HSZ := Lib.hid hsz
      have HB := Lib.hid hb
      have HA := Lib.hid hA
      have HAS := Lib.hid hAs
      have HE := Lib.hid hE
      clear hb hA hAs hE hsz HLV0
      go_enter Tryz.func3, Tryz.ntmps3
      go_wp2_with fail
      refine HSZ.out.mono ?_
      rintro e W0 ⟨⟨n, rfl⟩, hb0⟩
      have HB0 := Lib.hid hb0
      have HE0 := Lib.hid (HE.out.chg (M := fun _ => False) (Chg.of_below hb0) (fun _ e => e.elim))
      clear hb0 HSZ
      by_cases h3 : 3000 < n
      · have d3 : decide (3000 < n) = true := by rw [decide_eq_true_eq]; exact h3
        go_wp2_with fail
        refine (HLV.out _ HE0.out HB0.out).mono ?_
        rintro e w' ⟨rfl, hb⟩
        have HB := Lib.hid hb
        clear hb
        go_wp2_with fail
        go_ret
        exact ⟨rfl, HB.out⟩
      · have d3 : decide (3000 < n) = false := by rw [decide_eq_false_iff_not]; exact h3
        by_cases h4 : A.length = 0
        · have d4 : ((A.length : Int) == 0) = true := by rw [beq_iff_eq]; omega
          clear h4
          go_wp2_with fail
          refine (HLV.out _ HE0.out HB0.out).mono ?_
          rintro e w' ⟨rfl, hb⟩
          have HB := Lib.hid hb
          clear hb
          go_wp2_with fail
          go_ret
          exact ⟨rfl, HB.out⟩
        · have d4 : ((A.length : Int) == 0) = false := by rw [beq_eq_false_iff_ne]; omega
          have hApos : 0 < A.length := by omega
          have HEW := Lib.hid (HE0.out.mono HB0.out.size)
          have ha := Chg.alloc (M := fun _ => False) (Chg.refl _ W0) (.cells feedZero 76)
          have hb1 : Below W0.heap.size W0 (W0.alloc (.cells feedZero 76)) := (Below.refl _ _).alloc (Nat.le_refl _) _
          have hf0 := feed_new (n₀ := W0.heap.size) W0 (Nat.le_refl _)
          have hin := in_any hf0 (HEW.out.env.chg ha (fun _ e => e.elim)) hb1.size goodF_new (by show 0 + bl.length < _; omega) ((HB.out.below HB0.out).below hb1) (fun hne g hg => .inl ((HB.out.below HB0.out).blk hne hg)) (fun _ _ _ e => by simp [Value.ownBlock] at e) ⟨by decide, by decide, by decide⟩ (by decide)
          have HIN := Lib.hid hin
          have H0 := Lib.hid hf0
          have HB1 := Lib.hid hb1
          clear hin hf0 hb1 ha h4
          go_wp2_with fail
          refine (new_any W0).mono ?_
          rintro e W0' ⟨rfl, rfl⟩
          go_wp2_with fail
          refine HIN.out.mono ?_
          rintro e W1 ⟨hv1, ks1, ev1, L, rfl, hf1, hc1, -, hev, hcut, hkw⟩
          obtain ⟨ea, rfl⟩ : ∃ a, ev1 = .slice a L.length L.length := hcut.1
          have hlow : Below W0.heap.size W0 W1 := HB1.out.trans (hc1.below (fun k hk => ⟨Nat.lt_of_lt_of_le hk HB1.out.size, fun hm => by have := H0.out.lowM k hm; omega⟩))
          have HROW := Lib.hid (show EvRow W1 (.slice ea L.length L.length) L from ⟨hcut.2.1, hkw⟩)
          have HB01 := Lib.hid (HB0.out.trans (hlow.mono HB0.out.size))
          have HEV := Lib.hid hev
          have hLl := few_evs hev
          have HOKE := Lib.hid (show ∀ x ∈ L, EvC x.2 from fun x hx => (run_okC goodC_new).2 x.2 (by rw [← hev]; exact List.mem_map.2 ⟨x, hx, rfl⟩))
          have HE1 := Lib.hid (HEW.out.chg (M := fun _ => False) (Chg.of_below hlow) (fun _ e => e.elim))
          obtain ⟨s3, hs3⟩ : ∃ s, s = bl.length / 3 := ⟨_, rfl⟩
          have hquo : (bl.length : Int) / 3 = (s3 : Int) := by omega
          have hquo2 : wrap64 (s3 : Int) = (s3 : Int) := IntWalk.wrap64_in _ (by omega)
          have hquo3 : wrap64 (1 + (s3 : Int)) = 1 + (s3 : Int) := IntWalk.wrap64_in _ (by omega)
          have hrun : Calls Tryz.prog 12 #[.slice ba bl.length bc, .int .i64 (1 + (s3 : Int)), .slice aa A.length ac, .bool false] W1 (RunPost W1 bl A) := by
            have := run_any (1 + s3) false (HB.out.below HB01.out) (by omega) (by omega) (by omega) (HA.out.below HB01.out) HAS.out (HE1.out.mono hlow.size)
            rw [show ((1 + s3 : Nat) : Int) = 1 + (s3 : Int) from by omega] at this
            exact this
          have HRUN := Lib.hid hrun
          clear hcut hkw hf1 hc1 hev hlow hrun hs3 HIN H0 HB1 HEW
          go_wp2_with fail
          refine HRUN.out.mono ?_
          rintro e W2 ⟨p, cv, m, C, S, rfl, hok⟩
          have HOK := Lib.hid hok
          have hfew := hok.few
          obtain ⟨ca, cc, rfl⟩ := row_slice hok.row
          have HROW2 := Lib.hid (HROW.out.below hok.cj.low)
          have HB2 := Lib.hid (HB01.out.trans (hok.cj.low.mono HB01.out.size))
          have HE2 := Lib.hid (HE.out.chg (M := fun _ => False) (w' := W2) ((Chg.refl _ _).then (M' := fun k => w.heap.size ≤ k) ⟨HB2.out.os, HB2.out.tape, HB2.out.output, HB2.out.size, fun k hk hm => HB2.out.block k hk⟩ (fun k hk e => by omega)) (fun _ e => e.elim))
          have hol := hok.fit.out
          clear hok HRUN HROW HB01 HE1 HE0 HB0 HLV
          go_wp2_with fail
          go_loopw [9, 10, 11, 12] (fun s9 s10 s11 s12 wr => ∃ (i n : Nat) (o : List UInt8) (cl : Bool), s9 = sv o ∧ s10 = .int .i64 (n : Int) ∧ s11 = .bool cl ∧ s12 = .int .i64 (i : Int) ∧ i ≤ L.length ∧ OrderI (ansF A) (L.map (·.2)) C m.out m.closed i n o cl ∧ Below W2.heap.size W2 wr) (fun _ _ _ s12 _ => L.length - (intOf s12).toNat)
          case atStart => exact ⟨0, 0, [], false, rfl, rfl, rfl, rfl, Nat.zero_le _, order_start (by rw [HEV.out]; exact HOK.out.sum), Below.refl _ _⟩
          case round =>
            obtain ⟨i, n, o, cl, rfl, rfl, rfl, rfl, hi, hor, hlo⟩ := hrel
            have HOR := Lib.hid hor
            have HLO := Lib.hid hlo
            clear hor hlo
            by_cases hgo : i < L.length ∧ cl = false
            · obtain ⟨hlt, rfl⟩ := hgo
              obtain ⟨⟨ke, ev⟩, hx⟩ : ∃ x, L[i]? = some x := ⟨_, List.getElem?_eq_getElem hlt⟩
              obtain ⟨g1, o1, c1, hs1, hcell1, hk1⟩ := (HROW2.out.below HLO.out).at hx
              obtain ⟨ka, kc, rfl⟩ := hk1.len
              obtain ⟨rfl, -, -⟩ := slice_inj hs1
              obtain ⟨b1, hbb1⟩ : ∃ b, b = o1 + i * 13 := ⟨_, rfl⟩
              have ix1 : ∀ W : World, (Instr.indexAt 28 (.slice (some ⟨g1, o1, none⟩) L.length L.length) (.int .i64 (i : Int))).run Tryz.prog W = .ok (.pointer (some ⟨g1, b1, none⟩)) W := fun W => by rw [hbb1]; exact idx_ev rfl hlt W
              have y0 : wr.cell? ⟨g1, b1, none⟩ = some (.int .u8 (ev.cmd.verb : Int)) := by
                have h := hcell1 0 _ rfl
                rwa [show o1 + (i * 13 + 0) = b1 from by omega] at h
              have y1 : wr.cell? ⟨g1, b1 + 1, none⟩ = some (.slice ka ev.cmd.keys.length kc) := by
                have h := hcell1 1 _ rfl
                rwa [show o1 + (i * 13 + 1) = b1 + 1 from by omega] at h
              have y2 : wr.cell? ⟨g1, b1 + 2, none⟩ = some (.int .u8 (ev.cmd.cverb : Int)) := by
                have h := hcell1 2 _ rfl
                rwa [show o1 + (i * 13 + 2) = b1 + 2 from by omega] at h
              have y3 : wr.cell? ⟨g1, b1 + 3, none⟩ = some (sv ev.cmd.key) := by
                have h := hcell1 3 _ rfl
                rwa [show o1 + (i * 13 + 3) = b1 + 3 from by omega] at h
              have y4 : wr.cell? ⟨g1, b1 + 4, none⟩ = some (sv ev.cmd.value) := by
                have h := hcell1 4 _ rfl
                rwa [show o1 + (i * 13 + 4) = b1 + 4 from by omega] at h
              have y5 : wr.cell? ⟨g1, b1 + 5, none⟩ = some (.int .u32 (ev.cmd.flags : Int)) := by
                have h := hcell1 5 _ rfl
                rwa [show o1 + (i * 13 + 5) = b1 + 5 from by omega] at h
              have y6 : wr.cell? ⟨g1, b1 + 6, none⟩ = some (.int .i64 ev.cmd.exp) := by
                have h := hcell1 6 _ rfl
                rwa [show o1 + (i * 13 + 6) = b1 + 6 from by omega] at h
              have y7 : wr.cell? ⟨g1, b1 + 7, none⟩ = some (.int .u64 (ev.cmd.id : Int)) := by
                have h := hcell1 7 _ rfl
                rwa [show o1 + (i * 13 + 7) = b1 + 7 from by omega] at h
              have y8 : wr.cell? ⟨g1, b1 + 8, none⟩ = some (.int .u64 (ev.cmd.by' : Int)) := by
                have h := hcell1 8 _ rfl
                rwa [show o1 + (i * 13 + 8) = b1 + 8 from by omega] at h
              have y9 : wr.cell? ⟨g1, b1 + 9, none⟩ = some (.int .i64 ev.cmd.bytes) := by
                have h := hcell1 9 _ rfl
                rwa [show o1 + (i * 13 + 9) = b1 + 9 from by omega] at h
              have y10 : wr.cell? ⟨g1, b1 + 10, none⟩ = some (.bool ev.cmd.quiet) := by
                have h := hcell1 10 _ rfl
                rwa [show o1 + (i * 13 + 10) = b1 + 10 from by omega] at h
              have y11 : wr.cell? ⟨g1, b1 + 11, none⟩ = some (sv ev.data) := by
                have h := hcell1 11 _ rfl
                rwa [show o1 + (i * 13 + 11) = b1 + 11 from by omega] at h
              have y12 : wr.cell? ⟨g1, b1 + 12, none⟩ = some (.int .u8 (ev.told : Int)) := by
                have h := hcell1 12 _ rfl
                rwa [show o1 + (i * 13 + 12) = b1 + 12 from by omega] at h
              have HE := Lib.hid (show (L.map (·.2))[i]? = some ev from by rw [List.getElem?_map, hx]; rfl)
              have HEC := Lib.hid (HOKE.out (.slice ka ev.cmd.keys.length kc, ev) (List.mem_of_getElem? hx))
              have HK1 := Lib.hid hk1
              have hkl : ev.told = 0 → ev.cmd.keys.length ≤ 2048 := fun h => par_keys (HEC.out.ok.par h)
              have HKL := Lib.hid hkl
              obtain ⟨hnl, tt, htt⟩ := HOR.out.small (K := 2300000) (fun c n last => tellM_len c (ansF A n) (HAS.out.at n).1 (HAS.out.at n).2 last)
              have hol2 : o.length ≤ 100000000000 := by
                have := congrArg List.length htt
                rw [List.length_append] at this
                omega
              have HBX := Lib.hid (fun o1 : Obj => (Below.refl wr.heap.size wr).alloc (Nat.le_refl _) o1)
              have hg1l : g1 < wr.heap.size := cell_lt y0
              clear hcell1 hk1 hbb1 hs1 hx hkl htt
              by_cases h0 : ev.told = 0
              · by_cases h12 : ev.cmd.verb = 12
                · skip
                  have hne : ((ev.told : Int) != 0) = false := by rw [bne_eq_false_iff_eq]; omega
                  have hne1 : ((ev.cmd.verb : Int) == 12) = true := by rw [beq_iff_eq]; omega
                  have HOR2 := Lib.hid (HOR.out.quiet HE.out (fun h => by have := h.2; omega) (callsE_skip (.inr (.inl h12))))
                  obtain ⟨X, hX⟩ : ∃ X, X = versionL := ⟨_, rfl⟩
                  have hXl : X.length ≤ 200 := by rw [hX]; exact version_len
                  have HQE := Lib.hid (show quietE ev o = o ++ X from by rw [hX]; unfold quietE; rw [if_neg (by omega), if_pos h12])
                  have HOF := Lib.hid (fun W => version_any W)
                  rw [← hX] at HOF
                  clear hX h0 h12
                  obtain ⟨T, hT⟩ : ∃ T, T = o ++ X := ⟨_, rfl⟩
                  have hcat : (⟨o.toArray⟩ : ByteArray) ++ ⟨X.toArray⟩ = ⟨T.toArray⟩ := by rw [hT]; exact ByteArray.ext (by simp)
                  have hcl : ¬ 9223372036854775807 < o.length + X.length := by omega
                  have HTT := Lib.hid hT
                  clear hT
                  go_wp2_with fail
                  refine (HOF.out _).mono ?_
                  rintro e V1 ⟨rfl, hb1⟩
                  have HB1 := Lib.hid ((HBX.out _).trans (hb1.mono (HBX.out _).size))
                  clear hb1 HOF
                  go_wp2_with fail
                  go_roundw
                  case rel => exact ⟨i + 1, n, T, false, rfl, rfl, rfl, by go_num, by omega, by rw [HTT.out, ← HQE.out]; exact HOR2.out, HLO.out.trans (HB1.out.mono HLO.out.size)⟩
                  case measure => simp [intOf]; omega
                · by_cases h13 : ev.cmd.verb = 13
                  · skip
                    have hne : ((ev.told : Int) != 0) = false := by rw [bne_eq_false_iff_eq]; omega
                    have hne1 : ((ev.cmd.verb : Int) == 12) = false := by rw [beq_eq_false_iff_ne]; omega
                    have hne2 : ((ev.cmd.verb : Int) == 13) = true := by rw [beq_iff_eq]; omega
                    have HOR2 := Lib.hid (HOR.out.quit HE.out ⟨h0, h13⟩)
                    clear h0 h12 h13
                    go_wp2_with fail
                    go_roundw
                    case rel => exact ⟨i + 1, n, o, true, rfl, rfl, rfl, by go_num, by omega, HOR2.out, HLO.out.trans ((HBX.out _).mono HLO.out.size)⟩
                    case measure => simp [intOf]; omega
                  · by_cases hg : ev.cmd.verb = 1 ∨ ev.cmd.verb = 2
                    · skip
                      refine connsOrder_gets h2 hApos HA HAS hfew HOK HB2 HE2 HLO hlt HOR ix1 y0 y1 y2 y3 y4 y5 y6 y7 y8 y9 y10 y11 y12 HE HEC HK1 HKL hnl hol2 HBX hg1l (by omega) h0 h12 h13 hg ?_
                      clear ix1 y0 y1 y2 y3 y4 y5 y6 y7 y8 y9 y10 y11 y12
                      intro v4 v13 v14 v48 v49 v50 v51 v52 v53 v54 v55 v56 v57 v58 v59 v60 v61 v62 v63 v64 v65 v66 v67 v68 v69 v70 v71 v72 v73 v74 v75 v76 v77 v78 v79 v80 v81 v82 v83 v84 v85 v86 v87 v88 v89 v90 v91 v92 v93 v94 v95 v96 v97 v98 v99 v100 v101 v102 v103 v104 v105 v106 v107 v108 v109 v110 v111 v112 v113 v114 v115 v116 v117 v118 v119 v120 v121 v122 v123 v124 v125 v126 v127 v128 v129 v130 v131 v132 v133 v134 v135 v136 v137 v138 v139 v140 v141 v142 v143 v144 v145 v146 v147 v148 v149 v150 v151 v152 v153 v154 v155 v156 v157 v158 v159 v160 v161 v162 v163 v164 v165 v166 v167 v168 v169 v170 v171 v172 v173 v174 v175 v176 v177 v178 v179 v180 v181 v182 v183 v184 v185 v186 v187 v188 v189 v190 v191 v192 v193 v194 v195 v196 v197 v198 v199 o' n' W' hor' hb'
                      dsimp only
                      go_roundw
                      case rel => exact ⟨i + 1, n', o', false, rfl, rfl, rfl, by go_num, by omega, hor', hb'⟩
                      case measure => simp [intOf]; omega
                    · skip
                      have hne : ((ev.told : Int) != 0) = false := by rw [bne_eq_false_iff_eq]; omega
                      have hne1 : ((ev.cmd.verb : Int) == 12) = false := by rw [beq_eq_false_iff_ne]; omega
                      have hne2 : ((ev.cmd.verb : Int) == 13) = false := by rw [beq_eq_false_iff_ne]; omega
                      have hne3 : ((ev.cmd.verb : Int) == 1) = false := by rw [beq_eq_false_iff_ne]; omega
                      have hne4 : ((ev.cmd.verb : Int) == 2) = false := by rw [beq_eq_false_iff_ne]; omega
                      have hce := callsE_one h0 (fun h => hg (.inl h)) (fun h => hg (.inr h)) h12 h13
                      obtain ⟨hcj, hor2⟩ := HOR.out.calls HE.out (fun h => h13 h.2) (by rw [hce]; simp)
                      rw [hce] at hcj hor2
                      have hc0 := hcj 0 _ rfl
                      rw [Nat.add_zero] at hc0
                      have hcv := ev_cverb HEC.out.ok h0
                      have hnC : n < C.length := (List.getElem?_eq_some_iff.1 hc0).1
                      obtain ⟨g2, rfl, z0, z1, z2, z3, z4, z5, z6⟩ := callRow_cells (row_below HOK.out.row HLO.out) hc0
                      have ix2 := fun W => idx_callC (a := some ⟨g2, 0, none⟩) (c := cc) rfl hnC W
                      obtain ⟨b2, hb2⟩ : ∃ b, b = n * 7 := ⟨_, rfl⟩
                      rw [← hb2] at z0 z1 z2 z3 z4 z5 z6 ix2
                      have hg2l : g2 < wr.heap.size := cell_lt z0
                      have hcv2 : ((ev.cmd.cverb : Int) != (ev.cmd.verb : Int)) = false := by rw [hcv]; simp
                      have hge : decide (C.length ≤ n) = false := by rw [decide_eq_false_iff_not]; omega
                      have hor3 : OrderI (ansF A) (L.map (·.2)) C m.out m.closed (i + 1) (n + 1) (o ++ tellM ev.cmd (ansF A n) true) false := by
                        have h := hor2
                        rw [show tellsM ev.cmd (ansF A) n [({ ev.cmd with value := ev.data } : Cmd)].length = tellM ev.cmd (ansF A n) true from by show tellM ev.cmd (ansF A n) (0 == 0) ++ [] = _; rw [List.append_nil]; rfl] at h
                        exact h
                      have HOR3 := Lib.hid hor3
                      have HNC := Lib.hid hnC
                      have HG := Lib.hid hg
                      clear hce hcj hc0 hor2 hcv hb2 h0 h12 h13 hg hor3 hnC
                      go_upto_region 13 with fail
                      go_cut [100] (fun s100 wx => s100 = .bool false ∧ wx.heap[wr.heap.size]? = some (.cells #[.int .u8 (ev.cmd.verb : Int), .slice ka ev.cmd.keys.length kc, .int .u8 (ev.cmd.cverb : Int), sv ev.cmd.key, sv ev.cmd.value, .int .u32 (ev.cmd.flags : Int), .int .i64 ev.cmd.exp, .int .u64 (ev.cmd.id : Int), .int .u64 (ev.cmd.by' : Int), .int .i64 ev.cmd.bytes, .bool ev.cmd.quiet] 41 (0, 0)) ∧ Below wr.heap.size wr wx)
                      case first =>
                        go_quiet (fail)
                        go_wp2_with fail
                        go_meet
                        case rel => exact ⟨rfl, (by show (World.alloc wr _).heap[wr.heap.size]? = _; rw [heap_at, if_pos rfl]), clow_drewN (HBX.out _) _⟩
                      case rest =>
                        obtain ⟨rfl, hbox, hb0⟩ := hcut
                        clear HBX y0 y1 y2 y3 y4 y5 y6 y7 y8 y9 y10 y11 y12 z0 z1 z2 z3 z4 z5 z6 ix1 ix2
                        have v0 : wc.cell? ⟨wr.heap.size, 0, none⟩ = some (.int .u8 (ev.cmd.verb : Int)) := (block_cell hbox 0).1
                        have v1 : wc.cell? ⟨wr.heap.size, 1, none⟩ = some (.slice ka ev.cmd.keys.length kc) := (block_cell hbox 1).1
                        have v2 : wc.cell? ⟨wr.heap.size, 2, none⟩ = some (.int .u8 (ev.cmd.cverb : Int)) := (block_cell hbox 2).1
                        have v3 : wc.cell? ⟨wr.heap.size, 3, none⟩ = some (sv ev.cmd.key) := (block_cell hbox 3).1
                        have v4 : wc.cell? ⟨wr.heap.size, 4, none⟩ = some (sv ev.cmd.value) := (block_cell hbox 4).1
                        have v5 : wc.cell? ⟨wr.heap.size, 5, none⟩ = some (.int .u32 (ev.cmd.flags : Int)) := (block_cell hbox 5).1
                        have v6 : wc.cell? ⟨wr.heap.size, 6, none⟩ = some (.int .i64 ev.cmd.exp) := (block_cell hbox 6).1
                        have v7 : wc.cell? ⟨wr.heap.size, 7, none⟩ = some (.int .u64 (ev.cmd.id : Int)) := (block_cell hbox 7).1
                        have v8 : wc.cell? ⟨wr.heap.size, 8, none⟩ = some (.int .u64 (ev.cmd.by' : Int)) := (block_cell hbox 8).1
                        have v9 : wc.cell? ⟨wr.heap.size, 9, none⟩ = some (.int .i64 ev.cmd.bytes) := (block_cell hbox 9).1
                        have v10 : wc.cell? ⟨wr.heap.size, 10, none⟩ = some (.bool ev.cmd.quiet) := (block_cell hbox 10).1
                        have HB0 := Lib.hid hb0
                        clear hb0 hbox
                        cases hq : ev.cmd.quiet
                        · skip
                          rw [hq] at v10
                          have htm : tellM ev.cmd (ansF A n) true = ansOf false (ansF A n).kind (ansF A n).number := by unfold tellM; rw [if_neg HG.out, hq, if_neg (by simp)]
                          have HOR2 := Lib.hid (htm ▸ HOR3.out)
                          clear htm HOR3
                          obtain ⟨q, hq⟩ : ∃ q, q = n % A.length := ⟨_, rfl⟩
                          have hqlt : q < A.length := by rw [hq]; exact Nat.mod_lt _ (by omega)
                          have hmod : ((n : Int)).tmod (A.length : Int) = (q : Int) := by rw [hq]; rfl
                          have hmod2 : ((n : Int)) % (A.length : Int) = (q : Int) := by rw [hq]; rfl
                          have hApos2 : (0 : Int) < (A.length : Int) := by omega
                          have hAnil : ¬ A = [] := by intro e; rw [e] at hqlt; exact absurd hqlt (Nat.not_lt_zero _)
                          obtain ⟨y, hy⟩ : ∃ y, A[q]? = some y := ⟨_, List.getElem?_eq_getElem hqlt⟩
                          obtain ⟨ga, oa, ba2, rfl, hga, hba, -, a0, a1, a2, a3, a4, a5, a6, a7⟩ := (HA.out.below (HB2.out.trans (HLO.out.mono HB2.out.size))).at hy
                          have ixa := fun W => idx_ans (a := some ⟨ga, oa, none⟩) (c := ac) rfl hqlt W
                          rw [← hba] at ixa
                          have HYF := Lib.hid (show y = ansF A (n) from by unfold ansF; rw [← hq, List.getD_eq_getElem?_getD, hy]; rfl)
                          have HYO := Lib.hid (HAS.out.at (n))
                          rw [← HYF.out] at HYO
                          clear hq hy hba
                          rw [← HYF.out] at HOR2
                          obtain ⟨X, hX⟩ : ∃ X, X = ansOf false y.kind y.number := ⟨_, rfl⟩
                          have hXl : X.length ≤ 2200000 := by rw [hX]; exact ansOf_len _ _ HYO.out.1.number
                          rw [← hX] at HOR2
                          have HANS := Lib.hid (fun W (hb : Below wr.heap.size wr W) => (show Calls Tryz.prog 17 #[.agg #[.int .u8 (ev.cmd.verb : Int), .slice ka ev.cmd.keys.length kc, .int .u8 (ev.cmd.cverb : Int), sv ev.cmd.key, sv ev.cmd.value, .int .u32 (ev.cmd.flags : Int), .int .i64 ev.cmd.exp, .int .u64 (ev.cmd.id : Int), .int .u64 (ev.cmd.by' : Int), .int .i64 ev.cmd.bytes, .bool false], y.val] W fun e' w' => e' = .returned (sv X) ∧ Below W.heap.size W w' from by
                            have h := answer_any (toD ka ev.cmd.keys.length kc ev.cmd) y W HYO.out.1 (HE2.out.chg (M := fun _ => False) (Chg.of_below (HLO.out.trans (hb.mono HLO.out.size))) (fun _ e => e.elim)).pow
                            rw [toD_val, show (toD ka ev.cmd.keys.length kc ev.cmd).quiet = false from hq, ← hX, show cmdCells (.slice ka ev.cmd.keys.length kc) ev.cmd = [.int .u8 (ev.cmd.verb : Int), .slice ka ev.cmd.keys.length kc, .int .u8 (ev.cmd.cverb : Int), sv ev.cmd.key, sv ev.cmd.value, .int .u32 (ev.cmd.flags : Int), .int .i64 ev.cmd.exp, .int .u64 (ev.cmd.id : Int), .int .u64 (ev.cmd.by' : Int), .int .i64 ev.cmd.bytes, .bool false] from by rw [← hq]] at h
                            exact h))
                          obtain ⟨T, hT⟩ : ∃ T, T = o ++ X := ⟨_, rfl⟩
                          have hcat : (⟨o.toArray⟩ : ByteArray) ++ ⟨X.toArray⟩ = ⟨T.toArray⟩ := by rw [hT]; exact ByteArray.ext (by simp)
                          have hcl : ¬ 9223372036854775807 < o.length + X.length := by omega
                          have HTT := Lib.hid hT
                          clear hT
                          clear hX hq
                          have c0 := (HB0.out.cell (p := ⟨ga, ba2, none⟩) hga).trans a0
                          have c1 := (HB0.out.cell (p := ⟨ga, ba2 + 1, none⟩) hga).trans a1
                          have c2 := (HB0.out.cell (p := ⟨ga, ba2 + 2, none⟩) hga).trans a2
                          have c3 := (HB0.out.cell (p := ⟨ga, ba2 + 3, none⟩) hga).trans a3
                          have c4 := (HB0.out.cell (p := ⟨ga, ba2 + 4, none⟩) hga).trans a4
                          have c5 := (HB0.out.cell (p := ⟨ga, ba2 + 5, none⟩) hga).trans a5
                          have c6 := (HB0.out.cell (p := ⟨ga, ba2 + 6, none⟩) hga).trans a6
                          have c7 := (HB0.out.cell (p := ⟨ga, ba2 + 7, none⟩) hga).trans a7
                          clear a0 a1 a2 a3 a4 a5 a6 a7
                          go_wp2_with fail
                          go_region_law (first
                            | (refine step_call (by rfl) 17 #[.agg #[.int .u8 (ev.cmd.verb : Int), .slice ka ev.cmd.keys.length kc, .int .u8 (ev.cmd.cverb : Int), sv ev.cmd.key, sv ev.cmd.value, .int .u32 (ev.cmd.flags : Int), .int .i64 ev.cmd.exp, .int .u64 (ev.cmd.id : Int), .int .u64 (ev.cmd.by' : Int), .int .i64 ev.cmd.bytes, .bool false], y.val] (by go_simp) (HANS.out _ HB0.out.drew) ?_; rintro e V1 ⟨rfl, hb1⟩; refine ⟨_, rfl, ?_⟩; have HB1 := Lib.hid (HB0.out.drew.trans (hb1.mono HB0.out.drew.size)); clear hb1 HANS)
                            | fail)
                          all_goals go_wp2_with fail
                          all_goals go_roundw
                          all_goals first | (case rel => exact ⟨i + 1, n + 1, T, false, rfl, by go_num, rfl, by go_num, by omega, by rw [HTT.out]; exact HOR2.out, HLO.out.trans (HB1.out.mono HLO.out.size)⟩) | skip
                          all_goals first | (case measure => simp [intOf]; omega) | skip
                        · skip
                          rw [hq] at v10
                          have htm : tellM ev.cmd (ansF A n) true = [] := by unfold tellM; rw [if_neg HG.out, hq, if_pos rfl]
                          have HOR2 := Lib.hid (htm ▸ HOR3.out)
                          clear htm HOR3
                          clear hq
                          go_wp2_with fail
                          go_roundw
                          case rel => exact ⟨i + 1, n + 1, o, false, rfl, by go_num, rfl, by go_num, by omega, by have h := HOR2.out; rw [List.append_nil] at h; exact h, HLO.out.trans (HB0.out.mono HLO.out.size)⟩
                          case measure => simp [intOf]; omega
              · skip
                have hne : ((ev.told : Int) != 0) = true := by rw [bne_iff_ne]; omega
                have HOR2 := Lib.hid (HOR.out.quiet HE.out (fun h => h0 h.1) (callsE_skip (.inl h0)))
                obtain ⟨X, hX⟩ : ∃ X, X = tOf ev.told := ⟨_, rfl⟩
                have hXl : X.length ≤ 200 := by rw [hX]; exact tOf_len _
                have HQE := Lib.hid (show quietE ev o = o ++ X from by rw [hX]; unfold quietE; rw [if_pos h0])
                have HOF := Lib.hid (fun W => of_any ev.told W (Nat.le_trans HEC.out.told (by decide)))
                rw [← hX] at HOF
                clear hX h0
                obtain ⟨T, hT⟩ : ∃ T, T = o ++ X := ⟨_, rfl⟩
                have hcat : (⟨o.toArray⟩ : ByteArray) ++ ⟨X.toArray⟩ = ⟨T.toArray⟩ := by rw [hT]; exact ByteArray.ext (by simp)
                have hcl : ¬ 9223372036854775807 < o.length + X.length := by omega
                have HTT := Lib.hid hT
                clear hT
                go_wp2_with fail
                refine (HOF.out _).mono ?_
                rintro e V1 ⟨rfl, hb1⟩
                have HB1 := Lib.hid ((HBX.out _).trans (hb1.mono (HBX.out _).size))
                clear hb1 HOF
                go_wp2_with fail
                go_roundw
                case rel => exact ⟨i + 1, n, T, false, rfl, rfl, rfl, by go_num, by omega, by rw [HTT.out, ← HQE.out]; exact HOR2.out, HLO.out.trans (HB1.out.mono HLO.out.size)⟩
                case measure => simp [intOf]; omega
            · have hfin : n = C.length ∧ o = m.out ∧ m.closed = cl := by
                cases cl
                · have := HOR.out.fin (by rw [List.length_map]; exact Nat.le_of_not_lt (fun h => hgo ⟨h, rfl⟩))
                  exact ⟨this.1, this.2.1, this.2.2⟩
                · exact HOR.out.done
              by_cases hi2 : i < L.length
              · skip
                obtain ⟨rfl, rfl, hcl⟩ := hfin
                have HK2 := HOK.out.below HLO.out
                have hout1 := out_is HK2.cj.is
                have hcl1 := closed_is HK2.cj.is
                rw [hcl] at hcl1
                have HO1 := Lib.hid hout1
                have HC1 := Lib.hid hcl1
                have HLV := Lib.hid (fun W (hb : Below wr.heap.size wr W) => livesW (w := w) (W := W) ((HE2.out.chg (M := fun _ => False) (Chg.of_below (HLO.out.trans (hb.mono HLO.out.size))) (fun _ e => e.elim))) (HB2.out.trans ((HLO.out.trans (hb.mono HLO.out.size)).mono HB2.out.size)))
                have hol3 : m.out.length ≤ 100000000000 := HOK.out.fit.out
                clear hcl hout1 hcl1 HK2
                obtain rfl : cl = true := by
                  cases cl
                  · exact absurd ⟨hi2, rfl⟩ hgo
                  · rfl
                clear hgo
                go_wp2_with fail
                refine HC1.out.mono ?_
                rintro e V1 ⟨rfl, rfl⟩
                go_wp2_with fail
                refine HO1.out.mono ?_
                rintro e V1 ⟨rfl, rfl⟩
                go_wp2_with fail
                refine (HLV.out _ (Below.refl _ _)).mono ?_
                rintro e V2 ⟨rfl, hb⟩
                have HB := Lib.hid hb
                clear hb
                go_wp2_with fail
                go_ret
                exact ⟨rfl, HB.out⟩
              · skip
                obtain ⟨rfl, rfl, hcl⟩ := hfin
                have HK2 := HOK.out.below HLO.out
                have hout1 := out_is HK2.cj.is
                have hcl1 := closed_is HK2.cj.is
                rw [hcl] at hcl1
                have HO1 := Lib.hid hout1
                have HC1 := Lib.hid hcl1
                have HLV := Lib.hid (fun W (hb : Below wr.heap.size wr W) => livesW (w := w) (W := W) ((HE2.out.chg (M := fun _ => False) (Chg.of_below (HLO.out.trans (hb.mono HLO.out.size))) (fun _ e => e.elim))) (HB2.out.trans ((HLO.out.trans (hb.mono HLO.out.size)).mono HB2.out.size)))
                have hol3 : m.out.length ≤ 100000000000 := HOK.out.fit.out
                clear hcl hout1 hcl1 HK2
                clear hgo
                go_wp2_with fail
                refine HC1.out.mono ?_
                rintro e V1 ⟨rfl, rfl⟩
                go_wp2_with fail
                refine HO1.out.mono ?_
                rintro e V1 ⟨rfl, rfl⟩
                go_wp2_with fail
                refine (HLV.out _ (Below.refl _ _)).mono ?_
                rintro e V2 ⟨rfl, hb⟩
                have HB := Lib.hid hb
                clear hb
                go_wp2_with fail
                go_ret
                exact ⟨rfl, HB.out⟩
end Go.Proofs.YtddifbimlmkcbaaGreatDoor
