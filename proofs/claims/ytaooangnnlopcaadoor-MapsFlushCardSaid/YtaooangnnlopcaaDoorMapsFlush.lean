/- The law MapsFlush, walked. Condition: the library's tables lie as they are laid. -/
import Derived.Test.YtaooangnnlopcaaDoorMapsKeep2
namespace Go.Proofs.YtaooangnnlopcaaDoor
open Go.RowKit Go.ChangeMaps Go.MapKept
/-- A test that lets what follows go on only where P holds. -/
def MayGo (v : Value) (P : Prop) : Prop := ∃ b : Bool, v = .bool b ∧ (b = false → P)
theorem mayGo_yes {P : Prop} : MayGo (.bool true) P := ⟨true, rfl, fun h => by cases h⟩
theorem mayGo_no {P : Prop} (h : P) : MayGo (.bool false) P := ⟨false, rfl, fun _ => h⟩
section
variable {w W : World} {p : Nat} {m : MapM} {bs : List (Nat × Array Value)} {c : CallD} {ep : Nat}
theorem lv_do (h : LvAt w W p m bs) (hme : m.epoch < 18446744073709551616) (he : ep < 18446744073709551616) (hc : CallFit c) (hid : m.ids < 18446744073709551615) (hE : HasErr w) (hP : HasPow w) : Calls Tryd.prog 12 #[.pointer (some ⟨p, 0, none⟩), .agg #[.int .u8 c.verb, .string c.key, .string c.value, .int .u32 c.flags, .int .i64 c.exp, .int .u64 c.id, .int .u64 c.by'], .int .u64 (ep : Int)] W fun e w' => e = .returned (.agg (doesM m c ep).1.cells) ∧ LvAt w w' p (doesM m c ep).2 bs := by
  refine (does_any h.map hme he hc.key hc.verb hc.exp hc.by' hid (hE.below h.bel) (hP.below h.bel)).mono ?_
  rintro e w1 ⟨rfl, hm1, hc⟩
  exact ⟨rfl, h.step hm1 hc⟩
end
theorem fit_get {k : ByteArray} (hk : k.size ≤ maxLen) : CallFit (getC k) := ⟨by show (0 : Int) ≤ 1 ∧ (1 : Int) ≤ 255; omega, hk, by show 0 ≤ maxLen; omega, by show (0 : Int) ≤ 0 ∧ (0 : Int) ≤ 4294967295; omega, by show -9223372036854775808 ≤ (0 : Int) ∧ (0 : Int) ≤ 9223372036854775807; omega, by show (0 : Int) ≤ 0 ∧ (0 : Int) ≤ 18446744073709551615; omega, by show (0 : Int) ≤ 0 ∧ (0 : Int) ≤ 18446744073709551615; omega⟩
def setC (k : ByteArray) : CallD := ⟨3, k, ⟨#[]⟩, 0, 0, 0, 0⟩
theorem fit_set {k : ByteArray} (hk : k.size ≤ maxLen) : CallFit (setC k) := ⟨by show (0 : Int) ≤ 3 ∧ (3 : Int) ≤ 255; omega, hk, by show 0 ≤ maxLen; omega, by show (0 : Int) ≤ 0 ∧ (0 : Int) ≤ 4294967295; omega, by show -9223372036854775808 ≤ (0 : Int) ∧ (0 : Int) ≤ 9223372036854775807; omega, by show (0 : Int) ≤ 0 ∧ (0 : Int) ≤ 18446744073709551615; omega, by show (0 : Int) ≤ 0 ∧ (0 : Int) ≤ 18446744073709551615; omega⟩
theorem fit_flush {n : Nat} (hn : n ≤ 20) : CallFit (flushC n) := ⟨by show (0 : Int) ≤ 11 ∧ (11 : Int) ≤ 255; omega, by show 0 ≤ maxLen; omega, by show 0 ≤ maxLen; omega, by show (0 : Int) ≤ 0 ∧ (0 : Int) ≤ 4294967295; omega, by show -9223372036854775808 ≤ (n : Int) ∧ (n : Int) ≤ 9223372036854775807; omega, by show (0 : Int) ≤ 0 ∧ (0 : Int) ≤ 18446744073709551615; omega, by show (0 : Int) ≤ 0 ∧ (0 : Int) ≤ 18446744073709551615; omega⟩
theorem LvAt.less {w W : World} {p : Nat} {m : MapM} {b : Nat × Array Value} {bs : List (Nat × Array Value)} (h : LvAt w W p m (b :: bs)) : LvAt w W p m bs := ⟨h.map, h.low, h.new, h.bel, fun x hx => h.held x (.tail _ hx)⟩
set_option maxRecDepth 100000 in
set_option maxHeartbeats 8000000 in
theorem mapsFlush_walk {w : World} {lv : Value} {L : List StepD} {d : Nat} {K : ByteArray} (hl : StepRow w lv L) (hd : d < 256) (hk : K.size ≤ maxLen) (hE : HasErr w) (hP : HasPow w) : Calls Tryd.prog 6 #[lv, .int .u8 (d : Int), .string K] w fun e w' => e = .returned (.bool true) ∧ Below w.heap.size w w' := by
  have HL := Lib.hid hl
  have HE := Lib.hid hE
  have HP := Lib.hid hP
  have HK := Lib.hid hk
  have hmx := hl.1
  have hkx := hk
  unfold maxLen at hmx hkx
  obtain ⟨-, hsx, la, lc, rfl, hcell⟩ := hl
  have HSX := Lib.hid hsx
  have HC := Lib.hid (fun (j : Nat) (x : StepD) (hj : L[j]? = some x) => StepRow.at (c := lc) hcell hj)
  clear hE hP hk hsx hcell
  go_enter Tryd.func6, Tryd.ntmps6
  go_upto_region 1 with fail
  go_cut [26] (fun s26 wx => MayGo s26 (L.length ≤ 100 ∧ okB (bs K) = true) ∧ Below w.heap.size w wx)
  case first =>
    go_wp2_with fail
    refine (long_any HL.out).mono ?_
    rintro e W1 ⟨⟨b, rfl, h100⟩, hb⟩
    have HB1 := Lib.hid hb
    have H100 := Lib.hid h100
    clear hb h100
    cases b
    · have h100 := Lib.hid (H100.out rfl)
      clear H100
      by_cases h300 : 300 < K.size
      · have d1 : decide ((300 : Int) < (K.size : Int)) = true := by rw [decide_eq_true_eq]; omega
        go_wp2_with fail
        go_meet
        case rel => exact ⟨mayGo_yes, HB1.out⟩
      · have d1 : decide ((300 : Int) < (K.size : Int)) = false := by rw [decide_eq_false_iff_not]; omega
        go_wp2_with fail
        refine (ok_any K _ HK.out).mono ?_
        rintro e W2 ⟨rfl, rfl⟩
        cases hok : okB (bs K)
        · go_wp2_with fail
          go_meet
          case rel => exact ⟨mayGo_yes, HB1.out⟩
        · go_wp2_with fail
          go_meet
          case rel => exact ⟨mayGo_no ⟨h100.out, hok⟩, HB1.out⟩
    · go_wp2_with fail
      go_meet
      case rel => exact ⟨mayGo_yes, HB1.out⟩
  case rest =>
    obtain ⟨⟨b, rfl, hgo⟩, hb⟩ := hcut
    obtain ⟨W1, rfl⟩ : ∃ X, X = wc := ⟨_, rfl⟩
    have HBW := Lib.hid hb
    have HGO := Lib.hid hgo
    have HL1 := Lib.hid (HL.out.below hb)
    have HE1 := Lib.hid (HE.out.below hb)
    have HP1 := Lib.hid (HP.out.below hb)
    clear hb hgo HL HE HP
    cases b
    · have hgo := HGO.out rfl
      have HOK := Lib.hid hgo.2
      have H100 := Lib.hid hgo.1
      clear HGO hgo
      go_wp2_with fail
      refine (mapsNew_own _).mono ?_
      rintro e W2 ⟨rfl, hl⟩
      obtain ⟨p, hp⟩ : ∃ p, p = W1.heap.size := ⟨_, rfl⟩
      rw [← hp] at hl ⊢
      have HL := Lib.hid hl
      clear hl hp
      go_upto_region 4 with fail
      go_wp2_with fail
      refine (run_any (ep := 0) HL.out HL1.out (by decide) (by decide) (by have := H100.out; show 0 + L.length < _; omega) HE1.out HP1.out).mono ?_
      rintro e W3 ⟨rfl, hl, -, -, hid⟩
      have hid2 : (runL (newM, 0) L).1.ids ≤ 100 := by have : newM.ids = 0 := rfl; have := H100.out; omega
      have hro := RunOk.new.run L
      clear hid
      obtain ⟨⟨m, ep⟩, hr⟩ : ∃ r, r = runL (newM, 0) L := ⟨_, rfl⟩
      rw [← hr] at hl hid2 hro ⊢
      simp only at hl hid2 hro ⊢
      have HL2 := Lib.hid hl
      have HRO := Lib.hid hro
      have HID := Lib.hid hid2
      clear hl hid2 hro hr HL
      have HL := HL2
      clear HL2
      go_upto_region 5 with fail
      obtain ⟨g, hg⟩ : ∃ g, g = genE ep := ⟨_, rfl⟩
      obtain ⟨nw, hnw⟩ : ∃ g, g = nowE ep := ⟨_, rfl⟩
      have HGE := Lib.hid (fun W => gen_any ep HRO.out.he W)
      have HNO := Lib.hid (fun W => now_any ep HRO.out.he W)
      rw [← hg] at HGE
      rw [← hnw] at HNO
      have HGG := Lib.hid hg
      have HNW := Lib.hid hnw
      clear hg hnw
      go_cut [39] (fun s39 wx => MayGo s39 (g ≠ 65535 ∧ nw ≤ 16777185) ∧ LvAt W1 wx p m [])
      case first =>
        go_wp2_with fail
        refine (HGE.out _).mono ?_
        rintro e W4 ⟨rfl, hb⟩
        have HL2 := Lib.hid (HL.out.below hb)
        clear hb HL
        by_cases h1 : g = 65535
        · have e1 : ((g : Int) == 65535) = true := by rw [h1]; rfl
          clear h1
          go_wp2_with fail
          go_meet
          case rel => exact ⟨mayGo_yes, HL2.out⟩
        · have e1 : ((g : Int) == 65535) = false := by rw [beq_eq_false_iff_ne]; omega
          have H1 := Lib.hid h1
          clear h1
          go_wp2_with fail
          refine (HNO.out _).mono ?_
          rintro e W5 ⟨rfl, hb⟩
          have HL3 := Lib.hid (HL2.out.below hb)
          clear hb HL2
          by_cases h2 : 16777185 < nw
          · have d1 : decide ((16777185 : Int) < (nw : Int)) = true := by rw [decide_eq_true_eq]; omega
            go_wp2_with fail
            go_meet
            case rel => exact ⟨mayGo_yes, HL3.out⟩
          · have d1 : decide ((16777185 : Int) < (nw : Int)) = false := by rw [decide_eq_false_iff_not]; omega
            go_wp2_with fail
            go_meet
            case rel => exact ⟨mayGo_no ⟨H1.out, by omega⟩, HL3.out⟩
      case rest =>
        obtain ⟨⟨b, rfl, hgo⟩, hl⟩ := hcut
        obtain ⟨W4, rfl⟩ : ∃ X, X = wc := ⟨_, rfl⟩
        have HL2 := Lib.hid hl
        have HGO := Lib.hid hgo
        clear hl hgo HL HGE HNO
        have HL := HL2
        clear HL2
        cases b
        · have hgo := HGO.out rfl
          obtain ⟨n, hn⟩ : ∃ n, n = d % 21 := ⟨_, rfl⟩
          have HGN := Lib.hid (show genE ep ≠ 65535 ∧ nowE ep + n ≤ 16777215 from ⟨by rw [← HGG.out]; exact hgo.1, by rw [← HNW.out]; have := hgo.2; omega⟩)
          have q1 : (d : Int) % 21 = (n : Int) := by omega
          have q2 : (d : Int).tmod 21 = (n : Int) := by rw [Int.tmod_eq_emod_of_nonneg (by omega)]; exact q1
          have hn20 : n ≤ 20 := by omega
          clear hgo HGO HGG HNW hn
          go_wp2_with fail
          refine (mapsCount_any HL.out.map).mono ?_
          rintro e W5 ⟨rfl, rfl⟩
          go_upto_region 8 with fail
          go_upto_region 9 with fail
          go_wp2_with fail
          have hdo := lv_do (c := flushC n) (ep := ep) HL.out HRO.out.me HRO.out.he (fit_flush hn20) (by have := HID.out; omega) HE1.out HP1.out
          rw [does_flush HRO.out.comes HGN.out.1] at hdo
          refine hdo.mono ?_
          rintro e W6 ⟨rfl, hl⟩
          have hfl := flushed HRO.out HGN.out.1 HGN.out.2
          have hi2 := HID.out
          obtain ⟨e0, he0⟩ : ∃ e0, e0 = (flushE ep n).1 := ⟨_, rfl⟩
          rw [← he0] at hl hfl
          have he0l : e0 < 18446744073709551616 := hfl.me
          have HL2 := Lib.hid hl
          have HFL := Lib.hid hfl
          have HE0 := Lib.hid he0l
          clear hl hdo hfl he0 he0l HL q1 q2 hi2
          have HL := HL2
          clear HL2
          have qf := field_kind
          rw [show (⟨10, 0, noItem⟩ : AnsD).cells = #[.int .u8 10, .int .u64 0, .string ⟨#[]⟩, .string ⟨#[]⟩, .int .u32 0, .int .u64 0, .int .i64 0, .int .i64 0] from rfl]
          obtain ⟨m1, hm1⟩ : ∃ m1 : MapM, m1 = ⟨m.L, e0, m.ids⟩ := ⟨_, rfl⟩
          have hf1 := HFL.out
          have hl1 := HL.out
          rw [← hm1] at hf1 hl1
          have HFL2 := Lib.hid hf1
          have HL2 := Lib.hid hl1
          have HM1 := Lib.hid (show m1.L.length = m.L.length ∧ m1.epoch = e0 ∧ m1.ids ≤ 100 from by rw [hm1]; exact ⟨rfl, rfl, HID.out⟩)
          clear hf1 hl1 HL HFL hm1 HID HRO HGN
          go_upto_region 11 with fail
          go_wp2_with fail
          refine (mapsEpoch_any HL2.out.map).mono ?_
          rintro e W7 ⟨rfl, rfl⟩
          rw [HM1.out.2.1]
          go_upto_region 13 with fail
          go_loopw [8, 11] (fun s8 s11 wk => ∃ k : Nat, s11 = .int .i64 (k : Int) ∧ s8 = .int .u64 (ticksN k e0 : Int) ∧ k ≤ n ∧ Hid (LvAt W1 wk p m1 [])) (fun _ s11 _ => 21 - (intOf s11).toNat)
          case atStart => exact ⟨0, rfl, rfl, Nat.zero_le _, HL2⟩
          case round =>
            obtain ⟨k, rfl, rfl, hkn, HLk⟩ := hrel
            clear HL2
            by_cases hk2 : k < n
            · go_upto_region 15 with fail
              go_wp2_with fail
              refine (tick_any (ticksN k e0) (ticksN_lt HE0.out k) _).mono ?_
              rintro e W8 ⟨rfl, hb⟩
              have HL3 := Lib.hid (HLk.out.below hb)
              clear hb HLk
              go_wp2_with fail
              go_roundw
              case rel => exact ⟨k + 1, by go_num, rfl, by omega, HL3⟩
              case measure => simp [intOf]; omega
            · obtain rfl : k = n := by omega
              clear hk2 hkn
              have hfl := HFL2.out
              obtain ⟨E, hE⟩ : ∃ E, E = ticksN k e0 := ⟨_, rfl⟩
              rw [← hE] at hfl ⊢
              have HFL := Lib.hid hfl
              clear hfl hE HFL2 HE0
              go_upto_region 17 with fail
              go_loopw [12] (fun s12 wk => ∃ i : Nat, s12 = .int .i64 (i : Int) ∧ i ≤ L.length ∧ Hid (LvAt W1 wk p m1 [])) (fun s12 _ => L.length - (intOf s12).toNat)
              case atStart => exact ⟨0, rfl, Nat.zero_le _, HLk⟩
              case round =>
                obtain ⟨i, rfl, hi, HLi⟩ := hrel
                clear HLk
                have hbl : Below w.heap.size w wr := HBW.out.trans (HLi.out.bel.mono HBW.out.size)
                by_cases hlt : i < L.length
                · obtain ⟨x, hx⟩ : ∃ x, L[i]? = some x := ⟨_, List.getElem?_eq_getElem hlt⟩
                  obtain ⟨g, b, hix, hcw⟩ := HC.out i x hx
                  have hsi := (HSX.out x (List.mem_of_getElem? hx)).call.key
                  have x1 := hcw wr hbl 1 _ rfl
                  clear hcw hx hbl
                  generalize x.call.key = XK at *
                  have HXK := Lib.hid hsi
                  clear hsi
                  go_upto_region 19 with fail
                  go_wp2_with fail
                  have hc := fit_get HXK.out
                  refine (mapsGives_any (c := getC XK) (ep := E) HLi.out.map HFL.out.me HFL.out.he hc.key hc.verb hc.exp hc.by' (by have := HM1.out.2.2; omega) (HE1.out.below HLi.out.bel) (HP1.out.below HLi.out.bel)).mono ?_
                  rintro e W8 ⟨rfl, hb⟩
                  have HL2 := Lib.hid (HLi.out.below hb)
                  have hold := get_old (m := m1) (k := XK) (ep := E) HFL.out.old
                  clear hb hc HLi x1
                  obtain ⟨a, ha⟩ : ∃ a, a = ansM m1 (getC XK) E := ⟨_, rfl⟩
                  obtain ⟨is, his⟩ : ∃ b, b = isM m1 (getC XK) E := ⟨_, rfl⟩
                  rw [← ha, ← his] at hold ⊢
                  have HOLD := Lib.hid hold
                  clear hold ha his
                  go_upto_region 20 with (first | ((with_reducible show wpList _ _ _ (⟨none, Op.store 39 _ _, _, _, _, _⟩ :: _) _ _); refine wpList_store_whole (by rfl) 39 (.tmp 13) (.tmp 79) (by rfl) W8.heap.size (by rfl) #[.int .u8 a.kind, .int .u64 a.number, .string a.item.key, .string a.item.value, .int .u32 a.item.flags, .int .u64 a.item.id, .int .i64 a.item.dies, .int .i64 a.item.gen] (by rfl) _ 39 (heap_alloc_new _ _) (by rfl) (by kernel_rfl) (by simp [Value.oneCell']) ?_; intro w2 hr2 hg2 hs2; have HG2 := Lib.hid hg2; have HR2 := Lib.hid hr2; clear hg2 hr2 hs2) | fail)
                  have hl := HL2.out.put HR2.out HG2.out
                  obtain ⟨q, hq⟩ : ∃ q, q = W8.heap.size := ⟨_, rfl⟩
                  rw [← hq] at hl ⊢
                  have y0 : w2.cell? ⟨q, 0, none⟩ = some (.int .u8 a.kind) := (cells_at (hl.held _ (.head _)).2 0).1
                  have HL3 := Lib.hid hl.less
                  clear hl hq HG2 HR2 HL2
                  generalize a.kind = ak at *
                  rcases HOLD.out with hh | hh
                  · subst hh
                    clear HOLD
                    go_wp2_with fail
                    go_roundw
                    case rel => exact ⟨i + 1, by go_num, by omega, HL3⟩
                    case measure => simp [intOf]; omega
                  · subst hh
                    clear HOLD
                    cases is
                    · go_wp2_with fail
                      go_roundw
                      case rel => exact ⟨i + 1, by go_num, by omega, HL3⟩
                      case measure => simp [intOf]; omega
                    · go_wp2_with fail
                      go_roundw
                      case rel => exact ⟨i + 1, by go_num, by omega, HL3⟩
                      case measure => simp [intOf]; omega
                · clear hbl
                  go_upto_region 22 with fail
                  go_wp2_with fail
                  refine (mapsCount_any HLi.out.map).mono ?_
                  rintro e W8 ⟨rfl, rfl⟩
                  rw [HM1.out.1]
                  go_wp2_with fail
                  refine (lv_do (c := setC K) (ep := E) HLi.out HFL.out.me HFL.out.he (fit_set HK.out) (by have := HM1.out.2.2; omega) HE1.out HP1.out).mono ?_
                  rintro e W9 ⟨rfl, hl⟩
                  have hget : (doesM (doesM m1 (setC K) E).2 (getC K) E).1.kind = 11 := flushed_get (c := setC K) rfl rfl HFL.out HOK.out
                  have hds := does_set (c := setC K) (ep := E) rfl HFL.out.comes HOK.out
                  have hm2 : (doesM m1 (setC K) E).2.epoch < 18446744073709551616 ∧ (doesM m1 (setC K) E).2.ids < 18446744073709551615 := by
                    rw [hds]
                    exact ⟨HFL.out.he, by have := HM1.out.2.2; show m1.ids + 1 < _; omega⟩
                  have hk1 : (doesM m1 (setC K) E).1.kind = 1 := by rw [hds]
                  clear hds HLi
                  obtain ⟨⟨a, m2⟩, hr⟩ : ∃ r, r = doesM m1 (setC K) E := ⟨_, rfl⟩
                  rw [← hr] at hl hget hm2 hk1 ⊢
                  simp only at hl hget hm2 hk1 ⊢
                  have HL2 := Lib.hid hl
                  have HGET := Lib.hid hget
                  have HM2 := Lib.hid hm2
                  clear hl hget hm2 hr
                  unfold AnsD.cells
                  rw [hk1]
                  clear hk1
                  go_wp2_with fail
                  refine (lv_do (c := getC K) (ep := E) HL2.out HM2.out.1 HFL.out.he (fit_get HK.out) HM2.out.2 HE1.out HP1.out).mono ?_
                  rintro e W10 ⟨rfl, hl⟩
                  have hget := HGET.out
                  obtain ⟨⟨a2, m3⟩, hr⟩ : ∃ r, r = doesM m2 (getC K) E := ⟨_, rfl⟩
                  rw [← hr] at hl hget ⊢
                  simp only at hl hget ⊢
                  have HL3 := Lib.hid hl
                  clear hl hr HGET HL2
                  unfold AnsD.cells
                  rw [hget]
                  clear hget
                  go_wp2_with fail
                  refine (lives36 _ (HE1.out.below HL3.out.bel) (HP1.out.below HL3.out.bel)).mono ?_
                  rintro e W11 ⟨rfl, hb⟩
                  have HB := Lib.hid (HBW.out.trans ((HL3.out.bel.trans (hb.mono HL3.out.bel.size)).mono HBW.out.size))
                  clear hb
                  go_wp2_with fail
                  go_ret
                  exact ⟨rfl, HB.out⟩
        · go_wp2_with fail
          refine (lives36 _ (HE1.out.below HL.out.bel) (HP1.out.below HL.out.bel)).mono ?_
          rintro e W5 ⟨rfl, hb⟩
          have HB := Lib.hid (HBW.out.trans ((HL.out.bel.trans (hb.mono HL.out.bel.size)).mono HBW.out.size))
          clear hb
          go_wp2_with fail
          go_ret
          exact ⟨rfl, HB.out⟩
    · go_wp2_with fail
      refine (lives36 _ HE1.out HP1.out).mono ?_
      rintro e W2 ⟨rfl, hb⟩
      have HB := Lib.hid (HBW.out.trans (hb.mono HBW.out.size))
      clear hb
      go_wp2_with fail
      go_ret
      exact ⟨rfl, HB.out⟩
end Go.Proofs.YtaooangnnlopcaaDoor
