/- The law BoundsCut, walked: behind two commands bytes have the calls that they have by themselves. Condition: the library's variables MaxLen and ErrRange are as they are laid. -/
import Derived.Test.YtahpjhnbjkjkiaaDoorLowM
import Derived.Test.YtahpjhnbjkjkiaaDoorLowH
import Derived.StillTailTactics
namespace Go.Proofs.YtahpjhnbjkjkiaaDoor
open Go.RowKit Go.ChangeMaps Go.MapKept

def headB : List UInt8 := [103, 101, 116, 32, 111, 110, 101, 13, 10, 115, 101, 116, 32, 116, 119, 111, 32, 49, 32, 48, 32, 51, 13, 10, 13, 10, 53, 13, 10]
abbrev headA : Cmd := ⟨1, [[111, 110, 101]], 1, [111, 110, 101], [], 0, 0, 0, 0, -1, false⟩
abbrev headC2 : Cmd := ⟨3, [[116, 119, 111]], 3, [116, 119, 111], [13, 10, 53], 1, 0, 0, 0, 3, false⟩
theorem head_calls : callsL (runF fNew headB).2 = [headA, headC2] := by kernel_rfl
theorem head_way : (runF fNew headB).1.way = 0 := by kernel_rfl
theorem head_held : (runF fNew headB).1.held = [] := by kernel_rfl
theorem cut_calls (bl : List UInt8) : callsL (runF fNew (headB ++ bl)).2 = headA :: headC2 :: callsL (runF fNew bl).2 := by
  have h1 := (feed_tells bl.length bl (Nat.le_refl _) (runF fNew headB).1 head_way head_held).1
  have h2 := (feed_all bl).1
  rw [runF_append]
  show callsL ((runF fNew headB).2 ++ (runF (runF fNew headB).1 bl).2) = _
  rw [callsL_append, head_calls, h1, ← h2]; rfl
theorem more_calls (bl ml : List UInt8) : ∃ D, callsL (runF fNew (bl ++ ml)).2 = callsL (runF fNew bl).2 ++ D := by
  rw [runF_append]
  exact ⟨_, callsL_append _ _⟩
theorem calls_all {bl : List UInt8} : ∀ c ∈ callsL (runF fNew bl).2, CallOk c := fun c hc => by
  obtain ⟨e, he, hce⟩ := List.mem_flatMap.1 hc
  exact callsE_ok ((run_ok bl goodC_new).2 e he) c hce
theorem calls_many {bl : List UInt8} : (callsL (runF fNew bl).2).length ≤ 2048 * bl.length := by
  have h1 := callsL_len (run_ok bl goodC_new).2
  have h2 := run_few bl fNew
  omega
set_option maxRecDepth 100000 in
set_option maxHeartbeats 16000000 in
theorem boundsCut_walk {w : World} {bv mv : Value} {bl ml : List UInt8} (hb : BRow w bv bl) (hm : BRow w mv ml) (hL : HasLen w) (hE : HasErr w) :
    Calls Tryd.prog 7 #[bv, mv] w fun e w' => e = .returned (.bool true) ∧ Below w.heap.size w w' := by
  obtain ⟨ba, bc, rfl⟩ := hb.len
  obtain ⟨ma, mc, rfl⟩ := hm.len
  have hlv : ∀ W, Below w.heap.size w W → Calls Tryd.prog 18 #[] W fun e w' => e = .returned (.bool true) ∧ Below W.heap.size W w' := fun W hb => lives40 W (hL.below hb) (hE.below hb)
  have hcl : ∀ W v q, Below w.heap.size w W → BRow W v q → q.length ≤ 9000 → Calls Tryd.prog 24 #[v] W (CallsOk (callsL (runF fNew q).2) W) := fun W v q hW hq hn => boundsCalls_any hq (by omega) (hL.below hW) (hE.below hW)
  have HLV := Lib.hid hlv
  have HCL := Lib.hid hcl
  have HBR := Lib.hid hb
  have HMR := Lib.hid hm
  have hbm := hb.cap
  have hmm := hm.cap
  unfold maxLen at hbm hmm
  clear hlv hcl hb hm hL hE
  by_cases h1 : 4000 < bl.length
  · have d1 : decide ((4000 : Int) < (bl.length : Int)) = true := by rw [decide_eq_true_eq]; omega
    go_enter Tryd.func7, Tryd.ntmps7
    go_wp2_with fail
    refine (HLV.out _ (Below.refl _ _)).mono ?_
    rintro e w' ⟨rfl, hb⟩
    have HB := Lib.hid hb
    clear hb
    go_wp2_with fail
    go_ret
    exact ⟨rfl, HB.out⟩
  · have d1 : decide ((4000 : Int) < (bl.length : Int)) = false := by rw [decide_eq_false_iff_not]; omega
    by_cases h2 : 4000 < ml.length
    · have d2 : decide ((4000 : Int) < (ml.length : Int)) = true := by rw [decide_eq_true_eq]; omega
      go_enter Tryd.func7, Tryd.ntmps7
      go_wp2_with fail
      refine (HLV.out _ (Below.refl _ _)).mono ?_
      rintro e w' ⟨rfl, hb⟩
      have HB := Lib.hid hb
      clear hb
      go_wp2_with fail
      go_ret
      exact ⟨rfl, HB.out⟩
    · have d2 : decide ((4000 : Int) < (ml.length : Int)) = false := by rw [decide_eq_false_iff_not]; omega
      have hcs : ∀ (C : Array Value) (n c : Nat), (convert 22 22 (.slice (some ⟨w.heap.size, 0, none⟩) n c)).run Tryd.prog (w.alloc (.cells C 5)) = .ok (.slice (some ⟨w.heap.size, 0, none⟩) n c) (w.alloc (.cells C 5 (C.size, C.size + 1))) := fun C n c => conv_const w C n c
      have hb1 : Below w.heap.size w (w.alloc (litB headB)) := (Below.refl _ _).alloc (Nat.le_refl _) _
      have HB1 := Lib.hid hb1
      have hhd := (row_new w headB (by unfold maxLen; decide)).bytes
      have HHD := Lib.hid hhd
      have HC1 := Lib.hid (HCL.out _ _ bl hb1 (HBR.out.below hb1) (by omega))
      clear hb1 hhd
      go_enter Tryd.func7, Tryd.ntmps7
      go_wp2_with fail
      refine HC1.out.mono ?_
      rintro e w2 ⟨lv, rfl, hcut, hb2⟩
      have hok : ∀ c ∈ callsL (runF fNew bl).2, CallOk c := calls_all
      have hmany : (callsL (runF fNew bl).2).length ≤ 2048 * bl.length := calls_many
      have hcc := cut_calls bl
      obtain ⟨D, hdd⟩ := more_calls bl ml
      have hmore : (callsL (runF fNew (bl ++ ml)).2).length ≤ 2048 * (bl ++ ml).length := calls_many
      have hrow2 : CallRow w2 lv (callsL (runF fNew bl).2) := hcut.2.1
      obtain ⟨la, rfl⟩ : ∃ a, lv = .slice a (callsL (runF fNew bl).2).length (callsL (runF fNew bl).2).length := hcut.1
      have hbl2 : Below w.heap.size w w2 := HB1.out.trans (hb2.mono HB1.out.size)
      have hhd2 : BRow w2 (.slice (some ⟨w.heap.size, 0, none⟩) headB.length headB.length) headB := HHD.out.below hb2
      have hc2 := fun W v (hW : Below w.heap.size w W) (hq : BRow W v (headB ++ bl)) => HCL.out W v (headB ++ bl) hW hq (by rw [List.length_append]; have : headB.length = 29 := rfl; omega)
      have hc3 := fun W v (hW : Below w.heap.size w W) (hq : BRow W v (bl ++ ml)) => HCL.out W v (bl ++ ml) hW hq (by rw [List.length_append]; omega)
      rw [hcc] at hc2
      rw [hdd] at hc3 hmore
      rw [List.length_append, List.length_append] at hmore
      generalize callsL (runF fNew bl).2 = C at *
      have HOK := Lib.hid hok
      have HC2 := Lib.hid hc2
      have HC3 := Lib.hid hc3
      have HR2 := Lib.hid hrow2
      have HB2 := Lib.hid hbl2
      have HHD2 := Lib.hid hhd2
      have HBW := Lib.hid (HBR.out.below hbl2)
      clear hok hc2 hc3 hrow2 hbl2 hhd2 hcut hb2 hcc hdd HC1 HHD HB1 hcs HCL
      have tok1 : True := trivial
      have tok2 : True := trivial
      go_wp2_with (first
        | (at_builtin; clear tok1; refine wpList_appB (l0 := []) (B := w2.heap.size) _ _ (by rfl) (by rfl) (by rfl) (by rfl) (Nat.le_refl _) (World.ownsRow_nil _ _ _ _) HHD2.out (by decide) (fun v1 x1 hv1 hx1 => ?_))
        | (at_builtin; clear tok2; refine wpList_appB (l0 := headB) (B := w2.heap.size) _ _ (by rfl) (by rfl) (by rfl) (by rfl) hx1.size hv1 (HBW.out.below hx1) (by have : headB.length = 29 := rfl; omega) (fun v2 x2 hv2 hx2 => ?_))
        | fail)
      have hx02 : Below w2.heap.size w2 x2 := hx1.trans (hx2.mono (Nat.le_refl _))
      have hb3 : Below w.heap.size w x2 := HB2.out.trans (hx02.mono HB2.out.size)
      have hc := HC2.out x2 v2 hb3 (Row.of_owns hv2).bytes
      have HR3 := Lib.hid (HR2.out.below hx02)
      have HB3 := Lib.hid hb3
      have HC := Lib.hid hc
      clear hv1 hx1 hv2 hx2 hx02 hb3 hc HHD2 HBW HC2 HR2 HB2
      refine HC.out.mono ?_
      rintro e w4 ⟨av, rfl, hcut, hb4⟩
      have hrowA : CallRow w4 av (headA :: headC2 :: C) := hcut.2.1
      obtain ⟨aa, rfl⟩ : ∃ a, av = .slice a (headA :: headC2 :: C).length (headA :: headC2 :: C).length := hcut.1
      obtain ⟨g1, o1, c1, hs1, -, hk0⟩ := callRow_at hrowA (k := 0) rfl
      obtain ⟨rfl, -, -⟩ := slice_inj hs1
      obtain ⟨g', o', c', hs2, -, hk1⟩ := callRow_at hrowA (k := 1) rfl
      obtain ⟨he, -, -⟩ := slice_inj hs2
      obtain ⟨rfl, rfl, -⟩ := Addr.mk.inj (Option.some.inj he)
      have hAl : (headA :: headC2 :: C).length = C.length + 2 := rfl
      have HRA := Lib.hid hrowA
      rw [hAl] at HRA ⊢
      have HR4 := Lib.hid (HR3.out.below hb4)
      have HB4 := Lib.hid (HB3.out.trans (hb4.mono HB3.out.size))
      have i0 : ∀ W : World, (Instr.indexAt 58 (.slice (some ⟨g1, o1, none⟩) (C.length + 2) (C.length + 2)) (.int .i64 0)).run Tryd.prog W = .ok (.pointer (some ⟨g1, o1, none⟩)) W := fun W => idx_call (k := 0) rfl (by omega) W
      have i1 : ∀ W : World, (Instr.indexAt 58 (.slice (some ⟨g1, o1, none⟩) (C.length + 2) (C.length + 2)) (.int .i64 1)).run Tryd.prog W = .ok (.pointer (some ⟨g1, o1 + 7, none⟩)) W := fun W => idx_call (k := 1) rfl (by omega) W
      have x1 : w4.cell? ⟨g1, o1 + 1, none⟩ = some (sv [111, 110, 101]) := (hk0 1 _ rfl).1
      have x2 : w4.cell? ⟨g1, o1 + 7 + 2, none⟩ = some (sv [13, 10, 53]) := (hk1 2 _ rfl).1
      have hC : C.length ≤ 2048 * 4000 := by omega
      clear hcut hb4 hrowA hs1 hs2 he hk0 hk1 HR3 HB3 HC hAl
      go_wp2_with fail
      go_loopw [8] (fun s8 wr => ∃ j : Nat, s8 = .int .i64 (j : Int) ∧ j ≤ C.length ∧ Below w.heap.size w wr ∧ CallRow wr (.slice la C.length C.length) C ∧ CallRow wr (.slice (some ⟨g1, o1, none⟩) (C.length + 2) (C.length + 2)) (headA :: headC2 :: C)) (fun s8 _ => C.length - (intOf s8).toNat)
      case atStart => exact ⟨0, rfl, Nat.zero_le _, HB4.out, HR4.out, HRA.out⟩
      case round =>
        obtain ⟨j, rfl, hj, hlow, hrow, hrowA⟩ := hrel
        clear x1 x2 i0 i1 HR4 HRA HB4
        clear w4
        have HLOW := Lib.hid hlow
        have HROW := Lib.hid hrow
        have HROWA := Lib.hid hrowA
        by_cases hlt : j < C.length
        · obtain ⟨x, hx⟩ : ∃ x, C[j]? = some x := ⟨_, List.getElem?_eq_getElem hlt⟩
          obtain ⟨g2, o2, c2, hs2, -, hc2⟩ := callRow_at hrow hx
          obtain ⟨rfl, -, -⟩ := slice_inj hs2
          obtain ⟨g', o', c', hs3, -, hc3⟩ := callRow_at hrowA (k := j + 2) (c := x) hx
          obtain ⟨he, -, -⟩ := slice_inj hs3
          obtain ⟨rfl, rfl, -⟩ := Addr.mk.inj (Option.some.inj he)
          obtain ⟨b2, hb2⟩ : ∃ b, b = o2 + j * 7 := ⟨_, rfl⟩
          obtain ⟨b1, hb1⟩ : ∃ b, b = o1 + (j + 2) * 7 := ⟨_, rfl⟩
          have ix2 : ∀ W : World, (Instr.indexAt 58 (.slice (some ⟨g2, o2, none⟩) C.length C.length) (.int .i64 (j : Int))).run Tryd.prog W = .ok (.pointer (some ⟨g2, b2, none⟩)) W := fun W => by rw [hb2]; exact idx_call rfl hlt W
          have hw2 : IntKind.i64.wrap ((j : Int) + 2) = (j : Int) + 2 := IntWalk.i64_in _ (by omega)
          have ix1 : ∀ W : World, (Instr.indexAt 58 (.slice (some ⟨g1, o1, none⟩) (C.length + 2) (C.length + 2)) (.int .i64 ((j : Int) + 2))).run Tryd.prog W = .ok (.pointer (some ⟨g1, b1, none⟩)) W := fun W => by
            rw [hb1, show ((j : Int) + 2) = ((j + 2 : Nat) : Int) by omega]; exact idx_call rfl (by omega) W
          have y0 : wr.cell? ⟨g1, b1, none⟩ = some (.int .u8 (x.cverb : Int)) := by
            have h := (hc3 0 _ rfl).1
            rwa [show o1 + ((j + 2) * 7 + 0) = b1 from by omega] at h
          have y1 : wr.cell? ⟨g1, b1 + 1, none⟩ = some (sv x.key) := by
            have h := (hc3 1 _ rfl).1
            rwa [show o1 + ((j + 2) * 7 + 1) = b1 + 1 from by omega] at h
          have y2 : wr.cell? ⟨g1, b1 + 2, none⟩ = some (sv x.value) := by
            have h := (hc3 2 _ rfl).1
            rwa [show o1 + ((j + 2) * 7 + 2) = b1 + 2 from by omega] at h
          have y3 : wr.cell? ⟨g1, b1 + 3, none⟩ = some (.int .u32 (x.flags : Int)) := by
            have h := (hc3 3 _ rfl).1
            rwa [show o1 + ((j + 2) * 7 + 3) = b1 + 3 from by omega] at h
          have y4 : wr.cell? ⟨g1, b1 + 4, none⟩ = some (.int .i64 x.exp) := by
            have h := (hc3 4 _ rfl).1
            rwa [show o1 + ((j + 2) * 7 + 4) = b1 + 4 from by omega] at h
          have y5 : wr.cell? ⟨g1, b1 + 5, none⟩ = some (.int .u64 (x.id : Int)) := by
            have h := (hc3 5 _ rfl).1
            rwa [show o1 + ((j + 2) * 7 + 5) = b1 + 5 from by omega] at h
          have y6 : wr.cell? ⟨g1, b1 + 6, none⟩ = some (.int .u64 (x.by' : Int)) := by
            have h := (hc3 6 _ rfl).1
            rwa [show o1 + ((j + 2) * 7 + 6) = b1 + 6 from by omega] at h
          have z0 : wr.cell? ⟨g2, b2, none⟩ = some (.int .u8 (x.cverb : Int)) := by
            have h := (hc2 0 _ rfl).1
            rwa [show o2 + (j * 7 + 0) = b2 from by omega] at h
          have z1 : wr.cell? ⟨g2, b2 + 1, none⟩ = some (sv x.key) := by
            have h := (hc2 1 _ rfl).1
            rwa [show o2 + (j * 7 + 1) = b2 + 1 from by omega] at h
          have z2 : wr.cell? ⟨g2, b2 + 2, none⟩ = some (sv x.value) := by
            have h := (hc2 2 _ rfl).1
            rwa [show o2 + (j * 7 + 2) = b2 + 2 from by omega] at h
          have z3 : wr.cell? ⟨g2, b2 + 3, none⟩ = some (.int .u32 (x.flags : Int)) := by
            have h := (hc2 3 _ rfl).1
            rwa [show o2 + (j * 7 + 3) = b2 + 3 from by omega] at h
          have z4 : wr.cell? ⟨g2, b2 + 4, none⟩ = some (.int .i64 x.exp) := by
            have h := (hc2 4 _ rfl).1
            rwa [show o2 + (j * 7 + 4) = b2 + 4 from by omega] at h
          have z5 : wr.cell? ⟨g2, b2 + 5, none⟩ = some (.int .u64 (x.id : Int)) := by
            have h := (hc2 5 _ rfl).1
            rwa [show o2 + (j * 7 + 5) = b2 + 5 from by omega] at h
          have z6 : wr.cell? ⟨g2, b2 + 6, none⟩ = some (.int .u64 (x.by' : Int)) := by
            have h := (hc2 6 _ rfl).1
            rwa [show o2 + (j * 7 + 6) = b2 + 6 from by omega] at h
          have hcok := HOK.out x (List.mem_of_getElem? hx)
          have hkl := hcok.key
          have hvl := hcok.value
          have hke := hcok.empty
          obtain ⟨xv, xks, xcv, xk, xval, xf, xe, xi, xb, xby, xq⟩ := x
          dsimp only at *
          clear hcok hs2 hs3 he hc2 hc3 hx hb1 hb2 hlow hrow hrowA
          have d3 : decide ((1024 : Int) < (xval.length : Int)) = false := by rw [decide_eq_false_iff_not]; omega
          have d4 : decide ((250 : Int) < (xk.length : Int)) = false := by rw [decide_eq_false_iff_not]; omega
          cases xk with
          | nil =>
            have hcv : xcv = 11 := hke.1 rfl
            clear hke
            subst hcv
            go_wp2_with fail
            go_quiet (fail)
            go_wp2_with fail
            go_roundw
            case rel => exact ⟨j + 1, by go_num, by omega, low_drewN HLOW.out _, HROW.out.kept (M := fun _ => False) ((Chg.refl _ _).drewN _) (fun _ _ e => e), HROWA.out.kept (M := fun _ => False) ((Chg.refl _ _).drewN _) (fun _ _ e => e)⟩
            case measure => simp [intOf]; omega
          | cons k0 kr =>
            have hcv : ((xcv : Int) == 11) = false := by
              rw [beq_eq_false_iff_ne]
              intro h
              exact absurd (hke.2 (by omega)) (by simp)
            have d5 : decide ((250 : Int) < (kr.length : Int) + 1) = false := by rw [decide_eq_false_iff_not]; have : (k0 :: kr).length = kr.length + 1 := rfl; omega
            clear hke
            go_wp2_with fail
            go_quiet (fail)
            go_wp2_with fail
            go_roundw
            case rel => exact ⟨j + 1, by go_num, by omega, low_drewN HLOW.out _, HROW.out.kept (M := fun _ => False) ((Chg.refl _ _).drewN _) (fun _ _ e => e), HROWA.out.kept (M := fun _ => False) ((Chg.refl _ _).drewN _) (fun _ _ e => e)⟩
            case measure => simp [intOf]; omega
        · have HBW := Lib.hid (HBR.out.below hlow)
          have HMW := Lib.hid (HMR.out.below hlow)
          obtain ⟨wo, rfl⟩ : ∃ wo : World, wo = wr := ⟨_, rfl⟩
          clear hlow hrow hrowA HROWA
          have tok1 : True := trivial
          have tok2 : True := trivial
          go_wp2_with (first
            | (at_builtin; clear tok1; refine wpList_appB (l0 := []) (B := wo.heap.size) _ _ (by rfl) (by rfl) (by rfl) (by rfl) (Nat.le_refl _) (World.ownsRow_nil _ _ _ _) HBW.out (by show 0 + bl.length < _; omega) (fun v1 x1 hv1 hx1 => ?_))
            | (at_builtin; clear tok2; refine wpList_appB (l0 := bl) (B := wo.heap.size) _ _ (by rfl) (by rfl) (by rfl) (by rfl) hx1.size hv1 (HMW.out.below hx1) (by omega) (fun v2 x2 hv2 hx2 => ?_))
            | fail)
          have hx02 : Below wo.heap.size wo x2 := hx1.trans (hx2.mono (Nat.le_refl _))
          have hb3 : Below w.heap.size w x2 := HLOW.out.trans (hx02.mono HLOW.out.size)
          have hc := HC3.out x2 v2 hb3 (Row.of_owns hv2).bytes
          have HR3 := Lib.hid (HROW.out.below hx02)
          have HB3 := Lib.hid hb3
          have HC := Lib.hid hc
          clear hv1 hx1 hv2 hx2 hx02 hb3 hc HBW HMW HC3 HROW HLOW
          refine HC.out.mono ?_
          rintro e w5 ⟨fv, rfl, hcut, hb5⟩
          have hrowF : CallRow w5 fv (C ++ D) := hcut.2.1
          obtain ⟨fa, rfl⟩ : ∃ a, fv = .slice a (C ++ D).length (C ++ D).length := hcut.1
          have HRF := Lib.hid hrowF
          have HR5 := Lib.hid (HR3.out.below hb5)
          have HB5 := Lib.hid (HB3.out.trans (hb5.mono HB3.out.size))
          have hget : ∀ (k : Nat) (x : Cmd), C[k]? = some x → (C ++ D)[k]? = some x := fun k x hx => by
            rw [List.getElem?_append_left (List.getElem?_eq_some_iff.1 hx).1]; exact hx
          have HGET := Lib.hid hget
          obtain ⟨m, hmd⟩ : ∃ m, m = (C ++ D).length := ⟨_, rfl⟩
          rw [← hmd] at HRF ⊢
          have hm0 : C.length ≤ m := by rw [hmd, List.length_append]; omega
          have hm1 : m ≤ 2048 * 8000 := by rw [hmd, List.length_append]; omega
          have HMD := Lib.hid hmd
          clear hcut hb5 hrowF HR3 HB3 HC hget hmd
          go_wp2_with fail
          go_loopw [10] (fun s10 wr => ∃ j : Nat, s10 = .int .i64 (j : Int) ∧ j ≤ C.length ∧ Below w.heap.size w wr ∧ CallRow wr (.slice la C.length C.length) C ∧ Row wr 37 7 (.slice fa m m) (C ++ D).length (callsCells (C ++ D))) (fun s10 _ => C.length - (intOf s10).toNat)
          case atStart => exact ⟨0, rfl, Nat.zero_le _, HB5.out, HR5.out, HRF.out⟩
          case round =>
            obtain ⟨j2, rfl, hj2, hlow, hrow, hrowF⟩ := hrel
            clear HB5 HR5 HRF w5
            have HLOW := Lib.hid hlow
            have HROW := Lib.hid hrow
            have HROWF := Lib.hid hrowF
            by_cases hlt2 : j2 < C.length
            · obtain ⟨x, hx⟩ : ∃ x, C[j2]? = some x := ⟨_, List.getElem?_eq_getElem hlt2⟩
              obtain ⟨g2, o2, c2, hs2, -, hc2⟩ := callRow_at hrow hx
              obtain ⟨rfl, -, -⟩ := slice_inj hs2
              obtain ⟨g3, o3, c3, hs3, -, hc3⟩ := callRow_at hrowF (HGET.out j2 x hx)
              obtain ⟨rfl, -, -⟩ := slice_inj hs3
              obtain ⟨b2, hb2⟩ : ∃ b, b = o2 + j2 * 7 := ⟨_, rfl⟩
              obtain ⟨b3, hb3⟩ : ∃ b, b = o3 + j2 * 7 := ⟨_, rfl⟩
              have ix2 : ∀ W : World, (Instr.indexAt 58 (.slice (some ⟨g2, o2, none⟩) C.length C.length) (.int .i64 (j2 : Int))).run Tryd.prog W = .ok (.pointer (some ⟨g2, b2, none⟩)) W := fun W => by rw [hb2]; exact idx_call rfl hlt2 W
              have ix3 : ∀ W : World, (Instr.indexAt 58 (.slice (some ⟨g3, o3, none⟩) m m) (.int .i64 (j2 : Int))).run Tryd.prog W = .ok (.pointer (some ⟨g3, b3, none⟩)) W := fun W => by rw [hb3]; exact idx_call rfl (by omega) W
              have y0 : wr.cell? ⟨g3, b3, none⟩ = some (.int .u8 (x.cverb : Int)) := by
                have h := (hc3 0 _ rfl).1
                rwa [show o3 + (j2 * 7 + 0) = b3 from by omega] at h
              have y1 : wr.cell? ⟨g3, b3 + 1, none⟩ = some (sv x.key) := by
                have h := (hc3 1 _ rfl).1
                rwa [show o3 + (j2 * 7 + 1) = b3 + 1 from by omega] at h
              have y2 : wr.cell? ⟨g3, b3 + 2, none⟩ = some (sv x.value) := by
                have h := (hc3 2 _ rfl).1
                rwa [show o3 + (j2 * 7 + 2) = b3 + 2 from by omega] at h
              have y3 : wr.cell? ⟨g3, b3 + 3, none⟩ = some (.int .u32 (x.flags : Int)) := by
                have h := (hc3 3 _ rfl).1
                rwa [show o3 + (j2 * 7 + 3) = b3 + 3 from by omega] at h
              have y4 : wr.cell? ⟨g3, b3 + 4, none⟩ = some (.int .i64 x.exp) := by
                have h := (hc3 4 _ rfl).1
                rwa [show o3 + (j2 * 7 + 4) = b3 + 4 from by omega] at h
              have y5 : wr.cell? ⟨g3, b3 + 5, none⟩ = some (.int .u64 (x.id : Int)) := by
                have h := (hc3 5 _ rfl).1
                rwa [show o3 + (j2 * 7 + 5) = b3 + 5 from by omega] at h
              have y6 : wr.cell? ⟨g3, b3 + 6, none⟩ = some (.int .u64 (x.by' : Int)) := by
                have h := (hc3 6 _ rfl).1
                rwa [show o3 + (j2 * 7 + 6) = b3 + 6 from by omega] at h
              have z0 : wr.cell? ⟨g2, b2, none⟩ = some (.int .u8 (x.cverb : Int)) := by
                have h := (hc2 0 _ rfl).1
                rwa [show o2 + (j2 * 7 + 0) = b2 from by omega] at h
              have z1 : wr.cell? ⟨g2, b2 + 1, none⟩ = some (sv x.key) := by
                have h := (hc2 1 _ rfl).1
                rwa [show o2 + (j2 * 7 + 1) = b2 + 1 from by omega] at h
              have z2 : wr.cell? ⟨g2, b2 + 2, none⟩ = some (sv x.value) := by
                have h := (hc2 2 _ rfl).1
                rwa [show o2 + (j2 * 7 + 2) = b2 + 2 from by omega] at h
              have z3 : wr.cell? ⟨g2, b2 + 3, none⟩ = some (.int .u32 (x.flags : Int)) := by
                have h := (hc2 3 _ rfl).1
                rwa [show o2 + (j2 * 7 + 3) = b2 + 3 from by omega] at h
              have z4 : wr.cell? ⟨g2, b2 + 4, none⟩ = some (.int .i64 x.exp) := by
                have h := (hc2 4 _ rfl).1
                rwa [show o2 + (j2 * 7 + 4) = b2 + 4 from by omega] at h
              have z5 : wr.cell? ⟨g2, b2 + 5, none⟩ = some (.int .u64 (x.id : Int)) := by
                have h := (hc2 5 _ rfl).1
                rwa [show o2 + (j2 * 7 + 5) = b2 + 5 from by omega] at h
              have z6 : wr.cell? ⟨g2, b2 + 6, none⟩ = some (.int .u64 (x.by' : Int)) := by
                have h := (hc2 6 _ rfl).1
                rwa [show o2 + (j2 * 7 + 6) = b2 + 6 from by omega] at h
              clear hs2 hs3 hc2 hc3 hx hb2 hb3 hlow hrow hrowF
              go_wp2_with fail
              go_quiet (fail)
              go_wp2_with fail
              go_roundw
              case rel => exact ⟨j2 + 1, by go_num, by omega, low_drewN HLOW.out _, HROW.out.kept (M := fun _ => False) ((Chg.refl _ _).drewN _) (fun _ _ e => e), HROWF.out.kept (M := fun _ => False) ((Chg.refl _ _).drewN _) (fun _ _ e => e)⟩
              case measure => simp [intOf]; omega
            · clear hlow hrow hrowF HROW HROWF
              go_wp2_with fail
              refine (HLV.out _ HLOW.out).mono ?_
              rintro e w' ⟨rfl, hb⟩
              have HB := Lib.hid hb
              clear hb
              go_wp2_with fail
              go_ret
              exact ⟨rfl, HLOW.out.trans (HB.out.mono HLOW.out.size)⟩
end Go.Proofs.YtahpjhnbjkjkiaaDoor
