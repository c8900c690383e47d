/- Whether a history is well (hists.Well). Condition: the history lies in memory; a million calls and drops at most. -/
import Derived.Test.YtaooangnnlopcaaGreatDoorLiD
import Derived.Maps.Own
import Derived.Maps.OwnOps
import Derived.Maps.Views
namespace Go.Proofs.YtaooangnnlopcaaGreatDoor
open Go.RowKit Go.ChangeMaps Go.MapKept
open Go.Maps (int_keyed keyOf_int_mk IsMap)
theorem intKey : Go.Maps.Keyed Tryz.prog 3 := int_keyed Tryz.underlying3
theorem zeroInt (w : World) : (zeroValue 3).run Tryz.prog w = .ok (.int .i64 0) w := by kernel_rfl
/-- A map of numbers: what it says at each number; 0 where there is nothing. -/
def IMap (w : World) (B n : Nat) (f : Int → Int) : Prop :=
  ∃ C : DataW Unit, w.ownsMap Tryz.prog 3 (plainElem Tryz.prog 3) B n C ∧ IsMap C ∧ ∀ k, C.atKey (.int .i64 k) (.lit (.int .i64 0)) = .lit (.int .i64 (f k))
theorem I64.wf {k : Int} (h : I64 k) : (Lit.int .i64 k).wf = true := WalkArith.wf_i64 h
theorem IMap.made (w : World) : IMap (w.alloc (.map #[] 0)) w.heap.size 0 (fun _ => 0) := ⟨.map [], World.ownsMap_made _ _ _ _, ⟨[], rfl⟩, fun _ => rfl⟩
theorem IMap.kept {M : Nat → Prop} {w w' : World} {B n : Nat} {f : Int → Int} (h : IMap w B n f) (hc : Chg M w w') (hB : ¬ M B) : IMap w' B n f := by
  obtain ⟨C, ⟨es, clock, hb, h1⟩, h2, h3⟩ := h
  exact ⟨C, ⟨es, clock, hc.obj hb hB, h1⟩, h2, h3⟩
theorem IMap.lt {w : World} {B n : Nat} {f : Int → Int} (h : IMap w B n f) : B < w.heap.size := by
  obtain ⟨C, h1, _⟩ := h
  exact h1.lt
theorem IMap.look {w : World} {B n : Nat} {f : Int → Int} (h : IMap w B n f) {k : Int} (hk : I64 k) : (Instr.lookup 126 (.map (some B)) (.int .i64 k) false).run Tryz.prog w = .ok (.int .i64 (f k)) w := by
  obtain ⟨C, h1, _, h3⟩ := h
  obtain ⟨c, hrun, hat, _⟩ := h1.lookup_int intKey Tryz.underlying126 Tryz.underlying3 (zeroInt w) (keyOf_int_mk Tryz.underlying3 hk.wf)
  rw [h3 k] at hat
  have : f k = c := by simpa using hat
  rw [this]
  exact hrun
/-- 'm[k] = v'. -/
theorem wpList_imap {w : World} {ops : Array Oper} {rest : List Oper} {o : Oper} {a : Act} {Q : Exit → Act → World → Prop} (hg : o.guard = none) (m x v : Operand) (hop : o.op = Op.mapUpdate 126 m x v)
    {B n : Nat} {f : Int → Int} (hm : a.eval m = .map (some B)) (hown : IMap w B n f) (hn : n < maxLen) (k z : Int) (hx : a.eval x = .int .i64 k) (hv : a.eval v = .int .i64 z) (hk : I64 k) (hz : I64 z)
    (hK : ∀ w', IMap w' B (n + 1) (fun y => if y = k then z else f y) → Chg (fun j => j = B) w w' → wpList Tryz.prog ops Q rest (a.put o.dst undef) w') : wpList Tryz.prog ops Q (o :: rest) a w := by
  obtain ⟨C, h1, h2, h3⟩ := hown
  refine wpList_mapUpdate_own w hg m x v _ hop _ _ intKey Tryz.underlying126 _ B n C hm h1 hn _ _ _ hx hv (keyOf_int_mk Tryz.underlying3 hk.wf) _ [] (plainElem_int Tryz.underlying3 hz.wf) ?_
  intro w' hown' hgr
  refine hK w' ⟨_, hown', ?_, fun y => ?_⟩ (Chg.of_grown hgr (fun i _ e => (Option.some.inj e).symm))
  · obtain ⟨es, rfl⟩ := h2
    exact ⟨_, rfl⟩
  · show _ = DataW.lit (.int .i64 (if y = k then z else f y))
    by_cases e : y = k
    · subst e
      rw [if_pos rfl]
      exact Go.Maps.atKey_put_same (k := .int .i64 y) h2 trivial _ _
    · rw [if_neg e, Go.Maps.atKey_put_other (by intro e2; injection e2; exact e (by assumption))]
      exact h3 y
theorem called_cell {W : World} {g b i : Nat} {x : CalledD} {u : Value} (h : W.heap[g]? = some (.cells x.cells 42 (0, 0))) (hb : b = g) (hu : x.cells[i]? = some u) : W.cell? ⟨b, i, none⟩ = some u := by
  subst hb
  have h1 := (cells_at h i).1
  rw [h1, hu]
theorem wellC_no {cs : List CalledD} {ds : List DropD} {i : Nat} {c : CalledD} (hc : cs[i]? = some c) (h : okC (cs.take i) c = false) : wellH cs ds = false := by
  unfold wellH
  rw [Bool.and_eq_false_iff]
  refine .inl ?_
  rw [Bool.eq_false_iff]
  intro e
  have := wellC_iff.1 e i c hc
  rw [List.nil_append] at this
  rw [this] at h
  cases h
theorem wellC_yes {cs : List CalledD} (h : ∀ i c, i < cs.length → cs[i]? = some c → okC (cs.take i) c = true) : wellC [] cs = true :=
  wellC_iff.2 (fun i c hc => h i c (List.getElem?_eq_some_iff.1 hc).1 hc)
set_option maxRecDepth 100000 in
set_option maxHeartbeats 16000000 in
theorem well_any {w : World} {cv dv : Value} {cs : List CalledD} {ds : List DropD} (h : HistAt w cv dv cs ds) (hn : cs.length + ds.length ≤ 1000000) : Calls Tryz.prog 42 #[.agg #[cv, dv]] w fun e w' => e = .returned (.bool (wellH cs ds)) ∧ Below w.heap.size w w' := by
  obtain ⟨ca, cc, rfl⟩ := h.calls.len
  obtain ⟨da, dc, rfl⟩ := h.drops.len
  have HH := Lib.hid h
  have HN := Lib.hid hn
  have hmm := @run_makeMap Tryz.prog
  clear h hn
  go_enter Tryz.func42, Tryz.ntmps42
  go_upto_region 1 with fail
  obtain ⟨W0, hW0⟩ : ∃ X, X = w.alloc (.cells #[.slice ca cs.length cc, .slice da ds.length dc] 64) := ⟨_, rfl⟩
  have hb0 : Below w.heap.size w W0 := by rw [hW0]; exact (Below.refl _ _).alloc (Nat.le_refl _) _
  have hx0 : W0.heap[w.heap.size]? = some (.cells #[.slice ca cs.length cc, .slice da ds.length dc] 64 (0, 0)) := by rw [hW0, heap_at, if_pos rfl]
  have hsz0 : w.heap.size < W0.heap.size := by rw [hW0]; simp
  rw [← hW0]
  clear hW0
  obtain ⟨ph, hph⟩ : ∃ z, z = w.heap.size := ⟨_, rfl⟩
  rw [← hph] at hx0 hsz0 ⊢
  have k0 : W0.cell? ⟨ph, 0, none⟩ = some (.slice ca cs.length cc) := (cells_at hx0 0).1
  have k1 : W0.cell? ⟨ph, 1, none⟩ = some (.slice da ds.length dc) := (cells_at hx0 1).1
  have HH0 := Lib.hid (HH.out.below hb0)
  have HB0 := Lib.hid (And.intro hb0 hph)
  have HK := Lib.hid (And.intro k0 k1)
  clear hb0 hx0 hph k1
  have hm0 := IMap.made W0
  have HM0 := Lib.hid hm0
  have HBM := Lib.hid ((Below.refl W0.heap.size W0).alloc (Nat.le_refl _) (.map #[] 0))
  clear hm0
  go_upto_region 3 with fail
  obtain ⟨pm, hpm⟩ : ∃ z, z = W0.heap.size := ⟨_, rfl⟩
  rw [← hpm] at HM0 HBM ⊢
  have HPM := Lib.hid hpm
  clear hpm
  go_loopw [14] (fun s14 wr => ∃ i : Nat, s14 = .int .i64 (i : Int) ∧ i ≤ cs.length ∧ Hid (∀ j c, j < i → cs[j]? = some c → okC (cs.take j) c = true) ∧ Hid (IMap wr pm i (lastT (cs.take i))) ∧ Hid (Below pm W0 wr)) (fun s14 _ => cs.length - (intOf s14).toNat)
  case atStart => exact ⟨0, rfl, Nat.zero_le _, Lib.hid (fun j c h => by omega), HM0, HBM⟩
  case round =>
    clear HM0 HBM
    obtain ⟨i, rfl, hil, HO, HM, HB⟩ := hrel
    by_cases hlt : i < cs.length
    · obtain ⟨x, hx⟩ : ∃ x, cs[i]? = some x := ⟨_, List.getElem?_eq_getElem hlt⟩
      obtain ⟨g, o, c', hv, hg, hr⟩ := HH0.out.calls.get hx
      obtain ⟨rfl, -, rfl⟩ := slice_inj hv
      have hrr := hr wr (HPM.out ▸ HB.out)
      have hgr : g < wr.heap.size := Nat.lt_of_lt_of_le hg HB.out.size
      have ix : ∀ W : World, (Instr.indexAt 61 (.slice (some ⟨g, o, none⟩) cs.length cc) (.int .i64 (i : Int))).run Tryz.prog W = .ok (.pointer (some ⟨g, o + i * 20, none⟩)) W := fun W => idx_called rfl hlt W
      obtain ⟨b, hb⟩ : ∃ b, b = o + i * 20 := ⟨_, rfl⟩
      rw [← hb] at ix hrr
      have HRB := Lib.hid hrr
      have HX := Lib.hid hx
      have hi6 : i ≤ 1000000 := by have := HN.out; omega
      clear hb hx hv hr hrr
      go_upto_region 5 with (first
        | ((with_reducible show wpList _ _ _ (⟨_, Op.load 42 _, _, _, _, _⟩ :: _) _ _); refine wpList_load_mid (by rfl) 42 (.tmp 16) (by rfl) g b (by rfl) x.list _ HRB.out Tryz.underlying42 rfl (by kernel_rfl) ?_)
        | ((with_reducible show wpList _ _ _ (⟨none, Op.store _ _ _, _, _, _, _⟩ :: _) _ _); refine wpList_store_whole (by rfl) 42 (.tmp 5) (.tmp 17) (by rfl) wr.heap.size (by rfl) x.cells (by rfl) calledZero 42 (by rw [heap_at, if_pos rfl]) (by rfl) (by kernel_rfl) (by simp [Value.oneCell']) ?_; intro w1 hw1 hgw1 hsw1; have hb1 : Below wr.heap.size wr w1 := ((Below.refl wr.heap.size wr).alloc (Nat.le_refl _) (.cells calledZero 42)).grown hgw1 (by simp) (fun k hk => by cases hk; exact Nat.le_refl _); clear hgw1 hsw1)
        | fail)
      obtain ⟨pc, hpc⟩ : ∃ z, z = wr.heap.size := ⟨_, rfl⟩
      rw [← hpc] at hw1 ⊢
      have c0 := called_cell (i := 0) hw1 rfl rfl
      have c8 := called_cell (i := 8) hw1 rfl rfl
      have c9 := called_cell (i := 9) hw1 rfl rfl
      have c19 := called_cell (i := 19) hw1 rfl rfl
      have hIs := HH.out.callsIs x (List.mem_of_getElem? HX.out)
      have hM1 := HM.out.kept (Chg.of_below (M := fun _ => False) hb1) id
      obtain ⟨lt, hlt2⟩ : ∃ z, z = lastT (cs.take i) x.thread := ⟨_, rfl⟩
      have hlook : (Instr.lookup 126 (.map (some pm)) (.int .i64 x.thread) false).run Tryz.prog w1 = .ok (.int .i64 lt) w1 := by rw [hlt2]; exact hM1.look hIs.thread
      have hok := okC_last (Nat.le_of_lt hlt) (fun j c hj hc => HO.out j c hj hc) x
      rw [← hlt2] at hok
      obtain ⟨bad, hbad⟩ : ∃ z, z = !okC (cs.take i) x := ⟨_, rfl⟩
      have HBAD := Lib.hid (And.intro hbad hok)
      have HM1 := Lib.hid hM1
      have HIS := Lib.hid hIs
      have HB1 := Lib.hid (And.intro hb1 hpc)
      have HBL := Lib.hid (HB.out.trans (hb1.mono (Nat.le_of_lt HM.out.lt)))
      clear hpc hbad hok hIs hM1 hlt2 hb1 hw1 HM HB
      rw [show ∀ (a : Act) (v : Value), a.put none v = a from fun _ _ => rfl]
      go_cut [48] (fun s48 wx => s48 = .bool bad ∧ w1 = wx)
      case first =>
        have hb : bad = true ↔ ¬ (0 ≤ x.thread ∧ x.thread < 64 ∧ lt ≤ x.from' ∧ x.from' < x.point ∧ x.point ≤ x.till) := by
          rw [← HBAD.out.2, HBAD.out.1]
          simp
        by_cases q1 : x.thread < 0
        · have e : bad = true := hb.2 (by omega)
          clear hb
          subst e
          go_wp2_with fail
          go_meet
          case rel => exact ⟨rfl, rfl⟩
        · by_cases q2 : 64 ≤ x.thread
          · have e : bad = true := hb.2 (by omega)
            clear hb
            subst e
            go_wp2_with fail
            go_meet
            case rel => exact ⟨rfl, rfl⟩
          · by_cases q3 : x.from' < lt
            · have e : bad = true := hb.2 (by omega)
              clear hb
              subst e
              go_wp2_with fail
              go_meet
              case rel => exact ⟨rfl, rfl⟩
            · by_cases q4 : x.point ≤ x.from'
              · have e : bad = true := hb.2 (by omega)
                clear hb
                subst e
                go_wp2_with fail
                go_meet
                case rel => exact ⟨rfl, rfl⟩
              · by_cases q5 : x.till < x.point
                · have e : bad = true := hb.2 (by omega)
                  clear hb
                  subst e
                  go_wp2_with fail
                  go_meet
                  case rel => exact ⟨rfl, rfl⟩
                · have e : bad = false := by
                    cases hbv : bad
                    · rfl
                    · exact absurd (hb.1 hbv) (fun h => h (by omega))
                  clear hb
                  subst e
                  go_wp2_with fail
                  go_meet
                  case rel => exact ⟨rfl, rfl⟩
      case rest =>
        obtain ⟨rfl, rfl⟩ := hcut
        cases bad
        · have hoki : okC (cs.take i) x = true := by have h1 := HBAD.out.1; simpa using h1.symm
          have HOK := Lib.hid hoki
          clear hoki hlook
          go_wp2_with (first
            | (at_mapUpdate; refine wpList_imap (by rfl) _ _ _ (by rfl) (by rfl) HM1.out (by unfold maxLen; omega) _ _ (by rfl) (by rfl) HIS.out.thread HIS.out.till ?_; intro w2 hm2 hc2)
            | fail)
          have hm3 : IMap w2 pm (i + 1) (lastT (cs.take (i + 1))) := by
            have e : lastT (cs.take (i + 1)) = fun y => if y = x.thread then x.till else lastT (cs.take i) y := by
              funext y
              rw [take_snoc HX.out, lastT_snoc]
              by_cases e : y = x.thread
              · rw [if_pos e, if_pos e.symm]
              · rw [if_neg e, if_neg (fun h => e h.symm)]
            rw [e]
            exact hm2
          have HM3 := Lib.hid (And.intro hm3 (HBL.out.trans (hc2.below (fun k hk => ⟨Nat.lt_trans hk HM1.out.lt, fun e => by omega⟩))))
          clear hm2 hc2 hm3
          go_roundw
          case rel => exact ⟨i + 1, by go_num, by omega, Lib.hid (fun j c hj hc => by
            rcases Nat.lt_succ_iff_lt_or_eq.1 hj with h | h
            · exact HO.out j c h hc
            · subst h; rw [HX.out] at hc; cases hc; exact HOK.out), Lib.hid HM3.out.1, Lib.hid HM3.out.2⟩
          case measure => simp [intOf]; omega
        · have hoki : okC (cs.take i) x = false := by have h1 := HBAD.out.1; simpa using h1.symm
          have HOK := Lib.hid (wellC_no (ds := ds) HX.out hoki)
          clear hoki hlook
          go_wp2_with fail
          go_ret
          exact ⟨by rw [HOK.out]; rfl, HB0.out.1.trans (HBL.out.mono (by rw [HPM.out]; exact HB0.out.1.size))⟩
    · obtain rfl : i = cs.length := by omega
      have HWC := Lib.hid (wellC_yes (fun j c hj hc => HO.out j c hj hc))
      have hphm : ph < pm := by rw [HPM.out]; exact hsz0
      have g0 : wr.cell? ⟨ph, 0, none⟩ = some (.slice ca cs.length cc) := (HB.out.cell (p := ⟨ph, 0, none⟩) hphm).trans HK.out.1
      have g1 : wr.cell? ⟨ph, 1, none⟩ = some (.slice da ds.length dc) := (HB.out.cell (p := ⟨ph, 1, none⟩) hphm).trans HK.out.2
      have hpw : ph < wr.heap.size := cell_lt g0
      obtain ⟨wo, rfl⟩ : ∃ wo : World, wo = wr := ⟨_, rfl⟩
      have HHo := Lib.hid (HH0.out.below (HPM.out ▸ HB.out))
      have HBo := Lib.hid (HB0.out.1.trans (HB.out.mono (by rw [HPM.out]; exact HB0.out.1.size)))
      have hm0 := IMap.made wo
      have HM0 := Lib.hid hm0
      clear HM HB HO hlt hil hm0 k0
      obtain ⟨L, hL⟩ : ∃ L, L = orderL cs ds := ⟨_, rfl⟩
      have hLl : L.length ≤ 1000000 := by rw [hL, orderL_len]; exact HN.out
      have hba : Below wo.heap.size wo (wo.alloc (.map #[] 0)) := (Below.refl _ _).alloc (Nat.le_refl _) _
      have HBA := Lib.hid hba
      have HIS := Lib.hid (show ∀ e ∈ L, I64 e.step from fun e he => by
        rw [hL] at he
        rcases orderL_mem he with ⟨i, c, hc, rfl⟩ | ⟨i, d, hd, rfl⟩
        · exact (HH.out.callsIs c (List.mem_of_getElem? hc)).point
        · exact (HH.out.dropsIs d (List.mem_of_getElem? hd)).step)
      clear hba
      go_upto_region 10 with fail
      obtain ⟨pq, hpq⟩ : ∃ z, z = wo.heap.size := ⟨_, rfl⟩
      rw [← hpq] at HM0 ⊢
      go_wp2_with fail
      refine (order_any (HHo.out.below HBA.out) HN.out).mono ?_
      rintro e W2 ⟨ov, rfl, hrow, hfresh, hbo⟩
      rw [← hL] at hrow
      obtain ⟨oa, oc, rfl⟩ := hrow.len
      have hpq2 : pq < (wo.alloc (.map #[] 0)).heap.size := by rw [hpq]; simp
      have HRW := Lib.hid (And.intro hrow (show ∀ g, (Value.slice oa L.length oc).ownBlock = some g → g ≠ pq from fun g hg e => by have := hfresh g hg; omega))
      have HM2 := Lib.hid (HM0.out.kept (Chg.of_below (M := fun _ => False) hbo) id)
      have HB2 := Lib.hid (HBo.out.trans ((HBA.out.trans (hbo.mono HBA.out.size)).mono HBo.out.size))
      have HPQ := Lib.hid (And.intro hpq (And.intro hL HBo.out.size))
      have hwsz : w.heap.size ≤ pq := by rw [hpq]; exact HBo.out.size
      clear hrow hfresh hbo HM0 hpq hpq2 hL g0 g1
      go_upto_region 11 with fail
      go_loopw [59] (fun s59 wr => ∃ k : Nat, s59 = .int .i64 (k : Int) ∧ k ≤ L.length ∧ Hid ((L.take k).Pairwise (fun x y => x.step ≠ y.step)) ∧ Hid (∃ f, IMap wr pq k f ∧ ∀ s, 0 < f s ↔ ∃ e ∈ L.take k, e.step = s) ∧ Hid (Chg (fun j => j = pq) W2 wr)) (fun s59 _ => L.length - (intOf s59).toNat)
      case atStart => exact ⟨0, rfl, Nat.zero_le _, Lib.hid (by simp), Lib.hid ⟨_, HM2.out, fun s => by simp⟩, Lib.hid (Chg.refl _ _)⟩
      case round =>
        clear HM2
        obtain ⟨k, rfl, hkl, HP, HM, HC⟩ := hrel
        by_cases hlt : k < L.length
        · obtain ⟨x, hx⟩ : ∃ x, L[k]? = some x := ⟨_, List.getElem?_eq_getElem hlt⟩
          obtain ⟨a0, c0, hv, h1, h2, h3, h4⟩ := HRW.out.1.kept HC.out (fun g hg => HRW.out.2 g hg)
          obtain ⟨g, o, ha, hgr, hr⟩ := h4 k x hx
          obtain ⟨he, -, -⟩ := slice_inj hv
          have hoa : oa = some ⟨g, o, none⟩ := he.trans ha
          subst hoa
          have ix : ∀ W : World, (Instr.indexAt 106 (.slice (some ⟨g, o, none⟩) L.length oc) (.int .i64 (k : Int))).run Tryz.prog W = .ok (.pointer (some ⟨g, o + k * 3, none⟩)) W := fun W => idx_ent rfl hlt W
          obtain ⟨b, hb⟩ : ∃ b, b = o + k * 3 := ⟨_, rfl⟩
          rw [← hb] at ix hr
          have HRB := Lib.hid hr
          have HX := Lib.hid hx
          have hk6 : k ≤ 1000000 := by omega
          clear hb hx hv hr h1 h2 h3 h4 ha he
          go_upto_region 13 with (first
            | ((with_reducible show wpList _ _ _ (⟨_, Op.load 108 _, _, _, _, _⟩ :: _) _ _); refine wpList_load_mid (by rfl) 108 (.tmp 62) (by rfl) g b (by rfl) (entCells x) _ HRB.out Tryz.underlying108 rfl (by kernel_rfl) ?_)
            | ((with_reducible show wpList _ _ _ (⟨none, Op.store _ _ _, _, _, _, _⟩ :: _) _ _); refine wpList_store_whole (by rfl) 108 (.tmp 8) (.tmp 63) (by rfl) wr.heap.size (by rfl) (entCells x).toArray (by rfl) #[.int .i64 0, .int .i64 0, .int .i64 0] 108 (by rw [heap_at, if_pos rfl]) (by rfl) (by kernel_rfl) (by simp [Value.oneCell']) ?_; intro w1 hw1 hgw1 hsw1; have hb1 : Below wr.heap.size wr w1 := ((Below.refl wr.heap.size wr).alloc (Nat.le_refl _) (.cells #[.int .i64 0, .int .i64 0, .int .i64 0] 108)).grown hgw1 (by simp) (fun k hk => by cases hk; exact Nat.le_refl _); clear hgw1 hsw1)
            | fail)
          obtain ⟨pc, hpc⟩ : ∃ z, z = wr.heap.size := ⟨_, rfl⟩
          rw [← hpc] at hw1 ⊢
          have c0 : w1.cell? ⟨pc, 0, none⟩ = some (.int .i64 x.step) := (cells_at hw1 0).1
          have hIs := HIS.out x (List.mem_of_getElem? HX.out)
          obtain ⟨f, hm, hf⟩ := HM.out
          have hM1 := hm.kept (Chg.of_below (M := fun _ => False) hb1) id
          obtain ⟨z, hz⟩ : ∃ z, z = f x.step := ⟨_, rfl⟩
          have hlook : (Instr.lookup 126 (.map (some pq)) (.int .i64 x.step) false).run Tryz.prog w1 = .ok (.int .i64 z) w1 := by rw [hz]; exact hM1.look hIs
          have HM1 := Lib.hid hM1
          have HF := Lib.hid (And.intro hz hf)
          have HI2 := Lib.hid hIs
          have HC1 := Lib.hid (HC.out.trans (Chg.of_below hb1))
          clear hpc hm hf hM1 hz hb1 hw1 HM HC hIs
          rw [show ∀ (a : Act) (v : Value), a.put none v = a from fun _ _ => rfl]
          by_cases hpos : 0 < z
          · have hno : wellH cs ds = false := by
              obtain ⟨e, he, hes⟩ := (HF.out.2 x.step).1 (by rw [← HF.out.1]; exact hpos)
              unfold wellH
              rw [Bool.and_eq_false_iff]
              refine .inr ?_
              rw [Bool.eq_false_iff, ← HPQ.out.2.1]
              intro hw
              have h5 := wellS_iff.1 hw
              rw [← List.take_append_drop k L] at h5
              refine (List.pairwise_append.1 h5).2.2 e he x ?_ hes
              obtain ⟨h6, h7⟩ := List.getElem?_eq_some_iff.1 HX.out
              rw [List.drop_eq_getElem_cons h6, h7]
              exact .head _
            have HNO := Lib.hid hno
            clear hno
            go_wp2_with fail
            go_ret
            exact ⟨by rw [HNO.out]; rfl, HB2.out.trans (HC1.out.below (fun j hj => ⟨Nat.lt_of_lt_of_le hj HB2.out.size, fun e => by omega⟩))⟩
          · have hwk : IntKind.i64.wrap ((k : Int) + 1) = (k : Int) + 1 := IntWalk.i64_in _ (by omega)
            go_wp2_with (first
              | (at_mapUpdate; refine wpList_imap (by rfl) _ _ _ (by rfl) (by rfl) HM1.out (by unfold maxLen; omega) _ _ (by rfl) (by rfl) HI2.out (show I64 ((k : Int) + 1) from ⟨by omega, by omega⟩) ?_; intro w2 hm2 hc2)
              | fail)
            have HP2 := Lib.hid (show (L.take (k + 1)).Pairwise (fun x y => x.step ≠ y.step) from by
              rw [take_snoc HX.out, List.pairwise_append]
              refine ⟨HP.out, List.pairwise_singleton _ _, fun e he y hy => ?_⟩
              rw [List.mem_singleton.1 hy]
              intro e2
              exact hpos (by rw [HF.out.1]; exact (HF.out.2 x.step).2 ⟨e, he, e2⟩))
            have HM3 := Lib.hid (show ∃ f, IMap w2 pq (k + 1) f ∧ ∀ s, 0 < f s ↔ ∃ e ∈ L.take (k + 1), e.step = s from ⟨_, hm2, fun s => by
              show 0 < (if s = x.step then (k : Int) + 1 else f s) ↔ _
              rw [take_snoc HX.out]
              by_cases e : s = x.step
              · rw [if_pos e]
                exact ⟨fun _ => ⟨x, by simp, e.symm⟩, fun _ => by omega⟩
              · rw [if_neg e, HF.out.2 s]
                constructor
                · rintro ⟨y, hy, hys⟩
                  exact ⟨y, List.mem_append_left _ hy, hys⟩
                · rintro ⟨y, hy, hys⟩
                  rcases List.mem_append.1 hy with hy | hy
                  · exact ⟨y, hy, hys⟩
                  · rw [List.mem_singleton.1 hy] at hys
                    exact absurd hys.symm e⟩)
            have HC2 := Lib.hid (HC1.out.trans hc2)
            clear hm2 hc2
            go_roundw
            case rel => exact ⟨k + 1, by go_num, by omega, HP2, HM3, HC2⟩
            case measure => simp [intOf]; omega
        · obtain rfl : k = L.length := by omega
          rw [List.take_length] at HP
          have HYES := Lib.hid (show wellH cs ds = true from by
            unfold wellH
            rw [HWC.out, ← HPQ.out.2.1, wellS_iff.2 HP.out]
            rfl)
          go_wp2_with fail
          go_ret
          exact ⟨by rw [HYES.out]; rfl, HB2.out.trans (HC.out.below (fun j hj => ⟨Nat.lt_of_lt_of_le hj HB2.out.size, fun e => by omega⟩))⟩
end Go.Proofs.YtaooangnnlopcaaGreatDoor
