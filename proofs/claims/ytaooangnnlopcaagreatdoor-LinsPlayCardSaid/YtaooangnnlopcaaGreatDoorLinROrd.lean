/- The document's order of a history, and when it is well. Condition: the history lies in memory; a million calls and drops at most. -/
import Derived.Test.YtaooangnnlopcaaGreatDoorLinRPut
import Derived.Test.YtaooangnnlopcaaGreatDoorLinWell
import Derived.Test.YtaooangnnlopcaaGreatDoorLowA
namespace Go.Proofs.YtaooangnnlopcaaGreatDoor
open Go.RowKit Go.ChangeMaps Go.MapKept
theorem infoRDrop : (Tryz.prog.info? 100).map (fun i => (i.zero, i.size)) = some (some (.agg dropZero), 7) := by kernel_rfl
theorem idx_rdrop {a : Option Addr} {g o n c k : Nat} (ha : a = some ⟨g, o, none⟩) (hk : k < n) (W : World) : (Instr.indexAt 70 (.slice a n c) (.int .i64 (k : Int))).run Tryz.prog W = .ok (.pointer (some ⟨g, o + k * 7, none⟩)) W := by
  subst ha
  have h0 : (0 : Int) ≤ (k : Int) := by omega
  have h1 : (k : Int) < (n : Int) := by omega
  have h2 := Tryz.underlying70
  obtain ⟨i0, hi, hz0, hz1⟩ := info_parts2 infoRDrop
  go_simp
theorem idx_rent2 {a : Option Addr} {g o n c k : Nat} (ha : a = some ⟨g, o, none⟩) (hk : k < n) (W : World) : (Instr.indexAt 96 (.slice a n c) (.int .i64 (k : Int))).run Tryz.prog W = .ok (.pointer (some ⟨g, o + k * 3, none⟩)) W := by
  subst ha
  have h0 : (0 : Int) ≤ (k : Int) := by omega
  have h1 : (k : Int) < (n : Int) := by omega
  have h2 := Tryz.underlying96
  obtain ⟨i0, hi, hz0, hz1, hz2⟩ := info_parts infoREnt
  go_simp
theorem rrow_own {α : Type} {f : α → List Value} {sz : Nat} (hf : ∀ x, (f x).length = sz) {w : World} {B : Nat} {t : TypeId} {v : Value} {L : List α} (h : w.ownsRow B t sz v L.length (L.flatMap f)) : RRow f sz w v L := by
  obtain ⟨hl, h2⟩ := h
  rcases h2 with ⟨rfl, h3⟩ | ⟨g, cap, cur, rfl, hg, hh, hn, hm, hs, ht⟩
  · rw [List.eq_nil_of_length_eq_zero h3]
    exact RRow.nil
  · have hgl : g < w.heap.size := (Array.getElem?_eq_some_iff.1 hh).1
    refine ⟨_, cap, rfl, hn, hm, (fun e => by cases e), fun j x hx => ⟨g, 0, rfl, hgl, fun i u hu => ?_⟩⟩
    have hi : i < sz := by rw [← hf x]; exact (List.getElem?_eq_some_iff.1 hu).1
    have h5 : (L.flatMap f)[j * sz + i]? = some u := by rw [flat_get hf hx hi]; exact hu
    rw [Nat.zero_add, cell_of_row w g (j * sz + i) cur _ (0, 0) hh]
    rw [← ht, List.getElem?_take] at h5
    split at h5
    · simpa using h5
    · cases h5
/-- Entries that stand in their places. -/
def ROJ (w : World) (cs : List CalledD) (ds : List DropD) (k : Nat) (W : World) (ov : Value) : Prop :=
  ∃ L, SortE cs.length L ∧ L.Perm ((entsL cs ds).take k) ∧ W.ownsRow w.heap.size 99 3 ov L.length (L.flatMap entCells) ∧ Below w.heap.size w W
theorem ROJ.low {w W : World} {cs : List CalledD} {ds : List DropD} {k : Nat} {ov : Value} (h : ROJ w cs ds k W ov) : Below w.heap.size w W := by
  obtain ⟨L, h1, h2, h3, h4⟩ := h
  exact h4
theorem ROJ.put {w W : World} {cs : List CalledD} {ds : List DropD} {k : Nat} {ov : Value} {x : EntD} (h : ROJ w cs ds k W ov) (hx : (entsL cs ds)[k]? = some x) (hk : k ≤ 1000000) :
    Calls Tryz.prog 57 #[ov, .agg #[.int .i64 x.step, .int .i64 x.call, .int .i64 x.drop]] W fun e w' => ∃ v, e = .returned v ∧ ROJ w cs ds (k + 1) w' v := by
  obtain ⟨L, h1, h2, h3, h4⟩ := h
  have hkl := (List.getElem?_eq_some_iff.1 hx).1
  have hl : L.length = k := by rw [h2.length_eq, List.length_take]; omega
  refine (rput_any (nc := cs.length) h3 h4.size h1 (entsL_low hx h2) (by omega)).mono ?_
  rintro e w' ⟨v, L', rfl, p1, p2, p3, p4, p5⟩
  refine ⟨v, rfl, L', p1, ?_, p3, ?_⟩
  · rw [take_snoc hx]
    exact p2.trans (h2.append_right [x])
  · exact h4.trans (p4.below (fun k hk => ⟨Nat.lt_of_lt_of_le hk h4.size, fun e2 => by have := (h3.lt k e2).1; omega⟩))
def ROrdOk (w : World) (L : List EntD) (e : Ending) (w' : World) : Prop := ∃ v, e = .returned v ∧ ORow w' v L ∧ (∀ g, v.ownBlock = some g → w.heap.size ≤ g) ∧ Below w.heap.size w w'
set_option maxRecDepth 100000 in
set_option maxHeartbeats 8000000 in
theorem rorder_any {w : World} {cv dv : Value} {cs : List CalledD} {ds : List DropD} (h : HistAt w cv dv cs ds) (hn : cs.length + ds.length ≤ 1000000) : Calls Tryz.prog 40 #[.agg #[cv, dv]] w fun e w' => ROrdOk w (orderL cs ds) e w' := by
  obtain ⟨ca, cc, rfl⟩ := h.calls.len
  obtain ⟨da, dc, rfl⟩ := h.drops.len
  have HH := Lib.hid h
  have HN := Lib.hid hn
  clear h
  go_enter Tryz.func40, Tryz.ntmps40
  go_upto_region 1 with fail
  obtain ⟨W0, hW0⟩ : ∃ X, X = w.alloc (.cells #[.slice ca cs.length cc, .slice da ds.length dc] 72) := ⟨_, rfl⟩
  have hb0 : Below w.heap.size w W0 := by rw [hW0]; exact (Below.refl _ _).alloc (Nat.le_refl _) _
  have hx0 : W0.heap[w.heap.size]? = some (.cells #[.slice ca cs.length cc, .slice da ds.length dc] 72 (0, 0)) := by rw [hW0, heap_at, if_pos rfl]
  rw [← hW0]
  clear hW0
  obtain ⟨ph, hph⟩ : ∃ z, z = w.heap.size := ⟨_, rfl⟩
  rw [← hph] at hx0 ⊢
  have hph0 : ph < W0.heap.size := (Array.getElem?_eq_some_iff.1 hx0).1
  have HH0 := Lib.hid (HH.out.below hb0)
  have HB0 := Lib.hid (And.intro hb0 hph)
  have HX := Lib.hid hx0
  clear hb0 hx0 hph
  go_upto_region 3 with fail
  go_loopw [3, 4] (fun s3 s4 wr => ∃ (i : Nat) (ov : Value), s4 = .int .i64 (i : Int) ∧ s3 = ov ∧ i ≤ cs.length ∧ Hid (ROJ W0 cs ds i wr ov)) (fun _ s4 _ => cs.length - (intOf s4).toNat)
  case atStart => exact ⟨0, _, rfl, rfl, Nat.zero_le _, Lib.hid ⟨[], List.Pairwise.nil, .refl _, World.ownsRow_nil _ _ _ _, Below.refl _ _⟩⟩
  case round =>
    obtain ⟨i, ov, rfl, hs3, hil, HJ⟩ := hrel
    have hs4 := hs3.symm
    subst hs4
    have k0 : wr.cell? ⟨ph, 0, none⟩ = some (.slice ca cs.length cc) := (HJ.out.low.cell (p := ⟨ph, 0, none⟩) hph0).trans (cells_at HX.out 0).1
    by_cases hlt : i < cs.length
    · obtain ⟨x, hx⟩ : ∃ x, cs[i]? = some x := ⟨_, List.getElem?_eq_getElem hlt⟩
      obtain ⟨g, o, c', hv, hg, hr⟩ := HH0.out.calls.get hx
      obtain ⟨rfl, -, rfl⟩ := slice_inj hv
      have hrr := hr wr HJ.out.low
      have hgr : g < wr.heap.size := Nat.lt_of_lt_of_le hg HJ.out.low.size
      have ix : ∀ W : World, (Instr.indexAt 69 (.slice (some ⟨g, o, none⟩) cs.length cc) (.int .i64 (i : Int))).run Tryz.prog W = .ok (.pointer (some ⟨g, o + i * 20, none⟩)) W := fun W => idx_rcalled rfl hlt W
      obtain ⟨b, hb⟩ : ∃ b, b = o + i * 20 := ⟨_, rfl⟩
      rw [← hb] at ix hrr
      have z19 : wr.cell? ⟨g, b + 19, none⟩ = some (.int .i64 x.point) := hrr 19 _ rfl
      have hi6 : i ≤ 1000000 := by have := HN.out; omega
      have hE : (entsL cs ds)[i]? = some ⟨x.point, (i : Int), -1⟩ := by
        unfold entsL
        rw [List.getElem?_append_left (by rw [entsC_len]; exact hlt)]
        exact entsC_get hx
      have HP := Lib.hid (HJ.out.put hE hi6)
      generalize x.point = p at *
      clear hb hx hv hr hrr hg hE HJ
      go_wp2_with fail
      refine HP.out.mono ?_
      rintro e w1 ⟨v, rfl, hj1⟩
      have HJ1 := Lib.hid hj1
      clear hj1 HP
      go_wp2_with fail
      go_roundw
      case rel => exact ⟨i + 1, v, by go_num, rfl, by omega, HJ1⟩
      case measure => simp [intOf]; omega
    · obtain rfl : i = cs.length := by omega
      obtain ⟨wo, rfl⟩ : ∃ wo : World, wo = wr := ⟨_, rfl⟩
      clear hlt hil
      go_upto_region 7 with fail
      go_loopw [3, 5] (fun s3 s5 wr => ∃ (i : Nat) (ov : Value), s5 = .int .i64 (i : Int) ∧ s3 = ov ∧ i ≤ ds.length ∧ Hid (ROJ W0 cs ds (cs.length + i) wr ov)) (fun _ s5 _ => ds.length - (intOf s5).toNat)
      case atStart => exact ⟨0, _, rfl, rfl, Nat.zero_le _, HJ⟩
      case round =>
        clear HJ k0
        obtain ⟨i, ov, rfl, hs3, hil, HJ⟩ := hrel
        have hs4 := hs3.symm
        subst hs4
        have k1 : wr.cell? ⟨ph, 1, none⟩ = some (.slice da ds.length dc) := (HJ.out.low.cell (p := ⟨ph, 1, none⟩) hph0).trans (cells_at HX.out 1).1
        by_cases hlt : i < ds.length
        · obtain ⟨x, hx⟩ : ∃ x, ds[i]? = some x := ⟨_, List.getElem?_eq_getElem hlt⟩
          obtain ⟨g, o, c', hv, hg, hr⟩ := HH0.out.drops.get hx
          obtain ⟨rfl, -, rfl⟩ := slice_inj hv
          have hrr := hr wr HJ.out.low
          have hgr : g < wr.heap.size := Nat.lt_of_lt_of_le hg HJ.out.low.size
          have ix : ∀ W : World, (Instr.indexAt 70 (.slice (some ⟨g, o, none⟩) ds.length dc) (.int .i64 (i : Int))).run Tryz.prog W = .ok (.pointer (some ⟨g, o + i * 7, none⟩)) W := fun W => idx_rdrop rfl hlt W
          obtain ⟨b, hb⟩ : ∃ b, b = o + i * 7 := ⟨_, rfl⟩
          rw [← hb] at ix hrr
          have z0 : wr.cell? ⟨g, b, none⟩ = some (.int .i64 x.step) := hrr 0 _ rfl
          have hi6 : cs.length + i ≤ 1000000 := by have := HN.out; omega
          have hi7 : i ≤ 1000000 := by omega
          have hE : (entsL cs ds)[cs.length + i]? = some ⟨x.step, -1, (i : Int)⟩ := by
            unfold entsL
            rw [List.getElem?_append_right (by rw [entsC_len]; omega), entsC_len, Nat.add_sub_cancel_left]
            exact entsD_get hx
          have HP := Lib.hid (HJ.out.put hE hi6)
          generalize x.step = p at *
          clear hb hx hv hr hrr hg hE HJ
          go_wp2_with fail
          refine HP.out.mono ?_
          rintro e w1 ⟨v, rfl, hj1⟩
          have HJ1 := Lib.hid hj1
          clear hj1 HP
          go_wp2_with fail
          go_roundw
          case rel => exact ⟨i + 1, v, by go_num, rfl, by omega, HJ1⟩
          case measure => simp [intOf]; omega
        · obtain rfl : i = ds.length := by omega
          have hfin : ROrdOk w (orderL cs ds) (.returned ov) wr := by
            obtain ⟨L, h1, h2, h3, h4⟩ := HJ.out
            rw [show cs.length + ds.length = (entsL cs ds).length from (entsL_len cs ds).symm, List.take_length] at h2
            have he := orderL_one h1 h2
            subst he
            exact ⟨ov, rfl, rrow_own (f := entCells) (sz := 3) (fun _ => rfl) h3, (fun g hg => Nat.le_trans HB0.out.1.size (h3.lt g hg).1), HB0.out.1.trans (h4.mono HB0.out.1.size)⟩
          have HF := Lib.hid hfin
          clear hfin HJ
          go_wp2_with fail
          go_ret
          exact HF.out
/-- No call of its thread, of the first k, ended behind its beginning. -/
def NoClash (cs : List CalledD) (x : CalledD) (k : Nat) : Prop := ∀ j y, j < k → cs[j]? = some y → ¬ (y.thread = x.thread ∧ x.from' < y.till)
def GoodC (x : CalledD) : Prop := ¬ x.thread < 0 ∧ ¬ 63 < x.thread ∧ ¬ x.from' < 0 ∧ ¬ x.point ≤ x.from' ∧ ¬ x.till < x.point
def NoTwin (L : List EntD) (k : Nat) : Prop := ∀ j x y, j < k → L[j]? = some x → L[j + 1]? = some y → x.step ≠ y.step
theorem rcalled_cell {W : World} {g b i : Nat} {x : CalledD} {u : Value} (h : W.heap[g]? = some (.cells x.cells 52 (0, 0))) (hb : b = g) (hu : x.cells[i]? = some u) : W.cell? ⟨b, i, none⟩ = some u := by
  subst hb
  rw [(cells_at h i).1]
  exact hu
set_option maxRecDepth 100000 in
set_option maxHeartbeats 16000000 in
theorem rwell_any {w : World} {cv dv : Value} {cs : List CalledD} {ds : List DropD} (h : HistAt w cv dv cs ds) (hn : cs.length + ds.length ≤ 1000000) : Calls Tryz.prog 39 #[.agg #[cv, dv]] w fun e w' => e = .returned (.bool (wellH cs ds)) ∧ Below w.heap.size w w' := by
  obtain ⟨ca, cc, rfl⟩ := h.calls.len
  obtain ⟨da, dc, rfl⟩ := h.drops.len
  obtain ⟨res, hres⟩ : ∃ r, r = wellH cs ds := ⟨_, rfl⟩
  rw [← hres]
  have HH := Lib.hid h
  have HN := Lib.hid hn
  have HRES := Lib.hid hres
  clear h hres
  go_enter Tryz.func39, Tryz.ntmps39
  go_upto_region 1 with fail
  obtain ⟨W0, hW0⟩ : ∃ X, X = w.alloc (.cells #[.slice ca cs.length cc, .slice da ds.length dc] 72) := ⟨_, rfl⟩
  have hb0 : Below w.heap.size w W0 := by rw [hW0]; exact (Below.refl _ _).alloc (Nat.le_refl _) _
  have hx0 : W0.heap[w.heap.size]? = some (.cells #[.slice ca cs.length cc, .slice da ds.length dc] 72 (0, 0)) := by rw [hW0, heap_at, if_pos rfl]
  rw [← hW0]
  clear hW0
  obtain ⟨ph, hph⟩ : ∃ z, z = w.heap.size := ⟨_, rfl⟩
  rw [← hph] at hx0 ⊢
  have hph0 : ph < W0.heap.size := (Array.getElem?_eq_some_iff.1 hx0).1
  have HH0 := Lib.hid (HH.out.below hb0)
  have HB0 := Lib.hid hb0
  have HX := Lib.hid hx0
  clear hb0 hx0 hph
  go_upto_region 2 with fail
  go_loopw [3] (fun s3 wr => ∃ i : Nat, s3 = .int .i64 (i : Int) ∧ i ≤ cs.length ∧ Hid (∀ j c, j < i → cs[j]? = some c → okC (cs.take j) c = true) ∧ Hid (Below W0.heap.size W0 wr)) (fun s3 _ => cs.length - (intOf s3).toNat)
  case atStart => exact ⟨0, rfl, Nat.zero_le _, Lib.hid (fun j c h => by omega), Lib.hid (Below.refl _ _)⟩
  case round =>
    obtain ⟨i, rfl, hil, HO, HB⟩ := hrel
    have k0 : wr.cell? ⟨ph, 0, none⟩ = some (.slice ca cs.length cc) := (HB.out.cell (p := ⟨ph, 0, none⟩) hph0).trans (cells_at HX.out 0).1
    have k1 : wr.cell? ⟨ph, 1, none⟩ = some (.slice da ds.length dc) := (HB.out.cell (p := ⟨ph, 1, none⟩) hph0).trans (cells_at HX.out 1).1
    have hphr : ph < wr.heap.size := Nat.lt_of_lt_of_le hph0 HB.out.size
    by_cases hlt : i < cs.length
    · obtain ⟨x, hx⟩ : ∃ x, cs[i]? = some x := ⟨_, List.getElem?_eq_getElem hlt⟩
      obtain ⟨g, o, c', hv, hg, hr⟩ := HH0.out.calls.get hx
      obtain ⟨rfl, -, rfl⟩ := slice_inj hv
      have hrr := hr wr HB.out
      have hgr : g < wr.heap.size := Nat.lt_of_lt_of_le hg HB.out.size
      have ix : ∀ W : World, (Instr.indexAt 69 (.slice (some ⟨g, o, none⟩) cs.length cc) (.int .i64 (i : Int))).run Tryz.prog W = .ok (.pointer (some ⟨g, o + i * 20, none⟩)) W := fun W => idx_rcalled rfl hlt W
      obtain ⟨b, hb⟩ : ∃ b, b = o + i * 20 := ⟨_, rfl⟩
      rw [← hb] at ix hrr
      have HRB := Lib.hid hrr
      have HXI := Lib.hid hx
      have HRR := Lib.hid (show ∀ (k : Nat) (y : CalledD), cs[k]? = some y → ∀ W, Below W0.heap.size W0 W → W.rangeAt g (o + k * 20) y.list from fun k y hk W hW => by
        obtain ⟨g2, o2, c2, hv2, -, hr2⟩ := HH0.out.calls.get hk
        obtain ⟨e2, -, -⟩ := slice_inj hv2
        obtain ⟨rfl, rfl⟩ : g = g2 ∧ o = o2 := by simpa using e2
        exact hr2 W hW)
      have hi6 : i ≤ 1000000 := by have := HN.out; omega
      clear hb hx hv hr hrr hg
      go_upto_region 5 with (first
        | ((with_reducible show wpList _ _ _ (⟨_, Op.load 52 _, _, _, _, _⟩ :: _) _ _); refine wpList_load_mid (by rfl) 52 (.tmp 18) (by rfl) g b (by rfl) x.list _ HRB.out Tryz.underlying52 rfl (by kernel_rfl) ?_)
        | ((with_reducible show wpList _ _ _ (⟨none, Op.store _ _ _, _, _, _, _⟩ :: _) _ _); refine wpList_store_whole (by rfl) 52 (.tmp 4) (.tmp 19) (by rfl) wr.heap.size (by rfl) x.cells (by rfl) calledZero 52 (by rw [heap_at, if_pos rfl]) (by rfl) (by kernel_rfl) (by simp [Value.oneCell']) ?_; intro w1 hw1 hgw1 hsw1; have hb1 : Below wr.heap.size wr w1 := ((Below.refl wr.heap.size wr).alloc (Nat.le_refl _) (.cells calledZero 52)).grown hgw1 (by simp) (fun k hk => by cases hk; exact Nat.le_refl _); clear hgw1 hsw1)
        | fail)
      obtain ⟨pc, hpc⟩ : ∃ z, z = wr.heap.size := ⟨_, rfl⟩
      rw [← hpc] at hw1 ⊢
      have c0 := rcalled_cell (i := 0) hw1 rfl rfl
      have c8 := rcalled_cell (i := 8) hw1 rfl rfl
      have c9 := rcalled_cell (i := 9) hw1 rfl rfl
      have c19 := rcalled_cell (i := 19) hw1 rfl rfl
      have hpl1 : pc < w1.heap.size := (Array.getElem?_eq_some_iff.1 hw1).1
      have hw1s : wr.heap.size ≤ w1.heap.size := by rw [← hpc]; exact Nat.le_of_lt hpl1
      obtain ⟨bad, hbad⟩ : ∃ z, z = !(!decide (x.thread < 0) && !decide (63 < x.thread) && !decide (x.from' < 0) && !decide (x.point ≤ x.from') && !decide (x.till < x.point)) := ⟨_, rfl⟩
      have hb1' : bad = true ↔ (x.thread < 0 ∨ 63 < x.thread ∨ x.from' < 0 ∨ x.point ≤ x.from' ∨ x.till < x.point) := by
        rw [hbad]
        simp
        omega
      have HBAD := Lib.hid hb1'
      have HBL := Lib.hid (HB.out.trans (hb1.mono HB.out.size))
      have HW1 := Lib.hid hw1
      clear hpc hbad hb1' hb1 hw1 HB k0 k1
      rw [show ∀ (a : Act) (v : Value), a.put none v = a from fun _ _ => rfl]
      go_cut [46] (fun s46 wx => s46 = .bool bad ∧ w1 = wx)
      case first =>
        by_cases q1 : x.thread < 0
        · have e2 : bad = true := HBAD.out.2 (by omega)
          subst e2
          go_wp2_with fail
          go_meet
          case rel => exact ⟨rfl, rfl⟩
        · by_cases q2 : 63 < x.thread
          · have e2 : bad = true := HBAD.out.2 (by omega)
            subst e2
            go_wp2_with fail
            go_meet
            case rel => exact ⟨rfl, rfl⟩
          · by_cases q3 : x.from' < 0
            · have e2 : bad = true := HBAD.out.2 (by omega)
              subst e2
              go_wp2_with fail
              go_meet
              case rel => exact ⟨rfl, rfl⟩
            · by_cases q4 : x.point ≤ x.from'
              · have e2 : bad = true := HBAD.out.2 (by omega)
                subst e2
                go_wp2_with fail
                go_meet
                case rel => exact ⟨rfl, rfl⟩
              · by_cases q5 : x.till < x.point
                · have e2 : bad = true := HBAD.out.2 (by omega)
                  subst e2
                  go_wp2_with fail
                  go_meet
                  case rel => exact ⟨rfl, rfl⟩
                · have e2 : bad = false := by
                    rw [Bool.eq_false_iff]
                    intro hc
                    have := HBAD.out.1 hc
                    omega
                  subst e2
                  go_wp2_with fail
                  go_meet
                  case rel => exact ⟨rfl, rfl⟩
      case rest =>
        obtain ⟨rfl, rfl⟩ := hcut
        cases bad
        · have hgood : GoodC x := by
            have h := HBAD.out
            simp at h
            unfold GoodC
            omega
          have HGD := Lib.hid hgood
          clear hgood c9 c19
          go_upto_region 8 with fail
          obtain ⟨wo, rfl⟩ : ∃ wo : World, wo = wr := ⟨_, rfl⟩
          go_loopw [5] (fun s5 wr => ∃ k : Nat, s5 = .int .i64 (k : Int) ∧ k ≤ i ∧ Hid (NoClash cs x k) ∧ Hid (Below w1.heap.size w1 wr)) (fun s5 _ => i - (intOf s5).toNat)
          case atStart => exact ⟨0, rfl, Nat.zero_le _, Lib.hid (fun j y h => by omega), Lib.hid (Below.refl _ _)⟩
          case round =>
            obtain ⟨k, rfl, hki, HK, HBK⟩ := hrel
            have HBX := Lib.hid (HBL.out.trans (HBK.out.mono HBL.out.size))
            have d0 : wr.cell? ⟨pc, 0, none⟩ = some (.int .i64 x.thread) := (HBK.out.cell (p := ⟨pc, 0, none⟩) hpl1).trans c0
            have d8 : wr.cell? ⟨pc, 8, none⟩ = some (.int .i64 x.from') := (HBK.out.cell (p := ⟨pc, 8, none⟩) hpl1).trans c8
            have hpl2 : pc < wr.heap.size := Nat.lt_of_lt_of_le hpl1 HBK.out.size
            have hgr2 : g < wr.heap.size := Nat.lt_of_lt_of_le (Nat.lt_of_lt_of_le hgr (by have := hw1s; omega)) HBK.out.size
            have hphr2 : ph < wr.heap.size := Nat.lt_of_lt_of_le hph0 HBX.out.size
            by_cases hkl : k < i
            · have hkc : k < cs.length := by omega
              have hk6 : k ≤ 1000000 := by omega
              obtain ⟨y, hy⟩ : ∃ y, cs[k]? = some y := ⟨_, List.getElem?_eq_getElem hkc⟩
              have hyr := HRR.out k y hy wr HBX.out
              have ixk : ∀ W : World, (Instr.indexAt 69 (.slice (some ⟨g, o, none⟩) cs.length cc) (.int .i64 (k : Int))).run Tryz.prog W = .ok (.pointer (some ⟨g, o + k * 20, none⟩)) W := fun W => idx_rcalled rfl hkc W
              obtain ⟨bk, hbk⟩ : ∃ z, z = o + k * 20 := ⟨_, rfl⟩
              rw [← hbk] at ixk hyr
              have y0 : wr.cell? ⟨g, bk, none⟩ = some (.int .i64 y.thread) := hyr 0 _ rfl
              have y9 : wr.cell? ⟨g, bk + 9, none⟩ = some (.int .i64 y.till) := hyr 9 _ rfl
              have k0 : wr.cell? ⟨ph, 0, none⟩ = some (.slice (some ⟨g, o, none⟩) cs.length cc) := (HBX.out.cell (p := ⟨ph, 0, none⟩) hph0).trans (cells_at HX.out 0).1
              have HY := Lib.hid hy
              clear hbk hyr hy
              by_cases q1 : y.thread = x.thread
              · have q1' : (y.thread == x.thread) = true := beq_iff_eq.2 q1
                have HQ1 := Lib.hid q1
                clear q1
                by_cases q2 : x.from' < y.till
                · have hno : res = false := by
                    rw [HRES.out]
                    refine wellC_no HXI.out ?_
                    rw [Bool.eq_false_iff]
                    intro hc
                    have hm : y ∈ cs.take i := List.mem_of_getElem? (by rw [List.getElem?_take, if_pos hkl]; exact HY.out)
                    exact (okC_parts.1 hc).2 y hm ⟨HQ1.out, q2⟩
                  subst hno
                  go_upto_region 10 with fail
                  refine wp_region_held_drew (S := fun W => W.cell? ⟨ph, 0, none⟩ = some (.slice (some ⟨g, o, none⟩) cs.length cc) ∧ W.cell? ⟨g, bk, none⟩ = some (.int .i64 y.thread) ∧ W.cell? ⟨pc, 0, none⟩ = some (.int .i64 x.thread) ∧ W.cell? ⟨pc, 8, none⟩ = some (.int .i64 x.from') ∧ W.cell? ⟨g, bk + 9, none⟩ = some (.int .i64 y.till)) (by kernel_rfl) ⟨k0, y0, d0, d8, y9⟩ (fun hHeld => ?_)
                  refine tkq (i := 0) (v := ?_) rfl (by kernel_rfl) (fun _ _ _ h => h) (by rfl) ?_ (by assumption) ?_
                  rotate_left 1
                  · ((intro w hSw; (try dsimp only at hSw); go_simp) <;> with_reducible rfl)
                  try simp only [Act.put, tzA, tzB, tzC, tzD, tzE]
                  refine tkq (i := 1) (v := ?_) rfl (by kernel_rfl) (fun _ _ _ h => h) (by rfl) ?_ (by assumption) ?_
                  rotate_left 1
                  · ((intro w hSw; (try dsimp only at hSw); obtain ⟨d0, d1, d2, d3, d4⟩ := hSw; go_simp) <;> with_reducible rfl)
                  try simp only [Act.put, tzA, tzB, tzC, tzD, tzE, tzF]
                  refine tkq (i := 2) (v := ?_) rfl (by kernel_rfl) (fun _ _ _ h => h) (by rfl) ?_ (by assumption) ?_
                  rotate_left 1
                  · ((intro w hSw; (try dsimp only at hSw); go_simp) <;> with_reducible rfl)
                  try simp only [Act.put, tzA, tzB, tzC, tzD, tzE, tzF]
                  refine tkq (i := 3) (v := ?_) rfl (by kernel_rfl) (fun _ _ _ h => h) (by rfl) ?_ (by assumption) ?_
                  rotate_left 1
                  · ((intro w hSw; (try dsimp only at hSw); go_simp) <;> with_reducible rfl)
                  try simp only [Act.put, tzA, tzB, tzC, tzD, tzE, tzF]
                  refine tkq (i := 4) (v := ?_) rfl (by kernel_rfl) (fun _ _ _ h => h) (by rfl) ?_ (by assumption) ?_
                  rotate_left 1
                  · ((intro w hSw; (try dsimp only at hSw); go_simp) <;> with_reducible rfl)
                  try simp only [Act.put, tzA, tzB, tzC, tzD, tzE, tzF]
                  refine tkq (i := 5) (v := ?_) rfl (by kernel_rfl) (fun _ _ _ h => h) (by rfl) ?_ (by assumption) ?_
                  rotate_left 1
                  · ((intro w hSw; (try dsimp only at hSw); obtain ⟨d0, d1, d2, d3, d4⟩ := hSw; go_simp) <;> with_reducible rfl)
                  try simp only [Act.put, tzA, tzB, tzC, tzD, tzE, tzF]
                  refine tkq (i := 6) (v := ?_) rfl (by kernel_rfl) (fun _ _ _ h => h) (by rfl) ?_ (by assumption) ?_
                  rotate_left 1
                  · ((intro w hSw; (try dsimp only at hSw); go_simp) <;> with_reducible rfl)
                  try simp only [Act.put, tzA, tzB, tzC, tzD, tzE, tzF]
                  refine tkq (i := 7) (v := ?_) rfl (by kernel_rfl) (fun _ _ _ h => h) (by rfl) ?_ (by assumption) ?_
                  rotate_left 1
                  · ((intro w hSw; (try dsimp only at hSw); obtain ⟨d0, d1, d2, d3, d4⟩ := hSw; go_simp) <;> with_reducible rfl)
                  try simp only [Act.put, tzA, tzB, tzC, tzD, tzE, tzF]
                  refine tkq (i := 8) (v := ?_) rfl (by kernel_rfl) (fun _ _ _ h => h) (by rfl) ?_ (by assumption) ?_
                  rotate_left 1
                  · ((intro w hSw; (try dsimp only at hSw); go_simp) <;> with_reducible rfl)
                  try simp only [Act.put, tzA, tzB, tzC, tzD, tzE, tzF]
                  refine tkq (i := 9) (v := ?_) rfl (by kernel_rfl) (fun _ _ _ h => h) (by rfl) ?_ (by assumption) ?_
                  rotate_left 1
                  · ((intro w hSw; (try dsimp only at hSw); go_simp) <;> with_reducible rfl)
                  try simp only [Act.put, tzA, tzB, tzC, tzD, tzE, tzF]
                  refine tkq (i := 10) (v := ?_) rfl (by kernel_rfl) (fun _ _ _ h => h) (by rfl) ?_ (by assumption) ?_
                  rotate_left 1
                  · ((intro w hSw; (try dsimp only at hSw); go_simp) <;> with_reducible rfl)
                  try simp only [Act.put, tzA, tzB, tzC, tzD, tzE, tzF]
                  refine tkq (i := 11) (v := ?_) rfl (by kernel_rfl) (fun _ _ _ h => h) (by rfl) ?_ (by assumption) ?_
                  rotate_left 1
                  · ((intro w hSw; (try dsimp only at hSw); obtain ⟨d0, d1, d2, d3, d4⟩ := hSw; go_simp) <;> with_reducible rfl)
                  try simp only [Act.put, tzA, tzB, tzC, tzD, tzE, tzF]
                  refine tkq (i := 12) (v := ?_) rfl (by kernel_rfl) (fun _ _ _ h => h) (by rfl) ?_ (by assumption) ?_
                  rotate_left 1
                  · ((intro w hSw; (try dsimp only at hSw); go_simp) <;> with_reducible rfl)
                  try simp only [Act.put, tzA, tzB, tzC, tzD, tzE, tzF]
                  refine tkq (i := 13) (v := ?_) rfl (by kernel_rfl) (fun _ _ _ h => h) (by rfl) ?_ (by assumption) ?_
                  rotate_left 1
                  · ((intro w hSw; (try dsimp only at hSw); obtain ⟨d0, d1, d2, d3, d4⟩ := hSw; go_simp) <;> with_reducible rfl)
                  try simp only [Act.put, tzA, tzB, tzC, tzD, tzE, tzF]
                  refine tkq (i := 14) (v := ?_) rfl (by kernel_rfl) (fun _ _ _ h => h) (by rfl) ?_ (by assumption) ?_
                  rotate_left 1
                  · ((intro w hSw; (try dsimp only at hSw); go_simp) <;> with_reducible rfl)
                  try simp only [Act.put, tzA, tzB, tzC, tzD, tzE, tzF]
                  refine tkq (i := 15) (v := ?_) rfl (by kernel_rfl) (fun _ _ _ h => h) (by rfl) ?_ (by assumption) ?_
                  rotate_left 1
                  · ((intro w hSw; (try dsimp only at hSw); go_simp) <;> with_reducible rfl)
                  try simp only [Act.put, tzA, tzB, tzC, tzD, tzE, tzF]
                  refine tkq (i := 16) (v := ?_) rfl (by kernel_rfl) (fun _ _ _ h => h) (by rfl) ?_ (by assumption) ?_
                  rotate_left 1
                  · ((intro w hSw; (try dsimp only at hSw); go_simp) <;> with_reducible rfl)
                  try simp only [Act.put, tzA, tzB, tzC, tzD, tzE, tzF]
                  refine tkq (i := 17) (v := ?_) rfl (by kernel_rfl) (fun _ _ _ h => h) (by rfl) ?_ (by assumption) ?_
                  rotate_left 1
                  · ((intro w hSw; (try dsimp only at hSw); obtain ⟨d0, d1, d2, d3, d4⟩ := hSw; go_simp) <;> with_reducible rfl)
                  try simp only [Act.put, tzA, tzB, tzC, tzD, tzE, tzF]
                  refine tkq (i := 18) (v := ?_) rfl (by kernel_rfl) (fun _ _ _ h => h) (by rfl) ?_ (by assumption) ?_
                  rotate_left 1
                  · ((intro w hSw; (try dsimp only at hSw); go_simp) <;> with_reducible rfl)
                  try simp only [Act.put, tzA, tzB, tzC, tzD, tzE, tzF]
                  refine tkq (i := 19) (v := ?_) rfl (by kernel_rfl) (fun _ _ _ h => h) (by rfl) ?_ (by assumption) ?_
                  rotate_left 1
                  · ((intro w hSw; (try dsimp only at hSw); go_simp) <;> with_reducible rfl)
                  try simp only [Act.put, tzA, tzB, tzC, tzD, tzE, tzF]
                  refine wpAnyH_done (by kernel_rfl) ?_ _
                  clear hHeld
                  go_wp2_with fail
                  go_ret
                  exact ⟨rfl, HB0.out.trans (HBX.out.drew.mono HB0.out.size)⟩
                · have HNN := Lib.hid (show NoClash cs x (k + 1) from fun j z hj hz => by
                    rcases Nat.lt_succ_iff_lt_or_eq.1 hj with h | h
                    · exact HK.out j z h hz
                    · subst h
                      rw [HY.out] at hz
                      obtain rfl := Option.some.inj hz
                      exact fun h => q2 h.2)
                  go_upto_region 10 with fail
                  refine wp_region_held_drew (S := fun W => W.cell? ⟨ph, 0, none⟩ = some (.slice (some ⟨g, o, none⟩) cs.length cc) ∧ W.cell? ⟨g, bk, none⟩ = some (.int .i64 y.thread) ∧ W.cell? ⟨pc, 0, none⟩ = some (.int .i64 x.thread) ∧ W.cell? ⟨pc, 8, none⟩ = some (.int .i64 x.from') ∧ W.cell? ⟨g, bk + 9, none⟩ = some (.int .i64 y.till)) (by kernel_rfl) ⟨k0, y0, d0, d8, y9⟩ (fun hHeld => ?_)
                  refine tkq (i := 0) (v := ?_) rfl (by kernel_rfl) (fun _ _ _ h => h) (by rfl) ?_ (by assumption) ?_
                  rotate_left 1
                  · ((intro w hSw; (try dsimp only at hSw); go_simp) <;> with_reducible rfl)
                  try simp only [Act.put, tzA, tzB, tzC, tzD, tzE]
                  refine tkq (i := 1) (v := ?_) rfl (by kernel_rfl) (fun _ _ _ h => h) (by rfl) ?_ (by assumption) ?_
                  rotate_left 1
                  · ((intro w hSw; (try dsimp only at hSw); obtain ⟨d0, d1, d2, d3, d4⟩ := hSw; go_simp) <;> with_reducible rfl)
                  try simp only [Act.put, tzA, tzB, tzC, tzD, tzE, tzF]
                  refine tkq (i := 2) (v := ?_) rfl (by kernel_rfl) (fun _ _ _ h => h) (by rfl) ?_ (by assumption) ?_
                  rotate_left 1
                  · ((intro w hSw; (try dsimp only at hSw); go_simp) <;> with_reducible rfl)
                  try simp only [Act.put, tzA, tzB, tzC, tzD, tzE, tzF]
                  refine tkq (i := 3) (v := ?_) rfl (by kernel_rfl) (fun _ _ _ h => h) (by rfl) ?_ (by assumption) ?_
                  rotate_left 1
                  · ((intro w hSw; (try dsimp only at hSw); go_simp) <;> with_reducible rfl)
                  try simp only [Act.put, tzA, tzB, tzC, tzD, tzE, tzF]
                  refine tkq (i := 4) (v := ?_) rfl (by kernel_rfl) (fun _ _ _ h => h) (by rfl) ?_ (by assumption) ?_
                  rotate_left 1
                  · ((intro w hSw; (try dsimp only at hSw); go_simp) <;> with_reducible rfl)
                  try simp only [Act.put, tzA, tzB, tzC, tzD, tzE, tzF]
                  refine tkq (i := 5) (v := ?_) rfl (by kernel_rfl) (fun _ _ _ h => h) (by rfl) ?_ (by assumption) ?_
                  rotate_left 1
                  · ((intro w hSw; (try dsimp only at hSw); obtain ⟨d0, d1, d2, d3, d4⟩ := hSw; go_simp) <;> with_reducible rfl)
                  try simp only [Act.put, tzA, tzB, tzC, tzD, tzE, tzF]
                  refine tkq (i := 6) (v := ?_) rfl (by kernel_rfl) (fun _ _ _ h => h) (by rfl) ?_ (by assumption) ?_
                  rotate_left 1
                  · ((intro w hSw; (try dsimp only at hSw); go_simp) <;> with_reducible rfl)
                  try simp only [Act.put, tzA, tzB, tzC, tzD, tzE, tzF]
                  refine tkq (i := 7) (v := ?_) rfl (by kernel_rfl) (fun _ _ _ h => h) (by rfl) ?_ (by assumption) ?_
                  rotate_left 1
                  · ((intro w hSw; (try dsimp only at hSw); obtain ⟨d0, d1, d2, d3, d4⟩ := hSw; go_simp) <;> with_reducible rfl)
                  try simp only [Act.put, tzA, tzB, tzC, tzD, tzE, tzF]
                  refine tkq (i := 8) (v := ?_) rfl (by kernel_rfl) (fun _ _ _ h => h) (by rfl) ?_ (by assumption) ?_
                  rotate_left 1
                  · ((intro w hSw; (try dsimp only at hSw); go_simp) <;> with_reducible rfl)
                  try simp only [Act.put, tzA, tzB, tzC, tzD, tzE, tzF]
                  refine tkq (i := 9) (v := ?_) rfl (by kernel_rfl) (fun _ _ _ h => h) (by rfl) ?_ (by assumption) ?_
                  rotate_left 1
                  · ((intro w hSw; (try dsimp only at hSw); go_simp) <;> with_reducible rfl)
                  try simp only [Act.put, tzA, tzB, tzC, tzD, tzE, tzF]
                  refine tkq (i := 10) (v := ?_) rfl (by kernel_rfl) (fun _ _ _ h => h) (by rfl) ?_ (by assumption) ?_
                  rotate_left 1
                  · ((intro w hSw; (try dsimp only at hSw); go_simp) <;> with_reducible rfl)
                  try simp only [Act.put, tzA, tzB, tzC, tzD, tzE, tzF]
                  refine tkq (i := 11) (v := ?_) rfl (by kernel_rfl) (fun _ _ _ h => h) (by rfl) ?_ (by assumption) ?_
                  rotate_left 1
                  · ((intro w hSw; (try dsimp only at hSw); obtain ⟨d0, d1, d2, d3, d4⟩ := hSw; go_simp) <;> with_reducible rfl)
                  try simp only [Act.put, tzA, tzB, tzC, tzD, tzE, tzF]
                  refine tkq (i := 12) (v := ?_) rfl (by kernel_rfl) (fun _ _ _ h => h) (by rfl) ?_ (by assumption) ?_
                  rotate_left 1
                  · ((intro w hSw; (try dsimp only at hSw); go_simp) <;> with_reducible rfl)
                  try simp only [Act.put, tzA, tzB, tzC, tzD, tzE, tzF]
                  refine tkq (i := 13) (v := ?_) rfl (by kernel_rfl) (fun _ _ _ h => h) (by rfl) ?_ (by assumption) ?_
                  rotate_left 1
                  · ((intro w hSw; (try dsimp only at hSw); obtain ⟨d0, d1, d2, d3, d4⟩ := hSw; go_simp) <;> with_reducible rfl)
                  try simp only [Act.put, tzA, tzB, tzC, tzD, tzE, tzF]
                  refine tkq (i := 14) (v := ?_) rfl (by kernel_rfl) (fun _ _ _ h => h) (by rfl) ?_ (by assumption) ?_
                  rotate_left 1
                  · ((intro w hSw; (try dsimp only at hSw); go_simp) <;> with_reducible rfl)
                  try simp only [Act.put, tzA, tzB, tzC, tzD, tzE, tzF]
                  refine tkq (i := 15) (v := ?_) rfl (by kernel_rfl) (fun _ _ _ h => h) (by rfl) ?_ (by assumption) ?_
                  rotate_left 1
                  · ((intro w hSw; (try dsimp only at hSw); go_simp) <;> with_reducible rfl)
                  try simp only [Act.put, tzA, tzB, tzC, tzD, tzE, tzF]
                  refine tkq (i := 16) (v := ?_) rfl (by kernel_rfl) (fun _ _ _ h => h) (by rfl) ?_ (by assumption) ?_
                  rotate_left 1
                  · ((intro w hSw; (try dsimp only at hSw); go_simp) <;> with_reducible rfl)
                  try simp only [Act.put, tzA, tzB, tzC, tzD, tzE, tzF]
                  refine tkq (i := 17) (v := ?_) rfl (by kernel_rfl) (fun _ _ _ h => h) (by rfl) ?_ (by assumption) ?_
                  rotate_left 1
                  · ((intro w hSw; (try dsimp only at hSw); obtain ⟨d0, d1, d2, d3, d4⟩ := hSw; go_simp) <;> with_reducible rfl)
                  try simp only [Act.put, tzA, tzB, tzC, tzD, tzE, tzF]
                  refine tkq (i := 18) (v := ?_) rfl (by kernel_rfl) (fun _ _ _ h => h) (by rfl) ?_ (by assumption) ?_
                  rotate_left 1
                  · ((intro w hSw; (try dsimp only at hSw); go_simp) <;> with_reducible rfl)
                  try simp only [Act.put, tzA, tzB, tzC, tzD, tzE, tzF]
                  refine tkq (i := 19) (v := ?_) rfl (by kernel_rfl) (fun _ _ _ h => h) (by rfl) ?_ (by assumption) ?_
                  rotate_left 1
                  · ((intro w hSw; (try dsimp only at hSw); go_simp) <;> with_reducible rfl)
                  try simp only [Act.put, tzA, tzB, tzC, tzD, tzE, tzF]
                  refine wpAnyH_done (by kernel_rfl) ?_ _
                  clear hHeld
                  go_wp2_with fail
                  go_roundw
                  case rel => exact ⟨k + 1, by go_num, by omega, HNN, Lib.hid HBK.out.drew⟩
                  case measure => simp [intOf]; omega
              · have q1' : (y.thread == x.thread) = false := by simpa using q1
                have HNN := Lib.hid (show NoClash cs x (k + 1) from fun j z hj hz => by
                  rcases Nat.lt_succ_iff_lt_or_eq.1 hj with h | h
                  · exact HK.out j z h hz
                  · subst h
                    rw [HY.out] at hz
                    obtain rfl := Option.some.inj hz
                    exact fun h => q1 h.1)
                clear q1
                go_upto_region 10 with fail
                refine wp_region_held_drew (S := fun W => W.cell? ⟨ph, 0, none⟩ = some (.slice (some ⟨g, o, none⟩) cs.length cc) ∧ W.cell? ⟨g, bk, none⟩ = some (.int .i64 y.thread) ∧ W.cell? ⟨pc, 0, none⟩ = some (.int .i64 x.thread) ∧ W.cell? ⟨pc, 8, none⟩ = some (.int .i64 x.from') ∧ W.cell? ⟨g, bk + 9, none⟩ = some (.int .i64 y.till)) (by kernel_rfl) ⟨k0, y0, d0, d8, y9⟩ (fun hHeld => ?_)
                refine tkq (i := 0) (v := ?_) rfl (by kernel_rfl) (fun _ _ _ h => h) (by rfl) ?_ (by assumption) ?_
                rotate_left 1
                · ((intro w hSw; (try dsimp only at hSw); go_simp) <;> with_reducible rfl)
                try simp only [Act.put, tzA, tzB, tzC, tzD, tzE]
                refine tkq (i := 1) (v := ?_) rfl (by kernel_rfl) (fun _ _ _ h => h) (by rfl) ?_ (by assumption) ?_
                rotate_left 1
                · ((intro w hSw; (try dsimp only at hSw); obtain ⟨d0, d1, d2, d3, d4⟩ := hSw; go_simp) <;> with_reducible rfl)
                try simp only [Act.put, tzA, tzB, tzC, tzD, tzE, tzF]
                refine tkq (i := 2) (v := ?_) rfl (by kernel_rfl) (fun _ _ _ h => h) (by rfl) ?_ (by assumption) ?_
                rotate_left 1
                · ((intro w hSw; (try dsimp only at hSw); go_simp) <;> with_reducible rfl)
                try simp only [Act.put, tzA, tzB, tzC, tzD, tzE, tzF]
                refine tkq (i := 3) (v := ?_) rfl (by kernel_rfl) (fun _ _ _ h => h) (by rfl) ?_ (by assumption) ?_
                rotate_left 1
                · ((intro w hSw; (try dsimp only at hSw); go_simp) <;> with_reducible rfl)
                try simp only [Act.put, tzA, tzB, tzC, tzD, tzE, tzF]
                refine tkq (i := 4) (v := ?_) rfl (by kernel_rfl) (fun _ _ _ h => h) (by rfl) ?_ (by assumption) ?_
                rotate_left 1
                · ((intro w hSw; (try dsimp only at hSw); go_simp) <;> with_reducible rfl)
                try simp only [Act.put, tzA, tzB, tzC, tzD, tzE, tzF]
                refine tkq (i := 5) (v := ?_) rfl (by kernel_rfl) (fun _ _ _ h => h) (by rfl) ?_ (by assumption) ?_
                rotate_left 1
                · ((intro w hSw; (try dsimp only at hSw); obtain ⟨d0, d1, d2, d3, d4⟩ := hSw; go_simp) <;> with_reducible rfl)
                try simp only [Act.put, tzA, tzB, tzC, tzD, tzE, tzF]
                refine tkq (i := 6) (v := ?_) rfl (by kernel_rfl) (fun _ _ _ h => h) (by rfl) ?_ (by assumption) ?_
                rotate_left 1
                · ((intro w hSw; (try dsimp only at hSw); go_simp) <;> with_reducible rfl)
                try simp only [Act.put, tzA, tzB, tzC, tzD, tzE, tzF]
                refine tkq (i := 7) (v := ?_) rfl (by kernel_rfl) (fun _ _ _ h => h) (by rfl) ?_ (by assumption) ?_
                rotate_left 1
                · ((intro w hSw; (try dsimp only at hSw); obtain ⟨d0, d1, d2, d3, d4⟩ := hSw; go_simp) <;> with_reducible rfl)
                try simp only [Act.put, tzA, tzB, tzC, tzD, tzE, tzF]
                refine tkq (i := 8) (v := ?_) rfl (by kernel_rfl) (fun _ _ _ h => h) (by rfl) ?_ (by assumption) ?_
                rotate_left 1
                · ((intro w hSw; (try dsimp only at hSw); go_simp) <;> with_reducible rfl)
                try simp only [Act.put, tzA, tzB, tzC, tzD, tzE, tzF]
                refine tkq (i := 9) (v := ?_) rfl (by kernel_rfl) (fun _ _ _ h => h) (by rfl) ?_ (by assumption) ?_
                rotate_left 1
                · ((intro w hSw; (try dsimp only at hSw); go_simp) <;> with_reducible rfl)
                try simp only [Act.put, tzA, tzB, tzC, tzD, tzE, tzF]
                refine tkn (i := 10) rfl (by kernel_rfl) (fun _ _ _ h => h) (by rfl) (by assumption) ?_
                try simp only [Act.put, tzA, tzB, tzC, tzD, tzE, tzF]
                refine tkn (i := 11) rfl (by kernel_rfl) (fun _ _ _ h => h) (by rfl) (by assumption) ?_
                try simp only [Act.put, tzA, tzB, tzC, tzD, tzE, tzF]
                refine tkn (i := 12) rfl (by kernel_rfl) (fun _ _ _ h => h) (by rfl) (by assumption) ?_
                try simp only [Act.put, tzA, tzB, tzC, tzD, tzE, tzF]
                refine tkn (i := 13) rfl (by kernel_rfl) (fun _ _ _ h => h) (by rfl) (by assumption) ?_
                try simp only [Act.put, tzA, tzB, tzC, tzD, tzE, tzF]
                refine tkn (i := 14) rfl (by kernel_rfl) (fun _ _ _ h => h) (by rfl) (by assumption) ?_
                try simp only [Act.put, tzA, tzB, tzC, tzD, tzE, tzF]
                refine tkn (i := 15) rfl (by kernel_rfl) (fun _ _ _ h => h) (by rfl) (by assumption) ?_
                try simp only [Act.put, tzA, tzB, tzC, tzD, tzE, tzF]
                refine tkn (i := 16) rfl (by kernel_rfl) (fun _ _ _ h => h) (by rfl) (by assumption) ?_
                try simp only [Act.put, tzA, tzB, tzC, tzD, tzE, tzF]
                refine tkn (i := 17) rfl (by kernel_rfl) (fun _ _ _ h => h) (by rfl) (by assumption) ?_
                try simp only [Act.put, tzA, tzB, tzC, tzD, tzE, tzF]
                refine tkn (i := 18) rfl (by kernel_rfl) (fun _ _ _ h => h) (by rfl) (by assumption) ?_
                try simp only [Act.put, tzA, tzB, tzC, tzD, tzE, tzF]
                refine tkq (i := 19) (v := ?_) rfl (by kernel_rfl) (fun _ _ _ h => h) (by rfl) ?_ (by assumption) ?_
                rotate_left 1
                · ((intro w hSw; (try dsimp only at hSw); go_simp) <;> with_reducible rfl)
                try simp only [Act.put, tzA, tzB, tzC, tzD, tzE, tzF]
                refine wpAnyH_done (by kernel_rfl) ?_ _
                clear hHeld
                go_wp2_with fail
                go_roundw
                case rel => exact ⟨k + 1, by go_num, by omega, HNN, Lib.hid HBK.out.drew⟩
                case measure => simp [intOf]; omega
            · obtain rfl : k = i := by omega
              have HOK := Lib.hid (show ∀ j c, j < k + 1 → cs[j]? = some c → okC (cs.take j) c = true from fun j c hj hc => by
                rcases Nat.lt_succ_iff_lt_or_eq.1 hj with h | h
                · exact HO.out j c h hc
                · subst h
                  rw [HXI.out] at hc
                  obtain rfl := Option.some.inj hc
                  refine okC_parts.2 ⟨HGD.out, fun y hy => ?_⟩
                  obtain ⟨m, hm, hmy⟩ := List.getElem_of_mem hy
                  rw [List.length_take] at hm
                  rw [List.getElem_take] at hmy
                  exact HK.out m y (by omega) (by rw [← hmy]; exact List.getElem?_eq_getElem _))
              go_wp2_with fail
              go_roundw
              case rel => exact ⟨k + 1, by go_num, by omega, HOK, HBX⟩
              case measure => simp [intOf]; omega
        · have hno : res = false := by
            rw [HRES.out]
            refine wellC_no HXI.out ?_
            rw [Bool.eq_false_iff]
            intro hc
            have h1 := (okC_parts.1 hc).1
            have h2 := HBAD.out.1 rfl
            omega
          subst hno
          go_wp2_with fail
          go_ret
          exact ⟨rfl, HB0.out.trans (HBL.out.mono HB0.out.size)⟩
    · obtain rfl : i = cs.length := by omega
      have hcall := rorder_any (HH0.out.below HB.out) HN.out
      have HC := Lib.hid hcall
      have hb2 := HB.out
      clear hcall hlt hil
      go_upto_region 13 with fail
      refine HC.out.mono ?_
      rintro e w2 ⟨v, rfl, hrow, -, hlow⟩
      obtain ⟨L, hL⟩ : ∃ L, L = orderL cs ds := ⟨_, rfl⟩
      rw [← hL] at hrow
      have hLl : L.length ≤ 1000000 := by rw [hL, orderL_len]; exact HN.out
      obtain ⟨oa, oc, rfl⟩ := hrow.len
      have HRW := Lib.hid hrow
      have HB2 := Lib.hid (HB.out.trans (hlow.mono HB.out.size))
      have HL := Lib.hid hL
      have HWC := Lib.hid (show wellH cs ds = wellS (orderL cs ds) from by
        unfold wellH
        rw [wellC_take.2 (fun j c hc => HO.out j c (List.getElem?_eq_some_iff.1 hc).1 hc), Bool.true_and])
      clear hrow hlow hb2 hL HB k0 k1 HC hphr
      go_upto_region 14 with fail
      obtain ⟨wo, rfl⟩ : ∃ wo : World, wo = wr := ⟨_, rfl⟩
      go_loopw [7] (fun s7 wr => ∃ k : Nat, s7 = .int .i64 ((k : Int) + 1) ∧ (k + 1 ≤ L.length ∨ k = 0) ∧ Hid (NoTwin L k) ∧ Hid (Below w2.heap.size w2 wr)) (fun s7 _ => L.length + 1 - (intOf s7).toNat)
      case atStart => exact ⟨0, rfl, .inr rfl, Lib.hid (fun j x y h => by omega), Lib.hid (Below.refl _ _)⟩
      case round =>
        obtain ⟨k, rfl, hkb, HK, HBK⟩ := hrel
        have HBX := Lib.hid (HB2.out.trans (HBK.out.mono HB2.out.size))
        by_cases hkl : k + 1 < L.length
        · have hk6 : k ≤ 1000000 := by omega
          obtain ⟨x, hx⟩ : ∃ x, L[k]? = some x := ⟨_, List.getElem?_eq_getElem (by omega)⟩
          obtain ⟨y, hy⟩ : ∃ y, L[k + 1]? = some y := ⟨_, List.getElem?_eq_getElem hkl⟩
          obtain ⟨g, o, c', hv, hg, hr⟩ := HRW.out.get hx
          obtain ⟨rfl, -, rfl⟩ := slice_inj hv
          obtain ⟨g2, o2, c2, hv2, hg2, hr2⟩ := HRW.out.get hy
          obtain ⟨e2, -, -⟩ := slice_inj hv2
          obtain ⟨rfl, rfl⟩ : g = g2 ∧ o = o2 := by simpa using e2
          have x0 : wr.cell? ⟨g, o + k * 3, none⟩ = some (.int .i64 x.step) := hr wr HBK.out 0 _ rfl
          have y0 : wr.cell? ⟨g, o + (k + 1) * 3, none⟩ = some (.int .i64 y.step) := hr2 wr HBK.out 0 _ rfl
          have ix0 : ∀ W : World, (Instr.indexAt 96 (.slice (some ⟨g, o, none⟩) L.length oc) (.int .i64 (k : Int))).run Tryz.prog W = .ok (.pointer (some ⟨g, o + k * 3, none⟩)) W := fun W => idx_rent2 rfl (by omega) W
          have ix1 : ∀ W : World, (Instr.indexAt 96 (.slice (some ⟨g, o, none⟩) L.length oc) (.int .i64 ((k : Int) + 1))).run Tryz.prog W = .ok (.pointer (some ⟨g, o + (k + 1) * 3, none⟩)) W := fun W => idx_rent2 (k := k + 1) rfl hkl W
          obtain ⟨b0, hb0⟩ : ∃ z, z = o + k * 3 := ⟨_, rfl⟩
          obtain ⟨b1, hb1⟩ : ∃ z, z = o + (k + 1) * 3 := ⟨_, rfl⟩
          rw [← hb0] at x0 ix0
          rw [← hb1] at y0 ix1
          have HXY := Lib.hid (And.intro hx hy)
          have hgw : g < wr.heap.size := Nat.lt_of_lt_of_le hg HBK.out.size
          have hwk : IntKind.i64.wrap (k : Int) = (k : Int) := IntWalk.i64_in _ (by omega)
          have hlt1 : ((k : Int) + 1) < (L.length : Int) := by omega
          clear hb0 hb1 hv hv2 hr hr2 e2 hx hy hg2
          by_cases q1 : y.step = x.step
          · have q1' : (y.step == x.step) = true := beq_iff_eq.2 q1
            have hno : res = false := by
              rw [HRES.out, HWC.out, Bool.eq_false_iff]
              intro hw
              have h1 := (wellS_adj (orderL_sort cs ds)).1 hw k x y
              rw [← HL.out] at h1
              exact h1 HXY.out.1 HXY.out.2 q1.symm
            subst hno
            clear q1
            go_upto_region 16 with fail
            refine wp_region_held_drew (S := fun W => W.cell? ⟨g, b1, none⟩ = some (.int .i64 y.step) ∧ W.cell? ⟨g, b0, none⟩ = some (.int .i64 x.step)) (by kernel_rfl) ⟨y0, x0⟩ (fun hHeld => ?_)
            refine tkq (i := 0) (v := ?_) rfl (by kernel_rfl) (fun _ _ _ h => h) (by rfl) ?_ (by assumption) ?_
            rotate_left 1
            · ((intro w hSw; (try dsimp only at hSw); go_simp) <;> with_reducible rfl)
            try simp only [Act.put, tzA, tzB, tzC, tzD, tzE]
            refine tkq (i := 1) (v := ?_) rfl (by kernel_rfl) (fun _ _ _ h => h) (by rfl) ?_ (by assumption) ?_
            rotate_left 1
            · ((intro w hSw; (try dsimp only at hSw); go_simp) <;> with_reducible rfl)
            try simp only [Act.put, tzA, tzB, tzC, tzD, tzE, tzF]
            refine tkq (i := 2) (v := ?_) rfl (by kernel_rfl) (fun _ _ _ h => h) (by rfl) ?_ (by assumption) ?_
            rotate_left 1
            · ((intro w hSw; (try dsimp only at hSw); go_simp) <;> with_reducible rfl)
            try simp only [Act.put, tzA, tzB, tzC, tzD, tzE, tzF]
            refine tkq (i := 3) (v := ?_) rfl (by kernel_rfl) (fun _ _ _ h => h) (by rfl) ?_ (by assumption) ?_
            rotate_left 1
            · ((intro w hSw; (try dsimp only at hSw); go_simp) <;> with_reducible rfl)
            try simp only [Act.put, tzA, tzB, tzC, tzD, tzE, tzF]
            refine tkq (i := 4) (v := ?_) rfl (by kernel_rfl) (fun _ _ _ h => h) (by rfl) ?_ (by assumption) ?_
            rotate_left 1
            · ((intro w hSw; (try dsimp only at hSw); obtain ⟨d0, d1⟩ := hSw; go_simp) <;> with_reducible rfl)
            try simp only [Act.put, tzA, tzB, tzC, tzD, tzE, tzF]
            refine tkq (i := 5) (v := ?_) rfl (by kernel_rfl) (fun _ _ _ h => h) (by rfl) ?_ (by assumption) ?_
            rotate_left 1
            · ((intro w hSw; (try dsimp only at hSw); go_simp) <;> with_reducible rfl)
            try simp only [Act.put, tzA, tzB, tzC, tzD, tzE, tzF]
            refine tkq (i := 6) (v := ?_) rfl (by kernel_rfl) (fun _ _ _ h => h) (by rfl) ?_ (by assumption) ?_
            rotate_left 1
            · ((intro w hSw; (try dsimp only at hSw); go_simp) <;> with_reducible rfl)
            try simp only [Act.put, tzA, tzB, tzC, tzD, tzE, tzF]
            refine tkq (i := 7) (v := ?_) rfl (by kernel_rfl) (fun _ _ _ h => h) (by rfl) ?_ (by assumption) ?_
            rotate_left 1
            · ((intro w hSw; (try dsimp only at hSw); go_simp) <;> with_reducible rfl)
            try simp only [Act.put, tzA, tzB, tzC, tzD, tzE, tzF]
            refine tkq (i := 8) (v := ?_) rfl (by kernel_rfl) (fun _ _ _ h => h) (by rfl) ?_ (by assumption) ?_
            rotate_left 1
            · ((intro w hSw; (try dsimp only at hSw); go_simp) <;> with_reducible rfl)
            try simp only [Act.put, tzA, tzB, tzC, tzD, tzE, tzF]
            refine tkq (i := 9) (v := ?_) rfl (by kernel_rfl) (fun _ _ _ h => h) (by rfl) ?_ (by assumption) ?_
            rotate_left 1
            · ((intro w hSw; (try dsimp only at hSw); go_simp) <;> with_reducible rfl)
            try simp only [Act.put, tzA, tzB, tzC, tzD, tzE, tzF]
            refine tkq (i := 10) (v := ?_) rfl (by kernel_rfl) (fun _ _ _ h => h) (by rfl) ?_ (by assumption) ?_
            rotate_left 1
            · ((intro w hSw; (try dsimp only at hSw); obtain ⟨d0, d1⟩ := hSw; go_simp) <;> with_reducible rfl)
            try simp only [Act.put, tzA, tzB, tzC, tzD, tzE, tzF]
            refine tkq (i := 11) (v := ?_) rfl (by kernel_rfl) (fun _ _ _ h => h) (by rfl) ?_ (by assumption) ?_
            rotate_left 1
            · ((intro w hSw; (try dsimp only at hSw); go_simp) <;> with_reducible rfl)
            try simp only [Act.put, tzA, tzB, tzC, tzD, tzE, tzF]
            refine wpAnyH_done (by kernel_rfl) ?_ _
            clear hHeld
            go_wp2_with fail
            go_ret
            exact ⟨rfl, HB0.out.trans (HBX.out.drew.mono HB0.out.size)⟩
          · have q1' : (y.step == x.step) = false := by simpa using q1
            have HNN := Lib.hid (show NoTwin L (k + 1) from fun j u v hj hu hv => by
              rcases Nat.lt_succ_iff_lt_or_eq.1 hj with h | h
              · exact HK.out j u v h hu hv
              · subst h
                rw [HXY.out.1] at hu; rw [HXY.out.2] at hv
                obtain rfl := Option.some.inj hu
                obtain rfl := Option.some.inj hv
                exact fun e2 => q1 e2.symm)
            clear q1
            go_upto_region 16 with fail
            refine wp_region_held_drew (S := fun W => W.cell? ⟨g, b1, none⟩ = some (.int .i64 y.step) ∧ W.cell? ⟨g, b0, none⟩ = some (.int .i64 x.step)) (by kernel_rfl) ⟨y0, x0⟩ (fun hHeld => ?_)
            refine tkq (i := 0) (v := ?_) rfl (by kernel_rfl) (fun _ _ _ h => h) (by rfl) ?_ (by assumption) ?_
            rotate_left 1
            · ((intro w hSw; (try dsimp only at hSw); go_simp) <;> with_reducible rfl)
            try simp only [Act.put, tzA, tzB, tzC, tzD, tzE]
            refine tkq (i := 1) (v := ?_) rfl (by kernel_rfl) (fun _ _ _ h => h) (by rfl) ?_ (by assumption) ?_
            rotate_left 1
            · ((intro w hSw; (try dsimp only at hSw); go_simp) <;> with_reducible rfl)
            try simp only [Act.put, tzA, tzB, tzC, tzD, tzE, tzF]
            refine tkq (i := 2) (v := ?_) rfl (by kernel_rfl) (fun _ _ _ h => h) (by rfl) ?_ (by assumption) ?_
            rotate_left 1
            · ((intro w hSw; (try dsimp only at hSw); go_simp) <;> with_reducible rfl)
            try simp only [Act.put, tzA, tzB, tzC, tzD, tzE, tzF]
            refine tkq (i := 3) (v := ?_) rfl (by kernel_rfl) (fun _ _ _ h => h) (by rfl) ?_ (by assumption) ?_
            rotate_left 1
            · ((intro w hSw; (try dsimp only at hSw); go_simp) <;> with_reducible rfl)
            try simp only [Act.put, tzA, tzB, tzC, tzD, tzE, tzF]
            refine tkq (i := 4) (v := ?_) rfl (by kernel_rfl) (fun _ _ _ h => h) (by rfl) ?_ (by assumption) ?_
            rotate_left 1
            · ((intro w hSw; (try dsimp only at hSw); obtain ⟨d0, d1⟩ := hSw; go_simp) <;> with_reducible rfl)
            try simp only [Act.put, tzA, tzB, tzC, tzD, tzE, tzF]
            refine tkq (i := 5) (v := ?_) rfl (by kernel_rfl) (fun _ _ _ h => h) (by rfl) ?_ (by assumption) ?_
            rotate_left 1
            · ((intro w hSw; (try dsimp only at hSw); go_simp) <;> with_reducible rfl)
            try simp only [Act.put, tzA, tzB, tzC, tzD, tzE, tzF]
            refine tkq (i := 6) (v := ?_) rfl (by kernel_rfl) (fun _ _ _ h => h) (by rfl) ?_ (by assumption) ?_
            rotate_left 1
            · ((intro w hSw; (try dsimp only at hSw); go_simp) <;> with_reducible rfl)
            try simp only [Act.put, tzA, tzB, tzC, tzD, tzE, tzF]
            refine tkq (i := 7) (v := ?_) rfl (by kernel_rfl) (fun _ _ _ h => h) (by rfl) ?_ (by assumption) ?_
            rotate_left 1
            · ((intro w hSw; (try dsimp only at hSw); go_simp) <;> with_reducible rfl)
            try simp only [Act.put, tzA, tzB, tzC, tzD, tzE, tzF]
            refine tkq (i := 8) (v := ?_) rfl (by kernel_rfl) (fun _ _ _ h => h) (by rfl) ?_ (by assumption) ?_
            rotate_left 1
            · ((intro w hSw; (try dsimp only at hSw); go_simp) <;> with_reducible rfl)
            try simp only [Act.put, tzA, tzB, tzC, tzD, tzE, tzF]
            refine tkq (i := 9) (v := ?_) rfl (by kernel_rfl) (fun _ _ _ h => h) (by rfl) ?_ (by assumption) ?_
            rotate_left 1
            · ((intro w hSw; (try dsimp only at hSw); go_simp) <;> with_reducible rfl)
            try simp only [Act.put, tzA, tzB, tzC, tzD, tzE, tzF]
            refine tkq (i := 10) (v := ?_) rfl (by kernel_rfl) (fun _ _ _ h => h) (by rfl) ?_ (by assumption) ?_
            rotate_left 1
            · ((intro w hSw; (try dsimp only at hSw); obtain ⟨d0, d1⟩ := hSw; go_simp) <;> with_reducible rfl)
            try simp only [Act.put, tzA, tzB, tzC, tzD, tzE, tzF]
            refine tkq (i := 11) (v := ?_) rfl (by kernel_rfl) (fun _ _ _ h => h) (by rfl) ?_ (by assumption) ?_
            rotate_left 1
            · ((intro w hSw; (try dsimp only at hSw); go_simp) <;> with_reducible rfl)
            try simp only [Act.put, tzA, tzB, tzC, tzD, tzE, tzF]
            refine wpAnyH_done (by kernel_rfl) ?_ _
            clear hHeld
            go_wp2_with fail
            go_roundw
            case rel => exact ⟨k + 1, by go_num, by omega, HNN, Lib.hid HBK.out.drew⟩
            case measure => simp [intOf]; omega
        · have hlt1 : ¬ ((k : Int) + 1) < (L.length : Int) := by omega
          have hyes : res = true := by
            rw [HRES.out, HWC.out]
            refine (wellS_adj (orderL_sort cs ds)).2 ?_
            rw [← HL.out]
            intro j x y hx hy
            have := (List.getElem?_eq_some_iff.1 hy).1
            exact HK.out j x y (by omega) hx hy
          subst hyes
          go_wp2_with fail
          go_ret
          exact ⟨rfl, HB0.out.trans (HBX.out.mono HB0.out.size)⟩
end Go.Proofs.YtaooangnnlopcaaGreatDoor
