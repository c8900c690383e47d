/- LinsLate walked. Condition: the history lies in memory. -/
import Derived.Test.YtaooangnnlopcaaDoorLinLives
import Derived.Test.YtaooangnnlopcaaDoorLinFront
namespace Go.Proofs.YtaooangnnlopcaaDoor
open Go.RowKit Go.ChangeMaps Go.MapKept
/-- A variable of many numbers. -/
def MkObj (W : World) (g n : Nat) (t : TypeId) (p : Nat → Int) : Prop := ∃ A : Array Value, W.heap[g]? = some (.cells A t (0, 0)) ∧ A.size = n ∧ ∀ a, a < n → A[a]? = some (.int .i64 (p a))
theorem MkObj.cell {W : World} {g n : Nat} {t : TypeId} {p : Nat → Int} (h : MkObj W g n t p) {a : Nat} (ha : a < n) : W.cell? ⟨g, a, none⟩ = some (.int .i64 (p a)) := by
  obtain ⟨A, h1, h2, h3⟩ := h
  have h4 := (cells_at h1 a).1
  rw [h4, h3 a ha]
theorem MkObj.frozen {W : World} {g n : Nat} {t : TypeId} {p : Nat → Int} (h : MkObj W g n t p) (a : Nat) : W.frozen? ⟨g, a, none⟩ = false := by
  obtain ⟨A, h1, h2, h3⟩ := h
  exact frozen_of_row W g a A _ h1
theorem MkObj.lt {W : World} {g n : Nat} {t : TypeId} {p : Nat → Int} (h : MkObj W g n t p) : g < W.heap.size := by
  obtain ⟨A, h1, _⟩ := h
  exact (Array.getElem?_eq_some_iff.1 h1).1
theorem MkObj.kept {M : Nat → Prop} {W W' : World} {g n : Nat} {t : TypeId} {p : Nat → Int} (h : MkObj W g n t p) (hc : Chg M W W') (hM : ¬ M g) : MkObj W' g n t p := by
  obtain ⟨A, h1, h2, h3⟩ := h
  exact ⟨A, hc.obj h1 hM, h2, h3⟩
theorem MkObj.set {W : World} {g n : Nat} {t : TypeId} {p : Nat → Int} (h : MkObj W g n t p) (a : Nat) (z : Int) : MkObj (W.setCell ⟨g, a, none⟩ (.int .i64 z)) g n t (fun b => if b = a then z else p b) := by
  obtain ⟨A, h1, h2, h3⟩ := h
  refine ⟨_, heap_setCell_same W g a A _ _ h1, by simpa using h2, fun b hb => ?_⟩
  by_cases e : b = a
  · subst e
    simp [h2, hb]
  · simp only [if_neg e]
    rw [← h3 b hb]
    simp [Ne.symm e]
theorem MkObj.congr {W : World} {g n : Nat} {t : TypeId} {p q : Nat → Int} (h : MkObj W g n t p) (e : ∀ a, p a = q a) : MkObj W g n t q := by
  rw [← show p = q from funext e]
  exact h
theorem MkObj.zeros {W : World} {g n : Nat} {t : TypeId} (h : W.heap[g]? = some (.cells (Array.replicate n (.int .i64 0)) t (0, 0))) : MkObj W g n t (fun _ => 0) :=
  ⟨_, h, by simp, fun a ha => by simp [ha]⟩
abbrev mk01 (m : Nat → Bool) (a : Nat) : Int := if m a then 1 else 0
theorem markC_snoc {L : List EntD} {i : Nat} {p : Int} {a : Nat} (hx : L[i]? = some ⟨p, (a : Int), -1⟩) (b : Nat) : mk01 (markC (L.take (i + 1))) b = if b = a then 1 else mk01 (markC (L.take i)) b := by
  unfold mk01 markC
  rw [take_snoc hx, List.any_append]
  by_cases e : b = a
  · subst e
    simp
  · have : ¬ (a : Int) = (b : Int) := by omega
    simp [e, this]
theorem markD_snoc {L : List EntD} {i : Nat} {p : Int} {a : Nat} (hx : L[i]? = some ⟨p, -1, (a : Int)⟩) (b : Nat) : mk01 (markD (L.take (i + 1))) b = if b = a then 1 else mk01 (markD (L.take i)) b := by
  unfold mk01 markD
  rw [take_snoc hx, List.any_append]
  by_cases e : b = a
  · subst e
    simp
  · have : ¬ (a : Int) = (b : Int) := by omega
    simp [e, this]
theorem markC_skip {L : List EntD} {i : Nat} {p : Int} {a : Nat} (hx : L[i]? = some ⟨p, -1, (a : Int)⟩) (b : Nat) : mk01 (markC (L.take (i + 1))) b = mk01 (markC (L.take i)) b := by
  unfold mk01 markC
  rw [take_snoc hx, List.any_append]
  have : ¬ (-1 : Int) = (b : Int) := by omega
  simp [this]
theorem markD_skip {L : List EntD} {i : Nat} {p : Int} {a : Nat} (hx : L[i]? = some ⟨p, (a : Int), -1⟩) (b : Nat) : mk01 (markD (L.take (i + 1))) b = mk01 (markD (L.take i)) b := by
  unfold mk01 markD
  rw [take_snoc hx, List.any_append]
  have : ¬ (-1 : Int) = (b : Int) := by omega
  simp [this]
/-- A row of one's own is one that is read. -/
theorem rrow_of_owns {α : Type} {f : α → List Value} {sz : Nat} (hf : ∀ x, (f x).length = sz) {w : World} {B : Nat} {t : TypeId} {v : Value} {L : List α} (h : w.ownsRow B t sz v L.length (L.flatMap f)) : RRow f sz w v L := by
  obtain ⟨hl, h2⟩ := h
  rcases h2 with ⟨rfl, h3⟩ | ⟨g, cap, cur, rfl, hg, hh, hn, hm, hs, ht⟩
  · rw [List.eq_nil_of_length_eq_zero h3]
    exact RRow.nil
  · have hgl : g < w.heap.size := (Array.getElem?_eq_some_iff.1 hh).1
    refine ⟨_, cap, rfl, hn, hm, (fun e => by cases e), fun j x hx => ⟨g, 0, rfl, hgl, fun i u hu => ?_⟩⟩
    have hi : i < sz := by rw [← hf x]; exact (List.getElem?_eq_some_iff.1 hu).1
    have h5 : (L.flatMap f)[j * sz + i]? = some u := by rw [flat_get hf hx hi]; exact hu
    rw [Nat.zero_add, cell_of_row w g (j * sz + i) cur _ (0, 0) hh]
    rw [← ht, List.getElem?_take] at h5
    split at h5
    · simpa using h5
    · cases h5
/-- The front that is gathered. -/
structure FrJ (W6 W : World) (pf B : Nat) (fv dv : Value) (C : List CalledD) (D : List DropD) : Prop where
  crow : W.ownsRow B 60 20 fv C.length (C.flatMap CalledD.list)
  drow : W.ownsRow B 78 7 dv D.length (D.flatMap DropD.list)
  box : W.heap[pf]? = some (.cells #[fv, dv] 67 (0, 0))
  chg : Chg (fun j => j = pf) W6 W
  lo : pf < B
  bs : B = W6.heap.size
theorem FrJ.below {W6 W W' : World} {pf B : Nat} {fv dv : Value} {C : List CalledD} {D : List DropD} (h : FrJ W6 W pf B fv dv C D) (hb : Below W.heap.size W W') : FrJ W6 W' pf B fv dv C D := by
  have hc : Chg (fun _ => False) W W' := Chg.of_below hb
  exact ⟨owns_grow h.crow hc (fun _ _ e => e), owns_grow h.drow hc (fun _ _ e => e), hc.obj h.box id, h.chg.then hc (fun _ _ e => e.elim), h.lo, h.bs⟩
theorem FrJ.fresh {W6 W : World} {pf B : Nat} {fv dv : Value} {C : List CalledD} {D : List DropD} (h : FrJ W6 W pf B fv dv C D) : (∀ g, fv.ownBlock = some g → B ≤ g) ∧ (∀ g, dv.ownBlock = some g → B ≤ g) := ⟨fun g hg => (h.crow.lt g hg).1, fun g hg => (h.drow.lt g hg).1⟩
theorem FrJ.apart {W6 W : World} {pf B : Nat} {fv dv : Value} {C : List CalledD} {D : List DropD} (h : FrJ W6 W pf B fv dv C D) {g : Nat} (h1 : fv.ownBlock = some g) (h2 : dv.ownBlock = some g) : False :=
  absurd ((owns_tag h.crow h1).one (owns_tag h.drow h2)) (by decide)
theorem FrJ.pushC {W6 W w1 : World} {pf B : Nat} {fv fv' dv : Value} {C : List CalledD} {D : List DropD} {x : CalledD} (h : FrJ W6 W pf B fv dv C D) (hown : w1.ownsRow B 60 20 fv' (C.length + 1) (C.flatMap CalledD.list ++ x.list)) (hg : W.grownBy w1 fv.ownBlock) :
    FrJ W6 (w1.setCell ⟨pf, 0, none⟩ fv') pf B fv' dv (C ++ [x]) D := by
  have hc : Chg (fun k => fv.ownBlock = some k) W w1 := Chg.of_grown hg (fun _ _ e => e)
  have hs : Chg (fun j => j = pf) w1 (w1.setCell ⟨pf, 0, none⟩ fv') := (Chg.refl (fun j => j = pf) w1).set (p := pf) (fun _ => rfl) _
  have hne : ¬ fv.ownBlock = some pf := fun e => by have := h.fresh.1 _ e; have := h.lo; omega
  have hb1 := hc.obj h.box hne
  refine ⟨?_, ?_, ?_, ?_, h.lo, h.bs⟩
  · rw [List.length_append, List.flatMap_append]
    refine owns_grow (by simpa using hown) hs (fun g hg' e => ?_)
    have := (hown.lt g hg').1
    have := h.lo
    omega
  · refine owns_grow (owns_grow h.drow hc (fun g hg' e => h.apart e hg')) hs (fun g hg' e => ?_)
    have := h.fresh.2 g hg'
    have := h.lo
    omega
  · exact heap_setCell_same w1 pf 0 _ _ fv' hb1
  · exact (h.chg.then hc (fun k hk e => by have := h.fresh.1 k e; have := h.bs; omega)).set (fun _ => rfl) _
theorem FrJ.pushD {W6 W w1 : World} {pf B : Nat} {fv dv dv' : Value} {C : List CalledD} {D : List DropD} {x : DropD} (h : FrJ W6 W pf B fv dv C D) (hown : w1.ownsRow B 78 7 dv' (D.length + 1) (D.flatMap DropD.list ++ x.list)) (hg : W.grownBy w1 dv.ownBlock) :
    FrJ W6 (w1.setCell ⟨pf, 1, none⟩ dv') pf B fv dv' C (D ++ [x]) := by
  have hc : Chg (fun k => dv.ownBlock = some k) W w1 := Chg.of_grown hg (fun _ _ e => e)
  have hs : Chg (fun j => j = pf) w1 (w1.setCell ⟨pf, 1, none⟩ dv') := (Chg.refl (fun j => j = pf) w1).set (p := pf) (fun _ => rfl) _
  have hne : ¬ dv.ownBlock = some pf := fun e => by have := h.fresh.2 _ e; have := h.lo; omega
  have hb1 := hc.obj h.box hne
  refine ⟨?_, ?_, ?_, ?_, h.lo, h.bs⟩
  · refine owns_grow (owns_grow h.crow hc (fun g hg' e => h.apart hg' e)) hs (fun g hg' e => ?_)
    have := h.fresh.1 g hg'
    have := h.lo
    omega
  · rw [List.length_append, List.flatMap_append]
    refine owns_grow (by simpa using hown) hs (fun g hg' e => ?_)
    have := (hown.lt g hg').1
    have := h.lo
    omega
  · exact heap_setCell_same w1 pf 1 _ _ dv' hb1
  · exact (h.chg.then hc (fun k hk e => by have := h.fresh.2 k e; have := h.bs; omega)).set (fun _ => rfl) _
/-- What a round's statement reads. -/
def RdJ (ph pf o g b : Nat) (pv hv : Value) (xs : List Value) (W : World) : Prop := W.cell? ⟨pf, o, none⟩ = some pv ∧ W.cell? ⟨ph, o, none⟩ = some hv ∧ W.rangeAt g b xs ∧ g < W.heap.size
theorem RdJ.kept {M : Nat → Prop} {ph pf o g b : Nat} {pv hv : Value} {xs : List Value} {W W' : World} (h : RdJ ph pf o g b pv hv xs W) (hc : Chg M W W') (h1 : ¬ M pf) (h2 : ¬ M ph) (h3 : ¬ M g) : RdJ ph pf o g b pv hv xs W' :=
  ⟨hc.cell h.1 h1, hc.cell h.2.1 h2, range_kept hc h.2.2.2 h3 h.2.2.1, Nat.lt_of_lt_of_le h.2.2.2 hc.size⟩
theorem RdJ.below {ph pf o g b : Nat} {pv hv : Value} {xs : List Value} {W W' : World} (h : RdJ ph pf o g b pv hv xs W) (hb : Below W.heap.size W W') : RdJ ph pf o g b pv hv xs W' :=
  h.kept (M := fun _ => False) (Chg.of_below hb) id id id
theorem infoCalledB : (Tryd.prog.info? 60).map (fun i => (i.zero, i.size, i.bytes)) = some (some (.agg calledZero), 20, 192) := by kernel_rfl
theorem infoDropB : (Tryd.prog.info? 78).map (fun i => (i.zero, i.size, i.bytes)) = some (some (.agg dropZero), 7, 72) := by kernel_rfl
theorem idx_120 {g k : Nat} (hk : k < 120) (W : World) : (Instr.indexAt 73 (.pointer (some ⟨g, 0, none⟩)) (.int .i64 (k : Int))).run Tryd.prog W = .ok (.pointer (some ⟨g, k, none⟩)) W := by
  have h0 : (0 : Int) ≤ (k : Int) := by omega
  have h1 : (k : Int) < 120 := by omega
  have h2 := Tryd.underlying73
  have h3 : Tryd.prog.cellsOf 3 = 1 := by kernel_rfl
  go_simp
theorem idx_60 {g k : Nat} (hk : k < 60) (W : World) : (Instr.indexAt 74 (.pointer (some ⟨g, 0, none⟩)) (.int .i64 (k : Int))).run Tryd.prog W = .ok (.pointer (some ⟨g, k, none⟩)) W := by
  have h0 : (0 : Int) ≤ (k : Int) := by omega
  have h1 : (k : Int) < 60 := by omega
  have h2 := Tryd.underlying74
  have h3 : Tryd.prog.cellsOf 3 = 1 := by kernel_rfl
  go_simp
set_option maxRecDepth 100000 in
set_option maxHeartbeats 16000000 in
theorem linsLate_walk {w : World} {cv dv : Value} {cs : List CalledD} {ds : List DropD} {n : Nat} (hn8 : n ≤ 255) (h : HistAt w cv dv cs ds) (hE : HasErr w) (hP : HasPow w) : Calls Tryd.prog 7 #[.agg #[cv, dv], .int .u8 (n : Int)] w fun e w' => e = .returned (.bool true) ∧ Below w.heap.size w w' := by
  obtain ⟨ca, cc, rfl⟩ := h.calls.len
  obtain ⟨da, dc, rfl⟩ := h.drops.len
  have HH := Lib.hid h
  have HEP := Lib.hid (And.intro hE hP)
  clear h hE hP
  go_enter Tryd.func7, Tryd.ntmps7
  go_upto_region 1 with fail
  obtain ⟨W0, hW0⟩ : ∃ X, X = w.alloc (.cells #[.slice ca cs.length cc, .slice da ds.length dc] 67) := ⟨_, rfl⟩
  have hb0 : Below w.heap.size w W0 := by rw [hW0]; exact (Below.refl _ _).alloc (Nat.le_refl _) _
  have hx0 : W0.heap[w.heap.size]? = some (.cells #[.slice ca cs.length cc, .slice da ds.length dc] 67 (0, 0)) := by rw [hW0, heap_at, if_pos rfl]
  rw [← hW0]
  clear hW0
  obtain ⟨ph, hph⟩ : ∃ z, z = w.heap.size := ⟨_, rfl⟩
  rw [← hph] at hx0 ⊢
  have hpl : ph < W0.heap.size := (Array.getElem?_eq_some_iff.1 hx0).1
  have k0 : W0.cell? ⟨ph, 0, none⟩ = some (.slice ca cs.length cc) := (cells_at hx0 0).1
  have k1 : W0.cell? ⟨ph, 1, none⟩ = some (.slice da ds.length dc) := (cells_at hx0 1).1
  have HK0 := Lib.hid (show (∀ W, Below W0.heap.size W0 W → W.cell? ⟨ph, 0, none⟩ = some (.slice ca cs.length cc)) ∧ (∀ W, Below W0.heap.size W0 W → W.cell? ⟨ph, 1, none⟩ = some (.slice da ds.length dc)) from ⟨fun W hW => (hW.cell (p := ⟨ph, 0, none⟩) (cell_lt k0)).trans k0, fun W hW => (hW.cell (p := ⟨ph, 1, none⟩) (cell_lt k1)).trans k1⟩)
  have HBW := Lib.hid hb0
  have HH0 := Lib.hid (HH.out.below hb0)
  have HE0 := Lib.hid (And.intro (HEP.out.1.below hb0) (HEP.out.2.below hb0))
  have HX0 := Lib.hid hx0
  clear hb0 hx0 hph HEP HH
  go_wp2_with fail
  refine (greatL_any HH0.out).mono ?_
  rintro e W1 ⟨⟨b, rfl, hgr⟩, hb1⟩
  have g0 : W1.cell? ⟨ph, 0, none⟩ = some (.slice ca cs.length cc) := (hb1.cell (p := ⟨ph, 0, none⟩) hpl).trans k0
  have g1 : W1.cell? ⟨ph, 1, none⟩ = some (.slice da ds.length dc) := (hb1.cell (p := ⟨ph, 1, none⟩) hpl).trans k1
  have HB1 := Lib.hid hb1
  have HGR := Lib.hid hgr
  clear hgr hb1 k0 k1
  cases b
  · have hc1 : cs.length ≤ 120 := (HGR.out rfl).1
    have hd1 : ds.length ≤ 60 := (HGR.out rfl).2
    have HN := Lib.hid (show cs.length + ds.length ≤ 1000000 by omega)
    go_wp2_with fail
    refine (well_any (HH0.out.below HB1.out) HN.out).mono ?_
    rintro e W2 ⟨rfl, hb2⟩
    obtain ⟨wb, hwb⟩ : ∃ b, b = wellH cs ds := ⟨_, rfl⟩
    rw [← hwb]
    have k0 : W2.cell? ⟨ph, 0, none⟩ = some (.slice ca cs.length cc) := (hb2.cell (p := ⟨ph, 0, none⟩) (cell_lt g0)).trans g0
    have k1 : W2.cell? ⟨ph, 1, none⟩ = some (.slice da ds.length dc) := (hb2.cell (p := ⟨ph, 1, none⟩) (cell_lt g1)).trans g1
    have HB2 := Lib.hid (HB1.out.trans (hb2.mono HB1.out.size))
    have HW := Lib.hid hwb.symm
    clear hb2 HB1 g0 g1 hwb HGR
    cases wb
    · go_wp2_with fail
      refine (lives37 _ (HE0.out.1.below HB2.out) (HE0.out.2.below HB2.out)).mono ?_
      rintro e W3 ⟨rfl, hv3⟩
      have HV3 := Lib.hid (HBW.out.trans ((HB2.out.trans (hv3.mono HB2.out.size)).mono HBW.out.size))
      clear hv3
      go_wp2_with fail
      go_ret
      exact ⟨rfl, HV3.out⟩
    · go_wp2_with fail
      refine (linLate_any (HH0.out.below HB2.out) HN.out).mono ?_
      rintro e W3 ⟨r, s, rfl, hls, hb3⟩
      obtain ⟨rfl, rfl⟩ : r = -1 ∧ s = -1 := by
        rcases hls with ⟨h1, h2, -⟩ | ⟨a, b, h1, h2, h3, -⟩
        · exact ⟨h1, h2⟩
        · exact (well_late HW.out h3).elim
      have g0 : W3.cell? ⟨ph, 0, none⟩ = some (.slice ca cs.length cc) := (hb3.cell (p := ⟨ph, 0, none⟩) (cell_lt k0)).trans k0
      have g1 : W3.cell? ⟨ph, 1, none⟩ = some (.slice da ds.length dc) := (hb3.cell (p := ⟨ph, 1, none⟩) (cell_lt k1)).trans k1
      have HB3 := Lib.hid (HB2.out.trans (hb3.mono HB2.out.size))
      clear hb3 HB2 k0 k1 hls
      go_wp2_with fail
      refine (order_any (HH0.out.below HB3.out) HN.out).mono ?_
      rintro e W4 ⟨ov, rfl, hrow, hfresh, hbo⟩
      obtain ⟨L, hL⟩ : ∃ L, L = orderL cs ds := ⟨_, rfl⟩
      rw [← hL] at hrow
      have hLl : L.length ≤ 180 := by rw [hL, orderL_len]; omega
      obtain ⟨oa, oc, rfl⟩ := hrow.len
      have k0 : W4.cell? ⟨ph, 0, none⟩ = some (.slice ca cs.length cc) := (hbo.cell (p := ⟨ph, 0, none⟩) (cell_lt g0)).trans g0
      have k1 : W4.cell? ⟨ph, 1, none⟩ = some (.slice da ds.length dc) := (hbo.cell (p := ⟨ph, 1, none⟩) (cell_lt g1)).trans g1
      have HB4 := Lib.hid (HB3.out.trans (hbo.mono HB3.out.size))
      have HRW := Lib.hid hrow
      have HL := Lib.hid hL
      clear hrow hfresh hbo HB3 hL g0 g1
      obtain ⟨k, hk⟩ : ∃ k, k = min n L.length := ⟨_, rfl⟩
      have hkm : min (n : Int) (L.length : Int) = (k : Int) := by omega
      have hkL : k ≤ L.length := by omega
      have hk1 : n < L.length → k = n := by omega
      have hk2 : ¬ n < L.length → k = L.length := by omega
      clear hk
      go_upto_region 8 with fail
      obtain ⟨W5, hW5⟩ : ∃ X, X = (W4.alloc (.cells Tryd.zeroCells73 73)).alloc (.cells #[.int .i64 0, .int .i64 0, .int .i64 0, .int .i64 0, .int .i64 0, .int .i64 0, .int .i64 0, .int .i64 0, .int .i64 0, .int .i64 0, .int .i64 0, .int .i64 0, .int .i64 0, .int .i64 0, .int .i64 0, .int .i64 0, .int .i64 0, .int .i64 0, .int .i64 0, .int .i64 0, .int .i64 0, .int .i64 0, .int .i64 0, .int .i64 0, .int .i64 0, .int .i64 0, .int .i64 0, .int .i64 0, .int .i64 0, .int .i64 0, .int .i64 0, .int .i64 0, .int .i64 0, .int .i64 0, .int .i64 0, .int .i64 0, .int .i64 0, .int .i64 0, .int .i64 0, .int .i64 0, .int .i64 0, .int .i64 0, .int .i64 0, .int .i64 0, .int .i64 0, .int .i64 0, .int .i64 0, .int .i64 0, .int .i64 0, .int .i64 0, .int .i64 0, .int .i64 0, .int .i64 0, .int .i64 0, .int .i64 0, .int .i64 0, .int .i64 0, .int .i64 0, .int .i64 0, .int .i64 0] 74) := ⟨_, rfl⟩
      have hm5 := heap_two W4 (.cells Tryd.zeroCells73 73) (.cells #[.int .i64 0, .int .i64 0, .int .i64 0, .int .i64 0, .int .i64 0, .int .i64 0, .int .i64 0, .int .i64 0, .int .i64 0, .int .i64 0, .int .i64 0, .int .i64 0, .int .i64 0, .int .i64 0, .int .i64 0, .int .i64 0, .int .i64 0, .int .i64 0, .int .i64 0, .int .i64 0, .int .i64 0, .int .i64 0, .int .i64 0, .int .i64 0, .int .i64 0, .int .i64 0, .int .i64 0, .int .i64 0, .int .i64 0, .int .i64 0, .int .i64 0, .int .i64 0, .int .i64 0, .int .i64 0, .int .i64 0, .int .i64 0, .int .i64 0, .int .i64 0, .int .i64 0, .int .i64 0, .int .i64 0, .int .i64 0, .int .i64 0, .int .i64 0, .int .i64 0, .int .i64 0, .int .i64 0, .int .i64 0, .int .i64 0, .int .i64 0, .int .i64 0, .int .i64 0, .int .i64 0, .int .i64 0, .int .i64 0, .int .i64 0, .int .i64 0, .int .i64 0, .int .i64 0, .int .i64 0] 74)
      have hb5 := below_two W4 (.cells Tryd.zeroCells73 73) (.cells #[.int .i64 0, .int .i64 0, .int .i64 0, .int .i64 0, .int .i64 0, .int .i64 0, .int .i64 0, .int .i64 0, .int .i64 0, .int .i64 0, .int .i64 0, .int .i64 0, .int .i64 0, .int .i64 0, .int .i64 0, .int .i64 0, .int .i64 0, .int .i64 0, .int .i64 0, .int .i64 0, .int .i64 0, .int .i64 0, .int .i64 0, .int .i64 0, .int .i64 0, .int .i64 0, .int .i64 0, .int .i64 0, .int .i64 0, .int .i64 0, .int .i64 0, .int .i64 0, .int .i64 0, .int .i64 0, .int .i64 0, .int .i64 0, .int .i64 0, .int .i64 0, .int .i64 0, .int .i64 0, .int .i64 0, .int .i64 0, .int .i64 0, .int .i64 0, .int .i64 0, .int .i64 0, .int .i64 0, .int .i64 0, .int .i64 0, .int .i64 0, .int .i64 0, .int .i64 0, .int .i64 0, .int .i64 0, .int .i64 0, .int .i64 0, .int .i64 0, .int .i64 0, .int .i64 0, .int .i64 0] 74)
      rw [← hW5] at hm5 hb5
      have hmC := MkObj.zeros (n := 120) hm5.1
      have hmD := MkObj.zeros (n := 60) hm5.2
      have g0 : W5.cell? ⟨ph, 0, none⟩ = some (.slice ca cs.length cc) := (hb5.cell (p := ⟨ph, 0, none⟩) (cell_lt k0)).trans k0
      have g1 : W5.cell? ⟨ph, 1, none⟩ = some (.slice da ds.length dc) := (hb5.cell (p := ⟨ph, 1, none⟩) (cell_lt k1)).trans k1
      go_upto_region 10 with fail
      rw [← hW5]
      obtain ⟨pc, hpc⟩ : ∃ z, z = W4.heap.size := ⟨_, rfl⟩
      have HPC := Lib.hid (show pc = W4.heap.size ∧ ph < pc from ⟨hpc, by rw [hpc]; exact cell_lt k0⟩)
      rw [← hpc] at hmC hmD ⊢
      have HM5 := Lib.hid (And.intro hmC hmD)
      have HB5 := Lib.hid hb5
      clear hW5 hm5 hb5 hmC hmD k0 k1 hpc
      go_upto_region 11 with fail
      go_loopw [11] (fun s11 wr => ∃ i : Nat, s11 = .int .i64 (i : Int) ∧ i ≤ k ∧ Hid (MkObj wr pc 120 73 (mk01 (markC (L.take i)))) ∧ Hid (MkObj wr (pc + 1) 60 74 (mk01 (markD (L.take i)))) ∧ Hid (Below W4.heap.size W4 wr)) (fun s11 _ => k - (intOf s11).toNat)
      case atStart => exact ⟨0, rfl, Nat.zero_le _, Lib.hid HM5.out.1, Lib.hid HM5.out.2, Lib.hid HB5.out⟩
      case round =>
        clear HM5 HB5 g0 g1
        obtain ⟨i, rfl, hik, HMC, HMD, HLO⟩ := hrel
        have k0 : wr.cell? ⟨ph, 0, none⟩ = some (.slice ca cs.length cc) := HK0.out.1 wr (HB4.out.trans (HLO.out.mono HB4.out.size))
        have k1 : wr.cell? ⟨ph, 1, none⟩ = some (.slice da ds.length dc) := HK0.out.2 wr (HB4.out.trans (HLO.out.mono HB4.out.size))
        by_cases hlt : i < k
        · obtain ⟨x, hx⟩ : ∃ x, L[i]? = some x := ⟨_, List.getElem?_eq_getElem (Nat.lt_of_lt_of_le hlt hkL)⟩
          obtain ⟨g, o, c', hv, hg, hr⟩ := HRW.out.get hx
          obtain ⟨rfl, -, rfl⟩ := slice_inj hv
          have hrr := hr wr HLO.out
          have hgr : g < wr.heap.size := Nat.lt_of_lt_of_le hg HLO.out.size
          have hiL : i < L.length := by omega
          have ix : ∀ W : World, (Instr.indexAt 71 (.slice (some ⟨g, o, none⟩) L.length oc) (.int .i64 (i : Int))).run Tryd.prog W = .ok (.pointer (some ⟨g, o + i * 3, none⟩)) W := fun W => idx_ent rfl hiL W
          obtain ⟨b, hb⟩ : ∃ b, b = o + i * 3 := ⟨_, rfl⟩
          rw [← hb] at ix hrr
          have c1 : wr.cell? ⟨g, b + 1, none⟩ = some (.int .i64 x.call) := hrr 1 _ rfl
          have c2 : wr.cell? ⟨g, b + 2, none⟩ = some (.int .i64 x.drop) := hrr 2 _ rfl
          have hmem : x ∈ orderL cs ds := by rw [← HL.out]; exact List.mem_of_getElem? hx
          have HX := Lib.hid hx
          clear hb hx hv hr hrr hg
          rcases orderL_mem hmem with ⟨a, y, hy, rfl⟩ | ⟨a, y, hy, rfl⟩
          · have hac : a < cs.length := (List.getElem?_eq_some_iff.1 hy).1
            have q1 : decide ((cs.length : Int) ≤ (a : Int)) = false := by rw [decide_eq_false_iff_not]; omega
            have q2 : decide ((ds.length : Int) ≤ (-1 : Int)) = false := by rw [decide_eq_false_iff_not]; omega
            have q3 : decide ((a : Int) < 0) = false := by rw [decide_eq_false_iff_not]; omega
            have haN : a < 120 := by omega
            clear hmem hy
            go_upto_region 13 with fail
            go_quiet (fail)
            obtain ⟨wx, hwx⟩ : ∃ z, z = wr.drewN nq := ⟨_, rfl⟩
            rw [← hwx]
            have hbx : Below wr.heap.size wr wx := by rw [hwx]; exact low_drewNL (Below.refl _ _) _
            have hcx : Chg (fun _ => False) wr wx := Chg.of_below hbx
            have d1 : wx.cell? ⟨g, b + 1, none⟩ = some _ := hcx.cell c1 id
            have d2 : wx.cell? ⟨g, b + 2, none⟩ = some _ := hcx.cell c2 id
            have hmc := HMC.out.kept hcx id
            have hmd := HMD.out.kept hcx id
            have e0 := hmc.cell haN
            have f0 := hmc.frozen a
            have ia : ∀ W : World, (Instr.indexAt 73 (.pointer (some ⟨pc, 0, none⟩)) (.int .i64 (a : Int))).run Tryd.prog W = .ok (.pointer (some ⟨pc, a, none⟩)) W := fun W => idx_120 haN W
            have HC2 := Lib.hid ((hmc.set a 1).congr (fun z => (markC_snoc HX.out z).symm))
            have HD2 := Lib.hid ((hmd.kept ((Chg.refl (fun j => j = pc) wx).set (p := pc) (j := a) (fun _ => rfl) (.int .i64 1)) (by omega)).congr (fun z => (markD_skip HX.out z).symm))
            have HL2 := Lib.hid ((HLO.out.trans (hbx.mono HLO.out.size)).setCell (p := ⟨pc, a, none⟩) (by show W4.heap.size ≤ pc; have := HPC.out.1; omega) (.int .i64 1))
            have q4 : (0 : Int) ≤ (a : Int) := by omega
            obtain ⟨u0, hu0⟩ : ∃ z, z = mk01 (markC (L.take i)) a := ⟨_, rfl⟩
            rw [← hu0] at e0
            clear hwx hbx hcx hmc hmd c1 c2 k0 k1 q1 q2 q3 hu0 HMC HMD HLO HX
            go_wp2_with fail
            go_roundw
            case rel => exact ⟨i + 1, by go_num, by omega, HC2, HD2, HL2⟩
            case measure => simp [intOf]; omega
          · have hac : a < ds.length := (List.getElem?_eq_some_iff.1 hy).1
            have q1 : decide ((cs.length : Int) ≤ (-1 : Int)) = false := by rw [decide_eq_false_iff_not]; omega
            have q2 : decide ((ds.length : Int) ≤ (a : Int)) = false := by rw [decide_eq_false_iff_not]; omega
            have q3 : decide ((a : Int) < 0) = false := by rw [decide_eq_false_iff_not]; omega
            have haN : a < 60 := by omega
            clear hmem hy
            go_upto_region 13 with fail
            go_quiet (fail)
            obtain ⟨wx, hwx⟩ : ∃ z, z = wr.drewN nq := ⟨_, rfl⟩
            rw [← hwx]
            have hbx : Below wr.heap.size wr wx := by rw [hwx]; exact low_drewNL (Below.refl _ _) _
            have hcx : Chg (fun _ => False) wr wx := Chg.of_below hbx
            have d1 : wx.cell? ⟨g, b + 1, none⟩ = some _ := hcx.cell c1 id
            have d2 : wx.cell? ⟨g, b + 2, none⟩ = some _ := hcx.cell c2 id
            have hmc := HMC.out.kept hcx id
            have hmd := HMD.out.kept hcx id
            have e0 := hmd.cell haN
            have f0 := hmd.frozen a
            have ia : ∀ W : World, (Instr.indexAt 74 (.pointer (some ⟨pc + 1, 0, none⟩)) (.int .i64 (a : Int))).run Tryd.prog W = .ok (.pointer (some ⟨pc + 1, a, none⟩)) W := fun W => idx_60 haN W
            have HD2 := Lib.hid ((hmd.set a 1).congr (fun z => (markD_snoc HX.out z).symm))
            have HC2 := Lib.hid ((hmc.kept ((Chg.refl (fun j => j = pc + 1) wx).set (p := pc + 1) (j := a) (fun _ => rfl) (.int .i64 1)) (by omega)).congr (fun z => (markC_skip HX.out z).symm))
            have HL2 := Lib.hid ((HLO.out.trans (hbx.mono HLO.out.size)).setCell (p := ⟨pc + 1, a, none⟩) (by show W4.heap.size ≤ pc + 1; have := HPC.out.1; omega) (.int .i64 1))
            obtain ⟨u0, hu0⟩ : ∃ z, z = mk01 (markD (L.take i)) a := ⟨_, rfl⟩
            rw [← hu0] at e0
            clear hwx hbx hcx hmc hmd c1 c2 k0 k1 q1 q2 q3 hu0 HMC HMD HLO HX
            go_wp2_with fail
            go_roundw
            case rel => exact ⟨i + 1, by go_num, by omega, HC2, HD2, HL2⟩
            case measure => simp [intOf]; omega
        · obtain rfl : k = i := by omega
          have hsz4 : W4.heap.size ≤ wr.heap.size := HLO.out.size
          obtain ⟨W6, hW6⟩ : ∃ X, X = wr.alloc (.cells #[.slice none 0 0, .slice none 0 0] 67) := ⟨_, rfl⟩
          have hb6 : Below wr.heap.size wr W6 := by rw [hW6]; exact (Below.refl _ _).alloc (Nat.le_refl _) _
          have hx6 : W6.heap[wr.heap.size]? = some (.cells #[.slice none 0 0, .slice none 0 0] 67 (0, 0)) := by rw [hW6, heap_at, if_pos rfl]
          have hpd : pc + 1 < wr.heap.size := HMD.out.lt
          go_upto_region 19 with fail
          rw [← hW6]
          clear hW6
          obtain ⟨pf, hpf⟩ : ∃ z, z = wr.heap.size := ⟨_, rfl⟩
          rw [← hpf] at hx6 hpd ⊢
          obtain ⟨B, hB⟩ : ∃ z, z = W6.heap.size := ⟨_, rfl⟩
          have hpfB : pf < B := by rw [hB]; exact (Array.getElem?_eq_some_iff.1 hx6).1
          have HPF := Lib.hid (show W0.heap.size ≤ pf ∧ ph < pf from ⟨by have := HB4.out.size; omega, by have := HPC.out; omega⟩)
          have hfr : FrJ W6 W6 pf B (.slice none 0 0) (.slice none 0 0) (selN (markC (L.take k)) 0 (cs.take 0)) [] := ⟨by simpa [selN] using World.ownsRow_nil _ _ _ _, World.ownsRow_nil _ _ _ _, hx6, Chg.refl _ _, hpfB, hB⟩
          have HFR := Lib.hid hfr
          have HMC6 := Lib.hid (HMC.out.kept (Chg.of_below (M := fun _ => False) hb6) id)
          have HMD6 := Lib.hid (HMD.out.kept (Chg.of_below (M := fun _ => False) hb6) id)
          have HB6 := Lib.hid (show Below W0.heap.size W0 W6 from (HB4.out.trans (HLO.out.mono HB4.out.size)).trans (hb6.mono (by have := HB4.out.size; omega)))
          clear hfr hx6 hb6 hpf hB hsz4 k0 k1 HMC HMD HLO HB4 HRW hlt hik
          obtain ⟨i0, hi0, hz0, hz1, hz2⟩ := info_parts infoCalledB
          have Hi := Lib.hid hi0
          have Hz := Lib.hid (And.intro hz0 (And.intro hz1 hz2))
          clear hi0 hz0 hz1 hz2
          obtain ⟨j0, hi0, hz0, hz1, hz2⟩ := info_parts infoDropB
          have Hj := Lib.hid hi0
          have Hy := Lib.hid (And.intro hz0 (And.intro hz1 hz2))
          clear hi0 hz0 hz1 hz2
          go_upto_region 20 with fail
          go_loopw [13] (fun s13 wr => ∃ (i : Nat) (fv : Value), s13 = .int .i64 (i : Int) ∧ i ≤ cs.length ∧ Hid (FrJ W6 wr pf B fv (.slice none 0 0) (selN (markC (L.take k)) 0 (cs.take i)) [])) (fun s13 _ => cs.length - (intOf s13).toNat)
          case atStart => exact ⟨0, _, rfl, Nat.zero_le _, HFR⟩
          case round =>
            clear HFR
            obtain ⟨i, fv, rfl, hil, HFR⟩ := hrel
            obtain ⟨fa, fc, hfv⟩ := Row.len (Row.of_owns HFR.out.crow)
            obtain ⟨fn, hfn⟩ : ∃ z, z = (selN (markC (L.take k)) 0 (cs.take i)).length := ⟨_, rfl⟩
            rw [← hfn] at hfv
            subst hfv
            have hfm : fn ≤ i := by rw [hfn]; refine Nat.le_trans (selN_len _ _ _) ?_; rw [List.length_take]; omega
            have HFN := Lib.hid hfn
            clear hfn
            have hlow : Below W0.heap.size W0 wr := HB6.out.trans (HFR.out.chg.below (fun j hj => ⟨Nat.lt_of_lt_of_le hj HB6.out.size, fun e => by have := HPF.out.1; omega⟩))
            have k0 : wr.cell? ⟨ph, 0, none⟩ = some (.slice ca cs.length cc) := HK0.out.1 wr hlow
            by_cases hlt : i < cs.length
            · obtain ⟨x, hx⟩ : ∃ x, cs[i]? = some x := ⟨_, List.getElem?_eq_getElem hlt⟩
              have hi120 : i < 120 := by omega
              have hmk := HMC6.out.kept HFR.out.chg (show ¬ pc = pf from by omega)
              have e0 := hmk.cell hi120
              have ia : ∀ W : World, (Instr.indexAt 73 (.pointer (some ⟨pc, 0, none⟩)) (.int .i64 (i : Int))).run Tryd.prog W = .ok (.pointer (some ⟨pc, i, none⟩)) W := fun W => idx_120 hi120 W
              have htk : selN (markC (L.take k)) 0 (cs.take (i + 1)) = selN (markC (L.take k)) 0 (cs.take i) ++ (if markC (L.take k) i then [x] else []) := by
                rw [take_snoc hx, selN_snoc, Nat.zero_add, List.length_take, Nat.min_eq_left (by omega)]
              by_cases hmm : markC (L.take k) i = true
              · rw [if_pos hmm] at htk
                simp only [mk01, if_pos hmm] at e0
                obtain ⟨g, o, c', hv, hg, hr⟩ := HH0.out.calls.get hx
                obtain ⟨rfl, -, rfl⟩ := slice_inj hv
                have hrr := hr wr hlow
                have ix : ∀ W : World, (Instr.indexAt 64 (.slice (some ⟨g, o, none⟩) cs.length cc) (.int .i64 (i : Int))).run Tryd.prog W = .ok (.pointer (some ⟨g, o + i * 20, none⟩)) W := fun W => idx_called rfl hlt W
                obtain ⟨b, hb⟩ : ∃ b, b = o + i * 20 := ⟨_, rfl⟩
                rw [← hb] at ix hrr
                have hbox := HFR.out.box
                have c0 : wr.cell? ⟨pf, 0, none⟩ = some (.slice fa fn fc) := (cells_at hbox 0).1
                have HRD := Lib.hid (show RdJ ph pf 0 g b (.slice fa fn fc) (.slice (some ⟨g, o, none⟩) cs.length cc) x.list wr from ⟨c0, k0, hrr, Nat.lt_of_lt_of_le hg hlow.size⟩)
                have HTK := Lib.hid htk
                have HGL := Lib.hid (show g < pf from by have := HPF.out.1; omega)
                have bsq : ∀ W : World, (Instr.buildSlice 64 1 #[(0, .agg x.list.toArray)]).run Tryd.prog W = .ok (.slice (some ⟨W.heap.size, 0, none⟩) 1 1) (W.alloc (.cells x.list.toArray 60)) := fun W => by kernel_rfl
                clear hx hmk htk hmm hv hr hrr hb hg hbox c0
                go_upto_region 23 with fail
                clear e0 ia
                refine wp_region_late 10 (RdJ ph pf 0 g b (.slice fa fn fc) (.slice (some ⟨g, o, none⟩) cs.length cc) x.list) (by kernel_rfl) (HRD.out.below (Below.refl _ _).drew) (fun hHeld => ?_)
                refine late_take (i := 0) (v := ?_) rfl (by kernel_rfl) (by kernel_rfl) (by kernel_rfl) (fun _ _ _ h => h) (by decide) (Or.inl ⟨by rfl, ?_⟩) (fun _ => hHeld) ?_
                rotate_left 1
                · ((intro w _; go_simp) <;> with_reducible rfl)
                try simp only [Act.put, List.setIfInBounds_toArray, List.set_cons_zero, List.set_cons_succ, List.getElem_toArray, List.getElem_cons_zero]
                refine late_read (i := 1) (v := ?_) rfl (by kernel_rfl) (by kernel_rfl) (by kernel_rfl) (fun _ _ _ h => h) (by decide) rfl (by kernel_rfl) (Or.inl ⟨by rfl, ?_⟩) hHeld (by kernel_rfl) ?_
                rotate_left 1
                · ((intro w hSw; (try dsimp only at hSw); have c0 := hSw.1; go_simp) <;> with_reducible rfl)
                try simp only [Act.put, List.setIfInBounds_toArray, List.set_cons_zero, List.set_cons_succ, List.getElem_toArray, List.getElem_cons_zero, List.getElem_cons_succ]
                refine late_take (i := 2) (v := ?_) rfl (by kernel_rfl) (by kernel_rfl) (by kernel_rfl) (fun _ _ _ h => h) (by decide) (Or.inl ⟨by rfl, ?_⟩) (fun _ => hHeld) ?_
                rotate_left 1
                · ((intro w _; go_simp) <;> with_reducible rfl)
                try simp only [Act.put, List.setIfInBounds_toArray, List.set_cons_zero, List.set_cons_succ, List.getElem_toArray, List.getElem_cons_zero, List.getElem_cons_succ]
                refine late_read (i := 3) (v := ?_) rfl (by kernel_rfl) (by kernel_rfl) (by kernel_rfl) (fun _ _ _ h => h) (by decide) rfl (by kernel_rfl) (Or.inl ⟨by rfl, ?_⟩) hHeld (by kernel_rfl) ?_
                rotate_left 1
                · ((intro w hSw; (try dsimp only at hSw); have c0 := hSw.2.1; go_simp) <;> with_reducible rfl)
                try simp only [Act.put, List.setIfInBounds_toArray, List.set_cons_zero, List.set_cons_succ, List.getElem_toArray, List.getElem_cons_zero, List.getElem_cons_succ]
                refine late_take (i := 4) (v := ?_) rfl (by kernel_rfl) (by kernel_rfl) (by kernel_rfl) (fun _ _ _ h => h) (by decide) (Or.inl ⟨by rfl, ?_⟩) (fun _ => hHeld) ?_
                rotate_left 1
                · ((intro w _; go_simp) <;> with_reducible rfl)
                try simp only [Act.put, List.setIfInBounds_toArray, List.set_cons_zero, List.set_cons_succ, List.getElem_toArray, List.getElem_cons_zero, List.getElem_cons_succ]
                refine late_take (i := 5) (v := ?_) rfl (by kernel_rfl) (by kernel_rfl) (by kernel_rfl) (fun _ _ _ h => h) (by decide) (Or.inl ⟨by rfl, ?_⟩) (fun _ => hHeld) ?_
                rotate_left 1
                · ((intro w _; go_simp) <;> with_reducible rfl)
                try simp only [Act.put, List.setIfInBounds_toArray, List.set_cons_zero, List.set_cons_succ, List.getElem_toArray, List.getElem_cons_zero, List.getElem_cons_succ]
                refine late_read (i := 6) (v := .agg (x.list).toArray) rfl (by kernel_rfl) (by kernel_rfl) (by kernel_rfl) (fun _ _ _ h => h) (by decide) rfl (by kernel_rfl) (yieldsIf_load_mid (by rfl) 60 (.tmp 117) rfl g b (by rfl) (x.list) _ (fun W hSw => hSw.2.2.1) Tryd.underlying60 rfl (by kernel_rfl)) hHeld (by kernel_rfl) ?_
                try simp only [Act.put, List.setIfInBounds_toArray, List.set_cons_zero, List.set_cons_succ, List.getElem_toArray, List.getElem_cons_zero, List.getElem_cons_succ]
                refine late_one (i := 7) (by kernel_rfl) rfl (fun K hK => ?_)
                go_simp
                have hbx : Below wr.heap.size wr (World.drew (wr.alloc (.cells x.list.toArray 60))) := ((Below.refl _ _).alloc (Nat.le_refl _) _).drew
                have HBK := Lib.hid (show (World.drew (wr.alloc (.cells x.list.toArray 60))).heap[wr.heap.size]? = some (.cells x.list.toArray 60 (0, 0)) from heap_alloc_new _ _)
                have HF2 := Lib.hid (HFR.out.below hbx)
                have HR2 := Lib.hid (HRD.out.below hbx)
                refine hK.out _ _ (fun _ _ => HR2.out) ?_
                clear hK K
                try simp only [Act.put, List.setIfInBounds_toArray, List.set_cons_zero, List.set_cons_succ, List.getElem_toArray, List.getElem_cons_zero, List.getElem_cons_succ]
                refine late_one (i := 8) (by kernel_rfl) rfl (fun K hK => ?_)
                rw [if_pos (by rfl)]
                refine wp_append_own _ (.tmp 113) (.tmp 119) 64 (by rfl) B 60 i0 (.agg calledZero) 20 192 Tryd.underlying64 Hi.out Hz.out.1 Hz.out.2.1 Hz.out.2.2 rfl (by omega) _ _ _ (by rfl) HF2.out.crow ⟨wr.heap.size, 0, none⟩ 1 1 x.list (by rfl) rfl (World.news_of_block (cs := x.list.toArray) HBK.out) (by simp [Value.oneCell']) (by rw [← HFN.out]; unfold maxLen; omega) (by rw [← HFN.out]; omega) (by rw [HFR.out.bs]; exact Nat.le_trans HFR.out.chg.size hbx.size) ?_
                intro v2 w2 hown2 hg2 _
                have hcg : Chg (fun k => (Value.slice fa fn fc).ownBlock = some k) (World.drew (wr.alloc (.cells x.list.toArray 60))) w2 := Chg.of_grown hg2 (fun _ _ e => e)
                have hno : ∀ q, q ≤ pf → ¬ (Value.slice fa fn fc).ownBlock = some q := fun q hq e => by have := HFR.out.fresh.1 q e; have := HFR.out.lo; omega
                have HR3 := Lib.hid (HR2.out.kept hcg (hno _ (Nat.le_refl _)) (hno _ (Nat.le_of_lt HPF.out.2)) (hno _ (Nat.le_of_lt HGL.out)))
                have c0 : w2.cell? ⟨pf, 0, none⟩ = some (.slice fa fn fc) := HR3.out.1
                have f0 : w2.frozen? ⟨pf, 0, none⟩ = false := (cells_at (hcg.obj HF2.out.box (hno _ (Nat.le_refl _))) 0).2
                have hpush := HF2.out.pushC hown2 hg2
                rw [← HTK.out] at hpush
                obtain ⟨a2, cc2, hv2⟩ := Row.len (Row.of_owns hown2)
                obtain ⟨n2, hn2⟩ : ∃ z, z = (selN (markC (L.take k)) 0 (cs.take i)).length + 1 := ⟨_, rfl⟩
                rw [← hn2] at hv2
                subst hv2
                have HPU := Lib.hid hpush
                clear hcg hno hpush hown2 hg2 hn2 hbx
                refine hK.out _ _ (fun _ _ => HR3.out) ?_
                clear hK K
                try simp only [Act.put, List.setIfInBounds_toArray, List.set_cons_zero, List.set_cons_succ, List.getElem_toArray, List.getElem_cons_zero, List.getElem_cons_succ]
                refine late_take (i := 9) (v := ?_) rfl (by kernel_rfl) (by kernel_rfl) (by kernel_rfl) (fun _ _ _ h => h) (by decide) (Or.inl ⟨by rfl, ?_⟩) (fun _ => HR3.out) ?_
                rotate_left 1
                · ((intro w _; go_simp) <;> with_reducible rfl)
                try simp only [Act.put, List.setIfInBounds_toArray, List.set_cons_zero, List.set_cons_succ, List.getElem_toArray, List.getElem_cons_zero, List.getElem_cons_succ]
                refine late_one (i := 10) (by kernel_rfl) rfl (fun K hK => ?_)
                go_simp
                refine hK.out _ _ (fun _ h => absurd rfl h) ?_
                clear hK K
                try simp only [Act.put, List.setIfInBounds_toArray, List.set_cons_zero, List.set_cons_succ, List.getElem_toArray, List.getElem_cons_zero, List.getElem_cons_succ]
                refine late_done (by kernel_rfl) ?_
                clear hHeld
                clear HR2 HR3 HRD HF2 HBK c0 f0 ix bsq k0
                go_wp2_with fail
                go_roundw
                case rel => exact ⟨i + 1, _, by go_num, by omega, HPU⟩
                case measure => simp [intOf]; omega
              · rw [if_neg hmm, List.append_nil] at htk
                simp only [mk01, if_neg hmm] at e0
                rw [← htk] at HFR
                clear hx hmk htk hmm
                go_wp2_with fail
                go_roundw
                case rel => exact ⟨i + 1, _, by go_num, by omega, HFR⟩
                case measure => simp [intOf]; omega
            · obtain rfl : i = cs.length := by omega
              rw [List.take_length] at HFR
              obtain ⟨fw, hfw⟩ : ∃ z, z = Value.slice fa fn fc := ⟨_, rfl⟩
              rw [← hfw] at HFR
              have HFR2 := Lib.hid (show FrJ W6 wr pf B fw (.slice none 0 0) (selN (markC (L.take k)) 0 cs) (selN (markD (L.take k)) 0 (ds.take 0)) from by simpa [selN] using HFR.out)
              clear HFR hil hlt hfm HFN hfw
              obtain ⟨wo, rfl⟩ : ∃ wo : World, wo = wr := ⟨_, rfl⟩
              go_upto_region 25 with fail
              clear k0 hlow
              go_loopw [14] (fun s14 wr => ∃ (i : Nat) (fv : Value), s14 = .int .i64 (i : Int) ∧ i ≤ ds.length ∧ Hid (FrJ W6 wr pf B fw fv (selN (markC (L.take k)) 0 cs) (selN (markD (L.take k)) 0 (ds.take i)))) (fun s14 _ => ds.length - (intOf s14).toNat)
              case atStart => exact ⟨0, _, rfl, Nat.zero_le _, HFR2⟩
              case round =>
                clear HFR2
                obtain ⟨i, fv, rfl, hil, HFR⟩ := hrel
                obtain ⟨fa, fc, hfv⟩ := Row.len (Row.of_owns HFR.out.drow)
                obtain ⟨fn, hfn⟩ : ∃ z, z = (selN (markD (L.take k)) 0 (ds.take i)).length := ⟨_, rfl⟩
                rw [← hfn] at hfv
                subst hfv
                have hfm : fn ≤ i := by rw [hfn]; refine Nat.le_trans (selN_len _ _ _) ?_; rw [List.length_take]; omega
                have HFN := Lib.hid hfn
                clear hfn
                have hlow : Below W0.heap.size W0 wr := HB6.out.trans (HFR.out.chg.below (fun j hj => ⟨Nat.lt_of_lt_of_le hj HB6.out.size, fun e => by have := HPF.out.1; omega⟩))
                have k1 : wr.cell? ⟨ph, 1, none⟩ = some (.slice da ds.length dc) := HK0.out.2 wr hlow
                by_cases hlt : i < ds.length
                · obtain ⟨x, hx⟩ : ∃ x, ds[i]? = some x := ⟨_, List.getElem?_eq_getElem hlt⟩
                  have hi60 : i < 60 := by omega
                  have hmk := HMD6.out.kept HFR.out.chg (show ¬ pc + 1 = pf from by omega)
                  have e0 := hmk.cell hi60
                  have ia : ∀ W : World, (Instr.indexAt 74 (.pointer (some ⟨pc + 1, 0, none⟩)) (.int .i64 (i : Int))).run Tryd.prog W = .ok (.pointer (some ⟨pc + 1, i, none⟩)) W := fun W => idx_60 hi60 W
                  have htk : selN (markD (L.take k)) 0 (ds.take (i + 1)) = selN (markD (L.take k)) 0 (ds.take i) ++ (if markD (L.take k) i then [x] else []) := by
                    rw [take_snoc hx, selN_snoc, Nat.zero_add, List.length_take, Nat.min_eq_left (by omega)]
                  by_cases hmm : markD (L.take k) i = true
                  · rw [if_pos hmm] at htk
                    simp only [mk01, if_pos hmm] at e0
                    obtain ⟨g, o, c', hv, hg, hr⟩ := HH0.out.drops.get hx
                    obtain ⟨rfl, -, rfl⟩ := slice_inj hv
                    have hrr := hr wr hlow
                    have ix : ∀ W : World, (Instr.indexAt 65 (.slice (some ⟨g, o, none⟩) ds.length dc) (.int .i64 (i : Int))).run Tryd.prog W = .ok (.pointer (some ⟨g, o + i * 7, none⟩)) W := fun W => idx_drop rfl hlt W
                    obtain ⟨b, hb⟩ : ∃ b, b = o + i * 7 := ⟨_, rfl⟩
                    rw [← hb] at ix hrr
                    have hbox := HFR.out.box
                    have c0 : wr.cell? ⟨pf, 1, none⟩ = some (.slice fa fn fc) := (cells_at hbox 1).1
                    have HRD := Lib.hid (show RdJ ph pf 1 g b (.slice fa fn fc) (.slice (some ⟨g, o, none⟩) ds.length dc) x.list wr from ⟨c0, k1, hrr, Nat.lt_of_lt_of_le hg hlow.size⟩)
                    have HTK := Lib.hid htk
                    have HGL := Lib.hid (show g < pf from by have := HPF.out.1; omega)
                    have bsq : ∀ W : World, (Instr.buildSlice 65 1 #[(0, .agg x.list.toArray)]).run Tryd.prog W = .ok (.slice (some ⟨W.heap.size, 0, none⟩) 1 1) (W.alloc (.cells x.list.toArray 78)) := fun W => by kernel_rfl
                    clear hx hmk htk hmm hv hr hrr hb hg hbox c0
                    go_upto_region 28 with fail
                    clear e0 ia
                    refine wp_region_late 10 (RdJ ph pf 1 g b (.slice fa fn fc) (.slice (some ⟨g, o, none⟩) ds.length dc) x.list) (by kernel_rfl) (HRD.out.below (Below.refl _ _).drew) (fun hHeld => ?_)
                    refine late_take (i := 0) (v := ?_) rfl (by kernel_rfl) (by kernel_rfl) (by kernel_rfl) (fun _ _ _ h => h) (by decide) (Or.inl ⟨by rfl, ?_⟩) (fun _ => hHeld) ?_
                    rotate_left 1
                    · ((intro w _; go_simp) <;> with_reducible rfl)
                    try simp only [Act.put, List.setIfInBounds_toArray, List.set_cons_zero, List.set_cons_succ, List.getElem_toArray, List.getElem_cons_zero]
                    refine late_read (i := 1) (v := ?_) rfl (by kernel_rfl) (by kernel_rfl) (by kernel_rfl) (fun _ _ _ h => h) (by decide) rfl (by kernel_rfl) (Or.inl ⟨by rfl, ?_⟩) hHeld (by kernel_rfl) ?_
                    rotate_left 1
                    · ((intro w hSw; (try dsimp only at hSw); have c0 := hSw.1; go_simp) <;> with_reducible rfl)
                    try simp only [Act.put, List.setIfInBounds_toArray, List.set_cons_zero, List.set_cons_succ, List.getElem_toArray, List.getElem_cons_zero, List.getElem_cons_succ]
                    refine late_take (i := 2) (v := ?_) rfl (by kernel_rfl) (by kernel_rfl) (by kernel_rfl) (fun _ _ _ h => h) (by decide) (Or.inl ⟨by rfl, ?_⟩) (fun _ => hHeld) ?_
                    rotate_left 1
                    · ((intro w _; go_simp) <;> with_reducible rfl)
                    try simp only [Act.put, List.setIfInBounds_toArray, List.set_cons_zero, List.set_cons_succ, List.getElem_toArray, List.getElem_cons_zero, List.getElem_cons_succ]
                    refine late_read (i := 3) (v := ?_) rfl (by kernel_rfl) (by kernel_rfl) (by kernel_rfl) (fun _ _ _ h => h) (by decide) rfl (by kernel_rfl) (Or.inl ⟨by rfl, ?_⟩) hHeld (by kernel_rfl) ?_
                    rotate_left 1
                    · ((intro w hSw; (try dsimp only at hSw); have c0 := hSw.2.1; go_simp) <;> with_reducible rfl)
                    try simp only [Act.put, List.setIfInBounds_toArray, List.set_cons_zero, List.set_cons_succ, List.getElem_toArray, List.getElem_cons_zero, List.getElem_cons_succ]
                    refine late_take (i := 4) (v := ?_) rfl (by kernel_rfl) (by kernel_rfl) (by kernel_rfl) (fun _ _ _ h => h) (by decide) (Or.inl ⟨by rfl, ?_⟩) (fun _ => hHeld) ?_
                    rotate_left 1
                    · ((intro w _; go_simp) <;> with_reducible rfl)
                    try simp only [Act.put, List.setIfInBounds_toArray, List.set_cons_zero, List.set_cons_succ, List.getElem_toArray, List.getElem_cons_zero, List.getElem_cons_succ]
                    refine late_take (i := 5) (v := ?_) rfl (by kernel_rfl) (by kernel_rfl) (by kernel_rfl) (fun _ _ _ h => h) (by decide) (Or.inl ⟨by rfl, ?_⟩) (fun _ => hHeld) ?_
                    rotate_left 1
                    · ((intro w _; go_simp) <;> with_reducible rfl)
                    try simp only [Act.put, List.setIfInBounds_toArray, List.set_cons_zero, List.set_cons_succ, List.getElem_toArray, List.getElem_cons_zero, List.getElem_cons_succ]
                    refine late_read (i := 6) (v := .agg (x.list).toArray) rfl (by kernel_rfl) (by kernel_rfl) (by kernel_rfl) (fun _ _ _ h => h) (by decide) rfl (by kernel_rfl) (yieldsIf_load_mid (by rfl) 78 (.tmp 138) rfl g b (by rfl) (x.list) _ (fun W hSw => hSw.2.2.1) Tryd.underlying78 rfl (by kernel_rfl)) hHeld (by kernel_rfl) ?_
                    try simp only [Act.put, List.setIfInBounds_toArray, List.set_cons_zero, List.set_cons_succ, List.getElem_toArray, List.getElem_cons_zero, List.getElem_cons_succ]
                    refine late_one (i := 7) (by kernel_rfl) rfl (fun K hK => ?_)
                    go_simp
                    have hbx : Below wr.heap.size wr (World.drew (wr.alloc (.cells x.list.toArray 78))) := ((Below.refl _ _).alloc (Nat.le_refl _) _).drew
                    have HBK := Lib.hid (show (World.drew (wr.alloc (.cells x.list.toArray 78))).heap[wr.heap.size]? = some (.cells x.list.toArray 78 (0, 0)) from heap_alloc_new _ _)
                    have HF2 := Lib.hid (HFR.out.below hbx)
                    have HR2 := Lib.hid (HRD.out.below hbx)
                    refine hK.out _ _ (fun _ _ => HR2.out) ?_
                    clear hK K
                    try simp only [Act.put, List.setIfInBounds_toArray, List.set_cons_zero, List.set_cons_succ, List.getElem_toArray, List.getElem_cons_zero, List.getElem_cons_succ]
                    refine late_one (i := 8) (by kernel_rfl) rfl (fun K hK => ?_)
                    rw [if_pos (by rfl)]
                    refine wp_append_own _ (.tmp 134) (.tmp 140) 65 (by rfl) B 78 j0 (.agg dropZero) 7 72 Tryd.underlying65 Hj.out Hy.out.1 Hy.out.2.1 Hy.out.2.2 rfl (by omega) _ _ _ (by rfl) HF2.out.drow ⟨wr.heap.size, 0, none⟩ 1 1 x.list (by rfl) rfl (World.news_of_block (cs := x.list.toArray) HBK.out) (by simp [Value.oneCell']) (by rw [← HFN.out]; unfold maxLen; omega) (by rw [← HFN.out]; omega) (by rw [HFR.out.bs]; exact Nat.le_trans HFR.out.chg.size hbx.size) ?_
                    intro v2 w2 hown2 hg2 _
                    have hcg : Chg (fun k => (Value.slice fa fn fc).ownBlock = some k) (World.drew (wr.alloc (.cells x.list.toArray 78))) w2 := Chg.of_grown hg2 (fun _ _ e => e)
                    have hno : ∀ q, q ≤ pf → ¬ (Value.slice fa fn fc).ownBlock = some q := fun q hq e => by have := HFR.out.fresh.2 q e; have := HFR.out.lo; omega
                    have HR3 := Lib.hid (HR2.out.kept hcg (hno _ (Nat.le_refl _)) (hno _ (Nat.le_of_lt HPF.out.2)) (hno _ (Nat.le_of_lt HGL.out)))
                    have c0 : w2.cell? ⟨pf, 1, none⟩ = some (.slice fa fn fc) := HR3.out.1
                    have f0 : w2.frozen? ⟨pf, 1, none⟩ = false := (cells_at (hcg.obj HF2.out.box (hno _ (Nat.le_refl _))) 1).2
                    have hpush := HF2.out.pushD hown2 hg2
                    rw [← HTK.out] at hpush
                    obtain ⟨a2, cc2, hv2⟩ := Row.len (Row.of_owns hown2)
                    obtain ⟨n2, hn2⟩ : ∃ z, z = (selN (markD (L.take k)) 0 (ds.take i)).length + 1 := ⟨_, rfl⟩
                    rw [← hn2] at hv2
                    subst hv2
                    have HPU := Lib.hid hpush
                    clear hcg hno hpush hown2 hg2 hn2 hbx
                    refine hK.out _ _ (fun _ _ => HR3.out) ?_
                    clear hK K
                    try simp only [Act.put, List.setIfInBounds_toArray, List.set_cons_zero, List.set_cons_succ, List.getElem_toArray, List.getElem_cons_zero, List.getElem_cons_succ]
                    refine late_take (i := 9) (v := ?_) rfl (by kernel_rfl) (by kernel_rfl) (by kernel_rfl) (fun _ _ _ h => h) (by decide) (Or.inl ⟨by rfl, ?_⟩) (fun _ => HR3.out) ?_
                    rotate_left 1
                    · ((intro w _; go_simp) <;> with_reducible rfl)
                    try simp only [Act.put, List.setIfInBounds_toArray, List.set_cons_zero, List.set_cons_succ, List.getElem_toArray, List.getElem_cons_zero, List.getElem_cons_succ]
                    refine late_one (i := 10) (by kernel_rfl) rfl (fun K hK => ?_)
                    go_simp
                    refine hK.out _ _ (fun _ h => absurd rfl h) ?_
                    clear hK K
                    try simp only [Act.put, List.setIfInBounds_toArray, List.set_cons_zero, List.set_cons_succ, List.getElem_toArray, List.getElem_cons_zero, List.getElem_cons_succ]
                    refine late_done (by kernel_rfl) ?_
                    clear hHeld
                    clear HR2 HR3 HRD HF2 HBK c0 f0 ix bsq k1
                    go_wp2_with fail
                    go_roundw
                    case rel => exact ⟨i + 1, _, by go_num, by omega, HPU⟩
                    case measure => simp [intOf]; omega
                  · rw [if_neg hmm, List.append_nil] at htk
                    simp only [mk01, if_neg hmm] at e0
                    rw [← htk] at HFR
                    clear hx hmk htk hmm
                    go_wp2_with fail
                    go_roundw
                    case rel => exact ⟨i + 1, _, by go_num, by omega, HFR⟩
                    case measure => simp [intOf]; omega
                · obtain rfl : i = ds.length := by omega
                  rw [List.take_length] at HFR
                  obtain ⟨wa, wc, hfw⟩ := Row.len (Row.of_owns HFR.out.crow)
                  obtain ⟨wn, hwn⟩ : ∃ z, z = (selN (markC (L.take k)) 0 cs).length := ⟨_, rfl⟩
                  rw [← hwn] at hfw
                  subst hfw
                  obtain ⟨Cf, hCf⟩ : ∃ z, z = selN (markC (L.take k)) 0 cs := ⟨_, rfl⟩
                  obtain ⟨Df, hDf⟩ : ∃ z, z = selN (markD (L.take k)) 0 ds := ⟨_, rfl⟩
                  have hCe : Cf = frontC cs ds k := by rw [hCf, HL.out]; rfl
                  have hDe : Df = frontD cs ds k := by rw [hDf, HL.out]; rfl
                  rw [← hCf, ← hDf] at HFR
                  rw [← hCf] at hwn
                  have hfl : (linH cs ds = -1 ∧ linH Cf Df = -1) ∨ (∃ j : Nat, linH cs ds = (j : Int) ∧ ((j < k ∧ linH Cf Df = (j : Int)) ∨ (k ≤ j ∧ linH Cf Df = -1))) := by rw [hCe, hDe]; exact front_lin HW.out (by rw [← HL.out]; exact hkL)
                  have hcc : Cf.length ≤ cs.length := by rw [hCf]; exact selN_len _ _ _
                  have hdd : Df.length ≤ ds.length := by rw [hDf]; exact selN_len _ _ _
                  have hist : HistAt wr (.slice wa wn wc) (.slice fa fn fc) Cf Df := ⟨rrow_of_owns (f := CalledD.list) (sz := 20) (fun _ => rfl) HFR.out.crow, rrow_of_owns (f := DropD.list) (sz := 7) (fun _ => rfl) HFR.out.drow, fun x hx => HH0.out.callsIs x (by rw [hCf] at hx; exact (selN_sub _ _ _).subset hx), fun x hx => HH0.out.dropsIs x (by rw [hDf] at hx; exact (selN_sub _ _ _).subset hx)⟩
                  have hec : (endH Cf Df).L.length ≤ Cf.length := end_count (fun x hx => (hist.callsIs x hx).epoch)
                  have HEC := Lib.hid hec
                  have HHF := Lib.hid hist
                  have HFL := Lib.hid hfl
                  have HWN := Lib.hid hwn
                  have hNf : Cf.length + Df.length ≤ 1000000 := by omega
                  have k0 : wr.cell? ⟨ph, 0, none⟩ = some (.slice ca cs.length cc) := HK0.out.1 wr hlow
                  have p0 : wr.cell? ⟨pf, 0, none⟩ = some (.slice wa wn wc) := (cells_at HFR.out.box 0).1
                  have p1 : wr.cell? ⟨pf, 1, none⟩ = some (.slice fa fn fc) := (cells_at HFR.out.box 1).1
                  clear hCf hDf hCe hDe hfl hist hec hcc hdd hil hlt hfm HFN hkm hk1 hk2 hwn
                  go_wp2_with fail
                  refine (lin_any (HH0.out.below hlow) HN.out (HE0.out.1.below hlow) (HE0.out.2.below hlow)).mono ?_
                  rintro e V1 ⟨rfl, hv1⟩
                  have HV1 := Lib.hid (hlow.trans (hv1.mono hlow.size))
                  have HF1 := Lib.hid (HHF.out.below hv1)
                  have r0 : V1.cell? ⟨pf, 0, none⟩ = some (.slice wa wn wc) := (hv1.cell (p := ⟨pf, 0, none⟩) (cell_lt p0)).trans p0
                  have r1 : V1.cell? ⟨pf, 1, none⟩ = some (.slice fa fn fc) := (hv1.cell (p := ⟨pf, 1, none⟩) (cell_lt p1)).trans p1
                  obtain ⟨z1, hz1⟩ : ∃ z, z = linH cs ds := ⟨_, rfl⟩
                  rw [← hz1] at HFL ⊢
                  clear k0 k1 p0 p1 hlow hv1 HFR HHF hz1
                  go_wp2_with fail
                  refine (lin_any HF1.out hNf (HE0.out.1.below HV1.out) (HE0.out.2.below HV1.out)).mono ?_
                  rintro e V2 ⟨rfl, hv2⟩
                  have HV2 := Lib.hid (HV1.out.trans (hv2.mono HV1.out.size))
                  have HF2 := Lib.hid (HF1.out.below hv2)
                  have p0 : V2.cell? ⟨pf, 0, none⟩ = some (.slice wa wn wc) := (hv2.cell (p := ⟨pf, 0, none⟩) (cell_lt r0)).trans r0
                  have p1 : V2.cell? ⟨pf, 1, none⟩ = some (.slice fa fn fc) := (hv2.cell (p := ⟨pf, 1, none⟩) (cell_lt r1)).trans r1
                  obtain ⟨z2, hz2⟩ : ∃ z, z = linH Cf Df := ⟨_, rfl⟩
                  rw [← hz2] at HFL ⊢
                  clear r0 r1 hv2 hz2 HV1 HF1
                  go_upto_region 31 with fail
                  obtain ⟨wq, rfl⟩ : ∃ z : World, z = V2 := ⟨_, rfl⟩
                  go_cut [173] (fun s173 wx => s173 = .bool false ∧ wq = wx)
                  case first =>
                    rcases HFL.out with ⟨rfl, rfl⟩ | ⟨j, rfl, ⟨hj, rfl⟩ | ⟨hj, rfl⟩⟩
                    · go_wp2_with fail
                      go_meet
                      case rel => exact ⟨rfl, rfl⟩
                    · have y1 : ¬ (j : Int) = -1 := by omega
                      have y2 : (0 : Int) ≤ (j : Int) := by omega
                      have y3 : (j : Int) < (k : Int) := by omega
                      go_wp2_with fail
                      go_meet
                      case rel => exact ⟨rfl, rfl⟩
                    · have y1 : ¬ (j : Int) = -1 := by omega
                      have y2 : (0 : Int) ≤ (j : Int) := by omega
                      have y3 : ¬ (j : Int) < (k : Int) := by omega
                      go_wp2_with fail
                      go_meet
                      case rel => exact ⟨rfl, rfl⟩
                  case rest =>
                  obtain ⟨rfl, rfl⟩ := hcut
                  clear HFL
                  go_upto_region 33 with fail
                  have hpl2 : pf < wq.heap.size := cell_lt p0
                  have HP := Lib.hid (And.intro p0 p1)
                  have hbd : Below wq.heap.size wq wq.drew := (Below.refl _ _).drew
                  obtain ⟨m, hm⟩ : ∃ z, z = endH Cf Df := ⟨_, rfl⟩
                  have HM := Lib.hid hm
                  have q1 : decide (m.L.length ≤ wn) = true := by rw [decide_eq_true_iff, hm, HWN.out]; have := HEC.out; omega
                  clear hm p0 p1
                  refine wp_region_held_drew (S := fun W => Below wq.heap.size wq W) (by kernel_rfl) hbd (fun hHeld => ?_)
                  refine wpAnyH_take (i := 0) (v := ?_) rfl (by kernel_rfl) (by kernel_rfl) (by kernel_rfl) (fun _ _ _ h => h) (Or.inl ⟨by rfl, ?_⟩) (by assumption) ?_
                  rotate_left 1
                  · ((intro w hSw; (try dsimp only at hSw); have c0 := (hSw.cell (p := ⟨pf, 0, none⟩) hpl2).trans HP.out.1; have c1 := (hSw.cell (p := ⟨pf, 1, none⟩) hpl2).trans HP.out.2; go_simp) <;> with_reducible rfl)
                  try simp only [Act.put, List.setIfInBounds_toArray, List.set_cons_zero, List.set_cons_succ, List.getElem_toArray, List.getElem_cons_zero]
                  refine wpAnyH_take (i := 3) (v := ?_) rfl (by kernel_rfl) (by kernel_rfl) (by kernel_rfl) (fun _ _ _ h => h) (Or.inl ⟨by rfl, ?_⟩) (by assumption) ?_
                  rotate_left 1
                  · ((intro w hSw; (try dsimp only at hSw); go_simp) <;> with_reducible rfl)
                  try simp only [Act.put, List.setIfInBounds_toArray, List.set_cons_zero, List.set_cons_succ, List.getElem_toArray, List.getElem_cons_zero, List.getElem_cons_succ]
                  refine wpAnyH_take (i := 4) (v := ?_) rfl (by kernel_rfl) (by kernel_rfl) (by kernel_rfl) (fun _ _ _ h => h) (Or.inl ⟨by rfl, ?_⟩) (by assumption) ?_
                  rotate_left 1
                  · ((intro w hSw; (try dsimp only at hSw); have c0 := (hSw.cell (p := ⟨pf, 0, none⟩) hpl2).trans HP.out.1; have c1 := (hSw.cell (p := ⟨pf, 1, none⟩) hpl2).trans HP.out.2; go_simp) <;> with_reducible rfl)
                  try simp only [Act.put, List.setIfInBounds_toArray, List.set_cons_zero, List.set_cons_succ, List.getElem_toArray, List.getElem_cons_zero, List.getElem_cons_succ]
                  refine wpAnyH_take (i := 5) (v := ?_) rfl (by kernel_rfl) (by kernel_rfl) (by kernel_rfl) (fun _ _ _ h => h) (Or.inl ⟨by rfl, ?_⟩) (by assumption) ?_
                  rotate_left 1
                  · ((intro w hSw; (try dsimp only at hSw); go_simp) <;> with_reducible rfl)
                  try simp only [Act.put, List.setIfInBounds_toArray, List.set_cons_zero, List.set_cons_succ, List.getElem_toArray, List.getElem_cons_zero, List.getElem_cons_succ]
                  refine wpAnyH_ready (rs := [1]) (by kernel_rfl) (by simp) ?_
                  refine (AllReadyH.cons rfl (fun K hK => ?_) AllReadyH.nil)
                  go_simp
                  go_at_call 32
                  refine (end_any (HF2.out.below hbd) hNf (HE0.out.1.below (HV2.out.trans (hbd.mono HV2.out.size))) (HE0.out.2.below (HV2.out.trans (hbd.mono HV2.out.size)))).mono ?_
                  rintro e V3 ⟨p, rfl, hlv⟩
                  have HB3 := Lib.hid (show Below wq.heap.size wq V3 from hbd.trans (hlv.bel.mono hbd.size))
                  rw [← HM.out] at hlv
                  have hmp := hlv.map
                  clear hlv
                  refine hK.out _ _ HB3.out (fun hHeld2 => ?_)
                  clear hK K
                  try simp only [Act.put, List.setIfInBounds_toArray, List.set_cons_zero, List.set_cons_succ, List.getElem_toArray, List.getElem_cons_zero, List.getElem_cons_succ]
                  refine wpAnyH_ready (rs := [2]) (by kernel_rfl) (by simp) ?_
                  refine (AllReadyH.cons rfl (fun K hK => ?_) AllReadyH.nil)
                  go_simp
                  go_at_call 20
                  refine (mapsCount_any hmp).mono ?_
                  rintro e V4 ⟨rfl, rfl⟩
                  refine hK.out _ _ HB3.out (fun hHeld2 => ?_)
                  clear hK K
                  try simp only [Act.put, List.setIfInBounds_toArray, List.set_cons_zero, List.set_cons_succ, List.getElem_toArray, List.getElem_cons_zero, List.getElem_cons_succ]
                  refine wpAnyH_take (i := 6) (v := ?_) rfl (by kernel_rfl) (by kernel_rfl) (by kernel_rfl) (fun _ _ _ h => h) (Or.inl ⟨by rfl, ?_⟩) (by assumption) ?_
                  rotate_left 1
                  · ((intro w hSw; (try dsimp only at hSw); go_simp) <;> with_reducible rfl)
                  try simp only [Act.put, List.setIfInBounds_toArray, List.set_cons_zero, List.set_cons_succ, List.getElem_toArray, List.getElem_cons_zero, List.getElem_cons_succ]
                  refine wpAnyH_take (i := 7) (v := ?_) rfl (by kernel_rfl) (by kernel_rfl) (by kernel_rfl) (fun _ _ _ h => h) (Or.inl ⟨by rfl, ?_⟩) (by assumption) ?_
                  rotate_left 1
                  · ((intro w hSw; (try dsimp only at hSw); go_simp) <;> with_reducible rfl)
                  try simp only [Act.put, List.setIfInBounds_toArray, List.set_cons_zero, List.set_cons_succ, List.getElem_toArray, List.getElem_cons_zero, List.getElem_cons_succ]
                  refine wpAnyH_ready (rs := [8]) (by kernel_rfl) (by simp) ?_
                  refine (AllReadyH.cons rfl (fun K hK => ?_) AllReadyH.nil)
                  rw [if_pos (by rfl)]
                  go_simp
                  go_at_call 28
                  refine (lives37 _ (HE0.out.1.below (HV2.out.trans (HB3.out.mono HV2.out.size))) (HE0.out.2.below (HV2.out.trans (HB3.out.mono HV2.out.size)))).mono ?_
                  rintro e V5 ⟨rfl, hv5⟩
                  have HB5 := Lib.hid (HB3.out.trans (hv5.mono HB3.out.size))
                  refine hK.out _ _ HB5.out (fun hHeld2 => ?_)
                  clear hK K
                  try simp only [Act.put, List.setIfInBounds_toArray, List.set_cons_zero, List.set_cons_succ, List.getElem_toArray, List.getElem_cons_zero, List.getElem_cons_succ]
                  refine wpAnyH_take (i := 9) (v := ?_) rfl (by kernel_rfl) (by kernel_rfl) (by kernel_rfl) (fun _ _ _ h => h) (Or.inl ⟨by rfl, ?_⟩) (by assumption) ?_
                  rotate_left 1
                  · ((intro w hSw; (try dsimp only at hSw); go_simp) <;> with_reducible rfl)
                  try simp only [Act.put, List.setIfInBounds_toArray, List.set_cons_zero, List.set_cons_succ, List.getElem_toArray, List.getElem_cons_zero, List.getElem_cons_succ]
                  refine wpAnyH_take (i := 10) (v := ?_) rfl (by kernel_rfl) (by kernel_rfl) (by kernel_rfl) (fun _ _ _ h => h) (Or.inl ⟨by rfl, ?_⟩) (by assumption) ?_
                  rotate_left 1
                  · ((intro w hSw; (try dsimp only at hSw); go_simp) <;> with_reducible rfl)
                  try simp only [Act.put, List.setIfInBounds_toArray, List.set_cons_zero, List.set_cons_succ, List.getElem_toArray, List.getElem_cons_zero, List.getElem_cons_succ]
                  refine wpAnyH_done (by kernel_rfl) ?_ _
                  clear hHeld2
                  go_wp2_with fail
                  go_ret
                  exact ⟨rfl, HBW.out.trans ((HV2.out.trans (HB5.out.mono HV2.out.size)).mono HBW.out.size)⟩
  · go_wp2_with fail
    refine (lives37 _ (HE0.out.1.below HB1.out) (HE0.out.2.below HB1.out)).mono ?_
    rintro e W3 ⟨rfl, hv3⟩
    have HV3 := Lib.hid (HBW.out.trans ((HB1.out.trans (hv3.mono HB1.out.size)).mono HBW.out.size))
    clear hv3
    go_wp2_with fail
    go_ret
    exact ⟨rfl, HV3.out⟩
end Go.Proofs.YtaooangnnlopcaaDoor
