/- The law MapsOne, walked. Condition: the library's tables lie as they are laid. -/
import Derived.Test.YtaooangnnlopcaaDoorMapsOne0
namespace Go.Proofs.YtaooangnnlopcaaDoor
open Go.RowKit Go.ChangeMaps Go.MapKept
theorem stepRow_one (w : World) {c : CallD} (hc : CallFit c) : StepRow (w.alloc (.cells #[.int .u8 c.verb, .string c.key, .string c.value, .int .u32 c.flags, .int .i64 c.exp, .int .u64 c.id, .int .u64 c.by', .int .u8 0] 30)) (.slice (some ⟨w.heap.size, 0, none⟩) 1 1) [⟨c, 0⟩] := by
  refine ⟨by unfold maxLen; simp, fun x hx => ?_, some ⟨w.heap.size, 0, none⟩, 1, rfl, fun j x hj => ?_⟩
  · obtain rfl : x = ⟨c, 0⟩ := by simpa using hx
    exact ⟨hc, by show 0 < 256; omega⟩
  · match j, hj with
    | 0, hj =>
      obtain rfl : ⟨c, 0⟩ = x := by simpa using hj
      refine ⟨w.heap.size, 0, rfl, by rw [size_at]; omega, fun i u hu => ?_⟩
      have hb : (w.alloc (.cells #[.int .u8 c.verb, .string c.key, .string c.value, .int .u32 c.flags, .int .i64 c.exp, .int .u64 c.id, .int .u64 c.by', .int .u8 0] 30)).heap[w.heap.size]? = some (.cells (stepCells ⟨c, 0⟩).toArray 30 (0, 0)) := by rw [heap_at, if_pos rfl]; rfl
      rw [show 0 + (0 * 8 + i) = i from by omega, (cells_at hb i).1, List.getElem?_toArray]
      exact hu
    | j + 1, hj => simp at hj
theorem LvAt.grow {w W W' : World} {p : Nat} {m : MapM} {bs : List (Nat × Array Value)} {o : Obj} (h : LvAt w W p m bs) (hg : (W.alloc o).grownBy W' (some W.heap.size)) : LvAt w W' p m bs :=
  h.below (grown_below ((Below.refl _ _).alloc (Nat.le_refl _) o) (by rw [size_at]; omega) hg (fun k hk => by cases hk; exact Nat.le_refl _))
theorem fits_at {w : World} {p : Nat} {m : MapM} {c : CallD} {ep : Nat} {a : AnsD} (h : MapAt w p m) (hme : m.epoch < 18446744073709551616) (he : ep < 18446744073709551616) (hc : CallFit c) (hid : m.ids < 18446744073709551615) (hE : HasErr w) (hP : HasPow w) : Calls Tryd.prog 22 #[.pointer (some ⟨p, 0, none⟩), .agg #[.int .i64 0, .int .u8 c.verb, .string c.key, .string c.value, .int .u32 c.flags, .int .i64 c.exp, .int .u64 c.id, .int .u64 c.by', .int .i64 0, .int .i64 0, .int .u8 a.kind, .int .u64 a.number, .string a.item.key, .string a.item.value, .int .u32 a.item.flags, .int .u64 a.item.id, .int .i64 a.item.dies, .int .i64 a.item.gen, .int .u64 (ep : Int), .int .i64 0]] w fun e w' => e = .returned (.bool (fitsM m c ep a).1) ∧ MapAt w' p (fitsM m c ep a).2 ∧ MChg w p w' :=
  mapsFits_any (x := ⟨0, c, 0, 0, a, ep, 0⟩) h hme he hc.key hc.verb hc.exp hc.by' hid hE hP
def IsBool (v : Value) : Prop := ∃ b : Bool, v = .bool b
set_option maxRecDepth 100000 in
set_option maxHeartbeats 8000000 in
theorem mapsOne_walk {w : World} {lv : Value} {L : List StepD} {c : CallD} {a : AnsD} (hl : StepRow w lv L) (hc : CallFit c) (hE : HasErr w) (hP : HasPow w) : Calls Tryd.prog 5 #[lv, .agg #[.int .u8 c.verb, .string c.key, .string c.value, .int .u32 c.flags, .int .i64 c.exp, .int .u64 c.id, .int .u64 c.by'], .agg #[.int .u8 a.kind, .int .u64 a.number, .string a.item.key, .string a.item.value, .int .u32 a.item.flags, .int .u64 a.item.id, .int .i64 a.item.dies, .int .i64 a.item.gen]] w fun e w' => e = .returned (.bool true) ∧ Below w.heap.size w w' := by
  have HL := Lib.hid hl
  have HC := Lib.hid hc
  have HE := Lib.hid hE
  have HP := Lib.hid hP
  obtain ⟨-, -, la, lc, rfl, -⟩ := hl
  clear hc hE hP
  go_enter Tryd.func5, Tryd.ntmps5
  go_upto_region 1 with fail
  obtain ⟨W0, hW0⟩ : ∃ X, X = (w.alloc (.cells #[.int .u8 c.verb, .string c.key, .string c.value, .int .u32 c.flags, .int .i64 c.exp, .int .u64 c.id, .int .u64 c.by'] 26)).alloc (.cells #[.int .u8 a.kind, .int .u64 a.number, .string a.item.key, .string a.item.value, .int .u32 a.item.flags, .int .u64 a.item.id, .int .i64 a.item.dies, .int .i64 a.item.gen] 39) := ⟨_, rfl⟩
  have hb0 : Below w.heap.size w W0 := by rw [hW0]; exact below_two w _ _
  have hx0 : W0.heap[w.heap.size]? = some (.cells #[.int .u8 c.verb, .string c.key, .string c.value, .int .u32 c.flags, .int .i64 c.exp, .int .u64 c.id, .int .u64 c.by'] 26 (0, 0)) := by rw [hW0]; exact (heap_two w _ _).1
  have hr0 : W0.heap[w.heap.size + 1]? = some (.cells #[.int .u8 a.kind, .int .u64 a.number, .string a.item.key, .string a.item.value, .int .u32 a.item.flags, .int .u64 a.item.id, .int .i64 a.item.dies, .int .i64 a.item.gen] 39 (0, 0)) := by rw [hW0]; exact (heap_two w _ _).2
  rw [← hW0]
  have HB0 := Lib.hid hb0
  have HX0 := Lib.hid hx0
  have HR0 := Lib.hid hr0
  clear hW0 hb0 hx0 hr0
  obtain ⟨n0, hn0⟩ : ∃ n, n = w.heap.size := ⟨_, rfl⟩
  rw [← hn0] at HX0 HR0 ⊢
  have HN0 := Lib.hid hn0
  clear hn0
  go_cut [36] (fun s36 wx => IsBool s36 ∧ Below W0.heap.size W0 wx)
  case first =>
    go_wp2_with fail
    refine (long_any (HL.out.below HB0.out)).mono ?_
    rintro e W1 ⟨⟨b, rfl, -⟩, hb⟩
    have HB1 := Lib.hid hb
    clear hb
    have hlt : n0 + 1 < W0.heap.size := (Array.getElem?_eq_some_iff.1 HR0.out).1
    have hx1 := (HB1.out.block n0 (by omega)).trans HX0.out
    have hr1 := (HB1.out.block (n0 + 1) hlt).trans HR0.out
    have e0 : W1.cell? ⟨n0, 0, none⟩ = some (.int .u8 c.verb) := (cells_at hx1 0).1
    have e1 : W1.cell? ⟨n0, 1, none⟩ = some (.string c.key) := (cells_at hx1 1).1
    have e2 : W1.cell? ⟨n0, 2, none⟩ = some (.string c.value) := (cells_at hx1 2).1
    have e3 : W1.cell? ⟨n0, 3, none⟩ = some (.int .u32 c.flags) := (cells_at hx1 3).1
    have e4 : W1.cell? ⟨n0, 4, none⟩ = some (.int .i64 c.exp) := (cells_at hx1 4).1
    have e5 : W1.cell? ⟨n0, 5, none⟩ = some (.int .u64 c.id) := (cells_at hx1 5).1
    have e6 : W1.cell? ⟨n0, 6, none⟩ = some (.int .u64 c.by') := (cells_at hx1 6).1
    have r2 : W1.cell? ⟨n0 + 1, 2, none⟩ = some (.string a.item.key) := (cells_at hr1 2).1
    have r3 : W1.cell? ⟨n0 + 1, 3, none⟩ = some (.string a.item.value) := (cells_at hr1 3).1
    clear hlt hx1 hr1
    cases b
    · go_wp2_with fail
      refine (long_any (stepRow_one _ HC.out)).mono ?_
      rintro e W2 ⟨⟨b, rfl, -⟩, hb⟩
      have hb2 : Below W1.heap.size W1 W2 := ((Below.refl _ _).alloc (Nat.le_refl _) _).trans (hb.mono (by rw [size_at]; omega))
      have q2 := (hb2.cell (p := ⟨n0 + 1, 2, none⟩) (cell_lt r2)).trans r2
      have q3 := (hb2.cell (p := ⟨n0 + 1, 3, none⟩) (cell_lt r3)).trans r3
      have HB2 := Lib.hid (HB1.out.trans (hb2.mono HB1.out.size))
      clear hb hb2 e0 e1 e2 e3 e4 e5 e6 r2 r3 HB1
      cases b
      · go_wp2_with fail
        go_meet
        case rel => exact ⟨⟨_, rfl⟩, HB2.out⟩
      · go_wp2_with fail
        go_meet
        case rel => exact ⟨⟨_, rfl⟩, HB2.out⟩
    · go_wp2_with fail
      go_meet
      case rel => exact ⟨⟨_, rfl⟩, HB1.out⟩
  case rest =>
    obtain ⟨⟨b, rfl⟩, hb⟩ := hcut
    obtain ⟨W1, rfl⟩ : ∃ X, X = wc := ⟨_, rfl⟩
    have hlt : n0 + 1 < W0.heap.size := (Array.getElem?_eq_some_iff.1 HR0.out).1
    have hx1 := (hb.block n0 (by omega)).trans HX0.out
    have hr1 := (hb.block (n0 + 1) hlt).trans HR0.out
    have hbw := HB0.out.trans (hb.mono HB0.out.size)
    have HL1 := Lib.hid (HL.out.below hbw)
    have HE1 := Lib.hid (HE.out.below hbw)
    have HP1 := Lib.hid (HP.out.below hbw)
    have HX := Lib.hid (fun W (hW : Below W1.heap.size W1 W) => (hW.block n0 (by have := hb.size; omega)).trans hx1)
    have HA := Lib.hid (fun W (hW : Below W1.heap.size W1 W) => (hW.block (n0 + 1) (by have := hb.size; omega)).trans hr1)
    have HBW := Lib.hid hbw
    clear hbw hx1 hr1 hlt hb HB0 HX0 HR0 HE HP HL HN0
    cases b
    · go_wp2_with fail
      refine (mapsNew_own _).mono ?_
      rintro e W2 ⟨rfl, hl⟩
      obtain ⟨p, hp⟩ : ∃ p, p = W1.heap.size := ⟨_, rfl⟩
      rw [← hp] at hl ⊢
      have HL := Lib.hid hl
      clear hl hp
      go_upto_region 4 with fail
      go_wp2_with fail
      have hmx := HL1.out.1
      unfold maxLen at hmx
      refine (run_any (ep := 0) HL.out HL1.out (by decide) (by decide) (by show 0 + L.length < _; omega) HE1.out HP1.out).mono ?_
      rintro e W3 ⟨rfl, hl, hme, hep, hid⟩
      have hid2 : (runL (newM, 0) L).1.ids < 18446744073709551615 := by have : newM.ids = 0 := rfl; omega
      clear hid
      obtain ⟨⟨m, ep⟩, hr⟩ : ∃ r, r = runL (newM, 0) L := ⟨_, rfl⟩
      rw [← hr] at hl hme hep hid2 ⊢
      simp only at hl hme hep hid2 ⊢
      have HL2 := Lib.hid hl
      have HME := Lib.hid hme
      have HEP := Lib.hid hep
      have HID := Lib.hid hid2
      clear hl hme hep hid2 hr HL hmx
      have HL := HL2
      clear HL2
      go_upto_region 5 with fail
      go_wp2_with (first | ((with_reducible show wpList _ _ _ (⟨_, Op.load 26 _, _, _, _, _⟩ :: _) _ _); refine wpList_load_row (by rfl) 26 (.tmp 4) (by rfl) n0 (by rfl) 26 _ _ _ (HX.out _ HL.out.bel) Tryd.underlying26 rfl (by kernel_rfl) ?_) | fail)
      have hc := HC.out
      refine (mapsGives_any (c := c) (ep := ep) HL.out.map HME.out HEP.out hc.key hc.verb hc.exp hc.by' HID.out (HE1.out.below HL.out.bel) (HP1.out.below HL.out.bel)).mono ?_
      rintro e W4 ⟨rfl, hb4⟩
      have HL2 := Lib.hid (HL.out.below hb4)
      clear hb4 hc HL
      have HL := HL2
      clear HL2
      obtain ⟨g, hg⟩ : ∃ g, g = ansM m c ep := ⟨_, rfl⟩
      obtain ⟨is, his⟩ : ∃ b, b = isM m c ep := ⟨_, rfl⟩
      rw [← hg, ← his]
      have HG := Lib.hid hg
      have HIS := Lib.hid his
      clear hg his
      go_upto_region 6 with (first | ((with_reducible show wpList _ _ _ (⟨none, Op.store 39 _ _, _, _, _, _⟩ :: _) _ _); refine wpList_store_whole (by rfl) 39 (.tmp 9) (.tmp 47) (by rfl) W4.heap.size (by rfl) #[.int .u8 g.kind, .int .u64 g.number, .string g.item.key, .string g.item.value, .int .u32 g.item.flags, .int .u64 g.item.id, .int .i64 g.item.dies, .int .i64 g.item.gen] (by rfl) _ 39 (heap_alloc_new _ _) (by rfl) (by kernel_rfl) (by simp [Value.oneCell']) ?_; intro w2 hr2 hg2 hs2; have HG2 := Lib.hid hg2; have HR2 := Lib.hid hr2; clear hg2 hr2 hs2) | ((with_reducible show wpList _ _ _ (⟨_, Op.load 26 _, _, _, _, _⟩ :: _) _ _); refine wpList_load_row (by rfl) 26 (.tmp 4) (by rfl) n0 (by rfl) 26 _ _ _ (HX.out _ HL.out.bel) Tryd.underlying26 rfl (by kernel_rfl) ?_) | fail)
      have hl := HL.out.put HR2.out HG2.out
      obtain ⟨q, hq⟩ : ∃ q, q = W4.heap.size := ⟨_, rfl⟩
      rw [← hq] at hl ⊢
      have HL2 := Lib.hid hl
      have e1 : w2.cell? ⟨n0, 1, none⟩ = some (.string c.key) := (cells_at (HX.out _ hl.bel) 1).1
      clear hl hq HL HG2 HR2
      have HL := HL2
      clear HL2
      go_wp2_with fail
      refine (mapsAt_any HL.out.map HC.out.key).mono ?_
      rintro e W5 ⟨rfl, hb5⟩
      have HL2 := Lib.hid (HL.out.below hb5)
      clear hb5 HL e1
      have HL := HL2
      clear HL2
      obtain ⟨x, hx⟩ : ∃ x, x = wasL m.L c.key := ⟨_, rfl⟩
      obtain ⟨has, hh⟩ : ∃ b, b = (atL m.L c.key).isSome := ⟨_, rfl⟩
      rw [← hx, ← hh]
      have HH := Lib.hid hh
      clear hx hh
      go_upto_region 7 with (first | ((with_reducible show wpList _ _ _ (⟨none, Op.store 37 _ _, _, _, _, _⟩ :: _) _ _); refine wpList_store_whole (by rfl) 37 (.tmp 11) (.tmp 54) (by rfl) W5.heap.size (by rfl) #[.string x.key, .string x.value, .int .u32 x.flags, .int .u64 x.id, .int .i64 x.dies, .int .i64 x.gen] (by rfl) _ 37 (heap_alloc_new _ _) (by rfl) (by kernel_rfl) (by simp [Value.oneCell']) ?_; intro w2 hr2 hg2 hs2; have HG2 := Lib.hid hg2; have HR2 := Lib.hid hr2; clear hg2 hr2 hs2) | ((with_reducible show wpList _ _ _ (⟨_, Op.load 26 _, _, _, _, _⟩ :: _) _ _); refine wpList_load_row (by rfl) 26 (.tmp 4) (by rfl) n0 (by rfl) 26 _ _ _ (HX.out _ HL.out.bel) Tryd.underlying26 rfl (by kernel_rfl) ?_) | fail)
      have HL2 := Lib.hid (HL.out.grow HG2.out)
      clear HL HG2 HR2
      have HL := HL2
      clear HL2
      obtain ⟨W6, rfl⟩ : ∃ X, X = w2 := ⟨_, rfl⟩
      go_wp2_with fail
      refine (mapsCount_any HL.out.map).mono ?_
      rintro e W7 ⟨rfl, rfl⟩
      go_upto_region 8 with fail
      go_wp2_with fail
      refine (mapsIds_any HL.out.map).mono ?_
      rintro e W7 ⟨rfl, rfl⟩
      go_upto_region 9 with fail
      have qb := build_called c ep a
      go_wp2_with (first | ((with_reducible show wpList _ _ _ (⟨_, Op.load 26 _, _, _, _, _⟩ :: _) _ _); refine wpList_load_row (by rfl) 26 (.tmp 4) (by rfl) n0 (by rfl) 26 _ _ _ (HX.out _ HL.out.bel) Tryd.underlying26 rfl (by kernel_rfl) ?_) | ((with_reducible show wpList _ _ _ (⟨_, Op.load 39 _, _, _, _, _⟩ :: _) _ _); refine wpList_load_row (by rfl) 39 (.tmp 5) (by rfl) (n0 + 1) (by rfl) 39 _ _ _ (HA.out _ HL.out.bel) Tryd.underlying39 rfl (by kernel_rfl) ?_) | fail)
      refine (fits_at (a := a) HL.out.map HME.out HEP.out HC.out HID.out (HE1.out.below HL.out.bel) (HP1.out.below HL.out.bel)).mono ?_
      rintro e W7 ⟨rfl, hm, hcg⟩
      have hl := HL.out.step hm hcg
      have h1 := one_fits (m := m) (c := c) (ep := ep) (a := a)
      have h2 := one_keeps (m := m) (c := c) (ep := ep) (a := a)
      obtain ⟨rf, hrf⟩ : ∃ b, b = refusedM m c ep a := ⟨_, rfl⟩
      have hrf2 : rf = (is && !has && decide (g.kind = 1) && decide (a = noRoom)) := by rw [hrf, HIS.out, HH.out, HG.out]; rfl
      rw [← hrf, ← HIS.out, ← HG.out] at h1
      rw [← hrf] at h2
      clear hm hcg hrf qb
      obtain ⟨⟨f, m2⟩, hf⟩ : ∃ r, r = fitsM m c ep a := ⟨_, rfl⟩
      rw [← hf] at h1 h2 hl ⊢
      simp only at h1 h2 hl ⊢
      have HL2 := Lib.hid hl
      have H1 := Lib.hid h1
      have H2 := Lib.hid h2
      have HRF := Lib.hid hrf2
      clear hl h1 h2 hrf2 HL hf HG HIS HH HID HME HEP
      have HL := HL2
      clear HL2
      go_upto_region 10 with fail
      have r0 : W7.cell? ⟨n0 + 1, 0, none⟩ = some (.int .u8 a.kind) := (cells_at (HA.out _ HL.out.bel) 0).1
      have r1 : W7.cell? ⟨n0 + 1, 1, none⟩ = some (.int .u64 a.number) := (cells_at (HA.out _ HL.out.bel) 1).1
      have r2 : W7.cell? ⟨n0 + 1, 2, none⟩ = some (.string a.item.key) := (cells_at (HA.out _ HL.out.bel) 2).1
      have r3 : W7.cell? ⟨n0 + 1, 3, none⟩ = some (.string a.item.value) := (cells_at (HA.out _ HL.out.bel) 3).1
      have r4 : W7.cell? ⟨n0 + 1, 4, none⟩ = some (.int .u32 a.item.flags) := (cells_at (HA.out _ HL.out.bel) 4).1
      have r5 : W7.cell? ⟨n0 + 1, 5, none⟩ = some (.int .u64 a.item.id) := (cells_at (HA.out _ HL.out.bel) 5).1
      have r6 : W7.cell? ⟨n0 + 1, 6, none⟩ = some (.int .i64 a.item.dies) := (cells_at (HA.out _ HL.out.bel) 6).1
      have r7 : W7.cell? ⟨n0 + 1, 7, none⟩ = some (.int .i64 a.item.gen) := (cells_at (HA.out _ HL.out.bel) 7).1
      have y0 : W7.cell? ⟨q, 0, none⟩ = some (.int .u8 g.kind) := (cells_at ((HL.out.held _ (.head _)).2) 0).1
      have y1 : W7.cell? ⟨q, 1, none⟩ = some (.int .u64 g.number) := (cells_at ((HL.out.held _ (.head _)).2) 1).1
      have y2 : W7.cell? ⟨q, 2, none⟩ = some (.string g.item.key) := (cells_at ((HL.out.held _ (.head _)).2) 2).1
      have y3 : W7.cell? ⟨q, 3, none⟩ = some (.string g.item.value) := (cells_at ((HL.out.held _ (.head _)).2) 3).1
      have y4 : W7.cell? ⟨q, 4, none⟩ = some (.int .u32 g.item.flags) := (cells_at ((HL.out.held _ (.head _)).2) 4).1
      have y5 : W7.cell? ⟨q, 5, none⟩ = some (.int .u64 g.item.id) := (cells_at ((HL.out.held _ (.head _)).2) 5).1
      have y6 : W7.cell? ⟨q, 6, none⟩ = some (.int .i64 g.item.dies) := (cells_at ((HL.out.held _ (.head _)).2) 6).1
      have y7 : W7.cell? ⟨q, 7, none⟩ = some (.int .i64 g.item.gen) := (cells_at ((HL.out.held _ (.head _)).2) 7).1
      have qe : ∀ W : World, (binOp .eql 39 (.agg #[.int .u8 a.kind, .int .u64 a.number, .string a.item.key, .string a.item.value, .int .u32 a.item.flags, .int .u64 a.item.id, .int .i64 a.item.dies, .int .i64 a.item.gen]) (.agg #[.int .u8 5, .int .u64 0, .string ⟨#[]⟩, .string ⟨#[]⟩, .int .u32 0, .int .u64 0, .int .i64 0, .int .i64 0])).run Tryd.prog W = .ok (.bool (decide (a = noRoom))) W := run_ans_eq a noRoom
      have qb := build_noRoom
      go_cut [10, 12, 16, 42, 46, 48, 49, 53, 55] (fun s10 s12 s16 _ _ _ _ _ _ wx => s10 = .bool is ∧ s12 = .bool has ∧ s16 = .bool rf ∧ wx = W7)
      case first =>
        clear y1 y2 y3 y4 y5 y6 y7
        have hrf := HRF.out
        obtain ⟨gk, hgk⟩ : ∃ k, k = g.kind := ⟨_, rfl⟩
        rw [← hgk] at hrf y0
        generalize decide (a = noRoom) = dn at hrf qe
        cases h1 : is
        · have HR := Lib.hid hrf
          clear hrf
          go_wp2_with fail
          go_meet
          case rel => exact ⟨by rw [h1], rfl, by rw [HR.out, h1]; rfl, rfl⟩
        · cases h2 : has
          · by_cases hk : gk = 1
            · have HR := Lib.hid hrf
              clear hrf
              subst hk
              go_wp2_with fail
              go_meet
              case rel => exact ⟨by rw [h1], by rw [h2], by rw [HR.out, h1, h2]; rfl, rfl⟩
            · have HR := Lib.hid hrf
              clear hrf
              go_wp2_with fail
              go_meet
              case rel => exact ⟨by rw [h1], by rw [h2], by rw [HR.out, h1, h2, decide_eq_false hk]; rfl, rfl⟩
          · have HR := Lib.hid hrf
            clear hrf
            go_wp2_with fail
            go_meet
            case rel => exact ⟨by rw [h1], by rw [h2], by rw [HR.out, h1, h2]; rfl, rfl⟩
      case rest =>
        obtain ⟨rfl, rfl, rfl, rfl⟩ := hcut
        obtain ⟨W8, rfl⟩ : ∃ X, X = wc := ⟨_, rfl⟩
        clear qe qb HRF
        have qe : ∀ W : World, (binOp .eql 39 (.agg #[.int .u8 a.kind, .int .u64 a.number, .string a.item.key, .string a.item.value, .int .u32 a.item.flags, .int .u64 a.item.id, .int .i64 a.item.dies, .int .i64 a.item.gen]) (.agg #[.int .u8 g.kind, .int .u64 g.number, .string g.item.key, .string g.item.value, .int .u32 g.item.flags, .int .u64 g.item.id, .int .i64 g.item.dies, .int .i64 g.item.gen])).run Tryd.prog W = .ok (.bool (decide (a = g))) W := run_ans_eq a g
        have h1 := H1.out
        clear H1
        generalize decide (a = g) = dg at h1 qe
        have HF := Lib.hid h1
        clear h1
        go_upto_region 11 with fail
        go_cut [10, 15, 16, 65, 91] (fun s10 s15 s16 _ s91 wx => s10 = .bool is ∧ s15 = .bool f ∧ s16 = .bool rf ∧ s91 = .bool false ∧ wx = W8)
        case first =>
          cases e1 : is
          · cases e2 : rf
            · cases e3 : dg
              · have hf : f = false := by rw [HF.out, e1, e2, e3]; rfl
                clear HF H2
                subst hf
                go_wp2_with fail
                go_meet
                case rel => exact ⟨by rw [e1], rfl, by rw [e2], rfl, rfl⟩
              · have hf : f = false := by rw [HF.out, e1, e2, e3]; rfl
                clear HF H2
                subst hf
                go_wp2_with fail
                go_meet
                case rel => exact ⟨by rw [e1], rfl, by rw [e2], rfl, rfl⟩
            · cases e3 : dg
              · have hf : f = true := by rw [HF.out, e1, e2, e3]; rfl
                clear HF H2
                subst hf
                go_wp2_with fail
                go_meet
                case rel => exact ⟨by rw [e1], rfl, by rw [e2], rfl, rfl⟩
              · have hf : f = true := by rw [HF.out, e1, e2, e3]; rfl
                clear HF H2
                subst hf
                go_wp2_with fail
                go_meet
                case rel => exact ⟨by rw [e1], rfl, by rw [e2], rfl, rfl⟩
          · cases e2 : rf
            · cases e3 : dg
              · have hf : f = false := by rw [HF.out, e1, e2, e3]; rfl
                clear HF H2
                subst hf
                go_wp2_with fail
                go_meet
                case rel => exact ⟨by rw [e1], rfl, by rw [e2], rfl, rfl⟩
              · have hf : f = true := by rw [HF.out, e1, e2, e3]; rfl
                clear HF H2
                subst hf
                go_wp2_with fail
                go_meet
                case rel => exact ⟨by rw [e1], rfl, by rw [e2], rfl, rfl⟩
            · cases e3 : dg
              · have hf : f = true := by rw [HF.out, e1, e2, e3]; rfl
                clear HF H2
                subst hf
                go_wp2_with fail
                go_meet
                case rel => exact ⟨by rw [e1], rfl, by rw [e2], rfl, rfl⟩
              · have hf : f = true := by rw [HF.out, e1, e2, e3]; rfl
                clear HF H2
                subst hf
                go_wp2_with fail
                go_meet
                case rel => exact ⟨by rw [e1], rfl, by rw [e2], rfl, rfl⟩
        case rest =>
          obtain ⟨rfl, rfl, rfl, rfl, rfl⟩ := hcut
          obtain ⟨W9, rfl⟩ : ∃ X, X = wc := ⟨_, rfl⟩
          clear qe HF r0 r1 r2 r3 r4 r5 r6 r7 y0 y1 y2 y3 y4 y5 y6 y7
          have HLV := Lib.hid (lives36 W9 (HE1.out.below HL.out.bel) (HP1.out.below HL.out.bel))
          go_upto_region 13 with fail
          cases f
          · cases rf
            · have hk := H2.out rfl
              clear H2
              go_wp2_with fail
              refine (mapsCount_any HL.out.map).mono ?_
              rintro e W10 ⟨rfl, rfl⟩
              rw [hk.1]
              go_wp2_with fail
              refine (mapsIds_any HL.out.map).mono ?_
              rintro e W10 ⟨rfl, rfl⟩
              rw [hk.2]
              clear hk
              go_wp2_with fail
              refine HLV.out.mono ?_
              rintro e W10 ⟨rfl, hb⟩
              have HB := Lib.hid (HBW.out.trans ((HL.out.bel.trans (hb.mono HL.out.bel.size)).mono HBW.out.size))
              clear hb
              go_wp2_with fail
              go_ret
              exact ⟨rfl, HB.out⟩
            · have hk := H2.out rfl
              clear H2
              go_wp2_with fail
              refine (mapsCount_any HL.out.map).mono ?_
              rintro e W10 ⟨rfl, rfl⟩
              rw [hk.1]
              go_wp2_with fail
              refine (mapsIds_any HL.out.map).mono ?_
              rintro e W10 ⟨rfl, rfl⟩
              rw [hk.2]
              clear hk
              go_wp2_with fail
              refine HLV.out.mono ?_
              rintro e W10 ⟨rfl, hb⟩
              have HB := Lib.hid (HBW.out.trans ((HL.out.bel.trans (hb.mono HL.out.bel.size)).mono HBW.out.size))
              clear hb
              go_wp2_with fail
              go_ret
              exact ⟨rfl, HB.out⟩
          · cases rf
            · clear H2
              go_wp2_with fail
              refine HLV.out.mono ?_
              rintro e W10 ⟨rfl, hb⟩
              have HB := Lib.hid (HBW.out.trans ((HL.out.bel.trans (hb.mono HL.out.bel.size)).mono HBW.out.size))
              clear hb
              go_wp2_with fail
              go_ret
              exact ⟨rfl, HB.out⟩
            · have hk := H2.out rfl
              clear H2
              go_wp2_with fail
              refine (mapsCount_any HL.out.map).mono ?_
              rintro e W10 ⟨rfl, rfl⟩
              rw [hk.1]
              go_wp2_with fail
              refine (mapsIds_any HL.out.map).mono ?_
              rintro e W10 ⟨rfl, rfl⟩
              rw [hk.2]
              clear hk
              go_wp2_with fail
              refine HLV.out.mono ?_
              rintro e W10 ⟨rfl, hb⟩
              have HB := Lib.hid (HBW.out.trans ((HL.out.bel.trans (hb.mono HL.out.bel.size)).mono HBW.out.size))
              clear hb
              go_wp2_with fail
              go_ret
              exact ⟨rfl, HB.out⟩
    · go_wp2_with fail
      refine (lives36 _ HE1.out HP1.out).mono ?_
      rintro e W2 ⟨rfl, hb⟩
      have HB := Lib.hid (HBW.out.trans (hb.mono HBW.out.size))
      clear hb
      go_wp2_with fail
      go_ret
      exact ⟨rfl, HB.out⟩
end Go.Proofs.YtaooangnnlopcaaDoor
