/- Where a history ends to fit (lins.Lin), and the map then (lins.End). Condition: the history lies in memory; the library's tables lie as they are laid; a million calls and drops at most. -/
import Derived.Test.YtaooangnnlopcaaGreatDoorLinRun
import Derived.Test.YtaooangnnlopcaaGreatDoorLinLate
import Derived.Test.YtaooangnnlopcaaGreatDoorLowA
namespace Go.Proofs.YtaooangnnlopcaaGreatDoor
open Go.RowKit Go.ChangeMaps Go.MapKept
/-- How a round of Lin stops. -/
def LinStop (w : World) (cs : List CalledD) (ds : List DropD) (rc : Nat) (j : Nat) (W : World) : Prop := (goE cs ds (orderL cs ds) 0 newM).1 = (j : Int) ∧ W.heap[rc]? = some (.cells #[.int .i64 (j : Int)] 3 (0, 0)) ∧ Below w.heap.size w W
theorem below_turn {w W : World} {l : Nat} (o' : Obj) (h : Below w.heap.size w W) (hl : w.heap.size ≤ l) : Below w.heap.size w (W.putObj l o') :=
  ⟨h.os, h.tape, h.output, by simp [World.putObj]; exact h.size, fun k hk => (World.putObj_heap_other (by omega)).trans (h.block k hk)⟩
theorem obj_turn {W : World} {l k : Nat} {o o' c : Obj} (ho : W.heap[l]? = some o) (hr : isRec o = true) (hk : W.heap[k]? = some c) (hc : isRec c = false) : (W.putObj l o').heap[k]? = some c :=
  (World.putObj_heap_other (fun e => by
    subst e
    rw [hk] at ho
    obtain rfl := Option.some.inj ho
    rw [hr] at hc
    cases hc)).trans hk
/-- What is asked of a piece that does not leave. -/
def onlyN (Q : Exit → Act → World → Prop) : Exit → Act → World → Prop
  | .normal, a, w => Q .normal a w
  | _, _, _ => False
theorem wp_onlyN {n : Nat} {c : Code} {Q : Exit → Act → World → Prop} {a : Act} {w : World} (h : c.wpIn Fence.wide n Tryz.prog (onlyN Q) a w) : c.wpIn Fence.wide n Tryz.prog Q a w :=
  wpIn_mono h (fun e a w hq => by cases e <;> first | exact hq | exact hq.elim)
theorem results_int {fn : Func} {p : Tmp} (h : fn.results = #[.cell p 3]) (tmps : Array Value) (w : World) (g : Nat) (z : Int) (hp : tmps.getD p undef = .pointer (some ⟨g, 0, none⟩)) (hc : w.cell? ⟨g, 0, none⟩ = some (.int .i64 z)) : (results fn tmps).run Tryz.prog w = .ok (.int .i64 z) w := by
  have hp' : tmps[p]?.getD undef = .pointer (some ⟨g, 0, none⟩) := by simpa using hp
  have hl : (loadVar 3 ⟨g, 0, none⟩).run Tryz.prog w = .ok (.int .i64 z) w := by
    have h2 := Tryz.underlying3
    obtain ⟨i0, hi, hz0, hz1, hz2⟩ := info_parts infoInt
    go_simp
  simp [results, h, hp', asAddr, hl]
set_option maxRecDepth 100000 in
set_option maxHeartbeats 16000000 in
theorem lin_any {w : World} {cv dv : Value} {cs : List CalledD} {ds : List DropD} (h : HistAt w cv dv cs ds) (hn : cs.length + ds.length ≤ 1000000) (hE : HasErr w) (hP : HasPow w) : Calls Tryz.prog 28 #[.agg #[cv, dv]] w fun e w' => e = .returned (.int .i64 (linH cs ds)) ∧ Below w.heap.size w w' := by
  obtain ⟨ca, cc, rfl⟩ := h.calls.len
  obtain ⟨da, dc, rfl⟩ := h.drops.len
  have HH := Lib.hid h
  have HN := Lib.hid hn
  have HEP := Lib.hid (And.intro hE hP)
  clear h hn hE hP
  refine (callsIn_wide (n := 4)).1 ?_
  refine callsIn_of_wp_marks Tryz.func28 rfl trivial ?_ rfl
  simp only [Tryz.ntmps28, List.size_toArray, List.length_cons, List.length_nil, Nat.reduceAdd, Nat.reduceSub, Array.replicate_succ, Array.replicate_zero, List.push_toArray, List.append_toArray, List.nil_append, List.cons_append]
  obtain ⟨W0, hW0⟩ : ∃ X, X = (w.alloc (.cells #[.slice ca cs.length cc, .slice da ds.length dc] 64)).alloc (.cells #[.int .i64 0] 3) := ⟨_, rfl⟩
  have hb0 : Below w.heap.size w W0 := by rw [hW0]; exact below_two w _ _
  have hx0 : W0.heap[w.heap.size]? = some (.cells #[.slice ca cs.length cc, .slice da ds.length dc] 64 (0, 0)) := by rw [hW0]; exact (heap_two w _ _).1
  have hr0 : W0.heap[w.heap.size + 1]? = some (.cells #[.int .i64 0] 3 (0, 0)) := by rw [hW0]; exact (heap_two w _ _).2
  have k0 : W0.cell? ⟨w.heap.size, 0, none⟩ = some _ := (cells_at hx0 0).1
  have k1 : W0.cell? ⟨w.heap.size, 1, none⟩ = some _ := (cells_at hx0 1).1
  have HB0 := Lib.hid (And.intro hb0 (And.intro hx0 hr0))
  have HH0 := Lib.hid (HH.out.below hb0)
  clear hb0 hx0 hr0
  gi_wp2
  rw [← hW0]
  refine ⟨trivial, ?_⟩
  refine (callsIn_wide.2 (well_any HH0.out HN.out)).mono ?_
  rintro e W1 ⟨rfl, hb1⟩
  clear hW0
  obtain ⟨ph, hph⟩ : ∃ z, z = w.heap.size := ⟨_, rfl⟩
  rw [← hph] at k0 k1 HB0 ⊢
  have hs0 : ph + 1 < W0.heap.size := (Array.getElem?_eq_some_iff.1 HB0.out.2.2).1
  have hx1 : W1.heap[ph]? = some _ := (hb1.block ph (by omega)).trans HB0.out.2.1
  have hr1 : W1.heap[ph + 1]? = some _ := (hb1.block (ph + 1) hs0).trans HB0.out.2.2
  have g0 : W1.cell? ⟨ph, 0, none⟩ = some _ := (cells_at hx1 0).1
  have g1 : W1.cell? ⟨ph, 1, none⟩ = some _ := (cells_at hx1 1).1
  have r0 : W1.cell? ⟨ph + 1, 0, none⟩ = some _ := (cells_at hr1 0).1
  have r1 : W1.frozen? ⟨ph + 1, 0, none⟩ = false := (cells_at hr1 0).2
  have HP := Lib.hid hph
  have HB1 := Lib.hid (show Below w.heap.size w W1 from hph ▸ HB0.out.1.trans (hb1.mono (by have := HB0.out.1.size; omega)))
  have HX1 := Lib.hid (And.intro hx1 hr1)
  have HH1 := Lib.hid (HH0.out.below hb1)
  clear k0 k1 hb1 hx1 hr1 hph hs0
  obtain ⟨wb, hwb⟩ : ∃ b, b = wellH cs ds := ⟨_, rfl⟩
  rw [← hwb]
  have HW := Lib.hid hwb
  clear hwb
  cases wb
  · have hno : linH cs ds = -2 := by unfold linH; rw [← HW.out]; rfl
    have HNO := Lib.hid hno
    clear hno
    gi_wp2
    exact ⟨_, results_int (by exact Tryz.results28) _ _ (ph + 1) (-2) rfl (World.cell?_setCell_same _ _ _ r0), by rw [HNO.out], HB1.out.setCell (p := ⟨ph + 1, 0, none⟩) (by have := HP.out; show w.heap.size ≤ ph + 1; omega) _⟩
  · gi_wp2
    refine wp_onlyN (wpIn_wide.2 ?_)
    refine wp_region_held_drew (S := fun W => W.cell? ⟨ph, 0, none⟩ = some (.slice ca cs.length cc) ∧ W.cell? ⟨ph, 1, none⟩ = some (.slice da ds.length dc)) (by kernel_rfl) ⟨g0, g1⟩ (fun hHeld => ?_)
    refine tkq (i := 0) (v := ?_) rfl (by kernel_rfl) (fun _ _ _ h => h) (by rfl) ?_ (by assumption) ?_
    rotate_left 1
    · ((intro w hSw; (try dsimp only at hSw); obtain ⟨c0, c1⟩ := hSw; go_simp) <;> with_reducible rfl)
    try simp only [Act.put, tzA, tzB, tzC, tzD, tzE]
    refine wpAnyH_ready (rs := [1]) (by kernel_rfl) (by simp) ?_
    refine (AllReadyH.cons rfl (fun K hK => ?_) AllReadyH.nil)
    go_simp
    refine (mapsNew_own _).mono ?_
    rintro e W2 ⟨rfl, hlv⟩
    have hbl : Below W1.heap.size W1 W2 := (bdrew (Below.refl _ _)).trans hlv.bel
    refine hK.out _ _ ⟨(hbl.cell (p := ⟨ph, 0, none⟩) (cell_lt g0)).trans g0, (hbl.cell (p := ⟨ph, 1, none⟩) (cell_lt g1)).trans g1⟩ (fun hHeld2 => ?_)
    clear hK K
    try simp only [Act.put, tzA, tzB, tzC, tzD, tzE, tzF]
    refine wpAnyH_ready (rs := [2]) (by kernel_rfl) (by simp) ?_
    refine (AllReadyH.cons rfl (fun K hK => ?_) AllReadyH.nil)
    go_simp
    refine (through_any _ _ _ _ rfl rfl).mono ?_
    rintro e W3 ⟨rfl, hq0, hq1, hq2, hb3⟩
    refine hK.out _ _ ⟨((hbl.trans (hb3.mono hbl.size)).cell (p := ⟨ph, 0, none⟩) (cell_lt g0)).trans g0, ((hbl.trans (hb3.mono hbl.size)).cell (p := ⟨ph, 1, none⟩) (cell_lt g1)).trans g1⟩ (fun hHeld2 => ?_)
    clear hK K
    try simp only [Act.put, tzA, tzB, tzC, tzD, tzE, tzF]
    refine wpAnyH_done (by kernel_rfl) ?_ _
    clear hHeld hHeld2
    have hp1 : ph + 1 < W1.heap.size := (Array.getElem?_eq_some_iff.1 HX1.out.2).1
    obtain ⟨Wb, hWb⟩ : ∃ z, z = W1.drew := ⟨_, rfl⟩
    have hWs : Wb.heap.size = W1.heap.size := by rw [hWb]; rfl
    have HHb := Lib.hid (show HistAt Wb (.slice ca cs.length cc) (.slice da ds.length dc) cs ds from by rw [hWb]; exact HH1.out.below (bdrew (Below.refl _ _)))
    have HBb := Lib.hid (show Below w.heap.size w Wb from by rw [hWb]; exact bdrew HB1.out)
    rw [← hWb] at hlv
    obtain ⟨p, hp⟩ : ∃ z, z = W1.heap.size := ⟨_, rfl⟩
    obtain ⟨rb, hrb⟩ : ∃ z, z = W2.heap.size := ⟨_, rfl⟩
    rw [hWs, ← hp] at hlv
    rw [← hp, ← hrb]
    rw [← hrb] at hq0 hq1 hq2
    rw [← hp] at hq1 hq2
    have hpr : p < rb := by rw [hrb]; exact hlv.map.lt
    have hc3 := hbl.trans (hb3.mono hbl.size)
    have hq : QpAt Wb W3 p newM [(rb, #[.slice ca cs.length cc, .slice da ds.length dc], 64), (rb + 1, #[fitsF p], 50), (rb + 2, #[dropF p], 49), (ph + 1, #[.int .i64 0], 3)] := by
      refine ⟨hlv.below hb3, fun x hx => ?_⟩
      simp only [List.mem_cons, List.not_mem_nil, or_false] at hx
      rcases hx with rfl | rfl | rfl | rfl
      · exact ⟨by show rb ≠ p; omega, hq0⟩
      · exact ⟨by show rb + 1 ≠ p; omega, hq1⟩
      · exact ⟨by show rb + 2 ≠ p; omega, hq2⟩
      · exact ⟨by show ph + 1 ≠ p; omega, (hc3.block (ph + 1) hp1).trans HX1.out.2⟩
    have HQ := Lib.hid hq
    have HE := Lib.hid (show HasErr Wb ∧ HasPow Wb from ⟨HEP.out.1.below HBb.out, HEP.out.2.below HBb.out⟩)
    have HS := Lib.hid (show Wb.heap.size ≤ W3.heap.size ∧ ph + 1 < Wb.heap.size ∧ w.heap.size ≤ ph from ⟨by rw [hWs]; exact hc3.size, by rw [hWs]; exact hp1, by have := HP.out; omega⟩)
    clear hq hq0 hq1 hq2 hc3 hb3 hbl hlv hpr hrb hp hWs hWb hp1 g0 g1 r0 r1
    unfold onlyN
    gi_wp2
    obtain ⟨bs, hbs⟩ : ∃ bs : List (Nat × Array Value × TypeId), bs = [(rb, #[.slice ca cs.length cc, .slice da ds.length dc], 64), (rb + 1, #[fitsF p], 50), (rb + 2, #[dropF p], 49), (ph + 1, #[.int .i64 0], 3)] := ⟨_, rfl⟩
    rw [← hbs] at HQ
    have HM := Lib.hid (show (rb, #[.slice ca cs.length cc, .slice da ds.length dc], 64) ∈ bs ∧ (rb + 1, #[fitsF p], 50) ∈ bs ∧ (rb + 2, #[dropF p], 49) ∈ bs ∧ (ph + 1, #[.int .i64 0], 3) ∈ bs from by rw [hbs]; simp)
    clear hbs
    refine wpIn_rangeFunc_rec (σ := Nat × Bool × MapM × World) rfl (by omega) (gf := 58) (lb := #[.pointer (some ⟨rb, 0, none⟩), .pointer (some ⟨rb + 1, 0, none⟩), .pointer (some ⟨rb + 2, 0, none⟩)]) rfl trivial (enters_of Tryz.func58 (by kernel_rfl) rfl)
      (fun s => #[.int .i64 (s.1 : Int), .bool s.2.1]) (fun _ => rfl)
      (fun W => QpAt Wb W p newM bs)
      (fun W => ∃ mm, QpAt Wb W p mm bs ∧ ThEnd cs ds (fun b => b = true) mm)
      (fun s W => QpAt Wb W p s.2.2.1 bs ∧ Fact cs ds s.1 s.2.1 s.2.2.1 ∧ ChgR s.2.2.2 W)
      (fun s W => QpAt Wb W p s.2.2.1 bs ∧ s.2.1 = true ∧ ChgR s.2.2.2 W)
      (fun s c W => c = .ret ∧ LinStop w cs ds (ph + 1) s.1 W)
      ?tA ?tB ?tX ?tE ?st0 ?iter
      (fun s a' W => (QpAt Wb W p s.2.2.1 bs ∧ Fact cs ds s.1 s.2.1 s.2.2.1 ∧ ChgR s.2.2.2 W) ∧ a' = { tmps := #[.agg #[.slice ca cs.length cc, .slice da ds.length dc], .pointer (some ⟨ph, 0, none⟩), .pointer (some ⟨ph + 1, 0, none⟩), .int .i64 (s.1 : Int), .bool s.2.1, .agg #[.slice ca cs.length cc, .slice da ds.length dc], .bool true, .bool false, .agg #[.slice ca cs.length cc, .slice da ds.length dc], .pointer (some ⟨p, 0, none⟩), thrF rb, .int .i64 (s.1 : Int), .bool s.2.1, undef, undef, undef], defers := [] })
      ?tAx ?assign ?body ?done ?stopped
    case tA => exact fun s W l o o' hl hb ho _ ⟨h1, h2, h3⟩ => ⟨h1.turn (by have := HS.out; omega) hb ho, h2, chgR_turn h3 hb ho⟩
    case tB => exact fun s W l o o' hl hb ho _ ⟨h1, h2, h3⟩ => ⟨h1.turn (by have := HS.out; omega) hb ho, h2, chgR_turn h3 hb ho⟩
    case tX => exact fun s c W l o o' hl hb ho _ ⟨h1, h2, h3, h4⟩ => ⟨h1, h2, obj_turn hb ho h3 rfl, below_turn _ h4 (by have := HS.out; omega)⟩
    case tE => exact fun W l o o' hl hb ho _ ⟨mm, h1, h2⟩ => ⟨mm, h1.turn (by have := HS.out; omega) hb ho, h2⟩
    case st0 => exact fun o1 o2 => (HQ.out.below ((Below.refl _ _).alloc (Nat.le_refl _) o1)).below ((Below.refl _ _).alloc (Nat.le_refl _) o2)
    case iter =>
      rintro l KK Kd hKK hKd hYY W hW hKW
      refine (thr_in (rb := rb) (p := p) (bs := bs) (Okb := fun b => b = true) HHb.out HN.out HE.out.1 HE.out.2 HM.out.1 HM.out.2.1 HM.out.2.2.1 (4 - 1) l W3.heap.size KK Kd (fun j b mm c W => c = .ret ∧ LinStop w cs ds (ph + 1) j W) hKK ?_ W hW hKW).mono ?_
      · intro j b mm W hq hf hk
        refine (hYY (j, b, mm, W) W ⟨hq, hf, Chg.refl _ _⟩ hk).mono ?_
        rintro e W' (⟨h1, ⟨h2, h3, h4⟩, h5⟩ | ⟨h1, c, h2, h3⟩)
        · exact .inl ⟨h1, ⟨h2, h3, h4⟩, h5⟩
        · exact .inr ⟨h1, c, h2, h3⟩
      · rintro e W' ⟨h1, ⟨mm, h2, h3, h4⟩ | ⟨j, b, mm, c, h2, h3⟩⟩
        · exact ⟨h1, .inl ⟨⟨mm, h2, h3⟩, h4⟩⟩
        · exact ⟨h1, .inr ⟨(j, b, mm, W'), c, h2, h3⟩⟩
    case tAx => exact fun s a' W l o o' hl hb ho _ ⟨⟨h1, h2, h3⟩, h4⟩ => ⟨⟨h1.turn (by have := HS.out; omega) hb ho, h2, chgR_turn h3 hb ho⟩, h4⟩
    case assign =>
      rintro l ⟨j, b, mm, Wq⟩ W KK ⟨h1, h2, h3⟩ hK
      dsimp only at h1 h2 h3 hK
      have HF := Lib.hid (hK _ W (KeepsR.refl _ _) ⟨⟨h1, h2, h3⟩, rfl⟩)
      clear hK h1 h2 h3
      gi_wp2_with (rw [Oper.semAt_eq _ _ _ (fun c h => by cases h)]; go_simp; try go_bits)
      exact HF.out
    case body =>
      rintro l ⟨j, b, mm, Wq⟩ a' W ⟨⟨h1, h2, h3⟩, rfl⟩
      dsimp only at h1 h2 h3 ⊢
      have hrc := h1.kept _ HM.out.2.2.2
      have r0 : W.cell? ⟨ph + 1, 0, none⟩ = some _ := (cells_at hrc.2 0).1
      have r1 : W.frozen? ⟨ph + 1, 0, none⟩ = false := (cells_at hrc.2 0).2
      have HR := Lib.hid (And.intro h1 (And.intro h2 (And.intro h3 hrc)))
      clear h1 h2 h3 hrc
      cases b
      · gi_wp2_with (rw [Oper.semAt_eq _ _ _ (fun c h => by cases h)]; go_simp; try go_bits)
        refine ⟨⟨by simp, fun k o _ hk ho => ?_⟩, rfl, ?_, ?_, ?_⟩
        · exact (Below.heap_setCell _ _ _ _ (fun e => by subst e; rw [HR.out.2.2.2.2] at hk; obtain rfl := Option.some.inj hk; cases ho)).trans hk
        · rcases HR.out.2.1 with ⟨h5, -⟩ | ⟨-, h5⟩
          · cases h5
          · show (goE cs ds (orderL cs ds) 0 newM).1 = _; rw [h5]
        · exact one_setCell HR.out.2.2.2.2
        · exact (HBb.out.trans (HR.out.1.lv.bel.mono HBb.out.size)).setCell (p := ⟨ph + 1, 0, none⟩) (by have := HS.out; show w.heap.size ≤ ph + 1; omega) _
      · gi_wp2_with (rw [Oper.semAt_eq _ _ _ (fun c h => by cases h)]; go_simp; try go_bits)
        exact ⟨KeepsR.refl _ _, HR.out.1, HR.out.2.2.1⟩
    case done =>
      rintro D W hD ⟨mm, h1, h2⟩ hK
      have hrc := h1.kept _ HM.out.2.2.2
      have r0 : W.cell? ⟨ph + 1, 0, none⟩ = some _ := (cells_at hrc.2 0).1
      have r1 : W.frozen? ⟨ph + 1, 0, none⟩ = false := (cells_at hrc.2 0).2
      have hDp : D ≠ ph + 1 := by have := HS.out; omega
      have hlin : linH cs ds = -1 := by
        unfold linH
        rw [← HW.out, if_pos rfl]
        rcases h2.2 with h3 | h3
        · exact h3
        · cases h3
      have hbw := HBb.out.trans (h1.lv.bel.mono HBb.out.size)
      have HF := Lib.hid (And.intro hlin (And.intro hbw (And.intro hrc.2 hK)))
      clear h1 h2 hrc hlin hbw hK
      gi_wp2
      have hD2 : (W.setCell ⟨ph + 1, 0, none⟩ (.int .i64 (-1))).heap[D]? = some (.deferred (some [])) := (Below.heap_setCell _ _ _ _ hDp).trans HF.out.2.2.2
      refine ⟨by simp, .inl ⟨_, _, rfl, run_takeDeferred hD2, ?_⟩⟩
      exact ⟨_, results_int (by exact Tryz.results28) _ _ (ph + 1) (-1) rfl ((World.cell?_of_block (World.putObj_heap_other (Ne.symm hDp))).trans (World.cell?_setCell_same _ _ _ r0)), by rw [HF.out.1], below_turn _ (HF.out.2.1.setCell (p := ⟨ph + 1, 0, none⟩) (by have := HS.out; show w.heap.size ≤ ph + 1; omega) _) (by have := HS.out; omega)⟩
    case stopped =>
      rintro D ⟨j, b, mm, Wq⟩ c W hD ⟨rfl, h1, h2, h3⟩ hK
      dsimp only at h1 h2 ⊢
      have hDp : D ≠ ph + 1 := by have := HS.out; omega
      have hlin : linH cs ds = (j : Int) := by unfold linH; rw [← HW.out, if_pos rfl]; exact h1
      have HF := Lib.hid (And.intro hlin (And.intro h3 (And.intro h2 hK)))
      clear h1 h2 h3 hlin hK
      gi_wp2
      have hD2 := HF.out.2.2.2
      refine ⟨by simp, .inl ⟨_, _, rfl, run_takeDeferred hD2, ?_⟩⟩
      exact ⟨_, results_int (by exact Tryz.results28) _ _ (ph + 1) (j : Int) rfl ((World.cell?_of_block (World.putObj_heap_other (Ne.symm hDp))).trans (cells_at HF.out.2.2.1 0).1), by rw [HF.out.1], below_turn _ HF.out.2.1 (by have := HS.out; omega)⟩
/-- The map that End leaves: one of its own. -/
def EndOk (w : World) (cs : List CalledD) (ds : List DropD) (e : Ending) (w' : World) : Prop := ∃ p, e = .returned (.pointer (some ⟨p, 0, none⟩)) ∧ LvAt w w' p (endH cs ds) []
theorem lv_base {w w0 W : World} {p : Nat} {m : MapM} (h : LvAt w0 W p m []) (hb : Below w.heap.size w w0) : LvAt w W p m [] :=
  ⟨h.map, Nat.le_trans hb.size h.low, fun k hk => Nat.le_trans hb.size (h.new k hk), hb.trans (h.bel.mono hb.size), fun x hx => by cases hx⟩
set_option maxRecDepth 100000 in
set_option maxHeartbeats 16000000 in
theorem end_any {w : World} {cv dv : Value} {cs : List CalledD} {ds : List DropD} (h : HistAt w cv dv cs ds) (hn : cs.length + ds.length ≤ 1000000) (hE : HasErr w) (hP : HasPow w) : Calls Tryz.prog 30 #[.agg #[cv, dv]] w fun e w' => EndOk w cs ds e w' := by
  obtain ⟨ca, cc, rfl⟩ := h.calls.len
  obtain ⟨da, dc, rfl⟩ := h.drops.len
  have HH := Lib.hid h
  have HN := Lib.hid hn
  have HEP := Lib.hid (And.intro hE hP)
  clear h hn hE hP
  refine (callsIn_wide (n := 4)).1 ?_
  refine callsIn_of_wp_marks Tryz.func30 rfl trivial ?_ rfl
  simp only [Tryz.ntmps30, List.size_toArray, List.length_cons, List.length_nil, Nat.reduceAdd, Nat.reduceSub, Array.replicate_succ, Array.replicate_zero, List.push_toArray, List.append_toArray, List.nil_append, List.cons_append]
  obtain ⟨W0, hW0⟩ : ∃ X, X = w.alloc (.cells #[.slice ca cs.length cc, .slice da ds.length dc] 64) := ⟨_, rfl⟩
  have hb0 : Below w.heap.size w W0 := by rw [hW0]; exact (Below.refl _ _).alloc (Nat.le_refl _) _
  have hx0 : W0.heap[w.heap.size]? = some (.cells #[.slice ca cs.length cc, .slice da ds.length dc] 64 (0, 0)) := by rw [hW0, heap_at, if_pos rfl]
  have HB0 := Lib.hid hb0
  have HX0 := Lib.hid hx0
  have HH0 := Lib.hid (HH.out.below hb0)
  clear hb0 hx0
  gi_wp2
  rw [← hW0]
  refine ⟨trivial, ?_⟩
  refine (callsIn_wide.2 (mapsNew_own _)).mono ?_
  rintro e W1 ⟨rfl, hlv⟩
  clear hW0
  obtain ⟨ph, hph⟩ : ∃ z, z = w.heap.size := ⟨_, rfl⟩
  rw [← hph] at HX0 ⊢
  obtain ⟨p, hp⟩ : ∃ z, z = W0.heap.size := ⟨_, rfl⟩
  rw [← hp] at hlv ⊢
  have hs0 : ph < p := by rw [hp]; exact (Array.getElem?_eq_some_iff.1 HX0.out).1
  have hx1 : W1.heap[ph]? = some _ := (hlv.bel.block ph (by omega)).trans HX0.out
  have g0 : W1.cell? ⟨ph, 0, none⟩ = some _ := (cells_at hx1 0).1
  have g1 : W1.cell? ⟨ph, 1, none⟩ = some _ := (cells_at hx1 1).1
  have HP := Lib.hid (And.intro hp (And.intro hph hs0))
  have HX1 := Lib.hid hx1
  have HLV := Lib.hid hlv
  clear hlv hx1 hp hph hs0
  gi_wp2
  refine ⟨trivial, ?_⟩
  refine (callsIn_wide.2 (well_any (HH0.out.below HLV.out.bel) HN.out)).mono ?_
  rintro e W2 ⟨rfl, hb2⟩
  have hx2 : W2.heap[ph]? = some _ := (hb2.block ph (cell_lt g0)).trans HX1.out
  have k0 : W2.cell? ⟨ph, 0, none⟩ = some _ := (cells_at hx2 0).1
  have k1 : W2.cell? ⟨ph, 1, none⟩ = some _ := (cells_at hx2 1).1
  have HLV2 := Lib.hid (HLV.out.below hb2)
  obtain ⟨wb, hwb⟩ : ∃ b, b = wellH cs ds := ⟨_, rfl⟩
  rw [← hwb]
  have HW := Lib.hid hwb
  clear hwb hb2 hx2 g0 g1 HX1 HLV HX0
  cases wb
  · have hno : endH cs ds = newM := by unfold endH; rw [← HW.out]; rfl
    have HNO := Lib.hid hno
    clear hno
    gi_wp2
    exact ⟨_, results_tmp (by exact Tryz.results30) _ _ _, _, rfl, by rw [HNO.out]; exact lv_base HLV2.out HB0.out⟩
  · gi_wp2
    refine ⟨trivial, ?_⟩
    refine (callsIn_wide.2 (through_any _ _ _ _ rfl rfl)).mono ?_
    rintro e W3 ⟨rfl, hq0, hq1, hq2, hb3⟩
    obtain ⟨rb, hrb⟩ : ∃ z, z = W2.heap.size := ⟨_, rfl⟩
    rw [← hrb] at hq0 hq1 hq2 ⊢
    have hpr : p < rb := by rw [hrb]; exact HLV2.out.map.lt
    have hq : QpAt W0 W3 p newM [(rb, #[.slice ca cs.length cc, .slice da ds.length dc], 64), (rb + 1, #[fitsF p], 50), (rb + 2, #[dropF p], 49)] := by
      refine ⟨HLV2.out.below hb3, fun x hx => ?_⟩
      simp only [List.mem_cons, List.not_mem_nil, or_false] at hx
      rcases hx with rfl | rfl | rfl
      · exact ⟨by show rb ≠ p; omega, hq0⟩
      · exact ⟨by show rb + 1 ≠ p; omega, hq1⟩
      · exact ⟨by show rb + 2 ≠ p; omega, hq2⟩
    have HQ := Lib.hid hq
    have HE := Lib.hid (show HasErr W0 ∧ HasPow W0 from ⟨HEP.out.1.below HB0.out, HEP.out.2.below HB0.out⟩)
    have HS := Lib.hid (show W0.heap.size ≤ W3.heap.size from (HLV2.out.below hb3).bel.size)
    obtain ⟨bs, hbs⟩ : ∃ bs : List (Nat × Array Value × TypeId), bs = [(rb, #[.slice ca cs.length cc, .slice da ds.length dc], 64), (rb + 1, #[fitsF p], 50), (rb + 2, #[dropF p], 49)] := ⟨_, rfl⟩
    rw [← hbs] at HQ
    have HM := Lib.hid (show (rb, #[.slice ca cs.length cc, .slice da ds.length dc], 64) ∈ bs ∧ (rb + 1, #[fitsF p], 50) ∈ bs ∧ (rb + 2, #[dropF p], 49) ∈ bs from by rw [hbs]; simp)
    clear hq hq0 hq1 hq2 hb3 hpr hrb hbs k0 k1
    gi_wp2
    refine wpIn_rangeFunc_rec (σ := Nat × Bool × MapM × World) rfl (by omega) (gf := 58) (lb := #[.pointer (some ⟨rb, 0, none⟩), .pointer (some ⟨rb + 1, 0, none⟩), .pointer (some ⟨rb + 2, 0, none⟩)]) rfl trivial (enters_of Tryz.func58 (by kernel_rfl) rfl)
      (fun s => #[.int .i64 (s.1 : Int), .bool s.2.1]) (fun _ => rfl)
      (fun W => QpAt W0 W p newM bs)
      (fun W => ∃ mm, QpAt W0 W p mm bs ∧ ThEnd cs ds (fun _ => True) mm)
      (fun s W => QpAt W0 W p s.2.2.1 bs ∧ ChgR s.2.2.2 W)
      (fun s W => QpAt W0 W p s.2.2.1 bs ∧ ChgR s.2.2.2 W)
      (fun _ _ _ => False)
      ?tA ?tB (fun _ _ _ _ _ _ _ _ _ _ h => h) ?tE ?st0 ?iter
      (fun s a' W => QpAt W0 W p s.2.2.1 bs ∧ ChgR s.2.2.2 W)
      ?tAx ?assign ?body ?done (fun _ _ _ _ _ h => h.elim)
    case tA => exact fun s W l o o' hl hb ho _ ⟨h1, h3⟩ => ⟨h1.turn (by have := HS.out; omega) hb ho, chgR_turn h3 hb ho⟩
    case tB => exact fun s W l o o' hl hb ho _ ⟨h1, h3⟩ => ⟨h1.turn (by have := HS.out; omega) hb ho, chgR_turn h3 hb ho⟩
    case tE => exact fun W l o o' hl hb ho _ ⟨mm, h1, h2⟩ => ⟨mm, h1.turn (by have := HS.out; omega) hb ho, h2⟩
    case st0 => exact fun o1 o2 => (HQ.out.below ((Below.refl _ _).alloc (Nat.le_refl _) o1)).below ((Below.refl _ _).alloc (Nat.le_refl _) o2)
    case iter =>
      rintro l KK Kd hKK hKd hYY W hW hKW
      refine (thr_in (rb := rb) (p := p) (bs := bs) (Okb := fun _ => True) HH0.out HN.out HE.out.1 HE.out.2 HM.out.1 HM.out.2.1 HM.out.2.2 (4 - 1) l W3.heap.size KK Kd (fun _ _ _ _ _ => False) hKK ?_ W hW hKW).mono ?_
      · intro j b mm W hq hf hk
        refine (hYY (j, b, mm, W) W ⟨hq, Chg.refl _ _⟩ hk).mono ?_
        rintro e W' (⟨h1, ⟨h2, h4⟩, h5⟩ | ⟨h1, c, h2, h3⟩)
        · exact .inl ⟨h1, ⟨h2, trivial, h4⟩, h5⟩
        · exact h2.elim
      · rintro e W' ⟨h1, ⟨mm, h2, h3, h4⟩ | ⟨j, b, mm, c, h2, h3⟩⟩
        · exact ⟨h1, .inl ⟨⟨mm, h2, h3⟩, h4⟩⟩
        · exact h2.elim
    case tAx => exact fun s a' W l o o' hl hb ho _ ⟨h1, h3⟩ => ⟨h1.turn (by have := HS.out; omega) hb ho, chgR_turn h3 hb ho⟩
    case assign =>
      rintro l ⟨j, b, mm, Wq⟩ W KK ⟨h1, h3⟩ hK
      dsimp only at h1 h3 hK
      have HF := Lib.hid (fun a' => hK a' W (KeepsR.refl _ _) ⟨h1, h3⟩)
      clear hK h1 h3
      gi_wp2_with (rw [Oper.semAt_eq _ _ _ (fun c h => by cases h)]; go_simp; try go_bits)
      exact HF.out _
    case body =>
      rintro l ⟨j, b, mm, Wq⟩ a' W ⟨h1, h3⟩
      dsimp only at h1 h3 ⊢
      have HR := Lib.hid (And.intro h1 h3)
      clear h1 h3
      gi_wp2_with (rw [Oper.semAt_eq _ _ _ (fun c h => by cases h)]; go_simp; try go_bits)
      exact ⟨KeepsR.refl _ _, HR.out.1, HR.out.2⟩
    case done =>
      rintro D W hD ⟨mm, h1, h2⟩ hK
      have hend : endH cs ds = mm := by unfold endH; rw [← HW.out, if_pos rfl]; exact h2.1
      have HF := Lib.hid (And.intro hend (And.intro h1 hK))
      clear h1 h2 hend hK
      gi_wp2
      have hD2 := HF.out.2.2
      refine ⟨by simp, .inl ⟨_, _, rfl, run_takeDeferred hD2, ?_⟩⟩
      exact ⟨_, results_tmp (by exact Tryz.results30) _ _ _, _, rfl, by rw [HF.out.1]; exact lv_base (HF.out.2.1.turn (by have := HS.out; omega) hD2 rfl).lv HB0.out⟩
end Go.Proofs.YtaooangnnlopcaaGreatDoor
