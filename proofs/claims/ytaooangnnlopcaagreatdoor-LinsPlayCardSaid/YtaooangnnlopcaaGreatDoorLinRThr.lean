/- Through a history, as the document goes (nestboxref37.Through). Condition: the history lies in memory; a million calls and drops at most. -/
import Derived.Test.YtaooangnnlopcaaGreatDoorLinROrd
import Derived.Test.YtaooangnnlopcaaGreatDoorLiE
import Derived.Deep.MidRow
import Derived.Test.YtaooangnnlopcaaGreatDoorLowA
namespace Go.Proofs.YtaooangnnlopcaaGreatDoor
open Go.RowKit Go.ChangeMaps Go.MapKept
theorem build_mapT (W : World) : (Instr.build 31 #[]).run Tryz.prog W = .ok (.agg #[.slice none 0 0, .int .u64 0, .int .u64 0]) W := by kernel_rfl
/-- What Through answers. -/
def ThrOk (w : World) (cs : List CalledD) (ds : List DropD) (e : Ending) (w' : World) : Prop := ∃ r v, e = .returned (.tuple #[.int .i64 (linH cs ds), .pointer (some ⟨r, 0, none⟩)]) ∧ RMap w' r v (endH cs ds) ∧ w.heap.size ≤ r ∧ Below w.heap.size w w'
/-- The first k entries fitted; the map behind them. -/
structure ThrJ (cs : List CalledD) (ds : List DropD) (L : List EntD) (w2 : World) (pm : Nat) (k : Nat) (m : MapM) (W : World) : Prop where
  fits : (runE cs ds (L.take k) newM).1 = true
  is : m = (runE cs ds (L.take k) newM).2
  ok : MOk m k
  map : ∃ v, RMap W pm v m
  chg : Chg (fun j => j = pm) w2 W
theorem ThrJ.next {cs : List CalledD} {ds : List DropD} {L : List EntD} {w2 W W' : World} {pm k : Nat} {m : MapM} {e : EntD} (h : ThrJ cs ds L w2 pm k m W) (he : L[k]? = some e) (hs : (stepE cs ds m e).1 = true) (hok : MOk (stepE cs ds m e).2 (k + 1)) (hm : ∃ v, RMap W' pm v (stepE cs ds m e).2) (hc : Chg (fun j => j = pm) W W') : ThrJ cs ds L w2 pm (k + 1) (stepE cs ds m e).2 W' := by
  have h1 := runE_snoc (e := e) h.fits
  rw [← h.is, ← take_snoc he] at h1
  exact ⟨by rw [h1]; exact hs, by rw [h1], hok, hm, h.chg.trans hc⟩
set_option maxRecDepth 100000 in
set_option maxHeartbeats 16000000 in
theorem rthr_any {w : World} {cv dv : Value} {cs : List CalledD} {ds : List DropD} (h : HistAt w cv dv cs ds) (hn : cs.length + ds.length ≤ 1000000) : Calls Tryz.prog 25 #[.agg #[cv, dv]] w fun e w' => ThrOk w cs ds e w' := by
  obtain ⟨ca, cc, rfl⟩ := h.calls.len
  obtain ⟨da, dc, rfl⟩ := h.drops.len
  have HH := Lib.hid h
  have HN := Lib.hid hn
  clear h
  go_enter Tryz.func25, Tryz.ntmps25
  go_upto_region 1 with fail
  obtain ⟨W0, hW0⟩ : ∃ X, X = w.alloc (.cells #[.slice ca cs.length cc, .slice da ds.length dc] 72) := ⟨_, rfl⟩
  have hb0 : Below w.heap.size w W0 := by rw [hW0]; exact (Below.refl _ _).alloc (Nat.le_refl _) _
  have hx0 : W0.heap[w.heap.size]? = some (.cells #[.slice ca cs.length cc, .slice da ds.length dc] 72 (0, 0)) := by rw [hW0, heap_at, if_pos rfl]
  rw [← hW0]
  clear hW0
  obtain ⟨ph, hph⟩ : ∃ z, z = w.heap.size := ⟨_, rfl⟩
  rw [← hph] at hx0 ⊢
  have hph0 : ph < W0.heap.size := (Array.getElem?_eq_some_iff.1 hx0).1
  have HH0 := Lib.hid (HH.out.below hb0)
  have HB0 := Lib.hid hb0
  have HPH := Lib.hid hph
  have HX := Lib.hid hx0
  clear hb0 hx0 hph
  obtain ⟨W1, hW1⟩ : ∃ X, X = W0.alloc (.cells #[.slice none 0 0, .int .u64 0, .int .u64 0] 31) := ⟨_, rfl⟩
  have hb1 : Below W0.heap.size W0 W1 := by rw [hW1]; exact (Below.refl _ _).alloc (Nat.le_refl _) _
  have hx1 : W1.heap[W0.heap.size]? = some (.cells #[.slice none 0 0, .int .u64 0, .int .u64 0] 31 (0, 0)) := by rw [hW1, heap_at, if_pos rfl]
  have hbm := build_mapT
  go_upto_region 2 with fail
  rw [← hW1]
  clear hW1 hbm
  obtain ⟨pm, hpm⟩ : ∃ z, z = W0.heap.size := ⟨_, rfl⟩
  rw [← hpm] at hx1 ⊢
  have k0 : W1.cell? ⟨ph, 0, none⟩ = some (.slice ca cs.length cc) := (hb1.cell (p := ⟨ph, 0, none⟩) hph0).trans (cells_at HX.out 0).1
  have k1 : W1.cell? ⟨ph, 1, none⟩ = some (.slice da ds.length dc) := (hb1.cell (p := ⟨ph, 1, none⟩) hph0).trans (cells_at HX.out 1).1
  have HPM := Lib.hid (And.intro hpm (show w.heap.size ≤ pm by rw [hpm]; exact HB0.out.size))
  have HB1 := Lib.hid hb1
  have HM1 := Lib.hid (show RMap W1 pm (.slice none 0 0) newM from ⟨hx1, IRow.nil _⟩)
  have HW1 := Lib.hid (rwell_any (HH0.out.below hb1) HN.out)
  have hpl1 : pm < W1.heap.size := (Array.getElem?_eq_some_iff.1 hx1).1
  have hphl1 : ph < W1.heap.size := Nat.lt_of_lt_of_le hph0 hb1.size
  clear hb1 hx1 hpm
  obtain ⟨wl, hwl⟩ : ∃ z, z = wellH cs ds := ⟨_, rfl⟩
  rw [← hwl] at HW1
  have HWL := Lib.hid hwl
  clear hwl
  go_upto_region 3 with fail
  refine HW1.out.mono ?_
  rintro e w2 ⟨rfl, hb2⟩
  have g0 : w2.cell? ⟨ph, 0, none⟩ = some (.slice ca cs.length cc) := (hb2.cell (p := ⟨ph, 0, none⟩) hphl1).trans k0
  have g1 : w2.cell? ⟨ph, 1, none⟩ = some (.slice da ds.length dc) := (hb2.cell (p := ⟨ph, 1, none⟩) hphl1).trans k1
  have HM2 := Lib.hid (HM1.out.below hb2)
  have hpl2 : pm < w2.heap.size := Nat.lt_of_lt_of_le hpl1 hb2.size
  have HB2 := Lib.hid (HB1.out.trans (hb2.mono HB1.out.size))
  clear hb2 k0 k1 HB1 HM1 HW1
  cases wl
  · have HR := Lib.hid (show linH cs ds = -2 ∧ endH cs ds = newM from by unfold linH endH; rw [← HWL.out]; exact ⟨rfl, rfl⟩)
    go_wp2_with fail
    go_ret2
    exact ⟨pm, .slice none 0 0, by rw [HR.out.1]; rfl, by rw [HR.out.2]; exact HM2.out, HPM.out.2, HB0.out.trans (HB2.out.mono HB0.out.size)⟩
  · have HO := Lib.hid (rorder_any (HH0.out.below HB2.out) HN.out)
    go_upto_region 5 with fail
    refine HO.out.mono ?_
    rintro e w3 ⟨v, rfl, hrow, hfr, hb3⟩
    obtain ⟨L, hL⟩ : ∃ L, L = orderL cs ds := ⟨_, rfl⟩
    rw [← hL] at hrow
    have hLl : L.length ≤ 1000000 := by rw [hL, orderL_len]; exact HN.out
    obtain ⟨oa, oc, rfl⟩ := hrow.len
    have HRW := Lib.hid (And.intro hrow (show ∀ k, (Value.slice oa L.length oc).ownBlock = some k → k ≠ pm from fun k hk e2 => by have := hfr k hk; omega))
    have HM3 := Lib.hid (HM2.out.below hb3)
    have HB3 := Lib.hid (HB2.out.trans (hb3.mono HB2.out.size))
    have hpl3 : pm < w3.heap.size := Nat.lt_of_lt_of_le hpl2 hb3.size
    have HL := Lib.hid hL
    have hall : ∀ W m, ThrJ cs ds L w3 pm L.length m W → ThrOk w cs ds (.returned (.tuple #[.int .i64 (-1), .pointer (some ⟨pm, 0, none⟩)])) W := fun W m hj => by
      have h1 := hj.fits
      have h2 := hj.is
      rw [List.take_length] at h1 h2
      have h3 := goE_all (i := 0) h1
      obtain ⟨v, hv⟩ := hj.map
      have hbb : Below W0.heap.size w3 W := hj.chg.below (fun k hk => ⟨Nat.lt_of_lt_of_le hk HB3.out.size, fun e2 => by have := HPM.out.1; omega⟩)
      refine ⟨pm, v, ?_, ?_, HPM.out.2, HB0.out.trans ((HB3.out.trans hbb).mono HB0.out.size)⟩
      · unfold linH; rw [← HWL.out, ← HL.out, h3]; rfl
      · unfold endH; rw [← HWL.out, ← HL.out, h3, ← h2]; exact hv
    have hstop : ∀ wj W k m x, ThrJ cs ds L w3 pm k m wj → L[k]? = some x → (stepE cs ds m x).1 = false → (∃ v, RMap W pm v (stepE cs ds m x).2) → Below W0.heap.size w3 W → ThrOk w cs ds (.returned (.tuple #[.int .i64 (k : Int), .pointer (some ⟨pm, 0, none⟩)])) W := fun wj W k m x hj hx hs hm hbb => by
      have h1 := hj.fits
      have h2 := hj.is
      rw [h2] at hs hm
      have h3 := goE_stop (i := 0) h1 hx hs
      obtain ⟨v, hv⟩ := hm
      refine ⟨pm, v, ?_, ?_, HPM.out.2, HB0.out.trans ((HB3.out.trans hbb).mono HB0.out.size)⟩
      · unfold linH; rw [← HWL.out, ← HL.out, h3]; simp
      · unfold endH; rw [← HWL.out, ← HL.out, h3]; exact hv
    have HALL := Lib.hid hall
    have HSTOP := Lib.hid hstop
    clear hall hstop hrow hfr hb3 HB2 HM2 hL HO g0 g1
    go_upto_region 6 with fail
    go_loopw [6] (fun s6 wr => ∃ (k : Nat) (m : MapM), s6 = .int .i64 (k : Int) ∧ k ≤ L.length ∧ Hid (ThrJ cs ds L w3 pm k m wr)) (fun s6 _ => L.length - (intOf s6).toNat)
    case atStart => exact ⟨0, newM, rfl, Nat.zero_le _, Lib.hid ⟨rfl, rfl, MOk.new, ⟨_, HM3.out⟩, Chg.refl _ _⟩⟩
    case round =>
      clear HM3
      obtain ⟨k, m, rfl, hkl, HJ⟩ := hrel
      have HBX := Lib.hid (show Below W0.heap.size W0 wr from HB3.out.trans (HJ.out.chg.below (fun k hk => ⟨Nat.lt_of_lt_of_le hk HB3.out.size, fun e2 => by have := HPM.out.1; omega⟩)))
      have k0 : wr.cell? ⟨ph, 0, none⟩ = some (.slice ca cs.length cc) := (HBX.out.cell (p := ⟨ph, 0, none⟩) hph0).trans (cells_at HX.out 0).1
      have k1 : wr.cell? ⟨ph, 1, none⟩ = some (.slice da ds.length dc) := (HBX.out.cell (p := ⟨ph, 1, none⟩) hph0).trans (cells_at HX.out 1).1
      have hphr : ph < wr.heap.size := Nat.lt_of_lt_of_le hph0 HBX.out.size
      have hphn : ph ≠ pm := by have := HPM.out.1; omega
      by_cases hlt : k < L.length
      · obtain ⟨x, hx⟩ : ∃ x, L[k]? = some x := ⟨_, List.getElem?_eq_getElem hlt⟩
        obtain ⟨a0, c0, hv, h1, h2, h3, h4⟩ := HRW.out.1.kept HJ.out.chg (fun g hg => HRW.out.2 g hg)
        obtain ⟨ge, oe, ha, hgr, hr⟩ := h4 k x hx
        obtain ⟨he, -, -⟩ := slice_inj hv
        have hoa : oa = some ⟨ge, oe, none⟩ := he.trans ha
        subst hoa
        have hgen : ge ≠ pm := HRW.out.2 ge rfl
        have ixe : ∀ W : World, (Instr.indexAt 96 (.slice (some ⟨ge, oe, none⟩) L.length oc) (.int .i64 (k : Int))).run Tryz.prog W = .ok (.pointer (some ⟨ge, oe + k * 3, none⟩)) W := fun W => idx_rent2 rfl hlt W
        obtain ⟨be, hbe⟩ : ∃ b, b = oe + k * 3 := ⟨_, rfl⟩
        rw [← hbe] at ixe hr
        have e1 : wr.cell? ⟨ge, be + 1, none⟩ = some (.int .i64 x.call) := hr 1 _ rfl
        have e2 : wr.cell? ⟨ge, be + 2, none⟩ = some (.int .i64 x.drop) := hr 2 _ rfl
        have HXK := Lib.hid hx
        have hk6 : k ≤ 1000000 := by omega
        have hmem : x ∈ orderL cs ds := by rw [← HL.out]; exact List.mem_of_getElem? hx
        clear hbe hx hv hr h1 h2 h3 h4 ha he
        obtain ⟨vm, hvm⟩ := HJ.out.map
        have HVM := Lib.hid (show RMap wr.drew pm vm m from hvm.below (Below.refl _ _).drew)
        have hok := HJ.out.ok
        have HOK := Lib.hid hok
        have HDC := Lib.hid (show Chg (fun j => j = pm) wr wr.drew from chg_no (Chg.refl _ wr).drew)
        rcases orderL_mem hmem with ⟨a, y, hay, rfl⟩ | ⟨a, d, had, rfl⟩
        · have hst := stepE_call (cs := cs) (ds := ds) (m := m) (p := y.point) hay
          have hal := (List.getElem?_eq_some_iff.1 hay).1
          obtain ⟨g, o, c', hv, hg, hr⟩ := HH0.out.calls.get hay
          obtain ⟨rfl, -, rfl⟩ := slice_inj hv
          have hrr := hr wr HBX.out
          have hgn : g ≠ pm := by have := HPM.out.1; omega
          have hgr2 : g < wr.heap.size := Nat.lt_of_lt_of_le hg HBX.out.size
          have ixa : ∀ W : World, (Instr.indexAt 69 (.slice (some ⟨g, o, none⟩) cs.length cc) (.int .i64 (a : Int))).run Tryz.prog W = .ok (.pointer (some ⟨g, o + a * 20, none⟩)) W := fun W => idx_rcalled rfl hal W
          obtain ⟨b, hb⟩ : ∃ b, b = o + a * 20 := ⟨_, rfl⟩
          rw [← hb] at ixa hrr
          have hIs := HH.out.callsIs y (List.mem_of_getElem? hay)
          have HFT := Lib.hid (rFits_any (x := y) HVM.out (by have := hok.len; omega) hok.ep hIs.epoch hIs.key hIs.exp hIs.by' (by have := hok.ids; omega) hok.val)
          have HOK2 := Lib.hid (hok.fits hIs.value hIs.epoch y.ans)
          have HRB := Lib.hid hrr
          obtain ⟨rr, hrr2⟩ : ∃ r, r = fitsM m y.call y.epoch y.ans := ⟨_, rfl⟩
          rw [← hrr2] at HFT HOK2 hst
          have HST := Lib.hid hst
          have ha6 : a ≤ 1000000 := by have := HN.out; omega
          have t0 : decide ((0 : Int) ≤ (a : Int)) = true := by simp
          obtain ⟨bb, m2⟩ := rr
          clear hb hv hr hrr hst hIs hok hvm hmem hay hrr2 e2 k1 hg
          cases bb
          · go_upto_region 8 with fail
            refine wp_region_held_drew (S := fun W => W.cell? ⟨ge, be + 1, none⟩ = some (.int .i64 (a : Int)) ∧ W.cell? ⟨ph, 0, none⟩ = some (.slice (some ⟨g, o, none⟩) cs.length cc) ∧ W.rangeAt g b y.list) (by kernel_rfl) ⟨e1, k0, HRB.out⟩ (fun hHeld => ?_)
            refine tkq (i := 0) (v := ?_) rfl (by kernel_rfl) (fun _ _ _ h => h) (by rfl) ?_ (by assumption) ?_
            rotate_left 1
            · ((intro w hSw; (try dsimp only at hSw); go_simp) <;> with_reducible rfl)
            try simp only [Act.put, tzA, tzB, tzC, tzD, tzE]
            refine tkq (i := 1) (v := ?_) rfl (by kernel_rfl) (fun _ _ _ h => h) (by rfl) ?_ (by assumption) ?_
            rotate_left 1
            · ((intro w hSw; (try dsimp only at hSw); go_simp) <;> with_reducible rfl)
            try simp only [Act.put, tzA, tzB, tzC, tzD, tzE, tzF]
            refine tkq (i := 2) (v := ?_) rfl (by kernel_rfl) (fun _ _ _ h => h) (by rfl) ?_ (by assumption) ?_
            rotate_left 1
            · ((intro w hSw; (try dsimp only at hSw); go_simp) <;> with_reducible rfl)
            try simp only [Act.put, tzA, tzB, tzC, tzD, tzE, tzF]
            refine tkq (i := 3) (v := ?_) rfl (by kernel_rfl) (fun _ _ _ h => h) (by rfl) ?_ (by assumption) ?_
            rotate_left 1
            · ((intro w hSw; (try dsimp only at hSw); go_simp) <;> with_reducible rfl)
            try simp only [Act.put, tzA, tzB, tzC, tzD, tzE, tzF]
            refine tkq (i := 4) (v := ?_) rfl (by kernel_rfl) (fun _ _ _ h => h) (by rfl) ?_ (by assumption) ?_
            rotate_left 1
            · ((intro w hSw; (try dsimp only at hSw); obtain ⟨c0, c1, -⟩ := hSw; go_simp) <;> with_reducible rfl)
            try simp only [Act.put, tzA, tzB, tzC, tzD, tzE, tzF]
            refine tkq (i := 5) (v := ?_) rfl (by kernel_rfl) (fun _ _ _ h => h) (by rfl) ?_ (by assumption) ?_
            rotate_left 1
            · ((intro w hSw; (try dsimp only at hSw); go_simp) <;> with_reducible rfl)
            try simp only [Act.put, tzA, tzB, tzC, tzD, tzE, tzF]
            refine tkq (i := 6) (v := ?_) rfl (by kernel_rfl) (fun _ _ _ h => h) (by rfl) ?_ (by assumption) ?_
            rotate_left 1
            · ((intro w hSw; (try dsimp only at hSw); go_simp) <;> with_reducible rfl)
            try simp only [Act.put, tzA, tzB, tzC, tzD, tzE, tzF]
            refine tkq (i := 7) (v := ?_) rfl (by kernel_rfl) (fun _ _ _ h => h) (by rfl) ?_ (by assumption) ?_
            rotate_left 1
            · ((intro w hSw; (try dsimp only at hSw); go_simp) <;> with_reducible rfl)
            try simp only [Act.put, tzA, tzB, tzC, tzD, tzE, tzF]
            refine tkq (i := 8) (v := ?_) rfl (by kernel_rfl) (fun _ _ _ h => h) (by rfl) ?_ (by assumption) ?_
            rotate_left 1
            · ((intro w hSw; (try dsimp only at hSw); go_simp) <;> with_reducible rfl)
            try simp only [Act.put, tzA, tzB, tzC, tzD, tzE, tzF]
            refine tkq (i := 9) (v := ?_) rfl (by kernel_rfl) (fun _ _ _ h => h) (by rfl) ?_ (by assumption) ?_
            rotate_left 1
            · ((intro w hSw; (try dsimp only at hSw); obtain ⟨c0, c1, -⟩ := hSw; go_simp) <;> with_reducible rfl)
            try simp only [Act.put, tzA, tzB, tzC, tzD, tzE, tzF]
            refine tkq (i := 10) (v := ?_) rfl (by kernel_rfl) (fun _ _ _ h => h) (by rfl) ?_ (by assumption) ?_
            rotate_left 1
            · ((intro w hSw; (try dsimp only at hSw); go_simp) <;> with_reducible rfl)
            try simp only [Act.put, tzA, tzB, tzC, tzD, tzE, tzF]
            refine tkq (i := 11) (v := ?_) rfl (by kernel_rfl) (fun _ _ _ h => h) (by rfl) ?_ (by assumption) ?_
            rotate_left 1
            · ((intro w hSw; (try dsimp only at hSw); go_simp) <;> with_reducible rfl)
            try simp only [Act.put, tzA, tzB, tzC, tzD, tzE, tzF]
            refine tkq (i := 12) (v := ?_) rfl (by kernel_rfl) (fun _ _ _ h => h) (by rfl) ?_ (by assumption) ?_
            rotate_left 1
            · ((intro w hSw; (try dsimp only at hSw); go_simp) <;> with_reducible rfl)
            try simp only [Act.put, tzA, tzB, tzC, tzD, tzE, tzF]
            refine tkq (i := 13) (v := ?_) rfl (by kernel_rfl) (fun _ _ _ h => h) (by rfl) ?_ (by assumption) ?_
            rotate_left 1
            · ((intro w hSw; (try dsimp only at hSw); go_simp) <;> with_reducible rfl)
            try simp only [Act.put, tzA, tzB, tzC, tzD, tzE, tzF]
            refine tkq (i := 14) (v := ?_) rfl (by kernel_rfl) (fun _ _ _ h => h) (by rfl) ?_ (by assumption) ?_
            rotate_left 1
            · ((intro w hSw; (try dsimp only at hSw); obtain ⟨c0, c1, -⟩ := hSw; go_simp) <;> with_reducible rfl)
            try simp only [Act.put, tzA, tzB, tzC, tzD, tzE, tzF]
            refine tkq (i := 15) (v := ?_) rfl (by kernel_rfl) (fun _ _ _ h => h) (by rfl) ?_ (by assumption) ?_
            rotate_left 1
            · ((intro w hSw; (try dsimp only at hSw); go_simp) <;> with_reducible rfl)
            try simp only [Act.put, tzA, tzB, tzC, tzD, tzE, tzF]
            refine wpAnyH_take (i := 16) rfl (by kernel_rfl) (by kernel_rfl) (by kernel_rfl) (fun _ _ _ h => h) (yieldsIf_load_mid (by rfl) 52 (.tmp 36) (by rfl) g b (by rfl) y.list _ (fun w hSw => hSw.2.2) Tryz.underlying52 rfl (by kernel_rfl)) (by assumption) ?_
            try simp only [Act.put, tzA, tzB, tzC, tzD, tzE, tzF]
            refine wpAnyH_ready (rs := [17]) (by kernel_rfl) (by simp) ?_
            refine (AllReadyH.cons rfl (fun K hK => ?_) AllReadyH.nil)
            rw [if_pos (by rfl)]
            go_simp
            go_at_call 15
            refine HFT.out.mono ?_
            rintro e9 W9 ⟨rfl, hm9, hc9⟩
            have HQ9 := Lib.hid (And.intro hm9 hc9)
            have HS9 := Lib.hid (show W9.cell? ⟨ge, be + 1, none⟩ = some (.int .i64 (a : Int)) ∧ W9.cell? ⟨ph, 0, none⟩ = some (.slice (some ⟨g, o, none⟩) cs.length cc) ∧ W9.rangeAt g b y.list from ⟨(World.cell?_of_block (hc9.block ge hgr hgen)).trans e1, (World.cell?_of_block (hc9.block ph hphr hphn)).trans k0, range_kept hc9 hgr2 hgn HRB.out⟩)
            refine hK.out _ _ HS9.out (fun hHeld2 => ?_)
            clear hK K hm9 hc9
            refine tkq (i := 18) (v := ?_) rfl (by kernel_rfl) (fun _ _ _ h => h) (by rfl) ?_ (by assumption) ?_
            rotate_left 1
            · ((intro w hSw; (try dsimp only at hSw); go_simp) <;> with_reducible rfl)
            try simp only [Act.put, tzA, tzB, tzC, tzD, tzE, tzF]
            refine tkq (i := 19) (v := ?_) rfl (by kernel_rfl) (fun _ _ _ h => h) (by rfl) ?_ (by assumption) ?_
            rotate_left 1
            · ((intro w hSw; (try dsimp only at hSw); go_simp) <;> with_reducible rfl)
            try simp only [Act.put, tzA, tzB, tzC, tzD, tzE, tzF]
            refine wpAnyH_done (by kernel_rfl) ?_ _
            clear hHeld hHeld2
            have HF9 := Lib.hid (HSTOP.out wr W9 k m _ HJ.out HXK.out (by rw [HST.out]) (by rw [HST.out]; exact HQ9.out.1) ((HJ.out.chg.trans (HDC.out.trans HQ9.out.2)).below (fun k hk => ⟨Nat.lt_of_lt_of_le hk HB3.out.size, fun e2 => by have := HPM.out.1; omega⟩)))
            clear HQ9
            go_wp2_with fail
            go_ret2
            exact HF9.out
          · go_upto_region 8 with fail
            refine wp_region_held_drew (S := fun W => W.cell? ⟨ge, be + 1, none⟩ = some (.int .i64 (a : Int)) ∧ W.cell? ⟨ph, 0, none⟩ = some (.slice (some ⟨g, o, none⟩) cs.length cc) ∧ W.rangeAt g b y.list) (by kernel_rfl) ⟨e1, k0, HRB.out⟩ (fun hHeld => ?_)
            refine tkq (i := 0) (v := ?_) rfl (by kernel_rfl) (fun _ _ _ h => h) (by rfl) ?_ (by assumption) ?_
            rotate_left 1
            · ((intro w hSw; (try dsimp only at hSw); go_simp) <;> with_reducible rfl)
            try simp only [Act.put, tzA, tzB, tzC, tzD, tzE]
            refine tkq (i := 1) (v := ?_) rfl (by kernel_rfl) (fun _ _ _ h => h) (by rfl) ?_ (by assumption) ?_
            rotate_left 1
            · ((intro w hSw; (try dsimp only at hSw); go_simp) <;> with_reducible rfl)
            try simp only [Act.put, tzA, tzB, tzC, tzD, tzE, tzF]
            refine tkq (i := 2) (v := ?_) rfl (by kernel_rfl) (fun _ _ _ h => h) (by rfl) ?_ (by assumption) ?_
            rotate_left 1
            · ((intro w hSw; (try dsimp only at hSw); go_simp) <;> with_reducible rfl)
            try simp only [Act.put, tzA, tzB, tzC, tzD, tzE, tzF]
            refine tkq (i := 3) (v := ?_) rfl (by kernel_rfl) (fun _ _ _ h => h) (by rfl) ?_ (by assumption) ?_
            rotate_left 1
            · ((intro w hSw; (try dsimp only at hSw); go_simp) <;> with_reducible rfl)
            try simp only [Act.put, tzA, tzB, tzC, tzD, tzE, tzF]
            refine tkq (i := 4) (v := ?_) rfl (by kernel_rfl) (fun _ _ _ h => h) (by rfl) ?_ (by assumption) ?_
            rotate_left 1
            · ((intro w hSw; (try dsimp only at hSw); obtain ⟨c0, c1, -⟩ := hSw; go_simp) <;> with_reducible rfl)
            try simp only [Act.put, tzA, tzB, tzC, tzD, tzE, tzF]
            refine tkq (i := 5) (v := ?_) rfl (by kernel_rfl) (fun _ _ _ h => h) (by rfl) ?_ (by assumption) ?_
            rotate_left 1
            · ((intro w hSw; (try dsimp only at hSw); go_simp) <;> with_reducible rfl)
            try simp only [Act.put, tzA, tzB, tzC, tzD, tzE, tzF]
            refine tkq (i := 6) (v := ?_) rfl (by kernel_rfl) (fun _ _ _ h => h) (by rfl) ?_ (by assumption) ?_
            rotate_left 1
            · ((intro w hSw; (try dsimp only at hSw); go_simp) <;> with_reducible rfl)
            try simp only [Act.put, tzA, tzB, tzC, tzD, tzE, tzF]
            refine tkq (i := 7) (v := ?_) rfl (by kernel_rfl) (fun _ _ _ h => h) (by rfl) ?_ (by assumption) ?_
            rotate_left 1
            · ((intro w hSw; (try dsimp only at hSw); go_simp) <;> with_reducible rfl)
            try simp only [Act.put, tzA, tzB, tzC, tzD, tzE, tzF]
            refine tkq (i := 8) (v := ?_) rfl (by kernel_rfl) (fun _ _ _ h => h) (by rfl) ?_ (by assumption) ?_
            rotate_left 1
            · ((intro w hSw; (try dsimp only at hSw); go_simp) <;> with_reducible rfl)
            try simp only [Act.put, tzA, tzB, tzC, tzD, tzE, tzF]
            refine tkq (i := 9) (v := ?_) rfl (by kernel_rfl) (fun _ _ _ h => h) (by rfl) ?_ (by assumption) ?_
            rotate_left 1
            · ((intro w hSw; (try dsimp only at hSw); obtain ⟨c0, c1, -⟩ := hSw; go_simp) <;> with_reducible rfl)
            try simp only [Act.put, tzA, tzB, tzC, tzD, tzE, tzF]
            refine tkq (i := 10) (v := ?_) rfl (by kernel_rfl) (fun _ _ _ h => h) (by rfl) ?_ (by assumption) ?_
            rotate_left 1
            · ((intro w hSw; (try dsimp only at hSw); go_simp) <;> with_reducible rfl)
            try simp only [Act.put, tzA, tzB, tzC, tzD, tzE, tzF]
            refine tkq (i := 11) (v := ?_) rfl (by kernel_rfl) (fun _ _ _ h => h) (by rfl) ?_ (by assumption) ?_
            rotate_left 1
            · ((intro w hSw; (try dsimp only at hSw); go_simp) <;> with_reducible rfl)
            try simp only [Act.put, tzA, tzB, tzC, tzD, tzE, tzF]
            refine tkq (i := 12) (v := ?_) rfl (by kernel_rfl) (fun _ _ _ h => h) (by rfl) ?_ (by assumption) ?_
            rotate_left 1
            · ((intro w hSw; (try dsimp only at hSw); go_simp) <;> with_reducible rfl)
            try simp only [Act.put, tzA, tzB, tzC, tzD, tzE, tzF]
            refine tkq (i := 13) (v := ?_) rfl (by kernel_rfl) (fun _ _ _ h => h) (by rfl) ?_ (by assumption) ?_
            rotate_left 1
            · ((intro w hSw; (try dsimp only at hSw); go_simp) <;> with_reducible rfl)
            try simp only [Act.put, tzA, tzB, tzC, tzD, tzE, tzF]
            refine tkq (i := 14) (v := ?_) rfl (by kernel_rfl) (fun _ _ _ h => h) (by rfl) ?_ (by assumption) ?_
            rotate_left 1
            · ((intro w hSw; (try dsimp only at hSw); obtain ⟨c0, c1, -⟩ := hSw; go_simp) <;> with_reducible rfl)
            try simp only [Act.put, tzA, tzB, tzC, tzD, tzE, tzF]
            refine tkq (i := 15) (v := ?_) rfl (by kernel_rfl) (fun _ _ _ h => h) (by rfl) ?_ (by assumption) ?_
            rotate_left 1
            · ((intro w hSw; (try dsimp only at hSw); go_simp) <;> with_reducible rfl)
            try simp only [Act.put, tzA, tzB, tzC, tzD, tzE, tzF]
            refine wpAnyH_take (i := 16) rfl (by kernel_rfl) (by kernel_rfl) (by kernel_rfl) (fun _ _ _ h => h) (yieldsIf_load_mid (by rfl) 52 (.tmp 36) (by rfl) g b (by rfl) y.list _ (fun w hSw => hSw.2.2) Tryz.underlying52 rfl (by kernel_rfl)) (by assumption) ?_
            try simp only [Act.put, tzA, tzB, tzC, tzD, tzE, tzF]
            refine wpAnyH_ready (rs := [17]) (by kernel_rfl) (by simp) ?_
            refine (AllReadyH.cons rfl (fun K hK => ?_) AllReadyH.nil)
            rw [if_pos (by rfl)]
            go_simp
            go_at_call 15
            refine HFT.out.mono ?_
            rintro e9 W9 ⟨rfl, hm9, hc9⟩
            have HQ9 := Lib.hid (And.intro hm9 hc9)
            have HS9 := Lib.hid (show W9.cell? ⟨ge, be + 1, none⟩ = some (.int .i64 (a : Int)) ∧ W9.cell? ⟨ph, 0, none⟩ = some (.slice (some ⟨g, o, none⟩) cs.length cc) ∧ W9.rangeAt g b y.list from ⟨(World.cell?_of_block (hc9.block ge hgr hgen)).trans e1, (World.cell?_of_block (hc9.block ph hphr hphn)).trans k0, range_kept hc9 hgr2 hgn HRB.out⟩)
            refine hK.out _ _ HS9.out (fun hHeld2 => ?_)
            clear hK K hm9 hc9
            refine tkq (i := 18) (v := ?_) rfl (by kernel_rfl) (fun _ _ _ h => h) (by rfl) ?_ (by assumption) ?_
            rotate_left 1
            · ((intro w hSw; (try dsimp only at hSw); go_simp) <;> with_reducible rfl)
            try simp only [Act.put, tzA, tzB, tzC, tzD, tzE, tzF]
            refine tkq (i := 19) (v := ?_) rfl (by kernel_rfl) (fun _ _ _ h => h) (by rfl) ?_ (by assumption) ?_
            rotate_left 1
            · ((intro w hSw; (try dsimp only at hSw); go_simp) <;> with_reducible rfl)
            try simp only [Act.put, tzA, tzB, tzC, tzD, tzE, tzF]
            refine wpAnyH_done (by kernel_rfl) ?_ _
            clear hHeld hHeld2
            have e1 : W9.cell? ⟨ge, be + 1, none⟩ = some (.int .i64 (a : Int)) := HS9.out.1
            have hge9 : ge < W9.heap.size := Nat.lt_of_lt_of_le hgr (HDC.out.trans HQ9.out.2).size
            have t1 : decide ((a : Int) < 0) = false := by simp
            clear HS9 HFT
            go_upto_region 10 with fail
            refine wp_region_held_drew (S := fun W => W.cell? ⟨ge, be + 1, none⟩ = some (.int .i64 (a : Int))) (by kernel_rfl) e1 (fun hHeld => ?_)
            refine tkq (i := 0) (v := ?_) rfl (by kernel_rfl) (fun _ _ _ h => h) (by rfl) ?_ (by assumption) ?_
            rotate_left 1
            · ((intro w hSw; (try dsimp only at hSw); go_simp) <;> with_reducible rfl)
            try simp only [Act.put, tzA, tzB, tzC, tzD, tzE]
            refine tkq (i := 1) (v := ?_) rfl (by kernel_rfl) (fun _ _ _ h => h) (by rfl) ?_ (by assumption) ?_
            rotate_left 1
            · ((intro w hSw; (try dsimp only at hSw); go_simp) <;> with_reducible rfl)
            try simp only [Act.put, tzA, tzB, tzC, tzD, tzE, tzF]
            refine tkq (i := 2) (v := ?_) rfl (by kernel_rfl) (fun _ _ _ h => h) (by rfl) ?_ (by assumption) ?_
            rotate_left 1
            · ((intro w hSw; (try dsimp only at hSw); go_simp) <;> with_reducible rfl)
            try simp only [Act.put, tzA, tzB, tzC, tzD, tzE, tzF]
            refine tkq (i := 3) (v := ?_) rfl (by kernel_rfl) (fun _ _ _ h => h) (by rfl) ?_ (by assumption) ?_
            rotate_left 1
            · ((intro w hSw; (try dsimp only at hSw); go_simp) <;> with_reducible rfl)
            try simp only [Act.put, tzA, tzB, tzC, tzD, tzE, tzF]
            refine tkq (i := 4) (v := ?_) rfl (by kernel_rfl) (fun _ _ _ h => h) (by rfl) ?_ (by assumption) ?_
            rotate_left 1
            · ((intro w hSw; (try dsimp only at hSw); go_simp) <;> with_reducible rfl)
            try simp only [Act.put, tzA, tzB, tzC, tzD, tzE, tzF]
            refine tkq (i := 5) (v := ?_) rfl (by kernel_rfl) (fun _ _ _ h => h) (by rfl) ?_ (by assumption) ?_
            rotate_left 1
            · ((intro w hSw; (try dsimp only at hSw); go_simp) <;> with_reducible rfl)
            try simp only [Act.put, tzA, tzB, tzC, tzD, tzE, tzF]
            refine tkq (i := 6) (v := ?_) rfl (by kernel_rfl) (fun _ _ _ h => h) (by rfl) ?_ (by assumption) ?_
            rotate_left 1
            · ((intro w hSw; (try dsimp only at hSw); go_simp) <;> with_reducible rfl)
            try simp only [Act.put, tzA, tzB, tzC, tzD, tzE, tzF]
            refine tkn (i := 7) rfl (by kernel_rfl) (fun _ _ _ h => h) (by rfl) (by assumption) ?_
            try simp only [Act.put, tzA, tzB, tzC, tzD, tzE, tzF]
            refine tkn (i := 8) rfl (by kernel_rfl) (fun _ _ _ h => h) (by rfl) (by assumption) ?_
            try simp only [Act.put, tzA, tzB, tzC, tzD, tzE, tzF]
            refine tkn (i := 9) rfl (by kernel_rfl) (fun _ _ _ h => h) (by rfl) (by assumption) ?_
            try simp only [Act.put, tzA, tzB, tzC, tzD, tzE, tzF]
            refine tkn (i := 10) rfl (by kernel_rfl) (fun _ _ _ h => h) (by rfl) (by assumption) ?_
            try simp only [Act.put, tzA, tzB, tzC, tzD, tzE, tzF]
            refine tkn (i := 11) rfl (by kernel_rfl) (fun _ _ _ h => h) (by rfl) (by assumption) ?_
            try simp only [Act.put, tzA, tzB, tzC, tzD, tzE, tzF]
            refine tkn (i := 12) rfl (by kernel_rfl) (fun _ _ _ h => h) (by rfl) (by assumption) ?_
            try simp only [Act.put, tzA, tzB, tzC, tzD, tzE, tzF]
            refine tkn (i := 13) rfl (by kernel_rfl) (fun _ _ _ h => h) (by rfl) (by assumption) ?_
            try simp only [Act.put, tzA, tzB, tzC, tzD, tzE, tzF]
            refine tkn (i := 14) rfl (by kernel_rfl) (fun _ _ _ h => h) (by rfl) (by assumption) ?_
            try simp only [Act.put, tzA, tzB, tzC, tzD, tzE, tzF]
            refine tkn (i := 15) rfl (by kernel_rfl) (fun _ _ _ h => h) (by rfl) (by assumption) ?_
            try simp only [Act.put, tzA, tzB, tzC, tzD, tzE, tzF]
            refine tkn (i := 16) rfl (by kernel_rfl) (fun _ _ _ h => h) (by rfl) (by assumption) ?_
            try simp only [Act.put, tzA, tzB, tzC, tzD, tzE, tzF]
            refine tkn (i := 17) rfl (by kernel_rfl) (fun _ _ _ h => h) (by rfl) (by assumption) ?_
            try simp only [Act.put, tzA, tzB, tzC, tzD, tzE, tzF]
            refine tkn (i := 18) rfl (by kernel_rfl) (fun _ _ _ h => h) (by rfl) (by assumption) ?_
            try simp only [Act.put, tzA, tzB, tzC, tzD, tzE, tzF]
            refine tkn (i := 19) rfl (by kernel_rfl) (fun _ _ _ h => h) (by rfl) (by assumption) ?_
            try simp only [Act.put, tzA, tzB, tzC, tzD, tzE, tzF]
            refine tkq (i := 20) (v := ?_) rfl (by kernel_rfl) (fun _ _ _ h => h) (by rfl) ?_ (by assumption) ?_
            rotate_left 1
            · ((intro w hSw; (try dsimp only at hSw); go_simp) <;> with_reducible rfl)
            try simp only [Act.put, tzA, tzB, tzC, tzD, tzE, tzF]
            refine wpAnyH_done (by kernel_rfl) ?_ _
            clear hHeld
            have HJ2 := Lib.hid (show ThrJ cs ds L w3 pm (k + 1) (stepE cs ds m ⟨y.point, (a : Int), -1⟩).2 W9.drew from HJ.out.next HXK.out (by rw [HST.out]) (by rw [HST.out]; exact HOK2.out) (by rw [HST.out]; obtain ⟨v9, h9⟩ := HQ9.out.1; exact ⟨v9, h9.below (Below.refl _ _).drew⟩) ((HDC.out.trans HQ9.out.2).trans (chg_no (Chg.refl _ W9).drew)))
            go_wp2_with fail
            go_roundw
            case rel => exact ⟨k + 1, _, by go_num, by omega, HJ2⟩
            case measure => simp [intOf]; omega
        · have hst := stepE_drop (cs := cs) (ds := ds) (m := m) (p := d.step) had
          have hal := (List.getElem?_eq_some_iff.1 had).1
          obtain ⟨g, o, c', hv, hg, hr⟩ := HH0.out.drops.get had
          obtain ⟨rfl, -, rfl⟩ := slice_inj hv
          have hrr := hr wr HBX.out
          have hgn : g ≠ pm := by have := HPM.out.1; omega
          have hgr2 : g < wr.heap.size := Nat.lt_of_lt_of_le hg HBX.out.size
          have ixa : ∀ W : World, (Instr.indexAt 70 (.slice (some ⟨g, o, none⟩) ds.length dc) (.int .i64 (a : Int))).run Tryz.prog W = .ok (.pointer (some ⟨g, o + a * 7, none⟩)) W := fun W => idx_rdrop rfl hal W
          obtain ⟨b, hb⟩ : ∃ b, b = o + a * 7 := ⟨_, rfl⟩
          rw [← hb] at ixa hrr
          have hri : wr.rangeAt g (b + 1) [.string d.item.key, .string d.item.value, .int .u32 d.item.flags, .int .u64 d.item.id, .int .i64 d.item.dies, .int .i64 d.item.gen] := fun i u hu => by
            rw [Nat.add_assoc, Nat.add_comm 1 i]
            exact hrr (i + 1) u hu
          have HFT := Lib.hid (fun (W : World) (hW : RMap W pm vm m) => rDrop_any (x := d.item) hW (by have := hok.len; omega))
          have HOK2 := Lib.hid (hok.drop d.item)
          have HRB := Lib.hid hri
          obtain ⟨rr, hrr2⟩ : ∃ r, r = dropM m d.item := ⟨_, rfl⟩
          rw [← hrr2] at HFT HOK2 hst
          have HST := Lib.hid hst
          have ha6 : a ≤ 1000000 := by have := HN.out; omega
          have t0 : decide ((0 : Int) ≤ -1) = false := by decide
          have t1 : decide ((-1 : Int) < 0) = true := by decide
          obtain ⟨bb, m2⟩ := rr
          clear hb hv hr hrr hri hst hok hvm hmem had hrr2 k0 hg
          go_upto_region 8 with fail
          refine wp_region_held_drew (S := fun W => W.cell? ⟨ge, be + 1, none⟩ = some (.int .i64 (-1))) (by kernel_rfl) e1 (fun hHeld => ?_)
          refine tkq (i := 0) (v := ?_) rfl (by kernel_rfl) (fun _ _ _ h => h) (by rfl) ?_ (by assumption) ?_
          rotate_left 1
          · ((intro w hSw; (try dsimp only at hSw); go_simp) <;> with_reducible rfl)
          try simp only [Act.put, tzA, tzB, tzC, tzD, tzE]
          refine tkq (i := 1) (v := ?_) rfl (by kernel_rfl) (fun _ _ _ h => h) (by rfl) ?_ (by assumption) ?_
          rotate_left 1
          · ((intro w hSw; (try dsimp only at hSw); go_simp) <;> with_reducible rfl)
          try simp only [Act.put, tzA, tzB, tzC, tzD, tzE, tzF]
          refine tkq (i := 2) (v := ?_) rfl (by kernel_rfl) (fun _ _ _ h => h) (by rfl) ?_ (by assumption) ?_
          rotate_left 1
          · ((intro w hSw; (try dsimp only at hSw); go_simp) <;> with_reducible rfl)
          try simp only [Act.put, tzA, tzB, tzC, tzD, tzE, tzF]
          refine tkq (i := 3) (v := ?_) rfl (by kernel_rfl) (fun _ _ _ h => h) (by rfl) ?_ (by assumption) ?_
          rotate_left 1
          · ((intro w hSw; (try dsimp only at hSw); go_simp) <;> with_reducible rfl)
          try simp only [Act.put, tzA, tzB, tzC, tzD, tzE, tzF]
          refine tkq (i := 4) (v := ?_) rfl (by kernel_rfl) (fun _ _ _ h => h) (by rfl) ?_ (by assumption) ?_
          rotate_left 1
          · ((intro w hSw; (try dsimp only at hSw); go_simp) <;> with_reducible rfl)
          try simp only [Act.put, tzA, tzB, tzC, tzD, tzE, tzF]
          refine tkq (i := 5) (v := ?_) rfl (by kernel_rfl) (fun _ _ _ h => h) (by rfl) ?_ (by assumption) ?_
          rotate_left 1
          · ((intro w hSw; (try dsimp only at hSw); go_simp) <;> with_reducible rfl)
          try simp only [Act.put, tzA, tzB, tzC, tzD, tzE, tzF]
          refine tkq (i := 6) (v := ?_) rfl (by kernel_rfl) (fun _ _ _ h => h) (by rfl) ?_ (by assumption) ?_
          rotate_left 1
          · ((intro w hSw; (try dsimp only at hSw); go_simp) <;> with_reducible rfl)
          try simp only [Act.put, tzA, tzB, tzC, tzD, tzE, tzF]
          refine tkn (i := 7) rfl (by kernel_rfl) (fun _ _ _ h => h) (by rfl) (by assumption) ?_
          try simp only [Act.put, tzA, tzB, tzC, tzD, tzE, tzF]
          refine tkn (i := 8) rfl (by kernel_rfl) (fun _ _ _ h => h) (by rfl) (by assumption) ?_
          try simp only [Act.put, tzA, tzB, tzC, tzD, tzE, tzF]
          refine tkn (i := 9) rfl (by kernel_rfl) (fun _ _ _ h => h) (by rfl) (by assumption) ?_
          try simp only [Act.put, tzA, tzB, tzC, tzD, tzE, tzF]
          refine tkn (i := 10) rfl (by kernel_rfl) (fun _ _ _ h => h) (by rfl) (by assumption) ?_
          try simp only [Act.put, tzA, tzB, tzC, tzD, tzE, tzF]
          refine tkn (i := 11) rfl (by kernel_rfl) (fun _ _ _ h => h) (by rfl) (by assumption) ?_
          try simp only [Act.put, tzA, tzB, tzC, tzD, tzE, tzF]
          refine tkn (i := 12) rfl (by kernel_rfl) (fun _ _ _ h => h) (by rfl) (by assumption) ?_
          try simp only [Act.put, tzA, tzB, tzC, tzD, tzE, tzF]
          refine tkn (i := 13) rfl (by kernel_rfl) (fun _ _ _ h => h) (by rfl) (by assumption) ?_
          try simp only [Act.put, tzA, tzB, tzC, tzD, tzE, tzF]
          refine tkn (i := 14) rfl (by kernel_rfl) (fun _ _ _ h => h) (by rfl) (by assumption) ?_
          try simp only [Act.put, tzA, tzB, tzC, tzD, tzE, tzF]
          refine tkn (i := 15) rfl (by kernel_rfl) (fun _ _ _ h => h) (by rfl) (by assumption) ?_
          try simp only [Act.put, tzA, tzB, tzC, tzD, tzE, tzF]
          refine tkn (i := 16) rfl (by kernel_rfl) (fun _ _ _ h => h) (by rfl) (by assumption) ?_
          try simp only [Act.put, tzA, tzB, tzC, tzD, tzE, tzF]
          refine tkn (i := 17) rfl (by kernel_rfl) (fun _ _ _ h => h) (by rfl) (by assumption) ?_
          try simp only [Act.put, tzA, tzB, tzC, tzD, tzE, tzF]
          refine tkn (i := 18) rfl (by kernel_rfl) (fun _ _ _ h => h) (by rfl) (by assumption) ?_
          try simp only [Act.put, tzA, tzB, tzC, tzD, tzE, tzF]
          refine tkq (i := 19) (v := ?_) rfl (by kernel_rfl) (fun _ _ _ h => h) (by rfl) ?_ (by assumption) ?_
          rotate_left 1
          · ((intro w hSw; (try dsimp only at hSw); go_simp) <;> with_reducible rfl)
          try simp only [Act.put, tzA, tzB, tzC, tzD, tzE, tzF]
          refine wpAnyH_done (by kernel_rfl) ?_ _
          clear hHeld
          have e1 : wr.drew.cell? ⟨ge, be + 1, none⟩ = some (.int .i64 (-1)) := e1
          have e2 : wr.drew.cell? ⟨ge, be + 2, none⟩ = some (.int .i64 (a : Int)) := e2
          have k1 : wr.drew.cell? ⟨ph, 1, none⟩ = some (.slice (some ⟨g, o, none⟩) ds.length dc) := k1
          obtain ⟨wd, hwd⟩ : ∃ z, z = wr.drew := ⟨_, rfl⟩
          have HVD := Lib.hid (show RMap wd.drew pm vm m from by rw [hwd]; exact HVM.out.below (Below.refl _ _).drew)
          have HRD := Lib.hid (show wd.rangeAt g (b + 1) [.string d.item.key, .string d.item.value, .int .u32 d.item.flags, .int .u64 d.item.id, .int .i64 d.item.dies, .int .i64 d.item.gen] from by rw [hwd]; exact HRB.out)
          have HDD := Lib.hid (show Chg (fun j => j = pm) wr wd.drew from by rw [hwd]; exact HDC.out.trans (chg_no (Chg.refl _ wr.drew).drew))
          have hgd : g < wd.heap.size := by rw [hwd]; exact hgr2
          have hged : ge < wd.heap.size := by rw [hwd]; exact hgr
          have hphd : ph < wd.heap.size := by rw [hwd]; exact hphr
          rw [← hwd] at e1 e2 k1 ⊢
          clear hwd HVM HDC HRB
          cases bb
          · go_upto_region 10 with fail
            refine wp_region_held_drew (S := fun W => W.cell? ⟨ge, be + 1, none⟩ = some (.int .i64 (-1)) ∧ W.cell? ⟨ge, be + 2, none⟩ = some (.int .i64 (a : Int)) ∧ W.cell? ⟨ph, 1, none⟩ = some (.slice (some ⟨g, o, none⟩) ds.length dc) ∧ W.rangeAt g (b + 1) [.string d.item.key, .string d.item.value, .int .u32 d.item.flags, .int .u64 d.item.id, .int .i64 d.item.dies, .int .i64 d.item.gen]) (by kernel_rfl) ⟨e1, e2, k1, HRD.out⟩ (fun hHeld => ?_)
            refine tkq (i := 0) (v := ?_) rfl (by kernel_rfl) (fun _ _ _ h => h) (by rfl) ?_ (by assumption) ?_
            rotate_left 1
            · ((intro w hSw; (try dsimp only at hSw); go_simp) <;> with_reducible rfl)
            try simp only [Act.put, tzA, tzB, tzC, tzD, tzE]
            refine tkq (i := 1) (v := ?_) rfl (by kernel_rfl) (fun _ _ _ h => h) (by rfl) ?_ (by assumption) ?_
            rotate_left 1
            · ((intro w hSw; (try dsimp only at hSw); go_simp) <;> with_reducible rfl)
            try simp only [Act.put, tzA, tzB, tzC, tzD, tzE, tzF]
            refine tkq (i := 2) (v := ?_) rfl (by kernel_rfl) (fun _ _ _ h => h) (by rfl) ?_ (by assumption) ?_
            rotate_left 1
            · ((intro w hSw; (try dsimp only at hSw); go_simp) <;> with_reducible rfl)
            try simp only [Act.put, tzA, tzB, tzC, tzD, tzE, tzF]
            refine tkq (i := 3) (v := ?_) rfl (by kernel_rfl) (fun _ _ _ h => h) (by rfl) ?_ (by assumption) ?_
            rotate_left 1
            · ((intro w hSw; (try dsimp only at hSw); go_simp) <;> with_reducible rfl)
            try simp only [Act.put, tzA, tzB, tzC, tzD, tzE, tzF]
            refine tkq (i := 4) (v := ?_) rfl (by kernel_rfl) (fun _ _ _ h => h) (by rfl) ?_ (by assumption) ?_
            rotate_left 1
            · ((intro w hSw; (try dsimp only at hSw); obtain ⟨c0, c1, c2, -⟩ := hSw; go_simp) <;> with_reducible rfl)
            try simp only [Act.put, tzA, tzB, tzC, tzD, tzE, tzF]
            refine tkq (i := 5) (v := ?_) rfl (by kernel_rfl) (fun _ _ _ h => h) (by rfl) ?_ (by assumption) ?_
            rotate_left 1
            · ((intro w hSw; (try dsimp only at hSw); go_simp) <;> with_reducible rfl)
            try simp only [Act.put, tzA, tzB, tzC, tzD, tzE, tzF]
            refine tkq (i := 6) (v := ?_) rfl (by kernel_rfl) (fun _ _ _ h => h) (by rfl) ?_ (by assumption) ?_
            rotate_left 1
            · ((intro w hSw; (try dsimp only at hSw); go_simp) <;> with_reducible rfl)
            try simp only [Act.put, tzA, tzB, tzC, tzD, tzE, tzF]
            refine tkq (i := 7) (v := ?_) rfl (by kernel_rfl) (fun _ _ _ h => h) (by rfl) ?_ (by assumption) ?_
            rotate_left 1
            · ((intro w hSw; (try dsimp only at hSw); go_simp) <;> with_reducible rfl)
            try simp only [Act.put, tzA, tzB, tzC, tzD, tzE, tzF]
            refine tkq (i := 8) (v := ?_) rfl (by kernel_rfl) (fun _ _ _ h => h) (by rfl) ?_ (by assumption) ?_
            rotate_left 1
            · ((intro w hSw; (try dsimp only at hSw); go_simp) <;> with_reducible rfl)
            try simp only [Act.put, tzA, tzB, tzC, tzD, tzE, tzF]
            refine tkq (i := 9) (v := ?_) rfl (by kernel_rfl) (fun _ _ _ h => h) (by rfl) ?_ (by assumption) ?_
            rotate_left 1
            · ((intro w hSw; (try dsimp only at hSw); obtain ⟨c0, c1, c2, -⟩ := hSw; go_simp) <;> with_reducible rfl)
            try simp only [Act.put, tzA, tzB, tzC, tzD, tzE, tzF]
            refine tkq (i := 10) (v := ?_) rfl (by kernel_rfl) (fun _ _ _ h => h) (by rfl) ?_ (by assumption) ?_
            rotate_left 1
            · ((intro w hSw; (try dsimp only at hSw); go_simp) <;> with_reducible rfl)
            try simp only [Act.put, tzA, tzB, tzC, tzD, tzE, tzF]
            refine tkq (i := 11) (v := ?_) rfl (by kernel_rfl) (fun _ _ _ h => h) (by rfl) ?_ (by assumption) ?_
            rotate_left 1
            · ((intro w hSw; (try dsimp only at hSw); go_simp) <;> with_reducible rfl)
            try simp only [Act.put, tzA, tzB, tzC, tzD, tzE, tzF]
            refine tkq (i := 12) (v := ?_) rfl (by kernel_rfl) (fun _ _ _ h => h) (by rfl) ?_ (by assumption) ?_
            rotate_left 1
            · ((intro w hSw; (try dsimp only at hSw); go_simp) <;> with_reducible rfl)
            try simp only [Act.put, tzA, tzB, tzC, tzD, tzE, tzF]
            refine tkq (i := 13) (v := ?_) rfl (by kernel_rfl) (fun _ _ _ h => h) (by rfl) ?_ (by assumption) ?_
            rotate_left 1
            · ((intro w hSw; (try dsimp only at hSw); go_simp) <;> with_reducible rfl)
            try simp only [Act.put, tzA, tzB, tzC, tzD, tzE, tzF]
            refine tkq (i := 14) (v := ?_) rfl (by kernel_rfl) (fun _ _ _ h => h) (by rfl) ?_ (by assumption) ?_
            rotate_left 1
            · ((intro w hSw; (try dsimp only at hSw); obtain ⟨c0, c1, c2, -⟩ := hSw; go_simp) <;> with_reducible rfl)
            try simp only [Act.put, tzA, tzB, tzC, tzD, tzE, tzF]
            refine tkq (i := 15) (v := ?_) rfl (by kernel_rfl) (fun _ _ _ h => h) (by rfl) ?_ (by assumption) ?_
            rotate_left 1
            · ((intro w hSw; (try dsimp only at hSw); go_simp) <;> with_reducible rfl)
            try simp only [Act.put, tzA, tzB, tzC, tzD, tzE, tzF]
            refine tkq (i := 16) (v := ?_) rfl (by kernel_rfl) (fun _ _ _ h => h) (by rfl) ?_ (by assumption) ?_
            rotate_left 1
            · ((intro w hSw; (try dsimp only at hSw); go_simp) <;> with_reducible rfl)
            try simp only [Act.put, tzA, tzB, tzC, tzD, tzE, tzF]
            refine wpAnyH_take (i := 17) rfl (by kernel_rfl) (by kernel_rfl) (by kernel_rfl) (fun _ _ _ h => h) (yieldsIf_load_mid (by rfl) 38 (.tmp 59) (by rfl) g (b + 1) (by rfl) [.string d.item.key, .string d.item.value, .int .u32 d.item.flags, .int .u64 d.item.id, .int .i64 d.item.dies, .int .i64 d.item.gen] _ (fun w hSw => hSw.2.2.2) Tryz.underlying38 rfl (by kernel_rfl)) (by assumption) ?_
            try simp only [Act.put, tzA, tzB, tzC, tzD, tzE, tzF]
            refine wpAnyH_ready (rs := [18]) (by kernel_rfl) (by simp) ?_
            refine (AllReadyH.cons rfl (fun K hK => ?_) AllReadyH.nil)
            rw [if_pos (by rfl)]
            go_simp
            go_at_call 13
            refine (HFT.out _ HVD.out).mono ?_
            rintro e9 W9 ⟨rfl, hm9, hc9⟩
            have HQ9 := Lib.hid (And.intro hm9 hc9)
            refine hK.out _ _ ⟨(World.cell?_of_block (hc9.block ge hged hgen)).trans e1, (World.cell?_of_block (hc9.block ge hged hgen)).trans e2, (World.cell?_of_block (hc9.block ph hphd hphn)).trans k1, range_kept hc9 hgd hgn HRD.out⟩ (fun hHeld2 => ?_)
            clear hK K hm9 hc9
            refine tkq (i := 19) (v := ?_) rfl (by kernel_rfl) (fun _ _ _ h => h) (by rfl) ?_ (by assumption) ?_
            rotate_left 1
            · ((intro w hSw; (try dsimp only at hSw); go_simp) <;> with_reducible rfl)
            try simp only [Act.put, tzA, tzB, tzC, tzD, tzE, tzF]
            refine tkq (i := 20) (v := ?_) rfl (by kernel_rfl) (fun _ _ _ h => h) (by rfl) ?_ (by assumption) ?_
            rotate_left 1
            · ((intro w hSw; (try dsimp only at hSw); go_simp) <;> with_reducible rfl)
            try simp only [Act.put, tzA, tzB, tzC, tzD, tzE, tzF]
            refine wpAnyH_done (by kernel_rfl) ?_ _
            clear hHeld hHeld2
            have HF9 := Lib.hid (HSTOP.out wr W9 k m _ HJ.out HXK.out (by rw [HST.out]) (by rw [HST.out]; exact HQ9.out.1) ((HJ.out.chg.trans (HDD.out.trans HQ9.out.2)).below (fun k hk => ⟨Nat.lt_of_lt_of_le hk HB3.out.size, fun e2 => by have := HPM.out.1; omega⟩)))
            clear HQ9
            go_wp2_with fail
            go_ret2
            exact HF9.out
          · go_upto_region 10 with fail
            refine wp_region_held_drew (S := fun W => W.cell? ⟨ge, be + 1, none⟩ = some (.int .i64 (-1)) ∧ W.cell? ⟨ge, be + 2, none⟩ = some (.int .i64 (a : Int)) ∧ W.cell? ⟨ph, 1, none⟩ = some (.slice (some ⟨g, o, none⟩) ds.length dc) ∧ W.rangeAt g (b + 1) [.string d.item.key, .string d.item.value, .int .u32 d.item.flags, .int .u64 d.item.id, .int .i64 d.item.dies, .int .i64 d.item.gen]) (by kernel_rfl) ⟨e1, e2, k1, HRD.out⟩ (fun hHeld => ?_)
            refine tkq (i := 0) (v := ?_) rfl (by kernel_rfl) (fun _ _ _ h => h) (by rfl) ?_ (by assumption) ?_
            rotate_left 1
            · ((intro w hSw; (try dsimp only at hSw); go_simp) <;> with_reducible rfl)
            try simp only [Act.put, tzA, tzB, tzC, tzD, tzE]
            refine tkq (i := 1) (v := ?_) rfl (by kernel_rfl) (fun _ _ _ h => h) (by rfl) ?_ (by assumption) ?_
            rotate_left 1
            · ((intro w hSw; (try dsimp only at hSw); go_simp) <;> with_reducible rfl)
            try simp only [Act.put, tzA, tzB, tzC, tzD, tzE, tzF]
            refine tkq (i := 2) (v := ?_) rfl (by kernel_rfl) (fun _ _ _ h => h) (by rfl) ?_ (by assumption) ?_
            rotate_left 1
            · ((intro w hSw; (try dsimp only at hSw); go_simp) <;> with_reducible rfl)
            try simp only [Act.put, tzA, tzB, tzC, tzD, tzE, tzF]
            refine tkq (i := 3) (v := ?_) rfl (by kernel_rfl) (fun _ _ _ h => h) (by rfl) ?_ (by assumption) ?_
            rotate_left 1
            · ((intro w hSw; (try dsimp only at hSw); go_simp) <;> with_reducible rfl)
            try simp only [Act.put, tzA, tzB, tzC, tzD, tzE, tzF]
            refine tkq (i := 4) (v := ?_) rfl (by kernel_rfl) (fun _ _ _ h => h) (by rfl) ?_ (by assumption) ?_
            rotate_left 1
            · ((intro w hSw; (try dsimp only at hSw); obtain ⟨c0, c1, c2, -⟩ := hSw; go_simp) <;> with_reducible rfl)
            try simp only [Act.put, tzA, tzB, tzC, tzD, tzE, tzF]
            refine tkq (i := 5) (v := ?_) rfl (by kernel_rfl) (fun _ _ _ h => h) (by rfl) ?_ (by assumption) ?_
            rotate_left 1
            · ((intro w hSw; (try dsimp only at hSw); go_simp) <;> with_reducible rfl)
            try simp only [Act.put, tzA, tzB, tzC, tzD, tzE, tzF]
            refine tkq (i := 6) (v := ?_) rfl (by kernel_rfl) (fun _ _ _ h => h) (by rfl) ?_ (by assumption) ?_
            rotate_left 1
            · ((intro w hSw; (try dsimp only at hSw); go_simp) <;> with_reducible rfl)
            try simp only [Act.put, tzA, tzB, tzC, tzD, tzE, tzF]
            refine tkq (i := 7) (v := ?_) rfl (by kernel_rfl) (fun _ _ _ h => h) (by rfl) ?_ (by assumption) ?_
            rotate_left 1
            · ((intro w hSw; (try dsimp only at hSw); go_simp) <;> with_reducible rfl)
            try simp only [Act.put, tzA, tzB, tzC, tzD, tzE, tzF]
            refine tkq (i := 8) (v := ?_) rfl (by kernel_rfl) (fun _ _ _ h => h) (by rfl) ?_ (by assumption) ?_
            rotate_left 1
            · ((intro w hSw; (try dsimp only at hSw); go_simp) <;> with_reducible rfl)
            try simp only [Act.put, tzA, tzB, tzC, tzD, tzE, tzF]
            refine tkq (i := 9) (v := ?_) rfl (by kernel_rfl) (fun _ _ _ h => h) (by rfl) ?_ (by assumption) ?_
            rotate_left 1
            · ((intro w hSw; (try dsimp only at hSw); obtain ⟨c0, c1, c2, -⟩ := hSw; go_simp) <;> with_reducible rfl)
            try simp only [Act.put, tzA, tzB, tzC, tzD, tzE, tzF]
            refine tkq (i := 10) (v := ?_) rfl (by kernel_rfl) (fun _ _ _ h => h) (by rfl) ?_ (by assumption) ?_
            rotate_left 1
            · ((intro w hSw; (try dsimp only at hSw); go_simp) <;> with_reducible rfl)
            try simp only [Act.put, tzA, tzB, tzC, tzD, tzE, tzF]
            refine tkq (i := 11) (v := ?_) rfl (by kernel_rfl) (fun _ _ _ h => h) (by rfl) ?_ (by assumption) ?_
            rotate_left 1
            · ((intro w hSw; (try dsimp only at hSw); go_simp) <;> with_reducible rfl)
            try simp only [Act.put, tzA, tzB, tzC, tzD, tzE, tzF]
            refine tkq (i := 12) (v := ?_) rfl (by kernel_rfl) (fun _ _ _ h => h) (by rfl) ?_ (by assumption) ?_
            rotate_left 1
            · ((intro w hSw; (try dsimp only at hSw); go_simp) <;> with_reducible rfl)
            try simp only [Act.put, tzA, tzB, tzC, tzD, tzE, tzF]
            refine tkq (i := 13) (v := ?_) rfl (by kernel_rfl) (fun _ _ _ h => h) (by rfl) ?_ (by assumption) ?_
            rotate_left 1
            · ((intro w hSw; (try dsimp only at hSw); go_simp) <;> with_reducible rfl)
            try simp only [Act.put, tzA, tzB, tzC, tzD, tzE, tzF]
            refine tkq (i := 14) (v := ?_) rfl (by kernel_rfl) (fun _ _ _ h => h) (by rfl) ?_ (by assumption) ?_
            rotate_left 1
            · ((intro w hSw; (try dsimp only at hSw); obtain ⟨c0, c1, c2, -⟩ := hSw; go_simp) <;> with_reducible rfl)
            try simp only [Act.put, tzA, tzB, tzC, tzD, tzE, tzF]
            refine tkq (i := 15) (v := ?_) rfl (by kernel_rfl) (fun _ _ _ h => h) (by rfl) ?_ (by assumption) ?_
            rotate_left 1
            · ((intro w hSw; (try dsimp only at hSw); go_simp) <;> with_reducible rfl)
            try simp only [Act.put, tzA, tzB, tzC, tzD, tzE, tzF]
            refine tkq (i := 16) (v := ?_) rfl (by kernel_rfl) (fun _ _ _ h => h) (by rfl) ?_ (by assumption) ?_
            rotate_left 1
            · ((intro w hSw; (try dsimp only at hSw); go_simp) <;> with_reducible rfl)
            try simp only [Act.put, tzA, tzB, tzC, tzD, tzE, tzF]
            refine wpAnyH_take (i := 17) rfl (by kernel_rfl) (by kernel_rfl) (by kernel_rfl) (fun _ _ _ h => h) (yieldsIf_load_mid (by rfl) 38 (.tmp 59) (by rfl) g (b + 1) (by rfl) [.string d.item.key, .string d.item.value, .int .u32 d.item.flags, .int .u64 d.item.id, .int .i64 d.item.dies, .int .i64 d.item.gen] _ (fun w hSw => hSw.2.2.2) Tryz.underlying38 rfl (by kernel_rfl)) (by assumption) ?_
            try simp only [Act.put, tzA, tzB, tzC, tzD, tzE, tzF]
            refine wpAnyH_ready (rs := [18]) (by kernel_rfl) (by simp) ?_
            refine (AllReadyH.cons rfl (fun K hK => ?_) AllReadyH.nil)
            rw [if_pos (by rfl)]
            go_simp
            go_at_call 13
            refine (HFT.out _ HVD.out).mono ?_
            rintro e9 W9 ⟨rfl, hm9, hc9⟩
            have HQ9 := Lib.hid (And.intro hm9 hc9)
            refine hK.out _ _ ⟨(World.cell?_of_block (hc9.block ge hged hgen)).trans e1, (World.cell?_of_block (hc9.block ge hged hgen)).trans e2, (World.cell?_of_block (hc9.block ph hphd hphn)).trans k1, range_kept hc9 hgd hgn HRD.out⟩ (fun hHeld2 => ?_)
            clear hK K hm9 hc9
            refine tkq (i := 19) (v := ?_) rfl (by kernel_rfl) (fun _ _ _ h => h) (by rfl) ?_ (by assumption) ?_
            rotate_left 1
            · ((intro w hSw; (try dsimp only at hSw); go_simp) <;> with_reducible rfl)
            try simp only [Act.put, tzA, tzB, tzC, tzD, tzE, tzF]
            refine tkq (i := 20) (v := ?_) rfl (by kernel_rfl) (fun _ _ _ h => h) (by rfl) ?_ (by assumption) ?_
            rotate_left 1
            · ((intro w hSw; (try dsimp only at hSw); go_simp) <;> with_reducible rfl)
            try simp only [Act.put, tzA, tzB, tzC, tzD, tzE, tzF]
            refine wpAnyH_done (by kernel_rfl) ?_ _
            clear hHeld hHeld2
            have HJ2 := Lib.hid (show ThrJ cs ds L w3 pm (k + 1) (stepE cs ds m ⟨d.step, -1, (a : Int)⟩).2 W9 from HJ.out.next HXK.out (by rw [HST.out]) (by rw [HST.out]; exact HOK2.out) (by rw [HST.out]; exact HQ9.out.1) (HDD.out.trans HQ9.out.2))
            clear HQ9
            go_wp2_with fail
            go_roundw
            case rel => exact ⟨k + 1, _, by go_num, by omega, HJ2⟩
            case measure => simp [intOf]; omega
      · obtain rfl : k = L.length := by omega
        have HF9 := Lib.hid (HALL.out wr m HJ.out)
        clear HJ
        go_wp2_with fail
        go_ret2
        exact HF9.out
end Go.Proofs.YtaooangnnlopcaaGreatDoor
