/- A history run through on a map (lins.through), entry by entry. Condition: the history lies in memory; the library's tables lie as they are laid; a million calls and drops at most. -/
import Derived.Test.YtaooangnnlopcaaGreatDoorLiE
import Derived.WalkKit
import Derived.OwnWalkIn
import Derived.TacticsInMore
import Derived.LoopNIn
import Derived.LoopIn
import Derived.Test.YtaooangnnlopcaaGreatDoorLowA
namespace Go.Proofs.YtaooangnnlopcaaGreatDoor
open Go.RowKit Go.ChangeMaps Go.MapKept
abbrev fitsF (p : Nat) : Value := .func (.func 14) #[.pointer (some ⟨p, 0, none⟩)] #[]
abbrev dropF (p : Nat) : Value := .func (.func 12) #[.pointer (some ⟨p, 0, none⟩)] #[]
abbrev thrF (rb : Nat) : Value := .func (.func 58) #[] #[.pointer (some ⟨rb, 0, none⟩), .pointer (some ⟨rb + 1, 0, none⟩), .pointer (some ⟨rb + 2, 0, none⟩)]
theorem store_new (W : World) (t : TypeId) (o : Obj) (v : Value) (hv : v.oneCell' = true) : (store ⟨W.heap.size, 0, none⟩ v).run Tryz.prog ((W.alloc (.cells #[.nilFunc] t)).alloc o) = .ok () ((W.alloc (.cells #[v] t)).alloc o) := by
  have h : ((W.alloc (.cells #[.nilFunc] t)).alloc o).heap[W.heap.size]? = some (.cells #[.nilFunc] t (0, 0)) := by rw [heap_at, if_neg (by simp), heap_at, if_pos rfl]
  rw [run_store _ _ _ _ _ hv, (cells_at h 0).1]
  simp only [(cells_at h 0).2]
  simp [go_sem]
theorem store_last (W : World) (t : TypeId) (v : Value) (hv : v.oneCell' = true) : (store ⟨W.heap.size, 0, none⟩ v).run Tryz.prog (W.alloc (.cells #[.nilFunc] t)) = .ok () (W.alloc (.cells #[v] t)) := by
  have h : (W.alloc (.cells #[.nilFunc] t)).heap[W.heap.size]? = some (.cells #[.nilFunc] t (0, 0)) := by rw [heap_at, if_pos rfl]
  rw [run_store _ _ _ _ _ hv, (cells_at h 0).1]
  simp only [(cells_at h 0).2]
  simp [go_sem]
set_option maxRecDepth 100000 in
theorem through_any (w : World) (cv dv : Value) (p : Nat) (_h1 : cv.oneCell' = true) (_h2 : dv.oneCell' = true) : Calls Tryz.prog 43 #[.agg #[cv, dv], .pointer (some ⟨p, 0, none⟩)] w fun e w' => e = .returned (thrF w.heap.size) ∧ w'.heap[w.heap.size]? = some (.cells #[cv, dv] 64 (0, 0)) ∧
    w'.heap[w.heap.size + 1]? = some (.cells #[fitsF p] 50 (0, 0)) ∧ w'.heap[w.heap.size + 2]? = some (.cells #[dropF p] 49 (0, 0)) ∧ Below w.heap.size w w' := by
  go_enter Tryz.func43, Tryz.ntmps43
  go_upto_region 1 with fail
  obtain ⟨W0, hW0⟩ : ∃ X, X = w.alloc (.cells #[cv, dv] 64) := ⟨_, rfl⟩
  have hx0 : W0.heap[w.heap.size]? = some (.cells #[cv, dv] 64 (0, 0)) := by rw [hW0, heap_at, if_pos rfl]
  have hs0 : W0.heap.size = w.heap.size + 1 := by rw [hW0]; simp
  have hb0 : Below w.heap.size w W0 := by rw [hW0]; exact (Below.refl _ _).alloc (Nat.le_refl _) _
  rw [← hW0]
  clear hW0
  have hst1 := store_new W0 50 (.cells #[.nilFunc] 49) (.func (.func 14) #[.pointer (some ⟨p, 0, none⟩)] #[]) rfl
  have hst2 := store_last (W0.alloc (.cells #[.func (.func 14) #[.pointer (some ⟨p, 0, none⟩)] #[]] 50)) 49 (.func (.func 12) #[.pointer (some ⟨p, 0, none⟩)] #[]) rfl
  rw [World.size_alloc] at hst2
  have HX := Lib.hid (And.intro hx0 (And.intro hs0 hb0))
  clear hx0 hs0 hb0
  go_wp2_with fail
  go_ret
  refine ⟨by rw [HX.out.2.1]; rfl, ?_, ?_, ?_, ?_⟩
  · rw [heap_at, if_neg (by simp [HX.out.2.1]; omega), heap_at, if_neg (by rw [HX.out.2.1]; omega)]; exact HX.out.1
  · rw [heap_at, if_neg (by simp [HX.out.2.1]), heap_at, if_pos (by rw [HX.out.2.1])]
  · rw [heap_at, if_pos (by simp [HX.out.2.1])]
  · exact (HX.out.2.2.alloc (by rw [HX.out.2.1]; omega) _).alloc (by simp [HX.out.2.1]; omega) _
/-- What is yielded of an entry. -/
def Fact (cs : List CalledD) (ds : List DropD) (j : Nat) (b : Bool) (m : MapM) : Prop :=
  (b = true ∧ runE cs ds ((orderL cs ds).take (j + 1)) newM = (true, m)) ∨ (b = false ∧ goE cs ds (orderL cs ds) 0 newM = ((j : Int), m))
/-- Where the iterator ends by itself. -/
def ThEnd (cs : List CalledD) (ds : List DropD) (Okb : Bool → Prop) (m : MapM) : Prop := (goE cs ds (orderL cs ds) 0 newM).2 = m ∧ ((goE cs ds (orderL cs ds) 0 newM).1 = -1 ∨ Okb false)
/-- Nothing but records of ranges has changed. -/
abbrev ChgR (W W' : World) : Prop := Chg (fun k => ∃ o, W.heap[k]? = some o ∧ isRec o = true) W W'
theorem chgR_turn {W W' : World} (h : ChgR W W') {l : Nat} {o o' : Obj} (ho : W'.heap[l]? = some o) (hr : isRec o = true) : ChgR W (W'.putObj l o') :=
  h.then (M' := fun k => k = l) ⟨rfl, rfl, rfl, by simp [World.putObj], fun k _ hk => World.putObj_heap_other (fun e => hk (by rw [e]))⟩ (fun i hi e => by
    subst e
    refine Classical.byContradiction fun hM => ?_
    have h2 := h.block i hi hM
    rw [ho] at h2
    exact hM ⟨o, h2.symm, hr⟩)
theorem orow_turn {W W' : World} {v : Value} {L : List EntD} (h : ORow W v L) (hc : ChgR W W') : ORow W' v L := by
  obtain ⟨a, c, rfl, h1, h2, h3, h4⟩ := h
  refine ⟨a, c, rfl, h1, h2, h3, fun j x hj => ?_⟩
  obtain ⟨g, o, rfl, hg, hr⟩ := h4 j x hj
  have hM : ¬ ∃ o, W.heap[g]? = some o ∧ isRec o = true := fun ⟨ob, e, hr2⟩ => by
    have h5 := hr 0 _ rfl
    cases ob <;> simp [isRec] at hr2 <;> simp [World.cell?, e] at h5
  exact ⟨g, o, rfl, Nat.lt_of_lt_of_le hg hc.size, range_kept hc hg hM hr⟩
theorem orow_keep {W W' : World} {v : Value} {L : List EntD} {p : Nat} {m : MapM} (h : ORow W v L) (hm : MapAt W p m) (hc : MChg W p W') (hne : ∀ g, v.ownBlock = some g → g ≠ p) : ORow W' v L := by
  obtain ⟨a, c, rfl, h1, h2, h3, h4⟩ := h
  refine ⟨a, c, rfl, h1, h2, h3, fun j x hj => ?_⟩
  obtain ⟨g, o, rfl, hg, hr⟩ := h4 j x hj
  have hM : ¬ MM W p g := fun hM => by
    rcases MM.kind hm hM with e | ⟨es, clock, e⟩
    · exact hne g rfl e
    · have h5 := hr 0 _ rfl
      simp [World.cell?, e] at h5
  exact ⟨g, o, rfl, Nat.lt_of_lt_of_le hg hc.chg.size, range_kept hc.chg hg hM hr⟩
theorem fact_next {cs : List CalledD} {ds : List DropD} {j : Nat} {e : EntD} {m : MapM} {b : Bool} {m' : MapM} (hr : runE cs ds ((orderL cs ds).take j) newM = (true, m)) (he : (orderL cs ds)[j]? = some e) (hs : stepE cs ds m e = (b, m')) : Fact cs ds j b m' := by
  cases b with
  | true =>
    refine .inl ⟨rfl, ?_⟩
    rw [take_snoc he, runE_snoc (by rw [hr]), hr]
    exact hs
  | false =>
    refine .inr ⟨rfl, ?_⟩
    have h2 := goE_stop (i := 0) (by rw [hr]) he (by rw [hr, hs])
    rw [hr, hs, Nat.zero_add] at h2
    exact h2
set_option maxRecDepth 100000 in
set_option maxHeartbeats 16000000 in
theorem thr_in {w : World} {p rb : Nat} {cv dv : Value} {cs : List CalledD} {ds : List DropD} {bs : List (Nat × Array Value × TypeId)} {Okb : Bool → Prop} (h : HistAt w cv dv cs ds) (hn : cs.length + ds.length ≤ 1000000) (hE : HasErr w) (hP : HasPow w)
    (hb0 : (rb, #[cv, dv], 64) ∈ bs) (hb1 : (rb + 1, #[fitsF p], 50) ∈ bs) (hb2 : (rb + 2, #[dropF p], 49) ∈ bs)
    (n l B : Nat) (KW : World → Prop) (Kd : Code → World → Prop) (X : Nat → Bool → MapM → Code → World → Prop) (hKW : ∀ W W', KeepsR B W W' → KW W → KW W')
    (hY : ∀ j b m W, QpAt w W p m bs → Fact cs ds j b m → KW W → YieldAt Fence.wide (n - 1) Tryz.prog l #[.int .i64 (j : Int), .bool b] W fun e W' => (e = .returned (.bool true) ∧ (QpAt w W' p m bs ∧ Okb b ∧ ChgR W W') ∧ KW W') ∨ (e = .returned (.bool false) ∧ ∃ c, X j b m c W' ∧ Kd c W'))
    (W : World) (h0 : QpAt w W p newM bs) (hK0 : KW W) :
    CallsIn Fence.wide n Tryz.prog 58 #[.func (.yield l) #[] #[], .pointer (some ⟨rb, 0, none⟩), .pointer (some ⟨rb + 1, 0, none⟩), .pointer (some ⟨rb + 2, 0, none⟩)] W fun e W' => (∃ v, e = .returned v) ∧
      ((∃ m, QpAt w W' p m bs ∧ ThEnd cs ds Okb m ∧ KW W') ∨ ∃ j b m c, X j b m c W' ∧ Kd c W') := by
  obtain ⟨ca, cc, rfl⟩ := h.calls.len
  obtain ⟨da, dc, rfl⟩ := h.drops.len
  obtain ⟨L, hL⟩ : ∃ L, L = orderL cs ds := ⟨_, rfl⟩
  have hLl : L.length ≤ 1000000 := by rw [hL, orderL_len]; exact hn
  have c0 := (cells_at (h0.kept _ hb0).2 0).1
  have c1 := (cells_at (h0.kept _ hb0).2 1).1
  have HH := Lib.hid h
  have HN := Lib.hid hn
  have HEP := Lib.hid (And.intro hE hP)
  have HBS := Lib.hid (And.intro hb0 (And.intro hb1 hb2))
  have HL := Lib.hid hL
  have HY := Lib.hid hY
  have H0 := Lib.hid h0
  have HK0 := Lib.hid hK0
  have hpw : p < W.heap.size := h0.lv.map.lt
  clear h hn hE hP hb0 hb1 hb2 hL hY h0 hK0
  refine callsIn_of_wp Tryz.func58 rfl trivial ?_ rfl
  simp only [Tryz.ntmps58, List.size_toArray, List.length_cons, List.length_nil, Nat.reduceAdd, Nat.reduceSub, Array.replicate_succ, Array.replicate_zero, List.push_toArray, List.append_toArray, List.nil_append, List.cons_append]
  gi_wp2
  refine ⟨trivial, (fun h => by cases h), ?_⟩
  refine (callsIn_wide.2 (order_any (HH.out.below H0.out.lv.bel) HN.out)).mono ?_
  rintro e W2 ⟨ov, rfl, hrow, hfresh, hbo⟩
  rw [← HL.out] at hrow
  obtain ⟨oa, oc, rfl⟩ := hrow.len
  have HRW := Lib.hid (And.intro hrow (show ∀ g, (Value.slice oa L.length oc).ownBlock = some g → g ≠ p from fun g hg e => by have := hfresh g hg; omega))
  have HQ := Lib.hid (H0.out.below hbo)
  have HK2 := Lib.hid (hKW _ _ (KeepsR.of_below hbo) HK0.out)
  clear hrow hfresh hbo H0 HK0 c0 c1 hpw
  gi_wp2
  gi_loopw [11] (fun i wr => ∃ (j : Nat) (m : MapM), i = .int .i64 (j : Int) ∧ j ≤ L.length ∧ Hid (runE cs ds (L.take j) newM = (true, m)) ∧ Hid (QpAt w wr p m bs) ∧ Hid (ORow wr (.slice oa L.length oc) L) ∧ Hid (KW wr)) (fun i _ => L.length - (intOf i).toNat)
  case atStart => exact ⟨0, newM, rfl, Nat.zero_le _, Lib.hid rfl, HQ, Lib.hid HRW.out.1, HK2⟩
  case round =>
    obtain ⟨j, m, rfl, hjl, HR, HM, HO, HKr⟩ := hrel
    clear HQ HK2
    by_cases hlt : j < L.length
    · obtain ⟨x, hx⟩ : ∃ x, L[j]? = some x := ⟨_, List.getElem?_eq_getElem hlt⟩
      obtain ⟨a0, c0, hv, h1, h2, h3, h4⟩ := HO.out
      obtain ⟨g, o, ha, hgr, hr⟩ := h4 j x hx
      obtain ⟨he, -, -⟩ := slice_inj hv
      have hoa : oa = some ⟨g, o, none⟩ := he.trans ha
      subst hoa
      have ix : ∀ W : World, (Instr.indexAt 106 (.slice (some ⟨g, o, none⟩) L.length oc) (.int .i64 (j : Int))).run Tryz.prog W = .ok (.pointer (some ⟨g, o + j * 3, none⟩)) W := fun W => idx_ent rfl hlt W
      obtain ⟨b, hb⟩ : ∃ b, b = o + j * 3 := ⟨_, rfl⟩
      rw [← hb] at ix hr
      have e0 : wr.cell? ⟨g, b, none⟩ = some (.int .i64 x.step) := hr 0 _ rfl
      have e1 : wr.cell? ⟨g, b + 1, none⟩ = some (.int .i64 x.call) := hr 1 _ rfl
      have e2 : wr.cell? ⟨g, b + 2, none⟩ = some (.int .i64 x.drop) := hr 2 _ rfl
      have hal : Below wr.heap.size wr (wr.alloc (.cells #[.int .i64 x.step, .int .i64 x.call, .int .i64 x.drop] 108)) := (Below.refl _ _).alloc (Nat.le_refl _) _
      have HM1 := Lib.hid (HM.out.below hal)
      have HO1 := Lib.hid (HO.out.below hal)
      have HK1 := Lib.hid (hKW _ _ (KeepsR.of_below hal) HKr.out)
      have HX := Lib.hid hx
      have hj6 : j ≤ 1000000 := by omega
      have hxm : x ∈ orderL cs ds := by rw [← HL.out]; exact List.mem_of_getElem? hx
      have HBX := Lib.hid (show (wr.alloc (.cells #[.int .i64 x.step, .int .i64 x.call, .int .i64 x.drop] 108)).heap[wr.heap.size]? = some (.cells #[.int .i64 x.step, .int .i64 x.call, .int .i64 x.drop] 108 (0, 0)) from by rw [heap_at, if_pos rfl])
      have hep : ∀ y ∈ cs, y.epoch < 18446744073709551616 := fun y hy => (HH.out.callsIs y hy).epoch
      have hbd := run_bound (ds := ds) hep (l := L.take j) (m := newM) (by decide)
      rw [HR.out] at hbd
      have HBD := Lib.hid (show m.epoch < 18446744073709551616 ∧ m.ids ≤ 1000000 from ⟨hbd.1, by have h6 : m.ids ≤ newM.ids + (L.take j).length := hbd.2.1; have h7 : (L.take j).length ≤ j := List.length_take_le _ _; have h8 : newM.ids = 0 := rfl; omega⟩)
      obtain ⟨W3, hW3⟩ : ∃ X, X = wr.alloc (.cells #[.int .i64 x.step, .int .i64 x.call, .int .i64 x.drop] 108) := ⟨_, rfl⟩
      rw [← hW3] at HM1 HO1 HK1 HBX
      obtain ⟨pc, hpc⟩ : ∃ z, z = wr.heap.size := ⟨_, rfl⟩
      rw [← hpc] at HBX
      have HW3 := Lib.hid (And.intro hW3 hpc)
      clear hv h1 h2 h3 h4 ha he hr hb hal hbd hep hW3 hpc HO HM HKr hx
      rcases orderL_mem hxm with ⟨i, y, hy, rfl⟩ | ⟨i, y, hy, rfl⟩
      · have hi : i < cs.length := (List.getElem?_eq_some_iff.1 hy).1
        have hpos : (0 : Int) ≤ (i : Int) := by omega
        obtain ⟨g2, o2, c2, hv2, hg2, hr2⟩ := HH.out.calls.get hy
        obtain ⟨rfl, -, rfl⟩ := slice_inj hv2
        obtain ⟨b2, hb2⟩ : ∃ b, b = o2 + i * 20 := ⟨_, rfl⟩
        have iy : ∀ W : World, (Instr.indexAt 61 (.slice (some ⟨g2, o2, none⟩) cs.length cc) (.int .i64 (i : Int))).run Tryz.prog W = .ok (.pointer (some ⟨g2, b2, none⟩)) W := fun W => by rw [hb2]; exact idx_called rfl hi W
        have hr3 := hr2 W3 HM1.out.lv.bel
        rw [← hb2] at hr3
        obtain ⟨f1, f2, f3⟩ := HBS.out
        have k0 : W3.cell? ⟨rb, 0, none⟩ = some _ := (cells_at (HM1.out.kept _ f1).2 0).1
        have k1 : W3.cell? ⟨rb, 1, none⟩ = some _ := (cells_at (HM1.out.kept _ f1).2 1).1
        have k2 : W3.cell? ⟨rb + 1, 0, none⟩ = some (fitsF p) := (cells_at (HM1.out.kept _ f2).2 0).1
        have k3 : W3.cell? ⟨rb + 2, 0, none⟩ = some (dropF p) := (cells_at (HM1.out.kept _ f3).2 0).1
        have k4 : W3.cell? ⟨pc, 1, none⟩ = some _ := (cells_at HBX.out 1).1
        have k5 : W3.cell? ⟨pc, 2, none⟩ = some _ := (cells_at HBX.out 2).1
        have HR3 := Lib.hid (And.intro hr3 hy)
        clear hr2 hv2 hr3 hb2 f1 f2 f3 hy
        gi_wp2
        rw [← HW3.out.2, ← HW3.out.1]
        refine wpIn_wide.2 ?_
        refine wp_region_held_drew (S := fun W => W.cell? ⟨rb + 1, 0, none⟩ = some (fitsF p) ∧ W.cell? ⟨rb, 0, none⟩ = some (.slice (some ⟨g2, o2, none⟩) cs.length cc) ∧ W.cell? ⟨pc, 1, none⟩ = some (.int .i64 (i : Int)) ∧ W.rangeAt g2 b2 y.list) (by kernel_rfl) ⟨k2, k0, k4, HR3.out.1⟩ (fun hHeld => ?_)
        refine tkq (i := 0) (v := ?_) rfl (by kernel_rfl) (fun _ _ _ h => h) (by rfl) ?_ (by assumption) ?_
        rotate_left 1
        · ((intro w hSw; (try dsimp only at hSw); obtain ⟨c0, c1, c2, -⟩ := hSw; go_simp) <;> with_reducible rfl)
        try simp only [Act.put, tzA, tzB, tzC, tzD, tzE]
        refine tkq (i := 1) (v := ?_) rfl (by kernel_rfl) (fun _ _ _ h => h) (by rfl) ?_ (by assumption) ?_
        rotate_left 1
        · ((intro w hSw; (try dsimp only at hSw); go_simp) <;> with_reducible rfl)
        try simp only [Act.put, tzA, tzB, tzC, tzD, tzE, tzF]
        refine tkq (i := 2) (v := ?_) rfl (by kernel_rfl) (fun _ _ _ h => h) (by rfl) ?_ (by assumption) ?_
        rotate_left 1
        · ((intro w hSw; (try dsimp only at hSw); obtain ⟨c0, c1, c2, -⟩ := hSw; go_simp) <;> with_reducible rfl)
        try simp only [Act.put, tzA, tzB, tzC, tzD, tzE, tzF]
        refine tkq (i := 3) (v := ?_) rfl (by kernel_rfl) (fun _ _ _ h => h) (by rfl) ?_ (by assumption) ?_
        rotate_left 1
        · ((intro w hSw; (try dsimp only at hSw); go_simp) <;> with_reducible rfl)
        try simp only [Act.put, tzA, tzB, tzC, tzD, tzE, tzF]
        refine tkq (i := 4) (v := ?_) rfl (by kernel_rfl) (fun _ _ _ h => h) (by rfl) ?_ (by assumption) ?_
        rotate_left 1
        · ((intro w hSw; (try dsimp only at hSw); obtain ⟨c0, c1, c2, -⟩ := hSw; go_simp) <;> with_reducible rfl)
        try simp only [Act.put, tzA, tzB, tzC, tzD, tzE, tzF]
        refine tkq (i := 5) (v := ?_) rfl (by kernel_rfl) (fun _ _ _ h => h) (by rfl) ?_ (by assumption) ?_
        rotate_left 1
        · ((intro w hSw; (try dsimp only at hSw); go_simp) <;> with_reducible rfl)
        try simp only [Act.put, tzA, tzB, tzC, tzD, tzE, tzF]
        refine wpAnyH_take (i := 6) rfl (by kernel_rfl) (by kernel_rfl) (by kernel_rfl) (fun _ _ _ h => h) (yieldsIf_load_mid (by rfl) 42 (.tmp 24) (by rfl) g2 b2 (by rfl) y.list _ (fun w hSw => hSw.2.2.2) Tryz.underlying42 rfl (by kernel_rfl)) (by assumption) ?_
        try simp only [Act.put, tzA, tzB, tzC, tzD, tzE, tzF]
        refine wpAnyH_ready (rs := [7]) (by kernel_rfl) (by simp) ?_
        refine (AllReadyH.cons rfl (fun K hK => ?_) AllReadyH.nil)
        go_simp
        have hIs := HH.out.callsIs y (List.mem_of_getElem? HR3.out.2)
        refine (mapsFits_any (x := y) (HM1.out.lv.map.below (bdrew (Below.refl _ _))) HBD.out.1 hIs.epoch hIs.key hIs.verb hIs.exp hIs.by' (by have := HBD.out.2; omega) (HEP.out.1.below (bdrew HM1.out.lv.bel)) (HEP.out.2.below (bdrew HM1.out.lv.bel))).mono ?_
        rintro e W4 ⟨rfl, hm4, hc4⟩
        obtain ⟨rr, hrr⟩ : ∃ r, r = fitsM m y.call y.epoch y.ans := ⟨_, rfl⟩
        rw [← hrr] at hm4 ⊢
        have hst : stepE cs ds m ⟨y.point, (i : Int), -1⟩ = (rr.1, rr.2) := by rw [stepE_call HR3.out.2, ← hrr]
        have hc5 : MChg W3 p W4 := (MChg.below (bdrew (Below.refl _ _)) HM1.out.lv.map.lt).then hc4
        have HF := Lib.hid (fact_next (by rw [← HL.out]; exact HR.out) (by rw [← HL.out]; exact HX.out) hst)
        have HQ4 := Lib.hid (HM1.out.step hm4 hc5)
        have HO4 := Lib.hid (orow_keep HO1.out HM1.out.lv.map hc5 HRW.out.2)
        have HK4 := Lib.hid (hKW _ _ (HM1.out.keep hc5 B) HK1.out)
        obtain ⟨bb, m4⟩ := rr
        have KS : ∀ (Z : Nat × Array Value × TypeId), Z ∈ bs → W4.heap[Z.1]? = some (.cells Z.2.1 Z.2.2 (0, 0)) := fun Z hZ => (HQ4.out.kept Z hZ).2
        have hr4 := HQ4.out.lv.bel
        obtain ⟨f1, f2, f3⟩ := HBS.out
        obtain ⟨g3, o3, c3, hv3, hg3, hr5⟩ := HH.out.calls.get HR3.out.2
        have hpc4 : W4.heap[pc]? = some _ := hc5.chg.obj HBX.out (fun hM => by
          rcases MM.kind HM1.out.lv.map hM with e | ⟨es, clock, e⟩
          · obtain ⟨mb, hb5, -⟩ := HM1.out.lv.map; rw [← e, HBX.out] at hb5; cases hb5
          · rw [HBX.out] at e; cases e)
        refine hK.out _ _ ⟨(cells_at (KS _ f2) 0).1, (cells_at (KS _ f1) 0).1, (cells_at hpc4 1).1, range_kept hc5.chg (Nat.lt_of_lt_of_le hg2 HM1.out.lv.bel.size) (fun hM => by have h9 : g2 < w.heap.size := hg2; rcases hM with e | e; (have := HM1.out.lv.low; omega); (have := HM1.out.lv.new _ e; omega)) HR3.out.1⟩ (fun hHeld2 => ?_)
        clear hK K
        refine tkq (i := 8) (v := ?_) rfl (by kernel_rfl) (fun _ _ _ h => h) (by rfl) ?_ (by assumption) ?_
        rotate_left 1
        · ((intro w hSw; (try dsimp only at hSw); go_simp) <;> with_reducible rfl)
        try simp only [Act.put, tzA, tzB, tzC, tzD, tzE, tzF]
        refine wpAnyH_done (by kernel_rfl) ?_ _
        clear hHeld hHeld2
        obtain ⟨fn, tmps, assign, body, hy, hR⟩ := HY.out j bb m4 W4 HQ4.out HF.out HK4.out
        clear hr4 hpc4 KS hst hm4 hc4 hc5 f1 f2 f3 k0 k1 k2 k3 k4 k5 hr5 hv3 hg3
        gi_wp2
        refine ⟨(fun h => by cases h), ?_⟩
        refine hR.mono ?_
        rintro e W5 (⟨rfl, ⟨hq5, hok, hcr⟩, hk5⟩ | ⟨rfl, c, hx5, hd5⟩)
        · have HQ5 := Lib.hid (And.intro hq5 (And.intro hok hk5))
          have HO5 := Lib.hid (orow_turn HO4.out hcr)
          clear hq5 hok hk5 hcr
          cases bb
          · have hfin : ThEnd cs ds Okb m4 := by
              rcases HF.out with ⟨h1, -⟩ | ⟨-, h1⟩
              · cases h1
              · exact ⟨by rw [h1], .inr HQ5.out.2.1⟩
            have HFIN := Lib.hid hfin
            clear hfin
            gi_wp2
            exact bodyPost_ret (results_none (by exact Tryz.results58) _ _ _) rfl ⟨⟨_, rfl⟩, .inl ⟨_, HQ5.out.1, HFIN.out, HQ5.out.2.2⟩⟩
          · have hrun : runE cs ds (L.take (j + 1)) newM = (true, m4) := by
              rcases HF.out with ⟨-, h1⟩ | ⟨h1, -⟩
              · rw [HL.out]; exact h1
              · cases h1
            have HRN := Lib.hid hrun
            clear hrun
            gi_wp2
            go_roundw
            case rel => exact ⟨j + 1, m4, by go_num, by omega, HRN, Lib.hid HQ5.out.1, HO5, Lib.hid HQ5.out.2.2⟩
            case measure => simp [intOf]; omega
        · have HX5 := Lib.hid (And.intro hx5 hd5)
          clear hx5 hd5
          gi_wp2
          exact bodyPost_ret (results_none (by exact Tryz.results58) _ _ _) rfl ⟨⟨_, rfl⟩, .inr ⟨_, _, _, _, HX5.out.1, HX5.out.2⟩⟩
      · have hi : i < ds.length := (List.getElem?_eq_some_iff.1 hy).1
        have hpos : ¬ (0 : Int) ≤ -1 := by decide
        obtain ⟨g2, o2, c2, hv2, hg2, hr2⟩ := HH.out.drops.get hy
        obtain ⟨rfl, -, rfl⟩ := slice_inj hv2
        obtain ⟨b2, hb2⟩ : ∃ b, b = o2 + i * 7 := ⟨_, rfl⟩
        have iy : ∀ W : World, (Instr.indexAt 62 (.slice (some ⟨g2, o2, none⟩) ds.length dc) (.int .i64 (i : Int))).run Tryz.prog W = .ok (.pointer (some ⟨g2, b2, none⟩)) W := fun W => by rw [hb2]; exact idx_drop rfl hi W
        have hr3 := hr2 W3 HM1.out.lv.bel
        rw [← hb2] at hr3
        obtain ⟨f1, f2, f3⟩ := HBS.out
        have k0 : W3.cell? ⟨rb, 0, none⟩ = some _ := (cells_at (HM1.out.kept _ f1).2 0).1
        have k1 : W3.cell? ⟨rb, 1, none⟩ = some _ := (cells_at (HM1.out.kept _ f1).2 1).1
        have k2 : W3.cell? ⟨rb + 1, 0, none⟩ = some (fitsF p) := (cells_at (HM1.out.kept _ f2).2 0).1
        have k3 : W3.cell? ⟨rb + 2, 0, none⟩ = some (dropF p) := (cells_at (HM1.out.kept _ f3).2 0).1
        have k4 : W3.cell? ⟨pc, 1, none⟩ = some _ := (cells_at HBX.out 1).1
        have k5 : W3.cell? ⟨pc, 2, none⟩ = some _ := (cells_at HBX.out 2).1
        have HR3 := Lib.hid (And.intro hr3 hy)
        clear hr2 hv2 hr3 hb2 f1 f2 f3 hy
        gi_wp2
        rw [← HW3.out.2, ← HW3.out.1]
        refine wpIn_wide.2 ?_
        refine wp_region_held_drew (S := fun W => W.cell? ⟨rb + 2, 0, none⟩ = some (dropF p) ∧ W.cell? ⟨rb, 1, none⟩ = some (.slice (some ⟨g2, o2, none⟩) ds.length dc) ∧ W.cell? ⟨pc, 2, none⟩ = some (.int .i64 (i : Int)) ∧ W.rangeAt g2 b2 y.list) (by kernel_rfl) ⟨k3, k1, k5, HR3.out.1⟩ (fun hHeld => ?_)
        refine tkq (i := 0) (v := ?_) rfl (by kernel_rfl) (fun _ _ _ h => h) (by rfl) ?_ (by assumption) ?_
        rotate_left 1
        · ((intro w hSw; (try dsimp only at hSw); obtain ⟨c0, c1, c2, -⟩ := hSw; go_simp) <;> with_reducible rfl)
        try simp only [Act.put, tzA, tzB, tzC, tzD, tzE]
        refine tkq (i := 1) (v := ?_) rfl (by kernel_rfl) (fun _ _ _ h => h) (by rfl) ?_ (by assumption) ?_
        rotate_left 1
        · ((intro w hSw; (try dsimp only at hSw); go_simp) <;> with_reducible rfl)
        try simp only [Act.put, tzA, tzB, tzC, tzD, tzE, tzF]
        refine tkq (i := 2) (v := ?_) rfl (by kernel_rfl) (fun _ _ _ h => h) (by rfl) ?_ (by assumption) ?_
        rotate_left 1
        · ((intro w hSw; (try dsimp only at hSw); obtain ⟨c0, c1, c2, -⟩ := hSw; go_simp) <;> with_reducible rfl)
        try simp only [Act.put, tzA, tzB, tzC, tzD, tzE, tzF]
        refine tkq (i := 3) (v := ?_) rfl (by kernel_rfl) (fun _ _ _ h => h) (by rfl) ?_ (by assumption) ?_
        rotate_left 1
        · ((intro w hSw; (try dsimp only at hSw); go_simp) <;> with_reducible rfl)
        try simp only [Act.put, tzA, tzB, tzC, tzD, tzE, tzF]
        refine tkq (i := 4) (v := ?_) rfl (by kernel_rfl) (fun _ _ _ h => h) (by rfl) ?_ (by assumption) ?_
        rotate_left 1
        · ((intro w hSw; (try dsimp only at hSw); obtain ⟨c0, c1, c2, -⟩ := hSw; go_simp) <;> with_reducible rfl)
        try simp only [Act.put, tzA, tzB, tzC, tzD, tzE, tzF]
        refine tkq (i := 5) (v := ?_) rfl (by kernel_rfl) (fun _ _ _ h => h) (by rfl) ?_ (by assumption) ?_
        rotate_left 1
        · ((intro w hSw; (try dsimp only at hSw); go_simp) <;> with_reducible rfl)
        try simp only [Act.put, tzA, tzB, tzC, tzD, tzE, tzF]
        refine tkq (i := 6) (v := ?_) rfl (by kernel_rfl) (fun _ _ _ h => h) (by rfl) ?_ (by assumption) ?_
        rotate_left 1
        · ((intro w hSw; (try dsimp only at hSw); go_simp) <;> with_reducible rfl)
        try simp only [Act.put, tzA, tzB, tzC, tzD, tzE, tzF]
        refine tkq (i := 7) (v := ?_) rfl (by kernel_rfl) (fun _ _ _ h => h) (by rfl) ?_ (by assumption) ?_
        rotate_left 1
        · ((intro w hSw; (try dsimp only at hSw); obtain ⟨-, -, -, hq⟩ := hSw; have q1 := hq 1 _ rfl; have q2 := hq 2 _ rfl; have q3 := hq 3 _ rfl; have q4 := hq 4 _ rfl; have q5 := hq 5 _ rfl; have q6 := hq 6 _ rfl; go_simp) <;> with_reducible rfl)
        try simp only [Act.put, tzA, tzB, tzC, tzD, tzE, tzF]
        refine wpAnyH_ready (rs := [8]) (by kernel_rfl) (by simp) ?_
        refine (AllReadyH.cons rfl (fun K hK => ?_) AllReadyH.nil)
        go_simp
        have hIs := HH.out.dropsIs y (List.mem_of_getElem? HR3.out.2)
        refine (mapsDrop_any (x := y.item) (HM1.out.lv.map.below (bdrew (Below.refl _ _))) hIs.key).mono ?_
        rintro e W4 ⟨rfl, hm4, hc4⟩
        obtain ⟨rr, hrr⟩ : ∃ r, r = dropM m y.item := ⟨_, rfl⟩
        rw [← hrr] at hm4 ⊢
        have hst : stepE cs ds m ⟨y.step, -1, (i : Int)⟩ = (rr.1, rr.2) := by rw [stepE_drop HR3.out.2, ← hrr]
        have hc5 : MChg W3 p W4 := (MChg.below (bdrew (Below.refl _ _)) HM1.out.lv.map.lt).then hc4
        have HF := Lib.hid (fact_next (by rw [← HL.out]; exact HR.out) (by rw [← HL.out]; exact HX.out) hst)
        have HQ4 := Lib.hid (HM1.out.step hm4 hc5)
        have HO4 := Lib.hid (orow_keep HO1.out HM1.out.lv.map hc5 HRW.out.2)
        have HK4 := Lib.hid (hKW _ _ (HM1.out.keep hc5 B) HK1.out)
        obtain ⟨bb, m4⟩ := rr
        have KS : ∀ (Z : Nat × Array Value × TypeId), Z ∈ bs → W4.heap[Z.1]? = some (.cells Z.2.1 Z.2.2 (0, 0)) := fun Z hZ => (HQ4.out.kept Z hZ).2
        have hr4 := HQ4.out.lv.bel
        obtain ⟨f1, f2, f3⟩ := HBS.out
        have hpc4 : W4.heap[pc]? = some _ := hc5.chg.obj HBX.out (fun hM => by
          rcases MM.kind HM1.out.lv.map hM with e | ⟨es, clock, e⟩
          · obtain ⟨mb, hb5, -⟩ := HM1.out.lv.map; rw [← e, HBX.out] at hb5; cases hb5
          · rw [HBX.out] at e; cases e)
        refine hK.out _ _ ⟨(cells_at (KS _ f3) 0).1, (cells_at (KS _ f1) 1).1, (cells_at hpc4 2).1, range_kept hc5.chg (Nat.lt_of_lt_of_le hg2 HM1.out.lv.bel.size) (fun hM => by have h9 : g2 < w.heap.size := hg2; rcases hM with e | e; (have := HM1.out.lv.low; omega); (have := HM1.out.lv.new _ e; omega)) HR3.out.1⟩ (fun hHeld2 => ?_)
        clear hK K
        refine tkq (i := 9) (v := ?_) rfl (by kernel_rfl) (fun _ _ _ h => h) (by rfl) ?_ (by assumption) ?_
        rotate_left 1
        · ((intro w hSw; (try dsimp only at hSw); go_simp) <;> with_reducible rfl)
        try simp only [Act.put, tzA, tzB, tzC, tzD, tzE, tzF]
        refine wpAnyH_done (by kernel_rfl) ?_ _
        clear hHeld hHeld2
        obtain ⟨fn, tmps, assign, body, hy, hR⟩ := HY.out j bb m4 W4 HQ4.out HF.out HK4.out
        clear hr4 hpc4 KS hst hm4 hc4 hc5 f1 f2 f3 k0 k1 k2 k3 k4 k5
        gi_wp2
        refine ⟨(fun h => by cases h), ?_⟩
        refine hR.mono ?_
        rintro e W5 (⟨rfl, ⟨hq5, hok, hcr⟩, hk5⟩ | ⟨rfl, c, hx5, hd5⟩)
        · have HQ5 := Lib.hid (And.intro hq5 (And.intro hok hk5))
          have HO5 := Lib.hid (orow_turn HO4.out hcr)
          clear hq5 hok hk5 hcr
          cases bb
          · have hfin : ThEnd cs ds Okb m4 := by
              rcases HF.out with ⟨h1, -⟩ | ⟨-, h1⟩
              · cases h1
              · exact ⟨by rw [h1], .inr HQ5.out.2.1⟩
            have HFIN := Lib.hid hfin
            clear hfin
            gi_wp2
            exact bodyPost_ret (results_none (by exact Tryz.results58) _ _ _) rfl ⟨⟨_, rfl⟩, .inl ⟨_, HQ5.out.1, HFIN.out, HQ5.out.2.2⟩⟩
          · have hrun : runE cs ds (L.take (j + 1)) newM = (true, m4) := by
              rcases HF.out with ⟨-, h1⟩ | ⟨h1, -⟩
              · rw [HL.out]; exact h1
              · cases h1
            have HRN := Lib.hid hrun
            clear hrun
            gi_wp2
            go_roundw
            case rel => exact ⟨j + 1, m4, by go_num, by omega, HRN, Lib.hid HQ5.out.1, HO5, Lib.hid HQ5.out.2.2⟩
            case measure => simp [intOf]; omega
        · have HX5 := Lib.hid (And.intro hx5 hd5)
          clear hx5 hd5
          gi_wp2
          exact bodyPost_ret (results_none (by exact Tryz.results58) _ _ _) rfl ⟨⟨_, rfl⟩, .inr ⟨_, _, _, _, HX5.out.1, HX5.out.2⟩⟩
    · obtain rfl : j = L.length := by omega
      rw [List.take_length] at HR
      have hall := goE_all (cs := cs) (ds := ds) (l := L) (i := 0) (m := newM) (by rw [HR.out])
      rw [HR.out, HL.out] at hall
      have HFIN := Lib.hid (show ThEnd cs ds Okb m from ⟨by rw [hall], .inl (by rw [hall])⟩)
      clear hall
      gi_wp2
      go_end0
      exact ⟨⟨_, rfl⟩, .inl ⟨_, HM.out, HFIN.out, HKr.out⟩⟩
end Go.Proofs.YtaooangnnlopcaaGreatDoor
