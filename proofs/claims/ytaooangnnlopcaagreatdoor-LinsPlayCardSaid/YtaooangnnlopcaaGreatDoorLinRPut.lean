/- The document's order: an entry is put in its place (put); which call is ahead (ahead). Condition: what they read lies in memory. -/
import Derived.Test.YtaooangnnlopcaaGreatDoorLiA
import Derived.Test.YtaooangnnlopcaaGreatDoorLiD
import Derived.Maps.AppendAt
import Derived.Deep.AppendLies
import Derived.Deep.MidRow
import Derived.Test.YtaooangnnlopcaaGreatDoorLowA
namespace Go.Proofs.YtaooangnnlopcaaGreatDoor
open Go.RowKit Go.ChangeMaps Go.MapKept
theorem setCells_listE : ∀ (vs A old C : List Value) (w : World) (b : Nat) (t : TypeId), w.heap[b]? = some (.cells (A ++ old ++ C).toArray t (0, 0)) → old.length = vs.length →
    (w.setCells b A.length vs).heap[b]? = some (.cells (A ++ vs ++ C).toArray t (0, 0))
  | [], A, old, C, w, b, t, h, hl => by
    obtain rfl : old = [] := List.eq_nil_of_length_eq_zero (by simpa using hl)
    exact h
  | v :: vs, A, [], C, w, b, t, h, hl => by simp at hl
  | v :: vs, A, u :: old, C, w, b, t, h, hl => by
    have h1 := heap_setCell_same w b A.length _ t v h
    have h2 : (A ++ u :: old ++ C).toArray.setIfInBounds A.length v = ((A ++ [v]) ++ old ++ C).toArray := by
      rw [List.setIfInBounds_toArray]
      congr 1
      simp
    rw [h2] at h1
    have h3 := setCells_listE vs (A ++ [v]) old C (w.setCell ⟨b, A.length, none⟩ v) b t h1 (by simpa using hl)
    rw [List.length_append] at h3
    show ((w.setCell ⟨b, A.length, none⟩ v).setCells b (A.length + 1) vs).heap[b]? = _
    rw [show A ++ v :: vs ++ C = A ++ [v] ++ vs ++ C from by simp]
    exact h3

theorem infoREnt : (Tryz.prog.info? 99).map (fun i => (i.zero, i.size, i.bytes)) = some (some (.agg #[.int .i64 0, .int .i64 0, .int .i64 0]), 3, 24) := by kernel_rfl
theorem infoRCalled : (Tryz.prog.info? 52).map (fun i => (i.zero, i.size)) = some (some (.agg calledZero), 20) := by kernel_rfl
theorem idx_rent {g n c k : Nat} (hk : k < n) (W : World) : (Instr.indexAt 96 (.slice (some ⟨g, 0, none⟩) n c) (.int .i64 (k : Int))).run Tryz.prog W = .ok (.pointer (some ⟨g, k * 3, none⟩)) W := by
  have h0 : (0 : Int) ≤ (k : Int) := by omega
  have h1 : (k : Int) < (n : Int) := by omega
  have h2 := Tryz.underlying96
  obtain ⟨i0, hi, hz0, hz1, hz2⟩ := info_parts infoREnt
  go_simp
theorem idx_rcalled {a : Option Addr} {g o n c k : Nat} (ha : a = some ⟨g, o, none⟩) (hk : k < n) (W : World) : (Instr.indexAt 69 (.slice a n c) (.int .i64 (k : Int))).run Tryz.prog W = .ok (.pointer (some ⟨g, o + k * 20, none⟩)) W := by
  subst ha
  have h0 : (0 : Int) ≤ (k : Int) := by omega
  have h1 : (k : Int) < (n : Int) := by omega
  have h2 := Tryz.underlying69
  obtain ⟨i0, hi, hz0, hz1⟩ := info_parts2 infoRCalled
  go_simp
/-- Entries in a block, and whatever lies behind them. -/
def EBlk (W : World) (g : Nat) (L : List EntD) (rest : List Value) : Prop := W.heap[g]? = some (.cells (L.flatMap entCells ++ rest).toArray 99 (0, 0))
theorem ents_len (L : List EntD) : (L.flatMap entCells).length = L.length * 3 := flat_len (sz := 3) (fun _ => rfl) L
theorem EBlk.lt {W : World} {g : Nat} {L : List EntD} {rest : List Value} (h : EBlk W g L rest) : g < W.heap.size := (Array.getElem?_eq_some_iff.1 h).1
theorem EBlk.range {W : World} {g : Nat} {L : List EntD} {rest : List Value} (h : EBlk W g L rest) {j : Nat} {x : EntD} (hj : L[j]? = some x) : W.rangeAt g (j * 3) (entCells x) := fun i u hu => by
  have hi : i < 3 := (List.getElem?_eq_some_iff.1 hu).1
  have hjl := (List.getElem?_eq_some_iff.1 hj).1
  rw [(cells_at h (j * 3 + i)).1, List.getElem?_toArray, List.getElem?_append_left (by rw [ents_len]; omega), flat_get (sz := 3) (fun _ => rfl) hj hi]
  exact hu
theorem EBlk.there {W : World} {g : Nat} {L : List EntD} {rest : List Value} (h : EBlk W g L rest) {j : Nat} (hj : j < L.length) : W.there g (j * 3) 3 := fun i hi => by
  refine ⟨?_, frozen_of_row W g (j * 3 + i) _ _ h⟩
  rw [(cells_at h (j * 3 + i)).1, List.getElem?_toArray, List.getElem?_eq_getElem (by rw [List.length_append, ents_len]; omega)]
  rfl
theorem EBlk.put {W : World} {g : Nat} {A B : List EntD} {x y : EntD} {rest : List Value} (h : EBlk W g (A ++ x :: B) rest) : EBlk (W.setCells g (A.length * 3) (entCells y)) g (A ++ y :: B) rest := by
  unfold EBlk at h
  have h2 := setCells_listE (entCells y) (A.flatMap entCells) (entCells x) (B.flatMap entCells ++ rest) W g 99 (by rw [h]; simp [List.flatMap_append, List.flatMap_cons, List.append_assoc]) rfl
  rw [ents_len] at h2
  unfold EBlk
  rw [h2]
  simp [List.flatMap_append, List.flatMap_cons, List.append_assoc]
theorem EBlk.swap {W : World} {g : Nat} {A B : List EntD} {x y z u : EntD} {rest : List Value} (h : EBlk W g (A ++ x :: y :: B) rest) {i j : Nat} (hi : i = A.length + 1) (hj : j = A.length) : EBlk ((W.setCells g (i * 3) (entCells z)).setCells g (j * 3) (entCells u)) g (A ++ u :: z :: B) rest := by
  subst hi hj
  have h0 : EBlk W g ((A ++ [x]) ++ y :: B) rest := by rw [List.append_assoc]; exact h
  have h1 := h0.put (y := z)
  rw [List.length_append, List.append_assoc] at h1
  exact (show EBlk _ g (A ++ x :: z :: B) rest from h1).put
theorem EBlk.kept {M : Nat → Prop} {W W' : World} {g : Nat} {L : List EntD} {rest : List Value} (h : EBlk W g L rest) (hc : Chg M W W') (hM : ¬ M g) : EBlk W' g L rest := hc.obj h hM
theorem eblk_of {W : World} {B : Nat} {v : Value} {L : List EntD} {n : Nat} (h : W.ownsRow B 99 3 v n (L.flatMap entCells)) (hn : n = L.length) (h0 : 0 < n) : ∃ g c rest, v = .slice (some ⟨g, 0, none⟩) n c ∧ B ≤ g ∧ n ≤ c ∧ c ≤ maxLen ∧ rest.length = (c - n) * 3 ∧ EBlk W g L rest := by
  subst hn
  obtain ⟨hl, h2⟩ := h
  rcases h2 with ⟨rfl, h3⟩ | ⟨g, cap, cur, rfl, hg, hh, hn, hm, hs, ht⟩
  · omega
  · refine ⟨g, cap, cur.toList.drop (L.length * 3), rfl, hg, hn, hm, ?_, ?_⟩
    · rw [List.length_drop, Array.length_toList, hs, Nat.sub_mul]
    · unfold EBlk
      rw [hh, ← ht, List.take_append_drop]
theorem owns_of {W : World} {B g c : Nat} {L : List EntD} {rest : List Value} (h : EBlk W g L rest) (hB : B ≤ g) (hn : L.length ≤ c) (hc : c ≤ maxLen) (hr : rest.length = (c - L.length) * 3) : W.ownsRow B 99 3 (.slice (some ⟨g, 0, none⟩) L.length c) L.length (L.flatMap entCells) := by
  refine ⟨ents_len L, .inr ⟨g, c, _, rfl, hB, h, hn, hc, ?_, ?_⟩⟩
  · rw [List.size_toArray, List.length_append, ents_len, hr, Nat.sub_mul]
    have := Nat.mul_le_mul_right 3 hn
    omega
  · rw [← ents_len L]
    exact List.take_left
def aheadB (x y : CalledD) (a b : Nat) : Bool := decide (x.point < y.point) || ((x.point == y.point) && decide (a < b))
theorem aheadB_iff {x y : CalledD} {a b : Nat} : aheadB x y a b = true ↔ (x.point < y.point ∨ (x.point = y.point ∧ a < b)) := by
  unfold aheadB
  simp
set_option maxRecDepth 100000 in
set_option maxHeartbeats 8000000 in
theorem ahead_any {w : World} {cv dv : Value} {cs : List CalledD} {ds : List DropD} (h : HistAt w cv dv cs ds) {a b : Nat} {x y : CalledD} (ha : cs[a]? = some x) (hb : cs[b]? = some y) : Calls Tryz.prog 41 #[.agg #[cv, dv], .int .i64 (a : Int), .int .i64 (b : Int)] w fun e w' => e = .returned (.bool (aheadB x y a b)) ∧ Below w.heap.size w w' := by
  obtain ⟨ca, cc, rfl⟩ := h.calls.len
  have hal := (List.getElem?_eq_some_iff.1 ha).1
  have hbl := (List.getElem?_eq_some_iff.1 hb).1
  have hmx := h.calls.max
  unfold maxLen at hmx
  obtain ⟨g, o, c', hv, hg, hr⟩ := h.calls.get ha
  obtain ⟨g2, o2, c2, hv2, hg2, hr2⟩ := h.calls.get hb
  obtain ⟨rfl, -, rfl⟩ := slice_inj hv
  obtain ⟨e2, -, -⟩ := slice_inj hv2
  obtain ⟨rfl, rfl⟩ : g = g2 ∧ o = o2 := by simpa using e2
  have ixa : ∀ W : World, (Instr.indexAt 69 (.slice (some ⟨g, o, none⟩) cs.length cc) (.int .i64 (a : Int))).run Tryz.prog W = .ok (.pointer (some ⟨g, o + a * 20, none⟩)) W := fun W => idx_rcalled rfl hal W
  have ixb : ∀ W : World, (Instr.indexAt 69 (.slice (some ⟨g, o, none⟩) cs.length cc) (.int .i64 (b : Int))).run Tryz.prog W = .ok (.pointer (some ⟨g, o + b * 20, none⟩)) W := fun W => idx_rcalled rfl hbl W
  obtain ⟨oa, hoa⟩ : ∃ z, z = o + a * 20 := ⟨_, rfl⟩
  obtain ⟨ob, hob⟩ : ∃ z, z = o + b * 20 := ⟨_, rfl⟩
  rw [← hoa] at ixa hr
  rw [← hob] at ixb hr2
  have HR := Lib.hid (show (∀ W, Below w.heap.size w W → W.cell? ⟨g, oa + 19, none⟩ = some (.int .i64 x.point)) ∧ (∀ W, Below w.heap.size w W → W.cell? ⟨g, ob + 19, none⟩ = some (.int .i64 y.point)) from ⟨fun W hW => hr W hW 19 _ rfl, fun W hW => hr2 W hW 19 _ rfl⟩)
  obtain ⟨N, hN⟩ : ∃ N, N = cs.length := ⟨_, rfl⟩
  rw [← hN] at ixa ixb ⊢
  clear hr hr2 hv hv2 e2 h hoa hob ha hb hal hbl hmx hg2 hN
  unfold aheadB
  generalize x.point = p at *
  generalize y.point = q at *
  obtain ⟨bb, hbb⟩ : ∃ z, z = (decide (p < q) || (p == q) && decide (a < b)) := ⟨_, rfl⟩
  rw [← hbb]
  have HBB := Lib.hid hbb
  clear hbb
  go_enter Tryz.func41, Tryz.ntmps41
  go_upto_region 1 with fail
  obtain ⟨W0, hW0⟩ : ∃ X, X = w.alloc (.cells #[.slice (some ⟨g, o, none⟩) N cc, dv] 72) := ⟨_, rfl⟩
  have hb0 : Below w.heap.size w W0 := by rw [hW0]; exact (Below.refl _ _).alloc (Nat.le_refl _) _
  have hx0 : W0.heap[w.heap.size]? = some (.cells #[.slice (some ⟨g, o, none⟩) N cc, dv] 72 (0, 0)) := by rw [hW0, heap_at, if_pos rfl]
  rw [← hW0]
  clear hW0
  obtain ⟨ph, hph⟩ : ∃ z, z = w.heap.size := ⟨_, rfl⟩
  rw [← hph] at hx0 ⊢
  have k0 : W0.cell? ⟨ph, 0, none⟩ = some (.slice (some ⟨g, o, none⟩) N cc) := (cells_at hx0 0).1
  have z1 := HR.out.1 W0 hb0
  have z2 := HR.out.2 W0 hb0
  have HB0 := Lib.hid hb0
  clear hb0 hx0 hph HR
  by_cases h1 : p < q
  · have e2 : bb = true := by rw [HBB.out]; simp [h1]
    subst e2
    go_wp2_with fail
    go_ret
    exact ⟨rfl, HB0.out⟩
  · by_cases h2 : p = q
    · have h2' : (p == q) = true := beq_iff_eq.2 h2
      by_cases h3 : a < b
      · have e2 : bb = true := by rw [HBB.out]; simp [h2, h3]
        subst e2
        clear h2
        go_wp2_with fail
        go_ret
        exact ⟨rfl, HB0.out⟩
      · have e2 : bb = false := by rw [HBB.out]; simp [h1, h3]
        subst e2
        clear h2
        go_wp2_with fail
        go_ret
        exact ⟨rfl, HB0.out⟩
    · have h2' : (p == q) = false := by simpa using h2
      have e2 : bb = false := by rw [HBB.out]; simp [h1, h2]
      subst e2
      clear h2
      go_wp2_with fail
      go_ret
      exact ⟨rfl, HB0.out⟩
/-- What put answers. -/
def PutOk (w : World) (B nc : Nat) (lv : Value) (L : List EntD) (x : EntD) (e : Ending) (w' : World) : Prop :=
  ∃ v L', e = .returned v ∧ SortE nc L' ∧ L'.Perm (L ++ [x]) ∧ w'.ownsRow B 99 3 v L'.length (L'.flatMap entCells) ∧ Chg (fun k => lv.ownBlock = some k) w w' ∧ (∀ k, v.ownBlock = some k → lv.ownBlock = some k ∨ w.heap.size ≤ k)
set_option maxRecDepth 100000 in
set_option maxHeartbeats 8000000 in
theorem rput_any {w : World} {B nc : Nat} {lv : Value} {L : List EntD} {x : EntD} (h : w.ownsRow B 99 3 lv L.length (L.flatMap entCells)) (hB : B ≤ w.heap.size) (hs : SortE nc L) (hr : ∀ y ∈ L, rkE nc y < rkE nc x) (hn : L.length ≤ 1000000) :
    Calls Tryz.prog 57 #[lv, .agg #[.int .i64 x.step, .int .i64 x.call, .int .i64 x.drop]] w fun e w' => PutOk w B nc lv L x e w' := by
  obtain ⟨i0, hi, hz0, hz1, hz2⟩ := info_parts infoREnt
  have Hi := Lib.hid hi
  have Hz := Lib.hid (And.intro hz0 (And.intro hz1 hz2))
  have HO := Lib.hid h
  have HS := Lib.hid (And.intro hs hr)
  have hwn : w.heap.size ≤ w.heap.size := Nat.le_refl _
  have hlow : ∀ k, lv.ownBlock = some k → k < w.heap.size := fun k hk => (h.lt k hk).2
  have HLW := Lib.hid hlow
  clear hi hz0 hz1 hz2 h hs hr hwn hlow
  go_enter Tryz.func57, Tryz.ntmps57
  go_upto_region 2 with (first
    | (at_builtin; refine wpList_append_own_at _ (by rfl) _ _ 96 (by rfl) B 99 i0 (.agg #[.int .i64 0, .int .i64 0, .int .i64 0]) 3 24 Tryz.underlying96 Hi.out Hz.out.1 Hz.out.2.1 Hz.out.2.2 rfl (by omega) _ _ _ (by rfl) ((owns_grow HO.out ((Chg.refl (fun _ => False) w).alloc _) (fun _ _ e => e)).alloc _) ⟨w.heap.size + 1, 0, none⟩ 1 1 (entCells x) (by rfl) rfl (World.news_of_block (cs := (entCells x).toArray) (by rw [heap_at, if_pos (by simp)])) (by simp [Value.oneCell']) (by unfold maxLen; omega) (by omega) (by simp; omega) ?_; intro ov w2 hown2 hg2 _ hat2)
    | fail)
  have hown3 : w2.ownsRow B 99 3 ov (L.length + 1) ((L ++ [x]).flatMap entCells) := by rw [List.flatMap_append]; simpa using hown2
  have hcg : Chg (fun k => lv.ownBlock = some k) _ w2 := Chg.of_grown hg2 (fun _ _ e => e)
  have hcw : Chg (fun k => lv.ownBlock = some k) w w2 := (((Chg.refl _ w).alloc _).alloc _).then (M' := fun k => lv.ownBlock = some k) hcg (fun _ _ e => e)
  have hbx : w2.heap[w.heap.size]? = some (.cells (entCells x).toArray 99 (0, 0)) := hcg.obj (by rw [heap_at, if_neg (by simp), heap_at, if_pos rfl]) (fun e => by have := HLW.out _ e; omega)
  obtain ⟨g, c, rest, rfl, hgB, hc1, hc2, hrl, hE⟩ := eblk_of hown3 (by simp) (by omega)
  have hgl : lv.ownBlock = some g ∨ w.heap.size + 1 ≤ g := by
    rcases hat2 with h | h
    · exact .inl (h.symm.trans rfl)
    · right
      have := Option.some.inj (show some g = some _ from h)
      simp at this
      omega
  have hgpe : g ≠ w.heap.size := fun e2 => by
    rcases hgl with h | h
    · have := HLW.out _ h
      omega
    · omega
  obtain ⟨pe, hpe⟩ : ∃ z, z = w.heap.size := ⟨_, rfl⟩
  rw [← hpe] at hbx hgpe ⊢
  have HC := Lib.hid hcw
  have HBX := Lib.hid hbx
  have HE2 := Lib.hid hE
  have HG := Lib.hid (And.intro hgB (And.intro hc1 (And.intro hc2 (And.intro hrl (And.intro hgl hgpe)))))
  have hcb : c ≤ 9223372036854775807 := by unfold maxLen at hc2; omega
  have hpl : pe < w2.heap.size := (Array.getElem?_eq_some_iff.1 hbx).1
  have hfin : ∀ (W : World) (A Bq : List EntD), A ++ Bq = L → (∀ y ∈ Bq, x.step < y.step) → (∀ z, A.getLast? = some z → ¬ x.step < z.step) → EBlk W g (A ++ x :: Bq) rest → Chg (fun k => k = g) w2 W → PutOk w B nc lv L x (.returned (.slice (some ⟨g, 0, none⟩) (L.length + 1) c)) W := fun W A Bq h1 h2 h3 h4 h5 => by
    have hlen : (A ++ x :: Bq).length = L.length + 1 := by rw [← h1]; simp; omega
    refine ⟨_, A ++ x :: Bq, rfl, put_sort (by rw [h1]; exact HS.out.1) (by rw [h1]; exact HS.out.2) h2 h3, ?_, ?_, HC.out.then (M' := fun k => k = g) h5 (fun k hk e2 => ?_), fun k hk => ?_⟩
    · rw [← h1]
      exact List.perm_middle.trans (List.perm_append_singleton _ _).symm
    · rw [← hlen]
      exact owns_of h4 HG.out.1 (by rw [hlen]; exact HG.out.2.1) HG.out.2.2.1 (by rw [hlen]; exact HG.out.2.2.2.1)
    · subst e2
      rcases HG.out.2.2.2.2.1 with h | h
      · exact h
      · omega
    · obtain rfl := Option.some.inj (show some g = some k from hk)
      rcases HG.out.2.2.2.2.1 with h | h
      · exact .inl h
      · exact .inr (by omega)
  have HF := Lib.hid hfin
  clear hown2 hg2 hat2 hown3 hcg hcw hbx hgB hc1 hc2 hrl hE hgl hfin hpe HO HLW
  have hwr1 : IntKind.i64.wrap ((L.length : Int) + 1 - 1) = (L.length : Int) := by rw [IntWalk.i64_in _ (by omega)]; omega
  go_upto_region 3 with fail
  go_loopw [5] (fun s5 wr => ∃ (A Bq : List EntD), s5 = .int .i64 (A.length : Int) ∧ A.length ≤ L.length ∧ Hid (A ++ Bq = L ∧ (∀ y ∈ Bq, x.step < y.step) ∧ EBlk wr g (A ++ x :: Bq) rest ∧ Chg (fun k => k = g) w2 wr)) (fun s5 _ => (intOf s5).toNat)
  case atStart => exact ⟨L, [], by go_num, Nat.le_refl _, Lib.hid ⟨List.append_nil L, by simp, HE2.out, Chg.refl _ _⟩⟩
  case round =>
    obtain ⟨A, Bq, rfl, hal, HI⟩ := hrel
    have hbw := HI.out.2.2.2.obj HBX.out (fun e2 => HG.out.2.2.2.2.2 e2.symm)
    have z0 : wr.cell? ⟨pe, 0, none⟩ = some (.int .i64 x.step) := (cells_at hbw 0).1
    have zr : wr.rangeAt pe 0 (entCells x) := fun i u hu => by
      rw [(cells_at hbw (0 + i)).1, Nat.zero_add, List.getElem?_toArray]
      exact hu
    have HZR := Lib.hid zr
    have hplr : pe < wr.heap.size := Nat.lt_of_lt_of_le hpl HI.out.2.2.2.size
    have hgr : g < wr.heap.size := HI.out.2.2.1.lt
    have HBW := Lib.hid hbw
    clear hbw zr
    rcases List.eq_nil_or_concat A with hA0 | ⟨A0, y, hA0⟩
    · subst hA0
      have HP := Lib.hid (HF.out wr.drew [] Bq HI.out.1 HI.out.2.1 (by simp) (HI.out.2.2.1.kept (M := fun _ => False) ((Chg.refl _ wr).drew) id) (HI.out.2.2.2.trans (chg_no ((Chg.refl _ wr).drew))))
      simp only [List.length_nil]
      go_upto_region 3 with fail
      refine wp_region_held_drew (S := fun _ => True) (by kernel_rfl) trivial (fun hHeld => ?_)
      refine tkq (i := 0) (v := ?_) rfl (by kernel_rfl) (fun _ _ _ h => h) (by rfl) ?_ (by assumption) ?_
      rotate_left 1
      · ((intro w hSw; (try dsimp only at hSw); go_simp) <;> with_reducible rfl)
      try simp only [Act.put, tzA, tzB, tzC, tzD, tzE]
      refine tkq (i := 1) (v := ?_) rfl (by kernel_rfl) (fun _ _ _ h => h) (by rfl) ?_ (by assumption) ?_
      rotate_left 1
      · ((intro w hSw; (try dsimp only at hSw); go_simp) <;> with_reducible rfl)
      try simp only [Act.put, tzA, tzB, tzC, tzD, tzE, tzF]
      refine tkq (i := 2) (v := ?_) rfl (by kernel_rfl) (fun _ _ _ h => h) (by rfl) ?_ (by assumption) ?_
      rotate_left 1
      · ((intro w hSw; (try dsimp only at hSw); go_simp) <;> with_reducible rfl)
      try simp only [Act.put, tzA, tzB, tzC, tzD, tzE, tzF]
      refine tkn (i := 3) rfl (by kernel_rfl) (fun _ _ _ h => h) (by rfl) (by assumption) ?_
      try simp only [Act.put, tzA, tzB, tzC, tzD, tzE, tzF]
      refine tkn (i := 4) rfl (by kernel_rfl) (fun _ _ _ h => h) (by rfl) (by assumption) ?_
      try simp only [Act.put, tzA, tzB, tzC, tzD, tzE, tzF]
      refine tkn (i := 5) rfl (by kernel_rfl) (fun _ _ _ h => h) (by rfl) (by assumption) ?_
      try simp only [Act.put, tzA, tzB, tzC, tzD, tzE, tzF]
      refine tkn (i := 6) rfl (by kernel_rfl) (fun _ _ _ h => h) (by rfl) (by assumption) ?_
      try simp only [Act.put, tzA, tzB, tzC, tzD, tzE, tzF]
      refine tkn (i := 7) rfl (by kernel_rfl) (fun _ _ _ h => h) (by rfl) (by assumption) ?_
      try simp only [Act.put, tzA, tzB, tzC, tzD, tzE, tzF]
      refine tkn (i := 8) rfl (by kernel_rfl) (fun _ _ _ h => h) (by rfl) (by assumption) ?_
      try simp only [Act.put, tzA, tzB, tzC, tzD, tzE, tzF]
      refine tkn (i := 9) rfl (by kernel_rfl) (fun _ _ _ h => h) (by rfl) (by assumption) ?_
      try simp only [Act.put, tzA, tzB, tzC, tzD, tzE, tzF]
      refine tkn (i := 10) rfl (by kernel_rfl) (fun _ _ _ h => h) (by rfl) (by assumption) ?_
      try simp only [Act.put, tzA, tzB, tzC, tzD, tzE, tzF]
      refine tkn (i := 11) rfl (by kernel_rfl) (fun _ _ _ h => h) (by rfl) (by assumption) ?_
      try simp only [Act.put, tzA, tzB, tzC, tzD, tzE, tzF]
      refine tkq (i := 12) (v := ?_) rfl (by kernel_rfl) (fun _ _ _ h => h) (by rfl) ?_ (by assumption) ?_
      rotate_left 1
      · ((intro w hSw; (try dsimp only at hSw); go_simp) <;> with_reducible rfl)
      try simp only [Act.put, tzA, tzB, tzC, tzD, tzE, tzF]
      refine wpAnyH_done (by kernel_rfl) ?_ _
      clear hHeld
      go_wp2_with fail
      go_ret
      exact HP.out
    · rw [List.concat_eq_append] at hA0
      subst hA0
      obtain ⟨q, hq⟩ : ∃ q, q = A0.length := ⟨_, rfl⟩
      have hq1 : (A0 ++ [y]).length = q + 1 := by rw [hq]; simp
      have hqL : q + 1 ≤ L.length := by rw [← hq1]; exact hal
      rw [hq1]
      have hy : (A0 ++ [y] ++ x :: Bq)[q]? = some y := by rw [hq, List.append_assoc]; simp
      have hx : (A0 ++ [y] ++ x :: Bq)[q + 1]? = some x := by rw [hq, List.getElem?_append_right (by simp)]; simp
      have ix0 : ∀ W : World, (Instr.indexAt 96 (.slice (some ⟨g, 0, none⟩) (L.length + 1) c) (.int .i64 (q : Int))).run Tryz.prog W = .ok (.pointer (some ⟨g, q * 3, none⟩)) W := fun W => idx_rent (by omega) W
      have ix1 : ∀ W : World, (Instr.indexAt 96 (.slice (some ⟨g, 0, none⟩) (L.length + 1) c) (.int .i64 ((q : Int) + 1))).run Tryz.prog W = .ok (.pointer (some ⟨g, (q + 1) * 3, none⟩)) W := fun W => idx_rent (k := q + 1) (by omega) W
      have ry := HI.out.2.2.1.range hy
      have y0 : wr.cell? ⟨g, q * 3, none⟩ = some (.int .i64 y.step) := ry 0 _ rfl
      have t1 := HI.out.2.2.1.there (j := q + 1) (by simp; omega)
      have t0 := HI.out.2.2.1.there (j := q) (by simp; omega)
      have hsw := (show EBlk wr.drew g (A0 ++ y :: x :: Bq) rest from by have := HI.out.2.2.1.kept (M := fun _ => False) ((Chg.refl _ wr).drew) id; rw [List.append_assoc] at this; exact this).swap (z := y) (u := x) (i := q + 1) (j := q) (by rw [hq]) hq
      have hch : Chg (fun k => k = g) wr ((wr.drew.setCells g ((q + 1) * 3) (entCells y)).setCells g (q * 3) (entCells x)) := Chg.setCells (M := fun j => j = g) (g := g) (fun _ => rfl) _ _ (Chg.setCells (M := fun j => j = g) (g := g) (fun _ => rfl) _ _ (chg_no (Chg.refl _ wr).drew))
      obtain ⟨b0, hb0⟩ : ∃ b, b = q * 3 := ⟨_, rfl⟩
      obtain ⟨b1, hb1⟩ : ∃ b, b = (q + 1) * 3 := ⟨_, rfl⟩
      rw [← hb0] at ix0 ry y0 t0 hsw hch
      rw [← hb1] at ix1 t1 hsw hch
      have HSW := Lib.hid (And.intro hsw hch)
      have HRY := Lib.hid ry
      have HT := Lib.hid (And.intro (show wr.drew.there g b0 3 from t0) (show wr.drew.there g b1 3 from t1))
      have HZ1 := Lib.hid (show ∀ vs : List Value, (wr.drew.setCells g b1 vs).rangeAt pe 0 (entCells x) from fun vs => World.rangeAt_setCells_apart (show wr.drew.rangeAt pe 0 (entCells x) from HZR.out) _ _ _ (.inl (fun e2 => HG.out.2.2.2.2.2 e2.symm)))
      have HQ := Lib.hid hq
      have hwq : IntKind.i64.wrap (q : Int) = (q : Int) := IntWalk.i64_in _ (by omega)
      clear hsw hch ry t0 t1 hy hx hb0 hb1 hq hq1 hal
      by_cases hst : x.step < y.step
      · go_upto_region 3 with fail
        refine wp_region_held_drew (S := fun W => W.cell? ⟨g, b0, none⟩ = some (.int .i64 y.step) ∧ W.cell? ⟨pe, 0, none⟩ = some (.int .i64 x.step)) (by kernel_rfl) ⟨y0, z0⟩ (fun hHeld => ?_)
        refine tkq (i := 0) (v := ?_) rfl (by kernel_rfl) (fun _ _ _ h => h) (by rfl) ?_ (by assumption) ?_
        rotate_left 1
        · ((intro w hSw; (try dsimp only at hSw); go_simp) <;> with_reducible rfl)
        try simp only [Act.put, tzA, tzB, tzC, tzD, tzE]
        refine tkq (i := 1) (v := ?_) rfl (by kernel_rfl) (fun _ _ _ h => h) (by rfl) ?_ (by assumption) ?_
        rotate_left 1
        · ((intro w hSw; (try dsimp only at hSw); go_simp) <;> with_reducible rfl)
        try simp only [Act.put, tzA, tzB, tzC, tzD, tzE, tzF]
        refine tkq (i := 2) (v := ?_) rfl (by kernel_rfl) (fun _ _ _ h => h) (by rfl) ?_ (by assumption) ?_
        rotate_left 1
        · ((intro w hSw; (try dsimp only at hSw); go_simp) <;> with_reducible rfl)
        try simp only [Act.put, tzA, tzB, tzC, tzD, tzE, tzF]
        refine tkq (i := 3) (v := ?_) rfl (by kernel_rfl) (fun _ _ _ h => h) (by rfl) ?_ (by assumption) ?_
        rotate_left 1
        · ((intro w hSw; (try dsimp only at hSw); go_simp) <;> with_reducible rfl)
        try simp only [Act.put, tzA, tzB, tzC, tzD, tzE, tzF]
        refine tkq (i := 4) (v := ?_) rfl (by kernel_rfl) (fun _ _ _ h => h) (by rfl) ?_ (by assumption) ?_
        rotate_left 1
        · ((intro w hSw; (try dsimp only at hSw); go_simp) <;> with_reducible rfl)
        try simp only [Act.put, tzA, tzB, tzC, tzD, tzE, tzF]
        refine tkq (i := 5) (v := ?_) rfl (by kernel_rfl) (fun _ _ _ h => h) (by rfl) ?_ (by assumption) ?_
        rotate_left 1
        · ((intro w hSw; (try dsimp only at hSw); go_simp) <;> with_reducible rfl)
        try simp only [Act.put, tzA, tzB, tzC, tzD, tzE, tzF]
        refine tkq (i := 6) (v := ?_) rfl (by kernel_rfl) (fun _ _ _ h => h) (by rfl) ?_ (by assumption) ?_
        rotate_left 1
        · ((intro w hSw; (try dsimp only at hSw); go_simp) <;> with_reducible rfl)
        try simp only [Act.put, tzA, tzB, tzC, tzD, tzE, tzF]
        refine tkq (i := 7) (v := ?_) rfl (by kernel_rfl) (fun _ _ _ h => h) (by rfl) ?_ (by assumption) ?_
        rotate_left 1
        · ((intro w hSw; (try dsimp only at hSw); go_simp) <;> with_reducible rfl)
        try simp only [Act.put, tzA, tzB, tzC, tzD, tzE, tzF]
        refine tkq (i := 8) (v := ?_) rfl (by kernel_rfl) (fun _ _ _ h => h) (by rfl) ?_ (by assumption) ?_
        rotate_left 1
        · ((intro w hSw; (try dsimp only at hSw); obtain ⟨c0, c1⟩ := hSw; go_simp) <;> with_reducible rfl)
        try simp only [Act.put, tzA, tzB, tzC, tzD, tzE, tzF]
        refine tkq (i := 9) (v := ?_) rfl (by kernel_rfl) (fun _ _ _ h => h) (by rfl) ?_ (by assumption) ?_
        rotate_left 1
        · ((intro w hSw; (try dsimp only at hSw); go_simp) <;> with_reducible rfl)
        try simp only [Act.put, tzA, tzB, tzC, tzD, tzE, tzF]
        refine tkq (i := 10) (v := ?_) rfl (by kernel_rfl) (fun _ _ _ h => h) (by rfl) ?_ (by assumption) ?_
        rotate_left 1
        · ((intro w hSw; (try dsimp only at hSw); obtain ⟨c0, c1⟩ := hSw; go_simp) <;> with_reducible rfl)
        try simp only [Act.put, tzA, tzB, tzC, tzD, tzE, tzF]
        refine tkq (i := 11) (v := ?_) rfl (by kernel_rfl) (fun _ _ _ h => h) (by rfl) ?_ (by assumption) ?_
        rotate_left 1
        · ((intro w hSw; (try dsimp only at hSw); go_simp) <;> with_reducible rfl)
        try simp only [Act.put, tzA, tzB, tzC, tzD, tzE, tzF]
        refine tkq (i := 12) (v := ?_) rfl (by kernel_rfl) (fun _ _ _ h => h) (by rfl) ?_ (by assumption) ?_
        rotate_left 1
        · ((intro w hSw; (try dsimp only at hSw); go_simp) <;> with_reducible rfl)
        try simp only [Act.put, tzA, tzB, tzC, tzD, tzE, tzF]
        refine wpAnyH_done (by kernel_rfl) ?_ _
        clear hHeld
        go_upto_region 4 with (first
          | ((with_reducible show wpList _ _ _ (⟨_, Op.load _ (.tmp 33), _, _, _, _⟩ :: _) _ _); refine wpList_load_mid (by rfl) 99 (.tmp 33) (by rfl) g b0 (by rfl) (entCells y) _ (show wr.drew.rangeAt g b0 (entCells y) from HRY.out) Tryz.underlying99 rfl (by kernel_rfl) ?_)
          | ((with_reducible show wpList _ _ _ (⟨none, Op.store _ (.tmp 35) _, _, _, _, _⟩ :: _) _ _); refine wpList_store_mid (by rfl) 99 (.tmp 35) (.tmp 34) (by rfl) g b1 (entCells y).toArray (by rfl) (by rfl) HT.out.2 (by kernel_rfl) (by simp [Value.oneCell']) ?_)
          | ((with_reducible show wpList _ _ _ (⟨_, Op.load _ (.tmp 3), _, _, _, _⟩ :: _) _ _); refine wpList_load_mid (by rfl) 99 (.tmp 3) (by rfl) pe 0 (by rfl) (entCells x) _ (HZ1.out _) Tryz.underlying99 rfl (by kernel_rfl) ?_)
          | ((with_reducible show wpList _ _ _ (⟨none, Op.store _ (.tmp 40) _, _, _, _, _⟩ :: _) _ _); refine wpList_store_mid (by rfl) 99 (.tmp 40) (.tmp 39) (by rfl) g b0 (entCells x).toArray (by rfl) (by rfl) (World.there_setCells HT.out.1 _ _ _) (by kernel_rfl) (by simp [Value.oneCell']) ?_)
          | fail)
        go_wp2_with fail
        go_roundw
        case rel => exact ⟨A0, y :: Bq, by rw [HQ.out], by have := HQ.out; omega, Lib.hid ⟨by have h := HI.out.1; rw [List.append_assoc] at h; exact h, fun z hz => (List.mem_cons.1 hz).elim (fun e2 => by rw [e2]; exact hst) (HI.out.2.1 z), HSW.out.1, HI.out.2.2.2.trans HSW.out.2⟩⟩
        case measure => simp [intOf]
      · have HP := Lib.hid (HF.out wr.drew (A0 ++ [y]) Bq HI.out.1 HI.out.2.1 (fun z hz => by obtain rfl : y = z := (by simpa using hz); omega) (HI.out.2.2.1.kept (M := fun _ => False) ((Chg.refl _ wr).drew) id) (HI.out.2.2.2.trans (chg_no ((Chg.refl _ wr).drew))))
        go_upto_region 3 with fail
        refine wp_region_held_drew (S := fun W => W.cell? ⟨g, b0, none⟩ = some (.int .i64 y.step) ∧ W.cell? ⟨pe, 0, none⟩ = some (.int .i64 x.step)) (by kernel_rfl) ⟨y0, z0⟩ (fun hHeld => ?_)
        refine tkq (i := 0) (v := ?_) rfl (by kernel_rfl) (fun _ _ _ h => h) (by rfl) ?_ (by assumption) ?_
        rotate_left 1
        · ((intro w hSw; (try dsimp only at hSw); go_simp) <;> with_reducible rfl)
        try simp only [Act.put, tzA, tzB, tzC, tzD, tzE]
        refine tkq (i := 1) (v := ?_) rfl (by kernel_rfl) (fun _ _ _ h => h) (by rfl) ?_ (by assumption) ?_
        rotate_left 1
        · ((intro w hSw; (try dsimp only at hSw); go_simp) <;> with_reducible rfl)
        try simp only [Act.put, tzA, tzB, tzC, tzD, tzE, tzF]
        refine tkq (i := 2) (v := ?_) rfl (by kernel_rfl) (fun _ _ _ h => h) (by rfl) ?_ (by assumption) ?_
        rotate_left 1
        · ((intro w hSw; (try dsimp only at hSw); go_simp) <;> with_reducible rfl)
        try simp only [Act.put, tzA, tzB, tzC, tzD, tzE, tzF]
        refine tkq (i := 3) (v := ?_) rfl (by kernel_rfl) (fun _ _ _ h => h) (by rfl) ?_ (by assumption) ?_
        rotate_left 1
        · ((intro w hSw; (try dsimp only at hSw); go_simp) <;> with_reducible rfl)
        try simp only [Act.put, tzA, tzB, tzC, tzD, tzE, tzF]
        refine tkq (i := 4) (v := ?_) rfl (by kernel_rfl) (fun _ _ _ h => h) (by rfl) ?_ (by assumption) ?_
        rotate_left 1
        · ((intro w hSw; (try dsimp only at hSw); go_simp) <;> with_reducible rfl)
        try simp only [Act.put, tzA, tzB, tzC, tzD, tzE, tzF]
        refine tkq (i := 5) (v := ?_) rfl (by kernel_rfl) (fun _ _ _ h => h) (by rfl) ?_ (by assumption) ?_
        rotate_left 1
        · ((intro w hSw; (try dsimp only at hSw); go_simp) <;> with_reducible rfl)
        try simp only [Act.put, tzA, tzB, tzC, tzD, tzE, tzF]
        refine tkq (i := 6) (v := ?_) rfl (by kernel_rfl) (fun _ _ _ h => h) (by rfl) ?_ (by assumption) ?_
        rotate_left 1
        · ((intro w hSw; (try dsimp only at hSw); go_simp) <;> with_reducible rfl)
        try simp only [Act.put, tzA, tzB, tzC, tzD, tzE, tzF]
        refine tkq (i := 7) (v := ?_) rfl (by kernel_rfl) (fun _ _ _ h => h) (by rfl) ?_ (by assumption) ?_
        rotate_left 1
        · ((intro w hSw; (try dsimp only at hSw); go_simp) <;> with_reducible rfl)
        try simp only [Act.put, tzA, tzB, tzC, tzD, tzE, tzF]
        refine tkq (i := 8) (v := ?_) rfl (by kernel_rfl) (fun _ _ _ h => h) (by rfl) ?_ (by assumption) ?_
        rotate_left 1
        · ((intro w hSw; (try dsimp only at hSw); obtain ⟨c0, c1⟩ := hSw; go_simp) <;> with_reducible rfl)
        try simp only [Act.put, tzA, tzB, tzC, tzD, tzE, tzF]
        refine tkq (i := 9) (v := ?_) rfl (by kernel_rfl) (fun _ _ _ h => h) (by rfl) ?_ (by assumption) ?_
        rotate_left 1
        · ((intro w hSw; (try dsimp only at hSw); go_simp) <;> with_reducible rfl)
        try simp only [Act.put, tzA, tzB, tzC, tzD, tzE, tzF]
        refine tkq (i := 10) (v := ?_) rfl (by kernel_rfl) (fun _ _ _ h => h) (by rfl) ?_ (by assumption) ?_
        rotate_left 1
        · ((intro w hSw; (try dsimp only at hSw); obtain ⟨c0, c1⟩ := hSw; go_simp) <;> with_reducible rfl)
        try simp only [Act.put, tzA, tzB, tzC, tzD, tzE, tzF]
        refine tkq (i := 11) (v := ?_) rfl (by kernel_rfl) (fun _ _ _ h => h) (by rfl) ?_ (by assumption) ?_
        rotate_left 1
        · ((intro w hSw; (try dsimp only at hSw); go_simp) <;> with_reducible rfl)
        try simp only [Act.put, tzA, tzB, tzC, tzD, tzE, tzF]
        refine tkq (i := 12) (v := ?_) rfl (by kernel_rfl) (fun _ _ _ h => h) (by rfl) ?_ (by assumption) ?_
        rotate_left 1
        · ((intro w hSw; (try dsimp only at hSw); go_simp) <;> with_reducible rfl)
        try simp only [Act.put, tzA, tzB, tzC, tzD, tzE, tzF]
        refine wpAnyH_done (by kernel_rfl) ?_ _
        clear hHeld
        go_wp2_with fail
        go_ret
        exact HP.out
end Go.Proofs.YtaooangnnlopcaaGreatDoor
