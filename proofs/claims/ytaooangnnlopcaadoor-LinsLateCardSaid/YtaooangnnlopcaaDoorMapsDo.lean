/- A call done on a map, with its own answer (does). Condition: the map lies behind its pointer; the library's tables lie as they are laid. -/
import Derived.Test.YtaooangnnlopcaaDoorMapsFits
namespace Go.Proofs.YtaooangnnlopcaaDoor
open Go.RowKit Go.ChangeMaps Go.MapKept
def doesM (m : MapM) (c : CallD) (ep : Nat) : AnsD × MapM := match givesM m c ep with | none => (noAns, m) | some g => (g.ans, applyM m c.key g)
theorem does_no {m : MapM} {c : CallD} {ep : Nat} (h : isM m c ep = false) : doesM m c ep = (noAns, m) := by
  unfold isM at h
  unfold doesM
  cases hg : givesM m c ep with
  | none => rfl
  | some g => rw [hg] at h; cases h
theorem does_yes {m : MapM} {c : CallD} {ep : Nat} (h : isM m c ep = true) : doesM m c ep = (ansM m c ep, (fitsM m c ep (ansM m c ep)).2) ∧ (fitsM m c ep (ansM m c ep)).1 = true := by
  have hf := fits_yes h (ansM_eq m c ep)
  rw [hf]
  unfold isM at h
  obtain ⟨g, hg⟩ := Option.isSome_iff_exists.1 h
  refine ⟨?_, rfl⟩
  unfold doesM ansM gofM
  rw [hg]
  rfl
theorem build_ansZ (W : World) : (Instr.build 39 #[]).run Tryd.prog W = .ok (.agg #[.int .u8 0, .int .u64 0, .string ⟨#[]⟩, .string ⟨#[]⟩, .int .u32 0, .int .u64 0, .int .i64 0, .int .i64 0]) W := by kernel_rfl
theorem build_called (c : CallD) (ep : Nat) (a : AnsD) (W : World) : (Instr.build 60 #[(1, .agg #[.int .u8 c.verb, .string c.key, .string c.value, .int .u32 c.flags, .int .i64 c.exp, .int .u64 c.id, .int .u64 c.by']), (5, .int .u64 (ep : Int)), (4, .agg #[.int .u8 a.kind, .int .u64 a.number, .string a.item.key, .string a.item.value, .int .u32 a.item.flags, .int .u64 a.item.id, .int .i64 a.item.dies, .int .i64 a.item.gen])]).run Tryd.prog W = .ok (.agg #[.int .i64 0, .int .u8 c.verb, .string c.key, .string c.value, .int .u32 c.flags, .int .i64 c.exp, .int .u64 c.id, .int .u64 c.by', .int .i64 0, .int .i64 0, .int .u8 a.kind, .int .u64 a.number, .string a.item.key, .string a.item.value, .int .u32 a.item.flags, .int .u64 a.item.id, .int .i64 a.item.dies, .int .i64 a.item.gen, .int .u64 (ep : Int), .int .i64 0]) W := by kernel_rfl
/-- Where does stands. -/
structure DoAt (w W : World) (p : Nat) (m : MapM) (c : CallD) (q : Nat) (a : AnsD) : Prop where
  map : MapAt W p m
  box : W.heap[w.heap.size]? = some (.cells #[.int .u8 c.verb, .string c.key, .string c.value, .int .u32 c.flags, .int .i64 c.exp, .int .u64 c.id, .int .u64 c.by'] 26 (0, 0))
  res : W.heap[w.heap.size + 1]? = some (.cells #[.int .u8 0, .int .u64 0, .string ⟨#[]⟩, .string ⟨#[]⟩, .int .u32 0, .int .u64 0, .int .i64 0, .int .i64 0] 39 (0, 0))
  own : W.heap[q]? = some (.cells #[.int .u8 a.kind, .int .u64 a.number, .string a.item.key, .string a.item.value, .int .u32 a.item.flags, .int .u64 a.item.id, .int .i64 a.item.dies, .int .i64 a.item.gen] 39 (0, 0))
  chg : MChg w p W
  low : p < w.heap.size
  far : w.heap.size + 1 < q
theorem DoAt.mm {w W W' : World} {p : Nat} {m m' : MapM} {c : CallD} {q : Nat} {a : AnsD} (h : DoAt w W p m c q a) (hc : MChg W p W') (hm : MapAt W' p m') : DoAt w W' p m' c q a := by
  have h1 := h.low; have h2 := h.far
  refine ⟨hm, hc.chg.obj h.box (fun hk => ?_), hc.chg.obj h.res (fun hk => ?_), hc.chg.obj h.own (fun hk => ?_), h.chg.then hc, h.low, h.far⟩
  · rcases MM.kind h.map hk with e | ⟨es, clock, e⟩
    · omega
    · rw [h.box] at e; cases e
  · rcases MM.kind h.map hk with e | ⟨es, clock, e⟩
    · omega
    · rw [h.res] at e; cases e
  · rcases MM.kind h.map hk with e | ⟨es, clock, e⟩
    · omega
    · rw [h.own] at e; cases e
theorem DoAt.ret {w W W' : World} {p : Nat} {m : MapM} {c : CallD} {q : Nat} {a : AnsD} (h : DoAt w W p m c q a) (hg : W.grownBy W' (some (w.heap.size + 1))) : MapAt W' p m ∧ MChg w p W' := by
  have h1 := h.low
  have hc : Chg (fun k => k = w.heap.size + 1) W W' := Chg.of_grown hg (fun i _ e => by cases e; rfl)
  have hm := h.map
  obtain ⟨mb, hb, -⟩ := h.map
  refine ⟨h.map.kept hc (by omega) (fun b ⟨es, clock, hb⟩ e => ?_), h.chg.chg.then hc (fun i hi e => by omega), fun i hi e => h.chg.own i hi ?_⟩
  · subst e
    rw [h.res] at hb
    cases hb
  · have h0 := (cells_at hb 0).1
    rw [hc.cell h0 (by omega)] at e
    rw [h0]
    exact e
section
variable {w : World} {p : Nat} {m : MapM} {c : CallD} {ep : Nat}
set_option maxRecDepth 100000 in
set_option maxHeartbeats 8000000 in
theorem does_any (h : MapAt w p m) (hme : m.epoch < 18446744073709551616) (he : ep < 18446744073709551616) (hkl : c.key.size ≤ maxLen) (hv0 : 0 ≤ c.verb ∧ c.verb ≤ 255) (hx : -9223372036854775808 ≤ c.exp ∧ c.exp ≤ 9223372036854775807) (hby : 0 ≤ c.by' ∧ c.by' ≤ 18446744073709551615) (hid : m.ids < 18446744073709551615) (hE : HasErr w) (hP : HasPow w) : Calls Tryd.prog 12 #[.pointer (some ⟨p, 0, none⟩), .agg #[.int .u8 c.verb, .string c.key, .string c.value, .int .u32 c.flags, .int .i64 c.exp, .int .u64 c.id, .int .u64 c.by'], .int .u64 (ep : Int)] w fun e w' => e = .returned (.agg (doesM m c ep).1.cells) ∧ MapAt w' p (doesM m c ep).2 ∧ MChg w p w' := by
  have HGV := Lib.hid (fun W (hW : Below w.heap.size w W) => mapsGives_any (h.below hW) hme he hkl hv0 hx hby hid (hE.below hW) (hP.below hW))
  have HFT := Lib.hid (fun W (hW : Below w.heap.size w W) => mapsFits_any (x := ⟨0, c, 0, 0, ansM m c ep, ep, 0⟩) (h.below hW) hme he hkl hv0 hx hby hid (hE.below hW) (hP.below hW))
  have hno := does_no (m := m) (c := c) (ep := ep)
  have hyes := does_yes (m := m) (c := c) (ep := ep)
  obtain ⟨a, ha⟩ : ∃ a, a = ansM m c ep := ⟨_, rfl⟩
  obtain ⟨is, his⟩ : ∃ b, b = isM m c ep := ⟨_, rfl⟩
  rw [← ha] at HGV HFT hyes
  rw [← his] at HGV hno hyes
  have HNO := Lib.hid hno
  have HYES := Lib.hid hyes
  have HM := Lib.hid h
  have hp := h.lt
  clear hno hyes ha his h hme he hkl hv0 hx hby hid hE hP
  go_enter Tryd.func12, Tryd.ntmps12
  go_upto_region 1 with fail
  obtain ⟨W0, hW0⟩ : ∃ X, X = (w.alloc (.cells #[.int .u8 c.verb, .string c.key, .string c.value, .int .u32 c.flags, .int .i64 c.exp, .int .u64 c.id, .int .u64 c.by'] 26)).alloc (.cells #[.int .u8 0, .int .u64 0, .string ⟨#[]⟩, .string ⟨#[]⟩, .int .u32 0, .int .u64 0, .int .i64 0, .int .i64 0] 39) := ⟨_, rfl⟩
  have hb0 : Below w.heap.size w W0 := by rw [hW0]; exact below_two w _ _
  have hx0 : W0.heap[w.heap.size]? = some (.cells #[.int .u8 c.verb, .string c.key, .string c.value, .int .u32 c.flags, .int .i64 c.exp, .int .u64 c.id, .int .u64 c.by'] 26 (0, 0)) := by rw [hW0]; exact (heap_two w _ _).1
  have hr0 : W0.heap[w.heap.size + 1]? = some (.cells #[.int .u8 0, .int .u64 0, .string ⟨#[]⟩, .string ⟨#[]⟩, .int .u32 0, .int .u64 0, .int .i64 0, .int .i64 0] 39 (0, 0)) := by rw [hW0]; exact (heap_two w _ _).2
  rw [← hW0]
  have HB0 := Lib.hid hb0
  have HX0 := Lib.hid hx0
  have HR0 := Lib.hid hr0
  clear hW0 hb0 hx0 hr0
  go_wp2_with (first | ((with_reducible show wpList _ _ _ (⟨_, Op.load 26 _, _, _, _, _⟩ :: _) _ _); refine wpList_load_row (by rfl) 26 (.tmp 4) (by rfl) w.heap.size (by rfl) 26 _ _ _ HX0.out Tryd.underlying26 rfl (by kernel_rfl) ?_) | fail)
  refine (HGV.out _ HB0.out).mono ?_
  rintro e w1 ⟨rfl, hb1⟩
  have hlt : w.heap.size + 1 < W0.heap.size := (Array.getElem?_eq_some_iff.1 HR0.out).1
  have HX1 := Lib.hid ((hb1.block _ (Nat.lt_of_succ_lt hlt)).trans HX0.out)
  have HR1 := Lib.hid ((hb1.block _ hlt).trans HR0.out)
  have HB1 := Lib.hid (HB0.out.trans (hb1.mono HB0.out.size))
  have HL1 := Lib.hid (Nat.lt_of_lt_of_le hlt hb1.size)
  clear hb1 hlt HX0 HR0 HB0 HGV
  go_upto_region 2 with (first | (((with_reducible show wpList _ _ _ (⟨none, Op.store 39 _ _, _, _, _, _⟩ :: _) _ _); refine wpList_store_whole (by rfl) 39 (.tmp 7) (.tmp 14) (by rfl) w1.heap.size (by rfl) #[.int .u8 a.kind, .int .u64 a.number, .string a.item.key, .string a.item.value, .int .u32 a.item.flags, .int .u64 a.item.id, .int .i64 a.item.dies, .int .i64 a.item.gen] (by rfl) _ 39 (heap_alloc_new _ _) (by rfl) (by kernel_rfl) (by simp [Value.oneCell']) ?_; intro w2 hr2 hg2 hs2); have HG2 := Lib.hid hg2; have HR2 := Lib.hid hr2; clear hg2 hr2 hs2) | fail)
  have HB2 := Lib.hid (grown_below (HB1.out.alloc HB1.out.size _) (by rw [size_at]; have := HB1.out.size; omega) HG2.out (fun k hk => by cases hk; exact HB1.out.size))
  have hx2 := (HG2.out.block w.heap.size (by rw [size_at]; have := HL1.out; omega) (by have := HL1.out; simp; omega)).trans ((show (w1.alloc _).heap[w.heap.size]? = w1.heap[w.heap.size]? from by rw [heap_at, if_neg (by have := HL1.out; omega)]).trans HX1.out)
  have hx3 := (HG2.out.block (w.heap.size + 1) (by rw [size_at]; have := HL1.out; omega) (by have := HL1.out; simp; omega)).trans ((show (w1.alloc _).heap[w.heap.size + 1]? = w1.heap[w.heap.size + 1]? from by rw [heap_at, if_neg (by have := HL1.out; omega)]).trans HR1.out)
  have HD := Lib.hid (show DoAt w w2 p m c w1.heap.size a from ⟨HM.out.below HB2.out, hx2, hx3, HR2.out, MChg.below HB2.out hp, hp, HL1.out⟩)
  obtain ⟨q, hq⟩ : ∃ q, q = w1.heap.size := ⟨_, rfl⟩
  rw [← hq] at HD ⊢
  have HFC := Lib.hid (HFT.out w2 HB2.out)
  clear hx2 hx3 HG2 HR2 HX1 HR1 HL1 HB1 HB2 hq HFT HM
  cases hi : is
  · have HQ := Lib.hid (HNO.out hi)
    have qz := build_ansZ
    clear HFC HNO HYES hi
    go_wp2_with (first
      | ((with_reducible show wpList _ _ _ (⟨none, Op.store 39 _ _, _, _, _, _⟩ :: _) _ _); refine wpList_store_whole (by rfl) 39 (.tmp 6) (.tmp 27) (by rfl) (w.heap.size + 1) (by rfl) #[.int .u8 0, .int .u64 0, .string ⟨#[]⟩, .string ⟨#[]⟩, .int .u32 0, .int .u64 0, .int .i64 0, .int .i64 0] (by rfl) _ 39 HD.out.res (by rfl) (by kernel_rfl) (by simp [Value.oneCell']) ?_; intro w9 hr9 hg9 hs9)
      | ((with_reducible show bodyPost _ _ _ Exit.ret _ _); exact bodyPost_ret (v := .agg #[.int .u8 0, .int .u64 0, .string ⟨#[]⟩, .string ⟨#[]⟩, .int .u32 0, .int .u64 0, .int .i64 0, .int .i64 0]) (results_row_one rfl _ _ (w.heap.size + 1) _ _ _ _ (by rfl) hr9 Tryd.underlying39 rfl (by kernel_rfl)) rfl ⟨(by rw [HQ.out]; rfl), (by rw [HQ.out]; exact (HD.out.ret hg9).1), (HD.out.ret hg9).2⟩)
      | fail)
  · have HQ := Lib.hid (HYES.out hi)
    have qb := build_called c ep a
    clear HNO HYES hi
    have k0 : w2.cell? ⟨w.heap.size, 0, none⟩ = some (.int .u8 c.verb) := (cells_at HD.out.box 0).1
    have k1 : w2.cell? ⟨w.heap.size, 1, none⟩ = some (.string c.key) := (cells_at HD.out.box 1).1
    have k2 : w2.cell? ⟨w.heap.size, 2, none⟩ = some (.string c.value) := (cells_at HD.out.box 2).1
    have k3 : w2.cell? ⟨w.heap.size, 3, none⟩ = some (.int .u32 c.flags) := (cells_at HD.out.box 3).1
    have k4 : w2.cell? ⟨w.heap.size, 4, none⟩ = some (.int .i64 c.exp) := (cells_at HD.out.box 4).1
    have k5 : w2.cell? ⟨w.heap.size, 5, none⟩ = some (.int .u64 c.id) := (cells_at HD.out.box 5).1
    have k6 : w2.cell? ⟨w.heap.size, 6, none⟩ = some (.int .u64 c.by') := (cells_at HD.out.box 6).1
    have y0 : w2.cell? ⟨q, 0, none⟩ = some (.int .u8 a.kind) := (cells_at HD.out.own 0).1
    have y1 : w2.cell? ⟨q, 1, none⟩ = some (.int .u64 a.number) := (cells_at HD.out.own 1).1
    have y2 : w2.cell? ⟨q, 2, none⟩ = some (.string a.item.key) := (cells_at HD.out.own 2).1
    have y3 : w2.cell? ⟨q, 3, none⟩ = some (.string a.item.value) := (cells_at HD.out.own 3).1
    have y4 : w2.cell? ⟨q, 4, none⟩ = some (.int .u32 a.item.flags) := (cells_at HD.out.own 4).1
    have y5 : w2.cell? ⟨q, 5, none⟩ = some (.int .u64 a.item.id) := (cells_at HD.out.own 5).1
    have y6 : w2.cell? ⟨q, 6, none⟩ = some (.int .i64 a.item.dies) := (cells_at HD.out.own 6).1
    have y7 : w2.cell? ⟨q, 7, none⟩ = some (.int .i64 a.item.gen) := (cells_at HD.out.own 7).1
    go_wp2_with fail
    refine HFC.out.mono ?_
    rintro e w6 ⟨rfl, hm6, hc6⟩
    rw [HQ.out.2]
    have HDn := Lib.hid (HD.out.mm hc6 hm6)
    clear HD hm6 hc6
    have HD := HDn
    clear HDn qb k0 k1 k2 k3 k4 k5 k6 y0 y1 y2 y3 y4 y5 y6 y7
    go_wp2_with (first
      | ((with_reducible show wpList _ _ _ (⟨_, Op.load 39 _, _, _, _, _⟩ :: _) _ _); refine wpList_load_row (by rfl) 39 (.tmp 7) (by rfl) q (by rfl) 39 _ _ _ HD.out.own Tryd.underlying39 rfl (by kernel_rfl) ?_)
      | ((with_reducible show wpList _ _ _ (⟨none, Op.store 39 _ _, _, _, _, _⟩ :: _) _ _); refine wpList_store_whole (by rfl) 39 (.tmp 6) (.tmp 28) (by rfl) (w.heap.size + 1) (by rfl) #[.int .u8 a.kind, .int .u64 a.number, .string a.item.key, .string a.item.value, .int .u32 a.item.flags, .int .u64 a.item.id, .int .i64 a.item.dies, .int .i64 a.item.gen] (by rfl) _ 39 HD.out.res (by rfl) (by kernel_rfl) (by simp [Value.oneCell']) ?_; intro w9 hr9 hg9 hs9)
      | ((with_reducible show bodyPost _ _ _ Exit.ret _ _); exact bodyPost_ret (v := .agg #[.int .u8 a.kind, .int .u64 a.number, .string a.item.key, .string a.item.value, .int .u32 a.item.flags, .int .u64 a.item.id, .int .i64 a.item.dies, .int .i64 a.item.gen]) (results_row_one rfl _ _ (w.heap.size + 1) _ _ _ _ (by rfl) hr9 Tryd.underlying39 rfl (by kernel_rfl)) rfl ⟨(by rw [HQ.out.1]), (by rw [HQ.out.1]; exact (HD.out.ret hg9).1), (HD.out.ret hg9).2⟩)
      | fail)
end
end Go.Proofs.YtaooangnnlopcaaDoor
