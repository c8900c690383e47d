/- What maps.gives gives. Condition: the map lies behind its pointer, the call's key is no longer than a text may be. -/
import Derived.Test.YtaooangnnlopcaaGreatDoorMapsVerbs2
import Derived.Test.YtaooangnnlopcaaGreatDoorMapsLit
import Derived.Test.YtaooangnnlopcaaGreatDoorMapsAt
import Derived.Deep.MidRow
import Derived.Test.YtaooangnnlopcaaGreatDoorLowA
namespace Go.Proofs.YtaooangnnlopcaaGreatDoor
open Go.RowKit Go.ChangeMaps Go.MapKept
theorem range_block {w : World} {b : Nat} {cs : Array Value} {t : TypeId} {fr : Nat × Nat} (h : w.heap[b]? = some (.cells cs t fr)) : w.rangeAt b 0 cs.toList := fun j v hv => by
  rw [Nat.zero_add, cell_of_row w b j cs t fr h]
  simpa using hv
/-- The call's box, the result's block, the map. -/
structure GvAt (w W : World) (p : Nat) (m : MapM) (c : CallD) : Prop where
  box : W.heap[w.heap.size]? = some (.cells #[.int .u8 c.verb, .string c.key, .string c.value, .int .u32 c.flags, .int .i64 c.exp, .int .u64 c.id, .int .u64 c.by'] 35 (0, 0))
  res : W.heap[w.heap.size + 1]? = some (.cells givZero 84 (0, 0))
  below : Below w.heap.size w W
  map : MapAt W p m
  low : p < w.heap.size
section
variable {w W W' W'' : World} {p : Nat} {m : MapM} {c : CallD}
theorem GvAt.start (h : MapAt w p m) : GvAt w ((w.alloc (.cells #[.int .u8 c.verb, .string c.key, .string c.value, .int .u32 c.flags, .int .i64 c.exp, .int .u64 c.id, .int .u64 c.by'] 35)).alloc (.cells givZero 84)) p m c :=
  ⟨(heap_two w _ _).1, (heap_two w _ _).2, below_two w _ _, h.below (below_two w _ _), h.lt⟩
theorem GvAt.lt (h : GvAt w W p m c) : w.heap.size + 1 < W.heap.size := (Array.getElem?_eq_some_iff.1 h.res).1
theorem GvAt.call (h : GvAt w W p m c) (hb : Below W'.heap.size W' W'') (he : W'.heap = W.heap) (ht : Below w.heap.size w W') : GvAt w W'' p m c := by
  have hl : W'.heap.size = W.heap.size := by rw [he]
  have hm : MapAt W' p m := by
    obtain ⟨mb, h1, h2⟩ := h.map
    refine ⟨mb, by rw [he]; exact h1, h2.imp id ?_⟩
    rintro ⟨b, rfl, es, clock, E, h3, h4⟩
    exact ⟨b, rfl, es, clock, E, by rw [he]; exact h3, h4⟩
  refine ⟨?_, ?_, ht.trans (hb.mono ht.size), hm.below hb, h.low⟩
  · rw [hb.block _ (by rw [hl]; exact (Array.getElem?_eq_some_iff.1 h.box).1), he]; exact h.box
  · rw [hb.block _ (by rw [hl]; exact h.lt), he]; exact h.res
theorem GvAt.ret (h : GvAt w W p m c) (hg : W.grownBy W' (some (w.heap.size + 1))) : Below w.heap.size w W' := below_grown h.below h.below.size hg (Nat.le_succ _)
end
theorem build_giv0 (W : World) : (Instr.build 84 #[]).run Tryz.prog W = .ok (.agg givZero) W := by kernel_rfl
theorem verbs_at (w : World) : Calls Tryz.prog 48 #[] w fun e w' => ∃ b, e = .returned (.map (some b)) ∧ w'.heap[b]? = some (.map verbEs 11) ∧ Below w.heap.size w w' :=
  (verbs_any w).mono fun e w' ⟨he, hw⟩ => ⟨_, he, by rw [hw, heap_at, if_pos rfl], by rw [hw]; exact (Below.refl _ _).alloc (Nat.le_refl _) _⟩
section
variable {w : World} {p : Nat} {m : MapM} {c : CallD} {ep : Nat}
set_option maxRecDepth 100000 in
set_option maxHeartbeats 4000000 in
theorem gives_late (h : MapAt w p m) (hme : m.epoch < 18446744073709551616) (he : ep < 18446744073709551616) (hc : comesE m.epoch ep = false) : Calls Tryz.prog 35 #[.pointer (some ⟨p, 0, none⟩), .agg #[.int .u8 c.verb, .string c.key, .string c.value, .int .u32 c.flags, .int .i64 c.exp, .int .u64 c.id, .int .u64 c.by'], .int .u64 (ep : Int)] w fun e w' => e = .returned (.tuple #[.agg givZero, .bool false, .bool false]) ∧ Below w.heap.size w w' := by
  have HCO := Lib.hid (fun W (hW : MapAt W p m) => (show Calls Tryz.prog 46 #[.pointer (some ⟨p, 0, none⟩), .int .u64 (ep : Int)] W fun e w' => e = .returned (.bool false) ∧ Below W.heap.size W w' from by have hx := comes_any p m.epoch ep hme he W (hW.cells.choose_spec.2.1); rw [hc] at hx; exact hx))
  clear hme he hc
  have hg0 := GvAt.start (c := c) h
  go_enter Tryz.func35, Tryz.ntmps35
  go_upto_region 1 with fail
  obtain ⟨W0, hW0⟩ : ∃ X, X = (w.alloc (.cells #[.int .u8 c.verb, .string c.key, .string c.value, .int .u32 c.flags, .int .i64 c.exp, .int .u64 c.id, .int .u64 c.by'] 35)).alloc (.cells givZero 84) := ⟨_, rfl⟩
  rw [← hW0] at hg0 ⊢
  have HG := Lib.hid hg0
  clear hW0 hg0 h
  go_wp2_with fail
  refine (HCO.out _ HG.out.map).mono ?_
  rintro e w1 ⟨rfl, hb⟩
  have HGn := Lib.hid (HG.out.call hb rfl HG.out.below)
  clear HG hb
  have HG := HGn
  clear HGn
  have q0 := build_giv0
  go_wp2_with (first
    | ((with_reducible show wpList _ _ _ (⟨none, Op.store 84 _ _, _, _, _, _⟩ :: _) _ _); refine wpList_store_whole (by rfl) 84 (.tmp 6) (.tmp 30) (by rfl) (w.heap.size + 1) (by rfl) givZero (by rfl) _ 84 HG.out.res (by rfl) (by kernel_rfl) (by simp [Value.oneCell']) ?_; intro w3 hr3 hg3 hs3)
    | ((with_reducible show bodyPost _ _ _ Exit.ret _ _); exact bodyPost_ret (v := .tuple #[.agg givZero, .bool false, .bool false]) (results_row_two rfl _ _ (w.heap.size + 1) _ _ _ _ (by rfl) hr3 Tryz.underlying84 rfl (by kernel_rfl) _ _ (by rfl) (by rfl)) rfl ⟨rfl, HG.out.ret hg3⟩)
    | fail)
set_option maxRecDepth 100000 in
set_option maxHeartbeats 4000000 in
theorem gives_wrong (h : MapAt w p m) (hme : m.epoch < 18446744073709551616) (he : ep < 18446744073709551616) (hkl : c.key.size ≤ maxLen) (hc : comesE m.epoch ep = true) (hv : c.verb ≠ 11) (hk : okB (bs c.key) = false) : Calls Tryz.prog 35 #[.pointer (some ⟨p, 0, none⟩), .agg #[.int .u8 c.verb, .string c.key, .string c.value, .int .u32 c.flags, .int .i64 c.exp, .int .u64 c.id, .int .u64 c.by'], .int .u64 (ep : Int)] w fun e w' => e = .returned (.tuple #[.agg givZero, .bool false, .bool false]) ∧ Below w.heap.size w w' := by
  have HCO := Lib.hid (fun W (hW : MapAt W p m) => (show Calls Tryz.prog 46 #[.pointer (some ⟨p, 0, none⟩), .int .u64 (ep : Int)] W fun e w' => e = .returned (.bool true) ∧ Below W.heap.size W w' from by have hx := comes_any p m.epoch ep hme he W (hW.cells.choose_spec.2.1); rw [hc] at hx; exact hx))
  clear hme he hc
  have HOK := Lib.hid (fun W => (show Calls Tryz.prog 47 #[.string c.key] W fun e w' => e = .returned (.bool false) ∧ W = w' from by have hx := ok_any c.key W hkl; rw [hk] at hx; exact hx))
  have hv2 : (c.verb != 11) = true := by rw [bne_iff_ne]; exact hv
  clear hk hkl hv
  have hg0 := GvAt.start (c := c) h
  go_enter Tryz.func35, Tryz.ntmps35
  go_upto_region 1 with fail
  obtain ⟨W0, hW0⟩ : ∃ X, X = (w.alloc (.cells #[.int .u8 c.verb, .string c.key, .string c.value, .int .u32 c.flags, .int .i64 c.exp, .int .u64 c.id, .int .u64 c.by'] 35)).alloc (.cells givZero 84) := ⟨_, rfl⟩
  rw [← hW0] at hg0 ⊢
  have HG := Lib.hid hg0
  clear hW0 hg0 h
  go_wp2_with fail
  refine (HCO.out _ HG.out.map).mono ?_
  rintro e w1 ⟨rfl, hb⟩
  have HGn := Lib.hid (HG.out.call hb rfl HG.out.below)
  clear HG hb
  have HG := HGn
  clear HGn
  have k0 : w1.cell? ⟨w.heap.size, 0, none⟩ = some (.int .u8 c.verb) := (cells_at HG.out.box 0).1
  have k1 : w1.cell? ⟨w.heap.size, 1, none⟩ = some (.string c.key) := (cells_at HG.out.box 1).1
  go_wp2_with fail
  refine (HOK.out _).mono ?_
  rintro e w' ⟨rfl, rfl⟩
  have q0 := build_giv0
  go_wp2_with (first
    | ((with_reducible show wpList _ _ _ (⟨none, Op.store 84 _ _, _, _, _, _⟩ :: _) _ _); refine wpList_store_whole (by rfl) 84 (.tmp 6) (.tmp 30) (by rfl) (w.heap.size + 1) (by rfl) givZero (by rfl) _ 84 HG.out.res (by rfl) (by kernel_rfl) (by simp [Value.oneCell']) ?_; intro w3 hr3 hg3 hs3)
    | ((with_reducible show bodyPost _ _ _ Exit.ret _ _); exact bodyPost_ret (v := .tuple #[.agg givZero, .bool false, .bool false]) (results_row_two rfl _ _ (w.heap.size + 1) _ _ _ _ (by rfl) hr3 Tryz.underlying84 rfl (by kernel_rfl) _ _ (by rfl) (by rfl)) rfl ⟨rfl, HG.out.ret hg3⟩)
    | fail)
theorem u8_wf {v : Int} (h : 0 ≤ v ∧ v ≤ 255) : (Lit.int .u8 v).wf = true := by
  have h1 : IntKind.u8.min = 0 := by decide
  have h2 : IntKind.u8.max = 255 := by decide
  simp [Lit.wf, h1, h2]
  omega
abbrev nilFn : Value := .nilFunc
theorem zero_fn (W : World) : (zeroValue 113).run Tryz.prog W = .ok nilFn W := by kernel_rfl
theorem find_no {v : Int} (h : ∀ k : Nat, 1 ≤ k → k ≤ 11 → v ≠ (k : Int)) : Instr.findNow (.int .u8) (.int .u8 v) verbEs.toList 0 = some none := by
  have h1 : (v == 1) = false := beq_eq_false_iff_ne.2 (h 1 (by omega) (by omega))
  have h2 : (v == 2) = false := beq_eq_false_iff_ne.2 (h 2 (by omega) (by omega))
  have h3 : (v == 3) = false := beq_eq_false_iff_ne.2 (h 3 (by omega) (by omega))
  have h4 : (v == 4) = false := beq_eq_false_iff_ne.2 (h 4 (by omega) (by omega))
  have h5 : (v == 5) = false := beq_eq_false_iff_ne.2 (h 5 (by omega) (by omega))
  have h6 : (v == 6) = false := beq_eq_false_iff_ne.2 (h 6 (by omega) (by omega))
  have h7 : (v == 7) = false := beq_eq_false_iff_ne.2 (h 7 (by omega) (by omega))
  have h8 : (v == 8) = false := beq_eq_false_iff_ne.2 (h 8 (by omega) (by omega))
  have h9 : (v == 9) = false := beq_eq_false_iff_ne.2 (h 9 (by omega) (by omega))
  have h10 : (v == 10) = false := beq_eq_false_iff_ne.2 (h 10 (by omega) (by omega))
  have h11 : (v == 11) = false := beq_eq_false_iff_ne.2 (h 11 (by omega) (by omega))
  simp only [verbEs, Instr.findNow, Instr.sameNow, if_true, h1, h2, h3, h4, h5, h6, h7, h8, h9, h10, h11]
set_option maxRecDepth 100000 in
set_option maxHeartbeats 4000000 in
theorem gives_no (h : MapAt w p m) (hme : m.epoch < 18446744073709551616) (he : ep < 18446744073709551616) (hkl : c.key.size ≤ maxLen) (hc : comesE m.epoch ep = true) (hk : c.verb ≠ 11 → okB (bs c.key) = true) (hv0 : 0 ≤ c.verb ∧ c.verb ≤ 255) (hno : ∀ k : Nat, 1 ≤ k → k ≤ 11 → c.verb ≠ (k : Int)) : Calls Tryz.prog 35 #[.pointer (some ⟨p, 0, none⟩), .agg #[.int .u8 c.verb, .string c.key, .string c.value, .int .u32 c.flags, .int .i64 c.exp, .int .u64 c.id, .int .u64 c.by'], .int .u64 (ep : Int)] w fun e w' => e = .returned (.tuple #[.agg givZero, .bool false, .bool false]) ∧ Below w.heap.size w w' := by
  have HCO := Lib.hid (fun W (hW : MapAt W p m) => (show Calls Tryz.prog 46 #[.pointer (some ⟨p, 0, none⟩), .int .u64 (ep : Int)] W fun e w' => e = .returned (.bool true) ∧ Below W.heap.size W w' from by have hx := comes_any p m.epoch ep hme he W (hW.cells.choose_spec.2.1); rw [hc] at hx; exact hx))
  clear hme he hc
  have HOK0 := Lib.hid (fun (hv : c.verb ≠ 11) W => (show Calls Tryz.prog 47 #[.string c.key] W fun e w' => e = .returned (.bool true) ∧ W = w' from by have hx := ok_any c.key W hkl; rw [hk hv] at hx; exact hx))
  clear hk
  have HLK := Lib.hid (fun (W : World) (b : Nat) (hb : W.heap[b]? = some (.map verbEs 11)) => run_lookup_miss (P := Tryz.prog) (t := 115) (Go.Maps.int_keyed Tryz.underlying32) Tryz.underlying115 Tryz.underlying32 hb (Go.Maps.keyOf_int_mk Tryz.underlying32 (show (Lit.int .u8 c.verb).wf = true from u8_wf hv0)) (find_no hno) (zero_fn W) true)
  clear hv0 hno hkl
  have hg0 := GvAt.start (c := c) h
  go_enter Tryz.func35, Tryz.ntmps35
  go_upto_region 1 with fail
  obtain ⟨W0, hW0⟩ : ∃ X, X = (w.alloc (.cells #[.int .u8 c.verb, .string c.key, .string c.value, .int .u32 c.flags, .int .i64 c.exp, .int .u64 c.id, .int .u64 c.by'] 35)).alloc (.cells givZero 84) := ⟨_, rfl⟩
  rw [← hW0] at hg0 ⊢
  have HG := Lib.hid hg0
  clear hW0 hg0 h
  go_cut [29] (fun s29 wx => s29 = .bool false ∧ GvAt w wx p m c)
  case first =>
    by_cases hv : c.verb = 11
    · have hv2 : (c.verb != 11) = false := by rw [hv]; rfl
      clear hv
      go_wp2_with fail
      refine (HCO.out _ HG.out.map).mono ?_
      rintro e w1 ⟨rfl, hb⟩
      have HGn := Lib.hid (HG.out.call hb rfl HG.out.below)
      clear HG hb
      have HG := HGn
      clear HGn
      have k0 : w1.cell? ⟨w.heap.size, 0, none⟩ = some (.int .u8 c.verb) := (cells_at HG.out.box 0).1
      have k1 : w1.cell? ⟨w.heap.size, 1, none⟩ = some (.string c.key) := (cells_at HG.out.box 1).1
      go_wp2_with fail
      go_meet
      case rel => exact ⟨rfl, HG.out⟩
    · have hv2 : (c.verb != 11) = true := by rw [bne_iff_ne]; exact hv
      have HOK := Lib.hid (HOK0.out hv)
      clear hv
      go_wp2_with fail
      refine (HCO.out _ HG.out.map).mono ?_
      rintro e w1 ⟨rfl, hb⟩
      have HGn := Lib.hid (HG.out.call hb rfl HG.out.below)
      clear HG hb
      have HG := HGn
      clear HGn
      have k0 : w1.cell? ⟨w.heap.size, 0, none⟩ = some (.int .u8 c.verb) := (cells_at HG.out.box 0).1
      have k1 : w1.cell? ⟨w.heap.size, 1, none⟩ = some (.string c.key) := (cells_at HG.out.box 1).1
      go_wp2_with fail
      refine (HOK.out _).mono ?_
      rintro e w' ⟨rfl, rfl⟩
      go_wp2_with fail
      go_meet
      case rel => exact ⟨rfl, HG.out⟩
  case rest =>
    obtain ⟨rfl, hg1⟩ := hcut
    obtain ⟨W1, rfl⟩ : ∃ X, X = wc := ⟨_, rfl⟩
    have HG := Lib.hid hg1
    clear hg1
    go_upto_region 3 with fail
    go_cut [8, 9] (fun s8 s9 wx => s8 = .bool false ∧ s9 = nilFn ∧ GvAt w wx p m c)
    case first =>
      have k0 : W1.cell? ⟨w.heap.size, 0, none⟩ = some (.int .u8 c.verb) := (cells_at HG.out.box 0).1
      go_region_law (first
        | (refine stepC (by rfl) 48 #[] (by go_simp) (verbs_at _) ?_; rintro e w2 ⟨b2, rfl, hm2, hb2⟩; refine ⟨_, rfl, ?_⟩; have hl2 := HLK.out w2 b2 hm2; have HGn := Lib.hid (GvAt.call HG.out hb2 rfl (by first | exact HG.out.below | exact bdrew HG.out.below)); clear HG hb2 hm2; have HG := HGn; clear HGn; have k0 : w2.cell? ⟨w.heap.size, 0, none⟩ = some (.int .u8 c.verb) := (cells_at HG.out.box 0).1)
        | fail)
      all_goals
        go_wp2_with fail
        go_meet
        case rel => exact ⟨rfl, rfl, HG.out⟩
    case rest =>
      obtain ⟨rfl, rfl, hg1⟩ := hcut
      have HG := Lib.hid hg1
      clear hg1
      have q0 := build_giv0
      go_wp2_with (first
        | ((with_reducible show wpList _ _ _ (⟨none, Op.store 84 _ _, _, _, _, _⟩ :: _) _ _); refine wpList_store_whole (by rfl) 84 (.tmp 6) (.tmp 40) (by rfl) (w.heap.size + 1) (by rfl) givZero (by rfl) _ 84 HG.out.res (by rfl) (by kernel_rfl) (by simp [Value.oneCell']) ?_; intro w3 hr3 hg3 hs3)
        | ((with_reducible show bodyPost _ _ _ Exit.ret _ _); exact bodyPost_ret (v := .tuple #[.agg givZero, .bool false, .bool false]) (results_row_two rfl _ _ (w.heap.size + 1) _ _ _ _ (by rfl) hr3 Tryz.underlying84 rfl (by kernel_rfl) _ _ (by rfl) (by rfl)) rfl ⟨rfl, HG.out.ret hg3⟩)
        | fail)
theorem there_block {w : World} {b : Nat} {cs : Array Value} {t : TypeId} (h : w.heap[b]? = some (.cells cs t (0, 0))) : w.there b 0 cs.size := fun j hj => by
  rw [Nat.zero_add]
  exact ⟨by rw [cell_of_row w b j cs t (0, 0) h, Array.getElem?_eq_getElem hj]; rfl, frozen_of_row w b j cs t h⟩
/-- The map, and what is asked of it. -/
structure GvQ (w W : World) (p : Nat) (m : MapM) (c : CallD) (q : Nat) (Q : Array Value) : Prop where
  gv : GvAt w W p m c
  asked : W.heap[q]? = some (.cells Q 118 (0, 0))
  far : w.heap.size + 1 < q
theorem GvAt.keepSet {w W : World} {p : Nat} {m : MapM} {c : CallD} (h : GvAt w W p m c) {W' : World} {q : Nat} (hg : W.grownBy W' (some q)) (hq : w.heap.size + 1 < q) (hm : ∃ cs t fz, W.heap[q]? = some (.cells cs t fz)) : GvAt w W' p m c := by
  have h1 := h.low
  have hc : Chg (fun k => k = q) W W' := Chg.of_grown hg (fun i _ e => by cases e; rfl)
  obtain ⟨cs, t, fz, hm⟩ := hm
  refine ⟨hc.obj h.box (by omega), hc.obj h.res (by omega), grown_below h.below h.below.size hg (fun k e => by cases e; omega), h.map.kept hc (by omega) (fun b ⟨es, clock, hb⟩ e => ?_), h.low⟩
  subst e
  rw [hb] at hm
  cases hm
theorem GvQ.call {w W W' W'' : World} {p : Nat} {m : MapM} {c : CallD} {q : Nat} {Q : Array Value} (h : GvQ w W p m c q Q) (hb : Below W'.heap.size W' W'') (he : W'.heap = W.heap) (ht : Below w.heap.size w W') : GvQ w W'' p m c q Q :=
  ⟨h.gv.call hb he ht, by rw [hb.block _ (by rw [he]; exact (Array.getElem?_eq_some_iff.1 h.asked).1), he]; exact h.asked, h.far⟩
theorem GvQ.set {w W : World} {p : Nat} {m : MapM} {c : CallD} {q : Nat} {Q : Array Value} (h : GvQ w W p m c q Q) (i : Nat) (v : Value) : GvQ w (W.setCell ⟨q, i, none⟩ v) p m c q (Q.setIfInBounds i v) :=
  ⟨h.gv.keepSet (q := q) ⟨rfl, rfl, rfl, by simp, fun k _ hk => Below.heap_setCell W ⟨q, i, none⟩ v k (fun e => hk (by rw [e]))⟩ h.far ⟨_, _, _, h.asked⟩, Go.Joins.block_setCell h.asked v, h.far⟩
theorem build_asked (c : CallD) (ep n : Nat) (W : World) : (Instr.build 118 #[(0, .agg #[.int .u8 c.verb, .string c.key, .string c.value, .int .u32 c.flags, .int .i64 c.exp, .int .u64 c.id, .int .u64 c.by']), (1, .int .u64 (ep : Int)), (5, .int .u64 (n : Int))]).run Tryz.prog W = .ok (.agg #[.int .u8 c.verb, .string c.key, .string c.value, .int .u32 c.flags, .int .i64 c.exp, .int .u64 c.id, .int .u64 c.by', .int .u64 (ep : Int), .string ⟨#[]⟩, .string ⟨#[]⟩, .int .u32 0, .int .u64 0, .int .i64 0, .int .i64 0, .bool false, .bool false, .int .u64 (n : Int)]) W := by kernel_rfl
set_option maxRecDepth 100000 in
set_option maxHeartbeats 4000000 in
theorem gives_go (h : MapAt w p m) (hme : m.epoch < 18446744073709551616) (he : ep < 18446744073709551616) (hkl : c.key.size ≤ maxLen) (hc : comesE m.epoch ep = true) (hk : c.verb ≠ 11 → okB (bs c.key) = true) (hv0 : 0 ≤ c.verb ∧ c.verb ≤ 255) {F i : Nat} {g : GivD} (hF : Instr.findNow (.int .u8) (.int .u8 c.verb) verbEs.toList 0 = some (some (i, .func (.func F) #[] #[]))) (hid : m.ids < 18446744073709551615) (hcf : ∀ (args : Array Value) (W : World), (callFunc F args).run Tryz.prog W = .ok (.enter F args) W) (hdo : ∀ W, Below w.heap.size w W → Calls Tryz.prog F #[.agg (askedCells c ep (wasL m.L c.key) (atL m.L c.key).isSome (thereL m.L c.key ep) (m.ids + 1))] W fun e w' => e = .returned (.agg (givCells g)) ∧ Below W.heap.size W w') : Calls Tryz.prog 35 #[.pointer (some ⟨p, 0, none⟩), .agg #[.int .u8 c.verb, .string c.key, .string c.value, .int .u32 c.flags, .int .i64 c.exp, .int .u64 c.id, .int .u64 c.by'], .int .u64 (ep : Int)] w fun e w' => e = .returned (.tuple #[.agg (givCells g), .bool (atL m.L c.key).isSome, .bool true]) ∧ Below w.heap.size w w' := by
  have HEP := Lib.hid he
  have HCO := Lib.hid (fun W (hW : MapAt W p m) => (show Calls Tryz.prog 46 #[.pointer (some ⟨p, 0, none⟩), .int .u64 (ep : Int)] W fun e w' => e = .returned (.bool true) ∧ Below W.heap.size W w' from by have hx := comes_any p m.epoch ep hme he W (hW.cells.choose_spec.2.1); rw [hc] at hx; exact hx))
  clear hme he hc
  have HOK0 := Lib.hid (fun (hv : c.verb ≠ 11) W => (show Calls Tryz.prog 47 #[.string c.key] W fun e w' => e = .returned (.bool true) ∧ W = w' from by have hx := ok_any c.key W hkl; rw [hk hv] at hx; exact hx))
  clear hk
  have HLK := Lib.hid (fun (W : World) (b : Nat) (hb : W.heap[b]? = some (.map verbEs 11)) => run_lookup_hit (P := Tryz.prog) (t := 115) (Go.Maps.int_keyed Tryz.underlying32) Tryz.underlying115 Tryz.underlying32 hb (Go.Maps.keyOf_int_mk Tryz.underlying32 (show (Lit.int .u8 c.verb).wf = true from u8_wf hv0)) hF true)
  obtain ⟨n1, hn1⟩ : ∃ n, n = m.ids + 1 := ⟨_, rfl⟩
  have hwr : IntKind.u64.wrap ((m.ids : Int) + 1) = (n1 : Int) := by rw [IntKind.wrap_u64]; omega
  rw [← hn1] at hdo
  clear hv0 hF hid hn1
  obtain ⟨was, hwas⟩ : ∃ x, x = wasL m.L c.key := ⟨_, rfl⟩
  obtain ⟨has, hhas⟩ : ∃ x, x = (atL m.L c.key).isSome := ⟨_, rfl⟩
  obtain ⟨there, hthere⟩ : ∃ x, x = thereL m.L c.key ep := ⟨_, rfl⟩
  rw [← hwas, ← hhas, ← hthere] at hdo
  rw [← hhas]
  have HTH := Lib.hid (show there = (has && aliveE was ep) from by rw [hthere, hhas, hwas]; rfl)
  have HWAS := Lib.hid hwas
  have HHAS := Lib.hid hhas
  have HDO := Lib.hid hdo
  have HKL := Lib.hid hkl
  clear hwas hhas hthere hdo
  have hg0 := GvAt.start (c := c) h
  go_enter Tryz.func35, Tryz.ntmps35
  go_upto_region 1 with fail
  obtain ⟨W0, hW0⟩ : ∃ X, X = (w.alloc (.cells #[.int .u8 c.verb, .string c.key, .string c.value, .int .u32 c.flags, .int .i64 c.exp, .int .u64 c.id, .int .u64 c.by'] 35)).alloc (.cells givZero 84) := ⟨_, rfl⟩
  rw [← hW0] at hg0 ⊢
  have HG := Lib.hid hg0
  clear hW0 hg0 h
  go_cut [29] (fun s29 wx => s29 = .bool false ∧ GvAt w wx p m c)
  case first =>
    by_cases hv : c.verb = 11
    · have hv2 : (c.verb != 11) = false := by rw [hv]; rfl
      clear hv
      go_wp2_with fail
      refine (HCO.out _ HG.out.map).mono ?_
      rintro e w1 ⟨rfl, hb⟩
      have HGn := Lib.hid (HG.out.call hb rfl HG.out.below)
      clear HG hb
      have HG := HGn
      clear HGn
      have k0 : w1.cell? ⟨w.heap.size, 0, none⟩ = some (.int .u8 c.verb) := (cells_at HG.out.box 0).1
      have k1 : w1.cell? ⟨w.heap.size, 1, none⟩ = some (.string c.key) := (cells_at HG.out.box 1).1
      go_wp2_with fail
      go_meet
      case rel => exact ⟨rfl, HG.out⟩
    · have hv2 : (c.verb != 11) = true := by rw [bne_iff_ne]; exact hv
      have HOK := Lib.hid (HOK0.out hv)
      clear hv
      go_wp2_with fail
      refine (HCO.out _ HG.out.map).mono ?_
      rintro e w1 ⟨rfl, hb⟩
      have HGn := Lib.hid (HG.out.call hb rfl HG.out.below)
      clear HG hb
      have HG := HGn
      clear HGn
      have k0 : w1.cell? ⟨w.heap.size, 0, none⟩ = some (.int .u8 c.verb) := (cells_at HG.out.box 0).1
      have k1 : w1.cell? ⟨w.heap.size, 1, none⟩ = some (.string c.key) := (cells_at HG.out.box 1).1
      go_wp2_with fail
      refine (HOK.out _).mono ?_
      rintro e w' ⟨rfl, rfl⟩
      go_wp2_with fail
      go_meet
      case rel => exact ⟨rfl, HG.out⟩
  case rest =>
    obtain ⟨rfl, hg1⟩ := hcut
    obtain ⟨W1, rfl⟩ : ∃ X, X = wc := ⟨_, rfl⟩
    have HG := Lib.hid hg1
    clear hg1
    go_upto_region 3 with fail
    go_cut [8, 9] (fun s8 s9 wx => s8 = .bool true ∧ s9 = .func (.func F) #[] #[] ∧ GvAt w wx p m c)
    case first =>
      have k0 : W1.cell? ⟨w.heap.size, 0, none⟩ = some (.int .u8 c.verb) := (cells_at HG.out.box 0).1
      go_region_law (first
        | (refine stepC (by rfl) 48 #[] (by go_simp) (verbs_at _) ?_; rintro e w2 ⟨b2, rfl, hm2, hb2⟩; refine ⟨_, rfl, ?_⟩; have hl2 := HLK.out w2 b2 hm2; have HGn := Lib.hid (GvAt.call HG.out hb2 rfl (by first | exact HG.out.below | exact bdrew HG.out.below)); clear HG hb2 hm2; have HG := HGn; clear HGn; have k0 : w2.cell? ⟨w.heap.size, 0, none⟩ = some (.int .u8 c.verb) := (cells_at HG.out.box 0).1)
        | fail)
      all_goals
        go_wp2_with fail
        go_meet
        case rel => exact ⟨rfl, rfl, HG.out⟩
    case rest =>
      obtain ⟨rfl, rfl, hg1⟩ := hcut
      have HG := Lib.hid hg1
      clear hg1
      obtain ⟨W2, rfl⟩ : ∃ X, X = wc := ⟨_, rfl⟩
      go_upto_region 6 with fail
      go_cut [10] (fun s10 wx => ∃ q, s10 = .pointer (some ⟨q, 0, none⟩) ∧ GvQ w wx p m c q #[.int .u8 c.verb, .string c.key, .string c.value, .int .u32 c.flags, .int .i64 c.exp, .int .u64 c.id, .int .u64 c.by', .int .u64 (ep : Int), .string ⟨#[]⟩, .string ⟨#[]⟩, .int .u32 0, .int .u64 0, .int .i64 0, .int .i64 0, .bool false, .bool false, .int .u64 (n1 : Int)])
      case first =>
        have qb := build_asked c ep n1
        refine wp_region_held_drew (S := fun W => W.rangeAt w.heap.size 0 [.int .u8 c.verb, .string c.key, .string c.value, .int .u32 c.flags, .int .i64 c.exp, .int .u64 c.id, .int .u64 c.by'] ∧ W.cell? ⟨p, 2, none⟩ = some (.int .u64 (m.ids : Int))) (by kernel_rfl) ⟨range_block HG.out.box, (let ⟨_, _, _, h2⟩ := HG.out.map.cells; h2)⟩ (fun hHeld => ?_)
        refine wpAnyH_take (i := 0) rfl (by kernel_rfl) (by kernel_rfl) (by kernel_rfl) (fun _ _ _ h => h) (yieldsIf_load_mid (by rfl) 35 (.tmp 4) (by rfl) w.heap.size 0 (by rfl) [.int .u8 c.verb, .string c.key, .string c.value, .int .u32 c.flags, .int .i64 c.exp, .int .u64 c.id, .int .u64 c.by'] _ (fun w hSw => hSw.1) Tryz.underlying35 rfl (by kernel_rfl)) (by assumption) ?_
        try simp only [Act.put, tzA, tzB, tzC, tzD, tzE]
        refine tkq (i := 1) (v := ?_) rfl (by kernel_rfl) (fun _ _ _ h => h) (by rfl) ?_ (by assumption) ?_
        rotate_left 1
        · ((intro w hSw; (try dsimp only at hSw); go_simp) <;> with_reducible rfl)
        try simp only [Act.put, tzA, tzB, tzC, tzD, tzE, tzF]
        refine tkq (i := 2) (v := ?_) rfl (by kernel_rfl) (fun _ _ _ h => h) (by rfl) ?_ (by assumption) ?_
        rotate_left 1
        · ((intro w hSw; (try dsimp only at hSw); go_simp) <;> with_reducible rfl)
        try simp only [Act.put, tzA, tzB, tzC, tzD, tzE, tzF]
        refine tkq (i := 3) (v := ?_) rfl (by kernel_rfl) (fun _ _ _ h => h) (by rfl) ?_ (by assumption) ?_
        rotate_left 1
        · ((intro w hSw; (try dsimp only at hSw); go_simp) <;> with_reducible rfl)
        try simp only [Act.put, tzA, tzB, tzC, tzD, tzE, tzF]
        refine tkq (i := 4) (v := ?_) rfl (by kernel_rfl) (fun _ _ _ h => h) (by rfl) ?_ (by assumption) ?_
        rotate_left 1
        · ((intro w hSw; (try dsimp only at hSw); go_simp) <;> with_reducible rfl)
        try simp only [Act.put, tzA, tzB, tzC, tzD, tzE, tzF]
        refine tkq (i := 5) (v := ?_) rfl (by kernel_rfl) (fun _ _ _ h => h) (by rfl) ?_ (by assumption) ?_
        rotate_left 1
        · ((intro w hSw; (try dsimp only at hSw); go_simp) <;> with_reducible rfl)
        try simp only [Act.put, tzA, tzB, tzC, tzD, tzE, tzF]
        refine tkq (i := 6) (v := ?_) rfl (by kernel_rfl) (fun _ _ _ h => h) (by rfl) ?_ (by assumption) ?_
        rotate_left 1
        · ((intro w hSw; (try dsimp only at hSw); go_simp) <;> with_reducible rfl)
        try simp only [Act.put, tzA, tzB, tzC, tzD, tzE, tzF]
        refine tkq (i := 7) (v := ?_) rfl (by kernel_rfl) (fun _ _ _ h => h) (by rfl) ?_ (by assumption) ?_
        rotate_left 1
        · ((intro w hSw; (try dsimp only at hSw); go_simp) <;> with_reducible rfl)
        try simp only [Act.put, tzA, tzB, tzC, tzD, tzE, tzF]
        refine wpAnyH_ready (rs := [8]) (by kernel_rfl) (by simp) ?_
        refine AllReadyH.cons rfl (fun K hK => ?_) AllReadyH.nil
        go_split_ands
        go_simp
        have HGn := Lib.hid (HG.out.call (W' := W2) ((bdrew (Below.refl _ _)).alloc (Nat.le_refl _) _ : Below W2.heap.size W2 (World.alloc W2.drew (.cells #[.int .u8 0, .string ⟨#[]⟩, .string ⟨#[]⟩, .int .u32 0, .int .i64 0, .int .u64 0, .int .u64 0, .int .u64 0, .string ⟨#[]⟩, .string ⟨#[]⟩, .int .u32 0, .int .u64 0, .int .i64 0, .int .i64 0, .bool false, .bool false, .int .u64 0] 118))) rfl HG.out.below)
        have HLT := Lib.hid HG.out.lt
        clear HG
        have HG := HGn
        clear HGn
        refine hK.out _ _ ⟨range_block HG.out.box, (let ⟨_, _, _, h2⟩ := HG.out.map.cells; h2)⟩ (fun hHeld2 => ?_)
        clear hK K
        try simp only [Act.put, tzA, tzB, tzC, tzD, tzE, tzF]
        have HZ := Lib.hid (show (World.drew (W2.alloc (.cells #[.int .u8 0, .string ⟨#[]⟩, .string ⟨#[]⟩, .int .u32 0, .int .i64 0, .int .u64 0, .int .u64 0, .int .u64 0, .string ⟨#[]⟩, .string ⟨#[]⟩, .int .u32 0, .int .u64 0, .int .i64 0, .int .i64 0, .bool false, .bool false, .int .u64 0] 118))).heap[W2.heap.size]? = some (.cells #[.int .u8 0, .string ⟨#[]⟩, .string ⟨#[]⟩, .int .u32 0, .int .i64 0, .int .u64 0, .int .u64 0, .int .u64 0, .string ⟨#[]⟩, .string ⟨#[]⟩, .int .u32 0, .int .u64 0, .int .i64 0, .int .i64 0, .bool false, .bool false, .int .u64 0] 118 (0, 0)) from heap_alloc_new _ _)
        refine wpAnyH_ready (rs := [9]) (by kernel_rfl) (by simp) ?_
        refine AllReadyH.cons rfl (fun K hK => ?_) AllReadyH.nil
        rw [if_pos (by rfl)]
        refine wp_store_mid 118 (.tmp 10) (.tmp 48) (by rfl) W2.heap.size 0 #[.int .u8 c.verb, .string c.key, .string c.value, .int .u32 c.flags, .int .i64 c.exp, .int .u64 c.id, .int .u64 c.by', .int .u64 (ep : Int), .string ⟨#[]⟩, .string ⟨#[]⟩, .int .u32 0, .int .u64 0, .int .i64 0, .int .i64 0, .bool false, .bool false, .int .u64 (n1 : Int)] (by rfl) (by rfl) (by have h := there_block HZ.out; exact h) (by kernel_rfl) (by simp [Value.oneCell']) ?_
        have HGn := Lib.hid (GvAt.keepSet (W := (World.drew (W2.alloc (.cells #[.int .u8 0, .string ⟨#[]⟩, .string ⟨#[]⟩, .int .u32 0, .int .i64 0, .int .u64 0, .int .u64 0, .int .u64 0, .string ⟨#[]⟩, .string ⟨#[]⟩, .int .u32 0, .int .u64 0, .int .i64 0, .int .i64 0, .bool false, .bool false, .int .u64 0] 118)))) HG.out (setCells_grown #[.int .u8 c.verb, .string c.key, .string c.value, .int .u32 c.flags, .int .i64 c.exp, .int .u64 c.id, .int .u64 c.by', .int .u64 (ep : Int), .string ⟨#[]⟩, .string ⟨#[]⟩, .int .u32 0, .int .u64 0, .int .i64 0, .int .i64 0, .bool false, .bool false, .int .u64 (n1 : Int)].toList 0 _ W2.heap.size).1 HLT.out ⟨_, _, _, HZ.out⟩)
        have HQ := Lib.hid (setCells_whole (cells := #[.int .u8 c.verb, .string c.key, .string c.value, .int .u32 c.flags, .int .i64 c.exp, .int .u64 c.id, .int .u64 c.by', .int .u64 (ep : Int), .string ⟨#[]⟩, .string ⟨#[]⟩, .int .u32 0, .int .u64 0, .int .i64 0, .int .i64 0, .bool false, .bool false, .int .u64 (n1 : Int)]) HZ.out (by rfl))
        clear HG
        refine hK.out _ _ ⟨range_block HGn.out.box, (let ⟨_, _, _, h2⟩ := HGn.out.map.cells; h2)⟩ (fun hHeld2 => ?_)
        clear hK K
        try simp only [Act.put, tzD, tzE, tzF]
        refine wpAnyH_done (by kernel_rfl) ?_ _
        clear hHeld2
        go_wp2_with fail
        go_meet
        case rel => exact ⟨_, rfl, ⟨HGn.out, HQ.out, HLT.out⟩⟩
      case rest =>
        obtain ⟨q, rfl, hq⟩ := hcut
        obtain ⟨W3, rfl⟩ : ∃ X, X = wc := ⟨_, rfl⟩
        have HQ := Lib.hid hq
        clear hq
        have HAT := Lib.hid (fun W (hW : MapAt W p m) => (show Calls Tryz.prog 17 #[.pointer (some ⟨p, 0, none⟩), .string c.key] W fun e w' => e = .returned (.tuple #[.agg #[.string was.key, .string was.value, .int .u32 was.flags, .int .u64 was.id, .int .i64 was.dies, .int .i64 was.gen], .bool has]) ∧ Below W.heap.size W w' from by rw [HHAS.out, HWAS.out]; exact mapsAt_any hW HKL.out))
        have k1 : W3.cell? ⟨w.heap.size, 1, none⟩ = some (.string c.key) := (cells_at HQ.out.gv.box 1).1
        go_wp2_with fail
        refine (HAT.out _ HQ.out.gv.map).mono ?_
        rintro e w4 ⟨rfl, hb4⟩
        have HQn := Lib.hid (HQ.out.call hb4 rfl HQ.out.gv.below)
        clear HQ hb4
        have HQ := HQn
        clear HQn
        have q8 : w4.cell? ⟨q, 8, none⟩ = some (.string ⟨#[]⟩) := (cells_at HQ.out.asked 8).1
        have r8 : w4.frozen? ⟨q, 8, none⟩ = false := (cells_at HQ.out.asked 8).2
        have q9 : w4.cell? ⟨q, 9, none⟩ = some (.string ⟨#[]⟩) := (cells_at HQ.out.asked 9).1
        have r9 : w4.frozen? ⟨q, 9, none⟩ = false := (cells_at HQ.out.asked 9).2
        have q10 : w4.cell? ⟨q, 10, none⟩ = some (.int .u32 0) := (cells_at HQ.out.asked 10).1
        have r10 : w4.frozen? ⟨q, 10, none⟩ = false := (cells_at HQ.out.asked 10).2
        have q11 : w4.cell? ⟨q, 11, none⟩ = some (.int .u64 0) := (cells_at HQ.out.asked 11).1
        have r11 : w4.frozen? ⟨q, 11, none⟩ = false := (cells_at HQ.out.asked 11).2
        have q12 : w4.cell? ⟨q, 12, none⟩ = some (.int .i64 0) := (cells_at HQ.out.asked 12).1
        have r12 : w4.frozen? ⟨q, 12, none⟩ = false := (cells_at HQ.out.asked 12).2
        have q13 : w4.cell? ⟨q, 13, none⟩ = some (.int .i64 0) := (cells_at HQ.out.asked 13).1
        have r13 : w4.frozen? ⟨q, 13, none⟩ = false := (cells_at HQ.out.asked 13).2
        have q14 : w4.cell? ⟨q, 14, none⟩ = some (.bool false) := (cells_at HQ.out.asked 14).1
        have r14 : w4.frozen? ⟨q, 14, none⟩ = false := (cells_at HQ.out.asked 14).2
        go_upto_region 8 with fail
        clear k1 q8 r8 q9 r9 q10 r10 q11 r11 q12 r12 q13 r13 q14 r14
        obtain ⟨W5, hW5⟩ : ∃ X, X = (((((((w4.setCell ⟨q, 8, none⟩ (.string was.key)).setCell ⟨q, 9, none⟩ (.string was.value)).setCell ⟨q, 10, none⟩ (.int .u32 was.flags)).setCell ⟨q, 11, none⟩ (.int .u64 was.id)).setCell ⟨q, 12, none⟩ (.int .i64 was.dies)).setCell ⟨q, 13, none⟩ (.int .i64 was.gen)).setCell ⟨q, 14, none⟩ (.bool has)) := ⟨_, rfl⟩
        have ht := (((((((HQ.out.set 8 (.string was.key)).set 9 (.string was.value)).set 10 (.int .u32 was.flags)).set 11 (.int .u64 was.id)).set 12 (.int .i64 was.dies)).set 13 (.int .i64 was.gen)).set 14 (.bool has))
        rw [← hW5] at ht ⊢
        simp only [List.setIfInBounds_toArray, List.set_cons_succ, List.set_cons_zero] at ht
        clear HQ
        have HQ := Lib.hid ht
        clear hW5 ht
        go_cut [] (fun wx => GvQ w wx p m c q #[.int .u8 c.verb, .string c.key, .string c.value, .int .u32 c.flags, .int .i64 c.exp, .int .u64 c.id, .int .u64 c.by', .int .u64 (ep : Int), .string was.key, .string was.value, .int .u32 was.flags, .int .u64 was.id, .int .i64 was.dies, .int .i64 was.gen, .bool has, .bool there, .int .u64 (n1 : Int)])
        case first =>
          have q15 : W5.cell? ⟨q, 15, none⟩ = some (.bool false) := (cells_at HQ.out.asked 15).1
          have r15 : W5.frozen? ⟨q, 15, none⟩ = false := (cells_at HQ.out.asked 15).2
          have q14 : W5.cell? ⟨q, 14, none⟩ = some (.bool has) := (cells_at HQ.out.asked 14).1
          cases hh : has
          · rw [hh] at q14
            go_wp2_with fail
            go_meet
            case rel =>
              have ht := (HQ.out.set 15 (.bool false))
              simp only [List.setIfInBounds_toArray, List.set_cons_succ, List.set_cons_zero] at ht
              rw [show there = false from by rw [HTH.out, hh]; rfl]
              exact ht
          · rw [hh] at q14
            have hth : there = aliveE was ep := by rw [HTH.out, hh]; rfl
            have HAL := Lib.hid (fun W => (show Calls Tryz.prog 49 #[was.val, .int .u64 (ep : Int)] W fun e w' => e = .returned (.bool there) ∧ Below W.heap.size W w' from by rw [hth]; exact alive_any was ep HEP.out W))
            clear hth
            have q8 : W5.cell? ⟨q, 8, none⟩ = some (.string was.key) := (cells_at HQ.out.asked 8).1
            have q9 : W5.cell? ⟨q, 9, none⟩ = some (.string was.value) := (cells_at HQ.out.asked 9).1
            have q10 : W5.cell? ⟨q, 10, none⟩ = some (.int .u32 was.flags) := (cells_at HQ.out.asked 10).1
            have q11 : W5.cell? ⟨q, 11, none⟩ = some (.int .u64 was.id) := (cells_at HQ.out.asked 11).1
            have q12 : W5.cell? ⟨q, 12, none⟩ = some (.int .i64 was.dies) := (cells_at HQ.out.asked 12).1
            have q13 : W5.cell? ⟨q, 13, none⟩ = some (.int .i64 was.gen) := (cells_at HQ.out.asked 13).1
            go_wp2_with fail
            refine (HAL.out _).mono ?_
            rintro e w6 ⟨rfl, hb6⟩
            have HQn := Lib.hid (HQ.out.call hb6 rfl HQ.out.gv.below)
            clear HQ hb6
            have HQ := HQn
            clear HQn
            have q15 : w6.cell? ⟨q, 15, none⟩ = some (.bool false) := (cells_at HQ.out.asked 15).1
            have r15 : w6.frozen? ⟨q, 15, none⟩ = false := (cells_at HQ.out.asked 15).2
            go_wp2_with fail
            go_meet
            case rel =>
              have ht := (HQ.out.set 15 (.bool there))
              simp only [List.setIfInBounds_toArray, List.set_cons_succ, List.set_cons_zero] at ht
              exact ht
        case rest =>
          have HQ := Lib.hid hcut
          clear hcut
          obtain ⟨W7, rfl⟩ : ∃ X, X = wc := ⟨_, rfl⟩
          go_upto_region 9 with fail
          refine wp_region_held_drew (S := fun W => W.rangeAt q 0 [.int .u8 c.verb, .string c.key, .string c.value, .int .u32 c.flags, .int .i64 c.exp, .int .u64 c.id, .int .u64 c.by', .int .u64 (ep : Int), .string was.key, .string was.value, .int .u32 was.flags, .int .u64 was.id, .int .i64 was.dies, .int .i64 was.gen, .bool has, .bool there, .int .u64 (n1 : Int)] ∧ W.cell? ⟨q, 14, none⟩ = some (.bool has)) (by kernel_rfl) ⟨range_block HQ.out.asked, (cells_at HQ.out.asked 14).1⟩ (fun hHeld => ?_)
          refine tkq (i := 0) (v := ?_) rfl (by kernel_rfl) (fun _ _ _ h => h) (by rfl) ?_ (by assumption) ?_
          rotate_left 1
          · ((intro w hSw; (try dsimp only at hSw); go_simp) <;> with_reducible rfl)
          try simp only [Act.put, tzA, tzB, tzC, tzD, tzE]
          refine wpAnyH_take (i := 1) rfl (by kernel_rfl) (by kernel_rfl) (by kernel_rfl) (fun _ _ _ h => h) (yieldsIf_load_mid (by rfl) 118 (.tmp 10) (by rfl) q 0 (by rfl) [.int .u8 c.verb, .string c.key, .string c.value, .int .u32 c.flags, .int .i64 c.exp, .int .u64 c.id, .int .u64 c.by', .int .u64 (ep : Int), .string was.key, .string was.value, .int .u32 was.flags, .int .u64 was.id, .int .i64 was.dies, .int .i64 was.gen, .bool has, .bool there, .int .u64 (n1 : Int)] _ (fun w hSw => hSw.1) Tryz.underlying118 rfl (by kernel_rfl)) (by assumption) ?_
          try simp only [Act.put, tzA, tzB, tzC, tzD, tzE, tzF]
          refine tkq (i := 3) (v := ?_) rfl (by kernel_rfl) (fun _ _ _ h => h) (by rfl) ?_ (by assumption) ?_
          rotate_left 1
          · ((intro w hSw; (try dsimp only at hSw); go_simp) <;> with_reducible rfl)
          try simp only [Act.put, tzA, tzB, tzC, tzD, tzE, tzF]
          refine tkq (i := 4) (v := ?_) rfl (by kernel_rfl) (fun _ _ _ h => h) (by rfl) ?_ (by assumption) ?_
          rotate_left 1
          · ((intro w hSw; (try dsimp only at hSw); go_simp) <;> with_reducible rfl)
          try simp only [Act.put, tzA, tzB, tzC, tzD, tzE, tzF]
          refine wpAnyH_ready (rs := [2]) (by kernel_rfl) (by simp) ?_
          refine AllReadyH.cons rfl (fun K hK => ?_) AllReadyH.nil
          go_split_ands
          go_simp
          refine (HDO.out _ (by first | exact HQ.out.gv.below | exact bdrew HQ.out.gv.below)).mono ?_
          rintro e w8 ⟨rfl, hb8⟩
          have HQn := Lib.hid (GvQ.call HQ.out hb8 rfl (by first | exact HQ.out.gv.below | exact bdrew HQ.out.gv.below))
          clear HQ hb8
          have HQ := HQn
          clear HQn
          refine hK.out _ _ ⟨range_block HQ.out.asked, (cells_at HQ.out.asked 14).1⟩ (fun hHeld2 => ?_)
          clear hK K
          try simp only [Act.put, tzA, tzB, tzC, tzD, tzE, tzF]
          refine wpAnyH_ready (rs := [5]) (by kernel_rfl) (by simp) ?_
          refine AllReadyH.cons rfl (fun K hK => ?_) AllReadyH.nil
          rw [if_pos (by rfl)]
          refine wp_store_mid 84 (.tmp 6) (.tmp 69) (by rfl) (w.heap.size + 1) 0 (givCells g) (by rfl) (by rfl) (by have h := there_block HQ.out.gv.res; exact h) (by kernel_rfl) (by simp [Value.oneCell']) ?_
          have HR := Lib.hid (setCells_whole (cells := givCells g) HQ.out.gv.res (by rfl))
          have HG5 := Lib.hid (setCells_grown (givCells g).toList 0 w8 (w.heap.size + 1)).1
          have hq5 := (HG5.out.block q (Array.getElem?_eq_some_iff.1 HQ.out.asked).1 (by have := HQ.out.far; simp; omega)).trans HQ.out.asked
          have HBB := Lib.hid (HQ.out.gv.ret HG5.out)
          refine hK.out _ _ ⟨range_block hq5, (cells_at hq5 14).1⟩ (fun hHeld2 => ?_)
          clear hK K
          try simp only [Act.put, tzD, tzE, tzF]
          refine tkq (i := 6) (v := ?_) rfl (by kernel_rfl) (fun _ _ _ h => h) (by rfl) ?_ (by assumption) ?_
          rotate_left 1
          · ((intro w hSw; (try dsimp only at hSw); go_simp) <;> with_reducible rfl)
          try simp only [Act.put, tzA, tzB, tzC, tzD, tzE, tzF]
          refine tkq (i := 7) (v := ?_) rfl (by kernel_rfl) (fun _ _ _ h => h) (by rfl) ?_ (by assumption) ?_
          rotate_left 1
          · ((intro w hSw; (try dsimp only at hSw); go_simp) <;> with_reducible rfl)
          try simp only [Act.put, tzA, tzB, tzC, tzD, tzE, tzF]
          refine wpAnyH_done (by kernel_rfl) ?_ _
          clear hHeld2 hq5
          go_wp2_with (first | ((with_reducible show bodyPost _ _ _ Exit.ret _ _); exact bodyPost_ret (v := .tuple #[.agg (givCells g), .bool has, .bool true]) (results_row_two rfl _ _ (w.heap.size + 1) _ _ _ _ (by rfl) HR.out Tryz.underlying84 rfl (by kernel_rfl) _ _ (by rfl) (by rfl)) rfl ⟨rfl, HBB.out⟩) | fail)
end
end Go.Proofs.YtaooangnnlopcaaGreatDoor
