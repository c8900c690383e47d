/- A history as the document has it (nestboxlaw37.other). Condition: the history lies in memory; a million calls and drops at most. A slice that lies in the midst of a block of the caller's own (what `s = s[1:]` leaves), and append onto it. No condition. A history copied, and two beside each other (nestboxlaw37.copied, left). Condition: the histories lie in memory; a million calls and drops at most. -/
import Derived.Test.YtaooangnnlopcaaGreatDoorLinROrd
import Derived.Test.YtaooangnnlopcaaGreatDoorLiB
import Derived.Test.YtaooangnnlopcaaGreatDoorMapsVerbs
import Derived.Test.YtaooangnnlopcaaGreatDoorLowA
import Derived.Maps.AppendAt
import Derived.Deep.AppendSrc
namespace Go.Proofs.YtaooangnnlopcaaGreatDoor
open Go.RowKit Go.ChangeMaps Go.MapKept
/-- The history that is gathered. -/
structure FrO (W6 W : World) (pf B : Nat) (fv dv : Value) (C : List CalledD) (D : List DropD) : Prop where
  crow : W.ownsRow B 52 20 fv C.length (C.flatMap CalledD.list)
  drow : W.ownsRow B 100 7 dv D.length (D.flatMap DropD.list)
  box : W.heap[pf]? = some (.cells #[fv, dv] 72 (0, 0))
  chg : Chg (fun j => j = pf) W6 W
  lo : pf < B
  bs : B = W6.heap.size
theorem FrO.below {W6 W W' : World} {pf B : Nat} {fv dv : Value} {C : List CalledD} {D : List DropD} (h : FrO W6 W pf B fv dv C D) (hb : Below W.heap.size W W') : FrO W6 W' pf B fv dv C D := by
  have hc : Chg (fun _ => False) W W' := Chg.of_below hb
  exact ⟨owns_grow h.crow hc (fun _ _ e => e), owns_grow h.drow hc (fun _ _ e => e), hc.obj h.box id, h.chg.then hc (fun _ _ e => e.elim), h.lo, h.bs⟩
theorem FrO.fresh {W6 W : World} {pf B : Nat} {fv dv : Value} {C : List CalledD} {D : List DropD} (h : FrO W6 W pf B fv dv C D) : (∀ g, fv.ownBlock = some g → B ≤ g) ∧ (∀ g, dv.ownBlock = some g → B ≤ g) := ⟨fun g hg => (h.crow.lt g hg).1, fun g hg => (h.drow.lt g hg).1⟩
theorem FrO.apart {W6 W : World} {pf B : Nat} {fv dv : Value} {C : List CalledD} {D : List DropD} (h : FrO W6 W pf B fv dv C D) {g : Nat} (h1 : fv.ownBlock = some g) (h2 : dv.ownBlock = some g) : False :=
  absurd ((owns_tag h.crow h1).one (owns_tag h.drow h2)) (by decide)
theorem FrO.pushC {W6 W w1 : World} {pf B : Nat} {fv fv' dv : Value} {C : List CalledD} {D : List DropD} {x : CalledD} (h : FrO W6 W pf B fv dv C D) (hown : w1.ownsRow B 52 20 fv' (C.length + 1) (C.flatMap CalledD.list ++ x.list)) (hg : W.grownBy w1 fv.ownBlock) :
    FrO W6 (w1.setCell ⟨pf, 0, none⟩ fv') pf B fv' dv (C ++ [x]) D := by
  have hc : Chg (fun k => fv.ownBlock = some k) W w1 := Chg.of_grown hg (fun _ _ e => e)
  have hs : Chg (fun j => j = pf) w1 (w1.setCell ⟨pf, 0, none⟩ fv') := (Chg.refl (fun j => j = pf) w1).set (p := pf) (fun _ => rfl) _
  have hne : ¬ fv.ownBlock = some pf := fun e => by have := h.fresh.1 _ e; have := h.lo; omega
  have hb1 := hc.obj h.box hne
  refine ⟨?_, ?_, ?_, ?_, h.lo, h.bs⟩
  · rw [List.length_append, List.flatMap_append]
    refine owns_grow (by simpa using hown) hs (fun g hg' e => ?_)
    have := (hown.lt g hg').1
    have := h.lo
    omega
  · refine owns_grow (owns_grow h.drow hc (fun g hg' e => h.apart e hg')) hs (fun g hg' e => ?_)
    have := h.fresh.2 g hg'
    have := h.lo
    omega
  · exact heap_setCell_same w1 pf 0 _ _ fv' hb1
  · exact (h.chg.then hc (fun k hk e => by have := h.fresh.1 k e; have := h.bs; omega)).set (fun _ => rfl) _
theorem FrO.pushD {W6 W w1 : World} {pf B : Nat} {fv dv dv' : Value} {C : List CalledD} {D : List DropD} {x : DropD} (h : FrO W6 W pf B fv dv C D) (hown : w1.ownsRow B 100 7 dv' (D.length + 1) (D.flatMap DropD.list ++ x.list)) (hg : W.grownBy w1 dv.ownBlock) :
    FrO W6 (w1.setCell ⟨pf, 1, none⟩ dv') pf B fv dv' C (D ++ [x]) := by
  have hc : Chg (fun k => dv.ownBlock = some k) W w1 := Chg.of_grown hg (fun _ _ e => e)
  have hs : Chg (fun j => j = pf) w1 (w1.setCell ⟨pf, 1, none⟩ dv') := (Chg.refl (fun j => j = pf) w1).set (p := pf) (fun _ => rfl) _
  have hne : ¬ dv.ownBlock = some pf := fun e => by have := h.fresh.2 _ e; have := h.lo; omega
  have hb1 := hc.obj h.box hne
  refine ⟨?_, ?_, ?_, ?_, h.lo, h.bs⟩
  · refine owns_grow (owns_grow h.crow hc (fun g hg' e => h.apart hg' e)) hs (fun g hg' e => ?_)
    have := h.fresh.1 g hg'
    have := h.lo
    omega
  · rw [List.length_append, List.flatMap_append]
    refine owns_grow (by simpa using hown) hs (fun g hg' e => ?_)
    have := (hown.lt g hg').1
    have := h.lo
    omega
  · exact heap_setCell_same w1 pf 1 _ _ dv' hb1
  · exact (h.chg.then hc (fun k hk e => by have := h.fresh.2 k e; have := h.bs; omega)).set (fun _ => rfl) _
/-- What a round reads. -/
def RdO (ph pf o g b : Nat) (pv hv : Value) (xs : List Value) (W : World) : Prop := W.cell? ⟨pf, o, none⟩ = some pv ∧ W.cell? ⟨ph, o, none⟩ = some hv ∧ W.rangeAt g b xs ∧ g < W.heap.size
theorem RdO.kept {M : Nat → Prop} {ph pf o g b : Nat} {pv hv : Value} {xs : List Value} {W W' : World} (h : RdO ph pf o g b pv hv xs W) (hc : Chg M W W') (h1 : ¬ M pf) (h2 : ¬ M ph) (h3 : ¬ M g) : RdO ph pf o g b pv hv xs W' :=
  ⟨hc.cell h.1 h1, hc.cell h.2.1 h2, range_kept hc h.2.2.2 h3 h.2.2.1, Nat.lt_of_lt_of_le h.2.2.2 hc.size⟩
theorem RdO.below {ph pf o g b : Nat} {pv hv : Value} {xs : List Value} {W W' : World} (h : RdO ph pf o g b pv hv xs W) (hb : Below W.heap.size W W') : RdO ph pf o g b pv hv xs W' :=
  h.kept (M := fun _ => False) (Chg.of_below hb) id id id
theorem infoRCalledB : (Tryz.prog.info? 52).map (fun i => (i.zero, i.size, i.bytes)) = some (some (.agg calledZero), 20, 192) := by kernel_rfl
theorem infoRDropB : (Tryz.prog.info? 100).map (fun i => (i.zero, i.size, i.bytes)) = some (some (.agg dropZero), 7, 72) := by kernel_rfl
theorem drop_item {W : World} {g b : Nat} {d : DropD} (h : W.rangeAt g b d.list) : W.rangeAt g (b + 1) [.string d.item.key, .string d.item.value, .int .u32 d.item.flags, .int .u64 d.item.id, .int .i64 d.item.dies, .int .i64 d.item.gen] := fun i u hu => by
  rw [Nat.add_assoc, Nat.add_comm 1 i]
  exact h (i + 1) u hu
/-- What other answers. -/
def OthOk (w : World) (cs : List CalledD) (ds : List DropD) (e : Ending) (w' : World) : Prop := ∃ cv dv, e = .returned (.agg #[cv, dv]) ∧ HistAt w' cv dv cs ds ∧ Below w.heap.size w w'
set_option maxRecDepth 100000 in
set_option maxHeartbeats 16000000 in
theorem other37_any {w : World} {cv dv : Value} {cs : List CalledD} {ds : List DropD} (h : HistAt w cv dv cs ds) (hn : cs.length + ds.length ≤ 1000000) : Calls Tryz.prog 26 #[.agg #[cv, dv]] w fun e w' => OthOk w cs ds e w' := by
  obtain ⟨ca, cc, rfl⟩ := h.calls.len
  obtain ⟨da, dc, rfl⟩ := h.drops.len
  have HH := Lib.hid h
  have hcl : cs.length ≤ 1000000 := by omega
  have hdl : ds.length ≤ 1000000 := by omega
  clear h
  obtain ⟨i0, hi0, hz0, hz1, hz2⟩ := info_parts infoRCalledB
  have Hi := Lib.hid hi0
  have Hz := Lib.hid (And.intro hz0 (And.intro hz1 hz2))
  clear hi0 hz0 hz1 hz2
  obtain ⟨j0, hi0, hz0, hz1, hz2⟩ := info_parts infoRDropB
  have Hj := Lib.hid hi0
  have Hy := Lib.hid (And.intro hz0 (And.intro hz1 hz2))
  clear hi0 hz0 hz1 hz2
  go_enter Tryz.func26, Tryz.ntmps26
  go_upto_region 2 with fail
  obtain ⟨W0, hW0⟩ : ∃ X, X = ((w.alloc (.cells #[.slice ca cs.length cc, .slice da ds.length dc] 64)).alloc (.cells #[.slice none 0 0, .slice none 0 0] 72)).alloc (.cells #[.slice none 0 0, .slice none 0 0] 72) := ⟨_, rfl⟩
  have hb0 : Below w.heap.size w W0 := by rw [hW0]; exact (((Below.refl _ _).alloc (Nat.le_refl _) _).alloc (by simp) _).alloc (by simp; omega) _
  have hx0 : W0.heap[w.heap.size]? = some (.cells #[.slice ca cs.length cc, .slice da ds.length dc] 64 (0, 0)) := by rw [hW0, heap_at, if_neg (by simp; omega), heap_at, if_neg (by simp), heap_at, if_pos rfl]
  have hx1 : W0.heap[w.heap.size + 1]? = some (.cells #[.slice none 0 0, .slice none 0 0] 72 (0, 0)) := by rw [hW0, heap_at, if_neg (by simp), heap_at, if_pos (by simp)]
  have hx2 : W0.heap[w.heap.size + 1 + 1]? = some (.cells #[.slice none 0 0, .slice none 0 0] 72 (0, 0)) := by rw [hW0, heap_at, if_pos (by simp)]
  have hsz0 : W0.heap.size = w.heap.size + 3 := by rw [hW0]; simp
  rw [← hW0]
  clear hW0
  obtain ⟨pb, hpb⟩ : ∃ z, z = w.heap.size := ⟨_, rfl⟩
  obtain ⟨pr, hpr⟩ : ∃ z, z = w.heap.size + 1 := ⟨_, rfl⟩
  obtain ⟨pf, hpf⟩ : ∃ z, z = w.heap.size + 1 + 1 := ⟨_, rfl⟩
  rw [← hpf] at hx2 ⊢
  rw [← hpr] at hx1 ⊢
  rw [← hpb] at hx0 ⊢
  obtain ⟨B, hB⟩ : ∃ z, z = W0.heap.size := ⟨_, rfl⟩
  have hpfB : pf < B := by omega
  have HPP := Lib.hid (show w.heap.size ≤ pb ∧ pb < pf ∧ pr < pf ∧ pb ≠ pr ∧ pb < W0.heap.size ∧ pr < W0.heap.size ∧ w.heap.size ≤ pr from ⟨by omega, by omega, by omega, by omega, by omega, by omega, by omega⟩)
  have HH0 := Lib.hid (HH.out.below hb0)
  have HB0 := Lib.hid (show Below w.heap.size w W0 from hb0)
  have HX := Lib.hid hx0
  have HXR := Lib.hid hx1
  have HFR := Lib.hid (show FrO W0 W0 pf B (.slice none 0 0) (.slice none 0 0) (cs.take 0) [] from ⟨World.ownsRow_nil _ _ _ _, World.ownsRow_nil _ _ _ _, hx2, Chg.refl _ _, hpfB, hB⟩)
  have HWP := Lib.hid (And.intro hpb hsz0)
  clear hb0 hx0 hx1 hx2 hpb hpr hpf hB hsz0
  go_upto_region 3 with fail
  go_loopw [4] (fun s4 wr => ∃ (i : Nat) (fv : Value), s4 = .int .i64 (i : Int) ∧ i ≤ cs.length ∧ Hid (FrO W0 wr pf B fv (.slice none 0 0) (cs.take i) [])) (fun s4 _ => cs.length - (intOf s4).toNat)
  case atStart => exact ⟨0, _, rfl, Nat.zero_le _, HFR⟩
  case round =>
    clear HFR
    obtain ⟨i, fv, rfl, hil, HFR⟩ := hrel
    obtain ⟨fa, fc, hfv⟩ := Row.len (Row.of_owns HFR.out.crow)
    obtain ⟨fn, hfn⟩ : ∃ z, z = (cs.take i).length := ⟨_, rfl⟩
    rw [← hfn] at hfv
    subst hfv
    have hfm : fn ≤ i := by rw [hfn, List.length_take]; omega
    have HFN := Lib.hid hfn
    clear hfn
    have hlow : Below pf W0 wr := HFR.out.chg.below (fun j hj => ⟨by have := HFR.out.bs; have := HFR.out.lo; omega, fun e => by omega⟩)
    have hlb : Below w.heap.size W0 wr := hlow.mono (by have := HPP.out; omega)
    have k0 : wr.cell? ⟨pb, 0, none⟩ = some (.slice ca cs.length cc) := (hlow.cell (p := ⟨pb, 0, none⟩) HPP.out.2.1).trans (cells_at HX.out 0).1
    have k1 : wr.cell? ⟨pb, 1, none⟩ = some (.slice da ds.length dc) := (hlow.cell (p := ⟨pb, 1, none⟩) HPP.out.2.1).trans (cells_at HX.out 1).1
    have hpbr : pb < wr.heap.size := Nat.lt_of_lt_of_le HPP.out.2.2.2.2.1 hlow.size
    by_cases hlt : i < cs.length
    · obtain ⟨x, hx⟩ : ∃ x, cs[i]? = some x := ⟨_, List.getElem?_eq_getElem hlt⟩
      obtain ⟨g, o, c', hv, hg, hr⟩ := HH.out.calls.get hx
      obtain ⟨rfl, -, rfl⟩ := slice_inj hv
      have hrr := hr wr (HB0.out.trans hlb)
      have hgr : g < wr.heap.size := Nat.lt_of_lt_of_le hg (Nat.le_trans HB0.out.size hlow.size)
      have ix : ∀ W : World, (Instr.indexAt 61 (.slice (some ⟨g, o, none⟩) cs.length cc) (.int .i64 (i : Int))).run Tryz.prog W = .ok (.pointer (some ⟨g, o + i * 20, none⟩)) W := fun W => idx_called rfl hlt W
      obtain ⟨b, hb⟩ : ∃ b, b = o + i * 20 := ⟨_, rfl⟩
      rw [← hb] at ix hrr
      have HRB := Lib.hid hrr
      have htk : cs.take (i + 1) = cs.take i ++ [x] := take_snoc hx
      have HTK := Lib.hid htk
      have hi6 : i ≤ 1000000 := by omega
      clear hb hx hv hr hrr hg htk k1
      go_upto_region 6 with (first
        | ((with_reducible show wpList _ _ _ (⟨_, Op.load 42 _, _, _, _, _⟩ :: _) _ _); refine wpList_load_mid (by rfl) 42 (.tmp 17) (by rfl) g b (by rfl) x.list _ HRB.out Tryz.underlying42 rfl (by kernel_rfl) ?_)
        | ((with_reducible show wpList _ _ _ (⟨none, Op.store _ _ _, _, _, _, _⟩ :: _) _ _); refine wpList_store_whole (by rfl) 42 (.tmp 5) (.tmp 18) (by rfl) wr.heap.size (by rfl) x.cells (by rfl) calledZero 42 (by rw [heap_at, if_pos rfl]) (by rfl) (by kernel_rfl) (by simp [Value.oneCell']) ?_; intro w1 hw1 hgw1 hsw1; have hb1 : Below wr.heap.size wr w1 := ((Below.refl wr.heap.size wr).alloc (Nat.le_refl _) (.cells calledZero 42)).grown hgw1 (by simp) (fun k hk => by cases hk; exact Nat.le_refl _); clear hgw1 hsw1)
        | fail)
      obtain ⟨pc, hpc⟩ : ∃ z, z = wr.heap.size := ⟨_, rfl⟩
      rw [← hpc] at hw1 ⊢
      have HF1 := Lib.hid (HFR.out.below hb1)
      have c0 : w1.cell? ⟨pf, 0, none⟩ = some (.slice fa fn fc) := (cells_at HF1.out.box 0).1
      have x0 : w1.cell? ⟨pc, 0, none⟩ = some (.int .i64 x.thread) := called_cell (i := 0) hw1 rfl rfl
      have x1 : w1.cell? ⟨pc, 1, none⟩ = some (.int .u8 x.call.verb) := called_cell (i := 1) hw1 rfl rfl
      have x2 : w1.cell? ⟨pc, 2, none⟩ = some (.string x.call.key) := called_cell (i := 2) hw1 rfl rfl
      have x3 : w1.cell? ⟨pc, 3, none⟩ = some (.string x.call.value) := called_cell (i := 3) hw1 rfl rfl
      have x4 : w1.cell? ⟨pc, 4, none⟩ = some (.int .u32 x.call.flags) := called_cell (i := 4) hw1 rfl rfl
      have x5 : w1.cell? ⟨pc, 5, none⟩ = some (.int .i64 x.call.exp) := called_cell (i := 5) hw1 rfl rfl
      have x6 : w1.cell? ⟨pc, 6, none⟩ = some (.int .u64 x.call.id) := called_cell (i := 6) hw1 rfl rfl
      have x7 : w1.cell? ⟨pc, 7, none⟩ = some (.int .u64 x.call.by') := called_cell (i := 7) hw1 rfl rfl
      have x8 : w1.cell? ⟨pc, 8, none⟩ = some (.int .i64 x.from') := called_cell (i := 8) hw1 rfl rfl
      have x9 : w1.cell? ⟨pc, 9, none⟩ = some (.int .i64 x.till) := called_cell (i := 9) hw1 rfl rfl
      have x10 : w1.cell? ⟨pc, 10, none⟩ = some (.int .u8 x.ans.kind) := called_cell (i := 10) hw1 rfl rfl
      have x11 : w1.cell? ⟨pc, 11, none⟩ = some (.int .u64 x.ans.number) := called_cell (i := 11) hw1 rfl rfl
      have x12 : w1.cell? ⟨pc, 12, none⟩ = some (.string x.ans.item.key) := called_cell (i := 12) hw1 rfl rfl
      have x13 : w1.cell? ⟨pc, 13, none⟩ = some (.string x.ans.item.value) := called_cell (i := 13) hw1 rfl rfl
      have x14 : w1.cell? ⟨pc, 14, none⟩ = some (.int .u32 x.ans.item.flags) := called_cell (i := 14) hw1 rfl rfl
      have x15 : w1.cell? ⟨pc, 15, none⟩ = some (.int .u64 x.ans.item.id) := called_cell (i := 15) hw1 rfl rfl
      have x16 : w1.cell? ⟨pc, 16, none⟩ = some (.int .i64 x.ans.item.dies) := called_cell (i := 16) hw1 rfl rfl
      have x17 : w1.cell? ⟨pc, 17, none⟩ = some (.int .i64 x.ans.item.gen) := called_cell (i := 17) hw1 rfl rfl
      have x18 : w1.cell? ⟨pc, 18, none⟩ = some (.int .u64 (x.epoch : Int)) := called_cell (i := 18) hw1 rfl rfl
      have x19 : w1.cell? ⟨pc, 19, none⟩ = some (.int .i64 x.point) := called_cell (i := 19) hw1 rfl rfl
      have qb : ∀ W : World, (Instr.build 52 #[(0, .int .i64 x.thread), (1, .agg #[.int .u8 x.call.verb, .string x.call.key, .string x.call.value, .int .u32 x.call.flags, .int .i64 x.call.exp, .int .u64 x.call.id, .int .u64 x.call.by']), (2, .int .i64 x.from'), (3, .int .i64 x.till), (4, .agg #[.int .u8 x.ans.kind, .int .u64 x.ans.number, .string x.ans.item.key, .string x.ans.item.value, .int .u32 x.ans.item.flags, .int .u64 x.ans.item.id, .int .i64 x.ans.item.dies, .int .i64 x.ans.item.gen]), (5, .int .u64 (x.epoch : Int)), (6, .int .i64 x.point)]).run Tryz.prog W = .ok (.agg #[.int .i64 x.thread, .int .u8 x.call.verb, .string x.call.key, .string x.call.value, .int .u32 x.call.flags, .int .i64 x.call.exp, .int .u64 x.call.id, .int .u64 x.call.by', .int .i64 x.from', .int .i64 x.till, .int .u8 x.ans.kind, .int .u64 x.ans.number, .string x.ans.item.key, .string x.ans.item.value, .int .u32 x.ans.item.flags, .int .u64 x.ans.item.id, .int .i64 x.ans.item.dies, .int .i64 x.ans.item.gen, .int .u64 (x.epoch : Int), .int .i64 x.point]) W := fun W => by kernel_rfl
      have bsq : ∀ W : World, (Instr.buildSlice 69 1 #[(0, .agg #[.int .i64 x.thread, .int .u8 x.call.verb, .string x.call.key, .string x.call.value, .int .u32 x.call.flags, .int .i64 x.call.exp, .int .u64 x.call.id, .int .u64 x.call.by', .int .i64 x.from', .int .i64 x.till, .int .u8 x.ans.kind, .int .u64 x.ans.number, .string x.ans.item.key, .string x.ans.item.value, .int .u32 x.ans.item.flags, .int .u64 x.ans.item.id, .int .i64 x.ans.item.dies, .int .i64 x.ans.item.gen, .int .u64 (x.epoch : Int), .int .i64 x.point])]).run Tryz.prog W = .ok (.slice (some ⟨W.heap.size, 0, none⟩) 1 1) (W.alloc (.cells #[.int .i64 x.thread, .int .u8 x.call.verb, .string x.call.key, .string x.call.value, .int .u32 x.call.flags, .int .i64 x.call.exp, .int .u64 x.call.id, .int .u64 x.call.by', .int .i64 x.from', .int .i64 x.till, .int .u8 x.ans.kind, .int .u64 x.ans.number, .string x.ans.item.key, .string x.ans.item.value, .int .u32 x.ans.item.flags, .int .u64 x.ans.item.id, .int .i64 x.ans.item.dies, .int .i64 x.ans.item.gen, .int .u64 (x.epoch : Int), .int .i64 x.point] 52)) := fun W => by kernel_rfl
      have hpfl : pf < w1.heap.size := HF1.out.box |> fun h => (Array.getElem?_eq_some_iff.1 h).1
      have HXX := Lib.hid (show x.list = [.int .i64 x.thread, .int .u8 x.call.verb, .string x.call.key, .string x.call.value, .int .u32 x.call.flags, .int .i64 x.call.exp, .int .u64 x.call.id, .int .u64 x.call.by', .int .i64 x.from', .int .i64 x.till, .int .u8 x.ans.kind, .int .u64 x.ans.number, .string x.ans.item.key, .string x.ans.item.value, .int .u32 x.ans.item.flags, .int .u64 x.ans.item.id, .int .i64 x.ans.item.dies, .int .i64 x.ans.item.gen, .int .u64 (x.epoch : Int), .int .i64 x.point] from rfl)
      have HBS := Lib.hid (show B ≤ w1.heap.size from by rw [HF1.out.bs]; exact HF1.out.chg.size)
      clear hpc hb1 hw1 HRB ix k0 hlow hlb
      rw [show ∀ (a : Act) (v : Value), a.put none v = a from fun _ _ => rfl]
      go_wp2_with (first
        | (at_builtin; refine wpList_append_own_at _ (by rfl) _ _ 69 (by rfl) B 52 i0 (.agg calledZero) 20 192 Tryz.underlying69 Hi.out Hz.out.1 Hz.out.2.1 Hz.out.2.2 rfl (by omega) _ _ _ (by rfl) ((HF1.out.below ((Below.refl _ _).alloc (Nat.le_refl _) _)).crow) ⟨w1.heap.size, 0, none⟩ 1 1 x.list (by rfl) rfl (World.news_of_block (cs := x.list.toArray) (by rw [heap_at, if_pos (by simp)])) (by simp [Value.oneCell']) (by rw [← HFN.out]; unfold maxLen; omega) (by rw [← HFN.out]; omega) (by have := HBS.out; simp; omega) ?_; intro v2 w2 hown2 hg2 _ _; have HF2 := Lib.hid (HF1.out.below ((Below.refl _ _).alloc (Nat.le_refl _) (.cells x.list.toArray 52))); have hno : ¬ (Value.slice fa fn fc).ownBlock = some pf := (fun e => by have := HF2.out.fresh.1 pf e; have := HF2.out.lo; omega); have q0 := (cells_at ((Chg.of_grown hg2 (fun _ _ e => e) : Chg (fun k => (Value.slice fa fn fc).ownBlock = some k) _ w2).obj HF2.out.box hno) 0); have d0 : w2.cell? ⟨pf, 0, none⟩ = some (.slice fa fn fc) := q0.1; have f0 := q0.2; have HPU := Lib.hid (HF2.out.pushC hown2 hg2); obtain ⟨a2, cc2, hv2⟩ := Row.len (Row.of_owns hown2); obtain ⟨n2, hn2⟩ : ∃ z, z = (cs.take i).length + 1 := ⟨_, rfl⟩; rw [← hn2] at hv2; subst hv2; clear hown2 hg2 q0 hno hn2)
        | fail)
      rw [← HTK.out] at HPU
      go_roundw
      case rel => exact ⟨i + 1, _, by go_num, by omega, HPU⟩
      case measure => simp [intOf]; omega
    · obtain rfl : i = cs.length := by omega
      rw [List.take_length] at HFR HFN
      obtain ⟨wo, rfl⟩ : ∃ wo : World, wo = wr := ⟨_, rfl⟩
      have HFR2 := Lib.hid (show FrO W0 wo pf B (.slice fa fn fc) (.slice none 0 0) cs (ds.take 0) from HFR.out)
      clear hil HFR k1 hlow hlb
      go_upto_region 8 with fail
      clear k0 hpbr hlt
      go_loopw [6] (fun s6 wr => ∃ (i : Nat) (fv : Value), s6 = .int .i64 (i : Int) ∧ i ≤ ds.length ∧ Hid (FrO W0 wr pf B (.slice fa fn fc) fv cs (ds.take i))) (fun s6 _ => ds.length - (intOf s6).toNat)
      case atStart => exact ⟨0, _, rfl, Nat.zero_le _, HFR2⟩
      case round =>
        clear HFR2
        obtain ⟨i, fv, rfl, hil, HFR⟩ := hrel
        obtain ⟨ga, gc, hfv⟩ := Row.len (Row.of_owns HFR.out.drow)
        obtain ⟨gn, hgn⟩ : ∃ z, z = (ds.take i).length := ⟨_, rfl⟩
        rw [← hgn] at hfv
        subst hfv
        have hgm : gn ≤ i := by rw [hgn, List.length_take]; omega
        have HGN := Lib.hid hgn
        clear hgn
        have hlow : Below pf W0 wr := HFR.out.chg.below (fun j hj => ⟨by have := HFR.out.bs; have := HFR.out.lo; omega, fun e => by omega⟩)
        have hlb : Below w.heap.size W0 wr := hlow.mono (by have := HPP.out; omega)
        have k1 : wr.cell? ⟨pb, 1, none⟩ = some (.slice da ds.length dc) := (hlow.cell (p := ⟨pb, 1, none⟩) HPP.out.2.1).trans (cells_at HX.out 1).1
        have hpbr : pb < wr.heap.size := Nat.lt_of_lt_of_le HPP.out.2.2.2.2.1 hlow.size
        by_cases hlt : i < ds.length
        · obtain ⟨x, hx⟩ : ∃ x, ds[i]? = some x := ⟨_, List.getElem?_eq_getElem hlt⟩
          obtain ⟨g, o, c', hv, hg, hr⟩ := HH.out.drops.get hx
          obtain ⟨rfl, -, rfl⟩ := slice_inj hv
          have hrr := hr wr (HB0.out.trans hlb)
          have ix : ∀ W : World, (Instr.indexAt 62 (.slice (some ⟨g, o, none⟩) ds.length dc) (.int .i64 (i : Int))).run Tryz.prog W = .ok (.pointer (some ⟨g, o + i * 7, none⟩)) W := fun W => idx_drop rfl hlt W
          obtain ⟨b, hb⟩ : ∃ b, b = o + i * 7 := ⟨_, rfl⟩
          rw [← hb] at ix hrr
          have hi6 : i ≤ 1000000 := by omega
          have c0 : wr.cell? ⟨pf, 1, none⟩ = some (.slice ga gn gc) := (cells_at HFR.out.box 1).1
          have HRD := Lib.hid (show RdO pb pf 1 g b (.slice ga gn gc) (.slice (some ⟨g, o, none⟩) ds.length dc) x.list wr from ⟨c0, k1, hrr, Nat.lt_of_lt_of_le hg (Nat.le_trans HB0.out.size hlow.size)⟩)
          have HTK := Lib.hid (show ds.take (i + 1) = ds.take i ++ [x] from take_snoc hx)
          have HGL := Lib.hid (show g < pf from by have := HPP.out; omega)
          have qd : ∀ W : World, (Instr.build 100 #[(0, .int .i64 x.step), (1, .agg #[.string x.item.key, .string x.item.value, .int .u32 x.item.flags, .int .u64 x.item.id, .int .i64 x.item.dies, .int .i64 x.item.gen])]).run Tryz.prog W = .ok (.agg #[.int .i64 x.step, .string x.item.key, .string x.item.value, .int .u32 x.item.flags, .int .u64 x.item.id, .int .i64 x.item.dies, .int .i64 x.item.gen]) W := fun W => by kernel_rfl
          have bsq : ∀ W : World, (Instr.buildSlice 70 1 #[(0, .agg #[.int .i64 x.step, .string x.item.key, .string x.item.value, .int .u32 x.item.flags, .int .u64 x.item.id, .int .i64 x.item.dies, .int .i64 x.item.gen])]).run Tryz.prog W = .ok (.slice (some ⟨W.heap.size, 0, none⟩) 1 1) (W.alloc (.cells x.list.toArray 100)) := fun W => by kernel_rfl
          clear hx hv hr hrr hb hg c0 hlow hlb
          go_upto_region 10 with fail
          refine wp_region_late 18 (RdO pb pf 1 g b (.slice ga gn gc) (.slice (some ⟨g, o, none⟩) ds.length dc) x.list) (by kernel_rfl) (HRD.out.below (Below.refl _ _).drew) (fun hHeld => ?_)
          refine late_take (i := 0) (v := ?_) rfl (by kernel_rfl) (by kernel_rfl) (by kernel_rfl) (fun _ _ _ h => h) (by decide) (Or.inl ⟨by rfl, ?_⟩) (fun _ => hHeld) ?_
          rotate_left 1
          · ((intro w _; go_simp) <;> with_reducible rfl)
          try simp only [Act.put, tzA, tzB, tzC, tzD, tzE]
          refine late_read (i := 1) (v := ?_) rfl (by kernel_rfl) (by kernel_rfl) (by kernel_rfl) (fun _ _ _ h => h) (by decide) rfl (by kernel_rfl) (Or.inl ⟨by rfl, ?_⟩) hHeld (by kernel_rfl) ?_
          rotate_left 1
          · ((intro w hSw; (try dsimp only at hSw); have c0 := hSw.1; go_simp) <;> with_reducible rfl)
          try simp only [Act.put, tzA, tzB, tzC, tzD, tzE, tzF]
          refine late_take (i := 2) (v := ?_) rfl (by kernel_rfl) (by kernel_rfl) (by kernel_rfl) (fun _ _ _ h => h) (by decide) (Or.inl ⟨by rfl, ?_⟩) (fun _ => hHeld) ?_
          rotate_left 1
          · ((intro w _; go_simp) <;> with_reducible rfl)
          try simp only [Act.put, tzA, tzB, tzC, tzD, tzE, tzF]
          refine late_read (i := 3) (v := ?_) rfl (by kernel_rfl) (by kernel_rfl) (by kernel_rfl) (fun _ _ _ h => h) (by decide) rfl (by kernel_rfl) (Or.inl ⟨by rfl, ?_⟩) hHeld (by kernel_rfl) ?_
          rotate_left 1
          · ((intro w hSw; (try dsimp only at hSw); have c0 := hSw.2.1; go_simp) <;> with_reducible rfl)
          try simp only [Act.put, tzA, tzB, tzC, tzD, tzE, tzF]
          refine late_take (i := 4) (v := ?_) rfl (by kernel_rfl) (by kernel_rfl) (by kernel_rfl) (fun _ _ _ h => h) (by decide) (Or.inl ⟨by rfl, ?_⟩) (fun _ => hHeld) ?_
          rotate_left 1
          · ((intro w _; go_simp) <;> with_reducible rfl)
          try simp only [Act.put, tzA, tzB, tzC, tzD, tzE, tzF]
          refine late_take (i := 5) (v := ?_) rfl (by kernel_rfl) (by kernel_rfl) (by kernel_rfl) (fun _ _ _ h => h) (by decide) (Or.inl ⟨by rfl, ?_⟩) (fun _ => hHeld) ?_
          rotate_left 1
          · ((intro w _; go_simp) <;> with_reducible rfl)
          try simp only [Act.put, tzA, tzB, tzC, tzD, tzE, tzF]
          refine late_take (i := 6) (v := ?_) rfl (by kernel_rfl) (by kernel_rfl) (by kernel_rfl) (fun _ _ _ h => h) (by decide) (Or.inl ⟨by rfl, ?_⟩) (fun _ => hHeld) ?_
          rotate_left 1
          · ((intro w _; go_simp) <;> with_reducible rfl)
          try simp only [Act.put, tzA, tzB, tzC, tzD, tzE, tzF]
          refine late_read (i := 7) (v := ?_) rfl (by kernel_rfl) (by kernel_rfl) (by kernel_rfl) (fun _ _ _ h => h) (by decide) rfl (by kernel_rfl) (Or.inl ⟨by rfl, ?_⟩) hHeld (by kernel_rfl) ?_
          rotate_left 1
          · ((intro w hSw; (try dsimp only at hSw); have c0 : w.cell? ⟨g, b, none⟩ = some (.int .i64 x.step) := hSw.2.2.1 0 _ rfl; go_simp) <;> with_reducible rfl)
          try simp only [Act.put, tzA, tzB, tzC, tzD, tzE, tzF]
          refine late_take (i := 8) (v := ?_) rfl (by kernel_rfl) (by kernel_rfl) (by kernel_rfl) (fun _ _ _ h => h) (by decide) (Or.inl ⟨by rfl, ?_⟩) (fun _ => hHeld) ?_
          rotate_left 1
          · ((intro w _; go_simp) <;> with_reducible rfl)
          try simp only [Act.put, tzA, tzB, tzC, tzD, tzE, tzF]
          refine late_read (i := 9) (v := ?_) rfl (by kernel_rfl) (by kernel_rfl) (by kernel_rfl) (fun _ _ _ h => h) (by decide) rfl (by kernel_rfl) (Or.inl ⟨by rfl, ?_⟩) hHeld (by kernel_rfl) ?_
          rotate_left 1
          · ((intro w hSw; (try dsimp only at hSw); have c0 := hSw.2.1; go_simp) <;> with_reducible rfl)
          try simp only [Act.put, tzA, tzB, tzC, tzD, tzE, tzF]
          refine late_take (i := 10) (v := ?_) rfl (by kernel_rfl) (by kernel_rfl) (by kernel_rfl) (fun _ _ _ h => h) (by decide) (Or.inl ⟨by rfl, ?_⟩) (fun _ => hHeld) ?_
          rotate_left 1
          · ((intro w _; go_simp) <;> with_reducible rfl)
          try simp only [Act.put, tzA, tzB, tzC, tzD, tzE, tzF]
          refine late_take (i := 11) (v := ?_) rfl (by kernel_rfl) (by kernel_rfl) (by kernel_rfl) (fun _ _ _ h => h) (by decide) (Or.inl ⟨by rfl, ?_⟩) (fun _ => hHeld) ?_
          rotate_left 1
          · ((intro w _; go_simp) <;> with_reducible rfl)
          try simp only [Act.put, tzA, tzB, tzC, tzD, tzE, tzF]
          refine late_take (i := 12) (v := ?_) rfl (by kernel_rfl) (by kernel_rfl) (by kernel_rfl) (fun _ _ _ h => h) (by decide) (Or.inl ⟨by rfl, ?_⟩) (fun _ => hHeld) ?_
          rotate_left 1
          · ((intro w _; go_simp) <;> with_reducible rfl)
          try simp only [Act.put, tzA, tzB, tzC, tzD, tzE, tzF]
          refine late_read (i := 13) (v := .agg ([.string x.item.key, .string x.item.value, .int .u32 x.item.flags, .int .u64 x.item.id, .int .i64 x.item.dies, .int .i64 x.item.gen]).toArray) rfl (by kernel_rfl) (by kernel_rfl) (by kernel_rfl) (fun _ _ _ h => h) (by decide) rfl (by kernel_rfl) (yieldsIf_load_mid (by rfl) 38 (.tmp 58) rfl g (b + 1) (by rfl) ([.string x.item.key, .string x.item.value, .int .u32 x.item.flags, .int .u64 x.item.id, .int .i64 x.item.dies, .int .i64 x.item.gen]) _ (fun W hSw => drop_item hSw.2.2.1) Tryz.underlying38 rfl (by kernel_rfl)) hHeld (by kernel_rfl) ?_
          try simp only [Act.put, tzA, tzB, tzC, tzD, tzE, tzF]
          refine late_take (i := 14) (v := ?_) rfl (by kernel_rfl) (by kernel_rfl) (by kernel_rfl) (fun _ _ _ h => h) (by decide) (Or.inl ⟨by rfl, ?_⟩) (fun _ => hHeld) ?_
          rotate_left 1
          · ((intro w _; go_simp) <;> with_reducible rfl)
          try simp only [Act.put, tzA, tzB, tzC, tzD, tzE, tzF]
          refine late_one (i := 15) (by kernel_rfl) rfl (fun K hK => ?_)
          go_simp
          have hbx : Below wr.heap.size wr (World.drew (wr.alloc (.cells x.list.toArray 100))) := ((Below.refl _ _).alloc (Nat.le_refl _) _).drew
          have HBK := Lib.hid (show (World.drew (wr.alloc (.cells x.list.toArray 100))).heap[wr.heap.size]? = some (.cells x.list.toArray 100 (0, 0)) from heap_alloc_new _ _)
          have HF2 := Lib.hid (HFR.out.below hbx)
          have HR2 := Lib.hid (HRD.out.below hbx)
          refine hK.out _ _ (fun _ _ => HR2.out) ?_
          clear hK K
          try simp only [Act.put, tzA, tzB, tzC, tzD, tzE, tzF]
          refine late_one (i := 16) (by kernel_rfl) rfl (fun K hK => ?_)
          rw [if_pos (by rfl)]
          refine wp_append_own _ (.tmp 47) (.tmp 61) 70 (by rfl) B 100 j0 (.agg dropZero) 7 72 Tryz.underlying70 Hj.out Hy.out.1 Hy.out.2.1 Hy.out.2.2 rfl (by omega) _ _ _ (by rfl) HF2.out.drow ⟨wr.heap.size, 0, none⟩ 1 1 x.list (by rfl) rfl (World.news_of_block (cs := x.list.toArray) HBK.out) (by simp [Value.oneCell']) (by rw [← HGN.out]; unfold maxLen; omega) (by rw [← HGN.out]; omega) (by rw [HFR.out.bs]; exact Nat.le_trans HFR.out.chg.size hbx.size) ?_
          intro v2 w2 hown2 hg2 _
          have hcg : Chg (fun k => (Value.slice ga gn gc).ownBlock = some k) (World.drew (wr.alloc (.cells x.list.toArray 100))) w2 := Chg.of_grown hg2 (fun _ _ e => e)
          have hno : ∀ q, q ≤ pf → ¬ (Value.slice ga gn gc).ownBlock = some q := fun q hq e => by have := HFR.out.fresh.2 q e; have := HFR.out.lo; omega
          have HR3 := Lib.hid (HR2.out.kept hcg (hno _ (Nat.le_refl _)) (hno _ (Nat.le_of_lt HPP.out.2.1)) (hno _ (Nat.le_of_lt HGL.out)))
          have c0 : w2.cell? ⟨pf, 1, none⟩ = some (.slice ga gn gc) := HR3.out.1
          have f0 : w2.frozen? ⟨pf, 1, none⟩ = false := (cells_at (hcg.obj HF2.out.box (hno _ (Nat.le_refl _))) 1).2
          have hpush := HF2.out.pushD hown2 hg2
          rw [← HTK.out] at hpush
          obtain ⟨a2, cc2, hv2⟩ := Row.len (Row.of_owns hown2)
          obtain ⟨n2, hn2⟩ : ∃ z, z = (ds.take i).length + 1 := ⟨_, rfl⟩
          rw [← hn2] at hv2
          subst hv2
          have HPU := Lib.hid hpush
          clear hcg hno hpush hown2 hg2 hn2 hbx
          refine hK.out _ _ (fun _ _ => HR3.out) ?_
          clear hK K
          try simp only [Act.put, tzA, tzB, tzC, tzD, tzE, tzF]
          refine late_take (i := 17) (v := ?_) rfl (by kernel_rfl) (by kernel_rfl) (by kernel_rfl) (fun _ _ _ h => h) (by decide) (Or.inl ⟨by rfl, ?_⟩) (fun _ => HR3.out) ?_
          rotate_left 1
          · ((intro w _; go_simp) <;> with_reducible rfl)
          try simp only [Act.put, tzA, tzB, tzC, tzD, tzE, tzF]
          refine late_one (i := 18) (by kernel_rfl) rfl (fun K hK => ?_)
          go_simp
          refine hK.out _ _ (fun _ h => absurd rfl h) ?_
          clear hK K
          try simp only [Act.put, tzA, tzB, tzC, tzD, tzE, tzF]
          refine late_done (by kernel_rfl) ?_
          clear hHeld
          clear HR2 HR3 HRD HF2 HBK c0 f0 ix bsq qd k1
          go_wp2_with fail
          go_roundw
          case rel => exact ⟨i + 1, _, by go_num, by omega, HPU⟩
          case measure => simp [intOf]; omega
        · obtain rfl : i = ds.length := by omega
          rw [List.take_length] at HFR
          have hprl : wr.heap[pr]? = some (.cells #[.slice none 0 0, .slice none 0 0] 72 (0, 0)) := HFR.out.chg.obj HXR.out (fun e => by have := HPP.out; omega)
          have hbx := HFR.out.box
          have HRR := Lib.hid (show wr.rangeAt pf 0 [.slice fa fn fc, .slice ga gn gc] from fun k u hu => by rw [Nat.zero_add, (cells_at hbx k).1, List.getElem?_toArray]; exact hu)
          have HPR := Lib.hid hprl
          have hfin : ∀ W', W'.heap.size = wr.heap.size → wr.grownBy W' (some pr) → OthOk w cs ds (.returned (.agg #[.slice fa fn fc, .slice ga gn gc])) W' := fun W' hs hgw => by
            have hcw : Chg (fun k => k = pr) wr W' := Chg.of_grown hgw (fun k _ e => (Option.some.inj e).symm)
            have h1 := HFR.out.fresh
            have hlo := HFR.out.lo
            have hp := HPP.out
            refine ⟨_, _, rfl, ⟨(rrow_own (f := CalledD.list) (sz := 20) (fun _ => rfl) HFR.out.crow).kept hcw (fun g hg e => by have := h1.1 g hg; omega), (rrow_own (f := DropD.list) (sz := 7) (fun _ => rfl) HFR.out.drow).kept hcw (fun g hg e => by have := h1.2 g hg; omega), HH.out.callsIs, HH.out.dropsIs⟩, ?_⟩
            exact (HB0.out.trans hlb).trans ((hcw.below (fun k hk => ⟨Nat.lt_of_lt_of_le hk (Nat.le_trans HB0.out.size hlb.size), fun e => by have := HPP.out; omega⟩)))
          have HFIN := Lib.hid hfin
          clear hfin hprl hbx HFR hlow hlb
          go_wp2_with (first
            | ((with_reducible show wpList _ _ _ (⟨_, Op.load 72 _, _, _, _, _⟩ :: _) _ _); refine wpList_load_mid (by rfl) 72 (.tmp 3) (by rfl) pf 0 (by rfl) [.slice fa fn fc, .slice ga gn gc] _ HRR.out Tryz.underlying72 rfl (by kernel_rfl) ?_)
            | ((with_reducible show wpList _ _ _ (⟨none, Op.store _ _ _, _, _, _, _⟩ :: _) _ _); refine wpList_store_whole (by rfl) 72 (.tmp 2) (.tmp 64) (by rfl) pr (by rfl) #[.slice fa fn fc, .slice ga gn gc] (by rfl) _ 72 HPR.out (by rfl) (by kernel_rfl) (by simp [Value.oneCell']) ?_; intro w5 hw5 hgw5 hsw5)
            | ((with_reducible show bodyPost _ _ _ Exit.ret _ _); exact bodyPost_ret (v := .agg #[.slice fa fn fc, .slice ga gn gc]) (results_row_one rfl _ _ pr _ _ _ _ (by rfl) hw5 Tryz.underlying72 rfl (by kernel_rfl)) rfl (HFIN.out _ hsw5 hgw5))
            | fail)
end Go.Proofs.YtaooangnnlopcaaGreatDoor
namespace Go.Proofs.YtaooangnnlopcaaGreatDoor
open Go.RowKit Go.ChangeMaps Go.MapKept
theorem mid_cell0 {w : World} {p : Nat} {cs : Array Value} {t : TypeId} (h : w.heap[p]? = some (.cells cs t (0, 0))) (j : Nat) : w.cell? ⟨p, j, none⟩ = cs[j]? ∧ w.frozen? ⟨p, j, none⟩ = false := by
  constructor
  · simp [World.cell?, h]
  · simp [World.frozen?, h]
theorem setCells_grownM : ∀ (vs : List Value) (o : Nat) (w : World) (b : Nat), w.grownBy (w.setCells b o vs) (some b) ∧ (w.setCells b o vs).heap.size = w.heap.size
  | [], _, w, _ => ⟨World.grownBy.refl _ _, rfl⟩
  | v :: r, o, w, b => by
    obtain ⟨h1, h2⟩ := setCells_grownM r (o + 1) (w.setCell ⟨b, o, none⟩ v) b
    have h0 : w.grownBy (w.setCell ⟨b, o, none⟩ v) (some b) := ⟨rfl, rfl, rfl, by simp, fun k _ hk => Below.heap_setCell w ⟨b, o, none⟩ v k (fun e => hk (by rw [e]))⟩
    refine ⟨⟨h1.os.trans h0.os, h1.tape.trans h0.tape, h1.output.trans h0.output, Nat.le_trans h0.size h1.size, fun k hk hne => (h1.block k (Nat.lt_of_lt_of_le hk h0.size) hne).trans (h0.block k hk hne)⟩, ?_⟩
    show ((w.setCell ⟨b, o, none⟩ v).setCells b (o + 1) r).heap.size = _
    rw [h2]; simp
theorem setCells_listM : ∀ (vs A old C : List Value) (w : World) (b : Nat) (t : TypeId), w.heap[b]? = some (.cells (A ++ old ++ C).toArray t (0, 0)) → old.length = vs.length →
    (w.setCells b A.length vs).heap[b]? = some (.cells (A ++ vs ++ C).toArray t (0, 0))
  | [], A, old, C, w, b, t, h, hl => by
    obtain rfl : old = [] := List.eq_nil_of_length_eq_zero (by simpa using hl)
    exact h
  | v :: vs, A, [], C, w, b, t, h, hl => by simp at hl
  | v :: vs, A, u :: old, C, w, b, t, h, hl => by
    have h1 := heap_setCell_same w b A.length _ t v h
    have h2 : (A ++ u :: old ++ C).toArray.setIfInBounds A.length v = ((A ++ [v]) ++ old ++ C).toArray := by
      rw [List.setIfInBounds_toArray]
      congr 1
      simp
    rw [h2] at h1
    have h3 := setCells_listM vs (A ++ [v]) old C (w.setCell ⟨b, A.length, none⟩ v) b t h1 (by simpa using hl)
    rw [List.length_append] at h3
    show ((w.setCell ⟨b, A.length, none⟩ v).setCells b (A.length + 1) vs).heap[b]? = _
    rw [show A ++ v :: vs ++ C = A ++ [v] ++ vs ++ C from by simp]
    exact h3


/-- v is a slice of n things of `size` cells, xs, at place o of a block of the caller's own, whose cells behind it are spare as far as its capacity goes. -/
def MidRow (w : World) (base : Nat) (e : TypeId) (size : Nat) (v : Value) (n : Nat) (xs : List Value) : Prop :=
  xs.length = n * size ∧ (v = .slice none 0 0 ∧ n = 0 ∨ ∃ g o cap cur, v = .slice (some ⟨g, o, none⟩) n cap ∧ base ≤ g ∧ w.heap[g]? = some (.cells cur e (0, 0)) ∧ n ≤ cap ∧ cap ≤ maxLen ∧ o + cap * size ≤ cur.size ∧ (cur.toList.drop o).take (n * size) = xs)
theorem MidRow.nil (w : World) (base : Nat) (e : TypeId) (size : Nat) : MidRow w base e size (.slice none 0 0) 0 [] := ⟨by simp, .inl ⟨rfl, rfl⟩⟩
theorem MidRow.of_owns {w : World} {base : Nat} {e : TypeId} {size : Nat} {v : Value} {n : Nat} {xs : List Value} (h : w.ownsRow base e size v n xs) : MidRow w base e size v n xs := by
  obtain ⟨h1, h2⟩ := h
  refine ⟨h1, ?_⟩
  rcases h2 with h2 | ⟨g, cap, cur, h3, h4, h5, h6, h7, h8, h9⟩
  · exact .inl h2
  · exact .inr ⟨g, 0, cap, cur, h3, h4, h5, h6, h7, by omega, by rw [List.drop_zero]; exact h9⟩
theorem MidRow.tag {w : World} {base : Nat} {e : TypeId} {size : Nat} {v : Value} {n : Nat} {xs : List Value} (h : MidRow w base e size v n xs) {g : Nat} (hg : v.ownBlock = some g) : Tag w g e ∧ base ≤ g := by
  obtain ⟨-, ⟨rfl, -⟩ | ⟨g', o, cap, cur, rfl, h4, h5, -⟩⟩ := h
  · simp [Value.ownBlock] at hg
  · obtain rfl : g' = g := by simpa [Value.ownBlock] using hg
    exact ⟨Tag.of h5, h4⟩
theorem MidRow.kept {w w' : World} {base : Nat} {e : TypeId} {size : Nat} {v : Value} {n : Nat} {xs : List Value} (h : MidRow w base e size v n xs) {M : Nat → Prop} (hc : Chg M w w') (hM : ∀ g, v.ownBlock = some g → ¬ M g) : MidRow w' base e size v n xs := by
  obtain ⟨h1, h2 | ⟨g, o, cap, cur, rfl, h4, h5, h6⟩⟩ := h
  · exact ⟨h1, .inl h2⟩
  · exact ⟨h1, .inr ⟨g, o, cap, cur, rfl, h4, hc.obj h5 (fun e => hM g rfl e), h6⟩⟩
/-- Its cells. -/
theorem MidRow.cell {w : World} {base : Nat} {e : TypeId} {size : Nat} {g o n cap : Nat} {xs : List Value} (h : MidRow w base e size (.slice (some ⟨g, o, none⟩) n cap) n xs) {j : Nat} {u : Value} (hj : xs[j]? = some u) : w.cell? ⟨g, o + j, none⟩ = some u := by
  obtain ⟨h1, ⟨h2, -⟩ | ⟨g', o', cap', cur, h3, h4, h5, h6, h7, h8, h9⟩⟩ := h
  · cases h2
  · obtain ⟨rfl, rfl⟩ : g = g' ∧ o = o' := by simpa using (Value.slice.inj h3).1
    rw [(mid_cell0 h5 (o + j)).1]
    rw [← h9] at hj
    have hlt : j < n * size := by
      have := (List.getElem?_eq_some_iff.1 hj).1
      rw [List.length_take] at this
      omega
    rw [List.getElem?_take_of_lt hlt, List.getElem?_drop] at hj
    rw [← Array.getElem?_toList]
    exact hj
theorem MidRow.row {w : World} {base : Nat} {e : TypeId} {size : Nat} {v : Value} {n : Nat} {xs : List Value} (h : MidRow w base e size v n xs) : Row w e size v n xs := by
  have h0 := h
  obtain ⟨h1, ⟨rfl, rfl⟩ | ⟨g, o, cap, cur, rfl, h4, h5, h6, h7, h8, h9⟩⟩ := h
  · obtain rfl : xs = [] := List.eq_nil_of_length_eq_zero (by omega)
    exact Row.nil w e size
  · exact ⟨h1, _, cap, rfl, h6, h7, (fun h => by cases h), (fun g' hg' => (h0.tag hg').1), .inr ⟨g, o, rfl, fun j x hx => ⟨h0.cell hx, (mid_cell0 h5 _).2⟩⟩⟩
/-- Without its first one. -/
theorem MidRow.tail {w : World} {base : Nat} {e : TypeId} {size : Nat} {g o n cap : Nat} {x xs : List Value} (h : MidRow w base e size (.slice (some ⟨g, o, none⟩) (n + 1) cap) (n + 1) (x ++ xs)) (hx : x.length = size) {c2 : Nat} (hc : n ≤ c2) (hc2 : c2 + 1 ≤ cap) :
    MidRow w base e size (.slice (some ⟨g, o + size, none⟩) n c2) n xs := by
  obtain ⟨h1, ⟨h2, -⟩ | ⟨g', o', cap', cur, h3, h4, h5, h6, h7, h8, h9⟩⟩ := h
  · cases h2
  · obtain ⟨⟨rfl, rfl⟩, rfl⟩ : (g = g' ∧ o = o') ∧ cap = cap' := by
      have := Value.slice.inj h3
      exact ⟨by simpa using this.1, this.2.2⟩
    rw [List.length_append, hx, Nat.succ_mul] at h1
    refine ⟨by omega, .inr ⟨g, o + size, c2, cur, rfl, h4, h5, hc, by omega, ?_, ?_⟩⟩
    · have : (c2 + 1) * size ≤ cap * size := Nat.mul_le_mul_right _ hc2
      rw [Nat.succ_mul] at this
      omega
    · have h10 := congrArg (List.drop size) h9
      rw [List.drop_append_of_le_length (by omega), ← hx, List.drop_length, List.nil_append, hx, List.drop_take, List.drop_drop, Nat.succ_mul, Nat.add_sub_cancel] at h10
      exact h10

section
variable {P : Program}
theorem mid_grown (w : World) (base : Nat) (e : TypeId) (z : Value) (size : Nat) (hzs : z.cells.size = size) (n m old : Nat) (xs news : List Value) (hx : xs.length = n * size) (hl : news.length = m * size) (h63 : n + m ≤ maxLen) (hbase : base ≤ w.heap.size) (row : Option Nat) :
    MidRow (w.drew.alloc (.cells ((xs ++ news).toArray ++ Builtin.zeroCells z.cells (grownCap w (n + m) old e - (n + m))) e)) base e size (.slice (some ⟨w.heap.size, 0, none⟩) (n + m) (grownCap w (n + m) old e)) (n + m) (xs ++ news) ∧
      w.grownBy (w.drew.alloc (.cells ((xs ++ news).toArray ++ Builtin.zeroCells z.cells (grownCap w (n + m) old e - (n + m))) e)) row := by
  have hge := grownCap_ge w (n + m) old e
  have hcm : grownCap w (n + m) old e ≤ maxLen := grownCap_le_maxLen w (n + m) old e h63
  have hlen : (xs ++ news).length = (n + m) * size := by rw [List.length_append, hx, hl, Nat.add_mul]
  refine ⟨⟨hlen, .inr ⟨w.heap.size, 0, _, _, rfl, hbase, heap_alloc_new w.drew _, hge, hcm, ?_, ?_⟩⟩, ⟨rfl, rfl, rfl, by simp, fun k hk _ => heap_alloc_old w.drew _ hk⟩⟩
  · rw [Array.size_append, List.size_toArray, size_zeroCells, hzs, hlen, ← Nat.add_mul, Nat.zero_add]
    exact Nat.le_of_eq (congrArg (· * size) (by omega))
  · rw [List.drop_zero, Array.toList_append, ← hlen]
    exact List.take_left
/-- append onto such a slice, whatever is appended: in its own block, if there is room; else in a new one. -/
theorem run_append_mid (w : World) (base : Nat) (t tx ty e : TypeId) (i : TypeInfo) (z : Value) (size bytes : Nat) (ht : P.underlying t = some (.slice e)) (hi : P.info? e = some i) (hz : i.zero = some z)
    (hsize : i.size = size) (hby : i.bytes = bytes) (hzs : z.cells.size = size)
    (v : Value) (n : Nat) (xs : List Value) (hown : MidRow w base e size v n xs)
    (x : Value) (m : Nat) (news : List Value) (hs : Src P size tx x m news w)
    (h63 : n + m ≤ maxLen) (hbytes : (n + m) * bytes ≤ 140737488355328) (hbase : base ≤ w.heap.size) :
    ∃ v' w', (Builtin.append_ #[t, tx] ty #[v, x]).run P w = .ok v' w' ∧ MidRow w' base e size v' (n + m) (xs ++ news) ∧ w.grownBy w' v.ownBlock ∧ (v'.ownBlock = v.ownBlock ∨ v'.ownBlock = some w.heap.size) := by
  subst hsize
  subst hby
  have hsmall : n + m ≤ 9223372036854775807 := by simp only [maxLen] at h63; omega
  have hl := hs.newsLen
  have hx := hown.1
  rcases hown.2 with ⟨rfl, rfl⟩ | ⟨g, o, cap, cur, rfl, hbg, hg, hnc, hcm, hcs, htake⟩
  · have hx0 : xs = [] := List.eq_nil_of_length_eq_zero (by simpa using hx)
    subst hx0
    by_cases hm : m = 0
    · subst hm
      have hn : news = [] := List.eq_nil_of_length_eq_zero (by simpa using hl)
      subst hn
      refine ⟨.slice none 0 0, w, ?_, MidRow.nil _ _ _ _, ⟨rfl, rfl, rfl, Nat.le_refl _, fun _ _ _ => rfl⟩, .inl rfl⟩
      have hc := hs.cells
      have hk := hs.len
      rcases hs.kind with ⟨e', hk'⟩ | hk' <;> simp [Builtin.append_, run_underlying ht, run_underlying hk', sizeOf, typeInfo, hi, hk, hc]
    · have hr := run_append_grow_src (P := P) w t tx ty e i z ht hi hz none 0 0 [] (by simp [Builtin.firstCells]) x m news hs (by omega) (by omega) (growslice_fits (by omega) hbytes)
      have hgr := mid_grown w base e z i.size hzs 0 m 0 [] news (by simp) hl h63 hbase (Value.ownBlock (.slice none 0 0))
      exact ⟨_, _, hr, hgr.1, hgr.2, .inr rfl⟩
  · by_cases hroom : n + m ≤ cap
    · have hfit : o + n * i.size + news.length ≤ cur.size := by
        have : (n + m) * i.size ≤ cap * i.size := Nat.mul_le_mul_right _ hroom
        rw [Nat.add_mul] at this
        omega
      have hcell : ∀ j, j < news.length → (w.cell? ⟨g, o + n * i.size + j, none⟩).isSome = true ∧ w.frozen? ⟨g, o + n * i.size + j, none⟩ = false := fun j hj => by
        obtain ⟨h1, h2⟩ := mid_cell0 hg (o + n * i.size + j)
        rw [h1]
        exact ⟨by rw [Array.getElem?_eq_getElem (by omega)]; rfl, h2⟩
      have hr := run_append_room_src (P := P) w t tx ty e i ht hi g o n cap x m news hs hroom (fun j hj => (hcell j hj).1) (fun j hj => (hcell j hj).2)
      have hcl : cur.toList.length = cur.size := Array.length_toList
      have hk : o + n * i.size ≤ cur.toList.length := by omega
      have hA : (cur.toList.take (o + n * i.size)).length = o + n * i.size := by rw [List.length_take]; omega
      have hAo : (cur.toList.take (o + n * i.size)).drop o = xs := by rw [List.drop_take, Nat.add_sub_cancel_left]; exact htake
      have hold : ((cur.toList.drop (o + n * i.size)).take news.length).length = news.length := by rw [List.length_take, List.length_drop]; omega
      have hg2 : w.heap[g]? = some (.cells (cur.toList.take (o + n * i.size) ++ (cur.toList.drop (o + n * i.size)).take news.length ++ (cur.toList.drop (o + n * i.size)).drop news.length).toArray e (0, 0)) := by
        rw [List.append_assoc, List.take_append_drop, List.take_append_drop]; exact hg
      have hset := setCells_listM news _ _ _ w g e hg2 hold
      rw [hA] at hset
      have hgr := (setCells_grownM news (o + n * i.size) w g).1
      have hlen : (xs ++ news).length = (n + m) * i.size := by rw [List.length_append, hx, hl, Nat.add_mul]
      refine ⟨_, _, hr, ⟨hlen, .inr ⟨g, o, cap, _, rfl, hbg, hset, hroom, hcm, ?_, ?_⟩⟩, hgr, .inl rfl⟩
      · rw [List.size_toArray, List.length_append, List.length_append, hA, List.length_drop, List.length_drop]
        omega
      · show List.take ((n + m) * i.size) (List.drop o (cur.toList.take (o + n * i.size) ++ news ++ _)) = _
        rw [List.append_assoc, List.drop_append_of_le_length (by omega), hAo, ← List.append_assoc, ← hlen]
        exact List.take_left
    · have hr := run_append_grow_src (P := P) w t tx ty e i z ht hi hz (some ⟨g, o, none⟩) n cap xs (run_firstCells_some w.drew i.size n ⟨g, o, none⟩ n cap xs hx (fun j u hj => by
          rw [Addr.add_lit]
          exact hown.cell hj)) x m news hs (by omega) (by omega) (growslice_fits (by omega) hbytes)
      have hgr := mid_grown w base e z i.size hzs n m cap xs news hx hl h63 hbase (Value.ownBlock (.slice (some ⟨g, o, none⟩) n cap))
      exact ⟨_, _, hr, hgr.1, hgr.2, .inr rfl⟩
end
end Go.Proofs.YtaooangnnlopcaaGreatDoor
namespace Go.Proofs.YtaooangnnlopcaaGreatDoor
open Go.RowKit Go.ChangeMaps Go.MapKept
theorem wp_append_midL {P : Program} {w : World} {o : Oper} {a : Act} {K : Act → World → Prop} {Q : Exit → Act → World → Prop} (s x : Operand) (t tx : TypeId)
    (ho : o.op = .call { callee := .builtin .append, args := #[s, x], argTypes := #[t, tx] })
    (base : Nat) (e : TypeId) (i : TypeInfo) (z : Value) (size bytes : Nat) (ht : P.underlying t = some (.slice e)) (hi : P.info? e = some i) (hz : i.zero = some z)
    (hsize : i.size = size) (hby : i.bytes = bytes) (hzs : z.cells.size = size)
    (v : Value) (n : Nat) (xs : List Value) (hs : a.eval s = v) (hown : MidRow w base e size v n xs)
    (xv : Value) (m : Nat) (news : List Value) (hx : a.eval x = xv) (hsrc : Src P size tx xv m news w)
    (h63 : n + m ≤ maxLen) (hbytes : (n + m) * bytes ≤ 140737488355328) (hbase : base ≤ w.heap.size)
    (h : ∀ v' w', MidRow w' base e size v' (n + m) (xs ++ news) → w.grownBy w' v.ownBlock → K (a.put o.dst v') w') : Oper.wp P o a w K Q := by
  obtain ⟨v', w', hr, h2, h3, h4⟩ := run_append_mid (P := P) w base t tx o.type e i z size bytes ht hi hz hsize hby hzs v n xs hown xv m news hsrc h63 hbytes hbase
  unfold Oper.wp execOp
  simp only [ho, resolve, invoke, builtin, Sem.run_bind, Sem.run_pure, Result.andThen_ok, List.map_toArray, List.map_cons, List.map_nil, hs, hx, hr]
  exact h v' w' h2 h3
theorem midrow_lenL {w : World} {base : Nat} {e : TypeId} {size : Nat} {v : Value} {n : Nat} {xs : List Value} (h : MidRow w base e size v n xs) : ∃ a c, v = .slice a n c := by
  rcases h.2 with ⟨rfl, rfl⟩ | ⟨g, o, cap, cur, rfl, -⟩
  · exact ⟨_, _, rfl⟩
  · exact ⟨_, _, rfl⟩
theorem rrow_mid {α : Type} {f : α → List Value} {sz : Nat} (hf : ∀ x, (f x).length = sz) {w : World} {B : Nat} {t : TypeId} {v : Value} {L : List α} (h : MidRow w B t sz v L.length (L.flatMap f)) : RRow f sz w v L := by
  have h0 := h
  obtain ⟨hl, h2⟩ := h
  rcases h2 with ⟨rfl, h3⟩ | ⟨g, o, cap, cur, rfl, hg, hh, hn, hm, -, -⟩
  · rw [List.eq_nil_of_length_eq_zero h3]
    exact RRow.nil
  · refine ⟨_, cap, rfl, hn, hm, (fun e => by cases e), fun j x hx => ⟨g, o, rfl, (Array.getElem?_eq_some_iff.1 hh).1, fun i u hu => ?_⟩⟩
    have hi : i < sz := by rw [← hf x]; exact (List.getElem?_eq_some_iff.1 hu).1
    rw [Nat.add_assoc]
    exact h0.cell (by rw [flat_get hf hx hi]; exact hu)
theorem flat_split {α : Type} {f : α → List Value} {sz : Nat} (hf : ∀ x, (f x).length = sz) (hs : 0 < sz) {L : List α} {k : Nat} {u : Value} (h : (L.flatMap f)[k]? = some u) : ∃ j x i, L[j]? = some x ∧ (f x)[i]? = some u ∧ k = j * sz + i := by
  have hk := (List.getElem?_eq_some_iff.1 h).1
  rw [flat_len hf] at hk
  have hj : k / sz < L.length := Nat.div_lt_of_lt_mul (by rw [Nat.mul_comm]; exact hk)
  have hi : k % sz < sz := Nat.mod_lt _ hs
  have he : k = k / sz * sz + k % sz := by rw [Nat.mul_comm]; exact (Nat.div_add_mod k sz).symm
  refine ⟨k / sz, L[k / sz], k % sz, List.getElem?_eq_getElem hj, ?_, he⟩
  rw [← flat_get hf (List.getElem?_eq_getElem hj) hi, ← he]
  exact h
theorem src_rrow {α : Type} {f : α → List Value} {sz : Nat} (hf : ∀ x, (f x).length = sz) (hs : 0 < sz) (h1 : ∀ x, ∀ u ∈ f x, u.oneCell' = true) {w : World} {tx e : TypeId} (hk : Tryz.prog.underlying tx = some (.slice e)) {v : Value} {L : List α} (h : RRow f sz w v L) : Src Tryz.prog sz tx v L.length (L.flatMap f) w := by
  obtain ⟨a, c, rfl, h2, h3, h4, h5⟩ := h
  cases a with
  | none =>
    have hc := h4 rfl
    subst hc
    obtain rfl : L = [] := List.eq_nil_of_length_eq_zero (by omega)
    exact Src.ofNil (P := Tryz.prog) (w := w) hk 0
  | some A =>
    refine Src.ofSlice (P := Tryz.prog) (w := w) hk A L.length c _ (flat_len hf L) (fun k u hu => ?_) (fun u hu => ?_)
    · obtain ⟨j, x, i, hj, hi, rfl⟩ := flat_split hf hs hu
      obtain ⟨g, o, hA, -, hr⟩ := h5 j x hj
      obtain rfl := Option.some.inj hA
      rw [show (⟨g, o, none⟩ : Addr).add (j * sz + i) = ⟨g, o + j * sz + i, none⟩ from by simp [Addr.add, Nat.add_assoc]]
      exact hr i u hi
    · obtain ⟨x, _, hx⟩ := List.mem_flatMap.1 hu
      exact h1 x u hx
theorem infoPCalled : (Tryz.prog.info? 42).map (fun i => (i.zero, i.size, i.bytes)) = some (some (.agg calledZero), 20, 192) := by kernel_rfl
theorem infoPDrop : (Tryz.prog.info? 94).map (fun i => (i.zero, i.size, i.bytes)) = some (some (.agg dropZero), 7, 72) := by kernel_rfl
theorem called_one (x : CalledD) : ∀ u ∈ x.list, u.oneCell' = true := by simp [Value.oneCell']
theorem drop_one (x : DropD) : ∀ u ∈ x.list, u.oneCell' = true := by simp [Value.oneCell']
set_option maxRecDepth 100000 in
set_option maxHeartbeats 16000000 in
theorem copied37_any {w : World} {cv dv : Value} {cs : List CalledD} {ds : List DropD} (h : HistAt w cv dv cs ds) (hn : cs.length + ds.length ≤ 1000000) : Calls Tryz.prog 24 #[.agg #[cv, dv]] w fun e w' => OthOk w cs ds e w' := by
  obtain ⟨ca, cc, rfl⟩ := h.calls.len
  obtain ⟨da, dc, rfl⟩ := h.drops.len
  have HH := Lib.hid h
  have hcl : cs.length ≤ 1000000 := by omega
  have hdl : ds.length ≤ 1000000 := by omega
  clear h
  obtain ⟨i0, hi0, hz0, hz1, hz2⟩ := info_parts infoPCalled
  have Hi := Lib.hid hi0
  have Hz := Lib.hid (And.intro hz0 (And.intro hz1 hz2))
  clear hi0 hz0 hz1 hz2
  obtain ⟨j0, hi0, hz0, hz1, hz2⟩ := info_parts infoPDrop
  have Hj := Lib.hid hi0
  have Hy := Lib.hid (And.intro hz0 (And.intro hz1 hz2))
  clear hi0 hz0 hz1 hz2
  go_enter Tryz.func24, Tryz.ntmps24
  go_upto_region 1 with fail
  obtain ⟨W0, hW0⟩ : ∃ X, X = (w.alloc (.cells #[.slice ca cs.length cc, .slice da ds.length dc] 64)).alloc (.cells #[.slice none 0 0, .slice none 0 0] 64) := ⟨_, rfl⟩
  have hb0 : Below w.heap.size w W0 := by rw [hW0]; exact ((Below.refl _ _).alloc (Nat.le_refl _) _).alloc (by simp) _
  have hx0 : W0.heap[w.heap.size]? = some (.cells #[.slice ca cs.length cc, .slice da ds.length dc] 64 (0, 0)) := by rw [hW0, heap_at, if_neg (by simp), heap_at, if_pos rfl]
  have hx1 : W0.heap[w.heap.size + 1]? = some (.cells #[.slice none 0 0, .slice none 0 0] 64 (0, 0)) := by rw [hW0, heap_at, if_pos (by simp)]
  have hsz0 : W0.heap.size = w.heap.size + 1 + 1 := by rw [hW0]; simp
  rw [← hW0]
  clear hW0
  obtain ⟨pb, hpb⟩ : ∃ z, z = w.heap.size := ⟨_, rfl⟩
  obtain ⟨pr, hpr⟩ : ∃ z, z = w.heap.size + 1 := ⟨_, rfl⟩
  rw [← hpr] at hx1 ⊢
  rw [← hpb] at hx0 ⊢
  have HPP := Lib.hid (show w.heap.size ≤ pb ∧ pb < pr ∧ pr < W0.heap.size ∧ w.heap.size ≤ pr ∧ w.heap.size ≤ W0.heap.size from ⟨by omega, by omega, by omega, by omega, by omega⟩)
  have HH0 := Lib.hid (HH.out.below hb0)
  have HB0 := Lib.hid hb0
  have k0 : W0.drew.cell? ⟨pb, 0, none⟩ = some (.slice ca cs.length cc) := (cells_at hx0 0).1
  have k1 : W0.drew.cell? ⟨pb, 1, none⟩ = some (.slice da ds.length dc) := (cells_at hx0 1).1
  have HX := Lib.hid hx0
  have HXR := Lib.hid hx1
  obtain ⟨B, hB⟩ : ∃ z, z = W0.heap.size := ⟨_, rfl⟩
  have HBB := Lib.hid hB
  have hprB : pr < B := by omega
  have hpbB : pb < B := by omega
  have hpbl : pb < W0.heap.size := by omega
  clear hb0 hx0 hx1 hpb hpr hsz0 hB
  have HSC := Lib.hid (fun (W : World) (hW : Below W0.heap.size W0 W) => src_rrow (f := CalledD.list) (sz := 20) (fun _ => rfl) (by omega) called_one (tx := 61) Tryz.underlying61 (HH0.out.calls.below hW))
  have HSD := Lib.hid (fun (W : World) (hW : Below W0.heap.size W0 W) => src_rrow (f := DropD.list) (sz := 7) (fun _ => rfl) (by omega) drop_one (tx := 62) Tryz.underlying62 (HH0.out.drops.below hW))
  have HFN := Lib.hid (show ∀ (W : World) (cv dv : Value), MidRow W B 42 20 cv cs.length (cs.flatMap CalledD.list) → MidRow W B 94 7 dv ds.length (ds.flatMap DropD.list) → Below W0.heap.size W0 W → ∀ W', W.grownBy W' (some pr) → OthOk w cs ds (.returned (.agg #[cv, dv])) W' from fun W cv dv h1 h2 hb W' hg => by
    have hcw : Chg (fun k => k = pr) W W' := Chg.of_grown hg (fun k _ e => (Option.some.inj e).symm)
    refine ⟨cv, dv, rfl, ⟨(rrow_mid (f := CalledD.list) (sz := 20) (fun _ => rfl) h1).kept hcw (fun g hg e => by have := (h1.tag hg).2; omega), (rrow_mid (f := DropD.list) (sz := 7) (fun _ => rfl) h2).kept hcw (fun g hg e => by have := (h2.tag hg).2; omega), HH.out.callsIs, HH.out.dropsIs⟩, ?_⟩
    exact (HB0.out.trans (hb.mono HB0.out.size)).trans (hcw.below (fun k hk => ⟨Nat.lt_of_lt_of_le hk (Nat.le_trans HB0.out.size hb.size), fun e => by have := HPP.out; omega⟩)))
  refine wp_region_held_drew (S := fun W => W.cell? ⟨pb, 0, none⟩ = some (.slice ca cs.length cc) ∧ W.cell? ⟨pb, 1, none⟩ = some (.slice da ds.length dc)) (by kernel_rfl) ⟨k0, k1⟩ (fun hHeld => ?_)
  refine tkq (i := 0) (v := ?_) rfl (by kernel_rfl) (fun _ _ _ h => h) (by rfl) ?_ (by assumption) ?_
  rotate_left 1
  · ((intro w hSw; (try dsimp only at hSw); go_simp) <;> with_reducible rfl)
  try simp only [Act.put, tzA, tzB, tzC, tzD, tzE]
  refine tkq (i := 1) (v := ?_) rfl (by kernel_rfl) (fun _ _ _ h => h) (by rfl) ?_ (by assumption) ?_
  rotate_left 1
  · ((intro w hSw; (try dsimp only at hSw); obtain ⟨c0, c1⟩ := hSw; go_simp) <;> with_reducible rfl)
  try simp only [Act.put, tzA, tzB, tzC, tzD, tzE, tzF]
  refine tkq (i := 3) (v := ?_) rfl (by kernel_rfl) (fun _ _ _ h => h) (by rfl) ?_ (by assumption) ?_
  rotate_left 1
  · ((intro w hSw; (try dsimp only at hSw); go_simp) <;> with_reducible rfl)
  try simp only [Act.put, tzA, tzB, tzC, tzD, tzE, tzF]
  refine tkq (i := 4) (v := ?_) rfl (by kernel_rfl) (fun _ _ _ h => h) (by rfl) ?_ (by assumption) ?_
  rotate_left 1
  · ((intro w hSw; (try dsimp only at hSw); obtain ⟨c0, c1⟩ := hSw; go_simp) <;> with_reducible rfl)
  try simp only [Act.put, tzA, tzB, tzC, tzD, tzE, tzF]
  refine wpAnyH_ready (rs := [2]) (by kernel_rfl) (by simp) ?_
  refine (AllReadyH.cons rfl (fun K hK => ?_) AllReadyH.nil)
  rw [if_pos (by rfl)]
  refine wp_append_midL _ (.tmp 4) 61 61 (by rfl) B 42 i0 (.agg calledZero) 20 192 Tryz.underlying61 Hi.out Hz.out.1 Hz.out.2.1 Hz.out.2.2 rfl _ 0 [] (by rfl) (MidRow.nil _ _ _ _) _ _ _ (by rfl) (HSC.out _ (Below.refl W0.heap.size W0).drew) (by unfold maxLen; omega) (by omega) (by have := HBB.out; have := ((Below.refl W0.heap.size W0).drew).size; omega) ?_
  intro v1 w1 hm1 hg1
  rw [Nat.zero_add, List.nil_append] at hm1
  have hb1 : Below W0.heap.size W0 w1 := (Below.refl W0.heap.size W0).drew.grown hg1 (Nat.le_refl _) (fun k hk => by cases hk)
  have q0 : w1.cell? ⟨pb, 0, none⟩ = some (.slice ca cs.length cc) := (hb1.cell (p := ⟨pb, 0, none⟩) hpbl).trans (cells_at HX.out 0).1
  have q1 : w1.cell? ⟨pb, 1, none⟩ = some (.slice da ds.length dc) := (hb1.cell (p := ⟨pb, 1, none⟩) hpbl).trans (cells_at HX.out 1).1
  obtain ⟨a1, c1, rfl⟩ := midrow_lenL hm1
  have HM1 := Lib.hid hm1
  have HB1 := Lib.hid hb1
  refine hK.out _ _ ⟨q0, q1⟩ (fun hHeld2 => ?_)
  clear hK K hm1 hg1 hb1
  try simp only [Act.put, tzA, tzB, tzC, tzD, tzE, tzF]
  refine wpAnyH_ready (rs := [5]) (by kernel_rfl) (by simp) ?_
  refine (AllReadyH.cons rfl (fun K hK => ?_) AllReadyH.nil)
  rw [if_pos (by rfl)]
  refine wp_append_midL _ (.tmp 7) 62 62 (by rfl) B 94 j0 (.agg dropZero) 7 72 Tryz.underlying62 Hj.out Hy.out.1 Hy.out.2.1 Hy.out.2.2 rfl _ 0 [] (by rfl) (MidRow.nil _ _ _ _) _ _ _ (by rfl) (HSD.out _ HB1.out) (by unfold maxLen; omega) (by omega) (by have := HBB.out; have := (HB1.out).size; omega) ?_
  intro v2 w2 hm2 hg2
  rw [Nat.zero_add, List.nil_append] at hm2
  have hb2 : Below w1.heap.size w1 w2 := (Below.refl _ _).grown hg2 (Nat.le_refl _) (fun k hk => by cases hk)
  have hb3 := HB1.out.trans (hb2.mono HB1.out.size)
  have q2 : w2.cell? ⟨pb, 0, none⟩ = some (.slice ca cs.length cc) := (hb3.cell (p := ⟨pb, 0, none⟩) hpbl).trans (cells_at HX.out 0).1
  have q3 : w2.cell? ⟨pb, 1, none⟩ = some (.slice da ds.length dc) := (hb3.cell (p := ⟨pb, 1, none⟩) hpbl).trans (cells_at HX.out 1).1
  have hxr := (Chg.of_below (M := fun _ => False) hb3).obj HXR.out id
  have HTH := Lib.hid (show w2.there pr 0 2 from fun j hj => ⟨by rw [Nat.zero_add, (cells_at hxr j).1, Array.getElem?_eq_getElem hj]; rfl, (cells_at hxr (0 + j)).2⟩)
  obtain ⟨a2, c2, rfl⟩ := midrow_lenL hm2
  have HXQ := Lib.hid hxr
  have HM3 := Lib.hid (HM1.out.kept (M := fun _ => False) (Chg.of_below hb2) (fun _ _ e => e))
  have HF := Lib.hid (HFN.out w2 _ _ HM3.out hm2 hb3)
  refine hK.out _ _ ⟨q2, q3⟩ (fun hHeld2 => ?_)
  clear hK K hm2 hg2 hb2 hb3 hxr
  try simp only [Act.put, tzA, tzB, tzC, tzD, tzE, tzF]
  refine tkq (i := 6) (v := ?_) rfl (by kernel_rfl) (fun _ _ _ h => h) (by rfl) ?_ (by assumption) ?_
  rotate_left 1
  · ((intro w hSw; (try dsimp only at hSw); go_simp) <;> with_reducible rfl)
  try simp only [Act.put, tzA, tzB, tzC, tzD, tzE, tzF]
  refine wpAnyH_ready (rs := [7]) (by kernel_rfl) (by simp) ?_
  refine (AllReadyH.cons rfl (fun K hK => ?_) AllReadyH.nil)
  rw [if_pos (by rfl)]
  refine wp_store_mid 64 (.tmp 2) (.tmp 9) rfl pr 0 #[.slice a1 cs.length c1, .slice a2 ds.length c2] (by rfl) (by rfl) HTH.out (by kernel_rfl) (by simp [Value.oneCell']) ?_
  obtain ⟨w4, hw4⟩ : ∃ X, X = w2.setCells pr 0 #[.slice a1 cs.length c1, .slice a2 ds.length c2].toList := ⟨_, rfl⟩
  have hg4 := (setCells_grown #[.slice a1 cs.length c1, .slice a2 ds.length c2].toList 0 w2 pr).1
  have hx4 : w4.heap[pr]? = some (.cells #[.slice a1 cs.length c1, .slice a2 ds.length c2] 64 (0, 0)) := by rw [hw4]; exact setCells_whole HXQ.out rfl
  rw [← hw4] at hg4 ⊢
  have hc4 : Chg (fun k => k = pr) w2 w4 := Chg.of_grown hg4 (fun k _ e => (Option.some.inj e).symm)
  have HPO := Lib.hid (HF.out w4 hg4)
  have HX4 := Lib.hid hx4
  refine hK.out _ _ ⟨hc4.cell q2 (by have := HPP.out; omega), hc4.cell q3 (by have := HPP.out; omega)⟩ (fun hHeld2 => ?_)
  clear hK K hg4 hx4 hw4 hc4
  try simp only [Act.put, tzD, tzE, tzF]
  refine wpAnyH_done (by kernel_rfl) ?_ _
  clear hHeld hHeld2
  go_wp2_with (first | ((with_reducible show bodyPost _ _ _ Exit.ret _ _); exact bodyPost_ret (v := .agg #[.slice a1 cs.length c1, .slice a2 ds.length c2]) (results_row_one rfl _ _ pr _ _ _ _ (by rfl) HX4.out Tryz.underlying64 rfl (by kernel_rfl)) rfl HPO.out) | fail)
theorem run_called_ne (x : CalledD) (W : World) : (binOp .neq 42 (.agg x.cells) (.agg x.cells)).run Tryz.prog W = .ok (.bool false) W := by
  have h := Tryz.underlying42
  have h2 := Tryz.underlying35
  have h3 := Tryz.underlying40
  have h4 := Tryz.underlying38
  go_simp
theorem run_drop_ne (x : DropD) (W : World) : (binOp .neq 94 (.agg x.list.toArray) (.agg x.list.toArray)).run Tryz.prog W = .ok (.bool false) W := by
  have h := Tryz.underlying94
  have h4 := Tryz.underlying38
  go_simp
set_option maxRecDepth 100000 in
set_option maxHeartbeats 16000000 in
theorem left37_any {w : World} {av bv cv dv : Value} {cs : List CalledD} {ds : List DropD} (h : HistAt w av bv cs ds) (h' : HistAt w cv dv cs ds) (hn : cs.length + ds.length ≤ 1000000) : Calls Tryz.prog 32 #[.agg #[av, bv], .agg #[cv, dv]] w fun e w' => e = .returned (.bool true) ∧ Below w.heap.size w w' := by
  obtain ⟨aa, ac, rfl⟩ := h.calls.len
  obtain ⟨ba, bc, rfl⟩ := h.drops.len
  obtain ⟨ca, cc, rfl⟩ := h'.calls.len
  obtain ⟨da, dc, rfl⟩ := h'.drops.len
  have HA := Lib.hid h
  have HB := Lib.hid h'
  have hcl : cs.length ≤ 1000000 := by omega
  have hdl : ds.length ≤ 1000000 := by omega
  clear h h'
  go_enter Tryz.func32, Tryz.ntmps32
  go_upto_region 1 with fail
  obtain ⟨W0, hW0⟩ : ∃ X, X = (w.alloc (.cells #[.slice aa cs.length ac, .slice ba ds.length bc] 64)).alloc (.cells #[.slice ca cs.length cc, .slice da ds.length dc] 64) := ⟨_, rfl⟩
  have hb0 : Below w.heap.size w W0 := by rw [hW0]; exact ((Below.refl _ _).alloc (Nat.le_refl _) _).alloc (by simp) _
  have hx0 : W0.heap[w.heap.size]? = some (.cells #[.slice aa cs.length ac, .slice ba ds.length bc] 64 (0, 0)) := by rw [hW0, heap_at, if_neg (by simp), heap_at, if_pos rfl]
  have hx1 : W0.heap[w.heap.size + 1]? = some (.cells #[.slice ca cs.length cc, .slice da ds.length dc] 64 (0, 0)) := by rw [hW0, heap_at, if_pos (by simp)]
  rw [← hW0]
  clear hW0
  obtain ⟨pa, hpa⟩ : ∃ z, z = w.heap.size := ⟨_, rfl⟩
  obtain ⟨pb, hpb⟩ : ∃ z, z = w.heap.size + 1 := ⟨_, rfl⟩
  rw [← hpb] at hx1 ⊢
  rw [← hpa] at hx0 ⊢
  have hpal : pa < W0.heap.size := (Array.getElem?_eq_some_iff.1 hx0).1
  have hpbl : pb < W0.heap.size := (Array.getElem?_eq_some_iff.1 hx1).1
  have HA0 := Lib.hid (HA.out.below hb0)
  have HB0 := Lib.hid (HB.out.below hb0)
  have HL0 := Lib.hid hb0
  have HXA := Lib.hid hx0
  have HXB := Lib.hid hx1
  clear hb0 hx0 hx1 hpa hpb
  go_upto_region 2 with fail
  go_loopw [5] (fun s5 wr => ∃ i : Nat, s5 = .int .i64 (i : Int) ∧ i ≤ cs.length ∧ Hid (Below W0.heap.size W0 wr)) (fun s5 _ => cs.length - (intOf s5).toNat)
  case atStart => exact ⟨0, rfl, Nat.zero_le _, Lib.hid (Below.refl _ _)⟩
  case round =>
    obtain ⟨i, rfl, hil, HBW⟩ := hrel
    have k0 : wr.cell? ⟨pa, 0, none⟩ = some (.slice aa cs.length ac) := (HBW.out.cell (p := ⟨pa, 0, none⟩) hpal).trans (cells_at HXA.out 0).1
    have k1 : wr.cell? ⟨pb, 0, none⟩ = some (.slice ca cs.length cc) := (HBW.out.cell (p := ⟨pb, 0, none⟩) hpbl).trans (cells_at HXB.out 0).1
    by_cases hlt : i < cs.length
    · obtain ⟨x, hx⟩ : ∃ x, cs[i]? = some x := ⟨_, List.getElem?_eq_getElem hlt⟩
      obtain ⟨g, o, c1, hv, hg, hr⟩ := HA0.out.calls.get hx
      obtain ⟨rfl, -, rfl⟩ := slice_inj hv
      obtain ⟨g2, o2, c2, hv2, hg2, hr2⟩ := HB0.out.calls.get hx
      obtain ⟨rfl, -, rfl⟩ := slice_inj hv2
      have r1 := hr wr HBW.out
      have r2 := hr2 wr HBW.out
      have ix : ∀ W : World, (Instr.indexAt 61 (.slice (some ⟨g, o, none⟩) cs.length ac) (.int .i64 (i : Int))).run Tryz.prog W = .ok (.pointer (some ⟨g, o + i * 20, none⟩)) W := fun W => idx_called rfl hlt W
      have ix2 : ∀ W : World, (Instr.indexAt 61 (.slice (some ⟨g2, o2, none⟩) cs.length cc) (.int .i64 (i : Int))).run Tryz.prog W = .ok (.pointer (some ⟨g2, o2 + i * 20, none⟩)) W := fun W => idx_called rfl hlt W
      obtain ⟨b1, hb1⟩ : ∃ b, b = o + i * 20 := ⟨_, rfl⟩
      obtain ⟨b2, hb2⟩ : ∃ b, b = o2 + i * 20 := ⟨_, rfl⟩
      rw [← hb1] at ix r1
      rw [← hb2] at ix2 r2
      have HRR := Lib.hid (And.intro r1 r2)
      have hi6 : i ≤ 1000000 := by omega
      have qn := run_called_ne x
      clear hx hv hv2 hr hr2 hb1 hb2 r1 r2 hg hg2
      go_upto_region 4 with fail
      refine wp_region_held_drew (S := fun W => W.cell? ⟨pa, 0, none⟩ = some (.slice (some ⟨g, o, none⟩) cs.length ac) ∧ W.cell? ⟨pb, 0, none⟩ = some (.slice (some ⟨g2, o2, none⟩) cs.length cc) ∧ W.rangeAt g b1 x.list ∧ W.rangeAt g2 b2 x.list) (by kernel_rfl) ⟨k0, k1, HRR.out.1, HRR.out.2⟩ (fun hHeld => ?_)
      refine tkq (i := 0) (v := ?_) rfl (by kernel_rfl) (fun _ _ _ h => h) (by rfl) ?_ (by assumption) ?_
      rotate_left 1
      · ((intro w hSw; (try dsimp only at hSw); go_simp) <;> with_reducible rfl)
      try simp only [Act.put, tzA, tzB, tzC, tzD, tzE]
      refine tkq (i := 1) (v := ?_) rfl (by kernel_rfl) (fun _ _ _ h => h) (by rfl) ?_ (by assumption) ?_
      rotate_left 1
      · ((intro w hSw; (try dsimp only at hSw); obtain ⟨c0, c1, -, -⟩ := hSw; go_simp) <;> with_reducible rfl)
      try simp only [Act.put, tzA, tzB, tzC, tzD, tzE, tzF]
      refine tkq (i := 2) (v := ?_) rfl (by kernel_rfl) (fun _ _ _ h => h) (by rfl) ?_ (by assumption) ?_
      rotate_left 1
      · ((intro w hSw; (try dsimp only at hSw); go_simp) <;> with_reducible rfl)
      try simp only [Act.put, tzA, tzB, tzC, tzD, tzE, tzF]
      refine tkq (i := 3) (v := ?_) rfl (by kernel_rfl) (fun _ _ _ h => h) (by rfl) ?_ (by assumption) ?_
      rotate_left 1
      · ((intro w hSw; (try dsimp only at hSw); go_simp) <;> with_reducible rfl)
      try simp only [Act.put, tzA, tzB, tzC, tzD, tzE, tzF]
      refine wpAnyH_take (i := 4) rfl (by kernel_rfl) (by kernel_rfl) (by kernel_rfl) (fun _ _ _ h => h) (yieldsIf_load_mid (by rfl) 42 (.tmp 17) (by rfl) g b1 (by rfl) x.list _ (fun w hSw => hSw.2.2.1) Tryz.underlying42 rfl (by kernel_rfl)) (by assumption) ?_
      try simp only [Act.put, tzA, tzB, tzC, tzD, tzE, tzF]
      refine tkq (i := 5) (v := ?_) rfl (by kernel_rfl) (fun _ _ _ h => h) (by rfl) ?_ (by assumption) ?_
      rotate_left 1
      · ((intro w hSw; (try dsimp only at hSw); go_simp) <;> with_reducible rfl)
      try simp only [Act.put, tzA, tzB, tzC, tzD, tzE, tzF]
      refine tkq (i := 6) (v := ?_) rfl (by kernel_rfl) (fun _ _ _ h => h) (by rfl) ?_ (by assumption) ?_
      rotate_left 1
      · ((intro w hSw; (try dsimp only at hSw); obtain ⟨c0, c1, -, -⟩ := hSw; go_simp) <;> with_reducible rfl)
      try simp only [Act.put, tzA, tzB, tzC, tzD, tzE, tzF]
      refine tkq (i := 7) (v := ?_) rfl (by kernel_rfl) (fun _ _ _ h => h) (by rfl) ?_ (by assumption) ?_
      rotate_left 1
      · ((intro w hSw; (try dsimp only at hSw); go_simp) <;> with_reducible rfl)
      try simp only [Act.put, tzA, tzB, tzC, tzD, tzE, tzF]
      refine tkq (i := 8) (v := ?_) rfl (by kernel_rfl) (fun _ _ _ h => h) (by rfl) ?_ (by assumption) ?_
      rotate_left 1
      · ((intro w hSw; (try dsimp only at hSw); go_simp) <;> with_reducible rfl)
      try simp only [Act.put, tzA, tzB, tzC, tzD, tzE, tzF]
      refine wpAnyH_take (i := 9) rfl (by kernel_rfl) (by kernel_rfl) (by kernel_rfl) (fun _ _ _ h => h) (yieldsIf_load_mid (by rfl) 42 (.tmp 22) (by rfl) g2 b2 (by rfl) x.list _ (fun w hSw => hSw.2.2.2) Tryz.underlying42 rfl (by kernel_rfl)) (by assumption) ?_
      try simp only [Act.put, tzA, tzB, tzC, tzD, tzE, tzF]
      refine tkq (i := 10) (v := ?_) rfl (by kernel_rfl) (fun _ _ _ h => h) (by rfl) ?_ (by assumption) ?_
      rotate_left 1
      · ((intro w hSw; (try dsimp only at hSw); have qw := qn w; go_simp) <;> with_reducible rfl)
      try simp only [Act.put, tzA, tzB, tzC, tzD, tzE, tzF]
      refine wpAnyH_done (by kernel_rfl) ?_ _
      clear hHeld
      go_wp2_with fail
      go_roundw
      case rel => exact ⟨i + 1, by go_num, by omega, Lib.hid HBW.out.drew⟩
      case measure => simp [intOf]; omega
    · obtain rfl : i = cs.length := by omega
      obtain ⟨wo, rfl⟩ : ∃ wo : World, wo = wr := ⟨_, rfl⟩
      clear hil
      go_upto_region 7 with fail
      clear k0 hlt
      go_loopw [6] (fun s6 wr => ∃ i : Nat, s6 = .int .i64 (i : Int) ∧ i ≤ ds.length ∧ Hid (Below W0.heap.size W0 wr)) (fun s6 _ => ds.length - (intOf s6).toNat)
      case atStart => exact ⟨0, rfl, Nat.zero_le _, HBW⟩
      case round =>
        clear HBW
        obtain ⟨i, rfl, hil, HBW⟩ := hrel
        have k0 : wr.cell? ⟨pa, 1, none⟩ = some (.slice ba ds.length bc) := (HBW.out.cell (p := ⟨pa, 1, none⟩) hpal).trans (cells_at HXA.out 1).1
        have k1 : wr.cell? ⟨pb, 1, none⟩ = some (.slice da ds.length dc) := (HBW.out.cell (p := ⟨pb, 1, none⟩) hpbl).trans (cells_at HXB.out 1).1
        by_cases hlt : i < ds.length
        · obtain ⟨x, hx⟩ : ∃ x, ds[i]? = some x := ⟨_, List.getElem?_eq_getElem hlt⟩
          obtain ⟨g, o, c1, hv, hg, hr⟩ := HA0.out.drops.get hx
          obtain ⟨rfl, -, rfl⟩ := slice_inj hv
          obtain ⟨g2, o2, c2, hv2, hg2, hr2⟩ := HB0.out.drops.get hx
          obtain ⟨rfl, -, rfl⟩ := slice_inj hv2
          have r1 := hr wr HBW.out
          have r2 := hr2 wr HBW.out
          have ix : ∀ W : World, (Instr.indexAt 62 (.slice (some ⟨g, o, none⟩) ds.length bc) (.int .i64 (i : Int))).run Tryz.prog W = .ok (.pointer (some ⟨g, o + i * 7, none⟩)) W := fun W => idx_drop rfl hlt W
          have ix2 : ∀ W : World, (Instr.indexAt 62 (.slice (some ⟨g2, o2, none⟩) ds.length dc) (.int .i64 (i : Int))).run Tryz.prog W = .ok (.pointer (some ⟨g2, o2 + i * 7, none⟩)) W := fun W => idx_drop rfl hlt W
          obtain ⟨b1, hb1⟩ : ∃ b, b = o + i * 7 := ⟨_, rfl⟩
          obtain ⟨b2, hb2⟩ : ∃ b, b = o2 + i * 7 := ⟨_, rfl⟩
          rw [← hb1] at ix r1
          rw [← hb2] at ix2 r2
          have HRR := Lib.hid (And.intro r1 r2)
          have hi6 : i ≤ 1000000 := by omega
          have qn := run_drop_ne x
          clear hx hv hv2 hr hr2 hb1 hb2 r1 r2 hg hg2
          go_upto_region 9 with fail
          refine wp_region_held_drew (S := fun W => W.cell? ⟨pa, 1, none⟩ = some (.slice (some ⟨g, o, none⟩) ds.length bc) ∧ W.cell? ⟨pb, 1, none⟩ = some (.slice (some ⟨g2, o2, none⟩) ds.length dc) ∧ W.rangeAt g b1 x.list ∧ W.rangeAt g2 b2 x.list) (by kernel_rfl) ⟨k0, k1, HRR.out.1, HRR.out.2⟩ (fun hHeld => ?_)
          refine tkq (i := 0) (v := ?_) rfl (by kernel_rfl) (fun _ _ _ h => h) (by rfl) ?_ (by assumption) ?_
          rotate_left 1
          · ((intro w hSw; (try dsimp only at hSw); go_simp) <;> with_reducible rfl)
          try simp only [Act.put, tzA, tzB, tzC, tzD, tzE]
          refine tkq (i := 1) (v := ?_) rfl (by kernel_rfl) (fun _ _ _ h => h) (by rfl) ?_ (by assumption) ?_
          rotate_left 1
          · ((intro w hSw; (try dsimp only at hSw); obtain ⟨c0, c1, -, -⟩ := hSw; go_simp) <;> with_reducible rfl)
          try simp only [Act.put, tzA, tzB, tzC, tzD, tzE, tzF]
          refine tkq (i := 2) (v := ?_) rfl (by kernel_rfl) (fun _ _ _ h => h) (by rfl) ?_ (by assumption) ?_
          rotate_left 1
          · ((intro w hSw; (try dsimp only at hSw); go_simp) <;> with_reducible rfl)
          try simp only [Act.put, tzA, tzB, tzC, tzD, tzE, tzF]
          refine tkq (i := 3) (v := ?_) rfl (by kernel_rfl) (fun _ _ _ h => h) (by rfl) ?_ (by assumption) ?_
          rotate_left 1
          · ((intro w hSw; (try dsimp only at hSw); go_simp) <;> with_reducible rfl)
          try simp only [Act.put, tzA, tzB, tzC, tzD, tzE, tzF]
          refine wpAnyH_take (i := 4) rfl (by kernel_rfl) (by kernel_rfl) (by kernel_rfl) (fun _ _ _ h => h) (yieldsIf_load_mid (by rfl) 94 (.tmp 35) (by rfl) g b1 (by rfl) x.list _ (fun w hSw => hSw.2.2.1) Tryz.underlying94 rfl (by kernel_rfl)) (by assumption) ?_
          try simp only [Act.put, tzA, tzB, tzC, tzD, tzE, tzF]
          refine tkq (i := 5) (v := ?_) rfl (by kernel_rfl) (fun _ _ _ h => h) (by rfl) ?_ (by assumption) ?_
          rotate_left 1
          · ((intro w hSw; (try dsimp only at hSw); go_simp) <;> with_reducible rfl)
          try simp only [Act.put, tzA, tzB, tzC, tzD, tzE, tzF]
          refine tkq (i := 6) (v := ?_) rfl (by kernel_rfl) (fun _ _ _ h => h) (by rfl) ?_ (by assumption) ?_
          rotate_left 1
          · ((intro w hSw; (try dsimp only at hSw); obtain ⟨c0, c1, -, -⟩ := hSw; go_simp) <;> with_reducible rfl)
          try simp only [Act.put, tzA, tzB, tzC, tzD, tzE, tzF]
          refine tkq (i := 7) (v := ?_) rfl (by kernel_rfl) (fun _ _ _ h => h) (by rfl) ?_ (by assumption) ?_
          rotate_left 1
          · ((intro w hSw; (try dsimp only at hSw); go_simp) <;> with_reducible rfl)
          try simp only [Act.put, tzA, tzB, tzC, tzD, tzE, tzF]
          refine tkq (i := 8) (v := ?_) rfl (by kernel_rfl) (fun _ _ _ h => h) (by rfl) ?_ (by assumption) ?_
          rotate_left 1
          · ((intro w hSw; (try dsimp only at hSw); go_simp) <;> with_reducible rfl)
          try simp only [Act.put, tzA, tzB, tzC, tzD, tzE, tzF]
          refine wpAnyH_take (i := 9) rfl (by kernel_rfl) (by kernel_rfl) (by kernel_rfl) (fun _ _ _ h => h) (yieldsIf_load_mid (by rfl) 94 (.tmp 40) (by rfl) g2 b2 (by rfl) x.list _ (fun w hSw => hSw.2.2.2) Tryz.underlying94 rfl (by kernel_rfl)) (by assumption) ?_
          try simp only [Act.put, tzA, tzB, tzC, tzD, tzE, tzF]
          refine tkq (i := 10) (v := ?_) rfl (by kernel_rfl) (fun _ _ _ h => h) (by rfl) ?_ (by assumption) ?_
          rotate_left 1
          · ((intro w hSw; (try dsimp only at hSw); have qw := qn w; go_simp) <;> with_reducible rfl)
          try simp only [Act.put, tzA, tzB, tzC, tzD, tzE, tzF]
          refine wpAnyH_done (by kernel_rfl) ?_ _
          clear hHeld
          go_wp2_with fail
          go_roundw
          case rel => exact ⟨i + 1, by go_num, by omega, Lib.hid HBW.out.drew⟩
          case measure => simp [intOf]; omega
        · obtain rfl : i = ds.length := by omega
          go_wp2_with fail
          go_ret
          exact ⟨rfl, HL0.out.trans (HBW.out.mono HL0.out.size)⟩
end Go.Proofs.YtaooangnnlopcaaGreatDoor
