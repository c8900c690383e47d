/- The document's Gives, Fits and Drop. Condition: its map lies behind its pointer; fewer than 2^20 records. -/
import Derived.Test.YtaooangnnlopcaaGreatDoorMapsRGv
import Derived.Test.YtaooangnnlopcaaGreatDoorMapsFits
namespace Go.Proofs.YtaooangnnlopcaaGreatDoor
open Go.RowKit Go.ChangeMaps Go.MapKept
structure RGParts (w : World) (m : MapM) (c : CallD) (ep : Nat) (w' : World) (A : AnsD) (ga : Option Addr) (gn gk E I : Nat) (rf b : Bool) : Prop where
  ans : A = ansM m c ep
  is : b = isM m c ep
  low : Below w.heap.size w w'
  row : b = true → IRow w' (.slice ga gn gk) (applyM m c.key (gofM m c ep)).L
  epq : b = true → E = (applyM m c.key (gofM m c ep)).epoch
  ids : b = true → I = (applyM m c.key (gofM m c ep)).ids
  rf : rf = (b && ((gofM m c ep).stored && !(atL m.L c.key).isSome))
theorem RGOk.parts {w w' : World} {m : MapM} {c : CallD} {ep : Nat} {e : Ending} (h : RGOk w m c.key (givesM m c ep) e w') : ∃ (A : AnsD) (ga : Option Addr) (gn gk E I : Nat) (rf b : Bool), e = .returned (.tuple #[.agg #[.int .u8 A.kind, .int .u64 A.number, .string A.item.key, .string A.item.value, .int .u32 A.item.flags, .int .u64 A.item.id, .int .i64 A.item.dies, .int .i64 A.item.gen, .slice ga gn gk, .int .u64 (E : Int), .int .u64 (I : Int), .bool rf], .bool b]) ∧ RGParts w m c ep w' A ga gn gk E I rf b := by
  obtain ⟨hb, h⟩ := h
  cases hg : givesM m c ep with
  | none =>
    rw [hg] at h
    exact ⟨noAns, none, 0, 0, 0, 0, false, false, h, ⟨by unfold ansM; rw [hg], by unfold isM; rw [hg]; rfl, hb, fun h => (by cases h), fun h => (by cases h), fun h => (by cases h), rfl⟩⟩
  | some g =>
    rw [hg] at h
    obtain ⟨v', he, hr⟩ := h
    obtain ⟨ga, gk, rfl⟩ := Row.len hr
    have hgo : gofM m c ep = g := by unfold gofM; rw [hg]; rfl
    exact ⟨g.ans, ga, _, gk, _, _, _, true, he, ⟨by unfold ansM; rw [hg], by unfold isM; rw [hg]; rfl, hb, fun _ => (by rw [hgo]; exact hr), fun _ => (by rw [hgo]), fun _ => (by rw [hgo]), by rw [hgo]; rfl⟩⟩
section
variable {w : World} {r : Nat} {v : Value} {m : MapM} {c : CallD} {ep : Nat}
end
theorem IRow.below' {w w' : World} {v : Value} {L : List ItemD} (h : IRow w v L) (hb : Below w.heap.size w w') : IRow w' v L := Row.below h hb
theorem Chg.below' {M : Nat → Prop} {w w' : World} (h : Below w.heap.size w w') : Chg M w w' := Chg.of_below h

/-- The reference's map behind a store of its own. -/
theorem RMap.wrote {W W' : World} {r : Nat} {a : Option Addr} {n k : Nat} {m : MapM} (hr : IRow W (.slice a n k) m.L) (hbx : W'.heap[r]? = some (.cells #[.slice a n k, .int .u64 (m.epoch : Int), .int .u64 (m.ids : Int)] 31 (0, 0))) (hg : W.grownBy W' (some r)) (hq : Tag W r 31) : RMap W' r (.slice a n k) m :=
  ⟨hbx, Row.kept (M := fun k => k = r) hr (Chg.of_grown hg (fun i _ e => by cases e; rfl)) (fun g hgo e => by
    subst e
    exact absurd ((Row.tag hr hgo).one hq) (by decide))⟩
theorem build_noRoomR (W : World) : (Instr.build 40 #[(0, .int .u8 5)]).run Tryz.prog W = .ok (.agg #[.int .u8 5, .int .u64 0, .string ⟨#[]⟩, .string ⟨#[]⟩, .int .u32 0, .int .u64 0, .int .i64 0, .int .i64 0]) W := by kernel_rfl
def RFOk (w : World) (r : Nat) (b : Bool) (m' : MapM) (e : Ending) (w' : World) : Prop := e = .returned (.bool b) ∧ (∃ v', RMap w' r v' m') ∧ Chg (fun k => k = r) w w'
section
variable {w : World} {r : Nat} {v : Value} {m : MapM} {x : CalledD}
set_option maxRecDepth 100000 in
set_option maxHeartbeats 8000000 in
theorem rFits_any (h : RMap w r v m) (hfew : m.L.length ≤ 1000000) (hme : m.epoch < 18446744073709551616) (he : x.epoch < 18446744073709551616) (hk : x.call.key.size ≤ maxLen) (hx : -9223372036854775808 ≤ x.call.exp ∧ x.call.exp ≤ 9223372036854775807) (hby : 0 ≤ x.call.by' ∧ x.call.by' ≤ 18446744073709551615) (hid : m.ids < 18446744073709551615) (hval : ∀ y ∈ m.L, y.value.size ≤ maxLen) : Calls Tryz.prog 15 #[.pointer (some ⟨r, 0, none⟩), .agg #[.int .i64 x.thread, .int .u8 x.call.verb, .string x.call.key, .string x.call.value, .int .u32 x.call.flags, .int .i64 x.call.exp, .int .u64 x.call.id, .int .u64 x.call.by', .int .i64 x.from', .int .i64 x.till, .int .u8 x.ans.kind, .int .u64 x.ans.number, .string x.ans.item.key, .string x.ans.item.value, .int .u32 x.ans.item.flags, .int .u64 x.ans.item.id, .int .i64 x.ans.item.dies, .int .i64 x.ans.item.gen, .int .u64 (x.epoch : Int), .int .i64 x.point]] w (RFOk w r (fitsM m x.call x.epoch x.ans).1 (fitsM m x.call x.epoch x.ans).2) := by
  have HGV := Lib.hid (fun W (hb : Below w.heap.size w W) => rGivesM_any (VB := x.call.verb) (KY := x.call.key) (V := x.call.value) (F := x.call.flags) (X := x.call.exp) (ID := x.call.id) (BY := x.call.by') (h.below hb) hfew hme he hk hx hby hid hval)
  have HM := Lib.hid (fun W (hb : Below w.heap.size w W) => h.below hb)
  have HLT := Lib.hid h.lt
  clear h hfew hme he hk hx hby hid hval
  go_enter Tryz.func15, Tryz.ntmps15
  go_upto_region 1 with fail
  obtain ⟨W0, hW0⟩ : ∃ Y, Y = w.alloc (.cells #[.int .i64 x.thread, .int .u8 x.call.verb, .string x.call.key, .string x.call.value, .int .u32 x.call.flags, .int .i64 x.call.exp, .int .u64 x.call.id, .int .u64 x.call.by', .int .i64 x.from', .int .i64 x.till, .int .u8 x.ans.kind, .int .u64 x.ans.number, .string x.ans.item.key, .string x.ans.item.value, .int .u32 x.ans.item.flags, .int .u64 x.ans.item.id, .int .i64 x.ans.item.dies, .int .i64 x.ans.item.gen, .int .u64 (x.epoch : Int), .int .i64 x.point] 52) := ⟨_, rfl⟩
  have hb0 : Below w.heap.size w W0 := by rw [hW0]; exact (Below.refl _ _).alloc (Nat.le_refl _) _
  have hx0 : W0.heap[w.heap.size]? = some (.cells #[.int .i64 x.thread, .int .u8 x.call.verb, .string x.call.key, .string x.call.value, .int .u32 x.call.flags, .int .i64 x.call.exp, .int .u64 x.call.id, .int .u64 x.call.by', .int .i64 x.from', .int .i64 x.till, .int .u8 x.ans.kind, .int .u64 x.ans.number, .string x.ans.item.key, .string x.ans.item.value, .int .u32 x.ans.item.flags, .int .u64 x.ans.item.id, .int .i64 x.ans.item.dies, .int .i64 x.ans.item.gen, .int .u64 (x.epoch : Int), .int .i64 x.point] 52 (0, 0)) := by rw [hW0, heap_at, if_pos rfl]
  rw [← hW0]
  have HB0 := Lib.hid hb0
  have HX0 := Lib.hid hx0
  clear hW0 hb0 hx0
  have x1 : W0.cell? ⟨w.heap.size, 1, none⟩ = some (.int .u8 x.call.verb) := (cells_at HX0.out 1).1
  have x2 : W0.cell? ⟨w.heap.size, 2, none⟩ = some (.string x.call.key) := (cells_at HX0.out 2).1
  have x3 : W0.cell? ⟨w.heap.size, 3, none⟩ = some (.string x.call.value) := (cells_at HX0.out 3).1
  have x4 : W0.cell? ⟨w.heap.size, 4, none⟩ = some (.int .u32 x.call.flags) := (cells_at HX0.out 4).1
  have x5 : W0.cell? ⟨w.heap.size, 5, none⟩ = some (.int .i64 x.call.exp) := (cells_at HX0.out 5).1
  have x6 : W0.cell? ⟨w.heap.size, 6, none⟩ = some (.int .u64 x.call.id) := (cells_at HX0.out 6).1
  have x7 : W0.cell? ⟨w.heap.size, 7, none⟩ = some (.int .u64 x.call.by') := (cells_at HX0.out 7).1
  have x18 : W0.cell? ⟨w.heap.size, 18, none⟩ = some (.int .u64 (x.epoch : Int)) := (cells_at HX0.out 18).1
  go_wp2_with fail
  refine (HGV.out W0 HB0.out).mono ?_
  intro e w1 hg
  obtain ⟨A, ga, gn, gk, E, I, rf, b, rfl, hp⟩ := RGOk.parts (c := x.call) hg
  have HP := Lib.hid hp
  have HB1 := Lib.hid (HB0.out.trans (hp.low.mono HB0.out.size))
  have HX1 := Lib.hid ((hp.low.block w.heap.size (Array.getElem?_eq_some_iff.1 HX0.out).1).trans HX0.out)
  clear hg hp x1 x2 x3 x4 x5 x6 x7 x18 HGV HX0
  go_upto_region 2 with (first | ((with_reducible show wpList _ _ _ (⟨none, Op.store _ _ _, _, _, _, _⟩ :: _) _ _); refine wpList_store_whole (by rfl) 88 (.tmp 5) (.tmp 14) (by rfl) w1.heap.size (by rfl) #[.int .u8 A.kind, .int .u64 A.number, .string A.item.key, .string A.item.value, .int .u32 A.item.flags, .int .u64 A.item.id, .int .i64 A.item.dies, .int .i64 A.item.gen, .slice ga gn gk, .int .u64 (E : Int), .int .u64 (I : Int), .bool rf] (by rfl) _ 88 (heap_alloc_new _ _) (by rfl) (by kernel_rfl) (by simp [Value.oneCell']) ?_; intro w2 hr2 hg2 hs2; have HRI := Lib.hid hr2; have HGI := Lib.hid hg2; clear hr2 hg2 hs2) | fail)
  have hb2 : Below w1.heap.size w1 w2 := grown_below ((Below.refl _ _).alloc (Nat.le_refl _) _) (by rw [size_at]; omega) HGI.out (fun k hk => by cases hk; exact Nat.le_refl _)
  have HB2 := Lib.hid (HB1.out.trans (hb2.mono HB1.out.size))
  have HX2 := Lib.hid ((hb2.block w.heap.size (Array.getElem?_eq_some_iff.1 HX1.out).1).trans HX1.out)
  have HRW := Lib.hid (fun (hbt : b = true) => IRow.below' (HP.out.row hbt) hb2)
  obtain ⟨q, hq⟩ : ∃ q, q = w1.heap.size := ⟨_, rfl⟩
  rw [← hq] at HRI ⊢
  clear hb2 hq HGI HB1 HX1 HB0
  have HREF := Lib.hid (HM.out w2 HB2.out)
  cases hbb : b
  · have hno := fits_not (a := x.ans) (.inl (HP.out.is.symm.trans hbb)) (fun hh => by have h1 := HP.out.is.symm.trans hbb; rw [hh.1] at h1; cases h1)
    have HNO := Lib.hid hno
    clear hno
    subst hbb
    go_wp2_with fail
    go_ret
    exact ⟨by rw [HNO.out]; rfl, by rw [HNO.out]; exact ⟨v, HREF.out⟩, Chg.below' HB2.out⟩
  · subst hbb
    have HRW2 := Lib.hid (HRW.out rfl)
    clear HRW
    have hio : isM m x.call x.epoch = true := HP.out.is.symm
    have hao : A = (gofM m x.call x.epoch).ans := HP.out.ans.trans (ansM_eq _ _ _)
    have hrf : rf = ((gofM m x.call x.epoch).stored && !(atL m.L x.call.key).isSome) := by have := HP.out.rf; rw [Bool.true_and] at this; exact this
    have HIO := Lib.hid hio
    have HAO := Lib.hid hao
    have HRF := Lib.hid hrf
    clear hio hao hrf
    have x10 : w2.cell? ⟨w.heap.size, 10, none⟩ = some (.int .u8 x.ans.kind) := (cells_at HX2.out 10).1
    have x11 : w2.cell? ⟨w.heap.size, 11, none⟩ = some (.int .u64 x.ans.number) := (cells_at HX2.out 11).1
    have x12 : w2.cell? ⟨w.heap.size, 12, none⟩ = some (.string x.ans.item.key) := (cells_at HX2.out 12).1
    have x13 : w2.cell? ⟨w.heap.size, 13, none⟩ = some (.string x.ans.item.value) := (cells_at HX2.out 13).1
    have x14 : w2.cell? ⟨w.heap.size, 14, none⟩ = some (.int .u32 x.ans.item.flags) := (cells_at HX2.out 14).1
    have x15 : w2.cell? ⟨w.heap.size, 15, none⟩ = some (.int .u64 x.ans.item.id) := (cells_at HX2.out 15).1
    have x16 : w2.cell? ⟨w.heap.size, 16, none⟩ = some (.int .i64 x.ans.item.dies) := (cells_at HX2.out 16).1
    have x17 : w2.cell? ⟨w.heap.size, 17, none⟩ = some (.int .i64 x.ans.item.gen) := (cells_at HX2.out 17).1
    have g0 : w2.cell? ⟨q, 0, none⟩ = some (.int .u8 A.kind) := (cells_at HRI.out 0).1
    have g1 : w2.cell? ⟨q, 1, none⟩ = some (.int .u64 A.number) := (cells_at HRI.out 1).1
    have g2 : w2.cell? ⟨q, 2, none⟩ = some (.string A.item.key) := (cells_at HRI.out 2).1
    have g3 : w2.cell? ⟨q, 3, none⟩ = some (.string A.item.value) := (cells_at HRI.out 3).1
    have g4 : w2.cell? ⟨q, 4, none⟩ = some (.int .u32 A.item.flags) := (cells_at HRI.out 4).1
    have g5 : w2.cell? ⟨q, 5, none⟩ = some (.int .u64 A.item.id) := (cells_at HRI.out 5).1
    have g6 : w2.cell? ⟨q, 6, none⟩ = some (.int .i64 A.item.dies) := (cells_at HRI.out 6).1
    have g7 : w2.cell? ⟨q, 7, none⟩ = some (.int .i64 A.item.gen) := (cells_at HRI.out 7).1
    have qe : ∀ W : World, (binOp .eql 40 (.agg #[.int .u8 x.ans.kind, .int .u64 x.ans.number, .string x.ans.item.key, .string x.ans.item.value, .int .u32 x.ans.item.flags, .int .u64 x.ans.item.id, .int .i64 x.ans.item.dies, .int .i64 x.ans.item.gen]) (.agg #[.int .u8 A.kind, .int .u64 A.number, .string A.item.key, .string A.item.value, .int .u32 A.item.flags, .int .u64 A.item.id, .int .i64 A.item.dies, .int .i64 A.item.gen])).run Tryz.prog W = .ok (.bool (decide (x.ans = A))) W := run_ans_eq x.ans A
    by_cases hea : x.ans = A
    · rw [decide_eq_true hea] at qe
      have hyes := fits_yes (m := m) (a := x.ans) HIO.out (hea.trans HAO.out)
      have HYES := Lib.hid hyes
      have HEA := Lib.hid hea
      clear hyes hea
      have g8 : w2.cell? ⟨q, 8, none⟩ = some (.slice ga gn gk) := (cells_at HRI.out 8).1
      have g9 : w2.cell? ⟨q, 9, none⟩ = some (.int .u64 (E : Int)) := (cells_at HRI.out 9).1
      have g10 : w2.cell? ⟨q, 10, none⟩ = some (.int .u64 (I : Int)) := (cells_at HRI.out 10).1
      have HE1 := Lib.hid (HP.out.epq rfl)
      have HI1 := Lib.hid (HP.out.ids rfl)
      have hbx := HREF.out.box
      go_upto_region 5 with fail
      go_upto_region 6 with (first | ((with_reducible show wpList _ _ _ (⟨none, Op.store _ _ _, _, _, _, _⟩ :: _) _ _); refine wpList_store_whole (by rfl) 31 (.tmp 26) (.tmp 25) (by rfl) r (by rfl) #[.slice ga gn gk, .int .u64 (E : Int), .int .u64 (I : Int)] (by rfl) _ 31 hbx (by rfl) (by kernel_rfl) (by simp [Value.oneCell']) ?_; intro w3 hr3 hg3 hs3; have HR3 := Lib.hid hr3; have HG3 := Lib.hid hg3; clear hr3 hg3 hs3) | fail)
      have HT := Lib.hid (Tag.of hbx)
      clear hbx
      go_wp2_with fail
      go_ret
      refine ⟨by rw [HYES.out]; rfl, by rw [HYES.out]; exact ⟨_, RMap.wrote (m := applyM m x.call.key (gofM m x.call x.epoch)) HRW2.out (by have h := HR3.out; rw [HE1.out, HI1.out] at h; exact h) HG3.out HT.out⟩, ?_⟩
      exact (Chg.below' HB2.out).then (Chg.of_grown (M := fun k => k = r) HG3.out (fun i _ e => by cases e; rfl)) (fun i _ e => e)
    · rw [decide_eq_false hea] at qe
      have HEA := Lib.hid (show ¬ x.ans = (gofM m x.call x.epoch).ans from fun e => hea (e.trans HAO.out.symm))
      clear hea
      have g11 : w2.cell? ⟨q, 11, none⟩ = some (.bool rf) := (cells_at HRI.out 11).1
      have qn : ∀ W : World, (binOp .eql 40 (.agg #[.int .u8 x.ans.kind, .int .u64 x.ans.number, .string x.ans.item.key, .string x.ans.item.value, .int .u32 x.ans.item.flags, .int .u64 x.ans.item.id, .int .i64 x.ans.item.dies, .int .i64 x.ans.item.gen]) (.agg #[.int .u8 5, .int .u64 0, .string ⟨#[]⟩, .string ⟨#[]⟩, .int .u32 0, .int .u64 0, .int .i64 0, .int .i64 0])).run Tryz.prog W = .ok (.bool (decide (x.ans = noRoom))) W := run_ans_eq x.ans noRoom
      have qb := build_noRoomR
      have hss : (gofM m x.call x.epoch).stored = true → hsM m x.call x.epoch = (atL m.L x.call.key).isSome := fun _ => by unfold hsM; rw [HIO.out, Bool.true_and]
      have HSS := Lib.hid hss
      clear hss
      cases hrr : rf
      · have hno := fits_not (m := m) (c := x.call) (ep := x.epoch) (a := x.ans) (.inr HEA.out) (fun hh => by
          have h1 := HRF.out
          rw [hrr, hh.2.1, Bool.true_and] at h1
          have h2 := HSS.out hh.2.1
          rw [hh.2.2.1] at h2
          rw [← h2] at h1
          cases h1)
        have HNO := Lib.hid hno
        clear hno
        subst hrr
        go_wp2_with fail
        go_ret
        exact ⟨by rw [HNO.out]; rfl, by rw [HNO.out]; exact ⟨v, HREF.out⟩, Chg.below' HB2.out⟩
      · subst hrr
        by_cases hnr : x.ans = noRoom
        · rw [decide_eq_true hnr] at qn
          have hst : (gofM m x.call x.epoch).stored = true := by have h1 := HRF.out; revert h1; cases (gofM m x.call x.epoch).stored <;> simp
          have hre := fits_refused (m := m) (c := x.call) (ep := x.epoch) (a := x.ans) HIO.out hst (by rw [HSS.out hst]; have h1 := HRF.out; rw [hst, Bool.true_and] at h1; revert h1; cases (atL m.L x.call.key).isSome <;> simp) hnr
          have HRE := Lib.hid hre
          clear hre hst hnr
          have x18 : w2.cell? ⟨w.heap.size, 18, none⟩ = some (.int .u64 (x.epoch : Int)) := (cells_at HX2.out 18).1
          have b1 : w2.cell? ⟨r, 1, none⟩ = some (.int .u64 (m.epoch : Int)) := (cells_at HREF.out.box 1).1
          have f1 : w2.frozen? ⟨r, 1, none⟩ = false := (cells_at HREF.out.box 1).2
          go_wp2_with fail
          go_ret
          refine ⟨by rw [HRE.out]; rfl, ?_, ?_⟩
          · rw [HRE.out]
            refine ⟨v, Go.Joins.block_setCell HREF.out.box _, Row.kept (M := fun k => k = r) HREF.out.row (Chg.set (M := fun k => k = r) (Chg.refl _ _) (fun _ => rfl) _) (fun g hgo e => by
              subst e
              exact absurd ((Row.tag HREF.out.row hgo).one (Tag.of HREF.out.box)) (by decide))⟩
          · exact (Chg.below' HB2.out).then (M' := fun k => k = r) (Chg.set (M := fun k => k = r) (Chg.refl _ _) (fun _ => rfl) _) (fun i _ e => e)
        · rw [decide_eq_false hnr] at qn
          have hno := fits_not (m := m) (c := x.call) (ep := x.epoch) (a := x.ans) (.inr HEA.out) (fun hh => hnr hh.2.2.2)
          have HNO := Lib.hid hno
          clear hno hnr
          go_wp2_with fail
          go_ret
          exact ⟨by rw [HNO.out]; rfl, by rw [HNO.out]; exact ⟨v, HREF.out⟩, Chg.below' HB2.out⟩
end
end Go.Proofs.YtaooangnnlopcaaGreatDoor
