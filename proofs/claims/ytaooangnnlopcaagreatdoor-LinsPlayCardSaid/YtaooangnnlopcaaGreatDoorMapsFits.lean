/- Whether a call may have been answered so, and what becomes of the map (maps.Fits). Condition: the map lies behind its pointer; the library's tables lie as they are laid. -/
import Derived.Test.YtaooangnnlopcaaGreatDoorMapsDoes
import Derived.Test.YtaooangnnlopcaaGreatDoorLowA
namespace Go.Proofs.YtaooangnnlopcaaGreatDoor
open Go.RowKit Go.ChangeMaps Go.MapKept
/-- A call that is over. -/
structure CalledD where
  thread : Int
  call : CallD
  from' : Int
  till : Int
  ans : AnsD
  epoch : Nat
  point : Int
abbrev CalledD.cells (x : CalledD) : Array Value := #[.int .i64 x.thread, .int .u8 x.call.verb, .string x.call.key, .string x.call.value, .int .u32 x.call.flags, .int .i64 x.call.exp, .int .u64 x.call.id, .int .u64 x.call.by', .int .i64 x.from', .int .i64 x.till, .int .u8 x.ans.kind, .int .u64 x.ans.number, .string x.ans.item.key, .string x.ans.item.value, .int .u32 x.ans.item.flags, .int .u64 x.ans.item.id, .int .i64 x.ans.item.dies, .int .i64 x.ans.item.gen, .int .u64 (x.epoch : Int), .int .i64 x.point]
abbrev CalledD.val (x : CalledD) : Value := .agg x.cells
/-- What is given of a verb's function. -/
theorem givesV_facts {c : CallD} {ep next : Nat} {was : ItemD} {there : Bool} {g : GivD} (h : givesV c ep next was there = some g) :
    (g.stored = true → g.ans.kind = 1) ∧ (g.put = true → g.isx.key = c.key ∨ (there = true ∧ g.isx.key = was.key)) ∧ (g.gone = true → g.put = false ∧ there = true) := by
  unfold givesV at h
  repeat' split at h
  all_goals (try cases h)
  all_goals (try (simp [saysG, storesG, goneG, touchG]; done))
  all_goals (try (first | unfold casG | unfold countG | unfold flushG))
  all_goals (repeat' split)
  all_goals (try (simp [saysG, storesG, hitG, goneG, touchG, numberG]; done))
  all_goals (try simp_all [goneG, touchG, numberG])
theorem gives_facts {m : MapM} {c : CallD} {ep : Nat} {g : GivD} (h : givesM m c ep = some g) :
    (g.stored = true → g.ans.kind = 1) ∧ (g.put = true → g.isx.key = c.key) ∧ (g.gone = true → g.put = false) := by
  unfold givesM at h
  split at h
  · obtain ⟨h1, h2, h3⟩ := givesV_facts h
    refine ⟨h1, fun hp => ?_, fun hg => (h3 hg).1⟩
    rcases h2 hp with e | ⟨ht, e⟩
    · exact e
    · unfold thereL at ht
      rw [Bool.and_eq_true] at ht
      obtain ⟨y, hy⟩ := Option.isSome_iff_exists.1 ht.1
      rw [e]
      unfold wasL
      rw [hy]
      have := List.find?_some hy
      exact beq_iff_eq.1 this
  · cases h
section
variable {m : MapM} {c : CallD} {ep : Nat} {a : AnsD}
theorem fits_refused (h1 : isM m c ep = true) (h2 : (gofM m c ep).stored = true) (h3 : hsM m c ep = false) (h4 : a = noRoom) : fitsM m c ep a = (true, { m with epoch := ep }) := by
  unfold isM at h1
  obtain ⟨g, hg⟩ := Option.isSome_iff_exists.1 h1
  have hgo : gofM m c ep = g := by unfold gofM; rw [hg]; rfl
  rw [hgo] at h2
  have hk := (gives_facts hg).1 h2
  have hs : (atL m.L c.key).isNone = true := by
    unfold hsM isM at h3
    rw [h1, Bool.true_and] at h3
    cases hh : atL m.L c.key
    · rfl
    · rw [hh] at h3; cases h3
  unfold fitsM
  rw [hg]
  show (if a = g.ans then _ else _) = _
  rw [if_neg, if_pos ⟨h2, hs, h4⟩]
  intro e
  rw [← e, h4] at hk
  exact absurd hk (by decide)
theorem fits_not (h : isM m c ep = false ∨ ¬ a = (gofM m c ep).ans) (hr : ¬ (isM m c ep = true ∧ (gofM m c ep).stored = true ∧ hsM m c ep = false ∧ a = noRoom)) : fitsM m c ep a = (false, m) := by
  unfold fitsM
  cases hg : givesM m c ep with
  | none => rfl
  | some g =>
    have hgo : gofM m c ep = g := by unfold gofM; rw [hg]; rfl
    have hi : isM m c ep = true := by unfold isM; rw [hg]; rfl
    rw [hgo, hi] at h hr
    show (if a = g.ans then _ else _) = _
    rw [if_neg (h.resolve_left (by simp)), if_neg]
    rintro ⟨h1, h2, h3⟩
    refine hr ⟨rfl, h1, ?_, h3⟩
    unfold hsM
    cases hh : atL m.L c.key
    · simp
    · rw [hh] at h2; cases h2
theorem fits_yes (h1 : isM m c ep = true) (h2 : a = (gofM m c ep).ans) : fitsM m c ep a = (true, applyM m c.key (gofM m c ep)) := by
  unfold isM at h1
  obtain ⟨g, hg⟩ := Option.isSome_iff_exists.1 h1
  have hgo : gofM m c ep = g := by unfold gofM; rw [hg]; rfl
  rw [hgo] at h2 ⊢
  unfold fitsM
  rw [hg]
  show (if a = g.ans then _ else _) = _
  rw [if_pos h2]
end
/-- Where Fits stands: the map, the call's box, what was given. -/
structure FtAt (w W : World) (p : Nat) (m : MapM) (x : CalledD) (q : Nat) (g : GivD) : Prop where
  map : MapAt W p m
  box : W.heap[w.heap.size]? = some (.cells x.cells 42 (0, 0))
  own : W.heap[q]? = some (.cells #[.int .u8 g.ans.kind, .int .u64 g.ans.number, .string g.ans.item.key, .string g.ans.item.value, .int .u32 g.ans.item.flags, .int .u64 g.ans.item.id, .int .i64 g.ans.item.dies, .int .i64 g.ans.item.gen, .string g.isx.key, .string g.isx.value, .int .u32 g.isx.flags, .int .u64 g.isx.id, .int .i64 g.isx.dies, .int .i64 g.isx.gen, .bool g.put, .bool g.gone, .bool g.drawn, .bool g.stored, .int .u64 (g.epoch : Int)] 84 (0, 0))
  chg : MChg w p W
  low : p < w.heap.size
  far : w.heap.size < q
theorem FtAt.mm {w W W' : World} {p : Nat} {m m' : MapM} {x : CalledD} {q : Nat} {g : GivD} (h : FtAt w W p m x q g) (hc : MChg W p W') (hm : MapAt W' p m') : FtAt w W' p m' x q g := by
  have h1 := h.low; have h2 := h.far
  refine ⟨hm, hc.chg.obj h.box (fun hk => ?_), hc.chg.obj h.own (fun hk => ?_), h.chg.then hc, h.low, h.far⟩
  · rcases MM.kind h.map hk with e | ⟨es, clock, e⟩
    · omega
    · rw [h.box] at e; cases e
  · rcases MM.kind h.map hk with e | ⟨es, clock, e⟩
    · omega
    · rw [h.own] at e; cases e
theorem FtAt.drew {w W : World} {p : Nat} {m : MapM} {x : CalledD} {q : Nat} {g : GivD} (h : FtAt w W p m x q g) : FtAt w W.drew p m x q g := ⟨h.map, h.box, h.own, h.chg.drew, h.low, h.far⟩
theorem build_noRoom (W : World) : (Instr.build 40 #[(0, .int .u8 5)]).run Tryz.prog W = .ok (.agg #[.int .u8 5, .int .u64 0, .string ⟨#[]⟩, .string ⟨#[]⟩, .int .u32 0, .int .u64 0, .int .i64 0, .int .i64 0]) W := by kernel_rfl
section
variable {w : World} {p : Nat} {m : MapM} {x : CalledD}
set_option maxRecDepth 100000 in
set_option maxHeartbeats 8000000 in
theorem mapsFits_any (h : MapAt w p m) (hme : m.epoch < 18446744073709551616) (he : x.epoch < 18446744073709551616) (hkl : x.call.key.size ≤ maxLen) (hv0 : 0 ≤ x.call.verb ∧ x.call.verb ≤ 255) (hx : -9223372036854775808 ≤ x.call.exp ∧ x.call.exp ≤ 9223372036854775807) (hby : 0 ≤ x.call.by' ∧ x.call.by' ≤ 18446744073709551615) (hid : m.ids < 18446744073709551615) (hE : HasErr w) (hP : HasPow w) : Calls Tryz.prog 14 #[.pointer (some ⟨p, 0, none⟩), x.val] w fun e w' => e = .returned (.bool (fitsM m x.call x.epoch x.ans).1) ∧ MapAt w' p (fitsM m x.call x.epoch x.ans).2 ∧ MChg w p w' := by
  have HGV := Lib.hid (fun W (hW : Below w.heap.size w W) => (show Calls Tryz.prog 35 #[.pointer (some ⟨p, 0, none⟩), .agg #[.int .u8 x.call.verb, .string x.call.key, .string x.call.value, .int .u32 x.call.flags, .int .i64 x.call.exp, .int .u64 x.call.id, .int .u64 x.call.by'], .int .u64 (x.epoch : Int)] W fun e w' => e = .returned (.tuple #[.agg (givCells (gofM m x.call x.epoch)), .bool (hsM m x.call x.epoch), .bool (isM m x.call x.epoch)]) ∧ Below W.heap.size W w' from by rw [← givesR_eq]; exact gives_any (h.below hW) hme he hkl hv0 hx hby hid (hE.below hW) (hP.below hW)))
  obtain ⟨g, hg⟩ : ∃ g, g = gofM m x.call x.epoch := ⟨_, rfl⟩
  obtain ⟨hs, hhs⟩ : ∃ b, b = hsM m x.call x.epoch := ⟨_, rfl⟩
  obtain ⟨is, his⟩ : ∃ b, b = isM m x.call x.epoch := ⟨_, rfl⟩
  have HR := Lib.hid (fun (h1 : is = true) (h2 : g.stored = true) (h3 : hs = false) (h4 : x.ans = noRoom) => fits_refused (m := m) (c := x.call) (ep := x.epoch) (his ▸ h1) (by rw [← hg]; exact h2) (hhs ▸ h3) h4)
  have HN := Lib.hid (fun (h1 : is = false ∨ ¬ x.ans = g.ans) (h2 : ¬ (is = true ∧ g.stored = true ∧ hs = false ∧ x.ans = noRoom)) => fits_not (m := m) (c := x.call) (ep := x.epoch) (a := x.ans) (by rw [← his, ← hg]; exact h1) (by rw [← his, ← hg, ← hhs]; exact h2))
  have HY := Lib.hid (fun (h1 : is = true) (h2 : x.ans = g.ans) => (show fitsM m x.call x.epoch x.ans = (true, applyM m x.call.key g) from by rw [hg]; exact fits_yes (his ▸ h1) (by rw [← hg]; exact h2)))
  have HFA := Lib.hid (fun (h1 : is = true) => (show (g.put = true → g.isx.key = x.call.key) ∧ (g.gone = true → g.put = false) from by
    rw [his] at h1
    unfold isM at h1
    obtain ⟨g', hg'⟩ := Option.isSome_iff_exists.1 h1
    have : g = g' := by rw [hg]; unfold gofM; rw [hg']; rfl
    rw [this]
    exact (gives_facts hg').2))
  rw [← hg, ← hhs, ← his] at HGV
  have HM := Lib.hid h
  have HKL := Lib.hid hkl
  have hp := h.lt
  have hwr : IntKind.u64.wrap ((m.ids : Int) + 1) = ((m.ids + 1 : Nat) : Int) := by rw [IntKind.wrap_u64]; omega
  have HWR := Lib.hid hwr
  clear hwr hg hhs his h hme he hkl hv0 hx hby hid hE hP
  obtain ⟨W0, hW0⟩ : ∃ X, X = w.alloc (.cells #[.int .i64 x.thread, .int .u8 x.call.verb, .string x.call.key, .string x.call.value, .int .u32 x.call.flags, .int .i64 x.call.exp, .int .u64 x.call.id, .int .u64 x.call.by', .int .i64 x.from', .int .i64 x.till, .int .u8 x.ans.kind, .int .u64 x.ans.number, .string x.ans.item.key, .string x.ans.item.value, .int .u32 x.ans.item.flags, .int .u64 x.ans.item.id, .int .i64 x.ans.item.dies, .int .i64 x.ans.item.gen, .int .u64 (x.epoch : Int), .int .i64 x.point] 42) := ⟨_, rfl⟩
  have hb0 : Below w.heap.size w W0 := by rw [hW0]; exact (Below.refl _ _).alloc (Nat.le_refl _) _
  have hx0 : W0.heap[w.heap.size]? = some (.cells #[.int .i64 x.thread, .int .u8 x.call.verb, .string x.call.key, .string x.call.value, .int .u32 x.call.flags, .int .i64 x.call.exp, .int .u64 x.call.id, .int .u64 x.call.by', .int .i64 x.from', .int .i64 x.till, .int .u8 x.ans.kind, .int .u64 x.ans.number, .string x.ans.item.key, .string x.ans.item.value, .int .u32 x.ans.item.flags, .int .u64 x.ans.item.id, .int .i64 x.ans.item.dies, .int .i64 x.ans.item.gen, .int .u64 (x.epoch : Int), .int .i64 x.point] 42 (0, 0)) := by rw [hW0, heap_at, if_pos rfl]
  go_enter Tryz.func14, Tryz.ntmps14
  go_upto_region 1 with fail
  rw [← hW0]
  clear hW0
  have k1 : W0.cell? ⟨w.heap.size, 1, none⟩ = some (.int .u8 x.call.verb) := (cells_at hx0 1).1
  have k2 : W0.cell? ⟨w.heap.size, 2, none⟩ = some (.string x.call.key) := (cells_at hx0 2).1
  have k3 : W0.cell? ⟨w.heap.size, 3, none⟩ = some (.string x.call.value) := (cells_at hx0 3).1
  have k4 : W0.cell? ⟨w.heap.size, 4, none⟩ = some (.int .u32 x.call.flags) := (cells_at hx0 4).1
  have k5 : W0.cell? ⟨w.heap.size, 5, none⟩ = some (.int .i64 x.call.exp) := (cells_at hx0 5).1
  have k6 : W0.cell? ⟨w.heap.size, 6, none⟩ = some (.int .u64 x.call.id) := (cells_at hx0 6).1
  have k7 : W0.cell? ⟨w.heap.size, 7, none⟩ = some (.int .u64 x.call.by') := (cells_at hx0 7).1
  have k18 : W0.cell? ⟨w.heap.size, 18, none⟩ = some (.int .u64 (x.epoch : Int)) := (cells_at hx0 18).1
  have HB0 := Lib.hid hb0
  have HX0 := Lib.hid hx0
  clear hb0 hx0
  go_wp2_with fail
  refine (HGV.out _ HB0.out).mono ?_
  rintro e w1 ⟨rfl, hb1⟩
  have hlt : w.heap.size < W0.heap.size := (Array.getElem?_eq_some_iff.1 HX0.out).1
  have HX1 := Lib.hid ((hb1.block _ hlt).trans HX0.out)
  have HB1 := Lib.hid (HB0.out.trans (hb1.mono HB0.out.size))
  have HL1 := Lib.hid (Nat.lt_of_lt_of_le hlt hb1.size)
  clear hb1 hlt HX0 HGV
  clear k1 k2 k3 k4 k5 k6 k7 k18
  go_upto_region 2 with (first | (((with_reducible show wpList _ _ _ (⟨none, Op.store 84 _ _, _, _, _, _⟩ :: _) _ _); refine wpList_store_whole (by rfl) 84 (.tmp 5) (.tmp 16) (by rfl) w1.heap.size (by rfl) #[.int .u8 g.ans.kind, .int .u64 g.ans.number, .string g.ans.item.key, .string g.ans.item.value, .int .u32 g.ans.item.flags, .int .u64 g.ans.item.id, .int .i64 g.ans.item.dies, .int .i64 g.ans.item.gen, .string g.isx.key, .string g.isx.value, .int .u32 g.isx.flags, .int .u64 g.isx.id, .int .i64 g.isx.dies, .int .i64 g.isx.gen, .bool g.put, .bool g.gone, .bool g.drawn, .bool g.stored, .int .u64 (g.epoch : Int)] (by rfl) _ 84 (heap_alloc_new _ _) (by rfl) (by kernel_rfl) (by simp [Value.oneCell']) ?_; intro w2 hr2 hg2 hs2); have HG2 := Lib.hid hg2; have HR2 := Lib.hid hr2; clear hg2 hr2 hs2) | fail)
  have HB2 := Lib.hid (grown_below (HB1.out.alloc HB1.out.size _) (by rw [size_at]; have := HB1.out.size; omega) HG2.out (fun k hk => by cases hk; exact HB1.out.size))
  have hx2 := (HG2.out.block w.heap.size (by rw [size_at]; have := HL1.out; omega) (by have := HL1.out; simp; omega)).trans ((show (w1.alloc _).heap[w.heap.size]? = w1.heap[w.heap.size]? from by rw [heap_at, if_neg (by have := HL1.out; omega)]).trans HX1.out)
  have HF := Lib.hid (show FtAt w w2 p m x w1.heap.size g from ⟨HM.out.below HB2.out, hx2, HR2.out, MChg.below HB2.out hp, hp, HL1.out⟩)
  obtain ⟨q, hq⟩ : ∃ q, q = w1.heap.size := ⟨_, rfl⟩
  rw [← hq] at HF ⊢
  clear hx2 HG2 HR2 HB2 HX1 HL1 hq
  have qe : ∀ W : World, (binOp .eql 40 (.agg #[.int .u8 x.ans.kind, .int .u64 x.ans.number, .string x.ans.item.key, .string x.ans.item.value, .int .u32 x.ans.item.flags, .int .u64 x.ans.item.id, .int .i64 x.ans.item.dies, .int .i64 x.ans.item.gen]) (.agg #[.int .u8 5, .int .u64 0, .string ⟨#[]⟩, .string ⟨#[]⟩, .int .u32 0, .int .u64 0, .int .i64 0, .int .i64 0])).run Tryz.prog W = .ok (.bool (decide (x.ans = noRoom))) W := run_ans_eq x.ans noRoom
  have qb := build_noRoom
  go_cut [6, 7, 8] (fun s6 s7 s8 wx => s6 = .bool hs ∧ s7 = .bool is ∧ s8 = .bool (is && g.stored && !hs && decide (x.ans = noRoom)) ∧ wx = w2)
  case first =>
    cases h1 : is
    · go_wp2_with fail
      go_meet
      case rel => exact ⟨by first | rfl | simp [*], by first | rfl | simp [*], by first | rfl | simp [*], rfl⟩
    · cases h2 : g.stored
      · have y17 : w2.cell? ⟨q, 17, none⟩ = some (.bool false) := by have := (cells_at HF.out.own 17).1; rw [h2] at this; exact this
        go_wp2_with fail
        go_meet
        case rel => exact ⟨by first | rfl | simp [*], by first | rfl | simp [*], by first | rfl | simp [*], rfl⟩
      · have y17 : w2.cell? ⟨q, 17, none⟩ = some (.bool true) := by have := (cells_at HF.out.own 17).1; rw [h2] at this; exact this
        cases h3 : hs
        · have k10 : w2.cell? ⟨w.heap.size, 10, none⟩ = some (.int .u8 x.ans.kind) := (cells_at HF.out.box 10).1
          have k11 : w2.cell? ⟨w.heap.size, 11, none⟩ = some (.int .u64 x.ans.number) := (cells_at HF.out.box 11).1
          have k12 : w2.cell? ⟨w.heap.size, 12, none⟩ = some (.string x.ans.item.key) := (cells_at HF.out.box 12).1
          have k13 : w2.cell? ⟨w.heap.size, 13, none⟩ = some (.string x.ans.item.value) := (cells_at HF.out.box 13).1
          have k14 : w2.cell? ⟨w.heap.size, 14, none⟩ = some (.int .u32 x.ans.item.flags) := (cells_at HF.out.box 14).1
          have k15 : w2.cell? ⟨w.heap.size, 15, none⟩ = some (.int .u64 x.ans.item.id) := (cells_at HF.out.box 15).1
          have k16 : w2.cell? ⟨w.heap.size, 16, none⟩ = some (.int .i64 x.ans.item.dies) := (cells_at HF.out.box 16).1
          have k17 : w2.cell? ⟨w.heap.size, 17, none⟩ = some (.int .i64 x.ans.item.gen) := (cells_at HF.out.box 17).1
          go_wp2_with fail
          go_meet
          case rel => exact ⟨by first | rfl | simp [*], by first | rfl | simp [*], by first | rfl | simp [*], rfl⟩
        · go_wp2_with fail
          go_meet
          case rel => exact ⟨by first | rfl | simp [*], by first | rfl | simp [*], by first | rfl | simp [*], rfl⟩
  case rest =>
    obtain ⟨rfl, rfl, rfl, rfl⟩ := hcut
    obtain ⟨w2, rfl⟩ : ∃ X, X = wc := ⟨_, rfl⟩
    clear qe qb
    by_cases hr : is = true ∧ g.stored = true ∧ hs = false ∧ x.ans = noRoom
    · have hb : (is && g.stored && !hs && decide (x.ans = noRoom)) = true := by
        rw [hr.1, hr.2.1, hr.2.2.1, decide_eq_true hr.2.2.2]; rfl
      rw [hb]
      have HRR := Lib.hid (HR.out hr.1 hr.2.1 hr.2.2.1 hr.2.2.2)
      clear hb hr HR HN HY HFA
      obtain ⟨mb, hblk, -, -⟩ := HF.out.map.block
      have c1 := (cells_at hblk 1).1
      have f1 := (cells_at hblk 1).2
      have hpl := HF.out.map.lt
      have k18 : w2.cell? ⟨w.heap.size, 18, none⟩ = some (.int .u64 (x.epoch : Int)) := (cells_at HF.out.box 18).1
      clear hblk
      go_wp2_with fail
      go_ret
      rw [HRR.out]
      exact ⟨rfl, HF.out.map.setEpoch _, HF.out.chg.then (cset_mm _ _ _ (by decide) _)⟩
    · have hb : (is && g.stored && !hs && decide (x.ans = noRoom)) = false := by
        cases hh : (is && g.stored && !hs && decide (x.ans = noRoom))
        · rfl
        · simp only [Bool.and_eq_true, Bool.not_eq_true', decide_eq_true_eq] at hh
          exact absurd ⟨hh.1.1.1, hh.1.1.2, hh.1.2, hh.2⟩ hr
      rw [hb]
      clear hb HR
      have HNN := Lib.hid (fun h1 => HN.out h1 hr)
      clear hr HN
      cases h1 : is
      · have HNF := Lib.hid (HNN.out (.inl h1))
        clear HNN HY HFA
        go_wp2_with fail
        go_ret
        rw [HNF.out]
        exact ⟨rfl, HF.out.map, HF.out.chg⟩
      · have qe : ∀ W : World, (binOp .neq 40 (.agg #[.int .u8 x.ans.kind, .int .u64 x.ans.number, .string x.ans.item.key, .string x.ans.item.value, .int .u32 x.ans.item.flags, .int .u64 x.ans.item.id, .int .i64 x.ans.item.dies, .int .i64 x.ans.item.gen]) (.agg #[.int .u8 g.ans.kind, .int .u64 g.ans.number, .string g.ans.item.key, .string g.ans.item.value, .int .u32 g.ans.item.flags, .int .u64 g.ans.item.id, .int .i64 g.ans.item.dies, .int .i64 g.ans.item.gen])).run Tryz.prog W = .ok (.bool (!decide (x.ans = g.ans))) W := run_ans_ne x.ans g.ans
        have k10 : w2.cell? ⟨w.heap.size, 10, none⟩ = some (.int .u8 x.ans.kind) := (cells_at HF.out.box 10).1
        have k11 : w2.cell? ⟨w.heap.size, 11, none⟩ = some (.int .u64 x.ans.number) := (cells_at HF.out.box 11).1
        have k12 : w2.cell? ⟨w.heap.size, 12, none⟩ = some (.string x.ans.item.key) := (cells_at HF.out.box 12).1
        have k13 : w2.cell? ⟨w.heap.size, 13, none⟩ = some (.string x.ans.item.value) := (cells_at HF.out.box 13).1
        have k14 : w2.cell? ⟨w.heap.size, 14, none⟩ = some (.int .u32 x.ans.item.flags) := (cells_at HF.out.box 14).1
        have k15 : w2.cell? ⟨w.heap.size, 15, none⟩ = some (.int .u64 x.ans.item.id) := (cells_at HF.out.box 15).1
        have k16 : w2.cell? ⟨w.heap.size, 16, none⟩ = some (.int .i64 x.ans.item.dies) := (cells_at HF.out.box 16).1
        have k17 : w2.cell? ⟨w.heap.size, 17, none⟩ = some (.int .i64 x.ans.item.gen) := (cells_at HF.out.box 17).1
        have y0 : w2.cell? ⟨q, 0, none⟩ = some (.int .u8 g.ans.kind) := (cells_at HF.out.own 0).1
        have y1 : w2.cell? ⟨q, 1, none⟩ = some (.int .u64 g.ans.number) := (cells_at HF.out.own 1).1
        have y2 : w2.cell? ⟨q, 2, none⟩ = some (.string g.ans.item.key) := (cells_at HF.out.own 2).1
        have y3 : w2.cell? ⟨q, 3, none⟩ = some (.string g.ans.item.value) := (cells_at HF.out.own 3).1
        have y4 : w2.cell? ⟨q, 4, none⟩ = some (.int .u32 g.ans.item.flags) := (cells_at HF.out.own 4).1
        have y5 : w2.cell? ⟨q, 5, none⟩ = some (.int .u64 g.ans.item.id) := (cells_at HF.out.own 5).1
        have y6 : w2.cell? ⟨q, 6, none⟩ = some (.int .i64 g.ans.item.dies) := (cells_at HF.out.own 6).1
        have y7 : w2.cell? ⟨q, 7, none⟩ = some (.int .i64 g.ans.item.gen) := (cells_at HF.out.own 7).1
        by_cases h2 : x.ans = g.ans
        · rw [decide_eq_true h2] at qe
          simp only [Bool.not_true] at qe
          have HYY := Lib.hid (HY.out h1 h2)
          have HFF := Lib.hid (HFA.out h1)
          clear HNN HY HFA h2
          go_upto_region 8 with fail
          clear qe k10 k11 k12 k13 k14 k15 k16 k17 y0 y1 y2 y3 y4 y5 y6 y7
          obtain ⟨mb, hblk, -, -⟩ := HF.out.map.block
          have c1 := (cells_at hblk 1).1
          have f1 := (cells_at hblk 1).2
          have hpl := HF.out.map.lt
          clear hblk
          have y18 : w2.cell? ⟨q, 18, none⟩ = some (.int .u64 (g.epoch : Int)) := (cells_at HF.out.own 18).1
          go_upto_region 9 with fail
          have HF3 := Lib.hid (HF.out.mm (cset_mm _ _ _ (by decide) _) (HF.out.map.setEpoch g.epoch))
          obtain ⟨W3, hW3⟩ : ∃ X, X = w2.setCell ⟨p, 1, none⟩ (.int .u64 (g.epoch : Int)) := ⟨_, rfl⟩
          rw [← hW3] at HF3 ⊢
          clear HF hW3 c1 f1 y18
          have HF := HF3
          clear HF3
          have y16 : W3.cell? ⟨q, 16, none⟩ = some (.bool g.drawn) := (cells_at HF.out.own 16).1
          go_upto_if 57 with fail
          go_cut [] (fun wx => FtAt w wx p ({ m with epoch := g.epoch, ids := if g.drawn then m.ids + 1 else m.ids } : MapM) x q g)
          case first =>
            clear y16
            cases hd : g.drawn
            · go_wp2_with fail
              go_meet
              case rel =>
                rw [if_neg (show ¬ g.drawn = true by rw [hd]; simp)]
                exact HF.out
            · obtain ⟨mb, hblk, -, -⟩ := HF.out.map.block
              have c2 := (cells_at hblk 2).1
              have f2 := (cells_at hblk 2).2
              have hwr := HWR.out
              clear hblk
              go_wp2_with fail
              go_meet
              case rel =>
                rw [if_pos hd]
                have hms := HF.out.map.setIds (m.ids + 1)
                rw [show ((m.ids + 1 : Nat) : Int) = (m.ids : Int) + 1 from by omega] at hms
                exact HF.out.mm (cset_mm _ _ _ (by decide) _) hms
          case rest =>
            have HF := Lib.hid hcut
            clear hcut
            obtain ⟨W4, rfl⟩ : ∃ X, X = wc := ⟨_, rfl⟩
            have y14 : W4.cell? ⟨q, 14, none⟩ = some (.bool g.put) := (cells_at HF.out.own 14).1
            go_upto_if 66 with fail
            go_cut [] (fun wx => FtAt w wx p ({ m with epoch := g.epoch, ids := (if g.drawn then m.ids + 1 else m.ids), L := (if g.put then withoutL m.L g.isx.key ++ [g.isx] else m.L) } : MapM) x q g)
            case first =>
              clear y14
              cases hd : g.put
              · go_wp2_with fail
                go_meet
                case rel =>
                  rw [if_neg (show ¬ g.put = true by rw [hd]; simp)]
                  exact HF.out
              · have hkk : g.isx.key.size ≤ maxLen := by rw [HFF.out.1 hd]; exact HKL.out
                have HPU := Lib.hid (mapsPut_any (x := g.isx) HF.out.map hkk)
                clear hkk
                have y8 : W4.cell? ⟨q, 8, none⟩ = some (.string g.isx.key) := (cells_at HF.out.own 8).1
                have y9 : W4.cell? ⟨q, 9, none⟩ = some (.string g.isx.value) := (cells_at HF.out.own 9).1
                have y10 : W4.cell? ⟨q, 10, none⟩ = some (.int .u32 g.isx.flags) := (cells_at HF.out.own 10).1
                have y11 : W4.cell? ⟨q, 11, none⟩ = some (.int .u64 g.isx.id) := (cells_at HF.out.own 11).1
                have y12 : W4.cell? ⟨q, 12, none⟩ = some (.int .i64 g.isx.dies) := (cells_at HF.out.own 12).1
                have y13 : W4.cell? ⟨q, 13, none⟩ = some (.int .i64 g.isx.gen) := (cells_at HF.out.own 13).1
                go_wp2_with fail
                refine HPU.out.mono ?_
                rintro e w6 ⟨⟨v, rfl⟩, hm6, hc6⟩
                have HM6 := Lib.hid hm6
                have HC6 := Lib.hid hc6
                clear hm6 hc6
                go_wp2_with fail
                go_meet
                case rel =>
                  rw [if_pos hd]
                  exact HF.out.mm HC6.out HM6.out
            case rest =>
              have HF := Lib.hid hcut
              clear hcut
              obtain ⟨W5, rfl⟩ : ∃ X, X = wc := ⟨_, rfl⟩
              have y15 : W5.cell? ⟨q, 15, none⟩ = some (.bool g.gone) := (cells_at HF.out.own 15).1
              go_upto_if 72 with fail
              go_cut [] (fun wx => FtAt w wx p ({ m with epoch := g.epoch, ids := (if g.drawn then m.ids + 1 else m.ids), L := (if g.gone then withoutL (if g.put then withoutL m.L g.isx.key ++ [g.isx] else m.L) x.call.key else (if g.put then withoutL m.L g.isx.key ++ [g.isx] else m.L)) } : MapM) x q g)
              case first =>
                clear y15
                cases hd : g.gone
                · go_wp2_with fail
                  go_meet
                  case rel =>
                    rw [if_neg (show ¬ g.gone = true by rw [hd]; simp)]
                    exact HF.out
                · obtain ⟨mb, c0, -, -⟩ := HF.out.map.cells
                  obtain ⟨w9, hrun, hm9, hci, hc9⟩ := MapAt.dropRun (W := W5.drew) HF.out.drew.map c0 HKL.out 0
                  have HF9 := Lib.hid (HF.out.drew.mm hc9 hm9)
                  have hpn : ¬ IsMp W5.drew p := by
                    rintro ⟨es, clock, e⟩
                    obtain ⟨mb', e3, -⟩ := HF.out.map
                    have e2 : W5.heap[p]? = _ := e
                    rw [e3] at e2
                    cases e2
                  have h90 := hci.cell (show W5.drew.cell? ⟨p, 0, none⟩ = some (.map mb) from c0) hpn
                  have HS9 := Lib.hid (And.intro h90 (cells_at HF9.out.box 2).1)
                  have HRUN := Lib.hid hrun
                  have k2 : W5.cell? ⟨w.heap.size, 2, none⟩ = some (.string x.call.key) := (cells_at HF.out.box 2).1
                  clear hm9 hc9 hci h90 hpn hrun
                  go_upto_region 14 with fail
                  refine wp_region_held_drew (S := fun W => W.cell? ⟨p, 0, none⟩ = some (.map mb) ∧ W.cell? ⟨w.heap.size, 2, none⟩ = some (.string x.call.key)) (by kernel_rfl) ⟨c0, k2⟩ (fun hHeld => ?_)
                  refine tkq (i := 0) (v := ?_) rfl (by kernel_rfl) (fun _ _ _ h => h) (by rfl) ?_ (by assumption) ?_
                  rotate_left 1
                  · ((intro w hSw; (try dsimp only at hSw); go_simp) <;> with_reducible rfl)
                  try simp only [Act.put, tzA, tzB, tzC, tzD, tzE]
                  refine tkq (i := 1) (v := ?_) rfl (by kernel_rfl) (fun _ _ _ h => h) (by rfl) ?_ (by assumption) ?_
                  rotate_left 1
                  · ((intro w hSw; (try dsimp only at hSw); go_simp) <;> with_reducible rfl)
                  try simp only [Act.put, tzA, tzB, tzC, tzD, tzE, tzF]
                  refine tkq (i := 2) (v := ?_) rfl (by kernel_rfl) (fun _ _ _ h => h) (by rfl) ?_ (by assumption) ?_
                  rotate_left 1
                  · ((intro w hSw; (try dsimp only at hSw); go_simp) <;> with_reducible rfl)
                  try simp only [Act.put, tzA, tzB, tzC, tzD, tzE, tzF]
                  refine tkq (i := 3) (v := ?_) rfl (by kernel_rfl) (fun _ _ _ h => h) (by rfl) ?_ (by assumption) ?_
                  rotate_left 1
                  · ((intro w hSw; (try dsimp only at hSw); go_simp) <;> with_reducible rfl)
                  try simp only [Act.put, tzA, tzB, tzC, tzD, tzE, tzF]
                  refine tkq (i := 4) (v := ?_) rfl (by kernel_rfl) (fun _ _ _ h => h) (by rfl) ?_ (by assumption) ?_
                  rotate_left 1
                  · ((intro w hSw; (try dsimp only at hSw); go_simp) <;> with_reducible rfl)
                  try simp only [Act.put, tzA, tzB, tzC, tzD, tzE, tzF]
                  refine tkq (i := 5) (v := ?_) rfl (by kernel_rfl) (fun _ _ _ h => h) (by rfl) ?_ (by assumption) ?_
                  rotate_left 1
                  · ((intro w hSw; (try dsimp only at hSw); go_simp) <;> with_reducible rfl)
                  try simp only [Act.put, tzA, tzB, tzC, tzD, tzE, tzF]
                  refine tkq (i := 6) (v := ?_) rfl (by kernel_rfl) (fun _ _ _ h => h) (by rfl) ?_ (by assumption) ?_
                  rotate_left 1
                  · ((intro w hSw; (try dsimp only at hSw); go_simp) <;> with_reducible rfl)
                  try simp only [Act.put, tzA, tzB, tzC, tzD, tzE, tzF]
                  refine wpAnyH_ready (rs := [7]) (by kernel_rfl) (by simp) ?_
                  refine AllReadyH.cons rfl (fun K hK => ?_) AllReadyH.nil
                  rw [if_pos (by rfl)]
                  refine wp_delete (.tmp 76) (.tmp 79) (by rfl) mb (by rfl) x.call.key (by rfl) HRUN.out ?_
                  refine hK.out _ _ HS9.out (fun hHeld2 => ?_)
                  clear hK K
                  refine wpAnyH_done (by kernel_rfl) ?_ _
                  clear hHeld2
                  go_wp2_with fail
                  go_meet
                  case rel =>
                    rw [if_pos hd]
                    exact HF9.out
              case rest =>
                have HF := Lib.hid hcut
                clear hcut
                go_wp2_with fail
                go_ret
                rw [HYY.out]
                refine ⟨rfl, ?_, HF.out.chg⟩
                have hfin := HF.out.map
                show MapAt _ p (applyM m x.call.key g)
                have e : applyM m x.call.key g = ({ m with epoch := g.epoch, ids := (if g.drawn then m.ids + 1 else m.ids), L := (if g.gone then withoutL (if g.put then withoutL m.L g.isx.key ++ [g.isx] else m.L) x.call.key else (if g.put then withoutL m.L g.isx.key ++ [g.isx] else m.L)) } : MapM) := by
                  unfold applyM
                  cases hg : g.gone
                  · cases hp : g.put
                    · simp
                    · have := HFF.out.1 hp
                      simp [this]
                  · have := HFF.out.2 hg
                    simp [this]
                rw [e]
                exact hfin
        · rw [decide_eq_false h2] at qe
          simp only [Bool.not_false] at qe
          have HNF := Lib.hid (HNN.out (.inr h2))
          clear HNN HY HFA
          go_wp2_with fail
          go_ret
          rw [HNF.out]
          exact ⟨rfl, HF.out.map, HF.out.chg⟩
end
end Go.Proofs.YtaooangnnlopcaaGreatDoor
