/- Contracts: what a word of tables says. No condition. And what goes with it (4 texts). -/
import Derived.Test.YtnkkoicbnbjlnaaGreatDoorMcB
import Derived.Test.YtnkkoicbnbjlnaaGreatDoorLowA
import Derived.Maps.AppendAt
import Derived.Deep.AppendLies
import Derived.Deep.MidRow
namespace Go.Proofs.YtnkkoicbnbjlnaaGreatDoor
set_option maxRecDepth 100000
set_option maxHeartbeats 8000000
open Go.RowKit
theorem as_any (u : Nat) (hu : u < 18446744073709551616) (w : World) : Calls Tryz.prog 230 #[.int .u64 (u : Int)] w fun e w' => e = .returned (.tuple #[.int .i64 (oldN u : Int), .int .i64 (newN u : Int)]) ∧ w = w' := by
 obtain ⟨a, ha⟩ := xE (u % 256)
 obtain ⟨c, hc⟩ := xE (u / 256 % 256)
 have hal : a < 256 := by omega
 have hcl : c < 256 := by omega
 have r1 : (u : Int).tmod 256 = (a : Int) := by rw [Int.tmod_eq_emod_of_nonneg (by omega)]; omega
 have r2 : (u : Int).tdiv 256 = ((u / 256 : Nat) : Int) := by rw [Int.tdiv_eq_ediv_of_nonneg (by omega)]; omega
 have r3 : ((u / 256 : Nat) : Int).tmod 256 = (c : Int) := by rw [Int.tmod_eq_emod_of_nonneg (by omega)]; omega
 have hA := wrapN64 a (by omega)
 have hC := wrapN64 c (by omega)
 have HSA := hidZ (fun W => fnvSize_any a (by omega) W)
 have HSC := hidZ (fun W => fnvSize_any c (by omega) W)
 have HO := hidZ (show oldN u = if sizeN a = 0 then 1 else a from by unfold oldN; rw [← ha])
 have HN := hidZ (show newN u = if c = oldN u + 1 ∧ sizeN c ≠ 0 then c else 0 from by unfold newN; rw [← hc])
 obtain ⟨U, hU⟩ : ∃ U : Int, U = (u : Int) := ⟨_, rfl⟩
 obtain ⟨Q, hQ⟩ : ∃ U : Int, U = ((u / 256 : Nat) : Int) := ⟨_, rfl⟩
 obtain ⟨A, hAA⟩ : ∃ U : Int, U = (a : Int) := ⟨_, rfl⟩
 obtain ⟨C, hCC⟩ : ∃ U : Int, U = (c : Int) := ⟨_, rfl⟩
 rw [← hU, ← hAA] at r1
 rw [← hU, ← hQ] at r2
 rw [← hQ, ← hCC] at r3
 rw [← hAA] at hA HSA
 rw [← hCC] at hC HSC
 have hq : IntKind.u64.wrap Q = Q := by rw [IntKind.wrap_u64]; omega
 have w1 : IntKind.i64.wrap (A + 1) = A + 1 := IntWalk.i64_in _ (by omega)
 rw [← hU]
 by_cases has : sizeN a = 0
 ·rw [has] at HSA
  have HO := hidZ (show (oldN u : Int) = 1 from by rw [HO.out, if_pos has]; rfl)
  have ho : oldN u = 1 := by have := HO.out; omega
  rw [ho] at HN
  clear has
  by_cases hcc : c = 1 + 1
  ·by_cases hcs : sizeN c = 0
   ·have e1 : (C != 2) = false := by rw [bne_eq_false_iff_eq]; omega
    have HR := hidZ (show newN u = 0 from by rw [HN.out, if_neg (fun h => h.2 hcs)])
    rw [hcs] at HSC
    clear ho hcc hU hQ hAA hCC ha hc hal hcl hu HN hcs
    go_enter Tryz.func230, Tryz.ntmps230
    go_wp2_with fail
    refine (HSA.out _).mono ?_
    rintro e w1 ⟨rfl, rfl⟩
    go_wp2_with fail
    refine (HSC.out _).mono ?_
    rintro e w1 ⟨rfl, rfl⟩
    go_wp2_with fail
    exact bodyPost_ret (v := .tuple #[.int .i64 1, .int .i64 0]) (by simp [results, Tryz.results230, go_sem]) rfl ⟨by rw [HO.out]; rw [HR.out]; rfl, rfl⟩
   ·have e1 : (C != 2) = false := by rw [bne_eq_false_iff_eq]; omega
    have HR := hidZ (show (newN u : Int) = C from by rw [HN.out, if_pos ⟨hcc, hcs⟩, hCC])
    have e2 : ((sizeN c : Int) == 0) = false := by rw [beq_eq_false_iff_ne]; omega
    clear ho hcc hU hQ hAA hCC ha hc hal hcl hu HN hcs
    go_enter Tryz.func230, Tryz.ntmps230
    go_wp2_with fail
    refine (HSA.out _).mono ?_
    rintro e w1 ⟨rfl, rfl⟩
    go_wp2_with fail
    refine (HSC.out _).mono ?_
    rintro e w1 ⟨rfl, rfl⟩
    go_wp2_with fail
    exact bodyPost_ret (v := .tuple #[.int .i64 1, .int .i64 C]) (by simp [results, Tryz.results230, go_sem]) rfl ⟨by rw [HO.out]; rw [HR.out], rfl⟩
  ·have e1 : (C != 2) = true := by rw [bne_iff_ne]; omega
   have HR := hidZ (show newN u = 0 from by rw [HN.out, if_neg (fun h => hcc h.1)])
   clear ho hcc hU hQ hAA hCC ha hc hal hcl hu HN
   go_enter Tryz.func230, Tryz.ntmps230
   go_wp2_with fail
   refine (HSA.out _).mono ?_
   rintro e w1 ⟨rfl, rfl⟩
   go_wp2_with fail
   exact bodyPost_ret (v := .tuple #[.int .i64 1, .int .i64 0]) (by simp [results, Tryz.results230, go_sem]) rfl ⟨by rw [HO.out]; rw [HR.out]; rfl, rfl⟩
 ·have ea : ((sizeN a : Int) == 0) = false := by rw [beq_eq_false_iff_ne]; omega
  have HO := hidZ (show (oldN u : Int) = A from by rw [HO.out, if_neg has, hAA])
  have ho : oldN u = a := by have := HO.out; omega
  rw [ho] at HN
  clear has
  by_cases hcc : c = a + 1
  ·by_cases hcs : sizeN c = 0
   ·have e1 : (C != (A + 1)) = false := by rw [bne_eq_false_iff_eq]; omega
    have HR := hidZ (show newN u = 0 from by rw [HN.out, if_neg (fun h => h.2 hcs)])
    rw [hcs] at HSC
    clear ho hcc hU hQ hAA hCC ha hc hal hcl hu HN hcs
    go_enter Tryz.func230, Tryz.ntmps230
    go_wp2_with fail
    refine (HSA.out _).mono ?_
    rintro e w1 ⟨rfl, rfl⟩
    go_wp2_with fail
    refine (HSC.out _).mono ?_
    rintro e w1 ⟨rfl, rfl⟩
    go_wp2_with fail
    exact bodyPost_ret (v := .tuple #[.int .i64 A, .int .i64 0]) (by simp [results, Tryz.results230, go_sem]) rfl ⟨by rw [HO.out]; rw [HR.out]; rfl, rfl⟩
   ·have e1 : (C != (A + 1)) = false := by rw [bne_eq_false_iff_eq]; omega
    have HR := hidZ (show (newN u : Int) = C from by rw [HN.out, if_pos ⟨hcc, hcs⟩, hCC])
    have e2 : ((sizeN c : Int) == 0) = false := by rw [beq_eq_false_iff_ne]; omega
    clear ho hcc hU hQ hAA hCC ha hc hal hcl hu HN hcs
    go_enter Tryz.func230, Tryz.ntmps230
    go_wp2_with fail
    refine (HSA.out _).mono ?_
    rintro e w1 ⟨rfl, rfl⟩
    go_wp2_with fail
    refine (HSC.out _).mono ?_
    rintro e w1 ⟨rfl, rfl⟩
    go_wp2_with fail
    exact bodyPost_ret (v := .tuple #[.int .i64 A, .int .i64 C]) (by simp [results, Tryz.results230, go_sem]) rfl ⟨by rw [HO.out]; rw [HR.out], rfl⟩
  ·have e1 : (C != (A + 1)) = true := by rw [bne_iff_ne]; omega
   have HR := hidZ (show newN u = 0 from by rw [HN.out, if_neg (fun h => hcc h.1)])
   clear ho hcc hU hQ hAA hCC ha hc hal hcl hu HN
   go_enter Tryz.func230, Tryz.ntmps230
   go_wp2_with fail
   refine (HSA.out _).mono ?_
   rintro e w1 ⟨rfl, rfl⟩
   go_wp2_with fail
   exact bodyPost_ret (v := .tuple #[.int .i64 A, .int .i64 0]) (by simp [results, Tryz.results230, go_sem]) rfl ⟨by rw [HO.out]; rw [HR.out]; rfl, rfl⟩
theorem target_any (u : Nat) (hu : u < 18446744073709551616) (w : World) : Calls Tryz.prog 232 #[.int .u64 (u : Int)] w fun e w' => e = .returned (.int .i64 (targetN u : Int)) ∧ w = w' := by
 have HA := hidZ (as_any u hu w)
 have hm : max (oldN u : Int) (newN u : Int) = (targetN u : Int) := by unfold targetN; omega
 obtain ⟨x, hx⟩ : ∃ U : Int, U = (oldN u : Int) := ⟨_, rfl⟩
 obtain ⟨y, hy⟩ : ∃ U : Int, U = (newN u : Int) := ⟨_, rfl⟩
 rw [← hx, ← hy] at hm HA
 clear hx hy hu
 go_enter Tryz.func232, Tryz.ntmps232
 go_wp2_with fail
 refine HA.out.mono ?_
 rintro e w1 ⟨rfl, rfl⟩
 go_wp2_with fail
 go_ret
 exact ⟨rfl, rfl⟩
open Go.RowKit Go.ChangeMaps Go.MapKept
abbrev placeCells (p : Nat × Nat) : List Value := [.int .i64 (p.1 : Int), .int .i64 (p.2 : Int)]
abbrev placesC (L : List (Nat × Nat)) : List Value := L.flatMap placeCells
def PRow (w : World) (v : Value) (L : List (Nat × Nat)) : Prop := Row w 130 2 v L.length (placesC L)
theorem flat_two : ∀ {L : List (Nat × Nat)} {j : Nat} {p : Nat × Nat}, L[j]? = some p → (placesC L)[j * 2]? = some (.int .i64 (p.1 : Int)) ∧ (placesC L)[j * 2 + 1]? = some (.int .i64 (p.2 : Int))
 | [], _, _, h => by simp at h
 | q :: L, 0, p, h => by
  obtain rfl : q = p := by simpa using h
  exact ⟨rfl, rfl⟩
 | q :: L, j + 1, p, h => by
  have ih := flat_two (L := L) (j := j) (by simpa using h)
  rw [show (j + 1) * 2 = j * 2 + 2 by omega, show j * 2 + 2 + 1 = j * 2 + 1 + 2 by omega]
  exact ih
theorem PRow.get {w : World} {v : Value} {L : List (Nat × Nat)} (h : PRow w v L) {j : Nat} {p : Nat × Nat} (hp : L[j]? = some p) :
  ∃ g o c : Nat, v = .slice (some ⟨g, o, none⟩) L.length c ∧ g < w.heap.size ∧ ∀ W, Below w.heap.size w W → W.cell? ⟨g, o + j * 2, none⟩ = some (.int .i64 (p.1 : Int)) ∧ W.cell? ⟨g, o + j * 2 + 1, none⟩ = some (.int .i64 (p.2 : Int)) := by
 obtain ⟨h1, h2⟩ := flat_two hp
 obtain ⟨g, o, c, hv, hc, hx, -⟩ := Row.at h h1
 obtain ⟨g', o', c', hv', hc', hx', -⟩ := Row.at h h2
 rw [hv] at hv'
 obtain ⟨e1, -, -⟩ := slice_inj hv'
 simp only [Option.some.injEq, Addr.mk.injEq, and_true] at e1
 obtain ⟨rfl, rfl⟩ := e1
 refine ⟨g, o, c, hv, cell_lt hx, fun W hb => ⟨(hb.cell (p := ⟨g, o + j * 2, none⟩) (cell_lt hx)).trans hx, ?_⟩⟩
 rw [show o + j * 2 + 1 = o + (j * 2 + 1) by omega]
 exact (hb.cell (p := ⟨g, o + (j * 2 + 1), none⟩) (cell_lt hx)).trans hx'
theorem infoPlace : (Tryz.prog.info? 130).map (fun i => (i.zero, i.size, i.bytes)) = some (some (.agg #[.int .i64 0, .int .i64 0]), 2, 16) := by kernel_rfl
theorem infoP_parts {t : TypeId} {z : Option Value} {s b : Nat} (h : (Tryz.prog.info? t).map (fun i => (i.zero, i.size, i.bytes)) = some (z, s, b)) : ∃ i, Tryz.prog.info? t = some i ∧ i.zero = z ∧ i.size = s ∧ i.bytes = b := by
 cases hi : Tryz.prog.info? t with
 | none => rw [hi] at h; cases h
 | some i => rw [hi] at h; simp at h; exact ⟨i, rfl, h.1, h.2.1, h.2.2⟩
theorem idx_place {a : Option Addr} {g o n c k : Nat} (ha : a = some ⟨g, o, none⟩) (hk : k < n) (W : World) : (Instr.indexAt 326 (.slice a n c) (.int .i64 (k : Int))).run Tryz.prog W = .ok (.pointer (some ⟨g, o + k * 2, none⟩)) W := by
 subst ha
 have h0 : (0 : Int) ≤ (k : Int) := by omega
 have h1 : (k : Int) < (n : Int) := by omega
 have h2 := Tryz.underlying326
 obtain ⟨i0, hi, hz0, hz1, hz2⟩ := infoP_parts infoPlace
 go_simp
theorem eq_place (p q : Nat × Nat) (W : World) : (binOp .eql 130 (.agg #[.int .i64 (q.1 : Int), .int .i64 (q.2 : Int)]) (.agg #[.int .i64 (p.1 : Int), .int .i64 (p.2 : Int)])).run Tryz.prog W = .ok (.bool (q == p)) W := by
 have h := Tryz.underlying130
 obtain ⟨a, b⟩ := p
 obtain ⟨x, y⟩ := q
 have hr : ((x, y) == (a, b)) = decide (x = a ∧ y = b) := by rw [Bool.eq_iff_iff]; simp
 rw [hr]
 go_simp
 by_cases h1 : x = a
 ·by_cases h2 : y = b
  ·simp [h1, h2]
  ·have : ¬ ((y : Int) = (b : Int)) := by omega
   simp [h1, h2, this]
 ·have : ¬ ((x : Int) = (a : Int)) := by omega
  simp [h1, this]
theorem once1_any {w : World} {bp : Nat} (p q : Nat × Nat) (h : w.heap[bp]? = some (.cells (placeCells p).toArray 130 (0, 0))) :
  Calls Tryz.prog 286 #[.agg (placeCells q).toArray, .pointer (some ⟨bp, 0, none⟩)] w fun e w' => e = .returned (.bool (q == p)) ∧ Below w.heap.size w w' := by
 have x0 : w.cell? ⟨bp, 0, none⟩ = some (.int .i64 (p.1 : Int)) := (cellsAt h 0).1
 have x1 : w.cell? ⟨bp, 1, none⟩ = some (.int .i64 (p.2 : Int)) := (cellsAt h 1).1
 have hlt : bp < w.heap.size := cell_lt x0
 have hq := fun W => eq_place p q W
 generalize (q == p) = r at *
 clear h
 go_enter Tryz.func286, Tryz.ntmps286
 go_wp2_with fail
 go_ret
 exact ⟨rfl, (Below.refl _ _).alloc (Nat.le_refl _) _⟩
def idxP (p : Nat × Nat) (L : List (Nat × Nat)) : Int := match L.findIdx? (· == p) with | some i => (i : Int) | none => -1
theorem idxP_mem (p : Nat × Nat) (L : List (Nat × Nat)) : decide (0 ≤ idxP p L) = decide (p ∈ L) := by
 unfold idxP
 cases h : L.findIdx? (· == p) with
 | none =>
  rw [List.findIdx?_eq_none_iff] at h
  have : p ∉ L := fun hm => by simpa using h p hm
  simp [this]
 | some i =>
  obtain ⟨hi, h1, -⟩ := List.findIdx?_eq_some_iff_getElem.1 h
  have : p ∈ L := by
   have e : L[i] = p := by simpa using h1
   rw [← e]; exact List.getElem_mem hi
  simp [this]
abbrev onceF (bp : Nat) : Value := .func (.func 286) #[] #[.pointer (some ⟨bp, 0, none⟩)]
theorem indexP_any {w : World} {bp : Nat} {v : Value} {L : List (Nat × Nat)} (p : Nat × Nat) (hL : L.length ≤ 1000000) (h : PRow w v L) (hb : w.heap[bp]? = some (.cells (placeCells p).toArray 130 (0, 0))) :
  Calls Tryz.prog 315 #[v, onceF bp] w fun e w' => e = .returned (.int .i64 (idxP p L)) ∧ Below w.heap.size w w' := by
 obtain ⟨a, c, rfl⟩ := h.len
 have HH := hidZ h
 have HB := hidZ hb
 clear h hb
 go_enter Tryz.func315, Tryz.ntmps315
 go_wp2_with fail
 go_loopw [8] (fun s8 wr => ∃ k : Nat, s8 = .int .i64 (k : Int) ∧ k ≤ L.length ∧ Hid (Good (· == p) L k) ∧ Hid (Below w.heap.size w wr)) (fun s8 _ => L.length - (intOf s8).toNat)
 case atStart => exact ⟨0, rfl, Nat.zero_le _, hidZ (good_zero _ _), hidZ (Below.refl _ _)⟩
 case round =>
  obtain ⟨k, rfl, hk, HG, HL⟩ := hrel
  by_cases hlt : k < L.length
  ·obtain ⟨x, hx⟩ : ∃ x, L[k]? = some x := ⟨_, List.getElem?_eq_getElem hlt⟩
   obtain ⟨g, o, cc, he, hg, hcell⟩ := HH.out.get hx
   obtain ⟨rfl, -, rfl⟩ := slice_inj he
   obtain ⟨y0, y1⟩ := hcell wr HL.out
   have hix : ∀ W : World, (Instr.indexAt 326 (.slice (some ⟨g, o, none⟩) L.length c) (.int .i64 (k : Int))).run Tryz.prog W = .ok (.pointer (some ⟨g, o + k * 2, none⟩)) W := fun W => idx_place rfl hlt W
   have HC := once1_any p x (boxAt HB.out HL.out)
   have HX := hidZ hx
   obtain ⟨b, hb⟩ := xE (o + k * 2)
   rw [← hb] at hix y0 y1
   clear he hx hcell hb hg
   cases hq : (x == p)
   ·rw [hq] at HC
    have HQ := hidZ hq
    have HC := hidZ HC
    clear hq
    go_wp2_with fail
    refine HC.out.mono ?_
    rintro e w2 ⟨rfl, hb2⟩
    have HB2 := hidZ hb2
    clear hb2 HC
    go_wp2_with fail
    go_roundw
    case rel => exact ⟨k + 1, by go_num, by omega, hidZ (good_step HX.out HQ.out HG.out), hidZ (HL.out.trans (HB2.out.mono HL.out.size))⟩
    case measure => simp [intOf]; omega
   ·rw [hq] at HC
    have HF := hidZ (show idxP p L = (k : Int) from by unfold idxP; rw [good_hit HX.out hq HG.out])
    have HC := hidZ HC
    clear hq
    go_wp2_with fail
    refine HC.out.mono ?_
    rintro e w2 ⟨rfl, hb2⟩
    have HB2 := hidZ hb2
    clear hb2 HC
    go_wp2_with fail
    go_ret
    exact ⟨by rw [HF.out]; rfl, HL.out.trans (HB2.out.mono HL.out.size)⟩
  ·obtain rfl : k = L.length := by omega
   have HF := hidZ (show idxP p L = -1 from by unfold idxP; rw [good_all HG.out])
   clear hlt
   go_wp2_with fail
   go_ret
   exact ⟨by rw [HF.out]; rfl, HL.out⟩
theorem containsP_any {w : World} {bp : Nat} {v : Value} {L : List (Nat × Nat)} (p : Nat × Nat) (hL : L.length ≤ 1000000) (h : PRow w v L) (hb : w.heap[bp]? = some (.cells (placeCells p).toArray 130 (0, 0))) :
  Calls Tryz.prog 285 #[v, onceF bp] w fun e w' => e = .returned (.bool (decide (p ∈ L))) ∧ Below w.heap.size w w' := by
 have HI := hidZ (indexP_any p hL h hb)
 have hm := idxP_mem p L
 generalize idxP p L = i at *
 generalize decide (p ∈ L) = r at *
 clear h hb
 go_enter Tryz.func285, Tryz.ntmps285
 go_wp2_with fail
 refine HI.out.mono ?_
 rintro e w2 ⟨rfl, hb2⟩
 have HB2 := hidZ hb2
 clear hb2 HI
 go_wp2_with fail
 go_ret
 exact ⟨rfl, HB2.out⟩
theorem clipP_nil (w : World) : Calls Tryz.prog 287 #[.slice none 0 0] w fun e w' => e = .returned (.slice none 0 0) ∧ w = w' := by
 go_enter Tryz.func287, Tryz.ntmps287
 go_wp2
 go_ret
 exact ⟨rfl, rfl⟩
theorem clipP_some (a : Addr) (n c : Nat) (w : World) (_h : n ≤ c) (_hc : c ≤ maxLen) : Calls Tryz.prog 287 #[.slice (some a) n c] w fun e w' => e = .returned (.slice (some a) n n) ∧ w = w' := by
 unfold maxLen at _hc
 go_enter Tryz.func287, Tryz.ntmps287
 go_wp2
 go_ret
 exact ⟨rfl, rfl⟩
structure PlJ (w W : World) (ov : Value) (L : List (Nat × Nat)) : Prop where
 row : W.ownsRow w.heap.size 130 2 ov L.length (placesC L)
 low : Below w.heap.size w W
theorem PlJ.below {w W W' : World} {ov : Value} {L : List (Nat × Nat)} (h : PlJ w W ov L) (hb : Below W.heap.size W W') : PlJ w W' ov L := ⟨owns_grow h.row (Chg.of_below (M := fun _ => False) hb) (fun _ _ e => e), h.low.trans (hb.mono h.low.size)⟩
theorem PlJ.push {w W w1 : World} {ov ov' : Value} {L : List (Nat × Nat)} {x : Nat × Nat} (h : PlJ w W ov L) (hown : w1.ownsRow w.heap.size 130 2 ov' (L.length + 1) (placesC L ++ placeCells x)) (hg : W.grownBy w1 ov.ownBlock) : PlJ w w1 ov' (L ++ [x]) := by
 have hc : Chg (fun k => ov.ownBlock = some k) W w1 := Chg.of_grown hg (fun _ _ e => e)
 refine ⟨by rw [List.length_append, placesC, List.flatMap_append]; simpa using hown, ?_⟩
 exact h.low.trans (hc.below (fun k hk => ⟨Nat.lt_of_lt_of_le hk h.low.size, fun e => by have := (h.row.lt k e).1; omega⟩))
theorem PlJ.prow {w W : World} {ov : Value} {L : List (Nat × Nat)} (h : PlJ w W ov L) : PRow W ov L := Row.of_owns h.row
theorem onceL_snoc : ∀ (acc l : List (Nat × Nat)) (p : Nat × Nat), onceL acc (l ++ [p]) = if p ∈ onceL acc l then onceL acc l else onceL acc l ++ [p]
 | acc, [], p => by by_cases h : p ∈ acc <;> simp [onceL, h]
 | acc, q :: l, p => by
  simp only [List.cons_append, onceL]
  split
  ·exact onceL_snoc acc l p
  ·exact onceL_snoc (acc ++ [q]) l p
theorem onceL_len : ∀ (acc l : List (Nat × Nat)), (onceL acc l).length ≤ acc.length + l.length
 | acc, [] => by simp [onceL]
 | acc, q :: l => by
  unfold onceL
  split
  ·have := onceL_len acc l
   simp only [List.length_cons]; omega
  ·have := onceL_len (acc ++ [q]) l
   simp only [List.length_cons, List.length_append, List.length_nil] at *; omega
theorem clipP_row {w : World} {v : Value} {L : List (Nat × Nat)} (h : PRow w v L) : Calls Tryz.prog 287 #[v] w fun e w' => (∃ v', e = .returned v' ∧ PRow w v' L) ∧ w = w' := by
 have h0 := h
 obtain ⟨h1, a, c, rfl, h2, h3, h4, h5, h6⟩ := h
 cases a with
 | none =>
  obtain rfl : c = 0 := h4 rfl
  have hL : L.length = 0 := by omega
  rw [hL] at h0 ⊢
  refine (clipP_nil w).mono ?_
  rintro e w' ⟨rfl, rfl⟩
  exact ⟨⟨_, rfl, h0⟩, rfl⟩
 | some a =>
  refine (clipP_some a L.length c w h2 h3).mono ?_
  rintro e w' ⟨rfl, rfl⟩
  exact ⟨⟨_, rfl, h1, _, L.length, rfl, Nat.le_refl _, by omega, (fun e => by cases e), h5, h6⟩, rfl⟩
def NewP (w : World) (L : List (Nat × Nat)) (e : Ending) (w' : World) : Prop := ∃ v, e = .returned v ∧ PRow w' v L ∧ Below w.heap.size w w'
theorem heap_mem (w : World) (o : Obj) : (w.alloc o).heap[w.heap.size]? = some o := by rw [heap_at, if_pos rfl]
theorem takeSnoc {α : Type} {l : List α} {k : Nat} {x : α} (h : l[k]? = some x) : l.take (k + 1) = l.take k ++ [x] := by
 rw [List.take_add_one, h]
 rfl
theorem once_any {w : World} {v : Value} {L : List (Nat × Nat)} (hL : L.length ≤ 1000) (h : PRow w v L) : Calls Tryz.prog 254 #[v] w fun e w' => NewP w (onceL [] L) e w' := by
 obtain ⟨a, c, rfl⟩ := h.len
 obtain ⟨i0, hi, hz0, hz1, hz2⟩ := infoP_parts infoPlace
 have Hi := hidZ hi
 have Hz := hidZ (And.intro hz0 (And.intro hz1 hz2))
 clear hi hz0 hz1 hz2
 have HH := hidZ h
 clear h
 go_enter Tryz.func254, Tryz.ntmps254
 go_upto_region 2 with fail
 go_loopw [2, 7] (fun s2 s7 wr => ∃ (i : Nat) (ov : Value), s7 = .int .i64 (i : Int) ∧ ov = s2 ∧ i ≤ L.length ∧ Hid (PlJ w wr ov (onceL [] (L.take i)))) (fun _ s7 _ => L.length - (intOf s7).toNat)
 case atStart => exact ⟨0, _, rfl, rfl, Nat.zero_le _, hidZ ⟨World.ownsRow_nil _ _ _ _, Below.refl _ _⟩⟩
 case round =>
  obtain ⟨i, ov, rfl, rfl, hil, HJ⟩ := hrel
  have hol : (onceL [] (L.take i)).length ≤ 1000 := by
   have := onceL_len [] (L.take i)
   rw [List.length_take, List.length_nil] at this
   omega
  by_cases hlt : i < L.length
  ·obtain ⟨x, hx⟩ : ∃ x, L[i]? = some x := ⟨_, List.getElem?_eq_getElem hlt⟩
   obtain ⟨g, o, cc, he, hg, hcell⟩ := HH.out.get hx
   obtain ⟨rfl, -, rfl⟩ := slice_inj he
   obtain ⟨y0, y1⟩ := hcell wr HJ.out.low
   have hix : ∀ W : World, (Instr.indexAt 326 (.slice (some ⟨g, o, none⟩) L.length c) (.int .i64 (i : Int))).run Tryz.prog W = .ok (.pointer (some ⟨g, o + i * 2, none⟩)) W := fun W => idx_place rfl hlt W
   have hgr : g < wr.heap.size := Nat.lt_of_lt_of_le hg HJ.out.low.size
   have HE := hidZ (show onceL [] (L.take (i + 1)) = if x ∈ onceL [] (L.take i) then onceL [] (L.take i) else onceL [] (L.take i) ++ [x] from by rw [takeSnoc hx, onceL_snoc])
   obtain ⟨b, hb⟩ := xE (o + i * 2)
   rw [← hb] at hix y0 y1
   obtain ⟨O, hO⟩ := xE (onceL [] (L.take i))
   rw [← hO] at HJ HE hol
   clear hO he hx hcell hb hg
   have hmf := @mkFn Tryz.prog
   go_upto_region 4 with fail
   have hbx := heap_mem wr (.cells (placeCells x).toArray 130)
   have hJ1 := HJ.out.below ((Below.refl _ _).alloc (Nat.le_refl _) (.cells (placeCells x).toArray 130))
   have HC := containsP_any x (w := wr.alloc (.cells (placeCells x).toArray 130)) (by omega) hJ1.prow hbx
   have HBX := hidZ hbx
   have HJ1 := hidZ hJ1
   clear hbx hJ1 y0 y1 hix hgr
   by_cases hin : x ∈ O
   ·rw [decide_eq_true hin] at HC
    have HE := hidZ (show onceL [] (L.take (i + 1)) = O from by rw [HE.out, if_pos hin])
    have HC := hidZ HC
    clear hin
    go_wp2_with fail
    refine HC.out.mono ?_
    rintro e w2 ⟨rfl, hb2⟩
    have HJ2 := hidZ (HJ1.out.below hb2)
    clear hb2 HC
    go_wp2_with fail
    go_roundw
    case rel => exact ⟨i + 1, ov, by go_num, rfl, by omega, by rw [HE.out]; exact HJ2⟩
    case measure => simp [intOf]; omega
   ·rw [decide_eq_false hin] at HC
    have HE := hidZ (show onceL [] (L.take (i + 1)) = O ++ [x] from by rw [HE.out, if_neg hin])
    have HC := hidZ HC
    clear hin
    go_wp2_with fail
    refine HC.out.mono ?_
    rintro e w2 ⟨rfl, hb2⟩
    have HJ2 := hidZ (HJ1.out.below hb2)
    have z0 : w2.cell? ⟨wr.heap.size, 0, none⟩ = some (.int .i64 (x.1 : Int)) := (cellsAt (boxAt HBX.out hb2) 0).1
    have z1 : w2.cell? ⟨wr.heap.size, 1, none⟩ = some (.int .i64 (x.2 : Int)) := (cellsAt (boxAt HBX.out hb2) 1).1
    have hsz : wr.heap.size < w2.heap.size := cell_lt z0
    clear hb2 HC
    go_wp2_with (first
     | (at_builtin; refine wpList_append_own_at _ (by rfl) _ _ 326 (by rfl) w.heap.size 130 i0 (.agg #[.int .i64 0, .int .i64 0]) 2 16 Tryz.underlying326 Hi.out Hz.out.1 Hz.out.2.1 Hz.out.2.2 rfl (by omega) _ _ _ (by rfl) (HJ2.out.row.alloc _) ⟨w2.heap.size, 0, none⟩ 1 1 (placeCells x) (by rfl) rfl (World.news_of_block (cs := (placeCells x).toArray) (by rw [heap_at, if_pos (by simp)])) (by simp [Value.oneCell']) (by unfold maxLen; omega) (by omega) (by have := HJ2.out.low.size; simp; omega) ?_; intro ov' w3 hown3 hg3 _ _)
     | fail)
    have hJ3 := PlJ.push (x := x) (HJ2.out.below ((Below.refl _ _).alloc (Nat.le_refl _) _)) hown3 hg3
    go_roundw
    case rel => exact ⟨i + 1, ov', by go_num, rfl, by omega, by rw [HE.out]; exact hidZ hJ3⟩
    case measure => simp [intOf]; omega
  ·obtain rfl : i = L.length := by omega
   rw [List.take_length] at HJ hol
   clear hlt
   obtain ⟨oa, oc, rfl⟩ := HJ.out.prow.len
   have HC := hidZ (clipP_row HJ.out.prow)
   clear hol
   go_wp2_with fail
   refine HC.out.mono ?_
   rintro e w2 ⟨⟨v', rfl, hr⟩, rfl⟩
   have HR := hidZ hr
   clear hr HC
   go_wp2_with fail
   go_ret
   exact ⟨_, rfl, HR.out, HJ.out.low⟩
theorem bucket_no (h : Nat) (w : World) : Calls Tryz.prog 264 #[.int .u64 (h : Int), .int .i64 0] w fun e w' => e = .returned (.int .i64 (-1)) ∧ w = w' := by
 have HS := hidZ (fnvSize_any 0 (by omega) w)
 go_enter Tryz.func264, Tryz.ntmps264
 go_wp2_with fail
 refine HS.out.mono ?_
 rintro e w1 ⟨rfl, rfl⟩
 go_wp2_with fail
 go_ret
 exact ⟨rfl, rfl⟩
theorem pair_no (h : Nat) (w : World) : Calls Tryz.prog 255 #[.int .u64 (h : Int), .int .i64 0] w fun e w' => e = .returned (.slice none 0 0) ∧ w = w' := by
 have HS := hidZ (bucket_no h w)
 go_enter Tryz.func255, Tryz.ntmps255
 go_wp2_with fail
 refine HS.out.mono ?_
 rintro e w1 ⟨rfl, rfl⟩
 go_wp2_with fail
 go_ret
 exact ⟨rfl, rfl⟩
theorem pairL_is {h b : Nat} (h1 : 1 ≤ b) (h2 : b ≤ 12) : pairL h b = [(b, bucketN h b), (b, otherN (bucketN h b) (tagN h) b)] := by
 have := size_pos h1 h2
 unfold pairL
 rw [if_neg (by omega)]
theorem pair_any (h b : Nat) (hh : h < 18446744073709551616) (h1 : 1 ≤ b) (h2 : b ≤ 12) (w : World) : Calls Tryz.prog 255 #[.int .u64 (h : Int), .int .i64 (b : Int)] w fun e w' => e = .returned (.slice (some ⟨w.heap.size, 0, none⟩) 2 2) ∧ w' = w.alloc (.cells (placesC (pairL h b)).toArray 130) := by
 have HB := hidZ (bucket_any h b hh h1 h2 w)
 have HT := hidZ (fnvTag_any h hh w)
 have HO := hidZ (fnvOther_any (bucketN h b) (tagN h) b h1 h2 (bucket_lt h1 h2) (tag_bounds hh) w)
 have hP := pairL_is (h := h) h1 h2
 rw [hP]
 have d0 : decide ((bucketN h b : Int) < 0) = false := by rw [decide_eq_false_iff_not]; omega
 clear hP h1 h2 hh
 go_enter Tryz.func255, Tryz.ntmps255
 go_wp2_with fail
 refine HB.out.mono ?_
 rintro e w1 ⟨rfl, rfl⟩
 go_wp2_with fail
 refine HT.out.mono ?_
 rintro e w1 ⟨rfl, rfl⟩
 go_wp2_with fail
 refine HO.out.mono ?_
 rintro e w1 ⟨rfl, rfl⟩
 clear HO HT HB
 go_wp2_with fail
 go_ret
 exact ⟨rfl, rfl⟩
theorem placesC_len : ∀ L : List (Nat × Nat), (placesC L).length = L.length * 2
 | [] => rfl
 | p :: L => by
  have := placesC_len L
  simp only [placesC, List.flatMap_cons, List.length_append, List.length_cons, List.length_nil] at *
  omega
theorem prow_new (w : World) (L : List (Nat × Nat)) (hL : L.length ≤ maxLen) : PRow (w.alloc (.cells (placesC L).toArray 130)) (.slice (some ⟨w.heap.size, 0, none⟩) L.length L.length) L := by
 have hb := heap_mem w (.cells (placesC L).toArray 130)
 refine ⟨placesC_len L, _, _, rfl, Nat.le_refl _, hL, (fun e => by cases e), fun g hg => ?_, .inr ⟨_, 0, rfl, fun j x hx => ?_⟩⟩
 ·obtain rfl : w.heap.size = g := by simpa [Value.ownBlock] using hg
  exact Tag.of hb
 ·rw [Nat.zero_add, (cellsAt hb j).1]
  exact ⟨by simpa using hx, (cellsAt hb j).2⟩
theorem pairL_no (h : Nat) : pairL h 0 = [] := rfl
theorem places_any (h u : Nat) (hh : h < 18446744073709551616) (hu : u < 18446744073709551616) (hn : newN u = 0) (w : World) : Calls Tryz.prog 219 #[.int .u64 (h : Int), .int .u64 (u : Int)] w fun e w' => NewP w (placesL h u) e w' := by
 have HA := as_any u hu w
 rw [hn] at HA
 have HA := hidZ HA
 obtain ⟨o1, o2⟩ := old_bounds u
 have HP := hidZ (pair_any h (oldN u) hh o1 o2 w)
 have HN := hidZ (fun W => pair_no h W)
 have hL : placesL h u = onceL [] (pairL h (oldN u)) := by unfold placesL; rw [hn, pairL_no, List.append_nil]
 have hl2 : (pairL h (oldN u)).length = 2 := by rw [pairL_is o1 o2]; rfl
 rw [hL]
 obtain ⟨P, hP⟩ := xE (pairL h (oldN u))
 rw [← hP] at HP hl2 ⊢
 have hpr := prow_new w P (by unfold maxLen; omega)
 rw [hl2] at hpr
 have HOn := hidZ (once_any (by omega) hpr)
 clear hL hP hl2 hn hu hh o1 o2 hpr
 go_enter Tryz.func219, Tryz.ntmps219
 go_wp2_with fail
 refine HA.out.mono ?_
 rintro e w1 ⟨rfl, rfl⟩
 go_wp2_with fail
 refine HP.out.mono ?_
 rintro e w1 ⟨rfl, rfl⟩
 go_wp2_with fail
 refine (HN.out _).mono ?_
 rintro e w1 ⟨rfl, rfl⟩
 clear HN HP HA
 go_wp2_with fail
 refine HOn.out.mono ?_
 rintro e w2 ⟨v, rfl, hr, hb⟩
 have HR := hidZ hr
 have HB := hidZ (show Below w.heap.size w w2 from ((Below.refl _ _).alloc (Nat.le_refl _) _).trans (hb.mono (by rw [size_at]; omega)))
 clear hr hb HOn
 go_wp2_with fail
 go_ret
 exact ⟨_, rfl, HR.out, HB.out⟩
abbrev noItemV : Value := .agg #[.string ⟨#[]⟩, .string ⟨#[]⟩, .int .u32 0, .int .u64 0, .int .i64 0, .int .i64 0]
abbrev itemV (x : ItemD) : Value := .agg #[.string x.key, .string x.value, .int .u32 x.flags, .int .u64 x.id, .int .i64 x.dies, .int .i64 x.gen]
def ItemsIs (p : Nat) (L : List ItemD) : Thing := fun w S => ∃ (v : Value) (B : List Nat),
 w.heap[p]? = some (.cells #[v, .int .i64 (L.length : Int)] 197 (0, 0)) ∧ w.ownsRow 0 228 1 v B.length (B.map ptrN) ∧ (64 * B.length < L.length + 64 ∧ L.length ≤ 64 * B.length) ∧
 B.Nodup ∧ (∀ b ∈ B, Tag w b 380 ∧ w.there b 0 384) ∧ (∀ n x, L[n]? = some x → ∃ b, B[n / 64]? = some b ∧ w.rangeAt b (n % 64 * 6) x.cells) ∧ (∀ k, S k ↔ k = p ∨ v.ownBlock = some k ∨ k ∈ B)
theorem there_keep {w w' : World} {M : Nat → Prop} {b o n : Nat} (h : w.there b o n) (hc : Chg M w w') (hb : b < w.heap.size) (hM : ¬ M b) : w'.there b o n := fun j hj => by
 obtain ⟨h1, h2⟩ := h j hj
 obtain ⟨x, hx⟩ := Option.isSome_iff_exists.1 h1
 exact ⟨by rw [hc.cell hx hM]; rfl, (hc.frozen hb hM).trans h2⟩
theorem range_keep {w w' : World} {M : Nat → Prop} {b o : Nat} {cs : List Value} (h : w.rangeAt b o cs) (hc : Chg M w w') (hM : ¬ M b) : w'.rangeAt b o cs := fun j v hv => hc.cell (h j v hv) hM
theorem framed_items (p : Nat) (L : List ItemD) : Framed (ItemsIs p L) where
 keep := by
  rintro w w' S M ⟨v, B, h1, h2, h3, h4, h5, h6, hs⟩ hc hM
  have hp : ¬ M p := fun e => (hM p e).1 ((hs p).2 (.inl rfl))
  have hB : ∀ b ∈ B, ¬ M b := fun b hb e => (hM b e).1 ((hs b).2 (.inr (.inr hb)))
  refine ⟨v, B, hc.obj h1 hp, owns_grow h2 hc (fun g hg e => (hM g e).1 ((hs g).2 (.inr (.inl hg)))), h3, h4, fun b hb => ⟨hc.tag (h5 b hb).1 (hB b hb), there_keep (h5 b hb).2 hc (h5 b hb).1.lt (hB b hb)⟩, fun n x hx => ?_, hs⟩
  obtain ⟨b, hb, hr⟩ := h6 n x hx
  exact ⟨b, hb, range_keep hr hc (hB b (List.mem_of_getElem? hb))⟩
 lt := by
  rintro w S k ⟨v, B, h1, h2, h3, h4, h5, h6, hs⟩ hk
  rcases (hs k).1 hk with rfl | hk | hk
  ·exact (Array.getElem?_eq_some_iff.1 h1).1
  ·exact (owns_tag h2 hk).lt
  ·exact (h5 k hk).1.lt
 txt := by
  rintro w S k ⟨v, B, h1, h2, h3, h4, h5, h6, hs⟩ hk e
  rcases (hs k).1 hk with rfl | hk | hk
  ·exact absurd ((Tag.of h1).one e) (by decide)
  ·exact absurd ((owns_tag h2 hk).one e) (by decide)
  ·exact absurd ((h5 k hk).1.one e) (by decide)
theorem itemsNew_any (w : World) : Calls Tryz.prog 67 #[] w fun e w' => e = .returned (ptrN w.heap.size) ∧ w' = w.alloc (.cells #[.slice none 0 0, .int .i64 0] 197) := by
 go_enter Tryz.func67, Tryz.ntmps67
 go_wp2_with fail
 go_ret
 exact ⟨rfl, rfl⟩
theorem items_new (w : World) : ItemsIs w.heap.size [] (w.alloc (.cells #[.slice none 0 0, .int .i64 0] 197)) (fun k => k = w.heap.size) :=
 ⟨.slice none 0 0, [], by rw [heap_mem]; rfl, World.ownsRow_nil _ _ _ _, ⟨by simp, by simp⟩, List.nodup_nil, (fun _ h => nomatch h), (fun _ _ h => by simp at h), fun k => by simp [Value.ownBlock]⟩
theorem idx_blockp {a : Option Addr} {g o n c k : Nat} (ha : a = some ⟨g, o, none⟩) (hk : k < n) (W : World) : (Instr.indexAt 195 (.slice a n c) (.int .i64 (k : Int))).run Tryz.prog W = .ok (.pointer (some ⟨g, o + k, none⟩)) W := by
 subst ha
 have h0 : (0 : Int) ≤ (k : Int) := by omega
 have h1 : (k : Int) < (n : Int) := by omega
 have h2 := Tryz.underlying195
 go_simp
theorem infoItem6 : (Tryz.prog.info? 29).map (fun i => (i.zero, i.size, i.bytes)) = some (some noItemV, 6, 64) := by kernel_rfl
theorem idx_inblock {b k : Nat} (hk : k < 64) (W : World) : (Instr.indexAt 380 (.pointer (some ⟨b, 0, none⟩)) (.int .i64 (k : Int))).run Tryz.prog W = .ok (.pointer (some ⟨b, k * 6, none⟩)) W := by
 have h0 : (0 : Int) ≤ (k : Int) := by omega
 have h1 : (k : Int) < 64 := by omega
 have h2 := Tryz.underlying380
 obtain ⟨i0, hi, hz0, hz1, hz2⟩ := infoP_parts infoItem6
 go_simp
theorem place_any {w : World} {p : Nat} {v : Value} {N : Value} {B : List Nat} {n b : Nat} (h1 : w.heap[p]? = some (.cells #[v, N] 197 (0, 0))) (h2 : w.ownsRow 0 228 1 v B.length (B.map ptrN)) (hn : n ≤ 1048576) (hb : B[n / 64]? = some b) :
  Calls Tryz.prog 82 #[ptrN p, .int .i64 (n : Int)] w fun e w' => e = .returned (.pointer (some ⟨b, n % 64 * 6, none⟩)) ∧ w = w' := by
 have c0 : w.cell? ⟨p, 0, none⟩ = some v := (cellsAt h1 0).1
 obtain ⟨g, o, c, hv, hcc, hx, -⟩ := (Row.of_owns h2).at (k := n / 64) (x := ptrN b) (by rw [List.getElem?_map, hb]; rfl)
 have hlt : n / 64 < B.length := (List.getElem?_eq_some_iff.1 hb).1
 subst hv
 have q1 : (n : Int).tdiv 64 = ((n / 64 : Nat) : Int) := by rw [Int.tdiv_eq_ediv_of_nonneg (by omega)]; omega
 have q2 : (n : Int).tmod 64 = ((n % 64 : Nat) : Int) := by rw [Int.tmod_eq_emod_of_nonneg (by omega)]; omega
 have q3 : IntKind.i64.wrap ((n / 64 : Nat) : Int) = ((n / 64 : Nat) : Int) := IntWalk.i64_in _ (by omega)
 have i1 : ∀ W : World, (Instr.indexAt 195 (.slice (some ⟨g, o, none⟩) B.length c) (.int .i64 ((n / 64 : Nat) : Int))).run Tryz.prog W = .ok (.pointer (some ⟨g, o + n / 64, none⟩)) W := fun W => idx_blockp rfl hlt W
 have i2 : ∀ W : World, (Instr.indexAt 380 (.pointer (some ⟨b, 0, none⟩)) (.int .i64 ((n % 64 : Nat) : Int))).run Tryz.prog W = .ok (.pointer (some ⟨b, n % 64 * 6, none⟩)) W := fun W => idx_inblock (Nat.mod_lt _ (by omega)) W
 clear h1 h2 hb hn hcc
 obtain ⟨q, hq⟩ : ∃ q : Int, q = ((n / 64 : Nat) : Int) := ⟨_, rfl⟩
 obtain ⟨r, hr⟩ : ∃ q : Int, q = ((n % 64 : Nat) : Int) := ⟨_, rfl⟩
 obtain ⟨N', hN⟩ : ∃ q : Int, q = (n : Int) := ⟨_, rfl⟩
 obtain ⟨a1, ha1⟩ := xE (o + n / 64)
 obtain ⟨a2, ha2⟩ := xE (n % 64 * 6)
 rw [← hq, ← hN] at q1
 rw [← hr, ← hN] at q2
 rw [← hq] at q3 i1
 rw [← hr, ← ha2] at i2
 rw [← ha1] at i1 hx
 rw [← hN, ← ha2]
 clear hq hr hN ha1 ha2 hlt
 go_enter Tryz.func82, Tryz.ntmps82
 go_wp2_with fail
 go_ret
 exact ⟨rfl, rfl⟩
theorem World.rangeAt_of_cells {w : World} {b : Nat} {cs : List Value} {t : TypeId} (h : w.heap[b]? = some (.cells cs.toArray t (0, 0))) : w.rangeAt b 0 cs := fun j v hv => by
 rw [Nat.zero_add, (cellsAt h j).1]
 simpa using hv
theorem World.cell_setCells_apart {w : World} {p j : Nat} {v : Value} (h : w.cell? ⟨p, j, none⟩ = some v) {b o : Nat} {cs : List Value} (hb : b ≠ p) : (w.setCells b o cs).cell? ⟨p, j, none⟩ = some v := by
 have h1 : w.rangeAt p j [v] := fun i u hu => by
  cases i with
  | zero => simp at hu; subst hu; exact h
  | succ i => simp at hu
 have := World.rangeAt_setCells_apart h1 b o cs (.inl (fun e => hb e.symm)) 0 v rfl
 simpa using this
theorem infoBlockP : (Tryz.prog.info? 228).map (fun i => (i.zero, i.size, i.bytes)) = some (some (.pointer none), 1, 8) := by kernel_rfl
def AddNew (p : Nat) (v : Value) (B : List Nat) (n : Nat) (x : ItemD) (w w' : World) : Prop := ∃ (v' : Value) (b : Nat) (W4 : World),
 w.heap.size ≤ b ∧ b < W4.heap.size ∧ Tag W4 b 380 ∧ W4.there b 0 384 ∧ W4.heap[p]? = some (.cells #[v', .int .i64 (n : Int)] 197 (0, 0)) ∧ W4.ownsRow 0 228 1 v' (B.length + 1) ((B ++ [b]).map ptrN) ∧
 Chg (fun k => k = p ∨ v.ownBlock = some k) w W4 ∧ (∀ k, v'.ownBlock = some k → v.ownBlock = some k ∨ (w.heap.size ≤ k ∧ k ≠ b)) ∧ w' = ((W4.drew.setCells b (n % 64 * 6) x.cells).setCell ⟨p, 1, none⟩ (.int .i64 ((n + 1 : Nat) : Int)))
theorem itemsAdd_new {w : World} {p : Nat} {v : Value} {B : List Nat} {n : Nat} (x : ItemD) (h1 : w.heap[p]? = some (.cells #[v, .int .i64 (n : Int)] 197 (0, 0))) (h2 : w.ownsRow 0 228 1 v B.length (B.map ptrN)) (hn : n = 64 * B.length) (hn2 : n < 1048576) :
  Calls Tryz.prog 224 #[ptrN p, itemV x] w fun e w' => e = .returned (.tuple #[.int .i64 ((n + 1 : Nat) : Int), .int .i64 0]) ∧ AddNew p v B n x w w' := by
 have hZ : (Tryz.zeroCells380).size = 384 := by kernel_rfl
 obtain ⟨a, bc, rfl⟩ := (Row.of_owns h2).len
 have c0 : w.cell? ⟨p, 0, none⟩ = some (.slice a B.length bc) := (cellsAt h1 0).1
 have c1 : w.cell? ⟨p, 1, none⟩ = some (.int .i64 (n : Int)) := (cellsAt h1 1).1
 have hp : p < w.heap.size := cell_lt c0
 have d0 : ((n : Int) == 1048576) = false := by rw [beq_eq_false_iff_ne]; omega
 have d1 : ((n : Int) == 64 * (B.length : Int)) = true := by rw [beq_iff_eq]; omega
 have w1 : IntKind.i64.wrap (64 * (B.length : Int)) = 64 * (B.length : Int) := IntWalk.i64_in _ (by omega)
 have w2 : IntKind.i64.wrap ((n : Int) + 1) = ((n + 1 : Nat) : Int) := IntWalk.i64_in _ (by omega)
 obtain ⟨n1, hn1⟩ := xE (n + 1)
 rw [← hn1] at w2 ⊢
 have hBl : B.length < 16384 := by omega
 have hmf := @mkFn Tryz.prog
 obtain ⟨i0, hi, hz0, hz1, hz2⟩ := infoP_parts infoBlockP
 have Hi := hidZ hi
 have Hz := hidZ (And.intro hz0 (And.intro hz1 hz2))
 have H1 := hidZ h1
 have H2 := hidZ h2
 have HN := hidZ hn
 have HN1 := hidZ hn1
 have HZ := hidZ hZ
 clear h1 h2 hn hi hz0 hz1 hz2 hn1 hZ
 go_enter Tryz.func224, Tryz.ntmps224
 go_upto_region 5 with fail
 go_quiet (fail)
 go_upto_region 6 with fail
 obtain ⟨W1, hW1⟩ := xE ((w.alloc (.cells #[.string x.key, .string x.value, .int .u32 x.flags, .int .u64 x.id, .int .i64 x.dies, .int .i64 x.gen] 29)).drewN nq)
 have hb1 : Below w.heap.size w W1 := by rw [hW1]; exact low_drawn ((Below.refl _ _).alloc (Nat.le_refl _) _) _
 have hx1 : W1.heap[w.heap.size]? = some (.cells #[.string x.key, .string x.value, .int .u32 x.flags, .int .u64 x.id, .int .i64 x.dies, .int .i64 x.gen] 29 (0, 0)) := by rw [hW1]; exact heap_mem w _
 have hs1 : w.heap.size < W1.heap.size := (Array.getElem?_eq_some_iff.1 hx1).1
 rw [← hW1]
 have hp1 := boxAt H1.out hb1
 have e0 : W1.cell? ⟨p, 0, none⟩ = some (.slice a B.length bc) := (cellsAt hp1 0).1
 have f0 : W1.frozen? ⟨p, 0, none⟩ = false := (cellsAt hp1 0).2
 have hpl : p < W1.heap.size := cell_lt e0
 have hr1 : W1.ownsRow 0 228 1 (.slice a B.length bc) B.length (B.map ptrN) := owns_grow H2.out (Chg.of_below (M := fun _ => False) hb1) (fun _ _ e => e)
 have HPN := hidZ (show ¬ (Value.slice a B.length bc).ownBlock = some p from fun e => absurd ((owns_tag hr1 e).one (Tag.of hp1)) (by decide))
 have HP1 := hidZ hp1
 have HB1 := hidZ hb1
 have HX1 := hidZ hx1
 have HR1 := hidZ hr1
 have HS1 := hidZ hs1
 clear hW1 hb1 hx1 hs1 hp1 hr1 c0 c1 hp
 go_upto_region 7 with (first
  | (at_builtin; refine wpList_append_own_at _ (by rfl) _ _ 195 (by rfl) 0 228 i0 (.pointer none) 1 8 Tryz.underlying195 Hi.out Hz.out.1 Hz.out.2.1 Hz.out.2.2 rfl (by omega) _ _ _ (by rfl) ((HR1.out.alloc _).alloc _) ⟨W1.heap.size + 1, 0, none⟩ 1 1 [ptrN W1.heap.size] (by rfl) rfl (World.news_of_block (cs := #[ptrN W1.heap.size]) (by rw [heap_at, if_pos (by simp)])) (by simp [Value.oneCell']) (by unfold maxLen; omega) (by omega) (by simp) ?_; intro v' w3 hown3 hg3 _ hat3; obtain ⟨va, vc, rfl⟩ := (Row.of_owns hown3).len; have hC3 : Chg (fun k => (Value.slice a B.length bc).ownBlock = some k) W1 w3 := (((Chg.refl _ W1).alloc _).alloc _).trans (Chg.of_grown hg3 (fun _ _ e => e)); have hp3 := hC3.obj HP1.out HPN.out; have y0 := (cellsAt hp3 0).1; have y1 := (cellsAt hp3 0).2; have HC3 := hidZ hC3; have HP3 := hidZ hp3; have HO3 := hidZ hown3; have HT3 := hidZ hat3; have HG3 := hidZ hg3; clear hC3 hp3 hown3 hat3 hg3)
  | fail)
 obtain ⟨bb, hbb⟩ := xE (W1.heap.size)
 obtain ⟨W4, hW4⟩ := xE (w3.setCell ⟨p, 0, none⟩ (.slice va (B.length + 1) vc))
 rw [← hW4]
 have hC4 : Chg (fun k => k = p ∨ (Value.slice a B.length bc).ownBlock = some k) W1 W4 := by
  rw [hW4]
  exact (HC3.out.mono (fun _ _ e => .inr e)).trans (Chg.set (M := fun k => k = p ∨ (Value.slice a B.length bc).ownBlock = some k) (Chg.refl _ _) (fun _ => .inl rfl) _)
 have hp4 : W4.heap[p]? = some (.cells #[.slice va (B.length + 1) vc, .int .i64 (n : Int)] 197 (0, 0)) := by
  rw [hW4]
  exact Go.Joins.block_setCell (i := 0) HP3.out _
 have hbz : w3.heap[bb]? = some (.cells Tryz.zeroCells380 380 (0, 0)) := by
  rw [HG3.out.block bb (by rw [hbb]; simp; omega) (by
   rw [hbb]
   intro e
   have := (owns_tag HR1.out e.symm).lt
   omega), heap_at, if_neg (by rw [hbb]; simp), hbb, heap_at, if_pos rfl]
 have hbp : bb ≠ p := by rw [hbb]; omega
 have hbz4 : W4.heap[bb]? = some (.cells Tryz.zeroCells380 380 (0, 0)) := by
  rw [hW4]
  exact (Chg.set (M := fun k => k = p) (Chg.refl _ w3) (fun _ => rfl) _).obj hbz hbp
 have hx4 : W4.heap[w.heap.size]? = some (.cells #[.string x.key, .string x.value, .int .u32 x.flags, .int .u64 x.id, .int .i64 x.dies, .int .i64 x.gen] 29 (0, 0)) := hC4.obj HX1.out (fun e => by
  rcases e with e | e
  ·have := (Array.getElem?_eq_some_iff.1 H1.out).1
   omega
  ·exact absurd ((owns_tag HR1.out e).one (Tag.of HX1.out)) (by decide))
 have hlt4 : bb < W4.heap.size := (Array.getElem?_eq_some_iff.1 hbz4).1
 have hr4 : W4.ownsRow 0 228 1 (.slice va (B.length + 1) vc) (B.length + 1) ((B ++ [bb]).map ptrN) := by
  rw [hbb, List.map_append, hW4]
  exact owns_grow HO3.out (Chg.set (M := fun k => k = p) (Chg.refl _ w3) (fun _ => rfl) _) (fun g hg e => absurd ((owns_tag HO3.out hg).one (e ▸ Tag.of HP3.out)) (by decide))
 have hvb : ∀ k, (Value.slice va (B.length + 1) vc).ownBlock = some k → (Value.slice a B.length bc).ownBlock = some k ∨ (w.heap.size ≤ k ∧ k ≠ bb) := fun k hk => by
  rcases HT3.out with e | e
  ·exact .inl (e.symm.trans hk)
  ·rw [hk] at e
   have := HS1.out
   simp at e
   exact .inr ⟨by omega, by rw [hbb]; omega⟩
 have hnb : (B ++ [bb])[n / 64]? = some bb := by
  rw [List.getElem?_append_right (by have := HN.out; omega), show n / 64 - B.length = 0 by have := HN.out; omega]
  rfl
 have hth : W4.there bb 0 384 := fun j hj => by
  rw [Nat.zero_add]
  exact ⟨by rw [(cellsAt hbz4 j).1, Array.getElem?_eq_getElem (by rw [HZ.out]; exact hj)]; rfl, (cellsAt hbz4 j).2⟩
 have HADD := hidZ (show w.heap.size ≤ bb ∧ bb < W4.heap.size ∧ Tag W4 bb 380 ∧ W4.there bb 0 384 ∧ W4.heap[p]? = some (.cells #[(.slice va (B.length + 1) vc), .int .i64 (n : Int)] 197 (0, 0)) ∧ W4.ownsRow 0 228 1 (.slice va (B.length + 1) vc) (B.length + 1) ((B ++ [bb]).map ptrN) ∧
  Chg (fun k => k = p ∨ (Value.slice a B.length bc).ownBlock = some k) w W4 ∧ (∀ k, (Value.slice va (B.length + 1) vc).ownBlock = some k → (Value.slice a B.length bc).ownBlock = some k ∨ (w.heap.size ≤ k ∧ k ≠ bb)) from
  ⟨by have := HS1.out; omega, hlt4, Tag.of hbz4, hth, hp4, hr4, (Chg.of_below (M := fun k => k = p ∨ (Value.slice a B.length bc).ownBlock = some k) HB1.out).trans hC4, hvb⟩)
 have HP := hidZ (place_any (w := W4.drew) (n := n) (b := bb) hp4 (by rw [List.length_append]; exact hr4) (by omega) hnb)
 have HXR := hidZ (World.rangeAt_of_cells hx4)
 have HTH := hidZ hth
 have HBP := hidZ hbp
 have HXB := hidZ (show w.heap.size ≠ bb from by have := HS1.out; omega)
 have k1 : W4.cell? ⟨p, 1, none⟩ = some (.int .i64 (n : Int)) := (cellsAt hp4 1).1
 have g1 : W4.frozen? ⟨p, 1, none⟩ = false := (cellsAt hp4 1).2
 have K1D := hidZ (show W4.drew.cell? ⟨p, 1, none⟩ = some (.int .i64 (n : Int)) from k1)
 have HXD := hidZ ((World.rangeAt_drew W4 _ _ _).2 HXR.out)
 obtain ⟨o, ho⟩ := xE (n % 64 * 6)
 rw [← ho] at HP
 have HO := hidZ ho
 have HOL := hidZ (show o + 6 ≤ 384 from by have := Nat.mod_lt n (show 64 > 0 by omega); omega)
 clear hC4 hp4 hbz4 hx4 hlt4 hr4 hvb hnb hth hbz hbp hW4 hbb ho y0 y1 e0 f0 hpl
 go_upto_region 8 with fail
 refine wp_region_held_drew (S := fun W => W.cell? ⟨p, 1, none⟩ = some (.int .i64 (n : Int)) ∧ W.rangeAt w.heap.size 0 x.cells) (by kernel_rfl) ⟨k1, HXR.out⟩ (fun hHe => ?_)
 refine tkz 0 rfl ?_
 try simp only [tp, tz]
 refine tkz 1 rfl ?_
 try simp only [tp, tz]
 refine tkz 2 rfl ?_
 try simp only [tp, tz]
 refine tkz 3 rfl ?_
 try simp only [tp, tz]
 refine tkw 4 rfl ?_
 try simp only [tp, tz]
 refine wpAnyH_take (i := 6) rfl (by kernel_rfl) (by kernel_rfl) (by kernel_rfl) (fun _ _ _ h => h) (yieldsIf_load_mid (by rfl) 29 (.tmp 3) (by rfl) w.heap.size 0 (by rfl) x.cells _ (fun w hSw => hSw.2) Tryz.underlying29 rfl (by kernel_rfl)) (by assumption) ?_
 try simp only [tp, tz]
 refine rdy 5 rfl (fun K hK => ?_)
 go_simp
 go_at_call 82
 refine (HP.out).mono ?_
 rintro e w5 ⟨rfl, rfl⟩
 refine hK.out _ _ hHe (fun hHf => ?_)
 clear hK K
 try simp only [tp, tz]
 refine tkz 7 rfl ?_
 try simp only [tp, tz]
 refine rdy 8 rfl (fun K hK => ?_)
 rw [if_pos (by rfl)]
 refine wp_store_mid 29 (.tmp 47) (.tmp 46) (by rfl) bb o x.cells.toArray (by rfl) (by rfl) (fun j hj => by have := HTH.out (o + j) (by have := HOL.out; simp at hj; omega); rwa [Nat.zero_add] at this) (by kernel_rfl) (by simp [Value.oneCell']) ?_
 refine hK.out _ _ ⟨World.cell_setCells_apart (w := W4.drew) K1D.out HBP.out, World.rangeAt_setCells_apart (w := W4.drew) HXD.out _ _ _ (.inl HXB.out)⟩ (fun hHf => ?_)
 clear hK K
 try simp only [Act.put, tzD, tzE, tzF]
 refine wpAnyH_done (by kernel_rfl) ?_ _
 clear hHe
 obtain ⟨W6, hW6⟩ := xE (W4.drew.setCells bb o x.cells.toArray.toList)
 rw [← hW6] at hHf ⊢
 have m1 := hHf.1
 have m2 : W6.frozen? ⟨p, 1, none⟩ = false := by rw [hW6, World.frozen?_setCells]; exact g1
 have H6 := hidZ hW6
 clear hHf hW6 k1 g1
 go_wp2_with fail
 obtain ⟨a1, a2, a3, a4, a5, a6, a7, a8⟩ := HADD.out
 exact bodyPost_ret (v := .tuple #[.int .i64 (n1 : Int), .int .i64 0]) (by simp [results, Tryz.results224, go_sem]) rfl ⟨rfl, _, bb, W4, a1, a2, a3, a4, a5, a6, a7, a8, by rw [H6.out, HO.out, HN1.out]⟩
end Go.Proofs.YtnkkoicbnbjlnaaGreatDoor
