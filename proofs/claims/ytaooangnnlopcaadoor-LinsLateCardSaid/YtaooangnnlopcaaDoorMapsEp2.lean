/- What epochs.Flush and epochs.Alive answer. No condition. -/
import Derived.Test.YtaooangnnlopcaaDoorMapsEp
import Derived.Test.YtaooangnnlopcaaDoorMapObj
import Derived.Lib.SmallJoins
namespace Go.Proofs.YtaooangnnlopcaaDoor
open Go.RowKit

set_option maxRecDepth 100000 in
set_option maxHeartbeats 4000000 in
theorem flushEp_any (ep : Nat) (x : Int) (he : ep < 18446744073709551616) (w : World) : Calls Tryd.prog 87 #[.int .u64 (ep : Int), .int .i64 x] w fun e w' => e = .returned (.tuple #[.int .u64 ((flushE ep x).1 : Int), .bool (flushE ep x).2]) ∧ Below w.heap.size w w' := by
  have HS := Lib.hid (said_any ep he w)
  have hn := now_lt ep
  have ha := at_lt ep
  have hg := gen_lt he
  clear he
  unfold flushE
  generalize nowE ep = n at *
  generalize atE ep = a at *
  generalize genE ep = g at *
  by_cases h0 : g = 65535
  · rw [if_pos h0]
    have d0 : ((g : Int) == 65535) = true := by rw [beq_iff_eq]; omega
    clear h0 hn ha hg
    go_enter Tryd.func87, Tryd.ntmps87
    go_wp2_with fail
    refine HS.out.mono ?_
    rintro e w1 ⟨rfl, hb⟩
    have HB := Lib.hid hb
    clear hb
    go_wp2_with fail
    go_ret2
    exact ⟨rfl, HB.out.alloc HB.out.size _⟩
  · rw [if_neg h0]
    have d0 : ((g : Int) == 65535) = false := by rw [beq_eq_false_iff_ne]; omega
    by_cases h1 : 0 < x
    · rw [if_pos h1]
      obtain ⟨k, hk⟩ : ∃ k : Nat, k = (min x (16777215 - (n : Int))).toNat := ⟨_, rfl⟩
      rw [← hk]
      have m1 : min x (16777215 - (n : Int)) = (k : Int) := by omega
      have q0 : wrap64 (16777215 - (n : Int)) = 16777215 - (n : Int) := IntWalk.wrap64_in _ (by omega)
      have q1 : wrap64 ((n : Int) + (k : Int)) = (n : Int) + (k : Int) := IntWalk.wrap64_in _ (by omega)
      have hw := fun W => word_any n (n + k) g (by omega) (by omega) (by omega) W
      rw [show ((n + k : Nat) : Int) = (n : Int) + (k : Int) from by omega] at hw
      generalize n + k = nk at *
      have HW := Lib.hid hw
      clear hw
      clear h0 hn ha hg hk
      go_enter Tryd.func87, Tryd.ntmps87
      go_wp2_with fail
      refine HS.out.mono ?_
      rintro e w1 ⟨rfl, hb⟩
      have HB := Lib.hid hb
      clear hb
      go_wp2_with fail
      refine (HW.out _).mono ?_
      rintro e w2 ⟨rfl, hb2⟩
      have HB2 := Lib.hid hb2
      clear hb2
      go_wp2_with fail
      go_ret2
      exact ⟨rfl, (HB.out.alloc HB.out.size _).trans (HB2.out.mono (by have := HB.out.size; simp; omega))⟩
    · rw [if_neg h1]
      have h1' : x ≤ 0 := by omega
      have q1 : wrap64 ((g : Int) + 1) = (g : Int) + 1 := IntWalk.wrap64_in _ (by omega)
      have hw := fun W => word_any n 0 (g + 1) (by omega) (by omega) (by omega) W
      rw [show ((g + 1 : Nat) : Int) = (g : Int) + 1 from by omega] at hw
      generalize g + 1 = g1 at *
      have HW := Lib.hid hw
      clear hw
      clear h0 hn ha hg h1
      go_enter Tryd.func87, Tryd.ntmps87
      go_wp2_with fail
      refine HS.out.mono ?_
      rintro e w1 ⟨rfl, hb⟩
      have HB := Lib.hid hb
      clear hb
      go_wp2_with fail
      refine (HW.out _).mono ?_
      rintro e w2 ⟨rfl, hb2⟩
      have HB2 := Lib.hid hb2
      clear hb2
      go_wp2_with fail
      go_ret2
      exact ⟨rfl, (HB.out.alloc HB.out.size _).trans (HB2.out.mono (by have := HB.out.size; simp; omega))⟩
/-- An item asked of, in an epoch. -/
abbrev askedE (n a g : Nat) (x : ItemD) : Value := .agg #[.int .i64 (n : Int), .int .i64 (a : Int), .int .i64 (g : Int), .string x.key, .string x.value, .int .u32 x.flags, .int .u64 x.id, .int .i64 x.dies, .int .i64 x.gen]
set_option maxRecDepth 100000 in
theorem expired_any (n a g : Nat) (x : ItemD) (w : World) : Calls Tryd.prog 38 #[askedE n a g x] w fun e w' => e = .returned (.bool (x.dies != -1 && decide (x.dies ≤ (n : Int)))) ∧ Below w.heap.size w w' := by
  cases h1 : x.dies != -1
  · go_enter Tryd.func38, Tryd.ntmps38
    go_wp2_with fail
    go_ret
    exact ⟨rfl, (Below.refl _ _).alloc (Nat.le_refl _) _⟩
  · go_enter Tryd.func38, Tryd.ntmps38
    go_wp2_with fail
    go_ret
    exact ⟨rfl, (Below.refl _ _).alloc (Nat.le_refl _) _⟩
theorem flushed_any (n a g : Nat) (x : ItemD) (w : World) : Calls Tryd.prog 39 #[askedE n a g x] w fun e w' => e = .returned (.bool (x.gen != (g : Int))) ∧ Below w.heap.size w w' := by
  go_enter Tryd.func39, Tryd.ntmps39
  go_wp2_with fail
  go_ret
  exact ⟨rfl, (Below.refl _ _).alloc (Nat.le_refl _) _⟩
theorem cells_at {w : World} {p : Nat} {cs : Array Value} {t : TypeId} (h : w.heap[p]? = some (.cells cs t (0, 0))) (j : Nat) : w.cell? ⟨p, j, none⟩ = cs[j]? ∧ w.frozen? ⟨p, j, none⟩ = false := by
  constructor
  · simp [World.cell?, h]
  · simp [World.frozen?, h]
theorem box_at {w w1 : World} {o : Obj} (hb : Below (w.alloc o).heap.size (w.alloc o) w1) : w1.heap[w.heap.size]? = some o := by
  rw [hb.block w.heap.size (by rw [size_at]; omega), heap_at, if_pos rfl]
theorem box_drew {w w1 : World} {o : Obj} (hb : Below (w.alloc o).drew.heap.size (w.alloc o).drew w1) : w1.heap[w.heap.size]? = some o := by
  have h1 := hb.block w.heap.size (show w.heap.size < (w.alloc o).heap.size by rw [size_at]; omega)
  refine h1.trans ?_
  show (w.alloc o).heap[w.heap.size]? = _
  rw [heap_at, if_pos rfl]
theorem box_drew2 {w w1 : World} {o o2 : Obj} (hb : Below ((w.alloc o).drew.alloc o2).heap.size ((w.alloc o).drew.alloc o2) w1) : w1.heap[w.heap.size]? = some o ∧ w1.heap[w.heap.size + 1]? = some o2 := by
  constructor
  · have h1 := hb.block w.heap.size (show w.heap.size < ((w.alloc o).alloc o2).heap.size by rw [size_at, size_at]; omega)
    refine h1.trans ?_
    show ((w.alloc o).alloc o2).heap[w.heap.size]? = _
    rw [heap_at, if_neg (by rw [size_at]; omega), heap_at, if_pos rfl]
  · have h1 := hb.block (w.heap.size + 1) (show w.heap.size + 1 < ((w.alloc o).alloc o2).heap.size by rw [size_at, size_at]; omega)
    refine h1.trans ?_
    show ((w.alloc o).alloc o2).heap[w.heap.size + 1]? = _
    rw [heap_at, if_pos (by rw [size_at])]
theorem fill9 {w : World} {g : Nat} {t : TypeId} {fr : Nat × Nat} {x0 x1 x2 x3 x4 x5 x6 x7 x8 : Value} (h : w.heap[g]? = some (.cells #[x0, x1, x2, x3, x4, x5, x6, x7, x8] t fr)) (v0 v1 v2 v3 v4 v5 v6 v7 v8 : Value) :
    (((((((((w.setCell ⟨g, 0, none⟩ v0).setCell ⟨g, 1, none⟩ v1).setCell ⟨g, 2, none⟩ v2).setCell ⟨g, 3, none⟩ v3).setCell ⟨g, 4, none⟩ v4).setCell ⟨g, 5, none⟩ v5).setCell ⟨g, 6, none⟩ v6).setCell ⟨g, 7, none⟩ v7).setCell ⟨g, 8, none⟩ v8).heap[g]? = some (.cells #[v0, v1, v2, v3, v4, v5, v6, v7, v8] t fr) := by
  have h0 := Go.Joins.block_setCell (i := 0) h v0
  have h1 := Go.Joins.block_setCell (i := 1) h0 v1
  have h2 := Go.Joins.block_setCell (i := 2) h1 v2
  have h3 := Go.Joins.block_setCell (i := 3) h2 v3
  have h4 := Go.Joins.block_setCell (i := 4) h3 v4
  have h5 := Go.Joins.block_setCell (i := 5) h4 v5
  have h6 := Go.Joins.block_setCell (i := 6) h5 v6
  have h7 := Go.Joins.block_setCell (i := 7) h6 v7
  have h8 := Go.Joins.block_setCell (i := 8) h7 v8
  simpa using h8
theorem below9 {B : Nat} {w0 w : World} {g : Nat} (hb : Below B w0 w) (hg : B ≤ g) (v0 v1 v2 v3 v4 v5 v6 v7 v8 : Value) :
    Below B w0 (((((((((w.setCell ⟨g, 0, none⟩ v0).setCell ⟨g, 1, none⟩ v1).setCell ⟨g, 2, none⟩ v2).setCell ⟨g, 3, none⟩ v3).setCell ⟨g, 4, none⟩ v4).setCell ⟨g, 5, none⟩ v5).setCell ⟨g, 6, none⟩ v6).setCell ⟨g, 7, none⟩ v7).setCell ⟨g, 8, none⟩ v8) :=
  (Below.setCell (Below.setCell (Below.setCell (Below.setCell (Below.setCell (Below.setCell (Below.setCell (Below.setCell (Below.setCell hb hg v0) hg v1) hg v2) hg v3) hg v4) hg v5) hg v6) hg v7) hg v8)
theorem alive_parts (x : ItemD) (ep : Nat) : aliveE x ep = (!(x.dies != -1 && decide (x.dies ≤ (nowE ep : Int))) && !(x.gen != (genE ep : Int))) := by
  unfold aliveE
  rw [Bool.eq_iff_iff]
  simp only [Bool.and_eq_true, Bool.or_eq_true, Bool.not_eq_true', bne_eq_false_iff_eq, beq_iff_eq, decide_eq_true_eq, Bool.and_eq_false_iff, decide_eq_false_iff_not]
  omega
set_option maxRecDepth 100000 in
set_option maxHeartbeats 4000000 in
theorem alive_any (x : ItemD) (ep : Nat) (he : ep < 18446744073709551616) (w : World) : Calls Tryd.prog 17 #[x.val, .int .u64 (ep : Int)] w fun e w' => e = .returned (.bool (aliveE x ep)) ∧ Below w.heap.size w w' := by
  have HS := Lib.hid (fun W => said_any ep he W)
  clear he
  rw [alive_parts]
  generalize nowE ep = n at *
  generalize atE ep = a at *
  generalize genE ep = g at *
  have HX := Lib.hid (fun W => expired_any n a g x W)
  have HF := Lib.hid (fun W => flushed_any n a g x W)
  go_enter Tryd.func17, Tryd.ntmps17
  go_upto_region 1 with fail
  go_cut [5] (fun s5 wx => ∃ q, s5 = .pointer (some ⟨q, 0, none⟩) ∧ wx.heap[q]? = some (.cells #[.int .i64 (n : Int), .int .i64 (a : Int), .int .i64 (g : Int), .string x.key, .string x.value, .int .u32 x.flags, .int .u64 x.id, .int .i64 x.dies, .int .i64 x.gen] 97 (0, 0)) ∧ Below w.heap.size w wx)
  case first =>
    go_region_law (first
      | (refine stepC (by rfl) 35 #[.int .u64 (ep : Int)] (by go_simp) (HS.out _) ?_; rintro e w1 ⟨rfl, hb1⟩; refine ⟨_, rfl, ?_⟩; have hbx := box_drew hb1; have hlt := (Array.getElem?_eq_some_iff.1 hbx).1; have y0 : w1.cell? ⟨w.heap.size, 0, none⟩ = some (.string x.key) := (cells_at hbx 0).1; have y1 : w1.cell? ⟨w.heap.size, 1, none⟩ = some (.string x.value) := (cells_at hbx 1).1; have y2 : w1.cell? ⟨w.heap.size, 2, none⟩ = some (.int .u32 x.flags) := (cells_at hbx 2).1; have y3 : w1.cell? ⟨w.heap.size, 3, none⟩ = some (.int .u64 x.id) := (cells_at hbx 3).1; have y4 : w1.cell? ⟨w.heap.size, 4, none⟩ = some (.int .i64 x.dies) := (cells_at hbx 4).1; have y5 : w1.cell? ⟨w.heap.size, 5, none⟩ = some (.int .i64 x.gen) := (cells_at hbx 5).1; have HB2 := Lib.hid ((bdrew ((Below.refl w.heap.size w).alloc (Nat.le_refl _) _)).trans (hb1.mono (by show w.heap.size ≤ (w.alloc _).heap.size; rw [size_at]; omega))); clear hb1 hbx)
      | (refine stepC (by rfl) 35 #[.int .u64 (ep : Int)] (by go_simp) (HS.out _) ?_; rintro e w1 ⟨rfl, hb1⟩; refine ⟨_, rfl, ?_⟩; obtain ⟨hbx, hby⟩ := box_drew2 hb1; have hlt := (Array.getElem?_eq_some_iff.1 hby).1; have x0 : w1.cell? ⟨w.heap.size + 1, 0, none⟩ = some (.int .i64 0) := (cells_at hby 0).1; have f0 := (cells_at hby 0).2; have x1 : w1.cell? ⟨w.heap.size + 1, 1, none⟩ = some (.int .i64 0) := (cells_at hby 1).1; have f1 := (cells_at hby 1).2; have x2 : w1.cell? ⟨w.heap.size + 1, 2, none⟩ = some (.int .i64 0) := (cells_at hby 2).1; have f2 := (cells_at hby 2).2; have x3 : w1.cell? ⟨w.heap.size + 1, 3, none⟩ = some (.string ⟨#[]⟩) := (cells_at hby 3).1; have f3 := (cells_at hby 3).2; have x4 : w1.cell? ⟨w.heap.size + 1, 4, none⟩ = some (.string ⟨#[]⟩) := (cells_at hby 4).1; have f4 := (cells_at hby 4).2; have x5 : w1.cell? ⟨w.heap.size + 1, 5, none⟩ = some (.int .u32 0) := (cells_at hby 5).1; have f5 := (cells_at hby 5).2; have x6 : w1.cell? ⟨w.heap.size + 1, 6, none⟩ = some (.int .u64 0) := (cells_at hby 6).1; have f6 := (cells_at hby 6).2; have x7 : w1.cell? ⟨w.heap.size + 1, 7, none⟩ = some (.int .i64 0) := (cells_at hby 7).1; have f7 := (cells_at hby 7).2; have x8 : w1.cell? ⟨w.heap.size + 1, 8, none⟩ = some (.int .i64 0) := (cells_at hby 8).1; have f8 := (cells_at hby 8).2; have hlt0 := (Array.getElem?_eq_some_iff.1 hbx).1; have y0 : w1.cell? ⟨w.heap.size, 0, none⟩ = some (.string x.key) := (cells_at hbx 0).1; have y1 : w1.cell? ⟨w.heap.size, 1, none⟩ = some (.string x.value) := (cells_at hbx 1).1; have y2 : w1.cell? ⟨w.heap.size, 2, none⟩ = some (.int .u32 x.flags) := (cells_at hbx 2).1; have y3 : w1.cell? ⟨w.heap.size, 3, none⟩ = some (.int .u64 x.id) := (cells_at hbx 3).1; have y4 : w1.cell? ⟨w.heap.size, 4, none⟩ = some (.int .i64 x.dies) := (cells_at hbx 4).1; have y5 : w1.cell? ⟨w.heap.size, 5, none⟩ = some (.int .i64 x.gen) := (cells_at hbx 5).1; have HB2 := Lib.hid (((bdrew ((Below.refl w.heap.size w).alloc (Nat.le_refl _) _)).alloc (by show w.heap.size ≤ (w.alloc _).heap.size; rw [size_at]; omega) _).trans (hb1.mono (by show w.heap.size ≤ ((w.alloc _).alloc _).heap.size; rw [size_at, size_at]; omega))); have HBY := Lib.hid hby; clear hb1 hbx hby)
      | fail)
    all_goals
      go_wp2_with fail
      go_meet
    all_goals first
      | (case rel => exact ⟨_, rfl, fill9 HBY.out _ _ _ _ _ _ _ _ _, below9 HB2.out (Nat.le_succ _) _ _ _ _ _ _ _ _ _⟩)
      | (case rel => exact ⟨_, rfl, (by rw [heap_at, if_pos rfl]), Below.alloc HB2.out (Nat.le_of_lt hlt) _⟩)
  case rest =>
    obtain ⟨q, rfl, hbx, hb⟩ := hcut
    have hq : q < wc.heap.size := (Array.getElem?_eq_some_iff.1 hbx).1
    have z0 : wc.cell? ⟨q, 0, none⟩ = some (.int .i64 (n : Int)) := (cells_at hbx 0).1
    have z1 : wc.cell? ⟨q, 1, none⟩ = some (.int .i64 (a : Int)) := (cells_at hbx 1).1
    have z2 : wc.cell? ⟨q, 2, none⟩ = some (.int .i64 (g : Int)) := (cells_at hbx 2).1
    have z3 : wc.cell? ⟨q, 3, none⟩ = some (.string x.key) := (cells_at hbx 3).1
    have z4 : wc.cell? ⟨q, 4, none⟩ = some (.string x.value) := (cells_at hbx 4).1
    have z5 : wc.cell? ⟨q, 5, none⟩ = some (.int .u32 x.flags) := (cells_at hbx 5).1
    have z6 : wc.cell? ⟨q, 6, none⟩ = some (.int .u64 x.id) := (cells_at hbx 6).1
    have z7 : wc.cell? ⟨q, 7, none⟩ = some (.int .i64 x.dies) := (cells_at hbx 7).1
    have z8 : wc.cell? ⟨q, 8, none⟩ = some (.int .i64 x.gen) := (cells_at hbx 8).1
    have HB := Lib.hid hb
    clear hb hbx
    cases h1 : (x.dies != -1 && decide (x.dies ≤ (n : Int)))
    · go_wp2_with fail
      refine (HX.out _).mono ?_
      rintro e w3 ⟨rfl, hb3⟩
      rw [h1]
      have HB3 := Lib.hid (HB.out.trans (hb3.mono HB.out.size))
      obtain ⟨k3, -⟩ := bcell hb3
      clear hb3
      go_wp2_with fail
      refine (HF.out _).mono ?_
      rintro e w4 ⟨rfl, hb4⟩
      have HB4 := Lib.hid (HB3.out.trans (hb4.mono HB3.out.size))
      clear hb4
      go_wp2_with fail
      go_ret
      exact ⟨(by rw [h1]; rfl), HB4.out⟩
    · go_wp2_with fail
      refine (HX.out _).mono ?_
      rintro e w3 ⟨rfl, hb3⟩
      rw [h1]
      have HB3 := Lib.hid (HB.out.trans (hb3.mono HB.out.size))
      clear hb3
      go_wp2_with fail
      go_ret
      exact ⟨(by rw [h1]; rfl), HB3.out⟩
end Go.Proofs.YtaooangnnlopcaaDoor
