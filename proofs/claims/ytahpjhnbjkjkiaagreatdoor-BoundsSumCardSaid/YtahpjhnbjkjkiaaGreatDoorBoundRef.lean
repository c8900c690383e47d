/- The document's May, Room, Turn, Evict, Steps and Windows, walked; a config as the document has it. No condition but the number of calls. -/
import Derived.Test.YtahpjhnbjkjkiaaGreatDoorLowM
import Derived.StillTailTactics
namespace Go.Proofs.YtahpjhnbjkjkiaaGreatDoor
open Go.RowKit Go.ChangeMaps Go.MapKept

set_option maxRecDepth 100000 in
set_option maxHeartbeats 4000000 in
theorem refMay10_any (c : CfgD) (w : World) : Calls Tryz.prog 60 #[cfgV c] w fun e w' => e = .returned (.bool (mayC c)) ∧ Below w.heap.size w w' := by
  have HB0 := Lib.hid (show Below w.heap.size w (w.alloc (.cells (cfgCells c).toArray 50)) from (Below.refl _ _).alloc (Nat.le_refl _) _)
  rcases (Decidable.em (1 ≤ c.bits)).symm with h0 | h0
  · have hno : mayC c = false := may_no (fun h => h0 h.b0)
    have HN := Lib.hid hno
    clear hno
    have g0 : c.bits < 1 := by omega
    go_enter Tryz.func60, Tryz.ntmps60
    go_wp2_with fail
    go_ret
    exact ⟨by rw [HN.out]; rfl, HB0.out⟩
  rcases (Decidable.em (c.bits ≤ 12)).symm with h1 | h1
  · have hno : mayC c = false := may_no (fun h => h1 h.b1)
    have HN := Lib.hid hno
    clear hno
    have g1 : 12 < c.bits := by omega
    have g0 : ¬ (c.bits < 1) := by omega
    go_enter Tryz.func60, Tryz.ntmps60
    go_wp2_with fail
    go_ret
    exact ⟨by rw [HN.out]; rfl, HB0.out⟩
  rcases (Decidable.em (1 ≤ c.budget)).symm with h2 | h2
  · have hno : mayC c = false := may_no (fun h => h2 h.u0)
    have HN := Lib.hid hno
    clear hno
    have g2 : c.budget < 1 := by omega
    have g0 : ¬ (c.bits < 1) := by omega
    have g1 : ¬ (12 < c.bits) := by omega
    go_enter Tryz.func60, Tryz.ntmps60
    go_wp2_with fail
    go_ret
    exact ⟨by rw [HN.out]; rfl, HB0.out⟩
  rcases (Decidable.em (c.budget ≤ 65536)).symm with h3 | h3
  · have hno : mayC c = false := may_no (fun h => h3 h.u1)
    have HN := Lib.hid hno
    clear hno
    have g3 : 65536 < c.budget := by omega
    have g0 : ¬ (c.bits < 1) := by omega
    have g1 : ¬ (12 < c.bits) := by omega
    have g2 : ¬ (c.budget < 1) := by omega
    go_enter Tryz.func60, Tryz.ntmps60
    go_wp2_with fail
    go_ret
    exact ⟨by rw [HN.out]; rfl, HB0.out⟩
  rcases (Decidable.em (0 ≤ c.tries)).symm with h4 | h4
  · have hno : mayC c = false := may_no (fun h => h4 h.t0)
    have HN := Lib.hid hno
    clear hno
    have g4 : ¬ (0 ≤ c.tries) := by omega
    have g0 : ¬ (c.bits < 1) := by omega
    have g1 : ¬ (12 < c.bits) := by omega
    have g2 : ¬ (c.budget < 1) := by omega
    have g3 : ¬ (65536 < c.budget) := by omega
    go_enter Tryz.func60, Tryz.ntmps60
    go_wp2_with fail
    go_ret
    exact ⟨by rw [HN.out]; rfl, HB0.out⟩
  rcases (Decidable.em (c.tries ≤ 16)).symm with h5 | h5
  · have hno : mayC c = false := may_no (fun h => h5 h.t1)
    have HN := Lib.hid hno
    clear hno
    have g5 : ¬ (c.tries ≤ 16) := by omega
    have g0 : ¬ (c.bits < 1) := by omega
    have g1 : ¬ (12 < c.bits) := by omega
    have g2 : ¬ (c.budget < 1) := by omega
    have g3 : ¬ (65536 < c.budget) := by omega
    go_enter Tryz.func60, Tryz.ntmps60
    go_wp2_with fail
    go_ret
    exact ⟨by rw [HN.out]; rfl, HB0.out⟩
  rcases (Decidable.em (1 ≤ c.quantum)).symm with h6 | h6
  · have hno : mayC c = false := may_no (fun h => h6 h.q0)
    have HN := Lib.hid hno
    clear hno
    have g6 : ¬ (1 ≤ c.quantum) := by omega
    have g0 : ¬ (c.bits < 1) := by omega
    have g1 : ¬ (12 < c.bits) := by omega
    have g2 : ¬ (c.budget < 1) := by omega
    have g3 : ¬ (65536 < c.budget) := by omega
    go_enter Tryz.func60, Tryz.ntmps60
    go_wp2_with fail
    go_ret
    exact ⟨by rw [HN.out]; rfl, HB0.out⟩
  rcases (Decidable.em (c.quantum ≤ 8)).symm with h7 | h7
  · have hno : mayC c = false := may_no (fun h => h7 h.q1)
    have HN := Lib.hid hno
    clear hno
    have g7 : ¬ (c.quantum ≤ 8) := by omega
    have g0 : ¬ (c.bits < 1) := by omega
    have g1 : ¬ (12 < c.bits) := by omega
    have g2 : ¬ (c.budget < 1) := by omega
    have g3 : ¬ (65536 < c.budget) := by omega
    go_enter Tryz.func60, Tryz.ntmps60
    go_wp2_with fail
    go_ret
    exact ⟨by rw [HN.out]; rfl, HB0.out⟩
  rcases (Decidable.em (2 ≤ c.way)).symm with h8 | h8
  · have hno : mayC c = false := may_no (fun h => h8 h.y0)
    have HN := Lib.hid hno
    clear hno
    have g8 : ¬ (2 ≤ c.way) := by omega
    have g0 : ¬ (c.bits < 1) := by omega
    have g1 : ¬ (12 < c.bits) := by omega
    have g2 : ¬ (c.budget < 1) := by omega
    have g3 : ¬ (65536 < c.budget) := by omega
    go_enter Tryz.func60, Tryz.ntmps60
    go_wp2_with fail
    go_ret
    exact ⟨by rw [HN.out]; rfl, HB0.out⟩
  rcases (Decidable.em (c.way ≤ 256)).symm with h9 | h9
  · have hno : mayC c = false := may_no (fun h => h9 h.y1)
    have HN := Lib.hid hno
    clear hno
    have g9 : ¬ (c.way ≤ 256) := by omega
    have g0 : ¬ (c.bits < 1) := by omega
    have g1 : ¬ (12 < c.bits) := by omega
    have g2 : ¬ (c.budget < 1) := by omega
    have g3 : ¬ (65536 < c.budget) := by omega
    go_enter Tryz.func60, Tryz.ntmps60
    go_wp2_with fail
    go_ret
    exact ⟨by rw [HN.out]; rfl, HB0.out⟩
  have hyes : mayC c = true := may_mk ⟨h0, h1, h2, h3, h4, h5, h6, h7, h8, h9⟩
  have HY := Lib.hid hyes
  clear hyes
  have g0 : ¬ (c.bits < 1) := by omega
  have g1 : ¬ (12 < c.bits) := by omega
  have g2 : ¬ (c.budget < 1) := by omega
  have g3 : ¬ (65536 < c.budget) := by omega
  go_enter Tryz.func60, Tryz.ntmps60
  go_wp2_with fail
  go_ret
  exact ⟨by rw [HY.out]; rfl, HB0.out⟩
theorem cfg_keep2 {w : World} {c : CfgD} {W W' : World} {p q : Nat} {u : Value} (hb : Below W.heap.size W W') (h : CfgS w c W ∧ W.cell? ⟨p, q, none⟩ = some u) : CfgS w c W' ∧ W'.cell? ⟨p, q, none⟩ = some u :=
  ⟨cfg_keep hb h.1, (hb.cell (p := ⟨p, q, none⟩) (cell_lt h.2)).trans h.2⟩
theorem rcfg_box {w : World} {c : CfgD} {W : World} (hb : Below (w.heap.size + 1) (w.alloc (.cells (cfgCells c).toArray 50)) W) (hl : Below w.heap.size w W) : CfgS w c W := by
  have hx : W.heap[w.heap.size]? = some (.cells (cfgCells c).toArray 50 (0, 0)) := by rw [hb.block _ (by omega)]; exact heap_alloc_new _ _
  exact ⟨(block_cell hx 0).1, (block_cell hx 1).1, (block_cell hx 2).1, (block_cell hx 3).1, (block_cell hx 4).1, hl⟩
set_option maxRecDepth 100000 in
set_option maxHeartbeats 8000000 in
theorem refRoom_any (c : CfgD) (w : World) : Calls Tryz.prog 23 #[cfgV c] w (IntOk (roomZ c) w) := by
  have HB0 := Lib.hid (show Below w.heap.size w (w.alloc (.cells (cfgCells c).toArray 50)) from (Below.refl _ _).alloc (Nat.le_refl _) _)
  cases hm : mayC c
  · have hz : roomZ c = 0 := by unfold roomZ; rw [hm]; rfl
    have HM := Lib.hid (show Calls Tryz.prog 60 #[cfgV c] (w.alloc (.cells (cfgCells c).toArray 50)) fun e w' => e = .returned (.bool false) ∧ Below (w.alloc (.cells (cfgCells c).toArray 50)).heap.size (w.alloc (.cells (cfgCells c).toArray 50)) w' by
      have := refMay10_any c (w.alloc (.cells (cfgCells c).toArray 50))
      rwa [hm] at this)
    rw [hz]
    clear hz hm
    go_enter Tryz.func23, Tryz.ntmps23
    go_wp2_with fail
    refine HM.out.mono ?_
    rintro e w1 ⟨rfl, hb1⟩
    have HB1 := Lib.hid (HB0.out.trans (hb1.mono HB0.out.size))
    clear hb1
    go_wp2_with fail
    go_ret
    exact ⟨rfl, HB1.out⟩
  · have HM := Lib.hid (show Calls Tryz.prog 60 #[cfgV c] (w.alloc (.cells (cfgCells c).toArray 50)) fun e w' => e = .returned (.bool true) ∧ Below (w.alloc (.cells (cfgCells c).toArray 50)).heap.size (w.alloc (.cells (cfgCells c).toArray 50)) w' by
      have := refMay10_any c (w.alloc (.cells (cfgCells c).toArray 50))
      rwa [hm] at this)
    obtain ⟨p0, p1, p2, p3, p4, p5, p6, p7, p8, p9⟩ := may_of hm
    have hz := (room_bd hm).1
    have HZ := Lib.hid hz
    clear hz hm
    go_enter Tryz.func23, Tryz.ntmps23
    go_wp2_with fail
    refine HM.out.mono ?_
    rintro e w1 ⟨rfl, hb1⟩
    have hs1 : CfgS w c w1 := rcfg_box (by have := hb1; simpa using this) (HB0.out.trans (hb1.mono HB0.out.size))
    have H1 := Lib.hid hs1
    obtain ⟨y0, y1, y2, y3, y4, -⟩ := hs1
    clear hb1 HM HB0
    go_wp2_with fail
    go_ret
    exact ⟨by rw [HZ.out]; rfl, H1.out.2.2.2.2.2⟩
set_option maxRecDepth 100000 in
set_option maxHeartbeats 8000000 in
theorem refTurn_any (c : CfgD) (w : World) : Calls Tryz.prog 25 #[cfgV c] w (IntOk (turnZ c) w) := by
  have HB0 := Lib.hid (show Below w.heap.size w (w.alloc (.cells (cfgCells c).toArray 50)) from (Below.refl _ _).alloc (Nat.le_refl _) _)
  cases hm : mayC c
  · have hz : turnZ c = 0 := by unfold turnZ; rw [hm]; rfl
    have HM := Lib.hid (show Calls Tryz.prog 60 #[cfgV c] (w.alloc (.cells (cfgCells c).toArray 50)) fun e w' => e = .returned (.bool false) ∧ Below (w.alloc (.cells (cfgCells c).toArray 50)).heap.size (w.alloc (.cells (cfgCells c).toArray 50)) w' by
      have := refMay10_any c (w.alloc (.cells (cfgCells c).toArray 50))
      rwa [hm] at this)
    rw [hz]
    clear hz hm
    go_enter Tryz.func25, Tryz.ntmps25
    go_wp2_with fail
    refine HM.out.mono ?_
    rintro e w1 ⟨rfl, hb1⟩
    have HB1 := Lib.hid (HB0.out.trans (hb1.mono HB0.out.size))
    clear hb1
    go_wp2_with fail
    go_ret
    exact ⟨rfl, HB1.out⟩
  · have HM := Lib.hid (show Calls Tryz.prog 60 #[cfgV c] (w.alloc (.cells (cfgCells c).toArray 50)) fun e w' => e = .returned (.bool true) ∧ Below (w.alloc (.cells (cfgCells c).toArray 50)).heap.size (w.alloc (.cells (cfgCells c).toArray 50)) w' by
      have := refMay10_any c (w.alloc (.cells (cfgCells c).toArray 50))
      rwa [hm] at this)
    obtain ⟨p0, p1, p2, p3, p4, p5, p6, p7, p8, p9⟩ := may_of hm
    obtain ⟨-, r0, r1⟩ := room_bd hm
    have hz : turnZ c = 3 + c.quantum * (4 * (roomZ c + 12) + 3) := by unfold turnZ; rw [if_pos hm]
    have HR := Lib.hid (fun W => refRoom_any c W)
    clear hm
    generalize roomZ c = R at *
    obtain ⟨A, hA⟩ : ∃ A, A = 4 * (R + 12) + 3 := ⟨_, rfl⟩
    have ha0 : 1 ≤ A := by omega
    have ha1 : A ≤ 20000 := by omega
    rw [← hA] at hz
    have HZ := Lib.hid hz
    have HA := Lib.hid hA
    clear hz hA
    go_enter Tryz.func25, Tryz.ntmps25
    go_wp2_with fail
    refine HM.out.mono ?_
    rintro e w1 ⟨rfl, hb1⟩
    have hs1 : CfgS w c w1 := rcfg_box (by have := hb1; simpa using this) (HB0.out.trans (hb1.mono HB0.out.size))
    have H1 := Lib.hid hs1
    obtain ⟨y0, y1, y2, y3, y4, -⟩ := hs1
    clear hb1 HM HB0
    go_wp2_with fail
    go_loopw [3, 4] (fun s3 s4 wr => ∃ (i : Nat) (S : Int), s4 = .int .i64 (i : Int) ∧ s3 = .int .i64 S ∧ (i : Int) ≤ c.quantum ∧ CfgS w c wr ∧ Hid (S = 3 + (i : Int) * A)) (fun _ s4 _ => (c.quantum - intOf s4).toNat)
    case atStart => exact ⟨0, 3, rfl, rfl, by simp; omega, H1.out, Lib.hid (by simp)⟩
    case round =>
      obtain ⟨i, S, rfl, rfl, hi, hs, HS⟩ := hrel
      have HSK := Lib.hid hs
      clear y0 y1 y2 y3 y4 H1 w1
      obtain ⟨y0, y1, y2, y3, y4, -⟩ := hs
      have hlt0 : w.heap.size < wr.heap.size := cell_lt y0
      by_cases hlt : (i : Int) < c.quantum
      · have hm1 : (i : Int) * A ≤ 8 * A := Int.mul_le_mul_of_nonneg_right (by omega) (by omega)
        have hm0 : 0 ≤ (i : Int) * A := Int.mul_nonneg (by omega) (by omega)
        have hS0 : 0 ≤ S := by have := HS.out; omega
        have hS1 : S ≤ 200000 := by have := HS.out; omega
        have HS2 := Lib.hid (show S + 3 + 4 * (R + 12) = 3 + ((i + 1 : Nat) : Int) * A by
          have h1 := HS.out
          have h2 := HA.out
          have h3 : ((i + 1 : Nat) : Int) * A = (i : Int) * A + A := by rw [Int.natCast_add, Int.add_mul]; simp
          rw [h3]; omega)
        clear hm0 hm1 HS
        go_wp2_with fail
        refine (HR.out _).mono ?_
        rintro e w2 ⟨rfl, hb2⟩
        have HS3 := Lib.hid (cfg_keep hb2 HSK.out)
        clear hb2 y0 y1 y2 y3 y4
        go_wp2_with fail
        go_roundw
        case rel => exact ⟨i + 1, _, by go_num, rfl, by omega, HS3.out, HS2⟩
        case measure => simp [intOf]; omega
      · have hq : (i : Int) = c.quantum := by omega
        have HF := Lib.hid (show S = turnZ c by rw [HS.out, HZ.out, hq])
        have HL := Lib.hid HSK.out.2.2.2.2.2
        clear hq HS HSK
        go_wp2_with fail
        go_ret
        exact ⟨by rw [← HF.out]; rfl, HL.out⟩
set_option maxRecDepth 100000 in
set_option maxHeartbeats 8000000 in
theorem refEvict_any (c : CfgD) (w : World) : Calls Tryz.prog 27 #[cfgV c] w (IntOk (evictZ c) w) := by
  have HB0 := Lib.hid (show Below w.heap.size w (w.alloc (.cells (cfgCells c).toArray 50)) from (Below.refl _ _).alloc (Nat.le_refl _) _)
  cases hm : mayC c
  · have hz : evictZ c = 0 := by unfold evictZ; rw [hm]; rfl
    have HM := Lib.hid (show Calls Tryz.prog 60 #[cfgV c] (w.alloc (.cells (cfgCells c).toArray 50)) fun e w' => e = .returned (.bool false) ∧ Below (w.alloc (.cells (cfgCells c).toArray 50)).heap.size (w.alloc (.cells (cfgCells c).toArray 50)) w' by
      have := refMay10_any c (w.alloc (.cells (cfgCells c).toArray 50))
      rwa [hm] at this)
    rw [hz]
    clear hz hm
    go_enter Tryz.func27, Tryz.ntmps27
    go_wp2_with fail
    refine HM.out.mono ?_
    rintro e w1 ⟨rfl, hb1⟩
    have HB1 := Lib.hid (HB0.out.trans (hb1.mono HB0.out.size))
    clear hb1
    go_wp2_with fail
    go_ret
    exact ⟨rfl, HB1.out⟩
  · have HM := Lib.hid (show Calls Tryz.prog 60 #[cfgV c] (w.alloc (.cells (cfgCells c).toArray 50)) fun e w' => e = .returned (.bool true) ∧ Below (w.alloc (.cells (cfgCells c).toArray 50)).heap.size (w.alloc (.cells (cfgCells c).toArray 50)) w' by
      have := refMay10_any c (w.alloc (.cells (cfgCells c).toArray 50))
      rwa [hm] at this)
    obtain ⟨p0, p1, p2, p3, p4, p5, p6, p7, p8, p9⟩ := may_of hm
    have hz : evictZ c = 13 + 48 * max c.budget ((4 * 2 ^ c.bits.toNat : Nat) : Int) := by unfold evictZ; rw [if_pos hm]
    have HZ := Lib.hid hz
    clear hz hm
    go_enter Tryz.func27, Tryz.ntmps27
    go_wp2_with fail
    refine HM.out.mono ?_
    rintro e w1 ⟨rfl, hb1⟩
    have hs1 : CfgS w c w1 := rcfg_box (by have := hb1; simpa using this) (HB0.out.trans (hb1.mono HB0.out.size))
    have H1 := Lib.hid hs1
    obtain ⟨y0, y1, y2, y3, y4, -⟩ := hs1
    clear hb1 HM HB0
    go_wp2_with fail
    go_loop [3, 4] (fun s3 s4 => ∃ (i : Nat) (F : Int), s4 = .int .i64 (i : Int) ∧ s3 = .int .i64 F ∧ (i : Int) ≤ c.bits ∧ Hid (F = ((4 * 2 ^ i : Nat) : Int))) (fun _ s4 => (c.bits - intOf s4).toNat)
    case atStart => exact ⟨0, 4, rfl, rfl, by simp; omega, Lib.hid rfl⟩
    case round =>
      obtain ⟨i, F, rfl, rfl, hi, HF⟩ := hrel
      have hF : 4 ≤ F ∧ F ≤ 16384 := by
        have : ∀ n : Nat, n ≤ 12 → 4 ≤ 4 * 2 ^ n ∧ 4 * 2 ^ n ≤ 16384 := by decide
        have := this i (by omega)
        have := HF.out
        omega
      obtain ⟨hF0, hF1⟩ := hF
      by_cases hlt : (i : Int) < c.bits
      · have HF2 := Lib.hid (show 2 * F = ((4 * 2 ^ (i + 1) : Nat) : Int) by rw [HF.out, Nat.pow_succ]; omega)
        clear HF
        go_wp2_with fail
        go_round
        case rel => exact ⟨i + 1, _, by go_num, rfl, by omega, HF2⟩
        case measure => simp [intOf]; omega
      · have hq : i = c.bits.toNat := by omega
        obtain ⟨M, hM⟩ : ∃ M, M = max F c.budget := ⟨_, rfl⟩
        have hmx : max F c.budget = M := hM.symm
        have hM0 : 4 ≤ M := by omega
        have hM1 : M ≤ 65536 := by omega
        have HFI := Lib.hid (show 13 + 48 * M = evictZ c by rw [HZ.out, hM, HF.out, hq]; omega)
        have HL := Lib.hid H1.out.2.2.2.2.2
        clear hq HF H1 hM
        go_wp2_with fail
        go_ret
        exact ⟨by rw [← HFI.out]; rfl, HL.out⟩
set_option maxRecDepth 100000 in
set_option maxHeartbeats 8000000 in
theorem refSteps_any (c : CfgD) (v : Nat) (V : Int) (hV : V = (v : Int)) (hv : v < 256) (w : World) : Calls Tryz.prog 29 #[cfgV c, .int .u8 V] w (IntOk (stepsZ c v) w) := by
  have HB0 := Lib.hid (show Below w.heap.size w (w.alloc (.cells (cfgCells c).toArray 50)) from (Below.refl _ _).alloc (Nat.le_refl _) _)
  cases hm : mayC c
  · have hz : stepsZ c v = 0 := by unfold stepsZ; rw [hm]; rfl
    have HM := Lib.hid (show Calls Tryz.prog 60 #[cfgV c] (w.alloc (.cells (cfgCells c).toArray 50)) fun e w' => e = .returned (.bool false) ∧ Below (w.alloc (.cells (cfgCells c).toArray 50)).heap.size (w.alloc (.cells (cfgCells c).toArray 50)) w' by
      have := refMay10_any c (w.alloc (.cells (cfgCells c).toArray 50))
      rwa [hm] at this)
    rw [hz]
    clear hz hm
    go_enter Tryz.func29, Tryz.ntmps29
    go_wp2_with fail
    refine HM.out.mono ?_
    rintro e w1 ⟨rfl, hb1⟩
    have HB1 := Lib.hid (HB0.out.trans (hb1.mono HB0.out.size))
    clear hb1
    go_wp2_with fail
    go_ret
    exact ⟨rfl, HB1.out⟩
  · have HM := Lib.hid (show Calls Tryz.prog 60 #[cfgV c] (w.alloc (.cells (cfgCells c).toArray 50)) fun e w' => e = .returned (.bool true) ∧ Below (w.alloc (.cells (cfgCells c).toArray 50)).heap.size (w.alloc (.cells (cfgCells c).toArray 50)) w' by
      have := refMay10_any c (w.alloc (.cells (cfgCells c).toArray 50))
      rwa [hm] at this)
    obtain ⟨p0, p1, p2, p3, p4, p5, p6, p7, p8, p9⟩ := may_of hm
    have hs0 := room_bd hm; have ht0 := turn_bd hm; have he0 := evict_bd hm
    have hz : stepsZ c v = ([0, getZ c, getZ c, storeZ c, storeZ c, storeZ c, storeZ c, changeZ c, changeZ c, changeZ c, changeZ c, 4] : List Int).getD v 0 := by unfold stepsZ; rw [if_pos hm]
    have hg : getZ c = 31 * (c.tries + 1) + 28 := rfl
    have hs : storeZ c = turnZ c + evictZ c + 2 * roomZ c + 66 := rfl
    have hc : changeZ c = turnZ c + 31 := rfl
    have HRM := Lib.hid (fun W => refRoom_any c W)
    have HTN := Lib.hid (fun W => refTurn_any c W)
    have HEV := Lib.hid (fun W => refEvict_any c W)
    obtain ⟨-, r0, r1⟩ := hs0
    obtain ⟨t0, t1⟩ := ht0
    obtain ⟨e0, e1⟩ := he0
    clear hm
    generalize getZ c = G at *
    generalize storeZ c = S at *
    generalize changeZ c = H at *
    generalize roomZ c = R at *
    generalize turnZ c = T at *
    generalize evictZ c = E at *
    have HZ := Lib.hid hz; have HG := Lib.hid hg; have HS := Lib.hid hs; have HC := Lib.hid hc
    clear hz hg hs hc
    have a1 : IntKind.i64.wrap (66 + T) = 66 + T := IntWalk.i64_in _ (by omega)
    have a2 : IntKind.i64.wrap (66 + T + E) = 66 + T + E := IntWalk.i64_in _ (by omega)
    have a3 : IntKind.i64.wrap (66 + T + E + R) = 66 + T + E + R := IntWalk.i64_in _ (by omega)
    have a4 : IntKind.i64.wrap (66 + T + E + R + R) = 66 + T + E + R + R := IntWalk.i64_in _ (by omega)
    rcases (by omega : V = 1 ∨ V = 2 ∨ V = 3 ∨ V = 4 ∨ V = 5 ∨ V = 6 ∨ V = 7 ∨ V = 8 ∨ V = 9 ∨ V = 10 ∨ V = 11 ∨ (V = 0 ∨ 12 ≤ V)) with rfl | rfl | rfl | rfl | rfl | rfl | rfl | rfl | rfl | rfl | rfl | h
    · obtain rfl : v = 1 := by omega
      have HF := Lib.hid (show stepsZ c 1 = 31 * c.tries + 59 by rw [HZ.out]; simp only [List.getD_cons_succ, List.getD_cons_zero]; rw [HG.out]; omega)
      clear HZ HG HS HC a1 a2 a3 a4
      go_enter Tryz.func29, Tryz.ntmps29
      go_wp2_with fail
      refine HM.out.mono ?_
      rintro e w1 ⟨rfl, hb1⟩
      have hs1 : CfgS w c w1 := rcfg_box (by have := hb1; simpa using this) (HB0.out.trans (hb1.mono HB0.out.size))
      have H1 := Lib.hid hs1
      obtain ⟨y0, y1, y2, y3, y4, -⟩ := hs1
      clear hb1 HM HB0 hV
      go_wp2_with fail
      go_ret
      exact ⟨by rw [HF.out]; rfl, H1.out.2.2.2.2.2⟩
    · obtain rfl : v = 2 := by omega
      have HF := Lib.hid (show stepsZ c 2 = 31 * c.tries + 59 by rw [HZ.out]; simp only [List.getD_cons_succ, List.getD_cons_zero]; rw [HG.out]; omega)
      clear HZ HG HS HC a1 a2 a3 a4
      go_enter Tryz.func29, Tryz.ntmps29
      go_wp2_with fail
      refine HM.out.mono ?_
      rintro e w1 ⟨rfl, hb1⟩
      have hs1 : CfgS w c w1 := rcfg_box (by have := hb1; simpa using this) (HB0.out.trans (hb1.mono HB0.out.size))
      have H1 := Lib.hid hs1
      obtain ⟨y0, y1, y2, y3, y4, -⟩ := hs1
      clear hb1 HM HB0 hV
      go_wp2_with fail
      go_ret
      exact ⟨by rw [HF.out]; rfl, H1.out.2.2.2.2.2⟩
    · obtain rfl : v = 3 := by omega
      have HF := Lib.hid (show stepsZ c 3 = 66 + T + E + R + R by rw [HZ.out]; simp only [List.getD_cons_succ, List.getD_cons_zero]; rw [HS.out]; omega)
      clear HZ HG HS HC
      go_enter Tryz.func29, Tryz.ntmps29
      go_wp2_with fail
      refine HM.out.mono ?_
      rintro e w1 ⟨rfl, hb1⟩
      have hs1 : CfgS w c w1 := rcfg_box (by have := hb1; simpa using this) (HB0.out.trans (hb1.mono HB0.out.size))
      have H1 := Lib.hid hs1
      obtain ⟨y0, y1, y2, y3, y4, -⟩ := hs1
      clear hb1 HM HB0 hV
      go_wp2_with fail
      refine wp_region_held_drew (S := fun W => W.cell? ⟨w.heap.size, 0, none⟩ = some (.int .i64 c.bits) ∧ W.cell? ⟨w.heap.size, 1, none⟩ = some (.int .i64 c.budget) ∧ W.cell? ⟨w.heap.size, 2, none⟩ = some (.int .i64 c.tries) ∧ W.cell? ⟨w.heap.size, 3, none⟩ = some (.int .i64 c.quantum) ∧ W.cell? ⟨w.heap.size, 4, none⟩ = some (.int .i64 c.way) ∧ Below w.heap.size w W) (by kernel_rfl) (cfg_keep (w := w) (c := c) (Below.refl _ _).drew H1.out) (fun hHeld => ?_)
      clear y0 y1 y2 y3 y4 H1
      refine wpAnyH_take (i := 0) (v := ?_) rfl (by kernel_rfl) (by kernel_rfl) (by kernel_rfl) (fun _ _ _ h => h) (Or.inl ⟨by rfl, ?_⟩) (by assumption) ?_
      rotate_left 1
      · ((intro w hSw; (try dsimp only at hSw); go_simp) <;> with_reducible rfl)
      try simp only [Act.put, List.setIfInBounds_toArray, List.set_cons_zero, List.set_cons_succ, List.getElem_toArray, List.getElem_cons_zero]
      refine wpAnyH_take (i := 3) (v := ?_) rfl (by kernel_rfl) (by kernel_rfl) (by kernel_rfl) (fun _ _ _ h => h) (Or.inl ⟨by rfl, ?_⟩) (by assumption) ?_
      rotate_left 1
      · ((intro w hSw; (try dsimp only at hSw); go_simp) <;> with_reducible rfl)
      try simp only [Act.put, List.setIfInBounds_toArray, List.set_cons_zero, List.set_cons_succ, List.getElem_toArray, List.getElem_cons_zero, List.getElem_cons_succ]
      refine wpAnyH_take (i := 6) (v := ?_) rfl (by kernel_rfl) (by kernel_rfl) (by kernel_rfl) (fun _ _ _ h => h) (Or.inl ⟨by rfl, ?_⟩) (by assumption) ?_
      rotate_left 1
      · ((intro w hSw; (try dsimp only at hSw); go_simp) <;> with_reducible rfl)
      try simp only [Act.put, List.setIfInBounds_toArray, List.set_cons_zero, List.set_cons_succ, List.getElem_toArray, List.getElem_cons_zero, List.getElem_cons_succ]
      refine wpAnyH_take (i := 9) (v := ?_) rfl (by kernel_rfl) (by kernel_rfl) (by kernel_rfl) (fun _ _ _ h => h) (Or.inl ⟨by rfl, ?_⟩) (by assumption) ?_
      rotate_left 1
      · ((intro w hSw; (try dsimp only at hSw); go_simp) <;> with_reducible rfl)
      try simp only [Act.put, List.setIfInBounds_toArray, List.set_cons_zero, List.set_cons_succ, List.getElem_toArray, List.getElem_cons_zero, List.getElem_cons_succ]
      refine wpAnyH_ready (rs := [1]) (by kernel_rfl) (by simp) ?_
      refine AllReadyH.cons rfl (fun K hK => ?_) AllReadyH.nil
      go_split_ands
      go_simp
      go_at_call 25
      refine (HTN.out _).mono ?_
      rintro e w9 ⟨rfl, hb9⟩
      refine hK.out _ _ (cfg_keep (w := w) (c := c) hb9 ⟨by assumption, by assumption, by assumption, by assumption, by assumption, by assumption⟩) (fun hHeld2 => ?_)
      clear hK K
      try simp only [Act.put, List.setIfInBounds_toArray, List.set_cons_zero, List.set_cons_succ, List.getElem_toArray, List.getElem_cons_zero, List.getElem_cons_succ]
      refine wpAnyH_take (i := 2) (v := ?_) rfl (by kernel_rfl) (by kernel_rfl) (by kernel_rfl) (fun _ _ _ h => h) (Or.inl ⟨by rfl, ?_⟩) (by assumption) ?_
      rotate_left 1
      · ((intro w hSw; (try dsimp only at hSw); go_simp) <;> with_reducible rfl)
      try simp only [Act.put, List.setIfInBounds_toArray, List.set_cons_zero, List.set_cons_succ, List.getElem_toArray, List.getElem_cons_zero, List.getElem_cons_succ]
      refine wpAnyH_ready (rs := [4]) (by kernel_rfl) (by simp) ?_
      refine AllReadyH.cons rfl (fun K hK => ?_) AllReadyH.nil
      go_split_ands
      go_simp
      go_at_call 27
      refine (HEV.out _).mono ?_
      rintro e w9 ⟨rfl, hb9⟩
      refine hK.out _ _ (cfg_keep (w := w) (c := c) hb9 ⟨by assumption, by assumption, by assumption, by assumption, by assumption, by assumption⟩) (fun hHeld2 => ?_)
      clear hK K
      try simp only [Act.put, List.setIfInBounds_toArray, List.set_cons_zero, List.set_cons_succ, List.getElem_toArray, List.getElem_cons_zero, List.getElem_cons_succ]
      refine wpAnyH_take (i := 5) (v := ?_) rfl (by kernel_rfl) (by kernel_rfl) (by kernel_rfl) (fun _ _ _ h => h) (Or.inl ⟨by rfl, ?_⟩) (by assumption) ?_
      rotate_left 1
      · ((intro w hSw; (try dsimp only at hSw); go_simp) <;> with_reducible rfl)
      try simp only [Act.put, List.setIfInBounds_toArray, List.set_cons_zero, List.set_cons_succ, List.getElem_toArray, List.getElem_cons_zero, List.getElem_cons_succ]
      refine wpAnyH_ready (rs := [7]) (by kernel_rfl) (by simp) ?_
      refine AllReadyH.cons rfl (fun K hK => ?_) AllReadyH.nil
      go_split_ands
      go_simp
      go_at_call 23
      refine (HRM.out _).mono ?_
      rintro e w9 ⟨rfl, hb9⟩
      refine hK.out _ _ (cfg_keep (w := w) (c := c) hb9 ⟨by assumption, by assumption, by assumption, by assumption, by assumption, by assumption⟩) (fun hHeld2 => ?_)
      clear hK K
      try simp only [Act.put, List.setIfInBounds_toArray, List.set_cons_zero, List.set_cons_succ, List.getElem_toArray, List.getElem_cons_zero, List.getElem_cons_succ]
      refine wpAnyH_take (i := 8) (v := ?_) rfl (by kernel_rfl) (by kernel_rfl) (by kernel_rfl) (fun _ _ _ h => h) (Or.inl ⟨by rfl, ?_⟩) (by assumption) ?_
      rotate_left 1
      · ((intro w hSw; (try dsimp only at hSw); go_simp) <;> with_reducible rfl)
      try simp only [Act.put, List.setIfInBounds_toArray, List.set_cons_zero, List.set_cons_succ, List.getElem_toArray, List.getElem_cons_zero, List.getElem_cons_succ]
      refine wpAnyH_ready (rs := [10]) (by kernel_rfl) (by simp) ?_
      refine AllReadyH.cons rfl (fun K hK => ?_) AllReadyH.nil
      go_split_ands
      go_simp
      go_at_call 23
      refine (HRM.out _).mono ?_
      rintro e w9 ⟨rfl, hb9⟩
      refine hK.out _ _ (cfg_keep (w := w) (c := c) hb9 ⟨by assumption, by assumption, by assumption, by assumption, by assumption, by assumption⟩) (fun hHeld2 => ?_)
      clear hK K
      try simp only [Act.put, List.setIfInBounds_toArray, List.set_cons_zero, List.set_cons_succ, List.getElem_toArray, List.getElem_cons_zero, List.getElem_cons_succ]
      refine wpAnyH_take (i := 11) (v := ?_) rfl (by kernel_rfl) (by kernel_rfl) (by kernel_rfl) (fun _ _ _ h => h) (Or.inl ⟨by rfl, ?_⟩) (by assumption) ?_
      rotate_left 1
      · ((intro w hSw; (try dsimp only at hSw); go_simp) <;> with_reducible rfl)
      try simp only [Act.put, List.setIfInBounds_toArray, List.set_cons_zero, List.set_cons_succ, List.getElem_toArray, List.getElem_cons_zero, List.getElem_cons_succ]
      refine wpAnyH_take (i := 12) (v := ?_) rfl (by kernel_rfl) (by kernel_rfl) (by kernel_rfl) (fun _ _ _ h => h) (Or.inl ⟨by rfl, ?_⟩) (by assumption) ?_
      rotate_left 1
      · ((intro w hSw; (try dsimp only at hSw); go_simp) <;> with_reducible rfl)
      try simp only [Act.put, List.setIfInBounds_toArray, List.set_cons_zero, List.set_cons_succ, List.getElem_toArray, List.getElem_cons_zero, List.getElem_cons_succ]
      refine wpAnyH_done (by kernel_rfl) ?_ _
      have HL := Lib.hid hHeld2.2.2.2.2.2
      clear hHeld2 a1 a2 a3 a4
      go_wp2_with fail
      go_ret
      exact ⟨by rw [HF.out]; rfl, HL.out⟩
    · obtain rfl : v = 4 := by omega
      have HF := Lib.hid (show stepsZ c 4 = 66 + T + E + R + R by rw [HZ.out]; simp only [List.getD_cons_succ, List.getD_cons_zero]; rw [HS.out]; omega)
      clear HZ HG HS HC
      go_enter Tryz.func29, Tryz.ntmps29
      go_wp2_with fail
      refine HM.out.mono ?_
      rintro e w1 ⟨rfl, hb1⟩
      have hs1 : CfgS w c w1 := rcfg_box (by have := hb1; simpa using this) (HB0.out.trans (hb1.mono HB0.out.size))
      have H1 := Lib.hid hs1
      obtain ⟨y0, y1, y2, y3, y4, -⟩ := hs1
      clear hb1 HM HB0 hV
      go_wp2_with fail
      refine wp_region_held_drew (S := fun W => W.cell? ⟨w.heap.size, 0, none⟩ = some (.int .i64 c.bits) ∧ W.cell? ⟨w.heap.size, 1, none⟩ = some (.int .i64 c.budget) ∧ W.cell? ⟨w.heap.size, 2, none⟩ = some (.int .i64 c.tries) ∧ W.cell? ⟨w.heap.size, 3, none⟩ = some (.int .i64 c.quantum) ∧ W.cell? ⟨w.heap.size, 4, none⟩ = some (.int .i64 c.way) ∧ Below w.heap.size w W) (by kernel_rfl) (cfg_keep (w := w) (c := c) (Below.refl _ _).drew H1.out) (fun hHeld => ?_)
      clear y0 y1 y2 y3 y4 H1
      refine wpAnyH_take (i := 0) (v := ?_) rfl (by kernel_rfl) (by kernel_rfl) (by kernel_rfl) (fun _ _ _ h => h) (Or.inl ⟨by rfl, ?_⟩) (by assumption) ?_
      rotate_left 1
      · ((intro w hSw; (try dsimp only at hSw); go_simp) <;> with_reducible rfl)
      try simp only [Act.put, List.setIfInBounds_toArray, List.set_cons_zero, List.set_cons_succ, List.getElem_toArray, List.getElem_cons_zero]
      refine wpAnyH_take (i := 3) (v := ?_) rfl (by kernel_rfl) (by kernel_rfl) (by kernel_rfl) (fun _ _ _ h => h) (Or.inl ⟨by rfl, ?_⟩) (by assumption) ?_
      rotate_left 1
      · ((intro w hSw; (try dsimp only at hSw); go_simp) <;> with_reducible rfl)
      try simp only [Act.put, List.setIfInBounds_toArray, List.set_cons_zero, List.set_cons_succ, List.getElem_toArray, List.getElem_cons_zero, List.getElem_cons_succ]
      refine wpAnyH_take (i := 6) (v := ?_) rfl (by kernel_rfl) (by kernel_rfl) (by kernel_rfl) (fun _ _ _ h => h) (Or.inl ⟨by rfl, ?_⟩) (by assumption) ?_
      rotate_left 1
      · ((intro w hSw; (try dsimp only at hSw); go_simp) <;> with_reducible rfl)
      try simp only [Act.put, List.setIfInBounds_toArray, List.set_cons_zero, List.set_cons_succ, List.getElem_toArray, List.getElem_cons_zero, List.getElem_cons_succ]
      refine wpAnyH_take (i := 9) (v := ?_) rfl (by kernel_rfl) (by kernel_rfl) (by kernel_rfl) (fun _ _ _ h => h) (Or.inl ⟨by rfl, ?_⟩) (by assumption) ?_
      rotate_left 1
      · ((intro w hSw; (try dsimp only at hSw); go_simp) <;> with_reducible rfl)
      try simp only [Act.put, List.setIfInBounds_toArray, List.set_cons_zero, List.set_cons_succ, List.getElem_toArray, List.getElem_cons_zero, List.getElem_cons_succ]
      refine wpAnyH_ready (rs := [1]) (by kernel_rfl) (by simp) ?_
      refine AllReadyH.cons rfl (fun K hK => ?_) AllReadyH.nil
      go_split_ands
      go_simp
      go_at_call 25
      refine (HTN.out _).mono ?_
      rintro e w9 ⟨rfl, hb9⟩
      refine hK.out _ _ (cfg_keep (w := w) (c := c) hb9 ⟨by assumption, by assumption, by assumption, by assumption, by assumption, by assumption⟩) (fun hHeld2 => ?_)
      clear hK K
      try simp only [Act.put, List.setIfInBounds_toArray, List.set_cons_zero, List.set_cons_succ, List.getElem_toArray, List.getElem_cons_zero, List.getElem_cons_succ]
      refine wpAnyH_take (i := 2) (v := ?_) rfl (by kernel_rfl) (by kernel_rfl) (by kernel_rfl) (fun _ _ _ h => h) (Or.inl ⟨by rfl, ?_⟩) (by assumption) ?_
      rotate_left 1
      · ((intro w hSw; (try dsimp only at hSw); go_simp) <;> with_reducible rfl)
      try simp only [Act.put, List.setIfInBounds_toArray, List.set_cons_zero, List.set_cons_succ, List.getElem_toArray, List.getElem_cons_zero, List.getElem_cons_succ]
      refine wpAnyH_ready (rs := [4]) (by kernel_rfl) (by simp) ?_
      refine AllReadyH.cons rfl (fun K hK => ?_) AllReadyH.nil
      go_split_ands
      go_simp
      go_at_call 27
      refine (HEV.out _).mono ?_
      rintro e w9 ⟨rfl, hb9⟩
      refine hK.out _ _ (cfg_keep (w := w) (c := c) hb9 ⟨by assumption, by assumption, by assumption, by assumption, by assumption, by assumption⟩) (fun hHeld2 => ?_)
      clear hK K
      try simp only [Act.put, List.setIfInBounds_toArray, List.set_cons_zero, List.set_cons_succ, List.getElem_toArray, List.getElem_cons_zero, List.getElem_cons_succ]
      refine wpAnyH_take (i := 5) (v := ?_) rfl (by kernel_rfl) (by kernel_rfl) (by kernel_rfl) (fun _ _ _ h => h) (Or.inl ⟨by rfl, ?_⟩) (by assumption) ?_
      rotate_left 1
      · ((intro w hSw; (try dsimp only at hSw); go_simp) <;> with_reducible rfl)
      try simp only [Act.put, List.setIfInBounds_toArray, List.set_cons_zero, List.set_cons_succ, List.getElem_toArray, List.getElem_cons_zero, List.getElem_cons_succ]
      refine wpAnyH_ready (rs := [7]) (by kernel_rfl) (by simp) ?_
      refine AllReadyH.cons rfl (fun K hK => ?_) AllReadyH.nil
      go_split_ands
      go_simp
      go_at_call 23
      refine (HRM.out _).mono ?_
      rintro e w9 ⟨rfl, hb9⟩
      refine hK.out _ _ (cfg_keep (w := w) (c := c) hb9 ⟨by assumption, by assumption, by assumption, by assumption, by assumption, by assumption⟩) (fun hHeld2 => ?_)
      clear hK K
      try simp only [Act.put, List.setIfInBounds_toArray, List.set_cons_zero, List.set_cons_succ, List.getElem_toArray, List.getElem_cons_zero, List.getElem_cons_succ]
      refine wpAnyH_take (i := 8) (v := ?_) rfl (by kernel_rfl) (by kernel_rfl) (by kernel_rfl) (fun _ _ _ h => h) (Or.inl ⟨by rfl, ?_⟩) (by assumption) ?_
      rotate_left 1
      · ((intro w hSw; (try dsimp only at hSw); go_simp) <;> with_reducible rfl)
      try simp only [Act.put, List.setIfInBounds_toArray, List.set_cons_zero, List.set_cons_succ, List.getElem_toArray, List.getElem_cons_zero, List.getElem_cons_succ]
      refine wpAnyH_ready (rs := [10]) (by kernel_rfl) (by simp) ?_
      refine AllReadyH.cons rfl (fun K hK => ?_) AllReadyH.nil
      go_split_ands
      go_simp
      go_at_call 23
      refine (HRM.out _).mono ?_
      rintro e w9 ⟨rfl, hb9⟩
      refine hK.out _ _ (cfg_keep (w := w) (c := c) hb9 ⟨by assumption, by assumption, by assumption, by assumption, by assumption, by assumption⟩) (fun hHeld2 => ?_)
      clear hK K
      try simp only [Act.put, List.setIfInBounds_toArray, List.set_cons_zero, List.set_cons_succ, List.getElem_toArray, List.getElem_cons_zero, List.getElem_cons_succ]
      refine wpAnyH_take (i := 11) (v := ?_) rfl (by kernel_rfl) (by kernel_rfl) (by kernel_rfl) (fun _ _ _ h => h) (Or.inl ⟨by rfl, ?_⟩) (by assumption) ?_
      rotate_left 1
      · ((intro w hSw; (try dsimp only at hSw); go_simp) <;> with_reducible rfl)
      try simp only [Act.put, List.setIfInBounds_toArray, List.set_cons_zero, List.set_cons_succ, List.getElem_toArray, List.getElem_cons_zero, List.getElem_cons_succ]
      refine wpAnyH_take (i := 12) (v := ?_) rfl (by kernel_rfl) (by kernel_rfl) (by kernel_rfl) (fun _ _ _ h => h) (Or.inl ⟨by rfl, ?_⟩) (by assumption) ?_
      rotate_left 1
      · ((intro w hSw; (try dsimp only at hSw); go_simp) <;> with_reducible rfl)
      try simp only [Act.put, List.setIfInBounds_toArray, List.set_cons_zero, List.set_cons_succ, List.getElem_toArray, List.getElem_cons_zero, List.getElem_cons_succ]
      refine wpAnyH_done (by kernel_rfl) ?_ _
      have HL := Lib.hid hHeld2.2.2.2.2.2
      clear hHeld2 a1 a2 a3 a4
      go_wp2_with fail
      go_ret
      exact ⟨by rw [HF.out]; rfl, HL.out⟩
    · obtain rfl : v = 5 := by omega
      have HF := Lib.hid (show stepsZ c 5 = 66 + T + E + R + R by rw [HZ.out]; simp only [List.getD_cons_succ, List.getD_cons_zero]; rw [HS.out]; omega)
      clear HZ HG HS HC
      go_enter Tryz.func29, Tryz.ntmps29
      go_wp2_with fail
      refine HM.out.mono ?_
      rintro e w1 ⟨rfl, hb1⟩
      have hs1 : CfgS w c w1 := rcfg_box (by have := hb1; simpa using this) (HB0.out.trans (hb1.mono HB0.out.size))
      have H1 := Lib.hid hs1
      obtain ⟨y0, y1, y2, y3, y4, -⟩ := hs1
      clear hb1 HM HB0 hV
      go_wp2_with fail
      refine wp_region_held_drew (S := fun W => W.cell? ⟨w.heap.size, 0, none⟩ = some (.int .i64 c.bits) ∧ W.cell? ⟨w.heap.size, 1, none⟩ = some (.int .i64 c.budget) ∧ W.cell? ⟨w.heap.size, 2, none⟩ = some (.int .i64 c.tries) ∧ W.cell? ⟨w.heap.size, 3, none⟩ = some (.int .i64 c.quantum) ∧ W.cell? ⟨w.heap.size, 4, none⟩ = some (.int .i64 c.way) ∧ Below w.heap.size w W) (by kernel_rfl) (cfg_keep (w := w) (c := c) (Below.refl _ _).drew H1.out) (fun hHeld => ?_)
      clear y0 y1 y2 y3 y4 H1
      refine wpAnyH_take (i := 0) (v := ?_) rfl (by kernel_rfl) (by kernel_rfl) (by kernel_rfl) (fun _ _ _ h => h) (Or.inl ⟨by rfl, ?_⟩) (by assumption) ?_
      rotate_left 1
      · ((intro w hSw; (try dsimp only at hSw); go_simp) <;> with_reducible rfl)
      try simp only [Act.put, List.setIfInBounds_toArray, List.set_cons_zero, List.set_cons_succ, List.getElem_toArray, List.getElem_cons_zero]
      refine wpAnyH_take (i := 3) (v := ?_) rfl (by kernel_rfl) (by kernel_rfl) (by kernel_rfl) (fun _ _ _ h => h) (Or.inl ⟨by rfl, ?_⟩) (by assumption) ?_
      rotate_left 1
      · ((intro w hSw; (try dsimp only at hSw); go_simp) <;> with_reducible rfl)
      try simp only [Act.put, List.setIfInBounds_toArray, List.set_cons_zero, List.set_cons_succ, List.getElem_toArray, List.getElem_cons_zero, List.getElem_cons_succ]
      refine wpAnyH_take (i := 6) (v := ?_) rfl (by kernel_rfl) (by kernel_rfl) (by kernel_rfl) (fun _ _ _ h => h) (Or.inl ⟨by rfl, ?_⟩) (by assumption) ?_
      rotate_left 1
      · ((intro w hSw; (try dsimp only at hSw); go_simp) <;> with_reducible rfl)
      try simp only [Act.put, List.setIfInBounds_toArray, List.set_cons_zero, List.set_cons_succ, List.getElem_toArray, List.getElem_cons_zero, List.getElem_cons_succ]
      refine wpAnyH_take (i := 9) (v := ?_) rfl (by kernel_rfl) (by kernel_rfl) (by kernel_rfl) (fun _ _ _ h => h) (Or.inl ⟨by rfl, ?_⟩) (by assumption) ?_
      rotate_left 1
      · ((intro w hSw; (try dsimp only at hSw); go_simp) <;> with_reducible rfl)
      try simp only [Act.put, List.setIfInBounds_toArray, List.set_cons_zero, List.set_cons_succ, List.getElem_toArray, List.getElem_cons_zero, List.getElem_cons_succ]
      refine wpAnyH_ready (rs := [1]) (by kernel_rfl) (by simp) ?_
      refine AllReadyH.cons rfl (fun K hK => ?_) AllReadyH.nil
      go_split_ands
      go_simp
      go_at_call 25
      refine (HTN.out _).mono ?_
      rintro e w9 ⟨rfl, hb9⟩
      refine hK.out _ _ (cfg_keep (w := w) (c := c) hb9 ⟨by assumption, by assumption, by assumption, by assumption, by assumption, by assumption⟩) (fun hHeld2 => ?_)
      clear hK K
      try simp only [Act.put, List.setIfInBounds_toArray, List.set_cons_zero, List.set_cons_succ, List.getElem_toArray, List.getElem_cons_zero, List.getElem_cons_succ]
      refine wpAnyH_take (i := 2) (v := ?_) rfl (by kernel_rfl) (by kernel_rfl) (by kernel_rfl) (fun _ _ _ h => h) (Or.inl ⟨by rfl, ?_⟩) (by assumption) ?_
      rotate_left 1
      · ((intro w hSw; (try dsimp only at hSw); go_simp) <;> with_reducible rfl)
      try simp only [Act.put, List.setIfInBounds_toArray, List.set_cons_zero, List.set_cons_succ, List.getElem_toArray, List.getElem_cons_zero, List.getElem_cons_succ]
      refine wpAnyH_ready (rs := [4]) (by kernel_rfl) (by simp) ?_
      refine AllReadyH.cons rfl (fun K hK => ?_) AllReadyH.nil
      go_split_ands
      go_simp
      go_at_call 27
      refine (HEV.out _).mono ?_
      rintro e w9 ⟨rfl, hb9⟩
      refine hK.out _ _ (cfg_keep (w := w) (c := c) hb9 ⟨by assumption, by assumption, by assumption, by assumption, by assumption, by assumption⟩) (fun hHeld2 => ?_)
      clear hK K
      try simp only [Act.put, List.setIfInBounds_toArray, List.set_cons_zero, List.set_cons_succ, List.getElem_toArray, List.getElem_cons_zero, List.getElem_cons_succ]
      refine wpAnyH_take (i := 5) (v := ?_) rfl (by kernel_rfl) (by kernel_rfl) (by kernel_rfl) (fun _ _ _ h => h) (Or.inl ⟨by rfl, ?_⟩) (by assumption) ?_
      rotate_left 1
      · ((intro w hSw; (try dsimp only at hSw); go_simp) <;> with_reducible rfl)
      try simp only [Act.put, List.setIfInBounds_toArray, List.set_cons_zero, List.set_cons_succ, List.getElem_toArray, List.getElem_cons_zero, List.getElem_cons_succ]
      refine wpAnyH_ready (rs := [7]) (by kernel_rfl) (by simp) ?_
      refine AllReadyH.cons rfl (fun K hK => ?_) AllReadyH.nil
      go_split_ands
      go_simp
      go_at_call 23
      refine (HRM.out _).mono ?_
      rintro e w9 ⟨rfl, hb9⟩
      refine hK.out _ _ (cfg_keep (w := w) (c := c) hb9 ⟨by assumption, by assumption, by assumption, by assumption, by assumption, by assumption⟩) (fun hHeld2 => ?_)
      clear hK K
      try simp only [Act.put, List.setIfInBounds_toArray, List.set_cons_zero, List.set_cons_succ, List.getElem_toArray, List.getElem_cons_zero, List.getElem_cons_succ]
      refine wpAnyH_take (i := 8) (v := ?_) rfl (by kernel_rfl) (by kernel_rfl) (by kernel_rfl) (fun _ _ _ h => h) (Or.inl ⟨by rfl, ?_⟩) (by assumption) ?_
      rotate_left 1
      · ((intro w hSw; (try dsimp only at hSw); go_simp) <;> with_reducible rfl)
      try simp only [Act.put, List.setIfInBounds_toArray, List.set_cons_zero, List.set_cons_succ, List.getElem_toArray, List.getElem_cons_zero, List.getElem_cons_succ]
      refine wpAnyH_ready (rs := [10]) (by kernel_rfl) (by simp) ?_
      refine AllReadyH.cons rfl (fun K hK => ?_) AllReadyH.nil
      go_split_ands
      go_simp
      go_at_call 23
      refine (HRM.out _).mono ?_
      rintro e w9 ⟨rfl, hb9⟩
      refine hK.out _ _ (cfg_keep (w := w) (c := c) hb9 ⟨by assumption, by assumption, by assumption, by assumption, by assumption, by assumption⟩) (fun hHeld2 => ?_)
      clear hK K
      try simp only [Act.put, List.setIfInBounds_toArray, List.set_cons_zero, List.set_cons_succ, List.getElem_toArray, List.getElem_cons_zero, List.getElem_cons_succ]
      refine wpAnyH_take (i := 11) (v := ?_) rfl (by kernel_rfl) (by kernel_rfl) (by kernel_rfl) (fun _ _ _ h => h) (Or.inl ⟨by rfl, ?_⟩) (by assumption) ?_
      rotate_left 1
      · ((intro w hSw; (try dsimp only at hSw); go_simp) <;> with_reducible rfl)
      try simp only [Act.put, List.setIfInBounds_toArray, List.set_cons_zero, List.set_cons_succ, List.getElem_toArray, List.getElem_cons_zero, List.getElem_cons_succ]
      refine wpAnyH_take (i := 12) (v := ?_) rfl (by kernel_rfl) (by kernel_rfl) (by kernel_rfl) (fun _ _ _ h => h) (Or.inl ⟨by rfl, ?_⟩) (by assumption) ?_
      rotate_left 1
      · ((intro w hSw; (try dsimp only at hSw); go_simp) <;> with_reducible rfl)
      try simp only [Act.put, List.setIfInBounds_toArray, List.set_cons_zero, List.set_cons_succ, List.getElem_toArray, List.getElem_cons_zero, List.getElem_cons_succ]
      refine wpAnyH_done (by kernel_rfl) ?_ _
      have HL := Lib.hid hHeld2.2.2.2.2.2
      clear hHeld2 a1 a2 a3 a4
      go_wp2_with fail
      go_ret
      exact ⟨by rw [HF.out]; rfl, HL.out⟩
    · obtain rfl : v = 6 := by omega
      have HF := Lib.hid (show stepsZ c 6 = 66 + T + E + R + R by rw [HZ.out]; simp only [List.getD_cons_succ, List.getD_cons_zero]; rw [HS.out]; omega)
      clear HZ HG HS HC
      go_enter Tryz.func29, Tryz.ntmps29
      go_wp2_with fail
      refine HM.out.mono ?_
      rintro e w1 ⟨rfl, hb1⟩
      have hs1 : CfgS w c w1 := rcfg_box (by have := hb1; simpa using this) (HB0.out.trans (hb1.mono HB0.out.size))
      have H1 := Lib.hid hs1
      obtain ⟨y0, y1, y2, y3, y4, -⟩ := hs1
      clear hb1 HM HB0 hV
      go_wp2_with fail
      refine wp_region_held_drew (S := fun W => W.cell? ⟨w.heap.size, 0, none⟩ = some (.int .i64 c.bits) ∧ W.cell? ⟨w.heap.size, 1, none⟩ = some (.int .i64 c.budget) ∧ W.cell? ⟨w.heap.size, 2, none⟩ = some (.int .i64 c.tries) ∧ W.cell? ⟨w.heap.size, 3, none⟩ = some (.int .i64 c.quantum) ∧ W.cell? ⟨w.heap.size, 4, none⟩ = some (.int .i64 c.way) ∧ Below w.heap.size w W) (by kernel_rfl) (cfg_keep (w := w) (c := c) (Below.refl _ _).drew H1.out) (fun hHeld => ?_)
      clear y0 y1 y2 y3 y4 H1
      refine wpAnyH_take (i := 0) (v := ?_) rfl (by kernel_rfl) (by kernel_rfl) (by kernel_rfl) (fun _ _ _ h => h) (Or.inl ⟨by rfl, ?_⟩) (by assumption) ?_
      rotate_left 1
      · ((intro w hSw; (try dsimp only at hSw); go_simp) <;> with_reducible rfl)
      try simp only [Act.put, List.setIfInBounds_toArray, List.set_cons_zero, List.set_cons_succ, List.getElem_toArray, List.getElem_cons_zero]
      refine wpAnyH_take (i := 3) (v := ?_) rfl (by kernel_rfl) (by kernel_rfl) (by kernel_rfl) (fun _ _ _ h => h) (Or.inl ⟨by rfl, ?_⟩) (by assumption) ?_
      rotate_left 1
      · ((intro w hSw; (try dsimp only at hSw); go_simp) <;> with_reducible rfl)
      try simp only [Act.put, List.setIfInBounds_toArray, List.set_cons_zero, List.set_cons_succ, List.getElem_toArray, List.getElem_cons_zero, List.getElem_cons_succ]
      refine wpAnyH_take (i := 6) (v := ?_) rfl (by kernel_rfl) (by kernel_rfl) (by kernel_rfl) (fun _ _ _ h => h) (Or.inl ⟨by rfl, ?_⟩) (by assumption) ?_
      rotate_left 1
      · ((intro w hSw; (try dsimp only at hSw); go_simp) <;> with_reducible rfl)
      try simp only [Act.put, List.setIfInBounds_toArray, List.set_cons_zero, List.set_cons_succ, List.getElem_toArray, List.getElem_cons_zero, List.getElem_cons_succ]
      refine wpAnyH_take (i := 9) (v := ?_) rfl (by kernel_rfl) (by kernel_rfl) (by kernel_rfl) (fun _ _ _ h => h) (Or.inl ⟨by rfl, ?_⟩) (by assumption) ?_
      rotate_left 1
      · ((intro w hSw; (try dsimp only at hSw); go_simp) <;> with_reducible rfl)
      try simp only [Act.put, List.setIfInBounds_toArray, List.set_cons_zero, List.set_cons_succ, List.getElem_toArray, List.getElem_cons_zero, List.getElem_cons_succ]
      refine wpAnyH_ready (rs := [1]) (by kernel_rfl) (by simp) ?_
      refine AllReadyH.cons rfl (fun K hK => ?_) AllReadyH.nil
      go_split_ands
      go_simp
      go_at_call 25
      refine (HTN.out _).mono ?_
      rintro e w9 ⟨rfl, hb9⟩
      refine hK.out _ _ (cfg_keep (w := w) (c := c) hb9 ⟨by assumption, by assumption, by assumption, by assumption, by assumption, by assumption⟩) (fun hHeld2 => ?_)
      clear hK K
      try simp only [Act.put, List.setIfInBounds_toArray, List.set_cons_zero, List.set_cons_succ, List.getElem_toArray, List.getElem_cons_zero, List.getElem_cons_succ]
      refine wpAnyH_take (i := 2) (v := ?_) rfl (by kernel_rfl) (by kernel_rfl) (by kernel_rfl) (fun _ _ _ h => h) (Or.inl ⟨by rfl, ?_⟩) (by assumption) ?_
      rotate_left 1
      · ((intro w hSw; (try dsimp only at hSw); go_simp) <;> with_reducible rfl)
      try simp only [Act.put, List.setIfInBounds_toArray, List.set_cons_zero, List.set_cons_succ, List.getElem_toArray, List.getElem_cons_zero, List.getElem_cons_succ]
      refine wpAnyH_ready (rs := [4]) (by kernel_rfl) (by simp) ?_
      refine AllReadyH.cons rfl (fun K hK => ?_) AllReadyH.nil
      go_split_ands
      go_simp
      go_at_call 27
      refine (HEV.out _).mono ?_
      rintro e w9 ⟨rfl, hb9⟩
      refine hK.out _ _ (cfg_keep (w := w) (c := c) hb9 ⟨by assumption, by assumption, by assumption, by assumption, by assumption, by assumption⟩) (fun hHeld2 => ?_)
      clear hK K
      try simp only [Act.put, List.setIfInBounds_toArray, List.set_cons_zero, List.set_cons_succ, List.getElem_toArray, List.getElem_cons_zero, List.getElem_cons_succ]
      refine wpAnyH_take (i := 5) (v := ?_) rfl (by kernel_rfl) (by kernel_rfl) (by kernel_rfl) (fun _ _ _ h => h) (Or.inl ⟨by rfl, ?_⟩) (by assumption) ?_
      rotate_left 1
      · ((intro w hSw; (try dsimp only at hSw); go_simp) <;> with_reducible rfl)
      try simp only [Act.put, List.setIfInBounds_toArray, List.set_cons_zero, List.set_cons_succ, List.getElem_toArray, List.getElem_cons_zero, List.getElem_cons_succ]
      refine wpAnyH_ready (rs := [7]) (by kernel_rfl) (by simp) ?_
      refine AllReadyH.cons rfl (fun K hK => ?_) AllReadyH.nil
      go_split_ands
      go_simp
      go_at_call 23
      refine (HRM.out _).mono ?_
      rintro e w9 ⟨rfl, hb9⟩
      refine hK.out _ _ (cfg_keep (w := w) (c := c) hb9 ⟨by assumption, by assumption, by assumption, by assumption, by assumption, by assumption⟩) (fun hHeld2 => ?_)
      clear hK K
      try simp only [Act.put, List.setIfInBounds_toArray, List.set_cons_zero, List.set_cons_succ, List.getElem_toArray, List.getElem_cons_zero, List.getElem_cons_succ]
      refine wpAnyH_take (i := 8) (v := ?_) rfl (by kernel_rfl) (by kernel_rfl) (by kernel_rfl) (fun _ _ _ h => h) (Or.inl ⟨by rfl, ?_⟩) (by assumption) ?_
      rotate_left 1
      · ((intro w hSw; (try dsimp only at hSw); go_simp) <;> with_reducible rfl)
      try simp only [Act.put, List.setIfInBounds_toArray, List.set_cons_zero, List.set_cons_succ, List.getElem_toArray, List.getElem_cons_zero, List.getElem_cons_succ]
      refine wpAnyH_ready (rs := [10]) (by kernel_rfl) (by simp) ?_
      refine AllReadyH.cons rfl (fun K hK => ?_) AllReadyH.nil
      go_split_ands
      go_simp
      go_at_call 23
      refine (HRM.out _).mono ?_
      rintro e w9 ⟨rfl, hb9⟩
      refine hK.out _ _ (cfg_keep (w := w) (c := c) hb9 ⟨by assumption, by assumption, by assumption, by assumption, by assumption, by assumption⟩) (fun hHeld2 => ?_)
      clear hK K
      try simp only [Act.put, List.setIfInBounds_toArray, List.set_cons_zero, List.set_cons_succ, List.getElem_toArray, List.getElem_cons_zero, List.getElem_cons_succ]
      refine wpAnyH_take (i := 11) (v := ?_) rfl (by kernel_rfl) (by kernel_rfl) (by kernel_rfl) (fun _ _ _ h => h) (Or.inl ⟨by rfl, ?_⟩) (by assumption) ?_
      rotate_left 1
      · ((intro w hSw; (try dsimp only at hSw); go_simp) <;> with_reducible rfl)
      try simp only [Act.put, List.setIfInBounds_toArray, List.set_cons_zero, List.set_cons_succ, List.getElem_toArray, List.getElem_cons_zero, List.getElem_cons_succ]
      refine wpAnyH_take (i := 12) (v := ?_) rfl (by kernel_rfl) (by kernel_rfl) (by kernel_rfl) (fun _ _ _ h => h) (Or.inl ⟨by rfl, ?_⟩) (by assumption) ?_
      rotate_left 1
      · ((intro w hSw; (try dsimp only at hSw); go_simp) <;> with_reducible rfl)
      try simp only [Act.put, List.setIfInBounds_toArray, List.set_cons_zero, List.set_cons_succ, List.getElem_toArray, List.getElem_cons_zero, List.getElem_cons_succ]
      refine wpAnyH_done (by kernel_rfl) ?_ _
      have HL := Lib.hid hHeld2.2.2.2.2.2
      clear hHeld2 a1 a2 a3 a4
      go_wp2_with fail
      go_ret
      exact ⟨by rw [HF.out]; rfl, HL.out⟩
    · obtain rfl : v = 7 := by omega
      have HF := Lib.hid (show stepsZ c 7 = 31 + T by rw [HZ.out]; simp only [List.getD_cons_succ, List.getD_cons_zero]; rw [HC.out]; omega)
      clear HZ HG HS HC a1 a2 a3 a4
      go_enter Tryz.func29, Tryz.ntmps29
      go_wp2_with fail
      refine HM.out.mono ?_
      rintro e w1 ⟨rfl, hb1⟩
      have hs1 : CfgS w c w1 := rcfg_box (by have := hb1; simpa using this) (HB0.out.trans (hb1.mono HB0.out.size))
      have H1 := Lib.hid hs1
      obtain ⟨y0, y1, y2, y3, y4, -⟩ := hs1
      clear hb1 HM HB0 hV
      go_wp2_with fail
      refine (HTN.out _).mono ?_
      rintro e w2 ⟨rfl, hb2⟩
      have HL := Lib.hid (cfg_keep hb2 H1.out).2.2.2.2.2
      clear hb2 y0 y1 y2 y3 y4 H1
      go_wp2_with fail
      go_ret
      exact ⟨by rw [HF.out]; rfl, HL.out⟩
    · obtain rfl : v = 8 := by omega
      have HF := Lib.hid (show stepsZ c 8 = 31 + T by rw [HZ.out]; simp only [List.getD_cons_succ, List.getD_cons_zero]; rw [HC.out]; omega)
      clear HZ HG HS HC a1 a2 a3 a4
      go_enter Tryz.func29, Tryz.ntmps29
      go_wp2_with fail
      refine HM.out.mono ?_
      rintro e w1 ⟨rfl, hb1⟩
      have hs1 : CfgS w c w1 := rcfg_box (by have := hb1; simpa using this) (HB0.out.trans (hb1.mono HB0.out.size))
      have H1 := Lib.hid hs1
      obtain ⟨y0, y1, y2, y3, y4, -⟩ := hs1
      clear hb1 HM HB0 hV
      go_wp2_with fail
      refine (HTN.out _).mono ?_
      rintro e w2 ⟨rfl, hb2⟩
      have HL := Lib.hid (cfg_keep hb2 H1.out).2.2.2.2.2
      clear hb2 y0 y1 y2 y3 y4 H1
      go_wp2_with fail
      go_ret
      exact ⟨by rw [HF.out]; rfl, HL.out⟩
    · obtain rfl : v = 9 := by omega
      have HF := Lib.hid (show stepsZ c 9 = 31 + T by rw [HZ.out]; simp only [List.getD_cons_succ, List.getD_cons_zero]; rw [HC.out]; omega)
      clear HZ HG HS HC a1 a2 a3 a4
      go_enter Tryz.func29, Tryz.ntmps29
      go_wp2_with fail
      refine HM.out.mono ?_
      rintro e w1 ⟨rfl, hb1⟩
      have hs1 : CfgS w c w1 := rcfg_box (by have := hb1; simpa using this) (HB0.out.trans (hb1.mono HB0.out.size))
      have H1 := Lib.hid hs1
      obtain ⟨y0, y1, y2, y3, y4, -⟩ := hs1
      clear hb1 HM HB0 hV
      go_wp2_with fail
      refine (HTN.out _).mono ?_
      rintro e w2 ⟨rfl, hb2⟩
      have HL := Lib.hid (cfg_keep hb2 H1.out).2.2.2.2.2
      clear hb2 y0 y1 y2 y3 y4 H1
      go_wp2_with fail
      go_ret
      exact ⟨by rw [HF.out]; rfl, HL.out⟩
    · obtain rfl : v = 10 := by omega
      have HF := Lib.hid (show stepsZ c 10 = 31 + T by rw [HZ.out]; simp only [List.getD_cons_succ, List.getD_cons_zero]; rw [HC.out]; omega)
      clear HZ HG HS HC a1 a2 a3 a4
      go_enter Tryz.func29, Tryz.ntmps29
      go_wp2_with fail
      refine HM.out.mono ?_
      rintro e w1 ⟨rfl, hb1⟩
      have hs1 : CfgS w c w1 := rcfg_box (by have := hb1; simpa using this) (HB0.out.trans (hb1.mono HB0.out.size))
      have H1 := Lib.hid hs1
      obtain ⟨y0, y1, y2, y3, y4, -⟩ := hs1
      clear hb1 HM HB0 hV
      go_wp2_with fail
      refine (HTN.out _).mono ?_
      rintro e w2 ⟨rfl, hb2⟩
      have HL := Lib.hid (cfg_keep hb2 H1.out).2.2.2.2.2
      clear hb2 y0 y1 y2 y3 y4 H1
      go_wp2_with fail
      go_ret
      exact ⟨by rw [HF.out]; rfl, HL.out⟩
    · obtain rfl : v = 11 := by omega
      have HF := Lib.hid (show stepsZ c 11 = 4 by rw [HZ.out]; rfl)
      clear HZ HG HS HC a1 a2 a3 a4
      go_enter Tryz.func29, Tryz.ntmps29
      go_wp2_with fail
      refine HM.out.mono ?_
      rintro e w1 ⟨rfl, hb1⟩
      have hs1 : CfgS w c w1 := rcfg_box (by have := hb1; simpa using this) (HB0.out.trans (hb1.mono HB0.out.size))
      have H1 := Lib.hid hs1
      obtain ⟨y0, y1, y2, y3, y4, -⟩ := hs1
      clear hb1 HM HB0 hV
      go_wp2_with fail
      go_ret
      exact ⟨by rw [HF.out]; rfl, H1.out.2.2.2.2.2⟩
    · have HF := Lib.hid (show stepsZ c v = 0 by
        rw [HZ.out]
        rcases h with h | h
        · obtain rfl : v = 0 := by omega
          rfl
        · rw [List.getD_eq_getElem?_getD, List.getElem?_eq_none (by simp; omega)]; rfl)
      clear HZ HG HS HC a1 a2 a3 a4
      have v1 : (V == 1) = false := by rw [beq_eq_false_iff_ne]; omega
      have v2 : (V == 2) = false := by rw [beq_eq_false_iff_ne]; omega
      have v3 : (V == 3) = false := by rw [beq_eq_false_iff_ne]; omega
      have v4 : (V == 4) = false := by rw [beq_eq_false_iff_ne]; omega
      have v5 : (V == 5) = false := by rw [beq_eq_false_iff_ne]; omega
      have v6 : (V == 6) = false := by rw [beq_eq_false_iff_ne]; omega
      have v7 : (V == 7) = false := by rw [beq_eq_false_iff_ne]; omega
      have v8 : (V == 8) = false := by rw [beq_eq_false_iff_ne]; omega
      have v9 : (V == 9) = false := by rw [beq_eq_false_iff_ne]; omega
      have v10 : (V == 10) = false := by rw [beq_eq_false_iff_ne]; omega
      have v11 : (V == 11) = false := by rw [beq_eq_false_iff_ne]; omega
      clear h
      go_enter Tryz.func29, Tryz.ntmps29
      go_wp2_with fail
      refine HM.out.mono ?_
      rintro e w1 ⟨rfl, hb1⟩
      have hs1 : CfgS w c w1 := rcfg_box (by have := hb1; simpa using this) (HB0.out.trans (hb1.mono HB0.out.size))
      have H1 := Lib.hid hs1
      obtain ⟨y0, y1, y2, y3, y4, -⟩ := hs1
      clear hb1 HM HB0 hV
      go_wp2_with fail
      go_ret
      exact ⟨by rw [HF.out]; rfl, H1.out.2.2.2.2.2⟩
set_option maxRecDepth 100000 in
set_option maxHeartbeats 8000000 in
theorem refWindows_any (c : CfgD) {w : World} {lv : Value} {C : List Cmd} (h : CallRow w lv C) (hC : ∀ x ∈ C, x.cverb < 256) (hlen : C.length ≤ 268435456) :
    Calls Tryz.prog 30 #[cfgV c, lv] w (IntOk (windowsZ c (C.map (·.cverb))) w) := by
  obtain ⟨la, lc, rfl⟩ := h.len
  have hs0 : CfgS w c (w.alloc (.cells (cfgCells c).toArray 50)) := rcfg_box (by have := Below.refl (w.heap.size + 1) (w.alloc (.cells (cfgCells c).toArray 50)); exact this) ((Below.refl _ _).alloc (Nat.le_refl _) _)
  have HS0 := Lib.hid hs0
  have HST := Lib.hid (fun v (hv : v < 256) W => refSteps_any c v (v : Int) rfl hv W)
  have HR := Lib.hid h
  have HC := Lib.hid hC
  clear hs0 h hC
  go_enter Tryz.func30, Tryz.ntmps30
  go_wp2_with fail
  go_loopw [5, 6] (fun s5 s6 wr => ∃ (k : Nat) (S : Int), s6 = .int .i64 (k : Int) ∧ s5 = .int .i64 S ∧ k ≤ C.length ∧ CfgS w c wr ∧ Hid (S = windowsZ c ((C.take k).map (·.cverb)))) (fun _ s6 _ => C.length - (intOf s6).toNat)
  case atStart => exact ⟨0, 0, rfl, rfl, Nat.zero_le _, HS0.out, Lib.hid (by simp [windowsZ])⟩
  case round =>
    obtain ⟨k, S, rfl, rfl, hk, hs, HS⟩ := hrel
    clear HS0
    by_cases hlt : k < C.length
    · obtain ⟨x, hx⟩ : ∃ x, C[k]? = some x := ⟨_, List.getElem?_eq_getElem hlt⟩
      have HSK := Lib.hid hs
      obtain ⟨y0, y1, y2, y3, y4, yl⟩ := hs
      obtain ⟨g, o, cc, hs1, _, hcell⟩ := callRow_at (HR.out.below yl) hx
      obtain ⟨rfl, -, -⟩ := slice_inj hs1
      obtain ⟨b, hb⟩ : ∃ b, b = o + k * 7 := ⟨_, rfl⟩
      have ix : ∀ W : World, (Instr.indexAt 52 (.slice (some ⟨g, o, none⟩) C.length lc) (.int .i64 (k : Int))).run Tryz.prog W = .ok (.pointer (some ⟨g, b, none⟩)) W := fun W => by rw [hb]; exact idx_call rfl hlt W
      have z0 : wr.cell? ⟨g, b, none⟩ = some (.int .u8 (x.cverb : Int)) := by
        have h := (hcell 0 _ rfl).1
        rwa [show o + (k * 7 + 0) = b from by omega] at h
      have hst := HST.out x.cverb (HC.out x (List.mem_of_getElem? hx))
      have hbd := steps_bd c x.cverb
      have hwb := windows_bd c ((C.take k).map (·.cverb))
      rw [← HS.out, List.length_map, List.length_take] at hwb
      have hS0 : 0 ≤ S := hwb.1
      have hS1 : S ≤ 1080000000000000 := by have := hwb.2; omega
      have hw64 : ∀ Z : Int, 0 ≤ Z → Z ≤ 4000000 → IntKind.i64.wrap (S + Z) = S + Z := fun Z _ _ => IntWalk.i64_in _ (by omega)
      have HW := Lib.hid (show S + stepsZ c x.cverb = windowsZ c ((C.take (k + 1)).map (·.cverb)) by rw [windows_take hx, HS.out])
      generalize stepsZ c x.cverb = Z at *
      obtain ⟨hZ0, hZ1⟩ := hbd
      have hw65 := hw64 Z hZ0 hZ1
      clear hw64
      have HSTX := Lib.hid hst
      clear hst hwb hb hs1 hcell hx yl HS
      go_wp2_with fail
      refine wp_region_held_drew (S := fun W => (W.cell? ⟨w.heap.size, 0, none⟩ = some (.int .i64 c.bits) ∧ W.cell? ⟨w.heap.size, 1, none⟩ = some (.int .i64 c.budget) ∧ W.cell? ⟨w.heap.size, 2, none⟩ = some (.int .i64 c.tries) ∧ W.cell? ⟨w.heap.size, 3, none⟩ = some (.int .i64 c.quantum) ∧ W.cell? ⟨w.heap.size, 4, none⟩ = some (.int .i64 c.way) ∧ Below w.heap.size w W) ∧ W.cell? ⟨g, b, none⟩ = some (.int .u8 (x.cverb : Int))) (by kernel_rfl) (cfg_keep2 (w := w) (c := c) (p := g) (q := b) (Below.refl _ _).drew ⟨HSK.out, z0⟩) (fun hHeld => ?_)
      clear y0 y1 y2 y3 y4 z0
      refine wpAnyH_take (i := 0) (v := ?_) rfl (by kernel_rfl) (by kernel_rfl) (by kernel_rfl) (fun _ _ _ h => h) (Or.inl ⟨by rfl, ?_⟩) (by assumption) ?_
      rotate_left 1
      · ((intro w hSw; (try dsimp only at hSw); go_simp) <;> with_reducible rfl)
      try simp only [Act.put, List.setIfInBounds_toArray, List.set_cons_zero, List.set_cons_succ, List.getElem_toArray, List.getElem_cons_zero]
      refine wpAnyH_take (i := 1) (v := ?_) rfl (by kernel_rfl) (by kernel_rfl) (by kernel_rfl) (fun _ _ _ h => h) (Or.inl ⟨by rfl, ?_⟩) (by assumption) ?_
      rotate_left 1
      · ((intro w hSw; (try dsimp only at hSw); go_simp) <;> with_reducible rfl)
      try simp only [Act.put, List.setIfInBounds_toArray, List.set_cons_zero, List.set_cons_succ, List.getElem_toArray, List.getElem_cons_zero, List.getElem_cons_succ]
      refine wpAnyH_take (i := 2) (v := ?_) rfl (by kernel_rfl) (by kernel_rfl) (by kernel_rfl) (fun _ _ _ h => h) (Or.inl ⟨by rfl, ?_⟩) (by assumption) ?_
      rotate_left 1
      · ((intro w hSw; (try dsimp only at hSw); go_simp) <;> with_reducible rfl)
      try simp only [Act.put, List.setIfInBounds_toArray, List.set_cons_zero, List.set_cons_succ, List.getElem_toArray, List.getElem_cons_zero, List.getElem_cons_succ]
      refine wpAnyH_take (i := 3) (v := ?_) rfl (by kernel_rfl) (by kernel_rfl) (by kernel_rfl) (fun _ _ _ h => h) (Or.inl ⟨by rfl, ?_⟩) (by assumption) ?_
      rotate_left 1
      · ((intro w hSw; (try dsimp only at hSw); go_simp) <;> with_reducible rfl)
      try simp only [Act.put, List.setIfInBounds_toArray, List.set_cons_zero, List.set_cons_succ, List.getElem_toArray, List.getElem_cons_zero, List.getElem_cons_succ]
      refine wpAnyH_take (i := 4) (v := ?_) rfl (by kernel_rfl) (by kernel_rfl) (by kernel_rfl) (fun _ _ _ h => h) (Or.inl ⟨by rfl, ?_⟩) (by assumption) ?_
      rotate_left 1
      · ((intro w hSw; (try dsimp only at hSw); go_simp) <;> with_reducible rfl)
      try simp only [Act.put, List.setIfInBounds_toArray, List.set_cons_zero, List.set_cons_succ, List.getElem_toArray, List.getElem_cons_zero, List.getElem_cons_succ]
      refine wpAnyH_take (i := 5) (v := ?_) rfl (by kernel_rfl) (by kernel_rfl) (by kernel_rfl) (fun _ _ _ h => h) (Or.inl ⟨by rfl, ?_⟩) (by assumption) ?_
      rotate_left 1
      · ((intro w hSw; (try dsimp only at hSw); go_simp) <;> with_reducible rfl)
      try simp only [Act.put, List.setIfInBounds_toArray, List.set_cons_zero, List.set_cons_succ, List.getElem_toArray, List.getElem_cons_zero, List.getElem_cons_succ]
      refine wpAnyH_take (i := 6) (v := ?_) rfl (by kernel_rfl) (by kernel_rfl) (by kernel_rfl) (fun _ _ _ h => h) (Or.inl ⟨by rfl, ?_⟩) (by assumption) ?_
      rotate_left 1
      · ((intro w hSw; (try dsimp only at hSw); go_simp) <;> with_reducible rfl)
      try simp only [Act.put, List.setIfInBounds_toArray, List.set_cons_zero, List.set_cons_succ, List.getElem_toArray, List.getElem_cons_zero, List.getElem_cons_succ]
      refine wpAnyH_ready (rs := [7]) (by kernel_rfl) (by simp) ?_
      refine AllReadyH.cons rfl (fun K hK => ?_) AllReadyH.nil
      go_split_ands
      go_simp
      go_at_call 29
      refine (HSTX.out _).mono ?_
      rintro e w9 ⟨rfl, hb9⟩
      refine hK.out _ _ (cfg_keep2 (w := w) (c := c) (p := g) (q := b) hb9 ⟨⟨by assumption, by assumption, by assumption, by assumption, by assumption, by assumption⟩, by assumption⟩) (fun hHeld2 => ?_)
      clear hK K
      try simp only [Act.put, List.setIfInBounds_toArray, List.set_cons_zero, List.set_cons_succ, List.getElem_toArray, List.getElem_cons_zero, List.getElem_cons_succ]
      refine wpAnyH_take (i := 8) (v := ?_) rfl (by kernel_rfl) (by kernel_rfl) (by kernel_rfl) (fun _ _ _ h => h) (Or.inl ⟨by rfl, ?_⟩) (by assumption) ?_
      rotate_left 1
      · ((intro w hSw; (try dsimp only at hSw); go_simp) <;> with_reducible rfl)
      try simp only [Act.put, List.setIfInBounds_toArray, List.set_cons_zero, List.set_cons_succ, List.getElem_toArray, List.getElem_cons_zero, List.getElem_cons_succ]
      refine wpAnyH_take (i := 9) (v := ?_) rfl (by kernel_rfl) (by kernel_rfl) (by kernel_rfl) (fun _ _ _ h => h) (Or.inl ⟨by rfl, ?_⟩) (by assumption) ?_
      rotate_left 1
      · ((intro w hSw; (try dsimp only at hSw); go_simp) <;> with_reducible rfl)
      try simp only [Act.put, List.setIfInBounds_toArray, List.set_cons_zero, List.set_cons_succ, List.getElem_toArray, List.getElem_cons_zero, List.getElem_cons_succ]
      refine wpAnyH_done (by kernel_rfl) ?_ _
      have HS1 := Lib.hid hHeld2
      clear hHeld2
      go_wp2_with fail
      go_roundw
      case rel => exact ⟨k + 1, S + Z, by go_num, rfl, by omega, HS1.out.1, HW⟩
      case measure => simp [intOf]; omega
    · obtain rfl : k = C.length := by omega
      rw [List.take_of_length_le (Nat.le_refl _)] at HS
      have HL := Lib.hid hs.2.2.2.2.2
      clear hs
      go_wp2_with fail
      go_ret
      exact ⟨by rw [← HS.out]; rfl, HL.out⟩
set_option maxRecDepth 100000 in
theorem other10_any (c : CfgD) (w : World) : Calls Tryz.prog 20 #[cfgV c] w fun e w' => e = .returned (cfgV c) ∧ Below w.heap.size w w' := by
  go_enter Tryz.func20, Tryz.ntmps20
  go_wp2_with fail
  exact bodyPost_ret (v := cfgV c) (by simp [results, Tryz.results20, go_sem]) rfl ⟨rfl, ((Below.refl _ _).alloc (Nat.le_refl _) _).alloc (by simp) _⟩
end Go.Proofs.YtahpjhnbjkjkiaaGreatDoor
