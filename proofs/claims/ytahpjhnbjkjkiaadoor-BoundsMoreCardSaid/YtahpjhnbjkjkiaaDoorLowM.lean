/- What worlds.May, bounds.sum, Room, Turn, Evict and Steps answer. No condition. bounds.sum, Room, Turn, Evict, Steps, walked. No condition. bounds.Evict, Steps, Windows, walked. No condition. bounds.Windows, walked. No condition but the number of calls. The chapter's examples of layer 40 hold: 'lives' answers true. Condition: the library's variables MaxLen and ErrRange are as they are laid. -/
import Derived.Test.YtahpjhnbjkjkiaaDoorLowA
import Derived.RegionTactic
import Derived.ChangeAlike
import Derived.Test.YtahpjhnbjkjkiaaDoorLowG
import Derived.Test.YtahpjhnbjkjkiaaDoorLowL
namespace Go.Proofs.YtahpjhnbjkjkiaaDoor
open Go.RowKit Go.ChangeMaps Go.MapKept

structure CfgD where
  bits : Int
  budget : Int
  tries : Int
  quantum : Int
  way : Int
abbrev cfgCells (c : CfgD) : List Value := [.int .i64 c.bits, .int .i64 c.budget, .int .i64 c.tries, .int .i64 c.quantum, .int .i64 c.way]
abbrev cfgV (c : CfgD) : Value := .agg (cfgCells c).toArray
structure MayP (c : CfgD) : Prop where
  b0 : 1 ≤ c.bits
  b1 : c.bits ≤ 12
  u0 : 1 ≤ c.budget
  u1 : c.budget ≤ 65536
  t0 : 0 ≤ c.tries
  t1 : c.tries ≤ 16
  q0 : 1 ≤ c.quantum
  q1 : c.quantum ≤ 8
  y0 : 2 ≤ c.way
  y1 : c.way ≤ 256
def mayC (c : CfgD) : Bool := decide (1 ≤ c.bits) && decide (c.bits ≤ 12) && decide (1 ≤ c.budget) && decide (c.budget ≤ 65536) && decide (0 ≤ c.tries) && decide (c.tries ≤ 16) && decide (1 ≤ c.quantum) && decide (c.quantum ≤ 8) && decide (2 ≤ c.way) && decide (c.way ≤ 256)
theorem may_of {c : CfgD} (h : mayC c = true) : MayP c := by
  unfold mayC at h
  simp only [Bool.and_eq_true, decide_eq_true_eq] at h
  obtain ⟨⟨⟨⟨⟨⟨⟨⟨⟨h0, h1⟩, h2⟩, h3⟩, h4⟩, h5⟩, h6⟩, h7⟩, h8⟩, h9⟩ := h
  exact ⟨h0, h1, h2, h3, h4, h5, h6, h7, h8, h9⟩
theorem may_mk {c : CfgD} (h : MayP c) : mayC c = true := by
  unfold mayC
  simp only [Bool.and_eq_true, decide_eq_true_eq]
  exact ⟨⟨⟨⟨⟨⟨⟨⟨⟨h.b0, h.b1⟩, h.u0⟩, h.u1⟩, h.t0⟩, h.t1⟩, h.q0⟩, h.q1⟩, h.y0⟩, h.y1⟩
theorem may_no {c : CfgD} (h : ¬ MayP c) : mayC c = false := by
  cases hm : mayC c
  · rfl
  · exact absurd (may_of hm) h
/-- The first k parts are such as may be. -/
def MayTo (c : CfgD) (k : Nat) : Prop := (1 ≤ k → 1 ≤ c.bits ∧ c.bits ≤ 12) ∧ (2 ≤ k → 1 ≤ c.budget ∧ c.budget ≤ 65536) ∧ (3 ≤ k → 0 ≤ c.tries ∧ c.tries ≤ 16) ∧ (4 ≤ k → 1 ≤ c.quantum ∧ c.quantum ≤ 8) ∧ (5 ≤ k → 2 ≤ c.way ∧ c.way ≤ 256)
set_option maxRecDepth 100000 in
set_option maxHeartbeats 4000000 in
theorem may_any (c : CfgD) (w : World) : Calls Tryd.prog 17 #[cfgV c] w fun e w' => e = .returned (.bool (mayC c)) ∧ Below w.heap.size w w' := by
  obtain ⟨V, hV⟩ : ∃ V : Value, V = .agg #[.int .i64 c.bits, .int .i64 1, .int .i64 12, .int .i64 c.budget, .int .i64 1, .int .i64 65536, .int .i64 c.tries, .int .i64 0, .int .i64 16, .int .i64 c.quantum, .int .i64 1, .int .i64 8, .int .i64 c.way, .int .i64 2, .int .i64 256] := ⟨_, rfl⟩
  have i0 : ∀ W, (Instr.index 80 V (.int .i64 0)).run Tryd.prog W = .ok (.agg #[.int .i64 c.bits, .int .i64 1, .int .i64 12]) W := fun W => by rw [hV]; kernel_rfl
  have i1 : ∀ W, (Instr.index 80 V (.int .i64 1)).run Tryd.prog W = .ok (.agg #[.int .i64 c.budget, .int .i64 1, .int .i64 65536]) W := fun W => by rw [hV]; kernel_rfl
  have i2 : ∀ W, (Instr.index 80 V (.int .i64 2)).run Tryd.prog W = .ok (.agg #[.int .i64 c.tries, .int .i64 0, .int .i64 16]) W := fun W => by rw [hV]; kernel_rfl
  have i3 : ∀ W, (Instr.index 80 V (.int .i64 3)).run Tryd.prog W = .ok (.agg #[.int .i64 c.quantum, .int .i64 1, .int .i64 8]) W := fun W => by rw [hV]; kernel_rfl
  have i4 : ∀ W, (Instr.index 80 V (.int .i64 4)).run Tryd.prog W = .ok (.agg #[.int .i64 c.way, .int .i64 2, .int .i64 256]) W := fun W => by rw [hV]; kernel_rfl
  have HV := Lib.hid hV
  clear hV
  have hb0 : Below w.heap.size w (w.alloc (.cells (cfgCells c).toArray 54)) := (Below.refl _ _).alloc (Nat.le_refl _) _
  have HB0 := Lib.hid hb0
  clear hb0
  go_enter Tryd.func17, Tryd.ntmps17
  go_wp2_with fail
  rw [← HV.out]
  go_loopw [21] (fun s21 wr => ∃ k : Nat, s21 = .int .i64 (k : Int) ∧ k ≤ 5 ∧ MayTo c k ∧ Below w.heap.size w wr) (fun s21 _ => 5 - (intOf s21).toNat)
  case atStart => exact ⟨0, rfl, by omega, ⟨by omega, by omega, by omega, by omega, by omega⟩, HB0.out⟩
  case round =>
    obtain ⟨k, rfl, hk, hm, hlo⟩ := hrel
    have HLO := Lib.hid hlo
    have HM := Lib.hid hm
    have hsz := hlo.size
    clear hlo hm
    rcases (by omega : k = 0 ∨ k = 1 ∨ k = 2 ∨ k = 3 ∨ k = 4 ∨ k = 5) with rfl | rfl | rfl | rfl | rfl | rfl
    · by_cases ha : c.bits < 1
      · have hno : mayC c = false := may_no (fun h => by have := h.b0; omega)
        have HN := Lib.hid hno
        clear hno
        go_wp2_with fail
        go_ret
        exact ⟨by rw [HN.out]; rfl, HLO.out.alloc hsz _⟩
      · by_cases hb : 12 < c.bits
        · have hno : mayC c = false := may_no (fun h => by have := h.b1; omega)
          have HN := Lib.hid hno
          clear hno
          go_wp2_with fail
          go_ret
          exact ⟨by rw [HN.out]; rfl, HLO.out.alloc hsz _⟩
        · go_wp2_with fail
          go_roundw
          case rel => exact ⟨1, by go_num, by omega, ⟨fun _ => ⟨by omega, by omega⟩, by omega, by omega, by omega, by omega⟩, HLO.out.alloc hsz _⟩
          case measure => simp [intOf]
    · by_cases ha : c.budget < 1
      · have hno : mayC c = false := may_no (fun h => by have := h.u0; omega)
        have HN := Lib.hid hno
        clear hno
        go_wp2_with fail
        go_ret
        exact ⟨by rw [HN.out]; rfl, HLO.out.alloc hsz _⟩
      · by_cases hb : 65536 < c.budget
        · have hno : mayC c = false := may_no (fun h => by have := h.u1; omega)
          have HN := Lib.hid hno
          clear hno
          go_wp2_with fail
          go_ret
          exact ⟨by rw [HN.out]; rfl, HLO.out.alloc hsz _⟩
        · go_wp2_with fail
          go_roundw
          case rel => exact ⟨2, by go_num, by omega, ⟨fun _ => HM.out.1 (by omega), fun _ => ⟨by omega, by omega⟩, by omega, by omega, by omega⟩, HLO.out.alloc hsz _⟩
          case measure => simp [intOf]
    · by_cases ha : c.tries < 0
      · have hno : mayC c = false := may_no (fun h => by have := h.t0; omega)
        have HN := Lib.hid hno
        clear hno
        go_wp2_with fail
        go_ret
        exact ⟨by rw [HN.out]; rfl, HLO.out.alloc hsz _⟩
      · by_cases hb : 16 < c.tries
        · have hno : mayC c = false := may_no (fun h => by have := h.t1; omega)
          have HN := Lib.hid hno
          clear hno
          go_wp2_with fail
          go_ret
          exact ⟨by rw [HN.out]; rfl, HLO.out.alloc hsz _⟩
        · go_wp2_with fail
          go_roundw
          case rel => exact ⟨3, by go_num, by omega, ⟨fun _ => HM.out.1 (by omega), fun _ => HM.out.2.1 (by omega), fun _ => ⟨by omega, by omega⟩, by omega, by omega⟩, HLO.out.alloc hsz _⟩
          case measure => simp [intOf]
    · by_cases ha : c.quantum < 1
      · have hno : mayC c = false := may_no (fun h => by have := h.q0; omega)
        have HN := Lib.hid hno
        clear hno
        go_wp2_with fail
        go_ret
        exact ⟨by rw [HN.out]; rfl, HLO.out.alloc hsz _⟩
      · by_cases hb : 8 < c.quantum
        · have hno : mayC c = false := may_no (fun h => by have := h.q1; omega)
          have HN := Lib.hid hno
          clear hno
          go_wp2_with fail
          go_ret
          exact ⟨by rw [HN.out]; rfl, HLO.out.alloc hsz _⟩
        · go_wp2_with fail
          go_roundw
          case rel => exact ⟨4, by go_num, by omega, ⟨fun _ => HM.out.1 (by omega), fun _ => HM.out.2.1 (by omega), fun _ => HM.out.2.2.1 (by omega), fun _ => ⟨by omega, by omega⟩, by omega⟩, HLO.out.alloc hsz _⟩
          case measure => simp [intOf]
    · by_cases ha : c.way < 2
      · have hno : mayC c = false := may_no (fun h => by have := h.y0; omega)
        have HN := Lib.hid hno
        clear hno
        go_wp2_with fail
        go_ret
        exact ⟨by rw [HN.out]; rfl, HLO.out.alloc hsz _⟩
      · by_cases hb : 256 < c.way
        · have hno : mayC c = false := may_no (fun h => by have := h.y1; omega)
          have HN := Lib.hid hno
          clear hno
          go_wp2_with fail
          go_ret
          exact ⟨by rw [HN.out]; rfl, HLO.out.alloc hsz _⟩
        · go_wp2_with fail
          go_roundw
          case rel => exact ⟨5, by go_num, by omega, ⟨fun _ => HM.out.1 (by omega), fun _ => HM.out.2.1 (by omega), fun _ => HM.out.2.2.1 (by omega), fun _ => HM.out.2.2.2.1 (by omega), fun _ => ⟨by omega, by omega⟩⟩, HLO.out.alloc hsz _⟩
          case measure => simp [intOf]
    · have hyes : mayC c = true := may_mk ⟨(HM.out.1 (by omega)).1, (HM.out.1 (by omega)).2, (HM.out.2.1 (by omega)).1, (HM.out.2.1 (by omega)).2, (HM.out.2.2.1 (by omega)).1, (HM.out.2.2.1 (by omega)).2, (HM.out.2.2.2.1 (by omega)).1, (HM.out.2.2.2.1 (by omega)).2, (HM.out.2.2.2.2 (by omega)).1, (HM.out.2.2.2.2 (by omega)).2⟩
      have HY := Lib.hid hyes
      clear hyes
      go_wp2_with fail
      go_ret
      exact ⟨by rw [HY.out]; rfl, HLO.out⟩
end Go.Proofs.YtahpjhnbjkjkiaaDoor
namespace Go.Proofs.YtahpjhnbjkjkiaaDoor
open Go.RowKit Go.ChangeMaps Go.MapKept

abbrev intsV (xs : List Int) : List Value := xs.map fun x => Value.int .i64 x
theorem idx_int {g n k : Nat} (hk : k < n) (W : World) : (Instr.indexAt 82 (.slice (some ⟨g, 0, none⟩) n n) (.int .i64 (k : Int))).run Tryd.prog W = .ok (.pointer (some ⟨g, k, none⟩)) W := by
  have h0 : (0 : Int) ≤ (k : Int) := by omega
  have h1 : (k : Int) < (n : Int) := by omega
  have h2 := Tryd.underlying82
  go_simp
theorem sum_take {xs : List Int} {k : Nat} {x : Int} (h : xs[k]? = some x) : (xs.take (k + 1)).sum = (xs.take k).sum + x := by
  obtain ⟨hi, he⟩ := List.getElem?_eq_some_iff.1 h
  rw [List.take_succ_eq_append_getElem hi, he]
  simp
theorem sum_bd : ∀ (xs : List Int), (∀ x ∈ xs, 0 ≤ x ∧ x ≤ 1125899906842624) → 0 ≤ xs.sum ∧ xs.sum ≤ 1125899906842624 * xs.length
  | [], _ => by simp
  | x :: xs, h => by
    have h1 := h x (by simp)
    have h2 := sum_bd xs (fun y hy => h y (by simp [hy]))
    rw [List.sum_cons, List.length_cons]
    omega
set_option maxHeartbeats 1000000 in
theorem sum_any (xs : List Int) (g n : Nat) (hn : xs.length = n) (hx : ∀ x ∈ xs, 0 ≤ x ∧ x ≤ 1125899906842624) (hl : n ≤ 12) (w : World) (hb : w.heap[g]? = some (.cells (intsV xs).toArray 3 (0, 0))) :
    Calls Tryd.prog 31 #[.slice (some ⟨g, 0, none⟩) n n] w fun e w' => e = .returned (.int .i64 xs.sum) ∧ w = w' := by
  subst hn
  have HX := Lib.hid hx
  have HB := Lib.hid hb
  clear hx hb
  go_enter Tryd.func31, Tryd.ntmps31
  go_wp2_with fail
  go_loop [3, 8] (fun s3 s8 => ∃ (k : Nat) (S : Int), s8 = .int .i64 (k : Int) ∧ s3 = .int .i64 S ∧ k ≤ xs.length ∧ Hid (S = (xs.take k).sum)) (fun _ s8 => xs.length - (intOf s8).toNat)
  case atStart => exact ⟨0, 0, rfl, rfl, Nat.zero_le _, Lib.hid (by simp)⟩
  case round =>
    obtain ⟨k, S, rfl, rfl, hk, HS⟩ := hrel
    by_cases hlt : k < xs.length
    · obtain ⟨x, hxk⟩ : ∃ x, xs[k]? = some x := ⟨_, List.getElem?_eq_getElem hlt⟩
      have hc : w.cell? ⟨g, k, none⟩ = some (.int .i64 x) := by
        simp only [World.cell?, HB.out]
        simp [hxk]
      have hxb := HX.out x (List.mem_of_getElem? hxk)
      have hsb := sum_bd (xs.take k) (fun y hy => HX.out y (List.mem_of_mem_take hy))
      rw [← HS.out, List.length_take] at hsb
      obtain ⟨hx0, hx1⟩ := hxb
      have hs0 : 0 ≤ S := hsb.1
      have hs1 : S ≤ 13510798882111488 := by have := hsb.2; omega
      have ix := fun W => idx_int (g := g) hlt W
      have HS2 := Lib.hid (show S + x = (xs.take (k + 1)).sum by rw [sum_take hxk, HS.out])
      clear hsb hxk HS
      go_wp2_with fail
      go_round
      case rel => exact ⟨k + 1, S + x, by go_num, rfl, by omega, HS2⟩
      case measure => simp [intOf]; omega
    · obtain rfl : k = xs.length := by omega
      rw [List.take_of_length_le (Nat.le_refl _)] at HS
      go_wp2_with fail
      go_ret
      exact ⟨by rw [← HS.out]; rfl, rfl⟩
theorem sum_is (xs : List Int) (z : Int) (hz : xs.sum = z) (g n : Nat) (hn : xs.length = n) (hx : ∀ x ∈ xs, 0 ≤ x ∧ x ≤ 1125899906842624) (hl : n ≤ 12) (w : World) (hb : w.heap[g]? = some (.cells (intsV xs).toArray 3 (0, 0))) :
    Calls Tryd.prog 31 #[.slice (some ⟨g, 0, none⟩) n n] w fun e w' => e = .returned (.int .i64 z) ∧ w = w' := by
  subst hz
  exact sum_any xs g n hn hx hl w hb
def roomZ (c : CfgD) : Int := if mayC c = true then 2 + 13 * c.way else 0
def turnZ (c : CfgD) : Int := if mayC c = true then 3 + c.quantum * (4 * (roomZ c + 12) + 3) else 0
def evictZ (c : CfgD) : Int := if mayC c = true then 13 + 48 * max c.budget ((4 * 2 ^ c.bits.toNat : Nat) : Int) else 0
def getZ (c : CfgD) : Int := 31 * (c.tries + 1) + 28
def storeZ (c : CfgD) : Int := turnZ c + evictZ c + 2 * roomZ c + 66
def changeZ (c : CfgD) : Int := turnZ c + 31
def stepsZ (c : CfgD) (v : Nat) : Int := if mayC c = true then ([0, getZ c, getZ c, storeZ c, storeZ c, storeZ c, storeZ c, changeZ c, changeZ c, changeZ c, changeZ c, 4] : List Int).getD v 0 else 0
def windowsZ (c : CfgD) (vs : List Nat) : Int := (vs.map (stepsZ c)).sum
theorem room_bd {c : CfgD} (h : mayC c = true) : roomZ c = 2 + 13 * c.way ∧ 28 ≤ roomZ c ∧ roomZ c ≤ 3330 := by
  have hp := may_of h
  have := hp.y0; have := hp.y1
  unfold roomZ
  rw [if_pos h]; omega
theorem mul_bd {q a : Int} (h0 : 1 ≤ q) (h1 : q ≤ 8) (h2 : 1 ≤ a) (h3 : a ≤ 1000000) : a ≤ q * a ∧ q * a ≤ 8 * a := by
  constructor
  · have := Int.mul_le_mul_of_nonneg_right h0 (show 0 ≤ a by omega); omega
  · exact Int.mul_le_mul_of_nonneg_right h1 (show 0 ≤ a by omega)
theorem turn_bd {c : CfgD} (h : mayC c = true) : 166 ≤ turnZ c ∧ turnZ c ≤ 106971 := by
  have hp := may_of h
  obtain ⟨_, h1, h2⟩ := room_bd h
  have h3 := mul_bd hp.q0 hp.q1 (show 1 ≤ 4 * (roomZ c + 12) + 3 by omega) (by omega)
  unfold turnZ
  rw [if_pos h]; omega
theorem pow_bits {b : Int} (h0 : 1 ≤ b) (h1 : b ≤ 12) : 8 ≤ 4 * 2 ^ b.toNat ∧ 4 * 2 ^ b.toNat ≤ 16384 := by
  have : ∀ n : Nat, n ≤ 12 → 1 ≤ n → 8 ≤ 4 * 2 ^ n ∧ 4 * 2 ^ n ≤ 16384 := by decide
  exact this b.toNat (by omega) (by omega)
theorem evict_bd {c : CfgD} (h : mayC c = true) : 397 ≤ evictZ c ∧ evictZ c ≤ 3145741 := by
  have hp := may_of h
  have := hp.u0; have := hp.u1
  have := pow_bits hp.b0 hp.b1
  unfold evictZ
  rw [if_pos h]; omega
theorem steps_bd (c : CfgD) (v : Nat) : 0 ≤ stepsZ c v ∧ stepsZ c v ≤ 4000000 := by
  unfold stepsZ
  split
  · rename_i h
    have hp := may_of h
    have := hp.t0; have := hp.t1
    have := room_bd h; have := turn_bd h; have := evict_bd h
    have hg : getZ c = 31 * (c.tries + 1) + 28 := rfl
    have hs : storeZ c = turnZ c + evictZ c + 2 * roomZ c + 66 := rfl
    have hc : changeZ c = turnZ c + 31 := rfl
    match v with
    | 0 => simp
    | 1 => simp; omega
    | 2 => simp; omega
    | 3 => simp; omega
    | 4 => simp; omega
    | 5 => simp; omega
    | 6 => simp; omega
    | 7 => simp; omega
    | 8 => simp; omega
    | 9 => simp; omega
    | 10 => simp; omega
    | 11 => simp
    | n + 12 => simp
  · omega
theorem low_drewN {B : Nat} {w w' : World} (h : Below B w w') (n : Nat) : Below B w (w'.drewN n) := ⟨h.os, h.tape, h.output, h.size, h.block⟩
def IntOk (z : Int) (w : World) (e : Ending) (w' : World) : Prop := e = .returned (.int .i64 z) ∧ Below w.heap.size w w'
set_option maxRecDepth 100000 in
set_option maxHeartbeats 4000000 in
theorem boundRoom_any (c : CfgD) (w : World) : Calls Tryd.prog 19 #[cfgV c] w (IntOk (roomZ c) w) := by
  have hb0 : Below w.heap.size w (w.alloc (.cells (cfgCells c).toArray 54)) := (Below.refl _ _).alloc (Nat.le_refl _) _
  have HB0 := Lib.hid hb0
  clear hb0
  cases hm : mayC c
  · have hz : roomZ c = 0 := by unfold roomZ; rw [hm]; rfl
    have HM := Lib.hid (show Calls Tryd.prog 17 #[cfgV c] (w.alloc (.cells (cfgCells c).toArray 54)) fun e w' => e = .returned (.bool false) ∧ Below (w.alloc (.cells (cfgCells c).toArray 54)).heap.size (w.alloc (.cells (cfgCells c).toArray 54)) w' by
      have := may_any c (w.alloc (.cells (cfgCells c).toArray 54))
      rwa [hm] at this)
    rw [hz]
    clear hz hm
    go_enter Tryd.func19, Tryd.ntmps19
    go_wp2_with fail
    refine HM.out.mono ?_
    rintro e w1 ⟨rfl, hb1⟩
    have HB1 := Lib.hid (HB0.out.trans (hb1.mono HB0.out.size))
    clear hb1
    go_wp2_with fail
    go_ret
    exact ⟨rfl, HB1.out⟩
  · have HM := Lib.hid (show Calls Tryd.prog 17 #[cfgV c] (w.alloc (.cells (cfgCells c).toArray 54)) fun e w' => e = .returned (.bool true) ∧ Below (w.alloc (.cells (cfgCells c).toArray 54)).heap.size (w.alloc (.cells (cfgCells c).toArray 54)) w' by
      have := may_any c (w.alloc (.cells (cfgCells c).toArray 54))
      rwa [hm] at this)
    obtain ⟨p0, p1, p2, p3, p4, p5, p6, p7, p8, p9⟩ := may_of hm
    have hbx : (w.alloc (.cells (cfgCells c).toArray 54)).heap[w.heap.size]? = some (.cells (cfgCells c).toArray 54 (0, 0)) := heap_alloc_new _ _
    have HBX := Lib.hid hbx
    clear hbx
    have hz := (room_bd hm).1
    have HZ := Lib.hid hz
    clear hz hm
    go_enter Tryd.func19, Tryd.ntmps19
    go_wp2_with fail
    refine HM.out.mono ?_
    rintro e w1 ⟨rfl, hb1⟩
    have hx1 : w1.heap[w.heap.size]? = some (.cells (cfgCells c).toArray 54 (0, 0)) := by rw [hb1.block _ (by simp)]; exact HBX.out
    have q4 : w1.cell? ⟨w.heap.size, 4, none⟩ = some (.int .i64 c.way) := (block_cell hx1 4).1
    have HB1 := Lib.hid (HB0.out.trans (hb1.mono HB0.out.size))
    clear hb1 hx1
    go_wp2_with fail
    refine (sum_is [2, c.way, 12 * c.way] (roomZ c) (by rw [HZ.out]; simp only [List.sum_cons, List.sum_nil]; omega) _ 3 rfl (by intro x hx; simp at hx; omega) (by omega) _ (by first | (rw [heap_at, if_pos (by simp)]; done) | (rw [heap_at, if_pos (by simp)]; rfl))).mono ?_
    rintro e w2 ⟨rfl, rfl⟩
    go_wp2_with fail
    go_ret
    exact ⟨rfl, HB1.out.alloc HB1.out.size _⟩
theorem roomOk (c : CfgD) (W : World) : Calls Tryd.prog 19 #[cfgV c] W fun e w' => e = .returned (.int .i64 (roomZ c)) ∧ Below W.heap.size W w' := boundRoom_any c W
set_option maxRecDepth 100000 in
set_option maxHeartbeats 4000000 in
theorem boundTurn_any (c : CfgD) (w : World) : Calls Tryd.prog 20 #[cfgV c] w (IntOk (turnZ c) w) := by
  have hb0 : Below w.heap.size w (w.alloc (.cells (cfgCells c).toArray 54)) := (Below.refl _ _).alloc (Nat.le_refl _) _
  have HB0 := Lib.hid hb0
  clear hb0
  cases hm : mayC c
  · have hz : turnZ c = 0 := by unfold turnZ; rw [hm]; rfl
    have HM := Lib.hid (show Calls Tryd.prog 17 #[cfgV c] (w.alloc (.cells (cfgCells c).toArray 54)) fun e w' => e = .returned (.bool false) ∧ Below (w.alloc (.cells (cfgCells c).toArray 54)).heap.size (w.alloc (.cells (cfgCells c).toArray 54)) w' by
      have := may_any c (w.alloc (.cells (cfgCells c).toArray 54))
      rwa [hm] at this)
    rw [hz]
    clear hz hm
    go_enter Tryd.func20, Tryd.ntmps20
    go_wp2_with fail
    refine HM.out.mono ?_
    rintro e w1 ⟨rfl, hb1⟩
    have HB1 := Lib.hid (HB0.out.trans (hb1.mono HB0.out.size))
    clear hb1
    go_wp2_with fail
    go_ret
    exact ⟨rfl, HB1.out⟩
  · have HM := Lib.hid (show Calls Tryd.prog 17 #[cfgV c] (w.alloc (.cells (cfgCells c).toArray 54)) fun e w' => e = .returned (.bool true) ∧ Below (w.alloc (.cells (cfgCells c).toArray 54)).heap.size (w.alloc (.cells (cfgCells c).toArray 54)) w' by
      have := may_any c (w.alloc (.cells (cfgCells c).toArray 54))
      rwa [hm] at this)
    obtain ⟨p0, p1, p2, p3, p4, p5, p6, p7, p8, p9⟩ := may_of hm
    have hbx : (w.alloc (.cells (cfgCells c).toArray 54)).heap[w.heap.size]? = some (.cells (cfgCells c).toArray 54 (0, 0)) := heap_alloc_new _ _
    have HBX := Lib.hid hbx
    clear hbx
    obtain ⟨-, r1, r2⟩ := room_bd hm
    have hz : turnZ c = 3 + c.quantum * (4 * (roomZ c + 12) + 3) := by unfold turnZ; rw [if_pos hm]
    have HZ := Lib.hid hz
    have HR := Lib.hid (fun W => roomOk c W)
    clear hz hm
    generalize roomZ c = R at *
    obtain ⟨a, ha⟩ : ∃ a, a = 4 * (R + 12) := ⟨_, rfl⟩
    have ha0 : 1 ≤ a + 3 := by omega
    have ha1 : a + 3 ≤ 1000000 := by omega
    have hq := mul_bd p6 p7 ha0 ha1
    obtain ⟨P, hP⟩ : ∃ P, P = c.quantum * (a + 3) := ⟨_, rfl⟩
    rw [← hP] at hq
    obtain ⟨hq1, hq2⟩ := hq
    have hw1 : wrap64 (c.quantum * (4 * (R + 12) + 3)) = P := by rw [← ha, ← hP]; exact IntWalk.wrap64_in _ (by omega)
    have HZ2 := Lib.hid (show 3 + P = turnZ c by rw [HZ.out, hP, ha])
    have HA := Lib.hid ha
    have HPP := Lib.hid hP
    clear hP
    go_enter Tryd.func20, Tryd.ntmps20
    go_wp2_with fail
    refine HM.out.mono ?_
    rintro e w1 ⟨rfl, hb1⟩
    have hx1 : w1.heap[w.heap.size]? = some (.cells (cfgCells c).toArray 54 (0, 0)) := by rw [hb1.block _ (by simp)]; exact HBX.out
    have y0 : w1.cell? ⟨w.heap.size, 0, none⟩ = some (.int .i64 c.bits) := (block_cell hx1 0).1
    have y1 : w1.cell? ⟨w.heap.size, 1, none⟩ = some (.int .i64 c.budget) := (block_cell hx1 1).1
    have y2 : w1.cell? ⟨w.heap.size, 2, none⟩ = some (.int .i64 c.tries) := (block_cell hx1 2).1
    have y3 : w1.cell? ⟨w.heap.size, 3, none⟩ = some (.int .i64 c.quantum) := (block_cell hx1 3).1
    have y4 : w1.cell? ⟨w.heap.size, 4, none⟩ = some (.int .i64 c.way) := (block_cell hx1 4).1
    have HX1 := Lib.hid hx1
    have HB1 := Lib.hid (HB0.out.trans (hb1.mono HB0.out.size))
    have hs1 : w.heap.size < w1.heap.size := (Array.getElem?_eq_some_iff.1 hx1).1
    clear hb1 hx1 ha
    go_wp2_with fail
    refine (HR.out _).mono ?_
    rintro e w2 ⟨rfl, hb2⟩
    have hx2 : w2.heap[w.heap.size]? = some (.cells (cfgCells c).toArray 54 (0, 0)) := by rw [hb2.block _ hs1]; exact HX1.out
    have z3 : w2.cell? ⟨w.heap.size, 3, none⟩ = some (.int .i64 c.quantum) := (block_cell hx2 3).1
    have HB2 := Lib.hid (HB1.out.trans (hb2.mono HB1.out.size))
    clear hb2 hx2 y0 y1 y2 y3 y4
    go_wp2_with fail
    refine (sum_is [3, P] (turnZ c) (by rw [← HZ2.out]; simp only [List.sum_cons, List.sum_nil]; omega) _ 2 rfl (by intro x hx; simp at hx; omega) (by omega) _ (by first | (rw [heap_at, if_pos (by simp)]; done) | (rw [heap_at, if_pos (by simp)]; rfl))).mono ?_
    rintro e w3 ⟨rfl, rfl⟩
    go_wp2_with fail
    go_ret
    exact ⟨rfl, HB2.out.alloc HB2.out.size _⟩
end Go.Proofs.YtahpjhnbjkjkiaaDoor
namespace Go.Proofs.YtahpjhnbjkjkiaaDoor
open Go.RowKit Go.ChangeMaps Go.MapKept

set_option maxRecDepth 100000 in
set_option maxHeartbeats 8000000 in
theorem boundEvict_any (c : CfgD) (w : World) : Calls Tryd.prog 21 #[cfgV c] w (IntOk (evictZ c) w) := by
  have hb0 : Below w.heap.size w (w.alloc (.cells (cfgCells c).toArray 54)) := (Below.refl _ _).alloc (Nat.le_refl _) _
  have HB0 := Lib.hid hb0
  clear hb0
  cases hm : mayC c
  · have hz : evictZ c = 0 := by unfold evictZ; rw [hm]; rfl
    have HM := Lib.hid (show Calls Tryd.prog 17 #[cfgV c] (w.alloc (.cells (cfgCells c).toArray 54)) fun e w' => e = .returned (.bool false) ∧ Below (w.alloc (.cells (cfgCells c).toArray 54)).heap.size (w.alloc (.cells (cfgCells c).toArray 54)) w' by
      have := may_any c (w.alloc (.cells (cfgCells c).toArray 54))
      rwa [hm] at this)
    rw [hz]
    clear hz hm
    go_enter Tryd.func21, Tryd.ntmps21
    go_wp2_with fail
    refine HM.out.mono ?_
    rintro e w1 ⟨rfl, hb1⟩
    have HB1 := Lib.hid (HB0.out.trans (hb1.mono HB0.out.size))
    clear hb1
    go_wp2_with fail
    go_ret
    exact ⟨rfl, HB1.out⟩
  · have HM := Lib.hid (show Calls Tryd.prog 17 #[cfgV c] (w.alloc (.cells (cfgCells c).toArray 54)) fun e w' => e = .returned (.bool true) ∧ Below (w.alloc (.cells (cfgCells c).toArray 54)).heap.size (w.alloc (.cells (cfgCells c).toArray 54)) w' by
      have := may_any c (w.alloc (.cells (cfgCells c).toArray 54))
      rwa [hm] at this)
    obtain ⟨p0, p1, p2, p3, p4, p5, p6, p7, p8, p9⟩ := may_of hm
    have HBX := Lib.hid (heap_alloc_new w (.cells (cfgCells c).toArray 54))
    have hpw := pow_bits p0 p1
    have hz : evictZ c = 13 + 48 * max c.budget ((4 * 2 ^ c.bits.toNat : Nat) : Int) := by unfold evictZ; rw [if_pos hm]
    obtain ⟨M, hM⟩ : ∃ M, M = max c.budget ((4 * 2 ^ c.bits.toNat : Nat) : Int) := ⟨_, rfl⟩
    have hM0 : 8 ≤ M := by omega
    have hM1 : M ≤ 65536 := by omega
    rw [← hM] at hz
    have HZ := Lib.hid hz
    have HMX := Lib.hid hM
    clear hz hM hpw hm
    go_enter Tryd.func21, Tryd.ntmps21
    go_wp2_with fail
    refine HM.out.mono ?_
    rintro e w1 ⟨rfl, hb1⟩
    have hx1 : w1.heap[w.heap.size]? = some (.cells (cfgCells c).toArray 54) := by rw [hb1.block _ (by simp)]; exact HBX.out
    have y0 : w1.cell? ⟨w.heap.size, 0, none⟩ = some (.int .i64 c.bits) := (block_cell hx1 0).1
    have y1 : w1.cell? ⟨w.heap.size, 1, none⟩ = some (.int .i64 c.budget) := (block_cell hx1 1).1
    have HB1 := Lib.hid (HB0.out.trans (hb1.mono HB0.out.size))
    have hs1 : w.heap.size < w1.heap.size := (Array.getElem?_eq_some_iff.1 hx1).1
    clear hb1 hx1
    go_wp2_with fail
    rcases (by omega : c.bits = 1 ∨ c.bits = 2 ∨ c.bits = 3 ∨ c.bits = 4 ∨ c.bits = 5 ∨ c.bits = 6 ∨ c.bits = 7 ∨ c.bits = 8 ∨ c.bits = 9 ∨ c.bits = 10 ∨ c.bits = 11 ∨ c.bits = 12) with h | h | h | h | h | h | h | h | h | h | h | h
    · have hmx : max c.budget 8 = M := by rw [HMX.out, h]; rfl
      rw [h] at y0
      clear p0 p1 h HM HBX
      go_region
      all_goals
        go_wp2_with fail
        refine (sum_is [13, 6 * (8 * M)] (evictZ c) (by rw [HZ.out]; simp only [List.sum_cons, List.sum_nil]; omega) _ 2 rfl (by intro x hx; simp at hx; omega) (by omega) (w1.alloc (.cells #[.int .i64 13, .int .i64 (6 * (8 * M))] 3)).drew (show (w1.alloc (.cells #[.int .i64 13, .int .i64 (6 * (8 * M))] 3)).heap[w1.heap.size]? = _ from heap_alloc_new _ _)).mono ?_
        rintro e w3 ⟨rfl, rfl⟩
        go_wp2_with fail
        go_ret
        exact ⟨rfl, low_drewN (HB1.out.alloc HB1.out.size _) 1⟩
    · have hmx : max c.budget 16 = M := by rw [HMX.out, h]; rfl
      rw [h] at y0
      clear p0 p1 h HM HBX
      go_region
      all_goals
        go_wp2_with fail
        refine (sum_is [13, 6 * (8 * M)] (evictZ c) (by rw [HZ.out]; simp only [List.sum_cons, List.sum_nil]; omega) _ 2 rfl (by intro x hx; simp at hx; omega) (by omega) (w1.alloc (.cells #[.int .i64 13, .int .i64 (6 * (8 * M))] 3)).drew (show (w1.alloc (.cells #[.int .i64 13, .int .i64 (6 * (8 * M))] 3)).heap[w1.heap.size]? = _ from heap_alloc_new _ _)).mono ?_
        rintro e w3 ⟨rfl, rfl⟩
        go_wp2_with fail
        go_ret
        exact ⟨rfl, low_drewN (HB1.out.alloc HB1.out.size _) 1⟩
    · have hmx : max c.budget 32 = M := by rw [HMX.out, h]; rfl
      rw [h] at y0
      clear p0 p1 h HM HBX
      go_region
      all_goals
        go_wp2_with fail
        refine (sum_is [13, 6 * (8 * M)] (evictZ c) (by rw [HZ.out]; simp only [List.sum_cons, List.sum_nil]; omega) _ 2 rfl (by intro x hx; simp at hx; omega) (by omega) (w1.alloc (.cells #[.int .i64 13, .int .i64 (6 * (8 * M))] 3)).drew (show (w1.alloc (.cells #[.int .i64 13, .int .i64 (6 * (8 * M))] 3)).heap[w1.heap.size]? = _ from heap_alloc_new _ _)).mono ?_
        rintro e w3 ⟨rfl, rfl⟩
        go_wp2_with fail
        go_ret
        exact ⟨rfl, low_drewN (HB1.out.alloc HB1.out.size _) 1⟩
    · have hmx : max c.budget 64 = M := by rw [HMX.out, h]; rfl
      rw [h] at y0
      clear p0 p1 h HM HBX
      go_region
      all_goals
        go_wp2_with fail
        refine (sum_is [13, 6 * (8 * M)] (evictZ c) (by rw [HZ.out]; simp only [List.sum_cons, List.sum_nil]; omega) _ 2 rfl (by intro x hx; simp at hx; omega) (by omega) (w1.alloc (.cells #[.int .i64 13, .int .i64 (6 * (8 * M))] 3)).drew (show (w1.alloc (.cells #[.int .i64 13, .int .i64 (6 * (8 * M))] 3)).heap[w1.heap.size]? = _ from heap_alloc_new _ _)).mono ?_
        rintro e w3 ⟨rfl, rfl⟩
        go_wp2_with fail
        go_ret
        exact ⟨rfl, low_drewN (HB1.out.alloc HB1.out.size _) 1⟩
    · have hmx : max c.budget 128 = M := by rw [HMX.out, h]; rfl
      rw [h] at y0
      clear p0 p1 h HM HBX
      go_region
      all_goals
        go_wp2_with fail
        refine (sum_is [13, 6 * (8 * M)] (evictZ c) (by rw [HZ.out]; simp only [List.sum_cons, List.sum_nil]; omega) _ 2 rfl (by intro x hx; simp at hx; omega) (by omega) (w1.alloc (.cells #[.int .i64 13, .int .i64 (6 * (8 * M))] 3)).drew (show (w1.alloc (.cells #[.int .i64 13, .int .i64 (6 * (8 * M))] 3)).heap[w1.heap.size]? = _ from heap_alloc_new _ _)).mono ?_
        rintro e w3 ⟨rfl, rfl⟩
        go_wp2_with fail
        go_ret
        exact ⟨rfl, low_drewN (HB1.out.alloc HB1.out.size _) 1⟩
    · have hmx : max c.budget 256 = M := by rw [HMX.out, h]; rfl
      rw [h] at y0
      clear p0 p1 h HM HBX
      go_region
      all_goals
        go_wp2_with fail
        refine (sum_is [13, 6 * (8 * M)] (evictZ c) (by rw [HZ.out]; simp only [List.sum_cons, List.sum_nil]; omega) _ 2 rfl (by intro x hx; simp at hx; omega) (by omega) (w1.alloc (.cells #[.int .i64 13, .int .i64 (6 * (8 * M))] 3)).drew (show (w1.alloc (.cells #[.int .i64 13, .int .i64 (6 * (8 * M))] 3)).heap[w1.heap.size]? = _ from heap_alloc_new _ _)).mono ?_
        rintro e w3 ⟨rfl, rfl⟩
        go_wp2_with fail
        go_ret
        exact ⟨rfl, low_drewN (HB1.out.alloc HB1.out.size _) 1⟩
    · have hmx : max c.budget 512 = M := by rw [HMX.out, h]; rfl
      rw [h] at y0
      clear p0 p1 h HM HBX
      go_region
      all_goals
        go_wp2_with fail
        refine (sum_is [13, 6 * (8 * M)] (evictZ c) (by rw [HZ.out]; simp only [List.sum_cons, List.sum_nil]; omega) _ 2 rfl (by intro x hx; simp at hx; omega) (by omega) (w1.alloc (.cells #[.int .i64 13, .int .i64 (6 * (8 * M))] 3)).drew (show (w1.alloc (.cells #[.int .i64 13, .int .i64 (6 * (8 * M))] 3)).heap[w1.heap.size]? = _ from heap_alloc_new _ _)).mono ?_
        rintro e w3 ⟨rfl, rfl⟩
        go_wp2_with fail
        go_ret
        exact ⟨rfl, low_drewN (HB1.out.alloc HB1.out.size _) 1⟩
    · have hmx : max c.budget 1024 = M := by rw [HMX.out, h]; rfl
      rw [h] at y0
      clear p0 p1 h HM HBX
      go_region
      all_goals
        go_wp2_with fail
        refine (sum_is [13, 6 * (8 * M)] (evictZ c) (by rw [HZ.out]; simp only [List.sum_cons, List.sum_nil]; omega) _ 2 rfl (by intro x hx; simp at hx; omega) (by omega) (w1.alloc (.cells #[.int .i64 13, .int .i64 (6 * (8 * M))] 3)).drew (show (w1.alloc (.cells #[.int .i64 13, .int .i64 (6 * (8 * M))] 3)).heap[w1.heap.size]? = _ from heap_alloc_new _ _)).mono ?_
        rintro e w3 ⟨rfl, rfl⟩
        go_wp2_with fail
        go_ret
        exact ⟨rfl, low_drewN (HB1.out.alloc HB1.out.size _) 1⟩
    · have hmx : max c.budget 2048 = M := by rw [HMX.out, h]; rfl
      rw [h] at y0
      clear p0 p1 h HM HBX
      go_region
      all_goals
        go_wp2_with fail
        refine (sum_is [13, 6 * (8 * M)] (evictZ c) (by rw [HZ.out]; simp only [List.sum_cons, List.sum_nil]; omega) _ 2 rfl (by intro x hx; simp at hx; omega) (by omega) (w1.alloc (.cells #[.int .i64 13, .int .i64 (6 * (8 * M))] 3)).drew (show (w1.alloc (.cells #[.int .i64 13, .int .i64 (6 * (8 * M))] 3)).heap[w1.heap.size]? = _ from heap_alloc_new _ _)).mono ?_
        rintro e w3 ⟨rfl, rfl⟩
        go_wp2_with fail
        go_ret
        exact ⟨rfl, low_drewN (HB1.out.alloc HB1.out.size _) 1⟩
    · have hmx : max c.budget 4096 = M := by rw [HMX.out, h]; rfl
      rw [h] at y0
      clear p0 p1 h HM HBX
      go_region
      all_goals
        go_wp2_with fail
        refine (sum_is [13, 6 * (8 * M)] (evictZ c) (by rw [HZ.out]; simp only [List.sum_cons, List.sum_nil]; omega) _ 2 rfl (by intro x hx; simp at hx; omega) (by omega) (w1.alloc (.cells #[.int .i64 13, .int .i64 (6 * (8 * M))] 3)).drew (show (w1.alloc (.cells #[.int .i64 13, .int .i64 (6 * (8 * M))] 3)).heap[w1.heap.size]? = _ from heap_alloc_new _ _)).mono ?_
        rintro e w3 ⟨rfl, rfl⟩
        go_wp2_with fail
        go_ret
        exact ⟨rfl, low_drewN (HB1.out.alloc HB1.out.size _) 1⟩
    · have hmx : max c.budget 8192 = M := by rw [HMX.out, h]; rfl
      rw [h] at y0
      clear p0 p1 h HM HBX
      go_region
      all_goals
        go_wp2_with fail
        refine (sum_is [13, 6 * (8 * M)] (evictZ c) (by rw [HZ.out]; simp only [List.sum_cons, List.sum_nil]; omega) _ 2 rfl (by intro x hx; simp at hx; omega) (by omega) (w1.alloc (.cells #[.int .i64 13, .int .i64 (6 * (8 * M))] 3)).drew (show (w1.alloc (.cells #[.int .i64 13, .int .i64 (6 * (8 * M))] 3)).heap[w1.heap.size]? = _ from heap_alloc_new _ _)).mono ?_
        rintro e w3 ⟨rfl, rfl⟩
        go_wp2_with fail
        go_ret
        exact ⟨rfl, low_drewN (HB1.out.alloc HB1.out.size _) 1⟩
    · have hmx : max c.budget 16384 = M := by rw [HMX.out, h]; rfl
      rw [h] at y0
      clear p0 p1 h HM HBX
      go_region
      all_goals
        go_wp2_with fail
        refine (sum_is [13, 6 * (8 * M)] (evictZ c) (by rw [HZ.out]; simp only [List.sum_cons, List.sum_nil]; omega) _ 2 rfl (by intro x hx; simp at hx; omega) (by omega) (w1.alloc (.cells #[.int .i64 13, .int .i64 (6 * (8 * M))] 3)).drew (show (w1.alloc (.cells #[.int .i64 13, .int .i64 (6 * (8 * M))] 3)).heap[w1.heap.size]? = _ from heap_alloc_new _ _)).mono ?_
        rintro e w3 ⟨rfl, rfl⟩
        go_wp2_with fail
        go_ret
        exact ⟨rfl, low_drewN (HB1.out.alloc HB1.out.size _) 1⟩
def CfgS (w : World) (c : CfgD) (W : World) : Prop := W.cell? ⟨w.heap.size, 0, none⟩ = some (.int .i64 c.bits) ∧ W.cell? ⟨w.heap.size, 1, none⟩ = some (.int .i64 c.budget) ∧ W.cell? ⟨w.heap.size, 2, none⟩ = some (.int .i64 c.tries) ∧ W.cell? ⟨w.heap.size, 3, none⟩ = some (.int .i64 c.quantum) ∧ W.cell? ⟨w.heap.size, 4, none⟩ = some (.int .i64 c.way) ∧ Below w.heap.size w W
theorem cfg_keep {w : World} {c : CfgD} {W W' : World} (hb : Below W.heap.size W W') (h : CfgS w c W) : CfgS w c W' := by
  have hk := fun (p j : Nat) (x : Value) (hx : W.cell? ⟨p, j, none⟩ = some x) => (hb.cell (p := ⟨p, j, none⟩) (cell_lt hx)).trans hx
  obtain ⟨h0, h1, h2, h3, h4, hl⟩ := h
  exact ⟨hk _ _ _ h0, hk _ _ _ h1, hk _ _ _ h2, hk _ _ _ h3, hk _ _ _ h4, hl.trans (hb.mono hl.size)⟩
theorem cfg_box {w : World} {c : CfgD} {W : World} (hb : Below (w.heap.size + 1) (w.alloc (.cells (cfgCells c).toArray 54)) W) (hl : Below w.heap.size w W) : CfgS w c W := by
  have hx : W.heap[w.heap.size]? = some (.cells (cfgCells c).toArray 54 (0, 0)) := by rw [hb.block _ (by omega)]; exact heap_alloc_new _ _
  exact ⟨(block_cell hx 0).1, (block_cell hx 1).1, (block_cell hx 2).1, (block_cell hx 3).1, (block_cell hx 4).1, hl⟩
set_option maxRecDepth 100000 in
set_option maxHeartbeats 8000000 in
theorem boundSteps_any (c : CfgD) (v : Nat) (_hv : v < 256) (w : World) : Calls Tryd.prog 22 #[cfgV c, .int .u8 (v : Int)] w (IntOk (stepsZ c v) w) := by
  have hb0 : Below w.heap.size w (w.alloc (.cells (cfgCells c).toArray 54)) := (Below.refl _ _).alloc (Nat.le_refl _) _
  have HB0 := Lib.hid hb0
  clear hb0
  cases hm : mayC c
  · have hz : stepsZ c v = 0 := by unfold stepsZ; rw [hm]; rfl
    have HM := Lib.hid (show Calls Tryd.prog 17 #[cfgV c] (w.alloc (.cells (cfgCells c).toArray 54)) fun e w' => e = .returned (.bool false) ∧ Below (w.alloc (.cells (cfgCells c).toArray 54)).heap.size (w.alloc (.cells (cfgCells c).toArray 54)) w' by
      have := may_any c (w.alloc (.cells (cfgCells c).toArray 54))
      rwa [hm] at this)
    rw [hz]
    clear hz hm
    go_enter Tryd.func22, Tryd.ntmps22
    go_wp2_with fail
    refine HM.out.mono ?_
    rintro e w1 ⟨rfl, hb1⟩
    have HB1 := Lib.hid (HB0.out.trans (hb1.mono HB0.out.size))
    clear hb1
    go_wp2_with fail
    go_ret
    exact ⟨rfl, HB1.out⟩
  · have HM := Lib.hid (show Calls Tryd.prog 17 #[cfgV c] (w.alloc (.cells (cfgCells c).toArray 54)) fun e w' => e = .returned (.bool true) ∧ Below (w.alloc (.cells (cfgCells c).toArray 54)).heap.size (w.alloc (.cells (cfgCells c).toArray 54)) w' by
      have := may_any c (w.alloc (.cells (cfgCells c).toArray 54))
      rwa [hm] at this)
    obtain ⟨p0, p1, p2, p3, p4, p5, p6, p7, p8, p9⟩ := may_of hm
    have HBX := Lib.hid (heap_alloc_new w (.cells (cfgCells c).toArray 54))
    have hs0 := room_bd hm; have ht0 := turn_bd hm; have he0 := evict_bd hm
    have hz : stepsZ c v = ([0, getZ c, getZ c, storeZ c, storeZ c, storeZ c, storeZ c, changeZ c, changeZ c, changeZ c, changeZ c, 4] : List Int).getD v 0 := by unfold stepsZ; rw [if_pos hm]
    have hg : getZ c = 31 * (c.tries + 1) + 28 := rfl
    have hs : storeZ c = turnZ c + evictZ c + 2 * roomZ c + 66 := rfl
    have hc : changeZ c = turnZ c + 31 := rfl
    have HRM := Lib.hid (fun W => boundRoom_any c W)
    have HTN := Lib.hid (fun W => boundTurn_any c W)
    have HEV := Lib.hid (fun W => boundEvict_any c W)
    obtain ⟨-, r0, r1⟩ := hs0
    obtain ⟨t0, t1⟩ := ht0
    obtain ⟨e0, e1⟩ := he0
    clear hm
    generalize getZ c = G at *; generalize storeZ c = S at *; generalize changeZ c = H at *; generalize roomZ c = R at *; generalize turnZ c = T at *; generalize evictZ c = E at *
    have HZ := Lib.hid hz; have HG := Lib.hid hg; have HS := Lib.hid hs; have HC := Lib.hid hc
    clear hz hg hs hc
    have hw64 : IntKind.i64.wrap (2 * R) = 2 * R := IntWalk.i64_in _ (by omega)
    go_enter Tryd.func22, Tryd.ntmps22
    go_wp2_with fail
    refine HM.out.mono ?_
    rintro e w1 ⟨rfl, hb1⟩
    have hs1 : CfgS w c w1 := cfg_box (by have := hb1; simpa using this) (HB0.out.trans (hb1.mono HB0.out.size))
    have H1 := Lib.hid hs1
    obtain ⟨y0, y1, y2, y3, y4, -⟩ := hs1
    clear hb1 HM HBX
    go_wp2_with fail
    refine (sum_is [31 * (c.tries + 1), 28] G (by rw [HG.out]; simp only [List.sum_cons, List.sum_nil]; omega) _ 2 rfl (by intro x hx; simp at hx; omega) (by omega) _ (by first | (rw [heap_at, if_pos (by simp)]; done) | (rw [heap_at, if_pos (by simp)]; rfl))).mono ?_
    rintro e w2 ⟨rfl, rfl⟩
    have hs2 : CfgS w c ((w1.alloc (.cells #[.int .i64 (31 * (c.tries + 1)), .int .i64 28] 3))) := cfg_keep ((Below.refl _ _).alloc (Nat.le_refl _) _) H1.out
    generalize (w1.alloc (.cells #[.int .i64 (31 * (c.tries + 1)), .int .i64 28] 3)) = W2 at *
    clear y0 y1 y2 y3 y4 H1
    go_wp2_with fail
    obtain ⟨x0, x1, x2, x3, x4, xl⟩ := hs2
    refine wp_region_held_drew (S := fun W => W.cell? ⟨w.heap.size, 0, none⟩ = some (.int .i64 c.bits) ∧ W.cell? ⟨w.heap.size, 1, none⟩ = some (.int .i64 c.budget) ∧ W.cell? ⟨w.heap.size, 2, none⟩ = some (.int .i64 c.tries) ∧ W.cell? ⟨w.heap.size, 3, none⟩ = some (.int .i64 c.quantum) ∧ W.cell? ⟨w.heap.size, 4, none⟩ = some (.int .i64 c.way) ∧ Below w.heap.size w W) (by kernel_rfl) (cfg_keep (w := w) (c := c) (Below.refl _ _).drew ⟨x0, x1, x2, x3, x4, xl⟩) (fun hHeld => ?_)
    clear x0 x1 x2 x3 x4 xl
    refine wpAnyH_take (i := 0) (v := ?_) rfl (by kernel_rfl) (by kernel_rfl) (by kernel_rfl) (fun _ _ _ h => h) (Or.inl ⟨by rfl, ?_⟩) (by assumption) ?_
    rotate_left 1
    · ((intro w hSw; (try dsimp only at hSw); go_simp) <;> with_reducible rfl)
    try simp only [Act.put, List.setIfInBounds_toArray, List.set_cons_zero, List.set_cons_succ, List.getElem_toArray, List.getElem_cons_zero]
    refine wpAnyH_take (i := 2) (v := ?_) rfl (by kernel_rfl) (by kernel_rfl) (by kernel_rfl) (fun _ _ _ h => h) (Or.inl ⟨by rfl, ?_⟩) (by assumption) ?_
    rotate_left 1
    · ((intro w hSw; (try dsimp only at hSw); go_simp) <;> with_reducible rfl)
    try simp only [Act.put, List.setIfInBounds_toArray, List.set_cons_zero, List.set_cons_succ, List.getElem_toArray, List.getElem_cons_zero, List.getElem_cons_succ]
    refine wpAnyH_take (i := 4) (v := ?_) rfl (by kernel_rfl) (by kernel_rfl) (by kernel_rfl) (fun _ _ _ h => h) (Or.inl ⟨by rfl, ?_⟩) (by assumption) ?_
    rotate_left 1
    · ((intro w hSw; (try dsimp only at hSw); go_simp) <;> with_reducible rfl)
    try simp only [Act.put, List.setIfInBounds_toArray, List.set_cons_zero, List.set_cons_succ, List.getElem_toArray, List.getElem_cons_zero, List.getElem_cons_succ]
    refine wpAnyH_ready (rs := [1]) (by kernel_rfl) (by simp) ?_
    refine AllReadyH.cons rfl (fun K hK => ?_) AllReadyH.nil
    go_split_ands
    go_simp
    go_at_call 20
    refine (HTN.out _).mono ?_
    rintro e w9 ⟨rfl, hb9⟩
    refine hK.out _ _ (cfg_keep (w := w) (c := c) hb9 ⟨by assumption, by assumption, by assumption, by assumption, by assumption, by assumption⟩) (fun hHeld2 => ?_)
    clear hK K
    try simp only [Act.put, List.setIfInBounds_toArray, List.set_cons_zero, List.set_cons_succ, List.getElem_toArray, List.getElem_cons_zero, List.getElem_cons_succ]
    refine wpAnyH_ready (rs := [3]) (by kernel_rfl) (by simp) ?_
    refine AllReadyH.cons rfl (fun K hK => ?_) AllReadyH.nil
    go_split_ands
    go_simp
    go_at_call 21
    refine (HEV.out _).mono ?_
    rintro e w9 ⟨rfl, hb9⟩
    refine hK.out _ _ (cfg_keep (w := w) (c := c) hb9 ⟨by assumption, by assumption, by assumption, by assumption, by assumption, by assumption⟩) (fun hHeld2 => ?_)
    clear hK K
    try simp only [Act.put, List.setIfInBounds_toArray, List.set_cons_zero, List.set_cons_succ, List.getElem_toArray, List.getElem_cons_zero, List.getElem_cons_succ]
    refine wpAnyH_ready (rs := [5]) (by kernel_rfl) (by simp) ?_
    refine AllReadyH.cons rfl (fun K hK => ?_) AllReadyH.nil
    go_split_ands
    go_simp
    go_at_call 19
    refine (HRM.out _).mono ?_
    rintro e w9 ⟨rfl, hb9⟩
    refine hK.out _ _ (cfg_keep (w := w) (c := c) hb9 ⟨by assumption, by assumption, by assumption, by assumption, by assumption, by assumption⟩) (fun hHeld2 => ?_)
    clear hK K
    try simp only [Act.put, List.setIfInBounds_toArray, List.set_cons_zero, List.set_cons_succ, List.getElem_toArray, List.getElem_cons_zero, List.getElem_cons_succ]
    refine wpAnyH_take (i := 6) (v := ?_) rfl (by kernel_rfl) (by kernel_rfl) (by kernel_rfl) (fun _ _ _ h => h) (Or.inl ⟨by rfl, ?_⟩) (by assumption) ?_
    rotate_left 1
    · ((intro w hSw; (try dsimp only at hSw); go_simp) <;> with_reducible rfl)
    try simp only [Act.put, List.setIfInBounds_toArray, List.set_cons_zero, List.set_cons_succ, List.getElem_toArray, List.getElem_cons_zero, List.getElem_cons_succ]
    refine wpAnyH_ready (rs := [7]) (by kernel_rfl) (by simp) ?_
    refine AllReadyH.cons rfl (fun K hK => ?_) AllReadyH.nil
    go_split_ands
    go_simp
    refine hK.out _ _ (cfg_keep (w := w) (c := c) ((Below.refl _ _).alloc (Nat.le_refl _) _) ⟨by assumption, by assumption, by assumption, by assumption, by assumption, by assumption⟩) (fun hHeld2 => ?_)
    clear hK K
    try simp only [Act.put, List.setIfInBounds_toArray, List.set_cons_zero, List.set_cons_succ, List.getElem_toArray, List.getElem_cons_zero, List.getElem_cons_succ]
    refine wpAnyH_ready (rs := [8]) (by kernel_rfl) (by simp) ?_
    refine AllReadyH.cons rfl (fun K hK => ?_) AllReadyH.nil
    go_split_ands
    go_simp
    go_at_call 31
    refine (sum_is [T, E, 2 * R, 66] S (by rw [HS.out]; simp only [List.sum_cons, List.sum_nil]; omega) _ 4 rfl (by intro x hx; simp at hx; omega) (by omega) _ (by first | (rw [heap_at, if_pos (by simp)]; done) | (rw [heap_at, if_pos (by simp)]; rfl))).mono ?_
    rintro e w9' ⟨rfl, rfl⟩
    refine hK.out _ _ ⟨by assumption, by assumption, by assumption, by assumption, by assumption, by assumption⟩ (fun hHeld2 => ?_)
    clear hK K
    try simp only [Act.put, List.setIfInBounds_toArray, List.set_cons_zero, List.set_cons_succ, List.getElem_toArray, List.getElem_cons_zero, List.getElem_cons_succ]
    refine wpAnyH_take (i := 9) (v := ?_) rfl (by kernel_rfl) (by kernel_rfl) (by kernel_rfl) (fun _ _ _ h => h) (Or.inl ⟨by rfl, ?_⟩) (by assumption) ?_
    rotate_left 1
    · ((intro w hSw; (try dsimp only at hSw); go_simp) <;> with_reducible rfl)
    try simp only [Act.put, List.setIfInBounds_toArray, List.set_cons_zero, List.set_cons_succ, List.getElem_toArray, List.getElem_cons_zero, List.getElem_cons_succ]
    refine wpAnyH_done (by kernel_rfl) ?_ _
    have hs3 : CfgS w c _ := hHeld2
    clear hHeld2
    generalize (w9.alloc (.cells #[.int .i64 T, .int .i64 E, .int .i64 (2 * R), .int .i64 66] 3)) = W3 at *
    obtain ⟨y0, y1, y2, y3, y4, yl⟩ := hs3
    have HL3 := Lib.hid yl
    clear yl hw64
    go_wp2_with fail
    refine (HTN.out _).mono ?_
    rintro e w4 ⟨rfl, hb4⟩
    have HL4 := Lib.hid (HL3.out.trans (hb4.mono HL3.out.size))
    clear hb4 y0 y1 y2 y3 y4
    go_wp2_with fail
    refine (sum_is [T, 31] H (by rw [HC.out]; simp only [List.sum_cons, List.sum_nil]; omega) _ 2 rfl (by intro x hx; simp at hx; omega) (by omega) _ (by first | (rw [heap_at, if_pos (by simp)]; done) | (rw [heap_at, if_pos (by simp)]; rfl))).mono ?_
    rintro e w5 ⟨rfl, rfl⟩
    have hl5 : Below w.heap.size w (w4.alloc (.cells #[.int .i64 T, .int .i64 31] 3)) := HL4.out.alloc HL4.out.size _
    generalize (w4.alloc (.cells #[.int .i64 T, .int .i64 31] 3)) = W5 at *
    have HL5 := Lib.hid hl5
    clear hl5
    have hcell : v < 12 → (W5.alloc (.cells #[.int .i64 0, .int .i64 G, .int .i64 G, .int .i64 S, .int .i64 S, .int .i64 S, .int .i64 S, .int .i64 H, .int .i64 H, .int .i64 H, .int .i64 H, .int .i64 4] 3)).cell? ⟨W5.heap.size, v, none⟩ = some (.int .i64 (stepsZ c v)) := fun h => by
      have hx := heap_alloc_new W5 (.cells #[.int .i64 0, .int .i64 G, .int .i64 G, .int .i64 S, .int .i64 S, .int .i64 S, .int .i64 S, .int .i64 H, .int .i64 H, .int .i64 H, .int .i64 H, .int .i64 4] 3)
      rw [HZ.out]
      simp only [World.cell?, hx]
      have : ∀ (L : List Int), v < L.length → (intsV L).toArray[v]? = some (Value.int .i64 (L.getD v 0)) := fun L hL => by simp [hL]
      exact this [0, G, G, S, S, S, S, H, H, H, H, 4] h
    have hlow6 : Below w.heap.size w (W5.alloc (.cells #[.int .i64 0, .int .i64 G, .int .i64 G, .int .i64 S, .int .i64 S, .int .i64 S, .int .i64 S, .int .i64 H, .int .i64 H, .int .i64 H, .int .i64 H, .int .i64 4] 3)) := HL5.out.alloc HL5.out.size _
    have HCELL := Lib.hid hcell
    have HL6 := Lib.hid hlow6
    clear hcell hlow6
    go_upto_region 8 with fail
    generalize (W5.alloc (.cells #[.int .i64 0, .int .i64 G, .int .i64 G, .int .i64 S, .int .i64 S, .int .i64 S, .int .i64 S, .int .i64 H, .int .i64 H, .int .i64 H, .int .i64 H, .int .i64 4] 3)) = W6 at *
    by_cases hlt : v < 12
    · have t1 : decide ((v : Int) < 12) = true := by rw [decide_eq_true_eq]; omega
      have hc := HCELL.out hlt
      have ix : ∀ W : World, (Instr.indexAt 82 (.slice (some ⟨W5.heap.size, 0, none⟩) 12 12) (.int .u8 (v : Int))).run Tryd.prog W = .ok (.pointer (some ⟨W5.heap.size, v, none⟩)) W := fun W => by
        have h0 : (0 : Int) ≤ (v : Int) := by omega
        have h1 : (v : Int) < (12 : Int) := by omega
        have h2 := Tryd.underlying82
        go_simp
      generalize stepsZ c v = Z at *
      go_wp2_with fail
      go_ret
      exact ⟨rfl, HL6.out⟩
    · have t1 : decide ((v : Int) < 12) = false := by rw [decide_eq_false_iff_not]; omega
      have hz0 : stepsZ c v = 0 := by rw [HZ.out, List.getD_eq_getElem?_getD, List.getElem?_eq_none (by simp; omega)]; rfl
      have HZ0 := Lib.hid hz0
      clear hz0 hlt
      go_wp2_with fail
      go_ret
      exact ⟨by rw [HZ0.out]; rfl, HL6.out⟩
end Go.Proofs.YtahpjhnbjkjkiaaDoor
namespace Go.Proofs.YtahpjhnbjkjkiaaDoor
open Go.RowKit Go.ChangeMaps Go.MapKept

theorem idx_call {a : Option Addr} {g o n c k : Nat} (ha : a = some ⟨g, o, none⟩) (hk : k < n) (W : World) : (Instr.indexAt 58 (.slice a n c) (.int .i64 (k : Int))).run Tryd.prog W = .ok (.pointer (some ⟨g, o + k * 7, none⟩)) W := by
  subst ha
  have h0 : (0 : Int) ≤ (k : Int) := by omega
  have h1 : (k : Int) < (n : Int) := by omega
  have h2 := Tryd.underlying58
  obtain ⟨i0, hi, hz0, hz1, hz2⟩ := info_parts infoCall
  go_simp
theorem calls_cell {C : List Cmd} {k j : Nat} {c : Cmd} {x : Value} (h : C[k]? = some c) (hx : (callCells c)[j]? = some x) : (callsCells C)[k * 7 + j]? = some x := by
  induction C generalizing k with
  | nil => simp at h
  | cons y C ih =>
    have hj : j < 7 := by have := (List.getElem?_eq_some_iff.1 hx).1; simpa using this
    show (callCells y ++ callsCells C)[k * 7 + j]? = _
    cases k with
    | zero =>
      obtain rfl : y = c := by simpa using h
      rw [Nat.zero_mul, Nat.zero_add, List.getElem?_append_left (by simpa using hj)]
      exact hx
    | succ k =>
      rw [List.getElem?_append_right (by simp; omega)]
      have := ih (k := k) (by simpa using h)
      rw [← this]
      congr 1
      simp
      omega
/-- Calls in a row. -/
abbrev CallRow (w : World) (v : Value) (C : List Cmd) : Prop := Row w 37 7 v C.length (callsCells C)
theorem callRow_at {w : World} {v : Value} {C : List Cmd} (h : CallRow w v C) {k : Nat} {c : Cmd} (hk : C[k]? = some c) :
    ∃ g o cc, v = .slice (some ⟨g, o, none⟩) C.length cc ∧ g < w.heap.size ∧ (∀ j x, (callCells c)[j]? = some x → w.cell? ⟨g, o + (k * 7 + j), none⟩ = some x ∧ w.frozen? ⟨g, o + (k * 7 + j), none⟩ = false) := by
  obtain ⟨g, o, cc, rfl, hg, _, _, _, hcell⟩ := h.some (by
    intro e
    have := calls_cell (j := 0) hk rfl
    rw [e] at this
    simp at this)
  exact ⟨g, o, cc, rfl, hg, fun j x hx => hcell _ _ (calls_cell hk hx)⟩
theorem windows_take {c : CfgD} {C : List Cmd} {k : Nat} {x : Cmd} (h : C[k]? = some x) : windowsZ c ((C.take (k + 1)).map (·.cverb)) = windowsZ c ((C.take k).map (·.cverb)) + stepsZ c x.cverb := by
  obtain ⟨hi, he⟩ := List.getElem?_eq_some_iff.1 h
  rw [List.take_succ_eq_append_getElem hi, he]
  simp [windowsZ]
theorem windows_bd (c : CfgD) : ∀ vs : List Nat, 0 ≤ windowsZ c vs ∧ windowsZ c vs ≤ 4000000 * vs.length
  | [] => by simp [windowsZ]
  | v :: vs => by
    have h1 := steps_bd c v
    have h2 := windows_bd c vs
    have h3 : windowsZ c (v :: vs) = stepsZ c v + windowsZ c vs := by simp [windowsZ]
    rw [h3, List.length_cons]
    omega
set_option maxRecDepth 100000 in
set_option maxHeartbeats 8000000 in
theorem boundWindows_any (c : CfgD) {w : World} {lv : Value} {C : List Cmd} (h : CallRow w lv C) (hC : ∀ x ∈ C, x.cverb < 256) (hlen : C.length ≤ 268435456) :
    Calls Tryd.prog 23 #[cfgV c, lv] w (IntOk (windowsZ c (C.map (·.cverb))) w) := by
  obtain ⟨la, lc, rfl⟩ := h.len
  have hb0 : Below w.heap.size w (w.alloc (.cells (cfgCells c).toArray 54)) := (Below.refl _ _).alloc (Nat.le_refl _) _
  have hs0 : CfgS w c (w.alloc (.cells (cfgCells c).toArray 54)) := cfg_box (by have := Below.refl (w.heap.size + 1) (w.alloc (.cells (cfgCells c).toArray 54)); exact this) hb0
  have HS0 := Lib.hid hs0
  have HST := Lib.hid (fun v (hv : v < 256) W => boundSteps_any c v hv W)
  have HR := Lib.hid h
  have HC := Lib.hid hC
  clear hs0 hb0 h hC
  go_enter Tryd.func23, Tryd.ntmps23
  go_wp2_with fail
  go_loopw [5, 10] (fun s5 s10 wr => ∃ (k : Nat) (S : Int), s10 = .int .i64 (k : Int) ∧ s5 = .int .i64 S ∧ k ≤ C.length ∧ CfgS w c wr ∧ Hid (S = windowsZ c ((C.take k).map (·.cverb)))) (fun _ s10 _ => C.length - (intOf s10).toNat)
  case atStart => exact ⟨0, 0, rfl, rfl, Nat.zero_le _, HS0.out, Lib.hid (by simp [windowsZ])⟩
  case round =>
    obtain ⟨k, S, rfl, rfl, hk, hs, HS⟩ := hrel
    clear HS0
    by_cases hlt : k < C.length
    · obtain ⟨x, hx⟩ : ∃ x, C[k]? = some x := ⟨_, List.getElem?_eq_getElem hlt⟩
      have HSK := Lib.hid hs
      obtain ⟨y0, y1, y2, y3, y4, yl⟩ := hs
      obtain ⟨g, o, cc, hs1, _, hcell⟩ := callRow_at (HR.out.below yl) hx
      obtain ⟨rfl, -, -⟩ := slice_inj hs1
      obtain ⟨b, hb⟩ : ∃ b, b = o + k * 7 := ⟨_, rfl⟩
      have ix : ∀ W : World, (Instr.indexAt 58 (.slice (some ⟨g, o, none⟩) C.length lc) (.int .i64 (k : Int))).run Tryd.prog W = .ok (.pointer (some ⟨g, b, none⟩)) W := fun W => by rw [hb]; exact idx_call rfl hlt W
      have z0 : wr.cell? ⟨g, b, none⟩ = some (.int .u8 (x.cverb : Int)) := by
        have h := (hcell 0 _ rfl).1
        rwa [show o + (k * 7 + 0) = b from by omega] at h
      have z1 : wr.cell? ⟨g, b + 1, none⟩ = some (sv x.key) := by
        have h := (hcell 1 _ rfl).1
        rwa [show o + (k * 7 + 1) = b + 1 from by omega] at h
      have z2 : wr.cell? ⟨g, b + 2, none⟩ = some (sv x.value) := by
        have h := (hcell 2 _ rfl).1
        rwa [show o + (k * 7 + 2) = b + 2 from by omega] at h
      have z3 : wr.cell? ⟨g, b + 3, none⟩ = some (.int .u32 (x.flags : Int)) := by
        have h := (hcell 3 _ rfl).1
        rwa [show o + (k * 7 + 3) = b + 3 from by omega] at h
      have z4 : wr.cell? ⟨g, b + 4, none⟩ = some (.int .i64 x.exp) := by
        have h := (hcell 4 _ rfl).1
        rwa [show o + (k * 7 + 4) = b + 4 from by omega] at h
      have z5 : wr.cell? ⟨g, b + 5, none⟩ = some (.int .u64 (x.id : Int)) := by
        have h := (hcell 5 _ rfl).1
        rwa [show o + (k * 7 + 5) = b + 5 from by omega] at h
      have z6 : wr.cell? ⟨g, b + 6, none⟩ = some (.int .u64 (x.by' : Int)) := by
        have h := (hcell 6 _ rfl).1
        rwa [show o + (k * 7 + 6) = b + 6 from by omega] at h
      have hlt0 : w.heap.size < wr.heap.size := cell_lt y0
      have hne0 : w.heap.size ≠ wr.heap.size := by omega
      have hst := HST.out x.cverb (HC.out x (List.mem_of_getElem? hx))
      have hbd := steps_bd c x.cverb
      have hwb := windows_bd c ((C.take k).map (·.cverb))
      rw [← HS.out, List.length_map, List.length_take] at hwb
      have hS0 : 0 ≤ S := hwb.1
      have hS1 : S ≤ 1080000000000000 := by have := hwb.2; omega
      have HW := Lib.hid (show S + stepsZ c x.cverb = windowsZ c ((C.take (k + 1)).map (·.cverb)) by rw [windows_take hx, HS.out])
      generalize stepsZ c x.cverb = Z at *
      obtain ⟨hZ0, hZ1⟩ := hbd
      have HSTX := Lib.hid hst
      clear hst hwb hb hs1 hcell hx yl HS
      go_wp2_with fail
      refine (HSTX.out _).mono ?_
      rintro e w1 ⟨rfl, hb1⟩
      have hs1 := cfg_keep hb1 (cfg_keep ((Below.refl _ _).alloc (Nat.le_refl _) _) HSK.out)
      have HS1 := Lib.hid hs1
      clear hs1 hb1 y0 y1 y2 y3 y4 z0 z1 z2 z3 z4 z5 z6
      go_wp2_with fail
      refine (sum_is [S, Z] (S + Z) (by simp only [List.sum_cons, List.sum_nil]; omega) _ 2 rfl (by intro x hx; simp at hx; omega) (by omega) _ (by first | (rw [heap_at, if_pos (by simp)]; done) | (rw [heap_at, if_pos (by simp)]; rfl))).mono ?_
      rintro e w2 ⟨rfl, rfl⟩
      go_wp2_with fail
      go_roundw
      case rel => exact ⟨k + 1, S + Z, by go_num, rfl, by omega, cfg_keep ((Below.refl _ _).alloc (Nat.le_refl _) _) HS1.out, HW⟩
      case measure => simp [intOf]; omega
    · obtain rfl : k = C.length := by omega
      rw [List.take_of_length_le (Nat.le_refl _)] at HS
      have HL := Lib.hid hs.2.2.2.2.2
      clear hs
      go_wp2_with fail
      go_ret
      exact ⟨by rw [← HS.out]; rfl, HL.out⟩
end Go.Proofs.YtahpjhnbjkjkiaaDoor
namespace Go.Proofs.YtahpjhnbjkjkiaaDoor
open Go.RowKit Go.ChangeMaps Go.MapKept

abbrev cfg40 : CfgD := ⟨2, 8, 3, 1, 16⟩
def lb40 : List UInt8 := [103, 101, 116, 32, 97, 32, 98, 13, 10, 118, 101, 114, 115, 105, 111, 110, 13, 10, 115, 101, 116, 32, 97, 32, 48, 32, 48, 32, 49, 13, 10, 120, 13, 10]
abbrev call40a : Cmd := ⟨1, [[97], [98]], 1, [97], [], 0, 0, 0, 0, -1, false⟩
abbrev call40b : Cmd := ⟨1, [[97], [98]], 1, [98], [], 0, 0, 0, 0, -1, false⟩
abbrev call40c : Cmd := ⟨3, [[97]], 3, [97], [120], 0, 0, 0, 0, 1, false⟩
theorem calls40 : callsL (runF fNew lb40).2 = [call40a, call40b, call40c] := by kernel_rfl
theorem room40 (w : World) : Calls Tryd.prog 19 #[.agg #[.int .i64 2, .int .i64 8, .int .i64 3, .int .i64 1, .int .i64 16]] w (IntOk 210 w) := boundRoom_any cfg40 w
theorem turn40 (w : World) : Calls Tryd.prog 20 #[.agg #[.int .i64 2, .int .i64 8, .int .i64 3, .int .i64 1, .int .i64 16]] w (IntOk 894 w) := boundTurn_any cfg40 w
theorem evict40 (w : World) : Calls Tryd.prog 21 #[.agg #[.int .i64 2, .int .i64 8, .int .i64 3, .int .i64 1, .int .i64 16]] w (IntOk 781 w) := boundEvict_any cfg40 w
theorem get40 (w : World) : Calls Tryd.prog 22 #[.agg #[.int .i64 2, .int .i64 8, .int .i64 3, .int .i64 1, .int .i64 16], .int .u8 1] w (IntOk 152 w) := boundSteps_any cfg40 1 (by omega) w
theorem set40 (w : World) : Calls Tryd.prog 22 #[.agg #[.int .i64 2, .int .i64 8, .int .i64 3, .int .i64 1, .int .i64 16], .int .u8 3] w (IntOk 2161 w) := boundSteps_any cfg40 3 (by omega) w
theorem incr40 (w : World) : Calls Tryd.prog 22 #[.agg #[.int .i64 2, .int .i64 8, .int .i64 3, .int .i64 1, .int .i64 16], .int .u8 9] w (IntOk 925 w) := boundSteps_any cfg40 9 (by omega) w
theorem flush40 (w : World) : Calls Tryd.prog 22 #[.agg #[.int .i64 2, .int .i64 8, .int .i64 3, .int .i64 1, .int .i64 16], .int .u8 11] w (IntOk 4 w) := boundSteps_any cfg40 11 (by omega) w
theorem windows40 {w : World} {lv : Value} (h : CallRow w lv [call40a, call40b, call40c]) : Calls Tryd.prog 23 #[.agg #[.int .i64 2, .int .i64 8, .int .i64 3, .int .i64 1, .int .i64 16], lv] w (IntOk 2465 w) :=
  boundWindows_any cfg40 h (by intro x hx; simp at hx; rcases hx with rfl | rfl | rfl <;> decide) (by decide)
set_option maxRecDepth 100000 in
set_option maxHeartbeats 8000000 in
theorem lives40 (w : World) (hL : HasLen w) (hE : HasErr w) : Calls Tryd.prog 18 #[] w fun e w' => e = .returned (.bool true) ∧ Below w.heap.size w w' := by
  have hs0 : CfgS w cfg40 (w.alloc (.cells (cfgCells cfg40).toArray 54)) := cfg_box (by have := Below.refl (w.heap.size + 1) (w.alloc (.cells (cfgCells cfg40).toArray 54)); exact this) ((Below.refl _ _).alloc (Nat.le_refl _) _)
  have hb1 : Below w.heap.size w ((w.alloc (.cells (cfgCells cfg40).toArray 54)).alloc (litB lb40)) := ((Below.refl _ _).alloc (Nat.le_refl _) _).alloc (by simp) _
  have hcl := boundsCalls_any (row_new (w.alloc (.cells (cfgCells cfg40).toArray 54)) lb40 (by unfold maxLen; decide)).bytes (by decide) (hL.below hb1) (hE.below hb1)
  rw [calls40, show (w.alloc (.cells (cfgCells cfg40).toArray 54)).heap.size = w.heap.size + 1 by simp] at hcl
  have HCL := Lib.hid hcl
  have hs1 := cfg_keep ((Below.refl _ _).alloc (Nat.le_refl _) (litB lb40)) hs0
  have HS1 := Lib.hid hs1
  have hcs : ∀ (ob : Obj) (C : Array Value) (n c : Nat), (convert 22 22 (.slice (some ⟨w.heap.size + 1, 0, none⟩) n c)).run Tryd.prog ((w.alloc ob).alloc (.cells C 5)) = .ok (.slice (some ⟨w.heap.size + 1, 0, none⟩) n c) ((w.alloc ob).alloc (.cells C 5 (C.size, C.size + 1))) := fun ob C n c => by
    have h := conv_const (w.alloc ob) C n c
    rw [show (w.alloc ob).heap.size = w.heap.size + 1 by simp] at h
    exact h
  clear hs0 hb1 hcl hs1 hL hE
  go_enter Tryd.func18, Tryd.ntmps18
  go_wp2_with fail
  refine HCL.out.mono ?_
  rintro e w1 ⟨lv, rfl, hcut, hb1⟩
  obtain ⟨la, rfl⟩ : ∃ a, lv = .slice a 3 3 := hcut.1
  have hs1 := cfg_keep hb1 HS1.out
  have HR := Lib.hid (show CallRow w1 (.slice la 3 3) [call40a, call40b, call40c] from hcut.2.1)
  have HS := Lib.hid hs1
  obtain ⟨y0, y1, y2, y3, y4, yl⟩ := hs1
  clear hcut hb1 yl HCL HS1 hcs
  go_wp2_with fail
  refine (room40 _).mono ?_
  rintro e w2 ⟨rfl, hb2⟩
  have hs2 := cfg_keep hb2 HS.out
  have hr2 := HR.out.below hb2
  clear HS HR y0 y1 y2 y3 y4
  have HR := Lib.hid hr2
  have HS := Lib.hid hs2
  obtain ⟨y0, y1, y2, y3, y4, yl⟩ := hs2
  clear hb2 yl hr2
  go_wp2_with fail
  refine (turn40 _).mono ?_
  rintro e w3 ⟨rfl, hb3⟩
  have hs3 := cfg_keep hb3 HS.out
  have hr3 := HR.out.below hb3
  clear HS HR y0 y1 y2 y3 y4
  have HR := Lib.hid hr3
  have HS := Lib.hid hs3
  obtain ⟨y0, y1, y2, y3, y4, yl⟩ := hs3
  clear hb3 yl hr3
  go_wp2_with fail
  refine (evict40 _).mono ?_
  rintro e w4 ⟨rfl, hb4⟩
  have hs4 := cfg_keep hb4 HS.out
  have hr4 := HR.out.below hb4
  clear HS HR y0 y1 y2 y3 y4
  have HR := Lib.hid hr4
  have HS := Lib.hid hs4
  obtain ⟨y0, y1, y2, y3, y4, yl⟩ := hs4
  clear hb4 yl hr4
  go_wp2_with fail
  refine (get40 _).mono ?_
  rintro e w5 ⟨rfl, hb5⟩
  have hs5 := cfg_keep hb5 HS.out
  have hr5 := HR.out.below hb5
  clear HS HR y0 y1 y2 y3 y4
  have HR := Lib.hid hr5
  have HS := Lib.hid hs5
  obtain ⟨y0, y1, y2, y3, y4, yl⟩ := hs5
  clear hb5 yl hr5
  go_wp2_with fail
  refine (set40 _).mono ?_
  rintro e w6 ⟨rfl, hb6⟩
  have hs6 := cfg_keep hb6 HS.out
  have hr6 := HR.out.below hb6
  clear HS HR y0 y1 y2 y3 y4
  have HR := Lib.hid hr6
  have HS := Lib.hid hs6
  obtain ⟨y0, y1, y2, y3, y4, yl⟩ := hs6
  clear hb6 yl hr6
  go_wp2_with fail
  refine (incr40 _).mono ?_
  rintro e w7 ⟨rfl, hb7⟩
  have hs7 := cfg_keep hb7 HS.out
  have hr7 := HR.out.below hb7
  clear HS HR y0 y1 y2 y3 y4
  have HR := Lib.hid hr7
  have HS := Lib.hid hs7
  obtain ⟨y0, y1, y2, y3, y4, yl⟩ := hs7
  clear hb7 yl hr7
  go_wp2_with fail
  refine (flush40 _).mono ?_
  rintro e w8 ⟨rfl, hb8⟩
  have hs8 := cfg_keep hb8 HS.out
  have hr8 := HR.out.below hb8
  clear HS HR y0 y1 y2 y3 y4
  have HR := Lib.hid hr8
  have HS := Lib.hid hs8
  obtain ⟨y0, y1, y2, y3, y4, yl⟩ := hs8
  clear hb8 yl hr8
  obtain ⟨g, o, cc, hs1, hg, hc0⟩ := callRow_at HR.out (k := 0) rfl
  obtain ⟨rfl, -, -⟩ := slice_inj hs1
  obtain ⟨g', o', cc', hs2, _, hc1⟩ := callRow_at HR.out (k := 1) rfl
  obtain ⟨he, -, -⟩ := slice_inj hs2
  obtain ⟨rfl, rfl, -⟩ := Addr.mk.inj (Option.some.inj he)
  obtain ⟨g', o', cc', hs3, _, hc2⟩ := callRow_at HR.out (k := 2) rfl
  obtain ⟨he3, -, -⟩ := slice_inj hs3
  obtain ⟨rfl, rfl, -⟩ := Addr.mk.inj (Option.some.inj he3)
  have i0 : ∀ W : World, (Instr.indexAt 58 (.slice (some ⟨g, o, none⟩) 3 3) (.int .i64 0)).run Tryd.prog W = .ok (.pointer (some ⟨g, o, none⟩)) W := fun W => idx_call (k := 0) rfl (by omega) W
  have i1 : ∀ W : World, (Instr.indexAt 58 (.slice (some ⟨g, o, none⟩) 3 3) (.int .i64 1)).run Tryd.prog W = .ok (.pointer (some ⟨g, o + 7, none⟩)) W := fun W => idx_call (k := 1) rfl (by omega) W
  have i2 : ∀ W : World, (Instr.indexAt 58 (.slice (some ⟨g, o, none⟩) 3 3) (.int .i64 2)).run Tryd.prog W = .ok (.pointer (some ⟨g, o + 14, none⟩)) W := fun W => idx_call (k := 2) rfl (by omega) W
  have x0 : w8.cell? ⟨g, o, none⟩ = some (.int .u8 1) := (hc0 0 _ rfl).1
  have x1 : w8.cell? ⟨g, o + 1, none⟩ = some (sv [97]) := (hc0 1 _ rfl).1
  have x2 : w8.cell? ⟨g, o + 2, none⟩ = some (sv []) := (hc0 2 _ rfl).1
  have x3 : w8.cell? ⟨g, o + 3, none⟩ = some (.int .u32 0) := (hc0 3 _ rfl).1
  have x4 : w8.cell? ⟨g, o + 4, none⟩ = some (.int .i64 0) := (hc0 4 _ rfl).1
  have x5 : w8.cell? ⟨g, o + 5, none⟩ = some (.int .u64 0) := (hc0 5 _ rfl).1
  have x6 : w8.cell? ⟨g, o + 6, none⟩ = some (.int .u64 0) := (hc0 6 _ rfl).1
  have x7 : w8.cell? ⟨g, o + 7, none⟩ = some (.int .u8 1) := (hc1 0 _ rfl).1
  have x8 : w8.cell? ⟨g, o + 8, none⟩ = some (sv [98]) := (hc1 1 _ rfl).1
  have x9 : w8.cell? ⟨g, o + 9, none⟩ = some (sv []) := (hc1 2 _ rfl).1
  have x10 : w8.cell? ⟨g, o + 10, none⟩ = some (.int .u32 0) := (hc1 3 _ rfl).1
  have x11 : w8.cell? ⟨g, o + 11, none⟩ = some (.int .i64 0) := (hc1 4 _ rfl).1
  have x12 : w8.cell? ⟨g, o + 12, none⟩ = some (.int .u64 0) := (hc1 5 _ rfl).1
  have x13 : w8.cell? ⟨g, o + 13, none⟩ = some (.int .u64 0) := (hc1 6 _ rfl).1
  have x14 : w8.cell? ⟨g, o + 14, none⟩ = some (.int .u8 3) := (hc2 0 _ rfl).1
  have x15 : w8.cell? ⟨g, o + 15, none⟩ = some (sv [97]) := (hc2 1 _ rfl).1
  have x16 : w8.cell? ⟨g, o + 16, none⟩ = some (sv [120]) := (hc2 2 _ rfl).1
  have x17 : w8.cell? ⟨g, o + 17, none⟩ = some (.int .u32 0) := (hc2 3 _ rfl).1
  have x18 : w8.cell? ⟨g, o + 18, none⟩ = some (.int .i64 0) := (hc2 4 _ rfl).1
  have x19 : w8.cell? ⟨g, o + 19, none⟩ = some (.int .u64 0) := (hc2 5 _ rfl).1
  have x20 : w8.cell? ⟨g, o + 20, none⟩ = some (.int .u64 0) := (hc2 6 _ rfl).1
  have HWN := Lib.hid (windows40 HR.out)
  have HLW := Lib.hid HS.out.2.2.2.2.2
  clear hc0 hc1 hc2 hs1 hs2 hs3 he he3 HR HS
  go_wp2_with fail
  refine HWN.out.mono ?_
  rintro e wz ⟨rfl, hbz⟩
  have HB := Lib.hid (HLW.out.trans (hbz.mono HLW.out.size))
  clear hbz
  go_wp2_with fail
  go_ret
  exact ⟨rfl, HB.out⟩
end Go.Proofs.YtahpjhnbjkjkiaaDoor
