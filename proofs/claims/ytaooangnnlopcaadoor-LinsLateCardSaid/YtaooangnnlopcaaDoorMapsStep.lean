/- Steps of a run of calls, in memory. No condition. -/
import Derived.Test.YtaooangnnlopcaaDoorMapsLives
namespace Go.Proofs.YtaooangnnlopcaaDoor
open Go.RowKit Go.ChangeMaps Go.MapKept
structure StepD where
  call : CallD
  ticks : Nat
abbrev stepCells (x : StepD) : List Value := [.int .u8 x.call.verb, .string x.call.key, .string x.call.value, .int .u32 x.call.flags, .int .i64 x.call.exp, .int .u64 x.call.id, .int .u64 x.call.by', .int .u8 (x.ticks : Int)]
structure CallFit (c : CallD) : Prop where
  verb : 0 ≤ c.verb ∧ c.verb ≤ 255
  key : c.key.size ≤ maxLen
  value : c.value.size ≤ maxLen
  flags : 0 ≤ c.flags ∧ c.flags ≤ 4294967295
  exp : -9223372036854775808 ≤ c.exp ∧ c.exp ≤ 9223372036854775807
  id : 0 ≤ c.id ∧ c.id ≤ 18446744073709551615
  by' : 0 ≤ c.by' ∧ c.by' ≤ 18446744073709551615
structure StepIs (x : StepD) : Prop where
  call : CallFit x.call
  ticks : x.ticks < 256
def StepRow (w : World) (v : Value) (L : List StepD) : Prop := L.length ≤ maxLen ∧ (∀ x ∈ L, StepIs x) ∧ ∃ (a : Option Addr) (c : Nat), v = .slice a L.length c ∧
  ∀ (j : Nat) (x : StepD), L[j]? = some x → ∃ g o, a = some ⟨g, o, none⟩ ∧ g < w.heap.size ∧ ∀ (i : Nat) (u : Value), (stepCells x)[i]? = some u → w.cell? ⟨g, o + (j * 8 + i), none⟩ = some u
theorem StepRow.below {w w' : World} {v : Value} {L : List StepD} (h : StepRow w v L) (hb : Below w.heap.size w w') : StepRow w' v L := by
  obtain ⟨h1, h2, a, c, hv, h3⟩ := h
  refine ⟨h1, h2, a, c, hv, fun j x hj => ?_⟩
  obtain ⟨g, o, ha, hg, hc⟩ := h3 j x hj
  exact ⟨g, o, ha, Nat.lt_of_lt_of_le hg hb.size, fun i u hu => (hb.cell (p := ⟨g, o + (j * 8 + i), none⟩) hg).trans (hc i u hu)⟩
theorem idx_step {a : Option Addr} {g o n c k : Nat} (ha : a = some ⟨g, o, none⟩) (hk : k < n) (W : World) : (Instr.indexAt 27 (.slice a n c) (.int .i64 (k : Int))).run Tryd.prog W = .ok (.pointer (some ⟨g, o + k * 8, none⟩)) W := by
  subst ha
  have h0 : (0 : Int) ≤ (k : Int) := by omega
  have h1 : (k : Int) < (n : Int) := by omega
  have h2 := Tryd.underlying27
  obtain ⟨i0, hi, hz0, hz1, hz2⟩ := info_parts (show (Tryd.prog.info? 30).map (fun i => (i.zero, i.size, i.bytes)) = some (some (.agg #[.int .u8 0, .string ⟨#[]⟩, .string ⟨#[]⟩, .int .u32 0, .int .i64 0, .int .u64 0, .int .u64 0, .int .u8 0]), 8, 80) by kernel_rfl)
  go_simp
/-- Where a step's cells lie. -/
theorem StepRow.at {w : World} {L : List StepD} {a : Option Addr} {c : Nat} (h : ∀ (j : Nat) (x : StepD), L[j]? = some x → ∃ g o, a = some ⟨g, o, none⟩ ∧ g < w.heap.size ∧ ∀ (i : Nat) (u : Value), (stepCells x)[i]? = some u → w.cell? ⟨g, o + (j * 8 + i), none⟩ = some u) {j : Nat} {x : StepD} (hj : L[j]? = some x) :
    ∃ g b, (∀ W : World, (Instr.indexAt 27 (.slice a L.length c) (.int .i64 (j : Int))).run Tryd.prog W = .ok (.pointer (some ⟨g, b, none⟩)) W) ∧ ∀ W, Below w.heap.size w W → ∀ (i : Nat) (u : Value), (stepCells x)[i]? = some u → W.cell? ⟨g, b + i, none⟩ = some u := by
  obtain ⟨g, o, ha, hg, hc⟩ := h j x hj
  refine ⟨g, o + j * 8, fun W => idx_step ha (List.getElem?_eq_some_iff.1 hj).1 W, fun W hb i u hu => ?_⟩
  rw [Nat.add_assoc]
  exact (hb.cell (p := ⟨g, o + (j * 8 + i), none⟩) hg).trans (hc i u hu)
theorem low_drewM {B : Nat} {w w' : World} (h : Below B w w') (n : Nat) : Below B w (w'.drewN n) := ⟨h.os, h.tape, h.output, h.size, h.block⟩
/-- What long answers. -/
def LongIs (L : List StepD) (e : Ending) : Prop := ∃ b : Bool, e = .returned (.bool b) ∧ (b = false → L.length ≤ 100)
theorem longIs_yes {L : List StepD} : LongIs L (.returned (.bool true)) := ⟨true, rfl, fun h => by cases h⟩
theorem longIs_or {L : List StepD} (b : Bool) : LongIs L (.returned (.bool (b || decide ((100 : Int) < (L.length : Int))))) := ⟨_, rfl, fun h => by
  rw [Bool.or_eq_false_iff, decide_eq_false_iff_not] at h
  omega⟩
set_option maxRecDepth 100000 in
set_option maxHeartbeats 8000000 in
theorem long_any {w : World} {lv : Value} {L : List StepD} (hl : StepRow w lv L) : Calls Tryd.prog 8 #[lv] w fun e w' => LongIs L e ∧ Below w.heap.size w w' := by
  have hmx := hl.1
  unfold maxLen at hmx
  obtain ⟨-, hsx, la, lc, rfl, hcell⟩ := hl
  have HSX := Lib.hid hsx
  have HC := Lib.hid (fun (j : Nat) (x : StepD) (hj : L[j]? = some x) => StepRow.at (c := lc) hcell hj)
  clear hsx hcell
  go_enter Tryd.func8, Tryd.ntmps8
  go_upto_region 3 with fail
  go_loopw [3, 4] (fun s3 s4 wr => ∃ (i n : Nat), s4 = .int .i64 (i : Int) ∧ s3 = .int .i64 (n : Int) ∧ i ≤ L.length ∧ i ≤ 130 ∧ n ≤ 18000 * i ∧ Below w.heap.size w wr) (fun _ s4 _ => L.length - (intOf s4).toNat)
  case atStart => exact ⟨0, 0, rfl, rfl, Nat.zero_le _, Nat.zero_le _, Nat.zero_le _, Below.refl _ _⟩
  case round =>
    obtain ⟨i, n, rfl, rfl, hi, hi2, hn, hlow⟩ := hrel
    have HLOW := Lib.hid hlow
    clear hlow
    by_cases hlt : i < L.length
    · by_cases hlt2 : i < 130
      · obtain ⟨x, hx⟩ : ∃ x, L[i]? = some x := ⟨_, List.getElem?_eq_getElem hlt⟩
        obtain ⟨g, b, hix, hcw⟩ := HC.out i x hx
        have hsi := HSX.out x (List.mem_of_getElem? hx)
        have x1 := hcw wr HLOW.out 1 _ rfl
        have x2 := hcw wr HLOW.out 2 _ rfl
        have hk := hsi.call.key
        have hv := hsi.call.value
        unfold maxLen at hk hv
        obtain ⟨kl, hkl⟩ : ∃ k, k = min x.call.key.size 9000 := ⟨_, rfl⟩
        obtain ⟨vl, hvl⟩ : ∃ k, k = min x.call.value.size 9000 := ⟨_, rfl⟩
        have k1 : (if (9000 : Int) < (x.call.key.size : Int) then (9000 : Int) else (x.call.key.size : Int)) = (kl : Int) := by split <;> omega
        have k2 : (if (x.call.key.size : Int) ≤ 9000 then (x.call.key.size : Int) else (9000 : Int)) = (kl : Int) := by split <;> omega
        have v1 : (if (9000 : Int) < (x.call.value.size : Int) then (9000 : Int) else (x.call.value.size : Int)) = (vl : Int) := by split <;> omega
        have v2 : (if (x.call.value.size : Int) ≤ 9000 then (x.call.value.size : Int) else (9000 : Int)) = (vl : Int) := by split <;> omega
        have hkl9 : kl ≤ 9000 := by omega
        have hvl9 : vl ≤ 9000 := by omega
        clear hcw hsi hx hkl hvl
        generalize x.call.key = K at *
        generalize x.call.value = V at *
        go_upto_region 5 with fail
        go_quiet (fail)
        go_wp2_with fail
        go_roundw
        case rel => exact ⟨i + 1, n + kl + vl, by go_num, by go_num, by omega, by omega, by omega, low_drewM HLOW.out _⟩
        case measure => simp [intOf]; omega
      · go_wp2_with fail
        · go_ret
          exact ⟨longIs_or _, HLOW.out⟩
        · go_ret
          exact ⟨longIs_yes, HLOW.out⟩
    · go_wp2_with fail
      · go_ret
        exact ⟨longIs_or _, HLOW.out⟩
      · go_ret
        exact ⟨longIs_yes, HLOW.out⟩
end Go.Proofs.YtaooangnnlopcaaDoor
