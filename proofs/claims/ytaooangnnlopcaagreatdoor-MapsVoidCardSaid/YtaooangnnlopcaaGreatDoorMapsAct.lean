/- Acts of a run of calls, in memory; is there more than is gone through? No condition. -/
import Derived.Test.YtaooangnnlopcaaGreatDoorMapsRD
import Derived.Test.YtaooangnnlopcaaGreatDoorMapsLives
namespace Go.Proofs.YtaooangnnlopcaaGreatDoor
open Go.RowKit Go.ChangeMaps Go.MapKept
structure ActD where
  kind : Int
  called : CalledD
  item : ItemD
abbrev calledL (x : CalledD) : List Value := [.int .i64 x.thread, .int .u8 x.call.verb, .string x.call.key, .string x.call.value, .int .u32 x.call.flags, .int .i64 x.call.exp, .int .u64 x.call.id, .int .u64 x.call.by', .int .i64 x.from', .int .i64 x.till, .int .u8 x.ans.kind, .int .u64 x.ans.number, .string x.ans.item.key, .string x.ans.item.value, .int .u32 x.ans.item.flags, .int .u64 x.ans.item.id, .int .i64 x.ans.item.dies, .int .i64 x.ans.item.gen, .int .u64 (x.epoch : Int), .int .i64 x.point]
abbrev actCells (x : ActD) : List Value := .int .u8 x.kind :: (calledL x.called ++ itemCells x.item)
structure FitC (c : CallD) : Prop where
  verb : 0 ≤ c.verb ∧ c.verb ≤ 255
  key : c.key.size ≤ maxLen
  value : c.value.size ≤ maxLen
  exp : -9223372036854775808 ≤ c.exp ∧ c.exp ≤ 9223372036854775807
  by' : 0 ≤ c.by' ∧ c.by' ≤ 18446744073709551615
structure ActIs (x : ActD) : Prop where
  kind : 0 ≤ x.kind ∧ x.kind ≤ 255
  call : FitC x.called.call
  ikey : x.called.ans.item.key.size ≤ maxLen
  ivalue : x.called.ans.item.value.size ≤ maxLen
  epoch : x.called.epoch < 18446744073709551616
  key : x.item.key.size ≤ maxLen
  value : x.item.value.size ≤ maxLen
def ActRow (w : World) (v : Value) (L : List ActD) : Prop := L.length ≤ maxLen ∧ (∀ x ∈ L, ActIs x) ∧ ∃ (a : Option Addr) (c : Nat), v = .slice a L.length c ∧
  ∀ (j : Nat) (x : ActD), L[j]? = some x → ∃ g o, a = some ⟨g, o, none⟩ ∧ g < w.heap.size ∧ ∀ (i : Nat) (u : Value), (actCells x)[i]? = some u → w.cell? ⟨g, o + (j * 27 + i), none⟩ = some u
theorem ActRow.below {w w' : World} {v : Value} {L : List ActD} (h : ActRow w v L) (hb : Below w.heap.size w w') : ActRow w' v L := by
  obtain ⟨h1, h2, a, c, hv, h3⟩ := h
  refine ⟨h1, h2, a, c, hv, fun j x hj => ?_⟩
  obtain ⟨g, o, ha, hg, hc⟩ := h3 j x hj
  exact ⟨g, o, ha, Nat.lt_of_lt_of_le hg hb.size, fun i u hu => (hb.cell (p := ⟨g, o + (j * 27 + i), none⟩) hg).trans (hc i u hu)⟩
theorem low_drewN' {B : Nat} {w w' : World} (h : Below B w w') (n : Nat) : Below B w (w'.drewN n) := ⟨h.os, h.tape, h.output, h.size, h.block⟩
theorem idx_act {a : Option Addr} {g o n c k : Nat} (ha : a = some ⟨g, o, none⟩) (hk : k < n) (W : World) : (Instr.indexAt 22 (.slice a n c) (.int .i64 (k : Int))).run Tryz.prog W = .ok (.pointer (some ⟨g, o + k * 27, none⟩)) W := by
  subst ha
  have h0 : (0 : Int) ≤ (k : Int) := by omega
  have h1 : (k : Int) < (n : Int) := by omega
  have h2 := Tryz.underlying22
  obtain ⟨i0, hi, hz0, hz1, hz2⟩ := info_parts (show (Tryz.prog.info? 44).map (fun i => (i.zero, i.size, i.bytes)) = some (some (.agg #[.int .u8 0, .int .i64 0, .int .u8 0, .string ⟨#[]⟩, .string ⟨#[]⟩, .int .u32 0, .int .i64 0, .int .u64 0, .int .u64 0, .int .i64 0, .int .i64 0, .int .u8 0, .int .u64 0, .string ⟨#[]⟩, .string ⟨#[]⟩, .int .u32 0, .int .u64 0, .int .i64 0, .int .i64 0, .int .u64 0, .int .i64 0, .string ⟨#[]⟩, .string ⟨#[]⟩, .int .u32 0, .int .u64 0, .int .i64 0, .int .i64 0]), 27, 264) by kernel_rfl)
  go_simp
/-- Where an act's cells lie. -/
theorem ActRow.at {w : World} {L : List ActD} {a : Option Addr} {c : Nat} (h : ∀ (j : Nat) (x : ActD), L[j]? = some x → ∃ g o, a = some ⟨g, o, none⟩ ∧ g < w.heap.size ∧ ∀ (i : Nat) (u : Value), (actCells x)[i]? = some u → w.cell? ⟨g, o + (j * 27 + i), none⟩ = some u) {j : Nat} {x : ActD} (hj : L[j]? = some x) :
    ∃ g b, (∀ W : World, (Instr.indexAt 22 (.slice a L.length c) (.int .i64 (j : Int))).run Tryz.prog W = .ok (.pointer (some ⟨g, b, none⟩)) W) ∧ ∀ W, Below w.heap.size w W → ∀ (i : Nat) (u : Value), (actCells x)[i]? = some u → W.cell? ⟨g, b + i, none⟩ = some u := by
  obtain ⟨g, o, ha, hg, hc⟩ := h j x hj
  refine ⟨g, o + j * 27, fun W => idx_act ha (List.getElem?_eq_some_iff.1 hj).1 W, fun W hb i u hu => ?_⟩
  rw [Nat.add_assoc]
  exact (hb.cell (p := ⟨g, o + (j * 27 + i), none⟩) hg).trans (hc i u hu)
/-- The call of an act, as it lies. -/
theorem act_range {W : World} {g b : Nat} {x : ActD} (h : ∀ (i : Nat) (u : Value), (actCells x)[i]? = some u → W.cell? ⟨g, b + i, none⟩ = some u) : W.rangeAt g (b + 1) (calledL x.called) := fun j u hu => by
  have hj : j < (calledL x.called).length := (List.getElem?_eq_some_iff.1 hu).1
  have := h (1 + j) u (by
    rw [Nat.add_comm 1 j, List.getElem?_cons_succ, List.getElem?_append_left hj]
    exact hu)
  rw [← Nat.add_assoc] at this
  exact this
theorem act_item {W : World} {g b : Nat} {x : ActD} (h : ∀ (i : Nat) (u : Value), (actCells x)[i]? = some u → W.cell? ⟨g, b + i, none⟩ = some u) : W.rangeAt g (b + 21) (itemCells x.item) := fun j u hu => by
  have := h (21 + j) u (by
    rw [show 21 + j = (20 + j) + 1 from by omega, List.getElem?_cons_succ, List.getElem?_append_right (by show 20 ≤ _; omega), show 20 + j - (calledL x.called).length = j from by show 20 + j - 20 = j; omega]
    exact hu)
  rw [← Nat.add_assoc] at this
  exact this
theorem wrap6 {n a b c d e f : Nat} (h : n + a + b + c + d + e + f < 4611686018427387904) : IntKind.i64.wrap (IntKind.i64.wrap (IntKind.i64.wrap (IntKind.i64.wrap (IntKind.i64.wrap (IntKind.i64.wrap ((n : Int) + (a : Int)) + (b : Int)) + (c : Int)) + (d : Int)) + (e : Int)) + (f : Int)) = ((n + a + b + c + d + e + f : Nat) : Int) := by
  rw [IntWalk.i64_in ((n : Int) + (a : Int)) (by omega), IntWalk.i64_in ((n : Int) + (a : Int) + (b : Int)) (by omega), IntWalk.i64_in ((n : Int) + (a : Int) + (b : Int) + (c : Int)) (by omega), IntWalk.i64_in ((n : Int) + (a : Int) + (b : Int) + (c : Int) + (d : Int)) (by omega), IntWalk.i64_in ((n : Int) + (a : Int) + (b : Int) + (c : Int) + (d : Int) + (e : Int)) (by omega), IntWalk.i64_in ((n : Int) + (a : Int) + (b : Int) + (c : Int) + (d : Int) + (e : Int) + (f : Int)) (by omega)]
  omega
/-- What great answers. -/
def GreatIs (L : List ActD) (e : Ending) : Prop := ∃ b : Bool, e = .returned (.bool b) ∧ (b = false → L.length ≤ 120)
theorem greatIs_yes {L : List ActD} : GreatIs L (.returned (.bool true)) := ⟨true, rfl, fun h => by cases h⟩
theorem greatIs_or {L : List ActD} (b : Bool) : GreatIs L (.returned (.bool (b || decide ((120 : Int) < (L.length : Int))))) := ⟨_, rfl, fun h => by
  rw [Bool.or_eq_false_iff, decide_eq_false_iff_not] at h
  omega⟩
set_option maxRecDepth 100000 in
set_option maxHeartbeats 8000000 in
theorem great_any {w : World} {lv : Value} {L : List ActD} (hl : ActRow w lv L) : Calls Tryz.prog 6 #[lv] w fun e w' => GreatIs L e ∧ Below w.heap.size w w' := by
  have hmx := hl.1
  unfold maxLen at hmx
  obtain ⟨-, hsx, la, lc, rfl, hcell⟩ := hl
  have HSX := Lib.hid hsx
  have HC := Lib.hid (fun (j : Nat) (x : ActD) (hj : L[j]? = some x) => ActRow.at (c := lc) hcell hj)
  clear hsx hcell
  go_enter Tryz.func6, Tryz.ntmps6
  go_upto_region 3 with fail
  go_loopw [3, 4] (fun s3 s4 wr => ∃ (i n : Nat), s4 = .int .i64 (i : Int) ∧ s3 = .int .i64 (n : Int) ∧ i ≤ L.length ∧ i ≤ 130 ∧ n ≤ 54000 * i ∧ Below w.heap.size w wr) (fun _ s4 _ => L.length - (intOf s4).toNat)
  case atStart => exact ⟨0, 0, rfl, rfl, Nat.zero_le _, Nat.zero_le _, Nat.zero_le _, Below.refl _ _⟩
  case round =>
    obtain ⟨i, n, rfl, rfl, hi, hi2, hn, hlow⟩ := hrel
    have HLOW := Lib.hid hlow
    clear hlow
    by_cases hlt : i < L.length
    · by_cases hlt2 : i < 130
      · obtain ⟨x, hx⟩ : ∃ x, L[i]? = some x := ⟨_, List.getElem?_eq_getElem hlt⟩
        obtain ⟨g, b, hix, hcw⟩ := HC.out i x hx
        have hsi := HSX.out x (List.mem_of_getElem? hx)
        have hrng := act_range (hcw wr HLOW.out)
        obtain ⟨c, hc⟩ : ∃ c, c = x.called := ⟨_, rfl⟩
        have HSI := Lib.hid hsi
        have HCW := Lib.hid hcw
        have HCC := Lib.hid hc
        rw [← hc] at hrng
        clear hsi hcw hx hc
        go_upto_region 6 with (first
          | ((with_reducible show wpList _ _ _ (⟨_, Op.load _ _, _, _, _, _⟩ :: _) _ _); refine wpList_load_mid (by rfl) 42 (.tmp 19) (by rfl) g (b + 1) (by rfl) _ _ hrng Tryz.underlying42 rfl (by kernel_rfl) ?_)
          | ((with_reducible show wpList _ _ _ (⟨none, Op.store _ _ _, _, _, _, _⟩ :: _) _ _); refine wpList_store_whole (by rfl) 42 (.tmp 5) (.tmp 20) (by rfl) wr.heap.size (by rfl) (calledL c).toArray (by rfl) _ 42 (heap_alloc_new _ _) (by rfl) (by kernel_rfl) (by simp [Value.oneCell']) ?_; intro w2 hr2 hg2 hs2; have HRI := Lib.hid hr2; have HGI := Lib.hid hg2; clear hr2 hg2 hs2)
          | fail)
        have hb2 : Below wr.heap.size wr w2 := grown_below ((Below.refl _ _).alloc (Nat.le_refl _) _) (by rw [size_at]; omega) HGI.out (fun k hk => by cases hk; exact Nat.le_refl _)
        have HB2 := Lib.hid (HLOW.out.trans (hb2.mono HLOW.out.size))
        obtain ⟨q, hq⟩ : ∃ q, q = wr.heap.size := ⟨_, rfl⟩
        rw [← hq] at HRI ⊢
        clear hb2 hq HGI hrng HLOW
        have x2 : w2.cell? ⟨q, 2, none⟩ = some (.string c.call.key) := (cells_at HRI.out 2).1
        have x3 : w2.cell? ⟨q, 3, none⟩ = some (.string c.call.value) := (cells_at HRI.out 3).1
        have x12 : w2.cell? ⟨q, 12, none⟩ = some (.string c.ans.item.key) := (cells_at HRI.out 12).1
        have x13 : w2.cell? ⟨q, 13, none⟩ = some (.string c.ans.item.value) := (cells_at HRI.out 13).1
        have x21 : w2.cell? ⟨g, b + 21, none⟩ = some (.string x.item.key) := HCW.out w2 HB2.out 21 _ rfl
        have x22 : w2.cell? ⟨g, b + 22, none⟩ = some (.string x.item.value) := HCW.out w2 HB2.out 22 _ rfl
        have s1 := HSI.out.call.key
        have s2 := HSI.out.call.value
        have s3 := HSI.out.ikey
        have s4 := HSI.out.ivalue
        have s5 := HSI.out.key
        have s6 := HSI.out.value
        rw [← HCC.out] at s1 s2 s3 s4
        clear HCW HSI HCC
        unfold maxLen at s1 s2 s3 s4 s5 s6
        generalize c.call.key = K1 at *
        generalize c.call.value = K2 at *
        generalize c.ans.item.key = K3 at *
        generalize c.ans.item.value = K4 at *
        generalize x.item.key = K5 at *
        generalize x.item.value = K6 at *
        obtain ⟨z1, hz1⟩ : ∃ k, k = min K1.size 9000 := ⟨_, rfl⟩
        have a1 : min (K1.size : Int) 9000 = (z1 : Int) := by omega
        have c1 : z1 ≤ 9000 := by omega
        obtain ⟨z2, hz2⟩ : ∃ k, k = min K2.size 9000 := ⟨_, rfl⟩
        have a2 : min (K2.size : Int) 9000 = (z2 : Int) := by omega
        have c2 : z2 ≤ 9000 := by omega
        obtain ⟨z3, hz3⟩ : ∃ k, k = min K3.size 9000 := ⟨_, rfl⟩
        have a3 : min (K3.size : Int) 9000 = (z3 : Int) := by omega
        have c3 : z3 ≤ 9000 := by omega
        obtain ⟨z4, hz4⟩ : ∃ k, k = min K4.size 9000 := ⟨_, rfl⟩
        have a4 : min (K4.size : Int) 9000 = (z4 : Int) := by omega
        have c4 : z4 ≤ 9000 := by omega
        obtain ⟨z5, hz5⟩ : ∃ k, k = min K5.size 9000 := ⟨_, rfl⟩
        have a5 : min (K5.size : Int) 9000 = (z5 : Int) := by omega
        have c5 : z5 ≤ 9000 := by omega
        obtain ⟨z6, hz6⟩ : ∃ k, k = min K6.size 9000 := ⟨_, rfl⟩
        have a6 : min (K6.size : Int) 9000 = (z6 : Int) := by omega
        have c6 : z6 ≤ 9000 := by omega
        clear hz1 s1 hz2 s2 hz3 s3 hz4 s4 hz5 s5 hz6 s6
        clear HRI
        go_quiet (fail)
        go_wp2_with fail
        go_roundw
        case rel => exact ⟨i + 1, n + z1 + z2 + z3 + z4 + z5 + z6, by go_num, congrArg (Value.int .i64) (wrap6 (by omega)), by omega, by omega, by omega, low_drewN' HB2.out _⟩
        case measure => simp [intOf]; omega
      · go_wp2_with fail
        · go_ret
          exact ⟨greatIs_or _, HLOW.out⟩
        · go_ret
          exact ⟨greatIs_yes, HLOW.out⟩
    · go_wp2_with fail
      · go_ret
        exact ⟨greatIs_or _, HLOW.out⟩
      · go_ret
        exact ⟨greatIs_yes, HLOW.out⟩
end Go.Proofs.YtaooangnnlopcaaGreatDoor
