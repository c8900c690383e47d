/- The reference's line of a command: signed, written, Line. (Under way.) -/
import Derived.Test.YtofpaooaiafpbaaGreatDoorLineLine
namespace Go.Proofs.YtofpaooaiafpbaaGreatDoor
open Go.RowKit Go.ChangeMaps Go.MapKept

set_option maxRecDepth 100000 in
set_option maxHeartbeats 1000000 in
theorem signed_any (n : Int) (h0 : -9223372036854775808 ≤ n) (h1 : n ≤ 9223372036854775807) (w : World) :
    Calls Tryz.prog 59 #[.int .i64 n] w fun e w' => e = .returned (sv (Lib.itoa n)) ∧ w = w' := by
  by_cases hn : n < 0
  · have hw1 : IntKind.u64.wrap n = n + 18446744073709551616 := by rw [IntKind.wrap_u64]; omega
    have hw2 : IntKind.u64.wrap (-(n + 18446744073709551616)) = -n := by rw [IntKind.wrap_u64]; omega
    have hc := refText_any (-n) (by omega) (by omega) w
    have hd : Lib.itoa n = 45 :: Lib.decDigits (-n).toNat := by unfold Lib.itoa; rw [if_pos hn, show n.natAbs = (-n).toNat from by omega]
    have hl : (Lib.decDigits (-n).toNat).length ≤ 20 := dec_short _ (by omega)
    rw [hd]
    generalize Lib.decDigits (-n).toNat = D at *
    have hcat := fun W => cat_sv [45] D (by simp; omega) W
    have hd' : decide (n < 0) = true := by rw [decide_eq_true_eq]; exact hn
    have HC := Lib.hid hc
    clear hc hd
    go_enter Tryz.func59, Tryz.ntmps59
    go_wp2_with fail
    refine HC.out.mono ?_
    rintro e w' ⟨rfl, rfl⟩
    go_wp2_with fail
    go_ret
    exact ⟨rfl, rfl⟩
  · have hw1 : IntKind.u64.wrap n = n := by rw [IntKind.wrap_u64]; omega
    have hc := refText_any n (by omega) (by omega) w
    have hd : Lib.itoa n = Lib.decDigits n.toNat := by unfold Lib.itoa; rw [if_neg hn]
    rw [hd]
    generalize Lib.decDigits n.toNat = D at *
    have HC := Lib.hid hc
    clear hc hd
    go_enter Tryz.func59, Tryz.ntmps59
    go_wp2_with fail
    refine HC.out.mono ?_
    rintro e w' ⟨rfl, rfl⟩
    go_wp2_with fail
    go_ret
    exact ⟨rfl, rfl⟩

theorem step_callG {P : Program} {w : World} {ops : Array Oper} {o : Oper} {a : Act} {K : Act → World → Prop} {Q : Exit → Act → World → Prop} {E : Prop} (hw : Region.wanted o (yielded ops a.tmps) = true) (f : Nat) (args : Array Value) (hrun : (execOp a.eval o).run P w = .ok (.enter f args) w)
    {R : Ending → World → Prop} (hC : Calls P f args w R) (hR : ∀ e w', R e w' → ∃ v, e = .returned v ∧ K (a.put o.dst v) w') :
    if Region.wanted o (yielded ops a.tmps) = true then Oper.wp P o a w K Q else E := by
  rw [if_pos hw]
  unfold Oper.wp
  rw [hrun, Oper.upon_enter]
  refine hC.mono fun e w' hr => ?_
  obtain ⟨v, rfl, hk⟩ := hR e w' hr
  exact hk
theorem drewB {B : Nat} {w w' : World} (h : Below B w w') : Below B w w'.drew := ⟨h.os, h.tape, h.output, h.size, h.block⟩
/-- Words, a blank ahead of each. -/
def flatW (L : List (List UInt8)) : List UInt8 := (L.map (fun x => 32 :: x)).flatten
theorem flatW_snoc (L : List (List UInt8)) (x : List UInt8) : flatW (L ++ [x]) = flatW L ++ 32 :: x := by simp [flatW]
theorem flatW_append (L M : List (List UInt8)) : flatW (L ++ M) = flatW L ++ flatW M := by simp [flatW]
theorem join_flat (x : List UInt8) (L : List (List UInt8)) : Lib.join (x :: L) [32] = x ++ flatW L := by
  rw [Lib.join_cons]
  rfl

set_option maxRecDepth 100000 in
set_option maxHeartbeats 3200000 in
theorem written_no (k : Value) (a1 : Option Addr) (n1 c1 : Nat) (hk : k = .slice a1 n1 c1) (c : Cmd) (w : World) (hv : ¬ (c.verb ≠ 0 ∧ c.verb < 14)) (hv2 : c.verb < 256) : Calls Tryz.prog 33 #[cmdV k c] w fun e w' => e = .returned (sv []) ∧ Below w.heap.size w w' := by
  subst hk
  by_cases h0 : c.verb = 0
  · have hd : decide ((c.verb : Int) < 1) = true := by rw [decide_eq_true_eq]; omega
    have HV := Lib.hid (And.intro hv h0)
    clear hv h0
    go_enter Tryz.func33, Tryz.ntmps33
    go_wp2_with fail
    go_quiet (fail)
    go_wp2_with fail
    go_ret
    exact ⟨rfl, below_drewN ((Below.refl _ _).alloc (Nat.le_refl _) _) _⟩
  · have hd : decide ((c.verb : Int) < 1) = false := by rw [decide_eq_false_iff_not]; omega
    have hd2 : decide ((13 : Int) < (c.verb : Int)) = true := by rw [decide_eq_true_eq]; omega
    have hd3 : decide (13 < c.verb) = true := by rw [decide_eq_true_eq]; omega
    have hd4 : IntKind.i64.wrap (c.verb : Int) = (c.verb : Int) := IntWalk.i64_in _ (by omega)
    have HV := Lib.hid (And.intro hv h0)
    clear hv h0
    go_enter Tryz.func33, Tryz.ntmps33
    go_wp2_with fail
    go_region_law
      (first
        | (refine step_callG (by go_simp; done) 49 #[] (by go_simp; done) (refNames_any _) ?_; rintro e w2 ⟨rfl, rfl⟩; refine ⟨_, rfl, ?_⟩)
        | fail)
    all_goals go_wp2_with fail
    all_goals go_ret
    all_goals exact ⟨rfl, drewB (((Below.refl _ _).alloc (Nat.le_refl _) _).alloc (by simp) _)⟩
theorem cat3 (a b d : List UInt8) : Value.string ((⟨a.toArray⟩ : ByteArray) ++ ⟨b.toArray⟩ ++ ⟨d.toArray⟩) = sv (a ++ b ++ d) := sv_of (by rw [bs_append, bs_append])
theorem flatW_take (L : List (List UInt8)) (i : Nat) : (flatW (L.take i)).length ≤ (flatW L).length := by
  have h : flatW L = flatW (L.take i) ++ flatW (L.drop i) := by rw [← flatW_append, List.take_append_drop]
  rw [h, List.length_append]; omega
theorem flatW_mem {L : List (List UInt8)} {x : List UInt8} (h : x ∈ L) : x.length ≤ (flatW L).length := by
  obtain ⟨a, b, rfl⟩ := List.append_of_mem h
  simp [flatW]; omega
/-- The texts of the first i fields. -/
def fieldsTo (c : Cmd) (i : Nat) : List (List UInt8) := if 0 < leastOf c.verb ∨ c.exp ≠ 0 then ((restOf c.verb).take i).map (textF c) else []
theorem fieldsTo_next {c : Cmd} {i f : Nat} (hG : 0 < leastOf c.verb ∨ c.exp ≠ 0) (hf : (restOf c.verb)[i]? = some f) : fieldsTo c (i + 1) = fieldsTo c i ++ [textF c f] := by
  unfold fieldsTo
  rw [if_pos hG, if_pos hG, List.take_add_one, hf]
  simp
theorem flatW_le {L : List (List UInt8)} {k : Nat} (h : ∀ x ∈ L, x.length ≤ k) : (flatW L).length ≤ L.length * (k + 1) := by
  induction L with
  | nil => simp [flatW]
  | cons x L ih =>
    have h1 := h x (by simp)
    have h2 := ih (fun y hy => h y (by simp [hy]))
    simp only [flatW, List.map_cons, List.flatten_cons, List.length_append, List.length_cons] at *
    rw [Nat.add_mul]; omega
theorem fieldsTo_len {c : Cmd} (hc : OkCmd c) (i : Nat) : (flatW (fieldsTo c i)).length ≤ 1000 := by
  have h1 : (fieldsTo c i).length ≤ 4 := by
    have := rest_len c.verb
    unfold fieldsTo
    split
    · simp; omega
    · simp
  have h2 := flatW_le (L := fieldsTo c i) (k := 21) (fun x hx => by
    unfold fieldsTo at hx
    split at hx
    · obtain ⟨f, _, rfl⟩ := List.mem_map.1 hx; exact textF_len hc f
    · simp at hx)
  have : (fieldsTo c i).length * 22 ≤ 4 * 22 := Nat.mul_le_mul_right _ h1
  omega
theorem lead_of {v i : Nat} (f : Nat) (hf : (restOf v)[i]? = some f) (h1 : f ≠ 1) : 0 < leastOf v := by
  have hm := List.mem_of_getElem? hf
  by_cases hv : v < 14
  · have : ∀ v < 14, ∀ f ∈ restOf v, f ≠ 1 → 0 < leastOf v := by decide
    exact this v hv f hm h1
  · simp [restOf, List.getD_eq_getElem?_getD, List.getElem?_eq_none (l := [[], [], [], [0, 1, 2], [0, 1, 2], [0, 1, 2], [0, 1, 2, 3], [], [1], [4], [4], [1], [], []]) (i := v) (by simp; omega)] at hm
theorem lead_exp {v i : Nat} (hf : (restOf v)[i]? = some 1) (h11 : v ≠ 11) : 0 < leastOf v := by
  have hm := List.mem_of_getElem? hf
  by_cases hv : v < 14
  · have : ∀ v < 14, 1 ∈ restOf v → v ≠ 11 → 0 < leastOf v := by decide
    exact this v hv hm h11
  · simp [restOf, List.getD_eq_getElem?_getD, List.getElem?_eq_none (l := [[], [], [], [0, 1, 2], [0, 1, 2], [0, 1, 2], [0, 1, 2, 3], [], [1], [4], [4], [1], [], []]) (i := v) (by simp; omega)] at hm
theorem lineS_is (c : Cmd) (nm : List UInt8) (h : nm = names.getD (c.verb - 1) []) : lineS c = nm ++ flatW c.keys ++ flatW ((fieldsOf c).map (textF c)) ++ flatW (if c.quiet then [noreply] else []) := by
  subst h
  unfold lineS lineW
  rw [List.cons_append, List.cons_append, join_flat, flatW_append, flatW_append]
  simp

set_option maxRecDepth 100000 in
set_option maxHeartbeats 6400000 in
theorem written_yes {BB : Nat} {kv : Value} {c : Cmd} {w : World} (hk : Strs w BB kv c.keys) (hc : OkCmd c) (hlen : (lineS c).length ≤ 1048576) (hkl : c.keys.length ≤ 1048576) (h0 : c.verb ≠ 0) (h14 : c.verb < 14) :
    Calls Tryz.prog 33 #[cmdV kv c] w fun e w' => e = .returned (sv (lineS c)) ∧ Below w.heap.size w w' := by
  obtain ⟨ka, kc, hka⟩ := hk.len
  rw [List.length_map] at hka
  have HK := Lib.hid hk
  have HC := Lib.hid hc
  have HLEN := Lib.hid hlen
  have HKA := Lib.hid hka
  rw [hka]
  clear hk hc hlen hka
  have hd : decide ((c.verb : Int) < 1) = false := by rw [decide_eq_false_iff_not]; omega
  have hd2 : decide ((13 : Int) < (c.verb : Int)) = false := by rw [decide_eq_false_iff_not]; omega
  have hd3 : decide (13 < c.verb) = false := by rw [decide_eq_false_iff_not]; omega
  have hd4 : IntKind.i64.wrap (c.verb : Int) = (c.verb : Int) := IntWalk.i64_in _ (by omega)
  go_enter Tryz.func33, Tryz.ntmps33
  go_wp2_with fail
  go_upto_region 1 with fail
  have hbox : (w.alloc (.cells (cmdCells (.slice ka c.keys.length kc) c).toArray 34)).heap[w.heap.size]? = some (.cells (cmdCells (.slice ka c.keys.length kc) c).toArray 34 (0, 0)) := heap_alloc_new _ _
  have hb1 := (Below.refl w.heap.size w).alloc (Nat.le_refl _) (.cells (cmdCells (.slice ka c.keys.length kc) c).toArray 34)
  generalize w.alloc (.cells (cmdCells (.slice ka c.keys.length kc) c).toArray 34) = W1 at *
  have v0 : W1.cell? ⟨w.heap.size, 0, none⟩ = some (.int .u8 (c.verb : Int)) := (block_cell hbox 0).1
  have HBOX := Lib.hid hbox
  have HB1 := Lib.hid hb1
  have hz1 := lt_of_block hbox
  clear hbox hb1
  go_cut [17] (fun s17 wx => ∃ W2, W2 = wx ∧ s17 = .bool false ∧ Below W1.heap.size W1 W2)
  case first =>
    have v1 : ∀ ob : Obj, (W1.alloc ob).cell? ⟨w.heap.size, 0, none⟩ = some (.int .u8 (c.verb : Int)) := fun ob => (((Below.refl W1.heap.size W1).alloc (Nat.le_refl _) ob).cell (p := ⟨w.heap.size, 0, none⟩) hz1).trans v0
    go_region_law
      (first
        | (refine step_callG (by go_simp; done) 49 #[] (by go_simp; done) (refNames_any _) ?_; rintro e w2 ⟨rfl, rfl⟩; refine ⟨_, rfl, ?_⟩)
        | fail)
    all_goals go_wp2_with fail
    all_goals go_meet
    case rel => exact ⟨_, rfl, rfl, drewB ((Below.refl _ _).alloc (Nat.le_refl _) _)⟩
    case rel => exact ⟨_, rfl, rfl, drewB ((Below.refl _ _).alloc (Nat.le_refl _) _)⟩
  case rest =>
    obtain ⟨W2, rfl, rfl, hb12⟩ := hcut
    have hbox2 := (hb12.block _ hz1).trans HBOX.out
    have v2 : W2.cell? ⟨w.heap.size, 0, none⟩ = some (.int .u8 (c.verb : Int)) := (block_cell hbox2 0).1
    have hz2 := lt_of_block hbox2
    have HB12 := Lib.hid hb12
    have HBOX2 := Lib.hid hbox2
    clear hb12 hbox2 v0
    have hi1 : IntKind.i64.wrap ((c.verb : Int) - 1) = (c.verb : Int) - 1 := IntWalk.i64_in _ (by omega)
    go_upto_region 3 with fail
    go_cut [3] (fun s3 wx => ∃ W3, W3 = wx ∧ s3 = sv (names.getD (c.verb - 1) []) ∧ Below W2.heap.size W2 W3)
    case first =>
      have v3 : ∀ ob : Obj, (W2.alloc ob).cell? ⟨w.heap.size, 0, none⟩ = some (.int .u8 (c.verb : Int)) := fun ob => (((Below.refl W2.heap.size W2).alloc (Nat.le_refl _) ob).cell (p := ⟨w.heap.size, 0, none⟩) hz2).trans v2
      have hnc : (W2.alloc (.cells (names.map sv).toArray 9)).cell? ⟨W2.heap.size, c.verb - 1, none⟩ = some (sv (names.getD (c.verb - 1) [])) := by
        rw [(block_cell (heap_alloc_new _ _) (c.verb - 1)).1]
        have hl : c.verb - 1 < names.length := by show _ < 13; omega
        simp [List.getElem?_eq_getElem hl]
      generalize names.getD (c.verb - 1) [] = nm at *
      have hix : ∀ W : World, (Instr.indexAt 24 (.slice (some ⟨W2.heap.size, 0, none⟩) 13 13) (.int .i64 ((c.verb : Int) - 1))).run Tryz.prog W = .ok (.pointer (some ⟨W2.heap.size, c.verb - 1, none⟩)) W := fun W => by
        have h := idx_str' (a := some ⟨W2.heap.size, 0, none⟩) (n := 13) (c := 13) (k := c.verb - 1) rfl (by omega) W
        rwa [show ((c.verb - 1 : Nat) : Int) = (c.verb : Int) - 1 from by omega, Nat.zero_add] at h
      go_region_law
        (first
          | (refine step_callG (by go_simp; done) 49 #[] (by go_simp; done) (refNames_any _) ?_; rintro e w2 ⟨rfl, rfl⟩; refine ⟨_, rfl, ?_⟩)
          | fail)
      all_goals go_wp2_with fail
      all_goals go_meet
      case rel => exact ⟨_, rfl, rfl, drewB ((Below.refl _ _).alloc (Nat.le_refl _) _)⟩
      case rel => exact ⟨_, rfl, rfl, drewB ((Below.refl _ _).alloc (Nat.le_refl _) _)⟩
    case rest =>
      obtain ⟨W3, rfl, rfl, hb23⟩ := hcut
      have hbox3 := (hb23.block _ hz2).trans HBOX2.out
      have hBall : Below w.heap.size w W3 := HB1.out.trans ((HB12.out.mono (by omega)).trans (hb23.mono (by omega)))
      have hk3 := strs_below HK.out hBall
      rw [HKA.out] at hk3
      have k0 : W3.cell? ⟨w.heap.size, 0, none⟩ = some (.int .u8 (c.verb : Int)) := (block_cell hbox3 0).1
      have k1 : W3.cell? ⟨w.heap.size, 1, none⟩ = some (.slice ka c.keys.length kc) := (block_cell hbox3 1).1
      have hls := lineS_is c _ rfl
      have hll := HLEN.out
      generalize names.getD (c.verb - 1) [] = nm at *
      have hL0 : nm.length + (flatW c.keys).length + (flatW ((fieldsOf c).map (textF c))).length + (flatW (if c.quiet then [noreply] else [])).length ≤ 1048576 := by rw [hls] at hll; simp only [List.length_append] at hll; omega
      have HLS := Lib.hid hls
      have HBALL := Lib.hid hBall
      have HK3 := Lib.hid hk3
      have HBOX3 := Lib.hid hbox3
      clear hb23 hbox3 hBall hk3 hls hll v2
      go_wp2_with fail
      go_loop [3, 4] (fun s3 s4 => ∃ i : Nat, i ≤ c.keys.length ∧ s4 = .int .i64 i ∧ s3 = sv (nm ++ flatW (c.keys.take i))) (fun _ s4 => c.keys.length - (intOf s4).toNat)
      case atStart => exact ⟨0, Nat.zero_le _, rfl, by simp [flatW]⟩
      case round =>
        obtain ⟨i, hi, rfl, rfl⟩ := hrel
        by_cases hlt : i < c.keys.length
        · obtain ⟨x, hx⟩ : ∃ x, c.keys[i]? = some x := ⟨_, List.getElem?_eq_getElem hlt⟩
          obtain ⟨g, o, cc, he, _, _, hcell, _⟩ := HK3.out.at (k := i) (x := sv x) (by rw [List.getElem?_map, hx]; rfl)
          have hix : ∀ W : World, (Instr.indexAt 24 (.slice ka c.keys.length kc) (.int .i64 (i : Int))).run Tryz.prog W = .ok (.pointer (some ⟨g, o + i, none⟩)) W := fun W => idx_str' (slice_inj he).1 hlt W
          have hfl := flatW_take c.keys i
          have hnext : nm ++ flatW (c.keys.take (i + 1)) = nm ++ flatW (c.keys.take i) ++ [32] ++ x := by rw [List.take_add_one, hx]; show nm ++ flatW (_ ++ [x]) = _; rw [flatW_snoc]; simp
          have hxl : x.length ≤ 1048576 := by have := flatW_mem (List.mem_of_getElem? hx); omega
          have HN := Lib.hid hnext
          clear he hx hnext
          generalize flatW (c.keys.take i) = F at *
          have hc1 := fun W => cat_sv (nm ++ F) [32] (by simp; omega) W
          have hc2 := fun W => cat_sv (nm ++ F ++ [32]) x (by simp; omega) W
          go_wp2_with fail
          go_round
          case rel => exact ⟨i + 1, by omega, by go_num, by rw [HN.out]; exact cat3 _ [32] x⟩
          case measure => simp [intOf]; omega
        · obtain rfl : i = c.keys.length := by omega
          rw [List.take_length]
          go_wp2_with fail
          refine (refRest_any c.verb h14 W3).mono ?_
          rintro e w' ⟨rfl, rfl⟩
          have hlr : (letters c.verb).length = (restOf c.verb).length := by simp [letters]
          have hr4 := rest_len c.verb
          generalize flatW c.keys = F at *
          go_wp2_with fail
          go_loop [3, 6] (fun s3 s6 => ∃ i : Nat, i ≤ (restOf c.verb).length ∧ s6 = .int .i64 i ∧ s3 = sv (nm ++ F ++ flatW (fieldsTo c i))) (fun _ s6 => (restOf c.verb).length - (intOf s6).toNat)
          case atStart => exact ⟨0, Nat.zero_le _, rfl, by simp [flatW, fieldsTo]⟩
          case round =>
            obtain ⟨i, hi, rfl, rfl⟩ := hrel
            by_cases hlt : i < (restOf c.verb).length
            · obtain ⟨f, hf⟩ : ∃ f, (restOf c.verb)[i]? = some f := ⟨_, List.getElem?_eq_getElem hlt⟩
              have hf5 : f < 5 := rest_lt (List.mem_of_getElem? hf)
              have hfl : (flatW (fieldsTo c i)).length ≤ 1000 := fieldsTo_len HC.out i
              have hnext : (0 < leastOf c.verb ∨ c.exp ≠ 0) → nm ++ F ++ flatW (fieldsTo c (i + 1)) = nm ++ F ++ flatW (fieldsTo c i) ++ [32] ++ textF c f := fun hG => by
                rw [fieldsTo_next hG hf, flatW_snoc]; simp
              have HF := Lib.hid hf
              clear hf
              match f, hf5 with
              | 0, _ =>
                have hidx : ∀ W : World, (Instr.index 9 (sv (letters c.verb)) (.int .i64 (i : Int))).run Tryz.prog W = .ok (.int .u8 102) W := fun W => index_sv (c := 102) (by simp [letters, HF.out]; rfl) W
                have hcall := refText_any (c.flags : Int) (by omega) (by have := HC.out.flags; omega) W3
                rw [Int.toNat_natCast] at hcall
                rw [show Lib.decDigits c.flags = textF c 0 from rfl] at hcall
                have hw64 : IntKind.u64.wrap (c.flags : Int) = (c.flags : Int) := le_small (by have := HC.out.flags; omega)
                have k5 : W3.cell? ⟨w.heap.size, 5, none⟩ = some (.int .u32 (c.flags : Int)) := (block_cell HBOX3.out 5).1
                have hxl := textF_len HC.out 0
                generalize hT : textF c 0 = T at *
                have HCALL := Lib.hid hcall
                have hnx := hnext (Or.inl (lead_of 0 HF.out (by decide)))
                have HN := Lib.hid hnx
                clear hcall hT hnx hnext
                generalize flatW (fieldsTo c i) = S at *
                go_wp2_with fail
                refine HCALL.out.mono ?_
                rintro e w' ⟨rfl, rfl⟩
                go_wp2_with fail
                go_round
                case rel => exact ⟨i + 1, by omega, by go_num, by rw [HN.out, List.append_assoc nm F S]; exact cat3 _ [32] _⟩
                case measure => simp [intOf]; omega
              | 1, _ =>
                have hidx : ∀ W : World, (Instr.index 9 (sv (letters c.verb)) (.int .i64 (i : Int))).run Tryz.prog W = .ok (.int .u8 101) W := fun W => index_sv (c := 101) (by simp [letters, HF.out]; rfl) W
                have k6 : W3.cell? ⟨w.heap.size, 6, none⟩ = some (.int .i64 c.exp) := (block_cell HBOX3.out 6).1
                by_cases hG : c.verb = 11 ∧ c.exp = 0
                · have g1 : ((c.verb : Int) != 11) = false := by rw [hG.1]; rfl
                  have g1' : ((c.verb : Int) == 11) = true := by rw [hG.1]; rfl
                  have g2 : (c.exp != 0) = false := by rw [hG.2]; rfl
                  have g2' : (c.exp == 0) = true := by rw [hG.2]; rfl
                  have hsame : flatW (fieldsTo c (i + 1)) = flatW (fieldsTo c i) := by unfold fieldsTo; rw [if_neg, if_neg] <;> (rw [hG.1, hG.2]; decide)
                  have HN := Lib.hid hsame
                  clear hsame hnext hG
                  generalize flatW (fieldsTo c i) = S at *
                  go_wp2_with fail
                  go_round
                  case rel => exact ⟨i + 1, by omega, by go_num, by rw [HN.out]⟩
                  case measure => simp [intOf]; omega
                · by_cases h11 : c.verb = 11
                  · have hcall := signed_any c.exp HC.out.exp0 HC.out.exp1 W3
                    rw [show Lib.itoa c.exp = textF c 1 from rfl] at hcall
                    have hne : c.exp ≠ 0 := fun h => hG ⟨h11, h⟩
                    have g1 : ((c.verb : Int) != 11) = false := by rw [h11]; rfl
                    have g1' : ((c.verb : Int) == 11) = true := by rw [h11]; rfl
                    have g2 : (c.exp != 0) = true := by simp [hne]
                    have g2' : (c.exp == 0) = false := by simp [hne]
                    have hxl := textF_len HC.out 1
                    generalize hT : textF c 1 = T at *
                    have HCALL := Lib.hid hcall
                    have hnx := hnext (Or.inr hne)
                    have HN := Lib.hid hnx
                    have H11 := Lib.hid h11
                    clear hcall hT hnx hnext hG h11
                    generalize flatW (fieldsTo c i) = S at *
                    go_wp2_with fail
                    refine HCALL.out.mono ?_
                    rintro e w' ⟨rfl, rfl⟩
                    go_wp2_with fail
                    go_round
                    case rel => exact ⟨i + 1, by omega, by go_num, by rw [HN.out, List.append_assoc nm F S]; exact cat3 _ [32] _⟩
                    case measure => simp [intOf]; omega
                  · have hcall := signed_any c.exp HC.out.exp0 HC.out.exp1 W3
                    rw [show Lib.itoa c.exp = textF c 1 from rfl] at hcall
                    have g1 : ((c.verb : Int) != 11) = true := by rw [bne_iff_ne]; omega
                    have g1' : ((c.verb : Int) == 11) = false := by rw [beq_eq_false_iff_ne]; omega
                    have hxl := textF_len HC.out 1
                    generalize hT : textF c 1 = T at *
                    have HCALL := Lib.hid hcall
                    have hnx := hnext (Or.inl (lead_exp HF.out h11))
                    have HN := Lib.hid hnx
                    have H11 := Lib.hid h11
                    clear hcall hT hnx hnext hG h11
                    generalize flatW (fieldsTo c i) = S at *
                    go_wp2_with fail
                    refine HCALL.out.mono ?_
                    rintro e w' ⟨rfl, rfl⟩
                    go_wp2_with fail
                    go_round
                    case rel => exact ⟨i + 1, by omega, by go_num, by rw [HN.out, List.append_assoc nm F S]; exact cat3 _ [32] _⟩
                    case measure => simp [intOf]; omega
              | 2, _ =>
                have hidx : ∀ W : World, (Instr.index 9 (sv (letters c.verb)) (.int .i64 (i : Int))).run Tryz.prog W = .ok (.int .u8 98) W := fun W => index_sv (c := 98) (by simp [letters, HF.out]; rfl) W
                have hcall := signed_any c.bytes HC.out.bytes0 HC.out.bytes1 W3
                rw [show Lib.itoa c.bytes = textF c 2 from rfl] at hcall
                have k9 : W3.cell? ⟨w.heap.size, 9, none⟩ = some (.int .i64 c.bytes) := (block_cell HBOX3.out 9).1
                have hxl := textF_len HC.out 2
                generalize hT : textF c 2 = T at *
                have HCALL := Lib.hid hcall
                have hnx := hnext (Or.inl (lead_of 2 HF.out (by decide)))
                have HN := Lib.hid hnx
                clear hcall hT hnx hnext
                generalize flatW (fieldsTo c i) = S at *
                go_wp2_with fail
                refine HCALL.out.mono ?_
                rintro e w' ⟨rfl, rfl⟩
                go_wp2_with fail
                go_round
                case rel => exact ⟨i + 1, by omega, by go_num, by rw [HN.out, List.append_assoc nm F S]; exact cat3 _ [32] _⟩
                case measure => simp [intOf]; omega
              | 3, _ =>
                have hidx : ∀ W : World, (Instr.index 9 (sv (letters c.verb)) (.int .i64 (i : Int))).run Tryz.prog W = .ok (.int .u8 105) W := fun W => index_sv (c := 105) (by simp [letters, HF.out]; rfl) W
                have hcall := refText_any (c.id : Int) (by omega) (by have := HC.out.id; omega) W3
                rw [Int.toNat_natCast] at hcall
                rw [show Lib.decDigits c.id = textF c 3 from rfl] at hcall
                have k7 : W3.cell? ⟨w.heap.size, 7, none⟩ = some (.int .u64 (c.id : Int)) := (block_cell HBOX3.out 7).1
                have hxl := textF_len HC.out 3
                generalize hT : textF c 3 = T at *
                have HCALL := Lib.hid hcall
                have hnx := hnext (Or.inl (lead_of 3 HF.out (by decide)))
                have HN := Lib.hid hnx
                clear hcall hT hnx hnext
                generalize flatW (fieldsTo c i) = S at *
                go_wp2_with fail
                refine HCALL.out.mono ?_
                rintro e w' ⟨rfl, rfl⟩
                go_wp2_with fail
                go_round
                case rel => exact ⟨i + 1, by omega, by go_num, by rw [HN.out, List.append_assoc nm F S]; exact cat3 _ [32] _⟩
                case measure => simp [intOf]; omega
              | 4, _ =>
                have hidx : ∀ W : World, (Instr.index 9 (sv (letters c.verb)) (.int .i64 (i : Int))).run Tryz.prog W = .ok (.int .u8 121) W := fun W => index_sv (c := 121) (by simp [letters, HF.out]; rfl) W
                have hcall := refText_any (c.by' : Int) (by omega) (by have := HC.out.by'; omega) W3
                rw [Int.toNat_natCast] at hcall
                rw [show Lib.decDigits c.by' = textF c 4 from rfl] at hcall
                have k8 : W3.cell? ⟨w.heap.size, 8, none⟩ = some (.int .u64 (c.by' : Int)) := (block_cell HBOX3.out 8).1
                have hxl := textF_len HC.out 4
                generalize hT : textF c 4 = T at *
                have HCALL := Lib.hid hcall
                have hnx := hnext (Or.inl (lead_of 4 HF.out (by decide)))
                have HN := Lib.hid hnx
                clear hcall hT hnx hnext
                generalize flatW (fieldsTo c i) = S at *
                go_wp2_with fail
                refine HCALL.out.mono ?_
                rintro e w' ⟨rfl, rfl⟩
                go_wp2_with fail
                go_round
                case rel => exact ⟨i + 1, by omega, by go_num, by rw [HN.out, List.append_assoc nm F S]; exact cat3 _ [32] _⟩
                case measure => simp [intOf]; omega
            · obtain rfl : i = (restOf c.verb).length := by omega
              have hff : fieldsTo c (restOf c.verb).length = (fieldsOf c).map (textF c) := by unfold fieldsTo fieldsOf; split <;> simp
              rw [hff]
              have HLS2 := HLS.out
              have hq10 : W3.cell? ⟨w.heap.size, 10, none⟩ = some (.bool c.quiet) := (block_cell HBOX3.out 10).1
              generalize flatW ((fieldsOf c).map (textF c)) = G at *
              cases hq : c.quiet
              · rw [hq] at hq10 HLS2
                have HL2 := Lib.hid HLS2
                clear hq hff HLS2 hL0
                go_wp2_with fail
                go_ret
                exact ⟨by rw [HL2.out]; simp [flatW], HBALL.out⟩
              · rw [hq] at hq10 HLS2
                have HL2 := Lib.hid HLS2
                have hL1 : nm.length + F.length + G.length + 9 ≤ 1048600 := by omega
                clear hq hff HLS2 hL0
                go_wp2_with fail
                go_ret
                exact ⟨by rw [HL2.out]; exact ret_congr (sv_of (by rw [bs_append]; simp [flatW, noreply, bs])), HBALL.out⟩
end Go.Proofs.YtofpaooaiafpbaaGreatDoor
