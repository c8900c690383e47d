/- The law LinesLine returns true at every command. Conditions: strings that strings may be; MaxLen, ErrRange, the powers of ten as they must be. (Printed by genll.py.) -/
import Derived.Test.YtofpaooaiafpbaaGreatDoorLinesParse
import Derived.Test.YtofpaooaiafpbaaGreatDoorLineRefLine2
namespace Go.Proofs.YtofpaooaiafpbaaGreatDoor
open Go.RowKit Go.ChangeMaps Go.MapKept

/-- The lengths of the keys, none counted beyond 40000. -/
def minSum (L : List (List UInt8)) : Nat := (L.map (fun x => min x.length 40000)).sum
theorem minSum_snoc (L : List (List UInt8)) (x : List UInt8) : minSum (L ++ [x]) = minSum L + min x.length 40000 := by simp [minSum]
theorem minSum_le (L : List (List UInt8)) : minSum L ≤ 40000 * L.length := by
  induction L with
  | nil => simp [minSum]
  | cons x L ih => simp only [minSum, List.map_cons, List.sum_cons, List.length_cons] at *; omega
theorem minSum_flat {L : List (List UInt8)} (h : minSum L ≤ 30000) : (flatW L).length = minSum L + L.length := by
  induction L with
  | nil => simp [minSum, flatW]
  | cons x L ih =>
    have h1 : minSum (x :: L) = min x.length 40000 + minSum L := by simp [minSum]
    rw [h1] at h ⊢
    have := ih (by omega)
    rw [flatW_cons]
    simp only [List.cons_append, List.length_cons, List.length_append]
    omega
theorem name_len : ∀ v : Nat, (names.getD (v - 1) []).length ≤ 9 := by
  intro v
  by_cases h : v < 14
  · exact (by decide : ∀ v < 14, (names.getD (v - 1) []).length ≤ 9) v h
  · rw [List.getD_eq_getElem?_getD, List.getElem?_eq_none (by show 13 ≤ v - 1; omega)]; simp
theorem lineS_short {c : Cmd} (hc : OkCmd c) (h : minSum c.keys ≤ 30000) (hk : c.keys.length ≤ 100) : (lineS c).length ≤ 40000 := by
  rw [lineS_is c _ rfl]
  have h1 := name_len c.verb
  have h2 := minSum_flat h
  have h3 := fieldsTo_len hc (restOf c.verb).length
  have h4 : fieldsTo c (restOf c.verb).length = (fieldsOf c).map (textF c) := by unfold fieldsTo fieldsOf; split <;> simp
  rw [h4] at h3
  have h5 : (flatW (if c.quiet then [noreply] else [])).length ≤ 8 := by cases c.quiet <;> decide
  simp only [List.length_append]
  omega
theorem own_cells0 {w : World} {B n c : Nat} {ad : Addr} {L : List (List UInt8)} (h : Strs w B (.slice (some ad) n c) L) (j : Nat) (x : Value) (hx : (L.map sv)[j]? = some x) : w.cell? (ad.add j) = some x := by
  obtain ⟨a, c', he, _, _, _, h4⟩ := h
  rcases h4 with h4 | ⟨g, o, ha, _, h5⟩
  · rw [h4] at hx; simp at hx
  · have h1 := (slice_inj he).1
    rw [ha] at h1
    cases h1
    rw [show (⟨g, o, none⟩ : Addr).add j = ⟨g, o + j, none⟩ from Addr.add_mid g o j]
    exact (h5 j x hx).1
/-- What the law holds of the world. -/
structure LInv (w : World) (BB : Nat) (c : Cmd) (ka : Option Addr) (kc : Nat) (B2 : Nat) (oa : Option Addr) (oc : Nat) (W : World) : Prop where
  keys : Strs W BB (.slice ka c.keys.length kc) c.keys
  copy : Strs W B2 (.slice oa c.keys.length oc) c.keys
  len : HasLen W
  err : HasErr W
  pow : HasPow W
  below : Below w.heap.size w W
theorem LInv.keep {w : World} {BB : Nat} {c : Cmd} {ka oa : Option Addr} {kc B2 oc : Nat} {W W' : World} (h : LInv w BB c ka kc B2 oa oc W) (hb : Below W.heap.size W W') : LInv w BB c ka kc B2 oa oc W' :=
  ⟨strs_below h.keys hb, strs_below h.copy hb, h.len.below hb, h.err.below hb, h.pow.below hb, h.below.trans (hb.mono h.below.size)⟩
theorem LInv.same {w : World} {BB : Nat} {c : Cmd} {ka oa : Option Addr} {kc B2 oc : Nat} {W : World} (h : LInv w BB c ka kc B2 oa oc W) :
    Calls Tryz.prog 9 #[cmdV (.slice ka c.keys.length kc) c, cmdV (.slice oa c.keys.length oc) c] W fun e w' => e = .returned (.bool true) ∧ Below W.heap.size W w' := by
  have h1 := lawSame_any (a := c) (b := c) h.keys h.copy
  rw [(sameC_iff c c).2 rfl] at h1
  exact h1
theorem LInv.lives {w : World} {BB : Nat} {c : Cmd} {ka oa : Option Addr} {kc B2 oc : Nat} {W : World} (h : LInv w BB c ka kc B2 oa oc W) :
    Calls Tryz.prog 6 #[] W fun e w' => e = .returned (.bool true) ∧ Below W.heap.size W w' := lives29 W h.len h.err h.pow
def HeldLine (w : World) (BB : Nat) (c : Cmd) (ka : Option Addr) (kc r2 B2 : Nat) (oa : Option Addr) (oc : Nat) (W : World) : Prop := W.cell? ⟨w.heap.size, 0, none⟩ = some (.int .u8 (c.verb : Int)) ∧ W.cell? ⟨w.heap.size, 1, none⟩ = some (.slice ka c.keys.length kc) ∧ W.cell? ⟨w.heap.size, 2, none⟩ = some (.int .u8 (c.cverb : Int)) ∧ W.cell? ⟨w.heap.size, 3, none⟩ = some (sv c.key) ∧ W.cell? ⟨w.heap.size, 4, none⟩ = some (sv c.value) ∧ W.cell? ⟨w.heap.size, 5, none⟩ = some (.int .u32 (c.flags : Int)) ∧ W.cell? ⟨w.heap.size, 6, none⟩ = some (.int .i64 c.exp) ∧ W.cell? ⟨w.heap.size, 7, none⟩ = some (.int .u64 (c.id : Int)) ∧ W.cell? ⟨w.heap.size, 8, none⟩ = some (.int .u64 (c.by' : Int)) ∧ W.cell? ⟨w.heap.size, 9, none⟩ = some (.int .i64 c.bytes) ∧ W.cell? ⟨w.heap.size, 10, none⟩ = some (.bool c.quiet) ∧ W.cell? ⟨r2, 0, none⟩ = some (.int .u8 (c.verb : Int)) ∧ W.cell? ⟨r2, 1, none⟩ = some (.slice oa c.keys.length oc) ∧ W.cell? ⟨r2, 2, none⟩ = some (.int .u8 (c.cverb : Int)) ∧ W.cell? ⟨r2, 3, none⟩ = some (sv c.key) ∧ W.cell? ⟨r2, 4, none⟩ = some (sv c.value) ∧ W.cell? ⟨r2, 5, none⟩ = some (.int .u32 (c.flags : Int)) ∧ W.cell? ⟨r2, 6, none⟩ = some (.int .i64 c.exp) ∧ W.cell? ⟨r2, 7, none⟩ = some (.int .u64 (c.id : Int)) ∧ W.cell? ⟨r2, 8, none⟩ = some (.int .u64 (c.by' : Int)) ∧ W.cell? ⟨r2, 9, none⟩ = some (.int .i64 c.bytes) ∧ W.cell? ⟨r2, 10, none⟩ = some (.bool c.quiet) ∧ LInv w BB c ka kc B2 oa oc W
theorem heldLine_keep {w : World} {BB : Nat} {c : Cmd} {ka oa : Option Addr} {kc r2 B2 oc : Nat} {W W' : World} (hb : Below W.heap.size W W') (h : HeldLine w BB c ka kc r2 B2 oa oc W) : HeldLine w BB c ka kc r2 B2 oa oc W' := by
  have hk := fun (p j : Nat) (x : Value) (hx : W.cell? ⟨p, j, none⟩ = some x) => (hb.cell (p := ⟨p, j, none⟩) (cell_lt hx)).trans hx
  obtain ⟨h0, h1, h2, h3, h4, h5, h6, h7, h8, h9, h10, g0, g1, g2, g3, g4, g5, g6, g7, g8, g9, g10, hI⟩ := h
  exact ⟨hk _ _ _ h0, hk _ _ _ h1, hk _ _ _ h2, hk _ _ _ h3, hk _ _ _ h4, hk _ _ _ h5, hk _ _ _ h6, hk _ _ _ h7, hk _ _ _ h8, hk _ _ _ h9, hk _ _ _ h10, hk _ _ _ g0, hk _ _ _ g1, hk _ _ _ g2, hk _ _ _ g3, hk _ _ _ g4, hk _ _ _ g5, hk _ _ _ g6, hk _ _ _ g7, hk _ _ _ g8, hk _ _ _ g9, hk _ _ _ g10, hI.keep hb⟩

set_option maxRecDepth 100000 in
set_option maxHeartbeats 6400000 in
theorem linesLine_walk {kv : Value} {c : Cmd} {w : World} (hk : Strs w 0 kv c.keys) (hc : OkCmd c) (hx : ∀ x ∈ c.keys, x.length ≤ maxLen) (hky : c.key.length ≤ maxLen) (hvl : c.value.length ≤ maxLen) (hL : HasLen w) (hE : HasErr w) (hP : HasPow w) :
    Calls Tryz.prog 4 #[cmdV kv c] w fun e w' => e = .returned (.bool true) ∧ Below w.heap.size w w' := by
  obtain ⟨i0, hi, hz0, hz1, hz2⟩ := info_parts infoStr
  have Hi := Lib.hid hi
  have Hz := Lib.hid (And.intro hz0 (And.intro hz1 hz2))
  clear hi hz0 hz1 hz2
  obtain ⟨ka, kc, hka⟩ := hk.len
  rw [List.length_map] at hka
  subst hka
  have hn : c.keys.length ≤ maxLen := by have := hk.max; rwa [List.length_map] at this
  unfold maxLen at hn
  have hb1 : Below w.heap.size w (w.alloc (.cells (cmdCells (.slice ka c.keys.length kc) c).toArray 30)) := (Below.refl _ _).alloc (Nat.le_refl _) _
  have hbox : (w.alloc (.cells (cmdCells (.slice ka c.keys.length kc) c).toArray 30)).heap[w.heap.size]? = some (.cells (cmdCells (.slice ka c.keys.length kc) c).toArray 30 (0, 0)) := heap_alloc_new _ _
  have HK := Lib.hid (strs_below hk hb1)
  have HC := Lib.hid hc
  have HX := Lib.hid hx
  have HKY := Lib.hid (And.intro hky hvl)
  have HL := Lib.hid (hL.below hb1)
  have HE := Lib.hid (hE.below hb1)
  have HP := Lib.hid (hP.below hb1)
  have HB1 := Lib.hid hb1
  have HBOX := Lib.hid hbox
  clear hk hc hx hky hvl hL hE hP hb1
  go_enter Tryz.func4, Tryz.ntmps4
  go_wp2_with fail
  generalize w.alloc (.cells (cmdCells (.slice ka c.keys.length kc) c).toArray 30) = W1 at *
  have k1 : W1.cell? ⟨w.heap.size, 1, none⟩ = some (.slice ka c.keys.length kc) := (block_cell hbox 1).1
  clear hbox
  go_loop [3, 4] (fun s3 s4 => ∃ i : Nat, i ≤ c.keys.length ∧ i ≤ 101 ∧ s4 = .int .i64 i ∧ s3 = .int .i64 (minSum (c.keys.take i) : Nat)) (fun _ s4 => 101 - (intOf s4).toNat)
  case atStart => exact ⟨0, Nat.zero_le _, by omega, rfl, rfl⟩
  case round =>
    obtain ⟨i, hi1, hi2, rfl, rfl⟩ := hrel
    have hms : minSum (c.keys.take i) ≤ 40000 * 101 := by
      have h1 := minSum_le (c.keys.take i)
      have h2 : (c.keys.take i).length ≤ 101 := by rw [List.length_take]; omega
      omega
    by_cases hlt : i < c.keys.length
    · by_cases h100 : i ≤ 100
      · obtain ⟨x, hx⟩ : ∃ x, c.keys[i]? = some x := ⟨_, List.getElem?_eq_getElem hlt⟩
        obtain ⟨g, o, cc, he, _, _, hcell, _⟩ := HK.out.at (k := i) (x := sv x) (by rw [List.getElem?_map, hx]; rfl)
        have hix : ∀ W : World, (Instr.indexAt 24 (.slice ka c.keys.length kc) (.int .i64 (i : Int))).run Tryz.prog W = .ok (.pointer (some ⟨g, o + i, none⟩)) W := fun W => idx_str' (slice_inj he).1 hlt W
        have hnext : minSum (c.keys.take (i + 1)) = minSum (c.keys.take i) + min x.length 40000 := by rw [List.take_add_one, hx]; exact minSum_snoc _ _
        have hxl := HX.out x (List.mem_of_getElem? hx)
        unfold maxLen at hxl
        have HN := Lib.hid hnext
        clear he hx hnext
        generalize minSum (c.keys.take i) = T at *
        have hcl : (min x.length 40000 : Nat) ≤ 40000 := Nat.min_le_right _ _
        have hmin : min ((x.length : Nat) : Int) 40000 = ((min x.length 40000 : Nat) : Int) := by omega
        have hif : (if ((x.length : Nat) : Int) ≤ 40000 then ((x.length : Nat) : Int) else 40000) = ((min x.length 40000 : Nat) : Int) := by split <;> omega
        generalize min x.length 40000 = m at *
        go_wp2_with fail
        go_round
        case rel => exact ⟨i + 1, by omega, by omega, by go_num, by rw [HN.out]; go_num⟩
        case measure => simp [intOf]; omega
      · have d1 : decide ((100 : Int) < (c.keys.length : Int)) = true := by rw [decide_eq_true_eq]; omega
        go_wp2_with fail
        refine (lives29 _ HL.out HE.out HP.out).mono ?_
        rintro e w' ⟨rfl, hb⟩
        go_wp2_with fail
        go_ret
        exact ⟨rfl, HB1.out.trans (hb.mono HB1.out.size)⟩
    · obtain rfl : i = c.keys.length := by omega
      rw [List.take_length] at *
      have k3 : W1.cell? ⟨w.heap.size, 3, none⟩ = some (sv c.key) := (block_cell HBOX.out 3).1
      have k4 : W1.cell? ⟨w.heap.size, 4, none⟩ = some (sv c.value) := (block_cell HBOX.out 4).1
      by_cases h1 : 100 < c.keys.length
      · have d1 : decide ((100 : Int) < (c.keys.length : Int)) = true := by rw [decide_eq_true_eq]; omega
        clear h1
        go_wp2_with fail
        refine (lives29 _ HL.out HE.out HP.out).mono ?_
        rintro e w' ⟨rfl, hb⟩
        go_wp2_with fail
        go_ret
        exact ⟨rfl, HB1.out.trans (hb.mono HB1.out.size)⟩
      · have d1 : decide ((100 : Int) < (c.keys.length : Int)) = false := by rw [decide_eq_false_iff_not]; omega
        by_cases h2 : 30000 < minSum c.keys
        · have d2 : decide ((30000 : Int) < (minSum c.keys : Int)) = true := by rw [decide_eq_true_eq]; omega
          clear h1 h2
          go_wp2_with fail
          refine (lives29 _ HL.out HE.out HP.out).mono ?_
          rintro e w' ⟨rfl, hb⟩
          go_wp2_with fail
          go_ret
          exact ⟨rfl, HB1.out.trans (hb.mono HB1.out.size)⟩
        · have d2 : decide ((30000 : Int) < (minSum c.keys : Int)) = false := by rw [decide_eq_false_iff_not]; omega
          have hls := lineS_short HC.out (by omega) (by omega)
          have hkl : c.keys.length ≤ 100 := by omega
          clear h1 h2
          by_cases h3 : (3000 : Int) < wrap64 ((c.key.length : Int) + (c.value.length : Int))
          · have d3 : decide ((3000 : Int) < wrap64 ((c.key.length : Int) + (c.value.length : Int))) = true := by rw [decide_eq_true_eq]; exact h3
            clear h3
            go_wp2_with fail
            refine (lives29 _ HL.out HE.out HP.out).mono ?_
            rintro e w' ⟨rfl, hb⟩
            go_wp2_with fail
            go_ret
            exact ⟨rfl, HB1.out.trans (hb.mono HB1.out.size)⟩
          · have d3 : decide ((3000 : Int) < wrap64 ((c.key.length : Int) + (c.value.length : Int))) = false := by rw [decide_eq_false_iff_not]; exact h3
            clear h3
            go_upto_region 8 with fail
            have hbox1 := HBOX.out
            have HK0 := Lib.hid HK.out
            clear k3 k4 d1 d2 d3
            go_cut [5] (fun s5 wx => ∃ W2 v2, W2 = wx ∧ s5 = v2 ∧ W2.ownsRow W1.heap.size 9 1 v2 c.keys.length (c.keys.map sv) ∧ W1.grownBy W2 none)
            case first =>
              have hrow : W1.ownsRow W1.heap.size 9 1 (.slice none 0 0) 0 [] := ⟨rfl, .inl ⟨rfl, rfl⟩⟩
              have HROW := Lib.hid hrow
              clear hrow
              cases ka with
              | none =>
                have hn0 : c.keys.length = 0 := own_none HK0.out
                have hk0 : c.keys = [] := List.eq_nil_of_length_eq_zero hn0
                have hc0' : kc = 0 := own_none_cap HK0.out
                subst hc0'
                rw [hn0] at k1
                have HK1 := Lib.hid hk0
                clear hk0 hn0 hbox1
                go_wp2_with (at_builtin; refine wpList_append_own_none (by rfl) _ _ 24 (by rfl) W1.heap.size 9 i0 1 Tryz.underlying24 Hi.out _ _ _ (by rfl) HROW.out (by rfl) ?_)
                go_meet
                case rel => exact ⟨_, _, rfl, rfl, by rw [HK1.out]; exact HROW.out, World.grownBy.refl _ _⟩
              | some ad =>
                have hns : ∀ (j : Nat) (x : Value), (c.keys.map sv)[j]? = some x → W1.cell? (ad.add j) = some x := fun j x hx => own_cells0 HK0.out j x hx
                have HNS := Lib.hid hns
                clear hns hbox1
                go_wp2_with (at_builtin; refine wpList_append_own _ (by rfl) _ _ 24 (by rfl) W1.heap.size 9 i0 _ 1 16 Tryz.underlying24 Hi.out Hz.out.1 Hz.out.2.1 Hz.out.2.2 rfl (by omega) _ _ _ (by rfl) HROW.out ad c.keys.length kc (c.keys.map sv) (by rfl) (by simp) HNS.out (one_svs _) (by unfold maxLen; omega) (by omega) (by simp) ?_; intro v2 w2 hrow2 hg2 _)
                go_meet
                case rel => exact ⟨_, _, rfl, rfl, by simpa using hrow2, hg2⟩
            case rest =>
              obtain ⟨W2, v2, rfl, rfl, hrow, hg12⟩ := hcut
              have hb12 : Below W1.heap.size W1 W2 := ⟨hg12.os, hg12.tape, hg12.output, hg12.size, fun k hk => hg12.block k hk (by simp)⟩
              have hown : Strs W2 W1.heap.size u5 c.keys := Own.of_row (e := 9) (by rw [List.length_map]; exact hrow)
              obtain ⟨oa, oc, hoa⟩ := hown.len
              rw [List.length_map] at hoa
              subst hoa
              have hbox2 := (hb12.block _ (lt_of_block hbox1)).trans hbox1
              have hB2 : Below w.heap.size w W2 := HB1.out.trans (hb12.mono HB1.out.size)
              have hz2 : (W2.alloc (.cells zeroA 30)).heap[W2.heap.size]? = some (.cells zeroA 30 (0, 0)) := heap_alloc_new _ _
              obtain ⟨a0, a1, a2, a3, a4, a5, a6, a7, a8, a9, a10⟩ := box_cells hbox2
              have HOWN := Lib.hid hown
              have HB12 := Lib.hid hb12
              have HBOX2 := Lib.hid hbox2
              have HB2 := Lib.hid hB2
              clear hown hb12 hbox1 hbox2 hB2 hrow hg12 k1
              go_upto_region 10 with ((with_reducible show wpList _ _ _ (⟨none, Op.store _ _ _, _, _, _, _⟩ :: _) _ _); refine wpList_store_whole (by rfl) 30 (.tmp 6) (.tmp 55) (by rfl) W2.heap.size (by rfl) (cmdCells (.slice ka c.keys.length kc) c).toArray (by rfl) _ 30 hz2 (by rfl) (by kernel_rfl) (by simp [Value.oneCell']) ?_; intro W3 hr hg hs)
              have hg23 := grown_new hg
              have hbl := block_cell hr 1
              have hc1 : W3.cell? ⟨W2.heap.size, 1, none⟩ = some (.slice ka c.keys.length kc) := hbl.1
              have hf1 : W3.frozen? ⟨W2.heap.size, 1, none⟩ = false := hbl.2
              have hr4 : (W3.setCell ⟨W2.heap.size, 1, none⟩ (.slice oa c.keys.length oc)).heap[W2.heap.size]? = some (.cells (cmdCells (.slice oa c.keys.length oc) c).toArray 30 (0, 0)) := Go.Joins.block_setCell hr _
              have hb24 : Below W2.heap.size W2 (W3.setCell ⟨W2.heap.size, 1, none⟩ (.slice oa c.keys.length oc)) := by
                have h0 : Below W2.heap.size W2 W3 := ⟨hg23.os, hg23.tape, hg23.output, hg23.size, fun k hk => hg23.block k hk (by simp)⟩
                exact h0.setCell (p := ⟨W2.heap.size, 1, none⟩) (Nat.le_refl _) _
              have HR4 := Lib.hid hr4
              have HB24 := Lib.hid hb24
              clear hr hg hs hz2 hg23 hbl hr4 hb24 a0 a1 a2 a3 a4 a5 a6 a7 a8 a9 a10
              go_upto_region 11 with fail
              generalize W3.setCell ⟨W2.heap.size, 1, none⟩ (.slice oa c.keys.length oc) = W4 at *
              have hB4 : Below w.heap.size w W4 := HB2.out.trans (HB24.out.mono HB2.out.size)
              have hb14 := HB12.out.trans (HB24.out.mono HB12.out.size)
              have hk4 := strs_below HK.out hb14
              have hbox4 := (HB24.out.block _ (lt_of_block HBOX2.out)).trans HBOX2.out
              have hown4 := strs_below HOWN.out HB24.out
              have hline := line_any hk4 HC.out (by omega) (by omega) (HL.out.below hb14) (HE.out.below hb14) (HP.out.below hb14)
              have hH : ∀ W, Below W4.heap.size W4 W → HeldLine w 0 c ka kc W2.heap.size W1.heap.size oa oc W := fun W h => by
                obtain ⟨a0, a1, a2, a3, a4, a5, a6, a7, a8, a9, a10⟩ := box_cells ((h.block _ (lt_of_block hbox4)).trans hbox4)
                obtain ⟨b0, b1, b2, b3, b4, b5, b6, b7, b8, b9, b10⟩ := box_cells ((h.block _ (lt_of_block HR4.out)).trans HR4.out)
                exact ⟨a0, a1, a2, a3, a4, a5, a6, a7, a8, a9, a10, b0, b1, b2, b3, b4, b5, b6, b7, b8, b9, b10, strs_below hk4 h, strs_below hown4 h, (HL.out.below hb14).below h, (HE.out.below hb14).below h, (HP.out.below hb14).below h, hB4.trans (h.mono hB4.size)⟩
              obtain ⟨a0, a1, a2, a3, a4, a5, a6, a7, a8, a9, a10⟩ := box_cells hbox4
              have HLINE := Lib.hid hline
              have HH := Lib.hid hH
              clear hB4 hb14 hk4 hbox4 hown4 hline hH
              go_wp2_with fail
              refine HLINE.out.mono ?_
              rintro e W5 ⟨rfl, hb5⟩
              have HH5 := Lib.hid (HH.out W5 hb5)
              obtain ⟨_, _, _, _, _, _, _, _, _, _, _, b0, b1, b2, b3, b4, b5, b6, b7, b8, b9, b10, hI⟩ := HH5.out
              have hI' := Lib.hid hI
              clear hI a0 a1 a2 a3 a4 a5 a6 a7 a8 a9 a10 hb5
              go_wp2_with fail
              refine (other_any _ c _ _ _ _ rfl).mono ?_
              rintro e W6 ⟨rfl, hb6⟩
              have HH6 := Lib.hid (heldLine_keep hb6 HH5.out)
              obtain ⟨_, _, _, _, _, _, _, _, _, _, _, _, _, _, _, _, _, _, _, _, _, _, hI6⟩ := HH6.out
              have hrl := refLine_any hI6.copy HC.out (by omega) (by omega)
              have HRL := Lib.hid hrl
              clear hrl hI6 hb6
              go_wp2_with fail
              refine HRL.out.mono ?_
              rintro e W7 ⟨rfl, hb7⟩
              have HH7 := heldLine_keep hb7 HH6.out
              clear hb7 HH6 HH5 hI' HRL HLINE HH
              generalize (lineL c).1 = S at *
              generalize (lineL c).2 = is at *
              go_wp2_with fail
              have hR2 : W2.heap.size = W2.heap.size := rfl
              clear hR2 HR4 HB24 HOWN HB12 HBOX2 HB2 HBOX HB1 HK HK0
              generalize W2.heap.size = r2 at *
              obtain ⟨a0, a1, a2, a3, a4, a5, a6, a7, a8, a9, a10, b0, b1, b2, b3, b4, b5, b6, b7, b8, b9, b10, hI⟩ := HH7
              go_region_held3 (fun W => W.cell? ⟨w.heap.size, 0, none⟩ = some (.int .u8 (c.verb : Int)) ∧ W.cell? ⟨w.heap.size, 1, none⟩ = some (.slice ka c.keys.length kc) ∧ W.cell? ⟨w.heap.size, 2, none⟩ = some (.int .u8 (c.cverb : Int)) ∧ W.cell? ⟨w.heap.size, 3, none⟩ = some (sv c.key) ∧ W.cell? ⟨w.heap.size, 4, none⟩ = some (sv c.value) ∧ W.cell? ⟨w.heap.size, 5, none⟩ = some (.int .u32 (c.flags : Int)) ∧ W.cell? ⟨w.heap.size, 6, none⟩ = some (.int .i64 c.exp) ∧ W.cell? ⟨w.heap.size, 7, none⟩ = some (.int .u64 (c.id : Int)) ∧ W.cell? ⟨w.heap.size, 8, none⟩ = some (.int .u64 (c.by' : Int)) ∧ W.cell? ⟨w.heap.size, 9, none⟩ = some (.int .i64 c.bytes) ∧ W.cell? ⟨w.heap.size, 10, none⟩ = some (.bool c.quiet) ∧ W.cell? ⟨r2, 0, none⟩ = some (.int .u8 (c.verb : Int)) ∧ W.cell? ⟨r2, 1, none⟩ = some (.slice oa c.keys.length oc) ∧ W.cell? ⟨r2, 2, none⟩ = some (.int .u8 (c.cverb : Int)) ∧ W.cell? ⟨r2, 3, none⟩ = some (sv c.key) ∧ W.cell? ⟨r2, 4, none⟩ = some (sv c.value) ∧ W.cell? ⟨r2, 5, none⟩ = some (.int .u32 (c.flags : Int)) ∧ W.cell? ⟨r2, 6, none⟩ = some (.int .i64 c.exp) ∧ W.cell? ⟨r2, 7, none⟩ = some (.int .u64 (c.id : Int)) ∧ W.cell? ⟨r2, 8, none⟩ = some (.int .u64 (c.by' : Int)) ∧ W.cell? ⟨r2, 9, none⟩ = some (.int .i64 c.bytes) ∧ W.cell? ⟨r2, 10, none⟩ = some (.bool c.quiet) ∧ LInv w 0 c ka kc W1.heap.size oa oc W)
                (first
                  | (exact heldLine_keep (Below.refl _ _).drew ⟨by assumption, by assumption, by assumption, by assumption, by assumption, by assumption, by assumption, by assumption, by assumption, by assumption, by assumption, by assumption, by assumption, by assumption, by assumption, by assumption, by assumption, by assumption, by assumption, by assumption, by assumption, by assumption, by assumption⟩)
                  | (go_split_ands; exact heldLine_keep (by assumption) ⟨by assumption, by assumption, by assumption, by assumption, by assumption, by assumption, by assumption, by assumption, by assumption, by assumption, by assumption, by assumption, by assumption, by assumption, by assumption, by assumption, by assumption, by assumption, by assumption, by assumption, by assumption, by assumption, by assumption⟩)
                  | go_keep)
                (first
                  | (go_split_ands; go_at_call 12; refine (other_any _ c _ _ _ _ rfl).mono ?_; rintro e w1 ⟨rfl, hb1⟩)
                  | (go_split_ands; go_at_call 9; refine (LInv.same ‹_›).mono ?_; rintro e w1 ⟨rfl, hb1⟩)
                  | (go_split_ands; go_at_call 6; refine (LInv.lives ‹LInv _ _ _ _ _ _ _ _ _›).mono ?_; rintro e w1 ⟨rfl, hb1⟩)
                  | fail)
              go_split_ands
              go_wp2_with fail
              go_ret
              exact ⟨rfl, LInv.below ‹LInv _ _ _ _ _ _ _ _ _›⟩
end Go.Proofs.YtofpaooaiafpbaaGreatDoor
