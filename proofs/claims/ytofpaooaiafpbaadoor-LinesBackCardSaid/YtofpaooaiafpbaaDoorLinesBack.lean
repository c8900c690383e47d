/- The law LinesBack returns true at every line and command. Conditions: strings that strings may be; MaxLen, ErrRange, the powers of ten as they must be. (Printed by genlback.py.) -/
import Derived.Test.YtofpaooaiafpbaaDoorLinesLine
import Derived.Test.YtofpaooaiafpbaaDoorLinePlain2
import Derived.Test.YtofpaooaiafpbaaDoorLawSame29
namespace Go.Proofs.YtofpaooaiafpbaaDoor
open Go.RowKit Go.ChangeMaps Go.MapKept

/-- What the law holds of the world, of a command and the one that its own line has. -/
structure BInv (w : World) (a : Cmd) (n B1 : Nat) (oa : Option Addr) (oc B2 : Nat) (ob : Option Addr) (od : Nat) (W : World) : Prop where
  keysA : Strs W B1 (.slice oa n oc) a.keys
  keysB : Strs W B2 (.slice ob n od) a.keys
  below : Below w.heap.size w W
theorem BInv.keep {w : World} {a : Cmd} {oa ob : Option Addr} {n B1 oc B2 od : Nat} {W W' : World} (h : BInv w a n B1 oa oc B2 ob od W) (hb : Below W.heap.size W W') : BInv w a n B1 oa oc B2 ob od W' :=
  ⟨strs_below h.keysA hb, strs_below h.keysB hb, h.below.trans (hb.mono h.below.size)⟩
theorem BInv.same {w : World} {a : Cmd} {oa ob : Option Addr} {n B1 oc B2 od : Nat} {W : World} (h : BInv w a n B1 oa oc B2 ob od W) :
    Calls Tryd.prog 8 #[cmdV (.slice oa n oc) a, cmdV (.slice ob n od) a] W fun e w' => e = .returned (.bool true) ∧ Below W.heap.size W w' := by
  have h1 := lsame29_any (a := a) (b := a) h.keysA h.keysB
  rw [(sameC_iff a a).2 rfl] at h1
  exact h1
def HeldBack (w : World) (a : Cmd) (r1 r2 n B1 : Nat) (oa : Option Addr) (oc B2 : Nat) (ob : Option Addr) (od : Nat) (W : World) : Prop := W.cell? ⟨r1, 0, none⟩ = some (.int .u8 (a.verb : Int)) ∧ W.cell? ⟨r1, 1, none⟩ = some (.slice oa n oc) ∧ W.cell? ⟨r1, 2, none⟩ = some (.int .u8 (a.cverb : Int)) ∧ W.cell? ⟨r1, 3, none⟩ = some (sv a.key) ∧ W.cell? ⟨r1, 4, none⟩ = some (sv a.value) ∧ W.cell? ⟨r1, 5, none⟩ = some (.int .u32 (a.flags : Int)) ∧ W.cell? ⟨r1, 6, none⟩ = some (.int .i64 a.exp) ∧ W.cell? ⟨r1, 7, none⟩ = some (.int .u64 (a.id : Int)) ∧ W.cell? ⟨r1, 8, none⟩ = some (.int .u64 (a.by' : Int)) ∧ W.cell? ⟨r1, 9, none⟩ = some (.int .i64 a.bytes) ∧ W.cell? ⟨r1, 10, none⟩ = some (.bool a.quiet) ∧ W.cell? ⟨r2, 0, none⟩ = some (.int .u8 (a.verb : Int)) ∧ W.cell? ⟨r2, 1, none⟩ = some (.slice ob n od) ∧ W.cell? ⟨r2, 2, none⟩ = some (.int .u8 (a.cverb : Int)) ∧ W.cell? ⟨r2, 3, none⟩ = some (sv a.key) ∧ W.cell? ⟨r2, 4, none⟩ = some (sv a.value) ∧ W.cell? ⟨r2, 5, none⟩ = some (.int .u32 (a.flags : Int)) ∧ W.cell? ⟨r2, 6, none⟩ = some (.int .i64 a.exp) ∧ W.cell? ⟨r2, 7, none⟩ = some (.int .u64 (a.id : Int)) ∧ W.cell? ⟨r2, 8, none⟩ = some (.int .u64 (a.by' : Int)) ∧ W.cell? ⟨r2, 9, none⟩ = some (.int .i64 a.bytes) ∧ W.cell? ⟨r2, 10, none⟩ = some (.bool a.quiet) ∧ BInv w a n B1 oa oc B2 ob od W
theorem heldBack_keep {w : World} {a : Cmd} {oa ob : Option Addr} {r1 r2 n B1 oc B2 od : Nat} {W W' : World} (hb : Below W.heap.size W W') (h : HeldBack w a r1 r2 n B1 oa oc B2 ob od W) : HeldBack w a r1 r2 n B1 oa oc B2 ob od W' := by
  have hk := fun (p j : Nat) (x : Value) (hx : W.cell? ⟨p, j, none⟩ = some x) => (hb.cell (p := ⟨p, j, none⟩) (cell_lt hx)).trans hx
  obtain ⟨h0, h1, h2, h3, h4, h5, h6, h7, h8, h9, h10, g0, g1, g2, g3, g4, g5, g6, g7, g8, g9, g10, hI⟩ := h
  exact ⟨hk _ _ _ h0, hk _ _ _ h1, hk _ _ _ h2, hk _ _ _ h3, hk _ _ _ h4, hk _ _ _ h5, hk _ _ _ h6, hk _ _ _ h7, hk _ _ _ h8, hk _ _ _ h9, hk _ _ _ h10, hk _ _ _ g0, hk _ _ _ g1, hk _ _ _ g2, hk _ _ _ g3, hk _ _ _ g4, hk _ _ _ g5, hk _ _ _ g6, hk _ _ _ g7, hk _ _ _ g8, hk _ _ _ g9, hk _ _ _ g10, hI.keep hb⟩

def HeldBack1 (g o : Nat) (w : World) (a : Cmd) (r1 r2 n B1 : Nat) (oa : Option Addr) (oc B2 : Nat) (ob : Option Addr) (od : Nat) (W : World) : Prop := W.cell? ⟨g, o, none⟩ = some (sv a.key) ∧ W.cell? ⟨r1, 0, none⟩ = some (.int .u8 (a.verb : Int)) ∧ W.cell? ⟨r1, 1, none⟩ = some (.slice oa n oc) ∧ W.cell? ⟨r1, 2, none⟩ = some (.int .u8 (a.cverb : Int)) ∧ W.cell? ⟨r1, 3, none⟩ = some (sv a.key) ∧ W.cell? ⟨r1, 4, none⟩ = some (sv a.value) ∧ W.cell? ⟨r1, 5, none⟩ = some (.int .u32 (a.flags : Int)) ∧ W.cell? ⟨r1, 6, none⟩ = some (.int .i64 a.exp) ∧ W.cell? ⟨r1, 7, none⟩ = some (.int .u64 (a.id : Int)) ∧ W.cell? ⟨r1, 8, none⟩ = some (.int .u64 (a.by' : Int)) ∧ W.cell? ⟨r1, 9, none⟩ = some (.int .i64 a.bytes) ∧ W.cell? ⟨r1, 10, none⟩ = some (.bool a.quiet) ∧ W.cell? ⟨r2, 0, none⟩ = some (.int .u8 (a.verb : Int)) ∧ W.cell? ⟨r2, 1, none⟩ = some (.slice ob n od) ∧ W.cell? ⟨r2, 2, none⟩ = some (.int .u8 (a.cverb : Int)) ∧ W.cell? ⟨r2, 3, none⟩ = some (sv a.key) ∧ W.cell? ⟨r2, 4, none⟩ = some (sv a.value) ∧ W.cell? ⟨r2, 5, none⟩ = some (.int .u32 (a.flags : Int)) ∧ W.cell? ⟨r2, 6, none⟩ = some (.int .i64 a.exp) ∧ W.cell? ⟨r2, 7, none⟩ = some (.int .u64 (a.id : Int)) ∧ W.cell? ⟨r2, 8, none⟩ = some (.int .u64 (a.by' : Int)) ∧ W.cell? ⟨r2, 9, none⟩ = some (.int .i64 a.bytes) ∧ W.cell? ⟨r2, 10, none⟩ = some (.bool a.quiet) ∧ BInv w a n B1 oa oc B2 ob od W
theorem heldBack1_keep {g o : Nat} {w : World} {a : Cmd} {oa ob : Option Addr} {r1 r2 n B1 oc B2 od : Nat} {W W' : World} (hb : Below W.heap.size W W') (h : HeldBack1 g o w a r1 r2 n B1 oa oc B2 ob od W) : HeldBack1 g o w a r1 r2 n B1 oa oc B2 ob od W' := by
  obtain ⟨h0, h1⟩ := h
  exact ⟨(hb.cell (p := ⟨g, o, none⟩) (cell_lt h0)).trans h0, heldBack_keep (w := w) (a := a) hb h1⟩

set_option maxRecDepth 100000 in
set_option maxHeartbeats 12800000 in
theorem linesBack_walk {kv : Value} {c : Cmd} (s : ByteArray) {w : World} (hsm : s.size ≤ maxLen) (hk : Strs w 0 kv c.keys) (hc : OkCmd c) (hx : ∀ x ∈ c.keys, x.length ≤ maxLen) (hky : c.key.length ≤ maxLen) (hvl : c.value.length ≤ maxLen) (hL : HasLen w) (hE : HasErr w) (hP : HasPow w) :
    Calls Tryd.prog 3 #[.string s, cmdV kv c] w fun e w' => e = .returned (.bool true) ∧ Below w.heap.size w w' := by
  obtain ⟨ka, kc, hka⟩ := hk.len
  rw [List.length_map] at hka
  subst hka
  have hn : c.keys.length ≤ maxLen := by have := hk.max; rwa [List.length_map] at this
  unfold maxLen at hn
  have hb1 : Below w.heap.size w (w.alloc (.cells (cmdCells (.slice ka c.keys.length kc) c).toArray 29)) := (Below.refl _ _).alloc (Nat.le_refl _) _
  have hbox : (w.alloc (.cells (cmdCells (.slice ka c.keys.length kc) c).toArray 29)).heap[w.heap.size]? = some (.cells (cmdCells (.slice ka c.keys.length kc) c).toArray 29 (0, 0)) := heap_alloc_new _ _
  have HK := Lib.hid (strs_below hk hb1)
  have HC := Lib.hid hc
  have HX := Lib.hid hx
  have HL := Lib.hid (hL.below hb1)
  have HE := Lib.hid (hE.below hb1)
  have HP := Lib.hid (hP.below hb1)
  have HB1 := Lib.hid hb1
  have HBOX := Lib.hid hbox
  have HSM := Lib.hid (And.intro hsm (And.intro hky hvl))
  clear hk hc hx hky hvl hL hE hP hb1 hsm
  go_enter Tryd.func3, Tryd.ntmps3
  go_wp2_with fail
  generalize w.alloc (.cells (cmdCells (.slice ka c.keys.length kc) c).toArray 29) = W1 at *
  have k1 : W1.cell? ⟨w.heap.size, 1, none⟩ = some (.slice ka c.keys.length kc) := (block_cell hbox 1).1
  clear hbox
  go_loop [5, 6] (fun s3 s4 => ∃ i : Nat, i ≤ c.keys.length ∧ i ≤ 101 ∧ s4 = .int .i64 i ∧ s3 = .int .i64 (minSum (c.keys.take i) : Nat)) (fun _ s4 => 101 - (intOf s4).toNat)
  case atStart => exact ⟨0, Nat.zero_le _, by omega, rfl, rfl⟩
  case round =>
    obtain ⟨i, hi1, hi2, rfl, rfl⟩ := hrel
    have hms : minSum (c.keys.take i) ≤ 40000 * 101 := by
      have h1 := minSum_le (c.keys.take i)
      have h2 : (c.keys.take i).length ≤ 101 := by rw [List.length_take]; omega
      omega
    by_cases hlt : i < c.keys.length
    · by_cases h100 : i ≤ 100
      · obtain ⟨x, hx⟩ : ∃ x, c.keys[i]? = some x := ⟨_, List.getElem?_eq_getElem hlt⟩
        obtain ⟨g, o, cc, he, _, _, hcell, _⟩ := HK.out.at (k := i) (x := sv x) (by rw [List.getElem?_map, hx]; rfl)
        have hix : ∀ W : World, (Instr.indexAt 23 (.slice ka c.keys.length kc) (.int .i64 (i : Int))).run Tryd.prog W = .ok (.pointer (some ⟨g, o + i, none⟩)) W := fun W => idx_str' (slice_inj he).1 hlt W
        have hnext : minSum (c.keys.take (i + 1)) = minSum (c.keys.take i) + min x.length 40000 := by rw [List.take_add_one, hx]; exact minSum_snoc _ _
        have hxl := HX.out x (List.mem_of_getElem? hx)
        unfold maxLen at hxl
        have HN := Lib.hid hnext
        clear he hx hnext
        generalize minSum (c.keys.take i) = T at *
        have hcl : (min x.length 40000 : Nat) ≤ 40000 := Nat.min_le_right _ _
        have hmin : min ((x.length : Nat) : Int) 40000 = ((min x.length 40000 : Nat) : Int) := by omega
        have hif : (if ((x.length : Nat) : Int) ≤ 40000 then ((x.length : Nat) : Int) else 40000) = ((min x.length 40000 : Nat) : Int) := by split <;> omega
        generalize min x.length 40000 = m at *
        go_wp2_with fail
        go_round
        case rel => exact ⟨i + 1, by omega, by omega, by go_num, by rw [HN.out]; go_num⟩
        case measure => simp [intOf]; omega
      · have d1 : decide ((100 : Int) < (c.keys.length : Int)) = true := by rw [decide_eq_true_eq]; omega
        by_cases h0 : 5000 < s.size
        · have d0 : decide ((5000 : Int) < (s.size : Int)) = true := by rw [decide_eq_true_eq]; omega
          go_wp2_with fail
          refine (lives29 _ HL.out HE.out HP.out).mono ?_
          rintro e w' ⟨rfl, hb⟩
          go_wp2_with fail
          go_ret
          exact ⟨rfl, (HB1.out).trans (hb.mono (HB1.out).size)⟩
        · have d0 : decide ((5000 : Int) < (s.size : Int)) = false := by rw [decide_eq_false_iff_not]; omega
          go_wp2_with fail
          refine (lives29 _ HL.out HE.out HP.out).mono ?_
          rintro e w' ⟨rfl, hb⟩
          go_wp2_with fail
          go_ret
          exact ⟨rfl, (HB1.out).trans (hb.mono (HB1.out).size)⟩
    · obtain rfl : i = c.keys.length := by omega
      rw [List.take_length] at *
      have k3 : W1.cell? ⟨w.heap.size, 3, none⟩ = some (sv c.key) := (block_cell HBOX.out 3).1
      have k4 : W1.cell? ⟨w.heap.size, 4, none⟩ = some (sv c.value) := (block_cell HBOX.out 4).1
      by_cases h0 : 5000 < s.size
      · have d0 : decide ((5000 : Int) < (s.size : Int)) = true := by rw [decide_eq_true_eq]; omega
        clear h0
        go_wp2_with fail
        refine (lives29 _ HL.out HE.out HP.out).mono ?_
        rintro e w' ⟨rfl, hb⟩
        go_wp2_with fail
        go_ret
        exact ⟨rfl, (HB1.out).trans (hb.mono (HB1.out).size)⟩
      · have d0 : decide ((5000 : Int) < (s.size : Int)) = false := by rw [decide_eq_false_iff_not]; omega
        have hsz : s.size ≤ 5000 := by omega
        clear h0
        by_cases h1 : 100 < c.keys.length
        · have d1 : decide ((100 : Int) < (c.keys.length : Int)) = true := by rw [decide_eq_true_eq]; omega
          clear h1
          go_wp2_with fail
          refine (lives29 _ HL.out HE.out HP.out).mono ?_
          rintro e w' ⟨rfl, hb⟩
          go_wp2_with fail
          go_ret
          exact ⟨rfl, (HB1.out).trans (hb.mono (HB1.out).size)⟩
        · have d1 : decide ((100 : Int) < (c.keys.length : Int)) = false := by rw [decide_eq_false_iff_not]; omega
          by_cases h2 : 30000 < minSum c.keys
          · have d2 : decide ((30000 : Int) < (minSum c.keys : Int)) = true := by rw [decide_eq_true_eq]; omega
            clear h1 h2
            go_wp2_with fail
            refine (lives29 _ HL.out HE.out HP.out).mono ?_
            rintro e w' ⟨rfl, hb⟩
            go_wp2_with fail
            go_ret
            exact ⟨rfl, (HB1.out).trans (hb.mono (HB1.out).size)⟩
          · have d2 : decide ((30000 : Int) < (minSum c.keys : Int)) = false := by rw [decide_eq_false_iff_not]; omega
            have hls := lineS_short HC.out (by omega) (by omega)
            have hkl : c.keys.length ≤ 100 := by omega
            clear h1 h2
            by_cases h3 : (3000 : Int) < wrap64 ((c.key.length : Int) + (c.value.length : Int))
            · have d3 : decide ((3000 : Int) < wrap64 ((c.key.length : Int) + (c.value.length : Int))) = true := by rw [decide_eq_true_eq]; exact h3
              clear h3
              go_wp2_with fail
              refine (lives29 _ HL.out HE.out HP.out).mono ?_
              rintro e w' ⟨rfl, hb⟩
              go_wp2_with fail
              go_ret
              exact ⟨rfl, (HB1.out).trans (hb.mono (HB1.out).size)⟩
            · have d3 : decide ((3000 : Int) < wrap64 ((c.key.length : Int) + (c.value.length : Int))) = false := by rw [decide_eq_false_iff_not]; exact h3
              clear h3
              go_upto_region 8 with fail
              have hpar := lparseLine_any s W1 (by omega) HL.out HE.out
              have HPAR := Lib.hid hpar
              clear hpar d0 d1 d2 d3 k1 k3 k4
              go_wp2_with fail
              refine HPAR.out.mono ?_
              rintro e v0 ⟨ks, rfl, hok, hb⟩
              have hoka := parse_ok (bs s)
              have hsh := parse_short (bs s)
              have hback := back_line (bs s)
              have hsl := bs_length s
              generalize hR : parseL (bs s) = R at *
              obtain ⟨a, t⟩ := R
              simp only at hok hoka hsh hback ⊢
              obtain ⟨oa, oc, hks⟩ := hok.len
              rw [List.length_map] at hks
              subst hks
              have hz : (v0.alloc (.cells zeroA 29)).heap[v0.heap.size]? = some (.cells zeroA 29 (0, 0)) := heap_alloc_new _ _
              have HOK := Lib.hid hok
              have HBV := Lib.hid hb
              have HOKA := Lib.hid hoka
              have HBACK := Lib.hid hback
              have HSH := Lib.hid hsh
              have HRR := Lib.hid hR
              clear hok hb hoka hback hsh hR HPAR
              go_upto_region 9 with ((with_reducible show wpList _ _ _ (⟨none, Op.store _ _ _, _, _, _, _⟩ :: _) _ _); refine wpList_store_whole (by rfl) 29 (.tmp 7) (.tmp 67) (by rfl) v0.heap.size (by rfl) (cmdCells (.slice oa a.keys.length oc) a).toArray (by rfl) _ 29 hz (by rfl) (by kernel_rfl) (by simp [Value.oneCell']) ?_; intro u0 hr hg hs)
              have hg' := grown_new hg
              have hbu := below_to HBV.out hg'
              have hxa := hr
              have hka := strs_below (L := a.keys) HOK.out ⟨hg'.os, hg'.tape, hg'.output, hg'.size, fun k hk => hg'.block k hk (by simp)⟩
              have hbw : Below w.heap.size w u0 := HB1.out.trans (hbu.mono HB1.out.size)
              have hline := line_any hka HOKA.out (by have := HSH.out.1; omega) (by have := HSH.out.2; omega) (HL.out.below hbu) (HE.out.below hbu) (HP.out.below hbu)
              obtain ⟨a0, a1, a2, a3, a4, a5, a6, a7, a8, a9, a10⟩ := box_cells hxa
              have HXA := Lib.hid hxa
              have HKA := Lib.hid hka
              have HBU := Lib.hid hbu
              have HBW := Lib.hid hbw
              have HLINE := Lib.hid hline
              clear hr hg hs hz hg' hbu hxa hka hbw hline HOK HBV
              go_wp2_with fail
              refine HLINE.out.mono ?_
              rintro e w1 ⟨rfl, hb1⟩
              have hxa := (hb1.block _ (lt_of_block HXA.out)).trans HXA.out
              have hka := strs_below HKA.out hb1
              have hb11 := HBU.out.trans (hb1.mono HBU.out.size)
              have hbw := HBW.out.trans (hb1.mono HBW.out.size)
              have hra : v0.heap.size < w1.heap.size := lt_of_block hxa
              have hr0 : w.heap.size < W1.heap.size := lt_of_block HBOX.out
              clear HXA HKA HBU HBW HLINE a0 a1 a2 a3 a4 a5 a6 a7 a8 a9 a10
              have HXA := Lib.hid hxa
              have HKA := Lib.hid hka
              have HBU := Lib.hid hb11
              have HBW := Lib.hid hbw
              clear hb1 hxa hka hb11 hbw
              obtain ⟨b1, b2, b3⟩ := HBACK.out
              generalize hown : (lineL a).1 = own at *
              generalize his : (lineL a).2 = is at *
              clear hown his HBACK
              go_upto_region 10 with fail
              go_cut [95] (fun s95 wx => w1 = wx ∧ s95 = .bool false)
              case first =>
                by_cases ht : t = 0
                · obtain rfl : is = true := b1.2 ht
                  obtain ⟨rfl, hpb, hB⟩ := b3 ht
                  have hlo : (lineS a).length ≤ s.size := by have := hB.len; omega
                  have hdl : decide ((s.size : Int) < ((lineS a).length : Int)) = false := by rw [decide_eq_false_iff_not]; omega
                  have hdl2 : decide (s.size < (lineS a).length) = false := by rw [decide_eq_false_iff_not]; omega
                  subst ht
                  have HPB := Lib.hid (And.intro hpb hB)
                  clear hpb hB b1 b2 b3
                  go_wp2_with fail
                  go_meet
                  case rel => exact ⟨rfl, rfl⟩
                · have his : is = false := by cases is with
                    | false => rfl
                    | true => exact absurd (b1.1 rfl) ht
                  subst his
                  obtain rfl : own = [] := b2 rfl
                  have hp0 : ((t : Int) == 0) = false := by rw [beq_eq_false_iff_ne]; omega
                  clear b1 b2 b3
                  go_wp2_with fail
                  go_meet
                  case rel => exact ⟨rfl, rfl⟩
              case rest =>
                obtain ⟨rfl, rfl⟩ := hcut
                go_upto_if 96 with fail
                go_cut [] (fun wx => ∃ W5, W5 = wx ∧ Below w1.heap.size w1 W5)
                case first =>
                  by_cases ht : t = 0
                  · obtain rfl : is = true := b1.2 ht
                    obtain ⟨rfl, hpb, hB⟩ := b3 ht
                    subst ht
                    have hlo : (lineS a).length ≤ 1048576 := by have := hB.len; omega
                    have hpar := lparse_at (lineS a) w1 hlo (HL.out.below HBU.out) (HE.out.below HBU.out)
                    have HPB := Lib.hid (And.intro hpb hB)
                    have HPAR := Lib.hid hpar
                    clear hpb hB b1 b2 b3 hpar
                    go_wp2_with fail
                    refine HPAR.out.mono ?_
                    rintro e v2 ⟨kb, rfl, hok, hb⟩
                    rw [HPB.out.1] at hok ⊢
                    simp only at hok ⊢
                    obtain ⟨ob, od, hkb⟩ := hok.len
                    rw [List.length_map] at hkb
                    subst hkb
                    have hz : (v2.alloc (.cells zeroA 29)).heap[v2.heap.size]? = some (.cells zeroA 29 (0, 0)) := heap_alloc_new _ _
                    have HOK := Lib.hid hok
                    have HBV := Lib.hid hb
                    clear hok hb HPAR
                    go_upto_region 14 with ((with_reducible show wpList _ _ _ (⟨none, Op.store _ _ _, _, _, _, _⟩ :: _) _ _); refine wpList_store_whole (by rfl) 29 (.tmp 11) (.tmp 100) (by rfl) v2.heap.size (by rfl) (cmdCells (.slice ob a.keys.length od) a).toArray (by rfl) _ 29 hz (by rfl) (by kernel_rfl) (by simp [Value.oneCell']) ?_; intro u2 hr hg hs)
                    have hg' := grown_new hg
                    have hbu := below_to HBV.out hg'
                    have hxa := (hbu.block _ (lt_of_block HXA.out)).trans HXA.out
                    have hka := strs_below HKA.out hbu
                    have hkb : Strs u2 w1.heap.size (.slice ob a.keys.length od) a.keys := strs_below HOK.out ⟨hg'.os, hg'.tape, hg'.output, hg'.size, fun k hk => hg'.block k hk (by simp)⟩
                    obtain ⟨a0, a1, a2, a3, a4, a5, a6, a7, a8, a9, a10⟩ := box_cells hxa
                    obtain ⟨c0, c1, c2, c3, c4, c5, c6, c7, c8, c9, c10⟩ := box_cells hr
                    have hI : BInv w1 a a.keys.length W1.heap.size oa oc w1.heap.size ob od u2 := ⟨hka, hkb, hbu⟩
                    have HBU2 := Lib.hid hbu
                    clear hr hg hs hz hg' hbu hxa hka hkb HOK HBV
                    generalize v0.heap.size = r1 at *
                    generalize v2.heap.size = r2 at *
                    have hlen : a.keys.length ≤ 2048 := HSH.out.2
                    have n7 : ((a.cverb : Int) != (a.verb : Int)) = false := by rw [HPB.out.2.cverb]; simp
                    have n8 : (a.cverb != a.verb) = false := by rw [HPB.out.2.cverb]; simp
                    have HU2 := Lib.hid hI
                    generalize hnn : a.keys.length = n at *
                    have HNN := Lib.hid hnn
                    clear hnn
                    go_cut [145] (fun s145 wx => ∃ W3, W3 = wx ∧ s145 = .bool false ∧ Hid (Below w1.heap.size w1 W3))
                    case first =>
                      by_cases hkn : n = 0
                      · have hkey : a.key = [] := by rw [HPB.out.2.key, List.eq_nil_of_length_eq_zero (HNN.out.trans hkn)]; rfl
                        have n5 : (a.key != []) = false := by rw [hkey]; rfl
                        have n6 : (a.key == []) = true := by rw [hkey]; rfl
                        subst hkn
                        clear hkey
                        refine wp_region_held_drew (S := fun W => W.cell? ⟨r1, 0, none⟩ = some (.int .u8 (a.verb : Int)) ∧ W.cell? ⟨r1, 1, none⟩ = some (.slice oa 0 oc) ∧ W.cell? ⟨r1, 2, none⟩ = some (.int .u8 (a.cverb : Int)) ∧ W.cell? ⟨r1, 3, none⟩ = some (sv a.key) ∧ W.cell? ⟨r1, 4, none⟩ = some (sv a.value) ∧ W.cell? ⟨r1, 5, none⟩ = some (.int .u32 (a.flags : Int)) ∧ W.cell? ⟨r1, 6, none⟩ = some (.int .i64 a.exp) ∧ W.cell? ⟨r1, 7, none⟩ = some (.int .u64 (a.id : Int)) ∧ W.cell? ⟨r1, 8, none⟩ = some (.int .u64 (a.by' : Int)) ∧ W.cell? ⟨r1, 9, none⟩ = some (.int .i64 a.bytes) ∧ W.cell? ⟨r1, 10, none⟩ = some (.bool a.quiet) ∧ W.cell? ⟨r2, 0, none⟩ = some (.int .u8 (a.verb : Int)) ∧ W.cell? ⟨r2, 1, none⟩ = some (.slice ob 0 od) ∧ W.cell? ⟨r2, 2, none⟩ = some (.int .u8 (a.cverb : Int)) ∧ W.cell? ⟨r2, 3, none⟩ = some (sv a.key) ∧ W.cell? ⟨r2, 4, none⟩ = some (sv a.value) ∧ W.cell? ⟨r2, 5, none⟩ = some (.int .u32 (a.flags : Int)) ∧ W.cell? ⟨r2, 6, none⟩ = some (.int .i64 a.exp) ∧ W.cell? ⟨r2, 7, none⟩ = some (.int .u64 (a.id : Int)) ∧ W.cell? ⟨r2, 8, none⟩ = some (.int .u64 (a.by' : Int)) ∧ W.cell? ⟨r2, 9, none⟩ = some (.int .i64 a.bytes) ∧ W.cell? ⟨r2, 10, none⟩ = some (.bool a.quiet) ∧ BInv w1 a 0 W1.heap.size oa oc w1.heap.size ob od W) (by kernel_rfl) (heldBack_keep (w := w1) (a := a) (Below.refl _ _).drew ⟨by assumption, by assumption, by assumption, by assumption, by assumption, by assumption, by assumption, by assumption, by assumption, by assumption, by assumption, by assumption, by assumption, by assumption, by assumption, by assumption, by assumption, by assumption, by assumption, by assumption, by assumption, by assumption, by assumption⟩) (fun hHeld => ?_)
                        refine wpAnyH_take (i := 0) (v := ?_) rfl (by kernel_rfl) (by kernel_rfl) (by kernel_rfl) (fun _ _ _ h => h) (Or.inl ⟨by rfl, ?_⟩) (by assumption) ?_
                        rotate_left 1
                        · ((intro w hSw; (try dsimp only at hSw); go_simp) <;> with_reducible rfl)
                        try simp only [Act.put, List.setIfInBounds_toArray, List.set_cons_zero, List.set_cons_succ, List.getElem_toArray, List.getElem_cons_zero]
                        refine wpAnyH_take (i := 1) (v := ?_) rfl (by kernel_rfl) (by kernel_rfl) (by kernel_rfl) (fun _ _ _ h => h) (Or.inl ⟨by rfl, ?_⟩) (by assumption) ?_
                        rotate_left 1
                        · ((intro w hSw; (try dsimp only at hSw); go_simp) <;> with_reducible rfl)
                        try simp only [Act.put, List.setIfInBounds_toArray, List.set_cons_zero, List.set_cons_succ, List.getElem_toArray, List.getElem_cons_zero, List.getElem_cons_succ]
                        refine wpAnyH_take (i := 2) (v := ?_) rfl (by kernel_rfl) (by kernel_rfl) (by kernel_rfl) (fun _ _ _ h => h) (Or.inl ⟨by rfl, ?_⟩) (by assumption) ?_
                        rotate_left 1
                        · ((intro w hSw; (try dsimp only at hSw); go_simp) <;> with_reducible rfl)
                        try simp only [Act.put, List.setIfInBounds_toArray, List.set_cons_zero, List.set_cons_succ, List.getElem_toArray, List.getElem_cons_zero, List.getElem_cons_succ]
                        refine wpAnyH_take (i := 3) (v := ?_) rfl (by kernel_rfl) (by kernel_rfl) (by kernel_rfl) (fun _ _ _ h => h) (Or.inl ⟨by rfl, ?_⟩) (by assumption) ?_
                        rotate_left 1
                        · ((intro w hSw; (try dsimp only at hSw); go_simp) <;> with_reducible rfl)
                        try simp only [Act.put, List.setIfInBounds_toArray, List.set_cons_zero, List.set_cons_succ, List.getElem_toArray, List.getElem_cons_zero, List.getElem_cons_succ]
                        refine wpAnyH_take (i := 4) (v := ?_) rfl (by kernel_rfl) (by kernel_rfl) (by kernel_rfl) (fun _ _ _ h => h) (Or.inl ⟨by rfl, ?_⟩) (by assumption) ?_
                        rotate_left 1
                        · ((intro w hSw; (try dsimp only at hSw); go_simp) <;> with_reducible rfl)
                        try simp only [Act.put, List.setIfInBounds_toArray, List.set_cons_zero, List.set_cons_succ, List.getElem_toArray, List.getElem_cons_zero, List.getElem_cons_succ]
                        refine wpAnyH_ready (rs := [5]) (by kernel_rfl) (by simp) ?_
                        refine AllReadyH.cons rfl (fun K hK => ?_) AllReadyH.nil
                        go_split_ands
                        go_simp
                        go_at_call 8
                        refine (BInv.same ‹BInv _ _ _ _ _ _ _ _ _ _›).mono ?_
                        rintro e w9 ⟨rfl, hb9⟩
                        refine hK.out _ _ (heldBack_keep (w := w1) (a := a) hb9 ⟨by assumption, by assumption, by assumption, by assumption, by assumption, by assumption, by assumption, by assumption, by assumption, by assumption, by assumption, by assumption, by assumption, by assumption, by assumption, by assumption, by assumption, by assumption, by assumption, by assumption, by assumption, by assumption, by assumption⟩) (fun hHeld2 => ?_)
                        clear hK K
                        try simp only [Act.put, List.setIfInBounds_toArray, List.set_cons_zero, List.set_cons_succ, List.getElem_toArray, List.getElem_cons_zero, List.getElem_cons_succ]
                        refine wpAnyH_take (i := 6) (v := ?_) rfl (by kernel_rfl) (by kernel_rfl) (by kernel_rfl) (fun _ _ _ h => h) (Or.inl ⟨by rfl, ?_⟩) (by assumption) ?_
                        rotate_left 1
                        · ((intro w hSw; (try dsimp only at hSw); go_simp) <;> with_reducible rfl)
                        try simp only [Act.put, List.setIfInBounds_toArray, List.set_cons_zero, List.set_cons_succ, List.getElem_toArray, List.getElem_cons_zero, List.getElem_cons_succ]
                        refine wpAnyH_take (i := 7) (v := ?_) rfl (by kernel_rfl) (by kernel_rfl) (by kernel_rfl) (fun _ _ _ h => h) (Or.inl ⟨by rfl, ?_⟩) (by assumption) ?_
                        rotate_left 1
                        · ((intro w hSw; (try dsimp only at hSw); go_simp) <;> with_reducible rfl)
                        try simp only [Act.put, List.setIfInBounds_toArray, List.set_cons_zero, List.set_cons_succ, List.getElem_toArray, List.getElem_cons_zero, List.getElem_cons_succ]
                        refine wpAnyH_take (i := 8) (v := ?_) rfl (by kernel_rfl) (by kernel_rfl) (by kernel_rfl) (fun _ _ _ h => h) (Or.inl ⟨by rfl, ?_⟩) (by assumption) ?_
                        rotate_left 1
                        · ((intro w hSw; (try dsimp only at hSw); go_simp) <;> with_reducible rfl)
                        try simp only [Act.put, List.setIfInBounds_toArray, List.set_cons_zero, List.set_cons_succ, List.getElem_toArray, List.getElem_cons_zero, List.getElem_cons_succ]
                        refine wpAnyH_take (i := 9) (v := ?_) rfl (by kernel_rfl) (by kernel_rfl) (by kernel_rfl) (fun _ _ _ h => h) (Or.inl ⟨by rfl, ?_⟩) (by assumption) ?_
                        rotate_left 1
                        · ((intro w hSw; (try dsimp only at hSw); go_simp) <;> with_reducible rfl)
                        try simp only [Act.put, List.setIfInBounds_toArray, List.set_cons_zero, List.set_cons_succ, List.getElem_toArray, List.getElem_cons_zero, List.getElem_cons_succ]
                        refine wpAnyH_take (i := 10) (v := ?_) rfl (by kernel_rfl) (by kernel_rfl) (by kernel_rfl) (fun _ _ _ h => h) (Or.inl ⟨by rfl, ?_⟩) (by assumption) ?_
                        rotate_left 1
                        · ((intro w hSw; (try dsimp only at hSw); go_simp) <;> with_reducible rfl)
                        try simp only [Act.put, List.setIfInBounds_toArray, List.set_cons_zero, List.set_cons_succ, List.getElem_toArray, List.getElem_cons_zero, List.getElem_cons_succ]
                        refine wpAnyH_take (i := 11) (v := ?_) rfl (by kernel_rfl) (by kernel_rfl) (by kernel_rfl) (fun _ _ _ h => h) (Or.inl ⟨by rfl, ?_⟩) (by assumption) ?_
                        rotate_left 1
                        · ((intro w hSw; (try dsimp only at hSw); go_simp) <;> with_reducible rfl)
                        try simp only [Act.put, List.setIfInBounds_toArray, List.set_cons_zero, List.set_cons_succ, List.getElem_toArray, List.getElem_cons_zero, List.getElem_cons_succ]
                        refine wpAnyH_take (i := 12) (v := ?_) rfl (by kernel_rfl) (by kernel_rfl) (by kernel_rfl) (fun _ _ _ h => h) (Or.inl ⟨by rfl, ?_⟩) (by assumption) ?_
                        rotate_left 1
                        · ((intro w hSw; (try dsimp only at hSw); go_simp) <;> with_reducible rfl)
                        try simp only [Act.put, List.setIfInBounds_toArray, List.set_cons_zero, List.set_cons_succ, List.getElem_toArray, List.getElem_cons_zero, List.getElem_cons_succ]
                        refine wpAnyH_take (i := 13) (v := ?_) rfl (by kernel_rfl) (by kernel_rfl) (by kernel_rfl) (fun _ _ _ h => h) (Or.inl ⟨by rfl, ?_⟩) (by assumption) ?_
                        rotate_left 1
                        · ((intro w hSw; (try dsimp only at hSw); go_simp) <;> with_reducible rfl)
                        try simp only [Act.put, List.setIfInBounds_toArray, List.set_cons_zero, List.set_cons_succ, List.getElem_toArray, List.getElem_cons_zero, List.getElem_cons_succ]
                        refine wpAnyH_take (i := 14) (v := ?_) rfl (by kernel_rfl) (by kernel_rfl) (by kernel_rfl) (fun _ _ _ h => h) (Or.inl ⟨by rfl, ?_⟩) (by assumption) ?_
                        rotate_left 1
                        · ((intro w hSw; (try dsimp only at hSw); go_simp) <;> with_reducible rfl)
                        try simp only [Act.put, List.setIfInBounds_toArray, List.set_cons_zero, List.set_cons_succ, List.getElem_toArray, List.getElem_cons_zero, List.getElem_cons_succ]
                        refine wpAnyH_take (i := 15) (v := ?_) rfl (by kernel_rfl) (by kernel_rfl) (by kernel_rfl) (fun _ _ _ h => h) (Or.inl ⟨by rfl, ?_⟩) (by assumption) ?_
                        rotate_left 1
                        · ((intro w hSw; (try dsimp only at hSw); go_simp) <;> with_reducible rfl)
                        try simp only [Act.put, List.setIfInBounds_toArray, List.set_cons_zero, List.set_cons_succ, List.getElem_toArray, List.getElem_cons_zero, List.getElem_cons_succ]
                        refine wpAnyH_take (i := 16) (v := ?_) rfl (by kernel_rfl) (by kernel_rfl) (by kernel_rfl) (fun _ _ _ h => h) (Or.inl ⟨by rfl, ?_⟩) (by assumption) ?_
                        rotate_left 1
                        · ((intro w hSw; (try dsimp only at hSw); go_simp) <;> with_reducible rfl)
                        try simp only [Act.put, List.setIfInBounds_toArray, List.set_cons_zero, List.set_cons_succ, List.getElem_toArray, List.getElem_cons_zero, List.getElem_cons_succ]
                        refine wpAnyH_take (i := 17) (v := ?_) rfl (by kernel_rfl) (by kernel_rfl) (by kernel_rfl) (fun _ _ _ h => h) (Or.inl ⟨by rfl, ?_⟩) (by assumption) ?_
                        rotate_left 1
                        · ((intro w hSw; (try dsimp only at hSw); go_simp) <;> with_reducible rfl)
                        try simp only [Act.put, List.setIfInBounds_toArray, List.set_cons_zero, List.set_cons_succ, List.getElem_toArray, List.getElem_cons_zero, List.getElem_cons_succ]
                        refine wpAnyH_take (i := 18) (v := ?_) rfl (by kernel_rfl) (by kernel_rfl) (by kernel_rfl) (fun _ _ _ h => h) (Or.inl ⟨by rfl, ?_⟩) (by assumption) ?_
                        rotate_left 1
                        · ((intro w hSw; (try dsimp only at hSw); go_simp) <;> with_reducible rfl)
                        try simp only [Act.put, List.setIfInBounds_toArray, List.set_cons_zero, List.set_cons_succ, List.getElem_toArray, List.getElem_cons_zero, List.getElem_cons_succ]
                        refine wpAnyH_take (i := 19) (v := ?_) rfl (by kernel_rfl) (by kernel_rfl) (by kernel_rfl) (fun _ _ _ h => h) (Or.inl ⟨by rfl, ?_⟩) (by assumption) ?_
                        rotate_left 1
                        · ((intro w hSw; (try dsimp only at hSw); go_simp) <;> with_reducible rfl)
                        try simp only [Act.put, List.setIfInBounds_toArray, List.set_cons_zero, List.set_cons_succ, List.getElem_toArray, List.getElem_cons_zero, List.getElem_cons_succ]
                        refine wpAnyH_take (i := 20) (v := ?_) rfl (by kernel_rfl) (by kernel_rfl) (by kernel_rfl) (fun _ _ _ h => h) (Or.inl ⟨by rfl, ?_⟩) (by assumption) ?_
                        rotate_left 1
                        · ((intro w hSw; (try dsimp only at hSw); go_simp) <;> with_reducible rfl)
                        try simp only [Act.put, List.setIfInBounds_toArray, List.set_cons_zero, List.set_cons_succ, List.getElem_toArray, List.getElem_cons_zero, List.getElem_cons_succ]
                        refine wpAnyH_take (i := 21) (v := ?_) rfl (by kernel_rfl) (by kernel_rfl) (by kernel_rfl) (fun _ _ _ h => h) (Or.inl ⟨by rfl, ?_⟩) (by assumption) ?_
                        rotate_left 1
                        · ((intro w hSw; (try dsimp only at hSw); go_simp) <;> with_reducible rfl)
                        try simp only [Act.put, List.setIfInBounds_toArray, List.set_cons_zero, List.set_cons_succ, List.getElem_toArray, List.getElem_cons_zero, List.getElem_cons_succ]
                        refine wpAnyH_take (i := 22) rfl (by kernel_rfl) (by kernel_rfl) (by kernel_rfl) (fun _ _ _ h => h) (Or.inr ⟨by rfl, rfl⟩) (by assumption) ?_
                        try simp only [Act.put, List.setIfInBounds_toArray, List.set_cons_zero, List.set_cons_succ, List.getElem_toArray, List.getElem_cons_zero, List.getElem_cons_succ]
                        refine wpAnyH_take (i := 23) rfl (by kernel_rfl) (by kernel_rfl) (by kernel_rfl) (fun _ _ _ h => h) (Or.inr ⟨by rfl, rfl⟩) (by assumption) ?_
                        try simp only [Act.put, List.setIfInBounds_toArray, List.set_cons_zero, List.set_cons_succ, List.getElem_toArray, List.getElem_cons_zero, List.getElem_cons_succ]
                        refine wpAnyH_take (i := 24) rfl (by kernel_rfl) (by kernel_rfl) (by kernel_rfl) (fun _ _ _ h => h) (Or.inr ⟨by rfl, rfl⟩) (by assumption) ?_
                        try simp only [Act.put, List.setIfInBounds_toArray, List.set_cons_zero, List.set_cons_succ, List.getElem_toArray, List.getElem_cons_zero, List.getElem_cons_succ]
                        refine wpAnyH_take (i := 25) rfl (by kernel_rfl) (by kernel_rfl) (by kernel_rfl) (fun _ _ _ h => h) (Or.inr ⟨by rfl, rfl⟩) (by assumption) ?_
                        try simp only [Act.put, List.setIfInBounds_toArray, List.set_cons_zero, List.set_cons_succ, List.getElem_toArray, List.getElem_cons_zero, List.getElem_cons_succ]
                        refine wpAnyH_take (i := 26) rfl (by kernel_rfl) (by kernel_rfl) (by kernel_rfl) (fun _ _ _ h => h) (Or.inr ⟨by rfl, rfl⟩) (by assumption) ?_
                        try simp only [Act.put, List.setIfInBounds_toArray, List.set_cons_zero, List.set_cons_succ, List.getElem_toArray, List.getElem_cons_zero, List.getElem_cons_succ]
                        refine wpAnyH_take (i := 27) rfl (by kernel_rfl) (by kernel_rfl) (by kernel_rfl) (fun _ _ _ h => h) (Or.inr ⟨by rfl, rfl⟩) (by assumption) ?_
                        try simp only [Act.put, List.setIfInBounds_toArray, List.set_cons_zero, List.set_cons_succ, List.getElem_toArray, List.getElem_cons_zero, List.getElem_cons_succ]
                        refine wpAnyH_take (i := 28) rfl (by kernel_rfl) (by kernel_rfl) (by kernel_rfl) (fun _ _ _ h => h) (Or.inr ⟨by rfl, rfl⟩) (by assumption) ?_
                        try simp only [Act.put, List.setIfInBounds_toArray, List.set_cons_zero, List.set_cons_succ, List.getElem_toArray, List.getElem_cons_zero, List.getElem_cons_succ]
                        refine wpAnyH_take (i := 29) rfl (by kernel_rfl) (by kernel_rfl) (by kernel_rfl) (fun _ _ _ h => h) (Or.inr ⟨by rfl, rfl⟩) (by assumption) ?_
                        try simp only [Act.put, List.setIfInBounds_toArray, List.set_cons_zero, List.set_cons_succ, List.getElem_toArray, List.getElem_cons_zero, List.getElem_cons_succ]
                        refine wpAnyH_take (i := 30) (v := ?_) rfl (by kernel_rfl) (by kernel_rfl) (by kernel_rfl) (fun _ _ _ h => h) (Or.inl ⟨by rfl, ?_⟩) (by assumption) ?_
                        rotate_left 1
                        · ((intro w hSw; (try dsimp only at hSw); go_simp) <;> with_reducible rfl)
                        try simp only [Act.put, List.setIfInBounds_toArray, List.set_cons_zero, List.set_cons_succ, List.getElem_toArray, List.getElem_cons_zero, List.getElem_cons_succ]
                        refine wpAnyH_take (i := 31) (v := ?_) rfl (by kernel_rfl) (by kernel_rfl) (by kernel_rfl) (fun _ _ _ h => h) (Or.inl ⟨by rfl, ?_⟩) (by assumption) ?_
                        rotate_left 1
                        · ((intro w hSw; (try dsimp only at hSw); go_simp) <;> with_reducible rfl)
                        try simp only [Act.put, List.setIfInBounds_toArray, List.set_cons_zero, List.set_cons_succ, List.getElem_toArray, List.getElem_cons_zero, List.getElem_cons_succ]
                        refine wpAnyH_take (i := 32) (v := ?_) rfl (by kernel_rfl) (by kernel_rfl) (by kernel_rfl) (fun _ _ _ h => h) (Or.inl ⟨by rfl, ?_⟩) (by assumption) ?_
                        rotate_left 1
                        · ((intro w hSw; (try dsimp only at hSw); go_simp) <;> with_reducible rfl)
                        try simp only [Act.put, List.setIfInBounds_toArray, List.set_cons_zero, List.set_cons_succ, List.getElem_toArray, List.getElem_cons_zero, List.getElem_cons_succ]
                        refine wpAnyH_take (i := 33) (v := ?_) rfl (by kernel_rfl) (by kernel_rfl) (by kernel_rfl) (fun _ _ _ h => h) (Or.inl ⟨by rfl, ?_⟩) (by assumption) ?_
                        rotate_left 1
                        · ((intro w hSw; (try dsimp only at hSw); go_simp) <;> with_reducible rfl)
                        try simp only [Act.put, List.setIfInBounds_toArray, List.set_cons_zero, List.set_cons_succ, List.getElem_toArray, List.getElem_cons_zero, List.getElem_cons_succ]
                        refine wpAnyH_take (i := 34) (v := ?_) rfl (by kernel_rfl) (by kernel_rfl) (by kernel_rfl) (fun _ _ _ h => h) (Or.inl ⟨by rfl, ?_⟩) (by assumption) ?_
                        rotate_left 1
                        · ((intro w hSw; (try dsimp only at hSw); go_simp) <;> with_reducible rfl)
                        try simp only [Act.put, List.setIfInBounds_toArray, List.set_cons_zero, List.set_cons_succ, List.getElem_toArray, List.getElem_cons_zero, List.getElem_cons_succ]
                        refine wpAnyH_take (i := 35) (v := ?_) rfl (by kernel_rfl) (by kernel_rfl) (by kernel_rfl) (fun _ _ _ h => h) (Or.inl ⟨by rfl, ?_⟩) (by assumption) ?_
                        rotate_left 1
                        · ((intro w hSw; (try dsimp only at hSw); go_simp) <;> with_reducible rfl)
                        try simp only [Act.put, List.setIfInBounds_toArray, List.set_cons_zero, List.set_cons_succ, List.getElem_toArray, List.getElem_cons_zero, List.getElem_cons_succ]
                        refine wpAnyH_take (i := 36) (v := ?_) rfl (by kernel_rfl) (by kernel_rfl) (by kernel_rfl) (fun _ _ _ h => h) (Or.inl ⟨by rfl, ?_⟩) (by assumption) ?_
                        rotate_left 1
                        · ((intro w hSw; (try dsimp only at hSw); go_simp) <;> with_reducible rfl)
                        try simp only [Act.put, List.setIfInBounds_toArray, List.set_cons_zero, List.set_cons_succ, List.getElem_toArray, List.getElem_cons_zero, List.getElem_cons_succ]
                        refine wpAnyH_take (i := 37) (v := ?_) rfl (by kernel_rfl) (by kernel_rfl) (by kernel_rfl) (fun _ _ _ h => h) (Or.inl ⟨by rfl, ?_⟩) (by assumption) ?_
                        rotate_left 1
                        · ((intro w hSw; (try dsimp only at hSw); go_simp) <;> with_reducible rfl)
                        try simp only [Act.put, List.setIfInBounds_toArray, List.set_cons_zero, List.set_cons_succ, List.getElem_toArray, List.getElem_cons_zero, List.getElem_cons_succ]
                        refine wpAnyH_take (i := 38) (v := ?_) rfl (by kernel_rfl) (by kernel_rfl) (by kernel_rfl) (fun _ _ _ h => h) (Or.inl ⟨by rfl, ?_⟩) (by assumption) ?_
                        rotate_left 1
                        · ((intro w hSw; (try dsimp only at hSw); go_simp) <;> with_reducible rfl)
                        try simp only [Act.put, List.setIfInBounds_toArray, List.set_cons_zero, List.set_cons_succ, List.getElem_toArray, List.getElem_cons_zero, List.getElem_cons_succ]
                        refine wpAnyH_take (i := 39) (v := ?_) rfl (by kernel_rfl) (by kernel_rfl) (by kernel_rfl) (fun _ _ _ h => h) (Or.inl ⟨by rfl, ?_⟩) (by assumption) ?_
                        rotate_left 1
                        · ((intro w hSw; (try dsimp only at hSw); go_simp) <;> with_reducible rfl)
                        try simp only [Act.put, List.setIfInBounds_toArray, List.set_cons_zero, List.set_cons_succ, List.getElem_toArray, List.getElem_cons_zero, List.getElem_cons_succ]
                        refine wpAnyH_take (i := 40) (v := ?_) rfl (by kernel_rfl) (by kernel_rfl) (by kernel_rfl) (fun _ _ _ h => h) (Or.inl ⟨by rfl, ?_⟩) (by assumption) ?_
                        rotate_left 1
                        · ((intro w hSw; (try dsimp only at hSw); go_simp) <;> with_reducible rfl)
                        try simp only [Act.put, List.setIfInBounds_toArray, List.set_cons_zero, List.set_cons_succ, List.getElem_toArray, List.getElem_cons_zero, List.getElem_cons_succ]
                        refine wpAnyH_take (i := 41) (v := ?_) rfl (by kernel_rfl) (by kernel_rfl) (by kernel_rfl) (fun _ _ _ h => h) (Or.inl ⟨by rfl, ?_⟩) (by assumption) ?_
                        rotate_left 1
                        · ((intro w hSw; (try dsimp only at hSw); go_simp) <;> with_reducible rfl)
                        try simp only [Act.put, List.setIfInBounds_toArray, List.set_cons_zero, List.set_cons_succ, List.getElem_toArray, List.getElem_cons_zero, List.getElem_cons_succ]
                        refine wpAnyH_take (i := 42) (v := ?_) rfl (by kernel_rfl) (by kernel_rfl) (by kernel_rfl) (fun _ _ _ h => h) (Or.inl ⟨by rfl, ?_⟩) (by assumption) ?_
                        rotate_left 1
                        · ((intro w hSw; (try dsimp only at hSw); go_simp) <;> with_reducible rfl)
                        try simp only [Act.put, List.setIfInBounds_toArray, List.set_cons_zero, List.set_cons_succ, List.getElem_toArray, List.getElem_cons_zero, List.getElem_cons_succ]
                        refine wpAnyH_take (i := 43) (v := ?_) rfl (by kernel_rfl) (by kernel_rfl) (by kernel_rfl) (fun _ _ _ h => h) (Or.inl ⟨by rfl, ?_⟩) (by assumption) ?_
                        rotate_left 1
                        · ((intro w hSw; (try dsimp only at hSw); go_simp) <;> with_reducible rfl)
                        try simp only [Act.put, List.setIfInBounds_toArray, List.set_cons_zero, List.set_cons_succ, List.getElem_toArray, List.getElem_cons_zero, List.getElem_cons_succ]
                        refine wpAnyH_done (by kernel_rfl) ?_ _
                        go_split_ands
                        go_wp2_with fail
                        go_meet
                        case rel => exact ⟨_, rfl, rfl, BInv.below ‹BInv _ _ _ _ _ _ _ _ _ _›⟩
                      · have n1 : decide ((0 : Int) < (n : Int)) = true := by rw [decide_eq_true_eq]; omega
                        have n2 : decide (0 < n) = true := by rw [decide_eq_true_eq]; omega
                        have n3 : ((n : Int) == 0) = false := by rw [beq_eq_false_iff_ne]; omega
                        have n4 : (n == 0) = false := by rw [beq_eq_false_iff_ne]; exact hkn
                        obtain ⟨g, o, gc, he, _, _, _, _, hcell⟩ := Own.some hI.keysA (by intro h; exact hkn (by rw [← HNN.out, List.map_eq_nil_iff.1 h]; rfl))
                        obtain ⟨rfl, -, rfl⟩ := slice_inj he
                        have hkey : (a.keys.map sv)[0]? = some (sv a.key) := by
                          rw [HPB.out.2.key]
                          cases hL : a.keys with
                          | nil => have h := HNN.out; rw [hL] at h; exact absurd h.symm hkn
                          | cons x R => rfl
                        have hd0 : u2.cell? ⟨g, o, none⟩ = some (sv a.key) := (hcell 0 _ hkey).1
                        have hix : ∀ W : World, (Instr.indexAt 23 (.slice (some ⟨g, o, none⟩) n oc) (.int .i64 0)).run Tryd.prog W = .ok (.pointer (some ⟨g, o, none⟩)) W := fun W => idx_str' (k := 0) rfl (by omega) W
                        clear hcell hkey he
                        refine wp_region_held_drew (S := fun W => W.cell? ⟨g, o, none⟩ = some (sv a.key) ∧ W.cell? ⟨r1, 0, none⟩ = some (.int .u8 (a.verb : Int)) ∧ W.cell? ⟨r1, 1, none⟩ = some (.slice (some ⟨g, o, none⟩) n oc) ∧ W.cell? ⟨r1, 2, none⟩ = some (.int .u8 (a.cverb : Int)) ∧ W.cell? ⟨r1, 3, none⟩ = some (sv a.key) ∧ W.cell? ⟨r1, 4, none⟩ = some (sv a.value) ∧ W.cell? ⟨r1, 5, none⟩ = some (.int .u32 (a.flags : Int)) ∧ W.cell? ⟨r1, 6, none⟩ = some (.int .i64 a.exp) ∧ W.cell? ⟨r1, 7, none⟩ = some (.int .u64 (a.id : Int)) ∧ W.cell? ⟨r1, 8, none⟩ = some (.int .u64 (a.by' : Int)) ∧ W.cell? ⟨r1, 9, none⟩ = some (.int .i64 a.bytes) ∧ W.cell? ⟨r1, 10, none⟩ = some (.bool a.quiet) ∧ W.cell? ⟨r2, 0, none⟩ = some (.int .u8 (a.verb : Int)) ∧ W.cell? ⟨r2, 1, none⟩ = some (.slice ob n od) ∧ W.cell? ⟨r2, 2, none⟩ = some (.int .u8 (a.cverb : Int)) ∧ W.cell? ⟨r2, 3, none⟩ = some (sv a.key) ∧ W.cell? ⟨r2, 4, none⟩ = some (sv a.value) ∧ W.cell? ⟨r2, 5, none⟩ = some (.int .u32 (a.flags : Int)) ∧ W.cell? ⟨r2, 6, none⟩ = some (.int .i64 a.exp) ∧ W.cell? ⟨r2, 7, none⟩ = some (.int .u64 (a.id : Int)) ∧ W.cell? ⟨r2, 8, none⟩ = some (.int .u64 (a.by' : Int)) ∧ W.cell? ⟨r2, 9, none⟩ = some (.int .i64 a.bytes) ∧ W.cell? ⟨r2, 10, none⟩ = some (.bool a.quiet) ∧ BInv w1 a n W1.heap.size (some ⟨g, o, none⟩) oc w1.heap.size ob od W) (by kernel_rfl) (heldBack1_keep (w := w1) (a := a) (Below.refl _ _).drew ⟨by assumption, by assumption, by assumption, by assumption, by assumption, by assumption, by assumption, by assumption, by assumption, by assumption, by assumption, by assumption, by assumption, by assumption, by assumption, by assumption, by assumption, by assumption, by assumption, by assumption, by assumption, by assumption, by assumption, by assumption⟩) (fun hHeld => ?_)
                        refine wpAnyH_take (i := 0) (v := ?_) rfl (by kernel_rfl) (by kernel_rfl) (by kernel_rfl) (fun _ _ _ h => h) (Or.inl ⟨by rfl, ?_⟩) (by assumption) ?_
                        rotate_left 1
                        · ((intro w hSw; (try dsimp only at hSw); go_simp) <;> with_reducible rfl)
                        try simp only [Act.put, List.setIfInBounds_toArray, List.set_cons_zero, List.set_cons_succ, List.getElem_toArray, List.getElem_cons_zero]
                        refine wpAnyH_take (i := 1) (v := ?_) rfl (by kernel_rfl) (by kernel_rfl) (by kernel_rfl) (fun _ _ _ h => h) (Or.inl ⟨by rfl, ?_⟩) (by assumption) ?_
                        rotate_left 1
                        · ((intro w hSw; (try dsimp only at hSw); go_simp) <;> with_reducible rfl)
                        try simp only [Act.put, List.setIfInBounds_toArray, List.set_cons_zero, List.set_cons_succ, List.getElem_toArray, List.getElem_cons_zero, List.getElem_cons_succ]
                        refine wpAnyH_take (i := 2) (v := ?_) rfl (by kernel_rfl) (by kernel_rfl) (by kernel_rfl) (fun _ _ _ h => h) (Or.inl ⟨by rfl, ?_⟩) (by assumption) ?_
                        rotate_left 1
                        · ((intro w hSw; (try dsimp only at hSw); go_simp) <;> with_reducible rfl)
                        try simp only [Act.put, List.setIfInBounds_toArray, List.set_cons_zero, List.set_cons_succ, List.getElem_toArray, List.getElem_cons_zero, List.getElem_cons_succ]
                        refine wpAnyH_take (i := 3) (v := ?_) rfl (by kernel_rfl) (by kernel_rfl) (by kernel_rfl) (fun _ _ _ h => h) (Or.inl ⟨by rfl, ?_⟩) (by assumption) ?_
                        rotate_left 1
                        · ((intro w hSw; (try dsimp only at hSw); go_simp) <;> with_reducible rfl)
                        try simp only [Act.put, List.setIfInBounds_toArray, List.set_cons_zero, List.set_cons_succ, List.getElem_toArray, List.getElem_cons_zero, List.getElem_cons_succ]
                        refine wpAnyH_take (i := 4) (v := ?_) rfl (by kernel_rfl) (by kernel_rfl) (by kernel_rfl) (fun _ _ _ h => h) (Or.inl ⟨by rfl, ?_⟩) (by assumption) ?_
                        rotate_left 1
                        · ((intro w hSw; (try dsimp only at hSw); go_simp) <;> with_reducible rfl)
                        try simp only [Act.put, List.setIfInBounds_toArray, List.set_cons_zero, List.set_cons_succ, List.getElem_toArray, List.getElem_cons_zero, List.getElem_cons_succ]
                        refine wpAnyH_ready (rs := [5]) (by kernel_rfl) (by simp) ?_
                        refine AllReadyH.cons rfl (fun K hK => ?_) AllReadyH.nil
                        go_split_ands
                        go_simp
                        go_at_call 8
                        refine (BInv.same ‹BInv _ _ _ _ _ _ _ _ _ _›).mono ?_
                        rintro e w9 ⟨rfl, hb9⟩
                        refine hK.out _ _ (heldBack1_keep (w := w1) (a := a) hb9 ⟨by assumption, by assumption, by assumption, by assumption, by assumption, by assumption, by assumption, by assumption, by assumption, by assumption, by assumption, by assumption, by assumption, by assumption, by assumption, by assumption, by assumption, by assumption, by assumption, by assumption, by assumption, by assumption, by assumption, by assumption⟩) (fun hHeld2 => ?_)
                        clear hK K
                        try simp only [Act.put, List.setIfInBounds_toArray, List.set_cons_zero, List.set_cons_succ, List.getElem_toArray, List.getElem_cons_zero, List.getElem_cons_succ]
                        refine wpAnyH_take (i := 6) (v := ?_) rfl (by kernel_rfl) (by kernel_rfl) (by kernel_rfl) (fun _ _ _ h => h) (Or.inl ⟨by rfl, ?_⟩) (by assumption) ?_
                        rotate_left 1
                        · ((intro w hSw; (try dsimp only at hSw); go_simp) <;> with_reducible rfl)
                        try simp only [Act.put, List.setIfInBounds_toArray, List.set_cons_zero, List.set_cons_succ, List.getElem_toArray, List.getElem_cons_zero, List.getElem_cons_succ]
                        refine wpAnyH_take (i := 7) (v := ?_) rfl (by kernel_rfl) (by kernel_rfl) (by kernel_rfl) (fun _ _ _ h => h) (Or.inl ⟨by rfl, ?_⟩) (by assumption) ?_
                        rotate_left 1
                        · ((intro w hSw; (try dsimp only at hSw); go_simp) <;> with_reducible rfl)
                        try simp only [Act.put, List.setIfInBounds_toArray, List.set_cons_zero, List.set_cons_succ, List.getElem_toArray, List.getElem_cons_zero, List.getElem_cons_succ]
                        refine wpAnyH_take (i := 8) (v := ?_) rfl (by kernel_rfl) (by kernel_rfl) (by kernel_rfl) (fun _ _ _ h => h) (Or.inl ⟨by rfl, ?_⟩) (by assumption) ?_
                        rotate_left 1
                        · ((intro w hSw; (try dsimp only at hSw); go_simp) <;> with_reducible rfl)
                        try simp only [Act.put, List.setIfInBounds_toArray, List.set_cons_zero, List.set_cons_succ, List.getElem_toArray, List.getElem_cons_zero, List.getElem_cons_succ]
                        refine wpAnyH_take (i := 9) (v := ?_) rfl (by kernel_rfl) (by kernel_rfl) (by kernel_rfl) (fun _ _ _ h => h) (Or.inl ⟨by rfl, ?_⟩) (by assumption) ?_
                        rotate_left 1
                        · ((intro w hSw; (try dsimp only at hSw); go_simp) <;> with_reducible rfl)
                        try simp only [Act.put, List.setIfInBounds_toArray, List.set_cons_zero, List.set_cons_succ, List.getElem_toArray, List.getElem_cons_zero, List.getElem_cons_succ]
                        refine wpAnyH_take (i := 10) (v := ?_) rfl (by kernel_rfl) (by kernel_rfl) (by kernel_rfl) (fun _ _ _ h => h) (Or.inl ⟨by rfl, ?_⟩) (by assumption) ?_
                        rotate_left 1
                        · ((intro w hSw; (try dsimp only at hSw); go_simp) <;> with_reducible rfl)
                        try simp only [Act.put, List.setIfInBounds_toArray, List.set_cons_zero, List.set_cons_succ, List.getElem_toArray, List.getElem_cons_zero, List.getElem_cons_succ]
                        refine wpAnyH_take (i := 11) (v := ?_) rfl (by kernel_rfl) (by kernel_rfl) (by kernel_rfl) (fun _ _ _ h => h) (Or.inl ⟨by rfl, ?_⟩) (by assumption) ?_
                        rotate_left 1
                        · ((intro w hSw; (try dsimp only at hSw); go_simp) <;> with_reducible rfl)
                        try simp only [Act.put, List.setIfInBounds_toArray, List.set_cons_zero, List.set_cons_succ, List.getElem_toArray, List.getElem_cons_zero, List.getElem_cons_succ]
                        refine wpAnyH_take (i := 12) (v := ?_) rfl (by kernel_rfl) (by kernel_rfl) (by kernel_rfl) (fun _ _ _ h => h) (Or.inl ⟨by rfl, ?_⟩) (by assumption) ?_
                        rotate_left 1
                        · ((intro w hSw; (try dsimp only at hSw); go_simp) <;> with_reducible rfl)
                        try simp only [Act.put, List.setIfInBounds_toArray, List.set_cons_zero, List.set_cons_succ, List.getElem_toArray, List.getElem_cons_zero, List.getElem_cons_succ]
                        refine wpAnyH_take (i := 13) (v := ?_) rfl (by kernel_rfl) (by kernel_rfl) (by kernel_rfl) (fun _ _ _ h => h) (Or.inl ⟨by rfl, ?_⟩) (by assumption) ?_
                        rotate_left 1
                        · ((intro w hSw; (try dsimp only at hSw); go_simp) <;> with_reducible rfl)
                        try simp only [Act.put, List.setIfInBounds_toArray, List.set_cons_zero, List.set_cons_succ, List.getElem_toArray, List.getElem_cons_zero, List.getElem_cons_succ]
                        refine wpAnyH_take (i := 14) (v := ?_) rfl (by kernel_rfl) (by kernel_rfl) (by kernel_rfl) (fun _ _ _ h => h) (Or.inl ⟨by rfl, ?_⟩) (by assumption) ?_
                        rotate_left 1
                        · ((intro w hSw; (try dsimp only at hSw); go_simp) <;> with_reducible rfl)
                        try simp only [Act.put, List.setIfInBounds_toArray, List.set_cons_zero, List.set_cons_succ, List.getElem_toArray, List.getElem_cons_zero, List.getElem_cons_succ]
                        refine wpAnyH_take (i := 15) (v := ?_) rfl (by kernel_rfl) (by kernel_rfl) (by kernel_rfl) (fun _ _ _ h => h) (Or.inl ⟨by rfl, ?_⟩) (by assumption) ?_
                        rotate_left 1
                        · ((intro w hSw; (try dsimp only at hSw); go_simp) <;> with_reducible rfl)
                        try simp only [Act.put, List.setIfInBounds_toArray, List.set_cons_zero, List.set_cons_succ, List.getElem_toArray, List.getElem_cons_zero, List.getElem_cons_succ]
                        refine wpAnyH_take (i := 16) (v := ?_) rfl (by kernel_rfl) (by kernel_rfl) (by kernel_rfl) (fun _ _ _ h => h) (Or.inl ⟨by rfl, ?_⟩) (by assumption) ?_
                        rotate_left 1
                        · ((intro w hSw; (try dsimp only at hSw); go_simp) <;> with_reducible rfl)
                        try simp only [Act.put, List.setIfInBounds_toArray, List.set_cons_zero, List.set_cons_succ, List.getElem_toArray, List.getElem_cons_zero, List.getElem_cons_succ]
                        refine wpAnyH_take (i := 17) (v := ?_) rfl (by kernel_rfl) (by kernel_rfl) (by kernel_rfl) (fun _ _ _ h => h) (Or.inl ⟨by rfl, ?_⟩) (by assumption) ?_
                        rotate_left 1
                        · ((intro w hSw; (try dsimp only at hSw); go_simp) <;> with_reducible rfl)
                        try simp only [Act.put, List.setIfInBounds_toArray, List.set_cons_zero, List.set_cons_succ, List.getElem_toArray, List.getElem_cons_zero, List.getElem_cons_succ]
                        refine wpAnyH_take (i := 18) (v := ?_) rfl (by kernel_rfl) (by kernel_rfl) (by kernel_rfl) (fun _ _ _ h => h) (Or.inl ⟨by rfl, ?_⟩) (by assumption) ?_
                        rotate_left 1
                        · ((intro w hSw; (try dsimp only at hSw); go_simp) <;> with_reducible rfl)
                        try simp only [Act.put, List.setIfInBounds_toArray, List.set_cons_zero, List.set_cons_succ, List.getElem_toArray, List.getElem_cons_zero, List.getElem_cons_succ]
                        refine wpAnyH_take (i := 19) (v := ?_) rfl (by kernel_rfl) (by kernel_rfl) (by kernel_rfl) (fun _ _ _ h => h) (Or.inl ⟨by rfl, ?_⟩) (by assumption) ?_
                        rotate_left 1
                        · ((intro w hSw; (try dsimp only at hSw); go_simp) <;> with_reducible rfl)
                        try simp only [Act.put, List.setIfInBounds_toArray, List.set_cons_zero, List.set_cons_succ, List.getElem_toArray, List.getElem_cons_zero, List.getElem_cons_succ]
                        refine wpAnyH_take (i := 20) (v := ?_) rfl (by kernel_rfl) (by kernel_rfl) (by kernel_rfl) (fun _ _ _ h => h) (Or.inl ⟨by rfl, ?_⟩) (by assumption) ?_
                        rotate_left 1
                        · ((intro w hSw; (try dsimp only at hSw); go_simp) <;> with_reducible rfl)
                        try simp only [Act.put, List.setIfInBounds_toArray, List.set_cons_zero, List.set_cons_succ, List.getElem_toArray, List.getElem_cons_zero, List.getElem_cons_succ]
                        refine wpAnyH_take (i := 21) (v := ?_) rfl (by kernel_rfl) (by kernel_rfl) (by kernel_rfl) (fun _ _ _ h => h) (Or.inl ⟨by rfl, ?_⟩) (by assumption) ?_
                        rotate_left 1
                        · ((intro w hSw; (try dsimp only at hSw); go_simp) <;> with_reducible rfl)
                        try simp only [Act.put, List.setIfInBounds_toArray, List.set_cons_zero, List.set_cons_succ, List.getElem_toArray, List.getElem_cons_zero, List.getElem_cons_succ]
                        refine wpAnyH_take (i := 22) (v := ?_) rfl (by kernel_rfl) (by kernel_rfl) (by kernel_rfl) (fun _ _ _ h => h) (Or.inl ⟨by rfl, ?_⟩) (by assumption) ?_
                        rotate_left 1
                        · ((intro w hSw; (try dsimp only at hSw); go_simp) <;> with_reducible rfl)
                        try simp only [Act.put, List.setIfInBounds_toArray, List.set_cons_zero, List.set_cons_succ, List.getElem_toArray, List.getElem_cons_zero, List.getElem_cons_succ]
                        refine wpAnyH_take (i := 23) (v := ?_) rfl (by kernel_rfl) (by kernel_rfl) (by kernel_rfl) (fun _ _ _ h => h) (Or.inl ⟨by rfl, ?_⟩) (by assumption) ?_
                        rotate_left 1
                        · ((intro w hSw; (try dsimp only at hSw); go_simp) <;> with_reducible rfl)
                        try simp only [Act.put, List.setIfInBounds_toArray, List.set_cons_zero, List.set_cons_succ, List.getElem_toArray, List.getElem_cons_zero, List.getElem_cons_succ]
                        refine wpAnyH_take (i := 24) (v := ?_) rfl (by kernel_rfl) (by kernel_rfl) (by kernel_rfl) (fun _ _ _ h => h) (Or.inl ⟨by rfl, ?_⟩) (by assumption) ?_
                        rotate_left 1
                        · ((intro w hSw; (try dsimp only at hSw); go_simp) <;> with_reducible rfl)
                        try simp only [Act.put, List.setIfInBounds_toArray, List.set_cons_zero, List.set_cons_succ, List.getElem_toArray, List.getElem_cons_zero, List.getElem_cons_succ]
                        refine wpAnyH_take (i := 25) (v := ?_) rfl (by kernel_rfl) (by kernel_rfl) (by kernel_rfl) (fun _ _ _ h => h) (Or.inl ⟨by rfl, ?_⟩) (by assumption) ?_
                        rotate_left 1
                        · ((intro w hSw; (try dsimp only at hSw); go_simp) <;> with_reducible rfl)
                        try simp only [Act.put, List.setIfInBounds_toArray, List.set_cons_zero, List.set_cons_succ, List.getElem_toArray, List.getElem_cons_zero, List.getElem_cons_succ]
                        refine wpAnyH_take (i := 26) (v := ?_) rfl (by kernel_rfl) (by kernel_rfl) (by kernel_rfl) (fun _ _ _ h => h) (Or.inl ⟨by rfl, ?_⟩) (by assumption) ?_
                        rotate_left 1
                        · ((intro w hSw; (try dsimp only at hSw); go_simp) <;> with_reducible rfl)
                        try simp only [Act.put, List.setIfInBounds_toArray, List.set_cons_zero, List.set_cons_succ, List.getElem_toArray, List.getElem_cons_zero, List.getElem_cons_succ]
                        refine wpAnyH_take (i := 27) (v := ?_) rfl (by kernel_rfl) (by kernel_rfl) (by kernel_rfl) (fun _ _ _ h => h) (Or.inl ⟨by rfl, ?_⟩) (by assumption) ?_
                        rotate_left 1
                        · ((intro w hSw; (try dsimp only at hSw); go_simp) <;> with_reducible rfl)
                        try simp only [Act.put, List.setIfInBounds_toArray, List.set_cons_zero, List.set_cons_succ, List.getElem_toArray, List.getElem_cons_zero, List.getElem_cons_succ]
                        refine wpAnyH_take (i := 28) (v := ?_) rfl (by kernel_rfl) (by kernel_rfl) (by kernel_rfl) (fun _ _ _ h => h) (Or.inl ⟨by rfl, ?_⟩) (by assumption) ?_
                        rotate_left 1
                        · ((intro w hSw; (try dsimp only at hSw); go_simp) <;> with_reducible rfl)
                        try simp only [Act.put, List.setIfInBounds_toArray, List.set_cons_zero, List.set_cons_succ, List.getElem_toArray, List.getElem_cons_zero, List.getElem_cons_succ]
                        refine wpAnyH_take (i := 29) (v := ?_) rfl (by kernel_rfl) (by kernel_rfl) (by kernel_rfl) (fun _ _ _ h => h) (Or.inl ⟨by rfl, ?_⟩) (by assumption) ?_
                        rotate_left 1
                        · ((intro w hSw; (try dsimp only at hSw); go_simp) <;> with_reducible rfl)
                        try simp only [Act.put, List.setIfInBounds_toArray, List.set_cons_zero, List.set_cons_succ, List.getElem_toArray, List.getElem_cons_zero, List.getElem_cons_succ]
                        refine wpAnyH_take (i := 30) (v := ?_) rfl (by kernel_rfl) (by kernel_rfl) (by kernel_rfl) (fun _ _ _ h => h) (Or.inl ⟨by rfl, ?_⟩) (by assumption) ?_
                        rotate_left 1
                        · ((intro w hSw; (try dsimp only at hSw); go_simp) <;> with_reducible rfl)
                        try simp only [Act.put, List.setIfInBounds_toArray, List.set_cons_zero, List.set_cons_succ, List.getElem_toArray, List.getElem_cons_zero, List.getElem_cons_succ]
                        refine wpAnyH_take (i := 31) (v := ?_) rfl (by kernel_rfl) (by kernel_rfl) (by kernel_rfl) (fun _ _ _ h => h) (Or.inl ⟨by rfl, ?_⟩) (by assumption) ?_
                        rotate_left 1
                        · ((intro w hSw; (try dsimp only at hSw); go_simp) <;> with_reducible rfl)
                        try simp only [Act.put, List.setIfInBounds_toArray, List.set_cons_zero, List.set_cons_succ, List.getElem_toArray, List.getElem_cons_zero, List.getElem_cons_succ]
                        refine wpAnyH_take (i := 32) (v := ?_) rfl (by kernel_rfl) (by kernel_rfl) (by kernel_rfl) (fun _ _ _ h => h) (Or.inl ⟨by rfl, ?_⟩) (by assumption) ?_
                        rotate_left 1
                        · ((intro w hSw; (try dsimp only at hSw); go_simp) <;> with_reducible rfl)
                        try simp only [Act.put, List.setIfInBounds_toArray, List.set_cons_zero, List.set_cons_succ, List.getElem_toArray, List.getElem_cons_zero, List.getElem_cons_succ]
                        refine wpAnyH_take (i := 33) (v := ?_) rfl (by kernel_rfl) (by kernel_rfl) (by kernel_rfl) (fun _ _ _ h => h) (Or.inl ⟨by rfl, ?_⟩) (by assumption) ?_
                        rotate_left 1
                        · ((intro w hSw; (try dsimp only at hSw); go_simp) <;> with_reducible rfl)
                        try simp only [Act.put, List.setIfInBounds_toArray, List.set_cons_zero, List.set_cons_succ, List.getElem_toArray, List.getElem_cons_zero, List.getElem_cons_succ]
                        refine wpAnyH_take (i := 34) (v := ?_) rfl (by kernel_rfl) (by kernel_rfl) (by kernel_rfl) (fun _ _ _ h => h) (Or.inl ⟨by rfl, ?_⟩) (by assumption) ?_
                        rotate_left 1
                        · ((intro w hSw; (try dsimp only at hSw); go_simp) <;> with_reducible rfl)
                        try simp only [Act.put, List.setIfInBounds_toArray, List.set_cons_zero, List.set_cons_succ, List.getElem_toArray, List.getElem_cons_zero, List.getElem_cons_succ]
                        refine wpAnyH_take (i := 35) (v := ?_) rfl (by kernel_rfl) (by kernel_rfl) (by kernel_rfl) (fun _ _ _ h => h) (Or.inl ⟨by rfl, ?_⟩) (by assumption) ?_
                        rotate_left 1
                        · ((intro w hSw; (try dsimp only at hSw); go_simp) <;> with_reducible rfl)
                        try simp only [Act.put, List.setIfInBounds_toArray, List.set_cons_zero, List.set_cons_succ, List.getElem_toArray, List.getElem_cons_zero, List.getElem_cons_succ]
                        refine wpAnyH_take (i := 36) (v := ?_) rfl (by kernel_rfl) (by kernel_rfl) (by kernel_rfl) (fun _ _ _ h => h) (Or.inl ⟨by rfl, ?_⟩) (by assumption) ?_
                        rotate_left 1
                        · ((intro w hSw; (try dsimp only at hSw); go_simp) <;> with_reducible rfl)
                        try simp only [Act.put, List.setIfInBounds_toArray, List.set_cons_zero, List.set_cons_succ, List.getElem_toArray, List.getElem_cons_zero, List.getElem_cons_succ]
                        refine wpAnyH_take (i := 37) (v := ?_) rfl (by kernel_rfl) (by kernel_rfl) (by kernel_rfl) (fun _ _ _ h => h) (Or.inl ⟨by rfl, ?_⟩) (by assumption) ?_
                        rotate_left 1
                        · ((intro w hSw; (try dsimp only at hSw); go_simp) <;> with_reducible rfl)
                        try simp only [Act.put, List.setIfInBounds_toArray, List.set_cons_zero, List.set_cons_succ, List.getElem_toArray, List.getElem_cons_zero, List.getElem_cons_succ]
                        refine wpAnyH_take (i := 38) rfl (by kernel_rfl) (by kernel_rfl) (by kernel_rfl) (fun _ _ _ h => h) (Or.inr ⟨by rfl, rfl⟩) (by assumption) ?_
                        try simp only [Act.put, List.setIfInBounds_toArray, List.set_cons_zero, List.set_cons_succ, List.getElem_toArray, List.getElem_cons_zero, List.getElem_cons_succ]
                        refine wpAnyH_take (i := 39) rfl (by kernel_rfl) (by kernel_rfl) (by kernel_rfl) (fun _ _ _ h => h) (Or.inr ⟨by rfl, rfl⟩) (by assumption) ?_
                        try simp only [Act.put, List.setIfInBounds_toArray, List.set_cons_zero, List.set_cons_succ, List.getElem_toArray, List.getElem_cons_zero, List.getElem_cons_succ]
                        refine wpAnyH_take (i := 40) rfl (by kernel_rfl) (by kernel_rfl) (by kernel_rfl) (fun _ _ _ h => h) (Or.inr ⟨by rfl, rfl⟩) (by assumption) ?_
                        try simp only [Act.put, List.setIfInBounds_toArray, List.set_cons_zero, List.set_cons_succ, List.getElem_toArray, List.getElem_cons_zero, List.getElem_cons_succ]
                        refine wpAnyH_take (i := 41) rfl (by kernel_rfl) (by kernel_rfl) (by kernel_rfl) (fun _ _ _ h => h) (Or.inr ⟨by rfl, rfl⟩) (by assumption) ?_
                        try simp only [Act.put, List.setIfInBounds_toArray, List.set_cons_zero, List.set_cons_succ, List.getElem_toArray, List.getElem_cons_zero, List.getElem_cons_succ]
                        refine wpAnyH_take (i := 42) (v := ?_) rfl (by kernel_rfl) (by kernel_rfl) (by kernel_rfl) (fun _ _ _ h => h) (Or.inl ⟨by rfl, ?_⟩) (by assumption) ?_
                        rotate_left 1
                        · ((intro w hSw; (try dsimp only at hSw); go_simp) <;> with_reducible rfl)
                        try simp only [Act.put, List.setIfInBounds_toArray, List.set_cons_zero, List.set_cons_succ, List.getElem_toArray, List.getElem_cons_zero, List.getElem_cons_succ]
                        refine wpAnyH_take (i := 43) (v := ?_) rfl (by kernel_rfl) (by kernel_rfl) (by kernel_rfl) (fun _ _ _ h => h) (Or.inl ⟨by rfl, ?_⟩) (by assumption) ?_
                        rotate_left 1
                        · ((intro w hSw; (try dsimp only at hSw); go_simp) <;> with_reducible rfl)
                        try simp only [Act.put, List.setIfInBounds_toArray, List.set_cons_zero, List.set_cons_succ, List.getElem_toArray, List.getElem_cons_zero, List.getElem_cons_succ]
                        refine wpAnyH_done (by kernel_rfl) ?_ _
                        go_split_ands
                        go_wp2_with fail
                        go_meet
                        case rel => exact ⟨_, rfl, rfl, BInv.below ‹BInv _ _ _ _ _ _ _ _ _ _›⟩
                    case rest =>
                      obtain ⟨W3, rfl, rfl, hb3'⟩ := hcut
                      have hb3 : Below w1.heap.size w1 W3 := hb3'
                      have hxa3 := (hb3.block _ (lt_of_block HXA.out)).trans HXA.out
                      have hka3 := strs_below HKA.out hb3
                      have m1 : W3.cell? ⟨r1, 1, none⟩ = some (.slice oa n oc) := (box_cells hxa3).2.1
                      have HB3 := Lib.hid hb3
                      have HKA3 := Lib.hid hka3
                      clear hb3 hb3' hxa3 hka3 a0 a1 a2 a3 a4 a5 a6 a7 a8 a9 a10 c0 c1 c2 c3 c4 c5 c6 c7 c8 c9 c10 hI n7 n8
                      go_wp2_with fail
                      go_loop [13] (fun s13 => ∃ k : Nat, k ≤ n ∧ s13 = .int .i64 k) (fun s13 => n - (intOf s13).toNat)
                      case atStart => exact ⟨0, Nat.zero_le _, rfl⟩
                      case round =>
                        obtain ⟨k, hk, rfl⟩ := hrel
                        by_cases hkn : k < n
                        · obtain ⟨x, hx⟩ : ∃ x, a.keys[k]? = some x := ⟨_, List.getElem?_eq_getElem (by rw [HNN.out]; exact hkn)⟩
                          obtain ⟨g, o, cc, he, _, _, hcell, _⟩ := HKA3.out.at (k := k) (x := sv x) (by rw [List.getElem?_map, hx]; rfl)
                          have hix : ∀ W : World, (Instr.indexAt 23 (.slice oa n oc) (.int .i64 (k : Int))).run Tryd.prog W = .ok (.pointer (some ⟨g, o + k, none⟩)) W := fun W => idx_str' (slice_inj he).1 hkn W
                          have hmem := List.mem_of_getElem? hx
                          have hokx := HPB.out.2.keysOk x hmem
                          have hxl : x.length ≤ maxLen := by
                            have h1 := flatW_mem hmem
                            have h2 := HSH.out.1
                            rw [lineS_is a _ rfl] at h2
                            simp only [List.length_append] at h2
                            unfold maxLen; omega
                          have hcal := ok_at x true W3 hokx hxl
                          have HCAL := Lib.hid hcal
                          clear he hx hmem hokx hxl hcal
                          go_wp2_with fail
                          refine HCAL.out.mono ?_
                          rintro e w' ⟨rfl, rfl⟩
                          go_wp2_with fail
                          go_round
                          case rel => exact ⟨k + 1, by omega, by go_num⟩
                          case measure => simp [intOf]; omega
                        · obtain rfl : k = n := by omega
                          go_wp2_with fail
                          go_meet
                          case rel => exact ⟨_, rfl, HB3.out⟩
                  · have his : is = false := by cases is with
                      | false => rfl
                      | true => exact absurd (b1.1 rfl) ht
                    subst his
                    clear b1 b2 b3
                    go_wp2_with fail
                    go_meet
                    case rel => exact ⟨_, rfl, Below.refl _ _⟩
                case rest =>
                  obtain ⟨W5, rfl, hb15⟩ := hcut
                  have hb5 : Below W1.heap.size W1 W5 := HBU.out.trans (hb15.mono HBU.out.size)
                  have hbw5 : Below w.heap.size w W5 := HB1.out.trans (hb5.mono HB1.out.size)
                  have hbox5 := (hb5.block _ (lt_of_block HBOX.out)).trans HBOX.out
                  have hk5 := strs_below HK.out hb5
                  have hline := line_any hk5 HC.out (by omega) (by omega) (HL.out.below hb5) (HE.out.below hb5) (HP.out.below hb5)
                  have hbc := back_cmd c
                  have hll : (lineL c).1.length ≤ 40000 := by unfold lineL; split <;> simp <;> omega
                  obtain ⟨a0, a1, a2, a3, a4, a5, a6, a7, a8, a9, a10⟩ := box_cells hbox5
                  have HLINE := Lib.hid hline
                  have HB5 := Lib.hid hb5
                  have HBW5 := Lib.hid hbw5
                  have HBOX5 := Lib.hid hbox5
                  have HK5 := Lib.hid hk5
                  clear hb15 hb5 hbw5 hbox5 hk5 hline b1 b2 b3 HXA HKA HBU HBW
                  go_wp2_with fail
                  refine HLINE.out.mono ?_
                  rintro e W6 ⟨rfl, hb56⟩
                  have hb16 := HB5.out.trans (hb56.mono HB5.out.size)
                  have hpar := lparse_at (lineL c).1 W6 (by omega) (HL.out.below hb16) (HE.out.below hb16)
                  have HPAR := Lib.hid hpar
                  have HB56 := Lib.hid hb56
                  clear hpar hb16 hb56 HLINE a0 a1 a2 a3 a4 a5 a6 a7 a8 a9 a10
                  generalize (lineL c).1 = text at *
                  generalize (lineL c).2 = may at *
                  go_wp2_with fail
                  refine HPAR.out.mono ?_
                  rintro e v7 ⟨kd, rfl, hok, hb⟩
                  generalize parseL text = R at *
                  obtain ⟨d, u⟩ := R
                  simp only at hok hbc ⊢
                  obtain ⟨od', oe, hkd⟩ := hok.len
                  rw [List.length_map] at hkd
                  subst hkd
                  have hz : (v7.alloc (.cells zeroA 29)).heap[v7.heap.size]? = some (.cells zeroA 29 (0, 0)) := heap_alloc_new _ _
                  have HOK := Lib.hid hok
                  have HBV := Lib.hid hb
                  clear hok hb HPAR
                  go_upto_region 23 with ((with_reducible show wpList _ _ _ (⟨none, Op.store _ _ _, _, _, _, _⟩ :: _) _ _); refine wpList_store_whole (by rfl) 29 (.tmp 16) (.tmp 168) (by rfl) v7.heap.size (by rfl) (cmdCells (.slice od' d.keys.length oe) d).toArray (by rfl) _ 29 hz (by rfl) (by kernel_rfl) (by simp [Value.oneCell']) ?_; intro u7 hr hg hs)
                  have hg' := grown_new hg
                  have hbu := HB56.out.trans ((below_to HBV.out hg').mono HB56.out.size)
                  have hbw7 : Below w.heap.size w u7 := HBW5.out.trans (hbu.mono HBW5.out.size)
                  have hb17 : Below W1.heap.size W1 u7 := HB5.out.trans (hbu.mono HB5.out.size)
                  have hbox7 := (hbu.block _ (lt_of_block HBOX5.out)).trans HBOX5.out
                  have hk7 := strs_below HK5.out hbu
                  have hd7 : Strs u7 W6.heap.size (.slice od' d.keys.length oe) d.keys := strs_below HOK.out ⟨hg'.os, hg'.tape, hg'.output, hg'.size, fun k hk => hg'.block k hk (by simp)⟩
                  have HBW7 := Lib.hid hbw7
                  have HB17 := Lib.hid hb17
                  cases may with
                  | false =>
                    clear hr hg hs hz hg' hbu hbw7 hb17 hbox7 hk7 hd7 HOK HBV
                    go_wp2_with fail
                    refine (lives29 _ (HL.out.below HB17.out) (HE.out.below HB17.out) (HP.out.below HB17.out)).mono ?_
                    rintro e w' ⟨rfl, hb⟩
                    go_wp2_with fail
                    go_ret
                    exact ⟨rfl, (HBW7.out).trans (hb.mono (HBW7.out).size)⟩
                  | true =>
                    obtain ⟨hdu, ht2⟩ := hbc rfl
                    obtain ⟨rfl, rfl⟩ := Prod.mk.inj hdu
                    have hsame := lsame29_any (a := d) (b := d) hk7 hd7
                    rw [(sameC_iff d d).2 rfl] at hsame
                    have t1 : decide ((text.length : Int) ≤ 2048) = true := by rw [decide_eq_true_eq]; omega
                    have t2 : decide (text.length ≤ 2048) = true := by rw [decide_eq_true_eq]; omega
                    obtain ⟨a0, a1, a2, a3, a4, a5, a6, a7, a8, a9, a10⟩ := box_cells hbox7
                    obtain ⟨b0, b1, b2, b3, b4, b5, b6, b7, b8, b9, b10⟩ := box_cells hr
                    have HSAME := Lib.hid hsame
                    clear hsame hdu ht2 hr hg hs hz hg' hbu hbw7 hb17 hbox7 hk7 hd7 HOK HBV
                    go_wp2_with fail
                    refine HSAME.out.mono ?_
                    rintro e w8 ⟨rfl, hb8⟩
                    have HB18 := Lib.hid (HB17.out.trans (hb8.mono HB17.out.size))
                    have HBW8 := Lib.hid (HBW7.out.trans (hb8.mono HBW7.out.size))
                    clear hb8 HSAME
                    go_wp2_with fail
                    refine (lives29 _ (HL.out.below HB18.out) (HE.out.below HB18.out) (HP.out.below HB18.out)).mono ?_
                    rintro e w' ⟨rfl, hb⟩
                    go_wp2_with fail
                    go_ret
                    exact ⟨rfl, (HBW8.out).trans (hb.mono (HBW8.out).size)⟩
end Go.Proofs.YtofpaooaiafpbaaDoor
