/- The law BoundsCalls, walked: of bytes the calls are the document's, in new memory. Condition: the library's variables MaxLen and ErrRange are as they are laid. -/
import Derived.Test.YtahpjhnbjkjkiaaGreatDoorLowM
import Derived.Test.YtahpjhnbjkjkiaaGreatDoorCallRef
import Derived.StillTailTactics
import Derived.Laws.IdiomCopy
namespace Go.Proofs.YtahpjhnbjkjkiaaGreatDoor
open Go.RowKit Go.ChangeMaps Go.MapKept

theorem convS_nil (W : World) : (convert 23 9 (.slice none 0 0)).run Tryz.prog W = .ok (sv []) W := by kernel_rfl
/-- The text of bytes that are read. -/
theorem brow_str {w : World} {bv : Value} {bl : List UInt8} (h : BRow w bv bl) : (convert 23 9 bv).run Tryz.prog w = .ok (sv bl) w := by
  obtain ⟨a, c, rfl, h1, h2, h3, h4⟩ := h
  cases a with
  | none =>
    obtain rfl := h3 rfl
    obtain rfl : bl = [] := List.eq_nil_of_length_eq_zero (by omega)
    exact convS_nil w
  | some A =>
    refine run_convert_bytes_back (P := Tryz.prog) w 23 9 5 A c bl Tryz.underlying23 Tryz.underlying5 Tryz.underlying9 (fun j hj => ?_)
    rcases h4 with rfl | ⟨g, o, ha, _, h5⟩
    · simp at hj
    · obtain rfl := Option.some.inj ha
      rw [show (⟨g, o, none⟩ : Addr).add j = ⟨g, o + j, none⟩ from by simp [Addr.add]]
      exact h5 j _ (List.getElem?_eq_getElem hj)
/-- Calls from one on, in cells that may be written, in a block from B on. -/
def CallsFrom (W : World) (B : Nat) (aa : Option Addr) (C : List Cmd) (i : Nat) : Prop :=
  ∀ k c, i ≤ k → C[k]? = some c → ∃ g o, aa = some ⟨g, o, none⟩ ∧ B ≤ g ∧ g < W.heap.size ∧ Tag W g 42 ∧ ∀ m u, (callCells c)[m]? = some u → W.cell? ⟨g, o + (k * 7 + m), none⟩ = some u ∧ W.frozen? ⟨g, o + (k * 7 + m), none⟩ = false
theorem set7 (W : World) (g b : Nat) (v0 v1 v2 v3 v4 v5 v6 : Value) : W.setCells g b [v0, v1, v2, v3, v4, v5, v6] = ((((((W.setCell ⟨g, b, none⟩ v0).setCell ⟨g, b + 1, none⟩ v1).setCell ⟨g, b + 2, none⟩ v2).setCell ⟨g, b + 3, none⟩ v3).setCell ⟨g, b + 4, none⟩ v4).setCell ⟨g, b + 5, none⟩ v5).setCell ⟨g, b + 6, none⟩ v6 := rfl
abbrev callZ : List Value := [.int .u8 0, sv [], sv [], .int .u32 0, .int .i64 0, .int .u64 0, .int .u64 0]
theorem calls_from {W : World} {B : Nat} {aa : Option Addr} {C : List Cmd} {n cc : Nat} (h : Clipped W 42 7 B (.slice aa n cc) C.length (callsCells C)) : CallsFrom W B aa C 0 := fun k c _ hk => by
  obtain ⟨g, o, c', he, hg, hcell⟩ := callRow_at h.2.1 hk
  obtain ⟨rfl, -, -⟩ := slice_inj he
  exact ⟨g, o, rfl, h.2.2 g rfl, hg, h.2.1.tag rfl, hcell⟩
theorem heap_setCells_tag {g : Nat} {e : TypeId} : ∀ (vs : List Value) (o : Nat) (W : World), Tag W g e → Tag (W.setCells g o vs) g e
  | [], _, _, h => h
  | v :: vs, o, W, h => by
    obtain ⟨cs, fz, hx⟩ := h
    exact heap_setCells_tag vs (o + 1) _ (by
      refine ⟨cs.setIfInBounds o v, fz, ?_⟩
      have hlt : g < W.heap.size := (Array.getElem?_eq_some_iff.1 hx).1
      have hget : W.heap[g] = .cells cs e fz := (Array.getElem?_eq_some_iff.1 hx).2
      simp [World.setCell, hlt, Array.getElem_modify, hget])
theorem cells_chg : ∀ (vs : List Value) (g o : Nat) (W : World), Chg (fun k => k = g) W (W.setCells g o vs)
  | [], _, _, _ => Chg.refl _ _
  | v :: vs, g, o, W => (set_chg W g o v).trans (cells_chg vs g (o + 1) _)
theorem calls_next {W : World} {B i g o : Nat} {C : List Cmd} (h : CallsFrom W B (some ⟨g, o, none⟩) C i) (vs : List Value) (hv : vs.length = 7) : CallsFrom (W.setCells g (o + i * 7) vs) B (some ⟨g, o, none⟩) C (i + 1) := fun k c hk hc => by
  obtain ⟨g', o', he, h1, h2, h3, h4⟩ := h k c (by omega) hc
  obtain ⟨rfl, rfl, -⟩ := Addr.mk.inj (Option.some.inj he)
  obtain ⟨cs, fz, hx⟩ := h3
  refine ⟨_, _, rfl, h1, Nat.lt_of_lt_of_le h2 (cells_chg vs g (o + i * 7) W).size, ?_, fun m u hu => ⟨?_, ?_⟩⟩
  · have := heap_setCells_tag vs (o + i * 7) W ⟨cs, fz, hx⟩
    exact this
  · rw [World.cell?_setCells_out]
    · exact (h4 m u hu).1
    · intro _ _
      right
      show o + i * 7 + vs.length ≤ o + (k * 7 + m)
      omega
  · have := (h4 m u hu).2
    rw [← World.frozen?_setCells g vs (o + i * 7) W] at this
    exact this
set_option maxRecDepth 100000 in
set_option maxHeartbeats 16000000 in
theorem boundsCalls_walk {w : World} {bv : Value} {bl : List UInt8} (hb : BRow w bv bl) (hL : HasLen w) (hE : HasErr w) :
    Calls Tryz.prog 6 #[bv] w fun e w' => e = .returned (.bool true) ∧ Below w.heap.size w w' := by
  obtain ⟨ba, bc, rfl⟩ := hb.len
  have hlv : ∀ W, Below w.heap.size w W → Calls Tryz.prog 19 #[] W fun e w' => e = .returned (.bool true) ∧ Below W.heap.size W w' := fun W hb => lives40 W (hL.below hb) (hE.below hb)
  have HLV := Lib.hid hlv
  have HBR := Lib.hid hb
  have HLL := Lib.hid hL
  have HEE := Lib.hid hE
  clear hlv hb hL hE
  by_cases h1 : 5000 < bl.length
  · have d1 : decide ((5000 : Int) < (bl.length : Int)) = true := by rw [decide_eq_true_eq]; omega
    go_enter Tryz.func6, Tryz.ntmps6
    go_wp2_with fail
    refine (HLV.out _ (Below.refl _ _)).mono ?_
    rintro e w' ⟨rfl, hb⟩
    have HB := Lib.hid hb
    clear hb
    go_wp2_with fail
    go_ret
    exact ⟨rfl, HB.out⟩
  · have d1 : decide ((5000 : Int) < (bl.length : Int)) = false := by rw [decide_eq_false_iff_not]; omega
    have hbl : bl.length ≤ 5000 := by omega
    go_enter Tryz.func6, Tryz.ntmps6
    go_wp2_with (first | (at_builtin; refine wpList_appB (l0 := []) (B := w.heap.size) _ _ (by rfl) (by rfl) (by rfl) (by rfl) (Nat.le_refl _) (World.ownsRow_nil _ _ _ _) HBR.out (by show 0 + bl.length < _; omega) (fun v1 w1 hv1 hb1 => ?_)) | fail)
    rw [List.nil_append] at hv1
    obtain ⟨ta, tc, rfl⟩ := row_slice hv1
    have ht1 : BRow w1 (.slice ta bl.length tc) bl := (Row.of_owns hv1).bytes
    have hrc := refCalls_any (HBR.out.below hb1) (by omega)
    rw [← (feed_all bl).1] at hrc
    have hok : ∀ e ∈ (runF fNew bl).2, EvOk e := (run_ok bl goodC_new).2
    have hcl : (callsL (runF fNew bl).2).length ≤ 2048 * 5000 := by
      have h1 := callsL_len hok
      have h2 := run_few bl fNew
      omega
    have hbcall := fun W (hbw : Below w.heap.size w W) (htw : BRow W (.slice ta bl.length tc) bl) => boundsCalls_any htw (by omega) (HLL.out.below hbw) (HEE.out.below hbw)
    generalize callsL (runF fNew bl).2 = C at *
    have HT1 := Lib.hid ht1
    have HRC := Lib.hid hrc
    have HBC := Lib.hid hbcall
    have HB1 := Lib.hid hb1
    clear hv1 ht1 hrc hbcall hb1 hok
    go_wp2_with fail
    refine HRC.out.mono ?_
    rintro e w2 ⟨wv, rfl, hcw⟩
    have hb2 := HB1.out.trans (hcw.low.mono HB1.out.size)
    have ht2 := HT1.out.below hcw.low
    have hw2 : CallRow w2 wv C := Row.of_owns hcw.row
    obtain ⟨wa, wc, rfl⟩ := row_slice hcw.row
    have hbc2 := HBC.out w2 hb2 ht2
    have HB2 := Lib.hid hb2
    have HT2 := Lib.hid ht2
    have HW2 := Lib.hid hw2
    have HBC2 := Lib.hid hbc2
    clear hcw hb2 ht2 hw2 hbc2 HRC HT1 HB1
    go_wp2_with fail
    refine HBC2.out.mono ?_
    rintro e w3 ⟨av, rfl, hcut, hb3⟩
    obtain ⟨aa, rfl⟩ : ∃ a, av = .slice a C.length C.length := hcut.1
    have hbl3 : Below w.heap.size w w3 := HB2.out.trans (hb3.mono HB2.out.size)
    have hb0' : BRow w3 (.slice ba bl.length bc) bl := HBR.out.below hbl3
    have ht3 : BRow w3 (.slice ta bl.length tc) bl := HT2.out.below hb3
    have k1 := brow_str hb0'
    have k2 := brow_str ht3
    have HCF := Lib.hid (calls_from hcut)
    have HW3 := Lib.hid (HW2.out.below hb3)
    have HT3 := Lib.hid ht3
    have HB3 := Lib.hid hbl3
    have hwt : ∀ g, (Value.slice wa C.length wc).ownBlock = some g → C ≠ [] → g < w2.heap.size := fun g hg hne => by
      obtain ⟨x, hx⟩ : ∃ x, C[0]? = some x := ⟨_, List.getElem?_eq_getElem (List.length_pos_iff.2 hne)⟩
      obtain ⟨g', o', c', he, hlt, _⟩ := callRow_at HW2.out hx
      obtain ⟨rfl, -, -⟩ := slice_inj he
      obtain rfl : g' = g := by simpa [Value.ownBlock] using hg
      exact hlt
    have htt : bl ≠ [] → ∀ g, (Value.slice ta bl.length tc).ownBlock = some g → g < w2.heap.size := fun hne g hg => HT2.out.blk hne hg
    have hlo2 : w.heap.size ≤ w2.heap.size := HB2.out.size
    have HWT := Lib.hid hwt
    have HTT := Lib.hid htt
    clear hcut hbl3 hb0' ht3 hb3 hwt htt HW2 HT2 HB2 HBC2
    go_wp2_with fail
    clear k1 k2
    go_loopw [6] (fun s6 wr => ∃ i : Nat, s6 = .int .i64 (i : Int) ∧ i ≤ C.length ∧ CallsFrom wr w2.heap.size aa C i ∧ CallRow wr (.slice wa C.length wc) C ∧ BRow wr (.slice ta bl.length tc) bl ∧ Below w.heap.size w wr) (fun s6 _ => C.length - (intOf s6).toNat)
    case atStart => exact ⟨0, rfl, Nat.zero_le _, HCF.out, HW3.out, HT3.out, HB3.out⟩
    case round =>
      obtain ⟨i, rfl, hi, hcf, hw, ht, hlow⟩ := hrel
      clear HCF HW3 HT3 HB3 w3
      by_cases hlt : i < C.length
      · obtain ⟨x, hx⟩ : ∃ x, C[i]? = some x := ⟨_, List.getElem?_eq_getElem hlt⟩
        obtain ⟨g1, o1, rfl, hg1, hgl1, htag, hc1⟩ := hcf i x (Nat.le_refl _) hx
        obtain ⟨g2, o2, c2, hs2, hg2, hc2⟩ := callRow_at hw hx
        obtain ⟨rfl, -, -⟩ := slice_inj hs2
        obtain ⟨b1, hb1⟩ : ∃ b, b = o1 + i * 7 := ⟨_, rfl⟩
        obtain ⟨b2, hb2⟩ : ∃ b, b = o2 + i * 7 := ⟨_, rfl⟩
        have ix1 : ∀ W : World, (Instr.indexAt 52 (.slice (some ⟨g1, o1, none⟩) C.length C.length) (.int .i64 (i : Int))).run Tryz.prog W = .ok (.pointer (some ⟨g1, b1, none⟩)) W := fun W => by rw [hb1]; exact idx_call rfl hlt W
        have ix2 : ∀ W : World, (Instr.indexAt 52 (.slice (some ⟨g2, o2, none⟩) C.length wc) (.int .i64 (i : Int))).run Tryz.prog W = .ok (.pointer (some ⟨g2, b2, none⟩)) W := fun W => by rw [hb2]; exact idx_call rfl hlt W
        have x0 : wr.cell? ⟨g1, b1, none⟩ = some (.int .u8 (x.cverb : Int)) := by
          have h := (hc1 0 _ rfl).1
          rwa [show o1 + (i * 7 + 0) = b1 from by omega] at h
        have xz0 : wr.frozen? ⟨g1, b1, none⟩ = false := by
          have h := (hc1 0 _ rfl).2
          rwa [show o1 + (i * 7 + 0) = b1 from by omega] at h
        have x1 : wr.cell? ⟨g1, b1 + 1, none⟩ = some (sv x.key) := by
          have h := (hc1 1 _ rfl).1
          rwa [show o1 + (i * 7 + 1) = b1 + 1 from by omega] at h
        have xz1 : wr.frozen? ⟨g1, b1 + 1, none⟩ = false := by
          have h := (hc1 1 _ rfl).2
          rwa [show o1 + (i * 7 + 1) = b1 + 1 from by omega] at h
        have x2 : wr.cell? ⟨g1, b1 + 2, none⟩ = some (sv x.value) := by
          have h := (hc1 2 _ rfl).1
          rwa [show o1 + (i * 7 + 2) = b1 + 2 from by omega] at h
        have xz2 : wr.frozen? ⟨g1, b1 + 2, none⟩ = false := by
          have h := (hc1 2 _ rfl).2
          rwa [show o1 + (i * 7 + 2) = b1 + 2 from by omega] at h
        have x3 : wr.cell? ⟨g1, b1 + 3, none⟩ = some (.int .u32 (x.flags : Int)) := by
          have h := (hc1 3 _ rfl).1
          rwa [show o1 + (i * 7 + 3) = b1 + 3 from by omega] at h
        have xz3 : wr.frozen? ⟨g1, b1 + 3, none⟩ = false := by
          have h := (hc1 3 _ rfl).2
          rwa [show o1 + (i * 7 + 3) = b1 + 3 from by omega] at h
        have x4 : wr.cell? ⟨g1, b1 + 4, none⟩ = some (.int .i64 x.exp) := by
          have h := (hc1 4 _ rfl).1
          rwa [show o1 + (i * 7 + 4) = b1 + 4 from by omega] at h
        have xz4 : wr.frozen? ⟨g1, b1 + 4, none⟩ = false := by
          have h := (hc1 4 _ rfl).2
          rwa [show o1 + (i * 7 + 4) = b1 + 4 from by omega] at h
        have x5 : wr.cell? ⟨g1, b1 + 5, none⟩ = some (.int .u64 (x.id : Int)) := by
          have h := (hc1 5 _ rfl).1
          rwa [show o1 + (i * 7 + 5) = b1 + 5 from by omega] at h
        have xz5 : wr.frozen? ⟨g1, b1 + 5, none⟩ = false := by
          have h := (hc1 5 _ rfl).2
          rwa [show o1 + (i * 7 + 5) = b1 + 5 from by omega] at h
        have x6 : wr.cell? ⟨g1, b1 + 6, none⟩ = some (.int .u64 (x.by' : Int)) := by
          have h := (hc1 6 _ rfl).1
          rwa [show o1 + (i * 7 + 6) = b1 + 6 from by omega] at h
        have xz6 : wr.frozen? ⟨g1, b1 + 6, none⟩ = false := by
          have h := (hc1 6 _ rfl).2
          rwa [show o1 + (i * 7 + 6) = b1 + 6 from by omega] at h
        have y0 : wr.cell? ⟨g2, b2, none⟩ = some (.int .u8 (x.cverb : Int)) := by
          have h := (hc2 0 _ rfl).1
          rwa [show o2 + (i * 7 + 0) = b2 from by omega] at h
        have y1 : wr.cell? ⟨g2, b2 + 1, none⟩ = some (sv x.key) := by
          have h := (hc2 1 _ rfl).1
          rwa [show o2 + (i * 7 + 1) = b2 + 1 from by omega] at h
        have y2 : wr.cell? ⟨g2, b2 + 2, none⟩ = some (sv x.value) := by
          have h := (hc2 2 _ rfl).1
          rwa [show o2 + (i * 7 + 2) = b2 + 2 from by omega] at h
        have y3 : wr.cell? ⟨g2, b2 + 3, none⟩ = some (.int .u32 (x.flags : Int)) := by
          have h := (hc2 3 _ rfl).1
          rwa [show o2 + (i * 7 + 3) = b2 + 3 from by omega] at h
        have y4 : wr.cell? ⟨g2, b2 + 4, none⟩ = some (.int .i64 x.exp) := by
          have h := (hc2 4 _ rfl).1
          rwa [show o2 + (i * 7 + 4) = b2 + 4 from by omega] at h
        have y5 : wr.cell? ⟨g2, b2 + 5, none⟩ = some (.int .u64 (x.id : Int)) := by
          have h := (hc2 5 _ rfl).1
          rwa [show o2 + (i * 7 + 5) = b2 + 5 from by omega] at h
        have y6 : wr.cell? ⟨g2, b2 + 6, none⟩ = some (.int .u64 (x.by' : Int)) := by
          have h := (hc2 6 _ rfl).1
          rwa [show o2 + (i * 7 + 6) = b2 + 6 from by omega] at h
        have hne : g1 ≠ g2 := by
          have := HWT.out g2 rfl (by rintro rfl; simp at hlt)
          omega
        have hall : ∀ n, CallsFrom ((wr.drewN n).setCells g1 b1 callZ) w2.heap.size (some ⟨g1, o1, none⟩) C (i + 1) ∧ CallRow ((wr.drewN n).setCells g1 b1 callZ) (.slice (some ⟨g2, o2, none⟩) C.length wc) C ∧ BRow ((wr.drewN n).setCells g1 b1 callZ) (.slice ta bl.length tc) bl ∧ Below w.heap.size w ((wr.drewN n).setCells g1 b1 callZ) := fun n => by
          have hd : Chg (fun _ => False) wr (wr.drewN n) := (Chg.refl _ _).drewN n
          have hch := cells_chg callZ g1 b1 (wr.drewN n)
          have hcfd : CallsFrom (wr.drewN n) w2.heap.size (some ⟨g1, o1, none⟩) C i := hcf
          refine ⟨?_, ?_, ?_, ?_⟩
          · rw [hb1]; exact calls_next hcfd callZ rfl
          · exact (hw.kept hd (fun _ _ e => e)).kept hch (fun g hg e => by
              obtain rfl : g2 = g := by simpa [Value.ownBlock] using hg
              exact hne e.symm)
          · exact (ht.kept hd (fun _ _ _ e => e)).kept hch (fun hn g hg e => by have := HTT.out hn g hg; omega)
          · exact (low_drewN hlow n).trans (hch.below (fun k hk => ⟨Nat.lt_of_lt_of_le hk hlow.size, fun e => by omega⟩))
        have hall2 := fun n => hall n
        simp only [set7] at hall2
        have HN := Lib.hid hall2
        clear hall hall2 hcf hw ht hlow hc1 hc2 hs2 hx htag hb1 hb2
        go_wp2_with fail
        go_quiet (fail)
        go_wp2_with fail
        go_roundw
        case rel => exact ⟨i + 1, by go_num, by omega, (HN.out _).1, (HN.out _).2.1, (HN.out _).2.2.1, (HN.out _).2.2.2⟩
        case measure => simp [intOf]; omega
      · have hbc := HBC.out wr hlow ht
        have HBCr := Lib.hid hbc
        have HW := Lib.hid hw
        have HLOW := Lib.hid hlow
        clear hcf hw ht hlow hbc
        go_wp2_with fail
        refine HBCr.out.mono ?_
        rintro e w4 ⟨cv, rfl, hcut, hb4⟩
        obtain ⟨ca, rfl⟩ : ∃ a, cv = .slice a C.length C.length := hcut.1
        have hw4 := HW.out.below hb4
        have hl4 : Below w.heap.size w w4 := HLOW.out.trans (hb4.mono HLOW.out.size)
        have HL4 := Lib.hid hl4
        have hcr : CallRow w4 (.slice ca C.length C.length) C := hcut.2.1
        by_cases h0 : C.length = 0
        · have hC : C = [] := List.eq_nil_of_length_eq_zero h0
          clear hcut hb4 hw4 hl4 hcr h0 HW HLOW HBCr
          subst hC
          rw [show ([] : List Cmd).length = 0 from rfl]
          go_wp2_with fail
          refine wp_region_held_drew (S := fun W => Below w.heap.size w W) (by kernel_rfl) HL4.out.drew (fun hHeld => ?_)
          refine wpAnyH_take (i := 0) (v := ?_) rfl (by kernel_rfl) (by kernel_rfl) (by kernel_rfl) (fun _ _ _ h => h) (Or.inl ⟨by rfl, ?_⟩) (by assumption) ?_
          rotate_left 1
          · ((intro w hSw; (try dsimp only at hSw); go_simp) <;> with_reducible rfl)
          try simp only [Act.put, List.setIfInBounds_toArray, List.set_cons_zero, List.set_cons_succ, List.getElem_toArray, List.getElem_cons_zero]
          refine wpAnyH_take (i := 1) (v := ?_) rfl (by kernel_rfl) (by kernel_rfl) (by kernel_rfl) (fun _ _ _ h => h) (Or.inl ⟨by rfl, ?_⟩) (by assumption) ?_
          rotate_left 1
          · ((intro w hSw; (try dsimp only at hSw); go_simp) <;> with_reducible rfl)
          try simp only [Act.put, List.setIfInBounds_toArray, List.set_cons_zero, List.set_cons_succ, List.getElem_toArray, List.getElem_cons_zero, List.getElem_cons_succ]
          refine wpAnyH_take (i := 2) (v := ?_) rfl (by kernel_rfl) (by kernel_rfl) (by kernel_rfl) (fun _ _ _ h => h) (Or.inl ⟨by rfl, ?_⟩) (by assumption) ?_
          rotate_left 1
          · ((intro w hSw; (try dsimp only at hSw); go_simp) <;> with_reducible rfl)
          try simp only [Act.put, List.setIfInBounds_toArray, List.set_cons_zero, List.set_cons_succ, List.getElem_toArray, List.getElem_cons_zero, List.getElem_cons_succ]
          refine wpAnyH_take (i := 3) (v := ?_) rfl (by kernel_rfl) (by kernel_rfl) (by kernel_rfl) (fun _ _ _ h => h) (Or.inl ⟨by rfl, ?_⟩) (by assumption) ?_
          rotate_left 1
          · ((intro w hSw; (try dsimp only at hSw); go_simp) <;> with_reducible rfl)
          try simp only [Act.put, List.setIfInBounds_toArray, List.set_cons_zero, List.set_cons_succ, List.getElem_toArray, List.getElem_cons_zero, List.getElem_cons_succ]
          refine wpAnyH_take (i := 4) (v := ?_) rfl (by kernel_rfl) (by kernel_rfl) (by kernel_rfl) (fun _ _ _ h => h) (Or.inl ⟨by rfl, ?_⟩) (by assumption) ?_
          rotate_left 1
          · ((intro w hSw; (try dsimp only at hSw); go_simp) <;> with_reducible rfl)
          try simp only [Act.put, List.setIfInBounds_toArray, List.set_cons_zero, List.set_cons_succ, List.getElem_toArray, List.getElem_cons_zero, List.getElem_cons_succ]
          refine wpAnyH_take (i := 5) (v := ?_) rfl (by kernel_rfl) (by kernel_rfl) (by kernel_rfl) (fun _ _ _ h => h) (Or.inl ⟨by rfl, ?_⟩) (by assumption) ?_
          rotate_left 1
          · ((intro w hSw; (try dsimp only at hSw); go_simp) <;> with_reducible rfl)
          try simp only [Act.put, List.setIfInBounds_toArray, List.set_cons_zero, List.set_cons_succ, List.getElem_toArray, List.getElem_cons_zero, List.getElem_cons_succ]
          refine wpAnyH_take (i := 6) (v := ?_) rfl (by kernel_rfl) (by kernel_rfl) (by kernel_rfl) (fun _ _ _ h => h) (Or.inl ⟨by rfl, ?_⟩) (by assumption) ?_
          rotate_left 1
          · ((intro w hSw; (try dsimp only at hSw); go_simp) <;> with_reducible rfl)
          try simp only [Act.put, List.setIfInBounds_toArray, List.set_cons_zero, List.set_cons_succ, List.getElem_toArray, List.getElem_cons_zero, List.getElem_cons_succ]
          refine wpAnyH_take (i := 7) (v := ?_) rfl (by kernel_rfl) (by kernel_rfl) (by kernel_rfl) (fun _ _ _ h => h) (Or.inl ⟨by rfl, ?_⟩) (by assumption) ?_
          rotate_left 1
          · ((intro w hSw; (try dsimp only at hSw); go_simp) <;> with_reducible rfl)
          try simp only [Act.put, List.setIfInBounds_toArray, List.set_cons_zero, List.set_cons_succ, List.getElem_toArray, List.getElem_cons_zero, List.getElem_cons_succ]
          refine wpAnyH_take (i := 8) (v := ?_) rfl (by kernel_rfl) (by kernel_rfl) (by kernel_rfl) (fun _ _ _ h => h) (Or.inl ⟨by rfl, ?_⟩) (by assumption) ?_
          rotate_left 1
          · ((intro w hSw; (try dsimp only at hSw); go_simp) <;> with_reducible rfl)
          try simp only [Act.put, List.setIfInBounds_toArray, List.set_cons_zero, List.set_cons_succ, List.getElem_toArray, List.getElem_cons_zero, List.getElem_cons_succ]
          refine wpAnyH_take (i := 9) (v := ?_) rfl (by kernel_rfl) (by kernel_rfl) (by kernel_rfl) (fun _ _ _ h => h) (Or.inl ⟨by rfl, ?_⟩) (by assumption) ?_
          rotate_left 1
          · ((intro w hSw; (try dsimp only at hSw); go_simp) <;> with_reducible rfl)
          try simp only [Act.put, List.setIfInBounds_toArray, List.set_cons_zero, List.set_cons_succ, List.getElem_toArray, List.getElem_cons_zero, List.getElem_cons_succ]
          refine wpAnyH_take (i := 10) rfl (by kernel_rfl) (by kernel_rfl) (by kernel_rfl) (fun _ _ _ h => h) (Or.inr ⟨by rfl, rfl⟩) (by assumption) ?_
          try simp only [Act.put, List.setIfInBounds_toArray, List.set_cons_zero, List.set_cons_succ, List.getElem_toArray, List.getElem_cons_zero, List.getElem_cons_succ]
          refine wpAnyH_take (i := 11) rfl (by kernel_rfl) (by kernel_rfl) (by kernel_rfl) (fun _ _ _ h => h) (Or.inr ⟨by rfl, rfl⟩) (by assumption) ?_
          try simp only [Act.put, List.setIfInBounds_toArray, List.set_cons_zero, List.set_cons_succ, List.getElem_toArray, List.getElem_cons_zero, List.getElem_cons_succ]
          refine wpAnyH_take (i := 12) rfl (by kernel_rfl) (by kernel_rfl) (by kernel_rfl) (fun _ _ _ h => h) (Or.inr ⟨by rfl, rfl⟩) (by assumption) ?_
          try simp only [Act.put, List.setIfInBounds_toArray, List.set_cons_zero, List.set_cons_succ, List.getElem_toArray, List.getElem_cons_zero, List.getElem_cons_succ]
          refine wpAnyH_take (i := 13) rfl (by kernel_rfl) (by kernel_rfl) (by kernel_rfl) (fun _ _ _ h => h) (Or.inr ⟨by rfl, rfl⟩) (by assumption) ?_
          try simp only [Act.put, List.setIfInBounds_toArray, List.set_cons_zero, List.set_cons_succ, List.getElem_toArray, List.getElem_cons_zero, List.getElem_cons_succ]
          refine wpAnyH_take (i := 14) rfl (by kernel_rfl) (by kernel_rfl) (by kernel_rfl) (fun _ _ _ h => h) (Or.inr ⟨by rfl, rfl⟩) (by assumption) ?_
          try simp only [Act.put, List.setIfInBounds_toArray, List.set_cons_zero, List.set_cons_succ, List.getElem_toArray, List.getElem_cons_zero, List.getElem_cons_succ]
          refine wpAnyH_take (i := 15) rfl (by kernel_rfl) (by kernel_rfl) (by kernel_rfl) (fun _ _ _ h => h) (Or.inr ⟨by rfl, rfl⟩) (by assumption) ?_
          try simp only [Act.put, List.setIfInBounds_toArray, List.set_cons_zero, List.set_cons_succ, List.getElem_toArray, List.getElem_cons_zero, List.getElem_cons_succ]
          refine wpAnyH_take (i := 16) rfl (by kernel_rfl) (by kernel_rfl) (by kernel_rfl) (fun _ _ _ h => h) (Or.inr ⟨by rfl, rfl⟩) (by assumption) ?_
          try simp only [Act.put, List.setIfInBounds_toArray, List.set_cons_zero, List.set_cons_succ, List.getElem_toArray, List.getElem_cons_zero, List.getElem_cons_succ]
          refine wpAnyH_take (i := 17) (v := ?_) rfl (by kernel_rfl) (by kernel_rfl) (by kernel_rfl) (fun _ _ _ h => h) (Or.inl ⟨by rfl, ?_⟩) (by assumption) ?_
          rotate_left 1
          · ((intro w hSw; (try dsimp only at hSw); go_simp) <;> with_reducible rfl)
          try simp only [Act.put, List.setIfInBounds_toArray, List.set_cons_zero, List.set_cons_succ, List.getElem_toArray, List.getElem_cons_zero, List.getElem_cons_succ]
          refine wpAnyH_take (i := 18) (v := ?_) rfl (by kernel_rfl) (by kernel_rfl) (by kernel_rfl) (fun _ _ _ h => h) (Or.inl ⟨by rfl, ?_⟩) (by assumption) ?_
          rotate_left 1
          · ((intro w hSw; (try dsimp only at hSw); go_simp) <;> with_reducible rfl)
          try simp only [Act.put, List.setIfInBounds_toArray, List.set_cons_zero, List.set_cons_succ, List.getElem_toArray, List.getElem_cons_zero, List.getElem_cons_succ]
          refine wpAnyH_take (i := 19) (v := ?_) rfl (by kernel_rfl) (by kernel_rfl) (by kernel_rfl) (fun _ _ _ h => h) (Or.inl ⟨by rfl, ?_⟩) (by assumption) ?_
          rotate_left 1
          · ((intro w hSw; (try dsimp only at hSw); go_simp) <;> with_reducible rfl)
          try simp only [Act.put, List.setIfInBounds_toArray, List.set_cons_zero, List.set_cons_succ, List.getElem_toArray, List.getElem_cons_zero, List.getElem_cons_succ]
          refine wpAnyH_ready (rs := [20]) (by kernel_rfl) (by simp) ?_
          refine AllReadyH.cons rfl (fun K hK => ?_) AllReadyH.nil
          go_simp
          go_at_call 19
          refine (HLV.out _ HL4.out.drew).mono ?_
          rintro e w5 ⟨rfl, hb5⟩
          have hl5 : Below w.heap.size w w5 := HL4.out.drew.trans (hb5.mono HL4.out.drew.size)
          refine hK.out _ _ hl5 (fun hHeld2 => ?_)
          clear hK K
          try simp only [Act.put, List.setIfInBounds_toArray, List.set_cons_zero, List.set_cons_succ, List.getElem_toArray, List.getElem_cons_zero, List.getElem_cons_succ]
          refine wpAnyH_take (i := 21) (v := ?_) rfl (by kernel_rfl) (by kernel_rfl) (by kernel_rfl) (fun _ _ _ h => h) (Or.inl ⟨by rfl, ?_⟩) (by assumption) ?_
          rotate_left 1
          · ((intro w hSw; (try dsimp only at hSw); go_simp) <;> with_reducible rfl)
          try simp only [Act.put, List.setIfInBounds_toArray, List.set_cons_zero, List.set_cons_succ, List.getElem_toArray, List.getElem_cons_zero, List.getElem_cons_succ]
          refine wpAnyH_take (i := 22) (v := ?_) rfl (by kernel_rfl) (by kernel_rfl) (by kernel_rfl) (fun _ _ _ h => h) (Or.inl ⟨by rfl, ?_⟩) (by assumption) ?_
          rotate_left 1
          · ((intro w hSw; (try dsimp only at hSw); go_simp) <;> with_reducible rfl)
          try simp only [Act.put, List.setIfInBounds_toArray, List.set_cons_zero, List.set_cons_succ, List.getElem_toArray, List.getElem_cons_zero, List.getElem_cons_succ]
          refine wpAnyH_done (by kernel_rfl) ?_ _
          have HL5 := Lib.hid hl5
          clear hl5 hb5 hHeld2
          go_wp2_with fail
          go_ret
          exact ⟨rfl, HL5.out⟩
        · obtain ⟨x, hx⟩ : ∃ x, C[0]? = some x := ⟨_, List.getElem?_eq_getElem (by omega)⟩
          obtain ⟨g1, o1, c1, hs1, hg1, hc1⟩ := callRow_at hcr hx
          obtain ⟨rfl, -, -⟩ := slice_inj hs1
          obtain ⟨g2, o2, c2, hs2, hg2, hc2⟩ := callRow_at hw4 hx
          obtain ⟨rfl, -, -⟩ := slice_inj hs2
          have ix1 : ∀ W : World, (Instr.indexAt 52 (.slice (some ⟨g1, o1, none⟩) C.length C.length) (.int .i64 0)).run Tryz.prog W = .ok (.pointer (some ⟨g1, o1, none⟩)) W := fun W => idx_call (k := 0) rfl (by omega) W
          have ix2 : ∀ W : World, (Instr.indexAt 52 (.slice (some ⟨g2, o2, none⟩) C.length wc) (.int .i64 0)).run Tryz.prog W = .ok (.pointer (some ⟨g2, o2, none⟩)) W := fun W => idx_call (k := 0) rfl (by omega) W
          have x0 : w4.cell? ⟨g1, o1, none⟩ = some (.int .u8 (x.cverb : Int)) := by
            have h := (hc1 0 _ rfl).1
            rwa [show o1 + (0 * 7 + 0) = o1 from by omega] at h
          have x1 : w4.cell? ⟨g1, o1 + 1, none⟩ = some (sv x.key) := by
            have h := (hc1 1 _ rfl).1
            rwa [show o1 + (0 * 7 + 1) = o1 + 1 from by omega] at h
          have x2 : w4.cell? ⟨g1, o1 + 2, none⟩ = some (sv x.value) := by
            have h := (hc1 2 _ rfl).1
            rwa [show o1 + (0 * 7 + 2) = o1 + 2 from by omega] at h
          have x3 : w4.cell? ⟨g1, o1 + 3, none⟩ = some (.int .u32 (x.flags : Int)) := by
            have h := (hc1 3 _ rfl).1
            rwa [show o1 + (0 * 7 + 3) = o1 + 3 from by omega] at h
          have x4 : w4.cell? ⟨g1, o1 + 4, none⟩ = some (.int .i64 x.exp) := by
            have h := (hc1 4 _ rfl).1
            rwa [show o1 + (0 * 7 + 4) = o1 + 4 from by omega] at h
          have x5 : w4.cell? ⟨g1, o1 + 5, none⟩ = some (.int .u64 (x.id : Int)) := by
            have h := (hc1 5 _ rfl).1
            rwa [show o1 + (0 * 7 + 5) = o1 + 5 from by omega] at h
          have x6 : w4.cell? ⟨g1, o1 + 6, none⟩ = some (.int .u64 (x.by' : Int)) := by
            have h := (hc1 6 _ rfl).1
            rwa [show o1 + (0 * 7 + 6) = o1 + 6 from by omega] at h
          have y0 : w4.cell? ⟨g2, o2, none⟩ = some (.int .u8 (x.cverb : Int)) := by
            have h := (hc2 0 _ rfl).1
            rwa [show o2 + (0 * 7 + 0) = o2 from by omega] at h
          have y1 : w4.cell? ⟨g2, o2 + 1, none⟩ = some (sv x.key) := by
            have h := (hc2 1 _ rfl).1
            rwa [show o2 + (0 * 7 + 1) = o2 + 1 from by omega] at h
          have y2 : w4.cell? ⟨g2, o2 + 2, none⟩ = some (sv x.value) := by
            have h := (hc2 2 _ rfl).1
            rwa [show o2 + (0 * 7 + 2) = o2 + 2 from by omega] at h
          have y3 : w4.cell? ⟨g2, o2 + 3, none⟩ = some (.int .u32 (x.flags : Int)) := by
            have h := (hc2 3 _ rfl).1
            rwa [show o2 + (0 * 7 + 3) = o2 + 3 from by omega] at h
          have y4 : w4.cell? ⟨g2, o2 + 4, none⟩ = some (.int .i64 x.exp) := by
            have h := (hc2 4 _ rfl).1
            rwa [show o2 + (0 * 7 + 4) = o2 + 4 from by omega] at h
          have y5 : w4.cell? ⟨g2, o2 + 5, none⟩ = some (.int .u64 (x.id : Int)) := by
            have h := (hc2 5 _ rfl).1
            rwa [show o2 + (0 * 7 + 5) = o2 + 5 from by omega] at h
          have y6 : w4.cell? ⟨g2, o2 + 6, none⟩ = some (.int .u64 (x.by' : Int)) := by
            have h := (hc2 6 _ rfl).1
            rwa [show o2 + (0 * 7 + 6) = o2 + 6 from by omega] at h
          have t1 : ((C.length : Int) == 0) = false := by rw [beq_eq_false_iff_ne]; omega
          clear hcut hb4 hw4 hl4 hcr h0 HW HLOW HBCr hs1 hs2 hc1 hc2 hx
          go_wp2_with fail
          go_still_tail 20, (by kernel_rfl)
          all_goals go_wp2_with fail
          refine (HLV.out _ HL4.out.drew).mono ?_
          rintro e w' ⟨rfl, hb⟩
          have HB := Lib.hid (HL4.out.drew.trans (hb.mono HL4.out.drew.size))
          clear hb
          go_wp2_with fail
          go_ret
          exact ⟨rfl, HB.out⟩
end Go.Proofs.YtahpjhnbjkjkiaaGreatDoor
