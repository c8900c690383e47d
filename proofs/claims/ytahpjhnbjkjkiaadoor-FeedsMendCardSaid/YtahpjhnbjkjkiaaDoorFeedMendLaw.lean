/- The law FeedsMend, walked: 1026 bytes 10 bring a feed back. Condition: the library's variables MaxLen and ErrRange are as they are laid. -/
import Derived.Test.YtahpjhnbjkjkiaaDoorFeedLike
import Derived.Test.YtahpjhnbjkjkiaaDoorFeedCuts
import Derived.Test.YtahpjhnbjkjkiaaDoorFeedBackLaw
import Derived.Laws.IdiomStrings
import Derived.Laws.MakeOwn
import Derived.Test.YtahpjhnbjkjkiaaDoorFeedLives
import Derived.StillTailTactics
import Derived.BigFrame
namespace Go.Proofs.YtahpjhnbjkjkiaaDoor
open Go.RowKit Go.ChangeMaps Go.MapKept

/-- Bytes appended to nothing. -/
theorem wp_app0 {o : Oper} {a : Act} {K : Act → World → Prop} {Q : Exit → Act → World → Prop} {w : World} (s x : Operand)
    (ho : o.op = .call { callee := .builtin .append, args := #[s, x], argTypes := #[22, 22] }) (hs : a.eval s = .slice none 0 0) {bv : Value} {bl : List UInt8} (hx : a.eval x = bv) (hb : BRow w bv bl) (hl : bl.length ≤ 6000)
    (h : ∀ v' w', w'.ownsRow w.heap.size 5 1 v' bl.length (bl.map u8v) → w.grownBy w' none → K (a.put o.dst v') w') : o.wp Tryd.prog a w K Q := by
  obtain ⟨i0, hi, hz0, hz1, hz2⟩ := info_parts infoByte
  obtain ⟨ba, bc, rfl, h1, h2, h3, h4⟩ := hb
  cases ba with
  | none =>
    obtain rfl := h3 rfl
    obtain rfl : bl = [] := List.eq_nil_of_length_eq_zero (by omega)
    have hrun := run_append_owned_none (P := Tryd.prog) (w := w) w.heap.size 22 o.type 5 i0 1 Tryd.underlying22 hi (.slice none 0 0) 0 [] (World.ownsRow_nil _ _ _ _)
    have hx' : a.eval x = .slice none 0 0 := hx
    unfold Oper.wp
    simp [execOp, ho, resolve, invoke, builtin, hs, hx', hrun, Result.andThen]
    exact h _ _ (World.ownsRow_nil _ _ _ _) (World.grownBy.refl _ _)
  | some A =>
    refine wp_append_own w s x 22 ho w.heap.size 5 i0 (.int .u8 0) 1 1 Tryd.underlying22 hi hz0 hz1 hz2 rfl (by omega) (.slice none 0 0) 0 [] hs (World.ownsRow_nil _ _ _ _) A bl.length bc (bl.map u8v) hx (by simp) ?_ (fun u hu => ?_) (by unfold maxLen; omega) (by omega) (Nat.le_refl _) (fun v' w' h5 h6 _ => h v' w' (by simpa using h5) h6)
    · intro j u hu
      rcases h4 with rfl | ⟨g, o', he, _, hc⟩
      · simp at hu
      · obtain rfl := Option.some.inj he
        rw [List.getElem?_map] at hu
        obtain ⟨c, hcj, rfl⟩ := Option.map_eq_some_iff.1 hu
        rw [Addr.add_mid]
        exact hc j c hcj
    · obtain ⟨c, _, rfl⟩ := List.mem_map.1 hu
      rfl
/-- The bytes of a text. -/
theorem conv_str (W : World) (l : List UInt8) (hl : l.length ≤ 1000) : ∃ (c : Nat) (o : Obj), (convert 9 22 (sv l)).run Tryd.prog W = .ok (.slice (some ⟨W.heap.size, 0, none⟩) l.length c) (W.drew.alloc o) ∧
    BRow (W.drew.alloc o) (.slice (some ⟨W.heap.size, 0, none⟩) l.length c) l ∧ Tag (W.drew.alloc o) W.heap.size 5 := by
  have h := run_bytes_of_string (P := Tryd.prog) W 9 22 5 ⟨l.toArray⟩ Tryd.underlying9 Tryd.underlying22 Tryd.underlying5
  have hsz : (⟨l.toArray⟩ : ByteArray).size = l.length := by simp [ByteArray.size]
  have hb : ∀ o : Obj, (W.drew.alloc o).heap[W.heap.size]? = some o := fun o => heap_alloc_new W.drew o
  refine ⟨_, _, by rw [← hsz]; exact h, ⟨_, _, rfl, ?_, ?_, (fun h => by cases h), .inr ⟨W.heap.size, 0, rfl, ?_, fun j x hx => ?_⟩⟩, ⟨_, _, hb _⟩⟩
  · rw [hsz]; exact grownCap_ge _ _ _ _
  · exact grownCap_le_maxLen _ _ _ _ (by rw [hsz]; unfold maxLen; omega)
  · exact (Array.getElem?_eq_some_iff.1 (hb _)).1
  · have hj : j < l.length := (List.getElem?_eq_some_iff.1 hx).1
    simp only [World.cell?, hb, Nat.zero_add]
    rw [bytesRow_at _ _ _ (by simpa using hj)]
    have hx2 : l[j] = x := (List.getElem?_eq_some_iff.1 hx).2
    simp [hx2]
/-- Was something told to be too large? -/
def largeB (bl : List UInt8) : Bool := (runF fNew bl).2.any (fun x => x.told == 5)
set_option maxRecDepth 100000 in
set_option maxHeartbeats 4000000 in
theorem large_any {w : World} {bv : Value} {bl : List UInt8} (hb : BRow w bv bl) (hl : bl.length ≤ 6000) (hL : HasLen w) (hE : HasErr w) :
    Calls Tryd.prog 14 #[bv] w fun e w' => e = .returned (.bool (largeB bl)) ∧ Below w.heap.size w w' := by
  obtain ⟨ba, bc, rfl⟩ := hb.len
  have hblow : bl ≠ [] → ∀ g, (Value.slice ba bl.length bc).ownBlock = some g → g < w.heap.size := fun hne g hg => hb.blk hne hg
  have HBL := Lib.hid hblow
  have hE0 := (Env.of hL hE).chg (M := fun _ => False) ((Chg.refl _ _).alloc (.cells feedZero 65)) (fun _ e => e.elim)
  have hB0 := (Below.refl w.heap.size w).alloc (Nat.le_refl _) (.cells feedZero 65)
  have H0 := Lib.hid (show FeedAt w.heap.size (w.alloc (.cells feedZero 65)) w.heap.size 65 [] (.slice none 0 0) (.slice none 0 0) fNew from feed_new w (Nat.le_refl _))
  have HE0 := Lib.hid hE0
  have HB0 := Lib.hid hB0
  have HBR := Lib.hid hb
  clear hblow hE0 hB0 hL hE hb
  go_enter Tryd.func14, Tryd.ntmps14
  go_wp2_with fail
  refine (new_any w).mono ?_
  rintro e w0 ⟨rfl, rfl⟩
  generalize w.alloc (.cells feedZero 65) = W0 at *
  go_wp2_with fail
  refine (in_any H0.out HE0.out HB0.out.size goodF_new (by show 0 + bl.length < _; omega) (HBR.out.below HB0.out) (fun hne g hg => .inl (HBL.out hne g hg)) (fun _ _ _ e => by simp [Value.ownBlock] at e) ⟨by decide, by decide, by decide⟩ (by decide)).mono ?_
  rintro e w1 ⟨hvf, ksf, wv, Lw, rfl, hf1, hc1, hfr1, hwev, hcut, hkw⟩
  have hb1 := HB0.out.trans (hc1.below (fun k hk => ⟨Nat.lt_of_lt_of_le hk HB0.out.size, fun hm => by have := H0.out.lowM k hm; omega⟩))
  obtain ⟨wa, rfl⟩ := hcut.1
  have HR := Lib.hid (show EvRow w1 (.slice wa Lw.length Lw.length) Lw from ⟨hcut.2.1, hkw⟩)
  have HB1 := Lib.hid hb1
  have HW := Lib.hid (show (largeB bl) = Lw.any (fun x => x.2.told == 5) by unfold largeB; rw [← hwev, List.any_map]; rfl)
  have hmx := HR.out.1.max
  unfold maxLen at hmx
  clear hf1 hc1 hfr1 hcut hkw hb1 H0 HE0 HB0 hwev HBR HBL
  go_wp2_with fail
  go_loopw [5] (fun s5 wr => ∃ i : Nat, i ≤ Lw.length ∧ s5 = .int .i64 (i : Int) ∧ wr = w1 ∧ (Lw.take i).any (fun x => x.2.told == 5) = false) (fun s5 _ => Lw.length - (intOf s5).toNat)
  case atStart => exact ⟨0, Nat.zero_le _, rfl, rfl, rfl⟩
  case round =>
    obtain ⟨i, hi, rfl, rfl, hno⟩ := hrel
    by_cases hlt : i < Lw.length
    · obtain ⟨⟨ke, ev⟩, hx⟩ : ∃ x, Lw[i]? = some x := ⟨_, List.getElem?_eq_getElem hlt⟩
      obtain ⟨g1, o1, c1, hs1, hcell1, -⟩ := HR.out.at hx
      obtain ⟨rfl, -, -⟩ := slice_inj hs1
      have i1 := fun W : World => idx_ev (a := some ⟨g1, o1, none⟩) (c := Lw.length) rfl hlt W
      have x12 : wr.cell? ⟨g1, o1 + i * 13 + 12, none⟩ = some (.int .u8 (ev.told : Int)) := by
        have h := hcell1 12 _ rfl
        rwa [show o1 + (i * 13 + 12) = o1 + i * 13 + 12 from by omega] at h
      have htake : Lw.take (i + 1) = Lw.take i ++ [(ke, ev)] := by rw [List.take_add_one, hx]; rfl
      have HT := Lib.hid htake
      have HNO := Lib.hid hno
      have HX := Lib.hid hx
      clear hs1 hcell1 htake hno hx
      by_cases h5 : ev.told = 5
      · have h5' : (ev.told : Int) = 5 := by omega
        rw [h5'] at x12
        go_wp2_with fail
        go_ret
        refine ⟨?_, HB1.out⟩
        have hany : Lw.any (fun x => x.2.told == 5) = true := List.any_eq_true.2 ⟨_, List.mem_of_getElem? HX.out, by simp [h5]⟩
        rw [HW.out, hany]; rfl
      · obtain ⟨T, hT⟩ : ∃ T : Int, T = (ev.told : Int) := ⟨_, rfl⟩
        rw [← hT] at x12
        have h5a : ¬ T = 5 := by omega
        have h5b : (T == 5) = false := by rw [beq_eq_false_iff_ne]; exact h5a
        clear hT
        go_wp2_with fail
        go_roundw
        case rel => exact ⟨i + 1, by omega, by go_num, (by first | rfl | trivial), by rw [HT.out, List.any_append, HNO.out]; simp [h5]⟩
        case measure => simp [intOf]; omega
    · go_wp2_with fail
      go_ret
      refine ⟨?_, HB1.out⟩
      have hany : Lw.any (fun x => x.2.told == 5) = false := by rw [List.take_of_length_le (by omega)] at hno; exact hno
      rw [HW.out, hany]; rfl
/-- A block of 1026 bytes, of which the first ones are 10. -/
def ManyAt (W : World) (g i : Nat) : Prop := ∃ C : Array Value, W.heap[g]? = some (.cells C 5 (0, 0)) ∧ C.size = 1026 ∧ ∀ j, j < i → C[j]? = some (u8v 10)
theorem make_many (W : World) : ∃ C : Array Value, (Instr.makeSlice 22 (.int .i64 1026) (.int .i64 1026)).run Tryd.prog W = .ok (.slice (some ⟨W.heap.size, 0, none⟩) 1026 1026) (W.alloc (.cells C 5)) ∧ ManyAt (W.alloc (.cells C 5)) W.heap.size 0 := by
  obtain ⟨i0, hi, hz0, hz1, hz2⟩ := info_parts infoByte
  have h := run_makeSlice (P := Tryd.prog) (w := W) 22 5 i0 (.int .u8 0) Tryd.underlying22 hi hz0 .i64 .i64 1026 1026 (by omega) (by omega) (by rw [hz1]; decide) (by rw [hz2]; decide) (by omega)
  refine ⟨_, h, _, heap_alloc_new W _, ?_, fun j hj => by omega⟩
  rw [hz1]
  exact size_madeCells _ _
theorem ManyAt.cell {W : World} {g i : Nat} (h : ManyAt W g i) {j : Nat} (hj : j < 1026) : ∃ x, W.cell? ⟨g, j, none⟩ = some x := by
  obtain ⟨C, hb, hs, _⟩ := h
  exact ⟨_, (block_cell hb j).1.trans (Array.getElem?_eq_getElem (by omega))⟩
theorem ManyAt.free {W : World} {g i : Nat} (h : ManyAt W g i) (j : Nat) : W.frozen? ⟨g, j, none⟩ = false := by
  obtain ⟨C, hb, _, _⟩ := h
  exact (block_cell hb j).2
theorem ManyAt.step {W : World} {g i : Nat} (h : ManyAt W g i) (hi : i < 1026) : ManyAt (W.setCell ⟨g, i, none⟩ (u8v 10)) g (i + 1) := by
  obtain ⟨C, hb, hs, hc⟩ := h
  refine ⟨_, Go.Joins.block_setCell (i := i) hb (u8v 10), by simpa using hs, fun j hj => ?_⟩
  by_cases e : j = i
  · subst e; rw [Array.getElem?_setIfInBounds, if_pos rfl, if_pos (by omega)]
  · rw [Array.getElem?_setIfInBounds, if_neg (fun h => e h.symm)]; exact hc j (by omega)
theorem ManyAt.bytes {W : World} {g : Nat} (h : ManyAt W g 1026) : BRow W (.slice (some ⟨g, 0, none⟩) 1026 1026) (List.replicate 1026 10) := by
  obtain ⟨C, hb, hs, hc⟩ := h
  refine ⟨some ⟨g, 0, none⟩, 1026, by rw [List.length_replicate], by rw [List.length_replicate]; exact Nat.le_refl _, by unfold maxLen; omega, (fun h => by cases h), .inr ⟨g, 0, rfl, (Array.getElem?_eq_some_iff.1 hb).1, fun j x hx => ?_⟩⟩
  have hj : j < 1026 := by have := (List.getElem?_eq_some_iff.1 hx).1; rwa [List.length_replicate] at this
  have hx2 : x = 10 := by
    have := List.mem_of_getElem? hx
    exact (List.mem_replicate.1 this).2
  rw [Nat.zero_add, (block_cell hb j).1, hc j hj, hx2]
theorem ManyAt.tag {W : World} {g i : Nat} (h : ManyAt W g i) : Tag W g 5 := by
  obtain ⟨C, hb, _, _⟩ := h
  exact Tag.of hb

theorem wpList_app0 {ops : Array Oper} {rest : List Oper} {o : Oper} {a : Act} {Q : Exit → Act → World → Prop} {w : World} (s x : Operand)
    (ho : o.op = .call { callee := .builtin .append, args := #[s, x], argTypes := #[22, 22] }) (hs : a.eval s = .slice none 0 0) {bv : Value} {bl : List UInt8} (hx : a.eval x = bv) (hw : Region.wanted o (yielded ops a.tmps) = true) (hb : BRow w bv bl) (hl : bl.length ≤ 6000)
    (h : ∀ v' w', w'.ownsRow w.heap.size 5 1 v' bl.length (bl.map u8v) → w.grownBy w' none → wpList Tryd.prog ops Q rest (a.put o.dst v') w') : wpList Tryd.prog ops Q (o :: rest) a w :=
  Go.BigFrame.wpList_want hw fun _ hK => wp_app0 s x ho hs hx hb hl fun v' w' h1 h2 => hK _ _ (h v' w' h1 h2)
theorem wpList_app1 {ops : Array Oper} {rest : List Oper} {o : Oper} {a : Act} {Q : Exit → Act → World → Prop} {w : World} {c : UInt8} (s x : Operand)
    (ho : o.op = .call { callee := .builtin .append, args := #[s, x], argTypes := #[22, 22] }) {v : Value} (hs : a.eval s = v) {g : Nat} (hx : a.eval x = .slice (some ⟨g, 0, none⟩) 1 1) (hw : Region.wanted o (yielded ops a.tmps) = true) {bl : List UInt8} {B : Nat} (hB : B ≤ w.heap.size)
    (hv : w.ownsRow B 5 1 v bl.length (bl.map u8v)) (hc : w.cell? ⟨g, 0, none⟩ = some (u8v c)) (hl : bl.length ≤ 6000)
    (h : ∀ v' w', BRow w' v' (bl ++ [c]) → Below B w w' → wpList Tryd.prog ops Q rest (a.put o.dst v') w') : wpList Tryd.prog ops Q (o :: rest) a w := by
  obtain ⟨i0, hi, hz0, hz1, hz2⟩ := info_parts infoByte
  refine Go.BigFrame.wpList_want hw fun _ hK => wp_append_own w s x 22 ho B 5 i0 (.int .u8 0) 1 1 Tryd.underlying22 hi hz0 hz1 hz2 rfl (by omega) v bl.length (bl.map u8v) hs hv ⟨g, 0, none⟩ 1 1 [u8v c] hx rfl ?_ (fun u hu => ?_) (by unfold maxLen; omega) (by omega) hB (fun v' w' h5 h6 _ => hK _ _ (h v' w' ?_ ?_))
  · intro j u hu
    cases j with
    | zero =>
      obtain rfl : u8v c = u := by simpa using hu
      exact hc
    | succ j => simp at hu
  · obtain rfl : u = u8v c := by simpa using hu
    rfl
  · have := Row.of_owns h5
    refine Row.bytes (bl := bl ++ [c]) ?_
    rw [List.length_append, List.map_append]
    exact this
  · exact (Below.refl _ _).grown h6 hB (fun k hk => (hv.lt k hk).1)
theorem map_two {L : List (Value × Ev)} {e1 e2 : Ev} (h : L.map (·.2) = [e1, e2]) : ∃ k1 k2, L = [(k1, e1), (k2, e2)] := by
  match L, h with
  | [(k1, a), (k2, b)], h => exact ⟨k1, k2, by simp at h; rw [h.1, h.2]⟩
def getText (kl : List UInt8) : List UInt8 := [103, 101, 116, 32] ++ kl ++ [10]
def mendText (kl : List UInt8) : List UInt8 := [110, 111, 32, 115, 117, 99, 104, 32, 118, 101, 114, 98, 10, 103, 101, 116, 32] ++ kl ++ [10]
theorem mend_two {st : FSt} (hb : AtBegin st) {kl : List UInt8} (h : okB kl = true) : (runF st (mendText kl)).2 = [toldE 1, sentEv (getD29 kl)] := by
  have := mend_tells hb h
  rw [← this]
  congr 2
theorem get_one {kl : List UInt8} (h : okB kl = true) : (runF fNew (getText kl)).2 = [sentEv (getD29 kl)] := by
  obtain ⟨st, h1, _⟩ := sent_run (getD29_ok h) (st := fNew) ⟨rfl, rfl⟩
  rw [getD29_text] at h1
  unfold getText
  rw [h1]
theorem left_begin {st : FSt} (h : AtBegin st) : (if st.way = 3 then st.held.length + 1 else st.held.length) = 0 := by
  rw [h.1, h.2]; rfl
theorem mend_ok {bl : List UInt8} (h : largeB (bl ++ [10]) = false) : AtBegin (runF (runF fNew bl).1 (List.replicate 1026 10)).1 := by
  refine mended bl (n := 1025) (Nat.le_refl _) (fun e he h5 => ?_)
  have h1 : (runF fNew (bl ++ [10])).2.any (fun x => x.told == 5) = true := List.any_eq_true.2 ⟨e, by rw [(feed_all _).1]; exact he, by simp [h5]⟩
  unfold largeB at h
  rw [h1] at h
  cases h

set_option maxRecDepth 100000 in
set_option maxHeartbeats 8000000 in
theorem feedsMend_walk {w : World} {bv : Value} {bl kl : List UInt8} (hb : BRow w bv bl) (hkm : kl.length ≤ maxLen) (hL : HasLen w) (hE : HasErr w) :
    Calls Tryd.prog 4 #[bv, sv kl] w fun e w' => e = .returned (.bool true) ∧ Below w.heap.size w w' := by
  obtain ⟨ba, bc, rfl⟩ := hb.len
  have hlives := lives30 w hL hE
  have HLV := Lib.hid hlives
  have HEN := Lib.hid (Env.of hL hE)
  have HBR := Lib.hid hb
  clear hlives hb hL hE
  by_cases h1 : 3000 < bl.length
  · have d1 : decide ((3000 : Int) < (bl.length : Int)) = true := by rw [decide_eq_true_eq]; omega
    go_enter Tryd.func4, Tryd.ntmps4
    go_wp2_with fail
    refine HLV.out.mono ?_
    rintro e w' ⟨rfl, hb⟩
    have HB := Lib.hid hb
    clear hb
    go_wp2_with fail
    go_ret
    exact ⟨rfl, HB.out⟩
  · have d1 : decide ((3000 : Int) < (bl.length : Int)) = false := by rw [decide_eq_false_iff_not]; omega
    by_cases h2 : 300 < kl.length
    · have d2 : decide ((300 : Int) < (kl.length : Int)) = true := by rw [decide_eq_true_eq]; omega
      go_enter Tryd.func4, Tryd.ntmps4
      go_wp2_with fail
      refine HLV.out.mono ?_
      rintro e w' ⟨rfl, hb⟩
      have HB := Lib.hid hb
      clear hb
      go_wp2_with fail
      go_ret
      exact ⟨rfl, HB.out⟩
    · have d2 : decide ((300 : Int) < (kl.length : Int)) = false := by rw [decide_eq_false_iff_not]; omega
      by_cases hok : okB kl = false
      · have hokc := ok_at kl false w hok hkm
        go_enter Tryd.func4, Tryd.ntmps4
        go_wp2_with fail
        refine hokc.mono ?_
        rintro e w' ⟨rfl, rfl⟩
        go_wp2_with fail
        refine HLV.out.mono ?_
        rintro e w' ⟨rfl, hb⟩
        have HB := Lib.hid hb
        clear hb
        go_wp2_with fail
        go_ret
        exact ⟨rfl, HB.out⟩
      · have hok2 : okB kl = true := by simpa using hok
        have hokc := ok_at kl true w hok2 hkm
        have HOK := Lib.hid hok2
        have hblow : bl ≠ [] → ∀ g, (Value.slice ba bl.length bc).ownBlock = some g → g < w.heap.size := fun hne g hg => HBR.out.blk hne hg
        have HBL := Lib.hid hblow
        clear hok hok2 hblow
        go_enter Tryd.func4, Tryd.ntmps4
        go_wp2_with fail
        refine hokc.mono ?_
        rintro e w0 ⟨rfl, rfl⟩
        clear hokc
        have tok1 : True := trivial
        have tok2 : True := trivial
        go_wp2_with (first | (at_builtin; clear tok1; refine wpList_app0 _ _ (by rfl) (by rfl) (by rfl) (by rfl) HBR.out (by omega) (fun v1 w1 hv hg => ?_)) | (at_builtin; clear tok2; refine wpList_app1 (c := 10) (B := w.heap.size) _ _ (by rfl) (by rfl) (by rfl) (by rfl) (by have := hg.size; simp; omega) (hv.alloc _) (block_cell (heap_alloc_new w1 (.cells #[.int .u8 10] 5)) 0).1 (by omega) (fun v2 w2 hr2 hb2 => ?_)) | fail)
        have hb01 : Below w.heap.size w w1 := (Below.refl _ _).grown hg (Nat.le_refl _) (fun k hk => by cases hk)
        have hb02 : Below w.heap.size w w2 := (hb01.alloc hb01.size _).trans hb2
        have he2 := HEN.out.chg (M := fun _ => False) (Chg.of_below hb02) (fun _ e => e.elim)
        have hlg := large_any hr2 (by rw [List.length_append]; show bl.length + 1 ≤ 6000; omega) he2.len he2.err
        have HB2 := Lib.hid hb02
        have HE2 := Lib.hid he2
        have HLG := Lib.hid hlg
        clear hb02 he2 hlg hr2 hb2 hb01 hv hg
        go_wp2_with fail
        refine HLG.out.mono ?_
        rintro e wL ⟨rfl, hbl⟩
        have hb3 := HB2.out.trans (hbl.mono HB2.out.size)
        have he3 := HEN.out.chg (M := fun _ => False) (Chg.of_below hb3) (fun _ e => e.elim)
        have HB3 := Lib.hid hb3
        have HE3 := Lib.hid he3
        clear hb3 he3 hbl HLG HB2 HE2 HLV
        cases hlarge : largeB (bl ++ [10]) with
        | true =>
          have hlv := lives30 wL HE3.out.len HE3.out.err
          have HLV := Lib.hid hlv
          clear hlv hlarge
          go_wp2_with fail
          refine HLV.out.mono ?_
          rintro e w' ⟨rfl, hb⟩
          have HB := Lib.hid (HB3.out.trans (hb.mono HB3.out.size))
          clear hb
          go_wp2_with fail
          go_ret
          exact ⟨rfl, HB.out⟩
        | false =>
        have hat := mend_ok hlarge
        have HAT := Lib.hid hat
        clear hat hlarge
        have hf0 := feed_new (n₀ := w.heap.size) wL HB3.out.size
        have hE0 := HE3.out.chg (M := fun _ => False) ((Chg.refl _ _).alloc (.cells feedZero 65)) (fun _ e => e.elim)
        have hB0 := HB3.out.alloc HB3.out.size (.cells feedZero 65)
        have H0 := Lib.hid hf0
        have HE0 := Lib.hid hE0
        have HB0 := Lib.hid hB0
        clear hf0 hE0 hB0 HB3 HE3
        go_wp2_with fail
        refine (new_any wL).mono ?_
        rintro e w0 ⟨rfl, rfl⟩
        obtain ⟨p, hp⟩ : ∃ p, p = wL.heap.size := ⟨_, rfl⟩
        generalize wL.alloc (.cells feedZero 65) = W0 at *
        rw [← hp] at H0 ⊢
        clear hp
        go_wp2_with fail
        refine (in_any H0.out HE0.out HB0.out.size goodF_new (by show 0 + bl.length < _; omega) (HBR.out.below HB0.out) (fun hne g hg => .inl (HBL.out hne g hg)) (fun _ _ _ e => by simp [Value.ownBlock] at e) ⟨by decide, by decide, by decide⟩ (by decide)).mono ?_
        rintro e W1 ⟨hv1, ks1, ov1, L1, rfl, hf1, hc1, -, -, -, -⟩
        have hb1 := HB0.out.trans (hc1.below (fun k hk => ⟨Nat.lt_of_lt_of_le hk HB0.out.size, fun hm => by have := H0.out.lowM k hm; omega⟩))
        have he1 := HE0.out.chg hc1 H0.out.lowM
        obtain ⟨C, hmk, hmany⟩ := make_many W1
        have hnf : ¬ FM p hv1 W1.heap.size := fun hm => by
          rcases (hf1.fm hm).2 with h | h
          · exact absurd h.lt (by omega)
          · exact absurd h.lt (by omega)
        have hns : ¬ Tag (W1.alloc (.cells C 5)) W1.heap.size 9 := fun h => absurd (h.one hmany.tag) (by decide)
        have H1 := Lib.hid (hf1.alloc (.cells C 5))
        have HE1 := Lib.hid (he1.chg (M := fun _ => False) ((Chg.refl _ _).alloc (.cells C 5)) (fun _ e => e.elim))
        have HB1 := Lib.hid (hb1.alloc hb1.size (.cells C 5))
        have HM := Lib.hid hmany
        have HNF := Lib.hid hnf
        have HNS := Lib.hid hns
        have HGL := Lib.hid (show w.heap.size ≤ W1.heap.size from hb1.size)
        clear hf1 hc1 hb1 he1 hmany hnf hns H0 HE0 HB0 HBL
        go_wp2_with fail
        obtain ⟨g, hg⟩ : ∃ g, g = W1.heap.size := ⟨_, rfl⟩
        generalize W1.alloc (.cells C 5) = W2 at *
        rw [← hg] at HM HNF HNS HGL ⊢
        clear hg hmk
        go_loopw [7] (fun s7 wr => ∃ i : Nat, i ≤ 1026 ∧ s7 = .int .i64 (i : Int) ∧ ManyAt wr g i ∧ Chg (fun k => k = g) W2 wr) (fun s7 _ => 1026 - (intOf s7).toNat)
        case atStart => exact ⟨0, Nat.zero_le _, rfl, HM.out, Chg.refl _ _⟩
        case round =>
          obtain ⟨i, hi, rfl, hma, hcg⟩ := hrel
          by_cases hlt : i < 1026
          · obtain ⟨x, hx⟩ := hma.cell hlt
            have hfr := hma.free i
            have i1 := fun W : World => idx_byte (a := some ⟨g, 0, none⟩) (c := 1026) rfl hlt W
            simp only [Nat.zero_add] at i1
            have hst := hma.step hlt
            have HST := Lib.hid hst
            have HCG := Lib.hid (hcg.set (p := g) (fun _ => rfl) (u8v 10) (j := i))
            have dlt : decide ((i : Int) < 1026) = true := by rw [decide_eq_true_eq]; omega
            clear hst hma hcg
            go_wp2_with fail
            go_roundw
            case rel => exact ⟨i + 1, by omega, by go_num, HST.out, HCG.out⟩
            case measure => simp [intOf]; omega
          · obtain rfl : i = 1026 := by omega
            have hf2 := H1.out.kept hcg (fun k hk => by subst hk; exact ⟨HNF.out, HNS.out⟩)
            have he2 := HE1.out.chg hcg (fun k hk => by subst hk; exact HGL.out)
            have hb2 := HB1.out.trans (hcg.below (fun k hk => ⟨Nat.lt_of_lt_of_le hk HB1.out.size, fun e => by have := HGL.out; omega⟩))
            have hheld : (runF fNew bl).1.held.length ≤ bl.length := by
              have := heldF_run bl fNew
              have h0 : fNew.held.length = 0 := rfl
              omega
            have hin := in_any hf2 he2 hb2.size (goodF_run _ _ goodF_new) (by rw [List.length_replicate]; omega) hma.bytes (fun _ g' hg' => .inr (by
              obtain rfl : g = g' := by simpa [Value.ownBlock] using hg'
              exact hma.tag)) (fun _ g' hg' e => by
              obtain rfl : g = g' := by simpa [Value.ownBlock] using hg'
              exact HNF.out (.inr e)) ⟨by decide, by decide, by decide⟩ (by decide)
            have HIN := Lib.hid hin
            have H2 := Lib.hid hf2
            have HE2 := Lib.hid he2
            have HB2 := Lib.hid hb2
            clear hin hf2 he2 hb2 hma hcg H1 HE1 HB1 HM HNF HNS HGL hheld
            go_wp2_with fail
            refine HIN.out.mono ?_
            rintro e W3 ⟨hv3, ks3, ov3, L3, rfl, hf3, hc3, -, -, -, -⟩
            have hb3 := HB2.out.trans (hc3.below (fun k hk => ⟨Nat.lt_of_lt_of_le hk HB2.out.size, fun hm => by have := H2.out.lowM k hm; omega⟩))
            have he3 := HE2.out.chg hc3 H2.out.lowM
            have H3 := Lib.hid hf3
            have HB3 := Lib.hid hb3
            have HE3 := Lib.hid he3
            clear hf3 hc3 hb3 he3 H2 HE2 HB2 HIN
            generalize hst3 : (runF (runF fNew bl).1 (List.replicate 1026 10)).1 = st3 at *
            have hgd3 : GoodF st3 := by rw [← hst3]; exact goodF_run _ _ (goodF_run _ _ goodF_new)
            clear hst3
            obtain ⟨ha3, hc3, rfl⟩ := row_slice H3.out.held
            have hleft := left_any H3.out.box (by rw [HAT.out.2]; decide)
            rw [left_begin HAT.out] at hleft
            have hh3 : st3.held.length = 0 := by rw [HAT.out.2]; rfl
            have HG3 := Lib.hid hgd3
            have HLEFT := Lib.hid hleft
            have HH3 := Lib.hid hh3
            clear hgd3 hleft hh3
            go_wp2_with fail
            refine HLEFT.out.mono ?_
            rintro e W3' ⟨rfl, rfl⟩
            clear HLEFT
            have hl1 : (mendText kl).length ≤ 1000 := by unfold mendText; simp; omega
            have hl2 : (getText kl).length ≤ 1000 := by unfold getText; simp; omega
            have hcat1 : Value.string ((⟨#[110, 111, 32, 115, 117, 99, 104, 32, 118, 101, 114, 98, 10, 103, 101, 116, 32]⟩ : ByteArray) ++ ⟨kl.toArray⟩ ++ ⟨#[10]⟩) = sv (mendText kl) := sv_of (by rw [bs_append, bs_append]; rfl)
            have hcat2 : Value.string ((⟨#[103, 101, 116, 32]⟩ : ByteArray) ++ ⟨kl.toArray⟩ ++ ⟨#[10]⟩) = sv (getText kl) := sv_of (by rw [bs_append, bs_append]; rfl)
            obtain ⟨cc1, o1, hcv1, hr1, ht1⟩ := conv_str W3 (mendText kl) hl1
            have hbd : Below W3.heap.size W3 (W3.drew.alloc o1) := (Below.refl _ _).drew.alloc (Nat.le_refl _) _
            have hf4 := H3.out.below hbd
            have he4 := HE3.out.chg (M := fun _ => False) (Chg.of_below hbd) (fun _ e => e.elim)
            have hb4 := HB3.out.trans (hbd.mono HB3.out.size)
            have hin := in_any hf4 he4 hb4.size HG3.out (by rw [HH3.out]; omega) hr1 (fun _ g' hg' => .inr (by
              obtain rfl : W3.heap.size = g' := by simpa [Value.ownBlock] using hg'
              exact ht1)) (fun _ g' hg' e => by
              obtain rfl : W3.heap.size = g' := by simpa [Value.ownBlock] using hg'
              have := (owns_tag H3.out.held e).lt
              omega) ⟨by decide, by decide, by decide⟩ (by decide)
            have HIN := Lib.hid hin
            have H4 := Lib.hid hf4
            have HE4 := Lib.hid he4
            have HB4 := Lib.hid hb4
            have HCAT2 := Lib.hid hcat2
            have HL2 := Lib.hid hl2
            have HEVS := Lib.hid (mend_two HAT.out HOK.out)
            clear hin hf4 he4 hb4 hbd hr1 ht1 H3 HE3 HB3 HG3 HH3 HAT hcat2 hl2
            go_wp2_with fail
            refine HIN.out.mono ?_
            rintro e W5 ⟨hv5, ks5, ov5, L5, rfl, hf5, hc5, -, hev5, hcut5, hkw5⟩
            have hb5 := HB4.out.trans (hc5.below (fun k hk => ⟨Nat.lt_of_lt_of_le hk HB4.out.size, fun hm => by have := H4.out.lowM k hm; omega⟩))
            have he5 := HE4.out.chg hc5 H4.out.lowM
            rw [HEVS.out] at hev5
            obtain ⟨k1, k2, rfl⟩ := map_two hev5
            obtain ⟨a5, rfl⟩ : ∃ a, ov5 = .slice a 2 2 := hcut5.1
            have hrow5 : EvRow W5 (.slice a5 2 2) [(k1, toldE 1), (k2, sentEv (getD29 kl))] := ⟨hcut5.2.1, hkw5⟩
            have ha0 := Chg.alloc (M := fun _ => False) (Chg.refl _ W5) (.cells feedZero 65)
            have HR6 := Lib.hid (hrow5.kept ha0 (fun _ h => h.elim))
            have H6 := Lib.hid (feed_new (n₀ := w.heap.size) W5 hb5.size)
            have HE6 := Lib.hid (he5.chg ha0 (fun _ e => e.elim))
            have HB6 := Lib.hid (hb5.alloc hb5.size (.cells feedZero 65))
            clear hf5 hc5 hev5 hcut5 hkw5 hb5 he5 hrow5 ha0 HIN H4 HE4 HB4 HEVS hcv1 hcat1 hl1
            go_wp2_with fail
            refine (new_any W5).mono ?_
            rintro e W6' ⟨rfl, rfl⟩
            obtain ⟨pg, hpg⟩ : ∃ pg, pg = W5.heap.size := ⟨_, rfl⟩
            generalize W5.alloc (.cells feedZero 65) = W6 at *
            rw [← hpg] at H6 ⊢
            clear hpg
            obtain ⟨cc2, o2, hcv2, hr2, ht2⟩ := conv_str W6 (getText kl) HL2.out
            have hbd : Below W6.heap.size W6 (W6.drew.alloc o2) := (Below.refl _ _).drew.alloc (Nat.le_refl _) _
            have hf7 := H6.out.below hbd
            have he7 := HE6.out.chg (M := fun _ => False) (Chg.of_below hbd) (fun _ e => e.elim)
            have hb7 := HB6.out.trans (hbd.mono HB6.out.size)
            have hin := in_any hf7 he7 hb7.size goodF_new (by show 0 + (getText kl).length < _; have := HL2.out; omega) hr2 (fun _ g' hg' => .inr (by
              obtain rfl : W6.heap.size = g' := by simpa [Value.ownBlock] using hg'
              exact ht2)) (fun _ _ _ e => by simp [Value.ownBlock] at e) ⟨by decide, by decide, by decide⟩ (by decide)
            have HR7 := Lib.hid (HR6.out.below hbd)
            have HIN := Lib.hid hin
            have H7 := Lib.hid hf7
            have HE7 := Lib.hid he7
            have HB7 := Lib.hid hb7
            have hcat2 := HCAT2.out
            clear hin hf7 he7 hb7 hbd hr2 ht2 H6 HE6 HB6 HR6
            go_wp2_with fail
            refine HIN.out.mono ?_
            rintro e W4 ⟨hv8, ks8, ov8, L8, rfl, hf8, hc8, -, hev8, hcut8, hkw8⟩
            have hb8 := HB7.out.trans (hc8.below (fun k hk => ⟨Nat.lt_of_lt_of_le hk HB7.out.size, fun hm => by have := H7.out.lowM k hm; omega⟩))
            have he8 := HE7.out.chg hc8 H7.out.lowM
            have hr8 := HR7.out.fed H7.out (by decide) hc8
            rw [get_one HOK.out] at hev8
            obtain ⟨k3, rfl⟩ := map_one hev8
            obtain ⟨a8, rfl⟩ : ∃ a, ov8 = .slice a 1 1 := hcut8.1
            have hrow8 : EvRow W4 (.slice a8 1 1) [(k3, sentEv (getD29 kl))] := ⟨hcut8.2.1, hkw8⟩
            have HB8 := Lib.hid hb8
            have HE8 := Lib.hid he8
            clear hf8 hc8 hev8 hcut8 hkw8 hb8 he8 HIN H7 HE7 HB7 HR7 hcat2 HCAT2 hcv2 HL2
            obtain ⟨ev, hevd⟩ : ∃ ev, ev = sentEv (getD29 kl) := ⟨_, rfl⟩
            rw [← hevd] at hr8 hrow8
            clear hevd
            obtain ⟨g5, o5, c5, hs5, zc, -⟩ := hr8.at (k := 0) rfl
            obtain ⟨g6, o6, c6, hs6, xc, hkx⟩ := hr8.at (k := 1) rfl
            obtain ⟨g8, o8, c8, hs8, yc, hky⟩ := hrow8.at (k := 0) rfl
            obtain ⟨rfl, -, -⟩ := slice_inj hs5
            obtain ⟨hgo, -, -⟩ := slice_inj hs6
            obtain ⟨rfl, rfl⟩ : g5 = g6 ∧ o5 = o6 := by simpa using hgo
            obtain ⟨rfl, -, -⟩ := slice_inj hs8
            have i5 : ∀ W : World, (Instr.indexAt 27 (.slice (some ⟨g5, o5, none⟩) 2 2) (.int .i64 0)).run Tryd.prog W = .ok (.pointer (some ⟨g5, o5, none⟩)) W := fun W => idx_ev (k := 0) rfl (by omega) W
            have i6 : ∀ W : World, (Instr.indexAt 27 (.slice (some ⟨g5, o5, none⟩) 2 2) (.int .i64 1)).run Tryd.prog W = .ok (.pointer (some ⟨g5, o5 + 13, none⟩)) W := fun W => idx_ev (k := 1) rfl (by omega) W
            have i8 : ∀ W : World, (Instr.indexAt 27 (.slice (some ⟨g8, o8, none⟩) 1 1) (.int .i64 0)).run Tryd.prog W = .ok (.pointer (some ⟨g8, o8, none⟩)) W := fun W => idx_ev (k := 0) rfl (by omega) W
            obtain ⟨ka6, kc6, rfl⟩ := hkx.len
            obtain ⟨ka8, kc8, rfl⟩ := hky.len
            have z12 : W4.cell? ⟨g5, o5 + 12, none⟩ = some (.int .u8 1) := zc 12 _ rfl

            have x0 : W4.cell? ⟨g5, o5 + 13, none⟩ = some (.int .u8 (ev.cmd.verb : Int)) := by
              have h := xc 0 _ rfl
              rwa [show o5 + (1 * 13 + 0) = o5 + 13 from by omega] at h
            have x1 : W4.cell? ⟨g5, o5 + 14, none⟩ = some (.slice ka6 ev.cmd.keys.length kc6) := by
              have h := xc 1 _ rfl
              rwa [show o5 + (1 * 13 + 1) = o5 + 14 from by omega] at h
            have x2 : W4.cell? ⟨g5, o5 + 15, none⟩ = some (.int .u8 (ev.cmd.cverb : Int)) := by
              have h := xc 2 _ rfl
              rwa [show o5 + (1 * 13 + 2) = o5 + 15 from by omega] at h
            have x3 : W4.cell? ⟨g5, o5 + 16, none⟩ = some (sv ev.cmd.key) := by
              have h := xc 3 _ rfl
              rwa [show o5 + (1 * 13 + 3) = o5 + 16 from by omega] at h
            have x4 : W4.cell? ⟨g5, o5 + 17, none⟩ = some (sv ev.cmd.value) := by
              have h := xc 4 _ rfl
              rwa [show o5 + (1 * 13 + 4) = o5 + 17 from by omega] at h
            have x5 : W4.cell? ⟨g5, o5 + 18, none⟩ = some (.int .u32 (ev.cmd.flags : Int)) := by
              have h := xc 5 _ rfl
              rwa [show o5 + (1 * 13 + 5) = o5 + 18 from by omega] at h
            have x6 : W4.cell? ⟨g5, o5 + 19, none⟩ = some (.int .i64 ev.cmd.exp) := by
              have h := xc 6 _ rfl
              rwa [show o5 + (1 * 13 + 6) = o5 + 19 from by omega] at h
            have x7 : W4.cell? ⟨g5, o5 + 20, none⟩ = some (.int .u64 (ev.cmd.id : Int)) := by
              have h := xc 7 _ rfl
              rwa [show o5 + (1 * 13 + 7) = o5 + 20 from by omega] at h
            have x8 : W4.cell? ⟨g5, o5 + 21, none⟩ = some (.int .u64 (ev.cmd.by' : Int)) := by
              have h := xc 8 _ rfl
              rwa [show o5 + (1 * 13 + 8) = o5 + 21 from by omega] at h
            have x9 : W4.cell? ⟨g5, o5 + 22, none⟩ = some (.int .i64 ev.cmd.bytes) := by
              have h := xc 9 _ rfl
              rwa [show o5 + (1 * 13 + 9) = o5 + 22 from by omega] at h
            have x10 : W4.cell? ⟨g5, o5 + 23, none⟩ = some (.bool ev.cmd.quiet) := by
              have h := xc 10 _ rfl
              rwa [show o5 + (1 * 13 + 10) = o5 + 23 from by omega] at h
            have x11 : W4.cell? ⟨g5, o5 + 24, none⟩ = some (sv ev.data) := by
              have h := xc 11 _ rfl
              rwa [show o5 + (1 * 13 + 11) = o5 + 24 from by omega] at h
            have x12 : W4.cell? ⟨g5, o5 + 25, none⟩ = some (.int .u8 (ev.told : Int)) := by
              have h := xc 12 _ rfl
              rwa [show o5 + (1 * 13 + 12) = o5 + 25 from by omega] at h
            have y0 : W4.cell? ⟨g8, o8, none⟩ = some (.int .u8 (ev.cmd.verb : Int)) := by
              have h := yc 0 _ rfl
              rwa [show o8 + (0 * 13 + 0) = o8 from by omega] at h
            have y1 : W4.cell? ⟨g8, o8 + 1, none⟩ = some (.slice ka8 ev.cmd.keys.length kc8) := by
              have h := yc 1 _ rfl
              rwa [show o8 + (0 * 13 + 1) = o8 + 1 from by omega] at h
            have y2 : W4.cell? ⟨g8, o8 + 2, none⟩ = some (.int .u8 (ev.cmd.cverb : Int)) := by
              have h := yc 2 _ rfl
              rwa [show o8 + (0 * 13 + 2) = o8 + 2 from by omega] at h
            have y3 : W4.cell? ⟨g8, o8 + 3, none⟩ = some (sv ev.cmd.key) := by
              have h := yc 3 _ rfl
              rwa [show o8 + (0 * 13 + 3) = o8 + 3 from by omega] at h
            have y4 : W4.cell? ⟨g8, o8 + 4, none⟩ = some (sv ev.cmd.value) := by
              have h := yc 4 _ rfl
              rwa [show o8 + (0 * 13 + 4) = o8 + 4 from by omega] at h
            have y5 : W4.cell? ⟨g8, o8 + 5, none⟩ = some (.int .u32 (ev.cmd.flags : Int)) := by
              have h := yc 5 _ rfl
              rwa [show o8 + (0 * 13 + 5) = o8 + 5 from by omega] at h
            have y6 : W4.cell? ⟨g8, o8 + 6, none⟩ = some (.int .i64 ev.cmd.exp) := by
              have h := yc 6 _ rfl
              rwa [show o8 + (0 * 13 + 6) = o8 + 6 from by omega] at h
            have y7 : W4.cell? ⟨g8, o8 + 7, none⟩ = some (.int .u64 (ev.cmd.id : Int)) := by
              have h := yc 7 _ rfl
              rwa [show o8 + (0 * 13 + 7) = o8 + 7 from by omega] at h
            have y8 : W4.cell? ⟨g8, o8 + 8, none⟩ = some (.int .u64 (ev.cmd.by' : Int)) := by
              have h := yc 8 _ rfl
              rwa [show o8 + (0 * 13 + 8) = o8 + 8 from by omega] at h
            have y9 : W4.cell? ⟨g8, o8 + 9, none⟩ = some (.int .i64 ev.cmd.bytes) := by
              have h := yc 9 _ rfl
              rwa [show o8 + (0 * 13 + 9) = o8 + 9 from by omega] at h
            have y10 : W4.cell? ⟨g8, o8 + 10, none⟩ = some (.bool ev.cmd.quiet) := by
              have h := yc 10 _ rfl
              rwa [show o8 + (0 * 13 + 10) = o8 + 10 from by omega] at h
            have y11 : W4.cell? ⟨g8, o8 + 11, none⟩ = some (sv ev.data) := by
              have h := yc 11 _ rfl
              rwa [show o8 + (0 * 13 + 11) = o8 + 11 from by omega] at h
            have y12 : W4.cell? ⟨g8, o8 + 12, none⟩ = some (.int .u8 (ev.told : Int)) := by
              have h := yc 12 _ rfl
              rwa [show o8 + (0 * 13 + 12) = o8 + 12 from by omega] at h
            have hlike := fun W (h1 : KeysAt W (.slice ka6 ev.cmd.keys.length kc6) ev.cmd.keys) (h2 : KeysAt W (.slice ka8 ev.cmd.keys.length kc8) ev.cmd.keys) => like_same h1 h2
            have HLIKE := Lib.hid hlike
            have HKX := Lib.hid hkx
            have HKY := Lib.hid hky
            clear hs5 hs6 hs8 hgo zc xc yc hkx hky hr8 hrow8 hlike HOK
            go_upto_region 65 with fail
            go_still_tail 26, (by kernel_rfl)
            all_goals go_wp2_with fail
            refine (HLIKE.out W4.drew (HKX.out.below (Below.refl _ _).drew) (HKY.out.below (Below.refl _ _).drew)).mono ?_
            rintro e w' ⟨rfl, hbw⟩
            have hbw' : Below W4.heap.size W4 w' := ⟨hbw.os, hbw.tape, hbw.output, hbw.size, hbw.block⟩
            have he9 := HE8.out.chg (M := fun _ => False) (Chg.of_below hbw') (fun _ e => e.elim)
            have HB9 := Lib.hid (HB8.out.trans (hbw'.mono HB8.out.size))
            have hlv := lives30 w' he9.len he9.err
            have HLV := Lib.hid hlv
            clear hbw hbw' he9 hlv
            go_wp2_with fail
            refine HLV.out.mono ?_
            rintro e w9 ⟨rfl, hb⟩
            have HB := Lib.hid (HB9.out.trans (hb.mono HB9.out.size))
            clear hb
            go_wp2_with fail
            go_ret
            exact ⟨rfl, HB.out⟩
end Go.Proofs.YtahpjhnbjkjkiaaDoor
