/- The law LinesParse returns true at every line. Conditions: a line that a string may be; MaxLen, ErrRange, the powers of ten as they must be. -/
import Derived.Test.YtofpaooaiafpbaaGreatDoorLineLives
import Derived.Test.YtofpaooaiafpbaaGreatDoorLineSame2
import Derived.Test.YtofpaooaiafpbaaGreatDoorLineRefParse
import Derived.Test.YtofpaooaiafpbaaGreatDoorLinePlain
namespace Go.Proofs.YtofpaooaiafpbaaGreatDoor
open Go.RowKit Go.ChangeMaps Go.MapKept

/-- The cells of a slice that may be written. -/
def Writable (w : World) (g o n : Nat) : Prop := ∀ j, j < n → (∃ x, w.cell? ⟨g, o + j, none⟩ = some x) ∧ w.frozen? ⟨g, o + j, none⟩ = false
theorem Writable.set {w : World} {g o n : Nat} (h : Writable w g o n) (k : Nat) (u : Value) : Writable (w.setCell ⟨g, o + k, none⟩ u) g o n := by
  intro j hj
  obtain ⟨⟨x, hx⟩, hf⟩ := h j hj
  refine ⟨?_, by rw [World.frozen?_setCell]; exact hf⟩
  by_cases e : j = k
  · subst e; exact ⟨u, World.cell?_setCell_same _ _ _ hx⟩
  · exact ⟨x, by rw [World.cell?_setCell_other _ _ _ _ (by simp)]; exact hx⟩
theorem grown_setW {w w' : World} {g : Nat} (h : w.grownBy w' (some g)) (k : Nat) (v : Value) : w.grownBy (w'.setCell ⟨g, k, none⟩ v) (some g) := grown_trans h (grown_set w' g k v)
/-- The cells of the keys may be written. -/
def Wr (w : World) (a : Option Addr) (n : Nat) : Prop := ∀ g o, a = some ⟨g, o, none⟩ → Writable w g o n
theorem keys_wr {w : World} {B : Nat} {a : Option Addr} {n c : Nat} {xs : List Value} (h : Own w B (.slice a n c) xs) : (∀ k, k < n → ∃ g o, a = some ⟨g, o, none⟩ ∧ B ≤ g ∧ g < w.heap.size) ∧ Wr w a n := by
  obtain ⟨a', c', he, h1, h2, h3, h4⟩ := h
  obtain ⟨rfl, rfl, rfl⟩ := slice_inj he
  refine ⟨fun k hk => ?_, fun g' o' e => ?_⟩
  · rcases h4 with h4 | ⟨g, o, rfl, hg, h5⟩
    · rw [h4] at hk; simp at hk
    · exact ⟨g, o, rfl, hg, cell_lt (h5 k _ (List.getElem?_eq_getElem hk)).1⟩
  · rcases h4 with h4 | ⟨g, o, rfl, hg, h5⟩
    · intro j hj; rw [h4] at hj; simp at hj
    · obtain ⟨rfl, rfl⟩ : g = g' ∧ o = o' := by simpa using e
      exact fun j hj => ⟨⟨_, (h5 j _ (List.getElem?_eq_getElem hj)).1⟩, (h5 j _ (List.getElem?_eq_getElem hj)).2⟩

theorem box_cells {w : World} {p : Nat} {ks : Value} {c : Cmd} {T : TypeId} (h : w.heap[p]? = some (.cells (cmdCells ks c).toArray T (0, 0))) :
    w.cell? ⟨p, 0, none⟩ = some (.int .u8 (c.verb : Int)) ∧ w.cell? ⟨p, 1, none⟩ = some ks ∧ w.cell? ⟨p, 2, none⟩ = some (.int .u8 (c.cverb : Int)) ∧ w.cell? ⟨p, 3, none⟩ = some (sv c.key) ∧ w.cell? ⟨p, 4, none⟩ = some (sv c.value) ∧ w.cell? ⟨p, 5, none⟩ = some (.int .u32 (c.flags : Int)) ∧ w.cell? ⟨p, 6, none⟩ = some (.int .i64 c.exp) ∧ w.cell? ⟨p, 7, none⟩ = some (.int .u64 (c.id : Int)) ∧ w.cell? ⟨p, 8, none⟩ = some (.int .u64 (c.by' : Int)) ∧ w.cell? ⟨p, 9, none⟩ = some (.int .i64 c.bytes) ∧ w.cell? ⟨p, 10, none⟩ = some (.bool c.quiet) :=
  ⟨(block_cell h 0).1, (block_cell h 1).1, (block_cell h 2).1, (block_cell h 3).1, (block_cell h 4).1, (block_cell h 5).1, (block_cell h 6).1, (block_cell h 7).1, (block_cell h 8).1, (block_cell h 9).1, (block_cell h 10).1⟩
theorem told_le (s : List UInt8) : (parseL s).2 ≤ 5 := by
  by_cases hlen : 2048 < s.length
  · unfold parseL
    rw [if_pos hlen]; decide
  cases hw : words s with
  | nil => unfold parseL; rw [if_neg hlen, hw]; decide
  | cons name l =>
    rw [parseL_some hlen hw]
    split
    · decide
    · rcases parseW_is (verbOf name) (isQuiet (verbOf name) l) (tailOf (verbOf name) l) with ⟨_, h2⟩ | ⟨_, _, ht⟩
      · omega
      · rw [ht]; split <;> decide
/-- What the loop over the keys holds. -/
structure PInv (w : World) (ra rb B1 B2 : Nat) (c : Cmd) (oa : Option Addr) (oc : Nat) (ob : Option Addr) (oc' : Nat) (wr : World) : Prop where
  below : Below w.heap.size w wr
  boxA : wr.heap[ra]? = some (.cells (cmdCells (.slice oa c.keys.length oc) c).toArray 30 (0, 0))
  boxB : wr.heap[rb]? = some (.cells (cmdCells (.slice ob c.keys.length oc') c).toArray 34 (0, 0))
  keysB : Strs wr B2 (.slice ob c.keys.length oc') c.keys
  may : Wr wr oa c.keys.length
  own : ∀ k, k < c.keys.length → ∃ g o, oa = some ⟨g, o, none⟩ ∧ w.heap.size ≤ g ∧ g < B1
theorem PInv.set {w : World} {ra rb B1 B2 : Nat} {c : Cmd} {g o oc : Nat} {ob : Option Addr} {oc' : Nat} {wr : World} (h : PInv w ra rb B1 B2 c (some ⟨g, o, none⟩) oc ob oc' wr) (hg : w.heap.size ≤ g) (h1 : g < B1) (hra : B1 ≤ ra) (hrb : B1 ≤ rb) (hB : B1 ≤ B2) (k : Nat) (v : Value) :
    PInv w ra rb B1 B2 c (some ⟨g, o, none⟩) oc ob oc' (wr.setCell ⟨g, o + k, none⟩ v) :=
  ⟨h.below.setCell (p := ⟨g, o + k, none⟩) hg v, (Below.heap_setCell _ _ _ ra (by show ra ≠ g; omega)).trans h.boxA, (Below.heap_setCell _ _ _ rb (by show rb ≠ g; omega)).trans h.boxB,
    own_grown h.keysB (grown_setW (World.grownBy.refl _ _) _ _) (by omega), fun g' o' e => by
      obtain ⟨rfl, rfl⟩ : g = g' ∧ o = o' := by simpa using e
      exact (h.may g o rfl).set k v, h.own⟩

set_option maxRecDepth 100000 in
set_option maxHeartbeats 6400000 in
theorem linesParse_walk (s : ByteArray) (w : World) (hL : HasLen w) (hE : HasErr w) (hP : HasPow w) :
    Calls Tryz.prog 3 #[.string s] w fun e w' => e = .returned (.bool true) ∧ Below w.heap.size w w' := by
  have HL := Lib.hid hL
  have HE := Lib.hid hE
  have HP := Lib.hid hP
  clear hL hE hP
  by_cases hlong : 5000 < s.size
  · have hd : decide ((5000 : Int) < (s.size : Int)) = true := by rw [decide_eq_true_eq]; omega
    have hd2 : decide (5000 < s.size) = true := by rw [decide_eq_true_eq]; omega
    clear hlong
    go_enter Tryz.func3, Tryz.ntmps3
    go_wp2_with fail
    refine (lives29 _ HL.out HE.out HP.out).mono ?_
    rintro e w' ⟨rfl, hb⟩
    go_wp2_with fail
    go_ret
    exact ⟨rfl, hb⟩
  · have hd : decide ((5000 : Int) < (s.size : Int)) = false := by rw [decide_eq_false_iff_not]; omega
    have hd2 : decide (5000 < s.size) = false := by rw [decide_eq_false_iff_not]; omega
    have hsz : s.size ≤ 1048576 := by omega
    clear hlong
    go_enter Tryz.func3, Tryz.ntmps3
    go_wp2_with fail
    refine (lparseLine_any s w hsz HL.out HE.out).mono ?_
    rintro e v0 ⟨ka, rfl, hok, hb⟩
    have hP0 : ParseOk (bs s) = ParseOk (bs s) := rfl
    generalize hR : parseL (bs s) = R at *
    obtain ⟨c, t⟩ := R
    simp only at hok ⊢
    obtain ⟨oa, oc, hka⟩ := hok.len
    rw [List.length_map] at hka
    subst hka
    have hz : (v0.alloc (.cells zeroA 30)).heap[v0.heap.size]? = some (.cells zeroA 30 (0, 0)) := heap_alloc_new _ _
    have HR := Lib.hid hR
    have HOK := Lib.hid hok
    have HOWN := Lib.hid hok
    have HBV := Lib.hid hb
    clear hok hb hP0 hR
    go_upto_region 4 with ((with_reducible show wpList _ _ _ (⟨none, Op.store _ _ _, _, _, _, _⟩ :: _) _ _); refine wpList_store_whole (by rfl) 30 (.tmp 3) (.tmp 17) (by rfl) v0.heap.size (by rfl) (cmdCells (.slice oa c.keys.length oc) c).toArray (by rfl) _ 30 hz (by rfl) (by kernel_rfl) (by simp [Value.oneCell']) ?_; intro u0 hr hg hs)
    have hg' := grown_new hg
    have HB1 := Lib.hid (below_to HBV.out hg')
    have HXA := Lib.hid hr
    have HKA := Lib.hid (strs_below (L := c.keys) HOK.out ⟨hg'.os, hg'.tape, hg'.output, hg'.size, fun k hk => hg'.block k hk (by simp)⟩)
    have hvu := hg'.size
    clear hr hg hs hz hg' HOK HBV
    go_wp2_with fail
    refine (refParseLine_any s u0 hsz).mono ?_
    rintro e v1 ⟨kb, rfl, hok, hb⟩
    rw [HR.out] at hok ⊢
    simp only at hok ⊢
    obtain ⟨ob, oc', hkb⟩ := hok.len
    rw [List.length_map] at hkb
    subst hkb
    have hz : (v1.alloc (.cells zeroA 34)).heap[v1.heap.size]? = some (.cells zeroA 34 (0, 0)) := heap_alloc_new _ _
    have HOK := Lib.hid hok
    have HBV := Lib.hid hb
    clear hok hb
    go_upto_region 5 with ((with_reducible show wpList _ _ _ (⟨none, Op.store _ _ _, _, _, _, _⟩ :: _) _ _); refine wpList_store_whole (by rfl) 34 (.tmp 5) (.tmp 22) (by rfl) v1.heap.size (by rfl) (cmdCells (.slice ob c.keys.length oc') c).toArray (by rfl) _ 34 hz (by rfl) (by kernel_rfl) (by simp [Value.oneCell']) ?_; intro u1 hr hg hs)
    have hg' := grown_new hg
    have hbu := below_to HBV.out hg'
    have HB2 := Lib.hid (HB1.out.trans (hbu.mono HB1.out.size))
    have hxa := (hbu.block _ (lt_of_block HXA.out)).trans HXA.out
    have hka := strs_below HKA.out hbu
    have hkb : Strs u1 u0.heap.size (.slice ob c.keys.length oc') c.keys := strs_below HOK.out ⟨hg'.os, hg'.tape, hg'.output, hg'.size, fun k hk => hg'.block k hk (by simp)⟩
    have hra : v0.heap.size < u0.heap.size := lt_of_block HXA.out
    have hvu1 := hg'.size
    have hbv1 := HBV.out.size
    have hrb : v1.heap.size < u1.heap.size := lt_of_block hr
    have hle : t ≤ 5 := by have := told_le (bs s); rw [HR.out] at this; exact this
    have hw64 : IntKind.i64.wrap (t : Int) = (t : Int) := IntWalk.i64_in _ (by omega)
    have hinv : ∀ u2, Below u1.heap.size u1 u2 → PInv w v0.heap.size v1.heap.size v0.heap.size u0.heap.size c oa oc ob oc' u2 := fun u2 h =>
      ⟨HB2.out.trans (h.mono HB2.out.size), (h.block _ (lt_of_block hxa)).trans hxa, (h.block _ hrb).trans hr, strs_below hkb h, (keys_wr (strs_below hka h)).2, fun k hk => by
        obtain ⟨g, o, h1, h2, h3⟩ := (keys_wr HOWN.out).1 k hk
        exact ⟨g, o, h1, h2, h3⟩⟩
    have hsame := lawSame_any (a := c) (b := c) hka hkb
    rw [(sameC_iff c c).2 rfl] at hsame
    obtain ⟨a0, a1, a2, a3, a4, a5, a6, a7, a8, a9, a10⟩ := box_cells hxa
    obtain ⟨b0, b1, b2, b3, b4, b5, b6, b7, b8, b9, b10⟩ := box_cells hr
    have HINV := Lib.hid hinv
    have HSAME := Lib.hid hsame
    clear hinv hsame hr hg hs hz hg' hbu hka hkb hxa hle HBV HOK HXA HKA HB1
    go_wp2_with fail
    refine HSAME.out.mono ?_
    rintro e u2 ⟨rfl, hb⟩
    have HI2 := Lib.hid (HINV.out u2 hb)
    have hn : c.keys.length ≤ maxLen := by have := HOWN.out.max; rwa [List.length_map] at this
    unfold maxLen at hn
    clear hb HINV HSAME a0 a1 a2 a3 a4 a5 a6 a7 a8 a9 a10 b0 b1 b2 b3 b4 b5 b6 b7 b8 b9 b10 HOWN HB2
    go_wp2_with fail
    go_loopw [7] (fun i wr => ∃ k : Nat, k ≤ c.keys.length ∧ i = .int .i64 k ∧ Hid (PInv w v0.heap.size v1.heap.size v0.heap.size u0.heap.size c oa oc ob oc' wr)) (fun i _ => c.keys.length - (intOf i).toNat)
    case atStart => exact ⟨0, Nat.zero_le _, rfl, HI2.out⟩
    case round =>
      obtain ⟨k, hk, rfl, hI⟩ := hrel
      have a1 : wr.cell? ⟨v0.heap.size, 1, none⟩ = some (.slice oa c.keys.length oc) := (box_cells hI.out.boxA).2.1
      by_cases hkn : k < c.keys.length
      · obtain ⟨g, o, rfl, hg, hg2⟩ := hI.out.own k hkn
        obtain ⟨⟨x, hx⟩, hf⟩ := hI.out.may g o rfl k hkn
        have hnx := hI.out.set hg hg2 (Nat.le_refl _) (by omega) (by omega) k (.string ⟨#[]⟩)
        have hix : ∀ W : World, (Instr.indexAt 24 (.slice (some ⟨g, o, none⟩) c.keys.length oc) (.int .i64 (k : Int))).run Tryz.prog W = .ok (.pointer (some ⟨g, o + k, none⟩)) W := fun W => idx_str' rfl hkn W
        have HX := Lib.hid hnx
        clear hnx
        go_wp2_with fail
        go_roundw
        case rel => exact ⟨k + 1, by omega, by go_num, HX.out⟩
        case measure => simp [intOf]; omega
      · have hbw := hI.out.below
        have hpar := lparseLine_any s wr hsz (HL.out.below hbw) (HE.out.below hbw)
        have HPAR := Lib.hid hpar
        have HBW := Lib.hid hbw
        clear hpar hbw
        go_wp2_with fail
        refine HPAR.out.mono ?_
        rintro e v3 ⟨kd, rfl, hok, hb⟩
        rw [HR.out] at hok ⊢
        simp only at hok ⊢
        obtain ⟨od, oc2, hkd⟩ := hok.len
        rw [List.length_map] at hkd
        subst hkd
        have hz : (v3.alloc (.cells zeroA 30)).heap[v3.heap.size]? = some (.cells zeroA 30 (0, 0)) := heap_alloc_new _ _
        have HOK := Lib.hid hok
        have HBV := Lib.hid hb
        clear hok hb
        go_upto_region 12 with ((with_reducible show wpList _ _ _ (⟨none, Op.store _ _ _, _, _, _, _⟩ :: _) _ _); refine wpList_store_whole (by rfl) 30 (.tmp 8) (.tmp 48) (by rfl) v3.heap.size (by rfl) (cmdCells (.slice od c.keys.length oc2) c).toArray (by rfl) _ 30 hz (by rfl) (by kernel_rfl) (by simp [Value.oneCell']) ?_; intro u3 hr hg hs)
        have hg' := grown_new hg
        have hbu := below_to HBV.out hg'
        have hbw3 := HBW.out.trans (hbu.mono HBW.out.size)
        have hkd : Strs u3 wr.heap.size (.slice od c.keys.length oc2) c.keys := strs_below HOK.out ⟨hg'.os, hg'.tape, hg'.output, hg'.size, fun k hk => hg'.block k hk (by simp)⟩
        have hxb := (hbu.block _ (lt_of_block hI.out.boxB)).trans hI.out.boxB
        have hsame := lawSame_any (a := c) (b := c) hkd (strs_below hI.out.keysB hbu)
        rw [(sameC_iff c c).2 rfl] at hsame
        obtain ⟨a0, a1', a2, a3, a4, a5, a6, a7, a8, a9, a10⟩ := box_cells hr
        obtain ⟨b0, b1, b2, b3, b4, b5, b6, b7, b8, b9, b10⟩ := box_cells hxb
        have HSAME := Lib.hid hsame
        have HB3 := Lib.hid hbw3
        clear hsame hbw3 hr hg hs hz hg' hbu hkd hxb HOK HBV hI a1
        go_wp2_with fail
        refine HSAME.out.mono ?_
        rintro e u4 ⟨rfl, hb⟩
        have HB4 := Lib.hid (HB3.out.trans (hb.mono HB3.out.size))
        clear hb HSAME HB3
        go_wp2_with fail
        refine (lives29 _ (HL.out.below HB4.out) (HE.out.below HB4.out) (HP.out.below HB4.out)).mono ?_
        rintro e w' ⟨rfl, hb⟩
        go_wp2_with fail
        go_ret
        exact ⟨rfl, HB4.out.trans (hb.mono HB4.out.size)⟩
end Go.Proofs.YtofpaooaiafpbaaGreatDoor
