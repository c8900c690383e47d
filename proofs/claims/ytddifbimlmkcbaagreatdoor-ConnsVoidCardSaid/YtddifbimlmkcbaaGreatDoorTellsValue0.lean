/- What tells.Value answers. Condition: the item's texts are of at most 1048576 bytes together. -/
import Derived.Test.YtddifbimlmkcbaaGreatDoorTellsAns
import Derived.Test.YtddifbimlmkcbaaGreatDoorLowC
namespace Go.Proofs.YtddifbimlmkcbaaGreatDoor
open Go.RowKit

def valueW : List UInt8 := [86, 65, 76, 85, 69]
abbrev headL (x : ItemD) : List (List UInt8) := [valueW, bs x.key, Lib.decDigits x.flags.toNat, Lib.decDigits x.value.size]
def wordsL (verb : Int) (x : ItemD) : List (List UInt8) := if verb = 2 then headL x ++ [Lib.decDigits x.id.toNat] else headL x
def valueOf (verb kind : Int) (x : ItemD) : List UInt8 := if kind = 11 then lineOf (wordsL verb x) ++ bs x.value ++ [13, 10] else []

theorem join_words (verb : Int) (x : ItemD) (hx : x.Ok) (h : x.key.size + x.value.size ≤ 1048576) : (Lib.join (wordsL verb x) [32]).length ≤ 1050000 := by
  have h1 := dec_short x.flags.toNat (by have := hx.flags; omega)
  have h2 := dec_short x.value.size (by omega)
  have h3 := dec_short x.id.toNat (by have := hx.id; omega)
  have h4 := bs_length x.key
  unfold wordsL
  split <;> simp [Lib.join, headL, valueW, List.intercalate] at * <;> omega

theorem line_length (L : List (List UInt8)) : (lineOf L).length ≤ (Lib.join L [32]).length + 2 := by
  unfold lineOf; split <;> simp

theorem row_below {w w' : World} {B : Nat} {e : TypeId} {sz n : Nat} {v : Value} {xs : List Value} (h : w.ownsRow B e sz v n xs) (hb : Below w.heap.size w w') : w'.ownsRow B e sz v n xs := by
  obtain ⟨hl, h2⟩ := h
  refine ⟨hl, h2.imp id ?_⟩
  rintro ⟨g, cap, cur, rfl, hg, hh, hr⟩
  exact ⟨g, cap, cur, rfl, hg, (hb.block g (Array.getElem?_eq_some_iff.1 hh).1).trans hh, hr⟩

/-- What the walk holds of the world: the item's cells, the command's verb, the table. -/
abbrev Held (w : World) (c : CmdD) (a : AnsD) (W : World) : Prop :=
  W.cell? ⟨w.heap.size + 1, 2, none⟩ = some (.string a.item.key) ∧ W.cell? ⟨w.heap.size + 1, 3, none⟩ = some (.string a.item.value) ∧ W.cell? ⟨w.heap.size + 1, 4, none⟩ = some (.int .u32 a.item.flags) ∧
  W.cell? ⟨w.heap.size + 1, 5, none⟩ = some (.int .u64 a.item.id) ∧ W.cell? ⟨w.heap.size, 0, none⟩ = some (.int .u8 c.verb) ∧ HasPow W ∧ Below w.heap.size w W
theorem held_keep {w : World} {c : CmdD} {a : AnsD} {W W' : World} (hb : Below W.heap.size W W') (h : Held w c a W) : Held w c a W' := by
  obtain ⟨h1, h2, h3, h4, h5, h6, h7⟩ := h
  exact ⟨(hb.cell (cell_lt h1)).trans h1, (hb.cell (cell_lt h2)).trans h2, (hb.cell (cell_lt h3)).trans h3, (hb.cell (cell_lt h4)).trans h4, (hb.cell (cell_lt h5)).trans h5, h6.below hb, h7.trans (hb.mono h7.size)⟩

theorem held_keep' {w : World} {c : CmdD} {a : AnsD} {W W' : World} {B : Nat} (h0 : HasPow w) (hb : Below B W W') (hB : w.heap.size + 2 ≤ B) (h : Held w c a W) : Held w c a W' := by
  obtain ⟨h1, h2, h3, h4, h5, h6, h7⟩ := h
  have hb' : Below w.heap.size w W' := h7.trans (hb.mono (by omega))
  exact ⟨(hb.cell (by show _ < B; simp; omega)).trans h1, (hb.cell (by show _ < B; simp; omega)).trans h2, (hb.cell (by show _ < B; simp; omega)).trans h3, (hb.cell (by show _ < B; simp; omega)).trans h4, (hb.cell (by show _ < B; simp; omega)).trans h5, h0.below hb', hb'⟩

set_option maxHeartbeats 4000000 in
set_option maxRecDepth 100000 in
theorem value_any (c : CmdD) (a : AnsD) (w : World) (ha : a.Ok) (hs : a.item.key.size + a.item.value.size ≤ 1048576) (hP : HasPow w) :
    Calls Tryz.prog 15 #[c.val, a.val] w fun e w' => e = .returned (sv (valueOf c.verb a.kind a.item)) ∧ Below w.heap.size w w' := by
  obtain ⟨i0, hi, hz0, hz1, hz2⟩ := info_parts infoStr
  have Hi := Lib.hid hi
  have Hz := Lib.hid (And.intro hz0 (And.intro hz1 hz2))
  clear hi hz0 hz1 hz2
  have HP := Lib.hid hP
  clear hP
  have hjw := join_words c.verb a.item ha.item hs
  obtain ⟨⟨hk0, hk1⟩, ⟨hn0, hn1⟩, ⟨_, _, ⟨hf0, hf1⟩, ⟨hi0, hi1⟩⟩⟩ := ha
  have hb0 : Below w.heap.size w ((w.alloc (.cells #[.int .u8 c.verb, .slice c.ka c.kn c.kc, .int .u8 c.call.verb, .string c.call.key, .string c.call.value, .int .u32 c.call.flags, .int .i64 c.call.exp, .int .u64 c.call.id, .int .u64 c.call.by', .int .i64 c.bytes, .bool c.quiet] 41)).alloc (.cells #[.int .u8 a.kind, .int .u64 a.number, .string a.item.key, .string a.item.value, .int .u32 a.item.flags, .int .u64 a.item.id, .int .i64 a.item.dies, .int .i64 a.item.gen] 52)) :=
    ((Below.refl _ _).alloc (Nat.le_refl _) _).alloc (by simp) _
  have HB0 := Lib.hid hb0
  have HJ := Lib.hid hjw
  clear hb0 hjw
  by_cases h11 : a.kind = 11
  · have hb11 : (a.kind == 11) = true := by rw [h11]; rfl
    rw [show valueOf c.verb a.kind a.item = lineOf (wordsL c.verb a.item) ++ bs a.item.value ++ [13, 10] from by simp [valueOf, h11]]
    have hfw : IntKind.u64.wrap a.item.flags = a.item.flags := IntWalk.u64_in _ (by omega)
    have hlw : IntKind.u64.wrap (a.item.value.size : Int) = a.item.value.size := IntWalk.u64_in _ (by omega)
    clear h11
    go_enter Tryz.func15, Tryz.ntmps15
    go_wp2_with fail
    have H0 : Held w c a ((w.alloc (.cells #[.int .u8 c.verb, .slice c.ka c.kn c.kc, .int .u8 c.call.verb, .string c.call.key, .string c.call.value, .int .u32 c.call.flags, .int .i64 c.call.exp, .int .u64 c.call.id, .int .u64 c.call.by', .int .i64 c.bytes, .bool c.quiet] 41)).alloc (.cells #[.int .u8 a.kind, .int .u64 a.number, .string a.item.key, .string a.item.value, .int .u32 a.item.flags, .int .u64 a.item.id, .int .i64 a.item.dies, .int .i64 a.item.gen] 52)) :=
      ⟨by simp [go_sem], by simp [go_sem], by simp [go_sem], by simp [go_sem], by simp [go_sem], HP.out.below HB0.out, HB0.out⟩
    clear HB0
    generalize (w.alloc (.cells #[.int .u8 c.verb, .slice c.ka c.kn c.kc, .int .u8 c.call.verb, .string c.call.key, .string c.call.value, .int .u32 c.call.flags, .int .i64 c.call.exp, .int .u64 c.call.id, .int .u64 c.call.by', .int .i64 c.bytes, .bool c.quiet] 41)).alloc (.cells #[.int .u8 a.kind, .int .u64 a.number, .string a.item.key, .string a.item.value, .int .u32 a.item.flags, .int .u64 a.item.id, .int .i64 a.item.dies, .int .i64 a.item.gen] 52) = W0 at H0 ⊢
    obtain ⟨h1, h2, h3, h4, h5, h6, h7⟩ := H0
    go_region_held3 (fun W => W.cell? ⟨w.heap.size + 1, 2, none⟩ = some (.string a.item.key) ∧ W.cell? ⟨w.heap.size + 1, 3, none⟩ = some (.string a.item.value) ∧ W.cell? ⟨w.heap.size + 1, 4, none⟩ = some (.int .u32 a.item.flags) ∧
      W.cell? ⟨w.heap.size + 1, 5, none⟩ = some (.int .u64 a.item.id) ∧ W.cell? ⟨w.heap.size, 0, none⟩ = some (.int .u8 c.verb) ∧ HasPow W ∧ Below w.heap.size w W)
      (first
        | (exact held_keep (Below.refl _ _).drew ⟨by assumption, by assumption, by assumption, by assumption, by assumption, by assumption, by assumption⟩)
        | (go_split_ands; exact held_keep (by assumption) ⟨by assumption, by assumption, by assumption, by assumption, by assumption, by assumption, by assumption⟩)
        | (go_split_ands; exact held_keep ((Below.refl _ _).alloc (Nat.le_refl _) _) ⟨by assumption, by assumption, by assumption, by assumption, by assumption, by assumption, by assumption⟩)
        | go_keep)
      (first
        | (go_split_ands; go_at_call 34; refine (text_any a.item.flags hf0 (by omega) _ ‹_›).mono ?_; rintro e w1 ⟨rfl, hb1⟩)
        | (go_split_ands; go_at_call 34; refine (text_any (a.item.value.size : Int) (by omega) (by omega) _ ‹_›).mono ?_; rintro e w1 ⟨rfl, hb1⟩))
    go_split_ands
    rename_i g1 g2 g3 g4 g5 g6 g7
    clear h1 h2 h3 h4 h5 h6 h7
    rename_i p2 p3 p4 p5 pV pH pR
    have hlt0 : w.heap.size + 2 ≤ w1.heap.size := Nat.le_trans (cell_lt p2) hb1.size
    clear p2 p3 p4 p5 pV pH
    have hB1 : Below w.heap.size w w1 := pR.trans (hb1.mono pR.size)
    have hown := World.ownsRow_lit (base := w1.heap.size) (e := 9) (size := 1) w1 #[.string ⟨#[86, 65, 76, 85, 69]⟩, .string a.item.key, sv (Lib.decDigits a.item.flags.toNat), sv (Lib.decDigits a.item.value.size)] 4 (Nat.le_refl _) (by decide) (by simp)
    generalize w1.alloc (.cells #[.string ⟨#[86, 65, 76, 85, 69]⟩, .string a.item.key, sv (Lib.decDigits a.item.flags.toNat), sv (Lib.decDigits a.item.value.size)] 9) = W1 at *
    have hlt1 : w1.heap.size < W1.heap.size := by
      rcases hown.2 with ⟨h, _⟩ | ⟨g, cap, cur, h, _, hg, _⟩
      · simp at h
      · obtain ⟨rfl, _⟩ : g = w1.heap.size ∧ cap = 4 := by simpa using h.symm
        exact (Array.getElem?_eq_some_iff.1 hg).1
    by_cases hv2 : c.verb = 2
    · have hwd : wordsL c.verb a.item = headL a.item ++ [Lib.decDigits a.item.id.toNat] := by simp [wordsL, hv2]
      rw [hwd] at HJ
      have HWD := Lib.hid hwd
      have hb2 : (c.verb == 2) = true := by rw [hv2]; rfl
      clear hwd
      go_wp2_with fail
      refine (text_any a.item.id hi0 (by omega) _ g6).mono ?_
      rintro e w2 ⟨rfl, hb2⟩
      have hown2 := row_below hown hb2
      have HS2 : Held w c a w2 := held_keep hb2 ⟨g1, g2, g3, g4, g5, g6, g7⟩
      clear g1 g2 g3 g4 g5 g6
      go_wp2_with (at_builtin; refine wpList_append_own _ rfl _ _ 35 rfl w1.heap.size 9 i0 (.string ⟨#[]⟩) 1 16 Tryz.underlying35 Hi.out Hz.out.1 Hz.out.2.1 Hz.out.2.2 rfl (by decide) _ _ _ rfl (hown2.alloc _) ⟨w2.heap.size, 0, none⟩ 1 1 [sv (Lib.decDigits a.item.id.toNat)] rfl rfl ?c1 ?c2 ?c3 ?c4 ?c5 ?_)
      case c2 => intro u hu; obtain rfl := List.mem_singleton.1 hu; rfl
      case c3 => decide
      case c4 => decide
      case c5 => have := hb2.size; simp; omega
      · go_simp
      · intro v' w3 hown3 hgrow _
        have hb3 := below_append (Below.refl _ _) (by have := hb2.size; omega) hown2 hgrow
        obtain ⟨g1, g2, g3, g4, g5, g6, g7⟩ := held_keep' HP.out hb3 hlt0 HS2
        have hO3 : Own w3 w1.heap.size v' ((headL a.item ++ [Lib.decDigits a.item.id.toNat]).map sv) := Own.of_row hown3
        have HL := Lib.hid (tline_any (hO3.below (Below.refl w3.heap.size w3).drew (Nat.le_refl _)) (by simp) (by have := HJ.out; omega))
        clear hO3
        have hll := line_length (headL a.item ++ [Lib.decDigits a.item.id.toNat])
        have hj := HJ.out
        generalize hLL : lineOf (headL a.item ++ [Lib.decDigits a.item.id.toNat]) = LL at HL hll
        have HLL := Lib.hid hLL
        have hl4 : LL.length ≤ 1050002 := by omega
        have hv3 : a.item.value.size ≤ 1048576 := by omega
        have hq1 : ¬ 9223372036854775807 < LL.length + a.item.value.size := by omega
        have hq2 : ¬ 9223372036854775807 < LL.length + a.item.value.size + 2 := by omega
        clear hLL hll hj
        clear hown hown2 hown3 hgrow hb3 HS2 hb2
        go_wp2_with fail
        go_region_held3 (fun W => W.cell? ⟨w.heap.size + 1, 2, none⟩ = some (.string a.item.key) ∧ W.cell? ⟨w.heap.size + 1, 3, none⟩ = some (.string a.item.value) ∧ W.cell? ⟨w.heap.size + 1, 4, none⟩ = some (.int .u32 a.item.flags) ∧
            W.cell? ⟨w.heap.size + 1, 5, none⟩ = some (.int .u64 a.item.id) ∧ W.cell? ⟨w.heap.size, 0, none⟩ = some (.int .u8 c.verb) ∧ HasPow W ∧ Below w.heap.size w W)
          (first
            | (exact held_keep (Below.refl _ _).drew ⟨by assumption, by assumption, by assumption, by assumption, by assumption, by assumption, by assumption⟩)
            | (go_split_ands; exact held_keep (by assumption) ⟨by assumption, by assumption, by assumption, by assumption, by assumption, by assumption, by assumption⟩)
            | go_keep)
          (first
            | (go_split_ands; go_at_call 33; refine HL.out.mono ?_; rintro e w2 ⟨rfl, hb2⟩) | fail)
        go_split_ands
        go_wp2_with fail
        go_ret
        refine ⟨ret_congr ?_, by assumption⟩
        rw [HWD.out, HLL.out]
        exact sv_of (by rw [bs_append, bs_append])
    · have hwd : wordsL c.verb a.item = headL a.item := by simp [wordsL, hv2]
      rw [hwd] at HJ
      have HWD := Lib.hid hwd
      have hb2 : (c.verb == 2) = false := by rw [beq_eq_false_iff_ne]; exact hv2
      have hO1 : Own W1 w1.heap.size (.slice (some ⟨w1.heap.size, 0, none⟩) 4 4) ((headL a.item).map sv) := Own.of_row hown
      have HL := Lib.hid (tline_any (hO1.below (Below.refl W1.heap.size W1).drew (Nat.le_refl _)) (by simp) (by have := HJ.out; omega))
      clear hO1
      have hll := line_length (headL a.item)
      have hj := HJ.out
      generalize hLL : lineOf (headL a.item) = LL at HL hll
      have HLL := Lib.hid hLL
      have hl4 : LL.length ≤ 1050002 := by omega
      have hv3 : a.item.value.size ≤ 1048576 := by omega
      have hq1 : ¬ 9223372036854775807 < LL.length + a.item.value.size := by omega
      have hq2 : ¬ 9223372036854775807 < LL.length + a.item.value.size + 2 := by omega
      clear hLL hll hj
      clear hwd hown
      go_wp2_with fail
      go_region_held3 (fun W => W.cell? ⟨w.heap.size + 1, 2, none⟩ = some (.string a.item.key) ∧ W.cell? ⟨w.heap.size + 1, 3, none⟩ = some (.string a.item.value) ∧ W.cell? ⟨w.heap.size + 1, 4, none⟩ = some (.int .u32 a.item.flags) ∧
          W.cell? ⟨w.heap.size + 1, 5, none⟩ = some (.int .u64 a.item.id) ∧ W.cell? ⟨w.heap.size, 0, none⟩ = some (.int .u8 c.verb) ∧ HasPow W ∧ Below w.heap.size w W)
        (first
          | (exact held_keep (Below.refl _ _).drew ⟨by assumption, by assumption, by assumption, by assumption, by assumption, by assumption, by assumption⟩)
          | (go_split_ands; exact held_keep (by assumption) ⟨by assumption, by assumption, by assumption, by assumption, by assumption, by assumption, by assumption⟩)
          | go_keep)
        (first
          | (go_split_ands; go_at_call 33; refine HL.out.mono ?_; rintro e w2 ⟨rfl, hb2⟩) | fail)
      go_split_ands
      go_wp2_with fail
      go_ret
      refine ⟨ret_congr ?_, by assumption⟩
      rw [HWD.out, HLL.out]
      exact sv_of (by rw [bs_append, bs_append])
  · rw [show valueOf c.verb a.kind a.item = [] from by simp [valueOf, h11]]
    have hb11 : (a.kind == 11) = false := by rw [beq_eq_false_iff_ne]; exact h11
    clear h11
    go_enter Tryz.func15, Tryz.ntmps15
    go_wp2_with fail
    go_ret
    exact ⟨rfl, HB0.out⟩
end Go.Proofs.YtddifbimlmkcbaaGreatDoor
