/- The laws TellsValue and TellsLine answer true. Condition: the command's and the answer's texts are of at most 1048576 bytes together. -/
import Derived.Test.YtaokclnandjlpaaDoorTellsLives
namespace Go.Proofs.YtaokclnandjlpaaDoor
open Go.RowKit

/-- What the laws' walks hold of the world: the command's cells, the answer's, the table. -/
abbrev HeldL (w : World) (c : CmdD) (a : AnsD) (W : World) : Prop := W.cell? ⟨w.heap.size, 0, none⟩ = some (.int .u8 c.verb) ∧ W.cell? ⟨w.heap.size, 1, none⟩ = some (.slice c.ka c.kn c.kc) ∧ W.cell? ⟨w.heap.size, 2, none⟩ = some (.int .u8 c.call.verb) ∧ W.cell? ⟨w.heap.size, 3, none⟩ = some (.string c.call.key) ∧ W.cell? ⟨w.heap.size, 4, none⟩ = some (.string c.call.value) ∧ W.cell? ⟨w.heap.size, 5, none⟩ = some (.int .u32 c.call.flags) ∧ W.cell? ⟨w.heap.size, 6, none⟩ = some (.int .i64 c.call.exp) ∧ W.cell? ⟨w.heap.size, 7, none⟩ = some (.int .u64 c.call.id) ∧ W.cell? ⟨w.heap.size, 8, none⟩ = some (.int .u64 c.call.by') ∧ W.cell? ⟨w.heap.size, 9, none⟩ = some (.int .i64 c.bytes) ∧ W.cell? ⟨w.heap.size, 10, none⟩ = some (.bool c.quiet) ∧ W.cell? ⟨w.heap.size + 1, 0, none⟩ = some (.int .u8 a.kind) ∧ W.cell? ⟨w.heap.size + 1, 1, none⟩ = some (.int .u64 a.number) ∧ W.cell? ⟨w.heap.size + 1, 2, none⟩ = some (.string a.item.key) ∧ W.cell? ⟨w.heap.size + 1, 3, none⟩ = some (.string a.item.value) ∧ W.cell? ⟨w.heap.size + 1, 4, none⟩ = some (.int .u32 a.item.flags) ∧ W.cell? ⟨w.heap.size + 1, 5, none⟩ = some (.int .u64 a.item.id) ∧ W.cell? ⟨w.heap.size + 1, 6, none⟩ = some (.int .i64 a.item.dies) ∧ W.cell? ⟨w.heap.size + 1, 7, none⟩ = some (.int .i64 a.item.gen) ∧ HasPow W ∧ Below w.heap.size w W
theorem heldL_keep {w : World} {c : CmdD} {a : AnsD} {W W' : World} (hb : Below W.heap.size W W') (h : HeldL w c a W) : HeldL w c a W' := by
  obtain ⟨h0, h1, h2, h3, h4, h5, h6, h7, h8, h9, h10, h11, h12, h13, h14, h15, h16, h17, h18, hP, hB⟩ := h
  exact ⟨(hb.cell (cell_lt h0)).trans h0, (hb.cell (cell_lt h1)).trans h1, (hb.cell (cell_lt h2)).trans h2, (hb.cell (cell_lt h3)).trans h3, (hb.cell (cell_lt h4)).trans h4, (hb.cell (cell_lt h5)).trans h5, (hb.cell (cell_lt h6)).trans h6, (hb.cell (cell_lt h7)).trans h7, (hb.cell (cell_lt h8)).trans h8, (hb.cell (cell_lt h9)).trans h9, (hb.cell (cell_lt h10)).trans h10, (hb.cell (cell_lt h11)).trans h11, (hb.cell (cell_lt h12)).trans h12, (hb.cell (cell_lt h13)).trans h13, (hb.cell (cell_lt h14)).trans h14, (hb.cell (cell_lt h15)).trans h15, (hb.cell (cell_lt h16)).trans h16, (hb.cell (cell_lt h17)).trans h17, (hb.cell (cell_lt h18)).trans h18, hP.below hb, hB.trans (hb.mono hB.size)⟩

def sizes (c : CmdD) (a : AnsD) : Nat := c.call.key.size + c.call.value.size + a.item.key.size + a.item.value.size

set_option maxHeartbeats 8000000 in
set_option maxRecDepth 100000 in
theorem tellsValue_walk (c : CmdD) (a : AnsD) (w : World) (ha : a.Ok) (hs : c.call.key.size + c.call.value.size + a.item.key.size + a.item.value.size ≤ 1048576) (hn : c.kn ≤ 1048576) (hP : HasPow w) :
    Calls Tryd.prog 3 #[c.val, a.val] w fun e w' => e = .returned (.bool true) ∧ Below w.heap.size w w' := by
  have HP := Lib.hid hP
  have HA := Lib.hid ha
  clear hP ha
  have hb0 : Below w.heap.size w ((w.alloc (.cells #[.int .u8 c.verb, .slice c.ka c.kn c.kc, .int .u8 c.call.verb, .string c.call.key, .string c.call.value, .int .u32 c.call.flags, .int .i64 c.call.exp, .int .u64 c.call.id, .int .u64 c.call.by', .int .i64 c.bytes, .bool c.quiet] 29)).alloc (.cells #[.int .u8 a.kind, .int .u64 a.number, .string a.item.key, .string a.item.value, .int .u32 a.item.flags, .int .u64 a.item.id, .int .i64 a.item.dies, .int .i64 a.item.gen] 34)) :=
    ((Below.refl _ _).alloc (Nat.le_refl _) _).alloc (by simp) _
  have HB0 := Lib.hid hb0
  have HL := Lib.hid (lives31 _ (HP.out.below hb0))
  clear hb0
  by_cases h100 : 100 < c.kn
  · go_enter Tryd.func3, Tryd.ntmps3
    go_wp2_with fail
    refine HL.out.mono ?_
    rintro e w1 ⟨rfl, hb1⟩
    go_wp2_with fail
    go_ret
    exact ⟨rfl, HB0.out.trans (hb1.mono HB0.out.size)⟩
  · by_cases h3000 : 3000 < c.call.key.size + c.call.value.size + a.item.key.size + a.item.value.size
    · go_enter Tryd.func3, Tryd.ntmps3
      go_wp2_with fail
      refine HL.out.mono ?_
      rintro e w1 ⟨rfl, hb1⟩
      go_wp2_with fail
      go_ret
      exact ⟨rfl, HB0.out.trans (hb1.mono HB0.out.size)⟩
    · have HS := Lib.hid (show a.item.key.size + a.item.value.size ≤ 3000 by omega)
      go_enter Tryd.func3, Tryd.ntmps3
      go_wp2_with fail
      have H0 : HeldL w c a ((w.alloc (.cells #[.int .u8 c.verb, .slice c.ka c.kn c.kc, .int .u8 c.call.verb, .string c.call.key, .string c.call.value, .int .u32 c.call.flags, .int .i64 c.call.exp, .int .u64 c.call.id, .int .u64 c.call.by', .int .i64 c.bytes, .bool c.quiet] 29)).alloc (.cells #[.int .u8 a.kind, .int .u64 a.number, .string a.item.key, .string a.item.value, .int .u32 a.item.flags, .int .u64 a.item.id, .int .i64 a.item.dies, .int .i64 a.item.gen] 34)) :=
        ⟨by simp [go_sem], by simp [go_sem], by simp [go_sem], by simp [go_sem], by simp [go_sem], by simp [go_sem], by simp [go_sem], by simp [go_sem], by simp [go_sem], by simp [go_sem], by simp [go_sem], by simp [go_sem], by simp [go_sem], by simp [go_sem], by simp [go_sem], by simp [go_sem], by simp [go_sem], by simp [go_sem], by simp [go_sem], HP.out.below HB0.out, HB0.out⟩
      clear HB0 HL
      generalize (w.alloc (.cells #[.int .u8 c.verb, .slice c.ka c.kn c.kc, .int .u8 c.call.verb, .string c.call.key, .string c.call.value, .int .u32 c.call.flags, .int .i64 c.call.exp, .int .u64 c.call.id, .int .u64 c.call.by', .int .i64 c.bytes, .bool c.quiet] 29)).alloc (.cells #[.int .u8 a.kind, .int .u64 a.number, .string a.item.key, .string a.item.value, .int .u32 a.item.flags, .int .u64 a.item.id, .int .i64 a.item.dies, .int .i64 a.item.gen] 34) = W0 at H0 ⊢
      obtain ⟨h0, h1, h2, h3, h4, h5, h6, h7, h8, h9, h10, h11, h12, h13, h14, h15, h16, h17, h18, hP, hB⟩ := H0
      go_region_held3 (fun W => W.cell? ⟨w.heap.size, 0, none⟩ = some (.int .u8 c.verb) ∧ W.cell? ⟨w.heap.size, 1, none⟩ = some (.slice c.ka c.kn c.kc) ∧ W.cell? ⟨w.heap.size, 2, none⟩ = some (.int .u8 c.call.verb) ∧ W.cell? ⟨w.heap.size, 3, none⟩ = some (.string c.call.key) ∧ W.cell? ⟨w.heap.size, 4, none⟩ = some (.string c.call.value) ∧ W.cell? ⟨w.heap.size, 5, none⟩ = some (.int .u32 c.call.flags) ∧ W.cell? ⟨w.heap.size, 6, none⟩ = some (.int .i64 c.call.exp) ∧ W.cell? ⟨w.heap.size, 7, none⟩ = some (.int .u64 c.call.id) ∧ W.cell? ⟨w.heap.size, 8, none⟩ = some (.int .u64 c.call.by') ∧ W.cell? ⟨w.heap.size, 9, none⟩ = some (.int .i64 c.bytes) ∧ W.cell? ⟨w.heap.size, 10, none⟩ = some (.bool c.quiet) ∧ W.cell? ⟨w.heap.size + 1, 0, none⟩ = some (.int .u8 a.kind) ∧ W.cell? ⟨w.heap.size + 1, 1, none⟩ = some (.int .u64 a.number) ∧ W.cell? ⟨w.heap.size + 1, 2, none⟩ = some (.string a.item.key) ∧ W.cell? ⟨w.heap.size + 1, 3, none⟩ = some (.string a.item.value) ∧ W.cell? ⟨w.heap.size + 1, 4, none⟩ = some (.int .u32 a.item.flags) ∧ W.cell? ⟨w.heap.size + 1, 5, none⟩ = some (.int .u64 a.item.id) ∧ W.cell? ⟨w.heap.size + 1, 6, none⟩ = some (.int .i64 a.item.dies) ∧ W.cell? ⟨w.heap.size + 1, 7, none⟩ = some (.int .i64 a.item.gen) ∧ HasPow W ∧ Below w.heap.size w W)
        (first
          | (exact heldL_keep (Below.refl _ _).drew ⟨by assumption, by assumption, by assumption, by assumption, by assumption, by assumption, by assumption, by assumption, by assumption, by assumption, by assumption, by assumption, by assumption, by assumption, by assumption, by assumption, by assumption, by assumption, by assumption, by assumption, by assumption⟩)
          | (go_split_ands; exact heldL_keep (by assumption) ⟨by assumption, by assumption, by assumption, by assumption, by assumption, by assumption, by assumption, by assumption, by assumption, by assumption, by assumption, by assumption, by assumption, by assumption, by assumption, by assumption, by assumption, by assumption, by assumption, by assumption, by assumption⟩)
          | go_keep)
        (first
          | (go_split_ands; go_at_call 20; refine (value_any c a _ HA.out HS.out ‹_›).mono ?_; rintro e w1 ⟨rfl, hb1⟩)
          | (go_split_ands; go_at_call 22; refine (other_any c _).mono ?_; rintro e w1 ⟨rfl, hb1⟩)
          | (go_split_ands; go_at_call 21; refine (refValue_any c a _ HA.out HS.out ‹_›).mono ?_; rintro e w1 ⟨rfl, hb1⟩)
          | (go_split_ands; go_at_call 19; refine (lives31 _ ‹_›).mono ?_; rintro e w1 ⟨rfl, hb1⟩)
          | fail)
      go_split_ands
      go_wp2_with fail
      go_ret
      exact ⟨rfl, by assumption⟩
end Go.Proofs.YtaokclnandjlpaaDoor
