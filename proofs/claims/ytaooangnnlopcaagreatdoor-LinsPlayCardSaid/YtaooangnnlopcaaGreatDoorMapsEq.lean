/- Items and answers beside each other ('==', '!='). No condition. -/
import Derived.Test.YtaooangnnlopcaaGreatDoorMapsAt
namespace Go.Proofs.YtaooangnnlopcaaGreatDoor
open Go.RowKit
abbrev AnsD.cells (a : AnsD) : Array Value := #[.int .u8 a.kind, .int .u64 a.number, .string a.item.key, .string a.item.value, .int .u32 a.item.flags, .int .u64 a.item.id, .int .i64 a.item.dies, .int .i64 a.item.gen]
theorem bytes_toList {a b : ByteArray} : a.toList = b.toList ↔ a = b := by
  constructor
  · intro h
    rw [ByteArray.toList_eq, ByteArray.toList_eq] at h
    exact ByteArray.ext (Array.toList_inj.1 h)
  · rintro rfl; rfl
theorem item_parts (a b : ItemD) : a = b ↔ a.key.toList = b.key.toList ∧ a.value.toList = b.value.toList ∧ a.flags = b.flags ∧ a.id = b.id ∧ a.dies = b.dies ∧ a.gen = b.gen := by
  cases a; cases b
  simp [bytes_toList]
theorem ans_parts (a b : AnsD) : a = b ↔ a.kind = b.kind ∧ a.number = b.number ∧ a.item.key.toList = b.item.key.toList ∧ a.item.value.toList = b.item.value.toList ∧ a.item.flags = b.item.flags ∧ a.item.id = b.item.id ∧ a.item.dies = b.item.dies ∧ a.item.gen = b.item.gen := by
  obtain ⟨ak, an, ai⟩ := a
  obtain ⟨bk, bn, bi⟩ := b
  simp only [AnsD.mk.injEq, item_parts]
set_option maxRecDepth 100000 in
theorem run_item_ne (a b : ItemD) (W : World) : (binOp .neq 38 a.val b.val).run Tryz.prog W = .ok (.bool (!decide (a = b))) W := by
  have h := Tryz.underlying38
  go_simp
  have hp := item_parts a b
  by_cases e : a = b
  · obtain ⟨h1, h2, h3, h4, h5, h6⟩ := hp.1 e
    rw [if_pos h1, if_pos h2, if_pos h3, if_pos h4, if_pos h5, if_pos h6, decide_eq_true e]
    rfl
  · rw [decide_eq_false e]
    repeat' split
    all_goals first | rfl | exact absurd (hp.2 ⟨‹_›, ‹_›, ‹_›, ‹_›, ‹_›, ‹_›⟩) e
set_option maxRecDepth 100000 in
theorem run_ans_eq (a b : AnsD) (W : World) : (binOp .eql 40 (.agg a.cells) (.agg b.cells)).run Tryz.prog W = .ok (.bool (decide (a = b))) W := by
  have h := Tryz.underlying40
  have h2 := Tryz.underlying38
  go_simp
  have hp := ans_parts a b
  by_cases e : a = b
  · obtain ⟨h1, h2, h3, h4, h5, h6, h7, h8⟩ := hp.1 e
    rw [if_pos h1, if_pos h2, if_pos h3, if_pos h4, if_pos h5, if_pos h6, if_pos h7, if_pos h8, decide_eq_true e]
  · rw [decide_eq_false e]
    repeat' split
    all_goals first | rfl | exact absurd (hp.2 ⟨‹_›, ‹_›, ‹_›, ‹_›, ‹_›, ‹_›, ‹_›, ‹_›⟩) e
set_option maxRecDepth 100000 in
theorem run_ans_ne (a b : AnsD) (W : World) : (binOp .neq 40 (.agg a.cells) (.agg b.cells)).run Tryz.prog W = .ok (.bool (!decide (a = b))) W := by
  have h := Tryz.underlying40
  have h2 := Tryz.underlying38
  go_simp
  have hp := ans_parts a b
  by_cases e : a = b
  · obtain ⟨h1, h2, h3, h4, h5, h6, h7, h8⟩ := hp.1 e
    rw [if_pos h1, if_pos h2, if_pos h3, if_pos h4, if_pos h5, if_pos h6, if_pos h7, if_pos h8, decide_eq_true e]
    rfl
  · rw [decide_eq_false e]
    repeat' split
    all_goals first | rfl | exact absurd (hp.2 ⟨‹_›, ‹_›, ‹_›, ‹_›, ‹_›, ‹_›, ‹_›, ‹_›⟩) e
end Go.Proofs.YtaooangnnlopcaaGreatDoor
