/- Two events that are the same are like each other. No condition. -/
import Derived.Test.YtahpjhnbjkjkiaaDoorFeedLives
namespace Go.Proofs.YtahpjhnbjkjkiaaDoor
open Go.RowKit Go.ChangeMaps Go.MapKept

set_option maxRecDepth 100000 in
set_option maxHeartbeats 4000000 in
theorem like_same {w : World} {k1 k2 : Value} {ev : Ev} (h1 : KeysAt w k1 ev.cmd.keys) (h2 : KeysAt w k2 ev.cmd.keys) :
    Calls Tryd.prog 12 #[evV k1 ev, evV k2 ev] w fun e w' => e = .returned (.bool true) ∧ Below w.heap.size w w' := by
  obtain ⟨a1, c1, rfl⟩ := h1.len
  obtain ⟨a2, c2, rfl⟩ := h2.len
  have hm := h1.max
  unfold maxLen at hm
  obtain ⟨w2, hw2⟩ : ∃ w2, w2 = (w.alloc (.cells (evCells (.slice a1 ev.cmd.keys.length c1) ev).toArray 42)).alloc (.cells (evCells (.slice a2 ev.cmd.keys.length c2) ev).toArray 42) := ⟨_, rfl⟩
  have hb2 : Below w.heap.size w w2 := by rw [hw2]; exact ((Below.refl _ _).alloc (Nat.le_refl _) _).alloc (by simp) _
  have r1 := h1.below hb2
  have r2 := h2.below hb2
  have q1 : ∀ m, (w2.drewN m).cell? ⟨w.heap.size, 1, none⟩ = some (.slice a1 ev.cmd.keys.length c1) := fun m => by
    have : w2.heap[w.heap.size]? = some (.cells (evCells (.slice a1 ev.cmd.keys.length c1) ev).toArray 42 (0, 0)) := by
      rw [hw2, heap_at, if_neg (by simp), heap_at, if_pos rfl]
    exact (block_cell this 1).1
  have q2 : ∀ m, (w2.drewN m).cell? ⟨w.heap.size + 1, 1, none⟩ = some (.slice a2 ev.cmd.keys.length c2) := fun m => by
    have : w2.heap[w.heap.size + 1]? = some (.cells (evCells (.slice a2 ev.cmd.keys.length c2) ev).toArray 42 (0, 0)) := by
      rw [hw2, heap_at, if_pos (by simp)]
    exact (block_cell this 1).1
  have HB2 := Lib.hid hb2
  have R1 := Lib.hid r1
  have R2 := Lib.hid r2
  have Q1 := Lib.hid q1
  have Q2 := Lib.hid q2
  clear h1 h2 hb2 r1 r2 q1 q2
  go_enter Tryd.func12, Tryd.ntmps12
  go_wp2_with fail
  go_loopw [5] (fun i wr => ∃ j m : Nat, j ≤ ev.cmd.keys.length ∧ i = .int .i64 (j : Int) ∧ wr = w2.drewN m) (fun i _ => ev.cmd.keys.length - (intOf i).toNat)
  case atStart => exact ⟨0, 0, Nat.zero_le _, rfl, hw2.symm⟩
  case round =>
    obtain ⟨j, m, hj, rfl, rfl⟩ := hrel
    clear hw2
    have q1 := Q1.out m
    have q2 := Q2.out m
    have q1' := fun m' => Q1.out m'
    have q2' := fun m' => Q2.out m'
    by_cases hlt : j < ev.cmd.keys.length
    · obtain ⟨x, hx⟩ : ∃ x, ev.cmd.keys[j]? = some x := ⟨_, List.getElem?_eq_getElem hlt⟩
      obtain ⟨g1, o1, cc1, he1, _, hc1, _⟩ := R1.out.at (k := j) (x := sv x) (by rw [List.getElem?_map, hx]; rfl)
      obtain ⟨g2, o2, cc2, he2, _, hc2, _⟩ := R2.out.at (k := j) (x := sv x) (by rw [List.getElem?_map, hx]; rfl)
      have i1 := fun W => idx_str' (c := c1) (slice_inj he1).1 hlt W
      have i2 := fun W => idx_str' (c := c2) (slice_inj he2).1 hlt W
      clear he1 he2 hx
      go_wp2_with fail
      go_quiet (fail)
      go_wp2_with fail
      go_roundw
      case rel => exact ⟨j + 1, _, by omega, by go_num, rfl⟩
      case measure => simp [intOf]; omega
    · go_wp2_with fail
      go_ret
      exact ⟨rfl, ⟨HB2.out.os, HB2.out.tape, HB2.out.output, HB2.out.size, HB2.out.block⟩⟩
end Go.Proofs.YtahpjhnbjkjkiaaDoor
