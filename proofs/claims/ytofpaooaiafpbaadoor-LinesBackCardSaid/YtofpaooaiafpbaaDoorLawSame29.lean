/- nestboxlaw29.same: are commands alike. (After refSame in LineSame.) -/
import Derived.Test.YtofpaooaiafpbaaDoorLineSame
namespace Go.Proofs.YtofpaooaiafpbaaDoor
open Go.RowKit Go.ChangeMaps Go.MapKept

set_option maxHeartbeats 3200000 in
theorem lsame29_no (k1 k2 : Value) (a b : Cmd) (w : World) (a1 a2 : Option Addr) (n1 n2 c1 c2 : Nat) (h1 : k1 = .slice a1 n1 c1) (h2 : k2 = .slice a2 n2 c2) (hr : restC a b = false) :
    Calls Tryd.prog 8 #[cmdV k1 a, cmdV k2 b] w fun e w' => e = .returned (.bool false) ∧ Below w.heap.size w w' := by
  subst h1 h2
  have HR := Lib.hid hr
  clear hr
  go_enter Tryd.func8, Tryd.ntmps8
  go_wp2_with fail
  all_goals first
    | (go_ret; exact ⟨rfl, ((Below.refl _ _).alloc (Nat.le_refl _) _).alloc (by simp) _⟩)
    | (exfalso; have hr := HR.out; go_light; clear HR; (try simp only [Int.natCast_inj] at *); simp_all [restC])
theorem lsame29_len (a1 a2 : Option Addr) (n1 n2 c1 c2 : Nat) (b : Cmd) (w : World) (h : n1 ≠ n2) :
    Calls Tryd.prog 8 #[cmdV (.slice a1 n1 c1) b, cmdV (.slice a2 n2 c2) b] w fun e w' => e = .returned (.bool false) ∧ Below w.heap.size w w' := by
  have h1 : ((n1 : Int) != (n2 : Int)) = true := by rw [bne_iff_ne]; omega
  have h2 : (n1 != n2) = true := by rw [bne_iff_ne]; omega
  go_enter Tryd.func8, Tryd.ntmps8
  go_wp2_with fail
  go_ret
  exact ⟨rfl, ((Below.refl _ _).alloc (Nat.le_refl _) _).alloc (by simp) _⟩
theorem lsame29_zero (a1 a2 : Option Addr) (c1 c2 : Nat) (b : Cmd) (w : World) :
    Calls Tryd.prog 8 #[cmdV (.slice a1 0 c1) b, cmdV (.slice a2 0 c2) b] w fun e w' => e = .returned (.bool true) ∧ Below w.heap.size w w' := by
  go_enter Tryd.func8, Tryd.ntmps8
  go_wp2_with fail
  refine wp_loop_rounds 1 ?_; rw [rounds_succ]
  go_wp2_with fail
  go_ret
  exact ⟨rfl, ((Below.refl _ _).alloc (Nat.le_refl _) _).alloc (by simp) _⟩
set_option maxHeartbeats 2000000 in
theorem lsame29_some (g1 o1 g2 o2 n c1 c2 : Nat) (L1 L2 : List (List UInt8)) (b : Cmd) (w : World) (hn1 : L1.length = n) (hn2 : L2.length = n) (hm : n ≤ maxLen) (hg1 : g1 < w.heap.size) (hg2 : g2 < w.heap.size)
    (hc1 : ∀ j x, L1[j]? = some x → w.cell? ⟨g1, o1 + j, none⟩ = some (sv x)) (hc2 : ∀ j x, L2[j]? = some x → w.cell? ⟨g2, o2 + j, none⟩ = some (sv x)) :
    Calls Tryd.prog 8 #[cmdV (.slice (some ⟨g1, o1, none⟩) n c1) b, cmdV (.slice (some ⟨g2, o2, none⟩) n c2) b] w fun e w' => e = .returned (.bool (L1 == L2)) ∧ Below w.heap.size w w' := by
  unfold maxLen at hm
  have HC1 := Lib.hid hc1
  have HC2 := Lib.hid hc2
  have HN1 := Lib.hid hn1
  have HN2 := Lib.hid hn2
  clear hc1 hc2 hn1 hn2
  go_enter Tryd.func8, Tryd.ntmps8
  go_wp2_with fail
  have hb0 : Below w.heap.size w ((w.alloc (.cells (cmdCells (.slice (some ⟨g1, o1, none⟩) n c1) b).toArray 29)).alloc (.cells (cmdCells (.slice (some ⟨g2, o2, none⟩) n c2) b).toArray 29)) := ((Below.refl _ _).alloc (Nat.le_refl _) _).alloc (by simp) _
  have hA : ((w.alloc (.cells (cmdCells (.slice (some ⟨g1, o1, none⟩) n c1) b).toArray 29)).alloc (.cells (cmdCells (.slice (some ⟨g2, o2, none⟩) n c2) b).toArray 29)).cell? ⟨w.heap.size, 1, none⟩ = some (.slice (some ⟨g1, o1, none⟩) n c1) := by
    rw [((Below.refl _ _).alloc (Nat.le_refl _) _).cell (p := ⟨w.heap.size, 1, none⟩) (by simp), (block_cell (heap_alloc_new _ _) 1).1]; rfl
  have hB : ((w.alloc (.cells (cmdCells (.slice (some ⟨g1, o1, none⟩) n c1) b).toArray 29)).alloc (.cells (cmdCells (.slice (some ⟨g2, o2, none⟩) n c2) b).toArray 29)).cell? ⟨w.heap.size + 1, 1, none⟩ = some (.slice (some ⟨g2, o2, none⟩) n c2) := by
    have := (block_cell (heap_alloc_new (w.alloc (.cells (cmdCells (.slice (some ⟨g1, o1, none⟩) n c1) b).toArray 29)) (.cells (cmdCells (.slice (some ⟨g2, o2, none⟩) n c2) b).toArray 29)) 1).1
    rw [size_at] at this
    rw [this]; rfl
  have hsz : ((w.alloc (.cells (cmdCells (.slice (some ⟨g1, o1, none⟩) n c1) b).toArray 29)).alloc (.cells (cmdCells (.slice (some ⟨g2, o2, none⟩) n c2) b).toArray 29)).heap.size = w.heap.size + 2 := by rw [size_at, size_at]
  generalize (w.alloc (.cells (cmdCells (.slice (some ⟨g1, o1, none⟩) n c1) b).toArray 29)).alloc (.cells (cmdCells (.slice (some ⟨g2, o2, none⟩) n c2) b).toArray 29) = W at *
  have HA := Lib.hid hA
  have HB := Lib.hid hB
  have HB0 := Lib.hid hb0
  clear hA hB hb0
  go_loopw [5] (fun i wr => ∃ k : Nat, k ≤ n ∧ i = .int .i64 k ∧ Below W.heap.size W wr ∧ Hid (L1.take k = L2.take k)) (fun i _ => n - (intOf i).toNat)
  case atStart => exact ⟨0, Nat.zero_le _, rfl, Below.refl _ _, by simp [Hid]⟩
  case round =>
    obtain ⟨k, hk, rfl, hb, ht⟩ := hrel
    have d3 : wr.cell? ⟨w.heap.size, 1, none⟩ = some (.slice (some ⟨g1, o1, none⟩) n c1) := (hb.cell (p := ⟨w.heap.size, 1, none⟩) (by show w.heap.size < _; omega)).trans HA.out
    have d4 : wr.cell? ⟨w.heap.size + 1, 1, none⟩ = some (.slice (some ⟨g2, o2, none⟩) n c2) := (hb.cell (p := ⟨w.heap.size + 1, 1, none⟩) (by show w.heap.size + 1 < _; omega)).trans HB.out
    by_cases hlt : k < n
    · obtain ⟨x1, e1⟩ : ∃ x, L1[k]? = some x := ⟨_, List.getElem?_eq_getElem (by rw [HN1.out]; exact hlt)⟩
      obtain ⟨x2, e2⟩ : ∃ x, L2[k]? = some x := ⟨_, List.getElem?_eq_getElem (by rw [HN2.out]; exact hlt)⟩
      have d1 : wr.cell? ⟨g1, o1 + k, none⟩ = some (sv x1) := (hb.cell (p := ⟨g1, o1 + k, none⟩) (by show g1 < _; omega)).trans ((HB0.out.cell (p := ⟨g1, o1 + k, none⟩) hg1).trans (HC1.out k x1 e1))
      have d2 : wr.cell? ⟨g2, o2 + k, none⟩ = some (sv x2) := (hb.cell (p := ⟨g2, o2 + k, none⟩) (by show g2 < _; omega)).trans ((HB0.out.cell (p := ⟨g2, o2 + k, none⟩) hg2).trans (HC2.out k x2 e2))
      have E1 := Lib.hid e1
      have E2 := Lib.hid e2
      clear e1 e2
      have hl0 : (0 : Int) ≤ (k : Int) := by omega
      have hl1 : (k : Int) < (n : Int) := by omega
      go_wp2_with fail
      go_quiet (fail)
      go_wp2_with fail
      · go_ret
        refine ⟨?_, HB0.out.trans ((below_drewN hb _).mono (by omega))⟩
        rw [same_no E1.out E2.out (by simpa using ‹(!x1 == x2) = true›)]
        rfl
      · go_roundw
        case rel => exact ⟨k + 1, by omega, by go_num, below_drewN hb _, same_next ht.out E1.out E2.out (by simpa using ‹(!x1 == x2) = false›)⟩
        case measure => simp [intOf]; omega
    · go_wp2_with fail
      go_ret
      exact ⟨by rw [same_yes HN1.out HN2.out (by omega) ht.out]; rfl, HB0.out.trans (hb.mono (by omega))⟩
theorem lsame29_any {w : World} {B1 B2 : Nat} {k1 k2 : Value} {a b : Cmd} (h1 : Strs w B1 k1 a.keys) (h2 : Strs w B2 k2 b.keys) :
    Calls Tryd.prog 8 #[cmdV k1 a, cmdV k2 b] w fun e w' => e = .returned (.bool (sameC a b)) ∧ Below w.heap.size w w' := by
  rw [sameC_rest]
  cases hr : restC a b
  · obtain ⟨a1, c1, e1⟩ := h1.len
    obtain ⟨a2, c2, e2⟩ := h2.len
    exact lsame29_no k1 k2 a b w a1 a2 _ _ c1 c2 e1 e2 hr
  · have ha := rest_eq hr
    generalize a.keys = L1 at *
    subst ha
    show Calls _ _ #[cmdV k1 b, cmdV k2 b] _ _
    generalize b.keys = L2 at *
    rw [Bool.true_and]
    by_cases hl : L1.length = L2.length
    · by_cases h0 : L1.length = 0
      · obtain rfl : L1 = [] := List.eq_nil_of_length_eq_zero h0
        obtain rfl : L2 = [] := List.eq_nil_of_length_eq_zero (by simpa using hl.symm)
        obtain ⟨a1, c1, rfl⟩ := h1.len
        obtain ⟨a2, c2, rfl⟩ := h2.len
        exact lsame29_zero a1 a2 c1 c2 b w
      · have hm := h1.max
        rw [List.length_map] at hm
        obtain ⟨g1, o1, c1, rfl, _, hg1, _, _, hc1⟩ := Own.some h1 (by intro h; exact h0 (by rw [List.map_eq_nil_iff.1 h]; rfl))
        obtain ⟨g2, o2, c2, rfl, _, hg2, _, _, hc2⟩ := Own.some h2 (by intro h; exact h0 (by rw [hl, List.map_eq_nil_iff.1 h]; rfl))
        rw [List.length_map, List.length_map, ← hl]
        exact lsame29_some g1 o1 g2 o2 L1.length c1 c2 L1 L2 b w rfl hl.symm (by omega) hg1 hg2 (fun j x hx => (hc1 j (sv x) (by simp [hx])).1) (fun j x hx => (hc2 j (sv x) (by simp [hx])).1)
    · obtain ⟨a1, c1, rfl⟩ := h1.len
      obtain ⟨a2, c2, rfl⟩ := h2.len
      rw [List.length_map, List.length_map, beq_eq_false_iff_ne.2 (fun h => hl (by rw [h]))]
      exact lsame29_len a1 a2 _ _ c1 c2 b w hl
end Go.Proofs.YtofpaooaiafpbaaDoor
