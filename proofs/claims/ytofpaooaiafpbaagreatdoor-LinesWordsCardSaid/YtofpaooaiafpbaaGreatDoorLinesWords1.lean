/- The words of each verb as the law makes them: 'words'. No condition. -/
import Derived.Test.YtofpaooaiafpbaaGreatDoorLinesWords0
namespace Go.Proofs.YtofpaooaiafpbaaGreatDoor
open Go.RowKit Go.ChangeMaps Go.MapKept

/-- Objects made one behind the other. -/
def allocsV (w : World) (l : List Obj) : World := l.foldl World.alloc w
theorem allocsV_size : ∀ (l : List Obj) (w : World), (allocsV w l).heap.size = w.heap.size + l.length
  | [], _ => rfl
  | o :: l, w => by
    show (allocsV (w.alloc o) l).heap.size = _
    rw [allocsV_size l, size_at]
    simp only [List.length_cons]; omega
theorem allocsV_below : ∀ (l : List Obj) (w w0 : World) (_ : Below w0.heap.size w0 w), Below w0.heap.size w0 (allocsV w l)
  | [], _, _, h => h
  | o :: l, w, w0, h => by
    show Below w0.heap.size w0 (allocsV (w.alloc o) l)
    exact allocsV_below l (w.alloc o) w0 (h.alloc h.size o)
theorem allocsV_block : ∀ (l : List Obj) (w : World) (j : Nat), j < l.length → (allocsV w l).heap[w.heap.size + j]? = l[j]?
  | [], _, _, h => by simp at h
  | o :: l, w, 0, _ => by
    show (allocsV (w.alloc o) l).heap[w.heap.size]? = some o
    have h1 : (w.alloc o).heap[w.heap.size]? = some o := heap_alloc_new _ _
    exact ((allocsV_below l (w.alloc o) (w.alloc o) (Below.refl _ _)).block _ (by rw [size_at]; omega)).trans h1
  | o :: l, w, j + 1, h => by
    show (allocsV (w.alloc o) l).heap[w.heap.size + (j + 1)]? = l[j]?
    have h1 := allocsV_block l (w.alloc o) j (by simpa using h)
    rw [size_at] at h1
    rwa [show w.heap.size + 1 + j = w.heap.size + (j + 1) from by omega] at h1
def wordsO (m : Nat) (n0 n1 n2 n3 : List UInt8) : Obj := .cells ((wordsV m n0 n1 n2 n3).map sv).toArray 9 (0, 0)
def wordsS (b m : Nat) (n0 n1 n2 n3 : List UInt8) : Value := .slice (some ⟨b + 1 + m, 0, none⟩) (wordsV m n0 n1 n2 n3).length (wordsV m n0 n1 n2 n3).length
def wordsL (b : Nat) (n0 n1 n2 n3 : List UInt8) : List Obj := .cells #[sv n0, sv n1, sv n2, sv n3] 49 (0, 0) :: (List.range 13).map (fun m => wordsO m n0 n1 n2 n3) ++ [.cells ((List.range 13).map (fun m => wordsS b m n0 n1 n2 n3)).toArray 24 (0, 0)]
theorem wordsV_len (m : Nat) (n0 n1 n2 n3 : List UInt8) : 0 < (wordsV m n0 n1 n2 n3).length ∧ (wordsV m n0 n1 n2 n3).length ≤ 6 := by
  unfold wordsV; split <;> simp
theorem idx_lists {b n c k : Nat} (hk : k < n) (W : World) : (Instr.indexAt 90 (.slice (some ⟨b, 0, none⟩) n c) (.int .i64 (k : Int))).run Tryz.prog W = .ok (.pointer (some ⟨b, k, none⟩)) W := by
  have h0 : (0 : Int) ≤ (k : Int) := by omega
  have h1 : (k : Int) < (n : Int) := by omega
  have h2 := Tryz.underlying90
  go_simp
theorem words_world (w : World) (m : Nat) (hm : m < 13) (n0 n1 n2 n3 : List UInt8) :
    (allocsV w (wordsL w.heap.size n0 n1 n2 n3)).cell? ⟨w.heap.size + 14, m, none⟩ = some (wordsS w.heap.size m n0 n1 n2 n3) ∧
    Strs (allocsV w (wordsL w.heap.size n0 n1 n2 n3)) w.heap.size (wordsS w.heap.size m n0 n1 n2 n3) (wordsV m n0 n1 n2 n3) := by
  have hl : (wordsL w.heap.size n0 n1 n2 n3).length = 15 := by simp [wordsL]
  have h14 := allocsV_block (wordsL w.heap.size n0 n1 n2 n3) w 14 (by omega)
  have hm1 := allocsV_block (wordsL w.heap.size n0 n1 n2 n3) w (1 + m) (by omega)
  rw [show (wordsL w.heap.size n0 n1 n2 n3)[14]? = some (.cells ((List.range 13).map (fun m => wordsS w.heap.size m n0 n1 n2 n3)).toArray 24 (0, 0)) from rfl] at h14
  rw [show (wordsL w.heap.size n0 n1 n2 n3)[1 + m]? = some (wordsO m n0 n1 n2 n3) from by
    unfold wordsL
    rw [Nat.add_comm, List.cons_append, List.getElem?_cons_succ, List.getElem?_append_left (by simpa using hm), List.getElem?_map, List.getElem?_range hm]; rfl] at hm1
  have hv := wordsV_len m n0 n1 n2 n3
  refine ⟨?_, ?_⟩
  · rw [(block_cell h14 m).1]
    simp [hm]
  · unfold wordsS
    refine ⟨some ⟨w.heap.size + 1 + m, 0, none⟩, (wordsV m n0 n1 n2 n3).length, by rw [List.length_map], by rw [List.length_map]; exact Nat.le_refl _, by unfold maxLen; omega, fun h => (by cases h), .inr ⟨_, 0, rfl, by omega, fun j x hx => ?_⟩⟩
    rw [Nat.add_assoc w.heap.size 1 m]
    rw [(block_cell hm1 (0 + j)).1, (block_cell hm1 (0 + j)).2]
    exact ⟨by rw [Nat.zero_add, List.getElem?_toArray]; exact hx, rfl⟩

set_option maxRecDepth 100000 in
set_option maxHeartbeats 3200000 in
theorem words29_any (v : Nat) (hv : v < 256) (n0 n1 n2 n3 : List UInt8) (w : World) :
    Calls Tryz.prog 15 #[.int .u8 (v : Int), .agg #[sv n0, sv n1, sv n2, sv n3]] w fun e w' => ∃ val, e = .returned val ∧ Strs w' w.heap.size val (wordsV (v % 13) n0 n1 n2 n3) ∧ Below w.heap.size w w' := by
  obtain ⟨m, hm⟩ : ∃ m, m = v % 13 := ⟨_, rfl⟩
  have hrem : ((v : Int)).tmod 13 = (m : Int) := by rw [Int.tmod_eq_emod_of_nonneg (by omega)]; omega
  have hrem2 : (v : Int) % 13 = (m : Int) := by omega
  have h64 : IntKind.i64.wrap (v : Int) = (v : Int) := IntWalk.i64_in _ (by omega)
  have h65 : IntKind.i64.wrap (m : Int) = (m : Int) := IntWalk.i64_in _ (by omega)
  have hk : m < 13 := by omega
  rw [← hm]
  have hx := idx_lists (b := w.heap.size + 14) (c := 13) hk
  obtain ⟨hc, hs⟩ := words_world w m hk n0 n1 n2 n3
  have HS := Lib.hid hs
  have HC := Lib.hid hc
  have HX := Lib.hid hx
  clear hm hs hc hx
  go_enter Tryz.func15, Tryz.ntmps15
  go_upto_region 3 with fail
  have hb : Below w.heap.size w (allocsV w (wordsL w.heap.size n0 n1 n2 n3)) := allocsV_below _ w w (Below.refl _ _)
  have HB := Lib.hid hb
  clear hb
  change Code.wp _ _ _ _ (allocsV w (wordsL w.heap.size n0 n1 n2 n3))
  have hc := HC.out
  have hx := HX.out
  clear HC HX
  generalize allocsV w (wordsL w.heap.size n0 n1 n2 n3) = W at *
  have hv6 := wordsV_len m n0 n1 n2 n3
  have hS : ∃ a n c, wordsS w.heap.size m n0 n1 n2 n3 = .slice a n c := ⟨_, _, _, rfl⟩
  generalize wordsS w.heap.size m n0 n1 n2 n3 = S at *
  obtain ⟨sa, sn, sc, rfl⟩ := hS
  obtain ⟨q, hq⟩ : ∃ q, q = w.heap.size + 14 := ⟨_, rfl⟩
  rw [← hq] at hx hc
  rw [show w.heap.size + 1 + 1 + 1 + 1 + 1 + 1 + 1 + 1 + 1 + 1 + 1 + 1 + 1 + 1 = q from by omega]
  clear hq hv6
  go_wp2_with fail
  go_ret
  exact ⟨_, rfl, HS.out, HB.out⟩
end Go.Proofs.YtofpaooaiafpbaaGreatDoor
