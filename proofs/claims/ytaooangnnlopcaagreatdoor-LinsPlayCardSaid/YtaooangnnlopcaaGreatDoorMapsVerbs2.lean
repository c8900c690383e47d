/- What each verb's function gives (maps): stores, and the functions of the verbs. Condition: the library's tables lie as they are laid. -/
import Derived.Test.YtaooangnnlopcaaGreatDoorMapsVerbs
import Derived.Test.YtaooangnnlopcaaGreatDoorLowB
import Derived.Deep.RegionHeld3
import Derived.Test.YtaooangnnlopcaaGreatDoorLowA
namespace Go.Proofs.YtaooangnnlopcaaGreatDoor
open Go.RowKit
theorem build_item (k v : ByteArray) (fl : Int) (n : Nat) (d : Int) (g : Nat) (W : World) : (Instr.build 38 #[(0, .string k), (1, .string v), (2, .int .u32 fl), (3, .int .u64 (n : Int)), (4, .int .i64 d), (5, .int .i64 (g : Int))]).run Tryz.prog W = .ok (.agg #[.string k, .string v, .int .u32 fl, .int .u64 (n : Int), .int .i64 d, .int .i64 (g : Int)]) W := by kernel_rfl
/-- The receiver's box, the result's block, and a block of the call's own. -/
structure Trio (w : World) (b : Nat) (W : World) (q r g : Array Value) : Prop where
  box : W.heap[w.heap.size]? = some (.cells q 118 (0, 0))
  res : W.heap[w.heap.size + 1]? = some (.cells r 84 (0, 0))
  own : W.heap[b]? = some (.cells g 84 (0, 0))
  apart : w.heap.size + 1 < b
  below : Below w.heap.size w W
structure Duo (w : World) (W : World) (q r : Array Value) : Prop where
  box : W.heap[w.heap.size]? = some (.cells q 118 (0, 0))
  res : W.heap[w.heap.size + 1]? = some (.cells r 84 (0, 0))
  below : Below w.heap.size w W
section
variable {w W W' W'' : World} {b : Nat} {q r g : Array Value}
theorem Duo.start (w : World) (q r : Array Value) : Duo w ((w.alloc (.cells q 118)).alloc (.cells r 84)) q r :=
  ⟨(heap_two w _ _).1, (heap_two w _ _).2, below_two w _ _⟩
theorem Duo.lt (h : Duo w W q r) : w.heap.size + 1 < W.heap.size := (Array.getElem?_eq_some_iff.1 h.res).1
theorem Duo.call (h : Duo w W q r) (hb : Below W'.heap.size W' W'') (he : W'.heap = W.heap) (ht : Below w.heap.size w W') : Duo w W'' q r := by
  have hl : W'.heap.size = W.heap.size := by rw [he]
  refine ⟨?_, ?_, ht.trans (hb.mono ht.size)⟩
  · rw [hb.block _ (by rw [hl]; exact (Array.getElem?_eq_some_iff.1 h.box).1), he]; exact h.box
  · rw [hb.block _ (by rw [hl]; exact h.lt), he]; exact h.res
theorem Duo.ret (h : Duo w W q r) (hg : W.grownBy W' (some (w.heap.size + 1))) : Below w.heap.size w W' := below_grown h.below h.below.size hg (Nat.le_succ _)
/-- A block of its own: laid, and stored. -/
theorem Duo.lay (h : Duo w W q r) (o : Obj) {g : Array Value} (hr : W'.heap[W.heap.size]? = some (.cells g 84 (0, 0))) (hg : (W.alloc o).grownBy W' (some W.heap.size)) : Trio w W.heap.size W' q r g := by
  have h1 := (Array.getElem?_eq_some_iff.1 h.box).1
  have h2 := h.lt
  refine ⟨?_, ?_, hr, h.lt, below_grown (h.below.alloc h.below.size o) (by rw [size_at]; have := h.below.size; omega) hg h.below.size⟩
  · rw [hg.block _ (by rw [size_at]; omega) (by simp; omega), heap_at, if_neg (by omega)]; exact h.box
  · rw [hg.block _ (by rw [size_at]; omega) (by simp; omega), heap_at, if_neg (by omega)]; exact h.res
theorem Trio.lt (h : Trio w b W q r g) : b < W.heap.size := (Array.getElem?_eq_some_iff.1 h.own).1
theorem Trio.call (h : Trio w b W q r g) (hb : Below W'.heap.size W' W'') (he : W'.heap = W.heap) (ht : Below w.heap.size w W') : Trio w b W'' q r g := by
  have hl : W'.heap.size = W.heap.size := by rw [he]
  refine ⟨?_, ?_, ?_, h.apart, ht.trans (hb.mono ht.size)⟩
  · rw [hb.block _ (by rw [hl]; exact (Array.getElem?_eq_some_iff.1 h.box).1), he]; exact h.box
  · rw [hb.block _ (by rw [hl]; exact (Array.getElem?_eq_some_iff.1 h.res).1), he]; exact h.res
  · rw [hb.block _ (by rw [hl]; exact h.lt), he]; exact h.own
theorem Trio.set (h : Trio w b W q r g) (i : Nat) (v : Value) : Trio w b (W.setCell ⟨b, i, none⟩ v) q r (g.setIfInBounds i v) := by
  have ha := h.apart
  refine ⟨?_, ?_, Go.Joins.block_setCell h.own v, h.apart, h.below.setCell (by show w.heap.size ≤ b; omega) _⟩
  · rw [Below.heap_setCell _ _ _ _ (by show w.heap.size ≠ b; omega)]; exact h.box
  · rw [Below.heap_setCell _ _ _ _ (by show w.heap.size + 1 ≠ b; omega)]; exact h.res
theorem Trio.ret (h : Trio w b W q r g) (hg : W.grownBy W' (some (w.heap.size + 1))) : Below w.heap.size w W' := below_grown h.below h.below.size hg (Nat.le_succ _)
theorem Trio.drew (h : Trio w b W q r g) : Trio w b W.drew q r g := ⟨h.box, h.res, h.own, h.apart, bdrew h.below⟩
end
section
variable (c : CallD) (ep : Nat) (was : ItemD) (has there : Bool) (next : Nat)
set_option maxRecDepth 100000 in
set_option maxHeartbeats 4000000 in
theorem stores_any (he : ep < 18446744073709551616) (hx : -9223372036854775808 ≤ c.exp ∧ c.exp ≤ 9223372036854775807) (w : World) : Calls Tryz.prog 69 #[.agg (askedCells c ep was has there next)] w fun e w' => e = .returned (.agg (givCells (storesG c ep next))) ∧ Below w.heap.size w w' := by
  have HDI := Lib.hid (fun W => dies_any ep c.exp he hx W)
  have HGE := Lib.hid (fun W => gen_any ep he W)
  clear he hx
  go_enter Tryz.func69, Tryz.ntmps69
  go_upto_region 1 with fail
  obtain ⟨W0, hW0⟩ : ∃ W0, W0 = (w.alloc (.cells #[.int .u8 c.verb, .string c.key, .string c.value, .int .u32 c.flags, .int .i64 c.exp, .int .u64 c.id, .int .u64 c.by', .int .u64 (ep : Int), .string was.key, .string was.value, .int .u32 was.flags, .int .u64 was.id, .int .i64 was.dies, .int .i64 was.gen, .bool has, .bool there, .int .u64 (next : Int)] 118)).alloc (.cells givZero 84) := ⟨_, rfl⟩
  have hd := Duo.start w (askedCells c ep was has there next) givZero
  rw [← hW0] at hd ⊢
  have HD := Lib.hid hd
  clear hW0 hd
  go_wp2_with (first | ((with_reducible show wpList _ _ _ (⟨_, Op.load 118 _, _, _, _, _⟩ :: _) _ _); refine wpList_load_row (by rfl) 118 (.tmp 1) (by rfl) w.heap.size (by rfl) 118 _ _ _ HD.out.box Tryz.underlying118 rfl (by kernel_rfl) ?_) | fail)
  refine (says_any c ep was has there next 1 _).mono ?_
  rintro e w1 ⟨rfl, hb1⟩
  have HD1 := Lib.hid (HD.out.call hb1 rfl HD.out.below)
  clear hb1
  go_upto_region 2 with (first | (((with_reducible show wpList _ _ _ (⟨none, Op.store 84 _ _, _, _, _, _⟩ :: _) _ _); refine wpList_store_whole (by rfl) 84 (.tmp 3) (.tmp 5) (by rfl) w1.heap.size (by rfl) #[.int .u8 1, .int .u64 0, .string ⟨#[]⟩, .string ⟨#[]⟩, .int .u32 0, .int .u64 0, .int .i64 0, .int .i64 0, .string ⟨#[]⟩, .string ⟨#[]⟩, .int .u32 0, .int .u64 0, .int .i64 0, .int .i64 0, .bool false, .bool false, .bool false, .bool false, .int .u64 (ep : Int)] (by rfl) _ 84 (heap_alloc_new _ _) (by rfl) (by kernel_rfl) (by simp [Value.oneCell']) ?_; intro w2 hr2 hg2 hs2); have HT := Lib.hid (HD1.out.lay _ hr2 hg2); clear hr2 hg2 hs2) | fail)
  have k16 : w2.cell? ⟨w.heap.size, 16, none⟩ = some (.int .u64 (next : Int)) := (cells_at HT.out.box 16).1
  have y1 : w2.cell? ⟨w1.heap.size, 1, none⟩ = some (.int .u64 0) := (cells_at HT.out.own 1).1
  have f1 : w2.frozen? ⟨w1.heap.size, 1, none⟩ = false := (cells_at HT.out.own 1).2
  go_upto_region 3 with fail
  clear k16 y1 f1
  obtain ⟨W3, hW3⟩ : ∃ X, X = w2.setCell ⟨w1.heap.size, 1, none⟩ (.int .u64 (next : Int)) := ⟨_, rfl⟩
  have htW3 := HT.out.set 1 (.int .u64 (next : Int))
  rw [← hW3] at htW3 ⊢
  simp only [List.setIfInBounds_toArray, List.set_cons_succ, List.set_cons_zero] at htW3
  have HT := Lib.hid htW3
  clear hW3 htW3
  go_cut [] (fun wx => Trio w w1.heap.size wx (askedCells c ep was has there next) givZero #[.int .u8 1, .int .u64 (next : Int), .string ⟨#[]⟩, .string ⟨#[]⟩, .int .u32 0, .int .u64 0, .int .i64 0, .int .i64 0, .string c.key, .string c.value, .int .u32 c.flags, .int .u64 (next : Int), .int .i64 (diesE ep c.exp), .int .i64 (genE ep : Int), .bool false, .bool false, .bool false, .bool false, .int .u64 (ep : Int)])
  case first =>
    have k0 : W3.cell? ⟨w.heap.size, 0, none⟩ = some (.int .u8 c.verb) := (cells_at HT.out.box 0).1
    have k1 : W3.cell? ⟨w.heap.size, 1, none⟩ = some (.string c.key) := (cells_at HT.out.box 1).1
    have k2 : W3.cell? ⟨w.heap.size, 2, none⟩ = some (.string c.value) := (cells_at HT.out.box 2).1
    have k3 : W3.cell? ⟨w.heap.size, 3, none⟩ = some (.int .u32 c.flags) := (cells_at HT.out.box 3).1
    have k4 : W3.cell? ⟨w.heap.size, 4, none⟩ = some (.int .i64 c.exp) := (cells_at HT.out.box 4).1
    have k7 : W3.cell? ⟨w.heap.size, 7, none⟩ = some (.int .u64 (ep : Int)) := (cells_at HT.out.box 7).1
    have k16 : W3.cell? ⟨w.heap.size, 16, none⟩ = some (.int .u64 (next : Int)) := (cells_at HT.out.box 16).1
    have qb := build_item c.key c.value c.flags next (diesE ep c.exp) (genE ep)
    refine wp_region_held_drew (S := fun W => W.cell? ⟨w.heap.size, 0, none⟩ = some (.int .u8 c.verb) ∧ W.cell? ⟨w.heap.size, 1, none⟩ = some (.string c.key) ∧ W.cell? ⟨w.heap.size, 2, none⟩ = some (.string c.value) ∧ W.cell? ⟨w.heap.size, 3, none⟩ = some (.int .u32 c.flags) ∧ W.cell? ⟨w.heap.size, 4, none⟩ = some (.int .i64 c.exp) ∧ W.cell? ⟨w.heap.size, 7, none⟩ = some (.int .u64 (ep : Int)) ∧ W.cell? ⟨w.heap.size, 16, none⟩ = some (.int .u64 (next : Int))) (by kernel_rfl) ⟨k0, k1, k2, k3, k4, k7, k16⟩ (fun hHeld => ?_)
    clear k0 k1 k2 k3 k4 k7 k16
    refine tkq (i := 0) (v := ?_) rfl (by kernel_rfl) (fun _ _ _ h => h) (by rfl) ?_ (by assumption) ?_
    rotate_left 1
    · ((intro w hSw; (try dsimp only at hSw); go_simp) <;> with_reducible rfl)
    try simp only [Act.put, tzA, tzB, tzC, tzD, tzE]
    refine tkq (i := 1) (v := ?_) rfl (by kernel_rfl) (fun _ _ _ h => h) (by rfl) ?_ (by assumption) ?_
    rotate_left 1
    · ((intro w hSw; (try dsimp only at hSw); go_simp) <;> with_reducible rfl)
    try simp only [Act.put, tzA, tzB, tzC, tzD, tzE, tzF]
    refine tkq (i := 2) (v := ?_) rfl (by kernel_rfl) (fun _ _ _ h => h) (by rfl) ?_ (by assumption) ?_
    rotate_left 1
    · ((intro w hSw; (try dsimp only at hSw); go_simp) <;> with_reducible rfl)
    try simp only [Act.put, tzA, tzB, tzC, tzD, tzE, tzF]
    refine tkq (i := 3) (v := ?_) rfl (by kernel_rfl) (fun _ _ _ h => h) (by rfl) ?_ (by assumption) ?_
    rotate_left 1
    · ((intro w hSw; (try dsimp only at hSw); go_simp) <;> with_reducible rfl)
    try simp only [Act.put, tzA, tzB, tzC, tzD, tzE, tzF]
    refine tkq (i := 4) (v := ?_) rfl (by kernel_rfl) (fun _ _ _ h => h) (by rfl) ?_ (by assumption) ?_
    rotate_left 1
    · ((intro w hSw; (try dsimp only at hSw); go_simp) <;> with_reducible rfl)
    try simp only [Act.put, tzA, tzB, tzC, tzD, tzE, tzF]
    refine tkq (i := 5) (v := ?_) rfl (by kernel_rfl) (fun _ _ _ h => h) (by rfl) ?_ (by assumption) ?_
    rotate_left 1
    · ((intro w hSw; (try dsimp only at hSw); go_simp) <;> with_reducible rfl)
    try simp only [Act.put, tzA, tzB, tzC, tzD, tzE, tzF]
    refine tkq (i := 6) (v := ?_) rfl (by kernel_rfl) (fun _ _ _ h => h) (by rfl) ?_ (by assumption) ?_
    rotate_left 1
    · ((intro w hSw; (try dsimp only at hSw); go_simp) <;> with_reducible rfl)
    try simp only [Act.put, tzA, tzB, tzC, tzD, tzE, tzF]
    refine tkq (i := 7) (v := ?_) rfl (by kernel_rfl) (fun _ _ _ h => h) (by rfl) ?_ (by assumption) ?_
    rotate_left 1
    · ((intro w hSw; (try dsimp only at hSw); go_simp) <;> with_reducible rfl)
    try simp only [Act.put, tzA, tzB, tzC, tzD, tzE, tzF]
    refine tkq (i := 8) (v := ?_) rfl (by kernel_rfl) (fun _ _ _ h => h) (by rfl) ?_ (by assumption) ?_
    rotate_left 1
    · ((intro w hSw; (try dsimp only at hSw); go_simp) <;> with_reducible rfl)
    try simp only [Act.put, tzA, tzB, tzC, tzD, tzE, tzF]
    refine tkq (i := 9) (v := ?_) rfl (by kernel_rfl) (fun _ _ _ h => h) (by rfl) ?_ (by assumption) ?_
    rotate_left 1
    · ((intro w hSw; (try dsimp only at hSw); go_simp) <;> with_reducible rfl)
    try simp only [Act.put, tzA, tzB, tzC, tzD, tzE, tzF]
    refine tkq (i := 10) (v := ?_) rfl (by kernel_rfl) (fun _ _ _ h => h) (by rfl) ?_ (by assumption) ?_
    rotate_left 1
    · ((intro w hSw; (try dsimp only at hSw); go_simp) <;> with_reducible rfl)
    try simp only [Act.put, tzA, tzB, tzC, tzD, tzE, tzF]
    refine tkq (i := 11) (v := ?_) rfl (by kernel_rfl) (fun _ _ _ h => h) (by rfl) ?_ (by assumption) ?_
    rotate_left 1
    · ((intro w hSw; (try dsimp only at hSw); go_simp) <;> with_reducible rfl)
    try simp only [Act.put, tzA, tzB, tzC, tzD, tzE, tzF]
    refine tkq (i := 12) (v := ?_) rfl (by kernel_rfl) (fun _ _ _ h => h) (by rfl) ?_ (by assumption) ?_
    rotate_left 1
    · ((intro w hSw; (try dsimp only at hSw); go_simp) <;> with_reducible rfl)
    try simp only [Act.put, tzA, tzB, tzC, tzD, tzE, tzF]
    refine tkq (i := 13) (v := ?_) rfl (by kernel_rfl) (fun _ _ _ h => h) (by rfl) ?_ (by assumption) ?_
    rotate_left 1
    · ((intro w hSw; (try dsimp only at hSw); go_simp) <;> with_reducible rfl)
    try simp only [Act.put, tzA, tzB, tzC, tzD, tzE, tzF]
    refine tkq (i := 14) (v := ?_) rfl (by kernel_rfl) (fun _ _ _ h => h) (by rfl) ?_ (by assumption) ?_
    rotate_left 1
    · ((intro w hSw; (try dsimp only at hSw); go_simp) <;> with_reducible rfl)
    try simp only [Act.put, tzA, tzB, tzC, tzD, tzE, tzF]
    refine tkq (i := 15) (v := ?_) rfl (by kernel_rfl) (fun _ _ _ h => h) (by rfl) ?_ (by assumption) ?_
    rotate_left 1
    · ((intro w hSw; (try dsimp only at hSw); go_simp) <;> with_reducible rfl)
    try simp only [Act.put, tzA, tzB, tzC, tzD, tzE, tzF]
    refine tkq (i := 17) (v := ?_) rfl (by kernel_rfl) (fun _ _ _ h => h) (by rfl) ?_ (by assumption) ?_
    rotate_left 1
    · ((intro w hSw; (try dsimp only at hSw); go_simp) <;> with_reducible rfl)
    try simp only [Act.put, tzA, tzB, tzC, tzD, tzE, tzF]
    refine tkq (i := 18) (v := ?_) rfl (by kernel_rfl) (fun _ _ _ h => h) (by rfl) ?_ (by assumption) ?_
    rotate_left 1
    · ((intro w hSw; (try dsimp only at hSw); go_simp) <;> with_reducible rfl)
    try simp only [Act.put, tzA, tzB, tzC, tzD, tzE, tzF]
    refine wpAnyH_ready (rs := [16]) (by kernel_rfl) (by simp) ?_
    refine AllReadyH.cons rfl (fun K hK => ?_) AllReadyH.nil
    go_split_ands
    go_simp
    go_at_call 99
    refine (HDI.out _).mono ?_
    rintro e w9 ⟨rfl, hb9⟩
    have HTn := Lib.hid (Trio.call HT.out hb9 rfl (by first | exact HT.out.below | exact bdrew HT.out.below))
    clear HT hb9
    have HT := HTn
    clear HTn
    refine hK.out _ _ ⟨(cells_at HT.out.box 0).1, (cells_at HT.out.box 1).1, (cells_at HT.out.box 2).1, (cells_at HT.out.box 3).1, (cells_at HT.out.box 4).1, (cells_at HT.out.box 7).1, (cells_at HT.out.box 16).1⟩ (fun hHeld2 => ?_)
    clear hK K
    try simp only [Act.put, tzA, tzB, tzC, tzD, tzE, tzF]
    refine wpAnyH_ready (rs := [19]) (by kernel_rfl) (by simp) ?_
    refine AllReadyH.cons rfl (fun K hK => ?_) AllReadyH.nil
    go_split_ands
    go_simp
    go_at_call 98
    refine (HGE.out _).mono ?_
    rintro e w9 ⟨rfl, hb9⟩
    have HTn := Lib.hid (Trio.call HT.out hb9 rfl (by first | exact HT.out.below | exact bdrew HT.out.below))
    clear HT hb9
    have HT := HTn
    clear HTn
    refine hK.out _ _ ⟨(cells_at HT.out.box 0).1, (cells_at HT.out.box 1).1, (cells_at HT.out.box 2).1, (cells_at HT.out.box 3).1, (cells_at HT.out.box 4).1, (cells_at HT.out.box 7).1, (cells_at HT.out.box 16).1⟩ (fun hHeld2 => ?_)
    clear hK K
    try simp only [Act.put, tzA, tzB, tzC, tzD, tzE, tzF]
    refine tkq (i := 20) (v := ?_) rfl (by kernel_rfl) (fun _ _ _ h => h) (by rfl) ?_ (by assumption) ?_
    rotate_left 1
    · ((intro w hSw; (try dsimp only at hSw); go_simp) <;> with_reducible rfl)
    try simp only [Act.put, tzA, tzB, tzC, tzD, tzE, tzF]
    refine tkq (i := 21) (v := ?_) rfl (by kernel_rfl) (fun _ _ _ h => h) (by rfl) ?_ (by assumption) ?_
    rotate_left 1
    · ((intro w hSw; (try dsimp only at hSw); go_simp) <;> with_reducible rfl)
    try simp only [Act.put, tzA, tzB, tzC, tzD, tzE, tzF]
    have y8 : w9.cell? ⟨w1.heap.size, 8, none⟩ = some (.string ⟨#[]⟩) := (cells_at HT.out.own 8).1
    have y9 : w9.cell? ⟨w1.heap.size, 9, none⟩ = some (.string ⟨#[]⟩) := (cells_at HT.out.own 9).1
    have y10 : w9.cell? ⟨w1.heap.size, 10, none⟩ = some (.int .u32 0) := (cells_at HT.out.own 10).1
    have y11 : w9.cell? ⟨w1.heap.size, 11, none⟩ = some (.int .u64 0) := (cells_at HT.out.own 11).1
    have y12 : w9.cell? ⟨w1.heap.size, 12, none⟩ = some (.int .i64 0) := (cells_at HT.out.own 12).1
    have y13 : w9.cell? ⟨w1.heap.size, 13, none⟩ = some (.int .i64 0) := (cells_at HT.out.own 13).1
    have f8 : w9.frozen? ⟨w1.heap.size, 8, none⟩ = false := (cells_at HT.out.own 8).2
    have f9 : w9.frozen? ⟨w1.heap.size, 9, none⟩ = false := (cells_at HT.out.own 9).2
    have f10 : w9.frozen? ⟨w1.heap.size, 10, none⟩ = false := (cells_at HT.out.own 10).2
    have f11 : w9.frozen? ⟨w1.heap.size, 11, none⟩ = false := (cells_at HT.out.own 11).2
    have f12 : w9.frozen? ⟨w1.heap.size, 12, none⟩ = false := (cells_at HT.out.own 12).2
    have f13 : w9.frozen? ⟨w1.heap.size, 13, none⟩ = false := (cells_at HT.out.own 13).2
    refine wpAnyH_ready (rs := [22]) (by kernel_rfl) (by simp) ?_
    refine AllReadyH.cons rfl (fun K hK => ?_) AllReadyH.nil
    go_split_ands
    go_simp
    have HTn := Lib.hid ((((((HT.out.set 8 (.string c.key)).set 9 (.string c.value)).set 10 (.int .u32 c.flags)).set 11 (.int .u64 (next : Int))).set 12 (.int .i64 (diesE ep c.exp))).set 13 (.int .i64 (genE ep : Int)))
    clear HT
    have HT := HTn
    clear HTn
    refine hK.out _ _ ⟨(cells_at HT.out.box 0).1, (cells_at HT.out.box 1).1, (cells_at HT.out.box 2).1, (cells_at HT.out.box 3).1, (cells_at HT.out.box 4).1, (cells_at HT.out.box 7).1, (cells_at HT.out.box 16).1⟩ (fun hHeld2 => ?_)
    clear hK K
    try simp only [Act.put, tzA, tzB, tzC, tzD, tzE, tzF]
    refine wpAnyH_done (by kernel_rfl) ?_ _
    clear hHeld2
    go_wp2_with fail
    go_meet
    case rel =>
      have h := HT.out
      simp only [List.setIfInBounds_toArray, List.set_cons_succ, List.set_cons_zero] at h
      exact h
  case rest =>
    have HT := Lib.hid hcut
    clear hcut
    have y14 : wc.cell? ⟨w1.heap.size, 14, none⟩ = some (.bool false) := (cells_at HT.out.own 14).1
    have f14 : wc.frozen? ⟨w1.heap.size, 14, none⟩ = false := (cells_at HT.out.own 14).2
    have y16 : wc.cell? ⟨w1.heap.size, 16, none⟩ = some (.bool false) := (cells_at HT.out.own 16).1
    have f16 : wc.frozen? ⟨w1.heap.size, 16, none⟩ = false := (cells_at HT.out.own 16).2
    have y17 : wc.cell? ⟨w1.heap.size, 17, none⟩ = some (.bool false) := (cells_at HT.out.own 17).1
    have f17 : wc.frozen? ⟨w1.heap.size, 17, none⟩ = false := (cells_at HT.out.own 17).2
    go_upto_region 5 with fail
    clear y14 y16 y17 f14 f16 f17
    obtain ⟨W5, hW5⟩ : ∃ X, X = ((wc.setCell ⟨w1.heap.size, 14, none⟩ (.bool true)).setCell ⟨w1.heap.size, 16, none⟩ (.bool true)).setCell ⟨w1.heap.size, 17, none⟩ (.bool true) := ⟨_, rfl⟩
    have htW5 := ((HT.out.set 14 (.bool true)).set 16 (.bool true)).set 17 (.bool true)
    rw [← hW5] at htW5 ⊢
    simp only [List.setIfInBounds_toArray, List.set_cons_succ, List.set_cons_zero] at htW5
    have HT := Lib.hid htW5
    clear hW5 htW5
    go_wp2_with (first
      | ((with_reducible show wpList _ _ _ (⟨_, Op.load 84 _, _, _, _, _⟩ :: _) _ _); refine wpList_load_row (by rfl) 84 (.tmp 3) (by rfl) w1.heap.size (by rfl) 84 _ _ _ HT.out.own Tryz.underlying84 rfl (by kernel_rfl) ?_)
      | ((with_reducible show wpList _ _ _ (⟨none, Op.store 84 _ _, _, _, _, _⟩ :: _) _ _); refine wpList_store_whole (by rfl) 84 (.tmp 2) (.tmp 35) (by rfl) (w.heap.size + 1) (by rfl) #[.int .u8 1, .int .u64 (next : Int), .string ⟨#[]⟩, .string ⟨#[]⟩, .int .u32 0, .int .u64 0, .int .i64 0, .int .i64 0, .string c.key, .string c.value, .int .u32 c.flags, .int .u64 (next : Int), .int .i64 (diesE ep c.exp), .int .i64 (genE ep : Int), .bool true, .bool false, .bool true, .bool true, .int .u64 (ep : Int)] (by rfl) _ 84 HT.out.res (by rfl) (by kernel_rfl) (by simp [Value.oneCell']) ?_; intro w9 hr9 hg9 hs9)
      | ((with_reducible show bodyPost _ _ _ Exit.ret _ _); exact bodyPost_ret (v := .agg #[.int .u8 1, .int .u64 (next : Int), .string ⟨#[]⟩, .string ⟨#[]⟩, .int .u32 0, .int .u64 0, .int .i64 0, .int .i64 0, .string c.key, .string c.value, .int .u32 c.flags, .int .u64 (next : Int), .int .i64 (diesE ep c.exp), .int .i64 (genE ep : Int), .bool true, .bool false, .bool true, .bool true, .int .u64 (ep : Int)]) (results_row_one rfl _ _ (w.heap.size + 1) _ _ _ _ (by rfl) hr9 Tryz.underlying84 rfl (by kernel_rfl)) rfl ⟨rfl, HT.out.ret hg9⟩)
      | fail)
theorem build_hit (x : ItemD) (W : World) : (Instr.build 40 #[(0, .int .u8 11), (2, .agg #[.string x.key, .string x.value, .int .u32 x.flags, .int .u64 x.id, .int .i64 x.dies, .int .i64 x.gen])]).run Tryz.prog W = .ok (.agg #[.int .u8 11, .int .u64 0, .string x.key, .string x.value, .int .u32 x.flags, .int .u64 x.id, .int .i64 x.dies, .int .i64 x.gen]) W := by kernel_rfl
set_option maxRecDepth 100000 in
set_option maxHeartbeats 4000000 in
theorem get_no (w : World) : Calls Tryz.prog 67 #[.agg (askedCells c ep was has false next)] w fun e w' => e = .returned (.agg (givCells (saysG 12 ep))) ∧ Below w.heap.size w w' := by
  go_enter Tryz.func67, Tryz.ntmps67
  go_upto_region 1 with fail
  obtain ⟨W0, hW0⟩ : ∃ W0, W0 = (w.alloc (.cells #[.int .u8 c.verb, .string c.key, .string c.value, .int .u32 c.flags, .int .i64 c.exp, .int .u64 c.id, .int .u64 c.by', .int .u64 (ep : Int), .string was.key, .string was.value, .int .u32 was.flags, .int .u64 was.id, .int .i64 was.dies, .int .i64 was.gen, .bool has, .bool false, .int .u64 (next : Int)] 118)).alloc (.cells givZero 84) := ⟨_, rfl⟩
  have hd := Duo.start w (askedCells c ep was has false next) givZero
  rw [← hW0] at hd ⊢
  have HD := Lib.hid hd
  clear hW0 hd
  go_wp2_with (first | ((with_reducible show wpList _ _ _ (⟨_, Op.load 118 _, _, _, _, _⟩ :: _) _ _); refine wpList_load_row (by rfl) 118 (.tmp 1) (by rfl) w.heap.size (by rfl) 118 _ _ _ HD.out.box Tryz.underlying118 rfl (by kernel_rfl) ?_) | fail)
  refine (says_any c ep was has false next 12 _).mono ?_
  rintro e w1 ⟨rfl, hb1⟩
  have HD1 := Lib.hid (HD.out.call hb1 rfl HD.out.below)
  clear hb1
  go_upto_region 2 with (first | (((with_reducible show wpList _ _ _ (⟨none, Op.store 84 _ _, _, _, _, _⟩ :: _) _ _); refine wpList_store_whole (by rfl) 84 (.tmp 3) (.tmp 5) (by rfl) w1.heap.size (by rfl) #[.int .u8 12, .int .u64 0, .string ⟨#[]⟩, .string ⟨#[]⟩, .int .u32 0, .int .u64 0, .int .i64 0, .int .i64 0, .string ⟨#[]⟩, .string ⟨#[]⟩, .int .u32 0, .int .u64 0, .int .i64 0, .int .i64 0, .bool false, .bool false, .bool false, .bool false, .int .u64 (ep : Int)] (by rfl) _ 84 (heap_alloc_new _ _) (by rfl) (by kernel_rfl) (by simp [Value.oneCell']) ?_; intro w2 hr2 hg2 hs2); have HT := Lib.hid (HD1.out.lay _ hr2 hg2); clear hr2 hg2 hs2) | fail)
  have k15 : w2.cell? ⟨w.heap.size, 15, none⟩ = some (.bool false) := (cells_at HT.out.box 15).1
  go_wp2_with (first
    | ((with_reducible show wpList _ _ _ (⟨_, Op.load 84 _, _, _, _, _⟩ :: _) _ _); refine wpList_load_row (by rfl) 84 (.tmp 3) (by rfl) w1.heap.size (by rfl) 84 _ _ _ HT.out.own Tryz.underlying84 rfl (by kernel_rfl) ?_)
    | ((with_reducible show wpList _ _ _ (⟨none, Op.store 84 _ _, _, _, _, _⟩ :: _) _ _); refine wpList_store_whole (by rfl) 84 (.tmp 2) (.tmp 12) (by rfl) (w.heap.size + 1) (by rfl) #[.int .u8 12, .int .u64 0, .string ⟨#[]⟩, .string ⟨#[]⟩, .int .u32 0, .int .u64 0, .int .i64 0, .int .i64 0, .string ⟨#[]⟩, .string ⟨#[]⟩, .int .u32 0, .int .u64 0, .int .i64 0, .int .i64 0, .bool false, .bool false, .bool false, .bool false, .int .u64 (ep : Int)] (by rfl) _ 84 HT.out.res (by rfl) (by kernel_rfl) (by simp [Value.oneCell']) ?_; intro w9 hr9 hg9 hs9)
    | ((with_reducible show bodyPost _ _ _ Exit.ret _ _); exact bodyPost_ret (v := .agg #[.int .u8 12, .int .u64 0, .string ⟨#[]⟩, .string ⟨#[]⟩, .int .u32 0, .int .u64 0, .int .i64 0, .int .i64 0, .string ⟨#[]⟩, .string ⟨#[]⟩, .int .u32 0, .int .u64 0, .int .i64 0, .int .i64 0, .bool false, .bool false, .bool false, .bool false, .int .u64 (ep : Int)]) (results_row_one rfl _ _ (w.heap.size + 1) _ _ _ _ (by rfl) hr9 Tryz.underlying84 rfl (by kernel_rfl)) rfl ⟨rfl, HT.out.ret hg9⟩)
    | fail)
set_option maxRecDepth 100000 in
set_option maxHeartbeats 4000000 in
theorem get_yes (w : World) : Calls Tryz.prog 67 #[.agg (askedCells c ep was has true next)] w fun e w' => e = .returned (.agg (givCells (hitG was ep))) ∧ Below w.heap.size w w' := by
  go_enter Tryz.func67, Tryz.ntmps67
  go_upto_region 1 with fail
  obtain ⟨W0, hW0⟩ : ∃ W0, W0 = (w.alloc (.cells #[.int .u8 c.verb, .string c.key, .string c.value, .int .u32 c.flags, .int .i64 c.exp, .int .u64 c.id, .int .u64 c.by', .int .u64 (ep : Int), .string was.key, .string was.value, .int .u32 was.flags, .int .u64 was.id, .int .i64 was.dies, .int .i64 was.gen, .bool has, .bool true, .int .u64 (next : Int)] 118)).alloc (.cells givZero 84) := ⟨_, rfl⟩
  have hd := Duo.start w (askedCells c ep was has true next) givZero
  rw [← hW0] at hd ⊢
  have HD := Lib.hid hd
  clear hW0 hd
  go_wp2_with (first | ((with_reducible show wpList _ _ _ (⟨_, Op.load 118 _, _, _, _, _⟩ :: _) _ _); refine wpList_load_row (by rfl) 118 (.tmp 1) (by rfl) w.heap.size (by rfl) 118 _ _ _ HD.out.box Tryz.underlying118 rfl (by kernel_rfl) ?_) | fail)
  refine (says_any c ep was has true next 12 _).mono ?_
  rintro e w1 ⟨rfl, hb1⟩
  have HD1 := Lib.hid (HD.out.call hb1 rfl HD.out.below)
  clear hb1
  go_upto_region 2 with (first | (((with_reducible show wpList _ _ _ (⟨none, Op.store 84 _ _, _, _, _, _⟩ :: _) _ _); refine wpList_store_whole (by rfl) 84 (.tmp 3) (.tmp 5) (by rfl) w1.heap.size (by rfl) #[.int .u8 12, .int .u64 0, .string ⟨#[]⟩, .string ⟨#[]⟩, .int .u32 0, .int .u64 0, .int .i64 0, .int .i64 0, .string ⟨#[]⟩, .string ⟨#[]⟩, .int .u32 0, .int .u64 0, .int .i64 0, .int .i64 0, .bool false, .bool false, .bool false, .bool false, .int .u64 (ep : Int)] (by rfl) _ 84 (heap_alloc_new _ _) (by rfl) (by kernel_rfl) (by simp [Value.oneCell']) ?_; intro w2 hr2 hg2 hs2); have HT := Lib.hid (HD1.out.lay _ hr2 hg2); clear hr2 hg2 hs2) | fail)
  have k8 : w2.cell? ⟨w.heap.size, 8, none⟩ = some (.string was.key) := (cells_at HT.out.box 8).1
  have k9 : w2.cell? ⟨w.heap.size, 9, none⟩ = some (.string was.value) := (cells_at HT.out.box 9).1
  have k10 : w2.cell? ⟨w.heap.size, 10, none⟩ = some (.int .u32 was.flags) := (cells_at HT.out.box 10).1
  have k11 : w2.cell? ⟨w.heap.size, 11, none⟩ = some (.int .u64 was.id) := (cells_at HT.out.box 11).1
  have k12 : w2.cell? ⟨w.heap.size, 12, none⟩ = some (.int .i64 was.dies) := (cells_at HT.out.box 12).1
  have k13 : w2.cell? ⟨w.heap.size, 13, none⟩ = some (.int .i64 was.gen) := (cells_at HT.out.box 13).1
  have k15 : w2.cell? ⟨w.heap.size, 15, none⟩ = some (.bool true) := (cells_at HT.out.box 15).1
  have y0 : w2.cell? ⟨w1.heap.size, 0, none⟩ = some (.int .u8 12) := (cells_at HT.out.own 0).1
  have y1 : w2.cell? ⟨w1.heap.size, 1, none⟩ = some (.int .u64 0) := (cells_at HT.out.own 1).1
  have y2 : w2.cell? ⟨w1.heap.size, 2, none⟩ = some (.string ⟨#[]⟩) := (cells_at HT.out.own 2).1
  have y3 : w2.cell? ⟨w1.heap.size, 3, none⟩ = some (.string ⟨#[]⟩) := (cells_at HT.out.own 3).1
  have y4 : w2.cell? ⟨w1.heap.size, 4, none⟩ = some (.int .u32 0) := (cells_at HT.out.own 4).1
  have y5 : w2.cell? ⟨w1.heap.size, 5, none⟩ = some (.int .u64 0) := (cells_at HT.out.own 5).1
  have y6 : w2.cell? ⟨w1.heap.size, 6, none⟩ = some (.int .i64 0) := (cells_at HT.out.own 6).1
  have y7 : w2.cell? ⟨w1.heap.size, 7, none⟩ = some (.int .i64 0) := (cells_at HT.out.own 7).1
  have f0 : w2.frozen? ⟨w1.heap.size, 0, none⟩ = false := (cells_at HT.out.own 0).2
  have f1 : w2.frozen? ⟨w1.heap.size, 1, none⟩ = false := (cells_at HT.out.own 1).2
  have f2 : w2.frozen? ⟨w1.heap.size, 2, none⟩ = false := (cells_at HT.out.own 2).2
  have f3 : w2.frozen? ⟨w1.heap.size, 3, none⟩ = false := (cells_at HT.out.own 3).2
  have f4 : w2.frozen? ⟨w1.heap.size, 4, none⟩ = false := (cells_at HT.out.own 4).2
  have f5 : w2.frozen? ⟨w1.heap.size, 5, none⟩ = false := (cells_at HT.out.own 5).2
  have f6 : w2.frozen? ⟨w1.heap.size, 6, none⟩ = false := (cells_at HT.out.own 6).2
  have f7 : w2.frozen? ⟨w1.heap.size, 7, none⟩ = false := (cells_at HT.out.own 7).2
  have qb := build_hit was
  go_upto_region 4 with fail
  clear k8 k9 k10 k11 k12 k13 k15 qb
  clear y0 f0 y1 f1 y2 f2 y3 f3 y4 f4 y5 f5 y6 f6 y7 f7
  obtain ⟨W3, hW3⟩ : ∃ X, X = ((((((((w2.setCell ⟨w1.heap.size, 0, none⟩ (.int .u8 11)).setCell ⟨w1.heap.size, 1, none⟩ (.int .u64 0)).setCell ⟨w1.heap.size, 2, none⟩ (.string was.key)).setCell ⟨w1.heap.size, 3, none⟩ (.string was.value)).setCell ⟨w1.heap.size, 4, none⟩ (.int .u32 was.flags)).setCell ⟨w1.heap.size, 5, none⟩ (.int .u64 was.id)).setCell ⟨w1.heap.size, 6, none⟩ (.int .i64 was.dies)).setCell ⟨w1.heap.size, 7, none⟩ (.int .i64 was.gen)) := ⟨_, rfl⟩
  have htW3 := ((((((((HT.out.set 0 (.int .u8 11)).set 1 (.int .u64 0)).set 2 (.string was.key)).set 3 (.string was.value)).set 4 (.int .u32 was.flags)).set 5 (.int .u64 was.id)).set 6 (.int .i64 was.dies)).set 7 (.int .i64 was.gen))
  rw [← hW3] at htW3 ⊢
  simp only [List.setIfInBounds_toArray, List.set_cons_succ, List.set_cons_zero] at htW3
  have HT := Lib.hid htW3
  clear hW3 htW3
  go_wp2_with (first
    | ((with_reducible show wpList _ _ _ (⟨_, Op.load 84 _, _, _, _, _⟩ :: _) _ _); refine wpList_load_row (by rfl) 84 (.tmp 3) (by rfl) w1.heap.size (by rfl) 84 _ _ _ HT.out.own Tryz.underlying84 rfl (by kernel_rfl) ?_)
    | ((with_reducible show wpList _ _ _ (⟨none, Op.store 84 _ _, _, _, _, _⟩ :: _) _ _); refine wpList_store_whole (by rfl) 84 (.tmp 2) (.tmp 12) (by rfl) (w.heap.size + 1) (by rfl) #[.int .u8 11, .int .u64 0, .string was.key, .string was.value, .int .u32 was.flags, .int .u64 was.id, .int .i64 was.dies, .int .i64 was.gen, .string ⟨#[]⟩, .string ⟨#[]⟩, .int .u32 0, .int .u64 0, .int .i64 0, .int .i64 0, .bool false, .bool false, .bool false, .bool false, .int .u64 (ep : Int)] (by rfl) _ 84 HT.out.res (by rfl) (by kernel_rfl) (by simp [Value.oneCell']) ?_; intro w9 hr9 hg9 hs9)
    | ((with_reducible show bodyPost _ _ _ Exit.ret _ _); exact bodyPost_ret (v := .agg #[.int .u8 11, .int .u64 0, .string was.key, .string was.value, .int .u32 was.flags, .int .u64 was.id, .int .i64 was.dies, .int .i64 was.gen, .string ⟨#[]⟩, .string ⟨#[]⟩, .int .u32 0, .int .u64 0, .int .i64 0, .int .i64 0, .bool false, .bool false, .bool false, .bool false, .int .u64 (ep : Int)]) (results_row_one rfl _ _ (w.heap.size + 1) _ _ _ _ (by rfl) hr9 Tryz.underlying84 rfl (by kernel_rfl)) rfl ⟨rfl, HT.out.ret hg9⟩)
    | fail)
set_option maxRecDepth 100000 in
set_option maxHeartbeats 4000000 in
theorem add_yes (w : World) : Calls Tryz.prog 70 #[.agg (askedCells c ep was has true next)] w fun e w' => e = .returned (.agg (givCells (saysG 2 ep))) ∧ Below w.heap.size w w' := by
  go_enter Tryz.func70, Tryz.ntmps70
  go_upto_region 1 with fail
  obtain ⟨W0, hW0⟩ : ∃ W0, W0 = (w.alloc (.cells #[.int .u8 c.verb, .string c.key, .string c.value, .int .u32 c.flags, .int .i64 c.exp, .int .u64 c.id, .int .u64 c.by', .int .u64 (ep : Int), .string was.key, .string was.value, .int .u32 was.flags, .int .u64 was.id, .int .i64 was.dies, .int .i64 was.gen, .bool has, .bool true, .int .u64 (next : Int)] 118)).alloc (.cells givZero 84) := ⟨_, rfl⟩
  have hd := Duo.start w (askedCells c ep was has true next) givZero
  rw [← hW0] at hd ⊢
  have HD := Lib.hid hd
  clear hW0 hd
  have k15 : W0.cell? ⟨w.heap.size, 15, none⟩ = some (.bool true) := (cells_at HD.out.box 15).1
  go_wp2_with (first | ((with_reducible show wpList _ _ _ (⟨_, Op.load 118 _, _, _, _, _⟩ :: _) _ _); refine wpList_load_row (by rfl) 118 (.tmp 1) (by rfl) w.heap.size (by rfl) 118 _ _ _ HD.out.box Tryz.underlying118 rfl (by kernel_rfl) ?_) | fail)
  refine (says_any c ep was has true next 2 _).mono ?_
  rintro e w1 ⟨rfl, hb1⟩
  have HD1 := Lib.hid (HD.out.call hb1 rfl HD.out.below)
  clear hb1
  go_wp2_with (first
    | ((with_reducible show wpList _ _ _ (⟨none, Op.store 84 _ _, _, _, _, _⟩ :: _) _ _); refine wpList_store_whole (by rfl) 84 (.tmp 2) (.tmp 6) (by rfl) (w.heap.size + 1) (by rfl) #[.int .u8 2, .int .u64 0, .string ⟨#[]⟩, .string ⟨#[]⟩, .int .u32 0, .int .u64 0, .int .i64 0, .int .i64 0, .string ⟨#[]⟩, .string ⟨#[]⟩, .int .u32 0, .int .u64 0, .int .i64 0, .int .i64 0, .bool false, .bool false, .bool false, .bool false, .int .u64 (ep : Int)] (by rfl) _ 84 HD1.out.res (by rfl) (by kernel_rfl) (by simp [Value.oneCell']) ?_; intro w3 hr3 hg3 hs3)
    | ((with_reducible show bodyPost _ _ _ Exit.ret _ _); exact bodyPost_ret (v := .agg #[.int .u8 2, .int .u64 0, .string ⟨#[]⟩, .string ⟨#[]⟩, .int .u32 0, .int .u64 0, .int .i64 0, .int .i64 0, .string ⟨#[]⟩, .string ⟨#[]⟩, .int .u32 0, .int .u64 0, .int .i64 0, .int .i64 0, .bool false, .bool false, .bool false, .bool false, .int .u64 (ep : Int)]) (results_row_one rfl _ _ (w.heap.size + 1) _ _ _ _ (by rfl) hr3 Tryz.underlying84 rfl (by kernel_rfl)) rfl ⟨rfl, HD1.out.ret hg3⟩)
    | fail)
set_option maxRecDepth 100000 in
set_option maxHeartbeats 4000000 in
theorem add_no (he : ep < 18446744073709551616) (hx : -9223372036854775808 ≤ c.exp ∧ c.exp ≤ 9223372036854775807) (w : World) : Calls Tryz.prog 70 #[.agg (askedCells c ep was has false next)] w fun e w' => e = .returned (.agg (givCells (storesG c ep next))) ∧ Below w.heap.size w w' := by
  have HST := Lib.hid (fun W => stores_any c ep was has false next he hx W)
  clear he hx
  go_enter Tryz.func70, Tryz.ntmps70
  go_upto_region 1 with fail
  obtain ⟨W0, hW0⟩ : ∃ W0, W0 = (w.alloc (.cells #[.int .u8 c.verb, .string c.key, .string c.value, .int .u32 c.flags, .int .i64 c.exp, .int .u64 c.id, .int .u64 c.by', .int .u64 (ep : Int), .string was.key, .string was.value, .int .u32 was.flags, .int .u64 was.id, .int .i64 was.dies, .int .i64 was.gen, .bool has, .bool false, .int .u64 (next : Int)] 118)).alloc (.cells givZero 84) := ⟨_, rfl⟩
  have hd := Duo.start w (askedCells c ep was has false next) givZero
  rw [← hW0] at hd ⊢
  have HD := Lib.hid hd
  clear hW0 hd
  have k15 : W0.cell? ⟨w.heap.size, 15, none⟩ = some (.bool false) := (cells_at HD.out.box 15).1
  go_wp2_with (first | ((with_reducible show wpList _ _ _ (⟨_, Op.load 118 _, _, _, _, _⟩ :: _) _ _); refine wpList_load_row (by rfl) 118 (.tmp 1) (by rfl) w.heap.size (by rfl) 118 _ _ _ HD.out.box Tryz.underlying118 rfl (by kernel_rfl) ?_) | fail)
  refine (HST.out _).mono ?_
  rintro e w1 ⟨rfl, hb1⟩
  have HD1 := Lib.hid (HD.out.call hb1 rfl HD.out.below)
  clear hb1
  go_wp2_with (first
    | ((with_reducible show wpList _ _ _ (⟨none, Op.store 84 _ _, _, _, _, _⟩ :: _) _ _); refine wpList_store_whole (by rfl) 84 (.tmp 2) (.tmp 8) (by rfl) (w.heap.size + 1) (by rfl) #[.int .u8 1, .int .u64 (next : Int), .string ⟨#[]⟩, .string ⟨#[]⟩, .int .u32 0, .int .u64 0, .int .i64 0, .int .i64 0, .string c.key, .string c.value, .int .u32 c.flags, .int .u64 (next : Int), .int .i64 (diesE ep c.exp), .int .i64 (genE ep : Int), .bool true, .bool false, .bool true, .bool true, .int .u64 (ep : Int)] (by rfl) _ 84 HD1.out.res (by rfl) (by kernel_rfl) (by simp [Value.oneCell']) ?_; intro w3 hr3 hg3 hs3)
    | ((with_reducible show bodyPost _ _ _ Exit.ret _ _); exact bodyPost_ret (v := .agg #[.int .u8 1, .int .u64 (next : Int), .string ⟨#[]⟩, .string ⟨#[]⟩, .int .u32 0, .int .u64 0, .int .i64 0, .int .i64 0, .string c.key, .string c.value, .int .u32 c.flags, .int .u64 (next : Int), .int .i64 (diesE ep c.exp), .int .i64 (genE ep : Int), .bool true, .bool false, .bool true, .bool true, .int .u64 (ep : Int)]) (results_row_one rfl _ _ (w.heap.size + 1) _ _ _ _ (by rfl) hr3 Tryz.underlying84 rfl (by kernel_rfl)) rfl ⟨rfl, HD1.out.ret hg3⟩)
    | fail)
set_option maxRecDepth 100000 in
set_option maxHeartbeats 4000000 in
theorem repl_no (w : World) : Calls Tryz.prog 71 #[.agg (askedCells c ep was has false next)] w fun e w' => e = .returned (.agg (givCells (saysG 2 ep))) ∧ Below w.heap.size w w' := by
  go_enter Tryz.func71, Tryz.ntmps71
  go_upto_region 1 with fail
  obtain ⟨W0, hW0⟩ : ∃ W0, W0 = (w.alloc (.cells #[.int .u8 c.verb, .string c.key, .string c.value, .int .u32 c.flags, .int .i64 c.exp, .int .u64 c.id, .int .u64 c.by', .int .u64 (ep : Int), .string was.key, .string was.value, .int .u32 was.flags, .int .u64 was.id, .int .i64 was.dies, .int .i64 was.gen, .bool has, .bool false, .int .u64 (next : Int)] 118)).alloc (.cells givZero 84) := ⟨_, rfl⟩
  have hd := Duo.start w (askedCells c ep was has false next) givZero
  rw [← hW0] at hd ⊢
  have HD := Lib.hid hd
  clear hW0 hd
  have k15 : W0.cell? ⟨w.heap.size, 15, none⟩ = some (.bool false) := (cells_at HD.out.box 15).1
  go_wp2_with (first | ((with_reducible show wpList _ _ _ (⟨_, Op.load 118 _, _, _, _, _⟩ :: _) _ _); refine wpList_load_row (by rfl) 118 (.tmp 1) (by rfl) w.heap.size (by rfl) 118 _ _ _ HD.out.box Tryz.underlying118 rfl (by kernel_rfl) ?_) | fail)
  refine (says_any c ep was has false next 2 _).mono ?_
  rintro e w1 ⟨rfl, hb1⟩
  have HD1 := Lib.hid (HD.out.call hb1 rfl HD.out.below)
  clear hb1
  go_wp2_with (first
    | ((with_reducible show wpList _ _ _ (⟨none, Op.store 84 _ _, _, _, _, _⟩ :: _) _ _); refine wpList_store_whole (by rfl) 84 (.tmp 2) (.tmp 7) (by rfl) (w.heap.size + 1) (by rfl) #[.int .u8 2, .int .u64 0, .string ⟨#[]⟩, .string ⟨#[]⟩, .int .u32 0, .int .u64 0, .int .i64 0, .int .i64 0, .string ⟨#[]⟩, .string ⟨#[]⟩, .int .u32 0, .int .u64 0, .int .i64 0, .int .i64 0, .bool false, .bool false, .bool false, .bool false, .int .u64 (ep : Int)] (by rfl) _ 84 HD1.out.res (by rfl) (by kernel_rfl) (by simp [Value.oneCell']) ?_; intro w3 hr3 hg3 hs3)
    | ((with_reducible show bodyPost _ _ _ Exit.ret _ _); exact bodyPost_ret (v := .agg #[.int .u8 2, .int .u64 0, .string ⟨#[]⟩, .string ⟨#[]⟩, .int .u32 0, .int .u64 0, .int .i64 0, .int .i64 0, .string ⟨#[]⟩, .string ⟨#[]⟩, .int .u32 0, .int .u64 0, .int .i64 0, .int .i64 0, .bool false, .bool false, .bool false, .bool false, .int .u64 (ep : Int)]) (results_row_one rfl _ _ (w.heap.size + 1) _ _ _ _ (by rfl) hr3 Tryz.underlying84 rfl (by kernel_rfl)) rfl ⟨rfl, HD1.out.ret hg3⟩)
    | fail)
set_option maxRecDepth 100000 in
set_option maxHeartbeats 4000000 in
theorem repl_yes (he : ep < 18446744073709551616) (hx : -9223372036854775808 ≤ c.exp ∧ c.exp ≤ 9223372036854775807) (w : World) : Calls Tryz.prog 71 #[.agg (askedCells c ep was has true next)] w fun e w' => e = .returned (.agg (givCells (storesG c ep next))) ∧ Below w.heap.size w w' := by
  have HST := Lib.hid (fun W => stores_any c ep was has true next he hx W)
  clear he hx
  go_enter Tryz.func71, Tryz.ntmps71
  go_upto_region 1 with fail
  obtain ⟨W0, hW0⟩ : ∃ W0, W0 = (w.alloc (.cells #[.int .u8 c.verb, .string c.key, .string c.value, .int .u32 c.flags, .int .i64 c.exp, .int .u64 c.id, .int .u64 c.by', .int .u64 (ep : Int), .string was.key, .string was.value, .int .u32 was.flags, .int .u64 was.id, .int .i64 was.dies, .int .i64 was.gen, .bool has, .bool true, .int .u64 (next : Int)] 118)).alloc (.cells givZero 84) := ⟨_, rfl⟩
  have hd := Duo.start w (askedCells c ep was has true next) givZero
  rw [← hW0] at hd ⊢
  have HD := Lib.hid hd
  clear hW0 hd
  have k15 : W0.cell? ⟨w.heap.size, 15, none⟩ = some (.bool true) := (cells_at HD.out.box 15).1
  go_wp2_with (first | ((with_reducible show wpList _ _ _ (⟨_, Op.load 118 _, _, _, _, _⟩ :: _) _ _); refine wpList_load_row (by rfl) 118 (.tmp 1) (by rfl) w.heap.size (by rfl) 118 _ _ _ HD.out.box Tryz.underlying118 rfl (by kernel_rfl) ?_) | fail)
  refine (HST.out _).mono ?_
  rintro e w1 ⟨rfl, hb1⟩
  have HD1 := Lib.hid (HD.out.call hb1 rfl HD.out.below)
  clear hb1
  go_wp2_with (first
    | ((with_reducible show wpList _ _ _ (⟨none, Op.store 84 _ _, _, _, _, _⟩ :: _) _ _); refine wpList_store_whole (by rfl) 84 (.tmp 2) (.tmp 9) (by rfl) (w.heap.size + 1) (by rfl) #[.int .u8 1, .int .u64 (next : Int), .string ⟨#[]⟩, .string ⟨#[]⟩, .int .u32 0, .int .u64 0, .int .i64 0, .int .i64 0, .string c.key, .string c.value, .int .u32 c.flags, .int .u64 (next : Int), .int .i64 (diesE ep c.exp), .int .i64 (genE ep : Int), .bool true, .bool false, .bool true, .bool true, .int .u64 (ep : Int)] (by rfl) _ 84 HD1.out.res (by rfl) (by kernel_rfl) (by simp [Value.oneCell']) ?_; intro w3 hr3 hg3 hs3)
    | ((with_reducible show bodyPost _ _ _ Exit.ret _ _); exact bodyPost_ret (v := .agg #[.int .u8 1, .int .u64 (next : Int), .string ⟨#[]⟩, .string ⟨#[]⟩, .int .u32 0, .int .u64 0, .int .i64 0, .int .i64 0, .string c.key, .string c.value, .int .u32 c.flags, .int .u64 (next : Int), .int .i64 (diesE ep c.exp), .int .i64 (genE ep : Int), .bool true, .bool false, .bool true, .bool true, .int .u64 (ep : Int)]) (results_row_one rfl _ _ (w.heap.size + 1) _ _ _ _ (by rfl) hr3 Tryz.underlying84 rfl (by kernel_rfl)) rfl ⟨rfl, HD1.out.ret hg3⟩)
    | fail)
set_option maxRecDepth 100000 in
set_option maxHeartbeats 4000000 in
theorem cas_no (w : World) : Calls Tryz.prog 72 #[.agg (askedCells c ep was has false next)] w fun e w' => e = .returned (.agg (givCells (saysG 4 ep))) ∧ Below w.heap.size w w' := by
  go_enter Tryz.func72, Tryz.ntmps72
  go_upto_region 1 with fail
  obtain ⟨W0, hW0⟩ : ∃ W0, W0 = (w.alloc (.cells #[.int .u8 c.verb, .string c.key, .string c.value, .int .u32 c.flags, .int .i64 c.exp, .int .u64 c.id, .int .u64 c.by', .int .u64 (ep : Int), .string was.key, .string was.value, .int .u32 was.flags, .int .u64 was.id, .int .i64 was.dies, .int .i64 was.gen, .bool has, .bool false, .int .u64 (next : Int)] 118)).alloc (.cells givZero 84) := ⟨_, rfl⟩
  have hd := Duo.start w (askedCells c ep was has false next) givZero
  rw [← hW0] at hd ⊢
  have HD := Lib.hid hd
  clear hW0 hd
  have k15 : W0.cell? ⟨w.heap.size, 15, none⟩ = some (.bool false) := (cells_at HD.out.box 15).1
  go_wp2_with (first | ((with_reducible show wpList _ _ _ (⟨_, Op.load 118 _, _, _, _, _⟩ :: _) _ _); refine wpList_load_row (by rfl) 118 (.tmp 1) (by rfl) w.heap.size (by rfl) 118 _ _ _ HD.out.box Tryz.underlying118 rfl (by kernel_rfl) ?_) | fail)
  refine (says_any c ep was has false next 4 _).mono ?_
  rintro e w1 ⟨rfl, hb1⟩
  have HD1 := Lib.hid (HD.out.call hb1 rfl HD.out.below)
  clear hb1
  go_wp2_with (first
    | ((with_reducible show wpList _ _ _ (⟨none, Op.store 84 _ _, _, _, _, _⟩ :: _) _ _); refine wpList_store_whole (by rfl) 84 (.tmp 2) (.tmp 8) (by rfl) (w.heap.size + 1) (by rfl) #[.int .u8 4, .int .u64 0, .string ⟨#[]⟩, .string ⟨#[]⟩, .int .u32 0, .int .u64 0, .int .i64 0, .int .i64 0, .string ⟨#[]⟩, .string ⟨#[]⟩, .int .u32 0, .int .u64 0, .int .i64 0, .int .i64 0, .bool false, .bool false, .bool false, .bool false, .int .u64 (ep : Int)] (by rfl) _ 84 HD1.out.res (by rfl) (by kernel_rfl) (by simp [Value.oneCell']) ?_; intro w3 hr3 hg3 hs3)
    | ((with_reducible show bodyPost _ _ _ Exit.ret _ _); exact bodyPost_ret (v := .agg #[.int .u8 4, .int .u64 0, .string ⟨#[]⟩, .string ⟨#[]⟩, .int .u32 0, .int .u64 0, .int .i64 0, .int .i64 0, .string ⟨#[]⟩, .string ⟨#[]⟩, .int .u32 0, .int .u64 0, .int .i64 0, .int .i64 0, .bool false, .bool false, .bool false, .bool false, .int .u64 (ep : Int)]) (results_row_one rfl _ _ (w.heap.size + 1) _ _ _ _ (by rfl) hr3 Tryz.underlying84 rfl (by kernel_rfl)) rfl ⟨rfl, HD1.out.ret hg3⟩)
    | fail)
set_option maxRecDepth 100000 in
set_option maxHeartbeats 4000000 in
theorem cas_other (hid : (was.id != c.id) = true) (w : World) : Calls Tryz.prog 72 #[.agg (askedCells c ep was has true next)] w fun e w' => e = .returned (.agg (givCells (saysG 3 ep))) ∧ Below w.heap.size w w' := by
  go_enter Tryz.func72, Tryz.ntmps72
  go_upto_region 1 with fail
  obtain ⟨W0, hW0⟩ : ∃ W0, W0 = (w.alloc (.cells #[.int .u8 c.verb, .string c.key, .string c.value, .int .u32 c.flags, .int .i64 c.exp, .int .u64 c.id, .int .u64 c.by', .int .u64 (ep : Int), .string was.key, .string was.value, .int .u32 was.flags, .int .u64 was.id, .int .i64 was.dies, .int .i64 was.gen, .bool has, .bool true, .int .u64 (next : Int)] 118)).alloc (.cells givZero 84) := ⟨_, rfl⟩
  have hd := Duo.start w (askedCells c ep was has true next) givZero
  rw [← hW0] at hd ⊢
  have HD := Lib.hid hd
  clear hW0 hd
  have k5 : W0.cell? ⟨w.heap.size, 5, none⟩ = some (.int .u64 c.id) := (cells_at HD.out.box 5).1
  have k11 : W0.cell? ⟨w.heap.size, 11, none⟩ = some (.int .u64 was.id) := (cells_at HD.out.box 11).1
  have k15 : W0.cell? ⟨w.heap.size, 15, none⟩ = some (.bool true) := (cells_at HD.out.box 15).1
  go_wp2_with (first | ((with_reducible show wpList _ _ _ (⟨_, Op.load 118 _, _, _, _, _⟩ :: _) _ _); refine wpList_load_row (by rfl) 118 (.tmp 1) (by rfl) w.heap.size (by rfl) 118 _ _ _ HD.out.box Tryz.underlying118 rfl (by kernel_rfl) ?_) | fail)
  refine (says_any c ep was has true next 3 _).mono ?_
  rintro e w1 ⟨rfl, hb1⟩
  have HD1 := Lib.hid (HD.out.call hb1 rfl HD.out.below)
  clear hb1
  go_wp2_with (first
    | ((with_reducible show wpList _ _ _ (⟨none, Op.store 84 _ _, _, _, _, _⟩ :: _) _ _); refine wpList_store_whole (by rfl) 84 (.tmp 2) (.tmp 18) (by rfl) (w.heap.size + 1) (by rfl) #[.int .u8 3, .int .u64 0, .string ⟨#[]⟩, .string ⟨#[]⟩, .int .u32 0, .int .u64 0, .int .i64 0, .int .i64 0, .string ⟨#[]⟩, .string ⟨#[]⟩, .int .u32 0, .int .u64 0, .int .i64 0, .int .i64 0, .bool false, .bool false, .bool false, .bool false, .int .u64 (ep : Int)] (by rfl) _ 84 HD1.out.res (by rfl) (by kernel_rfl) (by simp [Value.oneCell']) ?_; intro w3 hr3 hg3 hs3)
    | ((with_reducible show bodyPost _ _ _ Exit.ret _ _); exact bodyPost_ret (v := .agg #[.int .u8 3, .int .u64 0, .string ⟨#[]⟩, .string ⟨#[]⟩, .int .u32 0, .int .u64 0, .int .i64 0, .int .i64 0, .string ⟨#[]⟩, .string ⟨#[]⟩, .int .u32 0, .int .u64 0, .int .i64 0, .int .i64 0, .bool false, .bool false, .bool false, .bool false, .int .u64 (ep : Int)]) (results_row_one rfl _ _ (w.heap.size + 1) _ _ _ _ (by rfl) hr3 Tryz.underlying84 rfl (by kernel_rfl)) rfl ⟨rfl, HD1.out.ret hg3⟩)
    | fail)
set_option maxRecDepth 100000 in
set_option maxHeartbeats 4000000 in
theorem cas_yes (hid : (was.id != c.id) = false) (he : ep < 18446744073709551616) (hx : -9223372036854775808 ≤ c.exp ∧ c.exp ≤ 9223372036854775807) (w : World) : Calls Tryz.prog 72 #[.agg (askedCells c ep was has true next)] w fun e w' => e = .returned (.agg (givCells (storesG c ep next))) ∧ Below w.heap.size w w' := by
  have HST := Lib.hid (fun W => stores_any c ep was has true next he hx W)
  clear he hx
  go_enter Tryz.func72, Tryz.ntmps72
  go_upto_region 1 with fail
  obtain ⟨W0, hW0⟩ : ∃ W0, W0 = (w.alloc (.cells #[.int .u8 c.verb, .string c.key, .string c.value, .int .u32 c.flags, .int .i64 c.exp, .int .u64 c.id, .int .u64 c.by', .int .u64 (ep : Int), .string was.key, .string was.value, .int .u32 was.flags, .int .u64 was.id, .int .i64 was.dies, .int .i64 was.gen, .bool has, .bool true, .int .u64 (next : Int)] 118)).alloc (.cells givZero 84) := ⟨_, rfl⟩
  have hd := Duo.start w (askedCells c ep was has true next) givZero
  rw [← hW0] at hd ⊢
  have HD := Lib.hid hd
  clear hW0 hd
  have k5 : W0.cell? ⟨w.heap.size, 5, none⟩ = some (.int .u64 c.id) := (cells_at HD.out.box 5).1
  have k11 : W0.cell? ⟨w.heap.size, 11, none⟩ = some (.int .u64 was.id) := (cells_at HD.out.box 11).1
  have k15 : W0.cell? ⟨w.heap.size, 15, none⟩ = some (.bool true) := (cells_at HD.out.box 15).1
  go_wp2_with (first | ((with_reducible show wpList _ _ _ (⟨_, Op.load 118 _, _, _, _, _⟩ :: _) _ _); refine wpList_load_row (by rfl) 118 (.tmp 1) (by rfl) w.heap.size (by rfl) 118 _ _ _ HD.out.box Tryz.underlying118 rfl (by kernel_rfl) ?_) | fail)
  refine (HST.out _).mono ?_
  rintro e w1 ⟨rfl, hb1⟩
  have HD1 := Lib.hid (HD.out.call hb1 rfl HD.out.below)
  clear hb1
  go_wp2_with (first
    | ((with_reducible show wpList _ _ _ (⟨none, Op.store 84 _ _, _, _, _, _⟩ :: _) _ _); refine wpList_store_whole (by rfl) 84 (.tmp 2) (.tmp 20) (by rfl) (w.heap.size + 1) (by rfl) #[.int .u8 1, .int .u64 (next : Int), .string ⟨#[]⟩, .string ⟨#[]⟩, .int .u32 0, .int .u64 0, .int .i64 0, .int .i64 0, .string c.key, .string c.value, .int .u32 c.flags, .int .u64 (next : Int), .int .i64 (diesE ep c.exp), .int .i64 (genE ep : Int), .bool true, .bool false, .bool true, .bool true, .int .u64 (ep : Int)] (by rfl) _ 84 HD1.out.res (by rfl) (by kernel_rfl) (by simp [Value.oneCell']) ?_; intro w3 hr3 hg3 hs3)
    | ((with_reducible show bodyPost _ _ _ Exit.ret _ _); exact bodyPost_ret (v := .agg #[.int .u8 1, .int .u64 (next : Int), .string ⟨#[]⟩, .string ⟨#[]⟩, .int .u32 0, .int .u64 0, .int .i64 0, .int .i64 0, .string c.key, .string c.value, .int .u32 c.flags, .int .u64 (next : Int), .int .i64 (diesE ep c.exp), .int .i64 (genE ep : Int), .bool true, .bool false, .bool true, .bool true, .int .u64 (ep : Int)]) (results_row_one rfl _ _ (w.heap.size + 1) _ _ _ _ (by rfl) hr3 Tryz.underlying84 rfl (by kernel_rfl)) rfl ⟨rfl, HD1.out.ret hg3⟩)
    | fail)
set_option maxRecDepth 100000 in
set_option maxHeartbeats 4000000 in
theorem del_no (w : World) : Calls Tryz.prog 73 #[.agg (askedCells c ep was has false next)] w fun e w' => e = .returned (.agg (givCells (saysG 4 ep))) ∧ Below w.heap.size w w' := by
  go_enter Tryz.func73, Tryz.ntmps73
  go_upto_region 1 with fail
  obtain ⟨W0, hW0⟩ : ∃ W0, W0 = (w.alloc (.cells #[.int .u8 c.verb, .string c.key, .string c.value, .int .u32 c.flags, .int .i64 c.exp, .int .u64 c.id, .int .u64 c.by', .int .u64 (ep : Int), .string was.key, .string was.value, .int .u32 was.flags, .int .u64 was.id, .int .i64 was.dies, .int .i64 was.gen, .bool has, .bool false, .int .u64 (next : Int)] 118)).alloc (.cells givZero 84) := ⟨_, rfl⟩
  have hd := Duo.start w (askedCells c ep was has false next) givZero
  rw [← hW0] at hd ⊢
  have HD := Lib.hid hd
  clear hW0 hd
  have k15 : W0.cell? ⟨w.heap.size, 15, none⟩ = some (.bool false) := (cells_at HD.out.box 15).1
  go_wp2_with (first | ((with_reducible show wpList _ _ _ (⟨_, Op.load 118 _, _, _, _, _⟩ :: _) _ _); refine wpList_load_row (by rfl) 118 (.tmp 1) (by rfl) w.heap.size (by rfl) 118 _ _ _ HD.out.box Tryz.underlying118 rfl (by kernel_rfl) ?_) | fail)
  refine (says_any c ep was has false next 4 _).mono ?_
  rintro e w1 ⟨rfl, hb1⟩
  have HD1 := Lib.hid (HD.out.call hb1 rfl HD.out.below)
  clear hb1
  go_wp2_with (first
    | ((with_reducible show wpList _ _ _ (⟨none, Op.store 84 _ _, _, _, _, _⟩ :: _) _ _); refine wpList_store_whole (by rfl) 84 (.tmp 2) (.tmp 8) (by rfl) (w.heap.size + 1) (by rfl) #[.int .u8 4, .int .u64 0, .string ⟨#[]⟩, .string ⟨#[]⟩, .int .u32 0, .int .u64 0, .int .i64 0, .int .i64 0, .string ⟨#[]⟩, .string ⟨#[]⟩, .int .u32 0, .int .u64 0, .int .i64 0, .int .i64 0, .bool false, .bool false, .bool false, .bool false, .int .u64 (ep : Int)] (by rfl) _ 84 HD1.out.res (by rfl) (by kernel_rfl) (by simp [Value.oneCell']) ?_; intro w3 hr3 hg3 hs3)
    | ((with_reducible show bodyPost _ _ _ Exit.ret _ _); exact bodyPost_ret (v := .agg #[.int .u8 4, .int .u64 0, .string ⟨#[]⟩, .string ⟨#[]⟩, .int .u32 0, .int .u64 0, .int .i64 0, .int .i64 0, .string ⟨#[]⟩, .string ⟨#[]⟩, .int .u32 0, .int .u64 0, .int .i64 0, .int .i64 0, .bool false, .bool false, .bool false, .bool false, .int .u64 (ep : Int)]) (results_row_one rfl _ _ (w.heap.size + 1) _ _ _ _ (by rfl) hr3 Tryz.underlying84 rfl (by kernel_rfl)) rfl ⟨rfl, HD1.out.ret hg3⟩)
    | fail)
set_option maxRecDepth 100000 in
set_option maxHeartbeats 4000000 in
theorem del_yes (w : World) : Calls Tryz.prog 73 #[.agg (askedCells c ep was has true next)] w fun e w' => e = .returned (.agg (givCells (goneG ep))) ∧ Below w.heap.size w w' := by
  go_enter Tryz.func73, Tryz.ntmps73
  go_upto_region 1 with fail
  obtain ⟨W0, hW0⟩ : ∃ W0, W0 = (w.alloc (.cells #[.int .u8 c.verb, .string c.key, .string c.value, .int .u32 c.flags, .int .i64 c.exp, .int .u64 c.id, .int .u64 c.by', .int .u64 (ep : Int), .string was.key, .string was.value, .int .u32 was.flags, .int .u64 was.id, .int .i64 was.dies, .int .i64 was.gen, .bool has, .bool true, .int .u64 (next : Int)] 118)).alloc (.cells givZero 84) := ⟨_, rfl⟩
  have hd := Duo.start w (askedCells c ep was has true next) givZero
  rw [← hW0] at hd ⊢
  have HD := Lib.hid hd
  clear hW0 hd
  have k15 : W0.cell? ⟨w.heap.size, 15, none⟩ = some (.bool true) := (cells_at HD.out.box 15).1
  go_wp2_with (first | ((with_reducible show wpList _ _ _ (⟨_, Op.load 118 _, _, _, _, _⟩ :: _) _ _); refine wpList_load_row (by rfl) 118 (.tmp 1) (by rfl) w.heap.size (by rfl) 118 _ _ _ HD.out.box Tryz.underlying118 rfl (by kernel_rfl) ?_) | fail)
  refine (says_any c ep was has true next 6 _).mono ?_
  rintro e w1 ⟨rfl, hb1⟩
  have HD1 := Lib.hid (HD.out.call hb1 rfl HD.out.below)
  clear hb1
  go_upto_region 4 with (first | (((with_reducible show wpList _ _ _ (⟨none, Op.store 84 _ _, _, _, _, _⟩ :: _) _ _); refine wpList_store_whole (by rfl) 84 (.tmp 3) (.tmp 10) (by rfl) w1.heap.size (by rfl) #[.int .u8 6, .int .u64 0, .string ⟨#[]⟩, .string ⟨#[]⟩, .int .u32 0, .int .u64 0, .int .i64 0, .int .i64 0, .string ⟨#[]⟩, .string ⟨#[]⟩, .int .u32 0, .int .u64 0, .int .i64 0, .int .i64 0, .bool false, .bool false, .bool false, .bool false, .int .u64 (ep : Int)] (by rfl) _ 84 (heap_alloc_new _ _) (by rfl) (by kernel_rfl) (by simp [Value.oneCell']) ?_; intro w2 hr2 hg2 hs2); have HT := Lib.hid (HD1.out.lay _ hr2 hg2); clear hr2 hg2 hs2) | fail)
  have y15 : w2.cell? ⟨w1.heap.size, 15, none⟩ = some (.bool false) := (cells_at HT.out.own 15).1
  have f15 : w2.frozen? ⟨w1.heap.size, 15, none⟩ = false := (cells_at HT.out.own 15).2
  go_upto_region 5 with fail
  clear y15 f15
  obtain ⟨W3, hW3⟩ : ∃ X, X = (w2.setCell ⟨w1.heap.size, 15, none⟩ (.bool true)) := ⟨_, rfl⟩
  have htW3 := (HT.out.set 15 (.bool true))
  rw [← hW3] at htW3 ⊢
  simp only [List.setIfInBounds_toArray, List.set_cons_succ, List.set_cons_zero] at htW3
  have HT := Lib.hid htW3
  clear hW3 htW3
  go_wp2_with (first
    | ((with_reducible show wpList _ _ _ (⟨_, Op.load 84 _, _, _, _, _⟩ :: _) _ _); refine wpList_load_row (by rfl) 84 (.tmp 3) (by rfl) w1.heap.size (by rfl) 84 _ _ _ HT.out.own Tryz.underlying84 rfl (by kernel_rfl) ?_)
    | ((with_reducible show wpList _ _ _ (⟨none, Op.store 84 _ _, _, _, _, _⟩ :: _) _ _); refine wpList_store_whole (by rfl) 84 (.tmp 2) (.tmp 12) (by rfl) (w.heap.size + 1) (by rfl) #[.int .u8 6, .int .u64 0, .string ⟨#[]⟩, .string ⟨#[]⟩, .int .u32 0, .int .u64 0, .int .i64 0, .int .i64 0, .string ⟨#[]⟩, .string ⟨#[]⟩, .int .u32 0, .int .u64 0, .int .i64 0, .int .i64 0, .bool false, .bool true, .bool false, .bool false, .int .u64 (ep : Int)] (by rfl) _ 84 HT.out.res (by rfl) (by kernel_rfl) (by simp [Value.oneCell']) ?_; intro w9 hr9 hg9 hs9)
    | ((with_reducible show bodyPost _ _ _ Exit.ret _ _); exact bodyPost_ret (v := .agg #[.int .u8 6, .int .u64 0, .string ⟨#[]⟩, .string ⟨#[]⟩, .int .u32 0, .int .u64 0, .int .i64 0, .int .i64 0, .string ⟨#[]⟩, .string ⟨#[]⟩, .int .u32 0, .int .u64 0, .int .i64 0, .int .i64 0, .bool false, .bool true, .bool false, .bool false, .int .u64 (ep : Int)]) (results_row_one rfl _ _ (w.heap.size + 1) _ _ _ _ (by rfl) hr9 Tryz.underlying84 rfl (by kernel_rfl)) rfl ⟨rfl, HT.out.ret hg9⟩)
    | fail)
set_option maxRecDepth 100000 in
set_option maxHeartbeats 4000000 in
theorem touch_no (w : World) : Calls Tryz.prog 74 #[.agg (askedCells c ep was has false next)] w fun e w' => e = .returned (.agg (givCells (saysG 4 ep))) ∧ Below w.heap.size w w' := by
  go_enter Tryz.func74, Tryz.ntmps74
  go_upto_region 1 with fail
  obtain ⟨W0, hW0⟩ : ∃ W0, W0 = (w.alloc (.cells #[.int .u8 c.verb, .string c.key, .string c.value, .int .u32 c.flags, .int .i64 c.exp, .int .u64 c.id, .int .u64 c.by', .int .u64 (ep : Int), .string was.key, .string was.value, .int .u32 was.flags, .int .u64 was.id, .int .i64 was.dies, .int .i64 was.gen, .bool has, .bool false, .int .u64 (next : Int)] 118)).alloc (.cells givZero 84) := ⟨_, rfl⟩
  have hd := Duo.start w (askedCells c ep was has false next) givZero
  rw [← hW0] at hd ⊢
  have HD := Lib.hid hd
  clear hW0 hd
  have k15 : W0.cell? ⟨w.heap.size, 15, none⟩ = some (.bool false) := (cells_at HD.out.box 15).1
  go_wp2_with (first | ((with_reducible show wpList _ _ _ (⟨_, Op.load 118 _, _, _, _, _⟩ :: _) _ _); refine wpList_load_row (by rfl) 118 (.tmp 1) (by rfl) w.heap.size (by rfl) 118 _ _ _ HD.out.box Tryz.underlying118 rfl (by kernel_rfl) ?_) | fail)
  refine (says_any c ep was has false next 4 _).mono ?_
  rintro e w1 ⟨rfl, hb1⟩
  have HD1 := Lib.hid (HD.out.call hb1 rfl HD.out.below)
  clear hb1
  go_wp2_with (first
    | ((with_reducible show wpList _ _ _ (⟨none, Op.store 84 _ _, _, _, _, _⟩ :: _) _ _); refine wpList_store_whole (by rfl) 84 (.tmp 2) (.tmp 8) (by rfl) (w.heap.size + 1) (by rfl) #[.int .u8 4, .int .u64 0, .string ⟨#[]⟩, .string ⟨#[]⟩, .int .u32 0, .int .u64 0, .int .i64 0, .int .i64 0, .string ⟨#[]⟩, .string ⟨#[]⟩, .int .u32 0, .int .u64 0, .int .i64 0, .int .i64 0, .bool false, .bool false, .bool false, .bool false, .int .u64 (ep : Int)] (by rfl) _ 84 HD1.out.res (by rfl) (by kernel_rfl) (by simp [Value.oneCell']) ?_; intro w3 hr3 hg3 hs3)
    | ((with_reducible show bodyPost _ _ _ Exit.ret _ _); exact bodyPost_ret (v := .agg #[.int .u8 4, .int .u64 0, .string ⟨#[]⟩, .string ⟨#[]⟩, .int .u32 0, .int .u64 0, .int .i64 0, .int .i64 0, .string ⟨#[]⟩, .string ⟨#[]⟩, .int .u32 0, .int .u64 0, .int .i64 0, .int .i64 0, .bool false, .bool false, .bool false, .bool false, .int .u64 (ep : Int)]) (results_row_one rfl _ _ (w.heap.size + 1) _ _ _ _ (by rfl) hr3 Tryz.underlying84 rfl (by kernel_rfl)) rfl ⟨rfl, HD1.out.ret hg3⟩)
    | fail)
set_option maxRecDepth 100000 in
set_option maxHeartbeats 4000000 in
theorem touch_yes (he : ep < 18446744073709551616) (hx : -9223372036854775808 ≤ c.exp ∧ c.exp ≤ 9223372036854775807) (w : World) : Calls Tryz.prog 74 #[.agg (askedCells c ep was has true next)] w fun e w' => e = .returned (.agg (givCells (touchG c ep was))) ∧ Below w.heap.size w w' := by
  have HDI := Lib.hid (fun W => dies_any ep c.exp he hx W)
  clear he hx
  go_enter Tryz.func74, Tryz.ntmps74
  go_upto_region 1 with fail
  obtain ⟨W0, hW0⟩ : ∃ W0, W0 = (w.alloc (.cells #[.int .u8 c.verb, .string c.key, .string c.value, .int .u32 c.flags, .int .i64 c.exp, .int .u64 c.id, .int .u64 c.by', .int .u64 (ep : Int), .string was.key, .string was.value, .int .u32 was.flags, .int .u64 was.id, .int .i64 was.dies, .int .i64 was.gen, .bool has, .bool true, .int .u64 (next : Int)] 118)).alloc (.cells givZero 84) := ⟨_, rfl⟩
  have hd := Duo.start w (askedCells c ep was has true next) givZero
  rw [← hW0] at hd ⊢
  have HD := Lib.hid hd
  clear hW0 hd
  have k15 : W0.cell? ⟨w.heap.size, 15, none⟩ = some (.bool true) := (cells_at HD.out.box 15).1
  go_wp2_with (first | ((with_reducible show wpList _ _ _ (⟨_, Op.load 118 _, _, _, _, _⟩ :: _) _ _); refine wpList_load_row (by rfl) 118 (.tmp 1) (by rfl) w.heap.size (by rfl) 118 _ _ _ HD.out.box Tryz.underlying118 rfl (by kernel_rfl) ?_) | fail)
  refine (says_any c ep was has true next 7 _).mono ?_
  rintro e w1 ⟨rfl, hb1⟩
  have HD1 := Lib.hid (HD.out.call hb1 rfl HD.out.below)
  clear hb1
  go_upto_region 4 with (first | (((with_reducible show wpList _ _ _ (⟨none, Op.store 84 _ _, _, _, _, _⟩ :: _) _ _); refine wpList_store_whole (by rfl) 84 (.tmp 3) (.tmp 10) (by rfl) w1.heap.size (by rfl) #[.int .u8 7, .int .u64 0, .string ⟨#[]⟩, .string ⟨#[]⟩, .int .u32 0, .int .u64 0, .int .i64 0, .int .i64 0, .string ⟨#[]⟩, .string ⟨#[]⟩, .int .u32 0, .int .u64 0, .int .i64 0, .int .i64 0, .bool false, .bool false, .bool false, .bool false, .int .u64 (ep : Int)] (by rfl) _ 84 (heap_alloc_new _ _) (by rfl) (by kernel_rfl) (by simp [Value.oneCell']) ?_; intro w2 hr2 hg2 hs2); have HT := Lib.hid (HD1.out.lay _ hr2 hg2); clear hr2 hg2 hs2) | fail)
  have k8 : w2.cell? ⟨w.heap.size, 8, none⟩ = some (.string was.key) := (cells_at HT.out.box 8).1
  have k9 : w2.cell? ⟨w.heap.size, 9, none⟩ = some (.string was.value) := (cells_at HT.out.box 9).1
  have k10 : w2.cell? ⟨w.heap.size, 10, none⟩ = some (.int .u32 was.flags) := (cells_at HT.out.box 10).1
  have k11 : w2.cell? ⟨w.heap.size, 11, none⟩ = some (.int .u64 was.id) := (cells_at HT.out.box 11).1
  have k12 : w2.cell? ⟨w.heap.size, 12, none⟩ = some (.int .i64 was.dies) := (cells_at HT.out.box 12).1
  have k13 : w2.cell? ⟨w.heap.size, 13, none⟩ = some (.int .i64 was.gen) := (cells_at HT.out.box 13).1
  have y8 : w2.cell? ⟨w1.heap.size, 8, none⟩ = some (.string ⟨#[]⟩) := (cells_at HT.out.own 8).1
  have y9 : w2.cell? ⟨w1.heap.size, 9, none⟩ = some (.string ⟨#[]⟩) := (cells_at HT.out.own 9).1
  have y10 : w2.cell? ⟨w1.heap.size, 10, none⟩ = some (.int .u32 0) := (cells_at HT.out.own 10).1
  have y11 : w2.cell? ⟨w1.heap.size, 11, none⟩ = some (.int .u64 0) := (cells_at HT.out.own 11).1
  have y12 : w2.cell? ⟨w1.heap.size, 12, none⟩ = some (.int .i64 0) := (cells_at HT.out.own 12).1
  have y13 : w2.cell? ⟨w1.heap.size, 13, none⟩ = some (.int .i64 0) := (cells_at HT.out.own 13).1
  have y14 : w2.cell? ⟨w1.heap.size, 14, none⟩ = some (.bool false) := (cells_at HT.out.own 14).1
  have f8 : w2.frozen? ⟨w1.heap.size, 8, none⟩ = false := (cells_at HT.out.own 8).2
  have f9 : w2.frozen? ⟨w1.heap.size, 9, none⟩ = false := (cells_at HT.out.own 9).2
  have f10 : w2.frozen? ⟨w1.heap.size, 10, none⟩ = false := (cells_at HT.out.own 10).2
  have f11 : w2.frozen? ⟨w1.heap.size, 11, none⟩ = false := (cells_at HT.out.own 11).2
  have f12 : w2.frozen? ⟨w1.heap.size, 12, none⟩ = false := (cells_at HT.out.own 12).2
  have f13 : w2.frozen? ⟨w1.heap.size, 13, none⟩ = false := (cells_at HT.out.own 13).2
  have f14 : w2.frozen? ⟨w1.heap.size, 14, none⟩ = false := (cells_at HT.out.own 14).2
  go_upto_region 5 with fail
  clear k8 k9 k10 k11 k12 k13
  clear y8 f8 y9 f9 y10 f10 y11 f11 y12 f12 y13 f13 y14 f14
  obtain ⟨W3, hW3⟩ : ∃ X, X = (((((((w2.setCell ⟨w1.heap.size, 8, none⟩ (.string was.key)).setCell ⟨w1.heap.size, 9, none⟩ (.string was.value)).setCell ⟨w1.heap.size, 10, none⟩ (.int .u32 was.flags)).setCell ⟨w1.heap.size, 11, none⟩ (.int .u64 was.id)).setCell ⟨w1.heap.size, 12, none⟩ (.int .i64 was.dies)).setCell ⟨w1.heap.size, 13, none⟩ (.int .i64 was.gen)).setCell ⟨w1.heap.size, 14, none⟩ (.bool true)) := ⟨_, rfl⟩
  have htW3 := (((((((HT.out.set 8 (.string was.key)).set 9 (.string was.value)).set 10 (.int .u32 was.flags)).set 11 (.int .u64 was.id)).set 12 (.int .i64 was.dies)).set 13 (.int .i64 was.gen)).set 14 (.bool true))
  rw [← hW3] at htW3 ⊢
  simp only [List.setIfInBounds_toArray, List.set_cons_succ, List.set_cons_zero] at htW3
  have HT := Lib.hid htW3
  clear hW3 htW3
  have k4 : W3.cell? ⟨w.heap.size, 4, none⟩ = some (.int .i64 c.exp) := (cells_at HT.out.box 4).1
  have k7 : W3.cell? ⟨w.heap.size, 7, none⟩ = some (.int .u64 (ep : Int)) := (cells_at HT.out.box 7).1
  go_wp2_with fail
  refine (HDI.out _).mono ?_
  rintro e w4 ⟨rfl, hb4⟩
  have HTn := Lib.hid (Trio.call HT.out hb4 rfl HT.out.below)
  clear HT hb4
  have HT := HTn
  clear HTn
  have y12 : w4.cell? ⟨w1.heap.size, 12, none⟩ = some (.int .i64 was.dies) := (cells_at HT.out.own 12).1
  have f12 : w4.frozen? ⟨w1.heap.size, 12, none⟩ = false := (cells_at HT.out.own 12).2
  go_upto_region 6 with fail
  clear y12 f12
  obtain ⟨W5, hW5⟩ : ∃ X, X = (w4.setCell ⟨w1.heap.size, 12, none⟩ (.int .i64 (diesE ep c.exp))) := ⟨_, rfl⟩
  have htW5 := (HT.out.set 12 (.int .i64 (diesE ep c.exp)))
  rw [← hW5] at htW5 ⊢
  simp only [List.setIfInBounds_toArray, List.set_cons_succ, List.set_cons_zero] at htW5
  have HT := Lib.hid htW5
  clear hW5 htW5
  go_wp2_with (first
    | ((with_reducible show wpList _ _ _ (⟨_, Op.load 84 _, _, _, _, _⟩ :: _) _ _); refine wpList_load_row (by rfl) 84 (.tmp 3) (by rfl) w1.heap.size (by rfl) 84 _ _ _ HT.out.own Tryz.underlying84 rfl (by kernel_rfl) ?_)
    | ((with_reducible show wpList _ _ _ (⟨none, Op.store 84 _ _, _, _, _, _⟩ :: _) _ _); refine wpList_store_whole (by rfl) 84 (.tmp 2) (.tmp 23) (by rfl) (w.heap.size + 1) (by rfl) #[.int .u8 7, .int .u64 0, .string ⟨#[]⟩, .string ⟨#[]⟩, .int .u32 0, .int .u64 0, .int .i64 0, .int .i64 0, .string was.key, .string was.value, .int .u32 was.flags, .int .u64 was.id, .int .i64 (diesE ep c.exp), .int .i64 was.gen, .bool true, .bool false, .bool false, .bool false, .int .u64 (ep : Int)] (by rfl) _ 84 HT.out.res (by rfl) (by kernel_rfl) (by simp [Value.oneCell']) ?_; intro w9 hr9 hg9 hs9)
    | ((with_reducible show bodyPost _ _ _ Exit.ret _ _); exact bodyPost_ret (v := .agg #[.int .u8 7, .int .u64 0, .string ⟨#[]⟩, .string ⟨#[]⟩, .int .u32 0, .int .u64 0, .int .i64 0, .int .i64 0, .string was.key, .string was.value, .int .u32 was.flags, .int .u64 was.id, .int .i64 (diesE ep c.exp), .int .i64 was.gen, .bool true, .bool false, .bool false, .bool false, .int .u64 (ep : Int)]) (results_row_one rfl _ _ (w.heap.size + 1) _ _ _ _ (by rfl) hr9 Tryz.underlying84 rfl (by kernel_rfl)) rfl ⟨rfl, HT.out.ret hg9⟩)
    | fail)
set_option maxRecDepth 100000 in
set_option maxHeartbeats 4000000 in
theorem flushes_no (fw : Nat) (he : ep < 18446744073709551616) (hf : flushE ep c.exp = (fw, false)) (w : World) : Calls Tryz.prog 80 #[.agg (askedCells c ep was has there next)] w fun e w' => e = .returned (.agg (givCells (saysG 5 ep))) ∧ Below w.heap.size w w' := by
  have HFL := Lib.hid (fun W => (show Calls Tryz.prog 102 #[.int .u64 (ep : Int), .int .i64 c.exp] W fun e w' => e = .returned (.tuple #[.int .u64 (fw : Int), .bool false]) ∧ Below W.heap.size W w' from by have h := flushEp_any ep c.exp he W; rw [hf] at h; exact h))
  clear he hf
  go_enter Tryz.func80, Tryz.ntmps80
  go_upto_region 1 with fail
  obtain ⟨W0, hW0⟩ : ∃ W0, W0 = (w.alloc (.cells #[.int .u8 c.verb, .string c.key, .string c.value, .int .u32 c.flags, .int .i64 c.exp, .int .u64 c.id, .int .u64 c.by', .int .u64 (ep : Int), .string was.key, .string was.value, .int .u32 was.flags, .int .u64 was.id, .int .i64 was.dies, .int .i64 was.gen, .bool has, .bool there, .int .u64 (next : Int)] 118)).alloc (.cells givZero 84) := ⟨_, rfl⟩
  have hd := Duo.start w (askedCells c ep was has there next) givZero
  rw [← hW0] at hd ⊢
  have HD := Lib.hid hd
  clear hW0 hd
  have k4 : W0.cell? ⟨w.heap.size, 4, none⟩ = some (.int .i64 c.exp) := (cells_at HD.out.box 4).1
  have k7 : W0.cell? ⟨w.heap.size, 7, none⟩ = some (.int .u64 (ep : Int)) := (cells_at HD.out.box 7).1
  go_wp2_with (first | ((with_reducible show wpList _ _ _ (⟨_, Op.load 118 _, _, _, _, _⟩ :: _) _ _); refine wpList_load_row (by rfl) 118 (.tmp 1) (by rfl) w.heap.size (by rfl) 118 _ _ _ HD.out.box Tryz.underlying118 rfl (by kernel_rfl) ?_) | fail)
  refine (HFL.out _).mono ?_
  rintro e w0 ⟨rfl, hb0⟩
  have HD0 := Lib.hid (HD.out.call hb0 rfl HD.out.below)
  clear HD hb0
  have HD := HD0
  clear HD0
  go_wp2_with (first | ((with_reducible show wpList _ _ _ (⟨_, Op.load 118 _, _, _, _, _⟩ :: _) _ _); refine wpList_load_row (by rfl) 118 (.tmp 1) (by rfl) w.heap.size (by rfl) 118 _ _ _ HD.out.box Tryz.underlying118 rfl (by kernel_rfl) ?_) | fail)
  refine (says_any c ep was has there next 5 _).mono ?_
  rintro e w1 ⟨rfl, hb1⟩
  have HD1 := Lib.hid (HD.out.call hb1 rfl HD.out.below)
  clear hb1
  go_wp2_with (first
    | ((with_reducible show wpList _ _ _ (⟨none, Op.store 84 _ _, _, _, _, _⟩ :: _) _ _); refine wpList_store_whole (by rfl) 84 (.tmp 2) (.tmp 18) (by rfl) (w.heap.size + 1) (by rfl) #[.int .u8 5, .int .u64 0, .string ⟨#[]⟩, .string ⟨#[]⟩, .int .u32 0, .int .u64 0, .int .i64 0, .int .i64 0, .string ⟨#[]⟩, .string ⟨#[]⟩, .int .u32 0, .int .u64 0, .int .i64 0, .int .i64 0, .bool false, .bool false, .bool false, .bool false, .int .u64 (ep : Int)] (by rfl) _ 84 HD1.out.res (by rfl) (by kernel_rfl) (by simp [Value.oneCell']) ?_; intro w3 hr3 hg3 hs3)
    | ((with_reducible show bodyPost _ _ _ Exit.ret _ _); exact bodyPost_ret (v := .agg #[.int .u8 5, .int .u64 0, .string ⟨#[]⟩, .string ⟨#[]⟩, .int .u32 0, .int .u64 0, .int .i64 0, .int .i64 0, .string ⟨#[]⟩, .string ⟨#[]⟩, .int .u32 0, .int .u64 0, .int .i64 0, .int .i64 0, .bool false, .bool false, .bool false, .bool false, .int .u64 (ep : Int)]) (results_row_one rfl _ _ (w.heap.size + 1) _ _ _ _ (by rfl) hr3 Tryz.underlying84 rfl (by kernel_rfl)) rfl ⟨rfl, HD1.out.ret hg3⟩)
    | fail)
set_option maxRecDepth 100000 in
set_option maxHeartbeats 4000000 in
theorem flushes_yes (fw : Nat) (he : ep < 18446744073709551616) (hf : flushE ep c.exp = (fw, true)) (w : World) : Calls Tryz.prog 80 #[.agg (askedCells c ep was has there next)] w fun e w' => e = .returned (.agg (givCells ((⟨⟨10, 0, noItem⟩, noItem, false, false, false, false, fw⟩ : GivD)))) ∧ Below w.heap.size w w' := by
  have HFL := Lib.hid (fun W => (show Calls Tryz.prog 102 #[.int .u64 (ep : Int), .int .i64 c.exp] W fun e w' => e = .returned (.tuple #[.int .u64 (fw : Int), .bool true]) ∧ Below W.heap.size W w' from by have h := flushEp_any ep c.exp he W; rw [hf] at h; exact h))
  clear he hf
  go_enter Tryz.func80, Tryz.ntmps80
  go_upto_region 1 with fail
  obtain ⟨W0, hW0⟩ : ∃ W0, W0 = (w.alloc (.cells #[.int .u8 c.verb, .string c.key, .string c.value, .int .u32 c.flags, .int .i64 c.exp, .int .u64 c.id, .int .u64 c.by', .int .u64 (ep : Int), .string was.key, .string was.value, .int .u32 was.flags, .int .u64 was.id, .int .i64 was.dies, .int .i64 was.gen, .bool has, .bool there, .int .u64 (next : Int)] 118)).alloc (.cells givZero 84) := ⟨_, rfl⟩
  have hd := Duo.start w (askedCells c ep was has there next) givZero
  rw [← hW0] at hd ⊢
  have HD := Lib.hid hd
  clear hW0 hd
  have k4 : W0.cell? ⟨w.heap.size, 4, none⟩ = some (.int .i64 c.exp) := (cells_at HD.out.box 4).1
  have k7 : W0.cell? ⟨w.heap.size, 7, none⟩ = some (.int .u64 (ep : Int)) := (cells_at HD.out.box 7).1
  go_wp2_with (first | ((with_reducible show wpList _ _ _ (⟨_, Op.load 118 _, _, _, _, _⟩ :: _) _ _); refine wpList_load_row (by rfl) 118 (.tmp 1) (by rfl) w.heap.size (by rfl) 118 _ _ _ HD.out.box Tryz.underlying118 rfl (by kernel_rfl) ?_) | fail)
  refine (HFL.out _).mono ?_
  rintro e w0 ⟨rfl, hb0⟩
  have HD0 := Lib.hid (HD.out.call hb0 rfl HD.out.below)
  clear HD hb0
  have HD := HD0
  clear HD0
  go_wp2_with (first | ((with_reducible show wpList _ _ _ (⟨_, Op.load 118 _, _, _, _, _⟩ :: _) _ _); refine wpList_load_row (by rfl) 118 (.tmp 1) (by rfl) w.heap.size (by rfl) 118 _ _ _ HD.out.box Tryz.underlying118 rfl (by kernel_rfl) ?_) | fail)
  refine (says_any c ep was has there next 10 _).mono ?_
  rintro e w1 ⟨rfl, hb1⟩
  have HD1 := Lib.hid (HD.out.call hb1 rfl HD.out.below)
  clear hb1
  go_upto_region 5 with (first | (((with_reducible show wpList _ _ _ (⟨none, Op.store 84 _ _, _, _, _, _⟩ :: _) _ _); refine wpList_store_whole (by rfl) 84 (.tmp 5) (.tmp 20) (by rfl) w1.heap.size (by rfl) #[.int .u8 10, .int .u64 0, .string ⟨#[]⟩, .string ⟨#[]⟩, .int .u32 0, .int .u64 0, .int .i64 0, .int .i64 0, .string ⟨#[]⟩, .string ⟨#[]⟩, .int .u32 0, .int .u64 0, .int .i64 0, .int .i64 0, .bool false, .bool false, .bool false, .bool false, .int .u64 (ep : Int)] (by rfl) _ 84 (heap_alloc_new _ _) (by rfl) (by kernel_rfl) (by simp [Value.oneCell']) ?_; intro w2 hr2 hg2 hs2); have HT := Lib.hid (HD1.out.lay _ hr2 hg2); clear hr2 hg2 hs2) | fail)
  have y18 : w2.cell? ⟨w1.heap.size, 18, none⟩ = some (.int .u64 (ep : Int)) := (cells_at HT.out.own 18).1
  have f18 : w2.frozen? ⟨w1.heap.size, 18, none⟩ = false := (cells_at HT.out.own 18).2
  go_upto_region 6 with fail
  clear y18 f18
  obtain ⟨W3, hW3⟩ : ∃ X, X = (w2.setCell ⟨w1.heap.size, 18, none⟩ (.int .u64 (fw : Int))) := ⟨_, rfl⟩
  have htW3 := (HT.out.set 18 (.int .u64 (fw : Int)))
  rw [← hW3] at htW3 ⊢
  simp only [List.setIfInBounds_toArray, List.set_cons_succ, List.set_cons_zero] at htW3
  have HT := Lib.hid htW3
  clear hW3 htW3
  go_wp2_with (first
    | ((with_reducible show wpList _ _ _ (⟨_, Op.load 84 _, _, _, _, _⟩ :: _) _ _); refine wpList_load_row (by rfl) 84 (.tmp 5) (by rfl) w1.heap.size (by rfl) 84 _ _ _ HT.out.own Tryz.underlying84 rfl (by kernel_rfl) ?_)
    | ((with_reducible show wpList _ _ _ (⟨none, Op.store 84 _ _, _, _, _, _⟩ :: _) _ _); refine wpList_store_whole (by rfl) 84 (.tmp 2) (.tmp 23) (by rfl) (w.heap.size + 1) (by rfl) #[.int .u8 10, .int .u64 0, .string ⟨#[]⟩, .string ⟨#[]⟩, .int .u32 0, .int .u64 0, .int .i64 0, .int .i64 0, .string ⟨#[]⟩, .string ⟨#[]⟩, .int .u32 0, .int .u64 0, .int .i64 0, .int .i64 0, .bool false, .bool false, .bool false, .bool false, .int .u64 (fw : Int)] (by rfl) _ 84 HT.out.res (by rfl) (by kernel_rfl) (by simp [Value.oneCell']) ?_; intro w9 hr9 hg9 hs9)
    | ((with_reducible show bodyPost _ _ _ Exit.ret _ _); exact bodyPost_ret (v := .agg #[.int .u8 10, .int .u64 0, .string ⟨#[]⟩, .string ⟨#[]⟩, .int .u32 0, .int .u64 0, .int .i64 0, .int .i64 0, .string ⟨#[]⟩, .string ⟨#[]⟩, .int .u32 0, .int .u64 0, .int .i64 0, .int .i64 0, .bool false, .bool false, .bool false, .bool false, .int .u64 (fw : Int)]) (results_row_one rfl _ _ (w.heap.size + 1) _ _ _ _ (by rfl) hr9 Tryz.underlying84 rfl (by kernel_rfl)) rfl ⟨rfl, HT.out.ret hg9⟩)
    | fail)
set_option maxRecDepth 100000 in
set_option maxHeartbeats 4000000 in
theorem incr_no (w : World) (pn : Nat) (pb : Bool) (hE : HasErr w) (hp : parseV (bs was.value) = .tuple #[.int .u64 (pn : Int), .bool pb]) : Calls Tryz.prog 76 #[.agg (askedCells c ep was has false next), .func (.func 77) #[] #[]] w fun e w' => e = .returned (.agg (givCells (saysG 4 ep))) ∧ Below w.heap.size w w' := by
  have HPA := Lib.hid (fun W (hW : Below w.heap.size w W) => (show Calls Tryz.prog 100 #[.string was.value] W fun e w' => e = .returned (.tuple #[.int .u64 (pn : Int), .bool pb]) ∧ Below W.heap.size W w' from by have h := parse_any was.value W (hE.below hW); rw [hp] at h; exact h))
  clear hE hp
  go_enter Tryz.func76, Tryz.ntmps76
  go_upto_region 1 with fail
  obtain ⟨W0, hW0⟩ : ∃ W0, W0 = (w.alloc (.cells #[.int .u8 c.verb, .string c.key, .string c.value, .int .u32 c.flags, .int .i64 c.exp, .int .u64 c.id, .int .u64 c.by', .int .u64 (ep : Int), .string was.key, .string was.value, .int .u32 was.flags, .int .u64 was.id, .int .i64 was.dies, .int .i64 was.gen, .bool has, .bool false, .int .u64 (next : Int)] 118)).alloc (.cells givZero 84) := ⟨_, rfl⟩
  have hd := Duo.start w (askedCells c ep was has false next) givZero
  rw [← hW0] at hd ⊢
  have HD := Lib.hid hd
  clear hW0 hd
  have k9 : W0.cell? ⟨w.heap.size, 9, none⟩ = some (.string was.value) := (cells_at HD.out.box 9).1
  have k15 : W0.cell? ⟨w.heap.size, 15, none⟩ = some (.bool false) := (cells_at HD.out.box 15).1
  go_wp2_with (first | ((with_reducible show wpList _ _ _ (⟨_, Op.load 118 _, _, _, _, _⟩ :: _) _ _); refine wpList_load_row (by rfl) 118 (.tmp 2) (by rfl) w.heap.size (by rfl) 118 _ _ _ HD.out.box Tryz.underlying118 rfl (by kernel_rfl) ?_) | fail)
  refine (HPA.out _ HD.out.below).mono ?_
  rintro e w0 ⟨rfl, hb0⟩
  have HD0 := Lib.hid (HD.out.call hb0 rfl HD.out.below)
  clear HD hb0 k9 k15
  have HD := HD0
  clear HD0
  have k15 : w0.cell? ⟨w.heap.size, 15, none⟩ = some (.bool false) := (cells_at HD.out.box 15).1
  go_wp2_with (first | ((with_reducible show wpList _ _ _ (⟨_, Op.load 118 _, _, _, _, _⟩ :: _) _ _); refine wpList_load_row (by rfl) 118 (.tmp 2) (by rfl) w.heap.size (by rfl) 118 _ _ _ HD.out.box Tryz.underlying118 rfl (by kernel_rfl) ?_) | fail)
  refine (says_any c ep was has false next 4 _).mono ?_
  rintro e w1 ⟨rfl, hb1⟩
  have HD1 := Lib.hid (HD.out.call hb1 rfl HD.out.below)
  clear hb1
  go_wp2_with (first
    | ((with_reducible show wpList _ _ _ (⟨none, Op.store 84 _ _, _, _, _, _⟩ :: _) _ _); refine wpList_store_whole (by rfl) 84 (.tmp 4) (.tmp 20) (by rfl) (w.heap.size + 1) (by rfl) #[.int .u8 4, .int .u64 0, .string ⟨#[]⟩, .string ⟨#[]⟩, .int .u32 0, .int .u64 0, .int .i64 0, .int .i64 0, .string ⟨#[]⟩, .string ⟨#[]⟩, .int .u32 0, .int .u64 0, .int .i64 0, .int .i64 0, .bool false, .bool false, .bool false, .bool false, .int .u64 (ep : Int)] (by rfl) _ 84 HD1.out.res (by rfl) (by kernel_rfl) (by simp [Value.oneCell']) ?_; intro w3 hr3 hg3 hs3)
    | ((with_reducible show bodyPost _ _ _ Exit.ret _ _); exact bodyPost_ret (v := .agg #[.int .u8 4, .int .u64 0, .string ⟨#[]⟩, .string ⟨#[]⟩, .int .u32 0, .int .u64 0, .int .i64 0, .int .i64 0, .string ⟨#[]⟩, .string ⟨#[]⟩, .int .u32 0, .int .u64 0, .int .i64 0, .int .i64 0, .bool false, .bool false, .bool false, .bool false, .int .u64 (ep : Int)]) (results_row_one rfl _ _ (w.heap.size + 1) _ _ _ _ (by rfl) hr3 Tryz.underlying84 rfl (by kernel_rfl)) rfl ⟨rfl, HD1.out.ret hg3⟩)
    | fail)
set_option maxRecDepth 100000 in
set_option maxHeartbeats 4000000 in
theorem incr_bad (w : World) (pn : Nat) (hE : HasErr w) (hp : parseV (bs was.value) = .tuple #[.int .u64 (pn : Int), .bool false]) : Calls Tryz.prog 76 #[.agg (askedCells c ep was has true next), .func (.func 77) #[] #[]] w fun e w' => e = .returned (.agg (givCells (saysG 9 ep))) ∧ Below w.heap.size w w' := by
  have HPA := Lib.hid (fun W (hW : Below w.heap.size w W) => (show Calls Tryz.prog 100 #[.string was.value] W fun e w' => e = .returned (.tuple #[.int .u64 (pn : Int), .bool false]) ∧ Below W.heap.size W w' from by have h := parse_any was.value W (hE.below hW); rw [hp] at h; exact h))
  clear hE hp
  go_enter Tryz.func76, Tryz.ntmps76
  go_upto_region 1 with fail
  obtain ⟨W0, hW0⟩ : ∃ W0, W0 = (w.alloc (.cells #[.int .u8 c.verb, .string c.key, .string c.value, .int .u32 c.flags, .int .i64 c.exp, .int .u64 c.id, .int .u64 c.by', .int .u64 (ep : Int), .string was.key, .string was.value, .int .u32 was.flags, .int .u64 was.id, .int .i64 was.dies, .int .i64 was.gen, .bool has, .bool true, .int .u64 (next : Int)] 118)).alloc (.cells givZero 84) := ⟨_, rfl⟩
  have hd := Duo.start w (askedCells c ep was has true next) givZero
  rw [← hW0] at hd ⊢
  have HD := Lib.hid hd
  clear hW0 hd
  have k9 : W0.cell? ⟨w.heap.size, 9, none⟩ = some (.string was.value) := (cells_at HD.out.box 9).1
  have k15 : W0.cell? ⟨w.heap.size, 15, none⟩ = some (.bool true) := (cells_at HD.out.box 15).1
  go_wp2_with (first | ((with_reducible show wpList _ _ _ (⟨_, Op.load 118 _, _, _, _, _⟩ :: _) _ _); refine wpList_load_row (by rfl) 118 (.tmp 2) (by rfl) w.heap.size (by rfl) 118 _ _ _ HD.out.box Tryz.underlying118 rfl (by kernel_rfl) ?_) | fail)
  refine (HPA.out _ HD.out.below).mono ?_
  rintro e w0 ⟨rfl, hb0⟩
  have HD0 := Lib.hid (HD.out.call hb0 rfl HD.out.below)
  clear HD hb0 k9 k15
  have HD := HD0
  clear HD0
  have k15 : w0.cell? ⟨w.heap.size, 15, none⟩ = some (.bool true) := (cells_at HD.out.box 15).1
  go_wp2_with (first | ((with_reducible show wpList _ _ _ (⟨_, Op.load 118 _, _, _, _, _⟩ :: _) _ _); refine wpList_load_row (by rfl) 118 (.tmp 2) (by rfl) w.heap.size (by rfl) 118 _ _ _ HD.out.box Tryz.underlying118 rfl (by kernel_rfl) ?_) | fail)
  refine (says_any c ep was has true next 9 _).mono ?_
  rintro e w1 ⟨rfl, hb1⟩
  have HD1 := Lib.hid (HD.out.call hb1 rfl HD.out.below)
  clear hb1
  go_wp2_with (first
    | ((with_reducible show wpList _ _ _ (⟨none, Op.store 84 _ _, _, _, _, _⟩ :: _) _ _); refine wpList_store_whole (by rfl) 84 (.tmp 4) (.tmp 25) (by rfl) (w.heap.size + 1) (by rfl) #[.int .u8 9, .int .u64 0, .string ⟨#[]⟩, .string ⟨#[]⟩, .int .u32 0, .int .u64 0, .int .i64 0, .int .i64 0, .string ⟨#[]⟩, .string ⟨#[]⟩, .int .u32 0, .int .u64 0, .int .i64 0, .int .i64 0, .bool false, .bool false, .bool false, .bool false, .int .u64 (ep : Int)] (by rfl) _ 84 HD1.out.res (by rfl) (by kernel_rfl) (by simp [Value.oneCell']) ?_; intro w3 hr3 hg3 hs3)
    | ((with_reducible show bodyPost _ _ _ Exit.ret _ _); exact bodyPost_ret (v := .agg #[.int .u8 9, .int .u64 0, .string ⟨#[]⟩, .string ⟨#[]⟩, .int .u32 0, .int .u64 0, .int .i64 0, .int .i64 0, .string ⟨#[]⟩, .string ⟨#[]⟩, .int .u32 0, .int .u64 0, .int .i64 0, .int .i64 0, .bool false, .bool false, .bool false, .bool false, .int .u64 (ep : Int)]) (results_row_one rfl _ _ (w.heap.size + 1) _ _ _ _ (by rfl) hr3 Tryz.underlying84 rfl (by kernel_rfl)) rfl ⟨rfl, HD1.out.ret hg3⟩)
    | fail)
set_option maxRecDepth 100000 in
set_option maxHeartbeats 4000000 in
theorem incr_yes (w : World) (pn : Nat) (v : Nat) (hE : HasErr w) (hp : parseV (bs was.value) = .tuple #[.int .u64 (pn : Int), .bool true]) (hP : HasPow w) (_hpn : pn < 18446744073709551616) (hvv : v < 18446744073709551616) (_hby : 0 ≤ c.by' ∧ c.by' ≤ 18446744073709551615) (hv : IntKind.u64.wrap ((pn : Int) + c.by') = (v : Int)) : Calls Tryz.prog 76 #[.agg (askedCells c ep was has true next), .func (.func 77) #[] #[]] w fun e w' => e = .returned (.agg (givCells (numberG v ep next was))) ∧ Below w.heap.size w w' := by
  have HBY := Lib.hid (fun W => (show Calls Tryz.prog 77 #[.int .u64 (pn : Int), .int .u64 c.by'] W fun e w' => e = .returned (.int .u64 (v : Int)) ∧ W = w' from by have h := incr_any (pn : Int) c.by' W; rw [hv] at h; exact h))
  obtain ⟨Dv, hDv⟩ : ∃ D : ByteArray, D = ⟨(Lib.decDigits v).toArray⟩ := ⟨_, rfl⟩
  have HTX := Lib.hid (fun W (hW : Below w.heap.size w W) => (show Calls Tryz.prog 101 #[.int .u64 (v : Int)] W fun e w' => e = .returned (.string Dv) ∧ Below W.heap.size W w' from by have h := text_any (v : Int) (by omega) (by omega) W (hP.below hW); rw [hDv]; exact h))
  have hres : numberG v ep next was = ⟨⟨8, v, noItem⟩, { was with id := next, value := Dv }, true, false, true, false, ep⟩ := by rw [hDv]; rfl
  rw [hres]
  clear hres hDv hv _hby _hpn hvv hP
  have HPA := Lib.hid (fun W (hW : Below w.heap.size w W) => (show Calls Tryz.prog 100 #[.string was.value] W fun e w' => e = .returned (.tuple #[.int .u64 (pn : Int), .bool true]) ∧ Below W.heap.size W w' from by have h := parse_any was.value W (hE.below hW); rw [hp] at h; exact h))
  clear hE hp
  go_enter Tryz.func76, Tryz.ntmps76
  go_upto_region 1 with fail
  obtain ⟨W0, hW0⟩ : ∃ W0, W0 = (w.alloc (.cells #[.int .u8 c.verb, .string c.key, .string c.value, .int .u32 c.flags, .int .i64 c.exp, .int .u64 c.id, .int .u64 c.by', .int .u64 (ep : Int), .string was.key, .string was.value, .int .u32 was.flags, .int .u64 was.id, .int .i64 was.dies, .int .i64 was.gen, .bool has, .bool true, .int .u64 (next : Int)] 118)).alloc (.cells givZero 84) := ⟨_, rfl⟩
  have hd := Duo.start w (askedCells c ep was has true next) givZero
  rw [← hW0] at hd ⊢
  have HD := Lib.hid hd
  clear hW0 hd
  have k9 : W0.cell? ⟨w.heap.size, 9, none⟩ = some (.string was.value) := (cells_at HD.out.box 9).1
  have k15 : W0.cell? ⟨w.heap.size, 15, none⟩ = some (.bool true) := (cells_at HD.out.box 15).1
  go_wp2_with (first | ((with_reducible show wpList _ _ _ (⟨_, Op.load 118 _, _, _, _, _⟩ :: _) _ _); refine wpList_load_row (by rfl) 118 (.tmp 2) (by rfl) w.heap.size (by rfl) 118 _ _ _ HD.out.box Tryz.underlying118 rfl (by kernel_rfl) ?_) | fail)
  refine (HPA.out _ HD.out.below).mono ?_
  rintro e w0 ⟨rfl, hb0⟩
  have HD0 := Lib.hid (HD.out.call hb0 rfl HD.out.below)
  clear HD hb0 k9 k15
  have HD := HD0
  clear HD0
  have k15 : w0.cell? ⟨w.heap.size, 15, none⟩ = some (.bool true) := (cells_at HD.out.box 15).1
  go_wp2_with (first | ((with_reducible show wpList _ _ _ (⟨_, Op.load 118 _, _, _, _, _⟩ :: _) _ _); refine wpList_load_row (by rfl) 118 (.tmp 2) (by rfl) w.heap.size (by rfl) 118 _ _ _ HD.out.box Tryz.underlying118 rfl (by kernel_rfl) ?_) | fail)
  refine (says_any c ep was has true next 8 _).mono ?_
  rintro e w1 ⟨rfl, hb1⟩
  have HD1 := Lib.hid (HD.out.call hb1 rfl HD.out.below)
  clear hb1
  go_upto_region 7 with (first | (((with_reducible show wpList _ _ _ (⟨none, Op.store 84 _ _, _, _, _, _⟩ :: _) _ _); refine wpList_store_whole (by rfl) 84 (.tmp 7) (.tmp 27) (by rfl) w1.heap.size (by rfl) #[.int .u8 8, .int .u64 0, .string ⟨#[]⟩, .string ⟨#[]⟩, .int .u32 0, .int .u64 0, .int .i64 0, .int .i64 0, .string ⟨#[]⟩, .string ⟨#[]⟩, .int .u32 0, .int .u64 0, .int .i64 0, .int .i64 0, .bool false, .bool false, .bool false, .bool false, .int .u64 (ep : Int)] (by rfl) _ 84 (heap_alloc_new _ _) (by rfl) (by kernel_rfl) (by simp [Value.oneCell']) ?_; intro w2 hr2 hg2 hs2); have HT := Lib.hid (HD1.out.lay _ hr2 hg2); clear hr2 hg2 hs2) | fail)
  have k6 : w2.cell? ⟨w.heap.size, 6, none⟩ = some (.int .u64 c.by') := (cells_at HT.out.box 6).1
  have y1 : w2.cell? ⟨w1.heap.size, 1, none⟩ = some (.int .u64 0) := (cells_at HT.out.own 1).1
  have f1 : w2.frozen? ⟨w1.heap.size, 1, none⟩ = false := (cells_at HT.out.own 1).2
  go_wp2_with fail
  refine (HBY.out _).mono ?_
  rintro e w4 ⟨rfl, rfl⟩
  go_upto_region 8 with fail
  clear k6
  clear y1 f1
  obtain ⟨W3, hW3⟩ : ∃ X, X = (w2.setCell ⟨w1.heap.size, 1, none⟩ (.int .u64 (v : Int))) := ⟨_, rfl⟩
  have htW3 := (HT.out.set 1 (.int .u64 (v : Int)))
  rw [← hW3] at htW3 ⊢
  simp only [List.setIfInBounds_toArray, List.set_cons_succ, List.set_cons_zero] at htW3
  have HT := Lib.hid htW3
  clear hW3 htW3
  have k8 : W3.cell? ⟨w.heap.size, 8, none⟩ = some (.string was.key) := (cells_at HT.out.box 8).1
  have k9 : W3.cell? ⟨w.heap.size, 9, none⟩ = some (.string was.value) := (cells_at HT.out.box 9).1
  have k10 : W3.cell? ⟨w.heap.size, 10, none⟩ = some (.int .u32 was.flags) := (cells_at HT.out.box 10).1
  have k11 : W3.cell? ⟨w.heap.size, 11, none⟩ = some (.int .u64 was.id) := (cells_at HT.out.box 11).1
  have k12 : W3.cell? ⟨w.heap.size, 12, none⟩ = some (.int .i64 was.dies) := (cells_at HT.out.box 12).1
  have k13 : W3.cell? ⟨w.heap.size, 13, none⟩ = some (.int .i64 was.gen) := (cells_at HT.out.box 13).1
  have y8 : W3.cell? ⟨w1.heap.size, 8, none⟩ = some (.string ⟨#[]⟩) := (cells_at HT.out.own 8).1
  have y9 : W3.cell? ⟨w1.heap.size, 9, none⟩ = some (.string ⟨#[]⟩) := (cells_at HT.out.own 9).1
  have y10 : W3.cell? ⟨w1.heap.size, 10, none⟩ = some (.int .u32 0) := (cells_at HT.out.own 10).1
  have y11 : W3.cell? ⟨w1.heap.size, 11, none⟩ = some (.int .u64 0) := (cells_at HT.out.own 11).1
  have y12 : W3.cell? ⟨w1.heap.size, 12, none⟩ = some (.int .i64 0) := (cells_at HT.out.own 12).1
  have y13 : W3.cell? ⟨w1.heap.size, 13, none⟩ = some (.int .i64 0) := (cells_at HT.out.own 13).1
  have y14 : W3.cell? ⟨w1.heap.size, 14, none⟩ = some (.bool false) := (cells_at HT.out.own 14).1
  have y16 : W3.cell? ⟨w1.heap.size, 16, none⟩ = some (.bool false) := (cells_at HT.out.own 16).1
  have f8 : W3.frozen? ⟨w1.heap.size, 8, none⟩ = false := (cells_at HT.out.own 8).2
  have f9 : W3.frozen? ⟨w1.heap.size, 9, none⟩ = false := (cells_at HT.out.own 9).2
  have f10 : W3.frozen? ⟨w1.heap.size, 10, none⟩ = false := (cells_at HT.out.own 10).2
  have f11 : W3.frozen? ⟨w1.heap.size, 11, none⟩ = false := (cells_at HT.out.own 11).2
  have f12 : W3.frozen? ⟨w1.heap.size, 12, none⟩ = false := (cells_at HT.out.own 12).2
  have f13 : W3.frozen? ⟨w1.heap.size, 13, none⟩ = false := (cells_at HT.out.own 13).2
  have f14 : W3.frozen? ⟨w1.heap.size, 14, none⟩ = false := (cells_at HT.out.own 14).2
  have f16 : W3.frozen? ⟨w1.heap.size, 16, none⟩ = false := (cells_at HT.out.own 16).2
  go_upto_region 9 with fail
  clear k8 k9 k10 k11 k12 k13
  clear y8 f8 y9 f9 y10 f10 y11 f11 y12 f12 y13 f13 y14 f14 y16 f16
  obtain ⟨W4, hW4⟩ : ∃ X, X = ((((((((W3.setCell ⟨w1.heap.size, 8, none⟩ (.string was.key)).setCell ⟨w1.heap.size, 9, none⟩ (.string was.value)).setCell ⟨w1.heap.size, 10, none⟩ (.int .u32 was.flags)).setCell ⟨w1.heap.size, 11, none⟩ (.int .u64 was.id)).setCell ⟨w1.heap.size, 12, none⟩ (.int .i64 was.dies)).setCell ⟨w1.heap.size, 13, none⟩ (.int .i64 was.gen)).setCell ⟨w1.heap.size, 14, none⟩ (.bool true)).setCell ⟨w1.heap.size, 16, none⟩ (.bool true)) := ⟨_, rfl⟩
  have htW4 := ((((((((HT.out.set 8 (.string was.key)).set 9 (.string was.value)).set 10 (.int .u32 was.flags)).set 11 (.int .u64 was.id)).set 12 (.int .i64 was.dies)).set 13 (.int .i64 was.gen)).set 14 (.bool true)).set 16 (.bool true))
  rw [← hW4] at htW4 ⊢
  simp only [List.setIfInBounds_toArray, List.set_cons_succ, List.set_cons_zero] at htW4
  have HT := Lib.hid htW4
  clear hW4 htW4
  go_cut [] (fun wx => Trio w w1.heap.size wx (askedCells c ep was has true next) givZero #[.int .u8 8, .int .u64 (v : Int), .string ⟨#[]⟩, .string ⟨#[]⟩, .int .u32 0, .int .u64 0, .int .i64 0, .int .i64 0, .string was.key, .string Dv, .int .u32 was.flags, .int .u64 (next : Int), .int .i64 was.dies, .int .i64 was.gen, .bool true, .bool false, .bool true, .bool false, .int .u64 (ep : Int)])
  case first =>
    have k16 : W4.cell? ⟨w.heap.size, 16, none⟩ = some (.int .u64 (next : Int)) := (cells_at HT.out.box 16).1
    have y1 : W4.cell? ⟨w1.heap.size, 1, none⟩ = some (.int .u64 (v : Int)) := (cells_at HT.out.own 1).1
    go_region_law (first
      | (refine stepC (by rfl) 101 #[.int .u64 (v : Int)] (by go_simp) (HTX.out _ (by first | exact HT.out.below | exact bdrew HT.out.below)) ?_; rintro e w5 ⟨rfl, hb5⟩; refine ⟨_, rfl, ?_⟩; have HTn := Lib.hid (Trio.call HT.out hb5 rfl (by first | exact HT.out.below | exact bdrew HT.out.below)); clear HT hb5; have HT := HTn; clear HTn; have k16 : w5.cell? ⟨w.heap.size, 16, none⟩ = some (.int .u64 (next : Int)) := (cells_at HT.out.box 16).1; have y9 : w5.cell? ⟨w1.heap.size, 9, none⟩ = some (.string was.value) := (cells_at HT.out.own 9).1; have y11 : w5.cell? ⟨w1.heap.size, 11, none⟩ = some (.int .u64 was.id) := (cells_at HT.out.own 11).1; have f9 : w5.frozen? ⟨w1.heap.size, 9, none⟩ = false := (cells_at HT.out.own 9).2; have f11 : w5.frozen? ⟨w1.heap.size, 11, none⟩ = false := (cells_at HT.out.own 11).2)
      | fail)
    all_goals
      go_wp2_with fail
      go_meet
      case rel =>
        first
          | (have h := (HT.out.set 11 (.int .u64 (next : Int))).set 9 (.string Dv)
             simp only [List.setIfInBounds_toArray, List.set_cons_succ, List.set_cons_zero] at h
             exact h)
  case rest =>
    have HT := Lib.hid hcut
    clear hcut
    go_wp2_with (first
      | ((with_reducible show wpList _ _ _ (⟨_, Op.load 84 _, _, _, _, _⟩ :: _) _ _); refine wpList_load_row (by rfl) 84 (.tmp 7) (by rfl) w1.heap.size (by rfl) 84 _ _ _ HT.out.own Tryz.underlying84 rfl (by kernel_rfl) ?_)
      | ((with_reducible show wpList _ _ _ (⟨none, Op.store 84 _ _, _, _, _, _⟩ :: _) _ _); refine wpList_store_whole (by rfl) 84 (.tmp 4) (.tmp 51) (by rfl) (w.heap.size + 1) (by rfl) #[.int .u8 8, .int .u64 (v : Int), .string ⟨#[]⟩, .string ⟨#[]⟩, .int .u32 0, .int .u64 0, .int .i64 0, .int .i64 0, .string was.key, .string Dv, .int .u32 was.flags, .int .u64 (next : Int), .int .i64 was.dies, .int .i64 was.gen, .bool true, .bool false, .bool true, .bool false, .int .u64 (ep : Int)] (by rfl) _ 84 HT.out.res (by rfl) (by kernel_rfl) (by simp [Value.oneCell']) ?_; intro w9 hr9 hg9 hs9)
      | ((with_reducible show bodyPost _ _ _ Exit.ret _ _); exact bodyPost_ret (v := .agg #[.int .u8 8, .int .u64 (v : Int), .string ⟨#[]⟩, .string ⟨#[]⟩, .int .u32 0, .int .u64 0, .int .i64 0, .int .i64 0, .string was.key, .string Dv, .int .u32 was.flags, .int .u64 (next : Int), .int .i64 was.dies, .int .i64 was.gen, .bool true, .bool false, .bool true, .bool false, .int .u64 (ep : Int)]) (results_row_one rfl _ _ (w.heap.size + 1) _ _ _ _ (by rfl) hr9 Tryz.underlying84 rfl (by kernel_rfl)) rfl ⟨rfl, HT.out.ret hg9⟩)
      | fail)
set_option maxRecDepth 100000 in
set_option maxHeartbeats 4000000 in
theorem incrV (g : GivD) (w : World) (hc : ∀ W, Below w.heap.size w W → Calls Tryz.prog 76 #[.agg (askedCells c ep was has there next), .func (.func 77) #[] #[]] W fun e w' => e = .returned (.agg (givCells g)) ∧ Below W.heap.size W w') : Calls Tryz.prog 75 #[.agg (askedCells c ep was has there next)] w fun e w' => e = .returned (.agg (givCells g)) ∧ Below w.heap.size w w' := by
  have HC := Lib.hid hc
  clear hc
  go_enter Tryz.func75, Tryz.ntmps75
  go_upto_region 1 with fail
  obtain ⟨W0, hW0⟩ : ∃ W0, W0 = (w.alloc (.cells #[.int .u8 c.verb, .string c.key, .string c.value, .int .u32 c.flags, .int .i64 c.exp, .int .u64 c.id, .int .u64 c.by', .int .u64 (ep : Int), .string was.key, .string was.value, .int .u32 was.flags, .int .u64 was.id, .int .i64 was.dies, .int .i64 was.gen, .bool has, .bool there, .int .u64 (next : Int)] 118)).alloc (.cells givZero 84) := ⟨_, rfl⟩
  have hd := Duo.start w (askedCells c ep was has there next) givZero
  rw [← hW0] at hd ⊢
  have HD := Lib.hid hd
  clear hW0 hd
  go_wp2_with (first | ((with_reducible show wpList _ _ _ (⟨_, Op.load 118 _, _, _, _, _⟩ :: _) _ _); refine wpList_load_row (by rfl) 118 (.tmp 1) (by rfl) w.heap.size (by rfl) 118 _ _ _ HD.out.box Tryz.underlying118 rfl (by kernel_rfl) ?_) | fail)
  refine (HC.out _ HD.out.below).mono ?_
  rintro e w1 ⟨rfl, hb1⟩
  have HD1 := Lib.hid (HD.out.call hb1 rfl HD.out.below)
  clear hb1
  go_wp2_with (first
    | ((with_reducible show wpList _ _ _ (⟨none, Op.store 84 _ _, _, _, _, _⟩ :: _) _ _); refine wpList_store_whole (by rfl) 84 (.tmp 2) (.tmp 4) (by rfl) (w.heap.size + 1) (by rfl) (givCells g) (by rfl) _ 84 HD1.out.res (by rfl) (by kernel_rfl) (by simp [Value.oneCell']) ?_; intro w3 hr3 hg3 hs3)
    | ((with_reducible show bodyPost _ _ _ Exit.ret _ _); exact bodyPost_ret (v := .agg (givCells g)) (results_row_one rfl _ _ (w.heap.size + 1) _ _ _ _ (by rfl) hr3 Tryz.underlying84 rfl (by kernel_rfl)) rfl ⟨rfl, HD1.out.ret hg3⟩)
    | fail)
set_option maxRecDepth 100000 in
set_option maxHeartbeats 4000000 in
theorem decr_no (w : World) (pn : Nat) (pb : Bool) (hE : HasErr w) (hp : parseV (bs was.value) = .tuple #[.int .u64 (pn : Int), .bool pb]) : Calls Tryz.prog 76 #[.agg (askedCells c ep was has false next), .func (.func 79) #[] #[]] w fun e w' => e = .returned (.agg (givCells (saysG 4 ep))) ∧ Below w.heap.size w w' := by
  have HPA := Lib.hid (fun W (hW : Below w.heap.size w W) => (show Calls Tryz.prog 100 #[.string was.value] W fun e w' => e = .returned (.tuple #[.int .u64 (pn : Int), .bool pb]) ∧ Below W.heap.size W w' from by have h := parse_any was.value W (hE.below hW); rw [hp] at h; exact h))
  clear hE hp
  go_enter Tryz.func76, Tryz.ntmps76
  go_upto_region 1 with fail
  obtain ⟨W0, hW0⟩ : ∃ W0, W0 = (w.alloc (.cells #[.int .u8 c.verb, .string c.key, .string c.value, .int .u32 c.flags, .int .i64 c.exp, .int .u64 c.id, .int .u64 c.by', .int .u64 (ep : Int), .string was.key, .string was.value, .int .u32 was.flags, .int .u64 was.id, .int .i64 was.dies, .int .i64 was.gen, .bool has, .bool false, .int .u64 (next : Int)] 118)).alloc (.cells givZero 84) := ⟨_, rfl⟩
  have hd := Duo.start w (askedCells c ep was has false next) givZero
  rw [← hW0] at hd ⊢
  have HD := Lib.hid hd
  clear hW0 hd
  have k9 : W0.cell? ⟨w.heap.size, 9, none⟩ = some (.string was.value) := (cells_at HD.out.box 9).1
  have k15 : W0.cell? ⟨w.heap.size, 15, none⟩ = some (.bool false) := (cells_at HD.out.box 15).1
  go_wp2_with (first | ((with_reducible show wpList _ _ _ (⟨_, Op.load 118 _, _, _, _, _⟩ :: _) _ _); refine wpList_load_row (by rfl) 118 (.tmp 2) (by rfl) w.heap.size (by rfl) 118 _ _ _ HD.out.box Tryz.underlying118 rfl (by kernel_rfl) ?_) | fail)
  refine (HPA.out _ HD.out.below).mono ?_
  rintro e w0 ⟨rfl, hb0⟩
  have HD0 := Lib.hid (HD.out.call hb0 rfl HD.out.below)
  clear HD hb0 k9 k15
  have HD := HD0
  clear HD0
  have k15 : w0.cell? ⟨w.heap.size, 15, none⟩ = some (.bool false) := (cells_at HD.out.box 15).1
  go_wp2_with (first | ((with_reducible show wpList _ _ _ (⟨_, Op.load 118 _, _, _, _, _⟩ :: _) _ _); refine wpList_load_row (by rfl) 118 (.tmp 2) (by rfl) w.heap.size (by rfl) 118 _ _ _ HD.out.box Tryz.underlying118 rfl (by kernel_rfl) ?_) | fail)
  refine (says_any c ep was has false next 4 _).mono ?_
  rintro e w1 ⟨rfl, hb1⟩
  have HD1 := Lib.hid (HD.out.call hb1 rfl HD.out.below)
  clear hb1
  go_wp2_with (first
    | ((with_reducible show wpList _ _ _ (⟨none, Op.store 84 _ _, _, _, _, _⟩ :: _) _ _); refine wpList_store_whole (by rfl) 84 (.tmp 4) (.tmp 20) (by rfl) (w.heap.size + 1) (by rfl) #[.int .u8 4, .int .u64 0, .string ⟨#[]⟩, .string ⟨#[]⟩, .int .u32 0, .int .u64 0, .int .i64 0, .int .i64 0, .string ⟨#[]⟩, .string ⟨#[]⟩, .int .u32 0, .int .u64 0, .int .i64 0, .int .i64 0, .bool false, .bool false, .bool false, .bool false, .int .u64 (ep : Int)] (by rfl) _ 84 HD1.out.res (by rfl) (by kernel_rfl) (by simp [Value.oneCell']) ?_; intro w3 hr3 hg3 hs3)
    | ((with_reducible show bodyPost _ _ _ Exit.ret _ _); exact bodyPost_ret (v := .agg #[.int .u8 4, .int .u64 0, .string ⟨#[]⟩, .string ⟨#[]⟩, .int .u32 0, .int .u64 0, .int .i64 0, .int .i64 0, .string ⟨#[]⟩, .string ⟨#[]⟩, .int .u32 0, .int .u64 0, .int .i64 0, .int .i64 0, .bool false, .bool false, .bool false, .bool false, .int .u64 (ep : Int)]) (results_row_one rfl _ _ (w.heap.size + 1) _ _ _ _ (by rfl) hr3 Tryz.underlying84 rfl (by kernel_rfl)) rfl ⟨rfl, HD1.out.ret hg3⟩)
    | fail)
set_option maxRecDepth 100000 in
set_option maxHeartbeats 4000000 in
theorem decr_bad (w : World) (pn : Nat) (hE : HasErr w) (hp : parseV (bs was.value) = .tuple #[.int .u64 (pn : Int), .bool false]) : Calls Tryz.prog 76 #[.agg (askedCells c ep was has true next), .func (.func 79) #[] #[]] w fun e w' => e = .returned (.agg (givCells (saysG 9 ep))) ∧ Below w.heap.size w w' := by
  have HPA := Lib.hid (fun W (hW : Below w.heap.size w W) => (show Calls Tryz.prog 100 #[.string was.value] W fun e w' => e = .returned (.tuple #[.int .u64 (pn : Int), .bool false]) ∧ Below W.heap.size W w' from by have h := parse_any was.value W (hE.below hW); rw [hp] at h; exact h))
  clear hE hp
  go_enter Tryz.func76, Tryz.ntmps76
  go_upto_region 1 with fail
  obtain ⟨W0, hW0⟩ : ∃ W0, W0 = (w.alloc (.cells #[.int .u8 c.verb, .string c.key, .string c.value, .int .u32 c.flags, .int .i64 c.exp, .int .u64 c.id, .int .u64 c.by', .int .u64 (ep : Int), .string was.key, .string was.value, .int .u32 was.flags, .int .u64 was.id, .int .i64 was.dies, .int .i64 was.gen, .bool has, .bool true, .int .u64 (next : Int)] 118)).alloc (.cells givZero 84) := ⟨_, rfl⟩
  have hd := Duo.start w (askedCells c ep was has true next) givZero
  rw [← hW0] at hd ⊢
  have HD := Lib.hid hd
  clear hW0 hd
  have k9 : W0.cell? ⟨w.heap.size, 9, none⟩ = some (.string was.value) := (cells_at HD.out.box 9).1
  have k15 : W0.cell? ⟨w.heap.size, 15, none⟩ = some (.bool true) := (cells_at HD.out.box 15).1
  go_wp2_with (first | ((with_reducible show wpList _ _ _ (⟨_, Op.load 118 _, _, _, _, _⟩ :: _) _ _); refine wpList_load_row (by rfl) 118 (.tmp 2) (by rfl) w.heap.size (by rfl) 118 _ _ _ HD.out.box Tryz.underlying118 rfl (by kernel_rfl) ?_) | fail)
  refine (HPA.out _ HD.out.below).mono ?_
  rintro e w0 ⟨rfl, hb0⟩
  have HD0 := Lib.hid (HD.out.call hb0 rfl HD.out.below)
  clear HD hb0 k9 k15
  have HD := HD0
  clear HD0
  have k15 : w0.cell? ⟨w.heap.size, 15, none⟩ = some (.bool true) := (cells_at HD.out.box 15).1
  go_wp2_with (first | ((with_reducible show wpList _ _ _ (⟨_, Op.load 118 _, _, _, _, _⟩ :: _) _ _); refine wpList_load_row (by rfl) 118 (.tmp 2) (by rfl) w.heap.size (by rfl) 118 _ _ _ HD.out.box Tryz.underlying118 rfl (by kernel_rfl) ?_) | fail)
  refine (says_any c ep was has true next 9 _).mono ?_
  rintro e w1 ⟨rfl, hb1⟩
  have HD1 := Lib.hid (HD.out.call hb1 rfl HD.out.below)
  clear hb1
  go_wp2_with (first
    | ((with_reducible show wpList _ _ _ (⟨none, Op.store 84 _ _, _, _, _, _⟩ :: _) _ _); refine wpList_store_whole (by rfl) 84 (.tmp 4) (.tmp 25) (by rfl) (w.heap.size + 1) (by rfl) #[.int .u8 9, .int .u64 0, .string ⟨#[]⟩, .string ⟨#[]⟩, .int .u32 0, .int .u64 0, .int .i64 0, .int .i64 0, .string ⟨#[]⟩, .string ⟨#[]⟩, .int .u32 0, .int .u64 0, .int .i64 0, .int .i64 0, .bool false, .bool false, .bool false, .bool false, .int .u64 (ep : Int)] (by rfl) _ 84 HD1.out.res (by rfl) (by kernel_rfl) (by simp [Value.oneCell']) ?_; intro w3 hr3 hg3 hs3)
    | ((with_reducible show bodyPost _ _ _ Exit.ret _ _); exact bodyPost_ret (v := .agg #[.int .u8 9, .int .u64 0, .string ⟨#[]⟩, .string ⟨#[]⟩, .int .u32 0, .int .u64 0, .int .i64 0, .int .i64 0, .string ⟨#[]⟩, .string ⟨#[]⟩, .int .u32 0, .int .u64 0, .int .i64 0, .int .i64 0, .bool false, .bool false, .bool false, .bool false, .int .u64 (ep : Int)]) (results_row_one rfl _ _ (w.heap.size + 1) _ _ _ _ (by rfl) hr3 Tryz.underlying84 rfl (by kernel_rfl)) rfl ⟨rfl, HD1.out.ret hg3⟩)
    | fail)
set_option maxRecDepth 100000 in
set_option maxHeartbeats 4000000 in
theorem decr_yes (w : World) (pn : Nat) (v : Nat) (hE : HasErr w) (hp : parseV (bs was.value) = .tuple #[.int .u64 (pn : Int), .bool true]) (hP : HasPow w) (hpn : pn < 18446744073709551616) (hvv : v < 18446744073709551616) (hby : 0 ≤ c.by' ∧ c.by' ≤ 18446744073709551615) (hv : decrN (pn : Int) c.by' = (v : Int)) : Calls Tryz.prog 76 #[.agg (askedCells c ep was has true next), .func (.func 79) #[] #[]] w fun e w' => e = .returned (.agg (givCells (numberG v ep next was))) ∧ Below w.heap.size w w' := by
  have HBY := Lib.hid (fun W => (show Calls Tryz.prog 79 #[.int .u64 (pn : Int), .int .u64 c.by'] W fun e w' => e = .returned (.int .u64 (v : Int)) ∧ W = w' from by have h := decr_any (pn : Int) c.by' W (by omega) (by omega) hby.1 (by omega); rw [hv] at h; exact h))
  obtain ⟨Dv, hDv⟩ : ∃ D : ByteArray, D = ⟨(Lib.decDigits v).toArray⟩ := ⟨_, rfl⟩
  have HTX := Lib.hid (fun W (hW : Below w.heap.size w W) => (show Calls Tryz.prog 101 #[.int .u64 (v : Int)] W fun e w' => e = .returned (.string Dv) ∧ Below W.heap.size W w' from by have h := text_any (v : Int) (by omega) (by omega) W (hP.below hW); rw [hDv]; exact h))
  have hres : numberG v ep next was = ⟨⟨8, v, noItem⟩, { was with id := next, value := Dv }, true, false, true, false, ep⟩ := by rw [hDv]; rfl
  rw [hres]
  clear hres hDv hv hby hpn hvv hP
  have HPA := Lib.hid (fun W (hW : Below w.heap.size w W) => (show Calls Tryz.prog 100 #[.string was.value] W fun e w' => e = .returned (.tuple #[.int .u64 (pn : Int), .bool true]) ∧ Below W.heap.size W w' from by have h := parse_any was.value W (hE.below hW); rw [hp] at h; exact h))
  clear hE hp
  go_enter Tryz.func76, Tryz.ntmps76
  go_upto_region 1 with fail
  obtain ⟨W0, hW0⟩ : ∃ W0, W0 = (w.alloc (.cells #[.int .u8 c.verb, .string c.key, .string c.value, .int .u32 c.flags, .int .i64 c.exp, .int .u64 c.id, .int .u64 c.by', .int .u64 (ep : Int), .string was.key, .string was.value, .int .u32 was.flags, .int .u64 was.id, .int .i64 was.dies, .int .i64 was.gen, .bool has, .bool true, .int .u64 (next : Int)] 118)).alloc (.cells givZero 84) := ⟨_, rfl⟩
  have hd := Duo.start w (askedCells c ep was has true next) givZero
  rw [← hW0] at hd ⊢
  have HD := Lib.hid hd
  clear hW0 hd
  have k9 : W0.cell? ⟨w.heap.size, 9, none⟩ = some (.string was.value) := (cells_at HD.out.box 9).1
  have k15 : W0.cell? ⟨w.heap.size, 15, none⟩ = some (.bool true) := (cells_at HD.out.box 15).1
  go_wp2_with (first | ((with_reducible show wpList _ _ _ (⟨_, Op.load 118 _, _, _, _, _⟩ :: _) _ _); refine wpList_load_row (by rfl) 118 (.tmp 2) (by rfl) w.heap.size (by rfl) 118 _ _ _ HD.out.box Tryz.underlying118 rfl (by kernel_rfl) ?_) | fail)
  refine (HPA.out _ HD.out.below).mono ?_
  rintro e w0 ⟨rfl, hb0⟩
  have HD0 := Lib.hid (HD.out.call hb0 rfl HD.out.below)
  clear HD hb0 k9 k15
  have HD := HD0
  clear HD0
  have k15 : w0.cell? ⟨w.heap.size, 15, none⟩ = some (.bool true) := (cells_at HD.out.box 15).1
  go_wp2_with (first | ((with_reducible show wpList _ _ _ (⟨_, Op.load 118 _, _, _, _, _⟩ :: _) _ _); refine wpList_load_row (by rfl) 118 (.tmp 2) (by rfl) w.heap.size (by rfl) 118 _ _ _ HD.out.box Tryz.underlying118 rfl (by kernel_rfl) ?_) | fail)
  refine (says_any c ep was has true next 8 _).mono ?_
  rintro e w1 ⟨rfl, hb1⟩
  have HD1 := Lib.hid (HD.out.call hb1 rfl HD.out.below)
  clear hb1
  go_upto_region 7 with (first | (((with_reducible show wpList _ _ _ (⟨none, Op.store 84 _ _, _, _, _, _⟩ :: _) _ _); refine wpList_store_whole (by rfl) 84 (.tmp 7) (.tmp 27) (by rfl) w1.heap.size (by rfl) #[.int .u8 8, .int .u64 0, .string ⟨#[]⟩, .string ⟨#[]⟩, .int .u32 0, .int .u64 0, .int .i64 0, .int .i64 0, .string ⟨#[]⟩, .string ⟨#[]⟩, .int .u32 0, .int .u64 0, .int .i64 0, .int .i64 0, .bool false, .bool false, .bool false, .bool false, .int .u64 (ep : Int)] (by rfl) _ 84 (heap_alloc_new _ _) (by rfl) (by kernel_rfl) (by simp [Value.oneCell']) ?_; intro w2 hr2 hg2 hs2); have HT := Lib.hid (HD1.out.lay _ hr2 hg2); clear hr2 hg2 hs2) | fail)
  have k6 : w2.cell? ⟨w.heap.size, 6, none⟩ = some (.int .u64 c.by') := (cells_at HT.out.box 6).1
  have y1 : w2.cell? ⟨w1.heap.size, 1, none⟩ = some (.int .u64 0) := (cells_at HT.out.own 1).1
  have f1 : w2.frozen? ⟨w1.heap.size, 1, none⟩ = false := (cells_at HT.out.own 1).2
  go_wp2_with fail
  refine (HBY.out _).mono ?_
  rintro e w4 ⟨rfl, rfl⟩
  go_upto_region 8 with fail
  clear k6
  clear y1 f1
  obtain ⟨W3, hW3⟩ : ∃ X, X = (w2.setCell ⟨w1.heap.size, 1, none⟩ (.int .u64 (v : Int))) := ⟨_, rfl⟩
  have htW3 := (HT.out.set 1 (.int .u64 (v : Int)))
  rw [← hW3] at htW3 ⊢
  simp only [List.setIfInBounds_toArray, List.set_cons_succ, List.set_cons_zero] at htW3
  have HT := Lib.hid htW3
  clear hW3 htW3
  have k8 : W3.cell? ⟨w.heap.size, 8, none⟩ = some (.string was.key) := (cells_at HT.out.box 8).1
  have k9 : W3.cell? ⟨w.heap.size, 9, none⟩ = some (.string was.value) := (cells_at HT.out.box 9).1
  have k10 : W3.cell? ⟨w.heap.size, 10, none⟩ = some (.int .u32 was.flags) := (cells_at HT.out.box 10).1
  have k11 : W3.cell? ⟨w.heap.size, 11, none⟩ = some (.int .u64 was.id) := (cells_at HT.out.box 11).1
  have k12 : W3.cell? ⟨w.heap.size, 12, none⟩ = some (.int .i64 was.dies) := (cells_at HT.out.box 12).1
  have k13 : W3.cell? ⟨w.heap.size, 13, none⟩ = some (.int .i64 was.gen) := (cells_at HT.out.box 13).1
  have y8 : W3.cell? ⟨w1.heap.size, 8, none⟩ = some (.string ⟨#[]⟩) := (cells_at HT.out.own 8).1
  have y9 : W3.cell? ⟨w1.heap.size, 9, none⟩ = some (.string ⟨#[]⟩) := (cells_at HT.out.own 9).1
  have y10 : W3.cell? ⟨w1.heap.size, 10, none⟩ = some (.int .u32 0) := (cells_at HT.out.own 10).1
  have y11 : W3.cell? ⟨w1.heap.size, 11, none⟩ = some (.int .u64 0) := (cells_at HT.out.own 11).1
  have y12 : W3.cell? ⟨w1.heap.size, 12, none⟩ = some (.int .i64 0) := (cells_at HT.out.own 12).1
  have y13 : W3.cell? ⟨w1.heap.size, 13, none⟩ = some (.int .i64 0) := (cells_at HT.out.own 13).1
  have y14 : W3.cell? ⟨w1.heap.size, 14, none⟩ = some (.bool false) := (cells_at HT.out.own 14).1
  have y16 : W3.cell? ⟨w1.heap.size, 16, none⟩ = some (.bool false) := (cells_at HT.out.own 16).1
  have f8 : W3.frozen? ⟨w1.heap.size, 8, none⟩ = false := (cells_at HT.out.own 8).2
  have f9 : W3.frozen? ⟨w1.heap.size, 9, none⟩ = false := (cells_at HT.out.own 9).2
  have f10 : W3.frozen? ⟨w1.heap.size, 10, none⟩ = false := (cells_at HT.out.own 10).2
  have f11 : W3.frozen? ⟨w1.heap.size, 11, none⟩ = false := (cells_at HT.out.own 11).2
  have f12 : W3.frozen? ⟨w1.heap.size, 12, none⟩ = false := (cells_at HT.out.own 12).2
  have f13 : W3.frozen? ⟨w1.heap.size, 13, none⟩ = false := (cells_at HT.out.own 13).2
  have f14 : W3.frozen? ⟨w1.heap.size, 14, none⟩ = false := (cells_at HT.out.own 14).2
  have f16 : W3.frozen? ⟨w1.heap.size, 16, none⟩ = false := (cells_at HT.out.own 16).2
  go_upto_region 9 with fail
  clear k8 k9 k10 k11 k12 k13
  clear y8 f8 y9 f9 y10 f10 y11 f11 y12 f12 y13 f13 y14 f14 y16 f16
  obtain ⟨W4, hW4⟩ : ∃ X, X = ((((((((W3.setCell ⟨w1.heap.size, 8, none⟩ (.string was.key)).setCell ⟨w1.heap.size, 9, none⟩ (.string was.value)).setCell ⟨w1.heap.size, 10, none⟩ (.int .u32 was.flags)).setCell ⟨w1.heap.size, 11, none⟩ (.int .u64 was.id)).setCell ⟨w1.heap.size, 12, none⟩ (.int .i64 was.dies)).setCell ⟨w1.heap.size, 13, none⟩ (.int .i64 was.gen)).setCell ⟨w1.heap.size, 14, none⟩ (.bool true)).setCell ⟨w1.heap.size, 16, none⟩ (.bool true)) := ⟨_, rfl⟩
  have htW4 := ((((((((HT.out.set 8 (.string was.key)).set 9 (.string was.value)).set 10 (.int .u32 was.flags)).set 11 (.int .u64 was.id)).set 12 (.int .i64 was.dies)).set 13 (.int .i64 was.gen)).set 14 (.bool true)).set 16 (.bool true))
  rw [← hW4] at htW4 ⊢
  simp only [List.setIfInBounds_toArray, List.set_cons_succ, List.set_cons_zero] at htW4
  have HT := Lib.hid htW4
  clear hW4 htW4
  go_cut [] (fun wx => Trio w w1.heap.size wx (askedCells c ep was has true next) givZero #[.int .u8 8, .int .u64 (v : Int), .string ⟨#[]⟩, .string ⟨#[]⟩, .int .u32 0, .int .u64 0, .int .i64 0, .int .i64 0, .string was.key, .string Dv, .int .u32 was.flags, .int .u64 (next : Int), .int .i64 was.dies, .int .i64 was.gen, .bool true, .bool false, .bool true, .bool false, .int .u64 (ep : Int)])
  case first =>
    have k16 : W4.cell? ⟨w.heap.size, 16, none⟩ = some (.int .u64 (next : Int)) := (cells_at HT.out.box 16).1
    have y1 : W4.cell? ⟨w1.heap.size, 1, none⟩ = some (.int .u64 (v : Int)) := (cells_at HT.out.own 1).1
    go_region_law (first
      | (refine stepC (by rfl) 101 #[.int .u64 (v : Int)] (by go_simp) (HTX.out _ (by first | exact HT.out.below | exact bdrew HT.out.below)) ?_; rintro e w5 ⟨rfl, hb5⟩; refine ⟨_, rfl, ?_⟩; have HTn := Lib.hid (Trio.call HT.out hb5 rfl (by first | exact HT.out.below | exact bdrew HT.out.below)); clear HT hb5; have HT := HTn; clear HTn; have k16 : w5.cell? ⟨w.heap.size, 16, none⟩ = some (.int .u64 (next : Int)) := (cells_at HT.out.box 16).1; have y9 : w5.cell? ⟨w1.heap.size, 9, none⟩ = some (.string was.value) := (cells_at HT.out.own 9).1; have y11 : w5.cell? ⟨w1.heap.size, 11, none⟩ = some (.int .u64 was.id) := (cells_at HT.out.own 11).1; have f9 : w5.frozen? ⟨w1.heap.size, 9, none⟩ = false := (cells_at HT.out.own 9).2; have f11 : w5.frozen? ⟨w1.heap.size, 11, none⟩ = false := (cells_at HT.out.own 11).2)
      | fail)
    all_goals
      go_wp2_with fail
      go_meet
      case rel =>
        first
          | (have h := (HT.out.set 11 (.int .u64 (next : Int))).set 9 (.string Dv)
             simp only [List.setIfInBounds_toArray, List.set_cons_succ, List.set_cons_zero] at h
             exact h)
  case rest =>
    have HT := Lib.hid hcut
    clear hcut
    go_wp2_with (first
      | ((with_reducible show wpList _ _ _ (⟨_, Op.load 84 _, _, _, _, _⟩ :: _) _ _); refine wpList_load_row (by rfl) 84 (.tmp 7) (by rfl) w1.heap.size (by rfl) 84 _ _ _ HT.out.own Tryz.underlying84 rfl (by kernel_rfl) ?_)
      | ((with_reducible show wpList _ _ _ (⟨none, Op.store 84 _ _, _, _, _, _⟩ :: _) _ _); refine wpList_store_whole (by rfl) 84 (.tmp 4) (.tmp 51) (by rfl) (w.heap.size + 1) (by rfl) #[.int .u8 8, .int .u64 (v : Int), .string ⟨#[]⟩, .string ⟨#[]⟩, .int .u32 0, .int .u64 0, .int .i64 0, .int .i64 0, .string was.key, .string Dv, .int .u32 was.flags, .int .u64 (next : Int), .int .i64 was.dies, .int .i64 was.gen, .bool true, .bool false, .bool true, .bool false, .int .u64 (ep : Int)] (by rfl) _ 84 HT.out.res (by rfl) (by kernel_rfl) (by simp [Value.oneCell']) ?_; intro w9 hr9 hg9 hs9)
      | ((with_reducible show bodyPost _ _ _ Exit.ret _ _); exact bodyPost_ret (v := .agg #[.int .u8 8, .int .u64 (v : Int), .string ⟨#[]⟩, .string ⟨#[]⟩, .int .u32 0, .int .u64 0, .int .i64 0, .int .i64 0, .string was.key, .string Dv, .int .u32 was.flags, .int .u64 (next : Int), .int .i64 was.dies, .int .i64 was.gen, .bool true, .bool false, .bool true, .bool false, .int .u64 (ep : Int)]) (results_row_one rfl _ _ (w.heap.size + 1) _ _ _ _ (by rfl) hr9 Tryz.underlying84 rfl (by kernel_rfl)) rfl ⟨rfl, HT.out.ret hg9⟩)
      | fail)
set_option maxRecDepth 100000 in
set_option maxHeartbeats 4000000 in
theorem decrV (g : GivD) (w : World) (hc : ∀ W, Below w.heap.size w W → Calls Tryz.prog 76 #[.agg (askedCells c ep was has there next), .func (.func 79) #[] #[]] W fun e w' => e = .returned (.agg (givCells g)) ∧ Below W.heap.size W w') : Calls Tryz.prog 78 #[.agg (askedCells c ep was has there next)] w fun e w' => e = .returned (.agg (givCells g)) ∧ Below w.heap.size w w' := by
  have HC := Lib.hid hc
  clear hc
  go_enter Tryz.func78, Tryz.ntmps78
  go_upto_region 1 with fail
  obtain ⟨W0, hW0⟩ : ∃ W0, W0 = (w.alloc (.cells #[.int .u8 c.verb, .string c.key, .string c.value, .int .u32 c.flags, .int .i64 c.exp, .int .u64 c.id, .int .u64 c.by', .int .u64 (ep : Int), .string was.key, .string was.value, .int .u32 was.flags, .int .u64 was.id, .int .i64 was.dies, .int .i64 was.gen, .bool has, .bool there, .int .u64 (next : Int)] 118)).alloc (.cells givZero 84) := ⟨_, rfl⟩
  have hd := Duo.start w (askedCells c ep was has there next) givZero
  rw [← hW0] at hd ⊢
  have HD := Lib.hid hd
  clear hW0 hd
  go_wp2_with (first | ((with_reducible show wpList _ _ _ (⟨_, Op.load 118 _, _, _, _, _⟩ :: _) _ _); refine wpList_load_row (by rfl) 118 (.tmp 1) (by rfl) w.heap.size (by rfl) 118 _ _ _ HD.out.box Tryz.underlying118 rfl (by kernel_rfl) ?_) | fail)
  refine (HC.out _ HD.out.below).mono ?_
  rintro e w1 ⟨rfl, hb1⟩
  have HD1 := Lib.hid (HD.out.call hb1 rfl HD.out.below)
  clear hb1
  go_wp2_with (first
    | ((with_reducible show wpList _ _ _ (⟨none, Op.store 84 _ _, _, _, _, _⟩ :: _) _ _); refine wpList_store_whole (by rfl) 84 (.tmp 2) (.tmp 4) (by rfl) (w.heap.size + 1) (by rfl) (givCells g) (by rfl) _ 84 HD1.out.res (by rfl) (by kernel_rfl) (by simp [Value.oneCell']) ?_; intro w3 hr3 hg3 hs3)
    | ((with_reducible show bodyPost _ _ _ Exit.ret _ _); exact bodyPost_ret (v := .agg (givCells g)) (results_row_one rfl _ _ (w.heap.size + 1) _ _ _ _ (by rfl) hr3 Tryz.underlying84 rfl (by kernel_rfl)) rfl ⟨rfl, HD1.out.ret hg3⟩)
    | fail)
end
end Go.Proofs.YtaooangnnlopcaaGreatDoor
