/- A map behind a pointer: its record of a key, how many there are, its epoch and last Id. No condition. -/
import Derived.Test.YtaooangnnlopcaaGreatDoorMapsVerbs
namespace Go.Proofs.YtaooangnnlopcaaGreatDoor
open Go.RowKit Go.ChangeMaps Go.MapKept

/-- At p lies this map. -/
def MapAt (w : World) (p : Nat) (m : MapM) : Prop := ∃ mb : Option Nat, w.heap[p]? = some (.cells #[.map mb, .int .u64 (m.epoch : Int), .int .u64 (m.ids : Int)] 57 (0, 0)) ∧ (mb = none ∧ m.L = [] ∨ ∃ b, mb = some b ∧ MapObj w b m.L)
abbrev itemZero : Array Value := #[.string ⟨#[]⟩, .string ⟨#[]⟩, .int .u32 0, .int .u64 0, .int .i64 0, .int .i64 0]
section
variable {w w' W W' : World} {p : Nat} {m : MapM}
theorem MapAt.kept {M : Nat → Prop} (h : MapAt w p m) (hc : Chg M w w') (hp : ¬ M p) (hM : ∀ b, (∃ es clock, w.heap[b]? = some (.map es clock)) → ¬ M b) : MapAt w' p m := by
  obtain ⟨mb, hb, h⟩ := h
  refine ⟨mb, hc.obj hb hp, h.imp id ?_⟩
  rintro ⟨b, rfl, ho⟩
  obtain ⟨es, clock, E, h1, h2⟩ := ho
  exact ⟨b, rfl, es, clock, E, hc.obj h1 (hM b ⟨es, clock, h1⟩), h2⟩
theorem MapAt.below (h : MapAt w p m) (hb : Below w.heap.size w w') : MapAt w' p m := h.kept (M := fun _ => False) (Chg.of_below hb) (fun e => e) (fun _ _ e => e)
theorem MapAt.lt (h : MapAt w p m) : p < w.heap.size := by
  obtain ⟨mb, hb, -⟩ := h
  exact (Array.getElem?_eq_some_iff.1 hb).1
theorem MapAt.drew (h : MapAt w p m) : MapAt w.drew p m := h
/-- The look-up of a key. -/
theorem MapAt.look (h : MapAt w p m) {mb : Option Nat} (hmb : w.cell? ⟨p, 0, none⟩ = some (.map mb)) {k : ByteArray} (hk : k.size ≤ maxLen) : (Instr.lookup 55 (.map mb) (.string k) true).run Tryz.prog w = .ok (.tuple #[(wasL m.L k).val, .bool (atL m.L k).isSome]) w := by
  obtain ⟨mb', hb, h⟩ := h
  obtain rfl : mb' = mb := by
    rw [(cells_at hb 0).1] at hmb
    simpa using hmb
  rcases h with ⟨rfl, hL⟩ | ⟨b, rfl, ho⟩
  · rw [hL]
    exact look_no hk w
  · exact ho.look hk
theorem MapAt.cells (h : MapAt w p m) : ∃ mb, w.cell? ⟨p, 0, none⟩ = some (.map mb) ∧ w.cell? ⟨p, 1, none⟩ = some (.int .u64 (m.epoch : Int)) ∧ w.cell? ⟨p, 2, none⟩ = some (.int .u64 (m.ids : Int)) := by
  obtain ⟨mb, hb, h⟩ := h
  exact ⟨mb, (cells_at hb 0).1, (cells_at hb 1).1, (cells_at hb 2).1⟩
theorem grown_below {B : Nat} {a b c : World} {r : Option Nat} (h : Below B a b) (hB : B ≤ b.heap.size) (hg : b.grownBy c r) (hr : ∀ k, r = some k → B ≤ k) : Below B a c :=
  ⟨hg.os.trans h.os, hg.tape.trans h.tape, hg.output.trans h.output, Nat.le_trans h.size hg.size, fun k hk => (hg.block k (Nat.lt_of_lt_of_le hk hB) (by intro e; have := hr k e.symm; omega)).trans (h.block k hk)⟩
set_option maxRecDepth 100000 in
set_option maxHeartbeats 4000000 in
theorem mapsAt_any {k : ByteArray} (h : MapAt w p m) (hk : k.size ≤ maxLen) : Calls Tryz.prog 17 #[.pointer (some ⟨p, 0, none⟩), .string k] w fun e w' => e = .returned (.tuple #[(wasL m.L k).val, .bool (atL m.L k).isSome]) ∧ Below w.heap.size w w' := by
  go_enter Tryz.func17, Tryz.ntmps17
  go_upto_region 3 with fail
  obtain ⟨W0, hW0⟩ : ∃ X, X = w.alloc (.cells itemZero 38) := ⟨_, rfl⟩
  have hb0 : Below w.heap.size w W0 := by rw [hW0]; exact (Below.refl _ _).alloc (Nat.le_refl _) _
  have hr0 : W0.heap[w.heap.size]? = some (.cells itemZero 38 (0, 0)) := by rw [hW0, heap_at, if_pos rfl]
  rw [← hW0]
  have h0 := h.below hb0
  obtain ⟨mb, c0, -, -⟩ := h0.cells
  have hl := h0.look c0 hk
  obtain ⟨x, hx⟩ : ∃ x, x = wasL m.L k := ⟨_, rfl⟩
  obtain ⟨has, hh⟩ : ∃ b, b = (atL m.L k).isSome := ⟨_, rfl⟩
  rw [← hx, ← hh] at hl
  have HX := Lib.hid hx
  have HH := Lib.hid hh
  have hlt : w.heap.size < W0.heap.size := (Array.getElem?_eq_some_iff.1 hr0).1
  have HB0 := Lib.hid hb0
  have HR0 := Lib.hid hr0
  clear hW0 hb0 hr0 h0 h hk hx hh
  go_upto_region 4 with (first
    | ((with_reducible show wpList _ _ _ (⟨none, Op.store _ _ _, _, _, _, _⟩ :: _) _ _); refine wpList_store_whole (by rfl) 38 (.tmp 6) (.tmp 18) (by rfl) W0.heap.size (by rfl) #[.string x.key, .string x.value, .int .u32 x.flags, .int .u64 x.id, .int .i64 x.dies, .int .i64 x.gen] (by rfl) _ 38 (heap_alloc_new _ _) (by rfl) (by kernel_rfl) (by simp [Value.oneCell']) ?_; intro w2 hr2 hg2 hs2; have HR2 := Lib.hid hr2; have HG2 := Lib.hid hg2; clear hr2 hg2 hs2)
    | fail)
  have HRR := Lib.hid (show w2.heap[w.heap.size]? = some (.cells itemZero 38 (0, 0)) from by rw [HG2.out.block _ (by rw [size_at]; omega) (by simp; omega), heap_at, if_neg (by omega)]; exact HR0.out)
  have HB2 := Lib.hid (show Below w.heap.size w w2 from grown_below (HB0.out.alloc (Nat.le_of_lt hlt) _) (by rw [size_at]; omega) HG2.out (fun k hk => by cases hk; omega))
  clear c0 hl
  go_wp2_with (first
    | ((with_reducible show wpList _ _ _ (⟨_, Op.load _ _, _, _, _, _⟩ :: _) _ _); refine wpList_load_row (by rfl) 38 (.tmp 6) (by rfl) W0.heap.size (by rfl) 38 _ _ _ HR2.out Tryz.underlying38 rfl (by kernel_rfl) ?_)
    | ((with_reducible show wpList _ _ _ (⟨none, Op.store _ _ _, _, _, _, _⟩ :: _) _ _); refine wpList_store_whole (by rfl) 38 (.tmp 4) (.tmp 20) (by rfl) w.heap.size (by rfl) #[.string x.key, .string x.value, .int .u32 x.flags, .int .u64 x.id, .int .i64 x.dies, .int .i64 x.gen] (by rfl) _ 38 HRR.out (by rfl) (by kernel_rfl) (by simp [Value.oneCell']) ?_; intro w3 hr3 hg3 hs3)
    | ((with_reducible show bodyPost _ _ _ Exit.ret _ _); exact bodyPost_ret (v := .tuple #[x.val, .bool has]) (results_row_tmp rfl _ _ w.heap.size _ _ _ _ (by rfl) hr3 Tryz.underlying38 rfl (by kernel_rfl) _ (by rfl)) rfl ⟨(by rw [HX.out, HH.out]), grown_below HB2.out HB2.out.size hg3 (fun k hk => by cases hk; exact Nat.le_refl _)⟩)
    | fail)
theorem mapsEpoch_any (h : MapAt w p m) : Calls Tryz.prog 20 #[.pointer (some ⟨p, 0, none⟩)] w fun e w' => e = .returned (.int .u64 (m.epoch : Int)) ∧ w = w' := by
  obtain ⟨mb, -, c1, -⟩ := h.cells
  clear h
  go_enter Tryz.func20, Tryz.ntmps20
  go_wp2_with fail
  go_ret
  exact ⟨rfl, rfl⟩
theorem mapsIds_any (h : MapAt w p m) : Calls Tryz.prog 21 #[.pointer (some ⟨p, 0, none⟩)] w fun e w' => e = .returned (.int .u64 (m.ids : Int)) ∧ w = w' := by
  obtain ⟨mb, -, -, c2⟩ := h.cells
  clear h
  go_enter Tryz.func21, Tryz.ntmps21
  go_wp2_with fail
  go_ret
  exact ⟨rfl, rfl⟩
theorem MapAt.len (h : MapAt w p m) {mb : Option Nat} (hmb : w.cell? ⟨p, 0, none⟩ = some (.map mb)) (ty : TypeId) : (Builtin.len_ #[55] ty #[.map mb]).run Tryz.prog w = .ok (.int .i64 (m.L.length : Int)) w := by
  obtain ⟨mb', hb, h⟩ := h
  obtain rfl : mb' = mb := by
    rw [(cells_at hb 0).1] at hmb
    simpa using hmb
  rcases h with ⟨rfl, hL⟩ | ⟨b, rfl, ho⟩
  · rw [hL]
    simp [Builtin.len_, run_underlying Tryz.underlying55, goInt]
  · exact ho.len ty
theorem mapsCount_any (h : MapAt w p m) : Calls Tryz.prog 19 #[.pointer (some ⟨p, 0, none⟩)] w fun e w' => e = .returned (.int .i64 (m.L.length : Int)) ∧ w = w' := by
  obtain ⟨mb, c0, -, -⟩ := h.cells
  have hl := h.len c0
  clear h
  go_enter Tryz.func19, Tryz.ntmps19
  go_wp2_with fail
  go_ret
  exact ⟨rfl, rfl⟩
end
end Go.Proofs.YtaooangnnlopcaaGreatDoor
