/- Entries of an order in memory; how two are compared. No condition. -/
import Derived.Test.YtaooangnnlopcaaDoorSortPlain
import Derived.Test.YtaooangnnlopcaaDoorShelf
import Derived.Test.YtaooangnnlopcaaDoorMapsVerbs
import Derived.Deep.MidRow
namespace Go.Proofs.YtaooangnnlopcaaDoor
open Go.RowKit Go.ChangeMaps Go.MapKept
abbrev entCells (e : EntD) : List Value := [.int .i64 e.step, .int .i64 e.call, .int .i64 e.drop]
/-- What comparing two entries answers: a number below 0 just if the one's step is less. -/
def CmpIs (a b : EntD) (e : Ending) : Prop := ∃ k : Int, e = .returned (.int .i64 k) ∧ (k < 0 ↔ a.step < b.step)
theorem compare_neg (x y : Int) : Lib.compareInt x y < 0 ↔ x < y := by
  unfold Lib.compareInt
  split
  · simp_all
  · split <;> simp_all
set_option maxRecDepth 100000 in
theorem order1_any (a b : EntD) (w : World) : Calls Tryd.prog 45 #[.agg #[.int .i64 a.step, .int .i64 a.call, .int .i64 a.drop], .agg #[.int .i64 b.step, .int .i64 b.call, .int .i64 b.drop]] w fun e w' => CmpIs a b e ∧ Below w.heap.size w w' := by
  have HC := Lib.hid (fun W => Tryd.cmp_Compare_int a.step b.step W)
  go_enter Tryd.func45, Tryd.ntmps45
  go_upto_region 1 with fail
  obtain ⟨W0, hW0⟩ : ∃ Y, Y = (w.alloc (.cells #[.int .i64 a.step, .int .i64 a.call, .int .i64 a.drop] 76)).alloc (.cells #[.int .i64 b.step, .int .i64 b.call, .int .i64 b.drop] 76) := ⟨_, rfl⟩
  have hb0 : Below w.heap.size w W0 := by rw [hW0]; exact below_two w _ _
  have hx0 : W0.heap[w.heap.size]? = some (.cells #[.int .i64 a.step, .int .i64 a.call, .int .i64 a.drop] 76 (0, 0)) := by rw [hW0]; exact (heap_two w _ _).1
  have hr0 : W0.heap[w.heap.size + 1]? = some (.cells #[.int .i64 b.step, .int .i64 b.call, .int .i64 b.drop] 76 (0, 0)) := by rw [hW0]; exact (heap_two w _ _).2
  rw [← hW0]
  have k0 : W0.cell? ⟨w.heap.size, 0, none⟩ = some (.int .i64 a.step) := (cells_at hx0 0).1
  have k1 : W0.cell? ⟨w.heap.size + 1, 0, none⟩ = some (.int .i64 b.step) := (cells_at hr0 0).1
  have HB := Lib.hid hb0
  clear hW0 hb0 hx0 hr0
  go_wp2_with fail
  refine (HC.out W0).mono ?_
  rintro e w1 ⟨rfl, rfl⟩
  go_wp2_with fail
  go_ret
  exact ⟨⟨_, rfl, compare_neg _ _⟩, HB.out⟩
theorem infoEnt : (Tryd.prog.info? 76).map (fun i => (i.zero, i.size, i.bytes)) = some (some (.agg #[.int .i64 0, .int .i64 0, .int .i64 0]), 3, 24) := by kernel_rfl
theorem idx_ent {a : Option Addr} {g o n c k : Nat} (ha : a = some ⟨g, o, none⟩) (hk : k < n) (W : World) : (Instr.indexAt 71 (.slice a n c) (.int .i64 (k : Int))).run Tryd.prog W = .ok (.pointer (some ⟨g, o + k * 3, none⟩)) W := by
  subst ha
  have h0 : (0 : Int) ≤ (k : Int) := by omega
  have h1 : (k : Int) < (n : Int) := by omega
  have h2 := Tryd.underlying71
  obtain ⟨i0, hi, hz0, hz1, hz2⟩ := info_parts infoEnt
  go_simp
/-- Entries that lie one behind the other, and may be written to. -/
structure EntAt (W : World) (g o : Nat) (l : List EntD) : Prop where
  at' : ∀ j x, l[j]? = some x → W.rangeAt g (o + j * 3) (entCells x)
  free : ∀ j, j < l.length → W.there g (o + j * 3) 3
theorem EntAt.put {W : World} {g o : Nat} {l : List EntD} (h : EntAt W g o l) {k : Nat} (hk : k < l.length) (x : EntD) : EntAt (W.setCells g (o + k * 3) (entCells x)) g o (l.set k x) := by
  refine ⟨fun j y hj => ?_, fun j hj => World.there_setCells (h.free j (by simpa using hj)) _ _ _⟩
  by_cases e : j = k
  · subst e
    rw [List.getElem?_set_self hk] at hj
    obtain rfl := Option.some.inj hj
    exact World.rangeAt_setCells_same _ _ _ _ (h.free j hk)
  · rw [List.getElem?_set_ne (fun e2 => e e2.symm)] at hj
    refine World.rangeAt_setCells_apart (h.at' j y hj) _ _ _ (.inr ?_)
    show o + j * 3 + 3 ≤ o + k * 3 ∨ o + k * 3 + 3 ≤ o + j * 3
    omega
/-- Two entries change places. -/
theorem EntAt.swap {W : World} {g o : Nat} {l1 l2 : List EntD} {x y : EntD} (h : EntAt W g o (l1 ++ x :: y :: l2)) : EntAt ((W.setCells g (o + (l1.length + 1) * 3) (entCells x)).setCells g (o + l1.length * 3) (entCells y)) g o (l1 ++ y :: x :: l2) := by
  have h1 := h.put (k := l1.length + 1) (by simp) x
  have h2 := h1.put (k := l1.length) (by simp) y
  rw [show ((l1 ++ x :: y :: l2).set (l1.length + 1) x).set l1.length y = l1 ++ y :: x :: l2 from by
    rw [List.set_append_right _ _ (by omega), show l1.length + 1 - l1.length = 1 from by omega, List.set_append_right _ _ (by omega), Nat.sub_self]
    rfl] at h2
  exact h2
theorem EntAt.kept {M : Nat → Prop} {W W' : World} {g o : Nat} {l : List EntD} (h : EntAt W g o l) (hc : Chg M W W') (hg : g < W.heap.size) (hM : ¬ M g) : EntAt W' g o l := by
  have hb := hc.block g hg hM
  refine ⟨fun j x hj i u hu => ?_, fun j hj i hi => ?_⟩
  · rw [World.cell?_of_block hb]
    exact h.at' j x hj i u hu
  · have h2 := h.free j hj i hi
    rw [World.cell?_of_block hb, World.frozen?_of_block hb]
    exact h2
end Go.Proofs.YtaooangnnlopcaaDoor
