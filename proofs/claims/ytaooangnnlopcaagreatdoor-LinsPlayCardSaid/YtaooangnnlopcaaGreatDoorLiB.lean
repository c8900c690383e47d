/- Entries of an order in memory; how two are compared. No condition. A region that draws its order and whose last operations are stores that hit what it has read: reads are taken first while the store (number k) has not come up. No condition. Plain: runs of entries that are merged, blocks of runs. No program in sight. -/
import Derived.Test.YtaooangnnlopcaaGreatDoorLiA
import Derived.Test.YtaooangnnlopcaaGreatDoorShelf
import Derived.Test.YtaooangnnlopcaaGreatDoorMapsVerbs
import Derived.Deep.MidRow
import Derived.Test.YtaooangnnlopcaaGreatDoorLowA
import Derived.OrdersHeld
import Derived.Deep.RegionHeld
namespace Go.Proofs.YtaooangnnlopcaaGreatDoor
open Go.RowKit Go.ChangeMaps Go.MapKept
abbrev entCells (e : EntD) : List Value := [.int .i64 e.step, .int .i64 e.call, .int .i64 e.drop]
/-- What comparing two entries answers: a number below 0 just if the one's step is less. -/
def CmpIs (a b : EntD) (e : Ending) : Prop := ∃ k : Int, e = .returned (.int .i64 k) ∧ (k < 0 ↔ a.step < b.step)
theorem compare_neg (x y : Int) : Lib.compareInt x y < 0 ↔ x < y := by
  unfold Lib.compareInt
  split
  · simp_all
  · split <;> simp_all
set_option maxRecDepth 100000 in
theorem order1_any (a b : EntD) (w : World) : Calls Tryz.prog 60 #[.agg #[.int .i64 a.step, .int .i64 a.call, .int .i64 a.drop], .agg #[.int .i64 b.step, .int .i64 b.call, .int .i64 b.drop]] w fun e w' => CmpIs a b e ∧ Below w.heap.size w w' := by
  have HC := Lib.hid (fun W => Tryz.cmp_Compare_int a.step b.step W)
  go_enter Tryz.func60, Tryz.ntmps60
  go_upto_region 1 with fail
  obtain ⟨W0, hW0⟩ : ∃ Y, Y = (w.alloc (.cells #[.int .i64 a.step, .int .i64 a.call, .int .i64 a.drop] 108)).alloc (.cells #[.int .i64 b.step, .int .i64 b.call, .int .i64 b.drop] 108) := ⟨_, rfl⟩
  have hb0 : Below w.heap.size w W0 := by rw [hW0]; exact below_two w _ _
  have hx0 : W0.heap[w.heap.size]? = some (.cells #[.int .i64 a.step, .int .i64 a.call, .int .i64 a.drop] 108 (0, 0)) := by rw [hW0]; exact (heap_two w _ _).1
  have hr0 : W0.heap[w.heap.size + 1]? = some (.cells #[.int .i64 b.step, .int .i64 b.call, .int .i64 b.drop] 108 (0, 0)) := by rw [hW0]; exact (heap_two w _ _).2
  rw [← hW0]
  have k0 : W0.cell? ⟨w.heap.size, 0, none⟩ = some (.int .i64 a.step) := (cells_at hx0 0).1
  have k1 : W0.cell? ⟨w.heap.size + 1, 0, none⟩ = some (.int .i64 b.step) := (cells_at hr0 0).1
  have HB := Lib.hid hb0
  clear hW0 hb0 hx0 hr0
  go_wp2_with fail
  refine (HC.out W0).mono ?_
  rintro e w1 ⟨rfl, rfl⟩
  go_wp2_with fail
  go_ret
  exact ⟨⟨_, rfl, compare_neg _ _⟩, HB.out⟩
theorem infoEnt : (Tryz.prog.info? 108).map (fun i => (i.zero, i.size, i.bytes)) = some (some (.agg #[.int .i64 0, .int .i64 0, .int .i64 0]), 3, 24) := by kernel_rfl
theorem idx_ent {a : Option Addr} {g o n c k : Nat} (ha : a = some ⟨g, o, none⟩) (hk : k < n) (W : World) : (Instr.indexAt 106 (.slice a n c) (.int .i64 (k : Int))).run Tryz.prog W = .ok (.pointer (some ⟨g, o + k * 3, none⟩)) W := by
  subst ha
  have h0 : (0 : Int) ≤ (k : Int) := by omega
  have h1 : (k : Int) < (n : Int) := by omega
  have h2 := Tryz.underlying106
  obtain ⟨i0, hi, hz0, hz1, hz2⟩ := info_parts infoEnt
  go_simp
/-- Entries that lie one behind the other, and may be written to. -/
structure EntAt (W : World) (g o : Nat) (l : List EntD) : Prop where
  at' : ∀ j x, l[j]? = some x → W.rangeAt g (o + j * 3) (entCells x)
  free : ∀ j, j < l.length → W.there g (o + j * 3) 3
theorem EntAt.put {W : World} {g o : Nat} {l : List EntD} (h : EntAt W g o l) {k : Nat} (hk : k < l.length) (x : EntD) : EntAt (W.setCells g (o + k * 3) (entCells x)) g o (l.set k x) := by
  refine ⟨fun j y hj => ?_, fun j hj => World.there_setCells (h.free j (by simpa using hj)) _ _ _⟩
  by_cases e : j = k
  · subst e
    rw [List.getElem?_set_self hk] at hj
    obtain rfl := Option.some.inj hj
    exact World.rangeAt_setCells_same _ _ _ _ (h.free j hk)
  · rw [List.getElem?_set_ne (fun e2 => e e2.symm)] at hj
    refine World.rangeAt_setCells_apart (h.at' j y hj) _ _ _ (.inr ?_)
    show o + j * 3 + 3 ≤ o + k * 3 ∨ o + k * 3 + 3 ≤ o + j * 3
    omega
/-- Two entries change places. -/
theorem EntAt.swap {W : World} {g o : Nat} {l1 l2 : List EntD} {x y : EntD} (h : EntAt W g o (l1 ++ x :: y :: l2)) : EntAt ((W.setCells g (o + (l1.length + 1) * 3) (entCells x)).setCells g (o + l1.length * 3) (entCells y)) g o (l1 ++ y :: x :: l2) := by
  have h1 := h.put (k := l1.length + 1) (by simp) x
  have h2 := h1.put (k := l1.length) (by simp) y
  rw [show ((l1 ++ x :: y :: l2).set (l1.length + 1) x).set l1.length y = l1 ++ y :: x :: l2 from by
    rw [List.set_append_right _ _ (by omega), show l1.length + 1 - l1.length = 1 from by omega, List.set_append_right _ _ (by omega), Nat.sub_self]
    rfl] at h2
  exact h2
theorem EntAt.kept {M : Nat → Prop} {W W' : World} {g o : Nat} {l : List EntD} (h : EntAt W g o l) (hc : Chg M W W') (hg : g < W.heap.size) (hM : ¬ M g) : EntAt W' g o l := by
  have hb := hc.block g hg hM
  refine ⟨fun j x hj i u hu => ?_, fun j hj i hi => ?_⟩
  · rw [World.cell?_of_block hb]
    exact h.at' j x hj i u hu
  · have h2 := h.free j hj i hi
    rw [World.cell?_of_block hb, World.frozen?_of_block hb]
    exact h2
end Go.Proofs.YtaooangnnlopcaaGreatDoor
namespace Go.Proofs.YtaooangnnlopcaaGreatDoor
open Go Go.RowKit
section
variable {P : Program} {ops : Array Oper} {Q : Exit → Act → World → Prop} {md : Region.Mode} {S S' : World → Prop} {k : Nat}
theorem set_listed {l : Array Bool} {j : Nat} (h : l.getD j true = false) : (l.setIfInBounds j true).getD j true = true := by
  rcases Nat.lt_or_ge j l.size with h' | h'
  · simp [h']
  · simp [Array.getElem?_eq_none h'] at h
/-- In whatever order; S holds till number k has come up. -/
def Late (P : Program) (md : Region.Mode) (ops : Array Oper) (Q : Exit → Act → World → Prop) (k : Nat) (S : World → Prop) : Nat → Array Bool → Act → World → Prop
  | 0, l, a, w => Region.ready md ops l = [] ∧ Q .normal a w
  | m + 1, l, a, w => (Region.ready md ops l = [] → Q .normal a w) ∧
    ∀ i ∈ Region.ready md ops l, wpOp P ops Q i (fun a' w' => (l.getD k true = false → i ≠ k → S w') ∧ Late P md ops Q k S m (l.setIfInBounds i true) a' w') a w
theorem late_any : ∀ (m : Nat) (l : Array Bool) (a : Act) (w : World), Late P md ops Q k S m l a w → wpAny P md ops Q m l a w
  | 0, _, _, _, h => h
  | m + 1, _, _, _, h => ⟨h.1, fun i hi => wpOp_mono (fun a' w' h' => late_any m _ a' w' h'.2) (h.2 i hi)⟩
theorem late_first {i : Nat} {oi : Oper} {v : Value} (hi : ops[i]? = some oi) (hsel : ∀ (j : Nat) (o : Oper) cs b, ops[j]? = some o → o.op ≠ .select cs b)
    (hQ : ∀ c a w, Q (.panic c) (a.put oi.dst v) w → Q (.panic c) a w) (hik : i ≠ k) (hS' : (∀ w, S' w) ∨ (∀ w, S w → S' w) ∧ ∃ ok, ops[k]? = some ok ∧ ∃ e ∈ ok.after, Region.binds md e = true ∧ e.on = i) :
    ∀ (m : Nat) (l : Array Bool) (a : Act) (w : World),
      (∀ j oj, ops[j]? = some oj → j ≠ i → l.getD j true = false → (∀ e ∈ oj.after, Region.binds md e = true → e.on ≠ i) → oi.apart ops oj = true) →
      i ∈ Region.ready md ops l → YieldsIf P ops S' oi v a → S' w → (l.getD k true = false → S w) → ((∀ w, S' w) ∨ l.getD k true = false) →
      Late P md ops Q k S m (l.setIfInBounds i true) (a.put oi.dst v) w → Late P md ops Q k S (m + 1) l a w := by
  intro m
  have hget : ∀ l : Array Bool, (l.setIfInBounds i true).getD k true = l.getD k true := fun l => getD_set_ne true hik
  induction m with
  | zero =>
    intro l a w _ hr hy hS hSk _ H
    refine ⟨fun h => (by rw [h] at hr; cases hr), fun j hj => ?_⟩
    by_cases hji : j = i
    · subst hji; exact hy.wpOp hi hS ⟨fun h _ => hSk h, H⟩
    · have := ready_mono hj hji
      rw [H.1] at this
      cases this
  | succ m ih =>
    intro l a w hfree hr hy hS hSk hinv H
    refine ⟨fun h => (by rw [h] at hr; cases hr), fun j hj => ?_⟩
    by_cases hji : j = i
    · subst hji; exact hy.wpOp hi hS ⟨fun h _ => hSk h, H⟩
    · have h1 := H.2 j (ready_mono hj hji)
      obtain ⟨hjun, oj, hoj, hall⟩ := mem_ready.1 hj
      have hun : l.getD i true = false := (mem_ready.1 hr).1
      have hnot : ∀ e ∈ oj.after, Region.binds md e = true → e.on ≠ i := fun e he hb heq => by
        have h1 := hall e he hb
        rw [heq] at h1
        rcases Nat.lt_or_ge i l.size with h' | h'
        · simp [h'] at hun h1; rw [hun] at h1; cases h1
        · simp [Array.getElem?_eq_none h'] at h1
      have h2 := wpOp_putIf hoj (hfree j oj hoj hji hjun hnot) (fun cs b => hsel i oi cs b hi) (fun cs b => hsel j oj cs b hoj) hQ hy h1
      have hfree' : ∀ k ok, ops[k]? = some ok → k ≠ i → (l.setIfInBounds j true).getD k true = false →
          (∀ e ∈ ok.after, Region.binds md e = true → e.on ≠ i) → oi.apart ops ok = true := fun k ok hk hki hun hno => by
        refine hfree k ok hk hki ?_ hno
        by_cases hjk : j = k
        · subst hjk; exact hjun
        · rw [getD_set_ne true hjk] at hun; exact hun
      refine wpOp_mono (fun a' w' h3 => ?_) h2
      obtain ⟨hy2, hs2, hL⟩ := h3
      rw [hget l] at hs2
      refine ⟨hs2, ?_⟩
      have hL2 : Late P md ops Q k S m ((l.setIfInBounds j true).setIfInBounds i true) (a'.put oi.dst v) w' := by
        rw [Array.setIfInBounds_comm _ _ hji]
        exact hL
      have way1 : (∀ w, S' w) → Late P md ops Q k S (m + 1) (l.setIfInBounds j true) a' w' := fun hall' => by
        refine ih (l.setIfInBounds j true) a' w' hfree' (ready_mono hr (Ne.symm hji)) hy2 (hall' _) (fun hk2 => ?_) (.inl hall') hL2
        by_cases hjk : j = k
        · subst hjk
          rw [set_listed hjun] at hk2
          cases hk2
        · rw [getD_set_ne true hjk] at hk2
          exact hs2 hk2 hjk
      rcases hinv with hall' | hk0
      · exact way1 hall'
      · rcases hS' with hall' | ⟨hsub, ok, hok, e, he, hb, heq⟩
        · exact way1 hall'
        · have hjk : j ≠ k := fun e2 => by
            subst e2
            rw [hok] at hoj
            cases Option.some.inj hoj
            exact hnot e he hb heq
          have hk1 : (l.setIfInBounds j true).getD k true = false := by rw [getD_set_ne true hjk]; exact hk0
          exact ih (l.setIfInBounds j true) a' w' hfree' (ready_mono hr (Ne.symm hji)) hy2 (hsub _ (hs2 hk0 hjk)) (fun _ => hs2 hk0 hjk) (.inr hk1) hL2
/-- An operation that yields its value in whatever world is taken first. -/
theorem late_take {i : Nat} {oi : Oper} {v : Value} {m : Nat} {l : Array Bool} {a : Act} {w : World} (hi : ops[i]? = some oi)
    (hs : Region.noSelect ops = true) (hf : Region.free md ops l i = true) (hr : (Region.ready md ops l).contains i = true)
    (hQ : ∀ c a w, Q (.panic c) (a.put oi.dst v) w → Q (.panic c) a w) (hik : i ≠ k) (hy : YieldsIf P ops (fun _ => True) oi v a) (hS : l.getD k true = false → S w)
    (h : Late P md ops Q k S m (l.setIfInBounds i true) (a.put oi.dst v) w) : Late P md ops Q k S (m + 1) l a w :=
  late_first hi (Region.noSelect_spec hs) hQ hik (.inl fun _ => trivial) m l a w (Region.free_spec hi hf) (by simpa using hr) hy trivial hS (.inl fun _ => trivial) h
/-- A read is taken first: number k waits for it. -/
theorem late_read {i : Nat} {oi ok : Oper} {v : Value} {m : Nat} {l : Array Bool} {a : Act} {w : World} (hi : ops[i]? = some oi)
    (hs : Region.noSelect ops = true) (hf : Region.free md ops l i = true) (hr : (Region.ready md ops l).contains i = true)
    (hQ : ∀ c a w, Q (.panic c) (a.put oi.dst v) w → Q (.panic c) a w) (hik : i ≠ k) (hok : ops[k]? = some ok) (hed : ok.after.any (fun e => Region.binds md e && e.on == i) = true)
    (hy : YieldsIf P ops S oi v a) (hS : S w) (hlk : l.getD k true = false)
    (h : Late P md ops Q k S m (l.setIfInBounds i true) (a.put oi.dst v) w) : Late P md ops Q k S (m + 1) l a w := by
  obtain ⟨e, he, h2⟩ := Array.any_eq_true'.1 hed
  rw [Bool.and_eq_true, beq_iff_eq] at h2
  exact late_first hi (Region.noSelect_spec hs) hQ hik (.inr ⟨fun _ h => h, ok, hok, e, he, h2⟩) m l a w (Region.free_spec hi hf) (by simpa using hr) hy hS (fun _ => hS) (.inr hlk) h
/-- One alone may come up. -/
theorem late_one {i : Nat} {oi : Oper} {m : Nat} {l : Array Bool} {a : Act} {w : World} (hr : Region.ready md ops l = [i]) (hi : ops[i]? = some oi)
    (h : ∀ K' : Act → World → Prop, Shut (∀ a w, (l.getD k true = false → i ≠ k → S w) → Late P md ops Q k S m (l.setIfInBounds i true) a w → K' a w) → if Region.wanted oi (yielded ops a.tmps) = true then Oper.wp P oi a w K' Q else K' (a.put oi.dst undef) w) : Late P md ops Q k S (m + 1) l a w := by
  refine ⟨fun h0 => absurd (hr ▸ h0) (by simp), fun j hj => ?_⟩
  rw [hr, List.mem_singleton] at hj
  subst hj
  exact wpOp_step hi (fun K' hK => h K' (fun a w hS hW => hK a w ⟨hS, hW⟩))
theorem late_done {m : Nat} {l : Array Bool} {a : Act} {w : World} (hr : Region.ready md ops l = []) (h : Q .normal a w) : Late P md ops Q k S m l a w := by
  cases m with
  | zero => exact ⟨hr, h⟩
  | succ m => exact ⟨fun _ => h, by rw [hr]; simp⟩
theorem wp_region_late (k : Nat) (S : World → Prop) {id : Nat} {a : Act} {w : World} (hm : P.follows .mixedOrders = true) (hS : S w.drew)
    (h : S w.drew → Late P .any ops Q k S ops.size (Array.replicate ops.size false) a w.drew) : (Code.region id ops true).wp P Q a w :=
  wp_region_any hm (late_any _ _ _ _ (h hS))
end
end Go.Proofs.YtaooangnnlopcaaGreatDoor
namespace Go.Proofs.YtaooangnnlopcaaGreatDoor
open Go.RowKit
theorem LowE.sub {nc : Nat} {l r l' r' : List EntD} (h : LowE nc l r) (h1 : ∀ x ∈ l', x ∈ l) (h2 : ∀ x ∈ r', x ∈ r) : LowE nc l' r' := fun x hx y hy => h x (h1 x hx) y (h2 y hy)
theorem sortE_nil {nc : Nat} : SortE nc [] := List.Pairwise.nil
theorem sortE_get {nc : Nat} {l : List EntD} (h : SortE nc l) {i j : Nat} {x y : EntD} (hi : l[i]? = some x) (hj : l[j]? = some y) (hij : i < j) : lessE nc x y := by
  obtain ⟨h1, rfl⟩ := List.getElem?_eq_some_iff.1 hi
  obtain ⟨h2, rfl⟩ := List.getElem?_eq_some_iff.1 hj
  exact List.pairwise_iff_getElem.1 h i j h1 h2 hij
theorem sortE_le {nc : Nat} {l : List EntD} (h : SortE nc l) {i j : Nat} {x y : EntD} (hi : l[i]? = some x) (hj : l[j]? = some y) (hij : i ≤ j) : x = y ∨ lessE nc x y := by
  rcases Nat.lt_or_eq_of_le hij with e | e
  · exact .inr (sortE_get h hi hj e)
  · subst e
    rw [hi] at hj
    exact .inl (Option.some.inj hj)
/-- Behind the cut of two runs the heads are merged, and so are the tails. -/
theorem merge_join {nc : Nat} {A1 A2 B1 B2 S T : List EntD} (hA : SortE nc (A1 ++ A2)) (hB : SortE nc (B1 ++ B2))
    (h1 : ∀ x y, A1.getLast? = some x → B2.head? = some y → lessE nc x y) (h2 : ∀ x y, B1.getLast? = some x → A2.head? = some y → lessE nc x y)
    (hS : SortE nc S) (hSp : S.Perm (A1 ++ B1)) (hT : SortE nc T) (hTp : T.Perm (A2 ++ B2)) : SortE nc (S ++ T) ∧ (S ++ T).Perm ((A1 ++ A2) ++ (B1 ++ B2)) := by
  refine ⟨hS.append hT ((halves hA hB h1 h2).perm hSp hTp), (hSp.append hTp).trans ?_⟩
  rw [List.append_assoc, List.append_assoc]
  refine List.Perm.append_left A1 ?_
  rw [← List.append_assoc, ← List.append_assoc]
  exact List.Perm.append_right B2 List.perm_append_comm
/-- What the search for the cut has found: it lies between i and j. -/
structure Cut (nc : Nat) (A B : List EntD) (e lo hi i j : Nat) : Prop where
  low : lo ≤ i
  mid : i ≤ j
  high : j ≤ hi
  head : ∀ c, lo ≤ c → c < i → ∀ x y, A[c]? = some x → B[e - c]? = some y → lessE nc x y
  tail : ∀ c, j ≤ c → c < hi → ∀ x y, A[c]? = some x → B[e - c]? = some y → lessE nc y x
theorem Cut.start {nc : Nat} {A B : List EntD} {e lo hi : Nat} (h : lo ≤ hi) : Cut nc A B e lo hi lo hi := ⟨Nat.le_refl _, h, Nat.le_refl _, fun c h1 h2 => by omega, fun c h1 h2 => by omega⟩
theorem Cut.up {nc : Nat} {A B : List EntD} {e lo hi i j c : Nat} (h : Cut nc A B e lo hi i j) (hA : SortE nc A) (hB : SortE nc B) (hL : LowE nc A B) (hc1 : i ≤ c) (hc2 : c < j) {x y : EntD} (hx : A[c]? = some x) (hy : B[e - c]? = some y) (hs : ¬ y.step < x.step) : Cut nc A B e lo hi (c + 1) j := by
  refine ⟨by have := h.low; omega, by omega, h.high, fun k h1 h2 u v hu hv => ?_, h.tail⟩
  have hxy : lessE nc x y := (lessE_low (hL x (List.mem_of_getElem? hx) y (List.mem_of_getElem? hy))).2 hs
  by_cases hk : k < i
  · exact h.head k h1 hk u v hu hv
  · have h3 : u = x ∨ lessE nc u x := sortE_le hA hu hx (by omega)
    have h4 : y = v ∨ lessE nc y v := sortE_le hB hy hv (by omega)
    rcases h3 with rfl | h3 <;> rcases h4 with rfl | h4
    · exact hxy
    · exact lessE_trans hxy h4
    · exact lessE_trans h3 hxy
    · exact lessE_trans h3 (lessE_trans hxy h4)
theorem Cut.down {nc : Nat} {A B : List EntD} {e lo hi i j c : Nat} (h : Cut nc A B e lo hi i j) (hA : SortE nc A) (hB : SortE nc B) (hL : LowE nc A B) (hc1 : i ≤ c) (hc2 : c < j) {x y : EntD} (hx : A[c]? = some x) (hy : B[e - c]? = some y) (hs : y.step < x.step) (hce : hi ≤ e + 1) : Cut nc A B e lo hi i c := by
  refine ⟨h.low, hc1, by have := h.high; omega, h.head, fun k h1 h2 u v hu hv => ?_⟩
  have hxy : lessE nc y x := (lessE_high (hL x (List.mem_of_getElem? hx) y (List.mem_of_getElem? hy))).2 hs
  by_cases hk : j ≤ k
  · exact h.tail k hk h2 u v hu hv
  · have h3 : x = u ∨ lessE nc x u := sortE_le hA hx hu h1
    have h4 : v = y ∨ lessE nc v y := sortE_le hB hv hy (by omega)
    rcases h3 with rfl | h3 <;> rcases h4 with rfl | h4
    · exact hxy
    · exact lessE_trans h4 hxy
    · exact lessE_trans hxy h3
    · exact lessE_trans h4 (lessE_trans hxy h3)
theorem last_take {l : List EntD} {k : Nat} {x : EntD} (h : (l.take k).getLast? = some x) : 0 < k ∧ l[min k l.length - 1]? = some x := by
  rw [List.getLast?_eq_getElem?, List.length_take, List.getElem?_take] at h
  split at h
  · exact ⟨by omega, h⟩
  · cases h
theorem head_drop {l : List EntD} {k : Nat} {x : EntD} (h : (l.drop k).head? = some x) : l[k]? = some x := by
  rw [List.head?_drop] at h
  exact h
/-- What the search leaves: the two runs' cuts. e + 1 is the sum of the two cuts. -/
theorem Cut.ends {nc : Nat} {A B : List EntD} {e lo hi s : Nat} (h : Cut nc A B e lo hi s s) (hA : s ≤ A.length) (hB : e + 1 - s ≤ B.length) (he : s ≤ e + 1)
    (hlo : lo = 0 ∨ e + 1 - lo = B.length) (hhi : hi = A.length ∨ hi = e + 1) :
    (∀ x y, (A.take s).getLast? = some x → (B.drop (e + 1 - s)).head? = some y → lessE nc x y) ∧ (∀ x y, (B.take (e + 1 - s)).getLast? = some x → (A.drop s).head? = some y → lessE nc x y) := by
  refine ⟨fun x y hx hy => ?_, fun x y hx hy => ?_⟩
  · obtain ⟨h1, h2⟩ := last_take hx
    have h3 := head_drop hy
    rw [Nat.min_eq_left hA] at h2
    have h4 : e + 1 - s < B.length := (List.getElem?_eq_some_iff.1 h3).1
    refine h.head (s - 1) ?_ (by omega) x y h2 (by rw [show e - (s - 1) = e + 1 - s from by omega]; exact h3)
    have := h.low
    rcases hlo with e1 | e1 <;> omega
  · obtain ⟨h1, h2⟩ := last_take hx
    have h3 := head_drop hy
    rw [Nat.min_eq_left hB] at h2
    have h4 : s < A.length := (List.getElem?_eq_some_iff.1 h3).1
    refine h.tail s (Nat.le_refl _) ?_ y x h3 (by rw [show e - s = e + 1 - s - 1 from by omega]; exact h2)
    have := h.high
    rcases hhi with e1 | e1 <;> omega
/-- Blocks of n, each one sorted: what they hold, and what they held at first. -/
inductive Runs (nc n : Nat) : List EntD → List EntD → Prop
  | last {d l : List EntD} : d.length ≤ n → SortE nc d → d.Perm l → Runs nc n d l
  | cons {d l D L : List EntD} : d.length = n → SortE nc d → d.Perm l → Runs nc n D L → Runs nc n (d ++ D) (l ++ L)
/-- Blocks of n, all full. -/
inductive Fulls (nc n : Nat) : List EntD → List EntD → Prop
  | nil : Fulls nc n [] []
  | snoc {D L d l : List EntD} : Fulls nc n D L → d.length = n → SortE nc d → d.Perm l → Fulls nc n (D ++ d) (L ++ l)
theorem Fulls.runs {nc n : Nat} {D L D' L' : List EntD} (h : Fulls nc n D L) : Runs nc n D' L' → Runs nc n (D ++ D') (L ++ L') := by
  induction h generalizing D' L' with
  | nil => exact id
  | snoc _ h1 h2 h3 ih => intro h'; rw [List.append_assoc, List.append_assoc]; exact ih (.cons h1 h2 h3 h')
theorem Fulls.perm {nc n : Nat} {D L : List EntD} (h : Fulls nc n D L) : D.Perm L := by
  induction h with
  | nil => exact .refl _
  | snoc _ _ _ h3 ih => exact ih.append h3
theorem Runs.perm {nc n : Nat} {D L : List EntD} (h : Runs nc n D L) : D.Perm L := by
  induction h with
  | last _ _ h => exact h
  | cons _ _ h3 _ ih => exact h3.append ih
/-- One block stands at the head. -/
theorem Runs.one {nc n : Nat} {D L : List EntD} (h : Runs nc n D L) (hn : n ≤ D.length) : ∃ d l D' L', D = d ++ D' ∧ L = l ++ L' ∧ d.length = n ∧ SortE nc d ∧ d.Perm l ∧ Runs nc n D' L' := by
  cases h with
  | last h1 h2 h3 => exact ⟨D, L, [], [], by simp, by simp, by omega, h2, h3, .last (by simp) sortE_nil (.refl _)⟩
  | cons h1 h2 h3 h4 => exact ⟨_, _, _, _, rfl, rfl, h1, h2, h3, h4⟩
theorem Runs.single {nc n : Nat} {D L : List EntD} (h : Runs nc n D L) (hn : D.length ≤ n) : SortE nc D ∧ D.Perm L := by
  cases h with
  | last h1 h2 h3 => exact ⟨h2, h3⟩
  | cons h1 h2 h3 h4 =>
    rename_i d l D L
    have h5 : D = [] := List.eq_nil_of_length_eq_zero (by simp at hn; omega)
    subst h5
    have h6 : L = [] := (List.Perm.eq_nil (h4.perm.symm))
    subst h6
    simpa using ⟨h2, h3⟩
end Go.Proofs.YtaooangnnlopcaaGreatDoor
