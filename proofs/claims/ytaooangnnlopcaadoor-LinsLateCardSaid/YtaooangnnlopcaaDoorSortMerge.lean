/- Plain: runs of entries that are merged, blocks of runs. No program in sight. -/
import Derived.Test.YtaooangnnlopcaaDoorSortPlain
namespace Go.Proofs.YtaooangnnlopcaaDoor
open Go.RowKit
theorem LowE.sub {nc : Nat} {l r l' r' : List EntD} (h : LowE nc l r) (h1 : ∀ x ∈ l', x ∈ l) (h2 : ∀ x ∈ r', x ∈ r) : LowE nc l' r' := fun x hx y hy => h x (h1 x hx) y (h2 y hy)
theorem sortE_nil {nc : Nat} : SortE nc [] := List.Pairwise.nil
theorem sortE_get {nc : Nat} {l : List EntD} (h : SortE nc l) {i j : Nat} {x y : EntD} (hi : l[i]? = some x) (hj : l[j]? = some y) (hij : i < j) : lessE nc x y := by
  obtain ⟨h1, rfl⟩ := List.getElem?_eq_some_iff.1 hi
  obtain ⟨h2, rfl⟩ := List.getElem?_eq_some_iff.1 hj
  exact List.pairwise_iff_getElem.1 h i j h1 h2 hij
theorem sortE_le {nc : Nat} {l : List EntD} (h : SortE nc l) {i j : Nat} {x y : EntD} (hi : l[i]? = some x) (hj : l[j]? = some y) (hij : i ≤ j) : x = y ∨ lessE nc x y := by
  rcases Nat.lt_or_eq_of_le hij with e | e
  · exact .inr (sortE_get h hi hj e)
  · subst e
    rw [hi] at hj
    exact .inl (Option.some.inj hj)
/-- Behind the cut of two runs the heads are merged, and so are the tails. -/
theorem merge_join {nc : Nat} {A1 A2 B1 B2 S T : List EntD} (hA : SortE nc (A1 ++ A2)) (hB : SortE nc (B1 ++ B2))
    (h1 : ∀ x y, A1.getLast? = some x → B2.head? = some y → lessE nc x y) (h2 : ∀ x y, B1.getLast? = some x → A2.head? = some y → lessE nc x y)
    (hS : SortE nc S) (hSp : S.Perm (A1 ++ B1)) (hT : SortE nc T) (hTp : T.Perm (A2 ++ B2)) : SortE nc (S ++ T) ∧ (S ++ T).Perm ((A1 ++ A2) ++ (B1 ++ B2)) := by
  refine ⟨hS.append hT ((halves hA hB h1 h2).perm hSp hTp), (hSp.append hTp).trans ?_⟩
  rw [List.append_assoc, List.append_assoc]
  refine List.Perm.append_left A1 ?_
  rw [← List.append_assoc, ← List.append_assoc]
  exact List.Perm.append_right B2 List.perm_append_comm
/-- Does the run's entry number c stand ahead of the other run's entry number e - c? -/
def Ahead (A B : List EntD) (e c : Nat) : Prop := ∀ x y, A[c]? = some x → B[e - c]? = some y → ¬ y.step < x.step
/-- What the search for the cut has found: it lies between i and j. -/
structure Cut (nc : Nat) (A B : List EntD) (e lo hi i j : Nat) : Prop where
  low : lo ≤ i
  mid : i ≤ j
  high : j ≤ hi
  head : ∀ c, lo ≤ c → c < i → ∀ x y, A[c]? = some x → B[e - c]? = some y → lessE nc x y
  tail : ∀ c, j ≤ c → c < hi → ∀ x y, A[c]? = some x → B[e - c]? = some y → lessE nc y x
theorem Cut.start {nc : Nat} {A B : List EntD} {e lo hi : Nat} (h : lo ≤ hi) : Cut nc A B e lo hi lo hi := ⟨Nat.le_refl _, h, Nat.le_refl _, fun c h1 h2 => by omega, fun c h1 h2 => by omega⟩
theorem Cut.up {nc : Nat} {A B : List EntD} {e lo hi i j c : Nat} (h : Cut nc A B e lo hi i j) (hA : SortE nc A) (hB : SortE nc B) (hL : LowE nc A B) (hc1 : i ≤ c) (hc2 : c < j) {x y : EntD} (hx : A[c]? = some x) (hy : B[e - c]? = some y) (hs : ¬ y.step < x.step) : Cut nc A B e lo hi (c + 1) j := by
  refine ⟨by have := h.low; omega, by omega, h.high, fun k h1 h2 u v hu hv => ?_, h.tail⟩
  have hxy : lessE nc x y := (lessE_low (hL x (List.mem_of_getElem? hx) y (List.mem_of_getElem? hy))).2 hs
  by_cases hk : k < i
  · exact h.head k h1 hk u v hu hv
  · have h3 : u = x ∨ lessE nc u x := sortE_le hA hu hx (by omega)
    have h4 : y = v ∨ lessE nc y v := sortE_le hB hy hv (by omega)
    rcases h3 with rfl | h3 <;> rcases h4 with rfl | h4
    · exact hxy
    · exact lessE_trans hxy h4
    · exact lessE_trans h3 hxy
    · exact lessE_trans h3 (lessE_trans hxy h4)
theorem Cut.down {nc : Nat} {A B : List EntD} {e lo hi i j c : Nat} (h : Cut nc A B e lo hi i j) (hA : SortE nc A) (hB : SortE nc B) (hL : LowE nc A B) (hc1 : i ≤ c) (hc2 : c < j) {x y : EntD} (hx : A[c]? = some x) (hy : B[e - c]? = some y) (hs : y.step < x.step) (hce : hi ≤ e + 1) : Cut nc A B e lo hi i c := by
  refine ⟨h.low, hc1, by have := h.high; omega, h.head, fun k h1 h2 u v hu hv => ?_⟩
  have hxy : lessE nc y x := (lessE_high (hL x (List.mem_of_getElem? hx) y (List.mem_of_getElem? hy))).2 hs
  by_cases hk : j ≤ k
  · exact h.tail k hk h2 u v hu hv
  · have h3 : x = u ∨ lessE nc x u := sortE_le hA hx hu h1
    have h4 : v = y ∨ lessE nc v y := sortE_le hB hv hy (by omega)
    rcases h3 with rfl | h3 <;> rcases h4 with rfl | h4
    · exact hxy
    · exact lessE_trans h4 hxy
    · exact lessE_trans hxy h3
    · exact lessE_trans h4 (lessE_trans hxy h3)
theorem last_take {l : List EntD} {k : Nat} {x : EntD} (h : (l.take k).getLast? = some x) : 0 < k ∧ l[min k l.length - 1]? = some x := by
  rw [List.getLast?_eq_getElem?, List.length_take, List.getElem?_take] at h
  split at h
  · exact ⟨by omega, h⟩
  · cases h
theorem head_drop {l : List EntD} {k : Nat} {x : EntD} (h : (l.drop k).head? = some x) : l[k]? = some x := by
  rw [List.head?_drop] at h
  exact h
/-- What the search leaves: the two runs' cuts. e + 1 is the sum of the two cuts. -/
theorem Cut.ends {nc : Nat} {A B : List EntD} {e lo hi s : Nat} (h : Cut nc A B e lo hi s s) (hA : s ≤ A.length) (hB : e + 1 - s ≤ B.length) (he : s ≤ e + 1)
    (hlo : lo = 0 ∨ e + 1 - lo = B.length) (hhi : hi = A.length ∨ hi = e + 1) :
    (∀ x y, (A.take s).getLast? = some x → (B.drop (e + 1 - s)).head? = some y → lessE nc x y) ∧ (∀ x y, (B.take (e + 1 - s)).getLast? = some x → (A.drop s).head? = some y → lessE nc x y) := by
  refine ⟨fun x y hx hy => ?_, fun x y hx hy => ?_⟩
  · obtain ⟨h1, h2⟩ := last_take hx
    have h3 := head_drop hy
    rw [Nat.min_eq_left hA] at h2
    have h4 : e + 1 - s < B.length := (List.getElem?_eq_some_iff.1 h3).1
    refine h.head (s - 1) ?_ (by omega) x y h2 (by rw [show e - (s - 1) = e + 1 - s from by omega]; exact h3)
    have := h.low
    rcases hlo with e1 | e1 <;> omega
  · obtain ⟨h1, h2⟩ := last_take hx
    have h3 := head_drop hy
    rw [Nat.min_eq_left hB] at h2
    have h4 : s < A.length := (List.getElem?_eq_some_iff.1 h3).1
    refine h.tail s (Nat.le_refl _) ?_ y x h3 (by rw [show e - s = e + 1 - s - 1 from by omega]; exact h2)
    have := h.high
    rcases hhi with e1 | e1 <;> omega
/-- Blocks of n, each one sorted: what they hold, and what they held at first. -/
inductive Runs (nc n : Nat) : List EntD → List EntD → Prop
  | last {d l : List EntD} : d.length ≤ n → SortE nc d → d.Perm l → Runs nc n d l
  | cons {d l D L : List EntD} : d.length = n → SortE nc d → d.Perm l → Runs nc n D L → Runs nc n (d ++ D) (l ++ L)
/-- Blocks of n, all full. -/
inductive Fulls (nc n : Nat) : List EntD → List EntD → Prop
  | nil : Fulls nc n [] []
  | snoc {D L d l : List EntD} : Fulls nc n D L → d.length = n → SortE nc d → d.Perm l → Fulls nc n (D ++ d) (L ++ l)
theorem Fulls.runs {nc n : Nat} {D L D' L' : List EntD} (h : Fulls nc n D L) : Runs nc n D' L' → Runs nc n (D ++ D') (L ++ L') := by
  induction h generalizing D' L' with
  | nil => exact id
  | snoc _ h1 h2 h3 ih => intro h'; rw [List.append_assoc, List.append_assoc]; exact ih (.cons h1 h2 h3 h')
theorem Fulls.perm {nc n : Nat} {D L : List EntD} (h : Fulls nc n D L) : D.Perm L := by
  induction h with
  | nil => exact .refl _
  | snoc _ _ _ h3 ih => exact ih.append h3
theorem Runs.perm {nc n : Nat} {D L : List EntD} (h : Runs nc n D L) : D.Perm L := by
  induction h with
  | last _ _ h => exact h
  | cons _ _ h3 _ ih => exact h3.append ih
/-- One block stands at the head. -/
theorem Runs.one {nc n : Nat} {D L : List EntD} (h : Runs nc n D L) (hn : n ≤ D.length) : ∃ d l D' L', D = d ++ D' ∧ L = l ++ L' ∧ d.length = n ∧ SortE nc d ∧ d.Perm l ∧ Runs nc n D' L' := by
  cases h with
  | last h1 h2 h3 => exact ⟨D, L, [], [], by simp, by simp, by omega, h2, h3, .last (by simp) sortE_nil (.refl _)⟩
  | cons h1 h2 h3 h4 => exact ⟨_, _, _, _, rfl, rfl, h1, h2, h3, h4⟩
theorem Runs.single {nc n : Nat} {D L : List EntD} (h : Runs nc n D L) (hn : D.length ≤ n) : SortE nc D ∧ D.Perm L := by
  cases h with
  | last h1 h2 h3 => exact ⟨h2, h3⟩
  | cons h1 h2 h3 h4 =>
    rename_i d l D L
    have h5 : D = [] := List.eq_nil_of_length_eq_zero (by simp at hn; omega)
    subst h5
    have h6 : L = [] := (List.Perm.eq_nil (h4.perm.symm))
    subst h6
    simpa using ⟨h2, h3⟩
end Go.Proofs.YtaooangnnlopcaaDoor
