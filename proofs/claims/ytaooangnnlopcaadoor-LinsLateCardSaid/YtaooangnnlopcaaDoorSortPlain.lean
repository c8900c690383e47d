/- Plain: entries of an order, a strict order of them, runs that are merged. No program in sight. -/
import Derived.Test.YtaooangnnlopcaaDoorLowA
namespace Go.Proofs.YtaooangnnlopcaaDoor
open Go.RowKit
/-- An entry of an order. -/
structure EntD where
  step : Int
  call : Int
  drop : Int
/-- Its place in the list at first: calls, then drops. -/
def rkE (nc : Nat) (e : EntD) : Int := if 0 ≤ e.call then e.call else (nc : Int) + e.drop
/-- By steps, then by places. -/
def lessE (nc : Nat) (e f : EntD) : Prop := e.step < f.step ∨ (e.step = f.step ∧ rkE nc e < rkE nc f)
theorem lessE_trans {nc : Nat} {a b c : EntD} (h1 : lessE nc a b) (h2 : lessE nc b c) : lessE nc a c := by
  unfold lessE at *
  omega
theorem lessE_irrefl {nc : Nat} (a : EntD) : ¬ lessE nc a a := by
  unfold lessE
  omega
theorem lessE_asymm {nc : Nat} {a b : EntD} (h : lessE nc a b) : ¬ lessE nc b a := by
  unfold lessE at *
  omega
/-- Where the one has the lower place, it is less if its step is not greater. -/
theorem lessE_low {nc : Nat} {a b : EntD} (h : rkE nc a < rkE nc b) : lessE nc a b ↔ ¬ b.step < a.step := by
  unfold lessE
  omega
theorem lessE_high {nc : Nat} {a b : EntD} (h : rkE nc a < rkE nc b) : lessE nc b a ↔ b.step < a.step := by
  unfold lessE
  omega
def SortE (nc : Nat) (l : List EntD) : Prop := l.Pairwise (lessE nc)
def AllE (nc : Nat) (l r : List EntD) : Prop := ∀ x ∈ l, ∀ y ∈ r, lessE nc x y
theorem SortE.append {nc : Nat} {l r : List EntD} (h1 : SortE nc l) (h2 : SortE nc r) (h3 : AllE nc l r) : SortE nc (l ++ r) := List.pairwise_append.2 ⟨h1, h2, h3⟩
theorem SortE.parts {nc : Nat} {l r : List EntD} (h : SortE nc (l ++ r)) : SortE nc l ∧ SortE nc r ∧ AllE nc l r := List.pairwise_append.1 h
theorem AllE.perm {nc : Nat} {l r l' r' : List EntD} (h : AllE nc l r) (h1 : l'.Perm l) (h2 : r'.Perm r) : AllE nc l' r' := fun x hx y hy => h x (h1.mem_iff.1 hx) y (h2.mem_iff.1 hy)
/-- A strictly sorted list is the only one of its elements. -/
theorem sortE_unique {nc : Nat} : ∀ {l r : List EntD}, SortE nc l → SortE nc r → l.Perm r → l = r
  | [], r, _, _, hp => (List.Perm.nil_eq hp)
  | x :: l, [], _, _, hp => absurd hp.length_eq (by simp)
  | x :: l, y :: r, h1, h2, hp => by
    have e : x = y := by
      have hx : x ∈ y :: r := hp.mem_iff.1 (.head _)
      have hy : y ∈ x :: l := hp.mem_iff.2 (.head _)
      rcases List.mem_cons.1 hx with e | hx
      · exact e
      · rcases List.mem_cons.1 hy with e | hy
        · exact e.symm
        · exact absurd ((List.pairwise_cons.1 h1).1 y hy) (lessE_asymm ((List.pairwise_cons.1 h2).1 x hx))
    subst e
    rw [sortE_unique (List.pairwise_cons.1 h1).2 (List.pairwise_cons.1 h2).2 (hp.cons_inv)]
/-- All of the one list have lower places than all of the other. -/
def LowE (nc : Nat) (l r : List EntD) : Prop := ∀ x ∈ l, ∀ y ∈ r, rkE nc x < rkE nc y
/-- The two halves that symMerge makes: of two runs cut so that the last of the first run's head comes ahead of the first of the second run's tail, and the other way round, the heads come ahead of the tails. -/
theorem halves {nc : Nat} {a1 a2 b1 b2 : List EntD} (ha : SortE nc (a1 ++ a2)) (hb : SortE nc (b1 ++ b2))
    (h1 : ∀ x y, a1.getLast? = some x → b2.head? = some y → lessE nc x y) (h2 : ∀ x y, b1.getLast? = some x → a2.head? = some y → lessE nc x y) : AllE nc (a1 ++ b1) (a2 ++ b2) := by
  obtain ⟨sa1, sa2, ha12⟩ := ha.parts
  obtain ⟨sb1, sb2, hb12⟩ := hb.parts
  have cross : ∀ {l r : List EntD}, SortE nc l → SortE nc r → (∀ x y, l.getLast? = some x → r.head? = some y → lessE nc x y) → AllE nc l r := by
    intro l r hl hr h x hx y hy
    match r, hy with
    | y0 :: r, hy =>
      obtain ⟨l0, z, rfl⟩ : ∃ l0 z, l = l0 ++ [z] := ⟨l.dropLast, l.getLast (List.ne_nil_of_mem hx), (List.dropLast_concat_getLast _).symm⟩
      have hz : lessE nc z y0 := h z y0 (by simp) rfl
      have hxz : x = z ∨ lessE nc x z := by
        rcases List.mem_append.1 hx with hx | hx
        · exact .inr ((List.pairwise_append.1 hl).2.2 x hx z (by simp))
        · exact .inl (by simpa using hx)
      have hyy : y = y0 ∨ lessE nc y0 y := by
        rcases List.mem_cons.1 hy with e | hy
        · exact .inl e
        · exact .inr ((List.pairwise_cons.1 hr).1 y hy)
      have hxy0 : lessE nc x y0 := by
        rcases hxz with rfl | e
        · exact hz
        · exact lessE_trans e hz
      rcases hyy with rfl | e
      · exact hxy0
      · exact lessE_trans hxy0 e
  intro x hx y hy
  rcases List.mem_append.1 hx with hx | hx <;> rcases List.mem_append.1 hy with hy | hy
  · exact ha12 x hx y hy
  · exact cross sa1 sb2 h1 x hx y hy
  · exact cross sb1 sa2 h2 x hx y hy
  · exact hb12 x hx y hy
end Go.Proofs.YtaooangnnlopcaaDoor
