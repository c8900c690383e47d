/- Plain: one record counted up and down, taken away. No program in sight. -/
import Derived.Test.YtaooangnnlopcaaDoorMapsRun
namespace Go.Proofs.YtaooangnnlopcaaDoor
open Go.RowKit Go.ChangeMaps Go.MapKept
def kK : ByteArray := ⟨#[107]⟩
/-- A map with one record, at k, at the first epoch. -/
def oneM (v : ByteArray) (f : Int) (i : Nat) (d : Int) : MapM := ⟨[⟨kK, v, f, i, d, 0⟩], 0, i⟩
theorem atL_one (v : ByteArray) (f : Int) (i : Int) (d g : Int) : atL [⟨kK, v, f, i, d, g⟩] kK = some ⟨kK, v, f, i, d, g⟩ := by
  unfold atL
  rw [List.find?_cons, show ((⟨kK, v, f, i, d, g⟩ : ItemD).key == kK) = true from beq_self_eq_true kK]
theorem without_one (v : ByteArray) (f : Int) (i : Int) (d g : Int) : withoutL [⟨kK, v, f, i, d, g⟩] kK = [] := by
  unfold withoutL
  rw [List.filter_cons_of_neg (by show ¬ (!(kK == kK)) = true; simp)]
  rfl
theorem may_one (L : List ItemD) (i : Nat) (c : CallD) (hc : c.key = kK) : mayE ⟨L, 0, i⟩ c 0 = true := by
  unfold mayE
  rw [hc]
  have h1 : comesE 0 0 = true := by rfl
  have h2 : okB (bs kK) = true := by rfl
  rw [h1, h2]
  simp
theorem there_one {v : ByteArray} {f : Int} {i : Nat} {d : Int} (hd : d = 9 ∨ d = -1) : thereL [⟨kK, v, f, i, d, 0⟩] kK 0 = true := by
  unfold thereL wasL
  rw [atL_one]
  rcases hd with rfl | rfl <;> rfl
theorem was_one {v : ByteArray} {f : Int} {i : Nat} {d : Int} : wasL [⟨kK, v, f, (i : Int), d, 0⟩] kK = ⟨kK, v, f, i, d, 0⟩ := by
  unfold wasL
  rw [atL_one]
  rfl
/-- Stored first. -/
theorem does_first (v : ByteArray) (f e : Int) : doesM newM ⟨3, kK, v, f, e, 0, 0⟩ 0 = (⟨1, 1, noItem⟩, oneM v f 1 (diesE 0 e)) := by rfl
/-- Stored again. -/
theorem does_again {v : ByteArray} {f : Int} {i : Nat} {d : Int} (u : ByteArray) (f2 e : Int) : doesM (oneM v f i d) ⟨3, kK, u, f2, e, 0, 0⟩ 0 = (⟨1, ((i + 1 : Nat) : Int), noItem⟩, oneM u f2 (i + 1) (diesE 0 e)) := by
  unfold doesM givesM
  rw [show mayE (oneM v f i d) ⟨3, kK, u, f2, e, 0, 0⟩ 0 = true from may_one _ _ _ rfl]
  show ((storesG ⟨3, kK, u, f2, e, 0, 0⟩ 0 (i + 1)).ans, applyM (oneM v f i d) kK (storesG ⟨3, kK, u, f2, e, 0, 0⟩ 0 (i + 1))) = _
  unfold storesG applyM oneM
  simp only [without_one]
  rfl
theorem does_count {n : Nat} {f : Int} {i : Nat} {d : Int} (up : Bool) (b : Nat) (hd : d = 9 ∨ d = -1) (hn : n < 18446744073709551616) : doesM (oneM ⟨(Lib.decDigits n).toArray⟩ f i d) ⟨if up then 9 else 10, kK, ⟨#[]⟩, 0, 0, 0, (b : Int)⟩ 0 = (⟨8, (countN up n b : Int), noItem⟩, oneM ⟨(Lib.decDigits (countN up n b)).toArray⟩ f (i + 1) d) := by
  unfold doesM givesM
  rw [show mayE (oneM ⟨(Lib.decDigits n).toArray⟩ f i d) ⟨if up then 9 else 10, kK, ⟨#[]⟩, 0, 0, 0, (b : Int)⟩ 0 = true from may_one _ _ _ rfl]
  have h : givesV ⟨if up then 9 else 10, kK, ⟨#[]⟩, 0, 0, 0, (b : Int)⟩ 0 (i + 1) (wasL (oneM ⟨(Lib.decDigits n).toArray⟩ f i d).L kK) (thereL (oneM ⟨(Lib.decDigits n).toArray⟩ f i d).L kK 0) = some (numberG (countN up n b) 0 (i + 1) ⟨kK, ⟨(Lib.decDigits n).toArray⟩, f, i, d, 0⟩) := by
    unfold oneM
    rw [there_one hd, was_one]
    have hp : parseN (bs ⟨(Lib.decDigits n).toArray⟩) = some n := parse_dec hn
    cases up
    · show some (countG false _ 0 (i + 1) _ true) = _
      unfold countG
      simp [hp]
    · show some (countG true _ 0 (i + 1) _ true) = _
      unfold countG
      simp [hp]
  show (match (if true = true then givesV ⟨if up then 9 else 10, kK, ⟨#[]⟩, 0, 0, 0, (b : Int)⟩ 0 (i + 1) (wasL (oneM ⟨(Lib.decDigits n).toArray⟩ f i d).L kK) (thereL (oneM ⟨(Lib.decDigits n).toArray⟩ f i d).L kK 0) else none) with | none => _ | some g => (g.ans, applyM _ kK g)) = _
  rw [if_pos rfl, h]
  unfold numberG applyM oneM
  simp only [without_one]
  rfl
/-- Counted up when it is no number, or a number by nothing. -/
theorem does_text {v : ByteArray} {f : Int} {i : Nat} {d : Int} (hd : d = 9 ∨ d = -1) : ∃ (a : AnsD) (u : ByteArray) (j : Nat), doesM (oneM v f i d) ⟨9, kK, ⟨#[]⟩, 0, 0, 0, 0⟩ 0 = (a, oneM u f j d) ∧ j ≤ i + 1 ∧ a.kind = if (parseN (bs v)).isSome then 8 else 9 := by
  cases hp : parseN (bs v) with
  | none =>
    refine ⟨⟨9, 0, noItem⟩, v, i, ?_, Nat.le_succ _, rfl⟩
    unfold doesM givesM
    rw [show mayE (oneM v f i d) ⟨9, kK, ⟨#[]⟩, 0, 0, 0, 0⟩ 0 = true from may_one _ _ _ rfl]
    have h : givesV ⟨9, kK, ⟨#[]⟩, 0, 0, 0, 0⟩ 0 (i + 1) (wasL (oneM v f i d).L kK) (thereL (oneM v f i d).L kK 0) = some (saysG 9 0) := by
      unfold oneM
      rw [there_one hd, was_one]
      show some (countG true _ 0 (i + 1) _ true) = _
      unfold countG
      simp [hp]
    show (match (if true = true then givesV ⟨9, kK, ⟨#[]⟩, 0, 0, 0, 0⟩ 0 (i + 1) (wasL (oneM v f i d).L kK) (thereL (oneM v f i d).L kK 0) else none) with | none => (noAns, oneM v f i d) | some g => (g.ans, applyM (oneM v f i d) kK g)) = _
    rw [if_pos rfl, h]
    rfl
  | some n =>
    refine ⟨⟨8, (countN true n 0 : Int), noItem⟩, ⟨(Lib.decDigits (countN true n 0)).toArray⟩, i + 1, ?_, Nat.le_refl _, rfl⟩
    unfold doesM givesM
    rw [show mayE (oneM v f i d) ⟨9, kK, ⟨#[]⟩, 0, 0, 0, 0⟩ 0 = true from may_one _ _ _ rfl]
    have h : givesV ⟨9, kK, ⟨#[]⟩, 0, 0, 0, 0⟩ 0 (i + 1) (wasL (oneM v f i d).L kK) (thereL (oneM v f i d).L kK 0) = some (numberG (countN true n 0) 0 (i + 1) ⟨kK, v, f, i, d, 0⟩) := by
      unfold oneM
      rw [there_one hd, was_one]
      show some (countG true _ 0 (i + 1) _ true) = _
      unfold countG
      simp [hp]
    show (match (if true = true then givesV ⟨9, kK, ⟨#[]⟩, 0, 0, 0, 0⟩ 0 (i + 1) (wasL (oneM v f i d).L kK) (thereL (oneM v f i d).L kK 0) else none) with | none => (noAns, oneM v f i d) | some g => (g.ans, applyM (oneM v f i d) kK g)) = _
    rw [if_pos rfl, h]
    unfold numberG applyM oneM
    simp only [without_one]
    rfl
/-- Taken away. -/
theorem does_gone {v : ByteArray} {f : Int} {i : Nat} {d : Int} (hd : d = 9 ∨ d = -1) : doesM (oneM v f i d) ⟨7, kK, ⟨#[]⟩, 0, 0, 0, 0⟩ 0 = (⟨6, 0, noItem⟩, ⟨[], 0, i⟩) := by
  unfold doesM givesM
  rw [show mayE (oneM v f i d) ⟨7, kK, ⟨#[]⟩, 0, 0, 0, 0⟩ 0 = true from may_one _ _ _ rfl]
  have h : givesV ⟨7, kK, ⟨#[]⟩, 0, 0, 0, 0⟩ 0 (i + 1) (wasL (oneM v f i d).L kK) (thereL (oneM v f i d).L kK 0) = some (goneG 0) := by
    unfold oneM
    rw [there_one hd]
    rfl
  show (match (if true = true then givesV ⟨7, kK, ⟨#[]⟩, 0, 0, 0, 0⟩ 0 (i + 1) (wasL (oneM v f i d).L kK) (thereL (oneM v f i d).L kK 0) else none) with | none => (noAns, oneM v f i d) | some g => (g.ans, applyM (oneM v f i d) kK g)) = _
  rw [if_pos rfl, h]
  unfold goneG applyM oneM
  simp only [without_one]
  rfl
/-- Taken away where nothing is. -/
theorem does_none (i : Nat) : doesM ⟨[], 0, i⟩ ⟨7, kK, ⟨#[]⟩, 0, 0, 0, 0⟩ 0 = (⟨4, 0, noItem⟩, ⟨[], 0, i⟩) := by
  unfold doesM givesM
  rw [show mayE ⟨[], 0, i⟩ ⟨7, kK, ⟨#[]⟩, 0, 0, 0, 0⟩ 0 = true from may_one _ _ _ rfl]
  have h : givesV ⟨7, kK, ⟨#[]⟩, 0, 0, 0, 0⟩ 0 (i + 1) (wasL [] kK) (thereL [] kK 0) = some (saysG 4 0) := by rfl
  show (match (if true = true then givesV ⟨7, kK, ⟨#[]⟩, 0, 0, 0, 0⟩ 0 (i + 1) (wasL [] kK) (thereL [] kK 0) else none) with | none => (noAns, (⟨[], 0, i⟩ : MapM)) | some g => (g.ans, applyM (⟨[], 0, i⟩ : MapM) kK g)) = _
  rw [if_pos rfl, h]
  rfl
end Go.Proofs.YtaooangnnlopcaaDoor
