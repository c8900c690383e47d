/- The reference's Parse of a line. Condition: a line of at most 2^20 bytes. -/
import Derived.Test.YtahpjhnbjkjkiaaDoorLowJ
namespace Go.Proofs.YtahpjhnbjkjkiaaDoor
open Go.RowKit Go.ChangeMaps Go.MapKept

/-- What the reference's Parse answers. -/
def RefParseOk (l : List UInt8) (w : World) (e : Ending) (w' : World) : Prop :=
  ∃ ks, e = .returned (.tuple #[cmdV ks (parseL l).1, .int .i64 ((parseL l).2 : Int)]) ∧ OwnT w' w.heap.size 9 ks ((parseL l).1.keys.map sv) ∧ Below w.heap.size w w'
theorem refOk_zero {l : List UInt8} {w w' : World} {t : Nat} (h : parseL l = (noCmd, t)) (hb : Below w.heap.size w w') : RefParseOk l w (.returned (.tuple #[zeroV, .int .i64 (t : Int)])) w' :=
  ⟨.slice none 0 0, by rw [h]; rfl, by rw [h]; exact ⟨Own.nil _ _, fun g hg => by simp [Value.ownBlock] at hg⟩, hb⟩

/-- 's[k:]' of a slice of strings. -/
theorem strs_from (g o n c M : Nat) (h : M ≤ n) (hc : n ≤ c) (hm : c ≤ maxLen) : ∃ o', (∀ W : World, (Instr.slice 33 (.slice (some ⟨g, o, none⟩) n c) (some (.int .i64 (M : Int))) none none).run Tryd.prog W = .ok (.slice (some ⟨g, o', none⟩) (n - M) (c - M)) W) ∧ (M < n → o' = o + M) := by
  have h2 := Tryd.underlying33
  unfold maxLen at hm
  have i1 : (0 : Int) ≤ (M : Int) := by omega
  have i2 : (M : Int) ≤ (n : Int) := by omega
  have i3 : (n : Int) ≤ (c : Int) := by omega
  by_cases hMc : M = c
  · subst hMc
    obtain rfl : M = n := by omega
    refine ⟨o, fun W => ?_, fun h => by omega⟩
    go_simp
  · refine ⟨o + M, fun W => ?_, fun _ => rfl⟩
    have i4 : ¬ (M = c) := hMc
    go_simp
    intro h5; omega

theorem quiet_is : ∀ v : Nat, v ≠ 0 → v < 14 → quietOf v = (!keysOf v && !(v == 12) && !(v == 13)) := by
  intro v h0 hv
  have : ∀ v < 14, v ≠ 0 → quietOf v = (!keysOf v && !(v == 12) && !(v == 13)) := by decide
  exact this v hv h0
theorem bare_many : ∀ v : Nat, v ≠ 0 → v < 14 → ∀ l : List (List UInt8), manyOf v l = if bareOf v then 0 else if keysOf v then l.length else 1 := by
  intro v h0 hv l
  have h1 : ∀ v < 14, v ≠ 0 → keysOf v = false → min (leastOf v) 1 = if bareOf v then 0 else 1 := by decide
  have h2 : ∀ v < 14, keysOf v = true → bareOf v = false := by decide
  unfold manyOf
  cases hk : keysOf v
  · have := h1 v hv h0 hk
    simp only [Bool.false_eq_true, if_false]
    exact this
  · rw [h2 v hv hk]; simp
theorem undrew {w w' : World} {r : Option Nat} (h : w.drew.grownBy w' r) : w.grownBy w' r := ⟨h.os, h.tape, h.output, h.size, h.block⟩
theorem index_sv {l : List UInt8} {k : Nat} {c : UInt8} (h : l[k]? = some c) (W : World) : (Instr.index 9 (sv l) (.int .i64 (k : Int))).run Tryd.prog W = .ok (.int .u8 (c.toNat : Int)) W := by
  obtain ⟨hk, hc⟩ := List.getElem?_eq_some_iff.1 h
  rw [run_index_string W 9 _ .i64 (k : Int) Tryd.underlying9, dif_pos ⟨by omega, by rw [sv_size]; omega⟩]
  subst hc
  rfl
end Go.Proofs.YtahpjhnbjkjkiaaDoor
