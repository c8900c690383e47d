/- The reference's line of a command: Line. Condition: the command's numbers are of their kinds, its text is of at most 2^20 bytes. -/
import Derived.Test.YtofpaooaiafpbaaDoorLineRefLine
namespace Go.Proofs.YtofpaooaiafpbaaDoor
open Go.RowKit Go.ChangeMaps Go.MapKept

theorem sameC_sym (a b : Cmd) : sameC a b = sameC b a := by
  rw [Bool.eq_iff_iff, sameC_iff, sameC_iff]; exact eq_comm
/-- What 'written' writes. -/
def writtenS (c : Cmd) : List UInt8 := if c.verb ≠ 0 ∧ c.verb < 14 then lineS c else []
theorem writtenS_le (c : Cmd) (h : (lineS c).length ≤ 1048576) : (writtenS c).length ≤ 1048576 := by
  unfold writtenS; split
  · exact h
  · simp
theorem lineL_ref (c : Cmd) : lineL c = if (parseL (writtenS c)).2 = 0 ∧ sameC c (parseL (writtenS c)).1 = true then (writtenS c, true) else ([], false) := by
  unfold lineL writtenS
  by_cases h : c.verb ≠ 0 ∧ c.verb < 14
  · rw [if_pos h]
    unfold lineOk
    rw [sameC_sym c]
    simp only [Bool.and_eq_true, beq_iff_eq]
    by_cases h2 : (parseL (lineS c)).2 = 0 ∧ sameC (parseL (lineS c)).1 c = true
    · rw [if_pos h2, if_pos ⟨h.1, h.2, h2⟩]
    · rw [if_neg h2, if_neg (by rintro ⟨_, _, h3⟩; exact h2 h3)]
  · rw [if_neg h, if_neg (by rintro ⟨h1, h2, _⟩; exact h ⟨h1, h2⟩), if_neg]
    rintro ⟨h1, _⟩
    exact absurd h1 (by decide)
end Go.Proofs.YtofpaooaiafpbaaDoor
