/- Plain: the numbers of a command that a line has are of their kinds, it is short. No program in sight. -/
import Derived.Test.YtahpjhnbjkjkiaaGreatDoorLinePlain
namespace Go.Proofs.YtahpjhnbjkjkiaaGreatDoor

theorem signed_range {l : List UInt8} {z : Int} (h : signedN l = some z) : -9223372036854775808 ≤ z ∧ z ≤ 9223372036854775807 := by
  by_cases hl : ∃ r, l = 45 :: r
  · obtain ⟨r, rfl⟩ := hl
    rcases hp : parseN r with _ | u
    · simp [signedN, hp] at h
    · by_cases hu : u ≤ 9223372036854775808
      · simp [signedN, hp, hu] at h; omega
      · simp [signedN, hp, hu] at h
  · have hl' : ∀ r, l ≠ 45 :: r := fun r hr => hl ⟨r, hr⟩
    rw [signed_plain hl'] at h
    rcases hp : parseN l with _ | u
    · rw [hp] at h; cases h
    · rw [hp] at h
      by_cases hu : u < 9223372036854775808
      · simp [hu] at h; omega
      · simp [hu] at h
theorem p32_lt (l : List UInt8) : (parse32N l).getD 0 < 4294967296 := by
  unfold parse32N
  rcases parseN l with _ | u
  · simp
  · simp only []
    split
    · simpa
    · simp
theorem parseD_lt (l : List UInt8) : (parseN l).getD 0 < 18446744073709551616 := by
  rcases h : parseN l with _ | u
  · simp
  · have := parse_lt h; simpa
theorem readF_ok {c : Cmd} (h : OkCmd c) (f : Nat) (w : List UInt8) : OkCmd (readF c f w).1 := by
  obtain ⟨h1, h2, h3, h4, h5, h6, h7, h8, h9⟩ := h
  unfold readF
  split
  · exact ⟨h1, h2, p32_lt w, h4, h5, h6, h7, h8, h9⟩
  · split
    · refine ⟨h1, h2, h3, ?_, ?_, h6, h7, h8, h9⟩
      · show -9223372036854775808 ≤ (signedN w).getD 0
        rcases hs : signedN w with _ | z
        · simp
        · exact (signed_range hs).1
      · show (signedN w).getD 0 ≤ 9223372036854775807
        rcases hs : signedN w with _ | z
        · simp
        · exact (signed_range hs).2
    · split
      · exact ⟨h1, h2, h3, h4, h5, h6, h7, by show (-9223372036854775808 : Int) ≤ ((min _ 2147483647 : Nat) : Int); omega, by show ((min _ 2147483647 : Nat) : Int) ≤ 9223372036854775807; omega⟩
      · split
        · exact ⟨h1, h2, h3, h4, h5, parseD_lt w, h7, h8, h9⟩
        · exact ⟨h1, h2, h3, h4, h5, h6, parseD_lt w, h8, h9⟩
theorem readAll_ok : ∀ (fs : List Nat) (ws : List (List UInt8)) (c : Cmd), OkCmd c → OkCmd (readAll c fs ws).1
  | fs, [], c, h => by cases fs <;> exact h
  | [], _ :: _, _, h => h
  | f :: fs, w :: ws, c, h => by
    rw [readAll]
    split
    · exact readAll_ok fs ws _ (readF_ok h f w)
    · exact readF_ok h f w
theorem noCmd_ok : OkCmd noCmd := ⟨by decide, by decide, by decide, by decide, by decide, by decide, by decide, by decide, by decide⟩
theorem parseW_ok {v : Nat} (hv : v < 256) (q : Bool) (l : List (List UInt8)) : OkCmd (parseW v q l).1 := by
  rcases parseW_is v q l with ⟨h1, _⟩ | ⟨_, hr, _⟩
  · rw [h1]; exact noCmd_ok
  · have h := readAll_ok (restOf v) (l.drop (manyP v l.length)) (freshC v q (l.take (manyP v l.length))) ⟨hv, hv, by show (0 : Nat) < _; decide, by show _ ≤ (0 : Int); decide, by show (0 : Int) ≤ _; decide, by show (0 : Nat) < _; decide, by show (0 : Nat) < _; decide, by show _ ≤ (-1 : Int); decide, by show (-1 : Int) ≤ _; decide⟩
    rw [hr] at h
    exact h
theorem verbOf_lt (x : List UInt8) : verbOf x < 256 := by
  by_cases h : verbOf x = 0
  · omega
  · have := (verb_name h).1; omega
theorem parse_ok (s : List UInt8) : OkCmd (parseL s).1 := by
  by_cases hlen : 2048 < s.length
  · unfold parseL
    rw [if_pos hlen]; exact noCmd_ok
  cases hw : words s with
  | nil => unfold parseL; rw [if_neg hlen, hw]; exact noCmd_ok
  | cons name l =>
    rw [parseL_some hlen hw]
    split
    · exact noCmd_ok
    · exact parseW_ok (verbOf_lt name) _ _
theorem keys_le_flat (L : List (List UInt8)) : L.length ≤ (flatW L).length := by
  induction L with
  | nil => simp
  | cons x L ih => rw [flatW_cons]; simp only [List.cons_append, List.length_cons, List.length_append]; omega
/-- A line's command is short. -/
theorem parse_short (s : List UInt8) : (lineS (parseL s).1).length ≤ 2048 ∧ (parseL s).1.keys.length ≤ 2048 := by
  by_cases hv : (parseL s).1.verb = 0
  · rw [(told_none hv).1]
    exact ⟨by decide, by decide⟩
  · have hB := line_back (s := s) (c := (parseL s).1) (t := (parseL s).2) rfl hv
    have h1 := hB.len
    have h2 := hB.short
    refine ⟨by omega, ?_⟩
    have h3 := keys_le_flat (parseL s).1.keys
    have h4 := lineS_is (parseL s).1 _ rfl
    have h5 : (flatW (parseL s).1.keys).length ≤ (lineS (parseL s).1).length := by rw [h4]; simp only [List.length_append]; omega
    omega
end Go.Proofs.YtahpjhnbjkjkiaaGreatDoor
