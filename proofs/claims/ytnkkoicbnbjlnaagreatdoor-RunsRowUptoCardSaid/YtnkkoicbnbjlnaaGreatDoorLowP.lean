/- Slices of slices of bytes in memory. No condition. -/
import Derived.Test.YtnkkoicbnbjlnaaGreatDoorLowA
namespace Go.Proofs.YtnkkoicbnbjlnaaGreatDoor
set_option maxRecDepth 100000
set_option maxHeartbeats 8000000
open Go.RowKit
def BRows (w : World) (v : Value) (L : List (List UInt8)) : Prop := ∃ vs : List Value, Own w 0 v vs ∧ vs.length = L.length ∧ ∀ (j : Nat) (bl : List UInt8), L[j]? = some bl → ∃ x, vs[j]? = some x ∧ BRow w x bl
theorem BRows.len {w : World} {v : Value} {L : List (List UInt8)} (h : BRows w v L) : ∃ a c, v = .slice a L.length c := by
 obtain ⟨vs, ho, hl, _⟩ := h
 obtain ⟨a, c, rfl⟩ := ho.len
 exact ⟨a, c, by rw [hl]⟩
theorem BRows.max {w : World} {v : Value} {L : List (List UInt8)} (h : BRows w v L) : L.length ≤ maxLen := by
 obtain ⟨vs, ho, hl, _⟩ := h
 rw [← hl]; exact ho.max
theorem BRows.at {w : World} {v : Value} {L : List (List UInt8)} (h : BRows w v L) {j : Nat} {bl : List UInt8} (hj : L[j]? = some bl) :
  ∃ g o c x, v = .slice (some ⟨g, o, none⟩) L.length c ∧ g < w.heap.size ∧ w.cell? ⟨g, o + j, none⟩ = some x ∧ BRow w x bl := by
 obtain ⟨vs, ho, hl, hb⟩ := h
 obtain ⟨x, hx, hr⟩ := hb j bl hj
 obtain ⟨g, o, c, he, _, hg, hc, _⟩ := ho.at hx
 exact ⟨g, o, c, x, by rw [he, hl], hg, hc, hr⟩
theorem idx_byte30 {a : Option Addr} {g o n c k : Nat} (ha : a = some ⟨g, o, none⟩) (hk : k < n) (W : World) : (Instr.indexAt 47 (.slice a n c) (.int .i64 (k : Int))).run Tryz.prog W = .ok (.pointer (some ⟨g, o + k, none⟩)) W := by
 subst ha
 have h0 : (0 : Int) ≤ (k : Int) := by omega
 have h1 : (k : Int) < (n : Int) := by omega
 have h2 := Tryz.underlying47
 go_simp
/-! ### Plain: how many bytes, counted up to a bound -/
end Go.Proofs.YtnkkoicbnbjlnaaGreatDoor
