/- Steps of a run of calls, in memory. No condition. A run of calls on a map. Condition: the library's tables lie as they are laid. -/
import Derived.Test.YtaooangnnlopcaaGreatDoorMapsLives
namespace Go.Proofs.YtaooangnnlopcaaGreatDoor
open Go.RowKit Go.ChangeMaps Go.MapKept
structure StepD where
  call : CallD
  ticks : Nat
abbrev stepCells (x : StepD) : List Value := [.int .u8 x.call.verb, .string x.call.key, .string x.call.value, .int .u32 x.call.flags, .int .i64 x.call.exp, .int .u64 x.call.id, .int .u64 x.call.by', .int .u8 (x.ticks : Int)]
structure CallFit (c : CallD) : Prop where
  verb : 0 ≤ c.verb ∧ c.verb ≤ 255
  key : c.key.size ≤ maxLen
  value : c.value.size ≤ maxLen
  flags : 0 ≤ c.flags ∧ c.flags ≤ 4294967295
  exp : -9223372036854775808 ≤ c.exp ∧ c.exp ≤ 9223372036854775807
  id : 0 ≤ c.id ∧ c.id ≤ 18446744073709551615
  by' : 0 ≤ c.by' ∧ c.by' ≤ 18446744073709551615
structure StepIs (x : StepD) : Prop where
  call : CallFit x.call
  ticks : x.ticks < 256
def StepRow (w : World) (v : Value) (L : List StepD) : Prop := L.length ≤ maxLen ∧ (∀ x ∈ L, StepIs x) ∧ ∃ (a : Option Addr) (c : Nat), v = .slice a L.length c ∧
  ∀ (j : Nat) (x : StepD), L[j]? = some x → ∃ g o, a = some ⟨g, o, none⟩ ∧ g < w.heap.size ∧ ∀ (i : Nat) (u : Value), (stepCells x)[i]? = some u → w.cell? ⟨g, o + (j * 8 + i), none⟩ = some u
theorem StepRow.below {w w' : World} {v : Value} {L : List StepD} (h : StepRow w v L) (hb : Below w.heap.size w w') : StepRow w' v L := by
  obtain ⟨h1, h2, a, c, hv, h3⟩ := h
  refine ⟨h1, h2, a, c, hv, fun j x hj => ?_⟩
  obtain ⟨g, o, ha, hg, hc⟩ := h3 j x hj
  exact ⟨g, o, ha, Nat.lt_of_lt_of_le hg hb.size, fun i u hu => (hb.cell (p := ⟨g, o + (j * 8 + i), none⟩) hg).trans (hc i u hu)⟩
end Go.Proofs.YtaooangnnlopcaaGreatDoor
namespace Go.Proofs.YtaooangnnlopcaaGreatDoor
open Go.RowKit Go.ChangeMaps Go.MapKept
theorem flushE_lt {ep : Nat} (h : ep < 18446744073709551616) (d : Int) : (flushE ep d).1 < 18446744073709551616 := by
  unfold flushE
  split
  · exact h
  · split <;> exact put_lt _ _ _
theorem givesV_epoch {c : CallD} {ep next : Nat} {was : ItemD} {there : Bool} {g : GivD} (h : givesV c ep next was there = some g) : g.epoch = ep ∨ g.epoch = (flushE ep c.exp).1 := by
  unfold givesV at h
  repeat' split at h
  all_goals (try cases h)
  all_goals (try (first | unfold casG | unfold countG | unfold flushG))
  all_goals (repeat' split)
  all_goals first
    | exact .inl rfl
    | exact .inr rfl
section
variable {w W : World} {p : Nat} {m : MapM} {bs : List (Nat × Array Value)} {lv : Value} {L : List StepD} {ep : Nat}
end
end Go.Proofs.YtaooangnnlopcaaGreatDoor
