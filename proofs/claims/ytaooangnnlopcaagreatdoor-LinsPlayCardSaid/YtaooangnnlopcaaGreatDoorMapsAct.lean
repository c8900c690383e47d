/- Acts of a run of calls, in memory; is there more than is gone through? No condition. -/
import Derived.Test.YtaooangnnlopcaaGreatDoorMapsRD
import Derived.Test.YtaooangnnlopcaaGreatDoorMapsLives
namespace Go.Proofs.YtaooangnnlopcaaGreatDoor
open Go.RowKit Go.ChangeMaps Go.MapKept
structure ActD where
  kind : Int
  called : CalledD
  item : ItemD
abbrev calledL (x : CalledD) : List Value := [.int .i64 x.thread, .int .u8 x.call.verb, .string x.call.key, .string x.call.value, .int .u32 x.call.flags, .int .i64 x.call.exp, .int .u64 x.call.id, .int .u64 x.call.by', .int .i64 x.from', .int .i64 x.till, .int .u8 x.ans.kind, .int .u64 x.ans.number, .string x.ans.item.key, .string x.ans.item.value, .int .u32 x.ans.item.flags, .int .u64 x.ans.item.id, .int .i64 x.ans.item.dies, .int .i64 x.ans.item.gen, .int .u64 (x.epoch : Int), .int .i64 x.point]
abbrev actCells (x : ActD) : List Value := .int .u8 x.kind :: (calledL x.called ++ itemCells x.item)
structure FitC (c : CallD) : Prop where
  verb : 0 ≤ c.verb ∧ c.verb ≤ 255
  key : c.key.size ≤ maxLen
  value : c.value.size ≤ maxLen
  exp : -9223372036854775808 ≤ c.exp ∧ c.exp ≤ 9223372036854775807
  by' : 0 ≤ c.by' ∧ c.by' ≤ 18446744073709551615
structure ActIs (x : ActD) : Prop where
  kind : 0 ≤ x.kind ∧ x.kind ≤ 255
  call : FitC x.called.call
  ikey : x.called.ans.item.key.size ≤ maxLen
  ivalue : x.called.ans.item.value.size ≤ maxLen
  epoch : x.called.epoch < 18446744073709551616
  key : x.item.key.size ≤ maxLen
  value : x.item.value.size ≤ maxLen
def ActRow (w : World) (v : Value) (L : List ActD) : Prop := L.length ≤ maxLen ∧ (∀ x ∈ L, ActIs x) ∧ ∃ (a : Option Addr) (c : Nat), v = .slice a L.length c ∧
  ∀ (j : Nat) (x : ActD), L[j]? = some x → ∃ g o, a = some ⟨g, o, none⟩ ∧ g < w.heap.size ∧ ∀ (i : Nat) (u : Value), (actCells x)[i]? = some u → w.cell? ⟨g, o + (j * 27 + i), none⟩ = some u
theorem ActRow.below {w w' : World} {v : Value} {L : List ActD} (h : ActRow w v L) (hb : Below w.heap.size w w') : ActRow w' v L := by
  obtain ⟨h1, h2, a, c, hv, h3⟩ := h
  refine ⟨h1, h2, a, c, hv, fun j x hj => ?_⟩
  obtain ⟨g, o, ha, hg, hc⟩ := h3 j x hj
  exact ⟨g, o, ha, Nat.lt_of_lt_of_le hg hb.size, fun i u hu => (hb.cell (p := ⟨g, o + (j * 27 + i), none⟩) hg).trans (hc i u hu)⟩
theorem idx_act {a : Option Addr} {g o n c k : Nat} (ha : a = some ⟨g, o, none⟩) (hk : k < n) (W : World) : (Instr.indexAt 22 (.slice a n c) (.int .i64 (k : Int))).run Tryz.prog W = .ok (.pointer (some ⟨g, o + k * 27, none⟩)) W := by
  subst ha
  have h0 : (0 : Int) ≤ (k : Int) := by omega
  have h1 : (k : Int) < (n : Int) := by omega
  have h2 := Tryz.underlying22
  obtain ⟨i0, hi, hz0, hz1, hz2⟩ := info_parts (show (Tryz.prog.info? 44).map (fun i => (i.zero, i.size, i.bytes)) = some (some (.agg #[.int .u8 0, .int .i64 0, .int .u8 0, .string ⟨#[]⟩, .string ⟨#[]⟩, .int .u32 0, .int .i64 0, .int .u64 0, .int .u64 0, .int .i64 0, .int .i64 0, .int .u8 0, .int .u64 0, .string ⟨#[]⟩, .string ⟨#[]⟩, .int .u32 0, .int .u64 0, .int .i64 0, .int .i64 0, .int .u64 0, .int .i64 0, .string ⟨#[]⟩, .string ⟨#[]⟩, .int .u32 0, .int .u64 0, .int .i64 0, .int .i64 0]), 27, 264) by kernel_rfl)
  go_simp
/-- Where an act's cells lie. -/
theorem ActRow.at {w : World} {L : List ActD} {a : Option Addr} {c : Nat} (h : ∀ (j : Nat) (x : ActD), L[j]? = some x → ∃ g o, a = some ⟨g, o, none⟩ ∧ g < w.heap.size ∧ ∀ (i : Nat) (u : Value), (actCells x)[i]? = some u → w.cell? ⟨g, o + (j * 27 + i), none⟩ = some u) {j : Nat} {x : ActD} (hj : L[j]? = some x) :
    ∃ g b, (∀ W : World, (Instr.indexAt 22 (.slice a L.length c) (.int .i64 (j : Int))).run Tryz.prog W = .ok (.pointer (some ⟨g, b, none⟩)) W) ∧ ∀ W, Below w.heap.size w W → ∀ (i : Nat) (u : Value), (actCells x)[i]? = some u → W.cell? ⟨g, b + i, none⟩ = some u := by
  obtain ⟨g, o, ha, hg, hc⟩ := h j x hj
  refine ⟨g, o + j * 27, fun W => idx_act ha (List.getElem?_eq_some_iff.1 hj).1 W, fun W hb i u hu => ?_⟩
  rw [Nat.add_assoc]
  exact (hb.cell (p := ⟨g, o + (j * 27 + i), none⟩) hg).trans (hc i u hu)
end Go.Proofs.YtaooangnnlopcaaGreatDoor
