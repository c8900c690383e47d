/- strings.Join at the strings that a slice holds; tells.line. Condition: the line is of at most 2^47 bytes. -/
import Derived.Test.YtddifbimlmkcbaaGreatDoorLowA
import Derived.Test.YtddifbimlmkcbaaGreatDoorShelf
namespace Go.Proofs.YtddifbimlmkcbaaGreatDoor
open Go.RowKit

theorem join_any {w : World} {B : Nat} {v : Value} {L : List (List UInt8)} (sep : List UInt8) (h : Own w B v (L.map sv)) (hN : L.length ≤ 140737488355328) (hlen : (Lib.join L sep).length ≤ 140737488355328) :
    Calls Tryz.prog 48 #[v, sv sep] w fun e w' => e = .returned (sv (Lib.join L sep)) ∧ Below w.heap.size w w' := by
  by_cases h0 : L = []
  · subst h0
    obtain ⟨a, c, rfl⟩ := h.len
    exact (Tryz.strings_Join_none a c ⟨sep.toArray⟩ w).mono fun e w' ⟨he, hw⟩ => ⟨he, hw ▸ Below.refl _ _⟩
  · obtain ⟨g, o, c, rfl, _, hg, hc, _, hcells⟩ := h.some (by simpa using h0)
    have hm : (L.map (fun l => (⟨l.toArray⟩ : ByteArray))).map (·.data.toList) = L := by rw [List.map_map]; exact (List.map_congr_left (fun l _ => rfl)).trans (List.map_id' L)
    have := Tryz.strings_Join g o c (L.map (fun l => (⟨l.toArray⟩ : ByteArray))) ⟨sep.toArray⟩ w (fun j x hx => by
      rw [List.getElem?_map] at hx
      cases hl : L[j]? with
      | none => simp [hl] at hx
      | some l =>
        simp [hl] at hx
        subst hx
        exact (hcells j (sv l) (by rw [List.getElem?_map, hl]; rfl)).1) hg (by simpa using hN) (by simpa using hc) (by rw [hm]; exact hlen)
    rw [hm] at this
    simpa using this

/-- A line of words, with its end; of none nothing. -/
def lineOf (L : List (List UInt8)) : List UInt8 := if Lib.join L [32] = [] then [] else Lib.join L [32] ++ [13, 10]

set_option maxHeartbeats 400000 in
theorem tline_any {w : World} {B : Nat} {v : Value} {L : List (List UInt8)} (h : Own w B v (L.map sv)) (hN : L.length ≤ 140737488355328) (hlen : (Lib.join L [32]).length ≤ 2097152) :
    Calls Tryz.prog 33 #[v] w fun e w' => e = .returned (sv (lineOf L)) ∧ Below w.heap.size w w' := by
  have hj := join_any [32] h hN (by omega)
  unfold lineOf
  generalize Lib.join L [32] = t at *
  have HJ := Lib.hid hj
  clear hj h
  by_cases h0 : t = []
  · subst h0
    go_enter Tryz.func33, Tryz.ntmps33
    go_wp2_with fail
    refine HJ.out.mono ?_
    rintro e w1 ⟨rfl, hb⟩
    go_wp2_with fail
    go_ret
    exact ⟨rfl, hb⟩
  · rw [if_neg h0]
    have he : t.isEmpty = false := by simpa using h0
    clear h0
    go_enter Tryz.func33, Tryz.ntmps33
    go_wp2_with fail
    refine HJ.out.mono ?_
    rintro e w1 ⟨rfl, hb⟩
    go_wp2_with fail
    go_ret
    exact ⟨ret_congr (sv_of (by rw [bs_append])), hb⟩
end Go.Proofs.YtddifbimlmkcbaaGreatDoor
