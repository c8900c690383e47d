/- The reference's line of a command: signed, written, Line. (Under way.) -/
import Derived.Test.YtahpjhnbjkjkiaaGreatDoorLineLine
namespace Go.Proofs.YtahpjhnbjkjkiaaGreatDoor
open Go.RowKit Go.ChangeMaps Go.MapKept

theorem step_callG {P : Program} {w : World} {ops : Array Oper} {o : Oper} {a : Act} {K : Act → World → Prop} {Q : Exit → Act → World → Prop} {E : Prop} (hw : Region.wanted o (yielded ops a.tmps) = true) (f : Nat) (args : Array Value) (hrun : (execOp a.eval o).run P w = .ok (.enter f args) w)
    {R : Ending → World → Prop} (hC : Calls P f args w R) (hR : ∀ e w', R e w' → ∃ v, e = .returned v ∧ K (a.put o.dst v) w') :
    if Region.wanted o (yielded ops a.tmps) = true then Oper.wp P o a w K Q else E := by
  rw [if_pos hw]
  unfold Oper.wp
  rw [hrun, Oper.upon_enter]
  refine hC.mono fun e w' hr => ?_
  obtain ⟨v, rfl, hk⟩ := hR e w' hr
  exact hk
theorem drewB {B : Nat} {w w' : World} (h : Below B w w') : Below B w w'.drew := ⟨h.os, h.tape, h.output, h.size, h.block⟩
/-- Words, a blank ahead of each. -/
def flatW (L : List (List UInt8)) : List UInt8 := (L.map (fun x => 32 :: x)).flatten
theorem flatW_snoc (L : List (List UInt8)) (x : List UInt8) : flatW (L ++ [x]) = flatW L ++ 32 :: x := by simp [flatW]
theorem flatW_append (L M : List (List UInt8)) : flatW (L ++ M) = flatW L ++ flatW M := by simp [flatW]
theorem join_flat (x : List UInt8) (L : List (List UInt8)) : Lib.join (x :: L) [32] = x ++ flatW L := by
  rw [Lib.join_cons]
  rfl

theorem cat3 (a b d : List UInt8) : Value.string ((⟨a.toArray⟩ : ByteArray) ++ ⟨b.toArray⟩ ++ ⟨d.toArray⟩) = sv (a ++ b ++ d) := sv_of (by rw [bs_append, bs_append])
theorem flatW_take (L : List (List UInt8)) (i : Nat) : (flatW (L.take i)).length ≤ (flatW L).length := by
  have h : flatW L = flatW (L.take i) ++ flatW (L.drop i) := by rw [← flatW_append, List.take_append_drop]
  rw [h, List.length_append]; omega
theorem flatW_mem {L : List (List UInt8)} {x : List UInt8} (h : x ∈ L) : x.length ≤ (flatW L).length := by
  obtain ⟨a, b, rfl⟩ := List.append_of_mem h
  simp [flatW]; omega
/-- The texts of the first i fields. -/
def fieldsTo (c : Cmd) (i : Nat) : List (List UInt8) := if 0 < leastOf c.verb ∨ c.exp ≠ 0 then ((restOf c.verb).take i).map (textF c) else []
theorem fieldsTo_next {c : Cmd} {i f : Nat} (hG : 0 < leastOf c.verb ∨ c.exp ≠ 0) (hf : (restOf c.verb)[i]? = some f) : fieldsTo c (i + 1) = fieldsTo c i ++ [textF c f] := by
  unfold fieldsTo
  rw [if_pos hG, if_pos hG, List.take_add_one, hf]
  simp
theorem flatW_le {L : List (List UInt8)} {k : Nat} (h : ∀ x ∈ L, x.length ≤ k) : (flatW L).length ≤ L.length * (k + 1) := by
  induction L with
  | nil => simp [flatW]
  | cons x L ih =>
    have h1 := h x (by simp)
    have h2 := ih (fun y hy => h y (by simp [hy]))
    simp only [flatW, List.map_cons, List.flatten_cons, List.length_append, List.length_cons] at *
    rw [Nat.add_mul]; omega
theorem fieldsTo_len {c : Cmd} (hc : OkCmd c) (i : Nat) : (flatW (fieldsTo c i)).length ≤ 1000 := by
  have h1 : (fieldsTo c i).length ≤ 4 := by
    have := rest_len c.verb
    unfold fieldsTo
    split
    · simp; omega
    · simp
  have h2 := flatW_le (L := fieldsTo c i) (k := 21) (fun x hx => by
    unfold fieldsTo at hx
    split at hx
    · obtain ⟨f, _, rfl⟩ := List.mem_map.1 hx; exact textF_len hc f
    · simp at hx)
  have : (fieldsTo c i).length * 22 ≤ 4 * 22 := Nat.mul_le_mul_right _ h1
  omega
theorem lead_of {v i : Nat} (f : Nat) (hf : (restOf v)[i]? = some f) (h1 : f ≠ 1) : 0 < leastOf v := by
  have hm := List.mem_of_getElem? hf
  by_cases hv : v < 14
  · have : ∀ v < 14, ∀ f ∈ restOf v, f ≠ 1 → 0 < leastOf v := by decide
    exact this v hv f hm h1
  · simp [restOf, List.getD_eq_getElem?_getD, List.getElem?_eq_none (l := [[], [], [], [0, 1, 2], [0, 1, 2], [0, 1, 2], [0, 1, 2, 3], [], [1], [4], [4], [1], [], []]) (i := v) (by simp; omega)] at hm
theorem lead_exp {v i : Nat} (hf : (restOf v)[i]? = some 1) (h11 : v ≠ 11) : 0 < leastOf v := by
  have hm := List.mem_of_getElem? hf
  by_cases hv : v < 14
  · have : ∀ v < 14, 1 ∈ restOf v → v ≠ 11 → 0 < leastOf v := by decide
    exact this v hv hm h11
  · simp [restOf, List.getD_eq_getElem?_getD, List.getElem?_eq_none (l := [[], [], [], [0, 1, 2], [0, 1, 2], [0, 1, 2], [0, 1, 2, 3], [], [1], [4], [4], [1], [], []]) (i := v) (by simp; omega)] at hm
theorem lineS_is (c : Cmd) (nm : List UInt8) (h : nm = names.getD (c.verb - 1) []) : lineS c = nm ++ flatW c.keys ++ flatW ((fieldsOf c).map (textF c)) ++ flatW (if c.quiet then [noreply] else []) := by
  subst h
  unfold lineS lineW
  rw [List.cons_append, List.cons_append, join_flat, flatW_append, flatW_append]
  simp

end Go.Proofs.YtahpjhnbjkjkiaaGreatDoor
