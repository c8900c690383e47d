/- An argument that is a list of texts. No condition. -/
import Derived.Test.YtofpaooaiafpbaaDoorClose
import Derived.SliceStrings
namespace Go.Proofs.YtofpaooaiafpbaaDoor
open Go.ChangeShapes Go.WideShapes Go.ChangeAt Go.RowKit

set_option maxRecDepth 100000 in
theorem open_strlist {H : Type} {enc : TypeId × Value → H} {W : World} {base : Nat} {v : Value} {d : DataW H} {p : List MemPlace} (hval : Value.okWide Tryd.prog W .any base 23 v)
    (h : DataW.Trod enc Tryd.prog W 0 (fun _ => true) true 23 v d p) (hfz : W.noneFrozen p) : ∃ L : List (List UInt8), Own W 0 v (L.map sv) ∧ (∀ x ∈ L, x.length ≤ maxLen) ∧ L.length ≤ Rows.uptoBulk d := by
  obtain ⟨a0, len, cap, rfl⟩ := okWide_slice Tryd.underlying23 hval
  obtain ⟨fuel, hf⟩ := h
  rcases open_strings Tryd.underlying23 Tryd.underlying9 (by kernel_rfl) hf with ⟨hcs, hx⟩ | ⟨a, len', cap', zs, hcs, _, hl, hm, hz, hx, hcell, hwz⟩
  · obtain ⟨rfl, rfl, rfl⟩ : a0 = none ∧ len = 0 ∧ cap = 0 := by simpa [Value.cells] using hcs
    exact ⟨[], Own.nil W 0, by simp, by simp⟩
  · obtain ⟨rfl, rfl, rfl⟩ : a0 = some a ∧ len = len' ∧ cap = cap' := by simpa [Value.cells] using hcs
    obtain ⟨rfl, rfl⟩ := Prod.mk.inj hx
    have hzl : zs.length = cap := by simpa using hz
    refine ⟨(zs.take len).map bs, ?_, ?_, ?_⟩
    · refine ⟨some a, cap, by simp; omega, by simp; omega, hm, (fun h => by cases h), ?_⟩
      by_cases h0 : len = 0
      · left; simp [h0]
      · right
        obtain ⟨b, off, spot⟩ := a
        have hspot : spot = none := by simpa [Addr.add] using World.cell?_spot (hcell 0 (by omega))
        subst hspot
        refine ⟨b, off, rfl, Nat.zero_le _, fun j x hx => ?_⟩
        have hj : j < len := by have := (List.getElem?_eq_some_iff.1 hx).1; simp at this; omega
        refine ⟨?_, hfz b (off + j) (MemPlace.mem_row.2 ⟨j, by omega, rfl⟩)⟩
        have hc := hcell j (by omega)
        rw [Go.WideShapes.add_plain] at hc
        rw [hc]
        have hzj : zs[j]? = some (zs.getD j ByteArray.empty) := by rw [List.getD_eq_getElem?_getD, List.getElem?_eq_getElem (by omega)]; rfl
        rw [List.map_map, List.getElem?_map, List.getElem?_take, if_pos hj, hzj] at hx
        cases hx
        rfl
    · intro x hx
      obtain ⟨s, hs, rfl⟩ := List.mem_map.1 hx
      rw [bs_length]
      exact hwz s (List.mem_of_mem_take hs)
    · have := bulk_slice (strs (H := H) (zs.take len)) (strs (zs.drop len))
      simp [strs] at this ⊢; omega
end Go.Proofs.YtofpaooaiafpbaaDoor
