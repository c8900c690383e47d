/- An argument that is a slice of answers. No condition. -/
import Derived.Test.YtddifbimlmkcbaaGreatDoorOpen0
import Derived.Test.YtddifbimlmkcbaaGreatDoorCoF
import Derived.Deep.Slices
namespace Go.Proofs.YtddifbimlmkcbaaGreatDoor
open Go.ChangeShapes Go.WideShapes Go.ChangeAt Go.RowKit

set_option maxRecDepth 100000 in
theorem trod_ans {H : Type} {enc : TypeId × Value → H} {W : World} {base : Nat} {sp : Nat → Bool} {held : Bool} {fuel : Nat} {cs : List Value} {y : DataW H × List MemPlace} (h : DataW.trod enc Tryz.prog W base sp held fuel 52 cs = some y) :
    ∃ a : AnsD, cs = ansCells a ∧ AnsIs a ∧ a.item.key.size + a.item.value.size ≤ Rows.uptoBulk y.1 := by
  obtain ⟨xs, n, _, hx, hcl, hlen, hg⟩ := DataW.trod_struct Tryz.underlying52 h
  have hC : Tryz.prog.cellsOf 52 = 8 := by kernel_rfl
  have kv : Tryz.prog.cellsOf 48 = 1 := by kernel_rfl
  have ku : Tryz.prog.cellsOf 37 = 1 := by kernel_rfl
  have ki : Tryz.prog.cellsOf 50 = 6 := by kernel_rfl
  match cs, hcl.trans hC with
  | [c0, c1, c2, c3, c4, c5, c6, c7], _ =>
    match xs, hlen with
    | [y0, y1, y2], _ =>
      have h0 := hg 0 _ rfl
      have h1 := hg 1 _ rfl
      have h2 := hg 2 _ rfl
      simp [kv] at h0
      simp [ku] at h1
      simp [ki] at h2
      obtain ⟨z0, e0, rfl, w0⟩ := DataW.trod_int Tryz.underlying48 h0
      obtain rfl := List.cons.inj e0 |>.1
      obtain ⟨z1, e1, rfl, w1⟩ := DataW.trod_int Tryz.underlying37 h1
      obtain rfl := List.cons.inj e1 |>.1
      obtain ⟨r, e2, hr, hb⟩ := trod_item h2
      subst hx
      refine ⟨⟨z0, z1, r⟩, ?_, ⟨⟨bounds_u8 w0, bounds_u64 w1, hr⟩, hr.1, hr.2⟩, ?_⟩
      · simp only [List.cons.injEq, and_true] at e2
        obtain ⟨rfl, rfl, rfl, rfl, rfl, rfl⟩ := e2
        rfl
      · simp only [List.map_cons, List.map_nil, Rows.uptoBulk, Rows.uptoBulkAll]
        omega
theorem bulk_mem {H : Type} : ∀ (l : List (DataW H)) (d : DataW H), d ∈ l → Rows.uptoBulk d ≤ Rows.uptoBulkAll l
  | [], d, h => by cases h
  | x :: l, d, h => by
    simp only [Rows.uptoBulkAll]
    rcases List.mem_cons.1 h with rfl | h
    · omega
    · have := bulk_mem l d h
      omega
set_option maxRecDepth 100000 in
theorem open_answers {H : Type} {enc : TypeId × Value → H} {W : World} {base : Nat} {v : Value} {d : DataW H} {p : List MemPlace} (hval : Value.okWide Tryz.prog W .any base 23 v)
    (h : DataW.Trod enc Tryz.prog W 0 (fun _ => true) true 23 v d p) : ∃ L : List AnsD, AnsRow W v L ∧ ∀ a ∈ L, a.item.key.size + a.item.value.size ≤ Rows.uptoBulk d := by
  obtain ⟨a0, len, cap, rfl⟩ := okWide_slice Tryz.underlying23 hval
  obtain ⟨fuel, hf⟩ := h
  have hC : Tryz.prog.cellsOf 52 = 8 := by kernel_rfl
  rcases Go.Deep.open_slice Tryz.underlying23 hf with ⟨hcs, hx⟩ | ⟨a, len', cap', m, n, D, Pl, hcs, _, hl, hm, hmm, hx, hel⟩
  · obtain ⟨rfl, rfl, rfl⟩ : a0 = none ∧ len = 0 ∧ cap = 0 := by simpa [Value.cells] using hcs
    exact ⟨[], ⟨by unfold maxLen; simp, fun x hx => by simp at hx, none, 0, rfl, fun j x hj => by simp at hj⟩, fun x hx => by simp at hx⟩
  · obtain ⟨rfl, rfl, rfl⟩ : a0 = some a ∧ len = len' ∧ cap = cap' := by simpa [Value.cells] using hcs
    simp only [if_true] at hmm
    subst hmm
    obtain ⟨rfl, -⟩ := Prod.mk.inj hx
    rw [hC] at hel
    have : Inhabited AnsD := ⟨missA⟩
    have each : ∀ r, r < m → ∃ x : AnsD, (AnsIs x ∧ x.item.key.size + x.item.value.size ≤ Rows.uptoBulk (D r)) ∧ ∀ (i : Nat) (u : Value), (ansCells x)[i]? = some u → W.cell? ((a.add (r * 8)).add i) = some u := fun r hr => by
      obtain ⟨cs', h1, h2⟩ := hel r hr
      obtain ⟨_, hlc, hat⟩ := World.cells?_some h1
      obtain ⟨x, rfl, hs, hbk⟩ := trod_ans h2
      refine ⟨x, ⟨hs, hbk⟩, fun i u hu => ?_⟩
      rw [hat i (by have := (List.getElem?_eq_some_iff.1 hu).1; omega)]
      exact hu
    obtain ⟨X, hX⟩ := Go.Deep.choose_lt each
    refine ⟨(List.range len).map X, ⟨by simp; omega, fun x hx => ?_, some a, m, by simp, fun j x hj => ?_⟩, fun x hx => ?_⟩
    · obtain ⟨r, hr, rfl⟩ := List.mem_map.1 hx
      exact (hX r (by have := List.mem_range.1 hr; omega)).1.1
    · have hjl : j < len := by have := (List.getElem?_eq_some_iff.1 hj).1; simpa using this
      obtain rfl : X j = x := by simpa [List.getElem?_map, List.getElem?_range hjl] using hj
      have hc := (hX j (by omega)).2
      obtain ⟨b, off, spot⟩ := a
      have h0 := (hX 0 (by omega)).2 0 _ rfl
      have hspot : spot = none := by simpa [Addr.add] using World.cell?_spot h0
      subst hspot
      have hc' : ∀ (i : Nat) (u : Value), (ansCells (X j))[i]? = some u → W.cell? ⟨b, off + (j * 8 + i), none⟩ = some u := fun i u hu => by
        have h1 := hc i u hu
        rwa [Go.WideShapes.add_plain, Go.WideShapes.add_plain, Nat.add_assoc] at h1
      exact ⟨b, off, rfl, cell_lt (hc' 0 _ rfl), hc'⟩
    · obtain ⟨r, hr, rfl⟩ := List.mem_map.1 hx
      have hr' := List.mem_range.1 hr
      have h1 := (hX r (by omega)).1.2
      have h2 := bulk_mem ((List.range len).map D) (D r) (List.mem_map.2 ⟨r, hr, rfl⟩)
      simp only [Rows.uptoBulk]
      omega
end Go.Proofs.YtddifbimlmkcbaaGreatDoor
