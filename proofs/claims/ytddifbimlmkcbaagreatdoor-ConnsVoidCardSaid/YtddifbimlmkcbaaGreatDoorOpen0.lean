/- The arguments that are commands and answers. No condition. (Printed by genopen.py.) -/
import Derived.Test.YtddifbimlmkcbaaGreatDoorLowI
import Derived.Test.YtddifbimlmkcbaaGreatDoorTypes
namespace Go.Proofs.YtddifbimlmkcbaaGreatDoor
open Go.ChangeShapes Go.WideShapes Go.ChangeAt Go.RowKit

set_option maxRecDepth 100000 in
theorem trod_item {H : Type} {enc : TypeId × Value → H} {W : World} {base : Nat} {sp : Nat → Bool} {held : Bool} {fuel : Nat} {c0 c1 c2 c3 c4 c5 : Value} {y : DataW H × List MemPlace} (h : DataW.trod enc Tryz.prog W base sp held fuel 50 [c0, c1, c2, c3, c4, c5] = some y) :
    ∃ r : ItemD, [c0, c1, c2, c3, c4, c5] = r.cells ∧ r.Ok ∧ r.key.size + r.value.size ≤ Rows.uptoBulk y.1 := by
  obtain ⟨xs, n, _, hx, _, hlen, hg⟩ := DataW.trod_struct Tryz.underlying50 h
  have k_int : Tryz.prog.cellsOf 3 = 1 := by kernel_rfl
  have k_string : Tryz.prog.cellsOf 9 = 1 := by kernel_rfl
  have k_uint32 : Tryz.prog.cellsOf 36 = 1 := by kernel_rfl
  have k_uint64 : Tryz.prog.cellsOf 37 = 1 := by kernel_rfl
  match xs, hlen with
  | [y0, y1, y2, y3, y4, y5], _ =>
    have h0 := hg 0 _ rfl
    simp [k_string] at h0
    obtain ⟨z0, e0, rfl, w0⟩ := DataW.trod_string Tryz.underlying9 h0
    obtain rfl := List.cons.inj e0 |>.1
    have h1 := hg 1 _ rfl
    simp [k_string] at h1
    obtain ⟨z1, e1, rfl, w1⟩ := DataW.trod_string Tryz.underlying9 h1
    obtain rfl := List.cons.inj e1 |>.1
    have h2 := hg 2 _ rfl
    simp [k_uint32] at h2
    obtain ⟨z2, e2, rfl, w2⟩ := DataW.trod_int Tryz.underlying36 h2
    obtain rfl := List.cons.inj e2 |>.1
    have h3 := hg 3 _ rfl
    simp [k_uint64] at h3
    obtain ⟨z3, e3, rfl, w3⟩ := DataW.trod_int Tryz.underlying37 h3
    obtain rfl := List.cons.inj e3 |>.1
    have h4 := hg 4 _ rfl
    simp [k_int] at h4
    obtain ⟨z4, e4, rfl, w4⟩ := DataW.trod_int Tryz.underlying3 h4
    obtain rfl := List.cons.inj e4 |>.1
    have h5 := hg 5 _ rfl
    simp [k_int] at h5
    obtain ⟨z5, e5, rfl, w5⟩ := DataW.trod_int Tryz.underlying3 h5
    obtain rfl := List.cons.inj e5 |>.1
    subst hx
    refine ⟨⟨z0, z1, z2, z3, z4, z5⟩, rfl, ⟨w0, w1, bounds_u32 w2, bounds_u64 w3⟩, ?_⟩
    have q0 := bs_length z0
    unfold bs at q0
    have q1 := bs_length z1
    unfold bs at q1
    simp only [List.map_cons, List.map_nil, Rows.uptoBulk, Rows.uptoBulkAll]
    omega

set_option maxRecDepth 100000 in
/-- An argument that is an answer. -/
theorem open_ans {H : Type} {enc : TypeId × Value → H} {W : World} {base : Nat} {v : Value} {d : DataW H} {p : List MemPlace} (hval : Value.okWide Tryz.prog W .any base 52 v)
    (h : DataW.Trod enc Tryz.prog W 0 (fun _ => true) true 52 v d p) : ∃ a : AnsD, v = a.val ∧ a.Ok ∧ a.item.key.size + a.item.value.size ≤ Rows.uptoBulk d := by
  obtain ⟨cs, rfl, hsz⟩ := okWide_struct Tryz.underlying52 hval
  obtain ⟨l⟩ := cs
  have hC : Tryz.prog.cellsOf 52 = 8 := by kernel_rfl
  have kv : Tryz.prog.cellsOf 48 = 1 := by kernel_rfl
  have ku : Tryz.prog.cellsOf 37 = 1 := by kernel_rfl
  have ki : Tryz.prog.cellsOf 50 = 6 := by kernel_rfl
  match l, hsz.trans hC with
  | [c0, c1, c2, c3, c4, c5, c6, c7], _ =>
    obtain ⟨fuel, hf⟩ := h
    obtain ⟨xs, n, _, hx, _, hlen, hg⟩ := DataW.trod_struct Tryz.underlying52 hf
    match xs, hlen with
    | [y0, y1, y2], _ =>
      have h0 := hg 0 _ rfl
      have h1 := hg 1 _ rfl
      have h2 := hg 2 _ rfl
      simp [kv, Value.cells] at h0
      simp [ku, Value.cells] at h1
      simp [ki, Value.cells] at h2
      obtain ⟨z0, e0, rfl, w0⟩ := DataW.trod_int Tryz.underlying48 h0
      obtain rfl := List.cons.inj e0 |>.1
      obtain ⟨z1, e1, rfl, w1⟩ := DataW.trod_int Tryz.underlying37 h1
      obtain rfl := List.cons.inj e1 |>.1
      obtain ⟨r, e2, hr, hb⟩ := trod_item h2
      simp only [Prod.mk.injEq] at hx
      obtain ⟨rfl, _⟩ := hx
      refine ⟨⟨z0, z1, r⟩, ?_, ⟨bounds_u8 w0, bounds_u64 w1, hr⟩, ?_⟩
      · simp only [List.cons.injEq, and_true] at e2
        obtain ⟨rfl, rfl, rfl, rfl, rfl, rfl⟩ := e2
        rfl
      · simp only [List.map_cons, List.map_nil, Rows.uptoBulk, Rows.uptoBulkAll]
        omega

end Go.Proofs.YtddifbimlmkcbaaGreatDoor
