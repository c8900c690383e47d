/- The arguments that are commands and answers. No condition. (Printed by genopen.py.) -/
import Derived.Test.YtaooangnnlopcaaDoorLowI
import Derived.Test.YtaooangnnlopcaaDoorTypes
namespace Go.Proofs.YtaooangnnlopcaaDoor
open Go.ChangeShapes Go.WideShapes Go.ChangeAt Go.RowKit

set_option maxRecDepth 100000 in
theorem trod_call {H : Type} {enc : TypeId × Value → H} {W : World} {base : Nat} {sp : Nat → Bool} {held : Bool} {fuel : Nat} {c0 c1 c2 c3 c4 c5 c6 : Value} {y : DataW H × List MemPlace} (h : DataW.trod enc Tryd.prog W base sp held fuel 26 [c0, c1, c2, c3, c4, c5, c6] = some y) :
    ∃ r : CallD, [c0, c1, c2, c3, c4, c5, c6] = r.cells ∧ r.Ok ∧ r.key.size + r.value.size ≤ Rows.uptoBulk y.1 := by
  obtain ⟨xs, n, _, hx, _, hlen, hg⟩ := DataW.trod_struct Tryd.underlying26 h
  have k_int64 : Tryd.prog.cellsOf 2 = 1 := by kernel_rfl
  have k_nestboxapiVerb : Tryd.prog.cellsOf 22 = 1 := by kernel_rfl
  have k_string : Tryd.prog.cellsOf 9 = 1 := by kernel_rfl
  have k_uint32 : Tryd.prog.cellsOf 23 = 1 := by kernel_rfl
  have k_uint64 : Tryd.prog.cellsOf 24 = 1 := by kernel_rfl
  match xs, hlen with
  | [y0, y1, y2, y3, y4, y5, y6], _ =>
    have h0 := hg 0 _ rfl
    simp [k_nestboxapiVerb] at h0
    obtain ⟨z0, e0, rfl, w0⟩ := DataW.trod_int Tryd.underlying22 h0
    obtain rfl := List.cons.inj e0 |>.1
    have h1 := hg 1 _ rfl
    simp [k_string] at h1
    obtain ⟨z1, e1, rfl, w1⟩ := DataW.trod_string Tryd.underlying9 h1
    obtain rfl := List.cons.inj e1 |>.1
    have h2 := hg 2 _ rfl
    simp [k_string] at h2
    obtain ⟨z2, e2, rfl, w2⟩ := DataW.trod_string Tryd.underlying9 h2
    obtain rfl := List.cons.inj e2 |>.1
    have h3 := hg 3 _ rfl
    simp [k_uint32] at h3
    obtain ⟨z3, e3, rfl, w3⟩ := DataW.trod_int Tryd.underlying23 h3
    obtain rfl := List.cons.inj e3 |>.1
    have h4 := hg 4 _ rfl
    simp [k_int64] at h4
    obtain ⟨z4, e4, rfl, w4⟩ := DataW.trod_int Tryd.underlying2 h4
    obtain rfl := List.cons.inj e4 |>.1
    have h5 := hg 5 _ rfl
    simp [k_uint64] at h5
    obtain ⟨z5, e5, rfl, w5⟩ := DataW.trod_int Tryd.underlying24 h5
    obtain rfl := List.cons.inj e5 |>.1
    have h6 := hg 6 _ rfl
    simp [k_uint64] at h6
    obtain ⟨z6, e6, rfl, w6⟩ := DataW.trod_int Tryd.underlying24 h6
    obtain rfl := List.cons.inj e6 |>.1
    subst hx
    refine ⟨⟨z0, z1, z2, z3, z4, z5, z6⟩, rfl, ⟨bounds_u8 w0, w1, w2, bounds_u32 w3, bounds_u64 w5, bounds_u64 w6⟩, ?_⟩
    have q1 := bs_length z1
    unfold bs at q1
    have q2 := bs_length z2
    unfold bs at q2
    simp only [List.map_cons, List.map_nil, Rows.uptoBulk, Rows.uptoBulkAll]
    omega

set_option maxRecDepth 100000 in
theorem trod_item {H : Type} {enc : TypeId × Value → H} {W : World} {base : Nat} {sp : Nat → Bool} {held : Bool} {fuel : Nat} {c0 c1 c2 c3 c4 c5 : Value} {y : DataW H × List MemPlace} (h : DataW.trod enc Tryd.prog W base sp held fuel 37 [c0, c1, c2, c3, c4, c5] = some y) :
    ∃ r : ItemD, [c0, c1, c2, c3, c4, c5] = r.cells ∧ r.Ok ∧ r.key.size + r.value.size ≤ Rows.uptoBulk y.1 := by
  obtain ⟨xs, n, _, hx, _, hlen, hg⟩ := DataW.trod_struct Tryd.underlying37 h
  have k_int : Tryd.prog.cellsOf 3 = 1 := by kernel_rfl
  have k_string : Tryd.prog.cellsOf 9 = 1 := by kernel_rfl
  have k_uint32 : Tryd.prog.cellsOf 23 = 1 := by kernel_rfl
  have k_uint64 : Tryd.prog.cellsOf 24 = 1 := by kernel_rfl
  match xs, hlen with
  | [y0, y1, y2, y3, y4, y5], _ =>
    have h0 := hg 0 _ rfl
    simp [k_string] at h0
    obtain ⟨z0, e0, rfl, w0⟩ := DataW.trod_string Tryd.underlying9 h0
    obtain rfl := List.cons.inj e0 |>.1
    have h1 := hg 1 _ rfl
    simp [k_string] at h1
    obtain ⟨z1, e1, rfl, w1⟩ := DataW.trod_string Tryd.underlying9 h1
    obtain rfl := List.cons.inj e1 |>.1
    have h2 := hg 2 _ rfl
    simp [k_uint32] at h2
    obtain ⟨z2, e2, rfl, w2⟩ := DataW.trod_int Tryd.underlying23 h2
    obtain rfl := List.cons.inj e2 |>.1
    have h3 := hg 3 _ rfl
    simp [k_uint64] at h3
    obtain ⟨z3, e3, rfl, w3⟩ := DataW.trod_int Tryd.underlying24 h3
    obtain rfl := List.cons.inj e3 |>.1
    have h4 := hg 4 _ rfl
    simp [k_int] at h4
    obtain ⟨z4, e4, rfl, w4⟩ := DataW.trod_int Tryd.underlying3 h4
    obtain rfl := List.cons.inj e4 |>.1
    have h5 := hg 5 _ rfl
    simp [k_int] at h5
    obtain ⟨z5, e5, rfl, w5⟩ := DataW.trod_int Tryd.underlying3 h5
    obtain rfl := List.cons.inj e5 |>.1
    subst hx
    refine ⟨⟨z0, z1, z2, z3, z4, z5⟩, rfl, ⟨w0, w1, bounds_u32 w2, bounds_u64 w3⟩, ?_⟩
    have q0 := bs_length z0
    unfold bs at q0
    have q1 := bs_length z1
    unfold bs at q1
    simp only [List.map_cons, List.map_nil, Rows.uptoBulk, Rows.uptoBulkAll]
    omega

set_option maxRecDepth 100000 in
/-- An argument that is an answer. -/
theorem open_ans {H : Type} {enc : TypeId × Value → H} {W : World} {base : Nat} {v : Value} {d : DataW H} {p : List MemPlace} (hval : Value.okWide Tryd.prog W .any base 39 v)
    (h : DataW.Trod enc Tryd.prog W 0 (fun _ => true) true 39 v d p) : ∃ a : AnsD, v = a.val ∧ a.Ok ∧ a.item.key.size + a.item.value.size ≤ Rows.uptoBulk d := by
  obtain ⟨cs, rfl, hsz⟩ := okWide_struct Tryd.underlying39 hval
  obtain ⟨l⟩ := cs
  have hC : Tryd.prog.cellsOf 39 = 8 := by kernel_rfl
  have kv : Tryd.prog.cellsOf 35 = 1 := by kernel_rfl
  have ku : Tryd.prog.cellsOf 24 = 1 := by kernel_rfl
  have ki : Tryd.prog.cellsOf 37 = 6 := by kernel_rfl
  match l, hsz.trans hC with
  | [c0, c1, c2, c3, c4, c5, c6, c7], _ =>
    obtain ⟨fuel, hf⟩ := h
    obtain ⟨xs, n, _, hx, _, hlen, hg⟩ := DataW.trod_struct Tryd.underlying39 hf
    match xs, hlen with
    | [y0, y1, y2], _ =>
      have h0 := hg 0 _ rfl
      have h1 := hg 1 _ rfl
      have h2 := hg 2 _ rfl
      simp [kv, Value.cells] at h0
      simp [ku, Value.cells] at h1
      simp [ki, Value.cells] at h2
      obtain ⟨z0, e0, rfl, w0⟩ := DataW.trod_int Tryd.underlying35 h0
      obtain rfl := List.cons.inj e0 |>.1
      obtain ⟨z1, e1, rfl, w1⟩ := DataW.trod_int Tryd.underlying24 h1
      obtain rfl := List.cons.inj e1 |>.1
      obtain ⟨r, e2, hr, hb⟩ := trod_item h2
      simp only [Prod.mk.injEq] at hx
      obtain ⟨rfl, _⟩ := hx
      refine ⟨⟨z0, z1, r⟩, ?_, ⟨bounds_u8 w0, bounds_u64 w1, hr⟩, ?_⟩
      · simp only [List.cons.injEq, and_true] at e2
        obtain ⟨rfl, rfl, rfl, rfl, rfl, rfl⟩ := e2
        rfl
      · simp only [List.map_cons, List.map_nil, Rows.uptoBulk, Rows.uptoBulkAll]
        omega

set_option maxRecDepth 100000 in
/-- An argument that is an item. -/
theorem open_item {H : Type} {enc : TypeId × Value → H} {W : World} {base : Nat} {v : Value} {d : DataW H} {p : List MemPlace} (hval : Value.okWide Tryd.prog W .any base 37 v)
    (h : DataW.Trod enc Tryd.prog W 0 (fun _ => true) true 37 v d p) : ∃ x : ItemD, v = .agg ⟨x.cells⟩ ∧ x.Ok ∧ x.key.size + x.value.size ≤ Rows.uptoBulk d := by
  obtain ⟨cs, rfl, hsz⟩ := okWide_struct Tryd.underlying37 hval
  obtain ⟨l⟩ := cs
  have hC : Tryd.prog.cellsOf 37 = 6 := by kernel_rfl
  match l, hsz.trans hC with
  | [c0, c1, c2, c3, c4, c5], _ =>
    obtain ⟨fuel, hf⟩ := h
    obtain ⟨r, e, hr, hb⟩ := trod_item hf
    exact ⟨r, by rw [e], hr, hb⟩
set_option maxRecDepth 100000 in
/-- An argument that is a call. -/
theorem open_call {H : Type} {enc : TypeId × Value → H} {W : World} {base : Nat} {v : Value} {d : DataW H} {p : List MemPlace} (hval : Value.okWide Tryd.prog W .any base 26 v)
    (h : DataW.Trod enc Tryd.prog W 0 (fun _ => true) true 26 v d p) : ∃ x : CallD, v = .agg ⟨x.cells⟩ ∧ x.Ok ∧ x.key.size + x.value.size ≤ Rows.uptoBulk d := by
  obtain ⟨cs, rfl, hsz⟩ := okWide_struct Tryd.underlying26 hval
  obtain ⟨l⟩ := cs
  have hC : Tryd.prog.cellsOf 26 = 7 := by kernel_rfl
  match l, hsz.trans hC with
  | [c0, c1, c2, c3, c4, c5, c6], _ =>
    obtain ⟨fuel, hf⟩ := h
    obtain ⟨r, e, hr, hb⟩ := trod_call hf
    exact ⟨r, by rw [e], hr, hb⟩
set_option maxRecDepth 100000 in
/-- An argument that is a pair of numbers. -/
theorem open_pair {H : Type} {enc : TypeId × Value → H} {W : World} {base : Nat} {v : Value} {d : DataW H} {p : List MemPlace} (hval : Value.okWide Tryd.prog W .any base 49 v)
    (h : DataW.Trod enc Tryd.prog W 0 (fun _ => true) true 49 v d p) : ∃ a b : Int, v = .agg #[.int .u64 a, .int .u64 b] ∧ (0 ≤ a ∧ a ≤ 18446744073709551615) ∧ 0 ≤ b ∧ b ≤ 18446744073709551615 := by
  have hcs : ∃ cs, v = .agg cs ∧ cs.size = Tryd.prog.cellsOf 49 := by
    simp only [Value.okWide, Tryd.underlying49] at hval
    obtain ⟨cs, h1, h2, _⟩ := hval
    exact ⟨cs, h1, h2⟩
  obtain ⟨cs, rfl, hsz⟩ := hcs
  obtain ⟨l⟩ := cs
  have hC : Tryd.prog.cellsOf 49 = 2 := by kernel_rfl
  have hu : Tryd.prog.cellsOf 24 = 1 := by kernel_rfl
  match l, hsz.trans hC with
  | [c0, c1], _ =>
    obtain ⟨fuel, hf⟩ := h
    obtain ⟨xs, n, _, hx, _, hlen, hg⟩ := DataW.trod_array Tryd.underlying49 hf
    match xs, hlen with
    | [y0, y1], _ =>
      have h0 := hg 0 (by omega)
      have h1 := hg 1 (by omega)
      simp [hu, Value.cells] at h0 h1
      obtain ⟨z0, e0, _, w0⟩ := DataW.trod_int Tryd.underlying24 h0
      obtain ⟨z1, e1, _, w1⟩ := DataW.trod_int Tryd.underlying24 h1
      obtain rfl := List.cons.inj e0 |>.1
      obtain rfl := List.cons.inj e1 |>.1
      exact ⟨z0, z1, rfl, bounds_u64 w0, bounds_u64 w1⟩
end Go.Proofs.YtaooangnnlopcaaDoor
