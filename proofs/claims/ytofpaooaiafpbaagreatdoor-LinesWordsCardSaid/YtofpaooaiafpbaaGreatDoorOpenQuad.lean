/- An argument that is four numbers of 16 bits. No condition. -/
import Derived.Test.YtofpaooaiafpbaaGreatDoorClose
namespace Go.Proofs.YtofpaooaiafpbaaGreatDoor
open Go.ChangeShapes Go.WideShapes Go.ChangeAt Go.RowKit

set_option maxRecDepth 100000 in
theorem open_quad {H : Type} {enc : TypeId × Value → H} {W : World} {base : Nat} {v : Value} {d : DataW H} {p : List MemPlace} (hval : Value.okWide Tryz.prog W .any base 45 v)
    (h : DataW.Trod enc Tryz.prog W 0 (fun _ => true) true 45 v d p) : ∃ a b c e : Nat, v = .agg #[.int .u16 (a : Int), .int .u16 (b : Int), .int .u16 (c : Int), .int .u16 (e : Int)] ∧ a < 65536 ∧ b < 65536 ∧ c < 65536 ∧ e < 65536 := by
  have hcs : ∃ cs, v = .agg cs ∧ cs.size = Tryz.prog.cellsOf 45 := by
    simp only [Value.okWide, Tryz.underlying45] at hval
    obtain ⟨cs, h1, h2, _⟩ := hval
    exact ⟨cs, h1, h2⟩
  obtain ⟨cs, rfl, hsz⟩ := hcs
  obtain ⟨l⟩ := cs
  have hC : Tryz.prog.cellsOf 45 = 4 := by kernel_rfl
  have hu : Tryz.prog.cellsOf 44 = 1 := by kernel_rfl
  match l, hsz.trans hC with
  | [c0, c1, c2, c3], _ =>
    obtain ⟨fuel, hf⟩ := h
    obtain ⟨xs, n, _, hx, _, hlen, hg⟩ := DataW.trod_array Tryz.underlying45 hf
    match xs, hlen with
    | [y0, y1, y2, y3], _ =>
      have h0 := hg 0 (by omega)
      have h1 := hg 1 (by omega)
      have h2 := hg 2 (by omega)
      have h3 := hg 3 (by omega)
      simp [hu, Value.cells] at h0 h1 h2 h3
      obtain ⟨z0, e0, _, w0⟩ := DataW.trod_int Tryz.underlying44 h0
      obtain rfl := List.cons.inj e0 |>.1
      obtain ⟨z1, e1, _, w1⟩ := DataW.trod_int Tryz.underlying44 h1
      obtain rfl := List.cons.inj e1 |>.1
      obtain ⟨z2, e2, _, w2⟩ := DataW.trod_int Tryz.underlying44 h2
      obtain rfl := List.cons.inj e2 |>.1
      obtain ⟨z3, e3, _, w3⟩ := DataW.trod_int Tryz.underlying44 h3
      obtain rfl := List.cons.inj e3 |>.1
      have q0 := bounds_u16 w0; have q1 := bounds_u16 w1; have q2 := bounds_u16 w2; have q3 := bounds_u16 w3
      refine ⟨z0.toNat, z1.toNat, z2.toNat, z3.toNat, ?_, by omega, by omega, by omega, by omega⟩
      rw [show ((z0.toNat : Nat) : Int) = z0 from by omega, show ((z1.toNat : Nat) : Int) = z1 from by omega, show ((z2.toNat : Nat) : Int) = z2 from by omega, show ((z3.toNat : Nat) : Int) = z3 from by omega]
end Go.Proofs.YtofpaooaiafpbaaGreatDoor
