/- An argument that is two bytes. No condition. -/
import Derived.Test.YtahpjhnbjkjkiaaDoorLowI
namespace Go.Proofs.YtahpjhnbjkjkiaaDoor
open Go.ChangeShapes Go.WideShapes Go.ChangeAt Go.RowKit

set_option maxRecDepth 100000 in
theorem open_duo {H : Type} {enc : TypeId × Value → H} {W : World} {base : Nat} {v : Value} {d : DataW H} {p : List MemPlace} (hval : Value.okWide Tryd.prog W .any base 55 v)
    (h : DataW.Trod enc Tryd.prog W 0 (fun _ => true) true 55 v d p) : ∃ a b : Nat, v = .agg #[.int .u8 (a : Int), .int .u8 (b : Int)] ∧ a < 256 ∧ b < 256 := by
  have hcs : ∃ cs, v = .agg cs ∧ cs.size = Tryd.prog.cellsOf 55 := by
    simp only [Value.okWide, Tryd.underlying55] at hval
    obtain ⟨cs, h1, h2, _⟩ := hval
    exact ⟨cs, h1, h2⟩
  obtain ⟨cs, rfl, hsz⟩ := hcs
  obtain ⟨l⟩ := cs
  have hC : Tryd.prog.cellsOf 55 = 2 := by kernel_rfl
  have hu : Tryd.prog.cellsOf 5 = 1 := by kernel_rfl
  match l, hsz.trans hC with
  | [c0, c1], _ =>
    obtain ⟨fuel, hf⟩ := h
    obtain ⟨xs, n, _, hx, _, hlen, hg⟩ := DataW.trod_array Tryd.underlying55 hf
    match xs, hlen with
    | [y0, y1], _ =>
      have h0 := hg 0 (by omega)
      have h1 := hg 1 (by omega)
      simp [hu, Value.cells] at h0 h1
      obtain ⟨z0, e0, _, w0⟩ := DataW.trod_int Tryd.underlying5 h0
      obtain rfl := List.cons.inj e0 |>.1
      obtain ⟨z1, e1, _, w1⟩ := DataW.trod_int Tryd.underlying5 h1
      obtain rfl := List.cons.inj e1 |>.1
      have q0 := bounds_u8 w0; have q1 := bounds_u8 w1
      refine ⟨z0.toNat, z1.toNat, ?_, by omega, by omega⟩
      rw [show ((z0.toNat : Nat) : Int) = z0 from by omega, show ((z1.toNat : Nat) : Int) = z1 from by omega]
end Go.Proofs.YtahpjhnbjkjkiaaDoor
