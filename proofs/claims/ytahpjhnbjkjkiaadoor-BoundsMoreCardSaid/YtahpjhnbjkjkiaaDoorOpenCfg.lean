/- An argument that is a config. No condition. -/
import Derived.Test.YtahpjhnbjkjkiaaDoorLowI
import Derived.Test.YtahpjhnbjkjkiaaDoorLowM
import Derived.Deep.Slices
namespace Go.Proofs.YtahpjhnbjkjkiaaDoor
open Go.ChangeShapes Go.WideShapes Go.ChangeAt Go.RowKit

set_option maxRecDepth 100000 in
theorem open_cfg {H : Type} {enc : TypeId × Value → H} {W : World} {base : Nat} {v : Value} {d : DataW H} {p : List MemPlace} (hval : Value.okWide Tryd.prog W .any base 54 v)
    (h : DataW.Trod enc Tryd.prog W 0 (fun _ => true) true 54 v d p) : ∃ c : CfgD, v = cfgV c := by
  obtain ⟨cs, rfl, hsz⟩ := okWide_struct Tryd.underlying54 hval
  obtain ⟨l⟩ := cs
  have hC : Tryd.prog.cellsOf 54 = 5 := by kernel_rfl
  have k_int : Tryd.prog.cellsOf 3 = 1 := by kernel_rfl
  match l, hsz.trans hC with
  | [c0, c1, c2, c3, c4], _ =>
    obtain ⟨fuel, hf⟩ := h
    obtain ⟨xs, n, _, hx, _, hlen, hg⟩ := DataW.trod_struct Tryd.underlying54 hf
    match xs, hlen with
    | [y0, y1, y2, y3, y4], _ =>
      have h0 := hg 0 _ rfl
      simp [k_int, Value.cells] at h0
      obtain ⟨z0, e0, rfl, w0⟩ := DataW.trod_int Tryd.underlying3 h0
      obtain rfl := List.cons.inj e0 |>.1
      have h1 := hg 1 _ rfl
      simp [k_int, Value.cells] at h1
      obtain ⟨z1, e1, rfl, w1⟩ := DataW.trod_int Tryd.underlying3 h1
      obtain rfl := List.cons.inj e1 |>.1
      have h2 := hg 2 _ rfl
      simp [k_int, Value.cells] at h2
      obtain ⟨z2, e2, rfl, w2⟩ := DataW.trod_int Tryd.underlying3 h2
      obtain rfl := List.cons.inj e2 |>.1
      have h3 := hg 3 _ rfl
      simp [k_int, Value.cells] at h3
      obtain ⟨z3, e3, rfl, w3⟩ := DataW.trod_int Tryd.underlying3 h3
      obtain rfl := List.cons.inj e3 |>.1
      have h4 := hg 4 _ rfl
      simp [k_int, Value.cells] at h4
      obtain ⟨z4, e4, rfl, w4⟩ := DataW.trod_int Tryd.underlying3 h4
      obtain rfl := List.cons.inj e4 |>.1
      exact ⟨⟨z0, z1, z2, z3, z4⟩, rfl⟩
end Go.Proofs.YtahpjhnbjkjkiaaDoor
