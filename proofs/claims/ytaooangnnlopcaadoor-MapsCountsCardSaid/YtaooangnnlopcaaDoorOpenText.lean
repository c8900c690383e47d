/- Arguments that are flags and a text. No condition. -/
import Derived.Test.YtaooangnnlopcaaDoorLowI
import Derived.Deep.Slices
namespace Go.Proofs.YtaooangnnlopcaaDoor
open Go.ChangeShapes Go.WideShapes Go.ChangeAt Go.RowKit
set_option maxRecDepth 100000 in
theorem open_text {H : Type} {enc : TypeId × Value → H} {W : World} {base : Nat} {v : Value} {d : DataW H} {p : List MemPlace} (hval : Value.okWide Tryd.prog W .any base 51 v)
    (h : DataW.Trod enc Tryd.prog W 0 (fun _ => true) true 51 v d p) : ∃ (f : Int) (s : ByteArray), v = .agg #[.int .u32 f, .string s] ∧ s.size ≤ maxLen := by
  obtain ⟨cs, rfl, hsz⟩ := okWide_struct Tryd.underlying51 hval
  obtain ⟨l⟩ := cs
  obtain ⟨fuel, hf⟩ := h
  obtain ⟨xs, n, _, hx, hcl, hlen, hg⟩ := DataW.trod_struct Tryd.underlying51 hf
  have hC : Tryd.prog.cellsOf 51 = 2 := by kernel_rfl
  have k0 : Tryd.prog.cellsOf 23 = 1 := by kernel_rfl
  have k1 : Tryd.prog.cellsOf 9 = 1 := by kernel_rfl
  match l, hcl.trans hC with
  | [c0, c1], _ =>
  match xs, hlen with
  | [y0, y1], _ =>
    have h0 := hg 0 _ rfl
    simp [k0] at h0
    obtain ⟨z0, e0, rfl, w0⟩ := DataW.trod_int Tryd.underlying23 h0
    obtain rfl := List.cons.inj e0 |>.1
    have h1 := hg 1 _ rfl
    simp [k1] at h1
    obtain ⟨z1, e1, rfl, w1⟩ := DataW.trod_string Tryd.underlying9 h1
    obtain rfl := List.cons.inj e1 |>.1
    exact ⟨z0, z1, rfl, w1⟩
end Go.Proofs.YtaooangnnlopcaaDoor
