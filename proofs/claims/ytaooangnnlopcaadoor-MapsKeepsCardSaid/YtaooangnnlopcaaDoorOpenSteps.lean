/- Arguments that are calls, and steps of a run of calls. No condition. -/
import Derived.Test.YtaooangnnlopcaaDoorLowI
import Derived.Test.YtaooangnnlopcaaDoorMapsStep
import Derived.Deep.Slices
namespace Go.Proofs.YtaooangnnlopcaaDoor
open Go.ChangeShapes Go.WideShapes Go.ChangeAt Go.RowKit
abbrev callL (x : CallD) : List Value := [.int .u8 x.verb, .string x.key, .string x.value, .int .u32 x.flags, .int .i64 x.exp, .int .u64 x.id, .int .u64 x.by']
set_option maxRecDepth 100000 in
theorem trod_callF {H : Type} {enc : TypeId × Value → H} {W : World} {base : Nat} {sp : Nat → Bool} {held : Bool} {fuel : Nat} {cs : List Value} {y : DataW H × List MemPlace} (h : DataW.trod enc Tryd.prog W base sp held fuel 26 cs = some y) :
    ∃ x : CallD, cs = callL x ∧ CallFit x := by
  obtain ⟨xs, n, _, hx, hcl, hlen, hg⟩ := DataW.trod_struct Tryd.underlying26 h
  have hC : Tryd.prog.cellsOf 26 = 7 := by kernel_rfl
  have k0 : Tryd.prog.cellsOf 22 = 1 := by kernel_rfl
  have k1 : Tryd.prog.cellsOf 9 = 1 := by kernel_rfl
  have k3 : Tryd.prog.cellsOf 23 = 1 := by kernel_rfl
  have k4 : Tryd.prog.cellsOf 2 = 1 := by kernel_rfl
  have k5 : Tryd.prog.cellsOf 24 = 1 := by kernel_rfl
  match cs, hcl.trans hC with
  | [c0, c1, c2, c3, c4, c5, c6], _ =>
  match xs, hlen with
  | [y0, y1, y2, y3, y4, y5, y6], _ =>
    have h0 := hg 0 _ rfl
    simp [k0] at h0
    obtain ⟨z0, e0, rfl, w0⟩ := DataW.trod_int Tryd.underlying22 h0
    obtain rfl := List.cons.inj e0 |>.1
    have h1 := hg 1 _ rfl
    simp [k1] at h1
    obtain ⟨z1, e1, rfl, w1⟩ := DataW.trod_string Tryd.underlying9 h1
    obtain rfl := List.cons.inj e1 |>.1
    have h2 := hg 2 _ rfl
    simp [k1] at h2
    obtain ⟨z2, e2, rfl, w2⟩ := DataW.trod_string Tryd.underlying9 h2
    obtain rfl := List.cons.inj e2 |>.1
    have h3 := hg 3 _ rfl
    simp [k3] at h3
    obtain ⟨z3, e3, rfl, w3⟩ := DataW.trod_int Tryd.underlying23 h3
    obtain rfl := List.cons.inj e3 |>.1
    have h4 := hg 4 _ rfl
    simp [k4] at h4
    obtain ⟨z4, e4, rfl, w4⟩ := DataW.trod_int Tryd.underlying2 h4
    obtain rfl := List.cons.inj e4 |>.1
    have h5 := hg 5 _ rfl
    simp [k5] at h5
    obtain ⟨z5, e5, rfl, w5⟩ := DataW.trod_int Tryd.underlying24 h5
    obtain rfl := List.cons.inj e5 |>.1
    have h6 := hg 6 _ rfl
    simp [k5] at h6
    obtain ⟨z6, e6, rfl, w6⟩ := DataW.trod_int Tryd.underlying24 h6
    obtain rfl := List.cons.inj e6 |>.1
    exact ⟨⟨z0, z1, z2, z3, z4, z5, z6⟩, rfl, ⟨bounds_u8 w0, w1, w2, bounds_u32 w3, bounds_i64 w4, bounds_u64 w5, bounds_u64 w6⟩⟩
set_option maxRecDepth 100000 in
theorem open_callF {H : Type} {enc : TypeId × Value → H} {W : World} {base : Nat} {v : Value} {d : DataW H} {p : List MemPlace} (hval : Value.okWide Tryd.prog W .any base 26 v)
    (h : DataW.Trod enc Tryd.prog W 0 (fun _ => true) true 26 v d p) : ∃ x : CallD, v = .agg ⟨callL x⟩ ∧ CallFit x := by
  obtain ⟨cs, rfl, hsz⟩ := okWide_struct Tryd.underlying26 hval
  obtain ⟨l⟩ := cs
  obtain ⟨fuel, hf⟩ := h
  obtain ⟨x, e, hx⟩ := trod_callF hf
  have e2 : l = callL x := e
  exact ⟨x, by rw [e2], hx⟩
set_option maxRecDepth 100000 in
theorem trod_step {H : Type} {enc : TypeId × Value → H} {W : World} {base : Nat} {sp : Nat → Bool} {held : Bool} {fuel : Nat} {cs : List Value} {y : DataW H × List MemPlace} (h : DataW.trod enc Tryd.prog W base sp held fuel 30 cs = some y) :
    ∃ x : StepD, cs = stepCells x ∧ StepIs x := by
  obtain ⟨xs, n, _, hx, hcl, hlen, hg⟩ := DataW.trod_struct Tryd.underlying30 h
  have hC : Tryd.prog.cellsOf 30 = 8 := by kernel_rfl
  have kc : Tryd.prog.cellsOf 26 = 7 := by kernel_rfl
  have ku : Tryd.prog.cellsOf 5 = 1 := by kernel_rfl
  match cs, hcl.trans hC with
  | [c0, c1, c2, c3, c4, c5, c6, c7], _ =>
  match xs, hlen with
  | [y0, y1], _ =>
    have h0 := hg 0 _ rfl
    simp [kc] at h0
    have h1 := hg 1 _ rfl
    simp [ku] at h1
    obtain ⟨x, e, hxf⟩ := trod_callF h0
    obtain ⟨z1, e1, rfl, w1⟩ := DataW.trod_int Tryd.underlying5 h1
    obtain rfl := List.cons.inj e1 |>.1
    have q := bounds_u8 w1
    refine ⟨⟨x, z1.toNat⟩, ?_, ⟨hxf, by show z1.toNat < 256; omega⟩⟩
    simp only [List.cons.injEq, and_true] at e
    obtain ⟨rfl, rfl, rfl, rfl, rfl, rfl, rfl⟩ := e
    show _ = [Value.int .u8 x.verb, .string x.key, .string x.value, .int .u32 x.flags, .int .i64 x.exp, .int .u64 x.id, .int .u64 x.by', .int .u8 ((z1.toNat : Nat) : Int)]
    rw [show ((z1.toNat : Nat) : Int) = z1 from by omega]
set_option maxRecDepth 100000 in
theorem open_steps {H : Type} {enc : TypeId × Value → H} {W : World} {base : Nat} {v : Value} {d : DataW H} {p : List MemPlace} (hval : Value.okWide Tryd.prog W .any base 27 v)
    (h : DataW.Trod enc Tryd.prog W 0 (fun _ => true) true 27 v d p) : ∃ L : List StepD, StepRow W v L := by
  obtain ⟨a0, len, cap, rfl⟩ := okWide_slice Tryd.underlying27 hval
  obtain ⟨fuel, hf⟩ := h
  have hC : Tryd.prog.cellsOf 30 = 8 := by kernel_rfl
  rcases Go.Deep.open_slice Tryd.underlying27 hf with ⟨hcs, hx⟩ | ⟨a, len', cap', m, n, D, Pl, hcs, _, hl, hm, hmm, _, hel⟩
  · obtain ⟨rfl, rfl, rfl⟩ : a0 = none ∧ len = 0 ∧ cap = 0 := by simpa [Value.cells] using hcs
    exact ⟨[], by unfold maxLen; simp, fun x hx => by simp at hx, none, 0, rfl, fun j x hj => by simp at hj⟩
  · obtain ⟨rfl, rfl, rfl⟩ : a0 = some a ∧ len = len' ∧ cap = cap' := by simpa [Value.cells] using hcs
    simp only [if_true] at hmm
    subst hmm
    rw [hC] at hel
    have : Inhabited StepD := ⟨⟨⟨0, ⟨#[]⟩, ⟨#[]⟩, 0, 0, 0, 0⟩, 0⟩⟩
    have each : ∀ r, r < m → ∃ x : StepD, StepIs x ∧ ∀ (i : Nat) (u : Value), (stepCells x)[i]? = some u → W.cell? ((a.add (r * 8)).add i) = some u := fun r hr => by
      obtain ⟨cs', h1, h2⟩ := hel r hr
      obtain ⟨_, hlc, hat⟩ := World.cells?_some h1
      obtain ⟨x, rfl, hs⟩ := trod_step h2
      refine ⟨x, hs, fun i u hu => ?_⟩
      rw [hat i (by have := (List.getElem?_eq_some_iff.1 hu).1; omega)]
      exact hu
    obtain ⟨X, hX⟩ := Go.Deep.choose_lt each
    refine ⟨(List.range len).map X, by simp; omega, fun x hx => ?_, some a, m, by simp, fun j x hj => ?_⟩
    · obtain ⟨r, hr, rfl⟩ := List.mem_map.1 hx
      exact (hX r (by have := List.mem_range.1 hr; omega)).1
    · have hjl : j < len := by have := (List.getElem?_eq_some_iff.1 hj).1; simpa using this
      obtain rfl : X j = x := by simpa [List.getElem?_map, List.getElem?_range hjl] using hj
      have hc := (hX j (by omega)).2
      obtain ⟨b, off, spot⟩ := a
      have h0 := (hX 0 (by omega)).2 0 _ rfl
      have hspot : spot = none := by simpa [Addr.add] using World.cell?_spot h0
      subst hspot
      have hc' : ∀ (i : Nat) (u : Value), (stepCells (X j))[i]? = some u → W.cell? ⟨b, off + (j * 8 + i), none⟩ = some u := fun i u hu => by
        have h1 := hc i u hu
        rwa [Go.WideShapes.add_plain, Go.WideShapes.add_plain, Nat.add_assoc] at h1
      exact ⟨b, off, rfl, cell_lt (hc' 0 _ rfl), hc'⟩
end Go.Proofs.YtaooangnnlopcaaDoor
