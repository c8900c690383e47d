/- Arguments that are acts: a call with its answer, a record. No condition. -/
import Derived.Test.YtaooangnnlopcaaGreatDoorLowI
import Derived.Test.YtaooangnnlopcaaGreatDoorOpen0
import Derived.Test.YtaooangnnlopcaaGreatDoorMapsAct
import Derived.Deep.Slices
namespace Go.Proofs.YtaooangnnlopcaaGreatDoor
open Go.ChangeShapes Go.WideShapes Go.ChangeAt Go.RowKit
set_option maxRecDepth 100000 in
theorem trod_itemC {H : Type} {enc : TypeId × Value → H} {W : World} {base : Nat} {sp : Nat → Bool} {held : Bool} {fuel : Nat} {cs : List Value} {y : DataW H × List MemPlace} (h : DataW.trod enc Tryz.prog W base sp held fuel 38 cs = some y) :
    ∃ x : ItemD, cs = itemCells x ∧ x.key.size ≤ maxLen ∧ x.value.size ≤ maxLen := by
  obtain ⟨xs, n, _, hx, hcl, hlen, hg⟩ := DataW.trod_struct Tryz.underlying38 h
  have hC : Tryz.prog.cellsOf 38 = 6 := by kernel_rfl
  have kk0 : Tryz.prog.cellsOf 9 = 1 := by kernel_rfl
  have kk1 : Tryz.prog.cellsOf 33 = 1 := by kernel_rfl
  have kk2 : Tryz.prog.cellsOf 29 = 1 := by kernel_rfl
  have kk3 : Tryz.prog.cellsOf 3 = 1 := by kernel_rfl
  match cs, hcl.trans hC with
  | [c0, c1, c2, c3, c4, c5], _ =>
  match xs, hlen with
  | [y0, y1, y2, y3, y4, y5], _ =>
    have h0 := hg 0 _ rfl
    simp [kk0] at h0
    obtain ⟨z0, e0, rfl, w0⟩ := DataW.trod_string Tryz.underlying9 h0
    obtain rfl := List.cons.inj e0 |>.1
    have h1 := hg 1 _ rfl
    simp [kk0] at h1
    obtain ⟨z1, e1, rfl, w1⟩ := DataW.trod_string Tryz.underlying9 h1
    obtain rfl := List.cons.inj e1 |>.1
    have h2 := hg 2 _ rfl
    simp [kk1] at h2
    obtain ⟨z2, e2, rfl, w2⟩ := DataW.trod_int Tryz.underlying33 h2
    obtain rfl := List.cons.inj e2 |>.1
    have h3 := hg 3 _ rfl
    simp [kk2] at h3
    obtain ⟨z3, e3, rfl, w3⟩ := DataW.trod_int Tryz.underlying29 h3
    obtain rfl := List.cons.inj e3 |>.1
    have h4 := hg 4 _ rfl
    simp [kk3] at h4
    obtain ⟨z4, e4, rfl, w4⟩ := DataW.trod_int Tryz.underlying3 h4
    obtain rfl := List.cons.inj e4 |>.1
    have h5 := hg 5 _ rfl
    simp [kk3] at h5
    obtain ⟨z5, e5, rfl, w5⟩ := DataW.trod_int Tryz.underlying3 h5
    obtain rfl := List.cons.inj e5 |>.1
    exact ⟨⟨z0, z1, z2, z3, z4, z5⟩, rfl, w0, w1⟩
set_option maxRecDepth 100000 in
theorem trod_callC {H : Type} {enc : TypeId × Value → H} {W : World} {base : Nat} {sp : Nat → Bool} {held : Bool} {fuel : Nat} {cs : List Value} {y : DataW H × List MemPlace} (h : DataW.trod enc Tryz.prog W base sp held fuel 35 cs = some y) :
    ∃ c : CallD, cs = [.int .u8 c.verb, .string c.key, .string c.value, .int .u32 c.flags, .int .i64 c.exp, .int .u64 c.id, .int .u64 c.by'] ∧ FitC c := by
  obtain ⟨xs, n, _, hx, hcl, hlen, hg⟩ := DataW.trod_struct Tryz.underlying35 h
  have hC : Tryz.prog.cellsOf 35 = 7 := by kernel_rfl
  have kk0 : Tryz.prog.cellsOf 32 = 1 := by kernel_rfl
  have kk1 : Tryz.prog.cellsOf 9 = 1 := by kernel_rfl
  have kk2 : Tryz.prog.cellsOf 33 = 1 := by kernel_rfl
  have kk3 : Tryz.prog.cellsOf 2 = 1 := by kernel_rfl
  have kk4 : Tryz.prog.cellsOf 29 = 1 := by kernel_rfl
  match cs, hcl.trans hC with
  | [c0, c1, c2, c3, c4, c5, c6], _ =>
  match xs, hlen with
  | [y0, y1, y2, y3, y4, y5, y6], _ =>
    have h0 := hg 0 _ rfl
    simp [kk0] at h0
    obtain ⟨z0, e0, rfl, w0⟩ := DataW.trod_int Tryz.underlying32 h0
    obtain rfl := List.cons.inj e0 |>.1
    have h1 := hg 1 _ rfl
    simp [kk1] at h1
    obtain ⟨z1, e1, rfl, w1⟩ := DataW.trod_string Tryz.underlying9 h1
    obtain rfl := List.cons.inj e1 |>.1
    have h2 := hg 2 _ rfl
    simp [kk1] at h2
    obtain ⟨z2, e2, rfl, w2⟩ := DataW.trod_string Tryz.underlying9 h2
    obtain rfl := List.cons.inj e2 |>.1
    have h3 := hg 3 _ rfl
    simp [kk2] at h3
    obtain ⟨z3, e3, rfl, w3⟩ := DataW.trod_int Tryz.underlying33 h3
    obtain rfl := List.cons.inj e3 |>.1
    have h4 := hg 4 _ rfl
    simp [kk3] at h4
    obtain ⟨z4, e4, rfl, w4⟩ := DataW.trod_int Tryz.underlying2 h4
    obtain rfl := List.cons.inj e4 |>.1
    have h5 := hg 5 _ rfl
    simp [kk4] at h5
    obtain ⟨z5, e5, rfl, w5⟩ := DataW.trod_int Tryz.underlying29 h5
    obtain rfl := List.cons.inj e5 |>.1
    have h6 := hg 6 _ rfl
    simp [kk4] at h6
    obtain ⟨z6, e6, rfl, w6⟩ := DataW.trod_int Tryz.underlying29 h6
    obtain rfl := List.cons.inj e6 |>.1
    exact ⟨⟨z0, z1, z2, z3, z4, z5, z6⟩, rfl, ⟨bounds_u8 w0, w1, w2, bounds_i64 w4, bounds_u64 w6⟩⟩
set_option maxRecDepth 100000 in
theorem trod_ansC {H : Type} {enc : TypeId × Value → H} {W : World} {base : Nat} {sp : Nat → Bool} {held : Bool} {fuel : Nat} {cs : List Value} {y : DataW H × List MemPlace} (h : DataW.trod enc Tryz.prog W base sp held fuel 40 cs = some y) :
    ∃ a : AnsD, cs = [.int .u8 a.kind, .int .u64 a.number, .string a.item.key, .string a.item.value, .int .u32 a.item.flags, .int .u64 a.item.id, .int .i64 a.item.dies, .int .i64 a.item.gen] ∧ a.item.key.size ≤ maxLen ∧ a.item.value.size ≤ maxLen := by
  obtain ⟨xs, n, _, hx, hcl, hlen, hg⟩ := DataW.trod_struct Tryz.underlying40 h
  have hC : Tryz.prog.cellsOf 40 = 8 := by kernel_rfl
  have kk0 : Tryz.prog.cellsOf 36 = 1 := by kernel_rfl
  have kk1 : Tryz.prog.cellsOf 29 = 1 := by kernel_rfl
  have kk2 : Tryz.prog.cellsOf 38 = 6 := by kernel_rfl
  match cs, hcl.trans hC with
  | [c0, c1, c2, c3, c4, c5, c6, c7], _ =>
  match xs, hlen with
  | [y0, y1, y2], _ =>
    have h0 := hg 0 _ rfl
    simp [kk0] at h0
    obtain ⟨z0, e0, rfl, w0⟩ := DataW.trod_int Tryz.underlying36 h0
    obtain rfl := List.cons.inj e0 |>.1
    have h1 := hg 1 _ rfl
    simp [kk1] at h1
    obtain ⟨z1, e1, rfl, w1⟩ := DataW.trod_int Tryz.underlying29 h1
    obtain rfl := List.cons.inj e1 |>.1
    have h2 := hg 2 _ rfl
    simp [kk2] at h2
    obtain ⟨z2, e2, w2⟩ := trod_itemC h2
    simp only [List.cons.injEq, and_true] at e2
    obtain ⟨rfl, rfl, rfl, rfl, rfl, rfl⟩ := e2
    exact ⟨⟨z0, z1, z2⟩, rfl, w2⟩
structure CalledOk (x : CalledD) : Prop where
  call : FitC x.call
  key : x.ans.item.key.size ≤ maxLen
  value : x.ans.item.value.size ≤ maxLen
  epoch : x.epoch < 18446744073709551616
set_option maxRecDepth 100000 in
theorem trod_called {H : Type} {enc : TypeId × Value → H} {W : World} {base : Nat} {sp : Nat → Bool} {held : Bool} {fuel : Nat} {cs : List Value} {y : DataW H × List MemPlace} (h : DataW.trod enc Tryz.prog W base sp held fuel 42 cs = some y) :
    ∃ x : CalledD, cs = calledL x ∧ CalledOk x := by
  obtain ⟨xs, n, _, hx, hcl, hlen, hg⟩ := DataW.trod_struct Tryz.underlying42 h
  have hC : Tryz.prog.cellsOf 42 = 20 := by kernel_rfl
  have kk0 : Tryz.prog.cellsOf 3 = 1 := by kernel_rfl
  have kk1 : Tryz.prog.cellsOf 35 = 7 := by kernel_rfl
  have kk2 : Tryz.prog.cellsOf 40 = 8 := by kernel_rfl
  have kk3 : Tryz.prog.cellsOf 29 = 1 := by kernel_rfl
  match cs, hcl.trans hC with
  | [c0, c1, c2, c3, c4, c5, c6, c7, c8, c9, c10, c11, c12, c13, c14, c15, c16, c17, c18, c19], _ =>
  match xs, hlen with
  | [y0, y1, y2, y3, y4, y5, y6], _ =>
    have h0 := hg 0 _ rfl
    simp [kk0] at h0
    obtain ⟨z0, e0, rfl, w0⟩ := DataW.trod_int Tryz.underlying3 h0
    obtain rfl := List.cons.inj e0 |>.1
    have h1 := hg 1 _ rfl
    simp [kk1] at h1
    obtain ⟨z1, e1, w1⟩ := trod_callC h1
    simp only [List.cons.injEq, and_true] at e1
    obtain ⟨rfl, rfl, rfl, rfl, rfl, rfl, rfl⟩ := e1
    have h2 := hg 2 _ rfl
    simp [kk0] at h2
    obtain ⟨z2, e2, rfl, w2⟩ := DataW.trod_int Tryz.underlying3 h2
    obtain rfl := List.cons.inj e2 |>.1
    have h3 := hg 3 _ rfl
    simp [kk0] at h3
    obtain ⟨z3, e3, rfl, w3⟩ := DataW.trod_int Tryz.underlying3 h3
    obtain rfl := List.cons.inj e3 |>.1
    have h4 := hg 4 _ rfl
    simp [kk2] at h4
    obtain ⟨z4, e4, w4⟩ := trod_ansC h4
    simp only [List.cons.injEq, and_true] at e4
    obtain ⟨rfl, rfl, rfl, rfl, rfl, rfl, rfl, rfl⟩ := e4
    have h5 := hg 5 _ rfl
    simp [kk3] at h5
    obtain ⟨z5, e5, rfl, w5⟩ := DataW.trod_int Tryz.underlying29 h5
    obtain rfl := List.cons.inj e5 |>.1
    have h6 := hg 6 _ rfl
    simp [kk0] at h6
    obtain ⟨z6, e6, rfl, w6⟩ := DataW.trod_int Tryz.underlying3 h6
    obtain rfl := List.cons.inj e6 |>.1
    have q := bounds_u64 w5
    refine ⟨⟨z0, z1, z2, z3, z4, z5.toNat, z6⟩, ?_, ⟨w1, w4.1, w4.2, by show z5.toNat < _; omega⟩⟩
    unfold calledL
    rw [show (((⟨z0, z1, z2, z3, z4, z5.toNat, z6⟩ : CalledD).epoch : Nat) : Int) = z5 from by show ((z5.toNat : Nat) : Int) = z5; omega]
set_option maxRecDepth 100000 in
theorem trod_act {H : Type} {enc : TypeId × Value → H} {W : World} {base : Nat} {sp : Nat → Bool} {held : Bool} {fuel : Nat} {cs : List Value} {y : DataW H × List MemPlace} (h : DataW.trod enc Tryz.prog W base sp held fuel 44 cs = some y) :
    ∃ x : ActD, cs = actCells x ∧ ActIs x := by
  obtain ⟨xs, n, _, hx, hcl, hlen, hg⟩ := DataW.trod_struct Tryz.underlying44 h
  have hC : Tryz.prog.cellsOf 44 = 27 := by kernel_rfl
  have kk0 : Tryz.prog.cellsOf 5 = 1 := by kernel_rfl
  have kk1 : Tryz.prog.cellsOf 42 = 20 := by kernel_rfl
  have kk2 : Tryz.prog.cellsOf 38 = 6 := by kernel_rfl
  match cs, hcl.trans hC with
  | [c0, c1, c2, c3, c4, c5, c6, c7, c8, c9, c10, c11, c12, c13, c14, c15, c16, c17, c18, c19, c20, c21, c22, c23, c24, c25, c26], _ =>
  match xs, hlen with
  | [y0, y1, y2], _ =>
    have h0 := hg 0 _ rfl
    simp [kk0] at h0
    obtain ⟨z0, e0, rfl, w0⟩ := DataW.trod_int Tryz.underlying5 h0
    obtain rfl := List.cons.inj e0 |>.1
    have h1 := hg 1 _ rfl
    simp [kk1] at h1
    obtain ⟨z1, e1, w1⟩ := trod_called h1
    simp only [List.cons.injEq, and_true] at e1
    obtain ⟨rfl, rfl, rfl, rfl, rfl, rfl, rfl, rfl, rfl, rfl, rfl, rfl, rfl, rfl, rfl, rfl, rfl, rfl, rfl, rfl⟩ := e1
    have h2 := hg 2 _ rfl
    simp [kk2] at h2
    obtain ⟨z2, e2, w2⟩ := trod_itemC h2
    simp only [List.cons.injEq, and_true] at e2
    obtain ⟨rfl, rfl, rfl, rfl, rfl, rfl⟩ := e2
    exact ⟨⟨z0, z1, z2⟩, rfl, ⟨bounds_u8 w0, w1.call, w1.key, w1.value, w1.epoch, w2.1, w2.2⟩⟩
set_option maxRecDepth 100000 in
theorem open_acts {H : Type} {enc : TypeId × Value → H} {W : World} {base : Nat} {v : Value} {d : DataW H} {p : List MemPlace} (hval : Value.okWide Tryz.prog W .any base 22 v)
    (h : DataW.Trod enc Tryz.prog W 0 (fun _ => true) true 22 v d p) : ∃ L : List ActD, ActRow W v L := by
  obtain ⟨a0, len, cap, rfl⟩ := okWide_slice Tryz.underlying22 hval
  obtain ⟨fuel, hf⟩ := h
  have hC : Tryz.prog.cellsOf 44 = 27 := by kernel_rfl
  rcases Go.Deep.open_slice Tryz.underlying22 hf with ⟨hcs, hx⟩ | ⟨a, len', cap', m, n, D, Pl, hcs, _, hl, hm, hmm, _, hel⟩
  · obtain ⟨rfl, rfl, rfl⟩ : a0 = none ∧ len = 0 ∧ cap = 0 := by simpa [Value.cells] using hcs
    exact ⟨[], by unfold maxLen; simp, fun x hx => by simp at hx, none, 0, rfl, fun j x hj => by simp at hj⟩
  · obtain ⟨rfl, rfl, rfl⟩ : a0 = some a ∧ len = len' ∧ cap = cap' := by simpa [Value.cells] using hcs
    simp only [if_true] at hmm
    subst hmm
    rw [hC] at hel
    have : Inhabited ActD := ⟨⟨0, ⟨0, ⟨0, ⟨#[]⟩, ⟨#[]⟩, 0, 0, 0, 0⟩, 0, 0, noAns, 0, 0⟩, noItem⟩⟩
    have each : ∀ r, r < m → ∃ x : ActD, ActIs x ∧ ∀ (i : Nat) (u : Value), (actCells x)[i]? = some u → W.cell? ((a.add (r * 27)).add i) = some u := fun r hr => by
      obtain ⟨cs', h1, h2⟩ := hel r hr
      obtain ⟨_, hlc, hat⟩ := World.cells?_some h1
      obtain ⟨x, rfl, hs⟩ := trod_act h2
      refine ⟨x, hs, fun i u hu => ?_⟩
      rw [hat i (by have := (List.getElem?_eq_some_iff.1 hu).1; omega)]
      exact hu
    obtain ⟨X, hX⟩ := Go.Deep.choose_lt each
    refine ⟨(List.range len).map X, by simp; omega, fun x hx => ?_, some a, m, by simp, fun j x hj => ?_⟩
    · obtain ⟨r, hr, rfl⟩ := List.mem_map.1 hx
      exact (hX r (by have := List.mem_range.1 hr; omega)).1
    · have hjl : j < len := by have := (List.getElem?_eq_some_iff.1 hj).1; simpa using this
      obtain rfl : X j = x := by simpa [List.getElem?_map, List.getElem?_range hjl] using hj
      have hc := (hX j (by omega)).2
      obtain ⟨b, off, spot⟩ := a
      have h0 := (hX 0 (by omega)).2 0 _ rfl
      have hspot : spot = none := by simpa [Addr.add] using World.cell?_spot h0
      subst hspot
      have hc' : ∀ (i : Nat) (u : Value), (actCells (X j))[i]? = some u → W.cell? ⟨b, off + (j * 27 + i), none⟩ = some u := fun i u hu => by
        have h1 := hc i u hu
        rwa [Go.WideShapes.add_plain, Go.WideShapes.add_plain, Nat.add_assoc] at h1
      exact ⟨b, off, rfl, cell_lt (hc' 0 _ rfl), hc'⟩
set_option maxRecDepth 100000 in
theorem open_called {H : Type} {enc : TypeId × Value → H} {W : World} {base : Nat} {v : Value} {d : DataW H} {p : List MemPlace} (hval : Value.okWide Tryz.prog W .any base 42 v)
    (h : DataW.Trod enc Tryz.prog W 0 (fun _ => true) true 42 v d p) : ∃ x : CalledD, v = .agg ⟨calledL x⟩ ∧ CalledOk x := by
  obtain ⟨cs, rfl, hsz⟩ := okWide_struct Tryz.underlying42 hval
  obtain ⟨l⟩ := cs
  obtain ⟨fuel, hf⟩ := h
  obtain ⟨x, e, hx⟩ := trod_called hf
  have e2 : l = calledL x := e
  exact ⟨x, by rw [e2], hx⟩
set_option maxRecDepth 100000 in
theorem open_itemC {H : Type} {enc : TypeId × Value → H} {W : World} {base : Nat} {v : Value} {d : DataW H} {p : List MemPlace} (hval : Value.okWide Tryz.prog W .any base 38 v)
    (h : DataW.Trod enc Tryz.prog W 0 (fun _ => true) true 38 v d p) : ∃ x : ItemD, v = .agg ⟨itemCells x⟩ ∧ x.key.size ≤ maxLen ∧ x.value.size ≤ maxLen := by
  obtain ⟨cs, rfl, hsz⟩ := okWide_struct Tryz.underlying38 hval
  obtain ⟨l⟩ := cs
  obtain ⟨fuel, hf⟩ := h
  obtain ⟨x, e, hx⟩ := trod_itemC hf
  have e2 : l = itemCells x := e
  exact ⟨x, by rw [e2], hx⟩
end Go.Proofs.YtaooangnnlopcaaGreatDoor
