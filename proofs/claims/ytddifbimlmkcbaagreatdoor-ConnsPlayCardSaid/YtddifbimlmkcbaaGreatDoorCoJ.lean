/- An argument that is a slice of answers. No condition. An argument that is a slice of acts of chapter 32. No condition. -/
import Derived.Test.YtddifbimlmkcbaaGreatDoorOpen0
import Derived.Test.YtddifbimlmkcbaaGreatDoorCoF
import Derived.Deep.Slices
import Derived.Test.YtddifbimlmkcbaaGreatDoorLowI
import Derived.Test.YtddifbimlmkcbaaGreatDoorCoI
import Derived.Deep.Matrix
namespace Go.Proofs.YtddifbimlmkcbaaGreatDoor
open Go.ChangeShapes Go.WideShapes Go.ChangeAt Go.RowKit

set_option maxRecDepth 100000 in
theorem trod_ans {H : Type} {enc : TypeId × Value → H} {W : World} {base : Nat} {sp : Nat → Bool} {held : Bool} {fuel : Nat} {cs : List Value} {y : DataW H × List MemPlace} (h : DataW.trod enc Tryz.prog W base sp held fuel 52 cs = some y) :
    ∃ a : AnsD, cs = ansCells a ∧ AnsIs a ∧ a.item.key.size + a.item.value.size ≤ Rows.uptoBulk y.1 := by
  obtain ⟨xs, n, _, hx, hcl, hlen, hg⟩ := DataW.trod_struct Tryz.underlying52 h
  have hC : Tryz.prog.cellsOf 52 = 8 := by kernel_rfl
  have kv : Tryz.prog.cellsOf 48 = 1 := by kernel_rfl
  have ku : Tryz.prog.cellsOf 37 = 1 := by kernel_rfl
  have ki : Tryz.prog.cellsOf 50 = 6 := by kernel_rfl
  match cs, hcl.trans hC with
  | [c0, c1, c2, c3, c4, c5, c6, c7], _ =>
    match xs, hlen with
    | [y0, y1, y2], _ =>
      have h0 := hg 0 _ rfl
      have h1 := hg 1 _ rfl
      have h2 := hg 2 _ rfl
      simp [kv] at h0
      simp [ku] at h1
      simp [ki] at h2
      obtain ⟨z0, e0, rfl, w0⟩ := DataW.trod_int Tryz.underlying48 h0
      obtain rfl := List.cons.inj e0 |>.1
      obtain ⟨z1, e1, rfl, w1⟩ := DataW.trod_int Tryz.underlying37 h1
      obtain rfl := List.cons.inj e1 |>.1
      obtain ⟨r, e2, hr, hb⟩ := trod_item h2
      subst hx
      refine ⟨⟨z0, z1, r⟩, ?_, ⟨⟨bounds_u8 w0, bounds_u64 w1, hr⟩, hr.1, hr.2⟩, ?_⟩
      · simp only [List.cons.injEq, and_true] at e2
        obtain ⟨rfl, rfl, rfl, rfl, rfl, rfl⟩ := e2
        rfl
      · simp only [List.map_cons, List.map_nil, Rows.uptoBulk, Rows.uptoBulkAll]
        omega
end Go.Proofs.YtddifbimlmkcbaaGreatDoor
namespace Go.Proofs.YtddifbimlmkcbaaGreatDoor
open Go.ChangeShapes Go.WideShapes Go.ChangeAt Go.RowKit
set_option maxRecDepth 100000 in
theorem trod_bytesP {H : Type} {enc : TypeId × Value → H} {W : World} {fuel : Nat} {c1 : Value} {y : DataW H × List MemPlace} (h : DataW.trod enc Tryz.prog W 0 (fun _ => true) true fuel 22 [c1] = some y) : ∃ bl : List UInt8, BRow W c1 bl := by
  have hC : Tryz.prog.cellsOf 5 = 1 := by kernel_rfl
  obtain ⟨a0, len, cap, rfl⟩ : ∃ ka kn kc, c1 = .slice ka kn kc := by
    rcases DataW.trod_slice Tryz.underlying22 h with ⟨e1, rfl⟩ | ⟨a, len, cap, elems, rest, m, _, e1, _⟩
    · exact ⟨none, 0, 0, (List.cons.inj e1).1⟩
    · exact ⟨some a, len, cap, (List.cons.inj e1).1⟩
  rcases Go.Deep.open_slice Tryz.underlying22 h with ⟨hcs, hx⟩ | ⟨a, len', cap', m, n, D, Pl, hcs, _, hl, hm, hmm, _, hel⟩
  · obtain ⟨rfl, rfl, rfl⟩ : a0 = none ∧ len = 0 ∧ cap = 0 := by simpa using hcs
    exact ⟨[], none, 0, rfl, Nat.le_refl _, by unfold maxLen; omega, fun _ => rfl, .inl rfl⟩
  · obtain ⟨rfl, rfl, rfl⟩ : a0 = some a ∧ len = len' ∧ cap = cap' := by simpa using hcs
    simp only [if_true] at hmm
    subst hmm
    rw [hC] at hel
    have each : ∀ r, r < m → ∃ x : UInt8, W.cell? (a.add (r * 1)) = some (u8v x) := fun r hr => by
      obtain ⟨cs', h1, h2⟩ := hel r hr
      obtain ⟨_, hlc, hat⟩ := World.cells?_some h1
      obtain ⟨z, e, -, hz⟩ := DataW.trod_int Tryz.underlying5 h2
      subst e
      refine ⟨UInt8.ofNat z.toNat, ?_⟩
      have h3 := hat 0 (by simp)
      rw [show (a.add (r * 1)).add 0 = a.add (r * 1) from by simp [Addr.add]] at h3
      rw [h3, u8_of hz]
      rfl
    obtain ⟨X, hX⟩ := Go.Deep.choose_lt each
    refine ⟨(List.range len).map X, some a, m, by simp, by simp; omega, by omega, (fun e => by cases e), ?_⟩
    by_cases h0 : len = 0
    · left; simp [h0]
    · right
      obtain ⟨b, off, spot⟩ := a
      have hc0 := hX 0 (by omega)
      have hspot : spot = none := by simpa [Addr.add] using World.cell?_spot hc0
      subst hspot
      have hc' : ∀ j, j < m → W.cell? ⟨b, off + j, none⟩ = some (u8v (X j)) := fun j hj => by
        have h1 := hX j hj
        rwa [Go.WideShapes.add_plain, Nat.mul_one] at h1
      refine ⟨b, off, rfl, cell_lt (hc' 0 (by omega)), fun j x hj => ?_⟩
      have hjl : j < len := by have := (List.getElem?_eq_some_iff.1 hj).1; simpa using this
      obtain rfl : X j = x := by simpa [List.getElem?_map, List.getElem?_range hjl] using hj
      exact hc' j (by omega)
set_option maxRecDepth 100000 in
theorem trod_pact {H : Type} {enc : TypeId × Value → H} {W : World} {fuel : Nat} {cs : List Value} {y : DataW H × List MemPlace} (h : DataW.trod enc Tryz.prog W 0 (fun _ => true) true fuel 67 cs = some y) :
    ∃ (x : PActD) (bv : Value), cs = pactCells x bv ∧ PActIs x ∧ BRow W bv x.bytes := by
  obtain ⟨xs, n, _, hx, hcl, hlen, hg⟩ := DataW.trod_struct Tryz.underlying67 h
  have hC : Tryz.prog.cellsOf 67 = 10 := by kernel_rfl
  have k0 : Tryz.prog.cellsOf 5 = 1 := by kernel_rfl
  have k1 : Tryz.prog.cellsOf 22 = 1 := by kernel_rfl
  have k2 : Tryz.prog.cellsOf 52 = 8 := by kernel_rfl
  match cs, hcl.trans hC with
  | [c0, c1, c2, c3, c4, c5, c6, c7, c8, c9], _ =>
  match xs, hlen with
  | [y0, y1, y2], _ =>
    have h0 := hg 0 _ rfl
    have h1 := hg 1 _ rfl
    have h2 := hg 2 _ rfl
    simp [k0] at h0
    simp [k1] at h1
    simp [k2] at h2
    obtain ⟨z0, e0, rfl, w0⟩ := DataW.trod_int Tryz.underlying5 h0
    obtain rfl := List.cons.inj e0 |>.1
    obtain ⟨bl, hb⟩ := trod_bytesP h1
    obtain ⟨a, e2, ha, -⟩ := trod_ans h2
    simp only [List.cons.injEq, and_true] at e2
    obtain ⟨rfl, rfl, rfl, rfl, rfl, rfl, rfl, rfl⟩ := e2
    exact ⟨⟨z0, bl, a⟩, c1, rfl, ⟨bounds_u8 w0, ha.1, ha.2, ha.3⟩, hb⟩
set_option maxRecDepth 100000 in
theorem open_pacts {H : Type} {enc : TypeId × Value → H} {W : World} {base : Nat} {v : Value} {d : DataW H} {p : List MemPlace} (hval : Value.okWide Tryz.prog W .any base 54 v)
    (h : DataW.Trod enc Tryz.prog W 0 (fun _ => true) true 54 v d p) : ∃ L : List PActD, PActRow W v L := by
  obtain ⟨a0, len, cap, rfl⟩ := okWide_slice Tryz.underlying54 hval
  obtain ⟨fuel, hf⟩ := h
  have hC : Tryz.prog.cellsOf 67 = 10 := by kernel_rfl
  rcases Go.Deep.open_slice Tryz.underlying54 hf with ⟨hcs, hx⟩ | ⟨a, len', cap', m, n, D, Pl, hcs, _, hl, hm, hmm, hx, hel⟩
  · obtain ⟨rfl, rfl, rfl⟩ : a0 = none ∧ len = 0 ∧ cap = 0 := by simpa [Value.cells] using hcs
    exact ⟨[], none, 0, rfl, by unfold maxLen; simp, (fun x hx => by simp at hx), fun j x hj => by simp at hj⟩
  · obtain ⟨rfl, rfl, rfl⟩ : a0 = some a ∧ len = len' ∧ cap = cap' := by simpa [Value.cells] using hcs
    simp only [if_true] at hmm
    subst hmm
    rw [hC] at hel
    have : Inhabited PActD := ⟨⟨0, [], missA⟩⟩
    have each : ∀ r, r < m → ∃ x : PActD, PActIs x ∧ ∃ bv, BRow W bv x.bytes ∧ ∀ (i : Nat) (u : Value), (pactCells x bv)[i]? = some u → W.cell? ((a.add (r * 10)).add i) = some u := fun r hr => by
      obtain ⟨cs', h1, h2⟩ := hel r hr
      obtain ⟨_, hlc, hat⟩ := World.cells?_some h1
      obtain ⟨x, bv, rfl, hs, hb⟩ := trod_pact h2
      refine ⟨x, hs, bv, hb, fun i u hu => ?_⟩
      rw [hat i (by have := (List.getElem?_eq_some_iff.1 hu).1; omega)]
      exact hu
    obtain ⟨X, hX⟩ := Go.Deep.choose_lt each
    refine ⟨(List.range len).map X, some a, m, by simp, by simp; omega, fun x hx => ?_, fun j x hj => ?_⟩
    · obtain ⟨r, hr, rfl⟩ := List.mem_map.1 hx
      exact (hX r (by have := List.mem_range.1 hr; omega)).1
    · have hjl : j < len := by have := (List.getElem?_eq_some_iff.1 hj).1; simpa using this
      obtain rfl : X j = x := by simpa [List.getElem?_map, List.getElem?_range hjl] using hj
      obtain ⟨-, bv, hb, hc⟩ := hX j (by omega)
      obtain ⟨-, bv0, -, hc0⟩ := hX 0 (by omega)
      obtain ⟨b, off, spot⟩ := a
      have h0 := hc0 0 _ rfl
      have hspot : spot = none := by simpa [Addr.add] using World.cell?_spot h0
      subst hspot
      have hc' : ∀ (i : Nat) (u : Value), (pactCells (X j) bv)[i]? = some u → W.cell? ⟨b, off + j * 10 + i, none⟩ = some u := fun i u hu => by
        have h1 := hc i u hu
        rwa [Go.WideShapes.add_plain, Go.WideShapes.add_plain] at h1
      exact ⟨b, off, bv, rfl, cell_lt (hc' 0 _ rfl), hc', hb, fun k hk hne => hb.blk hne hk⟩
end Go.Proofs.YtddifbimlmkcbaaGreatDoor
