/- An argument that is a slice of commands as they are written. No condition. -/
import Derived.Test.YtahpjhnbjkjkiaaDoorLowI
import Derived.Test.YtahpjhnbjkjkiaaDoorFeedBack
import Derived.Deep.Slices
namespace Go.Proofs.YtahpjhnbjkjkiaaDoor
open Go.ChangeShapes Go.WideShapes Go.ChangeAt Go.RowKit

set_option maxRecDepth 100000 in
theorem trod_sent {H : Type} {enc : TypeId × Value → H} {W : World} {base : Nat} {sp : Nat → Bool} {held : Bool} {fuel : Nat} {cs : List Value} {y : DataW H × List MemPlace} (h : DataW.trod enc Tryd.prog W base sp held fuel 49 cs = some y) :
    ∃ x : SentD, cs = sentCells x ∧ SentIs x := by
  obtain ⟨xs, n, _, hx, hcl, hlen, hg⟩ := DataW.trod_struct Tryd.underlying49 h
  have hC : Tryd.prog.cellsOf 49 = 7 := by kernel_rfl
  have k_u8 : Tryd.prog.cellsOf 5 = 1 := by kernel_rfl
  have k_str : Tryd.prog.cellsOf 9 = 1 := by kernel_rfl
  have k_u32 : Tryd.prog.cellsOf 34 = 1 := by kernel_rfl
  have k_i32 : Tryd.prog.cellsOf 21 = 1 := by kernel_rfl
  have k_b : Tryd.prog.cellsOf 4 = 1 := by kernel_rfl
  match cs, hcl.trans hC with
  | [c0, c1, c2, c3, c4, c5, c6], _ =>
  match xs, hlen with
  | [y0, y1, y2, y3, y4, y5, y6], _ =>
    have h0 := hg 0 _ rfl
    simp [k_u8] at h0
    obtain ⟨z0, e0, rfl, w0⟩ := DataW.trod_int Tryd.underlying5 h0
    obtain rfl := List.cons.inj e0 |>.1
    have h1 := hg 1 _ rfl
    simp [k_str] at h1
    obtain ⟨z1, e1, rfl, w1⟩ := DataW.trod_string Tryd.underlying9 h1
    obtain rfl := List.cons.inj e1 |>.1
    have h2 := hg 2 _ rfl
    simp [k_str] at h2
    obtain ⟨z2, e2, rfl, w2⟩ := DataW.trod_string Tryd.underlying9 h2
    obtain rfl := List.cons.inj e2 |>.1
    have h3 := hg 3 _ rfl
    simp [k_u32] at h3
    obtain ⟨z3, e3, rfl, w3⟩ := DataW.trod_int Tryd.underlying34 h3
    obtain rfl := List.cons.inj e3 |>.1
    have h4 := hg 4 _ rfl
    simp [k_i32] at h4
    obtain ⟨z4, e4, rfl, w4⟩ := DataW.trod_int Tryd.underlying21 h4
    obtain rfl := List.cons.inj e4 |>.1
    have h5 := hg 5 _ rfl
    simp [k_b] at h5
    obtain ⟨z5, e5, rfl⟩ := DataW.trod_bool Tryd.underlying4 h5
    obtain rfl := List.cons.inj e5 |>.1
    have h6 := hg 6 _ rfl
    simp [k_b] at h6
    obtain ⟨z6, e6, rfl⟩ := DataW.trod_bool Tryd.underlying4 h6
    obtain rfl := List.cons.inj e6 |>.1
    have q0 := bounds_u8 w0; have q3 := bounds_u32 w3; have q4 := bounds_i32 w4
    refine ⟨⟨z0.toNat, bs z1, bs z2, z3.toNat, z4, z5, z6⟩, ?_, ?_⟩
    · show _ = [Value.int .u8 ((z0.toNat : Nat) : Int), sv (bs z1), sv (bs z2), .int .u32 ((z3.toNat : Nat) : Int), .int .i32 z4, .bool z5, .bool z6]
      rw [show ((z0.toNat : Nat) : Int) = z0 from by omega, show ((z3.toNat : Nat) : Int) = z3 from by omega]
    · exact ⟨by show z0.toNat < 256; omega, by show (bs z1).length ≤ maxLen; rw [bs_length]; exact w1, by show (bs z2).length ≤ maxLen; rw [bs_length]; exact w2, by show z3.toNat < 4294967296; omega, by show -2147483648 ≤ z4; omega, by show z4 ≤ 2147483647; omega⟩
set_option maxRecDepth 100000 in
theorem open_sents {H : Type} {enc : TypeId × Value → H} {W : World} {base : Nat} {v : Value} {d : DataW H} {p : List MemPlace} (hval : Value.okWide Tryd.prog W .any base 47 v)
    (h : DataW.Trod enc Tryd.prog W 0 (fun _ => true) true 47 v d p) : ∃ L : List SentD, SentRow W v L := by
  obtain ⟨a0, len, cap, rfl⟩ := okWide_slice Tryd.underlying47 hval
  obtain ⟨fuel, hf⟩ := h
  have hC : Tryd.prog.cellsOf 49 = 7 := by kernel_rfl
  rcases Go.Deep.open_slice Tryd.underlying47 hf with ⟨hcs, hx⟩ | ⟨a, len', cap', m, n, D, Pl, hcs, _, hl, hm, hmm, _, hel⟩
  · obtain ⟨rfl, rfl, rfl⟩ : a0 = none ∧ len = 0 ∧ cap = 0 := by simpa [Value.cells] using hcs
    exact ⟨[], by unfold maxLen; simp, fun x hx => by simp at hx, none, 0, rfl, fun j x hj => by simp at hj⟩
  · obtain ⟨rfl, rfl, rfl⟩ : a0 = some a ∧ len = len' ∧ cap = cap' := by simpa [Value.cells] using hcs
    simp only [if_true] at hmm
    subst hmm
    rw [hC] at hel
    have : Inhabited SentD := ⟨⟨0, [], [], 0, 0, false, false⟩⟩
    have each : ∀ r, r < m → ∃ x : SentD, SentIs x ∧ ∀ (i : Nat) (u : Value), (sentCells x)[i]? = some u → W.cell? ((a.add (r * 7)).add i) = some u := fun r hr => by
      obtain ⟨cs', h1, h2⟩ := hel r hr
      obtain ⟨_, hlc, hat⟩ := World.cells?_some h1
      obtain ⟨x, rfl, hs⟩ := trod_sent h2
      refine ⟨x, hs, fun i u hu => ?_⟩
      rw [hat i (by have := (List.getElem?_eq_some_iff.1 hu).1; omega)]
      exact hu
    obtain ⟨X, hX⟩ := Go.Deep.choose_lt each
    refine ⟨(List.range len).map X, by simp; omega, fun x hx => ?_, some a, m, by simp, fun j x hj => ?_⟩
    · obtain ⟨r, hr, rfl⟩ := List.mem_map.1 hx
      exact (hX r (by have := List.mem_range.1 hr; omega)).1
    · have hjl : j < len := by have := (List.getElem?_eq_some_iff.1 hj).1; simpa using this
      obtain rfl : X j = x := by simpa [List.getElem?_map, List.getElem?_range hjl] using hj
      have hc := (hX j (by omega)).2
      obtain ⟨b, off, spot⟩ := a
      have h0 := (hX 0 (by omega)).2 0 _ rfl
      have hspot : spot = none := by simpa [Addr.add] using World.cell?_spot h0
      subst hspot
      have hc' : ∀ (i : Nat) (u : Value), (sentCells (X j))[i]? = some u → W.cell? ⟨b, off + (j * 7 + i), none⟩ = some u := fun i u hu => by
        have h1 := hc i u hu
        rwa [Go.WideShapes.add_plain, Go.WideShapes.add_plain, Nat.add_assoc] at h1
      exact ⟨b, off, rfl, cell_lt (hc' 0 _ rfl), hc'⟩
end Go.Proofs.YtahpjhnbjkjkiaaDoor
