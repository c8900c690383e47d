/- Arguments that are histories: calls with their answers, drops of records. No condition. -/
import Derived.Test.YtaooangnnlopcaaGreatDoorLowI
import Derived.Test.YtaooangnnlopcaaGreatDoorOpen0
import Derived.Test.YtaooangnnlopcaaGreatDoorLiD
import Derived.Deep.Slices
namespace Go.Proofs.YtaooangnnlopcaaGreatDoor
open Go.ChangeShapes Go.WideShapes Go.ChangeAt Go.RowKit
set_option maxRecDepth 100000 in
theorem trod_itemH {H : Type} {enc : TypeId × Value → H} {W : World} {base : Nat} {sp : Nat → Bool} {held : Bool} {fuel : Nat} {cs : List Value} {y : DataW H × List MemPlace} (h : DataW.trod enc Tryz.prog W base sp held fuel 38 cs = some y) :
    ∃ x : ItemD, cs = [.string x.key, .string x.value, .int .u32 x.flags, .int .u64 x.id, .int .i64 x.dies, .int .i64 x.gen] ∧ x.key.size ≤ maxLen ∧ x.value.size ≤ maxLen := by
  obtain ⟨xs, n, _, hx, hcl, hlen, hg⟩ := DataW.trod_struct Tryz.underlying38 h
  have hC : Tryz.prog.cellsOf 38 = 6 := by kernel_rfl
  have kk0 : Tryz.prog.cellsOf 9 = 1 := by kernel_rfl
  have kk1 : Tryz.prog.cellsOf 33 = 1 := by kernel_rfl
  have kk2 : Tryz.prog.cellsOf 29 = 1 := by kernel_rfl
  have kk3 : Tryz.prog.cellsOf 3 = 1 := by kernel_rfl
  match cs, hcl.trans hC with
  | [c0, c1, c2, c3, c4, c5], _ =>
  match xs, hlen with
  | [y0, y1, y2, y3, y4, y5], _ =>
    have h0 := hg 0 _ rfl
    simp [kk0] at h0
    obtain ⟨z0, e0, rfl, w0⟩ := DataW.trod_string Tryz.underlying9 h0
    obtain rfl := List.cons.inj e0 |>.1
    have h1 := hg 1 _ rfl
    simp [kk0] at h1
    obtain ⟨z1, e1, rfl, w1⟩ := DataW.trod_string Tryz.underlying9 h1
    obtain rfl := List.cons.inj e1 |>.1
    have h2 := hg 2 _ rfl
    simp [kk1] at h2
    obtain ⟨z2, e2, rfl, w2⟩ := DataW.trod_int Tryz.underlying33 h2
    obtain rfl := List.cons.inj e2 |>.1
    have h3 := hg 3 _ rfl
    simp [kk2] at h3
    obtain ⟨z3, e3, rfl, w3⟩ := DataW.trod_int Tryz.underlying29 h3
    obtain rfl := List.cons.inj e3 |>.1
    have h4 := hg 4 _ rfl
    simp [kk3] at h4
    obtain ⟨z4, e4, rfl, w4⟩ := DataW.trod_int Tryz.underlying3 h4
    obtain rfl := List.cons.inj e4 |>.1
    have h5 := hg 5 _ rfl
    simp [kk3] at h5
    obtain ⟨z5, e5, rfl, w5⟩ := DataW.trod_int Tryz.underlying3 h5
    obtain rfl := List.cons.inj e5 |>.1
    exact ⟨⟨z0, z1, z2, z3, z4, z5⟩, rfl, w0, w1⟩
set_option maxRecDepth 100000 in
theorem trod_callH {H : Type} {enc : TypeId × Value → H} {W : World} {base : Nat} {sp : Nat → Bool} {held : Bool} {fuel : Nat} {cs : List Value} {y : DataW H × List MemPlace} (h : DataW.trod enc Tryz.prog W base sp held fuel 35 cs = some y) :
    ∃ c : CallD, cs = [.int .u8 c.verb, .string c.key, .string c.value, .int .u32 c.flags, .int .i64 c.exp, .int .u64 c.id, .int .u64 c.by'] ∧ (0 ≤ c.verb ∧ c.verb ≤ 255) ∧ c.key.size ≤ maxLen ∧ c.value.size ≤ maxLen ∧ (-9223372036854775808 ≤ c.exp ∧ c.exp ≤ 9223372036854775807) ∧ (0 ≤ c.by' ∧ c.by' ≤ 18446744073709551615) := by
  obtain ⟨xs, n, _, hx, hcl, hlen, hg⟩ := DataW.trod_struct Tryz.underlying35 h
  have hC : Tryz.prog.cellsOf 35 = 7 := by kernel_rfl
  have kk0 : Tryz.prog.cellsOf 32 = 1 := by kernel_rfl
  have kk1 : Tryz.prog.cellsOf 9 = 1 := by kernel_rfl
  have kk2 : Tryz.prog.cellsOf 33 = 1 := by kernel_rfl
  have kk3 : Tryz.prog.cellsOf 2 = 1 := by kernel_rfl
  have kk4 : Tryz.prog.cellsOf 29 = 1 := by kernel_rfl
  match cs, hcl.trans hC with
  | [c0, c1, c2, c3, c4, c5, c6], _ =>
  match xs, hlen with
  | [y0, y1, y2, y3, y4, y5, y6], _ =>
    have h0 := hg 0 _ rfl
    simp [kk0] at h0
    obtain ⟨z0, e0, rfl, w0⟩ := DataW.trod_int Tryz.underlying32 h0
    obtain rfl := List.cons.inj e0 |>.1
    have h1 := hg 1 _ rfl
    simp [kk1] at h1
    obtain ⟨z1, e1, rfl, w1⟩ := DataW.trod_string Tryz.underlying9 h1
    obtain rfl := List.cons.inj e1 |>.1
    have h2 := hg 2 _ rfl
    simp [kk1] at h2
    obtain ⟨z2, e2, rfl, w2⟩ := DataW.trod_string Tryz.underlying9 h2
    obtain rfl := List.cons.inj e2 |>.1
    have h3 := hg 3 _ rfl
    simp [kk2] at h3
    obtain ⟨z3, e3, rfl, w3⟩ := DataW.trod_int Tryz.underlying33 h3
    obtain rfl := List.cons.inj e3 |>.1
    have h4 := hg 4 _ rfl
    simp [kk3] at h4
    obtain ⟨z4, e4, rfl, w4⟩ := DataW.trod_int Tryz.underlying2 h4
    obtain rfl := List.cons.inj e4 |>.1
    have h5 := hg 5 _ rfl
    simp [kk4] at h5
    obtain ⟨z5, e5, rfl, w5⟩ := DataW.trod_int Tryz.underlying29 h5
    obtain rfl := List.cons.inj e5 |>.1
    have h6 := hg 6 _ rfl
    simp [kk4] at h6
    obtain ⟨z6, e6, rfl, w6⟩ := DataW.trod_int Tryz.underlying29 h6
    obtain rfl := List.cons.inj e6 |>.1
    exact ⟨⟨z0, z1, z2, z3, z4, z5, z6⟩, rfl, bounds_u8 w0, w1, w2, bounds_i64 w4, bounds_u64 w6⟩
set_option maxRecDepth 100000 in
theorem trod_ansH {H : Type} {enc : TypeId × Value → H} {W : World} {base : Nat} {sp : Nat → Bool} {held : Bool} {fuel : Nat} {cs : List Value} {y : DataW H × List MemPlace} (h : DataW.trod enc Tryz.prog W base sp held fuel 40 cs = some y) :
    ∃ a : AnsD, cs = [.int .u8 a.kind, .int .u64 a.number, .string a.item.key, .string a.item.value, .int .u32 a.item.flags, .int .u64 a.item.id, .int .i64 a.item.dies, .int .i64 a.item.gen] ∧ a.item.key.size ≤ maxLen ∧ a.item.value.size ≤ maxLen := by
  obtain ⟨xs, n, _, hx, hcl, hlen, hg⟩ := DataW.trod_struct Tryz.underlying40 h
  have hC : Tryz.prog.cellsOf 40 = 8 := by kernel_rfl
  have kk0 : Tryz.prog.cellsOf 36 = 1 := by kernel_rfl
  have kk1 : Tryz.prog.cellsOf 29 = 1 := by kernel_rfl
  have kk2 : Tryz.prog.cellsOf 38 = 6 := by kernel_rfl
  match cs, hcl.trans hC with
  | [c0, c1, c2, c3, c4, c5, c6, c7], _ =>
  match xs, hlen with
  | [y0, y1, y2], _ =>
    have h0 := hg 0 _ rfl
    simp [kk0] at h0
    obtain ⟨z0, e0, rfl, w0⟩ := DataW.trod_int Tryz.underlying36 h0
    obtain rfl := List.cons.inj e0 |>.1
    have h1 := hg 1 _ rfl
    simp [kk1] at h1
    obtain ⟨z1, e1, rfl, w1⟩ := DataW.trod_int Tryz.underlying29 h1
    obtain rfl := List.cons.inj e1 |>.1
    have h2 := hg 2 _ rfl
    simp [kk2] at h2
    obtain ⟨z2, e2, w2⟩ := trod_itemH h2
    simp only [List.cons.injEq, and_true] at e2
    obtain ⟨rfl, rfl, rfl, rfl, rfl, rfl⟩ := e2
    exact ⟨⟨z0, z1, z2⟩, rfl, w2⟩
set_option maxRecDepth 100000 in
theorem trod_calledH {H : Type} {enc : TypeId × Value → H} {W : World} {base : Nat} {sp : Nat → Bool} {held : Bool} {fuel : Nat} {cs : List Value} {y : DataW H × List MemPlace} (h : DataW.trod enc Tryz.prog W base sp held fuel 42 cs = some y) :
    ∃ x : CalledD, cs = x.list ∧ CalledIs x := by
  obtain ⟨xs, n, _, hx, hcl, hlen, hg⟩ := DataW.trod_struct Tryz.underlying42 h
  have hC : Tryz.prog.cellsOf 42 = 20 := by kernel_rfl
  have kk0 : Tryz.prog.cellsOf 3 = 1 := by kernel_rfl
  have kk1 : Tryz.prog.cellsOf 35 = 7 := by kernel_rfl
  have kk2 : Tryz.prog.cellsOf 40 = 8 := by kernel_rfl
  have kk3 : Tryz.prog.cellsOf 29 = 1 := by kernel_rfl
  match cs, hcl.trans hC with
  | [c0, c1, c2, c3, c4, c5, c6, c7, c8, c9, c10, c11, c12, c13, c14, c15, c16, c17, c18, c19], _ =>
  match xs, hlen with
  | [y0, y1, y2, y3, y4, y5, y6], _ =>
    have h0 := hg 0 _ rfl
    simp [kk0] at h0
    obtain ⟨z0, e0, rfl, w0⟩ := DataW.trod_int Tryz.underlying3 h0
    obtain rfl := List.cons.inj e0 |>.1
    have h1 := hg 1 _ rfl
    simp [kk1] at h1
    obtain ⟨z1, e1, w1⟩ := trod_callH h1
    simp only [List.cons.injEq, and_true] at e1
    obtain ⟨rfl, rfl, rfl, rfl, rfl, rfl, rfl⟩ := e1
    have h2 := hg 2 _ rfl
    simp [kk0] at h2
    obtain ⟨z2, e2, rfl, w2⟩ := DataW.trod_int Tryz.underlying3 h2
    obtain rfl := List.cons.inj e2 |>.1
    have h3 := hg 3 _ rfl
    simp [kk0] at h3
    obtain ⟨z3, e3, rfl, w3⟩ := DataW.trod_int Tryz.underlying3 h3
    obtain rfl := List.cons.inj e3 |>.1
    have h4 := hg 4 _ rfl
    simp [kk2] at h4
    obtain ⟨z4, e4, w4⟩ := trod_ansH h4
    simp only [List.cons.injEq, and_true] at e4
    obtain ⟨rfl, rfl, rfl, rfl, rfl, rfl, rfl, rfl⟩ := e4
    have h5 := hg 5 _ rfl
    simp [kk3] at h5
    obtain ⟨z5, e5, rfl, w5⟩ := DataW.trod_int Tryz.underlying29 h5
    obtain rfl := List.cons.inj e5 |>.1
    have h6 := hg 6 _ rfl
    simp [kk0] at h6
    obtain ⟨z6, e6, rfl, w6⟩ := DataW.trod_int Tryz.underlying3 h6
    obtain rfl := List.cons.inj e6 |>.1
    have q := bounds_u64 w5
    refine ⟨⟨z0, z1, z2, z3, z4, z5.toNat, z6⟩, ?_, ⟨bounds_i64 w0, bounds_i64 w2, bounds_i64 w3, bounds_i64 w6, by show z5.toNat < _; omega, w1.2.1, w1.1, w1.2.2.2.1, w1.2.2.2.2, w1.2.2.1, w4.1, w4.2⟩⟩
    show _ = [Value.int .i64 z0, .int .u8 z1.verb, .string z1.key, .string z1.value, .int .u32 z1.flags, .int .i64 z1.exp, .int .u64 z1.id, .int .u64 z1.by', .int .i64 z2, .int .i64 z3, .int .u8 z4.kind, .int .u64 z4.number, .string z4.item.key, .string z4.item.value, .int .u32 z4.item.flags, .int .u64 z4.item.id, .int .i64 z4.item.dies, .int .i64 z4.item.gen, .int .u64 ((z5.toNat : Nat) : Int), .int .i64 z6]
    rw [show ((z5.toNat : Nat) : Int) = z5 from by omega]
set_option maxRecDepth 100000 in
theorem trod_dropH {H : Type} {enc : TypeId × Value → H} {W : World} {base : Nat} {sp : Nat → Bool} {held : Bool} {fuel : Nat} {cs : List Value} {y : DataW H × List MemPlace} (h : DataW.trod enc Tryz.prog W base sp held fuel 94 cs = some y) :
    ∃ x : DropD, cs = x.list ∧ DropIs x := by
  obtain ⟨xs, n, _, hx, hcl, hlen, hg⟩ := DataW.trod_struct Tryz.underlying94 h
  have hC : Tryz.prog.cellsOf 94 = 7 := by kernel_rfl
  have kk0 : Tryz.prog.cellsOf 3 = 1 := by kernel_rfl
  have kk1 : Tryz.prog.cellsOf 38 = 6 := by kernel_rfl
  match cs, hcl.trans hC with
  | [c0, c1, c2, c3, c4, c5, c6], _ =>
  match xs, hlen with
  | [y0, y1], _ =>
    have h0 := hg 0 _ rfl
    simp [kk0] at h0
    obtain ⟨z0, e0, rfl, w0⟩ := DataW.trod_int Tryz.underlying3 h0
    obtain rfl := List.cons.inj e0 |>.1
    have h1 := hg 1 _ rfl
    simp [kk1] at h1
    obtain ⟨z1, e1, w1⟩ := trod_itemH h1
    simp only [List.cons.injEq, and_true] at e1
    obtain ⟨rfl, rfl, rfl, rfl, rfl, rfl⟩ := e1
    exact ⟨⟨z0, z1⟩, rfl, ⟨bounds_i64 w0, w1.1, w1.2⟩⟩
set_option maxRecDepth 100000 in
theorem trod_calleds {H : Type} {enc : TypeId × Value → H} {W : World} {fuel : Nat} {c1 : Value} {y : DataW H × List MemPlace} (h : DataW.trod enc Tryz.prog W 0 (fun _ => true) true fuel 61 [c1] = some y) :
    ∃ L : List CalledD, RRow CalledD.list 20 W c1 L ∧ ∀ x ∈ L, CalledIs x := by
  have hC : Tryz.prog.cellsOf 42 = 20 := by kernel_rfl
  obtain ⟨a0, len, cap, rfl⟩ : ∃ ka kn kc, c1 = .slice ka kn kc := by
    rcases DataW.trod_slice Tryz.underlying61 h with ⟨e1, rfl⟩ | ⟨a, len, cap, elems, rest, m, _, e1, _⟩
    · exact ⟨none, 0, 0, (List.cons.inj e1).1⟩
    · exact ⟨some a, len, cap, (List.cons.inj e1).1⟩
  rcases Go.Deep.open_slice Tryz.underlying61 h with ⟨hcs, hx⟩ | ⟨a, len', cap', m, n, D, Pl, hcs, _, hl, hm, hmm, _, hel⟩
  · obtain ⟨rfl, rfl, rfl⟩ : a0 = none ∧ len = 0 ∧ cap = 0 := by simpa using hcs
    exact ⟨[], RRow.nil, fun x hx => by simp at hx⟩
  · obtain ⟨rfl, rfl, rfl⟩ : a0 = some a ∧ len = len' ∧ cap = cap' := by simpa using hcs
    simp only [if_true] at hmm
    subst hmm
    rw [hC] at hel
    have : Inhabited CalledD := ⟨⟨0, ⟨0, ⟨#[]⟩, ⟨#[]⟩, 0, 0, 0, 0⟩, 0, 0, ⟨0, 0, ⟨⟨#[]⟩, ⟨#[]⟩, 0, 0, 0, 0⟩⟩, 0, 0⟩⟩
    have each : ∀ r, r < m → ∃ x : CalledD, CalledIs x ∧ ∀ (i : Nat) (u : Value), (CalledD.list x)[i]? = some u → W.cell? ((a.add (r * 20)).add i) = some u := fun r hr => by
      obtain ⟨cs', h1, h2⟩ := hel r hr
      obtain ⟨_, hlc, hat⟩ := World.cells?_some h1
      obtain ⟨x, rfl, hs⟩ := trod_calledH h2
      refine ⟨x, hs, fun i u hu => ?_⟩
      rw [hat i (by have := (List.getElem?_eq_some_iff.1 hu).1; omega)]
      exact hu
    obtain ⟨X, hX⟩ := Go.Deep.choose_lt each
    refine ⟨(List.range len).map X, ⟨some a, m, by simp, by simp; omega, by omega, (fun e => by cases e), fun j x hj => ?_⟩, fun x hx => ?_⟩
    · have hjl : j < len := by have := (List.getElem?_eq_some_iff.1 hj).1; simpa using this
      obtain rfl : X j = x := by simpa [List.getElem?_map, List.getElem?_range hjl] using hj
      have hc := (hX j (by omega)).2
      obtain ⟨b, off, spot⟩ := a
      have h0 := (hX 0 (by omega)).2 0 _ rfl
      have hspot : spot = none := by simpa [Addr.add] using World.cell?_spot h0
      subst hspot
      have hc' : ∀ (i : Nat) (u : Value), (CalledD.list (X j))[i]? = some u → W.cell? ⟨b, off + (j * 20 + i), none⟩ = some u := fun i u hu => by
        have h1 := hc i u hu
        rwa [Go.WideShapes.add_plain, Go.WideShapes.add_plain, Nat.add_assoc] at h1
      exact ⟨b, off, rfl, cell_lt (hc' 0 _ rfl), fun i u hu => by
        have h2 := hc' i u hu
        rwa [← Nat.add_assoc] at h2⟩
    · obtain ⟨r, hr, rfl⟩ := List.mem_map.1 hx
      exact (hX r (by have := List.mem_range.1 hr; omega)).1
set_option maxRecDepth 100000 in
theorem trod_drops {H : Type} {enc : TypeId × Value → H} {W : World} {fuel : Nat} {c1 : Value} {y : DataW H × List MemPlace} (h : DataW.trod enc Tryz.prog W 0 (fun _ => true) true fuel 62 [c1] = some y) :
    ∃ L : List DropD, RRow DropD.list 7 W c1 L ∧ ∀ x ∈ L, DropIs x := by
  have hC : Tryz.prog.cellsOf 94 = 7 := by kernel_rfl
  obtain ⟨a0, len, cap, rfl⟩ : ∃ ka kn kc, c1 = .slice ka kn kc := by
    rcases DataW.trod_slice Tryz.underlying62 h with ⟨e1, rfl⟩ | ⟨a, len, cap, elems, rest, m, _, e1, _⟩
    · exact ⟨none, 0, 0, (List.cons.inj e1).1⟩
    · exact ⟨some a, len, cap, (List.cons.inj e1).1⟩
  rcases Go.Deep.open_slice Tryz.underlying62 h with ⟨hcs, hx⟩ | ⟨a, len', cap', m, n, D, Pl, hcs, _, hl, hm, hmm, _, hel⟩
  · obtain ⟨rfl, rfl, rfl⟩ : a0 = none ∧ len = 0 ∧ cap = 0 := by simpa using hcs
    exact ⟨[], RRow.nil, fun x hx => by simp at hx⟩
  · obtain ⟨rfl, rfl, rfl⟩ : a0 = some a ∧ len = len' ∧ cap = cap' := by simpa using hcs
    simp only [if_true] at hmm
    subst hmm
    rw [hC] at hel
    have : Inhabited DropD := ⟨⟨0, ⟨⟨#[]⟩, ⟨#[]⟩, 0, 0, 0, 0⟩⟩⟩
    have each : ∀ r, r < m → ∃ x : DropD, DropIs x ∧ ∀ (i : Nat) (u : Value), (DropD.list x)[i]? = some u → W.cell? ((a.add (r * 7)).add i) = some u := fun r hr => by
      obtain ⟨cs', h1, h2⟩ := hel r hr
      obtain ⟨_, hlc, hat⟩ := World.cells?_some h1
      obtain ⟨x, rfl, hs⟩ := trod_dropH h2
      refine ⟨x, hs, fun i u hu => ?_⟩
      rw [hat i (by have := (List.getElem?_eq_some_iff.1 hu).1; omega)]
      exact hu
    obtain ⟨X, hX⟩ := Go.Deep.choose_lt each
    refine ⟨(List.range len).map X, ⟨some a, m, by simp, by simp; omega, by omega, (fun e => by cases e), fun j x hj => ?_⟩, fun x hx => ?_⟩
    · have hjl : j < len := by have := (List.getElem?_eq_some_iff.1 hj).1; simpa using this
      obtain rfl : X j = x := by simpa [List.getElem?_map, List.getElem?_range hjl] using hj
      have hc := (hX j (by omega)).2
      obtain ⟨b, off, spot⟩ := a
      have h0 := (hX 0 (by omega)).2 0 _ rfl
      have hspot : spot = none := by simpa [Addr.add] using World.cell?_spot h0
      subst hspot
      have hc' : ∀ (i : Nat) (u : Value), (DropD.list (X j))[i]? = some u → W.cell? ⟨b, off + (j * 7 + i), none⟩ = some u := fun i u hu => by
        have h1 := hc i u hu
        rwa [Go.WideShapes.add_plain, Go.WideShapes.add_plain, Nat.add_assoc] at h1
      exact ⟨b, off, rfl, cell_lt (hc' 0 _ rfl), fun i u hu => by
        have h2 := hc' i u hu
        rwa [← Nat.add_assoc] at h2⟩
    · obtain ⟨r, hr, rfl⟩ := List.mem_map.1 hx
      exact (hX r (by have := List.mem_range.1 hr; omega)).1
set_option maxRecDepth 100000 in
theorem open_hist {H : Type} {enc : TypeId × Value → H} {W : World} {base : Nat} {v : Value} {d : DataW H} {p : List MemPlace} (hval : Value.okWide Tryz.prog W .any base 64 v)
    (h : DataW.Trod enc Tryz.prog W 0 (fun _ => true) true 64 v d p) : ∃ (cv dv : Value) (cs : List CalledD) (ds : List DropD), v = .agg #[cv, dv] ∧ HistAt W cv dv cs ds := by
  obtain ⟨cs, rfl, hsz⟩ := okWide_struct Tryz.underlying64 hval
  obtain ⟨l⟩ := cs
  have hC : Tryz.prog.cellsOf 64 = 2 := by kernel_rfl
  have k0 : Tryz.prog.cellsOf 61 = 1 := by kernel_rfl
  have k1 : Tryz.prog.cellsOf 62 = 1 := by kernel_rfl
  match l, hsz.trans hC with
  | [c0, c1], _ =>
    obtain ⟨fuel, hf⟩ := h
    obtain ⟨xs, n, _, hx, _, hlen, hg⟩ := DataW.trod_struct Tryz.underlying64 hf
    match xs, hlen with
    | [y0, y1], _ =>
      have h0 := hg 0 _ rfl
      have h1 := hg 1 _ rfl
      simp [k0, Value.cells] at h0
      simp [k1, Value.cells] at h1
      obtain ⟨L, hL, hLx⟩ := trod_calleds h0
      obtain ⟨M, hM, hMx⟩ := trod_drops h1
      exact ⟨c0, c1, L, M, rfl, ⟨hL, hM, hLx, hMx⟩⟩
end Go.Proofs.YtaooangnnlopcaaGreatDoor
