/- An argument that is a command, its keys with it. No condition. -/
import Derived.Test.YtofpaooaiafpbaaDoorOpenStrs
import Derived.Test.YtofpaooaiafpbaaDoorLineText
namespace Go.Proofs.YtofpaooaiafpbaaDoor
open Go.ChangeShapes Go.WideShapes Go.ChangeAt Go.RowKit

theorem nat_of {z : Int} (h : 0 ≤ z) : ((z.toNat : Nat) : Int) = z := by omega
set_option maxRecDepth 100000 in
theorem trod_call29 {H : Type} {enc : TypeId × Value → H} {W : World} {base : Nat} {sp : Nat → Bool} {held : Bool} {fuel : Nat} {c0 c1 c2 c3 c4 c5 c6 : Value} {y : DataW H × List MemPlace} (h : DataW.trod enc Tryd.prog W base sp held fuel 27 [c0, c1, c2, c3, c4, c5, c6] = some y) :
    ∃ (v : Nat) (k l : List UInt8) (f : Nat) (e : Int) (i b : Nat), [c0, c1, c2, c3, c4, c5, c6] = [.int .u8 (v : Int), sv k, sv l, .int .u32 (f : Int), .int .i64 e, .int .u64 (i : Int), .int .u64 (b : Int)] ∧ v < 256 ∧ k.length ≤ maxLen ∧ l.length ≤ maxLen ∧ f < 4294967296 ∧ -9223372036854775808 ≤ e ∧ e ≤ 9223372036854775807 ∧ i < 18446744073709551616 ∧ b < 18446744073709551616 := by
  obtain ⟨xs, n, _, hx, _, hlen, hg⟩ := DataW.trod_struct Tryd.underlying27 h
  have k_int64 : Tryd.prog.cellsOf 2 = 1 := by kernel_rfl
  have k_nestboxapiVerb : Tryd.prog.cellsOf 22 = 1 := by kernel_rfl
  have k_string : Tryd.prog.cellsOf 9 = 1 := by kernel_rfl
  have k_uint32 : Tryd.prog.cellsOf 24 = 1 := by kernel_rfl
  have k_uint64 : Tryd.prog.cellsOf 25 = 1 := by kernel_rfl
  match xs, hlen with
  | [y0, y1, y2, y3, y4, y5, y6], _ =>
    have h0 := hg 0 _ rfl
    simp [k_nestboxapiVerb] at h0
    obtain ⟨z0, e0, rfl, w0⟩ := DataW.trod_int Tryd.underlying22 h0
    obtain rfl := List.cons.inj e0 |>.1
    have h1 := hg 1 _ rfl
    simp [k_string] at h1
    obtain ⟨z1, e1, rfl, w1⟩ := DataW.trod_string Tryd.underlying9 h1
    obtain rfl := List.cons.inj e1 |>.1
    have h2 := hg 2 _ rfl
    simp [k_string] at h2
    obtain ⟨z2, e2, rfl, w2⟩ := DataW.trod_string Tryd.underlying9 h2
    obtain rfl := List.cons.inj e2 |>.1
    have h3 := hg 3 _ rfl
    simp [k_uint32] at h3
    obtain ⟨z3, e3, rfl, w3⟩ := DataW.trod_int Tryd.underlying24 h3
    obtain rfl := List.cons.inj e3 |>.1
    have h4 := hg 4 _ rfl
    simp [k_int64] at h4
    obtain ⟨z4, e4, rfl, w4⟩ := DataW.trod_int Tryd.underlying2 h4
    obtain rfl := List.cons.inj e4 |>.1
    have h5 := hg 5 _ rfl
    simp [k_uint64] at h5
    obtain ⟨z5, e5, rfl, w5⟩ := DataW.trod_int Tryd.underlying25 h5
    obtain rfl := List.cons.inj e5 |>.1
    have h6 := hg 6 _ rfl
    simp [k_uint64] at h6
    obtain ⟨z6, e6, rfl, w6⟩ := DataW.trod_int Tryd.underlying25 h6
    obtain rfl := List.cons.inj e6 |>.1
    have q0 := bounds_u8 w0; have q3 := bounds_u32 w3; have q4 := bounds_i64 w4; have q5 := bounds_u64 w5; have q6 := bounds_u64 w6
    refine ⟨z0.toNat, bs z1, bs z2, z3.toNat, z4, z5.toNat, z6.toNat, ?_, by omega, by rw [bs_length]; exact w1, by rw [bs_length]; exact w2, by omega, by omega, by omega, by omega, by omega⟩
    rw [nat_of q0.1, nat_of q3.1, nat_of q5.1, nat_of q6.1]

set_option maxRecDepth 100000 in
theorem trod_strs {H : Type} {enc : TypeId × Value → H} {W : World} {fuel : Nat} {c1 : Value} {y : DataW H × List MemPlace} (h : DataW.trod enc Tryd.prog W 0 (fun _ => true) true fuel 23 [c1] = some y) (hfz : W.noneFrozen y.2) :
    ∃ L : List (List UInt8), Own W 0 c1 (L.map sv) ∧ (∀ x ∈ L, x.length ≤ maxLen) := by
  obtain ⟨ka, kn, kc, rfl⟩ : ∃ ka kn kc, c1 = .slice ka kn kc := by
    rcases DataW.trod_slice Tryd.underlying23 h with ⟨e1, rfl⟩ | ⟨a, len, cap, elems, rest, m, _, e1, _⟩
    · exact ⟨none, 0, 0, (List.cons.inj e1).1⟩
    · exact ⟨some a, len, cap, (List.cons.inj e1).1⟩
  rcases open_strings Tryd.underlying23 Tryd.underlying9 (by kernel_rfl) h with ⟨hcs, hx⟩ | ⟨a, len', cap', zs, hcs, _, hl, hm, hz, hx, hcell, hwz⟩
  · obtain ⟨rfl, rfl, rfl⟩ : ka = none ∧ kn = 0 ∧ kc = 0 := by simpa [Value.cells] using hcs
    exact ⟨[], Own.nil W 0, by simp⟩
  · obtain ⟨rfl, rfl, rfl⟩ : ka = some a ∧ kn = len' ∧ kc = cap' := by simpa [Value.cells] using hcs
    subst hx
    have hzl : zs.length = kc := by simpa using hz
    refine ⟨(zs.take kn).map bs, ?_, ?_⟩
    · refine ⟨some a, kc, by simp; omega, by simp; omega, hm, (fun h => by cases h), ?_⟩
      by_cases h0 : kn = 0
      · left; simp [h0]
      · right
        obtain ⟨b, off, spot⟩ := a
        have hspot : spot = none := by simpa [Addr.add] using World.cell?_spot (hcell 0 (by omega))
        subst hspot
        refine ⟨b, off, rfl, Nat.zero_le _, fun j x hx => ?_⟩
        have hj : j < kn := by have := (List.getElem?_eq_some_iff.1 hx).1; simp at this; omega
        refine ⟨?_, hfz b (off + j) (MemPlace.mem_row.2 ⟨j, by omega, rfl⟩)⟩
        have hc := hcell j (by omega)
        rw [Go.WideShapes.add_plain] at hc
        rw [hc]
        have hzj : zs[j]? = some (zs.getD j ByteArray.empty) := by rw [List.getD_eq_getElem?_getD, List.getElem?_eq_getElem (by omega)]; rfl
        rw [List.map_map, List.getElem?_map, List.getElem?_take, if_pos hj, hzj] at hx
        cases hx
        rfl
    · intro x hx
      obtain ⟨s, hs, rfl⟩ := List.mem_map.1 hx
      rw [bs_length]
      exact hwz s (List.mem_of_mem_take hs)

/-- What is known of an argument that is a command. -/
structure CmdArg (W : World) (kv : Value) (c : Cmd) : Prop where
  keys : Own W 0 kv (c.keys.map sv)
  ok : OkCmd c
  each : ∀ x ∈ c.keys, x.length ≤ maxLen
  key : c.key.length ≤ maxLen
  value : c.value.length ≤ maxLen
set_option maxRecDepth 100000 in
theorem open_command {H : Type} {enc : TypeId × Value → H} {W : World} {base : Nat} {v : Value} {d : DataW H} {p : List MemPlace} (hval : Value.okWide Tryd.prog W .any base 29 v)
    (h : DataW.Trod enc Tryd.prog W 0 (fun _ => true) true 29 v d p) (hfz : W.noneFrozen p) : ∃ (kv : Value) (c : Cmd), v = cmdV kv c ∧ CmdArg W kv c := by
  obtain ⟨cs, rfl, hsz⟩ := okWide_struct Tryd.underlying29 hval
  obtain ⟨l⟩ := cs
  have hC : Tryd.prog.cellsOf 29 = 11 := by kernel_rfl
  have kv : Tryd.prog.cellsOf 22 = 1 := by kernel_rfl
  have ks : Tryd.prog.cellsOf 23 = 1 := by kernel_rfl
  have kc : Tryd.prog.cellsOf 27 = 7 := by kernel_rfl
  have ki : Tryd.prog.cellsOf 3 = 1 := by kernel_rfl
  have kb : Tryd.prog.cellsOf 4 = 1 := by kernel_rfl
  match l, hsz.trans hC with
  | [c0, c1, c2, c3, c4, c5, c6, c7, c8, c9, c10], _ =>
    obtain ⟨fuel, hf⟩ := h
    obtain ⟨xs, n, _, hx, _, hlen, hg⟩ := DataW.trod_struct Tryd.underlying29 hf
    match xs, hlen with
    | [y0, y1, y2, y3, y4], _ =>
      have h0 := hg 0 _ rfl
      have h1 := hg 1 _ rfl
      have h2 := hg 2 _ rfl
      have h3 := hg 3 _ rfl
      have h4 := hg 4 _ rfl
      simp [kv, Value.cells] at h0
      simp [ks, Value.cells] at h1
      simp [kc, Value.cells] at h2
      simp [ki, Value.cells] at h3
      simp [kb, Value.cells] at h4
      simp only [Prod.mk.injEq] at hx
      obtain ⟨_, hp⟩ := hx
      obtain ⟨L, hL, hLx⟩ := trod_strs h1 (fun b o hm => hfz b o (by rw [hp]; simp [hm]))
      obtain ⟨z0, e0, rfl, w0⟩ := DataW.trod_int Tryd.underlying22 h0
      obtain rfl := List.cons.inj e0 |>.1
      obtain ⟨cv, k, vl, f, e, i, b, e2, q1, q2, q3, q4, q5, q6, q7, q8⟩ := trod_call29 h2
      obtain ⟨z3, e3, rfl, w3⟩ := DataW.trod_int Tryd.underlying3 h3
      obtain rfl := List.cons.inj e3 |>.1
      obtain ⟨z4, e4, rfl⟩ := DataW.trod_bool Tryd.underlying4 h4
      obtain rfl := List.cons.inj e4 |>.1
      have r0 := bounds_u8 w0; have r3 := bounds_i64 w3
      refine ⟨c1, ⟨z0.toNat, L, cv, k, vl, f, e, i, b, z3, z4⟩, ?_, ⟨hL, ⟨by show z0.toNat < 256; omega, q1, q4, q5, q6, q7, q8, r3.1, r3.2⟩, hLx, q2, q3⟩⟩
      simp only [List.cons.injEq, and_true] at e2
      obtain ⟨rfl, rfl, rfl, rfl, rfl, rfl, rfl⟩ := e2
      show Value.agg _ = Value.agg _
      rw [nat_of r0.1]
end Go.Proofs.YtofpaooaiafpbaaDoor
