/- Slices of slices of bytes in memory. No condition. What every law's card shares: the witness' world, in which the listed variables hold what the rows list; and the step from 'the walk returns true and leaves old memory as it was' to the row's own words. No condition. What the rows' words say of the library's variables: the table of the powers of ten, ErrRange. No condition. -/
import Derived.Test.YtahpjhnbjkjkiaaDoorLowA
import Derived.Test.YtahpjhnbjkjkiaaDoorCards
import Derived.Test.YtahpjhnbjkjkiaaDoorTie
import Derived.ProofKit
import Derived.OpenShut
import Derived.ReadAgain
import Derived.Deep.DeepHandedRow
import Derived.Deep.DeepWitnessRowRef
import Derived.Lib.LaidTab
import Derived.Test.YtahpjhnbjkjkiaaDoorLowB
namespace Go.Proofs.YtahpjhnbjkjkiaaDoor
open Go.RowKit

/-- Texts in a row: a slice of slices of bytes. -/
def BRows (w : World) (v : Value) (L : List (List UInt8)) : Prop := ∃ vs : List Value, Own w 0 v vs ∧ vs.length = L.length ∧ ∀ (j : Nat) (bl : List UInt8), L[j]? = some bl → ∃ x, vs[j]? = some x ∧ BRow w x bl
theorem BRows.len {w : World} {v : Value} {L : List (List UInt8)} (h : BRows w v L) : ∃ a c, v = .slice a L.length c := by
  obtain ⟨vs, ho, hl, _⟩ := h
  obtain ⟨a, c, rfl⟩ := ho.len
  exact ⟨a, c, by rw [hl]⟩
theorem BRows.max {w : World} {v : Value} {L : List (List UInt8)} (h : BRows w v L) : L.length ≤ maxLen := by
  obtain ⟨vs, ho, hl, _⟩ := h
  rw [← hl]; exact ho.max
theorem BRows.at {w : World} {v : Value} {L : List (List UInt8)} (h : BRows w v L) {j : Nat} {bl : List UInt8} (hj : L[j]? = some bl) :
    ∃ g o c x, v = .slice (some ⟨g, o, none⟩) L.length c ∧ g < w.heap.size ∧ w.cell? ⟨g, o + j, none⟩ = some x ∧ BRow w x bl := by
  obtain ⟨vs, ho, hl, hb⟩ := h
  obtain ⟨x, hx, hr⟩ := hb j bl hj
  obtain ⟨g, o, c, he, _, hg, hc, _⟩ := ho.at hx
  exact ⟨g, o, c, x, by rw [he, hl], hg, hc, hr⟩
theorem idx_byte30 {a : Option Addr} {g o n c k : Nat} (ha : a = some ⟨g, o, none⟩) (hk : k < n) (W : World) : (Instr.indexAt 22 (.slice a n c) (.int .i64 (k : Int))).run Tryd.prog W = .ok (.pointer (some ⟨g, o + k, none⟩)) W := by
  subst ha
  have h0 : (0 : Int) ≤ (k : Int) := by omega
  have h1 : (k : Int) < (n : Int) := by omega
  have h2 := Tryd.underlying22
  go_simp

/-! ### Plain: how many bytes, counted up to a bound -/
def capSum (m : Nat) (L : List (List UInt8)) : Nat := (L.map fun b => min b.length m).sum
theorem capSum_nil (m : Nat) : capSum m [] = 0 := rfl
theorem capSum_snoc (m : Nat) {L : List (List UInt8)} {i : Nat} {bl : List UInt8} (h : L[i]? = some bl) : capSum m (L.take (i + 1)) = capSum m (L.take i) + min bl.length m := by
  obtain ⟨hi, he⟩ := List.getElem?_eq_some_iff.1 h
  rw [List.take_succ_eq_append_getElem hi, he]
  simp [capSum]
theorem capSum_flat {m k : Nat} (hk : k < m) : ∀ {L : List (List UInt8)}, capSum m L ≤ k → L.flatten.length ≤ k
  | [], _ => by simp
  | b :: L, h => by
    have h1 : capSum m (b :: L) = min b.length m + capSum m L := by simp [capSum]
    have h2 := capSum_flat (m := m) (k := k - min b.length m) (by omega) (L := L) (by omega)
    rw [List.flatten_cons, List.length_append]
    omega
theorem flat_snoc {L : List (List UInt8)} {i : Nat} {bl : List UInt8} (h : L[i]? = some bl) : (L.take (i + 1)).flatten = (L.take i).flatten ++ bl := by
  obtain ⟨hi, he⟩ := List.getElem?_eq_some_iff.1 h
  rw [List.take_succ_eq_append_getElem hi, he]
  simp
theorem flat_le : ∀ (L : List (List UInt8)) (i : Nat), (L.take i).flatten.length ≤ L.flatten.length
  | [], i => by simp
  | b :: L, 0 => by simp
  | b :: L, i + 1 => by
    have := flat_le L i
    simp only [List.take_succ_cons, List.flatten_cons, List.length_append]
    omega
end Go.Proofs.YtahpjhnbjkjkiaaDoor
namespace Go.Proofs.YtahpjhnbjkjkiaaDoor
open Go.ChangeShapes Go.WideShapes Go.ChangeAt Go.RowKit

theorem own : ownKnob Tryd.prog.godebug = none := by kernel_rfl
theorem laidOut : laidOutB Tryd.prog = true := by kernel_rfl

theorem trodAll_stays {H : Type} {enc : TypeId × Value → H} {P : Program} {W W' : World} (hl : laidOutB P = true) (hb : Below W.heap.size W W') (ts : List TypeId) :
    ∀ (vs : List Value) (ds : List (DataW H)) (p : List MemPlace), (∀ t ∈ ts, P.readableRec t = true ∧ t < P.types.size) →
      DataW.TrodAll enc P W 0 (fun _ => true) true ts vs ds p → (∀ x ∈ p, x.block < W.heap.size) → DataW.TrodAll enc P W' 0 (fun b => decide (b < W.heap.size)) true ts vs ds p := by
  induction ts with
  | nil =>
    intro vs ds p _ h _
    obtain ⟨rfl, rfl, rfl⟩ := trodAll_nil h
    exact trodAll_mk0
  | cons t ts ih =>
    intro vs ds p hr h hlt
    obtain ⟨v, vs', d, ds', p, q, rfl, rfl, rfl, h1, h2⟩ := trodAll_cons h
    have h3 := hr t (by simp)
    exact trodAll_cons_mk (Below.trod hl h3.1 h3.2 h1 hb (fun x hx => hlt x (List.mem_append_left _ hx))) (ih _ _ _ (fun t' ht => hr t' (by simp [ht])) h2 (fun x hx => hlt x (List.mem_append_right _ hx)))
theorem readable_of {P : Program} {ts : List TypeId} (h : ts.all (fun t => P.readableRec t && decide (t < P.types.size)) = true) : ∀ t ∈ ts, P.readableRec t = true ∧ t < P.types.size := by
  intro t ht
  have := List.all_eq_true.1 h t ht
  simpa using this

theorem law_post {H : Type} {enc : TypeId × Value → H} {f : Func} {s : ChangeSpec} {W W' : World} {args : Array Value} {ds gs : List (DataW H)} {before : List MemPlace}
    (hv : s.vars = []) (hres : f.resultTypes = #[4]) (hr : f.params.toList.all (fun t => Tryd.prog.readableRec t && decide (t < Tryd.prog.types.size)) = true)
    (hW : DataW.Whole enc Tryd.prog f.params.toList s.vars false W args.toList ds gs before) (hfn : s.fn H (ds ++ gs) = { results := [.lit (.bool true)], args := ds }) (hb : Below W.heap.size W W') :
    s.post enc Tryd.prog f false true false false W args (.bool true) W' := by
  have hlt := hW.lt
  have hW' := hW
  obtain ⟨p, q, hA, hV, rfl, hfz, hnd⟩ := hW
  refine ⟨ds, gs, p ++ q, [], p, [], hW', ?_, ?_, ?_, hb.frame _, fun h => by cases h⟩
  · rw [hfn, hres]
    exact trodAll_mk1 (shut_bool Tryd.underlying4 true)
  · rw [hfn]
    exact trodAll_stays laidOut hb _ _ _ _ (readable_of hr) hA (fun x hx => hlt x (List.mem_append_left _ hx))
  · rw [hfn, hv]
    rfl

theorem one_le {H : Type} (d : DataW H) : 1 ≤ Rows.uptoBulk d := by
  cases d with
  | lit l => cases l <;> simp [Rows.uptoBulk]
  | nil => simp [Rows.uptoBulk]
  | ptr d => simp [Rows.uptoBulk]
  | slice elems spare => simp [Rows.uptoBulk]
  | agg parts => simp [Rows.uptoBulk]
  | iface t d => simp [Rows.uptoBulk]
  | map entries => simp [Rows.uptoBulk]
  | held h => simp [Rows.uptoBulk]
theorem bulk_length {H : Type} (l : List (DataW H)) : l.length ≤ Rows.uptoBulkAll l := by
  induction l with
  | nil => simp [Rows.uptoBulkAll]
  | cons x r ih => have := one_le x; simp only [Rows.uptoBulkAll, List.length_cons]; omega
theorem bulk_slice {H : Type} (elems spare : List (DataW H)) : elems.length + spare.length ≤ Rows.uptoBulk (.slice elems spare) := by
  have h1 := bulk_length elems
  have h2 := bulk_length spare
  simp only [Rows.uptoBulk]
  omega
theorem u8_of {z : Int} (h : (Lit.int .u8 z).wf = true) : Value.int .u8 z = u8v (UInt8.ofNat z.toNat) := by
  have hb : 0 ≤ z ∧ z ≤ 255 := bounds_u8 h
  unfold u8v
  rw [UInt8.toNat_ofNat']
  congr 1; omega
set_option maxRecDepth 100000 in
/-- An argument of bytes. -/
theorem open_bytes {H : Type} {enc : TypeId × Value → H} {W : World} {base : Nat} {v : Value} {d : DataW H} {p : List MemPlace} (hval : Value.okWide Tryd.prog W .any base 22 v)
    (h : DataW.Trod enc Tryd.prog W 0 (fun _ => true) true 22 v d p) (hfz : W.noneFrozen p) : ∃ l : List UInt8, Own W 0 v (l.map u8v) ∧ l.length ≤ Rows.uptoBulk d := by
  obtain ⟨a0, len, cap, rfl⟩ := okWide_slice Tryd.underlying22 hval
  obtain ⟨fuel, hf⟩ := h
  rcases open_ints Tryd.underlying22 Tryd.underlying5 (by kernel_rfl) hf with ⟨hcs, hx⟩ | ⟨a, len', cap', zs, hcs, _, hl, hm, hz, hx, hcell, hwz⟩
  · obtain ⟨rfl, rfl, rfl⟩ : a0 = none ∧ len = 0 ∧ cap = 0 := by simpa [Value.cells] using hcs
    exact ⟨[], Own.nil W 0, by simp⟩
  · obtain ⟨rfl, rfl, rfl⟩ : a0 = some a ∧ len = len' ∧ cap = cap' := by simpa [Value.cells] using hcs
    obtain ⟨rfl, rfl⟩ := Prod.mk.inj hx
    have hzl : zs.length = cap := by simpa using hz
    refine ⟨(zs.take len).map (fun z => UInt8.ofNat z.toNat), ?_, ?_⟩
    · refine ⟨some a, cap, by simp; omega, by simp; omega, hm, (fun h => by cases h), ?_⟩
      by_cases h0 : len = 0
      · left; simp [h0]
      · right
        obtain ⟨b, off, rfl, hc⟩ := ints_at hcell (by omega)
        refine ⟨b, off, rfl, Nat.zero_le _, fun j x hx => ?_⟩
        have hj : j < len := by have := (List.getElem?_eq_some_iff.1 hx).1; simp at this; omega
        refine ⟨?_, hfz b (off + j) (MemPlace.mem_row.2 ⟨j, by omega, rfl⟩)⟩
        rw [hc j (by omega)]
        have hzj : zs[j]? = some (zs.getD j 0) := by rw [List.getD_eq_getElem?_getD, List.getElem?_eq_getElem (by omega)]; rfl
        have hw := hwz (zs.getD j 0) (List.mem_of_getElem? hzj)
        rw [List.map_map, List.getElem?_map, List.getElem?_take, if_pos hj, hzj] at hx
        cases hx
        rw [u8_of hw]; rfl
    · have := bulk_slice (lits (H := H) .u8 (zs.take len)) (lits .u8 (zs.drop len))
      simp [lits] at this ⊢; omega

set_option maxRecDepth 100000 in
/-- An argument of small numbers. -/
theorem open_u16s {H : Type} {enc : TypeId × Value → H} {W : World} {base : Nat} {v : Value} {d : DataW H} {p : List MemPlace} (hval : Value.okWide Tryd.prog W .any base 23 v)
    (h : DataW.Trod enc Tryd.prog W 0 (fun _ => true) true 23 v d p) (hfz : W.noneFrozen p) : ∃ l : List Nat, Own W 0 v (l.map fun x : Nat => Value.int .u16 (x : Int)) ∧ ∀ x ∈ l, x < 65536 := by
  obtain ⟨a0, len, cap, rfl⟩ := okWide_slice Tryd.underlying23 hval
  obtain ⟨fuel, hf⟩ := h
  rcases open_ints Tryd.underlying23 Tryd.underlying29 (by kernel_rfl) hf with ⟨hcs, hx⟩ | ⟨a, len', cap', zs, hcs, _, hl, hm, hz, hx, hcell, hwz⟩
  · obtain ⟨rfl, rfl, rfl⟩ : a0 = none ∧ len = 0 ∧ cap = 0 := by simpa [Value.cells] using hcs
    exact ⟨[], Own.nil W 0, by simp⟩
  · obtain ⟨rfl, rfl, rfl⟩ : a0 = some a ∧ len = len' ∧ cap = cap' := by simpa [Value.cells] using hcs
    obtain ⟨rfl, rfl⟩ := Prod.mk.inj hx
    have hzl : zs.length = cap := by simpa using hz
    refine ⟨(zs.take len).map (fun z => z.toNat), ?_, ?_⟩
    · refine ⟨some a, cap, by simp; omega, by simp; omega, hm, (fun h => by cases h), ?_⟩
      by_cases h0 : len = 0
      · left; simp [h0]
      · right
        obtain ⟨b, off, rfl, hc⟩ := ints_at hcell (by omega)
        refine ⟨b, off, rfl, Nat.zero_le _, fun j x hx => ?_⟩
        have hj : j < len := by have := (List.getElem?_eq_some_iff.1 hx).1; simp at this; omega
        refine ⟨?_, hfz b (off + j) (MemPlace.mem_row.2 ⟨j, by omega, rfl⟩)⟩
        rw [hc j (by omega)]
        have hzj : zs[j]? = some (zs.getD j 0) := by rw [List.getD_eq_getElem?_getD, List.getElem?_eq_getElem (by omega)]; rfl
        have hw := hwz (zs.getD j 0) (List.mem_of_getElem? hzj)
        rw [List.map_map, List.getElem?_map, List.getElem?_take, if_pos hj, hzj] at hx
        cases hx
        have hb : 0 ≤ zs.getD j 0 ∧ zs.getD j 0 ≤ 65535 := bounds_u16 hw
        show some (Value.int .u16 (zs.getD j 0)) = some (Value.int .u16 ((zs.getD j 0).toNat : Int))
        rw [Int.toNat_of_nonneg hb.1]
    · intro x hx
      obtain ⟨z, hz', rfl⟩ := List.mem_map.1 hx
      have hb : 0 ≤ z ∧ z ≤ 65535 := bounds_u16 (hwz z (List.mem_of_mem_take hz'))
      omega
/-- Flat cells of a datum of numbers. -/
def flat : Nat → DataW Unit → List Value
  | 0, _ => []
  | n + 1, .agg l => l.flatMap (flat n)
  | _, .lit (.int k x) => [.int k x]
  | _, _ => []
noncomputable def lay (cs : List Value) : Obj → Obj
  | .cells _ t frozen => .cells cs.toArray t frozen
  | o => o
/-- So many blocks has the settled world. -/
noncomputable def low : Nat := (World.holding Tryd.prog default ⟨#[], #[], []⟩).heap.size
abbrev synS : ByteArray := { data := #[105, 110, 118, 97, 108, 105, 100, 32, 115, 121, 110, 116, 97, 120] }
abbrev rngS : ByteArray := { data := #[118, 97, 108, 117, 101, 32, 111, 117, 116, 32, 111, 102, 32, 114, 97, 110, 103, 101] }
abbrev newBlocks : Array Obj := #[.cells #[.string synS] 163, .cells #[.string rngS] 163]
/-- A WORLD FOR THE WITNESSES: the settled one, each listed variable holding what its text lays. -/
noncomputable def laidWorld (os : Os) : World :=
  let w0 := World.holding Tryd.prog os ⟨newBlocks, #[], []⟩
  let h := w0.heap
  let h := h.modify 1 (lay (flat 3 Rows.laid_math_bits_deBruijn32tab))
  let h := h.modify 2 (lay (flat 3 Rows.laid_math_bits_deBruijn64tab))
  let h := h.modify 0 (lay (flat 3 Rows.laid_internal_strconv_uint64pow10))
  let h := h.modify 5 (lay (flat 3 Rows.laid_unicode_utf8_acceptRanges))
  let h := h.modify 4 (lay (flat 3 Rows.laid_unicode_utf8_first))
  let h := h.modify 6 (lay [.iface 161 (.pointer (some ⟨low, 0, none⟩))])
  let h := h.modify 7 (lay [.iface 161 (.pointer (some ⟨low + 1, 0, none⟩))])
  { w0 with heap := h }
theorem world_vars (os : Os) (args : Array Value) : ((laidWorld os).forCall (fun _ _ => 0) ⟨#[], args, []⟩).variablesRefB Tryd.checked.prog = true := by kernel_rfl
theorem world_rest (os : Os) (args : Array Value) : (((laidWorld os).forCall (fun _ _ => 0) ⟨#[], args, []⟩).heap.toList.drop Tryd.checked.prog.globals.size).take ((begin Tryd.checked.prog (fun _ _ => 0) default).world.heap.size - Tryd.checked.prog.globals.size) =
      (begin Tryd.checked.prog (fun _ _ => 0) default).world.heap.toList.drop Tryd.checked.prog.globals.size := by kernel_rfl
theorem met_feeds (os : Os) (args : Array Value) : laidMet Tryd.prog Rows.feedsCutsRow.laid ((laidWorld os).forCall (fun _ _ => 0) ⟨#[], args, []⟩).memory := laidMet_of_run' 8 (by kernel_rfl) (by kernel_rfl)
end Go.Proofs.YtahpjhnbjkjkiaaDoor
namespace Go.Proofs.YtahpjhnbjkjkiaaDoor
open Go.ChangeShapes Go.WideShapes Go.ChangeAt Go.RowKit

theorem laid_tail {P : Program} {W : World} {x : String × DataW Unit} {rest : List (String × DataW Unit)} (h : laidMet P (x :: rest) W) : laidMet P rest W := by
  obtain ⟨ps, ⟨g, t, cs, fuel, p, q, hg, ht, hv, hd, hr, rfl⟩, hn, hf⟩ := h
  exact ⟨q, hr, (List.nodup_append.1 hn).2.1, fun b off hm => hf b off (List.mem_append_right _ hm)⟩
theorem iface_of_head {P : Program} {W : World} {x name : String} {d : DataW Unit} {rest : List (String × DataW Unit)} {g t : Nat} {ms : Array (String × TypeId)} (hg : P.globalNamed x = some g) (hty : (P.globals[g]?).map (·.type) = some t)
    (ht : P.underlying t = some (.interface ms)) (h : laidMet P ((x, .iface name d) :: rest) W) : ∃ tp p, W.var? P x = some #[.iface tp p] := by
  obtain ⟨ps, ⟨g', t', cs, fuel, p, q, hg', ht', hvar, hd, _, _⟩, _⟩ := h
  obtain rfl := Option.some.inj (hg.symm.trans hg')
  obtain rfl := Option.some.inj (hty.symm.trans ht')
  obtain ⟨l⟩ := cs
  cases fuel with
  | zero => simp [DataW.trod] at hd
  | succ fuel =>
    match l with
    | [] => simp [DataW.trod, ht] at hd
    | [x] => cases x <;> first | exact ⟨_, _, hvar⟩ | (simp [DataW.trod, ht] at hd)
    | x :: y :: l => simp [DataW.trod, ht] at hd
set_option maxRecDepth 100000 in
theorem feeds_laid {W : World} (h : laidMet Tryd.prog Rows.feedsCutsRow.laid W) : HasPow W ∧ HasErr W :=
  ⟨Lib.tabIs_of_head (g := 0) (t := 96) (e := 35) (n := 20) (by kernel_rfl) (by kernel_rfl) (by kernel_rfl) (by kernel_rfl) (by kernel_rfl) (by kernel_rfl) (laid_tail (laid_tail h)),
   iface_of_head (g := 7) (t := 141) (by kernel_rfl) (by kernel_rfl) Tryd.underlying141 (laid_tail (laid_tail (laid_tail (laid_tail h))))⟩
end Go.Proofs.YtahpjhnbjkjkiaaDoor
