/- What every law's card shares: the witness' world, in which the listed variables hold what the rows list; and the step from 'the walk returns true and leaves old memory as it was' to the row's own words. No condition. What the rows' words say of the library's variables: the table of the powers of ten, ErrRange. No condition. An argument that is a script's command. No condition. -/
import Derived.Test.YtfajddlijgpgoaaGreatDoorCards
import Derived.Test.YtfajddlijgpgoaaGreatDoorTie
import Derived.Test.YtfajddlijgpgoaaGreatDoorLowA
import Derived.ProofKit
import Derived.OpenShut
import Derived.ReadAgain
import Derived.Deep.DeepHandedRow
import Derived.Deep.DeepWitnessRowRef
import Derived.Lib.LaidTab
import Derived.Test.YtfajddlijgpgoaaGreatDoorLowB
import Derived.Deep.Slices
namespace Go.Proofs.YtfajddlijgpgoaaGreatDoor
open Go.ChangeShapes Go.WideShapes Go.ChangeAt Go.RowKit

theorem own : ownKnob Tryz.prog.godebug = none := by kernel_rfl
theorem laidOut : laidOutB Tryz.prog = true := by kernel_rfl

theorem trodAll_stays {H : Type} {enc : TypeId × Value → H} {P : Program} {W W' : World} (hl : laidOutB P = true) (hb : Below W.heap.size W W') (ts : List TypeId) :
    ∀ (vs : List Value) (ds : List (DataW H)) (p : List MemPlace), (∀ t ∈ ts, P.readableRec t = true ∧ t < P.types.size) →
      DataW.TrodAll enc P W 0 (fun _ => true) true ts vs ds p → (∀ x ∈ p, x.block < W.heap.size) → DataW.TrodAll enc P W' 0 (fun b => decide (b < W.heap.size)) true ts vs ds p := by
  induction ts with
  | nil =>
    intro vs ds p _ h _
    obtain ⟨rfl, rfl, rfl⟩ := trodAll_nil h
    exact trodAll_mk0
  | cons t ts ih =>
    intro vs ds p hr h hlt
    obtain ⟨v, vs', d, ds', p, q, rfl, rfl, rfl, h1, h2⟩ := trodAll_cons h
    have h3 := hr t (by simp)
    exact trodAll_cons_mk (Below.trod hl h3.1 h3.2 h1 hb (fun x hx => hlt x (List.mem_append_left _ hx))) (ih _ _ _ (fun t' ht => hr t' (by simp [ht])) h2 (fun x hx => hlt x (List.mem_append_right _ hx)))
theorem readable_of {P : Program} {ts : List TypeId} (h : ts.all (fun t => P.readableRec t && decide (t < P.types.size)) = true) : ∀ t ∈ ts, P.readableRec t = true ∧ t < P.types.size := by
  intro t ht
  have := List.all_eq_true.1 h t ht
  simpa using this

theorem law_post {H : Type} {enc : TypeId × Value → H} {f : Func} {s : ChangeSpec} {W W' : World} {args : Array Value} {ds gs : List (DataW H)} {before : List MemPlace}
    (hv : s.vars = []) (hres : f.resultTypes = #[4]) (hr : f.params.toList.all (fun t => Tryz.prog.readableRec t && decide (t < Tryz.prog.types.size)) = true)
    (hW : DataW.Whole enc Tryz.prog f.params.toList s.vars false W args.toList ds gs before) (hfn : s.fn H (ds ++ gs) = { results := [.lit (.bool true)], args := ds }) (hb : Below W.heap.size W W') :
    s.post enc Tryz.prog f false true false false W args (.bool true) W' := by
  have hlt := hW.lt
  have hW' := hW
  obtain ⟨p, q, hA, hV, rfl, hfz, hnd⟩ := hW
  refine ⟨ds, gs, p ++ q, [], p, [], hW', ?_, ?_, ?_, hb.frame _, fun h => by cases h⟩
  · rw [hfn, hres]
    exact trodAll_mk1 (shut_bool Tryz.underlying4 true)
  · rw [hfn]
    exact trodAll_stays laidOut hb _ _ _ _ (readable_of hr) hA (fun x hx => hlt x (List.mem_append_left _ hx))
  · rw [hfn, hv]
    rfl

theorem one_le {H : Type} (d : DataW H) : 1 ≤ Rows.uptoBulk d := by
  cases d with
  | lit l => cases l <;> simp [Rows.uptoBulk]
  | nil => simp [Rows.uptoBulk]
  | ptr d => simp [Rows.uptoBulk]
  | slice elems spare => simp [Rows.uptoBulk]
  | agg parts => simp [Rows.uptoBulk]
  | iface t d => simp [Rows.uptoBulk]
  | map entries => simp [Rows.uptoBulk]
  | held h => simp [Rows.uptoBulk]
theorem bulk_length {H : Type} (l : List (DataW H)) : l.length ≤ Rows.uptoBulkAll l := by
  induction l with
  | nil => simp [Rows.uptoBulkAll]
  | cons x r ih => have := one_le x; simp only [Rows.uptoBulkAll, List.length_cons]; omega
theorem bulk_slice {H : Type} (elems spare : List (DataW H)) : elems.length + spare.length ≤ Rows.uptoBulk (.slice elems spare) := by
  have h1 := bulk_length elems
  have h2 := bulk_length spare
  simp only [Rows.uptoBulk]
  omega
theorem u8_of {z : Int} (h : (Lit.int .u8 z).wf = true) : Value.int .u8 z = u8v (UInt8.ofNat z.toNat) := by
  have hb : 0 ≤ z ∧ z ≤ 255 := bounds_u8 h
  unfold u8v
  rw [UInt8.toNat_ofNat']
  congr 1; omega
set_option maxRecDepth 100000 in
/-- An argument of bytes. -/
theorem open_bytes {H : Type} {enc : TypeId × Value → H} {W : World} {base : Nat} {v : Value} {d : DataW H} {p : List MemPlace} (hval : Value.okWide Tryz.prog W .any base 23 v)
    (h : DataW.Trod enc Tryz.prog W 0 (fun _ => true) true 23 v d p) (hfz : W.noneFrozen p) : ∃ l : List UInt8, Own W 0 v (l.map u8v) ∧ l.length ≤ Rows.uptoBulk d := by
  obtain ⟨a0, len, cap, rfl⟩ := okWide_slice Tryz.underlying23 hval
  obtain ⟨fuel, hf⟩ := h
  rcases open_ints Tryz.underlying23 Tryz.underlying5 (by kernel_rfl) hf with ⟨hcs, hx⟩ | ⟨a, len', cap', zs, hcs, _, hl, hm, hz, hx, hcell, hwz⟩
  · obtain ⟨rfl, rfl, rfl⟩ : a0 = none ∧ len = 0 ∧ cap = 0 := by simpa [Value.cells] using hcs
    exact ⟨[], Own.nil W 0, by simp⟩
  · obtain ⟨rfl, rfl, rfl⟩ : a0 = some a ∧ len = len' ∧ cap = cap' := by simpa [Value.cells] using hcs
    obtain ⟨rfl, rfl⟩ := Prod.mk.inj hx
    have hzl : zs.length = cap := by simpa using hz
    refine ⟨(zs.take len).map (fun z => UInt8.ofNat z.toNat), ?_, ?_⟩
    · refine ⟨some a, cap, by simp; omega, by simp; omega, hm, (fun h => by cases h), ?_⟩
      by_cases h0 : len = 0
      · left; simp [h0]
      · right
        obtain ⟨b, off, rfl, hc⟩ := ints_at hcell (by omega)
        refine ⟨b, off, rfl, Nat.zero_le _, fun j x hx => ?_⟩
        have hj : j < len := by have := (List.getElem?_eq_some_iff.1 hx).1; simp at this; omega
        refine ⟨?_, hfz b (off + j) (MemPlace.mem_row.2 ⟨j, by omega, rfl⟩)⟩
        rw [hc j (by omega)]
        have hzj : zs[j]? = some (zs.getD j 0) := by rw [List.getD_eq_getElem?_getD, List.getElem?_eq_getElem (by omega)]; rfl
        have hw := hwz (zs.getD j 0) (List.mem_of_getElem? hzj)
        rw [List.map_map, List.getElem?_map, List.getElem?_take, if_pos hj, hzj] at hx
        cases hx
        rw [u8_of hw]; rfl
    · have := bulk_slice (lits (H := H) .u8 (zs.take len)) (lits .u8 (zs.drop len))
      simp [lits] at this ⊢; omega

/-- Flat cells of a datum of numbers. -/
def flat : Nat → DataW Unit → List Value
  | 0, _ => []
  | n + 1, .agg l => l.flatMap (flat n)
  | _, .lit (.int k x) => [.int k x]
  | _, _ => []
noncomputable def lay (cs : List Value) : Obj → Obj
  | .cells _ t frozen => .cells cs.toArray t frozen
  | o => o
/-- So many blocks has the settled world. -/
noncomputable def low : Nat := (World.holding Tryz.prog default ⟨#[], #[], []⟩).heap.size
abbrev synS : ByteArray := { data := #[105, 110, 118, 97, 108, 105, 100, 32, 115, 121, 110, 116, 97, 120] }
abbrev rngS : ByteArray := { data := #[118, 97, 108, 117, 101, 32, 111, 117, 116, 32, 111, 102, 32, 114, 97, 110, 103, 101] }
abbrev newBlocks : Array Obj := #[.cells #[.string synS] 447, .cells #[.string rngS] 447]
/-- A WORLD FOR THE WITNESSES: the settled one, each listed variable holding what its text lays. -/
noncomputable def laidWorld (os : Os) : World :=
  let w0 := World.holding Tryz.prog os ⟨newBlocks, #[], []⟩
  let h := w0.heap
  let h := h.modify 2 (lay (flat 3 Rows.laid_math_bits_deBruijn32tab))
  let h := h.modify 3 (lay (flat 3 Rows.laid_math_bits_deBruijn64tab))
  let h := h.modify 0 (lay (flat 3 Rows.laid_internal_strconv_uint64pow10))
  let h := h.modify 7 (lay (flat 3 Rows.laid_unicode_utf8_acceptRanges))
  let h := h.modify 6 (lay (flat 3 Rows.laid_unicode_utf8_first))
  let h := h.modify 4 (lay [.iface 445 (.pointer (some ⟨low, 0, none⟩))])
  let h := h.modify 5 (lay [.iface 445 (.pointer (some ⟨low + 1, 0, none⟩))])
  { w0 with heap := h }
theorem world_vars (os : Os) (args : Array Value) : ((laidWorld os).forCall (fun _ _ => 0) ⟨#[], args, []⟩).variablesRefB Tryz.checked.prog = true := by kernel_rfl
theorem world_rest (os : Os) (args : Array Value) : (((laidWorld os).forCall (fun _ _ => 0) ⟨#[], args, []⟩).heap.toList.drop Tryz.checked.prog.globals.size).take ((begin Tryz.checked.prog (fun _ _ => 0) default).world.heap.size - Tryz.checked.prog.globals.size) =
      (begin Tryz.checked.prog (fun _ _ => 0) default).world.heap.toList.drop Tryz.checked.prog.globals.size := by kernel_rfl
theorem met_machines (os : Os) (args : Array Value) : laidMet Tryz.prog Rows.machinesVoidRow.laid ((laidWorld os).forCall (fun _ _ => 0) ⟨#[], args, []⟩).memory := laidMet_of_run' 8 (by kernel_rfl) (by kernel_rfl)

theorem laid_tail {P : Program} {W : World} {x : String × DataW Unit} {rest : List (String × DataW Unit)} (h : laidMet P (x :: rest) W) : laidMet P rest W := by
  obtain ⟨ps, ⟨g, t, cs, fuel, p, q, hg, ht, hv, hd, hr, rfl⟩, hn, hf⟩ := h
  exact ⟨q, hr, (List.nodup_append.1 hn).2.1, fun b off hm => hf b off (List.mem_append_right _ hm)⟩
theorem iface_of_head {P : Program} {W : World} {x name : String} {d : DataW Unit} {rest : List (String × DataW Unit)} {g t : Nat} {ms : Array (String × TypeId)} (hg : P.globalNamed x = some g) (hty : (P.globals[g]?).map (·.type) = some t)
    (ht : P.underlying t = some (.interface ms)) (h : laidMet P ((x, .iface name d) :: rest) W) : ∃ tp p, W.var? P x = some #[.iface tp p] := by
  obtain ⟨ps, ⟨g', t', cs, fuel, p, q, hg', ht', hvar, hd, _, _⟩, _⟩ := h
  obtain rfl := Option.some.inj (hg.symm.trans hg')
  obtain rfl := Option.some.inj (hty.symm.trans ht')
  obtain ⟨l⟩ := cs
  cases fuel with
  | zero => simp [DataW.trod] at hd
  | succ fuel =>
    match l with
    | [] => simp [DataW.trod, ht] at hd
    | [x] => cases x <;> first | exact ⟨_, _, hvar⟩ | (simp [DataW.trod, ht] at hd)
    | x :: y :: l => simp [DataW.trod, ht] at hd
set_option maxRecDepth 100000 in
theorem machines_laid {W : World} (h : laidMet Tryz.prog Rows.machinesVoidRow.laid W) : HasPow W ∧ HasErr W :=
  ⟨Lib.tabIs_of_head (g := 0) (t := 284) (e := 39) (n := 20) (by kernel_rfl) (by kernel_rfl) (by kernel_rfl) (by kernel_rfl) (by kernel_rfl) (by kernel_rfl) (laid_tail (laid_tail h)),
   iface_of_head (g := 5) (t := 190) (by kernel_rfl) (by kernel_rfl) Tryz.underlying190 (laid_tail (laid_tail (laid_tail (laid_tail h))))⟩
set_option maxRecDepth 100000 in
theorem open_scmd {H : Type} {enc : TypeId × Value → H} {W : World} {base : Nat} {v : Value} {d : DataW H} {p : List MemPlace} (hval : Value.okWide Tryz.prog W .any base 25 v)
    (h : DataW.Trod enc Tryz.prog W 0 (fun _ => true) true 25 v d p) : ∃ (k j : Int) (a : Option Addr) (n c : Nat), v = .agg #[.int .u8 k, .int .i64 j, .slice a n c] := by
  have hcs : ∃ cs, v = .agg cs ∧ cs.size = Tryz.prog.cellsOf 25 := by
    simp only [Value.okWide, Tryz.underlying25] at hval
    obtain ⟨cs, h1, h2, _⟩ := hval
    exact ⟨cs, h1, h2⟩
  obtain ⟨cs, rfl, hsz⟩ := hcs
  obtain ⟨l⟩ := cs
  have hC : Tryz.prog.cellsOf 25 = 3 := by kernel_rfl
  have k0 : Tryz.prog.cellsOf 22 = 1 := by kernel_rfl
  have k1 : Tryz.prog.cellsOf 3 = 1 := by kernel_rfl
  have k2 : Tryz.prog.cellsOf 23 = 1 := by kernel_rfl
  match l, hsz.trans hC with
  | [c0, c1, c2], _ =>
    obtain ⟨fuel, hf⟩ := h
    obtain ⟨xs, n, _, hx, hcl, hlen, hg⟩ := DataW.trod_struct Tryz.underlying25 hf
    match xs, hlen with
    | [y0, y1, y2], _ =>
      have h0 := hg 0 _ rfl
      have h1 := hg 1 _ rfl
      have h2 := hg 2 _ rfl
      simp [k0, Value.cells] at h0
      simp [k1, Value.cells] at h1
      simp [k2, Value.cells] at h2
      obtain ⟨z0, e0, _, w0⟩ := DataW.trod_int Tryz.underlying22 h0
      obtain ⟨z1, e1, _, w1⟩ := DataW.trod_int Tryz.underlying3 h1
      obtain rfl := List.cons.inj e0 |>.1
      obtain rfl := List.cons.inj e1 |>.1
      rcases DataW.trod_slice Tryz.underlying23 h2 with ⟨e2, rfl⟩ | ⟨a, len, cap, elems, rest, m, _, e2, _⟩
      · obtain rfl := List.cons.inj e2 |>.1
        exact ⟨z0, z1, none, 0, 0, rfl⟩
      · obtain rfl := List.cons.inj e2 |>.1
        exact ⟨z0, z1, some a, len, cap, rfl⟩
end Go.Proofs.YtfajddlijgpgoaaGreatDoor
