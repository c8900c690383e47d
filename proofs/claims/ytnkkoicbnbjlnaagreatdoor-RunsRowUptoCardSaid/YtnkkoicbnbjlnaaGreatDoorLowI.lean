/- What every law's card shares: the witness' world, in which the listed variables hold what the rows list; and the step from 'the walk returns true and leaves old memory as it was' to the row's own words. No condition. And what goes with it (4 texts). -/
import Derived.Test.YtnkkoicbnbjlnaaGreatDoorCards
import Derived.Test.YtnkkoicbnbjlnaaGreatDoorTie
import Derived.Test.YtnkkoicbnbjlnaaGreatDoorLowA
import Derived.ProofKit
import Derived.OpenShut
import Derived.ReadAgain
import Derived.Deep.DeepHandedRow
import Derived.Deep.DeepWitnessRowRef
import Derived.Lib.LaidTab
import Derived.Test.YtnkkoicbnbjlnaaGreatDoorLowB
import Derived.Test.YtnkkoicbnbjlnaaGreatDoorRnC
import Derived.Deep.Slices
namespace Go.Proofs.YtnkkoicbnbjlnaaGreatDoor
set_option maxRecDepth 100000
set_option maxHeartbeats 8000000
open Go.ChangeShapes Go.WideShapes Go.ChangeAt Go.RowKit
theorem own : ownKnob Tryz.prog.godebug = none := by kernel_rfl
theorem laidOut : laidOutB Tryz.prog = true := by kernel_rfl
theorem trodAll_stays {H : Type} {enc : TypeId × Value → H} {P : Program} {W W' : World} (hl : laidOutB P = true) (hb : Below W.heap.size W W') (ts : List TypeId) :
  ∀ (vs : List Value) (ds : List (DataW H)) (p : List MemPlace), (∀ t ∈ ts, P.readableRec t = true ∧ t < P.types.size) →
   DataW.TrodAll enc P W 0 (fun _ => true) true ts vs ds p → (∀ x ∈ p, x.block < W.heap.size) → DataW.TrodAll enc P W' 0 (fun b => decide (b < W.heap.size)) true ts vs ds p := by
 induction ts with
 | nil =>
  intro vs ds p _ h _
  obtain ⟨rfl, rfl, rfl⟩ := trodAll_nil h
  exact trodAll_mk0
 | cons t ts ih =>
  intro vs ds p hr h hlt
  obtain ⟨v, vs', d, ds', p, q, rfl, rfl, rfl, h1, h2⟩ := trodAll_cons h
  have h3 := hr t (by simp)
  exact trodAll_cons_mk (Below.trod hl h3.1 h3.2 h1 hb (fun x hx => hlt x (List.mem_append_left _ hx))) (ih _ _ _ (fun t' ht => hr t' (by simp [ht])) h2 (fun x hx => hlt x (List.mem_append_right _ hx)))
theorem readable_of {P : Program} {ts : List TypeId} (h : ts.all (fun t => P.readableRec t && decide (t < P.types.size)) = true) : ∀ t ∈ ts, P.readableRec t = true ∧ t < P.types.size := by
 intro t ht
 have := List.all_eq_true.1 h t ht
 simpa using this
theorem law_post {H : Type} {enc : TypeId × Value → H} {f : Func} {s : ChangeSpec} {W W' : World} {args : Array Value} {ds gs : List (DataW H)} {before : List MemPlace}
  (hv : s.vars = []) (hres : f.resultTypes = #[4]) (hr : f.params.toList.all (fun t => Tryz.prog.readableRec t && decide (t < Tryz.prog.types.size)) = true)
  (hW : DataW.Whole enc Tryz.prog f.params.toList s.vars false W args.toList ds gs before) (hfn : s.fn H (ds ++ gs) = { results := [.lit (.bool true)], args := ds }) (hb : Below W.heap.size W W') :
  s.post enc Tryz.prog f false true false false W args (.bool true) W' := by
 have hlt := hW.lt
 have hW' := hW
 obtain ⟨p, q, hA, hV, rfl, hfz, hnd⟩ := hW
 refine ⟨ds, gs, p ++ q, [], p, [], hW', ?_, ?_, ?_, hb.frame _, fun h => by cases h⟩
 ·rw [hfn, hres]
  exact trodAll_mk1 (shut_bool Tryz.underlying4 true)
 ·rw [hfn]
  exact trodAll_stays laidOut hb _ _ _ _ (readable_of hr) hA (fun x hx => hlt x (List.mem_append_left _ hx))
 ·rw [hfn, hv]
  rfl
theorem one_le {H : Type} (d : DataW H) : 1 ≤ Rows.uptoBulk d := by
 cases d with
 | lit l => cases l <;> simp [Rows.uptoBulk]
 | nil => simp [Rows.uptoBulk]
 | ptr d => simp [Rows.uptoBulk]
 | slice elems spare => simp [Rows.uptoBulk]
 | agg parts => simp [Rows.uptoBulk]
 | iface t d => simp [Rows.uptoBulk]
 | map entries => simp [Rows.uptoBulk]
 | held h => simp [Rows.uptoBulk]
theorem bulk_length {H : Type} (l : List (DataW H)) : l.length ≤ Rows.uptoBulkAll l := by
 induction l with
 | nil => simp [Rows.uptoBulkAll]
 | cons x r ih => have := one_le x; simp only [Rows.uptoBulkAll, List.length_cons]; omega
theorem bulk_slice {H : Type} (elems spare : List (DataW H)) : elems.length + spare.length ≤ Rows.uptoBulk (.slice elems spare) := by
 have h1 := bulk_length elems
 have h2 := bulk_length spare
 simp only [Rows.uptoBulk]
 omega
theorem u8_of {z : Int} (h : (Lit.int .u8 z).wf = true) : Value.int .u8 z = u8v (UInt8.ofNat z.toNat) := by
 have hb : 0 ≤ z ∧ z ≤ 255 := bounds_u8 h
 unfold u8v
 rw [UInt8.toNat_ofNat']
 congr 1; omega
set_option maxRecDepth 100000 in
/-- An argument of bytes. -/
theorem open_bytes {H : Type} {enc : TypeId × Value → H} {W : World} {base : Nat} {v : Value} {d : DataW H} {p : List MemPlace} (hval : Value.okWide Tryz.prog W .any base 47 v)
    (h : DataW.Trod enc Tryz.prog W 0 (fun _ => true) true 47 v d p) (hfz : W.noneFrozen p) : ∃ l : List UInt8, Own W 0 v (l.map u8v) ∧ l.length ≤ Rows.uptoBulk d := by
  obtain ⟨a0, len, cap, rfl⟩ := okWide_slice Tryz.underlying47 hval
  obtain ⟨fuel, hf⟩ := h
  rcases open_ints Tryz.underlying47 Tryz.underlying5 (by kernel_rfl) hf with ⟨hcs, hx⟩ | ⟨a, len', cap', zs, hcs, _, hl, hm, hz, hx, hcell, hwz⟩
  · obtain ⟨rfl, rfl, rfl⟩ : a0 = none ∧ len = 0 ∧ cap = 0 := by simpa [Value.cells] using hcs
    exact ⟨[], Own.nil W 0, by simp⟩
  · obtain ⟨rfl, rfl, rfl⟩ : a0 = some a ∧ len = len' ∧ cap = cap' := by simpa [Value.cells] using hcs
    obtain ⟨rfl, rfl⟩ := Prod.mk.inj hx
    have hzl : zs.length = cap := by simpa using hz
    refine ⟨(zs.take len).map (fun z => UInt8.ofNat z.toNat), ?_, ?_⟩
    · refine ⟨some a, cap, by simp; omega, by simp; omega, hm, (fun h => by cases h), ?_⟩
      by_cases h0 : len = 0
      · left; simp [h0]
      · right
        obtain ⟨b, off, rfl, hc⟩ := ints_at hcell (by omega)
        refine ⟨b, off, rfl, Nat.zero_le _, fun j x hx => ?_⟩
        have hj : j < len := by have := (List.getElem?_eq_some_iff.1 hx).1; simp at this; omega
        refine ⟨?_, hfz b (off + j) (MemPlace.mem_row.2 ⟨j, by omega, rfl⟩)⟩
        rw [hc j (by omega)]
        have hzj : zs[j]? = some (zs.getD j 0) := by rw [List.getD_eq_getElem?_getD, List.getElem?_eq_getElem (by omega)]; rfl
        have hw := hwz (zs.getD j 0) (List.mem_of_getElem? hzj)
        rw [List.map_map, List.getElem?_map, List.getElem?_take, if_pos hj, hzj] at hx
        cases hx
        rw [u8_of hw]; rfl
    · have := bulk_slice (lits (H := H) .u8 (zs.take len)) (lits .u8 (zs.drop len))
      simp [lits] at this ⊢; omega
def flat : Nat → DataW Unit → List Value
 | 0, _ => []
 | n + 1, .agg l => l.flatMap (flat n)
 | _, .lit (.int k x) => [.int k x]
 | _, _ => []
noncomputable def lay (cs : List Value) : Obj → Obj
 | .cells _ t frozen => .cells cs.toArray t frozen
 | o => o
noncomputable def low : Nat := (World.holding Tryz.prog default ⟨#[], #[], []⟩).heap.size
abbrev synS : ByteArray := { data := #[105, 110, 118, 97, 108, 105, 100, 32, 115, 121, 110, 116, 97, 120] }
abbrev rngS : ByteArray := { data := #[118, 97, 108, 117, 101, 32, 111, 117, 116, 32, 111, 102, 32, 114, 97, 110, 103, 101] }
abbrev newBlocks : Array Obj := #[.cells #[.string synS] 465, .cells #[.string rngS] 465]
noncomputable def laidWorld (os : Os) : World :=
 let w0 := World.holding Tryz.prog os ⟨newBlocks, #[], []⟩
 let h := w0.heap
  let h := h.modify 2 (lay (flat 3 Rows.laid_math_bits_deBruijn32tab))
  let h := h.modify 3 (lay (flat 3 Rows.laid_math_bits_deBruijn64tab))
  let h := h.modify 0 (lay (flat 3 Rows.laid_internal_strconv_uint64pow10))
  let h := h.modify 7 (lay (flat 3 Rows.laid_unicode_utf8_acceptRanges))
  let h := h.modify 6 (lay (flat 3 Rows.laid_unicode_utf8_first))
  let h := h.modify 4 (lay [.iface 463 (.pointer (some ⟨low, 0, none⟩))])
  let h := h.modify 5 (lay [.iface 463 (.pointer (some ⟨low + 1, 0, none⟩))])
 { w0 with heap := h }
theorem world_vars (os : Os) (args : Array Value) : ((laidWorld os).forCall (fun _ _ => 0) ⟨#[], args, []⟩).variablesRefB Tryz.checked.prog = true := by kernel_rfl
theorem world_rest (os : Os) (args : Array Value) : (((laidWorld os).forCall (fun _ _ => 0) ⟨#[], args, []⟩).heap.toList.drop Tryz.checked.prog.globals.size).take ((begin Tryz.checked.prog (fun _ _ => 0) default).world.heap.size - Tryz.checked.prog.globals.size) =
   (begin Tryz.checked.prog (fun _ _ => 0) default).world.heap.toList.drop Tryz.checked.prog.globals.size := by kernel_rfl
theorem met_runsRow (os : Os) (args : Array Value) : laidMet Tryz.prog Rows.runsRowRow.laid ((laidWorld os).forCall (fun _ _ => 0) ⟨#[], args, []⟩).memory := laidMet_of_run' 8 (by kernel_rfl) (by kernel_rfl)
theorem laid_tail {P : Program} {W : World} {x : String × DataW Unit} {rest : List (String × DataW Unit)} (h : laidMet P (x :: rest) W) : laidMet P rest W := by
 obtain ⟨ps, ⟨g, t, cs, fuel, p, q, hg, ht, hv, hd, hr, rfl⟩, hn, hf⟩ := h
 exact ⟨q, hr, (List.nodup_append.1 hn).2.1, fun b off hm => hf b off (List.mem_append_right _ hm)⟩
theorem iface_of_head {P : Program} {W : World} {x name : String} {d : DataW Unit} {rest : List (String × DataW Unit)} {g t : Nat} {ms : Array (String × TypeId)} (hg : P.globalNamed x = some g) (hty : (P.globals[g]?).map (·.type) = some t)
  (ht : P.underlying t = some (.interface ms)) (h : laidMet P ((x, .iface name d) :: rest) W) : ∃ tp p, W.var? P x = some #[.iface tp p] := by
 obtain ⟨ps, ⟨g', t', cs, fuel, p, q, hg', ht', hvar, hd, _, _⟩, _⟩ := h
 obtain rfl := Option.some.inj (hg.symm.trans hg')
 obtain rfl := Option.some.inj (hty.symm.trans ht')
 obtain ⟨l⟩ := cs
 cases fuel with
 | zero => simp [DataW.trod] at hd
 | succ fuel =>
  match l with
  | [] => simp [DataW.trod, ht] at hd
  | [x] => cases x <;> first | exact ⟨_, _, hvar⟩ | (simp [DataW.trod, ht] at hd)
  | x :: y :: l => simp [DataW.trod, ht] at hd
set_option maxRecDepth 100000 in
theorem runsRow_laid {W : World} (h : laidMet Tryz.prog Rows.runsRowRow.laid W) : HasPow W ∧ HasErr W :=
  ⟨Lib.tabIs_of_head (g := 0) (t := 177) (e := 24) (n := 20) (by kernel_rfl) (by kernel_rfl) (by kernel_rfl) (by kernel_rfl) (by kernel_rfl) (by kernel_rfl) (laid_tail (laid_tail h)),
   iface_of_head (g := 5) (t := 92) (by kernel_rfl) (by kernel_rfl) Tryz.underlying92 (laid_tail (laid_tail (laid_tail (laid_tail h))))⟩
theorem trod_call {H : Type} {enc : TypeId × Value → H} {W : World} {base : Nat} {sp : Nat → Bool} {held : Bool} {fuel : Nat} {c0 c1 c2 c3 c4 c5 c6 : Value} {y : DataW H × List MemPlace} (h : DataW.trod enc Tryz.prog W base sp held fuel 26 [c0, c1, c2, c3, c4, c5, c6] = some y) :
  ∃ r : CallD, [c0, c1, c2, c3, c4, c5, c6] = r.cells ∧ r.Ok ∧ r.key.size + r.value.size ≤ Rows.uptoBulk y.1 := by
 obtain ⟨xs, n, _, hx, _, hlen, hg⟩ := DataW.trod_struct Tryz.underlying26 h
 have k_int64 : Tryz.prog.cellsOf 2 = 1 := by kernel_rfl
 have k_nestboxapiVerb : Tryz.prog.cellsOf 22 = 1 := by kernel_rfl
 have k_string : Tryz.prog.cellsOf 9 = 1 := by kernel_rfl
 have k_uint32 : Tryz.prog.cellsOf 23 = 1 := by kernel_rfl
 have k_uint64 : Tryz.prog.cellsOf 24 = 1 := by kernel_rfl
 match xs, hlen with
 | [y0, y1, y2, y3, y4, y5, y6], _ =>
  have h0 := hg 0 _ rfl
  simp [k_nestboxapiVerb] at h0
  obtain ⟨z0, e0, rfl, w0⟩ := DataW.trod_int Tryz.underlying22 h0
  obtain rfl := List.cons.inj e0 |>.1
  have h1 := hg 1 _ rfl
  simp [k_string] at h1
  obtain ⟨z1, e1, rfl, w1⟩ := DataW.trod_string Tryz.underlying9 h1
  obtain rfl := List.cons.inj e1 |>.1
  have h2 := hg 2 _ rfl
  simp [k_string] at h2
  obtain ⟨z2, e2, rfl, w2⟩ := DataW.trod_string Tryz.underlying9 h2
  obtain rfl := List.cons.inj e2 |>.1
  have h3 := hg 3 _ rfl
  simp [k_uint32] at h3
  obtain ⟨z3, e3, rfl, w3⟩ := DataW.trod_int Tryz.underlying23 h3
  obtain rfl := List.cons.inj e3 |>.1
  have h4 := hg 4 _ rfl
  simp [k_int64] at h4
  obtain ⟨z4, e4, rfl, w4⟩ := DataW.trod_int Tryz.underlying2 h4
  obtain rfl := List.cons.inj e4 |>.1
  have h5 := hg 5 _ rfl
  simp [k_uint64] at h5
  obtain ⟨z5, e5, rfl, w5⟩ := DataW.trod_int Tryz.underlying24 h5
  obtain rfl := List.cons.inj e5 |>.1
  have h6 := hg 6 _ rfl
  simp [k_uint64] at h6
  obtain ⟨z6, e6, rfl, w6⟩ := DataW.trod_int Tryz.underlying24 h6
  obtain rfl := List.cons.inj e6 |>.1
  subst hx
  refine ⟨⟨z0, z1, z2, z3, z4, z5, z6⟩, rfl, ⟨bounds_u8 w0, w1, w2, bounds_u32 w3, bounds_u64 w5, bounds_u64 w6⟩, ?_⟩
  have q1 := bs_length z1
  unfold bs at q1
  have q2 := bs_length z2
  unfold bs at q2
  simp only [List.map_cons, List.map_nil, Rows.uptoBulk, Rows.uptoBulkAll]
  omega
theorem trod_item {H : Type} {enc : TypeId × Value → H} {W : World} {base : Nat} {sp : Nat → Bool} {held : Bool} {fuel : Nat} {c0 c1 c2 c3 c4 c5 : Value} {y : DataW H × List MemPlace} (h : DataW.trod enc Tryz.prog W base sp held fuel 29 [c0, c1, c2, c3, c4, c5] = some y) :
  ∃ r : ItemD, [c0, c1, c2, c3, c4, c5] = r.cells ∧ r.Ok ∧ r.key.size + r.value.size ≤ Rows.uptoBulk y.1 := by
 obtain ⟨xs, n, _, hx, _, hlen, hg⟩ := DataW.trod_struct Tryz.underlying29 h
 have k_int : Tryz.prog.cellsOf 3 = 1 := by kernel_rfl
 have k_string : Tryz.prog.cellsOf 9 = 1 := by kernel_rfl
 have k_uint32 : Tryz.prog.cellsOf 23 = 1 := by kernel_rfl
 have k_uint64 : Tryz.prog.cellsOf 24 = 1 := by kernel_rfl
 match xs, hlen with
 | [y0, y1, y2, y3, y4, y5], _ =>
  have h0 := hg 0 _ rfl
  simp [k_string] at h0
  obtain ⟨z0, e0, rfl, w0⟩ := DataW.trod_string Tryz.underlying9 h0
  obtain rfl := List.cons.inj e0 |>.1
  have h1 := hg 1 _ rfl
  simp [k_string] at h1
  obtain ⟨z1, e1, rfl, w1⟩ := DataW.trod_string Tryz.underlying9 h1
  obtain rfl := List.cons.inj e1 |>.1
  have h2 := hg 2 _ rfl
  simp [k_uint32] at h2
  obtain ⟨z2, e2, rfl, w2⟩ := DataW.trod_int Tryz.underlying23 h2
  obtain rfl := List.cons.inj e2 |>.1
  have h3 := hg 3 _ rfl
  simp [k_uint64] at h3
  obtain ⟨z3, e3, rfl, w3⟩ := DataW.trod_int Tryz.underlying24 h3
  obtain rfl := List.cons.inj e3 |>.1
  have h4 := hg 4 _ rfl
  simp [k_int] at h4
  obtain ⟨z4, e4, rfl, w4⟩ := DataW.trod_int Tryz.underlying3 h4
  obtain rfl := List.cons.inj e4 |>.1
  have h5 := hg 5 _ rfl
  simp [k_int] at h5
  obtain ⟨z5, e5, rfl, w5⟩ := DataW.trod_int Tryz.underlying3 h5
  obtain rfl := List.cons.inj e5 |>.1
  subst hx
  refine ⟨⟨z0, z1, z2, z3, z4, z5⟩, rfl, ⟨w0, w1, bounds_u32 w2, bounds_u64 w3⟩, ?_⟩
  have q0 := bs_length z0
  unfold bs at q0
  have q1 := bs_length z1
  unfold bs at q1
  simp only [List.map_cons, List.map_nil, Rows.uptoBulk, Rows.uptoBulkAll]
  omega
theorem trod_ansR {H : Type} {enc : TypeId × Value → H} {W : World} {base : Nat} {sp : Nat → Bool} {held : Bool} {fuel : Nat} {c0 c1 c2 c3 c4 c5 c6 c7 : Value} {y : DataW H × List MemPlace} (h : DataW.trod enc Tryz.prog W base sp held fuel 31 [c0, c1, c2, c3, c4, c5, c6, c7] = some y) :
  ∃ a : AnsD, [c0, c1, c2, c3, c4, c5, c6, c7] = [.int .u8 a.kind, .int .u64 a.number, .string a.item.key, .string a.item.value, .int .u32 a.item.flags, .int .u64 a.item.id, .int .i64 a.item.dies, .int .i64 a.item.gen] ∧ a.Ok ∧ a.item.key.size + a.item.value.size ≤ Rows.uptoBulk y.1 := by
 obtain ⟨xs, n, _, hx, _, hlen, hg⟩ := DataW.trod_struct Tryz.underlying31 h
 have kv : Tryz.prog.cellsOf 27 = 1 := by kernel_rfl
 have ku : Tryz.prog.cellsOf 24 = 1 := by kernel_rfl
 have ki : Tryz.prog.cellsOf 29 = 6 := by kernel_rfl
 match xs, hlen with
 | [y0, y1, y2], _ =>
  have h0 := hg 0 _ rfl
  have h1 := hg 1 _ rfl
  have h2 := hg 2 _ rfl
  simp [kv] at h0
  simp [ku] at h1
  simp [ki] at h2
  obtain ⟨z0, e0, rfl, w0⟩ := DataW.trod_int Tryz.underlying27 h0
  obtain rfl := List.cons.inj e0 |>.1
  obtain ⟨z1, e1, rfl, w1⟩ := DataW.trod_int Tryz.underlying24 h1
  obtain rfl := List.cons.inj e1 |>.1
  obtain ⟨r, e2, hr, hb⟩ := trod_item h2
  subst hx
  refine ⟨⟨z0, z1, r⟩, ?_, ⟨bounds_u8 w0, bounds_u64 w1, hr⟩, ?_⟩
  ·simp only [List.cons.injEq, and_true] at e2
   obtain ⟨rfl, rfl, rfl, rfl, rfl, rfl⟩ := e2
   rfl
  ·simp only [List.map_cons, List.map_nil, Rows.uptoBulk, Rows.uptoBulkAll]
   omega
theorem open_called {H : Type} {enc : TypeId × Value → H} {W : World} {base : Nat} {v : Value} {d : DataW H} {p : List MemPlace} (hval : Value.okWide Tryz.prog W .any base 33 v)
  (h : DataW.Trod enc Tryz.prog W 0 (fun _ => true) true 33 v d p) : ∃ x : RowD, v = .agg x.cells.toArray ∧ (Rows.uptoBulk d ≤ 1048576 → One.RowRaw x) := by
 obtain ⟨cs, rfl, hsz⟩ := okWide_struct Tryz.underlying33 hval
 obtain ⟨l⟩ := cs
 have hC : Tryz.prog.cellsOf 33 = 20 := by kernel_rfl
 have kk0 : Tryz.prog.cellsOf 3 = 1 := by kernel_rfl
 have kk1 : Tryz.prog.cellsOf 26 = 7 := by kernel_rfl
 have kk2 : Tryz.prog.cellsOf 31 = 8 := by kernel_rfl
 have kk3 : Tryz.prog.cellsOf 24 = 1 := by kernel_rfl
 match l, hsz.trans hC with
 | [c0, c1, c2, c3, c4, c5, c6, c7, c8, c9, c10, c11, c12, c13, c14, c15, c16, c17, c18, c19], _ =>
  obtain ⟨fuel, hf⟩ := h
  obtain ⟨xs, n, _, hx, _, hlen, hg⟩ := DataW.trod_struct Tryz.underlying33 hf
  match xs, hlen with
  | [y0, y1, y2, y3, y4, y5, y6], _ =>
   have h0 := hg 0 _ rfl
   simp [kk0, Value.cells] at h0
   obtain ⟨z0, e0, rfl, w0⟩ := DataW.trod_int Tryz.underlying3 h0
   obtain rfl := List.cons.inj e0 |>.1
   have h1 := hg 1 _ rfl
   simp [kk1, Value.cells] at h1
   obtain ⟨z1, e1, w1, b1⟩ := trod_call h1
   simp only [CallD.cells, List.cons.injEq, and_true] at e1
   obtain ⟨rfl, rfl, rfl, rfl, rfl, rfl, rfl⟩ := e1
   have h2 := hg 2 _ rfl
   simp [kk0, Value.cells] at h2
   obtain ⟨z2, e2, rfl, w2⟩ := DataW.trod_int Tryz.underlying3 h2
   obtain rfl := List.cons.inj e2 |>.1
   have h3 := hg 3 _ rfl
   simp [kk0, Value.cells] at h3
   obtain ⟨z3, e3, rfl, w3⟩ := DataW.trod_int Tryz.underlying3 h3
   obtain rfl := List.cons.inj e3 |>.1
   have h4 := hg 4 _ rfl
   simp [kk2, Value.cells] at h4
   obtain ⟨z4, e4, w4, b4⟩ := trod_ansR h4
   simp only [List.cons.injEq, and_true] at e4
   obtain ⟨rfl, rfl, rfl, rfl, rfl, rfl, rfl, rfl⟩ := e4
   have h5 := hg 5 _ rfl
   simp [kk3, Value.cells] at h5
   obtain ⟨z5, e5, rfl, w5⟩ := DataW.trod_int Tryz.underlying24 h5
   obtain rfl := List.cons.inj e5 |>.1
   have h6 := hg 6 _ rfl
   simp [kk0, Value.cells] at h6
   obtain ⟨z6, e6, rfl, w6⟩ := DataW.trod_int Tryz.underlying3 h6
   obtain rfl := List.cons.inj e6 |>.1
   have q0 := bounds_i64 w0
   have q2 := bounds_i64 w2
   have q3 := bounds_i64 w3
   have q6 := bounds_i64 w6
   have qv := w1.verb
   have qk := w4.kind
   have qn := w4.number
   have qi := w4.item.id
   have hkl : z1.key.data.toList.length = z1.key.size := bs_length z1.key
   refine ⟨⟨z0, z1.verb.toNat, z1.key.data.toList, z1.value, z1.flags, z1.exp, z1.id, z1.by', z2, z3, z4.kind.toNat, z4.number.toNat, z4.item.key, z4.item.value, z4.item.flags, z4.item.id.toNat, z4.item.dies, z4.item.gen, z5, z6⟩, ?_, fun hk => ?_⟩
   ·show _ = Value.agg #[Value.int .i64 z0, .int .u8 ((z1.verb.toNat : Nat) : Int), .string ⟨z1.key.data.toList.toArray⟩, .string z1.value, .int .u32 z1.flags, .int .i64 z1.exp, .int .u64 z1.id, .int .u64 z1.by', .int .i64 z2, .int .i64 z3, .int .u8 ((z4.kind.toNat : Nat) : Int), .int .u64 ((z4.number.toNat : Nat) : Int), .string z4.item.key, .string z4.item.value, .int .u32 z4.item.flags, .int .u64 ((z4.item.id.toNat : Nat) : Int), .int .i64 z4.item.dies, .int .i64 z4.item.gen, .int .u64 z5, .int .i64 z6]
    rw [show ((z1.verb.toNat : Nat) : Int) = z1.verb from by omega, show ((z4.kind.toNat : Nat) : Int) = z4.kind from by omega, show ((z4.number.toNat : Nat) : Int) = z4.number from by omega, show ((z4.item.id.toNat : Nat) : Int) = z4.item.id from by omega]
   ·simp only [Prod.mk.injEq] at hx
    obtain ⟨rfl, _⟩ := hx
    simp only [List.map_cons, List.map_nil, Rows.uptoBulk, Rows.uptoBulkAll] at hk
    exact ⟨q0, q2, q3, q6, by show z1.verb.toNat < _; omega, by show z4.kind.toNat < _; omega, by show z4.number.toNat < _; omega, by show z4.item.id.toNat < _; omega, by show z1.key.data.toList.length ≤ _; omega, by show z1.value.size ≤ _; omega, by show z4.item.key.size ≤ _; omega, by show z4.item.value.size ≤ _; omega⟩
end Go.Proofs.YtnkkoicbnbjlnaaGreatDoor
