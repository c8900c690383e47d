/- Histories in memory: rows of calls, of drops, of entries. No condition. The order of a history (hists.Order). Condition: the history lies in memory; a million calls and drops at most. -/
import Derived.Test.YtaooangnnlopcaaGreatDoorLiA
import Derived.Test.YtaooangnnlopcaaGreatDoorSortStable
import Derived.Test.YtaooangnnlopcaaGreatDoorLowA
import Derived.Maps.AppendAt
import Derived.Deep.AppendLies
namespace Go.Proofs.YtaooangnnlopcaaGreatDoor
open Go.RowKit Go.ChangeMaps Go.MapKept
def I64 (z : Int) : Prop := -9223372036854775808 ≤ z ∧ z ≤ 9223372036854775807
/-- A row of elements of sz cells each, that is read. -/
def RRow {α : Type} (f : α → List Value) (sz : Nat) (w : World) (v : Value) (L : List α) : Prop :=
  ∃ (a : Option Addr) (c : Nat), v = .slice a L.length c ∧ L.length ≤ c ∧ c ≤ maxLen ∧ (a = none → c = 0) ∧
    ∀ (j : Nat) (x : α), L[j]? = some x → ∃ g o, a = some ⟨g, o, none⟩ ∧ g < w.heap.size ∧ w.rangeAt g (o + j * sz) (f x)
theorem RRow.nil {α : Type} {f : α → List Value} {sz : Nat} {w : World} : RRow f sz w (.slice none 0 0) [] := ⟨none, 0, rfl, Nat.le_refl _, by simp [maxLen], fun _ => rfl, fun j x h => by simp at h⟩
theorem RRow.len {α : Type} {f : α → List Value} {sz : Nat} {w : World} {v : Value} {L : List α} (h : RRow f sz w v L) : ∃ a c, v = .slice a L.length c := by
  obtain ⟨a, c, rfl, _⟩ := h
  exact ⟨a, c, rfl⟩
theorem RRow.max {α : Type} {f : α → List Value} {sz : Nat} {w : World} {v : Value} {L : List α} (h : RRow f sz w v L) : L.length ≤ maxLen := by
  obtain ⟨a, c, rfl, h1, h2, _⟩ := h
  omega
theorem range_kept {M : Nat → Prop} {w w' : World} {g o : Nat} {xs : List Value} (hc : Chg M w w') (hg : g < w.heap.size) (hM : ¬ M g) (h : w.rangeAt g o xs) : w'.rangeAt g o xs := fun i u hu => by
  rw [World.cell?_of_block (hc.block g hg hM)]
  exact h i u hu
theorem RRow.kept {α : Type} {f : α → List Value} {sz : Nat} {M : Nat → Prop} {w w' : World} {v : Value} {L : List α} (h : RRow f sz w v L) (hc : Chg M w w') (hM : ∀ g, v.ownBlock = some g → ¬ M g) : RRow f sz w' v L := by
  obtain ⟨a, c, rfl, h1, h2, h3, h4⟩ := h
  refine ⟨a, c, rfl, h1, h2, h3, fun j x hj => ?_⟩
  obtain ⟨g, o, rfl, hg, hr⟩ := h4 j x hj
  exact ⟨g, o, rfl, Nat.lt_of_lt_of_le hg hc.size, range_kept hc hg (hM g rfl) hr⟩
theorem RRow.below {α : Type} {f : α → List Value} {sz : Nat} {w w' : World} {v : Value} {L : List α} (h : RRow f sz w v L) (hb : Below w.heap.size w w') : RRow f sz w' v L :=
  h.kept (M := fun _ => False) (Chg.of_below hb) (fun _ _ e => e)
/-- One element's place, whose cells lie there in whatever world grows from here. -/
theorem RRow.get {α : Type} {f : α → List Value} {sz : Nat} {w : World} {v : Value} {L : List α} (h : RRow f sz w v L) {j : Nat} {x : α} (hj : L[j]? = some x) :
    ∃ g o c : Nat, v = .slice (some ⟨g, o, none⟩) L.length c ∧ g < w.heap.size ∧ ∀ W, Below w.heap.size w W → W.rangeAt g (o + j * sz) (f x) := by
  obtain ⟨a, c, rfl, h1, h2, h3, h4⟩ := h
  obtain ⟨g, o, rfl, hg, hr⟩ := h4 j x hj
  exact ⟨g, o, c, rfl, hg, fun W hb => range_kept (M := fun _ => False) (Chg.of_below hb) hg id hr⟩
abbrev calledZero : Array Value := #[.int .i64 0, .int .u8 0, .string ⟨#[]⟩, .string ⟨#[]⟩, .int .u32 0, .int .i64 0, .int .u64 0, .int .u64 0, .int .i64 0, .int .i64 0, .int .u8 0, .int .u64 0, .string ⟨#[]⟩, .string ⟨#[]⟩, .int .u32 0, .int .u64 0, .int .i64 0, .int .i64 0, .int .u64 0, .int .i64 0]
abbrev dropZero : Array Value := #[.int .i64 0, .string ⟨#[]⟩, .string ⟨#[]⟩, .int .u32 0, .int .u64 0, .int .i64 0, .int .i64 0]
theorem infoCalled : (Tryz.prog.info? 42).map (fun i => (i.zero, i.size)) = some (some (.agg calledZero), 20) := by kernel_rfl
theorem infoDropD : (Tryz.prog.info? 94).map (fun i => (i.zero, i.size)) = some (some (.agg dropZero), 7) := by kernel_rfl
theorem info_parts2 {i? : Option TypeInfo} {z : Option Value} {s : Nat} (h : i?.map (fun i => (i.zero, i.size)) = some (z, s)) : ∃ i, i? = some i ∧ i.zero = z ∧ i.size = s := by
  cases i? with
  | none => cases h
  | some i => simp at h; exact ⟨i, rfl, h.1, h.2⟩
theorem idx_called {a : Option Addr} {g o n c k : Nat} (ha : a = some ⟨g, o, none⟩) (hk : k < n) (W : World) : (Instr.indexAt 61 (.slice a n c) (.int .i64 (k : Int))).run Tryz.prog W = .ok (.pointer (some ⟨g, o + k * 20, none⟩)) W := by
  subst ha
  have h0 : (0 : Int) ≤ (k : Int) := by omega
  have h1 : (k : Int) < (n : Int) := by omega
  have h2 := Tryz.underlying61
  obtain ⟨i0, hi, hz0, hz1⟩ := info_parts2 infoCalled
  go_simp
theorem idx_drop {a : Option Addr} {g o n c k : Nat} (ha : a = some ⟨g, o, none⟩) (hk : k < n) (W : World) : (Instr.indexAt 62 (.slice a n c) (.int .i64 (k : Int))).run Tryz.prog W = .ok (.pointer (some ⟨g, o + k * 7, none⟩)) W := by
  subst ha
  have h0 : (0 : Int) ≤ (k : Int) := by omega
  have h1 : (k : Int) < (n : Int) := by omega
  have h2 := Tryz.underlying62
  obtain ⟨i0, hi, hz0, hz1⟩ := info_parts2 infoDropD
  go_simp
abbrev CalledD.list (x : CalledD) : List Value := x.cells.toList
abbrev DropD.list (x : DropD) : List Value := [.int .i64 x.step, .string x.item.key, .string x.item.value, .int .u32 x.item.flags, .int .u64 x.item.id, .int .i64 x.item.dies, .int .i64 x.item.gen]
abbrev CRow (w : World) (v : Value) (L : List CalledD) : Prop := RRow CalledD.list 20 w v L
abbrev DRow (w : World) (v : Value) (L : List DropD) : Prop := RRow DropD.list 7 w v L
abbrev ORow (w : World) (v : Value) (L : List EntD) : Prop := RRow entCells 3 w v L
/-- A call whose numbers are of their kinds. -/
structure CalledIs (x : CalledD) : Prop where
  thread : I64 x.thread
  from' : I64 x.from'
  till : I64 x.till
  point : I64 x.point
  epoch : x.epoch < 18446744073709551616
  key : x.call.key.size ≤ maxLen
  verb : 0 ≤ x.call.verb ∧ x.call.verb ≤ 255
  exp : -9223372036854775808 ≤ x.call.exp ∧ x.call.exp ≤ 9223372036854775807
  by' : 0 ≤ x.call.by' ∧ x.call.by' ≤ 18446744073709551615
  value : x.call.value.size ≤ maxLen
  ikey : x.ans.item.key.size ≤ maxLen
  ivalue : x.ans.item.value.size ≤ maxLen
structure DropIs (x : DropD) : Prop where
  step : I64 x.step
  key : x.item.key.size ≤ maxLen
  value : x.item.value.size ≤ maxLen
/-- A history in memory. -/
structure HistAt (w : World) (cv dv : Value) (cs : List CalledD) (ds : List DropD) : Prop where
  calls : CRow w cv cs
  drops : DRow w dv ds
  callsIs : ∀ x ∈ cs, CalledIs x
  dropsIs : ∀ x ∈ ds, DropIs x
theorem HistAt.below {w w' : World} {cv dv : Value} {cs : List CalledD} {ds : List DropD} (h : HistAt w cv dv cs ds) (hb : Below w.heap.size w w') : HistAt w' cv dv cs ds := ⟨h.calls.below hb, h.drops.below hb, h.callsIs, h.dropsIs⟩
/-- Entries that were gathered in a row of one's own lie one behind the other. -/
theorem flat_get {α : Type} {f : α → List Value} {sz : Nat} (hf : ∀ x, (f x).length = sz) : ∀ {L : List α} {j : Nat} {x : α} {i : Nat}, L[j]? = some x → i < sz → (L.flatMap f)[j * sz + i]? = (f x)[i]?
  | [], _, _, _, h, _ => by simp at h
  | y :: L, 0, x, i, h, hi => by
    obtain rfl : y = x := by simpa using h
    rw [List.flatMap_cons, Nat.zero_mul, Nat.zero_add, List.getElem?_append_left (by rw [hf]; exact hi)]
  | y :: L, j + 1, x, i, h, hi => by
    rw [List.flatMap_cons, List.getElem?_append_right (by rw [hf, Nat.succ_mul]; omega), hf, show (j + 1) * sz + i - sz = j * sz + i from by rw [Nat.succ_mul]; omega]
    exact flat_get hf (by simpa using h) hi
theorem flat_len {α : Type} {f : α → List Value} {sz : Nat} (hf : ∀ x, (f x).length = sz) : ∀ L : List α, (L.flatMap f).length = L.length * sz
  | [] => by simp
  | y :: L => by
    rw [List.flatMap_cons, List.length_append, hf, flat_len hf L, List.length_cons, Nat.succ_mul]
    omega
theorem own_ents {w : World} {B : Nat} {v : Value} {L : List EntD} (h : w.ownsRow B 108 3 v L.length (L.flatMap entCells)) :
    (v = .slice none 0 0 ∧ L = []) ∨ ∃ g c : Nat, v = .slice (some ⟨g, 0, none⟩) L.length c ∧ B ≤ g ∧ g < w.heap.size ∧ L.length ≤ c ∧ c ≤ maxLen ∧ EntAt w g 0 L := by
  obtain ⟨hl, h2⟩ := h
  rcases h2 with ⟨rfl, h3⟩ | ⟨g, cap, cur, rfl, hg, hh, hn, hm, hs, ht⟩
  · exact .inl ⟨rfl, List.eq_nil_of_length_eq_zero h3⟩
  · have hgl : g < w.heap.size := (Array.getElem?_eq_some_iff.1 hh).1
    refine .inr ⟨g, cap, rfl, hg, hgl, hn, hm, fun j x hx i u hu => ?_, fun j hj i hi => ?_⟩
    · have hj : j < L.length := (List.getElem?_eq_some_iff.1 hx).1
      have hi : i < 3 := (List.getElem?_eq_some_iff.1 hu).1
      have h5 : (L.flatMap entCells)[j * 3 + i]? = some u := by rw [flat_get (sz := 3) (fun _ => rfl) hx hi]; exact hu
      rw [Nat.zero_add, cell_of_row w g (j * 3 + i) cur _ (0, 0) hh]
      rw [← ht, List.getElem?_take] at h5
      split at h5
      · simpa using h5
      · cases h5
    · rw [Nat.zero_add]
      constructor
      · rw [cell_of_row w g (j * 3 + i) cur _ (0, 0) hh]
        have : j * 3 + i < cur.size := by omega
        rw [Array.getElem?_eq_getElem this]
        rfl
      · exact frozen_of_row w g (j * 3 + i) cur _ hh
theorem orow_of {w : World} {g n c : Nat} {L : List EntD} (hn : n = L.length) (h : EntAt w g 0 L) (hg : g < w.heap.size) (h1 : n ≤ c) (h2 : c ≤ maxLen) : ORow w (.slice (some ⟨g, 0, none⟩) n c) L := by
  subst hn
  exact ⟨_, c, rfl, h1, h2, (fun e => by cases e), fun j x hx => ⟨g, 0, rfl, hg, h.at' j x hx⟩⟩
end Go.Proofs.YtaooangnnlopcaaGreatDoor
namespace Go.Proofs.YtaooangnnlopcaaGreatDoor
open Go.RowKit Go.ChangeMaps Go.MapKept
set_option maxRecDepth 100000 in
theorem insSort_none (w : World) : Calls Tryz.prog 104 #[.slice none 0 0, .int .i64 0, .int .i64 0, cmpF] w fun e w' => (∃ v, e = .returned v) ∧ w = w' := by
  go_enter Tryz.func104, Tryz.ntmps104
  go_upto_region 1 with fail
  refine wp_loop_rounds 1 ?_
  rw [rounds_succ]
  go_wp2_with fail
  exact bodyPost_end (results_none (by exact Tryz.results104) _ _ _) rfl ⟨⟨_, rfl⟩, rfl⟩
set_option maxRecDepth 100000 in
theorem stable_none (w : World) : Calls Tryz.prog 95 #[.slice none 0 0, .int .i64 0, cmpF] w fun e w' => (∃ v, e = .returned v) ∧ w = w' := by
  go_enter Tryz.func95, Tryz.ntmps95
  go_upto_region 2 with fail
  refine wp_loop_rounds 1 ?_
  rw [rounds_succ]
  go_wp2_with fail
  refine (insSort_none _).mono ?_
  rintro e w1 ⟨⟨v, rfl⟩, rfl⟩
  go_upto_region 7 with fail
  refine wp_loop_rounds 1 ?_
  rw [rounds_succ]
  go_wp2_with fail
  exact bodyPost_end (results_none (by exact Tryz.results95) _ _ _) rfl ⟨⟨_, rfl⟩, rfl⟩
theorem sortStable_none (w : World) : Calls Tryz.prog 59 #[.slice none 0 0, cmpF] w fun e w' => (∃ v, e = .returned v) ∧ w = w' := by
  go_enter Tryz.func59, Tryz.ntmps59
  go_wp2_with fail
  refine (stable_none _).mono ?_
  rintro e w1 ⟨⟨v, rfl⟩, rfl⟩
  go_wp2_with fail
  exact bodyPost_end (results_none (by exact Tryz.results59) _ _ _) rfl ⟨⟨_, rfl⟩, rfl⟩
theorem sortStable_any {w : World} {g o n c nc : Nat} {L : List EntD} (h : EntAt w g o L) (hg : g < w.heap.size) (hn : n = L.length) (hmx : n ≤ 1000000) (hrk : L.Pairwise (fun x y => rkE nc x < rkE nc y)) : Calls Tryz.prog 59 #[.slice (some ⟨g, o, none⟩) n c, cmpF] w fun e w' => (∃ v, e = .returned v) ∧ StableOk w g o nc L w' := by
  have HC := Lib.hid (stable_any (n := n) (c := c) h hg hn hmx hrk)
  clear h hg hn hrk
  go_enter Tryz.func59, Tryz.ntmps59
  go_wp2_with fail
  refine HC.out.mono ?_
  rintro e w1 ⟨⟨v, rfl⟩, hs⟩
  have HS := Lib.hid hs
  clear hs
  go_wp2_with fail
  exact bodyPost_end (results_none (by exact Tryz.results59) _ _ _) rfl ⟨⟨_, rfl⟩, HS.out⟩
theorem clipO_nil (w : World) : Calls Tryz.prog 62 #[.slice none 0 0] w fun e w' => e = .returned (.slice none 0 0) ∧ w = w' := by
  go_enter Tryz.func62, Tryz.ntmps62
  go_wp2
  go_ret
  exact ⟨rfl, rfl⟩
theorem clipO_some (a : Addr) (n c : Nat) (w : World) (_h : n ≤ c) (_hc : c ≤ maxLen) : Calls Tryz.prog 62 #[.slice (some a) n c] w fun e w' => e = .returned (.slice (some a) n n) ∧ w = w' := by
  unfold maxLen at _hc
  go_enter Tryz.func62, Tryz.ntmps62
  go_wp2
  go_ret
  exact ⟨rfl, rfl⟩
/-- What the order answers. -/
def OrdOk (w : World) (L : List EntD) (e : Ending) (w' : World) : Prop := ∃ v, e = .returned v ∧ ORow w' v L ∧ (∀ g, v.ownBlock = some g → w.heap.size ≤ g) ∧ Below w.heap.size w w'
/-- Entries that are gathered. -/
structure OrdJ (w : World) (W : World) (ov : Value) (L : List EntD) : Prop where
  row : W.ownsRow w.heap.size 108 3 ov L.length (L.flatMap entCells)
  low : Below w.heap.size w W
theorem OrdJ.below {w W W' : World} {ov : Value} {L : List EntD} (h : OrdJ w W ov L) (hb : Below W.heap.size W W') : OrdJ w W' ov L := ⟨owns_grow h.row (Chg.of_below (M := fun _ => False) hb) (fun _ _ e => e), h.low.trans (hb.mono h.low.size)⟩
theorem OrdJ.push {w W w1 : World} {ov ov' : Value} {L : List EntD} {x : EntD} (h : OrdJ w W ov L) (hown : w1.ownsRow w.heap.size 108 3 ov' (L.length + 1) (L.flatMap entCells ++ entCells x)) (hg : W.grownBy w1 ov.ownBlock) : OrdJ w w1 ov' (L ++ [x]) := by
  have hc : Chg (fun k => ov.ownBlock = some k) W w1 := Chg.of_grown hg (fun _ _ e => e)
  refine ⟨by rw [List.length_append, List.flatMap_append]; simpa using hown, ?_⟩
  exact h.low.trans (hc.below (fun k hk => ⟨Nat.lt_of_lt_of_le hk h.low.size, fun e => by have := (h.row.lt k e).1; omega⟩))
theorem infoEnt2 : (Tryz.prog.info? 108).map (fun i => (i.zero, i.size, i.bytes)) = some (some (.agg #[.int .i64 0, .int .i64 0, .int .i64 0]), 3, 24) := by kernel_rfl
theorem called_point {W : World} {g b : Nat} {x : CalledD} (h : W.heap[g]? = some (.cells x.cells 42 (0, 0))) (hb : b = g) : W.cell? ⟨b, 19, none⟩ = some (.int .i64 x.point) := by
  subst hb
  rw [show (19 : Nat) = 0 + 19 from rfl]
  exact (cells_at h 19).1
theorem drop_step {W : World} {g b : Nat} {x : DropD} (h : W.heap[g]? = some (.cells x.list.toArray 94 (0, 0))) (hb : b = g) : W.cell? ⟨b, 0, none⟩ = some (.int .i64 x.step) := by
  subst hb
  rw [show (0 : Nat) = 0 + 0 from rfl]
  exact (cells_at h 0).1
set_option maxRecDepth 100000 in
set_option maxHeartbeats 8000000 in
theorem order_any {w : World} {cv dv : Value} {cs : List CalledD} {ds : List DropD} (h : HistAt w cv dv cs ds) (hn : cs.length + ds.length ≤ 1000000) : Calls Tryz.prog 44 #[.agg #[cv, dv]] w fun e w' => OrdOk w (orderL cs ds) e w' := by
  obtain ⟨ca, cc, rfl⟩ := h.calls.len
  obtain ⟨da, dc, rfl⟩ := h.drops.len
  obtain ⟨i0, hi, hz0, hz1, hz2⟩ := info_parts infoEnt2
  have Hi := Lib.hid hi
  have Hz := Lib.hid (And.intro hz0 (And.intro hz1 hz2))
  clear hi hz0 hz1 hz2
  have HH := Lib.hid h
  have HN := Lib.hid hn
  clear h
  go_enter Tryz.func44, Tryz.ntmps44
  go_upto_region 1 with fail
  obtain ⟨W0, hW0⟩ : ∃ X, X = w.alloc (.cells #[.slice ca cs.length cc, .slice da ds.length dc] 64) := ⟨_, rfl⟩
  have hb0 : Below w.heap.size w W0 := by rw [hW0]; exact (Below.refl _ _).alloc (Nat.le_refl _) _
  have hx0 : W0.heap[w.heap.size]? = some (.cells #[.slice ca cs.length cc, .slice da ds.length dc] 64 (0, 0)) := by rw [hW0, heap_at, if_pos rfl]
  have hsz0 : w.heap.size < W0.heap.size := by rw [hW0]; simp
  rw [← hW0]
  clear hW0
  obtain ⟨ph, hph⟩ : ∃ z, z = w.heap.size := ⟨_, rfl⟩
  rw [← hph] at hx0 hsz0 ⊢
  have k0 : W0.cell? ⟨ph, 0, none⟩ = some (.slice ca cs.length cc) := (cells_at hx0 0).1
  have k1 : W0.cell? ⟨ph, 1, none⟩ = some (.slice da ds.length dc) := (cells_at hx0 1).1
  have HH0 := Lib.hid (HH.out.below hb0)
  have HB0 := Lib.hid (And.intro hb0 hph)
  have HK := Lib.hid k1
  clear hb0 hx0 hph k1
  go_upto_region 3 with fail
  go_loopw [3, 11] (fun s3 s11 wr => ∃ (i : Nat) (ov : Value), s11 = .int .i64 (i : Int) ∧ s3 = ov ∧ i ≤ cs.length ∧ Hid (OrdJ W0 wr ov (entsC (cs.take i)))) (fun _ s11 _ => cs.length - (intOf s11).toNat)
  case atStart => exact ⟨0, _, rfl, rfl, Nat.zero_le _, Lib.hid ⟨World.ownsRow_nil _ _ _ _, Below.refl _ _⟩⟩
  case round =>
    obtain ⟨i, ov, rfl, rfl, hil, HJ⟩ := hrel
    by_cases hlt : i < cs.length
    · obtain ⟨x, hx⟩ : ∃ x, cs[i]? = some x := ⟨_, List.getElem?_eq_getElem hlt⟩
      obtain ⟨g, o, c', hv, hg, hr⟩ := HH0.out.calls.get hx
      obtain ⟨rfl, -, rfl⟩ := slice_inj hv
      have HR := Lib.hid (And.intro hx (hr wr HJ.out.low))
      have hgr : g < wr.heap.size := Nat.lt_of_lt_of_le hg HJ.out.low.size
      have ix : ∀ W : World, (Instr.indexAt 61 (.slice (some ⟨g, o, none⟩) cs.length cc) (.int .i64 (i : Int))).run Tryz.prog W = .ok (.pointer (some ⟨g, o + i * 20, none⟩)) W := fun W => idx_called rfl hlt W
      obtain ⟨b, hb⟩ : ∃ b, b = o + i * 20 := ⟨_, rfl⟩
      rw [← hb] at ix
      have hrb : wr.rangeAt g b (x.list) := by rw [hb]; exact HR.out.2
      have HRB := Lib.hid hrb
      have hlenE : (entsC (cs.take i)).length = i := by rw [entsC_len, List.length_take]; omega
      have hi6 : i ≤ 1000000 := by have := HN.out; omega
      have HLE := Lib.hid hlenE
      clear hb hx hv hr hrb hlenE
      go_wp2_with (first
        | ((with_reducible show wpList _ _ _ (⟨_, Op.load 42 _, _, _, _, _⟩ :: _) _ _); refine wpList_load_mid (by rfl) 42 (.tmp 14) (by rfl) g b (by rfl) x.list _ HRB.out Tryz.underlying42 rfl (by kernel_rfl) ?_)
        | ((with_reducible show wpList _ _ _ (⟨none, Op.store _ _ _, _, _, _, _⟩ :: _) _ _); refine wpList_store_whole (by rfl) 42 (.tmp 5) (.tmp 15) (by rfl) wr.heap.size (by rfl) x.cells (by rfl) calledZero 42 (by rw [heap_at, if_pos rfl]) (by rfl) (by kernel_rfl) (by simp [Value.oneCell']) ?_; intro w1 hw1 hgw1 hsw1; have hb1 : Below wr.heap.size wr w1 := ((Below.refl wr.heap.size wr).alloc (Nat.le_refl _) (.cells calledZero 42)).grown hgw1 (by simp) (fun k hk => by cases hk; exact Nat.le_refl _); have HJ1 := Lib.hid (HJ.out.below hb1); have kp := called_point hw1 rfl; clear hw1 hgw1 hb1 hsw1)
        | (at_builtin; refine wpList_append_own_at _ (by rfl) _ _ 106 (by rfl) W0.heap.size 108 i0 (.agg #[.int .i64 0, .int .i64 0, .int .i64 0]) 3 24 Tryz.underlying106 Hi.out Hz.out.1 Hz.out.2.1 Hz.out.2.2 rfl (by omega) _ _ _ (by rfl) (HJ1.out.row.alloc _) ⟨w1.heap.size, 0, none⟩ 1 1 (entCells ⟨x.point, (i : Int), -1⟩) (by rfl) rfl (World.news_of_block (cs := (entCells ⟨x.point, (i : Int), -1⟩).toArray) (by rw [heap_at, if_pos (by simp)])) (by simp [Value.oneCell']) (by rw [HLE.out]; unfold maxLen; omega) (by rw [HLE.out]; omega) (by have := HJ1.out.low.size; simp; omega) ?_; intro ov' w2 hown2 hg2 _ _)
        | fail)
      have hx2 := OrdJ.push (x := ⟨x.point, (i : Int), -1⟩) (HJ1.out.below ((Below.refl _ _).alloc (Nat.le_refl _) _)) hown2 hg2
      have hxe : entsC (cs.take (i + 1)) = entsC (cs.take i) ++ [⟨x.point, (i : Int), -1⟩] := by
        rw [take_snoc HR.out.1, entsC_snoc, List.length_take, Nat.min_eq_left (by omega)]
      rw [← hxe] at hx2
      have HX2 := Lib.hid hx2
      clear hx2 hxe hown2 hg2
      go_roundw
      case rel => exact ⟨i + 1, ov', by go_num, rfl, by omega, HX2⟩
      case measure => simp [intOf]; omega
    · obtain rfl : i = cs.length := by omega
      rw [List.take_length] at HJ
      have k1 : wr.cell? ⟨ph, 1, none⟩ = some (.slice da ds.length dc) := (HJ.out.low.cell (p := ⟨ph, 1, none⟩) hsz0).trans HK.out
      obtain ⟨wo, rfl⟩ : ∃ wo : World, wo = wr := ⟨_, rfl⟩
      clear hlt hil
      go_upto_region 8 with fail
      go_loopw [3, 27] (fun s3 s27 wr => ∃ (i : Nat) (ov : Value), s27 = .int .i64 (i : Int) ∧ s3 = ov ∧ i ≤ ds.length ∧ Hid (OrdJ W0 wr ov (entsC cs ++ entsD (ds.take i)))) (fun _ s27 _ => ds.length - (intOf s27).toNat)
      case atStart => exact ⟨0, _, rfl, rfl, Nat.zero_le _, Lib.hid (by simpa [entsD] using HJ.out)⟩
      case round =>
        clear HJ k1
        obtain ⟨i, ov, rfl, rfl, hil, HJ⟩ := hrel
        by_cases hlt : i < ds.length
        · obtain ⟨x, hx⟩ : ∃ x, ds[i]? = some x := ⟨_, List.getElem?_eq_getElem hlt⟩
          obtain ⟨g, o, c', hv, hg, hr⟩ := HH0.out.drops.get hx
          obtain ⟨rfl, -, rfl⟩ := slice_inj hv
          have HR := Lib.hid (And.intro hx (hr wr HJ.out.low))
          have hgr : g < wr.heap.size := Nat.lt_of_lt_of_le hg HJ.out.low.size
          have ix : ∀ W : World, (Instr.indexAt 62 (.slice (some ⟨g, o, none⟩) ds.length dc) (.int .i64 (i : Int))).run Tryz.prog W = .ok (.pointer (some ⟨g, o + i * 7, none⟩)) W := fun W => idx_drop rfl hlt W
          obtain ⟨b, hb⟩ : ∃ b, b = o + i * 7 := ⟨_, rfl⟩
          rw [← hb] at ix
          have hrb : wr.rangeAt g b (x.list) := by rw [hb]; exact HR.out.2
          have HRB := Lib.hid hrb
          have hlenE : (entsC cs ++ entsD (ds.take i)).length = cs.length + i := by rw [List.length_append, entsC_len, entsD_len, List.length_take]; omega
          have hi6 : cs.length + i ≤ 1000000 := by have := HN.out; omega
          have HLE := Lib.hid hlenE
          clear hb hx hv hr hrb hlenE
          go_wp2_with (first
            | ((with_reducible show wpList _ _ _ (⟨_, Op.load 94 _, _, _, _, _⟩ :: _) _ _); refine wpList_load_mid (by rfl) 94 (.tmp 30) (by rfl) g b (by rfl) x.list _ HRB.out Tryz.underlying94 rfl (by kernel_rfl) ?_)
            | ((with_reducible show wpList _ _ _ (⟨none, Op.store _ _ _, _, _, _, _⟩ :: _) _ _); refine wpList_store_whole (by rfl) 94 (.tmp 7) (.tmp 31) (by rfl) wr.heap.size (by rfl) x.list.toArray (by rfl) dropZero 94 (by rw [heap_at, if_pos rfl]) (by rfl) (by kernel_rfl) (by simp [Value.oneCell']) ?_; intro w1 hw1 hgw1 hsw1; have hb1 : Below wr.heap.size wr w1 := ((Below.refl wr.heap.size wr).alloc (Nat.le_refl _) (.cells dropZero 94)).grown hgw1 (by simp) (fun k hk => by cases hk; exact Nat.le_refl _); have HJ1 := Lib.hid (HJ.out.below hb1); have kp := drop_step hw1 rfl; clear hw1 hgw1 hb1 hsw1)
            | (at_builtin; refine wpList_append_own_at _ (by rfl) _ _ 106 (by rfl) W0.heap.size 108 i0 (.agg #[.int .i64 0, .int .i64 0, .int .i64 0]) 3 24 Tryz.underlying106 Hi.out Hz.out.1 Hz.out.2.1 Hz.out.2.2 rfl (by omega) _ _ _ (by rfl) (HJ1.out.row.alloc _) ⟨w1.heap.size, 0, none⟩ 1 1 (entCells ⟨x.step, -1, (i : Int)⟩) (by rfl) rfl (World.news_of_block (cs := (entCells ⟨x.step, -1, (i : Int)⟩).toArray) (by rw [heap_at, if_pos (by simp)])) (by simp [Value.oneCell']) (by rw [HLE.out]; unfold maxLen; omega) (by rw [HLE.out]; omega) (by have := HJ1.out.low.size; simp; omega) ?_; intro ov' w2 hown2 hg2 _ _)
            | fail)
          have hx2 := OrdJ.push (x := ⟨x.step, -1, (i : Int)⟩) (HJ1.out.below ((Below.refl _ _).alloc (Nat.le_refl _) _)) hown2 hg2
          have hxe : entsC cs ++ entsD (ds.take (i + 1)) = entsC cs ++ entsD (ds.take i) ++ [⟨x.step, -1, (i : Int)⟩] := by
            rw [take_snoc HR.out.1, entsD_snoc, List.length_take, Nat.min_eq_left (by omega), List.append_assoc]
          rw [← hxe] at hx2
          have HX2 := Lib.hid hx2
          clear hx2 hxe hown2 hg2
          go_roundw
          case rel => exact ⟨i + 1, ov', by go_num, rfl, by omega, HX2⟩
          case measure => simp [intOf]; omega
        · obtain rfl : i = ds.length := by omega
          rw [List.take_length] at HJ
          have hlE := entsL_len cs ds
          have hrk := entsL_ranks cs ds
          rcases own_ents HJ.out.row with ⟨rfl, hnil⟩ | ⟨g, c, hv, hB, hgl, hc1, hc2, hE⟩
          · have hO : orderL cs ds = [] := List.eq_nil_of_length_eq_zero (by have h2 := congrArg List.length hnil; rw [List.length_append, entsC_len, entsD_len] at h2; rw [orderL_len]; simpa using h2)
            have HF := Lib.hid (And.intro hO HJ.out.low)
            clear hnil hO hlE hrk hlt hil
            go_wp2_with fail
            refine (sortStable_none _).mono ?_
            rintro e w1 ⟨⟨v, rfl⟩, rfl⟩
            go_wp2_with fail
            refine (clipO_nil _).mono ?_
            rintro e w1 ⟨rfl, rfl⟩
            go_wp2_with fail
            go_ret
            exact ⟨_, rfl, by rw [HF.out.1]; exact RRow.nil, (fun g hg => by simp [Value.ownBlock] at hg), HB0.out.1.trans (HF.out.2.mono HB0.out.1.size)⟩
          · subst hv
            have hnn : (entsC cs ++ entsD ds).length ≤ 1000000 := by have h2 := HN.out; have h3 := hlE; unfold entsL at h3; omega
            have HS := Lib.hid (sortStable_any (n := (entsC cs ++ entsD ds).length) (c := c) (nc := cs.length) hE hgl rfl hnn hrk)
            have HF := Lib.hid (And.intro hgl (And.intro hc1 (And.intro hc2 (And.intro hB HJ.out.low))))
            clear hE hgl hrk hlE hc1 hc2 hB HJ hlt hil hnn
            generalize hN : (entsC cs ++ entsD ds).length = N at *
            have HNN := Lib.hid hN
            clear hN
            go_wp2_with fail
            refine HS.out.mono ?_
            rintro e w1 ⟨⟨v, rfl⟩, S, hS1, hS2, hS3, hS4⟩
            have he := orderL_one hS1 hS2
            subst he
            have HT := Lib.hid (And.intro hS3 hS4)
            clear hS1 hS2 hS3 hS4 HS
            go_wp2_with fail
            refine (clipO_some ⟨g, 0, none⟩ N c _ HF.out.2.1 HF.out.2.2.1).mono ?_
            rintro e w2 ⟨rfl, rfl⟩
            go_wp2_with fail
            go_ret
            exact ⟨_, rfl, orow_of (by rw [← HNN.out, orderL_len, List.length_append, entsC_len, entsD_len]) HT.out.1 (Nat.lt_of_lt_of_le HF.out.1 HT.out.2.size) (Nat.le_refl _) (Nat.le_trans HF.out.2.1 HF.out.2.2.1), (fun k hk => (show g = k from by simpa [Value.ownBlock] using hk) ▸ Nat.le_trans HB0.out.1.size HF.out.2.2.2.1), HB0.out.1.trans ((HF.out.2.2.2.2.trans (HT.out.2.below (fun k hk => ⟨Nat.lt_of_lt_of_le hk HF.out.2.2.2.2.size, fun e => by have := HF.out.2.2.2.1; omega⟩))).mono HB0.out.1.size)⟩
end Go.Proofs.YtaooangnnlopcaaGreatDoor
