/- Histories in memory: rows of calls, of drops, of entries. No condition. -/
import Derived.Test.YtaooangnnlopcaaDoorLinSpec
import Derived.Test.YtaooangnnlopcaaDoorSortStable
import Derived.Test.YtaooangnnlopcaaDoorLowA
namespace Go.Proofs.YtaooangnnlopcaaDoor
open Go.RowKit Go.ChangeMaps Go.MapKept
def I64 (z : Int) : Prop := -9223372036854775808 ≤ z ∧ z ≤ 9223372036854775807
/-- A row of elements of sz cells each, that is read. -/
def RRow {α : Type} (f : α → List Value) (sz : Nat) (w : World) (v : Value) (L : List α) : Prop :=
  ∃ (a : Option Addr) (c : Nat), v = .slice a L.length c ∧ L.length ≤ c ∧ c ≤ maxLen ∧ (a = none → c = 0) ∧
    ∀ (j : Nat) (x : α), L[j]? = some x → ∃ g o, a = some ⟨g, o, none⟩ ∧ g < w.heap.size ∧ w.rangeAt g (o + j * sz) (f x)
theorem RRow.nil {α : Type} {f : α → List Value} {sz : Nat} {w : World} : RRow f sz w (.slice none 0 0) [] := ⟨none, 0, rfl, Nat.le_refl _, by simp [maxLen], fun _ => rfl, fun j x h => by simp at h⟩
theorem RRow.len {α : Type} {f : α → List Value} {sz : Nat} {w : World} {v : Value} {L : List α} (h : RRow f sz w v L) : ∃ a c, v = .slice a L.length c := by
  obtain ⟨a, c, rfl, _⟩ := h
  exact ⟨a, c, rfl⟩
theorem RRow.max {α : Type} {f : α → List Value} {sz : Nat} {w : World} {v : Value} {L : List α} (h : RRow f sz w v L) : L.length ≤ maxLen := by
  obtain ⟨a, c, rfl, h1, h2, _⟩ := h
  omega
theorem range_kept {M : Nat → Prop} {w w' : World} {g o : Nat} {xs : List Value} (hc : Chg M w w') (hg : g < w.heap.size) (hM : ¬ M g) (h : w.rangeAt g o xs) : w'.rangeAt g o xs := fun i u hu => by
  rw [World.cell?_of_block (hc.block g hg hM)]
  exact h i u hu
theorem RRow.kept {α : Type} {f : α → List Value} {sz : Nat} {M : Nat → Prop} {w w' : World} {v : Value} {L : List α} (h : RRow f sz w v L) (hc : Chg M w w') (hM : ∀ g, v.ownBlock = some g → ¬ M g) : RRow f sz w' v L := by
  obtain ⟨a, c, rfl, h1, h2, h3, h4⟩ := h
  refine ⟨a, c, rfl, h1, h2, h3, fun j x hj => ?_⟩
  obtain ⟨g, o, rfl, hg, hr⟩ := h4 j x hj
  exact ⟨g, o, rfl, Nat.lt_of_lt_of_le hg hc.size, range_kept hc hg (hM g rfl) hr⟩
theorem RRow.below {α : Type} {f : α → List Value} {sz : Nat} {w w' : World} {v : Value} {L : List α} (h : RRow f sz w v L) (hb : Below w.heap.size w w') : RRow f sz w' v L :=
  h.kept (M := fun _ => False) (Chg.of_below hb) (fun _ _ e => e)
/-- One element's place, whose cells lie there in whatever world grows from here. -/
theorem RRow.get {α : Type} {f : α → List Value} {sz : Nat} {w : World} {v : Value} {L : List α} (h : RRow f sz w v L) {j : Nat} {x : α} (hj : L[j]? = some x) :
    ∃ g o c : Nat, v = .slice (some ⟨g, o, none⟩) L.length c ∧ g < w.heap.size ∧ ∀ W, Below w.heap.size w W → W.rangeAt g (o + j * sz) (f x) := by
  obtain ⟨a, c, rfl, h1, h2, h3, h4⟩ := h
  obtain ⟨g, o, rfl, hg, hr⟩ := h4 j x hj
  exact ⟨g, o, c, rfl, hg, fun W hb => range_kept (M := fun _ => False) (Chg.of_below hb) hg id hr⟩
abbrev calledZero : Array Value := #[.int .i64 0, .int .u8 0, .string ⟨#[]⟩, .string ⟨#[]⟩, .int .u32 0, .int .i64 0, .int .u64 0, .int .u64 0, .int .i64 0, .int .i64 0, .int .u8 0, .int .u64 0, .string ⟨#[]⟩, .string ⟨#[]⟩, .int .u32 0, .int .u64 0, .int .i64 0, .int .i64 0, .int .u64 0, .int .i64 0]
abbrev dropZero : Array Value := #[.int .i64 0, .string ⟨#[]⟩, .string ⟨#[]⟩, .int .u32 0, .int .u64 0, .int .i64 0, .int .i64 0]
theorem infoCalled : (Tryd.prog.info? 60).map (fun i => (i.zero, i.size)) = some (some (.agg calledZero), 20) := by kernel_rfl
theorem infoDropD : (Tryd.prog.info? 78).map (fun i => (i.zero, i.size)) = some (some (.agg dropZero), 7) := by kernel_rfl
theorem info_parts2 {i? : Option TypeInfo} {z : Option Value} {s : Nat} (h : i?.map (fun i => (i.zero, i.size)) = some (z, s)) : ∃ i, i? = some i ∧ i.zero = z ∧ i.size = s := by
  cases i? with
  | none => cases h
  | some i => simp at h; exact ⟨i, rfl, h.1, h.2⟩
theorem idx_called {a : Option Addr} {g o n c k : Nat} (ha : a = some ⟨g, o, none⟩) (hk : k < n) (W : World) : (Instr.indexAt 64 (.slice a n c) (.int .i64 (k : Int))).run Tryd.prog W = .ok (.pointer (some ⟨g, o + k * 20, none⟩)) W := by
  subst ha
  have h0 : (0 : Int) ≤ (k : Int) := by omega
  have h1 : (k : Int) < (n : Int) := by omega
  have h2 := Tryd.underlying64
  obtain ⟨i0, hi, hz0, hz1⟩ := info_parts2 infoCalled
  go_simp
theorem idx_drop {a : Option Addr} {g o n c k : Nat} (ha : a = some ⟨g, o, none⟩) (hk : k < n) (W : World) : (Instr.indexAt 65 (.slice a n c) (.int .i64 (k : Int))).run Tryd.prog W = .ok (.pointer (some ⟨g, o + k * 7, none⟩)) W := by
  subst ha
  have h0 : (0 : Int) ≤ (k : Int) := by omega
  have h1 : (k : Int) < (n : Int) := by omega
  have h2 := Tryd.underlying65
  obtain ⟨i0, hi, hz0, hz1⟩ := info_parts2 infoDropD
  go_simp
abbrev CalledD.list (x : CalledD) : List Value := x.cells.toList
abbrev DropD.list (x : DropD) : List Value := [.int .i64 x.step, .string x.item.key, .string x.item.value, .int .u32 x.item.flags, .int .u64 x.item.id, .int .i64 x.item.dies, .int .i64 x.item.gen]
abbrev CRow (w : World) (v : Value) (L : List CalledD) : Prop := RRow CalledD.list 20 w v L
abbrev DRow (w : World) (v : Value) (L : List DropD) : Prop := RRow DropD.list 7 w v L
abbrev ORow (w : World) (v : Value) (L : List EntD) : Prop := RRow entCells 3 w v L
/-- A call whose numbers are of their kinds. -/
structure CalledIs (x : CalledD) : Prop where
  thread : I64 x.thread
  from' : I64 x.from'
  till : I64 x.till
  point : I64 x.point
  epoch : x.epoch < 18446744073709551616
  key : x.call.key.size ≤ maxLen
  verb : 0 ≤ x.call.verb ∧ x.call.verb ≤ 255
  exp : -9223372036854775808 ≤ x.call.exp ∧ x.call.exp ≤ 9223372036854775807
  by' : 0 ≤ x.call.by' ∧ x.call.by' ≤ 18446744073709551615
  value : x.call.value.size ≤ maxLen
  ikey : x.ans.item.key.size ≤ maxLen
  ivalue : x.ans.item.value.size ≤ maxLen
structure DropIs (x : DropD) : Prop where
  step : I64 x.step
  key : x.item.key.size ≤ maxLen
  value : x.item.value.size ≤ maxLen
/-- A history in memory. -/
structure HistAt (w : World) (cv dv : Value) (cs : List CalledD) (ds : List DropD) : Prop where
  calls : CRow w cv cs
  drops : DRow w dv ds
  callsIs : ∀ x ∈ cs, CalledIs x
  dropsIs : ∀ x ∈ ds, DropIs x
theorem HistAt.below {w w' : World} {cv dv : Value} {cs : List CalledD} {ds : List DropD} (h : HistAt w cv dv cs ds) (hb : Below w.heap.size w w') : HistAt w' cv dv cs ds := ⟨h.calls.below hb, h.drops.below hb, h.callsIs, h.dropsIs⟩
/-- Entries that were gathered in a row of one's own lie one behind the other. -/
theorem flat_get {α : Type} {f : α → List Value} {sz : Nat} (hf : ∀ x, (f x).length = sz) : ∀ {L : List α} {j : Nat} {x : α} {i : Nat}, L[j]? = some x → i < sz → (L.flatMap f)[j * sz + i]? = (f x)[i]?
  | [], _, _, _, h, _ => by simp at h
  | y :: L, 0, x, i, h, hi => by
    obtain rfl : y = x := by simpa using h
    rw [List.flatMap_cons, Nat.zero_mul, Nat.zero_add, List.getElem?_append_left (by rw [hf]; exact hi)]
  | y :: L, j + 1, x, i, h, hi => by
    rw [List.flatMap_cons, List.getElem?_append_right (by rw [hf, Nat.succ_mul]; omega), hf, show (j + 1) * sz + i - sz = j * sz + i from by rw [Nat.succ_mul]; omega]
    exact flat_get hf (by simpa using h) hi
theorem flat_len {α : Type} {f : α → List Value} {sz : Nat} (hf : ∀ x, (f x).length = sz) : ∀ L : List α, (L.flatMap f).length = L.length * sz
  | [] => by simp
  | y :: L => by
    rw [List.flatMap_cons, List.length_append, hf, flat_len hf L, List.length_cons, Nat.succ_mul]
    omega
theorem own_ents {w : World} {B : Nat} {v : Value} {L : List EntD} (h : w.ownsRow B 76 3 v L.length (L.flatMap entCells)) :
    (v = .slice none 0 0 ∧ L = []) ∨ ∃ g c : Nat, v = .slice (some ⟨g, 0, none⟩) L.length c ∧ B ≤ g ∧ g < w.heap.size ∧ L.length ≤ c ∧ c ≤ maxLen ∧ EntAt w g 0 L := by
  obtain ⟨hl, h2⟩ := h
  rcases h2 with ⟨rfl, h3⟩ | ⟨g, cap, cur, rfl, hg, hh, hn, hm, hs, ht⟩
  · exact .inl ⟨rfl, List.eq_nil_of_length_eq_zero h3⟩
  · have hgl : g < w.heap.size := (Array.getElem?_eq_some_iff.1 hh).1
    refine .inr ⟨g, cap, rfl, hg, hgl, hn, hm, fun j x hx i u hu => ?_, fun j hj i hi => ?_⟩
    · have hj : j < L.length := (List.getElem?_eq_some_iff.1 hx).1
      have hi : i < 3 := (List.getElem?_eq_some_iff.1 hu).1
      have h5 : (L.flatMap entCells)[j * 3 + i]? = some u := by rw [flat_get (sz := 3) (fun _ => rfl) hx hi]; exact hu
      rw [Nat.zero_add, cell_of_row w g (j * 3 + i) cur _ (0, 0) hh]
      rw [← ht, List.getElem?_take] at h5
      split at h5
      · simpa using h5
      · cases h5
    · rw [Nat.zero_add]
      constructor
      · rw [cell_of_row w g (j * 3 + i) cur _ (0, 0) hh]
        have : j * 3 + i < cur.size := by omega
        rw [Array.getElem?_eq_getElem this]
        rfl
      · exact frozen_of_row w g (j * 3 + i) cur _ hh
theorem orow_of {w : World} {g n c : Nat} {L : List EntD} (hn : n = L.length) (h : EntAt w g 0 L) (hg : g < w.heap.size) (h1 : n ≤ c) (h2 : c ≤ maxLen) : ORow w (.slice (some ⟨g, 0, none⟩) n c) L := by
  subst hn
  exact ⟨_, c, rfl, h1, h2, (fun e => by cases e), fun j x hx => ⟨g, 0, rfl, hg, h.at' j x hx⟩⟩
end Go.Proofs.YtaooangnnlopcaaDoor
