/- Small lemmas on bytes, lists and worlds that the walks of this seat share. No condition. And what goes with it (12 texts). -/
import Derived.Test.YtnkkoicbnbjlnaaGreatDoorProg
import Derived.WalkKit
import Derived.WalkSpells
import Derived.WalkLawsBesides
import Derived.Handy
import Derived.Lib.Hide
import Derived.Lib.Strings
import Derived.Laws.IdiomStrings
import Derived.Laws.Strings3
import Derived.Deep.QuietTactic
import Derived.BigQuiet
import Derived.Deep.RegionHeld3
import Derived.Deep.DeepCutAuto
import Derived.OrdersHeld
import Derived.Below
import Derived.Deep.MidRow
import Derived.Test.YtnkkoicbnbjlnaaGreatDoorShelf
import Derived.Maps.OwnSet
import Derived.Carry
import Derived.Laws.Rows
import Derived.Laws.ResultCell
import Derived.RangeFuncWrites
import Derived.RangeFuncNested
import Derived.RangeFuncBound
import Derived.RangeFuncCalls
import Derived.RangeFuncLeaves
import Derived.Deep.RegionHeld
import Derived.Maps.AppendAt
import Derived.Deep.AppendSrc
import Derived.Deep.RegionLaw
import Derived.RegionTactic
import Derived.BigRegion
import Derived.Outline
import Derived.Deep.Light
import Derived.Lib.MinMax
namespace Go.Proofs.YtnkkoicbnbjlnaaGreatDoor
set_option maxRecDepth 100000
set_option maxHeartbeats 8000000
open Go.RowKit

theorem ret_congr {a b : Value} (h : a = b) : Ending.returned a = .returned b := by rw [h]
theorem int_congr {k : IntKind} {a b : Int} (h : a = b) : Value.int k a = .int k b := by rw [h]

/-- A string's bytes. -/
abbrev bs (s : ByteArray) : List UInt8 := s.data.toList
theorem bs_length (s : ByteArray) : (bs s).length = s.size := Array.length_toList
theorem bs_empty {s : ByteArray} (h : s.toList.isEmpty = true) : bs s = [] := by
  rw [ByteArray.toList_eq] at h; simpa using h
theorem bs_some {s : ByteArray} (h : s.toList.isEmpty = false) : bs s ≠ [] := by
  rw [ByteArray.toList_eq] at h; simpa using h
theorem bs_get? {s : ByteArray} {k : Nat} (h : k < s.size) : (bs s)[k]? = some s[k] := by
  rw [List.getElem?_eq_getElem (by rw [bs_length]; exact h)]; rfl

/-- None of the first k elements answers p. -/
def Good {α : Type} (p : α → Bool) (l : List α) (k : Nat) : Prop := ∀ j, j < k → ∀ x, l[j]? = some x → p x = false
theorem good_zero {α : Type} (p : α → Bool) (l : List α) : Good p l 0 := fun _ h => by omega
theorem Good.mono {α : Type} {p : α → Bool} {l : List α} {k k' : Nat} (h : Good p l k) (hk : k' ≤ k) : Good p l k' := fun j hj => h j (by omega)
theorem good_step {α : Type} {p : α → Bool} {l : List α} {k : Nat} {c : α} (hc : l[k]? = some c) (hb : p c = false) (hf : Good p l k) : Good p l (k + 1) := by
  intro j hj x hx
  by_cases e : j = k
  · subst e; rw [hc] at hx; cases hx; exact hb
  · exact hf j (by omega) x hx
theorem good_hit {α : Type} {p : α → Bool} {l : List α} {k : Nat} {c : α} (hc : l[k]? = some c) (hb : p c = true) (hf : Good p l k) : l.findIdx? p = some k := by
  obtain ⟨hk, hc'⟩ := List.getElem?_eq_some_iff.1 hc
  rw [List.findIdx?_eq_some_iff_getElem]
  refine ⟨hk, by rw [hc']; exact hb, fun j hj => ?_⟩
  rw [hf j hj _ (List.getElem?_eq_getElem (by omega))]; simp
theorem good_all {α : Type} {p : α → Bool} {l : List α} (hf : Good p l l.length) : l.findIdx? p = none := by
  rw [List.findIdx?_eq_none_iff]
  intro x hx
  obtain ⟨j, hj, rfl⟩ := List.getElem_of_mem hx
  exact hf j hj _ (List.getElem?_eq_getElem hj)

/-- A byte's value. -/
abbrev u8v (c : UInt8) : Value := .int .u8 (c.toNat : Int)
/-- A string value of these bytes. -/
abbrev sv (l : List UInt8) : Value := .string ⟨l.toArray⟩
theorem sv_of {s : ByteArray} {l : List UInt8} (h : bs s = l) : Value.string s = sv l := by
  subst h; rfl
theorem bs_extract (s : ByteArray) (a b : Nat) : bs (s.extract a b) = ((bs s).take b).drop a := by
  rw [show bs (s.extract a b) = (s.extract a b).data.toList from rfl, Lib.extract_data, List.drop_take]

theorem sv_size (l : List UInt8) : (⟨l.toArray⟩ : ByteArray).size = l.length := by simp [ByteArray.size]
theorem bs_append (a b : ByteArray) : bs (a ++ b) = bs a ++ bs b := by simp [bs]
/-- '+' of two strings, in lists. -/
theorem cat_sv (a b : List UInt8) (h : a.length + b.length ≤ 9223372036854775807) (W : World) : (binOp .add 9 (sv a) (sv b)).run Tryz.prog W = .ok (sv (a ++ b)) W := by
  show (Op.stringOp .add ⟨a.toArray⟩ ⟨b.toArray⟩).run Tryz.prog W = _
  rw [run_string_add_sum (h := by rw [sv_size, sv_size]; exact h)]
  congr 1
/-- 'string(b)' of the byte or bytes that a new block holds. -/
theorem convert_new (l : List UInt8) (c : Nat) (g : Nat) (W : World) (h : ∀ j x, l[j]? = some x → W.cell? ⟨g, j, none⟩ = some (.int .u8 (x.toNat : Int))) :
    (convert 47 9 (.slice (some ⟨g, 0, none⟩) l.length c)).run Tryz.prog W = .ok (sv l) W :=
  run_convert_bytes_back (P := Tryz.prog) W 47 9 5 ⟨g, 0, none⟩ c l Tryz.underlying47 Tryz.underlying5 Tryz.underlying9 (fun j hj => by
    rw [show (⟨g, 0, none⟩ : Addr).add j = ⟨g, j, none⟩ from by simp [Addr.add]; omega]; exact h j _ (List.getElem?_eq_getElem hj))

/-- What a slice holds: cells one behind the other, none of them frozen, in a block from B on; of an empty one only that nil has no capacity. -/
def Own (w : World) (B : Nat) (v : Value) (xs : List Value) : Prop :=
  ∃ (a : Option Addr) (c : Nat), v = .slice a xs.length c ∧ xs.length ≤ c ∧ c ≤ maxLen ∧ (a = none → c = 0) ∧
    (xs = [] ∨ ∃ g o : Nat, a = some ⟨g, o, none⟩ ∧ B ≤ g ∧ ∀ j x, xs[j]? = some x → w.cell? ⟨g, o + j, none⟩ = some x ∧ w.frozen? ⟨g, o + j, none⟩ = false)

theorem cell_lt {w : World} {g o : Nat} {x : Value} (h : w.cell? ⟨g, o, none⟩ = some x) : g < w.heap.size := World.block_lt_of_cell? w _ h
theorem Own.nil (w : World) (B : Nat) : Own w B (.slice none 0 0) [] := ⟨none, 0, rfl, Nat.le_refl _, by simp [maxLen], fun _ => rfl, .inl rfl⟩
theorem Own.below {w w' : World} {B B' : Nat} {v : Value} {xs : List Value} (h : Own w B v xs) (hb : Below B' w w') (hB : w.heap.size ≤ B') : Own w' B v xs := by
  obtain ⟨a, c, rfl, h1, h2, h3, h4⟩ := h
  refine ⟨a, c, rfl, h1, h2, h3, h4.imp id ?_⟩
  rintro ⟨g, o, rfl, hg, h5⟩
  refine ⟨g, o, rfl, hg, fun j x hx => ?_⟩
  have h6 := cell_lt (h5 j x hx).1
  rw [hb.cell (p := ⟨g, o + j, none⟩) (by show g < B'; omega), hb.frozen (p := ⟨g, o + j, none⟩) (by show g < B'; omega)]
  exact h5 j x hx
theorem Own.mono {w : World} {B B' : Nat} {v : Value} {xs : List Value} (h : Own w B v xs) (hB : B' ≤ B) : Own w B' v xs := by
  obtain ⟨a, c, rfl, h1, h2, h3, h4⟩ := h
  refine ⟨a, c, rfl, h1, h2, h3, h4.imp id ?_⟩
  rintro ⟨g, o, rfl, hg, h5⟩
  exact ⟨g, o, rfl, by omega, h5⟩
theorem Own.of_row {w : World} {B : Nat} {e : TypeId} {v : Value} {xs : List Value} (h : w.ownsRow B e 1 v xs.length xs) : Own w B v xs := by
  obtain ⟨hl, h2⟩ := h
  rcases h2 with ⟨rfl, h3⟩ | ⟨g, cap, cur, rfl, hg, hh, hn, hm, hs, ht⟩
  · obtain rfl : xs = [] := List.eq_nil_of_length_eq_zero h3
    exact Own.nil w B
  · refine ⟨_, cap, rfl, hn, hm, (fun h => by cases h), .inr ⟨g, 0, rfl, hg, fun j x hx => ?_⟩⟩
    have hj : j < xs.length := (List.getElem?_eq_some_iff.1 hx).1
    constructor
    · rw [Nat.zero_add, cell_of_row w g j cur e (0, 0) hh]
      rw [← ht, List.getElem?_take, if_pos (by omega)] at hx
      simpa using hx
    · simp [World.frozen?, hh]
theorem Own.len {w : World} {B : Nat} {v : Value} {xs : List Value} (h : Own w B v xs) : ∃ a c, v = .slice a xs.length c := by
  obtain ⟨a, c, rfl, _⟩ := h
  exact ⟨a, c, rfl⟩
theorem Own.max {w : World} {B : Nat} {v : Value} {xs : List Value} (h : Own w B v xs) : xs.length ≤ maxLen := by
  obtain ⟨a, c, rfl, h1, h2, _⟩ := h
  omega
/-- A slice that is not empty: its address, its cells. -/
theorem Own.some {w : World} {B : Nat} {v : Value} {xs : List Value} (h : Own w B v xs) (hne : xs ≠ []) : ∃ g o c : Nat, v = .slice (some ⟨g, o, none⟩) xs.length c ∧ B ≤ g ∧ g < w.heap.size ∧ xs.length ≤ c ∧ c ≤ maxLen ∧
    ∀ j x, xs[j]? = some x → w.cell? ⟨g, o + j, none⟩ = some x ∧ w.frozen? ⟨g, o + j, none⟩ = false := by
  obtain ⟨a, c, rfl, h1, h2, _, h4⟩ := h
  rcases h4 with h4 | ⟨g, o, rfl, hg, h5⟩
  · exact absurd h4 hne
  · cases xs with
    | nil => exact absurd rfl hne
    | cons x xs => exact ⟨g, o, c, rfl, hg, cell_lt (h5 0 x rfl).1, h1, h2, h5⟩
/-- The cell at a place. -/
theorem Own.at {w : World} {B : Nat} {v : Value} {xs : List Value} (h : Own w B v xs) {k : Nat} {x : Value} (hx : xs[k]? = Option.some x) :
    ∃ g o c : Nat, v = .slice (Option.some ⟨g, o, none⟩) xs.length c ∧ B ≤ g ∧ g < w.heap.size ∧ w.cell? ⟨g, o + k, none⟩ = Option.some x ∧ w.frozen? ⟨g, o + k, none⟩ = false := by
  obtain ⟨g, o, c, rfl, h1, h2, _, _, h5⟩ := h.some (by rintro rfl; simp at hx)
  exact ⟨g, o, c, rfl, h1, h2, (h5 k x hx).1, (h5 k x hx).2⟩
theorem slice_inj {a a' : Option Addr} {n n' c c' : Nat} (h : Value.slice a n c = .slice a' n' c') : a = a' ∧ n = n' ∧ c = c' := by
  simpa using h

/-- Behind an append of one new element to a row of the call's own. -/
theorem below_append {B : Nat} {w wo w' : World} {o : Obj} {e : TypeId} {sz n : Nat} {v : Value} {xs : List Value} (hb : Below B w wo) (hB : B ≤ w.heap.size) (hown : wo.ownsRow B e sz v n xs) (hg : (wo.alloc o).grownBy w' v.ownBlock) : Below B w w' :=
  (hb.alloc (by have := hb.size; omega) _).grown hg (by have := hb.size; simp; omega) (fun k hk => (hown.lt k hk).1)

/-- The slice values of the type's number, read as strings. -/
abbrev Strs (w : World) (B : Nat) (v : Value) (L : List (List UInt8)) : Prop := Own w B v (L.map sv)

/-- The library's variable MaxLen holds a number. -/
def HasLen (w : World) : Prop := ∃ m, w.cell? ⟨1, 0, none⟩ = some (.int .i64 m)
theorem HasLen.below {w w' : World} (h : HasLen w) (hb : Below w.heap.size w w') : HasLen w' := by
  obtain ⟨m, hm⟩ := h
  exact ⟨m, (hb.cell (World.block_lt_of_cell? w _ hm)).trans hm⟩
theorem tkq {P : Program} {ops : Array Oper} {Q : Exit → Act → World → Prop} {md : Region.Mode} {S : World → Prop} {i : Nat} {oi : Oper} {v : Value} {fuel : Nat} {listed : Array Bool} {a : Act} {w : World} (hi : ops[i]? = some oi)
    (hc : (Region.noSelect ops && (Region.free md ops listed i && (Region.ready md ops listed).contains i)) = true) (hQ : ∀ c a w, Q (.panic c) (a.put oi.dst v) w → Q (.panic c) a w)
    (hw : Region.wanted oi (yielded ops a.tmps) = true) (hy : ∀ w, S w → (execOp a.eval oi).run P w = .ok (.value v) w) (hS : S w)
    (h : wpAnyH P md ops Q S fuel (listed.setIfInBounds i true) (a.put oi.dst v) w) : wpAnyH P md ops Q S (fuel + 1) listed a w := by
  rw [Bool.and_eq_true, Bool.and_eq_true] at hc
  exact wpAnyH_take hi hc.1 hc.2.1 hc.2.2 hQ (Or.inl ⟨hw, hy⟩) hS h
theorem tkz {P : Program} {ops : Array Oper} {Q : Exit → Act → World → Prop} {md : Region.Mode} {S : World → Prop} {oi : Oper} {v : Value} {fuel : Nat} {listed : Array Bool} {a : Act} {w : World} (i : Nat) (hi : ops[i]? = some oi)
    (h : wpAnyH P md ops Q S fuel (listed.setIfInBounds i true) (a.put oi.dst v) w)
    (hc : (Region.noSelect ops && (Region.free md ops listed i && (Region.ready md ops listed).contains i)) = true := by kernel_rfl) (hw : Region.wanted oi (yielded ops a.tmps) = true := by rfl) (hS : S w := by assumption)
    (hQ : ∀ c a w, Q (.panic c) (a.put oi.dst v) w → Q (.panic c) a w := by exact fun _ _ _ h => h)
    (hy : ∀ w, S w → (execOp a.eval oi).run P w = .ok (.value v) w := by ((intro w hSw; (try dsimp only at hSw); go_simp) <;> with_reducible rfl)) : wpAnyH P md ops Q S (fuel + 1) listed a w := tkq hi hc hQ hw hy hS h
theorem tkv {P : Program} {ops : Array Oper} {Q : Exit → Act → World → Prop} {md : Region.Mode} {S : World → Prop} {oi : Oper} {v : Value} {fuel : Nat} {listed : Array Bool} {a : Act} {w : World} (i : Nat) (hi : ops[i]? = some oi)
    (hy : ∀ w, S w → (execOp a.eval oi).run P w = .ok (.value v) w) (h : wpAnyH P md ops Q S fuel (listed.setIfInBounds i true) (a.put oi.dst v) w)
    (hc : (Region.noSelect ops && (Region.free md ops listed i && (Region.ready md ops listed).contains i)) = true := by kernel_rfl) (hw : Region.wanted oi (yielded ops a.tmps) = true := by rfl) (hS : S w := by assumption)
    (hQ : ∀ c a w, Q (.panic c) (a.put oi.dst v) w → Q (.panic c) a w := by exact fun _ _ _ h => h) : wpAnyH P md ops Q S (fuel + 1) listed a w := tkq hi hc hQ hw hy hS h
theorem rdy {P : Program} {ops : Array Oper} {Q : Exit → Act → World → Prop} {md : Region.Mode} {S : World → Prop} {fuel : Nat} {listed : Array Bool} {a : Act} {w : World} (i : Nat) {o : Oper} (ho : ops[i]? = some o)
    (h : ∀ K' : Act → World → Prop, Shut (∀ a w, S w → (S w → wpAnyH P md ops Q S fuel (listed.setIfInBounds i true) a w) → K' a w) → if Region.wanted o (yielded ops a.tmps) = true then Oper.wp P o a w K' Q else K' (a.put o.dst undef) w)
    (hr : Region.ready md ops listed = [i] := by kernel_rfl) : wpAnyH P md ops Q S (fuel + 1) listed a w := wpAnyH_ready hr (by simp) (AllReadyH.cons ho h AllReadyH.nil)
theorem tzA {α : Type} {l : List α} {i : Nat} {a : α} : l.toArray.setIfInBounds i a = (l.set i a).toArray := List.setIfInBounds_toArray ..
theorem tzD {α : Type} {l : List α} {i : Nat} {h : i < l.toArray.size} : l.toArray[i] = l[i]'(by simpa using h) := List.getElem_toArray ..
theorem tzE {α : Type} {a : α} {l : List α} {h : 0 < (a :: l).length} : (a :: l)[0] = a := rfl
theorem tzF {α : Type} {a : α} {l : List α} {i : Nat} {h : i + 1 < (a :: l).length} : (a :: l)[i + 1] = l[i]'(Nat.lt_of_succ_lt_succ h) := rfl
theorem tz {α : Type} : (∀ (l : List α) (i : Nat) (a : α), l.toArray.setIfInBounds i a = (l.set i a).toArray) ∧ (∀ (x : α) (l : List α) (a : α), (x :: l).set 0 a = a :: l) ∧ (∀ (x : α) (l : List α) (i : Nat) (a : α), (x :: l).set (i + 1) a = x :: l.set i a) ∧
    (∀ (l : List α) (i : Nat) (h : i < l.toArray.size), l.toArray[i] = l[i]'(by simpa using h)) ∧ (∀ (a : α) (l : List α) (h : 0 < (a :: l).length), (a :: l)[0] = a) ∧ (∀ (a : α) (l : List α) (i : Nat) (h : i + 1 < (a :: l).length), (a :: l)[i + 1] = l[i]'(Nat.lt_of_succ_lt_succ h)) :=
  ⟨fun _ _ _ => tzA, fun _ _ _ => rfl, fun _ _ _ _ => rfl, fun _ _ _ => tzD, fun _ _ _ => rfl, fun _ _ _ _ => rfl⟩
theorem tp : (∀ (ts : Array Value) (ds : List _) (t : Tmp) (v : Value), (Act.put ⟨ts, ds⟩ (some t) v) = ⟨ts.setIfInBounds t v, ds⟩) ∧ (∀ (a : Act) (v : Value), a.put none v = a) := ⟨fun _ _ _ _ => rfl, fun _ _ => rfl⟩
theorem tkw {P : Program} {ops : Array Oper} {Q : Exit → Act → World → Prop} {md : Region.Mode} {S : World → Prop} {oi : Oper} {v : Value} {fuel : Nat} {listed : Array Bool} {a : Act} {w : World} (i : Nat) (hi : ops[i]? = some oi)
    (h : wpAnyH P md ops Q S fuel (listed.setIfInBounds i true) (a.put oi.dst v) w)
    (hc : (Region.noSelect ops && (Region.free md ops listed i && (Region.ready md ops listed).contains i)) = true := by kernel_rfl) (hw : Region.wanted oi (yielded ops a.tmps) = true := by rfl) (hS : S w := by assumption)
    (hQ : ∀ c a w, Q (.panic c) (a.put oi.dst v) w → Q (.panic c) a w := by exact fun _ _ _ h => h)
    (hy : ∀ w, S w → (execOp a.eval oi).run P w = .ok (.value v) w := by ((intro w hSw; (try dsimp only at hSw); (first | obtain ⟨c0, c1, c2, c3, c4, c5⟩ := hSw | obtain ⟨c0, c1, c2, c3, c4⟩ := hSw | obtain ⟨c0, c1, c2, c3⟩ := hSw | obtain ⟨c0, c1, c2⟩ := hSw | obtain ⟨c0, c1⟩ := hSw); go_simp) <;> with_reducible rfl)) : wpAnyH P md ops Q S (fuel + 1) listed a w := tkq hi hc hQ hw hy hS h
theorem bal {w w' : World} {o : Obj} (h : w' = w.alloc o) : Below w.heap.size w w' := by rw [h]; exact (Below.refl _ _).alloc (Nat.le_refl _) _
theorem xE {α : Type} (a : α) : ∃ X, X = a := ⟨a, rfl⟩
theorem hidZ {p : Prop} (h : p) : Hid p := Lib.hid h
theorem mkFn {P : Program} : ∀ (fn : Fn) (first cap : Array Value) (w : World), (Instr.makeFunc fn first cap).run P w = .ok (.func fn first cap) w := fun _ _ _ _ => rfl
theorem HasLen.of_shaped {w : World} (h : w.ShapedOpen Tryz.prog) : HasLen w := Tryz.laysM146.s1_3 w h
/-! ### Plain -/
def wordsGo : List UInt8 → List UInt8 → List (List UInt8)
 | [], cur => if cur = [] then [] else [cur]
 | c :: l, cur => if c = 32 then (if cur = [] then wordsGo l [] else cur :: wordsGo l []) else wordsGo l (cur ++ [c])
def words (l : List UInt8) : List (List UInt8) := wordsGo l []
theorem wordsGo_run : ∀ (w r cur : List UInt8), (∀ c ∈ w, c ≠ 32) → wordsGo (w ++ r) cur = wordsGo r (cur ++ w)
 | [], r, cur, _ => by simp
 | c :: w, r, cur, h => by
  have hc : c ≠ 32 := h c (by simp)
  rw [List.cons_append, wordsGo, if_neg hc, wordsGo_run w r (cur ++ [c]) (fun x hx => h x (by simp [hx]))]
  simp
theorem words_cut (w r : List UInt8) (h : ∀ c ∈ w, c ≠ 32) : words (w ++ 32 :: r) = (if w = [] then [] else [w]) ++ words r := by
 unfold words
 rw [wordsGo_run w _ [] h, List.nil_append, wordsGo, if_pos rfl]
 split <;> simp
theorem words_end (w : List UInt8) (h : ∀ c ∈ w, c ≠ 32) : words w = if w = [] then [] else [w] := by
 have := wordsGo_run w [] [] h
 simp only [List.append_nil, List.nil_append] at this
 unfold words; rw [this, wordsGo]
theorem words_nil : words [] = [] := rfl
theorem words_scan {l : List UInt8} {a b : Nat} (hab : a ≤ b) (hb : b ≤ l.length) (h : ∀ j, a ≤ j → j < b → ∀ c, l[j]? = some c → c ≠ 32) (he : b = l.length ∨ l[b]? = some 32) :
  words (l.drop a) = (if a < b then [(l.take b).drop a] else []) ++ words (l.drop (b + 1)) := by
 have hw : ∀ c ∈ (l.take b).drop a, c ≠ 32 := by
  intro c hc
  obtain ⟨j, hj, rfl⟩ := List.getElem_of_mem hc
  simp only [List.length_drop, List.length_take] at hj
  rw [List.getElem_drop, List.getElem_take]
  exact h (a + j) (by omega) (by omega) _ (List.getElem?_eq_getElem (by omega))
 have hlen : ((l.take b).drop a).length = b - a := by simp; omega
 have hne : ((l.take b).drop a = []) ↔ ¬ a < b := by
  rw [← List.length_eq_zero_iff, hlen]; omega
 rcases he with he | he
 ·have e1 : l.drop a = (l.take b).drop a := by rw [he, List.take_length]
  rw [List.drop_eq_nil_of_le (show l.length ≤ b + 1 by omega), words_nil, List.append_nil, e1]
  rw [words_end _ hw]
  by_cases hlt : a < b
  ·rw [if_pos hlt, if_neg (by rw [hne]; omega)]
  ·rw [if_neg hlt, if_pos (by rw [hne]; omega)]
 ·obtain ⟨hbl, hbc⟩ := List.getElem?_eq_some_iff.1 he
  have e1 : l.drop a = (l.take b).drop a ++ 32 :: l.drop (b + 1) := by
   have : l.drop b = 32 :: l.drop (b + 1) := by rw [List.drop_eq_getElem_cons hbl, hbc]
   rw [← this]
   conv => lhs; rw [← List.take_append_drop b l]
   rw [List.drop_append_of_le_length (by simp; omega)]
  rw [e1, words_cut _ _ hw]
  by_cases hlt : a < b
  ·rw [if_pos hlt, if_neg (by rw [hne]; omega)]
  ·rw [if_neg hlt, if_pos (by rw [hne]; omega)]
theorem splitK_words : ∀ (k : Nat) (l : List UInt8), Lib.count l [32] = k → (Lib.splitK [32] 0 k l).filter (fun w => !w.isEmpty) = words l
 | 0, l, hk => by
  rcases Lib.index_spec l [32] with ⟨hi, hn⟩ | ⟨i, hi, _⟩
  ·rw [Lib.splitK]
   have hw : ∀ c ∈ l, c ≠ 32 := by
    rintro c hc rfl
    obtain ⟨j, hj, hjc⟩ := List.getElem_of_mem hc
    have := hn j (by omega)
    simp [Lib.occAt, List.drop_eq_getElem_cons hj, hjc] at this
   rw [words_end l hw]
   cases l <;> simp
  ·rw [Lib.count_hit (by simp) hi] at hk; omega
 | k + 1, l, hk => by
  rcases Lib.index_spec l [32] with ⟨hi, hn⟩ | ⟨i, hi, hil, ho, hno⟩
  ·rw [Lib.count_miss hi] at hk; omega
  ·have hc := Lib.count_hit (by simp) hi
   rw [hk] at hc
   have hi32 : l[i]? = some 32 := Lib.occAt_head rfl ho
   have hil' := (List.getElem?_eq_some_iff.1 hi32).1
   have ih := splitK_words k (l.drop (i + 1)) (by simp at hc; omega)
   rw [Lib.splitK, if_neg (by rw [hi]; simp), hi]
   simp only [Int.toNat_natCast, Nat.add_zero, List.length_cons, List.length_nil, Nat.zero_add]
   rw [List.filter_cons, ih]
   have := words_scan (l := l) (a := 0) (b := i) (by omega) (by omega) (fun j _ hj c hjc hc32 => by
    subst hc32
    have h1 := hno j hj
    obtain ⟨hjl, hjc'⟩ := List.getElem?_eq_some_iff.1 hjc
    simp [Lib.occAt, List.drop_eq_getElem_cons hjl, hjc'] at h1) (.inr hi32)
   rw [List.drop_zero] at this
   rw [this, List.drop_zero]
   by_cases h0 : 0 < i
   ·rw [if_pos (by simp; exact ⟨by omega, by intro h; subst h; simp at hil'⟩), if_pos h0]; rfl
   ·rw [if_neg (by simp; omega), if_neg h0]; rfl
theorem words_length : ∀ (l : List UInt8), (words l).length ≤ l.length := by
 have go : ∀ (l cur : List UInt8), (wordsGo l cur).length ≤ l.length + (if cur = [] then 0 else 1) := by
  intro l
  induction l with
  | nil => intro cur; simp only [wordsGo]; split <;> simp
  | cons c l ih =>
   intro cur
   simp only [wordsGo]
   split
   ·split
    ·have := ih []; simp at this ⊢; omega
    ·have := ih []; simp at this ⊢; omega
   ·have := ih (cur ++ [c]); simp at this; simp; split <;> omega
 intro l
 have := go l []
 simpa [words] using this
def badB (c : UInt8) : Bool := decide (c.toNat ≤ 32) || c.toNat == 127
theorem bad_yes {c : UInt8} (h : (c.toNat : Int) ≤ 32 ∨ ((c.toNat : Int) == 127) = true) : badB c = true := by
 simp only [badB, Bool.or_eq_true, decide_eq_true_eq, beq_iff_eq] at *; omega
theorem bad_no {c : UInt8} (h : (32 : Int) < (c.toNat : Int) ∧ ((c.toNat : Int) == 127) = false) : badB c = false := by
 simp only [badB, Bool.or_eq_false_iff, decide_eq_false_iff_not, beq_eq_false_iff_ne] at *; omega
def look (l : List UInt8) : Nat × Nat :=
 if l.length = 0 then (1, 0) else if 250 < l.length then (2, 0) else match l.findIdx? badB with | some i => (3, i) | none => (0, 0)
theorem look_empty {l : List UInt8} (h : l = []) : look l = (1, 0) := by simp [look, h]
theorem look_long {l : List UInt8} (h : 250 < l.length) : look l = (2, 0) := by
 unfold look; rw [if_neg (by omega), if_pos h]
theorem look_hit {l : List UInt8} {k : Nat} {c : UInt8} (h : ¬ 250 < l.length) (hc : l[k]? = some c) (hb : badB c = true) (hf : Good badB l k) : look l = (3, k) := by
 have hk := (List.getElem?_eq_some_iff.1 hc).1
 unfold look; rw [if_neg (by omega), if_neg h, good_hit hc hb hf]
theorem look_none {l : List UInt8} (h0 : l ≠ []) (h : ¬ 250 < l.length) (hf : Good badB l l.length) : look l = (0, 0) := by
 have : 0 < l.length := List.length_pos_iff.2 h0
 unfold look; rw [if_neg (by omega), if_neg h, good_all hf]
theorem look_any (s : ByteArray) (w : World) (hs : s.size ≤ maxLen) :
  Calls Tryz.prog 175 #[.string s] w fun e w' => e = .returned (.tuple #[.int .u8 (look (bs s)).1, .int .i64 (look (bs s)).2]) ∧ w = w' := by
 unfold maxLen at hs
 cases h0 : s.toList.isEmpty with
 | true =>
  go_enter Tryz.func175, Tryz.ntmps175
  go_wp2
  go_ret2
  exact ⟨by rw [look_empty (bs_empty h0)]; rfl, rfl⟩
 | false =>
  have H0 := hidZ (bs_some h0)
  go_enter Tryz.func175, Tryz.ntmps175
  go_wp2
  ·go_ret2
   exact ⟨by rw [look_long (by rw [bs_length]; omega)]; rfl, rfl⟩
  ·have h1 : ¬ 250 < (bs s).length := by rw [bs_length]; omega
   go_loop [15] (fun i => ∃ k : Nat, k ≤ s.size ∧ i = .int .i64 k ∧ Good badB (bs s) k) (fun i => s.size - (intOf i).toNat)
   case atStart => exact ⟨0, Nat.zero_le _, rfl, good_zero _ _⟩
   case round =>
    obtain ⟨k, hk, rfl, hf⟩ := hrel
    by_cases hlt : k < s.size
    ·have HG := hidZ (bs_get? hlt)
     go_wp2
     ·go_ret2
      exact ⟨by rw [look_hit h1 HG.out (bad_yes ‹_›) hf]; rfl, rfl⟩
     ·go_round
      case rel => exact ⟨k + 1, by omega, by go_num, good_step HG.out (bad_no ‹_›) hf⟩
      case measure => simp [intOf]; omega
     ·go_ret2
      exact ⟨by rw [look_hit h1 HG.out (bad_yes (.inl ‹_›)) hf]; rfl, rfl⟩
    ·go_wp2
     go_ret2
     exact ⟨by rw [look_none H0.out h1 (hf.mono (by rw [bs_length]; omega))]; rfl, rfl⟩
def okB (l : List UInt8) : Bool := (look l).1 == 0
def roomB (n : Int) : Bool := decide (0 ≤ n) && decide (n ≤ 1024)
theorem okB_is (l : List UInt8) : (((look l).1 : Int) == 0) = okB l := by
 rw [Bool.eq_iff_iff]; simp only [okB, beq_iff_eq]; omega
theorem ok_any (s : ByteArray) (w : World) (hs : s.size ≤ maxLen) :
  Calls Tryz.prog 132 #[.string s] w fun e w' => e = .returned (.bool (okB (bs s))) ∧ w = w' := by
 have h := look_any s w hs
 rw [← okB_is]
 generalize (look (bs s)).1 = f at h ⊢
 generalize (look (bs s)).2 = p at h
 go_enter Tryz.func132, Tryz.ntmps132
 go_wp2_with fail
 refine h.mono ?_
 rintro e w' ⟨rfl, rfl⟩
 go_wp2_with fail
 go_ret
 exact ⟨rfl, rfl⟩
theorem room_any (n : Int) (w : World) : Calls Tryz.prog 190 #[.int .i64 n] w fun e w' => e = .returned (.bool (roomB n)) ∧ w = w' := by
 by_cases h0 : 0 ≤ n <;> by_cases h1 : n ≤ 1024
 all_goals
  go_enter Tryz.func190, Tryz.ntmps190
  go_wp2_with fail
  go_ret
  exact ⟨ret_congr (by simp [roomB, *]; try omega), rfl⟩
theorem kvalue_any (s : ByteArray) (w : World) (_hs : s.size ≤ maxLen) : Calls Tryz.prog 157 #[.string s] w fun e w' => e = .returned (.bool (roomB s.size)) ∧ w = w' := by
 unfold maxLen at _hs
 have h := room_any s.size w
 generalize roomB s.size = r at h ⊢
 go_enter Tryz.func157, Tryz.ntmps157
 go_wp2_with fail
 refine h.mono ?_
 rintro e w' ⟨rfl, rfl⟩
 go_wp2_with fail
 go_ret
 exact ⟨rfl, rfl⟩
open Go.RowKit Go.ChangeMaps Go.MapKept
theorem heap_at (w : World) (o : Obj) (k : Nat) : (w.alloc o).heap[k]? = if k = w.heap.size then some o else w.heap[k]? := by
 simp only [World.alloc, Array.getElem?_push]
theorem size_at (w : World) (o : Obj) : (w.alloc o).heap.size = w.heap.size + 1 := by simp only [World.alloc, Array.size_push]
theorem set_new (w : World) (o1 o2 : Obj) : setBlock (w.alloc o1) w.heap.size o2 = w.alloc o2 := by
 unfold setBlock World.alloc
 congr 1
 apply Array.ext_getElem?
 intro i
 rw [Array.getElem?_setIfInBounds, Array.getElem?_push, Array.getElem?_push, Array.size_push]
 by_cases h : i = w.heap.size
 ·subst h; simp
 ·rw [if_neg (Ne.symm h), if_neg h, if_neg h]
theorem set_old (w : World) (o1 o2 : Obj) (b : Nat) (hb : b < w.heap.size) : setBlock (w.alloc o1) b o2 = (setBlock w b o2).alloc o1 := by
 unfold setBlock World.alloc
 simp only
 congr 1
 apply Array.ext_getElem?
 intro i
 rw [Array.getElem?_setIfInBounds, Array.getElem?_push, Array.getElem?_push, Array.getElem?_setIfInBounds, Array.size_push, Array.size_setIfInBounds]
 by_cases h : b = i
 ·subst h
  rw [if_pos rfl, if_pos (by omega), if_neg (by omega), if_pos rfl, if_pos hb]
 ·rw [if_neg h, if_neg h]
def allocs (w : World) : List Obj → World
 | [] => w
 | o :: r => allocs (w.alloc o) r
theorem allocs_at : ∀ (L : List Obj) (w : World) (k : Nat), k < w.heap.size → (allocs w L).heap[k]? = w.heap[k]?
 | [], _, _, _ => rfl
 | o :: L, w, k, h => by
  rw [allocs, allocs_at L _ k (by rw [size_at]; omega), heap_at, if_neg (by omega)]
theorem allocs_set : ∀ (L : List Obj) (w : World) (b : Nat) (o : Obj), b < w.heap.size → setBlock (allocs w L) b o = allocs (setBlock w b o) L
 | [], _, _, _, _ => rfl
 | x :: L, w, b, o, h => by
  rw [allocs, allocs_set L _ b o (by rw [size_at]; omega), set_old _ _ _ _ h, allocs]
theorem wpList_insert_lit {P : Program} {w : World} {ops : Array Oper} {rest : List Oper} {o : Oper} {a : Act} {Q : Exit → Act → World → Prop} (X : World) (b : Nat) (hXb : X.heap.size = b) (L : List Obj) (es : Array MapEntry) (clock : Nat)
  (hwx : w = allocs (X.alloc (.map es clock)) L) (hg : o.guard = none) (m x v : Operand) (t : TypeId) (hop : o.op = Op.insert t m x v) (k e : TypeId) (K : Go.Maps.Keyed P k) (ht : P.underlying t = some (.map k e)) (kd : TypeDesc) (hk : P.underlying k = some kd)
  (hm : a.eval m = .map (some b)) (key : Value) (kl : Lit) (hx : a.eval x = key) (hkey : keyOf P k key = some kl)
  (hnew : Instr.findNow kd key es.toList 0 = some none) (w' : World) (hw : allocs (X.alloc (.map (es.push ⟨key, a.eval v, clock⟩) (clock + 1))) L = w') (hK : wpList P ops Q rest (a.put o.dst undef) w') :
  wpList P ops Q (o :: rest) a w := by
 subst hXb
 refine wpList_plain hg fun K' hK' => ?_
 have hck := K.check w false hkey
 have hf : (Instr.findKey k key es.toList).run P w = .ok none w := by
  simp [Instr.findKey, run_underlying hk, hnew]
 have hb : w.heap[X.heap.size]? = some (.map es clock) := by
  rw [hwx, allocs_at _ _ _ (by rw [size_at]; omega), heap_at, if_pos rfl]
 have hset : ∀ o, setBlock w X.heap.size o = allocs (X.alloc o) L := fun o => by
  rw [hwx, allocs_set _ _ _ _ (by rw [size_at]; omega), set_new]
 have hrun : (Instr.mapUpdate t (.map (some X.heap.size)) key (a.eval v)).run P w = .ok () w' := by
  rw [← hw, ← hset]
  simp [Instr.mapUpdate, run_underlying ht, MapKept.run_getObj_map hb, hck, hf, MapKept.run_setObj_map _ hb, Result.andThen, setBlock]
 unfold Oper.wp
 simp [execOp, hop, hm, hx, hrun, Result.andThen]
 exact hK' _ _ hK
theorem run_lookup_hit {P : Program} {w : World} {b : Nat} {es : Array MapEntry} {clock : Nat} {t k e : TypeId} {kd : TypeDesc} {key v : Value} {kl : Lit} {i : Nat} (K : Go.Maps.Keyed P k) (ht : P.underlying t = some (.map k e)) (hk : P.underlying k = some kd)
  (hb : w.heap[b]? = some (.map es clock)) (hkey : keyOf P k key = some kl) (hf : Instr.findNow kd key es.toList 0 = some (some (i, v))) (ok : Bool) :
  (Instr.lookup t (.map (some b)) key ok).run P w = .ok (if ok then .tuple #[v, .bool true] else v) w := by
 have hck := fun em => K.check w em hkey
 have hf' : (Instr.findKey k key es.toList).run P w = .ok (some (i, v)) w := by
  simp [Instr.findKey, run_underlying hk, hf]
 simp [Instr.lookup, run_underlying ht, MapKept.run_getObj_map hb, hck, hf', Result.andThen]
theorem run_lookup_miss {P : Program} {w : World} {b : Nat} {es : Array MapEntry} {clock : Nat} {t k e : TypeId} {kd : TypeDesc} {key z : Value} {kl : Lit} (K : Go.Maps.Keyed P k) (ht : P.underlying t = some (.map k e)) (hk : P.underlying k = some kd)
  (hb : w.heap[b]? = some (.map es clock)) (hkey : keyOf P k key = some kl) (hf : Instr.findNow kd key es.toList 0 = some none) (hz : (zeroValue e).run P w = .ok z w) (ok : Bool) :
  (Instr.lookup t (.map (some b)) key ok).run P w = .ok (if ok then .tuple #[z, .bool false] else z) w := by
 have hck := fun em => K.check w em hkey
 have hf' : (Instr.findKey k key es.toList).run P w = .ok none w := by
  simp [Instr.findKey, run_underlying hk, hf]
 simp [Instr.lookup, run_underlying ht, MapKept.run_getObj_map hb, hck, hf', hz, Result.andThen]
theorem setCells_block : ∀ (vs : List Value) (o : Nat) (w : World) (b : Nat) (cs : Array Value) (t : TypeId), w.heap[b]? = some (.cells cs t (0, 0)) → o + vs.length ≤ cs.size →
  ∃ cs' : Array Value, (w.setCells b o vs).heap[b]? = some (.cells cs' t (0, 0)) ∧ cs'.size = cs.size ∧ (∀ j, j < o → cs'[j]? = cs[j]?) ∧ (∀ j v, vs[j]? = some v → cs'[o + j]? = some v)
 | [], o, w, b, cs, t, h, _ => ⟨cs, h, rfl, fun _ _ => rfl, fun j v hv => by simp at hv⟩
 | v :: r, o, w, b, cs, t, h, hl => by
  have h1 := heap_setCell_same w b o cs t v h
  obtain ⟨cs', h2, h3, h4, h5⟩ := setCells_block r (o + 1) (w.setCell ⟨b, o, none⟩ v) b (cs.setIfInBounds o v) t h1 (by simp at hl ⊢; omega)
  refine ⟨cs', h2, by rw [h3]; simp, fun j hj => ?_, fun j u hu => ?_⟩
  ·rw [h4 j (by omega), Array.getElem?_setIfInBounds_ne (by omega)]
  ·cases j with
   | zero =>
    rw [List.getElem?_cons_zero] at hu
    obtain rfl := Option.some.inj hu
    rw [Nat.add_zero, h4 o (by omega), Array.getElem?_setIfInBounds_self_of_lt (by simp at hl; omega)]
   | succ j =>
    have := h5 j u (by simpa using hu)
    rwa [show o + (j + 1) = o + 1 + j from by omega]
theorem setCells_grown : ∀ (vs : List Value) (o : Nat) (w : World) (b : Nat), w.grownBy (w.setCells b o vs) (some b) ∧ (w.setCells b o vs).heap.size = w.heap.size
 | [], _, w, _ => ⟨World.grownBy.refl _ _, rfl⟩
 | v :: r, o, w, b => by
  obtain ⟨h1, h2⟩ := setCells_grown r (o + 1) (w.setCell ⟨b, o, none⟩ v) b
  have h0 : w.grownBy (w.setCell ⟨b, o, none⟩ v) (some b) := ⟨rfl, rfl, rfl, by simp, fun k _ hk => Below.heap_setCell w ⟨b, o, none⟩ v k (fun e => hk (by rw [e]))⟩
  refine ⟨⟨h1.os.trans h0.os, h1.tape.trans h0.tape, h1.output.trans h0.output, Nat.le_trans h0.size h1.size, fun k hk hne => (h1.block k (Nat.lt_of_lt_of_le hk h0.size) hne).trans (h0.block k hk hne)⟩, ?_⟩
  show ((w.setCell ⟨b, o, none⟩ v).setCells b (o + 1) r).heap.size = _
  rw [h2]; simp
theorem setCells_whole {w : World} {b : Nat} {old cells : Array Value} {t : TypeId} (h : w.heap[b]? = some (.cells old t (0, 0))) (hs : cells.size = old.size) : (w.setCells b 0 cells.toList).heap[b]? = some (.cells cells t (0, 0)) := by
 obtain ⟨cs', h1, h2, _, h3⟩ := setCells_block cells.toList 0 w b old t h (by simp; omega)
 rw [h1]
 have : cs' = cells := by
  apply Array.ext_getElem?
  intro i
  by_cases hi : i < cells.size
  ·have := h3 i (cells[i]) (by simp [hi])
   rw [Nat.zero_add] at this
   rw [this]; simp [hi]
  ·rw [Array.getElem?_eq_none (by omega), Array.getElem?_eq_none (by omega)]
 rw [this]
theorem wpList_store_whole {P : Program} {ops : Array Oper} {rest : List Oper} {op : Oper} {a : Act} {w : World} {Q : Exit → Act → World → Prop} (hgd : op.guard = none) (ty : TypeId) (x y : Operand) (ho : op.op = .store ty x y)
  (b : Nat) (hx : a.eval x = .pointer (some ⟨b, 0, none⟩)) (cells : Array Value) (hy : a.eval y = .agg cells) (old : Array Value) (t : TypeId) (hb : w.heap[b]? = some (.cells old t (0, 0))) (hs : cells.size = old.size)
  (hi : (P.info? ty).map (·.size) = some cells.size) (h1 : ∀ v ∈ cells.toList, v.oneCell' = true)
  (h : ∀ w', w'.heap[b]? = some (.cells cells t (0, 0)) → w.grownBy w' (some b) → w'.heap.size = w.heap.size → wpList P ops Q rest (a.put op.dst undef) w') : wpList P ops Q (op :: rest) a w :=
 wpList_store_mid hgd ty x y ho b 0 cells hx hy (fun j hj => by
   rw [Nat.zero_add]
   refine ⟨?_, frozen_of_row w b j old t hb⟩
   rw [cell_of_row w b j old t (0, 0) hb, Array.getElem?_eq_getElem (by omega)]; rfl) hi (Array.all_eq_true_iff_forall_mem.2 (fun v hv => h1 v (by simpa using hv)))
  (h _ (setCells_whole hb hs) (setCells_grown _ _ _ _).1 (setCells_grown _ _ _ _).2)
theorem results_row_tmp {P : Program} {fn : Func} {p u : Tmp} {ty : TypeId} (h : fn.results = #[.cell p ty, .tmp u]) (tmps : Array Value) (w : World) (g : Nat) (t : TypeId) (cs : Array Value) (fr : Nat × Nat) (d : TypeDesc)
  (hp : tmps.getD p undef = .pointer (some ⟨g, 0, none⟩)) (hg : w.heap[g]? = some (.cells cs t fr))
  (hu : P.underlying ty = some d) (hd : (match d with | .struct _ | .array _ _ => true | _ => false) = true) (hi : (P.info? ty).map (·.size) = some cs.size) (v : Value) (hv : tmps.getD u undef = v) :
  (results fn tmps).run P w = .ok (.tuple #[.agg cs, v]) w := by
 rw [results_cell_tmp h, hp, hv]
 simp [asAddr, run_loadVar_row w g t ty cs fr d hg hu hd hi, Result.andThen]
def Tag (w : World) (g : Nat) (e : TypeId) : Prop := ∃ cs fz, w.heap[g]? = some (.cells cs e fz)
theorem Tag.lt {w : World} {g : Nat} {e : TypeId} (h : Tag w g e) : g < w.heap.size := by
 obtain ⟨cs, fz, h⟩ := h
 exact (Array.getElem?_eq_some_iff.1 h).1
theorem Tag.one {w : World} {g : Nat} {e e' : TypeId} (h : Tag w g e) (h' : Tag w g e') : e = e' := by
 obtain ⟨cs, fz, h⟩ := h
 obtain ⟨cs', fz', h'⟩ := h'
 rw [h] at h'
 simp at h'
 exact h'.2.1
theorem Tag.of {w : World} {g : Nat} {e : TypeId} {cs : Array Value} {fz : Nat × Nat} (h : w.heap[g]? = some (.cells cs e fz)) : Tag w g e := ⟨cs, fz, h⟩
structure Chg (M : Nat → Prop) (w w' : World) : Prop where
 os : w'.os = w.os
 tape : w'.tape = w.tape
 output : w'.output = w.output
 size : w.heap.size ≤ w'.heap.size
 block : ∀ k, k < w.heap.size → ¬ M k → w'.heap[k]? = w.heap[k]?
theorem Chg.refl (M : Nat → Prop) (w : World) : Chg M w w := ⟨rfl, rfl, rfl, Nat.le_refl _, fun _ _ _ => rfl⟩
theorem Chg.trans {M : Nat → Prop} {a b c : World} (h : Chg M a b) (k : Chg M b c) : Chg M a c :=
 ⟨k.os.trans h.os, k.tape.trans h.tape, k.output.trans h.output, Nat.le_trans h.size k.size, fun i hi hm => (k.block i (Nat.lt_of_lt_of_le hi h.size) hm).trans (h.block i hi hm)⟩
theorem Chg.then {M M' : Nat → Prop} {a b c : World} (h : Chg M a b) (k : Chg M' b c) (hM : ∀ i, i < a.heap.size → M' i → M i) : Chg M a c :=
 ⟨k.os.trans h.os, k.tape.trans h.tape, k.output.trans h.output, Nat.le_trans h.size k.size, fun i hi hm => (k.block i (Nat.lt_of_lt_of_le hi h.size) (fun e => hm (hM i hi e))).trans (h.block i hi hm)⟩
theorem Chg.mono {M M' : Nat → Prop} {a b : World} (h : Chg M a b) (hM : ∀ i, i < a.heap.size → M i → M' i) : Chg M' a b :=
 ⟨h.os, h.tape, h.output, h.size, fun i hi hm => h.block i hi (fun e => hm (hM i hi e))⟩
theorem Chg.of_grown {M : Nat → Prop} {a b : World} {r : Option Nat} (h : a.grownBy b r) (hM : ∀ i, i < a.heap.size → r = some i → M i) : Chg M a b :=
 ⟨h.os, h.tape, h.output, h.size, fun i hi hm => h.block i hi (fun e => hm (hM i hi e.symm))⟩
theorem Chg.of_below {M : Nat → Prop} {a b : World} (h : Below a.heap.size a b) : Chg M a b :=
 ⟨h.os, h.tape, h.output, h.size, fun i hi _ => h.block i hi⟩
theorem Chg.alloc {M : Nat → Prop} {a b : World} (h : Chg M a b) (o : Obj) : Chg M a (b.alloc o) := h.then (M' := fun _ => False) (Chg.of_grown (World.grownBy_alloc b o none) (fun _ _ e => by cases e)) (fun _ _ e => e.elim)
theorem Chg.drew {M : Nat → Prop} {a b : World} (h : Chg M a b) : Chg M a b.drew := ⟨h.os, h.tape, h.output, h.size, h.block⟩
theorem Chg.drewN {M : Nat → Prop} {a b : World} (h : Chg M a b) (n : Nat) : Chg M a (b.drewN n) := ⟨h.os, h.tape, h.output, h.size, h.block⟩
theorem Chg.set {M : Nat → Prop} {a b : World} (h : Chg M a b) {p j : Nat} (hp : p < a.heap.size → M p) (v : Value) : Chg M a (b.setCell ⟨p, j, none⟩ v) :=
 h.then (M' := fun k => k = p) ⟨rfl, rfl, rfl, by simp, fun k _ hk => Below.heap_setCell b ⟨p, j, none⟩ v k hk⟩ (fun i hi e => by subst e; exact hp hi)
theorem Chg.below {M : Nat → Prop} {a b : World} {B : Nat} (h : Chg M a b) (hB : ∀ k, k < B → k < a.heap.size ∧ ¬ M k) : Below B a b :=
 ⟨h.os, h.tape, h.output, h.size, fun k hk => h.block k (hB k hk).1 (hB k hk).2⟩
theorem Chg.cell {M : Nat → Prop} {w w' : World} (hc : Chg M w w') {g o : Nat} {v : Value} (h : w.cell? ⟨g, o, none⟩ = some v) (hM : ¬ M g) : w'.cell? ⟨g, o, none⟩ = some v :=
 (World.cell?_of_block (hc.block g (cell_lt h) hM)).trans h
theorem Chg.frozen {M : Nat → Prop} {w w' : World} (hc : Chg M w w') {g o : Nat} (hg : g < w.heap.size) (hM : ¬ M g) : w'.frozen? ⟨g, o, none⟩ = w.frozen? ⟨g, o, none⟩ :=
 World.frozen?_of_block (hc.block g hg hM)
theorem Chg.obj {M : Nat → Prop} {w w' : World} (hc : Chg M w w') {g : Nat} {o : Obj} (h : w.heap[g]? = some o) (hM : ¬ M g) : w'.heap[g]? = some o :=
 (hc.block g (Array.getElem?_eq_some_iff.1 h).1 hM).trans h
theorem Chg.tag {M : Nat → Prop} {w w' : World} (hc : Chg M w w') {g : Nat} {e : TypeId} (h : Tag w g e) (hM : ¬ M g) : Tag w' g e := by
 obtain ⟨cs, fz, h⟩ := h
 exact ⟨cs, fz, hc.obj h hM⟩
theorem Chg.others {M : Nat → Prop} {w w' : World} (hc : Chg M w w') (hM : ∀ k, k < w.heap.size → M k → ∃ e, Tag w k e) : KeepsOthers w w' :=
 ⟨hc.size, fun k o hk ho => hc.obj hk (fun e => by
  obtain ⟨t, cs, fz, h⟩ := hM k (Array.getElem?_eq_some_iff.1 hk).1 e
  rw [hk] at h
  cases h
  cases ho)⟩
def Row (w : World) (e : TypeId) (sz : Nat) (v : Value) (n : Nat) (xs : List Value) : Prop :=
 xs.length = n * sz ∧ ∃ (a : Option Addr) (c : Nat), v = .slice a n c ∧ n ≤ c ∧ c ≤ maxLen ∧ (a = none → c = 0) ∧ (∀ g, v.ownBlock = some g → Tag w g e) ∧
  (xs = [] ∨ ∃ g o : Nat, a = some ⟨g, o, none⟩ ∧ ∀ j x, xs[j]? = some x → w.cell? ⟨g, o + j, none⟩ = some x ∧ w.frozen? ⟨g, o + j, none⟩ = false)
theorem Row.nil (w : World) (e : TypeId) (sz : Nat) : Row w e sz (.slice none 0 0) 0 [] := ⟨by simp, none, 0, rfl, Nat.le_refl _, by simp [maxLen], fun _ => rfl, (fun g hg => by simp [Value.ownBlock] at hg), .inl rfl⟩
theorem Row.len {w : World} {e : TypeId} {sz n : Nat} {v : Value} {xs : List Value} (h : Row w e sz v n xs) : ∃ a c, v = .slice a n c := by
 obtain ⟨_, a, c, rfl, _⟩ := h
 exact ⟨a, c, rfl⟩
theorem Row.max {w : World} {e : TypeId} {sz n : Nat} {v : Value} {xs : List Value} (h : Row w e sz v n xs) : n ≤ maxLen := by
 obtain ⟨_, a, c, rfl, h1, h2, _⟩ := h
 omega
theorem Row.tag {w : World} {e : TypeId} {sz n : Nat} {v : Value} {xs : List Value} (h : Row w e sz v n xs) {g : Nat} (hg : v.ownBlock = some g) : Tag w g e := by
 obtain ⟨_, a, c, rfl, h1, h2, h3, h4, _⟩ := h
 exact h4 g hg
theorem Row.kept {M : Nat → Prop} {w w' : World} {e : TypeId} {sz n : Nat} {v : Value} {xs : List Value} (h : Row w e sz v n xs) (hc : Chg M w w') (hM : ∀ g, v.ownBlock = some g → ¬ M g) : Row w' e sz v n xs := by
 obtain ⟨h0, a, c, rfl, h1, h2, h3, h4, h5⟩ := h
 refine ⟨h0, a, c, rfl, h1, h2, h3, fun g hg => hc.tag (h4 g hg) (hM g hg), h5.imp id ?_⟩
 rintro ⟨g, o, rfl, h6⟩
 refine ⟨g, o, rfl, fun j x hx => ?_⟩
 have hg : ¬ M g := hM g rfl
 exact ⟨hc.cell (h6 j x hx).1 hg, (hc.frozen (cell_lt (h6 j x hx).1) hg).trans (h6 j x hx).2⟩
theorem Row.below {w w' : World} {e : TypeId} {sz n : Nat} {v : Value} {xs : List Value} (h : Row w e sz v n xs) (hb : Below w.heap.size w w') : Row w' e sz v n xs :=
 h.kept (M := fun _ => False) (Chg.of_below hb) (fun _ _ h => h)
theorem Row.of_owns {w : World} {B : Nat} {e : TypeId} {sz n : Nat} {v : Value} {xs : List Value} (h : w.ownsRow B e sz v n xs) : Row w e sz v n xs := by
 obtain ⟨hl, h2⟩ := h
 rcases h2 with ⟨rfl, rfl⟩ | ⟨g, cap, cur, rfl, hg, hh, hn, hm, hs, ht⟩
 ·obtain rfl : xs = [] := List.eq_nil_of_length_eq_zero (by omega)
  exact Row.nil w e sz
 ·refine ⟨hl, _, cap, rfl, hn, hm, (fun h => by cases h), (fun g' hg' => ?_), .inr ⟨g, 0, rfl, fun j x hx => ?_⟩⟩
  ·obtain rfl : g = g' := by simpa [Value.ownBlock] using hg'
   exact ⟨_, _, hh⟩
  ·have hj : j < xs.length := (List.getElem?_eq_some_iff.1 hx).1
   constructor
   ·rw [Nat.zero_add, cell_of_row w g j cur e (0, 0) hh]
    rw [← ht, List.getElem?_take, if_pos (by omega)] at hx
    simpa using hx
   ·simp [World.frozen?, hh]
theorem Row.at {w : World} {e : TypeId} {sz n : Nat} {v : Value} {xs : List Value} (h : Row w e sz v n xs) {k : Nat} {x : Value} (hx : xs[k]? = some x) :
  ∃ g o c : Nat, v = .slice (some ⟨g, o, none⟩) n c ∧ n ≤ c ∧ w.cell? ⟨g, o + k, none⟩ = some x ∧ w.frozen? ⟨g, o + k, none⟩ = false := by
 obtain ⟨_, a, c, rfl, h1, h2, h3, h4, h5⟩ := h
 rcases h5 with rfl | ⟨g, o, rfl, h6⟩
 ·simp at hx
 ·exact ⟨g, o, c, rfl, h1, (h6 k x hx).1, (h6 k x hx).2⟩
theorem Row.some {w : World} {e : TypeId} {sz n : Nat} {v : Value} {xs : List Value} (h : Row w e sz v n xs) (hne : xs ≠ []) :
  ∃ g o c : Nat, v = .slice (Option.some ⟨g, o, none⟩) n c ∧ g < w.heap.size ∧ n ≤ c ∧ c ≤ maxLen ∧ Tag w g e ∧ ∀ j x, xs[j]? = Option.some x → w.cell? ⟨g, o + j, none⟩ = Option.some x ∧ w.frozen? ⟨g, o + j, none⟩ = false := by
 obtain ⟨_, a, c, rfl, h1, h2, h3, h4, h5⟩ := h
 rcases h5 with rfl | ⟨g, o, rfl, h6⟩
 ·exact absurd rfl hne
 ·exact ⟨g, o, c, rfl, (h4 g rfl).lt, h1, h2, h4 g rfl, h6⟩
theorem Row.own {w : World} {e : TypeId} {n : Nat} {v : Value} {xs : List Value} (h : Row w e 1 v n xs) : Own w 0 v xs := by
 obtain ⟨h0, a, c, rfl, h1, h2, h3, h4, h5⟩ := h
 have hn : n = xs.length := by omega
 subst hn
 exact ⟨a, c, rfl, h1, h2, h3, h5.imp id (fun ⟨g, o, ha, h6⟩ => ⟨g, o, ha, Nat.zero_le _, h6⟩)⟩
theorem owns_grow {w w' : World} {M : Nat → Prop} {B : Nat} {e : TypeId} {sz n : Nat} {v : Value} {xs : List Value} (h : w.ownsRow B e sz v n xs) (hc : Chg M w w') (hM : ∀ g, v.ownBlock = some g → ¬ M g) : w'.ownsRow B e sz v n xs := by
 refine ⟨h.1, ?_⟩
 rcases h.2 with hn | ⟨g, cap, cur, rfl, hb, hgg, rest⟩
 ·exact .inl hn
 ·exact .inr ⟨g, cap, cur, rfl, hb, hc.obj hgg (hM g rfl), rest⟩
theorem owns_tag {w : World} {B : Nat} {e : TypeId} {sz n : Nat} {v : Value} {xs : List Value} (h : w.ownsRow B e sz v n xs) {g : Nat} (hg : v.ownBlock = some g) : Tag w g e := (Row.of_owns h).tag hg
def BRow (w : World) (bv : Value) (bl : List UInt8) : Prop :=
 ∃ (a : Option Addr) (c : Nat), bv = .slice a bl.length c ∧ bl.length ≤ c ∧ c ≤ maxLen ∧ (a = none → c = 0) ∧ (bl = [] ∨ ∃ g o : Nat, a = some ⟨g, o, none⟩ ∧ g < w.heap.size ∧ ∀ j x, bl[j]? = some x → w.cell? ⟨g, o + j, none⟩ = some (u8v x))
theorem BRow.len {w : World} {bv : Value} {bl : List UInt8} (h : BRow w bv bl) : ∃ a c, bv = .slice a bl.length c := by
 obtain ⟨a, c, rfl, _⟩ := h
 exact ⟨a, c, rfl⟩
theorem BRow.at {w : World} {bv : Value} {bl : List UInt8} (h : BRow w bv bl) {k : Nat} {x : UInt8} (hx : bl[k]? = some x) : ∃ g o c : Nat, bv = .slice (some ⟨g, o, none⟩) bl.length c ∧ bl.length ≤ c ∧ w.cell? ⟨g, o + k, none⟩ = some (u8v x) := by
 obtain ⟨a, c, rfl, h1, h2, h3, h4⟩ := h
 rcases h4 with rfl | ⟨g, o, rfl, _, h5⟩
 ·simp at hx
 ·exact ⟨g, o, c, rfl, h1, h5 k x hx⟩
theorem BRow.get {w : World} {bv : Value} {bl : List UInt8} (h : BRow w bv bl) (hne : bl ≠ []) : ∃ g o c : Nat, bv = .slice (Option.some ⟨g, o, none⟩) bl.length c ∧ g < w.heap.size ∧ bl.length ≤ c ∧ c ≤ maxLen ∧ ∀ j x, bl[j]? = Option.some x → w.cell? ⟨g, o + j, none⟩ = Option.some (u8v x) := by
 obtain ⟨a, c, rfl, h1, h2, h3, h4⟩ := h
 rcases h4 with rfl | ⟨g, o, rfl, hg, h5⟩
 ·exact absurd rfl hne
 ·exact ⟨g, o, c, rfl, hg, h1, h2, h5⟩
theorem BRow.kept {M : Nat → Prop} {w w' : World} {bv : Value} {bl : List UInt8} (h : BRow w bv bl) (hc : Chg M w w') (hM : bl ≠ [] → ∀ g, bv.ownBlock = some g → ¬ M g) : BRow w' bv bl := by
 obtain ⟨a, c, rfl, h1, h2, h3, h4⟩ := h
 refine ⟨a, c, rfl, h1, h2, h3, h4.imp id ?_⟩
 rintro ⟨g, o, rfl, hg, h5⟩
 exact ⟨g, o, rfl, Nat.lt_of_lt_of_le hg hc.size, fun j x hx => hc.cell (h5 j x hx) (hM (by rintro rfl; simp at hx) g rfl)⟩
theorem BRow.below {w w' : World} {bv : Value} {bl : List UInt8} (h : BRow w bv bl) (hb : Below w.heap.size w w') : BRow w' bv bl :=
 h.kept (M := fun _ => False) (Chg.of_below hb) (fun _ _ _ h => h)
theorem BRow.blk {w : World} {bv : Value} {bl : List UInt8} (h : BRow w bv bl) (hne : bl ≠ []) {g : Nat} (hg : bv.ownBlock = some g) : g < w.heap.size := by
 obtain ⟨g', o, c, rfl, hg', _⟩ := h.get hne
 obtain rfl : g' = g := by simpa [Value.ownBlock] using hg
 exact hg'
theorem Row.bytes {w : World} {bv : Value} {bl : List UInt8} (h : Row w 5 1 bv bl.length (bl.map u8v)) : BRow w bv bl := by
 obtain ⟨h0, a, c, rfl, h1, h2, h3, h4, h5⟩ := h
 refine ⟨a, c, rfl, h1, h2, h3, ?_⟩
 rcases h5 with h5 | ⟨g, o, rfl, h6⟩
 ·exact .inl (by simpa using h5)
 ·exact .inr ⟨g, o, rfl, (h4 g rfl).lt, fun j x hx => (h6 j (u8v x) (by rw [List.getElem?_map, hx]; rfl)).1⟩
def Turns (B : Nat) (I : World → Prop) : Prop := ∀ (W : World) (l : Nat) (o o' : Obj), B ≤ l → W.heap[l]? = some o → o.isCells = false → o'.isCells = false → I W → I (W.putObj l o')
def stPost (n₀ : Nat) (B : World → Prop) (X : Code → World → Prop) (W : World) : Exit → Act → World → Prop
 | .normal, _, W' => KeepsFrom n₀ W W' ∧ B W'
 | .ret, _, W' => KeepsFrom n₀ W W' ∧ X .ret W'
 | .exit id, _, W' => KeepsFrom n₀ W W' ∧ X (.exit id) W'
 | .goto t, _, W' => KeepsFrom n₀ W W' ∧ X (.goto t) W'
 | .panic _, _, _ => False
 | .outgrown, _, _ => False
theorem wpIn_rangeFunc_st {σ : Type} {F : Fence} {n : Nat} {P : Program} {g : Operand} {ps : Array Tmp} {assign body : Code} {Q : Exit → Act → World → Prop} {a : Act} {w : World}
  (hro : F.round = none) (h1 : 1 ≤ n) {gf : Nat} {lb : Array Value} (hg : a.eval g = .func (.func gf) #[] lb) (hFg : F.fn gf) (eg : ∀ args w, (callFunc gf args).run P w = .ok (.enter gf args) w)
  (encs : σ → Array Value) (hps : ∀ s, (encs s).size = ps.size)
  (I0 E : World → Prop) (A B : σ → World → Prop) (X : σ → Code → World → Prop)
  (_hA : ∀ s, Turns w.heap.size (A s)) (hB : ∀ s, Turns w.heap.size (B s)) (hX : ∀ s c, Turns w.heap.size (X s c)) (hE : Turns w.heap.size E)
  (h0 : ∀ o1 o2, I0 ((w.alloc o1).alloc o2))
  (hiter : ∀ (l : Nat) (K : World → Prop) (Kd : Code → World → Prop), (∀ W W', KeepsFrom w.heap.size W W' → K W → K W') → (∀ c W W', KeepsFrom w.heap.size W W' → Kd c W → Kd c W') →
   (∀ s W, A s W → K W → YieldAt F (n - 1 - 1) P l (encs s) W fun e W' => (e = .returned (.bool true) ∧ B s W' ∧ K W') ∨ (e = .returned (.bool false) ∧ ∃ c, X s c W' ∧ Kd c W')) →
   ∀ W, I0 W → K W → CallsIn F (n - 1) P gf (#[.func (.yield l) #[] #[]] ++ lb) W fun e W' => (∃ v, e = .returned v) ∧ ((E W' ∧ K W') ∨ ∃ s c, X s c W' ∧ Kd c W'))
  (Ax : σ → Act → World → Prop) (hAx : ∀ s a', Turns w.heap.size (Ax s a'))
  (hassign : ∀ (l : Nat) (s : σ) (W : World) (K : Act → World → Prop), A s W → (∀ a' W', KeepsFrom w.heap.size W W' → Ax s a' W' → K a' W') →
   assign.wpIn (F.inRound l) (n - 1 - 1) P (Exit.then K (fun _ _ _ => False)) { tmps := (ps.zip (encs s)).foldl (fun t (p, v) => t.setIfInBounds p v) a.tmps, defers := [] } W)
  (hbody : ∀ (l : Nat) (s : σ) (a' : Act) (W : World), Ax s a' W → body.wpIn (F.inRound l) (n - 1 - 1) P (stPost w.heap.size (B s) (X s) W) a' W)
  (hdone : ∀ (D : Nat) (W : World), w.heap.size ≤ D → E W → W.heap[D]? = some (.deferred (some [])) → Q .normal { a with defers := { target := .collected D, args := #[] } :: a.defers } W)
  (hstop : ∀ (D : Nat) (s : σ) (c : Code) (W : World), w.heap.size ≤ D → X s c W → W.heap[D]? = some (.deferred (some [])) → c.wpIn F n P Q { a with defers := { target := .collected D, args := #[] } :: a.defers } W) :
  (Code.rangeFunc g ps assign body).wpIn F n P Q a w := by
 refine wpIn_rangeFunc ?_
 intro fn hfn
 rw [hro]
 obtain ⟨rec, hrec⟩ : ∃ rec : LoopState → Option Code → Loop, rec = fun st pe => { state := st, pending := pe, fn, tmps := a.tmps, params := ps, assign, body, defers := w.heap.size } := ⟨_, rfl⟩
 obtain ⟨W1, hW1⟩ : ∃ W1, (w.alloc (.deferred (some []))).alloc (.loop (rec .ready none)) = W1 := ⟨_, rfl⟩
 have hL1 : W1.heap[w.heap.size + 1]? = some (.loop (rec .ready none)) := by
  rw [← hW1]; have := World.alloc_heap_new (w.alloc (.deferred (some []))) (.loop (rec .ready none)); rwa [World.size_alloc] at this
 have hK1 : W1.heap[w.heap.size]? = some (.deferred (some [])) := by
  rw [← hW1]; exact (Below.heap_alloc _ _ _ (by simp)).trans (World.alloc_heap_new w _)
 have hI1 : I0 W1 := by rw [← hW1]; exact h0 _ _
 refine ⟨w.heap.size + 1, [{ target := .collected w.heap.size, args := #[] }], W1, { target := .fn (.func gf) lb, args := #[.func (.yield (w.heap.size + 1)) #[] #[]] }, W1, gf,
  #[.func (.yield (w.heap.size + 1)) #[] #[]] ++ lb, W1, ?_, ?_, ?_, ?_, fun _ => h1, ?_⟩
 ·rw [← hW1, hrec]; exact run_enterLoop_outer _ _ _ _ _
 ·simp only [resolve, hg]
  simp [go_sem]
 ·intro f' hf'; simp [Target.leads] at hf'; subst hf'; exact hFg
 ·simp [invoke, go_sem, eg]
 ·have hkeep : ∀ (o1 o2 : Obj), o1.isCells = false → o2.isCells = false → ∀ W W', KeepsFrom w.heap.size W W' → (W.heap[w.heap.size + 1]? = some o1 ∧ W.heap[w.heap.size]? = some o2) → (W'.heap[w.heap.size + 1]? = some o1 ∧ W'.heap[w.heap.size]? = some o2) :=
   fun o1 o2 h1 h2 W W' hk h => ⟨hk.same _ _ (by omega) h.1 h1, hk.same _ _ (Nat.le_refl _) h.2 h2⟩
  refine (hiter (w.heap.size + 1)
   (fun W => W.heap[w.heap.size + 1]? = some (.loop (rec .ready none)) ∧ W.heap[w.heap.size]? = some (.deferred (some [])))
   (fun c W => W.heap[w.heap.size + 1]? = some (.loop (rec .done (some c))) ∧ W.heap[w.heap.size]? = some (.deferred (some [])))
   (hkeep _ _ rfl rfl)
   (fun c => hkeep _ _ rfl rfl)
   ?_ W1 hI1 ⟨hL1, hK1⟩).mono ?_
  ·rintro s W hi ⟨hl, hk⟩
   have hlt : w.heap.size + 1 < W.heap.size := (Array.getElem?_eq_some_iff.1 hl).1
   have hy := run_yield (P := P) (args := encs s) hl (by rw [hrec]; exact hps s)
   rw [hrec] at hy
   refine ⟨fn, _, assign, body, hy, roundIn_of_wpIn hfn (hassign _ s W _ hi ?_)⟩
   clear hy
   intro a' Wa hkfa hax
   replace hl := hkfa.same _ _ (by omega) hl rfl
   replace hk := hkfa.same _ _ (Nat.le_refl _) hk rfl
   replace hlt : w.heap.size + 1 < Wa.heap.size := (Array.getElem?_eq_some_iff.1 hl).1
   refine ⟨_, run_beginRound hl (by rw [hrec]), ?_⟩
   have hl2 : (Wa.putObj (w.heap.size + 1) (.loop { rec .ready none with state := .busy })).heap[w.heap.size + 1]? = some (.loop { rec .ready none with state := .busy }) := World.putObj_heap_same hlt
   have hk2 : (Wa.putObj (w.heap.size + 1) (.loop { rec .ready none with state := .busy })).heap[w.heap.size]? = some (.deferred (some [])) := (World.putObj_heap_other (by omega)).trans hk
   refine wpIn_mono (hbody _ s a' _ (hAx s a' Wa _ _ _ (by omega) hl rfl rfl hax)) ?_
   have fin : ∀ (jump : Option Code) (W3 : World), KeepsFrom w.heap.size (Wa.putObj (w.heap.size + 1) (.loop { rec .ready none with state := .busy })) W3 →
     (Instr.endRound (w.heap.size + 1) jump).run P W3 = .ok (.bool jump.isNone) (W3.putObj (w.heap.size + 1) (.loop (rec (if jump.isNone then .ready else .done) jump))) ∧
     W3.heap[w.heap.size + 1]? = some (.loop { rec .ready none with state := .busy }) ∧
     (W3.putObj (w.heap.size + 1) (.loop (rec (if jump.isNone then .ready else .done) jump))).heap[w.heap.size + 1]? = some (.loop (rec (if jump.isNone then .ready else .done) jump)) ∧
     (W3.putObj (w.heap.size + 1) (.loop (rec (if jump.isNone then .ready else .done) jump))).heap[w.heap.size]? = some (.deferred (some [])) := fun jump W3 hk3 => by
    have hl3 := hk3.same _ _ (by omega) hl2 rfl
    have := run_endRound (P := P) jump hl3
    rw [hrec] at this ⊢
    exact ⟨this, by rw [hrec] at hl3; exact hl3, World.putObj_heap_same (Array.getElem?_eq_some_iff.1 hl3).1, (World.putObj_heap_other (by omega)).trans (hk3.same _ _ (Nat.le_refl _) hk2 rfl)⟩
   rintro e a3 W3 hp
   cases e with
   | normal =>
    obtain ⟨hk3, hi3⟩ := hp
    obtain ⟨hr, hl3, hl4, hk4⟩ := fin none W3 hk3
    exact ⟨_, _, hr, .inl ⟨rfl, hB s W3 _ _ _ (by omega) hl3 rfl rfl hi3, hl4, hk4⟩⟩
   | ret =>
    obtain ⟨hk3, hi3⟩ := hp
    obtain ⟨hr, hl3, hl4, hk4⟩ := fin (some .ret) W3 hk3
    exact ⟨_, _, hr, .inr ⟨rfl, .ret, hX s _ W3 _ _ _ (by omega) hl3 rfl rfl hi3, hl4, hk4⟩⟩
   | exit id =>
    obtain ⟨hk3, hi3⟩ := hp
    obtain ⟨hr, hl3, hl4, hk4⟩ := fin (some (.exit id)) W3 hk3
    exact ⟨_, _, hr, .inr ⟨rfl, (.exit id), hX s _ W3 _ _ _ (by omega) hl3 rfl rfl hi3, hl4, hk4⟩⟩
   | goto t =>
    obtain ⟨hk3, hi3⟩ := hp
    obtain ⟨hr, hl3, hl4, hk4⟩ := fin (some (.goto t)) W3 hk3
    exact ⟨_, _, hr, .inr ⟨rfl, (.goto t), hX s _ W3 _ _ _ (by omega) hl3 rfl rfl hi3, hl4, hk4⟩⟩
   | panic ch => exact hp.elim
   | outgrown => exact hp.elim
  ·rintro e W2 ⟨⟨v, rfl⟩, (⟨hi, hl, hk⟩ | ⟨s, c, hx, hl, hk⟩)⟩
   ·exact ⟨none, _, by have := run_endLoop (P := P) hl (by rw [hrec]; simp); rw [hrec] at this; exact this, hdone _ _ (Nat.le_refl _) (hE W2 _ _ _ (by omega) hl rfl rfl hi) ((World.putObj_heap_other (by omega)).trans hk)⟩
   ·exact ⟨some c, _, by have := run_endLoop (P := P) hl (by rw [hrec]; simp); rw [hrec] at this; exact this, hstop _ s c _ (Nat.le_refl _) (hX s c W2 _ _ _ (by omega) hl rfl rfl hx) ((World.putObj_heap_other (by omega)).trans hk)⟩
structure CallD where
 verb : Int
 key : ByteArray
 value : ByteArray
 flags : Int
 exp : Int
 id : Int
 by' : Int
structure CmdD where
 verb : Int
 ka : Option Addr
 kn : Nat
 kc : Nat
 call : CallD
 bytes : Int
 quiet : Bool
structure ItemD where
 key : ByteArray
 value : ByteArray
 flags : Int
 id : Int
 dies : Int
 gen : Int
structure AnsD where
 kind : Int
 number : Int
 item : ItemD
abbrev CallD.cells (c : CallD) : List Value := [.int .u8 c.verb, .string c.key, .string c.value, .int .u32 c.flags, .int .i64 c.exp, .int .u64 c.id, .int .u64 c.by']
abbrev CmdD.val (c : CmdD) : Value := .agg #[.int .u8 c.verb, .slice c.ka c.kn c.kc, .int .u8 c.call.verb, .string c.call.key, .string c.call.value, .int .u32 c.call.flags, .int .i64 c.call.exp, .int .u64 c.call.id, .int .u64 c.call.by', .int .i64 c.bytes, .bool c.quiet]
abbrev ItemD.cells (x : ItemD) : List Value := [.string x.key, .string x.value, .int .u32 x.flags, .int .u64 x.id, .int .i64 x.dies, .int .i64 x.gen]
abbrev AnsD.val (a : AnsD) : Value := .agg #[.int .u8 a.kind, .int .u64 a.number, .string a.item.key, .string a.item.value, .int .u32 a.item.flags, .int .u64 a.item.id, .int .i64 a.item.dies, .int .i64 a.item.gen]
abbrev CmdD.keys (c : CmdD) : Value := .slice c.ka c.kn c.kc
structure CallD.Ok (c : CallD) : Prop where
 verb : 0 ≤ c.verb ∧ c.verb ≤ 255
 key : c.key.size ≤ maxLen
 value : c.value.size ≤ maxLen
 flags : 0 ≤ c.flags ∧ c.flags ≤ 4294967295
 id : 0 ≤ c.id ∧ c.id ≤ 18446744073709551615
 by' : 0 ≤ c.by' ∧ c.by' ≤ 18446744073709551615
structure ItemD.Ok (x : ItemD) : Prop where
 key : x.key.size ≤ maxLen
 value : x.value.size ≤ maxLen
 flags : 0 ≤ x.flags ∧ x.flags ≤ 4294967295
 id : 0 ≤ x.id ∧ x.id ≤ 18446744073709551615
structure AnsD.Ok (a : AnsD) : Prop where
 kind : 0 ≤ a.kind ∧ a.kind ≤ 255
 number : 0 ≤ a.number ∧ a.number ≤ 18446744073709551615
 item : a.item.Ok
open Go Go.RowKit
section
variable {P : Program} {ops : Array Oper} {Q : Exit → Act → World → Prop} {md : Region.Mode} {S S' : World → Prop} {k : Nat}
theorem set_listed {l : Array Bool} {j : Nat} (h : l.getD j true = false) : (l.setIfInBounds j true).getD j true = true := by
 rcases Nat.lt_or_ge j l.size with h' | h'
 ·simp [h']
 ·simp [Array.getElem?_eq_none h'] at h
def Late (P : Program) (md : Region.Mode) (ops : Array Oper) (Q : Exit → Act → World → Prop) (k : Nat) (S : World → Prop) : Nat → Array Bool → Act → World → Prop
 | 0, l, a, w => Region.ready md ops l = [] ∧ Q .normal a w
 | m + 1, l, a, w => (Region.ready md ops l = [] → Q .normal a w) ∧
  ∀ i ∈ Region.ready md ops l, wpOp P ops Q i (fun a' w' => (l.getD k true = false → i ≠ k → S w') ∧ Late P md ops Q k S m (l.setIfInBounds i true) a' w') a w
theorem late_any : ∀ (m : Nat) (l : Array Bool) (a : Act) (w : World), Late P md ops Q k S m l a w → wpAny P md ops Q m l a w
 | 0, _, _, _, h => h
 | m + 1, _, _, _, h => ⟨h.1, fun i hi => wpOp_mono (fun a' w' h' => late_any m _ a' w' h'.2) (h.2 i hi)⟩
theorem late_first {i : Nat} {oi : Oper} {v : Value} (hi : ops[i]? = some oi) (hsel : ∀ (j : Nat) (o : Oper) cs b, ops[j]? = some o → o.op ≠ .select cs b)
  (hQ : ∀ c a w, Q (.panic c) (a.put oi.dst v) w → Q (.panic c) a w) (hik : i ≠ k) (hS' : (∀ w, S' w) ∨ (∀ w, S w → S' w) ∧ ∃ ok, ops[k]? = some ok ∧ ∃ e ∈ ok.after, Region.binds md e = true ∧ e.on = i) :
  ∀ (m : Nat) (l : Array Bool) (a : Act) (w : World),
   (∀ j oj, ops[j]? = some oj → j ≠ i → l.getD j true = false → (∀ e ∈ oj.after, Region.binds md e = true → e.on ≠ i) → oi.apart ops oj = true) →
   i ∈ Region.ready md ops l → YieldsIf P ops S' oi v a → S' w → (l.getD k true = false → S w) → ((∀ w, S' w) ∨ l.getD k true = false) →
   Late P md ops Q k S m (l.setIfInBounds i true) (a.put oi.dst v) w → Late P md ops Q k S (m + 1) l a w := by
 intro m
 have hget : ∀ l : Array Bool, (l.setIfInBounds i true).getD k true = l.getD k true := fun l => getD_set_ne true hik
 induction m with
 | zero =>
  intro l a w _ hr hy hS hSk _ H
  refine ⟨fun h => (by rw [h] at hr; cases hr), fun j hj => ?_⟩
  by_cases hji : j = i
  ·subst hji; exact hy.wpOp hi hS ⟨fun h _ => hSk h, H⟩
  ·have := ready_mono hj hji
   rw [H.1] at this
   cases this
 | succ m ih =>
  intro l a w hfree hr hy hS hSk hinv H
  refine ⟨fun h => (by rw [h] at hr; cases hr), fun j hj => ?_⟩
  by_cases hji : j = i
  ·subst hji; exact hy.wpOp hi hS ⟨fun h _ => hSk h, H⟩
  ·have h1 := H.2 j (ready_mono hj hji)
   obtain ⟨hjun, oj, hoj, hall⟩ := mem_ready.1 hj
   have hun : l.getD i true = false := (mem_ready.1 hr).1
   have hnot : ∀ e ∈ oj.after, Region.binds md e = true → e.on ≠ i := fun e he hb heq => by
    have h1 := hall e he hb
    rw [heq] at h1
    rcases Nat.lt_or_ge i l.size with h' | h'
    ·simp [h'] at hun h1; rw [hun] at h1; cases h1
    ·simp [Array.getElem?_eq_none h'] at h1
   have h2 := wpOp_putIf hoj (hfree j oj hoj hji hjun hnot) (fun cs b => hsel i oi cs b hi) (fun cs b => hsel j oj cs b hoj) hQ hy h1
   have hfree' : ∀ k ok, ops[k]? = some ok → k ≠ i → (l.setIfInBounds j true).getD k true = false →
     (∀ e ∈ ok.after, Region.binds md e = true → e.on ≠ i) → oi.apart ops ok = true := fun k ok hk hki hun hno => by
    refine hfree k ok hk hki ?_ hno
    by_cases hjk : j = k
    ·subst hjk; exact hjun
    ·rw [getD_set_ne true hjk] at hun; exact hun
   refine wpOp_mono (fun a' w' h3 => ?_) h2
   obtain ⟨hy2, hs2, hL⟩ := h3
   rw [hget l] at hs2
   refine ⟨hs2, ?_⟩
   have hL2 : Late P md ops Q k S m ((l.setIfInBounds j true).setIfInBounds i true) (a'.put oi.dst v) w' := by
    rw [Array.setIfInBounds_comm _ _ hji]
    exact hL
   have way1 : (∀ w, S' w) → Late P md ops Q k S (m + 1) (l.setIfInBounds j true) a' w' := fun hall' => by
    refine ih (l.setIfInBounds j true) a' w' hfree' (ready_mono hr (Ne.symm hji)) hy2 (hall' _) (fun hk2 => ?_) (.inl hall') hL2
    by_cases hjk : j = k
    ·subst hjk
     rw [set_listed hjun] at hk2
     cases hk2
    ·rw [getD_set_ne true hjk] at hk2
     exact hs2 hk2 hjk
   rcases hinv with hall' | hk0
   ·exact way1 hall'
   ·rcases hS' with hall' | ⟨hsub, ok, hok, e, he, hb, heq⟩
    ·exact way1 hall'
    ·have hjk : j ≠ k := fun e2 => by
      subst e2
      rw [hok] at hoj
      cases Option.some.inj hoj
      exact hnot e he hb heq
     have hk1 : (l.setIfInBounds j true).getD k true = false := by rw [getD_set_ne true hjk]; exact hk0
     exact ih (l.setIfInBounds j true) a' w' hfree' (ready_mono hr (Ne.symm hji)) hy2 (hsub _ (hs2 hk0 hjk)) (fun _ => hs2 hk0 hjk) (.inr hk1) hL2
theorem late_take {i : Nat} {oi : Oper} {v : Value} {m : Nat} {l : Array Bool} {a : Act} {w : World} (hi : ops[i]? = some oi)
  (hs : Region.noSelect ops = true) (hf : Region.free md ops l i = true) (hr : (Region.ready md ops l).contains i = true)
  (hQ : ∀ c a w, Q (.panic c) (a.put oi.dst v) w → Q (.panic c) a w) (hik : i ≠ k) (hy : YieldsIf P ops (fun _ => True) oi v a) (hS : l.getD k true = false → S w)
  (h : Late P md ops Q k S m (l.setIfInBounds i true) (a.put oi.dst v) w) : Late P md ops Q k S (m + 1) l a w :=
 late_first hi (Region.noSelect_spec hs) hQ hik (.inl fun _ => trivial) m l a w (Region.free_spec hi hf) (by simpa using hr) hy trivial hS (.inl fun _ => trivial) h
theorem ltz {oi : Oper} {v : Value} {m : Nat} {l : Array Bool} {a : Act} {w : World} (i : Nat) (hi : ops[i]? = some oi) (hS : l.getD k true = false → S w)
  (h : Late P md ops Q k S m (l.setIfInBounds i true) (a.put oi.dst v) w)
  (hs : Region.noSelect ops = true := by kernel_rfl) (hf : Region.free md ops l i = true := by kernel_rfl) (hr : (Region.ready md ops l).contains i = true := by kernel_rfl)
  (hQ : ∀ c a w, Q (.panic c) (a.put oi.dst v) w → Q (.panic c) a w := by exact fun _ _ _ h => h) (hik : i ≠ k := by decide) (hw : Region.wanted oi (yielded ops a.tmps) = true := by rfl)
  (hy : ∀ w, True → (execOp a.eval oi).run P w = .ok (.value v) w := by ((intro w _; go_simp) <;> with_reducible rfl)) : Late P md ops Q k S (m + 1) l a w :=
 late_take hi hs hf hr hQ hik (Or.inl ⟨hw, hy⟩) hS h
theorem late_read {i : Nat} {oi ok : Oper} {v : Value} {m : Nat} {l : Array Bool} {a : Act} {w : World} (hi : ops[i]? = some oi)
  (hs : Region.noSelect ops = true) (hf : Region.free md ops l i = true) (hr : (Region.ready md ops l).contains i = true)
  (hQ : ∀ c a w, Q (.panic c) (a.put oi.dst v) w → Q (.panic c) a w) (hik : i ≠ k) (hok : ops[k]? = some ok) (hed : ok.after.any (fun e => Region.binds md e && e.on == i) = true)
  (hy : YieldsIf P ops S oi v a) (hS : S w) (hlk : l.getD k true = false)
  (h : Late P md ops Q k S m (l.setIfInBounds i true) (a.put oi.dst v) w) : Late P md ops Q k S (m + 1) l a w := by
 obtain ⟨e, he, h2⟩ := Array.any_eq_true'.1 hed
 rw [Bool.and_eq_true, beq_iff_eq] at h2
 exact late_first hi (Region.noSelect_spec hs) hQ hik (.inr ⟨fun _ h => h, ok, hok, e, he, h2⟩) m l a w (Region.free_spec hi hf) (by simpa using hr) hy hS (fun _ => hS) (.inr hlk) h
theorem late_one {i : Nat} {oi : Oper} {m : Nat} {l : Array Bool} {a : Act} {w : World} (hr : Region.ready md ops l = [i]) (hi : ops[i]? = some oi)
  (h : ∀ K' : Act → World → Prop, Shut (∀ a w, (l.getD k true = false → i ≠ k → S w) → Late P md ops Q k S m (l.setIfInBounds i true) a w → K' a w) → if Region.wanted oi (yielded ops a.tmps) = true then Oper.wp P oi a w K' Q else K' (a.put oi.dst undef) w) : Late P md ops Q k S (m + 1) l a w := by
 refine ⟨fun h0 => absurd (hr ▸ h0) (by simp), fun j hj => ?_⟩
 rw [hr, List.mem_singleton] at hj
 subst hj
 exact wpOp_step hi (fun K' hK => h K' (fun a w hS hW => hK a w ⟨hS, hW⟩))
theorem late_done {m : Nat} {l : Array Bool} {a : Act} {w : World} (hr : Region.ready md ops l = []) (h : Q .normal a w) : Late P md ops Q k S m l a w := by
 cases m with
 | zero => exact ⟨hr, h⟩
 | succ m => exact ⟨fun _ => h, by rw [hr]; simp⟩
theorem wp_region_late (k : Nat) (S : World → Prop) {id : Nat} {a : Act} {w : World} (hm : P.follows .mixedOrders = true) (hS : S w.drew)
  (h : S w.drew → Late P .any ops Q k S ops.size (Array.replicate ops.size false) a w.drew) : (Code.region id ops true).wp P Q a w :=
 wp_region_any hm (late_any _ _ _ _ (h hS))
end
open Go.RowKit Go.ChangeMaps Go.MapKept
theorem mid_cell0 {w : World} {p : Nat} {cs : Array Value} {t : TypeId} (h : w.heap[p]? = some (.cells cs t (0, 0))) (j : Nat) : w.cell? ⟨p, j, none⟩ = cs[j]? ∧ w.frozen? ⟨p, j, none⟩ = false := by
 constructor
 ·simp [World.cell?, h]
 ·simp [World.frozen?, h]
theorem setCells_grownM : ∀ (vs : List Value) (o : Nat) (w : World) (b : Nat), w.grownBy (w.setCells b o vs) (some b) ∧ (w.setCells b o vs).heap.size = w.heap.size
 | [], _, w, _ => ⟨World.grownBy.refl _ _, rfl⟩
 | v :: r, o, w, b => by
  obtain ⟨h1, h2⟩ := setCells_grownM r (o + 1) (w.setCell ⟨b, o, none⟩ v) b
  have h0 : w.grownBy (w.setCell ⟨b, o, none⟩ v) (some b) := ⟨rfl, rfl, rfl, by simp, fun k _ hk => Below.heap_setCell w ⟨b, o, none⟩ v k (fun e => hk (by rw [e]))⟩
  refine ⟨⟨h1.os.trans h0.os, h1.tape.trans h0.tape, h1.output.trans h0.output, Nat.le_trans h0.size h1.size, fun k hk hne => (h1.block k (Nat.lt_of_lt_of_le hk h0.size) hne).trans (h0.block k hk hne)⟩, ?_⟩
  show ((w.setCell ⟨b, o, none⟩ v).setCells b (o + 1) r).heap.size = _
  rw [h2]; simp
theorem setCells_listM : ∀ (vs A old C : List Value) (w : World) (b : Nat) (t : TypeId), w.heap[b]? = some (.cells (A ++ old ++ C).toArray t (0, 0)) → old.length = vs.length →
  (w.setCells b A.length vs).heap[b]? = some (.cells (A ++ vs ++ C).toArray t (0, 0))
 | [], A, old, C, w, b, t, h, hl => by
  obtain rfl : old = [] := List.eq_nil_of_length_eq_zero (by simpa using hl)
  exact h
 | v :: vs, A, [], C, w, b, t, h, hl => by simp at hl
 | v :: vs, A, u :: old, C, w, b, t, h, hl => by
  have h1 := heap_setCell_same w b A.length _ t v h
  have h2 : (A ++ u :: old ++ C).toArray.setIfInBounds A.length v = ((A ++ [v]) ++ old ++ C).toArray := by
   rw [List.setIfInBounds_toArray]
   congr 1
   simp
  rw [h2] at h1
  have h3 := setCells_listM vs (A ++ [v]) old C (w.setCell ⟨b, A.length, none⟩ v) b t h1 (by simpa using hl)
  rw [List.length_append] at h3
  show ((w.setCell ⟨b, A.length, none⟩ v).setCells b (A.length + 1) vs).heap[b]? = _
  rw [show A ++ v :: vs ++ C = A ++ [v] ++ vs ++ C from by simp]
  exact h3
def MidRow (w : World) (base : Nat) (e : TypeId) (size : Nat) (v : Value) (n : Nat) (xs : List Value) : Prop :=
 xs.length = n * size ∧ (v = .slice none 0 0 ∧ n = 0 ∨ ∃ g o cap cur, v = .slice (some ⟨g, o, none⟩) n cap ∧ base ≤ g ∧ w.heap[g]? = some (.cells cur e (0, 0)) ∧ n ≤ cap ∧ cap ≤ maxLen ∧ o + cap * size ≤ cur.size ∧ (cur.toList.drop o).take (n * size) = xs)
theorem MidRow.nil (w : World) (base : Nat) (e : TypeId) (size : Nat) : MidRow w base e size (.slice none 0 0) 0 [] := ⟨by simp, .inl ⟨rfl, rfl⟩⟩
theorem MidRow.tag {w : World} {base : Nat} {e : TypeId} {size : Nat} {v : Value} {n : Nat} {xs : List Value} (h : MidRow w base e size v n xs) {g : Nat} (hg : v.ownBlock = some g) : Tag w g e ∧ base ≤ g := by
 obtain ⟨-, ⟨rfl, -⟩ | ⟨g', o, cap, cur, rfl, h4, h5, -⟩⟩ := h
 ·simp [Value.ownBlock] at hg
 ·obtain rfl : g' = g := by simpa [Value.ownBlock] using hg
  exact ⟨Tag.of h5, h4⟩
theorem MidRow.kept {w w' : World} {base : Nat} {e : TypeId} {size : Nat} {v : Value} {n : Nat} {xs : List Value} (h : MidRow w base e size v n xs) {M : Nat → Prop} (hc : Chg M w w') (hM : ∀ g, v.ownBlock = some g → ¬ M g) : MidRow w' base e size v n xs := by
 obtain ⟨h1, h2 | ⟨g, o, cap, cur, rfl, h4, h5, h6⟩⟩ := h
 ·exact ⟨h1, .inl h2⟩
 ·exact ⟨h1, .inr ⟨g, o, cap, cur, rfl, h4, hc.obj h5 (fun e => hM g rfl e), h6⟩⟩
theorem MidRow.cell {w : World} {base : Nat} {e : TypeId} {size : Nat} {g o n cap : Nat} {xs : List Value} (h : MidRow w base e size (.slice (some ⟨g, o, none⟩) n cap) n xs) {j : Nat} {u : Value} (hj : xs[j]? = some u) : w.cell? ⟨g, o + j, none⟩ = some u := by
 obtain ⟨h1, ⟨h2, -⟩ | ⟨g', o', cap', cur, h3, h4, h5, h6, h7, h8, h9⟩⟩ := h
 ·cases h2
 ·obtain ⟨rfl, rfl⟩ : g = g' ∧ o = o' := by simpa using (Value.slice.inj h3).1
  rw [(mid_cell0 h5 (o + j)).1]
  rw [← h9] at hj
  have hlt : j < n * size := by
   have := (List.getElem?_eq_some_iff.1 hj).1
   rw [List.length_take] at this
   omega
  rw [List.getElem?_take_of_lt hlt, List.getElem?_drop] at hj
  rw [← Array.getElem?_toList]
  exact hj
theorem MidRow.row {w : World} {base : Nat} {e : TypeId} {size : Nat} {v : Value} {n : Nat} {xs : List Value} (h : MidRow w base e size v n xs) : Row w e size v n xs := by
 have h0 := h
 obtain ⟨h1, ⟨rfl, rfl⟩ | ⟨g, o, cap, cur, rfl, h4, h5, h6, h7, h8, h9⟩⟩ := h
 ·obtain rfl : xs = [] := List.eq_nil_of_length_eq_zero (by omega)
  exact Row.nil w e size
 ·exact ⟨h1, _, cap, rfl, h6, h7, (fun h => by cases h), (fun g' hg' => (h0.tag hg').1), .inr ⟨g, o, rfl, fun j x hx => ⟨h0.cell hx, (mid_cell0 h5 _).2⟩⟩⟩
theorem MidRow.tail {w : World} {base : Nat} {e : TypeId} {size : Nat} {g o n cap : Nat} {x xs : List Value} (h : MidRow w base e size (.slice (some ⟨g, o, none⟩) (n + 1) cap) (n + 1) (x ++ xs)) (hx : x.length = size) {c2 : Nat} (hc : n ≤ c2) (hc2 : c2 + 1 ≤ cap) :
  MidRow w base e size (.slice (some ⟨g, o + size, none⟩) n c2) n xs := by
 obtain ⟨h1, ⟨h2, -⟩ | ⟨g', o', cap', cur, h3, h4, h5, h6, h7, h8, h9⟩⟩ := h
 ·cases h2
 ·obtain ⟨⟨rfl, rfl⟩, rfl⟩ : (g = g' ∧ o = o') ∧ cap = cap' := by
   have := Value.slice.inj h3
   exact ⟨by simpa using this.1, this.2.2⟩
  rw [List.length_append, hx, Nat.succ_mul] at h1
  refine ⟨by omega, .inr ⟨g, o + size, c2, cur, rfl, h4, h5, hc, by omega, ?_, ?_⟩⟩
  ·have : (c2 + 1) * size ≤ cap * size := Nat.mul_le_mul_right _ hc2
   rw [Nat.succ_mul] at this
   omega
  ·have h10 := congrArg (List.drop size) h9
   rw [List.drop_append_of_le_length (by omega), ← hx, List.drop_length, List.nil_append, hx, List.drop_take, List.drop_drop, Nat.succ_mul, Nat.add_sub_cancel] at h10
   exact h10
section
variable {P : Program}
theorem mid_grown (w : World) (base : Nat) (e : TypeId) (z : Value) (size : Nat) (hzs : z.cells.size = size) (n m old : Nat) (xs news : List Value) (hx : xs.length = n * size) (hl : news.length = m * size) (h63 : n + m ≤ maxLen) (hbase : base ≤ w.heap.size) (row : Option Nat) :
  MidRow (w.drew.alloc (.cells ((xs ++ news).toArray ++ Builtin.zeroCells z.cells (grownCap w (n + m) old e - (n + m))) e)) base e size (.slice (some ⟨w.heap.size, 0, none⟩) (n + m) (grownCap w (n + m) old e)) (n + m) (xs ++ news) ∧
   w.grownBy (w.drew.alloc (.cells ((xs ++ news).toArray ++ Builtin.zeroCells z.cells (grownCap w (n + m) old e - (n + m))) e)) row := by
 have hge := grownCap_ge w (n + m) old e
 have hcm : grownCap w (n + m) old e ≤ maxLen := grownCap_le_maxLen w (n + m) old e h63
 have hlen : (xs ++ news).length = (n + m) * size := by rw [List.length_append, hx, hl, Nat.add_mul]
 refine ⟨⟨hlen, .inr ⟨w.heap.size, 0, _, _, rfl, hbase, heap_alloc_new w.drew _, hge, hcm, ?_, ?_⟩⟩, ⟨rfl, rfl, rfl, by simp, fun k hk _ => heap_alloc_old w.drew _ hk⟩⟩
 ·rw [Array.size_append, List.size_toArray, size_zeroCells, hzs, hlen, ← Nat.add_mul, Nat.zero_add]
  exact Nat.le_of_eq (congrArg (· * size) (by omega))
 ·rw [List.drop_zero, Array.toList_append, ← hlen]
  exact List.take_left
theorem run_append_mid (w : World) (base : Nat) (t tx ty e : TypeId) (i : TypeInfo) (z : Value) (size bytes : Nat) (ht : P.underlying t = some (.slice e)) (hi : P.info? e = some i) (hz : i.zero = some z)
  (hsize : i.size = size) (hby : i.bytes = bytes) (hzs : z.cells.size = size)
  (v : Value) (n : Nat) (xs : List Value) (hown : MidRow w base e size v n xs)
  (x : Value) (m : Nat) (news : List Value) (hs : Src P size tx x m news w)
  (h63 : n + m ≤ maxLen) (hbytes : (n + m) * bytes ≤ 140737488355328) (hbase : base ≤ w.heap.size) :
  ∃ v' w', (Builtin.append_ #[t, tx] ty #[v, x]).run P w = .ok v' w' ∧ MidRow w' base e size v' (n + m) (xs ++ news) ∧ w.grownBy w' v.ownBlock ∧ (v'.ownBlock = v.ownBlock ∨ v'.ownBlock = some w.heap.size) := by
 subst hsize
 subst hby
 have hsmall : n + m ≤ 9223372036854775807 := by simp only [maxLen] at h63; omega
 have hl := hs.newsLen
 have hx := hown.1
 rcases hown.2 with ⟨rfl, rfl⟩ | ⟨g, o, cap, cur, rfl, hbg, hg, hnc, hcm, hcs, htake⟩
 ·have hx0 : xs = [] := List.eq_nil_of_length_eq_zero (by simpa using hx)
  subst hx0
  by_cases hm : m = 0
  ·subst hm
   have hn : news = [] := List.eq_nil_of_length_eq_zero (by simpa using hl)
   subst hn
   refine ⟨.slice none 0 0, w, ?_, MidRow.nil _ _ _ _, ⟨rfl, rfl, rfl, Nat.le_refl _, fun _ _ _ => rfl⟩, .inl rfl⟩
   have hc := hs.cells
   have hk := hs.len
   rcases hs.kind with ⟨e', hk'⟩ | hk' <;> simp [Builtin.append_, run_underlying ht, run_underlying hk', sizeOf, typeInfo, hi, hk, hc]
  ·have hr := run_append_grow_src (P := P) w t tx ty e i z ht hi hz none 0 0 [] (by simp [Builtin.firstCells]) x m news hs (by omega) (by omega) (growslice_fits (by omega) hbytes)
   have hgr := mid_grown w base e z i.size hzs 0 m 0 [] news (by simp) hl h63 hbase (Value.ownBlock (.slice none 0 0))
   exact ⟨_, _, hr, hgr.1, hgr.2, .inr rfl⟩
 ·by_cases hroom : n + m ≤ cap
  ·have hfit : o + n * i.size + news.length ≤ cur.size := by
    have : (n + m) * i.size ≤ cap * i.size := Nat.mul_le_mul_right _ hroom
    rw [Nat.add_mul] at this
    omega
   have hcell : ∀ j, j < news.length → (w.cell? ⟨g, o + n * i.size + j, none⟩).isSome = true ∧ w.frozen? ⟨g, o + n * i.size + j, none⟩ = false := fun j hj => by
    obtain ⟨h1, h2⟩ := mid_cell0 hg (o + n * i.size + j)
    rw [h1]
    exact ⟨by rw [Array.getElem?_eq_getElem (by omega)]; rfl, h2⟩
   have hr := run_append_room_src (P := P) w t tx ty e i ht hi g o n cap x m news hs hroom (fun j hj => (hcell j hj).1) (fun j hj => (hcell j hj).2)
   have hcl : cur.toList.length = cur.size := Array.length_toList
   have hk : o + n * i.size ≤ cur.toList.length := by omega
   have hA : (cur.toList.take (o + n * i.size)).length = o + n * i.size := by rw [List.length_take]; omega
   have hAo : (cur.toList.take (o + n * i.size)).drop o = xs := by rw [List.drop_take, Nat.add_sub_cancel_left]; exact htake
   have hold : ((cur.toList.drop (o + n * i.size)).take news.length).length = news.length := by rw [List.length_take, List.length_drop]; omega
   have hg2 : w.heap[g]? = some (.cells (cur.toList.take (o + n * i.size) ++ (cur.toList.drop (o + n * i.size)).take news.length ++ (cur.toList.drop (o + n * i.size)).drop news.length).toArray e (0, 0)) := by
    rw [List.append_assoc, List.take_append_drop, List.take_append_drop]; exact hg
   have hset := setCells_listM news _ _ _ w g e hg2 hold
   rw [hA] at hset
   have hgr := (setCells_grownM news (o + n * i.size) w g).1
   have hlen : (xs ++ news).length = (n + m) * i.size := by rw [List.length_append, hx, hl, Nat.add_mul]
   refine ⟨_, _, hr, ⟨hlen, .inr ⟨g, o, cap, _, rfl, hbg, hset, hroom, hcm, ?_, ?_⟩⟩, hgr, .inl rfl⟩
   ·rw [List.size_toArray, List.length_append, List.length_append, hA, List.length_drop, List.length_drop]
    omega
   ·show List.take ((n + m) * i.size) (List.drop o (cur.toList.take (o + n * i.size) ++ news ++ _)) = _
    rw [List.append_assoc, List.drop_append_of_le_length (by omega), hAo, ← List.append_assoc, ← hlen]
    exact List.take_left
  ·have hr := run_append_grow_src (P := P) w t tx ty e i z ht hi hz (some ⟨g, o, none⟩) n cap xs (run_firstCells_some w.drew i.size n ⟨g, o, none⟩ n cap xs hx (fun j u hj => by
     rw [Addr.add_lit]
     exact hown.cell hj)) x m news hs (by omega) (by omega) (growslice_fits (by omega) hbytes)
   have hgr := mid_grown w base e z i.size hzs n m cap xs news hx hl h63 hbase (Value.ownBlock (.slice (some ⟨g, o, none⟩) n cap))
   exact ⟨_, _, hr, hgr.1, hgr.2, .inr rfl⟩
theorem wpList_append_mid {w : World} {ops : Array Oper} {rest : List Oper} {o : Oper} {a : Act} {Q : Exit → Act → World → Prop} (hgd : o.guard = none) (s x : Operand) (t tx : TypeId)
  (ho : o.op = .call { callee := .builtin .append, args := #[s, x], argTypes := #[t, tx] })
  (base : Nat) (e : TypeId) (i : TypeInfo) (z : Value) (size bytes : Nat) (ht : P.underlying t = some (.slice e)) (hi : P.info? e = some i) (hz : i.zero = some z)
  (hsize : i.size = size) (hby : i.bytes = bytes) (hzs : z.cells.size = size)
  (v : Value) (n : Nat) (xs : List Value) (hs : a.eval s = v) (hown : MidRow w base e size v n xs)
  (xv : Value) (m : Nat) (news : List Value) (hx : a.eval x = xv) (hsrc : Src P size tx xv m news w)
  (h63 : n + m ≤ maxLen) (hbytes : (n + m) * bytes ≤ 140737488355328) (hbase : base ≤ w.heap.size)
  (h : ∀ v' w', MidRow w' base e size v' (n + m) (xs ++ news) → w.grownBy w' v.ownBlock → (v'.ownBlock = v.ownBlock ∨ v'.ownBlock = some w.heap.size) → wpList P ops Q rest (a.put o.dst v') w') :
  wpList P ops Q (o :: rest) a w := by
 refine wpList_plain hgd fun K hK => ?_
 obtain ⟨v', w', hr, h2, h3, h4⟩ := run_append_mid (P := P) w base t tx o.type e i z size bytes ht hi hz hsize hby hzs v n xs hown xv m news hsrc h63 hbytes hbase
 unfold Oper.wp execOp
 simp only [ho, resolve, invoke, builtin, Sem.run_bind, Sem.run_pure, Result.andThen_ok, List.map_toArray, List.map_cons, List.map_nil, hs, hx, hr]
 exact hK _ _ (h v' w' h2 h3 h4)
end
open Go.RowKit
end Go.Proofs.YtnkkoicbnbjlnaaGreatDoor
