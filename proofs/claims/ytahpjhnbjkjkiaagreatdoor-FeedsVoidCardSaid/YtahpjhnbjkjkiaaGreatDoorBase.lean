/- Small lemmas on bytes, lists and worlds that the walks of this seat share. No condition. -/
import Derived.Test.YtahpjhnbjkjkiaaGreatDoorProg
import Derived.WalkKit
import Derived.WalkSpells
import Derived.WalkLawsBesides
import Derived.Handy
import Derived.Lib.Hide
import Derived.Lib.Strings
import Derived.Laws.IdiomStrings
import Derived.Laws.Strings3
import Derived.Deep.QuietTactic
import Derived.BigQuiet
import Derived.Deep.RegionHeld3
import Derived.Deep.DeepCutAuto
namespace Go.Proofs.YtahpjhnbjkjkiaaGreatDoor
open Go.RowKit

theorem ret_congr {a b : Value} (h : a = b) : Ending.returned a = .returned b := by rw [h]
theorem int_congr {k : IntKind} {a b : Int} (h : a = b) : Value.int k a = .int k b := by rw [h]

/-- A string's bytes. -/
abbrev bs (s : ByteArray) : List UInt8 := s.data.toList
theorem bs_length (s : ByteArray) : (bs s).length = s.size := Array.length_toList
theorem bs_empty {s : ByteArray} (h : s.toList.isEmpty = true) : bs s = [] := by
  rw [ByteArray.toList_eq] at h; simpa using h
theorem bs_some {s : ByteArray} (h : s.toList.isEmpty = false) : bs s ≠ [] := by
  rw [ByteArray.toList_eq] at h; simpa using h
theorem bs_size {s : ByteArray} (h : s.toList.isEmpty = false) : 0 < s.size := by
  have := bs_some h
  rw [← bs_length]; exact List.length_pos_iff.2 this
theorem bs_get {s : ByteArray} {k : Nat} (h : k < s.size) : (bs s)[k]'(by rw [bs_length]; exact h) = s[k] := rfl
theorem bs_get? {s : ByteArray} {k : Nat} (h : k < s.size) : (bs s)[k]? = some s[k] := by
  rw [List.getElem?_eq_getElem (by rw [bs_length]; exact h)]; rfl

/-- None of the first k elements answers p. -/
def Good {α : Type} (p : α → Bool) (l : List α) (k : Nat) : Prop := ∀ j, j < k → ∀ x, l[j]? = some x → p x = false
theorem good_zero {α : Type} (p : α → Bool) (l : List α) : Good p l 0 := fun _ h => by omega
theorem Good.mono {α : Type} {p : α → Bool} {l : List α} {k k' : Nat} (h : Good p l k) (hk : k' ≤ k) : Good p l k' := fun j hj => h j (by omega)
theorem good_step {α : Type} {p : α → Bool} {l : List α} {k : Nat} {c : α} (hc : l[k]? = some c) (hb : p c = false) (hf : Good p l k) : Good p l (k + 1) := by
  intro j hj x hx
  by_cases e : j = k
  · subst e; rw [hc] at hx; cases hx; exact hb
  · exact hf j (by omega) x hx
theorem good_hit {α : Type} {p : α → Bool} {l : List α} {k : Nat} {c : α} (hc : l[k]? = some c) (hb : p c = true) (hf : Good p l k) : l.findIdx? p = some k := by
  obtain ⟨hk, hc'⟩ := List.getElem?_eq_some_iff.1 hc
  rw [List.findIdx?_eq_some_iff_getElem]
  refine ⟨hk, by rw [hc']; exact hb, fun j hj => ?_⟩
  rw [hf j hj _ (List.getElem?_eq_getElem (by omega))]; simp
theorem good_all {α : Type} {p : α → Bool} {l : List α} (hf : Good p l l.length) : l.findIdx? p = none := by
  rw [List.findIdx?_eq_none_iff]
  intro x hx
  obtain ⟨j, hj, rfl⟩ := List.getElem_of_mem hx
  exact hf j hj _ (List.getElem?_eq_getElem hj)

/-- A byte's value. -/
abbrev u8v (c : UInt8) : Value := .int .u8 (c.toNat : Int)
/-- A string value of these bytes. -/
abbrev sv (l : List UInt8) : Value := .string ⟨l.toArray⟩
theorem sv_inj {a b : List UInt8} (h : sv a = sv b) : a = b := by
  have := congrArg (fun v => match v with | .string s => bs s | _ => []) h
  simpa [sv, bs] using this
theorem bs_sv (l : List UInt8) : bs ⟨l.toArray⟩ = l := rfl
theorem sv_bs (s : ByteArray) : sv (bs s) = .string s := rfl
theorem sv_of {s : ByteArray} {l : List UInt8} (h : bs s = l) : Value.string s = sv l := by
  subst h; rfl
theorem bs_extract (s : ByteArray) (a b : Nat) : bs (s.extract a b) = ((bs s).take b).drop a := by
  rw [show bs (s.extract a b) = (s.extract a b).data.toList from rfl, Lib.extract_data, List.drop_take]

theorem sv_size (l : List UInt8) : (⟨l.toArray⟩ : ByteArray).size = l.length := by simp [ByteArray.size]
/-- 's[:i]', 's[i:]', 's[i:j]' of a string, in lists. -/
theorem slice_to (l : List UInt8) (i : Nat) (h : i ≤ l.length) (W : World) : (Instr.slice 9 (sv l) none (some (.int .i64 (i : Int))) none).run Tryz.prog W = .ok (sv (l.take i)) W := by
  rw [run_slice_string_to_if (h := Tryz.underlying9), if_pos (by rw [sv_size]; omega)]
  congr 1
  exact sv_of (by rw [bs_extract, bs_sv]; simp)
theorem slice_from (l : List UInt8) (i : Int) (h0 : 0 ≤ i) (h : i ≤ l.length) (W : World) : (Instr.slice 9 (sv l) (some (.int .i64 i)) none none).run Tryz.prog W = .ok (sv (l.drop i.toNat)) W := by
  rw [run_slice_string_from_if (h := Tryz.underlying9), if_pos (by rw [sv_size]; omega)]
  congr 1
  exact sv_of (by rw [bs_extract, bs_sv, sv_size]; simp)
theorem bs_append (a b : ByteArray) : bs (a ++ b) = bs a ++ bs b := by simp [bs]
/-- '+' of two strings, in lists. -/
theorem cat_sv (a b : List UInt8) (h : a.length + b.length ≤ 9223372036854775807) (W : World) : (binOp .add 9 (sv a) (sv b)).run Tryz.prog W = .ok (sv (a ++ b)) W := by
  show (Op.stringOp .add ⟨a.toArray⟩ ⟨b.toArray⟩).run Tryz.prog W = _
  rw [run_string_add_sum (h := by rw [sv_size, sv_size]; exact h)]
  congr 1
/-- 'string(b)' of the byte or bytes that a new block holds. -/
theorem convert_new (l : List UInt8) (c : Nat) (g : Nat) (W : World) (h : ∀ j x, l[j]? = some x → W.cell? ⟨g, j, none⟩ = some (.int .u8 (x.toNat : Int))) :
    (convert 23 9 (.slice (some ⟨g, 0, none⟩) l.length c)).run Tryz.prog W = .ok (sv l) W :=
  run_convert_bytes_back (P := Tryz.prog) W 23 9 5 ⟨g, 0, none⟩ c l Tryz.underlying23 Tryz.underlying5 Tryz.underlying9 (fun j hj => by
    rw [show (⟨g, 0, none⟩ : Addr).add j = ⟨g, j, none⟩ from by simp [Addr.add]; omega]; exact h j _ (List.getElem?_eq_getElem hj))

/-- What a slice holds: cells one behind the other, none of them frozen, in a block from B on; of an empty one only that nil has no capacity. -/
def Own (w : World) (B : Nat) (v : Value) (xs : List Value) : Prop :=
  ∃ (a : Option Addr) (c : Nat), v = .slice a xs.length c ∧ xs.length ≤ c ∧ c ≤ maxLen ∧ (a = none → c = 0) ∧
    (xs = [] ∨ ∃ g o : Nat, a = some ⟨g, o, none⟩ ∧ B ≤ g ∧ ∀ j x, xs[j]? = some x → w.cell? ⟨g, o + j, none⟩ = some x ∧ w.frozen? ⟨g, o + j, none⟩ = false)

theorem cell_lt {w : World} {g o : Nat} {x : Value} (h : w.cell? ⟨g, o, none⟩ = some x) : g < w.heap.size := World.block_lt_of_cell? w _ h
theorem Own.nil (w : World) (B : Nat) : Own w B (.slice none 0 0) [] := ⟨none, 0, rfl, Nat.le_refl _, by simp [maxLen], fun _ => rfl, .inl rfl⟩
theorem Own.below {w w' : World} {B B' : Nat} {v : Value} {xs : List Value} (h : Own w B v xs) (hb : Below B' w w') (hB : w.heap.size ≤ B') : Own w' B v xs := by
  obtain ⟨a, c, rfl, h1, h2, h3, h4⟩ := h
  refine ⟨a, c, rfl, h1, h2, h3, h4.imp id ?_⟩
  rintro ⟨g, o, rfl, hg, h5⟩
  refine ⟨g, o, rfl, hg, fun j x hx => ?_⟩
  have h6 := cell_lt (h5 j x hx).1
  rw [hb.cell (p := ⟨g, o + j, none⟩) (by show g < B'; omega), hb.frozen (p := ⟨g, o + j, none⟩) (by show g < B'; omega)]
  exact h5 j x hx
theorem Own.mono {w : World} {B B' : Nat} {v : Value} {xs : List Value} (h : Own w B v xs) (hB : B' ≤ B) : Own w B' v xs := by
  obtain ⟨a, c, rfl, h1, h2, h3, h4⟩ := h
  refine ⟨a, c, rfl, h1, h2, h3, h4.imp id ?_⟩
  rintro ⟨g, o, rfl, hg, h5⟩
  exact ⟨g, o, rfl, by omega, h5⟩
theorem Own.of_row {w : World} {B : Nat} {e : TypeId} {v : Value} {xs : List Value} (h : w.ownsRow B e 1 v xs.length xs) : Own w B v xs := by
  obtain ⟨hl, h2⟩ := h
  rcases h2 with ⟨rfl, h3⟩ | ⟨g, cap, cur, rfl, hg, hh, hn, hm, hs, ht⟩
  · obtain rfl : xs = [] := List.eq_nil_of_length_eq_zero h3
    exact Own.nil w B
  · refine ⟨_, cap, rfl, hn, hm, (fun h => by cases h), .inr ⟨g, 0, rfl, hg, fun j x hx => ?_⟩⟩
    have hj : j < xs.length := (List.getElem?_eq_some_iff.1 hx).1
    constructor
    · rw [Nat.zero_add, cell_of_row w g j cur e (0, 0) hh]
      rw [← ht, List.getElem?_take, if_pos (by omega)] at hx
      simpa using hx
    · simp [World.frozen?, hh]
theorem Own.len {w : World} {B : Nat} {v : Value} {xs : List Value} (h : Own w B v xs) : ∃ a c, v = .slice a xs.length c := by
  obtain ⟨a, c, rfl, _⟩ := h
  exact ⟨a, c, rfl⟩
theorem Own.max {w : World} {B : Nat} {v : Value} {xs : List Value} (h : Own w B v xs) : xs.length ≤ maxLen := by
  obtain ⟨a, c, rfl, h1, h2, _⟩ := h
  omega
/-- A slice that is not empty: its address, its cells. -/
theorem Own.some {w : World} {B : Nat} {v : Value} {xs : List Value} (h : Own w B v xs) (hne : xs ≠ []) : ∃ g o c : Nat, v = .slice (some ⟨g, o, none⟩) xs.length c ∧ B ≤ g ∧ g < w.heap.size ∧ xs.length ≤ c ∧ c ≤ maxLen ∧
    ∀ j x, xs[j]? = some x → w.cell? ⟨g, o + j, none⟩ = some x ∧ w.frozen? ⟨g, o + j, none⟩ = false := by
  obtain ⟨a, c, rfl, h1, h2, _, h4⟩ := h
  rcases h4 with h4 | ⟨g, o, rfl, hg, h5⟩
  · exact absurd h4 hne
  · cases xs with
    | nil => exact absurd rfl hne
    | cons x xs => exact ⟨g, o, c, rfl, hg, cell_lt (h5 0 x rfl).1, h1, h2, h5⟩
/-- The cell at a place. -/
theorem Own.at {w : World} {B : Nat} {v : Value} {xs : List Value} (h : Own w B v xs) {k : Nat} {x : Value} (hx : xs[k]? = Option.some x) :
    ∃ g o c : Nat, v = .slice (Option.some ⟨g, o, none⟩) xs.length c ∧ B ≤ g ∧ g < w.heap.size ∧ w.cell? ⟨g, o + k, none⟩ = Option.some x ∧ w.frozen? ⟨g, o + k, none⟩ = false := by
  obtain ⟨g, o, c, rfl, h1, h2, _, _, h5⟩ := h.some (by rintro rfl; simp at hx)
  exact ⟨g, o, c, rfl, h1, h2, (h5 k x hx).1, (h5 k x hx).2⟩
theorem slice_inj {a a' : Option Addr} {n n' c c' : Nat} (h : Value.slice a n c = .slice a' n' c') : a = a' ∧ n = n' ∧ c = c' := by
  simpa using h

/-- Behind an append of one new element to a row of the call's own. -/
theorem below_append {B : Nat} {w wo w' : World} {o : Obj} {e : TypeId} {sz n : Nat} {v : Value} {xs : List Value} (hb : Below B w wo) (hB : B ≤ w.heap.size) (hown : wo.ownsRow B e sz v n xs) (hg : (wo.alloc o).grownBy w' v.ownBlock) : Below B w w' :=
  (hb.alloc (by have := hb.size; omega) _).grown hg (by have := hb.size; simp; omega) (fun k hk => (hown.lt k hk).1)

/-- The slice values of the type's number, read as strings. -/
abbrev Strs (w : World) (B : Nat) (v : Value) (L : List (List UInt8)) : Prop := Own w B v (L.map sv)

/-- The library's variable MaxLen holds a number. -/
def HasLen (w : World) : Prop := ∃ m, w.cell? ⟨1, 0, none⟩ = some (.int .i64 m)
theorem HasLen.below {w w' : World} (h : HasLen w) (hb : Below w.heap.size w w') : HasLen w' := by
  obtain ⟨m, hm⟩ := h
  exact ⟨m, (hb.cell (World.block_lt_of_cell? w _ hm)).trans hm⟩
end Go.Proofs.YtahpjhnbjkjkiaaGreatDoor
