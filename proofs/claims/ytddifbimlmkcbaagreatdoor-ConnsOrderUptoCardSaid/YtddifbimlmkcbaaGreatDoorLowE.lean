/- Commands alike: slices.Equal of strings, lines.same, the laws' Same and Other, the reference's Same. No condition. The laws' Other and Same. No condition. The text of a command's field. Condition: the library's table of powers is as it must be; the numbers are of their kinds. A range over a map that is known whole: the step's law; the entries of the shapes' map. No condition. -/
import Derived.Test.YtddifbimlmkcbaaGreatDoorLineRefParse
import Derived.Deep.Light
import Derived.Test.YtddifbimlmkcbaaGreatDoorShelf2
import Derived.Lib.AppendIntMem
import Derived.Maps.RangeRun
namespace Go.Proofs.YtddifbimlmkcbaaGreatDoor
open Go.RowKit Go.ChangeMaps Go.MapKept

theorem below_drewN {B : Nat} {w w' : World} (h : Below B w w') (n : Nat) : Below B w (w'.drewN n) := ⟨h.os, h.tape, h.output, h.size, h.block⟩
/-- Commands alike. -/
def sameC (a b : Cmd) : Bool := a.verb == b.verb && (a.keys == b.keys && ((a.cverb == b.cverb && a.key == b.key && a.value == b.value && a.flags == b.flags && a.exp == b.exp && a.id == b.id && a.by' == b.by') && (a.bytes == b.bytes && a.quiet == b.quiet)))
theorem sameC_iff (a b : Cmd) : sameC a b = true ↔ a = b := by
  cases a; cases b; simp [sameC, Cmd.mk.injEq]; grind

theorem strs_below {w w' : World} {B : Nat} {v : Value} {L : List (List UInt8)} (h : Strs w B v L) (hb : Below w.heap.size w w') : Strs w' B v L := Own.below h hb (Nat.le_refl _)
/-- All but the keys. -/
def restC (a b : Cmd) : Bool := a.verb == b.verb && ((a.cverb == b.cverb && a.key == b.key && a.value == b.value && a.flags == b.flags && a.exp == b.exp && a.id == b.id && a.by' == b.by') && (a.bytes == b.bytes && a.quiet == b.quiet))
theorem sameC_rest (a b : Cmd) : sameC a b = (restC a b && (a.keys == b.keys)) := by
  unfold sameC restC
  cases (a.verb == b.verb) <;> cases (a.keys == b.keys) <;> simp
theorem rest_eq {a b : Cmd} (h : restC a b = true) : a = { b with keys := a.keys } := by
  cases a; cases b; simp [restC] at h ⊢; grind

end Go.Proofs.YtddifbimlmkcbaaGreatDoor
namespace Go.Proofs.YtddifbimlmkcbaaGreatDoor
open Go.RowKit Go.ChangeMaps Go.MapKept

theorem undrewB {w w' : World} (h : Below w.drew.heap.size w.drew w') : Below w.heap.size w w' := ⟨h.os, h.tape, h.output, h.size, h.block⟩
end Go.Proofs.YtddifbimlmkcbaaGreatDoor
namespace Go.Proofs.YtddifbimlmkcbaaGreatDoor
open Go.RowKit Go.ChangeMaps Go.MapKept Go.Sort

/-- The numbers of a command are of their kinds. -/
structure OkCmd (c : Cmd) : Prop where
  verb : c.verb < 256
  cverb : c.cverb < 256
  flags : c.flags < 4294967296
  exp0 : -9223372036854775808 ≤ c.exp
  exp1 : c.exp ≤ 9223372036854775807
  id : c.id < 18446744073709551616
  by' : c.by' < 18446744073709551616
  bytes0 : -9223372036854775808 ≤ c.bytes
  bytes1 : c.bytes ≤ 9223372036854775807
def textF (c : Cmd) (f : Nat) : List UInt8 := if f = 0 then Lib.decDigits c.flags else if f = 1 then Lib.itoa c.exp else if f = 2 then Lib.itoa c.bytes else if f = 3 then Lib.decDigits c.id else Lib.decDigits c.by'
theorem below_grow' (w : World) (k : Nat) (os : Array Obj) : Below w.heap.size w (grow (w.drewN k) os) := Lib.below_grow w.heap.size w (Nat.le_refl _) k os
theorem itoa_at (n : Int) (h0 : -9223372036854775808 ≤ n) (h1 : n ≤ 9223372036854775807) (W : World) (hP : HasPow W) :
    Calls Tryz.prog 151 #[.int .i64 n] W fun e w' => e = .returned (sv (Lib.itoa n)) ∧ Below W.heap.size W w' :=
  (Tryz.strconv_Itoa n h0 h1 W hP).mono fun _ _ ⟨he, k, os, hw⟩ => ⟨he, hw ▸ below_grow' W k os⟩
theorem textF_len {c : Cmd} (hc : OkCmd c) (f : Nat) : (textF c f).length ≤ 21 := by
  have d := fun (u : Nat) (hu : u < 18446744073709551616) => dec_short u hu
  have i : ∀ z : Int, -9223372036854775808 ≤ z → z ≤ 9223372036854775807 → (Lib.itoa z).length ≤ 21 := by
    intro z h0 h1
    unfold Lib.itoa
    split
    · have := d z.natAbs (by omega); simp; omega
    · have := d z.toNat (by omega); omega
  unfold textF
  split
  · have := d c.flags (by have := hc.flags; omega); omega
  · split
    · exact i _ hc.exp0 hc.exp1
    · split
      · exact i _ hc.bytes0 hc.bytes1
      · split
        · have := d c.id hc.id; omega
        · have := d c.by' hc.by'; omega
end Go.Proofs.YtddifbimlmkcbaaGreatDoor
namespace Go.Proofs.YtddifbimlmkcbaaGreatDoor
open Go.RowKit Go.ChangeMaps Go.MapKept

theorem grown_setBlock (w : World) (r : Nat) (o : Obj) : w.grownBy (setBlock w r o) (some r) := by
  refine ⟨rfl, rfl, rfl, by simp [setBlock], fun k hk hne => ?_⟩
  show (w.heap.setIfInBounds r o)[k]? = _
  rw [Array.getElem?_setIfInBounds_ne (by intro h; exact hne (by rw [h]))]
/-- The step of a range over a map that is known whole. -/
theorem wpList_next_at {P : Program} {w : World} {ops : Array Oper} {rest : List Oper} {o : Oper} {a : Act} {Q : Exit → Act → World → Prop} (hg : o.guard = none) (x : Operand) (hop : o.op = Op.next x false)
    (r bm since c0 : Nat) (seen : Array Nat) (es : Array MapEntry) (clock : Nat) (hx : a.eval x = .pointer (some ⟨r, 0, none⟩)) (hr : w.heap[r]? = some (.mapIter (some bm) since seen c0)) (hb : w.heap[bm]? = some (.map es clock))
    (hold : ∀ x ∈ es.toList, x.born < since) (hsc : since ≤ c0)
    (hK0 : (leftOf es seen).size = 0 → wpList P ops Q rest (a.put o.dst (.tuple #[.bool false])) w)
    (hK1 : ∀ e ∈ (leftOf es seen).toList, ∀ w', w'.heap[r]? = some (.mapIter (some bm) since (seen.push e.born) clock) → w.grownBy w' (some r) → w'.heap.size = w.heap.size → wpList P ops Q rest (a.put o.dst (.tuple #[.bool true, e.key, e.val])) w') :
    wpList P ops Q (o :: rest) a w := by
  refine wpList_plain hg fun K' hK' => ?_
  rcases run_next_at (P := P) w o.type r bm since c0 seen es clock hr hb hold hsc with ⟨h0, hrun⟩ | ⟨e, he, w1, hw1, hrun⟩
  · unfold Oper.wp
    simp [execOp, hop, hx, hrun, Result.andThen]
    exact hK' _ _ (hK0 h0)
  · unfold Oper.wp
    simp [execOp, hop, hx, hrun, Result.andThen]
    refine hK' _ _ (hK1 e he _ ?_ ?_ ?_)
    · show (w1.heap.setIfInBounds r _)[r]? = _
      have hlt : r < w1.heap.size := by rcases hw1 with rfl | rfl <;> exact (Array.getElem?_eq_some_iff.1 hr).1
      rw [Array.getElem?_setIfInBounds_self_of_lt hlt]
    · rcases hw1 with rfl | rfl
      · exact grown_setBlock _ _ _
      · have := grown_setBlock w.drew r (.mapIter (some bm) since (seen.push e.born) clock)
        exact ⟨this.os, this.tape, this.output, this.size, this.block⟩
    · rcases hw1 with rfl | rfl <;> simp [setBlock]

/-- The entry of a verb. -/
abbrev entryV (B v : Nat) : MapEntry := ⟨sv (names.getD (v - 1) []), shapeV B v, v - 1⟩
theorem shapeEs_is (B : Nat) : shapeEs B = (List.range 13).map (fun i => entryV B (i + 1)) := rfl
theorem entry_of {B : Nat} {e : MapEntry} (h : e ∈ (shapeEs B).toArray.toList) : ∃ v, v ≠ 0 ∧ v < 14 ∧ e = entryV B v := by
  rw [List.toList_toArray, shapeEs_is] at h
  obtain ⟨i, hi, rfl⟩ := List.mem_map.1 h
  exact ⟨i + 1, by omega, by have := List.mem_range.1 hi; omega, rfl⟩
theorem entry_in (B v : Nat) (h0 : v ≠ 0) (h : v < 14) : entryV B v ∈ (shapeEs B).toArray.toList := by
  rw [List.toList_toArray, shapeEs_is]
  exact List.mem_map.2 ⟨v - 1, List.mem_range.2 (by omega), by rw [Nat.sub_add_cancel (by omega)]⟩
theorem born_lt {B : Nat} : ∀ x ∈ (shapeEs B).toArray.toList, x.born < 13 := fun x hx => by
  obtain ⟨v, h0, h1, rfl⟩ := entry_of hx
  show v - 1 < 13; omega
theorem born_nodup (B : Nat) : ((shapeEs B).toArray.toList.map (·.born)).Nodup := by
  rw [List.toList_toArray, shapeEs_is, List.map_map]
  show ((List.range 13).map (fun i => i + 1 - 1)).Nodup
  decide
theorem entry_next {B u v : Nat} {seen : Array Nat} (hu0 : u ≠ 0) (hu : u < 14) (hv0 : v ≠ 0) (h : entryV B v ∈ (leftOf (shapeEs B).toArray seen).toList) (hne : u ≠ v) :
    entryV B v ∈ (leftOf (shapeEs B).toArray (seen.push (entryV B u).born)).toList := by
  obtain ⟨h1, h2⟩ := mem_left h
  rw [Array.mem_toList_iff, leftOf, Array.mem_filter]
  refine ⟨Array.mem_toList_iff.1 h1, ?_⟩
  rw [contains_push, h2]
  have : ((entryV B v).born == (entryV B u).born) = false := by rw [beq_eq_false_iff_ne]; show v - 1 ≠ u - 1; omega
  rw [this]; rfl
end Go.Proofs.YtddifbimlmkcbaaGreatDoor
