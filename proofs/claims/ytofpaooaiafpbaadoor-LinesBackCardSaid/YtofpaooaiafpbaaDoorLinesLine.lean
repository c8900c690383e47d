/- The law LinesLine returns true at every command. Conditions: strings that strings may be; MaxLen, ErrRange, the powers of ten as they must be. (Printed by genll.py.) -/
import Derived.Test.YtofpaooaiafpbaaDoorLinesParse
import Derived.Test.YtofpaooaiafpbaaDoorLineRefLine2
namespace Go.Proofs.YtofpaooaiafpbaaDoor
open Go.RowKit Go.ChangeMaps Go.MapKept

/-- The lengths of the keys, none counted beyond 40000. -/
def minSum (L : List (List UInt8)) : Nat := (L.map (fun x => min x.length 40000)).sum
theorem minSum_snoc (L : List (List UInt8)) (x : List UInt8) : minSum (L ++ [x]) = minSum L + min x.length 40000 := by simp [minSum]
theorem minSum_le (L : List (List UInt8)) : minSum L ≤ 40000 * L.length := by
  induction L with
  | nil => simp [minSum]
  | cons x L ih => simp only [minSum, List.map_cons, List.sum_cons, List.length_cons] at *; omega
theorem minSum_flat {L : List (List UInt8)} (h : minSum L ≤ 30000) : (flatW L).length = minSum L + L.length := by
  induction L with
  | nil => simp [minSum, flatW]
  | cons x L ih =>
    have h1 : minSum (x :: L) = min x.length 40000 + minSum L := by simp [minSum]
    rw [h1] at h ⊢
    have := ih (by omega)
    rw [flatW_cons]
    simp only [List.cons_append, List.length_cons, List.length_append]
    omega
theorem name_len : ∀ v : Nat, (names.getD (v - 1) []).length ≤ 9 := by
  intro v
  by_cases h : v < 14
  · exact (by decide : ∀ v < 14, (names.getD (v - 1) []).length ≤ 9) v h
  · rw [List.getD_eq_getElem?_getD, List.getElem?_eq_none (by show 13 ≤ v - 1; omega)]; simp
theorem lineS_short {c : Cmd} (hc : OkCmd c) (h : minSum c.keys ≤ 30000) (hk : c.keys.length ≤ 100) : (lineS c).length ≤ 40000 := by
  rw [lineS_is c _ rfl]
  have h1 := name_len c.verb
  have h2 := minSum_flat h
  have h3 := fieldsTo_len hc (restOf c.verb).length
  have h4 : fieldsTo c (restOf c.verb).length = (fieldsOf c).map (textF c) := by unfold fieldsTo fieldsOf; split <;> simp
  rw [h4] at h3
  have h5 : (flatW (if c.quiet then [noreply] else [])).length ≤ 8 := by cases c.quiet <;> decide
  simp only [List.length_append]
  omega
theorem own_cells0 {w : World} {B n c : Nat} {ad : Addr} {L : List (List UInt8)} (h : Strs w B (.slice (some ad) n c) L) (j : Nat) (x : Value) (hx : (L.map sv)[j]? = some x) : w.cell? (ad.add j) = some x := by
  obtain ⟨a, c', he, _, _, _, h4⟩ := h
  rcases h4 with h4 | ⟨g, o, ha, _, h5⟩
  · rw [h4] at hx; simp at hx
  · have h1 := (slice_inj he).1
    rw [ha] at h1
    cases h1
    rw [show (⟨g, o, none⟩ : Addr).add j = ⟨g, o + j, none⟩ from Addr.add_mid g o j]
    exact (h5 j x hx).1
/-- What the law holds of the world. -/
structure LInv (w : World) (BB : Nat) (c : Cmd) (ka : Option Addr) (kc : Nat) (B2 : Nat) (oa : Option Addr) (oc : Nat) (W : World) : Prop where
  keys : Strs W BB (.slice ka c.keys.length kc) c.keys
  copy : Strs W B2 (.slice oa c.keys.length oc) c.keys
  len : HasLen W
  err : HasErr W
  pow : HasPow W
  below : Below w.heap.size w W
theorem LInv.keep {w : World} {BB : Nat} {c : Cmd} {ka oa : Option Addr} {kc B2 oc : Nat} {W W' : World} (h : LInv w BB c ka kc B2 oa oc W) (hb : Below W.heap.size W W') : LInv w BB c ka kc B2 oa oc W' :=
  ⟨strs_below h.keys hb, strs_below h.copy hb, h.len.below hb, h.err.below hb, h.pow.below hb, h.below.trans (hb.mono h.below.size)⟩
theorem LInv.lives {w : World} {BB : Nat} {c : Cmd} {ka oa : Option Addr} {kc B2 oc : Nat} {W : World} (h : LInv w BB c ka kc B2 oa oc W) :
    Calls Tryd.prog 5 #[] W fun e w' => e = .returned (.bool true) ∧ Below W.heap.size W w' := lives29 W h.len h.err h.pow
def HeldLine (w : World) (BB : Nat) (c : Cmd) (ka : Option Addr) (kc r2 B2 : Nat) (oa : Option Addr) (oc : Nat) (W : World) : Prop := W.cell? ⟨w.heap.size, 0, none⟩ = some (.int .u8 (c.verb : Int)) ∧ W.cell? ⟨w.heap.size, 1, none⟩ = some (.slice ka c.keys.length kc) ∧ W.cell? ⟨w.heap.size, 2, none⟩ = some (.int .u8 (c.cverb : Int)) ∧ W.cell? ⟨w.heap.size, 3, none⟩ = some (sv c.key) ∧ W.cell? ⟨w.heap.size, 4, none⟩ = some (sv c.value) ∧ W.cell? ⟨w.heap.size, 5, none⟩ = some (.int .u32 (c.flags : Int)) ∧ W.cell? ⟨w.heap.size, 6, none⟩ = some (.int .i64 c.exp) ∧ W.cell? ⟨w.heap.size, 7, none⟩ = some (.int .u64 (c.id : Int)) ∧ W.cell? ⟨w.heap.size, 8, none⟩ = some (.int .u64 (c.by' : Int)) ∧ W.cell? ⟨w.heap.size, 9, none⟩ = some (.int .i64 c.bytes) ∧ W.cell? ⟨w.heap.size, 10, none⟩ = some (.bool c.quiet) ∧ W.cell? ⟨r2, 0, none⟩ = some (.int .u8 (c.verb : Int)) ∧ W.cell? ⟨r2, 1, none⟩ = some (.slice oa c.keys.length oc) ∧ W.cell? ⟨r2, 2, none⟩ = some (.int .u8 (c.cverb : Int)) ∧ W.cell? ⟨r2, 3, none⟩ = some (sv c.key) ∧ W.cell? ⟨r2, 4, none⟩ = some (sv c.value) ∧ W.cell? ⟨r2, 5, none⟩ = some (.int .u32 (c.flags : Int)) ∧ W.cell? ⟨r2, 6, none⟩ = some (.int .i64 c.exp) ∧ W.cell? ⟨r2, 7, none⟩ = some (.int .u64 (c.id : Int)) ∧ W.cell? ⟨r2, 8, none⟩ = some (.int .u64 (c.by' : Int)) ∧ W.cell? ⟨r2, 9, none⟩ = some (.int .i64 c.bytes) ∧ W.cell? ⟨r2, 10, none⟩ = some (.bool c.quiet) ∧ LInv w BB c ka kc B2 oa oc W
theorem heldLine_keep {w : World} {BB : Nat} {c : Cmd} {ka oa : Option Addr} {kc r2 B2 oc : Nat} {W W' : World} (hb : Below W.heap.size W W') (h : HeldLine w BB c ka kc r2 B2 oa oc W) : HeldLine w BB c ka kc r2 B2 oa oc W' := by
  have hk := fun (p j : Nat) (x : Value) (hx : W.cell? ⟨p, j, none⟩ = some x) => (hb.cell (p := ⟨p, j, none⟩) (cell_lt hx)).trans hx
  obtain ⟨h0, h1, h2, h3, h4, h5, h6, h7, h8, h9, h10, g0, g1, g2, g3, g4, g5, g6, g7, g8, g9, g10, hI⟩ := h
  exact ⟨hk _ _ _ h0, hk _ _ _ h1, hk _ _ _ h2, hk _ _ _ h3, hk _ _ _ h4, hk _ _ _ h5, hk _ _ _ h6, hk _ _ _ h7, hk _ _ _ h8, hk _ _ _ h9, hk _ _ _ h10, hk _ _ _ g0, hk _ _ _ g1, hk _ _ _ g2, hk _ _ _ g3, hk _ _ _ g4, hk _ _ _ g5, hk _ _ _ g6, hk _ _ _ g7, hk _ _ _ g8, hk _ _ _ g9, hk _ _ _ g10, hI.keep hb⟩

end Go.Proofs.YtofpaooaiafpbaaDoor
