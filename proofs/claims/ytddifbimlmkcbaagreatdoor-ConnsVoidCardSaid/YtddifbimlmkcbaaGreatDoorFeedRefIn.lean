/- The document's feed, walked: In and Left. No condition. -/
import Derived.Test.YtddifbimlmkcbaaGreatDoorFeedRef2
import Derived.Test.YtddifbimlmkcbaaGreatDoorLowH
namespace Go.Proofs.YtddifbimlmkcbaaGreatDoor
open Go.RowKit Go.ChangeMaps Go.MapKept

/-- The document's events in a row. -/
def REvRow (w : World) (v : Value) (L : List (Value × Ev)) : Prop := Row w 63 13 v L.length (rEvsCells L) ∧ ∀ x ∈ L, KeysAt w x.1 x.2.cmd.keys
theorem REvRow.below {W W' : World} {v : Value} {L : List (Value × Ev)} (hr : REvRow W v L) (hb : Below W.heap.size W W') : REvRow W' v L := ⟨hr.1.below hb, fun x hx => (hr.2 x hx).below hb⟩
theorem REvRow.kept {M : Nat → Prop} {W W' : World} {v : Value} {L : List (Value × Ev)} (hr : REvRow W v L) (hc : Chg M W W') (hM : ∀ k, M k → ¬ Tag W k 63 ∧ ¬ Tag W k 9) : REvRow W' v L :=
  ⟨hr.1.kept hc (fun g hg e => (hM g e).1 (hr.1.tag hg)), fun x hx => (hr.2 x hx).kept hc (fun g hg e => (hM g e).2 ((hr.2 x hx).tag hg))⟩
theorem rEvsCells_len : ∀ L : List (Value × Ev), (rEvsCells L).length = L.length * 13
  | [] => rfl
  | x :: L => by
    show (rEvCells x.1 x.2 ++ rEvsCells L).length = _
    rw [List.length_append, rEvsCells_len L, List.length_cons]
    show 13 + _ = _
    omega
theorem rEvsCells_drop : ∀ (L : List (Value × Ev)) (k : Nat), (rEvsCells L).drop (k * 13) = rEvsCells (L.drop k)
  | L, 0 => by simp
  | [], k + 1 => by simp [rEvsCells]
  | x :: L, k + 1 => by
    show (rEvCells x.1 x.2 ++ rEvsCells L).drop ((k + 1) * 13) = rEvsCells (L.drop k)
    rw [show (k + 1) * 13 = (rEvCells x.1 x.2).length + k * 13 from by show _ = 13 + _; omega, List.drop_append, List.drop_of_length_le (by omega), List.nil_append, Nat.add_sub_cancel_left]
    exact rEvsCells_drop L k
theorem revs_from {A : Addr} {n c k : Nat} (h1 : k ≤ n) (h2 : n ≤ c) (_hm : c ≤ maxLen) (W : World) : (Instr.slice 60 (.slice (some A) n c) (some (.int .i64 (k : Int))) none none).run Tryz.prog W = .ok (.slice (some (if c = k then A else A.add (k * 13))) (n - k) (c - k)) W := by
  unfold maxLen at _hm
  obtain ⟨i0, hi, hz0, hz1, hz2⟩ := info_parts infoREv
  have i1 : (0 : Int) ≤ (k : Int) := by omega
  have i2 : (k : Int) ≤ (n : Int) := by omega
  have i3 : (n : Int) ≤ (c : Int) := by omega
  have h7 := Tryz.underlying60
  go_simp
  split <;> rfl
theorem revs_from_nil (W : World) : (Instr.slice 60 (.slice none 0 0) (some (.int .i64 ((0 : Nat) : Int))) none none).run Tryz.prog W = .ok (.slice none 0 0) W := by
  have h7 := Tryz.underlying60
  obtain ⟨i0, hi, hz0, hz1, hz2⟩ := info_parts infoREv
  go_simp
/-- 'l[k:]' of the document's events. -/
theorem revs_cut {w : World} {v : Value} {L : List (Value × Ev)} (h : REvRow w v L) {k : Nat} (hk : k ≤ L.length) :
    ∃ a c, (∀ W : World, (Instr.slice 60 v (some (.int .i64 (k : Int))) none none).run Tryz.prog W = .ok (.slice a (L.length - k) c) W) ∧ REvRow w (.slice a (L.length - k) c) (L.drop k) := by
  obtain ⟨⟨hl, a, c, rfl, h1, h2, h3, h4, h5⟩, hkeys⟩ := h
  have hkd : ∀ x ∈ L.drop k, KeysAt w x.1 x.2.cmd.keys := fun x hx => hkeys x (List.mem_of_mem_drop hx)
  cases a with
  | none =>
    obtain rfl := h3 rfl
    obtain rfl : L = [] := List.eq_nil_of_length_eq_zero (by omega)
    obtain rfl : k = 0 := by simpa using hk
    exact ⟨none, 0, revs_from_nil, ⟨Row.nil _ _ _, fun x hx => by cases hx⟩⟩
  | some A =>
    refine ⟨_, _, revs_from hk h1 h2, ⟨⟨by rw [rEvsCells_len], _, _, by rw [List.length_drop], by rw [List.length_drop]; omega, by omega, (fun h => by cases h), ?_, ?_⟩, hkd⟩⟩
    · intro g hg
      refine h4 g ?_
      rw [← hg]
      show some A.block = some (if c = k then A else A.add (k * 13)).block
      split
      · rfl
      · unfold Addr.add; split <;> rfl
    · by_cases e : L.drop k = []
      · left; rw [e]; rfl
      · right
        have hlt : k < L.length := by
          refine Nat.lt_of_not_le fun hle => e (List.drop_eq_nil_of_le hle)
        rcases h5 with h5 | ⟨g, o, he, hc⟩
        · have := rEvsCells_len L
          rw [h5] at this
          simp at this
          omega
        · obtain rfl := Option.some.inj he
          refine ⟨g, o + k * 13, by rw [if_neg (by omega), Addr.add_mid], fun j x hx => ?_⟩
          rw [← rEvsCells_drop, List.getElem?_drop] at hx
          rw [Nat.add_assoc]
          exact hc _ _ hx
theorem few_more (a b : List UInt8) : (refEv a).1.length ≤ (refEv (a ++ b)).1.length := by
  rw [(feed_more a b).1, List.length_append]
  omega
end Go.Proofs.YtddifbimlmkcbaaGreatDoor
