/- Bytes cut in two; events appended to events: what the laws of layer 30 share. No condition. -/
import Derived.Test.YtddifbimlmkcbaaGreatDoorLowH
import Derived.Test.YtddifbimlmkcbaaGreatDoorLowB
import Derived.Maps.AppendAt
namespace Go.Proofs.YtddifbimlmkcbaaGreatDoor
open Go.RowKit Go.ChangeMaps Go.MapKept

theorem bytes_cut_from {A : Addr} {n c k : Nat} (h1 : k ≤ n) (h2 : n ≤ c) (_hm : c ≤ maxLen) (W : World) : (Instr.slice 22 (.slice (some A) n c) (some (.int .i64 (k : Int))) none none).run Tryz.prog W = .ok (.slice (some (if c = k then A else A.add k)) (n - k) (c - k)) W := by
  unfold maxLen at _hm
  have i1 : (0 : Int) ≤ (k : Int) := by omega
  have i2 : (k : Int) ≤ (n : Int) := by omega
  have i3 : (n : Int) ≤ (c : Int) := by omega
  have h7 := Tryz.underlying22
  go_simp
  split <;> rfl
theorem bytes_cut_to {A : Addr} {n c k : Nat} (h1 : k ≤ n) (h2 : n ≤ c) (W : World) : (Instr.slice 22 (.slice (some A) n c) none (some (.int .i64 (k : Int))) none).run Tryz.prog W = .ok (.slice (some A) k c) W := by
  have h4 : (0 : Int) ≤ (k : Int) := by omega
  have h6 : (k : Int) ≤ (c : Int) := by omega
  have h7 := Tryz.underlying22
  go_simp
theorem bytes_nil_to (W : World) : (Instr.slice 22 (.slice none 0 0) none (some (.int .i64 ((0 : Nat) : Int))) none).run Tryz.prog W = .ok (.slice none 0 0) W := by
  have h7 := Tryz.underlying22
  go_simp
theorem bytes_nil_from (W : World) : (Instr.slice 22 (.slice none 0 0) (some (.int .i64 ((0 : Nat) : Int))) none none).run Tryz.prog W = .ok (.slice none 0 0) W := by
  have h7 := Tryz.underlying22
  go_simp
theorem addr_block (A : Addr) (k : Nat) : (A.add k).block = A.block := by
  unfold Addr.add
  split <;> rfl
/-- 'b[:k]' and 'b[k:]' of bytes that are read. -/
theorem brow_cut {w : World} {bv : Value} {bl : List UInt8} (h : BRow w bv bl) {k : Nat} (hk : k ≤ bl.length) :
    ∃ a1 c1 a2 c2, (∀ W : World, (Instr.slice 22 bv none (some (.int .i64 (k : Int))) none).run Tryz.prog W = .ok (.slice a1 k c1) W) ∧ (∀ W : World, (Instr.slice 22 bv (some (.int .i64 (k : Int))) none none).run Tryz.prog W = .ok (.slice a2 (bl.length - k) c2) W) ∧
      BRow w (.slice a1 k c1) (bl.take k) ∧ BRow w (.slice a2 (bl.length - k) c2) (bl.drop k) ∧ (Value.slice a1 k c1).ownBlock = bv.ownBlock ∧ (Value.slice a2 (bl.length - k) c2).ownBlock = bv.ownBlock := by
  obtain ⟨a, c, rfl, h1, h2, h3, h4⟩ := h
  have ht : (bl.take k).length = k := by rw [List.length_take]; omega
  have hd : (bl.drop k).length = bl.length - k := List.length_drop
  cases a with
  | none =>
    obtain rfl := h3 rfl
    obtain rfl : bl = [] := List.eq_nil_of_length_eq_zero (by omega)
    obtain rfl : k = 0 := by simpa using hk
    have hb : BRow w (.slice none 0 0) [] := ⟨none, 0, rfl, Nat.le_refl _, by simp [maxLen], fun _ => rfl, .inl rfl⟩
    exact ⟨none, 0, none, 0, bytes_nil_to, bytes_nil_from, hb, hb, rfl, rfl⟩
  | some A =>
    refine ⟨some A, c, some (if c = k then A else A.add k), c - k, bytes_cut_to hk h1, bytes_cut_from hk h1 h2, ?_, ?_, rfl, ?_⟩
    · refine ⟨some A, c, by rw [ht], by rw [ht]; omega, h2, (fun h => by cases h), ?_⟩
      rcases h4 with rfl | ⟨g, o, ha, hg, h5⟩
      · exact .inl (by simp)
      · refine .inr ⟨g, o, ha, hg, fun j x hx => ?_⟩
        have hj : j < k := by have := (List.getElem?_eq_some_iff.1 hx).1; rw [ht] at this; exact this
        rw [List.getElem?_take, if_pos hj] at hx
        exact h5 j x hx
    · refine ⟨some (if c = k then A else A.add k), c - k, by rw [hd], by rw [hd]; omega, by omega, (fun h => by cases h), ?_⟩
      by_cases hck : c = k
      · exact .inl (List.eq_nil_of_length_eq_zero (by rw [hd]; omega))
      · rcases h4 with rfl | ⟨g, o, ha, hg, h5⟩
        · exact .inl (by simp)
        · obtain rfl := Option.some.inj ha
          refine .inr ⟨g, o + k, by rw [if_neg hck]; simp [Addr.add], hg, fun j x hx => ?_⟩
          rw [List.getElem?_drop] at hx
          rw [show o + k + j = o + (k + j) from by omega]
          exact h5 (k + j) x hx
    · show some (if c = k then A else A.add k).block = some A.block
      split
      · rfl
      · rw [addr_block]
/-- The cells that are appended. -/
theorem row_news {w : World} {e : TypeId} {sz n c : Nat} {A : Addr} {xs : List Value} (h : Row w e sz (.slice (some A) n c) n xs) : ∀ j u, xs[j]? = some u → w.cell? (A.add j) = some u := fun j u hu => by
  obtain ⟨g, o, c', he, _, hc, _⟩ := h.at hu
  obtain ⟨ha, -, -⟩ := slice_inj he
  obtain rfl := Option.some.inj ha
  rw [show (⟨g, o, none⟩ : Addr).add j = ⟨g, o + j, none⟩ from by simp [Addr.add]]
  exact hc
theorem evs_one {w : World} {L : List (Value × Ev)} (h : ∀ x ∈ L, KeysAt w x.1 x.2.cmd.keys) : ∀ u ∈ evsCells L, u.oneCell' = true := fun u hu => by
  obtain ⟨x, hx, hu⟩ := List.mem_flatMap.1 hu
  obtain ⟨a, c, he⟩ := (h x hx).len
  simp only [evCells, cmdCells, List.cons_append, List.nil_append, List.mem_cons, List.not_mem_nil, or_false] at hu
  rcases hu with rfl | rfl | rfl | rfl | rfl | rfl | rfl | rfl | rfl | rfl | rfl | rfl | rfl <;> first | rfl | (rw [he]; rfl)
theorem evsCells_append (L M : List (Value × Ev)) : evsCells (L ++ M) = evsCells L ++ evsCells M := by simp [evsCells]
/-- Events of one's own, to which others are appended. -/
structure Parts (w : World) (pv : Value) (L : List (Value × Ev)) (W : World) : Prop where
  row : W.ownsRow w.heap.size 44 13 pv L.length (evsCells L)
  keys : ∀ x ∈ L, KeysAt W x.1 x.2.cmd.keys
theorem Parts.kept {w : World} {pv : Value} {L : List (Value × Ev)} {W W' : World} (h : Parts w pv L W) {M : Nat → Prop} (hc : Chg M W W') (hM : ∀ k, M k → ¬ Tag W k 44 ∧ ¬ Tag W k 9) : Parts w pv L W' :=
  ⟨owns_grow h.row hc (fun g hg e => (hM g e).1 (owns_tag h.row hg)), fun x hx => (h.keys x hx).kept hc (fun g hg e => (hM g e).2 ((h.keys x hx).tag hg))⟩
theorem Parts.push {w : World} {pv : Value} {L : List (Value × Ev)} {W w1 : World} (h : Parts w pv L W) {v' : Value} {M : List (Value × Ev)} (hk : ∀ x ∈ M, KeysAt W x.1 x.2.cmd.keys)
    (hown : w1.ownsRow w.heap.size 44 13 v' (L.length + M.length) (evsCells L ++ evsCells M)) (hgr : W.grownBy w1 pv.ownBlock) : Parts w v' (L ++ M) w1 ∧ Chg (fun k => pv.ownBlock = some k) W w1 := by
  have hc1 : Chg (fun k => pv.ownBlock = some k) W w1 := Chg.of_grown hgr (fun _ _ e => e)
  have hno : ∀ g, pv.ownBlock = some g → ¬ Tag W g 9 := fun g hg e => absurd ((owns_tag h.row hg).one e) (by decide)
  refine ⟨⟨by rw [List.length_append, evsCells_append]; exact hown, fun x hx => ?_⟩, hc1⟩
  rcases List.mem_append.1 hx with hx | hx
  · exact (h.keys x hx).kept hc1 (fun g hg e => hno g e ((h.keys x hx).tag hg))
  · exact (hk x hx).kept hc1 (fun g hg e => hno g e ((hk x hx).tag hg))
end Go.Proofs.YtddifbimlmkcbaaGreatDoor
