/- The law's comparison of the feed's events with the document's: true where they are alike. No condition. -/
import Derived.Test.YtahpjhnbjkjkiaaGreatDoorFeedRefIn
namespace Go.Proofs.YtahpjhnbjkjkiaaGreatDoor
open Go.RowKit Go.ChangeMaps Go.MapKept

theorem told_le30 (s : List UInt8) : (parseL s).2 ≤ 5 := by
  by_cases hlen : 2048 < s.length
  · unfold parseL
    rw [if_pos hlen]; decide
  cases hw : words s with
  | nil => unfold parseL; rw [if_neg hlen, hw]; decide
  | cons name l =>
    rw [parseL_some hlen hw]
    split
    · decide
    · rcases parseW_is (verbOf name) (isQuiet (verbOf name) l) (tailOf (verbOf name) l) with ⟨_, h2⟩ | ⟨_, _, ht⟩
      · omega
      · rw [ht]; split <;> decide
/-- An event that tells something has no command. -/
def Bare (l : List Ev) : Prop := ∀ e ∈ l, e.told ≤ 6 ∧ (e.told = 0 ∨ e = toldE e.told)
theorem bare_nil : Bare [] := fun e h => by cases h
theorem bare_told (t : Nat) (ht : t ≤ 6) : Bare [toldE t] := fun e h => by
  obtain rfl : e = toldE t := by simpa using h
  exact ⟨ht, .inr rfl⟩
theorem bare_cmd (c : Cmd) (d : List UInt8) : Bare [⟨c, d, 0⟩] := fun e h => by
  obtain rfl : e = ⟨c, d, 0⟩ := by simpa using h
  exact ⟨by show 0 ≤ 6; omega, .inl rfl⟩
theorem line_none (st : FSt) (s : List UInt8) : Bare (lineF st s).2 := by
  unfold lineF
  dsimp only
  split
  · exact bare_told 5 (by omega)
  · split
    · split
      · exact bare_nil
      · exact bare_cmd _ _
    · exact bare_told _ (Nat.le_succ_of_le (told_le30 _))
theorem step_none (st : FSt) (c : UInt8) : Bare (stepF st c).2 := by
  unfold stepF
  split
  · unfold gatherF
    split
    · exact line_none _ _
    · split
      · exact bare_told 3 (by omega)
      · exact bare_nil
  · split
    · exact bare_nil
    · split
      · split
        · exact bare_nil
        · exact bare_told 6 (by omega)
      · split
        · split
          · exact bare_cmd _ _
          · exact bare_told 6 (by omega)
        · split
          · exact bare_nil
          · exact bare_nil
theorem run_none : ∀ (bl : List UInt8) (st : FSt), ∀ e ∈ (runF st bl).2, e.told ≤ 6 ∧ (e.told = 0 ∨ e = toldE e.told)
  | [], _, e, he => by cases he
  | c :: bl, st, e, he => by
    rw [runF_cons] at he
    rcases List.mem_append.1 he with h | h
    · exact step_none st c e h
    · exact run_none bl _ e h
theorem sc_same {w : World} {k1 k2 : Value} {c : Cmd} (h1 : KeysAt w k1 c.keys) (h2 : KeysAt w k2 c.keys) :
    Calls Tryz.prog 53 #[cmdV k1 c, cmdV k2 c] w fun e w' => e = .returned (.bool true) ∧ Below w.heap.size w w' := by
  obtain ⟨a1, c1, rfl⟩ := h1.len
  obtain ⟨a2, c2, rfl⟩ := h2.len
  have hm := h1.max
  unfold maxLen at hm
  obtain ⟨w2, hw2⟩ : ∃ w2, w2 = (w.alloc (.cells (cmdCells (.slice a1 c.keys.length c1) c).toArray 44)).alloc (.cells (cmdCells (.slice a2 c.keys.length c2) c).toArray 82) := ⟨_, rfl⟩
  have hb2 : Below w.heap.size w w2 := by rw [hw2]; exact ((Below.refl _ _).alloc (Nat.le_refl _) _).alloc (by simp) _
  have r1 := h1.below hb2
  have r2 := h2.below hb2
  have q1 : ∀ m, (w2.drewN m).cell? ⟨w.heap.size, 1, none⟩ = some (.slice a1 c.keys.length c1) := fun m => by
    have : w2.heap[w.heap.size]? = some (.cells (cmdCells (.slice a1 c.keys.length c1) c).toArray 44 (0, 0)) := by
      rw [hw2, heap_at, if_neg (by simp), heap_at, if_pos rfl]
    exact (block_cell this 1).1
  have q2 : ∀ m, (w2.drewN m).cell? ⟨w.heap.size + 1, 1, none⟩ = some (.slice a2 c.keys.length c2) := fun m => by
    have : w2.heap[w.heap.size + 1]? = some (.cells (cmdCells (.slice a2 c.keys.length c2) c).toArray 82 (0, 0)) := by
      rw [hw2, heap_at, if_pos (by simp)]
    exact (block_cell this 1).1
  have HB2 := Lib.hid hb2
  have R1 := Lib.hid r1
  have R2 := Lib.hid r2
  have Q1 := Lib.hid q1
  have Q2 := Lib.hid q2
  clear h1 h2 hb2 r1 r2 q1 q2
  go_enter Tryz.func53, Tryz.ntmps53
  go_wp2_with fail
  go_loopw [5] (fun i wr => ∃ j m : Nat, j ≤ c.keys.length ∧ i = .int .i64 (j : Int) ∧ wr = w2.drewN m) (fun i _ => c.keys.length - (intOf i).toNat)
  case atStart => exact ⟨0, 0, Nat.zero_le _, rfl, hw2.symm⟩
  case round =>
    obtain ⟨j, m, hj, rfl, rfl⟩ := hrel
    clear hw2
    have q1 := Q1.out m
    have q2 := Q2.out m
    have q1' := fun m' => Q1.out m'
    have q2' := fun m' => Q2.out m'
    by_cases hlt : j < c.keys.length
    · obtain ⟨x, hx⟩ : ∃ x, c.keys[j]? = some x := ⟨_, List.getElem?_eq_getElem hlt⟩
      obtain ⟨g1, o1, cc1, he1, _, hc1, _⟩ := R1.out.at (k := j) (x := sv x) (by rw [List.getElem?_map, hx]; rfl)
      obtain ⟨g2, o2, cc2, he2, _, hc2, _⟩ := R2.out.at (k := j) (x := sv x) (by rw [List.getElem?_map, hx]; rfl)
      have i1 := fun W => idx_str' (c := c1) (slice_inj he1).1 hlt W
      have i2 := fun W => idx_str' (c := c2) (slice_inj he2).1 hlt W
      clear he1 he2 hx
      go_wp2_with fail
      go_quiet (fail)
      go_wp2_with fail
      go_roundw
      case rel => exact ⟨j + 1, _, by omega, by go_num, rfl⟩
      case measure => simp [intOf]; omega
    · go_wp2_with fail
      go_ret
      exact ⟨rfl, ⟨HB2.out.os, HB2.out.tape, HB2.out.output, HB2.out.size, HB2.out.block⟩⟩
set_option maxRecDepth 100000 in
set_option maxHeartbeats 4000000 in
theorem none_any {w : World} {a : Option Addr} {n : Nat} : Calls Tryz.prog 54 #[cmdV (.slice a 0 n) noCmd] w fun e w' => e = .returned (.bool true) ∧ Below w.heap.size w w' := by
  rw [show cmdV (.slice a 0 n) noCmd = .agg #[.int .u8 0, .slice a 0 n, .int .u8 0, .string ⟨#[]⟩, .string ⟨#[]⟩, .int .u32 0, .int .i64 0, .int .u64 0, .int .u64 0, .int .i64 0, .bool false] from rfl]
  have hf : ∀ W : World, (Instr.field 44 (.agg #[.int .u8 0, .slice none 0 0, .int .u8 0, .string ⟨#[]⟩, .string ⟨#[]⟩, .int .u32 0, .int .i64 0, .int .u64 0, .int .u64 0, .int .i64 0, .bool false]) 2).run Tryz.prog W = .ok (.agg #[.int .u8 0, .string ⟨#[]⟩, .string ⟨#[]⟩, .int .u32 0, .int .i64 0, .int .u64 0, .int .u64 0]) W := fun W => by kernel_rfl
  go_enter Tryz.func54, Tryz.ntmps54
  go_wp2_with fail
  go_ret
  exact ⟨rfl, (Below.refl _ _).alloc (Nat.le_refl _) _⟩
theorem rEvs_cell {L : List (Value × Ev)} {k j : Nat} {ke : Value} {ev : Ev} {x : Value} (h : L[k]? = some (ke, ev)) (hx : (rEvCells ke ev)[j]? = some x) : (rEvsCells L)[k * 13 + j]? = some x := by
  induction L generalizing k with
  | nil => simp at h
  | cons y L ih =>
    have hj : j < 13 := by have := (List.getElem?_eq_some_iff.1 hx).1; simpa using this
    show (rEvCells y.1 y.2 ++ rEvsCells L)[k * 13 + j]? = _
    cases k with
    | zero =>
      obtain rfl : y = (ke, ev) := by simpa using h
      rw [Nat.zero_mul, Nat.zero_add, List.getElem?_append_left (by simpa using hj)]
      exact hx
    | succ k =>
      rw [List.getElem?_append_right (by simp; omega)]
      have := ih (k := k) (by simpa using h)
      rw [← this]
      congr 1
      simp
      omega
theorem REvRow.at {w : World} {v : Value} {L : List (Value × Ev)} (h : REvRow w v L) {k : Nat} {ke : Value} {ev : Ev} (hk : L[k]? = some (ke, ev)) :
    ∃ g o c, v = .slice (some ⟨g, o, none⟩) L.length c ∧ (∀ j x, (rEvCells ke ev)[j]? = some x → w.cell? ⟨g, o + (k * 13 + j), none⟩ = some x) ∧ KeysAt w ke ev.cmd.keys := by
  obtain ⟨g, o, c, rfl, _, _, _, _, hcell⟩ := h.1.some (by
    intro e
    have := rEvs_cell (j := 0) hk rfl
    rw [e] at this
    simp at this)
  exact ⟨g, o, c, rfl, fun j x hx => (hcell _ _ (rEvs_cell hk hx)).1, h.2 _ (List.mem_of_getElem? hk)⟩
theorem idx_rev {a : Option Addr} {g o n c k : Nat} (ha : a = some ⟨g, o, none⟩) (hk : k < n) (W : World) : (Instr.indexAt 33 (.slice a n c) (.int .i64 (k : Int))).run Tryz.prog W = .ok (.pointer (some ⟨g, o + k * 13, none⟩)) W := by
  subst ha
  have h0 : (0 : Int) ≤ (k : Int) := by omega
  have h1 : (k : Int) < (n : Int) := by omega
  have h2 := Tryz.underlying33
  obtain ⟨i0, hi, hz0, hz1, hz2⟩ := info_parts infoREv
  go_simp
theorem none_cmd {w : World} {a : Option Addr} {n : Nat} {c : Cmd} (hc : c = noCmd) : Calls Tryz.prog 54 #[cmdV (.slice a c.keys.length n) c] w fun e w' => e = .returned (.bool true) ∧ Below w.heap.size w w' := by
  subst hc
  exact none_any
def SameS (w : World) (ev : Ev) (T : Int) (g1 b1 g2 b2 c1 c2 : Nat) (a1 a2 : Option Addr) (W : World) : Prop := W.cell? ⟨g1, b1 + 12, none⟩ = some (.int .u8 T) ∧ W.cell? ⟨g1, b1, none⟩ = some (.int .u8 (ev.cmd.verb : Int)) ∧ W.cell? ⟨g1, b1 + 1, none⟩ = some (.slice a1 ev.cmd.keys.length c1) ∧ W.cell? ⟨g1, b1 + 2, none⟩ = some (.int .u8 (ev.cmd.cverb : Int)) ∧ W.cell? ⟨g1, b1 + 3, none⟩ = some (sv ev.cmd.key) ∧ W.cell? ⟨g1, b1 + 4, none⟩ = some (sv ev.cmd.value) ∧ W.cell? ⟨g1, b1 + 5, none⟩ = some (.int .u32 (ev.cmd.flags : Int)) ∧ W.cell? ⟨g1, b1 + 6, none⟩ = some (.int .i64 ev.cmd.exp) ∧ W.cell? ⟨g1, b1 + 7, none⟩ = some (.int .u64 (ev.cmd.id : Int)) ∧ W.cell? ⟨g1, b1 + 8, none⟩ = some (.int .u64 (ev.cmd.by' : Int)) ∧ W.cell? ⟨g1, b1 + 9, none⟩ = some (.int .i64 ev.cmd.bytes) ∧ W.cell? ⟨g1, b1 + 10, none⟩ = some (.bool ev.cmd.quiet) ∧ W.cell? ⟨g2, b2, none⟩ = some (.int .u8 (ev.cmd.verb : Int)) ∧ W.cell? ⟨g2, b2 + 1, none⟩ = some (.slice a2 ev.cmd.keys.length c2) ∧ W.cell? ⟨g2, b2 + 2, none⟩ = some (.int .u8 (ev.cmd.cverb : Int)) ∧ W.cell? ⟨g2, b2 + 3, none⟩ = some (sv ev.cmd.key) ∧ W.cell? ⟨g2, b2 + 4, none⟩ = some (sv ev.cmd.value) ∧ W.cell? ⟨g2, b2 + 5, none⟩ = some (.int .u32 (ev.cmd.flags : Int)) ∧ W.cell? ⟨g2, b2 + 6, none⟩ = some (.int .i64 ev.cmd.exp) ∧ W.cell? ⟨g2, b2 + 7, none⟩ = some (.int .u64 (ev.cmd.id : Int)) ∧ W.cell? ⟨g2, b2 + 8, none⟩ = some (.int .u64 (ev.cmd.by' : Int)) ∧ W.cell? ⟨g2, b2 + 9, none⟩ = some (.int .i64 ev.cmd.bytes) ∧ W.cell? ⟨g2, b2 + 10, none⟩ = some (.bool ev.cmd.quiet) ∧ KeysAt W (.slice a1 ev.cmd.keys.length c1) ev.cmd.keys ∧ KeysAt W (.slice a2 ev.cmd.keys.length c2) ev.cmd.keys ∧ Below w.heap.size w W
theorem same_keep {w : World} {ev : Ev} {T : Int} {g1 b1 g2 b2 c1 c2 : Nat} {a1 a2 : Option Addr} {W W' : World} (hb : Below W.heap.size W W') (h : SameS w ev T g1 b1 g2 b2 c1 c2 a1 a2 W) : SameS w ev T g1 b1 g2 b2 c1 c2 a1 a2 W' := by
  have hk := fun (p j : Nat) (x : Value) (hx : W.cell? ⟨p, j, none⟩ = some x) => (hb.cell (p := ⟨p, j, none⟩) (cell_lt hx)).trans hx
  obtain ⟨h0, h1, h2, h3, h4, h5, h6, h7, h8, h9, h10, h11, h12, h13, h14, h15, h16, h17, h18, h19, h20, h21, h22, k1, k2, hl⟩ := h
  exact ⟨hk _ _ _ h0, hk _ _ _ h1, hk _ _ _ h2, hk _ _ _ h3, hk _ _ _ h4, hk _ _ _ h5, hk _ _ _ h6, hk _ _ _ h7, hk _ _ _ h8, hk _ _ _ h9, hk _ _ _ h10, hk _ _ _ h11, hk _ _ _ h12, hk _ _ _ h13, hk _ _ _ h14, hk _ _ _ h15, hk _ _ _ h16, hk _ _ _ h17, hk _ _ _ h18, hk _ _ _ h19, hk _ _ _ h20, hk _ _ _ h21, hk _ _ _ h22, k1.below hb, k2.below hb, hl.trans (hb.mono hl.size)⟩
set_option maxRecDepth 100000 in
set_option maxHeartbeats 12800000 in
theorem same30_any {w : World} {aa : Option Addr} {v2 : Value} {L1 L2 : List (Value × Ev)} (h1 : EvRow w (.slice aa L1.length L1.length) L1) (h2 : REvRow w v2 L2) (hm : L1.map (·.2) = L2.map (·.2)) (hbare : Bare (L1.map (·.2))) :
    Calls Tryz.prog 14 #[.slice aa L1.length L1.length, v2] w fun e w' => e = .returned (.bool true) ∧ Below w.heap.size w w' := by
  have hlen : L2.length = L1.length := by simpa using (congrArg List.length hm).symm
  obtain ⟨ab, bc, rfl⟩ := h2.1.len
  have hmx := h1.1.max
  unfold maxLen at hmx
  have HA := Lib.hid h1
  have HB := Lib.hid h2
  have HM := Lib.hid hm
  have HBARE := Lib.hid hbare
  have hpair : ∀ (j : Nat) (x : Value × Ev), L1[j]? = some x → ∃ k2, L2[j]? = some (k2, x.2) := fun j x hx => by
    have h := congrArg (fun l => l[j]?) hm
    simp only [List.getElem?_map, hx, Option.map_some] at h
    obtain ⟨y, hy, he⟩ := Option.map_eq_some_iff.1 h.symm
    exact ⟨y.1, by rw [hy, ← he]⟩
  have HP := Lib.hid hpair
  clear h1 h2 hm hbare hpair
  rw [hlen] at HB ⊢
  have HLN := Lib.hid hlen
  clear hlen
  go_enter Tryz.func14, Tryz.ntmps14
  go_wp2_with fail
  go_loopw [5] (fun s5 wr => ∃ j : Nat, j ≤ L1.length ∧ s5 = .int .i64 (j : Int) ∧ EvRow wr (.slice aa L1.length L1.length) L1 ∧ REvRow wr (.slice ab L1.length bc) L2 ∧ Below w.heap.size w wr) (fun s5 _ => L1.length - (intOf s5).toNat)
  case atStart => exact ⟨0, Nat.zero_le _, rfl, HA.out, HB.out, Below.refl _ _⟩
  case round =>
    obtain ⟨j, hj, rfl, h1r, h2r, hlo⟩ := hrel
    by_cases hlt : j < L1.length
    · obtain ⟨⟨k1, ev⟩, hx1⟩ : ∃ x, L1[j]? = some x := ⟨_, List.getElem?_eq_getElem hlt⟩
      obtain ⟨k2, hx2⟩ := HP.out j _ hx1
      have hba := HBARE.out ev (List.mem_map.2 ⟨_, List.mem_of_getElem? hx1, rfl⟩)
      have hh1 : ∀ W, Below w.heap.size w W → EvRow W (.slice aa L1.length L1.length) L1 := fun W hb => HA.out.below hb
      have hh2 : ∀ W, Below w.heap.size w W → REvRow W (.slice ab L1.length bc) L2 := fun W hb => HB.out.below hb
      obtain ⟨g1, o1, cc1, hs1, hcell1, hk1⟩ := h1r.at hx1
      obtain ⟨g2, o2, cc2, hs2, hcell2, hk2⟩ := h2r.at hx2
      obtain ⟨rfl, -, -⟩ := slice_inj hs1
      obtain ⟨rfl, -, -⟩ := slice_inj hs2
      obtain ⟨b1, hb1⟩ : ∃ b, b = o1 + j * 13 := ⟨_, rfl⟩
      obtain ⟨b2, hb2⟩ : ∃ b, b = o2 + j * 13 := ⟨_, rfl⟩
      have i1 : ∀ W : World, (Instr.indexAt 31 (.slice (some ⟨g1, o1, none⟩) L1.length L1.length) (.int .i64 (j : Int))).run Tryz.prog W = .ok (.pointer (some ⟨g1, b1, none⟩)) W := fun W => by rw [hb1]; exact idx_ev rfl hlt W
      have i2 : ∀ W : World, (Instr.indexAt 33 (.slice (some ⟨g2, o2, none⟩) L1.length bc) (.int .i64 (j : Int))).run Tryz.prog W = .ok (.pointer (some ⟨g2, b2, none⟩)) W := fun W => by rw [hb2]; exact idx_rev rfl hlt W
      obtain ⟨a1, c1, rfl⟩ := hk1.len
      obtain ⟨a2, c2, rfl⟩ := hk2.len
      obtain ⟨T, hT⟩ : ∃ T : Int, T = (ev.told : Int) := ⟨_, rfl⟩
      have x0 : wr.cell? ⟨g1, b1, none⟩ = some (.int .u8 (ev.cmd.verb : Int)) := by
        have h := hcell1 0 _ rfl
        rwa [show o1 + (j * 13 + 0) = b1 from by omega] at h
      have x1 : wr.cell? ⟨g1, b1 + 1, none⟩ = some (.slice a1 ev.cmd.keys.length c1) := by
        have h := hcell1 1 _ rfl
        rwa [show o1 + (j * 13 + 1) = b1 + 1 from by omega] at h
      have x2 : wr.cell? ⟨g1, b1 + 2, none⟩ = some (.int .u8 (ev.cmd.cverb : Int)) := by
        have h := hcell1 2 _ rfl
        rwa [show o1 + (j * 13 + 2) = b1 + 2 from by omega] at h
      have x3 : wr.cell? ⟨g1, b1 + 3, none⟩ = some (sv ev.cmd.key) := by
        have h := hcell1 3 _ rfl
        rwa [show o1 + (j * 13 + 3) = b1 + 3 from by omega] at h
      have x4 : wr.cell? ⟨g1, b1 + 4, none⟩ = some (sv ev.cmd.value) := by
        have h := hcell1 4 _ rfl
        rwa [show o1 + (j * 13 + 4) = b1 + 4 from by omega] at h
      have x5 : wr.cell? ⟨g1, b1 + 5, none⟩ = some (.int .u32 (ev.cmd.flags : Int)) := by
        have h := hcell1 5 _ rfl
        rwa [show o1 + (j * 13 + 5) = b1 + 5 from by omega] at h
      have x6 : wr.cell? ⟨g1, b1 + 6, none⟩ = some (.int .i64 ev.cmd.exp) := by
        have h := hcell1 6 _ rfl
        rwa [show o1 + (j * 13 + 6) = b1 + 6 from by omega] at h
      have x7 : wr.cell? ⟨g1, b1 + 7, none⟩ = some (.int .u64 (ev.cmd.id : Int)) := by
        have h := hcell1 7 _ rfl
        rwa [show o1 + (j * 13 + 7) = b1 + 7 from by omega] at h
      have x8 : wr.cell? ⟨g1, b1 + 8, none⟩ = some (.int .u64 (ev.cmd.by' : Int)) := by
        have h := hcell1 8 _ rfl
        rwa [show o1 + (j * 13 + 8) = b1 + 8 from by omega] at h
      have x9 : wr.cell? ⟨g1, b1 + 9, none⟩ = some (.int .i64 ev.cmd.bytes) := by
        have h := hcell1 9 _ rfl
        rwa [show o1 + (j * 13 + 9) = b1 + 9 from by omega] at h
      have x10 : wr.cell? ⟨g1, b1 + 10, none⟩ = some (.bool ev.cmd.quiet) := by
        have h := hcell1 10 _ rfl
        rwa [show o1 + (j * 13 + 10) = b1 + 10 from by omega] at h
      have x11 : wr.cell? ⟨g1, b1 + 11, none⟩ = some (sv ev.data) := by
        have h := hcell1 11 _ rfl
        rwa [show o1 + (j * 13 + 11) = b1 + 11 from by omega] at h
      have x12 : wr.cell? ⟨g1, b1 + 12, none⟩ = some (.int .u8 T) := by
        have h := hcell1 12 _ rfl
        rwa [show o1 + (j * 13 + 12) = b1 + 12 from by omega, ← hT] at h
      have y0 : wr.cell? ⟨g2, b2, none⟩ = some (.int .u8 (ev.cmd.verb : Int)) := by
        have h := hcell2 0 _ rfl
        rwa [show o2 + (j * 13 + 0) = b2 from by omega] at h
      have y1 : wr.cell? ⟨g2, b2 + 1, none⟩ = some (.slice a2 ev.cmd.keys.length c2) := by
        have h := hcell2 1 _ rfl
        rwa [show o2 + (j * 13 + 1) = b2 + 1 from by omega] at h
      have y2 : wr.cell? ⟨g2, b2 + 2, none⟩ = some (.int .u8 (ev.cmd.cverb : Int)) := by
        have h := hcell2 2 _ rfl
        rwa [show o2 + (j * 13 + 2) = b2 + 2 from by omega] at h
      have y3 : wr.cell? ⟨g2, b2 + 3, none⟩ = some (sv ev.cmd.key) := by
        have h := hcell2 3 _ rfl
        rwa [show o2 + (j * 13 + 3) = b2 + 3 from by omega] at h
      have y4 : wr.cell? ⟨g2, b2 + 4, none⟩ = some (sv ev.cmd.value) := by
        have h := hcell2 4 _ rfl
        rwa [show o2 + (j * 13 + 4) = b2 + 4 from by omega] at h
      have y5 : wr.cell? ⟨g2, b2 + 5, none⟩ = some (.int .u32 (ev.cmd.flags : Int)) := by
        have h := hcell2 5 _ rfl
        rwa [show o2 + (j * 13 + 5) = b2 + 5 from by omega] at h
      have y6 : wr.cell? ⟨g2, b2 + 6, none⟩ = some (.int .i64 ev.cmd.exp) := by
        have h := hcell2 6 _ rfl
        rwa [show o2 + (j * 13 + 6) = b2 + 6 from by omega] at h
      have y7 : wr.cell? ⟨g2, b2 + 7, none⟩ = some (.int .u64 (ev.cmd.id : Int)) := by
        have h := hcell2 7 _ rfl
        rwa [show o2 + (j * 13 + 7) = b2 + 7 from by omega] at h
      have y8 : wr.cell? ⟨g2, b2 + 8, none⟩ = some (.int .u64 (ev.cmd.by' : Int)) := by
        have h := hcell2 8 _ rfl
        rwa [show o2 + (j * 13 + 8) = b2 + 8 from by omega] at h
      have y9 : wr.cell? ⟨g2, b2 + 9, none⟩ = some (.int .i64 ev.cmd.bytes) := by
        have h := hcell2 9 _ rfl
        rwa [show o2 + (j * 13 + 9) = b2 + 9 from by omega] at h
      have y10 : wr.cell? ⟨g2, b2 + 10, none⟩ = some (.bool ev.cmd.quiet) := by
        have h := hcell2 10 _ rfl
        rwa [show o2 + (j * 13 + 10) = b2 + 10 from by omega] at h
      have y11 : wr.cell? ⟨g2, b2 + 11, none⟩ = some (sv ev.data) := by
        have h := hcell2 11 _ rfl
        rwa [show o2 + (j * 13 + 11) = b2 + 11 from by omega] at h
      have y12 : wr.cell? ⟨g2, b2 + 12, none⟩ = some (.int .i64 T) := by
        have h := hcell2 12 _ rfl
        rwa [show o2 + (j * 13 + 12) = b2 + 12 from by omega, ← hT] at h
      have hw64 : IntKind.i64.wrap T = T := IntWalk.i64_in _ (by have := hba.1; omega)
      have HH1 := Lib.hid hh1
      have HH2 := Lib.hid hh2
      clear hh1 hh2 hs1 hs2 hcell1 hcell2 hb1 hb2 h1r h2r hx1 hx2
      by_cases ht : T = 0
      · have hT0 : T = 0 := ht
        rw [hT0] at x12 y12
        have t1 : T = 0 := hT0
        clear hT hba hw64 ht hT0
        subst t1
        go_wp2_with fail
        go_quiet (fail)
        go_upto_region 49 with fail
        refine wp_region_held_drew (S := fun W => W.cell? ⟨g1, b1 + 12, none⟩ = some (.int .u8 0) ∧ W.cell? ⟨g1, b1, none⟩ = some (.int .u8 (ev.cmd.verb : Int)) ∧ W.cell? ⟨g1, b1 + 1, none⟩ = some (.slice a1 ev.cmd.keys.length c1) ∧ W.cell? ⟨g1, b1 + 2, none⟩ = some (.int .u8 (ev.cmd.cverb : Int)) ∧ W.cell? ⟨g1, b1 + 3, none⟩ = some (sv ev.cmd.key) ∧ W.cell? ⟨g1, b1 + 4, none⟩ = some (sv ev.cmd.value) ∧ W.cell? ⟨g1, b1 + 5, none⟩ = some (.int .u32 (ev.cmd.flags : Int)) ∧ W.cell? ⟨g1, b1 + 6, none⟩ = some (.int .i64 ev.cmd.exp) ∧ W.cell? ⟨g1, b1 + 7, none⟩ = some (.int .u64 (ev.cmd.id : Int)) ∧ W.cell? ⟨g1, b1 + 8, none⟩ = some (.int .u64 (ev.cmd.by' : Int)) ∧ W.cell? ⟨g1, b1 + 9, none⟩ = some (.int .i64 ev.cmd.bytes) ∧ W.cell? ⟨g1, b1 + 10, none⟩ = some (.bool ev.cmd.quiet) ∧ W.cell? ⟨g2, b2, none⟩ = some (.int .u8 (ev.cmd.verb : Int)) ∧ W.cell? ⟨g2, b2 + 1, none⟩ = some (.slice a2 ev.cmd.keys.length c2) ∧ W.cell? ⟨g2, b2 + 2, none⟩ = some (.int .u8 (ev.cmd.cverb : Int)) ∧ W.cell? ⟨g2, b2 + 3, none⟩ = some (sv ev.cmd.key) ∧ W.cell? ⟨g2, b2 + 4, none⟩ = some (sv ev.cmd.value) ∧ W.cell? ⟨g2, b2 + 5, none⟩ = some (.int .u32 (ev.cmd.flags : Int)) ∧ W.cell? ⟨g2, b2 + 6, none⟩ = some (.int .i64 ev.cmd.exp) ∧ W.cell? ⟨g2, b2 + 7, none⟩ = some (.int .u64 (ev.cmd.id : Int)) ∧ W.cell? ⟨g2, b2 + 8, none⟩ = some (.int .u64 (ev.cmd.by' : Int)) ∧ W.cell? ⟨g2, b2 + 9, none⟩ = some (.int .i64 ev.cmd.bytes) ∧ W.cell? ⟨g2, b2 + 10, none⟩ = some (.bool ev.cmd.quiet) ∧ KeysAt W (.slice a1 ev.cmd.keys.length c1) ev.cmd.keys ∧ KeysAt W (.slice a2 ev.cmd.keys.length c2) ev.cmd.keys ∧ Below w.heap.size w W) (by kernel_rfl) (same_keep (w := w) (ev := ev) (T := 0) (g1 := g1) (b1 := b1) (g2 := g2) (b2 := b2) (Below.refl _ _).drew ⟨by assumption, by assumption, by assumption, by assumption, by assumption, by assumption, by assumption, by assumption, by assumption, by assumption, by assumption, by assumption, by assumption, by assumption, by assumption, by assumption, by assumption, by assumption, by assumption, by assumption, by assumption, by assumption, by assumption, by assumption, by assumption, by first | assumption | exact ⟨hlo.os, hlo.tape, hlo.output, hlo.size, hlo.block⟩⟩) (fun hHeld => ?_)
        refine wpAnyH_take (i := 0) (v := ?_) rfl (by kernel_rfl) (by kernel_rfl) (by kernel_rfl) (fun _ _ _ h => h) (Or.inl ⟨by rfl, ?_⟩) (by assumption) ?_
        rotate_left 1
        · ((intro w hSw; (try dsimp only at hSw); go_simp) <;> with_reducible rfl)
        try simp only [Act.put, List.setIfInBounds_toArray, List.set_cons_zero, List.set_cons_succ, List.getElem_toArray, List.getElem_cons_zero]
        refine wpAnyH_take (i := 1) (v := ?_) rfl (by kernel_rfl) (by kernel_rfl) (by kernel_rfl) (fun _ _ _ h => h) (Or.inl ⟨by rfl, ?_⟩) (by assumption) ?_
        rotate_left 1
        · ((intro w hSw; (try dsimp only at hSw); go_simp) <;> with_reducible rfl)
        try simp only [Act.put, List.setIfInBounds_toArray, List.set_cons_zero, List.set_cons_succ, List.getElem_toArray, List.getElem_cons_zero, List.getElem_cons_succ]
        refine wpAnyH_take (i := 2) (v := ?_) rfl (by kernel_rfl) (by kernel_rfl) (by kernel_rfl) (fun _ _ _ h => h) (Or.inl ⟨by rfl, ?_⟩) (by assumption) ?_
        rotate_left 1
        · ((intro w hSw; (try dsimp only at hSw); go_simp) <;> with_reducible rfl)
        try simp only [Act.put, List.setIfInBounds_toArray, List.set_cons_zero, List.set_cons_succ, List.getElem_toArray, List.getElem_cons_zero, List.getElem_cons_succ]
        refine wpAnyH_take (i := 3) (v := ?_) rfl (by kernel_rfl) (by kernel_rfl) (by kernel_rfl) (fun _ _ _ h => h) (Or.inl ⟨by rfl, ?_⟩) (by assumption) ?_
        rotate_left 1
        · ((intro w hSw; (try dsimp only at hSw); go_simp) <;> with_reducible rfl)
        try simp only [Act.put, List.setIfInBounds_toArray, List.set_cons_zero, List.set_cons_succ, List.getElem_toArray, List.getElem_cons_zero, List.getElem_cons_succ]
        refine wpAnyH_take (i := 4) (v := ?_) rfl (by kernel_rfl) (by kernel_rfl) (by kernel_rfl) (fun _ _ _ h => h) (Or.inl ⟨by rfl, ?_⟩) (by assumption) ?_
        rotate_left 1
        · ((intro w hSw; (try dsimp only at hSw); go_simp) <;> with_reducible rfl)
        try simp only [Act.put, List.setIfInBounds_toArray, List.set_cons_zero, List.set_cons_succ, List.getElem_toArray, List.getElem_cons_zero, List.getElem_cons_succ]
        refine wpAnyH_take (i := 5) (v := ?_) rfl (by kernel_rfl) (by kernel_rfl) (by kernel_rfl) (fun _ _ _ h => h) (Or.inl ⟨by rfl, ?_⟩) (by assumption) ?_
        rotate_left 1
        · ((intro w hSw; (try dsimp only at hSw); go_simp) <;> with_reducible rfl)
        try simp only [Act.put, List.setIfInBounds_toArray, List.set_cons_zero, List.set_cons_succ, List.getElem_toArray, List.getElem_cons_zero, List.getElem_cons_succ]
        refine wpAnyH_take (i := 6) (v := ?_) rfl (by kernel_rfl) (by kernel_rfl) (by kernel_rfl) (fun _ _ _ h => h) (Or.inl ⟨by rfl, ?_⟩) (by assumption) ?_
        rotate_left 1
        · ((intro w hSw; (try dsimp only at hSw); go_simp) <;> with_reducible rfl)
        try simp only [Act.put, List.setIfInBounds_toArray, List.set_cons_zero, List.set_cons_succ, List.getElem_toArray, List.getElem_cons_zero, List.getElem_cons_succ]
        refine wpAnyH_take (i := 7) (v := ?_) rfl (by kernel_rfl) (by kernel_rfl) (by kernel_rfl) (fun _ _ _ h => h) (Or.inl ⟨by rfl, ?_⟩) (by assumption) ?_
        rotate_left 1
        · ((intro w hSw; (try dsimp only at hSw); go_simp) <;> with_reducible rfl)
        try simp only [Act.put, List.setIfInBounds_toArray, List.set_cons_zero, List.set_cons_succ, List.getElem_toArray, List.getElem_cons_zero, List.getElem_cons_succ]
        refine wpAnyH_take (i := 8) (v := ?_) rfl (by kernel_rfl) (by kernel_rfl) (by kernel_rfl) (fun _ _ _ h => h) (Or.inl ⟨by rfl, ?_⟩) (by assumption) ?_
        rotate_left 1
        · ((intro w hSw; (try dsimp only at hSw); go_simp) <;> with_reducible rfl)
        try simp only [Act.put, List.setIfInBounds_toArray, List.set_cons_zero, List.set_cons_succ, List.getElem_toArray, List.getElem_cons_zero, List.getElem_cons_succ]
        refine wpAnyH_take (i := 9) (v := ?_) rfl (by kernel_rfl) (by kernel_rfl) (by kernel_rfl) (fun _ _ _ h => h) (Or.inl ⟨by rfl, ?_⟩) (by assumption) ?_
        rotate_left 1
        · ((intro w hSw; (try dsimp only at hSw); go_simp) <;> with_reducible rfl)
        try simp only [Act.put, List.setIfInBounds_toArray, List.set_cons_zero, List.set_cons_succ, List.getElem_toArray, List.getElem_cons_zero, List.getElem_cons_succ]
        refine wpAnyH_take (i := 10) (v := ?_) rfl (by kernel_rfl) (by kernel_rfl) (by kernel_rfl) (fun _ _ _ h => h) (Or.inl ⟨by rfl, ?_⟩) (by assumption) ?_
        rotate_left 1
        · ((intro w hSw; (try dsimp only at hSw); go_simp) <;> with_reducible rfl)
        try simp only [Act.put, List.setIfInBounds_toArray, List.set_cons_zero, List.set_cons_succ, List.getElem_toArray, List.getElem_cons_zero, List.getElem_cons_succ]
        refine wpAnyH_take (i := 11) (v := ?_) rfl (by kernel_rfl) (by kernel_rfl) (by kernel_rfl) (fun _ _ _ h => h) (Or.inl ⟨by rfl, ?_⟩) (by assumption) ?_
        rotate_left 1
        · ((intro w hSw; (try dsimp only at hSw); go_simp) <;> with_reducible rfl)
        try simp only [Act.put, List.setIfInBounds_toArray, List.set_cons_zero, List.set_cons_succ, List.getElem_toArray, List.getElem_cons_zero, List.getElem_cons_succ]
        refine wpAnyH_take (i := 12) (v := ?_) rfl (by kernel_rfl) (by kernel_rfl) (by kernel_rfl) (fun _ _ _ h => h) (Or.inl ⟨by rfl, ?_⟩) (by assumption) ?_
        rotate_left 1
        · ((intro w hSw; (try dsimp only at hSw); go_simp) <;> with_reducible rfl)
        try simp only [Act.put, List.setIfInBounds_toArray, List.set_cons_zero, List.set_cons_succ, List.getElem_toArray, List.getElem_cons_zero, List.getElem_cons_succ]
        refine wpAnyH_take (i := 13) (v := ?_) rfl (by kernel_rfl) (by kernel_rfl) (by kernel_rfl) (fun _ _ _ h => h) (Or.inl ⟨by rfl, ?_⟩) (by assumption) ?_
        rotate_left 1
        · ((intro w hSw; (try dsimp only at hSw); go_simp) <;> with_reducible rfl)
        try simp only [Act.put, List.setIfInBounds_toArray, List.set_cons_zero, List.set_cons_succ, List.getElem_toArray, List.getElem_cons_zero, List.getElem_cons_succ]
        refine wpAnyH_take (i := 14) (v := ?_) rfl (by kernel_rfl) (by kernel_rfl) (by kernel_rfl) (fun _ _ _ h => h) (Or.inl ⟨by rfl, ?_⟩) (by assumption) ?_
        rotate_left 1
        · ((intro w hSw; (try dsimp only at hSw); go_simp) <;> with_reducible rfl)
        try simp only [Act.put, List.setIfInBounds_toArray, List.set_cons_zero, List.set_cons_succ, List.getElem_toArray, List.getElem_cons_zero, List.getElem_cons_succ]
        refine wpAnyH_take (i := 15) (v := ?_) rfl (by kernel_rfl) (by kernel_rfl) (by kernel_rfl) (fun _ _ _ h => h) (Or.inl ⟨by rfl, ?_⟩) (by assumption) ?_
        rotate_left 1
        · ((intro w hSw; (try dsimp only at hSw); go_simp) <;> with_reducible rfl)
        try simp only [Act.put, List.setIfInBounds_toArray, List.set_cons_zero, List.set_cons_succ, List.getElem_toArray, List.getElem_cons_zero, List.getElem_cons_succ]
        refine wpAnyH_take (i := 16) (v := ?_) rfl (by kernel_rfl) (by kernel_rfl) (by kernel_rfl) (fun _ _ _ h => h) (Or.inl ⟨by rfl, ?_⟩) (by assumption) ?_
        rotate_left 1
        · ((intro w hSw; (try dsimp only at hSw); go_simp) <;> with_reducible rfl)
        try simp only [Act.put, List.setIfInBounds_toArray, List.set_cons_zero, List.set_cons_succ, List.getElem_toArray, List.getElem_cons_zero, List.getElem_cons_succ]
        refine wpAnyH_ready (rs := [17]) (by kernel_rfl) (by simp) ?_
        refine AllReadyH.cons rfl (fun K hK => ?_) AllReadyH.nil
        go_split_ands
        go_simp
        go_at_call 53
        refine (sc_same (c := ev.cmd) (k1 := .slice a1 ev.cmd.keys.length c1) (k2 := .slice a2 ev.cmd.keys.length c2) (by assumption) (by assumption)).mono ?_
        rintro e w9 ⟨rfl, hb9⟩
        refine hK.out _ _ (same_keep (w := w) (ev := ev) (T := 0) (g1 := g1) (b1 := b1) (g2 := g2) (b2 := b2) hb9 ⟨by assumption, by assumption, by assumption, by assumption, by assumption, by assumption, by assumption, by assumption, by assumption, by assumption, by assumption, by assumption, by assumption, by assumption, by assumption, by assumption, by assumption, by assumption, by assumption, by assumption, by assumption, by assumption, by assumption, by assumption, by assumption, by assumption⟩) (fun hHeld2 => ?_)
        clear hK K
        try simp only [Act.put, List.setIfInBounds_toArray, List.set_cons_zero, List.set_cons_succ, List.getElem_toArray, List.getElem_cons_zero, List.getElem_cons_succ]
        refine wpAnyH_take (i := 18) (v := ?_) rfl (by kernel_rfl) (by kernel_rfl) (by kernel_rfl) (fun _ _ _ h => h) (Or.inl ⟨by rfl, ?_⟩) (by assumption) ?_
        rotate_left 1
        · ((intro w hSw; (try dsimp only at hSw); go_simp) <;> with_reducible rfl)
        try simp only [Act.put, List.setIfInBounds_toArray, List.set_cons_zero, List.set_cons_succ, List.getElem_toArray, List.getElem_cons_zero, List.getElem_cons_succ]
        refine wpAnyH_take (i := 19) (v := ?_) rfl (by kernel_rfl) (by kernel_rfl) (by kernel_rfl) (fun _ _ _ h => h) (Or.inl ⟨by rfl, ?_⟩) (by assumption) ?_
        rotate_left 1
        · ((intro w hSw; (try dsimp only at hSw); go_simp) <;> with_reducible rfl)
        try simp only [Act.put, List.setIfInBounds_toArray, List.set_cons_zero, List.set_cons_succ, List.getElem_toArray, List.getElem_cons_zero, List.getElem_cons_succ]
        refine wpAnyH_take (i := 20) (v := ?_) rfl (by kernel_rfl) (by kernel_rfl) (by kernel_rfl) (fun _ _ _ h => h) (Or.inl ⟨by rfl, ?_⟩) (by assumption) ?_
        rotate_left 1
        · ((intro w hSw; (try dsimp only at hSw); go_simp) <;> with_reducible rfl)
        try simp only [Act.put, List.setIfInBounds_toArray, List.set_cons_zero, List.set_cons_succ, List.getElem_toArray, List.getElem_cons_zero, List.getElem_cons_succ]
        refine wpAnyH_take (i := 21) (v := ?_) rfl (by kernel_rfl) (by kernel_rfl) (by kernel_rfl) (fun _ _ _ h => h) (Or.inl ⟨by rfl, ?_⟩) (by assumption) ?_
        rotate_left 1
        · ((intro w hSw; (try dsimp only at hSw); go_simp) <;> with_reducible rfl)
        try simp only [Act.put, List.setIfInBounds_toArray, List.set_cons_zero, List.set_cons_succ, List.getElem_toArray, List.getElem_cons_zero, List.getElem_cons_succ]
        refine wpAnyH_take (i := 22) (v := ?_) rfl (by kernel_rfl) (by kernel_rfl) (by kernel_rfl) (fun _ _ _ h => h) (Or.inl ⟨by rfl, ?_⟩) (by assumption) ?_
        rotate_left 1
        · ((intro w hSw; (try dsimp only at hSw); go_simp) <;> with_reducible rfl)
        try simp only [Act.put, List.setIfInBounds_toArray, List.set_cons_zero, List.set_cons_succ, List.getElem_toArray, List.getElem_cons_zero, List.getElem_cons_succ]
        refine wpAnyH_take (i := 23) (v := ?_) rfl (by kernel_rfl) (by kernel_rfl) (by kernel_rfl) (fun _ _ _ h => h) (Or.inl ⟨by rfl, ?_⟩) (by assumption) ?_
        rotate_left 1
        · ((intro w hSw; (try dsimp only at hSw); go_simp) <;> with_reducible rfl)
        try simp only [Act.put, List.setIfInBounds_toArray, List.set_cons_zero, List.set_cons_succ, List.getElem_toArray, List.getElem_cons_zero, List.getElem_cons_succ]
        refine wpAnyH_take (i := 24) (v := ?_) rfl (by kernel_rfl) (by kernel_rfl) (by kernel_rfl) (fun _ _ _ h => h) (Or.inl ⟨by rfl, ?_⟩) (by assumption) ?_
        rotate_left 1
        · ((intro w hSw; (try dsimp only at hSw); go_simp) <;> with_reducible rfl)
        try simp only [Act.put, List.setIfInBounds_toArray, List.set_cons_zero, List.set_cons_succ, List.getElem_toArray, List.getElem_cons_zero, List.getElem_cons_succ]
        refine wpAnyH_take (i := 25) (v := ?_) rfl (by kernel_rfl) (by kernel_rfl) (by kernel_rfl) (fun _ _ _ h => h) (Or.inl ⟨by rfl, ?_⟩) (by assumption) ?_
        rotate_left 1
        · ((intro w hSw; (try dsimp only at hSw); go_simp) <;> with_reducible rfl)
        try simp only [Act.put, List.setIfInBounds_toArray, List.set_cons_zero, List.set_cons_succ, List.getElem_toArray, List.getElem_cons_zero, List.getElem_cons_succ]
        refine wpAnyH_take (i := 26) (v := ?_) rfl (by kernel_rfl) (by kernel_rfl) (by kernel_rfl) (fun _ _ _ h => h) (Or.inl ⟨by rfl, ?_⟩) (by assumption) ?_
        rotate_left 1
        · ((intro w hSw; (try dsimp only at hSw); go_simp) <;> with_reducible rfl)
        try simp only [Act.put, List.setIfInBounds_toArray, List.set_cons_zero, List.set_cons_succ, List.getElem_toArray, List.getElem_cons_zero, List.getElem_cons_succ]
        refine wpAnyH_take (i := 27) (v := ?_) rfl (by kernel_rfl) (by kernel_rfl) (by kernel_rfl) (fun _ _ _ h => h) (Or.inl ⟨by rfl, ?_⟩) (by assumption) ?_
        rotate_left 1
        · ((intro w hSw; (try dsimp only at hSw); go_simp) <;> with_reducible rfl)
        try simp only [Act.put, List.setIfInBounds_toArray, List.set_cons_zero, List.set_cons_succ, List.getElem_toArray, List.getElem_cons_zero, List.getElem_cons_succ]
        refine wpAnyH_take (i := 28) rfl (by kernel_rfl) (by kernel_rfl) (by kernel_rfl) (fun _ _ _ h => h) (Or.inr ⟨by rfl, rfl⟩) (by assumption) ?_
        try simp only [Act.put, List.setIfInBounds_toArray, List.set_cons_zero, List.set_cons_succ, List.getElem_toArray, List.getElem_cons_zero, List.getElem_cons_succ]
        refine wpAnyH_take (i := 29) rfl (by kernel_rfl) (by kernel_rfl) (by kernel_rfl) (fun _ _ _ h => h) (Or.inr ⟨by rfl, rfl⟩) (by assumption) ?_
        try simp only [Act.put, List.setIfInBounds_toArray, List.set_cons_zero, List.set_cons_succ, List.getElem_toArray, List.getElem_cons_zero, List.getElem_cons_succ]
        refine wpAnyH_take (i := 30) rfl (by kernel_rfl) (by kernel_rfl) (by kernel_rfl) (fun _ _ _ h => h) (Or.inr ⟨by rfl, rfl⟩) (by assumption) ?_
        try simp only [Act.put, List.setIfInBounds_toArray, List.set_cons_zero, List.set_cons_succ, List.getElem_toArray, List.getElem_cons_zero, List.getElem_cons_succ]
        refine wpAnyH_take (i := 31) rfl (by kernel_rfl) (by kernel_rfl) (by kernel_rfl) (fun _ _ _ h => h) (Or.inr ⟨by rfl, rfl⟩) (by assumption) ?_
        try simp only [Act.put, List.setIfInBounds_toArray, List.set_cons_zero, List.set_cons_succ, List.getElem_toArray, List.getElem_cons_zero, List.getElem_cons_succ]
        refine wpAnyH_take (i := 32) rfl (by kernel_rfl) (by kernel_rfl) (by kernel_rfl) (fun _ _ _ h => h) (Or.inr ⟨by rfl, rfl⟩) (by assumption) ?_
        try simp only [Act.put, List.setIfInBounds_toArray, List.set_cons_zero, List.set_cons_succ, List.getElem_toArray, List.getElem_cons_zero, List.getElem_cons_succ]
        refine wpAnyH_take (i := 33) rfl (by kernel_rfl) (by kernel_rfl) (by kernel_rfl) (fun _ _ _ h => h) (Or.inr ⟨by rfl, rfl⟩) (by assumption) ?_
        try simp only [Act.put, List.setIfInBounds_toArray, List.set_cons_zero, List.set_cons_succ, List.getElem_toArray, List.getElem_cons_zero, List.getElem_cons_succ]
        refine wpAnyH_take (i := 34) rfl (by kernel_rfl) (by kernel_rfl) (by kernel_rfl) (fun _ _ _ h => h) (Or.inr ⟨by rfl, rfl⟩) (by assumption) ?_
        try simp only [Act.put, List.setIfInBounds_toArray, List.set_cons_zero, List.set_cons_succ, List.getElem_toArray, List.getElem_cons_zero, List.getElem_cons_succ]
        refine wpAnyH_take (i := 35) (v := ?_) rfl (by kernel_rfl) (by kernel_rfl) (by kernel_rfl) (fun _ _ _ h => h) (Or.inl ⟨by rfl, ?_⟩) (by assumption) ?_
        rotate_left 1
        · ((intro w hSw; (try dsimp only at hSw); go_simp) <;> with_reducible rfl)
        try simp only [Act.put, List.setIfInBounds_toArray, List.set_cons_zero, List.set_cons_succ, List.getElem_toArray, List.getElem_cons_zero, List.getElem_cons_succ]
        refine wpAnyH_take (i := 36) (v := ?_) rfl (by kernel_rfl) (by kernel_rfl) (by kernel_rfl) (fun _ _ _ h => h) (Or.inl ⟨by rfl, ?_⟩) (by assumption) ?_
        rotate_left 1
        · ((intro w hSw; (try dsimp only at hSw); go_simp) <;> with_reducible rfl)
        try simp only [Act.put, List.setIfInBounds_toArray, List.set_cons_zero, List.set_cons_succ, List.getElem_toArray, List.getElem_cons_zero, List.getElem_cons_succ]
        refine wpAnyH_done (by kernel_rfl) ?_ _
        go_split_ands
        go_wp2_with fail
        go_roundw
        case rel => exact ⟨j + 1, by omega, by go_num, HH1.out _ (by assumption), HH2.out _ (by assumption), by assumption⟩
        case measure => simp [intOf]; omega
      · have hcmd : ev.cmd = noCmd := by
          rcases hba.2 with h | h
          · omega
          · rw [h]; rfl
        have t1 : (T == 0) = false := by rw [beq_eq_false_iff_ne]; exact ht
        have t2 : (T != 0) = true := by rw [bne_iff_ne]; exact ht
        have HCM := Lib.hid hcmd
        clear hT hba hcmd
        go_wp2_with fail
        go_quiet (fail)
        go_upto_region 49 with fail
        refine wp_region_held_drew (S := fun W => W.cell? ⟨g1, b1 + 12, none⟩ = some (.int .u8 T) ∧ W.cell? ⟨g1, b1, none⟩ = some (.int .u8 (ev.cmd.verb : Int)) ∧ W.cell? ⟨g1, b1 + 1, none⟩ = some (.slice a1 ev.cmd.keys.length c1) ∧ W.cell? ⟨g1, b1 + 2, none⟩ = some (.int .u8 (ev.cmd.cverb : Int)) ∧ W.cell? ⟨g1, b1 + 3, none⟩ = some (sv ev.cmd.key) ∧ W.cell? ⟨g1, b1 + 4, none⟩ = some (sv ev.cmd.value) ∧ W.cell? ⟨g1, b1 + 5, none⟩ = some (.int .u32 (ev.cmd.flags : Int)) ∧ W.cell? ⟨g1, b1 + 6, none⟩ = some (.int .i64 ev.cmd.exp) ∧ W.cell? ⟨g1, b1 + 7, none⟩ = some (.int .u64 (ev.cmd.id : Int)) ∧ W.cell? ⟨g1, b1 + 8, none⟩ = some (.int .u64 (ev.cmd.by' : Int)) ∧ W.cell? ⟨g1, b1 + 9, none⟩ = some (.int .i64 ev.cmd.bytes) ∧ W.cell? ⟨g1, b1 + 10, none⟩ = some (.bool ev.cmd.quiet) ∧ W.cell? ⟨g2, b2, none⟩ = some (.int .u8 (ev.cmd.verb : Int)) ∧ W.cell? ⟨g2, b2 + 1, none⟩ = some (.slice a2 ev.cmd.keys.length c2) ∧ W.cell? ⟨g2, b2 + 2, none⟩ = some (.int .u8 (ev.cmd.cverb : Int)) ∧ W.cell? ⟨g2, b2 + 3, none⟩ = some (sv ev.cmd.key) ∧ W.cell? ⟨g2, b2 + 4, none⟩ = some (sv ev.cmd.value) ∧ W.cell? ⟨g2, b2 + 5, none⟩ = some (.int .u32 (ev.cmd.flags : Int)) ∧ W.cell? ⟨g2, b2 + 6, none⟩ = some (.int .i64 ev.cmd.exp) ∧ W.cell? ⟨g2, b2 + 7, none⟩ = some (.int .u64 (ev.cmd.id : Int)) ∧ W.cell? ⟨g2, b2 + 8, none⟩ = some (.int .u64 (ev.cmd.by' : Int)) ∧ W.cell? ⟨g2, b2 + 9, none⟩ = some (.int .i64 ev.cmd.bytes) ∧ W.cell? ⟨g2, b2 + 10, none⟩ = some (.bool ev.cmd.quiet) ∧ KeysAt W (.slice a1 ev.cmd.keys.length c1) ev.cmd.keys ∧ KeysAt W (.slice a2 ev.cmd.keys.length c2) ev.cmd.keys ∧ Below w.heap.size w W) (by kernel_rfl) (same_keep (w := w) (ev := ev) (T := T) (g1 := g1) (b1 := b1) (g2 := g2) (b2 := b2) (Below.refl _ _).drew ⟨by assumption, by assumption, by assumption, by assumption, by assumption, by assumption, by assumption, by assumption, by assumption, by assumption, by assumption, by assumption, by assumption, by assumption, by assumption, by assumption, by assumption, by assumption, by assumption, by assumption, by assumption, by assumption, by assumption, by assumption, by assumption, by first | assumption | exact ⟨hlo.os, hlo.tape, hlo.output, hlo.size, hlo.block⟩⟩) (fun hHeld => ?_)
        refine wpAnyH_take (i := 0) (v := ?_) rfl (by kernel_rfl) (by kernel_rfl) (by kernel_rfl) (fun _ _ _ h => h) (Or.inl ⟨by rfl, ?_⟩) (by assumption) ?_
        rotate_left 1
        · ((intro w hSw; (try dsimp only at hSw); go_simp) <;> with_reducible rfl)
        try simp only [Act.put, List.setIfInBounds_toArray, List.set_cons_zero, List.set_cons_succ, List.getElem_toArray, List.getElem_cons_zero]
        refine wpAnyH_take (i := 1) (v := ?_) rfl (by kernel_rfl) (by kernel_rfl) (by kernel_rfl) (fun _ _ _ h => h) (Or.inl ⟨by rfl, ?_⟩) (by assumption) ?_
        rotate_left 1
        · ((intro w hSw; (try dsimp only at hSw); go_simp) <;> with_reducible rfl)
        try simp only [Act.put, List.setIfInBounds_toArray, List.set_cons_zero, List.set_cons_succ, List.getElem_toArray, List.getElem_cons_zero, List.getElem_cons_succ]
        refine wpAnyH_take (i := 2) (v := ?_) rfl (by kernel_rfl) (by kernel_rfl) (by kernel_rfl) (fun _ _ _ h => h) (Or.inl ⟨by rfl, ?_⟩) (by assumption) ?_
        rotate_left 1
        · ((intro w hSw; (try dsimp only at hSw); go_simp) <;> with_reducible rfl)
        try simp only [Act.put, List.setIfInBounds_toArray, List.set_cons_zero, List.set_cons_succ, List.getElem_toArray, List.getElem_cons_zero, List.getElem_cons_succ]
        refine wpAnyH_take (i := 3) (v := ?_) rfl (by kernel_rfl) (by kernel_rfl) (by kernel_rfl) (fun _ _ _ h => h) (Or.inl ⟨by rfl, ?_⟩) (by assumption) ?_
        rotate_left 1
        · ((intro w hSw; (try dsimp only at hSw); go_simp) <;> with_reducible rfl)
        try simp only [Act.put, List.setIfInBounds_toArray, List.set_cons_zero, List.set_cons_succ, List.getElem_toArray, List.getElem_cons_zero, List.getElem_cons_succ]
        refine wpAnyH_take (i := 4) (v := ?_) rfl (by kernel_rfl) (by kernel_rfl) (by kernel_rfl) (fun _ _ _ h => h) (Or.inl ⟨by rfl, ?_⟩) (by assumption) ?_
        rotate_left 1
        · ((intro w hSw; (try dsimp only at hSw); go_simp) <;> with_reducible rfl)
        try simp only [Act.put, List.setIfInBounds_toArray, List.set_cons_zero, List.set_cons_succ, List.getElem_toArray, List.getElem_cons_zero, List.getElem_cons_succ]
        refine wpAnyH_take (i := 5) (v := ?_) rfl (by kernel_rfl) (by kernel_rfl) (by kernel_rfl) (fun _ _ _ h => h) (Or.inl ⟨by rfl, ?_⟩) (by assumption) ?_
        rotate_left 1
        · ((intro w hSw; (try dsimp only at hSw); go_simp) <;> with_reducible rfl)
        try simp only [Act.put, List.setIfInBounds_toArray, List.set_cons_zero, List.set_cons_succ, List.getElem_toArray, List.getElem_cons_zero, List.getElem_cons_succ]
        refine wpAnyH_take (i := 6) (v := ?_) rfl (by kernel_rfl) (by kernel_rfl) (by kernel_rfl) (fun _ _ _ h => h) (Or.inl ⟨by rfl, ?_⟩) (by assumption) ?_
        rotate_left 1
        · ((intro w hSw; (try dsimp only at hSw); go_simp) <;> with_reducible rfl)
        try simp only [Act.put, List.setIfInBounds_toArray, List.set_cons_zero, List.set_cons_succ, List.getElem_toArray, List.getElem_cons_zero, List.getElem_cons_succ]
        refine wpAnyH_take (i := 7) rfl (by kernel_rfl) (by kernel_rfl) (by kernel_rfl) (fun _ _ _ h => h) (Or.inr ⟨by rfl, rfl⟩) (by assumption) ?_
        try simp only [Act.put, List.setIfInBounds_toArray, List.set_cons_zero, List.set_cons_succ, List.getElem_toArray, List.getElem_cons_zero, List.getElem_cons_succ]
        refine wpAnyH_take (i := 8) rfl (by kernel_rfl) (by kernel_rfl) (by kernel_rfl) (fun _ _ _ h => h) (Or.inr ⟨by rfl, rfl⟩) (by assumption) ?_
        try simp only [Act.put, List.setIfInBounds_toArray, List.set_cons_zero, List.set_cons_succ, List.getElem_toArray, List.getElem_cons_zero, List.getElem_cons_succ]
        refine wpAnyH_take (i := 9) rfl (by kernel_rfl) (by kernel_rfl) (by kernel_rfl) (fun _ _ _ h => h) (Or.inr ⟨by rfl, rfl⟩) (by assumption) ?_
        try simp only [Act.put, List.setIfInBounds_toArray, List.set_cons_zero, List.set_cons_succ, List.getElem_toArray, List.getElem_cons_zero, List.getElem_cons_succ]
        refine wpAnyH_take (i := 10) rfl (by kernel_rfl) (by kernel_rfl) (by kernel_rfl) (fun _ _ _ h => h) (Or.inr ⟨by rfl, rfl⟩) (by assumption) ?_
        try simp only [Act.put, List.setIfInBounds_toArray, List.set_cons_zero, List.set_cons_succ, List.getElem_toArray, List.getElem_cons_zero, List.getElem_cons_succ]
        refine wpAnyH_take (i := 11) rfl (by kernel_rfl) (by kernel_rfl) (by kernel_rfl) (fun _ _ _ h => h) (Or.inr ⟨by rfl, rfl⟩) (by assumption) ?_
        try simp only [Act.put, List.setIfInBounds_toArray, List.set_cons_zero, List.set_cons_succ, List.getElem_toArray, List.getElem_cons_zero, List.getElem_cons_succ]
        refine wpAnyH_take (i := 12) rfl (by kernel_rfl) (by kernel_rfl) (by kernel_rfl) (fun _ _ _ h => h) (Or.inr ⟨by rfl, rfl⟩) (by assumption) ?_
        try simp only [Act.put, List.setIfInBounds_toArray, List.set_cons_zero, List.set_cons_succ, List.getElem_toArray, List.getElem_cons_zero, List.getElem_cons_succ]
        refine wpAnyH_take (i := 13) rfl (by kernel_rfl) (by kernel_rfl) (by kernel_rfl) (fun _ _ _ h => h) (Or.inr ⟨by rfl, rfl⟩) (by assumption) ?_
        try simp only [Act.put, List.setIfInBounds_toArray, List.set_cons_zero, List.set_cons_succ, List.getElem_toArray, List.getElem_cons_zero, List.getElem_cons_succ]
        refine wpAnyH_take (i := 14) rfl (by kernel_rfl) (by kernel_rfl) (by kernel_rfl) (fun _ _ _ h => h) (Or.inr ⟨by rfl, rfl⟩) (by assumption) ?_
        try simp only [Act.put, List.setIfInBounds_toArray, List.set_cons_zero, List.set_cons_succ, List.getElem_toArray, List.getElem_cons_zero, List.getElem_cons_succ]
        refine wpAnyH_take (i := 15) rfl (by kernel_rfl) (by kernel_rfl) (by kernel_rfl) (fun _ _ _ h => h) (Or.inr ⟨by rfl, rfl⟩) (by assumption) ?_
        try simp only [Act.put, List.setIfInBounds_toArray, List.set_cons_zero, List.set_cons_succ, List.getElem_toArray, List.getElem_cons_zero, List.getElem_cons_succ]
        refine wpAnyH_take (i := 16) rfl (by kernel_rfl) (by kernel_rfl) (by kernel_rfl) (fun _ _ _ h => h) (Or.inr ⟨by rfl, rfl⟩) (by assumption) ?_
        try simp only [Act.put, List.setIfInBounds_toArray, List.set_cons_zero, List.set_cons_succ, List.getElem_toArray, List.getElem_cons_zero, List.getElem_cons_succ]
        refine wpAnyH_take (i := 17) rfl (by kernel_rfl) (by kernel_rfl) (by kernel_rfl) (fun _ _ _ h => h) (Or.inr ⟨by rfl, rfl⟩) (by assumption) ?_
        try simp only [Act.put, List.setIfInBounds_toArray, List.set_cons_zero, List.set_cons_succ, List.getElem_toArray, List.getElem_cons_zero, List.getElem_cons_succ]
        refine wpAnyH_take (i := 18) rfl (by kernel_rfl) (by kernel_rfl) (by kernel_rfl) (fun _ _ _ h => h) (Or.inr ⟨by rfl, rfl⟩) (by assumption) ?_
        try simp only [Act.put, List.setIfInBounds_toArray, List.set_cons_zero, List.set_cons_succ, List.getElem_toArray, List.getElem_cons_zero, List.getElem_cons_succ]
        refine wpAnyH_take (i := 19) (v := ?_) rfl (by kernel_rfl) (by kernel_rfl) (by kernel_rfl) (fun _ _ _ h => h) (Or.inl ⟨by rfl, ?_⟩) (by assumption) ?_
        rotate_left 1
        · ((intro w hSw; (try dsimp only at hSw); go_simp) <;> with_reducible rfl)
        try simp only [Act.put, List.setIfInBounds_toArray, List.set_cons_zero, List.set_cons_succ, List.getElem_toArray, List.getElem_cons_zero, List.getElem_cons_succ]
        refine wpAnyH_take (i := 20) (v := ?_) rfl (by kernel_rfl) (by kernel_rfl) (by kernel_rfl) (fun _ _ _ h => h) (Or.inl ⟨by rfl, ?_⟩) (by assumption) ?_
        rotate_left 1
        · ((intro w hSw; (try dsimp only at hSw); go_simp) <;> with_reducible rfl)
        try simp only [Act.put, List.setIfInBounds_toArray, List.set_cons_zero, List.set_cons_succ, List.getElem_toArray, List.getElem_cons_zero, List.getElem_cons_succ]
        refine wpAnyH_take (i := 21) (v := ?_) rfl (by kernel_rfl) (by kernel_rfl) (by kernel_rfl) (fun _ _ _ h => h) (Or.inl ⟨by rfl, ?_⟩) (by assumption) ?_
        rotate_left 1
        · ((intro w hSw; (try dsimp only at hSw); go_simp) <;> with_reducible rfl)
        try simp only [Act.put, List.setIfInBounds_toArray, List.set_cons_zero, List.set_cons_succ, List.getElem_toArray, List.getElem_cons_zero, List.getElem_cons_succ]
        refine wpAnyH_take (i := 22) (v := ?_) rfl (by kernel_rfl) (by kernel_rfl) (by kernel_rfl) (fun _ _ _ h => h) (Or.inl ⟨by rfl, ?_⟩) (by assumption) ?_
        rotate_left 1
        · ((intro w hSw; (try dsimp only at hSw); go_simp) <;> with_reducible rfl)
        try simp only [Act.put, List.setIfInBounds_toArray, List.set_cons_zero, List.set_cons_succ, List.getElem_toArray, List.getElem_cons_zero, List.getElem_cons_succ]
        refine wpAnyH_take (i := 23) (v := ?_) rfl (by kernel_rfl) (by kernel_rfl) (by kernel_rfl) (fun _ _ _ h => h) (Or.inl ⟨by rfl, ?_⟩) (by assumption) ?_
        rotate_left 1
        · ((intro w hSw; (try dsimp only at hSw); go_simp) <;> with_reducible rfl)
        try simp only [Act.put, List.setIfInBounds_toArray, List.set_cons_zero, List.set_cons_succ, List.getElem_toArray, List.getElem_cons_zero, List.getElem_cons_succ]
        refine wpAnyH_take (i := 24) (v := ?_) rfl (by kernel_rfl) (by kernel_rfl) (by kernel_rfl) (fun _ _ _ h => h) (Or.inl ⟨by rfl, ?_⟩) (by assumption) ?_
        rotate_left 1
        · ((intro w hSw; (try dsimp only at hSw); go_simp) <;> with_reducible rfl)
        try simp only [Act.put, List.setIfInBounds_toArray, List.set_cons_zero, List.set_cons_succ, List.getElem_toArray, List.getElem_cons_zero, List.getElem_cons_succ]
        refine wpAnyH_take (i := 25) (v := ?_) rfl (by kernel_rfl) (by kernel_rfl) (by kernel_rfl) (fun _ _ _ h => h) (Or.inl ⟨by rfl, ?_⟩) (by assumption) ?_
        rotate_left 1
        · ((intro w hSw; (try dsimp only at hSw); go_simp) <;> with_reducible rfl)
        try simp only [Act.put, List.setIfInBounds_toArray, List.set_cons_zero, List.set_cons_succ, List.getElem_toArray, List.getElem_cons_zero, List.getElem_cons_succ]
        refine wpAnyH_take (i := 26) (v := ?_) rfl (by kernel_rfl) (by kernel_rfl) (by kernel_rfl) (fun _ _ _ h => h) (Or.inl ⟨by rfl, ?_⟩) (by assumption) ?_
        rotate_left 1
        · ((intro w hSw; (try dsimp only at hSw); go_simp) <;> with_reducible rfl)
        try simp only [Act.put, List.setIfInBounds_toArray, List.set_cons_zero, List.set_cons_succ, List.getElem_toArray, List.getElem_cons_zero, List.getElem_cons_succ]
        refine wpAnyH_take (i := 27) (v := ?_) rfl (by kernel_rfl) (by kernel_rfl) (by kernel_rfl) (fun _ _ _ h => h) (Or.inl ⟨by rfl, ?_⟩) (by assumption) ?_
        rotate_left 1
        · ((intro w hSw; (try dsimp only at hSw); go_simp) <;> with_reducible rfl)
        try simp only [Act.put, List.setIfInBounds_toArray, List.set_cons_zero, List.set_cons_succ, List.getElem_toArray, List.getElem_cons_zero, List.getElem_cons_succ]
        refine wpAnyH_take (i := 28) (v := ?_) rfl (by kernel_rfl) (by kernel_rfl) (by kernel_rfl) (fun _ _ _ h => h) (Or.inl ⟨by rfl, ?_⟩) (by assumption) ?_
        rotate_left 1
        · ((intro w hSw; (try dsimp only at hSw); go_simp) <;> with_reducible rfl)
        try simp only [Act.put, List.setIfInBounds_toArray, List.set_cons_zero, List.set_cons_succ, List.getElem_toArray, List.getElem_cons_zero, List.getElem_cons_succ]
        refine wpAnyH_take (i := 29) (v := ?_) rfl (by kernel_rfl) (by kernel_rfl) (by kernel_rfl) (fun _ _ _ h => h) (Or.inl ⟨by rfl, ?_⟩) (by assumption) ?_
        rotate_left 1
        · ((intro w hSw; (try dsimp only at hSw); go_simp) <;> with_reducible rfl)
        try simp only [Act.put, List.setIfInBounds_toArray, List.set_cons_zero, List.set_cons_succ, List.getElem_toArray, List.getElem_cons_zero, List.getElem_cons_succ]
        refine wpAnyH_take (i := 30) (v := ?_) rfl (by kernel_rfl) (by kernel_rfl) (by kernel_rfl) (fun _ _ _ h => h) (Or.inl ⟨by rfl, ?_⟩) (by assumption) ?_
        rotate_left 1
        · ((intro w hSw; (try dsimp only at hSw); go_simp) <;> with_reducible rfl)
        try simp only [Act.put, List.setIfInBounds_toArray, List.set_cons_zero, List.set_cons_succ, List.getElem_toArray, List.getElem_cons_zero, List.getElem_cons_succ]
        refine wpAnyH_take (i := 31) (v := ?_) rfl (by kernel_rfl) (by kernel_rfl) (by kernel_rfl) (fun _ _ _ h => h) (Or.inl ⟨by rfl, ?_⟩) (by assumption) ?_
        rotate_left 1
        · ((intro w hSw; (try dsimp only at hSw); go_simp) <;> with_reducible rfl)
        try simp only [Act.put, List.setIfInBounds_toArray, List.set_cons_zero, List.set_cons_succ, List.getElem_toArray, List.getElem_cons_zero, List.getElem_cons_succ]
        refine wpAnyH_take (i := 32) (v := ?_) rfl (by kernel_rfl) (by kernel_rfl) (by kernel_rfl) (fun _ _ _ h => h) (Or.inl ⟨by rfl, ?_⟩) (by assumption) ?_
        rotate_left 1
        · ((intro w hSw; (try dsimp only at hSw); go_simp) <;> with_reducible rfl)
        try simp only [Act.put, List.setIfInBounds_toArray, List.set_cons_zero, List.set_cons_succ, List.getElem_toArray, List.getElem_cons_zero, List.getElem_cons_succ]
        refine wpAnyH_ready (rs := [33]) (by kernel_rfl) (by simp) ?_
        refine AllReadyH.cons rfl (fun K hK => ?_) AllReadyH.nil
        go_split_ands
        go_simp
        go_at_call 54
        refine (none_cmd HCM.out).mono ?_
        rintro e w9 ⟨rfl, hb9⟩
        refine hK.out _ _ (same_keep (w := w) (ev := ev) (T := T) (g1 := g1) (b1 := b1) (g2 := g2) (b2 := b2) hb9 ⟨by assumption, by assumption, by assumption, by assumption, by assumption, by assumption, by assumption, by assumption, by assumption, by assumption, by assumption, by assumption, by assumption, by assumption, by assumption, by assumption, by assumption, by assumption, by assumption, by assumption, by assumption, by assumption, by assumption, by assumption, by assumption, by assumption⟩) (fun hHeld2 => ?_)
        clear hK K
        try simp only [Act.put, List.setIfInBounds_toArray, List.set_cons_zero, List.set_cons_succ, List.getElem_toArray, List.getElem_cons_zero, List.getElem_cons_succ]
        refine wpAnyH_take (i := 34) (v := ?_) rfl (by kernel_rfl) (by kernel_rfl) (by kernel_rfl) (fun _ _ _ h => h) (Or.inl ⟨by rfl, ?_⟩) (by assumption) ?_
        rotate_left 1
        · ((intro w hSw; (try dsimp only at hSw); go_simp) <;> with_reducible rfl)
        try simp only [Act.put, List.setIfInBounds_toArray, List.set_cons_zero, List.set_cons_succ, List.getElem_toArray, List.getElem_cons_zero, List.getElem_cons_succ]
        refine wpAnyH_take (i := 35) (v := ?_) rfl (by kernel_rfl) (by kernel_rfl) (by kernel_rfl) (fun _ _ _ h => h) (Or.inl ⟨by rfl, ?_⟩) (by assumption) ?_
        rotate_left 1
        · ((intro w hSw; (try dsimp only at hSw); go_simp) <;> with_reducible rfl)
        try simp only [Act.put, List.setIfInBounds_toArray, List.set_cons_zero, List.set_cons_succ, List.getElem_toArray, List.getElem_cons_zero, List.getElem_cons_succ]
        refine wpAnyH_take (i := 36) (v := ?_) rfl (by kernel_rfl) (by kernel_rfl) (by kernel_rfl) (fun _ _ _ h => h) (Or.inl ⟨by rfl, ?_⟩) (by assumption) ?_
        rotate_left 1
        · ((intro w hSw; (try dsimp only at hSw); go_simp) <;> with_reducible rfl)
        try simp only [Act.put, List.setIfInBounds_toArray, List.set_cons_zero, List.set_cons_succ, List.getElem_toArray, List.getElem_cons_zero, List.getElem_cons_succ]
        refine wpAnyH_done (by kernel_rfl) ?_ _
        go_split_ands
        go_wp2_with fail
        go_roundw
        case rel => exact ⟨j + 1, by omega, by go_num, HH1.out _ (by assumption), HH2.out _ (by assumption), by assumption⟩
        case measure => simp [intOf]; omega
    · go_wp2_with fail
      go_ret
      exact ⟨rfl, hlo⟩
end Go.Proofs.YtahpjhnbjkjkiaaGreatDoor
