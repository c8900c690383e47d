/- feeds.In: all events of bytes. Condition: the library's variables MaxLen and ErrRange are as they are laid; less than 2^20 bytes in all. -/
import Derived.Test.YtahpjhnbjkjkiaaGreatDoorFeedNext
import Derived.Test.YtahpjhnbjkjkiaaGreatDoorFeedLaw
import Derived.Test.YtahpjhnbjkjkiaaGreatDoorRangeSt
import Derived.WalkKit
import Derived.OwnWalkIn
import Derived.TacticsInMore
import Derived.LoopNIn
import Derived.LoopIn
import Derived.Maps.AppendAt
namespace Go.Proofs.YtahpjhnbjkjkiaaGreatDoor
open Go.RowKit
attribute [local go_sem] Oper.semAt_some

theorem goodF_begin (st : FSt) {k : Nat} (hk : k < 5) : GoodF (beginF st k) := ⟨by show k ≤ 5; omega, fun e => by have : k = 5 := e; omega⟩
theorem goodF_fill {st : FSt} (h : st.way < 5) : GoodF (fullF st) := by
  unfold fullF
  split
  · exact ⟨by show 2 ≤ 5; omega, fun e => by have : 2 = 5 := e; omega⟩
  · exact ⟨by omega, fun e => by omega⟩
theorem goodF_step {st : FSt} (h : GoodF st) (c : UInt8) : GoodF (stepF st c).1 := by
  have hchunk : GoodF (chunkF st c).1 := by
    unfold chunkF
    dsimp only
    split <;> exact goodF_begin _ (by omega)
  unfold stepF
  split
  · unfold gatherF
    split
    · unfold lineF
      dsimp only
      split
      · rename_i h5
        have := told_large h5
        exact ⟨by show 5 ≤ 5; omega, fun _ => by show 1 ≤ _ + 2 ∧ _ + 2 ≤ _; omega⟩
      · split
        · split
          · exact goodF_fill (by show 1 < 5; omega)
          · exact goodF_begin _ (by omega)
        · exact goodF_begin _ (by omega)
    · split
      · exact goodF_begin _ (by omega)
      · exact ⟨h.1, h.2⟩
  · split
    · exact goodF_fill (by show st.way < 5; omega)
    · split
      · split
        · exact ⟨by show 3 ≤ 5; omega, fun e => by have : 3 = 5 := e; omega⟩
        · exact hchunk
      · split
        · split
          · exact goodF_begin _ (by omega)
          · exact hchunk
        · split
          · dsimp only
            split
            · exact goodF_begin _ (by omega)
            · exact h
          · dsimp only
            split
            · exact goodF_begin _ (by omega)
            · refine ⟨h.1, fun e => ?_⟩
              obtain ⟨h1, h2⟩ := h.2 e
              show 1 ≤ st.many - 1 ∧ st.many - 1 ≤ _
              omega
theorem heldF_step (st : FSt) (c : UInt8) : (stepF st c).1.held.length ≤ st.held.length + 1 := by
  have hfull : ∀ s : FSt, (fullF s).held = s.held := fun s => by unfold fullF; split <;> rfl
  have hchunk : (chunkF st c).1.held.length ≤ st.held.length + 1 := by
    unfold chunkF
    dsimp only
    split <;> (show 0 ≤ _; omega)
  unfold stepF
  split
  · unfold gatherF
    split
    · unfold lineF
      dsimp only
      split
      · show 0 ≤ _; omega
      · split
        · split
          · dsimp only
            rw [hfull]
            show 0 ≤ _; omega
          · show 0 ≤ _; omega
        · show 0 ≤ _; omega
    · split
      · show 0 ≤ _; omega
      · simp
  · split
    · dsimp only
      rw [hfull]
      simp
    · split
      · split
        · show st.held.length ≤ _; omega
        · exact hchunk
      · split
        · split
          · show 0 ≤ _; omega
          · exact hchunk
        · split
          · dsimp only
            split
            · show 0 ≤ _; omega
            · omega
          · dsimp only
            split
            · show 0 ≤ _; omega
            · show st.held.length ≤ _; omega
theorem runF_snoc (st : FSt) (l : List UInt8) (c : UInt8) : runF st (l ++ [c]) = ((stepF (runF st l).1 c).1, (runF st l).2 ++ (stepF (runF st l).1 c).2) := by
  rw [runF_append, run_one]
theorem goodF_run : ∀ (l : List UInt8) (st : FSt), GoodF st → GoodF (runF st l).1
  | [], _, h => h
  | c :: l, st, h => by rw [runF_cons]; exact goodF_run l _ (goodF_step h c)
theorem heldF_run : ∀ (l : List UInt8) (st : FSt), (runF st l).1.held.length ≤ st.held.length + l.length
  | [], st => by simp [runF_nil]
  | c :: l, st => by
    rw [runF_cons]
    have h1 := heldF_run l (stepF st c).1
    have h2 := heldF_step st c
    simp only [List.length_cons]
    omega
theorem step_one (st : FSt) (c : UInt8) : (stepF st c).2.length ≤ 1 := by
  have hchunk : (chunkF st c).2.length ≤ 1 := by unfold chunkF; dsimp only; simp
  unfold stepF
  split
  · unfold gatherF
    split
    · unfold lineF
      dsimp only
      split
      · simp
      · split
        · split <;> simp
        · simp
    · split <;> simp
  · split
    · simp
    · split
      · split
        · simp
        · exact hchunk
      · split
        · split
          · simp
          · exact hchunk
        · split <;> simp
theorem run_few : ∀ (l : List UInt8) (st : FSt), (runF st l).2.length ≤ l.length
  | [], st => by simp [runF_nil]
  | c :: l, st => by
    rw [runF_cons]
    have h1 := run_few l (stepF st c).1
    have h2 := step_one st c
    simp only [List.length_append, List.length_cons]
    omega

/-- The cells of events, one behind the other. -/
def evsCells (L : List (Value × Ev)) : List Value := L.flatMap (fun x => evCells x.1 x.2)
theorem evsCells_len : ∀ L : List (Value × Ev), (evsCells L).length = L.length * 13
  | [] => rfl
  | x :: L => by
    show (evCells x.1 x.2 ++ evsCells L).length = _
    rw [List.length_append, evsCells_len L]
    simp
    omega
theorem evsCells_snoc (L : List (Value × Ev)) (x : Value × Ev) : evsCells (L ++ [x]) = evsCells L ++ evCells x.1 x.2 := by
  simp [evsCells]
/-- What holds of a feed's events between two bytes: the feed in block p, the events so far in a row of their own that box q holds. -/
structure InJ (n₀ : Nat) (w : World) (p : Nat) (t : TypeId) (rest : List Value) (hv0 : Value) (q q1 q2 : Nat) (bv : Value) (bl : List UInt8) (st : FSt) (es : List Ev) (W : World) (hv ks v : Value) (L : List (Value × Ev)) : Prop where
  feed : FeedAt n₀ W p t rest hv ks st
  env : Env n₀ W
  fresh : ∀ g, hv.ownBlock = some g → hv0.ownBlock = some g ∨ w.heap.size ≤ g
  apart : bl ≠ [] → ∀ g, bv.ownBlock = some g → hv.ownBlock ≠ some g
  box : W.heap[q]? = some (.cells #[v] 31 (0, 0))
  row : W.ownsRow w.heap.size 68 13 v L.length (evsCells L)
  evs : L.map (·.2) = es
  keys : ∀ x ∈ L, KeysAt W x.1 x.2.cmd.keys
  box1 : W.heap[q1]? = some (.cells #[.pointer (some ⟨p, 0, none⟩)] 25 (0, 0))
  box2 : W.heap[q2]? = some (.cells #[bv] 23 (0, 0))
  bytes : BRow W bv bl
  safe : bl ≠ [] → ∀ g, bv.ownBlock = some g → g < n₀ ∨ Tag W g 5
  chg : Chg (FM p hv0) w W
  lq : w.heap.size ≤ q
  lq1 : w.heap.size ≤ q1
  lq2 : w.heap.size ≤ q2
  le : n₀ ≤ w.heap.size
  te : t ≠ 68
section
variable {n₀ : Nat} {w : World} {p : Nat} {t : TypeId} {rest : List Value} {hv0 : Value} {q q1 q2 : Nat} {bv : Value} {bl : List UInt8} {st : FSt} {es : List Ev} {W : World} {hv ks v : Value} {L : List (Value × Ev)}
/-- It abides a step that changes new blocks alone, of which none is one of its own. -/
theorem InJ.kept (h : InJ n₀ w p t rest hv0 q q1 q2 bv bl st es W hv ks v L) {M : Nat → Prop} {W' : World} (hc : Chg M W W') (hM : ∀ k, M k → w.heap.size ≤ k ∧ ¬ Tag W k t ∧ ¬ Tag W k 5 ∧ ¬ Tag W k 9 ∧ ¬ Tag W k 68 ∧ ¬ Tag W k 31 ∧ ¬ Tag W k 25 ∧ ¬ Tag W k 23) :
    InJ n₀ w p t rest hv0 q q1 q2 bv bl st es W' hv ks v L where
  feed := h.feed.kept hc (fun k hk => ⟨fun e => by
    rcases (h.feed.fm e).2 with h1 | h1
    · exact (hM k hk).2.1 h1
    · exact (hM k hk).2.2.1 h1, (hM k hk).2.2.2.1⟩)
  env := h.env.chg hc (fun k hk => Nat.le_trans h.le (hM k hk).1)
  fresh := h.fresh
  apart := h.apart
  box := hc.obj h.box (fun e => (hM q e).2.2.2.2.2.1 (Tag.of h.box))
  row := owns_grow h.row hc (fun g hg e => (hM g e).2.2.2.2.1 (owns_tag h.row hg))
  evs := h.evs
  keys := fun x hx => (h.keys x hx).kept hc (fun g hg e => (hM g e).2.2.2.1 ((h.keys x hx).tag hg))
  box1 := hc.obj h.box1 (fun e => (hM q1 e).2.2.2.2.2.2.1 (Tag.of h.box1))
  box2 := hc.obj h.box2 (fun e => (hM q2 e).2.2.2.2.2.2.2 (Tag.of h.box2))
  bytes := h.bytes.kept hc (fun hne g hg e => by
    rcases h.safe hne g hg with h1 | h1
    · have := (hM g e).1; have := h.le; omega
    · exact (hM g e).2.2.1 h1)
  safe := fun hne g hg => by
    rcases h.safe hne g hg with h1 | h1
    · exact .inl h1
    · exact .inr (hc.tag h1 (fun e => (hM g e).2.2.1 h1))
  chg := h.chg.then hc (fun i hi e => by have := (hM i e).1; omega)
  lq := h.lq
  lq1 := h.lq1
  lq2 := h.lq2
  le := h.le
  te := h.te
end
/-- The next byte: the feed's step. -/
theorem InJ.next {n₀ : Nat} {w : World} {p : Nat} {t : TypeId} {rest : List Value} {hv0 : Value} {q q1 q2 : Nat} {bv : Value} {bl : List UInt8} {st : FSt} {es : List Ev} {W : World} {hv ks v : Value} {L : List (Value × Ev)}
    (h : InJ n₀ w p t rest hv0 q q1 q2 bv bl st es W hv ks v L) {W' : World} {hv' ks' : Value} {st' : FSt} (h' : FeedAt n₀ W' p t rest hv' ks' st') (hc : Chg (FM p hv) W W') (hf : ∀ g, hv'.ownBlock = some g → hv.ownBlock = some g ∨ W.heap.size ≤ g)
    (ht : t ≠ 31 ∧ t ≠ 25 ∧ t ≠ 23) :
    InJ n₀ w p t rest hv0 q q1 q2 bv bl st' es W' hv' ks' v L ∧ KeepsOthers W W' where
  left := {
    feed := h'
    env := h.env.chg hc (fun k hk => (h.feed.fm hk).1)
    fresh := fun g hg => by
      rcases hf g hg with h1 | h1
      · exact h.fresh g h1
      · have := h.chg.size; exact .inr (by omega)
    apart := fun hne g hg e => by
      rcases hf g e with h1 | h1
      · exact h.apart hne g hg h1
      · rcases h.safe hne g hg with h2 | h2
        · have := h.chg.size; have := h.le; omega
        · have := h2.lt; omega
    box := hc.obj h.box (fun e => by
      rcases (h.feed.fm e).2 with h1 | h1
      · exact ht.1 (h1.one (Tag.of h.box))
      · exact absurd (h1.one (Tag.of h.box)) (by decide))
    row := owns_grow h.row hc (fun g hg e => by
      rcases (h.feed.fm e).2 with h1 | h1
      · exact h.te (h1.one (owns_tag h.row hg))
      · exact absurd (h1.one (owns_tag h.row hg)) (by decide))
    evs := h.evs
    keys := fun x hx => (h.keys x hx).kept hc (fun g hg e => h.feed.fm_str e ((h.keys x hx).tag hg))
    box1 := hc.obj h.box1 (fun e => by
      rcases (h.feed.fm e).2 with h1 | h1
      · exact ht.2.1 (h1.one (Tag.of h.box1))
      · exact absurd (h1.one (Tag.of h.box1)) (by decide))
    box2 := hc.obj h.box2 (fun e => by
      rcases (h.feed.fm e).2 with h1 | h1
      · exact ht.2.2 (h1.one (Tag.of h.box2))
      · exact absurd (h1.one (Tag.of h.box2)) (by decide))
    bytes := h.bytes.kept hc (fun hne g hg e => by
      rcases h.safe hne g hg with h2 | h2
      · have := (h.feed.fm e).1; omega
      · rcases e with rfl | e
        · exact h.feed.tb (h.feed.box.tag.one h2)
        · exact h.apart hne g hg e)
    safe := fun hne g hg => by
      rcases h.safe hne g hg with h2 | h2
      · exact .inl h2
      · refine .inr (hc.tag h2 ?_)
        rintro (rfl | e)
        · exact h.feed.tb (h.feed.box.tag.one h2)
        · exact h.apart hne g hg e
    chg := h.chg.then hc (fun i hi e => by
      rcases e with e | e
      · exact .inl e
      · rcases h.fresh i e with h1 | h1
        · exact .inr h1
        · omega)
    lq := h.lq
    lq1 := h.lq1
    lq2 := h.lq2
    le := h.le
    te := h.te }
  right := hc.others (fun k _ e => by
    rcases (h.feed.fm e).2 with h1 | h1
    · exact ⟨_, h1⟩
    · exact ⟨_, h1⟩)

set_option maxRecDepth 100000 in
set_option maxHeartbeats 4000000 in
/-- The closure: byte by byte. -/
theorem all1_in {n₀ : Nat} {w : World} {p : Nat} {t : TypeId} {rest : List Value} {hv0 : Value} {q q1 q2 : Nat} {bv : Value} {bl : List UInt8} (st0 : FSt) (hgd : GoodF st0) (hlen : st0.held.length + bl.length < 1048576)
    (ht : t ≠ 31 ∧ t ≠ 25 ∧ t ≠ 23) (n l : Nat) (B : Nat) (K : World → Prop) (hK : ∀ W W', KeepsFrom B W W' → K W → K W')
    (hY : ∀ st es W hv ks v L ke ev, InJ n₀ w p t rest hv0 q q1 q2 bv bl st es W hv ks v L → KeysAt W ke ev.cmd.keys → L.length < 1048576 → K W → YieldAt Fence.wide (n - 1) Tryz.prog l #[evV ke ev] W fun e W' => e = .returned (.bool true) ∧ (∃ hv ks v L, InJ n₀ w p t rest hv0 q q1 q2 bv bl st (es ++ [ev]) W' hv ks v L) ∧ K W')
    (W : World) {hv ks v : Value} {L : List (Value × Ev)} (h0 : InJ n₀ w p t rest hv0 q q1 q2 bv bl st0 [] W hv ks v L) (hK0 : K W) :
    CallsIn Fence.wide n Tryz.prog 75 #[.func (.yield l) #[] #[], .pointer (some ⟨q2, 0, none⟩), .pointer (some ⟨q1, 0, none⟩)] W fun e W' => (∃ v, e = .returned v) ∧
      (∃ hv ks v L, InJ n₀ w p t rest hv0 q q1 q2 bv bl (runF st0 bl).1 (runF st0 bl).2 W' hv ks v L) ∧ K W' := by
  obtain ⟨ba, bc, rfl⟩ := h0.bytes.len
  have hb2 := (block_cell h0.box2 0).1
  refine callsIn_of_wp Tryz.func75 rfl trivial ?_ rfl
  simp only [Tryz.ntmps75, List.size_toArray, List.length_cons, List.length_nil, Nat.reduceAdd, Nat.reduceSub, Array.replicate_succ, Array.replicate_zero, List.push_toArray, List.append_toArray, List.nil_append, List.cons_append]
  have H0 := Lib.hid (show ∃ hv ks v L, InJ n₀ w p t rest hv0 q q1 q2 (.slice ba bl.length bc) bl (runF st0 (bl.take 0)).1 (runF st0 (bl.take 0)).2 W hv ks v L from ⟨_, _, _, _, h0⟩)
  have HY := Lib.hid hY
  have HK0 := Lib.hid hK0
  clear h0 hY hK0
  gi_wp2
  gi_loopw [10] (fun i wr => ∃ k : Nat, k ≤ bl.length ∧ i = .int .i64 (k : Int) ∧ (∃ hv ks v L, InJ n₀ w p t rest hv0 q q1 q2 (.slice ba bl.length bc) bl (runF st0 (bl.take k)).1 (runF st0 (bl.take k)).2 wr hv ks v L) ∧ K wr) (fun i _ => bl.length - (intOf i).toNat)
  case atStart => exact ⟨0, Nat.zero_le _, rfl, H0.out, HK0.out⟩
  case round =>
    obtain ⟨k, hk, rfl, ⟨hv, ks, v, L, hj⟩, hKr⟩ := hrel
    by_cases hlt : k < bl.length
    · obtain ⟨c, hc⟩ : ∃ c, bl[k]? = some c := ⟨_, List.getElem?_eq_getElem hlt⟩
      have hsn : bl.take (k + 1) = bl.take k ++ [c] := by
        rw [List.take_add_one, hc]; rfl
      have hst := runF_snoc st0 (bl.take k) c
      rw [← hsn] at hst
      have hgd' := goodF_run (bl.take k) st0 hgd
      have hh := heldF_run (bl.take k) st0
      have hfew := run_few (bl.take k) st0
      have hLl : L.length = (runF st0 (bl.take k)).2.length := by rw [← hj.evs, List.length_map]
      rw [List.length_take] at hh hfew
      obtain ⟨g, o, cc, he, _, hcell⟩ := hj.bytes.at hc
      have hix : ∀ W : World, (Instr.indexAt 23 (.slice ba bl.length bc) (.int .i64 (k : Int))).run Tryz.prog W = .ok (.pointer (some ⟨g, o + k, none⟩)) W := fun W => idx_byte (slice_inj he).1 hlt W
      have c1 := (block_cell hj.box1 0).1
      have hnx := next_any hj.feed hj.env (Nat.le_trans hj.le hj.chg.size) (by omega) hgd' c
      have h1st := step_one (runF st0 (bl.take k)).1 c
      generalize (runF st0 (bl.take k)).1 = st at *
      generalize (runF st0 (bl.take k)).2 = es at *
      have HJ := Lib.hid hj
      have HST := Lib.hid hst
      have HNX := Lib.hid hnx
      have H1 := Lib.hid h1st
      have HKR := Lib.hid hKr
      have HLL := Lib.hid (show L.length < 1048576 by omega)
      clear hj hst hnx h1st hsn hgd' hh hfew hLl he hKr hc
      gi_wp2
      refine ⟨trivial, (fun h => by cases h), ?_⟩
      refine (callsIn_wide.2 HNX.out).mono ?_
      rintro e w' ⟨hv', ks', h', hc', hf', ⟨hes, rfl⟩ | ⟨ev, ke, hes, rfl, hke⟩⟩
      · obtain ⟨hj2, hko⟩ := HJ.out.next h' hc' hf' ht
        have hK2 := hK _ _ (hko.from B) HKR.out
        have hj3 := hj2.kept (M := fun _ => False) ((Chg.refl _ _).alloc (.cells (evCells (.slice none 0 0) (toldE 0)).toArray 68)) (fun _ e => e.elim)
        have hK3 := hK _ _ ((KeepsOthers.alloc w' (.cells (evCells (.slice none 0 0) (toldE 0)).toArray 68)).from B) hK2
        have hst2 := HST.out
        rw [hes, List.append_nil] at hst2
        have HJ3 := Lib.hid hj3
        have HK3 := Lib.hid hK3
        have HS2 := Lib.hid hst2
        clear h' hc' hf' hj2 hj3 hK2 hK3 hko hst2 hes
        gi_wp2
        refine ⟨(fun _ h => by cases h), ?_⟩
        gi_wp2
        go_roundw
        case rel => exact ⟨k + 1, by omega, by go_num, ⟨hv', ks', v, L, by rw [HS2.out]; exact HJ3.out⟩, HK3.out⟩
        case measure => simp [intOf]; omega
      · obtain ⟨ka, kc, rfl⟩ := hke.len
        obtain ⟨hj2, hko⟩ := HJ.out.next h' hc' hf' ht
        have hK2 := hK _ _ (hko.from B) HKR.out
        have hj3 := hj2.kept (M := fun _ => False) ((Chg.refl _ _).alloc (.cells (evCells (.slice ka ev.cmd.keys.length kc) ev).toArray 68)) (fun _ e => e.elim)
        have hK3 := hK _ _ ((KeepsOthers.alloc w' (.cells (evCells (.slice ka ev.cmd.keys.length kc) ev).toArray 68)).from B) hK2
        have hke3 := hke.kept (M := fun _ => False) ((Chg.refl _ _).alloc (.cells (evCells (.slice ka ev.cmd.keys.length kc) ev).toArray 68)) (fun _ _ e => e)
        have hst2 := HST.out
        rw [hes] at hst2
        obtain ⟨fn, tmps, assign, body, hy, hR⟩ := HY.out _ _ _ _ _ _ _ _ ev hj3 hke3 HLL.out hK3
        change (Instr.yield l #[.agg #[.int .u8 (ev.cmd.verb : Int), .slice ka ev.cmd.keys.length kc, .int .u8 (ev.cmd.cverb : Int), .string ⟨ev.cmd.key.toArray⟩, .string ⟨ev.cmd.value.toArray⟩, .int .u32 (ev.cmd.flags : Int), .int .i64 ev.cmd.exp, .int .u64 (ev.cmd.id : Int), .int .u64 (ev.cmd.by' : Int), .int .i64 ev.cmd.bytes, .bool ev.cmd.quiet, .string ⟨ev.data.toArray⟩, .int .u8 (ev.told : Int)]]).run Tryz.prog (w'.alloc (.cells #[.int .u8 (ev.cmd.verb : Int), .slice ka ev.cmd.keys.length kc, .int .u8 (ev.cmd.cverb : Int), .string ⟨ev.cmd.key.toArray⟩, .string ⟨ev.cmd.value.toArray⟩, .int .u32 (ev.cmd.flags : Int), .int .i64 ev.cmd.exp, .int .u64 (ev.cmd.id : Int), .int .u64 (ev.cmd.by' : Int), .int .i64 ev.cmd.bytes, .bool ev.cmd.quiet, .string ⟨ev.data.toArray⟩, .int .u8 (ev.told : Int)] 68)) = .ok (.round l fn tmps assign body) (w'.alloc (.cells #[.int .u8 (ev.cmd.verb : Int), .slice ka ev.cmd.keys.length kc, .int .u8 (ev.cmd.cverb : Int), .string ⟨ev.cmd.key.toArray⟩, .string ⟨ev.cmd.value.toArray⟩, .int .u32 (ev.cmd.flags : Int), .int .i64 ev.cmd.exp, .int .u64 (ev.cmd.id : Int), .int .u64 (ev.cmd.by' : Int), .int .i64 ev.cmd.bytes, .bool ev.cmd.quiet, .string ⟨ev.data.toArray⟩, .int .u8 (ev.told : Int)] 68)) at hy
        have HS2 := Lib.hid hst2
        clear h' hc' hf' hj2 hj3 hK2 hK3 hko hst2 hes hke hke3
        gi_wp2
        refine ⟨(fun h => by cases h), ?_⟩
        refine hR.mono ?_
        rintro e W' ⟨rfl, ⟨hv2, ks2, v2, L2, hj4⟩, hK4⟩
        have HJ4 := Lib.hid hj4
        have HK4 := Lib.hid hK4
        clear hj4 hK4 hR hy
        gi_wp2
        go_roundw
        case rel => exact ⟨k + 1, by omega, by go_num, ⟨hv2, ks2, v2, L2, by rw [HS2.out]; exact HJ4.out⟩, HK4.out⟩
        case measure => simp [intOf]; omega
    · obtain rfl : k = bl.length := by omega
      rw [List.take_length] at hj
      have HJ := Lib.hid hj
      have HKR := Lib.hid hKr
      clear hj hKr
      gi_wp2
      go_end0
      exact ⟨⟨_, rfl⟩, ⟨_, _, _, _, HJ.out⟩, HKR.out⟩
end Go.Proofs.YtahpjhnbjkjkiaaGreatDoor
