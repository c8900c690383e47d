/- feeds.In: all events of bytes. Condition: the library's variables MaxLen and ErrRange are as they are laid; less than 2^20 bytes in all. And what goes with it (4 texts). -/
import Derived.Test.YtnkkoicbnbjlnaaGreatDoorFeedNext
import Derived.Test.YtnkkoicbnbjlnaaGreatDoorLowB
import Derived.Test.YtnkkoicbnbjlnaaGreatDoorLowA
import Derived.WalkKit
import Derived.OwnWalkIn
import Derived.TacticsInMore
import Derived.LoopNIn
import Derived.LoopIn
import Derived.Maps.AppendAt
import Derived.Test.YtnkkoicbnbjlnaaGreatDoorLowG
import Derived.BigFrame
import Derived.Lib.SlBytesConst
namespace Go.Proofs.YtnkkoicbnbjlnaaGreatDoor
set_option maxRecDepth 100000
set_option maxHeartbeats 8000000
open Go.RowKit
attribute [local go_sem] Oper.semAt_some
theorem goodF_begin (st : FSt) {k : Nat} (hk : k < 5) : GoodF (beginF st k) := ⟨by show k ≤ 5; omega, fun e => by have : k = 5 := e; omega⟩
theorem goodF_fill {st : FSt} (h : st.way < 5) : GoodF (fullF st) := by
 unfold fullF
 split
 ·exact ⟨by show 2 ≤ 5; omega, fun e => by have : 2 = 5 := e; omega⟩
 ·exact ⟨by omega, fun e => by omega⟩
theorem goodF_step {st : FSt} (h : GoodF st) (c : UInt8) : GoodF (stepF st c).1 := by
 have hchunk : GoodF (chunkF st c).1 := by
  unfold chunkF
  dsimp only
  split <;> exact goodF_begin _ (by omega)
 unfold stepF
 split
 ·unfold gatherF
  split
  ·unfold lineF
   dsimp only
   split
   ·rename_i h5
    have := told_large h5
    exact ⟨by show 5 ≤ 5; omega, fun _ => by show 1 ≤ _ + 2 ∧ _ + 2 ≤ _; omega⟩
   ·split
    ·split
     ·exact goodF_fill (by show 1 < 5; omega)
     ·exact goodF_begin _ (by omega)
    ·exact goodF_begin _ (by omega)
  ·split
   ·exact goodF_begin _ (by omega)
   ·exact ⟨h.1, h.2⟩
 ·split
  ·exact goodF_fill (by show st.way < 5; omega)
  ·split
   ·split
    ·exact ⟨by show 3 ≤ 5; omega, fun e => by have : 3 = 5 := e; omega⟩
    ·exact hchunk
   ·split
    ·split
     ·exact goodF_begin _ (by omega)
     ·exact hchunk
    ·split
     ·dsimp only
      split
      ·exact goodF_begin _ (by omega)
      ·exact h
     ·dsimp only
      split
      ·exact goodF_begin _ (by omega)
      ·refine ⟨h.1, fun e => ?_⟩
       obtain ⟨h1, h2⟩ := h.2 e
       show 1 ≤ st.many - 1 ∧ st.many - 1 ≤ _
       omega
theorem heldF_step (st : FSt) (c : UInt8) : (stepF st c).1.held.length ≤ st.held.length + 1 := by
 have hfull : ∀ s : FSt, (fullF s).held = s.held := fun s => by unfold fullF; split <;> rfl
 have hchunk : (chunkF st c).1.held.length ≤ st.held.length + 1 := by
  unfold chunkF
  dsimp only
  split <;> (show 0 ≤ _; omega)
 unfold stepF
 split
 ·unfold gatherF
  split
  ·unfold lineF
   dsimp only
   split
   ·show 0 ≤ _; omega
   ·split
    ·split
     ·dsimp only
      rw [hfull]
      show 0 ≤ _; omega
     ·show 0 ≤ _; omega
    ·show 0 ≤ _; omega
  ·split
   ·show 0 ≤ _; omega
   ·simp
 ·split
  ·dsimp only
   rw [hfull]
   simp
  ·split
   ·split
    ·show st.held.length ≤ _; omega
    ·exact hchunk
   ·split
    ·split
     ·show 0 ≤ _; omega
     ·exact hchunk
    ·split
     ·dsimp only
      split
      ·show 0 ≤ _; omega
      ·omega
     ·dsimp only
      split
      ·show 0 ≤ _; omega
      ·show st.held.length ≤ _; omega
theorem runF_snoc (st : FSt) (l : List UInt8) (c : UInt8) : runF st (l ++ [c]) = ((stepF (runF st l).1 c).1, (runF st l).2 ++ (stepF (runF st l).1 c).2) := by
 rw [runF_append, run_one]
theorem goodF_run : ∀ (l : List UInt8) (st : FSt), GoodF st → GoodF (runF st l).1
 | [], _, h => h
 | c :: l, st, h => by rw [runF_cons]; exact goodF_run l _ (goodF_step h c)
theorem heldF_run : ∀ (l : List UInt8) (st : FSt), (runF st l).1.held.length ≤ st.held.length + l.length
 | [], st => by simp [runF_nil]
 | c :: l, st => by
  rw [runF_cons]
  have h1 := heldF_run l (stepF st c).1
  have h2 := heldF_step st c
  simp only [List.length_cons]
  omega
theorem step_one (st : FSt) (c : UInt8) : (stepF st c).2.length ≤ 1 := by
 have hchunk : (chunkF st c).2.length ≤ 1 := by unfold chunkF; dsimp only; simp
 unfold stepF
 split
 ·unfold gatherF
  split
  ·unfold lineF
   dsimp only
   split
   ·simp
   ·split
    ·split <;> simp
    ·simp
  ·split <;> simp
 ·split
  ·simp
  ·split
   ·split
    ·simp
    ·exact hchunk
   ·split
    ·split
     ·simp
     ·exact hchunk
    ·split <;> simp
theorem run_few : ∀ (l : List UInt8) (st : FSt), (runF st l).2.length ≤ l.length
 | [], st => by simp [runF_nil]
 | c :: l, st => by
  rw [runF_cons]
  have h1 := run_few l (stepF st c).1
  have h2 := step_one st c
  simp only [List.length_append, List.length_cons]
  omega
def evsCells (L : List (Value × Ev)) : List Value := L.flatMap (fun x => evCells x.1 x.2)
theorem evsCells_snoc (L : List (Value × Ev)) (x : Value × Ev) : evsCells (L ++ [x]) = evsCells L ++ evCells x.1 x.2 := by
 simp [evsCells]
structure InJ (n₀ : Nat) (w : World) (p : Nat) (t : TypeId) (rest : List Value) (hv0 : Value) (q q1 q2 : Nat) (bv : Value) (bl : List UInt8) (st : FSt) (es : List Ev) (W : World) (hv ks v : Value) (L : List (Value × Ev)) : Prop where
 feed : FeedAt n₀ W p t rest hv ks st
 env : Env n₀ W
 fresh : ∀ g, hv.ownBlock = some g → hv0.ownBlock = some g ∨ w.heap.size ≤ g
 apart : bl ≠ [] → ∀ g, bv.ownBlock = some g → hv.ownBlock ≠ some g
 box : W.heap[q]? = some (.cells #[v] 116 (0, 0))
 row : W.ownsRow w.heap.size 206 13 v L.length (evsCells L)
 evs : L.map (·.2) = es
 keys : ∀ x ∈ L, KeysAt W x.1 x.2.cmd.keys
 box1 : W.heap[q1]? = some (.cells #[.pointer (some ⟨p, 0, none⟩)] 200 (0, 0))
 box2 : W.heap[q2]? = some (.cells #[bv] 47 (0, 0))
 bytes : BRow W bv bl
 safe : bl ≠ [] → ∀ g, bv.ownBlock = some g → g < n₀ ∨ Tag W g 5
 chg : Chg (FM p hv0) w W
 lq : w.heap.size ≤ q
 lq1 : w.heap.size ≤ q1
 lq2 : w.heap.size ≤ q2
 le : n₀ ≤ w.heap.size
 te : t ≠ 206
section
variable {n₀ : Nat} {w : World} {p : Nat} {t : TypeId} {rest : List Value} {hv0 : Value} {q q1 q2 : Nat} {bv : Value} {bl : List UInt8} {st : FSt} {es : List Ev} {W : World} {hv ks v : Value} {L : List (Value × Ev)}
theorem InJ.kept (h : InJ n₀ w p t rest hv0 q q1 q2 bv bl st es W hv ks v L) {M : Nat → Prop} {W' : World} (hc : Chg M W W') (hM : ∀ k, M k → w.heap.size ≤ k ∧ ¬ Tag W k t ∧ ¬ Tag W k 5 ∧ ¬ Tag W k 9 ∧ ¬ Tag W k 206 ∧ ¬ Tag W k 116 ∧ ¬ Tag W k 200 ∧ ¬ Tag W k 47) :
  InJ n₀ w p t rest hv0 q q1 q2 bv bl st es W' hv ks v L where
 feed := h.feed.kept hc (fun k hk => ⟨fun e => by
  rcases (h.feed.fm e).2 with h1 | h1
  ·exact (hM k hk).2.1 h1
  ·exact (hM k hk).2.2.1 h1, (hM k hk).2.2.2.1⟩)
 env := h.env.chg hc (fun k hk => Nat.le_trans h.le (hM k hk).1)
 fresh := h.fresh
 apart := h.apart
 box := hc.obj h.box (fun e => (hM q e).2.2.2.2.2.1 (Tag.of h.box))
 row := owns_grow h.row hc (fun g hg e => (hM g e).2.2.2.2.1 (owns_tag h.row hg))
 evs := h.evs
 keys := fun x hx => (h.keys x hx).kept hc (fun g hg e => (hM g e).2.2.2.1 ((h.keys x hx).tag hg))
 box1 := hc.obj h.box1 (fun e => (hM q1 e).2.2.2.2.2.2.1 (Tag.of h.box1))
 box2 := hc.obj h.box2 (fun e => (hM q2 e).2.2.2.2.2.2.2 (Tag.of h.box2))
 bytes := h.bytes.kept hc (fun hne g hg e => by
  rcases h.safe hne g hg with h1 | h1
  ·have := (hM g e).1; have := h.le; omega
  ·exact (hM g e).2.2.1 h1)
 safe := fun hne g hg => by
  rcases h.safe hne g hg with h1 | h1
  ·exact .inl h1
  ·exact .inr (hc.tag h1 (fun e => (hM g e).2.2.1 h1))
 chg := h.chg.then hc (fun i hi e => by have := (hM i e).1; omega)
 lq := h.lq
 lq1 := h.lq1
 lq2 := h.lq2
 le := h.le
 te := h.te
end
theorem InJ.next {n₀ : Nat} {w : World} {p : Nat} {t : TypeId} {rest : List Value} {hv0 : Value} {q q1 q2 : Nat} {bv : Value} {bl : List UInt8} {st : FSt} {es : List Ev} {W : World} {hv ks v : Value} {L : List (Value × Ev)}
  (h : InJ n₀ w p t rest hv0 q q1 q2 bv bl st es W hv ks v L) {W' : World} {hv' ks' : Value} {st' : FSt} (h' : FeedAt n₀ W' p t rest hv' ks' st') (hc : Chg (FM p hv) W W') (hf : ∀ g, hv'.ownBlock = some g → hv.ownBlock = some g ∨ W.heap.size ≤ g)
  (ht : t ≠ 116 ∧ t ≠ 200 ∧ t ≠ 47) :
  InJ n₀ w p t rest hv0 q q1 q2 bv bl st' es W' hv' ks' v L ∧ KeepsOthers W W' where
 left := {
  feed := h'
  env := h.env.chg hc (fun k hk => (h.feed.fm hk).1)
  fresh := fun g hg => by
   rcases hf g hg with h1 | h1
   ·exact h.fresh g h1
   ·have := h.chg.size; exact .inr (by omega)
  apart := fun hne g hg e => by
   rcases hf g e with h1 | h1
   ·exact h.apart hne g hg h1
   ·rcases h.safe hne g hg with h2 | h2
    ·have := h.chg.size; have := h.le; omega
    ·have := h2.lt; omega
  box := hc.obj h.box (fun e => by
   rcases (h.feed.fm e).2 with h1 | h1
   ·exact ht.1 (h1.one (Tag.of h.box))
   ·exact absurd (h1.one (Tag.of h.box)) (by decide))
  row := owns_grow h.row hc (fun g hg e => by
   rcases (h.feed.fm e).2 with h1 | h1
   ·exact h.te (h1.one (owns_tag h.row hg))
   ·exact absurd (h1.one (owns_tag h.row hg)) (by decide))
  evs := h.evs
  keys := fun x hx => (h.keys x hx).kept hc (fun g hg e => h.feed.fm_str e ((h.keys x hx).tag hg))
  box1 := hc.obj h.box1 (fun e => by
   rcases (h.feed.fm e).2 with h1 | h1
   ·exact ht.2.1 (h1.one (Tag.of h.box1))
   ·exact absurd (h1.one (Tag.of h.box1)) (by decide))
  box2 := hc.obj h.box2 (fun e => by
   rcases (h.feed.fm e).2 with h1 | h1
   ·exact ht.2.2 (h1.one (Tag.of h.box2))
   ·exact absurd (h1.one (Tag.of h.box2)) (by decide))
  bytes := h.bytes.kept hc (fun hne g hg e => by
   rcases h.safe hne g hg with h2 | h2
   ·have := (h.feed.fm e).1; omega
   ·rcases e with rfl | e
    ·exact h.feed.tb (h.feed.box.tag.one h2)
    ·exact h.apart hne g hg e)
  safe := fun hne g hg => by
   rcases h.safe hne g hg with h2 | h2
   ·exact .inl h2
   ·refine .inr (hc.tag h2 ?_)
    rintro (rfl | e)
    ·exact h.feed.tb (h.feed.box.tag.one h2)
    ·exact h.apart hne g hg e
  chg := h.chg.then hc (fun i hi e => by
   rcases e with e | e
   ·exact .inl e
   ·rcases h.fresh i e with h1 | h1
    ·exact .inr h1
    ·omega)
  lq := h.lq
  lq1 := h.lq1
  lq2 := h.lq2
  le := h.le
  te := h.te }
 right := hc.others (fun k _ e => by
  rcases (h.feed.fm e).2 with h1 | h1
  ·exact ⟨_, h1⟩
  ·exact ⟨_, h1⟩)
theorem all1_in {n₀ : Nat} {w : World} {p : Nat} {t : TypeId} {rest : List Value} {hv0 : Value} {q q1 q2 : Nat} {bv : Value} {bl : List UInt8} (st0 : FSt) (hgd : GoodF st0) (hlen : st0.held.length + bl.length < 1048576)
  (ht : t ≠ 116 ∧ t ≠ 200 ∧ t ≠ 47) (n l : Nat) (B : Nat) (K : World → Prop) (hK : ∀ W W', KeepsFrom B W W' → K W → K W')
  (hY : ∀ st es W hv ks v L ke ev, InJ n₀ w p t rest hv0 q q1 q2 bv bl st es W hv ks v L → KeysAt W ke ev.cmd.keys → L.length < 1048576 → K W → YieldAt Fence.wide (n - 1) Tryz.prog l #[evV ke ev] W fun e W' => e = .returned (.bool true) ∧ (∃ hv ks v L, InJ n₀ w p t rest hv0 q q1 q2 bv bl st (es ++ [ev]) W' hv ks v L) ∧ K W')
  (W : World) {hv ks v : Value} {L : List (Value × Ev)} (h0 : InJ n₀ w p t rest hv0 q q1 q2 bv bl st0 [] W hv ks v L) (hK0 : K W) :
  CallsIn Fence.wide n Tryz.prog 119 #[.func (.yield l) #[] #[], .pointer (some ⟨q2, 0, none⟩), .pointer (some ⟨q1, 0, none⟩)] W fun e W' => (∃ v, e = .returned v) ∧
   (∃ hv ks v L, InJ n₀ w p t rest hv0 q q1 q2 bv bl (runF st0 bl).1 (runF st0 bl).2 W' hv ks v L) ∧ K W' := by
 obtain ⟨ba, bc, rfl⟩ := h0.bytes.len
 have hb2 := (block_cell h0.box2 0).1
 refine callsIn_of_wp Tryz.func119 rfl trivial ?_ rfl
 simp only [Tryz.ntmps119, List.size_toArray, List.length_cons, List.length_nil, Nat.reduceAdd, Nat.reduceSub, Array.replicate_succ, Array.replicate_zero, List.push_toArray, List.append_toArray, List.nil_append, List.cons_append]
 have H0 := hidZ (show ∃ hv ks v L, InJ n₀ w p t rest hv0 q q1 q2 (.slice ba bl.length bc) bl (runF st0 (bl.take 0)).1 (runF st0 (bl.take 0)).2 W hv ks v L from ⟨_, _, _, _, h0⟩)
 have HY := hidZ hY
 have HK0 := hidZ hK0
 clear h0 hY hK0
 gi_wp2
 gi_loopw [10] (fun i wr => ∃ k : Nat, k ≤ bl.length ∧ i = .int .i64 (k : Int) ∧ (∃ hv ks v L, InJ n₀ w p t rest hv0 q q1 q2 (.slice ba bl.length bc) bl (runF st0 (bl.take k)).1 (runF st0 (bl.take k)).2 wr hv ks v L) ∧ K wr) (fun i _ => bl.length - (intOf i).toNat)
 case atStart => exact ⟨0, Nat.zero_le _, rfl, H0.out, HK0.out⟩
 case round =>
  obtain ⟨k, hk, rfl, ⟨hv, ks, v, L, hj⟩, hKr⟩ := hrel
  by_cases hlt : k < bl.length
  ·obtain ⟨c, hc⟩ : ∃ c, bl[k]? = some c := ⟨_, List.getElem?_eq_getElem hlt⟩
   have hsn : bl.take (k + 1) = bl.take k ++ [c] := by
    rw [List.take_add_one, hc]; rfl
   have hst := runF_snoc st0 (bl.take k) c
   rw [← hsn] at hst
   have hgd' := goodF_run (bl.take k) st0 hgd
   have hh := heldF_run (bl.take k) st0
   have hfew := run_few (bl.take k) st0
   have hLl : L.length = (runF st0 (bl.take k)).2.length := by rw [← hj.evs, List.length_map]
   rw [List.length_take] at hh hfew
   obtain ⟨g, o, cc, he, _, hcell⟩ := hj.bytes.at hc
   have hix : ∀ W : World, (Instr.indexAt 47 (.slice ba bl.length bc) (.int .i64 (k : Int))).run Tryz.prog W = .ok (.pointer (some ⟨g, o + k, none⟩)) W := fun W => idx_byte (slice_inj he).1 hlt W
   have c1 := (block_cell hj.box1 0).1
   have hnx := next_any hj.feed hj.env (Nat.le_trans hj.le hj.chg.size) (by omega) hgd' c
   have h1st := step_one (runF st0 (bl.take k)).1 c
   generalize (runF st0 (bl.take k)).1 = st at *
   generalize (runF st0 (bl.take k)).2 = es at *
   have HJ := hidZ hj
   have HST := hidZ hst
   have HNX := hidZ hnx
   have H1 := hidZ h1st
   have HKR := hidZ hKr
   have HLL := hidZ (show L.length < 1048576 by omega)
   clear hj hst hnx h1st hsn hgd' hh hfew hLl he hKr hc
   gi_wp2
   refine ⟨trivial, (fun h => by cases h), ?_⟩
   refine (callsIn_wide.2 HNX.out).mono ?_
   rintro e w' ⟨hv', ks', h', hc', hf', ⟨hes, rfl⟩ | ⟨ev, ke, hes, rfl, hke⟩⟩
   ·obtain ⟨hj2, hko⟩ := HJ.out.next h' hc' hf' ht
    have hK2 := hK _ _ (hko.from B) HKR.out
    have hj3 := hj2.kept (M := fun _ => False) ((Chg.refl _ _).alloc (.cells (evCells (.slice none 0 0) (toldE 0)).toArray 206)) (fun _ e => e.elim)
    have hK3 := hK _ _ ((KeepsOthers.alloc w' (.cells (evCells (.slice none 0 0) (toldE 0)).toArray 206)).from B) hK2
    have hst2 := HST.out
    rw [hes, List.append_nil] at hst2
    have HJ3 := hidZ hj3
    have HK3 := hidZ hK3
    have HS2 := hidZ hst2
    clear h' hc' hf' hj2 hj3 hK2 hK3 hko hst2 hes
    gi_wp2
    refine ⟨(fun _ h => by cases h), ?_⟩
    gi_wp2
    go_roundw
    case rel => exact ⟨k + 1, by omega, by go_num, ⟨hv', ks', v, L, by rw [HS2.out]; exact HJ3.out⟩, HK3.out⟩
    case measure => simp [intOf]; omega
   ·obtain ⟨ka, kc, rfl⟩ := hke.len
    obtain ⟨hj2, hko⟩ := HJ.out.next h' hc' hf' ht
    have hK2 := hK _ _ (hko.from B) HKR.out
    have hj3 := hj2.kept (M := fun _ => False) ((Chg.refl _ _).alloc (.cells (evCells (.slice ka ev.cmd.keys.length kc) ev).toArray 206)) (fun _ e => e.elim)
    have hK3 := hK _ _ ((KeepsOthers.alloc w' (.cells (evCells (.slice ka ev.cmd.keys.length kc) ev).toArray 206)).from B) hK2
    have hke3 := hke.kept (M := fun _ => False) ((Chg.refl _ _).alloc (.cells (evCells (.slice ka ev.cmd.keys.length kc) ev).toArray 206)) (fun _ _ e => e)
    have hst2 := HST.out
    rw [hes] at hst2
    obtain ⟨fn, tmps, assign, body, hy, hR⟩ := HY.out _ _ _ _ _ _ _ _ ev hj3 hke3 HLL.out hK3
    change (Instr.yield l #[.agg #[.int .u8 (ev.cmd.verb : Int), .slice ka ev.cmd.keys.length kc, .int .u8 (ev.cmd.cverb : Int), .string ⟨ev.cmd.key.toArray⟩, .string ⟨ev.cmd.value.toArray⟩, .int .u32 (ev.cmd.flags : Int), .int .i64 ev.cmd.exp, .int .u64 (ev.cmd.id : Int), .int .u64 (ev.cmd.by' : Int), .int .i64 ev.cmd.bytes, .bool ev.cmd.quiet, .string ⟨ev.data.toArray⟩, .int .u8 (ev.told : Int)]]).run Tryz.prog (w'.alloc (.cells #[.int .u8 (ev.cmd.verb : Int), .slice ka ev.cmd.keys.length kc, .int .u8 (ev.cmd.cverb : Int), .string ⟨ev.cmd.key.toArray⟩, .string ⟨ev.cmd.value.toArray⟩, .int .u32 (ev.cmd.flags : Int), .int .i64 ev.cmd.exp, .int .u64 (ev.cmd.id : Int), .int .u64 (ev.cmd.by' : Int), .int .i64 ev.cmd.bytes, .bool ev.cmd.quiet, .string ⟨ev.data.toArray⟩, .int .u8 (ev.told : Int)] 206)) = .ok (.round l fn tmps assign body) (w'.alloc (.cells #[.int .u8 (ev.cmd.verb : Int), .slice ka ev.cmd.keys.length kc, .int .u8 (ev.cmd.cverb : Int), .string ⟨ev.cmd.key.toArray⟩, .string ⟨ev.cmd.value.toArray⟩, .int .u32 (ev.cmd.flags : Int), .int .i64 ev.cmd.exp, .int .u64 (ev.cmd.id : Int), .int .u64 (ev.cmd.by' : Int), .int .i64 ev.cmd.bytes, .bool ev.cmd.quiet, .string ⟨ev.data.toArray⟩, .int .u8 (ev.told : Int)] 206)) at hy
    have HS2 := hidZ hst2
    clear h' hc' hf' hj2 hj3 hK2 hK3 hko hst2 hes hke hke3
    gi_wp2
    refine ⟨(fun h => by cases h), ?_⟩
    refine hR.mono ?_
    rintro e W' ⟨rfl, ⟨hv2, ks2, v2, L2, hj4⟩, hK4⟩
    have HJ4 := hidZ hj4
    have HK4 := hidZ hK4
    clear hj4 hK4 hR hy
    gi_wp2
    go_roundw
    case rel => exact ⟨k + 1, by omega, by go_num, ⟨hv2, ks2, v2, L2, by rw [HS2.out]; exact HJ4.out⟩, HK4.out⟩
    case measure => simp [intOf]; omega
  ·obtain rfl : k = bl.length := by omega
   rw [List.take_length] at hj
   have HJ := hidZ hj
   have HKR := hidZ hKr
   clear hj hKr
   gi_wp2
   go_end0
   exact ⟨⟨_, rfl⟩, ⟨_, _, _, _, HJ.out⟩, HKR.out⟩
open Go.RowKit
attribute [local go_sem] Oper.semAt_some
theorem all_any (p : Nat) (ba : Option Addr) (bn bc : Nat) (w : World) : Calls Tryz.prog 92 #[.pointer (some ⟨p, 0, none⟩), .slice ba bn bc] w fun e w' =>
  e = .returned (.func (.func 119) #[] #[.pointer (some ⟨w.heap.size + 1, 0, none⟩), .pointer (some ⟨w.heap.size, 0, none⟩)]) ∧
  w' = (w.alloc (.cells #[.pointer (some ⟨p, 0, none⟩)] 200)).alloc (.cells #[.slice ba bn bc] 47) := by
 go_enter Tryz.func92, Tryz.ntmps92
 go_wp2
 go_ret
 exact ⟨rfl, rfl⟩
theorem clipE_nil (w : World) : Calls Tryz.prog 93 #[.slice none 0 0] w fun e w' => e = .returned (.slice none 0 0) ∧ w = w' := by
 go_enter Tryz.func93, Tryz.ntmps93
 go_wp2
 go_ret
 exact ⟨rfl, rfl⟩
theorem clipE_some (a : Addr) (n c : Nat) (w : World) (_h : n ≤ c) (_hc : c ≤ maxLen) : Calls Tryz.prog 93 #[.slice (some a) n c] w fun e w' => e = .returned (.slice (some a) n n) ∧ w = w' := by
 unfold maxLen at _hc
 go_enter Tryz.func93, Tryz.ntmps93
 go_wp2
 go_ret
 exact ⟨rfl, rfl⟩
def Clipped (w : World) (e : TypeId) (sz : Nat) (B : Nat) (v : Value) (n : Nat) (xs : List Value) : Prop := (∃ a, v = .slice a n n) ∧ Row w e sz v n xs ∧ ∀ g, v.ownBlock = some g → B ≤ g
theorem clipE_any {w : World} {B n : Nat} {v : Value} {xs : List Value} (h : w.ownsRow B 206 13 v n xs) :
  Calls Tryz.prog 93 #[v] w fun e w' => (∃ v', e = .returned v' ∧ Clipped w 206 13 B v' n xs) ∧ w = w' := by
 have hr := Row.of_owns h
 rcases h.2 with ⟨rfl, rfl⟩ | ⟨g, cap, cur, rfl, hB, hh, hn, hm, _, _⟩
 ·exact (clipE_nil w).mono fun e w' ⟨he, hw⟩ => ⟨⟨_, he, ⟨_, rfl⟩, hr, fun g hg => by simp [Value.ownBlock] at hg⟩, hw⟩
 ·refine (clipE_some _ n cap w hn hm).mono fun e w' ⟨he, hw⟩ => ⟨⟨_, he, ⟨_, rfl⟩, ?_, fun k hk => by simp [Value.ownBlock] at hk; omega⟩, hw⟩
  obtain ⟨h0, a, c, he, h1, h2, h3, h4, h5⟩ := hr
  obtain ⟨rfl, _, rfl⟩ := slice_inj he
  exact ⟨h0, _, n, rfl, Nat.le_refl _, by omega, (fun h => by cases h), h4, h5⟩
theorem infoEv : (Tryz.prog.info? 206).map (fun i => (i.zero, i.size, i.bytes)) = some (some (.agg evZero), 13, 144) := by kernel_rfl
theorem turn_chg {W : World} {l : Nat} (o' : Obj) : Chg (fun k => k = l) W (W.putObj l o') :=
 ⟨rfl, rfl, rfl, by simp, fun k _ hk => World.putObj_heap_other hk⟩
theorem turn_tag {W : World} {l : Nat} {o : Obj} (h : W.heap[l]? = some o) (ho : o.isCells = false) (e : TypeId) : ¬ Tag W l e := by
 rintro ⟨cs, fz, h'⟩
 rw [h] at h'
 cases h'
 cases ho
section
variable {n₀ : Nat} {w : World} {p : Nat} {t : TypeId} {rest : List Value} {hv0 : Value} {q q1 q2 : Nat} {bv : Value} {bl : List UInt8} {st : FSt} {es : List Ev} {W : World} {hv ks v : Value} {L : List (Value × Ev)}
theorem InJ.turn (h : InJ n₀ w p t rest hv0 q q1 q2 bv bl st es W hv ks v L) {l : Nat} {o o' : Obj} (hl : w.heap.size ≤ l) (hb : W.heap[l]? = some o) (ho : o.isCells = false) : InJ n₀ w p t rest hv0 q q1 q2 bv bl st es (W.putObj l o') hv ks v L :=
 h.kept (turn_chg o') (fun k hk => by
  subst hk
  exact ⟨hl, turn_tag hb ho _, turn_tag hb ho _, turn_tag hb ho _, turn_tag hb ho _, turn_tag hb ho _, turn_tag hb ho _, turn_tag hb ho _⟩)
theorem keys_turn {l : Nat} {o o' : Obj} (hb : W.heap[l]? = some o) (ho : o.isCells = false) {k : Value} {L : List (List UInt8)} (h : KeysAt W k L) : KeysAt (W.putObj l o') k L :=
 h.kept (turn_chg o') (fun g hg e => by subst e; exact turn_tag hb ho _ (h.tag hg))
theorem InJ.push (h : InJ n₀ w p t rest hv0 q q1 q2 bv bl st es W hv ks v L) (ht : t ≠ 116 ∧ t ≠ 200 ∧ t ≠ 47) {w1 : World} {v' ke : Value} {ev : Ev} {o : Obj} (hk : KeysAt W ke ev.cmd.keys)
  (hown : w1.ownsRow w.heap.size 206 13 v' (L.length + 1) (evsCells L ++ evCells ke ev)) (hgr : (W.alloc o).grownBy w1 v.ownBlock) :
  w1.cell? ⟨q, 0, none⟩ = some v ∧ w1.frozen? ⟨q, 0, none⟩ = false ∧ InJ n₀ w p t rest hv0 q q1 q2 bv bl st (es ++ [ev]) (w1.setCell ⟨q, 0, none⟩ v') hv ks v' (L ++ [(ke, ev)]) ∧ KeepsOthers W (w1.setCell ⟨q, 0, none⟩ v') := by
 have hc1 : Chg (fun k => v.ownBlock = some k) W w1 := ((Chg.refl _ _).alloc o).then (M' := fun k => v.ownBlock = some k) (Chg.of_grown hgr (fun _ _ e => e)) (fun _ _ e => e)
 have hb1 : w1.heap[q]? = some (.cells #[v] 116 (0, 0)) := hc1.obj h.box (fun e => absurd ((owns_tag h.row e).one (Tag.of h.box)) (by decide))
 have hs := set_chg w1 q 0 v'
 have hc2 : Chg (fun k => v.ownBlock = some k ∨ k = q) W (w1.setCell ⟨q, 0, none⟩ v') := (hc1.mono (M' := fun k => v.ownBlock = some k ∨ k = q) (fun _ _ e => .inl e)).then hs (fun _ _ e => .inr e)
 have htag : ∀ k, (v.ownBlock = some k ∨ k = q) → w.heap.size ≤ k ∧ (Tag W k 206 ∨ Tag W k 116) := fun k hk => by
  rcases hk with hk | rfl
  ·exact ⟨(h.row.lt k hk).1, .inl (owns_tag h.row hk)⟩
  ·exact ⟨h.lq, .inr (Tag.of h.box)⟩
 have hno : ∀ k, (v.ownBlock = some k ∨ k = q) → ∀ e, e ≠ 206 → e ≠ 116 → ¬ Tag W k e := fun k hk e h1 h2 he => by
  rcases (htag k hk).2 with h3 | h3
  ·exact h1 (he.one h3)
  ·exact h2 (he.one h3)
 have hrow : (w1.setCell ⟨q, 0, none⟩ v').ownsRow w.heap.size 206 13 v' (L.length + 1) (evsCells L ++ evCells ke ev) := owns_grow hown hs (fun g hg e => by
  subst e
  exact absurd ((owns_tag hown hg).one (Tag.of hb1)) (by decide))
 refine ⟨(block_cell hb1 0).1, (block_cell hb1 0).2, ?_, hc2.others (fun k _ e => ?_)⟩
 ·exact {
   feed := h.feed.kept hc2 (fun k hk => ⟨fun e => by
    rcases (h.feed.fm e).2 with h1 | h1
    ·exact hno k hk _ h.te ht.1 h1
    ·exact hno k hk _ (by decide) (by decide) h1, hno k hk _ (by decide) (by decide)⟩)
   env := h.env.chg hc2 (fun k hk => Nat.le_trans h.le (htag k hk).1)
   fresh := h.fresh
   apart := h.apart
   box := heap_setCell_same w1 q 0 _ _ v' hb1
   row := by
    rw [List.length_append, evsCells_snoc]
    exact hrow
   evs := by rw [List.map_append, h.evs]; rfl
   keys := fun x hx => by
    rcases List.mem_append.1 hx with hx | hx
    ·exact (h.keys x hx).kept hc2 (fun g hg e => hno g e _ (by decide) (by decide) ((h.keys x hx).tag hg))
    ·obtain rfl : x = (ke, ev) := by simpa using hx
     exact hk.kept hc2 (fun g hg e => hno g e _ (by decide) (by decide) (hk.tag hg))
   box1 := hc2.obj h.box1 (fun e => hno q1 e _ (by decide) (by decide) (Tag.of h.box1))
   box2 := hc2.obj h.box2 (fun e => hno q2 e _ (by decide) (by decide) (Tag.of h.box2))
   bytes := h.bytes.kept hc2 (fun hne g hg e => by
    rcases h.safe hne g hg with h1 | h1
    ·have := (htag g e).1; have := h.le; omega
    ·exact hno g e _ (by decide) (by decide) h1)
   safe := fun hne g hg => by
    rcases h.safe hne g hg with h1 | h1
    ·exact .inl h1
    ·exact .inr (hc2.tag h1 (fun e => hno g e _ (by decide) (by decide) h1))
   chg := h.chg.then hc2 (fun i hi e => by have := (htag i e).1; omega)
   lq := h.lq
   lq1 := h.lq1
   lq2 := h.lq2
   le := h.le
   te := h.te }
 ·rcases (htag k e).2 with h3 | h3
  ·exact ⟨_, h3⟩
  ·exact ⟨_, h3⟩
end
def InOk (n₀ : Nat) (w : World) (p : Nat) (t : TypeId) (rest : List Value) (hv0 : Value) (r : FSt × List Ev) (e : Ending) (w' : World) : Prop :=
 ∃ hv ks ov L, e = .returned ov ∧ FeedAt n₀ w' p t rest hv ks r.1 ∧ Chg (FM p hv0) w w' ∧ (∀ g, hv.ownBlock = some g → hv0.ownBlock = some g ∨ w.heap.size ≤ g) ∧ L.map (·.2) = r.2 ∧
  Clipped w' 206 13 w.heap.size ov L.length (evsCells L) ∧ ∀ x ∈ L, KeysAt w' x.1 x.2.cmd.keys
theorem in_any {n₀ : Nat} {w : World} {p : Nat} {t : TypeId} {rest : List Value} {hv0 ks0 bv : Value} {bl : List UInt8} {st0 : FSt} (h : FeedAt n₀ w p t rest hv0 ks0 st0) (hE : Env n₀ w) (hn : n₀ ≤ w.heap.size) (hgd : GoodF st0) (hlen : st0.held.length + bl.length < 1048576)
  (hb : BRow w bv bl) (hbs : bl ≠ [] → ∀ g, bv.ownBlock = some g → g < n₀ ∨ Tag w g 5) (hbh : bl ≠ [] → ∀ g, bv.ownBlock = some g → hv0.ownBlock ≠ some g) (ht : t ≠ 116 ∧ t ≠ 200 ∧ t ≠ 47) (hte : t ≠ 206) :
  Calls Tryz.prog 69 #[.pointer (some ⟨p, 0, none⟩), bv] w (InOk n₀ w p t rest hv0 (runF st0 bl)) := by
 obtain ⟨i0, hi, hz0, hz1, hz2⟩ := info_parts infoEv
 obtain ⟨ba, bc, rfl⟩ := hb.len
 refine (callsIn_wide (n := 3)).1 ?_
 refine callsIn_of_wp_marks Tryz.func69 rfl trivial ?_ rfl
 simp only [Tryz.ntmps69, List.size_toArray, List.length_cons, List.length_nil, Nat.reduceAdd, Nat.reduceSub, Array.replicate_succ, Array.replicate_zero, List.push_toArray, List.append_toArray, List.nil_append, List.cons_append]
 have hc3 : Chg (fun _ => False) w (((w.alloc (.cells #[.slice none 0 0] 116)).alloc (.cells #[.pointer (some ⟨p, 0, none⟩)] 200)).alloc (.cells #[.slice ba bl.length bc] 47)) := (((Chg.refl _ _).alloc _).alloc _).alloc _
 have hj : InJ n₀ w p t rest hv0 w.heap.size (w.heap.size + 1) (w.heap.size + 2) (.slice ba bl.length bc) bl st0 [] (((w.alloc (.cells #[.slice none 0 0] 116)).alloc (.cells #[.pointer (some ⟨p, 0, none⟩)] 200)).alloc (.cells #[.slice ba bl.length bc] 47)) hv0 ks0 (.slice none 0 0) [] := {
  feed := h.kept hc3 (fun _ e => e.elim)
  env := hE.chg hc3 (fun _ e => e.elim)
  fresh := fun g hg => .inl hg
  apart := hbh
  box := by rw [heap_at, if_neg (by simp; omega), heap_at, if_neg (by simp), heap_at, if_pos rfl]
  row := World.ownsRow_nil _ _ _ _
  evs := rfl
  keys := fun x hx => by cases hx
  box1 := by rw [heap_at, if_neg (by simp), heap_at, if_pos (by simp)]
  box2 := by rw [heap_at, if_pos (by simp)]
  bytes := hb.kept hc3 (fun _ _ _ e => e)
  safe := fun hne g hg => (hbs hne g hg).imp id (fun h1 => hc3.tag h1 (fun e => e))
  chg := hc3.mono (fun _ _ e => e.elim)
  lq := Nat.le_refl _
  lq1 := by omega
  lq2 := by omega
  le := hn
  te := hte }
 gi_wp2
 refine ⟨trivial, ?_⟩
 refine (callsIn_wide.2 (all_any _ _ _ _ _)).mono ?_
 rintro e w' ⟨rfl, rfl⟩
 gi_wp2
 obtain ⟨W0, hW0⟩ := xE ((((w.alloc (.cells #[.slice none 0 0] 116)).alloc (.cells #[.pointer (some ⟨p, 0, none⟩)] 200)).alloc (.cells #[.slice ba bl.length bc] 47)))
 have hsz : W0.heap.size = w.heap.size + 3 := by rw [hW0]; simp
 rw [← hW0] at hj ⊢
 refine wpIn_rangeFunc_st (σ := FSt × List Ev × Value × Ev) rfl (by omega) (gf := 119) (lb := #[.pointer (some ⟨w.heap.size + 2, 0, none⟩), .pointer (some ⟨w.heap.size + 1, 0, none⟩)]) rfl trivial (enters_of Tryz.func119 (by kernel_rfl) rfl)
  (fun s => #[evV s.2.2.1 s.2.2.2]) (fun _ => rfl)
  (fun W => ∃ hv ks v L, InJ n₀ w p t rest hv0 w.heap.size (w.heap.size + 1) (w.heap.size + 2) (.slice ba bl.length bc) bl st0 [] W hv ks v L)
  (fun W => ∃ hv ks v L, InJ n₀ w p t rest hv0 w.heap.size (w.heap.size + 1) (w.heap.size + 2) (.slice ba bl.length bc) bl (runF st0 bl).1 (runF st0 bl).2 W hv ks v L)
  (fun s W => (∃ hv ks v L, InJ n₀ w p t rest hv0 w.heap.size (w.heap.size + 1) (w.heap.size + 2) (.slice ba bl.length bc) bl s.1 s.2.1 W hv ks v L ∧ L.length < 1048576) ∧ KeysAt W s.2.2.1 s.2.2.2.cmd.keys)
  (fun s W => ∃ hv ks v L, InJ n₀ w p t rest hv0 w.heap.size (w.heap.size + 1) (w.heap.size + 2) (.slice ba bl.length bc) bl s.1 (s.2.1 ++ [s.2.2.2]) W hv ks v L)
  (fun _ _ _ => False) ?tA ?tB (fun _ _ _ _ _ _ _ _ _ _ h => h) ?tE ?st0 ?iter
  (fun s a' W => ((∃ hv ks v L, InJ n₀ w p t rest hv0 w.heap.size (w.heap.size + 1) (w.heap.size + 2) (.slice ba bl.length bc) bl s.1 s.2.1 W hv ks v L ∧ L.length < 1048576) ∧ KeysAt W s.2.2.1 s.2.2.2.cmd.keys) ∧
   ∃ Bx, W.heap[Bx]? = some (.cells (evCells s.2.2.1 s.2.2.2).toArray 206 (0, 0)) ∧ W0.heap.size ≤ Bx ∧
    a' = { tmps := #[.pointer (some ⟨p, 0, none⟩), .slice ba bl.length bc, undef, undef, .slice none 0 0, .pointer (some ⟨w.heap.size, 0, none⟩), .pointer (some ⟨Bx, 0, none⟩), .pointer (some ⟨p, 0, none⟩), .bool false, .pointer (some ⟨p, 0, none⟩), .slice ba bl.length bc, .func (.func 119) #[] #[.pointer (some ⟨w.heap.size + 2, 0, none⟩), .pointer (some ⟨w.heap.size + 1, 0, none⟩)], evV s.2.2.1 s.2.2.2, undef, undef, undef, undef, undef, undef], defers := [] })
  ?tX ?assign ?body ?done (fun _ _ _ _ _ h => h.elim)
 case tA =>
  rintro s W l o o' hl hb ho _ ⟨⟨hv, ks, v, L, hj, hL⟩, hk⟩
  exact ⟨⟨hv, ks, v, L, hj.turn (by omega) hb ho, hL⟩, keys_turn hb ho hk⟩
 case tB =>
  rintro s W l o o' hl hb ho _ ⟨hv, ks, v, L, hj⟩
  exact ⟨hv, ks, v, L, hj.turn (by omega) hb ho⟩
 case tE =>
  rintro W l o o' hl hb ho _ ⟨hv, ks, v, L, hj⟩
  exact ⟨hv, ks, v, L, hj.turn (by omega) hb ho⟩
 case st0 => exact fun o1 o2 => ⟨_, _, _, _, (hj.kept (M := fun _ => False) (((Chg.refl _ _).alloc o1).alloc o2) (fun _ e => e.elim))⟩
 case iter =>
  rintro l K Kd hK hKd hY W ⟨hv, ks, v, L, hj'⟩ hKW
  refine (all1_in st0 hgd hlen ht 2 l W0.heap.size K hK ?_ W hj' hKW).mono fun e W' ⟨h1, h2, h3⟩ => ⟨h1, .inl ⟨h2, h3⟩⟩
  intro st es W hv ks v L ke ev hj hke hL hKW
  refine (hY (st, es, ke, ev) W ⟨⟨hv, ks, v, L, hj, hL⟩, hke⟩ hKW).mono ?_
  rintro e W' (⟨h1, h2, h3⟩ | ⟨_, _, h2, _⟩)
  ·exact ⟨h1, h2, h3⟩
  ·exact h2.elim
 case tX =>
  rintro s a' W l o o' hl hb ho _ ⟨⟨⟨hv, ks, v, L, hj, hL⟩, hk⟩, Bx, hBx, hBs, ha⟩
  exact ⟨⟨⟨hv, ks, v, L, hj.turn (by omega) hb ho, hL⟩, keys_turn hb ho hk⟩, Bx, (turn_chg o').obj hBx (fun e => by subst e; exact turn_tag hb ho _ (Tag.of hBx)), hBs, ha⟩
 case assign =>
  rintro l ⟨st, es, ke, ev⟩ W K ⟨⟨hv, ks, v, L, hj, hL⟩, hk⟩ hK
  dsimp only at hk hj hK
  obtain ⟨ka, kc, rfl⟩ := hk.len
  have hlq := (Tag.of hj.box2).lt
  have hal := (Chg.refl (fun _ => False) W).alloc (.cells (evCells (.slice ka ev.cmd.keys.length kc) ev).toArray 206)
  have hfin := hK _ _ ((KeepsOthers.alloc W (.cells (evCells (.slice ka ev.cmd.keys.length kc) ev).toArray 206)).from _) ⟨⟨⟨hv, ks, v, L, hj.kept hal (fun _ e => e.elim), hL⟩, hk.kept hal (fun _ _ e => e)⟩, W.heap.size, heap_alloc_new _ _, by omega, rfl⟩
  have HF := hidZ hfin
  clear hfin hal hj hk hK hL
  gi_wp2
  exact HF.out
 case body =>
  rintro l ⟨st, es, ke, ev⟩ a' W ⟨⟨⟨hv, ks, v, L, hj, hL⟩, hk⟩, Bx, hBx, hBs, rfl⟩
  dsimp only at hk hj hBx
  obtain ⟨ka, kc, rfl⟩ := hk.len
  obtain ⟨va, vc, rfl⟩ := row_slice hj.row
  have c5 := (block_cell hj.box 0).1
  have d0 : W.cell? ⟨Bx, 0, none⟩ = some (.int .u8 (ev.cmd.verb : Int)) := (block_cell hBx 0).1
  have d1 : W.cell? ⟨Bx, 1, none⟩ = some (.slice ka ev.cmd.keys.length kc) := (block_cell hBx 1).1
  have d2 : W.cell? ⟨Bx, 2, none⟩ = some (.int .u8 (ev.cmd.cverb : Int)) := (block_cell hBx 2).1
  have d3 : W.cell? ⟨Bx, 3, none⟩ = some (sv ev.cmd.key) := (block_cell hBx 3).1
  have d4 : W.cell? ⟨Bx, 4, none⟩ = some (sv ev.cmd.value) := (block_cell hBx 4).1
  have d5 : W.cell? ⟨Bx, 5, none⟩ = some (.int .u32 (ev.cmd.flags : Int)) := (block_cell hBx 5).1
  have d6 : W.cell? ⟨Bx, 6, none⟩ = some (.int .i64 ev.cmd.exp) := (block_cell hBx 6).1
  have d7 : W.cell? ⟨Bx, 7, none⟩ = some (.int .u64 (ev.cmd.id : Int)) := (block_cell hBx 7).1
  have d8 : W.cell? ⟨Bx, 8, none⟩ = some (.int .u64 (ev.cmd.by' : Int)) := (block_cell hBx 8).1
  have d9 : W.cell? ⟨Bx, 9, none⟩ = some (.int .i64 ev.cmd.bytes) := (block_cell hBx 9).1
  have d10 : W.cell? ⟨Bx, 10, none⟩ = some (.bool ev.cmd.quiet) := (block_cell hBx 10).1
  have d11 : W.cell? ⟨Bx, 11, none⟩ = some (sv ev.data) := (block_cell hBx 11).1
  have d12 : W.cell? ⟨Bx, 12, none⟩ = some (.int .u8 (ev.told : Int)) := (block_cell hBx 12).1
  have hs := hj.chg.size
  gi_wp2_with (gi_at_builtin; refine wpListIn_append_own _ rfl _ _ 116 rfl w.heap.size 206 i0 (.agg evZero) 13 144 Tryz.underlying116 hi hz0 hz1 hz2 rfl (by decide) _ _ _ rfl (hj.row.alloc _) ⟨W.heap.size, 0, none⟩ 1 1 (evCells (.slice ka ev.cmd.keys.length kc) ev) rfl rfl (World.news_of_block (cs := (evCells (.slice ka ev.cmd.keys.length kc) ev).toArray) (heap_alloc_new _ _)) (by simp [Value.oneCell']) (by unfold maxLen; omega) (by omega) (by simp; omega) ?_; intro v' w1 hown' hgrow _; obtain ⟨g', cap', rfl⟩ := ownsRow_succ hown'; obtain ⟨cq, fq, hj2, hko⟩ := hj.push ht hk hown' hgrow)
  exact ⟨hko.from _, _, _, _, _, hj2⟩
 case done =>
  rintro D W hD ⟨hv, ks, v, L, hj⟩ hK
  obtain ⟨va, vc, rfl⟩ := row_slice hj.row
  have c5 := (block_cell hj.box 0).1
  gi_wp2
  refine ⟨trivial, ?_⟩
  refine (callsIn_wide.2 (clipE_any hj.row)).mono ?_
  rintro e w' ⟨⟨ov, rfl, hov⟩, rfl⟩
  gi_wp2
  refine ⟨by simp, .inl ⟨_, _, rfl, run_takeDeferred hK, ?_⟩⟩
  have hjt := hj.turn (o' := .deferred none) (l := D) (by omega) hK rfl
  refine ⟨_, results_tmp rfl _ _ _, hv, ks, ov, L, rfl, hjt.feed, hjt.chg, hjt.fresh, hjt.evs, ⟨hov.1, hov.2.1.kept (turn_chg _) (fun g hg e => ?_), hov.2.2⟩, hjt.keys⟩
  subst e
  exact turn_tag hK rfl _ (hov.2.1.tag hg)
open Go.RowKit Go.ChangeMaps Go.MapKept
theorem wpList_appB {ops : Array Oper} {rest : List Oper} {o : Oper} {a : Act} {Q : Exit → Act → World → Prop} {w : World} (s x : Operand)
  (ho : o.op = .call { callee := .builtin .append, args := #[s, x], argTypes := #[47, 47] }) {v : Value} (hs : a.eval s = v) {bv : Value} {l0 bl : List UInt8} {B : Nat} (hx : a.eval x = bv) (hw : Region.wanted o (yielded ops a.tmps) = true)
  (hB : B ≤ w.heap.size) (hv : w.ownsRow B 5 1 v l0.length (l0.map u8v)) (hb : BRow w bv bl) (hl : l0.length + bl.length < 1048576)
  (h : ∀ v' w', w'.ownsRow B 5 1 v' (l0 ++ bl).length ((l0 ++ bl).map u8v) → Below B w w' → wpList Tryz.prog ops Q rest (a.put o.dst v') w') : wpList Tryz.prog ops Q (o :: rest) a w := by
 refine Go.BigFrame.wpList_want hw fun K hK => ?_
 obtain ⟨i0, hi, hz0, hz1, hz2⟩ := info_parts infoByte
 obtain ⟨ba, bc, rfl, h1, h2, h3, h4⟩ := hb
 cases ba with
 | none =>
  obtain rfl := h3 rfl
  obtain rfl : bl = [] := List.eq_nil_of_length_eq_zero (by omega)
  have hrun := run_append_owned_none (P := Tryz.prog) (w := w) B 47 o.type 5 i0 1 Tryz.underlying47 hi v l0.length (l0.map u8v) hv
  have hx' : a.eval x = .slice none 0 0 := hx
  unfold Oper.wp
  simp [execOp, ho, resolve, invoke, builtin, hs, hx', hrun, Result.andThen]
  exact hK _ _ (h _ _ (by rw [List.append_nil]; exact hv) (Below.refl _ _))
 | some A =>
  refine wp_append_own w s x 47 ho B 5 i0 (.int .u8 0) 1 1 Tryz.underlying47 hi hz0 hz1 hz2 rfl (by omega) v l0.length (l0.map u8v) hs hv A bl.length bc (bl.map u8v) hx (by simp) ?_ (fun u hu => ?_) (by unfold maxLen; omega) (by omega) hB
   (fun v' w' h5 h6 _ => hK _ _ (h v' w' (by rw [List.length_append, List.map_append]; exact h5) ((Below.refl _ _).grown h6 hB (fun k hk => (hv.lt k hk).1))))
  ·intro j u hu
   rcases h4 with rfl | ⟨g, o', he, _, hc⟩
   ·simp at hu
   ·obtain rfl := Option.some.inj he
    rw [List.getElem?_map] at hu
    obtain ⟨c, hcj, rfl⟩ := Option.map_eq_some_iff.1 hu
    rw [Addr.add_mid]
    exact hc j c hcj
  ·obtain ⟨c, _, rfl⟩ := List.mem_map.1 hu
   rfl
def EvRow (w : World) (v : Value) (L : List (Value × Ev)) : Prop := Row w 206 13 v L.length (evsCells L) ∧ ∀ x ∈ L, KeysAt w x.1 x.2.cmd.keys
theorem goodF_new : GoodF fNew := ⟨by show 0 ≤ 5; omega, fun e => by have : 0 = 5 := e; omega⟩
end Go.Proofs.YtnkkoicbnbjlnaaGreatDoor
