/- The document's connection in memory; plain: what it holds, beside what the program's holds. No condition. The document's connection in memory: its block, and what each store leaves. No condition. What the document's connection does at Next, Left; which events get keys. No condition. What In does with the document's connection: bytes come. No condition. -/
import Derived.Test.YtddifbimlmkcbaaGreatDoorFeedRefIn
import Derived.Test.YtddifbimlmkcbaaGreatDoorCoE
import Derived.Test.YtddifbimlmkcbaaGreatDoorTellsValueRef
namespace Go.Proofs.YtddifbimlmkcbaaGreatDoor
open Go.RowKit Go.ChangeMaps Go.MapKept
/-- The document's connection: the bytes that came, what waits, what is at its turn, its calls, is one under way, what was told, is it closed? -/
structure RM where
  bl : List UInt8
  wait : List Ev
  turn : Ev
  calls : List Cmd
  under : Bool
  out : List UInt8
  closed : Bool
def rNew : RM := ⟨[], [], toldE 0, [], false, [], false⟩
structure TurnRR where
  wait : List Ev
  turn : Ev
  calls : List Cmd
  out : List UInt8
  closed : Bool
def turnsR : List Ev → Ev → List UInt8 → Bool → TurnRR
  | [], t, o, cl => ⟨[], t, [], o, cl⟩
  | e :: es, _, o, cl => if quitE e then ⟨[], e, [], o, true⟩ else if callsE e = [] then turnsR es e (quietE e o) cl else ⟨es, e, callsE e, o, cl⟩
def onR (s : RM) : RM := if s.calls = [] then { s with wait := (turnsR s.wait s.turn s.out s.closed).wait, turn := (turnsR s.wait s.turn s.out s.closed).turn, calls := (turnsR s.wait s.turn s.out s.closed).calls, out := (turnsR s.wait s.turn s.out s.closed).out, closed := (turnsR s.wait s.turn s.out s.closed).closed } else s
/-- One event's turn. -/
def stepR (s : RM) (e : Ev) (es : List Ev) : RM := if quitE e then { s with wait := [], turn := e, closed := true } else { s with wait := es, turn := e, out := quietE e s.out, calls := callsE e }
theorem on_step {s : RM} {e : Ev} {es : List Ev} (hc : s.calls = []) (hw : s.wait = e :: es) : onR (stepR s e es) = onR s := by
  unfold stepR
  by_cases hq : quitE e
  · rw [if_pos hq]
    unfold onR
    rw [if_pos hc, if_pos (by exact hc), hw]
    unfold turnsR
    rw [if_pos hq]
  · rw [if_neg hq]
    by_cases hce : callsE e = []
    · unfold onR
      rw [if_pos hc, if_pos (by exact hce), hw]
      conv => rhs; unfold turnsR
      rw [if_neg hq, if_pos hce]
    · have hqe : quietE e s.out = s.out := by
        unfold quietE
        have h1 : ¬ (e.told ≠ 0 ∨ e.cmd.verb = 12 ∨ e.cmd.verb = 13) := fun hx => hce (callsE_skip hx)
        simp only [not_or, Decidable.not_not] at h1
        rw [if_neg (by omega), if_neg h1.2.1]
      unfold onR
      rw [if_pos hc, if_neg (by exact hce), hw, hqe]
      unfold turnsR
      rw [if_neg hq, if_neg hce]
theorem on_stay {s : RM} (h : s.calls ≠ [] ∨ s.wait = []) : onR s = s := by
  unfold onR
  by_cases hc : s.calls = []
  · rw [if_pos hc]
    rcases h with h | h
    · exact absurd hc h
    · obtain ⟨b, wt, t, cl, u, o', cd⟩ := s
      dsimp only at hc h
      subst hc h
      rfl
  · rw [if_neg hc]
/-- Both hold the same. -/
structure SameM (m : ConnM) (s : RM) : Prop where
  good : GoodM m
  feed : m.feed = (runF fNew s.bl).1
  calls : s.calls = m.calls
  under : s.under = m.under
  out : s.out = m.out
  closed : s.closed = m.closed
  idle : m.calls = [] → s.wait = m.wait
  busy : m.calls ≠ [] → m.wait = s.turn :: s.wait
theorem same_new : SameM cNew rNew := ⟨good_new, rfl, rfl, rfl, rfl, rfl, fun _ => rfl, fun h => absurd rfl h⟩
theorem turns_same : ∀ (L : List Ev) (t : Ev) (o : List UInt8) (cl : Bool), (turnsR L t o cl).calls = (turnsM L o cl).calls ∧ (turnsR L t o cl).out = (turnsM L o cl).out ∧ (turnsR L t o cl).closed = (turnsM L o cl).closed ∧
    ((turnsM L o cl).calls = [] → (turnsR L t o cl).wait = (turnsM L o cl).wait) ∧ ((turnsM L o cl).calls ≠ [] → (turnsM L o cl).wait = (turnsR L t o cl).turn :: (turnsR L t o cl).wait)
  | [], t, o, cl => ⟨rfl, rfl, rfl, fun _ => rfl, fun h => absurd rfl h⟩
  | e :: es, t, o, cl => by
    unfold turnsR turnsM
    split
    · exact ⟨rfl, rfl, rfl, fun _ => rfl, fun h => absurd rfl h⟩
    · split
      · exact turns_same es e _ cl
      · rename_i hc
        exact ⟨rfl, rfl, rfl, fun h => absurd h hc, fun _ => rfl⟩
/-- When all calls are answered, both go on. -/
theorem same_on {m : ConnM} {s : RM} (hg : GoodM (onM m)) (hf : m.feed = (runF fNew s.bl).1) (hm : m.calls = []) (hs : s.calls = []) (hu : s.under = m.under) (ho : s.out = m.out) (hc : s.closed = m.closed) (hw : s.wait = m.wait) : SameM (onM m) (onR s) := by
  obtain ⟨h1, h2, h3, h4, h5⟩ := turns_same m.wait s.turn m.out m.closed
  unfold onM onR at *
  rw [if_pos hm] at *
  rw [if_pos hs, hw, ho, hc]
  exact ⟨hg, hf, h1, hu, h2, h3, h4, h5⟩
def inR (s : RM) (b : List UInt8) : RM := if s.closed then s else onR { s with bl := s.bl ++ b, wait := s.wait ++ (refEv (s.bl ++ b)).1.drop (refEv s.bl).1.length }
theorem onM_busy {x : ConnM} (h : x.calls ≠ []) : onM x = x := by unfold onM; rw [if_neg h]
theorem onR_busy {x : RM} (h : x.calls ≠ []) : onR x = x := by unfold onR; rw [if_neg h]
theorem same_in {m : ConnM} {s : RM} (h : SameM m s) (b : List UInt8) : SameM (inM m b) (inR s b) := by
  have hg := in_good h.good b
  cases hc : m.closed
  · have hs : s.closed = false := h.closed.trans hc
    have hmore := feed_more s.bl b
    have hev : (refEv (s.bl ++ b)).1.drop (refEv s.bl).1.length = (runF m.feed b).2 := by
      rw [hmore.1, List.drop_left, h.feed]
    have hfd : (runF m.feed b).1 = (runF fNew (s.bl ++ b)).1 := by rw [h.feed, runF_append]
    have hin : inM m b = onM { m with feed := (runF m.feed b).1, wait := m.wait ++ (runF m.feed b).2 } := by unfold inM; rw [hc, if_neg (by simp)]
    have hir : inR s b = onR { s with bl := s.bl ++ b, wait := s.wait ++ (runF m.feed b).2 } := by unfold inR; rw [hs, if_neg (by simp), hev]
    rw [hin] at hg ⊢
    rw [hir]
    by_cases hca : m.calls = []
    · exact same_on hg hfd hca (h.calls.trans hca) h.under h.out h.closed (by show s.wait ++ _ = m.wait ++ _; rw [h.idle hca])
    · rw [onM_busy (x := { m with feed := (runF m.feed b).1, wait := m.wait ++ (runF m.feed b).2 }) hca] at hg ⊢
      rw [onR_busy (x := { s with bl := s.bl ++ b, wait := s.wait ++ (runF m.feed b).2 }) (by show s.calls ≠ []; rw [h.calls]; exact hca)]
      exact ⟨hg, hfd, h.calls, h.under, h.out, h.closed, fun e => absurd e hca, fun e => by show m.wait ++ _ = s.turn :: (s.wait ++ _); rw [h.busy e]; rfl⟩
  · have hin : inM m b = m := by unfold inM; rw [hc, if_pos rfl]
    have hir : inR s b = s := by unfold inR; rw [if_pos (h.closed.trans hc)]
    rw [hin, hir]
    exact h
def tookR (s : RM) : RM := if s.under = true ∨ s.calls = [] then s else { s with under := true }
theorem same_took {m : ConnM} {s : RM} (h : SameM m s) : SameM (tookM m) (tookR s) := by
  have hg := took_good h.good
  by_cases hc : m.calls = []
  · have h1 : tookM m = m := by unfold tookM; rw [if_pos hc]
    have h2 : tookR s = s := by unfold tookR; rw [if_pos (.inr (h.calls.trans hc))]
    rw [h1, h2]
    exact h
  · have h1 : tookM m = { m with under := true } := by unfold tookM; rw [if_neg hc]
    rw [h1] at hg ⊢
    by_cases hu : s.under = true
    · have h2 : tookR s = s := by unfold tookR; rw [if_pos (.inl hu)]
      rw [h2]
      exact ⟨hg, h.feed, h.calls, hu, h.out, h.closed, h.idle, h.busy⟩
    · have h2 : tookR s = { s with under := true } := by
        unfold tookR
        rw [if_neg]
        rintro (e | e)
        · exact hu e
        · exact hc (h.calls.symm.trans e)
      rw [h2]
      exact ⟨hg, h.feed, h.calls, rfl, h.out, h.closed, h.idle, h.busy⟩
def doneR (s : RM) (a : AnsD) : RM := onR { s with calls := s.calls.tail, under := false, out := s.out ++ tellM s.turn.cmd a (decide (s.calls.tail = [])) }
theorem same_done {m : ConnM} {s : RM} (h : SameM m s) (a : AnsD) (hc : m.calls ≠ []) : SameM (doneM m a) (doneR s a) := by
  have hg := done_good h.good a hc
  have hb := h.busy hc
  have hcs := h.calls
  by_cases ht : m.calls.tail = []
  · have h1 : doneM m a = onM { m with wait := s.wait, calls := [], under := false, out := m.out ++ tellM s.turn.cmd a true } := by
      unfold doneM
      rw [hb]
      dsimp only
      rw [if_pos ht]
    have h2 : doneR s a = onR { s with calls := [], under := false, out := s.out ++ tellM s.turn.cmd a true } := by
      unfold doneR
      rw [hcs, ht]
      rfl
    rw [h1] at hg ⊢
    rw [h2]
    exact same_on hg h.feed rfl rfl rfl (by show s.out ++ _ = m.out ++ _; rw [h.out]) h.closed rfl
  · have h1 : doneM m a = { m with calls := m.calls.tail, under := false, out := m.out ++ tellM s.turn.cmd a false } := by
      unfold doneM
      rw [hb]
      dsimp only
      rw [if_neg ht]
    have h2 : doneR s a = { s with calls := m.calls.tail, under := false, out := s.out ++ tellM s.turn.cmd a false } := by
      unfold doneR
      rw [hcs, decide_eq_false ht, onR_busy (x := { s with calls := m.calls.tail, under := false, out := s.out ++ tellM s.turn.cmd a false }) ht]
    rw [h1] at hg ⊢
    rw [h2]
    exact ⟨hg, h.feed, rfl, rfl, by show s.out ++ _ = m.out ++ _; rw [h.out], h.closed, fun e => absurd e ht, fun _ => hb⟩
theorem same_left {m : ConnM} {s : RM} (h : SameM m s) : s.calls.length + s.wait.length = leftM m := by
  unfold leftM
  rw [h.calls]
  by_cases hc : m.calls = []
  · rw [if_pos hc, h.idle hc, hc, List.length_nil, Nat.zero_add]
  · rw [if_neg hc, h.busy hc, List.length_cons]
    omega
end Go.Proofs.YtddifbimlmkcbaaGreatDoor
namespace Go.Proofs.YtddifbimlmkcbaaGreatDoor
open Go.RowKit Go.ChangeMaps Go.MapKept
/-- The cells behind the feed. -/
abbrev rcRest (wv tk cv : Value) (m : RM) : List Value := wv :: (rEvCells tk m.turn ++ [cv, .bool m.under, sv m.out, .bool m.closed])
abbrev rcCells (bv wv tk cv : Value) (m : RM) : List Value := bv :: .int .i64 ((refEv m.bl).1.length : Int) :: rcRest wv tk cv m
structure RAt (n₀ : Nat) (w : World) (r : Nat) (bv wv tk cv : Value) (L : List (Value × Ev)) (m : RM) : Prop where
  low : n₀ ≤ r
  box : w.heap[r]? = some (.cells (rcCells bv wv tk cv m).toArray 65 (0, 0))
  feed : BRow w bv m.bl
  fed : ∀ g, bv.ownBlock = some g → n₀ ≤ g ∧ Tag w g 5
  evs : L.map (·.2) = m.wait
  wait : MidRow w n₀ 63 13 wv L.length (rEvsCells L)
  keys : ∀ x ∈ L, KeysAt w x.1 x.2.cmd.keys
  tk : ∃ a n c, tk = .slice a n c
  calls : MidRow w n₀ 39 7 cv m.calls.length (callsCells m.calls)
/-- The blocks of the document's connection. -/
def RS (r : Nat) (bv wv cv : Value) (k : Nat) : Prop := k = r ∨ bv.ownBlock = some k ∨ wv.ownBlock = some k ∨ cv.ownBlock = some k
section
variable {n₀ : Nat} {w w' : World} {r : Nat} {bv wv tk cv : Value} {L : List (Value × Ev)} {m : RM}
theorem RAt.rtag (h : RAt n₀ w r bv wv tk cv L m) : Tag w r 65 := Tag.of h.box
theorem RAt.plt (h : RAt n₀ w r bv wv tk cv L m) : r < w.heap.size := h.rtag.lt
theorem RAt.cell (h : RAt n₀ w r bv wv tk cv L m) {j : Nat} {v : Value} (hj : (rcCells bv wv tk cv m)[j]? = some v) : w.cell? ⟨r, j, none⟩ = some v ∧ w.frozen? ⟨r, j, none⟩ = false := by
  refine ⟨?_, (block_cell h.box j).2⟩
  rw [(block_cell h.box j).1, List.getElem?_toArray]
  exact hj
theorem RAt.sTag (h : RAt n₀ w r bv wv tk cv L m) {k : Nat} (hk : RS r bv wv cv k) : n₀ ≤ k ∧ (Tag w k 65 ∨ Tag w k 5 ∨ Tag w k 63 ∨ Tag w k 39) := by
  rcases hk with rfl | hk | hk | hk
  · exact ⟨h.low, .inl h.rtag⟩
  · exact ⟨(h.fed k hk).1, .inr (.inl (h.fed k hk).2)⟩
  · exact ⟨(h.wait.tag hk).2, .inr (.inr (.inl (h.wait.tag hk).1))⟩
  · exact ⟨(h.calls.tag hk).2, .inr (.inr (.inr (h.calls.tag hk).1))⟩
theorem RAt.far (h : RAt n₀ w r bv wv tk cv L m) {k : Nat} (hk : RS r bv wv cv k) : k < w.heap.size := by
  rcases (h.sTag hk).2 with h | h | h | h <;> exact h.lt
theorem RAt.kept {M : Nat → Prop} (h : RAt n₀ w r bv wv tk cv L m) (hc : Chg M w w') (hM : ∀ k, M k → ¬ RS r bv wv cv k ∧ ¬ Tag w k 9) : RAt n₀ w' r bv wv tk cv L m :=
  ⟨h.low, hc.obj h.box (fun e => (hM r e).1 (.inl rfl)), h.feed.kept hc (fun _ g hg e => (hM g e).1 (.inr (.inl hg))), fun g hg => ⟨(h.fed g hg).1, hc.tag (h.fed g hg).2 (fun e => (hM g e).1 (.inr (.inl hg)))⟩, h.evs,
    h.wait.kept hc (fun g hg e => (hM g e).1 (.inr (.inr (.inl hg)))), fun x hx => (h.keys x hx).kept hc (fun g hg e => (hM g e).2 ((h.keys x hx).tag hg)), h.tk, h.calls.kept hc (fun g hg e => (hM g e).1 (.inr (.inr (.inr hg))))⟩
theorem RAt.below (h : RAt n₀ w r bv wv tk cv L m) (hb : Below w.heap.size w w') : RAt n₀ w' r bv wv tk cv L m := h.kept (M := fun _ => False) (Chg.of_below hb) (fun _ e => e.elim)
/-- Only the block itself changes. -/
theorem RAt.boxed {wv' tk' cv' : Value} {L' : List (Value × Ev)} {m' : RM} (h : RAt n₀ w r bv wv tk cv L m) (hc : Chg (fun k => k = r) w w')
    (hb : w'.heap[r]? = some (.cells (rcCells bv wv' tk' cv' m').toArray 65 (0, 0))) (hbl : m'.bl = m.bl) (he : L'.map (·.2) = m'.wait)
    (hw : MidRow w n₀ 63 13 wv' L'.length (rEvsCells L')) (hk : ∀ x ∈ L', KeysAt w x.1 x.2.cmd.keys) (ht : ∃ a n c, tk' = .slice a n c)
    (hcs : MidRow w n₀ 39 7 cv' m'.calls.length (callsCells m'.calls)) : RAt n₀ w' r bv wv' tk' cv' L' m' := by
  have hp := h.rtag
  have hfeed : BRow w' bv m'.bl := by
    rw [hbl]
    refine h.feed.kept hc (fun _ g hg e => ?_)
    subst e
    exact absurd (hp.one (h.fed g hg).2) (by decide)
  refine ⟨h.low, hb, hfeed, fun g hg => ⟨(h.fed g hg).1, hc.tag (h.fed g hg).2 (fun e => ?_)⟩, he, hw.kept hc (fun g hg e => ?_), fun x hx => (hk x hx).kept hc (fun g hg e => ?_), ht, hcs.kept hc (fun g hg e => ?_)⟩
  · subst e; exact absurd (hp.one (h.fed g hg).2) (by decide)
  · subst e; exact absurd (hp.one (hw.tag hg).1) (by decide)
  · subst e; exact absurd (hp.one ((hk x hx).tag hg)) (by decide)
  · subst e; exact absurd (hp.one (hcs.tag hg).1) (by decide)
theorem RAt.setWait (h : RAt n₀ w r bv wv tk cv L m) {wv' : Value} {L' : List (Value × Ev)} (hw : MidRow w n₀ 63 13 wv' L'.length (rEvsCells L')) (hk : ∀ x ∈ L', KeysAt w x.1 x.2.cmd.keys) :
    RAt n₀ (w.setCell ⟨r, 2, none⟩ wv') r bv wv' tk cv L' { m with wait := L'.map (·.2) } :=
  h.boxed (cset_chg _ _ _ _) (by have := Go.Joins.block_setCell (i := 2) h.box wv'; rw [List.setIfInBounds_toArray] at this; exact this) rfl rfl hw hk h.tk h.calls
theorem RAt.setCalls (h : RAt n₀ w r bv wv tk cv L m) {cv' : Value} {C : List Cmd} (hw : MidRow w n₀ 39 7 cv' C.length (callsCells C)) :
    RAt n₀ (w.setCell ⟨r, 16, none⟩ cv') r bv wv tk cv' L { m with calls := C } :=
  h.boxed (cset_chg _ _ _ _) (by have := Go.Joins.block_setCell (i := 16) h.box cv'; rw [List.setIfInBounds_toArray] at this; exact this) rfl h.evs h.wait h.keys h.tk hw
theorem RAt.setUnder (h : RAt n₀ w r bv wv tk cv L m) (u : Bool) : RAt n₀ (w.setCell ⟨r, 17, none⟩ (.bool u)) r bv wv tk cv L { m with under := u } :=
  h.boxed (cset_chg _ _ _ _) (by have := Go.Joins.block_setCell (i := 17) h.box (.bool u); rw [List.setIfInBounds_toArray] at this; exact this) rfl h.evs h.wait h.keys h.tk h.calls
theorem RAt.setOut (h : RAt n₀ w r bv wv tk cv L m) (o : List UInt8) : RAt n₀ (w.setCell ⟨r, 18, none⟩ (sv o)) r bv wv tk cv L { m with out := o } :=
  h.boxed (cset_chg _ _ _ _) (by have := Go.Joins.block_setCell (i := 18) h.box (sv o); rw [List.setIfInBounds_toArray] at this; exact this) rfl h.evs h.wait h.keys h.tk h.calls
theorem RAt.setClosed (h : RAt n₀ w r bv wv tk cv L m) (u : Bool) : RAt n₀ (w.setCell ⟨r, 19, none⟩ (.bool u)) r bv wv tk cv L { m with closed := u } :=
  h.boxed (cset_chg _ _ _ _) (by have := Go.Joins.block_setCell (i := 19) h.box (.bool u); rw [List.setIfInBounds_toArray] at this; exact this) rfl h.evs h.wait h.keys h.tk h.calls
theorem RAt.setTurn (h : RAt n₀ w r bv wv tk cv L m) (ka : Option Addr) (kn kc : Nat) (e : Ev) : RAt n₀ (w.setCells r 3 (rEvCells (.slice ka kn kc) e)) r bv wv (.slice ka kn kc) cv L { m with turn := e } :=
  h.boxed (setCells_chg _ _ _ _) (setCells_list (rEvCells (.slice ka kn kc) e) [bv, .int .i64 ((refEv m.bl).1.length : Int), wv] (rEvCells tk m.turn) [cv, .bool m.under, sv m.out, .bool m.closed] w r _ h.box rfl) rfl h.evs h.wait h.keys ⟨_, _, _, rfl⟩ h.calls
/-- A row is a source for append. -/
theorem src_row {W : World} {e tx : TypeId} {sz n : Nat} {v : Value} {xs : List Value} (hk : Tryz.prog.underlying tx = some (.slice e)) (h : Row W e sz v n xs) (h1 : ∀ u ∈ xs, u.oneCell' = true) : Src Tryz.prog sz tx v n xs W := by
  obtain ⟨hl, a, c, rfl, h2, h3, h4, h5, h6⟩ := h
  cases a with
  | none =>
    obtain rfl := h4 rfl
    obtain rfl : n = 0 := by omega
    obtain rfl : xs = [] := List.eq_nil_of_length_eq_zero (by omega)
    exact Src.ofNil (P := Tryz.prog) (w := W) hk 0
  | some A =>
    refine Src.ofSlice (P := Tryz.prog) (w := W) hk A n c xs hl (fun j u hj => ?_) h1
    rcases h6 with h6 | ⟨g, o, h7, h8⟩
    · rw [h6] at hj; simp at hj
    · obtain rfl := Option.some.inj h7
      rw [show (⟨g, o, none⟩ : Addr).add j = ⟨g, o + j, none⟩ from by simp [Addr.add]]
      exact (h8 j u hj).1
theorem revsC_append (L M : List (Value × Ev)) : rEvsCells (L ++ M) = rEvsCells L ++ rEvsCells M := by simp [rEvsCells]
theorem revsC_one {w : World} {L : List (Value × Ev)} (h : ∀ x ∈ L, KeysAt w x.1 x.2.cmd.keys) : ∀ u ∈ rEvsCells L, u.oneCell' = true := fun u hu => by
  obtain ⟨x, hx, hu⟩ := List.mem_flatMap.1 hu
  obtain ⟨a, c, he⟩ := (h x hx).len
  simp only [rEvCells, cmdCells, List.cons_append, List.nil_append, List.mem_cons, List.not_mem_nil, or_false] at hu
  rcases hu with rfl | rfl | rfl | rfl | rfl | rfl | rfl | rfl | rfl | rfl | rfl | rfl | rfl <;> first | rfl | (rw [he]; rfl)
end
/-- The document's connection, its blocks behind one name. -/
def RIs (n₀ : Nat) (w : World) (r : Nat) (m : RM) (S : Nat → Prop) : Prop := ∃ bv wv tk cv L, RAt n₀ w r bv wv tk cv L m ∧ S = RS r bv wv cv
def RStep (n₀ : Nat) (w : World) (r : Nat) (S : Nat → Prop) (m' : RM) (w' : World) : Prop := ∃ S', RIs n₀ w' r m' S' ∧ Chg S w w' ∧ ∀ k, S' k → S k ∨ w.heap.size ≤ k
section
variable {n₀ : Nat} {w w' : World} {r : Nat} {m m' : RM} {S : Nat → Prop}
theorem RAt.is {bv wv tk cv : Value} {L : List (Value × Ev)} (h : RAt n₀ w r bv wv tk cv L m) : RIs n₀ w r m (RS r bv wv cv) := ⟨_, _, _, _, _, h, rfl⟩
theorem RIs.tag (h : RIs n₀ w r m S) {k : Nat} (hk : S k) : n₀ ≤ k ∧ (Tag w k 65 ∨ Tag w k 5 ∨ Tag w k 63 ∨ Tag w k 39) := by
  obtain ⟨bv, wv, tk, cv, L, h, rfl⟩ := h
  exact h.sTag hk
theorem RIs.far (h : RIs n₀ w r m S) {k : Nat} (hk : S k) : k < w.heap.size := by
  rcases (h.tag hk).2 with h | h | h | h <;> exact h.lt
theorem RIs.low (h : RIs n₀ w r m S) {k : Nat} (hk : S k) : n₀ ≤ k := (h.tag hk).1
theorem RIs.no (h : RIs n₀ w r m S) {k : Nat} (hk : S k) {t : TypeId} (h1 : t ≠ 65) (h2 : t ≠ 5) (h3 : t ≠ 63) (h4 : t ≠ 39) : ¬ Tag w k t := fun e => by
  rcases (h.tag hk).2 with h | h | h | h
  · exact h1 (e.one h)
  · exact h2 (e.one h)
  · exact h3 (e.one h)
  · exact h4 (e.one h)
theorem RIs.self (h : RIs n₀ w r m S) : S r := by
  obtain ⟨bv, wv, tk, cv, L, h, rfl⟩ := h
  exact .inl rfl
theorem RIs.kept {M : Nat → Prop} (h : RIs n₀ w r m S) (hc : Chg M w w') (hM : ∀ k, M k → ¬ S k ∧ ¬ Tag w k 9) : RIs n₀ w' r m S := by
  obtain ⟨bv, wv, tk, cv, L, h, rfl⟩ := h
  exact ⟨bv, wv, tk, cv, L, h.kept hc hM, rfl⟩
theorem RIs.below (h : RIs n₀ w r m S) (hb : Below w.heap.size w w') : RIs n₀ w' r m S := h.kept (M := fun _ => False) (Chg.of_below hb) (fun _ e => e.elim)
theorem RStep.refl (h : RIs n₀ w r m S) : RStep n₀ w r S m w := ⟨S, h, Chg.refl _ _, fun _ e => .inl e⟩
theorem RStep.of_below (h : RIs n₀ w r m S) (hb : Below w.heap.size w w') : RStep n₀ w r S m w' := ⟨S, h.below hb, Chg.of_below hb, fun _ e => .inl e⟩
theorem RStep.step {w1 w2 : World} {S1 : Nat → Prop} (h : Chg S w w1) (hS : ∀ k, S1 k → S k ∨ w.heap.size ≤ k) (h2 : RStep n₀ w1 r S1 m' w2) : RStep n₀ w r S m' w2 := by
  obtain ⟨S2, h3, h4, h5⟩ := h2
  refine ⟨S2, h3, h.then (M' := S1) h4 (fun k hk e => ?_), fun k hk => ?_⟩
  · rcases hS k e with h | h
    · exact h
    · omega
  · rcases h5 k hk with h6 | h6
    · exact hS k h6
    · exact .inr (Nat.le_trans h.size h6)
theorem RStep.size (h : RStep n₀ w r S m' w') : w.heap.size ≤ w'.heap.size := by
  obtain ⟨_, _, h, _⟩ := h
  exact h.size
end
end Go.Proofs.YtddifbimlmkcbaaGreatDoor
namespace Go.Proofs.YtddifbimlmkcbaaGreatDoor
open Go.RowKit Go.ChangeMaps Go.MapKept
/-- Does an event get keys? -/
def getsB (e : Ev) : Bool := decide (e.cmd.verb = 1) || decide (e.cmd.verb = 2)
set_option maxRecDepth 100000 in
set_option maxHeartbeats 1000000 in
theorem rGets_any (ka : Option Addr) (kn kc : Nat) (e : Ev) (w : World) : Calls Tryz.prog 41 #[rEvV (.slice ka kn kc) e] w fun e' w' => e' = .returned (.bool (getsB e)) ∧ Below w.heap.size w w' := by
  by_cases h1 : e.cmd.verb = 1
  · have t1 : ((e.cmd.verb : Int) == 1) = true := by rw [beq_iff_eq]; omega
    have hg : getsB e = true := by unfold getsB; rw [decide_eq_true h1, Bool.true_or]
    rw [hg]
    clear h1 hg
    go_enter Tryz.func41, Tryz.ntmps41
    go_wp2_with fail
    go_ret
    exact ⟨rfl, (Below.refl _ _).alloc (Nat.le_refl _) _⟩
  · have t1 : ((e.cmd.verb : Int) == 1) = false := by rw [beq_eq_false_iff_ne]; omega
    by_cases h2 : e.cmd.verb = 2
    · have t2 : ((e.cmd.verb : Int) == 2) = true := by rw [beq_iff_eq]; omega
      have hg : getsB e = true := by unfold getsB; rw [decide_eq_true h2, Bool.or_true]
      rw [hg]
      clear h1 h2 hg
      go_enter Tryz.func41, Tryz.ntmps41
      go_wp2_with fail
      go_ret
      exact ⟨rfl, (Below.refl _ _).alloc (Nat.le_refl _) _⟩
    · have t2 : ((e.cmd.verb : Int) == 2) = false := by rw [beq_eq_false_iff_ne]; omega
      have hg : getsB e = false := by unfold getsB; rw [decide_eq_false h1, decide_eq_false h2]; rfl
      rw [hg]
      clear h1 h2 hg
      go_enter Tryz.func41, Tryz.ntmps41
      go_wp2_with fail
      go_ret
      exact ⟨rfl, (Below.refl _ _).alloc (Nat.le_refl _) _⟩
section
variable {n₀ : Nat} {w : World} {r : Nat} {bv wv tk cv : Value} {L : List (Value × Ev)} {m : RM} {S : Nat → Prop}
set_option maxRecDepth 100000 in
set_option maxHeartbeats 1000000 in
theorem rLeft_is (h : RIs n₀ w r m S) (hs : m.calls.length ≤ 1000000 ∧ m.wait.length ≤ 1000000) : Calls Tryz.prog 45 #[.pointer (some ⟨r, 0, none⟩)] w fun e w' => e = .returned (.int .i64 ((m.calls.length + m.wait.length : Nat) : Int)) ∧ Below w.heap.size w w' := by
  obtain ⟨bv, wv, tk, cv, L, h, rfl⟩ := h
  obtain ⟨wa, wc, rfl⟩ := h.wait.len
  obtain ⟨ca, cc, rfl⟩ := h.calls.len
  have c0 : w.cell? ⟨r, 2, none⟩ = some (.slice wa L.length wc) := (h.cell (j := 2) rfl).1
  have c1 : w.cell? ⟨r, 16, none⟩ = some (.slice ca m.calls.length cc) := (h.cell (j := 16) rfl).1
  have hl : L.length = m.wait.length := by rw [← h.evs, List.length_map]
  rw [hl] at c0
  obtain ⟨hs1, hs2⟩ := hs
  clear h hl
  generalize m.calls.length = a at *
  generalize m.wait.length = b at *
  go_enter Tryz.func45, Tryz.ntmps45
  go_wp2_with fail
  go_quiet (fail)
  go_wp2_with fail
  go_ret
  exact ⟨by rw [show ((a + b : Nat) : Int) = (a : Int) + (b : Int) by omega]; rfl, clow_drewN (Below.refl _ _) _⟩
end
end Go.Proofs.YtddifbimlmkcbaaGreatDoor
namespace Go.Proofs.YtddifbimlmkcbaaGreatDoor
open Go.RowKit Go.ChangeMaps Go.MapKept
/-- The document's feed at the head of block r. -/
def RFeedT (W : World) (r : Nat) (T : TypeId) (rest : List Value) (bv : Value) (bl : List UInt8) : Prop := W.heap[r]? = some (.cells (bv :: .int .i64 ((refEv bl).1.length : Int) :: rest).toArray T (0, 0)) ∧ BRow W bv bl
theorem RFeedT.cell {W : World} {r : Nat} {T : TypeId} {rest : List Value} {bv : Value} {bl : List UInt8} (h : RFeedT W r T rest bv bl) {j : Nat} {v : Value} (hj : (bv :: .int .i64 ((refEv bl).1.length : Int) :: rest)[j]? = some v) : W.cell? ⟨r, j, none⟩ = some v := by
  rw [(block_cell h.1 j).1, List.getElem?_toArray]
  exact hj
theorem Tag.below {W W' : World} {g : Nat} {e : TypeId} (h : Tag W g e) (hb : Below W.heap.size W W') : Tag W' g e := (Chg.of_below (M := fun _ => False) hb).tag h (fun e => e)
def RInOkT (T : TypeId) (rest : List Value) (bl0 bl : List UInt8) (r : Nat) (w : World) (e : Ending) (w' : World) : Prop :=
  ∃ v L bv', e = .returned v ∧ REvRow w' v L ∧ L.map (·.2) = (refEv (bl0 ++ bl)).1.drop (refEv bl0).1.length ∧ RFeedT w' r T rest bv' (bl0 ++ bl) ∧ (∀ g, bv'.ownBlock = some g → w.heap.size ≤ g ∧ Tag w' g 5) ∧ Chg (fun k => k = r) w w'
set_option maxRecDepth 100000 in
set_option maxHeartbeats 4000000 in
theorem refIn_head {w : World} {r : Nat} {T : TypeId} {rest : List Value} {b0 bv : Value} {bl0 bl : List UInt8} (ht1 : T ≠ 63) (ht2 : T ≠ 9) (h : RFeedT w r T rest b0 bl0) (hb : BRow w bv bl) (hl : bl0.length + bl.length < 1048576) :
    Calls Tryz.prog 37 #[.pointer (some ⟨r, 0, none⟩), bv] w (RInOkT T rest bl0 bl r w) := by
  obtain ⟨ba, bc, rfl⟩ := hb.len
  have c0 : w.cell? ⟨r, 0, none⟩ = some b0 := h.cell (j := 0) rfl
  have f0 : w.frozen? ⟨r, 0, none⟩ = false := (block_cell h.1 0).2
  have hrl : r < w.heap.size := (Array.getElem?_eq_some_iff.1 h.1).1
  have HF := Lib.hid h
  have HT1 := Lib.hid ht1
  have HT2 := Lib.hid ht2
  have HB := Lib.hid hb
  clear h hb ht1 ht2
  have tok1 : True := trivial
  have tok2 : True := trivial
  go_enter Tryz.func37, Tryz.ntmps37
  go_wp2_with (first
    | (at_builtin; clear tok1; refine wpList_appB (l0 := []) (B := w.heap.size) _ _ (by rfl) (by rfl) (by rfl) (by rfl) (Nat.le_refl _) (World.ownsRow_nil _ _ _ _) HF.out.2 (by show 0 + bl0.length < _; omega) (fun v1 w1 hv1 hb1 => ?_))
    | (at_builtin; clear tok2; refine wpList_appS (l0 := bl0) (B := w.heap.size) (r := r) _ _ (by rfl) (by rfl) (by rfl) (by rfl) hb1.size hv1 (HB.out.below hb1) hl hrl ((hb1.cell (p := ⟨r, 0, none⟩) hrl).trans c0) (by have := (block_cell HF.out.1 0).2; rw [← this]; simp only [World.frozen?]; rw [hb1.block r hrl]) (fun a2 c2 w2 hv2 hb2 hc2 hz2 => ?_))
    | fail)
  have hb02 : Below w.heap.size w w2 := hb1.trans (hb2.mono (Nat.le_refl _))
  have hrow2 : BRow w2 (.slice a2 (bl0 ++ bl).length c2) (bl0 ++ bl) := (Row.of_owns hv2).bytes
  have hrt2 : w2.heap[r]? = some (.cells (b0 :: .int .i64 ((refEv bl0).1.length : Int) :: rest).toArray T (0, 0)) := by rw [hb02.block r hrl]; exact HF.out.1
  have hnb : ∀ g, (Value.slice a2 (bl0 ++ bl).length c2).ownBlock = some g → w.heap.size ≤ g := fun g hg => (hv2.lt g hg).1
  have hnt : ∀ g, (Value.slice a2 (bl0 ++ bl).length c2).ownBlock = some g → Tag (w2.setCell ⟨r, 0, none⟩ (.slice a2 (bl0 ++ bl).length c2)) g 5 := fun g hg => (cset_chg w2 r 0 _).tag (owns_tag hv2 hg) (fun e => by have := hnb g hg; omega)
  have hst : Chg (fun k => k = r) w2 (w2.setCell ⟨r, 0, none⟩ (.slice a2 (bl0 ++ bl).length c2)) := Chg.set (M := fun k => k = r) (Chg.refl _ _) (fun _ => rfl) _
  have hrow3 := hrow2.kept hst (fun _ g hg e => by have := hnb g hg; omega)
  have hbox3 : (w2.setCell ⟨r, 0, none⟩ (.slice a2 (bl0 ++ bl).length c2)).heap[r]? = some (.cells (.slice a2 (bl0 ++ bl).length c2 :: .int .i64 ((refEv bl0).1.length : Int) :: rest).toArray T (0, 0)) := by
    have := Go.Joins.block_setCell (i := 0) hrt2 (.slice a2 (bl0 ++ bl).length c2)
    rw [List.setIfInBounds_toArray] at this
    exact this
  have hc03 : Chg (fun k => k = r) w (w2.setCell ⟨r, 0, none⟩ (.slice a2 (bl0 ++ bl).length c2)) := (Chg.of_below hb02).then hst (fun _ _ e => e)
  have hev := events_any hrow3 (by rw [List.length_append]; exact hl)
  rw [List.length_append] at hev hnb hnt hbox3 hrow3 hc03
  obtain ⟨W3, hW3⟩ : ∃ W3, W3 = w2.setCell ⟨r, 0, none⟩ (.slice a2 (bl0.length + bl.length) c2) := ⟨_, rfl⟩
  rw [← hW3] at hev hnt hbox3 hrow3 hc03 ⊢
  have HEV := Lib.hid hev
  have HN := Lib.hid hnb
  have HNT := Lib.hid hnt
  have HBX := Lib.hid (show W3.heap[r]? = some (.cells (.slice a2 (bl0.length + bl.length) c2 :: .int .i64 ((refEv bl0).1.length : Int) :: rest).toArray T (0, 0)) from hbox3)
  have HR3 := Lib.hid hrow3
  have HC3 := Lib.hid hc03
  clear hev hnb hnt hbox3 hrow3 hc03 hst hrt2 hrow2 hb02 hv2 hb2 hc2 hz2 hv1 hb1 hW3 c0 HF HB
  refine HEV.out.mono ?_
  rintro e W4 ⟨v, L, rfl, hmap, hr⟩
  have hLl : (refEv bl0).1.length ≤ L.length := by
    have h1 := congrArg List.length hmap
    rw [List.length_map] at h1
    rw [h1]; exact few_more bl0 bl
  have hlow : Below W3.heap.size W3 W4 := hr.low
  have hrl3 : r < W3.heap.size := (Array.getElem?_eq_some_iff.1 HBX.out).1
  have hbox4 : W4.heap[r]? = some (.cells (.slice a2 (bl0.length + bl.length) c2 :: .int .i64 ((refEv bl0).1.length : Int) :: rest).toArray T (0, 0)) := by rw [hlow.block r hrl3]; exact HBX.out
  obtain ⟨va, vc, rfl⟩ := row_slice hr.row
  have hrr : REvRow W4 (.slice va L.length vc) L := ⟨Row.of_owns hr.row, hr.keys⟩
  obtain ⟨ca, cc, hcut, hcr⟩ := revs_cut hrr hLl
  have q1 : W4.cell? ⟨r, 1, none⟩ = some (.int .i64 ((refEv bl0).1.length : Int)) := by rw [(block_cell hbox4 1).1, List.getElem?_toArray]; rfl
  have qz : W4.frozen? ⟨r, 1, none⟩ = false := (block_cell hbox4 1).2
  have hlen : (refEv (bl0 ++ bl)).1.length = L.length := by rw [← hmap, List.length_map]
  have hst5 : Chg (fun k => k = r) W4 (W4.setCell ⟨r, 1, none⟩ (.int .i64 (L.length : Int))) := Chg.set (M := fun k => k = r) (Chg.refl _ _) (fun _ => rfl) _
  have hbox5 : (W4.setCell ⟨r, 1, none⟩ (.int .i64 (L.length : Int))).heap[r]? = some (.cells (.slice a2 (bl0.length + bl.length) c2 :: .int .i64 (L.length : Int) :: rest).toArray T (0, 0)) := by
    have := Go.Joins.block_setCell (i := 1) hbox4 (.int .i64 (L.length : Int))
    rw [List.setIfInBounds_toArray] at this
    exact this
  have hcr5 := hcr.kept hst5 (fun k hk => by
    subst hk
    have ht : Tag W4 k T := Tag.of hbox4
    exact ⟨fun h => HT1.out (ht.one h), fun h => HT2.out (ht.one h)⟩)
  have hr5 := (HR3.out.below hlow).kept hst5 (fun _ g hg e => by have := HN.out g hg; omega)
  have hc5 : Chg (fun k => k = r) w (W4.setCell ⟨r, 1, none⟩ (.int .i64 (L.length : Int))) := (HC3.out.then (M' := fun _ => False) (Chg.of_below hlow) (fun _ _ e => e.elim)).then hst5 (fun _ _ e => e)
  have HT5 := Lib.hid (fun g (hg : (Value.slice a2 (bl0.length + bl.length) c2).ownBlock = some g) => (hst5.tag (Tag.below (HNT.out g hg) hlow) (fun e => by have := HN.out g hg; omega) : Tag _ g 5))
  have hdl : (L.drop (refEv bl0).1.length).length = L.length - (refEv bl0).1.length := List.length_drop
  have hmd : (L.drop (refEv bl0).1.length).map (·.2) = (refEv (bl0 ++ bl)).1.drop (refEv bl0).1.length := by rw [List.map_drop, hmap]
  generalize hm : (refEv bl0).1.length = m at *
  have HM := Lib.hid hm
  clear hm
  have HCR := Lib.hid hcr5
  have HR5 := Lib.hid hr5
  have HC5 := Lib.hid hc5
  have HB5 := Lib.hid hbox5
  have HMD := Lib.hid hmd
  have HLN := Lib.hid hlen
  clear hcr5 hr5 hc5 hbox5 hmd hlen hst5 hcr hrr hr hbox4 hlow HEV HBX HR3 HC3 hmap hdl
  go_wp2_with fail
  go_ret
  refine ⟨_, _, _, rfl, HCR.out, by rw [HM.out]; exact HMD.out, ⟨?_, HR5.out⟩, ?_, HC5.out⟩
  · rw [HLN.out]; exact HB5.out
  · exact fun g hg => ⟨HN.out g hg, HT5.out g hg⟩
end Go.Proofs.YtddifbimlmkcbaaGreatDoor
