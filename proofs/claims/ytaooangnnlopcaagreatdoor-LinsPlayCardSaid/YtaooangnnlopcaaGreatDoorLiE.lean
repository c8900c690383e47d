/- A range over a function whose iterator keeps state in whatever blocks, maps among them: the law of XRangeSt, where a step keeps the loops' records alone. No condition. Plain: entries run through on a map, one behind the other; how far numbers and records go. Then: a map of one's own with blocks kept beside it. No condition. Both maps side by side: the program's, and the document's. No condition. -/
import Derived.Test.YtaooangnnlopcaaGreatDoorProg
import Derived.RangeFuncNested
import Derived.RangeFuncBound
import Derived.RangeFuncCalls
import Derived.RangeFuncLeaves
import Derived.Test.YtaooangnnlopcaaGreatDoorLinWell
import Derived.Test.YtaooangnnlopcaaGreatDoorLiH
import Derived.Test.YtaooangnnlopcaaGreatDoorMapsAct
namespace Go.Proofs.YtaooangnnlopcaaGreatDoor
open Go.RowKit
/-- A record of a range over a function. -/
def isRec : Obj → Bool
  | .loop _ => true
  | .deferred _ => true
  | _ => false
/-- A step that leaves the records from block B on as they are. -/
structure KeepsR (B : Nat) (W W' : World) : Prop where
  size : W.heap.size ≤ W'.heap.size
  same : ∀ (k : Nat) (o : Obj), B ≤ k → W.heap[k]? = some o → isRec o = true → W'.heap[k]? = some o
theorem KeepsR.refl (B : Nat) (W : World) : KeepsR B W W := ⟨Nat.le_refl _, fun _ _ _ h _ => h⟩
theorem KeepsR.trans {B : Nat} {X Y Z : World} (h : KeepsR B X Y) (k : KeepsR B Y Z) : KeepsR B X Z := ⟨Nat.le_trans h.size k.size, fun i o hB hi ho => k.same i o hB (h.same i o hB hi ho) ho⟩
theorem KeepsR.of_below {B : Nat} {W W' : World} (h : Below W.heap.size W W') : KeepsR B W W' := ⟨h.size, fun k _ _ hk _ => (h.block k (Array.getElem?_eq_some_iff.1 hk).1).trans hk⟩

/-- What the turn of a block from B on that holds no cells does not touch. -/
def TurnsR (B : Nat) (I : World → Prop) : Prop := ∀ (W : World) (l : Nat) (o o' : Obj), B ≤ l → W.heap[l]? = some o → isRec o = true → isRec o' = true → I W → I (W.putObj l o')

/-- How a round's body may be left. -/
def stPostR (n₀ : Nat) (B : World → Prop) (X : Code → World → Prop) (W : World) : Exit → Act → World → Prop
  | .normal, _, W' => KeepsR n₀ W W' ∧ B W'
  | .ret, _, W' => KeepsR n₀ W W' ∧ X .ret W'
  | .exit id, _, W' => KeepsR n₀ W W' ∧ X (.exit id) W'
  | .goto t, _, W' => KeepsR n₀ W W' ∧ X (.goto t) W'
  | .panic _, _, _ => False
  | .outgrown, _, _ => False

theorem wpIn_rangeFunc_rec {σ : Type} {F : Fence} {n : Nat} {P : Program} {g : Operand} {ps : Array Tmp} {assign body : Code} {Q : Exit → Act → World → Prop} {a : Act} {w : World}
    (hro : F.round = none) (h1 : 1 ≤ n) {gf : Nat} {lb : Array Value} (hg : a.eval g = .func (.func gf) #[] lb) (hFg : F.fn gf) (eg : ∀ args w, (callFunc gf args).run P w = .ok (.enter gf args) w)
    (encs : σ → Array Value) (hps : ∀ s, (encs s).size = ps.size)
    (I0 E : World → Prop) (A B : σ → World → Prop) (X : σ → Code → World → Prop)
    (_hA : ∀ s, TurnsR w.heap.size (A s)) (hB : ∀ s, TurnsR w.heap.size (B s)) (hX : ∀ s c, TurnsR w.heap.size (X s c)) (hE : TurnsR w.heap.size E)
    (h0 : ∀ o1 o2, I0 ((w.alloc o1).alloc o2))
    (hiter : ∀ (l : Nat) (K : World → Prop) (Kd : Code → World → Prop), (∀ W W', KeepsR w.heap.size W W' → K W → K W') → (∀ c W W', KeepsR w.heap.size W W' → Kd c W → Kd c W') →
      (∀ s W, A s W → K W → YieldAt F (n - 1 - 1) P l (encs s) W fun e W' => (e = .returned (.bool true) ∧ B s W' ∧ K W') ∨ (e = .returned (.bool false) ∧ ∃ c, X s c W' ∧ Kd c W')) →
      ∀ W, I0 W → K W → CallsIn F (n - 1) P gf (#[.func (.yield l) #[] #[]] ++ lb) W fun e W' => (∃ v, e = .returned v) ∧ ((E W' ∧ K W') ∨ ∃ s c, X s c W' ∧ Kd c W'))
    (Ax : σ → Act → World → Prop) (hAx : ∀ s a', TurnsR w.heap.size (Ax s a'))
    (hassign : ∀ (l : Nat) (s : σ) (W : World) (K : Act → World → Prop), A s W → (∀ a' W', KeepsR w.heap.size W W' → Ax s a' W' → K a' W') →
      assign.wpIn (F.inRound l) (n - 1 - 1) P (Exit.then K (fun _ _ _ => False)) { tmps := (ps.zip (encs s)).foldl (fun t (p, v) => t.setIfInBounds p v) a.tmps, defers := [] } W)
    (hbody : ∀ (l : Nat) (s : σ) (a' : Act) (W : World), Ax s a' W → body.wpIn (F.inRound l) (n - 1 - 1) P (stPostR w.heap.size (B s) (X s) W) a' W)
    (hdone : ∀ (D : Nat) (W : World), w.heap.size ≤ D → E W → W.heap[D]? = some (.deferred (some [])) → Q .normal { a with defers := { target := .collected D, args := #[] } :: a.defers } W)
    (hstop : ∀ (D : Nat) (s : σ) (c : Code) (W : World), w.heap.size ≤ D → X s c W → W.heap[D]? = some (.deferred (some [])) → c.wpIn F n P Q { a with defers := { target := .collected D, args := #[] } :: a.defers } W) :
    (Code.rangeFunc g ps assign body).wpIn F n P Q a w := by
  refine wpIn_rangeFunc ?_
  intro fn hfn
  rw [hro]
  obtain ⟨rec, hrec⟩ : ∃ rec : LoopState → Option Code → Loop, rec = fun st pe => { state := st, pending := pe, fn, tmps := a.tmps, params := ps, assign, body, defers := w.heap.size } := ⟨_, rfl⟩
  obtain ⟨W1, hW1⟩ : ∃ W1, (w.alloc (.deferred (some []))).alloc (.loop (rec .ready none)) = W1 := ⟨_, rfl⟩
  have hL1 : W1.heap[w.heap.size + 1]? = some (.loop (rec .ready none)) := by
    rw [← hW1]; have := World.alloc_heap_new (w.alloc (.deferred (some []))) (.loop (rec .ready none)); rwa [World.size_alloc] at this
  have hK1 : W1.heap[w.heap.size]? = some (.deferred (some [])) := by
    rw [← hW1]; exact (Below.heap_alloc _ _ _ (by simp)).trans (World.alloc_heap_new w _)
  have hI1 : I0 W1 := by rw [← hW1]; exact h0 _ _
  refine ⟨w.heap.size + 1, [{ target := .collected w.heap.size, args := #[] }], W1, { target := .fn (.func gf) lb, args := #[.func (.yield (w.heap.size + 1)) #[] #[]] }, W1, gf,
    #[.func (.yield (w.heap.size + 1)) #[] #[]] ++ lb, W1, ?_, ?_, ?_, ?_, fun _ => h1, ?_⟩
  · rw [← hW1, hrec]; exact run_enterLoop_outer _ _ _ _ _
  · simp only [resolve, hg]
    simp [go_sem]
  · intro f' hf'; simp [Target.leads] at hf'; subst hf'; exact hFg
  · simp [invoke, go_sem, eg]
  · have hkeep : ∀ (o1 o2 : Obj), isRec o1 = true → isRec o2 = true → ∀ W W', KeepsR w.heap.size W W' → (W.heap[w.heap.size + 1]? = some o1 ∧ W.heap[w.heap.size]? = some o2) → (W'.heap[w.heap.size + 1]? = some o1 ∧ W'.heap[w.heap.size]? = some o2) :=
      fun o1 o2 h1 h2 W W' hk h => ⟨hk.same _ _ (by omega) h.1 h1, hk.same _ _ (Nat.le_refl _) h.2 h2⟩
    refine (hiter (w.heap.size + 1)
      (fun W => W.heap[w.heap.size + 1]? = some (.loop (rec .ready none)) ∧ W.heap[w.heap.size]? = some (.deferred (some [])))
      (fun c W => W.heap[w.heap.size + 1]? = some (.loop (rec .done (some c))) ∧ W.heap[w.heap.size]? = some (.deferred (some [])))
      (hkeep _ _ rfl rfl)
      (fun c => hkeep _ _ rfl rfl)
      ?_ W1 hI1 ⟨hL1, hK1⟩).mono ?_
    · rintro s W hi ⟨hl, hk⟩
      have hlt : w.heap.size + 1 < W.heap.size := (Array.getElem?_eq_some_iff.1 hl).1
      have hy := run_yield (P := P) (args := encs s) hl (by rw [hrec]; exact hps s)
      rw [hrec] at hy
      refine ⟨fn, _, assign, body, hy, roundIn_of_wpIn hfn (hassign _ s W _ hi ?_)⟩
      clear hy
      intro a' Wa hkfa hax
      replace hl := hkfa.same _ _ (by omega) hl rfl
      replace hk := hkfa.same _ _ (Nat.le_refl _) hk rfl
      replace hlt : w.heap.size + 1 < Wa.heap.size := (Array.getElem?_eq_some_iff.1 hl).1
      refine ⟨_, run_beginRound hl (by rw [hrec]), ?_⟩
      have hl2 : (Wa.putObj (w.heap.size + 1) (.loop { rec .ready none with state := .busy })).heap[w.heap.size + 1]? = some (.loop { rec .ready none with state := .busy }) := World.putObj_heap_same hlt
      have hk2 : (Wa.putObj (w.heap.size + 1) (.loop { rec .ready none with state := .busy })).heap[w.heap.size]? = some (.deferred (some [])) := (World.putObj_heap_other (by omega)).trans hk
      refine wpIn_mono (hbody _ s a' _ (hAx s a' Wa _ _ _ (by omega) hl rfl rfl hax)) ?_
      have fin : ∀ (jump : Option Code) (W3 : World), KeepsR w.heap.size (Wa.putObj (w.heap.size + 1) (.loop { rec .ready none with state := .busy })) W3 →
          (Instr.endRound (w.heap.size + 1) jump).run P W3 = .ok (.bool jump.isNone) (W3.putObj (w.heap.size + 1) (.loop (rec (if jump.isNone then .ready else .done) jump))) ∧
          W3.heap[w.heap.size + 1]? = some (.loop { rec .ready none with state := .busy }) ∧
          (W3.putObj (w.heap.size + 1) (.loop (rec (if jump.isNone then .ready else .done) jump))).heap[w.heap.size + 1]? = some (.loop (rec (if jump.isNone then .ready else .done) jump)) ∧
          (W3.putObj (w.heap.size + 1) (.loop (rec (if jump.isNone then .ready else .done) jump))).heap[w.heap.size]? = some (.deferred (some [])) := fun jump W3 hk3 => by
        have hl3 := hk3.same _ _ (by omega) hl2 rfl
        have := run_endRound (P := P) jump hl3
        rw [hrec] at this ⊢
        exact ⟨this, by rw [hrec] at hl3; exact hl3, World.putObj_heap_same (Array.getElem?_eq_some_iff.1 hl3).1, (World.putObj_heap_other (by omega)).trans (hk3.same _ _ (Nat.le_refl _) hk2 rfl)⟩
      rintro e a3 W3 hp
      cases e with
      | normal =>
        obtain ⟨hk3, hi3⟩ := hp
        obtain ⟨hr, hl3, hl4, hk4⟩ := fin none W3 hk3
        exact ⟨_, _, hr, .inl ⟨rfl, hB s W3 _ _ _ (by omega) hl3 rfl rfl hi3, hl4, hk4⟩⟩
      | ret =>
        obtain ⟨hk3, hi3⟩ := hp
        obtain ⟨hr, hl3, hl4, hk4⟩ := fin (some .ret) W3 hk3
        exact ⟨_, _, hr, .inr ⟨rfl, .ret, hX s _ W3 _ _ _ (by omega) hl3 rfl rfl hi3, hl4, hk4⟩⟩
      | exit id =>
        obtain ⟨hk3, hi3⟩ := hp
        obtain ⟨hr, hl3, hl4, hk4⟩ := fin (some (.exit id)) W3 hk3
        exact ⟨_, _, hr, .inr ⟨rfl, (.exit id), hX s _ W3 _ _ _ (by omega) hl3 rfl rfl hi3, hl4, hk4⟩⟩
      | goto t =>
        obtain ⟨hk3, hi3⟩ := hp
        obtain ⟨hr, hl3, hl4, hk4⟩ := fin (some (.goto t)) W3 hk3
        exact ⟨_, _, hr, .inr ⟨rfl, (.goto t), hX s _ W3 _ _ _ (by omega) hl3 rfl rfl hi3, hl4, hk4⟩⟩
      | panic ch => exact hp.elim
      | outgrown => exact hp.elim
    · rintro e W2 ⟨⟨v, rfl⟩, (⟨hi, hl, hk⟩ | ⟨s, c, hx, hl, hk⟩)⟩
      · exact ⟨none, _, by have := run_endLoop (P := P) hl (by rw [hrec]; simp); rw [hrec] at this; exact this, hdone _ _ (Nat.le_refl _) (hE W2 _ _ _ (by omega) hl rfl rfl hi) ((World.putObj_heap_other (by omega)).trans hk)⟩
      · exact ⟨some c, _, by have := run_endLoop (P := P) hl (by rw [hrec]; simp); rw [hrec] at this; exact this, hstop _ s c _ (Nat.le_refl _) (hX s c W2 _ _ _ (by omega) hl rfl rfl hx) ((World.putObj_heap_other (by omega)).trans hk)⟩
end Go.Proofs.YtaooangnnlopcaaGreatDoor
namespace Go.Proofs.YtaooangnnlopcaaGreatDoor
open Go.RowKit Go.ChangeMaps Go.MapKept
section
variable {cs : List CalledD} {ds : List DropD}
def runE (cs : List CalledD) (ds : List DropD) : List EntD → MapM → Bool × MapM
  | [], m => (true, m)
  | e :: l, m => if (stepE cs ds m e).1 then runE cs ds l (stepE cs ds m e).2 else (false, (stepE cs ds m e).2)
theorem runE_snoc {e : EntD} : ∀ {l : List EntD} {m : MapM}, (runE cs ds l m).1 = true → runE cs ds (l ++ [e]) m = stepE cs ds (runE cs ds l m).2 e
  | [], m, _ => by
    show (if (stepE cs ds m e).1 then (true, (stepE cs ds m e).2) else (false, (stepE cs ds m e).2)) = stepE cs ds m e
    generalize stepE cs ds m e = r
    obtain ⟨b, m'⟩ := r
    cases b <;> rfl
  | x :: l, m, h => by
    unfold runE at h
    show (if (stepE cs ds m x).1 then runE cs ds (l ++ [e]) (stepE cs ds m x).2 else (false, (stepE cs ds m x).2)) = stepE cs ds (if (stepE cs ds m x).1 then runE cs ds l (stepE cs ds m x).2 else (false, (stepE cs ds m x).2)).2 e
    split at h
    · rename_i h2
      rw [if_pos h2, if_pos h2]
      exact runE_snoc h
    · cases h
theorem goE_all : ∀ {l : List EntD} {i : Nat} {m : MapM}, (runE cs ds l m).1 = true → goE cs ds l i m = (-1, (runE cs ds l m).2)
  | [], _, _, _ => rfl
  | x :: l, i, m, h => by
    unfold runE at h ⊢
    unfold goE
    split at h
    · rename_i h2
      rw [if_pos h2, if_pos h2]
      exact goE_all h
    · cases h
theorem goE_stop : ∀ {l : List EntD} {i j : Nat} {m : MapM} {e : EntD}, (runE cs ds (l.take j) m).1 = true → l[j]? = some e → (stepE cs ds (runE cs ds (l.take j) m).2 e).1 = false → goE cs ds l i m = (((i + j : Nat) : Int), (stepE cs ds (runE cs ds (l.take j) m).2 e).2)
  | [], _, _, _, _, _, h, _ => by simp at h
  | x :: l, i, 0, m, e, _, he, hs => by
    obtain rfl : x = e := by simpa using he
    have hs2 : (stepE cs ds m x).1 = false := hs
    unfold goE
    rw [if_neg (by rw [hs2]; decide)]
    rfl
  | x :: l, i, j + 1, m, e, h, he, hs => by
    rw [List.take_succ_cons] at h hs ⊢
    unfold runE at h hs ⊢
    unfold goE
    split at h
    · rename_i h2
      rw [if_pos h2] at hs ⊢
      rw [if_pos h2, goE_stop h (by simpa using he) hs]
      congr 2
      omega
    · cases h
theorem fits_bound {m : MapM} {c : CallD} {ep : Nat} {a : AnsD} (hm : m.epoch < 18446744073709551616) (he : ep < 18446744073709551616) : (fitsM m c ep a).2.epoch < 18446744073709551616 ∧ (fitsM m c ep a).2.ids ≤ m.ids + 1 ∧ (fitsM m c ep a).2.L.length ≤ m.L.length + 1 := by
  unfold fitsM
  cases hg : givesM m c ep with
  | none => exact ⟨hm, Nat.le_succ _, Nat.le_succ _⟩
  | some g =>
    simp only
    split
    · refine ⟨?_, ?_, ?_⟩
      · show g.epoch < _
        unfold givesM at hg
        split at hg
        · rcases givesV_epoch hg with e | e
          · rw [e]; exact he
          · rw [e]; exact flushE_lt he _
        · cases hg
      · show (if g.drawn then m.ids + 1 else m.ids) ≤ _
        split <;> omega
      · show (if g.gone then withoutL m.L c.key else if g.put then withoutL m.L c.key ++ [g.isx] else m.L).length ≤ _
        have h1 : (withoutL m.L c.key).length ≤ m.L.length := List.length_filter_le _ _
        split
        · omega
        · split
          · simp; omega
          · omega
    · split
      · exact ⟨he, Nat.le_succ _, Nat.le_succ _⟩
      · exact ⟨hm, Nat.le_succ _, Nat.le_succ _⟩
theorem drop_bound {m : MapM} {x : ItemD} : (dropM m x).2.epoch = m.epoch ∧ (dropM m x).2.ids = m.ids ∧ (dropM m x).2.L.length ≤ m.L.length := by
  unfold dropM
  split
  · exact ⟨rfl, rfl, List.length_filter_le _ _⟩
  · exact ⟨rfl, rfl, Nat.le_refl _⟩
def isCallE (e : EntD) : Bool := decide (0 ≤ e.call)
theorem step_bound {m : MapM} {e : EntD} (hc : ∀ x ∈ cs, x.epoch < 18446744073709551616) (hm : m.epoch < 18446744073709551616) :
    (stepE cs ds m e).2.epoch < 18446744073709551616 ∧ (stepE cs ds m e).2.ids ≤ m.ids + 1 ∧ (stepE cs ds m e).2.L.length ≤ m.L.length + (if isCallE e then 1 else 0) := by
  unfold stepE isCallE
  by_cases h0 : 0 ≤ e.call
  · rw [if_pos h0, if_pos (by simpa using h0)]
    cases h : cs[e.call.toNat]? with
    | none => exact ⟨hm, Nat.le_succ _, Nat.le_succ _⟩
    | some c => exact fits_bound hm (hc c (List.mem_of_getElem? h))
  · rw [if_neg h0, if_neg (by simpa using h0)]
    cases h : ds[e.drop.toNat]? with
    | none => exact ⟨hm, Nat.le_succ _, Nat.le_refl _⟩
    | some d =>
      obtain ⟨h1, h2, h3⟩ := drop_bound (m := m) (x := d.item)
      exact ⟨by show (dropM m d.item).2.epoch < _; rw [h1]; exact hm, by show (dropM m d.item).2.ids ≤ _; omega, h3⟩
theorem run_bound (hc : ∀ x ∈ cs, x.epoch < 18446744073709551616) : ∀ {l : List EntD} {m : MapM}, m.epoch < 18446744073709551616 → (runE cs ds l m).2.epoch < 18446744073709551616 ∧ (runE cs ds l m).2.ids ≤ m.ids + l.length ∧ (runE cs ds l m).2.L.length ≤ m.L.length + l.countP isCallE
  | [], m, h => ⟨h, by simp [runE], by simp [runE]⟩
  | e :: l, m, h => by
    obtain ⟨h1, h2, h3⟩ := step_bound (ds := ds) (e := e) hc h
    unfold runE
    rw [List.length_cons, List.countP_cons]
    split
    · obtain ⟨k1, k2, k3⟩ := run_bound hc (l := l) h1
      exact ⟨k1, by omega, by omega⟩
    · exact ⟨h1, by show (stepE cs ds m e).2.ids ≤ _; omega, by show (stepE cs ds m e).2.L.length ≤ _; omega⟩
end
/-- A map of one's own, and blocks of any kind kept beside it. -/
structure QpAt (w W : World) (p : Nat) (m : MapM) (bs : List (Nat × Array Value × TypeId)) : Prop where
  lv : LvAt w W p m []
  kept : ∀ x ∈ bs, x.1 ≠ p ∧ W.heap[x.1]? = some (.cells x.2.1 x.2.2 (0, 0))
theorem QpAt.step {w W W' : World} {p : Nat} {m m' : MapM} {bs : List (Nat × Array Value × TypeId)} (h : QpAt w W p m bs) (hm : MapAt W' p m') (hc : MChg W p W') : QpAt w W' p m' bs :=
  ⟨h.lv.step hm hc, fun x hx => ⟨(h.kept x hx).1, hc.chg.obj (h.kept x hx).2 (fun hM => by
    have h2 := h.kept x hx
    rcases MM.kind h.lv.map hM with e | ⟨es, clock, e⟩
    · exact h2.1 e
    · rw [h2.2] at e; cases e)⟩⟩
theorem QpAt.below {w W W' : World} {p : Nat} {m : MapM} {bs : List (Nat × Array Value × TypeId)} (h : QpAt w W p m bs) (hb : Below W.heap.size W W') : QpAt w W' p m bs :=
  h.step (h.lv.map.below hb) (MChg.below hb h.lv.map.lt)
theorem QpAt.keep {w W W' : World} {p : Nat} {m : MapM} {bs : List (Nat × Array Value × TypeId)} (h : QpAt w W p m bs) (hc : MChg W p W') (B : Nat) : KeepsR B W W' :=
  ⟨hc.chg.size, fun k o _ hk ho => hc.chg.obj hk (fun hM => by
    rcases MM.kind h.lv.map hM with e | ⟨es, clock, e⟩
    · obtain ⟨mb, hb, -⟩ := h.lv.map
      subst e
      rw [hk] at hb
      obtain rfl := Option.some.inj hb
      cases ho
    · rw [hk] at e
      obtain rfl := Option.some.inj e
      cases ho)⟩
theorem QpAt.turn {w W : World} {p : Nat} {m : MapM} {bs : List (Nat × Array Value × TypeId)} (h : QpAt w W p m bs) {l : Nat} {o o' : Obj} (hl : w.heap.size ≤ l) (ho : W.heap[l]? = some o) (hr : isRec o = true) : QpAt w (W.putObj l o') p m bs := by
  have hc : Chg (fun k => k = l) W (W.putObj l o') := ⟨rfl, rfl, rfl, by simp [World.putObj], fun k _ hk => World.putObj_heap_other (fun e => hk (by rw [e]))⟩
  have hne : ∀ {k : Nat} {c : Obj}, W.heap[k]? = some c → isRec c = false → k ≠ l := fun hk hcr e => by
    subst e
    rw [hk] at ho
    obtain rfl := Option.some.inj ho
    rw [hr] at hcr
    cases hcr
  obtain ⟨mb, hb, hmo⟩ := h.lv.map
  have hp : p ≠ l := hne hb rfl
  have hmap : MapAt (W.putObj l o') p m := ⟨mb, hc.obj hb hp, hmo.imp id (fun ⟨b, h1, es, clock, E, h2, h3⟩ => ⟨b, h1, es, clock, E, hc.obj h2 (hne h2 rfl), h3⟩)⟩
  refine ⟨⟨hmap, h.lv.low, fun k hk => h.lv.new k (by rwa [World.cell?_of_block (hc.block p (Array.getElem?_eq_some_iff.1 hb).1 hp)] at hk), h.lv.bel.trans (hc.below (fun k hk => ⟨Nat.lt_of_lt_of_le hk h.lv.bel.size, fun e => by omega⟩)), fun x hx => by cases hx⟩, fun x hx => ⟨(h.kept x hx).1, hc.obj (h.kept x hx).2 (hne (h.kept x hx).2 rfl)⟩⟩
end Go.Proofs.YtaooangnnlopcaaGreatDoor
namespace Go.Proofs.YtaooangnnlopcaaGreatDoor
open Go.RowKit Go.ChangeMaps Go.MapKept
theorem flushE_ltR {ep : Nat} (h : ep < 18446744073709551616) (d : Int) : (flushE ep d).1 < 18446744073709551616 := by
  unfold flushE
  split
  · exact h
  · split <;> exact put_lt _ _ _
theorem givesV_epochR {c : CallD} {ep next : Nat} {was : ItemD} {there : Bool} {g : GivD} (h : givesV c ep next was there = some g) : g.epoch = ep ∨ g.epoch = (flushE ep c.exp).1 := by
  unfold givesV at h
  repeat' split at h
  all_goals (try cases h)
  all_goals (try (first | unfold casG | unfold countG | unfold flushG))
  all_goals (repeat' split)
  all_goals first
    | exact .inl rfl
    | exact .inr rfl
theorem dec_max (u : Nat) (h : u < 18446744073709551616) : (⟨(Lib.decDigits u).toArray⟩ : ByteArray).size ≤ maxLen := by
  have h1 : (Lib.decDigits u).length ≤ 20 := dec_short _ h
  unfold maxLen
  simp [ByteArray.size]
  omega
theorem countN_lt {up : Bool} {n b : Nat} (h : n < 18446744073709551616) : countN up n b < 18446744073709551616 := by
  unfold countN
  split
  · exact Nat.mod_lt _ (by omega)
  · omega
theorem givesV_value {c : CallD} {ep next : Nat} {was : ItemD} {there : Bool} {g : GivD} (h : givesV c ep next was there = some g) (hc : c.value.size ≤ maxLen) (hw : was.value.size ≤ maxLen) : g.isx.value.size ≤ maxLen := by
  have h0 : noItem.value.size ≤ maxLen := by show 0 ≤ maxLen; omega
  unfold givesV at h
  repeat' split at h
  all_goals (try cases h)
  all_goals (try (first | unfold casG | unfold countG | unfold flushG))
  all_goals (repeat' split)
  all_goals first
    | exact h0
    | exact hc
    | exact hw
    | exact dec_max _ (countN_lt (parse_lt (by assumption)))
/-- What holds of a map behind i acts. -/
structure MOk (m : MapM) (i : Nat) : Prop where
  len : m.L.length ≤ i
  ids : m.ids ≤ i
  ep : m.epoch < 18446744073709551616
  val : ∀ x ∈ m.L, x.value.size ≤ maxLen
theorem MOk.new : MOk newM 0 := ⟨Nat.le_refl _, Nat.le_refl _, by decide, fun x hx => by cases hx⟩
theorem MOk.more {m : MapM} {i j : Nat} (h : MOk m i) (hj : i ≤ j) : MOk m j := ⟨Nat.le_trans h.len hj, Nat.le_trans h.ids hj, h.ep, h.val⟩
theorem MOk.was {m : MapM} {i : Nat} (h : MOk m i) (k : ByteArray) : (wasL m.L k).value.size ≤ maxLen := by
  unfold wasL
  cases ha : atL m.L k with
  | none => show 0 ≤ maxLen; omega
  | some x => exact h.val x (List.mem_of_find?_eq_some ha)
theorem MOk.fits {m : MapM} {i : Nat} (h : MOk m i) {c : CallD} {ep : Nat} (hv : c.value.size ≤ maxLen) (he : ep < 18446744073709551616) (a : AnsD) : MOk (fitsM m c ep a).2 (i + 1) := by
  unfold fitsM
  cases hg : givesM m c ep with
  | none => exact h.more (Nat.le_succ _)
  | some g =>
    have hgv : givesV c ep (m.ids + 1) (wasL m.L c.key) (thereL m.L c.key ep) = some g := by
      unfold givesM at hg
      split at hg
      · exact hg
      · cases hg
    show MOk (if a = g.ans then (true, applyM m c.key g) else if g.stored = true ∧ (atL m.L c.key).isNone = true ∧ a = noRoom then (true, { m with epoch := ep }) else (false, m)).2 (i + 1)
    split
    · refine ⟨?_, ?_, ?_, ?_⟩
      · show (if g.gone then withoutL m.L c.key else if g.put then withoutL m.L c.key ++ [g.isx] else m.L).length ≤ i + 1
        have h1 := h.len
        have h2 := without_len m.L c.key
        split
        · omega
        · split
          · rw [List.length_append]; show _ + 1 ≤ _; omega
          · omega
      · show (if g.drawn then m.ids + 1 else m.ids) ≤ i + 1
        have := h.ids
        split <;> omega
      · show g.epoch < _
        rcases givesV_epochR hgv with e | e
        · rw [e]; exact he
        · rw [e]; exact flushE_ltR he _
      · intro x hx
        have hx' : x ∈ (if g.gone then withoutL m.L c.key else if g.put then withoutL m.L c.key ++ [g.isx] else m.L) := hx
        split at hx'
        · exact h.val x (mem_without.1 hx').1
        · split at hx'
          · rcases List.mem_append.1 hx' with h1 | h1
            · exact h.val x (mem_without.1 h1).1
            · obtain rfl : x = g.isx := by simpa using h1
              exact givesV_value hgv hv (h.was c.key)
          · exact h.val x hx'
    · split
      · exact ⟨Nat.le_succ_of_le h.len, Nat.le_succ_of_le h.ids, he, h.val⟩
      · exact h.more (Nat.le_succ _)
theorem MOk.drop {m : MapM} {i : Nat} (h : MOk m i) (x : ItemD) : MOk (dropM m x).2 (i + 1) := by
  unfold dropM
  split
  · exact ⟨Nat.le_trans (without_len _ _) (Nat.le_succ_of_le h.len), Nat.le_succ_of_le h.ids, h.ep, fun y hy => h.val y (mem_without.1 hy).1⟩
  · exact h.more (Nat.le_succ _)
/-- The two maps, and blocks that are kept beside them. -/
structure PlS (w W : World) (p r : Nat) (mm mr : MapM) (bs : List (Nat × Array Value × TypeId)) : Prop where
  lv : LvAt w W p mm []
  ref : ∃ v, RMap W r v mr
  rlow : w.heap.size ≤ r
  kept : ∀ x ∈ bs, x.2.2 ≠ 57 ∧ x.2.2 ≠ 31 ∧ W.heap[x.1]? = some (.cells x.2.1 x.2.2 (0, 0))
section
variable {w W W' : World} {p r : Nat} {mm mr m' : MapM} {bs : List (Nat × Array Value × TypeId)}
theorem PlS.below (h : PlS w W p r mm mr bs) (hb : Below W.heap.size W W') : PlS w W' p r mm mr bs := by
  obtain ⟨v, hv⟩ := h.ref
  exact ⟨h.lv.below hb, ⟨v, hv.below hb⟩, h.rlow, fun x hx => ⟨(h.kept x hx).1, (h.kept x hx).2.1, (hb.block _ (Array.getElem?_eq_some_iff.1 (h.kept x hx).2.2).1).trans (h.kept x hx).2.2⟩⟩
theorem PlS.put {cs : Array Value} {t : TypeId} {o : Obj} (h : PlS w W p r mm mr bs) (hr : W'.heap[W.heap.size]? = some (.cells cs t (0, 0))) (hg : (W.alloc o).grownBy W' (some W.heap.size)) (h1 : t ≠ 57) (h2 : t ≠ 31) : PlS w W' p r mm mr ((W.heap.size, cs, t) :: bs) := by
  have hb : Below W.heap.size W W' := grown_below ((Below.refl _ _).alloc (Nat.le_refl _) o) (by rw [size_at]; omega) hg (fun k hk => by cases hk; exact Nat.le_refl _)
  have h3 := h.below hb
  refine ⟨h3.lv, h3.ref, h3.rlow, fun x hx => ?_⟩
  rcases List.mem_cons.1 hx with rfl | hx
  · exact ⟨h1, h2, hr⟩
  · exact h3.kept x hx
theorem PlS.add {q : Nat} {cs : Array Value} {t : TypeId} (h : PlS w W p r mm mr bs) (hr : W.heap[q]? = some (.cells cs t (0, 0))) (h1 : t ≠ 57) (h2 : t ≠ 31) : PlS w W p r mm mr ((q, cs, t) :: bs) :=
  ⟨h.lv, h.ref, h.rlow, fun x hx => by
    rcases List.mem_cons.1 hx with rfl | hx
    · exact ⟨h1, h2, hr⟩
    · exact h.kept x hx⟩
theorem PlS.none (h : PlS w W p r mm mr bs) : PlS w W p r mm mr [] := ⟨h.lv, h.ref, h.rlow, fun x hx => by cases hx⟩
theorem PlS.less {b : Nat × Array Value × TypeId} (h : PlS w W p r mm mr (b :: bs)) : PlS w W p r mm mr bs := ⟨h.lv, h.ref, h.rlow, fun x hx => h.kept x (.tail _ hx)⟩
/-- A block of one's own written over. -/
theorem PlS.over {q : Nat} {cs cs' : Array Value} {t : TypeId} (h : PlS w W p r mm mr ((q, cs, t) :: bs)) (hq : w.heap.size ≤ q) (hd : ∀ x ∈ bs, x.1 ≠ q) (ht : t ≠ 38) (hr : W'.heap[q]? = some (.cells cs' t (0, 0))) (hg : W.grownBy W' (some q)) : PlS w W' p r mm mr ((q, cs', t) :: bs) := by
  have hc : Chg (fun k => k = q) W W' := Chg.of_grown hg (fun i _ e => by cases e; rfl)
  obtain ⟨v, hv⟩ := h.ref
  have hk := h.kept _ (.head _)
  have hpq : p ≠ q := fun e => by
    subst e
    obtain ⟨mb, hb, -⟩ := h.lv.map
    rw [hk.2.2] at hb
    cases hb
    exact hk.1 rfl
  have hrq : r ≠ q := fun e => by
    subst e
    have h2 := hv.box
    rw [hk.2.2] at h2
    cases h2
    exact hk.2.1 rfl
  have hm := h.lv.map.kept hc hpq (fun b ⟨es, clock, hb⟩ e => by
    subst e
    rw [hk.2.2] at hb
    cases hb)
  obtain ⟨mb, h0, -, -⟩ := h.lv.map.cells
  refine ⟨⟨hm, h.lv.low, fun k hk => h.lv.new k ?_, h.lv.bel.trans (hc.below (fun k hk => ⟨Nat.lt_of_lt_of_le hk h.lv.bel.size, fun e => by omega⟩)), fun x hx => by cases hx⟩, ⟨v, hv.kept hc hrq (fun g ⟨cs2, fz, hg2⟩ e => by subst e; rw [hk.2.2] at hg2; cases hg2; exact ht rfl)⟩, h.rlow, fun x hx => ?_⟩
  · rw [hc.cell h0 hpq] at hk
    rw [h0]
    exact hk
  · rcases List.mem_cons.1 hx with rfl | hx
    · exact ⟨hk.1, hk.2.1, hr⟩
    · exact ⟨(h.kept x (.tail _ hx)).1, (h.kept x (.tail _ hx)).2.1, hc.obj (h.kept x (.tail _ hx)).2.2 (hd x hx)⟩
end
end Go.Proofs.YtaooangnnlopcaaGreatDoor
