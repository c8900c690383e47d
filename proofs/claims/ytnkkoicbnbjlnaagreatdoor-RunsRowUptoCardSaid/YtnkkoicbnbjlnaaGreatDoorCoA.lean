/- Plain: what a connection holds, and tells (chapter 32). No program in sight. And what goes with it (2 texts). -/
import Derived.Test.YtnkkoicbnbjlnaaGreatDoorLowL
import Derived.Test.YtnkkoicbnbjlnaaGreatDoorTeA
import Derived.Test.YtnkkoicbnbjlnaaGreatDoorLowH
namespace Go.Proofs.YtnkkoicbnbjlnaaGreatDoor
set_option maxRecDepth 100000
set_option maxHeartbeats 8000000
structure ConnM where
 feed : FSt
 wait : List Ev
 calls : List Cmd
 under : Bool
 out : List UInt8
 closed : Bool
def cNew : ConnM := ⟨fNew, [], [], false, [], false⟩
structure TurnR where
 wait : List Ev
 calls : List Cmd
 out : List UInt8
 closed : Bool
def quietE (e : Ev) (o : List UInt8) : List UInt8 := if e.told ≠ 0 then o ++ tOf e.told else if e.cmd.verb = 12 then o ++ versionL else o
def quitE (e : Ev) : Prop := e.told = 0 ∧ e.cmd.verb = 13
instance (e : Ev) : Decidable (quitE e) := by unfold quitE; infer_instance
def turnsM : List Ev → List UInt8 → Bool → TurnR
 | [], o, cl => ⟨[], [], o, cl⟩
 | e :: es, o, cl => if quitE e then ⟨[], [], o, true⟩ else if callsE e = [] then turnsM es (quietE e o) cl else ⟨e :: es, callsE e, o, cl⟩
def onM (s : ConnM) : ConnM := if s.calls = [] then { s with wait := (turnsM s.wait s.out s.closed).wait, calls := (turnsM s.wait s.out s.closed).calls, out := (turnsM s.wait s.out s.closed).out, closed := (turnsM s.wait s.out s.closed).closed } else s
def inM (s : ConnM) (b : List UInt8) : ConnM := if s.closed then s else onM { s with feed := (runF s.feed b).1, wait := s.wait ++ (runF s.feed b).2 }
def nextM (s : ConnM) : Option Cmd := if s.under = true then none else s.calls.head?
def tookM (s : ConnM) : ConnM := if s.calls = [] then s else { s with under := true }
def tellM (c : Cmd) (a : AnsD) (last : Bool) : List UInt8 := if c.verb = 1 ∨ c.verb = 2 then valueOf c.verb a.kind a.item ++ (if last then endL else []) else if c.quiet then [] else ansOf false a.kind a.number
def doneM (s : ConnM) (a : AnsD) : ConnM :=
 match s.wait with
 | [] => s
 | e :: es =>
  if s.calls.tail = [] then onM { s with wait := es, calls := [], under := false, out := s.out ++ tellM e.cmd a true }
  else { s with calls := s.calls.tail, under := false, out := s.out ++ tellM e.cmd a false }
structure GoodM (s : ConnM) : Prop where
 turn : s.calls ≠ [] → ∃ e es, s.wait = e :: es ∧ callsE e ≠ [] ∧ ¬ quitE e
 idle : s.calls = [] → s.wait = []
 under : s.under = true → s.calls ≠ []
 closed : s.closed = true → s.wait = [] ∧ s.calls = []
theorem good_new : GoodM cNew := ⟨fun h => absurd rfl h, fun _ => rfl, fun h => by simp [cNew] at h, fun h => by simp [cNew] at h⟩
theorem turns_good : ∀ (L : List Ev) (o : List UInt8) (cl : Bool), (cl = true → L = []) →
  ((turnsM L o cl).calls ≠ [] → ∃ e es, (turnsM L o cl).wait = e :: es ∧ callsE e = (turnsM L o cl).calls ∧ ¬ quitE e) ∧ ((turnsM L o cl).calls = [] → (turnsM L o cl).wait = []) ∧ ((turnsM L o cl).closed = true → (turnsM L o cl).wait = [] ∧ (turnsM L o cl).calls = [])
 | [], o, cl, _ => ⟨fun h => absurd rfl h, fun _ => rfl, fun _ => ⟨rfl, rfl⟩⟩
 | e :: es, o, cl, hcl => by
  have h0 : cl = false := by
   cases cl
   ·rfl
   ·exact absurd (hcl rfl) (by simp)
  subst h0
  unfold turnsM
  split
  ·exact ⟨fun h => absurd rfl h, fun _ => rfl, fun _ => ⟨rfl, rfl⟩⟩
  ·split
   ·exact turns_good es _ false (fun h => by simp at h)
   ·rename_i hq hc
    exact ⟨fun _ => ⟨e, es, rfl, rfl, hq⟩, fun h => absurd h hc, fun h => by simp at h⟩
theorem on_good {s : ConnM} (hc : s.calls = []) (hu : s.under = false) (hcl : s.closed = true → s.wait = []) : GoodM (onM s) := by
 obtain ⟨h1, h2, h3⟩ := turns_good s.wait s.out s.closed hcl
 unfold onM
 rw [if_pos hc]
 exact ⟨fun h => by
  obtain ⟨e, es, a, b, d⟩ := h1 h
  exact ⟨e, es, a, by rw [b]; exact h, d⟩, h2, fun h => by
  have h : s.under = true := h
  rw [hu] at h; simp at h, h3⟩
theorem in_good {s : ConnM} (h : GoodM s) (b : List UInt8) : GoodM (inM s b) := by
 unfold inM
 split
 ·exact h
 ·rename_i hcl
  by_cases hc : s.calls = []
  ·refine on_good hc ?_ (fun e => absurd e hcl)
   cases hu : s.under
   ·rfl
   ·exact absurd hc (h.under hu)
  ·unfold onM
   rw [if_neg hc]
   obtain ⟨e, es, h1, h2, h3⟩ := h.turn hc
   exact ⟨fun _ => ⟨e, es ++ (runF s.feed b).2, by show s.wait ++ _ = _; rw [h1]; rfl, h2, h3⟩, fun e => absurd e hc, h.under, fun e => absurd e hcl⟩
theorem took_good {s : ConnM} (h : GoodM s) : GoodM (tookM s) := by
 unfold tookM
 split
 ·exact h
 ·rename_i hc
  exact ⟨h.turn, h.idle, fun _ => hc, h.closed⟩
theorem done_good {s : ConnM} (h : GoodM s) (a : AnsD) (hc : s.calls ≠ []) : GoodM (doneM s a) := by
 obtain ⟨e, es, h1, h2, h3⟩ := h.turn hc
 have hcl : s.closed = true → False := fun e => hc (h.closed e).2
 unfold doneM
 rw [h1]
 dsimp only
 split
 ·exact on_good rfl rfl (fun e => (hcl e).elim)
 ·rename_i hn
  exact ⟨fun _ => ⟨e, es, rfl, h2, h3⟩, fun e => absurd e hn, fun h => by simp at h, fun e => (hcl e).elim⟩
structure SumR where
 calls : List Cmd
 out : List UInt8
 closed : Bool
def tellsM (c : Cmd) (f : Nat → AnsD) : Nat → Nat → List UInt8
 | _, 0 => []
 | n, k + 1 => tellM c (f n) (k == 0) ++ tellsM c f (n + 1) k
def SumR.behind (C : List Cmd) (r : SumR) : SumR := ⟨C ++ r.calls, r.out, r.closed⟩
def sumM (f : Nat → AnsD) : List Ev → Nat → List UInt8 → SumR
 | [], _, o => ⟨[], o, false⟩
 | e :: es, n, o => if quitE e then ⟨[], o, true⟩ else if callsE e = [] then sumM f es n (quietE e o) else
   (sumM f es (n + (callsE e).length) (o ++ tellsM e.cmd f n (callsE e).length)).behind (callsE e)
def leftR (f : Nat → AnsD) (wait : List Ev) (calls : List Cmd) (out : List UInt8) (closed : Bool) (n : Nat) : SumR :=
 match wait with
 | [] => ⟨[], out, closed⟩
 | e :: es => (sumM f es (n + calls.length) (out ++ tellsM e.cmd f n calls.length)).behind calls
def restM (f : Nat → AnsD) (m : ConnM) (n : Nat) : SumR := leftR f m.wait m.calls m.out m.closed n
section
variable {f : Nat → AnsD}
theorem quitE_calls {e : Ev} (h : quitE e) : callsE e = [] := callsE_skip' h
where callsE_skip' {e : Ev} (h : quitE e) : callsE e = [] := by unfold callsE; rw [if_pos (.inr (.inr h.2))]
theorem sum_nil (n : Nat) (o : List UInt8) : sumM f [] n o = ⟨[], o, false⟩ := rfl
end
/-! ### How much there may be -/
def potF (st : FSt) : Nat := if st.way = 0 then st.held.length else if st.way = 1 ∨ st.way = 2 ∨ st.way = 3 then (callsE ⟨st.cmd, [], 0⟩).length else 0
theorem quiet_prefix (e : Ev) (o : List UInt8) : ∃ t, quietE e o = o ++ t ∧ t.length ≤ 200 := by
 unfold quietE
 split
 ·refine ⟨_, rfl, ?_⟩
  exact tOf_short _
 ·split
  ·exact ⟨_, rfl, by decide⟩
  ·exact ⟨[], by simp, by simp⟩
where tOf_short : ∀ k : Nat, (tOf k).length ≤ 200
 | 0 | 1 | 2 | 3 | 4 | 5 | 6 | 7 | 8 | 9 | 10 | 11 | 12 => by decide
 | n + 13 => by
  unfold tOf
  have h2 : toldL.length ≤ 13 := by decide
  have : toldL.getD (n + 13) [] = [] := by
   rw [List.getD_eq_getElem?_getD, List.getElem?_eq_none (by omega)]; rfl
  rw [this]
  decide
theorem told_leC (s : List UInt8) : (parseL s).2 ≤ 5 := by
 by_cases hlen : 2048 < s.length
 ·unfold parseL
  rw [if_pos hlen]; decide
 cases hw : words s with
 | nil => unfold parseL; rw [if_neg hlen, hw]; decide
 | cons name l =>
  rw [parseL_some hlen hw]
  split
  ·decide
  ·rcases parseW_is (verbOf name) (isQuiet (verbOf name) l) (tailOf (verbOf name) l) with ⟨_, h2⟩ | ⟨_, _, ht⟩
   ·omega
   ·rw [ht]; split <;> decide
def BareC (l : List Ev) : Prop := ∀ e ∈ l, e.told ≤ 6 ∧ (e.told = 0 ∨ e = toldE e.told)
theorem bareC_nil : BareC [] := fun e h => by cases h
theorem bareC_told (t : Nat) (ht : t ≤ 6) : BareC [toldE t] := fun e h => by
 obtain rfl : e = toldE t := by simpa using h
 exact ⟨ht, .inr rfl⟩
theorem bareC_cmd (c : Cmd) (d : List UInt8) : BareC [⟨c, d, 0⟩] := fun e h => by
 obtain rfl : e = ⟨c, d, 0⟩ := by simpa using h
 exact ⟨by show 0 ≤ 6; omega, .inl rfl⟩
theorem lineC_none (st : FSt) (s : List UInt8) : BareC (lineF st s).2 := by
 unfold lineF
 dsimp only
 split
 ·exact bareC_told 5 (by omega)
 ·split
  ·split
   ·exact bareC_nil
   ·exact bareC_cmd _ _
  ·exact bareC_told _ (Nat.le_succ_of_le (told_leC _))
theorem stepC_none (st : FSt) (c : UInt8) : BareC (stepF st c).2 := by
 unfold stepF
 split
 ·unfold gatherF
  split
  ·exact lineC_none _ _
  ·split
   ·exact bareC_told 3 (by omega)
   ·exact bareC_nil
 ·split
  ·exact bareC_nil
  ·split
   ·split
    ·exact bareC_nil
    ·exact bareC_told 6 (by omega)
   ·split
    ·split
     ·exact bareC_cmd _ _
     ·exact bareC_told 6 (by omega)
    ·split
     ·exact bareC_nil
     ·exact bareC_nil
theorem runC_none : ∀ (bl : List UInt8) (st : FSt), ∀ e ∈ (runF st bl).2, e.told ≤ 6 ∧ (e.told = 0 ∨ e = toldE e.told)
 | [], _, e, he => by cases he
 | c :: bl, st, e, he => by
  rw [runF_cons] at he
  rcases List.mem_append.1 he with h | h
  ·exact stepC_none st c e h
  ·exact runC_none bl _ e h
structure EvC (e : Ev) : Prop where
 ok : EvOk e
 told : e.told ≤ 6
theorem run_okC {bl : List UInt8} {st : FSt} (h : GoodC st) : GoodC (runF st bl).1 ∧ ∀ e ∈ (runF st bl).2, EvC e := by
 obtain ⟨h1, h2⟩ := run_ok bl h
 exact ⟨h1, fun e he => ⟨h2 e he, (runC_none bl st e he).1⟩⟩
/-! ### A connection's run -/
structure RunI (f : Nat → AnsD) (bl : List UInt8) (c : Nat) (m : ConnM) (C : List Cmd) : Prop where
 good : GoodM m
 feed : m.closed = false → m.feed = (runF fNew (bl.take c)).1
 sum : sumM f (runF fNew (bl.take c)).2 0 [] = (restM f m C.length).behind C
 gf : GoodF m.feed
 gc : GoodC m.feed
 held : m.feed.held.length ≤ c
 wok : ∀ e ∈ m.wait, EvC e
 wlen : m.wait.length ≤ c
theorem turns_wait : ∀ (L : List Ev) (o : List UInt8) (cl : Bool), (∀ e ∈ (turnsM L o cl).wait, e ∈ L) ∧ (turnsM L o cl).wait.length ≤ L.length
 | [], o, cl => ⟨fun _ h => h, Nat.le_refl _⟩
 | e :: es, o, cl => by
  unfold turnsM
  split
  ·exact ⟨fun _ h => (nomatch h), Nat.zero_le _⟩
  ·split
   ·obtain ⟨h1, h2⟩ := turns_wait es (quietE e o) cl
    exact ⟨fun x hx => List.mem_cons_of_mem _ (h1 x hx), by rw [List.length_cons]; omega⟩
   ·exact ⟨fun _ h => h, Nat.le_refl _⟩
theorem on_wait (m : ConnM) : (∀ e ∈ (onM m).wait, e ∈ m.wait) ∧ (onM m).wait.length ≤ m.wait.length ∧ (onM m).feed = m.feed ∧ (onM m).under = m.under := by
 unfold onM
 split
 ·obtain ⟨h1, h2⟩ := turns_wait m.wait m.out m.closed
  exact ⟨h1, h2, rfl, rfl⟩
 ·exact ⟨fun _ h => h, Nat.le_refl _, rfl, rfl⟩
theorem done_wait (m : ConnM) (a : AnsD) : (∀ e ∈ (doneM m a).wait, e ∈ m.wait) ∧ (doneM m a).wait.length ≤ m.wait.length ∧ (doneM m a).feed = m.feed := by
 unfold doneM
 split
 ·rename_i h; rw [h]; exact ⟨fun _ h => h, Nat.le_refl _, rfl⟩
 ·rename_i e es h
  rw [h]
  split
  ·obtain ⟨h1, h2, h3, h4⟩ := on_wait { m with wait := es, calls := [], under := false, out := m.out ++ tellM e.cmd a true }
   exact ⟨fun x hx => List.mem_cons_of_mem _ (h1 x hx), by rw [List.length_cons]; exact Nat.le_trans h2 (Nat.le_succ _), h3⟩
  ·exact ⟨fun x hx => hx, Nat.le_refl _, rfl⟩
end Go.Proofs.YtnkkoicbnbjlnaaGreatDoor
