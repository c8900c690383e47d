/- Plain: what a connection holds, and tells (chapter 32). No program in sight. Plain: what a connection's calls, and all that it tells, come to, event by event (chapter 32). No program in sight. -/
import Derived.Test.YtddifbimlmkcbaaGreatDoorLowL
import Derived.Test.YtddifbimlmkcbaaGreatDoorTellsAns
import Derived.Test.YtddifbimlmkcbaaGreatDoorTellsValue0
import Derived.Test.YtddifbimlmkcbaaGreatDoorLowH
namespace Go.Proofs.YtddifbimlmkcbaaGreatDoor

structure ConnM where
  feed : FSt
  wait : List Ev
  calls : List Cmd
  under : Bool
  out : List UInt8
  closed : Bool
def cNew : ConnM := ⟨fNew, [], [], false, [], false⟩
/-- What waits, the calls, what was told, and whether it is closed, when what waits has come to its turn. -/
structure TurnR where
  wait : List Ev
  calls : List Cmd
  out : List UInt8
  closed : Bool
/-- One event's turn that brings no call: what was told then. -/
def quietE (e : Ev) (o : List UInt8) : List UInt8 := if e.told ≠ 0 then o ++ tOf e.told else if e.cmd.verb = 12 then o ++ versionL else o
def quitE (e : Ev) : Prop := e.told = 0 ∧ e.cmd.verb = 13
instance (e : Ev) : Decidable (quitE e) := by unfold quitE; infer_instance
def turnsM : List Ev → List UInt8 → Bool → TurnR
  | [], o, cl => ⟨[], [], o, cl⟩
  | e :: es, o, cl => if quitE e then ⟨[], [], o, true⟩ else if callsE e = [] then turnsM es (quietE e o) cl else ⟨e :: es, callsE e, o, cl⟩
def onM (s : ConnM) : ConnM := if s.calls = [] then { s with wait := (turnsM s.wait s.out s.closed).wait, calls := (turnsM s.wait s.out s.closed).calls, out := (turnsM s.wait s.out s.closed).out, closed := (turnsM s.wait s.out s.closed).closed } else s
def inM (s : ConnM) (b : List UInt8) : ConnM := if s.closed then s else onM { s with feed := (runF s.feed b).1, wait := s.wait ++ (runF s.feed b).2 }
def nextM (s : ConnM) : Option Cmd := if s.under = true then none else s.calls.head?
def tookM (s : ConnM) : ConnM := if s.calls = [] then s else { s with under := true }
/-- What is told of an answer to one of an event's calls; is it the last one? -/
def tellM (c : Cmd) (a : AnsD) (last : Bool) : List UInt8 := if c.verb = 1 ∨ c.verb = 2 then valueOf c.verb a.kind a.item ++ (if last then endL else []) else if c.quiet then [] else ansOf false a.kind a.number
def doneM (s : ConnM) (a : AnsD) : ConnM :=
  match s.wait with
  | [] => s
  | e :: es =>
    if s.calls.tail = [] then onM { s with wait := es, calls := [], under := false, out := s.out ++ tellM e.cmd a true }
    else { s with calls := s.calls.tail, under := false, out := s.out ++ tellM e.cmd a false }
/-- What holds of a connection at all times. -/
structure GoodM (s : ConnM) : Prop where
  turn : s.calls ≠ [] → ∃ e es, s.wait = e :: es ∧ callsE e ≠ [] ∧ ¬ quitE e
  idle : s.calls = [] → s.wait = []
  under : s.under = true → s.calls ≠ []
  closed : s.closed = true → s.wait = [] ∧ s.calls = []
theorem good_new : GoodM cNew := ⟨fun h => absurd rfl h, fun _ => rfl, fun h => by simp [cNew] at h, fun h => by simp [cNew] at h⟩
theorem turns_good : ∀ (L : List Ev) (o : List UInt8) (cl : Bool), (cl = true → L = []) →
    ((turnsM L o cl).calls ≠ [] → ∃ e es, (turnsM L o cl).wait = e :: es ∧ callsE e = (turnsM L o cl).calls ∧ ¬ quitE e) ∧ ((turnsM L o cl).calls = [] → (turnsM L o cl).wait = []) ∧ ((turnsM L o cl).closed = true → (turnsM L o cl).wait = [] ∧ (turnsM L o cl).calls = [])
  | [], o, cl, _ => ⟨fun h => absurd rfl h, fun _ => rfl, fun _ => ⟨rfl, rfl⟩⟩
  | e :: es, o, cl, hcl => by
    have h0 : cl = false := by
      cases cl
      · rfl
      · exact absurd (hcl rfl) (by simp)
    subst h0
    unfold turnsM
    split
    · exact ⟨fun h => absurd rfl h, fun _ => rfl, fun _ => ⟨rfl, rfl⟩⟩
    · split
      · exact turns_good es _ false (fun h => by simp at h)
      · rename_i hq hc
        exact ⟨fun _ => ⟨e, es, rfl, rfl, hq⟩, fun h => absurd h hc, fun h => by simp at h⟩
theorem on_good {s : ConnM} (hc : s.calls = []) (hu : s.under = false) (hcl : s.closed = true → s.wait = []) : GoodM (onM s) := by
  obtain ⟨h1, h2, h3⟩ := turns_good s.wait s.out s.closed hcl
  unfold onM
  rw [if_pos hc]
  exact ⟨fun h => by
    obtain ⟨e, es, a, b, d⟩ := h1 h
    exact ⟨e, es, a, by rw [b]; exact h, d⟩, h2, fun h => by
    have h : s.under = true := h
    rw [hu] at h; simp at h, h3⟩
theorem in_good {s : ConnM} (h : GoodM s) (b : List UInt8) : GoodM (inM s b) := by
  unfold inM
  split
  · exact h
  · rename_i hcl
    by_cases hc : s.calls = []
    · refine on_good hc ?_ (fun e => absurd e hcl)
      cases hu : s.under
      · rfl
      · exact absurd hc (h.under hu)
    · unfold onM
      rw [if_neg hc]
      obtain ⟨e, es, h1, h2, h3⟩ := h.turn hc
      exact ⟨fun _ => ⟨e, es ++ (runF s.feed b).2, by show s.wait ++ _ = _; rw [h1]; rfl, h2, h3⟩, fun e => absurd e hc, h.under, fun e => absurd e hcl⟩
theorem took_good {s : ConnM} (h : GoodM s) : GoodM (tookM s) := by
  unfold tookM
  split
  · exact h
  · rename_i hc
    exact ⟨h.turn, h.idle, fun _ => hc, h.closed⟩
theorem done_good {s : ConnM} (h : GoodM s) (a : AnsD) (hc : s.calls ≠ []) : GoodM (doneM s a) := by
  obtain ⟨e, es, h1, h2, h3⟩ := h.turn hc
  have hcl : s.closed = true → False := fun e => hc (h.closed e).2
  unfold doneM
  rw [h1]
  dsimp only
  split
  · exact on_good rfl rfl (fun e => (hcl e).elim)
  · rename_i hn
    exact ⟨fun _ => ⟨e, es, rfl, h2, h3⟩, fun e => absurd e hn, fun h => by simp at h, fun e => (hcl e).elim⟩
end Go.Proofs.YtddifbimlmkcbaaGreatDoor
namespace Go.Proofs.YtddifbimlmkcbaaGreatDoor

/-- The calls, what was told, and whether it is closed, when all is answered. -/
structure SumR where
  calls : List Cmd
  out : List UInt8
  closed : Bool
/-- What is told of answers to the last k calls of an event. -/
def tellsM (c : Cmd) (f : Nat → AnsD) : Nat → Nat → List UInt8
  | _, 0 => []
  | n, k + 1 => tellM c (f n) (k == 0) ++ tellsM c f (n + 1) k
theorem tells_succ (c : Cmd) (f : Nat → AnsD) (n k : Nat) : tellsM c f n (k + 1) = tellM c (f n) (k == 0) ++ tellsM c f (n + 1) k := rfl
def SumR.behind (C : List Cmd) (r : SumR) : SumR := ⟨C ++ r.calls, r.out, r.closed⟩
/-- Events, one by one. -/
def sumM (f : Nat → AnsD) : List Ev → Nat → List UInt8 → SumR
  | [], _, o => ⟨[], o, false⟩
  | e :: es, n, o => if quitE e then ⟨[], o, true⟩ else if callsE e = [] then sumM f es n (quietE e o) else
      (sumM f es (n + (callsE e).length) (o ++ tellsM e.cmd f n (callsE e).length)).behind (callsE e)
/-- What is left to be done. -/
def leftR (f : Nat → AnsD) (wait : List Ev) (calls : List Cmd) (out : List UInt8) (closed : Bool) (n : Nat) : SumR :=
  match wait with
  | [] => ⟨[], out, closed⟩
  | e :: es => (sumM f es (n + calls.length) (out ++ tellsM e.cmd f n calls.length)).behind calls
def restM (f : Nat → AnsD) (m : ConnM) (n : Nat) : SumR := leftR f m.wait m.calls m.out m.closed n
section
variable {f : Nat → AnsD}
theorem quitE_calls {e : Ev} (h : quitE e) : callsE e = [] := callsE_skip' h
where callsE_skip' {e : Ev} (h : quitE e) : callsE e = [] := by unfold callsE; rw [if_pos (.inr (.inr h.2))]
theorem turns_sum : ∀ (L : List Ev) (o : List UInt8) (n : Nat), leftR f (turnsM L o false).wait (turnsM L o false).calls (turnsM L o false).out (turnsM L o false).closed n = sumM f L n o
  | [], o, n => rfl
  | e :: es, o, n => by
    unfold turnsM sumM
    split
    · rfl
    · split
      · exact turns_sum es _ n
      · rfl
theorem sum_cons (e : Ev) (es : List Ev) (n : Nat) (o : List UInt8) : sumM f (e :: es) n o = if quitE e then ⟨[], o, true⟩ else if callsE e = [] then sumM f es n (quietE e o) else
      (sumM f es (n + (callsE e).length) (o ++ tellsM e.cmd f n (callsE e).length)).behind (callsE e) := rfl
theorem sum_append : ∀ (L M : List Ev) (n : Nat) (o : List UInt8), sumM f (L ++ M) n o = if (sumM f L n o).closed then sumM f L n o else (sumM f M (n + (sumM f L n o).calls.length) (sumM f L n o).out).behind (sumM f L n o).calls
  | [], M, n, o => by
    show sumM f M n o = if (⟨[], o, false⟩ : SumR).closed = true then _ else _
    rw [if_neg (by simp)]
    rfl
  | e :: L, M, n, o => by
    rw [List.cons_append, sum_cons, sum_cons]
    by_cases hq : quitE e
    · simp only [if_pos hq, if_true]
    · simp only [if_neg hq]
      by_cases hc : callsE e = []
      · simp only [if_pos hc]
        exact sum_append L M n _
      · simp only [if_neg hc]
        rw [sum_append L M]
        generalize sumM f L (n + (callsE e).length) (o ++ tellsM e.cmd f n (callsE e).length) = r
        obtain ⟨rc, ro, rl⟩ := r
        unfold SumR.behind
        dsimp only
        cases rl
        · simp only [Bool.false_eq_true, if_false, List.length_append, List.append_assoc, Nat.add_assoc]
        · rfl
theorem GoodM.form {m : ConnM} (h : GoodM m) : m.calls = [] ∧ m.wait = [] ∨ ∃ c cs e es, m.calls = c :: cs ∧ m.wait = e :: es ∧ m.closed = false := by
  by_cases hc : m.calls = []
  · exact .inl ⟨hc, h.idle hc⟩
  · obtain ⟨e, es, h1, h2, h3⟩ := h.turn hc
    obtain ⟨c, cs, h4⟩ := List.exists_cons_of_ne_nil hc
    refine .inr ⟨c, cs, e, es, h4, h1, ?_⟩
    cases hcl : m.closed
    · rfl
    · exact absurd (h.closed hcl).2 hc
/-- An answer. -/
theorem done_rest {m : ConnM} (h : GoodM m) (n : Nat) {c : Cmd} {cs : List Cmd} (hc : m.calls = c :: cs) : restM f m n = (restM f (doneM m (f n)) (n + 1)).behind [c] := by
  obtain ⟨e, es, h1, -, -⟩ := h.turn (by rw [hc]; simp)
  have hcl : m.closed = false := by
    rcases h.form with ⟨h2, -⟩ | ⟨_, _, _, _, _, _, h2⟩
    · rw [hc] at h2; cases h2
    · exact h2
  unfold restM doneM
  rw [h1]
  dsimp only
  rw [hc, List.tail_cons]
  by_cases hcs : cs = []
  · subst hcs
    rw [if_pos rfl]
    show (sumM f es (n + 1) (m.out ++ (tellM e.cmd (f n) (0 == 0) ++ []))).behind [c] = _
    unfold onM
    rw [if_pos rfl]
    dsimp only
    rw [hcl, turns_sum, List.append_nil]
    rfl
  · rw [if_neg hcs]
    dsimp only
    unfold leftR
    dsimp only
    have hk : (cs.length == 0) = false := by
      rw [beq_eq_false_iff_ne]
      exact fun e => hcs (List.eq_nil_of_length_eq_zero e)
    rw [List.length_cons]
    rw [tells_succ, hk]
    unfold SumR.behind
    simp only [List.append_assoc, List.cons_append, List.nil_append, Nat.add_assoc, Nat.add_comm 1]
/-- Bytes. -/
theorem in_rest {m : ConnM} (h : GoodM m) (b : List UInt8) (n : Nat) : restM f (inM m b) n = if (restM f m n).closed then restM f m n else (sumM f (runF m.feed b).2 (n + (restM f m n).calls.length) (restM f m n).out).behind (restM f m n).calls := by
  unfold inM
  cases hcl : m.closed
  · rw [if_neg (by simp)]
    rcases h.form with ⟨h1, h2⟩ | ⟨c, cs, e, es, h1, h2, -⟩
    · have hr : restM f m n = ⟨[], m.out, false⟩ := by unfold restM; rw [h2, hcl]; rfl
      rw [hr, if_neg (by simp)]
      unfold onM restM
      rw [if_pos (by exact h1)]
      dsimp only
      rw [h2, List.nil_append, turns_sum]
      rfl
    · have hr : restM f m n = (sumM f es (n + m.calls.length) (m.out ++ tellsM e.cmd f n m.calls.length)).behind m.calls := by unfold restM; rw [h2]; rfl
      have hr2 : restM f (onM ⟨(runF m.feed b).1, m.wait ++ (runF m.feed b).2, m.calls, m.under, m.out, false⟩) n = (sumM f (es ++ (runF m.feed b).2) (n + m.calls.length) (m.out ++ tellsM e.cmd f n m.calls.length)).behind m.calls := by
        unfold onM
        rw [if_neg (by show m.calls ≠ []; rw [h1]; simp)]
        unfold restM
        dsimp only
        rw [h2]
        rfl
      rw [hr2, hr, sum_append]
      unfold SumR.behind
      dsimp only
      split
      · rfl
      · simp only [List.length_append, List.append_assoc, Nat.add_assoc]
  · rw [if_pos rfl]
    have : (restM f m n).closed = true := by
      unfold restM
      rw [(h.closed hcl).1, hcl]
      rfl
    rw [if_pos this]
theorem idle_rest {m : ConnM} (h : GoodM m) (hc : m.calls = []) (n : Nat) : restM f m n = ⟨[], m.out, m.closed⟩ := by
  unfold restM
  rw [h.idle hc]
  rfl
end
/-! ### How much there may be -/
theorem calls_data (c : Cmd) (d d' : List UInt8) : (callsE ⟨c, d, 0⟩).length = (callsE ⟨c, d', 0⟩).length := by
  unfold callsE
  split
  · rfl
  · split <;> rfl
theorem calls_told {t : Nat} (h : t ≠ 0) : callsL [toldE t] = [] := by
  show callsE (toldE t) ++ [] = []
  unfold callsE
  rw [if_pos (.inl h)]
  rfl
theorem keys_le (s : List UInt8) : (parseL s).1.keys.length ≤ s.length := by
  by_cases hv : (parseL s).1.verb = 0
  · rw [(told_none hv).1]
    exact Nat.zero_le _
  · have hB := line_back (s := s) (c := (parseL s).1) (t := (parseL s).2) rfl hv
    have h1 := hB.len
    have h3 := keys_le_flat (parseL s).1.keys
    have h4 := lineS_is (parseL s).1 _ rfl
    have h5 : (flatW (parseL s).1.keys).length ≤ (lineS (parseL s).1).length := by rw [h4]; simp only [List.length_append]; omega
    omega
theorem calls_le (s d : List UInt8) : (callsE ⟨(parseL s).1, d, 0⟩).length ≤ s.length + 1 := by
  unfold callsE
  split
  · simp
  · split
    · rw [List.length_map]
      have := keys_le s
      show (parseL s).1.keys.length ≤ _
      omega
    · simp
def potF (st : FSt) : Nat := if st.way = 0 then st.held.length else if st.way = 1 ∨ st.way = 2 ∨ st.way = 3 then (callsE ⟨st.cmd, [], 0⟩).length else 0
theorem trimCr_le (l : List UInt8) : (trimCr l).length ≤ l.length := by
  unfold trimCr
  split
  · rw [List.length_dropLast]; omega
  · exact Nat.le_refl _
theorem line_pot (st : FSt) (s : List UInt8) : (callsL (lineF st s).2).length + potF (lineF st s).1 ≤ s.length + 1 := by
  have hcl := calls_le s []
  unfold lineF
  rcases hp : parseL s with ⟨d, t⟩
  rw [hp] at hcl
  simp only at hcl ⊢
  by_cases h5 : t = 5
  · rw [if_pos h5]
    show (callsL [toldE 5]).length + 0 ≤ _
    rw [calls_told (by omega)]
    simp
  · rw [if_neg h5]
    by_cases h0 : t = 0
    · rw [if_pos h0]
      split
      · show 0 + potF (fullF _) ≤ _
        unfold fullF
        split
        · show 0 + (callsE ⟨d, [], 0⟩).length ≤ _
          omega
        · show 0 + (callsE ⟨d, [], 0⟩).length ≤ _
          omega
      · show (callsE ⟨d, [], 0⟩ ++ []).length + 0 ≤ _
        rw [List.append_nil]
        omega
    · rw [if_neg h0]
      show (callsL [toldE t]).length + 0 ≤ _
      rw [calls_told h0]
      simp
theorem chunk_pot (st : FSt) (c : UInt8) : (callsL (chunkF st c).2).length + potF (chunkF st c).1 = 0 := by
  unfold chunkF
  show (callsL [toldE 6]).length + _ = 0
  rw [calls_told (by omega)]
  show 0 + potF (if c = 10 then beginF st 0 else beginF st 4) = 0
  split <;> rfl
theorem step_pot (st : FSt) (c : UInt8) : (callsL (stepF st c).2).length + potF (stepF st c).1 ≤ potF st + 1 := by
  unfold stepF
  by_cases w0 : st.way = 0
  · rw [if_pos w0]
    have hp : potF st = st.held.length := by unfold potF; rw [if_pos w0]
    unfold gatherF
    split
    · have h1 := line_pot st (trimCr st.held)
      have h2 := trimCr_le st.held
      omega
    · split
      · show (callsL [toldE 3]).length + 0 ≤ _
        rw [calls_told (by omega)]
        simp
      · show 0 + potF { st with held := st.held ++ [c] } ≤ _
        unfold potF
        rw [if_pos (by exact w0), if_pos (by exact w0), List.length_append]
        simp
  rw [if_neg w0]
  have hz : 0 ≤ potF st := Nat.zero_le _
  by_cases w1 : st.way = 1
  · rw [if_pos w1]
    have hp : potF st = (callsE ⟨st.cmd, [], 0⟩).length := by unfold potF; rw [if_neg w0, if_pos (.inl w1)]
    unfold fullF
    show 0 + potF (if st.cmd.bytes ≤ ((st.held ++ [c]).length : Int) then _ else _) ≤ _
    split
    · show 0 + (callsE ⟨st.cmd, [], 0⟩).length ≤ _
      omega
    · have : potF { st with held := st.held ++ [c] } = (callsE ⟨st.cmd, [], 0⟩).length := by unfold potF; rw [if_neg (by exact w0), if_pos (.inl w1)]
      omega
  rw [if_neg w1]
  by_cases w2 : st.way = 2
  · rw [if_pos w2]
    have hp : potF st = (callsE ⟨st.cmd, [], 0⟩).length := by unfold potF; rw [if_neg w0, if_pos (.inr (.inl w2))]
    split
    · show 0 + (callsE ⟨st.cmd, [], 0⟩).length ≤ _
      omega
    · have := chunk_pot st c
      omega
  rw [if_neg w2]
  by_cases w3 : st.way = 3
  · rw [if_pos w3]
    have hp : potF st = (callsE ⟨st.cmd, [], 0⟩).length := by unfold potF; rw [if_neg w0, if_pos (.inr (.inr w3))]
    split
    · show (callsE ⟨st.cmd, st.held, 0⟩ ++ []).length + 0 ≤ _
      rw [List.append_nil, calls_data _ _ []]
      omega
    · have := chunk_pot st c
      omega
  rw [if_neg w3]
  have hp : potF st = 0 := by unfold potF; rw [if_neg w0, if_neg (by omega)]
  split
  · split
    · show 0 + 0 ≤ _
      omega
    · show 0 + potF st ≤ _
      omega
  · split
    · show 0 + 0 ≤ _
      omega
    · have : potF { st with many := st.many - 1 } = 0 := by unfold potF; rw [if_neg (by exact w0), if_neg (by exact fun h => by have h : st.way = 1 ∨ st.way = 2 ∨ st.way = 3 := h; omega)]
      show 0 + potF { st with many := st.many - 1 } ≤ _
      omega
theorem run_pot : ∀ (bl : List UInt8) (st : FSt), (callsL (runF st bl).2).length + potF (runF st bl).1 ≤ potF st + bl.length
  | [], st => by show 0 + potF st ≤ _; simp
  | c :: bl, st => by
    have h1 := step_pot st c
    have h2 := run_pot bl (stepF st c).1
    rw [runF_cons, callsL_append, List.length_append, List.length_cons]
    dsimp only
    omega
/-- No more calls than bytes. -/
theorem run_calls (bl : List UInt8) : (callsL (runF fNew bl).2).length ≤ bl.length := by
  have h := run_pot bl fNew
  have h0 : potF fNew = 0 := rfl
  omega
theorem sum_calls {f : Nat → AnsD} : ∀ (L : List Ev) (n : Nat) (o : List UInt8), (sumM f L n o).calls.length ≤ (callsL L).length
  | [], n, o => Nat.le_refl _
  | e :: es, n, o => by
    show _ ≤ (callsE e ++ callsL es).length
    rw [List.length_append]
    unfold sumM
    split
    · simp
    · split
      · have := sum_calls (f := f) es n (quietE e o)
        omega
      · have := sum_calls (f := f) es (n + (callsE e).length) (o ++ tellsM e.cmd f n (callsE e).length)
        unfold SumR.behind
        rw [List.length_append]
        omega
theorem quiet_prefix (e : Ev) (o : List UInt8) : ∃ t, quietE e o = o ++ t ∧ t.length ≤ 200 := by
  unfold quietE
  split
  · refine ⟨_, rfl, ?_⟩
    exact tOf_short _
  · split
    · exact ⟨_, rfl, by decide⟩
    · exact ⟨[], by simp, by simp⟩
where tOf_short : ∀ k : Nat, (tOf k).length ≤ 200
  | 0 | 1 | 2 | 3 | 4 | 5 | 6 | 7 | 8 | 9 | 10 | 11 | 12 => by decide
  | n + 13 => by
    unfold tOf
    have h2 : toldL.length ≤ 13 := by decide
    have : toldL.getD (n + 13) [] = [] := by
      rw [List.getD_eq_getElem?_getD, List.getElem?_eq_none (by omega)]; rfl
    rw [this]
    decide
theorem tells_len {f : Nat → AnsD} {K : Nat} (c : Cmd) (hK : ∀ n last, (tellM c (f n) last).length ≤ K) : ∀ k n, (tellsM c f n k).length ≤ K * k
  | 0, n => Nat.zero_le _
  | k + 1, n => by
    have h1 := hK n (k == 0)
    have h2 := tells_len c hK k (n + 1)
    show (tellM c (f n) (k == 0) ++ tellsM c f (n + 1) k).length ≤ _
    rw [List.length_append, Nat.mul_succ]
    omega
/-- What was told stays, and is not too much. -/
theorem sum_out {f : Nat → AnsD} {K : Nat} (hK : ∀ c n last, (tellM c (f n) last).length ≤ K) : ∀ (L : List Ev) (n : Nat) (o : List UInt8), ∃ t, (sumM f L n o).out = o ++ t ∧ t.length ≤ 200 * L.length + K * (callsL L).length
  | [], n, o => ⟨[], by rw [List.append_nil]; rfl, by simp⟩
  | e :: es, n, o => by
    have hcl : (callsL (e :: es)).length = (callsE e).length + (callsL es).length := by
      show (callsE e ++ callsL es).length = _
      rw [List.length_append]
    have hmul : K * ((callsE e).length + (callsL es).length) = K * (callsE e).length + K * (callsL es).length := Nat.mul_add _ _ _
    rw [hcl, List.length_cons, hmul, sum_cons]
    split
    · exact ⟨[], by simp, by simp⟩
    · split
      · obtain ⟨t1, h1, h2⟩ := quiet_prefix e o
        obtain ⟨t2, h3, h4⟩ := sum_out hK es n (quietE e o)
        refine ⟨t1 ++ t2, by rw [h3, h1, List.append_assoc], ?_⟩
        rw [List.length_append]
        omega
      · obtain ⟨t2, h3, h4⟩ := sum_out hK es (n + (callsE e).length) (o ++ tellsM e.cmd f n (callsE e).length)
        have h5 := tells_len e.cmd (hK e.cmd) (callsE e).length n
        refine ⟨tellsM e.cmd f n (callsE e).length ++ t2, by rw [← List.append_assoc]; exact h3, ?_⟩
        rw [List.length_append]
        omega
theorem rest_out {f : Nat → AnsD} {K : Nat} (hK : ∀ c n last, (tellM c (f n) last).length ≤ K) (m : ConnM) (n : Nat) : ∃ t, (restM f m n).out = m.out ++ t := by
  unfold restM leftR
  split
  · exact ⟨[], by simp⟩
  · rename_i e es _
    obtain ⟨t2, h3, _⟩ := sum_out hK es (n + m.calls.length) (m.out ++ tellsM e.cmd f n m.calls.length)
    exact ⟨tellsM e.cmd f n m.calls.length ++ t2, by rw [← List.append_assoc]; exact h3⟩
theorem told_leC (s : List UInt8) : (parseL s).2 ≤ 5 := by
  by_cases hlen : 2048 < s.length
  · unfold parseL
    rw [if_pos hlen]; decide
  cases hw : words s with
  | nil => unfold parseL; rw [if_neg hlen, hw]; decide
  | cons name l =>
    rw [parseL_some hlen hw]
    split
    · decide
    · rcases parseW_is (verbOf name) (isQuiet (verbOf name) l) (tailOf (verbOf name) l) with ⟨_, h2⟩ | ⟨_, _, ht⟩
      · omega
      · rw [ht]; split <;> decide
/-- An event that tells something has no command. -/
def BareC (l : List Ev) : Prop := ∀ e ∈ l, e.told ≤ 6 ∧ (e.told = 0 ∨ e = toldE e.told)
theorem bareC_nil : BareC [] := fun e h => by cases h
theorem bareC_told (t : Nat) (ht : t ≤ 6) : BareC [toldE t] := fun e h => by
  obtain rfl : e = toldE t := by simpa using h
  exact ⟨ht, .inr rfl⟩
theorem bareC_cmd (c : Cmd) (d : List UInt8) : BareC [⟨c, d, 0⟩] := fun e h => by
  obtain rfl : e = ⟨c, d, 0⟩ := by simpa using h
  exact ⟨by show 0 ≤ 6; omega, .inl rfl⟩
theorem lineC_none (st : FSt) (s : List UInt8) : BareC (lineF st s).2 := by
  unfold lineF
  dsimp only
  split
  · exact bareC_told 5 (by omega)
  · split
    · split
      · exact bareC_nil
      · exact bareC_cmd _ _
    · exact bareC_told _ (Nat.le_succ_of_le (told_leC _))
theorem stepC_none (st : FSt) (c : UInt8) : BareC (stepF st c).2 := by
  unfold stepF
  split
  · unfold gatherF
    split
    · exact lineC_none _ _
    · split
      · exact bareC_told 3 (by omega)
      · exact bareC_nil
  · split
    · exact bareC_nil
    · split
      · split
        · exact bareC_nil
        · exact bareC_told 6 (by omega)
      · split
        · split
          · exact bareC_cmd _ _
          · exact bareC_told 6 (by omega)
        · split
          · exact bareC_nil
          · exact bareC_nil
theorem runC_none : ∀ (bl : List UInt8) (st : FSt), ∀ e ∈ (runF st bl).2, e.told ≤ 6 ∧ (e.told = 0 ∨ e = toldE e.told)
  | [], _, e, he => by cases he
  | c :: bl, st, e, he => by
    rw [runF_cons] at he
    rcases List.mem_append.1 he with h | h
    · exact stepC_none st c e h
    · exact runC_none bl _ e h
/-- What holds of an event that a feed tells. -/
structure EvC (e : Ev) : Prop where
  ok : EvOk e
  told : e.told ≤ 6
theorem run_okC {bl : List UInt8} {st : FSt} (h : GoodC st) : GoodC (runF st bl).1 ∧ ∀ e ∈ (runF st bl).2, EvC e := by
  obtain ⟨h1, h2⟩ := run_ok bl h
  exact ⟨h1, fun e he => ⟨h2 e he, (runC_none bl st e he).1⟩⟩
/-! ### A connection's run -/
/-- When c of all bytes have come, and the calls C are answered. -/
structure RunI (f : Nat → AnsD) (bl : List UInt8) (c : Nat) (m : ConnM) (C : List Cmd) : Prop where
  good : GoodM m
  feed : m.closed = false → m.feed = (runF fNew (bl.take c)).1
  sum : sumM f (runF fNew (bl.take c)).2 0 [] = (restM f m C.length).behind C
  gf : GoodF m.feed
  gc : GoodC m.feed
  held : m.feed.held.length ≤ c
  wok : ∀ e ∈ m.wait, EvC e
  wlen : m.wait.length ≤ c
theorem turns_wait : ∀ (L : List Ev) (o : List UInt8) (cl : Bool), (∀ e ∈ (turnsM L o cl).wait, e ∈ L) ∧ (turnsM L o cl).wait.length ≤ L.length
  | [], o, cl => ⟨fun _ h => h, Nat.le_refl _⟩
  | e :: es, o, cl => by
    unfold turnsM
    split
    · exact ⟨fun _ h => (nomatch h), Nat.zero_le _⟩
    · split
      · obtain ⟨h1, h2⟩ := turns_wait es (quietE e o) cl
        exact ⟨fun x hx => List.mem_cons_of_mem _ (h1 x hx), by rw [List.length_cons]; omega⟩
      · exact ⟨fun _ h => h, Nat.le_refl _⟩
theorem on_wait (m : ConnM) : (∀ e ∈ (onM m).wait, e ∈ m.wait) ∧ (onM m).wait.length ≤ m.wait.length ∧ (onM m).feed = m.feed ∧ (onM m).under = m.under := by
  unfold onM
  split
  · obtain ⟨h1, h2⟩ := turns_wait m.wait m.out m.closed
    exact ⟨h1, h2, rfl, rfl⟩
  · exact ⟨fun _ h => h, Nat.le_refl _, rfl, rfl⟩
theorem RunI.in {f : Nat → AnsD} {bl : List UInt8} {c : Nat} {m : ConnM} {C : List Cmd} (h : RunI f bl c m C) {k : Nat} (hk : c + k ≤ bl.length) : RunI f bl (c + k) (inM m ((bl.drop c).take k)) C := by
  have hl : ((bl.drop c).take k).length = k := by rw [List.length_take, List.length_drop]; omega
  have hrun : runF fNew (bl.take (c + k)) = ((runF (runF fNew (bl.take c)).1 ((bl.drop c).take k)).1, (runF fNew (bl.take c)).2 ++ (runF (runF fNew (bl.take c)).1 ((bl.drop c).take k)).2) := by rw [← runF_append, List.take_add]
  have hg := in_good h.good ((bl.drop c).take k)
  have hr := in_rest (f := f) h.good ((bl.drop c).take k) C.length
  have hs := h.sum
  cases hcl : m.closed
  · have hf := h.feed hcl
    have hin : inM m ((bl.drop c).take k) = onM { m with feed := (runF m.feed ((bl.drop c).take k)).1, wait := m.wait ++ (runF m.feed ((bl.drop c).take k)).2 } := by unfold inM; rw [hcl, if_neg (by simp)]
    obtain ⟨o1, o2, o3, o4⟩ := on_wait { m with feed := (runF m.feed ((bl.drop c).take k)).1, wait := m.wait ++ (runF m.feed ((bl.drop c).take k)).2 }
    obtain ⟨r1, r2⟩ := run_okC (bl := (bl.drop c).take k) h.gc
    refine ⟨hg, fun _ => ?_, ?_, ?_, ?_, ?_, fun e he => ?_, ?_⟩
    · rw [hin, o3, hrun]
      show (runF m.feed _).1 = _
      rw [hf]
    · rw [hrun]
      dsimp only
      rw [sum_append, hs, hr, ← hf]
      unfold SumR.behind
      dsimp only
      split
      · rfl
      · simp only [List.length_append, List.append_assoc, Nat.zero_add]
    · rw [hin, o3]
      exact goodF_run _ _ h.gf
    · rw [hin, o3]
      exact r1
    · rw [hin, o3]
      have h1 := heldF_run ((bl.drop c).take k) m.feed
      have h2 := h.held
      show (runF m.feed ((bl.drop c).take k)).1.held.length ≤ _
      omega
    · rw [hin] at he
      rcases List.mem_append.1 (o1 e he) with he | he
      · exact h.wok e he
      · exact r2 e he
    · rw [hin]
      have h1 := run_few ((bl.drop c).take k) m.feed
      have h2 := h.wlen
      refine Nat.le_trans o2 ?_
      rw [List.length_append]
      show m.wait.length + (runF m.feed ((bl.drop c).take k)).2.length ≤ _
      omega
  · have hin : inM m ((bl.drop c).take k) = m := by unfold inM; rw [hcl, if_pos rfl]
    have hw := (h.good.closed hcl)
    have hrest : restM f m C.length = ⟨[], m.out, true⟩ := by rw [idle_rest h.good hw.2, hcl]
    rw [hin]
    refine ⟨h.good, (fun e => by rw [hcl] at e; cases e), ?_, h.gf, h.gc, Nat.le_trans h.held (by omega), h.wok, Nat.le_trans h.wlen (by omega)⟩
    rw [hrun]
    dsimp only
    rw [sum_append, hs, hrest]
    unfold SumR.behind
    dsimp only
    rw [if_pos rfl]
theorem RunI.took {f : Nat → AnsD} {bl : List UInt8} {c : Nat} {m : ConnM} {C : List Cmd} (h : RunI f bl c m C) : RunI f bl c (tookM m) C := by
  have hg := took_good h.good
  unfold tookM at hg ⊢
  split
  · exact h
  · rename_i hc
    rw [if_neg hc] at hg
    exact ⟨hg, h.feed, h.sum, h.gf, h.gc, h.held, h.wok, h.wlen⟩
theorem done_wait (m : ConnM) (a : AnsD) : (∀ e ∈ (doneM m a).wait, e ∈ m.wait) ∧ (doneM m a).wait.length ≤ m.wait.length ∧ (doneM m a).feed = m.feed := by
  unfold doneM
  split
  · rename_i h; rw [h]; exact ⟨fun _ h => h, Nat.le_refl _, rfl⟩
  · rename_i e es h
    rw [h]
    split
    · obtain ⟨h1, h2, h3, h4⟩ := on_wait { m with wait := es, calls := [], under := false, out := m.out ++ tellM e.cmd a true }
      exact ⟨fun x hx => List.mem_cons_of_mem _ (h1 x hx), by rw [List.length_cons]; exact Nat.le_trans h2 (Nat.le_succ _), h3⟩
    · exact ⟨fun x hx => hx, Nat.le_refl _, rfl⟩
theorem RunI.done {f : Nat → AnsD} {bl : List UInt8} {c : Nat} {m : ConnM} {C : List Cmd} (h : RunI f bl c m C) {x : Cmd} {cs : List Cmd} (hx : m.calls = x :: cs) : RunI f bl c (doneM m (f C.length)) (C ++ [x]) := by
  obtain ⟨d1, d2, d3⟩ := done_wait m (f C.length)
  have hg := done_good h.good (f C.length) (by rw [hx]; simp)
  have hcl : m.closed = false := by
    rcases h.good.form with ⟨h2, -⟩ | ⟨_, _, _, _, _, _, h2⟩
    · rw [hx] at h2; cases h2
    · exact h2
  refine ⟨hg, fun _ => by rw [d3]; exact h.feed hcl, ?_, by rw [d3]; exact h.gf, by rw [d3]; exact h.gc, by rw [d3]; exact h.held, fun e he => h.wok e (d1 e he), Nat.le_trans d2 h.wlen⟩
  rw [h.sum, done_rest h.good C.length hx, List.length_append]
  unfold SumR.behind
  simp only [List.append_assoc, List.length_cons, List.length_nil]
/-- The bounds. -/
theorem RunI.small {f : Nat → AnsD} {bl : List UInt8} {c : Nat} {m : ConnM} {C : List Cmd} (h : RunI f bl c m C) {K : Nat} (hK : ∀ c n last, (tellM c (f n) last).length ≤ K) (hc : c ≤ bl.length) :
    C.length + (restM f m C.length).calls.length ≤ bl.length ∧ m.calls.length ≤ (restM f m C.length).calls.length ∧ m.out.length ≤ 200 * bl.length + K * bl.length := by
  have hlt : (bl.take c).length ≤ bl.length := by rw [List.length_take]; omega
  have hp : (sumM f (runF fNew (bl.take c)).2 0 []).calls.length ≤ bl.length := Nat.le_trans (sum_calls _ _ _) (Nat.le_trans (run_calls _) hlt)
  obtain ⟨t, ht1, ht2⟩ := sum_out hK (runF fNew (bl.take c)).2 0 []
  have h1 : (runF fNew (bl.take c)).2.length ≤ bl.length := Nat.le_trans (run_few _ _) hlt
  have h2 : (callsL (runF fNew (bl.take c)).2).length ≤ bl.length := Nat.le_trans (run_calls _) hlt
  have h3 : K * (callsL (runF fNew (bl.take c)).2).length ≤ K * bl.length := Nat.mul_le_mul_left _ h2
  obtain ⟨t2, ht3⟩ := rest_out hK m C.length
  have hs := h.sum
  rw [hs] at hp ht1
  have hp : (C ++ (restM f m C.length).calls).length ≤ bl.length := hp
  have ht1 : (restM f m C.length).out = [] ++ t := ht1
  rw [List.length_append] at hp
  have h4 : m.out.length ≤ t.length := by
    have := congrArg List.length ht3
    rw [ht1, List.length_append, List.length_append] at this
    simp at this
    omega
  refine ⟨hp, ?_, by omega⟩
  rcases h.good.form with ⟨g1, g2⟩ | ⟨x, xs, e, es, g1, g2, g3⟩
  · rw [g1]; exact Nat.zero_le _
  · unfold restM
    rw [g2]
    show _ ≤ (m.calls ++ _).length
    rw [List.length_append]
    omega
/-- All is answered. -/
theorem RunI.fin {f : Nat → AnsD} {bl : List UInt8} {c : Nat} {m : ConnM} {C : List Cmd} (h : RunI f bl c m C) (hc : bl.length ≤ c) (hm : m.calls = []) : sumM f (runF fNew bl).2 0 [] = ⟨C, m.out, m.closed⟩ := by
  have hs := h.sum
  rw [List.take_of_length_le hc, idle_rest h.good hm] at hs
  rw [hs]
  unfold SumR.behind
  simp
end Go.Proofs.YtddifbimlmkcbaaGreatDoor
