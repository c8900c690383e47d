/- Plain: what is told, event by event, beside what a run of a connection leaves (chapter 32's ConnsOrder). No program in sight. -/
import Derived.Test.YtddifbimlmkcbaaGreatDoorConnRunW
namespace Go.Proofs.YtddifbimlmkcbaaGreatDoor
/-- The values of answers to j calls, from the n-th on. -/
def valsM (c : Cmd) (f : Nat → AnsD) (n : Nat) : Nat → List UInt8
  | 0 => []
  | j + 1 => valsM c f n j ++ valueOf c.verb (f (n + j)).kind (f (n + j)).item
theorem vals_front (c : Cmd) (f : Nat → AnsD) : ∀ (j n : Nat), valsM c f n (j + 1) = valueOf c.verb (f n).kind (f n).item ++ valsM c f (n + 1) j
  | 0, n => by simp [valsM]
  | j + 1, n => by
    show valsM c f n (j + 1) ++ _ = _ ++ (valsM c f (n + 1) j ++ _)
    rw [vals_front c f j n, List.append_assoc, show n + 1 + j = n + (j + 1) from by omega]
theorem tells_gets {c : Cmd} (h : c.verb = 1 ∨ c.verb = 2) (f : Nat → AnsD) : ∀ (k n : Nat), tellsM c f n (k + 1) = valsM c f n (k + 1) ++ endL
  | 0, n => by
    show tellM c (f n) (0 == 0) ++ [] = _
    unfold tellM
    rw [if_pos h, List.append_nil]
    simp [valsM]
  | k + 1, n => by
    rw [tells_succ, tells_gets h f k (n + 1), vals_front c f (k + 1) n, List.append_assoc]
    congr 1
    unfold tellM
    rw [if_pos h]
    simp
/-- Where the law stands behind i events: n calls, o was told, is it closed?; in the end there are C, out, closed. -/
def OrderI (f : Nat → AnsD) (E : List Ev) (C : List Cmd) (out : List UInt8) (closed : Bool) (i n : Nat) (o : List UInt8) (cl : Bool) : Prop :=
  if cl then n = C.length ∧ o = out ∧ closed = true else ∃ D, D.length = n ∧ (sumM f (E.drop i) n o).behind D = ⟨C, out, closed⟩
section
variable {f : Nat → AnsD} {E : List Ev} {C : List Cmd} {out : List UInt8} {closed : Bool} {i n : Nat} {o : List UInt8}
theorem order_start (h : sumM f E 0 [] = ⟨C, out, closed⟩) : OrderI f E C out closed 0 0 [] false := by
  unfold OrderI
  rw [if_neg (by simp)]
  exact ⟨[], rfl, by rw [List.drop_zero, h]; rfl⟩
theorem OrderI.sum (h : OrderI f E C out closed i n o false) : ∃ D, D.length = n ∧ (sumM f (E.drop i) n o).behind D = ⟨C, out, closed⟩ := by
  unfold OrderI at h
  rwa [if_neg (by simp)] at h
theorem OrderI.mk {j n' : Nat} {o' : List UInt8} {D : List Cmd} (hD : D.length = n') (h : (sumM f (E.drop j) n' o').behind D = ⟨C, out, closed⟩) : OrderI f E C out closed j n' o' false := by
  unfold OrderI
  rw [if_neg (by simp)]
  exact ⟨D, hD, h⟩
theorem drop_cons {e : Ev} (h : E[i]? = some e) : E.drop i = e :: E.drop (i + 1) := by
  obtain ⟨hi, he⟩ := List.getElem?_eq_some_iff.1 h
  rw [List.drop_eq_getElem_cons hi, he]
/-- An event without calls, no quit. -/
theorem OrderI.quiet (h : OrderI f E C out closed i n o false) {e : Ev} (he : E[i]? = some e) (hq : ¬ quitE e) (hc : callsE e = []) : OrderI f E C out closed (i + 1) n (quietE e o) false := by
  obtain ⟨D, h1, h2⟩ := h.sum
  rw [drop_cons he, sum_cons, if_neg hq, if_pos hc] at h2
  exact OrderI.mk h1 h2
theorem OrderI.quit (h : OrderI f E C out closed i n o false) {e : Ev} (he : E[i]? = some e) (hq : quitE e) : OrderI f E C out closed (i + 1) n o true := by
  obtain ⟨D, h1, h2⟩ := h.sum
  rw [drop_cons he, sum_cons, if_pos hq] at h2
  unfold OrderI
  rw [if_pos rfl]
  have h3 := congrArg SumR.calls h2
  have h4 := congrArg SumR.out h2
  have h5 := congrArg SumR.closed h2
  simp only [SumR.behind, List.append_nil] at h3 h4 h5
  exact ⟨by rw [← h1, h3], h4, h5.symm⟩
/-- An event with calls: they are the next ones. -/
theorem OrderI.calls (h : OrderI f E C out closed i n o false) {e : Ev} (he : E[i]? = some e) (hq : ¬ quitE e) (hc : callsE e ≠ []) :
    (∀ j c, (callsE e)[j]? = some c → C[n + j]? = some c) ∧ OrderI f E C out closed (i + 1) (n + (callsE e).length) (o ++ tellsM e.cmd f n (callsE e).length) false := by
  obtain ⟨D, h1, h2⟩ := h.sum
  rw [drop_cons he, sum_cons, if_neg hq, if_neg hc] at h2
  refine ⟨fun j c hj => ?_, OrderI.mk (D := D ++ callsE e) (by rw [List.length_append, h1]) ?_⟩
  · have h3 := congrArg SumR.calls h2
    simp only [SumR.behind] at h3
    rw [← h3, List.getElem?_append_right (by omega), h1, Nat.add_sub_cancel_left, List.getElem?_append_left (List.getElem?_eq_some_iff.1 hj).1]
    exact hj
  · rw [← h2]
    unfold SumR.behind
    simp only [List.append_assoc]
theorem OrderI.fin (h : OrderI f E C out closed i n o false) (hi : E.length ≤ i) : n = C.length ∧ o = out ∧ closed = false := by
  obtain ⟨D, h1, h2⟩ := h.sum
  rw [List.drop_of_length_le hi, sum_nil] at h2
  have h3 := congrArg SumR.calls h2
  have h4 := congrArg SumR.out h2
  have h5 := congrArg SumR.closed h2
  simp only [SumR.behind, List.append_nil] at h3 h4 h5
  exact ⟨by rw [← h1, h3], h4, h5.symm⟩
theorem OrderI.done (h : OrderI f E C out closed i n o true) : n = C.length ∧ o = out ∧ closed = true := by
  unfold OrderI at h
  rwa [if_pos rfl] at h
theorem OrderI.small (h : OrderI f E C out closed i n o false) {K : Nat} (hK : ∀ c n last, (tellM c (f n) last).length ≤ K) : n ≤ C.length ∧ ∃ t, out = o ++ t := by
  obtain ⟨D, h1, h2⟩ := h.sum
  have h3 := congrArg SumR.calls h2
  have h4 := congrArg SumR.out h2
  simp only [SumR.behind] at h3 h4
  obtain ⟨t, h5, -⟩ := sum_out hK (E.drop i) n o
  exact ⟨by rw [← h3, List.length_append]; omega, t, by rw [← h4, h5]⟩
end
/-- Where the values of an event's calls stand behind j of them. -/
structure ValsJ (c : Cmd) (f : Nat → AnsD) (n j N : Nat) (o V : List UInt8) : Prop where
  num : N = n + j
  all : V = o ++ valsM c f n j
theorem ValsJ.start (c : Cmd) (f : Nat → AnsD) (n : Nat) (o : List UInt8) : ValsJ c f n 0 n o o := ⟨rfl, by simp [valsM]⟩
theorem ValsJ.step {c : Cmd} {f : Nat → AnsD} {n j N : Nat} {o V : List UInt8} (h : ValsJ c f n j N o V) : ValsJ c f n (j + 1) (N + 1) o (V ++ valueOf c.verb (f (n + j)).kind (f (n + j)).item) :=
  ⟨by rw [h.num]; omega, by rw [h.all, List.append_assoc]; rfl⟩
theorem vals_len (c : Cmd) {f : Nat → AnsD} (h1 : ∀ k, (f k).item.Ok) (h2 : ∀ k, (f k).item.key.size + (f k).item.value.size ≤ 1048576) (n : Nat) : ∀ j, (valsM c f n j).length ≤ j * 2200000
  | 0 => by simp [valsM]
  | j + 1 => by
    have h := vals_len c h1 h2 n j
    have h3 := valueOf_len c.verb (f (n + j)).kind (f (n + j)).item (h1 _) (h2 _)
    show (valsM c f n j ++ _).length ≤ _
    rw [List.length_append]
    omega
theorem ValsJ.len {c : Cmd} {f : Nat → AnsD} {n j N : Nat} {o V : List UInt8} (h : ValsJ c f n j N o V) (h1 : ∀ k, (f k).item.Ok) (h2 : ∀ k, (f k).item.key.size + (f k).item.value.size ≤ 1048576) : V.length ≤ o.length + j * 2200000 := by
  have := vals_len c h1 h2 n j
  rw [h.all, List.length_append]
  omega
theorem ev_keys {e : Ev} (h : EvOk e) (h0 : e.told = 0) (hg : e.cmd.verb = 1 ∨ e.cmd.verb = 2) : e.cmd.keys ≠ [] := fun he => by
  obtain ⟨s, hs⟩ := h.par h0
  have := (parse_keys hs (by omega)).1.1 he
  omega
end Go.Proofs.YtddifbimlmkcbaaGreatDoor
