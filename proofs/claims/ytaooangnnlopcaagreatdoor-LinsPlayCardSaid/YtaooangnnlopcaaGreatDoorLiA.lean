/- Plain: entries of an order, a strict order of them, runs that are merged. No program in sight. Plain: histories, their order, when they are well, where they end to fit. No program in sight. Plain: the document's order, one entry put in its place after the other; when its history is well. No program in sight. -/
import Derived.Test.YtaooangnnlopcaaGreatDoorLowA
import Derived.Test.YtaooangnnlopcaaGreatDoorMapsFits
namespace Go.Proofs.YtaooangnnlopcaaGreatDoor
open Go.RowKit
/-- An entry of an order. -/
structure EntD where
  step : Int
  call : Int
  drop : Int
/-- Its place in the list at first: calls, then drops. -/
def rkE (nc : Nat) (e : EntD) : Int := if 0 ≤ e.call then e.call else (nc : Int) + e.drop
/-- By steps, then by places. -/
def lessE (nc : Nat) (e f : EntD) : Prop := e.step < f.step ∨ (e.step = f.step ∧ rkE nc e < rkE nc f)
theorem lessE_trans {nc : Nat} {a b c : EntD} (h1 : lessE nc a b) (h2 : lessE nc b c) : lessE nc a c := by
  unfold lessE at *
  omega
theorem lessE_irrefl {nc : Nat} (a : EntD) : ¬ lessE nc a a := by
  unfold lessE
  omega
theorem lessE_asymm {nc : Nat} {a b : EntD} (h : lessE nc a b) : ¬ lessE nc b a := by
  unfold lessE at *
  omega
/-- Where the one has the lower place, it is less if its step is not greater. -/
theorem lessE_low {nc : Nat} {a b : EntD} (h : rkE nc a < rkE nc b) : lessE nc a b ↔ ¬ b.step < a.step := by
  unfold lessE
  omega
theorem lessE_high {nc : Nat} {a b : EntD} (h : rkE nc a < rkE nc b) : lessE nc b a ↔ b.step < a.step := by
  unfold lessE
  omega
def SortE (nc : Nat) (l : List EntD) : Prop := l.Pairwise (lessE nc)
def AllE (nc : Nat) (l r : List EntD) : Prop := ∀ x ∈ l, ∀ y ∈ r, lessE nc x y
theorem SortE.append {nc : Nat} {l r : List EntD} (h1 : SortE nc l) (h2 : SortE nc r) (h3 : AllE nc l r) : SortE nc (l ++ r) := List.pairwise_append.2 ⟨h1, h2, h3⟩
theorem SortE.parts {nc : Nat} {l r : List EntD} (h : SortE nc (l ++ r)) : SortE nc l ∧ SortE nc r ∧ AllE nc l r := List.pairwise_append.1 h
theorem AllE.perm {nc : Nat} {l r l' r' : List EntD} (h : AllE nc l r) (h1 : l'.Perm l) (h2 : r'.Perm r) : AllE nc l' r' := fun x hx y hy => h x (h1.mem_iff.1 hx) y (h2.mem_iff.1 hy)
/-- A strictly sorted list is the only one of its elements. -/
theorem sortE_unique {nc : Nat} : ∀ {l r : List EntD}, SortE nc l → SortE nc r → l.Perm r → l = r
  | [], r, _, _, hp => (List.Perm.nil_eq hp)
  | x :: l, [], _, _, hp => absurd hp.length_eq (by simp)
  | x :: l, y :: r, h1, h2, hp => by
    have e : x = y := by
      have hx : x ∈ y :: r := hp.mem_iff.1 (.head _)
      have hy : y ∈ x :: l := hp.mem_iff.2 (.head _)
      rcases List.mem_cons.1 hx with e | hx
      · exact e
      · rcases List.mem_cons.1 hy with e | hy
        · exact e.symm
        · exact absurd ((List.pairwise_cons.1 h1).1 y hy) (lessE_asymm ((List.pairwise_cons.1 h2).1 x hx))
    subst e
    rw [sortE_unique (List.pairwise_cons.1 h1).2 (List.pairwise_cons.1 h2).2 (hp.cons_inv)]
/-- All of the one list have lower places than all of the other. -/
def LowE (nc : Nat) (l r : List EntD) : Prop := ∀ x ∈ l, ∀ y ∈ r, rkE nc x < rkE nc y
/-- The two halves that symMerge makes: of two runs cut so that the last of the first run's head comes ahead of the first of the second run's tail, and the other way round, the heads come ahead of the tails. -/
theorem halves {nc : Nat} {a1 a2 b1 b2 : List EntD} (ha : SortE nc (a1 ++ a2)) (hb : SortE nc (b1 ++ b2))
    (h1 : ∀ x y, a1.getLast? = some x → b2.head? = some y → lessE nc x y) (h2 : ∀ x y, b1.getLast? = some x → a2.head? = some y → lessE nc x y) : AllE nc (a1 ++ b1) (a2 ++ b2) := by
  obtain ⟨sa1, sa2, ha12⟩ := ha.parts
  obtain ⟨sb1, sb2, hb12⟩ := hb.parts
  have cross : ∀ {l r : List EntD}, SortE nc l → SortE nc r → (∀ x y, l.getLast? = some x → r.head? = some y → lessE nc x y) → AllE nc l r := by
    intro l r hl hr h x hx y hy
    match r, hy with
    | y0 :: r, hy =>
      obtain ⟨l0, z, rfl⟩ : ∃ l0 z, l = l0 ++ [z] := ⟨l.dropLast, l.getLast (List.ne_nil_of_mem hx), (List.dropLast_concat_getLast _).symm⟩
      have hz : lessE nc z y0 := h z y0 (by simp) rfl
      have hxz : x = z ∨ lessE nc x z := by
        rcases List.mem_append.1 hx with hx | hx
        · exact .inr ((List.pairwise_append.1 hl).2.2 x hx z (by simp))
        · exact .inl (by simpa using hx)
      have hyy : y = y0 ∨ lessE nc y0 y := by
        rcases List.mem_cons.1 hy with e | hy
        · exact .inl e
        · exact .inr ((List.pairwise_cons.1 hr).1 y hy)
      have hxy0 : lessE nc x y0 := by
        rcases hxz with rfl | e
        · exact hz
        · exact lessE_trans e hz
      rcases hyy with rfl | e
      · exact hxy0
      · exact lessE_trans hxy0 e
  intro x hx y hy
  rcases List.mem_append.1 hx with hx | hx <;> rcases List.mem_append.1 hy with hy | hy
  · exact ha12 x hx y hy
  · exact cross sa1 sb2 h1 x hx y hy
  · exact cross sb1 sa2 h2 x hx y hy
  · exact hb12 x hx y hy
end Go.Proofs.YtaooangnnlopcaaGreatDoor
namespace Go.Proofs.YtaooangnnlopcaaGreatDoor
open Go.RowKit
/-- What was dropped. -/
structure DropD where
  step : Int
  item : ItemD
def entsC (cs : List CalledD) : List EntD := cs.mapIdx (fun i c => ⟨c.point, (i : Int), -1⟩)
def entsD (ds : List DropD) : List EntD := ds.mapIdx (fun i d => ⟨d.step, -1, (i : Int)⟩)
def entsL (cs : List CalledD) (ds : List DropD) : List EntD := entsC cs ++ entsD ds
theorem entsC_len (cs : List CalledD) : (entsC cs).length = cs.length := List.length_mapIdx
theorem entsD_len (ds : List DropD) : (entsD ds).length = ds.length := List.length_mapIdx
theorem entsL_len (cs : List CalledD) (ds : List DropD) : (entsL cs ds).length = cs.length + ds.length := by
  unfold entsL
  rw [List.length_append, entsC_len, entsD_len]
theorem entsC_get {cs : List CalledD} {i : Nat} {c : CalledD} (h : cs[i]? = some c) : (entsC cs)[i]? = some ⟨c.point, (i : Int), -1⟩ := by
  unfold entsC
  rw [List.getElem?_mapIdx, h]
  rfl
theorem entsD_get {ds : List DropD} {i : Nat} {d : DropD} (h : ds[i]? = some d) : (entsD ds)[i]? = some ⟨d.step, -1, (i : Int)⟩ := by
  unfold entsD
  rw [List.getElem?_mapIdx, h]
  rfl
theorem entsC_snoc (cs : List CalledD) (c : CalledD) : entsC (cs ++ [c]) = entsC cs ++ [⟨c.point, (cs.length : Int), -1⟩] := by
  unfold entsC
  rw [List.mapIdx_append]
  simp
theorem entsD_snoc (ds : List DropD) (d : DropD) : entsD (ds ++ [d]) = entsD ds ++ [⟨d.step, -1, (ds.length : Int)⟩] := by
  unfold entsD
  rw [List.mapIdx_append]
  simp
theorem take_snoc {α : Type} {l : List α} {i : Nat} {x : α} (h : l[i]? = some x) : l.take (i + 1) = l.take i ++ [x] := by
  rw [List.take_add_one, h]
  rfl
/-- What an entry is. -/
theorem entsC_mem {cs : List CalledD} {e : EntD} (h : e ∈ entsC cs) : ∃ (i : Nat) (c : CalledD), cs[i]? = some c ∧ e = ⟨c.point, (i : Int), -1⟩ := by
  obtain ⟨i, hi, rfl⟩ := List.getElem_of_mem h
  have h2 : i < cs.length := by rw [entsC_len] at hi; exact hi
  refine ⟨i, cs[i], List.getElem?_eq_getElem h2, ?_⟩
  have h3 := entsC_get (List.getElem?_eq_getElem h2)
  rw [List.getElem?_eq_getElem hi] at h3
  exact Option.some.inj h3
theorem entsD_mem {ds : List DropD} {e : EntD} (h : e ∈ entsD ds) : ∃ (i : Nat) (d : DropD), ds[i]? = some d ∧ e = ⟨d.step, -1, (i : Int)⟩ := by
  obtain ⟨i, hi, rfl⟩ := List.getElem_of_mem h
  have h2 : i < ds.length := by rw [entsD_len] at hi; exact hi
  refine ⟨i, ds[i], List.getElem?_eq_getElem h2, ?_⟩
  have h3 := entsD_get (List.getElem?_eq_getElem h2)
  rw [List.getElem?_eq_getElem hi] at h3
  exact Option.some.inj h3
/-- An entry of a history: a call's or a drop's. -/
def EntOf (cs : List CalledD) (ds : List DropD) (e : EntD) : Prop :=
  (∃ (i : Nat) (c : CalledD), cs[i]? = some c ∧ e = ⟨c.point, (i : Int), -1⟩) ∨ (∃ (i : Nat) (d : DropD), ds[i]? = some d ∧ e = ⟨d.step, -1, (i : Int)⟩)
theorem entsL_mem {cs : List CalledD} {ds : List DropD} {e : EntD} (h : e ∈ entsL cs ds) : EntOf cs ds e :=
  (List.mem_append.1 h).imp entsC_mem entsD_mem
theorem rk_call (nc : Nat) (p : Int) (i : Nat) : rkE nc ⟨p, (i : Int), -1⟩ = i := by
  unfold rkE
  rw [if_pos (by show (0 : Int) ≤ (i : Int); omega)]
theorem rk_drop (nc : Nat) (p : Int) (i : Nat) : rkE nc ⟨p, -1, (i : Int)⟩ = nc + i := by
  unfold rkE
  rw [if_neg (by show ¬ (0 : Int) ≤ -1; decide)]
theorem entsL_rank {cs : List CalledD} {ds : List DropD} {j : Nat} {e : EntD} (h : (entsL cs ds)[j]? = some e) : rkE cs.length e = j := by
  unfold entsL at h
  rcases Nat.lt_or_ge j (entsC cs).length with hj | hj
  · rw [List.getElem?_append_left hj] at h
    rw [entsC_len] at hj
    rw [entsC_get (List.getElem?_eq_getElem hj)] at h
    obtain rfl := Option.some.inj h
    exact rk_call _ _ _
  · rw [List.getElem?_append_right hj] at h
    have h2 : j - (entsC cs).length < ds.length := by rw [← entsD_len]; exact (List.getElem?_eq_some_iff.1 h).1
    rw [entsD_get (List.getElem?_eq_getElem h2)] at h
    obtain rfl := Option.some.inj h
    rw [rk_drop]
    rw [entsC_len] at hj h2 ⊢
    omega
theorem entsL_ranks (cs : List CalledD) (ds : List DropD) : (entsL cs ds).Pairwise (fun x y => rkE cs.length x < rkE cs.length y) := by
  rw [List.pairwise_iff_getElem]
  intro i j hi hj hij
  rw [entsL_rank (List.getElem?_eq_getElem hi), entsL_rank (List.getElem?_eq_getElem hj)]
  omega
/-- An entry is put in its place. -/
def insE (nc : Nat) (e : EntD) : List EntD → List EntD
  | [] => [e]
  | x :: l => if decide (e.step < x.step) || (decide (e.step = x.step) && decide (rkE nc e < rkE nc x)) then e :: x :: l else x :: insE nc e l
theorem insE_perm (nc : Nat) (e : EntD) : ∀ l, (insE nc e l).Perm (e :: l)
  | [] => .refl _
  | x :: l => by
    unfold insE
    split
    · exact .refl _
    · exact (List.Perm.cons x (insE_perm nc e l)).trans (List.Perm.swap e x l)
theorem insE_sort {nc : Nat} {e : EntD} : ∀ {l : List EntD}, SortE nc l → (∀ x ∈ l, rkE nc x ≠ rkE nc e) → SortE nc (insE nc e l)
  | [], _, _ => List.pairwise_singleton _ _
  | x :: l, h, hr => by
    obtain ⟨h1, h2⟩ := List.pairwise_cons.1 h
    have hne := hr x (.head _)
    unfold insE
    split
    · rename_i hc
      have hex : lessE nc e x := by
        simp only [Bool.or_eq_true, Bool.and_eq_true, decide_eq_true_eq] at hc
        exact hc
      exact List.pairwise_cons.2 ⟨fun y hy => (List.mem_cons.1 hy).elim (fun e2 => by rw [e2]; exact hex) (fun hy => lessE_trans hex (h1 y hy)), h⟩
    · rename_i hc
      have hxe : lessE nc x e := by
        have hn : ¬ lessE nc e x := fun h3 => hc (by
          simp only [Bool.or_eq_true, Bool.and_eq_true, decide_eq_true_eq]
          exact h3)
        unfold lessE at *
        omega
      refine List.pairwise_cons.2 ⟨fun y hy => ?_, insE_sort h2 (fun y hy => hr y (.tail _ hy))⟩
      rcases List.mem_cons.1 ((insE_perm nc e l).mem_iff.1 hy) with rfl | hy
      · exact hxe
      · exact h1 y hy
def sortL (nc : Nat) (l : List EntD) : List EntD := l.foldr (insE nc) []
theorem sortL_perm (nc : Nat) : ∀ l, (sortL nc l).Perm l
  | [] => .refl _
  | x :: l => (insE_perm nc x _).trans (List.Perm.cons x (sortL_perm nc l))
theorem sortL_sort {nc : Nat} : ∀ {l : List EntD}, l.Pairwise (fun x y => rkE nc x < rkE nc y) → SortE nc (sortL nc l)
  | [], _ => List.Pairwise.nil
  | x :: l, h => by
    obtain ⟨h1, h2⟩ := List.pairwise_cons.1 h
    refine insE_sort (sortL_sort h2) (fun y hy => ?_)
    have := h1 y ((sortL_perm nc l).mem_iff.1 hy)
    omega
/-- The order of a history. -/
def orderL (cs : List CalledD) (ds : List DropD) : List EntD := sortL cs.length (entsL cs ds)
theorem orderL_perm (cs : List CalledD) (ds : List DropD) : (orderL cs ds).Perm (entsL cs ds) := sortL_perm _ _
theorem orderL_sort (cs : List CalledD) (ds : List DropD) : SortE cs.length (orderL cs ds) := sortL_sort (entsL_ranks cs ds)
theorem orderL_len (cs : List CalledD) (ds : List DropD) : (orderL cs ds).length = cs.length + ds.length := by rw [(orderL_perm cs ds).length_eq, entsL_len]
theorem orderL_mem {cs : List CalledD} {ds : List DropD} {e : EntD} (h : e ∈ orderL cs ds) : EntOf cs ds e := entsL_mem ((orderL_perm cs ds).mem_iff.1 h)
theorem orderL_one {cs : List CalledD} {ds : List DropD} {s : List EntD} (h1 : SortE cs.length s) (h2 : s.Perm (entsL cs ds)) : s = orderL cs ds :=
  sortE_unique h1 (orderL_sort cs ds) (h2.trans (orderL_perm cs ds).symm)
/-- A call may stand behind these. -/
def okC (pre : List CalledD) (c : CalledD) : Bool :=
  decide (0 ≤ c.thread) && decide (c.thread < 64) && decide (0 ≤ c.from') && decide (c.from' < c.point) && decide (c.point ≤ c.till) && pre.all (fun x => x.thread != c.thread || decide (x.till ≤ c.from'))
def wellC : List CalledD → List CalledD → Bool
  | _, [] => true
  | pre, c :: r => okC pre c && wellC (pre ++ [c]) r
/-- No step comes twice. -/
def wellS : List EntD → Bool
  | [] => true
  | e :: l => l.all (fun x => x.step != e.step) && wellS l
def wellH (cs : List CalledD) (ds : List DropD) : Bool := wellC [] cs && wellS (orderL cs ds)
theorem okC_iff {pre : List CalledD} {c : CalledD} : okC pre c = true ↔ 0 ≤ c.thread ∧ c.thread < 64 ∧ 0 ≤ c.from' ∧ c.from' < c.point ∧ c.point ≤ c.till ∧ ∀ x ∈ pre, x.thread = c.thread → x.till ≤ c.from' := by
  unfold okC
  simp only [Bool.and_eq_true, decide_eq_true_eq, List.all_eq_true, Bool.or_eq_true, bne_iff_ne, ne_eq, and_assoc]
  constructor
  · rintro ⟨h1, h2, h3, h4, h5, h6⟩
    exact ⟨h1, h2, h3, h4, h5, fun x hx e => (h6 x hx).resolve_left (fun h => h e)⟩
  · rintro ⟨h1, h2, h3, h4, h5, h6⟩
    exact ⟨h1, h2, h3, h4, h5, fun x hx => if e : x.thread = c.thread then .inr (h6 x hx e) else .inl e⟩
theorem wellC_iff : ∀ {pre cs : List CalledD}, wellC pre cs = true ↔ ∀ i c, cs[i]? = some c → okC (pre ++ cs.take i) c = true
  | pre, [] => by simp [wellC]
  | pre, c :: r => by
    unfold wellC
    rw [Bool.and_eq_true, wellC_iff]
    constructor
    · rintro ⟨h1, h2⟩ i x hx
      cases i with
      | zero => simp at hx; subst hx; simpa using h1
      | succ i => simpa [List.append_assoc] using h2 i x (by simpa using hx)
    · intro h
      exact ⟨by simpa using h 0 c rfl, fun i x hx => by simpa [List.append_assoc] using h (i + 1) x (by simpa using hx)⟩
theorem wellS_iff : ∀ {l : List EntD}, wellS l = true ↔ l.Pairwise (fun x y => x.step ≠ y.step)
  | [] => by simp [wellS]
  | e :: l => by
    unfold wellS
    rw [Bool.and_eq_true, wellS_iff, List.pairwise_cons, List.all_eq_true]
    exact and_congr_left' ⟨fun h x hx e2 => by have := h x hx; simp [e2] at this, fun h x hx => by simp; exact fun e2 => h x hx e2.symm⟩
/-- The last time of a thread. -/
def lastT (pre : List CalledD) (t : Int) : Int := pre.foldl (fun a c => if c.thread = t then c.till else a) 0
theorem lastT_snoc (pre : List CalledD) (c : CalledD) (t : Int) : lastT (pre ++ [c]) t = if c.thread = t then c.till else lastT pre t := by
  unfold lastT
  rw [List.foldl_append]
  rfl
/-- Behind calls that are well the last time is the greatest. -/
theorem lastT_most : ∀ (n : Nat) {cs : List CalledD}, n ≤ cs.length → (∀ i c, i < n → cs[i]? = some c → okC (cs.take i) c = true) → ∀ t, 0 ≤ lastT (cs.take n) t ∧ (∀ x ∈ cs.take n, x.thread = t → x.till ≤ lastT (cs.take n) t) ∧ (lastT (cs.take n) t = 0 ∨ ∃ x ∈ cs.take n, x.thread = t ∧ x.till = lastT (cs.take n) t)
  | 0, _, _, _, t => ⟨by simp [lastT], by simp, .inl (by simp [lastT])⟩
  | n + 1, cs, hn, h, t => by
    obtain ⟨h1, h2, h3⟩ := lastT_most n (Nat.le_of_succ_le hn) (fun i c hi => h i c (Nat.lt_succ_of_lt hi)) t
    obtain ⟨c, hc⟩ : ∃ c, cs[n]? = some c := ⟨cs[n], List.getElem?_eq_getElem hn⟩
    obtain ⟨k1, k2, k3, k4, k5, k6⟩ := okC_iff.1 (h n c (Nat.lt_succ_self n) hc)
    rw [take_snoc hc, lastT_snoc]
    by_cases e : c.thread = t
    · rw [if_pos e]
      refine ⟨by omega, fun x hx hxt => ?_, .inr ⟨c, by simp, e, rfl⟩⟩
      rcases List.mem_append.1 hx with hx | hx
      · have := k6 x hx (hxt.trans e.symm)
        omega
      · rw [List.mem_singleton.1 hx]
        exact Int.le_refl _
    · rw [if_neg e]
      refine ⟨h1, fun x hx hxt => ?_, h3.imp id (fun ⟨x, hx, h4⟩ => ⟨x, List.mem_append_left _ hx, h4⟩)⟩
      rcases List.mem_append.1 hx with hx | hx
      · exact h2 x hx hxt
      · rw [List.mem_singleton.1 hx] at hxt
        exact absurd hxt e
/-- What is asked of a call is asked of its thread's last time. -/
theorem okC_last {cs : List CalledD} {n : Nat} (hn : n ≤ cs.length) (h : ∀ i c, i < n → cs[i]? = some c → okC (cs.take i) c = true) (c : CalledD) :
    okC (cs.take n) c = true ↔ 0 ≤ c.thread ∧ c.thread < 64 ∧ lastT (cs.take n) c.thread ≤ c.from' ∧ c.from' < c.point ∧ c.point ≤ c.till := by
  obtain ⟨h1, h2, h3⟩ := lastT_most n hn h c.thread
  rw [okC_iff]
  constructor
  · rintro ⟨k1, k2, k3, k4, k5, k6⟩
    refine ⟨k1, k2, ?_, k4, k5⟩
    rcases h3 with e | ⟨x, hx, e1, e2⟩
    · omega
    · have := k6 x hx e1
      omega
  · rintro ⟨k1, k2, k3, k4, k5⟩
    exact ⟨k1, k2, by omega, k4, k5, fun x hx e => by have := h2 x hx e; omega⟩
/-- One entry's step on a map: does it fit? -/
def stepE (cs : List CalledD) (ds : List DropD) (m : MapM) (e : EntD) : Bool × MapM :=
  if 0 ≤ e.call then
    match cs[e.call.toNat]? with
    | some c => fitsM m c.call c.epoch c.ans
    | none => (false, m)
  else
    match ds[e.drop.toNat]? with
    | some d => dropM m d.item
    | none => (false, m)
/-- Entries, one by one, till one does not fit. -/
def goE (cs : List CalledD) (ds : List DropD) : List EntD → Nat → MapM → Int × MapM
  | [], _, m => (-1, m)
  | e :: l, i, m => if (stepE cs ds m e).1 then goE cs ds l (i + 1) (stepE cs ds m e).2 else ((i : Int), (stepE cs ds m e).2)
def linH (cs : List CalledD) (ds : List DropD) : Int := if wellH cs ds then (goE cs ds (orderL cs ds) 0 newM).1 else -2
def endH (cs : List CalledD) (ds : List DropD) : MapM := if wellH cs ds then (goE cs ds (orderL cs ds) 0 newM).2 else newM
theorem stepE_call {cs : List CalledD} {ds : List DropD} {m : MapM} {i : Nat} {c : CalledD} {p : Int} (h : cs[i]? = some c) : stepE cs ds m ⟨p, (i : Int), -1⟩ = fitsM m c.call c.epoch c.ans := by
  unfold stepE
  rw [if_pos (by show (0 : Int) ≤ (i : Int); omega)]
  simp [h]
theorem stepE_drop {cs : List CalledD} {ds : List DropD} {m : MapM} {i : Nat} {d : DropD} {p : Int} (h : ds[i]? = some d) : stepE cs ds m ⟨p, -1, (i : Int)⟩ = dropM m d.item := by
  unfold stepE
  rw [if_neg (by show ¬ (0 : Int) ≤ -1; decide)]
  simp [h]
end Go.Proofs.YtaooangnnlopcaaGreatDoor
namespace Go.Proofs.YtaooangnnlopcaaGreatDoor
open Go.RowKit
/-- In a sorted list the last has the greatest step. -/
theorem last_most {nc : Nat} {a : List EntD} (h : SortE nc a) {z : EntD} (hz : a.getLast? = some z) : ∀ x ∈ a, x.step ≤ z.step := by
  rcases List.eq_nil_or_concat a with rfl | ⟨b, y, rfl⟩
  · cases hz
  · rw [List.concat_eq_append] at *
    obtain rfl : y = z := by simpa using hz
    intro x hx
    rcases List.mem_append.1 hx with hx | hx
    · have h2 := (List.pairwise_append.1 h).2.2 x hx y (by simp)
      unfold lessE at h2
      omega
    · rw [List.mem_singleton.1 hx]
      exact Int.le_refl _
/-- An entry is in its place when all behind it have greater steps, and the last one ahead has none. -/
theorem put_sort {nc : Nat} {a b : List EntD} {e : EntD} (h : SortE nc (a ++ b)) (hr : ∀ x ∈ a ++ b, rkE nc x < rkE nc e) (hb : ∀ x ∈ b, e.step < x.step) (ha : ∀ z, a.getLast? = some z → ¬ e.step < z.step) : SortE nc (a ++ e :: b) := by
  obtain ⟨h1, h2, h3⟩ := h.parts
  refine SortE.append h1 (List.pairwise_cons.2 ⟨fun y hy => .inl (hb y hy), h2⟩) ?_
  intro x hx y hy
  rcases List.mem_cons.1 hy with rfl | hy
  · have h4 := hr x (List.mem_append_left _ hx)
    cases hl : a.getLast? with
    | none => rw [List.getLast?_eq_none_iff.1 hl] at hx; cases hx
    | some z =>
      have h5 := last_most h1 hl x hx
      have h6 := ha z hl
      exact (lessE_low h4).2 (by omega)
  · exact h3 x hx y hy
/-- Sorted entries have steps of their own just if no two beside each other are alike. -/
theorem wellS_adj {nc : Nat} {l : List EntD} (h : SortE nc l) : wellS l = true ↔ ∀ i x y, l[i]? = some x → l[i + 1]? = some y → x.step ≠ y.step := by
  rw [wellS_iff, List.pairwise_iff_getElem]
  constructor
  · intro hp i x y hx hy
    obtain ⟨h1, rfl⟩ := List.getElem?_eq_some_iff.1 hx
    obtain ⟨h2, rfl⟩ := List.getElem?_eq_some_iff.1 hy
    exact hp i (i + 1) h1 h2 (Nat.lt_succ_self i)
  · intro hp i j hi hj hij
    have hi1 : i + 1 < l.length := by omega
    have h1 := hp i _ _ (List.getElem?_eq_getElem hi) (List.getElem?_eq_getElem hi1)
    have hs := List.pairwise_iff_getElem.1 h
    have h2 := hs i (i + 1) hi hi1 (Nat.lt_succ_self i)
    unfold lessE at h2
    rcases Nat.lt_or_eq_of_le (Nat.succ_le_of_lt hij) with h3 | h3
    · have h4 := hs (i + 1) j hi1 hj h3
      unfold lessE at h4
      omega
    · subst h3
      exact h1
theorem wellC_take {cs : List CalledD} : wellC [] cs = true ↔ ∀ i c, cs[i]? = some c → okC (cs.take i) c = true := by
  rw [wellC_iff]
  simp
/-- What the document asks of one call. -/
theorem okC_parts {pre : List CalledD} {c : CalledD} : okC pre c = true ↔ (¬ c.thread < 0 ∧ ¬ 63 < c.thread ∧ ¬ c.from' < 0 ∧ ¬ c.point ≤ c.from' ∧ ¬ c.till < c.point) ∧ ∀ x ∈ pre, ¬ (x.thread = c.thread ∧ c.from' < x.till) := by
  rw [okC_iff]
  constructor
  · rintro ⟨h1, h2, h3, h4, h5, h6⟩
    exact ⟨⟨by omega, by omega, by omega, by omega, by omega⟩, fun x hx ⟨e, h⟩ => by have := h6 x hx e; omega⟩
  · rintro ⟨⟨h1, h2, h3, h4, h5⟩, h6⟩
    exact ⟨by omega, by omega, by omega, by omega, by omega, fun x hx e => by have := h6 x hx; omega⟩
theorem entsL_low {cs : List CalledD} {ds : List DropD} {k : Nat} {e : EntD} (he : (entsL cs ds)[k]? = some e) {l : List EntD} (hp : l.Perm ((entsL cs ds).take k)) : ∀ x ∈ l, rkE cs.length x < rkE cs.length e := by
  intro x hx
  have h1 := hp.mem_iff.1 hx
  obtain ⟨j, hj, hjx⟩ := List.getElem_of_mem h1
  have h2 : j < k := by rw [List.length_take] at hj; omega
  have h3 : (entsL cs ds)[j]? = some x := by rw [← hjx, List.getElem_take]; exact List.getElem?_eq_getElem _
  rw [entsL_rank h3, entsL_rank he]
  omega
end Go.Proofs.YtaooangnnlopcaaGreatDoor
