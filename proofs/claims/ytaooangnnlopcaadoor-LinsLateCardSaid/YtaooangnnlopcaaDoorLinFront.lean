/- Plain: a history's front, by its order: it is well, and fits as far as the whole does. No program in sight. -/
import Derived.Test.YtaooangnnlopcaaDoorLinRun0
import Derived.Test.YtaooangnnlopcaaDoorLinLate
namespace Go.Proofs.YtaooangnnlopcaaDoor
open Go.RowKit
/-- Those elements whose numbers are marked. -/
def selN {α : Type} (m : Nat → Bool) : Nat → List α → List α
  | _, [] => []
  | i, x :: l => if m i then x :: selN m (i + 1) l else selN m (i + 1) l
theorem selN_snoc {α : Type} (m : Nat → Bool) (x : α) : ∀ (l : List α) (i : Nat), selN m i (l ++ [x]) = selN m i l ++ (if m (i + l.length) then [x] else [])
  | [], i => by
    show (if m i then x :: selN m (i + 1) [] else selN m (i + 1) []) = [] ++ (if m (i + 0) then [x] else [])
    by_cases h : m i = true <;> simp [selN, h]
  | y :: l, i => by
    show (if m i then y :: selN m (i + 1) (l ++ [x]) else selN m (i + 1) (l ++ [x])) = (if m i then y :: selN m (i + 1) l else selN m (i + 1) l) ++ _
    rw [selN_snoc m x l (i + 1), List.length_cons, show i + 1 + l.length = i + (l.length + 1) from by omega]
    split <;> rfl
theorem selN_sub {α : Type} (m : Nat → Bool) : ∀ (l : List α) (i : Nat), (selN m i l).Sublist l
  | [], _ => .slnil
  | x :: l, i => by
    unfold selN
    split
    · exact (selN_sub m l (i + 1)).cons_cons x
    · exact (selN_sub m l (i + 1)).cons x
theorem selN_len {α : Type} (m : Nat → Bool) (l : List α) (i : Nat) : (selN m i l).length ≤ l.length := (selN_sub m l i).length_le
/-- What an entry is of. -/
def recE (cs : List CalledD) (ds : List DropD) (e : EntD) : Option (CalledD ⊕ DropD) :=
  if 0 ≤ e.call then (cs[e.call.toNat]?).map .inl else (ds[e.drop.toNat]?).map .inr
def stepO (m : MapM) : Option (CalledD ⊕ DropD) → Bool × MapM
  | some (.inl c) => fitsM m c.call c.epoch c.ans
  | some (.inr d) => dropM m d.item
  | none => (false, m)
theorem stepE_rec (cs : List CalledD) (ds : List DropD) (m : MapM) (e : EntD) : stepE cs ds m e = stepO m (recE cs ds e) := by
  unfold stepE recE
  split
  · cases cs[e.call.toNat]? <;> rfl
  · cases ds[e.drop.toNat]? <;> rfl
def goO : List (Option (CalledD ⊕ DropD)) → Nat → MapM → Int × MapM
  | [], _, m => (-1, m)
  | r :: l, i, m => if (stepO m r).1 then goO l (i + 1) (stepO m r).2 else ((i : Int), (stepO m r).2)
theorem goE_rec (cs : List CalledD) (ds : List DropD) : ∀ (l : List EntD) (i : Nat) (m : MapM), goE cs ds l i m = goO (l.map (recE cs ds)) i m
  | [], _, _ => rfl
  | e :: l, i, m => by
    rw [List.map_cons]
    unfold goE goO
    rw [stepE_rec]
    split
    · exact goE_rec cs ds l (i + 1) _
    · rfl
/-- How far a front goes. -/
theorem goO_take : ∀ (R : List (Option (CalledD ⊕ DropD))) (k i : Nat) (m : MapM),
    ((goO R i m).1 = -1 ∧ (goO (R.take k) i m).1 = -1) ∨ (∃ j : Nat, (goO R i m).1 = ((i + j : Nat) : Int) ∧ j < R.length ∧ ((j < k ∧ (goO (R.take k) i m).1 = ((i + j : Nat) : Int)) ∨ (k ≤ j ∧ (goO (R.take k) i m).1 = -1)))
  | [], k, i, m => .inl ⟨rfl, by simp [goO]⟩
  | r :: R, 0, i, m => by
    rcases goO_take R 0 (i + 1) (stepO m r).2 with ⟨h1, -⟩ | ⟨j, h1, h2, -⟩
    · by_cases hs : (stepO m r).1 = true
      · exact .inl ⟨by unfold goO; rw [if_pos hs]; exact h1, rfl⟩
      · exact .inr ⟨0, by unfold goO; rw [if_neg hs]; rfl, by simp, .inr ⟨Nat.le_refl _, rfl⟩⟩
    · by_cases hs : (stepO m r).1 = true
      · exact .inr ⟨j + 1, by unfold goO; rw [if_pos hs, h1]; congr 1; omega, by simp; omega, .inr ⟨Nat.zero_le _, rfl⟩⟩
      · exact .inr ⟨0, by unfold goO; rw [if_neg hs]; rfl, by simp, .inr ⟨Nat.le_refl _, rfl⟩⟩
  | r :: R, k + 1, i, m => by
    rw [List.take_succ_cons]
    by_cases hs : (stepO m r).1 = true
    · have e1 : goO (r :: R) i m = goO R (i + 1) (stepO m r).2 := by
        conv => lhs; unfold goO
        rw [if_pos hs]
      have e2 : goO (r :: R.take k) i m = goO (R.take k) (i + 1) (stepO m r).2 := by
        conv => lhs; unfold goO
        rw [if_pos hs]
      rw [e1, e2]
      rcases goO_take R k (i + 1) (stepO m r).2 with ⟨h1, h2⟩ | ⟨j, h1, h2, h3⟩
      · exact .inl ⟨h1, h2⟩
      · refine .inr ⟨j + 1, by rw [h1]; congr 1; omega, by simp; omega, ?_⟩
        rcases h3 with ⟨h3, h4⟩ | ⟨h3, h4⟩
        · exact .inl ⟨by omega, by rw [h4]; congr 1; omega⟩
        · exact .inr ⟨by omega, h4⟩
    · have e1 : goO (r :: R) i m = ((i : Int), (stepO m r).2) := by
        conv => lhs; unfold goO
        rw [if_neg hs]
      have e2 : goO (r :: R.take k) i m = ((i : Int), (stepO m r).2) := by
        conv => lhs; unfold goO
        rw [if_neg hs]
      rw [e1, e2]
      exact .inr ⟨0, rfl, by simp, .inl ⟨by omega, rfl⟩⟩
theorem sorted_unique {α : Type} {r : α → α → Prop} (hr : ∀ a b, r a b → ¬ r b a) : ∀ {l l' : List α}, l.Pairwise r → l'.Pairwise r → l.Perm l' → l = l'
  | [], l', _, _, hp => (List.Perm.nil_eq hp)
  | x :: l, [], _, _, hp => absurd hp.length_eq (by simp)
  | x :: l, y :: l', h1, h2, hp => by
    have e : x = y := by
      have hx : x ∈ y :: l' := hp.mem_iff.1 (.head _)
      have hy : y ∈ x :: l := hp.mem_iff.2 (.head _)
      rcases List.mem_cons.1 hx with e | hx
      · exact e
      · rcases List.mem_cons.1 hy with e | hy
        · exact e.symm
        · exact absurd ((List.pairwise_cons.1 h1).1 y hy) (hr _ _ ((List.pairwise_cons.1 h2).1 x hx))
    subst e
    rw [sorted_unique hr (List.pairwise_cons.1 h1).2 (List.pairwise_cons.1 h2).2 (hp.cons_inv)]
abbrev pairC (c : CalledD) : Int × Option (CalledD ⊕ DropD) := (c.point, some (.inl c))
abbrev pairD (d : DropD) : Int × Option (CalledD ⊕ DropD) := (d.step, some (.inr d))
def pairE (cs : List CalledD) (ds : List DropD) (e : EntD) : Int × Option (CalledD ⊕ DropD) := (e.step, recE cs ds e)
theorem pairE_call {cs : List CalledD} {ds : List DropD} {i : Nat} {c : CalledD} (h : cs[i]? = some c) : pairE cs ds ⟨c.point, (i : Int), -1⟩ = pairC c := by
  unfold pairE recE
  rw [if_pos (by show (0 : Int) ≤ (i : Int); omega)]
  simp [h]
theorem pairE_drop {cs : List CalledD} {ds : List DropD} {i : Nat} {d : DropD} (h : ds[i]? = some d) : pairE cs ds ⟨d.step, -1, (i : Int)⟩ = pairD d := by
  unfold pairE recE
  rw [if_neg (by show ¬ (0 : Int) ≤ -1; decide)]
  simp [h]
/-- Which numbers stand in a list of entries. -/
def markC (l : List EntD) (i : Nat) : Bool := l.any (fun e => decide (e.call = (i : Int)))
def markD (l : List EntD) (i : Nat) : Bool := l.any (fun e => decide (e.drop = (i : Int)))
def frontC (cs : List CalledD) (ds : List DropD) (k : Nat) : List CalledD := selN (markC ((orderL cs ds).take k)) 0 cs
def frontD (cs : List CalledD) (ds : List DropD) (k : Nat) : List DropD := selN (markD ((orderL cs ds).take k)) 0 ds
def markE (l : List EntD) (e : EntD) : Bool := if 0 ≤ e.call then markC l e.call.toNat else markD l e.drop.toNat
theorem markE_call (l : List EntD) (p : Int) (i : Nat) : markE l ⟨p, (i : Int), -1⟩ = markC l i := by
  unfold markE
  rw [if_pos (by show (0 : Int) ≤ (i : Int); omega)]
  simp
theorem markE_drop (l : List EntD) (p : Int) (i : Nat) : markE l ⟨p, -1, (i : Int)⟩ = markD l i := by
  unfold markE
  rw [if_neg (by show ¬ (0 : Int) ≤ -1; decide)]
  simp
section
variable {cs : List CalledD} {ds : List DropD}
theorem selC_pairs (l : List EntD) : ∀ n, n ≤ cs.length → ((entsC (cs.take n)).filter (markE l)).map (pairE cs ds) = (selN (markC l) 0 (cs.take n)).map pairC
  | 0, _ => by simp [entsC, selN]
  | n + 1, hn => by
    obtain ⟨c, hc⟩ : ∃ c, cs[n]? = some c := ⟨_, List.getElem?_eq_getElem hn⟩
    have hl : (cs.take n).length = n := by rw [List.length_take]; omega
    rw [take_snoc hc, entsC_snoc, selN_snoc, List.filter_append, List.map_append, List.map_append, selC_pairs l n (by omega), hl, Nat.zero_add]
    congr 1
    by_cases h : markC l n = true
    · rw [if_pos h, List.filter_cons_of_pos (by rw [markE_call]; exact h)]
      simp [pairE_call hc]
    · rw [if_neg h, List.filter_cons_of_neg (by rw [markE_call]; exact h)]
      rfl
theorem selD_pairs (l : List EntD) : ∀ n, n ≤ ds.length → ((entsD (ds.take n)).filter (markE l)).map (pairE cs ds) = (selN (markD l) 0 (ds.take n)).map pairD
  | 0, _ => by simp [entsD, selN]
  | n + 1, hn => by
    obtain ⟨c, hc⟩ : ∃ c, ds[n]? = some c := ⟨_, List.getElem?_eq_getElem hn⟩
    have hl : (ds.take n).length = n := by rw [List.length_take]; omega
    rw [take_snoc hc, entsD_snoc, selN_snoc, List.filter_append, List.map_append, List.map_append, selD_pairs l n (by omega), hl, Nat.zero_add]
    congr 1
    by_cases h : markD l n = true
    · rw [if_pos h, List.filter_cons_of_pos (by rw [markE_drop]; exact h)]
      simp [pairE_drop hc]
    · rw [if_neg h, List.filter_cons_of_neg (by rw [markE_drop]; exact h)]
      rfl
theorem sel_pairs (l : List EntD) : ((entsL cs ds).filter (markE l)).map (pairE cs ds) = (selN (markC l) 0 cs).map pairC ++ (selN (markD l) 0 ds).map pairD := by
  have h1 := selC_pairs (cs := cs) (ds := ds) l cs.length (Nat.le_refl _)
  have h2 := selD_pairs (cs := cs) (ds := ds) l ds.length (Nat.le_refl _)
  rw [List.take_length] at h1 h2
  unfold entsL
  rw [List.filter_append, List.map_append, h1, h2]
theorem all_pairs : (entsL cs ds).map (pairE cs ds) = cs.map pairC ++ ds.map pairD := by
  unfold entsL
  rw [List.map_append]
  congr 1
  · apply List.ext_getElem?
    intro i
    rw [List.getElem?_map, List.getElem?_map]
    cases h : cs[i]? with
    | none => rw [List.getElem?_eq_none (by rw [entsC_len]; exact List.getElem?_eq_none_iff.1 h)]; rfl
    | some c => rw [entsC_get h, Option.map_some, pairE_call h]; rfl
  · apply List.ext_getElem?
    intro i
    rw [List.getElem?_map, List.getElem?_map]
    cases h : ds[i]? with
    | none => rw [List.getElem?_eq_none (by rw [entsD_len]; exact List.getElem?_eq_none_iff.1 h)]; rfl
    | some c => rw [entsD_get h, Option.map_some, pairE_drop h]; rfl
/-- Two entries of a history with the same numbers are the same. -/
theorem ent_same {e f : EntD} (he : EntOf cs ds e) (hf : EntOf cs ds f) (h : (0 ≤ e.call ∧ f.call = e.call) ∨ (¬ 0 ≤ e.call ∧ f.drop = e.drop)) : e = f := by
  rcases he with ⟨i, c, hc, rfl⟩ | ⟨i, d, hd, rfl⟩ <;> rcases hf with ⟨j, c', hc', rfl⟩ | ⟨j, d', hd', rfl⟩
  · rcases h with ⟨-, h⟩ | ⟨h, -⟩
    · obtain rfl : j = i := by
        have h2 : (j : Int) = (i : Int) := h
        omega
      rw [hc] at hc'
      obtain rfl := Option.some.inj hc'
      rfl
    · exact absurd (show (0 : Int) ≤ (i : Int) from by omega) h
  · rcases h with ⟨-, h⟩ | ⟨h, -⟩
    · have : (-1 : Int) = (i : Int) := h
      omega
    · exact absurd (show (0 : Int) ≤ (i : Int) from by omega) h
  · rcases h with ⟨h, -⟩ | ⟨-, h⟩
    · exact absurd h (by show ¬ (0 : Int) ≤ -1; decide)
    · have : (-1 : Int) = (i : Int) := h
      omega
  · rcases h with ⟨h, -⟩ | ⟨-, h⟩
    · exact absurd h (by show ¬ (0 : Int) ≤ -1; decide)
    · obtain rfl : j = i := by
        have h2 : (j : Int) = (i : Int) := h
        omega
      rw [hd] at hd'
      obtain rfl := Option.some.inj hd'
      rfl
theorem markE_mem {l : List EntD} {e : EntD} (hl : ∀ f ∈ l, EntOf cs ds f) (he : EntOf cs ds e) : markE l e = true ↔ e ∈ l := by
  unfold markE markC markD
  constructor
  · intro h
    split at h
    · rename_i h0
      obtain ⟨f, hf, h1⟩ := List.any_eq_true.1 h
      have h2 : f.call = e.call := by
        have := of_decide_eq_true h1
        omega
      rw [ent_same he (hl f hf) (.inl ⟨h0, h2⟩)]
      exact hf
    · rename_i h0
      obtain ⟨f, hf, h1⟩ := List.any_eq_true.1 h
      have h2 : f.drop = e.drop := by
        have h3 := of_decide_eq_true h1
        rcases he with ⟨i, c, hc, rfl⟩ | ⟨i, d, hd, rfl⟩
        · exact absurd (show (0 : Int) ≤ (i : Int) from by omega) h0
        · have h4 : f.drop = (((i : Int).toNat : Nat) : Int) := h3
          show f.drop = (i : Int)
          omega
      rw [ent_same he (hl f hf) (.inr ⟨h0, h2⟩)]
      exact hf
  · intro h
    split
    · rename_i h0
      exact List.any_eq_true.2 ⟨e, h, by rw [decide_eq_true_iff]; omega⟩
    · rename_i h0
      refine List.any_eq_true.2 ⟨e, h, ?_⟩
      rcases he with ⟨i, c, hc, rfl⟩ | ⟨i, d, hd, rfl⟩
      · exact absurd (show (0 : Int) ≤ (i : Int) from by omega) h0
      · rw [decide_eq_true_iff]
        show (i : Int) = (((i : Int).toNat : Nat) : Int)
        omega
theorem take_filter (k : Nat) : (orderL cs ds).filter (markE ((orderL cs ds).take k)) = (orderL cs ds).take k := by
  have hS := orderL_sort cs ds
  have hm : ∀ e ∈ orderL cs ds, EntOf cs ds e := fun e he => orderL_mem he
  generalize orderL cs ds = L at *
  conv => lhs; arg 2; rw [← List.take_append_drop k L]
  rw [List.filter_append]
  have h1 : (L.take k).filter (markE (L.take k)) = L.take k := List.filter_eq_self.2 (fun e he => (markE_mem (fun f hf => hm f (List.mem_of_mem_take hf)) (hm e (List.mem_of_mem_take he))).2 he)
  have h2 : (L.drop k).filter (markE (L.take k)) = [] := List.filter_eq_nil_iff.2 (fun e he h => by
    have h3 := (markE_mem (fun f hf => hm f (List.mem_of_mem_take hf)) (hm e (List.mem_of_mem_drop he))).1 h
    have h4 := hS
    rw [← List.take_append_drop k L] at h4
    exact lessE_irrefl e (h4.parts.2.2 e h3 e he))
  rw [h1, h2, List.append_nil]
/-- The front's pairs are those of the order's head, in some order. -/
theorem front_perm (k : Nat) : (((orderL cs ds).take k).map (pairE cs ds)).Perm ((frontC cs ds k).map pairC ++ (frontD cs ds k).map pairD) := by
  unfold frontC frontD
  rw [← sel_pairs]
  refine List.Perm.map _ ?_
  have h := (orderL_perm cs ds).filter (markE ((orderL cs ds).take k))
  rw [take_filter] at h
  exact h
theorem order_perm : ((orderL cs ds).map (pairE cs ds)).Perm (cs.map pairC ++ ds.map pairD) := by
  rw [← all_pairs]
  exact (orderL_perm cs ds).map _
theorem wellS_nodup : wellS (orderL cs ds) = true ↔ ((cs.map pairC ++ ds.map pairD).map (·.1)).Nodup := by
  rw [wellS_iff, ← (order_perm.map (·.1)).nodup_iff, List.map_map]
  unfold List.Nodup
  rw [List.pairwise_map]
  rfl
theorem wellS_strict (h : wellS (orderL cs ds) = true) : ((orderL cs ds).map (pairE cs ds)).Pairwise (fun x y => x.1 < y.1) := by
  rw [List.pairwise_map]
  have h1 := wellS_iff.1 h
  have h2 := orderL_sort cs ds
  exact List.Pairwise.imp₂ (fun a b h3 h4 => by
    show a.step < b.step
    rcases h4 with h4 | ⟨h4, -⟩
    · exact h4
    · exact absurd h4 h3) h1 h2
theorem okC_mono {pre pre' : List CalledD} {c : CalledD} (hs : ∀ x ∈ pre', x ∈ pre) (h : okC pre c = true) : okC pre' c = true := by
  rw [okC_iff] at h ⊢
  obtain ⟨h1, h2, h3, h4, h5, h6⟩ := h
  exact ⟨h1, h2, h3, h4, h5, fun x hx => h6 x (hs x hx)⟩
theorem wellC_sub : ∀ {l l' : List CalledD} {pre pre' : List CalledD}, l'.Sublist l → (∀ x ∈ pre', x ∈ pre) → wellC pre l = true → wellC pre' l' = true
  | _, _, _, _, .slnil, _, _ => rfl
  | _, _, pre, pre', .cons (l₂ := l) x h, hs, hw => by
    unfold wellC at hw
    rw [Bool.and_eq_true] at hw
    exact wellC_sub h (fun y hy => List.mem_append_left _ (hs y hy)) hw.2
  | _, _, pre, pre', .cons_cons (l₂ := l) x h, hs, hw => by
    unfold wellC at hw ⊢
    rw [Bool.and_eq_true] at hw ⊢
    exact ⟨okC_mono hs hw.1, wellC_sub h (fun y hy => by
      rcases List.mem_append.1 hy with hy | hy
      · exact List.mem_append_left _ (hs y hy)
      · exact List.mem_append_right _ hy) hw.2⟩
/-- A front of what is well is well. -/
theorem front_well {k : Nat} (h : wellH cs ds = true) : wellH (frontC cs ds k) (frontD cs ds k) = true := by
  unfold wellH at h ⊢
  rw [Bool.and_eq_true] at h ⊢
  refine ⟨wellC_sub (selN_sub _ _ _) (fun _ hx => hx) h.1, ?_⟩
  have h2 := wellS_nodup.1 h.2
  rw [wellS_nodup]
  exact h2.sublist ((((selN_sub _ _ _).map pairC).append ((selN_sub _ _ _).map pairD)).map (·.1))
/-- The front's order is the order's head. -/
theorem front_order {k : Nat} (h : wellH cs ds = true) : (orderL (frontC cs ds k) (frontD cs ds k)).map (pairE (frontC cs ds k) (frontD cs ds k)) = ((orderL cs ds).take k).map (pairE cs ds) := by
  have hf := front_well (k := k) h
  unfold wellH at h hf
  rw [Bool.and_eq_true] at h hf
  refine sorted_unique (r := fun x y => x.1 < y.1) (fun a b h1 h2 => by omega) (wellS_strict hf.2) ?_ (order_perm.trans (front_perm k).symm)
  have h1 := wellS_strict h.2
  rw [List.map_take]
  exact h1.sublist (List.take_sublist _ _)
theorem goE_pairs (l : List EntD) (i : Nat) (m : MapM) : goE cs ds l i m = goO ((l.map (pairE cs ds)).map (·.2)) i m := by
  rw [goE_rec, List.map_map]
  rfl
theorem front_lin {k : Nat} (h : wellH cs ds = true) (_hk : k ≤ (orderL cs ds).length) :
    (linH cs ds = -1 ∧ linH (frontC cs ds k) (frontD cs ds k) = -1) ∨ (∃ j : Nat, linH cs ds = (j : Int) ∧ ((j < k ∧ linH (frontC cs ds k) (frontD cs ds k) = (j : Int)) ∨ (k ≤ j ∧ linH (frontC cs ds k) (frontD cs ds k) = -1))) := by
  have hf := front_well (k := k) h
  unfold linH
  rw [if_pos h, if_pos hf, goE_pairs, goE_pairs, front_order h, List.map_take, List.map_take]
  rcases goO_take (((orderL cs ds).map (pairE cs ds)).map (·.2)) k 0 newM with ⟨h1, h2⟩ | ⟨j, h1, -, h2⟩
  · exact .inl ⟨h1, h2⟩
  · rw [Nat.zero_add] at h1 h2
    exact .inr ⟨j, h1, h2⟩
theorem count_calls : (orderL cs ds).countP isCallE = cs.length := by
  rw [(orderL_perm cs ds).countP_eq]
  unfold entsL
  rw [List.countP_append]
  have h1 : (entsC cs).countP isCallE = (entsC cs).length := List.countP_eq_length.2 (fun e he => by
    obtain ⟨i, c, hc, rfl⟩ := entsC_mem he
    show decide ((0 : Int) ≤ (i : Int)) = true
    rw [decide_eq_true_iff]
    omega)
  have h2 : (entsD ds).countP isCallE = 0 := List.countP_eq_zero.2 (fun e he => by
    obtain ⟨i, d, hd, rfl⟩ := entsD_mem he
    show ¬ decide ((0 : Int) ≤ -1) = true
    decide)
  rw [h1, h2, entsC_len, Nat.add_zero]
theorem end_count (hc : ∀ x ∈ cs, x.epoch < 18446744073709551616) : (endH cs ds).L.length ≤ cs.length := by
  unfold endH
  split
  · have h := go_bound (ds := ds) hc (l := orderL cs ds) (i := 0) (m := newM) (by decide)
    rw [count_calls] at h
    have h2 : newM.L.length = 0 := rfl
    omega
  · exact Nat.zero_le _
/-- In what is well nobody is late. -/
theorem well_late (h : wellH cs ds = true) {a b : Nat} (hl : LateP cs a b) : False := by
  obtain ⟨x, y, hx, hy, hne, h1, h2⟩ := hl
  unfold wellH at h
  rw [Bool.and_eq_true] at h
  have kx := okC_iff.1 (wellC_iff.1 h.1 a x hx)
  have ky := okC_iff.1 (wellC_iff.1 h.1 b y hy)
  omega
end
end Go.Proofs.YtaooangnnlopcaaDoor
