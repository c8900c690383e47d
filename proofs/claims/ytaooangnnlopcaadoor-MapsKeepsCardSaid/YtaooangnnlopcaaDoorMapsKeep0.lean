/- Plain: epochs that come one behind the other; what a run of calls leaves of a record. No program in sight. -/
import Derived.Test.YtaooangnnlopcaaDoorMapsCount0
namespace Go.Proofs.YtaooangnnlopcaaDoor
open Go.RowKit Go.ChangeMaps Go.MapKept
theorem later_now {m n : Nat} (hn : n < 16777216) : nowE (laterE m n) = n := by
  unfold laterE
  split <;> exact now_put hn
theorem later_at (m n : Nat) : atE (laterE m n) = if nowE m < n ∧ 0 < atE m ∧ atE m ≤ n then 0 else atE m := by
  unfold laterE
  split
  · exact at_put (by omega)
  · exact at_put (at_lt m)
theorem later_gen {m : Nat} (hm : m < 18446744073709551616) (n : Nat) : genE (laterE m n) = if nowE m < n ∧ 0 < atE m ∧ atE m ≤ n then min (genE m + 1) 65535 else genE m := by
  unfold laterE
  split
  · exact gen_put (by omega)
  · exact gen_put (gen_lt hm)
theorem later_lt (m n : Nat) : laterE m n < 18446744073709551616 := by
  unfold laterE
  split <;> exact put_lt _ _ _
theorem now_tick (w : Nat) : nowE (tickE w) = min (nowE w + 1) 16777215 := by
  unfold tickE
  split <;> exact now_put (by omega)
theorem gen_tick {w : Nat} (hw : w < 18446744073709551616) : genE w ≤ genE (tickE w) := by
  have h := gen_lt hw
  unfold tickE
  split
  · rw [gen_put (by omega)]; omega
  · rw [gen_put h]; omega
theorem gen_flush {w : Nat} (hw : w < 18446744073709551616) (d : Int) : genE w ≤ genE (flushE w d).1 := by
  have h := gen_lt hw
  unfold flushE
  split
  · exact Nat.le_refl _
  · split
    · show genE w ≤ genE (putE _ _ _)
      rw [gen_put h]; omega
    · show genE w ≤ genE (putE _ _ _)
      rw [gen_put (by omega)]; omega
theorem tick_later {m n : Nat} (hm : m < 18446744073709551616) (hn : n < 16777215) (hmn : nowE m ≤ n) : tickE (laterE m n) = laterE m (n + 1) := by
  unfold tickE
  rw [later_now (by omega), later_at, later_gen hm, show min (n + 1) 16777215 = n + 1 by omega]
  by_cases h : nowE m < n ∧ 0 < atE m ∧ atE m ≤ n
  · rw [if_pos h, if_pos h, if_neg (by omega)]
    unfold laterE
    rw [if_pos (by omega)]
  · rw [if_neg h, if_neg h]
    by_cases h2 : 0 < atE m ∧ atE m ≤ n + 1
    · rw [if_pos h2]
      unfold laterE
      rw [if_pos (by omega)]
    · rw [if_neg h2]
      unfold laterE
      rw [if_neg (by omega)]
theorem tick_tick {w : Nat} (h : nowE w = 16777215) : tickE (tickE w) = tickE w := by
  have h1 : nowE (tickE w) = 16777215 := by rw [now_tick]; omega
  have h2 : atE (tickE w) = 0 := by
    have := at_lt w
    unfold tickE
    split
    · exact at_put (by omega)
    · rw [at_put (at_lt w)]; omega
  have h3 : tickE (tickE w) = putE (nowE (tickE w)) (atE (tickE w)) (genE (tickE w)) := by
    rw [tickE, h1, h2, if_neg (by omega), show min (16777215 + 1) 16777215 = 16777215 from rfl]
  rw [h3, put_parts (tickE_lt w)]
theorem comes_iff {m w : Nat} : comesE m w = true ↔ nowE m ≤ nowE w ∧ (w = laterE m (nowE w) ∨ nowE w = 16777215 ∧ w = tickE (laterE m (nowE w))) := by
  unfold comesE
  simp
theorem comes_self {w : Nat} (hw : w < 18446744073709551616) : comesE w w = true := by
  rw [comes_iff]
  refine ⟨Nat.le_refl _, .inl ?_⟩
  unfold laterE
  rw [if_neg (by omega), put_parts hw]
theorem comes_tick {m w : Nat} (hm : m < 18446744073709551616) (h : comesE m w = true) : comesE m (tickE w) = true := by
  rw [comes_iff] at h ⊢
  obtain ⟨h1, h2⟩ := h
  have h3 := now_lt w
  have h4 := now_tick w
  refine ⟨by omega, ?_⟩
  rcases h2 with h2 | ⟨h2, h5⟩
  · by_cases hM : nowE w = 16777215
    · refine .inr ⟨by omega, ?_⟩
      rw [show nowE (tickE w) = nowE w by omega, ← h2]
    · refine .inl ?_
      rw [show nowE (tickE w) = nowE w + 1 by omega, ← tick_later hm (by omega) h1, ← h2]
  · refine .inr ⟨by omega, ?_⟩
    rw [show nowE (tickE w) = nowE w by omega, ← h5]
    conv => lhs; rw [h5]
    rw [tick_tick (by rw [h2]; exact later_now (by omega)), ← h5]
theorem comes_ticks {m w : Nat} (hm : m < 18446744073709551616) (h : comesE m w = true) : ∀ k, comesE m (ticksN k w) = true
  | 0 => h
  | k + 1 => comes_tick hm (comes_ticks hm h k)
theorem gen_ticks {w : Nat} (hw : w < 18446744073709551616) : ∀ k, genE w ≤ genE (ticksN k w)
  | 0 => Nat.le_refl _
  | k + 1 => Nat.le_trans (gen_ticks hw k) (gen_tick (ticksN_lt hw k))
/-- What is known of what a call gives. -/
theorem givesV_end {c : CallD} {ep next : Nat} {was : ItemD} {there : Bool} {g : GivD} (h : givesV c ep next was there = some g) : (g.ans.kind = 10 ∧ g.epoch = (flushE ep c.exp).1 ∧ c.verb = 11) ∨ (g.ans.kind ≠ 10 ∧ g.epoch = ep) := by
  unfold givesV at h
  repeat' split at h
  all_goals (try cases h)
  all_goals (try (first | unfold casG | unfold countG | unfold flushG))
  all_goals (repeat' split)
  all_goals (simp_all [saysG, storesG, hitG, goneG, touchG, numberG])
theorem givesV_ids {c : CallD} {ep next : Nat} {was : ItemD} {there : Bool} {g : GivD} (h : givesV c ep next was there = some g) : g.drawn = (decide (g.ans.kind = 1) || decide (g.ans.kind = 8)) := by
  unfold givesV at h
  repeat' split at h
  all_goals (try cases h)
  all_goals (try (first | unfold casG | unfold countG | unfold flushG))
  all_goals (repeat' split)
  all_goals (simp [saysG, storesG, hitG, goneG, touchG, numberG])
theorem givesV_isx {c : CallD} {ep next : Nat} {was : ItemD} {there : Bool} {g : GivD} (h : givesV c ep next was there = some g) (hp : g.put = true) : (g.isx.gen = genE ep ∧ g.isx.key = c.key) ∨ (there = true ∧ g.isx.gen = was.gen ∧ g.isx.key = was.key) := by
  unfold givesV at h
  repeat' split at h
  all_goals (try cases h)
  all_goals (try (first | unfold casG at hp ⊢ | unfold countG at hp ⊢ | unfold flushG at hp ⊢))
  all_goals (repeat' split at hp)
  all_goals (simp_all [saysG, storesG, hitG, goneG, touchG, numberG])
theorem there_at {L : List ItemD} {k : ByteArray} {ep : Nat} (h : thereL L k ep = true) : atL L k = some (wasL L k) := by
  unfold thereL at h
  unfold wasL
  cases e : atL L k
  · rw [e] at h; cases h
  · rfl
theorem at_key {L : List ItemD} {k : ByteArray} {x : ItemD} (h : atL L k = some x) : x.key = k := by
  have := List.find?_some h
  exact eq_of_beq this
theorem at_mem {L : List ItemD} {k : ByteArray} {x : ItemD} (h : atL L k = some x) : x ∈ L := List.mem_of_find?_eq_some h
theorem at_without {L : List ItemD} {k K : ByteArray} (h : k ≠ K) : atL (withoutL L k) K = atL L K := by
  unfold atL withoutL
  induction L with
  | nil => rfl
  | cons x L ih =>
    by_cases e : x.key = k
    · have e2 : (x.key == K) = false := by rw [e]; exact beq_eq_false_iff_ne.2 h
      rw [List.filter_cons_of_neg (by rw [e]; simp), ih, List.find?_cons_of_neg (by rw [e2]; simp)]
    · rw [List.filter_cons_of_pos (by simp [e])]
      by_cases e2 : x.key = K
      · rw [List.find?_cons_of_pos (by simp [e2]), List.find?_cons_of_pos (by simp [e2])]
      · rw [List.find?_cons_of_neg (by simp [e2]), List.find?_cons_of_neg (by simp [e2]), ih]
theorem at_snoc {L : List ItemD} {K : ByteArray} {y : ItemD} (h : y.key ≠ K) : atL (L ++ [y]) K = atL L K := by
  unfold atL
  rw [List.find?_append, List.find?_cons_of_neg (by simp [h])]
  simp
theorem at_put_self {L : List ItemD} {y : ItemD} : atL (withoutL L y.key ++ [y]) y.key = some y := by
  unfold atL withoutL
  rw [List.find?_append, List.find?_eq_none.2 (by intro x hx; have := (List.mem_filter.1 hx).2; simpa using this)]
  simp
theorem isx_key {m : MapM} {c : CallD} {ep : Nat} {g : GivD} (h : givesM m c ep = some g) (hp : g.put = true) : g.isx.key = c.key := by
  unfold givesM at h
  split at h
  · rcases givesV_isx h hp with ⟨-, e⟩ | ⟨ht, -, e⟩
    · exact e
    · rw [e]; exact at_key (there_at ht)
  · cases h
theorem gives_some {m : MapM} {c : CallD} {ep : Nat} {g : GivD} (h : givesM m c ep = some g) : mayE m c ep = true ∧ givesV c ep (m.ids + 1) (wasL m.L c.key) (thereL m.L c.key ep) = some g := by
  unfold givesM at h
  split at h
  · exact ⟨‹_›, h⟩
  · cases h
/-- A call of another key. -/
theorem does_other {m : MapM} {c : CallD} {ep : Nat} {K : ByteArray} (hk : c.key ≠ K) : atL (doesM m c ep).2.L K = atL m.L K := by
  unfold doesM
  cases hg : givesM m c ep with
  | none => rfl
  | some g =>
    show atL (if g.gone then withoutL m.L c.key else if g.put then withoutL m.L c.key ++ [g.isx] else m.L) K = _
    split
    · exact at_without hk
    · split
      · rename_i hp
        rw [at_snoc (by rw [isx_key hg hp]; exact hk), at_without hk]
      · rfl
theorem does_ids (m : MapM) (c : CallD) (ep : Nat) : (doesM m c ep).2.ids = if (doesM m c ep).1.kind = 1 ∨ (doesM m c ep).1.kind = 8 then m.ids + 1 else m.ids := by
  unfold doesM
  cases hg : givesM m c ep with
  | none => rfl
  | some g =>
    show (if g.drawn then m.ids + 1 else m.ids) = if g.ans.kind = 1 ∨ g.ans.kind = 8 then m.ids + 1 else m.ids
    rw [givesV_ids (gives_some hg).2]
    by_cases h : g.ans.kind = 1 ∨ g.ans.kind = 8
    · rw [if_pos h, if_pos (by simpa using h)]
    · rw [if_neg h, if_neg (by simpa using h)]
/-- The epoch behind a call. -/
theorem does_epoch {m : MapM} {c : CallD} {ep : Nat} (_hm : m.epoch < 18446744073709551616) (he : ep < 18446744073709551616) (hc : comesE m.epoch ep = true) : ((doesM m c ep).1.kind = 10 ∧ c.verb = 11 ∧ genE ep ≤ genE (doesM m c ep).2.epoch) ∨ ((doesM m c ep).1.kind ≠ 10 ∧ comesE (doesM m c ep).2.epoch ep = true) := by
  unfold doesM
  cases hg : givesM m c ep with
  | none => exact .inr ⟨(show noAns.kind ≠ 10 by decide), hc⟩
  | some g =>
    rcases givesV_end (gives_some hg).2 with ⟨h1, h2, h3⟩ | ⟨h1, h2⟩
    · refine .inl ⟨h1, h3, ?_⟩
      show genE ep ≤ genE g.epoch
      rw [h2]
      exact gen_flush he _
    · refine .inr ⟨h1, ?_⟩
      show comesE g.epoch ep = true
      rw [h2]
      exact comes_self he
theorem does_old {m : MapM} {c : CallD} {ep : Nat} (ho : ∀ x ∈ m.L, x.gen ≤ (genE ep : Int)) : ∀ x ∈ (doesM m c ep).2.L, x.gen ≤ (genE ep : Int) := by
  unfold doesM
  cases hg : givesM m c ep with
  | none => exact ho
  | some g =>
    intro x hx
    have hx' : x ∈ (if g.gone then withoutL m.L c.key else if g.put then withoutL m.L c.key ++ [g.isx] else m.L) := hx
    split at hx'
    · exact ho x (mem_without.1 hx').1
    · split at hx'
      · rename_i hp
        rcases List.mem_append.1 hx' with h | h
        · exact ho x (mem_without.1 h).1
        · obtain rfl : x = g.isx := by simpa using h
          rcases givesV_isx (gives_some hg).2 hp with ⟨e, -⟩ | ⟨ht, e, -⟩
          · rw [e]; exact Int.le_refl _
          · rw [e]; exact ho _ (at_mem (there_at ht))
      · exact ho x hx'
/-- What a run leaves. -/
structure RunOk (m : MapM) (ep : Nat) : Prop where
  me : m.epoch < 18446744073709551616
  he : ep < 18446744073709551616
  comes : comesE m.epoch ep = true
  old : ∀ x ∈ m.L, x.gen ≤ (genE ep : Int)
theorem RunOk.new : RunOk newM 0 := ⟨by decide, by decide, comes_self (w := 0) (by decide), fun x hx => by cases hx⟩
theorem RunOk.ticks {m : MapM} {ep : Nat} (h : RunOk m ep) (k : Nat) : RunOk m (ticksN k ep) :=
  ⟨h.me, ticksN_lt h.he k, comes_ticks h.me h.comes k, fun x hx => Int.le_trans (h.old x hx) (by have := gen_ticks h.he k; omega)⟩
theorem RunOk.does {m : MapM} {ep : Nat} (h : RunOk m ep) (c : CallD) : RunOk (doesM m c ep).2 (if (doesM m c ep).1.kind = 10 then (doesM m c ep).2.epoch else ep) := by
  have hb := (does_bound (c := c) h.me h.he).1
  rcases does_epoch (c := c) h.me h.he h.comes with ⟨h1, -, h3⟩ | ⟨h1, h2⟩
  · rw [if_pos h1]
    exact ⟨hb, hb, comes_self hb, fun x hx => Int.le_trans (does_old h.old x hx) (by omega)⟩
  · rw [if_neg h1]
    exact ⟨hb, h.he, h2, does_old h.old⟩
theorem RunOk.run {m : MapM} {ep : Nat} (h : RunOk m ep) (L : List StepD) : RunOk (runL (m, ep) L).1 (runL (m, ep) L).2 := by
  induction L generalizing m ep with
  | nil => exact h
  | cons x L ih => exact ih ((h.ticks (x.ticks % 5)).does x.call)
end Go.Proofs.YtaooangnnlopcaaDoor
