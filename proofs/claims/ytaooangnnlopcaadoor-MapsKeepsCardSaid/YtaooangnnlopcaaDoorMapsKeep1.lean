/- Plain: a record stored, got; a flush, and the ticks behind it. No program in sight. -/
import Derived.Test.YtaooangnnlopcaaDoorMapsKeep0
namespace Go.Proofs.YtaooangnnlopcaaDoor
open Go.RowKit Go.ChangeMaps Go.MapKept
def keepI (c : CallD) (ep i : Nat) : ItemD := ⟨c.key, c.value, c.flags, (i : Int), diesE ep c.exp, genE ep⟩
theorem may_key {m : MapM} {c : CallD} {ep : Nat} (hc : comesE m.epoch ep = true) (hk : okB (bs c.key) = true) : mayE m c ep = true := by
  unfold mayE
  rw [hc, hk]
  simp
theorem does_set {m : MapM} {c : CallD} {ep : Nat} (hv : c.verb = 3) (hc : comesE m.epoch ep = true) (hk : okB (bs c.key) = true) : doesM m c ep = (⟨1, ((m.ids + 1 : Nat) : Int), noItem⟩, ⟨withoutL m.L c.key ++ [keepI c ep (m.ids + 1)], ep, m.ids + 1⟩) := by
  have h : givesM m c ep = some (storesG c ep (m.ids + 1)) := by
    unfold givesM
    rw [may_key hc hk, if_pos rfl]
    unfold givesV
    rw [if_neg (by omega), if_pos hv]
  unfold doesM
  rw [h]
  rfl
def getC (k : ByteArray) : CallD := ⟨1, k, ⟨#[]⟩, 0, 0, 0, 0⟩
theorem gives_get {m : MapM} {k : ByteArray} {ep : Nat} (hc : comesE m.epoch ep = true) (hk : okB (bs k) = true) : givesM m (getC k) ep = some (if thereL m.L k ep then hitG (wasL m.L k) ep else saysG 12 ep) := by
  unfold givesM
  rw [may_key (c := getC k) hc hk, if_pos rfl]
  rfl
theorem isM_get {m : MapM} {k : ByteArray} {ep : Nat} (hc : comesE m.epoch ep = true) (hk : okB (bs k) = true) : isM m (getC k) ep = true ∧ ansM m (getC k) ep = if thereL m.L k ep then ⟨11, 0, wasL m.L k⟩ else ⟨12, 0, noItem⟩ := by
  unfold isM ansM
  rw [gives_get hc hk]
  refine ⟨rfl, ?_⟩
  cases thereL m.L k ep <;> rfl
theorem there_was {L : List ItemD} {k : ByteArray} {ep : Nat} {x : ItemD} (h : atL L k = some x) : thereL L k ep = aliveE x ep ∧ wasL L k = x := by
  unfold thereL wasL
  rw [h]
  exact ⟨rfl, rfl⟩
theorem does_get {m : MapM} {k : ByteArray} {ep : Nat} {x : ItemD} (hc : comesE m.epoch ep = true) (hk : okB (bs k) = true) (ha : atL m.L k = some x) (hl : aliveE x ep = true) : (doesM m (getC k) ep).1 = ⟨11, 0, x⟩ := by
  unfold doesM
  rw [gives_get hc hk, (there_was (ep := ep) ha).1, hl, (there_was (ep := ep) ha).2]
  rfl
/-- Nothing that was there ahead of a flush is found. -/
theorem get_old {m : MapM} {k : ByteArray} {ep : Nat} (ho : ∀ x ∈ m.L, x.gen < (genE ep : Int)) : isM m (getC k) ep = false ∨ (ansM m (getC k) ep).kind = 12 := by
  unfold isM ansM givesM
  by_cases h : mayE m (getC k) ep = true
  · rw [if_pos h]
    refine .inr ?_
    have ht : thereL m.L k ep = false := by
      cases e : thereL m.L k ep
      · rfl
      · exfalso
        have h1 := at_mem (there_at e)
        have h2 := ho _ h1
        unfold thereL at e
        rw [Bool.and_eq_true] at e
        have h3 := e.2
        unfold aliveE at h3
        rw [Bool.and_eq_true] at h3
        have h4 := eq_of_beq h3.2
        omega
    show (match givesV (getC k) ep (m.ids + 1) (wasL m.L k) (thereL m.L k ep) with | some g => g.ans | none => noAns).kind = 12
    rw [ht]
    rfl
  · rw [if_neg h]
    exact .inl rfl
def flushC (n : Nat) : CallD := ⟨11, ⟨#[]⟩, ⟨#[]⟩, 0, (n : Int), 0, 0⟩
theorem does_flush {m : MapM} {ep n : Nat} (hc : comesE m.epoch ep = true) (hg : genE ep ≠ 65535) : doesM m (flushC n) ep = (⟨10, 0, noItem⟩, ⟨m.L, (flushE ep n).1, m.ids⟩) := by
  have h2 : (flushE ep n).2 = true := by
    unfold flushE
    rw [if_neg hg]
    split <;> rfl
  have h : givesM m (flushC n) ep = some ⟨⟨10, 0, noItem⟩, noItem, false, false, false, false, (flushE ep n).1⟩ := by
    unfold givesM
    rw [show mayE m (flushC n) ep = true from by unfold mayE; rw [hc]; rfl, if_pos rfl]
    show some (flushG (flushC n) ep) = _
    unfold flushG
    rw [show (flushE ep (flushC n).exp) = flushE ep n from rfl, if_pos h2]
  unfold doesM
  rw [h]
  rfl
theorem tick_run {n a g : Nat} (ha : a < 16777216) (hg : g < 65536) : ∀ k, n + k < a → ticksN k (putE n a g) = putE (n + k) a g
  | 0, _ => rfl
  | k + 1, h => by
    show tickE (ticksN k (putE n a g)) = _
    rw [tick_run ha hg k (by omega)]
    unfold tickE
    rw [now_put (by omega), at_put ha, gen_put hg, show min (n + k + 1) 16777215 = n + (k + 1) by omega, if_neg (by omega)]
theorem flush_ticks {ep n : Nat} (he : ep < 18446744073709551616) (hg : genE ep ≠ 65535) (hn : nowE ep + n ≤ 16777215) : ticksN n (flushE ep n).1 = putE (nowE ep + n) 0 (genE ep + 1) := by
  have hgl := gen_lt he
  unfold flushE
  rw [if_neg hg]
  match n, hn with
  | 0, _ => rfl
  | k + 1, hn =>
    rw [if_pos (by omega)]
    show tickE (ticksN k (putE (nowE ep) (nowE ep + (min ((k + 1 : Nat) : Int) (16777215 - (nowE ep : Int))).toNat) (genE ep))) = _
    rw [show (min ((k + 1 : Nat) : Int) (16777215 - (nowE ep : Int))).toNat = k + 1 by omega, tick_run (by omega) hgl k (by omega)]
    unfold tickE
    rw [now_put (by omega), at_put (by omega), gen_put hgl, show min (nowE ep + k + 1) 16777215 = nowE ep + (k + 1) by omega, if_pos (by omega), show min (genE ep + 1) 65535 = genE ep + 1 by omega]
/-- The map behind a flush whose ticks are over. -/
structure Flushed (m : MapM) (ep : Nat) : Prop where
  me : m.epoch < 18446744073709551616
  he : ep < 18446744073709551616
  comes : comesE m.epoch ep = true
  old : ∀ x ∈ m.L, x.gen < (genE ep : Int)
theorem flushed {m : MapM} {ep n : Nat} (h : RunOk m ep) (hg : genE ep ≠ 65535) (hn : nowE ep + n ≤ 16777215) : Flushed ⟨m.L, (flushE ep n).1, m.ids⟩ (ticksN n (flushE ep n).1) := by
  have hf := flushE_lt h.he n
  have hgl := gen_lt h.he
  refine ⟨hf, ticksN_lt hf n, comes_ticks hf (comes_self hf) n, fun x hx => ?_⟩
  have := h.old x hx
  rw [flush_ticks h.he hg hn, gen_put (by omega)]
  omega
/-- What is stored then is found. -/
theorem flushed_get {m : MapM} {ep : Nat} {c : CallD} (hv : c.verb = 3) (hx : c.exp = 0) (h : Flushed m ep) (hk : okB (bs c.key) = true) : (doesM (doesM m c ep).2 (getC c.key) ep).1.kind = 11 := by
  rw [does_set hv h.comes hk]
  rw [does_get (x := keepI c ep (m.ids + 1)) (comes_self h.he) hk (at_put_self (y := keepI c ep (m.ids + 1))) (by
    unfold aliveE keepI
    rw [hx]
    show ((diesE ep 0 == -1 || _) && ((genE ep : Int) == (genE ep : Int))) = true
    rw [show (diesE ep 0 == -1) = true from by unfold diesE; rfl]
    simp)]
end Go.Proofs.YtaooangnnlopcaaDoor
