/- What each function of a connection does, in one form; how much there may be. Condition: the library's variables are as they are laid. -/
import Derived.Test.YtnkkoicbnbjlnaaGreatDoorConnDone
import Derived.Test.YtnkkoicbnbjlnaaGreatDoorCoB
namespace Go.Proofs.YtnkkoicbnbjlnaaGreatDoor
set_option maxRecDepth 100000
set_option maxHeartbeats 8000000
open Go.RowKit Go.ChangeMaps Go.MapKept
structure FitM (B K : Nat) (m : ConnM) : Prop where
 good : GoodM m
 gf : GoodF m.feed
 gc : GoodC m.feed
 held : m.feed.held.length ≤ B
 wok : ∀ e ∈ m.wait, EvC e
 wlen : m.wait.length ≤ B
 calls : m.calls.length ≤ 4096
 out : m.out.length ≤ K
theorem fit_new (K : Nat) : FitM 0 K cNew := ⟨good_new, goodF_new, goodC_new, Nat.zero_le _, (fun _ h => nomatch h), Nat.zero_le _, Nat.zero_le _, Nat.zero_le _⟩
theorem turns_small : ∀ (L : List Ev) (o : List UInt8) (cl : Bool), (∀ e ∈ L, EvC e) → (turnsM L o cl).calls.length ≤ 4096 ∧ ∃ t, (turnsM L o cl).out = o ++ t ∧ t.length ≤ 200 * L.length
 | [], o, cl, _ => ⟨Nat.zero_le _, [], by rw [List.append_nil]; rfl, Nat.zero_le _⟩
 | e :: es, o, cl, h => by
  unfold turnsM
  split
  ·exact ⟨Nat.zero_le _, [], by simp, by simp⟩
  ·split
   ·obtain ⟨h1, t2, h2, h3⟩ := turns_small es (quietE e o) cl (fun x hx => h x (List.mem_cons_of_mem _ hx))
    obtain ⟨t1, h4, h5⟩ := quiet_prefix e o
    refine ⟨h1, t1 ++ t2, by rw [h2, h4, List.append_assoc], ?_⟩
    rw [List.length_append, List.length_cons]
    omega
   ·exact ⟨Nat.le_trans (callsE_len (h e (List.mem_cons_self ..)).ok) (by omega), [], by simp, by simp⟩
theorem on_small {m : ConnM} (h : ∀ e ∈ m.wait, EvC e) (hc : m.calls.length ≤ 4096) : (onM m).calls.length ≤ 4096 ∧ ∃ t, (onM m).out = m.out ++ t ∧ t.length ≤ 200 * m.wait.length := by
 unfold onM
 split
 ·exact turns_small m.wait m.out m.closed h
 ·exact ⟨hc, [], by simp, by simp⟩
theorem FitM.in {B K : Nat} {m : ConnM} (h : FitM B K m) (b : List UInt8) : FitM (B + b.length) (K + 200 * (B + b.length)) (inM m b) ∧ ∃ t, (inM m b).out = m.out ++ t := by
 have hg := in_good h.good b
 cases hcl : m.closed
 ·have hin : inM m b = onM { m with feed := (runF m.feed b).1, wait := m.wait ++ (runF m.feed b).2 } := by unfold inM; rw [hcl, if_neg (by simp)]
  obtain ⟨o1, o2, o3, o4⟩ := on_wait { m with feed := (runF m.feed b).1, wait := m.wait ++ (runF m.feed b).2 }
  obtain ⟨r1, r2⟩ := run_okC (bl := b) h.gc
  have hw : ∀ e ∈ m.wait ++ (runF m.feed b).2, EvC e := fun e he => (List.mem_append.1 he).elim (h.wok e) (r2 e)
  have hwl : (m.wait ++ (runF m.feed b).2).length ≤ B + b.length := by
   have h1 := run_few b m.feed
   have h2 := h.wlen
   rw [List.length_append]; omega
  obtain ⟨p1, t, p2, p3⟩ := on_small (m := { m with feed := (runF m.feed b).1, wait := m.wait ++ (runF m.feed b).2 }) hw h.calls
  rw [hin] at hg ⊢
  refine ⟨⟨hg, by rw [o3]; exact goodF_run _ _ h.gf, by rw [o3]; exact r1, ?_, fun e he => hw e (o1 e he), Nat.le_trans o2 hwl, p1, ?_⟩, t, p2⟩
  ·rw [o3]
   have h1 := heldF_run b m.feed
   have h2 := h.held
   show (runF m.feed b).1.held.length ≤ _
   omega
  ·rw [p2, List.length_append]
   have h1 := h.out
   have p3 : t.length ≤ 200 * (m.wait ++ (runF m.feed b).2).length := p3
   show m.out.length + _ ≤ _
   omega
 ·have hin : inM m b = m := by unfold inM; rw [hcl, if_pos rfl]
  rw [hin]
  exact ⟨⟨h.good, h.gf, h.gc, Nat.le_trans h.held (by omega), h.wok, Nat.le_trans h.wlen (by omega), h.calls, Nat.le_trans h.out (by omega)⟩, [], by simp⟩
theorem FitM.took {B K : Nat} {m : ConnM} (h : FitM B K m) : FitM B K (tookM m) := by
 have hg := took_good h.good
 unfold tookM at hg ⊢
 split
 ·exact h
 ·rename_i hc
  rw [if_neg hc] at hg
  exact ⟨hg, h.gf, h.gc, h.held, h.wok, h.wlen, h.calls, h.out⟩
theorem FitM.done {B K : Nat} {m : ConnM} (h : FitM B K m) {a : AnsD} (ha : a.Ok) (hs : a.item.key.size + a.item.value.size ≤ 1048576) (hc : m.calls ≠ []) : FitM B (K + 2300000 + 200 * B) (doneM m a) ∧ ∃ t, (doneM m a).out = m.out ++ t := by
 have hg := done_good h.good a hc
 obtain ⟨d1, d2, d3⟩ := done_wait m a
 obtain ⟨e, es, h1, -, -⟩ := h.good.turn hc
 have hout : (doneM m a).calls.length ≤ 4096 ∧ ∃ t, (doneM m a).out = m.out ++ t ∧ t.length ≤ 2300000 + 200 * B := by
  have hwe := h.wlen
  rw [h1, List.length_cons] at hwe
  have hes : ∀ x ∈ es, EvC x := fun x hx => h.wok x (by rw [h1]; exact List.mem_cons_of_mem _ hx)
  unfold doneM
  rw [h1]
  dsimp only
  split
  ·obtain ⟨p1, t, p2, p3⟩ := on_small (m := { m with wait := es, calls := [], under := false, out := m.out ++ tellM e.cmd a true }) hes (Nat.zero_le _)
   refine ⟨p1, tellM e.cmd a true ++ t, by rw [p2, List.append_assoc], ?_⟩
   have p3 : t.length ≤ 200 * es.length := p3
   have h2 := tellM_len e.cmd a ha hs true
   rw [List.length_append]; omega
  ·refine ⟨?_, _, rfl, ?_⟩
   ·have := h.calls
    show m.calls.tail.length ≤ _
    rw [List.length_tail]; omega
   ·have h2 := tellM_len e.cmd a ha hs false
    omega
 obtain ⟨c1, t, c2, c3⟩ := hout
 refine ⟨⟨hg, by rw [d3]; exact h.gf, by rw [d3]; exact h.gc, by rw [d3]; exact h.held, fun x hx => h.wok x (d1 x hx), Nat.le_trans d2 h.wlen, c1, ?_⟩, t, c2⟩
 rw [c2, List.length_append]
 have := h.out
 omega
theorem FitM.mono {B K B' K' : Nat} {m : ConnM} (h : FitM B K m) (hB : B ≤ B') (hK : K ≤ K') : FitM B' K' m :=
 ⟨h.good, h.gf, h.gc, Nat.le_trans h.held hB, h.wok, Nat.le_trans h.wlen hB, h.calls, Nat.le_trans h.out hK⟩
section
variable {n₀ : Nat} {w : World} {p : Nat} {m : ConnM} {S : Nat → Prop} {B K : Nat}
theorem out_is (h : ConnIs n₀ w p m S) : Calls Tryz.prog 30 #[.pointer (some ⟨p, 0, none⟩)] w fun e w' => e = .returned (sv m.out) ∧ w = w' := by
 obtain ⟨hv, ks, wv, cv, ov, L, h, rfl⟩ := h
 exact connOut_any h
theorem left_is32 (h : ConnIs n₀ w p m S) (hf : FitM B K m) (hB : B ≤ 1000000) : Calls Tryz.prog 78 #[.pointer (some ⟨p, 0, none⟩)] w fun e w' => e = .returned (.int .i64 (leftM m : Int)) ∧ Below w.heap.size w w' := by
 obtain ⟨hv, ks, wv, cv, ov, L, h, rfl⟩ := h
 exact connLeft_any h hf.good ⟨Nat.le_trans hf.calls (by omega), Nat.le_trans hf.wlen hB⟩
def nextC (m : ConnM) : Cmd := (nextM m).getD noCmd
theorem took_none (h : GoodM m) (hn : nextM m = none) : tookM m = m := by
 unfold nextM at hn
 unfold tookM
 cases hu : m.under
 ·rw [hu, if_neg (by simp)] at hn
  rw [if_pos (List.head?_eq_none_iff.1 hn)]
 ·rw [if_neg (h.under hu)]
  obtain ⟨f, wt, cl, u, o', cd⟩ := m
  dsimp only at hu
  rw [hu]
theorem next_is (h : ConnIs n₀ w p m S) (hg : GoodM m) : Calls Tryz.prog 71 #[.pointer (some ⟨p, 0, none⟩)] w fun e w' => e = .returned (.tuple #[.agg (callCells (nextC m)).toArray, .bool (nextM m).isSome]) ∧ CStep n₀ w p S (tookM m) w' := by
 obtain ⟨hv, ks, wv, cv, ov, L, h, rfl⟩ := h
 unfold nextC
 cases hn : nextM m with
 | none =>
  refine (connNext_none h hn).mono ?_
  rintro e w' ⟨rfl, hb⟩
  refine ⟨rfl, ?_⟩
  rw [took_none hg hn]
  exact CStep.of_below h.is hb
 | some c =>
  refine (connNext_some h hn).mono ?_
  rintro e w' ⟨rfl, hc, hch⟩
  exact ⟨rfl, _, hc.is, hch.mono (fun _ _ e => .inl e), fun _ e => .inl e⟩
def afterM (m : ConnM) (a : AnsD) : ConnM := if m.under = true then doneM m a else m
theorem FitM.after (h : FitM B K m) {a : AnsD} (ha : a.Ok) (hs : a.item.key.size + a.item.value.size ≤ 1048576) : FitM B (K + 2300000 + 200 * B) (afterM m a) ∧ ∃ t, (afterM m a).out = m.out ++ t := by
 unfold afterM
 split
 ·rename_i hu
  exact h.done ha hs (h.good.under hu)
 ·exact ⟨h.mono (Nat.le_refl _) (by omega), [], by simp⟩
theorem done_is (h : ConnIs n₀ w p m S) (hE : EnvP n₀ w) (hn : n₀ ≤ w.heap.size) (hf : FitM B K m) (hB : B ≤ 1000000) (hK : K ≤ 1000000000000) (a : AnsD) (ha : a.Ok) (hs : a.item.key.size + a.item.value.size ≤ 1048576) :
  Calls Tryz.prog 73 #[.pointer (some ⟨p, 0, none⟩), a.val] w fun e w' => e = .returned (.int .i64 (if m.under then 0 else 2)) ∧ CStep n₀ w p S (afterM m a) w' := by
 unfold afterM
 cases hu : m.under
 ·exact connDone_none h hu a
 ·exact connDone_some h hE hn hf.good hu a ha hs hf.wok (Nat.le_trans hf.wlen (by omega)) (Nat.le_trans hf.out (by omega))
theorem in_is {bv : Value} {bl : List UInt8} (h : ConnIs n₀ w p m S) (hE : EnvP n₀ w) (hn : n₀ ≤ w.heap.size) (hf : FitM B K m) (hB : B + bl.length ≤ 1000000) (hK : K ≤ 1000000000000)
  (hb : BRow w bv bl) (hbs : bl ≠ [] → ∀ g, bv.ownBlock = some g → g < n₀ ∨ Tag w g 5) (hbh : bl ≠ [] → ∀ g, bv.ownBlock = some g → ¬ S g) :
  Calls Tryz.prog 47 #[.pointer (some ⟨p, 0, none⟩), bv] w fun e w' => (∃ v, e = .returned v) ∧ CStep n₀ w p S (inM m bl) w' :=
 connIn_any h hE.env hn hf.gf hf.gc (by have := hf.held; omega) hb hbs hbh hf.wok (by have := hf.wlen; omega) (by have := hf.out; omega)
end
structure CJ (w : World) (p : Nat) (m : ConnM) (W : World) (S : Nat → Prop) : Prop where
 is : ConnIs w.heap.size W p m S
 env : EnvP w.heap.size W
 low : Below w.heap.size w W
section
variable {w W W' : World} {p : Nat} {m m' : ConnM} {S : Nat → Prop}
end
end Go.Proofs.YtnkkoicbnbjlnaaGreatDoor
