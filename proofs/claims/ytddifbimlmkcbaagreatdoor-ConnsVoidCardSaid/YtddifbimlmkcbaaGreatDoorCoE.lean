/- What each function of a connection does, in one form; how much there may be. Condition: the library's variables are as they are laid. The chapter's example of layer 32 holds: 'lives' answers true. Condition: the library's variables are as they are laid. -/
import Derived.Test.YtddifbimlmkcbaaGreatDoorConnDone
import Derived.Test.YtddifbimlmkcbaaGreatDoorCoB
namespace Go.Proofs.YtddifbimlmkcbaaGreatDoor
open Go.RowKit Go.ChangeMaps Go.MapKept
/-- How much a connection has: B bytes came, at most K were told. -/
structure FitM (B K : Nat) (m : ConnM) : Prop where
  good : GoodM m
  gf : GoodF m.feed
  gc : GoodC m.feed
  held : m.feed.held.length ≤ B
  wok : ∀ e ∈ m.wait, EvC e
  wlen : m.wait.length ≤ B
  calls : m.calls.length ≤ 4096
  out : m.out.length ≤ K
theorem fit_new (K : Nat) : FitM 0 K cNew := ⟨good_new, goodF_new, goodC_new, Nat.zero_le _, (fun _ h => nomatch h), Nat.zero_le _, Nat.zero_le _, Nat.zero_le _⟩
theorem turns_small : ∀ (L : List Ev) (o : List UInt8) (cl : Bool), (∀ e ∈ L, EvC e) → (turnsM L o cl).calls.length ≤ 4096 ∧ ∃ t, (turnsM L o cl).out = o ++ t ∧ t.length ≤ 200 * L.length
  | [], o, cl, _ => ⟨Nat.zero_le _, [], by rw [List.append_nil]; rfl, Nat.zero_le _⟩
  | e :: es, o, cl, h => by
    unfold turnsM
    split
    · exact ⟨Nat.zero_le _, [], by simp, by simp⟩
    · split
      · obtain ⟨h1, t2, h2, h3⟩ := turns_small es (quietE e o) cl (fun x hx => h x (List.mem_cons_of_mem _ hx))
        obtain ⟨t1, h4, h5⟩ := quiet_prefix e o
        refine ⟨h1, t1 ++ t2, by rw [h2, h4, List.append_assoc], ?_⟩
        rw [List.length_append, List.length_cons]
        omega
      · exact ⟨Nat.le_trans (callsE_len (h e (List.mem_cons_self ..)).ok) (by omega), [], by simp, by simp⟩
theorem on_small {m : ConnM} (h : ∀ e ∈ m.wait, EvC e) (hc : m.calls.length ≤ 4096) : (onM m).calls.length ≤ 4096 ∧ ∃ t, (onM m).out = m.out ++ t ∧ t.length ≤ 200 * m.wait.length := by
  unfold onM
  split
  · exact turns_small m.wait m.out m.closed h
  · exact ⟨hc, [], by simp, by simp⟩
theorem FitM.in {B K : Nat} {m : ConnM} (h : FitM B K m) (b : List UInt8) : FitM (B + b.length) (K + 200 * (B + b.length)) (inM m b) ∧ ∃ t, (inM m b).out = m.out ++ t := by
  have hg := in_good h.good b
  cases hcl : m.closed
  · have hin : inM m b = onM { m with feed := (runF m.feed b).1, wait := m.wait ++ (runF m.feed b).2 } := by unfold inM; rw [hcl, if_neg (by simp)]
    obtain ⟨o1, o2, o3, o4⟩ := on_wait { m with feed := (runF m.feed b).1, wait := m.wait ++ (runF m.feed b).2 }
    obtain ⟨r1, r2⟩ := run_okC (bl := b) h.gc
    have hw : ∀ e ∈ m.wait ++ (runF m.feed b).2, EvC e := fun e he => (List.mem_append.1 he).elim (h.wok e) (r2 e)
    have hwl : (m.wait ++ (runF m.feed b).2).length ≤ B + b.length := by
      have h1 := run_few b m.feed
      have h2 := h.wlen
      rw [List.length_append]; omega
    obtain ⟨p1, t, p2, p3⟩ := on_small (m := { m with feed := (runF m.feed b).1, wait := m.wait ++ (runF m.feed b).2 }) hw h.calls
    rw [hin] at hg ⊢
    refine ⟨⟨hg, by rw [o3]; exact goodF_run _ _ h.gf, by rw [o3]; exact r1, ?_, fun e he => hw e (o1 e he), Nat.le_trans o2 hwl, p1, ?_⟩, t, p2⟩
    · rw [o3]
      have h1 := heldF_run b m.feed
      have h2 := h.held
      show (runF m.feed b).1.held.length ≤ _
      omega
    · rw [p2, List.length_append]
      have h1 := h.out
      have p3 : t.length ≤ 200 * (m.wait ++ (runF m.feed b).2).length := p3
      show m.out.length + _ ≤ _
      omega
  · have hin : inM m b = m := by unfold inM; rw [hcl, if_pos rfl]
    rw [hin]
    exact ⟨⟨h.good, h.gf, h.gc, Nat.le_trans h.held (by omega), h.wok, Nat.le_trans h.wlen (by omega), h.calls, Nat.le_trans h.out (by omega)⟩, [], by simp⟩
theorem FitM.took {B K : Nat} {m : ConnM} (h : FitM B K m) : FitM B K (tookM m) := by
  have hg := took_good h.good
  unfold tookM at hg ⊢
  split
  · exact h
  · rename_i hc
    rw [if_neg hc] at hg
    exact ⟨hg, h.gf, h.gc, h.held, h.wok, h.wlen, h.calls, h.out⟩
theorem FitM.done {B K : Nat} {m : ConnM} (h : FitM B K m) {a : AnsD} (ha : a.Ok) (hs : a.item.key.size + a.item.value.size ≤ 1048576) (hc : m.calls ≠ []) : FitM B (K + 2300000 + 200 * B) (doneM m a) ∧ ∃ t, (doneM m a).out = m.out ++ t := by
  have hg := done_good h.good a hc
  obtain ⟨d1, d2, d3⟩ := done_wait m a
  obtain ⟨e, es, h1, -, -⟩ := h.good.turn hc
  have hout : (doneM m a).calls.length ≤ 4096 ∧ ∃ t, (doneM m a).out = m.out ++ t ∧ t.length ≤ 2300000 + 200 * B := by
    have hwe := h.wlen
    rw [h1, List.length_cons] at hwe
    have hes : ∀ x ∈ es, EvC x := fun x hx => h.wok x (by rw [h1]; exact List.mem_cons_of_mem _ hx)
    unfold doneM
    rw [h1]
    dsimp only
    split
    · obtain ⟨p1, t, p2, p3⟩ := on_small (m := { m with wait := es, calls := [], under := false, out := m.out ++ tellM e.cmd a true }) hes (Nat.zero_le _)
      refine ⟨p1, tellM e.cmd a true ++ t, by rw [p2, List.append_assoc], ?_⟩
      have p3 : t.length ≤ 200 * es.length := p3
      have h2 := tellM_len e.cmd a ha hs true
      rw [List.length_append]; omega
    · refine ⟨?_, _, rfl, ?_⟩
      · have := h.calls
        show m.calls.tail.length ≤ _
        rw [List.length_tail]; omega
      · have h2 := tellM_len e.cmd a ha hs false
        omega
  obtain ⟨c1, t, c2, c3⟩ := hout
  refine ⟨⟨hg, by rw [d3]; exact h.gf, by rw [d3]; exact h.gc, by rw [d3]; exact h.held, fun x hx => h.wok x (d1 x hx), Nat.le_trans d2 h.wlen, c1, ?_⟩, t, c2⟩
  rw [c2, List.length_append]
  have := h.out
  omega
theorem FitM.mono {B K B' K' : Nat} {m : ConnM} (h : FitM B K m) (hB : B ≤ B') (hK : K ≤ K') : FitM B' K' m :=
  ⟨h.good, h.gf, h.gc, Nat.le_trans h.held hB, h.wok, Nat.le_trans h.wlen hB, h.calls, Nat.le_trans h.out hK⟩
section
variable {n₀ : Nat} {w : World} {p : Nat} {m : ConnM} {S : Nat → Prop} {B K : Nat}
theorem closed_is (h : ConnIs n₀ w p m S) : Calls Tryz.prog 18 #[.pointer (some ⟨p, 0, none⟩)] w fun e w' => e = .returned (.bool m.closed) ∧ w = w' := by
  obtain ⟨hv, ks, wv, cv, ov, L, h, rfl⟩ := h
  exact connClosed_any h
theorem out_is (h : ConnIs n₀ w p m S) : Calls Tryz.prog 19 #[.pointer (some ⟨p, 0, none⟩)] w fun e w' => e = .returned (sv m.out) ∧ w = w' := by
  obtain ⟨hv, ks, wv, cv, ov, L, h, rfl⟩ := h
  exact connOut_any h
theorem left_is32 (h : ConnIs n₀ w p m S) (hf : FitM B K m) (hB : B ≤ 1000000) : Calls Tryz.prog 29 #[.pointer (some ⟨p, 0, none⟩)] w fun e w' => e = .returned (.int .i64 (leftM m : Int)) ∧ Below w.heap.size w w' := by
  obtain ⟨hv, ks, wv, cv, ov, L, h, rfl⟩ := h
  exact connLeft_any h hf.good ⟨Nat.le_trans hf.calls (by omega), Nat.le_trans hf.wlen hB⟩
/-- The call that Next tells; none: the zero one. -/
def nextC (m : ConnM) : Cmd := (nextM m).getD noCmd
theorem took_none (h : GoodM m) (hn : nextM m = none) : tookM m = m := by
  unfold nextM at hn
  unfold tookM
  cases hu : m.under
  · rw [hu, if_neg (by simp)] at hn
    rw [if_pos (List.head?_eq_none_iff.1 hn)]
  · rw [if_neg (h.under hu)]
    obtain ⟨f, wt, cl, u, o', cd⟩ := m
    dsimp only at hu
    rw [hu]
theorem next_is (h : ConnIs n₀ w p m S) (hg : GoodM m) : Calls Tryz.prog 26 #[.pointer (some ⟨p, 0, none⟩)] w fun e w' => e = .returned (.tuple #[.agg (callCells (nextC m)).toArray, .bool (nextM m).isSome]) ∧ CStep n₀ w p S (tookM m) w' := by
  obtain ⟨hv, ks, wv, cv, ov, L, h, rfl⟩ := h
  unfold nextC
  cases hn : nextM m with
  | none =>
    refine (connNext_none h hn).mono ?_
    rintro e w' ⟨rfl, hb⟩
    refine ⟨rfl, ?_⟩
    rw [took_none hg hn]
    exact CStep.of_below h.is hb
  | some c =>
    refine (connNext_some h hn).mono ?_
    rintro e w' ⟨rfl, hc, hch⟩
    exact ⟨rfl, _, hc.is, hch.mono (fun _ _ e => .inl e), fun _ e => .inl e⟩
/-- What Done leaves. -/
def afterM (m : ConnM) (a : AnsD) : ConnM := if m.under = true then doneM m a else m
theorem FitM.after (h : FitM B K m) {a : AnsD} (ha : a.Ok) (hs : a.item.key.size + a.item.value.size ≤ 1048576) : FitM B (K + 2300000 + 200 * B) (afterM m a) ∧ ∃ t, (afterM m a).out = m.out ++ t := by
  unfold afterM
  split
  · rename_i hu
    exact h.done ha hs (h.good.under hu)
  · exact ⟨h.mono (Nat.le_refl _) (by omega), [], by simp⟩
theorem done_is (h : ConnIs n₀ w p m S) (hE : EnvP n₀ w) (hn : n₀ ≤ w.heap.size) (hf : FitM B K m) (hB : B ≤ 1000000) (hK : K ≤ 1000000000000) (a : AnsD) (ha : a.Ok) (hs : a.item.key.size + a.item.value.size ≤ 1048576) :
    Calls Tryz.prog 24 #[.pointer (some ⟨p, 0, none⟩), a.val] w fun e w' => e = .returned (.int .i64 (if m.under then 0 else 2)) ∧ CStep n₀ w p S (afterM m a) w' := by
  unfold afterM
  cases hu : m.under
  · exact connDone_none h hu a
  · exact connDone_some h hE hn hf.good hu a ha hs hf.wok (Nat.le_trans hf.wlen (by omega)) (Nat.le_trans hf.out (by omega))
theorem in_is {bv : Value} {bl : List UInt8} (h : ConnIs n₀ w p m S) (hE : EnvP n₀ w) (hn : n₀ ≤ w.heap.size) (hf : FitM B K m) (hB : B + bl.length ≤ 1000000) (hK : K ≤ 1000000000000)
    (hb : BRow w bv bl) (hbs : bl ≠ [] → ∀ g, bv.ownBlock = some g → g < n₀ ∨ Tag w g 5) (hbh : bl ≠ [] → ∀ g, bv.ownBlock = some g → ¬ S g) :
    Calls Tryz.prog 22 #[.pointer (some ⟨p, 0, none⟩), bv] w fun e w' => (∃ v, e = .returned v) ∧ CStep n₀ w p S (inM m bl) w' :=
  connIn_any h hE.env hn hf.gf hf.gc (by have := hf.held; omega) hb hbs hbh hf.wok (by have := hf.wlen; omega) (by have := hf.out; omega)
end
/-- A connection that was made behind the world w. -/
structure CJ (w : World) (p : Nat) (m : ConnM) (W : World) (S : Nat → Prop) : Prop where
  is : ConnIs w.heap.size W p m S
  env : EnvP w.heap.size W
  low : Below w.heap.size w W
section
variable {w W W' : World} {p : Nat} {m m' : ConnM} {S : Nat → Prop}
theorem CJ.chg (h : CJ w p m W S) (hc : Chg S W W') : Below w.heap.size w W' ∧ EnvP w.heap.size W' :=
  ⟨h.low.trans (hc.below (fun k hk => ⟨Nat.lt_of_lt_of_le hk h.low.size, fun e => by have := h.is.low e; omega⟩)), h.env.chg hc (fun k hk => h.is.low hk)⟩
theorem CJ.step (h : CJ w p m W S) (hs : CStep w.heap.size W p S m' W') : ∃ S', CJ w p m' W' S' ∧ Chg S W W' ∧ ∀ k, S' k → S k ∨ W.heap.size ≤ k := by
  obtain ⟨S', h1, h2, h3⟩ := hs
  exact ⟨S', ⟨h1, (h.chg h2).2, (h.chg h2).1⟩, h2, h3⟩
theorem CJ.below (h : CJ w p m W S) (hb : Below W.heap.size W W') : CJ w p m W' S :=
  ⟨h.is.below hb, h.env.chg (M := fun _ => False) (Chg.of_below hb) (fun _ e => e.elim), h.low.trans (hb.mono h.low.size)⟩
theorem CJ.new {w : World} (hE : EnvP w.heap.size w) {W : World} (hc : ConnAt w.heap.size W w.heap.size (.slice none 0 0) (.slice none 0 0) (.slice none 0 0) (.slice none 0 0) (.slice none 0 0) [] cNew) (hb : Below w.heap.size w W) : ∃ S, CJ w w.heap.size cNew W S :=
  ⟨_, hc.is, hE.chg (M := fun _ => False) (Chg.of_below hb) (fun _ e => e.elim), hb⟩
/-- Bytes that were laid new. -/
theorem in_lit32 {B K : Nat} (h : CJ w p m W S) (hf : FitM B K m) (bl : List UInt8) (hB : B + bl.length ≤ 1000000) (hK : K ≤ 1000000000000) :
    Calls Tryz.prog 22 #[.pointer (some ⟨p, 0, none⟩), .slice (some ⟨W.heap.size, 0, none⟩) bl.length bl.length] (W.alloc (litB bl)) fun e w' => (∃ v, e = .returned v) ∧ CStep w.heap.size W p S (inM m bl) w' := by
  have hb : Below W.heap.size W (W.alloc (litB bl)) := (Below.refl _ _).alloc (Nat.le_refl _) _
  have hj := h.below hb
  refine (in_is hj.is hj.env hj.low.size hf hB hK (row_new W bl (by unfold maxLen; omega)).bytes (fun _ g hg => .inr ((row_new W bl (by unfold maxLen; omega)).tag hg)) (fun _ g hg e => ?_)).mono ?_
  · obtain rfl : W.heap.size = g := by simpa [Value.ownBlock] using hg
    have := h.is.far e
    omega
  · rintro e w' ⟨hv, S', h1, h2, h3⟩
    refine ⟨hv, S', h1, (Chg.of_below hb).then (M' := S) h2 (fun _ _ e => e), fun k hk => (h3 k hk).imp id (fun h => Nat.le_trans hb.size h)⟩
end
end Go.Proofs.YtddifbimlmkcbaaGreatDoor
namespace Go.Proofs.YtddifbimlmkcbaaGreatDoor
open Go.RowKit Go.ChangeMaps Go.MapKept
def missA : AnsD := ⟨12, 0, ⟨⟨#[]⟩, ⟨#[]⟩, 0, 0, 0, 0⟩⟩
theorem missA_ok : missA.Ok := ⟨by decide, by decide, ⟨by decide, by decide, by decide, by decide⟩⟩
theorem missA_small : missA.item.key.size + missA.item.value.size ≤ 1048576 := by decide
def lt32 : List UInt8 := [103, 101, 116, 32, 97, 32, 98, 10, 118, 101, 114, 115, 105, 111, 110, 10, 115, 101, 116, 32, 97, 32, 48, 32, 48, 32, 49, 10, 120, 13, 10]
def lm1 : ConnM := inM cNew lt32
def lm2 : ConnM := tookM lm1
def lm3 : ConnM := afterM lm2 missA
def lm4 : ConnM := tookM lm3
def lm5 : ConnM := afterM lm4 missA
def lm6 : ConnM := tookM lm5
def lcA : Cmd := ⟨1, [[97], [98]], 1, [97], [], 0, 0, 0, 0, -1, false⟩
def lcB : Cmd := ⟨1, [[97], [98]], 1, [98], [], 0, 0, 0, 0, -1, false⟩
def lcS : Cmd := ⟨3, [[97]], 3, [97], [120], 0, 0, 0, 0, 1, false⟩
theorem l1a : nextC lm1 = lcA := by kernel_rfl
theorem l1b : (nextM lm1).isSome = true := by kernel_rfl
theorem l2a : nextC lm2 = noCmd := by kernel_rfl
theorem l2b : (nextM lm2).isSome = false := by kernel_rfl
theorem l2d : tookM lm2 = lm2 := by kernel_rfl
theorem l2c : lm2.under = true := by kernel_rfl
theorem l3a : nextC lm3 = lcB := by kernel_rfl
theorem l3b : (nextM lm3).isSome = true := by kernel_rfl
theorem l4c : lm4.under = true := by kernel_rfl
theorem l5a : nextC lm5 = lcS := by kernel_rfl
theorem l5b : (nextM lm5).isSome = true := by kernel_rfl
theorem l6d : lm6.out = [69, 78, 68, 13, 10] ++ versionL := by kernel_rfl
theorem lf1 : FitM 31 6200 lm1 := (fit_new 0).in lt32 |>.1.mono (by decide) (by decide)
theorem lf2 : FitM 31 6200 lm2 := lf1.took
theorem lf3 : FitM 31 2400000 lm3 := (lf2.after missA_ok missA_small).1.mono (by decide) (by decide)
theorem lf4 : FitM 31 2400000 lm4 := lf3.took
theorem lf5 : FitM 31 4800000 lm5 := (lf4.after missA_ok missA_small).1.mono (by decide) (by decide)
/-- A block that no connection changes. -/
structure Bx (b : Nat) (cs : Array Value) (t : TypeId) (W : World) (S : Nat → Prop) : Prop where
  box : W.heap[b]? = some (.cells cs t (0, 0))
  free : ¬ S b
theorem Bx.step {b : Nat} {cs : Array Value} {t : TypeId} {W W' : World} {S S' : Nat → Prop} (h : Bx b cs t W S) (hc : Chg S W W') (hf : ∀ k, S' k → S k ∨ W.heap.size ≤ k) : Bx b cs t W' S' :=
  ⟨hc.obj h.box h.free, fun e => (hf b e).elim h.free (fun h2 => by have := (Array.getElem?_eq_some_iff.1 h.box).1; omega)⟩
theorem Bx.below {b : Nat} {cs : Array Value} {t : TypeId} {W W' : World} {S : Nat → Prop} (h : Bx b cs t W S) (hb : Below W.heap.size W W') : Bx b cs t W' S :=
  ⟨(Chg.of_below (M := fun _ => False) hb).obj h.box (fun e => e), h.free⟩
theorem Bx.new {w W : World} {p : Nat} {m : ConnM} {S : Nat → Prop} (h : CJ w p m W S) (cs : Array Value) (t : TypeId) : Bx W.heap.size cs t (W.alloc (.cells cs t)) S ∧ CJ w p m (W.alloc (.cells cs t)) S :=
  ⟨⟨heap_alloc_new _ _, fun e => absurd (h.is.far e) (Nat.lt_irrefl _)⟩, h.below ((Below.refl _ _).alloc (Nat.le_refl _) _)⟩
set_option maxRecDepth 100000 in
set_option maxHeartbeats 8000000 in
theorem lives32 (w : World) (hE : EnvP w.heap.size w) : Calls Tryz.prog 9 #[] w fun e w' => e = .returned (.bool true) ∧ Below w.heap.size w w' := by
  have HE := Lib.hid hE
  clear hE
  go_enter Tryz.func9, Tryz.ntmps9
  go_wp2_with fail
  refine (connNew_any w).mono ?_
  rintro e W ⟨rfl, hc, hb⟩
  obtain ⟨S, hj⟩ := CJ.new HE.out hc hb
  have HJ := Lib.hid hj
  clear hc hb hj
  obtain ⟨p, hp⟩ : ∃ p, p = w.heap.size := ⟨_, rfl⟩
  rw [← hp] at HJ ⊢
  clear hp
  have hcs := conv_const
  go_wp2_with fail
  refine (in_lit32 HJ.out (fit_new 0) lt32 (by decide) (by decide)).mono ?_
  rintro e W1 ⟨⟨v1, rfl⟩, hst⟩
  obtain ⟨S1, hj1, -, -⟩ := HJ.out.step hst
  change CJ w p lm1 W1 S1 at hj1
  have HJ1 := Lib.hid hj1
  clear hst hj1 HJ hcs
  go_wp2_with fail
  refine (next_is HJ1.out.is lf1.good).mono ?_
  rintro e W2 ⟨rfl, hst⟩
  rw [l1a, l1b]
  obtain ⟨S2, hj2, -, -⟩ := HJ1.out.step hst
  change CJ w p lm2 W2 S2 at hj2
  obtain ⟨hbA, hj2'⟩ := Bx.new hj2 (callCells lcA).toArray 39
  have HJ2 := Lib.hid hj2'
  have HA := Lib.hid hbA
  clear hst hj2 hj2' hbA HJ1
  go_wp2_with fail
  obtain ⟨bA, hbA⟩ : ∃ b, b = W2.heap.size := ⟨_, rfl⟩
  rw [← hbA] at HA ⊢
  clear hbA
  generalize W2.alloc (.cells (callCells lcA).toArray 39) = V2 at *
  refine (next_is HJ2.out.is lf2.good).mono ?_
  rintro e W3 ⟨rfl, hst⟩
  rw [l2a, l2b]
  obtain ⟨S3, hj, hch, hfr⟩ := HJ2.out.step hst
  rw [l2d] at hj
  have hA' := HA.out.step hch hfr
  clear HA
  have HA := Lib.hid hA'
  clear hA'
  obtain ⟨hbx, hj'⟩ := Bx.new hj (callCells noCmd).toArray 39
  have hA' := HA.out.below ((Below.refl _ _).alloc (Nat.le_refl _) (.cells (callCells noCmd).toArray 39))
  clear HA
  have HA := Lib.hid hA'
  clear hA'
  have HJ3 := Lib.hid hj'
  have HB := Lib.hid hbx
  clear hst hj hj' hbx hch hfr HJ2
  go_wp2_with fail
  obtain ⟨bB, hbB⟩ : ∃ b, b = W3.heap.size := ⟨_, rfl⟩
  rw [← hbB] at HB ⊢
  clear hbB
  generalize W3.alloc (.cells (callCells noCmd).toArray 39) = V3 at *
  refine (done_is HJ3.out.is HJ3.out.env HJ3.out.low.size lf2 (by decide) (by decide) missA missA_ok missA_small).mono ?_
  rintro e V4 ⟨rfl, hst⟩
  rw [if_pos l2c]
  obtain ⟨S4, hj, hch, hfr⟩ := HJ3.out.step hst
  change CJ w p lm3 V4 S4 at hj
  have hA' := HA.out.step hch hfr
  have hB' := HB.out.step hch hfr
  clear HA
  have HA := Lib.hid hA'
  clear hA'
  clear HB
  have HB := Lib.hid hB'
  clear hB'
  have HJ4 := Lib.hid hj
  clear hst hj hch hfr HJ3
  go_wp2_with fail
  refine (next_is HJ4.out.is lf3.good).mono ?_
  rintro e W5 ⟨rfl, hst⟩
  rw [l3a, l3b]
  obtain ⟨S5, hj, hch, hfr⟩ := HJ4.out.step hst
  change CJ w p lm4 W5 S5 at hj
  have hA' := HA.out.step hch hfr
  have hB' := HB.out.step hch hfr
  clear HA
  have HA := Lib.hid hA'
  clear hA'
  clear HB
  have HB := Lib.hid hB'
  clear hB'
  obtain ⟨hbx, hj'⟩ := Bx.new hj (callCells lcB).toArray 39
  have hA' := HA.out.below ((Below.refl _ _).alloc (Nat.le_refl _) (.cells (callCells lcB).toArray 39))
  clear HA
  have HA := Lib.hid hA'
  clear hA'
  have hB' := HB.out.below ((Below.refl _ _).alloc (Nat.le_refl _) (.cells (callCells lcB).toArray 39))
  clear HB
  have HB := Lib.hid hB'
  clear hB'
  have HJ5 := Lib.hid hj'
  have HC := Lib.hid hbx
  clear hst hj hj' hbx hch hfr HJ4
  go_wp2_with fail
  obtain ⟨bC, hbC⟩ : ∃ b, b = W5.heap.size := ⟨_, rfl⟩
  rw [← hbC] at HC ⊢
  clear hbC
  generalize W5.alloc (.cells (callCells lcB).toArray 39) = V5 at *
  refine (done_is HJ5.out.is HJ5.out.env HJ5.out.low.size lf4 (by decide) (by decide) missA missA_ok missA_small).mono ?_
  rintro e V6 ⟨rfl, hst⟩
  rw [if_pos l4c]
  obtain ⟨S6, hj, hch, hfr⟩ := HJ5.out.step hst
  change CJ w p lm5 V6 S6 at hj
  have hA' := HA.out.step hch hfr
  have hB' := HB.out.step hch hfr
  have hC' := HC.out.step hch hfr
  clear HA
  have HA := Lib.hid hA'
  clear hA'
  clear HB
  have HB := Lib.hid hB'
  clear hB'
  clear HC
  have HC := Lib.hid hC'
  clear hC'
  have HJ6 := Lib.hid hj
  clear hst hj hch hfr HJ5
  go_wp2_with fail
  refine (next_is HJ6.out.is lf5.good).mono ?_
  rintro e W7 ⟨rfl, hst⟩
  rw [l5a, l5b]
  obtain ⟨S7, hj, hch, hfr⟩ := HJ6.out.step hst
  change CJ w p lm6 W7 S7 at hj
  have hA' := HA.out.step hch hfr
  have hB' := HB.out.step hch hfr
  have hC' := HC.out.step hch hfr
  clear HA
  have HA := Lib.hid hA'
  clear hA'
  clear HB
  have HB := Lib.hid hB'
  clear hB'
  clear HC
  have HC := Lib.hid hC'
  clear hC'
  obtain ⟨hbx, hj'⟩ := Bx.new hj (callCells lcS).toArray 39
  have hA' := HA.out.below ((Below.refl _ _).alloc (Nat.le_refl _) (.cells (callCells lcS).toArray 39))
  clear HA
  have HA := Lib.hid hA'
  clear hA'
  have hB' := HB.out.below ((Below.refl _ _).alloc (Nat.le_refl _) (.cells (callCells lcS).toArray 39))
  clear HB
  have HB := Lib.hid hB'
  clear hB'
  have hC' := HC.out.below ((Below.refl _ _).alloc (Nat.le_refl _) (.cells (callCells lcS).toArray 39))
  clear HC
  have HC := Lib.hid hC'
  clear hC'
  have HJ7 := Lib.hid hj'
  have HD := Lib.hid hbx
  clear hst hj hj' hbx hch hfr HJ6
  obtain ⟨bD, hbD⟩ : ∃ b, b = W7.heap.size := ⟨_, rfl⟩
  rw [← hbD] at HD
  obtain ⟨V7, hV7⟩ : ∃ V, V = W7.alloc (.cells (callCells lcS).toArray 39) := ⟨_, rfl⟩
  rw [← hV7] at HJ7 HA HB HC HD
  have HV7 := Lib.hid hV7
  have HBD := Lib.hid hbD
  clear hV7 hbD HB
  have a0 : V7.cell? ⟨bA, 0, none⟩ = some (.int .u8 1) := (block_cell HA.out.box 0).1
  have a1 : V7.cell? ⟨bA, 1, none⟩ = some (sv [97]) := (block_cell HA.out.box 1).1
  have b1 : V7.cell? ⟨bC, 1, none⟩ = some (sv [98]) := (block_cell HC.out.box 1).1
  have d0 : V7.cell? ⟨bD, 0, none⟩ = some (.int .u8 3) := (block_cell HD.out.box 0).1
  have d2 : V7.cell? ⟨bD, 2, none⟩ = some (sv [120]) := (block_cell HD.out.box 2).1
  go_upto_region 9 with fail
  rw [← HBD.out, ← HV7.out]
  clear HV7 HBD HA HC HD
  go_wp2_with fail
  refine (out_is HJ7.out.is).mono ?_
  rintro e W8 ⟨rfl, rfl⟩
  obtain ⟨T, hT⟩ : ∃ T, T = lm6.out := ⟨_, rfl⟩
  have hcat : (⟨#[69, 78, 68, 13, 10]⟩ : ByteArray) ++ ⟨versionL.toArray⟩ = ⟨T.toArray⟩ := by
    rw [hT, l6d]
    exact ByteArray.ext (by simp)
  rw [← hT]
  have HCAT := Lib.hid hcat
  clear hT hcat
  go_wp2_with fail
  refine (version_any _).mono ?_
  rintro e W8 ⟨rfl, hb8⟩
  have hlow := HJ7.out.low.trans (hb8.mono HJ7.out.low.size)
  have HLOW := Lib.hid hlow
  clear hb8 hlow HJ7
  have hcat := HCAT.out
  clear HCAT
  have hvl : ¬ 9223372036854775807 < 5 + versionL.length := by decide
  generalize versionL = V at *
  go_wp2_with fail
  go_ret
  exact ⟨rfl, HLOW.out⟩
end Go.Proofs.YtddifbimlmkcbaaGreatDoor
