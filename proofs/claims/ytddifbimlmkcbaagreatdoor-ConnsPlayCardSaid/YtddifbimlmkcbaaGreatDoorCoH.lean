/- What In does with the document's connection. No condition. What Done does with the document's connection. No condition. -/
import Derived.Test.YtddifbimlmkcbaaGreatDoorConnROn
import Derived.Deep.RegionLaw
import Derived.Deep.MidRow
import Derived.Test.YtddifbimlmkcbaaGreatDoorLiB
import Derived.Test.YtddifbimlmkcbaaGreatDoorConnDone
import Derived.Test.YtddifbimlmkcbaaGreatDoorLowA
namespace Go.Proofs.YtddifbimlmkcbaaGreatDoor
open Go.RowKit Go.ChangeMaps Go.MapKept
section
variable {n₀ : Nat} {w w1 w2 : World} {r : Nat} {bv bv' wv wv2 tk cv : Value} {L M : List (Value × Ev)} {m : RM} {bl : List UInt8}
theorem RAt.inFed (h : RAt n₀ w r bv wv tk cv L m) (hn : n₀ ≤ w.heap.size) (hf : RFeedT w1 r 65 (rcRest wv tk cv m) bv' (m.bl ++ bl)) (hb : ∀ g, bv'.ownBlock = some g → w.heap.size ≤ g ∧ Tag w1 g 5) (hc : Chg (fun k => k = r) w w1) :
    RAt n₀ w1 r bv' wv tk cv L { m with bl := m.bl ++ bl } := by
  have hp := h.rtag
  refine ⟨h.low, hf.1, hf.2, fun g hg => ⟨Nat.le_trans hn (hb g hg).1, (hb g hg).2⟩, h.evs, h.wait.kept hc (fun g hg e => ?_), fun x hx => (h.keys x hx).kept hc (fun g hg e => ?_), h.tk, h.calls.kept hc (fun g hg e => ?_)⟩
  · subst e; exact absurd (hp.one (h.wait.tag hg).1) (by decide)
  · subst e; exact absurd (hp.one ((h.keys x hx).tag hg)) (by decide)
  · subst e; exact absurd (hp.one (h.calls.tag hg).1) (by decide)
theorem RAt.waits (h : RAt n₀ w r bv wv tk cv L m) (hm : MidRow w2 n₀ 63 13 wv2 (L.length + M.length) (rEvsCells L ++ rEvsCells M)) (hg : w.grownBy w2 wv.ownBlock) (hkM : ∀ x ∈ M, KeysAt w x.1 x.2.cmd.keys) :
    (w2.cell? ⟨r, 2, none⟩ = some wv ∧ w2.frozen? ⟨r, 2, none⟩ = false) ∧ RAt n₀ (w2.setCell ⟨r, 2, none⟩ wv2) r bv wv2 tk cv (L ++ M) { m with wait := m.wait ++ M.map (·.2) } ∧ Chg (RS r bv wv cv) w (w2.setCell ⟨r, 2, none⟩ wv2) := by
  have hc1 : Chg (fun k => wv.ownBlock = some k) w w2 := Chg.of_grown hg (fun _ _ e => e)
  have htag : ∀ k, wv.ownBlock = some k → Tag w k 63 := fun k hk => (h.wait.tag hk).1
  have hno : ∀ k, wv.ownBlock = some k → ∀ t, t ≠ 63 → ¬ Tag w k t := fun k hk t ht e => ht (e.one (htag k hk))
  have hbox2 := hc1.obj h.box (fun e => hno r e _ (by decide) h.rtag)
  have hst := cset_chg w2 r 2 wv2
  have hp2 : Tag w2 r 65 := Tag.of hbox2
  have hbox3 := Go.Joins.block_setCell (i := 2) hbox2 wv2
  rw [List.setIfInBounds_toArray] at hbox3
  have hbl2 := h.feed.kept hc1 (fun _ g hg e => hno g e _ (by decide) (h.fed g hg).2)
  have hfd2 : ∀ g, bv.ownBlock = some g → n₀ ≤ g ∧ Tag w2 g 5 := fun g hg => ⟨(h.fed g hg).1, hc1.tag (h.fed g hg).2 (fun e => hno g e _ (by decide) (h.fed g hg).2)⟩
  have hk2 : ∀ y ∈ L ++ M, KeysAt w2 y.1 y.2.cmd.keys := fun y hy => by
    have hy2 : KeysAt w y.1 y.2.cmd.keys := (List.mem_append.1 hy).elim (h.keys y) (hkM y)
    exact hy2.kept hc1 (fun g hg e => hno g e _ (by decide) (hy2.tag hg))
  have hcs2 := h.calls.kept hc1 (fun g hg e => hno g e _ (by decide) (h.calls.tag hg).1)
  refine ⟨⟨by rw [(block_cell hbox2 2).1]; rfl, (block_cell hbox2 2).2⟩, ⟨h.low, hbox3, hbl2.kept hst (fun _ g hg e => ?_), fun g hg => ⟨(hfd2 g hg).1, hst.tag (hfd2 g hg).2 (fun e => ?_)⟩, by rw [List.map_append, h.evs], ?_, fun y hy => (hk2 y hy).kept hst (fun g hg e => ?_), h.tk, hcs2.kept hst (fun g hg e => ?_)⟩, (hc1.mono (M' := RS r bv wv cv) (fun k _ e => .inr (.inr (.inl e)))).then (M' := fun k => k = r) hst (fun k _ e => .inl e)⟩
  · subst e; exact absurd (hp2.one (hfd2 g hg).2) (by decide)
  · subst e; exact absurd (hp2.one (hfd2 g hg).2) (by decide)
  · rw [List.length_append, revsC_append]
    exact hm.kept hst (fun g hg e => by subst e; exact absurd (hp2.one (hm.tag hg).1) (by decide))
  · subst e; exact absurd (hp2.one ((hk2 y hy).tag hg)) (by decide)
  · subst e; exact absurd (hp2.one (hcs2.tag hg).1) (by decide)
end
set_option maxRecDepth 100000 in
set_option maxHeartbeats 8000000 in
theorem rIn_any {n₀ : Nat} {w : World} {r : Nat} {m : RM} {S : Nat → Prop} {bv : Value} {bl : List UInt8} (h : RIs n₀ w r m S) (hn : n₀ ≤ w.heap.size) (hlen : m.bl.length + bl.length < 1048576) (hb : BRow w bv bl) (hok : ∀ e ∈ m.wait, EvC e) (hokb : ∀ e ∈ (refEv (m.bl ++ bl)).1, EvC e) (hwl : m.wait.length ≤ 1048576) (hol : m.out.length ≤ 1098000000000) :
    Calls Tryz.prog 23 #[.pointer (some ⟨r, 0, none⟩), bv] w fun e w' => (∃ v, e = .returned v) ∧ RStep n₀ w r S (inR m bl) w' := by
  obtain ⟨ba, bc, rfl⟩ := hb.len
  obtain ⟨b0, wv, tk, cv, L, hat, rfl⟩ := h
  have c19 : w.cell? ⟨r, 19, none⟩ = some (.bool m.closed) := (hat.cell (j := 19) rfl).1
  have hlw : L.length ≤ 1048576 := by rw [← hat.evs, List.length_map] at hwl; exact hwl
  cases hcl : m.closed
  · obtain ⟨i0, hi, hz0, hz1, hz2⟩ := info_parts infoREv
    have Hi := Lib.hid hi
    have Hz := Lib.hid (And.intro hz0 (And.intro hz1 hz2))
    have hin : inR m bl = onR { m with bl := m.bl ++ bl, wait := m.wait ++ (refEv (m.bl ++ bl)).1.drop (refEv m.bl).1.length } := by unfold inR; rw [hcl, if_neg (by simp)]
    have hdr : Below w.heap.size w w.drew := (Below.refl _ _).drew
    have hatd := hat.below hdr
    have hcall := refIn_head (by decide) (by decide) (⟨hatd.box, hatd.feed⟩ : RFeedT w.drew r 65 (rcRest wv tk cv m) b0 m.bl) (hb.below hdr) hlen
    obtain ⟨wa, wc, rfl⟩ := hat.wait.len
    have c2 : w.cell? ⟨r, 2, none⟩ = some (.slice wa L.length wc) := (hat.cell (j := 2) rfl).1
    rw [hcl] at c19
    have hp := hat.plt
    have hfew := few_evsR (m.bl ++ bl)
    rw [List.length_append] at hfew
    have HC := Lib.hid hcall
    have HA := Lib.hid hatd
    have HIN := Lib.hid hin
    have HOK := Lib.hid hok
    have HOB := Lib.hid hokb
    have HCL := Lib.hid hcl
    have HWL := Lib.hid hwl
    clear hat hatd hcall hin hok hokb hb hcl hdr hi hz0 hz1 hz2 hwl
    go_enter Tryz.func23, Tryz.ntmps23
    go_upto_region 1 with fail
    go_region_law (first
      | (refine step_call (by rfl) 37 #[.pointer (some ⟨r, 0, none⟩), .slice ba bl.length bc] (by go_simp) HC.out ?_; rintro e1 w1 ⟨v1, M, bv1, rfl, hrow1, hev1, hf1, hb1, hc1⟩; refine ⟨_, rfl, ?_⟩; have hat1 := HA.out.inFed hn hf1 hb1 hc1; obtain ⟨ma, mc, hma⟩ : ∃ a c, v1 = .slice a M.length c := (by obtain ⟨-, a, c, h, -⟩ := hrow1.1; exact ⟨a, c, h⟩); subst hma; have HA1 := Lib.hid hat1; have HC1 := Lib.hid hc1; have HFR1 := Lib.hid hb1; have HEV1 := Lib.hid hev1; have HCUT := Lib.hid (src_row Tryz.underlying60 hrow1.1 (revsC_one hrow1.2)); have HKM := Lib.hid hrow1.2; have hML : M.length ≤ 1048576 := (by have h1 := congrArg List.length hev1; rw [List.length_map, List.length_drop] at h1; omega); have c21 : w1.cell? ⟨r, 2, none⟩ = some (.slice wa L.length wc) := (hat1.cell (j := 2) rfl).1; have hn1 : n₀ ≤ w1.heap.size := Nat.le_trans hn (show w.heap.size ≤ _ from hc1.size); clear hf1 hc1 hb1 hev1 hrow1 hat1)
      | (refine step_append_mid (by rfl) _ _ 60 60 (by rfl) n₀ 63 i0 (.agg rEvZero) 13 144 Tryz.underlying60 Hi.out Hz.out.1 Hz.out.2.1 Hz.out.2.2 rfl (.slice wa L.length wc) L.length _ (by rfl) HA1.out.wait (.slice ma M.length mc) M.length _ (by rfl) HCUT.out (by unfold maxLen; omega) (by omega) hn1 ?_; intro a9 c9 w9 hm9 hg9 hat9; have hwt := HA1.out.waits hm9 hg9 HKM.out; have HWT := Lib.hid hwt; have HAT := Lib.hid hat9; have q1 := hwt.1.1; have q2 := hwt.1.2; clear hm9 hg9 hat9 hwt)
      | fail)
    all_goals
      have hml : M.map (·.2) = (refEv (m.bl ++ bl)).1.drop (refEv m.bl).1.length := HEV1.out
      have hmw : (m.wait ++ M.map (·.2)).length ≤ 2097152 := by
        have := HWL.out
        rw [List.length_append, List.length_map]; omega
      have hst : RStep n₀ w r (RS r b0 (.slice wa L.length wc) cv) { m with bl := m.bl ++ bl, wait := m.wait ++ M.map (·.2) } (w9.setCell ⟨r, 2, none⟩ (.slice a9 (L.length + M.length) c9)) := by
        refine ⟨_, HWT.out.2.1.is, ?_, fun k hk => ?_⟩
        · refine ((Chg.refl (RS r b0 (.slice wa L.length wc) cv) w).drew.then (M' := fun k => k = r) HC1.out (fun k _ hk => .inl hk)).then (M' := RS r bv1 (.slice wa L.length wc) cv) HWT.out.2.2 (fun k hk1 hk => ?_)
          rcases hk with hk | hk | hk
          · exact .inl hk
          · have h1 : w.heap.size ≤ k := (HFR1.out k hk).1
            omega
          · exact .inr (.inr hk)
        · have hsz : w.heap.size ≤ w1.heap.size := HC1.out.size
          rcases hk with hk | hk | hk | hk
          · exact .inl (.inl hk)
          · exact .inr (HFR1.out k hk).1
          · rcases HAT.out with ha | ha
            · rw [ha] at hk; exact .inl (.inr (.inr (.inl hk)))
            · rw [ha] at hk
              have := Option.some.inj hk
              exact .inr (by omega)
          · exact .inl (.inr (.inr (.inr hk)))
      obtain ⟨S1, hi1, hch1, hfr2⟩ := hst
      have hturns := rOn_any hi1 (Nat.le_trans hn hch1.size) (fun e he => by
        rcases List.mem_append.1 he with he | he
        · exact HOK.out e he
        · rw [hml] at he
          exact HOB.out e (List.mem_of_mem_drop he)) (by
        show m.out.length + 200 * (m.wait ++ M.map (·.2)).length ≤ _
        omega) (by show (m.wait ++ M.map (·.2)).length ≤ _; omega)
      have HTN := Lib.hid hturns
      have HCH := Lib.hid hch1
      have HFR2 := Lib.hid hfr2
      have HML := Lib.hid hml
      clear hturns hch1 hfr2 hi1 hmw hml q1 q2 c21 c2 c19
      go_wp2_with fail
      refine HTN.out.mono ?_
      rintro e2 w3 ⟨⟨v3, rfl⟩, hs3⟩
      have hs4 := RStep.step HCH.out HFR2.out hs3
      rw [HML.out, ← HIN.out] at hs4
      have HS4 := Lib.hid hs4
      clear hs3 hs4
      go_wp2_with fail
      exact bodyPost_end (results_none (by exact Tryz.results23) _ _ _) rfl ⟨⟨_, rfl⟩, HS4.out⟩
  · have hin : inR m bl = m := by unfold inR; rw [hcl, if_pos rfl]
    rw [hin]
    rw [hcl] at c19
    have HST := Lib.hid (RStep.refl hat.is)
    clear hat hb hok hokb hin
    go_enter Tryz.func23, Tryz.ntmps23
    go_wp2_with fail
    exact bodyPost_ret (results_none (by exact Tryz.results23) _ _ _) rfl ⟨⟨_, rfl⟩, HST.out⟩
end Go.Proofs.YtddifbimlmkcbaaGreatDoor
namespace Go.Proofs.YtddifbimlmkcbaaGreatDoor
open Go.RowKit Go.ChangeMaps Go.MapKept
section
variable {n₀ : Nat} {w wc w' : World} {r : Nat} {bv wv tk cv : Value} {L : List (Value × Ev)} {m mm : RM} {S : Nat → Prop}
theorem RAt.tailCalls (h : RAt n₀ w r bv wv tk cv L m) {c : Cmd} {cs : List Cmd} (hc : m.calls = c :: cs) :
    ∃ g o cap o2, cv = .slice (some ⟨g, o, none⟩) (cs.length + 1) cap ∧ cs.length + 1 ≤ cap ∧ (∀ W : World, (Instr.slice 31 (.slice (some ⟨g, o, none⟩) (cs.length + 1) cap) (some (.int .i64 1)) none none).run Tryz.prog W = .ok (.slice (some ⟨g, o2, none⟩) cs.length (cap - 1)) W) ∧
      MidRow w n₀ 39 7 (.slice (some ⟨g, o2, none⟩) cs.length (cap - 1)) cs.length (callsCells cs) := by
  have hcal := h.calls
  rw [hc] at hcal
  have hcal0 := hcal
  obtain ⟨-, ⟨-, h0⟩ | ⟨g, o, cap, cur, h1, -, -, h2, -⟩⟩ := hcal
  · simp at h0
  · have h2 : cs.length + 1 ≤ cap := h2
    refine ⟨g, o, cap, if cap = 1 then o else o + 7, h1, h2, fun W => slice_call h2 W, ?_⟩
    rw [h1] at hcal0
    by_cases hn : cap = 1
    · obtain rfl : cs = [] := List.eq_nil_of_length_eq_zero (by omega)
      rw [if_pos hn, hn]
      exact hcal0.empty
    · rw [if_neg hn]
      exact hcal0.tail (x := callCells c) rfl (by omega) (by omega)
theorem RIs.tell (h : RIs n₀ wc r mm S) {V : World} (hb : Below wc.heap.size wc V) (T : List UInt8) : RStep n₀ wc r S { mm with out := T } (V.setCell ⟨r, 18, none⟩ (sv T)) := by
  obtain ⟨bv, wv, tk, cv, L, hat, rfl⟩ := h
  have h2 := (hat.below hb).setOut T
  exact ⟨_, h2.is, (Chg.of_below (M := RS r bv wv cv) hb).then (M' := fun k => k = r) (cset_chg _ _ _ _) (fun k _ e => .inl e), fun _ e => .inl e⟩
theorem RStep.tell (h : RStep n₀ w r S mm wc) {V : World} (hb : Below wc.heap.size wc V) (T : List UInt8) : RStep n₀ w r S { mm with out := T } (V.setCell ⟨r, 18, none⟩ (sv T)) := by
  obtain ⟨S1, h1, h2, h3⟩ := h
  exact RStep.step h2 h3 (h1.tell hb T)
theorem RStep.more (h : RStep n₀ w r S mm wc) {V : World} (hb : Below wc.heap.size wc V) : RStep n₀ w r S mm V := by
  obtain ⟨S1, h1, h2, h3⟩ := h
  exact RStep.step h2 h3 (RStep.of_below h1 hb)
/-- A call is answered; the answer lies in block pa. -/
structure RDJ (n₀ : Nat) (w : World) (r : Nat) (S : Nat → Prop) (mm : RM) (a : AnsD) (pa : Nat) (W : World) : Prop where
  step : RStep n₀ w r S mm W
  ans : W.heap[pa]? = some (.cells (ansCells a).toArray 52 (0, 0))
theorem rdone_calls {a1 : Option Addr} {n1 c1 : Nat} (h : RAt n₀ w r bv wv tk cv L m) (_hn : n₀ ≤ w.heap.size) {cs : List Cmd} {w9 : World} {a : AnsD} (hm9 : MidRow w9 n₀ 39 7 (.slice a1 n1 c1) cs.length (callsCells cs)) (hg9 : ((w.setCell ⟨r, 17, none⟩ (.bool false)).alloc (.cells (ansCells a).toArray 52)).grownBy w9 none)
    (hat9 : (Value.slice a1 n1 c1).ownBlock = none ∨ (Value.slice a1 n1 c1).ownBlock = some (w.heap.size + 1)) :
    (w9.cell? ⟨r, 16, none⟩ = some cv ∧ w9.frozen? ⟨r, 16, none⟩ = false) ∧ RDJ n₀ w r (RS r bv wv cv) { m with under := false, calls := cs } a w.heap.size (w9.setCell ⟨r, 16, none⟩ (.slice a1 n1 c1)) := by
  have hs1 := cset_chg w r 17 (.bool false)
  have hu := h.setUnder false
  have hc9 : Chg (fun _ => False) ((w.setCell ⟨r, 17, none⟩ (.bool false)).alloc (.cells (ansCells a).toArray 52)) w9 := Chg.of_grown hg9 (fun _ _ e => by cases e)
  have hc1 : Chg (fun _ => False) (w.setCell ⟨r, 17, none⟩ (.bool false)) w9 := ((Chg.refl _ _).alloc _).then hc9 (fun _ _ e => e)
  have h9 := hu.kept hc1 (fun _ e => e.elim)
  have h2 := h9.setCalls hm9
  have hss : (w.setCell ⟨r, 17, none⟩ (.bool false)).heap.size = w.heap.size := by simp
  have hrl := h.plt
  refine ⟨h9.cell (j := 16) rfl, ⟨_, h2.is, ?_, fun k hk => ?_⟩, ?_⟩
  · exact ((hs1.mono (M' := RS r bv wv cv) (fun _ _ e => .inl e)).then (M' := fun _ => False) hc1 (fun _ _ e => e.elim)).then (M' := fun k => k = r) (cset_chg _ _ _ _) (fun k _ e => .inl e)
  · rcases hk with hk | hk | hk | hk
    · exact .inl (.inl hk)
    · exact .inl (.inr (.inl hk))
    · exact .inl (.inr (.inr (.inl hk)))
    · rcases hat9 with e | e
      · rw [e] at hk; cases hk
      · rw [e] at hk
        have := Option.some.inj hk
        exact .inr (by omega)
  · refine (cset_chg w9 r 16 (.slice a1 n1 c1)).obj (hc9.obj (by rw [heap_at, if_pos hss.symm]) (fun e => e)) (fun e => by omega)
end
set_option maxRecDepth 100000 in
set_option maxHeartbeats 16000000 in
theorem rDone_none {n₀ : Nat} {w : World} {r : Nat} {m : RM} {S : Nat → Prop} (h : RIs n₀ w r m S) (hu : m.under = false) (a : AnsD) :
    Calls Tryz.prog 25 #[.pointer (some ⟨r, 0, none⟩), a.val] w fun e w' => e = .returned (.int .i64 2) ∧ RStep n₀ w r S m w' := by
  obtain ⟨bv, wv, tk, cv, L, hat, rfl⟩ := h
  have c17 : w.cell? ⟨r, 17, none⟩ = some (.bool m.under) := (hat.cell (j := 17) rfl).1
  rw [hu] at c17
  have hrl := hat.plt
  have HST := Lib.hid (RStep.of_below hat.is (w' := w.alloc (.cells (ansCells a).toArray 52)) ((Below.refl _ _).alloc (Nat.le_refl _) _))
  clear hat hu
  go_enter Tryz.func25, Tryz.ntmps25
  go_wp2_with fail
  go_ret
  exact ⟨rfl, HST.out⟩
set_option maxRecDepth 100000 in
set_option maxHeartbeats 16000000 in
theorem rDone_some {n₀ : Nat} {w : World} {r : Nat} {m : RM} {S : Nat → Prop} (h : RIs n₀ w r m S) (hE : EnvP n₀ w) (hn : n₀ ≤ w.heap.size) (hu : m.under = true) (hcn : m.calls ≠ []) (hcl : m.calls.length ≤ 1048576) (a : AnsD) (ha : a.Ok) (hs : a.item.key.size + a.item.value.size ≤ 1048576)
    (hok : ∀ e ∈ m.wait, EvC e) (hwl : m.wait.length ≤ 1048576) (hol : m.out.length ≤ 1098000000000) :
    Calls Tryz.prog 25 #[.pointer (some ⟨r, 0, none⟩), a.val] w fun e w' => e = .returned (.int .i64 0) ∧ RStep n₀ w r S (doneR m a) w' := by
  obtain ⟨bv, wv, tk, cv, L, hat, hS⟩ := h
  obtain ⟨c, cs, hcc⟩ := List.exists_cons_of_ne_nil hcn
  obtain ⟨g1, o1, cap1, o2, rfl, hcap, hsl, hmid⟩ := hat.tailCalls hcc
  obtain ⟨ta, tn, tc, rfl⟩ := hat.tk
  have c17 : w.cell? ⟨r, 17, none⟩ = some (.bool m.under) := (hat.cell (j := 17) rfl).1
  have f17 : w.frozen? ⟨r, 17, none⟩ = false := (hat.cell (j := 17) rfl).2
  have c16 : w.cell? ⟨r, 16, none⟩ = some (.slice (some ⟨g1, o1, none⟩) (cs.length + 1) cap1) := (hat.cell (j := 16) rfl).1
  rw [hu] at c17
  have hrl := hat.plt
  have hcl2 : cs.length ≤ 1048576 := by rw [hcc] at hcl; simp at hcl; omega
  obtain ⟨ic, hi, hz0, hz1, hz2⟩ := info_parts infoCall
  have Ci := Lib.hid hi
  have Cz := Lib.hid (And.intro hz0 (And.intro hz1 hz2))
  have hmk := hmid.kept (cset_chg w r 17 (.bool false)) (fun k hk e => by subst e; exact absurd (hat.rtag.one (hmid.tag hk).1) (by decide))
  have HSRC := Lib.hid (show ∀ o1' : Obj, Src Tryz.prog 7 31 (.slice (some ⟨g1, o2, none⟩) cs.length (cap1 - 1)) cs.length (callsCells cs) ((w.setCell ⟨r, 17, none⟩ (.bool false)).alloc o1') from fun o1' => src_row Tryz.underlying31 (hmk.row.below ((Below.refl _ _).alloc (Nat.le_refl _) o1')) (callsC_one cs))
  have HAT := Lib.hid hat
  have HS := Lib.hid hS
  have HCC := Lib.hid hcc
  have HEV := Lib.hid hE
  have HAS := Lib.hid (And.intro ha hs)
  have HOK := Lib.hid hok
  have hnw := hn
  clear hat hS hcc hmid hmk hE ha hs hok hu hcn hcl hi hz0 hz1 hz2
  go_enter Tryz.func25, Tryz.ntmps25
  go_upto_region 5 with (first
    | (at_builtin; refine wpList_append_mid (by rfl) _ _ 31 31 (by rfl) n₀ 39 ic (.agg callZero) 7 72 Tryz.underlying31 Ci.out Cz.out.1 Cz.out.2.1 Cz.out.2.2 rfl (.slice none 0 0) 0 [] (by rfl) (MidRow.nil _ _ _ _) (.slice (some ⟨g1, o2, none⟩) cs.length (cap1 - 1)) cs.length (callsCells cs) (by rfl) (HSRC.out _) (by unfold maxLen; omega) (by omega) (by simp; omega) ?_
       intro v9 w9 hm9 hg9 hat9
       simp only [Nat.zero_add, List.nil_append] at hm9
       obtain ⟨a9, c9, rfl⟩ := hm9.len
       have hnx := rdone_calls HAT.out hnw hm9 hg9 (by simpa [Value.ownBlock] using hat9)
       have q1 := hnx.1.1
       have q2 := hnx.1.2
       have HNJ := Lib.hid hnx.2
       clear hnx hm9 hg9 hat9)
    | fail)
  obtain ⟨pa, hpa⟩ : ∃ z, z = w.heap.size := ⟨_, rfl⟩
  rw [← hpa] at HNJ ⊢
  clear hpa
  obtain ⟨wc, hwc⟩ : ∃ z, z = w9.setCell ⟨r, 16, none⟩ (.slice a9 cs.length c9) := ⟨_, rfl⟩
  rw [← hwc] at HNJ ⊢
  rw [← HS.out] at HNJ
  have HST := Lib.hid HNJ.out.step
  have HAB := Lib.hid HNJ.out.ans
  have hpal : pa < wc.heap.size := (Array.getElem?_eq_some_iff.1 HAB.out).1
  obtain ⟨S1, hi1, hc1, hf1⟩ := HST.out
  have HC1 := Lib.hid hc1
  have HEC := Lib.hid (HEV.out.chg hc1 (fun k hk => by rw [HS.out] at hk; exact (HAT.out.sTag hk).1))
  obtain ⟨bv2, wv2, tk2, cv2, L2, hat2, -⟩ := hi1
  obtain ⟨t2a, t2n, t2c, rfl⟩ := hat2.tk
  have c18 : wc.cell? ⟨r, 18, none⟩ = some (sv m.out) := (hat2.cell (j := 18) rfl).1
  have c13 : wc.cell? ⟨r, 13, none⟩ = some (.bool m.turn.cmd.quiet) := (hat2.cell (j := 13) rfl).1
  have hturn : wc.rangeAt r 3 (rEvCells (.slice t2a t2n t2c) m.turn) := fun k u hu => by
    have h2 := hat2.box
    have hk : k < 13 := (List.getElem?_eq_some_iff.1 hu).1
    rw [(block_cell h2 (3 + k)).1, List.getElem?_toArray]
    show (bv2 :: .int .i64 ((refEv m.bl).1.length : Int) :: wv2 :: (rEvCells (.slice t2a t2n t2c) m.turn ++ _))[3 + k]? = _
    rw [show 3 + k = k + 1 + 1 + 1 from by omega, List.getElem?_cons_succ, List.getElem?_cons_succ, List.getElem?_cons_succ, List.getElem?_append_left (List.getElem?_eq_some_iff.1 hu).1]
    exact hu
  have hcmd : wc.rangeAt r 3 (cmdCells (.slice t2a t2n t2c) m.turn.cmd) := fun k u hu => hturn k u (by show (cmdCells _ _ ++ _)[k]? = _; rw [List.getElem?_append_left (List.getElem?_eq_some_iff.1 hu).1]; exact hu)
  obtain ⟨cva, cvc, rfl⟩ := hat2.calls.len
  have c16 : wc.cell? ⟨r, 16, none⟩ = some (.slice cva cs.length cvc) := (hat2.cell (j := 16) rfl).1
  have hrl2 := hat2.plt
  have HT2 := Lib.hid (And.intro hturn hcmd)
  have hans : wc.rangeAt pa 0 (ansCells a) := fun k u hu => by rw [Nat.zero_add, (block_cell HAB.out k).1, List.getElem?_toArray]; exact hu
  have HAR := Lib.hid hans
  have HRD := Lib.hid (show ∀ V, Below wc.heap.size wc V → V.cell? ⟨r, 18, none⟩ = some (sv m.out) ∧ V.frozen? ⟨r, 18, none⟩ = false ∧ V.rangeAt r 3 (cmdCells (.slice t2a t2n t2c) m.turn.cmd) ∧ V.rangeAt pa 0 (ansCells a) ∧ V.heap[r]? = some (.cells (rcCells bv2 wv2 (.slice t2a t2n t2c) (.slice cva cs.length cvc) { m with under := false, calls := cs }).toArray 65 (0, 0)) from fun V hV =>
    ⟨((hat2.below hV).cell (j := 18) rfl).1, ((hat2.below hV).cell (j := 18) rfl).2, fun k u hu => (hV.cell (p := ⟨r, 3 + k, none⟩) hrl2).trans (hcmd k u hu), fun k u hu => (hV.cell (p := ⟨pa, 0 + k, none⟩) hpal).trans (hans k u hu), (hat2.below hV).box⟩)
  have HGE := Lib.hid (fun W => rGets_any t2a t2n t2c m.turn W)
  have HVL := Lib.hid (fun W (hW : Below wc.heap.size wc W) => refValue_any (toD t2a t2n t2c m.turn.cmd) a W HAS.out.1 HAS.out.2 (HasPow.below HEC.out.pow hW))
  have HAL := Lib.hid (fun W => refAnswer_any (toD t2a t2n t2c m.turn.cmd) a W HAS.out.1)
  have HTV := Lib.hid (tellM_len m.turn.cmd a HAS.out.1 HAS.out.2)
  have hnc : n₀ ≤ wc.heap.size := Nat.le_trans hnw HST.out.size
  have HEND := Lib.hid (show ∀ (T : List UInt8) (W : World), T = m.out ++ tellM m.turn.cmd a (decide (cs = [])) → RStep n₀ w r S { m with under := false, calls := cs, out := T } W → ∃ (m2 : RM) (S2 : Nat → Prop), RIs n₀ W r m2 S2 ∧ (∀ W', RStep n₀ W r S2 (onR m2) W' → RStep n₀ w r S (doneR m a) W') ∧ n₀ ≤ W.heap.size ∧ (∀ e ∈ m2.wait, EvC e) ∧ m2.out.length + 200 * m2.wait.length ≤ 1099511620000 ∧ m2.wait.length ≤ 4194304 from fun T W hT hW => by
    obtain ⟨S2, k1, k2, k3⟩ := hW
    refine ⟨_, S2, k1, fun W' h' => ?_, Nat.le_trans hnw k2.size, HOK.out, ?_, by show m.wait.length ≤ _; omega⟩
    · have h3 := RStep.step k2 k3 h'
      have he : doneR m a = onR { m with under := false, calls := cs, out := T } := by unfold doneR; rw [HCC.out, List.tail_cons, ← hT]
      rw [he]; exact h3
    · show T.length + 200 * m.wait.length ≤ _
      rw [hT, List.length_append]
      have := HTV.out (decide (cs = []))
      omega)
  clear hc1 hf1 hat2 hturn hcmd hans HNJ hwc q1 q2 hcap hsl f17 c17 HAT HSRC
  go_upto_region 5 with fail
  go_wp2_with (first
    | ((with_reducible show wpList _ _ _ (⟨_, Op.load 63 _, _, _, _, _⟩ :: _) _ _); refine wpList_load_mid (by rfl) 63 (.tmp 24) (by rfl) r 3 (by rfl) (rEvCells (.slice t2a t2n t2c) m.turn) _ HT2.out.1 Tryz.underlying63 rfl (by kernel_rfl) ?_)
    | fail)
  refine (HGE.out _).mono ?_
  rintro e1 V1 ⟨rfl, hb1⟩
  obtain ⟨G, hG⟩ : ∃ G, G = getsB m.turn := ⟨_, rfl⟩
  rw [← hG]
  have HGG := Lib.hid hG
  have HB1 := Lib.hid hb1
  have hrv := HRD.out V1 hb1
  have HRV := Lib.hid hrv
  have hrl3 : r < V1.heap.size := Nat.lt_of_lt_of_le hrl2 hb1.size
  have hpa3 : pa < V1.heap.size := Nat.lt_of_lt_of_le hpal hb1.size
  have c13 : V1.cell? ⟨r, 13, none⟩ = some (.bool m.turn.cmd.quiet) := (hb1.cell (p := ⟨r, 13, none⟩) hrl2).trans c13
  clear hG hb1 hrv c18 c16
  cases G
  · have htm : ∀ l, tellM m.turn.cmd a l = if m.turn.cmd.quiet then [] else ansOf false a.kind a.number := fun l => by
      have h1 := HGG.out
      unfold getsB at h1
      simp at h1
      unfold tellM
      rw [if_neg (by omega)]
    have HTM := Lib.hid htm
    clear htm
    cases hq : m.turn.cmd.quiet
    · rw [hq] at c13
      obtain ⟨X, hX0⟩ : ∃ X, X = ansOf (toD t2a t2n t2c m.turn.cmd).quiet a.kind a.number := ⟨_, rfl⟩
      have hX : X = ansOf false a.kind a.number := by
        rw [hX0]
        show ansOf m.turn.cmd.quiet a.kind a.number = _; rw [hq]
      have hXl : X.length ≤ 2300000 := by
        have h := HTV.out false
        rw [HTM.out, hq] at h
        rw [hX]
        simpa using h
      obtain ⟨T, hT⟩ : ∃ T, T = m.out ++ X := ⟨_, rfl⟩
      have hcat : (⟨m.out.toArray⟩ : ByteArray) ++ ⟨X.toArray⟩ = ⟨T.toArray⟩ := by rw [hT]; exact ByteArray.ext (by simp)
      have hcl : ¬ 9223372036854775807 < m.out.length + X.length := by omega
      have HX := Lib.hid (And.intro hX hT)
      have HCALL := Lib.hid (HAL.out V1.drew)
      rw [← hX0] at HCALL
      clear hX hX0 hT
      go_upto_region 10 with fail
      refine wp_region_late 15 (fun W => W.cell? ⟨r, 18, none⟩ = some (sv m.out) ∧ W.rangeAt r 3 (cmdCells (.slice t2a t2n t2c) m.turn.cmd) ∧ W.rangeAt pa 0 (ansCells a)) (by kernel_rfl) ⟨HRV.out.1, HRV.out.2.2.1, HRV.out.2.2.2.1⟩ (fun hHeld => ?_)
      refine late_take (i := 0) (v := ?_) rfl (by kernel_rfl) (by kernel_rfl) (by kernel_rfl) (fun _ _ _ h => h) (by decide) (Or.inl ⟨by rfl, ?_⟩) (fun _ => hHeld) ?_
      rotate_left 1
      · ((intro w _; go_simp) <;> with_reducible rfl)
      try simp only [Act.put, tzA, tzB, tzC, tzD, tzE]
      refine late_take (i := 1) (v := ?_) rfl (by kernel_rfl) (by kernel_rfl) (by kernel_rfl) (fun _ _ _ h => h) (by decide) (Or.inl ⟨by rfl, ?_⟩) (fun _ => hHeld) ?_
      rotate_left 1
      · ((intro w _; go_simp) <;> with_reducible rfl)
      try simp only [Act.put, tzA, tzB, tzC, tzD, tzE, tzF]
      refine late_take (i := 2) (v := ?_) rfl (by kernel_rfl) (by kernel_rfl) (by kernel_rfl) (fun _ _ _ h => h) (by decide) (Or.inl ⟨by rfl, ?_⟩) (fun _ => hHeld) ?_
      rotate_left 1
      · ((intro w _; go_simp) <;> with_reducible rfl)
      try simp only [Act.put, tzA, tzB, tzC, tzD, tzE, tzF]
      refine late_take (i := 3) (v := ?_) rfl (by kernel_rfl) (by kernel_rfl) (by kernel_rfl) (fun _ _ _ h => h) (by decide) (Or.inl ⟨by rfl, ?_⟩) (fun _ => hHeld) ?_
      rotate_left 1
      · ((intro w _; go_simp) <;> with_reducible rfl)
      try simp only [Act.put, tzA, tzB, tzC, tzD, tzE, tzF]
      refine late_read (i := 4) (v := ?_) rfl (by kernel_rfl) (by kernel_rfl) (by kernel_rfl) (fun _ _ _ h => h) (by decide) rfl (by kernel_rfl) (Or.inl ⟨by rfl, ?_⟩) hHeld (by kernel_rfl) ?_
      rotate_left 1
      · ((intro w hSw; (try dsimp only at hSw); have c0 := hSw.1; go_simp) <;> with_reducible rfl)
      try simp only [Act.put, tzA, tzB, tzC, tzD, tzE, tzF]
      refine late_take (i := 5) (v := ?_) rfl (by kernel_rfl) (by kernel_rfl) (by kernel_rfl) (fun _ _ _ h => h) (by decide) (Or.inl ⟨by rfl, ?_⟩) (fun _ => hHeld) ?_
      rotate_left 1
      · ((intro w _; go_simp) <;> with_reducible rfl)
      try simp only [Act.put, tzA, tzB, tzC, tzD, tzE, tzF]
      refine late_take (i := 6) (v := ?_) rfl (by kernel_rfl) (by kernel_rfl) (by kernel_rfl) (fun _ _ _ h => h) (by decide) (Or.inl ⟨by rfl, ?_⟩) (fun _ => hHeld) ?_
      rotate_left 1
      · ((intro w _; go_simp) <;> with_reducible rfl)
      try simp only [Act.put, tzA, tzB, tzC, tzD, tzE, tzF]
      refine late_take (i := 7) (v := ?_) rfl (by kernel_rfl) (by kernel_rfl) (by kernel_rfl) (fun _ _ _ h => h) (by decide) (Or.inl ⟨by rfl, ?_⟩) (fun _ => hHeld) ?_
      rotate_left 1
      · ((intro w _; go_simp) <;> with_reducible rfl)
      try simp only [Act.put, tzA, tzB, tzC, tzD, tzE, tzF]
      refine late_take (i := 8) (v := ?_) rfl (by kernel_rfl) (by kernel_rfl) (by kernel_rfl) (fun _ _ _ h => h) (by decide) (Or.inl ⟨by rfl, ?_⟩) (fun _ => hHeld) ?_
      rotate_left 1
      · ((intro w _; go_simp) <;> with_reducible rfl)
      try simp only [Act.put, tzA, tzB, tzC, tzD, tzE, tzF]
      refine late_read (i := 9) (v := .agg (cmdCells (.slice t2a t2n t2c) m.turn.cmd).toArray) rfl (by kernel_rfl) (by kernel_rfl) (by kernel_rfl) (fun _ _ _ h => h) (by decide) rfl (by kernel_rfl) (yieldsIf_load_mid (by rfl) 61 (.tmp 72) rfl r 3 (by rfl) (cmdCells (.slice t2a t2n t2c) m.turn.cmd) _ (fun W hSw => hSw.2.1) Tryz.underlying61 rfl (by kernel_rfl)) hHeld (by kernel_rfl) ?_
      try simp only [Act.put, tzA, tzB, tzC, tzD, tzE, tzF]
      refine late_read (i := 10) (v := .agg (ansCells a).toArray) rfl (by kernel_rfl) (by kernel_rfl) (by kernel_rfl) (fun _ _ _ h => h) (by decide) rfl (by kernel_rfl) (yieldsIf_load_mid (by rfl) 52 (.tmp 3) rfl pa 0 (by rfl) (ansCells a) _ (fun W hSw => hSw.2.2) Tryz.underlying52 rfl (by kernel_rfl)) hHeld (by kernel_rfl) ?_
      try simp only [Act.put, tzA, tzB, tzC, tzD, tzE, tzF]
      refine late_one (i := 11) (by kernel_rfl) rfl (fun K hK => ?_)
      refine step_call (by rfl) 44 #[.agg (cmdCells (.slice t2a t2n t2c) m.turn.cmd).toArray, .agg (ansCells a).toArray] (by go_simp) HCALL.out ?_
      rintro e2 V2 ⟨rfl, hb2⟩
      refine ⟨_, rfl, ?_⟩
      have HB2 := Lib.hid (HB1.out.drew.trans (hb2.mono HB1.out.drew.size))
      have hrv2 := HRD.out V2 HB2.out
      have HRV2 := Lib.hid hrv2
      have d18 := hrv2.1
      have f18 := hrv2.2.1
      clear hb2 hrv2
      refine hK.out _ _ (fun _ _ => ⟨HRV2.out.1, HRV2.out.2.2.1, HRV2.out.2.2.2.1⟩) ?_
      clear hK K
      try simp only [Act.put, tzA, tzB, tzC, tzD, tzE, tzF]
      refine late_take (i := 12) (v := ?_) rfl (by kernel_rfl) (by kernel_rfl) (by kernel_rfl) (fun _ _ _ h => h) (by decide) (Or.inl ⟨by rfl, ?_⟩) (fun _ => ⟨HRV2.out.1, HRV2.out.2.2.1, HRV2.out.2.2.2.1⟩) ?_
      rotate_left 1
      · ((intro w _; go_simp) <;> with_reducible rfl)
      try simp only [Act.put, tzA, tzB, tzC, tzD, tzE, tzF]
      refine late_take (i := 13) (v := ?_) rfl (by kernel_rfl) (by kernel_rfl) (by kernel_rfl) (fun _ _ _ h => h) (by decide) (Or.inl ⟨by rfl, ?_⟩) (fun _ => ⟨HRV2.out.1, HRV2.out.2.2.1, HRV2.out.2.2.2.1⟩) ?_
      rotate_left 1
      · ((intro w _; go_simp) <;> with_reducible rfl)
      try simp only [Act.put, tzA, tzB, tzC, tzD, tzE, tzF]
      refine late_take (i := 14) (v := ?_) rfl (by kernel_rfl) (by kernel_rfl) (by kernel_rfl) (fun _ _ _ h => h) (by decide) (Or.inl ⟨by rfl, ?_⟩) (fun _ => ⟨HRV2.out.1, HRV2.out.2.2.1, HRV2.out.2.2.2.1⟩) ?_
      rotate_left 1
      · ((intro w _; go_simp) <;> with_reducible rfl)
      try simp only [Act.put, tzA, tzB, tzC, tzD, tzE, tzF]
      refine late_one (i := 15) (by kernel_rfl) rfl (fun K hK => ?_)
      go_simp
      refine hK.out _ _ (fun _ h => absurd rfl h) ?_
      clear hK K
      try simp only [Act.put, tzA, tzB, tzC, tzD, tzE, tzF]
      refine late_done (by kernel_rfl) ?_
      clear hHeld
      have HTT := Lib.hid (show T = m.out ++ tellM m.turn.cmd a (decide (cs = [])) from by rw [HTM.out, hq, if_neg (by simp), HX.out.2, HX.out.1])
      have HFS := Lib.hid (show RStep n₀ w r S { m with under := false, calls := cs, out := T } (V2.setCell ⟨r, 18, none⟩ (sv T)) from HST.out.tell HB2.out T)
      clear d18 f18
      obtain ⟨m2, S2, hi2, hd2, hn2, hw2, hl2, hq2⟩ := HEND.out _ _ HTT.out HFS.out
      have HON := Lib.hid (rOn_any hi2 hn2 hw2 hl2 hq2)
      have HD2 := Lib.hid hd2
      clear hi2 hd2 hn2 hw2 hl2 hq2
      go_upto_region 11 with fail
      go_wp2_with fail
      refine HON.out.mono ?_
      rintro e2 w3 ⟨⟨v3, rfl⟩, hs3⟩
      have HF := Lib.hid (HD2.out _ hs3)
      clear hs3
      go_wp2_with fail
      go_ret
      exact ⟨rfl, HF.out⟩
    · rw [hq] at c13
      have HTT := Lib.hid (show m.out = m.out ++ tellM m.turn.cmd a (decide (cs = [])) from by rw [HTM.out, hq, if_pos rfl, List.append_nil])
      have HFS := Lib.hid (show RStep n₀ w r S { m with under := false, calls := cs, out := m.out } V1 from HST.out.more HB1.out)
      obtain ⟨m2, S2, hi2, hd2, hn2, hw2, hl2, hq2⟩ := HEND.out _ _ HTT.out HFS.out
      have HON := Lib.hid (rOn_any hi2 hn2 hw2 hl2 hq2)
      have HD2 := Lib.hid hd2
      clear hi2 hd2 hn2 hw2 hl2 hq2
      go_upto_region 11 with fail
      go_wp2_with fail
      refine HON.out.mono ?_
      rintro e2 w3 ⟨⟨v3, rfl⟩, hs3⟩
      have HF := Lib.hid (HD2.out _ hs3)
      clear hs3
      go_wp2_with fail
      go_ret
      exact ⟨rfl, HF.out⟩
  · have htm : ∀ l, tellM m.turn.cmd a l = valueOf m.turn.cmd.verb a.kind a.item ++ (if l then endL else []) := fun l => by
      have h1 := HGG.out
      unfold getsB at h1
      simp at h1
      unfold tellM
      rw [if_pos h1]
    have HTM := Lib.hid htm
    clear htm
    obtain ⟨X, hX0⟩ : ∃ X, X = valueOf (toD t2a t2n t2c m.turn.cmd).verb a.kind a.item := ⟨_, rfl⟩
    have hX : X = valueOf m.turn.cmd.verb a.kind a.item := by
      rw [hX0]
      rfl
    have hXl : X.length ≤ 2300000 := by
      have h := HTV.out false
      rw [HTM.out] at h
      rw [hX]
      simpa using h
    obtain ⟨T, hT⟩ : ∃ T, T = m.out ++ X := ⟨_, rfl⟩
    have hcat : (⟨m.out.toArray⟩ : ByteArray) ++ ⟨X.toArray⟩ = ⟨T.toArray⟩ := by rw [hT]; exact ByteArray.ext (by simp)
    have hcl : ¬ 9223372036854775807 < m.out.length + X.length := by omega
    have HX := Lib.hid (And.intro hX hT)
    have HCALL := Lib.hid (HVL.out V1.drew (HB1.out.drew))
    rw [← hX0] at HCALL
    clear hX hX0 hT
    go_upto_region 6 with fail
    refine wp_region_late 15 (fun W => W.cell? ⟨r, 18, none⟩ = some (sv m.out) ∧ W.rangeAt r 3 (cmdCells (.slice t2a t2n t2c) m.turn.cmd) ∧ W.rangeAt pa 0 (ansCells a)) (by kernel_rfl) ⟨HRV.out.1, HRV.out.2.2.1, HRV.out.2.2.2.1⟩ (fun hHeld => ?_)
    refine late_take (i := 0) (v := ?_) rfl (by kernel_rfl) (by kernel_rfl) (by kernel_rfl) (fun _ _ _ h => h) (by decide) (Or.inl ⟨by rfl, ?_⟩) (fun _ => hHeld) ?_
    rotate_left 1
    · ((intro w _; go_simp) <;> with_reducible rfl)
    try simp only [Act.put, tzA, tzB, tzC, tzD, tzE]
    refine late_take (i := 1) (v := ?_) rfl (by kernel_rfl) (by kernel_rfl) (by kernel_rfl) (fun _ _ _ h => h) (by decide) (Or.inl ⟨by rfl, ?_⟩) (fun _ => hHeld) ?_
    rotate_left 1
    · ((intro w _; go_simp) <;> with_reducible rfl)
    try simp only [Act.put, tzA, tzB, tzC, tzD, tzE, tzF]
    refine late_take (i := 2) (v := ?_) rfl (by kernel_rfl) (by kernel_rfl) (by kernel_rfl) (fun _ _ _ h => h) (by decide) (Or.inl ⟨by rfl, ?_⟩) (fun _ => hHeld) ?_
    rotate_left 1
    · ((intro w _; go_simp) <;> with_reducible rfl)
    try simp only [Act.put, tzA, tzB, tzC, tzD, tzE, tzF]
    refine late_take (i := 3) (v := ?_) rfl (by kernel_rfl) (by kernel_rfl) (by kernel_rfl) (fun _ _ _ h => h) (by decide) (Or.inl ⟨by rfl, ?_⟩) (fun _ => hHeld) ?_
    rotate_left 1
    · ((intro w _; go_simp) <;> with_reducible rfl)
    try simp only [Act.put, tzA, tzB, tzC, tzD, tzE, tzF]
    refine late_read (i := 4) (v := ?_) rfl (by kernel_rfl) (by kernel_rfl) (by kernel_rfl) (fun _ _ _ h => h) (by decide) rfl (by kernel_rfl) (Or.inl ⟨by rfl, ?_⟩) hHeld (by kernel_rfl) ?_
    rotate_left 1
    · ((intro w hSw; (try dsimp only at hSw); have c0 := hSw.1; go_simp) <;> with_reducible rfl)
    try simp only [Act.put, tzA, tzB, tzC, tzD, tzE, tzF]
    refine late_take (i := 5) (v := ?_) rfl (by kernel_rfl) (by kernel_rfl) (by kernel_rfl) (fun _ _ _ h => h) (by decide) (Or.inl ⟨by rfl, ?_⟩) (fun _ => hHeld) ?_
    rotate_left 1
    · ((intro w _; go_simp) <;> with_reducible rfl)
    try simp only [Act.put, tzA, tzB, tzC, tzD, tzE, tzF]
    refine late_take (i := 6) (v := ?_) rfl (by kernel_rfl) (by kernel_rfl) (by kernel_rfl) (fun _ _ _ h => h) (by decide) (Or.inl ⟨by rfl, ?_⟩) (fun _ => hHeld) ?_
    rotate_left 1
    · ((intro w _; go_simp) <;> with_reducible rfl)
    try simp only [Act.put, tzA, tzB, tzC, tzD, tzE, tzF]
    refine late_take (i := 7) (v := ?_) rfl (by kernel_rfl) (by kernel_rfl) (by kernel_rfl) (fun _ _ _ h => h) (by decide) (Or.inl ⟨by rfl, ?_⟩) (fun _ => hHeld) ?_
    rotate_left 1
    · ((intro w _; go_simp) <;> with_reducible rfl)
    try simp only [Act.put, tzA, tzB, tzC, tzD, tzE, tzF]
    refine late_take (i := 8) (v := ?_) rfl (by kernel_rfl) (by kernel_rfl) (by kernel_rfl) (fun _ _ _ h => h) (by decide) (Or.inl ⟨by rfl, ?_⟩) (fun _ => hHeld) ?_
    rotate_left 1
    · ((intro w _; go_simp) <;> with_reducible rfl)
    try simp only [Act.put, tzA, tzB, tzC, tzD, tzE, tzF]
    refine late_read (i := 9) (v := .agg (cmdCells (.slice t2a t2n t2c) m.turn.cmd).toArray) rfl (by kernel_rfl) (by kernel_rfl) (by kernel_rfl) (fun _ _ _ h => h) (by decide) rfl (by kernel_rfl) (yieldsIf_load_mid (by rfl) 61 (.tmp 35) rfl r 3 (by rfl) (cmdCells (.slice t2a t2n t2c) m.turn.cmd) _ (fun W hSw => hSw.2.1) Tryz.underlying61 rfl (by kernel_rfl)) hHeld (by kernel_rfl) ?_
    try simp only [Act.put, tzA, tzB, tzC, tzD, tzE, tzF]
    refine late_read (i := 10) (v := .agg (ansCells a).toArray) rfl (by kernel_rfl) (by kernel_rfl) (by kernel_rfl) (fun _ _ _ h => h) (by decide) rfl (by kernel_rfl) (yieldsIf_load_mid (by rfl) 52 (.tmp 3) rfl pa 0 (by rfl) (ansCells a) _ (fun W hSw => hSw.2.2) Tryz.underlying52 rfl (by kernel_rfl)) hHeld (by kernel_rfl) ?_
    try simp only [Act.put, tzA, tzB, tzC, tzD, tzE, tzF]
    refine late_one (i := 11) (by kernel_rfl) rfl (fun K hK => ?_)
    refine step_call (by rfl) 42 #[.agg (cmdCells (.slice t2a t2n t2c) m.turn.cmd).toArray, .agg (ansCells a).toArray] (by go_simp) HCALL.out ?_
    rintro e2 V2 ⟨rfl, hb2⟩
    refine ⟨_, rfl, ?_⟩
    have HB2 := Lib.hid (HB1.out.drew.trans (hb2.mono HB1.out.drew.size))
    have hrv2 := HRD.out V2 HB2.out
    have HRV2 := Lib.hid hrv2
    have d18 := hrv2.1
    have f18 := hrv2.2.1
    clear hb2 hrv2
    refine hK.out _ _ (fun _ _ => ⟨HRV2.out.1, HRV2.out.2.2.1, HRV2.out.2.2.2.1⟩) ?_
    clear hK K
    try simp only [Act.put, tzA, tzB, tzC, tzD, tzE, tzF]
    refine late_take (i := 12) (v := ?_) rfl (by kernel_rfl) (by kernel_rfl) (by kernel_rfl) (fun _ _ _ h => h) (by decide) (Or.inl ⟨by rfl, ?_⟩) (fun _ => ⟨HRV2.out.1, HRV2.out.2.2.1, HRV2.out.2.2.2.1⟩) ?_
    rotate_left 1
    · ((intro w _; go_simp) <;> with_reducible rfl)
    try simp only [Act.put, tzA, tzB, tzC, tzD, tzE, tzF]
    refine late_take (i := 13) (v := ?_) rfl (by kernel_rfl) (by kernel_rfl) (by kernel_rfl) (fun _ _ _ h => h) (by decide) (Or.inl ⟨by rfl, ?_⟩) (fun _ => ⟨HRV2.out.1, HRV2.out.2.2.1, HRV2.out.2.2.2.1⟩) ?_
    rotate_left 1
    · ((intro w _; go_simp) <;> with_reducible rfl)
    try simp only [Act.put, tzA, tzB, tzC, tzD, tzE, tzF]
    refine late_take (i := 14) (v := ?_) rfl (by kernel_rfl) (by kernel_rfl) (by kernel_rfl) (fun _ _ _ h => h) (by decide) (Or.inl ⟨by rfl, ?_⟩) (fun _ => ⟨HRV2.out.1, HRV2.out.2.2.1, HRV2.out.2.2.2.1⟩) ?_
    rotate_left 1
    · ((intro w _; go_simp) <;> with_reducible rfl)
    try simp only [Act.put, tzA, tzB, tzC, tzD, tzE, tzF]
    refine late_one (i := 15) (by kernel_rfl) rfl (fun K hK => ?_)
    go_simp
    refine hK.out _ _ (fun _ h => absurd rfl h) ?_
    clear hK K
    try simp only [Act.put, tzA, tzB, tzC, tzD, tzE, tzF]
    refine late_done (by kernel_rfl) ?_
    clear hHeld
    have HFS1 := Lib.hid (show RStep n₀ w r S { m with under := false, calls := cs, out := T } (V2.setCell ⟨r, 18, none⟩ (sv T)) from HST.out.tell HB2.out T)
    have hbx2 := Go.Joins.block_setCell (i := 18) HRV2.out.2.2.2.2 (sv T)
    obtain ⟨W2, hW2⟩ : ∃ z, z = V2.setCell ⟨r, 18, none⟩ (sv T) := ⟨_, rfl⟩
    rw [← hW2] at hbx2 HFS1 ⊢
    have k16 : W2.cell? ⟨r, 16, none⟩ = some (.slice cva cs.length cvc) := (block_cell hbx2 16).1
    have k18 : W2.cell? ⟨r, 18, none⟩ = some (sv T) := by rw [(block_cell hbx2 18).1]; simp
    have g18 : W2.frozen? ⟨r, 18, none⟩ = false := (block_cell hbx2 18).2
    have hrl4 : r < W2.heap.size := (Array.getElem?_eq_some_iff.1 hbx2).1
    clear d18 f18 hbx2 hW2 HRV2 HB2 HRV HB1 hcat hcl c13
    cases hcs : cs with
    | nil =>
      rw [hcs] at k16
      obtain ⟨T2, hT2⟩ : ∃ T2, T2 = T ++ endL := ⟨_, rfl⟩
      have hcat : (⟨T.toArray⟩ : ByteArray) ++ ⟨endL.toArray⟩ = ⟨T2.toArray⟩ := by rw [hT2]; exact ByteArray.ext (by simp)
      have hcl : ¬ 9223372036854775807 < T.length + endL.length := by
        have h1 := HX.out.2
        have h2 : endL.length ≤ 200 := by decide
        rw [h1, List.length_append]
        omega
      have HTT := Lib.hid (show T2 = m.out ++ tellM m.turn.cmd a (decide (cs = [])) from by rw [HTM.out, hT2, HX.out.2, HX.out.1, hcs, List.append_assoc]; rfl)
      have HEN := Lib.hid (refEnd_any W2.drew)
      clear hT2
      go_upto_region 8 with fail
      refine wp_region_late 9 (fun W => W.cell? ⟨r, 18, none⟩ = some (sv T)) (by kernel_rfl) (show W2.drew.cell? ⟨r, 18, none⟩ = some (sv T) from k18) (fun hHeld => ?_)
      refine late_take (i := 0) (v := ?_) rfl (by kernel_rfl) (by kernel_rfl) (by kernel_rfl) (fun _ _ _ h => h) (by decide) (Or.inl ⟨by rfl, ?_⟩) (fun _ => hHeld) ?_
      rotate_left 1
      · ((intro w _; go_simp) <;> with_reducible rfl)
      try simp only [Act.put, tzA, tzB, tzC, tzD, tzE]
      refine late_take (i := 1) (v := ?_) rfl (by kernel_rfl) (by kernel_rfl) (by kernel_rfl) (fun _ _ _ h => h) (by decide) (Or.inl ⟨by rfl, ?_⟩) (fun _ => hHeld) ?_
      rotate_left 1
      · ((intro w _; go_simp) <;> with_reducible rfl)
      try simp only [Act.put, tzA, tzB, tzC, tzD, tzE, tzF]
      refine late_take (i := 2) (v := ?_) rfl (by kernel_rfl) (by kernel_rfl) (by kernel_rfl) (fun _ _ _ h => h) (by decide) (Or.inl ⟨by rfl, ?_⟩) (fun _ => hHeld) ?_
      rotate_left 1
      · ((intro w _; go_simp) <;> with_reducible rfl)
      try simp only [Act.put, tzA, tzB, tzC, tzD, tzE, tzF]
      refine late_take (i := 3) (v := ?_) rfl (by kernel_rfl) (by kernel_rfl) (by kernel_rfl) (fun _ _ _ h => h) (by decide) (Or.inl ⟨by rfl, ?_⟩) (fun _ => hHeld) ?_
      rotate_left 1
      · ((intro w _; go_simp) <;> with_reducible rfl)
      try simp only [Act.put, tzA, tzB, tzC, tzD, tzE, tzF]
      refine late_read (i := 4) (v := ?_) rfl (by kernel_rfl) (by kernel_rfl) (by kernel_rfl) (fun _ _ _ h => h) (by decide) rfl (by kernel_rfl) (Or.inl ⟨by rfl, ?_⟩) hHeld (by kernel_rfl) ?_
      rotate_left 1
      · ((intro w hSw; (try dsimp only at hSw); have c0 := hSw; go_simp) <;> with_reducible rfl)
      try simp only [Act.put, tzA, tzB, tzC, tzD, tzE, tzF]
      refine late_one (i := 5) (by kernel_rfl) rfl (fun K hK => ?_)
      refine step_call (by rfl) 43 #[] (by go_simp) HEN.out ?_
      rintro e2 V3 ⟨rfl, rfl⟩
      refine ⟨_, rfl, ?_⟩
      refine hK.out _ _ (fun _ _ => k18) ?_
      clear hK K
      try simp only [Act.put, tzA, tzB, tzC, tzD, tzE, tzF]
      refine late_take (i := 6) (v := ?_) rfl (by kernel_rfl) (by kernel_rfl) (by kernel_rfl) (fun _ _ _ h => h) (by decide) (Or.inl ⟨by rfl, ?_⟩) (fun _ => k18) ?_
      rotate_left 1
      · ((intro w _; go_simp) <;> with_reducible rfl)
      try simp only [Act.put, tzA, tzB, tzC, tzD, tzE, tzF]
      refine late_take (i := 7) (v := ?_) rfl (by kernel_rfl) (by kernel_rfl) (by kernel_rfl) (fun _ _ _ h => h) (by decide) (Or.inl ⟨by rfl, ?_⟩) (fun _ => k18) ?_
      rotate_left 1
      · ((intro w _; go_simp) <;> with_reducible rfl)
      try simp only [Act.put, tzA, tzB, tzC, tzD, tzE, tzF]
      refine late_take (i := 8) (v := ?_) rfl (by kernel_rfl) (by kernel_rfl) (by kernel_rfl) (fun _ _ _ h => h) (by decide) (Or.inl ⟨by rfl, ?_⟩) (fun _ => k18) ?_
      rotate_left 1
      · ((intro w _; go_simp) <;> with_reducible rfl)
      try simp only [Act.put, tzA, tzB, tzC, tzD, tzE, tzF]
      refine late_one (i := 9) (by kernel_rfl) rfl (fun K hK => ?_)
      go_simp
      refine hK.out _ _ (fun _ h => absurd rfl h) ?_
      clear hK K
      try simp only [Act.put, tzA, tzB, tzC, tzD, tzE, tzF]
      refine late_done (by kernel_rfl) ?_
      clear hHeld
      have HFS := Lib.hid (show RStep n₀ w r S { m with under := false, calls := cs, out := T2 } (W2.drew.setCell ⟨r, 18, none⟩ (sv T2)) from HFS1.out.tell (Below.refl _ _).drew T2)
      obtain ⟨m2, S2, hi2, hd2, hn2, hw2, hl2, hq2⟩ := HEND.out _ _ HTT.out HFS.out
      have HON := Lib.hid (rOn_any hi2 hn2 hw2 hl2 hq2)
      have HD2 := Lib.hid hd2
      clear hi2 hd2 hn2 hw2 hl2 hq2
      go_upto_region 11 with fail
      go_wp2_with fail
      refine HON.out.mono ?_
      rintro e2 w3 ⟨⟨v3, rfl⟩, hs3⟩
      have HF := Lib.hid (HD2.out _ hs3)
      clear hs3
      go_wp2_with fail
      go_ret
      exact ⟨rfl, HF.out⟩
    | cons c2 cs2 =>
      rw [hcs] at k16
      have HTT := Lib.hid (show T = m.out ++ tellM m.turn.cmd a (decide (cs = [])) from by rw [HTM.out, HX.out.2, HX.out.1, hcs]; simp)
      have HFS := HFS1
      obtain ⟨m2, S2, hi2, hd2, hn2, hw2, hl2, hq2⟩ := HEND.out _ _ HTT.out HFS.out
      have HON := Lib.hid (rOn_any hi2 hn2 hw2 hl2 hq2)
      have HD2 := Lib.hid hd2
      clear hi2 hd2 hn2 hw2 hl2 hq2
      go_upto_region 11 with fail
      go_wp2_with fail
      refine HON.out.mono ?_
      rintro e2 w3 ⟨⟨v3, rfl⟩, hs3⟩
      have HF := Lib.hid (HD2.out _ hs3)
      clear hs3
      go_wp2_with fail
      go_ret
      exact ⟨rfl, HF.out⟩

end Go.Proofs.YtddifbimlmkcbaaGreatDoor
