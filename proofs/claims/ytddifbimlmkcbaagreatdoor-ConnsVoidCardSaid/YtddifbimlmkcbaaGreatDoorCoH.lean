/- What In does with the document's connection. No condition. What Done does with the document's connection. No condition. -/
import Derived.Test.YtddifbimlmkcbaaGreatDoorConnROn
import Derived.Deep.RegionLaw
import Derived.Deep.MidRow
import Derived.Test.YtddifbimlmkcbaaGreatDoorLiB
import Derived.Test.YtddifbimlmkcbaaGreatDoorConnDone
import Derived.Test.YtddifbimlmkcbaaGreatDoorLowA
namespace Go.Proofs.YtddifbimlmkcbaaGreatDoor
open Go.RowKit Go.ChangeMaps Go.MapKept
section
variable {n₀ : Nat} {w w1 w2 : World} {r : Nat} {bv bv' wv wv2 tk cv : Value} {L M : List (Value × Ev)} {m : RM} {bl : List UInt8}
theorem RAt.inFed (h : RAt n₀ w r bv wv tk cv L m) (hn : n₀ ≤ w.heap.size) (hf : RFeedT w1 r 65 (rcRest wv tk cv m) bv' (m.bl ++ bl)) (hb : ∀ g, bv'.ownBlock = some g → w.heap.size ≤ g ∧ Tag w1 g 5) (hc : Chg (fun k => k = r) w w1) :
    RAt n₀ w1 r bv' wv tk cv L { m with bl := m.bl ++ bl } := by
  have hp := h.rtag
  refine ⟨h.low, hf.1, hf.2, fun g hg => ⟨Nat.le_trans hn (hb g hg).1, (hb g hg).2⟩, h.evs, h.wait.kept hc (fun g hg e => ?_), fun x hx => (h.keys x hx).kept hc (fun g hg e => ?_), h.tk, h.calls.kept hc (fun g hg e => ?_)⟩
  · subst e; exact absurd (hp.one (h.wait.tag hg).1) (by decide)
  · subst e; exact absurd (hp.one ((h.keys x hx).tag hg)) (by decide)
  · subst e; exact absurd (hp.one (h.calls.tag hg).1) (by decide)
theorem RAt.waits (h : RAt n₀ w r bv wv tk cv L m) (hm : MidRow w2 n₀ 63 13 wv2 (L.length + M.length) (rEvsCells L ++ rEvsCells M)) (hg : w.grownBy w2 wv.ownBlock) (hkM : ∀ x ∈ M, KeysAt w x.1 x.2.cmd.keys) :
    (w2.cell? ⟨r, 2, none⟩ = some wv ∧ w2.frozen? ⟨r, 2, none⟩ = false) ∧ RAt n₀ (w2.setCell ⟨r, 2, none⟩ wv2) r bv wv2 tk cv (L ++ M) { m with wait := m.wait ++ M.map (·.2) } ∧ Chg (RS r bv wv cv) w (w2.setCell ⟨r, 2, none⟩ wv2) := by
  have hc1 : Chg (fun k => wv.ownBlock = some k) w w2 := Chg.of_grown hg (fun _ _ e => e)
  have htag : ∀ k, wv.ownBlock = some k → Tag w k 63 := fun k hk => (h.wait.tag hk).1
  have hno : ∀ k, wv.ownBlock = some k → ∀ t, t ≠ 63 → ¬ Tag w k t := fun k hk t ht e => ht (e.one (htag k hk))
  have hbox2 := hc1.obj h.box (fun e => hno r e _ (by decide) h.rtag)
  have hst := cset_chg w2 r 2 wv2
  have hp2 : Tag w2 r 65 := Tag.of hbox2
  have hbox3 := Go.Joins.block_setCell (i := 2) hbox2 wv2
  rw [List.setIfInBounds_toArray] at hbox3
  have hbl2 := h.feed.kept hc1 (fun _ g hg e => hno g e _ (by decide) (h.fed g hg).2)
  have hfd2 : ∀ g, bv.ownBlock = some g → n₀ ≤ g ∧ Tag w2 g 5 := fun g hg => ⟨(h.fed g hg).1, hc1.tag (h.fed g hg).2 (fun e => hno g e _ (by decide) (h.fed g hg).2)⟩
  have hk2 : ∀ y ∈ L ++ M, KeysAt w2 y.1 y.2.cmd.keys := fun y hy => by
    have hy2 : KeysAt w y.1 y.2.cmd.keys := (List.mem_append.1 hy).elim (h.keys y) (hkM y)
    exact hy2.kept hc1 (fun g hg e => hno g e _ (by decide) (hy2.tag hg))
  have hcs2 := h.calls.kept hc1 (fun g hg e => hno g e _ (by decide) (h.calls.tag hg).1)
  refine ⟨⟨by rw [(block_cell hbox2 2).1]; rfl, (block_cell hbox2 2).2⟩, ⟨h.low, hbox3, hbl2.kept hst (fun _ g hg e => ?_), fun g hg => ⟨(hfd2 g hg).1, hst.tag (hfd2 g hg).2 (fun e => ?_)⟩, by rw [List.map_append, h.evs], ?_, fun y hy => (hk2 y hy).kept hst (fun g hg e => ?_), h.tk, hcs2.kept hst (fun g hg e => ?_)⟩, (hc1.mono (M' := RS r bv wv cv) (fun k _ e => .inr (.inr (.inl e)))).then (M' := fun k => k = r) hst (fun k _ e => .inl e)⟩
  · subst e; exact absurd (hp2.one (hfd2 g hg).2) (by decide)
  · subst e; exact absurd (hp2.one (hfd2 g hg).2) (by decide)
  · rw [List.length_append, revsC_append]
    exact hm.kept hst (fun g hg e => by subst e; exact absurd (hp2.one (hm.tag hg).1) (by decide))
  · subst e; exact absurd (hp2.one ((hk2 y hy).tag hg)) (by decide)
  · subst e; exact absurd (hp2.one (hcs2.tag hg).1) (by decide)
end
set_option maxRecDepth 100000 in
set_option maxHeartbeats 8000000 in
theorem rIn_any {n₀ : Nat} {w : World} {r : Nat} {m : RM} {S : Nat → Prop} {bv : Value} {bl : List UInt8} (h : RIs n₀ w r m S) (hn : n₀ ≤ w.heap.size) (hlen : m.bl.length + bl.length < 1048576) (hb : BRow w bv bl) (hok : ∀ e ∈ m.wait, EvC e) (hokb : ∀ e ∈ (refEv (m.bl ++ bl)).1, EvC e) (hwl : m.wait.length ≤ 1048576) (hol : m.out.length ≤ 1098000000000) :
    Calls Tryz.prog 23 #[.pointer (some ⟨r, 0, none⟩), bv] w fun e w' => (∃ v, e = .returned v) ∧ RStep n₀ w r S (inR m bl) w' := by
  obtain ⟨ba, bc, rfl⟩ := hb.len
  obtain ⟨b0, wv, tk, cv, L, hat, rfl⟩ := h
  have c19 : w.cell? ⟨r, 19, none⟩ = some (.bool m.closed) := (hat.cell (j := 19) rfl).1
  have hlw : L.length ≤ 1048576 := by rw [← hat.evs, List.length_map] at hwl; exact hwl
  cases hcl : m.closed
  · obtain ⟨i0, hi, hz0, hz1, hz2⟩ := info_parts infoREv
    have Hi := Lib.hid hi
    have Hz := Lib.hid (And.intro hz0 (And.intro hz1 hz2))
    have hin : inR m bl = onR { m with bl := m.bl ++ bl, wait := m.wait ++ (refEv (m.bl ++ bl)).1.drop (refEv m.bl).1.length } := by unfold inR; rw [hcl, if_neg (by simp)]
    have hdr : Below w.heap.size w w.drew := (Below.refl _ _).drew
    have hatd := hat.below hdr
    have hcall := refIn_head (by decide) (by decide) (⟨hatd.box, hatd.feed⟩ : RFeedT w.drew r 65 (rcRest wv tk cv m) b0 m.bl) (hb.below hdr) hlen
    obtain ⟨wa, wc, rfl⟩ := hat.wait.len
    have c2 : w.cell? ⟨r, 2, none⟩ = some (.slice wa L.length wc) := (hat.cell (j := 2) rfl).1
    rw [hcl] at c19
    have hp := hat.plt
    have hfew := few_evsR (m.bl ++ bl)
    rw [List.length_append] at hfew
    have HC := Lib.hid hcall
    have HA := Lib.hid hatd
    have HIN := Lib.hid hin
    have HOK := Lib.hid hok
    have HOB := Lib.hid hokb
    have HCL := Lib.hid hcl
    have HWL := Lib.hid hwl
    clear hat hatd hcall hin hok hokb hb hcl hdr hi hz0 hz1 hz2 hwl
    go_enter Tryz.func23, Tryz.ntmps23
    go_upto_region 1 with fail
    go_region_law (first
      | (refine step_call (by rfl) 37 #[.pointer (some ⟨r, 0, none⟩), .slice ba bl.length bc] (by go_simp) HC.out ?_; rintro e1 w1 ⟨v1, M, bv1, rfl, hrow1, hev1, hf1, hb1, hc1⟩; refine ⟨_, rfl, ?_⟩; have hat1 := HA.out.inFed hn hf1 hb1 hc1; obtain ⟨ma, mc, hma⟩ : ∃ a c, v1 = .slice a M.length c := (by obtain ⟨-, a, c, h, -⟩ := hrow1.1; exact ⟨a, c, h⟩); subst hma; have HA1 := Lib.hid hat1; have HC1 := Lib.hid hc1; have HFR1 := Lib.hid hb1; have HEV1 := Lib.hid hev1; have HCUT := Lib.hid (src_row Tryz.underlying60 hrow1.1 (revsC_one hrow1.2)); have HKM := Lib.hid hrow1.2; have hML : M.length ≤ 1048576 := (by have h1 := congrArg List.length hev1; rw [List.length_map, List.length_drop] at h1; omega); have c21 : w1.cell? ⟨r, 2, none⟩ = some (.slice wa L.length wc) := (hat1.cell (j := 2) rfl).1; have hn1 : n₀ ≤ w1.heap.size := Nat.le_trans hn (show w.heap.size ≤ _ from hc1.size); clear hf1 hc1 hb1 hev1 hrow1 hat1)
      | (refine step_append_mid (by rfl) _ _ 60 60 (by rfl) n₀ 63 i0 (.agg rEvZero) 13 144 Tryz.underlying60 Hi.out Hz.out.1 Hz.out.2.1 Hz.out.2.2 rfl (.slice wa L.length wc) L.length _ (by rfl) HA1.out.wait (.slice ma M.length mc) M.length _ (by rfl) HCUT.out (by unfold maxLen; omega) (by omega) hn1 ?_; intro a9 c9 w9 hm9 hg9 hat9; have hwt := HA1.out.waits hm9 hg9 HKM.out; have HWT := Lib.hid hwt; have HAT := Lib.hid hat9; have q1 := hwt.1.1; have q2 := hwt.1.2; clear hm9 hg9 hat9 hwt)
      | fail)
    all_goals
      have hml : M.map (·.2) = (refEv (m.bl ++ bl)).1.drop (refEv m.bl).1.length := HEV1.out
      have hmw : (m.wait ++ M.map (·.2)).length ≤ 2097152 := by
        have := HWL.out
        rw [List.length_append, List.length_map]; omega
      have hst : RStep n₀ w r (RS r b0 (.slice wa L.length wc) cv) { m with bl := m.bl ++ bl, wait := m.wait ++ M.map (·.2) } (w9.setCell ⟨r, 2, none⟩ (.slice a9 (L.length + M.length) c9)) := by
        refine ⟨_, HWT.out.2.1.is, ?_, fun k hk => ?_⟩
        · refine ((Chg.refl (RS r b0 (.slice wa L.length wc) cv) w).drew.then (M' := fun k => k = r) HC1.out (fun k _ hk => .inl hk)).then (M' := RS r bv1 (.slice wa L.length wc) cv) HWT.out.2.2 (fun k hk1 hk => ?_)
          rcases hk with hk | hk | hk
          · exact .inl hk
          · have h1 : w.heap.size ≤ k := (HFR1.out k hk).1
            omega
          · exact .inr (.inr hk)
        · have hsz : w.heap.size ≤ w1.heap.size := HC1.out.size
          rcases hk with hk | hk | hk | hk
          · exact .inl (.inl hk)
          · exact .inr (HFR1.out k hk).1
          · rcases HAT.out with ha | ha
            · rw [ha] at hk; exact .inl (.inr (.inr (.inl hk)))
            · rw [ha] at hk
              have := Option.some.inj hk
              exact .inr (by omega)
          · exact .inl (.inr (.inr (.inr hk)))
      obtain ⟨S1, hi1, hch1, hfr2⟩ := hst
      have hturns := rOn_any hi1 (Nat.le_trans hn hch1.size) (fun e he => by
        rcases List.mem_append.1 he with he | he
        · exact HOK.out e he
        · rw [hml] at he
          exact HOB.out e (List.mem_of_mem_drop he)) (by
        show m.out.length + 200 * (m.wait ++ M.map (·.2)).length ≤ _
        omega) (by show (m.wait ++ M.map (·.2)).length ≤ _; omega)
      have HTN := Lib.hid hturns
      have HCH := Lib.hid hch1
      have HFR2 := Lib.hid hfr2
      have HML := Lib.hid hml
      clear hturns hch1 hfr2 hi1 hmw hml q1 q2 c21 c2 c19
      go_wp2_with fail
      refine HTN.out.mono ?_
      rintro e2 w3 ⟨⟨v3, rfl⟩, hs3⟩
      have hs4 := RStep.step HCH.out HFR2.out hs3
      rw [HML.out, ← HIN.out] at hs4
      have HS4 := Lib.hid hs4
      clear hs3 hs4
      go_wp2_with fail
      exact bodyPost_end (results_none (by exact Tryz.results23) _ _ _) rfl ⟨⟨_, rfl⟩, HS4.out⟩
  · have hin : inR m bl = m := by unfold inR; rw [hcl, if_pos rfl]
    rw [hin]
    rw [hcl] at c19
    have HST := Lib.hid (RStep.refl hat.is)
    clear hat hb hok hokb hin
    go_enter Tryz.func23, Tryz.ntmps23
    go_wp2_with fail
    exact bodyPost_ret (results_none (by exact Tryz.results23) _ _ _) rfl ⟨⟨_, rfl⟩, HST.out⟩
end Go.Proofs.YtddifbimlmkcbaaGreatDoor
namespace Go.Proofs.YtddifbimlmkcbaaGreatDoor
open Go.RowKit Go.ChangeMaps Go.MapKept
section
variable {n₀ : Nat} {w wc w' : World} {r : Nat} {bv wv tk cv : Value} {L : List (Value × Ev)} {m mm : RM} {S : Nat → Prop}
theorem RAt.tailCalls (h : RAt n₀ w r bv wv tk cv L m) {c : Cmd} {cs : List Cmd} (hc : m.calls = c :: cs) :
    ∃ g o cap o2, cv = .slice (some ⟨g, o, none⟩) (cs.length + 1) cap ∧ cs.length + 1 ≤ cap ∧ (∀ W : World, (Instr.slice 31 (.slice (some ⟨g, o, none⟩) (cs.length + 1) cap) (some (.int .i64 1)) none none).run Tryz.prog W = .ok (.slice (some ⟨g, o2, none⟩) cs.length (cap - 1)) W) ∧
      MidRow w n₀ 39 7 (.slice (some ⟨g, o2, none⟩) cs.length (cap - 1)) cs.length (callsCells cs) := by
  have hcal := h.calls
  rw [hc] at hcal
  have hcal0 := hcal
  obtain ⟨-, ⟨-, h0⟩ | ⟨g, o, cap, cur, h1, -, -, h2, -⟩⟩ := hcal
  · simp at h0
  · have h2 : cs.length + 1 ≤ cap := h2
    refine ⟨g, o, cap, if cap = 1 then o else o + 7, h1, h2, fun W => slice_call h2 W, ?_⟩
    rw [h1] at hcal0
    by_cases hn : cap = 1
    · obtain rfl : cs = [] := List.eq_nil_of_length_eq_zero (by omega)
      rw [if_pos hn, hn]
      exact hcal0.empty
    · rw [if_neg hn]
      exact hcal0.tail (x := callCells c) rfl (by omega) (by omega)
theorem RIs.tell (h : RIs n₀ wc r mm S) {V : World} (hb : Below wc.heap.size wc V) (T : List UInt8) : RStep n₀ wc r S { mm with out := T } (V.setCell ⟨r, 18, none⟩ (sv T)) := by
  obtain ⟨bv, wv, tk, cv, L, hat, rfl⟩ := h
  have h2 := (hat.below hb).setOut T
  exact ⟨_, h2.is, (Chg.of_below (M := RS r bv wv cv) hb).then (M' := fun k => k = r) (cset_chg _ _ _ _) (fun k _ e => .inl e), fun _ e => .inl e⟩
theorem RStep.tell (h : RStep n₀ w r S mm wc) {V : World} (hb : Below wc.heap.size wc V) (T : List UInt8) : RStep n₀ w r S { mm with out := T } (V.setCell ⟨r, 18, none⟩ (sv T)) := by
  obtain ⟨S1, h1, h2, h3⟩ := h
  exact RStep.step h2 h3 (h1.tell hb T)
theorem RStep.more (h : RStep n₀ w r S mm wc) {V : World} (hb : Below wc.heap.size wc V) : RStep n₀ w r S mm V := by
  obtain ⟨S1, h1, h2, h3⟩ := h
  exact RStep.step h2 h3 (RStep.of_below h1 hb)
end
end Go.Proofs.YtddifbimlmkcbaaGreatDoor
