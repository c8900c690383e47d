/- The law FeedsCuts, walked: however bytes are cut, their events are the same. Condition: the library's variables MaxLen and ErrRange are as they are laid. -/
import Derived.Test.YtahpjhnbjkjkiaaDoorFeedLike
import Derived.Test.YtahpjhnbjkjkiaaDoorFeedCuts
import Derived.Test.YtahpjhnbjkjkiaaDoorFeedMend
import Derived.StillTailTactics
namespace Go.Proofs.YtahpjhnbjkjkiaaDoor
open Go.RowKit Go.ChangeMaps Go.MapKept

/-- A feed's block, what it holds aside. -/
def FBox (W : World) (p : Nat) (st : FSt) : Prop := ∃ ha hc ks, FeedBox W p 65 [] (st.way : Int) (.slice ha st.held.length hc) ks st.cmd (st.many : Int)
theorem FeedAt.fbox {n₀ : Nat} {W : World} {p : Nat} {hv ks : Value} {st : FSt} (h : FeedAt n₀ W p 65 [] hv ks st) : FBox W p st := by
  obtain ⟨ha, hc, rfl⟩ := row_slice h.held
  exact ⟨ha, hc, ks, h.box⟩
theorem FBox.kept {W W' : World} {p : Nat} {st : FSt} {M : Nat → Prop} (h : FBox W p st) (hc : Chg M W W') (hM : ¬ M p) : FBox W' p st := by
  obtain ⟨ha, c, ks, h⟩ := h
  exact ⟨ha, c, ks, h.kept hc hM⟩
theorem FBox.tag {W : World} {p : Nat} {st : FSt} (h : FBox W p st) : Tag W p 65 := by
  obtain ⟨ha, c, ks, h⟩ := h
  exact h.tag
theorem left_is {W : World} {p : Nat} {st : FSt} {ha : Option Addr} {hc : Nat} {ks : Value} (h : FeedBox W p 65 [] (st.way : Int) (.slice ha st.held.length hc) ks st.cmd (st.many : Int)) (hn : st.held.length ≤ 1048576) :
    Calls Tryd.prog 11 #[.pointer (some ⟨p, 0, none⟩)] W fun e w' => e = .returned (.int .i64 ((leftF st : Nat) : Int)) ∧ W = w' := left_any h hn
/-- Both feeds, when c bytes have come to the second one. -/
structure CutJ (w : World) (bl : List UInt8) (c pf pg : Nat) (W : World) (rv pv wv hvg ksg : Value) (Lp Lw : List (Value × Ev)) : Prop where
  rest : BRow W rv (bl.drop c)
  rlow : bl ≠ [] → ∀ g, rv.ownBlock = some g → g < w.heap.size
  f : FBox W pf (runF fNew bl).1
  g : FeedAt w.heap.size W pg 65 [] hvg ksg (runF fNew (bl.take c)).1
  fg : pf ≠ pg
  whole : EvRow W wv Lw
  wevs : Lw.map (·.2) = (runF fNew bl).2
  parts : Parts w pv Lp W
  pevs : Lp.map (·.2) = (runF fNew (bl.take c)).2
  pw : ∀ g, pv.ownBlock = some g → wv.ownBlock ≠ some g
  env : Env w.heap.size W
  low : Below w.heap.size w W
section
variable {w : World} {bl : List UInt8} {c pf pg : Nat} {W w1 : World} {rv pv wv hvg ksg : Value} {Lp Lw : List (Value × Ev)}
/-- Bytes have come; their events are not yet with the others. -/
structure CutK (w : World) (bl : List UInt8) (c pf pg : Nat) (W : World) (rv pv wv : Value) (Lp Lw : List (Value × Ev)) : Prop where
  rest : BRow W rv (bl.drop c)
  f : FBox W pf (runF fNew bl).1
  whole : EvRow W wv Lw
  parts : Parts w pv Lp W
  env : Env w.heap.size W
  low : Below w.heap.size w W
theorem CutJ.fed (h : CutJ w bl c pf pg W rv pv wv hvg ksg Lp Lw) (hc : Chg (FM pg hvg) W w1) : CutK w bl c pf pg w1 rv pv wv Lp Lw := by
  have hM : ∀ k, FM pg hvg k → w.heap.size ≤ k ∧ (Tag W k 65 ∨ Tag W k 5) := fun k hk => h.g.fm hk
  have hno : ∀ k, FM pg hvg k → ∀ e, e ≠ 65 → e ≠ 5 → ¬ Tag W k e := fun k hk e h1 h2 he => by
    rcases (hM k hk).2 with h3 | h3
    · exact h1 (he.one h3)
    · exact h2 (he.one h3)
  exact {
    rest := h.rest.kept hc (fun hne g hg e => by
      have := h.rlow (by rintro rfl; simp at hne) g hg
      have := (hM g e).1
      omega)
    f := h.f.kept hc (by
      rintro (e | e)
      · exact h.fg e
      · exact absurd (h.f.tag.one (owns_tag h.g.held e)) (by decide))
    whole := h.whole.kept hc (fun k hk => ⟨hno k hk _ (by decide) (by decide), hno k hk _ (by decide) (by decide)⟩)
    parts := h.parts.kept hc (fun k hk => ⟨hno k hk _ (by decide) (by decide), hno k hk _ (by decide) (by decide)⟩)
    env := h.env.chg hc (fun k hk => (hM k hk).1)
    low := h.low.trans (hc.below (fun k hk => ⟨Nat.lt_of_lt_of_le hk h.low.size, fun e => by have := (hM k e).1; omega⟩)) }
end
theorem run_take (bl : List UInt8) (c k : Nat) : runF fNew (bl.take (c + k)) = ((runF (runF fNew (bl.take c)).1 ((bl.drop c).take k)).1, (runF fNew (bl.take c)).2 ++ (runF (runF fNew (bl.take c)).1 ((bl.drop c).take k)).2) := by
  rw [← runF_append, List.take_add]
/-- Behind the append. -/
theorem CutJ.pushed {w : World} {bl : List UInt8} {c k pf pg : Nat} {W w1 w2 : World} {rv rv' pv wv hvg ksg hv' ks' pv' : Value} {Lp Lw M : List (Value × Ev)} (h : CutJ w bl c pf pg W rv pv wv hvg ksg Lp Lw) (hk : CutK w bl c pf pg w1 rv pv wv Lp Lw)
    (h' : FeedAt w.heap.size w1 pg 65 [] hv' ks' (runF (runF fNew (bl.take c)).1 ((bl.drop c).take k)).1)
    (hev : M.map (·.2) = (runF (runF fNew (bl.take c)).1 ((bl.drop c).take k)).2) (hp : Parts w pv' (Lp ++ M) w2) (hc2 : Chg (fun j => pv.ownBlock = some j) w1 w2) (hat : ∀ g, pv'.ownBlock = some g → pv.ownBlock = some g ∨ w1.heap.size ≤ g)
    (hr : BRow w1 rv' ((bl.drop c).drop k)) (hrb : rv'.ownBlock = rv.ownBlock) : CutJ w bl (c + k) pf pg w2 rv' pv' wv hv' ks' (Lp ++ M) Lw := by
  have hM : ∀ j, pv.ownBlock = some j → w.heap.size ≤ j ∧ Tag w1 j 42 := fun j hj => ⟨(hk.parts.row.lt j hj).1, owns_tag hk.parts.row hj⟩
  have hrt := run_take bl c k
  exact {
    rest := by
      rw [← List.drop_drop]
      exact hr.kept hc2 (fun hne g hg e => by
        have := h.rlow (by rintro rfl; simp at hne) g (by rw [← hrb]; exact hg)
        have := (hM g e).1
        omega)
    rlow := fun hne g hg => h.rlow hne g (by rw [← hrb]; exact hg)
    f := hk.f.kept hc2 (fun e => absurd (hk.f.tag.one (hM pf e).2) (by decide))
    g := by
      rw [hrt]
      exact h'.kept hc2 (fun j hj => ⟨fun e => by
        rcases (h'.fm e).2 with h1 | h1
        · exact absurd (h1.one (hM j hj).2) (by decide)
        · exact absurd (h1.one (hM j hj).2) (by decide), fun e => absurd (e.one (hM j hj).2) (by decide)⟩)
    fg := h.fg
    whole := ⟨hk.whole.1.kept hc2 (fun g hg e => h.pw g e hg), fun x hx => (hk.whole.2 x hx).kept hc2 (fun g hg e => absurd (((hk.whole.2 x hx).tag hg).one (hM g e).2) (by decide))⟩
    wevs := h.wevs
    parts := hp
    pevs := by rw [List.map_append, h.pevs, hev, hrt]
    pw := fun g hg e => by
      rcases hat g hg with h1 | h1
      · exact h.pw g h1 e
      · have := (hk.whole.1.tag e).lt
        omega
    env := hk.env.chg hc2 (fun j hj => (hM j hj).1)
    low := hk.low.trans (hc2.below (fun j hj => ⟨Nat.lt_of_lt_of_le hj hk.low.size, fun e => by have := (hM j e).1; omega⟩)) }
/-- All events, of whole bytes and of parts. -/
structure FinJ (w : World) (pf pg : Nat) (W : World) (wv pv : Value) (LL Lw : List (Value × Ev)) (st : FSt) : Prop where
  rowP : EvRow W pv LL
  rowW : EvRow W wv Lw
  map : LL.map (·.2) = Lw.map (·.2)
  f : FBox W pf st
  g : FBox W pg st
  small : st.held.length ≤ 1048576
  env : Env w.heap.size W
  low : Below w.heap.size w W
theorem CutJ.fin {w : World} {bl : List UInt8} {c pf pg : Nat} {W : World} {rv pv wv hvg ksg : Value} {Lp Lw : List (Value × Ev)} (h : CutJ w bl c pf pg W rv pv wv hvg ksg Lp Lw) (hc : bl.length ≤ c) (hl : bl.length ≤ 6000) :
    FinJ w pf pg W wv pv Lp Lw (runF fNew bl).1 ∧ Lp.length = Lw.length := by
  have ht : bl.take c = bl := List.take_of_length_le hc
  have hm : Lp.map (·.2) = Lw.map (·.2) := by rw [h.pevs, ht, h.wevs]
  refine ⟨⟨⟨Row.of_owns h.parts.row, h.parts.keys⟩, h.whole, hm, h.f, ?_, ?_, h.env, h.low⟩, by simpa using congrArg List.length hm⟩
  · have := h.g.fbox
    rwa [ht] at this
  · have := heldF_run bl fNew
    have h0 : fNew.held.length = 0 := rfl
    omega
/-- The numbers of a slice of uint16. -/
abbrev u16V (x : Nat) : Value := .int .u16 (x : Int)
theorem idx_u16 {a : Option Addr} {g o n c k : Nat} (ha : a = some ⟨g, o, none⟩) (hk : k < n) (W : World) : (Instr.indexAt 23 (.slice a n c) (.int .i64 (k : Int))).run Tryd.prog W = .ok (.pointer (some ⟨g, o + k, none⟩)) W := by
  subst ha
  have h0 : (0 : Int) ≤ (k : Int) := by omega
  have h1 : (k : Int) < (n : Int) := by omega
  have h2 := Tryd.underlying23
  go_simp
set_option maxRecDepth 100000 in
set_option maxHeartbeats 8000000 in
theorem feedsCuts_walk {w : World} {bv cv : Value} {bl : List UInt8} {cl : List Nat} (hb : BRow w bv bl) (hcv : Own w 0 cv (cl.map u16V)) (hcl : ∀ x ∈ cl, x < 65536) (hL : HasLen w) (hE : HasErr w) :
    Calls Tryd.prog 3 #[bv, cv] w fun e w' => e = .returned (.bool true) ∧ Below w.heap.size w w' := by
  obtain ⟨ba, bc, rfl⟩ := hb.len
  obtain ⟨ca, cc, rfl⟩ := hcv.len
  rw [List.length_map] at *
  have hlives := lives30 w hL hE
  have HLV := Lib.hid hlives
  clear hlives
  by_cases h1 : 6000 < bl.length
  · have d1 : decide ((6000 : Int) < (bl.length : Int)) = true := by rw [decide_eq_true_eq]; omega
    clear hb hcv hL hE
    go_enter Tryd.func3, Tryd.ntmps3
    go_wp2_with fail
    refine HLV.out.mono ?_
    rintro e w' ⟨rfl, hb⟩
    have HB := Lib.hid hb
    clear hb
    go_wp2_with fail
    go_ret
    exact ⟨rfl, HB.out⟩
  · have d1 : decide ((6000 : Int) < (bl.length : Int)) = false := by rw [decide_eq_false_iff_not]; omega
    by_cases h2 : 60 < cl.length
    · have d2 : decide ((60 : Int) < (cl.length : Int)) = true := by rw [decide_eq_true_eq]; omega
      clear hb hcv hL hE
      go_enter Tryd.func3, Tryd.ntmps3
      go_wp2_with fail
      refine HLV.out.mono ?_
      rintro e w' ⟨rfl, hb⟩
      have HB := Lib.hid hb
      clear hb
      go_wp2_with fail
      go_ret
      exact ⟨rfl, HB.out⟩
    · have d2 : decide ((60 : Int) < (cl.length : Int)) = false := by rw [decide_eq_false_iff_not]; omega
      obtain ⟨i0, hi, hz0, hz1, hz2⟩ := info_parts infoEv
      have Hi := Lib.hid hi
      have Hz := Lib.hid (And.intro hz0 (And.intro hz1 hz2))
      have hblow : bl ≠ [] → ∀ g, (Value.slice ba bl.length bc).ownBlock = some g → g < w.heap.size := fun hne g hg => hb.blk hne hg
      have HBL := Lib.hid hblow
      have hE0 := (Env.of hL hE).chg (M := fun _ => False) ((Chg.refl _ _).alloc (.cells feedZero 65)) (fun _ e => e.elim)
      have hB0 := (Below.refl w.heap.size w).alloc (Nat.le_refl _) (.cells feedZero 65)
      have H0 := Lib.hid (show FeedAt w.heap.size (w.alloc (.cells feedZero 65)) w.heap.size 65 [] (.slice none 0 0) (.slice none 0 0) fNew from feed_new w (Nat.le_refl _))
      have HE0 := Lib.hid hE0
      have HB0 := Lib.hid hB0
      have HBR := Lib.hid hb
      have HCV := Lib.hid hcv
      have HCL := Lib.hid hcl
      clear hi hz0 hz1 hz2 hblow hE0 hB0 hL hE hb hcv hcl
      go_enter Tryd.func3, Tryd.ntmps3
      go_wp2_with fail
      refine (new_any w).mono ?_
      rintro e w0 ⟨rfl, rfl⟩
      generalize w.alloc (.cells feedZero 65) = W0 at *
      go_wp2_with fail
      refine (in_any H0.out HE0.out HB0.out.size goodF_new (by show 0 + bl.length < _; omega) (HBR.out.below HB0.out) (fun hne g hg => .inl (HBL.out hne g hg)) (fun _ _ _ e => by simp [Value.ownBlock] at e) ⟨by decide, by decide, by decide⟩ (by decide)).mono ?_
      rintro e w1 ⟨hvf, ksf, wv, Lw, rfl, hf1, hc1, hfr1, hwev, hcut, hkw⟩
      have hb1 := HB0.out.trans (hc1.below (fun k hk => ⟨Nat.lt_of_lt_of_le hk HB0.out.size, fun hm => by have := H0.out.lowM k hm; omega⟩))
      have he1 := HE0.out.chg hc1 H0.out.lowM
      obtain ⟨wa, rfl⟩ := hcut.1
      have hst : CutJ w bl 0 w.heap.size w1.heap.size (w1.alloc (.cells feedZero 65)) (.slice ba bl.length bc) (.slice none 0 0) (.slice wa Lw.length Lw.length) (.slice none 0 0) (.slice none 0 0) [] Lw := {
        rest := (HBR.out.below hb1).below ((Below.refl _ _).alloc (Nat.le_refl _) _)
        rlow := HBL.out
        f := (hf1.alloc _).fbox
        g := feed_new w1 hb1.size
        fg := by have := hf1.plt; omega
        whole := EvRow.below ⟨hcut.2.1, hkw⟩ ((Below.refl _ _).alloc (Nat.le_refl _) _)
        wevs := hwev
        parts := ⟨World.ownsRow_nil _ _ _ _, fun x hx => by cases hx⟩
        pevs := rfl
        pw := fun g hg e => by simp [Value.ownBlock] at hg
        env := he1.chg (M := fun _ => False) ((Chg.refl _ _).alloc _) (fun _ e => e.elim)
        low := hb1.alloc hb1.size _ }
      have HST := Lib.hid hst
      clear hst hf1 hc1 hfr1 hcut hkw hb1 he1 H0 HE0 HB0 hwev
      go_wp2_with fail
      refine (new_any w1).mono ?_
      rintro e w2 ⟨rfl, rfl⟩
      obtain ⟨pf, hpf⟩ : ∃ pf, pf = w.heap.size := ⟨_, rfl⟩
      obtain ⟨pg, hpg⟩ : ∃ pg, pg = w1.heap.size := ⟨_, rfl⟩
      generalize w1.alloc (.cells feedZero 65) = W1 at *
      rw [← hpg] at HST ⊢
      have HST' := Lib.hid (show CutJ w bl 0 pf pg W1 (.slice ba bl.length bc) (.slice none 0 0) (.slice wa Lw.length Lw.length) (.slice none 0 0) (.slice none 0 0) [] Lw by rw [hpf]; exact HST.out)
      clear HST hpg
      subst hpf
      go_wp2_with fail
      go_loopw [8, 9, 10] (fun s8 s9 s10 wr => ∃ (c i : Nat) (rv pv hvg ksg : Value) (Lp : List (Value × Ev)), s8 = pv ∧ s9 = rv ∧ s10 = .int .i64 (i : Int) ∧ i ≤ cl.length ∧ c ≤ bl.length ∧ CutJ w bl c w.heap.size pg wr rv pv (.slice wa Lw.length Lw.length) hvg ksg Lp Lw) (fun _ _ s10 _ => cl.length - (intOf s10).toNat)
      case atStart => exact ⟨0, 0, _, _, _, _, [], rfl, rfl, rfl, Nat.zero_le _, Nat.zero_le _, HST'.out⟩
      case round =>
        obtain ⟨c, i, rv, pv, hvg, ksg, Lp, rfl, rfl, rfl, hi, hcn, hj⟩ := hrel
        obtain ⟨pa, pc, rfl⟩ := row_slice hj.parts.row
        obtain ⟨ra, rc, rfl⟩ := hj.rest.len
        have hLp : Lp.length ≤ 6000 := by
          have := run_few (bl.take c) fNew
          rw [← hj.pevs, List.length_map, List.length_take] at this
          omega
        have hgd : GoodF (runF fNew (bl.take c)).1 := goodF_run _ _ goodF_new
        have hheld : (runF fNew (bl.take c)).1.held.length ≤ c := by
          have := heldF_run (bl.take c) fNew
          rw [List.length_take] at this
          have h0 : fNew.held.length = 0 := rfl
          omega
        have hinany := fun (v : Value) (q : List UInt8) (hq : q.length ≤ 6000) (hb : BRow wr v q) (hblk : v.ownBlock = (Value.slice ra (bl.drop c).length rc).ownBlock) (hne : q ≠ [] → bl ≠ []) =>
          in_any hj.g hj.env hj.low.size hgd (by omega) hb (fun hn g hg => .inl (hj.rlow (hne hn) g (by rw [← hblk]; exact hg))) (fun hn g hg e => by
            have h1 := hj.rlow (hne hn) g (by rw [← hblk]; exact hg)
            have h2 := (hj.g.held.lt g e).1
            omega) ⟨by decide, by decide, by decide⟩ (by decide)
        have hrl : (bl.drop c).length = bl.length - c := List.length_drop
        obtain ⟨r, hr⟩ : ∃ r, r = (bl.drop c).length := ⟨_, rfl⟩
        have hrest := hj.rest
        rw [← hr] at hinany hrl
        rw [show (Value.slice ra (bl.drop c).length rc) = .slice ra r rc from by rw [hr]] at *
        have HJ := Lib.hid hj
        have HR := Lib.hid hr
        have HREST := Lib.hid hrest
        have HIN := Lib.hid hinany
        have hrl1 : r + c ≤ bl.length := by omega
        have hrl2 : bl.length ≤ r + c := by omega
        clear hj hr hrest hinany hgd hrl
        by_cases hlt : i < cl.length
        · obtain ⟨x, hx⟩ : ∃ x, cl[i]? = some x := ⟨_, List.getElem?_eq_getElem hlt⟩
          have hx16 := HCL.out x (List.mem_of_getElem? hx)
          obtain ⟨g, o, c', he, -, hgl, hcx, -⟩ := HCV.out.at (k := i) (x := u16V x) (by rw [List.getElem?_map, hx]; rfl)
          rw [List.length_map] at he
          have hix := fun W => idx_u16 (c := cc) (slice_inj he).1 hlt W
          have hcx' : wr.cell? ⟨g, o + i, none⟩ = some (u16V x) := by rw [HJ.out.low.cell (p := ⟨g, o + i, none⟩) hgl]; exact hcx
          obtain ⟨k, hk⟩ : ∃ k, k = min x r := ⟨_, rfl⟩
          have hmin : min (x : Int) (r : Int) = (k : Int) := by omega
          have hkr : k ≤ r := by omega
          have hx0 : (0 : Int) ≤ (x : Int) := by omega
          have hx1 : (x : Int) < 65536 := by omega
          obtain ⟨a1, c1, a2, c2, hs1, hs2, hb1, hb2, ho1, ho2⟩ := brow_cut HREST.out (k := k) (by rw [← HR.out]; exact hkr)
          rw [← HR.out] at hs2 hb2 ho2
          have hin := HIN.out _ _ (by rw [List.length_take]; omega) hb1 ho1 (by rintro h rfl; exact h (by simp))
          have HB2 := Lib.hid hb2
          have HO2 := Lib.hid ho2
          have HIN2 := Lib.hid hin
          clear he hx hcx hb1 ho1 ho2 hin hk hb2 HIN hx16
          go_wp2_with fail
          refine HIN2.out.mono ?_
          rintro e w1' ⟨hv', ks', ov, M, rfl, hf1, hc1, hfr1, hev1, hcut1, hkM⟩
          have hb2' : BRow w1' (.slice a2 (r - k) c2) ((bl.drop c).drop k) := HB2.out.kept hc1 (fun hne g hg e => by
            have h1 := HJ.out.rlow (by rintro rfl; simp at hne) g (by rw [← HO2.out]; exact hg)
            have h2 := (HJ.out.g.fm e).1
            omega)
          have HB2' := Lib.hid hb2'
          clear hb2'
          have hM : M.length ≤ 6000 := by
            have := run_few ((bl.drop c).take k) (runF fNew (bl.take c)).1
            rw [← hev1, List.length_map] at this
            have hq : ((bl.drop c).take k).length ≤ 6000 := by rw [List.length_take]; omega
            omega
          have HK := Lib.hid (HJ.out.fed hc1)
          have HF1 := Lib.hid hf1
          have HEV1 := Lib.hid hev1
          have HCUT := Lib.hid hcut1
          have HKM := Lib.hid hkM
          clear hf1 hc1 hev1 hcut1 hkM hfr1
          obtain ⟨ma, hma⟩ := HCUT.out.1
          subst hma
          cases ma with
          | some A =>
            go_wp2_with (first | (at_builtin; refine wpList_append_own_at _ (by rfl) _ _ 27 (by rfl) w.heap.size 42 i0 (.agg evZero) 13 144 Tryd.underlying27 Hi.out Hz.out.1 Hz.out.2.1 Hz.out.2.2 rfl (by omega) (.slice pa Lp.length pc) Lp.length (evsCells Lp) (by rfl) HK.out.parts.row A M.length M.length (evsCells M) (by rfl) (evsCells_len M) (row_news HCUT.out.2.1) (evs_one HKM.out) (by unfold maxLen; omega) (by omega) HK.out.low.size ?_; intro pv' w2 hown2 hg2 _ hat2) | fail)
            obtain ⟨hp2, hc2⟩ := HK.out.parts.push HKM.out hown2 hg2
            have hat3 : ∀ g, pv'.ownBlock = some g → (Value.slice pa Lp.length pc).ownBlock = some g ∨ w1'.heap.size ≤ g := fun g hg => by
              rcases hat2 with h | h
              · exact .inl (by rw [← h]; exact hg)
              · rw [h] at hg; exact .inr (by have := Option.some.inj hg; omega)
            have hj2 := HJ.out.pushed HK.out HF1.out HEV1.out hp2 hc2 hat3 (HB2'.out) HO2.out
            obtain ⟨pv9, hpv9⟩ : ∃ v, v = pv' := ⟨_, rfl⟩
            go_roundw
            case rel => exact ⟨c + k, i + 1, _, _, _, _, _, rfl, rfl, by go_num, by omega, by omega, hj2⟩
            case measure => simp [intOf]; omega
          | none =>
            have hM0 : M = [] := by
              have h0 := HCUT.out.2.1
              obtain ⟨_, a, c', he, h1, _, h3, _⟩ := h0
              obtain ⟨h4, h5, h6⟩ := slice_inj he
              have := h3 h4.symm
              exact List.eq_nil_of_length_eq_zero (by omega)
            subst hM0
            go_wp2_with (first | (at_builtin; refine wpList_append_own_none (by rfl) _ _ 27 (by rfl) w.heap.size 42 i0 13 Tryd.underlying27 Hi.out (.slice pa Lp.length pc) Lp.length (evsCells Lp) (by rfl) HK.out.parts.row (by rfl) ?_) | fail)
            have hp2 : Parts w (.slice pa Lp.length pc) (Lp ++ []) w1' := by rw [List.append_nil]; exact HK.out.parts
            have hc2 : Chg (fun j => (Value.slice pa Lp.length pc).ownBlock = some j) w1' w1' := Chg.refl _ _
            have hj2 := HJ.out.pushed HK.out HF1.out HEV1.out hp2 hc2 (fun g hg => .inl hg) (HB2'.out) HO2.out
            obtain ⟨pv9, hpv9⟩ : ∃ v, v = (Value.slice pa Lp.length pc) := ⟨_, rfl⟩
            go_roundw
            case rel => exact ⟨c + k, i + 1, _, _, _, _, _, rfl, rfl, by go_num, by omega, by omega, hj2⟩
            case measure => simp [intOf]; omega
        · obtain ⟨a1, c1, a2, c2, hs1, hs2, hb1, hb2, ho1, ho2⟩ := brow_cut HREST.out (k := r) (by rw [← HR.out]; omega)
          rw [← HR.out] at hs2 hb2 ho2
          have htk : (bl.drop c).take r = bl.drop c := List.take_of_length_le (by rw [← HR.out]; omega)
          have hin := HIN.out (.slice ra r rc) ((bl.drop c).take r) (by rw [List.length_take]; omega) (by rw [htk]; exact HREST.out) rfl (by rintro h rfl; exact h (by simp))
          have HB2 := Lib.hid hb2
          have HO2 := Lib.hid ho2
          have HIN2 := Lib.hid hin
          clear hs1 hs2 hb1 hb2 ho1 ho2 hin htk HIN
          go_upto_region 14 with fail
          go_cut [8] (fun s8 wx => ∃ (W9 : World) (pa2 : Option Addr) (pc2 : Nat) (LL : List (Value × Ev)), W9 = wx ∧ s8 = .slice pa2 Lw.length pc2 ∧ FinJ w w.heap.size pg W9 (.slice wa Lw.length Lw.length) (.slice pa2 Lw.length pc2) LL Lw (runF fNew bl).1)
          case first =>
            go_wp2_with fail
            refine HIN2.out.mono ?_
            rintro e w1' ⟨hv', ks', ov, M, rfl, hf1, hc1, hfr1, hev1, hcut1, hkM⟩
            have hb2' : BRow w1' (.slice a2 (r - r) c2) ((bl.drop c).drop r) := HB2.out.kept hc1 (fun hne g hg e => by
              have h1 := HJ.out.rlow (by rintro rfl; simp at hne) g (by rw [← HO2.out]; exact hg)
              have h2 := (HJ.out.g.fm e).1
              omega)
            have HB2' := Lib.hid hb2'
            clear hb2'
            have hM : M.length ≤ 6000 := by
              have := run_few ((bl.drop c).take r) (runF fNew (bl.take c)).1
              rw [← hev1, List.length_map] at this
              have hq : ((bl.drop c).take r).length ≤ 6000 := by rw [List.length_take]; omega
              omega
            have HK := Lib.hid (HJ.out.fed hc1)
            have HF1 := Lib.hid hf1
            have HEV1 := Lib.hid hev1
            have HCUT := Lib.hid hcut1
            have HKM := Lib.hid hkM
            clear hf1 hc1 hev1 hcut1 hkM hfr1
            obtain ⟨ma, hma⟩ := HCUT.out.1
            subst hma
            cases ma with
            | some A =>
              go_wp2_with (first | (at_builtin; refine wpList_append_own_at _ (by rfl) _ _ 27 (by rfl) w.heap.size 42 i0 (.agg evZero) 13 144 Tryd.underlying27 Hi.out Hz.out.1 Hz.out.2.1 Hz.out.2.2 rfl (by omega) (.slice pa Lp.length pc) Lp.length (evsCells Lp) (by rfl) HK.out.parts.row A M.length M.length (evsCells M) (by rfl) (evsCells_len M) (row_news HCUT.out.2.1) (evs_one HKM.out) (by unfold maxLen; omega) (by omega) HK.out.low.size ?_; intro pv' w2 hown2 hg2 _ hat2) | fail)
              obtain ⟨hp2, hc2⟩ := HK.out.parts.push HKM.out hown2 hg2
              have hat3 : ∀ g, pv'.ownBlock = some g → (Value.slice pa Lp.length pc).ownBlock = some g ∨ w1'.heap.size ≤ g := fun g hg => by
                rcases hat2 with h | h
                · exact .inl (by rw [← h]; exact hg)
                · rw [h] at hg; exact .inr (by have := Option.some.inj hg; omega)
              have hj2 := HJ.out.pushed HK.out HF1.out HEV1.out hp2 hc2 hat3 HB2'.out HO2.out
              obtain ⟨hfin, hlen⟩ := hj2.fin (by omega) (by omega)
              obtain ⟨pa2, pc2, hpv⟩ := row_slice hj2.parts.row
              rw [hlen] at hpv
              subst hpv
              go_meet
              case rel => exact ⟨_, pa2, pc2, _, rfl, rfl, hfin⟩
            | none =>
              have hM0 : M = [] := by
                have h0 := HCUT.out.2.1
                obtain ⟨_, a, c', he, h1, _, h3, _⟩ := h0
                obtain ⟨h4, h5, h6⟩ := slice_inj he
                have := h3 h4.symm
                exact List.eq_nil_of_length_eq_zero (by omega)
              subst hM0
              go_wp2_with (first | (at_builtin; refine wpList_append_own_none (by rfl) _ _ 27 (by rfl) w.heap.size 42 i0 13 Tryd.underlying27 Hi.out (.slice pa Lp.length pc) Lp.length (evsCells Lp) (by rfl) HK.out.parts.row (by rfl) ?_) | fail)
              have hp2 : Parts w (.slice pa Lp.length pc) (Lp ++ []) w1' := by rw [List.append_nil]; exact HK.out.parts
              have hc2 : Chg (fun j => (Value.slice pa Lp.length pc).ownBlock = some j) w1' w1' := Chg.refl _ _
              have hj2 := HJ.out.pushed HK.out HF1.out HEV1.out hp2 hc2 (fun g hg => .inl hg) HB2'.out HO2.out
              obtain ⟨hfin, hlen⟩ := hj2.fin (by omega) (by omega)
              rw [List.append_nil] at hfin hlen
              have hpv : (Value.slice pa Lp.length pc) = .slice pa Lw.length pc := by rw [hlen]
              go_meet
              case rel => exact ⟨_, pa, pc, _, rfl, hpv, by rw [← hpv]; exact hfin⟩
          case rest =>
            obtain ⟨W9, pa2, pc2, LL, rfl, rfl, hfin⟩ := hcut
            clear HJ HR HREST HIN2 HB2 HO2
            generalize (runF fNew bl).1 = st9 at *
            obtain ⟨fa, fc, fk, hfb⟩ := hfin.f
            obtain ⟨ga, gc, gk, hgb⟩ := hfin.g
            have HF := Lib.hid hfin
            have HFB := Lib.hid hfb
            have HGB := Lib.hid hgb
            clear hfin hfb hgb
            go_wp2_with fail
            refine (left_is HFB.out HF.out.small).mono ?_
            rintro e w' ⟨rfl, rfl⟩
            go_wp2_with fail
            refine (left_is HGB.out HF.out.small).mono ?_
            rintro e w' ⟨rfl, rfl⟩
            go_wp2_with fail
            go_loopw [12] (fun i wr => ∃ j : Nat, j ≤ Lw.length ∧ i = .int .i64 (j : Int) ∧ EvRow wr (.slice pa2 Lw.length pc2) LL ∧ EvRow wr (.slice wa Lw.length Lw.length) Lw ∧ Env w.heap.size wr ∧ Below w.heap.size w wr) (fun i _ => Lw.length - (intOf i).toNat)
            case atStart => exact ⟨0, Nat.zero_le _, rfl, HF.out.rowP, HF.out.rowW, HF.out.env, HF.out.low⟩
            case round =>
              obtain ⟨j, hj, rfl, hp, hw, he, hlo⟩ := hrel
              have hmap := HF.out.map
              have hLw := hw.1.max
              unfold maxLen at hLw
              have HP := Lib.hid hp
              have HW := Lib.hid hw
              have HEN := Lib.hid he
              have HLO := Lib.hid hlo
              have HMAP := Lib.hid hmap
              clear hp hw he hlo hmap HF HFB HGB
              by_cases hlt2 : j < Lw.length
              · obtain ⟨⟨k1, ev⟩, hx1⟩ : ∃ x, Lw[j]? = some x := ⟨_, List.getElem?_eq_getElem hlt2⟩
                obtain ⟨⟨k2, ev2⟩, hx2⟩ : ∃ x, LL[j]? = some x := ⟨_, List.getElem?_eq_getElem (by have := congrArg List.length HMAP.out; simp at this; omega)⟩
                have hee : ev2 = ev := by
                  have h := congrArg (·[j]?) HMAP.out
                  simp only [List.getElem?_map, hx1, hx2, Option.map_some] at h
                  exact Option.some.inj h
                obtain rfl : ev = ev2 := hee.symm
                obtain ⟨g1, o1, c1', hs1, hcell1, hk1⟩ := HW.out.at hx1
                obtain ⟨g2, o2, c2', hs2, hcell2, hk2⟩ := HP.out.at hx2
                obtain ⟨ka1, kc1, rfl⟩ := hk1.len
                obtain ⟨ka2, kc2, rfl⟩ := hk2.len
                obtain ⟨rfl, -, -⟩ := slice_inj hs1
                obtain ⟨rfl, -, -⟩ := slice_inj hs2
                obtain ⟨b1, hb1⟩ : ∃ b, b = o1 + j * 13 := ⟨_, rfl⟩
                obtain ⟨b2, hb2⟩ : ∃ b, b = o2 + j * 13 := ⟨_, rfl⟩
                have ix1 : ∀ W : World, (Instr.indexAt 27 (.slice (some ⟨g1, o1, none⟩) Lw.length Lw.length) (.int .i64 (j : Int))).run Tryd.prog W = .ok (.pointer (some ⟨g1, b1, none⟩)) W := fun W => by rw [hb1]; exact idx_ev rfl hlt2 W
                have ix2 : ∀ W : World, (Instr.indexAt 27 (.slice (some ⟨g2, o2, none⟩) Lw.length pc2) (.int .i64 (j : Int))).run Tryd.prog W = .ok (.pointer (some ⟨g2, b2, none⟩)) W := fun W => by rw [hb2]; exact idx_ev rfl hlt2 W
                have x0 : wr.cell? ⟨g1, b1, none⟩ = some (.int .u8 (ev.cmd.verb : Int)) := by
                  have h := hcell1 0 _ rfl
                  rwa [show o1 + (j * 13 + 0) = b1 from by omega] at h
                have x1 : wr.cell? ⟨g1, b1 + 1, none⟩ = some (.slice ka1 ev.cmd.keys.length kc1) := by
                  have h := hcell1 1 _ rfl
                  rwa [show o1 + (j * 13 + 1) = b1 + 1 from by omega] at h
                have x2 : wr.cell? ⟨g1, b1 + 2, none⟩ = some (.int .u8 (ev.cmd.cverb : Int)) := by
                  have h := hcell1 2 _ rfl
                  rwa [show o1 + (j * 13 + 2) = b1 + 2 from by omega] at h
                have x3 : wr.cell? ⟨g1, b1 + 3, none⟩ = some (sv ev.cmd.key) := by
                  have h := hcell1 3 _ rfl
                  rwa [show o1 + (j * 13 + 3) = b1 + 3 from by omega] at h
                have x4 : wr.cell? ⟨g1, b1 + 4, none⟩ = some (sv ev.cmd.value) := by
                  have h := hcell1 4 _ rfl
                  rwa [show o1 + (j * 13 + 4) = b1 + 4 from by omega] at h
                have x5 : wr.cell? ⟨g1, b1 + 5, none⟩ = some (.int .u32 (ev.cmd.flags : Int)) := by
                  have h := hcell1 5 _ rfl
                  rwa [show o1 + (j * 13 + 5) = b1 + 5 from by omega] at h
                have x6 : wr.cell? ⟨g1, b1 + 6, none⟩ = some (.int .i64 ev.cmd.exp) := by
                  have h := hcell1 6 _ rfl
                  rwa [show o1 + (j * 13 + 6) = b1 + 6 from by omega] at h
                have x7 : wr.cell? ⟨g1, b1 + 7, none⟩ = some (.int .u64 (ev.cmd.id : Int)) := by
                  have h := hcell1 7 _ rfl
                  rwa [show o1 + (j * 13 + 7) = b1 + 7 from by omega] at h
                have x8 : wr.cell? ⟨g1, b1 + 8, none⟩ = some (.int .u64 (ev.cmd.by' : Int)) := by
                  have h := hcell1 8 _ rfl
                  rwa [show o1 + (j * 13 + 8) = b1 + 8 from by omega] at h
                have x9 : wr.cell? ⟨g1, b1 + 9, none⟩ = some (.int .i64 ev.cmd.bytes) := by
                  have h := hcell1 9 _ rfl
                  rwa [show o1 + (j * 13 + 9) = b1 + 9 from by omega] at h
                have x10 : wr.cell? ⟨g1, b1 + 10, none⟩ = some (.bool ev.cmd.quiet) := by
                  have h := hcell1 10 _ rfl
                  rwa [show o1 + (j * 13 + 10) = b1 + 10 from by omega] at h
                have x11 : wr.cell? ⟨g1, b1 + 11, none⟩ = some (sv ev.data) := by
                  have h := hcell1 11 _ rfl
                  rwa [show o1 + (j * 13 + 11) = b1 + 11 from by omega] at h
                have x12 : wr.cell? ⟨g1, b1 + 12, none⟩ = some (.int .u8 (ev.told : Int)) := by
                  have h := hcell1 12 _ rfl
                  rwa [show o1 + (j * 13 + 12) = b1 + 12 from by omega] at h
                have y0 : wr.cell? ⟨g2, b2, none⟩ = some (.int .u8 (ev.cmd.verb : Int)) := by
                  have h := hcell2 0 _ rfl
                  rwa [show o2 + (j * 13 + 0) = b2 from by omega] at h
                have y1 : wr.cell? ⟨g2, b2 + 1, none⟩ = some (.slice ka2 ev.cmd.keys.length kc2) := by
                  have h := hcell2 1 _ rfl
                  rwa [show o2 + (j * 13 + 1) = b2 + 1 from by omega] at h
                have y2 : wr.cell? ⟨g2, b2 + 2, none⟩ = some (.int .u8 (ev.cmd.cverb : Int)) := by
                  have h := hcell2 2 _ rfl
                  rwa [show o2 + (j * 13 + 2) = b2 + 2 from by omega] at h
                have y3 : wr.cell? ⟨g2, b2 + 3, none⟩ = some (sv ev.cmd.key) := by
                  have h := hcell2 3 _ rfl
                  rwa [show o2 + (j * 13 + 3) = b2 + 3 from by omega] at h
                have y4 : wr.cell? ⟨g2, b2 + 4, none⟩ = some (sv ev.cmd.value) := by
                  have h := hcell2 4 _ rfl
                  rwa [show o2 + (j * 13 + 4) = b2 + 4 from by omega] at h
                have y5 : wr.cell? ⟨g2, b2 + 5, none⟩ = some (.int .u32 (ev.cmd.flags : Int)) := by
                  have h := hcell2 5 _ rfl
                  rwa [show o2 + (j * 13 + 5) = b2 + 5 from by omega] at h
                have y6 : wr.cell? ⟨g2, b2 + 6, none⟩ = some (.int .i64 ev.cmd.exp) := by
                  have h := hcell2 6 _ rfl
                  rwa [show o2 + (j * 13 + 6) = b2 + 6 from by omega] at h
                have y7 : wr.cell? ⟨g2, b2 + 7, none⟩ = some (.int .u64 (ev.cmd.id : Int)) := by
                  have h := hcell2 7 _ rfl
                  rwa [show o2 + (j * 13 + 7) = b2 + 7 from by omega] at h
                have y8 : wr.cell? ⟨g2, b2 + 8, none⟩ = some (.int .u64 (ev.cmd.by' : Int)) := by
                  have h := hcell2 8 _ rfl
                  rwa [show o2 + (j * 13 + 8) = b2 + 8 from by omega] at h
                have y9 : wr.cell? ⟨g2, b2 + 9, none⟩ = some (.int .i64 ev.cmd.bytes) := by
                  have h := hcell2 9 _ rfl
                  rwa [show o2 + (j * 13 + 9) = b2 + 9 from by omega] at h
                have y10 : wr.cell? ⟨g2, b2 + 10, none⟩ = some (.bool ev.cmd.quiet) := by
                  have h := hcell2 10 _ rfl
                  rwa [show o2 + (j * 13 + 10) = b2 + 10 from by omega] at h
                have y11 : wr.cell? ⟨g2, b2 + 11, none⟩ = some (sv ev.data) := by
                  have h := hcell2 11 _ rfl
                  rwa [show o2 + (j * 13 + 11) = b2 + 11 from by omega] at h
                have y12 : wr.cell? ⟨g2, b2 + 12, none⟩ = some (.int .u8 (ev.told : Int)) := by
                  have h := hcell2 12 _ rfl
                  rwa [show o2 + (j * 13 + 12) = b2 + 12 from by omega] at h
                have hlike := fun W (h1 : KeysAt W (.slice ka1 ev.cmd.keys.length kc1) ev.cmd.keys) (h2 : KeysAt W (.slice ka2 ev.cmd.keys.length kc2) ev.cmd.keys) => like_same h1 h2
                have HLIKE := Lib.hid hlike
                have HK1 := Lib.hid hk1
                have HK2 := Lib.hid hk2
                clear hb1 hb2 hs1 hs2 hcell1 hcell2 hk1 hk2 hx1 hx2 hlike
                go_upto_region 20 with fail
                go_still_tail 8, (by kernel_rfl)
                all_goals go_wp2_with fail
                refine (HLIKE.out wr.drew (HK1.out.below (Below.refl _ _).drew) (HK2.out.below (Below.refl _ _).drew)).mono ?_
                rintro e w' ⟨rfl, hbw⟩
                have hbw' : Below wr.heap.size wr w' := ⟨hbw.os, hbw.tape, hbw.output, hbw.size, hbw.block⟩
                have hp3 := HP.out.below hbw'
                have hw3 := HW.out.below hbw'
                have he3 := HEN.out.chg (M := fun _ => False) (Chg.of_below hbw') (fun _ e => e.elim)
                have hl3 := HLO.out.trans (hbw'.mono HLO.out.size)
                have HP3 := Lib.hid hp3
                have HW3 := Lib.hid hw3
                have HE3 := Lib.hid he3
                have HL3 := Lib.hid hl3
                clear hbw hbw' hp3 hw3 he3 hl3
                go_wp2_with fail
                go_roundw
                case rel => exact ⟨j + 1, by omega, by go_num, HP3.out, HW3.out, HE3.out, HL3.out⟩
                case measure => simp [intOf]; omega
              · go_wp2_with fail
                refine (lives30 _ HEN.out.len HEN.out.err).mono ?_
                rintro e w' ⟨rfl, hb⟩
                have HB := Lib.hid hb
                clear hb
                go_wp2_with fail
                go_ret
                exact ⟨rfl, HLO.out.trans (HB.out.mono HLO.out.size)⟩
end Go.Proofs.YtahpjhnbjkjkiaaDoor
