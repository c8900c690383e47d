/- A connection, its blocks put behind one name; what turn and turns do. No condition. And what goes with it (2 texts). -/
import Derived.Test.YtnkkoicbnbjlnaaGreatDoorCoC
import Derived.Test.YtnkkoicbnbjlnaaGreatDoorCoA
import Derived.Test.YtnkkoicbnbjlnaaGreatDoorLowA
namespace Go.Proofs.YtnkkoicbnbjlnaaGreatDoor
set_option maxRecDepth 100000
set_option maxHeartbeats 8000000
open Go.RowKit Go.ChangeMaps Go.MapKept
def ConnIs (n₀ : Nat) (w : World) (p : Nat) (m : ConnM) (S : Nat → Prop) : Prop := ∃ hv ks wv cv ov L, ConnAt n₀ w p hv ks wv cv ov L m ∧ S = CM p hv wv cv ov
def CStep (n₀ : Nat) (w : World) (p : Nat) (S : Nat → Prop) (m' : ConnM) (w' : World) : Prop := ∃ S', ConnIs n₀ w' p m' S' ∧ Chg S w w' ∧ ∀ k, S' k → S k ∨ w.heap.size ≤ k
section
variable {n₀ : Nat} {w w' : World} {p : Nat} {m m' : ConnM} {S : Nat → Prop}
theorem ConnAt.is {hv ks wv cv ov : Value} {L : List (Value × Ev)} (h : ConnAt n₀ w p hv ks wv cv ov L m) : ConnIs n₀ w p m (CM p hv wv cv ov) := ⟨_, _, _, _, _, _, h, rfl⟩
theorem ConnAt.cmTag {hv ks wv cv ov : Value} {L : List (Value × Ev)} (h : ConnAt n₀ w p hv ks wv cv ov L m) {k : Nat} (hk : CM p hv wv cv ov k) : n₀ ≤ k ∧ (Tag w k 119 ∨ Tag w k 5 ∨ Tag w k 206 ∨ Tag w k 26) := by
 rcases hk with rfl | hk | hk | hk | hk
 ·exact ⟨h.feed.low, .inl h.ptag⟩
 ·exact ⟨(h.feed.held.lt k hk).1, .inr (.inl (owns_tag h.feed.held hk))⟩
 ·exact ⟨(h.wait.tag hk).2, .inr (.inr (.inl (h.wait.tag hk).1))⟩
 ·exact ⟨(h.calls.tag hk).2, .inr (.inr (.inr (h.calls.tag hk).1))⟩
 ·exact ⟨(h.out.tag hk).2, .inr (.inl (h.out.tag hk).1)⟩
theorem ConnIs.kept {M : Nat → Prop} (h : ConnIs n₀ w p m S) (hc : Chg M w w') (hM : ∀ k, M k → ¬ S k ∧ ¬ Tag w k 9) : ConnIs n₀ w' p m S := by
 obtain ⟨hv, ks, wv, cv, ov, L, h, rfl⟩ := h
 exact ⟨hv, ks, wv, cv, ov, L, h.kept hc hM, rfl⟩
theorem ConnIs.below (h : ConnIs n₀ w p m S) (hb : Below w.heap.size w w') : ConnIs n₀ w' p m S := h.kept (M := fun _ => False) (Chg.of_below hb) (fun _ e => e.elim)
theorem CStep.refl (h : ConnIs n₀ w p m S) : CStep n₀ w p S m w := ⟨S, h, Chg.refl _ _, fun _ e => .inl e⟩
theorem CStep.of_below (h : ConnIs n₀ w p m S) (hb : Below w.heap.size w w') : CStep n₀ w p S m w' := ⟨S, h.below hb, Chg.of_below hb, fun _ e => .inl e⟩
theorem CStep.step {w1 w2 : World} {S1 : Nat → Prop} (h : Chg S w w1) (hS : ∀ k, S1 k → S k ∨ w.heap.size ≤ k) (h2 : CStep n₀ w1 p S1 m' w2) : CStep n₀ w p S m' w2 := by
 obtain ⟨S2, h3, h4, h5⟩ := h2
 refine ⟨S2, h3, h.then (M' := S1) h4 (fun k hk e => ?_), fun k hk => ?_⟩
 ·rcases hS k e with h | h
  ·exact h
  ·omega
 ·rcases h5 k hk with h6 | h6
  ·exact hS k h6
  ·exact .inr (Nat.le_trans h.size h6)
theorem CStep.size (h : CStep n₀ w p S m' w') : w.heap.size ≤ w'.heap.size := by
 obtain ⟨_, _, h, _⟩ := h
 exact h.size
def turnM (m : ConnM) (e : Ev) : ConnM := if quitE e then { m with closed := true, wait := [] } else { m with out := quietE e m.out, calls := callsE e }
theorem cm_new {hv wv cv ov cv' : Value} {n : Nat} (h : ∀ g, cv'.ownBlock = some g → cv.ownBlock = some g ∨ n ≤ g) : ∀ k, CM p hv wv cv' ov k → CM p hv wv cv ov k ∨ n ≤ k := fun k hk => by
 rcases hk with hk | hk | hk | hk | hk
 ·exact .inl (.inl hk)
 ·exact .inl (.inr (.inl hk))
 ·exact .inl (.inr (.inr (.inl hk)))
 ·exact (h k hk).imp (fun h => .inr (.inr (.inr (.inl h)))) id
 ·exact .inl (.inr (.inr (.inr (.inr hk))))
end
section
variable {n₀ : Nat} {w : World} {p : Nat} {hv ks wv cv ov : Value} {L : List (Value × Ev)} {m : ConnM}
theorem turn_any (h : ConnAt n₀ w p hv ks wv cv ov L m) (ka : Option Addr) (kn kc : Nat) (e : Ev) (hkeys : KeysAt w (.slice ka kn kc) e.cmd.keys) (hok : EvOk e) (ht2 : e.told < 256) (hm0 : m.calls = []) (hn₀ : n₀ ≤ w.heap.size) (hl : m.out.length ≤ 1099511627000) :
  Calls Tryz.prog 94 #[.pointer (some ⟨p, 0, none⟩), evV (.slice ka kn kc) e] w fun e' w' => (∃ v, e' = .returned v) ∧ CStep n₀ w p (CM p hv wv cv ov) (turnM m e) w' := by
 have hmc : ∀ o : List UInt8, ({ m with out := o, calls := [] } : ConnM) = { m with out := o } := fun o => by
  obtain ⟨f, wt, cl, u, o', cd⟩ := m
  dsimp only at hm0
  subst hm0
  rfl
 have hturn : ∀ {m' : ConnM} {e' : Ending} {w' : World}, TurnOk n₀ w p hv ks wv cv ov L m' e' w' → m' = turnM m e → (∃ v, e' = .returned v) ∧ CStep n₀ w p (CM p hv wv cv ov) (turnM m e) w' := fun ht hm => by
  obtain ⟨hv1, wv', ov', L', hc, hch, hfr, hwf⟩ := ht
  subst hm
  refine ⟨hv1, _, hc.is, hch, fun k hk => ?_⟩
  rcases hk with hk | hk | hk | hk | hk
  ·exact .inl (.inl hk)
  ·exact .inl (.inr (.inl hk))
  ·exact .inl (.inr (.inr (.inl (hwf k hk))))
  ·exact .inl (.inr (.inr (.inr (.inl hk))))
  ·exact (hfr k hk).imp (fun h => .inr (.inr (.inr (.inr h)))) id
 by_cases h0 : e.told = 0
 ·by_cases h12 : e.cmd.verb = 12
  ·refine (connTurn_version h (.slice ka kn kc) e h0 h12 hn₀ hl).mono fun e' w' ht => hturn ht ?_
   have hq : ¬ quitE e := fun h => by have := h.2; omega
   unfold turnM quietE
   rw [if_neg hq, if_neg (by omega), if_pos h12, callsE_skip (.inr (.inl h12)), hmc]
  ·by_cases h13 : e.cmd.verb = 13
   ·refine (connTurn_quit h (.slice ka kn kc) e h0 h13).mono fun e' w' ht => hturn ht ?_
    unfold turnM
    rw [if_pos ⟨h0, h13⟩]
   ·have hq : ¬ quitE e := fun h => h13 h.2
    have hqe : quietE e m.out = m.out := by unfold quietE; rw [if_neg (by omega), if_neg h12]
    have htm : turnM m e = { m with calls := callsE e } := by unfold turnM; rw [if_neg hq, hqe]
    rw [htm]
    by_cases hg : e.cmd.verb = 1 ∨ e.cmd.verb = 2
    ·refine (connTurn_gets h ka kn kc e hkeys h0 hg (par_keys (hok.par h0)) hm0 hn₀).mono ?_
     rintro e' w' ⟨hv1, cv', hc, hch, hfr⟩
     exact ⟨hv1, _, hc.is, hch, cm_new hfr⟩
    ·refine (connTurn_call h ka kn kc e h0 (fun h => hg (.inl h)) (fun h => hg (.inr h)) h12 h13 hn₀).mono ?_
     rintro e' w' ⟨hv1, cv', hc, hch, hfr⟩
     rw [callsE_one h0 (fun h => hg (.inl h)) (fun h => hg (.inr h)) h12 h13]
     exact ⟨hv1, _, hc.is, hch.mono (fun _ _ e => .inl e), cm_new (fun g hg => .inr (hfr g hg))⟩
 ·refine (connTurn_told h (.slice ka kn kc) e h0 ht2 hn₀ hl).mono fun e' w' ht => hturn ht ?_
  have hq : ¬ quitE e := fun h => h0 h.1
  unfold turnM quietE
  rw [if_neg hq, if_pos h0, callsE_skip (.inl h0), hmc]
theorem drop_is {S : Nat → Prop} (h : ConnIs n₀ w p m S) (hl : m.wait.length ≤ 1099511627776) :
  Calls Tryz.prog 95 #[.pointer (some ⟨p, 0, none⟩)] w fun e w' => (∃ v, e = .returned v) ∧ CStep n₀ w p S { m with wait := m.wait.tail } w' := by
 obtain ⟨hv, ks, wv, cv, ov, L, h, rfl⟩ := h
 refine (connDrop_any h (by rw [← h.evs, List.length_map] at hl; exact hl)).mono ?_
 rintro e w' ⟨hv1, wv', hc, hch, hfr⟩
 refine ⟨hv1, _, hc.is, hch.mono (fun _ _ e => .inl e), fun k hk => .inl ?_⟩
 rcases hk with hk | hk | hk | hk | hk
 ·exact .inl hk
 ·exact .inr (.inl hk)
 ·exact .inr (.inr (.inl (hfr k hk)))
 ·exact .inr (.inr (.inr (.inl hk)))
 ·exact .inr (.inr (.inr (.inr hk)))
def waitW (p : Nat) (w : World) : Nat := match w.cell? ⟨p, 14, none⟩, w.cell? ⟨p, 15, none⟩ with
 | some (.slice _ n _), some (.slice _ k _) => n + (if k = 0 then 1 else 0)
 | _, _ => 0
theorem waitW_is {S : Nat → Prop} (h : ConnIs n₀ w p m S) : waitW p w = m.wait.length + (if m.calls.length = 0 then 1 else 0) := by
 obtain ⟨hv, ks, wv, cv, ov, L, h, rfl⟩ := h
 obtain ⟨wa, wc, rfl⟩ := h.wait.len
 obtain ⟨ca, cc, rfl⟩ := h.calls.len
 have c0 : w.cell? ⟨p, 14, none⟩ = some (.slice wa L.length wc) := (h.cell (j := 0) rfl).1
 have c1 : w.cell? ⟨p, 15, none⟩ = some (.slice ca m.calls.length cc) := (h.cell (j := 1) rfl).1
 unfold waitW
 rw [c0, c1, ← h.evs, List.length_map]
theorem idx_evm {a : Option Addr} {g o n c : Nat} (ha : a = some ⟨g, o, none⟩) (hk : 0 < n) (W : World) : (Instr.indexAt 116 (.slice a n c) (.int .i64 0)).run Tryz.prog W = .ok (.pointer (some ⟨g, o, none⟩)) W := by
 subst ha
 have h1 : (0 : Int) < (n : Int) := by omega
 have h2 := Tryz.underlying116
 go_simp
structure TurnsJ (n₀ : Nat) (w : World) (p : Nat) (S : Nat → Prop) (m mr : ConnM) (W : World) (Sr : Nat → Prop) : Prop where
 is : ConnIs n₀ W p mr Sr
 chg : Chg S w W
 fresh : ∀ k, Sr k → S k ∨ w.heap.size ≤ k
 on : onM mr = onM m
 wok : ∀ e ∈ mr.wait, EvC e
 small : mr.out.length + 200 * mr.wait.length ≤ m.out.length + 200 * m.wait.length
theorem turn_on {mr : ConnM} {e : Ev} {es : List Ev} (hc : mr.calls = []) (hw : mr.wait = e :: es) :
  (callsE e = [] → onM { turnM mr e with wait := (turnM mr e).wait.tail } = onM mr ∧ (turnM mr e).calls = [] ∧ (turnM mr e).out.length ≤ mr.out.length + 200 ∧ (∀ x ∈ (turnM mr e).wait.tail, x ∈ es) ∧ (turnM mr e).wait.tail.length ≤ es.length) ∧
  (callsE e ≠ [] → onM (turnM mr e) = onM mr ∧ (turnM mr e).calls = callsE e ∧ (turnM mr e).out = mr.out ∧ (turnM mr e).wait = mr.wait) := by
 have hon : onM mr = { mr with wait := (turnsM (e :: es) mr.out mr.closed).wait, calls := (turnsM (e :: es) mr.out mr.closed).calls, out := (turnsM (e :: es) mr.out mr.closed).out, closed := (turnsM (e :: es) mr.out mr.closed).closed } := by
  unfold onM; rw [if_pos hc, hw]
 refine ⟨fun h => ?_, fun h => ?_⟩
 ·by_cases hq : quitE e
  ·have ht : turnM mr e = { mr with closed := true, wait := [] } := by unfold turnM; rw [if_pos hq]
   have hon2 : turnsM (e :: es) mr.out mr.closed = ⟨[], [], mr.out, true⟩ := by unfold turnsM; rw [if_pos hq]
   rw [hon, hon2, ht]
   refine ⟨?_, hc, by show mr.out.length ≤ _; omega, fun x hx => (nomatch hx), Nat.zero_le _⟩
   unfold onM
   rw [if_pos (by exact hc)]
   rfl
  ·have ht : turnM mr e = { mr with out := quietE e mr.out, calls := [] } := by unfold turnM; rw [if_neg hq, h]
   have hon2 : turnsM (e :: es) mr.out mr.closed = turnsM es (quietE e mr.out) mr.closed := by
    conv => lhs; unfold turnsM
    rw [if_neg hq, if_pos h]
   rw [hon, hon2, ht]
   obtain ⟨t, h1, h2⟩ := quiet_prefix e mr.out
   refine ⟨?_, rfl, by show (quietE e mr.out).length ≤ _; rw [h1, List.length_append]; omega, fun x hx => by have hx : x ∈ mr.wait.tail := hx; rw [hw] at hx; exact hx, by show mr.wait.tail.length ≤ _; rw [hw]; exact Nat.le_refl _⟩
   unfold onM
   rw [if_pos rfl]
   dsimp only
   rw [hw]
   rfl
 ·have hq : ¬ quitE e := fun hq => h (quitE_calls hq)
  have hqe : quietE e mr.out = mr.out := by
   unfold quietE
   have h1 : ¬ (e.told ≠ 0 ∨ e.cmd.verb = 12 ∨ e.cmd.verb = 13) := fun hx => h (callsE_skip hx)
   simp only [not_or, Decidable.not_not] at h1
   rw [if_neg (by omega), if_neg h1.2.1]
  have ht : turnM mr e = { mr with calls := callsE e } := by unfold turnM; rw [if_neg hq, hqe]
  have hon2 : turnsM (e :: es) mr.out mr.closed = ⟨e :: es, callsE e, mr.out, mr.closed⟩ := by unfold turnsM; rw [if_neg hq, if_neg h]
  rw [ht]
  refine ⟨?_, rfl, rfl, rfl⟩
  rw [hon, hon2]
  unfold onM
  rw [if_neg (by exact h)]
  rw [← hw]
theorem on_done {mr : ConnM} (h : mr.calls ≠ [] ∨ mr.wait = []) : onM mr = mr := by
 unfold onM
 by_cases hc : mr.calls = []
 ·rw [if_pos hc]
  rcases h with h | h
  ·exact absurd hc h
  ·obtain ⟨f, wt, cl, u, o', cd⟩ := mr
   dsimp only at hc h
   subst hc h
   rfl
 ·rw [if_neg hc]
theorem turns_any {S : Nat → Prop} (h : ConnIs n₀ w p m S) (hn₀ : n₀ ≤ w.heap.size) (hok : ∀ e ∈ m.wait, EvC e) (hl : m.out.length + 200 * m.wait.length ≤ 1099511620000) :
  Calls Tryz.prog 70 #[.pointer (some ⟨p, 0, none⟩)] w fun e w' => (∃ v, e = .returned v) ∧ CStep n₀ w p S (onM m) w' := by
 have HST := hidZ (show TurnsJ n₀ w p S m m w S from ⟨h, Chg.refl _ _, fun _ e => .inl e, rfl, hok, Nat.le_refl _⟩)
 clear h hok
 go_enter Tryz.func70, Tryz.ntmps70
 go_wp2_with fail
 go_loopw [] (fun wr => ∃ (mr : ConnM) (Sr : Nat → Prop), TurnsJ n₀ w p S m mr wr Sr) (fun wr => waitW p wr)
 case atStart => exact ⟨m, S, HST.out⟩
 case round =>
  obtain ⟨mr, Sr, hj⟩ := hrel
  clear HST
  have hms := waitW_is hj.is
  have HMS := hidZ hms
  have HJ := hidZ hj
  have hsm := hj.small
  obtain ⟨hv, ks, wv, cv, ov, L, hat, hS⟩ := hj.is
  have hwl : L.length = mr.wait.length := by rw [← hat.evs, List.length_map]
  obtain ⟨wa, wc, rfl⟩ := hat.wait.len
  obtain ⟨ca, cc, rfl⟩ := hat.calls.len
  have c0 : wr.cell? ⟨p, 14, none⟩ = some (.slice wa L.length wc) := (hat.cell (j := 0) rfl).1
  have c1 : wr.cell? ⟨p, 15, none⟩ = some (.slice ca mr.calls.length cc) := (hat.cell (j := 1) rfl).1
  have hend : (mr.calls ≠ [] ∨ mr.wait = []) → CStep n₀ w p S (onM m) wr := fun he => by
   rw [← HJ.out.on, on_done he]
   exact ⟨_, HJ.out.is, HJ.out.chg, HJ.out.fresh⟩
  have HEND := hidZ hend
  by_cases hc0 : mr.calls = []
  ·cases hL : L with
   | nil =>
    have hw0 : mr.wait = [] := List.eq_nil_of_length_eq_zero (by rw [← hwl, hL]; rfl)
    rw [hL] at c0
    rw [hc0] at c1
    have HE := hidZ (HEND.out (.inr hw0))
    clear HEND hend hms hj hsm hat hS hwl hL hw0 hc0 HMS HJ
    go_wp2_with fail
    exact bodyPost_end (results_none (by exact Tryz.results70) _ _ _) rfl ⟨⟨_, rfl⟩, HE.out⟩
   | cons x L' =>
    obtain ⟨ke, ev⟩ := x
    have hwe : mr.wait = ev :: L'.map (·.2) := by rw [← hat.evs, hL]; rfl
    have hkv : KeysAt wr ke ev.cmd.keys := hat.keys (ke, ev) (by rw [hL]; exact List.mem_cons_self ..)
    obtain ⟨ka, kc, rfl⟩ := hkv.len
    have hok1 := hj.wok ev (by rw [hwe]; exact List.mem_cons_self ..)
    have hwt := hat.wait
    obtain ⟨g, o, rfl⟩ : ∃ g o, wa = some ⟨g, o, none⟩ := by
     obtain ⟨-, ⟨-, h0⟩ | ⟨g, o, cap, cur, h1, -⟩⟩ := hwt
     ·rw [hL] at h0; cases h0
     ·exact ⟨g, o, (Value.slice.inj h1).1⟩
    have hcell : ∀ (j : Nat) (u : Value), (evCells (.slice ka ev.cmd.keys.length kc) ev)[j]? = some u → wr.cell? ⟨g, o + j, none⟩ = some u := fun j u hju => hwt.cell (by
     rw [hL]
     show (evCells (.slice ka ev.cmd.keys.length kc) ev ++ evsCells L')[j]? = _
     rw [List.getElem?_append_left (List.getElem?_eq_some_iff.1 hju).1]; exact hju)
    have y0 := hcell 0 _ rfl
    have y1 := hcell 1 _ rfl
    have y2 := hcell 2 _ rfl
    have y3 := hcell 3 _ rfl
    have y4 := hcell 4 _ rfl
    have y5 := hcell 5 _ rfl
    have y6 := hcell 6 _ rfl
    have y7 := hcell 7 _ rfl
    have y8 := hcell 8 _ rfl
    have y9 := hcell 9 _ rfl
    have y10 := hcell 10 _ rfl
    have y11 := hcell 11 _ rfl
    have y12 := hcell 12 _ rfl
    rw [Nat.add_zero] at y0
    have hnl : 0 < L.length := by rw [hL]; exact Nat.succ_pos _
    have ix := fun W => idx_evm (a := some ⟨g, o, none⟩) (c := wc) rfl hnl W
    have hturn := turn_any hat ka ev.cmd.keys.length kc ev hkv hok1.ok (by have := hok1.told; omega) hc0 (Nat.le_trans hn₀ hj.chg.size) (by omega)
    rw [← hS] at hturn
    have hto := turn_on hc0 hwe
    have hlw : mr.wait.length = L'.length + 1 := by rw [← hwl, hL]; rfl
    have hpos : (0 : Int) < (L.length : Int) := by omega
    rw [hc0] at c1
    have HT := hidZ hturn
    have HTO := hidZ hto
    have HWE := hidZ hwe
    have HLW := hidZ hlw
    have HC0 := hidZ hc0
    have HSM := hidZ hsm
    clear HEND hend hms hj hsm hat hS hwl hL hc0 hwe hkv hok1 hwt hcell hturn hto hlw
    go_wp2_with fail
    refine HT.out.mono ?_
    rintro e1 w1 ⟨⟨v1, rfl⟩, S1, hi1, hch1, hfr1⟩
    have hmw := waitW_is hi1
    have HI1 := hidZ hi1
    have HCH1 := hidZ hch1
    have HFR1 := hidZ hfr1
    have HMW := hidZ hmw
    obtain ⟨hv2, ks2, wv2, cv2, ov2, L2, hat2, -⟩ := hi1
    obtain ⟨ca2, cc2, rfl⟩ := hat2.calls.len
    have d1 : w1.cell? ⟨p, 15, none⟩ = some (.slice ca2 (turnM mr ev).calls.length cc2) := (hat2.cell (j := 1) rfl).1
    clear hat2 hch1 hfr1 hmw y0 y1 y2 y3 y4 y5 y6 y7 y8 y9 y10 y11 y12 ix c0 c1
    by_cases hce : callsE ev = []
    ·obtain ⟨t1, t2, t3, t4, t5⟩ := HTO.out.1 hce
     rw [t2] at d1
     have hdl : (turnM mr ev).wait.length ≤ 1099511627776 := by
      have h1 := HSM.out
      rw [HLW.out] at h1
      cases hq : (turnM mr ev).wait with
      | nil => exact Nat.zero_le _
      | cons a b => rw [hq, List.tail_cons, List.length_map] at t5; rw [List.length_cons]; omega
     have HD := hidZ (drop_is HI1.out hdl)
     have HT1 := hidZ t1
     have HT2 := hidZ t2
     have HT3 := hidZ t3
     have HT4 := hidZ t4
     have HT5 := hidZ t5
     clear t1 t2 t3 t4 t5 hdl hce
     go_wp2_with fail
     refine HD.out.mono ?_
     rintro e2 w2 ⟨⟨v2, rfl⟩, S2, hi2, hch2, hfr2⟩
     have hmw2 := waitW_is hi2
     have HI2 := hidZ hi2
     have HCH2 := hidZ hch2
     have HFR2 := hidZ hfr2
     have HMW2 := hidZ hmw2
     clear hi2 hch2 hfr2 hmw2
     go_wp2_with fail
     go_roundw
     case rel =>
      have hst := CStep.step HCH1.out HFR1.out (⟨S2, HI2.out, HCH2.out, HFR2.out⟩ : CStep n₀ w1 p S1 _ w2)
      obtain ⟨S3, hi3, hch3, hfr3⟩ := CStep.step HJ.out.chg HJ.out.fresh hst
      refine ⟨_, S3, hi3, hch3, hfr3, HT1.out.trans HJ.out.on, fun x hx => HJ.out.wok x (by rw [HWE.out]; exact List.mem_cons_of_mem _ (HT4.out x hx)), ?_⟩
      have h1 := HT3.out
      have h2 := HT5.out
      have h3 := HJ.out.small
      have h4 := HLW.out
      rw [List.length_map] at h2
      show (turnM mr ev).out.length + 200 * (turnM mr ev).wait.tail.length ≤ _
      omega
     case measure =>
      rw [HMW2.out, HMS.out]
      have h2 := HT5.out
      have h4 := HLW.out
      rw [List.length_map] at h2
      show (turnM mr ev).wait.tail.length + (if (turnM mr ev).calls.length = 0 then 1 else 0) < _
      rw [HT2.out, HC0.out]
      simp only [List.length_nil, if_true]
      omega
    ·obtain ⟨t1, t2, t3, t4⟩ := HTO.out.2 hce
     have hcpos : 0 < (turnM mr ev).calls.length := by rw [t2]; exact List.length_pos_iff.2 hce
     have hnz : (((turnM mr ev).calls.length : Int) == 0) = false := by rw [beq_eq_false_iff_ne]; omega
     have HT1 := hidZ t1
     have HT3 := hidZ t3
     have HT4 := hidZ t4
     have HCP := hidZ hcpos
     clear t1 t2 t3 t4 hce hcpos
     go_wp2_with fail
     go_roundw
     case rel =>
      obtain ⟨S3, hi3, hch3, hfr3⟩ := CStep.step HJ.out.chg HJ.out.fresh (⟨S1, HI1.out, HCH1.out, HFR1.out⟩ : CStep n₀ wr p Sr _ w1)
      refine ⟨_, S3, hi3, hch3, hfr3, HT1.out.trans HJ.out.on, fun x hx => HJ.out.wok x (by rw [← HT4.out]; exact hx), ?_⟩
      have h3 := HJ.out.small
      rw [HT3.out, HT4.out]
      exact h3
     case measure =>
      rw [HMW.out, HMS.out, HT4.out, HC0.out, if_neg (by have := HCP.out; omega)]
      simp
  ·have hpos : 0 < mr.calls.length := List.length_pos_iff.2 hc0
   have hnz : ((mr.calls.length : Int) == 0) = false := by rw [beq_eq_false_iff_ne]; omega
   have HE := hidZ (HEND.out (.inl hc0))
   clear HEND hend hms hj hsm hat hS hwl hc0 HMS HJ
   go_wp2_with fail
   exact bodyPost_end (results_none (by exact Tryz.results70) _ _ _) rfl ⟨⟨_, rfl⟩, HE.out⟩
end
open Go.RowKit Go.ChangeMaps Go.MapKept
theorem evsC_append (L M : List (Value × Ev)) : evsCells (L ++ M) = evsCells L ++ evsCells M := by simp [evsCells]
theorem evsC_one {w : World} {L : List (Value × Ev)} (h : ∀ x ∈ L, KeysAt w x.1 x.2.cmd.keys) : ∀ u ∈ evsCells L, u.oneCell' = true := fun u hu => by
 obtain ⟨x, hx, hu⟩ := List.mem_flatMap.1 hu
 obtain ⟨a, c, he⟩ := (h x hx).len
 simp only [evCells, cmdCells, List.cons_append, List.nil_append, List.mem_cons, List.not_mem_nil, or_false] at hu
 rcases hu with rfl | rfl | rfl | rfl | rfl | rfl | rfl | rfl | rfl | rfl | rfl | rfl | rfl <;> first | rfl | (rw [he]; rfl)
theorem src_clipped {W : World} {e tx : TypeId} {sz B n : Nat} {v : Value} {xs : List Value} (hk : Tryz.prog.underlying tx = some (.slice e)) (h : Clipped W e sz B v n xs) (h1 : ∀ u ∈ xs, u.oneCell' = true) : Src Tryz.prog sz tx v n xs W := by
 obtain ⟨⟨a, rfl⟩, hr, -⟩ := h
 obtain ⟨hl, a', c, he, h2, h3, h4, h5, h6⟩ := hr
 obtain ⟨rfl, -, rfl⟩ := slice_inj he
 cases a with
 | none =>
  obtain rfl := h4 rfl
  obtain rfl : xs = [] := List.eq_nil_of_length_eq_zero (by omega)
  exact Src.ofNil (P := Tryz.prog) (w := W) hk 0
 | some A =>
  refine Src.ofSlice (P := Tryz.prog) (w := W) hk A n n xs hl (fun j u hj => ?_) h1
  rcases h6 with h6 | ⟨g, o, h7, h8⟩
  ·rw [h6] at hj; simp at hj
  ·obtain rfl := Option.some.inj h7
   rw [show (⟨g, o, none⟩ : Addr).add j = ⟨g, o + j, none⟩ from by simp [Addr.add]]
   exact (h8 j u hj).1
section
variable {n₀ : Nat} {w w1 : World} {p : Nat} {hv ks wv cv ov : Value} {L : List (Value × Ev)} {m : ConnM}
theorem ConnAt.fed (h : ConnAt n₀ w p hv ks wv cv ov L m) {hv' ks' : Value} {st' : FSt} (hf : FeedAt n₀ w1 p 119 (connRest wv cv m.under ov m.closed) hv' ks' st') (hc : Chg (FM p hv) w w1)
  (hfr : ∀ g, hv'.ownBlock = some g → hv.ownBlock = some g ∨ w.heap.size ≤ g) : ConnAt n₀ w1 p hv' ks' wv cv ov L { m with feed := st' } := by
 have hno : ∀ k, FM p hv k → ∀ t, t ≠ 119 → t ≠ 5 → ¬ Tag w k t := fun k hk t h1 h2 e => by
  rcases (h.feed.fm hk).2 with h3 | h3
  ·exact h1 (e.one h3)
  ·exact h2 (e.one h3)
 refine ⟨hf, h.evs, h.wait.kept hc (fun g hg e => hno g e _ (by decide) (by decide) (h.wait.tag hg).1), fun x hx => (h.keys x hx).kept hc (fun g hg e => hno g e _ (by decide) (by decide) ((h.keys x hx).tag hg)),
  h.calls.kept hc (fun g hg e => hno g e _ (by decide) (by decide) (h.calls.tag hg).1), h.out.kept hc (fun g hg e => ?_), fun g hg e => ?_⟩
 ·rcases e with e | e
  ·subst e; exact absurd (h.ptag.one (h.out.tag hg).1) (by decide)
  ·exact h.apart g hg e
 ·rcases hfr g e with h1 | h1
  ·exact h.apart g hg h1
  ·have := h.far (k := g) (.inr (.inr (.inr (.inr hg))))
   omega
theorem ConnAt.waits (h : ConnAt n₀ w p hv ks wv cv ov L m) {w2 : World} {wv2 : Value} {M : List (Value × Ev)} (hm : MidRow w2 n₀ 206 13 wv2 (L.length + M.length) (evsCells L ++ evsCells M)) (hg : w.grownBy w2 wv.ownBlock)
  (hkM : ∀ x ∈ M, KeysAt w x.1 x.2.cmd.keys) : (w2.cell? ⟨p, 14, none⟩ = some wv ∧ w2.frozen? ⟨p, 14, none⟩ = false) ∧
   ConnAt n₀ (w2.setCell ⟨p, 14, none⟩ wv2) p hv ks wv2 cv ov (L ++ M) { m with wait := m.wait ++ M.map (·.2) } ∧ Chg (CM p hv wv cv ov) w (w2.setCell ⟨p, 14, none⟩ wv2) := by
 have hc1 : Chg (fun k => wv.ownBlock = some k) w w2 := Chg.of_grown hg (fun _ _ e => e)
 have hno : ∀ k, wv.ownBlock = some k → ∀ t, t ≠ 206 → ¬ Tag w k t := fun k hk t h1 e => h1 (e.one (h.wait.tag hk).1)
 have hf2 := h.feed.kept hc1 (fun k hk => ⟨fun e => by
  rcases (h.feed.fm e).2 with h1 | h1
  ·exact hno k hk _ (by decide) h1
  ·exact hno k hk _ (by decide) h1, hno k hk _ (by decide)⟩)
 have hst := cset_chg w2 p 14 wv2
 have hp2 : Tag w2 p 119 := hf2.box.tag
 have hk2 : ∀ y ∈ L ++ M, KeysAt w2 y.1 y.2.cmd.keys := fun y hy => by
  have hy' : KeysAt w y.1 y.2.cmd.keys := (List.mem_append.1 hy).elim (h.keys y) (hkM y)
  exact hy'.kept hc1 (fun g hg e => hno g e _ (by decide) (hy'.tag hg))
 have ho2 := h.out.kept hc1 (fun g hg e => hno g e _ (by decide) (h.out.tag hg).1)
 have hc2 := h.calls.kept hc1 (fun g hg e => hno g e _ (by decide) (h.calls.tag hg).1)
 refine ⟨hf2.box.restCell (j := 0) rfl, ⟨hf2.setRest 0 wv2, ?_, ?_, fun y hy => (hk2 y hy).kept hst (fun g hg e => ?_), hc2.kept hst (fun g hg e => ?_), ho2.kept hst (fun g hg e => ?_), h.apart⟩, ?_⟩
 ·rw [List.map_append, h.evs]
 ·rw [List.length_append, evsC_append]
  exact hm.kept hst (fun g hg e => by subst e; exact absurd (hp2.one (hm.tag hg).1) (by decide))
 ·subst e; exact absurd (hp2.one ((hk2 y hy).tag hg)) (by decide)
 ·subst e; exact absurd (hp2.one (hc2.tag hg).1) (by decide)
 ·subst e; exact absurd (hp2.one (ho2.tag hg).1) (by decide)
 ·exact (hc1.mono (M' := CM p hv wv cv ov) (fun k _ e => .inr (.inr (.inl e)))).then (M' := fun k => k = p) hst (fun k _ e => .inl e)
theorem few_evs {M : List (Value × Ev)} {st : FSt} {bl : List UInt8} (h : M.map (·.2) = (runF st bl).2) : M.length ≤ bl.length := by
 have := run_few bl st
 rw [← h, List.length_map] at this
 exact this
theorem connIn_any {S : Nat → Prop} {bv : Value} {bl : List UInt8} (h : ConnIs n₀ w p m S) (hE : Env n₀ w) (hn : n₀ ≤ w.heap.size) (hgd : GoodF m.feed) (hgc : GoodC m.feed) (hlen : m.feed.held.length + bl.length < 1048576)
  (hb : BRow w bv bl) (hbs : bl ≠ [] → ∀ g, bv.ownBlock = some g → g < n₀ ∨ Tag w g 5) (hbh : bl ≠ [] → ∀ g, bv.ownBlock = some g → ¬ S g) (hok : ∀ e ∈ m.wait, EvC e) (hwl : m.wait.length ≤ 1048576) (hol : m.out.length ≤ 1098000000000) :
  Calls Tryz.prog 47 #[.pointer (some ⟨p, 0, none⟩), bv] w fun e w' => (∃ v, e = .returned v) ∧ CStep n₀ w p S (inM m bl) w' := by
 obtain ⟨ba, bc, rfl⟩ := hb.len
 obtain ⟨hv, ks, wv, cv, ov, L, hat, rfl⟩ := h
 have c4 : w.cell? ⟨p, 18, none⟩ = some (.bool m.closed) := (hat.cell (j := 4) rfl).1
 have hlw : L.length ≤ 1048576 := by rw [← hat.evs, List.length_map] at hwl; exact hwl
 cases hcl : m.closed
 ·obtain ⟨i0, hi, hz0, hz1, hz2⟩ := info_parts infoEv
  have Hi := hidZ hi
  have Hz := hidZ (And.intro hz0 (And.intro hz1 hz2))
  have hin : inM m bl = onM { m with feed := (runF m.feed bl).1, wait := m.wait ++ (runF m.feed bl).2 } := by unfold inM; rw [hcl, if_neg (by simp)]
  have hdr : Below w.heap.size w w.drew := (Below.refl _ _).drew
  have hatd := hat.below hdr
  have hcall := in_any hatd.feed (hE.chg (M := fun _ => False) (Chg.of_below hdr) (fun _ e => e.elim)) (show n₀ ≤ w.drew.heap.size from hn) hgd hlen (hb.below hdr) (fun hne g hg => (hbs hne g hg).imp id (fun ht => ht)) (fun hne g hg e => hbh hne g hg (.inr (.inl e))) ⟨by decide, by decide, by decide⟩ (by decide)
  obtain ⟨wa, wc, rfl⟩ := hat.wait.len
  have c0 : w.cell? ⟨p, 14, none⟩ = some (.slice wa L.length wc) := (hat.cell (j := 0) rfl).1
  rw [hcl] at c4
  have hp := hat.feed.plt
  have HC := hidZ hcall
  have HA := hidZ hatd
  have HIN := hidZ hin
  have HOK := hidZ hok
  have HGC := hidZ hgc
  have HCL := hidZ hcl
  have HWL := hidZ hwl
  clear hat hatd hcall hin hok hgc hb hbs hbh hE hgd hcl hdr hi hz0 hz1 hz2 hwl
  go_enter Tryz.func47, Tryz.ntmps47
  go_upto_region 1 with fail
  go_region_law (first
   | (refine step_call (by rfl) 69 #[.pointer (some ⟨p, 0, none⟩), .slice ba bl.length bc] (by go_simp) HC.out ?_; rintro e1 w1 ⟨hv1, ks1, ev1, M, rfl, hf1, hc1, hfr1, hev1, hcut1, hkM⟩; refine ⟨_, rfl, ?_⟩; have hat1 := HA.out.fed hf1 hc1 hfr1; have HA1 := hidZ hat1; have HC1 := hidZ hc1; have HFR1 := hidZ hfr1; have HEV1 := hidZ hev1; have HCUT := hidZ (src_clipped Tryz.underlying116 hcut1 (evsC_one hkM)); have HKM := hidZ hkM; have hML := few_evs hev1; have c01 : w1.cell? ⟨p, 14, none⟩ = some (.slice wa L.length wc) := (hat1.cell (j := 0) rfl).1; have hn1 : n₀ ≤ w1.heap.size := Nat.le_trans hn (show w.heap.size ≤ _ from hc1.size); obtain ⟨ma, hma⟩ := hcut1.1; subst hma; clear hf1 hc1 hfr1 hev1 hcut1 hkM hat1)
   | (refine step_append_mid (by rfl) _ _ 116 116 (by rfl) n₀ 206 i0 (.agg evZero) 13 144 Tryz.underlying116 Hi.out Hz.out.1 Hz.out.2.1 Hz.out.2.2 rfl (.slice wa L.length wc) L.length _ (by rfl) HA1.out.wait (.slice ma M.length M.length) M.length _ (by rfl) HCUT.out (by unfold maxLen; omega) (by omega) hn1 ?_; intro a9 c9 w9 hm9 hg9 hat9; have hwt := HA1.out.waits hm9 hg9 HKM.out; have HWT := hidZ hwt; have HAT := hidZ hat9; have q1 := hwt.1.1; have q2 := hwt.1.2; clear hm9 hg9 hat9 hwt)
   | fail)
  all_goals
   have hml : M.map (·.2) = (runF m.feed bl).2 := HEV1.out
   have hmw : ({ m with feed := (runF m.feed bl).1, wait := m.wait ++ M.map (·.2) } : ConnM).wait.length ≤ 2097152 + 1048576 := by
    show (m.wait ++ M.map (·.2)).length ≤ _
    have := HWL.out
    rw [List.length_append, List.length_map]; omega
   have hst : CStep n₀ w p (CM p hv (.slice wa L.length wc) cv ov) { m with feed := (runF m.feed bl).1, wait := m.wait ++ M.map (·.2) } (w9.setCell ⟨p, 14, none⟩ (.slice a9 (L.length + M.length) c9)) := by
    refine ⟨_, HWT.out.2.1.is, ?_, fun k hk => ?_⟩
    ·refine ((Chg.refl (CM p hv (.slice wa L.length wc) cv ov) w).drew.then (M' := FM p hv) HC1.out (fun k _ hk => hk.elim .inl (fun h => .inr (.inl h)))).then (M' := CM p hv1 (.slice wa L.length wc) cv ov) HWT.out.2.2 (fun k hk1 hk => ?_)
     rcases hk with hk | hk | hk
     ·exact .inl hk
     ·rcases HFR1.out k hk with h1 | h1
      ·exact .inr (.inl h1)
      ·have h1 : w.heap.size ≤ k := h1
       omega
     ·exact .inr (.inr hk)
    ·have hsz : w.heap.size ≤ w1.heap.size := HC1.out.size
     rcases hk with hk | hk | hk | hk
     ·exact .inl (.inl hk)
     ·exact (HFR1.out k hk).imp (fun h => .inr (.inl h)) (fun h => h)
     ·rcases HAT.out with ha | ha
      ·rw [ha] at hk; exact .inl (.inr (.inr (.inl hk)))
      ·rw [ha] at hk
       have := Option.some.inj hk
       exact .inr (by omega)
     ·exact .inl (.inr (.inr (.inr hk)))
   obtain ⟨S1, hi1, hch1, hfr2⟩ := hst
   have hturns := turns_any hi1 (Nat.le_trans hn hch1.size) (fun e he => by
    rcases List.mem_append.1 he with he | he
    ·exact HOK.out e he
    ·rw [hml] at he
     exact (run_okC HGC.out).2 e he) (by
    show m.out.length + 200 * (m.wait ++ M.map (·.2)).length ≤ _
    have : (m.wait ++ M.map (·.2)).length ≤ 3145728 := hmw
    omega)
   have HTN := hidZ hturns
   have HCH := hidZ hch1
   have HFR2 := hidZ hfr2
   have HML := hidZ hml
   clear hturns hch1 hfr2 hi1 hmw hml q1 q2 c01 c0 c4
   go_wp2_with fail
   refine HTN.out.mono ?_
   rintro e2 w3 ⟨⟨v3, rfl⟩, hs3⟩
   have hs4 := CStep.step HCH.out HFR2.out hs3
   rw [HML.out, ← HIN.out] at hs4
   have HS4 := hidZ hs4
   clear hs3 hs4
   go_wp2_with fail
   exact bodyPost_end (results_none (by exact Tryz.results47) _ _ _) rfl ⟨⟨_, rfl⟩, HS4.out⟩
 ·have hin : inM m bl = m := by unfold inM; rw [hcl, if_pos rfl]
  rw [hin]
  rw [hcl] at c4
  have HST := hidZ (CStep.refl hat.is)
  clear hat hE hgd hgc hb hbs hbh hok hin
  go_enter Tryz.func47, Tryz.ntmps47
  go_wp2_with fail
  exact bodyPost_end (results_none (by exact Tryz.results47) _ _ _) rfl ⟨⟨_, rfl⟩, HST.out⟩
end
end Go.Proofs.YtnkkoicbnbjlnaaGreatDoor
