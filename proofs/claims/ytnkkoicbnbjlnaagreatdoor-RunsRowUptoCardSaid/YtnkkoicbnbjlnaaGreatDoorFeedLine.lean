/- A feed's line that is there. Condition: the library's variables MaxLen and ErrRange are as they are laid. -/
import Derived.Test.YtnkkoicbnbjlnaaGreatDoorLowG
import Derived.Test.YtnkkoicbnbjlnaaGreatDoorLowF
import Derived.Test.YtnkkoicbnbjlnaaGreatDoorLowA
namespace Go.Proofs.YtnkkoicbnbjlnaaGreatDoor
set_option maxRecDepth 100000
set_option maxHeartbeats 8000000
open Go.RowKit Go.ChangeMaps Go.MapKept
section
variable {n₀ : Nat} {w : World} {p : Nat} {t : TypeId} {rest : List Value} {hv ks : Value} {st : FSt}
theorem FeedAt.boxed (h : FeedAt n₀ w p t rest hv ks st) {w' : World} {hv' ks' : Value} {st' : FSt} (hb : FeedBox w' p t rest (st'.way : Int) hv' ks' st'.cmd (st'.many : Int))
  (hh : w'.ownsRow n₀ 5 1 hv' st'.held.length (st'.held.map u8v)) (hk : KeysAt w' ks' st'.cmd.keys) : FeedAt n₀ w' p t rest hv' ks' st' := ⟨h.low, hb, hh, hk, h.tb, h.ts⟩
theorem FeedAt.heldKept (h : FeedAt n₀ w p t rest hv ks st) {w' : World} (hc : Chg (fun k => k = p) w w') : w'.ownsRow n₀ 5 1 hv st.held.length (st.held.map u8v) :=
 owns_grow h.held hc (fun g hg e => h.apart (by rw [hg, e]))
theorem FeedAt.rowKept (h : FeedAt n₀ w p t rest hv ks st) {w' : World} (hc : Chg (fun k => k = p) w w') {v : Value} {L : List (List UInt8)} (hk : KeysAt w v L) : KeysAt w' v L :=
 hk.kept hc (fun g hg e => by subst e; exact h.ts (h.box.tag.one (hk.tag hg)))
theorem set_chg (w : World) (p j : Nat) (v : Value) : Chg (fun k => k = p) w (w.setCell ⟨p, j, none⟩ v) := Chg.set (M := fun k => k = p) (Chg.refl _ _) (fun _ => rfl) v
theorem setCells_chg (w : World) (p o : Nat) (vs : List Value) : Chg (fun k => k = p) w (w.setCells p o vs) := Chg.of_grown (setCells_grown vs o w p).1 (fun _ _ e => (Option.some.inj e).symm)
theorem FeedAt.setMany (h : FeedAt n₀ w p t rest hv ks st) (m : Nat) : FeedAt n₀ (w.setCell ⟨p, 13, none⟩ (.int .i64 (m : Int))) p t rest hv ks { st with many := m } :=
 h.boxed (h.box.setMany _) (h.heldKept (set_chg _ _ _ _)) (h.rowKept (set_chg _ _ _ _) h.keys)
theorem FeedAt.setWay (h : FeedAt n₀ w p t rest hv ks st) (k : Nat) : FeedAt n₀ (w.setCell ⟨p, 0, none⟩ (.int .i64 (k : Int))) p t rest hv ks { st with way := k } :=
 h.boxed (h.box.setWay _) (h.heldKept (set_chg _ _ _ _)) (h.rowKept (set_chg _ _ _ _) h.keys)
theorem FeedAt.setCmd (h : FeedAt n₀ w p t rest hv ks st) {ks' : Value} {d : Cmd} (hk : KeysAt w ks' d.keys) : FeedAt n₀ (w.setCells p 2 (cmdCells ks' d)) p t rest hv ks' { st with cmd := d } :=
 h.boxed (h.box.setCmd _ _) (h.heldKept (setCells_chg _ _ _ _)) (h.rowKept (setCells_chg _ _ _ _) hk)
theorem FeedAt.drewN (h : FeedAt n₀ w p t rest hv ks st) (m : Nat) : FeedAt n₀ (w.drewN m) p t rest hv ks st := h.below (Go.Joins.below_draws _ _ _)
theorem FeedAt.filled (h : FeedAt n₀ w p t rest hv ks st) : FeedAt n₀ (fullW w p st.held.length st.cmd) p t rest hv ks (fullF st) := by
 unfold fullW fullF
 split
 ·exact h.setWay 2
 ·exact h
theorem fullW_chg {M : Nat → Prop} {a b : World} {p n : Nat} {c : Cmd} (h : Chg M a b) (hp : p < a.heap.size → M p) : Chg M a (fullW b p n c) := by
 unfold fullW
 split
 ·exact h.set hp _
 ·exact h
end
theorem FeedBox.there {w : World} {p : Nat} {t : TypeId} {rest : List Value} {way : Int} {hv ks : Value} {c : Cmd} {many : Int} (h : FeedBox w p t rest way hv ks c many) : w.there p 2 11 := fun j hj =>
 ⟨by rw [(block_cell h (2 + j)).1, Array.getElem?_eq_getElem (by simp; omega)]; rfl, h.free _⟩
theorem readF_bytes {c : Cmd} (h : c.bytes ≤ 2147483647) (f : Nat) (w : List UInt8) : (readF c f w).1.bytes ≤ 2147483647 := by
 unfold readF
 split
 ·exact h
 ·split
  ·exact h
  ·split
   ·show ((min ((parseN w).getD 0) 2147483647 : Nat) : Int) ≤ 2147483647
    omega
   ·split <;> exact h
theorem readAll_bytes : ∀ (fs : List Nat) (ws : List (List UInt8)) (c : Cmd), c.bytes ≤ 2147483647 → (readAll c fs ws).1.bytes ≤ 2147483647
 | _, [], c, h => by unfold readAll; exact h
 | [], _ :: _, c, h => by unfold readAll; exact h
 | f :: fs, w :: ws, c, h => by
  unfold readAll
  split
  ·exact readAll_bytes fs ws _ (readF_bytes h f w)
  ·exact readF_bytes h f w
theorem parse_bytes (s : List UInt8) : (parseL s).1.bytes ≤ 2147483647 ∧ ((parseL s).2 = 5 → 1024 < (parseL s).1.bytes) := by
 have h0 : noCmd.bytes ≤ 2147483647 := by decide
 by_cases hlen : 2048 < s.length
 ·unfold parseL
  rw [if_pos hlen]
  exact ⟨h0, fun h => absurd h (by decide)⟩
 ·cases hw : words s with
  | nil =>
   unfold parseL
   rw [if_neg hlen, hw]
   exact ⟨h0, fun h => absurd h (by decide)⟩
  | cons name l =>
   rw [parseL_some hlen hw]
   by_cases hbad : verbOf name = 0 ∨ (tailOf (verbOf name) l).length < leastOf (verbOf name) ∨ mostOf (verbOf name) < (tailOf (verbOf name) l).length
   ·rw [if_pos hbad]; exact ⟨h0, fun h => absurd h (by decide)⟩
   ·rw [if_neg hbad]
    generalize verbOf name = v at *
    generalize isQuiet v l = q at *
    generalize tailOf v l = l' at *
    rcases parseW_is v q l' with ⟨h1, h2⟩ | ⟨hk, hr, ht⟩
    ·rw [h1]
     exact ⟨h0, fun h => by omega⟩
    ·have hf : (freshC v q (l'.take (manyP v l'.length))).bytes ≤ 2147483647 := (by decide : (-1 : Int) ≤ 2147483647)
     have h3 := readAll_bytes (restOf v) (l'.drop (manyP v l'.length)) _ hf
     rw [hr] at h3
     refine ⟨h3, fun h => ?_⟩
     rw [h] at ht
     by_cases hb : 1024 < (parseW v q l').1.bytes
     ·exact hb
     ·rw [if_neg hb] at ht; cases ht
theorem told_large {s : List UInt8} (h : (parseL s).2 = 5) : 1024 < (parseL s).1.bytes ∧ (parseL s).1.bytes ≤ 2147483647 := ⟨(parse_bytes s).2 h, (parse_bytes s).1⟩
theorem feedLine_any {n₀ : Nat} {w : World} {p : Nat} {t : TypeId} {rest : List Value} {hv ks : Value} {st : FSt} (h : FeedAt n₀ w p t rest hv ks st) (hE : Env n₀ w) (l : List UInt8) (hl : l.length ≤ 1048576) :
  Calls Tryz.prog 187 #[.pointer (some ⟨p, 0, none⟩), sv l] w (Does n₀ w p t rest hv (lineF st l)) := by
 have hp : p < w.heap.size := h.plt
 have hn : n₀ ≤ p := h.low
 have h0 := h.alloc (.cells evZero 206)
 have hbx : (w.alloc (.cells evZero 206)).heap[w.heap.size]? = some (.cells evZero 206 (0, 0)) := heap_alloc_new _ _
 have hc0 : Chg (FM p hv) w (w.alloc (.cells evZero 206)) := (Chg.refl _ _).alloc _
 have hE1 : Env n₀ (begunW (w.alloc (.cells evZero 206)) p 0) := hE.chg (M := fun k => k = p) (begun_chg (M := fun k => k = p) ((Chg.refl _ _).alloc _) (fun _ => rfl) _) (fun k e => by omega)
 have h1 := h0.begun 0
 have hc1 := begun_chg hc0 (fun _ => .inl rfl) 0
 have hbx1 : (begunW (w.alloc (.cells evZero 206)) p 0).heap[w.heap.size]? = some (.cells evZero 206 (0, 0)) :=
  (begun_only _ p 0).obj hbx (by omega)
 change FeedAt n₀ (begunW (w.alloc (.cells evZero 206)) p 0) p t rest _ _ _ at h1
 have H0 := hidZ h0.box
 have HE1 := hidZ hE1
 have H1 := hidZ h1
 have HC1 := hidZ hc1
 have HX1 := hidZ hbx1
 clear h h0 hbx hc0 hE hE1 h1 hc1 hbx1
 go_enter Tryz.func187, Tryz.ntmps187
 go_wp2_with fail
 refine (begin_any H0.out 0).mono ?_
 rintro e w1 ⟨⟨v, rfl⟩, rfl⟩
 generalize begunW (w.alloc (.cells evZero 206)) p 0 = W1 at *
 go_wp2_with fail
 refine (lparse_at l W1 hl HE1.out.len HE1.out.err).mono ?_
 rintro e W2 ⟨ke, rfl, hko, hb2⟩
 have hbnd := fun h => told_large (s := l) h
 have hlf : lineF st l = (let r := parseL l; if r.2 = 5 then ({ beginF st 5 with many := r.1.bytes.toNat + 2 }, [toldE 5]) else if r.2 = 0 then if 0 ≤ r.1.bytes then (fullF { beginF st 1 with cmd := r.1 }, []) else (beginF st 0, [⟨r.1, [], 0⟩]) else (beginF st 0, [toldE r.2])) := rfl
 have hko' : KeysAt W2 ke (parseL l).1.keys := by
  obtain ⟨⟨a, c, rfl, q1, q2, q3, q4⟩, q5⟩ := hko
  refine ⟨by simp, a, c, by simp, by simpa using q1, q2, q3, fun g hg => (q5 g hg).2, q4.imp id ?_⟩
  rintro ⟨g, o, rfl, _, h6⟩
  exact ⟨g, o, rfl, h6⟩
 obtain ⟨ka, kc, hka⟩ := hko'.len
 generalize parseL l = r at *
 obtain ⟨d, T⟩ := r
 simp only at hbnd hlf hko' hka
 have h2 := H1.out.below hb2
 have hc2 : Chg (FM p hv) w W2 := HC1.out.then (M' := fun _ => False) (Chg.of_below hb2) (fun _ _ e => e.elim)
 have hx2 : W2.heap[w.heap.size]? = some (.cells evZero 206 (0, 0)) := (Chg.of_below (M := fun _ => False) hb2).obj HX1.out (fun e => e)
 have hs2 : w.heap.size < W2.heap.size := lt_of_block hx2
 have hb6 : (W2.alloc (.cells zeroA 113)).heap[W2.heap.size]? = some (.cells zeroA 113 (0, 0)) := heap_alloc_new _ _
 have hk1 : ke.oneCell' = true := by rw [hka]; rfl
 have H2 := hidZ h2
 have HC2 := hidZ hc2
 have HX2 := hidZ hx2
 have HK := hidZ hko'
 have HBND := hidZ hbnd
 have HLF := hidZ hlf
 clear hko hko' h2 hc2 hx2 hbnd hlf hka
 go_upto_region 3 with (first
   | ((with_reducible show wpList _ _ _ (⟨none, Op.store _ _ _, _, _, _, _⟩ :: _) _ _); refine wpList_store_whole (by rfl) 113 (.tmp 6) (.tmp 13) (by rfl) W2.heap.size (by rfl) (cmdCells ke d).toArray (by rfl) _ 113 hb6 (by rfl) (by kernel_rfl) (by simp [Value.oneCell']; exact hk1) ?_; intro w3 hr3 hg3 hs3)
   | fail)
 have hcw : Chg (fun _ => False) W2 w3 := ((Chg.refl _ _).alloc _).then (M' := fun k => k = W2.heap.size) (Chg.of_grown hg3 (fun _ _ e => (Option.some.inj e).symm)) (fun i hi e => by omega)
 have h3 := H2.out.kept hcw (fun _ e => e.elim)
 have hc3 : Chg (FM p hv) w w3 := HC2.out.then hcw (fun _ _ e => e.elim)
 have hx3 := hcw.obj HX2.out (fun e => e)
 have hk3 : KeysAt w3 ke d.keys := HK.out.kept hcw (fun _ _ e => e)
 have hpb : p < W2.heap.size := by omega
 have H3 := hidZ h3
 have HC3 := hidZ hc3
 have HX3 := hidZ hx3
 have HK3 := hidZ hk3
 have HR3 := hidZ hr3
 clear hcw h3 hc3 hx3 hk3 hb6 hg3 hs3 H2 HC2 HX2 HK H1 HC1 HX1 HE1 H0 hb2 hr3
 by_cases hT5 : T = 5
 ·have e5 : ((T : Int) == 5) = true := by rw [hT5]; rfl
  have e0 : ((T : Int) == 0) = false := by rw [hT5]; rfl
  obtain ⟨hb1, hb2⟩ := HBND.out hT5
  obtain ⟨m, hm⟩ : ∃ m : Nat, d.bytes = (m : Int) := ⟨d.bytes.toNat, by omega⟩
  have hb3 : (m : Int) ≤ 2147483647 := by omega
  have hb4 : (0 : Int) ≤ (m : Int) := by omega
  have hlf : lineF st l = ({ beginF (beginF st 0) 5 with many := m + 2 }, [toldE T]) := by
   rw [HLF.out]
   simp only [hT5, if_true]
   rw [show d.bytes.toNat = m from by omega]
   rfl
  have HLF5 := hidZ hlf
  have hcb : (begunW w3 p 5).cell? ⟨W2.heap.size, 9, none⟩ = some (.int .i64 (m : Int)) := by
   rw [← hm]
   exact (block_cell ((begun_only w3 p 5).obj HR3.out (by omega)) 9).1
  have h4 := H3.out.begun 5
  change FeedAt n₀ (begunW w3 p 5) _ _ _ _ _ _ at h4
  have c13 := h4.box.cell (j := 13) rfl
  have f13 := h4.box.free 13
  have h5 := h4.setMany (m + 2)
  rw [show ((m + 2 : Nat) : Int) = (m : Int) + 2 from by omega] at h5
  have hc5 : Chg (FM p hv) w ((begunW w3 p 5).setCell ⟨p, 13, none⟩ (.int .i64 ((m : Int) + 2))) := (begun_chg HC3.out (fun _ => .inl rfl) 5).set (fun _ => .inl rfl) _
  have hx5 : ((begunW w3 p 5).setCell ⟨p, 13, none⟩ (.int .i64 ((m : Int) + 2))).heap[w.heap.size]? = some (.cells evZero 206 (0, 0)) :=
   ((begun_only w3 p 5).set (fun _ => rfl) _).obj HX3.out (by omega)
  have H5 := hidZ h5
  have HC5 := hidZ hc5
  have HX5 := hidZ hx5
  have HT5 := hidZ hT5
  clear h4 h5 hc5 hx5 hlf hT5 hm hb1 hb2
  go_wp2_with fail
  refine (begin_any H3.out.box 5).mono ?_
  rintro e w4 ⟨⟨v4, rfl⟩, rfl⟩
  have hx5 := HX5.out
  go_wp2_with (first
   | ((with_reducible show wpList _ _ _ (⟨none, Op.store _ _ _, _, _, _, _⟩ :: _) _ _); refine wpList_store_whole (by rfl) 206 (.tmp 4) (.tmp 49) (by rfl) w.heap.size (by rfl) (evCells (.slice none 0 0) (toldE T)).toArray (by rfl) _ 206 hx5 (by rfl) (by kernel_rfl) (by simp [Value.oneCell']) ?_; intro w6 hr6 hg6 hs6)
   | ((with_reducible show bodyPost _ _ _ Exit.ret _ _); exact bodyPost_ret (v := .tuple #[evV (.slice none 0 0) (toldE T), .bool true]) (results_row_tmp rfl _ _ w.heap.size _ _ _ _ (by rfl) hr6 Tryz.underlying206 rfl (by kernel_rfl) _ (by rfl)) rfl (by
     rw [HLF5.out]
     obtain ⟨h1, h2, h3⟩ := does_box hp H5.out HC5.out (Nat.le_refl _) HX5.out hg6
     exact ⟨_, _, h1, h2, nil_fresh, .inr ⟨toldE T, .slice none 0 0, rfl, rfl, Row.nil _ _ _⟩⟩))
   | fail)
 ·have e5 : ((T : Int) == 5) = false := by rw [beq_eq_false_iff_ne]; omega
  by_cases hT0 : T = 0
  ·have e0 : ((T : Int) == 0) = true := by rw [hT0]; rfl
   have hcb : w3.cell? ⟨W2.heap.size, 9, none⟩ = some (.int .i64 d.bytes) := (block_cell HR3.out 9).1
   by_cases hb : 0 ≤ d.bytes
   ·have eb : decide (0 ≤ d.bytes) = true := by rw [decide_eq_true_eq]; exact hb
    have hlf : lineF st l = (fullF { beginF (beginF st 0) 1 with cmd := d }, []) := by
     rw [HLF.out]
     simp only [hT0]
     rw [if_neg (by decide), if_pos trivial, if_pos hb]
     rfl
    have HLF5 := hidZ hlf
    have hr4 : (begunW w3 p 1).heap[W2.heap.size]? = some (.cells (cmdCells ke d).toArray 113 (0, 0)) := (begun_only w3 p 1).obj HR3.out (by omega)
    have h4 := H3.out.begun 1
    change FeedAt n₀ (begunW w3 p 1) _ _ _ _ _ _ at h4
    have hk4 : KeysAt (begunW w3 p 1) ke d.keys := H3.out.rowKept (begun_only w3 p 1) HK3.out
    have hold := h4.box
    have h5 := h4.setCmd hk4
    have hc5 : Chg (FM p hv) w ((begunW w3 p 1).setCells p 2 (cmdCells ke d)) := (begun_chg HC3.out (fun _ => .inl rfl) 1).then (setCells_chg _ p 2 _) (fun i _ e => .inl e)
    have hx5 := (setCells_chg (begunW w3 p 1) p 2 (cmdCells ke d)).obj ((begun_only w3 p 1).obj HX3.out (by omega)) (by omega)
    have H5 := hidZ h5
    have HC5 := hidZ hc5
    have HX5 := hidZ hx5
    have HOLD := hidZ hold
    have HR4 := hidZ hr4
    clear h4 hk4 h5 hc5 hx5 hlf hT5 hT0 hb hold hr4
    go_wp2_with fail
    refine (begin_any H3.out.box 1).mono ?_
    rintro e w4 ⟨⟨v4, rfl⟩, rfl⟩
    have hr4 := HR4.out
    go_wp2_with (first
     | ((with_reducible show wpList _ _ _ (⟨_, Op.load _ _, _, _, _, _⟩ :: _) _ _); refine wpList_load_row (by rfl) 113 (.tmp 6) (by rfl) W2.heap.size (by rfl) 113 _ _ _ hr4 Tryz.underlying113 rfl (by kernel_rfl) ?_)
     | ((with_reducible show wpList _ _ _ (⟨none, Op.store _ _ _, _, _, _, _⟩ :: _) _ _); refine wpList_store_mid (by rfl) 113 (.tmp 39) (.tmp 37) (by rfl) p 2 (cmdCells ke d).toArray (by rfl) (by rfl) HOLD.out.there (by kernel_rfl) (by simp [Value.oneCell']; exact hk1) ?_)
     | fail)
    refine (full_any H5.out.box).mono ?_
    rintro e w6 ⟨⟨v6, rfl⟩, m6, rfl⟩
    have h6 := (H5.out.drewN m6).filled
    change FeedAt n₀ (fullW (((begunW w3 p 1).setCells p 2 (cmdCells ke d)).drewN m6) p 0 d) _ _ _ _ _ _ at h6
    have hc6 : Chg (FM p hv) w (fullW (((begunW w3 p 1).setCells p 2 (cmdCells ke d)).drewN m6) p 0 d) := fullW_chg (HC5.out.drewN m6) (fun _ => .inl rfl)
    have hx6 : (fullW (((begunW w3 p 1).setCells p 2 (cmdCells ke d)).drewN m6) p 0 d).heap[w.heap.size]? = some (.cells evZero 206 (0, 0)) :=
     (fullW_chg (M := fun k => k = p) ((Chg.refl _ ((begunW w3 p 1).setCells p 2 (cmdCells ke d))).drewN m6) (fun _ => rfl)).obj HX5.out (by omega)
    change (fullW (((begunW w3 p 1).setCells p 2 (cmdCells ke d).toArray.toList).drewN m6) p 0 d).heap[w.heap.size]? = _ at hx6
    have H6 := hidZ h6
    have HC6 := hidZ hc6
    have HX6 := hidZ hx6
    clear h6 hc6
    change Hid (FeedAt n₀ (fullW (((begunW w3 p 1).setCells p 2 (cmdCells ke d).toArray.toList).drewN m6) p 0 d) _ _ _ _ _ _) at H6
    change Hid (Chg _ _ (fullW (((begunW w3 p 1).setCells p 2 (cmdCells ke d).toArray.toList).drewN m6) p 0 d)) at HC6
    generalize fullW (((begunW w3 p 1).setCells p 2 (cmdCells ke d).toArray.toList).drewN m6) p 0 d = W6 at *
    go_wp2_with (first
     | ((with_reducible show wpList _ _ _ (⟨none, Op.store _ _ _, _, _, _, _⟩ :: _) _ _); refine wpList_store_whole (by rfl) 206 (.tmp 4) (.tmp 42) (by rfl) w.heap.size (by rfl) (evCells (.slice none 0 0) (toldE 0)).toArray (by rfl) _ 206 hx6 (by rfl) (by kernel_rfl) (by simp [Value.oneCell']) ?_; intro w7 hr7 hg7 hs7)
     | ((with_reducible show bodyPost _ _ _ Exit.ret _ _); exact bodyPost_ret (v := .tuple #[evV (.slice none 0 0) (toldE 0), .bool false]) (results_row_tmp rfl _ _ w.heap.size _ _ _ _ (by rfl) hr7 Tryz.underlying206 rfl (by kernel_rfl) _ (by rfl)) rfl (by
       rw [HLF5.out]
       obtain ⟨h1, h2, h3⟩ := does_box hp H6.out HC6.out (Nat.le_refl _) HX6.out hg7
       exact ⟨_, _, h1, h2, nil_fresh, .inl ⟨rfl, rfl⟩⟩))
     | fail)
   ·have eb : decide (0 ≤ d.bytes) = false := by rw [decide_eq_false_iff_not]; exact hb
    have hlf : lineF st l = (beginF st 0, [⟨d, [], 0⟩]) := by
     rw [HLF.out]
     simp only [hT0]
     rw [if_neg (by decide), if_pos trivial, if_neg hb]
    have HLF5 := hidZ hlf
    have hr4 := HR3.out
    have hx3 := HX3.out
    clear hlf hT5 hT0 hb
    go_wp2_with (first
     | ((with_reducible show wpList _ _ _ (⟨_, Op.load _ _, _, _, _, _⟩ :: _) _ _); refine wpList_load_row (by rfl) 113 (.tmp 6) (by rfl) W2.heap.size (by rfl) 113 _ _ _ hr4 Tryz.underlying113 rfl (by kernel_rfl) ?_)
     | ((with_reducible show wpList _ _ _ (⟨none, Op.store _ _ _, _, _, _, _⟩ :: _) _ _); refine wpList_store_whole (by rfl) 206 (.tmp 4) (.tmp 47) (by rfl) w.heap.size (by rfl) (evCells ke ⟨d, [], 0⟩).toArray (by rfl) _ 206 hx3 (by rfl) (by kernel_rfl) (by simp [Value.oneCell']; exact hk1) ?_; intro w7 hr7 hg7 hs7)
     | ((with_reducible show bodyPost _ _ _ Exit.ret _ _); exact bodyPost_ret (v := .tuple #[evV ke ⟨d, [], 0⟩, .bool true]) (results_row_tmp rfl _ _ w.heap.size _ _ _ _ (by rfl) hr7 Tryz.underlying206 rfl (by kernel_rfl) _ (by rfl)) rfl (by
       rw [HLF5.out]
       obtain ⟨h1, h2, h3⟩ := does_box hp H3.out HC3.out (Nat.le_refl _) HX3.out hg7
       exact ⟨_, _, h1, h2, nil_fresh, .inr ⟨_, ke, rfl, rfl, HK3.out.kept h3 (fun g hg e => by subst e; exact absurd ((Tag.of HX3.out).one (HK3.out.tag hg)) (by decide))⟩⟩))
     | fail)
  ·have e0 : ((T : Int) == 0) = false := by rw [beq_eq_false_iff_ne]; omega
   have hlf : lineF st l = (beginF st 0, [toldE T]) := by
    rw [HLF.out]
    rw [if_neg hT5, if_neg hT0]
   have HLF5 := hidZ hlf
   have hx3 := HX3.out
   clear hlf hT5 hT0
   go_wp2_with (first
    | ((with_reducible show wpList _ _ _ (⟨none, Op.store _ _ _, _, _, _, _⟩ :: _) _ _); refine wpList_store_whole (by rfl) 206 (.tmp 4) (.tmp 49) (by rfl) w.heap.size (by rfl) (evCells (.slice none 0 0) (toldE T)).toArray (by rfl) _ 206 hx3 (by rfl) (by kernel_rfl) (by simp [Value.oneCell']) ?_; intro w7 hr7 hg7 hs7)
    | ((with_reducible show bodyPost _ _ _ Exit.ret _ _); exact bodyPost_ret (v := .tuple #[evV (.slice none 0 0) (toldE T), .bool true]) (results_row_tmp rfl _ _ w.heap.size _ _ _ _ (by rfl) hr7 Tryz.underlying206 rfl (by kernel_rfl) _ (by rfl)) rfl (by
      rw [HLF5.out]
      obtain ⟨h1, h2, h3⟩ := does_box hp H3.out HC3.out (Nat.le_refl _) HX3.out hg7
      exact ⟨_, _, h1, h2, nil_fresh, .inr ⟨toldE T, .slice none 0 0, rfl, rfl, Row.nil _ _ _⟩⟩))
    | fail)
end Go.Proofs.YtnkkoicbnbjlnaaGreatDoor
