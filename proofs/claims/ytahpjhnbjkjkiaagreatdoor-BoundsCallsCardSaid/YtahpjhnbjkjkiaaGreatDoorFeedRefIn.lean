/- The document's feed, walked: In and Left. No condition. -/
import Derived.Test.YtahpjhnbjkjkiaaGreatDoorFeedRef2
import Derived.Test.YtahpjhnbjkjkiaaGreatDoorLowH
import Derived.BigFrame
namespace Go.Proofs.YtahpjhnbjkjkiaaGreatDoor
open Go.RowKit Go.ChangeMaps Go.MapKept

/-- Bytes appended to bytes of one's own. -/
theorem wpList_appB {ops : Array Oper} {rest : List Oper} {o : Oper} {a : Act} {Q : Exit → Act → World → Prop} {w : World} (s x : Operand)
    (ho : o.op = .call { callee := .builtin .append, args := #[s, x], argTypes := #[23, 23] }) {v : Value} (hs : a.eval s = v) {bv : Value} {l0 bl : List UInt8} {B : Nat} (hx : a.eval x = bv) (hw : Region.wanted o (yielded ops a.tmps) = true)
    (hB : B ≤ w.heap.size) (hv : w.ownsRow B 5 1 v l0.length (l0.map u8v)) (hb : BRow w bv bl) (hl : l0.length + bl.length < 1048576)
    (h : ∀ v' w', w'.ownsRow B 5 1 v' (l0 ++ bl).length ((l0 ++ bl).map u8v) → Below B w w' → wpList Tryz.prog ops Q rest (a.put o.dst v') w') : wpList Tryz.prog ops Q (o :: rest) a w := by
  refine Go.BigFrame.wpList_want hw fun K hK => ?_
  obtain ⟨i0, hi, hz0, hz1, hz2⟩ := info_parts infoByte
  obtain ⟨ba, bc, rfl, h1, h2, h3, h4⟩ := hb
  cases ba with
  | none =>
    obtain rfl := h3 rfl
    obtain rfl : bl = [] := List.eq_nil_of_length_eq_zero (by omega)
    have hrun := run_append_owned_none (P := Tryz.prog) (w := w) B 23 o.type 5 i0 1 Tryz.underlying23 hi v l0.length (l0.map u8v) hv
    have hx' : a.eval x = .slice none 0 0 := hx
    unfold Oper.wp
    simp [execOp, ho, resolve, invoke, builtin, hs, hx', hrun, Result.andThen]
    exact hK _ _ (h _ _ (by rw [List.append_nil]; exact hv) (Below.refl _ _))
  | some A =>
    refine wp_append_own w s x 23 ho B 5 i0 (.int .u8 0) 1 1 Tryz.underlying23 hi hz0 hz1 hz2 rfl (by omega) v l0.length (l0.map u8v) hs hv A bl.length bc (bl.map u8v) hx (by simp) ?_ (fun u hu => ?_) (by unfold maxLen; omega) (by omega) hB
      (fun v' w' h5 h6 _ => hK _ _ (h v' w' (by rw [List.length_append, List.map_append]; exact h5) ((Below.refl _ _).grown h6 hB (fun k hk => (hv.lt k hk).1))))
    · intro j u hu
      rcases h4 with rfl | ⟨g, o', he, _, hc⟩
      · simp at hu
      · obtain rfl := Option.some.inj he
        rw [List.getElem?_map] at hu
        obtain ⟨c, hcj, rfl⟩ := Option.map_eq_some_iff.1 hu
        rw [Addr.add_mid]
        exact hc j c hcj
    · obtain ⟨c, _, rfl⟩ := List.mem_map.1 hu
      rfl
theorem wpList_appS {ops : Array Oper} {rest : List Oper} {o : Oper} {a : Act} {Q : Exit → Act → World → Prop} {w : World} (s x : Operand)
    (ho : o.op = .call { callee := .builtin .append, args := #[s, x], argTypes := #[23, 23] }) {v : Value} (hs : a.eval s = v) {bv : Value} {l0 bl : List UInt8} {B : Nat} (hx : a.eval x = bv) (hw : Region.wanted o (yielded ops a.tmps) = true)
    (hB : B ≤ w.heap.size) (hv : w.ownsRow B 5 1 v l0.length (l0.map u8v)) (hb : BRow w bv bl) (hl : l0.length + bl.length < 1048576) {r : Nat} (hr : r < B) {b0 : Value} (hc : w.cell? ⟨r, 0, none⟩ = some b0) (hfz : w.frozen? ⟨r, 0, none⟩ = false)
    (h : ∀ a' c' w', w'.ownsRow B 5 1 (.slice a' (l0 ++ bl).length c') (l0 ++ bl).length ((l0 ++ bl).map u8v) → Below B w w' → w'.cell? ⟨r, 0, none⟩ = some b0 → w'.frozen? ⟨r, 0, none⟩ = false → wpList Tryz.prog ops Q rest (a.put o.dst (.slice a' (l0 ++ bl).length c')) w') : wpList Tryz.prog ops Q (o :: rest) a w := by
  refine wpList_appB s x ho hs hx hw hB hv hb hl (fun v' w' h1 h2 => ?_)
  obtain ⟨a', c', rfl⟩ := row_slice h1
  refine h a' c' w' h1 h2 ((h2.cell (p := ⟨r, 0, none⟩) hr).trans hc) ?_
  rw [← hfz]
  simp only [World.frozen?]
  rw [h2.block r hr]
/-- The document's events in a row. -/
def REvRow (w : World) (v : Value) (L : List (Value × Ev)) : Prop := Row w 84 13 v L.length (rEvsCells L) ∧ ∀ x ∈ L, KeysAt w x.1 x.2.cmd.keys
theorem REvRow.below {W W' : World} {v : Value} {L : List (Value × Ev)} (hr : REvRow W v L) (hb : Below W.heap.size W W') : REvRow W' v L := ⟨hr.1.below hb, fun x hx => (hr.2 x hx).below hb⟩
theorem REvRow.kept {M : Nat → Prop} {W W' : World} {v : Value} {L : List (Value × Ev)} (hr : REvRow W v L) (hc : Chg M W W') (hM : ∀ k, M k → ¬ Tag W k 84 ∧ ¬ Tag W k 9) : REvRow W' v L :=
  ⟨hr.1.kept hc (fun g hg e => (hM g e).1 (hr.1.tag hg)), fun x hx => (hr.2 x hx).kept hc (fun g hg e => (hM g e).2 ((hr.2 x hx).tag hg))⟩
theorem rEvsCells_len : ∀ L : List (Value × Ev), (rEvsCells L).length = L.length * 13
  | [] => rfl
  | x :: L => by
    show (rEvCells x.1 x.2 ++ rEvsCells L).length = _
    rw [List.length_append, rEvsCells_len L, List.length_cons]
    show 13 + _ = _
    omega
theorem rEvsCells_drop : ∀ (L : List (Value × Ev)) (k : Nat), (rEvsCells L).drop (k * 13) = rEvsCells (L.drop k)
  | L, 0 => by simp
  | [], k + 1 => by simp [rEvsCells]
  | x :: L, k + 1 => by
    show (rEvCells x.1 x.2 ++ rEvsCells L).drop ((k + 1) * 13) = rEvsCells (L.drop k)
    rw [show (k + 1) * 13 = (rEvCells x.1 x.2).length + k * 13 from by show _ = 13 + _; omega, List.drop_append, List.drop_of_length_le (by omega), List.nil_append, Nat.add_sub_cancel_left]
    exact rEvsCells_drop L k
theorem revs_from {A : Addr} {n c k : Nat} (h1 : k ≤ n) (h2 : n ≤ c) (_hm : c ≤ maxLen) (W : World) : (Instr.slice 33 (.slice (some A) n c) (some (.int .i64 (k : Int))) none none).run Tryz.prog W = .ok (.slice (some (if c = k then A else A.add (k * 13))) (n - k) (c - k)) W := by
  unfold maxLen at _hm
  obtain ⟨i0, hi, hz0, hz1, hz2⟩ := info_parts infoREv
  have i1 : (0 : Int) ≤ (k : Int) := by omega
  have i2 : (k : Int) ≤ (n : Int) := by omega
  have i3 : (n : Int) ≤ (c : Int) := by omega
  have h7 := Tryz.underlying33
  go_simp
  split <;> rfl
theorem revs_from_nil (W : World) : (Instr.slice 33 (.slice none 0 0) (some (.int .i64 ((0 : Nat) : Int))) none none).run Tryz.prog W = .ok (.slice none 0 0) W := by
  have h7 := Tryz.underlying33
  obtain ⟨i0, hi, hz0, hz1, hz2⟩ := info_parts infoREv
  go_simp
/-- 'l[k:]' of the document's events. -/
theorem revs_cut {w : World} {v : Value} {L : List (Value × Ev)} (h : REvRow w v L) {k : Nat} (hk : k ≤ L.length) :
    ∃ a c, (∀ W : World, (Instr.slice 33 v (some (.int .i64 (k : Int))) none none).run Tryz.prog W = .ok (.slice a (L.length - k) c) W) ∧ REvRow w (.slice a (L.length - k) c) (L.drop k) := by
  obtain ⟨⟨hl, a, c, rfl, h1, h2, h3, h4, h5⟩, hkeys⟩ := h
  have hkd : ∀ x ∈ L.drop k, KeysAt w x.1 x.2.cmd.keys := fun x hx => hkeys x (List.mem_of_mem_drop hx)
  cases a with
  | none =>
    obtain rfl := h3 rfl
    obtain rfl : L = [] := List.eq_nil_of_length_eq_zero (by omega)
    obtain rfl : k = 0 := by simpa using hk
    exact ⟨none, 0, revs_from_nil, ⟨Row.nil _ _ _, fun x hx => by cases hx⟩⟩
  | some A =>
    refine ⟨_, _, revs_from hk h1 h2, ⟨⟨by rw [rEvsCells_len], _, _, by rw [List.length_drop], by rw [List.length_drop]; omega, by omega, (fun h => by cases h), ?_, ?_⟩, hkd⟩⟩
    · intro g hg
      refine h4 g ?_
      rw [← hg]
      show some A.block = some (if c = k then A else A.add (k * 13)).block
      split
      · rfl
      · unfold Addr.add; split <;> rfl
    · by_cases e : L.drop k = []
      · left; rw [e]; rfl
      · right
        have hlt : k < L.length := by
          refine Nat.lt_of_not_le fun hle => e (List.drop_eq_nil_of_le hle)
        rcases h5 with h5 | ⟨g, o, he, hc⟩
        · have := rEvsCells_len L
          rw [h5] at this
          simp at this
          omega
        · obtain rfl := Option.some.inj he
          refine ⟨g, o + k * 13, by rw [if_neg (by omega), Addr.add_mid], fun j x hx => ?_⟩
          rw [← rEvsCells_drop, List.getElem?_drop] at hx
          rw [Nat.add_assoc]
          exact hc _ _ hx
/-- The document's feed in block r: bytes that came, and how many of their events were told. -/
def RFeed (W : World) (r : Nat) (bv : Value) (bl : List UInt8) : Prop := W.heap[r]? = some (.cells #[bv, .int .i64 ((refEv bl).1.length : Int)] 29 (0, 0)) ∧ BRow W bv bl
theorem refLeft_any {w : World} {r : Nat} {bv : Value} {bl : List UInt8} (h : RFeed w r bv bl) (hl : bl.length < 1048576) :
    Calls Tryz.prog 18 #[.pointer (some ⟨r, 0, none⟩)] w fun e w' => e = .returned (.int .i64 ((refEv bl).2 : Int)) ∧ Below w.heap.size w w' := by
  have c0 : w.cell? ⟨r, 0, none⟩ = some bv := (block_cell h.1 0).1
  have hev := events_any h.2 hl
  have HEV := Lib.hid hev
  clear h hev
  go_enter Tryz.func18, Tryz.ntmps18
  go_wp2_with fail
  refine HEV.out.mono ?_
  rintro e w' ⟨v, L, rfl, -, hr⟩
  have HR := Lib.hid hr.low
  clear hr
  go_wp2_with fail
  go_ret
  exact ⟨rfl, HR.out⟩
def RInOk (bl0 bl : List UInt8) (r : Nat) (w : World) (e : Ending) (w' : World) : Prop :=
  ∃ v L bv', e = .returned v ∧ REvRow w' v L ∧ L.map (·.2) = (refEv (bl0 ++ bl)).1.drop (refEv bl0).1.length ∧ RFeed w' r bv' (bl0 ++ bl) ∧ (∀ g, bv'.ownBlock = some g → w.heap.size ≤ g) ∧ Chg (fun k => k = r) w w'
theorem few_more (a b : List UInt8) : (refEv a).1.length ≤ (refEv (a ++ b)).1.length := by
  rw [(feed_more a b).1, List.length_append]
  omega
set_option maxRecDepth 100000 in
set_option maxHeartbeats 4000000 in
theorem refIn_any {w : World} {r : Nat} {b0 bv : Value} {bl0 bl : List UInt8} (h : RFeed w r b0 bl0) (hb : BRow w bv bl) (hl : bl0.length + bl.length < 1048576) :
    Calls Tryz.prog 16 #[.pointer (some ⟨r, 0, none⟩), bv] w (RInOk bl0 bl r w) := by
  obtain ⟨ba, bc, rfl⟩ := hb.len
  have c0 : w.cell? ⟨r, 0, none⟩ = some b0 := (block_cell h.1 0).1
  have hrl : r < w.heap.size := (Array.getElem?_eq_some_iff.1 h.1).1
  have HF := Lib.hid h
  have HB := Lib.hid hb
  clear h hb
  have tok1 : True := trivial
  have tok2 : True := trivial
  go_enter Tryz.func16, Tryz.ntmps16
  go_wp2_with (first
    | (at_builtin; clear tok1; refine wpList_appB (l0 := []) (B := w.heap.size) _ _ (by rfl) (by rfl) (by rfl) (by rfl) (Nat.le_refl _) (World.ownsRow_nil _ _ _ _) HF.out.2 (by show 0 + bl0.length < _; omega) (fun v1 w1 hv1 hb1 => ?_))
    | (at_builtin; clear tok2; refine wpList_appS (l0 := bl0) (B := w.heap.size) (r := r) _ _ (by rfl) (by rfl) (by rfl) (by rfl) hb1.size hv1 (HB.out.below hb1) hl hrl ((hb1.cell (p := ⟨r, 0, none⟩) hrl).trans c0) (by have := (block_cell HF.out.1 0).2; rw [← this]; simp only [World.frozen?]; rw [hb1.block r hrl]) (fun a2 c2 w2 hv2 hb2 hc2 hz2 => ?_))
    | fail)
  have hb02 : Below w.heap.size w w2 := hb1.trans (hb2.mono (Nat.le_refl _))
  have hrow2 : BRow w2 (.slice a2 (bl0 ++ bl).length c2) (bl0 ++ bl) := (Row.of_owns hv2).bytes
  have hrt2 : w2.heap[r]? = some (.cells #[b0, .int .i64 ((refEv bl0).1.length : Int)] 29 (0, 0)) := by rw [hb02.block r hrl]; exact HF.out.1
  have hnb : ∀ g, (Value.slice a2 (bl0 ++ bl).length c2).ownBlock = some g → w.heap.size ≤ g := fun g hg => (hv2.lt g hg).1
  have hst : Chg (fun k => k = r) w2 (w2.setCell ⟨r, 0, none⟩ (.slice a2 (bl0 ++ bl).length c2)) := Chg.set (M := fun k => k = r) (Chg.refl _ _) (fun _ => rfl) _
  have hrow3 := hrow2.kept hst (fun _ g hg e => by have := hnb g hg; omega)
  have hbox3 := Go.Joins.block_setCell (i := 0) hrt2 (.slice a2 (bl0 ++ bl).length c2)
  have hc03 : Chg (fun k => k = r) w (w2.setCell ⟨r, 0, none⟩ (.slice a2 (bl0 ++ bl).length c2)) := (Chg.of_below hb02).then hst (fun _ _ e => e)
  have hev := events_any hrow3 (by rw [List.length_append]; exact hl)
  rw [List.length_append] at hev hnb hbox3 hrow3 hc03
  obtain ⟨W3, hW3⟩ : ∃ W3, W3 = w2.setCell ⟨r, 0, none⟩ (.slice a2 (bl0.length + bl.length) c2) := ⟨_, rfl⟩
  rw [← hW3] at hev hbox3 hrow3 hc03 ⊢
  have HEV := Lib.hid hev
  have HN := Lib.hid hnb
  have HBX := Lib.hid (show W3.heap[r]? = some (.cells #[.slice a2 (bl0.length + bl.length) c2, .int .i64 ((refEv bl0).1.length : Int)] 29 (0, 0)) from hbox3)
  have HR3 := Lib.hid hrow3
  have HC3 := Lib.hid hc03
  clear hev hnb hbox3 hrow3 hc03 hst hrt2 hrow2 hb02 hv2 hb2 hc2 hz2 hv1 hb1 hW3 c0 HF HB
  refine HEV.out.mono ?_
  rintro e W4 ⟨v, L, rfl, hmap, hr⟩
  have hLl : (refEv bl0).1.length ≤ L.length := by
    have h1 := congrArg List.length hmap
    rw [List.length_map] at h1
    rw [h1]; exact few_more bl0 bl
  have hlow : Below W3.heap.size W3 W4 := hr.low
  have hrl3 : r < W3.heap.size := (Array.getElem?_eq_some_iff.1 HBX.out).1
  have hbox4 : W4.heap[r]? = some (.cells #[.slice a2 (bl0.length + bl.length) c2, .int .i64 ((refEv bl0).1.length : Int)] 29 (0, 0)) := by rw [hlow.block r hrl3]; exact HBX.out
  obtain ⟨va, vc, rfl⟩ := row_slice hr.row
  have hrr : REvRow W4 (.slice va L.length vc) L := ⟨Row.of_owns hr.row, hr.keys⟩
  obtain ⟨ca, cc, hcut, hcr⟩ := revs_cut hrr hLl
  have q1 : W4.cell? ⟨r, 1, none⟩ = some (.int .i64 ((refEv bl0).1.length : Int)) := (block_cell hbox4 1).1
  have qz : W4.frozen? ⟨r, 1, none⟩ = false := (block_cell hbox4 1).2
  have hlen : (refEv (bl0 ++ bl)).1.length = L.length := by rw [← hmap, List.length_map]
  have hst5 : Chg (fun k => k = r) W4 (W4.setCell ⟨r, 1, none⟩ (.int .i64 (L.length : Int))) := Chg.set (M := fun k => k = r) (Chg.refl _ _) (fun _ => rfl) _
  have hbox5 := Go.Joins.block_setCell (i := 1) hbox4 (.int .i64 (L.length : Int))
  have hcr5 := hcr.kept hst5 (fun k hk => by
    subst hk
    have ht : Tag W4 k 29 := Tag.of hbox4
    exact ⟨fun h => absurd (ht.one h) (by decide), fun h => absurd (ht.one h) (by decide)⟩)
  have hr5 := (HR3.out.below hlow).kept hst5 (fun _ g hg e => by have := HN.out g hg; omega)
  have hc5 : Chg (fun k => k = r) w (W4.setCell ⟨r, 1, none⟩ (.int .i64 (L.length : Int))) := (HC3.out.then (M' := fun _ => False) (Chg.of_below hlow) (fun _ _ e => e.elim)).then hst5 (fun _ _ e => e)
  have hdl : (L.drop (refEv bl0).1.length).length = L.length - (refEv bl0).1.length := List.length_drop
  have hmd : (L.drop (refEv bl0).1.length).map (·.2) = (refEv (bl0 ++ bl)).1.drop (refEv bl0).1.length := by rw [List.map_drop, hmap]
  generalize hm : (refEv bl0).1.length = m at *
  have HM := Lib.hid hm
  clear hm
  have HCR := Lib.hid hcr5
  have HR5 := Lib.hid hr5
  have HC5 := Lib.hid hc5
  have HB5 := Lib.hid hbox5
  have HMD := Lib.hid hmd
  have HLN := Lib.hid hlen
  clear hcr5 hr5 hc5 hbox5 hmd hlen hst5 hcr hrr hr hbox4 hlow HEV HBX HR3 HC3 hmap hdl
  go_wp2_with fail
  go_ret
  refine ⟨_, _, _, rfl, HCR.out, by rw [HM.out]; exact HMD.out, ⟨?_, HR5.out⟩, ?_, HC5.out⟩
  · rw [HLN.out]; exact HB5.out
  · rw [← List.length_append] at *; exact HN.out
end Go.Proofs.YtahpjhnbjkjkiaaGreatDoor
