/- What the document's connection does with what waits (on). No condition. -/
import Derived.Test.YtddifbimlmkcbaaGreatDoorCoG
import Derived.Test.YtddifbimlmkcbaaGreatDoorLiB
import Derived.Deep.RegionLaw
import Derived.Deep.MidRow
import Derived.Test.YtddifbimlmkcbaaGreatDoorLowA
namespace Go.Proofs.YtddifbimlmkcbaaGreatDoor
open Go.RowKit Go.ChangeMaps Go.MapKept
section
variable {n₀ : Nat} {w w' : World} {r : Nat} {bv wv tk cv : Value} {L : List (Value × Ev)} {m mm : RM} {S : Nat → Prop}
theorem slice_rev {g o n cap : Nat} (hc : n + 1 ≤ cap) (W : World) : (Instr.slice 60 (.slice (some ⟨g, o, none⟩) (n + 1) cap) (some (.int .i64 1)) none none).run Tryz.prog W = .ok (.slice (some ⟨g, if cap = 1 then o else o + 13, none⟩) n (cap - 1)) W := by
  have h2 := Tryz.underlying60
  obtain ⟨i0, hi, hz0, hz1, hz2⟩ := info_parts infoREv
  have h3 : (1 : Int) ≤ (n : Int) + 1 := by omega
  have h4 : (n : Int) + 1 ≤ (cap : Int) := by omega
  by_cases hn : cap = 1
  · subst hn
    obtain rfl : n = 0 := by omega
    go_simp
  · rw [if_neg hn]
    go_simp
/-- 'Wait[1:]'. -/
theorem RAt.tailWait (h : RAt n₀ w r bv wv tk cv L m) {ke : Value} {ev : Ev} {L' : List (Value × Ev)} (hL : L = (ke, ev) :: L') :
    ∃ g o cap o2, wv = .slice (some ⟨g, o, none⟩) (L'.length + 1) cap ∧ L'.length + 1 ≤ cap ∧ (∀ W : World, (Instr.slice 60 (.slice (some ⟨g, o, none⟩) (L'.length + 1) cap) (some (.int .i64 1)) none none).run Tryz.prog W = .ok (.slice (some ⟨g, o2, none⟩) L'.length (cap - 1)) W) ∧
      MidRow w n₀ 63 13 (.slice (some ⟨g, o2, none⟩) L'.length (cap - 1)) L'.length (rEvsCells L') ∧ (∀ (j : Nat) (u : Value), (rEvCells ke ev)[j]? = some u → w.cell? ⟨g, o + j, none⟩ = some u) := by
  subst hL
  have hw := h.wait
  have hw0 := hw
  obtain ⟨-, ⟨-, h0⟩ | ⟨g, o, cap, cur, h1, -, -, h2, -⟩⟩ := hw
  · cases h0
  · have h2 : L'.length + 1 ≤ cap := h2
    rw [h1] at hw0
    refine ⟨g, o, cap, if cap = 1 then o else o + 13, h1, h2, fun W => slice_rev h2 W, ?_, fun j u hj => hw0.cell (by
      show (rEvCells ke ev ++ rEvsCells L')[j]? = _
      rw [List.getElem?_append_left (List.getElem?_eq_some_iff.1 hj).1]; exact hj)⟩
    by_cases hn : cap = 1
    · obtain rfl : L' = [] := List.eq_nil_of_length_eq_zero (by omega)
      rw [if_pos hn, hn]
      exact hw0.empty
    · rw [if_neg hn]
      exact hw0.tail (x := rEvCells ke ev) rfl (by omega) (by omega)
theorem idx_rev0 {a : Option Addr} {g o n c : Nat} (ha : a = some ⟨g, o, none⟩) (hk : 0 < n) (W : World) : (Instr.indexAt 60 (.slice a n c) (.int .i64 0)).run Tryz.prog W = .ok (.pointer (some ⟨g, o, none⟩)) W := by
  subst ha
  have h1 : (0 : Int) < (n : Int) := by omega
  have h2 := Tryz.underlying60
  go_simp
/-- An event has been taken; it lies in block pe, its call in block pc. -/
structure OnJ (n₀ : Nat) (w : World) (r : Nat) (S : Nat → Prop) (mm : RM) (kv : Value) (ev : Ev) (pe pc : Nat) (W : World) : Prop where
  is : ∃ S2, RIs n₀ W r mm S2 ∧ (∀ k, S2 k → S k ∨ w.heap.size ≤ k) ∧ ¬ S2 pe ∧ ¬ S2 pc
  chg : Chg S w W
  ebox : W.heap[pe]? = some (.cells (rEvCells kv ev).toArray 63 (0, 0))
  cbox : W.heap[pc]? = some (.cells (callCells ev.cmd).toArray 39 (0, 0))
  newe : w.heap.size ≤ pe
  newc : w.heap.size ≤ pc
  keys : KeysAt W kv ev.cmd.keys
/-- Behind the event's turn. -/
structure OnK (n₀ : Nat) (w : World) (r : Nat) (S : Nat → Prop) (mm : RM) (kv : Value) (ev : Ev) (pe : Nat) (W : World) : Prop where
  step : RStep n₀ w r S mm W
  ebox : W.heap[pe]? = some (.cells (rEvCells kv ev).toArray 63 (0, 0))
/-- The event's turn, but that it is not laid there yet. -/
def midR (s : RM) (e : Ev) (es : List Ev) : RM := if quitE e then { s with wait := [], closed := true } else { s with wait := es, out := quietE e s.out, calls := callsE e }
theorem mid_turn (s : RM) (e : Ev) (es : List Ev) : { midR s e es with turn := e } = stepR s e es := by
  unfold midR stepR
  by_cases h : quitE e
  · rw [if_pos h, if_pos h]
  · rw [if_neg h, if_neg h]
/-- How much waits, read in memory. -/
def rwaitW (r : Nat) (w : World) : Nat := match w.cell? ⟨r, 2, none⟩ with
  | some (.slice _ n _) => n
  | _ => 0
theorem rwaitW_is (h : RIs n₀ w r m S) : rwaitW r w = m.wait.length := by
  obtain ⟨bv, wv, tk, cv, L, h, rfl⟩ := h
  obtain ⟨wa, wc, rfl⟩ := h.wait.len
  have c0 : w.cell? ⟨r, 2, none⟩ = some (.slice wa L.length wc) := (h.cell (j := 2) rfl).1
  unfold rwaitW
  rw [c0, ← h.evs, List.length_map]
/-- What on has done so far. -/
structure OnI (n₀ : Nat) (w : World) (r : Nat) (S : Nat → Prop) (m mr : RM) (W : World) (Sr : Nat → Prop) : Prop where
  is : RIs n₀ W r mr Sr
  chg : Chg S w W
  fresh : ∀ k, Sr k → S k ∨ w.heap.size ≤ k
  on : onR mr = onR m
  wok : ∀ e ∈ mr.wait, EvC e
  small : mr.out.length + 200 * mr.wait.length ≤ m.out.length + 200 * m.wait.length
/-- Where calls are gathered. -/
structure GetsR (n₀ : Nat) (w : World) (r : Nat) (S : Nat → Prop) (bv wv tk : Value) (L : List (Value × Ev)) (mm : RM) (c : Cmd) (kv : Value) (ev : Ev) (pe pc : Nat) (W : World) (cv' : Value) (j : Nat) (y : List UInt8) : Prop where
  at' : RAt n₀ W r bv wv tk cv' L { mm with calls := (c.keys.take j).map (fun k => { c with key := k }) }
  cbox : W.heap[pc]? = some (.cells (callCells { c with key := y }).toArray 39 (0, 0))
  ebox : W.heap[pe]? = some (.cells (rEvCells kv ev).toArray 63 (0, 0))
  newc : w.heap.size ≤ pc
  epe : wv.ownBlock ≠ some pe
  apart : cv'.ownBlock ≠ some pc
  keys : KeysAt W kv c.keys
  chg : Chg S w W
  self : S r
  old : ∀ k, k = r ∨ bv.ownBlock = some k ∨ wv.ownBlock = some k → S k ∨ w.heap.size ≤ k
  fresh : ∀ g, cv'.ownBlock = some g → S g ∨ w.heap.size ≤ g
theorem GetsR.set {c : Cmd} {kv : Value} {ev : Ev} {pe pc : Nat} {W : World} {cv' : Value} {j : Nat} {y : List UInt8} (h : GetsR n₀ w r S bv wv tk L mm c kv ev pe pc W cv' j y) (x : List UInt8) : GetsR n₀ w r S bv wv tk L mm c kv ev pe pc (W.setCell ⟨pc, 1, none⟩ (sv x)) cv' j x := by
  have hst : Chg (fun k => k = pc) W (W.setCell ⟨pc, 1, none⟩ (sv x)) := cset_chg _ _ _ _
  have hpt : ∀ t, t ≠ 39 → ¬ Tag W pc t := fun t ht e => ht (e.one (Tag.of h.cbox))
  have hn := h.newc
  refine ⟨h.at'.kept hst (fun k hk => ?_), Go.Joins.block_setCell (i := 1) h.cbox (sv x), hst.obj h.ebox (fun e => hpt 63 (by decide) (by rw [← e]; exact Tag.of h.ebox)), hn, h.epe, h.apart, h.keys.kept hst (fun g hg e => by subst e; exact hpt _ (by decide) (h.keys.tag hg)), h.chg.then (M' := fun k => k = pc) hst (fun k hk e => by omega), h.self, h.old, h.fresh⟩
  subst hk
  refine ⟨fun hcm => ?_, hpt _ (by decide)⟩
  rcases hcm with e | e | e | e
  · rw [e] at hpt; exact hpt _ (by decide) h.at'.rtag
  · exact hpt _ (by decide) (h.at'.fed k e).2
  · exact hpt _ (by decide) (h.at'.wait.tag e).1
  · exact h.apart e
theorem GetsR.push {c : Cmd} {kv : Value} {ev : Ev} {pe pc : Nat} {W w2 : World} {cv' cv2 : Value} {j : Nat} {x : List UInt8} {o : Obj} (h : GetsR n₀ w r S bv wv tk L mm c kv ev pe pc W cv' j x) (hj : c.keys[j]? = some x)
    (hm : MidRow w2 n₀ 39 7 cv2 (j + 1) (callsCells ((c.keys.take j).map (fun k => { c with key := k })) ++ callCells { c with key := x })) (hg : (W.drew.alloc o).grownBy w2 cv'.ownBlock) (hat : cv2.ownBlock = cv'.ownBlock ∨ cv2.ownBlock = some (W.heap.size + 1)) :
    (w2.cell? ⟨r, 16, none⟩ = some cv' ∧ w2.frozen? ⟨r, 16, none⟩ = false) ∧ GetsR n₀ w r S bv wv tk L mm c kv ev pe pc (w2.setCell ⟨r, 16, none⟩ cv2) cv2 (j + 1) x := by
  have hc1 : Chg (fun k => cv'.ownBlock = some k) W w2 := ((Chg.refl _ _).drew.alloc o).then (M' := fun k => cv'.ownBlock = some k) (Chg.of_grown hg (fun _ _ e => e)) (fun _ _ e => e)
  have htag : ∀ k, cv'.ownBlock = some k → Tag W k 39 := fun k hk => (h.at'.calls.tag hk).1
  have hno : ∀ k, cv'.ownBlock = some k → ∀ t, t ≠ 39 → ¬ Tag W k t := fun k hk t ht e => ht (e.one (htag k hk))
  have hlen : ((c.keys.take (j + 1)).map (fun k => ({ c with key := k } : Cmd))).length = j + 1 := by
    have := (List.getElem?_eq_some_iff.1 hj).1
    rw [List.length_map, List.length_take]; omega
  have htk : (c.keys.take (j + 1)).map (fun k => ({ c with key := k } : Cmd)) = (c.keys.take j).map (fun k => { c with key := k }) ++ [{ c with key := x }] := take_keys (fun k => ({ c with key := k } : Cmd)) hj
  have hbox2 := hc1.obj h.at'.box (fun e => hno r e _ (by decide) h.at'.rtag)
  have hst := cset_chg w2 r 16 cv2
  have hp2 : Tag w2 r 65 := Tag.of hbox2
  have hW : W.heap.size ≤ w2.heap.size := hc1.size
  have hbox3 := Go.Joins.block_setCell (i := 16) hbox2 cv2
  rw [List.setIfInBounds_toArray] at hbox3
  have hbl2 := h.at'.feed.kept hc1 (fun _ g hg e => hno g e _ (by decide) (h.at'.fed g hg).2)
  have hfd2 : ∀ g, bv.ownBlock = some g → n₀ ≤ g ∧ Tag w2 g 5 := fun g hg => ⟨(h.at'.fed g hg).1, hc1.tag (h.at'.fed g hg).2 (fun e => hno g e _ (by decide) (h.at'.fed g hg).2)⟩
  have hw2 := h.at'.wait.kept hc1 (fun g hg e => hno g e _ (by decide) (h.at'.wait.tag hg).1)
  have hk2 : ∀ y ∈ L, KeysAt w2 y.1 y.2.cmd.keys := fun y hy => (h.at'.keys y hy).kept hc1 (fun g hg e => hno g e _ (by decide) ((h.at'.keys y hy).tag hg))
  have hkv2 := h.keys.kept hc1 (fun g hg e => hno g e _ (by decide) (h.keys.tag hg))
  refine ⟨⟨by rw [(block_cell hbox2 16).1]; rfl, (block_cell hbox2 16).2⟩, ⟨⟨h.at'.low, ?_, hbl2.kept hst (fun _ g hg e => ?_), fun g hg => ⟨(hfd2 g hg).1, hst.tag (hfd2 g hg).2 (fun e => ?_)⟩, h.at'.evs, hw2.kept hst (fun g hg e => ?_), fun y hy => (hk2 y hy).kept hst (fun g hg e => ?_), h.at'.tk, ?_⟩, ?_, ?_, h.newc, h.epe, ?_, hkv2.kept hst (fun g hg e => ?_), ?_, h.self, h.old, ?_⟩⟩
  · exact hbox3
  · subst e; exact absurd (hp2.one (hfd2 g hg).2) (by decide)
  · subst e; exact absurd (hp2.one (hfd2 g hg).2) (by decide)
  · subst e; exact absurd (hp2.one (hw2.tag hg).1) (by decide)
  · subst e; exact absurd (hp2.one ((hk2 y hy).tag hg)) (by decide)
  · show MidRow _ _ _ _ _ ((c.keys.take (j + 1)).map (fun k => ({ c with key := k } : Cmd))).length (callsCells ((c.keys.take (j + 1)).map (fun k => { c with key := k })))
    rw [hlen, htk, callsCells_snoc]
    exact hm.kept hst (fun g hg e => by subst e; exact absurd (hp2.one (hm.tag hg).1) (by decide))
  · exact hst.obj (hc1.obj h.cbox (fun e => h.apart e)) (fun e => by
      have h1 := Tag.of (hc1.obj h.cbox (fun e => h.apart e))
      rw [e] at h1
      exact absurd (hp2.one h1) (by decide))
  · exact hst.obj (hc1.obj h.ebox (fun e => hno pe e _ (by decide) (Tag.of h.ebox))) (fun e => by
      have h1 := Tag.of (hc1.obj h.ebox (fun e => hno pe e _ (by decide) (Tag.of h.ebox)))
      rw [e] at h1
      exact absurd (hp2.one h1) (by decide))
  · intro e
    rcases hat with ha | ha
    · rw [ha] at e; exact h.apart e
    · rw [ha] at e
      have h1 := Option.some.inj e
      have h2 := (Tag.of h.cbox).lt
      omega
  · subst e; exact absurd (hp2.one (hkv2.tag hg)) (by decide)
  · refine (h.chg.then (M' := fun k => cv'.ownBlock = some k) hc1 (fun k hk e => ?_)).then (M' := fun k => k = r) hst (fun k _ e => by rw [e]; exact h.self)
    rcases h.fresh k e with h1 | h1
    · exact h1
    · omega
  · intro g hg
    rcases hat with ha | ha
    · rw [ha] at hg; exact h.fresh g hg
    · rw [ha] at hg
      have h1 := Option.some.inj hg
      have := h.chg.size
      exact .inr (by omega)
theorem OnJ.ends {kv : Value} {ev : Ev} {pe pc : Nat} {W W' : World} {M : Nat → Prop} {m' : RM} (h : OnJ n₀ w r S mm kv ev pe pc W) (hr : ∃ S2, RIs n₀ W' r m' S2 ∧ ∀ k, S2 k → S k ∨ w.heap.size ≤ k) (hc : Chg M W W') (hM : ∀ k, M k → S k ∨ w.heap.size ≤ k) (hpe : ¬ M pe) : OnK n₀ w r S m' kv ev pe W' := by
  obtain ⟨S2, h1, h2⟩ := hr
  exact ⟨⟨S2, h1, h.chg.then hc (fun k hk e => (hM k e).elim id (fun h => by omega)), h2⟩, hc.obj h.ebox hpe⟩
theorem OnJ.below {kv : Value} {ev : Ev} {pe pc : Nat} {W W' : World} (h : OnJ n₀ w r S mm kv ev pe pc W) (hb : Below W.heap.size W W') : OnJ n₀ w r S mm kv ev pe pc W' := by
  obtain ⟨S2, h1, h2, h3, h4⟩ := h.is
  have hc := Chg.of_below (M := fun _ => False) hb
  exact ⟨⟨S2, h1.below hb, h2, h3, h4⟩, h.chg.then hc (fun _ _ e => e.elim), hc.obj h.ebox (fun e => e), hc.obj h.cbox (fun e => e), h.newe, h.newc, h.keys.below hb⟩
/-- Something was told. -/
theorem OnJ.told {kv : Value} {ev : Ev} {pe pc : Nat} {W : World} (h : OnJ n₀ w r S mm kv ev pe pc W) (T : List UInt8) : OnK n₀ w r S { mm with out := T } kv ev pe (W.drew.setCell ⟨r, 18, none⟩ (sv T)) := by
  obtain ⟨S2, ⟨bv, wv, tk, cv, L, hat, rfl⟩, h2, h3, h4⟩ := h.is
  have hd := (hat.below (Below.refl _ _).drew).setOut T
  exact h.ends (M := fun k => k = r) ⟨_, hd.is, h2⟩ (((Chg.refl _ _).drew).then (M' := fun k => k = r) (cset_chg _ _ _ _) (fun _ _ e => e)) (fun k e => by rw [e]; exact h2 r (.inl rfl)) (fun e => h3 (.inl e))
/-- It is closed. -/
theorem OnJ.quit {kv : Value} {ev : Ev} {pe pc : Nat} {W : World} (h : OnJ n₀ w r S mm kv ev pe pc W) : OnK n₀ w r S { mm with closed := true, wait := [] } kv ev pe ((W.setCell ⟨r, 19, none⟩ (.bool true)).setCell ⟨r, 2, none⟩ (.slice none 0 0)) := by
  obtain ⟨S2, ⟨bv, wv, tk, cv, L, hat, rfl⟩, h2, h3, h4⟩ := h.is
  have hd := (hat.setClosed true).setWait (wv' := .slice none 0 0) (L' := []) (MidRow.nil _ _ _ _) (fun _ hx => nomatch hx)
  refine h.ends (M := fun k => k = r) ⟨_, hd.is, fun k hk => ?_⟩ ((cset_chg _ _ _ _).then (M' := fun k => k = r) (cset_chg _ _ _ _) (fun _ _ e => e)) (fun k e => by rw [e]; exact h2 r (.inl rfl)) (fun e => h3 (.inl e))
  rcases hk with hk | hk | hk | hk
  · exact h2 k (.inl hk)
  · exact h2 k (.inr (.inl hk))
  · simp [Value.ownBlock] at hk
  · exact h2 k (.inr (.inr (.inr hk)))
theorem onJ_of {kv : Value} {ev : Ev} {L' : List (Value × Ev)} {w9 : World} {v9 : Value} (hat : RAt n₀ w r bv wv tk cv L m) (hS : S = RS r bv wv cv) (hL : L = (kv, ev) :: L') (hkv : KeysAt w kv ev.cmd.keys)
    (hm9 : MidRow w9 n₀ 63 13 v9 L'.length (rEvsCells L')) (hg9 : (w.alloc (.cells (rEvCells kv ev).toArray 63)).grownBy w9 none) (ha9 : v9.ownBlock = none ∨ v9.ownBlock = some (w.heap.size + 1)) :
    (w9.cell? ⟨r, 2, none⟩ = some wv ∧ w9.frozen? ⟨r, 2, none⟩ = false) ∧ r ≠ w.heap.size ∧ w9.cell? ⟨w.heap.size, 2, none⟩ = some (.int .u8 (ev.cmd.cverb : Int)) ∧ w9.cell? ⟨w.heap.size, 3, none⟩ = some (sv ev.cmd.key) ∧ w9.cell? ⟨w.heap.size, 4, none⟩ = some (sv ev.cmd.value) ∧
      w9.cell? ⟨w.heap.size, 5, none⟩ = some (.int .u32 (ev.cmd.flags : Int)) ∧ w9.cell? ⟨w.heap.size, 6, none⟩ = some (.int .i64 ev.cmd.exp) ∧ w9.cell? ⟨w.heap.size, 7, none⟩ = some (.int .u64 (ev.cmd.id : Int)) ∧ w9.cell? ⟨w.heap.size, 8, none⟩ = some (.int .u64 (ev.cmd.by' : Int)) ∧
      OnJ n₀ w r S { m with wait := L'.map (·.2) } kv ev w.heap.size w9.heap.size ((w9.setCell ⟨r, 2, none⟩ v9).alloc (.cells (callCells ev.cmd).toArray 39)) := by
  subst hS hL
  have hb1 : Below w.heap.size w (w.alloc (.cells (rEvCells kv ev).toArray 63)) := (Below.refl _ _).alloc (Nat.le_refl _) _
  have hc9 : Chg (fun _ => False) (w.alloc (.cells (rEvCells kv ev).toArray 63)) w9 := Chg.of_grown hg9 (fun _ _ e => by cases e)
  have hc : Chg (fun _ => False) w w9 := (Chg.of_below hb1).then hc9 (fun _ _ e => e)
  have h9 := hat.kept hc (fun _ e => e.elim)
  have hbx : w9.heap[w.heap.size]? = some (.cells (rEvCells kv ev).toArray 63 (0, 0)) := hc9.obj (by rw [heap_at, if_pos rfl]) (fun e => e)
  have hrn : r ≠ w.heap.size := Nat.ne_of_lt hat.plt
  have hsz : w.heap.size < w9.heap.size := (Tag.of hbx).lt
  have hk9 := fun x (hx : x ∈ L') => h9.keys x (List.mem_cons_of_mem _ hx)
  have hw := h9.setWait hm9 hk9
  have hst := cset_chg w9 r 2 v9
  have hal : Chg (fun _ => False) (w9.setCell ⟨r, 2, none⟩ v9) ((w9.setCell ⟨r, 2, none⟩ v9).alloc (.cells (callCells ev.cmd).toArray 39)) := (Chg.refl _ _).alloc _
  have hw2 := hw.kept hal (fun _ e => e.elim)
  have hfar := fun k (hk : RS r bv v9 cv k) => hw.far hk
  have hss : (w9.setCell ⟨r, 2, none⟩ v9).heap.size = w9.heap.size := by simp
  have hrs : ∀ k, RS r bv v9 cv k → RS r bv wv cv k ∨ v9.ownBlock = some k := fun k hk => by
    rcases hk with hk | hk | hk | hk
    · exact .inl (.inl hk)
    · exact .inl (.inr (.inl hk))
    · exact .inr hk
    · exact .inl (.inr (.inr (.inr hk)))
  refine ⟨h9.cell (j := 2) rfl, hrn, (block_cell hbx 2).1, (block_cell hbx 3).1, (block_cell hbx 4).1, (block_cell hbx 5).1, (block_cell hbx 6).1, (block_cell hbx 7).1, (block_cell hbx 8).1, ⟨_, hw2.is, fun k hk => ?_, fun hk => ?_, fun hk => ?_⟩, ?_, ?_, ?_, Nat.le_refl _, Nat.le_of_lt hsz, ?_⟩
  · rcases hrs k hk with h | h
    · exact .inl h
    · rcases ha9 with h1 | h1
      · rw [h1] at h; cases h
      · rw [h1] at h; have := Option.some.inj h; exact .inr (by omega)
  · rcases hrs _ hk with h | h
    · exact absurd (hat.far h) (Nat.lt_irrefl _)
    · rcases ha9 with h1 | h1
      · rw [h1] at h; cases h
      · rw [h1] at h; have := Option.some.inj h; omega
  · have := hfar _ hk
    rw [hss] at this
    omega
  · exact ((hc.mono (M' := RS r bv wv cv) (fun _ _ e => e.elim)).then (M' := fun k => k = r) hst (fun k _ e => .inl e)).then (M' := fun _ => False) hal (fun _ _ e => e.elim)
  · exact hal.obj (hst.obj hbx (fun e => hrn e.symm)) (fun e => e)
  · rw [heap_at, if_pos hss.symm]
  · exact ((hkv.kept hc (fun _ _ e => e)).kept hst (fun g hg e => by
      subst e
      exact absurd (h9.rtag.one ((hkv.kept hc (fun _ _ e => e)).tag hg)) (by decide))).kept hal (fun _ _ e => e)
theorem RAt.there (h : RAt n₀ w r bv wv tk cv L m) : w.there r 3 13 := fun j hj =>
  ⟨by rw [(block_cell h.box (3 + j)).1, Array.getElem?_eq_getElem (by simp; omega)]; rfl, (block_cell h.box _).2⟩
theorem step_small {s : RM} {e : Ev} {es : List Ev} (hw : s.wait = e :: es) : (stepR s e es).out.length + 200 * (stepR s e es).wait.length ≤ s.out.length + 200 * s.wait.length ∧ (stepR s e es).wait.length < s.wait.length ∧ (∀ x ∈ (stepR s e es).wait, x ∈ s.wait) := by
  unfold stepR
  rw [hw, List.length_cons]
  by_cases hq : quitE e
  · rw [if_pos hq]
    exact ⟨by show s.out.length + 200 * 0 ≤ _; omega, Nat.succ_pos _, fun x hx => nomatch hx⟩
  · rw [if_neg hq]
    obtain ⟨t, h1, h2⟩ := quiet_prefix e s.out
    refine ⟨?_, Nat.lt_succ_self _, fun x hx => List.mem_cons_of_mem _ hx⟩
    show (quietE e s.out).length + 200 * es.length ≤ _
    rw [h1, List.length_append]
    omega
/-- A round is done. -/
theorem OnI.next {mr : RM} {W W' : World} {Sr : Nat → Prop} {ev : Ev} {es : List Ev} {ka : Option Addr} {kn kc pe : Nat} (h : OnI n₀ w r S m mr W Sr) (hc0 : mr.calls = []) (hw : mr.wait = ev :: es) (hk : OnK n₀ W r Sr (midR mr ev es) (.slice ka kn kc) ev pe W') :
    W'.there r 3 13 ∧ ∃ S3, OnI n₀ w r S m (stepR mr ev es) (W'.setCells r 3 (rEvCells (.slice ka kn kc) ev)) S3 := by
  obtain ⟨⟨S3, ⟨bv, wv, tk, cv, L, hat, rfl⟩, hch, hfr⟩, heb⟩ := hk
  obtain ⟨h1, h2, h3⟩ := step_small hw
  have hst := hat.setTurn ka kn kc ev
  rw [mid_turn] at hst
  refine ⟨hat.there, RS r bv wv cv, ⟨hst.is, (h.chg.then (M' := Sr) hch (fun k hk e => ?_)).then (M' := fun k => k = r) (setCells_chg _ _ _ _) (fun k hk e => ?_), fun k hk => ?_, (on_step hc0 hw).trans h.on, fun e he => h.wok e (h3 e he), by have := h.small; omega⟩⟩
  · rcases h.fresh k e with h | h
    · exact h
    · omega
  · subst e
    rcases h.fresh k h.is.self with h | h
    · exact h
    · omega
  · rcases hfr k hk with h4 | h4
    · exact h.fresh k h4
    · exact .inr (Nat.le_trans h.chg.size h4)
/-- One call. -/
theorem OnJ.call {kv : Value} {ev : Ev} {pe pc : Nat} {W : World} (h : OnJ n₀ w r S mm kv ev pe pc W) (hn : n₀ ≤ w.heap.size) :
    OnK n₀ w r S { mm with calls := [{ ev.cmd with value := ev.data }] } kv ev pe (((W.setCell ⟨pc, 2, none⟩ (sv ev.data)).setCell ⟨r, 16, none⟩ (.slice (some ⟨W.heap.size, 0, none⟩) 1 1)).alloc (.cells (callCells { ev.cmd with value := ev.data }).toArray 39)) := by
  obtain ⟨S2, ⟨bv, wv, tk, cv, L, hat, rfl⟩, h2, h3, h4⟩ := h.is
  have hst := cset_chg W pc 2 (sv ev.data)
  have hpt : ∀ t, t ≠ 39 → ¬ Tag W pc t := fun t ht e => ht (e.one (Tag.of h.cbox))
  have hat1 := hat.kept hst (fun k e => by subst e; exact ⟨h4, hpt _ (by decide)⟩)
  have hs2 := cset_chg (W.setCell ⟨pc, 2, none⟩ (sv ev.data)) r 16 (.slice (some ⟨W.heap.size, 0, none⟩) 1 1)
  have hsz : ((W.setCell ⟨pc, 2, none⟩ (sv ev.data)).setCell ⟨r, 16, none⟩ (.slice (some ⟨W.heap.size, 0, none⟩) 1 1)).heap.size = W.heap.size := by simp
  have hal : Chg (fun _ => False) ((W.setCell ⟨pc, 2, none⟩ (sv ev.data)).setCell ⟨r, 16, none⟩ (.slice (some ⟨W.heap.size, 0, none⟩) 1 1)) (((W.setCell ⟨pc, 2, none⟩ (sv ev.data)).setCell ⟨r, 16, none⟩ (.slice (some ⟨W.heap.size, 0, none⟩) 1 1)).alloc (.cells (callCells { ev.cmd with value := ev.data }).toArray 39)) := (Chg.refl _ _).alloc _
  have hall := (hst.mono (M' := fun k => k = pc ∨ k = r) (fun _ _ e => .inl e)).then (M' := fun k => k = r) hs2 (fun _ _ e => .inr e) |>.then (M' := fun _ => False) hal (fun _ _ e => e.elim)
  have hwn := h.chg.size
  have hbx := Go.Joins.block_setCell (i := 16) hat1.box (.slice (some ⟨W.heap.size, 0, none⟩) 1 1)
  rw [List.setIfInBounds_toArray] at hbx
  have hb2 := hal.obj hbx (fun e => e)
  have hrt := hat1.rtag
  refine h.ends (M := fun k => k = pc ∨ k = r) ⟨RS r bv wv (.slice (some ⟨W.heap.size, 0, none⟩) 1 1), ⟨bv, wv, tk, .slice (some ⟨W.heap.size, 0, none⟩) 1 1, L, ⟨hat1.low, hb2, ?_, fun g hg => ⟨(hat1.fed g hg).1, ?_⟩, hat1.evs, ?_, fun x hx => ?_, hat1.tk, ?_⟩, rfl⟩, fun k hk => ?_⟩ hall (fun k hk => ?_) (fun e => ?_)
  · refine (hat1.feed.kept hs2 (fun _ g hg e => ?_)).kept hal (fun _ _ _ e => e)
    subst e
    exact absurd (hrt.one (hat1.fed g hg).2) (by decide)
  · refine hal.tag (hs2.tag (hat1.fed g hg).2 (fun e => ?_)) (fun e => e)
    subst e
    exact absurd (hrt.one (hat1.fed g hg).2) (by decide)
  · refine (hat1.wait.kept hs2 (fun g hg e => ?_)).kept hal (fun _ _ e => e)
    subst e
    exact absurd (hrt.one (hat1.wait.tag hg).1) (by decide)
  · refine ((hat1.keys x hx).kept hs2 (fun g hg e => ?_)).kept hal (fun _ _ e => e)
    subst e
    exact absurd (hrt.one ((hat1.keys x hx).tag hg)) (by decide)
  · exact ⟨rfl, .inr ⟨W.heap.size, 0, 1, _, rfl, by omega, by rw [heap_at, if_pos hsz.symm], Nat.le_refl _, by unfold maxLen; decide, Nat.le_refl _, rfl⟩⟩
  · rcases hk with hk | hk | hk | hk
    · exact h2 k (.inl hk)
    · exact h2 k (.inr (.inl hk))
    · exact h2 k (.inr (.inr (.inl hk)))
    · obtain rfl := Option.some.inj (show some W.heap.size = some k from hk)
      exact .inr hwn
  · rcases hk with rfl | rfl
    · exact .inr h.newc
    · exact h2 k (.inl rfl)
  · rcases e with e | e
    · subst e; exact hpt 63 (by decide) (Tag.of h.ebox)
    · exact h3 (.inl e)
theorem build_call (v0 v1 v2 v3 v4 v5 v6 : Value) (w : World) : (Instr.buildSlice 31 1 #[(0, .agg #[v0, v1, v2, v3, v4, v5, v6])]).run Tryz.prog w = .ok (.slice (some ⟨w.heap.size, 0, none⟩) 1 1) (w.alloc (.cells #[v0, v1, v2, v3, v4, v5, v6] 39)) := by
  kernel_rfl
theorem wpList_build_call {ops : Array Oper} {rest : List Oper} {o : Oper} {a : Act} {Q : Exit → Act → World → Prop} {w : World} (hgd : o.guard = none) (x : Operand) (ho : o.op = .buildSlice 31 1 #[(0, x)]) (v0 v1 v2 v3 v4 v5 v6 : Value) (hx : a.eval x = .agg #[v0, v1, v2, v3, v4, v5, v6])
    (h : wpList Tryz.prog ops Q rest (a.put o.dst (.slice (some ⟨w.heap.size, 0, none⟩) 1 1)) (w.alloc (.cells #[v0, v1, v2, v3, v4, v5, v6] 39))) : wpList Tryz.prog ops Q (o :: rest) a w := by
  refine wpList_plain hgd fun K hK => ?_
  unfold Oper.wp execOp
  simp only [ho, Sem.run_bind, Sem.run_pure, List.map_toArray, List.map_cons, List.map_nil, hx, build_call, Result.andThen_ok]
  exact hK _ _ h
theorem step_build_call {ops : Array Oper} {o : Oper} {a : Act} {K : Act → World → Prop} {Q : Exit → Act → World → Prop} {E : Prop} {w : World} (hgd : o.guard = none) (x : Operand) (ho : o.op = .buildSlice 31 1 #[(0, x)]) (v0 v1 v2 v3 v4 v5 v6 : Value) (hx : a.eval x = .agg #[v0, v1, v2, v3, v4, v5, v6])
    (h : K (a.put o.dst (.slice (some ⟨w.heap.size, 0, none⟩) 1 1)) (w.alloc (.cells #[v0, v1, v2, v3, v4, v5, v6] 39))) : if Region.wanted o (yielded ops a.tmps) = true then Oper.wp Tryz.prog o a w K Q else E := by
  have hw : Region.wanted o (yielded ops a.tmps) = true := by simp [Region.wanted, hgd]
  rw [if_pos hw]
  unfold Oper.wp execOp
  simp only [ho, Sem.run_bind, Sem.run_pure, List.map_toArray, List.map_cons, List.map_nil, hx, build_call, Result.andThen_ok]
  exact h
theorem step_build_callC {ops : Array Oper} {o : Oper} {a : Act} {K : Act → World → Prop} {Q : Exit → Act → World → Prop} {E : Prop} {w : World} (hgd : o.guard = none) (x : Operand) (ho : o.op = .buildSlice 31 1 #[(0, x)]) (c : Cmd) (hx : a.eval x = .agg (callCells c).toArray)
    (h : K (a.put o.dst (.slice (some ⟨w.heap.size, 0, none⟩) 1 1)) (w.alloc (.cells (callCells c).toArray 39))) : if Region.wanted o (yielded ops a.tmps) = true then Oper.wp Tryz.prog o a w K Q else E :=
  step_build_call hgd x ho _ _ _ _ _ _ _ hx h
theorem GetsR.done {c : Cmd} {kv : Value} {ev : Ev} {pe pc : Nat} {W : World} {cv' : Value} {y : List UInt8} (h : GetsR n₀ w r S bv wv tk L mm c kv ev pe pc W cv' c.keys.length y) : OnK n₀ w r S { mm with calls := c.keys.map (fun k => { c with key := k }) } kv ev pe W := by
  have ha := h.at'
  rw [List.take_length] at ha
  refine ⟨⟨RS r bv wv cv', ha.is, h.chg, fun k hk => ?_⟩, h.ebox⟩
  rcases hk with hk | hk | hk | hk
  · exact h.old k (.inl hk)
  · exact h.old k (.inr (.inl hk))
  · exact h.old k (.inr (.inr hk))
  · exact h.fresh k hk
end
set_option maxRecDepth 100000 in
set_option maxHeartbeats 16000000 in
theorem rOn_any {n₀ : Nat} {w : World} {r : Nat} {m : RM} {S : Nat → Prop} (h : RIs n₀ w r m S) (hn₀ : n₀ ≤ w.heap.size) (hok : ∀ e ∈ m.wait, EvC e) (hl : m.out.length + 200 * m.wait.length ≤ 1099511620000) (hwl : m.wait.length ≤ 4194304) :
    Calls Tryz.prog 38 #[.pointer (some ⟨r, 0, none⟩)] w fun e w' => (∃ v, e = .returned v) ∧ RStep n₀ w r S (onR m) w' := by
  obtain ⟨i0, hi0, hz0, hz1, hz2⟩ := info_parts infoREv
  obtain ⟨ic, hic, hc0, hc1, hc2⟩ := info_parts infoCall
  have Hi := Lib.hid hi0
  have Hz := Lib.hid (And.intro hz0 (And.intro hz1 hz2))
  have Ci := Lib.hid hic
  have Cz := Lib.hid (And.intro hc0 (And.intro hc1 hc2))
  have HST := Lib.hid (show OnI n₀ w r S m m w S from ⟨h, Chg.refl _ _, fun _ e => .inl e, rfl, hok, Nat.le_refl _⟩)
  clear h hok hi0 hz0 hz1 hz2 hic hc0 hc1 hc2
  go_enter Tryz.func38, Tryz.ntmps38
  go_wp2_with fail
  go_loopw [] (fun wr => ∃ (mr : RM) (Sr : Nat → Prop), OnI n₀ w r S m mr wr Sr ∧ mr.wait.length ≤ 4194304) (fun wr => rwaitW r wr)
  case atStart => exact ⟨m, S, HST.out, hwl⟩
  case round =>
    obtain ⟨mr, Sr, hj, hwl2⟩ := hrel
    clear HST
    have HMS := Lib.hid (rwaitW_is hj.is)
    have HJ := Lib.hid hj
    have hsm := hj.small
    obtain ⟨bv, wv, tk, cv, L, hat, hS⟩ := hj.is
    have hrl := hat.plt
    have hwlen : L.length = mr.wait.length := by rw [← hat.evs, List.length_map]
    obtain ⟨wa, wc, rfl⟩ := hat.wait.len
    obtain ⟨ca, cc, rfl⟩ := hat.calls.len
    have c2 : wr.cell? ⟨r, 2, none⟩ = some (.slice wa L.length wc) := (hat.cell (j := 2) rfl).1
    have c16 : wr.cell? ⟨r, 16, none⟩ = some (.slice ca mr.calls.length cc) := (hat.cell (j := 16) rfl).1
    have f2 : wr.frozen? ⟨r, 2, none⟩ = false := (hat.cell (j := 2) rfl).2
    have hend : (mr.calls ≠ [] ∨ mr.wait = []) → RStep n₀ w r S (onR m) wr := fun he => by
      rw [← HJ.out.on, on_stay he]
      exact ⟨_, HJ.out.is, HJ.out.chg, HJ.out.fresh⟩
    have HEND := Lib.hid hend
    by_cases hc0 : mr.calls = []
    · cases hL : L with
      | nil =>
        have hw0 : mr.wait = [] := List.eq_nil_of_length_eq_zero (by rw [← hwlen, hL]; rfl)
        rw [hL] at c2
        rw [hc0] at c16
        have HE := Lib.hid (HEND.out (.inr hw0))
        clear HEND hend hj hsm hat hS hwlen hL hw0 hc0 HMS HJ
        go_wp2_with fail
        exact bodyPost_end (results_none (by exact Tryz.results38) _ _ _) rfl ⟨⟨_, rfl⟩, HE.out⟩
      | cons x L' =>
        obtain ⟨ke, ev⟩ := x
        have hwe : mr.wait = ev :: L'.map (·.2) := by rw [← hat.evs, hL]; rfl
        have hkv : KeysAt wr ke ev.cmd.keys := hat.keys (ke, ev) (by rw [hL]; exact List.mem_cons_self ..)
        obtain ⟨ka, kc, rfl⟩ := hkv.len
        have hok1 := HJ.out.wok ev (by rw [hwe]; exact List.mem_cons_self ..)
        obtain ⟨g, o, cap, o2, hwv, hcap, hsl, hmid, hcell⟩ := hat.tailWait hL
        obtain ⟨hwa, hlen, hwc⟩ := slice_inj hwv
        obtain rfl : cap = wc := hwc.symm
        subst hwa
        rw [hlen] at c2
        have y0 := hcell 0 _ rfl
        have y1 := hcell 1 _ rfl
        have y2 := hcell 2 _ rfl
        have y3 := hcell 3 _ rfl
        have y4 := hcell 4 _ rfl
        have y5 := hcell 5 _ rfl
        have y6 := hcell 6 _ rfl
        have y7 := hcell 7 _ rfl
        have y8 := hcell 8 _ rfl
        have y9 := hcell 9 _ rfl
        have y10 := hcell 10 _ rfl
        have y11 := hcell 11 _ rfl
        have y12 := hcell 12 _ rfl
        rw [Nat.add_zero] at y0
        have hgl : g < wr.heap.size := cell_lt y0
        have ix := fun W => idx_rev0 (a := some ⟨g, o, none⟩) (n := L'.length + 1) (c := cap) rfl (by omega) W
        have hL1 : L'.length ≤ 4194304 := by have h1 := congrArg List.length hwe; rw [List.length_cons, List.length_map] at h1; omega
        have hpos : (0 : Int) < ((L'.length + 1 : Nat) : Int) := by omega
        rw [hc0] at c16
        have hsrc : ∀ o1 : Obj, Src Tryz.prog 13 60 (.slice (some ⟨g, o2, none⟩) L'.length (cap - 1)) L'.length (rEvsCells L') (wr.alloc o1) := fun o1 => src_row Tryz.underlying60 (hmid.row.below ((Below.refl _ _).alloc (Nat.le_refl _) o1)) (revsC_one (fun x hx => hat.keys x (by rw [hL]; exact List.mem_cons_of_mem _ hx)))
        have hnext := fun (w9 : World) (v9 : Value) (hm9 : MidRow w9 n₀ 63 13 v9 L'.length (rEvsCells L')) (hg9 : (wr.alloc (.cells (rEvCells (.slice ka ev.cmd.keys.length kc) ev).toArray 63)).grownBy w9 none) (ha9 : v9.ownBlock = none ∨ v9.ownBlock = some (wr.heap.size + 1)) => onJ_of hat hS hL hkv hm9 hg9 ha9
        have HSRC := Lib.hid hsrc
        have HNX := Lib.hid hnext
        have HWE := Lib.hid hwe
        have HOK1 := Lib.hid hok1
        have HC0 := Lib.hid hc0
        have hol : mr.out.length ≤ 1099511620000 := by omega
        have hnw : n₀ ≤ wr.heap.size := Nat.le_trans hn₀ hj.chg.size
        have HSM := Lib.hid hsm
        clear HEND hend hj hsm hat hS hwlen hL hc0 hwe hkv hok1 hcell hsrc hnext hmid hwv hlen
        go_upto_region 3 with (first
          | (at_builtin; refine wpList_append_mid (by rfl) _ _ 60 60 (by rfl) n₀ 63 i0 (.agg rEvZero) 13 144 Tryz.underlying60 Hi.out Hz.out.1 Hz.out.2.1 Hz.out.2.2 rfl (.slice none 0 0) 0 [] (by rfl) (MidRow.nil _ _ _ _) (.slice (some ⟨g, o2, none⟩) L'.length (cap - 1)) L'.length (rEvsCells L') (by rfl) (HSRC.out _) (by unfold maxLen; omega) (by omega) (by simp; omega) ?_
             intro v9 w9 hm9 hg9 hat9
             simp only [Nat.zero_add, List.nil_append] at hm9
             obtain ⟨a9, c9, rfl⟩ := hm9.len
             have hnx := HNX.out w9 _ hm9 hg9 (by simpa [Value.ownBlock] using hat9)
             have q1 := hnx.1.1
             have q2 := hnx.1.2
             have hpp := hnx.2.1
             have e2 := hnx.2.2.1
             have e3 := hnx.2.2.2.1
             have e4 := hnx.2.2.2.2.1
             have e5 := hnx.2.2.2.2.2.1
             have e6 := hnx.2.2.2.2.2.2.1
             have e7 := hnx.2.2.2.2.2.2.2.1
             have e8 := hnx.2.2.2.2.2.2.2.2.1
             have HNJ := Lib.hid hnx.2.2.2.2.2.2.2.2.2
             clear hnx hm9 hg9 hat9)
          | fail)
        go_cut [3] (fun s3 wx => ∃ pc : Nat, s3 = .pointer (some ⟨pc, 0, none⟩) ∧ OnJ n₀ wr r Sr { mr with wait := L'.map (·.2) } (.slice ka ev.cmd.keys.length kc) ev wr.heap.size pc wx)
        case first =>
          go_wp2_with fail
          go_meet
          case rel => exact ⟨_, rfl, HNJ.out⟩
        case rest =>
          obtain ⟨pc, rfl, hoj⟩ := hcut
          obtain ⟨WO, hWO⟩ : ∃ WO, WO = wr := ⟨_, rfl⟩
          obtain ⟨pe, hpe⟩ : ∃ pe, pe = wr.heap.size := ⟨_, rfl⟩
          rw [← hpe] at hoj ⊢
          have OJ := Lib.hid hoj
          have HPE := Lib.hid hpe
          clear hpe c2 c16 f2 y0 y1 y2 y3 y4 y5 y6 y7 y8 y9 y10 y11 y12 ix hsl hgl HSRC HNX q1 q2 e2 e3 e4 e5 e6 e7 e8 HNJ hWO WO hpos hcap
          go_upto_block 2 with fail
          go_cut [45, 60, 74, 85, 4] (fun _ _ _ _ _ wx => OnK n₀ wr r Sr (midR mr ev (L'.map (·.2))) (.slice ka ev.cmd.keys.length kc) ev pe wx)
          case first =>
            have HSELF := Lib.hid HJ.out.is.self
            clear HJ HMS hoj
            by_cases h0 : ev.told = 0
            · by_cases h12 : ev.cmd.verb = 12
              · skip
                as_aux_lemma =>
                  have hne : ((ev.told : Int) != 0) = false := by rw [bne_eq_false_iff_eq]; omega
                  have hne1 : ((ev.cmd.verb : Int) == 12) = true := by rw [beq_iff_eq]; omega
                  obtain ⟨X, hX⟩ : ∃ X, X = versionL := ⟨_, rfl⟩
                  have hXl : X.length ≤ 200 := by rw [hX]; exact version_len
                  have HQE := Lib.hid (show quietE ev mr.out = mr.out ++ X from by rw [hX]; unfold quietE; rw [if_neg (by omega), if_pos h12])
                  have HOF := Lib.hid (fun W => refVersion_any W)
                  rw [← hX] at HOF
                  obtain ⟨T, hT⟩ : ∃ T, T = mr.out ++ X := ⟨_, rfl⟩
                  have hcat : (⟨mr.out.toArray⟩ : ByteArray) ++ ⟨X.toArray⟩ = ⟨T.toArray⟩ := by rw [hT]; exact ByteArray.ext (by simp)
                  have hcl : ¬ 9223372036854775807 < mr.out.length + X.length := by omega
                  have hmid : midR mr ev (L'.map (·.2)) = { mr with wait := L'.map (·.2), out := T } := by
                    have hq : ¬ quitE ev := fun h => by have := h.2; omega
                    unfold midR
                    rw [if_neg hq, HQE.out, ← hT, callsE_skip (.inr (.inl h12)), ← HC0.out]
                  have HDN := Lib.hid (show OnK n₀ wr r Sr (midR mr ev (L'.map (·.2))) (.slice ka ev.cmd.keys.length kc) ev pe _ from by rw [hmid]; exact OJ.out.told T)
                  obtain ⟨S2, ⟨bv2, wv2, tk2, cv2, L2, hat2, -⟩, -, -, -⟩ := OJ.out.is
                  have x18 : wc.cell? ⟨r, 18, none⟩ = some (sv mr.out) := (hat2.cell (j := 18) rfl).1
                  have z18 : wc.frozen? ⟨r, 18, none⟩ = false := (hat2.cell (j := 18) rfl).2
                  have HEB := Lib.hid OJ.out.ebox
                  have e0 : wc.cell? ⟨pe, 0, none⟩ = some (.int .u8 (ev.cmd.verb : Int)) := (block_cell OJ.out.ebox 0).1
                  have e1 : wc.cell? ⟨pe, 1, none⟩ = some (.slice ka ev.cmd.keys.length kc) := (block_cell OJ.out.ebox 1).1
                  have e2 : wc.cell? ⟨pe, 2, none⟩ = some (.int .u8 (ev.cmd.cverb : Int)) := (block_cell OJ.out.ebox 2).1
                  have e3 : wc.cell? ⟨pe, 3, none⟩ = some (sv ev.cmd.key) := (block_cell OJ.out.ebox 3).1
                  have e4 : wc.cell? ⟨pe, 4, none⟩ = some (sv ev.cmd.value) := (block_cell OJ.out.ebox 4).1
                  have e5 : wc.cell? ⟨pe, 5, none⟩ = some (.int .u32 (ev.cmd.flags : Int)) := (block_cell OJ.out.ebox 5).1
                  have e6 : wc.cell? ⟨pe, 6, none⟩ = some (.int .i64 ev.cmd.exp) := (block_cell OJ.out.ebox 6).1
                  have e7 : wc.cell? ⟨pe, 7, none⟩ = some (.int .u64 (ev.cmd.id : Int)) := (block_cell OJ.out.ebox 7).1
                  have e8 : wc.cell? ⟨pe, 8, none⟩ = some (.int .u64 (ev.cmd.by' : Int)) := (block_cell OJ.out.ebox 8).1
                  have e9 : wc.cell? ⟨pe, 9, none⟩ = some (.int .i64 ev.cmd.bytes) := (block_cell OJ.out.ebox 9).1
                  have e10 : wc.cell? ⟨pe, 10, none⟩ = some (.bool ev.cmd.quiet) := (block_cell OJ.out.ebox 10).1
                  have e11 : wc.cell? ⟨pe, 11, none⟩ = some (sv ev.data) := (block_cell OJ.out.ebox 11).1
                  have e12 : wc.cell? ⟨pe, 12, none⟩ = some (.int .i64 (ev.told : Int)) := (block_cell OJ.out.ebox 12).1
                  clear hX hT h0 h12 hmid hat2
                  go_wp2_with fail
                  go_region_law (first
                    | (refine step_call (by rfl) 53 #[] (by go_simp) (HOF.out _) ?_; rintro e1 V1 ⟨rfl, rfl⟩; refine ⟨_, rfl, ?_⟩)
                    | fail)
                  all_goals go_wp2_with fail
                  all_goals go_meet
                  all_goals first | (case rel => exact HDN.out) | skip
              · by_cases h13 : ev.cmd.verb = 13
                · skip
                  as_aux_lemma =>
                    have hne : ((ev.told : Int) != 0) = false := by rw [bne_eq_false_iff_eq]; omega
                    have hne1 : ((ev.cmd.verb : Int) == 12) = false := by rw [beq_eq_false_iff_ne]; omega
                    have hne2 : ((ev.cmd.verb : Int) == 13) = true := by rw [beq_iff_eq]; omega
                    have hmid : midR mr ev (L'.map (·.2)) = { mr with wait := [], closed := true } := by unfold midR; rw [if_pos ⟨h0, h13⟩]
                    have HDN := Lib.hid (show OnK n₀ wr r Sr (midR mr ev (L'.map (·.2))) (.slice ka ev.cmd.keys.length kc) ev pe _ from by rw [hmid]; exact OJ.out.quit)
                    obtain ⟨S2, ⟨bv2, wv2, tk2, cv2, L2, hat2, -⟩, -, -, -⟩ := OJ.out.is
                    have x19 : wc.cell? ⟨r, 19, none⟩ = some (.bool mr.closed) := (hat2.cell (j := 19) rfl).1
                    have z19 : wc.frozen? ⟨r, 19, none⟩ = false := (hat2.cell (j := 19) rfl).2
                    have x2 : wc.cell? ⟨r, 2, none⟩ = some wv2 := (hat2.cell (j := 2) rfl).1
                    have z2 : wc.frozen? ⟨r, 2, none⟩ = false := (hat2.cell (j := 2) rfl).2
                    have HEB := Lib.hid OJ.out.ebox
                    have e0 : wc.cell? ⟨pe, 0, none⟩ = some (.int .u8 (ev.cmd.verb : Int)) := (block_cell OJ.out.ebox 0).1
                    have e1 : wc.cell? ⟨pe, 1, none⟩ = some (.slice ka ev.cmd.keys.length kc) := (block_cell OJ.out.ebox 1).1
                    have e2 : wc.cell? ⟨pe, 2, none⟩ = some (.int .u8 (ev.cmd.cverb : Int)) := (block_cell OJ.out.ebox 2).1
                    have e3 : wc.cell? ⟨pe, 3, none⟩ = some (sv ev.cmd.key) := (block_cell OJ.out.ebox 3).1
                    have e4 : wc.cell? ⟨pe, 4, none⟩ = some (sv ev.cmd.value) := (block_cell OJ.out.ebox 4).1
                    have e5 : wc.cell? ⟨pe, 5, none⟩ = some (.int .u32 (ev.cmd.flags : Int)) := (block_cell OJ.out.ebox 5).1
                    have e6 : wc.cell? ⟨pe, 6, none⟩ = some (.int .i64 ev.cmd.exp) := (block_cell OJ.out.ebox 6).1
                    have e7 : wc.cell? ⟨pe, 7, none⟩ = some (.int .u64 (ev.cmd.id : Int)) := (block_cell OJ.out.ebox 7).1
                    have e8 : wc.cell? ⟨pe, 8, none⟩ = some (.int .u64 (ev.cmd.by' : Int)) := (block_cell OJ.out.ebox 8).1
                    have e9 : wc.cell? ⟨pe, 9, none⟩ = some (.int .i64 ev.cmd.bytes) := (block_cell OJ.out.ebox 9).1
                    have e10 : wc.cell? ⟨pe, 10, none⟩ = some (.bool ev.cmd.quiet) := (block_cell OJ.out.ebox 10).1
                    have e11 : wc.cell? ⟨pe, 11, none⟩ = some (sv ev.data) := (block_cell OJ.out.ebox 11).1
                    have e12 : wc.cell? ⟨pe, 12, none⟩ = some (.int .i64 (ev.told : Int)) := (block_cell OJ.out.ebox 12).1
                    clear h0 h12 h13 hmid hat2
                    go_wp2_with fail
                    go_meet
                    case rel => exact HDN.out
                · by_cases hg : ev.cmd.verb = 1 ∨ ev.cmd.verb = 2
                  · skip
                    as_aux_lemma =>
                      have hne : ((ev.told : Int) != 0) = false := by rw [bne_eq_false_iff_eq]; omega
                      have hne1 : ((ev.cmd.verb : Int) == 12) = false := by rw [beq_eq_false_iff_ne]; omega
                      have hne2 : ((ev.cmd.verb : Int) == 13) = false := by rw [beq_eq_false_iff_ne]; omega
                      have hce := callsE_gets h0 hg
                      have hkl : ev.cmd.keys.length ≤ 2048 := par_keys (HOK1.out.ok.par h0)
                      have hmid : midR mr ev (L'.map (·.2)) = { mr with wait := L'.map (·.2), calls := ev.cmd.keys.map (fun k => { ev.cmd with key := k }) } := by
                        have hq : ¬ quitE ev := fun h => h13 h.2
                        have hqe : quietE ev mr.out = mr.out := by unfold quietE; rw [if_neg (by omega), if_neg h12]
                        unfold midR
                        rw [if_neg hq, hqe, hce]
                      have hgb : getsB ev = true := by unfold getsB; rcases hg with h | h <;> simp [h]
                      have HGE := Lib.hid (fun W => rGets_any ka ev.cmd.keys.length kc ev W)
                      rw [hgb] at HGE
                      have HMID := Lib.hid hmid
                      have HEB := Lib.hid OJ.out.ebox
                      have e0 : wc.cell? ⟨pe, 0, none⟩ = some (.int .u8 (ev.cmd.verb : Int)) := (block_cell OJ.out.ebox 0).1
                      have e1 : wc.cell? ⟨pe, 1, none⟩ = some (.slice ka ev.cmd.keys.length kc) := (block_cell OJ.out.ebox 1).1
                      have e2 : wc.cell? ⟨pe, 2, none⟩ = some (.int .u8 (ev.cmd.cverb : Int)) := (block_cell OJ.out.ebox 2).1
                      have e3 : wc.cell? ⟨pe, 3, none⟩ = some (sv ev.cmd.key) := (block_cell OJ.out.ebox 3).1
                      have e4 : wc.cell? ⟨pe, 4, none⟩ = some (sv ev.cmd.value) := (block_cell OJ.out.ebox 4).1
                      have e5 : wc.cell? ⟨pe, 5, none⟩ = some (.int .u32 (ev.cmd.flags : Int)) := (block_cell OJ.out.ebox 5).1
                      have e6 : wc.cell? ⟨pe, 6, none⟩ = some (.int .i64 ev.cmd.exp) := (block_cell OJ.out.ebox 6).1
                      have e7 : wc.cell? ⟨pe, 7, none⟩ = some (.int .u64 (ev.cmd.id : Int)) := (block_cell OJ.out.ebox 7).1
                      have e8 : wc.cell? ⟨pe, 8, none⟩ = some (.int .u64 (ev.cmd.by' : Int)) := (block_cell OJ.out.ebox 8).1
                      have e9 : wc.cell? ⟨pe, 9, none⟩ = some (.int .i64 ev.cmd.bytes) := (block_cell OJ.out.ebox 9).1
                      have e10 : wc.cell? ⟨pe, 10, none⟩ = some (.bool ev.cmd.quiet) := (block_cell OJ.out.ebox 10).1
                      have e11 : wc.cell? ⟨pe, 11, none⟩ = some (sv ev.data) := (block_cell OJ.out.ebox 11).1
                      have e12 : wc.cell? ⟨pe, 12, none⟩ = some (.int .i64 (ev.told : Int)) := (block_cell OJ.out.ebox 12).1
                      clear h0 h12 h13 hg hgb hce hmid hwc
                      go_wp2_with fail
                      refine (HGE.out _).mono ?_
                      rintro e1 V1 ⟨rfl, hb1⟩
                      have OJ2 := OJ.out.below hb1
                      obtain ⟨S2, ⟨bv2, wv2, tk2, cv2, L2, hat2, hS2⟩, hfr2, hpe2, hpc2⟩ := OJ2.is
                      have hmm : ({ mr with wait := L'.map (·.2), calls := [] } : RM) = { mr with wait := L'.map (·.2) } := by rw [← HC0.out]
                      have hst : GetsR n₀ wr r Sr bv2 wv2 tk2 L2 { mr with wait := L'.map (·.2) } ev.cmd (.slice ka ev.cmd.keys.length kc) ev pe pc V1 cv2 0 ev.cmd.key := by
                        have hat3 : RAt n₀ V1 r bv2 wv2 tk2 cv2 L2 { mr with wait := L'.map (·.2), calls := [] } := by rw [hmm]; exact hat2
                        refine ⟨hat3, OJ2.cbox, OJ2.ebox, OJ2.newc, fun e => hpe2 (by rw [hS2]; exact .inr (.inr (.inl e))), fun e => hpc2 (by rw [hS2]; exact .inr (.inr (.inr e))), OJ2.keys, OJ2.chg, HSELF.out, fun k hk => hfr2 k (by rw [hS2]; exact hk.elim (fun h => .inl h) (fun h => h.elim (fun h => .inr (.inl h)) (fun h => .inr (.inr (.inl h))))), fun g hg => hfr2 g (by rw [hS2]; exact .inr (.inr (.inr hg)))⟩
                      have HST := Lib.hid hst
                      have k0 : V1.cell? ⟨pe, 0, none⟩ = some (.int .u8 (ev.cmd.verb : Int)) := (block_cell OJ2.ebox 0).1
                      have k1 : V1.cell? ⟨pe, 1, none⟩ = some (.slice ka ev.cmd.keys.length kc) := (block_cell OJ2.ebox 1).1
                      have k2 : V1.cell? ⟨pe, 2, none⟩ = some (.int .u8 (ev.cmd.cverb : Int)) := (block_cell OJ2.ebox 2).1
                      have k3 : V1.cell? ⟨pe, 3, none⟩ = some (sv ev.cmd.key) := (block_cell OJ2.ebox 3).1
                      have k4 : V1.cell? ⟨pe, 4, none⟩ = some (sv ev.cmd.value) := (block_cell OJ2.ebox 4).1
                      have k5 : V1.cell? ⟨pe, 5, none⟩ = some (.int .u32 (ev.cmd.flags : Int)) := (block_cell OJ2.ebox 5).1
                      have k6 : V1.cell? ⟨pe, 6, none⟩ = some (.int .i64 ev.cmd.exp) := (block_cell OJ2.ebox 6).1
                      have k7 : V1.cell? ⟨pe, 7, none⟩ = some (.int .u64 (ev.cmd.id : Int)) := (block_cell OJ2.ebox 7).1
                      have k8 : V1.cell? ⟨pe, 8, none⟩ = some (.int .u64 (ev.cmd.by' : Int)) := (block_cell OJ2.ebox 8).1
                      have k9 : V1.cell? ⟨pe, 9, none⟩ = some (.int .i64 ev.cmd.bytes) := (block_cell OJ2.ebox 9).1
                      have k10 : V1.cell? ⟨pe, 10, none⟩ = some (.bool ev.cmd.quiet) := (block_cell OJ2.ebox 10).1
                      have k11 : V1.cell? ⟨pe, 11, none⟩ = some (sv ev.data) := (block_cell OJ2.ebox 11).1
                      have k12 : V1.cell? ⟨pe, 12, none⟩ = some (.int .i64 (ev.told : Int)) := (block_cell OJ2.ebox 12).1
                      have hlow : n₀ ≤ V1.heap.size := Nat.le_trans hnw OJ2.chg.size
                      clear hb1 e0 e1 e2 e3 e4 e5 e6 e7 e8 e9 e10 e11 e12 HEB OJ OJ2 hat2 hS2 hfr2 hpe2 hpc2 hmm hst HGE
                      obtain ⟨WO, rfl⟩ : ∃ WO, WO = wr := ⟨_, rfl⟩
                      go_wp2_with fail
                      go_loopw [4] (fun s4 wr => ∃ (j : Nat) (cv' : Value) (y : List UInt8), s4 = .int .i64 (j : Int) ∧ j ≤ ev.cmd.keys.length ∧ GetsR n₀ WO r Sr bv2 wv2 tk2 L2 { mr with wait := L'.map (·.2) } ev.cmd (.slice ka ev.cmd.keys.length kc) ev pe pc wr cv' j y) (fun s4 _ => ev.cmd.keys.length - (intOf s4).toNat)
                      case atStart => exact ⟨0, _, _, rfl, Nat.zero_le _, HST.out⟩
                      case round =>
                        obtain ⟨j, cv', y, rfl, hjl, hj⟩ := hrel
                        clear HST k0 k1 k2 k3 k4 k5 k6 k7 k8 k9 k10 k11 k12
                        have HJ := Lib.hid hj
                        have y1 : wr.cell? ⟨pe, 1, none⟩ = some (.slice ka ev.cmd.keys.length kc) := (block_cell hj.ebox 1).1
                        by_cases hlt2 : j < ev.cmd.keys.length
                        · obtain ⟨x, hx⟩ : ∃ x, ev.cmd.keys[j]? = some x := ⟨_, List.getElem?_eq_getElem hlt2⟩
                          obtain ⟨g2, o3, c3, hs3, -, hc3, -⟩ := hj.keys.at (k := j) (x := sv x) (by rw [List.getElem?_map, hx]; rfl)
                          obtain ⟨rfl, -, -⟩ := slice_inj hs3
                          have ix2 := fun W => idx_str' (a := some ⟨g2, o3, none⟩) (c := kc) rfl hlt2 W
                          have hj1 := hj.set x
                          have zf : wr.frozen? ⟨pc, 1, none⟩ = false := (block_cell hj.cbox 1).2
                          have z0 : wr.cell? ⟨pc, 0, none⟩ = some (.int .u8 (ev.cmd.cverb : Int)) := (block_cell hj.cbox 0).1
                          have z1 : wr.cell? ⟨pc, 1, none⟩ = some (sv y) := (block_cell hj.cbox 1).1
                          have z2 : wr.cell? ⟨pc, 2, none⟩ = some (sv ev.cmd.value) := (block_cell hj.cbox 2).1
                          have z3 : wr.cell? ⟨pc, 3, none⟩ = some (.int .u32 (ev.cmd.flags : Int)) := (block_cell hj.cbox 3).1
                          have z4 : wr.cell? ⟨pc, 4, none⟩ = some (.int .i64 ev.cmd.exp) := (block_cell hj.cbox 4).1
                          have z5 : wr.cell? ⟨pc, 5, none⟩ = some (.int .u64 (ev.cmd.id : Int)) := (block_cell hj.cbox 5).1
                          have z6 : wr.cell? ⟨pc, 6, none⟩ = some (.int .u64 (ev.cmd.by' : Int)) := (block_cell hj.cbox 6).1
                          have zc : wr.cell? ⟨r, 16, none⟩ = some cv' := (hj.at'.cell (j := 16) rfl).1
                          have hrpc : r ≠ pc := fun e' => absurd (hj.at'.rtag.one (by rw [e']; exact Tag.of hj.cbox)) (by decide)
                          have hmj : ((ev.cmd.keys.take j).map (fun k => ({ ev.cmd with key := k } : Cmd))).length = j := by rw [List.length_map, List.length_take]; omega
                          have hmid : MidRow (wr.setCell ⟨pc, 1, none⟩ (sv x)) n₀ 39 7 cv' j (callsCells ((ev.cmd.keys.take j).map (fun k => { ev.cmd with key := k }))) := by
                            have := hj1.at'.calls
                            dsimp only at this
                            rwa [hmj] at this
                          obtain ⟨va2, vc2, rfl⟩ := hmid.len
                          have hw1 : n₀ ≤ wr.heap.size := Nat.le_trans hnw hj.chg.size
                          have hp1 : r < wr.heap.size := hj.at'.plt
                          have hmid2 : MidRow ((wr.setCell ⟨pc, 1, none⟩ (sv x)).drew.alloc (.cells (callCells { ev.cmd with key := x }).toArray 39)) n₀ 39 7 (.slice va2 j vc2) j (callsCells ((ev.cmd.keys.take j).map (fun k => { ev.cmd with key := k }))) := hmid.kept (M := fun _ => False) ((Chg.refl _ _).drew.alloc _) (fun _ _ e => e)
                          have hsrc : Src Tryz.prog 7 31 (.slice (some ⟨wr.heap.size, 0, none⟩) 1 1) 1 (callCells { ev.cmd with key := x }) ((wr.setCell ⟨pc, 1, none⟩ (sv x)).drew.alloc (.cells (callCells { ev.cmd with key := x }).toArray 39)) :=
                            Src.ofSlice (P := Tryz.prog) _ Tryz.underlying31 _ 1 1 _ rfl (World.news_of_block (cs := (callCells { ev.cmd with key := x }).toArray) (by rw [heap_at, if_pos (by simp)])) (by simp [Value.oneCell'])
                          have hc16 : (wr.setCell ⟨pc, 1, none⟩ (sv x)).cell? ⟨r, 16, none⟩ = some (.slice va2 j vc2) := (hj1.at'.cell (j := 16) rfl).1
                          have hrg : (wr.setCell ⟨pc, 1, none⟩ (sv x)).rangeAt pc 0 (callCells { ev.cmd with key := x }) := fun k u hu => by rw [Nat.zero_add, (block_cell hj1.cbox k).1, List.getElem?_toArray]; exact hu
                          obtain ⟨wB, hwB⟩ : ∃ z, z = wr.setCell ⟨pc, 1, none⟩ (sv x) := ⟨_, rfl⟩
                          have hsB : wB.heap.size = wr.heap.size := by rw [hwB]; simp
                          rw [← hwB] at hmid2 hsrc hj1 hc16 hrg
                          rw [← hsB] at hsrc
                          have HM := Lib.hid hmid2
                          have HS := Lib.hid hsrc
                          have HJ1 := Lib.hid hj1
                          have HX := Lib.hid hx
                          have HC16 := Lib.hid (And.intro hc16 hrg)
                          have HAL := Lib.hid (show (wB.drew.alloc (.cells (callCells { ev.cmd with key := x }).toArray 39)).cell? ⟨r, 16, none⟩ = some (.slice va2 j vc2) ∧ (wB.drew.alloc (.cells (callCells { ev.cmd with key := x }).toArray 39)).rangeAt pc 0 (callCells { ev.cmd with key := x }) from ⟨(((Below.refl wB.heap.size wB).drew.alloc (Nat.le_refl _) _).cell (p := ⟨r, 16, none⟩) (cell_lt hc16)).trans hc16, fun k u hu => (((Below.refl wB.heap.size wB).drew.alloc (Nat.le_refl _) _).cell (p := ⟨pc, 0 + k, none⟩) (cell_lt (hrg k u hu))).trans (hrg k u hu)⟩)
                          have HSB := Lib.hid hsB
                          have HWB := Lib.hid hwB
                          clear hj hj1 hmid hmid2 hsrc hs3 hmj hx HJ hc16 hrg hwB hsB
                          rename ∀ (a : Act) (w : World), Code.wp _ _ _ a w → _ => hK1
                          rename ∀ (a : Act) (w : World), Met _ a w → _ => hK2
                          clear hK1 hK2
                          rename ∀ (a : Act) (w : World), _ → _ => hK3
                          clear hK3
                          go_upto_region 18 with fail
                          rw [← HWB.out]
                          clear z0 z1 z2 z3 z4 z5 z6 zf zc y1 ix2
                          refine wp_region_late 10 (fun W => W.cell? ⟨r, 16, none⟩ = some (.slice va2 j vc2) ∧ W.rangeAt pc 0 (callCells { ev.cmd with key := x })) (by kernel_rfl) (show (wB.drew.cell? ⟨r, 16, none⟩ = some (.slice va2 j vc2) ∧ wB.drew.rangeAt pc 0 (callCells { ev.cmd with key := x })) from HC16.out) (fun hHeld => ?_)
                          refine late_take (i := 0) (v := ?_) rfl (by kernel_rfl) (by kernel_rfl) (by kernel_rfl) (fun _ _ _ h => h) (by decide) (Or.inl ⟨by rfl, ?_⟩) (fun _ => hHeld) ?_
                          rotate_left 1
                          · ((intro w _; go_simp) <;> with_reducible rfl)
                          try simp only [Act.put, tzA, tzB, tzC, tzD, tzE]
                          refine late_take (i := 1) (v := ?_) rfl (by kernel_rfl) (by kernel_rfl) (by kernel_rfl) (fun _ _ _ h => h) (by decide) (Or.inl ⟨by rfl, ?_⟩) (fun _ => hHeld) ?_
                          rotate_left 1
                          · ((intro w _; go_simp) <;> with_reducible rfl)
                          try simp only [Act.put, tzA, tzB, tzC, tzD, tzE, tzF]
                          refine late_take (i := 2) (v := ?_) rfl (by kernel_rfl) (by kernel_rfl) (by kernel_rfl) (fun _ _ _ h => h) (by decide) (Or.inl ⟨by rfl, ?_⟩) (fun _ => hHeld) ?_
                          rotate_left 1
                          · ((intro w _; go_simp) <;> with_reducible rfl)
                          try simp only [Act.put, tzA, tzB, tzC, tzD, tzE, tzF]
                          refine late_take (i := 3) (v := ?_) rfl (by kernel_rfl) (by kernel_rfl) (by kernel_rfl) (fun _ _ _ h => h) (by decide) (Or.inl ⟨by rfl, ?_⟩) (fun _ => hHeld) ?_
                          rotate_left 1
                          · ((intro w _; go_simp) <;> with_reducible rfl)
                          try simp only [Act.put, tzA, tzB, tzC, tzD, tzE, tzF]
                          refine late_read (i := 4) (v := ?_) rfl (by kernel_rfl) (by kernel_rfl) (by kernel_rfl) (fun _ _ _ h => h) (by decide) rfl (by kernel_rfl) (Or.inl ⟨by rfl, ?_⟩) hHeld (by kernel_rfl) ?_
                          rotate_left 1
                          · ((intro w hSw; (try dsimp only at hSw); have c0 := hSw.1; go_simp) <;> with_reducible rfl)
                          try simp only [Act.put, tzA, tzB, tzC, tzD, tzE, tzF]
                          refine late_read (i := 5) (v := .agg (callCells { ev.cmd with key := x }).toArray) rfl (by kernel_rfl) (by kernel_rfl) (by kernel_rfl) (fun _ _ _ h => h) (by decide) rfl (by kernel_rfl) (yieldsIf_load_mid (by rfl) 39 (.tmp 3) rfl pc 0 (by rfl) (callCells { ev.cmd with key := x }) _ (fun W hSw => hSw.2) Tryz.underlying39 rfl (by kernel_rfl)) hHeld (by kernel_rfl) ?_
                          try simp only [Act.put, tzA, tzB, tzC, tzD, tzE, tzF]
                          refine late_one (i := 6) (by kernel_rfl) rfl (fun K hK => ?_)
                          refine step_build_callC (by rfl) (.tmp 108) (by rfl) { ev.cmd with key := x } (by rfl) ?_
                          refine hK.out _ _ (fun _ _ => HAL.out) ?_
                          clear hK K
                          try simp only [Act.put, tzA, tzB, tzC, tzD, tzE, tzF]
                          refine late_one (i := 7) (by kernel_rfl) rfl (fun K hK => ?_)
                          refine step_append_mid (by rfl) _ _ 31 31 (by rfl) n₀ 39 ic (.agg callZero) 7 72 Tryz.underlying31 Ci.out Cz.out.1 Cz.out.2.1 Cz.out.2.2 rfl (.slice va2 j vc2) j _ (by rfl) HM.out (.slice (some ⟨wB.heap.size, 0, none⟩) 1 1) 1 _ (by rfl) HS.out (by unfold maxLen; omega) (by omega) (by have := HSB.out; simp; omega) ?_
                          intro a9 c9 w9 hm9 hg9 hat9
                          have hrg9 : w9.rangeAt pc 0 (callCells { ev.cmd with key := x }) := fun k u hu => (Chg.of_grown hg9 (fun _ _ e => e) : Chg (fun k => (Value.slice va2 j vc2).ownBlock = some k) _ w9).cell (HAL.out.2 k u hu) HJ1.out.apart
                          have HPU := Lib.hid (HJ1.out.push HX.out hm9 hg9 (by simpa using hat9))
                          have q1 := HPU.out.1.1
                          have q2 := HPU.out.1.2
                          clear hm9 hg9 hat9
                          refine hK.out _ _ (fun _ _ => ⟨q1, hrg9⟩) ?_
                          clear hK K
                          try simp only [Act.put, tzA, tzB, tzC, tzD, tzE, tzF]
                          refine late_take (i := 8) (v := ?_) rfl (by kernel_rfl) (by kernel_rfl) (by kernel_rfl) (fun _ _ _ h => h) (by decide) (Or.inl ⟨by rfl, ?_⟩) (fun _ => ⟨q1, hrg9⟩) ?_
                          rotate_left 1
                          · ((intro w _; go_simp) <;> with_reducible rfl)
                          try simp only [Act.put, tzA, tzB, tzC, tzD, tzE, tzF]
                          refine late_take (i := 9) (v := ?_) rfl (by kernel_rfl) (by kernel_rfl) (by kernel_rfl) (fun _ _ _ h => h) (by decide) (Or.inl ⟨by rfl, ?_⟩) (fun _ => ⟨q1, hrg9⟩) ?_
                          rotate_left 1
                          · ((intro w _; go_simp) <;> with_reducible rfl)
                          try simp only [Act.put, tzA, tzB, tzC, tzD, tzE, tzF]
                          refine late_one (i := 10) (by kernel_rfl) rfl (fun K hK => ?_)
                          go_simp
                          refine hK.out _ _ (fun _ h => absurd rfl h) ?_
                          clear hK K
                          try simp only [Act.put, tzA, tzB, tzC, tzD, tzE, tzF]
                          refine late_done (by kernel_rfl) ?_
                          clear hHeld
                          clear hrg9 q1 q2
                          go_wp2_with fail
                          refine ⟨⟨j + 1, _, x, by go_num, by omega, HPU.out.2⟩, ?_⟩
                          simp [intOf]
                          omega
                        · obtain rfl : j = ev.cmd.keys.length := by omega
                          have HDN := Lib.hid (show OnK n₀ WO r Sr (midR mr ev (L'.map (·.2))) (.slice ka ev.cmd.keys.length kc) ev pe _ from by rw [HMID.out]; exact hj.done)
                          clear hj HJ
                          go_wp2_with fail
                          go_meet
                          case rel => exact HDN.out
                  · skip
                    as_aux_lemma =>
                      have hne : ((ev.told : Int) != 0) = false := by rw [bne_eq_false_iff_eq]; omega
                      have hne1 : ((ev.cmd.verb : Int) == 12) = false := by rw [beq_eq_false_iff_ne]; omega
                      have hne2 : ((ev.cmd.verb : Int) == 13) = false := by rw [beq_eq_false_iff_ne]; omega
                      have hmid : midR mr ev (L'.map (·.2)) = { mr with wait := L'.map (·.2), calls := [{ ev.cmd with value := ev.data }] } := by
                        have hq : ¬ quitE ev := fun h => h13 h.2
                        have hqe : quietE ev mr.out = mr.out := by unfold quietE; rw [if_neg (by omega), if_neg h12]
                        unfold midR
                        rw [if_neg hq, hqe, callsE_one h0 (fun h => hg (.inl h)) (fun h => hg (.inr h)) h12 h13]
                      have hgb : getsB ev = false := by unfold getsB; rw [decide_eq_false (fun h => hg (.inl h)), decide_eq_false (fun h => hg (.inr h))]; rfl
                      have HGE := Lib.hid (fun W => rGets_any ka ev.cmd.keys.length kc ev W)
                      rw [hgb] at HGE
                      have HEB := Lib.hid OJ.out.ebox
                      have e0 : wc.cell? ⟨pe, 0, none⟩ = some (.int .u8 (ev.cmd.verb : Int)) := (block_cell OJ.out.ebox 0).1
                      have e1 : wc.cell? ⟨pe, 1, none⟩ = some (.slice ka ev.cmd.keys.length kc) := (block_cell OJ.out.ebox 1).1
                      have e2 : wc.cell? ⟨pe, 2, none⟩ = some (.int .u8 (ev.cmd.cverb : Int)) := (block_cell OJ.out.ebox 2).1
                      have e3 : wc.cell? ⟨pe, 3, none⟩ = some (sv ev.cmd.key) := (block_cell OJ.out.ebox 3).1
                      have e4 : wc.cell? ⟨pe, 4, none⟩ = some (sv ev.cmd.value) := (block_cell OJ.out.ebox 4).1
                      have e5 : wc.cell? ⟨pe, 5, none⟩ = some (.int .u32 (ev.cmd.flags : Int)) := (block_cell OJ.out.ebox 5).1
                      have e6 : wc.cell? ⟨pe, 6, none⟩ = some (.int .i64 ev.cmd.exp) := (block_cell OJ.out.ebox 6).1
                      have e7 : wc.cell? ⟨pe, 7, none⟩ = some (.int .u64 (ev.cmd.id : Int)) := (block_cell OJ.out.ebox 7).1
                      have e8 : wc.cell? ⟨pe, 8, none⟩ = some (.int .u64 (ev.cmd.by' : Int)) := (block_cell OJ.out.ebox 8).1
                      have e9 : wc.cell? ⟨pe, 9, none⟩ = some (.int .i64 ev.cmd.bytes) := (block_cell OJ.out.ebox 9).1
                      have e10 : wc.cell? ⟨pe, 10, none⟩ = some (.bool ev.cmd.quiet) := (block_cell OJ.out.ebox 10).1
                      have e11 : wc.cell? ⟨pe, 11, none⟩ = some (sv ev.data) := (block_cell OJ.out.ebox 11).1
                      have e12 : wc.cell? ⟨pe, 12, none⟩ = some (.int .i64 (ev.told : Int)) := (block_cell OJ.out.ebox 12).1
                      clear h0 h12 h13 hg hgb
                      go_wp2_with fail
                      refine (HGE.out _).mono ?_
                      rintro e1 V1 ⟨rfl, hb1⟩
                      have OJ2 := Lib.hid (OJ.out.below hb1)
                      have k0 : V1.cell? ⟨pe, 0, none⟩ = some (.int .u8 (ev.cmd.verb : Int)) := (block_cell OJ2.out.ebox 0).1
                      have k1 : V1.cell? ⟨pe, 1, none⟩ = some (.slice ka ev.cmd.keys.length kc) := (block_cell OJ2.out.ebox 1).1
                      have k2 : V1.cell? ⟨pe, 2, none⟩ = some (.int .u8 (ev.cmd.cverb : Int)) := (block_cell OJ2.out.ebox 2).1
                      have k3 : V1.cell? ⟨pe, 3, none⟩ = some (sv ev.cmd.key) := (block_cell OJ2.out.ebox 3).1
                      have k4 : V1.cell? ⟨pe, 4, none⟩ = some (sv ev.cmd.value) := (block_cell OJ2.out.ebox 4).1
                      have k5 : V1.cell? ⟨pe, 5, none⟩ = some (.int .u32 (ev.cmd.flags : Int)) := (block_cell OJ2.out.ebox 5).1
                      have k6 : V1.cell? ⟨pe, 6, none⟩ = some (.int .i64 ev.cmd.exp) := (block_cell OJ2.out.ebox 6).1
                      have k7 : V1.cell? ⟨pe, 7, none⟩ = some (.int .u64 (ev.cmd.id : Int)) := (block_cell OJ2.out.ebox 7).1
                      have k8 : V1.cell? ⟨pe, 8, none⟩ = some (.int .u64 (ev.cmd.by' : Int)) := (block_cell OJ2.out.ebox 8).1
                      have k9 : V1.cell? ⟨pe, 9, none⟩ = some (.int .i64 ev.cmd.bytes) := (block_cell OJ2.out.ebox 9).1
                      have k10 : V1.cell? ⟨pe, 10, none⟩ = some (.bool ev.cmd.quiet) := (block_cell OJ2.out.ebox 10).1
                      have k11 : V1.cell? ⟨pe, 11, none⟩ = some (sv ev.data) := (block_cell OJ2.out.ebox 11).1
                      have k12 : V1.cell? ⟨pe, 12, none⟩ = some (.int .i64 (ev.told : Int)) := (block_cell OJ2.out.ebox 12).1
                      have q0 : V1.cell? ⟨pc, 0, none⟩ = some ((.int .u8 (ev.cmd.cverb : Int))) := (block_cell OJ2.out.cbox 0).1
                      have q1 : V1.cell? ⟨pc, 1, none⟩ = some ((sv ev.cmd.key)) := (block_cell OJ2.out.cbox 1).1
                      have q2 : V1.cell? ⟨pc, 2, none⟩ = some ((sv ev.cmd.value)) := (block_cell OJ2.out.cbox 2).1
                      have q3 : V1.cell? ⟨pc, 3, none⟩ = some ((.int .u32 (ev.cmd.flags : Int))) := (block_cell OJ2.out.cbox 3).1
                      have q4 : V1.cell? ⟨pc, 4, none⟩ = some ((.int .i64 ev.cmd.exp)) := (block_cell OJ2.out.cbox 4).1
                      have q5 : V1.cell? ⟨pc, 5, none⟩ = some ((.int .u64 (ev.cmd.id : Int))) := (block_cell OJ2.out.cbox 5).1
                      have q6 : V1.cell? ⟨pc, 6, none⟩ = some ((.int .u64 (ev.cmd.by' : Int))) := (block_cell OJ2.out.cbox 6).1
                      have zq : V1.frozen? ⟨pc, 2, none⟩ = false := (block_cell OJ2.out.cbox 2).2
                      obtain ⟨S2, ⟨bv2, wv2, tk2, cv2, L2, hat2, hS2⟩, -, -, hpc⟩ := OJ2.out.is
                      have hrpc : r ≠ pc := fun e => hpc (by rw [hS2]; exact .inl e.symm)
                      clear hb1 e0 e1 e2 e3 e4 e5 e6 e7 e8 e9 e10 e11 e12 HEB OJ hS2 hpc hwc
                      go_upto_region 5 with fail
                      obtain ⟨V2, hV2⟩ : ∃ V2, V2 = V1.setCell ⟨pc, 2, none⟩ (sv ev.data) := ⟨_, rfl⟩
                      have hs2 : V2.heap.size = V1.heap.size := by rw [hV2]; simp
                      have HDN := Lib.hid (show OnK n₀ wr r Sr (midR mr ev (L'.map (·.2))) (.slice ka ev.cmd.keys.length kc) ev pe ((V2.setCell ⟨r, 16, none⟩ (.slice (some ⟨V2.heap.size, 0, none⟩) 1 1)).alloc (.cells (callCells { ev.cmd with value := ev.data }).toArray 39)) from by rw [hmid, hs2, hV2]; exact OJ2.out.call hnw)
                      have hc2 := cset_chg V1 pc 2 (sv ev.data)
                      rw [← hV2] at hc2 ⊢
                      have hbx : V2.heap[pc]? = some (.cells (callCells { ev.cmd with value := ev.data }).toArray 39 (0, 0)) := by
                        rw [hV2]
                        have := Go.Joins.block_setCell (i := 2) OJ2.out.cbox (sv ev.data)
                        rw [List.setIfInBounds_toArray] at this
                        exact this
                      have p0 : V2.cell? ⟨pc, 0, none⟩ = some ((.int .u8 (ev.cmd.cverb : Int))) := (block_cell hbx 0).1
                      have p1 : V2.cell? ⟨pc, 1, none⟩ = some ((sv ev.cmd.key)) := (block_cell hbx 1).1
                      have p2 : V2.cell? ⟨pc, 2, none⟩ = some ((sv ev.data)) := (block_cell hbx 2).1
                      have p3 : V2.cell? ⟨pc, 3, none⟩ = some ((.int .u32 (ev.cmd.flags : Int))) := (block_cell hbx 3).1
                      have p4 : V2.cell? ⟨pc, 4, none⟩ = some ((.int .i64 ev.cmd.exp)) := (block_cell hbx 4).1
                      have p5 : V2.cell? ⟨pc, 5, none⟩ = some ((.int .u64 (ev.cmd.id : Int))) := (block_cell hbx 5).1
                      have p6 : V2.cell? ⟨pc, 6, none⟩ = some ((.int .u64 (ev.cmd.by' : Int))) := (block_cell hbx 6).1
                      have x16 : V2.cell? ⟨r, 16, none⟩ = some cv2 := hc2.cell (hat2.cell (j := 16) rfl).1 hrpc
                      have z16 : V2.frozen? ⟨r, 16, none⟩ = false := (hc2.frozen hat2.plt hrpc).trans (hat2.cell (j := 16) rfl).2
                      have hrv : r < V2.heap.size := by rw [hs2]; exact hat2.plt
                      clear k0 k1 k2 k3 k4 k5 k6 k7 k8 k9 k10 k11 k12 q0 q1 q2 q3 q4 q5 q6 zq hV2 hs2 hc2 hbx hat2 OJ2 hmid hrpc
                      go_wp2_with (first
                        | ((with_reducible show wpList _ _ _ (⟨_, Op.buildSlice _ _ _, _, _, _, _⟩ :: _) _ _); refine wpList_build_call (by rfl) (.tmp 41) (by rfl) _ _ _ _ _ _ _ (by rfl) ?_)
                        | fail)
                      go_meet
                      case rel => exact HDN.out
            · skip
              as_aux_lemma =>
                have hne : ((ev.told : Int) != 0) = true := by rw [bne_iff_ne]; omega
                obtain ⟨X, hX⟩ : ∃ X, X = tOf ev.told := ⟨_, rfl⟩
                have hXl : X.length ≤ 200 := by rw [hX]; exact tOf_len _
                have HQE := Lib.hid (show quietE ev mr.out = mr.out ++ X from by rw [hX]; unfold quietE; rw [if_pos h0])
                have HOF := Lib.hid (fun W => refOf_any ev.told W)
                rw [← hX] at HOF
                obtain ⟨T, hT⟩ : ∃ T, T = mr.out ++ X := ⟨_, rfl⟩
                have hcat : (⟨mr.out.toArray⟩ : ByteArray) ++ ⟨X.toArray⟩ = ⟨T.toArray⟩ := by rw [hT]; exact ByteArray.ext (by simp)
                have hcl : ¬ 9223372036854775807 < mr.out.length + X.length := by omega
                have hmid : midR mr ev (L'.map (·.2)) = { mr with wait := L'.map (·.2), out := T } := by
                  have hq : ¬ quitE ev := fun h => h0 h.1
                  unfold midR
                  rw [if_neg hq, HQE.out, ← hT, callsE_skip (.inl h0), ← HC0.out]
                have HDN := Lib.hid (show OnK n₀ wr r Sr (midR mr ev (L'.map (·.2))) (.slice ka ev.cmd.keys.length kc) ev pe _ from by rw [hmid]; exact OJ.out.told T)
                obtain ⟨S2, ⟨bv2, wv2, tk2, cv2, L2, hat2, -⟩, -, -, -⟩ := OJ.out.is
                have x18 : wc.cell? ⟨r, 18, none⟩ = some (sv mr.out) := (hat2.cell (j := 18) rfl).1
                have z18 : wc.frozen? ⟨r, 18, none⟩ = false := (hat2.cell (j := 18) rfl).2
                have HEB := Lib.hid OJ.out.ebox
                have e0 : wc.cell? ⟨pe, 0, none⟩ = some (.int .u8 (ev.cmd.verb : Int)) := (block_cell OJ.out.ebox 0).1
                have e1 : wc.cell? ⟨pe, 1, none⟩ = some (.slice ka ev.cmd.keys.length kc) := (block_cell OJ.out.ebox 1).1
                have e2 : wc.cell? ⟨pe, 2, none⟩ = some (.int .u8 (ev.cmd.cverb : Int)) := (block_cell OJ.out.ebox 2).1
                have e3 : wc.cell? ⟨pe, 3, none⟩ = some (sv ev.cmd.key) := (block_cell OJ.out.ebox 3).1
                have e4 : wc.cell? ⟨pe, 4, none⟩ = some (sv ev.cmd.value) := (block_cell OJ.out.ebox 4).1
                have e5 : wc.cell? ⟨pe, 5, none⟩ = some (.int .u32 (ev.cmd.flags : Int)) := (block_cell OJ.out.ebox 5).1
                have e6 : wc.cell? ⟨pe, 6, none⟩ = some (.int .i64 ev.cmd.exp) := (block_cell OJ.out.ebox 6).1
                have e7 : wc.cell? ⟨pe, 7, none⟩ = some (.int .u64 (ev.cmd.id : Int)) := (block_cell OJ.out.ebox 7).1
                have e8 : wc.cell? ⟨pe, 8, none⟩ = some (.int .u64 (ev.cmd.by' : Int)) := (block_cell OJ.out.ebox 8).1
                have e9 : wc.cell? ⟨pe, 9, none⟩ = some (.int .i64 ev.cmd.bytes) := (block_cell OJ.out.ebox 9).1
                have e10 : wc.cell? ⟨pe, 10, none⟩ = some (.bool ev.cmd.quiet) := (block_cell OJ.out.ebox 10).1
                have e11 : wc.cell? ⟨pe, 11, none⟩ = some (sv ev.data) := (block_cell OJ.out.ebox 11).1
                have e12 : wc.cell? ⟨pe, 12, none⟩ = some (.int .i64 (ev.told : Int)) := (block_cell OJ.out.ebox 12).1
                clear hX hT h0 hmid hat2
                go_wp2_with fail
                go_region_law (first
                  | (refine step_call (by rfl) 52 #[.int .i64 (ev.told : Int)] (by go_simp) (HOF.out _) ?_; rintro e1 V1 ⟨rfl, rfl⟩; refine ⟨_, rfl, ?_⟩)
                  | fail)
                all_goals go_wp2_with fail
                all_goals go_meet
                all_goals first | (case rel => exact HDN.out) | skip
          case rest =>
            have hk := hcut
            obtain ⟨hth, S3, hn⟩ := HJ.out.next HC0.out HWE.out hk
            have heb := hk.ebox
            have hrw := rwaitW_is hn.is
            have hsl := (step_small HWE.out).2.1
            have HN := Lib.hid hn
            have HTH := Lib.hid hth
            have HRW := Lib.hid hrw
            have HSL := Lib.hid hsl
            have HEB := Lib.hid heb
            have hk1 : (Value.slice ka ev.cmd.keys.length kc).oneCell' = true := rfl
            clear hk hcut hn hth hrw hsl heb
            go_wp2_with (first
              | ((with_reducible show wpList _ _ _ (⟨_, Op.load _ _, _, _, _, _⟩ :: _) _ _); refine wpList_load_row (by rfl) 63 (.tmp 2) (by rfl) pe (by rfl) 63 _ _ _ HEB.out Tryz.underlying63 rfl (by kernel_rfl) ?_)
              | ((with_reducible show wpList _ _ _ (⟨none, Op.store _ _ _, _, _, _, _⟩ :: _) _ _); refine wpList_store_mid (by rfl) 63 (.tmp 116) (.tmp 114) (by rfl) r 3 (rEvCells (.slice ka ev.cmd.keys.length kc) ev).toArray (by rfl) (by rfl) HTH.out (by kernel_rfl) (by simp [Value.oneCell']) ?_)
              | fail)
            go_roundw
            case rel =>
              (repeat apply Exists.intro)
              refine ⟨⟨_, S3, HN.out, by have := HSL.out; omega⟩, ?_⟩
              rfl
            case measure =>
              rw [HMS.out]
              exact (by have h1 := HRW.out; have h2 := HSL.out; show rwaitW r (World.setCells _ _ _ (rEvCells (.slice ka ev.cmd.keys.length kc) ev)) < _; omega)
    · have hpos : 0 < mr.calls.length := List.length_pos_iff.2 hc0
      have hnz : ((mr.calls.length : Int) == 0) = false := by rw [beq_eq_false_iff_ne]; omega
      have HE := Lib.hid (HEND.out (.inl hc0))
      clear HEND hend hj hsm hat hS hwlen hc0 HMS HJ
      go_wp2_with fail
      exact bodyPost_end (results_none (by exact Tryz.results38) _ _ _) rfl ⟨⟨_, rfl⟩, HE.out⟩
end Go.Proofs.YtddifbimlmkcbaaGreatDoor
