/- The first half of (*parser).parse: the keys are taken from the words. No condition but that the words lie apart from the parser. -/
import Derived.Test.YtddifbimlmkcbaaGreatDoorReaders
import Derived.Test.YtddifbimlmkcbaaGreatDoorLowD
import Derived.Test.YtddifbimlmkcbaaGreatDoorLowC
import Derived.RegionTactic
import Derived.BigRegion
import Derived.Outline
import Derived.Deep.RegionHeld3
import Derived.Deep.AppendLies
import Derived.Deep.RegionLaw
import Derived.Deep.DeepCutAuto
namespace Go.Proofs.YtddifbimlmkcbaaGreatDoor
open Go.RowKit Go.ChangeMaps Go.MapKept

theorem grown_drew {w w' : World} {r : Option Nat} (h : w.grownBy w' r) : w.grownBy w'.drew r := ⟨h.os, h.tape, h.output, h.size, h.block⟩
theorem below_then {B : Nat} {w0 w w' : World} {p : Nat} (hb : Below B w0 w) (hB : B ≤ w.heap.size) (hg : w.grownBy w' (some p)) (hp : B ≤ p) : Below B w0 w' :=
  ⟨hg.os.trans hb.os, hg.tape.trans hb.tape, hg.output.trans hb.output, Nat.le_trans hb.size hg.size, fun k hk => (hg.block k (Nat.lt_of_lt_of_le hk hB) (by simp; omega)).trans (hb.block k hk)⟩
theorem step_call {P : Program} {w : World} {ops : Array Oper} {o : Oper} {a : Act} {K : Act → World → Prop} {Q : Exit → Act → World → Prop} {E : Prop} (hgd : o.guard = none) (f : Nat) (args : Array Value) (hrun : (execOp a.eval o).run P w = .ok (.enter f args) w)
    {R : Ending → World → Prop} (hC : Calls P f args w R) (hR : ∀ e w', R e w' → ∃ v, e = .returned v ∧ K (a.put o.dst v) w') :
    if Region.wanted o (yielded ops a.tmps) = true then Oper.wp P o a w K Q else E := by
  have hw : Region.wanted o (yielded ops a.tmps) = true := by simp [Region.wanted, hgd]
  rw [if_pos hw]
  unfold Oper.wp
  rw [hrun, Oper.upon_enter]
  refine hC.mono fun e w' hr => ?_
  obtain ⟨v, rfl, hk⟩ := hR e w' hr
  exact hk
theorem PAt.drew {w : World} {p : Nat} {ws ks : Value} {c : Cmd} (h : PAt w p ws ks c) : PAt w.drew p ws ks c := h
theorem Seg.drew {w : World} {p : Nat} {v : Value} {xs : List (List UInt8)} (h : Seg w p v xs) : Seg w.drew p v xs := h
theorem own_keep {w w' : World} {B n p : Nat} {e : TypeId} {v : Value} {xs : List Value} (h : w.ownsRow B e 1 v n xs) (hp : p < B) (hg : w.grownBy w' (some p)) : w'.ownsRow B e 1 v n xs := by
  obtain ⟨hl, h2⟩ := h
  refine ⟨hl, h2.imp id ?_⟩
  rintro ⟨g, cap, cur, rfl, hgB, hh, hr⟩
  exact ⟨g, cap, cur, rfl, hgB, (hg.block g (Array.getElem?_eq_some_iff.1 hh).1 (by simp; omega)).trans hh, hr⟩
theorem own_drew {w : World} {B n : Nat} {e : TypeId} {v : Value} {xs : List Value} (h : w.ownsRow B e 1 v n xs) : w.drew.ownsRow B e 1 v n xs := h
theorem own_apart {w : World} {B n p : Nat} {e : TypeId} {v : Value} {xs : List Value} (h : w.ownsRow B e 1 v n xs) (hp : p < B) : v.ownBlock ≠ some p := by
  obtain ⟨hl, h2⟩ := h
  rcases h2 with ⟨rfl, _⟩ | ⟨g, cap, cur, rfl, hgB, _⟩
  · simp [Value.ownBlock]
  · simp [Value.ownBlock]; omega
/-- What the first loop holds behind k keys. -/
abbrev cmdK (v : Nat) (q : Bool) (K : List (List UInt8)) : Cmd := ⟨v, K, v, [], [], 0, 0, 0, 0, -1, q⟩
def KeysInv (p v : Nat) (q : Bool) (l : List (List UInt8)) (B : Nat) (W1 : World) (k : Nat) (wr : World) : Prop :=
  ∃ ws ks, PAt wr p ws ks (cmdK v q (l.take k)) ∧ Seg wr p ws (l.drop k) ∧ wr.ownsRow B 9 1 ks (l.take k).length ((l.take k).map sv) ∧ W1.grownBy wr (some p) ∧ (∀ b, ws.ownBlock = some b → b < B)
theorem Seg.far {w w' : World} {p : Nat} {v : Value} {xs : List (List UInt8)} {r : Option Nat} (h : Seg w p v xs) (hg : w.grownBy w' r) (hr : v.ownBlock ≠ r) : Seg w' p v xs := by
  obtain ⟨g, o, c, rfl, h1, h2, h3, h4, h5⟩ := h
  exact ⟨g, o, c, rfl, h1, h2, h3, Nat.lt_of_lt_of_le h4 hg.size, fun j x hx => (hg.cell_far ⟨g, o + j, none⟩ h4 (by simpa [Value.ownBlock] using hr)).trans (h5 j x hx)⟩
theorem own_at {w : World} {B n : Nat} {e : TypeId} {v : Value} {xs : List Value} (h : w.ownsRow B e 1 v n xs) (b : Nat) (hb : v.ownBlock = some b) : B ≤ b := by
  obtain ⟨hl, h2⟩ := h
  rcases h2 with ⟨rfl, _⟩ | ⟨g, cap, cur, rfl, hgB, _⟩
  · simp [Value.ownBlock] at hb
  · simp [Value.ownBlock] at hb; omega
theorem keys_step {p k gg cp : Nat} {W1 wr w2 w3 : World} {ws2 ks : Value} {v : Nat} {q : Bool} {l : List (List UInt8)} {x : List UInt8} {o : Obj} (hx : l[k]? = some x) (hpB : p < W1.heap.size)
    (hp2 : PAt w2 p ws2 ks (cmdK v q (l.take k))) (hs2 : Seg w2 p ws2 (l.drop (k + 1))) (hgk : W1.grownBy wr (some p)) (hg2 : wr.drew.grownBy w2 (some p)) (hown : wr.ownsRow W1.heap.size 9 1 ks (l.take k).length ((l.take k).map sv))
    (hb : ∀ b, ws2.ownBlock = some b → b < W1.heap.size) (hgrow : (w2.alloc o).grownBy w3 ks.ownBlock)
    (hown3 : w3.ownsRow W1.heap.size 9 1 (.slice (some ⟨gg, 0, none⟩) ((l.take k).length + 1) cp) ((l.take k).length + 1) ((l.take k).map sv ++ [sv x])) :
    KeysInv p v q l W1.heap.size W1 (k + 1) (w3.setCell ⟨p, 2, none⟩ (.slice (some ⟨gg, 0, none⟩) ((l.take k).length + 1) cp)) := by
  have hap := own_apart hown hpB
  have ht : l.take (k + 1) = l.take k ++ [x] := by rw [List.take_add_one, hx]; rfl
  have hne : ws2.ownBlock ≠ ks.ownBlock := by
    intro he
    obtain ⟨g, o', c', rfl, _⟩ := hs2
    have h1 := hb g rfl
    have h2 := own_at hown g (by rw [← he]; rfl)
    omega
  have hp3 : PAt w3 p ws2 ks (cmdK v q (l.take k)) := (hp2.grown (World.grownBy_alloc _ o none) (by simp)).grown hgrow (Ne.symm hap)
  have hs3 : Seg w3 p ws2 (l.drop (k + 1)) := (hs2.grown (World.grownBy_alloc _ o (some p))).far hgrow hne
  refine ⟨ws2, .slice (some ⟨gg, 0, none⟩) ((l.take k).length + 1) cp, ?_, hs3.grown (grown_set _ _ _ _), ?_, ?_, hb⟩
  · refine hp3.set 2 _ ?_
    rw [ht]
    simp [cmdCells]
  · rw [ht, List.length_append, List.map_append]
    exact ownsRow_setCell_below hown3 (a := ⟨p, 2, none⟩) hpB _
  · refine grown_trans ?_ (grown_set _ _ _ _)
    have h1 : W1.grownBy w2 (some p) := grown_trans hgk ⟨hg2.os, hg2.tape, hg2.output, hg2.size, hg2.block⟩
    have h2 : W1.grownBy (w2.alloc o) (some p) := grown_trans h1 (World.grownBy_alloc _ _ _)
    refine ⟨hgrow.os.trans h2.os, hgrow.tape.trans h2.tape, hgrow.output.trans h2.output, Nat.le_trans h2.size hgrow.size, fun j hj hjp => (hgrow.block j (Nat.lt_of_lt_of_le hj h2.size) ?_).trans (h2.block j hj hjp)⟩
    intro he
    have := own_at hown j he.symm
    omega

/-- A row less its spare room. -/
def clipV : Value → Value
  | .slice (some a) n _ => .slice (some a) n n
  | v => v
theorem clip_value {w : World} {B : Nat} {v : Value} {xs : List Value} (h : Own w B v xs) : Calls Tryz.prog 105 #[v] w fun e w' => e = .returned (clipV v) ∧ w = w' := by
  by_cases hne : xs = []
  · subst hne
    obtain ⟨a, c, rfl, h1, h2, h3, h4⟩ := h
    cases a with
    | none => obtain rfl := h3 rfl; exact clip_nil w
    | some a => exact clip_some a _ c w h1 h2
  · obtain ⟨g, o, c, rfl, h1, h2, h3, h4, _⟩ := h.some hne
    exact clip_some _ _ c w h3 h4

theorem clip_len {w : World} {B : Nat} {v : Value} {xs : List Value} (h : Own w B v xs) : ∃ a c, clipV v = .slice a xs.length c := by
  obtain ⟨a, c, rfl⟩ := h.len
  cases a
  · exact ⟨none, c, rfl⟩
  · exact ⟨_, _, rfl⟩


theorem own_clip {w : World} {B : Nat} {v : Value} {xs : List Value} (h : Own w B v xs) : Own w B (clipV v) xs := by
  obtain ⟨a, c, rfl, h1, h2, h3, h4⟩ := h
  cases a with
  | none => exact ⟨none, c, rfl, h1, h2, h3, h4⟩
  | some a => exact ⟨some a, xs.length, rfl, Nat.le_refl _, by omega, (fun h => by cases h), h4⟩
theorem own_grown {w w' : World} {B p : Nat} {v : Value} {xs : List Value} (h : Own w B v xs) (hg : w.grownBy w' (some p)) (hp : p < B) : Own w' B v xs := by
  obtain ⟨a, c, rfl, h1, h2, h3, h4⟩ := h
  refine ⟨a, c, rfl, h1, h2, h3, h4.imp id ?_⟩
  rintro ⟨g, o, rfl, hg5, h5⟩
  refine ⟨g, o, rfl, hg5, fun j x hx => ?_⟩
  have h6 := cell_lt (h5 j x hx).1
  rw [hg.cell_far ⟨g, o + j, none⟩ h6 (by simp; omega), hg.frozen_far ⟨g, o + j, none⟩ h6 (by simp; omega)]
  exact h5 j x hx
/-- A slice of cells of the row's own, in a block from B on whose type is e. -/
def OwnT (w : World) (B : Nat) (e : TypeId) (v : Value) (xs : List Value) : Prop := Own w B v xs ∧ ∀ g, v.ownBlock = some g → B ≤ g ∧ ∃ cs fz, w.heap[g]? = some (.cells cs e fz)
theorem OwnT.of_row {w : World} {B : Nat} {e : TypeId} {v : Value} {xs : List Value} (h : w.ownsRow B e 1 v xs.length xs) : OwnT w B e v xs := by
  refine ⟨Own.of_row h, fun g hg => ?_⟩
  rcases h.2 with ⟨rfl, _⟩ | ⟨g', cap, cur, rfl, hB, hh, _⟩
  · simp [Value.ownBlock] at hg
  · obtain rfl : g' = g := by simpa [Value.ownBlock] using hg
    exact ⟨hB, _, _, hh⟩
theorem OwnT.clip {w : World} {B : Nat} {e : TypeId} {v : Value} {xs : List Value} (h : OwnT w B e v xs) : OwnT w B e (clipV v) xs := by
  refine ⟨own_clip h.1, fun g hg => h.2 g ?_⟩
  obtain ⟨a, c, rfl⟩ := h.1.len
  cases a <;> exact hg
theorem OwnT.grown {w w' : World} {B p : Nat} {e : TypeId} {v : Value} {xs : List Value} (h : OwnT w B e v xs) (hg : w.grownBy w' (some p)) (hp : p < B) : OwnT w' B e v xs := by
  refine ⟨own_grown h.1 hg hp, fun g hv => ?_⟩
  obtain ⟨hB, cs, fz, hh⟩ := h.2 g hv
  exact ⟨hB, cs, fz, (hg.block g (lt_of_block hh) (by simp; omega)).trans hh⟩
theorem OwnT.mono {w : World} {B B' : Nat} {e : TypeId} {v : Value} {xs : List Value} (h : OwnT w B e v xs) (hB : B' ≤ B) : OwnT w B' e v xs :=
  ⟨h.1.mono hB, fun g hg => by obtain ⟨h1, h2⟩ := h.2 g hg; exact ⟨by omega, h2⟩⟩
theorem grown_cell {w w' : World} {p b j : Nat} {x : Value} (h : w.cell? ⟨b, j, none⟩ = some x) (hg : w.grownBy w' (some p)) (hb : b ≠ p) : w'.cell? ⟨b, j, none⟩ = some x :=
  (hg.cell_far ⟨b, j, none⟩ (cell_lt h) (by simpa using hb)).trans h
/-- The command that the parser begins with. -/
abbrev cmdQ (q : Bool) : Cmd := ⟨0, [], 0, [], [], 0, 0, 0, 0, 0, q⟩
/-- The command that the words behind the keys are read into. -/
def cmd0 (v : Nat) (q : Bool) (K : List (List UInt8)) : Cmd := ⟨v, K, v, K.headD [], [], 0, 0, 0, 0, -1, q⟩

/-- How many of the words are keys. -/
def manyOf (v : Nat) (l : List (List UInt8)) : Nat := if keysOf v then l.length else min (leastOf v) 1
theorem manyOf_le {v : Nat} {l : List (List UInt8)} (h : leastOf v ≤ l.length) : manyOf v l ≤ l.length := by
  unfold manyOf; split <;> omega
theorem parseW_bad {v : Nat} {q : Bool} {l : List (List UInt8)} (h : (l.take (manyOf v l)).any badKey = true) : parseW v q l = (noCmd, 2) := by
  unfold parseW; exact if_pos h
theorem parseW_read {v : Nat} {q : Bool} {l : List (List UInt8)} (h : (l.take (manyOf v l)).any badKey = false) :
    parseW v q l = (if (readAll (cmd0 v q (l.take (manyOf v l))) (restOf v) (l.drop (manyOf v l))).2 ≠ 0 then (noCmd, (readAll (cmd0 v q (l.take (manyOf v l))) (restOf v) (l.drop (manyOf v l))).2)
      else if 1024 < (readAll (cmd0 v q (l.take (manyOf v l))) (restOf v) (l.drop (manyOf v l))).1.bytes then ((readAll (cmd0 v q (l.take (manyOf v l))) (restOf v) (l.drop (manyOf v l))).1, 5)
      else ((readAll (cmd0 v q (l.take (manyOf v l))) (restOf v) (l.drop (manyOf v l))).1, 0)) := by
  unfold parseW; exact if_neg (by rw [show (l.take (if keysOf v = true then l.length else min (leastOf v) 1)).any (fun k => !okB k) = (l.take (manyOf v l)).any badKey from rfl, h]; simp)

/-- What (*parser).parse leaves. -/
def LpOk (p v : Nat) (q : Bool) (l : List (List UInt8)) (w : World) (e : Ending) (w' : World) : Prop :=
  ∃ ws' ks' c', e = .returned (.int .u8 ((parseW v q l).2 : Int)) ∧ w.grownBy w' (some p) ∧ PAt w' p ws' ks' c' ∧ ((parseW v q l).2 = 0 ∨ (parseW v q l).2 = 5 → c' = (parseW v q l).1 ∧ OwnT w' w.heap.size 9 ks' (c'.keys.map sv))

theorem rest_len (v : Nat) : (restOf v).length ≤ 4 := by
  by_cases h : v < 14
  · revert v; decide
  · simp [restOf, List.getD_eq_getElem?_getD, List.getElem?_eq_none (l := [[], [], [], [0, 1, 2], [0, 1, 2], [0, 1, 2], [0, 1, 2, 3], [], [1], [4], [4], [1], [], []]) (i := v) (by simp; omega)]
theorem rest_lt {v f : Nat} (hf : f ∈ restOf v) : f < 5 := by
  by_cases h : v < 14
  · have : ∀ v < 14, ∀ f ∈ restOf v, f < 5 := by decide
    exact this v h f hf
  · simp [restOf, List.getD_eq_getElem?_getD, List.getElem?_eq_none (l := [[], [], [], [0, 1, 2], [0, 1, 2], [0, 1, 2], [0, 1, 2, 3], [], [1], [4], [4], [1], [], []]) (i := v) (by simp; omega)] at hf
theorem readF_keys (c : Cmd) (f : Nat) (x : List UInt8) : (readF c f x).1.keys = c.keys := by
  unfold readF; repeat (first | rfl | split)
theorem call_flags (args : Array Value) (w : World) : (callFunc 114 args).run Tryz.prog w = .ok (.enter 114 args) w := by kernel_rfl
theorem call_exp (args : Array Value) (w : World) : (callFunc 115 args).run Tryz.prog w = .ok (.enter 115 args) w := by kernel_rfl
theorem call_size (args : Array Value) (w : World) : (callFunc 116 args).run Tryz.prog w = .ok (.enter 116 args) w := by kernel_rfl
theorem call_id (args : Array Value) (w : World) : (callFunc 117 args).run Tryz.prog w = .ok (.enter 117 args) w := by kernel_rfl
theorem call_by (args : Array Value) (w : World) : (callFunc 118 args).run Tryz.prog w = .ok (.enter 118 args) w := by kernel_rfl
theorem call_reader {f : Nat} (hf : f < 5) (args : Array Value) (w : World) : (callFunc (readerFn f) args).run Tryz.prog w = .ok (.enter (readerFn f) args) w := by
  match f, hf with
  | 0, _ => exact call_flags args w
  | 1, _ => exact call_exp args w
  | 2, _ => exact call_size args w
  | 3, _ => exact call_id args w
  | 4, _ => exact call_by args w
/-- What the second loop holds behind i words. -/
def ReadInv (p v : Nat) (q : Bool) (K D : List (List UInt8)) (kv : Value) (W4 : World) (i : Nat) (wr : World) : Prop :=
  ∃ ws c, PAt wr p ws kv c ∧ Seg wr p ws (D.drop i) ∧ W4.grownBy wr (some p) ∧ c.keys = K ∧ readAll (cmd0 v q K) (restOf v) D = readAll c ((restOf v).drop i) (D.drop i)

set_option maxRecDepth 100000 in
set_option maxHeartbeats 6400000 in
theorem lparse_any (p v : Nat) (q : Bool) (rr ws : Value) (l : List (List UInt8)) (w : World) (hp : PAt w p ws (.slice none 0 0) (cmdQ q)) (hs : Seg w p ws l)
    (hE : ∀ w', w.grownBy w' (some p) → HasErr w') (hl : l.length ≤ 3000) (hL : ∀ x ∈ l, x.length ≤ maxLen) (hv : leastOf v ≤ l.length) (hm : (l.drop (manyOf v l)).length ≤ (restOf v).length)
    (rb rc : Nat) (hrr : rr = (if (restOf v).length = 0 then .slice none 0 0 else .slice (some ⟨rb, 0, none⟩) (restOf v).length rc)) (hrb : rb ≠ p) (hrc : ∀ (j f : Nat), (restOf v)[j]? = some f → w.cell? ⟨rb, j, none⟩ = some (.int .i64 (f : Int))) :
    Calls Tryz.prog 95 #[.pointer (some ⟨p, 0, none⟩), .agg #[.int .u8 (v : Int), .int .i64 (leastOf v : Int), .int .i64 (mostOf v : Int), .bool (quietOf v), .bool (keysOf v), rr]] w (LpOk p v q l w) := by
  obtain ⟨i0, hi, hz0, hz1, hz2⟩ := info_parts infoStr
  have Hi := Lib.hid hi
  have Hz := Lib.hid (And.intro hz0 (And.intro hz1 hz2))
  clear hi hz0 hz1 hz2
  have hlt := hp.lt
  obtain ⟨g, o, cap, rfl, hcap, hcm, hgp, hgl, hwc⟩ := id hs
  have g0 := hp.cell 0 rfl
  have g1 := hp.cell 1 rfl
  have g2 := hp.cell 2 rfl
  have g3 := hp.cell 3 rfl
  have g10 := hp.cell 10 rfl
  have f1 := hp.free 1
  have f3 := hp.free 3
  have f10 := hp.free 10
  have hM0 : manyOf v l = if keysOf v then l.length else min (leastOf v) 1 := rfl
  have hMl := manyOf_le hv
  have HP := Lib.hid hp
  have HS := Lib.hid hs
  have HE := Lib.hid hE
  have HR := Lib.hid hrc
  have HRR := Lib.hid hrr
  have HW := Lib.hid (rfl : parseW v q l = parseW v q l)
  have HM0 := Lib.hid hM0
  clear hp hs hE hwc hrc hrr hM0
  generalize hMM : manyOf v l = M at *
  have HMM := Lib.hid hMM
  clear hMM
  generalize hKK : keysOf v = kk at *
  have HKK := Lib.hid hKK
  clear hKK
  generalize hLL : leastOf v = ll at *
  have HLL := Lib.hid hLL
  clear hLL
  have hll : ll ≤ 3000 := by omega
  go_enter Tryz.func95, Tryz.ntmps95
  go_wp2_with fail
  go_region
  go_upto_if 30 with fail
  have hP1 : PAt ((((w.setCell ⟨p, 1, none⟩ (.int .u8 (v : Int))).setCell ⟨p, 3, none⟩ (.int .u8 (v : Int))).setCell ⟨p, 10, none⟩ (.int .i64 (-1))).alloc (.cells #[.int .u8 (v : Int), .int .i64 (ll : Int), .int .i64 (mostOf v : Int), .bool (quietOf v), .bool kk, rr] 152)).drew p (.slice (some ⟨g, o, none⟩) l.length cap) (.slice none 0 0) ⟨v, [], v, [], [], 0, 0, 0, 0, -1, q⟩ := by
    have h1 := ((HP.out.set 1 (.int .u8 (v : Int)) (ks' := .slice none 0 0) (c' := ⟨v, [], 0, [], [], 0, 0, 0, 0, 0, q⟩) rfl).set 3 (.int .u8 (v : Int)) (c' := ⟨v, [], v, [], [], 0, 0, 0, 0, 0, q⟩) rfl).set 10 (.int .i64 (-1)) (c' := ⟨v, [], v, [], [], 0, 0, 0, 0, -1, q⟩) rfl
    have h2 := h1.grown (World.grownBy_alloc _ (.cells #[.int .u8 (v : Int), .int .i64 (ll : Int), .int .i64 (mostOf v : Int), .bool (quietOf v), .bool kk, rr] 152) none) (by simp)
    exact h2
  have hG1 : w.grownBy ((((w.setCell ⟨p, 1, none⟩ (.int .u8 (v : Int))).setCell ⟨p, 3, none⟩ (.int .u8 (v : Int))).setCell ⟨p, 10, none⟩ (.int .i64 (-1))).alloc (.cells #[.int .u8 (v : Int), .int .i64 (ll : Int), .int .i64 (mostOf v : Int), .bool (quietOf v), .bool kk, rr] 152)).drew (some p) := by
    have h1 := grown_trans (grown_trans (grown_set w p 1 (.int .u8 (v : Int))) (grown_set _ p 3 (.int .u8 (v : Int)))) (grown_set _ p 10 (.int .i64 (-1)))
    exact grown_drew (grown_trans h1 (World.grownBy_alloc _ _ _))
  have hbx : ((((w.setCell ⟨p, 1, none⟩ (.int .u8 (v : Int))).setCell ⟨p, 3, none⟩ (.int .u8 (v : Int))).setCell ⟨p, 10, none⟩ (.int .i64 (-1))).alloc (.cells #[.int .u8 (v : Int), .int .i64 (ll : Int), .int .i64 (mostOf v : Int), .bool (quietOf v), .bool kk, rr] 152)).drew.heap[w.heap.size]? = some (.cells #[.int .u8 (v : Int), .int .i64 (ll : Int), .int .i64 (mostOf v : Int), .bool (quietOf v), .bool kk, rr] 152 (0, 0)) := by
    have h := heap_at (((w.setCell ⟨p, 1, none⟩ (.int .u8 (v : Int))).setCell ⟨p, 3, none⟩ (.int .u8 (v : Int))).setCell ⟨p, 10, none⟩ (.int .i64 (-1))) (.cells #[.int .u8 (v : Int), .int .i64 (ll : Int), .int .i64 (mostOf v : Int), .bool (quietOf v), .bool kk, rr] 152) w.heap.size
    rw [if_pos (by simp)] at h
    exact h
  have hsz : w.heap.size < ((((w.setCell ⟨p, 1, none⟩ (.int .u8 (v : Int))).setCell ⟨p, 3, none⟩ (.int .u8 (v : Int))).setCell ⟨p, 10, none⟩ (.int .i64 (-1))).alloc (.cells #[.int .u8 (v : Int), .int .i64 (ll : Int), .int .i64 (mostOf v : Int), .bool (quietOf v), .bool kk, rr] 152)).drew.heap.size := by have h := lt_of_block hbx; exact h
  have HS1 := Lib.hid (HS.out.grown hG1)
  generalize ((((w.setCell ⟨p, 1, none⟩ (.int .u8 (v : Int))).setCell ⟨p, 3, none⟩ (.int .u8 (v : Int))).setCell ⟨p, 10, none⟩ (.int .i64 (-1))).alloc (.cells #[.int .u8 (v : Int), .int .i64 (ll : Int), .int .i64 (mostOf v : Int), .bool (quietOf v), .bool kk, rr] 152)).drew = W1 at *
  have HP1 := Lib.hid hP1
  have HG1 := Lib.hid hG1
  have HBX := Lib.hid hbx
  clear hP1 hG1 hbx g0 g1 g2 g3 g10 f1 f3 f10 HP HS
  have hlI : (l.length : Int) ≤ 3000 := by omega
  have hMI : (M : Int) ≤ 3000 := by omega
  go_cut [5] (fun s5 wx => W1 = wx ∧ s5 = .int .i64 (M : Int))
  case first =>
    have g0 := HP1.out.cell 0 rfl
    cases kk
    · go_wp2_with fail
      go_meet
      case rel => exact ⟨rfl, int_congr (by have := HM0.out; simp at this; omega)⟩
    · go_wp2_with fail
      go_meet
      case rel => exact ⟨rfl, int_congr (by have := HM0.out; simp at this; omega)⟩
  case rest =>
    obtain ⟨rfl, rfl⟩ := hcut
    go_wp2_with fail
    go_loopw [37] (fun i wr => ∃ k : Nat, k ≤ M ∧ i = .int .i64 k ∧ KeysInv p v q l W1.heap.size W1 k wr) (fun i _ => M - (intOf i).toNat)
    case atStart => exact ⟨0, Nat.zero_le _, rfl, _, _, HP1.out, HS1.out, World.ownsRow_nil _ _ _ _, World.grownBy.refl _ _, fun b hb => by simp only [Value.ownBlock, Option.some.injEq] at hb; omega⟩
    case round =>
      obtain ⟨k, hk, rfl, ws, ks, hpk, hsk, hown, hgk, hbw⟩ := hrel
      by_cases hlk : k < M
      · obtain ⟨x, hx⟩ : ∃ x, l[k]? = some x := ⟨_, List.getElem?_eq_getElem (by omega)⟩
        have hdrop : l.drop k = x :: l.drop (k + 1) := by
          obtain ⟨h1, h2⟩ := List.getElem?_eq_some_iff.1 hx
          rw [List.drop_eq_getElem_cons h1, h2]
        rw [hdrop] at hsk
        have c2 := hpk.cell 2 rfl
        have f2 := hpk.free 2
        have HPK := Lib.hid hpk
        have HSK := Lib.hid hsk
        have HX := Lib.hid hx
        clear hpk hsk hx hdrop
        go_wp2_with fail
        have hpB : p < W1.heap.size := by omega
        have hap := own_apart hown hpB
        have hkl : (l.take k).length ≤ 3000 := by rw [List.length_take]; omega
        have hB1 := hgk.size
        have HOWN := Lib.hid hown
        clear hown
        go_region_law
          (first
            | (refine step_call (by rfl) 94 #[.pointer (some ⟨p, 0, none⟩)] (by go_simp) (word_any p ws ks _ x (l.drop (k + 1)) _ HPK.out.drew HSK.out.drew) ?_; rintro e w2 ⟨rfl, ws2, hp2, hs2, hg2, hb2⟩; refine ⟨_, rfl, ?_⟩; have c2' := hp2.cell 2 rfl; have f2' := hp2.free 2; have k1 : ∀ o : Obj, (w2.alloc o).cell? ⟨p, 2, none⟩ = some ks := fun o => (((Below.refl w2.heap.size w2).alloc (Nat.le_refl _) o).cell (p := ⟨p, 2, none⟩) hp2.lt).trans c2'; have k2 : ∀ o : Obj, (w2.alloc o).frozen? ⟨p, 2, none⟩ = false := fun o => (((Below.refl w2.heap.size w2).alloc (Nat.le_refl _) o).frozen (p := ⟨p, 2, none⟩) hp2.lt).trans f2'; have HP2 := Lib.hid hp2; have HS2 := Lib.hid hs2; have HG2 := Lib.hid hg2; have hz2 := hg2.size; have hl2 := hp2.lt; clear hp2 hs2 hg2)
            | (refine step_append_lies _ (by rfl) _ _ _ (by rfl) W1.heap.size 9 i0 _ 1 16 Tryz.underlying35 Hi.out Hz.out.1 Hz.out.2.1 Hz.out.2.2 rfl (by omega) ks _ _ (by rfl) ((own_keep (own_drew HOWN.out) hpB HG2.out).alloc _) ⟨w2.heap.size, 0, none⟩ 1 1 [sv x] (by rfl) (by rfl) (World.news_of_block (cs := #[sv x]) (t := 9) (fr := (0, 0)) (heap_alloc_new w2 _)) (by simp [Value.oneCell']) (by omega) (by unfold maxLen; omega) (by omega) (by simp at hz2 ⊢; omega) (w2.heap.size + 1) (by simp) ?_; intro gg cp w3 hown3 hgrow hat hlt3; have k3 := (hgrow.cell_far ⟨p, 2, none⟩ (by simp; omega) (Ne.symm hap)).trans (k1 _); have k4 := (hgrow.frozen_far ⟨p, 2, none⟩ (by simp; omega) (Ne.symm hap)).trans (k2 _))
            | fail)
        all_goals go_wp2_with fail
        all_goals refine ⟨⟨k + 1, by omega, rfl, ?_⟩, by simp only [intOf]; omega⟩
        all_goals have hq := keys_step (v := v) (q := q) HX.out hpB HP2.out HS2.out hgk HG2.out HOWN.out (fun b hb => hbw b (by rw [← hb2, hb])) hgrow hown3
        all_goals rwa [show (l.take k).length = min k l.length from List.length_take] at hq
      · obtain rfl : M = k := by omega
        have hKl : (l.take M).length = M := by rw [List.length_take]; omega
        have hKL : ∀ x ∈ l.take M, x.length ≤ maxLen := fun x hx => hL x (List.mem_of_mem_take hx)
        have hbad : (l.take M).any badKey = true → parseW v q l = (noCmd, 2) := fun h => parseW_bad (by rw [HMM.out]; exact h)
        have hread := fun (h : (l.take M).any badKey = false) => parseW_read (q := q) (l := l) (v := v) (by rw [HMM.out]; exact h)
        rw [HMM.out] at hread
        have HBAD := Lib.hid hbad
        have HREAD := Lib.hid hread
        clear hbad hread
        generalize hK : l.take M = K at *
        clear hK
        have c2 := hpk.cell 2 rfl
        have f2 := hpk.free 2
        have HPK := Lib.hid hpk
        have HSK := Lib.hid hsk
        have HOWN := Lib.hid hown
        clear hpk hsk hown
        go_wp2_with fail
        have hO : OwnT wr W1.heap.size 9 ks (K.map sv) := OwnT.of_row (by rw [List.length_map]; exact HOWN.out)
        refine (containsFunc_any hO.1 hKL).mono ?_
        rintro e w' ⟨rfl, rfl⟩
        have HO := Lib.hid hO
        clear hO
        cases hbk : K.any badKey
        · go_wp2_with fail
          refine (clip_value HO.out.1).mono ?_
          rintro e w' ⟨rfl, rfl⟩
          obtain ⟨ca, cc, hcv⟩ := clip_len HO.out.1
          rw [List.length_map, hKl] at hcv
          rw [hcv]
          go_upto_if 70 with fail
          have hP2 : PAt (wr.setCell ⟨p, 2, none⟩ (.slice ca M cc)) p ws (.slice ca M cc) (cmdK v q K) := HPK.out.set 2 _ rfl
          have hG2 : W1.grownBy (wr.setCell ⟨p, 2, none⟩ (.slice ca M cc)) (some p) := grown_trans hgk (grown_set _ _ _ _)
          have hS2 : Seg (wr.setCell ⟨p, 2, none⟩ (.slice ca M cc)) p ws (l.drop M) := HSK.out.grown (grown_set _ _ _ _)
          have hO2 : OwnT (wr.setCell ⟨p, 2, none⟩ (.slice ca M cc)) W1.heap.size 9 (.slice ca M cc) (K.map sv) := by
            rw [← hcv]
            exact OwnT.grown (OwnT.clip HO.out) (grown_set _ _ _ _) (by omega)
          generalize wr.setCell ⟨p, 2, none⟩ (.slice ca M cc) = W2 at *
          have HCV := Lib.hid hcv
          have HP2 := Lib.hid hP2
          have HG2 := Lib.hid hG2
          have HS2 := Lib.hid hS2
          have HO2 := Lib.hid hO2
          clear hcv hP2 hG2 hS2 hO2 c2 f2 HPK HSK HOWN HO HP1 HS1
          go_cut [] (fun wx => ∃ W3, W3 = wx ∧ PAt W3 p ws (.slice ca M cc) (cmd0 v q K) ∧ Seg W3 p ws (l.drop M) ∧ OwnT W3 W1.heap.size 9 (.slice ca M cc) (K.map sv) ∧ W1.grownBy W3 (some p))
          case first =>
            have c2 := HP2.out.cell 2 rfl
            have c4 := HP2.out.cell 4 rfl
            have f4 := HP2.out.free 4
            cases K with
            | nil =>
              rw [show decide (0 < M) = false from by rw [decide_eq_false_iff_not]; simp at hKl; omega]
              go_wp2_with fail
              go_meet
              case rel => exact ⟨_, rfl, HP2.out, HS2.out, HO2.out, HG2.out⟩
            | cons x K' =>
              rw [show decide (0 < M) = true from by rw [decide_eq_true_eq]; simp at hKl; omega]
              obtain ⟨gg, oo, cc', he, _, _, hcell, _⟩ := HO2.out.1.at (k := 0) (x := sv x) rfl
              have hix : ∀ W : World, (Instr.indexAt 35 (.slice ca M cc) (.int .i64 0)).run Tryz.prog W = .ok (.pointer (some ⟨gg, oo, none⟩)) W := fun W => idx_str' (n := M) (c := cc) (k := 0) (slice_inj he).1 (by simp at hKl; omega) W
              have hcell' : W2.cell? ⟨gg, oo, none⟩ = some (sv x) := hcell
              clear hcell
              clear he
              go_wp2_with fail
              go_meet
              case rel => exact ⟨_, rfl, HP2.out.set 4 _ rfl, HS2.out.grown (grown_set _ _ _ _), OwnT.grown HO2.out (grown_set _ _ _ _) (by omega), grown_trans HG2.out (grown_set _ _ _ _)⟩
          case rest =>
            obtain ⟨W3, rfl, hP3, hS3, hO3, hG3⟩ := hcut
            go_wp2_with fail
            refine (readers_any p W3).mono ?_
            rintro e w' ⟨rfl, rfl⟩
            have hP4 := hP3.grown (World.grownBy_alloc W3 (.map (readerEs p).toArray 5) none) (by simp)
            have hG4 := grown_trans hG3 (World.grownBy_alloc W3 (.map (readerEs p).toArray 5) (some p))
            have hS4 := hS3.grown (World.grownBy_alloc W3 (.map (readerEs p).toArray 5) (some p))
            have hO4 := OwnT.grown hO3 (World.grownBy_alloc W3 (.map (readerEs p).toArray 5) (some p)) (by omega)
            have hMP : (W3.alloc (.map (readerEs p).toArray 5)).heap[W3.heap.size]? = some (.map (readerEs p).toArray 5) := by rw [heap_at, if_pos rfl]
            have hB3 := hG3.size
            have hpW3 : p < W3.heap.size := hP3.lt
            generalize hbm : W3.heap.size = bm at *
            clear hbm
            generalize W3.alloc (.map (readerEs p).toArray 5) = W4 at *
            have HMP := Lib.hid hMP
            have HP4 := Lib.hid hP4
            have HG4 := Lib.hid hG4
            have HS4 := Lib.hid hS4
            have HO4 := Lib.hid hO4
            have HRD := Lib.hid (HREAD.out hbk)
            clear hMP hP4 hG4 hS4 hO4 hP3 hG3 hS3 hO3 HP2 HS2 HO2 HG2 HREAD HBAD hbk
            have hlD : (l.drop M).length ≤ 3000 := by rw [List.length_drop]; omega
            have hNr : (l.drop M).length ≤ (restOf v).length := hm
            clear hm
            generalize hLD : l.drop M = D at *
            clear hLD
            go_wp2_with fail
            go_loopw [7] (fun s7 wr => ∃ i : Nat, i ≤ D.length ∧ s7 = .int .i64 i ∧ ReadInv p v q K D (.slice ca M cc) W4 i wr) (fun s7 _ => D.length - (intOf s7).toNat)
            case atStart => exact ⟨0, Nat.zero_le _, rfl, ws, cmd0 v q K, HP4.out, HS4.out, World.grownBy.refl _ _, rfl, rfl⟩
            case round =>
              obtain ⟨i, hi, rfl, ws4, c4, hp4, hs4, hg4, hk4, hr4⟩ := hrel
              by_cases hlt : i < D.length
              · obtain ⟨x, hx⟩ : ∃ x, D[i]? = some x := ⟨_, List.getElem?_eq_getElem hlt⟩
                obtain ⟨f, hf⟩ : ∃ f, (restOf v)[i]? = some f := ⟨_, List.getElem?_eq_getElem (by omega)⟩
                have hDd : D.drop i = x :: D.drop (i + 1) := by
                  obtain ⟨h1, h2⟩ := List.getElem?_eq_some_iff.1 hx
                  rw [List.drop_eq_getElem_cons h1, h2]
                rw [hDd] at hs4
                obtain ⟨g4, o4, cap4, rfl, hcap4, hcm4, hgp4, hgl4, hwc4⟩ := id hs4
                have hcl := hp4.cell 0 rfl
                have hRd : (restOf v).drop i = f :: (restOf v).drop (i + 1) := by
                  obtain ⟨h1, h2⟩ := List.getElem?_eq_some_iff.1 hf
                  rw [List.drop_eq_getElem_cons h1, h2]
                have hf5 : f < 5 := rest_lt (List.mem_of_getElem? hf)
                have hR0 : rr = .slice (some ⟨rb, 0, none⟩) (restOf v).length rc := by rw [HRR.out, if_neg (by omega)]
                have hRl : (i : Int) < ((restOf v).length : Int) := by omega
                have hR3 : ((restOf v).length : Int) ≤ 5 := by have := rest_len v; omega
                have hi0 : (0 : Int) ≤ (i : Int) := by omega
                have hbox : wr.cell? ⟨w.heap.size, 5, none⟩ = some (.slice (some ⟨rb, 0, none⟩) (restOf v).length rc) := by
                  have h1 : W1.cell? ⟨w.heap.size, 5, none⟩ = some rr := by rw [(block_cell HBX.out 5).1]; rfl
                  rw [hR0] at h1
                  exact grown_cell (grown_cell h1 HG4.out (by omega)) hg4 (by omega)
                have hfc : wr.cell? ⟨rb, i, none⟩ = some (.int .i64 (f : Int)) := grown_cell (grown_cell (grown_cell (HR.out i f hf) HG1.out hrb) HG4.out hrb) hg4 hrb
                have hbmW : bm < W4.heap.size := lt_of_block HMP.out
                have hmw : wr.heap[bm]? = some (.map (readerEs p).toArray 5) := (hg4.block bm hbmW (by simp; omega)).trans HMP.out
                have hcf := fun W => call_reader hf5 #[.pointer (some ⟨p, 0, none⟩), sv x] W
                have hlk0 := readers_at (w := wr.drew) hmw hf5
                have HMW := Lib.hid hmw
                have hgw : w.grownBy wr (some p) := grown_trans (grown_trans HG1.out HG4.out) hg4
                have HGW := Lib.hid hgw
                have HP5 := Lib.hid hp4
                have HS5 := Lib.hid hs4
                have HX := Lib.hid hDd
                have HRD2 := Lib.hid hRd
                have HR4 := Lib.hid hr4
                have HG5 := Lib.hid hg4
                have HK4 := Lib.hid hk4
                generalize (restOf v).length = nR at *
                have hcall := fun (ws : Value) (W : World) hP hE => reads_at f hf5 p ws (.slice ca M cc) c4 x W hP hE
                have hwl := hg4.size
                have hbmr : bm < wr.heap.size := by omega
                clear hp4 hs4 hr4 hk4 hgw hx hf hDd hRd hR0 hmw hg4 hwc4
                have hrf : (readF c4 f x).2 = false → parseW v q l = (noCmd, if f = 4 then 4 else 2) := fun hb => by
                  have h1 := HR4.out
                  rw [HRD2.out, HX.out] at h1
                  have h2 : readAll c4 (f :: (restOf v).drop (i + 1)) (x :: D.drop (i + 1)) = ((readF c4 f x).1, if f = 4 then 4 else 2) := by simp [readAll, hb]
                  rw [HRD.out, h1, h2, if_pos (by split <;> simp)]
                have hrt : (readF c4 f x).2 = true → readAll (cmd0 v q K) (restOf v) D = readAll (readF c4 f x).1 ((restOf v).drop (i + 1)) (D.drop (i + 1)) := fun hb => by
                  rw [HR4.out, HRD2.out, HX.out]
                  simp [readAll, hb]
                have HRF := Lib.hid hrf
                have HRT := Lib.hid hrt
                clear hrf hrt
                cases hb : (readF c4 f x).2
                · rw [hb] at hcall
                  have HCALL := Lib.hid hcall
                  have HB := Lib.hid hb
                  clear hcall hb
                  by_cases hf4 : f = 4
                  · have hff : ((f : Int) == 4) = true := by rw [hf4]; rfl
                    have HF4 := Lib.hid hf4
                    clear hf4
                    go_wp2_with fail
                    go_region_law
                      (first
                        | (refine step_call (by rfl) 94 #[.pointer (some ⟨p, 0, none⟩)] (by go_simp) (word_any p _ (.slice ca M cc) c4 x (D.drop (i + 1)) _ HP5.out.drew HS5.out.drew) ?_; rintro e w2 ⟨rfl, ws2, hp2, hs2, hg2, _⟩; refine ⟨_, rfl, ?_⟩; have hlk2 := readers_at (w := w2) ((hg2.block bm hbmr (by simp; omega)).trans HMW.out) hf5; have HP2 := Lib.hid hp2; have HS2 := Lib.hid hs2; have HG2 := Lib.hid hg2; clear hp2 hs2 hg2)
                        | (refine step_call (by rfl) (readerFn f) #[.pointer (some ⟨p, 0, none⟩), sv x] (by go_simp) (HCALL.out ws2 _ HP2.out (HE.out _ (grown_trans (grown_drew HGW.out) HG2.out))) ?_; rintro e w3 ⟨rfl, hp3, hg3⟩; refine ⟨_, rfl, ?_⟩; have HP3 := Lib.hid hp3; have HG3 := Lib.hid hg3; clear hp3 hg3)
                        | fail)
                    all_goals go_wp2_with fail
                    all_goals go_ret
                    all_goals have hpw := HRF.out HB.out
                    all_goals rw [if_pos HF4.out] at hpw
                    all_goals exact ⟨_, _, _, by rw [hpw]; rfl, grown_trans (grown_trans (grown_drew HGW.out) HG2.out) HG3.out, HP3.out, fun h => by rw [hpw] at h; simp at h⟩
                  · have hff : ((f : Int) == 4) = false := by rw [beq_eq_false_iff_ne]; omega
                    have HF4 := Lib.hid hf4
                    clear hf4
                    go_wp2_with fail
                    go_region_law
                      (first
                        | (refine step_call (by rfl) 94 #[.pointer (some ⟨p, 0, none⟩)] (by go_simp) (word_any p _ (.slice ca M cc) c4 x (D.drop (i + 1)) _ HP5.out.drew HS5.out.drew) ?_; rintro e w2 ⟨rfl, ws2, hp2, hs2, hg2, _⟩; refine ⟨_, rfl, ?_⟩; have hlk2 := readers_at (w := w2) ((hg2.block bm hbmr (by simp; omega)).trans HMW.out) hf5; have HP2 := Lib.hid hp2; have HS2 := Lib.hid hs2; have HG2 := Lib.hid hg2; clear hp2 hs2 hg2)
                        | (refine step_call (by rfl) (readerFn f) #[.pointer (some ⟨p, 0, none⟩), sv x] (by go_simp) (HCALL.out ws2 _ HP2.out (HE.out _ (grown_trans (grown_drew HGW.out) HG2.out))) ?_; rintro e w3 ⟨rfl, hp3, hg3⟩; refine ⟨_, rfl, ?_⟩; have HP3 := Lib.hid hp3; have HG3 := Lib.hid hg3; clear hp3 hg3)
                        | fail)
                    all_goals go_wp2_with fail
                    all_goals go_ret
                    all_goals have hpw := HRF.out HB.out
                    all_goals rw [if_neg HF4.out] at hpw
                    all_goals exact ⟨_, _, _, by rw [hpw]; rfl, grown_trans (grown_trans (grown_drew HGW.out) HG2.out) HG3.out, HP3.out, fun h => by rw [hpw] at h; simp at h⟩
                · rw [hb] at hcall
                  have HCALL := Lib.hid hcall
                  have HB := Lib.hid hb
                  clear hcall hb
                  go_wp2_with fail
                  go_region_law
                    (first
                      | (refine step_call (by rfl) 94 #[.pointer (some ⟨p, 0, none⟩)] (by go_simp) (word_any p _ (.slice ca M cc) c4 x (D.drop (i + 1)) _ HP5.out.drew HS5.out.drew) ?_; rintro e w2 ⟨rfl, ws2, hp2, hs2, hg2, _⟩; refine ⟨_, rfl, ?_⟩; have hlk2 := readers_at (w := w2) ((hg2.block bm hbmr (by simp; omega)).trans HMW.out) hf5; have HP2 := Lib.hid hp2; have HS2 := Lib.hid hs2; have HG2 := Lib.hid hg2; clear hp2 hs2 hg2)
                      | (refine step_call (by rfl) (readerFn f) #[.pointer (some ⟨p, 0, none⟩), sv x] (by go_simp) (HCALL.out ws2 _ HP2.out (HE.out _ (grown_trans (grown_drew HGW.out) HG2.out))) ?_; rintro e w3 ⟨rfl, hp3, hg3⟩; refine ⟨_, rfl, ?_⟩; have HP3 := Lib.hid hp3; have HG3 := Lib.hid hg3; clear hp3 hg3)
                      | fail)
                  all_goals go_wp2_with fail
                  all_goals go_roundw
                  case rel => exact ⟨i + 1, by omega, by go_num, _, _, HP3.out, HS2.out.grown HG3.out, grown_trans (grown_trans (grown_drew HG5.out) HG2.out) HG3.out, by rw [readF_keys]; exact HK4.out, HRT.out HB.out⟩
                  case measure => simp [intOf]; omega
                  case rel => exact ⟨i + 1, by omega, by go_num, _, _, HP3.out, HS2.out.grown HG3.out, grown_trans (grown_trans (grown_drew HG5.out) HG2.out) HG3.out, by rw [readF_keys]; exact HK4.out, HRT.out HB.out⟩
                  case measure => simp [intOf]; omega
              · have hi' : i = D.length := by omega
                have hD0 : D.drop i = [] := by rw [hi', List.drop_length]
                rw [hD0] at hs4
                obtain ⟨g4, o4, cap4, rfl, hcap4, hcm4, hgp4, hgl4, hwc4⟩ := id hs4
                have hcl := hp4.cell 0 rfl
                have hr5 : readAll (cmd0 v q K) (restOf v) D = (c4, 0) := by
                  rw [hr4, hD0]
                  cases (restOf v).drop i <;> rfl
                have hr6 := HRD.out
                rw [hr5] at hr6
                have hc10 := hp4.cell 10 rfl
                have HP5 := Lib.hid hp4
                have HO5 := Lib.hid (OwnT.grown HO4.out hg4 (by omega))
                have HG5 := Lib.hid (grown_trans (grown_trans HG1.out HG4.out) hg4)
                have HR6 := Lib.hid hr6
                have HK4 := Lib.hid hk4
                have HB1 := Lib.hid hsz
                clear hr6 hr5 hr4 hD0 hp4 hs4 hg4 hwc4 hk4
                by_cases hb : 1024 < c4.bytes
                · go_wp2_with fail
                  go_ret
                  have h1 : parseW v q l = (c4, 5) := by have := HR6.out; simp only [ne_eq, not_true_eq_false, if_false] at this; rwa [if_pos hb] at this
                  exact ⟨_, _, c4, by rw [h1]; rfl, HG5.out, HP5.out, fun _ => ⟨by rw [h1], by rw [HK4.out]; exact HO5.out.mono (by omega)⟩⟩
                · go_wp2_with fail
                  go_ret
                  have h1 : parseW v q l = (c4, 0) := by have := HR6.out; simp only [ne_eq, not_true_eq_false, if_false] at this; rwa [if_neg (by omega)] at this
                  exact ⟨_, _, c4, by rw [h1]; rfl, HG5.out, HP5.out, fun _ => ⟨by rw [h1], by rw [HK4.out]; exact HO5.out.mono (by omega)⟩⟩
        · go_wp2_with fail
          go_ret
          have hb := HBAD.out hbk
          exact ⟨ws, ks, _, by rw [hb]; rfl, grown_trans HG1.out hgk, HPK.out, fun h => by rw [hb] at h; simp at h⟩
end Go.Proofs.YtddifbimlmkcbaaGreatDoor
