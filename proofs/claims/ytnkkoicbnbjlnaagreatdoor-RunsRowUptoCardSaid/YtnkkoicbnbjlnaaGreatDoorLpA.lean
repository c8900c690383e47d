/- The first half of (*parser).parse: the keys are taken from the words. No condition but that the words lie apart from the parser. And what goes with it (2 texts). -/
import Derived.Test.YtnkkoicbnbjlnaaGreatDoorReaders
import Derived.Test.YtnkkoicbnbjlnaaGreatDoorLowD
import Derived.Test.YtnkkoicbnbjlnaaGreatDoorLowC
import Derived.RegionTactic
import Derived.BigRegion
import Derived.Outline
import Derived.Deep.RegionHeld3
import Derived.Deep.AppendLies
import Derived.Deep.RegionLaw
import Derived.Deep.DeepCutAuto
import Derived.Test.YtnkkoicbnbjlnaaGreatDoorLowA
namespace Go.Proofs.YtnkkoicbnbjlnaaGreatDoor
set_option maxRecDepth 100000
set_option maxHeartbeats 8000000
open Go.RowKit Go.ChangeMaps Go.MapKept
theorem grown_drew {w w' : World} {r : Option Nat} (h : w.grownBy w' r) : w.grownBy w'.drew r := ⟨h.os, h.tape, h.output, h.size, h.block⟩
theorem below_then {B : Nat} {w0 w w' : World} {p : Nat} (hb : Below B w0 w) (hB : B ≤ w.heap.size) (hg : w.grownBy w' (some p)) (hp : B ≤ p) : Below B w0 w' :=
 ⟨hg.os.trans hb.os, hg.tape.trans hb.tape, hg.output.trans hb.output, Nat.le_trans hb.size hg.size, fun k hk => (hg.block k (Nat.lt_of_lt_of_le hk hB) (by simp; omega)).trans (hb.block k hk)⟩
theorem step_call {P : Program} {w : World} {ops : Array Oper} {o : Oper} {a : Act} {K : Act → World → Prop} {Q : Exit → Act → World → Prop} {E : Prop} (hgd : o.guard = none) (f : Nat) (args : Array Value) (hrun : (execOp a.eval o).run P w = .ok (.enter f args) w)
  {R : Ending → World → Prop} (hC : Calls P f args w R) (hR : ∀ e w', R e w' → ∃ v, e = .returned v ∧ K (a.put o.dst v) w') :
  if Region.wanted o (yielded ops a.tmps) = true then Oper.wp P o a w K Q else E := by
 have hw : Region.wanted o (yielded ops a.tmps) = true := by simp [Region.wanted, hgd]
 rw [if_pos hw]
 unfold Oper.wp
 rw [hrun, Oper.upon_enter]
 refine hC.mono fun e w' hr => ?_
 obtain ⟨v, rfl, hk⟩ := hR e w' hr
 exact hk
theorem PAt.drew {w : World} {p : Nat} {ws ks : Value} {c : Cmd} (h : PAt w p ws ks c) : PAt w.drew p ws ks c := h
theorem Seg.drew {w : World} {p : Nat} {v : Value} {xs : List (List UInt8)} (h : Seg w p v xs) : Seg w.drew p v xs := h
theorem own_keep {w w' : World} {B n p : Nat} {e : TypeId} {v : Value} {xs : List Value} (h : w.ownsRow B e 1 v n xs) (hp : p < B) (hg : w.grownBy w' (some p)) : w'.ownsRow B e 1 v n xs := by
 obtain ⟨hl, h2⟩ := h
 refine ⟨hl, h2.imp id ?_⟩
 rintro ⟨g, cap, cur, rfl, hgB, hh, hr⟩
 exact ⟨g, cap, cur, rfl, hgB, (hg.block g (Array.getElem?_eq_some_iff.1 hh).1 (by simp; omega)).trans hh, hr⟩
theorem own_drew {w : World} {B n : Nat} {e : TypeId} {v : Value} {xs : List Value} (h : w.ownsRow B e 1 v n xs) : w.drew.ownsRow B e 1 v n xs := h
theorem own_apart {w : World} {B n p : Nat} {e : TypeId} {v : Value} {xs : List Value} (h : w.ownsRow B e 1 v n xs) (hp : p < B) : v.ownBlock ≠ some p := by
 obtain ⟨hl, h2⟩ := h
 rcases h2 with ⟨rfl, _⟩ | ⟨g, cap, cur, rfl, hgB, _⟩
 ·simp [Value.ownBlock]
 ·simp [Value.ownBlock]; omega
abbrev cmdK (v : Nat) (q : Bool) (K : List (List UInt8)) : Cmd := ⟨v, K, v, [], [], 0, 0, 0, 0, -1, q⟩
def KeysInv (p v : Nat) (q : Bool) (l : List (List UInt8)) (B : Nat) (W1 : World) (k : Nat) (wr : World) : Prop :=
 ∃ ws ks, PAt wr p ws ks (cmdK v q (l.take k)) ∧ Seg wr p ws (l.drop k) ∧ wr.ownsRow B 9 1 ks (l.take k).length ((l.take k).map sv) ∧ W1.grownBy wr (some p) ∧ (∀ b, ws.ownBlock = some b → b < B)
theorem Seg.far {w w' : World} {p : Nat} {v : Value} {xs : List (List UInt8)} {r : Option Nat} (h : Seg w p v xs) (hg : w.grownBy w' r) (hr : v.ownBlock ≠ r) : Seg w' p v xs := by
 obtain ⟨g, o, c, rfl, h1, h2, h3, h4, h5⟩ := h
 exact ⟨g, o, c, rfl, h1, h2, h3, Nat.lt_of_lt_of_le h4 hg.size, fun j x hx => (hg.cell_far ⟨g, o + j, none⟩ h4 (by simpa [Value.ownBlock] using hr)).trans (h5 j x hx)⟩
theorem own_at {w : World} {B n : Nat} {e : TypeId} {v : Value} {xs : List Value} (h : w.ownsRow B e 1 v n xs) (b : Nat) (hb : v.ownBlock = some b) : B ≤ b := by
 obtain ⟨hl, h2⟩ := h
 rcases h2 with ⟨rfl, _⟩ | ⟨g, cap, cur, rfl, hgB, _⟩
 ·simp [Value.ownBlock] at hb
 ·simp [Value.ownBlock] at hb; omega
theorem keys_step {p k gg cp : Nat} {W1 wr w2 w3 : World} {ws2 ks : Value} {v : Nat} {q : Bool} {l : List (List UInt8)} {x : List UInt8} {o : Obj} (hx : l[k]? = some x) (hpB : p < W1.heap.size)
  (hp2 : PAt w2 p ws2 ks (cmdK v q (l.take k))) (hs2 : Seg w2 p ws2 (l.drop (k + 1))) (hgk : W1.grownBy wr (some p)) (hg2 : wr.drew.grownBy w2 (some p)) (hown : wr.ownsRow W1.heap.size 9 1 ks (l.take k).length ((l.take k).map sv))
  (hb : ∀ b, ws2.ownBlock = some b → b < W1.heap.size) (hgrow : (w2.alloc o).grownBy w3 ks.ownBlock)
  (hown3 : w3.ownsRow W1.heap.size 9 1 (.slice (some ⟨gg, 0, none⟩) ((l.take k).length + 1) cp) ((l.take k).length + 1) ((l.take k).map sv ++ [sv x])) :
  KeysInv p v q l W1.heap.size W1 (k + 1) (w3.setCell ⟨p, 2, none⟩ (.slice (some ⟨gg, 0, none⟩) ((l.take k).length + 1) cp)) := by
 have hap := own_apart hown hpB
 have ht : l.take (k + 1) = l.take k ++ [x] := by rw [List.take_add_one, hx]; rfl
 have hne : ws2.ownBlock ≠ ks.ownBlock := by
  intro he
  obtain ⟨g, o', c', rfl, _⟩ := hs2
  have h1 := hb g rfl
  have h2 := own_at hown g (by rw [← he]; rfl)
  omega
 have hp3 : PAt w3 p ws2 ks (cmdK v q (l.take k)) := (hp2.grown (World.grownBy_alloc _ o none) (by simp)).grown hgrow (Ne.symm hap)
 have hs3 : Seg w3 p ws2 (l.drop (k + 1)) := (hs2.grown (World.grownBy_alloc _ o (some p))).far hgrow hne
 refine ⟨ws2, .slice (some ⟨gg, 0, none⟩) ((l.take k).length + 1) cp, ?_, hs3.grown (grown_set _ _ _ _), ?_, ?_, hb⟩
 ·refine hp3.set 2 _ ?_
  rw [ht]
  simp [cmdCells]
 ·rw [ht, List.length_append, List.map_append]
  exact ownsRow_setCell_below hown3 (a := ⟨p, 2, none⟩) hpB _
 ·refine grown_trans ?_ (grown_set _ _ _ _)
  have h1 : W1.grownBy w2 (some p) := grown_trans hgk ⟨hg2.os, hg2.tape, hg2.output, hg2.size, hg2.block⟩
  have h2 : W1.grownBy (w2.alloc o) (some p) := grown_trans h1 (World.grownBy_alloc _ _ _)
  refine ⟨hgrow.os.trans h2.os, hgrow.tape.trans h2.tape, hgrow.output.trans h2.output, Nat.le_trans h2.size hgrow.size, fun j hj hjp => (hgrow.block j (Nat.lt_of_lt_of_le hj h2.size) ?_).trans (h2.block j hj hjp)⟩
  intro he
  have := own_at hown j he.symm
  omega
def clipV : Value → Value
 | .slice (some a) n _ => .slice (some a) n n
 | v => v
theorem clip_value {w : World} {B : Nat} {v : Value} {xs : List Value} (h : Own w B v xs) : Calls Tryz.prog 281 #[v] w fun e w' => e = .returned (clipV v) ∧ w = w' := by
 by_cases hne : xs = []
 ·subst hne
  obtain ⟨a, c, rfl, h1, h2, h3, h4⟩ := h
  cases a with
  | none => obtain rfl := h3 rfl; exact clip_nil w
  | some a => exact clip_some a _ c w h1 h2
 ·obtain ⟨g, o, c, rfl, h1, h2, h3, h4, _⟩ := h.some hne
  exact clip_some _ _ c w h3 h4
theorem clip_len {w : World} {B : Nat} {v : Value} {xs : List Value} (h : Own w B v xs) : ∃ a c, clipV v = .slice a xs.length c := by
 obtain ⟨a, c, rfl⟩ := h.len
 cases a
 ·exact ⟨none, c, rfl⟩
 ·exact ⟨_, _, rfl⟩
theorem own_clip {w : World} {B : Nat} {v : Value} {xs : List Value} (h : Own w B v xs) : Own w B (clipV v) xs := by
 obtain ⟨a, c, rfl, h1, h2, h3, h4⟩ := h
 cases a with
 | none => exact ⟨none, c, rfl, h1, h2, h3, h4⟩
 | some a => exact ⟨some a, xs.length, rfl, Nat.le_refl _, by omega, (fun h => by cases h), h4⟩
theorem own_grown {w w' : World} {B p : Nat} {v : Value} {xs : List Value} (h : Own w B v xs) (hg : w.grownBy w' (some p)) (hp : p < B) : Own w' B v xs := by
 obtain ⟨a, c, rfl, h1, h2, h3, h4⟩ := h
 refine ⟨a, c, rfl, h1, h2, h3, h4.imp id ?_⟩
 rintro ⟨g, o, rfl, hg5, h5⟩
 refine ⟨g, o, rfl, hg5, fun j x hx => ?_⟩
 have h6 := cell_lt (h5 j x hx).1
 rw [hg.cell_far ⟨g, o + j, none⟩ h6 (by simp; omega), hg.frozen_far ⟨g, o + j, none⟩ h6 (by simp; omega)]
 exact h5 j x hx
def OwnT (w : World) (B : Nat) (e : TypeId) (v : Value) (xs : List Value) : Prop := Own w B v xs ∧ ∀ g, v.ownBlock = some g → B ≤ g ∧ ∃ cs fz, w.heap[g]? = some (.cells cs e fz)
theorem OwnT.of_row {w : World} {B : Nat} {e : TypeId} {v : Value} {xs : List Value} (h : w.ownsRow B e 1 v xs.length xs) : OwnT w B e v xs := by
 refine ⟨Own.of_row h, fun g hg => ?_⟩
 rcases h.2 with ⟨rfl, _⟩ | ⟨g', cap, cur, rfl, hB, hh, _⟩
 ·simp [Value.ownBlock] at hg
 ·obtain rfl : g' = g := by simpa [Value.ownBlock] using hg
  exact ⟨hB, _, _, hh⟩
theorem OwnT.clip {w : World} {B : Nat} {e : TypeId} {v : Value} {xs : List Value} (h : OwnT w B e v xs) : OwnT w B e (clipV v) xs := by
 refine ⟨own_clip h.1, fun g hg => h.2 g ?_⟩
 obtain ⟨a, c, rfl⟩ := h.1.len
 cases a <;> exact hg
theorem OwnT.grown {w w' : World} {B p : Nat} {e : TypeId} {v : Value} {xs : List Value} (h : OwnT w B e v xs) (hg : w.grownBy w' (some p)) (hp : p < B) : OwnT w' B e v xs := by
 refine ⟨own_grown h.1 hg hp, fun g hv => ?_⟩
 obtain ⟨hB, cs, fz, hh⟩ := h.2 g hv
 exact ⟨hB, cs, fz, (hg.block g (lt_of_block hh) (by simp; omega)).trans hh⟩
theorem OwnT.mono {w : World} {B B' : Nat} {e : TypeId} {v : Value} {xs : List Value} (h : OwnT w B e v xs) (hB : B' ≤ B) : OwnT w B' e v xs :=
 ⟨h.1.mono hB, fun g hg => by obtain ⟨h1, h2⟩ := h.2 g hg; exact ⟨by omega, h2⟩⟩
theorem grown_cell {w w' : World} {p b j : Nat} {x : Value} (h : w.cell? ⟨b, j, none⟩ = some x) (hg : w.grownBy w' (some p)) (hb : b ≠ p) : w'.cell? ⟨b, j, none⟩ = some x :=
 (hg.cell_far ⟨b, j, none⟩ (cell_lt h) (by simpa using hb)).trans h
abbrev cmdQ (q : Bool) : Cmd := ⟨0, [], 0, [], [], 0, 0, 0, 0, 0, q⟩
def cmd0 (v : Nat) (q : Bool) (K : List (List UInt8)) : Cmd := ⟨v, K, v, K.headD [], [], 0, 0, 0, 0, -1, q⟩
def manyOf (v : Nat) (l : List (List UInt8)) : Nat := if keysOf v then l.length else min (leastOf v) 1
theorem manyOf_le {v : Nat} {l : List (List UInt8)} (h : leastOf v ≤ l.length) : manyOf v l ≤ l.length := by
 unfold manyOf; split <;> omega
theorem parseW_bad {v : Nat} {q : Bool} {l : List (List UInt8)} (h : (l.take (manyOf v l)).any badKey = true) : parseW v q l = (noCmd, 2) := by
 unfold parseW; exact if_pos h
theorem parseW_read {v : Nat} {q : Bool} {l : List (List UInt8)} (h : (l.take (manyOf v l)).any badKey = false) :
  parseW v q l = (if (readAll (cmd0 v q (l.take (manyOf v l))) (restOf v) (l.drop (manyOf v l))).2 ≠ 0 then (noCmd, (readAll (cmd0 v q (l.take (manyOf v l))) (restOf v) (l.drop (manyOf v l))).2)
   else if 1024 < (readAll (cmd0 v q (l.take (manyOf v l))) (restOf v) (l.drop (manyOf v l))).1.bytes then ((readAll (cmd0 v q (l.take (manyOf v l))) (restOf v) (l.drop (manyOf v l))).1, 5)
   else ((readAll (cmd0 v q (l.take (manyOf v l))) (restOf v) (l.drop (manyOf v l))).1, 0)) := by
 unfold parseW; exact if_neg (by rw [show (l.take (if keysOf v = true then l.length else min (leastOf v) 1)).any (fun k => !okB k) = (l.take (manyOf v l)).any badKey from rfl, h]; simp)
def LpOk (p v : Nat) (q : Bool) (l : List (List UInt8)) (w : World) (e : Ending) (w' : World) : Prop :=
 ∃ ws' ks' c', e = .returned (.int .u8 ((parseW v q l).2 : Int)) ∧ w.grownBy w' (some p) ∧ PAt w' p ws' ks' c' ∧ ((parseW v q l).2 = 0 ∨ (parseW v q l).2 = 5 → c' = (parseW v q l).1 ∧ OwnT w' w.heap.size 9 ks' (c'.keys.map sv))
theorem rest_len (v : Nat) : (restOf v).length ≤ 4 := by
 by_cases h : v < 14
 ·revert v; decide
 ·simp [restOf, List.getD_eq_getElem?_getD, List.getElem?_eq_none (l := [[], [], [], [0, 1, 2], [0, 1, 2], [0, 1, 2], [0, 1, 2, 3], [], [1], [4], [4], [1], [], []]) (i := v) (by simp; omega)]
theorem rest_lt {v f : Nat} (hf : f ∈ restOf v) : f < 5 := by
 by_cases h : v < 14
 ·have : ∀ v < 14, ∀ f ∈ restOf v, f < 5 := by decide
  exact this v h f hf
 ·simp [restOf, List.getD_eq_getElem?_getD, List.getElem?_eq_none (l := [[], [], [], [0, 1, 2], [0, 1, 2], [0, 1, 2], [0, 1, 2, 3], [], [1], [4], [4], [1], [], []]) (i := v) (by simp; omega)] at hf
theorem readF_keys (c : Cmd) (f : Nat) (x : List UInt8) : (readF c f x).1.keys = c.keys := by
 unfold readF; repeat (first | rfl | split)
theorem call_flags (args : Array Value) (w : World) : (callFunc 310 args).run Tryz.prog w = .ok (.enter 310 args) w := by kernel_rfl
theorem call_exp (args : Array Value) (w : World) : (callFunc 311 args).run Tryz.prog w = .ok (.enter 311 args) w := by kernel_rfl
theorem call_size (args : Array Value) (w : World) : (callFunc 312 args).run Tryz.prog w = .ok (.enter 312 args) w := by kernel_rfl
theorem call_id (args : Array Value) (w : World) : (callFunc 313 args).run Tryz.prog w = .ok (.enter 313 args) w := by kernel_rfl
theorem call_by (args : Array Value) (w : World) : (callFunc 314 args).run Tryz.prog w = .ok (.enter 314 args) w := by kernel_rfl
theorem call_reader {f : Nat} (hf : f < 5) (args : Array Value) (w : World) : (callFunc (readerFn f) args).run Tryz.prog w = .ok (.enter (readerFn f) args) w := by
 match f, hf with
 | 0, _ => exact call_flags args w
 | 1, _ => exact call_exp args w
 | 2, _ => exact call_size args w
 | 3, _ => exact call_id args w
 | 4, _ => exact call_by args w
def ReadInv (p v : Nat) (q : Bool) (K D : List (List UInt8)) (kv : Value) (W4 : World) (i : Nat) (wr : World) : Prop :=
 ∃ ws c, PAt wr p ws kv c ∧ Seg wr p ws (D.drop i) ∧ W4.grownBy wr (some p) ∧ c.keys = K ∧ readAll (cmd0 v q K) (restOf v) D = readAll c ((restOf v).drop i) (D.drop i)
theorem lparse_any (p v : Nat) (q : Bool) (rr ws : Value) (l : List (List UInt8)) (w : World) (hp : PAt w p ws (.slice none 0 0) (cmdQ q)) (hs : Seg w p ws l)
  (hE : ∀ w', w.grownBy w' (some p) → HasErr w') (hl : l.length ≤ 3000) (hL : ∀ x ∈ l, x.length ≤ maxLen) (hv : leastOf v ≤ l.length) (hm : (l.drop (manyOf v l)).length ≤ (restOf v).length)
  (rb rc : Nat) (hrr : rr = (if (restOf v).length = 0 then .slice none 0 0 else .slice (some ⟨rb, 0, none⟩) (restOf v).length rc)) (hrb : rb ≠ p) (hrc : ∀ (j f : Nat), (restOf v)[j]? = some f → w.cell? ⟨rb, j, none⟩ = some (.int .i64 (f : Int))) :
  Calls Tryz.prog 253 #[.pointer (some ⟨p, 0, none⟩), .agg #[.int .u8 (v : Int), .int .i64 (leastOf v : Int), .int .i64 (mostOf v : Int), .bool (quietOf v), .bool (keysOf v), rr]] w (LpOk p v q l w) := by
 obtain ⟨i0, hi, hz0, hz1, hz2⟩ := info_parts infoStr
 have Hi := hidZ hi
 have Hz := hidZ (And.intro hz0 (And.intro hz1 hz2))
 clear hi hz0 hz1 hz2
 have hlt := hp.lt
 obtain ⟨g, o, cap, rfl, hcap, hcm, hgp, hgl, hwc⟩ := id hs
 have g0 := hp.cell 0 rfl
 have g1 := hp.cell 1 rfl
 have g2 := hp.cell 2 rfl
 have g3 := hp.cell 3 rfl
 have g10 := hp.cell 10 rfl
 have f1 := hp.free 1
 have f3 := hp.free 3
 have f10 := hp.free 10
 have hM0 : manyOf v l = if keysOf v then l.length else min (leastOf v) 1 := rfl
 have hMl := manyOf_le hv
 have HP := hidZ hp
 have HS := hidZ hs
 have HE := hidZ hE
 have HR := hidZ hrc
 have HRR := hidZ hrr
 have HW := hidZ (rfl : parseW v q l = parseW v q l)
 have HM0 := hidZ hM0
 clear hp hs hE hwc hrc hrr hM0
 generalize hMM : manyOf v l = M at *
 have HMM := hidZ hMM
 clear hMM
 generalize hKK : keysOf v = kk at *
 have HKK := hidZ hKK
 clear hKK
 generalize hLL : leastOf v = ll at *
 have HLL := hidZ hLL
 clear hLL
 have hll : ll ≤ 3000 := by omega
 go_enter Tryz.func253, Tryz.ntmps253
 go_wp2_with fail
 go_region
 go_upto_if 30 with fail
 have hP1 : PAt ((((w.setCell ⟨p, 1, none⟩ (.int .u8 (v : Int))).setCell ⟨p, 3, none⟩ (.int .u8 (v : Int))).setCell ⟨p, 10, none⟩ (.int .i64 (-1))).alloc (.cells #[.int .u8 (v : Int), .int .i64 (ll : Int), .int .i64 (mostOf v : Int), .bool (quietOf v), .bool kk, rr] 369)).drew p (.slice (some ⟨g, o, none⟩) l.length cap) (.slice none 0 0) ⟨v, [], v, [], [], 0, 0, 0, 0, -1, q⟩ := by
  have h1 := ((HP.out.set 1 (.int .u8 (v : Int)) (ks' := .slice none 0 0) (c' := ⟨v, [], 0, [], [], 0, 0, 0, 0, 0, q⟩) rfl).set 3 (.int .u8 (v : Int)) (c' := ⟨v, [], v, [], [], 0, 0, 0, 0, 0, q⟩) rfl).set 10 (.int .i64 (-1)) (c' := ⟨v, [], v, [], [], 0, 0, 0, 0, -1, q⟩) rfl
  have h2 := h1.grown (World.grownBy_alloc _ (.cells #[.int .u8 (v : Int), .int .i64 (ll : Int), .int .i64 (mostOf v : Int), .bool (quietOf v), .bool kk, rr] 369) none) (by simp)
  exact h2
 have hG1 : w.grownBy ((((w.setCell ⟨p, 1, none⟩ (.int .u8 (v : Int))).setCell ⟨p, 3, none⟩ (.int .u8 (v : Int))).setCell ⟨p, 10, none⟩ (.int .i64 (-1))).alloc (.cells #[.int .u8 (v : Int), .int .i64 (ll : Int), .int .i64 (mostOf v : Int), .bool (quietOf v), .bool kk, rr] 369)).drew (some p) := by
  have h1 := grown_trans (grown_trans (grown_set w p 1 (.int .u8 (v : Int))) (grown_set _ p 3 (.int .u8 (v : Int)))) (grown_set _ p 10 (.int .i64 (-1)))
  exact grown_drew (grown_trans h1 (World.grownBy_alloc _ _ _))
 have hbx : ((((w.setCell ⟨p, 1, none⟩ (.int .u8 (v : Int))).setCell ⟨p, 3, none⟩ (.int .u8 (v : Int))).setCell ⟨p, 10, none⟩ (.int .i64 (-1))).alloc (.cells #[.int .u8 (v : Int), .int .i64 (ll : Int), .int .i64 (mostOf v : Int), .bool (quietOf v), .bool kk, rr] 369)).drew.heap[w.heap.size]? = some (.cells #[.int .u8 (v : Int), .int .i64 (ll : Int), .int .i64 (mostOf v : Int), .bool (quietOf v), .bool kk, rr] 369 (0, 0)) := by
  have h := heap_at (((w.setCell ⟨p, 1, none⟩ (.int .u8 (v : Int))).setCell ⟨p, 3, none⟩ (.int .u8 (v : Int))).setCell ⟨p, 10, none⟩ (.int .i64 (-1))) (.cells #[.int .u8 (v : Int), .int .i64 (ll : Int), .int .i64 (mostOf v : Int), .bool (quietOf v), .bool kk, rr] 369) w.heap.size
  rw [if_pos (by simp)] at h
  exact h
 have hsz : w.heap.size < ((((w.setCell ⟨p, 1, none⟩ (.int .u8 (v : Int))).setCell ⟨p, 3, none⟩ (.int .u8 (v : Int))).setCell ⟨p, 10, none⟩ (.int .i64 (-1))).alloc (.cells #[.int .u8 (v : Int), .int .i64 (ll : Int), .int .i64 (mostOf v : Int), .bool (quietOf v), .bool kk, rr] 369)).drew.heap.size := by have h := lt_of_block hbx; exact h
 have HS1 := hidZ (HS.out.grown hG1)
 generalize ((((w.setCell ⟨p, 1, none⟩ (.int .u8 (v : Int))).setCell ⟨p, 3, none⟩ (.int .u8 (v : Int))).setCell ⟨p, 10, none⟩ (.int .i64 (-1))).alloc (.cells #[.int .u8 (v : Int), .int .i64 (ll : Int), .int .i64 (mostOf v : Int), .bool (quietOf v), .bool kk, rr] 369)).drew = W1 at *
 have HP1 := hidZ hP1
 have HG1 := hidZ hG1
 have HBX := hidZ hbx
 clear hP1 hG1 hbx g0 g1 g2 g3 g10 f1 f3 f10 HP HS
 have hlI : (l.length : Int) ≤ 3000 := by omega
 have hMI : (M : Int) ≤ 3000 := by omega
 go_cut [5] (fun s5 wx => W1 = wx ∧ s5 = .int .i64 (M : Int))
 case first =>
  have g0 := HP1.out.cell 0 rfl
  cases kk
  ·go_wp2_with fail
   go_meet
   case rel => exact ⟨rfl, int_congr (by have := HM0.out; simp at this; omega)⟩
  ·go_wp2_with fail
   go_meet
   case rel => exact ⟨rfl, int_congr (by have := HM0.out; simp at this; omega)⟩
 case rest =>
  obtain ⟨rfl, rfl⟩ := hcut
  go_wp2_with fail
  go_loopw [37] (fun i wr => ∃ k : Nat, k ≤ M ∧ i = .int .i64 k ∧ KeysInv p v q l W1.heap.size W1 k wr) (fun i _ => M - (intOf i).toNat)
  case atStart => exact ⟨0, Nat.zero_le _, rfl, _, _, HP1.out, HS1.out, World.ownsRow_nil _ _ _ _, World.grownBy.refl _ _, fun b hb => by simp only [Value.ownBlock, Option.some.injEq] at hb; omega⟩
  case round =>
   obtain ⟨k, hk, rfl, ws, ks, hpk, hsk, hown, hgk, hbw⟩ := hrel
   by_cases hlk : k < M
   ·obtain ⟨x, hx⟩ : ∃ x, l[k]? = some x := ⟨_, List.getElem?_eq_getElem (by omega)⟩
    have hdrop : l.drop k = x :: l.drop (k + 1) := by
     obtain ⟨h1, h2⟩ := List.getElem?_eq_some_iff.1 hx
     rw [List.drop_eq_getElem_cons h1, h2]
    rw [hdrop] at hsk
    have c2 := hpk.cell 2 rfl
    have f2 := hpk.free 2
    have HPK := hidZ hpk
    have HSK := hidZ hsk
    have HX := hidZ hx
    clear hpk hsk hx hdrop
    go_wp2_with fail
    have hpB : p < W1.heap.size := by omega
    have hap := own_apart hown hpB
    have hkl : (l.take k).length ≤ 3000 := by rw [List.length_take]; omega
    have hB1 := hgk.size
    have HOWN := hidZ hown
    clear hown
    go_region_law
     (first
      | (refine step_call (by rfl) 252 #[.pointer (some ⟨p, 0, none⟩)] (by go_simp) (word_any p ws ks _ x (l.drop (k + 1)) _ HPK.out.drew HSK.out.drew) ?_; rintro e w2 ⟨rfl, ws2, hp2, hs2, hg2, hb2⟩; refine ⟨_, rfl, ?_⟩; have c2' := hp2.cell 2 rfl; have f2' := hp2.free 2; have k1 : ∀ o : Obj, (w2.alloc o).cell? ⟨p, 2, none⟩ = some ks := fun o => (((Below.refl w2.heap.size w2).alloc (Nat.le_refl _) o).cell (p := ⟨p, 2, none⟩) hp2.lt).trans c2'; have k2 : ∀ o : Obj, (w2.alloc o).frozen? ⟨p, 2, none⟩ = false := fun o => (((Below.refl w2.heap.size w2).alloc (Nat.le_refl _) o).frozen (p := ⟨p, 2, none⟩) hp2.lt).trans f2'; have HP2 := hidZ hp2; have HS2 := hidZ hs2; have HG2 := hidZ hg2; have hz2 := hg2.size; have hl2 := hp2.lt; clear hp2 hs2 hg2)
      | (refine step_append_lies _ (by rfl) _ _ _ (by rfl) W1.heap.size 9 i0 _ 1 16 Tryz.underlying52 Hi.out Hz.out.1 Hz.out.2.1 Hz.out.2.2 rfl (by omega) ks _ _ (by rfl) ((own_keep (own_drew HOWN.out) hpB HG2.out).alloc _) ⟨w2.heap.size, 0, none⟩ 1 1 [sv x] (by rfl) (by rfl) (World.news_of_block (cs := #[sv x]) (t := 9) (fr := (0, 0)) (heap_alloc_new w2 _)) (by simp [Value.oneCell']) (by omega) (by unfold maxLen; omega) (by omega) (by simp at hz2 ⊢; omega) (w2.heap.size + 1) (by simp) ?_; intro gg cp w3 hown3 hgrow hat hlt3; have k3 := (hgrow.cell_far ⟨p, 2, none⟩ (by simp; omega) (Ne.symm hap)).trans (k1 _); have k4 := (hgrow.frozen_far ⟨p, 2, none⟩ (by simp; omega) (Ne.symm hap)).trans (k2 _))
      | fail)
    all_goals go_wp2_with fail
    all_goals refine ⟨⟨k + 1, by omega, rfl, ?_⟩, by simp only [intOf]; omega⟩
    all_goals have hq := keys_step (v := v) (q := q) HX.out hpB HP2.out HS2.out hgk HG2.out HOWN.out (fun b hb => hbw b (by rw [← hb2, hb])) hgrow hown3
    all_goals rwa [show (l.take k).length = min k l.length from List.length_take] at hq
   ·obtain rfl : M = k := by omega
    have hKl : (l.take M).length = M := by rw [List.length_take]; omega
    have hKL : ∀ x ∈ l.take M, x.length ≤ maxLen := fun x hx => hL x (List.mem_of_mem_take hx)
    have hbad : (l.take M).any badKey = true → parseW v q l = (noCmd, 2) := fun h => parseW_bad (by rw [HMM.out]; exact h)
    have hread := fun (h : (l.take M).any badKey = false) => parseW_read (q := q) (l := l) (v := v) (by rw [HMM.out]; exact h)
    rw [HMM.out] at hread
    have HBAD := hidZ hbad
    have HREAD := hidZ hread
    clear hbad hread
    generalize hK : l.take M = K at *
    clear hK
    have c2 := hpk.cell 2 rfl
    have f2 := hpk.free 2
    have HPK := hidZ hpk
    have HSK := hidZ hsk
    have HOWN := hidZ hown
    clear hpk hsk hown
    go_wp2_with fail
    have hO : OwnT wr W1.heap.size 9 ks (K.map sv) := OwnT.of_row (by rw [List.length_map]; exact HOWN.out)
    refine (containsFunc_any hO.1 hKL).mono ?_
    rintro e w' ⟨rfl, rfl⟩
    have HO := hidZ hO
    clear hO
    cases hbk : K.any badKey
    ·go_wp2_with fail
     refine (clip_value HO.out.1).mono ?_
     rintro e w' ⟨rfl, rfl⟩
     obtain ⟨ca, cc, hcv⟩ := clip_len HO.out.1
     rw [List.length_map, hKl] at hcv
     rw [hcv]
     go_upto_if 70 with fail
     have hP2 : PAt (wr.setCell ⟨p, 2, none⟩ (.slice ca M cc)) p ws (.slice ca M cc) (cmdK v q K) := HPK.out.set 2 _ rfl
     have hG2 : W1.grownBy (wr.setCell ⟨p, 2, none⟩ (.slice ca M cc)) (some p) := grown_trans hgk (grown_set _ _ _ _)
     have hS2 : Seg (wr.setCell ⟨p, 2, none⟩ (.slice ca M cc)) p ws (l.drop M) := HSK.out.grown (grown_set _ _ _ _)
     have hO2 : OwnT (wr.setCell ⟨p, 2, none⟩ (.slice ca M cc)) W1.heap.size 9 (.slice ca M cc) (K.map sv) := by
      rw [← hcv]
      exact OwnT.grown (OwnT.clip HO.out) (grown_set _ _ _ _) (by omega)
     generalize wr.setCell ⟨p, 2, none⟩ (.slice ca M cc) = W2 at *
     have HCV := hidZ hcv
     have HP2 := hidZ hP2
     have HG2 := hidZ hG2
     have HS2 := hidZ hS2
     have HO2 := hidZ hO2
     clear hcv hP2 hG2 hS2 hO2 c2 f2 HPK HSK HOWN HO HP1 HS1
     go_cut [] (fun wx => ∃ W3, W3 = wx ∧ PAt W3 p ws (.slice ca M cc) (cmd0 v q K) ∧ Seg W3 p ws (l.drop M) ∧ OwnT W3 W1.heap.size 9 (.slice ca M cc) (K.map sv) ∧ W1.grownBy W3 (some p))
     case first =>
      have c2 := HP2.out.cell 2 rfl
      have c4 := HP2.out.cell 4 rfl
      have f4 := HP2.out.free 4
      cases K with
      | nil =>
       rw [show decide (0 < M) = false from by rw [decide_eq_false_iff_not]; simp at hKl; omega]
       go_wp2_with fail
       go_meet
       case rel => exact ⟨_, rfl, HP2.out, HS2.out, HO2.out, HG2.out⟩
      | cons x K' =>
       rw [show decide (0 < M) = true from by rw [decide_eq_true_eq]; simp at hKl; omega]
       obtain ⟨gg, oo, cc', he, _, _, hcell, _⟩ := HO2.out.1.at (k := 0) (x := sv x) rfl
       have hix : ∀ W : World, (Instr.indexAt 52 (.slice ca M cc) (.int .i64 0)).run Tryz.prog W = .ok (.pointer (some ⟨gg, oo, none⟩)) W := fun W => idx_str' (n := M) (c := cc) (k := 0) (slice_inj he).1 (by simp at hKl; omega) W
       have hcell' : W2.cell? ⟨gg, oo, none⟩ = some (sv x) := hcell
       clear hcell
       clear he
       go_wp2_with fail
       go_meet
       case rel => exact ⟨_, rfl, HP2.out.set 4 _ rfl, HS2.out.grown (grown_set _ _ _ _), OwnT.grown HO2.out (grown_set _ _ _ _) (by omega), grown_trans HG2.out (grown_set _ _ _ _)⟩
     case rest =>
      obtain ⟨W3, rfl, hP3, hS3, hO3, hG3⟩ := hcut
      go_wp2_with fail
      refine (readers_any p W3).mono ?_
      rintro e w' ⟨rfl, rfl⟩
      have hP4 := hP3.grown (World.grownBy_alloc W3 (.map (readerEs p).toArray 5) none) (by simp)
      have hG4 := grown_trans hG3 (World.grownBy_alloc W3 (.map (readerEs p).toArray 5) (some p))
      have hS4 := hS3.grown (World.grownBy_alloc W3 (.map (readerEs p).toArray 5) (some p))
      have hO4 := OwnT.grown hO3 (World.grownBy_alloc W3 (.map (readerEs p).toArray 5) (some p)) (by omega)
      have hMP : (W3.alloc (.map (readerEs p).toArray 5)).heap[W3.heap.size]? = some (.map (readerEs p).toArray 5) := by rw [heap_at, if_pos rfl]
      have hB3 := hG3.size
      have hpW3 : p < W3.heap.size := hP3.lt
      generalize hbm : W3.heap.size = bm at *
      clear hbm
      generalize W3.alloc (.map (readerEs p).toArray 5) = W4 at *
      have HMP := hidZ hMP
      have HP4 := hidZ hP4
      have HG4 := hidZ hG4
      have HS4 := hidZ hS4
      have HO4 := hidZ hO4
      have HRD := hidZ (HREAD.out hbk)
      clear hMP hP4 hG4 hS4 hO4 hP3 hG3 hS3 hO3 HP2 HS2 HO2 HG2 HREAD HBAD hbk
      have hlD : (l.drop M).length ≤ 3000 := by rw [List.length_drop]; omega
      have hNr : (l.drop M).length ≤ (restOf v).length := hm
      clear hm
      generalize hLD : l.drop M = D at *
      clear hLD
      go_wp2_with fail
      go_loopw [7] (fun s7 wr => ∃ i : Nat, i ≤ D.length ∧ s7 = .int .i64 i ∧ ReadInv p v q K D (.slice ca M cc) W4 i wr) (fun s7 _ => D.length - (intOf s7).toNat)
      case atStart => exact ⟨0, Nat.zero_le _, rfl, ws, cmd0 v q K, HP4.out, HS4.out, World.grownBy.refl _ _, rfl, rfl⟩
      case round =>
       obtain ⟨i, hi, rfl, ws4, c4, hp4, hs4, hg4, hk4, hr4⟩ := hrel
       by_cases hlt : i < D.length
       ·obtain ⟨x, hx⟩ : ∃ x, D[i]? = some x := ⟨_, List.getElem?_eq_getElem hlt⟩
        obtain ⟨f, hf⟩ : ∃ f, (restOf v)[i]? = some f := ⟨_, List.getElem?_eq_getElem (by omega)⟩
        have hDd : D.drop i = x :: D.drop (i + 1) := by
         obtain ⟨h1, h2⟩ := List.getElem?_eq_some_iff.1 hx
         rw [List.drop_eq_getElem_cons h1, h2]
        rw [hDd] at hs4
        obtain ⟨g4, o4, cap4, rfl, hcap4, hcm4, hgp4, hgl4, hwc4⟩ := id hs4
        have hcl := hp4.cell 0 rfl
        have hRd : (restOf v).drop i = f :: (restOf v).drop (i + 1) := by
         obtain ⟨h1, h2⟩ := List.getElem?_eq_some_iff.1 hf
         rw [List.drop_eq_getElem_cons h1, h2]
        have hf5 : f < 5 := rest_lt (List.mem_of_getElem? hf)
        have hR0 : rr = .slice (some ⟨rb, 0, none⟩) (restOf v).length rc := by rw [HRR.out, if_neg (by omega)]
        have hRl : (i : Int) < ((restOf v).length : Int) := by omega
        have hR3 : ((restOf v).length : Int) ≤ 5 := by have := rest_len v; omega
        have hi0 : (0 : Int) ≤ (i : Int) := by omega
        have hbox : wr.cell? ⟨w.heap.size, 5, none⟩ = some (.slice (some ⟨rb, 0, none⟩) (restOf v).length rc) := by
         have h1 : W1.cell? ⟨w.heap.size, 5, none⟩ = some rr := by rw [(block_cell HBX.out 5).1]; rfl
         rw [hR0] at h1
         exact grown_cell (grown_cell h1 HG4.out (by omega)) hg4 (by omega)
        have hfc : wr.cell? ⟨rb, i, none⟩ = some (.int .i64 (f : Int)) := grown_cell (grown_cell (grown_cell (HR.out i f hf) HG1.out hrb) HG4.out hrb) hg4 hrb
        have hbmW : bm < W4.heap.size := lt_of_block HMP.out
        have hmw : wr.heap[bm]? = some (.map (readerEs p).toArray 5) := (hg4.block bm hbmW (by simp; omega)).trans HMP.out
        have hcf := fun W => call_reader hf5 #[.pointer (some ⟨p, 0, none⟩), sv x] W
        have hlk0 := readers_at (w := wr.drew) hmw hf5
        have HMW := hidZ hmw
        have hgw : w.grownBy wr (some p) := grown_trans (grown_trans HG1.out HG4.out) hg4
        have HGW := hidZ hgw
        have HP5 := hidZ hp4
        have HS5 := hidZ hs4
        have HX := hidZ hDd
        have HRD2 := hidZ hRd
        have HR4 := hidZ hr4
        have HG5 := hidZ hg4
        have HK4 := hidZ hk4
        generalize (restOf v).length = nR at *
        have hcall := fun (ws : Value) (W : World) hP hE => reads_at f hf5 p ws (.slice ca M cc) c4 x W hP hE
        have hwl := hg4.size
        have hbmr : bm < wr.heap.size := by omega
        clear hp4 hs4 hr4 hk4 hgw hx hf hDd hRd hR0 hmw hg4 hwc4
        have hrf : (readF c4 f x).2 = false → parseW v q l = (noCmd, if f = 4 then 4 else 2) := fun hb => by
         have h1 := HR4.out
         rw [HRD2.out, HX.out] at h1
         have h2 : readAll c4 (f :: (restOf v).drop (i + 1)) (x :: D.drop (i + 1)) = ((readF c4 f x).1, if f = 4 then 4 else 2) := by simp [readAll, hb]
         rw [HRD.out, h1, h2, if_pos (by split <;> simp)]
        have hrt : (readF c4 f x).2 = true → readAll (cmd0 v q K) (restOf v) D = readAll (readF c4 f x).1 ((restOf v).drop (i + 1)) (D.drop (i + 1)) := fun hb => by
         rw [HR4.out, HRD2.out, HX.out]
         simp [readAll, hb]
        have HRF := hidZ hrf
        have HRT := hidZ hrt
        clear hrf hrt
        cases hb : (readF c4 f x).2
        ·rw [hb] at hcall
         have HCALL := hidZ hcall
         have HB := hidZ hb
         clear hcall hb
         by_cases hf4 : f = 4
         ·have hff : ((f : Int) == 4) = true := by rw [hf4]; rfl
          have HF4 := hidZ hf4
          clear hf4
          go_wp2_with fail
          go_region_law
           (first
            | (refine step_call (by rfl) 252 #[.pointer (some ⟨p, 0, none⟩)] (by go_simp) (word_any p _ (.slice ca M cc) c4 x (D.drop (i + 1)) _ HP5.out.drew HS5.out.drew) ?_; rintro e w2 ⟨rfl, ws2, hp2, hs2, hg2, _⟩; refine ⟨_, rfl, ?_⟩; have hlk2 := readers_at (w := w2) ((hg2.block bm hbmr (by simp; omega)).trans HMW.out) hf5; have HP2 := hidZ hp2; have HS2 := hidZ hs2; have HG2 := hidZ hg2; clear hp2 hs2 hg2)
            | (refine step_call (by rfl) (readerFn f) #[.pointer (some ⟨p, 0, none⟩), sv x] (by go_simp) (HCALL.out ws2 _ HP2.out (HE.out _ (grown_trans (grown_drew HGW.out) HG2.out))) ?_; rintro e w3 ⟨rfl, hp3, hg3⟩; refine ⟨_, rfl, ?_⟩; have HP3 := hidZ hp3; have HG3 := hidZ hg3; clear hp3 hg3)
            | fail)
          all_goals go_wp2_with fail
          all_goals go_ret
          all_goals have hpw := HRF.out HB.out
          all_goals rw [if_pos HF4.out] at hpw
          all_goals exact ⟨_, _, _, by rw [hpw]; rfl, grown_trans (grown_trans (grown_drew HGW.out) HG2.out) HG3.out, HP3.out, fun h => by rw [hpw] at h; simp at h⟩
         ·have hff : ((f : Int) == 4) = false := by rw [beq_eq_false_iff_ne]; omega
          have HF4 := hidZ hf4
          clear hf4
          go_wp2_with fail
          go_region_law
           (first
            | (refine step_call (by rfl) 252 #[.pointer (some ⟨p, 0, none⟩)] (by go_simp) (word_any p _ (.slice ca M cc) c4 x (D.drop (i + 1)) _ HP5.out.drew HS5.out.drew) ?_; rintro e w2 ⟨rfl, ws2, hp2, hs2, hg2, _⟩; refine ⟨_, rfl, ?_⟩; have hlk2 := readers_at (w := w2) ((hg2.block bm hbmr (by simp; omega)).trans HMW.out) hf5; have HP2 := hidZ hp2; have HS2 := hidZ hs2; have HG2 := hidZ hg2; clear hp2 hs2 hg2)
            | (refine step_call (by rfl) (readerFn f) #[.pointer (some ⟨p, 0, none⟩), sv x] (by go_simp) (HCALL.out ws2 _ HP2.out (HE.out _ (grown_trans (grown_drew HGW.out) HG2.out))) ?_; rintro e w3 ⟨rfl, hp3, hg3⟩; refine ⟨_, rfl, ?_⟩; have HP3 := hidZ hp3; have HG3 := hidZ hg3; clear hp3 hg3)
            | fail)
          all_goals go_wp2_with fail
          all_goals go_ret
          all_goals have hpw := HRF.out HB.out
          all_goals rw [if_neg HF4.out] at hpw
          all_goals exact ⟨_, _, _, by rw [hpw]; rfl, grown_trans (grown_trans (grown_drew HGW.out) HG2.out) HG3.out, HP3.out, fun h => by rw [hpw] at h; simp at h⟩
        ·rw [hb] at hcall
         have HCALL := hidZ hcall
         have HB := hidZ hb
         clear hcall hb
         go_wp2_with fail
         go_region_law
          (first
           | (refine step_call (by rfl) 252 #[.pointer (some ⟨p, 0, none⟩)] (by go_simp) (word_any p _ (.slice ca M cc) c4 x (D.drop (i + 1)) _ HP5.out.drew HS5.out.drew) ?_; rintro e w2 ⟨rfl, ws2, hp2, hs2, hg2, _⟩; refine ⟨_, rfl, ?_⟩; have hlk2 := readers_at (w := w2) ((hg2.block bm hbmr (by simp; omega)).trans HMW.out) hf5; have HP2 := hidZ hp2; have HS2 := hidZ hs2; have HG2 := hidZ hg2; clear hp2 hs2 hg2)
           | (refine step_call (by rfl) (readerFn f) #[.pointer (some ⟨p, 0, none⟩), sv x] (by go_simp) (HCALL.out ws2 _ HP2.out (HE.out _ (grown_trans (grown_drew HGW.out) HG2.out))) ?_; rintro e w3 ⟨rfl, hp3, hg3⟩; refine ⟨_, rfl, ?_⟩; have HP3 := hidZ hp3; have HG3 := hidZ hg3; clear hp3 hg3)
           | fail)
         all_goals go_wp2_with fail
         all_goals go_roundw
         case rel => exact ⟨i + 1, by omega, by go_num, _, _, HP3.out, HS2.out.grown HG3.out, grown_trans (grown_trans (grown_drew HG5.out) HG2.out) HG3.out, by rw [readF_keys]; exact HK4.out, HRT.out HB.out⟩
         case measure => simp [intOf]; omega
         case rel => exact ⟨i + 1, by omega, by go_num, _, _, HP3.out, HS2.out.grown HG3.out, grown_trans (grown_trans (grown_drew HG5.out) HG2.out) HG3.out, by rw [readF_keys]; exact HK4.out, HRT.out HB.out⟩
         case measure => simp [intOf]; omega
       ·have hi' : i = D.length := by omega
        have hD0 : D.drop i = [] := by rw [hi', List.drop_length]
        rw [hD0] at hs4
        obtain ⟨g4, o4, cap4, rfl, hcap4, hcm4, hgp4, hgl4, hwc4⟩ := id hs4
        have hcl := hp4.cell 0 rfl
        have hr5 : readAll (cmd0 v q K) (restOf v) D = (c4, 0) := by
         rw [hr4, hD0]
         cases (restOf v).drop i <;> rfl
        have hr6 := HRD.out
        rw [hr5] at hr6
        have hc10 := hp4.cell 10 rfl
        have HP5 := hidZ hp4
        have HO5 := hidZ (OwnT.grown HO4.out hg4 (by omega))
        have HG5 := hidZ (grown_trans (grown_trans HG1.out HG4.out) hg4)
        have HR6 := hidZ hr6
        have HK4 := hidZ hk4
        have HB1 := hidZ hsz
        clear hr6 hr5 hr4 hD0 hp4 hs4 hg4 hwc4 hk4
        by_cases hb : 1024 < c4.bytes
        ·go_wp2_with fail
         go_ret
         have h1 : parseW v q l = (c4, 5) := by have := HR6.out; simp only [ne_eq, not_true_eq_false, if_false] at this; rwa [if_pos hb] at this
         exact ⟨_, _, c4, by rw [h1]; rfl, HG5.out, HP5.out, fun _ => ⟨by rw [h1], by rw [HK4.out]; exact HO5.out.mono (by omega)⟩⟩
        ·go_wp2_with fail
         go_ret
         have h1 : parseW v q l = (c4, 0) := by have := HR6.out; simp only [ne_eq, not_true_eq_false, if_false] at this; rwa [if_neg (by omega)] at this
         exact ⟨_, _, c4, by rw [h1]; rfl, HG5.out, HP5.out, fun _ => ⟨by rw [h1], by rw [HK4.out]; exact HO5.out.mono (by omega)⟩⟩
    ·go_wp2_with fail
     go_ret
     have hb := HBAD.out hbk
     exact ⟨ws, ks, _, by rw [hb]; rfl, grown_trans HG1.out hgk, HPK.out, fun h => by rw [hb] at h; simp at h⟩
abbrev cmdV (ks : Value) (c : Cmd) : Value := .agg #[.int .u8 (c.verb : Int), ks, .int .u8 (c.cverb : Int), sv c.key, sv c.value, .int .u32 (c.flags : Int), .int .i64 c.exp, .int .u64 (c.id : Int), .int .u64 (c.by' : Int), .int .i64 c.bytes, .bool c.quiet]
theorem shapes_below (w : World) : Below w.heap.size w (shapesW w) := by
 unfold shapesW
 exact (((((((Below.refl _ _).alloc (Nat.le_refl _) _).alloc (by simp) _).alloc (by simp; omega) _).alloc (by simp; omega) _).alloc (by simp; omega) _).alloc (by simp; omega) _).alloc (by simp; omega) _
theorem shapes_size (w : World) : (shapesW w).heap.size = w.heap.size + 7 := by simp [shapesW]
theorem shapes_block (w : World) (k : Nat) (hk : k < 7) : (shapesW w).heap[w.heap.size + k]? = some ([.cells #[.int .i64 0, .int .i64 1, .int .i64 2] 405, .map (shapeEs w.heap.size).toArray 13, .cells #[.int .i64 0, .int .i64 1, .int .i64 2, .int .i64 3] 405, .cells #[.int .i64 1] 405, .cells #[.int .i64 4] 405, .cells #[.int .i64 4] 405, .cells #[.int .i64 1] 405][k]'hk) := by
 unfold shapesW
 simp only [heap_at, size_at]
 match k, hk with
 | 0, _ =>
  repeat (rw [if_neg (by omega)])
  rw [if_pos (by omega)]; rfl
 | 1, _ =>
  repeat (rw [if_neg (by omega)])
  rw [if_pos (by omega)]; rfl
 | 2, _ =>
  repeat (rw [if_neg (by omega)])
  rw [if_pos (by omega)]; rfl
 | 3, _ =>
  repeat (rw [if_neg (by omega)])
  rw [if_pos (by omega)]; rfl
 | 4, _ =>
  repeat (rw [if_neg (by omega)])
  rw [if_pos (by omega)]; rfl
 | 5, _ =>
  repeat (rw [if_neg (by omega)])
  rw [if_pos (by omega)]; rfl
 | 6, _ => rw [if_pos (by omega)]; rfl
theorem shapes_rest (w : World) (v : Nat) : ∃ rb rc, restV w.heap.size v = (if (restOf v).length = 0 then .slice none 0 0 else .slice (some ⟨rb, 0, none⟩) (restOf v).length rc) ∧ w.heap.size ≤ rb ∧ rb < w.heap.size + 7 ∧
  ∀ (j f : Nat), (restOf v)[j]? = some f → (shapesW w).cell? ⟨rb, j, none⟩ = some (.int .i64 (f : Int)) := by
 have key : ∀ (k : Nat) (hk : k < 7) (cs : Array Value) (L : List Nat), (shapesW w).heap[w.heap.size + k]? = some (.cells cs 405 (0, 0)) → cs = (L.map (fun f : Nat => Value.int .i64 (f : Int))).toArray → ∀ (j f : Nat), L[j]? = some f → (shapesW w).cell? ⟨w.heap.size + k, j, none⟩ = some (.int .i64 (f : Int)) := by
  intro k hk cs L h1 h2 j f hf
  rw [(block_cell h1 j).1, h2]
  simp [hf]
 by_cases hv : v < 14
 ·match v, hv with
  | 0, _ => exact ⟨w.heap.size, 0, rfl, by omega, by omega, fun j f h => by simp [restOf] at h⟩
  | 1, _ => exact ⟨w.heap.size, 0, rfl, by omega, by omega, fun j f h => by simp [restOf] at h⟩
  | 2, _ => exact ⟨w.heap.size, 0, rfl, by omega, by omega, fun j f h => by simp [restOf] at h⟩
  | 3, _ => exact ⟨w.heap.size + 0, 3, rfl, by omega, by omega, key 0 (by omega) _ _ (shapes_block w 0 (by omega)) rfl⟩
  | 4, _ => exact ⟨w.heap.size + 0, 3, rfl, by omega, by omega, key 0 (by omega) _ _ (shapes_block w 0 (by omega)) rfl⟩
  | 5, _ => exact ⟨w.heap.size + 0, 3, rfl, by omega, by omega, key 0 (by omega) _ _ (shapes_block w 0 (by omega)) rfl⟩
  | 6, _ => exact ⟨w.heap.size + 2, 4, rfl, by omega, by omega, key 2 (by omega) _ _ (shapes_block w 2 (by omega)) rfl⟩
  | 7, _ => exact ⟨w.heap.size, 0, rfl, by omega, by omega, fun j f h => by simp [restOf] at h⟩
  | 8, _ => exact ⟨w.heap.size + 3, 1, rfl, by omega, by omega, key 3 (by omega) _ _ (shapes_block w 3 (by omega)) rfl⟩
  | 9, _ => exact ⟨w.heap.size + 4, 1, rfl, by omega, by omega, key 4 (by omega) _ _ (shapes_block w 4 (by omega)) rfl⟩
  | 10, _ => exact ⟨w.heap.size + 5, 1, rfl, by omega, by omega, key 5 (by omega) _ _ (shapes_block w 5 (by omega)) rfl⟩
  | 11, _ => exact ⟨w.heap.size + 6, 1, rfl, by omega, by omega, key 6 (by omega) _ _ (shapes_block w 6 (by omega)) rfl⟩
  | 12, _ => exact ⟨w.heap.size, 0, rfl, by omega, by omega, fun j f h => by simp [restOf] at h⟩
  | 13, _ => exact ⟨w.heap.size, 0, rfl, by omega, by omega, fun j f h => by simp [restOf] at h⟩
 ·have h1 : restOf v = [] := by
   simp [restOf, List.getD_eq_getElem?_getD, List.getElem?_eq_none (l := [[], [], [], [0, 1, 2], [0, 1, 2], [0, 1, 2], [0, 1, 2, 3], [], [1], [4], [4], [1], [], []]) (i := v) (by simp; omega)]
  have h2 : restV w.heap.size v = .slice none 0 0 := by
   unfold restV
   rw [List.getD_eq_getElem?_getD, List.getElem?_eq_none (by simp; omega)]; rfl
  exact ⟨w.heap.size, 0, by rw [h1, h2]; rfl, by omega, by omega, fun j f h => by rw [h1] at h; simp at h⟩
def ParseOk (l : List UInt8) (w : World) (e : Ending) (w' : World) : Prop :=
 ∃ ks, e = .returned (.tuple #[cmdV ks (parseL l).1, .int .u8 ((parseL l).2 : Int)]) ∧ OwnT w' w.heap.size 9 ks ((parseL l).1.keys.map sv) ∧ Below w.heap.size w w'
theorem bcell {W w1 : World} (hb : Below W.heap.size W w1) : (∀ b o, b < W.heap.size → w1.cell? ⟨b, o, none⟩ = W.cell? ⟨b, o, none⟩) ∧ (∀ b o, b < W.heap.size → w1.frozen? ⟨b, o, none⟩ = W.frozen? ⟨b, o, none⟩) :=
 ⟨fun b o h => hb.cell (p := ⟨b, o, none⟩) h, fun b o h => hb.frozen (p := ⟨b, o, none⟩) h⟩
theorem wordsGo_short : ∀ (l cur : List UInt8), ∀ x ∈ wordsGo l cur, x.length ≤ l.length + cur.length := by
 intro l
 induction l with
 | nil =>
  intro cur x hx
  unfold wordsGo at hx
  split at hx <;> simp_all
 | cons c l ih =>
  intro cur x hx
  unfold wordsGo at hx
  split at hx
  ·split at hx
   ·have := ih _ x hx; simp at this ⊢; omega
   ·rcases List.mem_cons.1 hx with h | h
    ·subst h; simp
    ·have := ih _ x h; simp at this ⊢; omega
  ·have := ih _ x hx; simp at this ⊢; omega
theorem words_short (l : List UInt8) : ∀ x ∈ words l, x.length ≤ l.length := fun x hx => by have := wordsGo_short l [] x hx; simpa using this
theorem seg_of {w : World} {B p : Nat} {v : Value} {x : List UInt8} {xs : List (List UInt8)} (h : Strs w B v (x :: xs)) (hp : w.heap.size ≤ p) : Seg w p v (x :: xs) := by
 obtain ⟨g, o, c, rfl, h1, h2, h3, h4, h5⟩ := Own.some h (by simp)
 rw [List.length_map] at *
 exact ⟨g, o, c, rfl, h3, h4, by omega, h2, fun j y hy => (h5 j (sv y) (by rw [List.getElem?_map, hy]; rfl)).1⟩
abbrev zeroA : Array Value := #[.int .u8 0, .slice none 0 0, .int .u8 0, .string ⟨#[]⟩, .string ⟨#[]⟩, .int .u32 0, .int .i64 0, .int .u64 0, .int .u64 0, .int .i64 0, .bool false]
abbrev zeroV : Value := .agg zeroA
theorem parseOk_zero {l : List UInt8} {w w' : World} {t : Nat} (h : parseL l = (noCmd, t)) (hb : Below w.heap.size w w') : ParseOk l w (.returned (.tuple #[zeroV, .int .u8 (t : Int)])) w' :=
 ⟨.slice none 0 0, by rw [h]; rfl, by rw [h]; exact ⟨Own.nil _ _, fun g hg => by simp [Value.ownBlock] at hg⟩, hb⟩
theorem parse_long' (s : ByteArray) (w : World) (h : 2048 < s.size) (hs : s.size ≤ 1048576) : Calls Tryz.prog 217 #[.string s] w (ParseOk (bs s) w) := by
 have hp : parseL (bs s) = (noCmd, 3) := by unfold parseL; rw [if_pos (by rw [bs_length]; exact h)]
 have HP := hidZ hp
 clear hp
 go_enter Tryz.func217, Tryz.ntmps217
 go_wp2_with fail
 exact bodyPost_ret (v := .tuple #[zeroV, .int .u8 3]) (by simp [results, Tryz.results217, go_sem]) rfl (parseOk_zero HP.out ((Below.refl _ _).alloc (Nat.le_refl _) _))
theorem parse_none' (s : ByteArray) (w : World) (h : s.size ≤ 2048) (hl : words (bs s) = []) (hL : HasLen w) : Calls Tryz.prog 217 #[.string s] w (ParseOk (bs s) w) := by
 have hp : parseL (bs s) = (noCmd, 1) := by unfold parseL; rw [if_neg (by rw [bs_length]; omega), hl]
 have hsz : decide ((2048 : Int) < (s.size : Int)) = false := by rw [decide_eq_false_iff_not]; omega
 have HL := hidZ hL
 have HP := hidZ hp
 have HW := hidZ hl
 clear hL hp hl
 go_enter Tryz.func217, Tryz.ntmps217
 go_wp2_with fail
 refine (words_any s _ (by omega) (HL.out.below ((Below.refl _ _).alloc (Nat.le_refl _) _))).mono ?_
 rintro e w1 ⟨vw, rfl, hw, hb1⟩
 rw [HW.out] at hw
 obtain ⟨a, c, hv⟩ := Own.len hw
 obtain ⟨r1, r2⟩ := bcell hb1
 have hz := hb1.size
 have HV := hidZ hw
 have HB1 := hidZ hb1
 clear hw hb1
 rw [List.map_nil, List.length_nil] at hv
 have hR1 : w1.heap[w.heap.size]? = some (.cells zeroA 113 (0, 0)) := (HB1.out.block w.heap.size (by simp)).trans (heap_alloc_new _ _)
 have hR2 : ∀ o : Obj, (w1.alloc o).heap[w.heap.size]? = some (.cells zeroA 113 (0, 0)) := fun o => by rw [heap_at, if_neg (by have := lt_of_block hR1; omega)]; exact hR1
 clear r1 r2
 rw [hv]
 go_wp2_with ((with_reducible show wpList _ _ _ (⟨none, Op.store _ _ _, _, _, _, _⟩ :: _) _ _); refine wpList_store_whole (by rfl) 113 (.tmp 2) (.tmp 23) (by rfl) w.heap.size (by rfl) _ (by rfl) _ 113 (hR2 _) (by rfl) (by kernel_rfl) (by simp [Value.oneCell']) ?_; intro w2 hr2 hg2 hs2)
 have hbw : Below w.heap.size w w2 := below_then (((Below.refl _ _).alloc (Nat.le_refl _) _).trans ((HB1.out.mono (by simp)).trans ((Below.refl _ _).alloc (by simp at hz; omega) _))) (by simp at hz ⊢; omega) hg2 (Nat.le_refl _)
 exact bodyPost_ret (v := .tuple #[zeroV, .int .u8 1]) (results_row_tmp rfl _ _ w.heap.size _ _ _ _ (by rfl) hr2 Tryz.underlying113 rfl (by kernel_rfl) _ (by rfl)) rfl (parseOk_zero HP.out hbw)
def lessOf (b : Bool) (l : List (List UInt8)) : List (List UInt8) := if b then l.dropLast else l
theorem lessOf_len (b : Bool) (l : List (List UInt8)) : (lessOf b l).length ≤ l.length := by
 cases b
 ·exact Nat.le_refl _
 ·show l.dropLast.length ≤ _
  rw [List.length_dropLast]; omega
theorem lessOf_mem {b : Bool} {l : List (List UInt8)} {x : List UInt8} (h : x ∈ lessOf b l) : x ∈ l := by
 cases b
 ·exact h
 ·exact (List.dropLast_sublist l).subset h
theorem parseL_bad {s : List UInt8} {name : List UInt8} {l : List (List UInt8)} (h : s.length ≤ 2048) (hw : words s = name :: l)
  (hb : verbOf name = 0 ∨ (lessOf (isQuiet (verbOf name) l) l).length < leastOf (verbOf name) ∨ mostOf (verbOf name) < (lessOf (isQuiet (verbOf name) l) l).length) : parseL s = (noCmd, 1) := by
 unfold parseL
 rw [if_neg (by omega), hw]
 exact if_pos hb
theorem parseL_good {s : List UInt8} {name : List UInt8} {l : List (List UInt8)} (h : s.length ≤ 2048) (hw : words s = name :: l)
  (hb : ¬ (verbOf name = 0 ∨ (lessOf (isQuiet (verbOf name) l) l).length < leastOf (verbOf name) ∨ mostOf (verbOf name) < (lessOf (isQuiet (verbOf name) l) l).length)) : parseL s = parseW (verbOf name) (isQuiet (verbOf name) l) (lessOf (isQuiet (verbOf name) l) l) := by
 unfold parseL
 rw [if_neg (by omega), hw]
 exact if_neg hb
theorem most_rest {v : Nat} {l : List (List UInt8)} (h1 : leastOf v ≤ l.length) (h2 : l.length ≤ mostOf v) : (l.drop (manyOf v l)).length ≤ (restOf v).length := by
 rw [List.length_drop]
 unfold manyOf
 split
 ·omega
 ·rename_i hk
  by_cases hv : v < 14
  ·have : ∀ v < 14, keysOf v = false → mostOf v - min (leastOf v) 1 ≤ (restOf v).length := by decide
   have := this v hv (by simpa using hk)
   omega
  ·have : mostOf v = 0 := by
    unfold mostOf
    rw [List.getD_eq_getElem?_getD, List.getElem?_eq_none (by simp; omega)]; rfl
   omega
theorem parseW_told {v : Nat} {q : Bool} {l : List (List UInt8)} (h0 : (parseW v q l).2 ≠ 0) (h5 : (parseW v q l).2 ≠ 5) : parseW v q l = (noCmd, (parseW v q l).2) := by
 cases h : (l.take (manyOf v l)).any badKey
 ·have h1 := parseW_read (q := q) h
  generalize readAll (cmd0 v q (l.take (manyOf v l))) (restOf v) (l.drop (manyOf v l)) = r at h1
  rw [h1] at h0 h5 ⊢
  split at h1
  ·rename_i hr; rw [if_pos hr]
  ·rename_i hr
   rw [if_neg hr] at h0 h5
   split at h1
   ·rename_i hb; rw [if_pos hb] at h5; simp at h5
   ·rename_i hb; rw [if_neg hb] at h0; simp at h0
 ·rw [parseW_bad h]
theorem range_cmd {w : World} {p : Nat} {ws ks : Value} {c : Cmd} (h : PAt w p ws ks c) : w.rangeAt p 1 (cmdCells ks c) := fun j v hv => by
 rw [show 1 + j = j + 1 from by omega]
 exact h.cell (j + 1) (by simpa using hv)
def QuietSt (w W : World) (p sb v rb rc : Nat) (rr ws : Value) (q : Bool) (l : List (List UInt8)) : Prop :=
 PAt W p ws (.slice none 0 0) (cmdQ q) ∧ Seg W p ws l ∧ W.heap[w.heap.size]? = some (.cells zeroA 113 (0, 0)) ∧
  W.heap[sb]? = some (.cells #[.int .u8 (v : Int), .int .i64 (leastOf v : Int), .int .i64 (mostOf v : Int), .bool (quietOf v), .bool (keysOf v), rr] 369 (0, 0)) ∧ Below w.heap.size w W ∧ w.heap.size < p ∧ p ≠ sb ∧ rb ≠ p ∧
  rr = (if (restOf v).length = 0 then .slice none 0 0 else .slice (some ⟨rb, 0, none⟩) (restOf v).length rc) ∧ ∀ (j f : Nat), (restOf v)[j]? = some f → W.cell? ⟨rb, j, none⟩ = some (.int .i64 (f : Int))
theorem QuietSt.drewN {w W : World} {p sb v rb rc : Nat} {rr ws : Value} {q : Bool} {l : List (List UInt8)} (h : QuietSt w W p sb v rb rc rr ws q l) (n : Nat) : QuietSt w (W.drewN n) p sb v rb rc rr ws q l := by
 obtain ⟨h1, h2, h3, h4, h5, h6, h7, h8, h9, h10⟩ := h
 exact ⟨h1, h2, h3, h4, ⟨h5.os, h5.tape, h5.output, h5.size, h5.block⟩, h6, h7, h8, h9, h10⟩
theorem parse_some' (s : ByteArray) (name : List UInt8) (l : List (List UInt8)) (w : World) (h : s.size ≤ 2048) (hl : words (bs s) = name :: l) (hL : HasLen w) (hE : HasErr w) : Calls Tryz.prog 217 #[.string s] w (ParseOk (bs s) w) := by
 have hsz : decide ((2048 : Int) < (s.size : Int)) = false := by rw [decide_eq_false_iff_not]; omega
 have hll : (name :: l).length ≤ 2048 := by rw [← hl]; have := words_length (bs s); rw [bs_length] at this; omega
 have hxl : ∀ x ∈ name :: l, x.length ≤ 2048 := fun x hx => by rw [← hl] at hx; have := words_short (bs s) x hx; rw [bs_length] at this; omega
 have HX := hidZ hxl
 have HL := hidZ hL
 have HE := hidZ hE
 have HW := hidZ hl
 clear hL hE hl hxl
 rw [List.length_cons] at hll
 have hne : (((l.length : Int) + 1) == 0) = false := by rw [beq_eq_false_iff_ne]; omega
 go_enter Tryz.func217, Tryz.ntmps217
 go_wp2_with fail
 refine (words_any s _ (by omega) (HL.out.below ((Below.refl _ _).alloc (Nat.le_refl _) _))).mono ?_
 rintro e w1 ⟨vw, rfl, hw, hb1⟩
 rw [HW.out] at hw
 obtain ⟨a, c, hv⟩ := Own.len hw
 rw [List.length_map, List.length_cons] at hv
 obtain ⟨r1, r2⟩ := bcell hb1
 have hz := hb1.size
 have HV := hidZ hw
 have HB1 := hidZ hb1
 clear hw hb1
 have hR1 : w1.heap[w.heap.size]? = some (.cells zeroA 113 (0, 0)) := (HB1.out.block w.heap.size (by simp)).trans (heap_alloc_new _ _)
 have hRl := lt_of_block hR1
 have hP2 : PAt (w1.alloc (.cells #[.slice a (l.length + 1) c, .int .u8 0, .slice none 0 0, .int .u8 0, .string ⟨#[]⟩, .string ⟨#[]⟩, .int .u32 0, .int .i64 0, .int .u64 0, .int .u64 0, .int .i64 0, .bool false] 366)) w1.heap.size (.slice a (l.length + 1) c) (.slice none 0 0) (cmdQ false) := heap_alloc_new _ _
 have hG2 := (Below.refl w1.heap.size w1).alloc (Nat.le_refl _) (.cells #[.slice a (l.length + 1) c, .int .u8 0, .slice none 0 0, .int .u8 0, .string ⟨#[]⟩, .string ⟨#[]⟩, .int .u32 0, .int .i64 0, .int .u64 0, .int .u64 0, .int .i64 0, .bool false] 366)
 have hS2 : Seg (w1.alloc (.cells #[.slice a (l.length + 1) c, .int .u8 0, .slice none 0 0, .int .u8 0, .string ⟨#[]⟩, .string ⟨#[]⟩, .int .u32 0, .int .i64 0, .int .u64 0, .int .u64 0, .int .i64 0, .bool false] 366)) w1.heap.size (.slice a (l.length + 1) c) (name :: l) := by
  have h1 := seg_of HV.out (Nat.le_refl _)
  rw [hv] at h1
  exact h1.grown (World.grownBy_alloc _ _ _)
 have hsz2 : (w1.alloc (.cells #[.slice a (l.length + 1) c, .int .u8 0, .slice none 0 0, .int .u8 0, .string ⟨#[]⟩, .string ⟨#[]⟩, .int .u32 0, .int .i64 0, .int .u64 0, .int .u64 0, .int .i64 0, .bool false] 366)).heap.size = w1.heap.size + 1 := size_at _ _
 clear r1 r2
 rw [hv]
 go_wp2_with fail
 generalize w1.alloc (.cells #[.slice a (l.length + 1) c, .int .u8 0, .slice none 0 0, .int .u8 0, .string ⟨#[]⟩, .string ⟨#[]⟩, .int .u32 0, .int .i64 0, .int .u64 0, .int .u64 0, .int .i64 0, .bool false] 366) = W2 at *
 have hp1 : (∀ (b o : Nat), b < w1.heap.size → W2.cell? ⟨b, o, none⟩ = w1.cell? ⟨b, o, none⟩) := fun b o h => hG2.cell (p := ⟨b, o, none⟩) h
 refine (shapes_any W2).mono ?_
 rintro e w' ⟨rfl, rfl⟩
 obtain ⟨rb, rc, hrr, hrb, hrb2, hrcell⟩ := shapes_rest W2 (verbOf name)
 have hmap : (shapesW W2).heap[W2.heap.size + 1]? = some (.map (shapeEs W2.heap.size).toArray 13) := shapes_block W2 1 (by omega)
 have hB3 := shapes_below W2
 have hz3 := shapes_size W2
 have hP3 := hP2.below hB3
 have hS3 := hS2.grown (grown_below hB3 (some w1.heap.size))
 have hR3 : (shapesW W2).heap[w.heap.size]? = some (.cells zeroA 113 (0, 0)) := (hB3.block _ (by omega)).trans ((hG2.block _ hRl).trans hR1)
 have hBall : Below w.heap.size w (shapesW W2) := ((Below.refl _ _).alloc (Nat.le_refl _) _).trans ((HB1.out.mono (by simp)).trans ((hG2.mono (by omega)).trans (hB3.mono (by omega))))
 generalize hpp : w1.heap.size = p at *
 generalize hBB : W2.heap.size = B at *
 generalize shapesW W2 = W3 at *
 have HP3 := hidZ hP3
 have HS3 := hidZ hS3
 have HR3 := hidZ hR3
 have HBA := hidZ hBall
 have HMAP := hidZ hmap
 have HRC := hidZ hrcell
 have HRR := hidZ hrr
 have hzp : p < B := by omega
 have hRp : w.heap.size < p := hRl
 clear hP3 hS3 hR3 hBall hmap hrcell hrr hB3 hP2 hS2 hG2 hp1 hpp hBB HV HB1 hR1 hRl hv hz hsz2
 go_wp2_with fail
 refine (word_any p _ _ _ name l _ HP3.out HS3.out).mono ?_
 rintro e w4 ⟨rfl, ws4, hp4, hs4, hg4, _⟩
 have hlk : (Instr.lookup 371 (.map (some (B + 1))) (sv name) true).run Tryz.prog w4 = .ok (.tuple #[shapeV B (verbOf name), .bool (decide (verbOf name ≠ 0))]) w4 := shapes_at ((hg4.block _ (lt_of_block HMAP.out) (by simp; omega)).trans HMAP.out) name (by have := HX.out name (by simp); unfold maxLen; omega)
 unfold shapeV at hlk
 have hrr := HRR.out
 generalize hrv : restV B (verbOf name) = rr at *
 clear hrv
 generalize hdv : decide (verbOf name ≠ 0) = dv at *
 have HDV := hidZ hdv
 have HRR' := hidZ hrr
 have HP4 := hidZ hp4
 have HS4 := hidZ hs4
 have HG4 := hidZ hg4
 clear hrr hdv hp4 hs4 hg4 HRR
 generalize hV : verbOf name = v at *
 have HVB := hidZ hV
 clear hV
 have hrr1 : rr.oneCell' = true := by rw [HRR'.out]; split <;> rfl
 have hsh : (w4.alloc (.cells #[.int .u8 0, .int .i64 0, .int .i64 0, .bool false, .bool false, .slice none 0 0] 369)).heap[w4.heap.size]? = some (.cells #[.int .u8 0, .int .i64 0, .int .i64 0, .bool false, .bool false, .slice none 0 0] 369 (0, 0)) := heap_alloc_new _ _
 go_upto_region 7 with ((with_reducible show wpList _ _ _ (⟨none, Op.store _ _ _, _, _, _, _⟩ :: _) _ _); refine wpList_store_whole (by rfl) 369 (.tmp 5) (.tmp 29) (by rfl) w4.heap.size (by rfl) _ (by rfl) _ 369 hsh (by rfl) (by kernel_rfl) (by simp [Value.oneCell']; exact hrr1) ?_; intro w5 hr5 hg5 hs5)
 have hz4 := HG4.out.size
 have hpz4 : p < w4.heap.size := HP4.out.lt
 have hg45 : w4.grownBy w5 (some p) := by
  have h1 := World.grownBy_alloc w4 (.cells #[.int .u8 0, .int .i64 0, .int .i64 0, .bool false, .bool false, .slice none 0 0] 369) (some p)
  exact ⟨hg5.os.trans h1.os, hg5.tape.trans h1.tape, hg5.output.trans h1.output, Nat.le_trans h1.size hg5.size, fun k hk hne => (hg5.block k (by simp; omega) (by simp; omega)).trans (h1.block k hk hne)⟩
 have hp5 : PAt w5 p ws4 (.slice none 0 0) (cmdQ false) := (HP4.out.grown (World.grownBy_alloc w4 _ none) (by simp)).grown hg5 (by simp; omega)
 have hs5' : Seg w5 p ws4 l := HS4.out.grown hg45
 have hg35 := grown_trans HG4.out hg45
 have hst : QuietSt w w5 p w4.heap.size v rb rc rr ws4 false l := by
  refine ⟨hp5, hs5', (hg35.block _ (lt_of_block HR3.out) (by simp; omega)).trans HR3.out, hr5, below_then HBA.out (by omega) hg35 (by omega), hRp, by omega, by omega, HRR'.out, ?_⟩
  intro j f hf
  exact grown_cell (HRC.out j f hf) hg35 (by omega)
 have HST := hidZ hst
 generalize hsb : w4.heap.size = sb at *
 clear hsb hst hp5 hs5' hg35 hg45 hr5 hg5 hs5 hz4 hsh HP4 HS4 HG4 hrr1 HRC HRR' HBA HR3 HP3 HS3 HMAP hlk
 obtain ⟨hp5, hs5, hR5, hsh5, hb5, hRp', hps, hrbp, hrr5, hrc5⟩ := HST.out
 obtain ⟨g4, o4, cap4, rfl, hcap4, hcm4, hgp4, hgl4, hwc4⟩ := id hs5
 have hcl := hp5.cell 0 rfl
 have q1 : w5.cell? ⟨sb, 1, none⟩ = some (.int .i64 (leastOf v : Int)) := (block_cell hsh5 1).1
 have q3 : w5.cell? ⟨sb, 3, none⟩ = some (.bool (quietOf v)) := (block_cell hsh5 3).1
 have HP5 := hidZ hp5
 have HS5 := hidZ hs5
 have HWC := hidZ hwc4
 clear hp5 hs5 hR5 hsh5 hb5 hrr5 hrc5 hwc4
 go_upto_region 8 with fail
 go_cut [54] (fun s54 wx => w5 = wx ∧ ∃ b, s54 = .bool b ∧ b = isQuiet v l)
 case first =>
  cases hq : quietOf v
  ·rw [hq] at q3
   have HQ := hidZ hq
   clear hq
   go_wp2_with fail
   go_meet
   case rel => exact ⟨rfl, false, rfl, by simp [isQuiet, HQ.out]⟩
  ·rw [hq] at q3
   have HQ := hidZ hq
   clear hq
   by_cases hlt : leastOf v < l.length
   ·have hne : l ≠ [] := by rintro rfl; simp at hlt
    obtain ⟨x, hx⟩ : ∃ x, l[l.length - 1]? = some x := ⟨_, List.getElem?_eq_getElem (by omega)⟩
    have hcx := HWC.out _ _ hx
    have hlast : l.getLast? = some x := by rw [List.getLast?_eq_getElem?, hx]
    have hiq : isQuiet v l = (x == noreply) := by simp [isQuiet, HQ.out, hlt, hlast]
    have HIQ := hidZ hiq
    generalize hn : l.length = n at *
    have hix : ∀ W : World, (Instr.indexAt 52 (.slice (some ⟨g4, o4, none⟩) n cap4) (.int .i64 ((n : Int) - 1))).run Tryz.prog W = .ok (.pointer (some ⟨g4, o4 + (n - 1), none⟩)) W := fun W => by
     have h := idx_str' (a := some ⟨g4, o4, none⟩) (n := n) (c := cap4) (k := n - 1) rfl (by omega) W
     rwa [show ((n - 1 : Nat) : Int) = (n : Int) - 1 from by omega] at h
    clear hx hlast hiq hn
    go_wp2_with fail
    go_meet
    case rel => exact ⟨rfl, _, rfl, HIQ.out.symm⟩
   ·have hlt' : decide ((leastOf v : Int) < (l.length : Int)) = false := by rw [decide_eq_false_iff_not]; omega
    go_wp2_with fail
    go_meet
    case rel => exact ⟨rfl, false, rfl, by simp [isQuiet, HQ.out]; omega⟩
 case rest =>
  obtain ⟨rfl, b, rfl, hbq⟩ := hcut
  have hbl : b = true → l ≠ [] := by rintro h rfl; rw [hbq] at h; simp [isQuiet] at h
  have HBQ := hidZ hbq
  clear hbq
  go_upto_if 54 with fail
  go_cut [] (fun wx => ∃ W5 ws5, W5 = wx ∧ QuietSt w W5 p sb v rb rc rr ws5 b (lessOf b l))
  case first =>
   cases b
   ·go_wp2_with fail
    go_meet
    case rel => exact ⟨w5, _, rfl, HST.out⟩
   ·have hn := List.length_pos_iff.2 (hbl rfl)
    have hdl : (l.dropLast).length = l.length - 1 := List.length_dropLast
    have f0 := HP5.out.free 0
    have f11 := HP5.out.free 11
    have c11 := HP5.out.cell 11 rfl
    have hwr : IntKind.i64.wrap ((l.length : Int) - 1) = (l.length : Int) - 1 := IntWalk.i64_in _ (by omega)
    have h0 : (0 : Int) ≤ (l.length : Int) - 1 := by omega
    have h1 : (l.length : Int) - 1 ≤ (cap4 : Int) := by omega
    go_wp2_with fail
    go_meet
    case rel =>
     refine ⟨_, .slice (some ⟨g4, o4, none⟩) (l.length - 1) cap4, rfl, ?_⟩
     obtain ⟨hp5, hs5, hR5, hsh5, hb5, hRp', hps, hrbp, hrr5, hrc5⟩ := HST.out
     have hg := grown_trans (grown_set w5 p 11 (.bool true)) (grown_set _ p 0 (.slice (some ⟨g4, o4, none⟩) (l.length - 1) cap4))
     refine ⟨(hp5.set 11 (.bool true) (c' := cmdQ true) rfl).set 0 (.slice (some ⟨g4, o4, none⟩) (l.length - 1) cap4) rfl, ?_, (hg.block _ (lt_of_block hR5) (by simp; omega)).trans hR5, (hg.block _ (lt_of_block hsh5) (by simp; omega)).trans hsh5, below_then hb5 hb5.size hg (by omega), hRp', hps, hrbp, hrr5, fun j f hf => grown_cell (hrc5 j f hf) hg hrbp⟩
     refine ⟨g4, o4, cap4, by simp [lessOf], by simp [lessOf]; omega, hcm4, hgp4, Nat.lt_of_lt_of_le hgl4 hg.size, fun j x hx => ?_⟩
     have hj : j < l.length - 1 := by have := (List.getElem?_eq_some_iff.1 hx).1; simp [lessOf] at this; omega
     have hx' : l[j]? = some x := by
      have h2 : l.dropLast[j]? = some x := hx
      rw [List.getElem?_dropLast, if_pos hj] at h2
      exact h2
     exact grown_cell (HWC.out j x hx') hg hgp4
  case rest =>
   obtain ⟨W5, ws5, rfl, hst5⟩ := hcut
   have hl5m : ∀ x ∈ lessOf b l, x.length ≤ maxLen := fun x hx => by have := HX.out x (List.mem_cons_of_mem _ (lessOf_mem hx)); unfold maxLen; omega
   have HL5M := hidZ hl5m
   clear hl5m
   obtain ⟨hp5, hs5, hR5, hsh5, hb5, hRp', hps, hrbp, hrr5, hrc5⟩ := id hst5
   have HST5 := hidZ hst5
   generalize hl5 : lessOf b l = l5 at *
   have HL5 := hidZ hl5
   have hl5l : l5.length ≤ 3000 := by have := lessOf_len b l; rw [hl5] at this; omega
   obtain ⟨g5, o5, cap5, rfl, _, _, _, _, _⟩ := id hs5
   have hcl5 := hp5.cell 0 rfl
   have q1 : W5.cell? ⟨sb, 1, none⟩ = some (.int .i64 (leastOf v : Int)) := (block_cell hsh5 1).1
   have q2 : W5.cell? ⟨sb, 2, none⟩ = some (.int .i64 (mostOf v : Int)) := (block_cell hsh5 2).1
   clear hp5 hs5 hR5 hsh5 hb5 hrr5 hrc5 hst5 hl5 hcl q3 HP5 HS5 HWC
   go_upto_region 11 with fail
   go_cut [90] (fun s90 wx => ∃ W6 bad, W6 = wx ∧ s90 = .bool bad ∧ bad = (!dv || decide (l5.length < leastOf v) || decide (mostOf v < l5.length)) ∧ QuietSt w W6 p sb v rb rc rr (.slice (some ⟨g5, o5, none⟩) l5.length cap5) b l5)
   case first =>
    cases dv
    ·go_quiet (fail)
     go_wp2_with fail
     go_meet
     case rel => exact ⟨_, true, rfl, rfl, by simp, HST5.out.drewN _⟩
    ·by_cases hb1 : l5.length < leastOf v
     ·have hd1 : decide ((l5.length : Int) < (leastOf v : Int)) = true := by rw [decide_eq_true_eq]; omega
      have hd2 : decide (l5.length < leastOf v) = true := by rw [decide_eq_true_eq]; omega
      go_quiet (fail)
      go_wp2_with fail
      go_meet
      case rel => exact ⟨_, true, rfl, rfl, by simp [hd2], HST5.out.drewN _⟩
     ·have hd1 : decide ((l5.length : Int) < (leastOf v : Int)) = false := by rw [decide_eq_false_iff_not]; omega
      have hd2 : decide (l5.length < leastOf v) = false := by rw [decide_eq_false_iff_not]; omega
      by_cases hb2 : mostOf v < l5.length
      ·have hd3 : decide ((mostOf v : Int) < (l5.length : Int)) = true := by rw [decide_eq_true_eq]; omega
       have hd4 : decide (mostOf v < l5.length) = true := by rw [decide_eq_true_eq]; omega
       go_quiet (fail)
       go_wp2_with fail
       go_meet
       case rel => exact ⟨_, true, rfl, rfl, by simp [hd4], HST5.out.drewN _⟩
      ·have hd3 : decide ((mostOf v : Int) < (l5.length : Int)) = false := by rw [decide_eq_false_iff_not]; omega
       have hd4 : decide (mostOf v < l5.length) = false := by rw [decide_eq_false_iff_not]; omega
       go_quiet (fail)
       go_wp2_with fail
       go_meet
       case rel => exact ⟨_, false, rfl, rfl, by simp [hd2, hd4], HST5.out.drewN _⟩
   case rest =>
    obtain ⟨W6, bad, rfl, rfl, hbad, hst6⟩ := hcut
    obtain ⟨hp6, hs6, hR6, hsh6, hb6, hRp6, hps6, hrb6, hrr6, hrc6⟩ := id hst6
    have hbl : (bs s).length ≤ 2048 := by rw [bs_length]; omega
    have hpb : bad = true → parseL (bs s) = (noCmd, 1) := fun h => parseL_bad hbl HW.out (by
     rw [HVB.out, ← HBQ.out, HL5.out]
     rw [h] at hbad
     have := HDV.out
     simp at hbad this
     rcases hbad.symm with h | h
     ·exact .inr (.inr h)
     ·rcases h with h | h
      ·exact .inl (by rw [h] at this; simpa using this)
      ·exact .inr (.inl h))
    have hpg : bad = false → parseL (bs s) = parseW v b l5 ∧ leastOf v ≤ l5.length ∧ l5.length ≤ mostOf v := fun h => by
     rw [h] at hbad
     have := HDV.out
     simp at hbad this
     have hg := parseL_good hbl HW.out (by
      rw [HVB.out, ← HBQ.out, HL5.out]
      rintro (h1 | h1 | h1)
      ·rw [h1] at this; simp at this; simp [this] at hbad
      ·omega
      ·omega)
     rw [HVB.out, ← HBQ.out, HL5.out] at hg
     exact ⟨hg, by omega, by omega⟩
    have HPB := hidZ hpb
    have HPG := hidZ hpg
    have HST6 := hidZ hst6
    clear hpb hpg hst6 hbad HST5 HL5 HDV HVB HBQ HST hbl
    cases bad
    ·obtain ⟨hpw, hle, hmo⟩ := HPG.out rfl
     have HPW := hidZ hpw
     clear hpw HPG HPB
     have hL5 : ∀ x ∈ l5, x.length ≤ maxLen := HL5M.out
     have hEE : ∀ w', W6.grownBy w' (some p) → HasErr w' := fun w' hg => HE.out.below (below_then hb6 hb6.size hg (by omega))
     have hload := hsh6
     have hcall := lparse_any p v b rr _ l5 W6 hp6 hs6 hEE (by omega) hL5 hle (most_rest hle hmo) rb rc hrr6 hrb6 hrc6
     have HCALL := hidZ hcall
     have HB6 := hidZ hb6
     have HR6 := hidZ hR6
     have HR6' := hidZ hR6
     clear hcall hEE hL5 hb6 hR6 hp6 hs6 hrc6 hrr6 hsh6 hcl5 q1 q2
     go_wp2_with ((with_reducible show wpList _ _ _ (⟨_, Op.load _ _, _, _, _, _⟩ :: _) _ _); refine wpList_load_row (by rfl) 369 (.tmp 5) (by rfl) sb (by rfl) 369 _ _ _ hload Tryz.underlying369 rfl (by kernel_rfl) ?_)
     refine HCALL.out.mono ?_
     rintro e w7 ⟨ws7, ks7, c7, rfl, hg7, hp7, hc7⟩
     have hR7 : w7.heap[w.heap.size]? = some (.cells zeroA 113 (0, 0)) := (hg7.block _ (lt_of_block HR6.out) (by simp; omega)).trans HR6.out
     have hB7 : Below w.heap.size w w7 := below_then HB6.out HB6.out.size hg7 (by omega)
     have hrng := range_cmd hp7
     have hpw7 := HPW.out
     have htold := fun h0 h5 => parseW_told (v := v) (q := b) (l := l5) h0 h5
     generalize hT : parseW v b l5 = T at *
     obtain ⟨Tc, T⟩ := T
     simp only at hc7 htold
     have HC7 := hidZ hc7
     have HTOLD := hidZ htold
     have HPW7 := hidZ hpw7
     have HB7 := hidZ hB7
     clear hc7 htold hpw7 hB7 hT HPW HCALL HB6 HR6 hg7 hp7
     have hRW : w.heap.size < W6.heap.size := lt_of_block HR6'.out
     by_cases hT0 : T = 0
     ·have h0 : ((T : Int) != 0) = false := by rw [hT0]; rfl
      have HT0 := hidZ hT0
      have hT : T = 0 ∨ T = 5 := .inl hT0
      clear hT0
      obtain ⟨hcc, hown⟩ := HC7.out hT
      obtain ⟨ka, kc, hka⟩ := hown.1.len
      have hk1 : ks7.oneCell' = true := by rw [hka]; rfl
      have HOWN := hidZ hown
      have HCC := hidZ hcc
      have HKA := hidZ hka
      clear hown hcc hka hT
      go_wp2_with (first
       | ((with_reducible show wpList _ _ _ (⟨_, Op.load _ _, _, _, _, _⟩ :: _) _ _); refine wpList_load_mid (by rfl) 113 (.tmp 105) (by rfl) p 1 (by rfl) _ _ hrng Tryz.underlying113 rfl (by kernel_rfl) ?_)
       | ((with_reducible show wpList _ _ _ (⟨none, Op.store _ _ _, _, _, _, _⟩ :: _) _ _); refine wpList_store_whole (by rfl) 113 (.tmp 2) (.tmp 106) (by rfl) w.heap.size (by rfl) (cmdCells ks7 c7).toArray (by rfl) _ 113 hR7 (by rfl) (by kernel_rfl) (by simp [Value.oneCell']; exact hk1) ?_; intro w8 hr8 hg8 hs8)
       | ((with_reducible show bodyPost _ _ _ Exit.ret _ _); exact bodyPost_ret (v := .tuple #[cmdV ks7 c7, .int .u8 (T : Int)]) (results_row_tmp rfl _ _ w.heap.size _ _ _ _ (by rfl) hr8 Tryz.underlying113 rfl (by kernel_rfl) _ (by rfl)) rfl ⟨ks7, by rw [HPW7.out, HCC.out], by rw [HPW7.out, ← HCC.out]; exact (OwnT.grown HOWN.out hg8 hRW).mono (by omega), below_then HB7.out HB7.out.size hg8 (Nat.le_refl _)⟩))
     ·by_cases hT5 : T = 5
      ·have h0 : ((T : Int) != 0) = true := by rw [hT5]; rfl
       have h5 : ((T : Int) != 5) = false := by rw [hT5]; rfl
       have HT5 := hidZ hT5
       have hT : T = 0 ∨ T = 5 := .inr hT5
       clear hT5 hT0
       obtain ⟨hcc, hown⟩ := HC7.out hT
       obtain ⟨ka, kc, hka⟩ := hown.1.len
       have hk1 : ks7.oneCell' = true := by rw [hka]; rfl
       have HOWN := hidZ hown
       have HCC := hidZ hcc
       have HKA := hidZ hka
       clear hown hcc hka hT
       go_wp2_with (first
        | ((with_reducible show wpList _ _ _ (⟨_, Op.load _ _, _, _, _, _⟩ :: _) _ _); refine wpList_load_mid (by rfl) 113 (.tmp 105) (by rfl) p 1 (by rfl) _ _ hrng Tryz.underlying113 rfl (by kernel_rfl) ?_)
        | ((with_reducible show wpList _ _ _ (⟨none, Op.store _ _ _, _, _, _, _⟩ :: _) _ _); refine wpList_store_whole (by rfl) 113 (.tmp 2) (.tmp 106) (by rfl) w.heap.size (by rfl) (cmdCells ks7 c7).toArray (by rfl) _ 113 hR7 (by rfl) (by kernel_rfl) (by simp [Value.oneCell']; exact hk1) ?_; intro w8 hr8 hg8 hs8)
        | ((with_reducible show bodyPost _ _ _ Exit.ret _ _); exact bodyPost_ret (v := .tuple #[cmdV ks7 c7, .int .u8 (T : Int)]) (results_row_tmp rfl _ _ w.heap.size _ _ _ _ (by rfl) hr8 Tryz.underlying113 rfl (by kernel_rfl) _ (by rfl)) rfl ⟨ks7, by rw [HPW7.out, HCC.out], by rw [HPW7.out, ← HCC.out]; exact (OwnT.grown HOWN.out hg8 hRW).mono (by omega), below_then HB7.out HB7.out.size hg8 (Nat.le_refl _)⟩))
      ·have h0 : ((T : Int) != 0) = true := by rw [bne_iff_ne]; omega
       have h5 : ((T : Int) != 5) = true := by rw [bne_iff_ne]; omega
       have HT0 := hidZ hT0
       have HT5 := hidZ hT5
       clear hT0 hT5
       go_wp2_with (first | ((with_reducible show wpList _ _ _ (⟨none, Op.store _ _ _, _, _, _, _⟩ :: _) _ _); refine wpList_store_whole (by rfl) 113 (.tmp 2) (.tmp 101) (by rfl) w.heap.size (by rfl) _ (by rfl) _ 113 hR7 (by rfl) (by kernel_rfl) (by simp [Value.oneCell']) ?_; intro w8 hr8 hg8 hs8) | ((with_reducible show bodyPost _ _ _ Exit.ret _ _); exact bodyPost_ret (v := .tuple #[zeroV, .int .u8 (T : Int)]) (results_row_tmp rfl _ _ w.heap.size _ _ _ _ (by rfl) hr8 Tryz.underlying113 rfl (by kernel_rfl) _ (by rfl)) rfl (parseOk_zero (HPW7.out.trans (HTOLD.out HT0.out HT5.out)) (below_then HB7.out HB7.out.size hg8 (Nat.le_refl _)))))
    ·have HPB1 := hidZ (HPB.out rfl)
     clear HPB HPG
     go_wp2_with (first | ((with_reducible show wpList _ _ _ (⟨none, Op.store _ _ _, _, _, _, _⟩ :: _) _ _); refine wpList_store_whole (by rfl) 113 (.tmp 2) (.tmp 91) (by rfl) w.heap.size (by rfl) _ (by rfl) _ 113 hR6 (by rfl) (by kernel_rfl) (by simp [Value.oneCell']) ?_; intro w7 hr7 hg7 hs7) | ((with_reducible show bodyPost _ _ _ Exit.ret _ _); exact bodyPost_ret (v := .tuple #[zeroV, .int .u8 1]) (results_row_tmp rfl _ _ w.heap.size _ _ _ _ (by rfl) hr7 Tryz.underlying113 rfl (by kernel_rfl) _ (by rfl)) rfl (parseOk_zero HPB1.out (below_then hb6 hb6.size hg7 (Nat.le_refl _)))))
theorem lparseLine_any (s : ByteArray) (w : World) (hs : s.size ≤ 1048576) (hL : HasLen w) (hE : HasErr w) : Calls Tryz.prog 217 #[.string s] w (ParseOk (bs s) w) := by
 by_cases h : 2048 < s.size
 ·exact parse_long' s w h hs
 ·cases hw : words (bs s) with
  | nil => exact parse_none' s w (by omega) hw hL
  | cons name l => exact parse_some' s name l w (by omega) hw hL hE
theorem lparse_at (l : List UInt8) (w : World) (hs : l.length ≤ 1048576) (hL : HasLen w) (hE : HasErr w) : Calls Tryz.prog 217 #[sv l] w (ParseOk l w) := lparseLine_any ⟨l.toArray⟩ w (by rw [sv_size]; exact hs) hL hE
end Go.Proofs.YtnkkoicbnbjlnaaGreatDoor
