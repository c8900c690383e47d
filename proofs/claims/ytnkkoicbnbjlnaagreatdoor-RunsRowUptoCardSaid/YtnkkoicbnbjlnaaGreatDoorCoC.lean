/- What drop does with a connection. No condition. And what goes with it (4 texts). -/
import Derived.Test.YtnkkoicbnbjlnaaGreatDoorCoB
import Derived.StillTailTactics
import Derived.Test.YtnkkoicbnbjlnaaGreatDoorLowA
import Derived.Deep.AppendLies
import Derived.Deep.RegionLaw
namespace Go.Proofs.YtnkkoicbnbjlnaaGreatDoor
set_option maxRecDepth 100000
set_option maxHeartbeats 8000000
open Go.RowKit Go.ChangeMaps Go.MapKept
theorem slice_ev {g o n cap : Nat} (hc : n + 1 ≤ cap) (W : World) : (Instr.slice 116 (.slice (some ⟨g, o, none⟩) (n + 1) cap) (some (.int .i64 1)) (some (.int .i64 ((n : Int) + 1))) (some (.int .i64 ((n : Int) + 1)))).run Tryz.prog W = .ok (.slice (some ⟨g, if n = 0 then o else o + 13, none⟩) n n) W := by
 have h2 := Tryz.underlying116
 obtain ⟨i0, hi, hz0, hz1, hz2⟩ := info_parts infoEv
 have h3 : (1 : Int) ≤ (n : Int) + 1 := by omega
 have h4 : (n : Int) + 1 ≤ (cap : Int) := by omega
 have h5 : ((n : Int) + 1).toNat = n + 1 := by omega
 by_cases hn : n = 0
 ·subst hn
  go_simp
  intro h
  omega
 ·rw [if_neg hn]
  go_simp
theorem MidRow.empty {w : World} {base : Nat} {e : TypeId} {size : Nat} {g o n cap : Nat} {xs : List Value} (h : MidRow w base e size (.slice (some ⟨g, o, none⟩) n cap) n xs) : MidRow w base e size (.slice (some ⟨g, o, none⟩) 0 0) 0 [] := by
 obtain ⟨h1, ⟨h2, -⟩ | ⟨g', o', cap', cur, h3, h4, h5, h6, h7, h8, h9⟩⟩ := h
 ·cases h2
 ·obtain ⟨rfl, rfl⟩ : g = g' ∧ o = o' := by simpa using (Value.slice.inj h3).1
  exact ⟨by simp, .inr ⟨g, o, 0, cur, rfl, h4, h5, Nat.le_refl _, by omega, by omega, by simp⟩⟩
section
variable {n₀ : Nat} {w : World} {p : Nat} {hv ks wv cv ov : Value} {L : List (Value × Ev)} {m : ConnM}
theorem connDrop_any (h : ConnAt n₀ w p hv ks wv cv ov L m) (hl : L.length ≤ 1099511627776) :
  Calls Tryz.prog 95 #[.pointer (some ⟨p, 0, none⟩)] w fun e w' => (∃ v, e = .returned v) ∧ ∃ wv', ConnAt n₀ w' p hv ks wv' cv ov L.tail { m with wait := m.wait.tail } ∧ Chg (fun k => k = p) w w' ∧ ∀ g, wv'.ownBlock = some g → wv.ownBlock = some g := by
 obtain ⟨i0, hi, hz0, hz1, hz2⟩ := info_parts infoEv
 cases L with
 | nil =>
  obtain ⟨wa, wc, rfl⟩ := h.wait.len
  have c0 : w.cell? ⟨p, 14, none⟩ = some (.slice wa 0 wc) := (h.cell (j := 0) rfl).1
  have hw : m.wait = [] := h.evs.symm
  have H := hidZ h
  clear h
  go_enter Tryz.func95, Tryz.ntmps95
  go_wp2_with fail
  refine bodyPost_end (results_none (by exact Tryz.results95) _ _ _) rfl ⟨⟨_, rfl⟩, .slice wa 0 wc, ?_, Chg.refl _ _, fun _ hg => hg⟩
  have := H.out
  obtain ⟨f, wt, cl, u, o, cd⟩ := m
  dsimp only at hw
  subst hw
  exact this
 | cons x L =>
  obtain ⟨g, o, cap, rfl⟩ : ∃ g o cap, wv = .slice (some ⟨g, o, none⟩) (L.length + 1) cap := by
   obtain ⟨-, ⟨-, h0⟩ | ⟨g, o, cap, cur, h1, -⟩⟩ := h.wait
   ·simp at h0
   ·exact ⟨g, o, cap, h1⟩
  have c0 : w.cell? ⟨p, 14, none⟩ = some (.slice (some ⟨g, o, none⟩) (L.length + 1) cap) := (h.cell (j := 0) rfl).1
  have f0 : w.frozen? ⟨p, 14, none⟩ = false := (h.cell (j := 0) rfl).2
  have hcap : L.length + 1 ≤ cap := by
   obtain ⟨-, ⟨h0, -⟩ | ⟨g', o', cap', cur, h1, -, -, h2, -⟩⟩ := h.wait
   ·cases h0
   ·have := (Value.slice.inj h1).2.2
    have hx : (x :: L).length = L.length + 1 := rfl
    omega
  have hd0 : 0 < L.length + 1 := by omega
  rw [List.length_cons] at hl
  have H := hidZ h
  clear h
  obtain ⟨n, hn⟩ := xE (L.length)
  rw [← hn] at c0 hcap hl hd0
  have hsl := fun W => slice_ev (g := g) (o := o) hcap W
  obtain ⟨o2, ho2⟩ := xE (if n = 0 then o else o + 13)
  rw [← ho2] at hsl
  have HO2 := hidZ ho2
  have HN := hidZ hn
  clear hn ho2
  go_enter Tryz.func95, Tryz.ntmps95
  go_wp2_with fail
  go_still_tail 18, (by kernel_rfl)
  all_goals go_wp2_with fail
  refine bodyPost_end (results_none (by exact Tryz.results95) _ _ _) rfl ⟨⟨_, rfl⟩, .slice (some ⟨g, o2, none⟩) n n, ?_, ?_, fun _ hg => hg⟩
  ·have hd := H.out.below (Below.refl _ _).drew
   have hm : MidRow w.drew n₀ 206 13 (.slice (some ⟨g, o2, none⟩) n n) L.length (evsCells L) := by
    have hw := hd.wait
    rw [HO2.out, HN.out]
    by_cases h0 : L.length = 0
    ·obtain rfl : L = [] := List.eq_nil_of_length_eq_zero h0
     exact hw.empty
    ·rw [if_neg h0]
     exact hw.tail (x := evCells x.1 x.2) rfl (Nat.le_refl _) (by rw [← HN.out]; exact hcap)
   have := hd.setWait (L' := L) hm (fun y hy => hd.keys y (List.mem_cons_of_mem _ hy))
   rw [show m.wait.tail = L.map (·.2) from by rw [← H.out.evs]; rfl]
   exact this
  ·exact ((Chg.refl _ _).drew).then (M' := fun k => k = p) (cset_chg _ _ _ _) (fun _ _ e => e)
end
open Go.RowKit Go.ChangeMaps Go.MapKept
theorem tOf_len : ∀ k : Nat, (tOf k).length ≤ 200
 | 0 | 1 | 2 | 3 | 4 | 5 | 6 | 7 | 8 | 9 | 10 | 11 | 12 => by decide
 | n + 13 => by
  unfold tOf
  have h2 : toldL.length ≤ 13 := by decide
  have : toldL.getD (n + 13) [] = [] := by
   rw [List.getD_eq_getElem?_getD, List.getElem?_eq_none (by omega)]; rfl
  rw [this]
  decide
theorem version_len : versionL.length ≤ 200 := by decide
section
variable {n₀ : Nat} {w : World} {p : Nat} {hv ks wv cv ov : Value} {L : List (Value × Ev)} {m : ConnM}
def TurnOk (n₀ : Nat) (w : World) (p : Nat) (hv ks wv cv ov : Value) (_L : List (Value × Ev)) (m : ConnM) (e : Ending) (w' : World) : Prop :=
 (∃ v, e = .returned v) ∧ ∃ wv' ov' L', ConnAt n₀ w' p hv ks wv' cv ov' L' m ∧ Chg (CM p hv wv cv ov) w w' ∧ (∀ g, ov'.ownBlock = some g → ov.ownBlock = some g ∨ w.heap.size ≤ g) ∧ (∀ g, wv'.ownBlock = some g → wv.ownBlock = some g)
theorem connTurn_told (h : ConnAt n₀ w p hv ks wv cv ov L m) (kv : Value) (e : Ev) (ht : e.told ≠ 0) (ht2 : e.told < 256) (hn₀ : n₀ ≤ w.heap.size) (hl : m.out.length ≤ 1099511627000) :
  Calls Tryz.prog 94 #[.pointer (some ⟨p, 0, none⟩), evV kv e] w (TurnOk n₀ w p hv ks wv cv ov L { m with out := m.out ++ tOf e.told }) := by
 have hb2 : ∀ o1 o2 : Obj, Below w.heap.size w ((w.alloc o1).alloc o2) := fun o1 o2 => ((Below.refl _ _).alloc (Nat.le_refl _) o1).alloc (by simp) o2
 have HB2 := hidZ hb2
 have HOF := hidZ (fun W => of_any e.told W (by omega))
 have htell : ∀ W, Below w.heap.size w W → Calls Tryz.prog 104 #[.pointer (some ⟨p, 0, none⟩), sv (tOf e.told)] W fun e' w' => (∃ v, e' = .returned v) ∧ ∃ ov', ConnAt n₀ w' p hv ks wv cv ov' L { m with out := m.out ++ tOf e.told } ∧ Chg (CM p hv wv cv ov) W w' ∧ (∀ g, ov'.ownBlock = some g → ov.ownBlock = some g ∨ W.heap.size ≤ g) := fun W hW =>
  connTell_any (h.below hW) (tOf e.told) (Nat.le_trans hn₀ hW.size) (by have := tOf_len e.told; omega)
 have HT := hidZ htell
 have hne : ((e.told : Int) == 0) = false := by rw [beq_eq_false_iff_ne]; omega
 clear h htell hb2
 generalize tOf e.told = T at *
 go_enter Tryz.func94, Tryz.ntmps94
 go_wp2_with fail
 refine (HOF.out _).mono ?_
 rintro e1 w1 ⟨rfl, hb1⟩
 have hb3 : Below w.heap.size w w1 := (HB2.out _ _).trans (hb1.mono (HB2.out _ _).size)
 have HB3 := hidZ hb3
 have HTT := hidZ (HT.out w1 hb3)
 clear hb1 hb3
 go_wp2_with fail
 refine HTT.out.mono ?_
 rintro e2 w2 ⟨⟨v2, rfl⟩, ov', hc2, hch2, hfr2⟩
 go_wp2_with fail
 exact bodyPost_end (results_none (by exact Tryz.results94) _ _ _) rfl ⟨⟨_, rfl⟩, wv, ov', L, hc2, ((Chg.refl _ _).then (M := CM p hv wv cv ov) (M' := fun _ => False) (Chg.of_below HB3.out) (fun _ _ e => e.elim)).then hch2 (fun _ _ e => e), fun g hg => (hfr2 g hg).imp id (fun h => Nat.le_trans HB3.out.size h), fun _ hg => hg⟩
theorem connTurn_version (h : ConnAt n₀ w p hv ks wv cv ov L m) (kv : Value) (e : Ev) (ht : e.told = 0) (hv12 : e.cmd.verb = 12) (hn₀ : n₀ ≤ w.heap.size) (hl : m.out.length ≤ 1099511627000) :
  Calls Tryz.prog 94 #[.pointer (some ⟨p, 0, none⟩), evV kv e] w (TurnOk n₀ w p hv ks wv cv ov L { m with out := m.out ++ versionL }) := by
 have hb2 : ∀ o1 o2 : Obj, Below w.heap.size w ((w.alloc o1).alloc o2) := fun o1 o2 => ((Below.refl _ _).alloc (Nat.le_refl _) o1).alloc (by simp) o2
 have HB2 := hidZ hb2
 have HOF := hidZ (fun W => version_any W)
 have htell : ∀ W, Below w.heap.size w W → Calls Tryz.prog 104 #[.pointer (some ⟨p, 0, none⟩), sv versionL] W fun e' w' => (∃ v, e' = .returned v) ∧ ∃ ov', ConnAt n₀ w' p hv ks wv cv ov' L { m with out := m.out ++ versionL } ∧ Chg (CM p hv wv cv ov) W w' ∧ (∀ g, ov'.ownBlock = some g → ov.ownBlock = some g ∨ W.heap.size ≤ g) := fun W hW =>
  connTell_any (h.below hW) versionL (Nat.le_trans hn₀ hW.size) (by have := version_len; omega)
 have HT := hidZ htell
 have hne : ((e.told : Int) == 0) = true := by rw [beq_iff_eq]; omega
 have hne2 : ((e.cmd.verb : Int) == 12) = true := by rw [beq_iff_eq]; omega
 clear ht hv12
 clear h htell hb2
 generalize versionL = T at *
 go_enter Tryz.func94, Tryz.ntmps94
 go_wp2_with fail
 refine (HOF.out _).mono ?_
 rintro e1 w1 ⟨rfl, hb1⟩
 have hb3 : Below w.heap.size w w1 := (HB2.out _ _).trans (hb1.mono (HB2.out _ _).size)
 have HB3 := hidZ hb3
 have HTT := hidZ (HT.out w1 hb3)
 clear hb1 hb3
 go_wp2_with fail
 refine HTT.out.mono ?_
 rintro e2 w2 ⟨⟨v2, rfl⟩, ov', hc2, hch2, hfr2⟩
 go_wp2_with fail
 exact bodyPost_end (results_none (by exact Tryz.results94) _ _ _) rfl ⟨⟨_, rfl⟩, wv, ov', L, hc2, ((Chg.refl _ _).then (M := CM p hv wv cv ov) (M' := fun _ => False) (Chg.of_below HB3.out) (fun _ _ e => e.elim)).then hch2 (fun _ _ e => e), fun g hg => (hfr2 g hg).imp id (fun h => Nat.le_trans HB3.out.size h), fun _ hg => hg⟩
theorem connTurn_quit (h : ConnAt n₀ w p hv ks wv cv ov L m) (kv : Value) (e : Ev) (ht : e.told = 0) (hv13 : e.cmd.verb = 13) :
  Calls Tryz.prog 94 #[.pointer (some ⟨p, 0, none⟩), evV kv e] w (TurnOk n₀ w p hv ks wv cv ov L { m with closed := true, wait := [] }) := by
 have hp := h.feed.plt
 have c4 : w.cell? ⟨p, 18, none⟩ = some (.bool m.closed) := (h.cell (j := 4) rfl).1
 have f4 : w.frozen? ⟨p, 18, none⟩ = false := (h.cell (j := 4) rfl).2
 have h1 := h.setClosed true
 have c0 : (w.setCell ⟨p, 18, none⟩ (.bool true)).cell? ⟨p, 14, none⟩ = some wv := (h1.cell (j := 0) rfl).1
 have f0 : (w.setCell ⟨p, 18, none⟩ (.bool true)).frozen? ⟨p, 14, none⟩ = false := (h1.cell (j := 0) rfl).2
 have h2 := h1.setWait (wv' := .slice none 0 0) (L' := []) (MidRow.nil _ _ _ _) (fun _ hx => by cases hx)
 have hch : Chg (CM p hv wv cv ov) w ((w.setCell ⟨p, 18, none⟩ (.bool true)).setCell ⟨p, 14, none⟩ (.slice none 0 0)) := ((Chg.refl _ _).then (M := CM p hv wv cv ov) (M' := fun k => k = p) (cset_chg _ _ _ _) (fun _ _ e => .inl e)).then (M' := fun k => k = p) (cset_chg _ _ _ _) (fun _ _ e => .inl e)
 have hall : ∀ o1 o2 : Obj, ConnAt n₀ ((((w.setCell ⟨p, 18, none⟩ (.bool true)).setCell ⟨p, 14, none⟩ (.slice none 0 0)).alloc o1).alloc o2) p hv ks (.slice none 0 0) cv ov [] { m with closed := true, wait := [] } ∧ Chg (CM p hv wv cv ov) w ((((w.setCell ⟨p, 18, none⟩ (.bool true)).setCell ⟨p, 14, none⟩ (.slice none 0 0)).alloc o1).alloc o2) := fun o1 o2 =>
  ⟨(h2.below ((Below.refl _ _).alloc (Nat.le_refl _) o1)).below ((Below.refl _ _).alloc (Nat.le_refl _) o2), (hch.alloc o1).alloc o2⟩
 have HA := hidZ hall
 have hne : ((e.told : Int) == 0) = true := by rw [beq_iff_eq]; omega
 have hne2 : ((e.cmd.verb : Int) == 12) = false := by rw [beq_eq_false_iff_ne]; omega
 have hne3 : ((e.cmd.verb : Int) == 13) = true := by rw [beq_iff_eq]; omega
 clear h h1 h2 hch hall ht hv13
 go_enter Tryz.func94, Tryz.ntmps94
 go_wp2_with fail
 exact bodyPost_end (results_none (by exact Tryz.results94) _ _ _) rfl ⟨⟨_, rfl⟩, _, ov, [], (HA.out _ _).1, (HA.out _ _).2, fun g hg => .inl hg, fun g hg => by simp [Value.ownBlock] at hg⟩
end
open Go.RowKit Go.ChangeMaps Go.MapKept
section
variable {n₀ : Nat} {w : World} {p : Nat} {hv ks wv cv ov : Value} {L : List (Value × Ev)} {m : ConnM}
theorem ConnAt.newCalls (h : ConnAt n₀ w p hv ks wv cv ov L m) {cv' : Value} {C : List Cmd} {W : World} (hc : Chg (fun k => k = p) w W)
  (hf : FeedAt n₀ W p 119 (connRest wv cv' m.under ov m.closed) hv ks m.feed) (hm : MidRow W n₀ 26 7 cv' C.length (callsCells C)) : ConnAt n₀ W p hv ks wv cv' ov L { m with calls := C } := by
 have hp := h.ptag
 refine ⟨hf, h.evs, h.wait.kept hc (fun g hg e => ?_), fun x hx => (h.keys x hx).kept hc (fun g hg e => ?_), hm, h.out.kept hc (fun g hg e => ?_), h.apart⟩
 ·subst e; exact absurd (hp.one (h.wait.tag hg).1) (by decide)
 ·subst e; exact absurd (hp.one ((h.keys x hx).tag hg)) (by decide)
 ·subst e; exact absurd (hp.one (h.out.tag hg).1) (by decide)
theorem connTurn_call (h : ConnAt n₀ w p hv ks wv cv ov L m) (ka : Option Addr) (kn kc : Nat) (e : Ev) (ht : e.told = 0) (h1 : e.cmd.verb ≠ 1) (h2 : e.cmd.verb ≠ 2) (h12 : e.cmd.verb ≠ 12) (h13 : e.cmd.verb ≠ 13) (hn₀ : n₀ ≤ w.heap.size) :
  Calls Tryz.prog 94 #[.pointer (some ⟨p, 0, none⟩), evV (.slice ka kn kc) e] w fun e' w' => (∃ v, e' = .returned v) ∧ ∃ cv', ConnAt n₀ w' p hv ks wv cv' ov L { m with calls := [{ e.cmd with value := e.data }] } ∧ Chg (fun k => k = p) w w' ∧ ∀ g, cv'.ownBlock = some g → w.heap.size ≤ g := by
 have hp := h.feed.plt
 have c1 : w.cell? ⟨p, 15, none⟩ = some cv := (h.cell (j := 1) rfl).1
 have f1 : w.frozen? ⟨p, 15, none⟩ = false := (h.cell (j := 1) rfl).2
 have hall : ∀ (o1 o2 : Obj), ConnAt n₀ ((((w.setCell ⟨p, 15, none⟩ (.slice (some ⟨w.heap.size + 2, 0, none⟩) 1 1)).alloc o1).alloc o2).alloc (.cells (callCells { e.cmd with value := e.data }).toArray 26)) p hv ks wv (.slice (some ⟨w.heap.size + 2, 0, none⟩) 1 1) ov L { m with calls := [{ e.cmd with value := e.data }] } ∧
   Chg (fun k => k = p) w ((((w.setCell ⟨p, 15, none⟩ (.slice (some ⟨w.heap.size + 2, 0, none⟩) 1 1)).alloc o1).alloc o2).alloc (.cells (callCells { e.cmd with value := e.data }).toArray 26)) := fun o1 o2 => by
  have hch : Chg (fun k => k = p) w ((((w.setCell ⟨p, 15, none⟩ (.slice (some ⟨w.heap.size + 2, 0, none⟩) 1 1)).alloc o1).alloc o2).alloc (.cells (callCells { e.cmd with value := e.data }).toArray 26)) := (((cset_chg _ _ _ _).alloc o1).alloc o2).alloc _
  refine ⟨h.newCalls hch ((((h.feed.setRest 1 _).alloc o1).alloc o2).alloc _) ?_, hch⟩
  refine ⟨rfl, .inr ⟨w.heap.size + 2, 0, 1, _, rfl, by omega, by rw [heap_at, if_pos (by simp)], Nat.le_refl _, by unfold maxLen; decide, Nat.le_refl _, rfl⟩⟩
 have hb3 : ∀ (o1 o2 o3 : Obj), ConnAt n₀ (((w.alloc o1).alloc o2).alloc o3) p hv ks wv cv ov L m := fun o1 o2 o3 => ((h.below ((Below.refl _ _).alloc (Nat.le_refl _) o1)).below ((Below.refl _ _).alloc (Nat.le_refl _) o2)).below ((Below.refl _ _).alloc (Nat.le_refl _) o3)
 have hq1 : ∀ (o1 o2 o3 : Obj), (((w.alloc o1).alloc o2).alloc o3).cell? ⟨p, 15, none⟩ = some cv := fun o1 o2 o3 => ((hb3 o1 o2 o3).cell (j := 1) rfl).1
 have hq2 : ∀ (o1 o2 o3 : Obj), (((w.alloc o1).alloc o2).alloc o3).frozen? ⟨p, 15, none⟩ = false := fun o1 o2 o3 => ((hb3 o1 o2 o3).cell (j := 1) rfl).2
 have hallB : ∀ (o1 o2 : Obj), ConnAt n₀ ((((w.alloc o1).alloc o2).alloc (.cells (callCells { e.cmd with value := e.data }).toArray 26)).setCell ⟨p, 15, none⟩ (.slice (some ⟨w.heap.size + 2, 0, none⟩) 1 1)) p hv ks wv (.slice (some ⟨w.heap.size + 2, 0, none⟩) 1 1) ov L { m with calls := [{ e.cmd with value := e.data }] } ∧
   Chg (fun k => k = p) w ((((w.alloc o1).alloc o2).alloc (.cells (callCells { e.cmd with value := e.data }).toArray 26)).setCell ⟨p, 15, none⟩ (.slice (some ⟨w.heap.size + 2, 0, none⟩) 1 1)) := fun o1 o2 => by
  have hm : MidRow (((w.alloc o1).alloc o2).alloc (.cells (callCells { e.cmd with value := e.data }).toArray 26)) n₀ 26 7 (.slice (some ⟨w.heap.size + 2, 0, none⟩) 1 1) 1 (callsCells [{ e.cmd with value := e.data }]) :=
   ⟨rfl, .inr ⟨w.heap.size + 2, 0, 1, _, rfl, by omega, by rw [heap_at, if_pos (by simp)], Nat.le_refl _, by unfold maxLen; decide, Nat.le_refl _, rfl⟩⟩
  exact ⟨(hb3 o1 o2 _).setCalls (C := [{ e.cmd with value := e.data }]) hm, ((((Chg.refl _ _).alloc o1).alloc o2).alloc _).then (M := fun k => k = p) (M' := fun k => k = p) (cset_chg _ _ _ _) (fun _ _ e => e)⟩
 have HB := hidZ hallB
 have HA := hidZ hall
 have hne : ((e.told : Int) == 0) = true := by rw [beq_iff_eq]; omega
 have hne1 : ((e.cmd.verb : Int) == 12) = false := by rw [beq_eq_false_iff_ne]; omega
 have hne2 : ((e.cmd.verb : Int) == 13) = false := by rw [beq_eq_false_iff_ne]; omega
 have hne3 : ((e.cmd.verb : Int) == 1) = false := by rw [beq_eq_false_iff_ne]; omega
 have hne4 : ((e.cmd.verb : Int) == 2) = false := by rw [beq_eq_false_iff_ne]; omega
 clear hb3 hallB
 clear h hall ht h1 h2 h12 h13
 go_enter Tryz.func94, Tryz.ntmps94
 go_wp2_with fail
 exact bodyPost_end (results_none (by exact Tryz.results94) _ _ _) rfl ⟨⟨_, rfl⟩, _, (HB.out _ _).1, (HB.out _ _).2, fun g hg => by have := Option.some.inj (show some (w.heap.size + 2) = some g from hg); omega⟩
end
open Go.RowKit Go.ChangeMaps Go.MapKept
theorem step_append_mid {P : Program} {w : World} {ops : Array Oper} {o : Oper} {a : Act} {K : Act → World → Prop} {Q : Exit → Act → World → Prop} {E : Prop} (hgd : o.guard = none) (s x : Operand) (t tx : TypeId)
  (ho : o.op = .call { callee := .builtin .append, args := #[s, x], argTypes := #[t, tx] })
  (base : Nat) (e : TypeId) (i : TypeInfo) (z : Value) (size bytes : Nat) (ht : P.underlying t = some (.slice e)) (hi : P.info? e = some i) (hz : i.zero = some z)
  (hsize : i.size = size) (hby : i.bytes = bytes) (hzs : z.cells.size = size)
  (v : Value) (n : Nat) (xs : List Value) (hs : a.eval s = v) (hown : MidRow w base e size v n xs)
  (xv : Value) (m : Nat) (news : List Value) (hx : a.eval x = xv) (hsrc : Src P size tx xv m news w)
  (h63 : n + m ≤ maxLen) (hbytes : (n + m) * bytes ≤ 140737488355328) (hbase : base ≤ w.heap.size)
  (h : ∀ a' c' w', MidRow w' base e size (.slice a' (n + m) c') (n + m) (xs ++ news) → w.grownBy w' v.ownBlock → ((Value.slice a' (n + m) c').ownBlock = v.ownBlock ∨ (Value.slice a' (n + m) c').ownBlock = some w.heap.size) → K (a.put o.dst (.slice a' (n + m) c')) w') :
  if Region.wanted o (yielded ops a.tmps) = true then Oper.wp P o a w K Q else E := by
 have hw : Region.wanted o (yielded ops a.tmps) = true := by simp [Region.wanted, hgd]
 rw [if_pos hw]
 obtain ⟨v', w', hr, h2, h3, h4⟩ := run_append_mid (P := P) w base t tx o.type e i z size bytes ht hi hz hsize hby hzs v n xs hown xv m news hsrc h63 hbytes hbase
 obtain ⟨a', c', rfl⟩ := h2.len
 unfold Oper.wp execOp
 simp only [ho, resolve, invoke, builtin, Sem.run_bind, Sem.run_pure, Result.andThen_ok, List.map_toArray, List.map_cons, List.map_nil, hs, hx, hr]
 exact h a' c' w' h2 h3 h4
section
variable {n₀ : Nat} {w : World} {p : Nat} {hv ks wv cv ov : Value} {L : List (Value × Ev)} {m : ConnM}
structure GetsJ (n₀ : Nat) (w : World) (p : Nat) (hv ks wv cv ov : Value) (L : List (Value × Ev)) (m : ConnM) (c : Cmd) (kv : Value) (pb : Nat) (W : World) (cv' : Value) (j : Nat) (y : List UInt8) : Prop where
 conn : ConnAt n₀ W p hv ks wv cv' ov L { m with calls := (c.keys.take j).map (fun k => { c with key := k }) }
 box : W.heap[pb]? = some (.cells (callCells { c with key := y }).toArray 26 (0, 0))
 new : w.heap.size ≤ pb
 apart : cv'.ownBlock ≠ some pb
 keys : KeysAt W kv c.keys
 chg : Chg (CM p hv wv cv ov) w W
 fresh : ∀ g, cv'.ownBlock = some g → cv.ownBlock = some g ∨ w.heap.size ≤ g
theorem GetsJ.set {c : Cmd} {kv : Value} {pb : Nat} {W : World} {cv' : Value} {j : Nat} {y : List UInt8} (h : GetsJ n₀ w p hv ks wv cv ov L m c kv pb W cv' j y) (hpw : p < w.heap.size) (hf : ∀ k, CM p hv wv cv ov k → k < w.heap.size) (x : List UInt8) : GetsJ n₀ w p hv ks wv cv ov L m c kv pb (W.setCell ⟨pb, 1, none⟩ (sv x)) cv' j x := by
 have hst : Chg (fun k => k = pb) W (W.setCell ⟨pb, 1, none⟩ (sv x)) := cset_chg _ _ _ _
 have hpt : ∀ t, t ≠ 26 → ¬ Tag W pb t := fun t ht e => ht (e.one (Tag.of h.box))
 have hn := h.new
 refine ⟨h.conn.kept hst (fun k hk => ?_), Go.Joins.block_setCell (i := 1) h.box (sv x), hn, h.apart, h.keys.kept hst (fun g hg e => by subst e; exact hpt _ (by decide) (h.keys.tag hg)), h.chg.then (M' := fun k => k = pb) hst (fun k hk e => by omega), h.fresh⟩
 subst hk
 refine ⟨fun hcm => ?_, hpt _ (by decide)⟩
 rcases hcm with e | e | e | e | e
 ·omega
 ·have := hf k (.inr (.inl e)); omega
 ·have := hf k (.inr (.inr (.inl e))); omega
 ·exact h.apart e
 ·have := hf k (.inr (.inr (.inr (.inr e)))); omega
theorem GetsJ.push {c : Cmd} {kv : Value} {pb : Nat} {W w2 : World} {cv' cv2 : Value} {j : Nat} {x : List UInt8} {o : Obj} (h : GetsJ n₀ w p hv ks wv cv ov L m c kv pb W cv' j x) (hj : c.keys[j]? = some x)
  (hm : MidRow w2 n₀ 26 7 cv2 (j + 1) (callsCells ((c.keys.take j).map (fun k => { c with key := k })) ++ callCells { c with key := x })) (hg : (W.drew.alloc o).grownBy w2 cv'.ownBlock) (hat : cv2.ownBlock = cv'.ownBlock ∨ cv2.ownBlock = some (W.heap.size + 1)) :
  (w2.cell? ⟨p, 15, none⟩ = some cv' ∧ w2.frozen? ⟨p, 15, none⟩ = false) ∧ GetsJ n₀ w p hv ks wv cv ov L m c kv pb (w2.setCell ⟨p, 15, none⟩ cv2) cv2 (j + 1) x := by
 have hc1 : Chg (fun k => cv'.ownBlock = some k) W w2 := ((Chg.refl _ _).drew.alloc o).then (M' := fun k => cv'.ownBlock = some k) (Chg.of_grown hg (fun _ _ e => e)) (fun _ _ e => e)
 have htag : ∀ k, cv'.ownBlock = some k → Tag W k 26 := fun k hk => (h.conn.calls.tag hk).1
 have hno : ∀ k, cv'.ownBlock = some k → ∀ t, t ≠ 26 → ¬ Tag W k t := fun k hk t ht e => ht (e.one (htag k hk))
 have hf2 := h.conn.feed.kept hc1 (fun k hk => ⟨fun e => by
  rcases (h.conn.feed.fm e).2 with h1 | h1
  ·exact hno k hk _ (by decide) h1
  ·exact hno k hk _ (by decide) h1, hno k hk _ (by decide)⟩)
 have hst := cset_chg w2 p 15 cv2
 have hp2 : Tag w2 p 119 := hf2.box.tag
 have htk : (c.keys.take (j + 1)).map (fun k => ({ c with key := k } : Cmd)) = (c.keys.take j).map (fun k => { c with key := k }) ++ [{ c with key := x }] := take_keys (fun k => ({ c with key := k } : Cmd)) hj
 have hlen : ((c.keys.take (j + 1)).map (fun k => ({ c with key := k } : Cmd))).length = j + 1 := by
  have := (List.getElem?_eq_some_iff.1 hj).1
  rw [List.length_map, List.length_take]; omega
 have hW : W.heap.size ≤ w2.heap.size := hc1.size
 have hpp : p ≠ pb := fun e => absurd (h.conn.ptag.one (by rw [e]; exact Tag.of h.box)) (by decide)
 have hw2 := h.conn.wait.kept hc1 (fun g hg e => hno g e _ (by decide) (h.conn.wait.tag hg).1)
 have hk2 : ∀ y ∈ L, KeysAt w2 y.1 y.2.cmd.keys := fun y hy => (h.conn.keys y hy).kept hc1 (fun g hg e => hno g e _ (by decide) ((h.conn.keys y hy).tag hg))
 have ho2 := h.conn.out.kept hc1 (fun g hg e => hno g e _ (by decide) (h.conn.out.tag hg).1)
 have hkv2 := h.keys.kept hc1 (fun g hg e => hno g e _ (by decide) (h.keys.tag hg))
 refine ⟨hf2.box.restCell (j := 1) rfl, ⟨⟨hf2.setRest 1 cv2, h.conn.evs, hw2.kept hst (fun g hg e => ?_), fun y hy => (hk2 y hy).kept hst (fun g hg e => ?_), ?_, ho2.kept hst (fun g hg e => ?_), h.conn.apart⟩, ?_, h.new, ?_, hkv2.kept hst (fun g hg e => ?_), ?_, ?_⟩⟩
 ·subst e; exact absurd (hp2.one (hw2.tag hg).1) (by decide)
 ·subst e; exact absurd (hp2.one ((hk2 y hy).tag hg)) (by decide)
 ·show MidRow _ _ _ _ _ ((c.keys.take (j + 1)).map (fun k => ({ c with key := k } : Cmd))).length (callsCells ((c.keys.take (j + 1)).map (fun k => { c with key := k })))
  rw [hlen, htk, callsCells_snoc]
  exact hm.kept hst (fun g hg e => by subst e; exact absurd (hp2.one (hm.tag hg).1) (by decide))
 ·subst e; exact absurd (hp2.one (ho2.tag hg).1) (by decide)
 ·exact hst.obj (hc1.obj h.box (fun e => h.apart e)) (fun e => hpp e.symm)
 ·intro e
  rcases hat with ha | ha
  ·rw [ha] at e; exact h.apart e
  ·rw [ha] at e
   have h1 := Option.some.inj e
   have h2 := (Tag.of h.box).lt
   omega
 ·subst e; exact absurd (hp2.one (hkv2.tag hg)) (by decide)
 ·refine (h.chg.then (M' := fun k => cv'.ownBlock = some k) hc1 (fun k hk e => ?_)).then (M' := fun k => k = p) hst (fun k _ e => .inl e)
  rcases h.fresh k e with h1 | h1
  ·exact .inr (.inr (.inr (.inl h1)))
  ·omega
 ·intro g hg
  rcases hat with ha | ha
  ·rw [ha] at hg; exact h.fresh g hg
  ·rw [ha] at hg
   have h1 := Option.some.inj hg
   have := h.chg.size
   exact .inr (by omega)
theorem connTurn_gets (h : ConnAt n₀ w p hv ks wv cv ov L m) (ka : Option Addr) (kn kc : Nat) (e : Ev) (hkeys : KeysAt w (.slice ka kn kc) e.cmd.keys) (ht : e.told = 0) (hg : e.cmd.verb = 1 ∨ e.cmd.verb = 2) (hkl : e.cmd.keys.length ≤ 2048) (hm0 : m.calls = []) (hn₀ : n₀ ≤ w.heap.size) :
  Calls Tryz.prog 94 #[.pointer (some ⟨p, 0, none⟩), evV (.slice ka kn kc) e] w fun e' w' => (∃ v, e' = .returned v) ∧ ∃ cv', ConnAt n₀ w' p hv ks wv cv' ov L { m with calls := callsE e } ∧ Chg (CM p hv wv cv ov) w w' ∧ (∀ g, cv'.ownBlock = some g → cv.ownBlock = some g ∨ w.heap.size ≤ g) := by
 obtain ⟨i0, hi0, hz0, hz1, hz2⟩ := info_parts infoCall
 have Hi := hidZ hi0
 have Hz := hidZ (And.intro hz0 (And.intro hz1 hz2))
 obtain ⟨ka', kc', hke⟩ := hkeys.len
 obtain ⟨rfl, rfl, rfl⟩ := slice_inj hke
 have hp := h.feed.plt
 have hfar := fun k (hk : CM p hv wv cv ov k) => h.far hk
 have hce := callsE_gets ht hg
 obtain ⟨pb, hpb⟩ := xE (w.heap.size + 1)
 have hbx : ∀ o1, ((w.alloc o1).alloc (.cells (callCells e.cmd).toArray 26)).heap[pb]? = some (.cells (callCells { e.cmd with key := e.cmd.key }).toArray 26 (0, 0)) := fun o1 => by rw [heap_at, if_pos (by simp; exact hpb)]
 have hj0 : ∀ o1, GetsJ n₀ w p hv ks wv cv ov L m e.cmd (.slice ka e.cmd.keys.length kc) pb ((w.alloc o1).alloc (.cells (callCells e.cmd).toArray 26)) cv 0 e.cmd.key := fun o1 => by
  have hb2 : Below w.heap.size w ((w.alloc o1).alloc (.cells (callCells e.cmd).toArray 26)) := ((Below.refl _ _).alloc (Nat.le_refl _) o1).alloc (by simp) _
  have h2 := h.below hb2
  refine ⟨?_, hbx o1, by omega, fun e' => ?_, hkeys.below hb2, Chg.of_below hb2, fun g hg => .inl hg⟩
  ·rw [List.take_zero, List.map_nil]
   have : ({ m with calls := [] } : ConnM) = m := by
    obtain ⟨f, wt, cl, u, o, cd⟩ := m
    dsimp only at hm0
    subst hm0
    rfl
   rw [this]
   exact h2
  ·have := hfar pb (.inr (.inr (.inr (.inl e'))))
   omega
 have HJ0 := hidZ hj0
 have HFAR := hidZ hfar
 have HCE := hidZ hce
 have HPB := hidZ hpb
 have hne : ((e.told : Int) == 0) = true := by rw [beq_iff_eq]; omega
 have hne1 : ((e.cmd.verb : Int) == 12) = false := by rw [beq_eq_false_iff_ne]; omega
 have hne2 : ((e.cmd.verb : Int) == 13) = false := by rw [beq_eq_false_iff_ne]; omega
 clear hke hbx hj0 hfar hce h hkeys hi0 hz0 hz1 hz2
 rcases hg with hg | hg
 all_goals
  first
   | (have t3 : ((e.cmd.verb : Int) == 1) = true := by rw [beq_iff_eq]; omega)
   | (have t3 : ((e.cmd.verb : Int) == 1) = false := by rw [beq_eq_false_iff_ne]; omega
      have t4 : ((e.cmd.verb : Int) == 2) = true := by rw [beq_iff_eq]; omega)
  clear hg ht
  go_enter Tryz.func94, Tryz.ntmps94
  go_wp2_with fail
  rw [← hpb]
  clear hpb
  go_loopw [48] (fun s48 wr => ∃ (j : Nat) (cv' : Value) (y : List UInt8), s48 = .int .i64 (j : Int) ∧ j ≤ e.cmd.keys.length ∧ GetsJ n₀ w p hv ks wv cv ov L m e.cmd (.slice ka e.cmd.keys.length kc) pb wr cv' j y) (fun s48 _ => e.cmd.keys.length - (intOf s48).toNat)
  case atStart => exact ⟨0, _, e.cmd.key, rfl, Nat.zero_le _, HJ0.out _⟩
  case round =>
   obtain ⟨j, cv', y, rfl, hjl, hj⟩ := hrel
   clear HJ0
   have HJ := hidZ hj
   by_cases hlt2 : j < e.cmd.keys.length
   ·obtain ⟨x, hx⟩ : ∃ x, e.cmd.keys[j]? = some x := ⟨_, List.getElem?_eq_getElem hlt2⟩
    obtain ⟨g2, o2, c2, hs2, -, hc2, -⟩ := hj.keys.at (k := j) (x := sv x) (by rw [List.getElem?_map, hx]; rfl)
    obtain ⟨rfl, -, -⟩ := slice_inj hs2
    have ix2 := fun W => idx_str' (a := some ⟨g2, o2, none⟩) (c := kc) rfl hlt2 W
    have hj1 := hj.set hp HFAR.out x
    have zf : wr.frozen? ⟨pb, 1, none⟩ = false := (block_cell hj.box 1).2
    have z0 : wr.cell? ⟨pb, 0, none⟩ = some (.int .u8 (e.cmd.cverb : Int)) := (block_cell hj.box 0).1
    have z1 : wr.cell? ⟨pb, 1, none⟩ = some (sv y) := (block_cell hj.box 1).1
    have z2 : wr.cell? ⟨pb, 2, none⟩ = some (sv e.cmd.value) := (block_cell hj.box 2).1
    have z3 : wr.cell? ⟨pb, 3, none⟩ = some (.int .u32 (e.cmd.flags : Int)) := (block_cell hj.box 3).1
    have z4 : wr.cell? ⟨pb, 4, none⟩ = some (.int .i64 e.cmd.exp) := (block_cell hj.box 4).1
    have z5 : wr.cell? ⟨pb, 5, none⟩ = some (.int .u64 (e.cmd.id : Int)) := (block_cell hj.box 5).1
    have z6 : wr.cell? ⟨pb, 6, none⟩ = some (.int .u64 (e.cmd.by' : Int)) := (block_cell hj.box 6).1
    have zc : wr.cell? ⟨p, 15, none⟩ = some cv' := (hj.conn.cell (j := 1) rfl).1
    have hppb : p ≠ pb := fun e' => absurd (hj.conn.ptag.one (by rw [e']; exact Tag.of hj.box)) (by decide)
    have hmj : ((e.cmd.keys.take j).map (fun k => ({ e.cmd with key := k } : Cmd))).length = j := by rw [List.length_map, List.length_take]; omega
    have hmid : MidRow (wr.setCell ⟨pb, 1, none⟩ (sv x)) n₀ 26 7 cv' j (callsCells ((e.cmd.keys.take j).map (fun k => { e.cmd with key := k }))) := by
     have := hj1.conn.calls
     dsimp only at this
     rwa [hmj] at this
    obtain ⟨va2, vc2, rfl⟩ := hmid.len
    have hw1 : n₀ ≤ wr.heap.size := Nat.le_trans hn₀ hj.chg.size
    have hp1 : p < wr.heap.size := hj.conn.feed.plt
    have hmid2 : MidRow ((wr.setCell ⟨pb, 1, none⟩ (sv x)).drew.alloc (.cells (callCells { e.cmd with key := x }).toArray 26)) n₀ 26 7 (.slice va2 j vc2) j (callsCells ((e.cmd.keys.take j).map (fun k => { e.cmd with key := k }))) := hmid.kept (M := fun _ => False) ((Chg.refl _ _).drew.alloc _) (fun _ _ e => e)
    have hsrc : Src Tryz.prog 7 117 (.slice (some ⟨wr.heap.size, 0, none⟩) 1 1) 1 (callCells { e.cmd with key := x }) ((wr.setCell ⟨pb, 1, none⟩ (sv x)).drew.alloc (.cells (callCells { e.cmd with key := x }).toArray 26)) :=
     Src.ofSlice (P := Tryz.prog) _ Tryz.underlying117 _ 1 1 _ rfl (World.news_of_block (cs := (callCells { e.cmd with key := x }).toArray) (by rw [heap_at, if_pos (by simp)])) (by simp [Value.oneCell'])
    have HM := hidZ hmid2
    have HS := hidZ hsrc
    have HJ1 := hidZ hj1
    have HX := hidZ hx
    clear hj hj1 hmid hmid2 hsrc hs2 hmj hx HJ
    go_upto_region 15 with fail
    go_region_law (first | (refine step_append_mid (by rfl) _ _ 117 117 (by rfl) n₀ 26 i0 (.agg callZero) 7 72 Tryz.underlying117 Hi.out Hz.out.1 Hz.out.2.1 Hz.out.2.2 rfl (.slice va2 j vc2) j _ (by rfl) HM.out (.slice (some ⟨wr.heap.size, 0, none⟩) 1 1) 1 _ (by rfl) HS.out (by unfold maxLen; omega) (by omega) (by simp; omega) ?_; intro a9 c9 w9 hm9 hg9 hat9; have HPU := hidZ (HJ1.out.push HX.out hm9 hg9 (by simpa using hat9)); have q1 := HPU.out.1.1; have q2 := HPU.out.1.2; clear hm9 hg9 hat9) | fail)
    all_goals go_wp2_with fail
    all_goals go_roundw
    all_goals first | (case rel => exact ⟨j + 1, _, x, by go_num, by omega, HPU.out.2⟩) | skip
    all_goals first | (case measure => simp [intOf]; omega) | skip
   ·obtain rfl : j = e.cmd.keys.length := by omega
    clear hj
    go_wp2_with fail
    have hfin := HJ.out.conn
    rw [List.take_length, ← HCE.out] at hfin
    exact bodyPost_end (results_none (by exact Tryz.results94) _ _ _) rfl ⟨⟨_, rfl⟩, cv', hfin, HJ.out.chg, HJ.out.fresh⟩
end
end Go.Proofs.YtnkkoicbnbjlnaaGreatDoor
