/- The lock: Take's draw and look, Step, Over, NewTake; Give. Condition: a thread that is; fewer than 2^62 accesses so far. And what goes with it (4 texts). -/
import Derived.Test.YtnkkoicbnbjlnaaGreatDoorMcG
import Derived.Test.YtnkkoicbnbjlnaaGreatDoorLowA
namespace Go.Proofs.YtnkkoicbnbjlnaaGreatDoor
set_option maxRecDepth 100000
set_option maxHeartbeats 8000000
open Go.RowKit Go.ChangeMaps Go.MapKept
abbrev takeCells (t tk : Nat) (dr : Bool) (F : Value) : List Value := [.int .i64 (t : Int), .int .u64 (tk : Int), .bool dr, F]
abbrev drawF (x : Nat) : Value := .func (.func 156) #[ptrN x] #[]
abbrev lookF (x : Nat) : Value := .func (.func 189) #[ptrN x] #[]
def TakeIs (x t tk : Nat) (dr : Bool) (F : Value) : Thing := Blk x (takeCells t tk dr F) 283
theorem framed_take (x t tk : Nat) (dr : Bool) (F : Value) : Framed (TakeIs x t tk dr F) := framed_blk _ _ _ (by decide)
def drawW (W : WorldM) (t : Nat) : WorldM := { W with cells := W.cells.acc 4 0 ((W.cells.f 0 + 1) % 18446744073709551616), tickets := W.tickets.set t ((W.cells.f 0 + 1) % 18446744073709551616) }
theorem idx_ticket {b t : Nat} (ht : t < 64) (W : World) : (Instr.indexAt 124 (.pointer (some ⟨b, 8, none⟩)) (.int .i64 (t : Int))).run Tryz.prog W = .ok (.pointer (some ⟨b, 8 + t, none⟩)) W := by
 have h0 : (0 : Int) ≤ (t : Int) := by omega
 have h1 : (t : Int) < 64 := by omega
 have h2 := Tryz.underlying124
 go_simp
theorem draw_any {w : World} {p x t tk : Nat} {dr : Bool} {F : Value} {W : WorldM} {S : Nat → Prop} (h : Star (WorldIs p W) (TakeIs x t tk dr F) w S) (hW : W.Ok) (ht : t < 64) :
  Calls Tryz.prog 156 #[ptrN x, ptrN p] w fun e w' => (∃ v, e = .returned v) ∧ Stp (Star (WorldIs p (drawW W t)) (TakeIs x t (W.cells.f 0) true (lookF x))) S w w' := by
 obtain ⟨S1, S2, h1, h2, hd, hs⟩ := h
 obtain ⟨pc, pi, pn, ha⟩ := h1.at
 obtain ⟨S3, hc, h3S, hup⟩ := ha.cells
 have c0 := (ha.cell (world_get0 pc pi pn W)).1
 obtain ⟨n, hn⟩ : ∃ n, W.tickets[t]? = some n := ⟨_, List.getElem?_eq_getElem (by rw [hW.tickets]; exact ht)⟩
 have HT := ha.cell (world_ticket (pc := pc) (pi := pi) (pn := pn) hn)
 have hA := hidZ (cadd_any (a := 0) (v := 1) hc (by unfold U64; omega) (hW.f 0) hW.count)
 have hmf := @mkFn Tryz.prog
 have hix := fun W => idx_ticket (b := p) ht W
 have hsf := fun (fn : Fn) (first cap : Array Value) (a : Addr) (w : World) => run_store Tryz.prog w a (.func fn first cap) .plain rfl
 have hwr : IntKind.u64.wrap ((W.cells.f 0 : Int) + 1) = (((W.cells.f 0 + 1) % 18446744073709551616 : Nat) : Int) := by rw [IntKind.wrap_u64]; omega
 go_enter Tryz.func156, Tryz.ntmps156
 go_wp2_with fail
 refine hA.out.mono ?_
 rintro e w1 ⟨rfl, hst⟩
 obtain ⟨S1', hT1, hch1, hsub1⟩ := Two.step (A := WorldAt p pc pi pn W) (B := TakeIs x t tk dr F) (framed_at p pc pi pn W) (framed_take x t tk dr F) ⟨ha, h2, hd⟩ (hup _ _ hst)
 obtain ⟨f0, hf0⟩ := xE (W.cells.f 0)
 obtain ⟨f1, hf1⟩ := xE ((W.cells.f 0 + 1) % 18446744073709551616)
 rw [← hf1] at hT1 hwr
 rw [← hf0] at hwr ⊢
 obtain ⟨hT2, hc2⟩ := Two.right (framed_at p pc pi pn _) (framed_take x t tk dr F) hT1 (hT1.snd.set 1 (.int .u64 (f0 : Int)))
 obtain ⟨hT3, hc3⟩ := Two.right (B := TakeIs x t f0 dr F) (framed_at p pc pi pn _) (framed_take x t f0 dr F) hT2 (hT2.snd.set 2 (.bool true))
 have x1 := hT1.snd.cell (j := 1) rfl
 have x2 := hT1.snd.cell (j := 2) rfl
 obtain ⟨x10, x11⟩ := x1
 obtain ⟨x20, x21⟩ := x2
 obtain ⟨w3, hw3⟩ := xE ((w1.setCell ⟨x, 1, none⟩ (.int .u64 (f0 : Int))).setCell ⟨x, 2, none⟩ (.bool true))
 rw [← hw3] at hT3 hc3
 have HT3 := hidZ hT3
 have HC13 := hidZ (hc2.trans hc3)
 have HCH1 := hidZ hch1
 have HSUB := hidZ hsub1
 have HS := hidZ hs
 have HF := hidZ (And.intro hf0 hf1)
 have HWT := hidZ hW.tickets
 have HN := hidZ hn
 have HSZ := hidZ hch1.size
 have HLT := hidZ (fun k (hk : Or2 S1 S2 k) => (hk.elim ((framed_at p pc pi pn W).lt ha) ((framed_take x t tk dr F).lt h2) : k < w.heap.size))
 clear hst hT1 hT2 hT3 hc2 hc3 hch1 hsub1 hs hf0 hf1 h2 ha hc hup h3S hd c0 hA HT hW hn
 go_upto_region 1 with fail
 rw [← hw3]
 clear hw3 x10 x11 x20 x21
 have y0 := (HT3.out.snd.cell (j := 0) rfl).1
 have y1 := (HT3.out.snd.cell (j := 1) rfl).1
 have y3 := HT3.out.snd.cell (j := 3) rfl
 have T0 := HT3.out.fst.cell (world_ticket (pc := pc) (pi := pi) (pn := pn) (W := { W with cells := W.cells.acc 4 0 f1 }) HN.out)
 obtain ⟨T00, T01⟩ := T0
 refine wp_region_held_drew (S := fun V => V.cell? ⟨x, 0, none⟩ = some (.int .i64 (t : Int)) ∧ V.cell? ⟨x, 1, none⟩ = some (.int .u64 (f0 : Int))) (by kernel_rfl) ⟨y0, y1⟩ (fun hHe => ?_)
 refine tkz 0 rfl ?_
 try simp only [tp, tz]
 refine tkz 1 rfl ?_
 try simp only [tp, tz]
 refine tkz 2 rfl ?_
 try simp only [tp, tz]
 refine tkz 3 rfl ?_
 try simp only [tp, tz]
 refine tkw 4 rfl ?_
 try simp only [tp, tz]
 refine tkz 5 rfl ?_
 try simp only [tp, tz]
 refine tkz 6 rfl ?_
 try simp only [tp, tz]
 refine tkz 7 rfl ?_
 try simp only [tp, tz]
 refine tkw 8 rfl ?_
 try simp only [tp, tz]
 refine tkz 9 rfl ?_
 try simp only [tp, tz]
 refine tkz 10 rfl ?_
 try simp only [tp, tz]
 refine tkz 11 rfl ?_
 try simp only [tp, tz]
 refine tkz 12 rfl ?_
 try simp only [tp, tz]
 refine rdy 13 rfl (fun K hK => ?_)
 go_simp
 refine hK.out _ _ ⟨(World.cell?_setCell_other w3.drew ⟨p, 8 + t, none⟩ ⟨x, 0, none⟩ _ (by simp)).trans hHe.1, (World.cell?_setCell_other w3.drew ⟨p, 8 + t, none⟩ ⟨x, 1, none⟩ _ (by simp)).trans hHe.2⟩ (fun hHf => ?_)
 clear hK K
 try simp only [tp, tz]
 refine wpAnyH_done (by kernel_rfl) ?_ _
 clear hHe hHf
 have hT3d : Two (WorldAt p pc pi pn { W with cells := W.cells.acc 4 0 f1 }) (TakeIs x t f0 true F) w3.drew S1' S2 :=
  ⟨(framed_at p pc pi pn _).keep (M := fun _ => False) HT3.out.fst (Chg.refl _ w3).drew (fun _ e => e.elim), HT3.out.snd, HT3.out.dis⟩
 obtain ⟨hT4, hc4⟩ := Two.left (framed_at p pc pi pn _) (framed_take x t f0 true F) hT3d (hT3d.fst.set (W' := { W with cells := W.cells.acc 4 0 f1, tickets := W.tickets.set t f1 }) rfl rfl rfl (world_setTicket f1 (by rw [HWT.out]; exact ht)))
 obtain ⟨hT5, hc5⟩ := Two.right (B := TakeIs x t f0 true F) (framed_at p pc pi pn _) (framed_take x t f0 true F) hT4 (hT4.snd.set 3 (lookF x))
 have z3 := hT4.snd.cell (j := 3) rfl
 obtain ⟨z30, z31⟩ := z3
 obtain ⟨w4, hw4⟩ := xE ((w3.setCell ⟨p, 8 + t, none⟩ (.int .u64 (f1 : Int))).drew)
 have hw5 : w3.drew.setCell ⟨p, 8 + t, none⟩ (.int .u64 (f1 : Int)) = w4 := by rw [hw4]; rfl
 rw [hw5] at z30 z31 hT5 hc4 hc5
 rw [← hw4]
 have HT5 := hidZ hT5
 have HC35 := hidZ ((Chg.refl (Or2 S1' S2) w3).drew.trans (hc4.trans hc5))
 clear hw4 hw5 hT3d hT4 hT5 hc4 hc5 y0 y1 y3 T00 T01 hix hwr
 go_wp2_with fail
 refine bodyPost_end (results_none (by exact Tryz.results156) _ _ _) rfl ⟨⟨_, rfl⟩, ?_⟩
 have hk : ∀ k, Or2 S1' S2 k → S k ∨ w.heap.size ≤ k := fun k hk => by
  rcases hk with hk | hk
  ·exact (HSUB.out k hk).imp (fun e => (HS.out k).2 (.inl e)) id
  ·exact .inl ((HS.out k).2 (.inr hk))
 have hcS : Chg S w w1 := HCH1.out.mono (fun k _ e => (HS.out k).2 (.inl e))
 have hc2 : Chg (Or2 S1' S2) w1 (w4.setCell ⟨x, 3, none⟩ (lookF x)) := HC13.out.trans HC35.out
 have hfin : Chg S w (w4.setCell ⟨x, 3, none⟩ (lookF x)) := hcS.then hc2 (fun i hi e => (hk i e).elim id (fun e => by omega))
 refine (Two.star HT5.out hfin hk).mono (fun S' hs => hs.fst_mono (fun S'' ha => ?_) |>.snd_mono (fun S'' hb => ?_))
 ·obtain ⟨e0, e1⟩ := HF.out
  have : drawW W t = { W with cells := W.cells.acc 4 0 f1, tickets := W.tickets.set t f1 } := by unfold drawW; rw [e1]
  rw [this]
  exact WorldAt.is ha (by simp [HWT.out])
 ·rw [← HF.out.1]
  exact hb
def afterLook (a b : Nat) (F : Value) : Value := if a = b then .nilFunc else F
def lookW (W : WorldM) (t tk : Nat) : WorldM := if W.cells.f 1 = tk then { W with cells := W.cells.acc 1 1 (W.cells.f 1), tickets := W.tickets.set t 0, holder := (t : Int) } else { W with cells := W.cells.acc 1 1 (W.cells.f 1) }
theorem takeLook_any {w : World} {p x t tk : Nat} {dr : Bool} {F : Value} {W : WorldM} {S : Nat → Prop} (h : Star (WorldIs p W) (TakeIs x t tk dr F) w S) (hW : W.Ok) (ht : t < 64) :
  Calls Tryz.prog 189 #[ptrN x, ptrN p] w fun e w' => (∃ v, e = .returned v) ∧ Stp (Star (WorldIs p (lookW W t tk)) (TakeIs x t tk dr (afterLook (W.cells.f 1) tk F))) S w w' := by
 obtain ⟨S1, S2, h1, h2, hd, hs⟩ := h
 obtain ⟨pc, pi, pn, ha⟩ := h1.at
 obtain ⟨S3, hc, h3S, hup⟩ := (show WorldAt p pc pi pn W w.drew S1 from (framed_at p pc pi pn W).keep (M := fun _ => False) ha (Chg.refl _ w).drew (fun _ e => e.elim)).cells
 have c0 := (ha.cell (world_get0 pc pi pn W)).1
 obtain ⟨n, hn⟩ : ∃ n, W.tickets[t]? = some n := ⟨_, List.getElem?_eq_getElem (by rw [hW.tickets]; exact ht)⟩
 have hA := hidZ (cload_any (a := 1) hc (by unfold U64; omega) hW.count)
 have hix := fun W => idx_ticket (b := p) ht W
 have x1 := (h2.cell (j := 1) rfl).1
 obtain ⟨f1, hf1⟩ := xE (W.cells.f 1)
 have hg : ∀ w1, Stp (CellsIs pc (W.cells.acc 1 1 (W.cells.f 1))) S3 w.drew w1 → ∃ S1', Two (WorldAt p pc pi pn { W with cells := W.cells.acc 1 1 f1 }) (TakeIs x t tk dr F) w1 S1' S2 ∧ Chg S w w1 ∧ (∀ k, Or2 S1' S2 k → S k ∨ w.heap.size ≤ k) := fun w1 hst => by
  obtain ⟨S1', hT1, hch1, hsub1⟩ := Two.step (A := WorldAt p pc pi pn W) (B := TakeIs x t tk dr F) (framed_at p pc pi pn W) (framed_take x t tk dr F) (S1 := S1) (S2 := S2) ⟨(framed_at p pc pi pn W).keep (M := fun _ => False) ha (Chg.refl _ w).drew (fun _ e => e.elim), h2, hd⟩ (hup _ _ hst)
  refine ⟨S1', by rw [hf1]; exact hT1, (Chg.refl S w).drew.trans (hch1.mono (fun k _ e => (hs k).2 (.inl e))), fun k hk => ?_⟩
  rcases hk with hk | hk
  ·exact (hsub1 k hk).imp (fun e => (hs k).2 (.inl e)) id
  ·exact .inl ((hs k).2 (.inr hk))
 have hxS : ∀ w1, Stp (CellsIs pc (W.cells.acc 1 1 (W.cells.f 1))) S3 w.drew w1 → w1.cell? ⟨p, 0, none⟩ = some (ptrN pc) ∧ w1.cell? ⟨x, 1, none⟩ = some (.int .u64 (tk : Int)) := fun w1 hst =>
  ⟨hst.chg.cell (w := w.drew) c0 (fun e => (h3S _ e).2 rfl), hst.chg.cell (w := w.drew) x1 (fun e => hd x (h3S _ e).1 ((h2.2 x).2 rfl))⟩
 rw [← hf1] at hg hxS
 have HG := hidZ hg
 have HX := hidZ hxS
 have HWT := hidZ hW.tickets
 have HN := hidZ hn
 have HF := hidZ hf1
 rw [← hf1] at hA ⊢
 obtain ⟨LW, hLW⟩ := xE (lookW W t tk)
 rw [← hLW]
 have HLW := hidZ hLW
 clear hg hxS hn hW hf1 hc hup h3S ha h1 h2 hd hs hLW
 go_enter Tryz.func189, Tryz.ntmps189
 go_upto_region 0 with fail
 refine wp_region_held_drew (S := fun V => V.cell? ⟨p, 0, none⟩ = some (ptrN pc) ∧ V.cell? ⟨x, 1, none⟩ = some (.int .u64 (tk : Int))) (by kernel_rfl) ⟨c0, x1⟩ (fun hHe => ?_)
 refine tkz 0 rfl ?_
 try simp only [tp, tz]
 refine tkz 1 rfl ?_
 try simp only [tp, tz]
 refine tkz 2 rfl ?_
 try simp only [tp, tz]
 refine tkw 3 rfl ?_
 try simp only [tp, tz]
 refine tkz 5 rfl ?_
 try simp only [tp, tz]
 refine tkz 6 rfl ?_
 try simp only [tp, tz]
 refine tkz 7 rfl ?_
 try simp only [tp, tz]
 refine tkw 8 rfl ?_
 try simp only [tp, tz]
 refine rdy 4 rfl (fun K hK => ?_)
 go_simp
 go_at_call 186
 refine (hA.out).mono ?_
 rintro e w1 ⟨rfl, hst⟩
 refine hK.out _ _ (HX.out _ hst) (fun hHf => ?_)
 clear hK K
 try simp only [tp, tz]
 obtain ⟨S1', hT1, hcS, hk⟩ := HG.out _ hst
 clear hHe HG HX
 have z0 := hHf.1
 have z1 := hHf.2
 have y0 := (hT1.snd.cell (j := 0) rfl).1
 have y3 := hT1.snd.cell (j := 3) rfl
 have T0 := hT1.fst.cell (world_ticket (pc := pc) (pi := pi) (pn := pn) (W := { W with cells := W.cells.acc 1 1 f1 }) HN.out)
 have T7 := hT1.fst.cell (world_holder (pc := pc) (pi := pi) (pn := pn) (W := { W with cells := W.cells.acc 1 1 f1 }) HWT.out)
 obtain ⟨T00, T01⟩ := T0
 obtain ⟨T70, T71⟩ := T7
 obtain ⟨y30, y31⟩ := y3
 have HT1 := hidZ hT1
 have HCS := hidZ hcS
 have HK := hidZ hk
 clear hT1 hcS hk hst c0 x1 hA
 by_cases he : f1 = tk
 ·have ee : ((f1 : Int) == (tk : Int)) = true := by rw [beq_iff_eq, he]
  have HE := hidZ he
  clear he
  refine tkz 9 rfl ?_
  try simp only [tp, tz]
  refine wpAnyH_done (by kernel_rfl) ?_ _
  clear hHf
  go_upto_region 1 with fail
  go_region
  obtain ⟨hT2, hc2⟩ := Two.left (framed_at p pc pi pn _) (framed_take x t tk dr F) HT1.out (HT1.out.fst.set (W' := { W with cells := W.cells.acc 1 1 f1, tickets := W.tickets.set t 0 }) rfl rfl rfl (world_setTicket 0 (by rw [HWT.out]; exact ht)))
  obtain ⟨hT3, hc3⟩ := Two.left (framed_at p pc pi pn _) (framed_take x t tk dr F) hT2 (hT2.fst.set (W' := { W with cells := W.cells.acc 1 1 f1, tickets := W.tickets.set t 0, holder := (t : Int) }) rfl rfl rfl (world_setHolder (W := { W with cells := W.cells.acc 1 1 f1, tickets := W.tickets.set t 0 }) (by simp [HWT.out]) (t : Int)))
  obtain ⟨w3, hw3⟩ := xE ((w1.setCell ⟨p, 8 + t, none⟩ (.int .u64 0)).setCell ⟨p, 72, none⟩ (.int .i64 (t : Int)))
  have hw3' : (w1.setCell ⟨p, 8 + t, none⟩ (.int .u64 ((0 : Nat) : Int))).setCell ⟨p, 72, none⟩ (.int .i64 (t : Int)) = w3 := hw3.symm
  rw [hw3'] at hT3 hc3
  rw [← hw3]
  have hT3d : Two (WorldAt p pc pi pn { W with cells := W.cells.acc 1 1 f1, tickets := W.tickets.set t 0, holder := (t : Int) }) (TakeIs x t tk dr F) w3.drew S1' S2 :=
   ⟨(framed_at p pc pi pn _).keep (M := fun _ => False) hT3.fst (Chg.refl _ w3).drew (fun _ e => e.elim), hT3.snd, hT3.dis⟩
  obtain ⟨hT5, hc5⟩ := Two.right (B := TakeIs x t tk dr F) (framed_at p pc pi pn _) (framed_take x t tk dr F) hT3d (hT3d.snd.set 3 .nilFunc)
  obtain ⟨u30, u31⟩ := hT3.snd.cell (j := 3) rfl
  have HT5 := hidZ hT5
  have HC := hidZ ((hc2.trans hc3).trans ((Chg.refl (Or2 S1' S2) w3).drew.trans hc5))
  have hsn := fun (a : Addr) (w : World) => run_store Tryz.prog w a .nilFunc .plain rfl
  clear hT2 hT3 hT3d hT5 hc2 hc3 hc5 hw3 hw3' z0 z1 y0 T00 T01 T70 T71 y30 y31 hix
  go_wp2_with fail
  refine bodyPost_end (results_none (by exact Tryz.results189) _ _ _) rfl ⟨⟨_, rfl⟩, ?_⟩
  rw [show afterLook f1 tk F = .nilFunc from if_pos HE.out]
  have hfin : Chg S w (w3.drew.setCell ⟨x, 3, none⟩ .nilFunc) := HCS.out.then HC.out (fun i hi e => (HK.out i e).elim id (fun e => by omega))
  refine (Two.star HT5.out hfin HK.out).mono (fun S' hs => hs.fst_mono (fun S'' ha => ?_))
  have : LW = { W with cells := W.cells.acc 1 1 f1, tickets := W.tickets.set t 0, holder := (t : Int) } := by rw [HLW.out, HF.out]; unfold lookW; rw [if_pos (by rw [← HF.out]; exact HE.out)]
  rw [this]
  exact WorldAt.is ha (by simp [HWT.out])
 ·have ee : ((f1 : Int) == (tk : Int)) = false := by rw [beq_eq_false_iff_ne]; omega
  have HE := hidZ he
  clear he
  refine tkz 9 rfl ?_
  try simp only [tp, tz]
  refine wpAnyH_done (by kernel_rfl) ?_ _
  clear hHf
  go_wp2_with fail
  refine bodyPost_end (results_none (by exact Tryz.results189) _ _ _) rfl ⟨⟨_, rfl⟩, ?_⟩
  rw [show afterLook f1 tk F = F from if_neg HE.out]
  refine (Two.star HT1.out HCS.out HK.out).mono (fun S' hs => hs.fst_mono (fun S'' ha => ?_))
  have : LW = { W with cells := W.cells.acc 1 1 f1 } := by rw [HLW.out, HF.out]; unfold lookW; rw [if_neg (by rw [← HF.out]; exact HE.out)]
  rw [this]
  exact WorldAt.is ha HWT.out
theorem func_nil {fn : Fn} {first cap : Array Value} (W : World) : (binOp .eql 244 (.func fn first cap) .nilFunc).run Tryz.prog W = .ok (.bool false) W := by kernel_rfl
theorem nil_nil (W : World) : (binOp .eql 244 .nilFunc .nilFunc).run Tryz.prog W = .ok (.bool true) W := by kernel_rfl
theorem takeOver_no {w : World} {x t tk : Nat} {dr : Bool} {fn : Fn} {first cap : Array Value} {S : Nat → Prop} (h : TakeIs x t tk dr (.func fn first cap) w S) : Calls Tryz.prog 126 #[ptrN x] w fun e w' => e = .returned (.bool false) ∧ w = w' := by
 have c3 := (h.cell (j := 3) rfl).1
 have qf := fun W => func_nil (fn := fn) (first := first) (cap := cap) W
 clear h
 go_enter Tryz.func126, Tryz.ntmps126
 go_wp2_with fail
 go_ret
 exact ⟨rfl, rfl⟩
theorem takeOver_yes {w : World} {x t tk : Nat} {dr : Bool} {S : Nat → Prop} (h : TakeIs x t tk dr .nilFunc w S) : Calls Tryz.prog 126 #[ptrN x] w fun e w' => e = .returned (.bool true) ∧ w = w' := by
 have c3 := (h.cell (j := 3) rfl).1
 have qn := nil_nil
 clear h
 go_enter Tryz.func126, Tryz.ntmps126
 go_wp2_with fail
 go_ret
 exact ⟨rfl, rfl⟩
theorem call_draw (args : Array Value) (W : World) : (callFunc 156 args).run Tryz.prog W = .ok (.enter 156 args) W := by kernel_rfl
theorem call_look (args : Array Value) (W : World) : (callFunc 189 args).run Tryz.prog W = .ok (.enter 189 args) W := by kernel_rfl
theorem takeStep_draw {w : World} {p x t tk : Nat} {dr : Bool} {W : WorldM} {S : Nat → Prop} (h : Star (WorldIs p W) (TakeIs x t tk dr (drawF x)) w S) (hW : W.Ok) (ht : t < 64) :
  Calls Tryz.prog 140 #[ptrN x, ptrN p] w fun e w' => e = .returned (.bool false) ∧ Stp (Star (WorldIs p (drawW W t)) (TakeIs x t (W.cells.f 0) true (lookF x))) S w w' := by
 have HD := hidZ (draw_any h hW ht)
 obtain ⟨S1, S2, h1, h2, hd, hs⟩ := h
 have c3 := (h2.cell (j := 3) rfl).1
 have HO := hidZ (takeOver_no h2)
 have hc := call_draw
 clear h1 h2 hd hs hW
 go_enter Tryz.func140, Tryz.ntmps140
 go_wp2_with fail
 refine HO.out.mono ?_
 rintro e w1 ⟨rfl, rfl⟩
 go_wp2_with fail
 refine HD.out.mono ?_
 rintro e w1 ⟨⟨v, rfl⟩, hst⟩
 obtain ⟨S', ⟨T1, T2, a1, a2, a3, a4⟩, b1, b2⟩ := hst
 have HO2 := hidZ (takeOver_no a2)
 have HST := hidZ (show Stp (Star (WorldIs p (drawW W t)) (TakeIs x t (W.cells.f 0) true (lookF x))) S w w1 from ⟨S', ⟨T1, T2, a1, a2, a3, a4⟩, b1, b2⟩)
 clear a1 a2 a3 a4 b1 b2 HD HO
 go_wp2_with fail
 refine HO2.out.mono ?_
 rintro e w2 ⟨rfl, rfl⟩
 clear HO2
 go_wp2_with fail
 go_ret
 exact ⟨rfl, HST.out⟩
theorem takeStep_look {w : World} {p x t tk : Nat} {dr : Bool} {W : WorldM} {S : Nat → Prop} (h : Star (WorldIs p W) (TakeIs x t tk dr (lookF x)) w S) (hW : W.Ok) (ht : t < 64) :
  Calls Tryz.prog 140 #[ptrN x, ptrN p] w fun e w' => e = .returned (.bool (decide (W.cells.f 1 = tk))) ∧ Stp (Star (WorldIs p (lookW W t tk)) (TakeIs x t tk dr (afterLook (W.cells.f 1) tk (lookF x)))) S w w' := by
 have HD := hidZ (takeLook_any h hW ht)
 obtain ⟨S1, S2, h1, h2, hd, hs⟩ := h
 have c3 := (h2.cell (j := 3) rfl).1
 have HO := hidZ (takeOver_no h2)
 have hc := call_look
 obtain ⟨r, hr⟩ := xE (decide (W.cells.f 1 = tk))
 rw [← hr]
 have HR := hidZ hr
 clear h1 h2 hd hs hW hr
 go_enter Tryz.func140, Tryz.ntmps140
 go_wp2_with fail
 refine HO.out.mono ?_
 rintro e w1 ⟨rfl, rfl⟩
 go_wp2_with fail
 refine HD.out.mono ?_
 rintro e w1 ⟨⟨v, rfl⟩, hst⟩
 have HST := hidZ hst
 have HO2 := hidZ (show Calls Tryz.prog 126 #[ptrN x] w1 fun e w' => e = .returned (.bool r) ∧ w1 = w' from by
  obtain ⟨S', ⟨T1, T2, a1, a2, a3, a4⟩, b1, b2⟩ := hst
  rw [HR.out]
  unfold afterLook at a2
  by_cases e : W.cells.f 1 = tk
  ·rw [if_pos e] at a2
   rw [decide_eq_true e]
   exact takeOver_yes a2
  ·rw [if_neg e] at a2
   rw [decide_eq_false e]
   exact takeOver_no a2)
 clear hst HD HO
 go_wp2_with fail
 refine HO2.out.mono ?_
 rintro e w2 ⟨rfl, rfl⟩
 clear HO2
 go_wp2_with fail
 go_ret
 exact ⟨rfl, HST.out⟩
theorem thread_any (t : Nat) (ht : t < 64) (w : World) : Calls Tryz.prog 155 #[.int .i64 (t : Int)] w fun e w' => e = .returned (.bool true) ∧ w = w' := by
 have d0 : decide (0 ≤ (t : Int)) = true := by rw [decide_eq_true_eq]; omega
 have d1 : decide ((t : Int) < 64) = true := by rw [decide_eq_true_eq]; omega
 obtain ⟨T, hT⟩ : ∃ T : Int, T = (t : Int) := ⟨_, rfl⟩
 rw [← hT] at d0 d1 ⊢
 clear hT ht
 go_enter Tryz.func155, Tryz.ntmps155
 go_wp2_with fail
 go_ret
 exact ⟨rfl, rfl⟩
theorem newTake_any (t : Nat) (ht : t < 64) (w : World) : Calls Tryz.prog 124 #[.int .i64 (t : Int)] w fun e w' => e = .returned (ptrN w.heap.size) ∧ Made (TakeIs w.heap.size t 0 false (drawF w.heap.size)) w w' := by
 have HT := hidZ (fun W => thread_any t ht W)
 have HM := hidZ (made_blk w (takeCells t 0 false .nilFunc) 283)
 have hsf := fun (fn : Fn) (first cap : Array Value) (a : Addr) (w : World) => run_store Tryz.prog w a (.func fn first cap) .plain rfl
 have hmf := @mkFn Tryz.prog
 obtain ⟨w1, hw1⟩ := xE (w.alloc (.cells (takeCells t 0 false .nilFunc).toArray 283))
 have c3 := (cellsAt (show w1.heap[w.heap.size]? = some (.cells (takeCells t 0 false .nilFunc).toArray 283 (0, 0)) from by rw [hw1, heap_at, if_pos rfl]) 3)
 rw [← hw1] at HM
 obtain ⟨c30, c31⟩ := c3
 clear ht
 go_enter Tryz.func124, Tryz.ntmps124
 go_upto_region 2 with fail
 have hw2 : w.alloc (.cells #[.int .i64 (t : Int), .int .u64 0, .bool false, .nilFunc] 283) = w1 := hw1.symm
 rw [hw2]
 clear hw1 hw2
 go_wp2_with fail
 refine (HT.out _).mono ?_
 rintro e w2 ⟨rfl, rfl⟩
 clear HT
 go_wp2_with fail
 go_ret
 obtain ⟨⟨S, h1, h2⟩, h3⟩ := HM.out
 obtain ⟨h4, h5⟩ := h1.set 3 (drawF w.heap.size)
 exact ⟨rfl, ⟨S, h4, h2⟩, h3.trans (h5.below (fun k hk => ⟨Nat.lt_of_lt_of_le hk h3.size, fun e => by have := h2 k e; omega⟩))⟩
section
variable {A B : Thing} {w w' : World} {S : Nat → Prop} {p x : Nat} {cs : List Value} {ty : TypeId} {W : WorldM}
theorem Star.cellB (h : Star A (Blk x cs ty) w S) {j : Nat} {v : Value} (hj : cs[j]? = some v) : w.cell? ⟨x, j, none⟩ = some v ∧ w.frozen? ⟨x, j, none⟩ = false := by
 obtain ⟨S1, S2, h1, h2, hd, hs⟩ := h
 exact h2.cell hj
theorem Star.setB (hA : Framed A) (ht : ty ≠ 9) (h : Star A (Blk x cs ty) w S) (j : Nat) (v : Value) : Star A (Blk x (cs.set j v) ty) (w.setCell ⟨x, j, none⟩ v) S ∧ Chg S w (w.setCell ⟨x, j, none⟩ v) := by
 obtain ⟨S1, S2, h1, h2, hd, hs⟩ := h
 obtain ⟨h3, h4⟩ := Two.right hA (framed_blk x cs ty ht) ⟨h1, h2, hd⟩ (h2.set j v)
 exact ⟨⟨S1, S2, h3.fst, h3.snd, h3.dis, hs⟩, h4.mono (fun k _ e => (hs k).2 e)⟩
theorem Star.drew (hA : Framed A) (hB : Framed B) (h : Star A B w S) : Star A B w.drew S := (hA.star hB).keep (M := fun _ => False) h (Chg.refl _ w).drew (fun _ e => e.elim)
theorem Star.setHolder (hB : Framed B) (ht : W.tickets.length = 64) (h : Star (WorldIs p W) B w S) (n : Int) : Star (WorldIs p { W with holder := n }) B (w.setCell ⟨p, 72, none⟩ (.int .i64 n)) S ∧ Chg S w (w.setCell ⟨p, 72, none⟩ (.int .i64 n)) := by
 obtain ⟨S1, S2, h1, h2, hd, hs⟩ := h
 obtain ⟨pc, pi, pn, ha⟩ := h1.at
 obtain ⟨h3, h4⟩ := Two.left (framed_at p pc pi pn W) hB ⟨ha, h2, hd⟩ (ha.set (W' := { W with holder := n }) rfl rfl rfl (world_setHolder ht n))
 exact ⟨⟨S1, S2, WorldAt.is h3.fst ht, h3.snd, h3.dis, hs⟩, h4.mono (fun k _ e => (hs k).2 e)⟩
theorem Star.holder (ht : W.tickets.length = 64) (h : Star (WorldIs p W) B w S) : w.cell? ⟨p, 72, none⟩ = some (.int .i64 W.holder) ∧ w.frozen? ⟨p, 72, none⟩ = false := by
 obtain ⟨S1, S2, h1, h2, hd, hs⟩ := h
 obtain ⟨pc, pi, pn, ha⟩ := h1.at
 exact ha.cell (world_holder ht)
theorem Star.cellsW (hB : Framed B) (ht : W.tickets.length = 64) (h : Star (WorldIs p W) B w S) : ∃ pc S3, w.cell? ⟨p, 0, none⟩ = some (ptrN pc) ∧ CellsIs pc W.cells w S3 ∧ ¬ S3 p ∧ (∀ k, S3 k → S k) ∧ ∀ c' w', Stp (CellsIs pc c') S3 w w' → Stp (Star (WorldIs p { W with cells := c' }) B) S w w' := by
 obtain ⟨S1, S2, h1, h2, hd, hs⟩ := h
 obtain ⟨pc, pi, pn, ha⟩ := h1.at
 obtain ⟨S3, hc, h3S, hup⟩ := ha.cells
 refine ⟨pc, S3, (ha.cell (world_get0 pc pi pn W)).1, hc, fun e => (h3S _ e).2 rfl, fun k hk => (hs k).2 (.inl (h3S k hk).1), fun c' w' hst => ?_⟩
 refine Stp.mono (A := Star (WorldAt p pc pi pn { W with cells := c' }) B) (Stp.left hB (framed_at p pc pi pn W) ha h2 hd hs (hup c' w' hst)) (fun S' hS' => hS'.fst_mono (fun S'' h => WorldAt.is h ht))
theorem Stp.after {A B : Thing} {w w1 w2 : World} {S : Nat → Prop} (h : Stp A S w w1) (f : ∀ S1, A w1 S1 → B w2 S1 ∧ Chg S1 w1 w2) : Stp B S w w2 := by
 obtain ⟨S1, h1, h2, h3⟩ := h
 obtain ⟨h4, h5⟩ := f S1 h1
 exact ⟨S1, h4, h2.then h5 (fun i hi e => (h3 i e).elim id (fun e => by omega)), h3⟩
theorem Stp.ahead {A : Thing} {w w1 w2 : World} {S : Nat → Prop} (hc : Chg S w w1) (h : Stp A S w1 w2) : Stp A S w w2 := by
 obtain ⟨S1, h1, h2, h3⟩ := h
 exact ⟨S1, h1, hc.trans h2, fun k hk => (h3 k hk).imp id (fun e => Nat.le_trans hc.size e)⟩
end
theorem framed_worldIs (p : Nat) (W : WorldM) : Framed (WorldIs p W) := framed_world p W
def GiveIs (x n : Nat) : Thing := Blk x [.int .i64 (n : Int)] 306
theorem framed_give (x n : Nat) : Framed (GiveIs x n) := framed_blk _ _ _ (by decide)
theorem newGive_any (w : World) : Calls Tryz.prog 136 #[] w fun e w' => e = .returned (ptrN w.heap.size) ∧ Made (GiveIs w.heap.size 1) w w' := by
 have HM := hidZ (made_blk w [.int .i64 ((1 : Nat) : Int)] 306)
 go_enter Tryz.func136, Tryz.ntmps136
 go_wp2_with fail
 go_ret
 exact ⟨rfl, HM.out⟩
theorem giveOver_any {w : World} {x n : Nat} {S : Nat → Prop} (h : GiveIs x n w S) (hn : n < 2) : Calls Tryz.prog 183 #[ptrN x] w fun e w' => e = .returned (.bool (decide (n = 0))) ∧ w = w' := by
 have c0 := (h.cell (j := 0) rfl).1
 clear h
 rcases (by omega : n = 0 ∨ n = 1) with rfl | rfl <;>
 (go_enter Tryz.func183, Tryz.ntmps183
  go_wp2_with fail
  go_ret
  exact ⟨rfl, rfl⟩)
def giveW (W : WorldM) : WorldM := { W with cells := W.cells.acc 4 1 ((W.cells.f 1 + 1) % 18446744073709551616), holder := -1 }
theorem giveStep_any {w : World} {p x : Nat} {W : WorldM} {S : Nat → Prop} (h : Star (WorldIs p W) (GiveIs x 1) w S) (hW : W.Ok) : Calls Tryz.prog 138 #[ptrN x, ptrN p] w fun e w' => e = .returned (.bool true) ∧ Stp (Star (WorldIs p (giveW W)) (GiveIs x 0)) S w w' := by
 have hx0 := h.cellB (j := 0) rfl
 obtain ⟨x00, x01⟩ := hx0
 have HO := hidZ (by obtain ⟨S1, S2, h1, h2, hd, hs⟩ := h; exact giveOver_any h2 (by omega) : Calls Tryz.prog 183 #[ptrN x] w fun e w' => e = .returned (.bool (decide (1 = 0))) ∧ w = w')
 obtain ⟨h1, hc1⟩ := h.setB (framed_worldIs p W) (by decide) 0 (.int .i64 0)
 obtain ⟨w1, hw1⟩ := xE (w.setCell ⟨x, 0, none⟩ (.int .i64 0))
 rw [← hw1] at h1 hc1
 obtain ⟨pc, S3, c0, hcs, -, -, hup⟩ := Star.cellsW (B := GiveIs x 0) (framed_give x 0) hW.tickets h1
 have HA := hidZ (cadd_any (a := 1) (v := 1) hcs (by unfold U64; omega) (hW.f 1) hW.count)
 have HUP := hidZ hup
 have HWT := hidZ hW.tickets
 have HC1 := hidZ hc1
 clear h h1 hc1 hcs hup hW
 go_enter Tryz.func138, Tryz.ntmps138
 go_wp2_with fail
 refine HO.out.mono ?_
 rintro e w2 ⟨rfl, rfl⟩
 clear HO
 go_upto_region 3 with fail
 rw [← hw1]
 clear hw1 x00 x01
 go_wp2_with fail
 refine HA.out.mono ?_
 rintro e w2 ⟨rfl, hst⟩
 have hst := HUP.out _ _ hst
 obtain ⟨S4, hs4, hc4, hk4⟩ := hst
 obtain ⟨k0, k1⟩ := hs4.holder (W := { W with cells := W.cells.acc 4 1 ((W.cells.f 1 + 1) % 18446744073709551616) }) HWT.out
 obtain ⟨h5, hc5⟩ := hs4.setHolder (W := { W with cells := W.cells.acc 4 1 ((W.cells.f 1 + 1) % 18446744073709551616) }) (framed_give x 0) HWT.out (-1)
 obtain ⟨w3, hw3⟩ := xE (w2.setCell ⟨p, 72, none⟩ (.int .i64 (-1)))
 rw [← hw3] at h5 hc5
 have HST := hidZ (show Stp (Star (WorldIs p (giveW W)) (GiveIs x 0)) S w w3 from Stp.ahead HC1.out ⟨S4, h5, hc4.then hc5 (fun i hi e => (hk4 i e).elim id (fun e => by omega)), hk4⟩)
 have HO2 := hidZ (by obtain ⟨T1, T2, a1, a2, a3, a4⟩ := h5; exact giveOver_any a2 (by omega) : Calls Tryz.prog 183 #[ptrN x] w3 fun e w' => e = .returned (.bool (decide (0 = 0))) ∧ w3 = w')
 clear hs4 hc4 hk4 h5 hc5 HA HUP
 go_upto_region 5 with fail
 rw [← hw3]
 clear hw3 k0 k1
 go_wp2_with fail
 refine HO2.out.mono ?_
 rintro e w4 ⟨rfl, rfl⟩
 clear HO2
 go_wp2_with fail
 go_ret
 exact ⟨rfl, HST.out⟩
open Go.RowKit Go.ChangeMaps Go.MapKept
def TurnIs (x l t : Nat) : Thing := Blk x [.int .i64 (l : Int), .int .u64 (t : Int), .int .u64 0, .int .i64 0, .pointer none, .pointer none] 288
theorem framed_turn (x l t : Nat) : Framed (TurnIs x l t) := framed_blk _ _ _ (by decide)
theorem newTurn_any (w : World) : Calls Tryz.prog 129 #[] w fun e w' => e = .returned (ptrN w.heap.size) ∧ Made (TurnIs w.heap.size 1 0) w w' := by
 have HM := hidZ (made_blk w [.int .i64 ((1 : Nat) : Int), .int .u64 ((0 : Nat) : Int), .int .u64 0, .int .i64 0, .pointer none, .pointer none] 288)
 go_enter Tryz.func129, Tryz.ntmps129
 go_wp2_with fail
 go_ret
 exact ⟨rfl, HM.out⟩
theorem turnOver_any {w : World} {x l t : Nat} {S : Nat → Prop} (h : TurnIs x l t w S) (hn : l < 2) : Calls Tryz.prog 429 #[ptrN x] w fun e w' => e = .returned (.bool (decide (l = 0))) ∧ w = w' := by
 have c0 := (h.cell (j := 0) rfl).1
 clear h
 rcases (by omega : l = 0 ∨ l = 1) with rfl | rfl <;>
 (go_enter Tryz.func429, Tryz.ntmps429
  go_wp2_with fail
  go_ret
  exact ⟨rfl, rfl⟩)
theorem old0 : oldN 0 = 1 := rfl
theorem new0 : newN 0 = 0 := rfl
def loadW (W : WorldM) (a : Nat) : WorldM := { W with cells := W.cells.acc 1 a (W.cells.f a) }
theorem turnStep_any {w : World} {p x : Nat} {W : WorldM} {S : Nat → Prop} (h : Star (WorldIs p W) (TurnIs x 1 0) w S) (hW : W.Ok) (hn : newN (W.cells.f 2) = 0) : Calls Tryz.prog 430 #[ptrN x, ptrN p] w fun e w' => e = .returned (.bool true) ∧ Stp (Star (WorldIs p (loadW W 2)) (TurnIs x 0 (W.cells.f 2))) S w w' := by
 have x0 := (h.cellB (j := 0) rfl).1
 have x1 := (h.cellB (j := 1) rfl).1
 have HO := hidZ (by obtain ⟨S1, S2, h1, h2, hd, hs⟩ := h; exact turnOver_any h2 (by omega) : Calls Tryz.prog 429 #[ptrN x] w fun e w' => e = .returned (.bool (decide (1 = 0))) ∧ w = w')
 have hA0 := as_any 0 (by omega) w
 rw [new0, old0] at hA0
 have HA0 := hidZ hA0
 have hA1 := fun V => as_any (W.cells.f 2) (hW.f 2) V
 rw [hn] at hA1
 have HA1 := hidZ hA1
 obtain ⟨pc, S3, c0, hcs, -, -, hup⟩ := Star.cellsW (B := TurnIs x 1 0) (framed_turn x 1 0) hW.tickets h
 have HL := hidZ (cload_any (a := 2) hcs (by unfold U64; omega) hW.count)
 have HUP := hidZ hup
 obtain ⟨f2, hf2⟩ := xE (W.cells.f 2)
 rw [← hf2] at HA1 HL ⊢
 have HF := hidZ hf2
 have HWT := hidZ hW.tickets
 clear h hA0 hA1 hcs hup hW hn hf2
 go_enter Tryz.func430, Tryz.ntmps430
 go_wp2_with fail
 refine HO.out.mono ?_
 rintro e w2 ⟨rfl, rfl⟩
 clear HO
 go_wp2_with fail
 refine HA0.out.mono ?_
 rintro e w2 ⟨rfl, rfl⟩
 clear HA0
 go_wp2_with fail
 refine HL.out.mono ?_
 rintro e w2 ⟨rfl, hst⟩
 have hst := HUP.out _ _ hst
 obtain ⟨S4, hs4, hc4, hk4⟩ := hst
 have y1 := hs4.cellB (j := 1) rfl
 have y0 := hs4.cellB (j := 0) rfl
 obtain ⟨h5, hc5⟩ := hs4.setB (framed_worldIs p _) (by decide) 1 (.int .u64 (f2 : Int))
 obtain ⟨h6, hc6⟩ := h5.setB (framed_worldIs p _) (by decide) 0 (.int .i64 0)
 have z1 := (h5.cellB (j := 1) rfl).1
 have z0 := h5.cellB (j := 0) rfl
 obtain ⟨w3, hw3⟩ := xE (w2.setCell ⟨x, 1, none⟩ (.int .u64 (f2 : Int)))
 rw [← hw3] at h5 h6 hc5 hc6 z0 z1
 obtain ⟨w4, hw4⟩ := xE (w3.setCell ⟨x, 0, none⟩ (.int .i64 0))
 rw [← hw4] at h6 hc6
 have HST := hidZ (show Stp (Star (WorldIs p (loadW W 2)) (TurnIs x 0 f2)) S w w4 from by
  refine ⟨S4, ?_, hc4.then (hc5.trans hc6) (fun i hi e => (hk4 i e).elim id (fun e => by omega)), hk4⟩
  unfold loadW
  rw [← HF.out]
  exact h6)
 have HO2 := hidZ (by obtain ⟨T1, T2, a1, a2, a3, a4⟩ := h6; exact turnOver_any (t := f2) a2 (by omega) : Calls Tryz.prog 429 #[ptrN x] w4 fun e w' => e = .returned (.bool (decide (0 = 0))) ∧ w4 = w')
 obtain ⟨y10, y11⟩ := y1
 obtain ⟨z00, z01⟩ := z0
 clear hs4 hc4 hk4 h5 h6 hc5 hc6 HL HUP y0
 go_upto_region 11 with fail
 rw [← hw3]
 clear hw3 y10 y11
 go_wp2_with fail
 refine (HA1.out _).mono ?_
 rintro e w5 ⟨rfl, rfl⟩
 clear HA1
 go_upto_region 28 with fail
 rw [← hw4]
 clear hw4 z00 z01 z1
 go_wp2_with fail
 refine HO2.out.mono ?_
 rintro e w5 ⟨rfl, rfl⟩
 clear HO2
 go_wp2_with fail
 go_ret
 exact ⟨rfl, HST.out⟩
end Go.Proofs.YtnkkoicbnbjlnaaGreatDoor
