/- machines: a pick that goes on, a command at one connection. No condition. And what goes with it (7 texts). -/
import Derived.Test.YtnkkoicbnbjlnaaGreatDoorMgD
import Derived.Test.YtnkkoicbnbjlnaaGreatDoorLowA
import Derived.Test.YtnkkoicbnbjlnaaGreatDoorMeA
import Derived.Test.YtnkkoicbnbjlnaaGreatDoorMaA
import Derived.Test.YtnkkoicbnbjlnaaGreatDoorMeE
namespace Go.Proofs.YtnkkoicbnbjlnaaGreatDoor.One
set_option maxRecDepth 100000
set_option maxHeartbeats 8000000
open Go.RowKit Go.ChangeMaps Go.MapKept
theorem pickMid_any {w : World} {mp wp tb tc x n : Nat} {th : List Value} {cv : Value} {R Y Y' : Thing} {S : Nat → Prop} (hth : th[8]? = some (.iface 209 (ptrN x))) (hR : Framed R) (hY : Framed Y) (hY' : Framed Y') (h : Star (Star R (MachB mp wp tb tc 1 th cv)) Y w S)
  (hs : StepTo x wp false Y Y') (hc : CountIs wp n Y) (hc' : CountIs wp (n + 1) Y') :
  Calls Tryz.prog 48 #[ptrN mp, .int .i64 0] w fun e w' => DidE e ∧ Stp (Star (Star R (MachB mp wp tb tc 1 th cv)) Y') S w w' := by
 have hF : Framed (Star R (MachB mp wp tb tc 1 th cv)) := hR.star (framed_mach _ _ _ _ _ _ _)
 obtain ⟨n1, hn1⟩ := xE (n + 1)
 rw [← hn1] at hc'
 have hsub : IntKind.i64.wrap ((n1 : Int) - (n : Int)) = 1 := by rw [hn1]; exact IntWalk.i64_in _ (by omega) |>.trans (by omega)
 obtain ⟨w1, hw1⟩ := xE (w.alloc (.cells #[.int .i64 0, .int .i64 0, .bool false, .int .u8 0, .int .u64 0, .string ⟨#[]⟩, .string ⟨#[]⟩, .int .u32 0, .int .u64 0, .int .i64 0, .int .i64 0] 75))
 have hb1 : Below w.heap.size w w1 := bal hw1
 obtain ⟨rb, hrb⟩ := xE (w.heap.size)
 have hq1 : w1.heap[rb]? = some (.cells #[.int .i64 0, .int .i64 0, .bool false, .int .u8 0, .int .u64 0, .string ⟨#[]⟩, .string ⟨#[]⟩, .int .u32 0, .int .u64 0, .int .i64 0, .int .i64 0] 75 (0, 0)) := by rw [hw1, hrb]; exact heap_mem w _
 have hs1 := (hF.star hY).below h hb1
 have hr1 := hs1.mach
 have c0 := hr1.c0
 have c1 := hr1.c1
 obtain ⟨t8, -⟩ := hr1.th 8 _ hth
 have HCT := hidZ (show Calls Tryz.prog 49 #[ptrN wp] w1 fun e w' => e = .returned (.int .i64 (n : Int)) ∧ w1 = w' from by
  obtain ⟨T1, T2, a1, a2, -⟩ := hs1
  exact hc w1 T2 a2)
 have HST := hidZ (show Calls Tryz.prog 398 #[ptrN x, ptrN wp] w1.drew fun e w' => e = .returned (.bool false) ∧ Stp (Star (Star R (MachB mp wp tb tc 1 th cv)) Y') S w1.drew w' from by
  obtain ⟨T1, T2, a1, a2, a3, a4⟩ := Star.drew hF hY hs1
  refine (hs w1.drew T2 a2).mono ?_
  rintro e w' ⟨rfl, hst⟩
  exact ⟨rfl, Stp.right hF hY a1 a2 a3 a4 hst⟩)
 have HS0 := hidZ (show ∀ k, S k → k < rb from fun k hk => hrb ▸ (hF.star hY).lt h hk)
 have HC' := hidZ hc'
 have HF := hidZ (And.intro hF hY')
 have HQ1 := hidZ hq1
 have HB1 := hidZ hb1
 have hix : ∀ W : World, (Instr.indexAt 77 (.slice (some ⟨tb, 0, none⟩) 1 tc) (.int .i64 0)).run Tryz.prog W = .ok (.pointer (some ⟨tb, 0, none⟩)) W := fun W => by
  have h := idx_thread (g := tb) (o := 0) (n := 1) (c := tc) (k := 0) (by omega) W
  simpa using h
 have qs := doEqSome 209 x
 have hm : ∀ n, n = Tryz.prog.types.size + Made.depth → ∀ (W : World), (method n 209 (ptrN x) "Step").run Tryz.prog W = .ok (398, ptrN x) W := by
  rintro n rfl
  exact fun _ => by kernel_rfl
 have HN1 := hidZ hn1
 have hrl : rb < w1.heap.size := (Array.getElem?_eq_some_iff.1 hq1).1
 have HRL := hidZ (And.intro hrl (show w1.heap.size = rb + 1 from by rw [hw1, size_at, hrb]))
 have HRB := hidZ hrb
 have HTH := hidZ hth
 clear h hs hc hc' hR hY hY' hF hs1 hr1 hth hb1 hq1 hn1 hrl
 go_enter Tryz.func48, Tryz.ntmps48
 go_upto_region 1 with fail
 rw [← hw1, ← hrb]
 clear hw1 hrb
 go_upto_region 3 with (first
  | (go_at_call 49; refine HCT.out.mono ?_; rintro e w' ⟨rfl, rfl⟩)
  | fail)
 go_upto_region 9 with fail
 refine wp_region_held_drew (S := fun V => V.cell? ⟨tb, 8, none⟩ = some (.iface 209 (ptrN x)) ∧ V.cell? ⟨mp, 0, none⟩ = some (ptrN wp)) (by kernel_rfl) ⟨t8, c0⟩ (fun hHe => ?_)
 refine tkz 0 rfl ?_
 try simp only [tp, tz]
 refine tkz 1 rfl ?_
 try simp only [tp, tz]
 refine tkz 2 rfl ?_
 try simp only [tp, tz]
 refine tkw 3 rfl ?_
 try simp only [tp, tz]
 refine tkz 4 rfl ?_
 try simp only [tp, tz]
 refine tkz 5 rfl ?_
 try simp only [tp, tz]
 refine tkz 6 rfl ?_
 try simp only [tp, tz]
 refine tkw 7 rfl ?_
 try simp only [tp, tz]
 refine tkz 8 rfl ?_
 try simp only [tp, tz]
 refine tkz 9 rfl ?_
 try simp only [tp, tz]
 refine rdy 10 rfl (fun K hK => ?_)
 go_simp
 refine HST.out.mono ?_
 rintro e w2 ⟨rfl, S2, hs2, hc2, hk2⟩
 have hr2 := hs2.mach
 refine hK.out _ _ ⟨(hr2.th 8 _ HTH.out).1, hr2.c0⟩ (fun hHf => ?_)
 clear hK K
 try simp only [tp, tz]
 refine tkz 11 rfl ?_
 try simp only [tp, tz]
 refine wpAnyH_done (by kernel_rfl) ?_ _
 have e0 := hr2.c0
 have HC2 := hidZ (show Calls Tryz.prog 49 #[ptrN wp] w2 fun e w' => e = .returned (.int .i64 (n1 : Int)) ∧ w2 = w' from by
  obtain ⟨T1, T2, a1, a2, -⟩ := hs2
  exact HC'.out w2 T2 a2)
 obtain ⟨d3, hd3⟩ := xE (w2.heap.size)
 obtain ⟨w3, hw3⟩ := xE (w2.alloc (.cells #[.int .i64 0, .int .i64 1, .bool false, .int .u8 0, .int .u64 0, .string ⟨#[]⟩, .string ⟨#[]⟩, .int .u32 0, .int .u64 0, .int .i64 0, .int .i64 0] 75))
 have hb3 : Below w2.heap.size w2 w3 := bal hw3
 have hq3 : w3.heap[d3]? = some (.cells #[.int .i64 0, .int .i64 1, .bool false, .int .u8 0, .int .u64 0, .string ⟨#[]⟩, .string ⟨#[]⟩, .int .u32 0, .int .u64 0, .int .i64 0, .int .i64 0] 75 (0, 0)) := by rw [hw3, hd3]; exact heap_mem w2 _
 have hz1 : w1.drew.heap.size = w1.heap.size := rfl
 have hS2 : ¬ S2 rb := fun e => by
  have h1 := HRL.out.1
  rcases hk2 rb e with e | e
  ·exact absurd (HS0.out rb e) (Nat.lt_irrefl _)
  ·omega
 have hqr2 : w2.heap[rb]? = some (.cells #[.int .i64 0, .int .i64 0, .bool false, .int .u8 0, .int .u64 0, .string ⟨#[]⟩, .string ⟨#[]⟩, .int .u32 0, .int .u64 0, .int .i64 0, .int .i64 0] 75 (0, 0)) := ((Chg.refl S w1).drew.trans hc2).obj HQ1.out (fun e => absurd (HS0.out rb e) (Nat.lt_irrefl _))
 have HQR := hidZ (boxAt hqr2 hb3)
 have HQ3 := hidZ hq3
 have HS3 := hidZ ((HF.out.1.star HF.out.2).below hs2 hb3)
 have HZ := hidZ hS2
 have HC3 := hidZ (show Chg S w w3 ∧ ∀ k, S2 k → S k ∨ w.heap.size ≤ k from by
  have e1 := HB1.out.size
  have e2 := hc2.size
  exact ⟨((Chg.of_below HB1.out).trans ((Chg.refl S w1).drew.trans hc2)).trans (Chg.of_below hb3), fun k hk => (hk2 k hk).imp (fun e => e) (fun e => by omega)⟩)
 clear hs2 hc2 hk2 hr2 hb3 hq3 hS2 hqr2 HST HCT hHe hHf c0 c1 t8
 go_upto_region 16 with (first
  | (go_at_call 49; refine HC2.out.mono ?_; rintro e w' ⟨rfl, rfl⟩)
  | fail)
 rw [← hw3, ← hd3]
 clear hw3 hd3
 go_wp2_with (first
  | ((with_reducible show wpList _ _ _ (⟨_, Op.load _ _, _, _, _, _⟩ :: _) _ _); refine wpList_load_row (by rfl) 75 (.tmp 11) (by rfl) d3 (by rfl) 75 _ _ _ HQ3.out Tryz.underlying75 rfl (by kernel_rfl) ?_)
  | ((with_reducible show wpList _ _ _ (⟨none, Op.store _ _ _, _, _, _, _⟩ :: _) _ _); refine wpList_store_whole (by rfl) 75 (.tmp 4) (.tmp 134) (by rfl) rb (by rfl) #[.int .i64 0, .int .i64 1, .bool false, .int .u8 0, .int .u64 0, .string ⟨#[]⟩, .string ⟨#[]⟩, .int .u32 0, .int .u64 0, .int .i64 0, .int .i64 0] (by rfl) _ 75 HQR.out (by rfl) (by kernel_rfl) (by simp [Value.oneCell']) ?_; intro w4 hr4 hg4 hz4)
  | ((with_reducible show bodyPost _ _ _ Exit.ret _ _); exact bodyPost_ret (results_cell_row (by exact Tryz.results48) _ _ rb _ _ _ _ (by rfl) hr4 Tryz.underlying75 rfl (by kernel_rfl)) rfl (by
    have hc4 : Chg (fun k => k = rb) w3 w4 := Chg.of_grown hg4 (fun _ _ e => (Option.some.inj e).symm)
    refine ⟨⟨_, _, _, _, _, rfl⟩, S2, keep_box (HF.out.1.star HF.out.2) HS3.out hc4 HZ.out (Tag.of HQR.out) (by decide), HC3.out.1.then hc4 (fun k hk e => ?_), HC3.out.2⟩
    have := HRB.out
    omega))
  | fail)
theorem doPick_any {w : World} {mp wp tb tc : Nat} {th : List Value} {cv : Value} {R Y B : Thing} {S : Nat → Prop} (hR : Framed R) (hY : Framed Y) (hB : Framed B) (h : Star (Star R (MachB mp wp tb tc 1 th cv)) Y w S)
  (hp : ∀ V, Below w.heap.size w V → Star (Star R (MachB mp wp tb tc 1 th cv)) Y V S → Calls Tryz.prog 48 #[ptrN mp, .int .i64 0] V fun e w' => DidE e ∧ Stp B S V w') :
  Calls Tryz.prog 25 #[ptrN mp, .agg #[.int .u8 1, .int .i64 0, .slice none 0 0]] w fun e w' => DidE e ∧ Stp B S w w' := by
 have HSF : Framed (Star (Star R (MachB mp wp tb tc 1 th cv)) Y) := (hR.star (framed_mach _ _ _ _ _ _ _)).star hY
 obtain ⟨q, hq⟩ := xE (w.heap.size)
 obtain ⟨rb, hrb⟩ := xE (w.heap.size + 1)
 obtain ⟨w1, hw1⟩ := xE (w.alloc (.cells #[.int .u8 1, .int .i64 0, .slice none 0 0] 73))
 have hz1 : w1.heap.size = w.heap.size + 1 := by rw [hw1, size_at]
 obtain ⟨w2, hw2⟩ := xE (w1.alloc (.cells #[.int .i64 0, .int .i64 0, .bool false, .int .u8 0, .int .u64 0, .string ⟨#[]⟩, .string ⟨#[]⟩, .int .u32 0, .int .u64 0, .int .i64 0, .int .i64 0] 75))
 have hb1 : Below w.heap.size w w1 := bal hw1
 have hb2 : Below w1.heap.size w1 w2 := bal hw2
 have hq1 : w1.heap[q]? = some (.cells #[.int .u8 1, .int .i64 0, .slice none 0 0] 73 (0, 0)) := by rw [hw1, hq]; exact heap_mem w _
 have hq2 := boxAt hq1 hb2
 have hr2 : w2.heap[rb]? = some (.cells #[.int .i64 0, .int .i64 0, .bool false, .int .u8 0, .int .u64 0, .string ⟨#[]⟩, .string ⟨#[]⟩, .int .u32 0, .int .u64 0, .int .i64 0, .int .i64 0] 75 (0, 0)) := by rw [hw2, hrb, ← hz1]; exact heap_mem w1 _
 have hb : Below w.heap.size w w2 := hb1.trans (hb2.mono hb1.size)
 have k0 : w2.cell? ⟨q, 0, none⟩ = some (.int .u8 1) := (cellsAt hq2 0).1
 have k1 : w2.cell? ⟨q, 1, none⟩ = some (.int .i64 0) := (cellsAt hq2 1).1
 have hs2 := HSF.below h hb
 have HW := hidZ (show (w.alloc (.cells #[.int .u8 1, .int .i64 0, .slice none 0 0] 73)).alloc (.cells #[.int .i64 0, .int .i64 0, .bool false, .int .u8 0, .int .u64 0, .string ⟨#[]⟩, .string ⟨#[]⟩, .int .u32 0, .int .u64 0, .int .i64 0, .int .i64 0] 75) = w2 from by rw [hw2, hw1])
 have HQB := hidZ (And.intro hq (And.intro hrb hb))
 have HR2 := hidZ hr2
 have HN := hidZ (show ¬ S rb from fun e => by have := HSF.lt h e; omega)
 have hnil : ∀ (x : Option Addr) (W : World), (binOp .eql 43 (.pointer x) (.pointer none)).run Tryz.prog W = .ok (.bool x.isNone) W := mptr_nil
 have c1 := hs2.mach.c1
 have hbd : Below w.heap.size w w2.drew := low_drew1 hb
 have HP := hidZ (hp w2.drew hbd (Star.drew (hR.star (framed_mach _ _ _ _ _ _ _)) hY hs2))
 have HBF := hidZ hB
 have HB2 := hidZ hb
 clear h hp hs2 hb hb1 hb2 hbd hq1 hq2 hr2 hw1 hw2 hz1 hq hrb hR hY hB HSF
 go_enter Tryz.func25, Tryz.ntmps25
 go_upto_region 1 with fail
 rw [HW.out, ← HQB.out.2.1, ← HQB.out.1]
 clear HW
 go_upto_region 3 with fail
 refine wp_region_held_drew (S := fun V => V.cell? ⟨q, 0, none⟩ = some (.int .u8 1) ∧ V.cell? ⟨q, 1, none⟩ = some (.int .i64 0) ∧ V.cell? ⟨mp, 1, none⟩ = some (.slice (some ⟨tb, 0, none⟩) 1 tc)) (by kernel_rfl) ⟨k0, k1, c1⟩ (fun hHe => ?_)
 refine tkz 0 rfl ?_
 try simp only [tp, tz]
 refine tkw 1 rfl ?_
 try simp only [tp, tz]
 refine tkz 2 rfl ?_
 try simp only [tp, tz]
 refine tkz 3 rfl ?_
 try simp only [tp, tz]
 refine tkz 4 rfl ?_
 try simp only [tp, tz]
 refine tkw 5 rfl ?_
 try simp only [tp, tz]
 refine tkz 6 rfl ?_
 try simp only [tp, tz]
 refine tkz 7 rfl ?_
 try simp only [tp, tz]
 refine tkz 8 rfl ?_
 try simp only [tp, tz]
 refine wpAnyH_done (by kernel_rfl) ?_ _
 clear hHe
 obtain ⟨w3, hw3⟩ := xE (w2.drew)
 rw [← hw3] at HP ⊢
 have k03 : w3.cell? ⟨q, 0, none⟩ = some (.int .u8 1) := by rw [hw3]; exact k0
 have HR3 := hidZ (show w3.heap[rb]? = some (.cells #[.int .i64 0, .int .i64 0, .bool false, .int .u8 0, .int .u64 0, .string ⟨#[]⟩, .string ⟨#[]⟩, .int .u32 0, .int .u64 0, .int .i64 0, .int .i64 0] 75 (0, 0)) ∧ Chg S w w3 from by rw [hw3]; exact ⟨HR2.out, (Chg.of_below HB2.out).drew⟩)
 clear hw3 k0 k1 c1 HR2 HB2
 go_upto_region 9 with fail
 go_wp2_with fail
 refine HP.out.mono ?_
 rintro e w4 ⟨⟨i, n, b, k, nm, rfl⟩, S4, hs4, hc4, hk4⟩
 have hr4 := hc4.obj HR3.out.1 HN.out
 have HR4 := hidZ hr4
 have HS4 := hidZ hs4
 have HC4 := hidZ (show Chg S w w4 ∧ (∀ k, S4 k → S k ∨ w.heap.size ≤ k) ∧ ¬ S4 rb from by
  have z := HR3.out.2.size
  have z2 := (Array.getElem?_eq_some_iff.1 HR3.out.1).1
  exact ⟨HR3.out.2.trans hc4, fun k hk => (hk4 k hk).imp (fun e => e) (fun e => by omega), fun e => (hk4 rb e).elim HN.out (fun e => by omega)⟩)
 clear hr4 hs4 hc4 hk4 HP HR3
 go_wp2_with (first
  | ((with_reducible show wpList _ _ _ (⟨none, Op.store _ _ _, _, _, _, _⟩ :: _) _ _); refine wpList_store_whole (by rfl) 75 (.tmp 4) (.tmp 52) (by rfl) rb (by rfl) #[.int .i64 i, .int .i64 n, .bool b, .int .u8 k, .int .u64 nm, .string ⟨#[]⟩, .string ⟨#[]⟩, .int .u32 0, .int .u64 0, .int .i64 0, .int .i64 0] (by rfl) _ 75 HR4.out (by rfl) (by kernel_rfl) (by simp [Value.oneCell']) ?_; intro w5 hr5 hg5 hz5)
  | ((with_reducible show bodyPost _ _ _ Exit.ret _ _); exact bodyPost_ret (results_cell_row (by exact Tryz.results25) _ _ rb _ _ _ _ (by rfl) hr5 Tryz.underlying75 rfl (by kernel_rfl)) rfl (by
    have hc5 : Chg (fun k => k = rb) w4 w5 := Chg.of_grown hg5 (fun _ _ e => (Option.some.inj e).symm)
    refine ⟨⟨_, _, _, _, _, rfl⟩, S4, keep_box HBF.out HS4.out hc5 HC4.out.2.2 (Tag.of HR4.out) (by decide), HC4.out.1.then hc5 (fun k hk e => ?_), HC4.out.2.1⟩
    have := HQB.out.2.1
    omega))
  | fail)
theorem doFeed_any {w : World} {mp wp tb tc c0 : Nat} {ba : Option Addr} {bn bc : Nat} {th : List Value} {cv : Value} {R Y B : Thing} {S : Nat → Prop} (hR : Framed R) (hY : Framed Y) (hB : Framed B) (h : Star (Star R (MachB mp wp tb tc 1 th cv)) Y w S) (hth : th[0]? = some (ptrN c0))
  (hBR : ∀ V S0, B V S0 → V.cell? ⟨tb, 0, none⟩ = some (ptrN c0) ∧ V.cell? ⟨mp, 1, none⟩ = some (.slice (some ⟨tb, 0, none⟩) 1 tc))
  (hp : ∀ V, Below w.heap.size w V → Star (Star R (MachB mp wp tb tc 1 th cv)) Y V S → Calls Tryz.prog 47 #[ptrN c0, .slice ba bn bc] V fun e w' => (∃ u, e = .returned u) ∧ Stp B S V w') :
  Calls Tryz.prog 25 #[ptrN mp, .agg #[.int .u8 0, .int .i64 0, .slice ba bn bc]] w fun e w' => e = .returned (didV 0 0 false 0 0) ∧ Stp B S w w' := by
 have HSF : Framed (Star (Star R (MachB mp wp tb tc 1 th cv)) Y) := (hR.star (framed_mach _ _ _ _ _ _ _)).star hY
 obtain ⟨q, hq⟩ := xE (w.heap.size)
 obtain ⟨rb, hrb⟩ := xE (w.heap.size + 1)
 obtain ⟨w1, hw1⟩ := xE (w.alloc (.cells #[.int .u8 0, .int .i64 0, .slice ba bn bc] 73))
 have hz1 : w1.heap.size = w.heap.size + 1 := by rw [hw1, size_at]
 obtain ⟨w2, hw2⟩ := xE (w1.alloc (.cells #[.int .i64 0, .int .i64 0, .bool false, .int .u8 0, .int .u64 0, .string ⟨#[]⟩, .string ⟨#[]⟩, .int .u32 0, .int .u64 0, .int .i64 0, .int .i64 0] 75))
 have hb1 : Below w.heap.size w w1 := bal hw1
 have hb2 : Below w1.heap.size w1 w2 := bal hw2
 have hq1 : w1.heap[q]? = some (.cells #[.int .u8 0, .int .i64 0, .slice ba bn bc] 73 (0, 0)) := by rw [hw1, hq]; exact heap_mem w _
 have hq2 := boxAt hq1 hb2
 have hr2 : w2.heap[rb]? = some (.cells #[.int .i64 0, .int .i64 0, .bool false, .int .u8 0, .int .u64 0, .string ⟨#[]⟩, .string ⟨#[]⟩, .int .u32 0, .int .u64 0, .int .i64 0, .int .i64 0] 75 (0, 0)) := by rw [hw2, hrb, ← hz1]; exact heap_mem w1 _
 have hb : Below w.heap.size w w2 := hb1.trans (hb2.mono hb1.size)
 have k0 : w2.cell? ⟨q, 0, none⟩ = some (.int .u8 0) := (cellsAt hq2 0).1
 have k1 : w2.cell? ⟨q, 1, none⟩ = some (.int .i64 0) := (cellsAt hq2 1).1
 have hs2 := HSF.below h hb
 have HW := hidZ (show (w.alloc (.cells #[.int .u8 0, .int .i64 0, .slice ba bn bc] 73)).alloc (.cells #[.int .i64 0, .int .i64 0, .bool false, .int .u8 0, .int .u64 0, .string ⟨#[]⟩, .string ⟨#[]⟩, .int .u32 0, .int .u64 0, .int .i64 0, .int .i64 0] 75) = w2 from by rw [hw2, hw1])
 have HQB := hidZ (And.intro hq (And.intro hrb hb))
 have HR2 := hidZ hr2
 have HN := hidZ (show ¬ S rb from fun e => by have := HSF.lt h e; omega)
 have hnil : ∀ (x : Option Addr) (W : World), (binOp .eql 43 (.pointer x) (.pointer none)).run Tryz.prog W = .ok (.bool x.isNone) W := mptr_nil
 have c1 := hs2.mach.c1
 obtain ⟨w3, hw3⟩ := xE (w2.drew)
 have hs3 := Star.drew (hR.star (framed_mach _ _ _ _ _ _ _)) hY hs2
 rw [← hw3] at hs3
 have c13 := hs3.mach.c1
 have t03 := (hs3.mach.th 0 (ptrN c0) hth).1
 have k03 : w3.cell? ⟨q, 0, none⟩ = some (.int .u8 0) := by rw [hw3]; exact k0
 have k23 : w3.cell? ⟨q, 2, none⟩ = some (.slice ba bn bc) := by rw [hw3]; exact (cellsAt hq2 2).1
 have hb3 : Below w.heap.size w w3 := by rw [hw3]; exact low_drew1 hb
 have HP := hidZ (hp w3.drew (low_drew1 hb3) (Star.drew (hR.star (framed_mach _ _ _ _ _ _ _)) hY hs3))
 have HBF := hidZ (And.intro hB hBR)
 have HB3 := hidZ hb3
 have HR3 := hidZ (show w3.heap[rb]? = some (.cells #[.int .i64 0, .int .i64 0, .bool false, .int .u8 0, .int .u64 0, .string ⟨#[]⟩, .string ⟨#[]⟩, .int .u32 0, .int .u64 0, .int .i64 0, .int .i64 0] 75 (0, 0)) ∧ Chg S w w3 ∧ w3.heap[q]? = some (.cells #[.int .u8 0, .int .i64 0, .slice ba bn bc] 73 (0, 0)) ∧ ¬ S q from by rw [hw3]; exact ⟨hr2, (Chg.of_below hb).drew, hq2, fun e => by have := HSF.lt h e; omega⟩)
 have HW3 := hidZ hw3
 have hix : ∀ W : World, (Instr.indexAt 77 (.slice (some ⟨tb, 0, none⟩) 1 tc) (.int .i64 0)).run Tryz.prog W = .ok (.pointer (some ⟨tb, 0, none⟩)) W := fun W => by
  have h := idx_thread (g := tb) (o := 0) (n := 1) (c := tc) (k := 0) (by omega) W
  simpa using h
 clear h hp hs2 hs3 hb hb1 hb2 hb3 hq1 hq2 hr2 hw1 hw2 hw3 hz1 hq hrb hR hY hB hBR hth HSF HR2
 go_enter Tryz.func25, Tryz.ntmps25
 go_upto_region 1 with fail
 rw [HW.out, ← HQB.out.2.1, ← HQB.out.1]
 clear HW
 go_upto_region 3 with fail
 refine wp_region_held_drew (S := fun V => V.cell? ⟨q, 0, none⟩ = some (.int .u8 0) ∧ V.cell? ⟨q, 1, none⟩ = some (.int .i64 0) ∧ V.cell? ⟨mp, 1, none⟩ = some (.slice (some ⟨tb, 0, none⟩) 1 tc)) (by kernel_rfl) ⟨k0, k1, c1⟩ (fun hHe => ?_)
 refine tkz 0 rfl ?_
 try simp only [tp, tz]
 refine tkw 1 rfl ?_
 try simp only [tp, tz]
 refine tkz 2 rfl ?_
 try simp only [tp, tz]
 refine tkz 3 rfl ?_
 try simp only [tp, tz]
 refine tkz 4 rfl ?_
 try simp only [tp, tz]
 refine tkw 5 rfl ?_
 try simp only [tp, tz]
 refine tkz 6 rfl ?_
 try simp only [tp, tz]
 refine tkz 7 rfl ?_
 try simp only [tp, tz]
 refine tkz 8 rfl ?_
 try simp only [tp, tz]
 refine wpAnyH_done (by kernel_rfl) ?_ _
 clear hHe
 rw [← HW3.out]
 clear HW3 k0 k1 c1
 go_upto_region 6 with fail
 refine wp_region_held_drew (S := fun V => V.cell? ⟨tb, 0, none⟩ = some (ptrN c0) ∧ V.cell? ⟨q, 2, none⟩ = some (.slice ba bn bc) ∧ V.cell? ⟨mp, 1, none⟩ = some (.slice (some ⟨tb, 0, none⟩) 1 tc)) (by kernel_rfl) ⟨t03, k23, c13⟩ (fun hHe => ?_)
 refine tkz 0 rfl ?_
 try simp only [tp, tz]
 refine tkz 1 rfl ?_
 try simp only [tp, tz]
 refine tkz 2 rfl ?_
 try simp only [tp, tz]
 refine tkw 3 rfl ?_
 try simp only [tp, tz]
 refine tkz 4 rfl ?_
 try simp only [tp, tz]
 refine tkz 5 rfl ?_
 try simp only [tp, tz]
 refine tkz 6 rfl ?_
 try simp only [tp, tz]
 refine tkw 7 rfl ?_
 try simp only [tp, tz]
 refine tkz 8 rfl ?_
 try simp only [tp, tz]
 refine tkw 9 rfl ?_
 try simp only [tp, tz]
 refine rdy 10 rfl (fun K hK => ?_)
 go_simp
 refine HP.out.mono ?_
 rintro e w4 ⟨⟨uu, rfl⟩, S4, hs4, hc4, hk4⟩
 have hr4 := hc4.obj (w := w3.drew) HR3.out.1 HN.out
 have hb4 := HBF.out.2 w4 S4 hs4
 refine hK.out _ _ ⟨hb4.1, (cellsAt (hc4.obj (w := w3.drew) HR3.out.2.2.1 HR3.out.2.2.2) 2).1, hb4.2⟩ (fun hHf => ?_)
 clear hK K
 try simp only [tp, tz]
 refine wpAnyH_done (by kernel_rfl) ?_ _
 clear hHe hHf
 have HR4 := hidZ hr4
 have HS4 := hidZ hs4
 have HC4 := hidZ (show Chg S w w4 ∧ (∀ k, S4 k → S k ∨ w.heap.size ≤ k) ∧ ¬ S4 rb from by
  have z := HR3.out.2.1.size
  have z2 := (Array.getElem?_eq_some_iff.1 HR3.out.1).1
  have z3 : w3.drew.heap.size = w3.heap.size := rfl
  exact ⟨HR3.out.2.1.drew.trans hc4, fun k hk => (hk4 k hk).imp (fun e => e) (fun e => by omega), fun e => (hk4 rb e).elim HN.out (fun e => by omega)⟩)
 clear hr4 hs4 hc4 hk4 hb4 HP HR3 t03 k03 k23 c13
 go_wp2_with (first
  | ((with_reducible show wpList _ _ _ (⟨none, Op.store _ _ _, _, _, _, _⟩ :: _) _ _); refine wpList_store_whole (by rfl) 75 (.tmp 4) (.tmp 47) (by rfl) rb (by rfl) #[.int .i64 0, .int .i64 0, .bool false, .int .u8 0, .int .u64 0, .string ⟨#[]⟩, .string ⟨#[]⟩, .int .u32 0, .int .u64 0, .int .i64 0, .int .i64 0] (by rfl) _ 75 HR4.out (by rfl) (by kernel_rfl) (by simp [Value.oneCell']) ?_; intro w5 hr5 hg5 hz5)
  | ((with_reducible show bodyPost _ _ _ Exit.ret _ _); exact bodyPost_ret (results_cell_row (by exact Tryz.results25) _ _ rb _ _ _ _ (by rfl) hr5 Tryz.underlying75 rfl (by kernel_rfl)) rfl (by
    have hc5 : Chg (fun k => k = rb) w4 w5 := Chg.of_grown hg5 (fun _ _ e => (Option.some.inj e).symm)
    refine ⟨rfl, S4, keep_box HBF.out.1 HS4.out hc5 HC4.out.2.2 (Tag.of HR4.out) (by decide), HC4.out.1.then hc5 (fun k hk e => ?_), HC4.out.2.1⟩
    have := HQB.out.2.1
    omega))
  | fail)
end Go.Proofs.YtnkkoicbnbjlnaaGreatDoor.One
namespace Go.Proofs.YtnkkoicbnbjlnaaGreatDoor
set_option maxRecDepth 100000
set_option maxHeartbeats 8000000
open Go.RowKit Go.ChangeMaps Go.MapKept
theorem results_tmp_cell {P : Program} {fn : Func} {p u : Tmp} {ty : TypeId} (h : fn.results = #[.tmp u, .cell p ty]) (tmps : Array Value) (w : World) (a : Addr) (v v2 : Value)
  (hp : tmps.getD p undef = .pointer (some a)) (hv : tmps.getD u undef = v) (hl : (loadVar ty a).run P w = .ok v2 w) :
  (results fn tmps).run P w = .ok (.tuple #[v, v2]) w := by
 have hp' : tmps[p]?.getD undef = .pointer (some a) := by simpa using hp
 have h1 : tmps[u]?.getD undef = v := by simpa using hv
 simp [results, h, hp', h1, asAddr, hl, Result.andThen]
theorem cas1_any {g bd bw bi x y : Nat} {w : World} (h : WordB w g x) (hd : w.heap[bd]? = some (.cells #[.bool false] 4 (0, 0))) (hw : w.cell? ⟨bw, 0, none⟩ = some (.int .u64 (x : Int))) (hi : w.cell? ⟨bi, 0, none⟩ = some (.int .u64 (y : Int)))
  (n1 : bw ≠ g) (n2 : bd ≠ g) (n3 : bw ≠ bd) :
  Calls Tryz.prog 110 #[ptrV g, ptrV bw, ptrV bi, ptrV bd] w fun e w' => e = .returned (.int .u64 (x : Int)) ∧ w' = (w.setCell ⟨g, 0, none⟩ (.int .u64 (y : Int))).setCell ⟨bd, 0, none⟩ (.bool true) := by
 have HC := hidZ (ucas_hit h y)
 obtain ⟨w1, hw1⟩ := xE (w.setCell ⟨g, 0, none⟩ (.int .u64 (y : Int)))
 have hd1 : w1.heap[bd]? = some (.cells #[.bool false] 4 (0, 0)) := by
  rw [hw1]
  exact (Chg.set (M := fun k => k = g) (Chg.refl _ w) (p := g) (j := 0) (fun _ => rfl) _).obj hd n2
 have d1 := cellsAt hd1 0
 have b1 : w1.cell? ⟨bw, 0, none⟩ = some (.int .u64 (x : Int)) := by
  rw [hw1]
  exact (Chg.set (M := fun k => k = g) (Chg.refl _ w) (p := g) (j := 0) (fun _ => rfl) _).cell hw n1
 obtain ⟨w2, hw2⟩ := xE (w1.setCell ⟨bd, 0, none⟩ (.bool true))
 have d2 : w2.cell? ⟨bd, 0, none⟩ = some (.bool true) := by
  rw [hw2]
  exact (cellsAt (Go.Joins.block_setCell (i := 0) hd1 (.bool true)) 0).1
 have b2 : w2.cell? ⟨bw, 0, none⟩ = some (.int .u64 (x : Int)) := by
  rw [hw2]
  exact (Chg.set (M := fun k => k = bd) (Chg.refl _ w1) (p := bd) (j := 0) (fun _ => rfl) _).cell b1 n3
 rw [← hw1, ← hw2]
 rw [← hw1] at HC
 obtain ⟨d10, d11⟩ := d1
 have HW2 := hidZ hw2
 clear h hd hd1 hw1 hw2 b1
 go_enter Tryz.func110, Tryz.ntmps110
 go_wp2_with fail
 refine HC.out.mono ?_
 rintro e w3 ⟨rfl, rfl⟩
 clear HC
 go_upto_region 2 with fail
 rw [← HW2.out]
 go_wp2_with fail
 go_ret
 exact ⟨rfl, rfl⟩
section
variable {p : Nat} {c : CellsM} {w : World} {S : Nat → Prop}
theorem AtIs.keep {a g : Nat} {M : Nat → Prop} {w' : World} (h : AtIs p c a g w S) (hc : Chg M w w') (hd : ∀ k, M k → ¬ S k) : AtIs p c a g w' S := by
 obtain ⟨mo, E, h1, h2, h3, h4, h5⟩ := h
 exact ⟨mo, E, hc.obj h1 (fun e => hd _ e ((h4 p).2 (.inl rfl))), h2.keep hc (fun b hb e => hd _ e ((h4 b).2 (.inr (.inl hb)))), h3.keep hc (fun b hb e => hd _ e ((h4 b).2 (.inr (.inr hb)))), h4, h5⟩
theorem ccas_any {a v : Nat} (h : CellsIs p c w S) (ha : U64 a) (hn : c.count < 4611686018427387904) :
  Calls Tryz.prog 76 #[ptrV p, addrV a, .int .u64 (c.f a : Int), .int .u64 (v : Int)] w fun e w' => (∃ u, e = .returned u) ∧ Stp (CellsIs p (c.acc 3 a v)) S w w' := by
 have hmf := @mkFn Tryz.prog
 obtain ⟨w1, hw1⟩ := xE (w.alloc (boxU (c.f a)))
 obtain ⟨w2, hw2⟩ := xE (w1.alloc (boxU v))
 obtain ⟨w3, hw3⟩ := xE (w2.alloc (.cells #[.bool false] 4))
 have s1 : w1.heap.size = w.heap.size + 1 := by rw [hw1]; exact size_at _ _
 have s2 : w2.heap.size = w.heap.size + 2 := by rw [hw2, size_at, s1]
 have h1 : CellsIs p c w1 S := by rw [hw1]; exact cellsIs_alloc h _
 have h2 : CellsIs p c w2 S := by rw [hw2]; exact cellsIs_alloc h1 _
 have h3 : CellsIs p c w3 S := by rw [hw3]; exact cellsIs_alloc h2 _
 have k1 : w3.heap[w.heap.size]? = some (boxU (c.f a)) := by
  have e1 : w1.heap[w.heap.size]? = some (boxU (c.f a)) := by rw [hw1]; exact heap_new w _
  rw [hw3, hw2]
  exact (((Chg.refl (fun _ => False) w1).alloc _).alloc _).obj e1 (fun e => e)
 have k2 : w3.heap[w.heap.size + 1]? = some (boxU v) := by
  have e1 : w2.heap[w1.heap.size]? = some (boxU v) := by rw [hw2]; exact heap_new w1 _
  rw [s1] at e1
  rw [hw3]
  exact ((Chg.refl (fun _ => False) w2).alloc _).obj e1 (fun e => e)
 have k3 : w3.heap[w.heap.size + 2]? = some (.cells #[.bool false] 4 (0, 0)) := by
  have e1 : w3.heap[w2.heap.size]? = some (.cells #[.bool false] 4 (0, 0)) := by rw [hw3]; exact heap_new w2 _
  rw [s2] at e1
  exact e1
 have s3 : w3.heap.size = w.heap.size + 3 := by rw [hw3, size_at, s2]
 have hp : S p := by obtain ⟨mo, E, -, -, -, q⟩ := h; exact (q p).2 (.inl rfl)
 have hlt : ∀ k, S k → k < w.heap.size := fun k hk => (framed_cells p c).lt h hk
 have HA := hidZ (access_any (F := 110) (cap := #[ptrV w.heap.size, ptrV (w.heap.size + 1), ptrV (w.heap.size + 2)]) (D := fun k => k = w.heap.size + 2) (R := fun V => V.heap[w.heap.size + 2]? = some (.cells #[.bool true] 4 (0, 0))) (k := 3) (v := v) h3 ha hn (fun g W => by kernel_rfl) (fun g S' W hat hch hs => by
  have x1 := hch.obj k1 (fun e => by have := hlt _ e; omega)
  have x2 := hch.obj k2 (fun e => by have := hlt _ e; omega)
  have x3 := hch.obj k3 (fun e => by have := hlt _ e; omega)
  have n1 : w.heap.size ≠ g := fun e => by
   subst e
   exact absurd ((Tag.of x1).one (Tag.of hat.word)) (by decide)
  have n2 : w.heap.size + 2 ≠ g := fun e => by
   subst e
   exact absurd ((Tag.of x3).one (Tag.of hat.word)) (by decide)
  refine (cas1_any hat.word x3 (cellsAt x1 0).1 (cellsAt x2 0).1 n1 n2 (by omega)).mono ?_
  rintro e w' ⟨rfl, rfl⟩
  obtain ⟨h1, h2⟩ := hat.store v
  have n3 : ¬ S' (w.heap.size + 2) := fun e => by
   rcases hs _ e with e | e
   ·have := hlt _ e; omega
   ·omega
  have hc4 : Chg (fun k => k = w.heap.size + 2) (W.setCell ⟨g, 0, none⟩ (.int .u64 (v : Int))) ((W.setCell ⟨g, 0, none⟩ (.int .u64 (v : Int))).setCell ⟨w.heap.size + 2, 0, none⟩ (.bool true)) := Chg.set (M := fun k => k = w.heap.size + 2) (Chg.refl _ _) (fun _ => rfl) _
  refine ⟨rfl, h1.keep hc4 (fun k e hk => n3 (e ▸ hk)), (h2.mono (fun _ _ e => .inl e)).then hc4 (fun _ _ e => .inr e), ?_⟩
  exact Go.Joins.block_setCell (i := 0) (h2.obj x3 n3) (.bool true)) (fun W W' hr hc => hc.obj hr (fun e => by
   have := hlt p hp
   omega)))
 have HW1 := hidZ hw1
 have HW2 := hidZ hw2
 have HW3 := hidZ hw3
 have HS1 := hidZ s1
 have HS2 := hidZ s2
 have HB := hidZ (fun (w' : World) (h : AccStep p (c.acc 3 a v) S (fun k => k = w.heap.size + 2) (fun V => V.heap[w.heap.size + 2]? = some (.cells #[.bool true] 4 (0, 0))) w3 w') => (show (w'.cell? ⟨w.heap.size + 2, 0, none⟩ = some (.bool true) ∧ w'.frozen? ⟨w.heap.size + 2, 0, none⟩ = false) ∧ Stp (CellsIs p (c.acc 3 a v)) S w (w'.setCell ⟨w.heap.size + 2, 0, none⟩ (.bool true)).drew ∧ (w'.setCell ⟨w.heap.size + 2, 0, none⟩ (.bool true)).drew.cell? ⟨w.heap.size + 2, 0, none⟩ = some (.bool true) from by
  obtain ⟨S', q1, q2, q3, q4⟩ := h
  have hw : Chg S w w3 := by
   rw [hw3, hw2, hw1]
   exact (((Chg.refl S w).alloc _).alloc _).alloc _
  have hc5 : Chg (fun k => k = w.heap.size + 2) w' (w'.setCell ⟨w.heap.size + 2, 0, none⟩ (.bool true)) := Chg.set (M := fun k => k = w.heap.size + 2) (Chg.refl _ _) (fun _ => rfl) _
  have n3 : ¬ S' (w.heap.size + 2) := fun e => by
   rcases q3 _ e with e | e
   ·have := hlt _ e; omega
   ·omega
  refine ⟨cellsAt q4 0, ⟨S', (framed_cells p _).keep q1 hc5.drew (fun k e => ⟨fun hk => n3 (e ▸ hk), ?_⟩), (hw.then q2 (fun i hi e => e.elim id (fun e => by omega))).then hc5.drew (fun i hi e => by omega), fun k hk => (q3 k hk).imp id (fun e => Nat.le_trans hw.size e)⟩, (cellsAt (Go.Joins.block_setCell (i := 0) q4 (.bool true)) 0).1⟩
  rw [e]
  exact fun ht => absurd ((Tag.of q4).one ht) (by decide)))
 clear h ha hn h1 h2 h3 k1 k2 k3 hlt hp hw1 hw2 hw3 s1 s2 s3
 go_enter Tryz.func76, Tryz.ntmps76
 go_upto_region 1 with fail
 rw [← HW1.out, ← HW2.out, ← HW3.out, show w.heap.size + 1 + 1 = w.heap.size + 2 from rfl]
 go_wp2_with fail
 refine HA.out.mono ?_
 rintro e w4 ⟨rfl, hs⟩
 obtain ⟨⟨d1, d2⟩, hT, d3⟩ := HB.out w4 hs
 have HT := hidZ hT
 clear hs hT HA HB
 go_wp2_with fail
 refine wp_region_late 3 (fun V => V.cell? ⟨w.heap.size + 2, 0, none⟩ = some (.bool true)) (by kernel_rfl) d1 (fun hHe => ?_)
 refine ltz 0 rfl (fun _ => hHe) ?_
 try simp only [tp, tz]
 refine late_read (i := 1) (v := ?_) rfl (by kernel_rfl) (by kernel_rfl) (by kernel_rfl) (fun _ _ _ h => h) (by decide) rfl (by kernel_rfl) (Or.inl ⟨by rfl, ?_⟩) hHe (by kernel_rfl) ?_
 rotate_left 1
 ·((intro w hSw; (try dsimp only at hSw); have c0 := hSw; go_simp) <;> with_reducible rfl)
 try simp only [tp, tz]
 refine ltz 2 rfl (fun _ => hHe) ?_
 try simp only [tp, tz]
 refine late_one (i := 3) (by kernel_rfl) rfl (fun K hK => ?_)
 go_simp
 refine hK.out _ _ (fun _ h => absurd rfl h) ?_
 clear hK K
 try simp only [tp, tz]
 refine late_done (by kernel_rfl) ?_
 clear hHe
 clear d1 d2
 go_wp2_with fail
 obtain ⟨w5, hw5⟩ := xE ((w4.setCell ⟨w.heap.size + 2, 0, none⟩ (.bool true)).drew)
 rw [← hw5] at d3 HT ⊢
 clear hw5
 have hlv : (loadVar 4 ⟨w.heap.size + 2, 0, none⟩).run Tryz.prog w5 = .ok (.bool true) w5 := by simp [loadVar, isAgg, underlying, Tryz.underlying4, d3, Result.andThen]
 refine bodyPost_ret (v := .tuple #[.int .u64 (c.f a : Int), .bool true]) ?_ rfl ⟨⟨_, rfl⟩, HT.out⟩
 exact results_tmp_cell (u := 8) (p := 9) (ty := 4) (by exact Tryz.results76) _ _ ⟨w.heap.size + 2, 0, none⟩ _ _ (by rfl) (by rfl) hlv
def tickW (W : WorldM) : WorldM := { W with cells := W.cells.acc 3 8 (tickE (W.cells.f 8)) }
theorem wtick_any {w : World} {p : Nat} {W : WorldM} {B : Thing} {S : Nat → Prop} (hB : Framed B) (h : Star (WorldIs p W) B w S) (hW : W.Ok) : Calls Tryz.prog 50 #[ptrN p] w fun e w' => (∃ u, e = .returned u) ∧ Stp (Star (WorldIs p (tickW W)) B) S w w' := by
 obtain ⟨pc, S3, c0, hcs, hnp, -, hup⟩ := Star.cellsW hB hW.tickets h
 have HP := hidZ (cpeek_any (a := 8) hcs (by unfold U64; omega))
 have HF := hidZ (hW.f 8)
 have HN := hidZ hW.count
 have HCS := hidZ hcs
 have HUP := hidZ hup
 have HNP := hidZ hnp
 clear h hW hcs hup hnp
 go_enter Tryz.func50, Tryz.ntmps50
 go_wp2_with fail
 refine HP.out.mono ?_
 rintro e w2 ⟨rfl, rfl⟩
 clear HP
 go_wp2_with fail
 refine wp_region_held_drew (S := fun V => V.cell? ⟨p, 0, none⟩ = some (ptrN pc)) (by kernel_rfl) c0 (fun hHe => ?_)
 refine tkz 0 rfl ?_
 try simp only [tp, tz]
 refine tkz 1 rfl ?_
 try simp only [tp, tz]
 refine tkz 2 rfl ?_
 try simp only [tp, tz]
 refine tkz 3 rfl ?_
 try simp only [tp, tz]
 refine tkz 4 rfl ?_
 try simp only [tp, tz]
 refine tkz 5 rfl ?_
 try simp only [tp, tz]
 refine rdy 6 rfl (fun K hK => ?_)
 go_simp
 go_at_call 77
 refine (tick_any (W.cells.f 8) HF.out w.drew).mono ?_
 rintro e w2 ⟨rfl, hb2⟩
 refine hK.out _ _ ((hb2.cell (p := ⟨p, 0, none⟩) (cell_lt c0)).trans c0) (fun hHf => ?_)
 clear hK K
 try simp only [tp, tz]
 have hb : Below w.heap.size w w2 := ((Below.refl w.heap.size w).drew).trans hb2
 have HC := hidZ (ccas_any (a := 8) (v := tickE (W.cells.f 8)) ((framed_cells pc W.cells).below HCS.out hb) (by unfold U64; omega) HN.out)
 refine rdy 7 rfl (fun K hK => ?_)
 go_simp
 go_at_call 76
 refine (HC.out).mono ?_
 rintro e w3 ⟨⟨u, rfl⟩, hst⟩
 refine hK.out _ _ (hst.chg.cell hHf HNP.out) (fun hHf => ?_)
 clear hK K
 try simp only [tp, tz]
 refine wpAnyH_done (by kernel_rfl) ?_ _
 have HT := hidZ (HUP.out _ _ (Stp.ahead (Chg.of_below hb) hst))
 go_wp2_with fail
 exact bodyPost_end (results_none (by exact Tryz.results50) _ _ _) rfl ⟨⟨_, rfl⟩, HT.out⟩
theorem wtickW_any {w : World} {p : Nat} {W : WorldM} {S : Nat → Prop} (h : WorldIs p W w S) (hW : W.Ok) : Calls Tryz.prog 50 #[ptrN p] w fun e w' => (∃ u, e = .returned u) ∧ Stp (WorldIs p (tickW W)) S w w' := by
 refine (wtick_any (B := Emp) framed_emp ⟨S, fun _ => False, h, fun _ e => e, fun _ _ e => e, fun k => ⟨.inl, fun e => e.elim id False.elim⟩⟩ hW).mono ?_
 rintro e w' ⟨he, S', ⟨S1, S2, h1, h2, -, hs⟩, hc, hk⟩
 exact ⟨he, S1, h1, hc, fun k e => hk k ((hs k).2 (.inl e))⟩
def TickTo (p : Nat) (A B : Thing) : Prop := ∀ V S0, A V S0 → Calls Tryz.prog 50 #[ptrN p] V fun e w' => (∃ u, e = .returned u) ∧ Stp B S0 V w'
theorem TickTo.star {p : Nat} {W : WorldM} {B : Thing} (hB : Framed B) (hW : W.Ok) : TickTo p (Star (WorldIs p W) B) (Star (WorldIs p (tickW W)) B) := fun _ _ h => wtick_any hB h hW
theorem TickTo.wk {p : Nat} {A A' B B' : Thing} (h : TickTo p A' B') (hA : Wk A A') (hB : Wk B' B) : TickTo p A B := fun V S0 hV => by
 obtain ⟨S1, h1, h2⟩ := hA V S0 hV
 refine (h V S1 h1).mono ?_
 rintro e w' ⟨he, hst⟩
 exact ⟨he, (hst.wk hB).sub h2⟩
theorem TickTo.ex {ι : Type} {p : Nat} {A : ι → Thing} {B : Thing} (h : ∀ i, TickTo p (A i) B) : TickTo p (fun V S => ∃ i, A i V S) B := fun V S0 ⟨i, hi⟩ => h i V S0 hi
end
end Go.Proofs.YtnkkoicbnbjlnaaGreatDoor
namespace Go.Proofs.YtnkkoicbnbjlnaaGreatDoor.One
set_option maxRecDepth 100000
set_option maxHeartbeats 8000000
open Go.RowKit Go.ChangeMaps Go.MapKept
theorem doTick_any {w : World} {mp wp tb tc : Nat} {th : List Value} {cv : Value} {n : Nat} {R Y Y' : Thing} {S : Nat → Prop} (hR : Framed R) (hY : Framed Y) (hY' : Framed Y') (h : Star (Star R (MachB mp wp tb tc 1 th cv)) Y w S)
  (ht : TickTo wp Y Y') (hc : CountIs wp n Y) (hc' : CountIs wp (n + 1) Y') :
  Calls Tryz.prog 25 #[ptrN mp, .agg #[.int .u8 2, .int .i64 0, .slice none 0 0]] w fun e w' => DidE e ∧ Stp (Star (Star R (MachB mp wp tb tc 1 th cv)) Y') S w w' := by
 have HSF : Framed (Star (Star R (MachB mp wp tb tc 1 th cv)) Y) := (hR.star (framed_mach _ _ _ _ _ _ _)).star hY
 obtain ⟨q, hq⟩ := xE (w.heap.size)
 obtain ⟨rb, hrb⟩ := xE (w.heap.size + 1)
 obtain ⟨w1, hw1⟩ := xE (w.alloc (.cells #[.int .u8 2, .int .i64 0, .slice none 0 0] 73))
 have hz1 : w1.heap.size = w.heap.size + 1 := by rw [hw1, size_at]
 obtain ⟨w2, hw2⟩ := xE (w1.alloc (.cells #[.int .i64 0, .int .i64 0, .bool false, .int .u8 0, .int .u64 0, .string ⟨#[]⟩, .string ⟨#[]⟩, .int .u32 0, .int .u64 0, .int .i64 0, .int .i64 0] 75))
 have hb1 : Below w.heap.size w w1 := bal hw1
 have hb2 : Below w1.heap.size w1 w2 := bal hw2
 have hq1 : w1.heap[q]? = some (.cells #[.int .u8 2, .int .i64 0, .slice none 0 0] 73 (0, 0)) := by rw [hw1, hq]; exact heap_mem w _
 have hq2 := boxAt hq1 hb2
 have hr2 : w2.heap[rb]? = some (.cells #[.int .i64 0, .int .i64 0, .bool false, .int .u8 0, .int .u64 0, .string ⟨#[]⟩, .string ⟨#[]⟩, .int .u32 0, .int .u64 0, .int .i64 0, .int .i64 0] 75 (0, 0)) := by rw [hw2, hrb, ← hz1]; exact heap_mem w1 _
 have hb : Below w.heap.size w w2 := hb1.trans (hb2.mono hb1.size)
 have k0 : w2.cell? ⟨q, 0, none⟩ = some (.int .u8 2) := (cellsAt hq2 0).1
 have k1 : w2.cell? ⟨q, 1, none⟩ = some (.int .i64 0) := (cellsAt hq2 1).1
 have hs2 := HSF.below h hb
 have HW := hidZ (show (w.alloc (.cells #[.int .u8 2, .int .i64 0, .slice none 0 0] 73)).alloc (.cells #[.int .i64 0, .int .i64 0, .bool false, .int .u8 0, .int .u64 0, .string ⟨#[]⟩, .string ⟨#[]⟩, .int .u32 0, .int .u64 0, .int .i64 0, .int .i64 0] 75) = w2 from by rw [hw2, hw1])
 have HQB := hidZ (And.intro hq (And.intro hrb hb))
 have HR2 := hidZ hr2
 have HN := hidZ (show ¬ S rb from fun e => by have := HSF.lt h e; omega)
 have hnil : ∀ (x : Option Addr) (W : World), (binOp .eql 43 (.pointer x) (.pointer none)).run Tryz.prog W = .ok (.bool x.isNone) W := mptr_nil
 have c1 := hs2.mach.c1
 have hbd : Below w.heap.size w w2.drew := low_drew1 hb
 have HSX := hidZ (Star.drew (hR.star (framed_mach _ _ _ _ _ _ _)) hY hs2)
 have HMF := hidZ (hR.star (framed_mach mp wp tb tc 1 th cv))
 have HYF := hidZ (And.intro hY hY')
 have HTK := hidZ ht
 have HCC := hidZ hc
 have HCC' := hidZ hc'
 have HB2 := hidZ hb
 clear h ht hc hc' hs2 hb hb1 hb2 hbd hq1 hq2 hr2 hw1 hw2 hz1 hq hrb hR hY hY' HSF
 go_enter Tryz.func25, Tryz.ntmps25
 go_upto_region 1 with fail
 rw [HW.out, ← HQB.out.2.1, ← HQB.out.1]
 clear HW
 go_upto_region 3 with fail
 refine wp_region_held_drew (S := fun V => V.cell? ⟨q, 0, none⟩ = some (.int .u8 2) ∧ V.cell? ⟨q, 1, none⟩ = some (.int .i64 0) ∧ V.cell? ⟨mp, 1, none⟩ = some (.slice (some ⟨tb, 0, none⟩) 1 tc)) (by kernel_rfl) ⟨k0, k1, c1⟩ (fun hHe => ?_)
 refine tkz 0 rfl ?_
 try simp only [tp, tz]
 refine tkw 1 rfl ?_
 try simp only [tp, tz]
 refine tkz 2 rfl ?_
 try simp only [tp, tz]
 refine tkz 3 rfl ?_
 try simp only [tp, tz]
 refine tkz 4 rfl ?_
 try simp only [tp, tz]
 refine tkw 5 rfl ?_
 try simp only [tp, tz]
 refine tkz 6 rfl ?_
 try simp only [tp, tz]
 refine tkz 7 rfl ?_
 try simp only [tp, tz]
 refine tkz 8 rfl ?_
 try simp only [tp, tz]
 refine wpAnyH_done (by kernel_rfl) ?_ _
 clear hHe
 obtain ⟨w3, hw3⟩ := xE (w2.drew)
 rw [← hw3] at HSX ⊢
 have k03 : w3.cell? ⟨q, 0, none⟩ = some (.int .u8 2) := by rw [hw3]; exact k0
 have HR3 := hidZ (show w3.heap[rb]? = some (.cells #[.int .i64 0, .int .i64 0, .bool false, .int .u8 0, .int .u64 0, .string ⟨#[]⟩, .string ⟨#[]⟩, .int .u32 0, .int .u64 0, .int .i64 0, .int .i64 0] 75 (0, 0)) ∧ Chg S w w3 from by rw [hw3]; exact ⟨HR2.out, (Chg.of_below HB2.out).drew⟩)
 clear hw3 k0 k1 c1 HR2 HB2
 have m0 := HSX.out.mach.c0
 have HCT := hidZ (show Calls Tryz.prog 49 #[ptrN wp] w3 fun e w' => e = .returned (.int .i64 (n : Int)) ∧ w3 = w' from by
  obtain ⟨T1, T2, a1, a2, -⟩ := HSX.out
  exact HCC.out w3 T2 a2)
 have HTT := hidZ (show Calls Tryz.prog 50 #[ptrN wp] w3 fun e w' => (∃ u, e = .returned u) ∧ Stp (Star (Star R (MachB mp wp tb tc 1 th cv)) Y') S w3 w' from by
  obtain ⟨T1, T2, a1, a2, a3, a4⟩ := HSX.out
  refine (HTK.out w3 T2 a2).mono ?_
  rintro e w' ⟨he, hst⟩
  exact ⟨he, Stp.right HMF.out HYF.out.1 a1 a2 a3 a4 hst⟩)
 obtain ⟨n1, hn1⟩ := xE (n + 1)
 rw [← hn1] at HCC'
 clear hn1
 go_upto_region 11 with fail
 go_upto_region 12 with (first
  | (go_at_call 49; refine HCT.out.mono ?_; rintro e w' ⟨rfl, rfl⟩)
  | fail)
 go_wp2_with fail
 refine HTT.out.mono ?_
 rintro e w4 ⟨⟨u, rfl⟩, S4, hs4, hc4, hk4⟩
 have hr4 := hc4.obj HR3.out.1 HN.out
 have HR4 := hidZ hr4
 have m4 := hs4.mach.c0
 have HCT4 := hidZ (show Calls Tryz.prog 49 #[ptrN wp] w4 fun e w' => e = .returned (.int .i64 (n1 : Int)) ∧ w4 = w' from by
  obtain ⟨T1, T2, a1, a2, -⟩ := hs4
  exact HCC'.out w4 T2 a2)
 have HS4 := hidZ hs4
 have HC4 := hidZ (show Chg S w w4 ∧ (∀ k, S4 k → S k ∨ w.heap.size ≤ k) ∧ ¬ S4 rb from by
  have z := HR3.out.2.size
  have z2 := (Array.getElem?_eq_some_iff.1 HR3.out.1).1
  exact ⟨HR3.out.2.trans hc4, fun k hk => (hk4 k hk).imp (fun e => e) (fun e => by omega), fun e => (hk4 rb e).elim HN.out (fun e => by omega)⟩)
 clear hr4 hs4 hc4 hk4 HTT HR3 HCT HSX m0 k03
 go_wp2_with (first
  | (go_at_call 49; refine HCT4.out.mono ?_; rintro e w' ⟨rfl, rfl⟩)
  | ((with_reducible show wpList _ _ _ (⟨none, Op.store _ _ _, _, _, _, _⟩ :: _) _ _); refine wpList_store_whole (by rfl) 75 (.tmp 4) (.tmp 72) (by rfl) rb (by rfl) #[.int .i64 (-1), .int .i64 _, .bool false, .int .u8 0, .int .u64 0, .string ⟨#[]⟩, .string ⟨#[]⟩, .int .u32 0, .int .u64 0, .int .i64 0, .int .i64 0] (by rfl) _ 75 HR4.out (by rfl) (by kernel_rfl) (by simp [Value.oneCell']) ?_; intro w5 hr5 hg5 hz5)
  | ((with_reducible show bodyPost _ _ _ Exit.ret _ _); exact bodyPost_ret (results_cell_row (by exact Tryz.results25) _ _ rb _ _ _ _ (by rfl) hr5 Tryz.underlying75 rfl (by kernel_rfl)) rfl (by
    have hc5 : Chg (fun k => k = rb) w4 w5 := Chg.of_grown hg5 (fun _ _ e => (Option.some.inj e).symm)
    refine ⟨⟨_, _, _, _, _, rfl⟩, S4, keep_box (HMF.out.star HYF.out.2) HS4.out hc5 HC4.out.2.2 (Tag.of HR4.out) (by decide), HC4.out.1.then hc5 (fun k hk e => ?_), HC4.out.2.1⟩
    have := HQB.out.2.1
    omega))
  | fail)
end Go.Proofs.YtnkkoicbnbjlnaaGreatDoor.One
namespace Go.Proofs.YtnkkoicbnbjlnaaGreatDoor.Tk
set_option maxRecDepth 100000
set_option maxHeartbeats 8000000
open Go.RowKit Go.ChangeMaps Go.MapKept
def kE : Nat := 10
def km2 : StM := sm1.pt kE 21
def km3 : StM := km2.ans 1 1
abbrev kt0 : WorldM := lw0
def kw1 : WorldM := drawW kt0 0
def kt1 : WorldM := tickW kw1
def kw2 : WorldM := lookW kt1 0 0
def kt2 : WorldM := tickW kw2
def kw3 : WorldM := loadW kt2 2
def kt3 : WorldM := tickW kw3
def kw4 : WorldM := loadW kt3 2
def kt4 : WorldM := tickW kw4
def kw5 : WorldM := loadW kt4 lta
def kt5 : WorldM := tickW kw5
def kw6 : WorldM := loadW kt5 (tagsA 2 lb2)
def kt6 : WorldM := tickW kw6
def kw7 : WorldM := loadW kt6 6
def kt7 : WorldM := tickW kw7
def kw8 : WorldM := loadW kt7 2
def kt8 : WorldM := tickW kw8
def kw9 : WorldM := loadW kt8 lta
def kt9 : WorldM := tickW kw9
def kw10 : WorldM := markW kt9 lver
def kt10 : WorldM := tickW kw10
def kw11 : WorldM := loadW kt10 8
def kt11 : WorldM := tickW kw11
def kw12 : WorldM := itemW (addW kt11 7 1) (recI km2 1)
def kt12 : WorldM := tickW kw12
def kw13 : WorldM := storeW kt12 ltt 1
def kt13 : WorldM := tickW kw13
def kw14 : WorldM := loadW kt13 lta
def kt14 : WorldM := tickW kw14
def kw15 : WorldM := storeW kt14 lta (withN 0 0 ltg)
def kt15 : WorldM := tickW kw15
def kw16 : WorldM := addW kt15 6 1
def kt16 : WorldM := tickW kw16
def kw17 : WorldM := markW kt16 lver
def kt17 : WorldM := tickW kw17
def kw18 : WorldM := giveW kt17
def kt18 : WorldM := tickW kw18
theorem tickE_lt64 (ep : Nat) : tickE ep < 18446744073709551616 := by
 unfold tickE
 split <;> exact put_lt _ _ _
theorem tickOk {W : WorldM} (h : W.Ok) (hc : W.cells.count + 1 < 4611686018427387904) : (tickW W).Ok := h.acc (tickE_lt64 _) hc
theorem tok0 : kt0.Ok := lok0
theorem kok1 : kw1.Ok := tok0.draw 0 (by decide)
theorem tok1 : kt1.Ok := tickOk kok1 (by decide)
theorem kok2 : kw2.Ok := tok1.look 0 0 (by decide)
theorem tok2 : kt2.Ok := tickOk kok2 (by decide)
theorem kok3 : kw3.Ok := tok2.load 2 (by decide)
theorem tok3 : kt3.Ok := tickOk kok3 (by decide)
theorem kok4 : kw4.Ok := tok3.load 2 (by decide)
theorem tok4 : kt4.Ok := tickOk kok4 (by decide)
theorem kok5 : kw5.Ok := tok4.load lta (by decide)
theorem tok5 : kt5.Ok := tickOk kok5 (by decide)
theorem kok6 : kw6.Ok := tok5.load _ (by decide)
theorem tok6 : kt6.Ok := tickOk kok6 (by decide)
theorem kok7 : kw7.Ok := tok6.load 6 (by decide)
theorem tok7 : kt7.Ok := tickOk kok7 (by decide)
theorem kok8 : kw8.Ok := tok7.load 2 (by decide)
theorem tok8 : kt8.Ok := tickOk kok8 (by decide)
theorem kok9 : kw9.Ok := tok8.load lta (by decide)
theorem tok9 : kt9.Ok := tickOk kok9 (by decide)
theorem kok10 : kw10.Ok := tok9.mark lver (by decide)
theorem tok10 : kt10.Ok := tickOk kok10 (by decide)
theorem kok11 : kw11.Ok := tok10.load 8 (by decide)
theorem tok11 : kt11.Ok := tickOk kok11 (by decide)
theorem kok12 : kw12.Ok := (tok11.add 7 1 (by decide)).item _
theorem tok12 : kt12.Ok := tickOk kok12 (by decide)
theorem kok13 : kw13.Ok := tok12.store ltt 1 (by unfold U64; omega) (by decide)
theorem tok13 : kt13.Ok := tickOk kok13 (by decide)
theorem kok14 : kw14.Ok := tok13.load lta (by decide)
theorem tok14 : kt14.Ok := tickOk kok14 (by decide)
theorem kok15 : kw15.Ok := tok14.store lta _ lwith_lt (by decide)
theorem tok15 : kt15.Ok := tickOk kok15 (by decide)
theorem kok16 : kw16.Ok := tok15.add 6 1 (by decide)
theorem tok16 : kt16.Ok := tickOk kok16 (by decide)
theorem kok17 : kw17.Ok := tok16.mark lver (by decide)
theorem tok17 : kt17.Ok := tickOk kok17 (by decide)
theorem kok18 : kw18.Ok := tok17.give (by decide)
section
variable (p x : Nat)
def LP0 (W : WorldM) : Thing := fun V S => ∃ q : Nat × Nat, Star (Star (Star (WorldIs p W) (StoreBox q.2 x)) (TakeIs q.1 0 0 false (drawF q.1))) (StoreB x (.iface 249 (ptrN q.1)) (newF q.2) .nilFunc sm0) V S
def LP1 (W : WorldM) : Thing := fun V S => ∃ q : Nat × Nat, Star (Star (Star (WorldIs p W) (StoreBox q.2 x)) (TakeIs q.1 0 0 true (lookF q.1))) (StoreB x (.iface 249 (ptrN q.1)) (newF q.2) .nilFunc sm0) V S
def LP2 (W : WorldM) : Thing := fun V S => ∃ o, Star (Star (WorldIs p W) (TurnIs o 1 0)) (StoreB x (.iface 253 (ptrN o)) (findsF x) .nilFunc sm0) V S
def LP3 (W : WorldM) : Thing := fun V S => ∃ o, FindPh x sm0 (WorldIs p W) (Find0 o sm0.key) o V S
def LP4 (W : WorldM) : Thing := fun V S => ∃ o, FindPh x sm0 (WorldIs p W) (FindIs o sm0.key 2 [(2, lb), (2, lb2)]) o V S
def LP5 (W : WorldM) : Thing := fun V S => ∃ o, FindPh x sm0 (WorldIs p W) (FindIs o sm0.key 2 [(2, lb2)]) o V S
def LP6 (W : WorldM) : Thing := fun V S => ∃ thn, Star (WorldIs p W) (StoreB x .nilIface thn (storeF 167 x) sm0) V S
def LP7 (W : WorldM) : Thing := fun V S => ∃ thn, Star (WorldIs p W) (StoreB x .nilIface thn (storeF 201 x) sm0) V S
def LP8 (W : WorldM) : Thing := fun V S => ∃ o, RoomPh x sm0 (WorldIs p W) (RoomIs o 2 lh) o V S
def LP9 (W : WorldM) : Thing := fun V S => ∃ bx, MarkPh x sm1 (Star (WorldIs p W) (StoreBox bx x)) (boxF 267 bx) V S
def LP10 (W : WorldM) : Thing := fun V S => ∃ q : Nat × Value, Star (Star (WorldIs p W) (StoreBox q.1 x)) (StoreB x .nilIface q.2 (boxF 268 q.1) sm1) V S
def LP11 (W : WorldM) : Thing := fun V S => ∃ q : Nat × Value, Star (Star (WorldIs p W) (StoreBox q.1 x)) (StoreB x .nilIface q.2 (boxF 269 q.1) km2) V S
def LP12 (W : WorldM) : Thing := PutPh x km2 (WorldIs p W) (fun o => PutIs o lta ltt 0 0 0 ltg 1) 1
def LP13 (W : WorldM) : Thing := PutPh x km2 (WorldIs p W) (fun o => PutIs o lta ltt 0 0 1 ltg 1) 1
def LP14 (W : WorldM) : Thing := PutPh x km2 (WorldIs p W) (fun o => PutIs o lta ltt 0 0 2 ltg 1) 1
def LP15 (W : WorldM) : Thing := fun V S => ∃ q : Nat × Nat × Value, Star (Star (WorldIs p W) (Star (StoreBox q.1 x) (IdBox q.2.1 1))) (StoreB x .nilIface q.2.2 (countF q.1 q.2.1) km2) V S
def LP16 (W : WorldM) : Thing := MarkPh x km3 (WorldIs p W) (storeF 199 x)
def LP17 (W : WorldM) : Thing := GivePh x km3 (WorldIs p W)
def LP18 (W : WorldM) : Thing := fun V S => ∃ thn, Star (WorldIs p W) (StoreB x .nilIface thn .nilFunc km3) V S
end
variable {p x : Nat}
theorem kstep0 : StepTo x p false (LP0 p x kt0) (LP1 p x kw1) := StepTo.ex fun q => (stepMore (((framed_worldIs p _).star (framed_box (by decide))).star (framed_take _ _ _ _ _))
  (((takeSteps_draw tok0 (by decide)).frame ((framed_worldIs p _).star (framed_take _ _ _ _ _)) (framed_box (b := q.2) (v := ptrN x) (t := 209) (by decide))).wk (boxes_wk _ _ _) (boxes_wk _ _ _))).wk (Wk.refl _) (Wk.exI q (Wk.refl _))
theorem kstep1 : StepTo x p false (LP1 p x kt1) (LP2 p x kw2) := StepTo.ex fun q => (stepOver (first := #[]) (cap := #[ptrN q.2]) (((framed_worldIs p _).star (framed_box (by decide))).star (framed_take _ _ _ _ _))
  (((takeSteps_look tok1 (by decide) (show kt1.cells.f 1 = 0 from by kernel_rfl)).frame ((framed_worldIs p _).star (framed_take _ _ _ _ _)) (framed_box (b := q.2) (v := ptrN x) (t := 209) (by decide))).wk (boxes_wk _ _ _) (Wk.refl _))
  (doesTurn (p := p) ((framed_worldIs p _).star (framed_box (by decide))) box_reads) (fun _ _ ⟨_, h⟩ => h.goesOp)).wk (Wk.refl _) (fun V S ⟨o, h⟩ => (Wk.star (Wk.star (Wk.fst _ _) (Wk.refl _)) (Wk.refl _)).trans (Wk.exI o (Wk.refl _)) V S h)
theorem kstep2 : StepTo x p false (LP2 p x kt2) (LP3 p x kw3) := StepTo.ex fun o => stepOver (first := #[ptrN x]) (cap := #[]) ((framed_worldIs p _).star (framed_turn _ _ _)) (turnSteps tok2 (by kernel_rfl)) (doesFinds (p := p) (framed_worldIs p _)) (fun _ _ ⟨_, _, h⟩ => h.goesOp)
theorem kstep3 : StepTo x p false (LP3 p x kt3) (LP4 p x kw4) := StepTo.ex fun o => StepTo.ex fun q => (stepMore (((framed_worldIs p _).star (framed_find0 _ _)).star framed_boxes)
  ((findSteps_first (key := sm0.key) tok3 (by kernel_rfl) (by decide)).frame ((framed_worldIs p _).star (framed_find0 _ _)) framed_boxes)).wk (Wk.refl _) (Wk.exI o (Wk.exI q (Wk.star (Wk.star (Wk.star (Wk.refl _) (Wk.of fun V S h => by
   rw [show kt3.cells.f 2 = 2 from by kernel_rfl, lplaces] at h
   exact h)) (Wk.refl _)) (Wk.refl _))))
theorem kstep4 : StepTo x p false (LP4 p x kt4) (LP5 p x kw5) := StepTo.ex fun o => StepTo.ex fun q => (stepMore (((framed_worldIs p _).star (framed_find _ _ _ _)).star framed_boxes)
  ((findSteps_tags (key := sm0.key) tok4 lbkt (by decide) (by decide) (by decide) (by decide)).frame ((framed_worldIs p _).star (framed_find _ _ _ _)) framed_boxes)).wk (Wk.refl _) (Wk.exI o (Wk.exI q (Wk.refl _)))
theorem kstep5 : StepTo x p false (LP5 p x kt5) (LP6 p x kw6) := StepTo.ex fun o => StepTo.ex fun q => (stepOver (first := #[]) (cap := #[ptrN q.2, ptrN q.1]) (((framed_worldIs p _).star (framed_find _ _ _ _)).star framed_boxes)
  ((findSteps_tags (key := sm0.key) tok5 lbkt2 (by decide) (by decide) (by decide) (by decide)).frame ((framed_worldIs p _).star (framed_find _ _ _ _)) framed_boxes)
  (doesFound (p := p) (framed_worldIs p _) (by decide) (by decide)) (fun _ _ h => h.goesAct)).wk (Wk.refl _) (Wk.exI _ (Wk.refl _))
theorem kstep6 : StepTo x p false (LP6 p x kt6) (LP7 p x kw7) := StepTo.ex fun thn => (stepAct (first := #[ptrN x]) (cap := #[]) (doesCounts (p := p) (bud := 8) tok6 rfl (by decide) (by decide)) (fun _ _ h => h.goesAct)).wk (Wk.refl _) (Wk.exI _ (Wk.refl _))
theorem kstep7 : StepTo x p false (LP7 p x kt7) (LP8 p x kw8) := StepTo.ex fun _ => stepAct (first := #[ptrN x]) (cap := #[]) (doesTables (p := p) tok7 lhh) (fun _ _ ⟨_, _, h⟩ => h.goesOp)
open Go.RowKit Go.ChangeMaps Go.MapKept
variable {p x : Nat}
theorem kstep8 : StepTo x p false (LP8 p x kt8) (LP9 p x kw9) := StepTo.ex fun o => StepTo.ex fun q => stepOver (first := #[]) (cap := #[ptrN q.2.1, ptrN q.1, ptrN q.2.2.1, ptrN q.2.2.2.1, ptrN q.2.2.2.2]) (((framed_worldIs p _).star (framed_room _ _ _)).star ((framed_box (by decide)).star (framed_box (by decide))))
  ((roomSteps tok8 lbkt (by kernel_rfl)).frame ((framed_worldIs p _).star (framed_room _ _ _)) ((framed_box (by decide)).star (framed_box (by decide))))
  (doesRoomed (p := p) (s := 0) (framed_worldIs p _) lbkt) (fun _ _ ⟨_, _, h⟩ => h.goesOp)
theorem kstep9 : StepTo x p false (LP9 p x kt9) (LP10 p x kw10) := StepTo.ex fun bx => StepTo.ex fun o => (stepOver (first := #[]) (cap := #[ptrN bx]) (((framed_worldIs p _).star (framed_box (by decide))).star (framed_mark _ _))
  (((markSteps tok9 lver_lt).frame ((framed_worldIs p _).star (framed_mark _ _)) (framed_box (b := bx) (v := ptrN x) (t := 209) (by decide))).wk (boxes_wk _ _ _) (Wk.refl _))
  (doesComes1 (p := p) ((framed_worldIs p _).star (framed_box (by decide))) box_reads) (fun _ _ h => h.goesAct)).wk (Wk.refl _) (Wk.exI (bx, _) (Wk.refl _))
theorem kstep10 : StepTo x p false (LP10 p x kt10) (LP11 p x kw11) := StepTo.ex fun q => (stepAct (first := #[]) (cap := #[ptrN q.1]) (doesComes2 (p := p) (X := StoreBox q.1 x) (framed_box (by decide)) tok10 (fun _ _ h => Blk.cell0 h)) (fun _ _ h => h.goesAct)).wk (Wk.refl _) (Wk.exI q (Wk.of fun V S h => by
  rw [show kt10.cells.f 8 = kE from by kernel_rfl, show kt10.cells.count + 1 = 21 from by kernel_rfl] at h
  exact h))
theorem lhh2 : km2.h < 18446744073709551616 := by
 rw [show km2.h = lh from by kernel_rfl]
 exact lhh
theorem kstep11 : StepTo x p false (LP11 p x kt11) (LP12 p x kw12) := StepTo.ex fun q => (stepAct (first := #[]) (cap := #[ptrN q.1]) (doesComes3 (p := p) (i7 := 0) (X := StoreBox q.1 x) (framed_box (by decide)) tok11 lbkt (by decide) lhh2 (by kernel_rfl) (of_decide_eq_true (by kernel_rfl)) (by kernel_rfl) (by omega) (show kE < 18446744073709551616 from by decide) (show -9223372036854775808 ≤ (0 : Int) ∧ (0 : Int) ≤ 9223372036854775807 from by omega) (fun _ _ h => Blk.cell0 h)) (fun _ _ ⟨_, h⟩ => h.goesOp)).wk (Wk.refl _) putPh_wk
theorem kstep12 : StepTo x p false (LP12 p x kt12) (LP13 p x kw13) := StepTo.ex fun q => (stepMore (((framed_worldIs p _).star (framed_put _ _ _ _ _ _ _ _)).star framed_pboxes)
  ((putSteps1 tok12 tagsA_pos ltt_lt (by decide)).frame ((framed_worldIs p _).star (framed_put _ _ _ _ _ _ _ _)) framed_pboxes)).wk (Wk.refl _) (Wk.exI q (Wk.refl _))
theorem kstep13 : StepTo x p false (LP13 p x kt13) (LP14 p x kw14) := StepTo.ex fun q => (stepMore (((framed_worldIs p _).star (framed_put _ _ _ _ _ _ _ _)).star framed_pboxes)
  ((putSteps2 tok13 tagsA_pos lta_lt).frame ((framed_worldIs p _).star (framed_put _ _ _ _ _ _ _ _)) framed_pboxes)).wk (Wk.refl _) (Wk.exI q (Wk.of fun V S h => by
  rw [show kt13.cells.f (tagsA 2 lb) = 0 from by kernel_rfl] at h
  exact h))
theorem kstep14 : StepTo x p false (LP14 p x kt14) (LP15 p x kw15) := StepTo.ex fun q => (stepOver (first := #[]) (cap := #[ptrN q.2.1, ptrN q.2.2]) (((framed_worldIs p _).star (framed_put _ _ _ _ _ _ _ _)).star framed_pboxes)
  ((putSteps3 tok14 tagsA_pos lta_lt (by unfold U64; omega) (by decide) (of_decide_eq_true (by kernel_rfl))).frame ((framed_worldIs p _).star (framed_put _ _ _ _ _ _ _ _)) framed_pboxes)
  (doesPut1 (p := p) ((framed_worldIs p _).star framed_pboxes) (fun _ _ ⟨_, _, _, ⟨_, _, h, _⟩, _⟩ => Blk.cell0 h)) (fun _ _ h => h.goesAct)).wk (Wk.refl _) (Wk.exI (q.2.1, q.2.2, _) (Wk.refl _))
theorem kstep15 : StepTo x p false (LP15 p x kt15) (LP16 p x kw16) := StepTo.ex fun q => (stepAct (first := #[]) (cap := #[ptrN q.1, ptrN q.2.1]) (doesPut2 (p := p) (id := 1) (X := Star (StoreBox q.1 x) (IdBox q.2.1 1)) framed_pboxes tok15 lbkt (fun _ _ ⟨_, _, h, _⟩ => Blk.cell0 h) (fun _ _ ⟨_, _, _, h, _⟩ => Blk.cell0 h)) (fun _ _ ⟨_, h⟩ => h.goesOp)).wk (Wk.refl _) markPh_wk
theorem kstep16 : StepTo x p false (LP16 p x kt16) (LP17 p x kw17) := StepTo.ex fun _ => stepOver (first := #[ptrN x]) (cap := #[]) ((framed_worldIs p _).star (framed_mark _ _)) (markSteps tok16 lver_lt) (doesGives (p := p) (framed_worldIs p _)) (fun _ _ ⟨_, h⟩ => h.goesOp)
theorem kstep17 : StepTo x p true (LP17 p x kt17) (LP18 p x kw18) := StepTo.ex fun _ => (stepOver (first := #[ptrN x]) (cap := #[]) ((framed_worldIs p _).star (framed_give _ _)) (giveSteps tok17) (doesEnds (p := p) (framed_worldIs p _)) (fun _ _ h => h.goesNil)).wk (Wk.refl _) (Wk.exI _ (Wk.refl _))
structure TF (p : Nat) (A A' : Thing) : Prop where
 tick : TickTo p A A'
 fr : Framed A
theorem TF.world {p : Nat} {W : WorldM} (hW : W.Ok) : TF p (WorldIs p W) (WorldIs p (tickW W)) := ⟨fun _ _ h => wtickW_any h hW, framed_worldIs p W⟩
theorem TF.star {p : Nat} {A A' C : Thing} (h : TF p A A') (hC : Framed C) : TF p (Star A C) (Star A' C) := ⟨fun V S0 ⟨S1, S2, h1, h2, hd, hs⟩ => by
 refine (h.tick V S1 h1).mono ?_
 rintro e w' ⟨he, hst⟩
 exact ⟨he, Stp.left hC h.fr h1 h2 hd hs hst⟩, h.fr.star hC⟩
theorem TF.ex {ι : Type} {p : Nat} {A A' : ι → Thing} (h : ∀ i, TF p (A i) (A' i)) : TF p (fun V S => ∃ i, A i V S) (fun V S => ∃ i, A' i V S) := ⟨fun V S0 ⟨i, hi⟩ => by
 refine ((h i).tick V S0 hi).mono ?_
 rintro e w' ⟨he, hst⟩
 exact ⟨he, hst.mono fun S' h' => ⟨i, h'⟩⟩, Framed.ex fun i => (h i).fr⟩
variable {p x : Nat}
theorem framed_LP0 (W : WorldM) : Framed (LP0 p x W) := Framed.ex fun _ => (((framed_worldIs p _).star (framed_box (by decide))).star (framed_take _ _ _ _ _)).star (framed_store _ _ _ _ _)
theorem framed_LP1 (W : WorldM) : Framed (LP1 p x W) := Framed.ex fun _ => (((framed_worldIs p _).star (framed_box (by decide))).star (framed_take _ _ _ _ _)).star (framed_store _ _ _ _ _)
theorem tick_LP1 {W : WorldM} (hW : W.Ok) : TF p (LP1 p x W) (LP1 p x (tickW W)) := TF.ex fun _ => (((TF.world hW).star (framed_box (by decide))).star (framed_take _ _ _ _ _)).star (framed_store _ _ _ _ _)
theorem framed_LP2 (W : WorldM) : Framed (LP2 p x W) := Framed.ex fun _ => ((framed_worldIs p _).star (framed_turn _ _ _)).star (framed_store _ _ _ _ _)
theorem tick_LP2 {W : WorldM} (hW : W.Ok) : TF p (LP2 p x W) (LP2 p x (tickW W)) := TF.ex fun _ => ((TF.world hW).star (framed_turn _ _ _)).star (framed_store _ _ _ _ _)
theorem framed_LP3 (W : WorldM) : Framed (LP3 p x W) := Framed.ex fun _ => Framed.ex fun _ => (((framed_worldIs p _).star (framed_find0 _ _)).star framed_boxes).star (framed_store _ _ _ _ _)
theorem tick_LP3 {W : WorldM} (hW : W.Ok) : TF p (LP3 p x W) (LP3 p x (tickW W)) := TF.ex fun _ => TF.ex fun _ => (((TF.world hW).star (framed_find0 _ _)).star framed_boxes).star (framed_store _ _ _ _ _)
theorem framed_LP4 (W : WorldM) : Framed (LP4 p x W) := Framed.ex fun _ => Framed.ex fun _ => (((framed_worldIs p _).star (framed_find _ _ _ _)).star framed_boxes).star (framed_store _ _ _ _ _)
theorem tick_LP4 {W : WorldM} (hW : W.Ok) : TF p (LP4 p x W) (LP4 p x (tickW W)) := TF.ex fun _ => TF.ex fun _ => (((TF.world hW).star (framed_find _ _ _ _)).star framed_boxes).star (framed_store _ _ _ _ _)
theorem framed_LP5 (W : WorldM) : Framed (LP5 p x W) := Framed.ex fun _ => Framed.ex fun _ => (((framed_worldIs p _).star (framed_find _ _ _ _)).star framed_boxes).star (framed_store _ _ _ _ _)
theorem tick_LP5 {W : WorldM} (hW : W.Ok) : TF p (LP5 p x W) (LP5 p x (tickW W)) := TF.ex fun _ => TF.ex fun _ => (((TF.world hW).star (framed_find _ _ _ _)).star framed_boxes).star (framed_store _ _ _ _ _)
theorem framed_LP6 (W : WorldM) : Framed (LP6 p x W) := Framed.ex fun _ => (framed_worldIs p _).star (framed_store _ _ _ _ _)
theorem tick_LP6 {W : WorldM} (hW : W.Ok) : TF p (LP6 p x W) (LP6 p x (tickW W)) := TF.ex fun _ => (TF.world hW).star (framed_store _ _ _ _ _)
theorem framed_LP7 (W : WorldM) : Framed (LP7 p x W) := Framed.ex fun _ => (framed_worldIs p _).star (framed_store _ _ _ _ _)
theorem tick_LP7 {W : WorldM} (hW : W.Ok) : TF p (LP7 p x W) (LP7 p x (tickW W)) := TF.ex fun _ => (TF.world hW).star (framed_store _ _ _ _ _)
theorem framed_LP8 (W : WorldM) : Framed (LP8 p x W) := Framed.ex fun _ => Framed.ex fun _ => (((framed_worldIs p _).star (framed_room _ _ _)).star ((framed_box (by decide)).star (framed_box (by decide)))).star (framed_store _ _ _ _ _)
theorem tick_LP8 {W : WorldM} (hW : W.Ok) : TF p (LP8 p x W) (LP8 p x (tickW W)) := TF.ex fun _ => TF.ex fun _ => (((TF.world hW).star (framed_room _ _ _)).star ((framed_box (by decide)).star (framed_box (by decide)))).star (framed_store _ _ _ _ _)
theorem framed_LP9 (W : WorldM) : Framed (LP9 p x W) := Framed.ex fun _ => Framed.ex fun _ => (((framed_worldIs p _).star (framed_box (by decide))).star (framed_mark _ _)).star (framed_store _ _ _ _ _)
theorem tick_LP9 {W : WorldM} (hW : W.Ok) : TF p (LP9 p x W) (LP9 p x (tickW W)) := TF.ex fun _ => TF.ex fun _ => (((TF.world hW).star (framed_box (by decide))).star (framed_mark _ _)).star (framed_store _ _ _ _ _)
theorem framed_LP10 (W : WorldM) : Framed (LP10 p x W) := Framed.ex fun _ => ((framed_worldIs p _).star (framed_box (by decide))).star (framed_store _ _ _ _ _)
theorem tick_LP10 {W : WorldM} (hW : W.Ok) : TF p (LP10 p x W) (LP10 p x (tickW W)) := TF.ex fun _ => ((TF.world hW).star (framed_box (by decide))).star (framed_store _ _ _ _ _)
theorem framed_LP11 (W : WorldM) : Framed (LP11 p x W) := Framed.ex fun _ => ((framed_worldIs p _).star (framed_box (by decide))).star (framed_store _ _ _ _ _)
theorem tick_LP11 {W : WorldM} (hW : W.Ok) : TF p (LP11 p x W) (LP11 p x (tickW W)) := TF.ex fun _ => ((TF.world hW).star (framed_box (by decide))).star (framed_store _ _ _ _ _)
theorem framed_LP12 (W : WorldM) : Framed (LP12 p x W) := Framed.ex fun _ => (((framed_worldIs p _).star (framed_put _ _ _ _ _ _ _ _)).star framed_pboxes).star (framed_store _ _ _ _ _)
theorem tick_LP12 {W : WorldM} (hW : W.Ok) : TF p (LP12 p x W) (LP12 p x (tickW W)) := TF.ex fun _ => (((TF.world hW).star (framed_put _ _ _ _ _ _ _ _)).star framed_pboxes).star (framed_store _ _ _ _ _)
theorem framed_LP13 (W : WorldM) : Framed (LP13 p x W) := Framed.ex fun _ => (((framed_worldIs p _).star (framed_put _ _ _ _ _ _ _ _)).star framed_pboxes).star (framed_store _ _ _ _ _)
theorem tick_LP13 {W : WorldM} (hW : W.Ok) : TF p (LP13 p x W) (LP13 p x (tickW W)) := TF.ex fun _ => (((TF.world hW).star (framed_put _ _ _ _ _ _ _ _)).star framed_pboxes).star (framed_store _ _ _ _ _)
theorem framed_LP14 (W : WorldM) : Framed (LP14 p x W) := Framed.ex fun _ => (((framed_worldIs p _).star (framed_put _ _ _ _ _ _ _ _)).star framed_pboxes).star (framed_store _ _ _ _ _)
theorem tick_LP14 {W : WorldM} (hW : W.Ok) : TF p (LP14 p x W) (LP14 p x (tickW W)) := TF.ex fun _ => (((TF.world hW).star (framed_put _ _ _ _ _ _ _ _)).star framed_pboxes).star (framed_store _ _ _ _ _)
theorem framed_LP15 (W : WorldM) : Framed (LP15 p x W) := Framed.ex fun _ => ((framed_worldIs p _).star framed_pboxes).star (framed_store _ _ _ _ _)
theorem tick_LP15 {W : WorldM} (hW : W.Ok) : TF p (LP15 p x W) (LP15 p x (tickW W)) := TF.ex fun _ => ((TF.world hW).star framed_pboxes).star (framed_store _ _ _ _ _)
theorem framed_LP16 (W : WorldM) : Framed (LP16 p x W) := Framed.ex fun _ => ((framed_worldIs p _).star (framed_mark _ _)).star (framed_store _ _ _ _ _)
theorem tick_LP16 {W : WorldM} (hW : W.Ok) : TF p (LP16 p x W) (LP16 p x (tickW W)) := TF.ex fun _ => ((TF.world hW).star (framed_mark _ _)).star (framed_store _ _ _ _ _)
theorem framed_LP17 (W : WorldM) : Framed (LP17 p x W) := Framed.ex fun _ => ((framed_worldIs p _).star (framed_give _ _)).star (framed_store _ _ _ _ _)
theorem tick_LP17 {W : WorldM} (hW : W.Ok) : TF p (LP17 p x W) (LP17 p x (tickW W)) := TF.ex fun _ => ((TF.world hW).star (framed_give _ _)).star (framed_store _ _ _ _ _)
theorem framed_LP18 (W : WorldM) : Framed (LP18 p x W) := Framed.ex fun _ => (framed_worldIs p _).star (framed_store _ _ _ _ _)
theorem tick_LP18 {W : WorldM} (hW : W.Ok) : TF p (LP18 p x W) (LP18 p x (tickW W)) := TF.ex fun _ => (TF.world hW).star (framed_store _ _ _ _ _)
theorem count_LP0 (W : WorldM) : CountIs p W.cells.count (LP0 p x W) := fun V S ⟨_, h⟩ => by
 obtain ⟨S1, h1, -⟩ := (show Wk _ (WorldIs p W) from (Wk.fst _ _).trans ((Wk.fst _ _).trans (Wk.fst _ _))) V S h
 exact wsteps_any h1
theorem count_LP1 (W : WorldM) : CountIs p W.cells.count (LP1 p x W) := fun V S ⟨_, h⟩ => by
 obtain ⟨S1, h1, -⟩ := (show Wk _ (WorldIs p W) from (Wk.fst _ _).trans ((Wk.fst _ _).trans (Wk.fst _ _))) V S h
 exact wsteps_any h1
theorem count_LP2 (W : WorldM) : CountIs p W.cells.count (LP2 p x W) := fun V S ⟨_, h⟩ => by
 obtain ⟨S1, h1, -⟩ := (show Wk _ (WorldIs p W) from (Wk.fst _ _).trans (Wk.fst _ _)) V S h
 exact wsteps_any h1
theorem count_LP3 (W : WorldM) : CountIs p W.cells.count (LP3 p x W) := fun V S ⟨_, ⟨_, h⟩⟩ => by
 obtain ⟨S1, h1, -⟩ := (show Wk _ (WorldIs p W) from (Wk.fst _ _).trans ((Wk.fst _ _).trans (Wk.fst _ _))) V S h
 exact wsteps_any h1
theorem count_LP4 (W : WorldM) : CountIs p W.cells.count (LP4 p x W) := fun V S ⟨_, ⟨_, h⟩⟩ => by
 obtain ⟨S1, h1, -⟩ := (show Wk _ (WorldIs p W) from (Wk.fst _ _).trans ((Wk.fst _ _).trans (Wk.fst _ _))) V S h
 exact wsteps_any h1
theorem count_LP5 (W : WorldM) : CountIs p W.cells.count (LP5 p x W) := fun V S ⟨_, ⟨_, h⟩⟩ => by
 obtain ⟨S1, h1, -⟩ := (show Wk _ (WorldIs p W) from (Wk.fst _ _).trans ((Wk.fst _ _).trans (Wk.fst _ _))) V S h
 exact wsteps_any h1
theorem count_LP6 (W : WorldM) : CountIs p W.cells.count (LP6 p x W) := fun V S ⟨_, h⟩ => by
 obtain ⟨S1, h1, -⟩ := (show Wk _ (WorldIs p W) from Wk.fst _ _) V S h
 exact wsteps_any h1
theorem count_LP7 (W : WorldM) : CountIs p W.cells.count (LP7 p x W) := fun V S ⟨_, h⟩ => by
 obtain ⟨S1, h1, -⟩ := (show Wk _ (WorldIs p W) from Wk.fst _ _) V S h
 exact wsteps_any h1
theorem count_LP8 (W : WorldM) : CountIs p W.cells.count (LP8 p x W) := fun V S ⟨_, ⟨_, h⟩⟩ => by
 obtain ⟨S1, h1, -⟩ := (show Wk _ (WorldIs p W) from (Wk.fst _ _).trans ((Wk.fst _ _).trans (Wk.fst _ _))) V S h
 exact wsteps_any h1
theorem count_LP9 (W : WorldM) : CountIs p W.cells.count (LP9 p x W) := fun V S ⟨_, ⟨_, h⟩⟩ => by
 obtain ⟨S1, h1, -⟩ := (show Wk _ (WorldIs p W) from (Wk.fst _ _).trans ((Wk.fst _ _).trans (Wk.fst _ _))) V S h
 exact wsteps_any h1
theorem count_LP10 (W : WorldM) : CountIs p W.cells.count (LP10 p x W) := fun V S ⟨_, h⟩ => by
 obtain ⟨S1, h1, -⟩ := (show Wk _ (WorldIs p W) from (Wk.fst _ _).trans (Wk.fst _ _)) V S h
 exact wsteps_any h1
theorem count_LP11 (W : WorldM) : CountIs p W.cells.count (LP11 p x W) := fun V S ⟨_, h⟩ => by
 obtain ⟨S1, h1, -⟩ := (show Wk _ (WorldIs p W) from (Wk.fst _ _).trans (Wk.fst _ _)) V S h
 exact wsteps_any h1
theorem count_LP12 (W : WorldM) : CountIs p W.cells.count (LP12 p x W) := fun V S ⟨_, h⟩ => by
 obtain ⟨S1, h1, -⟩ := (show Wk _ (WorldIs p W) from (Wk.fst _ _).trans ((Wk.fst _ _).trans (Wk.fst _ _))) V S h
 exact wsteps_any h1
theorem count_LP13 (W : WorldM) : CountIs p W.cells.count (LP13 p x W) := fun V S ⟨_, h⟩ => by
 obtain ⟨S1, h1, -⟩ := (show Wk _ (WorldIs p W) from (Wk.fst _ _).trans ((Wk.fst _ _).trans (Wk.fst _ _))) V S h
 exact wsteps_any h1
theorem count_LP14 (W : WorldM) : CountIs p W.cells.count (LP14 p x W) := fun V S ⟨_, h⟩ => by
 obtain ⟨S1, h1, -⟩ := (show Wk _ (WorldIs p W) from (Wk.fst _ _).trans ((Wk.fst _ _).trans (Wk.fst _ _))) V S h
 exact wsteps_any h1
theorem count_LP15 (W : WorldM) : CountIs p W.cells.count (LP15 p x W) := fun V S ⟨_, h⟩ => by
 obtain ⟨S1, h1, -⟩ := (show Wk _ (WorldIs p W) from (Wk.fst _ _).trans (Wk.fst _ _)) V S h
 exact wsteps_any h1
theorem count_LP16 (W : WorldM) : CountIs p W.cells.count (LP16 p x W) := fun V S ⟨_, h⟩ => by
 obtain ⟨S1, h1, -⟩ := (show Wk _ (WorldIs p W) from (Wk.fst _ _).trans (Wk.fst _ _)) V S h
 exact wsteps_any h1
theorem count_LP17 (W : WorldM) : CountIs p W.cells.count (LP17 p x W) := fun V S ⟨_, h⟩ => by
 obtain ⟨S1, h1, -⟩ := (show Wk _ (WorldIs p W) from (Wk.fst _ _).trans (Wk.fst _ _)) V S h
 exact wsteps_any h1
theorem count_LP18 (W : WorldM) : CountIs p W.cells.count (LP18 p x W) := fun V S ⟨_, h⟩ => by
 obtain ⟨S1, h1, -⟩ := (show Wk _ (WorldIs p W) from Wk.fst _ _) V S h
 exact wsteps_any h1
end Go.Proofs.YtnkkoicbnbjlnaaGreatDoor.Tk
