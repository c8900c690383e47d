/- machines: the first pick of a call at one connection. No condition. And what goes with it (2 texts). -/
import Derived.Test.YtnkkoicbnbjlnaaGreatDoorMgA
import Derived.Test.YtnkkoicbnbjlnaaGreatDoorLowA
namespace Go.Proofs.YtnkkoicbnbjlnaaGreatDoor.One
set_option maxRecDepth 100000
set_option maxHeartbeats 8000000
open Go.RowKit Go.ChangeMaps Go.MapKept
theorem pickFirst_any {w : World} {n₀ mp wp tb tc c0 n : Nat} {rest : List Value} {cv : Value} {cm : ConnM} {m : StM} {W : WorldM} {R : Thing} {Y1 : Nat → Thing} {S : Nat → Prop} (hz : storeCells .nilIface .nilFunc .nilFunc m = [.nilIface, .nilFunc, .nilFunc, .int .u8 3, sv m.key, sv m.value, .int .u32 (m.flags : Int), .int .i64 m.exp, .int .u64 (m.id : Int), .int .u64 (m.by' : Int), .int .u64 (m.h : Int), .int .i64 0, .int .i64 0, .int .i64 0, .int .u8 0, .int .u64 0, .string ⟨#[]⟩, .string ⟨#[]⟩, .int .u32 0, .int .u64 0, .int .i64 0, .int .i64 0, .int .u64 0, .int .i64 0]) (hh : m.h = hashN m.key)
  (hk : m.key.length ≤ maxLen) (hv : m.value.length ≤ maxLen) (hok : okB m.key = true) (hr : roomB m.value.length = true) (hR : Framed R) (hY1 : ∀ x, Framed (Y1 x)) (hgood : GoodM cm) (hcall : (callCells (nextC cm)).toArray = #[.int .u8 3, sv m.key, sv m.value, .int .u32 (m.flags : Int), .int .i64 m.exp, .int .u64 (m.id : Int), .int .u64 (m.by' : Int)]) (his : (nextM cm).isSome = true) (hW : W.cells.count = n)
  (h : Star (Star (Star R (ConnT n₀ c0 cm)) (MachB mp wp tb tc 1 (thCells c0 call7 .nilIface 0 ++ rest) cv)) (WorldIs wp W) w S) (hs : ∀ x, StepTo x wp false (Star (WorldIs wp W) (NewSt 0 m x)) (Y1 x)) (hc' : ∀ x, CountIs wp (n + 1) (Y1 x)) :
  Calls Tryz.prog 48 #[ptrN mp, .int .i64 0] w fun e w' => DidE e ∧ Stp (fun V S => ∃ x, Star (Star (Star R (ConnT n₀ c0 (tookM cm))) (MachB mp wp tb tc 1 (thCells c0 [.int .u8 3, sv m.key, sv m.value, .int .u32 (m.flags : Int), .int .i64 m.exp, .int .u64 (m.id : Int), .int .u64 (m.by' : Int)] (.iface 209 (ptrN x)) n ++ rest) cv)) (Y1 x) V S) S w w' := by
 have hF : Framed (Star (Star R (ConnT n₀ c0 cm)) (MachB mp wp tb tc 1 (thCells c0 call7 .nilIface 0 ++ rest) cv)) := (hR.star (framed_connT _ _ _)).star (framed_mach _ _ _ _ _ _ _)
 have hFW : Framed (WorldIs wp W) := framed_worldIs _ _
 obtain ⟨n1, hn1⟩ := xE (n + 1)
 rw [← hn1] at hc'
 have hsub : IntKind.i64.wrap ((n1 : Int) - (n : Int)) = 1 := by rw [hn1]; exact IntWalk.i64_in _ (by omega) |>.trans (by omega)
 obtain ⟨w1, hw1⟩ := xE (w.alloc (.cells #[.int .i64 0, .int .i64 0, .bool false, .int .u8 0, .int .u64 0, .string ⟨#[]⟩, .string ⟨#[]⟩, .int .u32 0, .int .u64 0, .int .i64 0, .int .i64 0] 75))
 have hb1 : Below w.heap.size w w1 := bal hw1
 obtain ⟨rb, hrb⟩ := xE (w.heap.size)
 have hq1 : w1.heap[rb]? = some (.cells #[.int .i64 0, .int .i64 0, .bool false, .int .u8 0, .int .u64 0, .string ⟨#[]⟩, .string ⟨#[]⟩, .int .u32 0, .int .u64 0, .int .i64 0, .int .i64 0] 75 (0, 0)) := by rw [hw1, hrb]; exact heap_mem w _
 have hs1 := (hF.star hFW).below h hb1
 have hr1 := hs1.mach
 have c0' := hr1.c0
 have c1 := hr1.c1
 obtain ⟨t0, -⟩ := hr1.th 0 _ rfl
 obtain ⟨t8, -⟩ := hr1.th 8 .nilIface rfl
 have HCT := hidZ (show Calls Tryz.prog 49 #[ptrN wp] w1 fun e w' => e = .returned (.int .i64 (n : Int)) ∧ w1 = w' from by
  obtain ⟨T1, T2, a1, a2, -⟩ := hs1
  rw [← hW]
  exact wsteps_any a2)
 have HNX := hidZ (show Calls Tryz.prog 71 #[ptrN c0] w1 fun e w' => e = .returned (.tuple #[.agg #[.int .u8 3, sv m.key, sv m.value, .int .u32 (m.flags : Int), .int .i64 m.exp, .int .u64 (m.id : Int), .int .u64 (m.by' : Int)], .bool true]) ∧ Stp (Star (Star (Star R (ConnT n₀ c0 (tookM cm))) (MachB mp wp tb tc 1 (thCells c0 call7 .nilIface 0 ++ rest) cv)) (WorldIs wp W)) S w1 w' from by
  obtain ⟨T1, T2, ⟨T3, T4, ⟨T5, T6, a1, a2, a3, a4⟩, b2, b3, b4⟩, d2, d3, d4⟩ := hs1
  refine (next_is a2 hgood).mono ?_
  rintro e w' ⟨rfl, hst⟩
  rw [hcall, his]
  have e1 : Stp (Star R (ConnT n₀ c0 (tookM cm))) T3 w1 w' := Stp.right hR (framed_connT _ _ _) a1 a2 a3 a4 hst
  have e2 := Stp.left (framed_mach _ _ _ _ _ _ _) (hR.star (framed_connT _ _ _)) ⟨T5, T6, a1, a2, a3, a4⟩ b2 b3 b4 e1
  exact ⟨rfl, Stp.left hFW ((hR.star (framed_connT _ _ _)).star (framed_mach _ _ _ _ _ _ _)) ⟨T3, T4, ⟨T5, T6, a1, a2, a3, a4⟩, b2, b3, b4⟩ d2 d3 d4 e2⟩)
 have HNR0 := hidZ (show ¬ S rb from fun e => absurd (hrb ▸ (hF.star hFW).lt h e) (Nat.lt_irrefl _))
 have HR := hidZ (And.intro hR hFW)
 have HQ0 := hidZ hq1
 have HB1 := hidZ hb1
 have HST0 := hidZ (And.intro hs (And.intro hc' hY1))
 have HMK := hidZ (fun W : World => maker1_any m hz hh hk hv hok hr W)
 have hix : ∀ W : World, (Instr.indexAt 77 (.slice (some ⟨tb, 0, none⟩) 1 tc) (.int .i64 0)).run Tryz.prog W = .ok (.pointer (some ⟨tb, 0, none⟩)) W := fun W => by
  have h := idx_thread (g := tb) (o := 0) (n := 1) (c := tc) (k := 0) (by omega) W
  simpa using h
 have qn := doEqNil
 have qf := funcEq
 have hm : ∀ n, n = Tryz.prog.types.size + Made.depth → ∀ (x : Nat) (W : World), (method n 209 (ptrN x) "Step").run Tryz.prog W = .ok (398, ptrN x) W := by
  rintro n rfl
  exact fun _ _ => by kernel_rfl
 have HRL0 := hidZ (show rb < w1.heap.size from (Array.getElem?_eq_some_iff.1 hq1).1)
 have HRB := hidZ hrb
 clear h hs hc' hR hY1 hF hFW hs1 hr1 hb1 hq1 hn1 hz hh hk hv hok hr hgood hcall his hW
 go_enter Tryz.func48, Tryz.ntmps48
 go_upto_region 1 with fail
 rw [← hw1, ← hrb]
 clear hw1 hrb
 go_upto_region 4 with (first
  | (go_at_call 49; refine HCT.out.mono ?_; rintro e w' ⟨rfl, rfl⟩)
  | fail)
 clear HCT
 go_wp2_with fail
 refine HNX.out.mono ?_
 rintro e w2 ⟨rfl, S2, hs2, hc2, hk2⟩
 obtain ⟨qb, hqb⟩ := xE (w2.heap.size)
 obtain ⟨w3, hw3⟩ := xE (w2.alloc (.cells #[.int .u8 3, sv m.key, sv m.value, .int .u32 (m.flags : Int), .int .i64 m.exp, .int .u64 (m.id : Int), .int .u64 (m.by' : Int)] 26))
 have hb3 : Below w2.heap.size w2 w3 := bal hw3
 have hq3 : w3.heap[qb]? = some (.cells #[.int .u8 3, sv m.key, sv m.value, .int .u32 (m.flags : Int), .int .i64 m.exp, .int .u64 (m.id : Int), .int .u64 (m.by' : Int)] 26 (0, 0)) := by rw [hw3, hqb]; exact heap_mem w2 _
 have y0 : w3.cell? ⟨qb, 0, none⟩ = some (.int .u8 3) := (cellsAt hq3 0).1
 have HS3 := hidZ (((HR.out.1.star (framed_connT _ _ _)).star (framed_mach _ _ _ _ _ _ _)).star HR.out.2 |>.below hs2 hb3)
 have HC3 := hidZ (show Chg S w w3 ∧ (∀ k, S2 k → S k ∨ w.heap.size ≤ k) ∧ ¬ S2 rb ∧ rb < w3.heap.size ∧ w3.heap[rb]? = some (.cells #[.int .i64 0, .int .i64 0, .bool false, .int .u8 0, .int .u64 0, .string ⟨#[]⟩, .string ⟨#[]⟩, .int .u32 0, .int .u64 0, .int .i64 0, .int .i64 0] 75 (0, 0)) from by
  have e1 := HB1.out.size
  have e2 := hc2.size
  have e3 := HRL0.out
  have hnr : ¬ S2 rb := fun e => (hk2 rb e).elim HNR0.out (fun e => by omega)
  exact ⟨((Chg.of_below HB1.out).trans hc2).trans (Chg.of_below hb3), fun k hk => (hk2 k hk).imp (fun e => e) (fun e => by omega), hnr, by have := hb3.size; omega, boxAt (hc2.obj HQ0.out HNR0.out) hb3⟩)
 have HQ3 := hidZ hq3
 clear hs2 hc2 hk2 hb3 hq3 c0' c1 t0 t8 HNX HQ0 HNR0 HRL0
 go_upto_region 5 with fail
 rw [← hw3, ← hqb]
 clear hw3 hqb
 refine wp_region_held_drew (S := fun V => V.cell? ⟨qb, 0, none⟩ = some (.int .u8 3)) (by kernel_rfl) y0 (fun hHe => ?_)
 refine tkz 1 rfl ?_
 try simp only [Act.put, tzA, tzD]
 refine tkz 2 rfl ?_
 try simp only [tp, tz]
 refine rdy 0 rfl (fun K hK => ?_)
 go_simp
 go_at_call 72
 refine (makers_any _).mono ?_
 rintro e w4 ⟨rfl, hw4⟩
 refine hK.out _ _ (by rw [hw4]; exact ((Below.refl _ w3.drew).alloc (Nat.le_refl _) _ |>.cell (p := ⟨qb, 0, none⟩) (cell_lt hHe)).trans hHe) (fun hHf => ?_)
 clear hK K
 try simp only [tp, tz]
 have hb4 : Below w3.heap.size w3 w4 := by rw [hw4]; exact (low_drew1 (Below.refl _ _)).alloc (Nat.le_refl _) _
 have hlk := makers_look w4 w3.heap.size (by rw [hw4]; exact heap_mem w3.drew _)
 clear hw4
 refine rdy 3 rfl (fun K hK => ?_)
 go_simp
 refine hK.out _ _ hHf (fun hHf => ?_)
 clear hK K
 try simp only [tp, tz]
 refine tkz 4 rfl ?_
 try simp only [tp, tz]
 refine wpAnyH_done (by kernel_rfl) ?_ _
 have HS4 := hidZ (((HR.out.1.star (framed_connT _ _ _)).star (framed_mach _ _ _ _ _ _ _)).star HR.out.2 |>.below HS3.out hb4)
 have HC4 := hidZ (show Chg S w w4 ∧ rb < w4.heap.size ∧ w4.heap[rb]? = some (.cells #[.int .i64 0, .int .i64 0, .bool false, .int .u8 0, .int .u64 0, .string ⟨#[]⟩, .string ⟨#[]⟩, .int .u32 0, .int .u64 0, .int .i64 0, .int .i64 0] 75 (0, 0)) from ⟨HC3.out.1.trans (Chg.of_below hb4), Nat.lt_of_lt_of_le HC3.out.2.2.2.1 hb4.size, boxAt HC3.out.2.2.2.2 hb4⟩)
 have r4 : w4.rangeAt qb 0 [.int .u8 3, sv m.key, sv m.value, .int .u32 (m.flags : Int), .int .i64 m.exp, .int .u64 (m.id : Int), .int .u64 (m.by' : Int)] := World.rangeAt_of_cells (boxAt HQ3.out hb4)
 have HQ4 := hidZ (boxAt HQ3.out hb4)
 clear hb4 hlk y0 HS3 HQ3
 go_upto_region 8 with fail
 refine wp_region_held_drew (S := fun V => V.rangeAt qb 0 [.int .u8 3, sv m.key, sv m.value, .int .u32 (m.flags : Int), .int .i64 m.exp, .int .u64 (m.id : Int), .int .u64 (m.by' : Int)]) (by kernel_rfl) r4 (fun hHe => ?_)
 refine tkz 0 rfl ?_
 try simp only [tp, tz]
 refine tkz 1 rfl ?_
 try simp only [tp, tz]
 refine tkz 2 rfl ?_
 try simp only [tp, tz]
 refine wpAnyH_take (i := 3) rfl (by kernel_rfl) (by kernel_rfl) (by kernel_rfl) (fun _ _ _ h => h) (yieldsIf_load_mid (by rfl) 26 (.tmp 7) (by rfl) qb 0 (by rfl) [.int .u8 3, sv m.key, sv m.value, .int .u32 (m.flags : Int), .int .i64 m.exp, .int .u64 (m.id : Int), .int .u64 (m.by' : Int)] _ (fun w hSw => hSw) Tryz.underlying26 rfl (by kernel_rfl)) (by assumption) ?_
 try simp only [tp, tz]
 refine tkz 4 rfl ?_
 try simp only [tp, tz]
 refine tkz 5 rfl ?_
 try simp only [tp, tz]
 refine tkz 6 rfl ?_
 try simp only [tp, tz]
 refine wpAnyH_take (i := 7) rfl (by kernel_rfl) (by kernel_rfl) (by kernel_rfl) (fun _ _ _ h => h) (yieldsIf_load_mid (by rfl) 26 (.tmp 7) (by rfl) qb 0 (by rfl) [.int .u8 3, sv m.key, sv m.value, .int .u32 (m.flags : Int), .int .i64 m.exp, .int .u64 (m.id : Int), .int .u64 (m.by' : Int)] _ (fun w hSw => hSw) Tryz.underlying26 rfl (by kernel_rfl)) (by assumption) ?_
 try simp only [tp, tz]
 refine rdy 8 rfl (fun K hK => ?_)
 go_simp
 refine (HMK.out _).mono ?_
 rintro e w5 ⟨x, rfl, hm5⟩
 refine hK.out _ _ (range_below hHe hm5.2) (fun hHf => ?_)
 clear hK K
 try simp only [tp, tz]
 have hFA : Framed (Star (Star R (ConnT n₀ c0 (tookM cm))) (MachB mp wp tb tc 1 (thCells c0 call7 .nilIface 0 ++ rest) cv)) := (HR.out.1.star (framed_connT _ _ _)).star (framed_mach _ _ _ _ _ _ _)
 have hFY : Framed (Star (WorldIs wp W) (NewSt 0 m x)) := HR.out.2.star (framed_newSt _ _ _)
 obtain ⟨S5, hs5, hc5, hk5⟩ := (made_in hFA HR.out.2 (Star.drew hFA HR.out.2 HS4.out) hm5).wk (B := Star (Star (Star R (ConnT n₀ c0 (tookM cm))) (MachB mp wp tb tc 1 (thCells c0 call7 .nilIface 0 ++ rest) cv)) (Star (WorldIs wp W) (NewSt 0 m x))) ((Wk.assoc _ _ _).trans (Wk.star (Wk.refl _) (Wk.comm _ _)))
 have hr5 := hs5.mach
 have htg := hs5.machTag
 have hne : ¬ qb = tb := fun e => absurd ((Tag.of (boxAt (W := w4.drew) HQ4.out hm5.2)).one (e ▸ htg)) (by decide)
 obtain ⟨w6, hw6⟩ := xE (w5.setCells tb 1 [.int .u8 3, sv m.key, sv m.value, .int .u32 (m.flags : Int), .int .i64 m.exp, .int .u64 (m.id : Int), .int .u64 (m.by' : Int)])
 obtain ⟨g1, d1⟩ := mach_set (w' := w5.setCells tb 1 [.int .u8 3, sv m.key, sv m.value, .int .u32 (m.flags : Int), .int .i64 m.exp, .int .u64 (m.id : Int), .int .u64 (m.by' : Int)]) (th' := thCells c0 [.int .u8 3, sv m.key, sv m.value, .int .u32 (m.flags : Int), .int .i64 m.exp, .int .u64 (m.id : Int), .int .u64 (m.by' : Int)] .nilIface 0 ++ rest) (HR.out.1.star (framed_connT _ _ _)) hFY hs5 (fun S' h => RowB.setMany [.int .u8 3, sv m.key, sv m.value, .int .u32 (m.flags : Int), .int .i64 m.exp, .int .u64 (m.id : Int), .int .u64 (m.by' : Int)] [ptrN c0] call7 ([.nilIface, .int .i64 0] ++ rest) rfl h)
 rw [← hw6] at g1 d1
 obtain ⟨w7, hw7⟩ := xE (w6.setCell ⟨tb, 9, none⟩ (.int .i64 (n : Int)))
 obtain ⟨g2, d2⟩ := mach_set (w' := w6.setCell ⟨tb, 9, none⟩ (.int .i64 (n : Int))) (th' := thCells c0 [.int .u8 3, sv m.key, sv m.value, .int .u32 (m.flags : Int), .int .i64 m.exp, .int .u64 (m.id : Int), .int .u64 (m.by' : Int)] .nilIface n ++ rest) (HR.out.1.star (framed_connT _ _ _)) hFY g1 (fun S' h => h.set 9 (.int .i64 (n : Int)) (by simp [thCells]))
 rw [← hw7] at g2 d2
 obtain ⟨w8, hw8⟩ := xE (w7.setCell ⟨tb, 8, none⟩ (.iface 209 (ptrN x)))
 obtain ⟨g3, d3⟩ := mach_set (w' := w7.setCell ⟨tb, 8, none⟩ (.iface 209 (ptrN x))) (th' := thCells c0 [.int .u8 3, sv m.key, sv m.value, .int .u32 (m.flags : Int), .int .i64 m.exp, .int .u64 (m.id : Int), .int .u64 (m.by' : Int)] (.iface 209 (ptrN x)) n ++ rest) (HR.out.1.star (framed_connT _ _ _)) hFY g2 (fun S' h => h.set 8 (.iface 209 (ptrN x)) (by simp [thCells]))
 rw [← hw8] at g3 d3
 have hth5 : w5.there tb 1 7 := fun j hj => by
  have h := hr5.th (1 + j) ((thCells c0 call7 .nilIface 0 ++ rest)[1 + j]'(by simp only [thCells, List.length_append, List.length_cons, List.length_nil]; omega)) (List.getElem?_eq_getElem _)
  exact ⟨by rw [h.1]; rfl, h.2⟩
 have n9 := (g1.mach.th 9 (.int .i64 0) rfl).1
 have m9 := (g1.mach.th 9 (.int .i64 0) rfl).2
 have n8 := (g2.mach.th 8 .nilIface rfl).1
 have m8 := (g2.mach.th 8 .nilIface rfl).2
 have hr6 : w6.rangeAt qb 0 [.int .u8 3, sv m.key, sv m.value, .int .u32 (m.flags : Int), .int .i64 m.exp, .int .u64 (m.id : Int), .int .u64 (m.by' : Int)] := by rw [hw6]; exact World.rangeAt_setCells_apart hHf tb 1 [.int .u8 3, sv m.key, sv m.value, .int .u32 (m.flags : Int), .int .i64 m.exp, .int .u64 (m.id : Int), .int .u64 (m.by' : Int)] (.inl hne)
 have hr7 : w7.rangeAt qb 0 [.int .u8 3, sv m.key, sv m.value, .int .u32 (m.flags : Int), .int .i64 m.exp, .int .u64 (m.id : Int), .int .u64 (m.by' : Int)] := by rw [hw7]; exact range_keep hr6 (Chg.set (M := fun k => k = tb) (Chg.refl _ _) (fun _ => rfl) _) hne
 have hr8 : w8.rangeAt qb 0 [.int .u8 3, sv m.key, sv m.value, .int .u32 (m.flags : Int), .int .i64 m.exp, .int .u64 (m.id : Int), .int .u64 (m.by' : Int)] := by rw [hw8]; exact range_keep hr7 (Chg.set (M := fun k => k = tb) (Chg.refl _ _) (fun _ => rfl) _) hne
 have hsi := fun (t : Nat) (v : Value) (a : Addr) (w : World) => run_store Tryz.prog w a (.iface t v) .plain rfl
 have HW8 := hidZ (show Star (Star (Star R (ConnT n₀ c0 (tookM cm))) (MachB mp wp tb tc 1 (thCells c0 [.int .u8 3, sv m.key, sv m.value, .int .u32 (m.flags : Int), .int .i64 m.exp, .int .u64 (m.id : Int), .int .u64 (m.by' : Int)] (.iface 209 (ptrN x)) n ++ rest) cv)) (Star (WorldIs wp W) (NewSt 0 m x)) _ S5 from g3)
 have HC8 := hidZ (And.intro (hc5.then (d1.trans (d2.trans d3)) (fun k hk e => (hk5 k e).elim (fun e => e) (fun e' => absurd hk (by have : w4.drew.heap.size = w4.heap.size := rfl; omega)))) hk5)
 have HN98 := hidZ (And.intro (And.intro n9 m9) (And.intro n8 m8))
 have HW6 := hidZ hw6
 have HW7 := hidZ hw7
 have HW8x := hidZ hw8
 clear hs5 hc5 hk5 hr5 htg g1 d1 g2 d2 g3 d3 hFA hFY hm5 HMK HS4 n9 m9 n8 m8 hw6 hw7 hw8
 refine tkz 9 rfl ?_
 try simp only [tp, tz]
 refine tkz 10 rfl ?_
 try simp only [tp, tz]
 refine rdy 11 rfl (fun K hK => ?_)
 rw [if_pos (by rfl)]
 refine wp_store_mid 26 (.tmp 60) (.tmp 53) (by rfl) tb 1 #[.int .u8 3, sv m.key, sv m.value, .int .u32 (m.flags : Int), .int .i64 m.exp, .int .u64 (m.id : Int), .int .u64 (m.by' : Int)] (by rfl) (by rfl) hth5 (by kernel_rfl) (by simp [Value.oneCell']) ?_
 refine hK.out _ _ (by have h := hr6; rw [HW6.out] at h; exact h) (fun hHf => ?_)
 clear hK K
 try simp only [Act.put, tzD, tzE, tzF]
 rw [show w5.setCells tb 1 (#[.int .u8 3, sv m.key, sv m.value, .int .u32 (m.flags : Int), .int .i64 m.exp, .int .u64 (m.id : Int), .int .u64 (m.by' : Int)] : Array Value).toList = w6 from HW6.out.symm]
 clear HW6 hHf
 have hHf := hr6
 obtain ⟨⟨n9, m9⟩, -⟩ := HN98.out
 refine tkz 12 rfl ?_
 try simp only [tp, tz]
 refine tkz 13 rfl ?_
 try simp only [tp, tz]
 refine rdy 14 rfl (fun K hK => ?_)
 go_simp
 refine hK.out _ _ (by have h := hr7; rw [HW7.out] at h; exact h) (fun hHf => ?_)
 clear hK K
 try simp only [tp, tz]
 rw [← HW7.out]
 clear HW7 n9 m9 hHf
 have hHf := hr7
 obtain ⟨-, n8, m8⟩ := HN98.out
 refine tkz 15 rfl ?_
 try simp only [tp, tz]
 refine tkz 16 rfl ?_
 try simp only [tp, tz]
 refine rdy 17 rfl (fun K hK => ?_)
 go_simp
 refine hK.out _ _ (by have h := hr8; rw [HW8x.out] at h; exact h) (fun hHf => ?_)
 clear hK K
 try simp only [tp, tz]
 rw [← HW8x.out]
 clear HW8x hHf
 have hHf := hr8
 refine wpAnyH_done (by kernel_rfl) ?_ _
 obtain ⟨T1, T2, a1, a2, a3, a4⟩ := Star.drew ((HR.out.1.star (framed_connT _ _ _)).star (framed_mach _ _ _ _ _ _ _)) (HR.out.2.star (framed_newSt _ _ _)) HW8.out
 have hr9 := HW8.out.mach
 have c0' := hr9.c0
 have t8 := (hr9.th 8 (.iface 209 (ptrN x)) rfl).1
 have HTH := hidZ (show (thCells c0 [.int .u8 3, sv m.key, sv m.value, .int .u32 (m.flags : Int), .int .i64 m.exp, .int .u64 (m.id : Int), .int .u64 (m.by' : Int)] (.iface 209 (ptrN x)) n ++ rest)[8]? = some (.iface 209 (ptrN x)) from rfl)
 have HF := hidZ (show Framed (Star (Star R (ConnT n₀ c0 (tookM cm))) (MachB mp wp tb tc 1 (thCells c0 [.int .u8 3, sv m.key, sv m.value, .int .u32 (m.flags : Int), .int .i64 m.exp, .int .u64 (m.id : Int), .int .u64 (m.by' : Int)] (.iface 209 (ptrN x)) n ++ rest) cv)) ∧ Framed (Y1 x) from ⟨(HR.out.1.star (framed_connT _ _ _)).star (framed_mach _ _ _ _ _ _ _), HST0.out.2.2 x⟩)
 have HST := hidZ (show Calls Tryz.prog 398 #[ptrN x, ptrN wp] w8.drew fun e w' => e = .returned (.bool false) ∧ Stp (Star (Star (Star R (ConnT n₀ c0 (tookM cm))) (MachB mp wp tb tc 1 (thCells c0 [.int .u8 3, sv m.key, sv m.value, .int .u32 (m.flags : Int), .int .i64 m.exp, .int .u64 (m.id : Int), .int .u64 (m.by' : Int)] (.iface 209 (ptrN x)) n ++ rest) cv)) (Y1 x)) S5 w8.drew w' from by
  refine (HST0.out.1 x w8.drew T2 a2).mono ?_
  rintro e w' ⟨rfl, hst⟩
  exact ⟨rfl, Stp.right HF.out.1 (HR.out.2.star (framed_newSt _ _ _)) a1 a2 a3 a4 hst⟩)
 have HC' := hidZ (HST0.out.2.1 x)
 have hz4 : w4.drew.heap.size = w4.heap.size := rfl
 have HNR := hidZ (show ¬ S5 rb from fun e => (HC8.out.2 rb e).elim HC3.out.2.2.1 (fun e => by have := HC4.out.2.1; omega))
 have HQ1 := hidZ (show w8.heap[rb]? = some (.cells #[.int .i64 0, .int .i64 0, .bool false, .int .u8 0, .int .u64 0, .string ⟨#[]⟩, .string ⟨#[]⟩, .int .u32 0, .int .u64 0, .int .i64 0, .int .i64 0] 75 (0, 0)) from HC8.out.1.obj (w := w4.drew) HC4.out.2.2 HC3.out.2.2.1)
 have HRL := hidZ (show rb < w8.heap.size from (Array.getElem?_eq_some_iff.1 HQ1.out).1)
 have HCW := hidZ (show Chg S w w8 ∧ ∀ k, S5 k → S k ∨ w.heap.size ≤ k from by
  have e1 := HC4.out.1.size
  exact ⟨HC4.out.1.then ((Chg.refl S2 w4).drew.trans HC8.out.1) (fun k hk e => (HC3.out.2.1 k e).elim (fun e => e) (fun e => by omega)), fun k hk => (HC8.out.2 k hk).elim (HC3.out.2.1 k) (fun e => .inr (by omega))⟩)
 have qs := doEqSome 209 x
 clear a1 a2 a3 a4 hr9 hHf HW8 HC8 HC3 HC4 HST0 hHe r4 hr6 hr7 hr8 hth5 hne hz4 n8 m8 hix HQ4
 go_upto_region 9 with fail
 refine wp_region_held_drew (S := fun V => V.cell? ⟨tb, 8, none⟩ = some (.iface 209 (ptrN x)) ∧ V.cell? ⟨mp, 0, none⟩ = some (ptrN wp)) (by kernel_rfl) ⟨t8, c0'⟩ (fun hHe => ?_)
 refine tkz 0 rfl ?_
 try simp only [tp, tz]
 refine tkz 1 rfl ?_
 try simp only [tp, tz]
 refine tkz 2 rfl ?_
 try simp only [tp, tz]
 refine tkw 3 rfl ?_
 try simp only [tp, tz]
 refine tkz 4 rfl ?_
 try simp only [tp, tz]
 refine tkz 5 rfl ?_
 try simp only [tp, tz]
 refine tkz 6 rfl ?_
 try simp only [tp, tz]
 refine tkw 7 rfl ?_
 try simp only [tp, tz]
 refine tkz 8 rfl ?_
 try simp only [tp, tz]
 refine tkz 9 rfl ?_
 try simp only [tp, tz]
 refine rdy 10 rfl (fun K hK => ?_)
 go_simp
 refine HST.out.mono ?_
 rintro e v2 ⟨rfl, T2, hs2, hc2, hk2⟩
 have hr2 := hs2.mach
 refine hK.out _ _ ⟨(hr2.th 8 _ HTH.out).1, hr2.c0⟩ (fun hHf => ?_)
 clear hK K
 try simp only [tp, tz]
 refine tkz 11 rfl ?_
 try simp only [tp, tz]
 refine wpAnyH_done (by kernel_rfl) ?_ _
 have e0 := hr2.c0
 have HC2 := hidZ (show Calls Tryz.prog 49 #[ptrN wp] v2 fun e w' => e = .returned (.int .i64 (n1 : Int)) ∧ v2 = w' from by
  obtain ⟨U1, U2, a1, a2, -⟩ := hs2
  exact HC'.out v2 U2 a2)
 obtain ⟨d3, hd3⟩ := xE (v2.heap.size)
 obtain ⟨v3, hv3⟩ := xE (v2.alloc (.cells #[.int .i64 0, .int .i64 1, .bool false, .int .u8 0, .int .u64 0, .string ⟨#[]⟩, .string ⟨#[]⟩, .int .u32 0, .int .u64 0, .int .i64 0, .int .i64 0] 75))
 have hb3 : Below v2.heap.size v2 v3 := bal hv3
 have hq3 : v3.heap[d3]? = some (.cells #[.int .i64 0, .int .i64 1, .bool false, .int .u8 0, .int .u64 0, .string ⟨#[]⟩, .string ⟨#[]⟩, .int .u32 0, .int .u64 0, .int .i64 0, .int .i64 0] 75 (0, 0)) := by rw [hv3, hd3]; exact heap_mem v2 _
 have hz1 : w8.drew.heap.size = w8.heap.size := rfl
 have hS2 : ¬ T2 rb := fun e => by
  have h1 := HRL.out
  rcases hk2 rb e with e | e
  ·exact HNR.out e
  ·omega
 have hqr2 : v2.heap[rb]? = some (.cells #[.int .i64 0, .int .i64 0, .bool false, .int .u8 0, .int .u64 0, .string ⟨#[]⟩, .string ⟨#[]⟩, .int .u32 0, .int .u64 0, .int .i64 0, .int .i64 0] 75 (0, 0)) := ((Chg.refl S5 w8).drew.trans hc2).obj HQ1.out HNR.out
 have HQR := hidZ (boxAt hqr2 hb3)
 have HQ3 := hidZ hq3
 have HS3 := hidZ ((HF.out.1.star HF.out.2).below hs2 hb3)
 have HZ := hidZ hS2
 have HC3 := hidZ (show Chg S w v3 ∧ ∀ k, T2 k → S k ∨ w.heap.size ≤ k from by
  have e1 := HCW.out.1.size
  have e2 := hc2.size
  exact ⟨(HCW.out.1.then ((Chg.refl S5 w8).drew.trans hc2) (fun k hk e => (HCW.out.2 k e).elim (fun e => e) (fun e' => by omega))).trans (Chg.of_below hb3), fun k hk => (hk2 k hk).elim (HCW.out.2 k) (fun e => .inr (by omega))⟩)
 clear hs2 hc2 hk2 hr2 hb3 hq3 hS2 hqr2 HST hHf t8
 go_upto_region 16 with (first
  | (go_at_call 49; refine HC2.out.mono ?_; rintro e w' ⟨rfl, rfl⟩)
  | fail)
 rw [← hv3, ← hd3]
 clear hv3 hd3
 go_wp2_with (first
  | ((with_reducible show wpList _ _ _ (⟨_, Op.load _ _, _, _, _, _⟩ :: _) _ _); refine wpList_load_row (by rfl) 75 (.tmp 11) (by rfl) d3 (by rfl) 75 _ _ _ HQ3.out Tryz.underlying75 rfl (by kernel_rfl) ?_)
  | ((with_reducible show wpList _ _ _ (⟨none, Op.store _ _ _, _, _, _, _⟩ :: _) _ _); refine wpList_store_whole (by rfl) 75 (.tmp 4) (.tmp 134) (by rfl) rb (by rfl) #[.int .i64 0, .int .i64 1, .bool false, .int .u8 0, .int .u64 0, .string ⟨#[]⟩, .string ⟨#[]⟩, .int .u32 0, .int .u64 0, .int .i64 0, .int .i64 0] (by rfl) _ 75 HQR.out (by rfl) (by kernel_rfl) (by simp [Value.oneCell']) ?_; intro w4 hr4 hg4 hz4)
  | ((with_reducible show bodyPost _ _ _ Exit.ret _ _); exact bodyPost_ret (results_cell_row (by exact Tryz.results48) _ _ rb _ _ _ _ (by rfl) hr4 Tryz.underlying75 rfl (by kernel_rfl)) rfl (by
    have hc4 : Chg (fun k => k = rb) v3 w4 := Chg.of_grown hg4 (fun _ _ e => (Option.some.inj e).symm)
    refine ⟨⟨_, _, _, _, _, rfl⟩, T2, ⟨x, keep_box (HF.out.1.star HF.out.2) HS3.out hc4 HZ.out (Tag.of HQR.out) (by decide)⟩, HC3.out.1.then hc4 (fun k hk e => ?_), HC3.out.2⟩
    have := HRB.out
    omega))
  | fail)
theorem pickLast_any {w : World} {n₀ mp wp tb tc x n f B K c0 : Nat} {kd nm ep pt : Int} {m : StM} {cm : ConnM} {rest : List Value} {R Y Y' : Thing} {S : Nat → Prop} (hR : Framed R) (hY : Framed Y) (hY' : Framed Y')
  (h : Star (Star (Star R (ConnT n₀ c0 cm)) (MachB mp wp tb tc 1 (thCells c0 [.int .u8 3, sv m.key, sv m.value, .int .u32 (m.flags : Int), .int .i64 m.exp, .int .u64 (m.id : Int), .int .u64 (m.by' : Int)] (.iface 209 (ptrN x)) f ++ rest) (.slice none 0 0))) Y w S)
  (hs : StepTo x wp true Y Y') (hc : CountIs wp n Y) (hc' : CountIs wp (n + 1) Y')
  (hgot : ∀ V S0, Y' V S0 → Calls Tryz.prog 396 #[ptrN x] V fun e w' => e = .returned (.tuple #[.agg #[.int .u8 kd, .int .u64 nm, .string ⟨#[]⟩, .string ⟨#[]⟩, .int .u32 0, .int .u64 0, .int .i64 0, .int .i64 0], .int .u64 ep, .int .i64 pt]) ∧ Below V.heap.size V w')
  (hE : EnvP n₀ w) (hn : n₀ ≤ w.heap.size) (hlow : ∀ k, S k → n₀ ≤ k) (hf : FitM B K cm) (hB : B ≤ 1000000) (hK : K ≤ 1000000000000) (hok : (⟨kd, nm, ⟨⟨#[]⟩, ⟨#[]⟩, 0, 0, 0, 0⟩⟩ : AnsD).Ok) :
  Calls Tryz.prog 48 #[ptrN mp, .int .i64 0] w fun e w' => DidE e ∧ Stp (fun V S => ∃ cv, Star (Star (Star R (ConnT n₀ c0 (afterM cm ⟨kd, nm, ⟨⟨#[]⟩, ⟨#[]⟩, 0, 0, 0, 0⟩⟩))) (MachB mp wp tb tc 1 (thCells c0 [.int .u8 3, sv m.key, sv m.value, .int .u32 (m.flags : Int), .int .i64 m.exp, .int .u64 (m.id : Int), .int .u64 (m.by' : Int)] .nilIface f ++ rest) cv)) (Star Y' (DoneRow cv 1 [.int .i64 0, .int .u8 3, sv m.key, sv m.value, .int .u32 (m.flags : Int), .int .i64 m.exp, .int .u64 (m.id : Int), .int .u64 (m.by' : Int), .int .i64 (f : Int), .int .i64 ((n + 1 : Nat) : Int), .int .u8 kd, .int .u64 nm, .string ⟨#[]⟩, .string ⟨#[]⟩, .int .u32 0, .int .u64 0, .int .i64 0, .int .i64 0, .int .u64 ep, .int .i64 pt])) V S) S w w' := by
 have hFRC : Framed (Star R (ConnT n₀ c0 cm)) := hR.star (framed_connT _ _ _)
 have hF : Framed (Star (Star R (ConnT n₀ c0 cm)) (MachB mp wp tb tc 1 (thCells c0 [.int .u8 3, sv m.key, sv m.value, .int .u32 (m.flags : Int), .int .i64 m.exp, .int .u64 (m.id : Int), .int .u64 (m.by' : Int)] (.iface 209 (ptrN x)) f ++ rest) (.slice none 0 0))) := hFRC.star (framed_mach _ _ _ _ _ _ _)
 obtain ⟨n1, hn1⟩ := xE (n + 1)
 rw [← hn1] at hc' ⊢
 have hsub : IntKind.i64.wrap ((n1 : Int) - (n : Int)) = 1 := by rw [hn1]; exact IntWalk.i64_in _ (by omega) |>.trans (by omega)
 obtain ⟨w1, hw1⟩ := xE (w.alloc (.cells #[.int .i64 0, .int .i64 0, .bool false, .int .u8 0, .int .u64 0, .string ⟨#[]⟩, .string ⟨#[]⟩, .int .u32 0, .int .u64 0, .int .i64 0, .int .i64 0] 75))
 have hb1 : Below w.heap.size w w1 := bal hw1
 obtain ⟨rb, hrb⟩ := xE (w.heap.size)
 have hq1 : w1.heap[rb]? = some (.cells #[.int .i64 0, .int .i64 0, .bool false, .int .u8 0, .int .u64 0, .string ⟨#[]⟩, .string ⟨#[]⟩, .int .u32 0, .int .u64 0, .int .i64 0, .int .i64 0] 75 (0, 0)) := by rw [hw1, hrb]; exact heap_mem w _
 have hs1 := (hF.star hY).below h hb1
 have hr1 := hs1.mach
 have c0' := hr1.c0
 have c1 := hr1.c1
 obtain ⟨t8, -⟩ := hr1.th 8 (.iface 209 (ptrN x)) rfl
 have HCT := hidZ (show Calls Tryz.prog 49 #[ptrN wp] w1 fun e w' => e = .returned (.int .i64 (n : Int)) ∧ w1 = w' from by
  obtain ⟨T1, T2, a1, a2, -⟩ := hs1
  exact hc w1 T2 a2)
 have HST := hidZ (show Calls Tryz.prog 398 #[ptrN x, ptrN wp] w1.drew fun e w' => e = .returned (.bool true) ∧ Stp (Star (Star (Star R (ConnT n₀ c0 cm)) (MachB mp wp tb tc 1 (thCells c0 [.int .u8 3, sv m.key, sv m.value, .int .u32 (m.flags : Int), .int .i64 m.exp, .int .u64 (m.id : Int), .int .u64 (m.by' : Int)] (.iface 209 (ptrN x)) f ++ rest) (.slice none 0 0))) Y') S w1.drew w' from by
  obtain ⟨T1, T2, a1, a2, a3, a4⟩ := Star.drew hF hY hs1
  refine (hs w1.drew T2 a2).mono ?_
  rintro e w' ⟨rfl, hst⟩
  exact ⟨rfl, Stp.right hF hY a1 a2 a3 a4 hst⟩)
 have HS0 := hidZ (show ∀ k, S k → k < rb from fun k hk => hrb ▸ (hF.star hY).lt h hk)
 have HC' := hidZ hc'
 have HF := hidZ (And.intro hF hY')
 have HRY := hidZ (And.intro hR (And.intro hFRC hY'))
 have HGOT := hidZ hgot
 have HENV := hidZ (And.intro hE (And.intro hn hlow))
 have HFIT := hidZ (And.intro hf (And.intro hB (And.intro hK hok)))
 have HQ1 := hidZ hq1
 have HB1 := hidZ hb1
 have hix : ∀ W : World, (Instr.indexAt 77 (.slice (some ⟨tb, 0, none⟩) 1 tc) (.int .i64 0)).run Tryz.prog W = .ok (.pointer (some ⟨tb, 0, none⟩)) W := fun W => by
  have h := idx_thread (g := tb) (o := 0) (n := 1) (c := tc) (k := 0) (by omega) W
  simpa using h
 have qs := doEqSome 209 x
 have hm : ∀ n, n = Tryz.prog.types.size + Made.depth → ∀ (W : World), (method n 209 (ptrN x) "Step").run Tryz.prog W = .ok (398, ptrN x) W := by
  rintro n rfl
  exact fun _ => by kernel_rfl
 have hm2 : ∀ n, n = Tryz.prog.types.size + Made.depth → ∀ (W : World), (method n 209 (ptrN x) "Got").run Tryz.prog W = .ok (396, ptrN x) W := by
  rintro n rfl
  exact fun _ => by kernel_rfl
 have HRL := hidZ (show rb < w1.heap.size from (Array.getElem?_eq_some_iff.1 hq1).1)
 have HRB := hidZ hrb
 clear h hs hc hc' hR hY hY' hF hFRC hs1 hr1 hb1 hq1 hn1 hgot hE hn hlow hf hB hK hok
 go_enter Tryz.func48, Tryz.ntmps48
 go_upto_region 1 with fail
 rw [← hw1, ← hrb]
 clear hw1 hrb
 go_upto_region 3 with (first
  | (go_at_call 49; refine HCT.out.mono ?_; rintro e w' ⟨rfl, rfl⟩)
  | fail)
 go_upto_region 9 with fail
 refine wp_region_held_drew (S := fun V => V.cell? ⟨tb, 8, none⟩ = some (.iface 209 (ptrN x)) ∧ V.cell? ⟨mp, 0, none⟩ = some (ptrN wp)) (by kernel_rfl) ⟨t8, c0'⟩ (fun hHe => ?_)
 refine tkz 0 rfl ?_
 try simp only [tp, tz]
 refine tkz 1 rfl ?_
 try simp only [tp, tz]
 refine tkz 2 rfl ?_
 try simp only [tp, tz]
 refine tkw 3 rfl ?_
 try simp only [tp, tz]
 refine tkz 4 rfl ?_
 try simp only [tp, tz]
 refine tkz 5 rfl ?_
 try simp only [tp, tz]
 refine tkz 6 rfl ?_
 try simp only [tp, tz]
 refine tkw 7 rfl ?_
 try simp only [tp, tz]
 refine tkz 8 rfl ?_
 try simp only [tp, tz]
 refine tkz 9 rfl ?_
 try simp only [tp, tz]
 refine rdy 10 rfl (fun K hK => ?_)
 go_simp
 refine HST.out.mono ?_
 rintro e v2 ⟨rfl, T2, hs2, hc2, hk2⟩
 have hr2 := hs2.mach
 refine hK.out _ _ ⟨(hr2.th 8 (.iface 209 (ptrN x)) rfl).1, hr2.c0⟩ (fun hHf => ?_)
 clear hK K
 try simp only [tp, tz]
 refine tkz 11 rfl ?_
 try simp only [tp, tz]
 refine wpAnyH_done (by kernel_rfl) ?_ _
 have e0 := hr2.c0
 have HC2 := hidZ (show Calls Tryz.prog 49 #[ptrN wp] v2 fun e w' => e = .returned (.int .i64 (n1 : Int)) ∧ v2 = w' from by
  obtain ⟨U1, U2, a1, a2, -⟩ := hs2
  exact HC'.out v2 U2 a2)
 obtain ⟨d3, hd3⟩ := xE (v2.heap.size)
 obtain ⟨v3, hv3⟩ := xE (v2.alloc (.cells #[.int .i64 0, .int .i64 1, .bool true, .int .u8 0, .int .u64 0, .string ⟨#[]⟩, .string ⟨#[]⟩, .int .u32 0, .int .u64 0, .int .i64 0, .int .i64 0] 75))
 have hb3 : Below v2.heap.size v2 v3 := bal hv3
 have hq3 : v3.heap[d3]? = some (.cells #[.int .i64 0, .int .i64 1, .bool true, .int .u8 0, .int .u64 0, .string ⟨#[]⟩, .string ⟨#[]⟩, .int .u32 0, .int .u64 0, .int .i64 0, .int .i64 0] 75 (0, 0)) := by rw [hv3, hd3]; exact heap_mem v2 _
 have hz1 : w1.drew.heap.size = w1.heap.size := rfl
 have hS2 : ¬ T2 rb ∧ ¬ T2 d3 := ⟨fun e => by
  have h1 := HRL.out
  rcases hk2 rb e with e | e
  ·exact absurd (HS0.out rb e) (Nat.lt_irrefl _)
  ·omega, fun e => absurd ((HF.out.1.star HF.out.2).lt hs2 e) (by omega)⟩
 have hqr2 : v2.heap[rb]? = some (.cells #[.int .i64 0, .int .i64 0, .bool false, .int .u8 0, .int .u64 0, .string ⟨#[]⟩, .string ⟨#[]⟩, .int .u32 0, .int .u64 0, .int .i64 0, .int .i64 0] 75 (0, 0)) := ((Chg.refl S w1).drew.trans hc2).obj HQ1.out (fun e => absurd (HS0.out rb e) (Nat.lt_irrefl _))
 have hs3 := (HF.out.1.star HF.out.2).below hs2 hb3
 have HQR := hidZ (And.intro (boxAt hqr2 hb3) hq3)
 have HS3 := hidZ hs3
 have HZ := hidZ (And.intro hS2 (show rb < d3 from by have := (Array.getElem?_eq_some_iff.1 hqr2).1; omega))
 have HC3 := hidZ (show Chg S w v3 ∧ ∀ k, T2 k → S k ∨ w.heap.size ≤ k from by
  have e1 := HB1.out.size
  have e2 := hc2.size
  exact ⟨((Chg.of_below HB1.out).trans ((Chg.refl S w1).drew.trans hc2)).trans (Chg.of_below hb3), fun k hk => (hk2 k hk).imp (fun e => e) (fun e => by omega)⟩)
 have hr3 := hs3.mach
 have t83 := (hr3.th 8 (.iface 209 (ptrN x)) rfl).1
 have HG := hidZ (show Calls Tryz.prog 396 #[ptrN x] v3 fun e w' => e = .returned (.tuple #[.agg #[.int .u8 kd, .int .u64 nm, .string ⟨#[]⟩, .string ⟨#[]⟩, .int .u32 0, .int .u64 0, .int .i64 0, .int .i64 0], .int .u64 ep, .int .i64 pt]) ∧ Below v3.heap.size v3 w' from by
  obtain ⟨U1, U2, a1, a2, -⟩ := hs3
  exact HGOT.out v3 U2 a2)
 clear hs2 hc2 hk2 hr2 hb3 hq3 hS2 hqr2 HST hHf t8 HCT c0' c1 hs3 hr3 HGOT
 go_upto_region 11 with (first
  | (go_at_call 49; refine HC2.out.mono ?_; rintro e w' ⟨rfl, rfl⟩)
  | fail)
 rw [← hv3, ← hd3]
 clear hv3 hd3 HC2
 go_upto_region 12 with fail
 go_wp2_with fail
 refine HG.out.mono ?_
 rintro e v4 ⟨rfl, hb4⟩
 obtain ⟨ab, hab⟩ := xE (v4.heap.size)
 obtain ⟨v5, hv5⟩ := xE (v4.alloc (.cells #[.int .u8 kd, .int .u64 nm, .string ⟨#[]⟩, .string ⟨#[]⟩, .int .u32 0, .int .u64 0, .int .i64 0, .int .i64 0] 31))
 have hb5 : Below v3.heap.size v3 v5 := by rw [hv5]; exact hb4.alloc hb4.size _
 have hq5 : v5.heap[ab]? = some (.cells #[.int .u8 kd, .int .u64 nm, .string ⟨#[]⟩, .string ⟨#[]⟩, .int .u32 0, .int .u64 0, .int .i64 0, .int .i64 0] 31 (0, 0)) := by rw [hv5, hab]; exact heap_mem v4 _
 have hnab : ¬ T2 ab ∧ d3 < ab := by
  have h1 := (Array.getElem?_eq_some_iff.1 HQR.out.2).1
  have h2 := hb4.size
  refine ⟨fun e => ?_, by omega⟩
  have := (HF.out.1.star HF.out.2).lt HS3.out e
  omega
 obtain ⟨v6, hv6⟩ := xE (v5.drew)
 have hb6 : Below v3.heap.size v3 v6 := by rw [hv6]; exact low_drew1 hb5
 have hq6 : v6.heap[ab]? = some (.cells #[.int .u8 kd, .int .u64 nm, .string ⟨#[]⟩, .string ⟨#[]⟩, .int .u32 0, .int .u64 0, .int .i64 0, .int .i64 0] 31 (0, 0)) := by rw [hv6]; exact hq5
 have hs6 := (HF.out.1.star HF.out.2).below HS3.out hb6
 have hr6 := hs6.mach
 have hS6 : (fun V : World => V.cell? ⟨mp, 2, none⟩ = some (.slice none 0 0) ∧ V.rangeAt tb 1 [.int .u8 3, sv m.key, sv m.value, .int .u32 (m.flags : Int), .int .i64 m.exp, .int .u64 (m.id : Int), .int .u64 (m.by' : Int)] ∧ V.cell? ⟨tb, 9, none⟩ = some (.int .i64 (f : Int)) ∧ V.cell? ⟨mp, 0, none⟩ = some (ptrN wp) ∧ V.rangeAt ab 0 [.int .u8 kd, .int .u64 nm, .string ⟨#[]⟩, .string ⟨#[]⟩, .int .u32 0, .int .u64 0, .int .i64 0, .int .i64 0]) v6 := ⟨hr6.c2, fun j v hv => (hr6.th (1 + j) v (by
  rcases j with _ | _ | _ | _ | _ | _ | _ | j
  all_goals first | exact hv | (simp at hv))).1, (hr6.th 9 (.int .i64 (f : Int)) rfl).1, hr6.c0, World.rangeAt_of_cells hq6⟩
 have HCT6 := hidZ (show Calls Tryz.prog 49 #[ptrN wp] v6 fun e w' => e = .returned (.int .i64 (n1 : Int)) ∧ v6 = w' from by
  obtain ⟨U1, U2, a1, a2, -⟩ := hs6
  exact HC'.out v6 U2 a2)
 obtain ⟨v7, hv7⟩ := xE (v6.alloc (.cells #[.int .i64 0, .int .u8 3, sv m.key, sv m.value, .int .u32 (m.flags : Int), .int .i64 m.exp, .int .u64 (m.id : Int), .int .u64 (m.by' : Int), .int .i64 (f : Int), .int .i64 (n1 : Int), .int .u8 kd, .int .u64 nm, .string ⟨#[]⟩, .string ⟨#[]⟩, .int .u32 0, .int .u64 0, .int .i64 0, .int .i64 0, .int .u64 ep, .int .i64 pt] 33))
 have hb7 : Below v6.heap.size v6 v7 := bal hv7
 have hq7 : v7.heap[v6.heap.size]? = some (.cells #[.int .i64 0, .int .u8 3, sv m.key, sv m.value, .int .u32 (m.flags : Int), .int .i64 m.exp, .int .u64 (m.id : Int), .int .u64 (m.by' : Int), .int .i64 (f : Int), .int .i64 (n1 : Int), .int .u8 kd, .int .u64 nm, .string ⟨#[]⟩, .string ⟨#[]⟩, .int .u32 0, .int .u64 0, .int .i64 0, .int .i64 0, .int .u64 ep, .int .i64 pt] 33 (0, 0)) := by rw [hv7]; exact heap_mem v6 _
 obtain ⟨v', v8, hrun, hmd⟩ := app_called (cs := [.int .i64 0, .int .u8 3, sv m.key, sv m.value, .int .u32 (m.flags : Int), .int .i64 m.exp, .int .u64 (m.id : Int), .int .u64 (m.by' : Int), .int .i64 (f : Int), .int .i64 (n1 : Int), .int .u8 kd, .int .u64 nm, .string ⟨#[]⟩, .string ⟨#[]⟩, .int .u32 0, .int .u64 0, .int .i64 0, .int .i64 0, .int .u64 ep, .int .i64 pt]) rfl (by simp [Value.oneCell']) hq7
 obtain ⟨va, vc, rfl⟩ : ∃ a c, v' = .slice a 1 c := by
  obtain ⟨⟨U, a1, -⟩, -⟩ := hmd
  exact (Row.of_owns a1.1).len
 obtain ⟨sv2, hsv2⟩ : ∃ v2 : Value, v2 = .slice (some ⟨v6.heap.size, 0, none⟩) 1 1 := ⟨_, rfl⟩
 rw [← hsv2] at hrun
 have hs7 := (HF.out.1.star HF.out.2).below hs6 hb7
 obtain ⟨T8, hs8, hc8, hk8⟩ := (Star.new (HF.out.1.star HF.out.2) hs7 hmd.2 hmd.1.choose_spec.1 hmd.1.choose_spec.2).mono (fun _ h => h.assoc)
 have hS7 : (fun V : World => V.cell? ⟨mp, 2, none⟩ = some (.slice none 0 0) ∧ V.rangeAt tb 1 [.int .u8 3, sv m.key, sv m.value, .int .u32 (m.flags : Int), .int .i64 m.exp, .int .u64 (m.id : Int), .int .u64 (m.by' : Int)] ∧ V.cell? ⟨tb, 9, none⟩ = some (.int .i64 (f : Int)) ∧ V.cell? ⟨mp, 0, none⟩ = some (ptrN wp) ∧ V.rangeAt ab 0 [.int .u8 kd, .int .u64 nm, .string ⟨#[]⟩, .string ⟨#[]⟩, .int .u32 0, .int .u64 0, .int .i64 0, .int .i64 0]) v7 := ⟨(hb7.cell (p := ⟨mp, 2, none⟩) (cell_lt hS6.1)).trans hS6.1, range_below hS6.2.1 hb7, (hb7.cell (p := ⟨tb, 9, none⟩) (cell_lt hS6.2.2.1)).trans hS6.2.2.1, (hb7.cell (p := ⟨mp, 0, none⟩) (cell_lt hS6.2.2.2.1)).trans hS6.2.2.2.1, range_below hS6.2.2.2.2 hb7⟩
 have hS8 : (fun V : World => V.cell? ⟨mp, 2, none⟩ = some (.slice none 0 0) ∧ V.rangeAt tb 1 [.int .u8 3, sv m.key, sv m.value, .int .u32 (m.flags : Int), .int .i64 m.exp, .int .u64 (m.id : Int), .int .u64 (m.by' : Int)] ∧ V.cell? ⟨tb, 9, none⟩ = some (.int .i64 (f : Int)) ∧ V.cell? ⟨mp, 0, none⟩ = some (ptrN wp) ∧ V.rangeAt ab 0 [.int .u8 kd, .int .u64 nm, .string ⟨#[]⟩, .string ⟨#[]⟩, .int .u32 0, .int .u64 0, .int .i64 0, .int .i64 0]) v8 := ⟨(hmd.2.cell (p := ⟨mp, 2, none⟩) (cell_lt hS7.1)).trans hS7.1, range_below hS7.2.1 hmd.2, (hmd.2.cell (p := ⟨tb, 9, none⟩) (cell_lt hS7.2.2.1)).trans hS7.2.2.1, (hmd.2.cell (p := ⟨mp, 0, none⟩) (cell_lt hS7.2.2.2.1)).trans hS7.2.2.2.1, range_below hS7.2.2.2.2 hmd.2⟩
 have u8 : v8.cell? ⟨mp, 2, none⟩ = some (.slice none 0 0) := hS8.1
 have f8 : v8.frozen? ⟨mp, 2, none⟩ = false := hs8.mach.f2
 obtain ⟨g9, e9⟩ := mach_cv HRY.out.2.1 (HRY.out.2.2.star (framed_done _ _ _)) hs8 (.slice va 1 vc)
 have HS9 := hidZ g9
 have HC9 := hidZ (show Chg T2 v3 (v8.setCell ⟨mp, 2, none⟩ (.slice va 1 vc)) ∧ ∀ k, T8 k → T2 k ∨ v3.heap.size ≤ k from by
  have z6 := hb6.size
  have z7 := hb7.size
  exact ⟨((Chg.of_below (hb6.trans (hb7.mono z6))).trans hc8).then e9 (fun k hk e => (hk8 k e).elim (fun e => e) (fun e => by omega)), fun k hk => (hk8 k hk).imp (fun e => e) (fun e => by omega)⟩)
 have HN8 := hidZ (show ¬ T8 ab ∧ ¬ T8 d3 ∧ ¬ T8 rb from by
  have z6 := hb6.size
  have z7 := hb7.size
  have z1 := (Array.getElem?_eq_some_iff.1 hq6).1
  have z2 := hnab.2
  have z3 := HZ.out.2
  exact ⟨fun e => (hk8 ab e).elim hnab.1 (fun e => by omega), fun e => (hk8 d3 e).elim HZ.out.1.2 (fun e => by omega), fun e => (hk8 rb e).elim HZ.out.1.1 (fun e => by omega)⟩)
 have HQ8 := hidZ (show v8.heap[ab]? = some (.cells #[.int .u8 kd, .int .u64 nm, .string ⟨#[]⟩, .string ⟨#[]⟩, .int .u32 0, .int .u64 0, .int .i64 0, .int .i64 0] 31 (0, 0)) ∧ v8.heap[d3]? = some (.cells #[.int .i64 0, .int .i64 1, .bool true, .int .u8 0, .int .u64 0, .string ⟨#[]⟩, .string ⟨#[]⟩, .int .u32 0, .int .u64 0, .int .i64 0, .int .i64 0] 75 (0, 0)) ∧ v8.heap[rb]? = some (.cells #[.int .i64 0, .int .i64 0, .bool false, .int .u8 0, .int .u64 0, .string ⟨#[]⟩, .string ⟨#[]⟩, .int .u32 0, .int .u64 0, .int .i64 0, .int .i64 0] 75 (0, 0)) from ⟨boxAt (boxAt hq6 hb7) hmd.2, boxAt (boxAt (boxAt HQR.out.2 hb6) hb7) hmd.2, boxAt (boxAt (boxAt HQR.out.1 hb6) hb7) hmd.2⟩)
 have E9 := hidZ e9
 have HV5 := hidZ hv5
 have HV6 := hidZ hv6
 have HV7 := hidZ (And.intro hv7 hsv2)
 have HNAB := hidZ hnab
 clear hb4 hb5 hq5 hb6 hq6 hs6 hr6 hb7 hq7 hmd hs7 hs8 hc8 hk8 g9 e9 t83 HS3 hv6 hv7 hsv2 hnab
 have h5d : (fun V : World => V.cell? ⟨mp, 2, none⟩ = some (.slice none 0 0) ∧ V.rangeAt tb 1 [.int .u8 3, sv m.key, sv m.value, .int .u32 (m.flags : Int), .int .i64 m.exp, .int .u64 (m.id : Int), .int .u64 (m.by' : Int)] ∧ V.cell? ⟨tb, 9, none⟩ = some (.int .i64 (f : Int)) ∧ V.cell? ⟨mp, 0, none⟩ = some (ptrN wp) ∧ V.rangeAt ab 0 [.int .u8 kd, .int .u64 nm, .string ⟨#[]⟩, .string ⟨#[]⟩, .int .u32 0, .int .u64 0, .int .i64 0, .int .i64 0]) v5.drew := by rw [← HV6.out]; exact hS6
 clear HG e0
 go_upto_region 13 with fail
 rw [← hv5, ← hab]
 clear hv5 hab HV5
 refine wp_region_late 27 ((fun V : World => V.cell? ⟨mp, 2, none⟩ = some (.slice none 0 0) ∧ V.rangeAt tb 1 [.int .u8 3, sv m.key, sv m.value, .int .u32 (m.flags : Int), .int .i64 m.exp, .int .u64 (m.id : Int), .int .u64 (m.by' : Int)] ∧ V.cell? ⟨tb, 9, none⟩ = some (.int .i64 (f : Int)) ∧ V.cell? ⟨mp, 0, none⟩ = some (ptrN wp) ∧ V.rangeAt ab 0 [.int .u8 kd, .int .u64 nm, .string ⟨#[]⟩, .string ⟨#[]⟩, .int .u32 0, .int .u64 0, .int .i64 0, .int .i64 0])) (by kernel_rfl) h5d (fun hHe => ?_)
 rw [← HV6.out] at hHe ⊢
 clear HV6 h5d
 refine ltz 0 rfl (fun _ => hHe) ?_
 try simp only [tp, tz]
 refine ltz 1 rfl (fun _ => hHe) ?_
 try simp only [tp, tz]
 refine ltz 2 rfl (fun _ => hHe) ?_
 try simp only [tp, tz]
 refine ltz 3 rfl (fun _ => hHe) ?_
 try simp only [tp, tz]
 refine late_read (i := 4) (v := ?_) rfl (by kernel_rfl) (by kernel_rfl) (by kernel_rfl) (fun _ _ _ h => h) (by decide) rfl (by kernel_rfl) (Or.inl ⟨by rfl, ?_⟩) hHe (by kernel_rfl) ?_
 rotate_left 1
 ·((intro w hSw; (try dsimp only at hSw); obtain ⟨c0, c1, c2, c3, c4⟩ := hSw; go_simp) <;> with_reducible rfl)
 try simp only [tp, tz]
 refine ltz 5 rfl (fun _ => hHe) ?_
 try simp only [tp, tz]
 refine ltz 6 rfl (fun _ => hHe) ?_
 try simp only [tp, tz]
 refine ltz 7 rfl (fun _ => hHe) ?_
 try simp only [tp, tz]
 refine ltz 8 rfl (fun _ => hHe) ?_
 try simp only [tp, tz]
 refine late_read (i := 9) (v := .agg ([.int .u8 3, sv m.key, sv m.value, .int .u32 (m.flags : Int), .int .i64 m.exp, .int .u64 (m.id : Int), .int .u64 (m.by' : Int)]).toArray) rfl (by kernel_rfl) (by kernel_rfl) (by kernel_rfl) (fun _ _ _ h => h) (by decide) rfl (by kernel_rfl) (yieldsIf_load_mid (by rfl) 26 (.tmp 104) rfl tb 1 (by rfl) ([.int .u8 3, sv m.key, sv m.value, .int .u32 (m.flags : Int), .int .i64 m.exp, .int .u64 (m.id : Int), .int .u64 (m.by' : Int)]) _ (fun W hSw => hSw.2.1) Tryz.underlying26 rfl (by kernel_rfl)) hHe (by kernel_rfl) ?_
 try simp only [tp, tz]
 refine ltz 10 rfl (fun _ => hHe) ?_
 try simp only [tp, tz]
 refine ltz 11 rfl (fun _ => hHe) ?_
 try simp only [tp, tz]
 refine ltz 12 rfl (fun _ => hHe) ?_
 try simp only [tp, tz]
 refine late_read (i := 13) (v := ?_) rfl (by kernel_rfl) (by kernel_rfl) (by kernel_rfl) (fun _ _ _ h => h) (by decide) rfl (by kernel_rfl) (Or.inl ⟨by rfl, ?_⟩) hHe (by kernel_rfl) ?_
 rotate_left 1
 ·((intro w hSw; (try dsimp only at hSw); obtain ⟨c0, c1, c2, c3, c4⟩ := hSw; go_simp) <;> with_reducible rfl)
 try simp only [tp, tz]
 refine ltz 14 rfl (fun _ => hHe) ?_
 try simp only [tp, tz]
 refine ltz 15 rfl (fun _ => hHe) ?_
 try simp only [tp, tz]
 refine ltz 16 rfl (fun _ => hHe) ?_
 try simp only [tp, tz]
 refine late_read (i := 17) (v := ?_) rfl (by kernel_rfl) (by kernel_rfl) (by kernel_rfl) (fun _ _ _ h => h) (by decide) rfl (by kernel_rfl) (Or.inl ⟨by rfl, ?_⟩) hHe (by kernel_rfl) ?_
 rotate_left 1
 ·((intro w hSw; (try dsimp only at hSw); obtain ⟨c0, c1, c2, c3, c4⟩ := hSw; go_simp) <;> with_reducible rfl)
 try simp only [tp, tz]
 refine late_read (i := 19) (v := .agg ([.int .u8 kd, .int .u64 nm, .string ⟨#[]⟩, .string ⟨#[]⟩, .int .u32 0, .int .u64 0, .int .i64 0, .int .i64 0]).toArray) rfl (by kernel_rfl) (by kernel_rfl) (by kernel_rfl) (fun _ _ _ h => h) (by decide) rfl (by kernel_rfl) (yieldsIf_load_mid (by rfl) 31 (.tmp 12) rfl ab 0 (by rfl) ([.int .u8 kd, .int .u64 nm, .string ⟨#[]⟩, .string ⟨#[]⟩, .int .u32 0, .int .u64 0, .int .i64 0, .int .i64 0]) _ (fun W hSw => hSw.2.2.2.2) Tryz.underlying31 rfl (by kernel_rfl)) hHe (by kernel_rfl) ?_
 try simp only [tp, tz]
 refine ltz 20 rfl (fun _ => hHe) ?_
 try simp only [tp, tz]
 refine ltz 21 rfl (fun _ => hHe) ?_
 try simp only [tp, tz]
 refine late_one (i := 18) (by kernel_rfl) rfl (fun K hK => ?_)
 go_simp
 go_at_call 49
 refine (HCT6.out).mono ?_
 rintro e w' ⟨rfl, rfl⟩
 refine hK.out _ _ (fun _ _ => hHe) ?_
 clear hK K
 try simp only [tp, tz]
 refine ltz 22 rfl (fun _ => hHe) ?_
 try simp only [tp, tz]
 refine late_one (i := 23) (by kernel_rfl) rfl (fun K hK => ?_)
 go_simp
 refine hK.out _ _ (fun _ _ => by have h := hS7; rw [HV7.out.1] at h; exact h) ?_
 clear hK K
 try simp only [tp, tz]
 rw [← HV7.out.1, ← HV7.out.2]
 clear HV7
 refine late_one (i := 24) (by kernel_rfl) rfl (fun K hK => ?_)
 rw [if_pos (by rfl)]
 refine wp_append_run (.tmp 100) (.tmp 119) 54 (by rfl) _ _ _ (by rfl) (by rfl) hrun ?_
 refine hK.out _ _ (fun _ _ => hS8) ?_
 clear hK K hrun
 try simp only [tp, tz]
 refine ltz 25 rfl (fun _ => hS8) ?_
 try simp only [tp, tz]
 refine ltz 26 rfl (fun _ => hS8) ?_
 try simp only [tp, tz]
 refine late_one (i := 27) (by kernel_rfl) rfl (fun K hK => ?_)
 go_simp
 refine hK.out _ _ (fun _ h => absurd rfl h) ?_
 clear hK K
 try simp only [tp, tz]
 refine late_done (by kernel_rfl) ?_
 clear hHe
 obtain ⟨v9, hv9⟩ := xE (v8.setCell ⟨mp, 2, none⟩ (.slice va 1 vc))
 rw [← hv9] at HS9 HC9 E9 ⊢
 clear hv9 u8 f8 hS8
 have hw3 := HC3.out
 have HW9 := hidZ (show Chg S w v9 ∧ ∀ k, T8 k → S k ∨ w.heap.size ≤ k from by
  have z3 := hw3.1.size
  exact ⟨hw3.1.then HC9.out.1 (fun k hk e => (hw3.2 k e).elim (fun e => e) (fun e => by omega)), fun k hk => (HC9.out.2 k hk).elim (hw3.2 k) (fun e => .inr (by omega))⟩)
 have hq9 := E9.out.obj HQ8.out.1 HN8.out.1
 have hd9 := E9.out.obj HQ8.out.2.1 HN8.out.2.1
 have hb9 := E9.out.obj HQ8.out.2.2 HN8.out.2.2
 clear hw3 HC3 HC9 E9 HQ8
 obtain ⟨v10, hv10⟩ := xE (v9.drew)
 have hs10 := Star.drew (HRY.out.2.1.star (framed_mach _ _ _ _ _ _ _)) (HRY.out.2.2.star (framed_done _ _ _)) HS9.out
 rw [← hv10] at hs10
 have hq10 : v10.heap[ab]? = some (.cells #[.int .u8 kd, .int .u64 nm, .string ⟨#[]⟩, .string ⟨#[]⟩, .int .u32 0, .int .u64 0, .int .i64 0, .int .i64 0] 31 (0, 0)) := by rw [hv10]; exact hq9
 have hd10 : v10.heap[d3]? = some (.cells #[.int .i64 0, .int .i64 1, .bool true, .int .u8 0, .int .u64 0, .string ⟨#[]⟩, .string ⟨#[]⟩, .int .u32 0, .int .u64 0, .int .i64 0, .int .i64 0] 75 (0, 0)) := by rw [hv10]; exact hd9
 have hb10 : v10.heap[rb]? = some (.cells #[.int .i64 0, .int .i64 0, .bool false, .int .u8 0, .int .u64 0, .string ⟨#[]⟩, .string ⟨#[]⟩, .int .u32 0, .int .u64 0, .int .i64 0, .int .i64 0] 75 (0, 0)) := by rw [hv10]; exact hb9
 have n8 := (hs10.mach.th 8 (.iface 209 (ptrN x)) rfl).1
 have m8 := (hs10.mach.th 8 (.iface 209 (ptrN x)) rfl).2
 obtain ⟨g11, e11⟩ := mach_set (w' := v10.setCell ⟨tb, 8, none⟩ .nilIface) (th' := thCells c0 [.int .u8 3, sv m.key, sv m.value, .int .u32 (m.flags : Int), .int .i64 m.exp, .int .u64 (m.id : Int), .int .u64 (m.by' : Int)] .nilIface f ++ rest) HRY.out.2.1 (HRY.out.2.2.star (framed_done _ _ _)) hs10 (fun S' h => h.set 8 .nilIface (by simp [thCells]))
 obtain ⟨v11, hv11⟩ := xE (v10.setCell ⟨tb, 8, none⟩ .nilIface)
 rw [← hv11] at g11 e11
 have hq11 := e11.obj hq10 HN8.out.1
 have hd11 := e11.obj hd10 HN8.out.2.1
 have hb11 := e11.obj hb10 HN8.out.2.2
 have ht11 : v11.there d3 3 8 := fun j hj => by
  rcases j with _ | _ | _ | _ | _ | _ | _ | _ | j
  all_goals first | exact ⟨by rw [(cellsAt hd11 _).1]; rfl, (cellsAt hd11 _).2⟩ | (exfalso; omega)
 obtain ⟨v12, hv12⟩ := xE (v11.setCells d3 3 [.int .u8 kd, .int .u64 nm, .string ⟨#[]⟩, .string ⟨#[]⟩, .int .u32 0, .int .u64 0, .int .i64 0, .int .i64 0])
 have e12 : Chg (fun k => k = d3) v11 v12 := by rw [hv12]; exact mcells_chg _ _ _ _
 have hne : ¬ ab = d3 := by have := HNAB.out.2; omega
 have hnr : ¬ rb = d3 := by have := HZ.out.2; omega
 have hq12 := e12.obj hq11 hne
 have hb12 := e12.obj hb11 hnr
 have hd12 : v12.heap[d3]? = some (.cells #[.int .i64 0, .int .i64 1, .bool true, .int .u8 kd, .int .u64 nm, .string ⟨#[]⟩, .string ⟨#[]⟩, .int .u32 0, .int .u64 0, .int .i64 0, .int .i64 0] 75 (0, 0)) := by
  rw [hv12]
  exact setCells_list [.int .u8 kd, .int .u64 nm, .string ⟨#[]⟩, .string ⟨#[]⟩, .int .u32 0, .int .u64 0, .int .i64 0, .int .i64 0] [.int .i64 0, .int .i64 1, .bool true] [.int .u8 0, .int .u64 0, .string ⟨#[]⟩, .string ⟨#[]⟩, .int .u32 0, .int .u64 0, .int .i64 0, .int .i64 0] [] v11 d3 _ hd11 rfl
 have hs12 := keep_box ((HRY.out.2.1.star (framed_mach _ _ _ _ _ _ _)).star (HRY.out.2.2.star (framed_done _ _ _))) g11 e12 HN8.out.2.1 (Tag.of hd11) (by decide)
 have HW12 := hidZ (show Chg S w v12 from by
  have z := HW9.out.1.size
  have ha : Chg T8 v9 v11 := by
   have h0 : Chg T8 v9 v10 := by rw [hv10]; exact (Chg.refl T8 v9).drew
   exact h0.trans e11
  have hb : Chg (fun k => T8 k ∨ k = d3) v9 v12 := (ha.mono (fun k _ e => .inl e)).then e12 (fun k hk e => .inr e)
  exact HW9.out.1.then hb (fun k hk e => e.elim (fun e => (HW9.out.2 k e).elim (fun e => e) (fun e => by omega)) (fun e => by
   have h1 := HZ.out.2
   have h2 := HRB.out
   omega)))
 have HS12 := hidZ hs12
 have HQ12 := hidZ (And.intro hq12 (And.intro hd12 hb12))
 have hR10 : v10.rangeAt ab 0 [.int .u8 kd, .int .u64 nm, .string ⟨#[]⟩, .string ⟨#[]⟩, .int .u32 0, .int .u64 0, .int .i64 0, .int .i64 0] := World.rangeAt_of_cells hq10
 have hR11 : v11.rangeAt ab 0 [.int .u8 kd, .int .u64 nm, .string ⟨#[]⟩, .string ⟨#[]⟩, .int .u32 0, .int .u64 0, .int .i64 0, .int .i64 0] := World.rangeAt_of_cells hq11
 have hR12 : v12.rangeAt ab 0 [.int .u8 kd, .int .u64 nm, .string ⟨#[]⟩, .string ⟨#[]⟩, .int .u32 0, .int .u64 0, .int .i64 0, .int .i64 0] := World.rangeAt_of_cells hq12
 have HV10 := hidZ hv10
 have HV11 := hidZ hv11
 have HV12 := hidZ hv12
 clear HS9 hq9 hd9 hb9 hs10 hq10 hd10 hb10 g11 e11 hq11 hd11 hb11 e12 hq12 hb12 hd12 hs12 hv10 hv11 hv12 hne hnr
 have h9 : v9.rangeAt ab 0 [.int .u8 kd, .int .u64 nm, .string ⟨#[]⟩, .string ⟨#[]⟩, .int .u32 0, .int .u64 0, .int .i64 0, .int .i64 0] := by have h := hR10; rw [HV10.out] at h; exact h
 have hsn := fun (a : Addr) (w : World) => run_store Tryz.prog w a .nilIface .plain rfl
 go_upto_region 14 with fail
 refine wp_region_held_drew (S := fun V => V.rangeAt ab 0 [.int .u8 kd, .int .u64 nm, .string ⟨#[]⟩, .string ⟨#[]⟩, .int .u32 0, .int .u64 0, .int .i64 0, .int .i64 0]) (by kernel_rfl) h9 (fun hHe => ?_)
 rw [← HV10.out] at hHe ⊢
 clear HV10 h9
 refine tkz 0 rfl ?_
 try simp only [tp, tz]
 refine wpAnyH_take (i := 1) rfl (by kernel_rfl) (by kernel_rfl) (by kernel_rfl) (fun _ _ _ h => h) (yieldsIf_load_mid (by rfl) 31 (.tmp 12) (by rfl) ab 0 (by rfl) [.int .u8 kd, .int .u64 nm, .string ⟨#[]⟩, .string ⟨#[]⟩, .int .u32 0, .int .u64 0, .int .i64 0, .int .i64 0] _ (fun w hSw => hSw) Tryz.underlying31 rfl (by kernel_rfl)) (by assumption) ?_
 try simp only [tp, tz]
 refine tkz 2 rfl ?_
 try simp only [tp, tz]
 refine tkz 3 rfl ?_
 try simp only [tp, tz]
 refine rdy 4 rfl (fun K hK => ?_)
 go_simp
 refine hK.out _ _ (by have h := hR11; rw [HV11.out] at h; exact h) (fun hHf => ?_)
 clear hK K
 try simp only [tp, tz]
 rw [← HV11.out]
 clear HV11 hHf hHe n8 m8
 have hHf := hR11
 refine tkz 5 rfl ?_
 try simp only [tp, tz]
 refine rdy 6 rfl (fun K hK => ?_)
 rw [if_pos (by rfl)]
 refine wp_store_mid 31 (.tmp 127) (.tmp 124) (by rfl) d3 3 #[.int .u8 kd, .int .u64 nm, .string ⟨#[]⟩, .string ⟨#[]⟩, .int .u32 0, .int .u64 0, .int .i64 0, .int .i64 0] (by rfl) (by rfl) ht11 (by kernel_rfl) (by simp [Value.oneCell']) ?_
 refine hK.out _ _ (by have h := hR12; rw [HV12.out] at h; exact h) (fun hHf => ?_)
 clear hK K
 try simp only [Act.put, tzD, tzE, tzF]
 rw [show v11.setCells d3 3 (#[.int .u8 kd, .int .u64 nm, .string ⟨#[]⟩, .string ⟨#[]⟩, .int .u32 0, .int .u64 0, .int .i64 0, .int .i64 0] : Array Value).toList = v12 from HV12.out.symm]
 clear HV12 hHf hR10 hR11 ht11
 have hHf := hR12
 refine wpAnyH_done (by kernel_rfl) ?_ _
 clear hHf
 obtain ⟨v13, hv13⟩ := xE (v12.drew)
 have hs13 := Star.drew (HRY.out.2.1.star (framed_mach _ _ _ _ _ _ _)) (HRY.out.2.2.star (framed_done _ _ _)) HS12.out
 rw [← hv13] at hs13
 have HQ13 := hidZ (show v13.heap[ab]? = some (.cells #[.int .u8 kd, .int .u64 nm, .string ⟨#[]⟩, .string ⟨#[]⟩, .int .u32 0, .int .u64 0, .int .i64 0, .int .i64 0] 31 (0, 0)) ∧ v13.heap[d3]? = some (.cells #[.int .i64 0, .int .i64 1, .bool true, .int .u8 kd, .int .u64 nm, .string ⟨#[]⟩, .string ⟨#[]⟩, .int .u32 0, .int .u64 0, .int .i64 0, .int .i64 0] 75 (0, 0)) ∧ v13.heap[rb]? = some (.cells #[.int .i64 0, .int .i64 0, .bool false, .int .u8 0, .int .u64 0, .string ⟨#[]⟩, .string ⟨#[]⟩, .int .u32 0, .int .u64 0, .int .i64 0, .int .i64 0] 75 (0, 0)) from by
  rw [hv13]
  exact HQ12.out)
 have HW13 := hidZ (show Chg S w v13 from by rw [hv13]; exact HW12.out.drew)
 have hr12 := HS12.out.mach
 have t0 := (hr12.th 0 (ptrN c0) rfl).1
 have hR13 : v13.rangeAt ab 0 [.int .u8 kd, .int .u64 nm, .string ⟨#[]⟩, .string ⟨#[]⟩, .int .u32 0, .int .u64 0, .int .i64 0, .int .i64 0] := World.rangeAt_of_cells HQ13.out.1
 have t13 := (hs13.mach.th 0 (ptrN c0) rfl).1
 have HD := hidZ (show Calls Tryz.prog 73 #[ptrN c0, .agg #[.int .u8 kd, .int .u64 nm, .string ⟨#[]⟩, .string ⟨#[]⟩, .int .u32 0, .int .u64 0, .int .i64 0, .int .i64 0]] v13 fun e w' => (∃ u, e = .returned u) ∧ Stp (Star (Star (Star R (ConnT n₀ c0 (afterM cm ⟨kd, nm, ⟨⟨#[]⟩, ⟨#[]⟩, 0, 0, 0, 0⟩⟩))) (MachB mp wp tb tc 1 (thCells c0 [.int .u8 3, sv m.key, sv m.value, .int .u32 (m.flags : Int), .int .i64 m.exp, .int .u64 (m.id : Int), .int .u64 (m.by' : Int)] .nilIface f ++ rest) (.slice va 1 vc))) (Star Y' (DoneRow (.slice va 1 vc) 1 [.int .i64 0, .int .u8 3, sv m.key, sv m.value, .int .u32 (m.flags : Int), .int .i64 m.exp, .int .u64 (m.id : Int), .int .u64 (m.by' : Int), .int .i64 (f : Int), .int .i64 (n1 : Int), .int .u8 kd, .int .u64 nm, .string ⟨#[]⟩, .string ⟨#[]⟩, .int .u32 0, .int .u64 0, .int .i64 0, .int .i64 0, .int .u64 ep, .int .i64 pt]))) T8 v13 w' from by
  obtain ⟨U1, U2, ⟨U3, U4, ⟨U5, U6, a1, a2, a3, a4⟩, b2, b3, b4⟩, d2, d3', d4⟩ := hs13
  refine (done_is a2 (HENV.out.1.chg HW13.out HENV.out.2.2) (Nat.le_trans HENV.out.2.1 HW13.out.size) HFIT.out.1 HFIT.out.2.1 HFIT.out.2.2.1 ⟨kd, nm, ⟨⟨#[]⟩, ⟨#[]⟩, 0, 0, 0, 0⟩⟩ HFIT.out.2.2.2 (show (0 : Nat) + 0 ≤ 1048576 from by omega)).mono ?_
  rintro e w' ⟨rfl, hst⟩
  refine ⟨⟨_, rfl⟩, ?_⟩
  have e1 : Stp (Star R (ConnT n₀ c0 (afterM cm ⟨kd, nm, ⟨⟨#[]⟩, ⟨#[]⟩, 0, 0, 0, 0⟩⟩))) U3 v13 w' := Stp.right HRY.out.1 (framed_connT _ _ _) a1 a2 a3 a4 hst
  have e2 := Stp.left (framed_mach _ _ _ _ _ _ _) HRY.out.2.1 ⟨U5, U6, a1, a2, a3, a4⟩ b2 b3 b4 e1
  exact Stp.left (HRY.out.2.2.star (framed_done _ _ _)) (HRY.out.2.1.star (framed_mach _ _ _ _ _ _ _)) ⟨U3, U4, ⟨U5, U6, a1, a2, a3, a4⟩, b2, b3, b4⟩ d2 d3' d4 e2)
 have HV13 := hidZ hv13
 clear hs13 hv13 hr12 HS12 HQ12 HW12 HENV HFIT
 go_upto_region 15 with fail
 refine wp_region_held_drew (S := fun V => V.cell? ⟨tb, 0, none⟩ = some (ptrN c0) ∧ V.rangeAt ab 0 [.int .u8 kd, .int .u64 nm, .string ⟨#[]⟩, .string ⟨#[]⟩, .int .u32 0, .int .u64 0, .int .i64 0, .int .i64 0]) (by kernel_rfl) ⟨t0, hR12⟩ (fun hHe => ?_)
 rw [← HV13.out] at hHe ⊢
 clear HV13 t0 hR12
 refine tkz 0 rfl ?_
 try simp only [tp, tz]
 refine tkz 1 rfl ?_
 try simp only [tp, tz]
 refine tkz 2 rfl ?_
 try simp only [tp, tz]
 refine tkw 3 rfl ?_
 try simp only [tp, tz]
 refine wpAnyH_take (i := 4) rfl (by kernel_rfl) (by kernel_rfl) (by kernel_rfl) (fun _ _ _ h => h) (yieldsIf_load_mid (by rfl) 31 (.tmp 12) (by rfl) ab 0 (by rfl) [.int .u8 kd, .int .u64 nm, .string ⟨#[]⟩, .string ⟨#[]⟩, .int .u32 0, .int .u64 0, .int .i64 0, .int .i64 0] _ (fun w hSw => hSw.2) Tryz.underlying31 rfl (by kernel_rfl)) (by assumption) ?_
 try simp only [tp, tz]
 refine rdy 5 rfl (fun K hK => ?_)
 go_simp
 go_at_call 73
 refine HD.out.mono ?_
 rintro e v14 ⟨⟨uu, rfl⟩, T14, hs14, hc14, hk14⟩
 have hab14 := hc14.obj HQ13.out.1 HN8.out.1
 refine hK.out _ _ ⟨(hs14.mach.th 0 (ptrN c0) rfl).1, World.rangeAt_of_cells hab14⟩ (fun hHf => ?_)
 clear hK K
 try simp only [tp, tz]
 refine wpAnyH_done (by kernel_rfl) ?_ _
 clear hHe hHf
 have HQ14 := hidZ (show v14.heap[d3]? = some (.cells #[.int .i64 0, .int .i64 1, .bool true, .int .u8 kd, .int .u64 nm, .string ⟨#[]⟩, .string ⟨#[]⟩, .int .u32 0, .int .u64 0, .int .i64 0, .int .i64 0] 75 (0, 0)) ∧ v14.heap[rb]? = some (.cells #[.int .i64 0, .int .i64 0, .bool false, .int .u8 0, .int .u64 0, .string ⟨#[]⟩, .string ⟨#[]⟩, .int .u32 0, .int .u64 0, .int .i64 0, .int .i64 0] 75 (0, 0)) from ⟨hc14.obj HQ13.out.2.1 HN8.out.2.1, hc14.obj HQ13.out.2.2 HN8.out.2.2⟩)
 have HS14 := hidZ hs14
 have HC14 := hidZ (show Chg S w v14 ∧ (∀ k, T14 k → S k ∨ w.heap.size ≤ k) ∧ ¬ T14 rb from by
  have z := HW13.out.size
  have z2 := (Array.getElem?_eq_some_iff.1 HQ13.out.2.2).1
  exact ⟨HW13.out.then hc14 (fun k hk e => (HW9.out.2 k e).elim (fun e => e) (fun e => by omega)), fun k hk => (hk14 k hk).elim (HW9.out.2 k) (fun e => .inr (by omega)), fun e => (hk14 rb e).elim HN8.out.2.2 (fun e => by omega)⟩)
 clear hs14 hc14 hk14 hab14 HD HQ13 HW13 HW9 HN8 hR13 t13
 go_wp2_with (first
  | ((with_reducible show wpList _ _ _ (⟨_, Op.load _ _, _, _, _, _⟩ :: _) _ _); refine wpList_load_row (by rfl) 75 (.tmp 11) (by rfl) d3 (by rfl) 75 _ _ _ HQ14.out.1 Tryz.underlying75 rfl (by kernel_rfl) ?_)
  | ((with_reducible show wpList _ _ _ (⟨none, Op.store _ _ _, _, _, _, _⟩ :: _) _ _); refine wpList_store_whole (by rfl) 75 (.tmp 4) (.tmp 134) (by rfl) rb (by rfl) #[.int .i64 0, .int .i64 1, .bool true, .int .u8 kd, .int .u64 nm, .string ⟨#[]⟩, .string ⟨#[]⟩, .int .u32 0, .int .u64 0, .int .i64 0, .int .i64 0] (by rfl) _ 75 HQ14.out.2 (by rfl) (by kernel_rfl) (by simp [Value.oneCell']) ?_; intro v15 hr4 hg4 hz4)
  | ((with_reducible show bodyPost _ _ _ Exit.ret _ _); exact bodyPost_ret (results_cell_row (by exact Tryz.results48) _ _ rb _ _ _ _ (by rfl) hr4 Tryz.underlying75 rfl (by kernel_rfl)) rfl (by
    have hc4 : Chg (fun k => k = rb) v14 v15 := Chg.of_grown hg4 (fun _ _ e => (Option.some.inj e).symm)
    refine ⟨⟨_, _, _, _, _, rfl⟩, T14, ⟨.slice va 1 vc, keep_box (((HRY.out.1.star (framed_connT _ _ _)).star (framed_mach _ _ _ _ _ _ _)).star (HRY.out.2.2.star (framed_done _ _ _))) HS14.out hc4 HC14.out.2.2 (Tag.of HQ14.out.2) (by decide)⟩, HC14.out.1.then hc4 (fun k hk e => ?_), HC14.out.2.1⟩
    have := HRB.out
    omega))
  | fail)
end Go.Proofs.YtnkkoicbnbjlnaaGreatDoor.One
