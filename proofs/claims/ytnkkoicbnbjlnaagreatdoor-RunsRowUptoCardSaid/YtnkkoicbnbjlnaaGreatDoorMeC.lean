/- stores: a Mark comes next. No condition. And what goes with it (5 texts). -/
import Derived.Test.YtnkkoicbnbjlnaaGreatDoorMeA
import Derived.Test.YtnkkoicbnbjlnaaGreatDoorLowA
import Derived.Test.YtnkkoicbnbjlnaaGreatDoorMdB
import Derived.Test.YtnkkoicbnbjlnaaGreatDoorMaA
namespace Go.Proofs.YtnkkoicbnbjlnaaGreatDoor
set_option maxRecDepth 100000
set_option maxHeartbeats 8000000
open Go.RowKit Go.ChangeMaps Go.MapKept
def MarkPh (x : Nat) (m : StM) (A : Thing) (thn : Value) : Thing := fun V S => ∃ o, Star (Star A (MarkIs o [verA m.b m.k])) (StoreB x (.iface 303 (ptrN o)) thn .nilFunc m) V S
theorem Star.placeRange {A : Thing} {x : Nat} {op thn act : Value} {m : StM} {w : World} {S : Nat → Prop} (h : Star A (StoreB x op thn act m) w S) : w.rangeAt x 11 [.int .i64 (m.b : Int), .int .i64 (m.k : Int)] := fun j v hv => by
 rcases j with _ | _ | j
 ·exact (Star.cellB h (j := 11) hv).1
 ·exact (Star.cellB h (j := 12) hv).1
 ·simp at hv
theorem storeMark_any {w : World} {p x : Nat} {op thn act : Value} {fn : Fn} {first cap : Array Value} {m : StM} {A : Thing} {S : Nat → Prop} (hA : Framed A) (hq : Bkt m.b m.k) (h : Star A (StoreB x op thn act m) w S) :
  Calls Tryz.prog 161 #[ptrN x, ptrN p, .func fn first cap] w fun e w' => (∃ u, e = .returned u) ∧ Stp (MarkPh x m A (.func fn first cap)) S w w' := by
 have hFS : Framed (StoreB x op thn act m) := framed_store _ _ _ _ _
 have hr := h.placeRange
 have HH := hidZ (Star.drew hA hFS h)
 have HA := hidZ hA
 have HQ := hidZ hq
 have hxl : x < w.heap.size := cell_lt (Star.cellB h (j := 0) (v := op) rfl).1
 clear h hA hq
 go_enter Tryz.func161, Tryz.ntmps161
 go_upto_region 0 with fail
 have hal : (w.drew.alloc (.cells #[.int .i64 (m.b : Int), .int .i64 (m.k : Int)] 130)).rangeAt x 11 [.int .i64 (m.b : Int), .int .i64 (m.k : Int)] := World.rangeAt_alloc (w := w.drew) hr _
 have hbs : Below w.drew.heap.size w.drew (w.drew.alloc (.cells #[.int .i64 (m.b : Int), .int .i64 (m.k : Int)] 130)) := (Below.refl _ _).alloc (Nat.le_refl _) _
 have hqb := heap_mem w.drew (.cells (placeCells (m.b, m.k)).toArray 130)
 obtain ⟨y0, y1⟩ := placeLoad hqb
 dsimp only at y0 y1
 have HY := hidZ (And.intro y0 y1)
 have HAL := hidZ (And.intro hal hbs)
 clear hal hbs hqb y0 y1
 refine wp_region_held_drew (S := fun V => V.rangeAt x 11 [.int .i64 (m.b : Int), .int .i64 (m.k : Int)]) (by kernel_rfl) hr (fun hHe => ?_)
 refine tkz 0 rfl ?_
 try simp only [tp, tz]
 refine tkz 1 rfl ?_
 try simp only [tp, tz]
 refine tkz 2 rfl ?_
 try simp only [tp, tz]
 refine tkz 3 rfl ?_
 try simp only [tp, tz]
 refine tkz 4 rfl ?_
 try simp only [tp, tz]
 refine tkz 5 rfl ?_
 try simp only [tp, tz]
 refine tkz 6 rfl ?_
 try simp only [tp, tz]
 refine tkz 7 rfl ?_
 try simp only [tp, tz]
 refine wpAnyH_take (i := 8) rfl (by kernel_rfl) (by kernel_rfl) (by kernel_rfl) (fun _ _ _ h => h) (yieldsIf_load_mid (by rfl) 130 (.tmp 13) (by rfl) x 11 (by rfl) [.int .i64 (m.b : Int), .int .i64 (m.k : Int)] _ (fun w hSw => hSw) Tryz.underlying130 rfl (by kernel_rfl)) (by assumption) ?_
 try simp only [tp, tz]
 refine tkz 12 rfl ?_
 try simp only [tp, tz]
 refine rdy 9 rfl (fun K hK => ?_)
 go_simp
 refine hK.out _ _ HAL.out.1 (fun hHf => ?_)
 clear hK K
 try simp only [tp, tz]
 refine rdy 10 rfl (fun K hK => ?_)
 go_simp
 go_at_call 180
 refine (newMark_any (c := 1) HQ.out HY.out.1 HY.out.2).mono ?_
 rintro e w1 ⟨o, rfl, hm⟩
 refine hK.out _ _ (range_below HAL.out.1 hm.2) (fun hHf => ?_)
 clear hK K
 try simp only [tp, tz]
 refine tkz 11 rfl ?_
 try simp only [tp, tz]
 have hs0 := (HA.out.star hFS).below HH.out HAL.out.2
 obtain ⟨S1, hs1, hc1, hk1⟩ := made_in HA.out hFS hs0 hm
 have HS1 := hidZ hs1
 have HC1 := hidZ (show Chg S w w1 ∧ ∀ k, S1 k → S k ∨ w.heap.size ≤ k from by
  have e1 := HAL.out.2.size
  exact ⟨((Chg.refl S w).drew.trans (Chg.of_below HAL.out.2)).then hc1 (fun k hk e => e), fun k hk => (hk1 k hk).imp id (fun e => Nat.le_trans e1 e)⟩)
 have HF := hidZ (HA.out.star (framed_mark o [verA m.b m.k]))
 clear hs0 hs1 hc1 hk1 hm
 refine rdy 13 rfl (fun K hK => ?_)
 go_simp
 go_at_call 128
 refine (goesSteps_any HF.out HS1.out (markFresh.frame (Wk.snd _ _))).mono ?_
 rintro e w2 ⟨⟨uu, rfl⟩, ⟨S4, hs4, hc4, hk4⟩⟩
 refine hK.out _ _ (Star.placeRange hs4) (fun hHf => ?_)
 clear hK K
 try simp only [tp, tz]
 refine wpAnyH_done (by kernel_rfl) ?_ _
 have HST := hidZ (show Stp (MarkPh x m A (.func fn first cap)) S w w2 from Stp.then HC1.out.1 HC1.out.2 ⟨S4, ⟨o, hs4⟩, hc4, hk4⟩)
 clear hs4 hc4 hk4 hHf hHe
 go_wp2_with fail
 exact bodyPost_end (results_none (by exact Tryz.results161) _ _ _) rfl ⟨⟨_, rfl⟩, HST.out⟩
def StM.at (m : StM) (b k s : Nat) : StM := { m with b := b, k := k, s := s }
abbrev boxF (f b : Nat) : Value := .func (.func f) #[] #[ptrN b]
theorem storeComes_any {w : World} {p x b k s : Nat} {op thn act : Value} {m : StM} {A : Thing} {S : Nat → Prop} (hA : Framed A) (hq : Bkt b k) (h : Star A (StoreB x op thn act m) w S) :
  Calls Tryz.prog 235 #[ptrN x, ptrN p, spotV b k s] w fun e w' => (∃ u, e = .returned u) ∧ Stp (fun V S => ∃ bx, MarkPh x (m.at b k s) (Star A (StoreBox bx x)) (boxF 267 bx) V S) S w w' := by
 have hFS : Framed (StoreB x op thn act m) := framed_store _ _ _ _ _
 obtain ⟨w0, hw0⟩ := xE (w.alloc (.cells #[ptrN x] 209))
 have hm0 : Made (StoreBox w.heap.size x) w w0 := by rw [hw0]; exact made_blk w [ptrN x] _
 have hst0 := made_in hA hFS h hm0
 have hsz0 : w0.heap.size = w.heap.size + 1 := by rw [hw0, size_at]
 obtain ⟨w1, hw1⟩ := xE (w0.alloc (.cells #[.int .i64 (b : Int), .int .i64 (k : Int), .int .i64 (s : Int)] 132))
 have hq1 : w1.heap[w0.heap.size]? = some (.cells #[.int .i64 (b : Int), .int .i64 (k : Int), .int .i64 (s : Int)] 132 (0, 0)) := by rw [hw1]; exact heap_mem w0 _
 have hb1 : Below w0.heap.size w0 w1 := bal hw1
 obtain ⟨bx, hbx⟩ := xE (w.heap.size)
 obtain ⟨bs, hbs⟩ := xE (w.heap.size + 1)
 rw [hsz0, ← hbs] at hq1
 rw [← hbx] at hst0
 obtain ⟨S0, hs0, hc0, hk0⟩ := hst0
 have hA0 : Framed (Star A (StoreBox bx x)) := hA.star (framed_blk _ _ _ (by decide))
 have hs1 := (hA0.star hFS).below hs0 hb1
 have y0 : w1.cell? ⟨bs, 0, none⟩ = some (.int .i64 (b : Int)) := (cellsAt hq1 0).1
 have y1 : w1.cell? ⟨bs, 1, none⟩ = some (.int .i64 (k : Int)) := (cellsAt hq1 1).1
 have y2 : w1.cell? ⟨bs, 2, none⟩ = some (.int .i64 (s : Int)) := (cellsAt hq1 2).1
 obtain ⟨k11, m11⟩ := Star.cellB hs1 (j := 11) (v := .int .i64 (m.b : Int)) rfl
 obtain ⟨k12, m12⟩ := Star.cellB hs1 (j := 12) (v := .int .i64 (m.k : Int)) rfl
 obtain ⟨k13, m13⟩ := Star.cellB hs1 (j := 13) (v := .int .i64 (m.s : Int)) rfl
 have b0 : w1.cell? ⟨bx, 0, none⟩ = some (ptrN x) := by
  obtain ⟨T1, T2, ⟨T3, T4, -, a2, -⟩, -⟩ := hs1
  exact Blk.cell0 a2
 have hxb : x ≠ bx := fun e => by
  have h1 := (hA.star hFS).lt h ((by obtain ⟨T1, T2, -, a2, -, a4⟩ := h; exact (a4 x).2 (.inr ((a2.2 x).2 rfl))) : S x)
  omega
 obtain ⟨g11, d11⟩ := hs1.setB hA0 (by decide) 11 (.int .i64 (b : Int))
 obtain ⟨g12, d12⟩ := g11.setB hA0 (by decide) 12 (.int .i64 (k : Int))
 obtain ⟨g13, d13⟩ := g12.setB hA0 (by decide) 13 (.int .i64 (s : Int))
 obtain ⟨w4, hw4⟩ := xE (((w1.setCell ⟨x, 11, none⟩ (.int .i64 (b : Int))).setCell ⟨x, 12, none⟩ (.int .i64 (k : Int))).setCell ⟨x, 13, none⟩ (.int .i64 (s : Int)))
 rw [← hw4] at g13 d13
 have hs4 : Star (Star A (StoreBox bx x)) (StoreB x op thn act (m.at b k s)) w4 S0 := g13
 have b4 : w4.cell? ⟨bx, 0, none⟩ = some (ptrN x) := by
  obtain ⟨T1, T2, ⟨T3, T4, -, a2, -⟩, -⟩ := hs4
  exact Blk.cell0 a2
 have HM := hidZ (storeMark_any (p := p) (fn := .func 267) (first := #[]) (cap := #[ptrN bx]) hA0 hq hs4)
 have HC := hidZ (show Chg S w w4 ∧ ∀ k, S0 k → S k ∨ w.heap.size ≤ k from ⟨hc0.then ((Chg.of_below hb1).trans (d11.trans (d12.trans d13))) (fun k hk e => (hk0 k e).elim id (fun e' => by omega)), hk0⟩)
 have hmf := @mkFn Tryz.prog
 have HW := hidZ (And.intro (show (w.alloc (.cells #[ptrN x] 209)).alloc (.cells #[.int .i64 (b : Int), .int .i64 (k : Int), .int .i64 (s : Int)] 132) = w1 from by rw [hw1, hw0]) (And.intro hbx (And.intro hbs hw4)))
 clear h hA hm0 hs0 hc0 hk0 hs1 hb1 hq1 g11 g12 g13 d11 d12 d13 hs4 hA0 hq hsz0 hw0 hw1 hbx hbs hw4
 go_enter Tryz.func235, Tryz.ntmps235
 go_upto_region 1 with fail
 rw [HW.out.1, ← HW.out.2.2.1, ← HW.out.2.1]
 go_upto_region 2 with fail
 rw [← HW.out.2.2.2]
 clear k11 k12 k13 m11 m12 m13 b0 y0 y1 y2
 go_wp2_with fail
 refine HM.out.mono ?_
 rintro e w5 ⟨⟨uu, rfl⟩, hst⟩
 have HST := hidZ (show Stp (fun V S => ∃ bx, MarkPh x (m.at b k s) (Star A (StoreBox bx x)) (boxF 267 bx) V S) S w w5 from (Stp.then HC.out.1 HC.out.2 hst).mono (fun S' h => ⟨bx, h⟩))
 clear hst
 go_wp2_with fail
 exact bodyPost_end (results_none (by exact Tryz.results235) _ _ _) rfl ⟨⟨_, rfl⟩, HST.out⟩
theorem doesRoomed {p x o br bx b6 b5 b4 b k s : Nat} {op thn act : Value} {m : StM} {A : Thing} (hA : Framed A) (hq : Bkt b k) :
  Doing 233 #[ptrN p, ptrN br, ptrN bx, ptrN b6, ptrN b5, ptrN b4] (Star (Star (Star A (RoomGot o b k s)) (Star (StoreBox bx x) (RoomBox br o))) (StoreB x op thn act m))
   (fun V S => ∃ bx, MarkPh x (m.at b k s) (Star A (StoreBox bx x)) (boxF 267 bx) V S) := by
 refine ⟨fun _ => by kernel_rfl, fun w S h => ?_⟩
 have hFX : Framed (Star (Star A (RoomGot o b k s)) (Star (StoreBox bx x) (RoomBox br o))) := (hA.star (framed_roomGot _ _ _ _)).star ((framed_blk _ _ _ (by decide)).star (framed_blk _ _ _ (by decide)))
 have hFS : Framed (StoreB x op thn act m) := framed_store _ _ _ _ _
 have HG := hidZ (show Calls Tryz.prog 234 #[ptrN o] w fun e w' => e = .returned (.tuple #[spotV b k s, .bool true]) ∧ Below w.heap.size w w' from by
  obtain ⟨T1, T2, ⟨T3, T4, h5, -⟩, -⟩ := h
  exact roomGot_any h5)
 have bb : w.cell? ⟨bx, 0, none⟩ = some (ptrN x) ∧ w.cell? ⟨br, 0, none⟩ = some (ptrN o) := by
  obtain ⟨T1, T2, ⟨T3, T4, -, ⟨T5, T6, a1, a2, -⟩, -⟩, -⟩ := h
  exact ⟨Blk.cell0 a1, Blk.cell0 a2⟩
 obtain ⟨b0, c0⟩ := bb
 have HH := hidZ h
 have HFX := hidZ hFX
 have HA := hidZ (And.intro hA hq)
 clear h hA hFX hq
 go_enter Tryz.func233, Tryz.ntmps233
 go_wp2_with fail
 refine HG.out.mono ?_
 rintro e w1 ⟨rfl, hb1⟩
 obtain ⟨w2, hw2⟩ := xE (w1.alloc (.cells #[.int .i64 (b : Int), .int .i64 (k : Int), .int .i64 (s : Int)] 132))
 have hb2 : Below w.heap.size w w2 := by rw [hw2]; exact hb1.alloc hb1.size _
 have hq2 : w2.heap[w1.heap.size]? = some (.cells #[.int .i64 (b : Int), .int .i64 (k : Int), .int .i64 (s : Int)] 132 (0, 0)) := by rw [hw2]; exact heap_mem w1 _
 have y0 : w2.cell? ⟨w1.heap.size, 0, none⟩ = some (.int .i64 (b : Int)) := (cellsAt hq2 0).1
 have y1 : w2.cell? ⟨w1.heap.size, 1, none⟩ = some (.int .i64 (k : Int)) := (cellsAt hq2 1).1
 have y2 : w2.cell? ⟨w1.heap.size, 2, none⟩ = some (.int .i64 (s : Int)) := (cellsAt hq2 2).1
 have b2 : w2.cell? ⟨bx, 0, none⟩ = some (ptrN x) := (hb2.cell (p := ⟨bx, 0, none⟩) (cell_lt b0)).trans b0
 have hs2 := (HFX.out.star hFS).below HH.out hb2
 obtain ⟨S2, hs2', hk2⟩ := (Wk.star ((Wk.fst _ _).trans (Wk.fst _ _)) (Wk.refl _)) w2 S hs2
 have HM := hidZ (storeComes_any (p := p) (s := s) HA.out.1 HA.out.2 hs2')
 have HB2 := hidZ (And.intro hb2 hk2)
 clear hb1 HG hs2 hb2 hs2' hk2 hq2
 go_upto_region 2 with fail
 rw [← hw2]
 clear hw2
 go_wp2_with fail
 refine HM.out.mono ?_
 rintro e w5 ⟨⟨uu, rfl⟩, hst⟩
 have HST := hidZ (Stp.then (S := S) (w := w) (Chg.of_below HB2.out.1) (fun k hk => .inl (HB2.out.2 k hk)) hst)
 clear hst
 go_wp2_with fail
 exact bodyPost_end (results_none (by exact Tryz.results233) _ _ _) rfl ⟨⟨_, rfl⟩, HST.out⟩
theorem worldSteps_any {p : Nat} {W : WorldM} {B : Thing} {w : World} {S : Nat → Prop} (hB : Framed B) (ht : W.tickets.length = 64) (h : Star (WorldIs p W) B w S) : Calls Tryz.prog 49 #[ptrN p] w fun e w' => e = .returned (.int .i64 (W.cells.count : Int)) ∧ w = w' := by
 obtain ⟨pc, S3, c0, hcs, -, -, -⟩ := Star.cellsW hB ht h
 have HC := hidZ (ccount_any hcs)
 clear h hcs ht
 go_enter Tryz.func49, Tryz.ntmps49
 go_wp2_with fail
 refine HC.out.mono ?_
 rintro e w2 ⟨rfl, rfl⟩
 go_wp2_with fail
 go_ret
 exact ⟨rfl, rfl⟩
def StM.pt (m : StM) (e t : Nat) : StM := { m with epoch := e, point := t }
def StM.ans (m : StM) (k n : Nat) : StM := { m with kind := k, num := n }
theorem storePoints_any {w : World} {p x : Nat} {op thn act : Value} {m : StM} {W : WorldM} {X : Thing} {S : Nat → Prop} (hX : Framed X) (hW : W.Ok) (h : Star (Star (WorldIs p W) X) (StoreB x op thn act m) w S) :
  Calls Tryz.prog 192 #[ptrN x, ptrN p] w fun e w' => (∃ u, e = .returned u) ∧ Stp (Star (Star (WorldIs p (loadW W 8)) X) (StoreB x op thn act (m.pt (W.cells.f 8) (W.cells.count + 1)))) S w w' := by
 have hFS : ∀ m, Framed (StoreB x op thn act m) := fun m => framed_store _ _ _ _ _
 have h := h.assoc
 obtain ⟨pc, S3, c0, -, -, -, -⟩ := Star.cellsW (hX.star (hFS m)) hW.tickets h
 have HL := hidZ (loadAt (a := 8) (hX.star (hFS m)) h hW.tickets (by unfold U64; omega) hW.count c0)
 have HX := hidZ hX
 have HT := hidZ hW.tickets
 obtain ⟨e8, he8⟩ := xE (W.cells.f 8)
 rw [← he8] at HL ⊢
 clear h hX hW he8
 go_enter Tryz.func192, Tryz.ntmps192
 go_wp2_with fail
 refine HL.out.mono ?_
 rintro e w1 ⟨rfl, ⟨S1, hs1, hc1, hk1⟩, -⟩
 have hs1 := hs1.assoc'
 have hFA : Framed (Star (WorldIs p (loadW W 8)) X) := (framed_worldIs p _).star HX.out
 obtain ⟨k22, m22⟩ := Star.cellB hs1 (j := 22) (v := .int .u64 (m.epoch : Int)) rfl
 obtain ⟨g22, d22⟩ := hs1.setB hFA (by decide) 22 (.int .u64 (e8 : Int))
 obtain ⟨w2, hw2⟩ := xE (w1.setCell ⟨x, 22, none⟩ (.int .u64 (e8 : Int)))
 rw [← hw2] at g22 d22
 have g22 : Star (Star (WorldIs p (loadW W 8)) X) (StoreB x op thn act { m with epoch := e8 }) w2 S1 := g22
 obtain ⟨k23, m23⟩ := Star.cellB g22 (j := 23) (v := .int .i64 (m.point : Int)) rfl
 have HST := hidZ (worldSteps_any (W := loadW W 8) (HX.out.star (hFS _)) HT.out g22.assoc)
 obtain ⟨g23, d23⟩ := g22.setB hFA (by decide) 23 (.int .i64 ((W.cells.count + 1 : Nat) : Int))
 have HS := hidZ (show Stp (Star (Star (WorldIs p (loadW W 8)) X) (StoreB x op thn act (m.pt e8 (W.cells.count + 1)))) S w (w2.setCell ⟨x, 23, none⟩ (.int .i64 ((W.cells.count + 1 : Nat) : Int))) from ⟨S1, g23, hc1.then (d22.trans d23) (fun k hk e => (hk1 k e).elim id (fun e' => by omega)), hk1⟩)
 clear hs1 hc1 hk1 g22 d22 g23 d23 HL c0
 go_upto_region 1 with fail
 rw [← hw2]
 clear hw2 k22 m22
 go_wp2_with fail
 refine HST.out.mono ?_
 rintro e w3 ⟨rfl, rfl⟩
 have hcn : (((loadW W 8).cells.count : Nat) : Int) = ((W.cells.count + 1 : Nat) : Int) := rfl
 rw [hcn]
 go_wp2_with fail
 exact bodyPost_end (results_none (by exact Tryz.results192) _ _ _) rfl ⟨⟨_, rfl⟩, HS.out⟩
theorem doesComes1 {p x bx : Nat} {op thn act : Value} {m : StM} {A : Thing} (hA : Framed A) (hbx : ∀ V S0, A V S0 → V.cell? ⟨bx, 0, none⟩ = some (ptrN x)) :
  Doing 267 #[ptrN p, ptrN bx] (Star A (StoreB x op thn act m)) (Star A (StoreB x .nilIface thn (boxF 268 bx) m)) := by
 refine ⟨fun _ => by kernel_rfl, fun w S h => ?_⟩
 have b0 : w.cell? ⟨bx, 0, none⟩ = some (ptrN x) := by
  obtain ⟨S1, S2, h1, -⟩ := h
  exact hbx w S1 h1
 have HM := hidZ (goesAccess_any (fn := .func 268) (first := #[]) (cap := #[ptrN bx]) hA h)
 have hmf := @mkFn Tryz.prog
 clear h hA hbx
 go_enter Tryz.func267, Tryz.ntmps267
 go_wp2_with fail
 refine HM.out.mono ?_
 rintro e w5 ⟨⟨uu, rfl⟩, hst⟩
 go_wp2_with fail
 exact bodyPost_end (results_none (by exact Tryz.results267) _ _ _) rfl ⟨⟨_, rfl⟩, hst⟩
theorem doesComes2 {p x bx : Nat} {op thn act : Value} {m : StM} {W : WorldM} {X : Thing} (hX : Framed X) (hW : W.Ok) (hbx : ∀ V S0, X V S0 → V.cell? ⟨bx, 0, none⟩ = some (ptrN x)) :
  Doing 268 #[ptrN p, ptrN bx] (Star (Star (WorldIs p W) X) (StoreB x op thn act m)) (Star (Star (WorldIs p (loadW W 8)) X) (StoreB x .nilIface thn (boxF 269 bx) (m.pt (W.cells.f 8) (W.cells.count + 1)))) := by
 refine ⟨fun _ => by kernel_rfl, fun w S h => ?_⟩
 have hb : ∀ {V S0 W' op thn act m}, Star (Star (WorldIs p W') X) (StoreB x op thn act m) V S0 → V.cell? ⟨bx, 0, none⟩ = some (ptrN x) := by
  rintro V S0 W' op thn act m ⟨T1, T2, ⟨T3, T4, -, a2, -⟩, -⟩
  exact hbx V T4 a2
 have b0 := hb h
 have HP := hidZ (storePoints_any hX hW h)
 have HB := hidZ (show ∀ V S0 W' op thn act m, Star (Star (WorldIs p W') X) (StoreB x op thn act m) V S0 → V.cell? ⟨bx, 0, none⟩ = some (ptrN x) from fun _ _ _ _ _ _ _ h => hb h)
 have HX := hidZ hX
 have hmf := @mkFn Tryz.prog
 clear h hb hX hW hbx
 go_enter Tryz.func268, Tryz.ntmps268
 go_wp2_with fail
 refine HP.out.mono ?_
 rintro e w1 ⟨⟨uu, rfl⟩, S1, hs1, hc1, hk1⟩
 have b1 := HB.out _ _ _ _ _ _ _ hs1
 have HM := hidZ (goesAccess_any (fn := .func 269) (first := #[]) (cap := #[ptrN bx]) ((framed_worldIs p _).star HX.out) hs1)
 have HC := hidZ (And.intro hc1 hk1)
 clear hs1 hc1 hk1 HP b0
 go_wp2_with fail
 refine HM.out.mono ?_
 rintro e w5 ⟨⟨uu, rfl⟩, hst⟩
 have HST := hidZ (Stp.then HC.out.1 HC.out.2 hst)
 clear hst
 go_wp2_with fail
 exact bodyPost_end (results_none (by exact Tryz.results268) _ _ _) rfl ⟨⟨_, rfl⟩, HST.out⟩
theorem storeTells_any {w : World} {x k n : Nat} {op thn act : Value} {m : StM} {A : Thing} {S : Nat → Prop} (hA : Framed A) (h : Star A (StoreB x op thn act m) w S) :
  Calls Tryz.prog 194 #[ptrN x, .int .u8 (k : Int), .int .u64 (n : Int)] w fun e w' => (∃ u, e = .returned u) ∧ Stp (Star A (StoreB x op thn act (m.ans k n))) S w w' := by
 obtain ⟨k14, m14⟩ := Star.cellB h (j := 14) (v := .int .u8 (m.kind : Int)) rfl
 obtain ⟨k15, m15⟩ := Star.cellB h (j := 15) (v := .int .u64 (m.num : Int)) rfl
 obtain ⟨k16, m16⟩ := Star.cellB h (j := 16) (v := .string ⟨#[]⟩) rfl
 obtain ⟨k17, m17⟩ := Star.cellB h (j := 17) (v := .string ⟨#[]⟩) rfl
 obtain ⟨k18, m18⟩ := Star.cellB h (j := 18) (v := .int .u32 0) rfl
 obtain ⟨k19, m19⟩ := Star.cellB h (j := 19) (v := .int .u64 0) rfl
 obtain ⟨k20, m20⟩ := Star.cellB h (j := 20) (v := .int .i64 0) rfl
 obtain ⟨k21, m21⟩ := Star.cellB h (j := 21) (v := .int .i64 0) rfl
 have HH := hidZ h
 have HA := hidZ hA
 clear h hA
 go_enter Tryz.func194, Tryz.ntmps194
 go_wp2_with fail
 refine bodyPost_end (results_none (by exact Tryz.results194) _ _ _) rfl ⟨⟨_, rfl⟩, ?_⟩
 obtain ⟨g14, d14⟩ := HH.out.setB HA.out (by decide) 14 (.int .u8 (k : Int))
 obtain ⟨g15, d15⟩ := g14.setB HA.out (by decide) 15 (.int .u64 (n : Int))
 obtain ⟨g16, d16⟩ := g15.setB HA.out (by decide) 16 (.string ⟨#[]⟩)
 obtain ⟨g17, d17⟩ := g16.setB HA.out (by decide) 17 (.string ⟨#[]⟩)
 obtain ⟨g18, d18⟩ := g17.setB HA.out (by decide) 18 (.int .u32 0)
 obtain ⟨g19, d19⟩ := g18.setB HA.out (by decide) 19 (.int .u64 0)
 obtain ⟨g20, d20⟩ := g19.setB HA.out (by decide) 20 (.int .i64 0)
 obtain ⟨g21, d21⟩ := g20.setB HA.out (by decide) 21 (.int .i64 0)
 exact ⟨S, g21, d14.trans (d15.trans (d16.trans (d17.trans (d18.trans (d19.trans (d20.trans d21)))))), fun _ h => .inl h⟩
abbrev endsF (x : Nat) : Value := .func (.func 229) #[ptrN x] #[]
def GivePh (x : Nat) (m : StM) (A : Thing) : Thing := fun V S => ∃ o, Star (Star A (GiveIs o 1)) (StoreB x (.iface 270 (ptrN o)) (endsF x) .nilFunc m) V S
theorem doesGives {p x : Nat} {op thn act : Value} {m : StM} {A : Thing} (hA : Framed A) : Doing 199 #[ptrN x, ptrN p] (Star A (StoreB x op thn act m)) (GivePh x m A) := by
 refine ⟨fun _ => by kernel_rfl, fun w S h => ?_⟩
 have hFS : Framed (StoreB x op thn act m) := framed_store _ _ _ _ _
 have HH := hidZ (Star.drew hA hFS h)
 have HA := hidZ hA
 have hmf := @mkFn Tryz.prog
 clear h hA
 go_enter Tryz.func199, Tryz.ntmps199
 go_upto_region 0 with fail
 refine wp_region_held_drew (S := fun V => True) (by kernel_rfl) trivial (fun hHe => ?_)
 refine tkz 0 rfl ?_
 try simp only [tp, tz]
 refine tkz 1 rfl ?_
 try simp only [tp, tz]
 refine tkz 2 rfl ?_
 try simp only [tp, tz]
 refine tkz 3 rfl ?_
 try simp only [tp, tz]
 refine tkz 6 rfl ?_
 try simp only [tp, tz]
 refine tkz 7 rfl ?_
 try simp only [tp, tz]
 refine tkz 8 rfl ?_
 try simp only [tp, tz]
 refine tkz 9 rfl ?_
 try simp only [tp, tz]
 refine rdy 4 rfl (fun K hK => ?_)
 go_simp
 go_at_call 136
 refine (newGive_any _).mono ?_
 rintro e w1 ⟨rfl, hm1⟩
 refine hK.out _ _ trivial (fun hHf => ?_)
 clear hK K
 try simp only [tp, tz]
 refine tkz 5 rfl ?_
 try simp only [tp, tz]
 obtain ⟨S1, hs1, hc1, hk1⟩ := made_in HA.out hFS HH.out hm1
 have HF : Framed (Star A (GiveIs w.drew.heap.size 1)) := HA.out.star (framed_give _ _)
 have HS1 := hidZ hs1
 have HC1 := hidZ (And.intro (show Chg S w w1 from (Chg.refl S w).drew.trans hc1) (show ∀ k, S1 k → S k ∨ w.heap.size ≤ k from hk1))
 clear hs1 hc1 hk1 hm1
 refine rdy 10 rfl (fun K hK => ?_)
 go_simp
 go_at_call 128
 refine (goesSteps_any HF HS1.out (giveFresh.frame (Wk.snd _ _))).mono ?_
 rintro e w2 ⟨⟨uu, rfl⟩, ⟨S4, hs4, hc4, hk4⟩⟩
 refine hK.out _ _ trivial (fun hHf => ?_)
 clear hK K
 try simp only [tp, tz]
 refine wpAnyH_done (by kernel_rfl) ?_ _
 have HST := hidZ (show Stp (GivePh x m A) S w w2 from Stp.then HC1.out.1 HC1.out.2 ⟨S4, ⟨_, hs4⟩, hc4, hk4⟩)
 clear hs4 hc4 hk4 hHf hHe
 go_wp2_with fail
 exact bodyPost_end (results_none (by exact Tryz.results199) _ _ _) rfl ⟨⟨_, rfl⟩, HST.out⟩
theorem doesEnds {p x : Nat} {op thn act : Value} {m : StM} {A : Thing} (hA : Framed A) : Doing 229 #[ptrN x, ptrN p] (Star A (StoreB x op thn act m)) (Star A (StoreB x .nilIface thn .nilFunc m)) :=
 ⟨fun _ => by kernel_rfl, fun _ _ h => goesEnds_any hA h⟩
theorem storeCloses_any {w : World} {p x : Nat} {op thn act : Value} {m : StM} {A : Thing} {S : Nat → Prop} (hA : Framed A) (hq : Bkt m.b m.k) (h : Star A (StoreB x op thn act m) w S) :
  Calls Tryz.prog 198 #[ptrN x, ptrN p] w fun e w' => (∃ u, e = .returned u) ∧ Stp (MarkPh x m A (storeF 199 x)) S w w' := by
 have HM := hidZ (storeMark_any (p := p) (fn := .func 199) (first := #[ptrN x]) (cap := #[]) hA hq h)
 have hmf := @mkFn Tryz.prog
 clear h hA hq
 go_enter Tryz.func198, Tryz.ntmps198
 go_wp2_with fail
 refine HM.out.mono ?_
 rintro e w5 ⟨⟨uu, rfl⟩, hst⟩
 go_wp2_with fail
 exact bodyPost_end (results_none (by exact Tryz.results198) _ _ _) rfl ⟨⟨_, rfl⟩, hst⟩
abbrev IdBox (b id : Nat) : Thing := BoxB b (.int .u64 (id : Int)) 24
abbrev putDoneF (b1 b2 : Nat) : Value := .func (.func 297) #[] #[ptrN b1, ptrN b2]
def PutPh (x : Nat) (m : StM) (A : Thing) (O : Nat → Thing) (id : Nat) : Thing := fun V S => ∃ q : Nat × Nat × Nat, Star (Star (Star A (O q.1)) (Star (StoreBox q.2.1 x) (IdBox q.2.2 id))) (StoreB x (.iface 417 (ptrN q.1)) (putDoneF q.2.1 q.2.2) .nilFunc m) V S
theorem Star.spotRange {A : Thing} {x : Nat} {op thn act : Value} {m : StM} {w : World} {S : Nat → Prop} (h : Star A (StoreB x op thn act m) w S) : w.rangeAt x 11 [.int .i64 (m.b : Int), .int .i64 (m.k : Int), .int .i64 (m.s : Int)] := fun j v hv => by
 rcases j with _ | _ | _ | j
 ·exact (Star.cellB h (j := 11) hv).1
 ·exact (Star.cellB h (j := 12) hv).1
 ·exact (Star.cellB h (j := 13) hv).1
 ·simp at hv
theorem storePuts_any {w : World} {p x ref id : Nat} {op thn act : Value} {m : StM} {A : Thing} {S : Nat → Prop} (hA : Framed A) (hq : Bkt m.b m.k) (hs4 : m.s < 4) (hh : m.h < 18446744073709551616) (hr : 1 ≤ ref) (h : Star A (StoreB x op thn act m) w S) :
  Calls Tryz.prog 270 #[ptrN x, ptrN p, .int .i64 (ref : Int), .int .u64 (id : Int)] w fun e w' => (∃ u, e = .returned u) ∧ Stp (PutPh x m A (fun o => PutIs o (tagsA m.b m.k) (itemA m.b m.k m.s) m.s 0 0 (tagN m.h) ref) id) S w w' := by
 have hFS : Framed (StoreB x op thn act m) := framed_store _ _ _ _ _
 obtain ⟨w0, hw0⟩ := xE (w.alloc (.cells #[ptrN x] 209))
 have hm0 : Made (StoreBox w.heap.size x) w w0 := by rw [hw0]; exact made_blk w [ptrN x] _
 have hz0 : w0.heap.size = w.heap.size + 1 := by rw [hw0, size_at]
 obtain ⟨w1, hw1⟩ := xE (w0.alloc (.cells #[.int .u64 (id : Int)] 24))
 have hm1 : Made (IdBox w0.heap.size id) w0 w1 := by rw [hw1]; exact made_blk w0 [.int .u64 (id : Int)] _
 have hFB : ∀ b1 b2, Framed (Star (StoreBox b1 x) (IdBox b2 id)) := fun b1 b2 => (framed_blk _ _ _ (by decide)).star (framed_blk _ _ _ (by decide))
 have hm := Made.star (framed_blk _ _ _ (by decide)) hm0 hm1
 obtain ⟨b1, hb1⟩ := xE (w.heap.size)
 obtain ⟨b2, hb2⟩ := xE (w.heap.size + 1)
 rw [hz0, ← hb2, ← hb1] at hm
 obtain ⟨S1, hs1, hc1, hk1⟩ := made_in hA hFS h hm
 have r0 : w1.cell? ⟨b1, 0, none⟩ = some (ptrN x) := by
  obtain ⟨T1, T2, ⟨T3, T4, -, ⟨T5, T6, a1, -⟩, -⟩, -⟩ := hs1
  exact Blk.cell0 a1
 have r1 := hs1.spotRange
 have r2 : w1.cell? ⟨x, 10, none⟩ = some (.int .u64 (m.h : Int)) := (Star.cellB hs1 (j := 10) rfl).1
 have HS1 := hidZ (Star.drew (hA.star (hFB b1 b2)) hFS hs1)
 have HC1 := hidZ (And.intro hc1 hk1)
 have HA := hidZ (And.intro hA (And.intro hq hs4))
 have HFB := hidZ hFB
 have HTB := hidZ (tag_bounds hh)
 have HR := hidZ hr
 have HHH := hidZ hh
 have hmf := @mkFn Tryz.prog
 have HW := hidZ (show (w.alloc (.cells #[ptrN x] 209)).alloc (.cells #[.int .u64 (id : Int)] 24) = w1 from by rw [hw1, hw0])
 have HB := hidZ (And.intro hb1 hb2)
 clear h hm0 hm1 hm hw0 hw1 hz0 hs1 hc1 hk1 hA hq hs4 hFB hr hh hb1 hb2
 go_enter Tryz.func270, Tryz.ntmps270
 go_upto_region 1 with fail
 rw [HW.out, ← HB.out.2, ← HB.out.1]
 refine wp_region_held_drew (S := fun V => V.cell? ⟨b1, 0, none⟩ = some (ptrN x) ∧ V.rangeAt x 11 [.int .i64 (m.b : Int), .int .i64 (m.k : Int), .int .i64 (m.s : Int)] ∧ V.cell? ⟨x, 10, none⟩ = some (.int .u64 (m.h : Int))) (by kernel_rfl) ⟨r0, r1, r2⟩ (fun hHe => ?_)
 refine tkw 0 rfl ?_
 try simp only [tp, tz]
 refine tkz 1 rfl ?_
 try simp only [tp, tz]
 refine tkz 2 rfl ?_
 try simp only [tp, tz]
 refine tkz 3 rfl ?_
 try simp only [tp, tz]
 refine tkw 4 rfl ?_
 try simp only [tp, tz]
 refine tkz 5 rfl ?_
 try simp only [tp, tz]
 refine tkz 6 rfl ?_
 try simp only [tp, tz]
 refine wpAnyH_take (i := 7) rfl (by kernel_rfl) (by kernel_rfl) (by kernel_rfl) (fun _ _ _ h => h) (yieldsIf_load_mid (by rfl) 132 (.tmp 14) (by rfl) x 11 (by rfl) [.int .i64 (m.b : Int), .int .i64 (m.k : Int), .int .i64 (m.s : Int)] _ (fun w hSw => hSw.2.1) Tryz.underlying132 rfl (by kernel_rfl)) (by assumption) ?_
 try simp only [tp, tz]
 refine tkw 8 rfl ?_
 try simp only [tp, tz]
 refine tkz 9 rfl ?_
 try simp only [tp, tz]
 refine tkz 10 rfl ?_
 try simp only [tp, tz]
 refine tkw 11 rfl ?_
 try simp only [tp, tz]
 refine tkz 13 rfl ?_
 try simp only [tp, tz]
 refine tkz 16 rfl ?_
 try simp only [tp, tz]
 refine rdy 12 rfl (fun K hK => ?_)
 go_simp
 go_at_call 258
 refine (fnvTag_any m.h HHH.out _).mono ?_
 rintro e w2 ⟨rfl, rfl⟩
 refine hK.out _ _ hHe (fun hHf => ?_)
 clear hK K
 try simp only [tp, tz]
 refine rdy 14 rfl (fun K hK => ?_)
 go_simp
 go_at_call 296
 refine (newPut_any HA.out.2.1 HA.out.2.2 HTB.out.1 HTB.out.2 HR.out _).mono ?_
 rintro e w3 ⟨o, rfl, hm3⟩
 refine hK.out _ _ ⟨(hm3.2.cell (p := ⟨b1, 0, none⟩) (cell_lt hHe.1)).trans hHe.1, range_below hHe.2.1 hm3.2, (hm3.2.cell (p := ⟨x, 10, none⟩) (cell_lt hHe.2.2)).trans hHe.2.2⟩ (fun hHf => ?_)
 clear hK K
 try simp only [tp, tz]
 refine tkz 15 rfl ?_
 try simp only [tp, tz]
 obtain ⟨S3, hs3, hc3, hk3⟩ := (made_in (HA.out.1.star (HFB.out b1 b2)) hFS HS1.out hm3).wk (B := Star (Star (Star A (PutIs o (tagsA m.b m.k) (itemA m.b m.k m.s) m.s 0 0 (tagN m.h) ref)) (Star (StoreBox b1 x) (IdBox b2 id))) (StoreB x op thn act m)) (Wk.star ((Wk.assoc _ _ _).trans ((Wk.star (Wk.refl _) (Wk.comm _ _)).trans (Wk.assoc' _ _ _))) (Wk.refl _))
 have HF3 := hidZ (show Framed (Star (Star A (PutIs o (tagsA m.b m.k) (itemA m.b m.k m.s) m.s 0 0 (tagN m.h) ref)) (Star (StoreBox b1 x) (IdBox b2 id))) from (HA.out.1.star (framed_put _ _ _ _ _ _ _ _)).star (HFB.out b1 b2))
 have HS3 := hidZ hs3
 have HC3 := hidZ (show Chg S w w3 ∧ ∀ k, S3 k → S k ∨ w.heap.size ≤ k from by
  have e1 := HC1.out.1.size
  exact ⟨HC1.out.1.then ((Chg.refl S1 w1).drew.trans hc3) (fun k hk e => (HC1.out.2 k e).elim (fun e => e) (fun e' => by omega)), fun k hk => (hk3 k hk).elim (HC1.out.2 k) (fun e => .inr (by have : w1.drew.heap.size = w1.heap.size := rfl; omega))⟩)
 clear hs3 hc3 hk3 hm3
 refine rdy 17 rfl (fun K hK => ?_)
 go_simp
 go_at_call 128
 refine (goesSteps_any HF3.out HS3.out ((putFresh tagsA_pos).frame ((Wk.fst _ _).trans (Wk.snd _ _)))).mono ?_
 rintro e w4 ⟨⟨uu, rfl⟩, ⟨S4, hs4, hc4, hk4⟩⟩
 refine hK.out _ _ (by obtain ⟨T1, T2, ⟨T3, T4, -, ⟨T5, T6, a1, -⟩, -⟩, -⟩ := (show _ from hs4); exact ⟨Blk.cell0 a1, Star.spotRange hs4, (Star.cellB hs4 (j := 10) rfl).1⟩) (fun hHf => ?_)
 clear hK K
 try simp only [tp, tz]
 refine wpAnyH_done (by kernel_rfl) ?_ _
 have HST := hidZ (show Stp (PutPh x m A (fun o => PutIs o (tagsA m.b m.k) (itemA m.b m.k m.s) m.s 0 0 (tagN m.h) ref) id) S w w4 from Stp.then HC3.out.1 HC3.out.2 ⟨S4, ⟨(o, b1, b2), hs4⟩, hc4, hk4⟩)
 clear hs4 hc4 hk4 hHf hHe
 go_wp2_with fail
 exact bodyPost_end (results_none (by exact Tryz.results270) _ _ _) rfl ⟨⟨_, rfl⟩, HST.out⟩
abbrev countF (b1 b2 : Nat) : Value := .func (.func 298) #[] #[ptrN b1, ptrN b2]
theorem doesPut1 {p x b1 b2 : Nat} {op thn act : Value} {m : StM} {A : Thing} (hA : Framed A) (hbx : ∀ V S0, A V S0 → V.cell? ⟨b1, 0, none⟩ = some (ptrN x)) :
  Doing 297 #[ptrN p, ptrN b1, ptrN b2] (Star A (StoreB x op thn act m)) (Star A (StoreB x .nilIface thn (countF b1 b2) m)) := by
 refine ⟨fun _ => by kernel_rfl, fun w S h => ?_⟩
 have b0 : w.cell? ⟨b1, 0, none⟩ = some (ptrN x) := by
  obtain ⟨S1, S2, h1, -⟩ := h
  exact hbx w S1 h1
 have HM := hidZ (goesAccess_any (fn := .func 298) (first := #[]) (cap := #[ptrN b1, ptrN b2]) hA h)
 have hmf := @mkFn Tryz.prog
 clear h hA hbx
 go_enter Tryz.func297, Tryz.ntmps297
 go_wp2_with fail
 refine HM.out.mono ?_
 rintro e w5 ⟨⟨uu, rfl⟩, hst⟩
 go_wp2_with fail
 exact bodyPost_end (results_none (by exact Tryz.results297) _ _ _) rfl ⟨⟨_, rfl⟩, hst⟩
def addW (W : WorldM) (a v : Nat) : WorldM := { W with cells := W.cells.acc 4 a ((W.cells.f a + v) % 18446744073709551616) }
theorem doesPut2 {p x b1 b2 id : Nat} {op thn act : Value} {m : StM} {W : WorldM} {X : Thing} (hX : Framed X) (hW : W.Ok) (hq : Bkt m.b m.k) (hbx : ∀ V S0, X V S0 → V.cell? ⟨b1, 0, none⟩ = some (ptrN x)) (hbi : ∀ V S0, X V S0 → V.cell? ⟨b2, 0, none⟩ = some (.int .u64 (id : Int))) :
  Doing 298 #[ptrN p, ptrN b1, ptrN b2] (Star (Star (WorldIs p W) X) (StoreB x op thn act m)) (MarkPh x (m.ans 1 id) (Star (WorldIs p (addW W 6 1)) X) (storeF 199 x)) := by
 refine ⟨fun _ => by kernel_rfl, fun w S h => ?_⟩
 have hFS : ∀ m, Framed (StoreB x op thn act m) := fun m => framed_store _ _ _ _ _
 have hb : ∀ {V S0 W' op thn act m}, Star (Star (WorldIs p W') X) (StoreB x op thn act m) V S0 → V.cell? ⟨b1, 0, none⟩ = some (ptrN x) ∧ V.cell? ⟨b2, 0, none⟩ = some (.int .u64 (id : Int)) := by
  rintro V S0 W' op thn act m ⟨T1, T2, ⟨T3, T4, -, a2, -⟩, -⟩
  exact ⟨hbx V T4 a2, hbi V T4 a2⟩
 have ha := h.assoc
 obtain ⟨pc, S3, c0, -, -, -, -⟩ := Star.cellsW (hX.star (hFS m)) hW.tickets ha
 have HL := hidZ (addAt (a := 6) (v := 1) (hX.star (hFS m)) ha hW.tickets (by unfold U64; omega) (hW.f 6) hW.count c0)
 have HX := hidZ (And.intro hX hq)
 have HB := hidZ (show ∀ V S0 W' op thn act m, Star (Star (WorldIs p W') X) (StoreB x op thn act m) V S0 → V.cell? ⟨b1, 0, none⟩ = some (ptrN x) ∧ V.cell? ⟨b2, 0, none⟩ = some (.int .u64 (id : Int)) from fun _ _ _ _ _ _ _ h => hb h)
 clear h ha hb hX hW hbx hbi hq
 go_enter Tryz.func298, Tryz.ntmps298
 go_wp2_with fail
 refine HL.out.mono ?_
 rintro e w1 ⟨rfl, ⟨S1, hs1, hc1, hk1⟩, -⟩
 have hs1 := hs1.assoc'
 obtain ⟨k1, k2⟩ := HB.out _ _ _ _ _ _ _ hs1
 have HT := hidZ (storeTells_any (k := 1) (n := id) ((framed_worldIs p _).star HX.out.1) hs1)
 have HC := hidZ (And.intro hc1 hk1)
 clear hs1 hc1 hk1 HL c0
 go_wp2_with fail
 refine HT.out.mono ?_
 rintro e w2 ⟨⟨uu, rfl⟩, S2, hs2, hc2, hk2⟩
 obtain ⟨k3, k4⟩ := HB.out _ _ _ _ _ _ _ hs2
 have HM := hidZ (storeCloses_any (p := p) ((framed_worldIs p _).star HX.out.1) (show Bkt (m.ans 1 id).b (m.ans 1 id).k from HX.out.2) hs2)
 have HC2 := hidZ (show Chg S w w2 ∧ ∀ k, S2 k → S k ∨ w.heap.size ≤ k from by
  have e1 := HC.out.1.size
  exact ⟨HC.out.1.then hc2 (fun k hk e => (HC.out.2 k e).elim (fun e => e) (fun e' => by omega)), fun k hk => (hk2 k hk).elim (HC.out.2 k) (fun e => .inr (by omega))⟩)
 clear hs2 hc2 hk2 HT k1 k2
 go_wp2_with fail
 refine HM.out.mono ?_
 rintro e w3 ⟨⟨uu, rfl⟩, hst⟩
 have HST := hidZ (Stp.then HC2.out.1 HC2.out.2 hst)
 clear hst
 go_wp2_with fail
 exact bodyPost_end (results_none (by exact Tryz.results298) _ _ _) rfl ⟨⟨_, rfl⟩, HST.out⟩
def recI (m : StM) (n : Nat) : ItemD := ⟨⟨m.key.toArray⟩, ⟨m.value.toArray⟩, m.flags, n, diesE m.epoch m.exp, genE m.epoch⟩
theorem build_item (v0 v1 : ByteArray) (v2 v3 v4 v5 : Int) (W : World) : (Instr.build 29 #[(0, .string v0), (1, .string v1), (2, .int .u32 v2), (3, .int .u64 v3), (4, .int .i64 v4), (5, .int .i64 v5)]).run Tryz.prog W = .ok (.agg #[.string v0, .string v1, .int .u32 v2, .int .u64 v3, .int .i64 v4, .int .i64 v5]) W := by kernel_rfl
abbrev putsF (x : Nat) : Value := .func (.func 270) #[ptrN x] #[]
theorem storeRecords_any {w : World} {p x i7 : Nat} {op thn act : Value} {m : StM} {W : WorldM} {X : Thing} {S : Nat → Prop} (hX : Framed X) (hW : W.Ok) (hq : Bkt m.b m.k) (hs4 : m.s < 4) (hh : m.h < 18446744073709551616) (hl : W.items.length % 64 = 0) (hn : W.items.length < 1048576)
  (hi : W.cells.f 7 = i7) (hi7 : i7 + 1 < 18446744073709551616) (hep : m.epoch < 18446744073709551616) (hexp : -9223372036854775808 ≤ m.exp ∧ m.exp ≤ 9223372036854775807) (h : Star (Star (WorldIs p W) X) (StoreB x op thn act m) w S) :
  Calls Tryz.prog 196 #[ptrN x, ptrN p, putsF x] w fun e w' => (∃ u, e = .returned u) ∧ Stp (PutPh x m (Star (WorldIs p (itemW (addW W 7 1) (recI m (i7 + 1)))) X) (fun o => PutIs o (tagsA m.b m.k) (itemA m.b m.k m.s) m.s 0 0 (tagN m.h) (W.items.length + 1)) (i7 + 1)) S w w' := by
 have hFS : ∀ m, Framed (StoreB x op thn act m) := fun m => framed_store _ _ _ _ _
 have ha := h.assoc
 obtain ⟨pc, S3, c0, -, -, -, -⟩ := Star.cellsW (hX.star (hFS m)) hW.tickets ha
 have hL := addAt (a := 7) (v := 1) (hX.star (hFS m)) ha hW.tickets (by unfold U64; omega) (hW.f 7) hW.count c0
 have HL := hidZ hL
 have HX := hidZ hX
 have HQ := hidZ (And.intro hq (And.intro hs4 hh))
 have HEP := hidZ (And.intro hep hexp)
 have HT := hidZ (And.intro (show (addW W 7 1).tickets.length = 64 from hW.tickets) (And.intro (show (addW W 7 1).items.length % 64 = 0 from hl) (show (addW W 7 1).items.length < 1048576 from hn)))
 obtain ⟨n7, hn7⟩ := xE (i7 + 1)
 have hwr : IntKind.u64.wrap ((W.cells.f 7 : Int) + 1) = (n7 : Int) := by rw [hi, IntKind.wrap_u64]; omega
 rw [← hn7]
 have hen : ∀ (args : Array Value) (W : World), (callFunc 270 args).run Tryz.prog W = .ok (.enter 270 args) W := fun args W => by kernel_rfl
 have hbi := fun (v0 v1 : ByteArray) (v2 v3 v4 v5 : Int) (W : World) => build_item v0 v1 v2 v3 v4 v5 W
 clear h ha hX hW hq hs4 hh hl hn hep hexp hi hL hi7 hn7
 go_enter Tryz.func196, Tryz.ntmps196
 go_wp2_with fail
 refine HL.out.mono ?_
 rintro e w1 ⟨rfl, ⟨S1, hs1, hc1, hk1⟩, -⟩
 have hs1 : Star (WorldIs p (addW W 7 1)) (Star X (StoreB x op thn act m)) w1 S1 := hs1
 have hs1' := hs1.assoc'
 obtain ⟨k3, -⟩ := Star.cellB hs1' (j := 3) (v := .int .u8 (m.verb : Int)) rfl
 obtain ⟨k4, -⟩ := Star.cellB hs1' (j := 4) (v := sv m.key) rfl
 obtain ⟨k5, -⟩ := Star.cellB hs1' (j := 5) (v := sv m.value) rfl
 obtain ⟨k6, -⟩ := Star.cellB hs1' (j := 6) (v := .int .u32 (m.flags : Int)) rfl
 obtain ⟨k7, -⟩ := Star.cellB hs1' (j := 7) (v := .int .i64 m.exp) rfl
 obtain ⟨k8, -⟩ := Star.cellB hs1' (j := 8) (v := .int .u64 (m.id : Int)) rfl
 obtain ⟨k9, -⟩ := Star.cellB hs1' (j := 9) (v := .int .u64 (m.by' : Int)) rfl
 obtain ⟨w2, hw2⟩ := xE (w1.alloc (.cells #[.int .u8 (m.verb : Int), sv m.key, sv m.value, .int .u32 (m.flags : Int), .int .i64 m.exp, .int .u64 (m.id : Int), .int .u64 (m.by' : Int)] 26))
 have hb2 : Below w1.heap.size w1 w2 := bal hw2
 have hq2 : w2.heap[w1.heap.size]? = some (.cells #[.int .u8 (m.verb : Int), sv m.key, sv m.value, .int .u32 (m.flags : Int), .int .i64 m.exp, .int .u64 (m.id : Int), .int .u64 (m.by' : Int)] 26 (0, 0)) := by rw [hw2]; exact heap_mem w1 _
 have hnb : ¬ S1 w1.heap.size := fun e => absurd (((framed_worldIs p _).star (HX.out.star (hFS m))).lt hs1 e) (Nat.lt_irrefl _)
 obtain ⟨bc, hbc⟩ := xE (w1.heap.size)
 rw [← hbc] at hq2 hnb
 have y1 : w2.cell? ⟨bc, 1, none⟩ = some (sv m.key) := (cellsAt hq2 1).1
 have y2 : w2.cell? ⟨bc, 2, none⟩ = some (sv m.value) := (cellsAt hq2 2).1
 have y3 : w2.cell? ⟨bc, 3, none⟩ = some (.int .u32 (m.flags : Int)) := (cellsAt hq2 3).1
 have y4 : w2.cell? ⟨bc, 4, none⟩ = some (.int .i64 m.exp) := (cellsAt hq2 4).1
 have hs2 := ((framed_worldIs p _).star (HX.out.star (hFS m))).below hs1 hb2
 have x22 : w2.cell? ⟨x, 22, none⟩ = some (.int .u64 (m.epoch : Int)) := (Star.cellB hs2.assoc' (j := 22) rfl).1
 obtain ⟨pi, S4, p1, -, -, -, -⟩ := Star.itemsW (HX.out.star (hFS m)) HT.out.1 hs2
 have HS2 := hidZ (Star.drew (framed_worldIs p _) (HX.out.star (hFS m)) hs2)
 have HNB := hidZ hnb
 have HC2 := hidZ (show Chg S w w2 ∧ ∀ k, S1 k → S k ∨ w.heap.size ≤ k from ⟨hc1.trans (Chg.of_below hb2), hk1⟩)
 clear hs1 hs1' hc1 hk1 hb2 hq2 hnb hs2 HL c0
 go_upto_region 2 with fail
 rw [← hw2, ← hbc]
 clear hw2 hbc k3 k4 k5 k6 k7 k8 k9
 refine wp_region_held_drew (S := fun V => V.cell? ⟨p, 1, none⟩ = some (ptrN pi) ∧ V.cell? ⟨bc, 1, none⟩ = some (sv m.key) ∧ V.cell? ⟨bc, 2, none⟩ = some (sv m.value) ∧ V.cell? ⟨bc, 3, none⟩ = some (.int .u32 (m.flags : Int)) ∧ V.cell? ⟨bc, 4, none⟩ = some (.int .i64 m.exp) ∧ V.cell? ⟨x, 22, none⟩ = some (.int .u64 (m.epoch : Int))) (by kernel_rfl) ⟨p1, y1, y2, y3, y4, x22⟩ (fun hHe => ?_)
 refine tkz 0 rfl ?_
 try simp only [tp, tz]
 refine tkz 1 rfl ?_
 try simp only [tp, tz]
 refine tkz 2 rfl ?_
 try simp only [tp, tz]
 refine tkw 3 rfl ?_
 try simp only [tp, tz]
 refine tkz 4 rfl ?_
 try simp only [tp, tz]
 refine tkw 5 rfl ?_
 try simp only [tp, tz]
 refine tkz 6 rfl ?_
 try simp only [tp, tz]
 refine tkw 7 rfl ?_
 try simp only [tp, tz]
 refine tkz 8 rfl ?_
 try simp only [tp, tz]
 refine tkw 9 rfl ?_
 try simp only [tp, tz]
 refine tkz 10 rfl ?_
 try simp only [tp, tz]
 refine tkz 11 rfl ?_
 try simp only [tp, tz]
 refine tkz 12 rfl ?_
 try simp only [tp, tz]
 refine tkz 13 rfl ?_
 try simp only [tp, tz]
 refine tkw 14 rfl ?_
 try simp only [tp, tz]
 refine tkz 15 rfl ?_
 try simp only [tp, tz]
 refine tkw 16 rfl ?_
 try simp only [tp, tz]
 refine tkz 18 rfl ?_
 try simp only [tp, tz]
 refine tkz 19 rfl ?_
 try simp only [tp, tz]
 refine tkz 20 rfl ?_
 try simp only [tp, tz]
 refine tkw 21 rfl ?_
 try simp only [tp, tz]
 refine rdy 17 rfl (fun K hK => ?_)
 ·go_simp
  go_at_call 208
  refine (dies_any m.epoch m.exp HEP.out.1 HEP.out.2 _).mono ?_
  rintro e w3 ⟨rfl, hb3⟩
  refine hK.out _ _ ⟨(hb3.cell (p := ⟨p, 1, none⟩) (cell_lt hHe.1)).trans hHe.1, (hb3.cell (p := ⟨bc, 1, none⟩) (cell_lt hHe.2.1)).trans hHe.2.1, (hb3.cell (p := ⟨bc, 2, none⟩) (cell_lt hHe.2.2.1)).trans hHe.2.2.1, (hb3.cell (p := ⟨bc, 3, none⟩) (cell_lt hHe.2.2.2.1)).trans hHe.2.2.2.1, (hb3.cell (p := ⟨bc, 4, none⟩) (cell_lt hHe.2.2.2.2.1)).trans hHe.2.2.2.2.1, (hb3.cell (p := ⟨x, 22, none⟩) (cell_lt hHe.2.2.2.2.2)).trans hHe.2.2.2.2.2⟩ (fun hHf => ?_)
  clear hK K
  try simp only [tp, tz]
  refine rdy 22 rfl (fun K hK => ?_)
  go_simp
  go_at_call 225
  refine (gen_any m.epoch HEP.out.1 _).mono ?_
  rintro e w4 ⟨rfl, hb4⟩
  refine hK.out _ _ ⟨(hb4.cell (p := ⟨p, 1, none⟩) (cell_lt hHf.1)).trans hHf.1, (hb4.cell (p := ⟨bc, 1, none⟩) (cell_lt hHf.2.1)).trans hHf.2.1, (hb4.cell (p := ⟨bc, 2, none⟩) (cell_lt hHf.2.2.1)).trans hHf.2.2.1, (hb4.cell (p := ⟨bc, 3, none⟩) (cell_lt hHf.2.2.2.1)).trans hHf.2.2.2.1, (hb4.cell (p := ⟨bc, 4, none⟩) (cell_lt hHf.2.2.2.2.1)).trans hHf.2.2.2.2.1, (hb4.cell (p := ⟨x, 22, none⟩) (cell_lt hHf.2.2.2.2.2)).trans hHf.2.2.2.2.2⟩ (fun hHf => ?_)
  clear hK K
  try simp only [tp, tz]
  refine tkz 23 rfl ?_
  try simp only [tp, tz]
  have hs4 := ((framed_worldIs p _).star (HX.out.star (hFS m))).below HS2.out (hb3.trans (hb4.mono hb3.size))
  refine rdy 24 rfl (fun K hK => ?_)
  go_simp
  go_at_call 224
  refine (addItem (recI m n7) (HX.out.star (hFS m)) hs4 HT.out.1 HT.out.2.1 HT.out.2.2 hHf.1).mono ?_
  rintro e w5 ⟨rfl, ⟨S5, hs5, hc5, hk5⟩, hp5⟩
  refine hK.out _ _ ⟨hp5, hc5.cell hHf.2.1 HNB.out, hc5.cell hHf.2.2.1 HNB.out, hc5.cell hHf.2.2.2.1 HNB.out, hc5.cell hHf.2.2.2.2.1 HNB.out, (Star.cellB hs5.assoc' (j := 22) rfl).1⟩ (fun hHf => ?_)
  clear hK K
  try simp only [tp, tz]
  refine tkz 25 rfl ?_
  try simp only [tp, tz]
  refine tkz 26 rfl ?_
  try simp only [tp, tz]
  refine tkz 27 rfl ?_
  try simp only [tp, tz]
  refine tkz 28 rfl ?_
  try simp only [tp, tz]
  refine tkz 29 rfl ?_
  try simp only [tp, tz]
  refine wpAnyH_done (by kernel_rfl) ?_ _
  have HS5 := hidZ hs5.assoc'
  have HC5 := hidZ (show Chg S w w5 ∧ ∀ k, S5 k → S k ∨ w.heap.size ≤ k from by
   have e1 := HC2.out.1.size
   have e2 : w2.heap.size ≤ w4.heap.size := Nat.le_trans hb3.size hb4.size
   exact ⟨HC2.out.1.then (((Chg.refl S1 w2).drew.trans (Chg.of_below (hb3.trans (hb4.mono hb3.size)))).trans hc5) (fun k hk e => (HC2.out.2 k e).elim (fun e => e) (fun e' => by omega)), fun k hk => (hk5 k hk).elim (HC2.out.2 k) (fun e => .inr (by omega))⟩)
  have HP := hidZ (storePuts_any (p := p) (id := n7) ((framed_worldIs p _).star HX.out) HQ.out.1 HQ.out.2.1 HQ.out.2.2 (show 1 ≤ W.items.length + 1 from Nat.le_add_left 1 _) HS5.out)
  clear hs5 hc5 hk5 hp5 hs4 hb3 hb4 hHf
  go_wp2_with fail
  refine HP.out.mono ?_
  rintro e w6 ⟨⟨uu, rfl⟩, hst⟩
  have HST := hidZ (Stp.then HC5.out.1 HC5.out.2 hst)
  clear hst
  go_wp2_with fail
  exact bodyPost_end (results_none (by exact Tryz.results196) _ _ _) rfl ⟨⟨_, rfl⟩, HST.out⟩
theorem doesComes3 {p x bx i7 : Nat} {op thn act : Value} {m : StM} {W : WorldM} {X : Thing} (hX : Framed X) (hW : W.Ok) (hq : Bkt m.b m.k) (hs4 : m.s < 4) (hh : m.h < 18446744073709551616) (hl : W.items.length % 64 = 0) (hn : W.items.length < 1048576)
  (hi : W.cells.f 7 = i7) (hi7 : i7 + 1 < 18446744073709551616) (hep : m.epoch < 18446744073709551616) (hexp : -9223372036854775808 ≤ m.exp ∧ m.exp ≤ 9223372036854775807) (hbx : ∀ V S0, X V S0 → V.cell? ⟨bx, 0, none⟩ = some (ptrN x)) :
  Doing 269 #[ptrN p, ptrN bx] (Star (Star (WorldIs p W) X) (StoreB x op thn act m)) (PutPh x m (Star (WorldIs p (itemW (addW W 7 1) (recI m (i7 + 1)))) X) (fun o => PutIs o (tagsA m.b m.k) (itemA m.b m.k m.s) m.s 0 0 (tagN m.h) (W.items.length + 1)) (i7 + 1)) := by
 refine ⟨fun _ => by kernel_rfl, fun w S h => ?_⟩
 have b0 : w.cell? ⟨bx, 0, none⟩ = some (ptrN x) := by
  obtain ⟨T1, T2, ⟨T3, T4, -, a2, -⟩, -⟩ := h
  exact hbx w T4 a2
 have HM := hidZ (storeRecords_any hX hW hq hs4 hh hl hn hi hi7 hep hexp h)
 have hmf := @mkFn Tryz.prog
 clear h hX hW hq hs4 hh hl hn hi hi7 hep hexp hbx
 go_enter Tryz.func269, Tryz.ntmps269
 go_wp2_with fail
 refine HM.out.mono ?_
 rintro e w5 ⟨⟨uu, rfl⟩, hst⟩
 go_wp2_with fail
 exact bodyPost_end (results_none (by exact Tryz.results269) _ _ _) rfl ⟨⟨_, rfl⟩, hst⟩
end Go.Proofs.YtnkkoicbnbjlnaaGreatDoor
