/- puts: an item into a slot. No condition. And what goes with it (3 texts). -/
import Derived.Test.YtnkkoicbnbjlnaaGreatDoorMdC
import Derived.Test.YtnkkoicbnbjlnaaGreatDoorLowA
namespace Go.Proofs.YtnkkoicbnbjlnaaGreatDoor
set_option maxRecDepth 100000
set_option maxHeartbeats 8000000
open Go.RowKit Go.ChangeMaps Go.MapKept
def storeW (W : WorldM) (a v : Nat) : WorldM := { W with cells := W.cells.acc 2 a v }
theorem storeAt {p pc a v : Nat} {W : WorldM} {B : Thing} {V : World} {S : Nat → Prop} (hB : Framed B) (h : Star (WorldIs p W) B V S) (ht : W.tickets.length = 64) (ha : U64 a) (hn : W.cells.count < 4611686018427387904) (hpc : V.cell? ⟨p, 0, none⟩ = some (ptrN pc)) :
  Calls Tryz.prog 227 #[ptrN pc, addrN a, .int .u64 (v : Int)] V fun e w' => (∃ u, e = .returned u) ∧ Stp (Star (WorldIs p (storeW W a v)) B) S V w' ∧ w'.cell? ⟨p, 0, none⟩ = some (ptrN pc) := by
 obtain ⟨pc', S3, c0, hcs, hp3, -, hup⟩ := Star.cellsW hB ht h
 obtain rfl : pc = pc' := by
  have h1 := hpc.symm.trans c0
  simpa using h1
 refine (cstore_any (v := v) hcs ha hn).mono ?_
 rintro e w' ⟨rfl, hst⟩
 exact ⟨⟨_, rfl⟩, hup _ _ hst, hst.chg.cell c0 hp3⟩
theorem chg_cells : ∀ (vs : List Value) (g o : Nat) (W : World), Chg (fun k => k = g) W (W.setCells g o vs)
 | [], _, _, _ => Chg.refl _ _
 | v :: vs, g, o, W => (Chg.set (M := fun k => k = g) (Chg.refl _ W) (fun _ => rfl) v).trans (chg_cells vs g (o + 1) _)
theorem there_block {w : World} {g : Nat} {cs : Array Value} {t : TypeId} (h : w.heap[g]? = some (.cells cs t (0, 0))) : w.there g 0 cs.size := fun j hj => by
 obtain ⟨h1, h2⟩ := cellsAt h (0 + j)
 exact ⟨by rw [h1, Nat.zero_add]; simp [hj], h2⟩
theorem there_below {w w' : World} {b n : Nat} (h : w.there b 0 (n + 1)) (hb : Below w.heap.size w w') : w'.there b 0 (n + 1) := by
 obtain ⟨h1, -⟩ := h 0 (by omega)
 obtain ⟨v, hv⟩ := Option.isSome_iff_exists.1 h1
 exact there_keep h (Chg.of_below (M := fun _ => False) hb) (cell_lt hv) (fun e => e)
theorem range_below {w w' : World} {b o : Nat} {cs : List Value} (h : w.rangeAt b o cs) (hb : Below w.heap.size w w') : w'.rangeAt b o cs := range_keep h (Chg.of_below (M := fun _ => False) hb) (fun e => e)
theorem range_pre2 {w : World} {g : Nat} {x y z : Value} (h : w.rangeAt g 0 [x, y, z]) : w.rangeAt g 0 [x, y] := fun j v hv => by
 rcases j with _ | _ | j
 ·exact h 0 v hv
 ·exact h 1 v hv
 ·simp at hv
abbrev putF (f : Nat) : Value := .func (.func f) #[] #[]
abbrev putsV : Value := .agg #[putF 463, putF 464, putF 465]
theorem puts_any (w : World) : Calls Tryz.prog 462 #[] w fun e w' => e = .returned putsV ∧ Below w.heap.size w w' := by
 have hsf := fun (fn : Fn) (first cap : Array Value) (a : Addr) (w : World) => run_store Tryz.prog w a (.func fn first cap) .plain rfl
 go_enter Tryz.func462, Tryz.ntmps462
 go_wp2_with fail
 have hm := heap_mem w (.cells #[putF 463, putF 464, putF 465] 542)
 have y0 := (cellsAt hm 0).1
 have y1 := (cellsAt hm 1).1
 have y2 := (cellsAt hm 2).1
 simp only [List.getElem?_toArray, List.getElem?_cons_zero, List.getElem?_cons_succ] at y0 y1 y2
 exact bodyPost_ret (v := putsV) (by simp [results, Tryz.results462, go_sem, y0, y1, y2]) rfl ⟨rfl, (Below.refl _ _).alloc (Nat.le_refl _) _⟩
theorem tagsA_pos {b k : Nat} : tagsA b k ≠ 0 := by unfold tagsA; omega
theorem itemA_pos {b k s : Nat} : itemA b k s ≠ 0 := by unfold itemA; omega
abbrev slotV (b k s : Nat) : Value := .agg #[addrN (tagsA b k), addrN (itemA b k s), .int .i64 (s : Int), .int .u64 0, .int .i64 0]
theorem putsOf_any {b k s : Nat} (hq : Bkt b k) (hs : s < 4) (w : World) : Calls Tryz.prog 240 #[spotV b k s] w fun e w' => e = .returned (slotV b k s) ∧ Below w.heap.size w w' := by
 obtain ⟨w1, hw1⟩ := xE ((w.alloc (.cells #[.int .i64 (b : Int), .int .i64 (k : Int), .int .i64 (s : Int)] 132)).alloc (.cells #[.int .u64 0, .int .u64 0, .int .i64 0, .int .u64 0, .int .i64 0] 353))
 have hb1 : Below w.heap.size w w1 := by rw [hw1]; exact ((Below.refl _ _).alloc (Nat.le_refl _) _).alloc (by rw [size_at]; omega) _
 have hsp : w1.heap[w.heap.size]? = some (.cells #[.int .i64 (b : Int), .int .i64 (k : Int), .int .i64 (s : Int)] 132 (0, 0)) := by rw [hw1, heap_at, if_neg (by rw [size_at]; omega), heap_at, if_pos rfl]
 have hsl : w1.heap[w.heap.size + 1]? = some (.cells #[.int .u64 0, .int .u64 0, .int .i64 0, .int .u64 0, .int .i64 0] 353 (0, 0)) := by rw [hw1, heap_at, if_pos (by rw [size_at])]
 obtain ⟨q, hqq⟩ := xE (w.heap.size)
 obtain ⟨z, hz⟩ := xE (w.heap.size + 1)
 rw [← hqq] at hsp
 rw [← hz] at hsl
 have y0 : w1.cell? ⟨q, 0, none⟩ = some (.int .i64 (b : Int)) := (cellsAt hsp 0).1
 have y1 : w1.cell? ⟨q, 1, none⟩ = some (.int .i64 (k : Int)) := (cellsAt hsp 1).1
 have y2 : w1.cell? ⟨q, 2, none⟩ = some (.int .i64 (s : Int)) := (cellsAt hsp 2).1
 have hqz : q ≠ z := by omega
 have HB := hidZ hb1
 have HQZ := hidZ (And.intro hqq hz)
 have HQ := hidZ (And.intro (fun w => tagsA_any hq w) (fun w => itemA_any hq hs w))
 have hn0 : ((itemA b k s : Int) == 0) = false := by have := @itemA_pos b k s; rw [beq_eq_false_iff_ne]; omega
 unfold slotV
 obtain ⟨ta, hta⟩ := xE (tagsA b k)
 obtain ⟨tt, htt⟩ := xE (itemA b k s)
 rw [← hta] at HQ ⊢
 rw [← htt] at HQ hn0 ⊢
 clear hb1 hq hta htt hs
 go_enter Tryz.func240, Tryz.ntmps240
 go_upto_region 1 with fail
 rw [← hw1, ← hz, ← hqq]
 clear hw1 hz hqq
 go_wp2_with fail
 refine (HQ.out.2 w1).mono ?_
 rintro e w2 ⟨rfl, hb2⟩
 have hsp2 := boxAt hsp hb2
 have hsl2 := boxAt hsl hb2
 have HB2 := hidZ (HB.out.trans (hb2.mono HB.out.size))
 have hth : w2.there z 0 5 := there_block hsl2
 have hrg : w2.rangeAt q 0 [.int .i64 (b : Int), .int .i64 (k : Int), .int .i64 (s : Int)] := World.rangeAt_of_cells hsp2
 clear hb2 hsp hsl y0 y1 y2 hsl2
 go_upto_region 3 with fail
 refine wp_region_held_drew (S := fun V => V.rangeAt q 0 [.int .i64 (b : Int), .int .i64 (k : Int), .int .i64 (s : Int)] ∧ V.there z 0 5) (by kernel_rfl) ⟨hrg, hth⟩ (fun hHe => ?_)
 refine tkz 0 rfl ?_
 try simp only [tp, tz]
 refine wpAnyH_take (i := 1) rfl (by kernel_rfl) (by kernel_rfl) (by kernel_rfl) (fun _ _ _ h => h) (yieldsIf_load_mid (by rfl) 130 (.tmp 7) (by rfl) q 0 (by rfl) [.int .i64 (b : Int), .int .i64 (k : Int)] _ (fun w hSw => range_pre2 hSw.1) Tryz.underlying130 rfl (by kernel_rfl)) (by assumption) ?_
 try simp only [tp, tz]
 refine wpAnyH_take (i := 3) rfl (by kernel_rfl) (by kernel_rfl) (by kernel_rfl) (fun _ _ _ h => h) (yieldsIf_load_mid (by rfl) 132 (.tmp 1) (by rfl) q 0 (by rfl) [.int .i64 (b : Int), .int .i64 (k : Int), .int .i64 (s : Int)] _ (fun w hSw => hSw.1) Tryz.underlying132 rfl (by kernel_rfl)) (by assumption) ?_
 try simp only [tp, tz]
 refine tkz 5 rfl ?_
 try simp only [tp, tz]
 refine tkv 6 (v := ?_) rfl ?_ ?_
 rotate_left 1
 ·((intro w hSw; (try dsimp only at hSw); have c2 : w.cell? ⟨q, 2, none⟩ = some (.int .i64 (s : Int)) := hSw.1 2 _ rfl; go_simp) <;> with_reducible rfl)
 try simp only [tp, tz]
 refine rdy 2 rfl (fun K hK => ?_)
 go_simp
 go_at_call 257
 refine (HQ.out.1 _).mono ?_
 rintro e w3 ⟨rfl, hb3⟩
 refine hK.out _ _ ⟨range_below hHe.1 hb3, there_below hHe.2 hb3⟩ (fun hHf => ?_)
 clear hK K
 try simp only [tp, tz]
 refine rdy 4 rfl (fun K hK => ?_)
 go_simp
 go_at_call 228
 refine (HQ.out.2 w3).mono ?_
 rintro e w4 ⟨rfl, hb4⟩
 refine hK.out _ _ ⟨range_below hHf.1 hb4, there_below hHf.2 hb4⟩ (fun hHf => ?_)
 clear hK K
 try simp only [tp, tz]
 refine tkz 7 rfl ?_
 try simp only [tp, tz]
 have HB4 := hidZ (HB2.out.trans (((Below.refl _ w2).drew.trans (hb3.trans (hb4.mono hb3.size))).mono HB2.out.size))
 clear hb3 hb4 hHe
 have hr := World.rangeAt_setCells_same w4 z 0 [addrN ta, addrN tt, .int .i64 (s : Int), .int .u64 0, .int .i64 0] hHf.2
 have hk1 : (w4.setCells z 0 [addrN ta, addrN tt, .int .i64 (s : Int), .int .u64 0, .int .i64 0]).rangeAt q 0 [.int .i64 (b : Int), .int .i64 (k : Int), .int .i64 (s : Int)] := World.rangeAt_setCells_apart hHf.1 _ _ _ (.inl hqz)
 have hk2 : (w4.setCells z 0 [addrN ta, addrN tt, .int .i64 (s : Int), .int .u64 0, .int .i64 0]).there z 0 5 := World.there_setCells hHf.2 _ _ _
 refine rdy 8 rfl (fun K hK => ?_)
 rw [if_pos (by rfl)]
 refine wp_store_mid 353 (.tmp 2) (.tmp 14) (by rfl) z 0 #[addrN ta, addrN tt, .int .i64 (s : Int), .int .u64 0, .int .i64 0] (by rfl) (by rfl) hHf.2 (by kernel_rfl) (by simp [Value.oneCell']) ?_
 refine hK.out _ _ ⟨hk1, hk2⟩ (fun hHf => ?_)
 clear hK K
 try simp only [Act.put, tzD, tzE, tzF]
 refine wpAnyH_done (by kernel_rfl) ?_ _
 have c0 := hr 0 _ rfl
 have c1 := hr 1 _ rfl
 have c2 := hr 2 _ rfl
 have c3 := hr 3 _ rfl
 have c4 := hr 4 _ rfl
 simp only [Nat.zero_add] at c0 c1 c2 c3 c4
 have hbe : Below w.heap.size w (w4.setCells z 0 [addrN ta, addrN tt, .int .i64 (s : Int), .int .u64 0, .int .i64 0]) := HB4.out.trans ((chg_cells [addrN ta, addrN tt, .int .i64 (s : Int), .int .u64 0, .int .i64 0] z 0 w4).below (fun k hk => ⟨by have := HB4.out.size; omega, fun e => by have := HQZ.out.2; omega⟩))
 go_wp2_with fail
 exact bodyPost_ret (v := .agg #[addrN ta, addrN tt, .int .i64 (s : Int), .int .u64 0, .int .i64 0]) (by simp [results, Tryz.results240, go_sem, c0, c1, c2, c3, c4]) rfl ⟨rfl, hbe⟩
def putCells (ta tt s u line tag ref : Nat) : List Value := [addrN ta, addrN tt, .int .i64 (s : Int), .int .u64 (u : Int), .int .i64 (line : Int), .int .i64 (tag : Int), .int .i64 (ref : Int)]
def PutIs (x ta tt s u line tag ref : Nat) : Thing := Blk x (putCells ta tt s u line tag ref) 442
theorem framed_put (x ta tt s u line tag ref : Nat) : Framed (PutIs x ta tt s u line tag ref) := framed_blk _ _ _ (by decide)
theorem newPut_any {b k s tag ref : Nat} (hq : Bkt b k) (hs : s < 4) (h1 : 1 ≤ tag) (h2 : tag ≤ 255) (h3 : 1 ≤ ref) (w : World) : Calls Tryz.prog 296 #[spotV b k s, .int .i64 (tag : Int), .int .i64 (ref : Int)] w fun e w' => ∃ n, e = .returned (ptrN n) ∧ Made (PutIs n (tagsA b k) (itemA b k s) s 0 0 tag ref) w w' := by
 obtain ⟨w1, hw1⟩ := xE (w.alloc (.cells #[.int .i64 (b : Int), .int .i64 (k : Int), .int .i64 (s : Int)] 132))
 have hb1 : Below w.heap.size w w1 := bal hw1
 have hsp : w1.heap[w.heap.size]? = some (.cells #[.int .i64 (b : Int), .int .i64 (k : Int), .int .i64 (s : Int)] 132 (0, 0)) := by rw [hw1, heap_at, if_pos rfl]
 obtain ⟨q, hqq⟩ := xE (w.heap.size)
 rw [← hqq] at hsp
 have y0 : w1.cell? ⟨q, 0, none⟩ = some (.int .i64 (b : Int)) := (cellsAt hsp 0).1
 have y1 : w1.cell? ⟨q, 1, none⟩ = some (.int .i64 (k : Int)) := (cellsAt hsp 1).1
 have y2 : w1.cell? ⟨q, 2, none⟩ = some (.int .i64 (s : Int)) := (cellsAt hsp 2).1
 have HB := hidZ hb1
 have HOF := hidZ (putsOf_any hq hs w1)
 have n1 : decide ((tag : Int) < 1) = false := by rw [decide_eq_false_iff_not]; omega
 have n2 : decide ((255 : Int) < (tag : Int)) = false := by rw [decide_eq_false_iff_not]; omega
 have n3 : decide ((ref : Int) < 1) = false := by rw [decide_eq_false_iff_not]; omega
 clear hb1 hq hsp h1 h2 h3
 unfold slotV at HOF
 obtain ⟨ta, hta⟩ := xE (tagsA b k)
 obtain ⟨tt, htt⟩ := xE (itemA b k s)
 rw [← hta] at HOF ⊢
 rw [← htt] at HOF ⊢
 clear hta htt hs
 go_enter Tryz.func296, Tryz.ntmps296
 go_upto_region 1 with fail
 rw [← hw1, ← hqq]
 clear hw1 hqq
 go_wp2_with fail
 refine HOF.out.mono ?_
 rintro e w2 ⟨rfl, hb2⟩
 have hbb := HB.out.trans (hb2.mono HB.out.size)
 clear hb2 HOF
 go_wp2_with fail
 go_ret
 exact ⟨w2.heap.size, rfl, ⟨fun k => k = w2.heap.size, ⟨heap_mem w2 _, fun _ => Iff.rfl⟩, fun k hk => by rw [hk]; exact hbb.size⟩, hbb.alloc hbb.size _⟩
theorem putOver_any {w : World} {x ta tt s u line tag ref : Nat} (h : w.heap[x]? = some (.cells (putCells ta tt s u line tag ref).toArray 442 (0, 0))) (ht : ta ≠ 0) : Calls Tryz.prog 460 #[ptrN x] w fun e w' => e = .returned (.bool (decide (line = 3))) ∧ Below w.heap.size w w' := by
 have c0 : w.cell? ⟨x, 0, none⟩ = some (addrN ta) := (cellsAt h 0).1
 have c4 : w.cell? ⟨x, 4, none⟩ = some (.int .i64 (line : Int)) := (cellsAt h 4).1
 have hz : ((ta : Int) == 0) = false := by rw [beq_eq_false_iff_ne]; omega
 obtain ⟨r, hr⟩ := xE (decide (line = 3))
 have hl : ((line : Int) == 3) = r := by rw [hr, Bool.eq_iff_iff]; simp; omega
 rw [← hr]
 clear h ht hr
 go_enter Tryz.func460, Tryz.ntmps460
 go_upto_region 1 with fail
 refine wp_region_held_drew (S := fun V => V.cell? ⟨x, 0, none⟩ = some (addrN ta) ∧ V.cell? ⟨x, 4, none⟩ = some (.int .i64 (line : Int))) (by kernel_rfl) ⟨c0, c4⟩ (fun hHe => ?_)
 refine tkz 0 rfl ?_
 try simp only [tp, tz]
 refine tkz 1 rfl ?_
 try simp only [tp, tz]
 refine tkz 2 rfl ?_
 try simp only [tp, tz]
 refine tkz 3 rfl ?_
 try simp only [tp, tz]
 refine tkz 4 rfl ?_
 try simp only [tp, tz]
 refine tkz 5 rfl ?_
 try simp only [tp, tz]
 refine tkz 6 rfl ?_
 try simp only [tp, tz]
 refine tkw 7 rfl ?_
 try simp only [tp, tz]
 refine tkz 8 rfl ?_
 try simp only [tp, tz]
 refine tkz 9 rfl ?_
 try simp only [tp, tz]
 refine tkz 10 rfl ?_
 try simp only [tp, tz]
 refine tkz 11 rfl ?_
 try simp only [tp, tz]
 refine tkz 12 rfl ?_
 try simp only [tp, tz]
 refine tkz 13 rfl ?_
 try simp only [tp, tz]
 refine tkz 14 rfl ?_
 try simp only [tp, tz]
 refine tkw 15 rfl ?_
 try simp only [tp, tz]
 refine rdy 16 rfl (fun K hK => ?_)
 go_simp
 go_at_call 462
 refine (puts_any _).mono ?_
 rintro e w3 ⟨rfl, hb3⟩
 refine hK.out _ _ ⟨(hb3.cell (p := ⟨x, 0, none⟩) (cell_lt hHe.1)).trans hHe.1, (hb3.cell (p := ⟨x, 4, none⟩) (cell_lt hHe.2)).trans hHe.2⟩ (fun hHf => ?_)
 clear hK K
 try simp only [tp, tz]
 refine tkz 17 rfl ?_
 try simp only [tp, tz]
 refine tkz 18 rfl ?_
 try simp only [tp, tz]
 refine tkz 19 rfl ?_
 try simp only [tp, tz]
 refine tkz 20 rfl ?_
 try simp only [tp, tz]
 refine wpAnyH_done (by kernel_rfl) ?_ _
 clear hHe
 have hbe : Below w.heap.size w w3 := (Below.refl _ w).drew.trans hb3
 go_wp2_with fail
 go_ret
 exact ⟨rfl, hbe⟩
theorem Star.putOver {A : Thing} {x ta tt s u line tag ref : Nat} {w : World} {S : Nat → Prop} (h : Star A (PutIs x ta tt s u line tag ref) w S) (ht : ta ≠ 0) : Calls Tryz.prog 460 #[ptrN x] w fun e w' => e = .returned (.bool (decide (line = 3))) ∧ Below w.heap.size w w' := by
 obtain ⟨S1, S2, -, f1, -⟩ := h
 exact putOver_any f1.1 ht
theorem putFirst_any {w : World} {p x ta tt s u line tag ref : Nat} {W : WorldM} {S : Nat → Prop} (h : Star (WorldIs p W) (PutIs x ta tt s u line tag ref) w S) (hW : W.Ok) (ht : U64 tt) (hr : ref < 9223372036854775808) :
  Calls Tryz.prog 463 #[ptrN x, ptrN p] w fun e w' => (∃ u, e = .returned u) ∧ Stp (Star (WorldIs p (storeW W tt ref)) (PutIs x ta tt s u line tag ref)) S w w' := by
 obtain ⟨pc, S3, c0, -, -, -, -⟩ := Star.cellsW (framed_put x ta tt s u line tag ref) hW.tickets h
 have x1 : w.cell? ⟨x, 1, none⟩ = some (addrN tt) := (Star.cellB h (j := 1) rfl).1
 have x6 : w.cell? ⟨x, 6, none⟩ = some (.int .i64 (ref : Int)) := (Star.cellB h (j := 6) rfl).1
 have HH := hidZ h
 have HW := hidZ hW
 have hcv : IntKind.u64.wrap (ref : Int) = (ref : Int) := by rw [IntKind.wrap_u64]; omega
 clear h hW hr
 go_enter Tryz.func463, Tryz.ntmps463
 go_upto_region 0 with fail
 refine wp_region_held_drew (S := fun V => V.cell? ⟨p, 0, none⟩ = some (ptrN pc) ∧ V.cell? ⟨x, 1, none⟩ = some (addrN tt) ∧ V.cell? ⟨x, 6, none⟩ = some (.int .i64 (ref : Int))) (by kernel_rfl) ⟨c0, x1, x6⟩ (fun hHe => ?_)
 refine tkz 0 rfl ?_
 try simp only [tp, tz]
 refine tkz 1 rfl ?_
 try simp only [tp, tz]
 refine tkz 2 rfl ?_
 try simp only [tp, tz]
 refine tkw 3 rfl ?_
 try simp only [tp, tz]
 refine tkz 4 rfl ?_
 try simp only [tp, tz]
 refine tkz 5 rfl ?_
 try simp only [tp, tz]
 refine tkz 6 rfl ?_
 try simp only [tp, tz]
 refine tkz 7 rfl ?_
 try simp only [tp, tz]
 refine tkw 8 rfl ?_
 try simp only [tp, tz]
 refine tkz 9 rfl ?_
 try simp only [tp, tz]
 refine tkz 10 rfl ?_
 try simp only [tp, tz]
 refine tkz 11 rfl ?_
 try simp only [tp, tz]
 refine tkw 12 rfl ?_
 try simp only [tp, tz]
 refine tkz 13 rfl ?_
 try simp only [tp, tz]
 refine rdy 14 rfl (fun K hK => ?_)
 go_simp
 go_at_call 227
 refine (storeAt (framed_put x ta tt s u line tag ref) (Star.drew (framed_worldIs p W) (framed_put x ta tt s u line tag ref) HH.out) HW.out.tickets ht HW.out.count hHe.1).mono ?_
 rintro e w2 ⟨⟨uu, rfl⟩, ⟨S4, hs4, hc4, hk4⟩, hpc2⟩
 refine hK.out _ _ ⟨hpc2, (Star.cellB hs4 (j := 1) rfl).1, (Star.cellB hs4 (j := 6) rfl).1⟩ (fun hHf => ?_)
 clear hK K
 try simp only [tp, tz]
 refine wpAnyH_done (by kernel_rfl) ?_ _
 have HST := hidZ (show Stp (Star (WorldIs p (storeW W tt ref)) (PutIs x ta tt s u line tag ref)) S w w2 from ⟨S4, hs4, (Chg.refl S w).drew.trans hc4, hk4⟩)
 clear hs4 hc4 hk4 hHf hpc2
 go_wp2_with fail
 exact bodyPost_end (results_none (by exact Tryz.results463) _ _ _) rfl ⟨⟨_, rfl⟩, HST.out⟩
theorem slotLoad_any {w : World} {p x ta tt s u line tag ref : Nat} {W : WorldM} {S : Nat → Prop} (h : Star (WorldIs p W) (PutIs x ta tt s u line tag ref) w S) (hW : W.Ok) (ht : U64 ta) :
  Calls Tryz.prog 375 #[ptrN x, ptrN p] w fun e w' => (∃ u, e = .returned u) ∧ Stp (Star (WorldIs p (loadW W ta)) (PutIs x ta tt s (W.cells.f ta) line tag ref)) S w w' := by
 obtain ⟨pc, S3, c0, -, -, -, -⟩ := Star.cellsW (framed_put x ta tt s u line tag ref) hW.tickets h
 have x0 : w.cell? ⟨x, 0, none⟩ = some (addrN ta) := (Star.cellB h (j := 0) rfl).1
 have HH := hidZ h
 have HW := hidZ hW
 clear h hW
 go_enter Tryz.func375, Tryz.ntmps375
 go_upto_region 0 with fail
 refine wp_region_held_drew (S := fun V => V.cell? ⟨p, 0, none⟩ = some (ptrN pc) ∧ V.cell? ⟨x, 0, none⟩ = some (addrN ta)) (by kernel_rfl) ⟨c0, x0⟩ (fun hHe => ?_)
 refine tkz 0 rfl ?_
 try simp only [tp, tz]
 refine tkz 1 rfl ?_
 try simp only [tp, tz]
 refine tkz 2 rfl ?_
 try simp only [tp, tz]
 refine tkz 3 rfl ?_
 try simp only [tp, tz]
 refine tkw 4 rfl ?_
 try simp only [tp, tz]
 refine tkz 5 rfl ?_
 try simp only [tp, tz]
 refine tkz 6 rfl ?_
 try simp only [tp, tz]
 refine tkz 7 rfl ?_
 try simp only [tp, tz]
 refine tkw 8 rfl ?_
 try simp only [tp, tz]
 refine rdy 9 rfl (fun K hK => ?_)
 go_simp
 go_at_call 186
 refine (loadAt (framed_put x ta tt s u line tag ref) (Star.drew (framed_worldIs p W) (framed_put x ta tt s u line tag ref) HH.out) HW.out.tickets ht HW.out.count hHe.1).mono ?_
 rintro e w2 ⟨rfl, ⟨S4, hs4, hc4, hk4⟩, hpc2⟩
 refine hK.out _ _ ⟨hpc2, (Star.cellB hs4 (j := 0) rfl).1⟩ (fun hHf => ?_)
 clear hK K
 try simp only [tp, tz]
 obtain ⟨k3, m3⟩ := Star.cellB hs4 (j := 3) (v := .int .u64 (u : Int)) rfl
 obtain ⟨hs5, hc5⟩ := hs4.setB (framed_worldIs p _) (by decide) 3 (.int .u64 (W.cells.f ta : Int))
 have HST := hidZ (show Stp (Star (WorldIs p (loadW W ta)) (PutIs x ta tt s (W.cells.f ta) line tag ref)) S w (w2.setCell ⟨x, 3, none⟩ (.int .u64 (W.cells.f ta : Int))) from ⟨S4, hs5, ((Chg.refl S w).drew.trans hc4).then hc5 (fun k hk e => (hk4 k e).elim id (fun e' => by have h2 : w.drew.heap.size = w.heap.size := rfl; omega)), hk4⟩)
 have hp3 : (w2.setCell ⟨x, 3, none⟩ (.int .u64 (W.cells.f ta : Int))).cell? ⟨p, 0, none⟩ = some (ptrN pc) := (World.cell?_setCell_other w2 ⟨x, 3, none⟩ ⟨p, 0, none⟩ _ (by simp)).trans hpc2
 have hx3 : (w2.setCell ⟨x, 3, none⟩ (.int .u64 (W.cells.f ta : Int))).cell? ⟨x, 0, none⟩ = some (addrN ta) := (Star.cellB hs5 (j := 0) rfl).1
 clear hs4 hc4 hk4 hpc2 hs5 hc5
 refine tkz 10 rfl ?_
 try simp only [tp, tz]
 refine tkz 11 rfl ?_
 try simp only [tp, tz]
 refine rdy 12 rfl (fun K hK => ?_)
 go_simp
 refine hK.out _ _ ⟨hp3, hx3⟩ (fun hHf => ?_)
 clear hK K
 try simp only [tp, tz]
 refine wpAnyH_done (by kernel_rfl) ?_ _
 go_wp2_with fail
 exact bodyPost_end (results_none (by exact Tryz.results375) _ _ _) rfl ⟨⟨_, rfl⟩, HST.out⟩
theorem putSecond_any {w : World} {p x ta tt s u line tag ref : Nat} {W : WorldM} {S : Nat → Prop} (h : Star (WorldIs p W) (PutIs x ta tt s u line tag ref) w S) (hW : W.Ok) (ht : U64 ta) :
  Calls Tryz.prog 464 #[ptrN x, ptrN p] w fun e w' => (∃ u, e = .returned u) ∧ Stp (Star (WorldIs p (loadW W ta)) (PutIs x ta tt s (W.cells.f ta) line tag ref)) S w w' := by
 have HL := hidZ (slotLoad_any h hW ht)
 clear h hW ht
 go_enter Tryz.func464, Tryz.ntmps464
 go_wp2_with fail
 refine HL.out.mono ?_
 rintro e w2 ⟨⟨u, rfl⟩, hst⟩
 go_wp2_with fail
 exact bodyPost_end (results_none (by exact Tryz.results464) _ _ _) rfl ⟨⟨_, rfl⟩, hst⟩
theorem slotStore_any {w : World} {p x ta tt s u line tag ref t : Nat} {W : WorldM} {S : Nat → Prop} (h : Star (WorldIs p W) (PutIs x ta tt s u line tag ref) w S) (hW : W.Ok) (ht : U64 ta) (hu : U64 u) (hs : s < 4) (htag : t < 256) :
  Calls Tryz.prog 376 #[ptrN x, ptrN p, .int .i64 (t : Int)] w fun e w' => (∃ u, e = .returned u) ∧ Stp (Star (WorldIs p (storeW W ta (withN u s t))) (PutIs x ta tt s u line tag ref)) S w w' := by
 obtain ⟨pc, S3, c0, -, -, -, -⟩ := Star.cellsW (framed_put x ta tt s u line tag ref) hW.tickets h
 have x0 : w.cell? ⟨x, 0, none⟩ = some (addrN ta) := (Star.cellB h (j := 0) rfl).1
 have x2 : w.cell? ⟨x, 2, none⟩ = some (.int .i64 (s : Int)) := (Star.cellB h (j := 2) rfl).1
 have x3 : w.cell? ⟨x, 3, none⟩ = some (.int .u64 (u : Int)) := (Star.cellB h (j := 3) rfl).1
 have HH := hidZ h
 have HW := hidZ hW
 have HWI := hidZ (fun w => with_any u s t hu hs htag w)
 obtain ⟨wn, hwn⟩ := xE (withN u s t)
 rw [← hwn] at HWI ⊢
 clear h hW hwn hu hs htag
 go_enter Tryz.func376, Tryz.ntmps376
 go_upto_region 0 with fail
 refine wp_region_held_drew (S := fun V => V.cell? ⟨p, 0, none⟩ = some (ptrN pc) ∧ V.cell? ⟨x, 0, none⟩ = some (addrN ta) ∧ V.cell? ⟨x, 2, none⟩ = some (.int .i64 (s : Int)) ∧ V.cell? ⟨x, 3, none⟩ = some (.int .u64 (u : Int))) (by kernel_rfl) ⟨c0, x0, x2, x3⟩ (fun hHe => ?_)
 refine tkz 0 rfl ?_
 try simp only [tp, tz]
 refine tkz 1 rfl ?_
 try simp only [tp, tz]
 refine tkz 2 rfl ?_
 try simp only [tp, tz]
 refine tkw 3 rfl ?_
 try simp only [tp, tz]
 refine tkz 4 rfl ?_
 try simp only [tp, tz]
 refine tkz 5 rfl ?_
 try simp only [tp, tz]
 refine tkz 6 rfl ?_
 try simp only [tp, tz]
 refine tkw 7 rfl ?_
 try simp only [tp, tz]
 refine tkz 8 rfl ?_
 try simp only [tp, tz]
 refine tkz 9 rfl ?_
 try simp only [tp, tz]
 refine tkz 10 rfl ?_
 try simp only [tp, tz]
 refine tkw 11 rfl ?_
 try simp only [tp, tz]
 refine tkz 12 rfl ?_
 try simp only [tp, tz]
 refine tkz 13 rfl ?_
 try simp only [tp, tz]
 refine tkz 14 rfl ?_
 try simp only [tp, tz]
 refine tkw 15 rfl ?_
 try simp only [tp, tz]
 refine tkz 16 rfl ?_
 try simp only [tp, tz]
 refine rdy 17 rfl (fun K hK => ?_)
 go_simp
 go_at_call 377
 refine (HWI.out _).mono ?_
 rintro e w1 ⟨rfl, hb1⟩
 refine hK.out _ _ ⟨(hb1.cell (p := ⟨p, 0, none⟩) (cell_lt hHe.1)).trans hHe.1, (hb1.cell (p := ⟨x, 0, none⟩) (cell_lt hHe.2.1)).trans hHe.2.1, (hb1.cell (p := ⟨x, 2, none⟩) (cell_lt hHe.2.2.1)).trans hHe.2.2.1, (hb1.cell (p := ⟨x, 3, none⟩) (cell_lt hHe.2.2.2)).trans hHe.2.2.2⟩ (fun hHf => ?_)
 clear hK K
 try simp only [tp, tz]
 refine rdy 18 rfl (fun K hK => ?_)
 go_simp
 go_at_call 227
 refine (storeAt (framed_put x ta tt s u line tag ref) (((framed_worldIs p W).star (framed_put x ta tt s u line tag ref)).below (Star.drew (framed_worldIs p W) (framed_put x ta tt s u line tag ref) HH.out) hb1) HW.out.tickets ht HW.out.count hHf.1).mono ?_
 rintro e w2 ⟨⟨uu, rfl⟩, ⟨S4, hs4, hc4, hk4⟩, hpc2⟩
 refine hK.out _ _ ⟨hpc2, (Star.cellB hs4 (j := 0) rfl).1, (Star.cellB hs4 (j := 2) rfl).1, (Star.cellB hs4 (j := 3) rfl).1⟩ (fun hHf => ?_)
 clear hK K
 try simp only [tp, tz]
 refine wpAnyH_done (by kernel_rfl) ?_ _
 clear hHe
 have HST := hidZ (show Stp (Star (WorldIs p (storeW W ta wn)) (PutIs x ta tt s u line tag ref)) S w w2 from ⟨S4, hs4, ((Chg.refl S w).drew.trans (Chg.of_below hb1)).trans hc4, fun k hk => (hk4 k hk).imp id (fun e => by have h2 : w.drew.heap.size = w.heap.size := rfl; have := hb1.size; omega)⟩)
 clear hs4 hc4 hk4 hHf hpc2
 go_wp2_with fail
 exact bodyPost_end (results_none (by exact Tryz.results376) _ _ _) rfl ⟨⟨_, rfl⟩, HST.out⟩
theorem putThird_any {w : World} {p x ta tt s u line tag ref : Nat} {W : WorldM} {S : Nat → Prop} (h : Star (WorldIs p W) (PutIs x ta tt s u line tag ref) w S) (hW : W.Ok) (ht : U64 ta) (hu : U64 u) (hs : s < 4) (htag : tag < 256) :
  Calls Tryz.prog 465 #[ptrN x, ptrN p] w fun e w' => (∃ u, e = .returned u) ∧ Stp (Star (WorldIs p (storeW W ta (withN u s tag))) (PutIs x ta tt s u line tag ref)) S w w' := by
 have x5 : w.cell? ⟨x, 5, none⟩ = some (.int .i64 (tag : Int)) := (Star.cellB h (j := 5) rfl).1
 have HH := hidZ (slotStore_any (t := tag) (Star.drew (framed_worldIs p W) (framed_put x ta tt s u line tag ref) h) hW ht hu hs htag)
 clear h hW hu hs htag
 go_enter Tryz.func465, Tryz.ntmps465
 go_upto_region 0 with fail
 refine wp_region_held_drew (S := fun V => V.cell? ⟨x, 5, none⟩ = some (.int .i64 (tag : Int))) (by kernel_rfl) x5 (fun hHe => ?_)
 refine tkz 0 rfl ?_
 try simp only [tp, tz]
 refine tkz 1 rfl ?_
 try simp only [tp, tz]
 refine tkz 2 rfl ?_
 try simp only [tp, tz]
 refine tkz 3 rfl ?_
 try simp only [tp, tz]
 refine tkz 4 rfl ?_
 try simp only [tp, tz]
 refine tkz 5 rfl ?_
 try simp only [tp, tz]
 refine tkz 6 rfl ?_
 try simp only [tp, tz]
 refine tkz 7 rfl ?_
 try simp only [tp, tz]
 refine rdy 8 rfl (fun K hK => ?_)
 go_simp
 go_at_call 376
 refine (HH.out).mono ?_
 rintro e w2 ⟨⟨uu, rfl⟩, ⟨S4, hs4, hc4, hk4⟩⟩
 refine hK.out _ _ (Star.cellB hs4 (j := 5) rfl).1 (fun hHf => ?_)
 clear hK K
 try simp only [tp, tz]
 refine wpAnyH_done (by kernel_rfl) ?_ _
 clear hHe
 have HST := hidZ (show Stp (Star (WorldIs p (storeW W ta (withN u s tag))) (PutIs x ta tt s u line tag ref)) S w w2 from ⟨S4, hs4, (Chg.refl S w).drew.trans hc4, hk4⟩)
 clear hs4 hc4 hk4 hHf
 go_wp2_with fail
 exact bodyPost_end (results_none (by exact Tryz.results465) _ _ _) rfl ⟨⟨_, rfl⟩, HST.out⟩
theorem putStep_first {w : World} {p x ta tt s u tag ref : Nat} {W : WorldM} {S : Nat → Prop} (h : Star (WorldIs p W) (PutIs x ta tt s u 0 tag ref) w S) (hW : W.Ok) (h0 : ta ≠ 0) (ht : U64 tt) (hr : ref < 9223372036854775808) :
  Calls Tryz.prog 461 #[ptrN x, ptrN p] w fun e w' => e = .returned (.bool false) ∧ Stp (Star (WorldIs p (storeW W tt ref)) (PutIs x ta tt s u 1 tag ref)) S w w' := by
 have HC := hidZ (show ∀ V, Star (WorldIs p W) (PutIs x ta tt s u 0 tag ref) V S → Calls Tryz.prog 463 #[ptrN x, ptrN p] V fun e w' => (∃ u, e = .returned u) ∧ Stp (Star (WorldIs p (storeW W tt ref)) (PutIs x ta tt s u 0 tag ref)) S V w' from fun V h' => putFirst_any h' hW ht hr)
 have HO := hidZ (h.putOver h0)
 have HH := hidZ h
 have HT := hidZ h0
 have hix : ∀ V : World, (Instr.index 542 putsV (.int .i64 0)).run Tryz.prog V = .ok (putF 463) V := fun V => by kernel_rfl
 obtain ⟨W', hW'⟩ : ∃ W', W' = (storeW W tt ref) := ⟨_, rfl⟩
 rw [← hW'] at HC
 rw [← hW']
 clear hW' hW h0 h
 go_enter Tryz.func461, Tryz.ntmps461
 go_wp2_with fail
 refine HO.out.mono ?_
 rintro e w1 ⟨rfl, hb1⟩
 have h1 := ((framed_worldIs p W).star (framed_put x ta tt s u 0 tag ref)).below HH.out hb1
 have x4 : w1.cell? ⟨x, 4, none⟩ = some (.int .i64 0) := (Star.cellB h1 (j := 4) rfl).1
 have H1 := hidZ h1
 have HB1 := hidZ hb1
 rw [show decide (0 = 3) = false from rfl]
 clear HO HH h1 hb1
 go_upto_region 2 with fail
 refine wp_region_held_drew (S := fun V => V.cell? ⟨x, 4, none⟩ = some (.int .i64 0)) (by kernel_rfl) x4 (fun hHe => ?_)
 refine tkz 1 rfl ?_
 try simp only [Act.put, tzA, tzD]
 refine tkz 2 rfl ?_
 try simp only [tp, tz]
 refine tkz 3 rfl ?_
 try simp only [tp, tz]
 refine tkz 4 rfl ?_
 try simp only [tp, tz]
 refine tkz 5 rfl ?_
 try simp only [tp, tz]
 refine tkz 7 rfl ?_
 try simp only [tp, tz]
 refine tkz 8 rfl ?_
 try simp only [tp, tz]
 refine rdy 0 rfl (fun K hK => ?_)
 go_simp
 go_at_call 462
 refine (puts_any _).mono ?_
 rintro e w2 ⟨rfl, hb2⟩
 refine hK.out _ _ ((hb2.cell (p := ⟨x, 4, none⟩) (cell_lt hHe)).trans hHe) (fun hHf => ?_)
 clear hK K
 try simp only [tp, tz]
 refine tkz 6 rfl ?_
 try simp only [tp, tz]
 refine rdy 9 rfl (fun K hK => ?_)
 go_simp
 go_at_call 463
 refine (HC.out _ (((framed_worldIs p W).star (framed_put x ta tt s u 0 tag ref)).below (Star.drew (framed_worldIs p W) (framed_put x ta tt s u 0 tag ref) H1.out) hb2)).mono ?_
 rintro e w3 ⟨⟨uu, rfl⟩, ⟨S4, hs4, hc4, hk4⟩⟩
 refine hK.out _ _ (Star.cellB hs4 (j := 4) rfl).1 (fun hHf => ?_)
 clear hK K
 try simp only [tp, tz]
 refine wpAnyH_done (by kernel_rfl) ?_ _
 clear hHe
 obtain ⟨k4, m4⟩ := Star.cellB hs4 (j := 4) (v := .int .i64 0) rfl
 obtain ⟨hs5, hc5⟩ := hs4.setB (framed_worldIs p _) (by decide) 4 (.int .i64 1)
 obtain ⟨w4, hw4⟩ := xE (w3.setCell ⟨x, 4, none⟩ (.int .i64 1))
 rw [← hw4] at hs5 hc5
 have hcc : Chg S w w3 := (Chg.of_below HB1.out).trans (((Chg.refl S w1).drew.trans (Chg.of_below hb2)).trans hc4)
 have hkk : ∀ k, S4 k → S k ∨ w.heap.size ≤ k := fun k hk => (hk4 k hk).imp id (fun e => by have h2 : w1.drew.heap.size = w1.heap.size := rfl; have := hb2.size; have := HB1.out.size; omega)
 have hs5 : Star (WorldIs p W') (PutIs x ta tt s u 1 tag ref) w4 S4 := hs5
 have HO2 := hidZ (hs5.putOver HT.out)
 have HST := hidZ (show Stp (Star (WorldIs p W') (PutIs x ta tt s u 1 tag ref)) S w w4 from ⟨S4, hs5, hcc.then hc5 (fun k hk e => (hkk k e).elim id (fun e' => by omega)), hkk⟩)
 clear hs4 hc4 hk4 hHf hs5 hc5 hcc hkk x4 hb2
 go_upto_region 4 with fail
 rw [← hw4]
 clear hw4 k4 m4
 go_wp2_with fail
 refine HO2.out.mono ?_
 rintro e w5 ⟨rfl, hb5⟩
 have HS5 := hidZ (HST.out.bind (fun S1 h1 => Stp.of_below ((framed_worldIs p W').star (framed_put x ta tt s u 1 tag ref)) h1 hb5))
 go_wp2_with fail
 go_ret
 exact ⟨rfl, HS5.out⟩
theorem putStep_second {w : World} {p x ta tt s u tag ref : Nat} {W : WorldM} {S : Nat → Prop} (h : Star (WorldIs p W) (PutIs x ta tt s u 1 tag ref) w S) (hW : W.Ok) (h0 : ta ≠ 0) (ht : U64 ta) :
  Calls Tryz.prog 461 #[ptrN x, ptrN p] w fun e w' => e = .returned (.bool false) ∧ Stp (Star (WorldIs p (loadW W ta)) (PutIs x ta tt s (W.cells.f ta) 2 tag ref)) S w w' := by
 have HC := hidZ (show ∀ V, Star (WorldIs p W) (PutIs x ta tt s u 1 tag ref) V S → Calls Tryz.prog 464 #[ptrN x, ptrN p] V fun e w' => (∃ u, e = .returned u) ∧ Stp (Star (WorldIs p (loadW W ta)) (PutIs x ta tt s (W.cells.f ta) 1 tag ref)) S V w' from fun V h' => putSecond_any h' hW ht)
 have HO := hidZ (h.putOver h0)
 have HH := hidZ h
 have HT := hidZ h0
 have hix : ∀ V : World, (Instr.index 542 putsV (.int .i64 1)).run Tryz.prog V = .ok (putF 464) V := fun V => by kernel_rfl
 obtain ⟨W', hW'⟩ : ∃ W', W' = (loadW W ta) := ⟨_, rfl⟩
 obtain ⟨u', hu'⟩ : ∃ u', u' = (W.cells.f ta) := ⟨_, rfl⟩
 rw [← hW', ← hu'] at HC
 rw [← hW', ← hu']
 clear hW' hu' hW h0 h
 go_enter Tryz.func461, Tryz.ntmps461
 go_wp2_with fail
 refine HO.out.mono ?_
 rintro e w1 ⟨rfl, hb1⟩
 have h1 := ((framed_worldIs p W).star (framed_put x ta tt s u 1 tag ref)).below HH.out hb1
 have x4 : w1.cell? ⟨x, 4, none⟩ = some (.int .i64 1) := (Star.cellB h1 (j := 4) rfl).1
 have H1 := hidZ h1
 have HB1 := hidZ hb1
 rw [show decide (1 = 3) = false from rfl]
 clear HO HH h1 hb1
 go_upto_region 2 with fail
 refine wp_region_held_drew (S := fun V => V.cell? ⟨x, 4, none⟩ = some (.int .i64 1)) (by kernel_rfl) x4 (fun hHe => ?_)
 refine tkz 1 rfl ?_
 try simp only [Act.put, tzA, tzD]
 refine tkz 2 rfl ?_
 try simp only [tp, tz]
 refine tkz 3 rfl ?_
 try simp only [tp, tz]
 refine tkz 4 rfl ?_
 try simp only [tp, tz]
 refine tkz 5 rfl ?_
 try simp only [tp, tz]
 refine tkz 7 rfl ?_
 try simp only [tp, tz]
 refine tkz 8 rfl ?_
 try simp only [tp, tz]
 refine rdy 0 rfl (fun K hK => ?_)
 go_simp
 go_at_call 462
 refine (puts_any _).mono ?_
 rintro e w2 ⟨rfl, hb2⟩
 refine hK.out _ _ ((hb2.cell (p := ⟨x, 4, none⟩) (cell_lt hHe)).trans hHe) (fun hHf => ?_)
 clear hK K
 try simp only [tp, tz]
 refine tkz 6 rfl ?_
 try simp only [tp, tz]
 refine rdy 9 rfl (fun K hK => ?_)
 go_simp
 go_at_call 464
 refine (HC.out _ (((framed_worldIs p W).star (framed_put x ta tt s u 1 tag ref)).below (Star.drew (framed_worldIs p W) (framed_put x ta tt s u 1 tag ref) H1.out) hb2)).mono ?_
 rintro e w3 ⟨⟨uu, rfl⟩, ⟨S4, hs4, hc4, hk4⟩⟩
 refine hK.out _ _ (Star.cellB hs4 (j := 4) rfl).1 (fun hHf => ?_)
 clear hK K
 try simp only [tp, tz]
 refine wpAnyH_done (by kernel_rfl) ?_ _
 clear hHe
 obtain ⟨k4, m4⟩ := Star.cellB hs4 (j := 4) (v := .int .i64 1) rfl
 obtain ⟨hs5, hc5⟩ := hs4.setB (framed_worldIs p _) (by decide) 4 (.int .i64 2)
 obtain ⟨w4, hw4⟩ := xE (w3.setCell ⟨x, 4, none⟩ (.int .i64 2))
 rw [← hw4] at hs5 hc5
 have hcc : Chg S w w3 := (Chg.of_below HB1.out).trans (((Chg.refl S w1).drew.trans (Chg.of_below hb2)).trans hc4)
 have hkk : ∀ k, S4 k → S k ∨ w.heap.size ≤ k := fun k hk => (hk4 k hk).imp id (fun e => by have h2 : w1.drew.heap.size = w1.heap.size := rfl; have := hb2.size; have := HB1.out.size; omega)
 have hs5 : Star (WorldIs p W') (PutIs x ta tt s u' 2 tag ref) w4 S4 := hs5
 have HO2 := hidZ (hs5.putOver HT.out)
 have HST := hidZ (show Stp (Star (WorldIs p W') (PutIs x ta tt s u' 2 tag ref)) S w w4 from ⟨S4, hs5, hcc.then hc5 (fun k hk e => (hkk k e).elim id (fun e' => by omega)), hkk⟩)
 clear hs4 hc4 hk4 hHf hs5 hc5 hcc hkk x4 hb2
 go_upto_region 4 with fail
 rw [← hw4]
 clear hw4 k4 m4
 go_wp2_with fail
 refine HO2.out.mono ?_
 rintro e w5 ⟨rfl, hb5⟩
 have HS5 := hidZ (HST.out.bind (fun S1 h1 => Stp.of_below ((framed_worldIs p W').star (framed_put x ta tt s u' 2 tag ref)) h1 hb5))
 go_wp2_with fail
 go_ret
 exact ⟨rfl, HS5.out⟩
theorem putStep_third {w : World} {p x ta tt s u tag ref : Nat} {W : WorldM} {S : Nat → Prop} (h : Star (WorldIs p W) (PutIs x ta tt s u 2 tag ref) w S) (hW : W.Ok) (h0 : ta ≠ 0) (ht : U64 ta) (hu : U64 u) (hs : s < 4) (htag : tag < 256) :
  Calls Tryz.prog 461 #[ptrN x, ptrN p] w fun e w' => e = .returned (.bool true) ∧ Stp (Star (WorldIs p (storeW W ta (withN u s tag))) (PutIs x ta tt s u 3 tag ref)) S w w' := by
 have HC := hidZ (show ∀ V, Star (WorldIs p W) (PutIs x ta tt s u 2 tag ref) V S → Calls Tryz.prog 465 #[ptrN x, ptrN p] V fun e w' => (∃ u, e = .returned u) ∧ Stp (Star (WorldIs p (storeW W ta (withN u s tag))) (PutIs x ta tt s u 2 tag ref)) S V w' from fun V h' => putThird_any h' hW ht hu hs htag)
 have HO := hidZ (h.putOver h0)
 have HH := hidZ h
 have HT := hidZ h0
 have hix : ∀ V : World, (Instr.index 542 putsV (.int .i64 2)).run Tryz.prog V = .ok (putF 465) V := fun V => by kernel_rfl
 obtain ⟨W', hW'⟩ : ∃ W', W' = (storeW W ta (withN u s tag)) := ⟨_, rfl⟩
 rw [← hW'] at HC
 rw [← hW']
 clear hW' hW h0 h
 go_enter Tryz.func461, Tryz.ntmps461
 go_wp2_with fail
 refine HO.out.mono ?_
 rintro e w1 ⟨rfl, hb1⟩
 have h1 := ((framed_worldIs p W).star (framed_put x ta tt s u 2 tag ref)).below HH.out hb1
 have x4 : w1.cell? ⟨x, 4, none⟩ = some (.int .i64 2) := (Star.cellB h1 (j := 4) rfl).1
 have H1 := hidZ h1
 have HB1 := hidZ hb1
 rw [show decide (2 = 3) = false from rfl]
 clear HO HH h1 hb1
 go_upto_region 2 with fail
 refine wp_region_held_drew (S := fun V => V.cell? ⟨x, 4, none⟩ = some (.int .i64 2)) (by kernel_rfl) x4 (fun hHe => ?_)
 refine tkz 1 rfl ?_
 try simp only [Act.put, tzA, tzD]
 refine tkz 2 rfl ?_
 try simp only [tp, tz]
 refine tkz 3 rfl ?_
 try simp only [tp, tz]
 refine tkz 4 rfl ?_
 try simp only [tp, tz]
 refine tkz 5 rfl ?_
 try simp only [tp, tz]
 refine tkz 7 rfl ?_
 try simp only [tp, tz]
 refine tkz 8 rfl ?_
 try simp only [tp, tz]
 refine rdy 0 rfl (fun K hK => ?_)
 go_simp
 go_at_call 462
 refine (puts_any _).mono ?_
 rintro e w2 ⟨rfl, hb2⟩
 refine hK.out _ _ ((hb2.cell (p := ⟨x, 4, none⟩) (cell_lt hHe)).trans hHe) (fun hHf => ?_)
 clear hK K
 try simp only [tp, tz]
 refine tkz 6 rfl ?_
 try simp only [tp, tz]
 refine rdy 9 rfl (fun K hK => ?_)
 go_simp
 go_at_call 465
 refine (HC.out _ (((framed_worldIs p W).star (framed_put x ta tt s u 2 tag ref)).below (Star.drew (framed_worldIs p W) (framed_put x ta tt s u 2 tag ref) H1.out) hb2)).mono ?_
 rintro e w3 ⟨⟨uu, rfl⟩, ⟨S4, hs4, hc4, hk4⟩⟩
 refine hK.out _ _ (Star.cellB hs4 (j := 4) rfl).1 (fun hHf => ?_)
 clear hK K
 try simp only [tp, tz]
 refine wpAnyH_done (by kernel_rfl) ?_ _
 clear hHe
 obtain ⟨k4, m4⟩ := Star.cellB hs4 (j := 4) (v := .int .i64 2) rfl
 obtain ⟨hs5, hc5⟩ := hs4.setB (framed_worldIs p _) (by decide) 4 (.int .i64 3)
 obtain ⟨w4, hw4⟩ := xE (w3.setCell ⟨x, 4, none⟩ (.int .i64 3))
 rw [← hw4] at hs5 hc5
 have hcc : Chg S w w3 := (Chg.of_below HB1.out).trans (((Chg.refl S w1).drew.trans (Chg.of_below hb2)).trans hc4)
 have hkk : ∀ k, S4 k → S k ∨ w.heap.size ≤ k := fun k hk => (hk4 k hk).imp id (fun e => by have h2 : w1.drew.heap.size = w1.heap.size := rfl; have := hb2.size; have := HB1.out.size; omega)
 have hs5 : Star (WorldIs p W') (PutIs x ta tt s u 3 tag ref) w4 S4 := hs5
 have HO2 := hidZ (hs5.putOver HT.out)
 have HST := hidZ (show Stp (Star (WorldIs p W') (PutIs x ta tt s u 3 tag ref)) S w w4 from ⟨S4, hs5, hcc.then hc5 (fun k hk e => (hkk k e).elim id (fun e' => by omega)), hkk⟩)
 clear hs4 hc4 hk4 hHf hs5 hc5 hcc hkk x4 hb2
 go_upto_region 4 with fail
 rw [← hw4]
 clear hw4 k4 m4
 go_wp2_with fail
 refine HO2.out.mono ?_
 rintro e w5 ⟨rfl, hb5⟩
 have HS5 := hidZ (HST.out.bind (fun S1 h1 => Stp.of_below ((framed_worldIs p W').star (framed_put x ta tt s u 3 tag ref)) h1 hb5))
 go_wp2_with fail
 go_ret
 exact ⟨rfl, HS5.out⟩
end Go.Proofs.YtnkkoicbnbjlnaaGreatDoor
