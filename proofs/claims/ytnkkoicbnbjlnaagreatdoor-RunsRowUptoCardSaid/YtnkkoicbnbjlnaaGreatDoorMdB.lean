/- A Find's tags of a place, where no slot has the key's. No condition. And what goes with it (3 texts). -/
import Derived.Test.YtnkkoicbnbjlnaaGreatDoorMdA
import Derived.Test.YtnkkoicbnbjlnaaGreatDoorLowA
namespace Go.Proofs.YtnkkoicbnbjlnaaGreatDoor
set_option maxRecDepth 100000
set_option maxHeartbeats 8000000
open Go.RowKit Go.ChangeMaps Go.MapKept
theorem loadAt {p pc a : Nat} {W : WorldM} {B : Thing} {V : World} {S : Nat → Prop} (hB : Framed B) (h : Star (WorldIs p W) B V S) (ht : W.tickets.length = 64) (ha : U64 a) (hn : W.cells.count < 4611686018427387904) (hpc : V.cell? ⟨p, 0, none⟩ = some (ptrN pc)) :
  Calls Tryz.prog 186 #[ptrN pc, addrN a] V fun e w' => e = .returned (.int .u64 (W.cells.f a : Int)) ∧ Stp (Star (WorldIs p (loadW W a)) B) S V w' ∧ w'.cell? ⟨p, 0, none⟩ = some (ptrN pc) := by
 obtain ⟨pc', S3, c0, hcs, hp3, -, hup⟩ := Star.cellsW hB ht h
 obtain rfl : pc = pc' := by
  have h1 := hpc.symm.trans c0
  simpa using h1
 refine (cload_any hcs ha hn).mono ?_
 rintro e w' ⟨rfl, hst⟩
 exact ⟨rfl, hup _ _ hst, hst.chg.cell c0 hp3⟩
theorem find_renew {x bx u : Nat} {key : List UInt8} {v v' : Value} {L : List (Nat × Nat)} {bs : List Nat} {w W : World} {S : Nat → Prop} (h1 : w.heap[x]? = some (.cells (findCells key v u).toArray 314 (0, 0))) (h3 : bs.length = L.length)
  (h4 : ∀ (i b : Nat) (q : Nat × Nat), bs[i]? = some b → L[i]? = some q → w.heap[b]? = some (.cells (placeCells q).toArray 130 (0, 0))) (h5 : w.heap[bx]? = some (.cells #[ptrN x] 289 (0, 0)))
  (hs : ∀ k, S k ↔ k = x ∨ v.ownBlock = some k ∨ k = bx ∨ k ∈ bs) (hg : Chg (fun _ => False) w W) (hown : W.ownsRow w.heap.size 535 1 v' L.length (bs.map (tagsF bx))) :
  Stp (FindIs x key u L) S w (W.setCell ⟨x, 1, none⟩ v') := by
 have hc0 : Chg (fun k => k = x) W (W.setCell ⟨x, 1, none⟩ v') := Chg.set (M := fun k => k = x) (Chg.refl _ _) (fun _ => rfl) _
 have hxw : x < w.heap.size := (Array.getElem?_eq_some_iff.1 h1).1
 have hc : Chg (fun k => k = x) w (W.setCell ⟨x, 1, none⟩ v') := (hg.mono (fun _ _ e => e.elim)).trans hc0
 have hne : ∀ {k cs} {t : TypeId}, w.heap[k]? = some (.cells cs t (0, 0)) → t ≠ 314 → k ≠ x := fun hk ht e => ht ((Tag.of hk).one (e ▸ Tag.of h1))
 refine ⟨fun k => k = x ∨ v'.ownBlock = some k ∨ k = bx ∨ k ∈ bs, ⟨v', bx, bs, ?_, ?_, h3, ?_, ?_, fun _ => Iff.rfl⟩, hc.mono (fun k _ e => (hs k).2 (.inl e)), ?_⟩
 ·exact Go.Joins.block_setCell (i := 1) (hg.obj h1 (fun e => e)) _
 ·exact (Row.of_owns hown).kept hc0 (fun g hgv e => by have := (hown.lt g hgv).1; omega)
 ·exact fun i b q hb hq => hc.obj (h4 i b q hb hq) (hne (h4 i b q hb hq) (by decide))
 ·exact hc.obj h5 (hne h5 (by decide))
 ·rintro k (e | e | e | e)
  ·exact .inl ((hs k).2 (.inl e))
  ·exact .inr (hown.lt k e).1
  ·exact .inl ((hs k).2 (.inr (.inr (.inl e))))
  ·exact .inl ((hs k).2 (.inr (.inr (.inr e))))
def TagR (bx p pc x bq b k : Nat) (key : List UInt8) (V : World) : Prop := V.cell? ⟨bx, 0, none⟩ = some (ptrN x) ∧ V.cell? ⟨p, 0, none⟩ = some (ptrN pc) ∧ V.cell? ⟨x, 0, none⟩ = some (sv key) ∧ V.heap[bq]? = some (.cells (placeCells (b, k)).toArray 130 (0, 0))
theorem TagR.below {bx p pc x bq b k : Nat} {key : List UInt8} {V V' : World} (h : TagR bx p pc x bq b k key V) (hb : Below V.heap.size V V') : TagR bx p pc x bq b k key V' := by
 obtain ⟨h1, h2, h3, h4⟩ := h
 exact ⟨(hb.cell (p := ⟨bx, 0, none⟩) (cell_lt h1)).trans h1, (hb.cell (p := ⟨p, 0, none⟩) (cell_lt h2)).trans h2, (hb.cell (p := ⟨x, 0, none⟩) (cell_lt h3)).trans h3, boxAt h4 hb⟩
theorem Star.findKey {A : Thing} {x u : Nat} {key : List UInt8} {L : List (Nat × Nat)} {w : World} {S : Nat → Prop} (h : Star A (FindIs x key u L) w S) : w.cell? ⟨x, 0, none⟩ = some (sv key) := by
 obtain ⟨S1, S2, -, ⟨v, _, _, a1, -⟩, -⟩ := h
 exact (cellsAt a1 0).1
theorem findTags_any {w : World} {p x u b k : Nat} {key : List UInt8} {W : WorldM} {L : List (Nat × Nat)} {S : Nat → Prop} (h : Star (WorldIs p W) (FindIs x key u L) w S) (hW : W.Ok) (hq : Bkt b k) (hL : L.length ≤ 1000) (hk : key.length ≤ maxLen)
  (hno : ∀ s, s < 4 → partN (W.cells.f (tagsA b k)) s ≠ tagN (hashN key)) :
  Calls Tryz.prog 221 #[ptrN x, ptrN p, placeV b k] w fun e w' => e = .returned (.bool false) ∧ Stp (Star (WorldIs p (loadW W (tagsA b k))) (FindIs x key u L)) S w w' := by
 have hFB := framed_find x key u L
 obtain ⟨w0, hw0⟩ := xE ((w.alloc (.cells #[ptrN x] 289)).alloc (.cells (placeCells (b, k)).toArray 130))
 have hb0 : Below w.heap.size w w0 := by rw [hw0]; exact ((Below.refl _ _).alloc (Nat.le_refl _) _).alloc (by rw [size_at]; omega) _
 have hbx0 : w0.heap[w.heap.size]? = some (.cells #[ptrN x] 289 (0, 0)) := by rw [hw0, heap_at, if_neg (by rw [size_at]; omega), heap_at, if_pos rfl]
 have hbq0 : w0.heap[w.heap.size + 1]? = some (.cells (placeCells (b, k)).toArray 130 (0, 0)) := by rw [hw0, heap_at, if_pos (by rw [size_at])]
 have hsz0 : w0.heap.size = w.heap.size + 2 := by rw [hw0, size_at, size_at]
 have hlt := fun k hk => ((framed_worldIs p W).star hFB).lt (k := k) h hk
 have h0 := ((framed_worldIs p W).star hFB).below h hb0
 obtain ⟨pc, S3, c0, -, -, -, -⟩ := Star.cellsW hFB hW.tickets h0
 have x0 : w0.cell? ⟨x, 0, none⟩ = some (sv key) := by
  obtain ⟨S1, S2, -, ⟨v, _, _, a1, -⟩, -⟩ := h0
  exact (cellsAt a1 0).1
 obtain ⟨bx, hbx⟩ := xE (w.heap.size)
 obtain ⟨bq, hbq⟩ := xE (w.heap.size + 1)
 rw [← hbx] at hbx0
 rw [← hbq] at hbq0
 have hSbx : ¬ S bx := fun e => by have := hlt _ e; omega
 have b0 : w0.cell? ⟨bx, 0, none⟩ = some (ptrN x) := (cellsAt hbx0 0).1
 have q0 := hbq0
 have hsx : x < w0.heap.size := cell_lt x0
 have hsp : p < w0.heap.size := cell_lt c0
 have hsb : bx < w0.heap.size := cell_lt b0
 have H0 := hidZ h0
 have HB0 := hidZ (And.intro hb0 hsz0)
 have HX0 := hidZ hbx0
 have HSB := hidZ hSbx
 have HSQ := hidZ (show ¬ S bq from fun e => by have := hlt _ e; omega)
 have HWO := hidZ hW
 have HQ := hidZ hq
 have HK := hidZ hk
 have HNO := hidZ hno
 clear h h0 hb0 hsz0 hbx0 hbq0 hlt hW hq hk hno hSbx hFB
 go_enter Tryz.func221, Tryz.ntmps221
 go_upto_region 2 with fail
 have hw0' : (w.alloc (.cells #[ptrN x] 289)).alloc (.cells #[.int .i64 (b : Int), .int .i64 (k : Int)] 130) = w0 := hw0.symm
 rw [hw0']
 rw [← hbq, ← hbx]
 have HBQ := hidZ (And.intro hbq hbx)
 clear hw0 hw0' hbx hbq
 have HTG := tag_bounds (hashN_lt key)
 have hAt := tagsA_lt HQ.out
 refine wp_region_held_drew (S := TagR bx p pc x bq b k key) (by kernel_rfl) ⟨b0, c0, x0, q0⟩ (fun hHe => ?_)
 refine tkz 0 rfl ?_
 try simp only [tp, tz]
 refine tkz 1 rfl ?_
 try simp only [tp, tz]
 refine tkz 2 rfl ?_
 try simp only [tp, tz]
 refine tkw 3 rfl ?_
 try simp only [tp, tz]
 refine wpAnyH_take (i := 4) rfl (by kernel_rfl) (by kernel_rfl) (by kernel_rfl) (fun _ _ _ h => h) (yieldsIf_load_mid (by rfl) 130 (.tmp 5) (by rfl) bq 0 (by rfl) [.int .i64 (b : Int), .int .i64 (k : Int)] _ (fun w hSw => World.rangeAt_of_cells hSw.2.2.2) Tryz.underlying130 rfl (by kernel_rfl)) (by assumption) ?_
 try simp only [tp, tz]
 refine tkw 7 rfl ?_
 try simp only [tp, tz]
 refine tkz 8 rfl ?_
 try simp only [tp, tz]
 refine tkz 9 rfl ?_
 try simp only [tp, tz]
 refine tkw 10 rfl ?_
 try simp only [tp, tz]
 refine tkz 15 rfl ?_
 try simp only [tp, tz]
 refine rdy 5 rfl (fun K hK => ?_)
 go_simp
 go_at_call 257
 refine (tagsA_any HQ.out _).mono ?_
 rintro e w1 ⟨rfl, hb1⟩
 refine hK.out _ _ (TagR.below hHe hb1) (fun hHf => ?_)
 clear hK K
 try simp only [tp, tz]
 refine rdy 6 rfl (fun K hK => ?_)
 go_simp
 go_at_call 186
 refine (loadAt (framed_find x key u L) (((framed_worldIs p W).star (framed_find x key u L)).below (Star.drew (framed_worldIs p W) (framed_find x key u L) H0.out) hb1) HWO.out.tickets (by unfold U64; omega) HWO.out.count hHf.2.1).mono ?_
 rintro e w2 ⟨rfl, ⟨S4, hs4, hc4, hk4⟩, hpc2⟩
 refine hK.out _ _ ⟨hc4.cell hHf.1 HSB.out, hpc2, hs4.findKey, hc4.obj hHf.2.2.2 HSQ.out⟩ (fun hHf => ?_)
 clear hK K
 try simp only [tp, tz]
 have HS4 := hidZ hs4
 have HC4 := hidZ (show Chg S w w2 from ((Chg.of_below (M := S) HB0.out.1).drew.trans (Chg.of_below hb1)).trans hc4)
 have HK4 := hidZ (show ∀ k, S4 k → S k ∨ w.heap.size + 2 ≤ k from fun k hk => (hk4 k hk).imp id (fun e => by have h1 := hb1.size; have h2 : w0.drew.heap.size = w.heap.size + 2 := HB0.out.2; omega))
 have HX2 := hidZ (show w2.heap[bx]? = some (.cells #[ptrN x] 289 (0, 0)) from hc4.obj (boxAt (W := w0.drew) HX0.out hb1) HSB.out)
 clear hs4 hc4 hk4 hb1 H0 HX0 hpc2 hsx hsp hsb HB0
 refine rdy 11 rfl (fun K hK => ?_)
 go_simp
 go_at_call 123
 refine (hash_any key HK.out _).mono ?_
 rintro e w3 ⟨rfl, hb3⟩
 refine hK.out _ _ (TagR.below hHf hb3) (fun hHf => ?_)
 clear hK K
 try simp only [tp, tz]
 refine rdy 12 rfl (fun K hK => ?_)
 go_simp
 go_at_call 258
 refine (fnvTag_any (hashN key) (hashN_lt key) w3).mono ?_
 rintro e w4 ⟨rfl, rfl⟩
 refine hK.out _ _ hHf (fun hHf => ?_)
 clear hK K
 try simp only [tp, tz]
 refine rdy 13 rfl (fun K hK => ?_)
 go_simp
 go_at_call 256
 refine (hasNone_any (W.cells.f (tagsA b k)) (tagN (hashN key)) (HWO.out.f _) (by omega) HNO.out w3).mono ?_
 rintro e w5 ⟨rfl, hb5⟩
 refine hK.out _ _ (TagR.below hHf hb5) (fun hHf => ?_)
 clear hK K
 try simp only [tp, tz]
 refine tkz 14 rfl ?_
 try simp only [tp, tz]
 refine wpAnyH_done (by kernel_rfl) ?_ _
 have hb25 := hb3.trans (hb5.mono hb3.size)
 have HS5 := hidZ (((framed_worldIs p _).star (framed_find x key u L)).below HS4.out hb25)
 have HX5 := hidZ (boxAt HX2.out hb25)
 have HC5 := hidZ (show Chg S w w5 from HC4.out.trans (Chg.of_below hb25))
 clear hb3 hb5 hb25 hHf HS4 HC4 HX2 hHe HTG hAt q0 b0 c0 x0
 go_upto_region 3 with fail
 go_loopw [7, 25] (fun s7 s25 wr => s7 = .slice none 0 0 ∧ s25 = .int .i64 0 ∧ wr = w5) (fun _ _ _ => 0)
 case atStart => exact ⟨rfl, rfl, rfl⟩
 case round =>
  obtain ⟨rfl, rfl, rfl⟩ := hrel
  obtain ⟨S1, S2, a1, ⟨v, bx', bs, f1, f2, f3, f4, f5, f6⟩, a3, a4⟩ := HS5.out
  have kb : wr.cell? ⟨bx, 0, none⟩ = some (ptrN x) := (cellsAt HX5.out 0).1
  have k1 : wr.cell? ⟨x, 1, none⟩ = some v := (cellsAt f1 1).1
  obtain ⟨v', W3, hrun, hown, hgr⟩ := app_left (w := wr.drew) (f2.kept (Chg.refl (fun _ => False) wr).drew (fun _ _ e => e)) hL (fun u hu => by obtain ⟨b', -, rfl⟩ := List.mem_map.1 hu; rfl) (Nat.le_refl _)
  have hc : Chg (fun _ => False) wr W3 := (Chg.refl _ wr).drew.trans (Chg.of_grown hgr (fun _ _ e => nomatch e))
  have u0 : W3.cell? ⟨x, 1, none⟩ = some v := hc.cell k1 (fun e => e)
  have u1 : W3.frozen? ⟨x, 1, none⟩ = false := (cellsAt (hc.obj f1 (fun e => e)) 1).2
  have ub : W3.cell? ⟨bx, 0, none⟩ = some (ptrN x) := hc.cell kb (fun e => e)
  have HST := hidZ (find_renew f1 f3 f4 f5 f6 hc hown)
  have HA := hidZ (And.intro a1 (And.intro a3 a4))
  have HFI := hidZ (show FindIs x key u L wr S2 from ⟨v, bx', bs, f1, f2, f3, f4, f5, f6⟩)
  obtain ⟨va', vc', rfl⟩ := (Row.of_owns hown).len
  clear a1 a3 a4 f1 f2 f3 f4 f5 f6 hown hgr
  go_upto_region 7 with fail
  refine wp_region_late 14 (fun V => V.cell? ⟨bx, 0, none⟩ = some (ptrN x) ∧ V.cell? ⟨x, 1, none⟩ = some v) (by kernel_rfl) ⟨kb, k1⟩ (fun hHe => ?_)
  refine late_read (i := 0) (v := ?_) rfl (by kernel_rfl) (by kernel_rfl) (by kernel_rfl) (fun _ _ _ h => h) (by decide) rfl (by kernel_rfl) (Or.inl ⟨by rfl, ?_⟩) hHe (by kernel_rfl) ?_
  rotate_left 1
  ·((intro w hSw; (try dsimp only at hSw); obtain ⟨c0, c1⟩ := hSw; go_simp) <;> with_reducible rfl)
  try simp only [tp, tz]
  refine ltz 1 rfl (fun _ => hHe) ?_
  try simp only [tp, tz]
  refine ltz 2 rfl (fun _ => hHe) ?_
  try simp only [tp, tz]
  refine ltz 3 rfl (fun _ => hHe) ?_
  try simp only [tp, tz]
  refine ltz 4 rfl (fun _ => hHe) ?_
  try simp only [tp, tz]
  refine ltz 5 rfl (fun _ => hHe) ?_
  try simp only [tp, tz]
  refine ltz 6 rfl (fun _ => hHe) ?_
  try simp only [tp, tz]
  refine late_read (i := 7) (v := ?_) rfl (by kernel_rfl) (by kernel_rfl) (by kernel_rfl) (fun _ _ _ h => h) (by decide) rfl (by kernel_rfl) (Or.inl ⟨by rfl, ?_⟩) hHe (by kernel_rfl) ?_
  rotate_left 1
  ·((intro w hSw; (try dsimp only at hSw); obtain ⟨c0, c1⟩ := hSw; go_simp) <;> with_reducible rfl)
  try simp only [tp, tz]
  refine ltz 8 rfl (fun _ => hHe) ?_
  try simp only [tp, tz]
  refine ltz 9 rfl (fun _ => hHe) ?_
  try simp only [tp, tz]
  refine late_read (i := 10) (v := ?_) rfl (by kernel_rfl) (by kernel_rfl) (by kernel_rfl) (fun _ _ _ h => h) (by decide) rfl (by kernel_rfl) (Or.inl ⟨by rfl, ?_⟩) hHe (by kernel_rfl) ?_
  rotate_left 1
  ·((intro w hSw; (try dsimp only at hSw); obtain ⟨c0, c1⟩ := hSw; go_simp) <;> with_reducible rfl)
  try simp only [tp, tz]
  refine late_one (i := 11) (by kernel_rfl) rfl (fun K hK => ?_)
  rw [if_pos (by rfl)]
  refine wp_append_run (.tmp 40) (.tmp 44) 312 (by rfl) _ _ _ (by rfl) (by rfl) hrun ?_
  refine hK.out _ _ (fun _ _ => ⟨ub, u0⟩) ?_
  clear hK K hrun
  try simp only [tp, tz]
  refine ltz 12 rfl (fun _ => ⟨ub, u0⟩) ?_
  try simp only [tp, tz]
  refine ltz 13 rfl (fun _ => ⟨ub, u0⟩) ?_
  try simp only [tp, tz]
  refine late_one (i := 14) (by kernel_rfl) rfl (fun K hK => ?_)
  go_simp
  refine hK.out _ _ (fun _ h => absurd rfl h) ?_
  clear hK K
  try simp only [tp, tz]
  refine late_done (by kernel_rfl) ?_
  go_wp2_with fail
  go_ret
  refine ⟨rfl, Stp.then HC5.out (fun k hk => (HK4.out k hk).imp id (fun e => by omega)) ?_⟩
  exact Stp.right (framed_worldIs p _) (framed_find x key u L) HA.out.1 HFI.out HA.out.2.1 HA.out.2.2 HST.out
theorem placeLoad {w : World} {b : Nat} {q : Nat × Nat} (h : w.heap[b]? = some (.cells (placeCells q).toArray 130 (0, 0))) : w.cell? ⟨b, 0, none⟩ = some (.int .i64 (q.1 : Int)) ∧ w.cell? ⟨b, 1, none⟩ = some (.int .i64 (q.2 : Int)) := ⟨(cellsAt h 0).1, (cellsAt h 1).1⟩
theorem find_tail {x bx u b : Nat} {key : List UInt8} {g o c : Nat} {q : Nat × Nat} {L : List (Nat × Nat)} {bs : List Nat} {w : World} {S : Nat → Prop} (h1 : w.heap[x]? = some (.cells (findCells key (.slice (some ⟨g, o, none⟩) (L.length + 1) c) u).toArray 314 (0, 0)))
  (h2 : Row w 535 1 (.slice (some ⟨g, o, none⟩) (L.length + 1) c) (L.length + 1) ((b :: bs).map (tagsF bx))) (h3 : bs.length = L.length)
  (h4 : ∀ (i b' : Nat) (q' : Nat × Nat), (b :: bs)[i]? = some b' → (q :: L)[i]? = some q' → w.heap[b']? = some (.cells (placeCells q').toArray 130 (0, 0))) (h5 : w.heap[bx]? = some (.cells #[ptrN x] 289 (0, 0)))
  (hs : ∀ k, S k ↔ k = x ∨ (Value.slice (some ⟨g, o, none⟩) (L.length + 1) c).ownBlock = some k ∨ k = bx ∨ k ∈ b :: bs) :
  Stp (FindIs x key u L) S w (w.setCell ⟨x, 1, none⟩ (.slice (if c = 1 then some ⟨g, o, none⟩ else some ⟨g, o + 1, none⟩) L.length (c - 1))) := by
 have hc0 : Chg (fun k => k = x) w (w.setCell ⟨x, 1, none⟩ (.slice (if c = 1 then some ⟨g, o, none⟩ else some ⟨g, o + 1, none⟩) L.length (c - 1))) := Chg.set (M := fun k => k = x) (Chg.refl _ _) (fun _ => rfl) _
 have hne : ∀ {k cs} {t : TypeId}, w.heap[k]? = some (.cells cs t (0, 0)) → t ≠ 314 → k ≠ x := fun hk ht e => ht ((Tag.of hk).one (e ▸ Tag.of h1))
 have hob : ∀ {k}, (Value.slice (if c = 1 then some ⟨g, o, none⟩ else some ⟨g, o + 1, none⟩) L.length (c - 1)).ownBlock = some k → g = k := by
  intro k e
  split at e <;> simpa [Value.ownBlock] using e
 obtain ⟨hl, a, c', e, hnc, hcm, hna, htg, hx⟩ := h2
 cases e
 have hgx : g ≠ x := fun e => absurd ((htg g rfl).one (e ▸ Tag.of h1)) (by decide)
 refine ⟨fun k => k = x ∨ (Value.slice (if c = 1 then some ⟨g, o, none⟩ else some ⟨g, o + 1, none⟩) L.length (c - 1)).ownBlock = some k ∨ k = bx ∨ k ∈ bs, ⟨_, bx, bs, ?_, ?_, h3, ?_, ?_, fun _ => Iff.rfl⟩, hc0.mono (fun k _ e => (hs k).2 (.inl e)), ?_⟩
 ·exact Go.Joins.block_setCell (i := 1) h1 _
 ·refine ⟨by simp [h3], _, c - 1, rfl, by omega, by omega, (fun e => by split at e <;> cases e), ?_, ?_⟩
  ·intro g' hg'
   obtain rfl : g = g' := hob hg'
   exact hc0.tag (htg g rfl) hgx
  ·rcases hx with hx | ⟨g', o', e', hx⟩
   ·simp at hx
   ·cases e'
    by_cases hc1 : c = 1
    ·refine .inl ?_
     have h0 : bs.length = 0 := by omega
     rw [List.length_eq_zero_iff.1 h0]
     rfl
    refine .inr ⟨g, o + 1, by rw [if_neg hc1], fun j y hj => ?_⟩
    have h6 := hx (j + 1) y (by simpa using hj)
    have e7 : o + (j + 1) = o + 1 + j := by omega
    rw [e7] at h6
    have hlt : g < w.heap.size := cell_lt h6.1
    exact ⟨hc0.cell h6.1 hgx, (hc0.frozen hlt hgx).trans h6.2⟩
 ·intro i b' q' hb hq
  have := h4 (i + 1) b' q' (by simpa using hb) (by simpa using hq)
  exact hc0.obj this (hne this (by decide))
 ·exact hc0.obj h5 (hne h5 (by decide))
 ·rintro k (e | e | e | e)
  ·exact .inl ((hs k).2 (.inl e))
  ·exact .inl ((hs k).2 (.inr (.inl (by rw [hob e]; rfl))))
  ·exact .inl ((hs k).2 (.inr (.inr (.inl e))))
  ·exact .inl ((hs k).2 (.inr (.inr (.inr (List.mem_cons_of_mem _ e)))))
theorem Star.findOver {A : Thing} {x u : Nat} {key : List UInt8} {L : List (Nat × Nat)} {w : World} {S : Nat → Prop} (h : Star A (FindIs x key u L) w S) : Calls Tryz.prog 441 #[ptrN x] w fun e w' => e = .returned (.bool (decide (L.length = 0))) ∧ w = w' := by
 obtain ⟨S1, S2, -, ⟨v, bx, bs, f1, f2, -⟩, -⟩ := h
 obtain ⟨va, vc, rfl⟩ := f2.len
 exact findOver_any f1
theorem findDo_any {w : World} {p x u b k bx bq : Nat} {key : List UInt8} {W : WorldM} {L : List (Nat × Nat)} {S : Nat → Prop} (h : Star (WorldIs p W) (FindIs x key u L) w S) (hW : W.Ok) (hq : Bkt b k) (hL : L.length ≤ 1000) (hk : key.length ≤ maxLen)
  (hno : ∀ s, s < 4 → partN (W.cells.f (tagsA b k)) s ≠ tagN (hashN key)) (hbx : w.cell? ⟨bx, 0, none⟩ = some (ptrN x)) (hbq : w.heap[bq]? = some (.cells (placeCells (b, k)).toArray 130 (0, 0))) :
  Calls Tryz.prog 220 #[ptrN p, ptrN bx, ptrN bq] w fun e w' => e = .returned (.bool false) ∧ Stp (Star (WorldIs p (loadW W (tagsA b k))) (FindIs x key u L)) S w w' := by
 have HT := hidZ (findTags_any h hW hq hL hk hno)
 obtain ⟨q0, q1⟩ := placeLoad hbq
 dsimp only at q0 q1
 clear h hW hno hbq hq
 go_enter Tryz.func220, Tryz.ntmps220
 go_wp2_with fail
 refine HT.out.mono ?_
 rintro e w2 ⟨rfl, hst⟩
 go_wp2_with fail
 go_ret
 exact ⟨rfl, hst⟩
theorem findStep_tags {w : World} {p x u b k : Nat} {key : List UInt8} {W : WorldM} {L : List (Nat × Nat)} {S : Nat → Prop} (h : Star (WorldIs p W) (FindIs x key u ((b, k) :: L)) w S) (hW : W.Ok) (hq : Bkt b k) (hL : L.length ≤ 1000) (hk : key.length ≤ maxLen)
  (hno : ∀ s, s < 4 → partN (W.cells.f (tagsA b k)) s ≠ tagN (hashN key)) :
  Calls Tryz.prog 442 #[ptrN x, ptrN p] w fun e w' => e = .returned (.bool (decide (L.length = 0))) ∧ Stp (Star (WorldIs p (loadW W (tagsA b k))) (FindIs x key u L)) S w w' := by
 have h' := h
 obtain ⟨rr, hrr⟩ := xE (decide (L.length = 0))
 rw [← hrr]
 have HRR := hidZ hrr
 clear hrr
 obtain ⟨S1, S2, a1, ⟨v, bx, bs0, f1, f2, f3, f4, f5, f6⟩, a3, a4⟩ := h
 obtain ⟨bq, bs, rfl⟩ : ∃ bq bs, bs0 = bq :: bs := by
  cases bs0 with
  | nil => simp at f3
  | cons b bs => exact ⟨b, bs, rfl⟩
 have hbq := f4 0 bq (b, k) rfl rfl
 obtain ⟨g, o, c, rfl, hg, hnc, hcm, htg, hcl⟩ := f2.some (by simp)
 obtain ⟨r0, r1⟩ := hcl 0 (tagsF bx bq) rfl
 rw [Nat.add_zero] at r0 r1
 have HO := hidZ (findOver_any f1)
 have hst1 := Stp.right (framed_worldIs p W) (framed_find x key u _) a1 ⟨_, bx, _, f1, f2, f3, f4, f5, f6⟩ a3 a4 (find_tail f1 f2 (by simpa using f3) f4 f5 f6)
 obtain ⟨k1, k2⟩ := cellsAt f1 1
 have hgx : g ≠ x := fun e => absurd (htg.one (e ▸ Tag.of f1)) (by decide)
 obtain ⟨w1, hw1⟩ := xE (w.setCell ⟨x, 1, none⟩ (.slice (if c = 1 then some ⟨g, o, none⟩ else some ⟨g, o + 1, none⟩) L.length (c - 1)))
 have hcx : Chg (fun k => k = x) w w1 := by rw [hw1]; exact Chg.set (M := fun k => k = x) (Chg.refl _ _) (fun _ => rfl) _
 have hbx1 : w1.cell? ⟨bx, 0, none⟩ = some (ptrN x) := (cellsAt (hcx.obj f5 (fun e => absurd ((Tag.of f5).one (e ▸ Tag.of f1)) (by decide))) 0).1
 have hbq1 := hcx.obj hbq (fun e => absurd ((Tag.of hbq).one (e ▸ Tag.of f1)) (by decide))
 rw [← hw1] at hst1
 obtain ⟨S3, hs3, hc3, hk3⟩ := hst1
 have HD := hidZ (findDo_any hs3 hW hq hL hk hno hbx1 hbq1)
 have HC3 := hidZ (And.intro hc3 hk3)
 have HLC := hidZ hcm
 have hk1 : w.cell? ⟨x, 1, none⟩ = some (.slice (some ⟨g, o, none⟩) (L.length + 1) c) := k1
 have hnc' : L.length + 1 ≤ c := hnc
 clear h' a1 a3 a4 f1 f2 f3 f4 f5 f6 hbq htg hcl hs3 hc3 hk3 hcx hbx1 hbq1 hq hno k1 hnc hcm hW
 go_enter Tryz.func442, Tryz.ntmps442
 go_wp2_with fail
 refine HO.out.mono ?_
 rintro e w2 ⟨rfl, rfl⟩
 clear HO
 have e1 : decide ((((b, k) :: L).length) = 0) = false := by simp
 rw [e1]
 go_upto_region 4 with fail
 rw [← hw1]
 obtain ⟨a1, ha1⟩ : ∃ a1 : Option Addr, a1 = (if c = 1 then some ⟨g, o, none⟩ else some ⟨g, o + 1, none⟩) := ⟨_, rfl⟩
 rw [← ha1]
 clear hw1 r0 r1 k2 hk1 ha1
 go_wp2_with fail
 go_at_call 220
 refine HD.out.mono ?_
 rintro e w3 ⟨rfl, hst⟩
 have HST := hidZ (Stp.then HC3.out.1 HC3.out.2 hst)
 have HO2 := hidZ (show Calls Tryz.prog 441 #[ptrN x] w3 fun e w' => e = .returned (.bool rr) ∧ w3 = w' from by
  obtain ⟨S5, hs5, b5⟩ := hst
  rw [HRR.out]
  exact hs5.findOver)
 clear hst HD
 go_wp2_with fail
 refine HO2.out.mono ?_
 rintro e w4 ⟨rfl, rfl⟩
 go_wp2_with fail
 go_ret
 exact ⟨rfl, HST.out⟩
theorem findStep_first {w : World} {p x : Nat} {key : List UInt8} {W : WorldM} {S : Nat → Prop} (h : Star (WorldIs p W) (Find0 x key) w S) (hW : W.Ok) (hn : newN (W.cells.f 2) = 0) (hk : key.length ≤ maxLen) :
  Calls Tryz.prog 442 #[ptrN x, ptrN p] w fun e w' => e = .returned (.bool false) ∧ Stp (Star (WorldIs p (loadW W 2)) (FindIs x key (W.cells.f 2) (placesL (hashN key) (W.cells.f 2)))) S w w' := by
 obtain ⟨S1, S2, a1, ⟨r, f1, f2, f3⟩, a3, a4⟩ := h
 have HO := hidZ (findOver_any f1)
 obtain ⟨w1, hw1⟩ := xE (w.setCell ⟨x, 1, none⟩ (.slice (some ⟨r, 0, none⟩) 0 0))
 have hcx : Chg (fun k => k = x) w w1 := by rw [hw1]; exact Chg.set (M := fun k => k = x) (Chg.refl _ _) (fun _ => rfl) _
 have hst1 : Stp (Star (WorldIs p W) (Blk x (findCells key (.slice (some ⟨r, 0, none⟩) 0 0) 0) 314)) S w w1 := Stp.right (framed_worldIs p W) (framed_find0 x key) a1 ⟨r, f1, f2, f3⟩ a3 a4
  ⟨fun k => k = x, ⟨by rw [hw1]; exact Go.Joins.block_setCell (i := 1) f1 _, fun _ => Iff.rfl⟩, hcx.mono (fun k _ e => (f3 k).2 (.inl e)), fun k e => .inl ((f3 k).2 (.inl e))⟩
 obtain ⟨S3, hs3, hc3, hk3⟩ := hst1
 have HD := hidZ (findTable_any hs3 hW hn hk)
 have HC3 := hidZ (And.intro hc3 hk3)
 have hk1 : w.cell? ⟨x, 1, none⟩ = some (.slice (some ⟨r, 0, none⟩) 1 1) := (cellsAt f1 1).1
 have k2 := (cellsAt f1 1).2
 have r0 : w.cell? ⟨r, 0, none⟩ = some (tableF x) := (cellsAt f2 0).1
 have HNE := hidZ (placesL_ne (hashN key) (W.cells.f 2))
 obtain ⟨u, hu⟩ := xE (W.cells.f 2)
 rw [← hu] at HD HNE ⊢
 clear a1 a3 a4 f1 f2 f3 hs3 hc3 hk3 hcx hW hn hk hu
 go_enter Tryz.func442, Tryz.ntmps442
 go_wp2_with fail
 refine HO.out.mono ?_
 rintro e w2 ⟨rfl, rfl⟩
 clear HO
 rw [show decide (1 = 0) = false from rfl]
 go_upto_region 4 with fail
 rw [← hw1]
 clear hw1 r0 k2 hk1
 go_wp2_with fail
 go_at_call 191
 refine HD.out.mono ?_
 rintro e w3 ⟨rfl, hst⟩
 have HST := hidZ (Stp.then HC3.out.1 HC3.out.2 hst)
 have HO2 := hidZ (show Calls Tryz.prog 441 #[ptrN x] w3 fun e w' => e = .returned (.bool false) ∧ w3 = w' from by
  obtain ⟨S5, hs5, b5⟩ := hst
  have := hs5.findOver
  rw [decide_eq_false (fun e => HNE.out (List.length_eq_zero_iff.1 e))] at this
  exact this)
 clear hst HD
 go_wp2_with fail
 refine HO2.out.mono ?_
 rintro e w4 ⟨rfl, rfl⟩
 go_wp2_with fail
 go_ret
 exact ⟨rfl, HST.out⟩
theorem mcells_chg (w : World) (p o : Nat) (vs : List Value) : Chg (fun k => k = p) w (w.setCells p o vs) := Chg.of_grown (setCells_grownM vs o w p).1 (fun _ _ e => (Option.some.inj e).symm)
theorem msetCells_tag {g : Nat} {e : TypeId} : ∀ (vs : List Value) (o : Nat) (W : World), Tag W g e → Tag (W.setCells g o vs) g e
 | [], _, _, h => h
 | v :: vs, o, W, h => by
  obtain ⟨cs, fz, hx⟩ := h
  exact msetCells_tag vs (o + 1) _ (by
   refine ⟨cs.setIfInBounds o v, fz, ?_⟩
   have hlt : g < W.heap.size := (Array.getElem?_eq_some_iff.1 hx).1
   have hget : W.heap[g] = .cells cs e fz := (Array.getElem?_eq_some_iff.1 hx).2
   simp [World.setCell, hlt, Array.getElem_modify, hget])
theorem itemsAdd_stp {w : World} {p : Nat} {L : List ItemD} {S : Nat → Prop} (x : ItemD) (h : ItemsIs p L w S) (hl : L.length % 64 = 0) (hn : L.length < 1048576) :
  Calls Tryz.prog 224 #[ptrN p, itemV x] w fun e w' => e = .returned (.tuple #[.int .i64 ((L.length + 1 : Nat) : Int), .int .i64 0]) ∧ Stp (ItemsIs p (L ++ [x])) S w w' := by
 obtain ⟨v, B, h1, h2, h3, h4, h5, h6, hs⟩ := h
 have hB : L.length = 64 * B.length := by omega
 refine (itemsAdd_new x h1 h2 hB hn).mono ?_
 rintro e w' ⟨rfl, v', b, W4, a1, a2, a3, a4, a5, a6, a7, a8, rfl⟩
 have hp : p < w.heap.size := (Array.getElem?_eq_some_iff.1 h1).1
 have hbp : ¬ p = b := by omega
 have hvp : ∀ k, v.ownBlock = some k → k < w.heap.size ∧ k ≠ p := fun k hk => ⟨(owns_tag h2 hk).lt, fun e => absurd ((Tag.of h1).one (e ▸ owns_tag h2 hk)) (by decide)⟩
 have hbv : ∀ k, k ∈ B → k < w.heap.size ∧ k ≠ p ∧ v.ownBlock ≠ some k := fun k hk => ⟨(h5 k hk).1.lt, fun e => absurd ((Tag.of h1).one (e ▸ (h5 k hk).1)) (by decide), fun e => absurd ((owns_tag h2 e).one (h5 k hk).1) (by decide)⟩
 have hv' : ∀ k, v'.ownBlock = some k → k ≠ b ∧ k ≠ p := fun k hk => by
  rcases a8 k hk with h | ⟨h, h'⟩
  ·have := hvp k h
   exact ⟨by omega, this.2⟩
  ·exact ⟨h', by omega⟩
 have hc4 : Chg (fun k => k = b) W4 (W4.drew.setCells b (L.length % 64 * 6) x.cells) := ((Chg.refl _ W4).drew).trans (mcells_chg _ _ _ _)
 have a5' := hc4.obj a5 hbp
 have hc5 : Chg (fun k => k = p) (W4.drew.setCells b (L.length % 64 * 6) x.cells) ((W4.drew.setCells b (L.length % 64 * 6) x.cells).setCell ⟨p, 1, none⟩ (.int .i64 ((L.length + 1 : Nat) : Int))) := Chg.set (M := fun k => k = p) (Chg.refl _ _) (fun _ => rfl) _
 have hc6 : Chg (fun k => k = b ∨ k = p) W4 ((W4.drew.setCells b (L.length % 64 * 6) x.cells).setCell ⟨p, 1, none⟩ (.int .i64 ((L.length + 1 : Nat) : Int))) := (hc4.mono (fun _ _ e => .inl e)).then hc5 (fun _ _ e => .inr e)
 have hth : (W4.drew.setCells b (L.length % 64 * 6) x.cells).there b 0 384 := World.there_setCells (w := W4.drew) a4 b _ _
 have htg : Tag (W4.drew.setCells b (L.length % 64 * 6) x.cells) b 380 := msetCells_tag _ _ _ (show Tag W4.drew b _ from a3)
 have hnew : (W4.drew.setCells b (L.length % 64 * 6) x.cells).rangeAt b (L.length % 64 * 6) x.cells := World.rangeAt_setCells_same W4.drew b (L.length % 64 * 6) x.cells (fun j hj => by
  have hj6 : j < 6 := hj
  have := a4 (L.length % 64 * 6 + j) (by omega)
  rw [Nat.zero_add] at this
  exact this)
 generalize hW5 : W4.drew.setCells b (L.length % 64 * 6) x.cells = W5 at *
 refine ⟨rfl, fun k => k = p ∨ v'.ownBlock = some k ∨ k ∈ B ++ [b], ⟨v', B ++ [b], ?_, ?_, ?_, ?_, ?_, ?_, fun k => Iff.rfl⟩, ?_, ?_⟩
 ·have := Go.Joins.block_setCell (i := 1) a5' (.int .i64 ((L.length + 1 : Nat) : Int))
  rw [List.length_append]
  exact this
 ·have := owns_grow a6 hc6 (fun g hg => by
   have := hv' g hg
   omega)
  rw [List.length_append]
  exact this
 ·simp only [List.length_append, List.length_cons, List.length_nil]
  omega
 ·rw [List.nodup_append]
  exact ⟨h4, List.nodup_cons.2 ⟨List.not_mem_nil, List.nodup_nil⟩, fun a ha c hc e => by
   have := hbv a ha
   have : c = b := by simpa using hc
   omega⟩
 ·intro c hc
  rcases List.mem_append.1 hc with hc | hc
  ·obtain ⟨g1, g2⟩ := h5 c hc
   obtain ⟨k1, k2, k3⟩ := hbv c hc
   have hM : ¬ (c = p ∨ v.ownBlock = some c) := fun e => e.elim k2 k3
   have hM2 : ¬ (c = b ∨ c = p) := by omega
   have g3 := a7.tag g1 hM
   exact ⟨hc6.tag g3 hM2, there_keep (there_keep g2 a7 k1 hM) hc6 g3.lt hM2⟩
  ·obtain rfl : c = b := by simpa using hc
   exact ⟨hc5.tag htg (fun e => hbp e.symm), there_keep hth hc5 htg.lt (fun e => hbp e.symm)⟩
 ·intro n y hy
  by_cases hn' : n < L.length
  ·rw [List.getElem?_append_left hn'] at hy
   obtain ⟨c, hc, hr⟩ := h6 n y hy
   obtain ⟨k1, k2, k3⟩ := hbv c (List.mem_of_getElem? hc)
   refine ⟨c, by rw [List.getElem?_append_left (by omega)]; exact hc, range_keep (range_keep hr a7 (fun e => e.elim k2 k3)) hc6 (by omega)⟩
  ·obtain rfl : n = L.length := by
    have := (List.getElem?_eq_some_iff.1 hy).1
    simp at this
    omega
   rw [List.getElem?_append_right (Nat.le_refl _), Nat.sub_self] at hy
   obtain rfl : x = y := by simpa using hy
   refine ⟨b, ?_, range_keep hnew hc5 (fun e => hbp e.symm)⟩
   rw [List.getElem?_append_right (by omega), show L.length / 64 - B.length = 0 by omega]
   rfl
 ·refine (a7.mono (fun k _ e => (hs k).2 (e.imp id (fun e => .inl e)))).then hc6 (fun k hk e => e.elim (fun e => by omega) (fun e => (hs k).2 (.inl e)))
 ·intro k hk
  rcases hk with hk | hk | hk
  ·exact .inl ((hs k).2 (.inl hk))
  ·rcases a8 k hk with h | ⟨h, -⟩
   ·exact .inl ((hs k).2 (.inr (.inl h)))
   ·exact .inr h
  ·rcases List.mem_append.1 hk with hk | hk
   ·exact .inl ((hs k).2 (.inr (.inr hk)))
   ·obtain rfl : k = b := by simpa using hk
    exact .inr a1
theorem WorldAt.items {w : World} {p pc pi pn : Nat} {W : WorldM} {S : Nat → Prop} (h : WorldAt p pc pi pn W w S) : ∃ S1, ItemsIs pi W.items w S1 ∧ (∀ k, S1 k → S k ∧ k ≠ p) ∧ (∀ L' w', Stp (ItemsIs pi L') S1 w w' → Stp (WorldAt p pc pi pn { W with items := L' }) S w w') := by
 obtain ⟨S0, S123, h0, ⟨S1, S23, h1, ⟨S2, S3, h2, h3, hd2, hs2⟩, hd, hs⟩, hd', hs'⟩ := h
 have h2S : ∀ k, S2 k → S123 k := fun k hk => (hs k).2 (.inr ((hs2 k).2 (.inl hk)))
 refine ⟨S2, h2, fun k hk => ⟨(hs' k).2 (.inr (h2S k hk)), fun e => hd' k ((h0.2 k).2 e) (h2S k hk)⟩, fun L' w' hst => ?_⟩
 have a1 : Stp (Star (ItemsIs pi L') (NotesIs pn W.notes)) S23 w w' := Stp.left (framed_notes pn _) (framed_items pi _) h2 h3 hd2 hs2 hst
 have a2 : Stp (Star (CellsIs pc W.cells) (Star (ItemsIs pi L') (NotesIs pn W.notes))) S123 w w' := Stp.right (framed_cells pc _) ((framed_items pi _).star (framed_notes pn _)) h1 ⟨S2, S3, h2, h3, hd2, hs2⟩ hd hs a1
 exact Stp.right (A := Blk p (worldCells pc pi pn W) 126) (framed_blk p _ _ (by decide)) ((framed_cells pc _).star ((framed_items pi _).star (framed_notes pn _))) h0 ⟨S1, S23, h1, ⟨S2, S3, h2, h3, hd2, hs2⟩, hd, hs⟩ hd' hs' a2
theorem Star.itemsW {p : Nat} {W : WorldM} {B : Thing} {w : World} {S : Nat → Prop} (hB : Framed B) (ht : W.tickets.length = 64) (h : Star (WorldIs p W) B w S) : ∃ pi S3, w.cell? ⟨p, 1, none⟩ = some (ptrN pi) ∧ ItemsIs pi W.items w S3 ∧ ¬ S3 p ∧ (∀ k, S3 k → S k) ∧ ∀ L' w', Stp (ItemsIs pi L') S3 w w' → Stp (Star (WorldIs p { W with items := L' }) B) S w w' := by
 obtain ⟨S1, S2, h1, h2, hd, hs⟩ := h
 obtain ⟨pc, pi, pn, ha⟩ := h1.at
 obtain ⟨S3, hc, h3S, hup⟩ := ha.items
 refine ⟨pi, S3, (ha.cell (world_get1 pc pi pn W)).1, hc, fun e => (h3S _ e).2 rfl, fun k hk => (hs k).2 (.inl (h3S k hk).1), fun c' w' hst => ?_⟩
 exact Stp.mono (A := Star (WorldAt p pc pi pn { W with items := c' }) B) (Stp.left hB (framed_at p pc pi pn W) ha h2 hd hs (hup c' w' hst)) (fun S' hS' => hS'.fst_mono (fun S'' h => WorldAt.is h ht))
def itemW (W : WorldM) (x : ItemD) : WorldM := { W with items := W.items ++ [x] }
theorem addItem {p pi : Nat} {W : WorldM} {B : Thing} {V : World} {S : Nat → Prop} (x : ItemD) (hB : Framed B) (h : Star (WorldIs p W) B V S) (ht : W.tickets.length = 64) (hl : W.items.length % 64 = 0) (hn : W.items.length < 1048576) (hpi : V.cell? ⟨p, 1, none⟩ = some (ptrN pi)) :
  Calls Tryz.prog 224 #[ptrN pi, itemV x] V fun e w' => e = .returned (.tuple #[.int .i64 ((W.items.length + 1 : Nat) : Int), .int .i64 0]) ∧ Stp (Star (WorldIs p (itemW W x)) B) S V w' ∧ w'.cell? ⟨p, 1, none⟩ = some (ptrN pi) := by
 obtain ⟨pi', S3, c0, hcs, hp3, -, hup⟩ := Star.itemsW hB ht h
 obtain rfl : pi = pi' := by
  have h1 := hpi.symm.trans c0
  simpa using h1
 refine (itemsAdd_stp x hcs hl hn).mono ?_
 rintro e w' ⟨rfl, hst⟩
 exact ⟨rfl, hup _ _ hst, hst.chg.cell c0 hp3⟩
end Go.Proofs.YtnkkoicbnbjlnaaGreatDoor
