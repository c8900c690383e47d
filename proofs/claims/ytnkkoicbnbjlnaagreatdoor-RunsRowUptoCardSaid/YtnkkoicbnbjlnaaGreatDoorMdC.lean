/- stripes: the mark of one place. No condition. And what goes with it (3 texts). -/
import Derived.Test.YtnkkoicbnbjlnaaGreatDoorMdB
import Derived.Test.YtnkkoicbnbjlnaaGreatDoorLowA
namespace Go.Proofs.YtnkkoicbnbjlnaaGreatDoor
set_option maxRecDepth 100000
set_option maxHeartbeats 8000000
open Go.RowKit Go.ChangeMaps Go.MapKept
def MarkV (x : Nat) (v : Value) (l : List Nat) : Thing := fun w S => w.heap[x]? = some (.cells #[v] 330 (0, 0)) ∧ Row w 148 1 v l.length (l.map addrN) ∧ (∀ k, S k ↔ k = x ∨ v.ownBlock = some k)
def MarkIs (x : Nat) (l : List Nat) : Thing := fun w S => ∃ v : Value, MarkV x v l w S
theorem framed_markV (x : Nat) (v : Value) (l : List Nat) : Framed (MarkV x v l) where
 keep := by
  rintro w w' S M ⟨h1, h2, hs⟩ hc hM
  exact ⟨hc.obj h1 (fun e => (hM _ e).1 ((hs _).2 (.inl rfl))), h2.kept hc (fun g hg e => (hM _ e).1 ((hs _).2 (.inr hg))), hs⟩
 lt := by
  rintro w S k ⟨h1, h2, hs⟩ hk
  rcases (hs k).1 hk with rfl | hk
  ·exact (Array.getElem?_eq_some_iff.1 h1).1
  ·exact (h2.tag hk).lt
 txt := by
  rintro w S k ⟨h1, h2, hs⟩ hk e
  rcases (hs k).1 hk with rfl | hk
  ·exact absurd ((Tag.of h1).one e) (by decide)
  ·exact absurd ((h2.tag hk).one e) (by decide)
theorem Framed.ex {α : Type} {A : α → Thing} (h : ∀ a, Framed (A a)) : Framed (fun w S => ∃ a, A a w S) where
 keep := by
  rintro w w' S M ⟨a, h1⟩ hc hM
  exact ⟨a, (h a).keep h1 hc hM⟩
 lt := by
  rintro w S k ⟨a, h1⟩ hk
  exact (h a).lt h1 hk
 txt := by
  rintro w S k ⟨a, h1⟩ hk
  exact (h a).txt h1 hk
theorem framed_mark (x : Nat) (l : List Nat) : Framed (MarkIs x l) := Framed.ex (fun v => framed_markV x v l)
theorem Star.ex {α : Type} {A : Thing} {B : α → Thing} {w : World} {S : Nat → Prop} (h : Star A (fun w S => ∃ a, B a w S) w S) : ∃ a, Star A (B a) w S := by
 obtain ⟨S1, S2, h1, ⟨a, h2⟩, h3⟩ := h
 exact ⟨a, S1, S2, h1, h2, h3⟩
theorem indexAddr_nil (a : Nat) (w : World) : Calls Tryz.prog 279 #[.slice none 0 0, addrN a] w fun e w' => e = .returned (.int .i64 (-1)) ∧ w = w' := by
 go_enter Tryz.func279, Tryz.ntmps279
 go_wp2_with fail
 go_loop [8] (fun s8 => s8 = .int .i64 0) (fun _ => 0)
 case atStart => rfl
 case round =>
  obtain rfl := hrel
  go_wp2_with fail
  go_ret
  exact ⟨rfl, rfl⟩
theorem containsAddr_nil (a : Nat) (w : World) : Calls Tryz.prog 247 #[.slice none 0 0, addrN a] w fun e w' => e = .returned (.bool false) ∧ w = w' := by
 go_enter Tryz.func247, Tryz.ntmps247
 go_wp2_with fail
 refine (indexAddr_nil a w).mono ?_
 rintro e w2 ⟨rfl, rfl⟩
 go_wp2_with fail
 go_ret
 exact ⟨rfl, rfl⟩
theorem clipAddr_some (g n c : Nat) (w : World) (h : n ≤ c) (_hc : c ≤ maxLen) : Calls Tryz.prog 248 #[.slice (some ⟨g, 0, none⟩) n c] w fun e w' => e = .returned (.slice (some ⟨g, 0, none⟩) n n) ∧ w = w' := by
 unfold maxLen at _hc
 go_enter Tryz.func248, Tryz.ntmps248
 go_wp2_with fail
 go_ret
 exact ⟨rfl, rfl⟩
theorem infoAddr : (Tryz.prog.info? 148).map (fun i => (i.zero, i.size, i.bytes)) = some (some (.int .u64 0), 1, 8) := by kernel_rfl
theorem verA_lt {b k : Nat} : verA b k < 128 ∧ verA b k ≠ 0 := by
 unfold verA stripeN
 omega
theorem stripesOf_any {w : World} {b k g o c : Nat} (hq : Bkt b k) (y0 : w.cell? ⟨g, o, none⟩ = some (.int .i64 (b : Int))) (y1 : w.cell? ⟨g, o + 1, none⟩ = some (.int .i64 (k : Int))) :
  Calls Tryz.prog 214 #[.slice (some ⟨g, o, none⟩) 1 c] w fun e w' => ∃ v, e = .returned v ∧ Row w' 148 1 v 1 [addrN (verA b k)] ∧ Below w.heap.size w w' ∧ (∀ j, v.ownBlock = some j → w.heap.size ≤ j) := by
 obtain ⟨i0, hi, hz0, hz1, hz2⟩ := infoP_parts infoAddr
 have Hi := hidZ hi
 have Hz := hidZ (And.intro hz0 (And.intro hz1 hz2))
 obtain ⟨w1, hw1⟩ := xE (w.alloc (.cells (placeCells (b, k)).toArray 130))
 have hb1 : Below w.heap.size w w1 := bal hw1
 have hq1 : w1.heap[w.heap.size]? = some (.cells (placeCells (b, k)).toArray 130 (0, 0)) := by rw [hw1, heap_at, if_pos rfl]
 obtain ⟨q0, q1⟩ := placeLoad hq1
 dsimp only at q0 q1
 obtain ⟨a, ha⟩ := xE (verA b k)
 have HV := hidZ (verA_any hq w1)
 rw [← ha] at HV ⊢
 have haz : ((a : Int) != 0) = true := by have := (@verA_lt b k).2; rw [← ha] at this; rw [bne_iff_ne]; omega
 have HB1 := hidZ hb1
 have hg : g < w.heap.size := cell_lt y0
 have hix : ∀ V : World, (Instr.indexAt 326 (.slice (some ⟨g, o, none⟩) 1 c) (.int .i64 0)).run Tryz.prog V = .ok (.pointer (some ⟨g, o, none⟩)) V := fun V => by
  have := idx_place (a := some ⟨g, o, none⟩) (g := g) (o := o) (n := 1) (c := c) (k := 0) rfl (by omega) V
  simpa using this
 clear hq hi hz0 hz1 hz2 hb1 hq1 ha
 go_enter Tryz.func214, Tryz.ntmps214
 go_upto_region 2 with fail
 go_loopw [2, 8] (fun s2 s8 wr => (s8 = .int .i64 0 ∧ s2 = .slice none 0 0 ∧ wr = w) ∨ (s8 = .int .i64 1 ∧ Hid (∃ g' c', s2 = .slice (some ⟨g', 0, none⟩) 1 c' ∧ wr.ownsRow w.heap.size 148 1 s2 1 [addrN a] ∧ Below w.heap.size w wr))) (fun _ s8 _ => 1 - (intOf s8).toNat)
 case atStart => exact .inl ⟨rfl, rfl, rfl⟩
 case round =>
  rcases hrel with ⟨rfl, rfl, rfl⟩ | ⟨rfl, HR⟩
  ·go_upto_region 4 with fail
   have hw1' : wr.alloc (.cells #[.int .i64 (b : Int), .int .i64 (k : Int)] 130) = w1 := hw1.symm
   rw [hw1']
   clear hw1 hw1' y0 y1 hix
   go_wp2_with fail
   refine HV.out.mono ?_
   rintro e w2 ⟨rfl, hb2⟩
   have HB2 := hidZ (HB1.out.trans (hb2.mono HB1.out.size))
   clear hb2 HV q0 q1
   go_wp2_with fail
   refine (containsAddr_nil a w2).mono ?_
   rintro e w3 ⟨rfl, rfl⟩
   go_wp2_with (first
    | (at_builtin; refine wpList_append_own_at _ (by rfl) _ _ 327 (by rfl) wr.heap.size 148 i0 (.int .u64 0) 1 8 Tryz.underlying327 Hi.out Hz.out.1 Hz.out.2.1 Hz.out.2.2 rfl (by omega) _ _ _ (by rfl) (World.ownsRow_nil _ _ _ _) ⟨w2.heap.size, 0, none⟩ 1 1 [addrN a] (by rfl) rfl (World.news_of_block (cs := #[addrN a]) (by rw [heap_at, if_pos (by simp)])) (by simp [Value.oneCell']) (by unfold maxLen; omega) (by omega) (by have := HB2.out.size; simp; omega) ?_; intro ov' w4 hown4 hg4 _ _)
    | fail)
   refine ⟨.inr ⟨rfl, hidZ ?_⟩, by simp [intOf]⟩
   obtain ⟨ga, gc, rfl, -, -⟩ := hown4.form (by omega)
   have hbw : Below wr.heap.size (w2.alloc (.cells #[addrN a] 148)) w4 := (Chg.of_grown (M := fun _ => False) hg4 (fun _ _ e => nomatch e)).below (fun k hk => ⟨by have := HB2.out.size; rw [size_at]; omega, fun e => e⟩)
   exact ⟨ga, gc, rfl, hown4, (HB2.out.alloc HB2.out.size _).trans hbw⟩
  ·obtain ⟨g', c', rfl, hown, hb⟩ := HR.out
   have hcm : 1 ≤ c' ∧ c' ≤ maxLen := by
    obtain ⟨-, a', c2, e, h2, h3, -⟩ := Row.of_owns hown
    cases e
    exact ⟨h2, h3⟩
   have HO := hidZ (And.intro hown hb)
   have HCL := hidZ (clipAddr_some g' 1 c' wr hcm.1 hcm.2)
   clear hown hb HR hix y0 y1 q0 q1 hw1 HV
   go_wp2_with fail
   refine HCL.out.mono ?_
   rintro e w5 ⟨rfl, rfl⟩
   go_wp2_with fail
   go_ret
   refine ⟨_, rfl, ?_, HO.out.2, fun j hj => ?_⟩
   ·obtain ⟨h1, a', c2, e, h2, h3, h4, h5, h6⟩ := Row.of_owns HO.out.1
    cases e
    exact ⟨h1, _, _, rfl, by omega, by unfold maxLen; omega, (fun e => nomatch e), h5, h6⟩
   ·obtain rfl : g' = j := by simpa [Value.ownBlock] using hj
    exact (HO.out.1.lt g' rfl).1
theorem newMark_any {w : World} {b k g o c : Nat} (hq : Bkt b k) (y0 : w.cell? ⟨g, o, none⟩ = some (.int .i64 (b : Int))) (y1 : w.cell? ⟨g, o + 1, none⟩ = some (.int .i64 (k : Int))) :
  Calls Tryz.prog 180 #[.slice (some ⟨g, o, none⟩) 1 c] w fun e w' => ∃ n, e = .returned (ptrN n) ∧ Made (MarkIs n [verA b k]) w w' := by
 have H := hidZ (stripesOf_any (c := c) hq y0 y1)
 clear hq y0 y1
 go_enter Tryz.func180, Tryz.ntmps180
 go_wp2_with fail
 refine H.out.mono ?_
 rintro e w2 ⟨v, rfl, hr, hb, hn⟩
 obtain ⟨va, vc, rfl⟩ := hr.len
 go_wp2_with fail
 go_ret
 refine ⟨w2.heap.size, rfl, ⟨fun k => k = w2.heap.size ∨ (Value.slice va 1 vc).ownBlock = some k, ⟨_, heap_mem w2 _, hr.below ((Below.refl _ _).alloc (Nat.le_refl _) _), fun _ => Iff.rfl⟩, fun j hj => ?_⟩, hb.alloc hb.size _⟩
 rcases hj with rfl | hj
 ·exact hb.size
 ·exact hn j hj
theorem markOver_any {w : World} {x n c : Nat} {a : Option Addr} (h : w.heap[x]? = some (.cells #[.slice a n c] 330 (0, 0))) : Calls Tryz.prog 360 #[ptrN x] w fun e w' => e = .returned (.bool (decide (n = 0))) ∧ w = w' := by
 have c1 : w.cell? ⟨x, 0, none⟩ = some (.slice a n c) := (cellsAt h 0).1
 have hq : ((n : Int) == 0) = decide (n = 0) := by rw [Bool.eq_iff_iff]; simp
 generalize decide (n = 0) = r at *
 clear h
 go_enter Tryz.func360, Tryz.ntmps360
 go_wp2_with fail
 go_ret
 exact ⟨ret_congr (by rw [← hq]; rfl), rfl⟩
def markW (W : WorldM) (a : Nat) : WorldM := { W with cells := W.cells.acc 4 a ((W.cells.f a + 1) % 18446744073709551616) }
theorem addAt {p pc a v : Nat} {W : WorldM} {B : Thing} {V : World} {S : Nat → Prop} (hB : Framed B) (h : Star (WorldIs p W) B V S) (ht : W.tickets.length = 64) (ha : U64 a) (hf : U64 (W.cells.f a)) (hn : W.cells.count < 4611686018427387904) (hpc : V.cell? ⟨p, 0, none⟩ = some (ptrN pc)) :
  Calls Tryz.prog 184 #[ptrN pc, addrN a, .int .u64 (v : Int)] V fun e w' => e = .returned (.int .u64 (W.cells.f a : Int)) ∧ Stp (Star (WorldIs p { W with cells := W.cells.acc 4 a ((W.cells.f a + v) % 18446744073709551616) }) B) S V w' ∧ w'.cell? ⟨p, 0, none⟩ = some (ptrN pc) := by
 obtain ⟨pc', S3, c0, hcs, hp3, -, hup⟩ := Star.cellsW hB ht h
 obtain rfl : pc = pc' := by
  have h1 := hpc.symm.trans c0
  simpa using h1
 refine (cadd_any hcs ha hf hn).mono ?_
 rintro e w' ⟨rfl, hst⟩
 exact ⟨rfl, hup _ _ hst, hst.chg.cell c0 hp3⟩
theorem Star.markOver {A : Thing} {x : Nat} {l : List Nat} {w : World} {S : Nat → Prop} (h : Star A (MarkIs x l) w S) : Calls Tryz.prog 360 #[ptrN x] w fun e w' => e = .returned (.bool (decide (l.length = 0))) ∧ w = w' := by
 obtain ⟨S1, S2, -, ⟨v, f1, f2, -⟩, -⟩ := h
 obtain ⟨va, vc, rfl⟩ := f2.len
 exact markOver_any f1
theorem mark_tail {x g o c a : Nat} {w : World} {S : Nat → Prop} (h1 : w.heap[x]? = some (.cells #[.slice (some ⟨g, o, none⟩) 1 c] 330 (0, 0))) (h2 : Row w 148 1 (.slice (some ⟨g, o, none⟩) 1 c) 1 [addrN a])
  (hs : ∀ k, S k ↔ k = x ∨ (Value.slice (some ⟨g, o, none⟩) 1 c).ownBlock = some k) : Stp (MarkIs x []) S w (w.setCell ⟨x, 0, none⟩ (.slice (some ⟨g, o, none⟩) 0 0)) := by
 have hc0 : Chg (fun k => k = x) w (w.setCell ⟨x, 0, none⟩ (.slice (some ⟨g, o, none⟩) 0 0)) := Chg.set (M := fun k => k = x) (Chg.refl _ _) (fun _ => rfl) _
 obtain ⟨hl, a, c', e, hnc, hcm, hna, htg, hx⟩ := h2
 cases e
 have hgx : g ≠ x := fun e => absurd ((htg g rfl).one (e ▸ Tag.of h1)) (by decide)
 refine ⟨S, ⟨_, Go.Joins.block_setCell (i := 0) h1 _, ⟨rfl, _, 0, rfl, Nat.le_refl _, by unfold maxLen; omega, (fun e => nomatch e), ?_, .inl rfl⟩, hs⟩, hc0.mono (fun k _ e => (hs k).2 (.inl e)), fun k e => .inl e⟩
 intro g' hg'
 obtain rfl : g = g' := by simpa [Value.ownBlock] using hg'
 exact hc0.tag (htg g rfl) hgx
theorem markStep_any {w : World} {p x a : Nat} {W : WorldM} {S : Nat → Prop} (h : Star (WorldIs p W) (MarkIs x [a]) w S) (hW : W.Ok) (ha : U64 a) :
  Calls Tryz.prog 345 #[ptrN x, ptrN p] w fun e w' => e = .returned (.bool true) ∧ Stp (Star (WorldIs p (markW W a)) (MarkIs x [])) S w w' := by
 have HO := hidZ h.markOver
 obtain ⟨pc, S3, c0, -, -, -, -⟩ := Star.cellsW (framed_mark x [a]) hW.tickets h
 have HW := hidZ hW
 obtain ⟨v, h⟩ := h.ex
 have HH := hidZ h
 have hrd : ∀ {V S' W'}, Star (WorldIs p W') (MarkV x v [a]) V S' → ∃ g o c, v = .slice (some ⟨g, o, none⟩) 1 c ∧ 1 ≤ c ∧ V.cell? ⟨x, 0, none⟩ = some v ∧ V.frozen? ⟨x, 0, none⟩ = false ∧ V.cell? ⟨g, o, none⟩ = some (addrN a) := by
  rintro V S' W' ⟨S1, S2, -, ⟨f1, f2, -⟩, -⟩
  obtain ⟨g, o, c, rfl, -, hn1, hcm, -, hcl⟩ := f2.some (by simp)
  obtain ⟨r0, -⟩ := hcl 0 (addrN a) rfl
  rw [Nat.add_zero] at r0
  exact ⟨g, o, c, rfl, hn1, (cellsAt f1 0).1, (cellsAt f1 0).2, r0⟩
 obtain ⟨g, o, c, hv, hc1, x0, -, r0⟩ := hrd h
 have hc1 : (1 : Int) ≤ (c : Int) := by omega
 have HRD := hidZ (show ∀ V S' W', Star (WorldIs p W') (MarkV x v [a]) V S' → V.cell? ⟨x, 0, none⟩ = some v ∧ V.frozen? ⟨x, 0, none⟩ = false ∧ V.cell? ⟨g, o, none⟩ = some (addrN a) from by
  intro V S' W' h'
  obtain ⟨g', o', c', e, -, k1, k2, k3⟩ := hrd h'
  rw [hv] at e
  cases e
  exact ⟨k1, k2, k3⟩)
 clear h hrd hW
 subst hv
 go_enter Tryz.func345, Tryz.ntmps345
 go_wp2_with fail
 refine HO.out.mono ?_
 rintro e w2 ⟨rfl, rfl⟩
 clear HO
 rw [show decide ([a].length = 0) = false from rfl]
 go_upto_region 2 with fail
 refine wp_region_held_drew (S := fun V => V.cell? ⟨p, 0, none⟩ = some (ptrN pc) ∧ V.cell? ⟨x, 0, none⟩ = some (.slice (some ⟨g, o, none⟩) 1 c) ∧ V.cell? ⟨g, o, none⟩ = some (addrN a)) (by kernel_rfl) ⟨c0, x0, r0⟩ (fun hHe => ?_)
 refine tkz 0 rfl ?_
 try simp only [tp, tz]
 refine tkz 1 rfl ?_
 try simp only [tp, tz]
 refine tkz 2 rfl ?_
 try simp only [tp, tz]
 refine tkw 3 rfl ?_
 try simp only [tp, tz]
 refine tkz 4 rfl ?_
 try simp only [tp, tz]
 refine tkz 5 rfl ?_
 try simp only [tp, tz]
 refine tkz 6 rfl ?_
 try simp only [tp, tz]
 refine tkw 7 rfl ?_
 try simp only [tp, tz]
 refine tkz 8 rfl ?_
 try simp only [tp, tz]
 refine tkw 9 rfl ?_
 try simp only [tp, tz]
 refine rdy 10 rfl (fun K hK => ?_)
 go_simp
 go_at_call 184
 refine (addAt (v := 1) (framed_markV x _ [a]) (Star.drew (framed_worldIs p W) (framed_markV x _ [a]) HH.out) HW.out.tickets ha (HW.out.f a) HW.out.count hHe.1).mono ?_
 rintro e w2 ⟨rfl, ⟨S4, hs4, hc4, hk4⟩, hpc2⟩
 refine hK.out _ _ ⟨hpc2, (HRD.out _ _ _ hs4).1, (HRD.out _ _ _ hs4).2.2⟩ (fun hHf => ?_)
 clear hK K
 try simp only [tp, tz]
 refine wpAnyH_done (by kernel_rfl) ?_ _
 clear hHe
 have k0 := (HRD.out _ _ _ hs4).1
 have k1 := (HRD.out _ _ _ hs4).2.1
 obtain ⟨w3, hw3⟩ := xE ((w2.setCell ⟨x, 0, none⟩ (.slice (some ⟨g, o, none⟩) 0 0)).drew)
 have HST := hidZ (show Stp (Star (WorldIs p (markW W a)) (MarkIs x [])) S w w3 from by
  obtain ⟨T1, T2, a1, ⟨f1, f2, f3⟩, a3, a4⟩ := hs4
  rw [hw3]
  exact Stp.then ((Chg.refl S w).drew.trans hc4) hk4 (Stp.right (framed_worldIs p _) (framed_markV x _ [a]) a1 ⟨f1, f2, f3⟩ a3 a4 ((mark_tail f1 f2 f3).after (fun S1 h => ⟨(framed_mark x []).keep (M := fun _ => False) h (Chg.refl _ _).drew (fun _ e => e.elim), (Chg.refl _ _).drew⟩))))
 have HO2 := hidZ (show Calls Tryz.prog 360 #[ptrN x] w3 fun e w' => e = .returned (.bool true) ∧ w3 = w' from by
  obtain ⟨S5, h5, -⟩ := HST.out
  exact h5.markOver)
 clear hs4 hc4 hk4 HH HRD HW hHf c0 x0 r0 hpc2
 go_upto_region 3 with fail
 go_region
 rw [← hw3]
 clear hw3 k0 k1
 go_wp2_with fail
 refine HO2.out.mono ?_
 rintro e w4 ⟨rfl, rfl⟩
 go_wp2_with fail
 go_ret
 exact ⟨rfl, HST.out⟩
abbrev roomLookF : Value := .func (.func 266) #[] #[]
def roomCells (bits : Nat) (v : Value) (a b : Nat) (f w h : Value) (s0 s1 s2 : Nat) (is : Bool) : List Value := [.int .i64 (bits : Int), v, .int .i64 (a : Int), .int .i64 (b : Int), f, w, h, .int .i64 (s0 : Int), .int .i64 (s1 : Int), .int .i64 (s2 : Int), .bool is]
def RoomV (x : Nat) (v : Value) (bits a b : Nat) (rest : List Value) : Thing := fun w S => w.heap[x]? = some (.cells (roomCells bits v a b roomLookF (.pointer none) (.pointer none) 0 0 0 false).toArray 388 (0, 0)) ∧ Row w 3 1 v (rest.length + 1) (.int .i64 (a : Int) :: rest) ∧ (∀ k, S k ↔ k = x ∨ v.ownBlock = some k)
theorem framed_roomV (x : Nat) (v : Value) (bits a b : Nat) (rest : List Value) : Framed (RoomV x v bits a b rest) where
 keep := by
  rintro w w' S M ⟨h1, h2, hs⟩ hc hM
  exact ⟨hc.obj h1 (fun e => (hM _ e).1 ((hs _).2 (.inl rfl))), h2.kept hc (fun g hg e => (hM _ e).1 ((hs _).2 (.inr hg))), hs⟩
 lt := by
  rintro w S k ⟨h1, h2, hs⟩ hk
  rcases (hs k).1 hk with rfl | hk
  ·exact (Array.getElem?_eq_some_iff.1 h1).1
  ·exact (h2.tag hk).lt
 txt := by
  rintro w S k ⟨h1, h2, hs⟩ hk e
  rcases (hs k).1 hk with rfl | hk
  ·exact absurd ((Tag.of h1).one e) (by decide)
  ·exact absurd ((h2.tag hk).one e) (by decide)
def RoomIs (x bits h : Nat) : Thing := fun w S => ∃ q : Value × List Value, RoomV x q.1 bits (bucketN h bits) (otherN (bucketN h bits) (tagN h) bits) q.2 w S
theorem framed_room (x bits h : Nat) : Framed (RoomIs x bits h) := Framed.ex (fun q => framed_roomV x q.1 bits _ _ q.2)
def RoomGot (x b k s : Nat) : Thing := fun w S => ∃ cs : List Value, Blk x cs 388 w S ∧ cs.length = 11 ∧ cs[4]? = some .nilFunc ∧ cs[7]? = some (.int .i64 (b : Int)) ∧ cs[8]? = some (.int .i64 (k : Int)) ∧ cs[9]? = some (.int .i64 (s : Int)) ∧ cs[10]? = some (.bool true)
theorem framed_roomGot (x b k s : Nat) : Framed (RoomGot x b k s) where
 keep := fun ⟨cs, h1, h2⟩ hc hM => ⟨cs, (framed_blk x cs _ (by decide)).keep h1 hc hM, h2⟩
 lt := fun ⟨cs, h1, _⟩ hk => (framed_blk x cs _ (by decide)).lt h1 hk
 txt := fun ⟨cs, h1, _⟩ hk => (framed_blk x cs _ (by decide)).txt h1 hk
theorem infoInt : (Tryz.prog.info? 3).map (fun i => (i.zero, i.size, i.bytes)) = some (some (.int .i64 0), 1, 8) := by kernel_rfl
theorem row_block {w : World} {g : Nat} {cs : List Value} {e : TypeId} (h : w.heap[g]? = some (.cells cs.toArray e (0, 0))) (hl : cs.length ≤ maxLen) : Row w e 1 (.slice (some ⟨g, 0, none⟩) cs.length cs.length) cs.length cs := by
 refine ⟨by omega, _, _, rfl, Nat.le_refl _, hl, (fun e => nomatch e), fun g' hg => ?_, .inr ⟨g, 0, rfl, fun j x hj => ?_⟩⟩
 ·obtain rfl : g = g' := by simpa [Value.ownBlock] using hg
  exact Tag.of h
 ·rw [Nat.zero_add]
  obtain ⟨h1, h2⟩ := cellsAt h j
  exact ⟨by rw [h1]; simpa using hj, h2⟩
theorem owns_block {w : World} {g B : Nat} {cs : List Value} {e : TypeId} (h : w.heap[g]? = some (.cells cs.toArray e (0, 0))) (hB : B ≤ g) (hl : cs.length ≤ maxLen) : w.ownsRow B e 1 (.slice (some ⟨g, 0, none⟩) cs.length cs.length) cs.length cs := by
 exact ⟨by omega, .inr ⟨g, cs.length, cs.toArray, rfl, hB, h, Nat.le_refl _, hl, by simp, by simp⟩⟩
theorem newRoom_any (bits h : Nat) (h1 : 1 ≤ bits) (h2 : bits ≤ 12) (hh : h < 18446744073709551616) (w : World) : Calls Tryz.prog 231 #[.int .i64 (bits : Int), .int .u64 (h : Int)] w fun e w' => ∃ n, e = .returned (ptrN n) ∧ Made (RoomIs n bits h) w w' := by
 obtain ⟨i0, hi, hz0, hz1, hz2⟩ := infoP_parts infoInt
 have Hi := hidZ hi
 have Hz := hidZ (And.intro hz0 (And.intro hz1 hz2))
 have HA := hidZ (fnvSize_any bits (by omega) w)
 have HB := hidZ (bucket_any h bits hh h1 h2 w)
 have HT := hidZ (fnvTag_any h hh w)
 have HO := hidZ (fnvOther_any (bucketN h bits) (tagN h) bits h1 h2 (bucket_lt h1 h2) (tag_bounds hh) w)
 have hsz : ((sizeN bits : Int) == 0) = false := by have := size_pos h1 h2; rw [beq_eq_false_iff_ne]; omega
 clear hi hz0 hz1 hz2 h1 h2 hh
 unfold RoomIs
 obtain ⟨a, ha⟩ := xE (bucketN h bits)
 rw [← ha] at HB HO ⊢
 obtain ⟨b, hb⟩ := xE (otherN a (tagN h) bits)
 rw [← hb] at HO ⊢
 clear ha hb
 by_cases hab : b = a
 ·subst hab
  have hne : ((b : Int) != (b : Int)) = false := by simp
  go_enter Tryz.func231, Tryz.ntmps231
  go_wp2_with fail
  refine HA.out.mono ?_
  rintro e w2 ⟨rfl, rfl⟩
  go_wp2_with fail
  refine HB.out.mono ?_
  rintro e w2 ⟨rfl, rfl⟩
  go_wp2_with fail
  refine HT.out.mono ?_
  rintro e w2 ⟨rfl, rfl⟩
  go_wp2_with fail
  refine HO.out.mono ?_
  rintro e w2 ⟨rfl, rfl⟩
  go_wp2_with fail
  go_ret
  refine ⟨w.heap.size + 1, rfl, ⟨fun k => k = w.heap.size + 1 ∨ k = w.heap.size, ⟨⟨.slice (some ⟨w.heap.size, 0, none⟩) 1 1, []⟩, ?_, ?_, fun k => ?_⟩, fun k hk => by omega⟩, ((Below.refl _ _).alloc (Nat.le_refl _) _).alloc (by rw [size_at]; omega) _⟩
  ·rw [heap_at, if_pos (by rw [size_at])]
   rfl
  ·exact row_block (cs := [.int .i64 (b : Int)]) (by rw [heap_at, if_neg (by rw [size_at]; omega), heap_at, if_pos rfl]) (by simp [maxLen])
  ·simp only [Value.ownBlock]
   constructor
   ·rintro (h | h)
    ·exact .inl h
    ·exact .inr (by rw [h])
   ·rintro (h | h)
    ·exact .inl h
    ·exact .inr (by simpa using h.symm)
 ·have hne : ((b : Int) != (a : Int)) = true := by rw [bne_iff_ne]; omega
  obtain ⟨w1, hw1⟩ := xE ((w.alloc (.cells #[.int .i64 (a : Int)] 3)).alloc (.cells (roomCells bits (.slice (some ⟨w.heap.size, 0, none⟩) 1 1) a b roomLookF (.pointer none) (.pointer none) 0 0 0 false).toArray 388))
  have hr1 : w1.heap[w.heap.size]? = some (.cells #[.int .i64 (a : Int)] 3 (0, 0)) := by rw [hw1, heap_at, if_neg (by rw [size_at]; omega), heap_at, if_pos rfl]
  have hx1 : w1.heap[w.heap.size + 1]? = some (.cells (roomCells bits (.slice (some ⟨w.heap.size, 0, none⟩) 1 1) a b roomLookF (.pointer none) (.pointer none) 0 0 0 false).toArray 388 (0, 0)) := by rw [hw1, heap_at, if_pos (by rw [size_at])]
  have hb1 : Below w.heap.size w w1 := by rw [hw1]; exact ((Below.refl _ _).alloc (Nat.le_refl _) _).alloc (by rw [size_at]; omega) _
  have hs1 : w1.heap.size = w.heap.size + 2 := by rw [hw1, size_at, size_at]
  obtain ⟨x, hx⟩ := xE (w.heap.size + 1)
  rw [← hx] at hx1
  have k0 : w1.cell? ⟨x, 1, none⟩ = some (.slice (some ⟨w.heap.size, 0, none⟩) 1 1) := (cellsAt hx1 1).1
  have k1 := (cellsAt hx1 1).2
  have HOW := hidZ (owns_block (B := w.heap.size) (cs := [.int .i64 (a : Int)]) hr1 (Nat.le_refl _) (by simp [maxLen]))
  have H1 := hidZ (And.intro hb1 (And.intro hs1 hx1))
  have HX := hidZ hx
  clear hr1 hx1 hb1 hs1
  go_enter Tryz.func231, Tryz.ntmps231
  go_wp2_with fail
  refine HA.out.mono ?_
  rintro e w2 ⟨rfl, rfl⟩
  go_wp2_with fail
  refine HB.out.mono ?_
  rintro e w2 ⟨rfl, rfl⟩
  go_wp2_with fail
  refine HT.out.mono ?_
  rintro e w2 ⟨rfl, rfl⟩
  go_wp2_with fail
  refine HO.out.mono ?_
  rintro e w2 ⟨rfl, rfl⟩
  go_upto_region 7 with fail
  have hw1' : (w.alloc (.cells #[.int .i64 (a : Int)] 3)).alloc (.cells #[.int .i64 (bits : Int), .slice (some ⟨w.heap.size, 0, none⟩) 1 1, .int .i64 (a : Int), .int .i64 (b : Int), roomLookF, .pointer none, .pointer none, .int .i64 0, .int .i64 0, .int .i64 0, .bool false] 388) = w1 := hw1.symm
  rw [hw1', ← hx]
  clear hw1 hw1' hx
  have hx1l : x < w1.heap.size := cell_lt k0
  go_wp2_with (first
   | (at_builtin; refine wpList_append_own_at _ (by rfl) _ _ 376 (by rfl) w.heap.size 3 i0 (.int .i64 0) 1 8 Tryz.underlying376 Hi.out Hz.out.1 Hz.out.2.1 Hz.out.2.2 rfl (by omega) _ _ _ (by rfl) (World.ownsRow.alloc HOW.out _) ⟨w1.heap.size, 0, none⟩ 1 1 [.int .i64 (b : Int)] (by rfl) rfl (World.news_of_block (cs := #[.int .i64 (b : Int)]) (by rw [heap_at, if_pos (by simp)])) (by simp [Value.oneCell']) (by simp [maxLen]) (by simp) (by have := H1.out.2.1; simp; omega) ?_; intro ov' w4 hown4 hg4 _ _; obtain ⟨ga, gc, rfl, -, -⟩ := hown4.form (by simp); have hc4 : Chg (fun k => k = w.heap.size) w1 w4 := (Chg.of_below (M := fun k => k = w.heap.size) ((Below.refl _ _).alloc (Nat.le_refl _) _)).trans (Chg.of_grown hg4 (fun i _ e => by simpa [Value.ownBlock] using e.symm)); have hxn : x ≠ w.heap.size := by rw [HX.out]; omega
      have u0 := hc4.cell k0 hxn
      have u1 := (hc4.frozen (o := 1) hx1l hxn).trans k1)
   | fail)
  go_ret
  have hcs : Chg (fun k => k = x) w4 (w4.setCell ⟨x, 1, none⟩ (.slice (some ⟨ga, 0, none⟩) 2 gc)) := Chg.set (M := fun k => k = x) (Chg.refl _ _) (fun _ => rfl) _
  have hga : ga ≠ x := fun e => absurd ((owns_tag hown4 (g := ga) rfl).one (e ▸ Tag.of (hc4.obj H1.out.2.2 hxn))) (by decide)
  have hlo := (hown4.lt ga rfl).1
  have hxv := HX.out
  refine ⟨x, rfl, ⟨fun k => k = x ∨ k = ga, ⟨⟨.slice (some ⟨ga, 0, none⟩) 2 gc, [.int .i64 (b : Int)]⟩, ?_, ?_, fun k => ?_⟩, fun k hk => by omega⟩, ?_⟩
  ·exact Go.Joins.block_setCell (i := 1) (hc4.obj H1.out.2.2 hxn) _
  ·exact (Row.of_owns hown4).kept hcs (fun g hg e => by
    obtain rfl : ga = g := by simpa [Value.ownBlock] using hg
    exact hga e)
  ·simp only [Value.ownBlock]
   constructor
   ·rintro (h | h)
    ·exact .inl h
    ·exact .inr (by rw [h])
   ·rintro (h | h)
    ·exact .inl h
    ·exact .inr (by simpa using h.symm)
  ·exact H1.out.1.trans (((hc4.mono (M' := fun k => k = w.heap.size ∨ k = x) (fun _ _ e => .inl e)).trans (hcs.mono (fun _ _ e => .inr e))).below (fun k hk => ⟨by have := H1.out.2.1; omega, fun e => by omega⟩))
theorem roomNil (W : World) : (binOp .eql 384 .nilFunc .nilFunc).run Tryz.prog W = .ok (.bool true) W := by kernel_rfl
theorem roomFunc {fn : Fn} {first cap : Array Value} (W : World) : (binOp .eql 384 (.func fn first cap) .nilFunc).run Tryz.prog W = .ok (.bool false) W := by kernel_rfl
theorem roomOver_nil {w : World} {x : Nat} (h : w.cell? ⟨x, 4, none⟩ = some .nilFunc) : Calls Tryz.prog 452 #[ptrN x] w fun e w' => e = .returned (.bool true) ∧ w = w' := by
 have qn := roomNil
 go_enter Tryz.func452, Tryz.ntmps452
 go_wp2_with fail
 go_ret
 exact ⟨rfl, rfl⟩
theorem roomOver_do {w : World} {x : Nat} {fn : Fn} {first cap : Array Value} (h : w.cell? ⟨x, 4, none⟩ = some (.func fn first cap)) : Calls Tryz.prog 452 #[ptrN x] w fun e w' => e = .returned (.bool false) ∧ w = w' := by
 have qf := fun W => roomFunc (fn := fn) (first := first) (cap := cap) W
 go_enter Tryz.func452, Tryz.ntmps452
 go_wp2_with fail
 go_ret
 exact ⟨rfl, rfl⟩
theorem roomEnds_any {w : World} {x bits a b : Nat} {v f wy hp : Value} {s0 s1 s2 : Nat} {is : Bool} {c d s : Nat} {S : Nat → Prop} (h : Blk x (roomCells bits v a b f wy hp s0 s1 s2 is) 388 w S) :
  Calls Tryz.prog 293 #[ptrN x, spotV c d s] w fun e w' => (∃ u, e = .returned u) ∧ Stp (RoomGot x c d s) S w w' := by
 have hsn := fun (a : Addr) (w : World) => run_store Tryz.prog w a .nilFunc .plain rfl
 obtain ⟨w1, hw1⟩ := xE (w.alloc (.cells #[.int .i64 (c : Int), .int .i64 (d : Int), .int .i64 (s : Int)] 132))
 have hb1 : Below w.heap.size w w1 := bal hw1
 have h1 := (framed_blk _ _ _ (by decide)).below h hb1
 have hsp : w1.heap[w.heap.size]? = some (.cells #[.int .i64 (c : Int), .int .i64 (d : Int), .int .i64 (s : Int)] 132 (0, 0)) := by rw [hw1, heap_at, if_pos rfl]
 have hx : x < w.heap.size := (framed_blk _ _ _ (by decide)).lt h ((h.2 x).2 rfl)
 have y0 : w1.cell? ⟨w.heap.size, 0, none⟩ = some (.int .i64 (c : Int)) := (cellsAt hsp 0).1
 have y1 : w1.cell? ⟨w.heap.size, 1, none⟩ = some (.int .i64 (d : Int)) := (cellsAt hsp 1).1
 have y2 : w1.cell? ⟨w.heap.size, 2, none⟩ = some (.int .i64 (s : Int)) := (cellsAt hsp 2).1
 obtain ⟨k4, m4⟩ := h1.cell (j := 4) (v := f) rfl
 obtain ⟨k7, m7⟩ := h1.cell (j := 7) (v := .int .i64 (s0 : Int)) rfl
 obtain ⟨k8, m8⟩ := h1.cell (j := 8) (v := .int .i64 (s1 : Int)) rfl
 obtain ⟨k9, m9⟩ := h1.cell (j := 9) (v := .int .i64 (s2 : Int)) rfl
 obtain ⟨k10, m10⟩ := h1.cell (j := 10) (v := .bool is) rfl
 have H1 := hidZ (And.intro h1 hb1)
 clear h h1 hb1 hsp
 go_enter Tryz.func293, Tryz.ntmps293
 go_upto_region 1 with fail
 rw [← hw1]
 clear hw1
 go_wp2_with fail
 refine bodyPost_end (results_none (by exact Tryz.results293) _ _ _) rfl ⟨⟨_, rfl⟩, ?_⟩
 obtain ⟨g7, d7⟩ := H1.out.1.set 7 (.int .i64 (c : Int))
 obtain ⟨g8, d8⟩ := g7.set 8 (.int .i64 (d : Int))
 obtain ⟨g9, d9⟩ := g8.set 9 (.int .i64 (s : Int))
 obtain ⟨g10, d10⟩ := g9.set 10 (.bool true)
 obtain ⟨g4, d4⟩ := g10.set 4 .nilFunc
 exact ⟨S, ⟨_, g4, rfl, rfl, rfl, rfl, rfl, rfl⟩, (Chg.of_below H1.out.2).trans (d7.trans (d8.trans (d9.trans (d10.trans d4)))), fun _ h => .inl h⟩
theorem Star.roomRow {A : Thing} {x bits a b : Nat} {v : Value} {rest : List Value} {w : World} {S : Nat → Prop} (h : Star A (RoomV x v bits a b rest) w S) : ∃ g o c, v = .slice (some ⟨g, o, none⟩) (rest.length + 1) c ∧ rest.length + 1 ≤ c ∧ w.cell? ⟨g, o, none⟩ = some (.int .i64 (a : Int)) ∧ g ≠ x ∧ x < w.heap.size ∧
  w.heap[x]? = some (.cells (roomCells bits v a b roomLookF (.pointer none) (.pointer none) 0 0 0 false).toArray 388 (0, 0)) := by
 obtain ⟨S1, S2, -, ⟨f1, f2, -⟩, -⟩ := h
 obtain ⟨g, o, c, rfl, -, hn1, hcm, htg, hcl⟩ := f2.some (by simp)
 obtain ⟨r0, -⟩ := hcl 0 (.int .i64 (a : Int)) rfl
 rw [Nat.add_zero] at r0
 exact ⟨g, o, c, rfl, hn1, r0, fun e => absurd (htg.one (e ▸ Tag.of f1)) (by decide), (Array.getElem?_eq_some_iff.1 f1).1, f1⟩
theorem roomLook_any {w : World} {p x bits a b s : Nat} {v : Value} {rest : List Value} {W : WorldM} {S : Nat → Prop} (h : Star (WorldIs p W) (RoomV x v bits a b rest) w S) (hW : W.Ok) (hq : Bkt bits a) (hs : freeN (W.cells.f (tagsA bits a)) = some s) :
  Calls Tryz.prog 266 #[ptrN x, ptrN p] w fun e w' => (∃ u, e = .returned u) ∧ Stp (Star (WorldIs p (loadW W (tagsA bits a))) (RoomGot x bits a s)) S w w' := by
 obtain ⟨pc, S3, c0, -, -, -, -⟩ := Star.cellsW (framed_roomV x v bits a b rest) hW.tickets h
 obtain ⟨g, o, c, rfl, hc1, r0, hgx, hxl, hx⟩ := h.roomRow
 have k0 : w.cell? ⟨x, 0, none⟩ = some (.int .i64 (bits : Int)) := (cellsAt hx 0).1
 have k1 : w.cell? ⟨x, 1, none⟩ = some (.slice (some ⟨g, o, none⟩) (rest.length + 1) c) := (cellsAt hx 1).1
 have m1 : w.frozen? ⟨x, 1, none⟩ = false := (cellsAt hx 1).2
 have HH := hidZ h
 have HX := hidZ hx
 have hgl : g < w.heap.size := cell_lt r0
 have hpl : p < w.heap.size := cell_lt c0
 have HW := hidZ hW
 have HQ := hidZ hq
 have HS := hidZ hs
 clear h hx hW hq hs
 go_enter Tryz.func266, Tryz.ntmps266
 go_upto_region 0 with fail
 go_region
 obtain ⟨w1, hw1⟩ := xE ((w.alloc (.cells (placeCells (bits, a)).toArray 130)).drew)
 have hb1 : Below w.heap.size w w1 := by rw [hw1]; exact ((Below.refl _ _).alloc (Nat.le_refl _) _).drew
 have hq1 : w1.heap[w.heap.size]? = some (.cells (placeCells (bits, a)).toArray 130 (0, 0)) := by rw [hw1]; exact heap_mem w _
 have hw1' : (w.alloc (.cells #[.int .i64 (bits : Int), .int .i64 (a : Int)] 130)).drew = w1 := hw1.symm
 rw [hw1']
 clear hw1 hw1'
 obtain ⟨vt, hvt⟩ := xE (Value.slice (if c = 1 then some ⟨g, o, none⟩ else some ⟨g, o + 1, none⟩) rest.length (c - 1))
 obtain ⟨w2, hw2⟩ := xE (w1.setCell ⟨x, 1, none⟩ vt)
 have hst : ∃ S', Star (WorldIs p W) (Blk x (roomCells bits vt a b roomLookF (.pointer none) (.pointer none) 0 0 0 false) 388) w2 S' ∧ Chg S w w2 ∧ (∀ k, S' k → S k) := by
  obtain ⟨S1, S2, a1, ⟨f1, f2, f3⟩, a3, a4⟩ := HH.out
  have hcx : Chg (fun k => k = x) w1 w2 := by rw [hw2]; exact Chg.set (M := fun k => k = x) (Chg.refl _ _) (fun _ => rfl) _
  have hx2 : S2 x := (f3 x).2 (.inl rfl)
  refine ⟨fun k => S1 k ∨ k = x, ⟨S1, fun k => k = x, (framed_worldIs p W).keep ((framed_worldIs p W).below a1 hb1) hcx (fun k e => ?_), ⟨?_, fun _ => Iff.rfl⟩, fun k h1 h2 => a3 k h1 (h2 ▸ hx2), fun _ => Iff.rfl⟩, (Chg.of_below hb1).trans (hcx.mono (fun k _ e => (a4 k).2 (.inr (e ▸ hx2)))), fun k hk => (a4 k).2 (hk.imp id (fun e => by have e' : k = x := e; rw [e']; exact hx2))⟩
  ·exact ⟨fun h1 => a3 k h1 (e ▸ hx2), fun e' => absurd (e'.one (e ▸ Tag.of (boxAt f1 hb1))) (by decide)⟩
  ·rw [hw2]
   exact Go.Joins.block_setCell (i := 1) (boxAt f1 hb1) _
 have hq2 : w2.heap[w.heap.size]? = some (.cells (placeCells (bits, a)).toArray 130 (0, 0)) := by
  rw [hw2]
  exact (Chg.set (M := fun k => k = x) (Chg.refl _ w1) (fun _ => rfl) _).obj hq1 (fun e => by omega)
 have HST := hidZ hst
 have k1' : w1.cell? ⟨x, 1, none⟩ = some (.slice (some ⟨g, o, none⟩) (rest.length + 1) c) := (hb1.cell (p := ⟨x, 1, none⟩) hxl).trans k1
 have m1' : w1.frozen? ⟨x, 1, none⟩ = false := (Chg.frozen (M := fun _ => False) (Chg.of_below hb1) hxl (fun e => e)).trans m1
 obtain ⟨bq, hbq⟩ := xE (w.heap.size)
 rw [← hbq] at hq2 hq1 ⊢
 have HBQ := hidZ hbq
 clear hst hb1 k1 m1 k0 c0 hbq hq1
 go_upto_region 2 with fail
 rw [← hvt, ← hw2]
 obtain ⟨S', hs', hcS, hsS⟩ := HST.out
 have hFB : Framed (Blk x (roomCells bits vt a b roomLookF (.pointer none) (.pointer none) 0 0 0 false) 388) := framed_blk _ _ _ (by decide)
 obtain ⟨pc2, S5, c0, -, -, -, -⟩ := Star.cellsW hFB HW.out.tickets hs'
 have hqS : ¬ S' bq := fun e => by
  have h1 := ((framed_worldIs p W).star (framed_roomV x _ bits a b rest)).lt HH.out (hsS _ e)
  have h2 := HBQ.out
  omega
 have HS' := hidZ hs'
 have HCS := hidZ (And.intro hcS hsS)
 have HFB := hidZ hFB
 have hA := tagsA_lt HQ.out
 have hFr : freeI (W.cells.f (tagsA bits a)) = (s : Int) := by unfold freeI; rw [HS.out]
 have hge : decide ((0 : Int) ≤ (s : Int)) = true := by simp
 clear hs' hcS hsS hFB hvt hw2 k1' m1' r0 HST
 refine wp_region_held_drew (S := fun V => V.cell? ⟨p, 0, none⟩ = some (ptrN pc2) ∧ V.heap[bq]? = some (.cells (placeCells (bits, a)).toArray 130 (0, 0))) (by kernel_rfl) ⟨c0, hq2⟩ (fun hHe => ?_)
 refine tkz 0 rfl ?_
 try simp only [tp, tz]
 refine tkz 1 rfl ?_
 try simp only [tp, tz]
 refine tkz 2 rfl ?_
 try simp only [tp, tz]
 refine tkw 3 rfl ?_
 try simp only [tp, tz]
 refine wpAnyH_take (i := 4) rfl (by kernel_rfl) (by kernel_rfl) (by kernel_rfl) (fun _ _ _ h => h) (yieldsIf_load_mid (by rfl) 130 (.tmp 4) (by rfl) bq 0 (by rfl) [.int .i64 (bits : Int), .int .i64 (a : Int)] _ (fun w hSw => World.rangeAt_of_cells hSw.2) Tryz.underlying130 rfl (by kernel_rfl)) (by assumption) ?_
 try simp only [tp, tz]
 refine rdy 5 rfl (fun K hK => ?_)
 go_simp
 go_at_call 257
 refine (tagsA_any HQ.out _).mono ?_
 rintro e w3 ⟨rfl, hb3⟩
 refine hK.out _ _ ⟨(hb3.cell (p := ⟨p, 0, none⟩) (cell_lt hHe.1)).trans hHe.1, boxAt hHe.2 hb3⟩ (fun hHf => ?_)
 clear hK K
 try simp only [tp, tz]
 refine rdy 6 rfl (fun K hK => ?_)
 go_simp
 go_at_call 186
 refine (loadAt HFB.out (((framed_worldIs p W).star HFB.out).below (Star.drew (framed_worldIs p W) HFB.out HS'.out) hb3) HW.out.tickets (by unfold U64; omega) HW.out.count hHf.1).mono ?_
 rintro e w4 ⟨rfl, ⟨S4, hs4, hc4, hk4⟩, hpc4⟩
 refine hK.out _ _ ⟨hpc4, hc4.obj hHf.2 hqS⟩ (fun hHf => ?_)
 clear hK K
 try simp only [tp, tz]
 have HS4 := hidZ hs4
 have HC4 := hidZ (show Chg S w w4 from (HCS.out.1.trans ((Chg.refl S w2).drew.trans (Chg.of_below hb3))).then hc4 (fun k _ e => HCS.out.2 k e))
 have HK4 := hidZ (show ∀ k, S4 k → S k ∨ w.heap.size ≤ k from fun k hk => (hk4 k hk).imp (HCS.out.2 k) (fun e => by have h1 := hb3.size; have h2 : w2.drew.heap.size = w2.heap.size := rfl; have h3 := HCS.out.1.size; omega))
 clear hs4 hc4 hk4 hb3 hpc4
 refine rdy 7 rfl (fun K hK => ?_)
 go_simp
 go_at_call 292
 refine (free_any (W.cells.f (tagsA bits a)) (HW.out.f _) w4).mono ?_
 rintro e w5 ⟨rfl, hb5⟩
 refine hK.out _ _ ⟨(hb5.cell (p := ⟨p, 0, none⟩) (cell_lt hHf.1)).trans hHf.1, boxAt hHf.2 hb5⟩ (fun hHf => ?_)
 clear hK K
 try simp only [tp, tz]
 refine tkz 8 rfl ?_
 try simp only [tp, tz]
 refine wpAnyH_done (by kernel_rfl) ?_ _
 rw [hFr]
 have HS5 := hidZ (((framed_worldIs p _).star HFB.out).below HS4.out hb5)
 have HC5 := hidZ (show Chg S w w5 from HC4.out.trans (Chg.of_below hb5))
 have hq5 := hHf.2
 obtain ⟨z0, z1⟩ := placeLoad hq5
 dsimp only at z0 z1
 have hE := HS5.out
 have HEN := hidZ (show Calls Tryz.prog 293 #[ptrN x, spotV bits a s] w5 fun e w' => (∃ u, e = .returned u) ∧ Stp (Star (WorldIs p (loadW W (tagsA bits a))) (RoomGot x bits a s)) S4 w5 w' from by
  obtain ⟨T1, T2, a1, a2, a3, a4⟩ := HS5.out
  refine (roomEnds_any (c := bits) (d := a) (s := s) a2).mono ?_
  rintro e w6 ⟨hu, hst⟩
  exact ⟨hu, Stp.right (framed_worldIs p _) HFB.out a1 a2 a3 a4 hst⟩)
 clear hE hq5 hb5 hHf hHe HS4 HC4 hq2 c0 hFr
 go_wp2_with fail
 refine HEN.out.mono ?_
 rintro e w6 ⟨⟨u, rfl⟩, hst⟩
 go_wp2_with fail
 exact bodyPost_end (results_none (by exact Tryz.results266) _ _ _) rfl ⟨⟨_, rfl⟩, Stp.then HC5.out HK4.out hst⟩
theorem Star.roomGotCells {A : Thing} {x b k s : Nat} {w : World} {S : Nat → Prop} (h : Star A (RoomGot x b k s) w S) : w.cell? ⟨x, 4, none⟩ = some .nilFunc ∧ w.cell? ⟨x, 7, none⟩ = some (.int .i64 (b : Int)) ∧ w.cell? ⟨x, 8, none⟩ = some (.int .i64 (k : Int)) ∧ w.cell? ⟨x, 9, none⟩ = some (.int .i64 (s : Int)) ∧ w.cell? ⟨x, 10, none⟩ = some (.bool true) := by
 obtain ⟨S1, S2, -, ⟨cs, h1, -, h4, h7, h8, h9, h10⟩, -⟩ := h
 exact ⟨(h1.cell h4).1, (h1.cell h7).1, (h1.cell h8).1, (h1.cell h9).1, (h1.cell h10).1⟩
theorem roomStep_any {w : World} {p x bits h s : Nat} {W : WorldM} {S : Nat → Prop} (hh : Star (WorldIs p W) (RoomIs x bits h) w S) (hW : W.Ok) (hq : Bkt bits (bucketN h bits)) (hs : freeN (W.cells.f (tagsA bits (bucketN h bits))) = some s) :
  Calls Tryz.prog 453 #[ptrN x, ptrN p] w fun e w' => e = .returned (.bool true) ∧ Stp (Star (WorldIs p (loadW W (tagsA bits (bucketN h bits)))) (RoomGot x bits (bucketN h bits) s)) S w w' := by
 obtain ⟨q, hh⟩ := hh.ex
 have HL := hidZ (roomLook_any hh hW hq hs)
 obtain ⟨g, o, c, -, -, -, -, -, hx⟩ := hh.roomRow
 have k4 : w.cell? ⟨x, 4, none⟩ = some roomLookF := (cellsAt hx 4).1
 have HO := hidZ (roomOver_do k4)
 clear hh hx hW hq hs
 go_enter Tryz.func453, Tryz.ntmps453
 go_wp2_with fail
 refine HO.out.mono ?_
 rintro e w2 ⟨rfl, rfl⟩
 clear HO
 go_wp2_with fail
 go_at_call 266
 refine HL.out.mono ?_
 rintro e w3 ⟨⟨u, rfl⟩, hst⟩
 have HO2 := hidZ (show Calls Tryz.prog 452 #[ptrN x] w3 fun e w' => e = .returned (.bool true) ∧ w3 = w' from by
  obtain ⟨S5, h5, -⟩ := hst
  exact roomOver_nil h5.roomGotCells.1)
 have HST := hidZ hst
 clear hst HL k4
 go_wp2_with fail
 refine HO2.out.mono ?_
 rintro e w4 ⟨rfl, rfl⟩
 go_wp2_with fail
 go_ret
 exact ⟨rfl, HST.out⟩
theorem roomGot_any {A : Thing} {w : World} {x b k s : Nat} {S : Nat → Prop} (h : Star A (RoomGot x b k s) w S) :
  Calls Tryz.prog 234 #[ptrN x] w fun e w' => e = .returned (.tuple #[spotV b k s, .bool true]) ∧ Below w.heap.size w w' := by
 obtain ⟨-, k7, k8, k9, k10⟩ := h.roomGotCells
 have hxl : x < w.heap.size := cell_lt k7
 clear h
 go_enter Tryz.func234, Tryz.ntmps234
 go_wp2_with fail
 have hm := heap_mem w (.cells #[.int .i64 (b : Int), .int .i64 (k : Int), .int .i64 (s : Int)] 132)
 have y0 : (w.alloc (.cells #[.int .i64 (b : Int), .int .i64 (k : Int), .int .i64 (s : Int)] 132)).cell? ⟨w.heap.size, 0, none⟩ = some (.int .i64 (b : Int)) := (cellsAt hm 0).1
 have y1 : (w.alloc (.cells #[.int .i64 (b : Int), .int .i64 (k : Int), .int .i64 (s : Int)] 132)).cell? ⟨w.heap.size, 1, none⟩ = some (.int .i64 (k : Int)) := (cellsAt hm 1).1
 have y2 : (w.alloc (.cells #[.int .i64 (b : Int), .int .i64 (k : Int), .int .i64 (s : Int)] 132)).cell? ⟨w.heap.size, 2, none⟩ = some (.int .i64 (s : Int)) := (cellsAt hm 2).1
 exact bodyPost_ret (v := .tuple #[spotV b k s, .bool true]) (by simp [results, Tryz.results234, go_sem, y0, y1, y2]) rfl ⟨rfl, (Below.refl _ _).alloc (Nat.le_refl _) _⟩
end Go.Proofs.YtnkkoicbnbjlnaaGreatDoor
