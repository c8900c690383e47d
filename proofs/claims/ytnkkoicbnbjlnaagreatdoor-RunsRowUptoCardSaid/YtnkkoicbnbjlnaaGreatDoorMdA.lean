/- A Find in memory: its loads that are left. No condition. And what goes with it (3 texts). -/
import Derived.Test.YtnkkoicbnbjlnaaGreatDoorMcH
import Derived.ArgAppend
import Derived.Test.YtnkkoicbnbjlnaaGreatDoorLowA
namespace Go.Proofs.YtnkkoicbnbjlnaaGreatDoor
set_option maxRecDepth 100000
set_option maxHeartbeats 8000000
open Go.RowKit Go.ChangeMaps Go.MapKept
theorem wp_append_run {P : Program} {o : Oper} {a : Act} {w w' : World} {K : Act → World → Prop} {Q : Exit → Act → World → Prop} (s x : Operand) (t : TypeId)
  (ho : o.op = .call { callee := .builtin .append, args := #[s, x], argTypes := #[t, t] }) (v u v' : Value) (hs : a.eval s = v) (hx : a.eval x = u)
  (hrun : (Builtin.append_ #[t, t] o.type #[v, u]).run P w = .ok v' w') (h : K (a.put o.dst v') w') : o.wp P a w K Q := by
 unfold Oper.wp execOp
 simp only [ho, resolve, invoke, builtin, Sem.run_bind, Sem.run_pure, Result.andThen_ok, List.map_toArray, List.map_cons, List.map_nil, hs, hx, hrun]
 exact h
abbrev tableF (x : Nat) : Value := .func (.func 191) #[ptrN x] #[]
abbrev tagsF (bx b : Nat) : Value := .func (.func 220) #[] #[ptrN bx, ptrN b]
def findCells (key : List UInt8) (v : Value) (u : Nat) : List Value := [sv key, v, .int .u64 (u : Int), .int .i64 0, .int .i64 0, .int .i64 0, .int .i64 0]
def Find0 (x : Nat) (key : List UInt8) : Thing := fun w S => ∃ r, w.heap[x]? = some (.cells (findCells key (.slice (some ⟨r, 0, none⟩) 1 1) 0).toArray 314 (0, 0)) ∧ w.heap[r]? = some (.cells #[tableF x] 535 (0, 0)) ∧ (∀ k, S k ↔ k = x ∨ k = r)
def FindIs (x : Nat) (key : List UInt8) (u : Nat) (L : List (Nat × Nat)) : Thing := fun w S => ∃ (v : Value) (bx : Nat) (bs : List Nat),
 w.heap[x]? = some (.cells (findCells key v u).toArray 314 (0, 0)) ∧ Row w 535 1 v L.length (bs.map (tagsF bx)) ∧ bs.length = L.length ∧
 (∀ (i b : Nat) (q : Nat × Nat), bs[i]? = some b → L[i]? = some q → w.heap[b]? = some (.cells (placeCells q).toArray 130 (0, 0))) ∧ w.heap[bx]? = some (.cells #[ptrN x] 289 (0, 0)) ∧
 (∀ k, S k ↔ k = x ∨ v.ownBlock = some k ∨ k = bx ∨ k ∈ bs)
theorem framed_find0 (x : Nat) (key : List UInt8) : Framed (Find0 x key) where
 keep := by
  rintro w w' S M ⟨r, h1, h2, hs⟩ hc hM
  exact ⟨r, hc.obj h1 (fun e => (hM _ e).1 ((hs _).2 (.inl rfl))), hc.obj h2 (fun e => (hM _ e).1 ((hs _).2 (.inr rfl))), hs⟩
 lt := by
  rintro w S k ⟨r, h1, h2, hs⟩ hk
  rcases (hs k).1 hk with rfl | rfl
  ·exact (Array.getElem?_eq_some_iff.1 h1).1
  ·exact (Array.getElem?_eq_some_iff.1 h2).1
 txt := by
  rintro w S k ⟨r, h1, h2, hs⟩ hk e
  rcases (hs k).1 hk with rfl | rfl
  ·exact absurd ((Tag.of h1).one e) (by decide)
  ·exact absurd ((Tag.of h2).one e) (by decide)
theorem framed_find (x : Nat) (key : List UInt8) (u : Nat) (L : List (Nat × Nat)) : Framed (FindIs x key u L) where
 keep := by
  rintro w w' S M ⟨v, bx, bs, h1, h2, h3, h4, h5, hs⟩ hc hM
  exact ⟨v, bx, bs, hc.obj h1 (fun e => (hM _ e).1 ((hs _).2 (.inl rfl))), h2.kept hc (fun g hg e => (hM _ e).1 ((hs _).2 (.inr (.inl hg)))), h3,
   fun i b q hb hq => hc.obj (h4 i b q hb hq) (fun e => (hM _ e).1 ((hs _).2 (.inr (.inr (.inr (List.mem_of_getElem? hb)))))), hc.obj h5 (fun e => (hM _ e).1 ((hs _).2 (.inr (.inr (.inl rfl))))), hs⟩
 lt := by
  rintro w S k ⟨v, bx, bs, h1, h2, h3, h4, h5, hs⟩ hk
  rcases (hs k).1 hk with rfl | hk | rfl | hk
  ·exact (Array.getElem?_eq_some_iff.1 h1).1
  ·exact (h2.tag hk).lt
  ·exact (Array.getElem?_eq_some_iff.1 h5).1
  ·obtain ⟨i, hi⟩ := List.mem_iff_getElem?.1 hk
   have hl : i < L.length := by rw [← h3]; exact (List.getElem?_eq_some_iff.1 hi).1
   exact (Array.getElem?_eq_some_iff.1 (h4 i k _ hi (List.getElem?_eq_getElem hl))).1
 txt := by
  rintro w S k ⟨v, bx, bs, h1, h2, h3, h4, h5, hs⟩ hk e
  rcases (hs k).1 hk with rfl | hk | rfl | hk
  ·exact absurd ((Tag.of h1).one e) (by decide)
  ·exact absurd ((h2.tag hk).one e) (by decide)
  ·exact absurd ((Tag.of h5).one e) (by decide)
  ·obtain ⟨i, hi⟩ := List.mem_iff_getElem?.1 hk
   have hl : i < L.length := by rw [← h3]; exact (List.getElem?_eq_some_iff.1 hi).1
   exact absurd ((Tag.of (h4 i k _ hi (List.getElem?_eq_getElem hl))).one e) (by decide)
theorem newFind_any (key : List UInt8) (w : World) : Calls Tryz.prog 158 #[sv key] w fun e w' => e = .returned (ptrN w.heap.size) ∧ Made (Find0 w.heap.size key) w w' := by
 have hmf := @mkFn Tryz.prog
 go_enter Tryz.func158, Tryz.ntmps158
 go_wp2_with fail
 go_ret
 refine ⟨rfl, ⟨fun k => k = w.heap.size ∨ k = w.heap.size + 1, ⟨w.heap.size + 1, ?_, ?_, fun _ => Iff.rfl⟩, fun k hk => by omega⟩, ((Below.refl _ _).alloc (Nat.le_refl _) _).alloc (by rw [size_at]; omega) _⟩
 ·rw [heap_at, if_neg (by rw [size_at]; omega), heap_at, if_pos rfl]
  rfl
 ·rw [heap_at, if_pos (by rw [size_at])]
theorem findOver_any {w : World} {x : Nat} {key : List UInt8} {u : Nat} {a : Option Addr} {n c : Nat} (h : w.heap[x]? = some (.cells (findCells key (.slice a n c) u).toArray 314 (0, 0))) : Calls Tryz.prog 441 #[ptrN x] w fun e w' => e = .returned (.bool (decide (n = 0))) ∧ w = w' := by
 have c1 : w.cell? ⟨x, 1, none⟩ = some (.slice a n c) := (cellsAt h 1).1
 have hq : ((n : Int) == 0) = decide (n = 0) := by rw [Bool.eq_iff_iff]; simp
 generalize decide (n = 0) = r at *
 clear h
 go_enter Tryz.func441, Tryz.ntmps441
 go_wp2_with fail
 go_ret
 exact ⟨ret_congr (by rw [← hq]; rfl), rfl⟩
theorem onceL_ne : ∀ (l acc : List (Nat × Nat)), acc ≠ [] → onceL acc l ≠ []
 | [], _, h => h
 | q :: l, acc, h => by
  unfold onceL
  split
  ·exact onceL_ne l acc h
  ·exact onceL_ne l (acc ++ [q]) (by simp)
theorem placesL_ne (h u : Nat) : placesL h u ≠ [] := by
 obtain ⟨o1, o2⟩ := old_bounds u
 unfold placesL
 rw [pairL_is o1 o2]
 simp only [List.cons_append]
 unfold onceL
 rw [if_neg (by simp)]
 exact onceL_ne _ _ (by simp)
theorem infoLoad : (Tryz.prog.info? 535).map (fun i => (i.zero, i.size, i.bytes)) = some (some .nilFunc, 1, 8) := by kernel_rfl
theorem owns_base {w : World} {B B' : Nat} {e : TypeId} {sz n : Nat} {v : Value} {xs : List Value} (h : w.ownsRow B e sz v n xs) (hB : B' ≤ B) : w.ownsRow B' e sz v n xs := by
 refine ⟨h.1, ?_⟩
 rcases h.2 with hn | ⟨g, cap, cur, rfl, hg, rest⟩
 ·exact .inl hn
 ·exact .inr ⟨g, cap, cur, rfl, Nat.le_trans hB hg, rest⟩
theorem tbl_append {W2 : World} {v : Value} {i nb N0 : Nat} {vals : List Value} {f : Value} {a : Addr} (hv : i = 0 ∧ vals = [] ∧ v = .slice (some a) 0 0 ∨ 0 < i ∧ W2.ownsRow N0 535 1 v i vals) (hN : N0 ≤ W2.heap.size)
  (hnb : W2.heap[nb]? = some (.cells #[f] 535 (0, 0))) (hf : f.oneCell' = true) (hi : i ≤ 1000) : ∃ g c W3, (Builtin.append_ #[312, 312] 312 #[v, .slice (some ⟨nb, 0, none⟩) 1 1]).run Tryz.prog W2 = .ok (.slice (some ⟨g, 0, none⟩) (i + 1) c) W3 ∧
   W3.ownsRow N0 535 1 (.slice (some ⟨g, 0, none⟩) (i + 1) c) (i + 1) (vals ++ [f]) ∧ ∃ r, W2.grownBy W3 r ∧ (∀ k, r = some k → N0 ≤ k ∧ Tag W2 k 535) := by
 obtain ⟨i0, hi0, hz0, hz1, hz2⟩ := infoP_parts infoLoad
 have hnews : ∀ j u, [f][j]? = some u → W2.cell? ((⟨nb, 0, none⟩ : Addr).add j) = some u := World.news_of_block (cs := #[f]) hnb
 rcases hv with ⟨rfl, rfl, rfl⟩ | ⟨h0, hv⟩
 ·obtain ⟨v', w', hr, h2, h3⟩ := run_append_arg_grows (P := Tryz.prog) W2 312 312 535 i0 .nilFunc 1 8 Tryz.underlying312 hi0 hz0 hz1 hz2 rfl (by omega) a 0 0 [] rfl (fun j u hj => by simp at hj) ⟨nb, 0, none⟩ 1 1 [f] rfl hnews (by omega) (by unfold maxLen; omega) (by omega)
  obtain ⟨g, cap, rfl, -, -⟩ := h2.form (by omega)
  exact ⟨g, cap, w', hr, owns_base h2 hN, none, h3, fun k e => by cases e⟩
 ·obtain ⟨v', w', hr, h2, h3, -, -⟩ := run_append_own_at (P := Tryz.prog) W2 N0 312 312 535 i0 .nilFunc 1 8 Tryz.underlying312 hi0 hz0 hz1 hz2 rfl (by omega) v i vals hv ⟨nb, 0, none⟩ 1 1 [f] rfl hnews (fun u hu => by simp at hu; subst hu; exact hf) (by unfold maxLen; omega) (by omega) hN
  obtain ⟨g, cap, rfl, -, -⟩ := h2.form (by omega)
  exact ⟨g, cap, w', hr, h2, _, h3, fun k e => ⟨(hv.lt k e).1, owns_tag hv e⟩⟩
structure TblJ (V : World) (S1 : Nat → Prop) (p x bx : Nat) (key : List UInt8) (u : Nat) (W : WorldM) (L : List (Nat × Nat)) (a : Addr) (i : Nat) (wr : World) : Prop where
 world : WorldIs p W wr S1
 box : wr.heap[bx]? = some (.cells #[ptrN x] 289 (0, 0))
 chg : Chg (fun k => k = x) V wr
 left : ∃ (v : Value) (bs : List Nat), wr.heap[x]? = some (.cells (findCells key v u).toArray 314 (0, 0)) ∧ (i = 0 ∧ bs.map (tagsF bx) = [] ∧ v = .slice (some a) 0 0 ∨ 0 < i ∧ wr.ownsRow V.heap.size 535 1 v i (bs.map (tagsF bx))) ∧ bs.length = i ∧
  (∀ (j b : Nat) (q : Nat × Nat), bs[j]? = some b → L[j]? = some q → wr.heap[b]? = some (.cells (placeCells q).toArray 130 (0, 0))) ∧ (∀ b ∈ bs, V.heap.size ≤ b)
theorem TblJ.push {V : World} {S1 : Nat → Prop} {p x bx : Nat} {key : List UInt8} {u : Nat} {W : WorldM} {L : List (Nat × Nat)} {a : Addr} {i : Nat} {wr W2 W3 : World} {v : Value} {bs : List Nat} {nb gg gc : Nat} {r : Option Nat} {q : Nat × Nat}
  (HJ : TblJ V S1 p x bx key u W L a i wr) (hS1 : ∀ k, S1 k → k < V.heap.size) (hSx : ¬ S1 x) (hxV : x < V.heap.size) (hxb : x ≠ bx) (hq : L[i]? = some q) (hbl : bs.length = i)
  (hbs : ∀ (j b : Nat) (q : Nat × Nat), bs[j]? = some b → L[j]? = some q → wr.heap[b]? = some (.cells (placeCells q).toArray 130 (0, 0))) (hbn : ∀ b ∈ bs, V.heap.size ≤ b) (hw : Below wr.heap.size wr W2) (hnbe : nb = wr.heap.size)
  (hnb : W2.heap[nb]? = some (.cells (placeCells q).toArray 130 (0, 0))) (hc : Chg (fun k => r = some k) W2 W3) (hr : ∀ k, r = some k → V.heap.size ≤ k ∧ Tag W2 k 535)
  (hx3 : W3.heap[x]? = some (.cells (findCells key v u).toArray 314 (0, 0))) (hbo3 : W3.heap[bx]? = some (.cells #[ptrN x] 289 (0, 0)))
  (hown : W3.ownsRow V.heap.size 535 1 (.slice (some ⟨gg, 0, none⟩) (i + 1) gc) (i + 1) (bs.map (tagsF bx) ++ [tagsF bx nb])) :
  TblJ V S1 p x bx key u W L a (i + 1) (W3.setCell ⟨x, 1, none⟩ (.slice (some ⟨gg, 0, none⟩) (i + 1) gc)) := by
 have hs := HJ.chg.size
 have hc0 : Chg (fun k => k = x) W3 (W3.setCell ⟨x, 1, none⟩ (.slice (some ⟨gg, 0, none⟩) (i + 1) gc)) := Chg.set (M := fun k => k = x) (Chg.refl _ _) (fun _ => rfl) _
 have hc1 : Chg (fun k => r = some k) wr W3 := (Chg.of_below (M := fun k => r = some k) hw).trans hc
 have hc2 : Chg (fun k => k = x ∨ r = some k) wr (W3.setCell ⟨x, 1, none⟩ (.slice (some ⟨gg, 0, none⟩) (i + 1) gc)) := (hc1.mono (fun _ _ h => .inr h)).trans (hc0.mono (fun _ _ h => .inl h))
 have hxw : x < wr.heap.size := by omega
 have hgx : gg ≠ x := fun e => by
  have h1 := (hown.lt gg rfl).1
  omega
 have htx : Tag wr x 314 := by
  obtain ⟨v', bs', h1, -⟩ := HJ.left
  exact Tag.of h1
 refine ⟨(framed_worldIs p W).keep HJ.world hc2 ?_, ?_, ?_, .slice (some ⟨gg, 0, none⟩) (i + 1) gc, bs ++ [nb], ?_, .inr ⟨by omega, ?_⟩, by rw [List.length_append, hbl]; rfl, ?_, ?_⟩
 ·rintro k (rfl | hk)
  ·exact ⟨hSx, fun e => absurd (e.one htx) (by decide)⟩
  ·have h1 := hr k hk
   refine ⟨fun e => by have := hS1 k e; omega, fun e => ?_⟩
   have h2 : Tag W2 k 9 := (Chg.of_below (M := fun _ => False) hw).tag e (fun h => h)
   exact absurd (h2.one h1.2) (by decide)
 ·exact hc0.obj hbo3 (fun e => hxb e.symm)
 ·exact HJ.chg.then hc2 (fun k hk e => e.elim id (fun e => by have := (hr k e).1; omega))
 ·exact Go.Joins.block_setCell (i := 1) hx3 _
 ·rw [List.map_append]
  exact owns_grow hown hc0 (fun g hg e => by
   obtain rfl : g = gg := by simpa [Value.ownBlock] using hg.symm
   exact hgx e)
 ·intro j b q' hj hq'
  rcases Nat.lt_or_ge j bs.length with hlt | hge
  ·rw [List.getElem?_append_left hlt] at hj
   have h1 := hbs j b q' hj hq'
   have hbm := hbn b (List.mem_of_getElem? hj)
   exact hc2.obj h1 (fun e => e.elim (fun e => by omega) (fun e => absurd ((hr b e).2.one ((Chg.of_below (M := fun _ => False) hw).tag (Tag.of h1) (fun h => h))) (by decide)))
  ·rw [List.getElem?_append_right hge] at hj
   have hj0 : j = i := by
    have := (List.getElem?_eq_some_iff.1 hj).1
    simp at this
    omega
   subst hj0
   obtain rfl : nb = b := by simpa [hbl] using hj
   obtain rfl : q = q' := by
    rw [hq] at hq'
    exact Option.some.inj hq'
   exact ((hc.mono (M' := fun k => k = x ∨ r = some k) (fun _ _ h => .inr h)).trans (hc0.mono (fun _ _ h => .inl h))).obj hnb (fun e => e.elim (fun e => by omega) (fun e => absurd ((hr _ e).2.one (Tag.of hnb)) (by decide)))
 ·intro b hb
  rcases List.mem_append.1 hb with hb | hb
  ·exact hbn b hb
  ·obtain rfl : b = nb := by simpa using hb
   omega
theorem findTable_any {w : World} {p x : Nat} {key : List UInt8} {a : Addr} {W : WorldM} {S : Nat → Prop} (h : Star (WorldIs p W) (Blk x (findCells key (.slice (some a) 0 0) 0) 314) w S) (hW : W.Ok) (hn : newN (W.cells.f 2) = 0) (hk : key.length ≤ maxLen) :
  Calls Tryz.prog 191 #[ptrN x, ptrN p] w fun e w' => e = .returned (.bool false) ∧ Stp (Star (WorldIs p (loadW W 2)) (FindIs x key (W.cells.f 2) (placesL (hashN key) (W.cells.f 2)))) S w w' := by
 have hFB : Framed (Blk x (findCells key (.slice (some a) 0 0) 0) 314) := framed_blk _ _ _ (by decide)
 obtain ⟨w0, hw0⟩ := xE (w.alloc (.cells #[ptrN x] 289))
 have hb0 : Below w.heap.size w w0 := bal hw0
 have hbx0 : w0.heap[w.heap.size]? = some (.cells #[ptrN x] 289 (0, 0)) := by rw [hw0, heap_at, if_pos rfl]
 have hsz0 : w0.heap.size = w.heap.size + 1 := by rw [hw0, size_at]
 have hlt := fun k hk => ((framed_worldIs p W).star hFB).lt (k := k) h hk
 have h0 := ((framed_worldIs p W).star hFB).below h hb0
 have hd0 := Star.drew (framed_worldIs p W) hFB h0
 obtain ⟨pc, S3, c0, hcs, hp3, -, hup⟩ := Star.cellsW hFB hW.tickets hd0
 obtain ⟨bx, hbx⟩ := xE (w.heap.size)
 rw [← hbx] at hbx0
 have hSbx : ¬ S bx := fun e => by have := hlt _ e; omega
 have HL := hidZ (cload_any (a := 2) hcs (by unfold U64; omega) hW.count)
 have HUP := hidZ hup
 have HP3 := hidZ hp3
 have HSB := hidZ hSbx
 have b0 : w0.cell? ⟨bx, 0, none⟩ = some (ptrN x) := (cellsAt hbx0 0).1
 have c0' : w0.cell? ⟨p, 0, none⟩ = some (ptrN pc) := c0
 have HB0 := hidZ (And.intro hb0 hsz0)
 have HX0 := hidZ hbx0
 have HBX := hidZ hbx
 obtain ⟨f2, hf2⟩ := xE (W.cells.f 2)
 have HU := hidZ (hW.f 2)
 rw [← hf2] at HL HU hn ⊢
 have HF := hidZ hf2
 have HWT := hidZ hW.tickets
 have HK := hidZ hk
 have HN := hidZ hn
 have HLT := hidZ hlt
 clear h h0 hd0 hcs hup hp3 hb0 hsz0 hbx0 hlt hW hk hn hf2 hSbx c0
 go_enter Tryz.func191, Tryz.ntmps191
 go_upto_region 1 with fail
 rw [← hw0, ← hbx]
 clear hw0 hbx
 refine wp_region_held_drew (S := fun V => V.cell? ⟨bx, 0, none⟩ = some (ptrN x) ∧ V.cell? ⟨p, 0, none⟩ = some (ptrN pc)) (by kernel_rfl) ⟨b0, c0'⟩ (fun hHe => ?_)
 refine tkw 0 rfl ?_
 try simp only [tp, tz]
 refine tkz 1 rfl ?_
 try simp only [tp, tz]
 refine tkz 2 rfl ?_
 try simp only [tp, tz]
 refine tkz 3 rfl ?_
 try simp only [tp, tz]
 refine tkw 4 rfl ?_
 try simp only [tp, tz]
 refine rdy 5 rfl (fun K hK => ?_)
 go_simp
 go_at_call 186
 refine (HL.out).mono ?_
 rintro e w2 ⟨rfl, hst⟩
 refine hK.out _ _ ⟨(HUP.out _ _ hst).chg.cell (w := w0.drew) b0 HSB.out, hst.chg.cell (w := w0.drew) c0' HP3.out⟩ (fun hHf => ?_)
 clear hK K
 try simp only [tp, tz]
 obtain ⟨S4, hs4, hc4, hk4⟩ := HUP.out _ _ hst
 have hbx2 : w2.heap[bx]? = some (.cells #[ptrN x] 289 (0, 0)) := hc4.obj (w := w0.drew) HX0.out HSB.out
 obtain ⟨e20, e21⟩ := hs4.cellB (j := 2) rfl
 obtain ⟨hs5, hc5⟩ := hs4.setB (framed_worldIs p _) (by decide) 2 (.int .u64 (f2 : Int))
 have hxb : x ≠ bx := fun e => by
  obtain ⟨T1, T2, a1, a2, a3, a4⟩ := hs4
  exact absurd ((Tag.of hbx2).one (e ▸ Tag.of a2.1)) (by decide)
 have HX2 := hidZ hbx2
 have HC4 := hidZ hc4
 have HK4 := hidZ hk4
 clear hst hs4 hc4 hk4 HUP hbx2 HL HP3
 refine tkz 6 rfl ?_
 try simp only [tp, tz]
 refine tkz 7 rfl ?_
 try simp only [tp, tz]
 refine rdy 8 rfl (fun K hK => ?_)
 go_simp
 refine hK.out _ _ ⟨(World.cell?_setCell_other w2 ⟨x, 2, none⟩ ⟨bx, 0, none⟩ _ (by simp)).trans hHf.1, (World.cell?_setCell_other w2 ⟨x, 2, none⟩ ⟨p, 0, none⟩ _ (by simp)).trans hHf.2⟩ (fun hHf => ?_)
 clear hK K
 try simp only [tp, tz]
 refine wpAnyH_done (by kernel_rfl) ?_ _
 clear hHe
 obtain ⟨w3, hw3⟩ := xE (w2.setCell ⟨x, 2, none⟩ (.int .u64 (f2 : Int)))
 have HX3 := hidZ (show w3.heap[bx]? = some (.cells #[ptrN x] 289 (0, 0)) from by rw [hw3]; exact (Chg.set (M := fun k => k = x) (Chg.refl _ w2) (fun _ => rfl) _).obj HX2.out (fun e => hxb e.symm))
 rw [← hw3] at hs5 hc5 ⊢
 have d0 := (hs5.cellB (j := 0) rfl).1
 have d2 := (hs5.cellB (j := 2) rfl).1
 have dB : w3.cell? ⟨bx, 0, none⟩ = some (ptrN x) := (cellsAt HX3.out 0).1
 have hsz3 : bx < w3.heap.size := cell_lt dB
 have HS5 := hidZ hs5
 have HC35 := hidZ (show Chg S w w3 from (((Chg.of_below (M := S) HB0.out.1).drew).trans HC4.out).then hc5 (fun i hi e => (HK4.out i e).elim id (fun e => by have h1 := HB0.out.2; have h2 : w0.heap.size ≤ i := e; omega)))
 clear hs5 hc5 hw3 e20 e21 hHf HX2 HC4 HX0 b0 c0'
 go_upto_region 2 with fail
 refine wp_region_held_drew (S := fun V => V.cell? ⟨bx, 0, none⟩ = some (ptrN x) ∧ V.cell? ⟨x, 0, none⟩ = some (sv key) ∧ V.cell? ⟨x, 2, none⟩ = some (.int .u64 (f2 : Int))) (by kernel_rfl) ⟨dB, d0, d2⟩ (fun hHe => ?_)
 refine tkw 0 rfl ?_
 try simp only [tp, tz]
 refine tkz 1 rfl ?_
 try simp only [tp, tz]
 refine tkz 2 rfl ?_
 try simp only [tp, tz]
 refine tkw 3 rfl ?_
 try simp only [tp, tz]
 refine tkw 5 rfl ?_
 try simp only [tp, tz]
 refine tkz 6 rfl ?_
 try simp only [tp, tz]
 refine tkz 7 rfl ?_
 try simp only [tp, tz]
 refine tkw 8 rfl ?_
 try simp only [tp, tz]
 refine tkz 11 rfl ?_
 try simp only [tp, tz]
 refine rdy 4 rfl (fun K hK => ?_)
 go_simp
 go_at_call 123
 refine (hash_any key HK.out _).mono ?_
 rintro e w4 ⟨rfl, hb4⟩
 refine hK.out _ _ ⟨(hb4.cell (p := ⟨bx, 0, none⟩) (cell_lt dB)).trans dB, (hb4.cell (p := ⟨x, 0, none⟩) (cell_lt d0)).trans d0, (hb4.cell (p := ⟨x, 2, none⟩) (cell_lt d2)).trans d2⟩ (fun hHf => ?_)
 clear hK K
 try simp only [tp, tz]
 refine rdy 9 rfl (fun K hK => ?_)
 go_simp
 go_at_call 219
 refine (places_any (hashN key) f2 (hashN_lt key) HU.out HN.out _).mono ?_
 rintro e w5 ⟨pv, rfl, hpr, hb5⟩
 obtain ⟨pa, pcp, rfl⟩ := hpr.len
 refine hK.out _ _ ⟨(hb5.cell (p := ⟨bx, 0, none⟩) (cell_lt hHf.1)).trans hHf.1, (hb5.cell (p := ⟨x, 0, none⟩) (cell_lt hHf.2.1)).trans hHf.2.1, (hb5.cell (p := ⟨x, 2, none⟩) (cell_lt hHf.2.2)).trans hHf.2.2⟩ (fun hHf => ?_)
 clear hK K
 try simp only [tp, tz]
 refine tkz 10 rfl ?_
 try simp only [tp, tz]
 refine wpAnyH_done (by kernel_rfl) ?_ _
 clear hHe
 obtain ⟨S1, S2, a1, a2, a3, a4⟩ := HS5.out
 have hb35 : Below w3.heap.size w3 w5 := (show Below w3.heap.size w3 w3.drew from (Below.refl _ _).drew).trans ((show Below w3.heap.size w3.drew w4 from hb4).trans (hb5.mono hb4.size))
 obtain ⟨L, hL⟩ := xE (placesL (hashN key) f2)
 rw [← hL] at hpr ⊢
 obtain ⟨W', hW'⟩ : ∃ W' : WorldM, W' = { W with cells := W.cells.acc 1 2 f2 } := ⟨_, rfl⟩
 rw [← hW'] at a1
 have hLlen : L.length ≤ 1000 := by
  rw [hL]
  unfold placesL
  rw [HN.out, pairL_no, List.append_nil]
  have h1 := onceL_len [] (pairL (hashN key) (oldN f2))
  rw [pairL_is (old_bounds f2).1 (old_bounds f2).2] at h1 ⊢
  exact Nat.le_trans h1 (by simp)
 have hxw : w5.heap[x]? = some (.cells (findCells key (.slice (some a) 0 0) f2).toArray 314 (0, 0)) := boxAt a2.1 hb35
 have HJ0 := hidZ (show TblJ w5 S1 p x bx key f2 W' L a 0 w5 from ⟨(framed_worldIs p W').below a1 hb35, boxAt HX3.out hb35, Chg.refl _ _, _, [], hxw, .inl ⟨rfl, rfl, rfl⟩, rfl, (fun j b q hb => by simp at hb), (fun b hb => nomatch hb)⟩)
 have HPR := hidZ hpr
 have HLL := hidZ (And.intro hL hW')
 have HS1 := hidZ (And.intro (show ∀ k, S1 k → k < w3.heap.size from fun k hk => (framed_worldIs p W').lt a1 hk) (And.intro (show ∀ k, S1 k → S4 k from fun k hk => (a4 k).2 (.inl hk)) (show ¬ S1 x from fun e => a3 x e ((a2.2 x).2 rfl))))
 have HSx := hidZ (show S4 x from (a4 x).2 (.inr ((a2.2 x).2 rfl)))
 have HB35 := hidZ hb35
 have HXT := hidZ hxw
 clear a1 a2 a3 a4 hb35 hpr hL hW' hxw hb4 hb5 hHf d0 d2 dB hsz3 hFB
 go_upto_region 3 with fail
 go_loopw [26] (fun s26 wr => ∃ i : Nat, s26 = .int .i64 (i : Int) ∧ i ≤ L.length ∧ Hid (TblJ w5 S1 p x bx key f2 W' L a i wr)) (fun s26 _ => L.length - (intOf s26).toNat)
 case atStart => exact ⟨0, rfl, Nat.zero_le _, HJ0⟩
 case round =>
  obtain ⟨i, rfl, hil, HJ⟩ := hrel
  by_cases hlt : i < L.length
  ·obtain ⟨q, hq⟩ : ∃ q, L[i]? = some q := ⟨_, List.getElem?_eq_getElem hlt⟩
   have hprow : PRow wr (.slice pa L.length pcp) L := HPR.out.kept HJ.out.chg (fun g hg e => absurd ((Row.tag HPR.out hg).one (e ▸ Tag.of HXT.out)) (by decide))
   obtain ⟨g, o, cc, he, hg, hcell⟩ := hprow.get hq
   obtain ⟨rfl, -, rfl⟩ := slice_inj he
   obtain ⟨y0, y1⟩ := hcell wr (Below.refl _ _)
   have hix : ∀ V : World, (Instr.indexAt 326 (.slice (some ⟨g, o, none⟩) L.length pcp) (.int .i64 (i : Int))).run Tryz.prog V = .ok (.pointer (some ⟨g, o + i * 2, none⟩)) V := fun V => idx_place rfl hlt V
   obtain ⟨v, bs, hx, hv, hbl, hbs, hbn⟩ := HJ.out.left
   obtain ⟨b, hb⟩ := xE (o + i * 2)
   rw [← hb] at hix y0 y1
   obtain ⟨nb, hnb⟩ := xE (wr.heap.size)
   obtain ⟨W1, hW1⟩ := xE (wr.alloc (.cells (placeCells q).toArray 130))
   have hbw : Below wr.heap.size wr W1 := bal hW1
   have hnw : W1.heap[nb]? = some (.cells (placeCells q).toArray 130 (0, 0)) := by rw [hW1, hnb, heap_at, if_pos rfl]
   have hsz1 : W1.heap.size = nb + 1 := by rw [hW1, size_at, hnb]
   have hx1 := boxAt hx hbw
   have hbox1 := boxAt HJ.out.box hbw
   have k1 : W1.cell? ⟨x, 1, none⟩ = some v := (cellsAt hx1 1).1
   have kb : W1.cell? ⟨bx, 0, none⟩ = some (ptrN x) := (cellsAt hbox1 0).1
   have hgl : g < wr.heap.size := cell_lt y0
   obtain ⟨va, vn, vc, rfl⟩ : ∃ va vn vc, v = .slice va vn vc := by
    rcases hv with ⟨-, -, rfl⟩ | ⟨-, hv⟩
    ·exact ⟨_, _, _, rfl⟩
    ·obtain ⟨a', c', rfl⟩ := (Row.of_owns hv).len
     exact ⟨_, _, _, rfl⟩
   have HQ := hidZ hq
   have HV := hidZ hv
   have HBS := hidZ (And.intro hbl (And.intro hbs hbn))
   have HX := hidZ hx
   have HBW := hidZ hbw
   have HNW := hidZ hnw
   have HX1 := hidZ hx1
   have HBO := hidZ hbox1
   have HNB := hidZ hnb
   have HS1z := hidZ hsz1
   have hmf := @mkFn Tryz.prog
   clear hprow he hg hcell hb hq hv hbl hbs hbn hx hbw hnw hx1 hbox1 hsz1
   go_upto_region 5 with fail
   have hW1' : wr.alloc (.cells #[.int .i64 (q.1 : Int), .int .i64 (q.2 : Int)] 130) = W1 := hW1.symm
   rw [hW1', ← hnb]
   clear hW1 hW1' y0 y1 hix hgl hnb
   have hbl1 : bx < W1.heap.size := cell_lt kb
   have hxl1 : x < W1.heap.size := cell_lt k1
   refine wp_region_late 10 (fun V => V.cell? ⟨bx, 0, none⟩ = some (ptrN x) ∧ V.cell? ⟨x, 1, none⟩ = some (.slice va vn vc)) (by kernel_rfl) ⟨kb, k1⟩ (fun hHe => ?_)
   refine late_read (i := 0) (v := ?_) rfl (by kernel_rfl) (by kernel_rfl) (by kernel_rfl) (fun _ _ _ h => h) (by decide) rfl (by kernel_rfl) (Or.inl ⟨by rfl, ?_⟩) hHe (by kernel_rfl) ?_
   rotate_left 1
   ·((intro w hSw; (try dsimp only at hSw); obtain ⟨c0, c1⟩ := hSw; go_simp) <;> with_reducible rfl)
   try simp only [tp, tz]
   refine late_read (i := 1) (v := ?_) rfl (by kernel_rfl) (by kernel_rfl) (by kernel_rfl) (fun _ _ _ h => h) (by decide) rfl (by kernel_rfl) (Or.inl ⟨by rfl, ?_⟩) hHe (by kernel_rfl) ?_
   rotate_left 1
   ·((intro w hSw; (try dsimp only at hSw); obtain ⟨c0, c1⟩ := hSw; go_simp) <;> with_reducible rfl)
   try simp only [tp, tz]
   refine ltz 2 rfl (fun _ => hHe) ?_
   try simp only [tp, tz]
   refine ltz 3 rfl (fun _ => hHe) ?_
   try simp only [tp, tz]
   refine late_read (i := 4) (v := ?_) rfl (by kernel_rfl) (by kernel_rfl) (by kernel_rfl) (fun _ _ _ h => h) (by decide) rfl (by kernel_rfl) (Or.inl ⟨by rfl, ?_⟩) hHe (by kernel_rfl) ?_
   rotate_left 1
   ·((intro w hSw; (try dsimp only at hSw); obtain ⟨c0, c1⟩ := hSw; go_simp) <;> with_reducible rfl)
   try simp only [tp, tz]
   refine ltz 5 rfl (fun _ => hHe) ?_
   try simp only [tp, tz]
   refine late_one (i := 6) (by kernel_rfl) rfl (fun K hK => ?_)
   go_simp
   refine hK.out _ _ (fun _ _ => ⟨((Below.refl _ W1.drew).alloc (Nat.le_refl _) _ |>.cell (p := ⟨bx, 0, none⟩) hbl1).trans kb, ((Below.refl _ W1.drew).alloc (Nat.le_refl _) _ |>.cell (p := ⟨x, 1, none⟩) hxl1).trans k1⟩) ?_
   clear hK K
   try simp only [tp, tz]
   obtain ⟨W2, hW2⟩ := xE ((W1.alloc (.cells #[tagsF bx nb] 535)).drew)
   have hb2 : Below W1.heap.size W1 W2 := by rw [hW2]; exact ((Below.refl _ _).alloc (Nat.le_refl _) _).drew
   have hf2 : W2.heap[W1.heap.size]? = some (.cells #[tagsF bx nb] 535 (0, 0)) := by rw [hW2]; exact heap_mem W1 _
   have hW2' : (W1.alloc (.cells #[.func (.func 220) #[] #[.pointer (some ⟨bx, 0, none⟩), .pointer (some ⟨nb, 0, none⟩)]] 535)).drew = W2 := hW2.symm
   have hw02 : Below wr.heap.size wr W2 := HBW.out.trans (hb2.mono HBW.out.size)
   have hb12 := hb2
   obtain ⟨gg, gc, W3, hrun, hown, r, hgr, hrr⟩ := tbl_append (W2 := W2) (v := .slice va vn vc) (i := i) (nb := W1.heap.size) (N0 := w5.heap.size) (vals := bs.map (tagsF bx)) (f := tagsF bx nb) (a := a)
    (HV.out.imp id (fun e => ⟨e.1, owns_grow e.2 (Chg.of_below (M := fun _ => False) hw02) (fun _ _ e => e)⟩)) (Nat.le_trans HJ.out.chg.size hw02.size) hf2 rfl (by omega)
   have hc23 : Chg (fun k => r = some k) W2 W3 := Chg.of_grown hgr (fun _ _ e => e)
   have hx2 := boxAt HX1.out hb2
   have hbo2 := boxAt HBO.out hb2
   have hN5 : x < w5.heap.size := (Array.getElem?_eq_some_iff.1 HXT.out).1
   have hNb : bx < w5.heap.size := Nat.lt_of_lt_of_le (Array.getElem?_eq_some_iff.1 HX3.out).1 HB35.out.size
   have hx3 := hc23.obj hx2 (fun e => by have := (hrr _ e).1; omega)
   have hbo3 := hc23.obj hbo2 (fun e => by have := (hrr _ e).1; omega)
   have HOWN := hidZ hown
   have HC := hidZ (And.intro hw02 (And.intro hc23 hrr))
   have HX3' := hidZ hx3
   have HBO3 := hidZ hbo3
   have u0 : W3.cell? ⟨x, 1, none⟩ = some (.slice va vn vc) := (cellsAt hx3 1).1
   have u1 : W3.frozen? ⟨x, 1, none⟩ = false := (cellsAt hx3 1).2
   have ub : W3.cell? ⟨bx, 0, none⟩ = some (ptrN x) := (cellsAt hbo3 0).1
   rw [hW2']
   clear hW2 hW2' hb2 hf2 hgr hown hx2 hbo2 hx3 hbo3 hHe
   refine late_one (i := 7) (by kernel_rfl) rfl (fun K hK => ?_)
   rw [if_pos (by rfl)]
   refine wp_append_run (.tmp 34) (.tmp 36) 312 (by rfl) _ _ _ (by rfl) (by rfl) hrun ?_
   refine hK.out _ _ (fun _ _ => ⟨ub, u0⟩) ?_
   clear hK K hrun
   try simp only [tp, tz]
   refine ltz 8 rfl (fun _ => ⟨ub, u0⟩) ?_
   try simp only [tp, tz]
   refine ltz 9 rfl (fun _ => ⟨ub, u0⟩) ?_
   try simp only [tp, tz]
   refine late_one (i := 10) (by kernel_rfl) rfl (fun K hK => ?_)
   go_simp
   refine hK.out _ _ (fun _ h => absurd rfl h) ?_
   clear hK K
   try simp only [tp, tz]
   refine late_done (by kernel_rfl) ?_
   have HP := hidZ (HJ.out.push (fun k hk => Nat.lt_of_lt_of_le (HS1.out.1 k hk) HB35.out.size) HS1.out.2.2 hN5 hxb HQ.out HBS.out.1 HBS.out.2.1 HBS.out.2.2 HC.out.1 HNB.out (boxAt HNW.out hb12) HC.out.2.1 hrr HX3'.out HBO3.out HOWN.out)
   clear HX1 HBO HX HBW HNW hw02 hc23 hrr HOWN HC HX3' HBO3 u0 u1 ub kb k1 hbl1 hxl1 hN5 hNb HBS HV HNB HS1z HQ
   go_wp2_with fail
   go_roundw
   case rel => exact ⟨i + 1, by go_num, by omega, HP⟩
   case measure => simp [intOf]; omega
  ·obtain rfl : i = L.length := by omega
   go_wp2_with fail
   go_ret
   obtain ⟨v, bs, hx, hv, hbl, hbs, hbn⟩ := HJ.out.left
   have hLn : L.length ≠ 0 := fun e => placesL_ne (hashN key) f2 (by rw [← HLL.out.1]; exact List.length_eq_zero_iff.1 e)
   have hv := (hv.resolve_left (fun e => hLn e.1)).2
   have hS0 : w0.drew.heap.size = w.heap.size + 1 := HB0.out.2
   have hb := HBX.out
   have hs1 := HC35.out.size
   have hs2 := HB35.out.size
   have hnew : ∀ k, S4 k → S k ∨ w.heap.size + 1 ≤ k := fun k hk => (HK4.out k hk).imp id (fun e => by omega)
   refine ⟨rfl, fun k => S1 k ∨ (k = x ∨ v.ownBlock = some k ∨ k = bx ∨ k ∈ bs), ⟨S1, _, ?_, ⟨v, bx, bs, hx, ?_, by rw [← HLL.out.1]; exact hbl, ?_, HJ.out.box, fun _ => Iff.rfl⟩, ?_, fun _ => Iff.rfl⟩, ?_, ?_⟩
   ·have h1 := HJ.out.world
    rw [HLL.out.2] at h1
    rw [loadW, ← HF.out]
    exact h1
   ·rw [← HLL.out.1]
    exact Row.of_owns hv
   ·rw [← HLL.out.1]
    exact hbs
   ·rintro k h1 (rfl | h2 | rfl | h2)
    ·exact HS1.out.2.2 h1
    ·have := HS1.out.1 k h1
     have := (hv.lt k h2).1
     omega
    ·exact (hnew _ (HS1.out.2.1 _ h1)).elim HSB.out (fun e => by omega)
    ·have := HS1.out.1 k h1
     have := hbn k h2
     omega
   ·exact (HC35.out.trans (Chg.of_below HB35.out)).then HJ.out.chg (fun k hk e => by
     subst e
     exact (hnew _ HSx.out).elim id (fun e => by omega))
   ·rintro k (h1 | rfl | h2 | rfl | h2)
    ·exact (hnew _ (HS1.out.2.1 _ h1)).imp id (fun e => by omega)
    ·exact (hnew _ HSx.out).imp id (fun e => by omega)
    ·have := (hv.lt k h2).1
     exact .inr (by omega)
    ·exact .inr (by omega)
    ·have := hbn k h2
     exact .inr (by omega)
open Go.RowKit
theorem clipInt_nil (w : World) : Calls Tryz.prog 289 #[.slice none 0 0] w fun e w' => e = .returned (.slice none 0 0) ∧ Below w.heap.size w w' := by
 go_enter Tryz.func289, Tryz.ntmps289
 go_wp2_with fail
 go_ret
 exact ⟨rfl, by first | exact Below.refl _ _ | exact (Below.refl _ _).drew⟩
theorem hasNone_any (u t : Nat) (hu : u < 18446744073709551616) (h0 : t ≠ 0) (hn : ∀ s, s < 4 → partN u s ≠ t) (w : World) : Calls Tryz.prog 256 #[.int .u64 (u : Int), .int .i64 (t : Int)] w fun e w' => e = .returned (.slice none 0 0) ∧ Below w.heap.size w w' := by
 have HP := hidZ (parts_any u hu w)
 obtain ⟨V, hV⟩ := xE (partV u)
 rw [← hV] at HP
 have i0 : ∀ W, (Instr.index 412 V (.int .i64 0)).run Tryz.prog W = .ok (.int .i64 (partN u 0 : Int)) W := fun W => by rw [hV]; kernel_rfl
 have i1 : ∀ W, (Instr.index 412 V (.int .i64 1)).run Tryz.prog W = .ok (.int .i64 (partN u 1 : Int)) W := fun W => by rw [hV]; kernel_rfl
 have i2 : ∀ W, (Instr.index 412 V (.int .i64 2)).run Tryz.prog W = .ok (.int .i64 (partN u 2 : Int)) W := fun W => by rw [hV]; kernel_rfl
 have i3 : ∀ W, (Instr.index 412 V (.int .i64 3)).run Tryz.prog W = .ok (.int .i64 (partN u 3 : Int)) W := fun W => by rw [hV]; kernel_rfl
 have z : ((t : Int) == 0) = false := by rw [beq_eq_false_iff_ne]; omega
 have e0 : ((partN u 0 : Int) == (t : Int)) = false := by rw [beq_eq_false_iff_ne]; have := hn 0 (by omega); omega
 have e1 : ((partN u 1 : Int) == (t : Int)) = false := by rw [beq_eq_false_iff_ne]; have := hn 1 (by omega); omega
 have e2 : ((partN u 2 : Int) == (t : Int)) = false := by rw [beq_eq_false_iff_ne]; have := hn 2 (by omega); omega
 have e3 : ((partN u 3 : Int) == (t : Int)) = false := by rw [beq_eq_false_iff_ne]; have := hn 3 (by omega); omega
 clear hV hu h0 hn
 go_enter Tryz.func256, Tryz.ntmps256
 go_wp2_with fail
 refine HP.out.mono ?_
 rintro e w1 ⟨rfl, hb⟩
 have HB := hidZ hb
 clear hb HP
 go_wp2_with fail
 go_loop [5, 12] (fun s5 s12 => ∃ k : Nat, s12 = .int .i64 (k : Int) ∧ s5 = .slice none 0 0 ∧ k ≤ 4) (fun _ s12 => 4 - (intOf s12).toNat)
 case atStart => exact ⟨0, rfl, rfl, Nat.zero_le _⟩
 case round =>
  obtain ⟨k, rfl, rfl, hk⟩ := hrel
  rcases (by omega : k = 0 ∨ k = 1 ∨ k = 2 ∨ k = 3 ∨ k = 4) with rfl | rfl | rfl | rfl | rfl
  ·go_wp2_with fail
   exact ⟨⟨1, rfl, rfl, by omega⟩, by simp [intOf]⟩
  ·go_wp2_with fail
   exact ⟨⟨2, rfl, rfl, by omega⟩, by simp [intOf]⟩
  ·go_wp2_with fail
   exact ⟨⟨3, rfl, rfl, by omega⟩, by simp [intOf]⟩
  ·go_wp2_with fail
   exact ⟨⟨4, rfl, rfl, by omega⟩, by simp [intOf]⟩
  ·go_wp2_with fail
   refine (clipInt_nil _).mono ?_
   rintro e w2 ⟨rfl, hb2⟩
   go_wp2_with fail
   go_ret
   exact ⟨rfl, HB.out.trans (hb2.mono HB.out.size)⟩
theorem app_none (w : World) : (Builtin.append_ #[312, 312] 312 #[.slice none 0 0, .slice none 0 0]).run Tryz.prog w = .ok (.slice none 0 0) w := by kernel_rfl
theorem app_left {w : World} {v : Value} {n N0 : Nat} {xs : List Value} (h : Row w 535 1 v n xs) (hn : n ≤ 1000) (h1 : ∀ u ∈ xs, u.oneCell' = true) (hN : N0 ≤ w.heap.size) : ∃ v' W, (Builtin.append_ #[312, 312] 312 #[.slice none 0 0, v]).run Tryz.prog w = .ok v' W ∧
   W.ownsRow N0 535 1 v' n xs ∧ w.grownBy W none := by
 obtain ⟨i0, hi0, hz0, hz1, hz2⟩ := infoP_parts infoLoad
 obtain ⟨hl, a, c, rfl, hc, hm, hna, ht, hx⟩ := h
 cases a with
 | none =>
  obtain rfl := hna rfl
  obtain rfl : n = 0 := by omega
  obtain rfl : xs = [] := List.length_eq_zero_iff.1 (by simpa using hl)
  exact ⟨_, w, app_none w, World.ownsRow_nil _ _ _ _, World.grownBy.refl _ _⟩
 | some a =>
  have hnews : ∀ j u, xs[j]? = some u → w.cell? (a.add j) = some u := by
   intro j u hj
   rcases hx with rfl | ⟨g, o, e, hx⟩
   ·simp at hj
   ·cases e
    have := (hx j u hj).1
    by_cases h0 : j = 0
    ·subst h0
     simpa [Addr.add] using this
    ·simpa [Addr.add, h0] using this
  obtain ⟨v', w', hr, h2, h3, -, -⟩ := run_append_own_at (P := Tryz.prog) w N0 312 312 535 i0 .nilFunc 1 8 Tryz.underlying312 hi0 hz0 hz1 hz2 rfl (by omega) (.slice none 0 0) 0 [] (World.ownsRow_nil _ _ _ _) a n c xs (by omega) hnews h1 (by unfold maxLen; omega) (by omega) hN
  refine ⟨v', w', hr, ?_, h3⟩
  rw [Nat.zero_add, List.nil_append] at h2
  exact h2
end Go.Proofs.YtnkkoicbnbjlnaaGreatDoor
