/- A connection in memory. No condition. And what goes with it (3 texts). -/
import Derived.Test.YtnkkoicbnbjlnaaGreatDoorCoA
import Derived.Test.YtnkkoicbnbjlnaaGreatDoorLowA
import Derived.Test.YtnkkoicbnbjlnaaGreatDoorLowH
import Derived.Test.YtnkkoicbnbjlnaaGreatDoorLowL
import Derived.Test.YtnkkoicbnbjlnaaGreatDoorFeedNext
import Derived.BigQuiet
namespace Go.Proofs.YtnkkoicbnbjlnaaGreatDoor
set_option maxRecDepth 100000
set_option maxHeartbeats 8000000
open Go.RowKit Go.ChangeMaps Go.MapKept
theorem cset_chg (w : World) (p j : Nat) (v : Value) : Chg (fun k => k = p) w (w.setCell ⟨p, j, none⟩ v) := Chg.set (M := fun k => k = p) (Chg.refl _ _) (fun _ => rfl) _
theorem FeedBox.setRest {w : World} {p : Nat} {t : TypeId} {rest : List Value} {way : Int} {hv ks : Value} {c : Cmd} {many : Int} (h : FeedBox w p t rest way hv ks c many) (j : Nat) (v : Value) : FeedBox (w.setCell ⟨p, 14 + j, none⟩ v) p t (rest.set j v) way hv ks c many := by
 have := Go.Joins.block_setCell (i := 14 + j) h v
 rw [List.setIfInBounds_toArray, List.set_append_right _ _ (by show 14 ≤ 14 + j; omega)] at this
 have hj : 14 + j - (feedCells way hv ks c many).length = j := by show 14 + j - 14 = j; omega
 rw [hj] at this
 exact this
theorem FeedBox.restCell {w : World} {p : Nat} {t : TypeId} {rest : List Value} {way : Int} {hv ks : Value} {c : Cmd} {many : Int} (h : FeedBox w p t rest way hv ks c many) {j : Nat} {v : Value} (hj : rest[j]? = some v) : w.cell? ⟨p, 14 + j, none⟩ = some v ∧ w.frozen? ⟨p, 14 + j, none⟩ = false := by
 refine ⟨?_, h.free _⟩
 rw [(block_cell h (14 + j)).1, List.getElem?_toArray, List.getElem?_append_right (by show 14 ≤ 14 + j; omega)]
 have hl : 14 + j - (feedCells way hv ks c many).length = j := by show 14 + j - 14 = j; omega
 rw [hl]
 exact hj
theorem FeedAt.setRest {n₀ : Nat} {w : World} {p : Nat} {t : TypeId} {rest : List Value} {hv ks : Value} {st : FSt} (h : FeedAt n₀ w p t rest hv ks st) (j : Nat) (v : Value) : FeedAt n₀ (w.setCell ⟨p, 14 + j, none⟩ v) p t (rest.set j v) hv ks st :=
 have hc := cset_chg w p (14 + j) v
 ⟨h.low, h.box.setRest j v, h.heldKept hc, h.rowKept hc h.keys, h.tb, h.ts⟩
abbrev connRest (wv cv : Value) (u : Bool) (ov : Value) (cl : Bool) : List Value := [wv, cv, .bool u, ov, .bool cl]
structure ConnAt (n₀ : Nat) (w : World) (p : Nat) (hv ks wv cv ov : Value) (L : List (Value × Ev)) (m : ConnM) : Prop where
 feed : FeedAt n₀ w p 119 (connRest wv cv m.under ov m.closed) hv ks m.feed
 evs : L.map (·.2) = m.wait
 wait : MidRow w n₀ 206 13 wv L.length (evsCells L)
 keys : ∀ x ∈ L, KeysAt w x.1 x.2.cmd.keys
 calls : MidRow w n₀ 26 7 cv m.calls.length (callsCells m.calls)
 out : MidRow w n₀ 5 1 ov m.out.length (m.out.map u8v)
 apart : ∀ g, ov.ownBlock = some g → hv.ownBlock ≠ some g
def CM (p : Nat) (hv wv cv ov : Value) (k : Nat) : Prop := k = p ∨ hv.ownBlock = some k ∨ wv.ownBlock = some k ∨ cv.ownBlock = some k ∨ ov.ownBlock = some k
section
variable {n₀ : Nat} {w : World} {p : Nat} {hv ks wv cv ov : Value} {L : List (Value × Ev)} {m : ConnM}
theorem ConnAt.kept {M : Nat → Prop} {w' : World} (h : ConnAt n₀ w p hv ks wv cv ov L m) (hc : Chg M w w') (hM : ∀ k, M k → ¬ CM p hv wv cv ov k ∧ ¬ Tag w k 9) : ConnAt n₀ w' p hv ks wv cv ov L m :=
 ⟨h.feed.kept hc (fun k hk => ⟨fun e => (hM k hk).1 (e.elim .inl (fun e => .inr (.inl e))), (hM k hk).2⟩), h.evs, h.wait.kept hc (fun g hg e => (hM g e).1 (.inr (.inr (.inl hg)))),
  fun x hx => (h.keys x hx).kept hc (fun g hg e => (hM g e).2 ((h.keys x hx).tag hg)), h.calls.kept hc (fun g hg e => (hM g e).1 (.inr (.inr (.inr (.inl hg))))),
  h.out.kept hc (fun g hg e => (hM g e).1 (.inr (.inr (.inr (.inr hg))))), h.apart⟩
theorem ConnAt.below {w' : World} (h : ConnAt n₀ w p hv ks wv cv ov L m) (hb : Below w.heap.size w w') : ConnAt n₀ w' p hv ks wv cv ov L m := h.kept (M := fun _ => False) (Chg.of_below hb) (fun _ e => e.elim)
theorem ConnAt.ptag (h : ConnAt n₀ w p hv ks wv cv ov L m) : Tag w p 119 := h.feed.box.tag
theorem ConnAt.boxed {w' : World} {wv' cv' ov' : Value} {L' : List (Value × Ev)} {m' : ConnM} (h : ConnAt n₀ w p hv ks wv cv ov L m) (hc : Chg (fun k => k = p) w w')
  (hf : FeedAt n₀ w' p 119 (connRest wv' cv' m'.under ov' m'.closed) hv ks m'.feed) (he : L'.map (·.2) = m'.wait)
  (hw : MidRow w n₀ 206 13 wv' L'.length (evsCells L')) (hk : ∀ x ∈ L', KeysAt w x.1 x.2.cmd.keys) (hcs : MidRow w n₀ 26 7 cv' m'.calls.length (callsCells m'.calls))
  (ho : MidRow w n₀ 5 1 ov' m'.out.length (m'.out.map u8v)) (ha : ∀ g, ov'.ownBlock = some g → hv.ownBlock ≠ some g) : ConnAt n₀ w' p hv ks wv' cv' ov' L' m' := by
 have hp := h.ptag
 refine ⟨hf, he, hw.kept hc (fun g hg e => ?_), fun x hx => (hk x hx).kept hc (fun g hg e => ?_), hcs.kept hc (fun g hg e => ?_), ho.kept hc (fun g hg e => ?_), ha⟩
 ·subst e; exact absurd (hp.one (hw.tag hg).1) (by decide)
 ·subst e; exact absurd (hp.one ((hk x hx).tag hg)) (by decide)
 ·subst e; exact absurd (hp.one (hcs.tag hg).1) (by decide)
 ·subst e; exact absurd (hp.one (ho.tag hg).1) (by decide)
theorem ConnAt.setUnder (h : ConnAt n₀ w p hv ks wv cv ov L m) (u : Bool) : ConnAt n₀ (w.setCell ⟨p, 16, none⟩ (.bool u)) p hv ks wv cv ov L { m with under := u } :=
 h.boxed (cset_chg _ _ _ _) (h.feed.setRest 2 (.bool u)) h.evs h.wait h.keys h.calls h.out h.apart
theorem ConnAt.setClosed (h : ConnAt n₀ w p hv ks wv cv ov L m) (u : Bool) : ConnAt n₀ (w.setCell ⟨p, 18, none⟩ (.bool u)) p hv ks wv cv ov L { m with closed := u } :=
 h.boxed (cset_chg _ _ _ _) (h.feed.setRest 4 (.bool u)) h.evs h.wait h.keys h.calls h.out h.apart
theorem ConnAt.setWait (h : ConnAt n₀ w p hv ks wv cv ov L m) {wv' : Value} {L' : List (Value × Ev)} (hw : MidRow w n₀ 206 13 wv' L'.length (evsCells L')) (hk : ∀ x ∈ L', KeysAt w x.1 x.2.cmd.keys) :
  ConnAt n₀ (w.setCell ⟨p, 14, none⟩ wv') p hv ks wv' cv ov L' { m with wait := L'.map (·.2) } :=
 h.boxed (cset_chg _ _ _ _) (h.feed.setRest 0 wv') rfl hw hk h.calls h.out h.apart
theorem ConnAt.setCalls (h : ConnAt n₀ w p hv ks wv cv ov L m) {cv' : Value} {C : List Cmd} (hw : MidRow w n₀ 26 7 cv' C.length (callsCells C)) :
  ConnAt n₀ (w.setCell ⟨p, 15, none⟩ cv') p hv ks wv cv' ov L { m with calls := C } :=
 h.boxed (cset_chg _ _ _ _) (h.feed.setRest 1 cv') h.evs h.wait h.keys hw h.out h.apart
theorem ConnAt.cell (h : ConnAt n₀ w p hv ks wv cv ov L m) {j : Nat} {v : Value} (hj : (connRest wv cv m.under ov m.closed)[j]? = some v) : w.cell? ⟨p, 14 + j, none⟩ = some v ∧ w.frozen? ⟨p, 14 + j, none⟩ = false := h.feed.box.restCell hj
end
open Go.RowKit Go.ChangeMaps Go.MapKept
theorem MidRow.len {w : World} {base : Nat} {e : TypeId} {size : Nat} {v : Value} {n : Nat} {xs : List Value} (h : MidRow w base e size v n xs) : ∃ a c, v = .slice a n c := by
 obtain ⟨-, ⟨rfl, rfl⟩ | ⟨g, o, cap, cur, rfl, -⟩⟩ := h
 ·exact ⟨none, 0, rfl⟩
 ·exact ⟨_, cap, rfl⟩
theorem clow_drewN {B : Nat} {w w' : World} (h : Below B w w') (n : Nat) : Below B w (w'.drewN n) := ⟨h.os, h.tape, h.output, h.size, h.block⟩
theorem crow_nil (W : World) : (convert 47 9 (.slice none 0 0)).run Tryz.prog W = .ok (sv []) W := by kernel_rfl
theorem crow_str {w : World} {bv : Value} {bl : List UInt8} (h : BRow w bv bl) : (convert 47 9 bv).run Tryz.prog w = .ok (sv bl) w := by
 obtain ⟨a, c, rfl, h1, h2, h3, h4⟩ := h
 cases a with
 | none =>
  obtain rfl := h3 rfl
  obtain rfl : bl = [] := List.eq_nil_of_length_eq_zero (by omega)
  exact crow_nil w
 | some A =>
  refine run_convert_bytes_back (P := Tryz.prog) w 47 9 5 A c bl Tryz.underlying47 Tryz.underlying5 Tryz.underlying9 (fun j hj => ?_)
  rcases h4 with rfl | ⟨g, o, ha, _, h5⟩
  ·simp at hj
  ·obtain rfl := Option.some.inj ha
   rw [show (⟨g, o, none⟩ : Addr).add j = ⟨g, o + j, none⟩ from by simp [Addr.add]]
   exact h5 j _ (List.getElem?_eq_getElem hj)
def leftM (m : ConnM) : Nat := if m.calls = [] then m.wait.length else m.calls.length + m.wait.length - 1
section
variable {n₀ : Nat} {w : World} {p : Nat} {hv ks wv cv ov : Value} {L : List (Value × Ev)} {m : ConnM}
theorem connOut_any (h : ConnAt n₀ w p hv ks wv cv ov L m) : Calls Tryz.prog 30 #[.pointer (some ⟨p, 0, none⟩)] w fun e w' => e = .returned (sv m.out) ∧ w = w' := by
 have c3 : w.cell? ⟨p, 17, none⟩ = some ov := (h.cell (j := 3) rfl).1
 have hcv := crow_str h.out.row.bytes
 clear h
 go_enter Tryz.func30, Tryz.ntmps30
 go_wp2_with fail
 go_ret
 exact ⟨rfl, rfl⟩
theorem connLeft_any (h : ConnAt n₀ w p hv ks wv cv ov L m) (hg : GoodM m) (hs : m.calls.length ≤ 1000000 ∧ m.wait.length ≤ 1000000) : Calls Tryz.prog 78 #[.pointer (some ⟨p, 0, none⟩)] w fun e w' => e = .returned (.int .i64 (leftM m : Int)) ∧ Below w.heap.size w w' := by
 obtain ⟨wa, wc, rfl⟩ := h.wait.len
 obtain ⟨ca, cc, rfl⟩ := h.calls.len
 have c0 : w.cell? ⟨p, 14, none⟩ = some (.slice wa L.length wc) := (h.cell (j := 0) rfl).1
 have c1 : w.cell? ⟨p, 15, none⟩ = some (.slice ca m.calls.length cc) := (h.cell (j := 1) rfl).1
 have hl : L.length = m.wait.length := by rw [← h.evs, List.length_map]
 rw [hl] at c0
 obtain ⟨hs1, hs2⟩ := hs
 have hpos : m.calls ≠ [] → 1 ≤ m.wait.length := fun hc => by
  obtain ⟨e, es, he, -⟩ := hg.turn hc
  rw [he, List.length_cons]; omega
 have hz : leftM m = if m.calls.length = 0 then m.wait.length else m.calls.length + m.wait.length - 1 := by
  unfold leftM
  simp only [List.length_eq_zero_iff]
 have hpos2 : m.calls.length ≠ 0 → 1 ≤ m.wait.length := fun hc => hpos (fun e => hc (by rw [e]; rfl))
 rw [hz]
 clear h hl hpos hz hg
 generalize m.calls.length = a at *
 generalize m.wait.length = b at *
 by_cases ha : a = 0
 ·subst ha
  clear hpos2
  rw [if_pos rfl]
  go_enter Tryz.func78, Tryz.ntmps78
  go_wp2_with fail
  go_quiet (fail)
  go_wp2_with fail
  go_ret
  exact ⟨by simp, clow_drewN (Below.refl _ _) _⟩
 ·have d1 : 0 < a := by omega
  have hb := hpos2 ha
  rw [if_neg ha]
  clear hpos2 ha
  go_enter Tryz.func78, Tryz.ntmps78
  go_wp2_with fail
  go_quiet (fail)
  go_wp2_with fail
  go_ret
  exact ⟨by rw [show ((a + b - 1 : Nat) : Int) = (a : Int) + (b : Int) - 1 by omega]; rfl, clow_drewN (Below.refl _ _) _⟩
theorem connNext_none (h : ConnAt n₀ w p hv ks wv cv ov L m) (hn : nextM m = none) : Calls Tryz.prog 71 #[.pointer (some ⟨p, 0, none⟩)] w fun e w' => e = .returned (.tuple #[.agg callZero, .bool false]) ∧ Below w.heap.size w w' := by
 obtain ⟨ca, cc, rfl⟩ := h.calls.len
 have hp := h.feed.plt
 have c1 : w.cell? ⟨p, 15, none⟩ = some (.slice ca m.calls.length cc) := (h.cell (j := 1) rfl).1
 have c2 : w.cell? ⟨p, 16, none⟩ = some (.bool m.under) := (h.cell (j := 2) rfl).1
 have HB := hidZ (show Below w.heap.size w (w.alloc (.cells callZero 26)) from (Below.refl _ _).alloc (Nat.le_refl _) _)
 clear h
 cases hu : m.under
 ·have hc : m.calls = [] := by
   unfold nextM at hn
   rw [hu, if_neg (by simp)] at hn
   exact List.head?_eq_none_iff.1 hn
  rw [hu] at c2
  rw [hc] at c1
  clear hn hu hc
  go_enter Tryz.func71, Tryz.ntmps71
  go_wp2_with (first
   | ((with_reducible show bodyPost _ _ _ Exit.ret _ _); exact bodyPost_ret (v := .tuple #[.agg callZero, .bool false]) (results_row_tmp rfl _ _ w.heap.size _ _ _ _ (by rfl) (heap_alloc_new _ _) Tryz.underlying26 rfl (by kernel_rfl) _ (by rfl)) rfl ⟨rfl, HB.out⟩)
   | fail)
 ·rw [hu] at c2
  clear hn hu
  go_enter Tryz.func71, Tryz.ntmps71
  go_wp2_with (first
   | ((with_reducible show bodyPost _ _ _ Exit.ret _ _); exact bodyPost_ret (v := .tuple #[.agg callZero, .bool false]) (results_row_tmp rfl _ _ w.heap.size _ _ _ _ (by rfl) (heap_alloc_new _ _) Tryz.underlying26 rfl (by kernel_rfl) _ (by rfl)) rfl ⟨rfl, HB.out⟩)
   | fail)
theorem ConnAt.far (h : ConnAt n₀ w p hv ks wv cv ov L m) {k : Nat} (hk : CM p hv wv cv ov k) : k < w.heap.size := by
 rcases hk with rfl | hk | hk | hk | hk
 ·exact h.ptag.lt
 ·exact (owns_tag h.feed.held hk).lt
 ·exact (h.wait.tag hk).1.lt
 ·exact (h.calls.tag hk).1.lt
 ·exact (h.out.tag hk).1.lt
theorem cidx0 {g o n c : Nat} (hk : 0 < n) (W : World) : (Instr.indexAt 117 (.slice (some ⟨g, o, none⟩) n c) (.int .i64 0)).run Tryz.prog W = .ok (.pointer (some ⟨g, o, none⟩)) W := by
 have h1 : (0 : Int) < (n : Int) := by omega
 have h2 := Tryz.underlying117
 go_simp
theorem connNext_some (h : ConnAt n₀ w p hv ks wv cv ov L m) {c : Cmd} (hn : nextM m = some c) : Calls Tryz.prog 71 #[.pointer (some ⟨p, 0, none⟩)] w fun e w' => e = .returned (.tuple #[.agg (callCells c).toArray, .bool true]) ∧ ConnAt n₀ w' p hv ks wv cv ov L (tookM m) ∧ Chg (fun k => k = p) w w' := by
 obtain ⟨cs, hcs, hu⟩ : ∃ cs, m.calls = c :: cs ∧ m.under = false := by
  unfold nextM at hn
  cases hu : m.under
  ·rw [hu, if_neg (by simp)] at hn
   obtain ⟨cs, hcs⟩ := List.head?_eq_some_iff.1 hn
   exact ⟨cs, hcs, rfl⟩
  ·rw [hu, if_pos rfl] at hn
   cases hn
 have htk : tookM m = { m with under := true } := by unfold tookM; rw [if_neg (by rw [hcs]; simp)]
 have hp := h.feed.plt
 have hcal := h.calls
 rw [hcs] at hcal
 obtain ⟨g, o, cap, rfl⟩ : ∃ g o cap, cv = .slice (some ⟨g, o, none⟩) (cs.length + 1) cap := by
  obtain ⟨-, ⟨-, h0⟩ | ⟨g, o, cap, cur, h1, -⟩⟩ := hcal
  ·simp at h0
  ·exact ⟨g, o, cap, h1⟩
 have h1 := h.setUnder true
 have h2 := h1.below ((Below.refl _ _).alloc (Nat.le_refl _) (.cells callZero 26))
 have hc2 := h2.calls
 rw [show ({ m with under := true } : ConnM).calls = c :: cs from hcs] at hc2
 have hcc : ∀ (j : Nat) (u : Value), (callCells c)[j]? = some u → ((w.setCell ⟨p, 16, none⟩ (.bool true)).alloc (.cells callZero 26)).cell? ⟨g, o + j, none⟩ = some u := fun j u hj => hc2.cell (by
  show (callCells c ++ callsCells cs)[j]? = _
  rw [List.getElem?_append_left (List.getElem?_eq_some_iff.1 hj).1]; exact hj)
 have hC1 : Chg (fun k => k = p) w ((w.setCell ⟨p, 16, none⟩ (.bool true)).alloc (.cells callZero 26)) := (cset_chg _ _ _ _).alloc _
 have hbx : ((w.setCell ⟨p, 16, none⟩ (.bool true)).alloc (.cells callZero 26)).heap[w.heap.size]? = some (.cells callZero 26 (0, 0)) := by rw [heap_at, if_pos (by simp)]
 have c1 : w.cell? ⟨p, 15, none⟩ = some (.slice (some ⟨g, o, none⟩) (cs.length + 1) cap) := (h.cell (j := 1) rfl).1
 have c2 : w.cell? ⟨p, 16, none⟩ = some (.bool m.under) := (h.cell (j := 2) rfl).1
 have f2 : w.frozen? ⟨p, 16, none⟩ = false := (h.cell (j := 2) rfl).2
 have e1 : ((w.setCell ⟨p, 16, none⟩ (.bool true)).alloc (.cells callZero 26)).cell? ⟨p, 15, none⟩ = some (.slice (some ⟨g, o, none⟩) (cs.length + 1) cap) := (h2.cell (j := 1) rfl).1
 have y0 := hcc 0 _ rfl
 have y1 := hcc 1 _ rfl
 have y2 := hcc 2 _ rfl
 have y3 := hcc 3 _ rfl
 have y4 := hcc 4 _ rfl
 have y5 := hcc 5 _ rfl
 have y6 := hcc 6 _ rfl
 rw [Nat.add_zero] at y0
 rw [hu] at c2
 have ix := fun W => cidx0 (g := g) (o := o) (n := cs.length + 1) (c := cap) (by omega) W
 have HFAR := hidZ (fun k (hk : CM p hv wv (.slice (some ⟨g, o, none⟩) (cs.length + 1) cap) ov k) => h.far hk)
 have HBX := hidZ hbx
 have H2 := hidZ h2
 have HC1 := hidZ hC1
 have HTK := hidZ htk
 clear h h1 h2 hcal hc2 hcc hC1 hn hcs hu htk hbx
 go_enter Tryz.func71, Tryz.ntmps71
 go_wp2_with (first
  | ((with_reducible show wpList _ _ _ (⟨none, Op.store _ _ _, _, _, _, _⟩ :: _) _ _); refine wpList_store_whole (by rfl) 26 (.tmp 2) (.tmp 29) (by rfl) w.heap.size (by rfl) (callCells c).toArray (by rfl) _ 26 HBX.out (by rfl) (by kernel_rfl) (by simp [Value.oneCell']) ?_; intro w3 hr3 hg3 hs3)
  | ((with_reducible show bodyPost _ _ _ Exit.ret _ _); exact bodyPost_ret (v := .tuple #[.agg (callCells c).toArray, .bool true]) (results_row_tmp rfl _ _ w.heap.size _ _ _ _ (by rfl) hr3 Tryz.underlying26 rfl (by kernel_rfl) _ (by rfl)) rfl (by
    have hc3 : Chg (fun k => k = w.heap.size) _ w3 := Chg.of_grown hg3 (fun _ _ e => (Option.some.inj e).symm)
    refine ⟨rfl, ?_, HC1.out.then (M' := fun k => k = w.heap.size) hc3 (fun k hk e => by omega)⟩
    rw [HTK.out]
    exact H2.out.kept hc3 (fun k e => ⟨fun hcm => by have := HFAR.out k hcm; omega, fun ht => by
     subst e
     exact absurd ((Tag.of HBX.out).one ht) (by decide)⟩)))
  | fail)
theorem ConnAt.told (h : ConnAt n₀ w p hv ks wv cv ov L m) {w2 : World} {ov' : Value} {o : List UInt8} (hc2 : Chg (fun k => ov.ownBlock = some k) w w2) (hm2 : MidRow w2 n₀ 5 1 ov' o.length (o.map u8v)) (hat : ov'.ownBlock = ov.ownBlock ∨ ov'.ownBlock = some w.heap.size) :
  ConnAt n₀ (w2.setCell ⟨p, 17, none⟩ ov') p hv ks wv cv ov' L { m with out := o } ∧ Chg (CM p hv wv cv ov) w (w2.setCell ⟨p, 17, none⟩ ov') ∧ (w2.cell? ⟨p, 17, none⟩ = some ov ∧ w2.frozen? ⟨p, 17, none⟩ = false) := by
 have htag : ∀ k, ov.ownBlock = some k → Tag w k 5 := fun k hk => (h.out.tag hk).1
 have hpov : ov.ownBlock ≠ some p := fun e => absurd (h.ptag.one (htag p e)) (by decide)
 have hf2 := h.feed.kept hc2 (fun k hk => ⟨fun e => by
  rcases e with rfl | e
  ·exact hpov hk
  ·exact h.apart k hk e, fun e => absurd ((htag k hk).one e) (by decide)⟩)
 have hc3 := cset_chg w2 p 17 ov'
 have hp2 : Tag w2 p 119 := hf2.box.tag
 have hk2 : ∀ x ∈ L, KeysAt w2 x.1 x.2.cmd.keys := fun x hx => (h.keys x hx).kept hc2 (fun g hg e => absurd ((htag g e).one ((h.keys x hx).tag hg)) (by decide))
 have hw2 := h.wait.kept hc2 (fun g hg e => absurd ((htag g e).one (h.wait.tag hg).1) (by decide))
 have hcl2 := h.calls.kept hc2 (fun g hg e => absurd ((htag g e).one (h.calls.tag hg).1) (by decide))
 refine ⟨⟨hf2.setRest 3 ov', h.evs, hw2.kept hc3 (fun g hg e => ?_), fun x hx => (hk2 x hx).kept hc3 (fun g hg e => ?_), hcl2.kept hc3 (fun g hg e => ?_), hm2.kept hc3 (fun g hg e => ?_), fun g hg e => ?_⟩, ?_, hf2.box.restCell (j := 3) rfl⟩
 ·subst e; exact absurd (hp2.one (hw2.tag hg).1) (by decide)
 ·subst e; exact absurd (hp2.one ((hk2 x hx).tag hg)) (by decide)
 ·subst e; exact absurd (hp2.one (hcl2.tag hg).1) (by decide)
 ·subst e; exact absurd (hp2.one (hm2.tag hg).1) (by decide)
 ·rcases hat with ha | ha
  ·exact h.apart g (by rw [← ha]; exact hg) e
  ·rw [ha] at hg
   obtain rfl := Option.some.inj hg
   exact absurd (h.far (k := w.heap.size) (.inr (.inl e))) (Nat.lt_irrefl _)
 ·have h1 : Chg (CM p hv wv cv ov) w w2 := (Chg.refl _ _).then (M := CM p hv wv cv ov) (M' := fun k => ov.ownBlock = some k) hc2 (fun k _ e => .inr (.inr (.inr (.inr e))))
  exact h1.then (M' := fun k => k = p) hc3 (fun k _ e => .inl e)
theorem byte_cells (s : List UInt8) : byteCells ⟨s.toArray⟩ = s.map u8v := by
 unfold byteCells
 rfl
theorem connTell_any (h : ConnAt n₀ w p hv ks wv cv ov L m) (s : List UInt8) (hn₀ : n₀ ≤ w.heap.size) (hl : m.out.length + s.length ≤ 1099511627776) :
  Calls Tryz.prog 104 #[.pointer (some ⟨p, 0, none⟩), sv s] w fun e w' => (∃ v, e = .returned v) ∧ ∃ ov', ConnAt n₀ w' p hv ks wv cv ov' L { m with out := m.out ++ s } ∧ Chg (CM p hv wv cv ov) w w' ∧ (∀ g, ov'.ownBlock = some g → ov.ownBlock = some g ∨ w.heap.size ≤ g) := by
 obtain ⟨i0, hi, hz0, hz1, hz2⟩ := info_parts infoByte
 have c3 : w.cell? ⟨p, 17, none⟩ = some ov := (h.cell (j := 3) rfl).1
 have hp := h.feed.plt
 have hsrc : Src Tryz.prog 1 9 (sv s) s.length (s.map u8v) w := by
  have := Src.ofString (P := Tryz.prog) w Tryz.underlying9 ⟨s.toArray⟩
  rw [byte_cells] at this
  exact this
 have H := hidZ h
 have HS := hidZ hsrc
 clear h hsrc
 go_enter Tryz.func104, Tryz.ntmps104
 go_wp2_with (first
  | (at_builtin; refine wpList_append_mid (by rfl) _ _ 47 9 (by rfl) n₀ 5 i0 (.int .u8 0) 1 1 Tryz.underlying47 hi hz0 hz1 hz2 rfl _ _ _ (by rfl) H.out.out _ s.length (s.map u8v) (by rfl) HS.out (by unfold maxLen; omega) (by omega) hn₀ ?_; intro ov' w2 hm2 hg2 hat2
     have hm3 : MidRow w2 n₀ 5 1 ov' (m.out ++ s).length ((m.out ++ s).map u8v) := by rw [List.length_append, List.map_append]; exact hm2
     obtain ⟨oa, oc, rfl⟩ := hm3.len
     obtain ⟨hn1, hn2, hn3, hn4⟩ := H.out.told (Chg.of_grown hg2 (fun _ _ e => e)) hm3 hat2
     have HN1 := hidZ hn1
     have HN2 := hidZ hn2
     clear hn1 hn2 hm2 hm3)
  | fail)
 rw [List.length_append] at HN1 HN2 hat2
 exact bodyPost_end (results_none (by exact Tryz.results104) _ _ _) rfl ⟨⟨_, rfl⟩, _, HN1.out, HN2.out, fun g hg => by
  rcases hat2 with ha | ha
  ·exact .inl (by rw [← ha]; exact hg)
  ·rw [ha] at hg
   exact .inr (Nat.le_of_eq (Option.some.inj hg))⟩
end
open Go.RowKit Go.ChangeMaps Go.MapKept
theorem connNew_any (w : World) : Calls Tryz.prog 43 #[] w fun e w' => e = .returned (.pointer (some ⟨w.heap.size, 0, none⟩)) ∧ ConnAt w.heap.size w' w.heap.size (.slice none 0 0) (.slice none 0 0) (.slice none 0 0) (.slice none 0 0) (.slice none 0 0) [] cNew ∧ Below w.heap.size w w' := by
 go_enter Tryz.func43, Tryz.ntmps43
 go_wp2_with fail
 go_ret
 refine ⟨rfl, ?_, (Below.refl _ _).alloc (Nat.le_refl _) _⟩
 exact ⟨⟨Nat.le_refl _, heap_alloc_new _ _, World.ownsRow_nil _ _ _ _, Row.nil _ _ _, by decide, by decide⟩, rfl, MidRow.nil _ _ _ _, (fun _ hx => nomatch hx), MidRow.nil _ _ _ _, MidRow.nil _ _ _ _, (fun g hg => by simp [Value.ownBlock] at hg)⟩
end Go.Proofs.YtnkkoicbnbjlnaaGreatDoor
