/- machines: a machine in memory, and what only reads it. No condition. And what goes with it (3 texts). -/
import Derived.Test.YtnkkoicbnbjlnaaGreatDoorMcH
import Derived.Test.YtnkkoicbnbjlnaaGreatDoorCoE
import Derived.Test.YtnkkoicbnbjlnaaGreatDoorLowA
import Derived.Test.YtnkkoicbnbjlnaaGreatDoorMeE
namespace Go.Proofs.YtnkkoicbnbjlnaaGreatDoor
set_option maxRecDepth 100000
set_option maxHeartbeats 8000000
open Go.RowKit Go.ChangeMaps Go.MapKept
def RowB (b : Nat) (xs : List Value) (t : TypeId) : Thing := fun w S => Tag w b t ∧ (∀ j v, xs[j]? = some v → w.cell? ⟨b, j, none⟩ = some v ∧ w.frozen? ⟨b, j, none⟩ = false) ∧ ∀ k, S k ↔ k = b
theorem framed_rowB (b : Nat) (xs : List Value) (t : TypeId) (ht : t ≠ 9) : Framed (RowB b xs t) where
 keep := by
  rintro w w' S M ⟨h1, h2, hs⟩ hc hM
  have hb : ¬ M b := fun e => (hM b e).1 ((hs b).2 rfl)
  exact ⟨hc.tag h1 hb, fun j v hv => ⟨hc.cell (h2 j v hv).1 hb, (hc.frozen h1.lt hb).trans (h2 j v hv).2⟩, hs⟩
 lt := by
  rintro w S k ⟨h1, h2, hs⟩ hk
  rw [(hs k).1 hk]
  exact h1.lt
 txt := by
  rintro w S k ⟨h1, h2, hs⟩ hk e
  rw [(hs k).1 hk] at e
  exact ht (h1.one e)
theorem RowB.set {b : Nat} {xs : List Value} {t : TypeId} {w : World} {S : Nat → Prop} (h : RowB b xs t w S) (j : Nat) (v : Value) (hj : j < xs.length) : RowB b (xs.set j v) t (w.setCell ⟨b, j, none⟩ v) S ∧ Chg S w (w.setCell ⟨b, j, none⟩ v) := by
 obtain ⟨⟨cs, fz, h1⟩, h2, hs⟩ := h
 have hlt : b < w.heap.size := (Array.getElem?_eq_some_iff.1 h1).1
 have hget : w.heap[b] = .cells cs t fz := (Array.getElem?_eq_some_iff.1 h1).2
 have hnew : (w.setCell ⟨b, j, none⟩ v).heap[b]? = some (.cells (cs.setIfInBounds j v) t fz) := by simp [World.setCell, hlt, Array.getElem_modify, hget]
 have hjc : j < cs.size := by
  have := (h2 j xs[j] (List.getElem?_eq_getElem hj)).1
  simp only [World.cell?, h1] at this
  exact (Array.getElem?_eq_some_iff.1 this).1
 refine ⟨⟨⟨_, _, hnew⟩, fun i u hu => ?_, hs⟩, (Chg.refl S w).set (fun _ => (hs b).2 rfl) v⟩
 have hfz : ∀ i, (w.setCell ⟨b, j, none⟩ v).frozen? ⟨b, i, none⟩ = w.frozen? ⟨b, i, none⟩ := fun i => by simp [World.frozen?, h1, hnew]
 rw [hfz]
 by_cases he : i = j
 ·subst he
  rw [List.getElem?_set_self hj] at hu
  obtain rfl : v = u := by simpa using hu
  refine ⟨?_, (h2 i xs[i] (List.getElem?_eq_getElem hj)).2⟩
  simp [World.cell?, hnew, hjc]
 ·rw [List.getElem?_set_ne (fun e => he e.symm)] at hu
  obtain ⟨g1, g2⟩ := h2 i u hu
  refine ⟨?_, g2⟩
  simp only [World.cell?, h1] at g1
  simp only [World.cell?, hnew]
  rw [Array.getElem?_setIfInBounds_ne (fun e => he e.symm)]
  exact g1
def ConnT (n₀ p : Nat) (m : ConnM) : Thing := fun w S => ConnIs n₀ w p m S
theorem framed_connT (n₀ p : Nat) (m : ConnM) : Framed (ConnT n₀ p m) where
 keep := by
  rintro w w' S M ⟨hv, ks, wv, cv, ov, L, h, rfl⟩ hc hM
  exact ⟨hv, ks, wv, cv, ov, L, h.kept hc (fun k hk => hM k hk), rfl⟩
 lt := by
  rintro w S k ⟨hv, ks, wv, cv, ov, L, h, rfl⟩ hk
  rcases (h.cmTag hk).2 with e | e | e | e <;> exact e.lt
 txt := by
  rintro w S k ⟨hv, ks, wv, cv, ov, L, h, rfl⟩ hk e
  rcases (h.cmTag hk).2 with e' | e' | e' | e' <;> exact absurd (e.one e') (by decide)
abbrev call7 : List Value := [.int .u8 0, .string ⟨#[]⟩, .string ⟨#[]⟩, .int .u32 0, .int .i64 0, .int .u64 0, .int .u64 0]
def thCells (c : Nat) (q : List Value) (d : Value) (f : Int) : List Value := ptrN c :: (q ++ [d, .int .i64 f])
def MachB (mp wp tb tc n : Nat) (th : List Value) (cv : Value) : Thing := Star (Blk mp [ptrN wp, .slice (some ⟨tb, 0, none⟩) n tc, cv] 79) (RowB tb th 103)
theorem framed_mach (mp wp tb tc n : Nat) (th : List Value) (cv : Value) : Framed (MachB mp wp tb tc n th cv) := (framed_blk _ _ _ (by decide)).star (framed_rowB _ _ _ (by decide))
structure MachR (w : World) (mp wp tb tc n : Nat) (th : List Value) (cv : Value) : Prop where
 c0 : w.cell? ⟨mp, 0, none⟩ = some (ptrN wp)
 c1 : w.cell? ⟨mp, 1, none⟩ = some (.slice (some ⟨tb, 0, none⟩) n tc)
 c2 : w.cell? ⟨mp, 2, none⟩ = some cv
 f2 : w.frozen? ⟨mp, 2, none⟩ = false
 th : ∀ j v, th[j]? = some v → w.cell? ⟨tb, j, none⟩ = some v ∧ w.frozen? ⟨tb, j, none⟩ = false
theorem MachB.reads {mp wp tb tc n : Nat} {th : List Value} {cv : Value} {w : World} {S : Nat → Prop} (h : MachB mp wp tb tc n th cv w S) : MachR w mp wp tb tc n th cv := by
 obtain ⟨S1, S2, ⟨h1, -⟩, ⟨-, h2, -⟩, -⟩ := h
 exact ⟨(cellsAt h1 0).1, (cellsAt h1 1).1, (cellsAt h1 2).1, (cellsAt h1 2).2, h2⟩
theorem infoThread : (Tryz.prog.info? 103).map (fun i => (i.zero, i.size, i.bytes)) = some (some (.agg #[.pointer none, .int .u8 0, .string ⟨#[]⟩, .string ⟨#[]⟩, .int .u32 0, .int .i64 0, .int .u64 0, .int .u64 0, .nilIface, .int .i64 0]), 10, 104) := by kernel_rfl
theorem idx_thread {g o n c k : Nat} (hk : k < n) (W : World) : (Instr.indexAt 77 (.slice (some ⟨g, o, none⟩) n c) (.int .i64 (k : Int))).run Tryz.prog W = .ok (.pointer (some ⟨g, o + k * 10, none⟩)) W := by
 have h0 : (0 : Int) ≤ (k : Int) := by omega
 have h1 : (k : Int) < (n : Int) := by omega
 have h2 := Tryz.underlying77
 obtain ⟨i0, hi, hz0, hz1, hz2⟩ := infoP_parts infoThread
 go_simp
theorem mptr_nil (x : Option Addr) (W : World) : (binOp .eql 43 (.pointer x) (.pointer none)).run Tryz.prog W = .ok (.bool x.isNone) W := by cases x <;> kernel_rfl
section
variable {w : World} {mp wp tb tc n : Nat} {th : List Value} {cv : Value}
theorem mWorld_any (h : MachR w mp wp tb tc n th cv) : Calls Tryz.prog 8 #[ptrN mp] w fun e w' => e = .returned (ptrN wp) ∧ w = w' := by
 have c0 := h.c0
 have q := mptr_nil
 clear h
 go_enter Tryz.func8, Tryz.ntmps8
 go_wp2_with fail
 go_ret
 exact ⟨rfl, rfl⟩
theorem mConns_any (h : MachR w mp wp tb tc n th cv) : Calls Tryz.prog 28 #[ptrN mp] w fun e w' => e = .returned (.int .i64 (n : Int)) ∧ w = w' := by
 have c1 := h.c1
 have q := mptr_nil
 clear h
 go_enter Tryz.func28, Tryz.ntmps28
 go_wp2_with fail
 go_ret
 exact ⟨rfl, rfl⟩
theorem mAt_any {k : Nat} (h : MachR w mp wp tb tc n th cv) (hk : k < n) : Calls Tryz.prog 53 #[ptrN mp, .int .i64 (k : Int)] w fun e w' => e = .returned (.pointer (some ⟨tb, k * 10, none⟩)) ∧ w = w' := by
 have c1 := h.c1
 have q := mptr_nil
 have hix := fun W => idx_thread (g := tb) (o := 0) (n := n) (c := tc) (k := k) hk W
 rw [Nat.zero_add] at hix
 have d0 : decide ((k : Int) < 0) = false := decide_eq_false (by omega)
 have d1 : decide (n ≤ k) = false := decide_eq_false (by omega)
 clear h
 go_enter Tryz.func53, Tryz.ntmps53
 go_wp2_with fail
 go_ret
 exact ⟨rfl, rfl⟩
theorem tptr_neq (x : Option Addr) (W : World) : (binOp .neq 110 (.pointer x) (.pointer none)).run Tryz.prog W = .ok (.bool (!x.isNone)) W := by cases x <;> kernel_rfl
theorem mConn_any {k c : Nat} (h : MachR w mp wp tb tc n th cv) (hk : k < n) (hc : th[k * 10]? = some (ptrN c)) : Calls Tryz.prog 29 #[ptrN mp, .int .i64 (k : Int)] w fun e w' => e = .returned (ptrN c) ∧ w = w' := by
 have HA := hidZ (mAt_any h hk)
 obtain ⟨t0, -⟩ := h.th _ _ hc
 have q := tptr_neq
 clear h hc
 go_enter Tryz.func29, Tryz.ntmps29
 go_wp2_with fail
 refine HA.out.mono ?_
 rintro e w2 ⟨rfl, rfl⟩
 go_wp2_with fail
 go_ret
 exact ⟨rfl, rfl⟩
theorem doNil (W : World) : (binOp .neq 101 .nilIface .nilIface).run Tryz.prog W = .ok (.bool false) W := by kernel_rfl
theorem doSome (t o : Nat) (W : World) : (binOp .neq 101 (.iface t (ptrN o)) .nilIface).run Tryz.prog W = .ok (.bool true) W := by kernel_rfl
theorem mMay_do {k t o : Nat} (h : MachR w mp wp tb tc n th cv) (hk : k < n) (hc : th[k * 10 + 8]? = some (.iface t (ptrN o))) : Calls Tryz.prog 51 #[ptrN mp, .int .i64 (k : Int)] w fun e w' => e = .returned (.bool true) ∧ w = w' := by
 have HA := hidZ (mAt_any h hk)
 obtain ⟨t8, -⟩ := h.th _ _ hc
 have q := tptr_neq
 have qd := doSome t o
 clear h hc
 go_enter Tryz.func51, Tryz.ntmps51
 go_wp2_with fail
 refine HA.out.mono ?_
 rintro e w2 ⟨rfl, rfl⟩
 go_wp2_with fail
 go_ret
 exact ⟨rfl, rfl⟩
theorem mMay_conn {k c l : Nat} (h : MachR w mp wp tb tc n th cv) (hk : k < n) (hc : th[k * 10]? = some (ptrN c)) (hd : th[k * 10 + 8]? = some .nilIface)
  (hl : Calls Tryz.prog 78 #[ptrN c] w fun e w' => e = .returned (.int .i64 (l : Int)) ∧ Below w.heap.size w w') :
  Calls Tryz.prog 51 #[ptrN mp, .int .i64 (k : Int)] w fun e w' => e = .returned (.bool (decide (0 < l))) ∧ Below w.heap.size w w' := by
 have HA := hidZ (mAt_any h hk)
 obtain ⟨t0, -⟩ := h.th _ _ hc
 obtain ⟨t8, -⟩ := h.th _ _ hd
 have q := tptr_neq
 have qd := doNil
 have HL := hidZ hl
 clear h hc hd hl
 go_enter Tryz.func51, Tryz.ntmps51
 go_wp2_with fail
 refine HA.out.mono ?_
 rintro e w2 ⟨rfl, rfl⟩
 go_wp2_with fail
 refine HL.out.mono ?_
 rintro e w3 ⟨rfl, hb⟩
 go_wp2_with fail
 go_ret
 exact ⟨by simp, hb⟩
end
open Go.RowKit Go.ChangeMaps Go.MapKept
theorem starL_snoc : ∀ {l : List Thing} {A : Thing} {w : World} {S : Nat → Prop}, Star (StarL l) A w S → StarL (l ++ [A]) w S
 | [], _, _, _, h => h.comm
 | _ :: _, _, _, _, h => (h.assoc).snd_mono (fun _ h => starL_snoc h)
abbrev thCells0 (c : Nat) : List Value := thCells c call7 .nilIface 0
def ThRow (tv : Value) (cs : List Nat) : Thing := fun w S => w.ownsRow 0 103 10 tv cs.length (cs.flatMap thCells0) ∧ ∀ k, S k ↔ tv.ownBlock = some k
theorem framed_thRow (tv : Value) (cs : List Nat) : Framed (ThRow tv cs) where
 keep := by
  rintro w w' S M ⟨h1, hs⟩ hc hM
  exact ⟨owns_grow h1 hc (fun g hg e => (hM g e).1 ((hs g).2 hg)), hs⟩
 lt := by
  rintro w S k ⟨h1, hs⟩ hk
  exact (owns_tag h1 ((hs k).1 hk)).lt
 txt := by
  rintro w S k ⟨h1, hs⟩ hk e
  exact absurd ((owns_tag h1 ((hs k).1 hk)).one e) (by decide)
def ConnL (n₀ : Nat) (cs : List Nat) : Thing := StarL (cs.map fun p => ConnT n₀ p cNew)
theorem framed_connL (n₀ : Nat) (cs : List Nat) : Framed (ConnL n₀ cs) := framed_starL (fun A hA => by
 obtain ⟨p, -, rfl⟩ := List.mem_map.1 hA
 exact framed_connT _ _ _)
def MachX (n₀ wp mp : Nat) (W : WorldM) (tv : Value) (cs : List Nat) : Thing := Star (Star (Star (WorldIs wp W) (ConnL n₀ cs)) (ThRow tv cs)) (Blk mp [ptrN wp, tv, .slice none 0 0] 79)
theorem framed_x (n₀ wp : Nat) (W : WorldM) (tv : Value) (cs : List Nat) : Framed (Star (Star (WorldIs wp W) (ConnL n₀ cs)) (ThRow tv cs)) := ((framed_world _ _).star (framed_connL _ _)).star (framed_thRow _ _)
theorem connNew_low {n₀ : Nat} {w : World} (hn : n₀ ≤ w.heap.size) : Calls Tryz.prog 43 #[] w fun e w' => e = .returned (ptrN w.heap.size) ∧ Made (ConnT n₀ w.heap.size cNew) w w' := by
 refine (connNew_any w).mono ?_
 rintro e w' ⟨rfl, h, hb⟩
 refine ⟨rfl, ⟨CM w.heap.size (.slice none 0 0) (.slice none 0 0) (.slice none 0 0) (.slice none 0 0), ⟨.slice none 0 0, .slice none 0 0, .slice none 0 0, .slice none 0 0, .slice none 0 0, [], ⟨⟨hn, h.feed.box, World.ownsRow_nil _ _ _ _, h.feed.keys, h.feed.tb, h.feed.ts⟩, rfl, MidRow.nil _ _ _ _, (fun _ hx => nomatch hx), MidRow.nil _ _ _ _, MidRow.nil _ _ _ _, (fun g hg => by simp [Value.ownBlock] at hg)⟩, rfl⟩, fun k hk => ?_⟩, hb⟩
 rcases hk with rfl | hk | hk | hk | hk
 ·exact Nat.le_refl _
 all_goals simp [Value.ownBlock] at hk
theorem build_thread (c : Nat) (W : World) : (Instr.build 103 #[(0, ptrN c)]).run Tryz.prog W = .ok (.agg #[ptrN c, .int .u8 0, .string ⟨#[]⟩, .string ⟨#[]⟩, .int .u32 0, .int .i64 0, .int .u64 0, .int .u64 0, .nilIface, .int .i64 0]) W := by kernel_rfl
theorem app_thread {w : World} {tv : Value} {cs : List Nat} {c g : Nat} (h : w.ownsRow 0 103 10 tv cs.length (cs.flatMap thCells0)) (hn : cs.length ≤ 1000) (hg : w.heap[g]? = some (.cells (thCells0 c).toArray 103 (0, 0))) :
  ∃ tv' W, (Builtin.append_ #[77, 77] 77 #[tv, .slice (some ⟨g, 0, none⟩) 1 1]).run Tryz.prog w = .ok tv' W ∧
   W.ownsRow 0 103 10 tv' (cs.length + 1) ((cs ++ [c]).flatMap thCells0) ∧ w.grownBy W tv.ownBlock ∧ (tv'.ownBlock = tv.ownBlock ∨ tv'.ownBlock = some w.heap.size) := by
 obtain ⟨i0, hi0, hz0, hz1, hz2⟩ := infoP_parts infoThread
 have hnews : ∀ j u, (thCells0 c)[j]? = some u → w.cell? (Addr.add ⟨g, 0, none⟩ j) = some u := by
  intro j u hj
  have := (cellsAt hg j).1
  rw [List.getElem?_toArray] at this
  by_cases h0 : j = 0
  ·subst h0
   exact this.trans hj
  ·simpa [Addr.add, h0] using this.trans hj
 obtain ⟨v', w', hr, h2, h3, h4, h5⟩ := run_append_own_at (P := Tryz.prog) w 0 77 77 103 i0 _ 10 104 Tryz.underlying77 hi0 hz0 hz1 hz2 (by rfl) (by omega) tv cs.length (cs.flatMap thCells0) h ⟨g, 0, none⟩ 1 1 (thCells0 c) rfl hnews (by simp [thCells, Value.oneCell']) (by unfold maxLen; omega) (by omega) (Nat.zero_le _)
 exact ⟨v', w', hr, by rw [List.flatMap_append]; simpa using h2, h3, h5⟩
abbrev mcfgV (c : CfgD) (k : Nat) : Value := .agg #[.int .i64 c.bits, .int .i64 c.budget, .int .i64 c.tries, .int .i64 c.quantum, .int .i64 c.way, .int .i64 (k : Int)]
theorem thRow_slice {tv : Value} {cs : List Nat} {w : World} {S : Nat → Prop} (h : ThRow tv cs w S) : ∃ a c, tv = .slice a cs.length c := (Row.of_owns h.1).len
theorem mach_more {n₀ wp mp c : Nat} {W : WorldM} {tv tv' : Value} {cs : List Nat} {w wr w2 w3 W4 : World} (hM : Made (MachX n₀ wp mp W tv cs) w wr) (hm : Made (ConnT n₀ c cNew) wr w2) (hb3 : Below w2.heap.size w2 w3) (hown : W4.ownsRow 0 103 10 tv' (cs.length + 1) ((cs ++ [c]).flatMap thCells0))
  (hg : w3.grownBy W4 tv.ownBlock) (ho : tv'.ownBlock = tv.ownBlock ∨ tv'.ownBlock = some w3.heap.size) : Made (MachX n₀ wp mp W tv' (cs ++ [c])) w (W4.setCell ⟨mp, 1, none⟩ tv') ∧ W4.cell? ⟨mp, 1, none⟩ = some tv ∧ W4.frozen? ⟨mp, 1, none⟩ = false := by
 obtain ⟨⟨S, hx, hl⟩, hb⟩ := hM
 have hbr : Below wr.heap.size wr w3 := hm.2.trans (hb3.mono hm.2.size)
 have hmc : Made (ConnT n₀ c cNew) wr w3 := Made.below (framed_connT _ _ _) hm hb3
 obtain ⟨S3, h3, hc3, hk3⟩ := made_in (framed_x _ _ _ _ _) (framed_blk _ _ _ (by decide)) hx hmc
 have h3 : Star (Star (Star (WorldIs wp W) (ConnL n₀ (cs ++ [c]))) (ThRow tv cs)) (Blk mp [ptrN wp, tv, .slice none 0 0] 79) w3 S3 := by
  obtain ⟨T1, T2, a1, a2⟩ := h3
  refine ⟨T1, T2, ?_, a2⟩
  refine Star.fst_mono a1.rot (fun S' h => ?_)
  refine h.assoc.snd_mono (fun S'' h => ?_)
  have := starL_snoc h
  unfold ConnL
  rw [List.map_append]
  exact this
 have h3' := h3.rot
 obtain ⟨T1, T2, b1, b2, b3, b4⟩ := h3'
 have hgo : Chg T2 w3 W4 := Chg.of_grown hg (fun i _ e => (b2.2 i).2 e)
 have hst : Stp (ThRow tv' (cs ++ [c])) T2 w3 W4 := ⟨fun k => tv'.ownBlock = some k, ⟨by rw [List.length_append]; exact hown, fun _ => Iff.rfl⟩, hgo, fun k hk => by
  rcases ho with e | e
  ·exact .inl ((b2.2 k).2 (e.symm.trans hk))
  ·rw [e] at hk
   exact .inr (by have := Option.some.inj hk; omega)⟩
 obtain ⟨S5, h5, hc5, hk5⟩ := Stp.right (((framed_world _ _).star (framed_connL _ _)).star (framed_blk _ _ _ (by decide))) (framed_thRow _ _) b1 b2 b3 b4 hst
 have h5 := h5.rot
 obtain ⟨f1, f2⟩ := Star.cellB h5 (j := 1) (v := tv) rfl
 obtain ⟨g1, d1⟩ := h5.setB (framed_x _ _ _ _ _) (by decide) 1 tv'
 refine ⟨⟨⟨S5, g1, fun k hk => ?_⟩, ?_⟩, f1, f2⟩
 ·rcases hk5 k hk with e | e
  ·rcases hk3 k e with e | e
   ·exact hl k e
   ·exact Nat.le_trans hb.size e
  ·exact Nat.le_trans (hb.trans (hbr.mono hb.size)).size e
 ·have hlow5 : ∀ k, S5 k → w.heap.size ≤ k := fun k hk => (hk5 k hk).elim (fun e => (hk3 k e).elim (hl k) (fun e => Nat.le_trans hb.size e)) (fun e => Nat.le_trans (hb.trans (hbr.mono hb.size)).size e)
  have hb03 := hb.trans (hbr.mono hb.size)
  have hc6 : Chg (fun k => w.heap.size ≤ k) w3 (W4.setCell ⟨mp, 1, none⟩ tv') := (hc5.mono (fun k _ e => (hk3 k e).elim (hl k) (fun e => Nat.le_trans hb.size e))).trans (d1.mono (fun k _ e => hlow5 k e))
  exact hb03.trans (hc6.below (fun k hk => ⟨Nat.lt_of_lt_of_le hk hb03.size, fun e => by omega⟩))
theorem machinesNew_any (c : CfgD) (k : Nat) (hc : mayC c = true) (h1 : 1 ≤ k) (h2 : k ≤ 64) (w : World) :
  Calls Tryz.prog 23 #[mcfgV c k] w fun e w' => ∃ mp wp tv cs, e = .returned (.tuple #[ptrN mp, .int .i64 0]) ∧ cs.length = k ∧ Made (MachX w.heap.size wp mp (newWorld c) tv cs) w w' := by
 obtain ⟨b0, hb0⟩ := xE (w.heap.size)
 obtain ⟨w1, hw1⟩ := xE (w.alloc (.cells #[.int .i64 c.bits, .int .i64 c.budget, .int .i64 c.tries, .int .i64 c.quantum, .int .i64 c.way, .int .i64 (k : Int)] 42))
 have hlow1 : Below w.heap.size w w1 := bal hw1
 have hq1 : w1.heap[b0]? = some (.cells #[.int .i64 c.bits, .int .i64 c.budget, .int .i64 c.tries, .int .i64 c.quantum, .int .i64 c.way, .int .i64 (k : Int)] 42 (0, 0)) := by rw [hw1, hb0]; exact heap_mem w _
 have q0 := (cellsAt hq1 0).1
 have q1 := (cellsAt hq1 1).1
 have q2 := (cellsAt hq1 2).1
 have q3 := (cellsAt hq1 3).1
 have q4 := (cellsAt hq1 4).1
 have d1 : decide ((k : Int) < 1) = false := decide_eq_false (by omega)
 have d2 : decide (64 < k) = false := decide_eq_false (by omega)
 have HW := hidZ (fun W : World => worldsNew_any c hc W)
 have HQ1 := hidZ hq1
 have HL1 := hidZ hlow1
 have HK := hidZ (And.intro h1 h2)
 have hwlt : w.heap.size < w1.heap.size := by rw [hw1, size_at]; omega
 clear hc hq1 hlow1
 go_enter Tryz.func23, Tryz.ntmps23
 go_upto_region 1 with fail
 rw [← hw1, ← hb0]
 clear hw1 hb0
 go_wp2_with fail
 refine (HW.out _).mono ?_
 rintro e w2 ⟨wp, rfl, hm2⟩
 have q5 : w2.cell? ⟨b0, 5, none⟩ = some (.int .i64 (k : Int)) := (cellsAt (boxAt HQ1.out hm2.2) 5).1
 have hbl : b0 < w2.heap.size := cell_lt q5
 obtain ⟨mp, hmp⟩ := xE (w2.heap.size)
 obtain ⟨w3, hw3⟩ := xE (w2.alloc (.cells #[ptrN wp, .slice none 0 0, .slice none 0 0] 79))
 have hm3 : Made (Blk mp [ptrN wp, .slice none 0 0, .slice none 0 0] 79) w2 w3 := by rw [hw3, hmp]; exact made_blk w2 _ _
 have q53 : w3.cell? ⟨b0, 5, none⟩ = some (.int .i64 (k : Int)) := (hm3.2.cell (p := ⟨b0, 5, none⟩) hbl).trans q5
 have HM3 := hidZ (show Made (MachX w.heap.size wp mp (newWorld c) (.slice none 0 0) []) w w3 from by
  have h4 := Made.later HL1.out (Made.star (framed_world _ _) hm2 hm3)
  obtain ⟨⟨S, ⟨T1, T2, a1, a2, a3, a4⟩, hk⟩, hb⟩ := h4
  refine ⟨⟨S, ⟨T1, T2, ⟨T1, fun _ => False, ⟨T1, fun _ => False, a1, (fun _ h => h), (fun _ _ h => h), fun _ => by simp⟩, ⟨World.ownsRow_nil _ _ _ _, fun _ => by simp [Value.ownBlock]⟩, (fun _ _ h => h), fun _ => by simp⟩, a2, a3, a4⟩, hk⟩, hb⟩)
 clear hm2 hm3 HW q0 q1 q2 q3 q4 HQ1
 go_upto_region 5 with fail
 rw [← hw3, ← hmp]
 clear hw3 hmp q5
 go_upto_region 6 with fail
 go_loopw [30] (fun s30 wr => ∃ (i : Nat) (tv : Value) (cs : List Nat), s30 = .int .i64 (i : Int) ∧ i ≤ k ∧ cs.length = i ∧ Made (MachX w.heap.size wp mp (newWorld c) tv cs) w wr) (fun s30 _ => k - (intOf s30).toNat)
 case atStart => exact ⟨0, _, [], rfl, Nat.zero_le _, rfl, HM3.out⟩
 case round =>
  obtain ⟨i, tv, cs, rfl, hi, hcs, hM⟩ := hrel
  clear HM3 q53
  by_cases hlt : i < k
  ·have hz : w.heap.size ≤ wr.heap.size := hM.2.size
   obtain ⟨ta, tc, rfl⟩ : ∃ a c, tv = .slice a i c := by
    obtain ⟨⟨S, ⟨T1, T2, ⟨T3, T4, -, b2, -⟩, -⟩, -⟩, -⟩ := hM
    rw [← hcs]
    exact thRow_slice b2
   have c1 : wr.cell? ⟨mp, 1, none⟩ = some (.slice ta i tc) := by
    obtain ⟨⟨S, h, -⟩, -⟩ := hM
    exact (Star.cellB h (j := 1) rfl).1
   have HM := hidZ hM
   have HCS := hidZ hcs
   have hadd : IntKind.i64.wrap ((i : Int) + 1) = ((i + 1 : Nat) : Int) := IntWalk.i64_in _ (by omega)
   have hbt := build_thread
   clear hM hcs
   go_upto_region 7 with fail
   refine wp_region_late 11 (fun V => V.cell? ⟨mp, 1, none⟩ = some (.slice ta i tc)) (by kernel_rfl) c1 (fun hHe => ?_)
   refine ltz 0 rfl (fun _ => hHe) ?_
   try simp only [tp, tz]
   refine ltz 1 rfl (fun _ => hHe) ?_
   try simp only [tp, tz]
   refine ltz 2 rfl (fun _ => hHe) ?_
   try simp only [tp, tz]
   refine ltz 3 rfl (fun _ => hHe) ?_
   try simp only [tp, tz]
   refine late_read (i := 4) (v := ?_) rfl (by kernel_rfl) (by kernel_rfl) (by kernel_rfl) (fun _ _ _ h => h) (by decide) rfl (by kernel_rfl) (Or.inl ⟨by rfl, ?_⟩) hHe (by kernel_rfl) ?_
   rotate_left 1
   ·((intro w hSw; (try dsimp only at hSw); have c0 := hSw; go_simp) <;> with_reducible rfl)
   try simp only [tp, tz]
   refine late_one (i := 5) (by kernel_rfl) rfl (fun K hK => ?_)
   go_simp
   go_at_call 43
   refine (connNew_low (n₀ := w.heap.size) (w := wr.drew) hz).mono ?_
   rintro e w4 ⟨rfl, hm4⟩
   refine hK.out _ _ (fun _ _ => (hm4.2.cell (p := ⟨mp, 1, none⟩) (cell_lt c1)).trans c1) ?_
   clear hK K
   try simp only [tp, tz]
   have u4 : w4.cell? ⟨mp, 1, none⟩ = some (.slice ta i tc) := (hm4.2.cell (p := ⟨mp, 1, none⟩) (cell_lt c1)).trans c1
   obtain ⟨co, hco⟩ := xE (wr.drew.heap.size)
   have hco2 : wr.heap.size = co := hco.symm
   rw [← hco] at hm4 ⊢
   obtain ⟨w5, hw5⟩ := xE (w4.alloc (.cells #[ptrN co, .int .u8 0, .string ⟨#[]⟩, .string ⟨#[]⟩, .int .u32 0, .int .i64 0, .int .u64 0, .int .u64 0, .nilIface, .int .i64 0] 103))
   have hb5 : Below w4.heap.size w4 w5 := bal hw5
   have hq5 : w5.heap[w4.heap.size]? = some (.cells (thCells0 co).toArray 103 (0, 0)) := by rw [hw5]; exact heap_mem w4 _
   have u5 : w5.cell? ⟨mp, 1, none⟩ = some (.slice ta i tc) := (hb5.cell (p := ⟨mp, 1, none⟩) (cell_lt u4)).trans u4
   have hmd : Made (MachX w.heap.size wp mp (newWorld c) (.slice ta i tc) cs) w wr.drew := by
    obtain ⟨⟨S, h, hl⟩, hb⟩ := HM.out
    exact ⟨⟨S, Star.drew (framed_x _ _ _ _ _) (framed_blk _ _ _ (by decide)) h, hl⟩, ⟨hb.os, hb.tape, hb.output, hb.size, hb.block⟩⟩
   have hr5 : w5.ownsRow 0 103 10 (.slice ta i tc) cs.length (cs.flatMap thCells0) := by
    obtain ⟨⟨S, ⟨T1, T2, ⟨T3, T4, -, b2, -⟩, -⟩, -⟩, -⟩ := hmd
    exact owns_grow b2.1 (Chg.of_below (M := fun _ => False) (hm4.2.trans (hb5.mono hm4.2.size))) (fun _ _ e => e)
   obtain ⟨v', W6, hrun, hown, hgr, hor⟩ := app_thread hr5 (by have := HCS.out; have := HK.out.2; omega) hq5
   have HQ := hidZ (mach_more hmd hm4 hb5 hown hgr hor)
   have u6 := HQ.out.2.1
   have g6 := HQ.out.2.2
   obtain ⟨va, vc, rfl⟩ := (Row.of_owns hown).len
   have HCS2 := hidZ (show cs.length + 1 = i + 1 from by rw [HCS.out])
   rw [HCS.out] at hrun HQ
   obtain ⟨v2, hv2⟩ : ∃ v2 : Value, v2 = .slice (some ⟨w4.heap.size, 0, none⟩) 1 1 := ⟨_, rfl⟩
   rw [← hv2] at hrun
   clear hm4 hb5 hq5 hmd hr5 hown hgr hor hco
   refine ltz 6 rfl (fun _ => u4) ?_
   try simp only [tp, tz]
   refine late_one (i := 7) (by kernel_rfl) rfl (fun K hK => ?_)
   go_simp
   refine hK.out _ _ (fun _ _ => hw5 ▸ u5) ?_
   clear hK K
   try simp only [tp, tz]
   rw [← hw5, ← hv2]
   clear hw5 hv2
   refine late_one (i := 8) (by kernel_rfl) rfl (fun K hK => ?_)
   rw [if_pos (by rfl)]
   refine wp_append_run (.tmp 36) (.tmp 39) 77 (by rfl) _ _ _ (by rfl) (by rfl) hrun ?_
   refine hK.out _ _ (fun _ _ => u6) ?_
   clear hK K hrun
   try simp only [tp, tz]
   refine ltz 9 rfl (fun _ => u6) ?_
   try simp only [tp, tz]
   refine ltz 10 rfl (fun _ => u6) ?_
   try simp only [tp, tz]
   refine late_one (i := 11) (by kernel_rfl) rfl (fun K hK => ?_)
   go_simp
   refine hK.out _ _ (fun _ h => absurd rfl h) ?_
   clear hK K
   try simp only [tp, tz]
   refine late_done (by kernel_rfl) ?_
   go_wp2_with fail
   go_roundw
   case rel => exact ⟨i + 1, _, _, by go_num, by omega, by rw [List.length_append]; exact HCS2.out, HQ.out.1⟩
   case measure => simp [intOf]; omega
  ·obtain rfl : i = k := by omega
   have HM := hidZ hM
   have HCS := hidZ hcs
   clear hM hcs
   go_wp2_with fail
   exact bodyPost_ret (results_tmp2 (by exact Tryz.results23) _ _ _) rfl ⟨mp, wp, tv, cs, rfl, HCS.out, HM.out⟩
def CountIs (p n : Nat) (Y : Thing) : Prop := ∀ V S0, Y V S0 → Calls Tryz.prog 49 #[ptrN p] V fun e w' => e = .returned (.int .i64 (n : Int)) ∧ V = w'
abbrev didV (i n : Int) (b : Bool) (k nm : Int) : Value := .agg #[.int .i64 i, .int .i64 n, .bool b, .int .u8 k, .int .u64 nm, .string ⟨#[]⟩, .string ⟨#[]⟩, .int .u32 0, .int .u64 0, .int .i64 0, .int .i64 0]
def DidE (e : Ending) : Prop := ∃ (i n : Int) (b : Bool) (k nm : Int), e = .returned (didV i n b k nm)
theorem doEqNil (W : World) : (binOp .eql 101 .nilIface .nilIface).run Tryz.prog W = .ok (.bool true) W := by kernel_rfl
theorem doEqSome (t o : Nat) (W : World) : (binOp .eql 101 (.iface t (ptrN o)) .nilIface).run Tryz.prog W = .ok (.bool false) W := by kernel_rfl
theorem keep_box {A : Thing} (hA : Framed A) {w w' : World} {S : Nat → Prop} {b : Nat} {t : TypeId} (h : A w S) (hc : Chg (fun k => k = b) w w') (hn : ¬ S b) (ht : Tag w b t) (hts : t ≠ 9) : A w' S :=
 hA.keep h hc (fun k hk => by
  rw [hk]
  exact ⟨hn, fun e => hts (ht.one e)⟩)
theorem MachR.below {w w' : World} {mp wp tb tc n : Nat} {th : List Value} {cv : Value} {S : Nat → Prop} (h : MachB mp wp tb tc n th cv w S) (hb : Below w.heap.size w w') : MachR w' mp wp tb tc n th cv := ((framed_mach mp wp tb tc n th cv).below h hb).reads
theorem Star.mach {R Y : Thing} {mp wp tb tc n : Nat} {th : List Value} {cv : Value} {w : World} {S : Nat → Prop} (h : Star (Star R (MachB mp wp tb tc n th cv)) Y w S) : MachR w mp wp tb tc n th cv := by
 obtain ⟨T1, T2, ⟨T3, T4, -, a2, -⟩, -⟩ := h
 exact a2.reads
end Go.Proofs.YtnkkoicbnbjlnaaGreatDoor
