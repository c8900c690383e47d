/- The chapter's example (lives), walked. Condition: the library's tables lie as they are laid. -/
import Derived.Test.YtaooangnnlopcaaDoorMapsEval
namespace Go.Proofs.YtaooangnnlopcaaDoor
open Go.RowKit Go.ChangeMaps Go.MapKept
/-- A map of one's own, and answers kept beside it. -/
structure LvAt (w W : World) (p : Nat) (m : MapM) (bs : List (Nat × Array Value)) : Prop where
  map : MapAt W p m
  low : w.heap.size ≤ p
  new : ∀ k, W.cell? ⟨p, 0, none⟩ = some (.map (some k)) → w.heap.size ≤ k
  bel : Below w.heap.size w W
  held : ∀ x ∈ bs, x.1 ≠ p ∧ W.heap[x.1]? = some (.cells x.2 39 (0, 0))
theorem LvAt.step {w W W' : World} {p : Nat} {m m' : MapM} {bs : List (Nat × Array Value)} (h : LvAt w W p m bs) (hm : MapAt W' p m') (hc : MChg W p W') : LvAt w W' p m' bs := by
  refine ⟨hm, h.low, fun k hk => ?_, h.bel.trans (hc.chg.below (fun k hk => ⟨Nat.lt_of_lt_of_le hk h.bel.size, fun hM => ?_⟩)), fun x hx => ⟨(h.held x hx).1, hc.chg.obj (h.held x hx).2 (fun hM => ?_)⟩⟩
  · by_cases hlt : k < W.heap.size
    · exact h.new k (hc.own k hlt hk)
    · have := h.bel.size; omega
  · rcases hM with e | e
    · have := h.low; omega
    · have := h.new k e; omega
  · have h2 := h.held x hx
    rcases MM.kind h.map hM with e | ⟨es, clock, e⟩
    · exact h2.1 e
    · rw [h2.2] at e; cases e
theorem LvAt.below {w W W' : World} {p : Nat} {m : MapM} {bs : List (Nat × Array Value)} (h : LvAt w W p m bs) (hb : Below W.heap.size W W') : LvAt w W' p m bs :=
  h.step (h.map.below hb) (MChg.below hb h.map.lt)
theorem LvAt.put {w W W' : World} {p : Nat} {m : MapM} {bs : List (Nat × Array Value)} {cs : Array Value} {o : Obj} (h : LvAt w W p m bs) (hr : W'.heap[W.heap.size]? = some (.cells cs 39 (0, 0))) (hg : (W.alloc o).grownBy W' (some W.heap.size)) : LvAt w W' p m ((W.heap.size, cs) :: bs) := by
  have hb : Below W.heap.size W W' := grown_below ((Below.refl _ _).alloc (Nat.le_refl _) o) (by rw [size_at]; omega) hg (fun k hk => by cases hk; exact Nat.le_refl _)
  have h2 := h.below hb
  refine ⟨h2.map, h2.low, h2.new, h2.bel, fun x hx => ?_⟩
  rcases List.mem_cons.1 hx with rfl | hx
  · exact ⟨by have := h.map.lt; simp only; omega, hr⟩
  · exact h2.held x hx
section
variable {w W : World} {p : Nat} {bs : List (Nat × Array Value)}
theorem call1 (h : LvAt w W p newM bs) (hE : HasErr w) (hP : HasPow w) : Calls Tryd.prog 12 #[.pointer (some ⟨p, 0, none⟩), .agg #[.int .u8 3, .string ⟨#[110]⟩, .string ⟨#[57]⟩, .int .u32 0, .int .i64 0, .int .u64 0, .int .u64 0], .int .u64 0] W fun e w' => e = .returned (.agg #[.int .u8 1, .int .u64 1, .string ⟨#[]⟩, .string ⟨#[]⟩, .int .u32 0, .int .u64 0, .int .i64 0, .int .i64 0]) ∧ LvAt w w' p ex1 bs := by
  refine (does_any (c := exSet) (ep := 0) h.map (by decide) (by decide) (by decide) (by decide) (by decide) (by decide) (by decide) (hE.below h.bel) (hP.below h.bel)).mono ?_
  rintro e w1 ⟨rfl, hm, hc⟩
  rw [exA] at hm ⊢
  exact ⟨rfl, h.step hm hc⟩
theorem call2 (h : LvAt w W p ex1 bs) (hE : HasErr w) (hP : HasPow w) : Calls Tryd.prog 12 #[.pointer (some ⟨p, 0, none⟩), .agg #[.int .u8 1, .string ⟨#[110]⟩, .string ⟨#[]⟩, .int .u32 0, .int .i64 0, .int .u64 0, .int .u64 0], .int .u64 5] W fun e w' => e = .returned (.agg #[.int .u8 11, .int .u64 0, .string ⟨#[110]⟩, .string ⟨#[57]⟩, .int .u32 0, .int .u64 1, .int .i64 (-1), .int .i64 0]) ∧ LvAt w w' p ex2 bs := by
  refine (does_any (c := exGet) (ep := 5) h.map (by decide) (by decide) (by decide) (by decide) (by decide) (by decide) (by decide) (hE.below h.bel) (hP.below h.bel)).mono ?_
  rintro e w1 ⟨rfl, hm, hc⟩
  rw [exB] at hm ⊢
  exact ⟨rfl, h.step hm hc⟩
theorem call3 (h : LvAt w W p ex2 bs) (hE : HasErr w) (hP : HasPow w) : Calls Tryd.prog 12 #[.pointer (some ⟨p, 0, none⟩), .agg #[.int .u8 9, .string ⟨#[110]⟩, .string ⟨#[]⟩, .int .u32 0, .int .i64 0, .int .u64 0, .int .u64 3], .int .u64 5] W fun e w' => e = .returned (.agg #[.int .u8 8, .int .u64 12, .string ⟨#[]⟩, .string ⟨#[]⟩, .int .u32 0, .int .u64 0, .int .i64 0, .int .i64 0]) ∧ LvAt w w' p ex3 bs := by
  refine (does_any (c := exInc) (ep := 5) h.map (by decide) (by decide) (by decide) (by decide) (by decide) (by decide) (by decide) (hE.below h.bel) (hP.below h.bel)).mono ?_
  rintro e w1 ⟨rfl, hm, hc⟩
  rw [exC] at hm ⊢
  exact ⟨rfl, h.step hm hc⟩
theorem call4 (h : LvAt w W p ex3 bs) (hE : HasErr w) (hP : HasPow w) : Calls Tryd.prog 12 #[.pointer (some ⟨p, 0, none⟩), .agg #[.int .u8 11, .string ⟨#[]⟩, .string ⟨#[]⟩, .int .u32 0, .int .i64 0, .int .u64 0, .int .u64 0], .int .u64 5] W fun e w' => e = .returned (.agg #[.int .u8 10, .int .u64 0, .string ⟨#[]⟩, .string ⟨#[]⟩, .int .u32 0, .int .u64 0, .int .i64 0, .int .i64 0]) ∧ LvAt w w' p ex4 bs := by
  refine (does_any (c := exFlu) (ep := 5) h.map (by decide) (by decide) (by decide) (by decide) (by decide) (by decide) (by decide) (hE.below h.bel) (hP.below h.bel)).mono ?_
  rintro e w1 ⟨rfl, hm, hc⟩
  rw [exE] at hm ⊢
  exact ⟨rfl, h.step hm hc⟩
theorem call5 (h : LvAt w W p ex4 bs) (hE : HasErr w) (hP : HasPow w) : Calls Tryd.prog 12 #[.pointer (some ⟨p, 0, none⟩), .agg #[.int .u8 1, .string ⟨#[110]⟩, .string ⟨#[]⟩, .int .u32 0, .int .i64 0, .int .u64 0, .int .u64 0], .int .u64 281474976710661] W fun e w' => ∃ (a : AnsD) (m : MapM), a.kind = 12 ∧ m.L.length = 1 ∧ e = .returned (.agg #[.int .u8 a.kind, .int .u64 a.number, .string a.item.key, .string a.item.value, .int .u32 a.item.flags, .int .u64 a.item.id, .int .i64 a.item.dies, .int .i64 a.item.gen]) ∧ LvAt w w' p m bs := by
  refine (does_any (c := exGet) (ep := 281474976710661) h.map (by decide) (by decide) (by decide) (by decide) (by decide) (by decide) (by decide) (hE.below h.bel) (hP.below h.bel)).mono ?_
  rintro e w1 ⟨rfl, hm, hc⟩
  exact ⟨_, _, exG, exH, rfl, h.step hm hc⟩
theorem gives4 (h : LvAt w W p ex3 bs) (hE : HasErr w) (hP : HasPow w) : Calls Tryd.prog 16 #[.pointer (some ⟨p, 0, none⟩), .agg #[.int .u8 1, .string ⟨#[110]⟩, .string ⟨#[]⟩, .int .u32 0, .int .i64 0, .int .u64 0, .int .u64 0], .int .u64 4] W fun e w' => ∃ a : AnsD, e = .returned (.tuple #[.agg #[.int .u8 a.kind, .int .u64 a.number, .string a.item.key, .string a.item.value, .int .u32 a.item.flags, .int .u64 a.item.id, .int .i64 a.item.dies, .int .i64 a.item.gen], .bool false]) ∧ LvAt w w' p ex3 bs := by
  refine (mapsGives_any (c := exGet) (ep := 4) h.map (by decide) (by decide) (by decide) (by decide) (by decide) (by decide) (by decide) (hE.below h.bel) (hP.below h.bel)).mono ?_
  rintro e w1 ⟨rfl, hb⟩
  rw [exD]
  exact ⟨_, rfl, h.below hb⟩
theorem gives5 (h : LvAt w W p ex4 bs) (hE : HasErr w) (hP : HasPow w) : Calls Tryd.prog 16 #[.pointer (some ⟨p, 0, none⟩), .agg #[.int .u8 1, .string ⟨#[110]⟩, .string ⟨#[]⟩, .int .u32 0, .int .i64 0, .int .u64 0, .int .u64 0], .int .u64 5] W fun e w' => ∃ a : AnsD, e = .returned (.tuple #[.agg #[.int .u8 a.kind, .int .u64 a.number, .string a.item.key, .string a.item.value, .int .u32 a.item.flags, .int .u64 a.item.id, .int .i64 a.item.dies, .int .i64 a.item.gen], .bool false]) ∧ LvAt w w' p ex4 bs := by
  refine (mapsGives_any (c := exGet) (ep := 5) h.map (by decide) (by decide) (by decide) (by decide) (by decide) (by decide) (by decide) (hE.below h.bel) (hP.below h.bel)).mono ?_
  rintro e w1 ⟨rfl, hb⟩
  rw [exF]
  exact ⟨_, rfl, h.below hb⟩
end
/-- A new map, with no entries' block yet. -/
theorem mapsNew_own (w : World) : Calls Tryd.prog 11 #[] w fun e w' => e = .returned (.pointer (some ⟨w.heap.size, 0, none⟩)) ∧ LvAt w w' w.heap.size newM [] := by
  go_enter Tryd.func11, Tryd.ntmps11
  go_wp2_with fail
  go_ret
  refine ⟨rfl, ⟨none, by rw [heap_at, if_pos rfl]; rfl, .inl ⟨rfl, rfl⟩⟩, Nat.le_refl _, fun k hk => ?_, (Below.refl _ _).alloc (Nat.le_refl _) _, fun x hx => (nomatch hx)⟩
  exfalso
  rw [(cells_at (by rw [heap_at, if_pos rfl]) 0).1] at hk
  simp at hk
set_option maxRecDepth 100000 in
set_option maxHeartbeats 8000000 in
theorem lives36 (w : World) (hE : HasErr w) (hP : HasPow w) : Calls Tryd.prog 10 #[] w fun e w' => e = .returned (.bool true) ∧ Below w.heap.size w w' := by
  have HE := Lib.hid hE
  have HP := Lib.hid hP
  clear hE hP
  go_enter Tryd.func10, Tryd.ntmps10
  go_upto_region 1 with fail
  go_wp2_with fail
  refine (mapsNew_own _).mono ?_
  rintro e W1 ⟨rfl, hl⟩
  obtain ⟨p, hp⟩ : ∃ p, p = w.heap.size := ⟨_, rfl⟩
  rw [← hp] at hl ⊢
  have HL := Lib.hid hl
  clear hl hp
  go_upto_region 2 with fail
  go_wp2_with fail
  refine (call1 HL.out HE.out HP.out).mono ?_
  rintro e W2 ⟨rfl, hl⟩
  have HL1 := Lib.hid hl
  clear hl HL
  have HL := HL1
  clear HL1
  go_upto_region 3 with (first | ((with_reducible show wpList _ _ _ (⟨none, Op.store 39 _ _, _, _, _, _⟩ :: _) _ _); refine wpList_store_whole (by rfl) 39 (.tmp 2) (.tmp 15) (by rfl) W2.heap.size (by rfl) #[.int .u8 1, .int .u64 1, .string ⟨#[]⟩, .string ⟨#[]⟩, .int .u32 0, .int .u64 0, .int .i64 0, .int .i64 0] (by rfl) _ 39 (heap_alloc_new _ _) (by rfl) (by kernel_rfl) (by simp [Value.oneCell']) ?_; intro w2 hr2 hg2 hs2; have HG2 := Lib.hid hg2; have HR2 := Lib.hid hr2; clear hg2 hr2 hs2) | fail)
  have hl := HL.out.put HR2.out HG2.out
  obtain ⟨q2, hq⟩ : ∃ q, q = W2.heap.size := ⟨_, rfl⟩
  rw [← hq] at hl ⊢
  have HL1 := Lib.hid hl
  clear hl hq HL HG2 HR2
  have HL := HL1
  clear HL1
  go_upto_region 3 with fail
  go_wp2_with fail
  refine (call2 HL.out HE.out HP.out).mono ?_
  rintro e W3 ⟨rfl, hl⟩
  have HL1 := Lib.hid hl
  clear hl HL
  have HL := HL1
  clear HL1
  go_upto_region 4 with (first | ((with_reducible show wpList _ _ _ (⟨none, Op.store 39 _ _, _, _, _, _⟩ :: _) _ _); refine wpList_store_whole (by rfl) 39 (.tmp 3) (.tmp 18) (by rfl) W3.heap.size (by rfl) #[.int .u8 11, .int .u64 0, .string ⟨#[110]⟩, .string ⟨#[57]⟩, .int .u32 0, .int .u64 1, .int .i64 (-1), .int .i64 0] (by rfl) _ 39 (heap_alloc_new _ _) (by rfl) (by kernel_rfl) (by simp [Value.oneCell']) ?_; intro w2 hr2 hg2 hs2; have HG2 := Lib.hid hg2; have HR2 := Lib.hid hr2; clear hg2 hr2 hs2) | fail)
  have hl := HL.out.put HR2.out HG2.out
  obtain ⟨q3, hq⟩ : ∃ q, q = W3.heap.size := ⟨_, rfl⟩
  rw [← hq] at hl ⊢
  have HL1 := Lib.hid hl
  clear hl hq HL HG2 HR2
  have HL := HL1
  clear HL1
  go_upto_region 4 with fail
  go_wp2_with fail
  refine (call3 HL.out HE.out HP.out).mono ?_
  rintro e W4 ⟨rfl, hl⟩
  have HL1 := Lib.hid hl
  clear hl HL
  have HL := HL1
  clear HL1
  go_upto_region 5 with (first | ((with_reducible show wpList _ _ _ (⟨none, Op.store 39 _ _, _, _, _, _⟩ :: _) _ _); refine wpList_store_whole (by rfl) 39 (.tmp 4) (.tmp 21) (by rfl) W4.heap.size (by rfl) #[.int .u8 8, .int .u64 12, .string ⟨#[]⟩, .string ⟨#[]⟩, .int .u32 0, .int .u64 0, .int .i64 0, .int .i64 0] (by rfl) _ 39 (heap_alloc_new _ _) (by rfl) (by kernel_rfl) (by simp [Value.oneCell']) ?_; intro w2 hr2 hg2 hs2; have HG2 := Lib.hid hg2; have HR2 := Lib.hid hr2; clear hg2 hr2 hs2) | fail)
  have hl := HL.out.put HR2.out HG2.out
  obtain ⟨q4, hq⟩ : ∃ q, q = W4.heap.size := ⟨_, rfl⟩
  rw [← hq] at hl ⊢
  have HL1 := Lib.hid hl
  clear hl hq HL HG2 HR2
  have HL := HL1
  clear HL1
  go_wp2_with fail
  refine (mapsIds_any HL.out.map).mono ?_
  rintro e W5 ⟨rfl, rfl⟩
  go_upto_region 6 with fail
  go_upto_region 6 with fail
  go_wp2_with fail
  refine (gives4 HL.out HE.out HP.out).mono ?_
  rintro e W6 ⟨x, rfl, hl⟩
  have HL1 := Lib.hid hl
  clear hl HL
  have HL := HL1
  clear HL1
  go_upto_region 7 with (first | ((with_reducible show wpList _ _ _ (⟨none, Op.store 39 _ _, _, _, _, _⟩ :: _) _ _); refine wpList_store_whole (by rfl) 39 (.tmp 6) (.tmp 28) (by rfl) W6.heap.size (by rfl) #[.int .u8 x.kind, .int .u64 x.number, .string x.item.key, .string x.item.value, .int .u32 x.item.flags, .int .u64 x.item.id, .int .i64 x.item.dies, .int .i64 x.item.gen] (by rfl) _ 39 (heap_alloc_new _ _) (by rfl) (by kernel_rfl) (by simp [Value.oneCell']) ?_; intro w2 hr2 hg2 hs2; have HG2 := Lib.hid hg2; have HR2 := Lib.hid hr2; clear hg2 hr2 hs2) | fail)
  have hl := HL.out.put HR2.out HG2.out
  obtain ⟨q6, hq⟩ : ∃ q, q = W6.heap.size := ⟨_, rfl⟩
  rw [← hq] at hl ⊢
  have HL1 := Lib.hid hl
  clear hl hq HL HG2 HR2
  have HL := HL1
  clear HL1
  go_upto_region 7 with fail
  go_wp2_with fail
  refine (call4 HL.out HE.out HP.out).mono ?_
  rintro e W7 ⟨rfl, hl⟩
  have HL1 := Lib.hid hl
  clear hl HL
  have HL := HL1
  clear HL1
  go_upto_region 8 with (first | ((with_reducible show wpList _ _ _ (⟨none, Op.store 39 _ _, _, _, _, _⟩ :: _) _ _); refine wpList_store_whole (by rfl) 39 (.tmp 8) (.tmp 32) (by rfl) W7.heap.size (by rfl) #[.int .u8 10, .int .u64 0, .string ⟨#[]⟩, .string ⟨#[]⟩, .int .u32 0, .int .u64 0, .int .i64 0, .int .i64 0] (by rfl) _ 39 (heap_alloc_new _ _) (by rfl) (by kernel_rfl) (by simp [Value.oneCell']) ?_; intro w2 hr2 hg2 hs2; have HG2 := Lib.hid hg2; have HR2 := Lib.hid hr2; clear hg2 hr2 hs2) | fail)
  have hl := HL.out.put HR2.out HG2.out
  obtain ⟨q8, hq⟩ : ∃ q, q = W7.heap.size := ⟨_, rfl⟩
  rw [← hq] at hl ⊢
  have HL1 := Lib.hid hl
  clear hl hq HL HG2 HR2
  have HL := HL1
  clear HL1
  go_upto_region 8 with fail
  go_wp2_with fail
  refine (gives5 HL.out HE.out HP.out).mono ?_
  rintro e W8 ⟨y, rfl, hl⟩
  have HL1 := Lib.hid hl
  clear hl HL
  have HL := HL1
  clear HL1
  go_upto_region 9 with (first | ((with_reducible show wpList _ _ _ (⟨none, Op.store 39 _ _, _, _, _, _⟩ :: _) _ _); refine wpList_store_whole (by rfl) 39 (.tmp 9) (.tmp 37) (by rfl) W8.heap.size (by rfl) #[.int .u8 y.kind, .int .u64 y.number, .string y.item.key, .string y.item.value, .int .u32 y.item.flags, .int .u64 y.item.id, .int .i64 y.item.dies, .int .i64 y.item.gen] (by rfl) _ 39 (heap_alloc_new _ _) (by rfl) (by kernel_rfl) (by simp [Value.oneCell']) ?_; intro w2 hr2 hg2 hs2; have HG2 := Lib.hid hg2; have HR2 := Lib.hid hr2; clear hg2 hr2 hs2) | fail)
  have hl := HL.out.put HR2.out HG2.out
  obtain ⟨q9, hq⟩ : ∃ q, q = W8.heap.size := ⟨_, rfl⟩
  rw [← hq] at hl ⊢
  have HL1 := Lib.hid hl
  clear hl hq HL HG2 HR2
  have HL := HL1
  clear HL1
  go_upto_region 9 with fail
  go_wp2_with fail
  refine (put_any 5 0 1 (by decide) (by decide) (by decide) _).mono ?_
  rintro e W9 ⟨rfl, hb9⟩
  rw [show ((putE 5 0 1 : Nat) : Int) = 281474976710661 from by rfl]
  have hl := HL.out.below hb9
  have HL1 := Lib.hid hl
  clear hl hb9 HL
  have HL := HL1
  clear HL1
  go_wp2_with fail
  refine (call5 HL.out HE.out HP.out).mono ?_
  rintro e W10 ⟨z, m, hk, hn, rfl, hl⟩
  have HL1 := Lib.hid hl
  have HK := Lib.hid hk
  have HN := Lib.hid hn
  clear hl hk hn HL
  have HL := HL1
  clear HL1
  go_upto_region 10 with (first | ((with_reducible show wpList _ _ _ (⟨none, Op.store 39 _ _, _, _, _, _⟩ :: _) _ _); refine wpList_store_whole (by rfl) 39 (.tmp 11) (.tmp 42) (by rfl) W10.heap.size (by rfl) #[.int .u8 z.kind, .int .u64 z.number, .string z.item.key, .string z.item.value, .int .u32 z.item.flags, .int .u64 z.item.id, .int .i64 z.item.dies, .int .i64 z.item.gen] (by rfl) _ 39 (heap_alloc_new _ _) (by rfl) (by kernel_rfl) (by simp [Value.oneCell']) ?_; intro w2 hr2 hg2 hs2; have HG2 := Lib.hid hg2; have HR2 := Lib.hid hr2; clear hg2 hr2 hs2) | fail)
  have hl := HL.out.put HR2.out HG2.out
  obtain ⟨q11, hq⟩ : ∃ q, q = W10.heap.size := ⟨_, rfl⟩
  rw [← hq] at hl ⊢
  have HL1 := Lib.hid hl
  clear hl hq HL HG2 HR2
  have HL := HL1
  clear HL1
  have hh := HL.out.held
  have f2 := (hh _ (.tail _ (.tail _ (.tail _ (.tail _ (.tail _ (.tail _ (.head _)))))))).2
  have f3 := (hh _ (.tail _ (.tail _ (.tail _ (.tail _ (.tail _ (.head _))))))).2
  have f4 := (hh _ (.tail _ (.tail _ (.tail _ (.tail _ (.head _)))))).2
  have f8 := (hh _ (.tail _ (.tail _ (.head _)))).2
  have f11 := (hh _ (.head _)).2
  have g20 : w2.cell? ⟨q2, 0, none⟩ = some (.int .u8 1) := (cells_at f2 0).1
  have g40 : w2.cell? ⟨q4, 0, none⟩ = some (.int .u8 8) := (cells_at f4 0).1
  have g21 : w2.cell? ⟨q2, 1, none⟩ = some (.int .u64 1) := (cells_at f2 1).1
  have g41 : w2.cell? ⟨q4, 1, none⟩ = some (.int .u64 12) := (cells_at f4 1).1
  have g22 : w2.cell? ⟨q2, 2, none⟩ = some (.string ⟨#[]⟩) := (cells_at f2 2).1
  have g42 : w2.cell? ⟨q4, 2, none⟩ = some (.string ⟨#[]⟩) := (cells_at f4 2).1
  have g23 : w2.cell? ⟨q2, 3, none⟩ = some (.string ⟨#[]⟩) := (cells_at f2 3).1
  have g43 : w2.cell? ⟨q4, 3, none⟩ = some (.string ⟨#[]⟩) := (cells_at f4 3).1
  have g24 : w2.cell? ⟨q2, 4, none⟩ = some (.int .u32 0) := (cells_at f2 4).1
  have g44 : w2.cell? ⟨q4, 4, none⟩ = some (.int .u32 0) := (cells_at f4 4).1
  have g25 : w2.cell? ⟨q2, 5, none⟩ = some (.int .u64 0) := (cells_at f2 5).1
  have g45 : w2.cell? ⟨q4, 5, none⟩ = some (.int .u64 0) := (cells_at f4 5).1
  have g26 : w2.cell? ⟨q2, 6, none⟩ = some (.int .i64 0) := (cells_at f2 6).1
  have g46 : w2.cell? ⟨q4, 6, none⟩ = some (.int .i64 0) := (cells_at f4 6).1
  have g27 : w2.cell? ⟨q2, 7, none⟩ = some (.int .i64 0) := (cells_at f2 7).1
  have g47 : w2.cell? ⟨q4, 7, none⟩ = some (.int .i64 0) := (cells_at f4 7).1
  have g30 : w2.cell? ⟨q3, 0, none⟩ = some (.int .u8 11) := (cells_at f3 0).1
  have g80 : w2.cell? ⟨q8, 0, none⟩ = some (.int .u8 10) := (cells_at f8 0).1
  have g11 : w2.cell? ⟨q11, 0, none⟩ = some (.int .u8 12) := by rw [← HK.out]; exact (cells_at f11 0).1
  have HN2 := HN.out
  clear hh f2 f3 f4 f8 f11 HN HK HE HP
  go_wp2_with fail
  refine (mapsCount_any HL.out.map).mono ?_
  rintro e W12 ⟨rfl, rfl⟩
  rw [show ((m.L.length : Nat) : Int) = 1 from by rw [HN2]; rfl]
  go_wp2_with fail
  go_ret
  exact ⟨rfl, HL.out.bel⟩
end Go.Proofs.YtaooangnnlopcaaDoor
