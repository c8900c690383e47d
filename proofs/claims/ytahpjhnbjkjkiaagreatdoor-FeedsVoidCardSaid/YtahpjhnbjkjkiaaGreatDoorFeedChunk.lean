/- What a feed tells of a chunk that does not end as it must. No condition. -/
import Derived.Test.YtahpjhnbjkjkiaaGreatDoorFeedAt
namespace Go.Proofs.YtahpjhnbjkjkiaaGreatDoor
open Go.RowKit Go.ChangeMaps Go.MapKept

/-- The result's box is stored: the feed is as it was. -/
theorem does_box {n₀ : Nat} {w W w3 : World} {p q : Nat} {t : TypeId} {rest : List Value} {hv hv' ks' : Value} {st' : FSt} {cs : Array Value} (hp : p < w.heap.size) (hW : FeedAt n₀ W p t rest hv' ks' st') (hc : Chg (FM p hv) w W) (hq : w.heap.size ≤ q)
    (hb : W.heap[q]? = some (.cells cs 68 (0, 0))) (hg : W.grownBy w3 (some q)) : FeedAt n₀ w3 p t rest hv' ks' st' ∧ Chg (FM p hv) w w3 ∧ Chg (fun k => k = q) W w3 := by
  have hc3 : Chg (fun k => k = q) W w3 := Chg.of_grown hg (fun i _ e => (Option.some.inj e).symm)
  refine ⟨hW.kept hc3 ?_, hc.then hc3 (fun i hi e => by omega), hc3⟩
  rintro k rfl
  have ht : Tag W k 68 := Tag.of hb
  refine ⟨?_, fun e => absurd (ht.one e) (by decide)⟩
  rintro (e | e)
  · omega
  · exact absurd (ht.one (owns_tag hW.held e)) (by decide)
theorem FeedAt.plt {n₀ : Nat} {w : World} {p : Nat} {t : TypeId} {rest : List Value} {hv ks : Value} {st : FSt} (h : FeedAt n₀ w p t rest hv ks st) : p < w.heap.size := h.box.tag.lt
theorem FeedAt.alloc {n₀ : Nat} {w : World} {p : Nat} {t : TypeId} {rest : List Value} {hv ks : Value} {st : FSt} (h : FeedAt n₀ w p t rest hv ks st) (o : Obj) : FeedAt n₀ (w.alloc o) p t rest hv ks st :=
  h.below ((Below.refl _ _).alloc (Nat.le_refl _) _)
theorem ten_test (x : UInt8) : ((x.toNat : Int) == 10) = decide (x = 10) := by
  by_cases h : x = 10
  · rw [h]; rfl
  · rw [decide_eq_false h, beq_eq_false_iff_ne]
    intro e
    exact h (UInt8.toNat_inj.1 (by show x.toNat = 10; omega))
theorem nil_fresh {hv : Value} {w : World} : ∀ g, (Value.slice none 0 0).ownBlock = some g → hv.ownBlock = some g ∨ w.heap.size ≤ g := fun g e => by simp [Value.ownBlock] at e

set_option maxRecDepth 100000 in
set_option maxHeartbeats 2000000 in
theorem chunk_any {n₀ : Nat} {w : World} {p : Nat} {t : TypeId} {rest : List Value} {hv ks : Value} {st : FSt} (h : FeedAt n₀ w p t rest hv ks st) (x : UInt8) :
    Calls Tryz.prog 88 #[.pointer (some ⟨p, 0, none⟩), .int .u8 (x.toNat : Int)] w (Does n₀ w p t rest hv (chunkF st x)) := by
  have hp : p < w.heap.size := h.plt
  have h0 := h.alloc (.cells evZero 68)
  have hbx : (w.alloc (.cells evZero 68)).heap[w.heap.size]? = some (.cells evZero 68 (0, 0)) := heap_alloc_new _ _
  have hc0 : Chg (FM p hv) w (w.alloc (.cells evZero 68)) := (Chg.refl _ _).alloc _
  have H0 := Lib.hid h0
  have HBX := Lib.hid hbx
  have HC0 := Lib.hid hc0
  have ht := ten_test x
  clear h h0 hbx hc0
  by_cases hx : x = 10
  · rw [decide_eq_true hx] at ht
    have hr : chunkF st x = (beginF (beginF st 4) 0, [toldE 6]) := by unfold chunkF; rw [if_pos hx]; rfl
    rw [hr]
    clear hx hr
    go_enter Tryz.func88, Tryz.ntmps88
    go_wp2_with fail
    refine (begin_any H0.out.box 4).mono ?_
    rintro e w1 ⟨⟨v, rfl⟩, rfl⟩
    go_wp2_with fail
    refine (begin_any (H0.out.begun 4).box 0).mono ?_
    rintro e w2 ⟨⟨v2, rfl⟩, rfl⟩
    have hb2 := (H0.out.begun 4).begun 0
    have hc2 := begun_chg (begun_chg HC0.out (fun _ => .inl rfl) 4) (fun _ => .inl rfl) 0
    have hbx2 : (begunW (begunW (w.alloc (.cells evZero 68)) p 4) p 0).heap[w.heap.size]? = some (.cells evZero 68 (0, 0)) :=
      ((begun_only _ p 4).trans (begun_only _ p 0)).obj HBX.out (by omega)
    have HB2 := Lib.hid hb2
    have HC2 := Lib.hid hc2
    have HX2 := Lib.hid hbx2
    clear hb2 hc2
    change Hid (FeedAt n₀ (begunW (begunW (w.alloc (.cells evZero 68)) p 4) p 0) _ _ _ _ _ _) at HB2
    generalize begunW (begunW (w.alloc (.cells evZero 68)) p 4) p 0 = W2 at *
    go_wp2_with (first
      | ((with_reducible show wpList _ _ _ (⟨none, Op.store _ _ _, _, _, _, _⟩ :: _) _ _); refine wpList_store_whole (by rfl) 68 (.tmp 4) (.tmp 12) (by rfl) w.heap.size (by rfl) (evCells (.slice none 0 0) (toldE 6)).toArray (by rfl) _ 68 hbx2 (by rfl) (by kernel_rfl) (by simp [Value.oneCell']) ?_; intro w3 hr3 hg3 hs3)
      | ((with_reducible show bodyPost _ _ _ Exit.ret _ _); exact bodyPost_ret (v := .tuple #[evV (.slice none 0 0) (toldE 6), .bool true]) (results_row_tmp rfl _ _ w.heap.size _ _ _ _ (by rfl) hr3 Tryz.underlying68 rfl (by kernel_rfl) _ (by rfl)) rfl (by
          obtain ⟨h1, h2, h3⟩ := does_box hp HB2.out HC2.out (Nat.le_refl _) HX2.out hg3
          exact ⟨_, _, h1, h2, nil_fresh, .inr ⟨toldE 6, .slice none 0 0, rfl, rfl, Row.nil _ _ _⟩⟩))
      | fail)
  · rw [decide_eq_false hx] at ht
    have hr : chunkF st x = (beginF st 4, [toldE 6]) := by unfold chunkF; rw [if_neg hx]
    rw [hr]
    clear hx hr
    go_enter Tryz.func88, Tryz.ntmps88
    go_wp2_with fail
    refine (begin_any H0.out.box 4).mono ?_
    rintro e w1 ⟨⟨v, rfl⟩, rfl⟩
    have hb2 := H0.out.begun 4
    have hc2 := begun_chg HC0.out (fun _ => .inl rfl) 4
    have hbx2 : (begunW (w.alloc (.cells evZero 68)) p 4).heap[w.heap.size]? = some (.cells evZero 68 (0, 0)) :=
      (begun_only _ p 4).obj HBX.out (by omega)
    have HB2 := Lib.hid hb2
    have HC2 := Lib.hid hc2
    have HX2 := Lib.hid hbx2
    clear hb2 hc2
    change Hid (FeedAt n₀ (begunW (w.alloc (.cells evZero 68)) p 4) _ _ _ _ _ _) at HB2
    generalize begunW (w.alloc (.cells evZero 68)) p 4 = W2 at *
    go_wp2_with (first
      | ((with_reducible show wpList _ _ _ (⟨none, Op.store _ _ _, _, _, _, _⟩ :: _) _ _); refine wpList_store_whole (by rfl) 68 (.tmp 4) (.tmp 12) (by rfl) w.heap.size (by rfl) (evCells (.slice none 0 0) (toldE 6)).toArray (by rfl) _ 68 hbx2 (by rfl) (by kernel_rfl) (by simp [Value.oneCell']) ?_; intro w3 hr3 hg3 hs3)
      | ((with_reducible show bodyPost _ _ _ Exit.ret _ _); exact bodyPost_ret (v := .tuple #[evV (.slice none 0 0) (toldE 6), .bool true]) (results_row_tmp rfl _ _ w.heap.size _ _ _ _ (by rfl) hr3 Tryz.underlying68 rfl (by kernel_rfl) _ (by rfl)) rfl (by
          obtain ⟨h1, h2, h3⟩ := does_box hp HB2.out HC2.out (Nat.le_refl _) HX2.out hg3
          exact ⟨_, _, h1, h2, nil_fresh, .inr ⟨toldE 6, .slice none 0 0, rfl, rfl, Row.nil _ _ _⟩⟩))
      | fail)
end Go.Proofs.YtahpjhnbjkjkiaaGreatDoor
