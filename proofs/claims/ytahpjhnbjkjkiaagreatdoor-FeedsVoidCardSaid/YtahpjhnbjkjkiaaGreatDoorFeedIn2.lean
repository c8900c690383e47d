/- feeds.In: all events of bytes, in a row of their own. Condition: the library's variables MaxLen and ErrRange are as they are laid; less than 2^20 bytes in all. -/
import Derived.Test.YtahpjhnbjkjkiaaGreatDoorFeedIn
namespace Go.Proofs.YtahpjhnbjkjkiaaGreatDoor
open Go.RowKit
attribute [local go_sem] Oper.semAt_some

set_option maxHeartbeats 1000000 in
theorem all_any (p : Nat) (ba : Option Addr) (bn bc : Nat) (w : World) : Calls Tryz.prog 55 #[.pointer (some ⟨p, 0, none⟩), .slice ba bn bc] w fun e w' =>
    e = .returned (.func (.func 75) #[] #[.pointer (some ⟨w.heap.size + 1, 0, none⟩), .pointer (some ⟨w.heap.size, 0, none⟩)]) ∧
    w' = (w.alloc (.cells #[.pointer (some ⟨p, 0, none⟩)] 25)).alloc (.cells #[.slice ba bn bc] 23) := by
  go_enter Tryz.func55, Tryz.ntmps55
  go_wp2
  go_ret
  exact ⟨rfl, rfl⟩
theorem clipE_nil (w : World) : Calls Tryz.prog 56 #[.slice none 0 0] w fun e w' => e = .returned (.slice none 0 0) ∧ w = w' := by
  go_enter Tryz.func56, Tryz.ntmps56
  go_wp2
  go_ret
  exact ⟨rfl, rfl⟩
theorem clipE_some (a : Addr) (n c : Nat) (w : World) (_h : n ≤ c) (_hc : c ≤ maxLen) : Calls Tryz.prog 56 #[.slice (some a) n c] w fun e w' => e = .returned (.slice (some a) n n) ∧ w = w' := by
  unfold maxLen at _hc
  go_enter Tryz.func56, Tryz.ntmps56
  go_wp2
  go_ret
  exact ⟨rfl, rfl⟩
/-- A row that is cut to its length. -/
def Clipped (w : World) (e : TypeId) (sz : Nat) (B : Nat) (v : Value) (n : Nat) (xs : List Value) : Prop := (∃ a, v = .slice a n n) ∧ Row w e sz v n xs ∧ ∀ g, v.ownBlock = some g → B ≤ g
theorem clipE_any {w : World} {B n : Nat} {v : Value} {xs : List Value} (h : w.ownsRow B 68 13 v n xs) :
    Calls Tryz.prog 56 #[v] w fun e w' => (∃ v', e = .returned v' ∧ Clipped w 68 13 B v' n xs) ∧ w = w' := by
  have hr := Row.of_owns h
  rcases h.2 with ⟨rfl, rfl⟩ | ⟨g, cap, cur, rfl, hB, hh, hn, hm, _, _⟩
  · exact (clipE_nil w).mono fun e w' ⟨he, hw⟩ => ⟨⟨_, he, ⟨_, rfl⟩, hr, fun g hg => by simp [Value.ownBlock] at hg⟩, hw⟩
  · refine (clipE_some _ n cap w hn hm).mono fun e w' ⟨he, hw⟩ => ⟨⟨_, he, ⟨_, rfl⟩, ?_, fun k hk => by simp [Value.ownBlock] at hk; omega⟩, hw⟩
    obtain ⟨h0, a, c, he, h1, h2, h3, h4, h5⟩ := hr
    obtain ⟨rfl, _, rfl⟩ := slice_inj he
    exact ⟨h0, _, n, rfl, Nat.le_refl _, by omega, (fun h => by cases h), h4, h5⟩
theorem infoEv : (Tryz.prog.info? 68).map (fun i => (i.zero, i.size, i.bytes)) = some (some (.agg evZero), 13, 144) := by kernel_rfl
/-- A turn of a block that holds no cells. -/
theorem turn_chg {W : World} {l : Nat} (o' : Obj) : Chg (fun k => k = l) W (W.putObj l o') :=
  ⟨rfl, rfl, rfl, by simp, fun k _ hk => World.putObj_heap_other hk⟩
theorem turn_tag {W : World} {l : Nat} {o : Obj} (h : W.heap[l]? = some o) (ho : o.isCells = false) (e : TypeId) : ¬ Tag W l e := by
  rintro ⟨cs, fz, h'⟩
  rw [h] at h'
  cases h'
  cases ho
section
variable {n₀ : Nat} {w : World} {p : Nat} {t : TypeId} {rest : List Value} {hv0 : Value} {q q1 q2 : Nat} {bv : Value} {bl : List UInt8} {st : FSt} {es : List Ev} {W : World} {hv ks v : Value} {L : List (Value × Ev)}
theorem InJ.turn (h : InJ n₀ w p t rest hv0 q q1 q2 bv bl st es W hv ks v L) {l : Nat} {o o' : Obj} (hl : w.heap.size ≤ l) (hb : W.heap[l]? = some o) (ho : o.isCells = false) : InJ n₀ w p t rest hv0 q q1 q2 bv bl st es (W.putObj l o') hv ks v L :=
  h.kept (turn_chg o') (fun k hk => by
    subst hk
    exact ⟨hl, turn_tag hb ho _, turn_tag hb ho _, turn_tag hb ho _, turn_tag hb ho _, turn_tag hb ho _, turn_tag hb ho _, turn_tag hb ho _⟩)
theorem keys_turn {l : Nat} {o o' : Obj} (hb : W.heap[l]? = some o) (ho : o.isCells = false) {k : Value} {L : List (List UInt8)} (h : KeysAt W k L) : KeysAt (W.putObj l o') k L :=
  h.kept (turn_chg o') (fun g hg e => by subst e; exact turn_tag hb ho _ (h.tag hg))
/-- One event more. -/
theorem InJ.push (h : InJ n₀ w p t rest hv0 q q1 q2 bv bl st es W hv ks v L) (ht : t ≠ 31 ∧ t ≠ 25 ∧ t ≠ 23) {w1 : World} {v' ke : Value} {ev : Ev} {o : Obj} (hk : KeysAt W ke ev.cmd.keys)
    (hown : w1.ownsRow w.heap.size 68 13 v' (L.length + 1) (evsCells L ++ evCells ke ev)) (hgr : (W.alloc o).grownBy w1 v.ownBlock) :
    w1.cell? ⟨q, 0, none⟩ = some v ∧ w1.frozen? ⟨q, 0, none⟩ = false ∧ InJ n₀ w p t rest hv0 q q1 q2 bv bl st (es ++ [ev]) (w1.setCell ⟨q, 0, none⟩ v') hv ks v' (L ++ [(ke, ev)]) ∧ KeepsOthers W (w1.setCell ⟨q, 0, none⟩ v') := by
  have hc1 : Chg (fun k => v.ownBlock = some k) W w1 := ((Chg.refl _ _).alloc o).then (M' := fun k => v.ownBlock = some k) (Chg.of_grown hgr (fun _ _ e => e)) (fun _ _ e => e)
  have hb1 : w1.heap[q]? = some (.cells #[v] 31 (0, 0)) := hc1.obj h.box (fun e => absurd ((owns_tag h.row e).one (Tag.of h.box)) (by decide))
  have hs := set_chg w1 q 0 v'
  have hc2 : Chg (fun k => v.ownBlock = some k ∨ k = q) W (w1.setCell ⟨q, 0, none⟩ v') := (hc1.mono (M' := fun k => v.ownBlock = some k ∨ k = q) (fun _ _ e => .inl e)).then hs (fun _ _ e => .inr e)
  have htag : ∀ k, (v.ownBlock = some k ∨ k = q) → w.heap.size ≤ k ∧ (Tag W k 68 ∨ Tag W k 31) := fun k hk => by
    rcases hk with hk | rfl
    · exact ⟨(h.row.lt k hk).1, .inl (owns_tag h.row hk)⟩
    · exact ⟨h.lq, .inr (Tag.of h.box)⟩
  have hno : ∀ k, (v.ownBlock = some k ∨ k = q) → ∀ e, e ≠ 68 → e ≠ 31 → ¬ Tag W k e := fun k hk e h1 h2 he => by
    rcases (htag k hk).2 with h3 | h3
    · exact h1 (he.one h3)
    · exact h2 (he.one h3)
  have hrow : (w1.setCell ⟨q, 0, none⟩ v').ownsRow w.heap.size 68 13 v' (L.length + 1) (evsCells L ++ evCells ke ev) := owns_grow hown hs (fun g hg e => by
    subst e
    exact absurd ((owns_tag hown hg).one (Tag.of hb1)) (by decide))
  refine ⟨(block_cell hb1 0).1, (block_cell hb1 0).2, ?_, hc2.others (fun k _ e => ?_)⟩
  · exact {
      feed := h.feed.kept hc2 (fun k hk => ⟨fun e => by
        rcases (h.feed.fm e).2 with h1 | h1
        · exact hno k hk _ h.te ht.1 h1
        · exact hno k hk _ (by decide) (by decide) h1, hno k hk _ (by decide) (by decide)⟩)
      env := h.env.chg hc2 (fun k hk => Nat.le_trans h.le (htag k hk).1)
      fresh := h.fresh
      apart := h.apart
      box := heap_setCell_same w1 q 0 _ _ v' hb1
      row := by
        rw [List.length_append, evsCells_snoc]
        exact hrow
      evs := by rw [List.map_append, h.evs]; rfl
      keys := fun x hx => by
        rcases List.mem_append.1 hx with hx | hx
        · exact (h.keys x hx).kept hc2 (fun g hg e => hno g e _ (by decide) (by decide) ((h.keys x hx).tag hg))
        · obtain rfl : x = (ke, ev) := by simpa using hx
          exact hk.kept hc2 (fun g hg e => hno g e _ (by decide) (by decide) (hk.tag hg))
      box1 := hc2.obj h.box1 (fun e => hno q1 e _ (by decide) (by decide) (Tag.of h.box1))
      box2 := hc2.obj h.box2 (fun e => hno q2 e _ (by decide) (by decide) (Tag.of h.box2))
      bytes := h.bytes.kept hc2 (fun hne g hg e => by
        rcases h.safe hne g hg with h1 | h1
        · have := (htag g e).1; have := h.le; omega
        · exact hno g e _ (by decide) (by decide) h1)
      safe := fun hne g hg => by
        rcases h.safe hne g hg with h1 | h1
        · exact .inl h1
        · exact .inr (hc2.tag h1 (fun e => hno g e _ (by decide) (by decide) h1))
      chg := h.chg.then hc2 (fun i hi e => by have := (htag i e).1; omega)
      lq := h.lq
      lq1 := h.lq1
      lq2 := h.lq2
      le := h.le
      te := h.te }
  · rcases (htag k e).2 with h3 | h3
    · exact ⟨_, h3⟩
    · exact ⟨_, h3⟩
end
/-- What In leaves. -/
def InOk (n₀ : Nat) (w : World) (p : Nat) (t : TypeId) (rest : List Value) (hv0 : Value) (r : FSt × List Ev) (e : Ending) (w' : World) : Prop :=
  ∃ hv ks ov L, e = .returned ov ∧ FeedAt n₀ w' p t rest hv ks r.1 ∧ Chg (FM p hv0) w w' ∧ (∀ g, hv.ownBlock = some g → hv0.ownBlock = some g ∨ w.heap.size ≤ g) ∧ L.map (·.2) = r.2 ∧
    Clipped w' 68 13 w.heap.size ov L.length (evsCells L) ∧ ∀ x ∈ L, KeysAt w' x.1 x.2.cmd.keys

set_option maxRecDepth 100000 in
set_option maxHeartbeats 4000000 in
theorem in_any {n₀ : Nat} {w : World} {p : Nat} {t : TypeId} {rest : List Value} {hv0 ks0 bv : Value} {bl : List UInt8} {st0 : FSt} (h : FeedAt n₀ w p t rest hv0 ks0 st0) (hE : Env n₀ w) (hn : n₀ ≤ w.heap.size) (hgd : GoodF st0) (hlen : st0.held.length + bl.length < 1048576)
    (hb : BRow w bv bl) (hbs : bl ≠ [] → ∀ g, bv.ownBlock = some g → g < n₀ ∨ Tag w g 5) (hbh : bl ≠ [] → ∀ g, bv.ownBlock = some g → hv0.ownBlock ≠ some g) (ht : t ≠ 31 ∧ t ≠ 25 ∧ t ≠ 23) (hte : t ≠ 68) :
    Calls Tryz.prog 15 #[.pointer (some ⟨p, 0, none⟩), bv] w (InOk n₀ w p t rest hv0 (runF st0 bl)) := by
  obtain ⟨i0, hi, hz0, hz1, hz2⟩ := info_parts infoEv
  obtain ⟨ba, bc, rfl⟩ := hb.len
  refine (callsIn_wide (n := 3)).1 ?_
  refine callsIn_of_wp_marks Tryz.func15 rfl trivial ?_ rfl
  simp only [Tryz.ntmps15, List.size_toArray, List.length_cons, List.length_nil, Nat.reduceAdd, Nat.reduceSub, Array.replicate_succ, Array.replicate_zero, List.push_toArray, List.append_toArray, List.nil_append, List.cons_append]
  have hc3 : Chg (fun _ => False) w (((w.alloc (.cells #[.slice none 0 0] 31)).alloc (.cells #[.pointer (some ⟨p, 0, none⟩)] 25)).alloc (.cells #[.slice ba bl.length bc] 23)) := (((Chg.refl _ _).alloc _).alloc _).alloc _
  have hj : InJ n₀ w p t rest hv0 w.heap.size (w.heap.size + 1) (w.heap.size + 2) (.slice ba bl.length bc) bl st0 [] (((w.alloc (.cells #[.slice none 0 0] 31)).alloc (.cells #[.pointer (some ⟨p, 0, none⟩)] 25)).alloc (.cells #[.slice ba bl.length bc] 23)) hv0 ks0 (.slice none 0 0) [] := {
    feed := h.kept hc3 (fun _ e => e.elim)
    env := hE.chg hc3 (fun _ e => e.elim)
    fresh := fun g hg => .inl hg
    apart := hbh
    box := by rw [heap_at, if_neg (by simp; omega), heap_at, if_neg (by simp), heap_at, if_pos rfl]
    row := World.ownsRow_nil _ _ _ _
    evs := rfl
    keys := fun x hx => by cases hx
    box1 := by rw [heap_at, if_neg (by simp), heap_at, if_pos (by simp)]
    box2 := by rw [heap_at, if_pos (by simp)]
    bytes := hb.kept hc3 (fun _ _ _ e => e)
    safe := fun hne g hg => (hbs hne g hg).imp id (fun h1 => hc3.tag h1 (fun e => e))
    chg := hc3.mono (fun _ _ e => e.elim)
    lq := Nat.le_refl _
    lq1 := by omega
    lq2 := by omega
    le := hn
    te := hte }
  gi_wp2
  refine ⟨trivial, ?_⟩
  refine (callsIn_wide.2 (all_any _ _ _ _ _)).mono ?_
  rintro e w' ⟨rfl, rfl⟩
  gi_wp2
  obtain ⟨W0, hW0⟩ : ∃ W0, W0 = (((w.alloc (.cells #[.slice none 0 0] 31)).alloc (.cells #[.pointer (some ⟨p, 0, none⟩)] 25)).alloc (.cells #[.slice ba bl.length bc] 23)) := ⟨_, rfl⟩
  have hsz : W0.heap.size = w.heap.size + 3 := by rw [hW0]; simp
  rw [← hW0] at hj ⊢
  refine wpIn_rangeFunc_st (σ := FSt × List Ev × Value × Ev) rfl (by omega) (gf := 75) (lb := #[.pointer (some ⟨w.heap.size + 2, 0, none⟩), .pointer (some ⟨w.heap.size + 1, 0, none⟩)]) rfl trivial (enters_of Tryz.func75 (by kernel_rfl) rfl)
    (fun s => #[evV s.2.2.1 s.2.2.2]) (fun _ => rfl)
    (fun W => ∃ hv ks v L, InJ n₀ w p t rest hv0 w.heap.size (w.heap.size + 1) (w.heap.size + 2) (.slice ba bl.length bc) bl st0 [] W hv ks v L)
    (fun W => ∃ hv ks v L, InJ n₀ w p t rest hv0 w.heap.size (w.heap.size + 1) (w.heap.size + 2) (.slice ba bl.length bc) bl (runF st0 bl).1 (runF st0 bl).2 W hv ks v L)
    (fun s W => (∃ hv ks v L, InJ n₀ w p t rest hv0 w.heap.size (w.heap.size + 1) (w.heap.size + 2) (.slice ba bl.length bc) bl s.1 s.2.1 W hv ks v L ∧ L.length < 1048576) ∧ KeysAt W s.2.2.1 s.2.2.2.cmd.keys)
    (fun s W => ∃ hv ks v L, InJ n₀ w p t rest hv0 w.heap.size (w.heap.size + 1) (w.heap.size + 2) (.slice ba bl.length bc) bl s.1 (s.2.1 ++ [s.2.2.2]) W hv ks v L)
    (fun _ _ _ => False) ?tA ?tB (fun _ _ _ _ _ _ _ _ _ _ h => h) ?tE ?st0 ?iter
    (fun s a' W => ((∃ hv ks v L, InJ n₀ w p t rest hv0 w.heap.size (w.heap.size + 1) (w.heap.size + 2) (.slice ba bl.length bc) bl s.1 s.2.1 W hv ks v L ∧ L.length < 1048576) ∧ KeysAt W s.2.2.1 s.2.2.2.cmd.keys) ∧
      ∃ Bx, W.heap[Bx]? = some (.cells (evCells s.2.2.1 s.2.2.2).toArray 68 (0, 0)) ∧ W0.heap.size ≤ Bx ∧
        a' = { tmps := #[.pointer (some ⟨p, 0, none⟩), .slice ba bl.length bc, undef, undef, .slice none 0 0, .pointer (some ⟨w.heap.size, 0, none⟩), .pointer (some ⟨Bx, 0, none⟩), .pointer (some ⟨p, 0, none⟩), .bool false, .pointer (some ⟨p, 0, none⟩), .slice ba bl.length bc, .func (.func 75) #[] #[.pointer (some ⟨w.heap.size + 2, 0, none⟩), .pointer (some ⟨w.heap.size + 1, 0, none⟩)], evV s.2.2.1 s.2.2.2, undef, undef, undef, undef, undef, undef], defers := [] })
    ?tX ?assign ?body ?done (fun _ _ _ _ _ h => h.elim)
  case tA =>
    rintro s W l o o' hl hb ho _ ⟨⟨hv, ks, v, L, hj, hL⟩, hk⟩
    exact ⟨⟨hv, ks, v, L, hj.turn (by omega) hb ho, hL⟩, keys_turn hb ho hk⟩
  case tB =>
    rintro s W l o o' hl hb ho _ ⟨hv, ks, v, L, hj⟩
    exact ⟨hv, ks, v, L, hj.turn (by omega) hb ho⟩
  case tE =>
    rintro W l o o' hl hb ho _ ⟨hv, ks, v, L, hj⟩
    exact ⟨hv, ks, v, L, hj.turn (by omega) hb ho⟩
  case st0 => exact fun o1 o2 => ⟨_, _, _, _, (hj.kept (M := fun _ => False) (((Chg.refl _ _).alloc o1).alloc o2) (fun _ e => e.elim))⟩
  case iter =>
    rintro l K Kd hK hKd hY W ⟨hv, ks, v, L, hj'⟩ hKW
    refine (all1_in st0 hgd hlen ht 2 l W0.heap.size K hK ?_ W hj' hKW).mono fun e W' ⟨h1, h2, h3⟩ => ⟨h1, .inl ⟨h2, h3⟩⟩
    intro st es W hv ks v L ke ev hj hke hL hKW
    refine (hY (st, es, ke, ev) W ⟨⟨hv, ks, v, L, hj, hL⟩, hke⟩ hKW).mono ?_
    rintro e W' (⟨h1, h2, h3⟩ | ⟨_, _, h2, _⟩)
    · exact ⟨h1, h2, h3⟩
    · exact h2.elim
  case tX =>
    rintro s a' W l o o' hl hb ho _ ⟨⟨⟨hv, ks, v, L, hj, hL⟩, hk⟩, Bx, hBx, hBs, ha⟩
    exact ⟨⟨⟨hv, ks, v, L, hj.turn (by omega) hb ho, hL⟩, keys_turn hb ho hk⟩, Bx, (turn_chg o').obj hBx (fun e => by subst e; exact turn_tag hb ho _ (Tag.of hBx)), hBs, ha⟩
  case assign =>
    rintro l ⟨st, es, ke, ev⟩ W K ⟨⟨hv, ks, v, L, hj, hL⟩, hk⟩ hK
    dsimp only at hk hj hK
    obtain ⟨ka, kc, rfl⟩ := hk.len
    have hlq := (Tag.of hj.box2).lt
    have hal := (Chg.refl (fun _ => False) W).alloc (.cells (evCells (.slice ka ev.cmd.keys.length kc) ev).toArray 68)
    have hfin := hK _ _ ((KeepsOthers.alloc W (.cells (evCells (.slice ka ev.cmd.keys.length kc) ev).toArray 68)).from _) ⟨⟨⟨hv, ks, v, L, hj.kept hal (fun _ e => e.elim), hL⟩, hk.kept hal (fun _ _ e => e)⟩, W.heap.size, heap_alloc_new _ _, by omega, rfl⟩
    have HF := Lib.hid hfin
    clear hfin hal hj hk hK hL
    gi_wp2
    exact HF.out
  case body =>
    rintro l ⟨st, es, ke, ev⟩ a' W ⟨⟨⟨hv, ks, v, L, hj, hL⟩, hk⟩, Bx, hBx, hBs, rfl⟩
    dsimp only at hk hj hBx
    obtain ⟨ka, kc, rfl⟩ := hk.len
    obtain ⟨va, vc, rfl⟩ := row_slice hj.row
    have c5 := (block_cell hj.box 0).1
    have d0 : W.cell? ⟨Bx, 0, none⟩ = some (.int .u8 (ev.cmd.verb : Int)) := (block_cell hBx 0).1
    have d1 : W.cell? ⟨Bx, 1, none⟩ = some (.slice ka ev.cmd.keys.length kc) := (block_cell hBx 1).1
    have d2 : W.cell? ⟨Bx, 2, none⟩ = some (.int .u8 (ev.cmd.cverb : Int)) := (block_cell hBx 2).1
    have d3 : W.cell? ⟨Bx, 3, none⟩ = some (sv ev.cmd.key) := (block_cell hBx 3).1
    have d4 : W.cell? ⟨Bx, 4, none⟩ = some (sv ev.cmd.value) := (block_cell hBx 4).1
    have d5 : W.cell? ⟨Bx, 5, none⟩ = some (.int .u32 (ev.cmd.flags : Int)) := (block_cell hBx 5).1
    have d6 : W.cell? ⟨Bx, 6, none⟩ = some (.int .i64 ev.cmd.exp) := (block_cell hBx 6).1
    have d7 : W.cell? ⟨Bx, 7, none⟩ = some (.int .u64 (ev.cmd.id : Int)) := (block_cell hBx 7).1
    have d8 : W.cell? ⟨Bx, 8, none⟩ = some (.int .u64 (ev.cmd.by' : Int)) := (block_cell hBx 8).1
    have d9 : W.cell? ⟨Bx, 9, none⟩ = some (.int .i64 ev.cmd.bytes) := (block_cell hBx 9).1
    have d10 : W.cell? ⟨Bx, 10, none⟩ = some (.bool ev.cmd.quiet) := (block_cell hBx 10).1
    have d11 : W.cell? ⟨Bx, 11, none⟩ = some (sv ev.data) := (block_cell hBx 11).1
    have d12 : W.cell? ⟨Bx, 12, none⟩ = some (.int .u8 (ev.told : Int)) := (block_cell hBx 12).1
    have hs := hj.chg.size
    gi_wp2_with (gi_at_builtin; refine wpListIn_append_own _ rfl _ _ 31 rfl w.heap.size 68 i0 (.agg evZero) 13 144 Tryz.underlying31 hi hz0 hz1 hz2 rfl (by decide) _ _ _ rfl (hj.row.alloc _) ⟨W.heap.size, 0, none⟩ 1 1 (evCells (.slice ka ev.cmd.keys.length kc) ev) rfl rfl (World.news_of_block (cs := (evCells (.slice ka ev.cmd.keys.length kc) ev).toArray) (heap_alloc_new _ _)) (by simp [Value.oneCell']) (by unfold maxLen; omega) (by omega) (by simp; omega) ?_; intro v' w1 hown' hgrow _; obtain ⟨g', cap', rfl⟩ := ownsRow_succ hown'; obtain ⟨cq, fq, hj2, hko⟩ := hj.push ht hk hown' hgrow)
    exact ⟨hko.from _, _, _, _, _, hj2⟩
  case done =>
    rintro D W hD ⟨hv, ks, v, L, hj⟩ hK
    obtain ⟨va, vc, rfl⟩ := row_slice hj.row
    have c5 := (block_cell hj.box 0).1
    gi_wp2
    refine ⟨trivial, ?_⟩
    refine (callsIn_wide.2 (clipE_any hj.row)).mono ?_
    rintro e w' ⟨⟨ov, rfl, hov⟩, rfl⟩
    gi_wp2
    refine ⟨by simp, .inl ⟨_, _, rfl, run_takeDeferred hK, ?_⟩⟩
    have hjt := hj.turn (o' := .deferred none) (l := D) (by omega) hK rfl
    refine ⟨_, results_tmp rfl _ _ _, hv, ks, ov, L, rfl, hjt.feed, hjt.chg, hjt.fresh, hjt.evs, ⟨hov.1, hov.2.1.kept (turn_chg _) (fun g hg e => ?_), hov.2.2⟩, hjt.keys⟩
    subst e
    exact turn_tag hK rfl _ (hov.2.1.tag hg)
end Go.Proofs.YtahpjhnbjkjkiaaGreatDoor
