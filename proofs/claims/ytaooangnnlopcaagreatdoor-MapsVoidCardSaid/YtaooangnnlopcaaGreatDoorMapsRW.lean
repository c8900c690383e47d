/- The document's map without a key's record. Condition: the map lies behind its pointer; fewer than 2^20 records. -/
import Derived.Test.YtaooangnnlopcaaGreatDoorMapsRAt
import Derived.Test.YtaooangnnlopcaaGreatDoorMapsEq
namespace Go.Proofs.YtaooangnnlopcaaGreatDoor
open Go.RowKit Go.ChangeMaps Go.MapKept
/-- Records that are gathered. -/
structure ItemJ (w : World) (W : World) (ov : Value) (L : List ItemD) : Prop where
  row : W.ownsRow w.heap.size 38 6 ov L.length (itemsCells L)
  low : Below w.heap.size w W
theorem ItemJ.below {w W W' : World} {ov : Value} {L : List ItemD} (h : ItemJ w W ov L) (hb : Below W.heap.size W W') : ItemJ w W' ov L := ⟨owns_grow h.row (Chg.of_below (M := fun _ => False) hb) (fun _ _ e => e), h.low.trans (hb.mono h.low.size)⟩
theorem ItemJ.irow {w W : World} {ov : Value} {L : List ItemD} (h : ItemJ w W ov L) : IRow W ov L := Row.of_owns h.row
theorem owns_base {w : World} {B B' : Nat} {e : TypeId} {sz n : Nat} {v : Value} {xs : List Value} (h : w.ownsRow B e sz v n xs) (hB : B' ≤ B) : w.ownsRow B' e sz v n xs := by
  refine ⟨h.1, ?_⟩
  rcases h.2 with hn | ⟨g, cap, cur, hv, hb, rest⟩
  · exact .inl hn
  · exact .inr ⟨g, cap, cur, hv, Nat.le_trans hB hb, rest⟩
theorem ItemJ.base {w w0 W : World} {v : Value} {L : List ItemD} (h : ItemJ w0 W v L) (hb : Below w.heap.size w w0) : ItemJ w W v L := ⟨owns_base h.row hb.size, hb.trans (h.low.mono hb.size)⟩
theorem ItemJ.push {w W w1 : World} {ov ov' : Value} {L : List ItemD} {x : ItemD} (h : ItemJ w W ov L) (hown : w1.ownsRow w.heap.size 38 6 ov' (L.length + 1) (itemsCells L ++ itemCells x)) (hg : W.grownBy w1 ov.ownBlock) : ItemJ w w1 ov' (L ++ [x]) := by
  have hc : Chg (fun k => ov.ownBlock = some k) W w1 := Chg.of_grown hg (fun _ _ e => e)
  exact ⟨by rw [List.length_append, itemsCells_snoc]; exact hown, h.low.trans (hc.below (fun k hk => ⟨Nat.lt_of_lt_of_le hk h.low.size, fun e => by have := (h.row.lt k e).1; omega⟩))⟩
/-- Behind the store of what is handed back. -/
theorem ItemJ.fin {w W1 W W' : World} {v : Value} {L : List ItemD} {q : Nat} (h : ItemJ W1 W v L) (hb : Below w.heap.size w W1) (hg : W.grownBy W' (some q)) (hq1 : w.heap.size ≤ q) (hq2 : q < W1.heap.size) : ItemJ w W' v L := by
  have hc : Chg (fun k => k = q) W W' := Chg.of_grown hg (fun i _ e => by cases e; rfl)
  refine ⟨owns_base (owns_grow h.row hc (fun g hg e => by have := (h.row.lt g hg).1; omega)) hb.size, ?_⟩
  exact (hb.trans (h.low.mono hb.size)).trans (hc.below (fun k hk => ⟨Nat.lt_of_lt_of_le hk (Nat.le_trans hb.size h.low.size), fun e => by omega⟩))
/-- One record more, that was laid in a block of its own first. -/
theorem ItemJ.pushed {w W w1 : World} {ov ov' : Value} {L : List ItemD} {x : ItemD} {o : Obj} (h : ItemJ w W ov L) (hown : w1.ownsRow w.heap.size 38 6 ov' (L.length + 1) (itemsCells L ++ itemCells x)) (hg : (W.alloc o).grownBy w1 ov.ownBlock) : ItemJ w w1 ov' (L ++ [x]) := by
  have h2 := h.below ((Below.refl _ _).alloc (Nat.le_refl _) o)
  have hc : Chg (fun k => ov.ownBlock = some k) (W.alloc o) w1 := Chg.of_grown hg (fun _ _ e => e)
  refine ⟨by rw [List.length_append, itemsCells_snoc]; exact hown, h2.low.trans (hc.below (fun k hk => ⟨Nat.lt_of_lt_of_le hk h2.low.size, fun e => by have := (h2.row.lt k e).1; omega⟩))⟩
/-- What a region of the document's map reads, and a store of what is handed back leaves. -/
structure StS (w : World) (q : Nat) (K : ByteArray) (x : Array Value) (W : World) : Prop where
  key : W.cell? ⟨w.heap.size, 1, none⟩ = some (.string K)
  item : W.heap[q]? = some (.cells x 38 (0, 0))
  low : Below w.heap.size w W
theorem StS.below {w W W' : World} {q : Nat} {K : ByteArray} {x : Array Value} (h : StS w q K x W) (hb : Below W.heap.size W W') : StS w q K x W' :=
  ⟨(hb.cell (cell_lt h.key)).trans h.key, (hb.block q (Array.getElem?_eq_some_iff.1 h.item).1).trans h.item, h.low.trans (hb.mono h.low.size)⟩
theorem StS.store {w W W' : World} {q : Nat} {K : ByteArray} {x : Array Value} (h : StS w q K x W) (hg : W.grownBy W' (some (w.heap.size + 1))) (hq : q ≠ w.heap.size + 1) : StS w q K x W' := by
  have hc : Chg (fun k => k = w.heap.size + 1) W W' := Chg.of_grown hg (fun i _ e => by cases e; rfl)
  exact ⟨hc.cell h.key (by omega), hc.obj h.item hq, below_grown h.low h.low.size hg (Nat.le_succ _)⟩
theorem without_take {L : List ItemD} {i : Nat} {x : ItemD} (k : ByteArray) (h : L[i]? = some x) : (x.key = k → withoutL (L.take (i + 1)) k = withoutL (L.take i) k) ∧ (x.key ≠ k → withoutL (L.take (i + 1)) k = withoutL (L.take i) k ++ [x]) := by
  unfold withoutL
  rw [List.take_add_one, h, List.filter_append]
  constructor
  · intro e
    simp [e]
  · intro e
    simp [e]
theorem without_len (L : List ItemD) (k : ByteArray) : (withoutL L k).length ≤ L.length := List.length_filter_le _ _
theorem key_toList {a b : ByteArray} : a.toList = b.toList ↔ a = b := bytes_toList
set_option maxRecDepth 100000 in
set_option maxHeartbeats 4000000 in
theorem rWithout_any {w : World} {r : Nat} {v : Value} {m : MapM} {k : ByteArray} (h : RMap w r v m) (hfew : m.L.length ≤ 1048576) : Calls Tryz.prog 37 #[.pointer (some ⟨r, 0, none⟩), .string k] w fun e w' => ∃ v', e = .returned v' ∧ ItemJ w w' v' (withoutL m.L k) := by
  obtain ⟨a, c, rfl⟩ := h.slice
  obtain ⟨i0, hi0, hz0, hz1, hz2⟩ := info_parts infoItem
  have Hi := Lib.hid hi0
  have Hz := Lib.hid (And.intro hz0 (And.intro hz1 hz2))
  have HM := Lib.hid (fun W (hb : Below w.heap.size w W) => h.below hb)
  clear h hi0 hz0 hz1 hz2
  go_enter Tryz.func37, Tryz.ntmps37
  go_upto_region 3 with fail
  go_loopw [5, 6] (fun s5 s6 wr => ∃ (i : Nat) (ov : Value), s6 = .int .i64 (i : Int) ∧ s5 = ov ∧ i ≤ m.L.length ∧ Hid (ItemJ w wr ov (withoutL (m.L.take i) k))) (fun _ s6 _ => m.L.length - (intOf s6).toNat)
  case atStart => exact ⟨0, _, rfl, rfl, Nat.zero_le _, Lib.hid ⟨World.ownsRow_nil _ _ _ _, Below.refl _ _⟩⟩
  case round =>
    obtain ⟨i, ov, rfl, rfl, hi, HJ⟩ := hrel
    have hmw := HM.out wr HJ.out.low
    have c0 : wr.cell? ⟨r, 0, none⟩ = some (.slice a m.L.length c) := (cells_at hmw.box 0).1
    by_cases hlt : i < m.L.length
    · obtain ⟨x, hx⟩ : ∃ x, m.L[i]? = some x := ⟨_, List.getElem?_eq_getElem hlt⟩
      obtain ⟨g, b, hix, hg, -, hcell⟩ := hmw.row.at hx
      have x0 : wr.cell? ⟨g, b, none⟩ = some (.string x.key) := hcell 0 _ rfl
      have hwt := without_take k hx
      have hll : (withoutL (m.L.take i) k).length ≤ 1048576 := Nat.le_trans (without_len _ _) (by rw [List.length_take]; omega)
      by_cases hk : x.key = k
      · have HWT := Lib.hid (hwt.1 hk)
        clear hwt hcell hx hmw hll
        obtain ⟨K, V, F, I, D, X⟩ := x
        simp only at hk x0 HWT
        subst hk
        go_wp2_with fail
        go_roundw
        case rel => exact ⟨i + 1, _, by go_num, rfl, by omega, Lib.hid (by rw [HWT.out]; exact HJ.out)⟩
        case measure => simp [intOf]; omega
      · have x1 := hcell 1 _ rfl
        have x2 := hcell 2 _ rfl
        have x3 := hcell 3 _ rfl
        have x4 := hcell 4 _ rfl
        have x5 := hcell 5 _ rfl
        have HWT := Lib.hid (hwt.2 hk)
        have hk2 : (x.key.toList == k.toList) = false := beq_eq_false_iff_ne.2 (fun e => hk (bytes_toList.1 e))
        have hk3 : (x.key.toList != k.toList) = true := bne_iff_ne.2 (fun e => hk (bytes_toList.1 e))
        clear hwt hcell hx hmw hk
        obtain ⟨K, V, F, I, D, X⟩ := x
        simp only at hk2 hk3 x0 x1 x2 x3 x4 x5 HWT
        have hsz1 := HJ.out.low.size
        go_wp2_with (first | (at_builtin; refine wpList_append_own_at _ (by rfl) _ _ 28 (by rfl) w.heap.size 38 i0 (.agg itemZero) 6 64 Tryz.underlying28 Hi.out Hz.out.1 Hz.out.2.1 Hz.out.2.2 rfl (by omega) _ _ _ (by rfl) (HJ.out.row.alloc _) ⟨wr.heap.size, 0, none⟩ 1 1 (itemCells ⟨K, V, F, I, D, X⟩) (by rfl) rfl (World.news_of_block (cs := (itemCells ⟨K, V, F, I, D, X⟩).toArray) (by rw [heap_at, if_pos (by simp)])) (by simp [Value.oneCell']) (by unfold maxLen; omega) (by omega) (by simp at hsz1 ⊢; omega) ?_; intro ov' w2 hown2 hg2 _ hat2) | fail)
        have hj2 := HJ.out.pushed (x := ⟨K, V, F, I, D, X⟩) hown2 hg2
        go_roundw
        case rel => exact ⟨i + 1, _, by go_num, rfl, by omega, Lib.hid (by rw [HWT.out]; exact hj2)⟩
        case measure => simp [intOf]; omega
    · have h1 := HJ.out
      rw [List.take_of_length_le (by omega)] at h1
      have HF := Lib.hid h1
      clear h1 HJ hmw
      go_wp2_with fail
      go_ret
      exact ⟨_, rfl, HF.out⟩
end Go.Proofs.YtaooangnnlopcaaGreatDoor
