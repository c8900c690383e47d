/- The document's map in memory; its At and without. Condition: the map lies behind its pointer. The document's map without a key's record. Condition: the map lies behind its pointer; fewer than 2^20 records. What the document's map stores. Condition: the map lies behind its pointer; fewer than 2^20 records. -/
import Derived.Test.YtaooangnnlopcaaGreatDoorLiF
import Derived.Test.YtaooangnnlopcaaGreatDoorMapsAt
import Derived.Maps.AppendAt
import Derived.Deep.AppendLies
import Derived.Test.YtaooangnnlopcaaGreatDoorMapsEq
import Derived.Test.YtaooangnnlopcaaGreatDoorMapsGive
import Derived.Test.YtaooangnnlopcaaGreatDoorLowA
namespace Go.Proofs.YtaooangnnlopcaaGreatDoor
open Go.RowKit Go.ChangeMaps Go.MapKept
abbrev itemCells (x : ItemD) : List Value := [.string x.key, .string x.value, .int .u32 x.flags, .int .u64 x.id, .int .i64 x.dies, .int .i64 x.gen]
def itemsCells (L : List ItemD) : List Value := L.flatMap itemCells
theorem itemsCells_snoc (L : List ItemD) (x : ItemD) : itemsCells (L ++ [x]) = itemsCells L ++ itemCells x := by simp [itemsCells]
theorem itemsCells_cons (x : ItemD) (L : List ItemD) : itemsCells (x :: L) = itemCells x ++ itemsCells L := rfl
theorem itemsCells_len : ∀ L : List ItemD, (itemsCells L).length = L.length * 6
  | [] => rfl
  | x :: L => by rw [itemsCells_cons, List.length_append, itemsCells_len L, show (x :: L).length = L.length + 1 from rfl, show (itemCells x).length = 6 from rfl]; omega
theorem itemsCells_at : ∀ {L : List ItemD} {j : Nat} {x : ItemD} (_ : L[j]? = some x) {i : Nat} (_ : i < 6), (itemsCells L)[j * 6 + i]? = (itemCells x)[i]?
  | y :: L, 0, x, h, i, hi => by
    obtain rfl : y = x := by simpa using h
    rw [itemsCells_cons, Nat.zero_mul, Nat.zero_add, List.getElem?_append_left (by show i < 6; omega)]
  | y :: L, j + 1, x, h, i, hi => by
    rw [itemsCells_cons, List.getElem?_append_right (by show 6 ≤ _; omega), show (j + 1) * 6 + i - (itemCells y).length = j * 6 + i from by show _ - 6 = _; omega]
    exact itemsCells_at (by simpa using h) hi
theorem infoItem : (Tryz.prog.info? 38).map (fun i => (i.zero, i.size, i.bytes)) = some (some (.agg itemZero), 6, 64) := by kernel_rfl
theorem idx_item {a : Option Addr} {g o n c k : Nat} (ha : a = some ⟨g, o, none⟩) (hk : k < n) (W : World) : (Instr.indexAt 28 (.slice a n c) (.int .i64 (k : Int))).run Tryz.prog W = .ok (.pointer (some ⟨g, o + k * 6, none⟩)) W := by
  subst ha
  have h0 : (0 : Int) ≤ (k : Int) := by omega
  have h1 : (k : Int) < (n : Int) := by omega
  have h2 := Tryz.underlying28
  obtain ⟨i0, hi, hz0, hz1, hz2⟩ := info_parts infoItem
  go_simp
/-- A slice of records. -/
def IRow (w : World) (v : Value) (L : List ItemD) : Prop := Row w 38 6 v L.length (itemsCells L)
theorem IRow.nil (w : World) : IRow w (.slice none 0 0) [] := Row.nil w _ _
theorem IRow.at {w : World} {v : Value} {L : List ItemD} (h : IRow w v L) {j : Nat} {x : ItemD} (hj : L[j]? = some x) : ∃ g b, (∀ W : World, (Instr.indexAt 28 v (.int .i64 (j : Int))).run Tryz.prog W = .ok (.pointer (some ⟨g, b, none⟩)) W) ∧ g < w.heap.size ∧ Tag w g 38 ∧ ∀ (i : Nat) (u : Value), (itemCells x)[i]? = some u → w.cell? ⟨g, b + i, none⟩ = some u := by
  have hlt : j < L.length := (List.getElem?_eq_some_iff.1 hj).1
  obtain ⟨g, o, c, rfl, hg, h1, h2, ht, h3⟩ := Row.some h (by
    intro e
    have := itemsCells_len L
    rw [e] at this
    simp at this
    omega)
  refine ⟨g, o + j * 6, fun W => idx_item rfl hlt W, hg, ht, fun i u hu => ?_⟩
  have hi : i < 6 := (List.getElem?_eq_some_iff.1 hu).1
  have := (h3 (j * 6 + i) u (by rw [itemsCells_at hj hi]; exact hu)).1
  rwa [← Nat.add_assoc] at this
/-- The document's map in memory. -/
structure RMap (w : World) (r : Nat) (v : Value) (m : MapM) : Prop where
  box : w.heap[r]? = some (.cells #[v, .int .u64 (m.epoch : Int), .int .u64 (m.ids : Int)] 31 (0, 0))
  row : IRow w v m.L
theorem RMap.kept {M : Nat → Prop} {w w' : World} {r : Nat} {v : Value} {m : MapM} (h : RMap w r v m) (hc : Chg M w w') (hr : ¬ M r) (hM : ∀ g, Tag w g 38 → ¬ M g) : RMap w' r v m :=
  ⟨hc.obj h.box hr, h.row.kept hc (fun g hg => hM g (Row.tag h.row hg))⟩
theorem RMap.below {w w' : World} {r : Nat} {v : Value} {m : MapM} (h : RMap w r v m) (hb : Below w.heap.size w w') : RMap w' r v m :=
  h.kept (M := fun _ => False) (Chg.of_below hb) (fun e => e) (fun _ _ e => e)
theorem RMap.lt {w : World} {r : Nat} {v : Value} {m : MapM} (h : RMap w r v m) : r < w.heap.size := (Array.getElem?_eq_some_iff.1 h.box).1
theorem RMap.slice {w : World} {r : Nat} {v : Value} {m : MapM} (h : RMap w r v m) : ∃ a c, v = .slice a m.L.length c := Row.len h.row
theorem at_take {L : List ItemD} {i : Nat} {x : ItemD} (k : ByteArray) (h : L[i]? = some x) (hn : atL (L.take i) k = none) : (x.key = k → atL L k = some x) ∧ (x.key ≠ k → atL (L.take (i + 1)) k = none) := by
  have hlt : i < L.length := (List.getElem?_eq_some_iff.1 h).1
  constructor
  · intro e
    have h2 : L = L.take i ++ x :: L.drop (i + 1) := by
      have h3 := List.take_append_drop i L
      rw [List.drop_eq_getElem_cons hlt, (List.getElem?_eq_some_iff.1 h).2] at h3
      exact h3.symm
    unfold atL at hn ⊢
    rw [h2, List.find?_append, hn, List.find?_cons_of_pos (by simp [e])]
    rfl
  · intro e
    unfold atL at hn ⊢
    rw [List.take_add_one, h, List.find?_append, hn]
    simp [e]
set_option maxRecDepth 100000 in
set_option maxHeartbeats 4000000 in
theorem rAtM_any {w : World} {r : Nat} {v : Value} {m : MapM} {k : ByteArray} (h : RMap w r v m) : Calls Tryz.prog 11 #[.pointer (some ⟨r, 0, none⟩), .string k] w fun e w' => e = .returned (.tuple #[(wasL m.L k).val, .bool (atL m.L k).isSome]) ∧ Below w.heap.size w w' := by
  obtain ⟨a, c, rfl⟩ := h.slice
  have hmx := Row.max h.row
  unfold maxLen at hmx
  have HM := Lib.hid (fun W (hb : Below w.heap.size w W) => h.below hb)
  clear h
  go_enter Tryz.func11, Tryz.ntmps11
  go_upto_region 2 with fail
  obtain ⟨W0, hW0⟩ : ∃ X, X = w.alloc (.cells itemZero 38) := ⟨_, rfl⟩
  have hb0 : Below w.heap.size w W0 := by rw [hW0]; exact (Below.refl _ _).alloc (Nat.le_refl _) _
  have hr0 : W0.heap[w.heap.size]? = some (.cells itemZero 38 (0, 0)) := by rw [hW0, heap_at, if_pos rfl]
  rw [← hW0]
  have HM0 := Lib.hid (HM.out W0 hb0)
  have HB0 := Lib.hid hb0
  have HR0 := Lib.hid hr0
  have c0 : W0.cell? ⟨r, 0, none⟩ = some (.slice a m.L.length c) := (cells_at HM0.out.box 0).1
  clear hW0 hb0 hr0 HM
  go_loop [6] (fun s6 => ∃ i : Nat, s6 = .int .i64 (i : Int) ∧ i ≤ m.L.length ∧ Hid (atL (m.L.take i) k = none)) (fun s6 => m.L.length - (intOf s6).toNat)
  case atStart => exact ⟨0, rfl, Nat.zero_le _, Lib.hid rfl⟩
  case round =>
    obtain ⟨i, rfl, hi, HN⟩ := hrel
    by_cases hlt : i < m.L.length
    · obtain ⟨x, hx⟩ : ∃ x, m.L[i]? = some x := ⟨_, List.getElem?_eq_getElem hlt⟩
      obtain ⟨g, b, hix, hg, -, hcell⟩ := HM0.out.row.at hx
      have x0 : W0.cell? ⟨g, b, none⟩ = some (.string x.key) := hcell 0 _ rfl
      have hat := at_take k hx HN.out
      by_cases hk : x.key = k
      · have x1 := hcell 1 _ rfl
        have x2 := hcell 2 _ rfl
        have x3 := hcell 3 _ rfl
        have x4 := hcell 4 _ rfl
        have x5 := hcell 5 _ rfl
        have h1 := hat.1 hk
        have HAT := Lib.hid (show (wasL m.L k).val = x.val ∧ (atL m.L k).isSome = true from by unfold wasL; rw [h1]; exact ⟨rfl, rfl⟩)
        clear hat h1 hcell hx HN
        obtain ⟨K, V, F, I, D, X⟩ := x
        simp only at hk x0 x1 x2 x3 x4 x5 HAT ⊢
        subst hk
        go_wp2_with (first
          | ((with_reducible show wpList _ _ _ (⟨none, Op.store _ _ _, _, _, _, _⟩ :: _) _ _); refine wpList_store_whole (by rfl) 38 (.tmp 4) (.tmp 32) (by rfl) w.heap.size (by rfl) #[.string K, .string V, .int .u32 F, .int .u64 I, .int .i64 D, .int .i64 X] (by rfl) _ 38 HR0.out (by rfl) (by kernel_rfl) (by simp [Value.oneCell']) ?_; intro w3 hr3 hg3 hs3)
          | ((with_reducible show bodyPost _ _ _ Exit.ret _ _); exact bodyPost_ret (v := .tuple #[.agg #[.string K, .string V, .int .u32 F, .int .u64 I, .int .i64 D, .int .i64 X], .bool true]) (results_row_tmp rfl _ _ w.heap.size _ _ _ _ (by rfl) hr3 Tryz.underlying38 rfl (by kernel_rfl) _ (by rfl)) rfl ⟨(by rw [HAT.out.1, HAT.out.2]), grown_below HB0.out HB0.out.size hg3 (fun k hk => by cases hk; exact Nat.le_refl _)⟩)
          | fail)
      · have h1 := hat.2 hk
        have hk2 : (x.key.toList == k.toList) = false := beq_eq_false_iff_ne.2 (fun e => hk (ByteArray.ext (by have h2 := congrArg List.toArray e; simpa [ByteArray.toList_eq] using h2)))
        have HN2 := Lib.hid h1
        clear hat h1 hcell hx HN
        generalize x.key = K at *
        have HK := Lib.hid hk
        clear hk
        go_wp2_with fail
        go_round
        case rel => exact ⟨i + 1, by go_num, by omega, HN2⟩
        case measure => simp [intOf]; omega
    · have h1 := HN.out
      rw [List.take_of_length_le (by omega)] at h1
      have HAT := Lib.hid (show (wasL m.L k).val = noItem.val ∧ (atL m.L k).isSome = false from by unfold wasL; rw [h1]; exact ⟨rfl, rfl⟩)
      clear h1 HN
      go_wp2_with (first
        | ((with_reducible show wpList _ _ _ (⟨none, Op.store _ _ _, _, _, _, _⟩ :: _) _ _); refine wpList_store_whole (by rfl) 38 (.tmp 4) (.tmp 33) (by rfl) w.heap.size (by rfl) #[.string ⟨#[]⟩, .string ⟨#[]⟩, .int .u32 0, .int .u64 0, .int .i64 0, .int .i64 0] (by rfl) _ 38 HR0.out (by rfl) (by kernel_rfl) (by simp [Value.oneCell']) ?_; intro w3 hr3 hg3 hs3)
        | ((with_reducible show bodyPost _ _ _ Exit.ret _ _); exact bodyPost_ret (v := .tuple #[.agg #[.string ⟨#[]⟩, .string ⟨#[]⟩, .int .u32 0, .int .u64 0, .int .i64 0, .int .i64 0], .bool false]) (results_row_tmp rfl _ _ w.heap.size _ _ _ _ (by rfl) hr3 Tryz.underlying38 rfl (by kernel_rfl) _ (by rfl)) rfl ⟨(by rw [HAT.out.1, HAT.out.2]; rfl), grown_below HB0.out HB0.out.size hg3 (fun k hk => by cases hk; exact Nat.le_refl _)⟩)
        | fail)
end Go.Proofs.YtaooangnnlopcaaGreatDoor
namespace Go.Proofs.YtaooangnnlopcaaGreatDoor
open Go.RowKit Go.ChangeMaps Go.MapKept
/-- Records that are gathered. -/
structure ItemJ (w : World) (W : World) (ov : Value) (L : List ItemD) : Prop where
  row : W.ownsRow w.heap.size 38 6 ov L.length (itemsCells L)
  low : Below w.heap.size w W
theorem ItemJ.below {w W W' : World} {ov : Value} {L : List ItemD} (h : ItemJ w W ov L) (hb : Below W.heap.size W W') : ItemJ w W' ov L := ⟨owns_grow h.row (Chg.of_below (M := fun _ => False) hb) (fun _ _ e => e), h.low.trans (hb.mono h.low.size)⟩
theorem ItemJ.irow {w W : World} {ov : Value} {L : List ItemD} (h : ItemJ w W ov L) : IRow W ov L := Row.of_owns h.row
theorem owns_base {w : World} {B B' : Nat} {e : TypeId} {sz n : Nat} {v : Value} {xs : List Value} (h : w.ownsRow B e sz v n xs) (hB : B' ≤ B) : w.ownsRow B' e sz v n xs := by
  refine ⟨h.1, ?_⟩
  rcases h.2 with hn | ⟨g, cap, cur, hv, hb, rest⟩
  · exact .inl hn
  · exact .inr ⟨g, cap, cur, hv, Nat.le_trans hB hb, rest⟩
theorem ItemJ.base {w w0 W : World} {v : Value} {L : List ItemD} (h : ItemJ w0 W v L) (hb : Below w.heap.size w w0) : ItemJ w W v L := ⟨owns_base h.row hb.size, hb.trans (h.low.mono hb.size)⟩
theorem ItemJ.push {w W w1 : World} {ov ov' : Value} {L : List ItemD} {x : ItemD} (h : ItemJ w W ov L) (hown : w1.ownsRow w.heap.size 38 6 ov' (L.length + 1) (itemsCells L ++ itemCells x)) (hg : W.grownBy w1 ov.ownBlock) : ItemJ w w1 ov' (L ++ [x]) := by
  have hc : Chg (fun k => ov.ownBlock = some k) W w1 := Chg.of_grown hg (fun _ _ e => e)
  exact ⟨by rw [List.length_append, itemsCells_snoc]; exact hown, h.low.trans (hc.below (fun k hk => ⟨Nat.lt_of_lt_of_le hk h.low.size, fun e => by have := (h.row.lt k e).1; omega⟩))⟩
/-- Behind the store of what is handed back. -/
theorem ItemJ.fin {w W1 W W' : World} {v : Value} {L : List ItemD} {q : Nat} (h : ItemJ W1 W v L) (hb : Below w.heap.size w W1) (hg : W.grownBy W' (some q)) (hq1 : w.heap.size ≤ q) (hq2 : q < W1.heap.size) : ItemJ w W' v L := by
  have hc : Chg (fun k => k = q) W W' := Chg.of_grown hg (fun i _ e => by cases e; rfl)
  refine ⟨owns_base (owns_grow h.row hc (fun g hg e => by have := (h.row.lt g hg).1; omega)) hb.size, ?_⟩
  exact (hb.trans (h.low.mono hb.size)).trans (hc.below (fun k hk => ⟨Nat.lt_of_lt_of_le hk (Nat.le_trans hb.size h.low.size), fun e => by omega⟩))
/-- One record more, that was laid in a block of its own first. -/
theorem ItemJ.pushed {w W w1 : World} {ov ov' : Value} {L : List ItemD} {x : ItemD} {o : Obj} (h : ItemJ w W ov L) (hown : w1.ownsRow w.heap.size 38 6 ov' (L.length + 1) (itemsCells L ++ itemCells x)) (hg : (W.alloc o).grownBy w1 ov.ownBlock) : ItemJ w w1 ov' (L ++ [x]) := by
  have h2 := h.below ((Below.refl _ _).alloc (Nat.le_refl _) o)
  have hc : Chg (fun k => ov.ownBlock = some k) (W.alloc o) w1 := Chg.of_grown hg (fun _ _ e => e)
  refine ⟨by rw [List.length_append, itemsCells_snoc]; exact hown, h2.low.trans (hc.below (fun k hk => ⟨Nat.lt_of_lt_of_le hk h2.low.size, fun e => by have := (h2.row.lt k e).1; omega⟩))⟩
/-- What a region of the document's map reads, and a store of what is handed back leaves. -/
structure StS (w : World) (q : Nat) (K : ByteArray) (x : Array Value) (W : World) : Prop where
  key : W.cell? ⟨w.heap.size, 1, none⟩ = some (.string K)
  item : W.heap[q]? = some (.cells x 38 (0, 0))
  low : Below w.heap.size w W
theorem StS.below {w W W' : World} {q : Nat} {K : ByteArray} {x : Array Value} (h : StS w q K x W) (hb : Below W.heap.size W W') : StS w q K x W' :=
  ⟨(hb.cell (cell_lt h.key)).trans h.key, (hb.block q (Array.getElem?_eq_some_iff.1 h.item).1).trans h.item, h.low.trans (hb.mono h.low.size)⟩
theorem StS.store {w W W' : World} {q : Nat} {K : ByteArray} {x : Array Value} (h : StS w q K x W) (hg : W.grownBy W' (some (w.heap.size + 1))) (hq : q ≠ w.heap.size + 1) : StS w q K x W' := by
  have hc : Chg (fun k => k = w.heap.size + 1) W W' := Chg.of_grown hg (fun i _ e => by cases e; rfl)
  exact ⟨hc.cell h.key (by omega), hc.obj h.item hq, below_grown h.low h.low.size hg (Nat.le_succ _)⟩
theorem without_take {L : List ItemD} {i : Nat} {x : ItemD} (k : ByteArray) (h : L[i]? = some x) : (x.key = k → withoutL (L.take (i + 1)) k = withoutL (L.take i) k) ∧ (x.key ≠ k → withoutL (L.take (i + 1)) k = withoutL (L.take i) k ++ [x]) := by
  unfold withoutL
  rw [List.take_add_one, h, List.filter_append]
  constructor
  · intro e
    simp [e]
  · intro e
    simp [e]
theorem without_len (L : List ItemD) (k : ByteArray) : (withoutL L k).length ≤ L.length := List.length_filter_le _ _
set_option maxRecDepth 100000 in
set_option maxHeartbeats 4000000 in
theorem rWithout_any {w : World} {r : Nat} {v : Value} {m : MapM} {k : ByteArray} (h : RMap w r v m) (hfew : m.L.length ≤ 1048576) : Calls Tryz.prog 37 #[.pointer (some ⟨r, 0, none⟩), .string k] w fun e w' => ∃ v', e = .returned v' ∧ ItemJ w w' v' (withoutL m.L k) := by
  obtain ⟨a, c, rfl⟩ := h.slice
  obtain ⟨i0, hi0, hz0, hz1, hz2⟩ := info_parts infoItem
  have Hi := Lib.hid hi0
  have Hz := Lib.hid (And.intro hz0 (And.intro hz1 hz2))
  have HM := Lib.hid (fun W (hb : Below w.heap.size w W) => h.below hb)
  clear h hi0 hz0 hz1 hz2
  go_enter Tryz.func37, Tryz.ntmps37
  go_upto_region 3 with fail
  go_loopw [5, 6] (fun s5 s6 wr => ∃ (i : Nat) (ov : Value), s6 = .int .i64 (i : Int) ∧ s5 = ov ∧ i ≤ m.L.length ∧ Hid (ItemJ w wr ov (withoutL (m.L.take i) k))) (fun _ s6 _ => m.L.length - (intOf s6).toNat)
  case atStart => exact ⟨0, _, rfl, rfl, Nat.zero_le _, Lib.hid ⟨World.ownsRow_nil _ _ _ _, Below.refl _ _⟩⟩
  case round =>
    obtain ⟨i, ov, rfl, rfl, hi, HJ⟩ := hrel
    have hmw := HM.out wr HJ.out.low
    have c0 : wr.cell? ⟨r, 0, none⟩ = some (.slice a m.L.length c) := (cells_at hmw.box 0).1
    by_cases hlt : i < m.L.length
    · obtain ⟨x, hx⟩ : ∃ x, m.L[i]? = some x := ⟨_, List.getElem?_eq_getElem hlt⟩
      obtain ⟨g, b, hix, hg, -, hcell⟩ := hmw.row.at hx
      have x0 : wr.cell? ⟨g, b, none⟩ = some (.string x.key) := hcell 0 _ rfl
      have hwt := without_take k hx
      have hll : (withoutL (m.L.take i) k).length ≤ 1048576 := Nat.le_trans (without_len _ _) (by rw [List.length_take]; omega)
      by_cases hk : x.key = k
      · have HWT := Lib.hid (hwt.1 hk)
        clear hwt hcell hx hmw hll
        obtain ⟨K, V, F, I, D, X⟩ := x
        simp only at hk x0 HWT
        subst hk
        go_wp2_with fail
        go_roundw
        case rel => exact ⟨i + 1, _, by go_num, rfl, by omega, Lib.hid (by rw [HWT.out]; exact HJ.out)⟩
        case measure => simp [intOf]; omega
      · have x1 := hcell 1 _ rfl
        have x2 := hcell 2 _ rfl
        have x3 := hcell 3 _ rfl
        have x4 := hcell 4 _ rfl
        have x5 := hcell 5 _ rfl
        have HWT := Lib.hid (hwt.2 hk)
        have hk2 : (x.key.toList == k.toList) = false := beq_eq_false_iff_ne.2 (fun e => hk (bytes_toList.1 e))
        have hk3 : (x.key.toList != k.toList) = true := bne_iff_ne.2 (fun e => hk (bytes_toList.1 e))
        clear hwt hcell hx hmw hk
        obtain ⟨K, V, F, I, D, X⟩ := x
        simp only at hk2 hk3 x0 x1 x2 x3 x4 x5 HWT
        have hsz1 := HJ.out.low.size
        go_wp2_with (first | (at_builtin; refine wpList_append_own_at _ (by rfl) _ _ 28 (by rfl) w.heap.size 38 i0 (.agg itemZero) 6 64 Tryz.underlying28 Hi.out Hz.out.1 Hz.out.2.1 Hz.out.2.2 rfl (by omega) _ _ _ (by rfl) (HJ.out.row.alloc _) ⟨wr.heap.size, 0, none⟩ 1 1 (itemCells ⟨K, V, F, I, D, X⟩) (by rfl) rfl (World.news_of_block (cs := (itemCells ⟨K, V, F, I, D, X⟩).toArray) (by rw [heap_at, if_pos (by simp)])) (by simp [Value.oneCell']) (by unfold maxLen; omega) (by omega) (by simp at hsz1 ⊢; omega) ?_; intro ov' w2 hown2 hg2 _ hat2) | fail)
        have hj2 := HJ.out.pushed (x := ⟨K, V, F, I, D, X⟩) hown2 hg2
        go_roundw
        case rel => exact ⟨i + 1, _, by go_num, rfl, by omega, Lib.hid (by rw [HWT.out]; exact hj2)⟩
        case measure => simp [intOf]; omega
    · have h1 := HJ.out
      rw [List.take_of_length_le (by omega)] at h1
      have HF := Lib.hid h1
      clear h1 HJ hmw
      go_wp2_with fail
      go_ret
      exact ⟨_, rfl, HF.out⟩
end Go.Proofs.YtaooangnnlopcaaGreatDoor
namespace Go.Proofs.YtaooangnnlopcaaGreatDoor
open Go.RowKit Go.ChangeMaps Go.MapKept
abbrev givRZero : Array Value := #[.int .u8 0, .int .u64 0, .string ⟨#[]⟩, .string ⟨#[]⟩, .int .u32 0, .int .u64 0, .int .i64 0, .int .i64 0, .slice none 0 0, .int .u64 0, .int .u64 0, .bool false]
theorem build_itemR (k v : ByteArray) (f i d g : Int) (W : World) : (Instr.build 38 #[(0, .string k), (1, .string v), (2, .int .u32 f), (3, .int .u64 i), (4, .int .i64 d), (5, .int .i64 g)]).run Tryz.prog W = .ok (.agg #[.string k, .string v, .int .u32 f, .int .u64 i, .int .i64 d, .int .i64 g]) W := by kernel_rfl
set_option maxRecDepth 100000 in
set_option maxHeartbeats 8000000 in
theorem rStores_any {w : World} {r : Nat} {v : Value} {m : MapM} {c : CallD} {ep : Nat} {has : Bool} (h : RMap w r v m) (hfew : m.L.length ≤ 1000000) (he : ep < 18446744073709551616) (hx : -9223372036854775808 ≤ c.exp ∧ c.exp ≤ 9223372036854775807) (hid : m.ids < 18446744073709551615) : Calls Tryz.prog 56 #[.pointer (some ⟨r, 0, none⟩), .agg #[.int .u8 c.verb, .string c.key, .string c.value, .int .u32 c.flags, .int .i64 c.exp, .int .u64 c.id, .int .u64 c.by'], .int .u64 (ep : Int), .bool has] w fun e w' => ∃ v', e = .returned (.agg #[.int .u8 1, .int .u64 ((m.ids + 1 : Nat) : Int), .string ⟨#[]⟩, .string ⟨#[]⟩, .int .u32 0, .int .u64 0, .int .i64 0, .int .i64 0, v', .int .u64 (ep : Int), .int .u64 ((m.ids + 1 : Nat) : Int), .bool (!has)]) ∧ ItemJ w w' v' (withoutL m.L c.key ++ [⟨c.key, c.value, c.flags, ((m.ids + 1 : Nat) : Int), diesE ep c.exp, genE ep⟩]) := by
  have HM := Lib.hid (fun W (hb : Below w.heap.size w W) => h.below hb)
  have HDI := Lib.hid (fun W => rDies_any ep c.exp hx W)
  have HGE := Lib.hid (fun W => rGen_any ep he W)
  have HF := Lib.hid hfew
  obtain ⟨nx, hnx⟩ : ∃ k, k = m.ids + 1 := ⟨_, rfl⟩
  rw [← hnx]
  have w1 : IntKind.u64.wrap ((m.ids : Int) + 1) = (nx : Int) := by rw [IntKind.wrap_u64]; omega
  obtain ⟨dd, hdd⟩ : ∃ d, d = diesE ep c.exp := ⟨_, rfl⟩
  obtain ⟨gg, hgg⟩ : ∃ g : Int, g = (genE ep : Int) := ⟨_, rfl⟩
  rw [← hdd] at HDI ⊢
  rw [← hgg] at HGE ⊢
  have HR := Lib.hid h.lt
  clear h hx hfew hid hnx hdd hgg he
  go_enter Tryz.func56, Tryz.ntmps56
  go_upto_region 1 with fail
  obtain ⟨W0, hW0⟩ : ∃ X, X = (w.alloc (.cells #[.int .u8 c.verb, .string c.key, .string c.value, .int .u32 c.flags, .int .i64 c.exp, .int .u64 c.id, .int .u64 c.by'] 35)).alloc (.cells givRZero 88) := ⟨_, rfl⟩
  have hb0 : Below w.heap.size w W0 := by rw [hW0]; exact below_two w _ _
  have hx0 : W0.heap[w.heap.size]? = some (.cells #[.int .u8 c.verb, .string c.key, .string c.value, .int .u32 c.flags, .int .i64 c.exp, .int .u64 c.id, .int .u64 c.by'] 35 (0, 0)) := by rw [hW0]; exact (heap_two w _ _).1
  have hr0 : W0.heap[w.heap.size + 1]? = some (.cells givRZero 88 (0, 0)) := by rw [hW0]; exact (heap_two w _ _).2
  rw [← hW0]
  have c2 : W0.cell? ⟨r, 2, none⟩ = some (.int .u64 (m.ids : Int)) := (cells_at (HM.out W0 hb0).box 2).1
  have k1 : W0.cell? ⟨w.heap.size, 1, none⟩ = some (.string c.key) := (cells_at hx0 1).1
  have k2 : W0.cell? ⟨w.heap.size, 2, none⟩ = some (.string c.value) := (cells_at hx0 2).1
  have k3 : W0.cell? ⟨w.heap.size, 3, none⟩ = some (.int .u32 c.flags) := (cells_at hx0 3).1
  have k4 : W0.cell? ⟨w.heap.size, 4, none⟩ = some (.int .i64 c.exp) := (cells_at hx0 4).1
  have HB0 := Lib.hid hb0
  have HX0 := Lib.hid hx0
  have HR0 := Lib.hid hr0
  clear hW0 hb0 hx0 hr0
  go_upto_region 2 with fail
  clear c2
  have qb := build_itemR c.key c.value c.flags nx dd gg
  have HCK := Lib.hid (fun (W : World) (hW : Below W0.heap.size W0 W) => (⟨(hW.cell (cell_lt k1)).trans k1, (hW.cell (cell_lt k2)).trans k2, (hW.cell (cell_lt k3)).trans k3, (hW.cell (cell_lt k4)).trans k4⟩ : W.cell? ⟨w.heap.size, 1, none⟩ = some (.string c.key) ∧ W.cell? ⟨w.heap.size, 2, none⟩ = some (.string c.value) ∧ W.cell? ⟨w.heap.size, 3, none⟩ = some (.int .u32 c.flags) ∧ W.cell? ⟨w.heap.size, 4, none⟩ = some (.int .i64 c.exp)))
  clear k1 k2 k3 k4
  go_cut [10] (fun s10 wx => ∃ q, s10 = .pointer (some ⟨q, 0, none⟩) ∧ wx.heap[q]? = some (.cells #[.string c.key, .string c.value, .int .u32 c.flags, .int .u64 (nx : Int), .int .i64 dd, .int .i64 gg] 38 (0, 0)) ∧ Below W0.heap.size W0 wx ∧ W0.heap.size ≤ q)
  case first =>
    refine wp_region_held_drew (S := fun W => Below W0.heap.size W0 W) (by kernel_rfl) (bdrew (Below.refl _ _)) (fun hHeld => ?_)
    refine tkq (i := 0) (v := ?_) rfl (by kernel_rfl) (fun _ _ _ h => h) (by rfl) ?_ (by assumption) ?_
    rotate_left 1
    · ((intro w hSw; (try dsimp only at hSw); go_simp) <;> with_reducible rfl)
    try simp only [Act.put, tzA, tzB, tzC, tzD, tzE]
    refine tkq (i := 1) (v := ?_) rfl (by kernel_rfl) (fun _ _ _ h => h) (by rfl) ?_ (by assumption) ?_
    rotate_left 1
    · ((intro w hSw; (try dsimp only at hSw); obtain ⟨k1, k2, k3, k4⟩ := HCK.out _ hSw; go_simp) <;> with_reducible rfl)
    try simp only [Act.put, tzA, tzB, tzC, tzD, tzE, tzF]
    refine tkq (i := 2) (v := ?_) rfl (by kernel_rfl) (fun _ _ _ h => h) (by rfl) ?_ (by assumption) ?_
    rotate_left 1
    · ((intro w hSw; (try dsimp only at hSw); go_simp) <;> with_reducible rfl)
    try simp only [Act.put, tzA, tzB, tzC, tzD, tzE, tzF]
    refine tkq (i := 3) (v := ?_) rfl (by kernel_rfl) (fun _ _ _ h => h) (by rfl) ?_ (by assumption) ?_
    rotate_left 1
    · ((intro w hSw; (try dsimp only at hSw); obtain ⟨k1, k2, k3, k4⟩ := HCK.out _ hSw; go_simp) <;> with_reducible rfl)
    try simp only [Act.put, tzA, tzB, tzC, tzD, tzE, tzF]
    refine tkq (i := 4) (v := ?_) rfl (by kernel_rfl) (fun _ _ _ h => h) (by rfl) ?_ (by assumption) ?_
    rotate_left 1
    · ((intro w hSw; (try dsimp only at hSw); go_simp) <;> with_reducible rfl)
    try simp only [Act.put, tzA, tzB, tzC, tzD, tzE, tzF]
    refine tkq (i := 5) (v := ?_) rfl (by kernel_rfl) (fun _ _ _ h => h) (by rfl) ?_ (by assumption) ?_
    rotate_left 1
    · ((intro w hSw; (try dsimp only at hSw); obtain ⟨k1, k2, k3, k4⟩ := HCK.out _ hSw; go_simp) <;> with_reducible rfl)
    try simp only [Act.put, tzA, tzB, tzC, tzD, tzE, tzF]
    refine tkq (i := 6) (v := ?_) rfl (by kernel_rfl) (fun _ _ _ h => h) (by rfl) ?_ (by assumption) ?_
    rotate_left 1
    · ((intro w hSw; (try dsimp only at hSw); go_simp) <;> with_reducible rfl)
    try simp only [Act.put, tzA, tzB, tzC, tzD, tzE, tzF]
    refine tkq (i := 7) (v := ?_) rfl (by kernel_rfl) (fun _ _ _ h => h) (by rfl) ?_ (by assumption) ?_
    rotate_left 1
    · ((intro w hSw; (try dsimp only at hSw); go_simp) <;> with_reducible rfl)
    try simp only [Act.put, tzA, tzB, tzC, tzD, tzE, tzF]
    refine tkq (i := 8) (v := ?_) rfl (by kernel_rfl) (fun _ _ _ h => h) (by rfl) ?_ (by assumption) ?_
    rotate_left 1
    · ((intro w hSw; (try dsimp only at hSw); go_simp) <;> with_reducible rfl)
    try simp only [Act.put, tzA, tzB, tzC, tzD, tzE, tzF]
    refine tkq (i := 9) (v := ?_) rfl (by kernel_rfl) (fun _ _ _ h => h) (by rfl) ?_ (by assumption) ?_
    rotate_left 1
    · ((intro w hSw; (try dsimp only at hSw); obtain ⟨k1, k2, k3, k4⟩ := HCK.out _ hSw; go_simp) <;> with_reducible rfl)
    try simp only [Act.put, tzA, tzB, tzC, tzD, tzE, tzF]
    refine tkq (i := 11) (v := ?_) rfl (by kernel_rfl) (fun _ _ _ h => h) (by rfl) ?_ (by assumption) ?_
    rotate_left 1
    · ((intro w hSw; (try dsimp only at hSw); go_simp) <;> with_reducible rfl)
    try simp only [Act.put, tzA, tzB, tzC, tzD, tzE, tzF]
    refine wpAnyH_ready (rs := [10, 14]) (by kernel_rfl) (by simp) ?_
    refine (AllReadyH.cons rfl (fun K hK => ?_) (AllReadyH.cons rfl (fun K hK => ?_) AllReadyH.nil))
    · skip
      go_simp
      go_at_call 90
      refine (HDI.out _).mono ?_
      rintro e _ ⟨rfl, rfl⟩
      refine hK.out _ _ (by assumption) (fun hHeld2 => ?_)
      clear hK K
      try simp only [Act.put, tzA, tzB, tzC, tzD, tzE, tzF]
      refine wpAnyH_ready (rs := [12, 14]) (by kernel_rfl) (by simp) ?_
      refine (AllReadyH.cons rfl (fun K hK => ?_) (AllReadyH.cons rfl (fun K hK => ?_) AllReadyH.nil))
      · skip
        go_simp
        go_at_call 86
        refine (HGE.out _).mono ?_
        rintro e _ ⟨rfl, rfl⟩
        refine hK.out _ _ (by assumption) (fun hHeld2 => ?_)
        clear hK K
        try simp only [Act.put, tzA, tzB, tzC, tzD, tzE, tzF]
        refine tkq (i := 13) (v := ?_) rfl (by kernel_rfl) (fun _ _ _ h => h) (by rfl) ?_ (by assumption) ?_
        rotate_left 1
        · ((intro w hSw; (try dsimp only at hSw); go_simp) <;> with_reducible rfl)
        try simp only [Act.put, tzA, tzB, tzC, tzD, tzE, tzF]
        refine wpAnyH_ready (rs := [14]) (by kernel_rfl) (by simp) ?_
        refine (AllReadyH.cons rfl (fun K hK => ?_) AllReadyH.nil)
        go_simp
        refine hK.out _ _ (show Below W0.heap.size W0 (World.drew (W0.alloc (.cells itemZero 38))) from bdrew ((Below.refl _ _).alloc (Nat.le_refl _) _)) (fun hHeld2 => ?_)
        clear hK K
        try simp only [Act.put, tzA, tzB, tzC, tzD, tzE, tzF]
        have HZ := Lib.hid (show (World.drew (W0.alloc (.cells itemZero 38))).heap[W0.heap.size]? = some (.cells itemZero 38 (0, 0)) from heap_alloc_new _ _)
        refine wpAnyH_ready (rs := [15]) (by kernel_rfl) (by simp) ?_
        refine (AllReadyH.cons rfl (fun K hK => ?_) AllReadyH.nil)
        rw [if_pos (by rfl)]
        refine wp_store_mid 38 (.tmp 10) (.tmp 29) (by rfl) W0.heap.size 0 #[.string c.key, .string c.value, .int .u32 c.flags, .int .u64 (nx : Int), .int .i64 dd, .int .i64 gg] (by rfl) (by rfl) (by have h := there_block HZ.out; exact h) (by kernel_rfl) (by simp [Value.oneCell']) ?_
        have HQ := Lib.hid (setCells_whole (cells := #[.string c.key, .string c.value, .int .u32 c.flags, .int .u64 (nx : Int), .int .i64 dd, .int .i64 gg]) HZ.out (by rfl))
        have HB := Lib.hid (below_grown (B := W0.heap.size) (show Below W0.heap.size W0 (World.drew (W0.alloc (.cells itemZero 38))) from bdrew ((Below.refl _ _).alloc (Nat.le_refl _) _)) (by show W0.heap.size ≤ (W0.alloc _).heap.size; rw [size_at]; omega) (setCells_grown #[.string c.key, .string c.value, .int .u32 c.flags, .int .u64 (nx : Int), .int .i64 dd, .int .i64 gg].toList 0 (World.drew (W0.alloc (.cells itemZero 38))) W0.heap.size).1 (Nat.le_refl _))
        refine hK.out _ _ HB.out (fun hHeld2 => ?_)
        clear hK K HZ
        try simp only [Act.put, tzD, tzE, tzF]
        refine wpAnyH_done (by kernel_rfl) ?_ _
        go_wp2_with fail
        go_meet
        case rel => exact ⟨_, rfl, HQ.out, HB.out, Nat.le_refl _⟩
      · skip
        go_simp
        refine hK.out _ _ (show Below W0.heap.size W0 (World.drew (W0.alloc (.cells itemZero 38))) from bdrew ((Below.refl _ _).alloc (Nat.le_refl _) _)) (fun hHeld2 => ?_)
        clear hK K
        try simp only [Act.put, tzA, tzB, tzC, tzD, tzE, tzF]
        refine wpAnyH_ready (rs := [12]) (by kernel_rfl) (by simp) ?_
        refine (AllReadyH.cons rfl (fun K hK => ?_) AllReadyH.nil)
        go_simp
        go_at_call 86
        refine (HGE.out _).mono ?_
        rintro e _ ⟨rfl, rfl⟩
        refine hK.out _ _ (by assumption) (fun hHeld2 => ?_)
        clear hK K
        try simp only [Act.put, tzA, tzB, tzC, tzD, tzE, tzF]
        refine tkq (i := 13) (v := ?_) rfl (by kernel_rfl) (fun _ _ _ h => h) (by rfl) ?_ (by assumption) ?_
        rotate_left 1
        · ((intro w hSw; (try dsimp only at hSw); go_simp) <;> with_reducible rfl)
        try simp only [Act.put, tzA, tzB, tzC, tzD, tzE, tzF]
        have HZ := Lib.hid (show (World.drew (W0.alloc (.cells itemZero 38))).heap[W0.heap.size]? = some (.cells itemZero 38 (0, 0)) from heap_alloc_new _ _)
        refine wpAnyH_ready (rs := [15]) (by kernel_rfl) (by simp) ?_
        refine (AllReadyH.cons rfl (fun K hK => ?_) AllReadyH.nil)
        rw [if_pos (by rfl)]
        refine wp_store_mid 38 (.tmp 10) (.tmp 29) (by rfl) W0.heap.size 0 #[.string c.key, .string c.value, .int .u32 c.flags, .int .u64 (nx : Int), .int .i64 dd, .int .i64 gg] (by rfl) (by rfl) (by have h := there_block HZ.out; exact h) (by kernel_rfl) (by simp [Value.oneCell']) ?_
        have HQ := Lib.hid (setCells_whole (cells := #[.string c.key, .string c.value, .int .u32 c.flags, .int .u64 (nx : Int), .int .i64 dd, .int .i64 gg]) HZ.out (by rfl))
        have HB := Lib.hid (below_grown (B := W0.heap.size) (show Below W0.heap.size W0 (World.drew (W0.alloc (.cells itemZero 38))) from bdrew ((Below.refl _ _).alloc (Nat.le_refl _) _)) (by show W0.heap.size ≤ (W0.alloc _).heap.size; rw [size_at]; omega) (setCells_grown #[.string c.key, .string c.value, .int .u32 c.flags, .int .u64 (nx : Int), .int .i64 dd, .int .i64 gg].toList 0 (World.drew (W0.alloc (.cells itemZero 38))) W0.heap.size).1 (Nat.le_refl _))
        refine hK.out _ _ HB.out (fun hHeld2 => ?_)
        clear hK K HZ
        try simp only [Act.put, tzD, tzE, tzF]
        refine wpAnyH_done (by kernel_rfl) ?_ _
        go_wp2_with fail
        go_meet
        case rel => exact ⟨_, rfl, HQ.out, HB.out, Nat.le_refl _⟩
    · skip
      go_simp
      refine hK.out _ _ (show Below W0.heap.size W0 (World.drew (W0.alloc (.cells itemZero 38))) from bdrew ((Below.refl _ _).alloc (Nat.le_refl _) _)) (fun hHeld2 => ?_)
      clear hK K
      try simp only [Act.put, tzA, tzB, tzC, tzD, tzE, tzF]
      refine wpAnyH_ready (rs := [10]) (by kernel_rfl) (by simp) ?_
      refine (AllReadyH.cons rfl (fun K hK => ?_) AllReadyH.nil)
      go_simp
      go_at_call 90
      refine (HDI.out _).mono ?_
      rintro e _ ⟨rfl, rfl⟩
      refine hK.out _ _ (by assumption) (fun hHeld2 => ?_)
      clear hK K
      try simp only [Act.put, tzA, tzB, tzC, tzD, tzE, tzF]
      refine wpAnyH_ready (rs := [12]) (by kernel_rfl) (by simp) ?_
      refine (AllReadyH.cons rfl (fun K hK => ?_) AllReadyH.nil)
      go_simp
      go_at_call 86
      refine (HGE.out _).mono ?_
      rintro e _ ⟨rfl, rfl⟩
      refine hK.out _ _ (by assumption) (fun hHeld2 => ?_)
      clear hK K
      try simp only [Act.put, tzA, tzB, tzC, tzD, tzE, tzF]
      refine tkq (i := 13) (v := ?_) rfl (by kernel_rfl) (fun _ _ _ h => h) (by rfl) ?_ (by assumption) ?_
      rotate_left 1
      · ((intro w hSw; (try dsimp only at hSw); go_simp) <;> with_reducible rfl)
      try simp only [Act.put, tzA, tzB, tzC, tzD, tzE, tzF]
      have HZ := Lib.hid (show (World.drew (W0.alloc (.cells itemZero 38))).heap[W0.heap.size]? = some (.cells itemZero 38 (0, 0)) from heap_alloc_new _ _)
      refine wpAnyH_ready (rs := [15]) (by kernel_rfl) (by simp) ?_
      refine (AllReadyH.cons rfl (fun K hK => ?_) AllReadyH.nil)
      rw [if_pos (by rfl)]
      refine wp_store_mid 38 (.tmp 10) (.tmp 29) (by rfl) W0.heap.size 0 #[.string c.key, .string c.value, .int .u32 c.flags, .int .u64 (nx : Int), .int .i64 dd, .int .i64 gg] (by rfl) (by rfl) (by have h := there_block HZ.out; exact h) (by kernel_rfl) (by simp [Value.oneCell']) ?_
      have HQ := Lib.hid (setCells_whole (cells := #[.string c.key, .string c.value, .int .u32 c.flags, .int .u64 (nx : Int), .int .i64 dd, .int .i64 gg]) HZ.out (by rfl))
      have HB := Lib.hid (below_grown (B := W0.heap.size) (show Below W0.heap.size W0 (World.drew (W0.alloc (.cells itemZero 38))) from bdrew ((Below.refl _ _).alloc (Nat.le_refl _) _)) (by show W0.heap.size ≤ (W0.alloc _).heap.size; rw [size_at]; omega) (setCells_grown #[.string c.key, .string c.value, .int .u32 c.flags, .int .u64 (nx : Int), .int .i64 dd, .int .i64 gg].toList 0 (World.drew (W0.alloc (.cells itemZero 38))) W0.heap.size).1 (Nat.le_refl _))
      refine hK.out _ _ HB.out (fun hHeld2 => ?_)
      clear hK K HZ
      try simp only [Act.put, tzD, tzE, tzF]
      refine wpAnyH_done (by kernel_rfl) ?_ _
      go_wp2_with fail
      go_meet
      case rel => exact ⟨_, rfl, HQ.out, HB.out, Nat.le_refl _⟩
  case rest =>
    obtain ⟨q, rfl, hbx, hb, hq⟩ := hcut
    obtain ⟨W1, rfl⟩ : ∃ X, X = wc := ⟨_, rfl⟩
    have hbw : Below w.heap.size w W1 := HB0.out.trans (hb.mono HB0.out.size)
    have hlt0 : w.heap.size + 1 < W0.heap.size := (Array.getElem?_eq_some_iff.1 HR0.out).1
    have hlt : w.heap.size + 1 < W1.heap.size := Nat.lt_of_lt_of_le hlt0 hb.size
    have HRR := Lib.hid (fun (W : World) (hW : Below W1.heap.size W1 W) => (hW.block (w.heap.size + 1) hlt).trans ((hb.block _ hlt0).trans HR0.out))
    have HCK2 := Lib.hid (fun (W : World) (hW : Below W1.heap.size W1 W) => (hW.cell (p := ⟨w.heap.size, 1, none⟩) (by show w.heap.size < _; omega)).trans (HCK.out W1 hb).1)
    have HCQ := Lib.hid (fun (W : World) (hW : Below W1.heap.size W1 W) => (hW.block q (Array.getElem?_eq_some_iff.1 hbx).1).trans hbx)
    have HBW := Lib.hid hbw
    have HLT := Lib.hid hlt
    have hlw : (withoutL m.L c.key).length ≤ 1000000 := Nat.le_trans (without_len _ _) HF.out
    have HLW := Lib.hid hlw
    clear hlw hbx hb hbw hlt hlt0 HX0 HCK qb
    obtain ⟨i0, hi0, hz0, hz1, hz2⟩ := info_parts infoItem
    have Hi := Lib.hid hi0
    have Hz := Lib.hid (And.intro hz0 (And.intro hz1 hz2))
    clear hi0 hz0 hz1 hz2
    have qa : ∀ W : World, (Instr.build 40 #[(0, .int .u8 1), (1, .int .u64 (nx : Int))]).run Tryz.prog W = .ok (.agg #[.int .u8 1, .int .u64 (nx : Int), .string ⟨#[]⟩, .string ⟨#[]⟩, .int .u32 0, .int .u64 0, .int .i64 0, .int .i64 0]) W := fun W => by kernel_rfl
    have qm : ∀ (a : Option Addr) (n k : Nat) (W : World), (Instr.build 31 #[(0, .slice a n k), (1, .int .u64 (ep : Int)), (2, .int .u64 (nx : Int))]).run Tryz.prog W = .ok (.agg #[.slice a n k, .int .u64 (ep : Int), .int .u64 (nx : Int)]) W := fun a n k W => by kernel_rfl
    have qg : ∀ (a : Option Addr) (n k : Nat) (W : World), (Instr.build 88 #[(0, .agg #[.int .u8 1, .int .u64 (nx : Int), .string ⟨#[]⟩, .string ⟨#[]⟩, .int .u32 0, .int .u64 0, .int .i64 0, .int .i64 0]), (1, .agg #[.slice a n k, .int .u64 (ep : Int), .int .u64 (nx : Int)]), (2, .bool (!has))]).run Tryz.prog W = .ok (.agg #[.int .u8 1, .int .u64 (nx : Int), .string ⟨#[]⟩, .string ⟨#[]⟩, .int .u32 0, .int .u64 0, .int .i64 0, .int .i64 0, .slice a n k, .int .u64 (ep : Int), .int .u64 (nx : Int), .bool (!has)]) W := fun a n k W => by kernel_rfl
    have HS1 := Lib.hid (show StS w q c.key #[.string c.key, .string c.value, .int .u32 c.flags, .int .u64 (nx : Int), .int .i64 dd, .int .i64 gg] W1 from ⟨HCK2.out W1 (Below.refl _ _), HCQ.out W1 (Below.refl _ _), HBW.out⟩)
    have HQN := Lib.hid (show q ≠ w.heap.size + 1 from by have := (Array.getElem?_eq_some_iff.1 HR0.out).1; omega)
    clear hq HR0 HCK2 HCQ HB0
    go_upto_region 3 with fail
    refine wp_region_held_drew (S := StS w q c.key #[.string c.key, .string c.value, .int .u32 c.flags, .int .u64 (nx : Int), .int .i64 dd, .int .i64 gg]) (by kernel_rfl) (HS1.out.below (bdrew (Below.refl _ _))) (fun hHeld => ?_)
    refine tkq (i := 0) (v := ?_) rfl (by kernel_rfl) (fun _ _ _ h => h) (by rfl) ?_ (by assumption) ?_
    rotate_left 1
    · ((intro w hSw; (try dsimp only at hSw); go_simp) <;> with_reducible rfl)
    try simp only [Act.put, tzA, tzB, tzC, tzD, tzE]
    refine tkq (i := 1) (v := ?_) rfl (by kernel_rfl) (fun _ _ _ h => h) (by rfl) ?_ (by assumption) ?_
    rotate_left 1
    · ((intro w hSw; (try dsimp only at hSw); go_simp) <;> with_reducible rfl)
    try simp only [Act.put, tzA, tzB, tzC, tzD, tzE, tzF]
    refine tkq (i := 2) (v := ?_) rfl (by kernel_rfl) (fun _ _ _ h => h) (by rfl) ?_ (by assumption) ?_
    rotate_left 1
    · ((intro w hSw; (try dsimp only at hSw); go_simp) <;> with_reducible rfl)
    try simp only [Act.put, tzA, tzB, tzC, tzD, tzE, tzF]
    refine tkq (i := 3) (v := ?_) rfl (by kernel_rfl) (fun _ _ _ h => h) (by rfl) ?_ (by assumption) ?_
    rotate_left 1
    · ((intro w hSw; (try dsimp only at hSw); go_simp) <;> with_reducible rfl)
    try simp only [Act.put, tzA, tzB, tzC, tzD, tzE, tzF]
    refine tkq (i := 4) (v := ?_) rfl (by kernel_rfl) (fun _ _ _ h => h) (by rfl) ?_ (by assumption) ?_
    rotate_left 1
    · ((intro w hSw; (try dsimp only at hSw); have k1 := hSw.key; go_simp) <;> with_reducible rfl)
    try simp only [Act.put, tzA, tzB, tzC, tzD, tzE, tzF]
    refine tkq (i := 6) (v := ?_) rfl (by kernel_rfl) (fun _ _ _ h => h) (by rfl) ?_ (by assumption) ?_
    rotate_left 1
    · ((intro w hSw; (try dsimp only at hSw); have hq := hSw.item; have x0 : w.cell? ⟨q, 0, none⟩ = some (.string c.key) := (cells_at hq 0).1; have x1 : w.cell? ⟨q, 1, none⟩ = some (.string c.value) := (cells_at hq 1).1; have x2 : w.cell? ⟨q, 2, none⟩ = some (.int .u32 c.flags) := (cells_at hq 2).1; have x3 : w.cell? ⟨q, 3, none⟩ = some (.int .u64 (nx : Int)) := (cells_at hq 3).1; have x4 : w.cell? ⟨q, 4, none⟩ = some (.int .i64 dd) := (cells_at hq 4).1; have x5 : w.cell? ⟨q, 5, none⟩ = some (.int .i64 gg) := (cells_at hq 5).1; go_simp) <;> with_reducible rfl)
    try simp only [Act.put, tzA, tzB, tzC, tzD, tzE, tzF]
    refine tkq (i := 9) (v := ?_) rfl (by kernel_rfl) (fun _ _ _ h => h) (by rfl) ?_ (by assumption) ?_
    rotate_left 1
    · ((intro w hSw; (try dsimp only at hSw); go_simp) <;> with_reducible rfl)
    try simp only [Act.put, tzA, tzB, tzC, tzD, tzE, tzF]
    refine tkq (i := 10) (v := ?_) rfl (by kernel_rfl) (fun _ _ _ h => h) (by rfl) ?_ (by assumption) ?_
    rotate_left 1
    · ((intro w hSw; (try dsimp only at hSw); go_simp) <;> with_reducible rfl)
    try simp only [Act.put, tzA, tzB, tzC, tzD, tzE, tzF]
    refine tkq (i := 12) (v := ?_) rfl (by kernel_rfl) (fun _ _ _ h => h) (by rfl) ?_ (by assumption) ?_
    rotate_left 1
    · ((intro w hSw; (try dsimp only at hSw); go_simp) <;> with_reducible rfl)
    try simp only [Act.put, tzA, tzB, tzC, tzD, tzE, tzF]
    refine tkq (i := 13) (v := ?_) rfl (by kernel_rfl) (fun _ _ _ h => h) (by rfl) ?_ (by assumption) ?_
    rotate_left 1
    · ((intro w hSw; (try dsimp only at hSw); go_simp) <;> with_reducible rfl)
    try simp only [Act.put, tzA, tzB, tzC, tzD, tzE, tzF]
    refine wpAnyH_ready (rs := [5, 7]) (by kernel_rfl) (by simp) ?_
    refine (AllReadyH.cons rfl (fun K hK => ?_) (AllReadyH.cons rfl (fun K hK => ?_) AllReadyH.nil))
    · skip
      go_simp
      go_at_call 37
      refine (rWithout_any (k := c.key) (HM.out _ (HBW.out.trans ((bdrew (Below.refl W1.heap.size W1)).mono HBW.out.size))) (Nat.le_trans HF.out (by omega))).mono ?_
      rintro e V ⟨v', rfl, hj⟩
      have hj1 := hj.base (bdrew (Below.refl W1.heap.size W1))
      obtain ⟨a1, c1, rfl⟩ := Row.len hj1.irow
      have HJ0 := Lib.hid hj1
      clear hj hj1
      refine hK.out _ _ (HS1.out.below HJ0.out.low) (fun hHeld2 => ?_)
      clear hK K
      try simp only [Act.put, tzA, tzB, tzC, tzD, tzE, tzF]
      refine wpAnyH_ready (rs := [7]) (by kernel_rfl) (by simp) ?_
      refine (AllReadyH.cons rfl (fun K hK => ?_) AllReadyH.nil)
      go_simp
      have HJ := Lib.hid (HJ0.out.below ((Below.refl _ _).alloc (Nat.le_refl _) (.cells #[.string c.key, .string c.value, .int .u32 c.flags, .int .u64 (nx : Int), .int .i64 dd, .int .i64 gg] 38)))
      have HBK := Lib.hid (show (V.alloc (.cells #[.string c.key, .string c.value, .int .u32 c.flags, .int .u64 (nx : Int), .int .i64 dd, .int .i64 gg] 38)).heap[V.heap.size]? = some (.cells #[.string c.key, .string c.value, .int .u32 c.flags, .int .u64 (nx : Int), .int .i64 dd, .int .i64 gg] 38 (0, 0)) from by rw [heap_at, if_pos rfl])
      clear HJ0
      refine hK.out _ _ (HS1.out.below HJ.out.low) (fun hHeld2 => ?_)
      clear hK K
      try simp only [Act.put, tzA, tzB, tzC, tzD, tzE, tzF]
      obtain ⟨blk, hblk⟩ : ∃ b, b = V.heap.size := ⟨_, rfl⟩
      rw [← hblk] at HBK ⊢
      clear hblk
      refine wpAnyH_ready (rs := [8]) (by kernel_rfl) (by simp) ?_
      refine (AllReadyH.cons rfl (fun K hK => ?_) AllReadyH.nil)
      rw [if_pos (by rfl)]
      refine wp_append_own _ (.tmp 35) (.tmp 37) 28 (by rfl) W1.heap.size 38 i0 (.agg itemZero) 6 64 Tryz.underlying28 Hi.out Hz.out.1 Hz.out.2.1 Hz.out.2.2 rfl (by omega) _ _ _ (by rfl) HJ.out.row ⟨blk, 0, none⟩ 1 1 (itemCells ⟨c.key, c.value, c.flags, (nx : Int), dd, gg⟩) (by rfl) rfl (World.news_of_block (cs := (itemCells ⟨c.key, c.value, c.flags, (nx : Int), dd, gg⟩).toArray) HBK.out) (by simp [Value.oneCell']) (by have := HLW.out; unfold maxLen; omega) (by have := HLW.out; omega) HJ.out.low.size ?_
      intro v2 w2 hown2 hg2 _
      have hj2 := HJ.out.push (x := ⟨c.key, c.value, c.flags, (nx : Int), dd, gg⟩) hown2 hg2
      obtain ⟨a2, c2, hv2⟩ := Row.len hj2.irow
      obtain ⟨n2, hn2⟩ : ∃ k, k = (withoutL m.L c.key ++ ([⟨c.key, c.value, c.flags, (nx : Int), dd, gg⟩] : List ItemD)).length := ⟨_, rfl⟩
      rw [← hn2] at hv2
      subst hv2
      have HJ2 := Lib.hid hj2
      clear hown2 hg2 hj2 hn2
      refine hK.out _ _ (HS1.out.below HJ2.out.low) (fun hHeld2 => ?_)
      clear hK K
      try simp only [Act.put, tzA, tzB, tzC, tzD, tzE, tzF]
      refine tkq (i := 11) (v := ?_) rfl (by kernel_rfl) (fun _ _ _ h => h) (by rfl) ?_ (by assumption) ?_
      rotate_left 1
      · ((intro w hSw; (try dsimp only at hSw); go_simp) <;> with_reducible rfl)
      try simp only [Act.put, tzA, tzB, tzC, tzD, tzE, tzF]
      refine tkq (i := 14) (v := ?_) rfl (by kernel_rfl) (fun _ _ _ h => h) (by rfl) ?_ (by assumption) ?_
      rotate_left 1
      · ((intro w hSw; (try dsimp only at hSw); go_simp) <;> with_reducible rfl)
      try simp only [Act.put, tzA, tzB, tzC, tzD, tzE, tzF]
      refine wpAnyH_ready (rs := [15]) (by kernel_rfl) (by simp) ?_
      refine (AllReadyH.cons rfl (fun K hK => ?_) AllReadyH.nil)
      rw [if_pos (by rfl)]
      refine wp_store_mid 88 (.tmp 8) (.tmp 44) (by rfl) (w.heap.size + 1) 0 #[.int .u8 1, .int .u64 (nx : Int), .string ⟨#[]⟩, .string ⟨#[]⟩, .int .u32 0, .int .u64 0, .int .i64 0, .int .i64 0, .slice a2 n2 c2, .int .u64 (ep : Int), .int .u64 (nx : Int), .bool (!has)] (by rfl) (by rfl) (by have h := there_block (HRR.out _ HJ2.out.low); exact h) (by kernel_rfl) (by simp [Value.oneCell']) ?_
      have HQ := Lib.hid (setCells_whole (cells := #[.int .u8 1, .int .u64 (nx : Int), .string ⟨#[]⟩, .string ⟨#[]⟩, .int .u32 0, .int .u64 0, .int .i64 0, .int .i64 0, .slice a2 n2 c2, .int .u64 (ep : Int), .int .u64 (nx : Int), .bool (!has)]) (HRR.out _ HJ2.out.low) (by rfl))
      have hgr := (setCells_grown #[.int .u8 1, .int .u64 (nx : Int), .string ⟨#[]⟩, .string ⟨#[]⟩, .int .u32 0, .int .u64 0, .int .i64 0, .int .i64 0, .slice a2 n2 c2, .int .u64 (ep : Int), .int .u64 (nx : Int), .bool (!has)].toList 0 w2 (w.heap.size + 1)).1
      have HFJ := Lib.hid (HJ2.out.fin HBW.out hgr (Nat.le_succ _) HLT.out)
      have HS3 := Lib.hid ((HS1.out.below HJ2.out.low).store hgr HQN.out)
      clear hgr
      refine hK.out _ _ HS3.out (fun hHeld2 => ?_)
      clear hK K
      try simp only [Act.put, tzD, tzE, tzF]
      refine wpAnyH_done (by kernel_rfl) ?_ _
      clear hHeld2
      go_wp2_with (first | ((with_reducible show bodyPost _ _ _ Exit.ret _ _); exact bodyPost_ret (v := .agg #[.int .u8 1, .int .u64 (nx : Int), .string ⟨#[]⟩, .string ⟨#[]⟩, .int .u32 0, .int .u64 0, .int .i64 0, .int .i64 0, .slice a2 n2 c2, .int .u64 (ep : Int), .int .u64 (nx : Int), .bool (!has)]) (results_row_one rfl _ _ (w.heap.size + 1) _ _ _ _ (by rfl) HQ.out Tryz.underlying88 rfl (by kernel_rfl)) rfl ⟨_, rfl, HFJ.out⟩) | fail)
    · skip
      go_simp
      refine hK.out _ _ (HS1.out.below (show Below W1.heap.size W1 (World.drew (W1.alloc (.cells #[.string c.key, .string c.value, .int .u32 c.flags, .int .u64 (nx : Int), .int .i64 dd, .int .i64 gg] 38))) from bdrew ((Below.refl _ _).alloc (Nat.le_refl _) _))) (fun hHeld2 => ?_)
      clear hK K
      try simp only [Act.put, tzA, tzB, tzC, tzD, tzE, tzF]
      refine wpAnyH_ready (rs := [5]) (by kernel_rfl) (by simp) ?_
      refine (AllReadyH.cons rfl (fun K hK => ?_) AllReadyH.nil)
      go_simp
      go_at_call 37
      refine (rWithout_any (k := c.key) (HM.out _ (HBW.out.trans ((show Below W1.heap.size W1 (World.drew (W1.alloc (.cells #[.string c.key, .string c.value, .int .u32 c.flags, .int .u64 (nx : Int), .int .i64 dd, .int .i64 gg] 38))) from bdrew ((Below.refl _ _).alloc (Nat.le_refl _) _)).mono HBW.out.size))) (Nat.le_trans HF.out (by omega))).mono ?_
      rintro e V ⟨v', rfl, hj⟩
      have hj1 := hj.base (show Below W1.heap.size W1 (World.drew (W1.alloc (.cells #[.string c.key, .string c.value, .int .u32 c.flags, .int .u64 (nx : Int), .int .i64 dd, .int .i64 gg] 38))) from bdrew ((Below.refl _ _).alloc (Nat.le_refl _) _))
      obtain ⟨a1, c1, rfl⟩ := Row.len hj1.irow
      have HJ := Lib.hid hj1
      have HBK := Lib.hid ((hj.low.block W1.heap.size (by show W1.heap.size < (W1.alloc _).heap.size; rw [size_at]; omega)).trans (show (W1.alloc (.cells #[.string c.key, .string c.value, .int .u32 c.flags, .int .u64 (nx : Int), .int .i64 dd, .int .i64 gg] 38)).heap[W1.heap.size]? = some (.cells #[.string c.key, .string c.value, .int .u32 c.flags, .int .u64 (nx : Int), .int .i64 dd, .int .i64 gg] 38 (0, 0)) from by rw [heap_at, if_pos rfl]))
      clear hj hj1
      refine hK.out _ _ (HS1.out.below HJ.out.low) (fun hHeld2 => ?_)
      clear hK K
      try simp only [Act.put, tzA, tzB, tzC, tzD, tzE, tzF]
      obtain ⟨blk, hblk⟩ : ∃ b, b = W1.heap.size := ⟨_, rfl⟩
      rw [← hblk] at HBK ⊢
      clear hblk
      refine wpAnyH_ready (rs := [8]) (by kernel_rfl) (by simp) ?_
      refine (AllReadyH.cons rfl (fun K hK => ?_) AllReadyH.nil)
      rw [if_pos (by rfl)]
      refine wp_append_own _ (.tmp 35) (.tmp 37) 28 (by rfl) W1.heap.size 38 i0 (.agg itemZero) 6 64 Tryz.underlying28 Hi.out Hz.out.1 Hz.out.2.1 Hz.out.2.2 rfl (by omega) _ _ _ (by rfl) HJ.out.row ⟨blk, 0, none⟩ 1 1 (itemCells ⟨c.key, c.value, c.flags, (nx : Int), dd, gg⟩) (by rfl) rfl (World.news_of_block (cs := (itemCells ⟨c.key, c.value, c.flags, (nx : Int), dd, gg⟩).toArray) HBK.out) (by simp [Value.oneCell']) (by have := HLW.out; unfold maxLen; omega) (by have := HLW.out; omega) HJ.out.low.size ?_
      intro v2 w2 hown2 hg2 _
      have hj2 := HJ.out.push (x := ⟨c.key, c.value, c.flags, (nx : Int), dd, gg⟩) hown2 hg2
      obtain ⟨a2, c2, hv2⟩ := Row.len hj2.irow
      obtain ⟨n2, hn2⟩ : ∃ k, k = (withoutL m.L c.key ++ ([⟨c.key, c.value, c.flags, (nx : Int), dd, gg⟩] : List ItemD)).length := ⟨_, rfl⟩
      rw [← hn2] at hv2
      subst hv2
      have HJ2 := Lib.hid hj2
      clear hown2 hg2 hj2 hn2
      refine hK.out _ _ (HS1.out.below HJ2.out.low) (fun hHeld2 => ?_)
      clear hK K
      try simp only [Act.put, tzA, tzB, tzC, tzD, tzE, tzF]
      refine tkq (i := 11) (v := ?_) rfl (by kernel_rfl) (fun _ _ _ h => h) (by rfl) ?_ (by assumption) ?_
      rotate_left 1
      · ((intro w hSw; (try dsimp only at hSw); go_simp) <;> with_reducible rfl)
      try simp only [Act.put, tzA, tzB, tzC, tzD, tzE, tzF]
      refine tkq (i := 14) (v := ?_) rfl (by kernel_rfl) (fun _ _ _ h => h) (by rfl) ?_ (by assumption) ?_
      rotate_left 1
      · ((intro w hSw; (try dsimp only at hSw); go_simp) <;> with_reducible rfl)
      try simp only [Act.put, tzA, tzB, tzC, tzD, tzE, tzF]
      refine wpAnyH_ready (rs := [15]) (by kernel_rfl) (by simp) ?_
      refine (AllReadyH.cons rfl (fun K hK => ?_) AllReadyH.nil)
      rw [if_pos (by rfl)]
      refine wp_store_mid 88 (.tmp 8) (.tmp 44) (by rfl) (w.heap.size + 1) 0 #[.int .u8 1, .int .u64 (nx : Int), .string ⟨#[]⟩, .string ⟨#[]⟩, .int .u32 0, .int .u64 0, .int .i64 0, .int .i64 0, .slice a2 n2 c2, .int .u64 (ep : Int), .int .u64 (nx : Int), .bool (!has)] (by rfl) (by rfl) (by have h := there_block (HRR.out _ HJ2.out.low); exact h) (by kernel_rfl) (by simp [Value.oneCell']) ?_
      have HQ := Lib.hid (setCells_whole (cells := #[.int .u8 1, .int .u64 (nx : Int), .string ⟨#[]⟩, .string ⟨#[]⟩, .int .u32 0, .int .u64 0, .int .i64 0, .int .i64 0, .slice a2 n2 c2, .int .u64 (ep : Int), .int .u64 (nx : Int), .bool (!has)]) (HRR.out _ HJ2.out.low) (by rfl))
      have hgr := (setCells_grown #[.int .u8 1, .int .u64 (nx : Int), .string ⟨#[]⟩, .string ⟨#[]⟩, .int .u32 0, .int .u64 0, .int .i64 0, .int .i64 0, .slice a2 n2 c2, .int .u64 (ep : Int), .int .u64 (nx : Int), .bool (!has)].toList 0 w2 (w.heap.size + 1)).1
      have HFJ := Lib.hid (HJ2.out.fin HBW.out hgr (Nat.le_succ _) HLT.out)
      have HS3 := Lib.hid ((HS1.out.below HJ2.out.low).store hgr HQN.out)
      clear hgr
      refine hK.out _ _ HS3.out (fun hHeld2 => ?_)
      clear hK K
      try simp only [Act.put, tzD, tzE, tzF]
      refine wpAnyH_done (by kernel_rfl) ?_ _
      clear hHeld2
      go_wp2_with (first | ((with_reducible show bodyPost _ _ _ Exit.ret _ _); exact bodyPost_ret (v := .agg #[.int .u8 1, .int .u64 (nx : Int), .string ⟨#[]⟩, .string ⟨#[]⟩, .int .u32 0, .int .u64 0, .int .i64 0, .int .i64 0, .slice a2 n2 c2, .int .u64 (ep : Int), .int .u64 (nx : Int), .bool (!has)]) (results_row_one rfl _ _ (w.heap.size + 1) _ _ _ _ (by rfl) HQ.out Tryz.underlying88 rfl (by kernel_rfl)) rfl ⟨_, rfl, HFJ.out⟩) | fail)
end Go.Proofs.YtaooangnnlopcaaGreatDoor
