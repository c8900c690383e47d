/- The document's map in memory; its At and without. Condition: the map lies behind its pointer. -/
import Derived.Test.YtaooangnnlopcaaGreatDoorMapsRComes
import Derived.Test.YtaooangnnlopcaaGreatDoorMapsAt
import Derived.Maps.AppendAt
import Derived.Deep.AppendLies
namespace Go.Proofs.YtaooangnnlopcaaGreatDoor
open Go.RowKit Go.ChangeMaps Go.MapKept
abbrev itemCells (x : ItemD) : List Value := [.string x.key, .string x.value, .int .u32 x.flags, .int .u64 x.id, .int .i64 x.dies, .int .i64 x.gen]
def itemsCells (L : List ItemD) : List Value := L.flatMap itemCells
theorem itemsCells_snoc (L : List ItemD) (x : ItemD) : itemsCells (L ++ [x]) = itemsCells L ++ itemCells x := by simp [itemsCells]
theorem itemsCells_cons (x : ItemD) (L : List ItemD) : itemsCells (x :: L) = itemCells x ++ itemsCells L := rfl
theorem itemsCells_len : ∀ L : List ItemD, (itemsCells L).length = L.length * 6
  | [] => rfl
  | x :: L => by rw [itemsCells_cons, List.length_append, itemsCells_len L, show (x :: L).length = L.length + 1 from rfl, show (itemCells x).length = 6 from rfl]; omega
theorem itemsCells_at : ∀ {L : List ItemD} {j : Nat} {x : ItemD} (_ : L[j]? = some x) {i : Nat} (_ : i < 6), (itemsCells L)[j * 6 + i]? = (itemCells x)[i]?
  | y :: L, 0, x, h, i, hi => by
    obtain rfl : y = x := by simpa using h
    rw [itemsCells_cons, Nat.zero_mul, Nat.zero_add, List.getElem?_append_left (by show i < 6; omega)]
  | y :: L, j + 1, x, h, i, hi => by
    rw [itemsCells_cons, List.getElem?_append_right (by show 6 ≤ _; omega), show (j + 1) * 6 + i - (itemCells y).length = j * 6 + i from by show _ - 6 = _; omega]
    exact itemsCells_at (by simpa using h) hi
theorem infoItem : (Tryz.prog.info? 38).map (fun i => (i.zero, i.size, i.bytes)) = some (some (.agg itemZero), 6, 64) := by kernel_rfl
theorem idx_item {a : Option Addr} {g o n c k : Nat} (ha : a = some ⟨g, o, none⟩) (hk : k < n) (W : World) : (Instr.indexAt 28 (.slice a n c) (.int .i64 (k : Int))).run Tryz.prog W = .ok (.pointer (some ⟨g, o + k * 6, none⟩)) W := by
  subst ha
  have h0 : (0 : Int) ≤ (k : Int) := by omega
  have h1 : (k : Int) < (n : Int) := by omega
  have h2 := Tryz.underlying28
  obtain ⟨i0, hi, hz0, hz1, hz2⟩ := info_parts infoItem
  go_simp
/-- A slice of records. -/
def IRow (w : World) (v : Value) (L : List ItemD) : Prop := Row w 38 6 v L.length (itemsCells L)
theorem IRow.nil (w : World) : IRow w (.slice none 0 0) [] := Row.nil w _ _
theorem IRow.at {w : World} {v : Value} {L : List ItemD} (h : IRow w v L) {j : Nat} {x : ItemD} (hj : L[j]? = some x) : ∃ g b, (∀ W : World, (Instr.indexAt 28 v (.int .i64 (j : Int))).run Tryz.prog W = .ok (.pointer (some ⟨g, b, none⟩)) W) ∧ g < w.heap.size ∧ Tag w g 38 ∧ ∀ (i : Nat) (u : Value), (itemCells x)[i]? = some u → w.cell? ⟨g, b + i, none⟩ = some u := by
  have hlt : j < L.length := (List.getElem?_eq_some_iff.1 hj).1
  obtain ⟨g, o, c, rfl, hg, h1, h2, ht, h3⟩ := Row.some h (by
    intro e
    have := itemsCells_len L
    rw [e] at this
    simp at this
    omega)
  refine ⟨g, o + j * 6, fun W => idx_item rfl hlt W, hg, ht, fun i u hu => ?_⟩
  have hi : i < 6 := (List.getElem?_eq_some_iff.1 hu).1
  have := (h3 (j * 6 + i) u (by rw [itemsCells_at hj hi]; exact hu)).1
  rwa [← Nat.add_assoc] at this
/-- The document's map in memory. -/
structure RMap (w : World) (r : Nat) (v : Value) (m : MapM) : Prop where
  box : w.heap[r]? = some (.cells #[v, .int .u64 (m.epoch : Int), .int .u64 (m.ids : Int)] 31 (0, 0))
  row : IRow w v m.L
theorem RMap.kept {M : Nat → Prop} {w w' : World} {r : Nat} {v : Value} {m : MapM} (h : RMap w r v m) (hc : Chg M w w') (hr : ¬ M r) (hM : ∀ g, Tag w g 38 → ¬ M g) : RMap w' r v m :=
  ⟨hc.obj h.box hr, h.row.kept hc (fun g hg => hM g (Row.tag h.row hg))⟩
theorem RMap.below {w w' : World} {r : Nat} {v : Value} {m : MapM} (h : RMap w r v m) (hb : Below w.heap.size w w') : RMap w' r v m :=
  h.kept (M := fun _ => False) (Chg.of_below hb) (fun e => e) (fun _ _ e => e)
theorem RMap.lt {w : World} {r : Nat} {v : Value} {m : MapM} (h : RMap w r v m) : r < w.heap.size := (Array.getElem?_eq_some_iff.1 h.box).1
theorem RMap.slice {w : World} {r : Nat} {v : Value} {m : MapM} (h : RMap w r v m) : ∃ a c, v = .slice a m.L.length c := Row.len h.row
theorem at_take {L : List ItemD} {i : Nat} {x : ItemD} (k : ByteArray) (h : L[i]? = some x) (hn : atL (L.take i) k = none) : (x.key = k → atL L k = some x) ∧ (x.key ≠ k → atL (L.take (i + 1)) k = none) := by
  have hlt : i < L.length := (List.getElem?_eq_some_iff.1 h).1
  constructor
  · intro e
    have h2 : L = L.take i ++ x :: L.drop (i + 1) := by
      have h3 := List.take_append_drop i L
      rw [List.drop_eq_getElem_cons hlt, (List.getElem?_eq_some_iff.1 h).2] at h3
      exact h3.symm
    unfold atL at hn ⊢
    rw [h2, List.find?_append, hn, List.find?_cons_of_pos (by simp [e])]
    rfl
  · intro e
    unfold atL at hn ⊢
    rw [List.take_add_one, h, List.find?_append, hn]
    simp [e]
set_option maxRecDepth 100000 in
set_option maxHeartbeats 4000000 in
theorem rAtM_any {w : World} {r : Nat} {v : Value} {m : MapM} {k : ByteArray} (h : RMap w r v m) : Calls Tryz.prog 11 #[.pointer (some ⟨r, 0, none⟩), .string k] w fun e w' => e = .returned (.tuple #[(wasL m.L k).val, .bool (atL m.L k).isSome]) ∧ Below w.heap.size w w' := by
  obtain ⟨a, c, rfl⟩ := h.slice
  have hmx := Row.max h.row
  unfold maxLen at hmx
  have HM := Lib.hid (fun W (hb : Below w.heap.size w W) => h.below hb)
  clear h
  go_enter Tryz.func11, Tryz.ntmps11
  go_upto_region 2 with fail
  obtain ⟨W0, hW0⟩ : ∃ X, X = w.alloc (.cells itemZero 38) := ⟨_, rfl⟩
  have hb0 : Below w.heap.size w W0 := by rw [hW0]; exact (Below.refl _ _).alloc (Nat.le_refl _) _
  have hr0 : W0.heap[w.heap.size]? = some (.cells itemZero 38 (0, 0)) := by rw [hW0, heap_at, if_pos rfl]
  rw [← hW0]
  have HM0 := Lib.hid (HM.out W0 hb0)
  have HB0 := Lib.hid hb0
  have HR0 := Lib.hid hr0
  have c0 : W0.cell? ⟨r, 0, none⟩ = some (.slice a m.L.length c) := (cells_at HM0.out.box 0).1
  clear hW0 hb0 hr0 HM
  go_loop [6] (fun s6 => ∃ i : Nat, s6 = .int .i64 (i : Int) ∧ i ≤ m.L.length ∧ Hid (atL (m.L.take i) k = none)) (fun s6 => m.L.length - (intOf s6).toNat)
  case atStart => exact ⟨0, rfl, Nat.zero_le _, Lib.hid rfl⟩
  case round =>
    obtain ⟨i, rfl, hi, HN⟩ := hrel
    by_cases hlt : i < m.L.length
    · obtain ⟨x, hx⟩ : ∃ x, m.L[i]? = some x := ⟨_, List.getElem?_eq_getElem hlt⟩
      obtain ⟨g, b, hix, hg, -, hcell⟩ := HM0.out.row.at hx
      have x0 : W0.cell? ⟨g, b, none⟩ = some (.string x.key) := hcell 0 _ rfl
      have hat := at_take k hx HN.out
      by_cases hk : x.key = k
      · have x1 := hcell 1 _ rfl
        have x2 := hcell 2 _ rfl
        have x3 := hcell 3 _ rfl
        have x4 := hcell 4 _ rfl
        have x5 := hcell 5 _ rfl
        have h1 := hat.1 hk
        have HAT := Lib.hid (show (wasL m.L k).val = x.val ∧ (atL m.L k).isSome = true from by unfold wasL; rw [h1]; exact ⟨rfl, rfl⟩)
        clear hat h1 hcell hx HN
        obtain ⟨K, V, F, I, D, X⟩ := x
        simp only at hk x0 x1 x2 x3 x4 x5 HAT ⊢
        subst hk
        go_wp2_with (first
          | ((with_reducible show wpList _ _ _ (⟨none, Op.store _ _ _, _, _, _, _⟩ :: _) _ _); refine wpList_store_whole (by rfl) 38 (.tmp 4) (.tmp 32) (by rfl) w.heap.size (by rfl) #[.string K, .string V, .int .u32 F, .int .u64 I, .int .i64 D, .int .i64 X] (by rfl) _ 38 HR0.out (by rfl) (by kernel_rfl) (by simp [Value.oneCell']) ?_; intro w3 hr3 hg3 hs3)
          | ((with_reducible show bodyPost _ _ _ Exit.ret _ _); exact bodyPost_ret (v := .tuple #[.agg #[.string K, .string V, .int .u32 F, .int .u64 I, .int .i64 D, .int .i64 X], .bool true]) (results_row_tmp rfl _ _ w.heap.size _ _ _ _ (by rfl) hr3 Tryz.underlying38 rfl (by kernel_rfl) _ (by rfl)) rfl ⟨(by rw [HAT.out.1, HAT.out.2]), grown_below HB0.out HB0.out.size hg3 (fun k hk => by cases hk; exact Nat.le_refl _)⟩)
          | fail)
      · have h1 := hat.2 hk
        have hk2 : (x.key.toList == k.toList) = false := beq_eq_false_iff_ne.2 (fun e => hk (ByteArray.ext (by have h2 := congrArg List.toArray e; simpa [ByteArray.toList_eq] using h2)))
        have HN2 := Lib.hid h1
        clear hat h1 hcell hx HN
        generalize x.key = K at *
        have HK := Lib.hid hk
        clear hk
        go_wp2_with fail
        go_round
        case rel => exact ⟨i + 1, by go_num, by omega, HN2⟩
        case measure => simp [intOf]; omega
    · have h1 := HN.out
      rw [List.take_of_length_le (by omega)] at h1
      have HAT := Lib.hid (show (wasL m.L k).val = noItem.val ∧ (atL m.L k).isSome = false from by unfold wasL; rw [h1]; exact ⟨rfl, rfl⟩)
      clear h1 HN
      go_wp2_with (first
        | ((with_reducible show wpList _ _ _ (⟨none, Op.store _ _ _, _, _, _, _⟩ :: _) _ _); refine wpList_store_whole (by rfl) 38 (.tmp 4) (.tmp 33) (by rfl) w.heap.size (by rfl) #[.string ⟨#[]⟩, .string ⟨#[]⟩, .int .u32 0, .int .u64 0, .int .i64 0, .int .i64 0] (by rfl) _ 38 HR0.out (by rfl) (by kernel_rfl) (by simp [Value.oneCell']) ?_; intro w3 hr3 hg3 hs3)
        | ((with_reducible show bodyPost _ _ _ Exit.ret _ _); exact bodyPost_ret (v := .tuple #[.agg #[.string ⟨#[]⟩, .string ⟨#[]⟩, .int .u32 0, .int .u64 0, .int .i64 0, .int .i64 0], .bool false]) (results_row_tmp rfl _ _ w.heap.size _ _ _ _ (by rfl) hr3 Tryz.underlying38 rfl (by kernel_rfl) _ (by rfl)) rfl ⟨(by rw [HAT.out.1, HAT.out.2]; rfl), grown_below HB0.out HB0.out.size hg3 (fun k hk => by cases hk; exact Nat.le_refl _)⟩)
        | fail)
end Go.Proofs.YtaooangnnlopcaaGreatDoor
