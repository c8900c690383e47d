/- The chapter's examples of layer 29 hold: 'lives' answers true. (Printed by genlives29.py.) -/
import Derived.Test.YtofpaooaiafpbaaDoorLineLine
namespace Go.Proofs.YtofpaooaiafpbaaDoor
open Go.RowKit Go.ChangeMaps Go.MapKept

abbrev lifeCmd0 : Cmd := ⟨3, [[97]], 3, [97], [], 5, 0, 0, 0, 3, false⟩
set_option maxRecDepth 100000 in
theorem life29_0 : parseL [115, 101, 116, 32, 97, 32, 53, 32, 48, 32, 51] = (lifeCmd0, 0) := by kernel_rfl
abbrev lifeCmd1 : Cmd := ⟨1, [[97], [98]], 1, [97], [], 0, 0, 0, 0, -1, false⟩
set_option maxRecDepth 100000 in
theorem life29_1 : parseL [103, 101, 116, 32, 97, 32, 98] = (lifeCmd1, 0) := by kernel_rfl
abbrev lifeCmd2 : Cmd := noCmd
set_option maxRecDepth 100000 in
theorem life29_2 : parseL [105, 110, 99, 114, 32, 97, 32, 120] = (lifeCmd2, 4) := by kernel_rfl
abbrev lifeCmd3 : Cmd := ⟨3, [[97]], 3, [97], [], 5, 0, 0, 0, 1025, false⟩
set_option maxRecDepth 100000 in
theorem life29_3 : parseL [115, 101, 116, 32, 97, 32, 53, 32, 48, 32, 49, 48, 50, 53] = (lifeCmd3, 5) := by kernel_rfl
abbrev lifeCmd4 : Cmd := noCmd
set_option maxRecDepth 100000 in
theorem life29_4 : parseL [115, 101, 116, 32, 97, 32, 53, 32, 48] = (lifeCmd4, 1) := by kernel_rfl
abbrev lifeCmd5 : Cmd := noCmd
set_option maxRecDepth 100000 in
theorem life29_5 : parseL [115, 101, 116, 32, 97, 32, 53, 32, 48, 32, 45, 49] = (lifeCmd5, 2) := by kernel_rfl
abbrev lifeCmd6 : Cmd := noCmd
set_option maxRecDepth 100000 in
theorem life29_6 : parseL [71, 69, 84, 32, 97] = (lifeCmd6, 1) := by kernel_rfl
abbrev lifeCmd7 : Cmd := ⟨7, [[97]], 7, [97], [], 0, 0, 0, 0, -1, true⟩
set_option maxRecDepth 100000 in
theorem life29_7 : parseL [100, 101, 108, 101, 116, 101, 32, 97, 32, 110, 111, 114, 101, 112, 108, 121] = (lifeCmd7, 0) := by kernel_rfl
abbrev lifeCmd8 : Cmd := ⟨11, [], 11, [], [], 0, 0, 0, 0, -1, true⟩
set_option maxRecDepth 100000 in
theorem life29_8 : parseL [102, 108, 117, 115, 104, 95, 97, 108, 108, 32, 45, 48, 32, 110, 111, 114, 101, 112, 108, 121] = (lifeCmd8, 0) := by kernel_rfl
set_option maxRecDepth 100000 in
theorem life29_len : (lineS lifeCmd8).length = 17 := by kernel_rfl
set_option maxRecDepth 100000 in
theorem life29_line : lineL lifeCmd8 = ([102, 108, 117, 115, 104, 95, 97, 108, 108, 32, 110, 111, 114, 101, 112, 108, 121], true) := by kernel_rfl
theorem lifeCmd8_ok : OkCmd lifeCmd8 := ⟨by decide, by decide, by decide, by decide, by decide, by decide, by decide, by decide, by decide⟩
theorem str_cells {w : World} {B : Nat} {v : Value} {xs : List Value} {n : Nat} (h : Own w B v xs) (hn : xs.length = n) (hne : 0 < n) : ∃ g o c : Nat, v = .slice (some ⟨g, o, none⟩) n c ∧ ∀ (j : Nat) (x : Value), xs[j]? = some x → w.cell? ⟨g, o + j, none⟩ = some x := by
  subst hn
  obtain ⟨g, o, c, h1, _, _, _, _, h6⟩ := Own.some h (by intro h; rw [h] at hne; exact absurd hne (by decide))
  exact ⟨g, o, c, h1, fun j x hx => (h6 j x hx).1⟩
set_option maxHeartbeats 6400000 in
set_option maxRecDepth 100000 in
theorem lives29 (w : World) (hL : HasLen w) (hE : HasErr w) (hP : HasPow w) :
    Calls Tryd.prog 5 #[] w fun e w' => e = .returned (.bool true) ∧ Below w.heap.size w w' := by
  have HL := Lib.hid hL
  have HE := Lib.hid hE
  have HP := Lib.hid hP
  clear hL hE hP
  go_enter Tryd.func5, Tryd.ntmps5
  go_wp2_with fail
  have HB0 := Lib.hid (Below.refl w.heap.size w)
  refine (lparse_at [115, 101, 116, 32, 97, 32, 53, 32, 48, 32, 51] w (by decide) (HL.out.below HB0.out) (HE.out.below HB0.out)).mono ?_
  rintro e v0 ⟨ks0, rfl, hok, hb⟩
  rw [life29_0] at hok ⊢
  simp only at hok ⊢
  obtain ⟨oa0, oc0, hks⟩ := hok.len
  rw [List.length_map, show lifeCmd0.keys.length = 1 from rfl] at hks
  subst hks
  have hz : (v0.alloc (.cells zeroA 29)).heap[v0.heap.size]? = some (.cells zeroA 29 (0, 0)) := heap_alloc_new _ _
  have HOK := Lib.hid hok
  have HBV := Lib.hid hb
  clear hok hb
  go_upto_region 2 with ((with_reducible show wpList _ _ _ (⟨none, Op.store _ _ _, _, _, _, _⟩ :: _) _ _); refine wpList_store_whole (by rfl) 29 (.tmp 1) (.tmp 26) (by rfl) v0.heap.size (by rfl) (cmdCells (.slice oa0 1 oc0) lifeCmd0).toArray (by rfl) _ 29 hz (by rfl) (by kernel_rfl) (by simp [Value.oneCell']) ?_; intro u0 hr hg hs)
  have hg' := grown_new hg
  have hbu := below_to HBV.out hg'
  have HB1 := Lib.hid (below_to (HB0.out.trans (HBV.out.mono HB0.out.size)) hg')
  have HX0 := Lib.hid hr
  have HK0 := Lib.hid (strs_below (L := lifeCmd0.keys) HOK.out ⟨hg'.os, hg'.tape, hg'.output, hg'.size, fun k hk => hg'.block k hk (by simp)⟩)
  clear hr hg hs hz hg' hbu HOK HBV HB0
  go_wp2_with fail
  refine (lparse_at [103, 101, 116, 32, 97, 32, 98] u0 (by decide) (HL.out.below HB1.out) (HE.out.below HB1.out)).mono ?_
  rintro e v1 ⟨ks1, rfl, hok, hb⟩
  rw [life29_1] at hok ⊢
  simp only at hok ⊢
  obtain ⟨oa1, oc1, hks⟩ := hok.len
  rw [List.length_map, show lifeCmd1.keys.length = 2 from rfl] at hks
  subst hks
  have hz : (v1.alloc (.cells zeroA 29)).heap[v1.heap.size]? = some (.cells zeroA 29 (0, 0)) := heap_alloc_new _ _
  have HOK := Lib.hid hok
  have HBV := Lib.hid hb
  clear hok hb
  go_upto_region 3 with ((with_reducible show wpList _ _ _ (⟨none, Op.store _ _ _, _, _, _, _⟩ :: _) _ _); refine wpList_store_whole (by rfl) 29 (.tmp 3) (.tmp 30) (by rfl) v1.heap.size (by rfl) (cmdCells (.slice oa1 2 oc1) lifeCmd1).toArray (by rfl) _ 29 hz (by rfl) (by kernel_rfl) (by simp [Value.oneCell']) ?_; intro u1 hr hg hs)
  have hg' := grown_new hg
  have hbu := below_to HBV.out hg'
  have HB2 := Lib.hid (below_to (HB1.out.trans (HBV.out.mono HB1.out.size)) hg')
  have hx0' := (hbu.block _ (lt_of_block HX0.out)).trans HX0.out
  have hk0' := strs_below HK0.out hbu
  have HX1 := Lib.hid hr
  have HK1 := Lib.hid (strs_below (L := lifeCmd1.keys) HOK.out ⟨hg'.os, hg'.tape, hg'.output, hg'.size, fun k hk => hg'.block k hk (by simp)⟩)
  clear HX0
  have HX0 := Lib.hid hx0'
  clear hx0'
  clear HK0
  have HK0 := Lib.hid hk0'
  clear hk0'
  clear hr hg hs hz hg' hbu HOK HBV HB1
  go_wp2_with fail
  refine (lparse_at [105, 110, 99, 114, 32, 97, 32, 120] u1 (by decide) (HL.out.below HB2.out) (HE.out.below HB2.out)).mono ?_
  rintro e v2 ⟨ks2, rfl, hok, hb⟩
  rw [life29_2] at hok ⊢
  simp only at hok ⊢
  obtain ⟨oa2, oc2, hks⟩ := hok.len
  rw [List.length_map, show lifeCmd2.keys.length = 0 from rfl] at hks
  subst hks
  have hz : (v2.alloc (.cells zeroA 29)).heap[v2.heap.size]? = some (.cells zeroA 29 (0, 0)) := heap_alloc_new _ _
  have HOK := Lib.hid hok
  have HBV := Lib.hid hb
  clear hok hb
  go_upto_region 4 with ((with_reducible show wpList _ _ _ (⟨none, Op.store _ _ _, _, _, _, _⟩ :: _) _ _); refine wpList_store_whole (by rfl) 29 (.tmp 5) (.tmp 34) (by rfl) v2.heap.size (by rfl) (cmdCells (.slice oa2 0 oc2) lifeCmd2).toArray (by rfl) _ 29 hz (by rfl) (by kernel_rfl) (by simp [Value.oneCell']) ?_; intro u2 hr hg hs)
  have hg' := grown_new hg
  have hbu := below_to HBV.out hg'
  have HB3 := Lib.hid (below_to (HB2.out.trans (HBV.out.mono HB2.out.size)) hg')
  have hx0' := (hbu.block _ (lt_of_block HX0.out)).trans HX0.out
  have hk0' := strs_below HK0.out hbu
  have hx1' := (hbu.block _ (lt_of_block HX1.out)).trans HX1.out
  have hk1' := strs_below HK1.out hbu
  clear HX0
  have HX0 := Lib.hid hx0'
  clear hx0'
  clear HK0
  have HK0 := Lib.hid hk0'
  clear hk0'
  clear HX1
  have HX1 := Lib.hid hx1'
  clear hx1'
  clear HK1
  have HK1 := Lib.hid hk1'
  clear hk1'
  clear hr hg hs hz hg' hbu HOK HBV HB2
  go_wp2_with fail
  refine (lparse_at [115, 101, 116, 32, 97, 32, 53, 32, 48, 32, 49, 48, 50, 53] u2 (by decide) (HL.out.below HB3.out) (HE.out.below HB3.out)).mono ?_
  rintro e v3 ⟨ks3, rfl, hok, hb⟩
  rw [life29_3] at hok ⊢
  simp only at hok ⊢
  obtain ⟨oa3, oc3, hks⟩ := hok.len
  rw [List.length_map, show lifeCmd3.keys.length = 1 from rfl] at hks
  subst hks
  have hz : (v3.alloc (.cells zeroA 29)).heap[v3.heap.size]? = some (.cells zeroA 29 (0, 0)) := heap_alloc_new _ _
  have HOK := Lib.hid hok
  have HBV := Lib.hid hb
  clear hok hb
  go_upto_region 5 with ((with_reducible show wpList _ _ _ (⟨none, Op.store _ _ _, _, _, _, _⟩ :: _) _ _); refine wpList_store_whole (by rfl) 29 (.tmp 7) (.tmp 38) (by rfl) v3.heap.size (by rfl) (cmdCells (.slice oa3 1 oc3) lifeCmd3).toArray (by rfl) _ 29 hz (by rfl) (by kernel_rfl) (by simp [Value.oneCell']) ?_; intro u3 hr hg hs)
  have hg' := grown_new hg
  have hbu := below_to HBV.out hg'
  have HB4 := Lib.hid (below_to (HB3.out.trans (HBV.out.mono HB3.out.size)) hg')
  have hx0' := (hbu.block _ (lt_of_block HX0.out)).trans HX0.out
  have hk0' := strs_below HK0.out hbu
  have hx1' := (hbu.block _ (lt_of_block HX1.out)).trans HX1.out
  have hk1' := strs_below HK1.out hbu
  have HX3 := Lib.hid hr
  have HK3 := Lib.hid (strs_below (L := lifeCmd3.keys) HOK.out ⟨hg'.os, hg'.tape, hg'.output, hg'.size, fun k hk => hg'.block k hk (by simp)⟩)
  clear HX0
  have HX0 := Lib.hid hx0'
  clear hx0'
  clear HK0
  have HK0 := Lib.hid hk0'
  clear hk0'
  clear HX1
  have HX1 := Lib.hid hx1'
  clear hx1'
  clear HK1
  have HK1 := Lib.hid hk1'
  clear hk1'
  clear hr hg hs hz hg' hbu HOK HBV HB3
  go_wp2_with fail
  refine (lparse_at [115, 101, 116, 32, 97, 32, 53, 32, 48] u3 (by decide) (HL.out.below HB4.out) (HE.out.below HB4.out)).mono ?_
  rintro e v4 ⟨ks4, rfl, hok, hb⟩
  rw [life29_4] at hok ⊢
  simp only at hok ⊢
  obtain ⟨oa4, oc4, hks⟩ := hok.len
  rw [List.length_map, show lifeCmd4.keys.length = 0 from rfl] at hks
  subst hks
  have hz : (v4.alloc (.cells zeroA 29)).heap[v4.heap.size]? = some (.cells zeroA 29 (0, 0)) := heap_alloc_new _ _
  have HOK := Lib.hid hok
  have HBV := Lib.hid hb
  clear hok hb
  go_upto_region 6 with ((with_reducible show wpList _ _ _ (⟨none, Op.store _ _ _, _, _, _, _⟩ :: _) _ _); refine wpList_store_whole (by rfl) 29 (.tmp 9) (.tmp 42) (by rfl) v4.heap.size (by rfl) (cmdCells (.slice oa4 0 oc4) lifeCmd4).toArray (by rfl) _ 29 hz (by rfl) (by kernel_rfl) (by simp [Value.oneCell']) ?_; intro u4 hr hg hs)
  have hg' := grown_new hg
  have hbu := below_to HBV.out hg'
  have HB5 := Lib.hid (below_to (HB4.out.trans (HBV.out.mono HB4.out.size)) hg')
  have hx0' := (hbu.block _ (lt_of_block HX0.out)).trans HX0.out
  have hk0' := strs_below HK0.out hbu
  have hx1' := (hbu.block _ (lt_of_block HX1.out)).trans HX1.out
  have hk1' := strs_below HK1.out hbu
  have hx3' := (hbu.block _ (lt_of_block HX3.out)).trans HX3.out
  have hk3' := strs_below HK3.out hbu
  clear HX0
  have HX0 := Lib.hid hx0'
  clear hx0'
  clear HK0
  have HK0 := Lib.hid hk0'
  clear hk0'
  clear HX1
  have HX1 := Lib.hid hx1'
  clear hx1'
  clear HK1
  have HK1 := Lib.hid hk1'
  clear hk1'
  clear HX3
  have HX3 := Lib.hid hx3'
  clear hx3'
  clear HK3
  have HK3 := Lib.hid hk3'
  clear hk3'
  clear hr hg hs hz hg' hbu HOK HBV HB4
  go_wp2_with fail
  refine (lparse_at [115, 101, 116, 32, 97, 32, 53, 32, 48, 32, 45, 49] u4 (by decide) (HL.out.below HB5.out) (HE.out.below HB5.out)).mono ?_
  rintro e v5 ⟨ks5, rfl, hok, hb⟩
  rw [life29_5] at hok ⊢
  simp only at hok ⊢
  obtain ⟨oa5, oc5, hks⟩ := hok.len
  rw [List.length_map, show lifeCmd5.keys.length = 0 from rfl] at hks
  subst hks
  have hz : (v5.alloc (.cells zeroA 29)).heap[v5.heap.size]? = some (.cells zeroA 29 (0, 0)) := heap_alloc_new _ _
  have HOK := Lib.hid hok
  have HBV := Lib.hid hb
  clear hok hb
  go_upto_region 7 with ((with_reducible show wpList _ _ _ (⟨none, Op.store _ _ _, _, _, _, _⟩ :: _) _ _); refine wpList_store_whole (by rfl) 29 (.tmp 11) (.tmp 46) (by rfl) v5.heap.size (by rfl) (cmdCells (.slice oa5 0 oc5) lifeCmd5).toArray (by rfl) _ 29 hz (by rfl) (by kernel_rfl) (by simp [Value.oneCell']) ?_; intro u5 hr hg hs)
  have hg' := grown_new hg
  have hbu := below_to HBV.out hg'
  have HB6 := Lib.hid (below_to (HB5.out.trans (HBV.out.mono HB5.out.size)) hg')
  have hx0' := (hbu.block _ (lt_of_block HX0.out)).trans HX0.out
  have hk0' := strs_below HK0.out hbu
  have hx1' := (hbu.block _ (lt_of_block HX1.out)).trans HX1.out
  have hk1' := strs_below HK1.out hbu
  have hx3' := (hbu.block _ (lt_of_block HX3.out)).trans HX3.out
  have hk3' := strs_below HK3.out hbu
  clear HX0
  have HX0 := Lib.hid hx0'
  clear hx0'
  clear HK0
  have HK0 := Lib.hid hk0'
  clear hk0'
  clear HX1
  have HX1 := Lib.hid hx1'
  clear hx1'
  clear HK1
  have HK1 := Lib.hid hk1'
  clear hk1'
  clear HX3
  have HX3 := Lib.hid hx3'
  clear hx3'
  clear HK3
  have HK3 := Lib.hid hk3'
  clear hk3'
  clear hr hg hs hz hg' hbu HOK HBV HB5
  go_wp2_with fail
  refine (lparse_at [71, 69, 84, 32, 97] u5 (by decide) (HL.out.below HB6.out) (HE.out.below HB6.out)).mono ?_
  rintro e v6 ⟨ks6, rfl, hok, hb⟩
  rw [life29_6] at hok ⊢
  simp only at hok ⊢
  obtain ⟨oa6, oc6, hks⟩ := hok.len
  rw [List.length_map, show lifeCmd6.keys.length = 0 from rfl] at hks
  subst hks
  have hz : (v6.alloc (.cells zeroA 29)).heap[v6.heap.size]? = some (.cells zeroA 29 (0, 0)) := heap_alloc_new _ _
  have HOK := Lib.hid hok
  have HBV := Lib.hid hb
  clear hok hb
  go_upto_region 8 with ((with_reducible show wpList _ _ _ (⟨none, Op.store _ _ _, _, _, _, _⟩ :: _) _ _); refine wpList_store_whole (by rfl) 29 (.tmp 13) (.tmp 50) (by rfl) v6.heap.size (by rfl) (cmdCells (.slice oa6 0 oc6) lifeCmd6).toArray (by rfl) _ 29 hz (by rfl) (by kernel_rfl) (by simp [Value.oneCell']) ?_; intro u6 hr hg hs)
  have hg' := grown_new hg
  have hbu := below_to HBV.out hg'
  have HB7 := Lib.hid (below_to (HB6.out.trans (HBV.out.mono HB6.out.size)) hg')
  have hx0' := (hbu.block _ (lt_of_block HX0.out)).trans HX0.out
  have hk0' := strs_below HK0.out hbu
  have hx1' := (hbu.block _ (lt_of_block HX1.out)).trans HX1.out
  have hk1' := strs_below HK1.out hbu
  have hx3' := (hbu.block _ (lt_of_block HX3.out)).trans HX3.out
  have hk3' := strs_below HK3.out hbu
  clear HX0
  have HX0 := Lib.hid hx0'
  clear hx0'
  clear HK0
  have HK0 := Lib.hid hk0'
  clear hk0'
  clear HX1
  have HX1 := Lib.hid hx1'
  clear hx1'
  clear HK1
  have HK1 := Lib.hid hk1'
  clear hk1'
  clear HX3
  have HX3 := Lib.hid hx3'
  clear hx3'
  clear HK3
  have HK3 := Lib.hid hk3'
  clear hk3'
  clear hr hg hs hz hg' hbu HOK HBV HB6
  go_wp2_with fail
  refine (lparse_at [100, 101, 108, 101, 116, 101, 32, 97, 32, 110, 111, 114, 101, 112, 108, 121] u6 (by decide) (HL.out.below HB7.out) (HE.out.below HB7.out)).mono ?_
  rintro e v7 ⟨ks7, rfl, hok, hb⟩
  rw [life29_7] at hok ⊢
  simp only at hok ⊢
  obtain ⟨oa7, oc7, hks⟩ := hok.len
  rw [List.length_map, show lifeCmd7.keys.length = 1 from rfl] at hks
  subst hks
  have hz : (v7.alloc (.cells zeroA 29)).heap[v7.heap.size]? = some (.cells zeroA 29 (0, 0)) := heap_alloc_new _ _
  have HOK := Lib.hid hok
  have HBV := Lib.hid hb
  clear hok hb
  go_upto_region 9 with ((with_reducible show wpList _ _ _ (⟨none, Op.store _ _ _, _, _, _, _⟩ :: _) _ _); refine wpList_store_whole (by rfl) 29 (.tmp 15) (.tmp 54) (by rfl) v7.heap.size (by rfl) (cmdCells (.slice oa7 1 oc7) lifeCmd7).toArray (by rfl) _ 29 hz (by rfl) (by kernel_rfl) (by simp [Value.oneCell']) ?_; intro u7 hr hg hs)
  have hg' := grown_new hg
  have hbu := below_to HBV.out hg'
  have HB8 := Lib.hid (below_to (HB7.out.trans (HBV.out.mono HB7.out.size)) hg')
  have hx0' := (hbu.block _ (lt_of_block HX0.out)).trans HX0.out
  have hk0' := strs_below HK0.out hbu
  have hx1' := (hbu.block _ (lt_of_block HX1.out)).trans HX1.out
  have hk1' := strs_below HK1.out hbu
  have hx3' := (hbu.block _ (lt_of_block HX3.out)).trans HX3.out
  have hk3' := strs_below HK3.out hbu
  have HX7 := Lib.hid hr
  have HK7 := Lib.hid (strs_below (L := lifeCmd7.keys) HOK.out ⟨hg'.os, hg'.tape, hg'.output, hg'.size, fun k hk => hg'.block k hk (by simp)⟩)
  clear HX0
  have HX0 := Lib.hid hx0'
  clear hx0'
  clear HK0
  have HK0 := Lib.hid hk0'
  clear hk0'
  clear HX1
  have HX1 := Lib.hid hx1'
  clear hx1'
  clear HK1
  have HK1 := Lib.hid hk1'
  clear hk1'
  clear HX3
  have HX3 := Lib.hid hx3'
  clear hx3'
  clear HK3
  have HK3 := Lib.hid hk3'
  clear hk3'
  clear hr hg hs hz hg' hbu HOK HBV HB7
  go_wp2_with fail
  refine (lparse_at [102, 108, 117, 115, 104, 95, 97, 108, 108, 32, 45, 48, 32, 110, 111, 114, 101, 112, 108, 121] u7 (by decide) (HL.out.below HB8.out) (HE.out.below HB8.out)).mono ?_
  rintro e v8 ⟨ks8, rfl, hok, hb⟩
  rw [life29_8] at hok ⊢
  simp only at hok ⊢
  obtain ⟨oa8, oc8, hks⟩ := hok.len
  rw [List.length_map, show lifeCmd8.keys.length = 0 from rfl] at hks
  subst hks
  have hz : (v8.alloc (.cells zeroA 29)).heap[v8.heap.size]? = some (.cells zeroA 29 (0, 0)) := heap_alloc_new _ _
  have HOK := Lib.hid hok
  have HBV := Lib.hid hb
  clear hok hb
  go_upto_region 10 with ((with_reducible show wpList _ _ _ (⟨none, Op.store _ _ _, _, _, _, _⟩ :: _) _ _); refine wpList_store_whole (by rfl) 29 (.tmp 17) (.tmp 58) (by rfl) v8.heap.size (by rfl) (cmdCells (.slice oa8 0 oc8) lifeCmd8).toArray (by rfl) _ 29 hz (by rfl) (by kernel_rfl) (by simp [Value.oneCell']) ?_; intro u8 hr hg hs)
  have hg' := grown_new hg
  have hbu := below_to HBV.out hg'
  have HB9 := Lib.hid (below_to (HB8.out.trans (HBV.out.mono HB8.out.size)) hg')
  have hx0' := (hbu.block _ (lt_of_block HX0.out)).trans HX0.out
  have hk0' := strs_below HK0.out hbu
  have hx1' := (hbu.block _ (lt_of_block HX1.out)).trans HX1.out
  have hk1' := strs_below HK1.out hbu
  have hx3' := (hbu.block _ (lt_of_block HX3.out)).trans HX3.out
  have hk3' := strs_below HK3.out hbu
  have hx7' := (hbu.block _ (lt_of_block HX7.out)).trans HX7.out
  have hk7' := strs_below HK7.out hbu
  have HX8 := Lib.hid hr
  have HK8 := Lib.hid (strs_below (L := lifeCmd8.keys) HOK.out ⟨hg'.os, hg'.tape, hg'.output, hg'.size, fun k hk => hg'.block k hk (by simp)⟩)
  clear HX0
  have HX0 := Lib.hid hx0'
  clear hx0'
  clear HK0
  have HK0 := Lib.hid hk0'
  clear hk0'
  clear HX1
  have HX1 := Lib.hid hx1'
  clear hx1'
  clear HK1
  have HK1 := Lib.hid hk1'
  clear hk1'
  clear HX3
  have HX3 := Lib.hid hx3'
  clear hx3'
  clear HK3
  have HK3 := Lib.hid hk3'
  clear hk3'
  clear HX7
  have HX7 := Lib.hid hx7'
  clear hx7'
  clear HK7
  have HK7 := Lib.hid hk7'
  clear hk7'
  clear hr hg hs hz hg' hbu HOK HBV HB8
  have e0 : u8.cell? ⟨v8.heap.size, 0, none⟩ = some (.int .u8 11) := (block_cell HX8.out 0).1
  have e1 : u8.cell? ⟨v8.heap.size, 1, none⟩ = some (.slice oa8 0 oc8) := (block_cell HX8.out 1).1
  have e2 : u8.cell? ⟨v8.heap.size, 2, none⟩ = some (.int .u8 11) := (block_cell HX8.out 2).1
  have e3 : u8.cell? ⟨v8.heap.size, 3, none⟩ = some (.string ⟨#[]⟩) := (block_cell HX8.out 3).1
  have e4 : u8.cell? ⟨v8.heap.size, 4, none⟩ = some (.string ⟨#[]⟩) := (block_cell HX8.out 4).1
  have e5 : u8.cell? ⟨v8.heap.size, 5, none⟩ = some (.int .u32 0) := (block_cell HX8.out 5).1
  have e6 : u8.cell? ⟨v8.heap.size, 6, none⟩ = some (.int .i64 0) := (block_cell HX8.out 6).1
  have e7 : u8.cell? ⟨v8.heap.size, 7, none⟩ = some (.int .u64 0) := (block_cell HX8.out 7).1
  have e8 : u8.cell? ⟨v8.heap.size, 8, none⟩ = some (.int .u64 0) := (block_cell HX8.out 8).1
  have e9 : u8.cell? ⟨v8.heap.size, 9, none⟩ = some (.int .i64 (-1)) := (block_cell HX8.out 9).1
  have e10 : u8.cell? ⟨v8.heap.size, 10, none⟩ = some (.bool true) := (block_cell HX8.out 10).1
  go_wp2_with fail
  refine (line_any (c := lifeCmd8) HK8.out lifeCmd8_ok (by rw [life29_len]; decide) (by decide) (HL.out.below HB9.out) (HE.out.below HB9.out) (HP.out.below HB9.out)).mono ?_
  rintro e z ⟨rfl, hbz⟩
  rw [life29_line]
  simp only
  have HBZ := Lib.hid (HB9.out.trans (hbz.mono HB9.out.size))
  have hy0 := (hbz.block _ (lt_of_block HX0.out)).trans HX0.out
  have hy1 := (hbz.block _ (lt_of_block HX1.out)).trans HX1.out
  have hy3 := (hbz.block _ (lt_of_block HX3.out)).trans HX3.out
  have hy7 := (hbz.block _ (lt_of_block HX7.out)).trans HX7.out
  have hy8 := (hbz.block _ (lt_of_block HX8.out)).trans HX8.out
  obtain ⟨g0, o0, k0, hks0, hc0⟩ := str_cells (strs_below (L := [[97]]) HK0.out hbz) rfl (by decide)
  obtain ⟨g1, o1, k1, hks1, hc1⟩ := str_cells (strs_below (L := [[97], [98]]) HK1.out hbz) rfl (by decide)
  obtain ⟨rfl, -, rfl⟩ := slice_inj hks0
  obtain ⟨rfl, -, rfl⟩ := slice_inj hks1
  have hd0 : z.cell? ⟨g0, o0, none⟩ = some (.string ⟨#[97]⟩) := hc0 0 _ rfl
  have hd1 : z.cell? ⟨g1, o1 + 1, none⟩ = some (.string ⟨#[98]⟩) := hc1 1 _ rfl
  have hi0 : ∀ W : World, (Instr.indexAt 23 (.slice (some ⟨g0, o0, none⟩) 1 oc0) (.int .i64 0)).run Tryd.prog W = .ok (.pointer (some ⟨g0, o0, none⟩)) W := fun W => idx_str' (k := 0) rfl (by decide) W
  have hi1 : ∀ W : World, (Instr.indexAt 23 (.slice (some ⟨g1, o1, none⟩) 2 oc1) (.int .i64 1)).run Tryd.prog W = .ok (.pointer (some ⟨g1, o1 + 1, none⟩)) W := fun W => idx_str' (k := 1) rfl (by decide) W
  clear e0 e1 e2 e3 e4 e5 e6 e7 e8 e9 e10
  have a0 : z.cell? ⟨v0.heap.size, 0, none⟩ = some (.int .u8 3) := (block_cell hy0 0).1
  have a1 : z.cell? ⟨v0.heap.size, 1, none⟩ = some (.slice (some ⟨g0, o0, none⟩) 1 oc0) := (block_cell hy0 1).1
  have a2 : z.cell? ⟨v0.heap.size, 2, none⟩ = some (.int .u8 3) := (block_cell hy0 2).1
  have a3 : z.cell? ⟨v0.heap.size, 3, none⟩ = some (.string ⟨#[97]⟩) := (block_cell hy0 3).1
  have a4 : z.cell? ⟨v0.heap.size, 4, none⟩ = some (.string ⟨#[]⟩) := (block_cell hy0 4).1
  have a5 : z.cell? ⟨v0.heap.size, 5, none⟩ = some (.int .u32 5) := (block_cell hy0 5).1
  have a6 : z.cell? ⟨v0.heap.size, 6, none⟩ = some (.int .i64 0) := (block_cell hy0 6).1
  have a7 : z.cell? ⟨v0.heap.size, 7, none⟩ = some (.int .u64 0) := (block_cell hy0 7).1
  have a8 : z.cell? ⟨v0.heap.size, 8, none⟩ = some (.int .u64 0) := (block_cell hy0 8).1
  have a9 : z.cell? ⟨v0.heap.size, 9, none⟩ = some (.int .i64 3) := (block_cell hy0 9).1
  have a10 : z.cell? ⟨v0.heap.size, 10, none⟩ = some (.bool false) := (block_cell hy0 10).1
  have b1 : z.cell? ⟨v1.heap.size, 1, none⟩ = some (.slice (some ⟨g1, o1, none⟩) 2 oc1) := (block_cell hy1 1).1
  have b9 : z.cell? ⟨v1.heap.size, 9, none⟩ = some (.int .i64 (-1)) := (block_cell hy1 9).1
  have c9 : z.cell? ⟨v3.heap.size, 9, none⟩ = some (.int .i64 1025) := (block_cell hy3 9).1
  have d10 : z.cell? ⟨v7.heap.size, 10, none⟩ = some (.bool true) := (block_cell hy7 10).1
  have e6 : z.cell? ⟨v8.heap.size, 6, none⟩ = some (.int .i64 0) := (block_cell hy8 6).1
  have e10 : z.cell? ⟨v8.heap.size, 10, none⟩ = some (.bool true) := (block_cell hy8 10).1
  clear hy0 hy1 hy3 hy7 hy8 hc0 hc1 hks0 hks1 hbz HX0 HX1 HX3 HX7 HX8 HK0 HK1 HK3 HK7 HK8
  go_wp2_with fail
  go_ret
  exact ⟨rfl, HBZ.out⟩
end Go.Proofs.YtofpaooaiafpbaaDoor
