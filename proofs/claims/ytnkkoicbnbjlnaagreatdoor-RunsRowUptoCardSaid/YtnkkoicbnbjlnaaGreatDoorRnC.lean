/- runs.Outs of one connection, runs.Rows of one call that is over. Conditions: what a connection told, and a row, by their own contracts. And what goes with it (4 texts). -/
import Derived.Test.YtnkkoicbnbjlnaaGreatDoorRnB
import Derived.Test.YtnkkoicbnbjlnaaGreatDoorRnA
import Derived.Test.YtnkkoicbnbjlnaaGreatDoorMgD
import Derived.Test.YtnkkoicbnbjlnaaGreatDoorLowA
namespace Go.Proofs.YtnkkoicbnbjlnaaGreatDoor
set_option maxRecDepth 100000
set_option maxHeartbeats 8000000
open Go.RowKit Go.ChangeMaps Go.MapKept
theorem makeStr (W : World) : (Instr.makeSlice 52 (.int .i64 0) (.int .i64 1)).run Tryz.prog W = .ok (.slice (some ⟨W.heap.size, 0, none⟩) 0 1) (W.alloc (.cells #[.string ⟨#[]⟩] 9)) := by kernel_rfl
theorem bsliceStr (l : List UInt8) (W : World) : (Instr.buildSlice 52 1 #[(0, strV l)]).run Tryz.prog W = .ok (.slice (some ⟨W.heap.size, 0, none⟩) 1 1) (W.alloc (.cells #[strV l] 9)) := by kernel_rfl
theorem app_str {w : World} {g h : Nat} {l : List UInt8} (hq : w.heap[g]? = some (.cells #[.string ⟨#[]⟩] 9 (0, 0))) (hh : w.heap[h]? = some (.cells #[strV l] 9 (0, 0))) :
  ∃ g' c' W, (Builtin.append_ #[52, 52] 52 #[.slice (some ⟨g, 0, none⟩) 0 1, .slice (some ⟨h, 0, none⟩) 1 1]).run Tryz.prog w = .ok (.slice (some ⟨g', 0, none⟩) 1 c') W ∧ W.cell? ⟨g', 0, none⟩ = some (strV l) ∧ w.grownBy W (some g) := by
 obtain ⟨i0, hi0, hz0, hz1, hz2⟩ := info_parts infoStr
 have hnews : ∀ j v, ([strV l] : List Value)[j]? = some v → w.cell? (Addr.add ⟨h, 0, none⟩ j) = some v := by
  intro j v hj
  cases j with
  | zero =>
   cases hj
   simpa [Addr.add] using (cellsAt hh 0).1
  | succ j => simp at hj
 have hg : g < w.heap.size := (Array.getElem?_eq_some_iff.1 hq).1
 obtain ⟨v', w', hr, h2, h3, h4, h5⟩ := run_append_own_at (P := Tryz.prog) w g 52 52 9 i0 _ 1 16 Tryz.underlying52 hi0 hz0 hz1 hz2 (by rfl) (by omega) (.slice (some ⟨g, 0, none⟩) 0 1) 0 []
  ⟨rfl, .inr ⟨g, 1, #[.string ⟨#[]⟩], rfl, Nat.le_refl _, hq, by omega, by unfold maxLen; omega, rfl, rfl⟩⟩ ⟨h, 0, none⟩ 1 1 [strV l] rfl hnews (fun v hv => by simp at hv; rw [hv]; rfl) (by unfold maxLen; omega) (by omega) (Nat.le_of_lt hg)
 obtain ⟨h6, h7⟩ := h2
 rcases h7 with ⟨-, h7⟩ | ⟨g', c', cur, rfl, h8, h9, h10, -, -, h11⟩
 ·omega
 ·refine ⟨g', c', w', hr, ?_, h3⟩
  rw [(cellsAt h9 0).1]
  have h12 : (cur.toList.take 1)[0]? = some (strV l) := by
   rw [show cur.toList.take 1 = [strV l] from h11]
   rfl
  rw [List.getElem?_take] at h12
  simpa using h12
theorem outs_any {w : World} {mp c0 : Nat} {l : List UInt8} (hC : ∀ V, Below w.heap.size w V → Calls Tryz.prog 28 #[ptrN mp] V fun e w' => e = .returned (.int .i64 1) ∧ V = w')
  (hN : ∀ V, Below w.heap.size w V → Calls Tryz.prog 29 #[ptrN mp, .int .i64 0] V fun e w' => e = .returned (ptrN c0) ∧ V = w')
  (hO : ∀ V, Below w.heap.size w V → Calls Tryz.prog 30 #[ptrN c0] V fun e w' => e = .returned (strV l) ∧ V = w') :
  Calls Tryz.prog 10 #[ptrN mp] w fun e w' => ∃ g c, e = .returned (.slice (some ⟨g, 0, none⟩) 1 c) ∧ w'.cell? ⟨g, 0, none⟩ = some (strV l) ∧ Below w.heap.size w w' := by
 have q1 := makeStr
 have q2 := bsliceStr
 have HC := hidZ hC
 have HN := hidZ hN
 have HO := hidZ hO
 obtain ⟨g, hg⟩ := xE (w.heap.size)
 obtain ⟨w1, hw1⟩ := xE (w.alloc (.cells #[.string ⟨#[]⟩] 9))
 have hb1 : Below w.heap.size w w1 := bal hw1
 have hq1 : w1.heap[g]? = some (.cells #[.string ⟨#[]⟩] 9 (0, 0)) := by rw [hw1, hg]; exact heap_mem w _
 have HB := hidZ (And.intro hb1 (And.intro hq1 hg))
 clear hC hN hO hb1 hq1
 go_enter Tryz.func10, Tryz.ntmps10
 go_wp2_with fail
 refine (HC.out w (Below.refl _ _)).mono ?_
 rintro e V ⟨rfl, rfl⟩
 go_upto_region 2 with fail
 rw [← hw1, ← hg]
 clear hw1 hg
 go_wp2_with fail
 refine (HC.out w1 HB.out.1).mono ?_
 rintro e V ⟨rfl, rfl⟩
 go_wp2_with fail
 go_loopw [3, 10] (fun s3 s10 wr => ∃ i : Nat, s10 = .int .i64 (i : Int) ∧ Hid (i = 0 ∧ s3 = .slice (some ⟨g, 0, none⟩) 0 1 ∧ w1 = wr ∨ i = 1 ∧ ∃ g' c', s3 = .slice (some ⟨g', 0, none⟩) 1 c' ∧ wr.cell? ⟨g', 0, none⟩ = some (strV l) ∧ Below w.heap.size w wr)) (fun _ s10 _ => 2 - (intOf s10).toNat)
 case atStart => exact ⟨0, rfl, hidZ (.inl ⟨rfl, rfl, rfl⟩)⟩
 case round =>
  obtain ⟨i, rfl, HI⟩ := hrel
  rcases HI.out with ⟨rfl, rfl, rfl⟩ | ⟨rfl, g', c', rfl, hx, hb⟩
  ·clear HI
   go_wp2_with fail
   refine (HN.out w1 HB.out.1).mono ?_
   rintro e V ⟨rfl, rfl⟩
   go_wp2_with fail
   refine (HO.out w1 HB.out.1).mono ?_
   rintro e V ⟨rfl, rfl⟩
   obtain ⟨h, hh⟩ := xE (w1.heap.size)
   obtain ⟨w2, hw2⟩ := xE (w1.alloc (.cells #[strV l] 9))
   have hb2 : Below w1.heap.size w1 w2 := bal hw2
   have hq2 : w2.heap[h]? = some (.cells #[strV l] 9 (0, 0)) := by rw [hw2, hh]; exact heap_mem w1 _
   obtain ⟨g', c', W, hrun, hx, hgr⟩ := app_str (boxAt HB.out.2.1 hb2) hq2
   have HX := hidZ (show W.cell? ⟨g', 0, none⟩ = some (strV l) ∧ Below w.heap.size w W from ⟨hx, by
    have hb := HB.out.1.trans (hb2.mono HB.out.1.size)
    exact hb.trans ((Chg.of_grown (M := fun k => k = g) hgr (fun _ _ e => (Option.some.inj e).symm)).below (fun k hk => ⟨Nat.lt_of_lt_of_le hk hb.size, fun e => by have := HB.out.2.2; omega⟩))⟩)
   rw [hw2, hh] at hrun
   clear hw2 hh hb2 hq2 hx hgr
   go_wp2_with (first
    | (at_builtin; refine wpList_plain (by rfl) fun _ hK => wp_append_run (.tmp 13) (.tmp 18) 52 (by rfl) _ _ _ (by rfl) (by rfl) hrun (hK _ _ ?_))
    | fail)
   go_roundw
   case rel => exact ⟨1, by go_num, hidZ (.inr ⟨rfl, g', c', rfl, HX.out.1, HX.out.2⟩)⟩
   case measure => simp [intOf]
  ·have HX := hidZ (And.intro hx hb)
   clear HI hx hb
   go_wp2_with fail
   go_ret
   exact ⟨g', c', rfl, HX.out.1, HX.out.2⟩
end Go.Proofs.YtnkkoicbnbjlnaaGreatDoor
namespace Go.Proofs.YtnkkoicbnbjlnaaGreatDoor
set_option maxRecDepth 100000
set_option maxHeartbeats 8000000
open Go.RowKit Go.ChangeMaps Go.MapKept
theorem bwrite_any (B b : Nat) (bs : List Value) (s : ByteArray) (w : World) (h : Lib.IsBuilder 90 5 B b bs w) (hlen : bs.length + s.size ≤ 140737488355328) (hBw : B ≤ w.heap.size) :
  Calls Tryz.prog 36 #[.pointer (some ⟨b, 0, none⟩), .string s] w fun e w' => e = .returned (.tuple #[.int .i64 s.size, .nilIface]) ∧ (Lib.BuilderAt 90 5 B b (.pointer (some ⟨b, 0, none⟩)) (bs ++ Lib.strCells s) w' ∧ Below B w w') :=
 Any.Builder_WriteString { Tryz.lays156 with } Tryz.Builder_Extra_156 B b bs s w h hlen hBw
theorem called_one (x : RowD) : ∀ v ∈ x.cells, v.oneCell' = true := by
 intro v hv
 simp only [List.mem_cons, List.not_mem_nil, or_false] at hv
 rcases hv with rfl | rfl | rfl | rfl | rfl | rfl | rfl | rfl | rfl | rfl | rfl | rfl | rfl | rfl | rfl | rfl | rfl | rfl | rfl | rfl <;> rfl
theorem histField (g : Nat) (W : World) : (Instr.field 57 (.agg #[.slice (some ⟨g, 0, none⟩) 1 1, .slice none 0 0]) 0).run Tryz.prog W = .ok (.slice (some ⟨g, 0, none⟩) 1 1) W := by kernel_rfl
theorem calledAt (g : Nat) (W : World) : (Instr.indexAt 54 (.slice (some ⟨g, 0, none⟩) 1 1) (.int .i64 0)).run Tryz.prog W = .ok (.pointer (some ⟨g, 0, none⟩)) W := by
 have h2 := Tryz.underlying54
 obtain ⟨i0, hi, hz0, hz1, hz2⟩ := infoP_parts infoCalledM
 go_simp
theorem range_of {w : World} {g : Nat} {cs : List Value} (h : ∀ j u, cs[j]? = some u → w.cell? ⟨g, j, none⟩ = some u) : w.rangeAt g 0 cs := fun j u hj => by
 rw [Nat.zero_add]
 exact h j u hj
theorem rows_any {w : World} {mp : Nat} {x : RowD} (hx : x.Ok) (hP : HasPow w) (hl : (rowL x).length ≤ 100000)
  (hH : ∀ V, Below w.heap.size w V → Calls Tryz.prog 11 #[ptrN mp] V fun e w' => ∃ q, e = .returned (.agg #[.slice (some ⟨q, 0, none⟩) 1 1, .slice none 0 0]) ∧ (∀ j u, x.cells[j]? = some u → w'.cell? ⟨q, j, none⟩ = some u) ∧ Below V.heap.size V w') :
  Calls Tryz.prog 14 #[ptrN mp] w fun e w' => e = .returned (strV (rowL x ++ [10])) ∧ Below w.heap.size w w' := by
 have q1 := histField
 obtain ⟨b, hb⟩ := xE (w.heap.size)
 obtain ⟨w1, hw1⟩ := xE (w.alloc (.cells #[.pointer none, .slice none 0 0] 90))
 have hb1 : Below w.heap.size w w1 := bal hw1
 have hq1 : w1.heap[b]? = some (.cells #[.pointer none, .slice none 0 0] 90 (0, 0)) := by rw [hw1, hb]; exact heap_mem w _
 have HX := hidZ (And.intro hx (And.intro hP hl))
 have HB := hidZ (And.intro hb1 (And.intro hq1 hb))
 have HH := hidZ (hH w1 hb1)
 clear hx hP hl hH hb1 hq1
 go_enter Tryz.func14, Tryz.ntmps14
 go_upto_region 2 with fail
 rw [← hw1, ← hb]
 clear hw1 hb
 go_wp2_with fail
 refine HH.out.mono ?_
 rintro e w2 ⟨q, rfl, hq, hb2⟩
 have HQ := hidZ (And.intro hq hb2)
 clear hq hb2 HH
 go_wp2_with fail
 go_loopw [10] (fun s10 wr => ∃ i : Nat, s10 = .int .i64 (i : Int) ∧ Hid (i = 0 ∧ w2 = wr ∨ i = 1 ∧ Lib.BuilderAt 90 5 w.heap.size b (.pointer (some ⟨b, 0, none⟩)) (Lib.byteCells (rowL x ++ [10])) wr ∧ Below w.heap.size w wr)) (fun s10 _ => 2 - (intOf s10).toNat)
 case atStart => exact ⟨0, rfl, hidZ (.inl ⟨rfl, rfl⟩)⟩
 case round =>
  obtain ⟨i, rfl, HI⟩ := hrel
  rcases HI.out with ⟨rfl, rfl⟩ | ⟨rfl, hbu, hbw⟩
  ·clear HI
   have hix := calledAt q
   have hbx : (w2.alloc (.cells #[.int .i64 0, .int .u8 0, .string ⟨#[]⟩, .string ⟨#[]⟩, .int .u32 0, .int .i64 0, .int .u64 0, .int .u64 0, .int .i64 0, .int .i64 0, .int .u8 0, .int .u64 0, .string ⟨#[]⟩, .string ⟨#[]⟩, .int .u32 0, .int .u64 0, .int .i64 0, .int .i64 0, .int .u64 0, .int .i64 0] 33)).heap[w2.heap.size]? = some (.cells #[.int .i64 0, .int .u8 0, .string ⟨#[]⟩, .string ⟨#[]⟩, .int .u32 0, .int .i64 0, .int .u64 0, .int .u64 0, .int .i64 0, .int .i64 0, .int .u8 0, .int .u64 0, .string ⟨#[]⟩, .string ⟨#[]⟩, .int .u32 0, .int .u64 0, .int .i64 0, .int .i64 0, .int .u64 0, .int .i64 0] 33 (0, 0)) := heap_mem w2 _
   have hba : Below w2.heap.size w2 (w2.alloc (.cells #[.int .i64 0, .int .u8 0, .string ⟨#[]⟩, .string ⟨#[]⟩, .int .u32 0, .int .i64 0, .int .u64 0, .int .u64 0, .int .i64 0, .int .i64 0, .int .u8 0, .int .u64 0, .string ⟨#[]⟩, .string ⟨#[]⟩, .int .u32 0, .int .u64 0, .int .i64 0, .int .i64 0, .int .u64 0, .int .i64 0] 33)) := (Below.refl _ _).alloc (Nat.le_refl _) _
   have HBA := hidZ (And.intro hbx hba)
   clear hbx hba
   go_upto_region 5 with (first
    | ((with_reducible show wpList _ _ _ (⟨_, Op.load _ (.tmp 12), _, _, _, _⟩ :: _) _ _); refine wpList_load_mid (by rfl) 33 (.tmp 12) (by rfl) q 0 (by rfl) x.cells _ (range_of HQ.out.1) Tryz.underlying33 rfl (by kernel_rfl) ?_)
    | ((with_reducible show wpList _ _ _ (⟨none, Op.store _ _ _, _, _, _, _⟩ :: _) _ _); refine wpList_store_whole (by rfl) 33 (.tmp 5) (.tmp 13) (by rfl) w2.heap.size (by rfl) x.cells.toArray (by rfl) _ 33 HBA.out.1 (by rfl) (by kernel_rfl) (called_one x) ?_; intro w4 hq4 hg4 hz4)
    | fail)
   have hb4 : Below w1.heap.size w1 w4 := by
    have h1 := HQ.out.2.trans (HBA.out.2.mono HQ.out.2.size)
    exact h1.trans ((Chg.of_grown (M := fun k => k = w2.heap.size) hg4 (fun _ _ e => (Option.some.inj e).symm)).below (fun k hk => ⟨Nat.lt_of_lt_of_le hk h1.size, fun e => by have := HQ.out.2.size; omega⟩))
   have HB4 := hidZ (HB.out.1.trans (hb4.mono HB.out.1.size))
   have HL4 := hidZ (And.intro hq4 (boxAt HB.out.2.1 hb4))
   have HRW := hidZ (rowWords_any x HX.out.1 (HX.out.2.1.below HB4.out))
   obtain ⟨R, hR⟩ := xE (rowL x)
   rw [← hR] at HRW HX
   obtain ⟨T, hT⟩ := xE (R ++ [10])
   have hst : ∀ W : World, (Op.stringOp .add ⟨R.toArray⟩ ⟨#[10]⟩).run Tryz.prog W = .ok (strV T) W := fun W => by
    have := cat_sv R [10] (by have := HX.out.2.2; simp; omega) W
    rw [hT]
    exact this
   have HTL := hidZ (show T.length ≤ 100001 ∧ T = rowL x ++ [10] from ⟨by have := HX.out.2.2; rw [hT]; simp; omega, by rw [hT, hR]⟩)
   clear hb4 hq4 hg4 hz4 HBA hix hR hT
   go_wp2_with (first
    | ((with_reducible show wpList _ _ _ (⟨_, Op.load _ (.tmp 5), _, _, _, _⟩ :: _) _ _); refine wpList_load_row (by rfl) 33 (.tmp 5) (by rfl) w2.heap.size (by rfl) 33 _ _ _ HL4.out.1 Tryz.underlying33 rfl (by kernel_rfl) ?_)
    | fail)
   refine HRW.out.mono ?_
   rintro e w5 ⟨rfl, hb5⟩
   have HB5 := hidZ (HB4.out.trans (hb5.mono HB4.out.size))
   have HWR := hidZ (bwrite_any w.heap.size b [] ⟨T.toArray⟩ w5 (.inl ⟨by have := HB.out.2.2; omega, .slice none 0 0, boxAt HL4.out.2 hb5, World.ownsRow_nil _ _ _ _, by simp [Value.ownBlock]⟩) (by have := HTL.out.1; rw [sv_size]; simp; omega) HB5.out.size)
   clear hb5 HRW
   go_wp2_with fail
   refine HWR.out.mono ?_
   rintro e w6 ⟨rfl, hbu, hb6⟩
   have HJ := hidZ (show Lib.BuilderAt 90 5 w.heap.size b (.pointer (some ⟨b, 0, none⟩)) (Lib.byteCells (rowL x ++ [10])) w6 ∧ Below w.heap.size w w6 from ⟨by rw [← HTL.out.2]; exact hbu, HB5.out.trans hb6⟩)
   clear hbu hb6 HWR
   go_wp2_with fail
   go_roundw
   case rel => exact ⟨1, by go_num, hidZ (.inr ⟨rfl, HJ.out.1, HJ.out.2⟩)⟩
   case measure => simp [intOf]
  ·have HJ := hidZ (And.intro hbu hbw)
   clear HI hbu hbw
   have HST := hidZ (Tryz.Builder_String_any w.heap.size b (rowL x ++ [10]) wr (.inr HJ.out.1) HJ.out.2.size)
   go_wp2_with fail
   refine HST.out.mono ?_
   rintro e w6 ⟨rfl, hb6⟩
   have HB6 := hidZ (HJ.out.2.trans hb6)
   clear hb6 HST
   go_wp2_with fail
   go_ret
   exact ⟨rfl, HB6.out⟩
end Go.Proofs.YtnkkoicbnbjlnaaGreatDoor
namespace Go.Proofs.YtnkkoicbnbjlnaaGreatDoor.One
set_option maxRecDepth 100000
set_option maxHeartbeats 8000000
open Go.RowKit Go.ChangeMaps Go.MapKept
theorem bslice2 (a b : Int) (W : World) : (Instr.buildSlice 47 2 #[(0, .int .u8 a), (1, .int .u8 b)]).run Tryz.prog W = .ok (.slice (some ⟨W.heap.size, 0, none⟩) 2 2) (W.alloc (.cells #[.int .u8 a, .int .u8 b] 5)) := by kernel_rfl
theorem convLine (W : World) : ∃ c W', (convert 9 47 (.string ⟨setLine.toArray⟩)).run Tryz.prog W = .ok (.slice (some ⟨W.heap.size, 0, none⟩) 16 c) W' ∧ Below W.heap.size W W' ∧ W'.heap.size = W.heap.size + 1 ∧ ∀ j x, setLine[j]? = some x → W'.cell? ⟨W.heap.size, j, none⟩ = some (u8v x) := by
 refine ⟨_, _, Lib.run_convert_string_bytes (P := Tryz.prog) W 9 47 5 ⟨setLine.toArray⟩ Tryz.underlying9 Tryz.underlying47 Tryz.underlying5, ⟨rfl, rfl, rfl, by rw [Lib.bytesWorld_size]; omega, fun k hk => Lib.bytesWorld_at_old _ _ _ _ hk⟩, Lib.bytesWorld_size _ _ _, fun j x hj => ?_⟩
 have hlt : j < 16 := (List.getElem?_eq_some_iff.1 hj).1
 rw [Lib.bytesWorld_cell _ _ _ _ hlt]
 have : (⟨setLine.toArray⟩ : ByteArray).data.toList.getD j 0 = x := by
  simp [List.getD_eq_getElem?_getD, hj]
 rw [this]
theorem app_script {w : World} {g h c : Nat} (hg : w.heap[g]? = some (.cells #[.int .u8 0, .int .u8 16] 5 (0, 0))) (hh : ∀ j x, setLine[j]? = some x → w.cell? ⟨h, j, none⟩ = some (u8v x)) :
  ∃ v' W, (Builtin.append_ #[47, 47] 47 #[.slice (some ⟨g, 0, none⟩) 2 2, .slice (some ⟨h, 0, none⟩) 16 c]).run Tryz.prog w = .ok v' W ∧ BRow W v' scrL ∧ (∀ k, v'.ownBlock = some k → k < W.heap.size) ∧ w.grownBy W (some g) := by
 obtain ⟨i0, hi0, hz0, hz1, hz2⟩ := info_parts infoByte
 have hnews : ∀ j u, (setLine.map u8v)[j]? = some u → w.cell? (Addr.add ⟨h, 0, none⟩ j) = some u := by
  intro j u hj
  rw [List.getElem?_map] at hj
  obtain ⟨x, hx, rfl⟩ := Option.map_eq_some_iff.1 hj
  have := hh j x hx
  by_cases h0 : j = 0
  ·subst h0
   simpa [Addr.add] using this
  ·simpa [Addr.add, h0] using this
 have hgl : g < w.heap.size := (Array.getElem?_eq_some_iff.1 hg).1
 obtain ⟨v', w', hr, h2, h3, h4, h5⟩ := run_append_own_at (P := Tryz.prog) w 0 47 47 5 i0 _ 1 1 Tryz.underlying47 hi0 hz0 hz1 hz2 (by rfl) (by omega) (.slice (some ⟨g, 0, none⟩) 2 2) 2 [.int .u8 0, .int .u8 16]
  ⟨rfl, .inr ⟨g, 2, _, rfl, Nat.zero_le _, hg, Nat.le_refl _, by unfold maxLen; omega, rfl, rfl⟩⟩ ⟨h, 0, none⟩ 16 c (setLine.map u8v) rfl hnews (fun v hv => by obtain ⟨x, -, rfl⟩ := List.mem_map.1 hv; rfl) (by unfold maxLen; omega) (by omega) (Nat.zero_le _)
 have hrow : Row w' 5 1 v' scrL.length (scrL.map u8v) := Row.of_owns h2
 exact ⟨v', w', hr, hrow.bytes, fun k hk => (hrow.tag hk).lt, h3⟩
def kx : RowD := ⟨0, 3, sm0.key, ⟨sm0.value.toArray⟩, (sm0.flags : Int), sm0.exp, (sm0.id : Int), (sm0.by' : Int), 0, 35, 1, 1, ⟨#[]⟩, ⟨#[]⟩, 0, 0, 0, 0, 10, 21⟩
theorem kx_ok : kx.Ok := ⟨⟨by decide, by decide⟩, ⟨by decide, by decide⟩, ⟨by decide, by decide⟩, ⟨by decide, by decide⟩, by decide, by decide, by decide, by decide, by decide⟩
theorem kx_row : rowL kx = [48, 32, 115, 101, 116, 32, 97, 32, 48, 32, 51, 53, 32, 50, 49, 32, 115, 116, 111, 114, 101, 100, 32, 49] := by kernel_rfl
theorem kx_out : mcC.out = [83, 84, 79, 82, 69, 68, 13, 10] := by kernel_rfl
section
variable {W0 V : World} {mp wp tb tc c0 : Nat}
theorem conn18 (hj : RoundJ W0 (KN Emp W0.heap.size mp wp tb tc c0 kt) 18 V) : Calls Tryz.prog 29 #[ptrN mp, .int .i64 0] V fun e w' => e = .returned (ptrN c0) ∧ V = w' := by
 obtain ⟨S, h, -⟩ := hj
 obtain ⟨th, cv, hr, h0⟩ := KN_mach (Nat.le_refl _) h
 exact mConn_any (k := 0) hr (by omega) h0
theorem out18 (hj : RoundJ W0 (KN Emp W0.heap.size mp wp tb tc c0 kt) 18 V) : Calls Tryz.prog 30 #[ptrN c0] V fun e w' => e = .returned (strV [83, 84, 79, 82, 69, 68, 13, 10]) ∧ V = w' := by
 obtain ⟨S, h, -⟩ := hj
 rcases KN_cases (Nat.le_refl _) h with ⟨h1, -⟩ | ⟨-, h1, -⟩ | ⟨-, x, cv, h⟩
 ·omega
 ·omega
 ·obtain ⟨T1, T2, ⟨T3, T4, ⟨T5, T6, -, a2, -⟩, -⟩, -⟩ := h
  have := out_is a2
  rw [kx_out] at this
  exact this
theorem hist18 (hj : RoundJ W0 (KN Emp W0.heap.size mp wp tb tc c0 kt) 18 V) : Calls Tryz.prog 11 #[ptrN mp] V fun e w' => ∃ q, e = .returned (.agg #[.slice (some ⟨q, 0, none⟩) 1 1, .slice none 0 0]) ∧ (∀ j u, kx.cells[j]? = some u → w'.cell? ⟨q, j, none⟩ = some u) ∧ Below V.heap.size V w' := by
 obtain ⟨S, h, -⟩ := hj
 rcases KN_cases (Nat.le_refl _) h with ⟨h1, -⟩ | ⟨-, h1, -⟩ | ⟨-, x, cv, h⟩
 ·omega
 ·omega
 ·obtain ⟨g, gc, rfl, hcs⟩ : ∃ g gc, cv = .slice (some ⟨g, 0, none⟩) 1 gc ∧ ∀ j u, calledK[j]? = some u → V.cell? ⟨g, j, none⟩ = some u := by
   obtain ⟨T1, T2, -, ⟨T3, T4, -, ⟨h1, -⟩, -⟩, -⟩ := h
   obtain ⟨g2, o2, c2, e2, -, -, -, ht, hx2⟩ := (Row.of_owns h1).some (by simp)
   obtain ⟨g3, c3, e3⟩ : ∃ g3 c3, cv = .slice (some ⟨g3, 0, none⟩) 1 c3 := by
    rcases h1.2 with ⟨-, h⟩ | ⟨g, cap, cur, h, -⟩
    ·omega
    ·exact ⟨g, cap, h⟩
   rw [e3] at e2
   obtain ⟨ha, -, rfl⟩ := slice_inj e2
   have := Option.some.inj ha
   injection this with e1 e4
   subst e1
   subst e4
   exact ⟨g3, c3, e3, fun j u hj => by have := (hx2 j u hj).1; rwa [Nat.zero_add] at this⟩
  obtain ⟨S8, hwi⟩ : ∃ S8, WorldIs wp (kt 18) V S8 := by
   obtain ⟨T1, T2, -, ⟨T3, T4, ⟨thn, T5, T6, h1, -⟩, -⟩, -⟩ := h
   exact ⟨T5, h1⟩
  exact hist_any (Star.mach h) (by rfl) (by simp [Value.oneCell']) hcs hwi rfl
end
theorem line_is : setLine.toArray = #[115, 101, 116, 32, 97, 32, 48, 32, 48, 32, 49, 13, 10, 120, 13, 10] := rfl
theorem lives39 (w : World) (hE : EnvP w.heap.size w) : Calls Tryz.prog 4 #[] w fun e w' => e = .returned (.bool true) ∧ Below w.heap.size w w' := by
 obtain ⟨b0, hb0⟩ := xE (w.heap.size)
 obtain ⟨w1, hw1⟩ := xE (w.alloc (.cells #[.int .i64 2, .int .i64 8, .int .i64 3, .int .i64 1, .int .i64 16, .int .i64 1] 42))
 have hb1 : Below w.heap.size w w1 := bal hw1
 have hz1 : w1.heap.size = w.heap.size + 1 := by rw [hw1, size_at]
 have hq1 : ∀ j v, ([.int .i64 2, .int .i64 8, .int .i64 3, .int .i64 1, .int .i64 16, .int .i64 1] : List Value)[j]? = some v → w1.drew.cell? ⟨b0, j, none⟩ = some v := fun j v hj => by
  show w1.cell? ⟨b0, j, none⟩ = some v
  rw [hw1, hb0]
  have := (cellsAt (heap_mem w (.cells #[.int .i64 2, .int .i64 8, .int .i64 3, .int .i64 1, .int .i64 16, .int .i64 1] 42)) j).1
  rw [this]
  simpa using hj
 have qs := bslice2
 have hw16 : IntKind.u8.wrap 16 = 16 := rfl
 have HRN := hidZ (fun (V : World) (bv : Value) (hb : Below w.heap.size w V) (hr : BRow V bv scrL) (hk : ∀ g, bv.ownBlock = some g → g < V.heap.size) => runRun_any (envUp hE hb) hr hk)
 have HB1 := hidZ (And.intro hb1 hz1)
 clear hE hb1 hz1
 go_enter Tryz.func4, Tryz.ntmps4
 go_upto_region 3 with fail
 rw [← hw1, ← hb0]
 clear hw1 hb0
 go_cut [3, 4] (fun s3 s4 wx => ∃ W0 mp wp tb tc c0, s3 = ptrN mp ∧ s4 = .int .i64 0 ∧ Hid (Below w.heap.size w W0 ∧ RoundJ W0 (KN Emp W0.heap.size mp wp tb tc c0 kt) 0 wx))
 case first =>
  refine wp_region_held_drew (S := fun V => ∀ j v, ([.int .i64 2, .int .i64 8, .int .i64 3, .int .i64 1, .int .i64 16, .int .i64 1] : List Value)[j]? = some v → V.cell? ⟨b0, j, none⟩ = some v) (by kernel_rfl) hq1 (fun hHe => ?_)
  obtain ⟨wz, hwz⟩ := xE (w1.drew)
  rw [← hwz] at hHe ⊢
  have HZ := hidZ (show Below w.heap.size w wz from by rw [hwz]; exact low_drew1 HB1.out.1)
  clear hwz
  refine wpAnyH_take (i := 0) rfl (by kernel_rfl) (by kernel_rfl) (by kernel_rfl) (fun _ _ _ h => h) (yieldsIf_load_mid (by rfl) 42 (.tmp 2) (by rfl) b0 0 (by rfl) [.int .i64 2, .int .i64 8, .int .i64 3, .int .i64 1, .int .i64 16, .int .i64 1] _ (fun w hSw => range_of hSw) Tryz.underlying42 rfl (by kernel_rfl)) (by assumption) ?_
  try simp only [tp, tz]
  refine tkz 1 rfl ?_
  try simp only [tp, tz]
  refine tkz 2 rfl ?_
  try simp only [tp, tz]
  refine tkz 3 rfl ?_
  try simp only [tp, tz]
  refine tkz 5 rfl ?_
  try simp only [tp, tz]
  refine wpAnyH_ready (rs := [4, 6]) (by kernel_rfl) (by simp) ?_
  refine (AllReadyH.cons rfl (fun K hK => ?_) (AllReadyH.cons rfl (fun K hK => ?_) AllReadyH.nil))
  ·
   obtain ⟨h, hh⟩ := xE (wz.heap.size)
   obtain ⟨wb, hwb⟩ := xE (wz.alloc (.cells #[.int .u8 0, .int .u8 16] 5))
   have hbb : Below wz.heap.size wz wb := bal hwb
   have hqb : wb.heap[h]? = some (.cells #[.int .u8 0, .int .u8 16] 5 (0, 0)) := by rw [hwb, hh]; exact heap_mem wz _
   go_simp
   rw [← hwb, ← hh]
   have hH4 : ∀ j v, ([.int .i64 2, .int .i64 8, .int .i64 3, .int .i64 1, .int .i64 16, .int .i64 1] : List Value)[j]? = some v → wb.cell? ⟨b0, j, none⟩ = some v := (fun j v hj => (hbb.cell (p := ⟨b0, j, none⟩) (cell_lt (hHe j v hj))).trans (hHe j v hj))
   clear hwb
   refine hK.out _ _ hH4 (fun hHf => ?_)
   clear hK K
   try simp only [tp, tz]
   refine rdy 6 rfl (fun K hK => ?_)
   obtain ⟨c, wc, hcv, hbc, hzc, hxc⟩ := convLine wb
   obtain ⟨g, hgg⟩ := xE (wb.heap.size)
   rw [← hgg] at hcv hxc
   have hH6 : ∀ j v, ([.int .i64 2, .int .i64 8, .int .i64 3, .int .i64 1, .int .i64 16, .int .i64 1] : List Value)[j]? = some v → wc.cell? ⟨b0, j, none⟩ = some v := (fun j v hj => (hbc.cell (p := ⟨b0, j, none⟩) (cell_lt (hH4 j v hj))).trans (hH4 j v hj))
   have hcv2 := line_is ▸ hcv
   have hqb2 := boxAt hqb hbc
   clear hzc
   go_simp
   refine hK.out _ _ hH6 (fun hHf => ?_)
   clear hK K
   try simp only [tp, tz]
   obtain ⟨v', wd, hrun, hbr, hbk, hgr⟩ := app_script (c := c) hqb2 hxc
   have hbd : Below w.heap.size w wd := by
    have h1 := HZ.out.trans ((hbb.trans (hbc.mono hbb.size)).mono HZ.out.size)
    exact h1.trans ((Chg.of_grown (M := fun k => k = h) hgr (fun _ _ e => (Option.some.inj e).symm)).below (fun k hk => ⟨Nat.lt_of_lt_of_le hk h1.size, fun e => by have := HZ.out.size; omega⟩))
   have hHd : ∀ j v, ([.int .i64 2, .int .i64 8, .int .i64 3, .int .i64 1, .int .i64 16, .int .i64 1] : List Value)[j]? = some v → wd.cell? ⟨b0, j, none⟩ = some v := fun j v hj => (Chg.of_grown (M := fun k => k = h) hgr (fun _ _ e => (Option.some.inj e).symm)).cell (hH6 j v hj) (fun e => by have := cell_lt (hHe j v hj); omega)
   have HR2 := hidZ (HRN.out wd v' hbd hbr hbk)
   clear hgr hbr hbk
   rw [hh, hgg] at hrun
   refine rdy 7 rfl (fun K hK => ?_)
   rw [if_pos (by rfl)]
   refine wp_append_run (.tmp 17) (.tmp 19) 47 (by rfl) _ _ _ (by rfl) (by rfl) hrun ?_
   refine hK.out _ _ hHd (fun hHf => ?_)
   clear hK K
   try simp only [tp, tz]
   refine rdy 8 rfl (fun K hK => ?_)
   go_simp
   go_at_call 7
   refine (HR2.out).mono ?_
   rintro e w5 ⟨W0, mp, wp, tb, tc, c0, rfl, hbW, hj⟩
   have hbw5 : Below wd.heap.size wd w5 := by
    obtain ⟨-, -, -, -, hb⟩ := hj
    exact hbW.trans (hb.mono hbW.size)
   have HJ := hidZ (And.intro (hbd.trans (hbW.mono hbd.size)) hj)
   clear hj hbW HR2
   refine hK.out _ _ (fun j v hj2 => (hbw5.cell (p := ⟨b0, j, none⟩) (cell_lt (hHd j v hj2))).trans (hHd j v hj2)) (fun hHf => ?_)
   clear hK K
   try simp only [tp, tz]
   refine tkz 9 rfl ?_
   try simp only [tp, tz]
   refine tkz 10 rfl ?_
   try simp only [tp, tz]
   refine tkz 11 rfl ?_
   try simp only [tp, tz]
   refine tkz 12 rfl ?_
   try simp only [tp, tz]
   refine tkz 13 rfl ?_
   try simp only [tp, tz]
   refine wpAnyH_done (by kernel_rfl) ?_ _
   clear hHe
   go_wp2_with fail
   go_meet
   case rel => exact ⟨W0, mp, wp, tb, tc, c0, rfl, rfl, HJ⟩
  ·
   obtain ⟨c, wc, hcv, hbc, hzc, hxc⟩ := convLine wz
   obtain ⟨g, hgg⟩ := xE (wz.heap.size)
   rw [← hgg] at hcv hxc
   have hH6 : ∀ j v, ([.int .i64 2, .int .i64 8, .int .i64 3, .int .i64 1, .int .i64 16, .int .i64 1] : List Value)[j]? = some v → wc.cell? ⟨b0, j, none⟩ = some v := (fun j v hj => (hbc.cell (p := ⟨b0, j, none⟩) (cell_lt (hHe j v hj))).trans (hHe j v hj))
   have hcv2 := line_is ▸ hcv
   clear hzc
   go_simp
   refine hK.out _ _ hH6 (fun hHf => ?_)
   clear hK K
   try simp only [tp, tz]
   refine rdy 4 rfl (fun K hK => ?_)
   obtain ⟨h, hh⟩ := xE (wc.heap.size)
   obtain ⟨wb, hwb⟩ := xE (wc.alloc (.cells #[.int .u8 0, .int .u8 16] 5))
   have hbb : Below wc.heap.size wc wb := bal hwb
   have hqb : wb.heap[h]? = some (.cells #[.int .u8 0, .int .u8 16] 5 (0, 0)) := by rw [hwb, hh]; exact heap_mem wc _
   go_simp
   rw [← hwb, ← hh]
   have hH4 : ∀ j v, ([.int .i64 2, .int .i64 8, .int .i64 3, .int .i64 1, .int .i64 16, .int .i64 1] : List Value)[j]? = some v → wb.cell? ⟨b0, j, none⟩ = some v := (fun j v hj => (hbb.cell (p := ⟨b0, j, none⟩) (cell_lt (hH6 j v hj))).trans (hH6 j v hj))
   clear hwb
   have hxc2 : ∀ j x, setLine[j]? = some x → wb.cell? ⟨g, j, none⟩ = some (u8v x) := fun j x hj => (hbb.cell (p := ⟨g, j, none⟩) (cell_lt (hxc j x hj))).trans (hxc j x hj)
   refine hK.out _ _ hH4 (fun hHf => ?_)
   clear hK K
   try simp only [tp, tz]
   obtain ⟨v', wd, hrun, hbr, hbk, hgr⟩ := app_script (c := c) hqb hxc2
   have hbd : Below w.heap.size w wd := by
    have h1 := HZ.out.trans ((hbc.trans (hbb.mono hbc.size)).mono HZ.out.size)
    exact h1.trans ((Chg.of_grown (M := fun k => k = h) hgr (fun _ _ e => (Option.some.inj e).symm)).below (fun k hk => ⟨Nat.lt_of_lt_of_le hk h1.size, fun e => by have := HZ.out.size; have := hbc.size; omega⟩))
   have hHd : ∀ j v, ([.int .i64 2, .int .i64 8, .int .i64 3, .int .i64 1, .int .i64 16, .int .i64 1] : List Value)[j]? = some v → wd.cell? ⟨b0, j, none⟩ = some v := fun j v hj => (Chg.of_grown (M := fun k => k = h) hgr (fun _ _ e => (Option.some.inj e).symm)).cell (hH4 j v hj) (fun e => by have := cell_lt (hHe j v hj); have := hbc.size; omega)
   have HR2 := hidZ (HRN.out wd v' hbd hbr hbk)
   clear hgr hbr hbk
   rw [hgg] at hrun
   refine rdy 7 rfl (fun K hK => ?_)
   rw [if_pos (by rfl)]
   refine wp_append_run (.tmp 17) (.tmp 19) 47 (by rfl) _ _ _ (by rfl) (by rfl) hrun ?_
   refine hK.out _ _ hHd (fun hHf => ?_)
   clear hK K
   try simp only [tp, tz]
   refine rdy 8 rfl (fun K hK => ?_)
   go_simp
   go_at_call 7
   refine (HR2.out).mono ?_
   rintro e w5 ⟨W0, mp, wp, tb, tc, c0, rfl, hbW, hj⟩
   have hbw5 : Below wd.heap.size wd w5 := by
    obtain ⟨-, -, -, -, hb⟩ := hj
    exact hbW.trans (hb.mono hbW.size)
   have HJ := hidZ (And.intro (hbd.trans (hbW.mono hbd.size)) hj)
   clear hj hbW HR2
   refine hK.out _ _ (fun j v hj2 => (hbw5.cell (p := ⟨b0, j, none⟩) (cell_lt (hHd j v hj2))).trans (hHd j v hj2)) (fun hHf => ?_)
   clear hK K
   try simp only [tp, tz]
   refine tkz 9 rfl ?_
   try simp only [tp, tz]
   refine tkz 10 rfl ?_
   try simp only [tp, tz]
   refine tkz 11 rfl ?_
   try simp only [tp, tz]
   refine tkz 12 rfl ?_
   try simp only [tp, tz]
   refine tkz 13 rfl ?_
   try simp only [tp, tz]
   refine wpAnyH_done (by kernel_rfl) ?_ _
   clear hHe
   go_wp2_with fail
   go_meet
   case rel => exact ⟨W0, mp, wp, tb, tc, c0, rfl, rfl, HJ⟩
 case rest =>
  obtain ⟨W0, mp, wp, tb, tc, c0, rfl, rfl, HC⟩ := hcut
  clear qs hw16 HRN hq1
  have hpn := wptr_nil
  have HWI := hidZ (wins_any (mp := mp) (wp := wp) (tb := tb) (tc := tc) (c0 := c0) framed_emp W0)
  have HWD := hidZ (show Calls Tryz.prog 8 #[ptrN mp] wc fun e w' => e = .returned (ptrN wp) ∧ wc = w' from by
   obtain ⟨S, h, -⟩ := HC.out.2
   rcases KN_cases (by omega) h with ⟨-, h⟩ | ⟨h1, -⟩ | ⟨h1, -⟩
   ·exact mWorld_any (Star.mach h)
   ·omega
   ·omega)
  have HFI := hidZ (rfinish_any HWI.out HC.out.2)
  have HR0 := hidZ HC.out.1
  clear HC HB1
  go_wp2_with fail
  refine HWD.out.mono ?_
  rintro e w2 ⟨rfl, rfl⟩
  clear HWD
  go_upto_region 6 with fail
  go_wp2_with fail
  refine HFI.out.mono ?_
  rintro e w2 ⟨rfl, hj⟩
  have HJ := hidZ hj
  have HK := hidZ (fun (V : World) (hb : Below w2.heap.size w2 V) => RoundJ.below (HWI.out.framed 18) hj hb)
  have HOU := hidZ (outs_any (fun V hb => HWI.out.conns 18 V (Nat.le_refl _) (HK.out V hb)) (fun V hb => conn18 (HK.out V hb)) (fun V hb => out18 (HK.out V hb)))
  clear hj HFI hpn
  go_wp2_with fail
  refine HOU.out.mono ?_
  rintro e w3 ⟨g, gc, rfl, hg0, hb3⟩
  have HG := hidZ (And.intro hg0 hb3)
  have HHI := hidZ (hist18 (HK.out w3 hb3))
  have hhf := histField
  clear hg0 hb3 HOU
  go_wp2_with fail
  refine HHI.out.mono ?_
  rintro e w4 ⟨q, rfl, hq, hb4⟩
  have hg4 : w4.cell? ⟨g, 0, none⟩ = some (strV [83, 84, 79, 82, 69, 68, 13, 10]) := (hb4.cell (p := ⟨g, 0, none⟩) (cell_lt HG.out.1)).trans HG.out.1
  have hix : ∀ W : World, (Instr.indexAt 52 (.slice (some ⟨g, 0, none⟩) 1 gc) (.int .i64 0)).run Tryz.prog W = .ok (.pointer (some ⟨g, 0, none⟩)) W := fun W => by
   have h2 := Tryz.underlying52
   go_simp
  have hix2 := calledAt q
  have HB4 := hidZ (HG.out.2.trans (hb4.mono HG.out.2.size))
  have HQ := hidZ hq
  have hpw : HasPow w4 := by
   obtain ⟨S, -, hE, -⟩ := HK.out w4 HB4.out
   exact hE.pow
  have HRO := hidZ (rowWords_any kx kx_ok hpw)
  clear hq hb4 hpw HHI
  go_wp2_with (first
   | ((with_reducible show wpList _ _ _ (⟨_, Op.load _ (.tmp 56), _, _, _, _⟩ :: _) _ _); refine wpList_load_mid (by rfl) 33 (.tmp 56) (by rfl) q 0 (by rfl) kx.cells _ (range_of HQ.out) Tryz.underlying33 rfl (by kernel_rfl) ?_)
   | fail)
  refine HRO.out.mono ?_
  rintro e w5 ⟨rfl, hb5⟩
  obtain ⟨R, hR⟩ := xE (rowL kx)
  obtain ⟨T, hT⟩ := xE (R ++ [10])
  rw [← hR]
  have HB5 := hidZ (HB4.out.trans (hb5.mono HB4.out.size))
  have HJ5 := hidZ (HK.out w5 HB5.out)
  have HPX := hidZ (show Calls Tryz.prog 12 #[strV R, .string ⟨#[48, 32, 115, 101, 116, 32, 97, 32, 48, 32]⟩] w5 fun e w' => e = .returned (.bool true) ∧ w' = w5 from by
   have h := Tryz.strings_HasPrefix ⟨R.toArray⟩ ⟨#[48, 32, 115, 101, 116, 32, 97, 32, 48, 32]⟩ w5
   rw [show Lib.hasPrefix (⟨R.toArray⟩ : ByteArray).data.toList (⟨#[48, 32, 115, 101, 116, 32, 97, 32, 48, 32]⟩ : ByteArray).data.toList = true from by rw [hR, kx_row]; decide] at h
   exact h)
  have HSX := hidZ (show Calls Tryz.prog 13 #[strV R, .string ⟨#[32, 115, 116, 111, 114, 101, 100, 32, 49]⟩] w5 fun e w' => e = .returned (.bool true) ∧ w' = w5 from by
   have h := Tryz.strings_HasSuffix ⟨R.toArray⟩ ⟨#[32, 115, 116, 111, 114, 101, 100, 32, 49]⟩ w5 (by rw [hR, kx_row]; decide)
   rw [show Lib.hasSuffix (⟨R.toArray⟩ : ByteArray).data.toList (⟨#[32, 115, 116, 111, 114, 101, 100, 32, 49]⟩ : ByteArray).data.toList = true from by rw [hR, kx_row]; decide] at h
   exact h)
  have HRS := hidZ (show Calls Tryz.prog 14 #[ptrN mp] w5 fun e w' => e = .returned (strV T) ∧ Below w5.heap.size w5 w' from by
   rw [hT, hR]
   exact rows_any kx_ok (by obtain ⟨S, -, hE, -⟩ := HJ5.out; exact hE.pow) (by rw [kx_row]; decide) (fun V hb => hist18 (HK.out V (HB5.out.trans (hb.mono HB5.out.size)))))
  have hst : ∀ W : World, (Op.stringOp .add ⟨R.toArray⟩ ⟨#[10]⟩).run Tryz.prog W = .ok (strV T) W := fun W => by
   rw [hT]
   exact cat_sv R [10] (by rw [hR, kx_row]; decide) W
  clear hb5 hR hT HRO hix hix2 hg4 hhf HG
  go_wp2_with fail
  refine HPX.out.mono ?_
  rintro e w6 ⟨rfl, rfl⟩
  go_wp2_with fail
  refine HSX.out.mono ?_
  rintro e w6 ⟨rfl, rfl⟩
  go_wp2_with fail
  refine HRS.out.mono ?_
  rintro e w6 ⟨rfl, hb6⟩
  have HB6 := hidZ (show Below w.heap.size w w6 from by
   obtain ⟨S, -, -, -, hb⟩ := HJ5.out
   have h1 := HR0.out.trans (hb.mono HR0.out.size)
   exact h1.trans (hb6.mono h1.size))
  clear hb6
  go_wp2_with fail
  go_ret
  exact ⟨by simp, HB6.out⟩
open Go.RowKit Go.ChangeMaps Go.MapKept
structure RowRaw (x : RowD) : Prop where
 th : RI64 x.th
 fr : RI64 x.fr
 tt : RI64 x.tt
 pt : RI64 x.pt
 vb : x.vb < 256
 kd : x.kd < 256
 num : x.num < 18446744073709551616
 iid : x.iid < 18446744073709551616
 key : x.key.length ≤ 140737488355328
 val : x.val.size ≤ 140737488355328
 ik : x.ik.size ≤ 140737488355328
 iv : x.iv.size ≤ 140737488355328
structure RowLS (w : World) (b0 b3 : Nat) (x : RowD) (V : World) : Prop where
 one : V.heap[b0]? = some (.cells x.cells.toArray 33 (0, 0))
 two : V.heap[b3]? = some (.cells x.cells.toArray 35 (0, 0))
 low : Below w.heap.size w V
theorem range_heap {V : World} {b : Nat} {cs : List Value} {t : TypeId} (h : V.heap[b]? = some (.cells cs.toArray t (0, 0))) : V.rangeAt b 0 cs := range_of (fun j u hj => by
 rw [(cellsAt h j).1]
 simpa using hj)
section
variable {w V V' : World} {b0 b3 : Nat} {x : RowD}
theorem RowLS.range1 (h : RowLS w b0 b3 x V) : V.rangeAt b0 0 x.cells := range_heap h.one
theorem RowLS.range2 (h : RowLS w b0 b3 x V) : V.rangeAt b3 0 x.cells := range_heap h.two
theorem RowLS.drew (h : RowLS w b0 b3 x V) : RowLS w b0 b3 x V.drew := ⟨h.one, h.two, low_drew1 h.low⟩
theorem RowLS.below (h : RowLS w b0 b3 x V) (hb : Below V.heap.size V V') : RowLS w b0 b3 x V' := ⟨boxAt h.one hb, boxAt h.two hb, h.low.trans (hb.mono h.low.size)⟩
end
theorem ref34_build (x : RowD) (W : World) : (Instr.build 35 #[(0, .int .i64 x.th), (1, .agg #[.int .u8 (x.vb : Int), strV x.key, .string x.val, .int .u32 x.fl, .int .i64 x.exp, .int .u64 x.id, .int .u64 x.by']), (2, .int .i64 x.fr), (3, .int .i64 x.tt), (4, .agg #[.int .u8 (x.kd : Int), .int .u64 (x.num : Int), .string x.ik, .string x.iv, .int .u32 x.ifl, .int .u64 (x.iid : Int), .int .i64 x.dies, .int .i64 x.gen]), (5, .int .u64 x.ep), (6, .int .i64 x.pt)]).run Tryz.prog W = .ok (.agg x.cells.toArray) W := by kernel_rfl
theorem runsRow_walk {w : World} {x : RowD} (hx : RowRaw x) (hE : EnvP w.heap.size w) : Calls Tryz.prog 3 #[.agg x.cells.toArray] w fun e w' => e = .returned (.bool true) ∧ Below w.heap.size w w' := by
 obtain ⟨b0, hb0⟩ := xE (w.heap.size)
 obtain ⟨w1, hw1⟩ := xE (w.alloc (.cells x.cells.toArray 33))
 have hb1 : Below w.heap.size w w1 := bal hw1
 have hq1 : w1.heap[b0]? = some (.cells x.cells.toArray 33 (0, 0)) := by rw [hw1, hb0]; exact heap_mem w _
 have hc : ∀ j v, x.cells[j]? = some v → w1.cell? ⟨b0, j, none⟩ = some v := fun j v hj => by
  rw [(cellsAt hq1 j).1]
  simpa using hj
 obtain ⟨K, hK⟩ : ∃ K : ByteArray, K = ⟨x.key.toArray⟩ := ⟨_, rfl⟩
 have hks : K.size = x.key.length := by rw [hK]; exact sv_size _
 have c2 : w1.cell? ⟨b0, 2, none⟩ = some (.string K) := by rw [hK]; exact hc 2 _ rfl
 have c3 : w1.cell? ⟨b0, 3, none⟩ = some (.string x.val) := hc 3 _ rfl
 have c12 : w1.cell? ⟨b0, 12, none⟩ = some (.string x.ik) := hc 12 _ rfl
 have c13 : w1.cell? ⟨b0, 13, none⟩ = some (.string x.iv) := hc 13 _ rfl
 have h1 := hx.key
 rw [← hks] at h1
 have h2 := hx.val
 have h3 := hx.ik
 have h4 := hx.iv
 have HE := hidZ (fun (V : World) (h : Below w.heap.size w V) => envUp hE h)
 have HL1 := hidZ (lives39 w1 (envUp hE hb1))
 have HB1 := hidZ hb1
 have HQ1 := hidZ (And.intro hq1 hc)
 have HXR := hidZ (And.intro hx hks)
 have HKK := hidZ hK
 clear hx hE hb1 hq1 hc hks hK
 by_cases h3000 : 3000 < K.size + x.val.size + x.ik.size + x.iv.size
 ·clear HE
  go_enter Tryz.func3, Tryz.ntmps3
  go_upto_region 1 with fail
  rw [← hw1, ← hb0]
  clear hw1 hb0
  go_wp2_with fail
  refine HL1.out.mono ?_
  rintro e w2 ⟨rfl, hb2⟩
  have HB2 := hidZ (HB1.out.trans (hb2.mono HB1.out.size))
  clear hb2
  go_wp2_with fail
  go_ret
  exact ⟨rfl, HB2.out⟩
 ·go_enter Tryz.func3, Tryz.ntmps3
  go_upto_region 1 with fail
  rw [← hw1, ← hb0]
  clear hw1 hb0
  go_upto_region 3 with fail
  have HX := hidZ (show x.Ok from ⟨HXR.out.1.th, HXR.out.1.fr, HXR.out.1.tt, HXR.out.1.pt, HXR.out.1.vb, HXR.out.1.kd, HXR.out.1.num, HXR.out.1.iid, by rw [← HXR.out.2]; omega⟩)
  obtain rfl := HKK.out
  clear h3000 h1 h2 h3 h4 HXR HKK c2 c3 c12 c13
  have c0 : w1.cell? ⟨b0, 0, none⟩ = some _ := HQ1.out.2 0 _ rfl
  have c1 : w1.cell? ⟨b0, 1, none⟩ = some _ := HQ1.out.2 1 _ rfl
  have c2 : w1.cell? ⟨b0, 2, none⟩ = some _ := HQ1.out.2 2 _ rfl
  have c3 : w1.cell? ⟨b0, 3, none⟩ = some _ := HQ1.out.2 3 _ rfl
  have c4 : w1.cell? ⟨b0, 4, none⟩ = some _ := HQ1.out.2 4 _ rfl
  have c5 : w1.cell? ⟨b0, 5, none⟩ = some _ := HQ1.out.2 5 _ rfl
  have c6 : w1.cell? ⟨b0, 6, none⟩ = some _ := HQ1.out.2 6 _ rfl
  have c7 : w1.cell? ⟨b0, 7, none⟩ = some _ := HQ1.out.2 7 _ rfl
  have c8 : w1.cell? ⟨b0, 8, none⟩ = some _ := HQ1.out.2 8 _ rfl
  have c9 : w1.cell? ⟨b0, 9, none⟩ = some _ := HQ1.out.2 9 _ rfl
  have c10 : w1.cell? ⟨b0, 10, none⟩ = some _ := HQ1.out.2 10 _ rfl
  have c11 : w1.cell? ⟨b0, 11, none⟩ = some _ := HQ1.out.2 11 _ rfl
  have c12 : w1.cell? ⟨b0, 12, none⟩ = some _ := HQ1.out.2 12 _ rfl
  have c13 : w1.cell? ⟨b0, 13, none⟩ = some _ := HQ1.out.2 13 _ rfl
  have c14 : w1.cell? ⟨b0, 14, none⟩ = some _ := HQ1.out.2 14 _ rfl
  have c15 : w1.cell? ⟨b0, 15, none⟩ = some _ := HQ1.out.2 15 _ rfl
  have c16 : w1.cell? ⟨b0, 16, none⟩ = some _ := HQ1.out.2 16 _ rfl
  have c17 : w1.cell? ⟨b0, 17, none⟩ = some _ := HQ1.out.2 17 _ rfl
  have c18 : w1.cell? ⟨b0, 18, none⟩ = some _ := HQ1.out.2 18 _ rfl
  have c19 : w1.cell? ⟨b0, 19, none⟩ = some _ := HQ1.out.2 19 _ rfl
  obtain ⟨b3, hb3⟩ := xE (w1.heap.size)
  have hbx : (w1.alloc (.cells #[.int .i64 0, .int .u8 0, .string ⟨#[]⟩, .string ⟨#[]⟩, .int .u32 0, .int .i64 0, .int .u64 0, .int .u64 0, .int .i64 0, .int .i64 0, .int .u8 0, .int .u64 0, .string ⟨#[]⟩, .string ⟨#[]⟩, .int .u32 0, .int .u64 0, .int .i64 0, .int .i64 0, .int .u64 0, .int .i64 0] 35)).heap[w1.heap.size]? = some (.cells #[.int .i64 0, .int .u8 0, .string ⟨#[]⟩, .string ⟨#[]⟩, .int .u32 0, .int .i64 0, .int .u64 0, .int .u64 0, .int .i64 0, .int .i64 0, .int .u8 0, .int .u64 0, .string ⟨#[]⟩, .string ⟨#[]⟩, .int .u32 0, .int .u64 0, .int .i64 0, .int .i64 0, .int .u64 0, .int .i64 0] 35 (0, 0)) := heap_mem w1 _
  have hba : Below w1.heap.size w1 (w1.alloc (.cells #[.int .i64 0, .int .u8 0, .string ⟨#[]⟩, .string ⟨#[]⟩, .int .u32 0, .int .i64 0, .int .u64 0, .int .u64 0, .int .i64 0, .int .i64 0, .int .u8 0, .int .u64 0, .string ⟨#[]⟩, .string ⟨#[]⟩, .int .u32 0, .int .u64 0, .int .i64 0, .int .i64 0, .int .u64 0, .int .i64 0] 35)) := (Below.refl _ _).alloc (Nat.le_refl _) _
  have HBA := hidZ (And.intro hbx (And.intro hba hb3))
  have hrb := ref34_build x
  clear hbx hba hb3
  go_upto_region 4 with (first
   | ((with_reducible show wpList _ _ _ (⟨none, Op.store _ _ _, _, _, _, _⟩ :: _) _ _); refine wpList_store_whole (by rfl) 35 (.tmp 3) (.tmp 41) (by rfl) w1.heap.size (by rfl) x.cells.toArray (by rfl) _ 35 HBA.out.1 (by rfl) (by kernel_rfl) (called_one x) ?_; intro w4 hq4 hg4 hz4)
   | fail)
  have hb14 : Below w1.heap.size w1 w4 := HBA.out.2.1.trans ((Chg.of_grown (M := fun k => k = w1.heap.size) hg4 (fun _ _ e => (Option.some.inj e).symm)).below (fun k hk => ⟨Nat.lt_of_lt_of_le hk HBA.out.2.1.size, fun e => by omega⟩))
  have HS := hidZ (show RowLS w b0 w1.heap.size x w4 from ⟨boxAt HQ1.out.1 hb14, hq4, HB1.out.trans (hb14.mono HB1.out.size)⟩)
  clear hb14 hq4 hg4 hz4 HBA hrb c0 c1 c2 c3 c4 c5 c6 c7 c8 c9 c10 c11 c12 c13 c14 c15 c16 c17 c18 c19 HQ1 HL1
  try simp only [Act.put]
  refine wp_region_held_drew (S := fun V => RowLS w b0 w1.heap.size x V) (by kernel_rfl) HS.out.drew (fun hHe => ?_)
  refine wpAnyH_take (i := 0) rfl (by kernel_rfl) (by kernel_rfl) (by kernel_rfl) (fun _ _ _ h => h) (yieldsIf_load_mid (by rfl) 33 (.tmp 1) (by rfl) b0 0 (by rfl) x.cells _ (fun w hSw => hSw.range1) Tryz.underlying33 rfl (by kernel_rfl)) (by assumption) ?_
  try simp only [tp, tz]
  refine wpAnyH_take (i := 2) rfl (by kernel_rfl) (by kernel_rfl) (by kernel_rfl) (fun _ _ _ h => h) (yieldsIf_load_mid (by rfl) 35 (.tmp 3) (by rfl) w1.heap.size 0 (by rfl) x.cells _ (fun w hSw => hSw.range2) Tryz.underlying35 rfl (by kernel_rfl)) (by assumption) ?_
  try simp only [tp, tz]
  refine rdy 1 rfl (fun K hK => ?_)
  have HC1 := hidZ (rowWords_any x HX.out (HE.out _ hHe.low).pow)
  go_simp
  go_at_call 5
  refine (HC1.out).mono ?_
  rintro e V1 ⟨rfl, hb1⟩
  have hH1 := hHe.below hb1
  clear hb1 HC1
  refine hK.out _ _ hH1 (fun hHf => ?_)
  clear hK K
  try simp only [tp, tz]
  obtain ⟨Q, hQ⟩ := xE (rowL x)
  rw [← hQ]
  have HQQ := hidZ hQ
  clear hQ
  refine rdy 3 rfl (fun K hK => ?_)
  have HC3 := hidZ (refRow_any (w := V1) x HX.out)
  go_simp
  go_at_call 6
  refine (HC3.out).mono ?_
  rintro e V3 ⟨rfl, hb3⟩
  rw [← HQQ.out]
  have hH3 := hH1.below hb3
  clear hb3 HC3
  refine hK.out _ _ hH3 (fun hHf => ?_)
  clear hK K
  try simp only [tp, tz]
  refine tkz 4 rfl ?_
  try simp only [tp, tz]
  refine tkz 5 rfl ?_
  try simp only [tp, tz]
  have HLV := hidZ (lives39 _ (HE.out _ hH3.low))
  refine rdy 6 rfl (fun K hK => ?_)
  go_simp
  go_at_call 4
  refine (HLV.out).mono ?_
  rintro e V6 ⟨rfl, hb6⟩
  have hH6 := hH3.below hb6
  have HB6 := hidZ hH6.low
  clear hb6 HLV
  refine hK.out _ _ hH6 (fun hHf => ?_)
  clear hK K
  try simp only [tp, tz]
  refine tkz 7 rfl ?_
  try simp only [tp, tz]
  refine tkz 8 rfl ?_
  try simp only [tp, tz]
  refine wpAnyH_done (by kernel_rfl) ?_ _
  clear hHe
  go_wp2_with fail
  go_ret
  exact ⟨rfl, HB6.out⟩
end Go.Proofs.YtnkkoicbnbjlnaaGreatDoor.One
