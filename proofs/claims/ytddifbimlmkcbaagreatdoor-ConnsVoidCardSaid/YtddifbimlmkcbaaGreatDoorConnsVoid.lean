/- The law ConnsVoid, walked: no connection answers nothing, a connection that no call made is a new one. Condition: the library's variables are as they are laid. -/
import Derived.Test.YtddifbimlmkcbaaGreatDoorCoI
import Derived.Test.YtddifbimlmkcbaaGreatDoorLowH
namespace Go.Proofs.YtddifbimlmkcbaaGreatDoor
open Go.RowKit Go.ChangeMaps Go.MapKept
set_option maxRecDepth 100000 in
set_option maxHeartbeats 2000000 in
theorem nilIn (w : World) (bv : Value) : Calls Tryz.prog 22 #[.pointer none, bv] w fun e w' => (∃ v, e = .returned v) ∧ Below w.heap.size w w' := by
  go_enter Tryz.func22, Tryz.ntmps22
  go_wp2_with fail
  exact bodyPost_end (results_none (by exact Tryz.results22) _ _ _) rfl ⟨⟨_, rfl⟩, Below.refl _ _⟩
set_option maxRecDepth 100000 in
set_option maxHeartbeats 2000000 in
theorem nilNext (w : World) : Calls Tryz.prog 26 #[.pointer none] w fun e w' => e = .returned (.tuple #[.agg callZero, .bool false]) ∧ Below w.heap.size w w' := by
  have HB := Lib.hid (show Below w.heap.size w (w.alloc (.cells callZero 39)) from (Below.refl _ _).alloc (Nat.le_refl _) _)
  go_enter Tryz.func26, Tryz.ntmps26
  go_wp2_with (first
      | ((with_reducible show bodyPost _ _ _ Exit.ret _ _); exact bodyPost_ret (v := .tuple #[.agg callZero, .bool false]) (results_row_tmp rfl _ _ w.heap.size _ _ _ _ (by rfl) (heap_alloc_new _ _) Tryz.underlying39 rfl (by kernel_rfl) _ (by rfl)) rfl ⟨rfl, HB.out⟩)
      | fail)
set_option maxRecDepth 100000 in
set_option maxHeartbeats 2000000 in
theorem nilDone (w : World) (a : AnsD) : Calls Tryz.prog 24 #[.pointer none, a.val] w fun e w' => e = .returned (.int .i64 2) ∧ Below w.heap.size w w' := by
  go_enter Tryz.func24, Tryz.ntmps24
  go_wp2_with fail
  go_ret
  exact ⟨rfl, (Below.refl _ _).alloc (Nat.le_refl _) _⟩
set_option maxRecDepth 100000 in
set_option maxHeartbeats 2000000 in
theorem nilOut (w : World) : Calls Tryz.prog 19 #[.pointer none] w fun e w' => e = .returned (.string ⟨#[]⟩) ∧ Below w.heap.size w w' := by
  go_enter Tryz.func19, Tryz.ntmps19
  go_wp2_with fail
  go_ret
  exact ⟨rfl, Below.refl _ _⟩
set_option maxRecDepth 100000 in
set_option maxHeartbeats 2000000 in
theorem nilClosed (w : World) : Calls Tryz.prog 18 #[.pointer none] w fun e w' => e = .returned (.bool false) ∧ Below w.heap.size w w' := by
  go_enter Tryz.func18, Tryz.ntmps18
  go_wp2_with fail
  go_ret
  exact ⟨rfl, Below.refl _ _⟩
set_option maxRecDepth 100000 in
set_option maxHeartbeats 2000000 in
theorem nilLeft (w : World) : Calls Tryz.prog 29 #[.pointer none] w fun e w' => e = .returned (.int .i64 0) ∧ Below w.heap.size w w' := by
  go_enter Tryz.func29, Tryz.ntmps29
  go_wp2_with fail
  go_ret
  exact ⟨rfl, Below.refl _ _⟩
abbrev connZero : Array Value := #[.int .i64 0, .slice none 0 0, .int .u8 0, .slice none 0 0, .int .u8 0, .string ⟨#[]⟩, .string ⟨#[]⟩, .int .u32 0, .int .i64 0, .int .u64 0, .int .u64 0, .int .i64 0, .bool false, .int .i64 0, .slice none 0 0, .slice none 0 0, .bool false, .slice none 0 0, .bool false]
theorem conn_zero (w : World) : ConnAt w.heap.size (w.alloc (.cells connZero 78)) w.heap.size (.slice none 0 0) (.slice none 0 0) (.slice none 0 0) (.slice none 0 0) (.slice none 0 0) [] cNew :=
  ⟨⟨Nat.le_refl _, heap_alloc_new _ _, World.ownsRow_nil _ _ _ _, Row.nil _ _ _, by decide, by decide⟩, rfl, MidRow.nil _ _ _ _, (fun _ hx => nomatch hx), MidRow.nil _ _ _ _, MidRow.nil _ _ _ _, (fun g hg => by simp [Value.ownBlock] at hg)⟩
section
variable {w W : World} {p r : Nat} {m mm : ConnM} {s : RM} {S R : Nat → Prop} {B K : Nat}
theorem PlH.in0 (h : PlH w W p r m s S R) (ht : Twin m s B K) {bv : Value} {bl : List UInt8} (hB : B + bl.length ≤ 1000000) (hK : K ≤ 1000000000000) (hb : BRow W bv bl) (hbs : bl ≠ [] → ∀ g, bv.ownBlock = some g → g < w.heap.size) :
    Calls Tryz.prog 22 #[.pointer (some ⟨p, 0, none⟩), bv] W fun e V => (∃ v, e = .returned v) ∧ ∃ S', PlH w V p r (inM m bl) s S' R := by
  refine (in_is h.cj.is h.cj.env h.cj.low.size ht.fit hB hK hb (fun hne g hg => .inl (hbs hne g hg)) (fun hne g hg e => by have := hbs hne g hg; have := h.cj.is.low e; omega)).mono ?_
  rintro e V ⟨hv, hst⟩
  obtain ⟨S', h1, -, -⟩ := h.stepC hst
  exact ⟨hv, S', h1⟩
theorem PlH.done0 (h : PlH w W p r m s S R) (hu : m.under = false) (a : AnsD) :
    Calls Tryz.prog 24 #[.pointer (some ⟨p, 0, none⟩), a.val] W fun e V => e = .returned (.int .i64 2) ∧ ∃ S', PlH w V p r m s S' R := by
  refine (connDone_none h.cj.is hu a).mono ?_
  rintro e V ⟨hv, hst⟩
  obtain ⟨S', h1, -, -⟩ := h.stepC hst
  exact ⟨hv, S', h1⟩
end
theorem build_callV (W : World) : (Instr.build 39 #[]).run Tryz.prog W = .ok (.agg callZero) W := by kernel_rfl
theorem run_zero_ne (W : World) : (binOp .neq 39 (.agg callZero) (.agg callZero)).run Tryz.prog W = .ok (.bool false) W := by kernel_rfl
def MayGoV (s : Value) (P : Prop) : Prop := ∃ b : Bool, s = .bool b ∧ (b = false → P)
set_option maxRecDepth 100000 in
set_option maxHeartbeats 16000000 in
theorem connsVoid_walk {w : World} {bv : Value} {bl : List UInt8} {a : AnsD} (hb : BRow w bv bl) (hE : EnvP w.heap.size w) : Calls Tryz.prog 5 #[bv, a.val] w fun e w' => e = .returned (.bool true) ∧ Below w.heap.size w w' := by
  obtain ⟨ba, bc, rfl⟩ := hb.len
  have HBR := Lib.hid (fun W (hb2 : Below w.heap.size w W) => hb.below hb2)
  have HBK := Lib.hid (show bl ≠ [] → ∀ g, (Value.slice ba bl.length bc).ownBlock = some g → g < w.heap.size from fun hne g hg => hb.blk hne hg)
  have HE0 := Lib.hid (fun W (hb : Below w.heap.size w W) => (hE.chg (M := fun _ => False) (Chg.of_below hb) (fun _ e => e.elim)).mono hb.size)
  have HLIV := Lib.hid (fun W (hb : Below w.heap.size w W) => lives32 W (HE0.out W hb))
  have hbm := hb.cap
  unfold maxLen at hbm
  clear hb hE
  go_enter Tryz.func5, Tryz.ntmps5
  go_upto_region 1 with fail
  obtain ⟨W1, hW1⟩ : ∃ z, z = w.alloc (.cells #[.int .u8 a.kind, .int .u64 a.number, .string a.item.key, .string a.item.value, .int .u32 a.item.flags, .int .u64 a.item.id, .int .i64 a.item.dies, .int .i64 a.item.gen] 52) := ⟨_, rfl⟩
  have hb1 : Below w.heap.size w W1 := by rw [hW1]; exact (Below.refl _ _).alloc (Nat.le_refl _) _
  have hx1 : W1.heap[w.heap.size]? = some (.cells #[.int .u8 a.kind, .int .u64 a.number, .string a.item.key, .string a.item.value, .int .u32 a.item.flags, .int .u64 a.item.id, .int .i64 a.item.dies, .int .i64 a.item.gen] 52 (0, 0)) := by rw [hW1, heap_at, if_pos rfl]
  obtain ⟨q, hq⟩ : ∃ z, z = w.heap.size := ⟨_, rfl⟩
  rw [← hW1, ← hq]
  rw [← hq] at hx1
  clear hW1 hq
  have HB1 := Lib.hid hb1
  have HX1 := Lib.hid hx1
  have k2 : W1.cell? ⟨q, 2, none⟩ = some (.string a.item.key) := (block_cell hx1 2).1
  have k3 : W1.cell? ⟨q, 3, none⟩ = some (.string a.item.value) := (block_cell hx1 3).1
  clear hb1 hx1
  go_cut [24] (fun s24 wx => MayGoV s24 (bl.length ≤ 3000) ∧ W1 = wx)
  case first =>
    by_cases h1 : 3000 < bl.length
    · have d1 : decide ((3000 : Int) < (bl.length : Int)) = true := by rw [decide_eq_true_eq]; omega
      go_wp2_with fail
      go_meet
      case rel => exact ⟨⟨true, rfl, fun h => by cases h⟩, rfl⟩
    · have d1 : decide ((3000 : Int) < (bl.length : Int)) = false := by rw [decide_eq_false_iff_not]; omega
      go_wp2_with fail
      go_meet
      case rel => exact ⟨⟨_, rfl, fun _ => by omega⟩, rfl⟩
  case rest =>
  obtain ⟨⟨b24, rfl, h24⟩, rfl⟩ := hcut
  have H24 := Lib.hid h24
  clear h24 k2 k3
  cases b24
  · have hle := H24.out rfl
    clear H24
    go_wp2_with fail
    refine (nilIn W1 _).mono ?_
    rintro e W2 ⟨⟨v2, rfl⟩, hb2⟩
    have HB2 := Lib.hid (HB1.out.trans (hb2.mono HB1.out.size))
    have HX2 := Lib.hid ((Chg.of_below (M := fun _ => False) hb2).obj HX1.out (fun e => e))
    clear hb2 HB1 HX1
    go_wp2_with fail
    refine (nilNext W2).mono ?_
    rintro e W3 ⟨rfl, hb3⟩
    have HB3 := Lib.hid (HB2.out.trans (hb3.mono HB2.out.size))
    have HX3 := Lib.hid ((Chg.of_below (M := fun _ => False) hb3).obj HX2.out (fun e => e))
    clear hb3 HB2 HX2
    go_upto_region 6 with fail
    have hb4 : Below W3.heap.size W3 (W3.alloc (.cells callZero 39)) := (Below.refl _ _).alloc (Nat.le_refl _) _
    have hc4 : (W3.alloc (.cells callZero 39)).heap[W3.heap.size]? = some (.cells callZero 39 (0, 0)) := by rw [heap_at, if_pos rfl]
    have hx4 := (Chg.of_below (M := fun _ => False) hb4).obj HX3.out (fun e => e)
    have hB4 := HB3.out.trans (hb4.mono HB3.out.size)
    obtain ⟨qc, hqc⟩ : ∃ z, z = W3.heap.size := ⟨_, rfl⟩
    rw [← hqc] at hc4 ⊢
    obtain ⟨W4, hW4⟩ : ∃ z, z = W3.alloc (.cells callZero 39) := ⟨_, rfl⟩
    rw [← hW4] at hc4 hx4 hB4 ⊢
    have HC4 := Lib.hid hc4
    have HX4 := Lib.hid hx4
    have HB4 := Lib.hid hB4
    clear hqc hW4 hb4 hc4 hx4 hB4 HB3 HX3
    have y0 : W4.cell? ⟨qc, 0, none⟩ = some (.int .u8 0) := (block_cell HC4.out 0).1
    have y1 : W4.cell? ⟨qc, 1, none⟩ = some (.string ⟨#[]⟩) := (block_cell HC4.out 1).1
    have y2 : W4.cell? ⟨qc, 2, none⟩ = some (.string ⟨#[]⟩) := (block_cell HC4.out 2).1
    have y3 : W4.cell? ⟨qc, 3, none⟩ = some (.int .u32 0) := (block_cell HC4.out 3).1
    have y4 : W4.cell? ⟨qc, 4, none⟩ = some (.int .i64 0) := (block_cell HC4.out 4).1
    have y5 : W4.cell? ⟨qc, 5, none⟩ = some (.int .u64 0) := (block_cell HC4.out 5).1
    have y6 : W4.cell? ⟨qc, 6, none⟩ = some (.int .u64 0) := (block_cell HC4.out 6).1
    have x0 : W4.cell? ⟨q, 0, none⟩ = some (.int .u8 a.kind) := (block_cell HX4.out 0).1
    have x1 : W4.cell? ⟨q, 1, none⟩ = some (.int .u64 a.number) := (block_cell HX4.out 1).1
    have x2 : W4.cell? ⟨q, 2, none⟩ = some (.string a.item.key) := (block_cell HX4.out 2).1
    have x3 : W4.cell? ⟨q, 3, none⟩ = some (.string a.item.value) := (block_cell HX4.out 3).1
    have x4 : W4.cell? ⟨q, 4, none⟩ = some (.int .u32 a.item.flags) := (block_cell HX4.out 4).1
    have x5 : W4.cell? ⟨q, 5, none⟩ = some (.int .u64 a.item.id) := (block_cell HX4.out 5).1
    have x6 : W4.cell? ⟨q, 6, none⟩ = some (.int .i64 a.item.dies) := (block_cell HX4.out 6).1
    have x7 : W4.cell? ⟨q, 7, none⟩ = some (.int .i64 a.item.gen) := (block_cell HX4.out 7).1
    have qb := build_callV
    have qn := run_zero_ne
    go_wp2_with fail
    clear qb qn HC4 y0 y1 y2 y3 y4 y5 y6 x0 x1 x2 x3 x4 x5 x6 x7
    refine (nilDone W4 a).mono ?_
    rintro e W5 ⟨rfl, hb5⟩
    have HB5 := Lib.hid (HB4.out.trans (hb5.mono HB4.out.size))
    have HX5 := Lib.hid ((Chg.of_below (M := fun _ => False) hb5).obj HX4.out (fun e => e))
    clear hb5 HB4 HX4
    go_wp2_with fail
    refine (nilOut W5).mono ?_
    rintro e W6 ⟨rfl, hb6⟩
    have HB6 := Lib.hid (HB5.out.trans (hb6.mono HB5.out.size))
    have HX6 := Lib.hid ((Chg.of_below (M := fun _ => False) hb6).obj HX5.out (fun e => e))
    clear hb6 HB5 HX5
    go_wp2_with fail
    refine (nilClosed W6).mono ?_
    rintro e W7 ⟨rfl, hb7⟩
    have HB7 := Lib.hid (HB6.out.trans (hb7.mono HB6.out.size))
    have HX7 := Lib.hid ((Chg.of_below (M := fun _ => False) hb7).obj HX6.out (fun e => e))
    clear hb7 HB6 HX6
    go_wp2_with fail
    refine (nilLeft W7).mono ?_
    rintro e W8 ⟨rfl, hb8⟩
    have HB8 := Lib.hid (HB7.out.trans (hb8.mono HB7.out.size))
    have HX8 := Lib.hid ((Chg.of_below (M := fun _ => False) hb8).obj HX7.out (fun e => e))
    clear hb8 HB7 HX7
    go_upto_region 9 with fail
    have hz1 : Below W8.heap.size W8 (W8.alloc (.cells connZero 78)) := (Below.refl _ _).alloc (Nat.le_refl _) _
    obtain ⟨S, hj⟩ := CJ.new (HE0.out W8 HB8.out) (conn_zero W8) hz1
    have hx9 := (Chg.of_below (M := fun _ => False) hz1).obj HX8.out (fun e => e)
    obtain ⟨p, hp⟩ : ∃ z, z = W8.heap.size := ⟨_, rfl⟩
    obtain ⟨W9, hW9⟩ : ∃ z, z = W8.alloc (.cells connZero 78) := ⟨_, rfl⟩
    rw [← hp, ← hW9] at hj
    rw [← hW9] at hx9
    rw [← hp, ← hW9]
    have HJ := Lib.hid hj
    have HX9 := Lib.hid hx9
    clear hz1 hj hx9 hp hW9 HX8
    have hbr := build_rconn
    go_upto_region 10 with fail
    clear hbr
    obtain ⟨R, hpl⟩ := PlH.new HJ.out
    have hx10 := (Chg.of_below (M := fun _ => False) ((Below.refl W9.heap.size W9).alloc (Nat.le_refl _) (.cells rconnZero 65))).obj HX9.out (fun e => e)
    obtain ⟨W10, hW10⟩ : ∃ z, z = W9.alloc (.cells rconnZero 65) := ⟨_, rfl⟩
    obtain ⟨r, hr⟩ : ∃ z, z = W9.heap.size := ⟨_, rfl⟩
    rw [← hW10] at hx10
    rw [← hW10, ← hr] at hpl
    rw [← hW10, ← hr]
    have HPL := Lib.hid hpl
    have HX10 := Lib.hid hx10
    clear hW10 hr hpl HJ HX9 hx10
    have x0 : W10.cell? ⟨q, 0, none⟩ = some (.int .u8 a.kind) := (block_cell HX10.out 0).1
    have x1 : W10.cell? ⟨q, 1, none⟩ = some (.int .u64 a.number) := (block_cell HX10.out 1).1
    have x2 : W10.cell? ⟨q, 2, none⟩ = some (.string a.item.key) := (block_cell HX10.out 2).1
    have x3 : W10.cell? ⟨q, 3, none⟩ = some (.string a.item.value) := (block_cell HX10.out 3).1
    have x4 : W10.cell? ⟨q, 4, none⟩ = some (.int .u32 a.item.flags) := (block_cell HX10.out 4).1
    have x5 : W10.cell? ⟨q, 5, none⟩ = some (.int .u64 a.item.id) := (block_cell HX10.out 5).1
    have x6 : W10.cell? ⟨q, 6, none⟩ = some (.int .i64 a.item.dies) := (block_cell HX10.out 6).1
    have x7 : W10.cell? ⟨q, 7, none⟩ = some (.int .i64 a.item.gen) := (block_cell HX10.out 7).1
    go_wp2_with fail
    clear x0 x1 x2 x3 x4 x5 x6 x7
    refine (PlH.done0 HPL.out rfl a).mono ?_
    rintro e W11 ⟨rfl, S1, hp11⟩
    have HP11 := Lib.hid hp11
    clear hp11 HPL HX10
    go_wp2_with fail
    refine (PlH.in0 HP11.out Twin.new (bl := bl) (by omega) (by omega) (HBR.out W11 (HB8.out.trans (HP11.out.cj.low.mono HB8.out.size))) (fun hne g hg => Nat.lt_of_lt_of_le (HBK.out hne g hg) HB8.out.size)).mono ?_
    rintro e W12 ⟨⟨v12, rfl⟩, S2, hp12⟩
    have HP12 := Lib.hid hp12
    clear hp12 HP11
    go_wp2_with fail
    refine (PlH.in2 HP12.out Twin.new (bl := bl) (by omega) (by omega) (HBR.out W12 (HB8.out.trans (HP12.out.cj.low.mono HB8.out.size)))).mono ?_
    rintro e W13 ⟨⟨v13, rfl⟩, R3, hp13, -, -⟩
    have HP13 := Lib.hid hp13
    have HT := Lib.hid (Twin.new.in bl)
    clear hp13 HP12
    go_wp2_with fail
    refine (csame_any HP13.out HT.out.sm HT.out.fit (by omega)).mono ?_
    rintro e W14 ⟨rfl, hb14⟩
    have HB14 := Lib.hid ((HB8.out.trans (HP13.out.cj.low.mono HB8.out.size)).trans (hb14.mono (Nat.le_trans HB8.out.size HP13.out.cj.low.size)))
    clear hb14 HP13
    go_wp2_with fail
    refine (HLIV.out _ HB14.out).mono ?_
    rintro e w' ⟨rfl, hb⟩
    have HB := Lib.hid (HB14.out.trans (hb.mono HB14.out.size))
    clear hb
    go_wp2_with fail
    go_ret
    exact ⟨rfl, HB.out⟩
  · clear H24
    go_wp2_with fail
    refine (HLIV.out _ HB1.out).mono ?_
    rintro e w' ⟨rfl, hb⟩
    have HB := Lib.hid (HB1.out.trans (hb.mono HB1.out.size))
    clear hb
    go_wp2_with fail
    go_ret
    exact ⟨rfl, HB.out⟩
end Go.Proofs.YtddifbimlmkcbaaGreatDoor
