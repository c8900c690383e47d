/- The reference's line of a command: Line. Condition: the command's numbers are of their kinds, its text is of at most 2^20 bytes. -/
import Derived.Test.YtofpaooaiafpbaaGreatDoorLineRefLine
namespace Go.Proofs.YtofpaooaiafpbaaGreatDoor
open Go.RowKit Go.ChangeMaps Go.MapKept

theorem sameC_sym (a b : Cmd) : sameC a b = sameC b a := by
  rw [Bool.eq_iff_iff, sameC_iff, sameC_iff]; exact eq_comm
/-- What 'written' writes. -/
def writtenS (c : Cmd) : List UInt8 := if c.verb ≠ 0 ∧ c.verb < 14 then lineS c else []
theorem writtenS_le (c : Cmd) (h : (lineS c).length ≤ 1048576) : (writtenS c).length ≤ 1048576 := by
  unfold writtenS; split
  · exact h
  · simp
theorem lineL_ref (c : Cmd) : lineL c = if (parseL (writtenS c)).2 = 0 ∧ sameC c (parseL (writtenS c)).1 = true then (writtenS c, true) else ([], false) := by
  unfold lineL writtenS
  by_cases h : c.verb ≠ 0 ∧ c.verb < 14
  · rw [if_pos h]
    unfold lineOk
    rw [sameC_sym c]
    simp only [Bool.and_eq_true, beq_iff_eq]
    by_cases h2 : (parseL (lineS c)).2 = 0 ∧ sameC (parseL (lineS c)).1 c = true
    · rw [if_pos h2, if_pos ⟨h.1, h.2, h2⟩]
    · rw [if_neg h2, if_neg (by rintro ⟨_, _, h3⟩; exact h2 h3)]
  · rw [if_neg h, if_neg (by rintro ⟨h1, h2, _⟩; exact h ⟨h1, h2⟩), if_neg]
    rintro ⟨h1, _⟩
    exact absurd h1 (by decide)
theorem written_any {BB : Nat} {kv : Value} {c : Cmd} {w : World} (hk : Strs w BB kv c.keys) (hc : OkCmd c) (hlen : (lineS c).length ≤ 1048576) (hkl : c.keys.length ≤ 1048576) :
    Calls Tryz.prog 33 #[cmdV kv c] w fun e w' => e = .returned (sv (writtenS c)) ∧ Below w.heap.size w w' := by
  unfold writtenS
  by_cases h : c.verb ≠ 0 ∧ c.verb < 14
  · rw [if_pos h]; exact written_yes hk hc hlen hkl h.1 h.2
  · rw [if_neg h]
    obtain ⟨a1, c1, h1⟩ := hk.len
    exact written_no kv a1 _ c1 h1 c w h hc.verb

set_option maxRecDepth 100000 in
set_option maxHeartbeats 6400000 in
theorem refLine_any {BB : Nat} {kv : Value} {c : Cmd} {w : World} (hk : Strs w BB kv c.keys) (hc : OkCmd c) (hlen : (lineS c).length ≤ 1048576) (hkl : c.keys.length ≤ 1048576) :
    Calls Tryz.prog 11 #[cmdV kv c] w (LineOk c w) := by
  obtain ⟨ka, kc, hka⟩ := hk.len
  rw [List.length_map] at hka
  subst hka
  have hb1 : Below w.heap.size w (w.alloc (.cells (cmdCells (.slice ka c.keys.length kc) c).toArray 34)) := (Below.refl _ _).alloc (Nat.le_refl _) _
  have hbox : (w.alloc (.cells (cmdCells (.slice ka c.keys.length kc) c).toArray 34)).heap[w.heap.size]? = some (.cells (cmdCells (.slice ka c.keys.length kc) c).toArray 34 (0, 0)) := heap_alloc_new _ _
  have hwr := written_any (strs_below hk hb1) hc hlen hkl
  have hwl := writtenS_le c hlen
  have hll := lineL_ref c
  have HK := Lib.hid hk
  have HB1 := Lib.hid hb1
  have HBOX := Lib.hid hbox
  have HWR := Lib.hid hwr
  have HLL := Lib.hid hll
  clear hk hb1 hbox hwr hll hc hlen
  go_enter Tryz.func11, Tryz.ntmps11
  go_wp2_with fail
  generalize w.alloc (.cells (cmdCells (.slice ka c.keys.length kc) c).toArray 34) = W1 at *
  refine HWR.out.mono ?_
  rintro e w2 ⟨rfl, hb2⟩
  have hb2' : Below w.heap.size w w2 := HB1.out.trans (hb2.mono HB1.out.size)
  have hbox2 := (hb2.block _ (lt_of_block HBOX.out)).trans HBOX.out
  have hpar := refParseLine_at (writtenS c) w2 hwl
  generalize writtenS c = S at *
  generalize hR : parseL S = R at *
  have HB2 := Lib.hid hb2'
  have HBOX2 := Lib.hid hbox2
  have HPAR := Lib.hid hpar
  have HR := Lib.hid hR
  clear hb2 hb2' hbox2 hpar hR HWR HBOX HB1
  go_wp2_with fail
  refine HPAR.out.mono ?_
  rintro e w3 ⟨ks, rfl, hok, hb23⟩
  rw [HR.out] at hok ⊢
  obtain ⟨d, u⟩ := R
  simp only at hok ⊢
  obtain ⟨oa, oc, hks⟩ := hok.len
  rw [List.length_map] at hks
  subst hks
  have hz3 : (w3.alloc (.cells zeroA 34)).heap[w3.heap.size]? = some (.cells zeroA 34 (0, 0)) := heap_alloc_new _ _
  have HOK := Lib.hid hok
  have HB23 := Lib.hid hb23
  have hs23 := hb23.size
  clear hok hb23
  go_upto_region 3 with ((with_reducible show wpList _ _ _ (⟨none, Op.store _ _ _, _, _, _, _⟩ :: _) _ _); refine wpList_store_whole (by rfl) 34 (.tmp 5) (.tmp 12) (by rfl) w3.heap.size (by rfl) (cmdCells (.slice oa d.keys.length oc) d).toArray (by rfl) _ 34 hz3 (by rfl) (by kernel_rfl) (by simp [Value.oneCell']) ?_; intro w4 hr4 hg4 hs4)
  have hg34 := grown_new hg4
  have hb4 : Below w.heap.size w w4 := below_to (HB2.out.trans (HB23.out.mono HB2.out.size)) hg34
  have hb24 : Below w2.heap.size w2 w4 := below_to HB23.out hg34
  have hbox4 := (hb24.block _ (lt_of_block HBOX2.out)).trans HBOX2.out
  have hk4 := strs_below HK.out hb4
  have hd4 : Strs w4 w2.heap.size (.slice oa d.keys.length oc) d.keys := strs_below HOK.out ⟨hg34.os, hg34.tape, hg34.output, hg34.size, fun k hk => hg34.block k hk (by simp)⟩
  have hsame := refSame_any (a := c) (b := d) hk4 hd4
  simp only at HLL
  have a0 : w4.cell? ⟨w.heap.size, 0, none⟩ = some (.int .u8 (c.verb : Int)) := (block_cell hbox4 0).1
  have a1 : w4.cell? ⟨w.heap.size, 1, none⟩ = some (.slice ka c.keys.length kc) := (block_cell hbox4 1).1
  have a2 : w4.cell? ⟨w.heap.size, 2, none⟩ = some (.int .u8 (c.cverb : Int)) := (block_cell hbox4 2).1
  have a3 : w4.cell? ⟨w.heap.size, 3, none⟩ = some (sv c.key) := (block_cell hbox4 3).1
  have a4 : w4.cell? ⟨w.heap.size, 4, none⟩ = some (sv c.value) := (block_cell hbox4 4).1
  have a5 : w4.cell? ⟨w.heap.size, 5, none⟩ = some (.int .u32 (c.flags : Int)) := (block_cell hbox4 5).1
  have a6 : w4.cell? ⟨w.heap.size, 6, none⟩ = some (.int .i64 c.exp) := (block_cell hbox4 6).1
  have a7 : w4.cell? ⟨w.heap.size, 7, none⟩ = some (.int .u64 (c.id : Int)) := (block_cell hbox4 7).1
  have a8 : w4.cell? ⟨w.heap.size, 8, none⟩ = some (.int .u64 (c.by' : Int)) := (block_cell hbox4 8).1
  have a9 : w4.cell? ⟨w.heap.size, 9, none⟩ = some (.int .i64 c.bytes) := (block_cell hbox4 9).1
  have a10 : w4.cell? ⟨w.heap.size, 10, none⟩ = some (.bool c.quiet) := (block_cell hbox4 10).1
  have b0 : w4.cell? ⟨w3.heap.size, 0, none⟩ = some (.int .u8 (d.verb : Int)) := (block_cell hr4 0).1
  have b1 : w4.cell? ⟨w3.heap.size, 1, none⟩ = some (.slice oa d.keys.length oc) := (block_cell hr4 1).1
  have b2 : w4.cell? ⟨w3.heap.size, 2, none⟩ = some (.int .u8 (d.cverb : Int)) := (block_cell hr4 2).1
  have b3 : w4.cell? ⟨w3.heap.size, 3, none⟩ = some (sv d.key) := (block_cell hr4 3).1
  have b4 : w4.cell? ⟨w3.heap.size, 4, none⟩ = some (sv d.value) := (block_cell hr4 4).1
  have b5 : w4.cell? ⟨w3.heap.size, 5, none⟩ = some (.int .u32 (d.flags : Int)) := (block_cell hr4 5).1
  have b6 : w4.cell? ⟨w3.heap.size, 6, none⟩ = some (.int .i64 d.exp) := (block_cell hr4 6).1
  have b7 : w4.cell? ⟨w3.heap.size, 7, none⟩ = some (.int .u64 (d.id : Int)) := (block_cell hr4 7).1
  have b8 : w4.cell? ⟨w3.heap.size, 8, none⟩ = some (.int .u64 (d.by' : Int)) := (block_cell hr4 8).1
  have b9 : w4.cell? ⟨w3.heap.size, 9, none⟩ = some (.int .i64 d.bytes) := (block_cell hr4 9).1
  have b10 : w4.cell? ⟨w3.heap.size, 10, none⟩ = some (.bool d.quiet) := (block_cell hr4 10).1
  have HB4 := Lib.hid hb4
  have HSAME := Lib.hid hsame
  clear hb4 hsame hb24 hbox4 hk4 hd4 hg34 hg4 hz3 hs4 hr4
  by_cases hu : u = 0
  · have hp0 : ((u : Int) != 0) = false := by rw [hu]; rfl
    have hp1 : ((u : Int) == 0) = true := by rw [hu]; rfl
    cases hsm : sameC c d
    · have hfin : lineL c = ([], false) := by rw [HLL.out, if_neg]; rintro ⟨_, h⟩; rw [hsm] at h; cases h
      have HS2 := HSAME.out
      rw [hsm] at HS2
      have HS3 := Lib.hid HS2
      have HFIN := Lib.hid hfin
      clear HS2 hsm hfin hu
      go_wp2_with fail
      refine HS3.out.mono ?_
      rintro e w5 ⟨rfl, hb5⟩
      have HB5 := Lib.hid (HB4.out.trans (hb5.mono HB4.out.size))
      clear hb5
      go_wp2_with fail
      go_ret2
      exact ⟨by rw [HFIN.out]; rfl, HB5.out⟩
    · have hfin : lineL c = (S, true) := by rw [HLL.out, if_pos ⟨hu, hsm⟩]
      have HS2 := HSAME.out
      rw [hsm] at HS2
      have HS3 := Lib.hid HS2
      have HFIN := Lib.hid hfin
      clear HS2 hsm hfin hu
      go_wp2_with fail
      refine HS3.out.mono ?_
      rintro e w5 ⟨rfl, hb5⟩
      have HB5 := Lib.hid (HB4.out.trans (hb5.mono HB4.out.size))
      clear hb5
      go_wp2_with fail
      go_ret2
      exact ⟨by rw [HFIN.out]; rfl, HB5.out⟩
  · have hp0 : ((u : Int) != 0) = true := by rw [bne_iff_ne]; omega
    have hp1 : ((u : Int) == 0) = false := by rw [beq_eq_false_iff_ne]; omega
    have hfin : lineL c = ([], false) := by rw [HLL.out, if_neg]; rintro ⟨h, _⟩; exact hu h
    have HFIN := Lib.hid hfin
    clear hfin hu
    go_wp2_with fail
    go_ret2
    exact ⟨by rw [HFIN.out]; rfl, HB4.out⟩
end Go.Proofs.YtofpaooaiafpbaaGreatDoor
