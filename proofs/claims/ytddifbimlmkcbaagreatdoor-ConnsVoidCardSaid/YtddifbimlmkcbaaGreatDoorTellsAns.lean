/- What nestboxlaw29.Other, tells.Answer and the reference's Answer answer. Condition: the table of the powers of ten lies as the library lays it. -/
import Derived.Test.YtddifbimlmkcbaaGreatDoorTells
namespace Go.Proofs.YtddifbimlmkcbaaGreatDoor
open Go.RowKit

def ansOf (quiet : Bool) (kind : Int) (number : Int) : List UInt8 :=
  if quiet then [] else if kind = 8 then lineOf [Lib.decDigits number.toNat] else aOf kind.toNat

set_option maxHeartbeats 1000000 in
set_option maxRecDepth 100000 in
theorem answer_any (c : CmdD) (a : AnsD) (w : World) (ha : a.Ok) (hP : HasPow w) :
    Calls Tryz.prog 17 #[c.val, a.val] w fun e w' => e = .returned (sv (ansOf c.quiet a.kind a.number)) ∧ Below w.heap.size w w' := by
  have HP := Lib.hid hP
  clear hP
  obtain ⟨⟨hk0, hk1⟩, ⟨hn0, hn1⟩, _⟩ := ha
  have hb0 : Below w.heap.size w ((w.alloc (.cells #[.int .u8 c.verb, .slice c.ka c.kn c.kc, .int .u8 c.call.verb, .string c.call.key, .string c.call.value, .int .u32 c.call.flags, .int .i64 c.call.exp, .int .u64 c.call.id, .int .u64 c.call.by', .int .i64 c.bytes, .bool c.quiet] 41)).alloc (.cells #[.int .u8 a.kind, .int .u64 a.number, .string a.item.key, .string a.item.value, .int .u32 a.item.flags, .int .u64 a.item.id, .int .i64 a.item.dies, .int .i64 a.item.gen] 52)) :=
    ((Below.refl _ _).alloc (Nat.le_refl _) _).alloc (by simp) _
  have HB0 := Lib.hid hb0
  clear hb0
  cases hq : c.quiet with
  | true =>
    go_enter Tryz.func17, Tryz.ntmps17
    go_wp2_with fail
    go_ret
    rw [hq] at HB0
    exact ⟨rfl, HB0.out⟩
  | false =>
    rw [hq] at HB0
    by_cases h8 : a.kind = 8
    · have hb8 : (a.kind == 8) = true := by rw [h8]; rfl
      have htx : ansOf false a.kind a.number = lineOf [Lib.decDigits a.number.toNat] := by simp [ansOf, h8]
      rw [htx]
      have hds := dec_short a.number.toNat (by omega)
      have hcl := text_any a.number hn0 (by omega) _ (HP.out.below HB0.out)
      generalize Lib.decDigits a.number.toNat = D at hds hcl ⊢
      have HC := Lib.hid hcl
      clear htx hcl h8 hn1
      go_enter Tryz.func17, Tryz.ntmps17
      go_wp2_with fail
      refine HC.out.mono ?_
      rintro e w1 ⟨rfl, hb1⟩
      go_wp2_with fail
      refine (tline_one D w1 (by omega)).mono ?_
      rintro e w2 ⟨rfl, hb2⟩
      go_wp2_with fail
      go_ret
      exact ⟨rfl, HB0.out.trans ((hb1.mono HB0.out.size).trans (hb2.mono (Nat.le_trans HB0.out.size hb1.size)))⟩
    · have hb8 : (a.kind == 8) = false := by rw [beq_eq_false_iff_ne]; exact h8
      have htx : ansOf false a.kind a.number = aOf a.kind.toNat := by simp [ansOf, h8]
      rw [htx]
      obtain ⟨k, hk⟩ : ∃ k : Nat, a.kind = (k : Int) := ⟨a.kind.toNat, by omega⟩
      rw [hk] at hb8 hk0 hk1 HB0 ⊢
      rw [Int.toNat_natCast]
      clear htx h8
      by_cases h11 : k < 11
      · obtain ⟨x, hx⟩ : ∃ x, answersL[k]? = some x := ⟨_, List.getElem?_eq_getElem (by simpa [answersL] using h11)⟩
        have htx : aOf k = lineOf [x] := by unfold aOf; rw [List.getD_eq_getElem?_getD, hx]; rfl
        have hxl : x.length ≤ 100 := by
          have : ∀ y ∈ answersL, y.length ≤ 100 := by decide
          exact this x (List.mem_of_getElem? hx)
        rw [htx]
        have HX := Lib.hid hx
        clear hx htx
        go_enter Tryz.func17, Tryz.ntmps17
        go_wp2_with fail
        refine (answers_any _).mono ?_
        rintro e w1 ⟨v, rfl, hv, hb1⟩
        obtain ⟨g, o, cc, rfl, hg, hcell⟩ := own_set hv HX.out
        have hl11 : answersL.length = 11 := rfl
        rw [hl11]
        have hkc : w1.cell? ⟨w.heap.size + 1, 0, none⟩ = some (.int .u8 (k : Int)) := by
          rw [hb1.cell (p := ⟨w.heap.size + 1, 0, none⟩) (by simp)]
          simp [go_sem]
        clear hv hl11
        go_wp2_with fail
        refine (tline_one x w1 (by omega)).mono ?_
        rintro e w2 ⟨rfl, hb2⟩
        go_wp2_with fail
        go_ret
        exact ⟨rfl, HB0.out.trans ((hb1.mono HB0.out.size).trans (hb2.mono (Nat.le_trans HB0.out.size hb1.size)))⟩
      · have htx : aOf k = [] := by
          unfold aOf
          rw [List.getD_eq_getElem?_getD, List.getElem?_eq_none (by simpa [answersL] using Nat.le_of_not_lt h11)]; rfl
        rw [htx]
        clear htx
        go_enter Tryz.func17, Tryz.ntmps17
        go_wp2_with fail
        refine (answers_any _).mono ?_
        rintro e w1 ⟨v, rfl, hv, hb1⟩
        obtain ⟨g, o, cc, rfl, hg, hcell⟩ := own_set hv (k := 0) (x := []) rfl
        have hl11 : answersL.length = 11 := rfl
        rw [hl11]
        have hkc : w1.cell? ⟨w.heap.size + 1, 0, none⟩ = some (.int .u8 (k : Int)) := by
          rw [hb1.cell (p := ⟨w.heap.size + 1, 0, none⟩) (by simp)]
          simp [go_sem]
        clear hv hl11
        go_wp2_with fail
        go_ret
        exact ⟨rfl, HB0.out.trans (hb1.mono HB0.out.size)⟩

end Go.Proofs.YtddifbimlmkcbaaGreatDoor
