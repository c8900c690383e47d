/- What nestboxlaw29.Other, tells.Answer and the reference's Answer answer. Condition: the table of the powers of ten lies as the library lays it. -/
import Derived.Test.YtddifbimlmkcbaaGreatDoorTells
namespace Go.Proofs.YtddifbimlmkcbaaGreatDoor
open Go.RowKit

def ansOf (quiet : Bool) (kind : Int) (number : Int) : List UInt8 :=
  if quiet then [] else if kind = 8 then lineOf [Lib.decDigits number.toNat] else aOf kind.toNat

set_option maxHeartbeats 1000000 in
set_option maxRecDepth 100000 in
theorem answer_any (c : CmdD) (a : AnsD) (w : World) (ha : a.Ok) (hP : HasPow w) :
    Calls Tryz.prog 17 #[c.val, a.val] w fun e w' => e = .returned (sv (ansOf c.quiet a.kind a.number)) ∧ Below w.heap.size w w' := by
  have HP := Lib.hid hP
  clear hP
  obtain ⟨⟨hk0, hk1⟩, ⟨hn0, hn1⟩, _⟩ := ha
  have hb0 : Below w.heap.size w ((w.alloc (.cells #[.int .u8 c.verb, .slice c.ka c.kn c.kc, .int .u8 c.call.verb, .string c.call.key, .string c.call.value, .int .u32 c.call.flags, .int .i64 c.call.exp, .int .u64 c.call.id, .int .u64 c.call.by', .int .i64 c.bytes, .bool c.quiet] 41)).alloc (.cells #[.int .u8 a.kind, .int .u64 a.number, .string a.item.key, .string a.item.value, .int .u32 a.item.flags, .int .u64 a.item.id, .int .i64 a.item.dies, .int .i64 a.item.gen] 52)) :=
    ((Below.refl _ _).alloc (Nat.le_refl _) _).alloc (by simp) _
  have HB0 := Lib.hid hb0
  clear hb0
  cases hq : c.quiet with
  | true =>
    go_enter Tryz.func17, Tryz.ntmps17
    go_wp2_with fail
    go_ret
    rw [hq] at HB0
    exact ⟨rfl, HB0.out⟩
  | false =>
    rw [hq] at HB0
    by_cases h8 : a.kind = 8
    · have hb8 : (a.kind == 8) = true := by rw [h8]; rfl
      have htx : ansOf false a.kind a.number = lineOf [Lib.decDigits a.number.toNat] := by simp [ansOf, h8]
      rw [htx]
      have hds := dec_short a.number.toNat (by omega)
      have hcl := text_any a.number hn0 (by omega) _ (HP.out.below HB0.out)
      generalize Lib.decDigits a.number.toNat = D at hds hcl ⊢
      have HC := Lib.hid hcl
      clear htx hcl h8 hn1
      go_enter Tryz.func17, Tryz.ntmps17
      go_wp2_with fail
      refine HC.out.mono ?_
      rintro e w1 ⟨rfl, hb1⟩
      go_wp2_with fail
      refine (tline_one D w1 (by omega)).mono ?_
      rintro e w2 ⟨rfl, hb2⟩
      go_wp2_with fail
      go_ret
      exact ⟨rfl, HB0.out.trans ((hb1.mono HB0.out.size).trans (hb2.mono (Nat.le_trans HB0.out.size hb1.size)))⟩
    · have hb8 : (a.kind == 8) = false := by rw [beq_eq_false_iff_ne]; exact h8
      have htx : ansOf false a.kind a.number = aOf a.kind.toNat := by simp [ansOf, h8]
      rw [htx]
      obtain ⟨k, hk⟩ : ∃ k : Nat, a.kind = (k : Int) := ⟨a.kind.toNat, by omega⟩
      rw [hk] at hb8 hk0 hk1 HB0 ⊢
      rw [Int.toNat_natCast]
      clear htx h8
      by_cases h11 : k < 11
      · obtain ⟨x, hx⟩ : ∃ x, answersL[k]? = some x := ⟨_, List.getElem?_eq_getElem (by simpa [answersL] using h11)⟩
        have htx : aOf k = lineOf [x] := by unfold aOf; rw [List.getD_eq_getElem?_getD, hx]; rfl
        have hxl : x.length ≤ 100 := by
          have : ∀ y ∈ answersL, y.length ≤ 100 := by decide
          exact this x (List.mem_of_getElem? hx)
        rw [htx]
        have HX := Lib.hid hx
        clear hx htx
        go_enter Tryz.func17, Tryz.ntmps17
        go_wp2_with fail
        refine (answers_any _).mono ?_
        rintro e w1 ⟨v, rfl, hv, hb1⟩
        obtain ⟨g, o, cc, rfl, hg, hcell⟩ := own_set hv HX.out
        have hl11 : answersL.length = 11 := rfl
        rw [hl11]
        have hkc : w1.cell? ⟨w.heap.size + 1, 0, none⟩ = some (.int .u8 (k : Int)) := by
          rw [hb1.cell (p := ⟨w.heap.size + 1, 0, none⟩) (by simp)]
          simp [go_sem]
        clear hv hl11
        go_wp2_with fail
        refine (tline_one x w1 (by omega)).mono ?_
        rintro e w2 ⟨rfl, hb2⟩
        go_wp2_with fail
        go_ret
        exact ⟨rfl, HB0.out.trans ((hb1.mono HB0.out.size).trans (hb2.mono (Nat.le_trans HB0.out.size hb1.size)))⟩
      · have htx : aOf k = [] := by
          unfold aOf
          rw [List.getD_eq_getElem?_getD, List.getElem?_eq_none (by simpa [answersL] using Nat.le_of_not_lt h11)]; rfl
        rw [htx]
        clear htx
        go_enter Tryz.func17, Tryz.ntmps17
        go_wp2_with fail
        refine (answers_any _).mono ?_
        rintro e w1 ⟨v, rfl, hv, hb1⟩
        obtain ⟨g, o, cc, rfl, hg, hcell⟩ := own_set hv (k := 0) (x := []) rfl
        have hl11 : answersL.length = 11 := rfl
        rw [hl11]
        have hkc : w1.cell? ⟨w.heap.size + 1, 0, none⟩ = some (.int .u8 (k : Int)) := by
          rw [hb1.cell (p := ⟨w.heap.size + 1, 0, none⟩) (by simp)]
          simp [go_sem]
        clear hv hl11
        go_wp2_with fail
        go_ret
        exact ⟨rfl, HB0.out.trans (hb1.mono HB0.out.size)⟩

theorem dec_ne (u : Nat) : Lib.decDigits u ≠ [] := by
  intro h
  have := congrArg List.length h
  rw [Lib.decDigits_length] at this
  by_cases h10 : u < 10
  · rw [Lib.nDigits_small h10] at this; simp at this
  · have h2 := dec_big h10
    rw [h] at h2; simp at h2
theorem line_dec (u : Nat) : lineOf [Lib.decDigits u] = Lib.decDigits u ++ [13, 10] := by
  unfold lineOf
  rw [Lib.join_one, if_neg (dec_ne u)]

set_option maxHeartbeats 2000000 in
set_option maxRecDepth 100000 in
/-- The reference's Answer. -/
theorem refAnswer_any (c : CmdD) (a : AnsD) (w : World) (ha : a.Ok) :
    Calls Tryz.prog 44 #[c.val, a.val] w fun e w' => e = .returned (sv (ansOf c.quiet a.kind a.number)) ∧ Below w.heap.size w w' := by
  obtain ⟨⟨hk0, hk1⟩, ⟨hn0, hn1⟩, _⟩ := ha
  have hb0 : Below w.heap.size w ((w.alloc (.cells #[.int .u8 c.verb, .slice c.ka c.kn c.kc, .int .u8 c.call.verb, .string c.call.key, .string c.call.value, .int .u32 c.call.flags, .int .i64 c.call.exp, .int .u64 c.call.id, .int .u64 c.call.by', .int .i64 c.bytes, .bool c.quiet] 61)).alloc (.cells #[.int .u8 a.kind, .int .u64 a.number, .string a.item.key, .string a.item.value, .int .u32 a.item.flags, .int .u64 a.item.id, .int .i64 a.item.dies, .int .i64 a.item.gen] 52)) :=
    ((Below.refl _ _).alloc (Nat.le_refl _) _).alloc (by simp) _
  have HB0 := Lib.hid hb0
  clear hb0
  cases hq : c.quiet with
  | true =>
    go_enter Tryz.func44, Tryz.ntmps44
    go_wp2_with fail
    go_ret
    rw [hq] at HB0
    exact ⟨rfl, HB0.out⟩
  | false =>
    rw [hq] at HB0
    by_cases h8 : a.kind = 8
    · have htx : ansOf false a.kind a.number = Lib.decDigits a.number.toNat ++ [13, 10] := by simp [ansOf, h8, line_dec]
      rw [htx]
      have hds := dec_short a.number.toNat (by omega)
      have hcl := fun W => refText_any a.number hn0 (by omega) W
      generalize Lib.decDigits a.number.toNat = D at hds hcl ⊢
      have HC := Lib.hid hcl
      rw [h8] at HB0
      clear htx hcl hn1
      go_enter Tryz.func44, Tryz.ntmps44
      go_wp2_with fail
      refine (HC.out _).mono ?_
      rintro e w1 ⟨rfl, rfl⟩
      go_wp2_with fail
      go_ret
      exact ⟨ret_congr (sv_of (by rw [bs_append])), HB0.out⟩
    · have htx : ansOf false a.kind a.number = aOf a.kind.toNat := by simp [ansOf, h8]
      rw [htx]
      clear htx hn0 hn1
      by_cases h11 : a.kind < 11
      · have hcase : a.kind = 0 ∨ a.kind = 1 ∨ a.kind = 2 ∨ a.kind = 3 ∨ a.kind = 4 ∨ a.kind = 5 ∨ a.kind = 6 ∨ a.kind = 7 ∨ a.kind = 9 ∨ a.kind = 10 := by omega
        clear h8 h11 hk0 hk1
        rcases hcase with h | h | h | h | h | h | h | h | h | h
        all_goals
          rw [h] at HB0 ⊢
          go_enter Tryz.func44, Tryz.ntmps44
          go_wp2_with fail
          go_ret
          exact ⟨by first | rfl | decide, HB0.out⟩
      · have htx : aOf a.kind.toNat = [] := by
          unfold aOf
          rw [List.getD_eq_getElem?_getD, List.getElem?_eq_none (by simp [answersL]; omega)]; rfl
        rw [htx]
        clear htx
        have e1 : (a.kind == 1) = false := by rw [beq_eq_false_iff_ne]; omega
        have e2 : (a.kind == 2) = false := by rw [beq_eq_false_iff_ne]; omega
        have e3 : (a.kind == 3) = false := by rw [beq_eq_false_iff_ne]; omega
        have e4 : (a.kind == 4) = false := by rw [beq_eq_false_iff_ne]; omega
        have e5 : (a.kind == 5) = false := by rw [beq_eq_false_iff_ne]; omega
        have e6 : (a.kind == 6) = false := by rw [beq_eq_false_iff_ne]; omega
        have e7 : (a.kind == 7) = false := by rw [beq_eq_false_iff_ne]; omega
        have e8 : (a.kind == 8) = false := by rw [beq_eq_false_iff_ne]; omega
        have e9 : (a.kind == 9) = false := by rw [beq_eq_false_iff_ne]; omega
        have e10 : (a.kind == 10) = false := by rw [beq_eq_false_iff_ne]; omega
        go_enter Tryz.func44, Tryz.ntmps44
        go_wp2_with fail
        go_ret
        exact ⟨rfl, HB0.out⟩
end Go.Proofs.YtddifbimlmkcbaaGreatDoor
