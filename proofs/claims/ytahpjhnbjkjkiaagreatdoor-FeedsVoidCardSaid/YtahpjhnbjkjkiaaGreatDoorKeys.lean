/- What keys.Look, Ok, Value, Room and the reference's functions of these names answer, at every argument. No condition. -/
import Derived.Test.YtahpjhnbjkjkiaaGreatDoorBase
namespace Go.Proofs.YtahpjhnbjkjkiaaGreatDoor
open Go.RowKit

def badB (c : UInt8) : Bool := decide (c.toNat ≤ 32) || c.toNat == 127
theorem bad_yes {c : UInt8} (h : (c.toNat : Int) ≤ 32 ∨ ((c.toNat : Int) == 127) = true) : badB c = true := by
  simp only [badB, Bool.or_eq_true, decide_eq_true_eq, beq_iff_eq] at *; omega
theorem bad_no {c : UInt8} (h : (32 : Int) < (c.toNat : Int) ∧ ((c.toNat : Int) == 127) = false) : badB c = false := by
  simp only [badB, Bool.or_eq_false_iff, decide_eq_false_iff_not, beq_eq_false_iff_ne] at *; omega
def look (l : List UInt8) : Nat × Nat :=
  if l.length = 0 then (1, 0) else if 250 < l.length then (2, 0) else match l.findIdx? badB with | some i => (3, i) | none => (0, 0)
theorem look_empty {l : List UInt8} (h : l = []) : look l = (1, 0) := by simp [look, h]
theorem look_long {l : List UInt8} (h : 250 < l.length) : look l = (2, 0) := by
  unfold look; rw [if_neg (by omega), if_pos h]
theorem look_hit {l : List UInt8} {k : Nat} {c : UInt8} (h : ¬ 250 < l.length) (hc : l[k]? = some c) (hb : badB c = true) (hf : Good badB l k) : look l = (3, k) := by
  have hk := (List.getElem?_eq_some_iff.1 hc).1
  unfold look; rw [if_neg (by omega), if_neg h, good_hit hc hb hf]
theorem look_none {l : List UInt8} (h0 : l ≠ []) (h : ¬ 250 < l.length) (hf : Good badB l l.length) : look l = (0, 0) := by
  have : 0 < l.length := List.length_pos_iff.2 h0
  unfold look; rw [if_neg (by omega), if_neg h, good_all hf]

set_option maxHeartbeats 400000 in
theorem look_any (s : ByteArray) (w : World) (hs : s.size ≤ maxLen) :
    Calls Tryz.prog 141 #[.string s] w fun e w' => e = .returned (.tuple #[.int .u8 (look (bs s)).1, .int .i64 (look (bs s)).2]) ∧ w = w' := by
  unfold maxLen at hs
  cases h0 : s.toList.isEmpty with
  | true =>
    go_enter Tryz.func141, Tryz.ntmps141
    go_wp2
    go_ret2
    exact ⟨by rw [look_empty (bs_empty h0)]; rfl, rfl⟩
  | false =>
    have H0 := Lib.hid (bs_some h0)
    go_enter Tryz.func141, Tryz.ntmps141
    go_wp2
    · go_ret2
      exact ⟨by rw [look_long (by rw [bs_length]; omega)]; rfl, rfl⟩
    · have h1 : ¬ 250 < (bs s).length := by rw [bs_length]; omega
      go_loop [15] (fun i => ∃ k : Nat, k ≤ s.size ∧ i = .int .i64 k ∧ Good badB (bs s) k) (fun i => s.size - (intOf i).toNat)
      case atStart => exact ⟨0, Nat.zero_le _, rfl, good_zero _ _⟩
      case round =>
        obtain ⟨k, hk, rfl, hf⟩ := hrel
        by_cases hlt : k < s.size
        · have HG := Lib.hid (bs_get? hlt)
          go_wp2
          · go_ret2
            exact ⟨by rw [look_hit h1 HG.out (bad_yes ‹_›) hf]; rfl, rfl⟩
          · go_round
            case rel => exact ⟨k + 1, by omega, by go_num, good_step HG.out (bad_no ‹_›) hf⟩
            case measure => simp [intOf]; omega
          · go_ret2
            exact ⟨by rw [look_hit h1 HG.out (bad_yes (.inl ‹_›)) hf]; rfl, rfl⟩
        · go_wp2
          go_ret2
          exact ⟨by rw [look_none H0.out h1 (hf.mono (by rw [bs_length]; omega))]; rfl, rfl⟩

def okB (l : List UInt8) : Bool := (look l).1 == 0
def roomB (n : Int) : Bool := decide (0 ≤ n) && decide (n ≤ 1024)
def mayB (c : Int) : Bool := decide (32 < c) && (c != 127)
theorem may_bad (c : UInt8) : mayB (c.toNat : Int) = !badB c := by
  rw [Bool.eq_iff_iff]
  simp only [mayB, badB, Bool.and_eq_true, decide_eq_true_eq, bne_iff_ne, Bool.not_eq_true', Bool.or_eq_false_iff, decide_eq_false_iff_not, beq_eq_false_iff_ne]
  omega
theorem look_ge (l : List UInt8) : (look l).1 ≤ 3 := by
  unfold look; split
  · simp
  · split
    · simp
    · split <;> simp
theorem okB_is (l : List UInt8) : (((look l).1 : Int) == 0) = okB l := by
  rw [Bool.eq_iff_iff]; simp only [okB, beq_iff_eq]; omega

set_option maxHeartbeats 400000 in
theorem ok_any (s : ByteArray) (w : World) (hs : s.size ≤ maxLen) :
    Calls Tryz.prog 137 #[.string s] w fun e w' => e = .returned (.bool (okB (bs s))) ∧ w = w' := by
  have h := look_any s w hs
  rw [← okB_is]
  generalize (look (bs s)).1 = f at h ⊢
  generalize (look (bs s)).2 = p at h
  go_enter Tryz.func137, Tryz.ntmps137
  go_wp2_with fail
  refine h.mono ?_
  rintro e w' ⟨rfl, rfl⟩
  go_wp2_with fail
  go_ret
  exact ⟨rfl, rfl⟩
theorem refMay_any (c : Int) (w : World) : Calls Tryz.prog 130 #[.int .u8 c] w fun e w' => e = .returned (.bool (mayB c)) ∧ w = w' := by
  by_cases h0 : 32 < c <;> cases h1 : (c != 127)
  all_goals
    go_enter Tryz.func130, Tryz.ntmps130
    go_wp2_with fail
    go_ret
    exact ⟨ret_congr (by simp [mayB, *]; try omega), rfl⟩
set_option maxHeartbeats 400000 in
theorem refLook_any (s : ByteArray) (w : World) (hs : s.size ≤ maxLen) :
    Calls Tryz.prog 114 #[.string s] w fun e w' => e = .returned (.tuple #[.int .i64 (look (bs s)).1, .int .i64 (look (bs s)).2]) ∧ w = w' := by
  unfold maxLen at hs
  by_cases h0 : s.size = 0
  · have e0 : bs s = [] := List.eq_nil_of_length_eq_zero (by rw [bs_length]; exact h0)
    have hb : (((s.size : Int)) == 0) = true := by simp [h0]
    have hb' : (s.size == 0) = true := by simp [h0]
    clear h0
    go_enter Tryz.func114, Tryz.ntmps114
    go_wp2_with fail
    go_ret2
    exact ⟨by rw [look_empty e0]; rfl, rfl⟩
  · have hb : (((s.size : Int)) == 0) = false := by rw [beq_eq_false_iff_ne]; omega
    have hb' : (s.size == 0) = false := by rw [beq_eq_false_iff_ne]; omega
    have H0 : Hid (bs s ≠ []) := by intro h; have := bs_length s; rw [h] at this; simp at this; omega
    by_cases hl : 250 < s.size
    · go_enter Tryz.func114, Tryz.ntmps114
      go_wp2_with fail
      go_ret2
      exact ⟨by rw [look_long (by rw [bs_length]; omega)]; rfl, rfl⟩
    · have h1 : ¬ 250 < (bs s).length := by rw [bs_length]; omega
      clear h0
      go_enter Tryz.func114, Tryz.ntmps114
      go_wp2_with fail
      go_loop [4] (fun i => ∃ k : Nat, k ≤ s.size ∧ i = .int .i64 k ∧ Good badB (bs s) k) (fun i => s.size - (intOf i).toNat)
      case atStart => exact ⟨0, Nat.zero_le _, rfl, good_zero _ _⟩
      case round =>
        obtain ⟨k, hk, rfl, hf⟩ := hrel
        by_cases hlt : k < s.size
        · have HG := Lib.hid (bs_get? hlt)
          have hm := may_bad s[k]
          cases hbad : badB s[k] with
          | true =>
            rw [hbad] at hm
            have HM := Lib.hid hm
            clear hm
            go_wp2_with fail
            refine (refMay_any _ _).mono ?_
            rintro e w' ⟨rfl, rfl⟩
            rw [HM.out]
            go_wp2_with fail
            go_ret2
            exact ⟨by rw [look_hit h1 HG.out hbad hf]; rfl, rfl⟩
          | false =>
            rw [hbad] at hm
            have HM := Lib.hid hm
            clear hm
            go_wp2_with fail
            refine (refMay_any _ _).mono ?_
            rintro e w' ⟨rfl, rfl⟩
            rw [HM.out]
            go_wp2_with fail
            go_round
            case rel => exact ⟨k + 1, by omega, by go_num, good_step HG.out hbad hf⟩
            case measure => simp [intOf]; omega
        · go_wp2_with fail
          go_ret2
          exact ⟨by rw [look_none H0.out h1 (hf.mono (by rw [bs_length]; omega))]; rfl, rfl⟩
end Go.Proofs.YtahpjhnbjkjkiaaGreatDoor
