/- The reference's Parse, ParseSigned, Parse32, at any text. No condition. -/
import Derived.Test.YtaooangnnlopcaaGreatDoorLowB
namespace Go.Proofs.YtaooangnnlopcaaGreatDoor
open Go.RowKit

theorem over_no {n c : Nat} (h0 : 48 ≤ c) (h9 : c ≤ 57) (h : ¬ ((18446744073709551615 : Int) - ((c : Int) - 48)) / 10 < (n : Int)) : n * 10 + (c - 48) < 18446744073709551616 := by omega
theorem over_yes {n c : Nat} (h0 : 48 ≤ c) (h9 : c ≤ 57) (h : ((18446744073709551615 : Int) - ((c : Int) - 48)) / 10 < (n : Int)) : ¬ n * 10 + (c - 48) < 18446744073709551616 := by omega

set_option maxHeartbeats 1000000 in
set_option maxRecDepth 100000 in
theorem refParse_any (s : ByteArray) (w : World) (hs : s.size ≤ maxLen) :
    Calls Tryz.prog 91 #[.string s] w fun e w' => e = .returned (parseV (bs s)) ∧ w = w' := by
  unfold maxLen at hs
  by_cases h1 : s.size < 1
  · have hv := parseV_none (l := bs s) (by rw [List.eq_nil_of_length_eq_zero (l := bs s) (by rw [bs_length]; omega)]; exact parse_nil)
    rw [hv]
    clear hv
    go_enter Tryz.func91, Tryz.ntmps91
    go_wp2_with fail
    go_ret2
    exact ⟨rfl, rfl⟩
  · by_cases h20 : 20 < s.size
    · have hv := parseV_none (l := bs s) (parse_long (by rw [bs_length]; exact h20))
      rw [hv]
      clear hv
      go_enter Tryz.func91, Tryz.ntmps91
      go_wp2_with fail
      go_ret2
      exact ⟨rfl, rfl⟩
    · have HNE : Hid (bs s ≠ []) := by intro h; have := bs_length s; rw [h] at this; simp at this; omega
      have HL := Lib.hid (bs_length s)
      go_enter Tryz.func91, Tryz.ntmps91
      go_wp2_with fail
      go_loop [4, 5] (fun m i => ∃ k n : Nat, k ≤ s.size ∧ i = .int .i64 k ∧ m = .int .u64 n ∧ Scan (bs s) k n) (fun _ i => s.size - (intOf i).toNat)
      case atStart => exact ⟨0, 0, Nat.zero_le _, rfl, rfl, scan_zero _⟩
      case round =>
        obtain ⟨k, n, hk, rfl, rfl, hsc⟩ := hrel
        have hn := hsc.2.2
        by_cases hlt : k < s.size
        · have HG := Lib.hid (bs_get? hlt)
          by_cases hd : digitB s[k] = true
          · have hdd := digit_is.1 hd
            have hd48 : (48 : Int) ≤ (s[k].toNat : Int) := by omega
            have hd57 : (s[k].toNat : Int) ≤ 57 := by omega
            have HD := Lib.hid hd
            have HDD := Lib.hid hdd
            clear hd hdd
            by_cases hov : ((18446744073709551615 : Int) - ((s[k].toNat : Int) - 48)) / 10 < (n : Int)
            · have HV := Lib.hid (parseV_none (scan_over hsc HG.out (over_yes HDD.out.1 HDD.out.2 hov)))
              go_wp2_with fail
              go_ret2
              exact ⟨by rw [HV.out]; rfl, rfl⟩
            · have HOV := Lib.hid (over_no HDD.out.1 HDD.out.2 hov)
              have HSC := Lib.hid hsc
              have hb : ((n : Int) * 10 + ((s[k].toNat : Int) - 48)) ≤ 18446744073709551615 := by have := HOV.out; have := HDD.out.1; omega
              clear hsc
              go_wp2_with fail
              go_round
              case rel => exact ⟨k + 1, n * 10 + (s[k].toNat - 48), by omega, by go_num, int_congr (by have := HDD.out.1; omega), scan_next HSC.out HG.out HD.out HOV.out⟩
              case measure => simp [intOf]; omega
          · have hd0 : digitB s[k] = false := by simpa using hd
            have HV := Lib.hid (parseV_none (scan_bad HG.out hd0))
            clear hd
            by_cases h48 : (s[k].toNat : Int) < 48
            · clear hd0
              go_wp2_with fail
              go_ret2
              exact ⟨by rw [HV.out]; rfl, rfl⟩
            · have h57 : (57 : Int) < (s[k].toNat : Int) := by
                simp only [digitB, Bool.and_eq_false_iff, decide_eq_false_iff_not] at hd0
                omega
              clear hd0
              go_wp2_with fail
              go_ret2
              exact ⟨by rw [HV.out]; rfl, rfl⟩
        · have e : k = s.size := by omega
          have HV := Lib.hid (parseV_some (scan_end (l := bs s) (n := n) (by rw [HL.out, ← e]; exact hsc) HNE.out (by rw [HL.out]; omega)))
          clear e
          go_wp2_with fail
          go_ret2
          exact ⟨by rw [HV.out]; rfl, rfl⟩
end Go.Proofs.YtaooangnnlopcaaGreatDoor
