/- The reference's Parse, ParseSigned, Parse32, at any text. No condition. -/
import Derived.Test.YtahpjhnbjkjkiaaGreatDoorNumsParse
namespace Go.Proofs.YtahpjhnbjkjkiaaGreatDoor
open Go.RowKit

theorem over_no {n c : Nat} (h0 : 48 ≤ c) (h9 : c ≤ 57) (h : ¬ ((18446744073709551615 : Int) - ((c : Int) - 48)) / 10 < (n : Int)) : n * 10 + (c - 48) < 18446744073709551616 := by omega
theorem over_yes {n c : Nat} (h0 : 48 ≤ c) (h9 : c ≤ 57) (h : ((18446744073709551615 : Int) - ((c : Int) - 48)) / 10 < (n : Int)) : ¬ n * 10 + (c - 48) < 18446744073709551616 := by omega

set_option maxHeartbeats 1000000 in
set_option maxRecDepth 100000 in
theorem refParse_any (s : ByteArray) (w : World) (hs : s.size ≤ maxLen) :
    Calls Tryz.prog 117 #[.string s] w fun e w' => e = .returned (parseV (bs s)) ∧ w = w' := by
  unfold maxLen at hs
  by_cases h1 : s.size < 1
  · have hv := parseV_none (l := bs s) (by rw [List.eq_nil_of_length_eq_zero (l := bs s) (by rw [bs_length]; omega)]; exact parse_nil)
    rw [hv]
    clear hv
    go_enter Tryz.func117, Tryz.ntmps117
    go_wp2_with fail
    go_ret2
    exact ⟨rfl, rfl⟩
  · by_cases h20 : 20 < s.size
    · have hv := parseV_none (l := bs s) (parse_long (by rw [bs_length]; exact h20))
      rw [hv]
      clear hv
      go_enter Tryz.func117, Tryz.ntmps117
      go_wp2_with fail
      go_ret2
      exact ⟨rfl, rfl⟩
    · have HNE : Hid (bs s ≠ []) := by intro h; have := bs_length s; rw [h] at this; simp at this; omega
      have HL := Lib.hid (bs_length s)
      go_enter Tryz.func117, Tryz.ntmps117
      go_wp2_with fail
      go_loop [4, 5] (fun m i => ∃ k n : Nat, k ≤ s.size ∧ i = .int .i64 k ∧ m = .int .u64 n ∧ Scan (bs s) k n) (fun _ i => s.size - (intOf i).toNat)
      case atStart => exact ⟨0, 0, Nat.zero_le _, rfl, rfl, scan_zero _⟩
      case round =>
        obtain ⟨k, n, hk, rfl, rfl, hsc⟩ := hrel
        have hn := hsc.2.2
        by_cases hlt : k < s.size
        · have HG := Lib.hid (bs_get? hlt)
          by_cases hd : digitB s[k] = true
          · have hdd := digit_is.1 hd
            have hd48 : (48 : Int) ≤ (s[k].toNat : Int) := by omega
            have hd57 : (s[k].toNat : Int) ≤ 57 := by omega
            have HD := Lib.hid hd
            have HDD := Lib.hid hdd
            clear hd hdd
            by_cases hov : ((18446744073709551615 : Int) - ((s[k].toNat : Int) - 48)) / 10 < (n : Int)
            · have HV := Lib.hid (parseV_none (scan_over hsc HG.out (over_yes HDD.out.1 HDD.out.2 hov)))
              go_wp2_with fail
              go_ret2
              exact ⟨by rw [HV.out]; rfl, rfl⟩
            · have HOV := Lib.hid (over_no HDD.out.1 HDD.out.2 hov)
              have HSC := Lib.hid hsc
              have hb : ((n : Int) * 10 + ((s[k].toNat : Int) - 48)) ≤ 18446744073709551615 := by have := HOV.out; have := HDD.out.1; omega
              clear hsc
              go_wp2_with fail
              go_round
              case rel => exact ⟨k + 1, n * 10 + (s[k].toNat - 48), by omega, by go_num, int_congr (by have := HDD.out.1; omega), scan_next HSC.out HG.out HD.out HOV.out⟩
              case measure => simp [intOf]; omega
          · have hd0 : digitB s[k] = false := by simpa using hd
            have HV := Lib.hid (parseV_none (scan_bad HG.out hd0))
            clear hd
            by_cases h48 : (s[k].toNat : Int) < 48
            · clear hd0
              go_wp2_with fail
              go_ret2
              exact ⟨by rw [HV.out]; rfl, rfl⟩
            · have h57 : (57 : Int) < (s[k].toNat : Int) := by
                simp only [digitB, Bool.and_eq_false_iff, decide_eq_false_iff_not] at hd0
                omega
              clear hd0
              go_wp2_with fail
              go_ret2
              exact ⟨by rw [HV.out]; rfl, rfl⟩
        · have e : k = s.size := by omega
          have HV := Lib.hid (parseV_some (scan_end (l := bs s) (n := n) (by rw [HL.out, ← e]; exact hsc) HNE.out (by rw [HL.out]; omega)))
          clear e
          go_wp2_with fail
          go_ret2
          exact ⟨by rw [HV.out]; rfl, rfl⟩
theorem refParse_at (l : List UInt8) (w : World) (h : l.length ≤ maxLen) : Calls Tryz.prog 117 #[sv l] w fun e w' => e = .returned (parseV l) ∧ w = w' := refParse_any ⟨l.toArray⟩ w (by rw [sv_size]; exact h)

set_option maxHeartbeats 1000000 in
set_option maxRecDepth 100000 in
theorem refParse32_any (s : ByteArray) (w : World) (hs : s.size ≤ maxLen) :
    Calls Tryz.prog 115 #[.string s] w fun e w' => e = .returned (parse32V (bs s)) ∧ w = w' := by
  have hpar := refParse_any s w hs
  rcases hp : parseN (bs s) with _ | u
  · rw [parse32V_none (by simp [parse32N, hp])]
    rw [parseV_none hp] at hpar
    have HP := Lib.hid hpar
    clear hpar hp hs
    go_enter Tryz.func115, Tryz.ntmps115
    go_wp2_with fail
    refine HP.out.mono ?_
    rintro e w1 ⟨rfl, rfl⟩
    go_wp2_with fail
    go_ret2
    exact ⟨rfl, rfl⟩
  · rw [parseV_some hp] at hpar
    have HP := Lib.hid hpar
    by_cases h32 : u < 4294967296
    · rw [parse32V_some (u := u) (by simp [parse32N, hp, h32])]
      have hwr : IntKind.u32.wrap (u : Int) = (u : Int) := IntWalk.u32_in _ (by omega)
      have h1 : decide ((4294967296 : Int) ≤ (u : Int)) = false := by rw [decide_eq_false_iff_not]; omega
      clear hpar hp h32 hs
      go_enter Tryz.func115, Tryz.ntmps115
      go_wp2_with fail
      refine HP.out.mono ?_
      rintro e w1 ⟨rfl, rfl⟩
      go_wp2_with fail
      go_ret2
      exact ⟨rfl, rfl⟩
    · rw [parse32V_none (by simp [parse32N, hp, h32])]
      have h1 : decide ((4294967296 : Int) ≤ (u : Int)) = true := by rw [decide_eq_true_eq]; omega
      clear hpar hp h32 hs
      go_enter Tryz.func115, Tryz.ntmps115
      go_wp2_with fail
      refine HP.out.mono ?_
      rintro e w1 ⟨rfl, rfl⟩
      go_wp2_with fail
      go_ret2
      exact ⟨rfl, rfl⟩

set_option maxHeartbeats 1000000 in
set_option maxRecDepth 100000 in
theorem refParseSigned_any (s : ByteArray) (w : World) (hs : s.size ≤ maxLen) :
    Calls Tryz.prog 116 #[.string s] w fun e w' => e = .returned (signedV (bs s)) ∧ w = w' := by
  by_cases h45 : ∃ r, bs s = 45 :: r
  · obtain ⟨r, hr⟩ := h45
    have hl := bs_length s
    rw [hr] at hl
    have hl0 : 0 < s.size := by simp at hl; omega
    have hg0 : s[0] = 45 := by
      have := bs_get? hl0
      rw [hr] at this; simpa using this.symm
    have hb0 : ((s[0].toNat : Int) == 45) = true := by rw [hg0]; rfl
    have hdrop : ∀ W, (Instr.slice 9 (.string s) (some (.int .i64 1)) none none).run Tryz.prog W = .ok (sv r) W := fun W => by
      have := slice_from (bs s) 1 (by omega) (by rw [hr]; simp; omega) W
      rw [hr] at this
      rw [← sv_bs, hr]; exact this
    have hpar := fun W => refParse_at r W (by unfold maxLen at *; simp at hl; omega)
    unfold maxLen at hs
    have HD := Lib.hid hdrop
    clear hdrop
    have hsl := fun W => HD.out W
    rcases hp : parseN r with _ | u
    · rw [signedV_none (by rw [hr]; simp [signedN, hp])]
      rw [parseV_none hp] at hpar
      have HP := Lib.hid hpar
      clear hpar hp hr hl hg0
      go_enter Tryz.func116, Tryz.ntmps116
      go_wp2_with fail
      refine (HP.out _).mono ?_
      rintro e w1 ⟨rfl, rfl⟩
      go_wp2_with fail
      go_ret2
      exact ⟨rfl, rfl⟩
    · rw [parseV_some hp] at hpar
      have HP := Lib.hid hpar
      have hlt := parse_lt hp
      by_cases h63 : u ≤ 9223372036854775808
      · rw [signedV_some (z := -(u : Int)) (by rw [hr]; simp [signedN, hp, h63])]
        have h1 : ¬ (9223372036854775808 : Int) < (u : Int) := by omega
        by_cases hu0 : u = 0
        · subst hu0
          clear hpar hp hr hl hg0 hlt h63 h1
          go_enter Tryz.func116, Tryz.ntmps116
          go_wp2_with fail
          refine (HP.out _).mono ?_
          rintro e w1 ⟨rfl, rfl⟩
          go_wp2_with fail
          go_ret2
          exact ⟨rfl, rfl⟩
        · have hz : ((u : Int) == 0) = false := by rw [beq_eq_false_iff_ne]; omega
          have hu1 : 1 ≤ (u : Int) := by omega
          clear hpar hp hr hl hg0 hlt hu0
          go_enter Tryz.func116, Tryz.ntmps116
          go_wp2_with fail
          refine (HP.out _).mono ?_
          rintro e w1 ⟨rfl, rfl⟩
          go_wp2_with fail
          go_ret2
          exact ⟨ret_congr (show Value.tuple #[.int .i64 (-((u : Int) - 1) - 1), .bool true] = _ from by rw [show -((u : Int) - 1) - 1 = -(u : Int) from by omega]), rfl⟩
      · rw [signedV_none (by rw [hr]; simp [signedN, hp, h63])]
        have h1 : (9223372036854775808 : Int) < (u : Int) := by omega
        clear hpar hp hr hl hg0 hlt h63
        go_enter Tryz.func116, Tryz.ntmps116
        go_wp2_with fail
        refine (HP.out _).mono ?_
        rintro e w1 ⟨rfl, rfl⟩
        go_wp2_with fail
        go_ret2
        exact ⟨rfl, rfl⟩
  · have hsg := signed_plain (l := bs s) (fun r hr => h45 ⟨r, hr⟩)
    have hpar := fun W => refParse_any s W hs
    have hz : s.size = 0 ∨ (0 < s.size ∧ ∀ h : 0 < s.size, ((s[0].toNat : Int) == 45) = false) := by
      by_cases h0 : 0 < s.size
      · right
        refine ⟨h0, fun h => ?_⟩
        rw [beq_eq_false_iff_ne]
        intro hc
        have hc' : s[0] = 45 := UInt8.toNat_inj.1 (show s[0].toNat = 45 by omega)
        refine h45 ⟨(bs s).tail, ?_⟩
        have := bs_get? h
        cases hl : bs s with
        | nil => rw [hl] at this; simp at this
        | cons c r => rw [hl] at this; simp at this; rw [this, hc']; rfl
      · left; omega
    unfold maxLen at hs
    clear h45
    rcases hp : parseN (bs s) with _ | u
    · rw [signedV_none (by rw [hsg, hp])]
      rw [parseV_none hp] at hpar
      have HP := Lib.hid hpar
      clear hpar hp hsg
      rcases hz with hz | ⟨h0, hz⟩
      · have hzz : ¬ (0 : Int) < (s.size : Int) := by omega
        have HZ := Lib.hid hz
        clear hz
        go_enter Tryz.func116, Tryz.ntmps116
        go_wp2_with fail
        refine (HP.out _).mono ?_
        rintro e w1 ⟨rfl, rfl⟩
        go_wp2_with fail
        go_ret2
        exact ⟨rfl, rfl⟩
      · have hz := hz h0
        go_enter Tryz.func116, Tryz.ntmps116
        go_wp2_with fail
        refine (HP.out _).mono ?_
        rintro e w1 ⟨rfl, rfl⟩
        go_wp2_with fail
        go_ret2
        exact ⟨rfl, rfl⟩
    · rw [parseV_some hp] at hpar
      have HP := Lib.hid hpar
      have hlt := parse_lt hp
      have hne : 0 < s.size := by
        rcases hz with hz | ⟨h, _⟩
        · rw [List.eq_nil_of_length_eq_zero (l := bs s) (by rw [bs_length]; exact hz), parse_nil] at hp; cases hp
        · exact h
      have hz := (hz.resolve_left (by omega)).2 hne
      by_cases h63 : u < 9223372036854775808
      · rw [signedV_some (z := (u : Int)) (by rw [hsg, hp]; simp [h63])]
        have hneg : IntKind.i64.wrap (u : Int) = (u : Int) := IntWalk.i64_in _ (by omega)
        have h1 : ¬ (9223372036854775807 : Int) < (u : Int) := by omega
        clear hpar hp hsg hlt h63
        go_enter Tryz.func116, Tryz.ntmps116
        go_wp2_with fail
        refine (HP.out _).mono ?_
        rintro e w1 ⟨rfl, rfl⟩
        go_wp2_with fail
        go_ret2
        exact ⟨rfl, rfl⟩
      · rw [signedV_none (by rw [hsg, hp]; simp [h63])]
        have h1 : (9223372036854775807 : Int) < (u : Int) := by omega
        clear hpar hp hsg hlt h63
        go_enter Tryz.func116, Tryz.ntmps116
        go_wp2_with fail
        refine (HP.out _).mono ?_
        rintro e w1 ⟨rfl, rfl⟩
        go_wp2_with fail
        go_ret2
        exact ⟨rfl, rfl⟩
end Go.Proofs.YtahpjhnbjkjkiaaGreatDoor
