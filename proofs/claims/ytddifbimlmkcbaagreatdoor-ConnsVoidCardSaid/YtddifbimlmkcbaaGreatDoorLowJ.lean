/- The reference's Parse, ParseSigned, Parse32, at any text. No condition. The reference's small functions on lines: names, verb, rest, gets, bare, bounds; and how it reads a word into a command. No condition. -/
import Derived.Test.YtddifbimlmkcbaaGreatDoorLowB
import Derived.Test.YtddifbimlmkcbaaGreatDoorLineParse
namespace Go.Proofs.YtddifbimlmkcbaaGreatDoor
open Go.RowKit

theorem over_no {n c : Nat} (h0 : 48 ≤ c) (h9 : c ≤ 57) (h : ¬ ((18446744073709551615 : Int) - ((c : Int) - 48)) / 10 < (n : Int)) : n * 10 + (c - 48) < 18446744073709551616 := by omega
theorem over_yes {n c : Nat} (h0 : 48 ≤ c) (h9 : c ≤ 57) (h : ((18446744073709551615 : Int) - ((c : Int) - 48)) / 10 < (n : Int)) : ¬ n * 10 + (c - 48) < 18446744073709551616 := by omega

set_option maxHeartbeats 1000000 in
set_option maxRecDepth 100000 in
theorem refParse_any (s : ByteArray) (w : World) (hs : s.size ≤ maxLen) :
    Calls Tryz.prog 103 #[.string s] w fun e w' => e = .returned (parseV (bs s)) ∧ w = w' := by
  unfold maxLen at hs
  by_cases h1 : s.size < 1
  · have hv := parseV_none (l := bs s) (by rw [List.eq_nil_of_length_eq_zero (l := bs s) (by rw [bs_length]; omega)]; exact parse_nil)
    rw [hv]
    clear hv
    go_enter Tryz.func103, Tryz.ntmps103
    go_wp2_with fail
    go_ret2
    exact ⟨rfl, rfl⟩
  · by_cases h20 : 20 < s.size
    · have hv := parseV_none (l := bs s) (parse_long (by rw [bs_length]; exact h20))
      rw [hv]
      clear hv
      go_enter Tryz.func103, Tryz.ntmps103
      go_wp2_with fail
      go_ret2
      exact ⟨rfl, rfl⟩
    · have HNE : Hid (bs s ≠ []) := by intro h; have := bs_length s; rw [h] at this; simp at this; omega
      have HL := Lib.hid (bs_length s)
      go_enter Tryz.func103, Tryz.ntmps103
      go_wp2_with fail
      go_loop [4, 5] (fun m i => ∃ k n : Nat, k ≤ s.size ∧ i = .int .i64 k ∧ m = .int .u64 n ∧ Scan (bs s) k n) (fun _ i => s.size - (intOf i).toNat)
      case atStart => exact ⟨0, 0, Nat.zero_le _, rfl, rfl, scan_zero _⟩
      case round =>
        obtain ⟨k, n, hk, rfl, rfl, hsc⟩ := hrel
        have hn := hsc.2.2
        by_cases hlt : k < s.size
        · have HG := Lib.hid (bs_get? hlt)
          by_cases hd : digitB s[k] = true
          · have hdd := digit_is.1 hd
            have hd48 : (48 : Int) ≤ (s[k].toNat : Int) := by omega
            have hd57 : (s[k].toNat : Int) ≤ 57 := by omega
            have HD := Lib.hid hd
            have HDD := Lib.hid hdd
            clear hd hdd
            by_cases hov : ((18446744073709551615 : Int) - ((s[k].toNat : Int) - 48)) / 10 < (n : Int)
            · have HV := Lib.hid (parseV_none (scan_over hsc HG.out (over_yes HDD.out.1 HDD.out.2 hov)))
              go_wp2_with fail
              go_ret2
              exact ⟨by rw [HV.out]; rfl, rfl⟩
            · have HOV := Lib.hid (over_no HDD.out.1 HDD.out.2 hov)
              have HSC := Lib.hid hsc
              have hb : ((n : Int) * 10 + ((s[k].toNat : Int) - 48)) ≤ 18446744073709551615 := by have := HOV.out; have := HDD.out.1; omega
              clear hsc
              go_wp2_with fail
              go_round
              case rel => exact ⟨k + 1, n * 10 + (s[k].toNat - 48), by omega, by go_num, int_congr (by have := HDD.out.1; omega), scan_next HSC.out HG.out HD.out HOV.out⟩
              case measure => simp [intOf]; omega
          · have hd0 : digitB s[k] = false := by simpa using hd
            have HV := Lib.hid (parseV_none (scan_bad HG.out hd0))
            clear hd
            by_cases h48 : (s[k].toNat : Int) < 48
            · clear hd0
              go_wp2_with fail
              go_ret2
              exact ⟨by rw [HV.out]; rfl, rfl⟩
            · have h57 : (57 : Int) < (s[k].toNat : Int) := by
                simp only [digitB, Bool.and_eq_false_iff, decide_eq_false_iff_not] at hd0
                omega
              clear hd0
              go_wp2_with fail
              go_ret2
              exact ⟨by rw [HV.out]; rfl, rfl⟩
        · have e : k = s.size := by omega
          have HV := Lib.hid (parseV_some (scan_end (l := bs s) (n := n) (by rw [HL.out, ← e]; exact hsc) HNE.out (by rw [HL.out]; omega)))
          clear e
          go_wp2_with fail
          go_ret2
          exact ⟨by rw [HV.out]; rfl, rfl⟩
theorem refParse_at (l : List UInt8) (w : World) (h : l.length ≤ maxLen) : Calls Tryz.prog 103 #[sv l] w fun e w' => e = .returned (parseV l) ∧ w = w' := refParse_any ⟨l.toArray⟩ w (by rw [sv_size]; exact h)

set_option maxHeartbeats 1000000 in
set_option maxRecDepth 100000 in
theorem refParse32_any (s : ByteArray) (w : World) (hs : s.size ≤ maxLen) :
    Calls Tryz.prog 101 #[.string s] w fun e w' => e = .returned (parse32V (bs s)) ∧ w = w' := by
  have hpar := refParse_any s w hs
  rcases hp : parseN (bs s) with _ | u
  · rw [parse32V_none (by simp [parse32N, hp])]
    rw [parseV_none hp] at hpar
    have HP := Lib.hid hpar
    clear hpar hp hs
    go_enter Tryz.func101, Tryz.ntmps101
    go_wp2_with fail
    refine HP.out.mono ?_
    rintro e w1 ⟨rfl, rfl⟩
    go_wp2_with fail
    go_ret2
    exact ⟨rfl, rfl⟩
  · rw [parseV_some hp] at hpar
    have HP := Lib.hid hpar
    by_cases h32 : u < 4294967296
    · rw [parse32V_some (u := u) (by simp [parse32N, hp, h32])]
      have hwr : IntKind.u32.wrap (u : Int) = (u : Int) := IntWalk.u32_in _ (by omega)
      have h1 : decide ((4294967296 : Int) ≤ (u : Int)) = false := by rw [decide_eq_false_iff_not]; omega
      clear hpar hp h32 hs
      go_enter Tryz.func101, Tryz.ntmps101
      go_wp2_with fail
      refine HP.out.mono ?_
      rintro e w1 ⟨rfl, rfl⟩
      go_wp2_with fail
      go_ret2
      exact ⟨rfl, rfl⟩
    · rw [parse32V_none (by simp [parse32N, hp, h32])]
      have h1 : decide ((4294967296 : Int) ≤ (u : Int)) = true := by rw [decide_eq_true_eq]; omega
      clear hpar hp h32 hs
      go_enter Tryz.func101, Tryz.ntmps101
      go_wp2_with fail
      refine HP.out.mono ?_
      rintro e w1 ⟨rfl, rfl⟩
      go_wp2_with fail
      go_ret2
      exact ⟨rfl, rfl⟩

set_option maxHeartbeats 1000000 in
set_option maxRecDepth 100000 in
theorem refParseSigned_any (s : ByteArray) (w : World) (hs : s.size ≤ maxLen) :
    Calls Tryz.prog 102 #[.string s] w fun e w' => e = .returned (signedV (bs s)) ∧ w = w' := by
  by_cases h45 : ∃ r, bs s = 45 :: r
  · obtain ⟨r, hr⟩ := h45
    have hl := bs_length s
    rw [hr] at hl
    have hl0 : 0 < s.size := by simp at hl; omega
    have hg0 : s[0] = 45 := by
      have := bs_get? hl0
      rw [hr] at this; simpa using this.symm
    have hb0 : ((s[0].toNat : Int) == 45) = true := by rw [hg0]; rfl
    have hdrop : ∀ W, (Instr.slice 9 (.string s) (some (.int .i64 1)) none none).run Tryz.prog W = .ok (sv r) W := fun W => by
      have := slice_from (bs s) 1 (by omega) (by rw [hr]; simp; omega) W
      rw [hr] at this
      rw [← sv_bs, hr]; exact this
    have hpar := fun W => refParse_at r W (by unfold maxLen at *; simp at hl; omega)
    unfold maxLen at hs
    have HD := Lib.hid hdrop
    clear hdrop
    have hsl := fun W => HD.out W
    rcases hp : parseN r with _ | u
    · rw [signedV_none (by rw [hr]; simp [signedN, hp])]
      rw [parseV_none hp] at hpar
      have HP := Lib.hid hpar
      clear hpar hp hr hl hg0
      go_enter Tryz.func102, Tryz.ntmps102
      go_wp2_with fail
      refine (HP.out _).mono ?_
      rintro e w1 ⟨rfl, rfl⟩
      go_wp2_with fail
      go_ret2
      exact ⟨rfl, rfl⟩
    · rw [parseV_some hp] at hpar
      have HP := Lib.hid hpar
      have hlt := parse_lt hp
      by_cases h63 : u ≤ 9223372036854775808
      · rw [signedV_some (z := -(u : Int)) (by rw [hr]; simp [signedN, hp, h63])]
        have h1 : ¬ (9223372036854775808 : Int) < (u : Int) := by omega
        by_cases hu0 : u = 0
        · subst hu0
          clear hpar hp hr hl hg0 hlt h63 h1
          go_enter Tryz.func102, Tryz.ntmps102
          go_wp2_with fail
          refine (HP.out _).mono ?_
          rintro e w1 ⟨rfl, rfl⟩
          go_wp2_with fail
          go_ret2
          exact ⟨rfl, rfl⟩
        · have hz : ((u : Int) == 0) = false := by rw [beq_eq_false_iff_ne]; omega
          have hu1 : 1 ≤ (u : Int) := by omega
          clear hpar hp hr hl hg0 hlt hu0
          go_enter Tryz.func102, Tryz.ntmps102
          go_wp2_with fail
          refine (HP.out _).mono ?_
          rintro e w1 ⟨rfl, rfl⟩
          go_wp2_with fail
          go_ret2
          exact ⟨ret_congr (show Value.tuple #[.int .i64 (-((u : Int) - 1) - 1), .bool true] = _ from by rw [show -((u : Int) - 1) - 1 = -(u : Int) from by omega]), rfl⟩
      · rw [signedV_none (by rw [hr]; simp [signedN, hp, h63])]
        have h1 : (9223372036854775808 : Int) < (u : Int) := by omega
        clear hpar hp hr hl hg0 hlt h63
        go_enter Tryz.func102, Tryz.ntmps102
        go_wp2_with fail
        refine (HP.out _).mono ?_
        rintro e w1 ⟨rfl, rfl⟩
        go_wp2_with fail
        go_ret2
        exact ⟨rfl, rfl⟩
  · have hsg := signed_plain (l := bs s) (fun r hr => h45 ⟨r, hr⟩)
    have hpar := fun W => refParse_any s W hs
    have hz : s.size = 0 ∨ (0 < s.size ∧ ∀ h : 0 < s.size, ((s[0].toNat : Int) == 45) = false) := by
      by_cases h0 : 0 < s.size
      · right
        refine ⟨h0, fun h => ?_⟩
        rw [beq_eq_false_iff_ne]
        intro hc
        have hc' : s[0] = 45 := UInt8.toNat_inj.1 (show s[0].toNat = 45 by omega)
        refine h45 ⟨(bs s).tail, ?_⟩
        have := bs_get? h
        cases hl : bs s with
        | nil => rw [hl] at this; simp at this
        | cons c r => rw [hl] at this; simp at this; rw [this, hc']; rfl
      · left; omega
    unfold maxLen at hs
    clear h45
    rcases hp : parseN (bs s) with _ | u
    · rw [signedV_none (by rw [hsg, hp])]
      rw [parseV_none hp] at hpar
      have HP := Lib.hid hpar
      clear hpar hp hsg
      rcases hz with hz | ⟨h0, hz⟩
      · have hzz : ¬ (0 : Int) < (s.size : Int) := by omega
        have HZ := Lib.hid hz
        clear hz
        go_enter Tryz.func102, Tryz.ntmps102
        go_wp2_with fail
        refine (HP.out _).mono ?_
        rintro e w1 ⟨rfl, rfl⟩
        go_wp2_with fail
        go_ret2
        exact ⟨rfl, rfl⟩
      · have hz := hz h0
        go_enter Tryz.func102, Tryz.ntmps102
        go_wp2_with fail
        refine (HP.out _).mono ?_
        rintro e w1 ⟨rfl, rfl⟩
        go_wp2_with fail
        go_ret2
        exact ⟨rfl, rfl⟩
    · rw [parseV_some hp] at hpar
      have HP := Lib.hid hpar
      have hlt := parse_lt hp
      have hne : 0 < s.size := by
        rcases hz with hz | ⟨h, _⟩
        · rw [List.eq_nil_of_length_eq_zero (l := bs s) (by rw [bs_length]; exact hz), parse_nil] at hp; cases hp
        · exact h
      have hz := (hz.resolve_left (by omega)).2 hne
      by_cases h63 : u < 9223372036854775808
      · rw [signedV_some (z := (u : Int)) (by rw [hsg, hp]; simp [h63])]
        have hneg : IntKind.i64.wrap (u : Int) = (u : Int) := IntWalk.i64_in _ (by omega)
        have h1 : ¬ (9223372036854775807 : Int) < (u : Int) := by omega
        clear hpar hp hsg hlt h63
        go_enter Tryz.func102, Tryz.ntmps102
        go_wp2_with fail
        refine (HP.out _).mono ?_
        rintro e w1 ⟨rfl, rfl⟩
        go_wp2_with fail
        go_ret2
        exact ⟨rfl, rfl⟩
      · rw [signedV_none (by rw [hsg, hp]; simp [h63])]
        have h1 : (9223372036854775807 : Int) < (u : Int) := by omega
        clear hpar hp hsg hlt h63
        go_enter Tryz.func102, Tryz.ntmps102
        go_wp2_with fail
        refine (HP.out _).mono ?_
        rintro e w1 ⟨rfl, rfl⟩
        go_wp2_with fail
        go_ret2
        exact ⟨rfl, rfl⟩
end Go.Proofs.YtddifbimlmkcbaaGreatDoor
namespace Go.Proofs.YtddifbimlmkcbaaGreatDoor
open Go.RowKit Go.ChangeMaps Go.MapKept

theorem refNames_any (w : World) : Calls Tryz.prog 99 #[] w fun e w' => e = .returned (.slice (some ⟨w.heap.size, 0, none⟩) 13 13) ∧ w' = w.alloc (.cells (names.map sv).toArray 9) := by
  go_enter Tryz.func99, Tryz.ntmps99
  go_wp2_with fail
  go_ret
  exact ⟨rfl, rfl⟩

theorem verb_hit {x : List UInt8} {k : Nat} {y : List UInt8} (hy : names[k]? = some y) (he : (y == x) = true) (hf : Good (fun y => y == x) names k) : verbOf x = k + 1 := by
  unfold verbOf; rw [good_hit hy he hf]
theorem verb_none {x : List UInt8} (hf : Good (fun y => y == x) names names.length) : verbOf x = 0 := by
  unfold verbOf; rw [good_all hf]
theorem verb_lt (x : List UInt8) : verbOf x < 14 := by
  unfold verbOf
  cases h : names.findIdx? (· == x) with
  | none => simp
  | some i =>
    obtain ⟨hi, _⟩ := List.findIdx?_eq_some_iff_getElem.1 h
    have : names.length = 13 := rfl
    simp; omega

set_option maxHeartbeats 1000000 in
set_option maxRecDepth 100000 in
theorem refVerb_any (x : List UInt8) (w : World) : Calls Tryz.prog 85 #[sv x] w fun e w' => e = .returned (.int .u8 (verbOf x : Int)) ∧ Below w.heap.size w w' := by
  go_enter Tryz.func85, Tryz.ntmps85
  go_wp2_with fail
  refine (refNames_any w).mono ?_
  rintro e w' ⟨rfl, rfl⟩
  have hcell : ∀ (k : Nat) (y : List UInt8), names[k]? = some y → (w.alloc (.cells (names.map sv).toArray 9)).cell? ⟨w.heap.size, k, none⟩ = some (sv y) := fun k y h => by
    rw [(block_cell (heap_alloc_new _ _) k).1]; simp [h]
  have HC := Lib.hid hcell
  clear hcell
  have hb := (Below.refl w.heap.size w).alloc (Nat.le_refl _) (.cells (names.map sv).toArray 9)
  generalize w.alloc (.cells (names.map sv).toArray 9) = w1 at *
  have HB := Lib.hid hb
  clear hb
  go_wp2_with fail
  go_loop [4] (fun i => ∃ k : Nat, k ≤ 13 ∧ i = .int .i64 k ∧ Good (fun y => y == x) names k) (fun i => 13 - (intOf i).toNat)
  case atStart => exact ⟨0, by omega, rfl, good_zero _ _⟩
  case round =>
    obtain ⟨k, hk, rfl, hg⟩ := hrel
    by_cases hlt : k < 13
    · obtain ⟨y, hy⟩ : ∃ y, names[k]? = some y := ⟨_, List.getElem?_eq_getElem hlt⟩
      have hcy := HC.out k y hy
      have HG := Lib.hid hg
      have HY := Lib.hid hy
      clear hg hy
      cases hyx : (y == x)
      · have HX := Lib.hid (good_step HY.out hyx HG.out)
        go_wp2_with fail
        go_round
        case rel => exact ⟨k + 1, by omega, by go_num, HX.out⟩
        case measure => simp [intOf]; omega
      · have HX := Lib.hid (verb_hit HY.out hyx HG.out)
        have hwr : IntKind.u8.wrap ((k : Int) + 1) = (k : Int) + 1 := by rw [IntKind.wrap_u8]; omega
        go_wp2_with fail
        go_ret
        exact ⟨by rw [HX.out]; rfl, HB.out⟩
    · have HX := Lib.hid (verb_none (hg.mono (by show 13 ≤ k; omega)))
      clear hg
      go_wp2_with fail
      go_ret
      exact ⟨by rw [HX.out]; rfl, HB.out⟩

/-- A field's letter. -/
def letter (f : Nat) : UInt8 := [102, 101, 98, 105, 121].getD f 0
def letters (v : Nat) : List UInt8 := (restOf v).map letter
def bareOf (v : Nat) : Bool := v == 11 || v == 12 || v == 13
theorem refGets_any (v : Nat) (hv : v < 14) (w : World) : Calls Tryz.prog 87 #[.int .u8 (v : Int)] w fun e w' => e = .returned (.bool (keysOf v)) ∧ w = w' := by
  match v, hv with
  | 0, _ =>
    go_enter Tryz.func87, Tryz.ntmps87
    go_wp2_with fail
    go_ret
    exact ⟨rfl, rfl⟩
  | 1, _ =>
    go_enter Tryz.func87, Tryz.ntmps87
    go_wp2_with fail
    go_ret
    exact ⟨rfl, rfl⟩
  | 2, _ =>
    go_enter Tryz.func87, Tryz.ntmps87
    go_wp2_with fail
    go_ret
    exact ⟨rfl, rfl⟩
  | 3, _ =>
    go_enter Tryz.func87, Tryz.ntmps87
    go_wp2_with fail
    go_ret
    exact ⟨rfl, rfl⟩
  | 4, _ =>
    go_enter Tryz.func87, Tryz.ntmps87
    go_wp2_with fail
    go_ret
    exact ⟨rfl, rfl⟩
  | 5, _ =>
    go_enter Tryz.func87, Tryz.ntmps87
    go_wp2_with fail
    go_ret
    exact ⟨rfl, rfl⟩
  | 6, _ =>
    go_enter Tryz.func87, Tryz.ntmps87
    go_wp2_with fail
    go_ret
    exact ⟨rfl, rfl⟩
  | 7, _ =>
    go_enter Tryz.func87, Tryz.ntmps87
    go_wp2_with fail
    go_ret
    exact ⟨rfl, rfl⟩
  | 8, _ =>
    go_enter Tryz.func87, Tryz.ntmps87
    go_wp2_with fail
    go_ret
    exact ⟨rfl, rfl⟩
  | 9, _ =>
    go_enter Tryz.func87, Tryz.ntmps87
    go_wp2_with fail
    go_ret
    exact ⟨rfl, rfl⟩
  | 10, _ =>
    go_enter Tryz.func87, Tryz.ntmps87
    go_wp2_with fail
    go_ret
    exact ⟨rfl, rfl⟩
  | 11, _ =>
    go_enter Tryz.func87, Tryz.ntmps87
    go_wp2_with fail
    go_ret
    exact ⟨rfl, rfl⟩
  | 12, _ =>
    go_enter Tryz.func87, Tryz.ntmps87
    go_wp2_with fail
    go_ret
    exact ⟨rfl, rfl⟩
  | 13, _ =>
    go_enter Tryz.func87, Tryz.ntmps87
    go_wp2_with fail
    go_ret
    exact ⟨rfl, rfl⟩
theorem refBare_any (v : Nat) (hv : v < 14) (w : World) : Calls Tryz.prog 88 #[.int .u8 (v : Int)] w fun e w' => e = .returned (.bool (bareOf v)) ∧ w = w' := by
  match v, hv with
  | 0, _ =>
    go_enter Tryz.func88, Tryz.ntmps88
    go_wp2_with fail
    go_ret
    exact ⟨rfl, rfl⟩
  | 1, _ =>
    go_enter Tryz.func88, Tryz.ntmps88
    go_wp2_with fail
    go_ret
    exact ⟨rfl, rfl⟩
  | 2, _ =>
    go_enter Tryz.func88, Tryz.ntmps88
    go_wp2_with fail
    go_ret
    exact ⟨rfl, rfl⟩
  | 3, _ =>
    go_enter Tryz.func88, Tryz.ntmps88
    go_wp2_with fail
    go_ret
    exact ⟨rfl, rfl⟩
  | 4, _ =>
    go_enter Tryz.func88, Tryz.ntmps88
    go_wp2_with fail
    go_ret
    exact ⟨rfl, rfl⟩
  | 5, _ =>
    go_enter Tryz.func88, Tryz.ntmps88
    go_wp2_with fail
    go_ret
    exact ⟨rfl, rfl⟩
  | 6, _ =>
    go_enter Tryz.func88, Tryz.ntmps88
    go_wp2_with fail
    go_ret
    exact ⟨rfl, rfl⟩
  | 7, _ =>
    go_enter Tryz.func88, Tryz.ntmps88
    go_wp2_with fail
    go_ret
    exact ⟨rfl, rfl⟩
  | 8, _ =>
    go_enter Tryz.func88, Tryz.ntmps88
    go_wp2_with fail
    go_ret
    exact ⟨rfl, rfl⟩
  | 9, _ =>
    go_enter Tryz.func88, Tryz.ntmps88
    go_wp2_with fail
    go_ret
    exact ⟨rfl, rfl⟩
  | 10, _ =>
    go_enter Tryz.func88, Tryz.ntmps88
    go_wp2_with fail
    go_ret
    exact ⟨rfl, rfl⟩
  | 11, _ =>
    go_enter Tryz.func88, Tryz.ntmps88
    go_wp2_with fail
    go_ret
    exact ⟨rfl, rfl⟩
  | 12, _ =>
    go_enter Tryz.func88, Tryz.ntmps88
    go_wp2_with fail
    go_ret
    exact ⟨rfl, rfl⟩
  | 13, _ =>
    go_enter Tryz.func88, Tryz.ntmps88
    go_wp2_with fail
    go_ret
    exact ⟨rfl, rfl⟩
set_option maxHeartbeats 1000000 in
theorem refRest_any (v : Nat) (hv : v < 14) (w : World) : Calls Tryz.prog 90 #[.int .u8 (v : Int)] w fun e w' => e = .returned (sv (letters v)) ∧ w = w' := by
  match v, hv with
  | 0, _ =>
    go_enter Tryz.func90, Tryz.ntmps90
    go_wp2_with fail
    go_ret
    exact ⟨rfl, rfl⟩
  | 1, _ =>
    go_enter Tryz.func90, Tryz.ntmps90
    go_wp2_with fail
    go_ret
    exact ⟨rfl, rfl⟩
  | 2, _ =>
    go_enter Tryz.func90, Tryz.ntmps90
    go_wp2_with fail
    go_ret
    exact ⟨rfl, rfl⟩
  | 3, _ =>
    go_enter Tryz.func90, Tryz.ntmps90
    go_wp2_with fail
    go_ret
    exact ⟨rfl, rfl⟩
  | 4, _ =>
    go_enter Tryz.func90, Tryz.ntmps90
    go_wp2_with fail
    go_ret
    exact ⟨rfl, rfl⟩
  | 5, _ =>
    go_enter Tryz.func90, Tryz.ntmps90
    go_wp2_with fail
    go_ret
    exact ⟨rfl, rfl⟩
  | 6, _ =>
    go_enter Tryz.func90, Tryz.ntmps90
    go_wp2_with fail
    go_ret
    exact ⟨rfl, rfl⟩
  | 7, _ =>
    go_enter Tryz.func90, Tryz.ntmps90
    go_wp2_with fail
    go_ret
    exact ⟨rfl, rfl⟩
  | 8, _ =>
    go_enter Tryz.func90, Tryz.ntmps90
    go_wp2_with fail
    go_ret
    exact ⟨rfl, rfl⟩
  | 9, _ =>
    go_enter Tryz.func90, Tryz.ntmps90
    go_wp2_with fail
    go_ret
    exact ⟨rfl, rfl⟩
  | 10, _ =>
    go_enter Tryz.func90, Tryz.ntmps90
    go_wp2_with fail
    go_ret
    exact ⟨rfl, rfl⟩
  | 11, _ =>
    go_enter Tryz.func90, Tryz.ntmps90
    go_wp2_with fail
    go_ret
    exact ⟨rfl, rfl⟩
  | 12, _ =>
    go_enter Tryz.func90, Tryz.ntmps90
    go_wp2_with fail
    go_ret
    exact ⟨rfl, rfl⟩
  | 13, _ =>
    go_enter Tryz.func90, Tryz.ntmps90
    go_wp2_with fail
    go_ret
    exact ⟨rfl, rfl⟩
set_option maxHeartbeats 4000000 in
theorem refBounds_any (v : Nat) (h0 : v ≠ 0) (hv : v < 14) (w : World) : Calls Tryz.prog 86 #[.int .u8 (v : Int)] w fun e w' => e = .returned (.tuple #[.int .i64 (leastOf v : Int), .int .i64 (mostOf v : Int)]) ∧ w = w' := by
  match v, h0, hv with
  | 1, _, _ =>
    have hl : (letters 1).length = 0 := rfl
    go_enter Tryz.func86, Tryz.ntmps86
    go_wp2_with (first | (go_at_call 90; refine (refRest_any 1 (by omega) _).mono ?_; rintro e w' ⟨rfl, rfl⟩) | (go_at_call 87; refine (refGets_any 1 (by omega) _).mono ?_; rintro e w' ⟨rfl, rfl⟩) | (go_at_call 88; refine (refBare_any 1 (by omega) _).mono ?_; rintro e w' ⟨rfl, rfl⟩))
    go_ret2
    exact ⟨rfl, rfl⟩
  | 2, _, _ =>
    have hl : (letters 2).length = 0 := rfl
    go_enter Tryz.func86, Tryz.ntmps86
    go_wp2_with (first | (go_at_call 90; refine (refRest_any 2 (by omega) _).mono ?_; rintro e w' ⟨rfl, rfl⟩) | (go_at_call 87; refine (refGets_any 2 (by omega) _).mono ?_; rintro e w' ⟨rfl, rfl⟩) | (go_at_call 88; refine (refBare_any 2 (by omega) _).mono ?_; rintro e w' ⟨rfl, rfl⟩))
    go_ret2
    exact ⟨rfl, rfl⟩
  | 3, _, _ =>
    have hl : (letters 3).length = 3 := rfl
    go_enter Tryz.func86, Tryz.ntmps86
    go_wp2_with (first | (go_at_call 90; refine (refRest_any 3 (by omega) _).mono ?_; rintro e w' ⟨rfl, rfl⟩) | (go_at_call 87; refine (refGets_any 3 (by omega) _).mono ?_; rintro e w' ⟨rfl, rfl⟩) | (go_at_call 88; refine (refBare_any 3 (by omega) _).mono ?_; rintro e w' ⟨rfl, rfl⟩))
    go_ret2
    exact ⟨rfl, rfl⟩
  | 4, _, _ =>
    have hl : (letters 4).length = 3 := rfl
    go_enter Tryz.func86, Tryz.ntmps86
    go_wp2_with (first | (go_at_call 90; refine (refRest_any 4 (by omega) _).mono ?_; rintro e w' ⟨rfl, rfl⟩) | (go_at_call 87; refine (refGets_any 4 (by omega) _).mono ?_; rintro e w' ⟨rfl, rfl⟩) | (go_at_call 88; refine (refBare_any 4 (by omega) _).mono ?_; rintro e w' ⟨rfl, rfl⟩))
    go_ret2
    exact ⟨rfl, rfl⟩
  | 5, _, _ =>
    have hl : (letters 5).length = 3 := rfl
    go_enter Tryz.func86, Tryz.ntmps86
    go_wp2_with (first | (go_at_call 90; refine (refRest_any 5 (by omega) _).mono ?_; rintro e w' ⟨rfl, rfl⟩) | (go_at_call 87; refine (refGets_any 5 (by omega) _).mono ?_; rintro e w' ⟨rfl, rfl⟩) | (go_at_call 88; refine (refBare_any 5 (by omega) _).mono ?_; rintro e w' ⟨rfl, rfl⟩))
    go_ret2
    exact ⟨rfl, rfl⟩
  | 6, _, _ =>
    have hl : (letters 6).length = 4 := rfl
    go_enter Tryz.func86, Tryz.ntmps86
    go_wp2_with (first | (go_at_call 90; refine (refRest_any 6 (by omega) _).mono ?_; rintro e w' ⟨rfl, rfl⟩) | (go_at_call 87; refine (refGets_any 6 (by omega) _).mono ?_; rintro e w' ⟨rfl, rfl⟩) | (go_at_call 88; refine (refBare_any 6 (by omega) _).mono ?_; rintro e w' ⟨rfl, rfl⟩))
    go_ret2
    exact ⟨rfl, rfl⟩
  | 7, _, _ =>
    have hl : (letters 7).length = 0 := rfl
    go_enter Tryz.func86, Tryz.ntmps86
    go_wp2_with (first | (go_at_call 90; refine (refRest_any 7 (by omega) _).mono ?_; rintro e w' ⟨rfl, rfl⟩) | (go_at_call 87; refine (refGets_any 7 (by omega) _).mono ?_; rintro e w' ⟨rfl, rfl⟩) | (go_at_call 88; refine (refBare_any 7 (by omega) _).mono ?_; rintro e w' ⟨rfl, rfl⟩))
    go_ret2
    exact ⟨rfl, rfl⟩
  | 8, _, _ =>
    have hl : (letters 8).length = 1 := rfl
    go_enter Tryz.func86, Tryz.ntmps86
    go_wp2_with (first | (go_at_call 90; refine (refRest_any 8 (by omega) _).mono ?_; rintro e w' ⟨rfl, rfl⟩) | (go_at_call 87; refine (refGets_any 8 (by omega) _).mono ?_; rintro e w' ⟨rfl, rfl⟩) | (go_at_call 88; refine (refBare_any 8 (by omega) _).mono ?_; rintro e w' ⟨rfl, rfl⟩))
    go_ret2
    exact ⟨rfl, rfl⟩
  | 9, _, _ =>
    have hl : (letters 9).length = 1 := rfl
    go_enter Tryz.func86, Tryz.ntmps86
    go_wp2_with (first | (go_at_call 90; refine (refRest_any 9 (by omega) _).mono ?_; rintro e w' ⟨rfl, rfl⟩) | (go_at_call 87; refine (refGets_any 9 (by omega) _).mono ?_; rintro e w' ⟨rfl, rfl⟩) | (go_at_call 88; refine (refBare_any 9 (by omega) _).mono ?_; rintro e w' ⟨rfl, rfl⟩))
    go_ret2
    exact ⟨rfl, rfl⟩
  | 10, _, _ =>
    have hl : (letters 10).length = 1 := rfl
    go_enter Tryz.func86, Tryz.ntmps86
    go_wp2_with (first | (go_at_call 90; refine (refRest_any 10 (by omega) _).mono ?_; rintro e w' ⟨rfl, rfl⟩) | (go_at_call 87; refine (refGets_any 10 (by omega) _).mono ?_; rintro e w' ⟨rfl, rfl⟩) | (go_at_call 88; refine (refBare_any 10 (by omega) _).mono ?_; rintro e w' ⟨rfl, rfl⟩))
    go_ret2
    exact ⟨rfl, rfl⟩
  | 11, _, _ =>
    have hl : (letters 11).length = 1 := rfl
    go_enter Tryz.func86, Tryz.ntmps86
    go_wp2_with (first | (go_at_call 90; refine (refRest_any 11 (by omega) _).mono ?_; rintro e w' ⟨rfl, rfl⟩) | (go_at_call 87; refine (refGets_any 11 (by omega) _).mono ?_; rintro e w' ⟨rfl, rfl⟩) | (go_at_call 88; refine (refBare_any 11 (by omega) _).mono ?_; rintro e w' ⟨rfl, rfl⟩))
    go_ret2
    exact ⟨rfl, rfl⟩
  | 12, _, _ =>
    have hl : (letters 12).length = 0 := rfl
    go_enter Tryz.func86, Tryz.ntmps86
    go_wp2_with (first | (go_at_call 90; refine (refRest_any 12 (by omega) _).mono ?_; rintro e w' ⟨rfl, rfl⟩) | (go_at_call 87; refine (refGets_any 12 (by omega) _).mono ?_; rintro e w' ⟨rfl, rfl⟩) | (go_at_call 88; refine (refBare_any 12 (by omega) _).mono ?_; rintro e w' ⟨rfl, rfl⟩))
    go_ret2
    exact ⟨rfl, rfl⟩
  | 13, _, _ =>
    have hl : (letters 13).length = 0 := rfl
    go_enter Tryz.func86, Tryz.ntmps86
    go_wp2_with (first | (go_at_call 90; refine (refRest_any 13 (by omega) _).mono ?_; rintro e w' ⟨rfl, rfl⟩) | (go_at_call 87; refine (refGets_any 13 (by omega) _).mono ?_; rintro e w' ⟨rfl, rfl⟩) | (go_at_call 88; refine (refBare_any 13 (by omega) _).mono ?_; rintro e w' ⟨rfl, rfl⟩))
    go_ret2
    exact ⟨rfl, rfl⟩

/-- Block b holds a command of the reference's. -/
def CAt (w : World) (b : Nat) (ks : Value) (c : Cmd) : Prop := w.heap[b]? = some (.cells (cmdCells ks c).toArray 61 (0, 0))
theorem CAt.free {w : World} {p : Nat} {ks : Value} {c : Cmd} (h : CAt w p ks c) (j : Nat) : w.frozen? ⟨p, j, none⟩ = false := (block_cell h j).2
theorem CAt.cell {w : World} {p : Nat} {ks : Value} {c : Cmd} (h : CAt w p ks c) (j : Nat) {v : Value} (hj : (cmdCells ks c)[j]? = some v) : w.cell? ⟨p, j, none⟩ = some v := by
  rw [(block_cell h j).1]; simpa using hj
theorem CAt.lt {w : World} {p : Nat} {ks : Value} {c : Cmd} (h : CAt w p ks c) : p < w.heap.size := lt_of_block h
theorem CAt.grown {w w' : World} {p : Nat} {ks : Value} {c : Cmd} {row : Option Nat} (h : CAt w p ks c) (hg : w.grownBy w' row) (hne : some p ≠ row) : CAt w' p ks c := (hg.block p h.lt hne).trans h
theorem CAt.set {w : World} {p : Nat} {ks : Value} {c : Cmd} (h : CAt w p ks c) (j : Nat) (v : Value) {ks' : Value} {c' : Cmd} (he : ((cmdCells ks c).toArray).setIfInBounds j v = (cmdCells ks' c').toArray) : CAt (w.setCell ⟨p, j, none⟩ v) p ks' c' := by
  unfold CAt
  rw [heap_setCell_same w p j _ _ v h, he]

/-- What the reference's read makes of a field's word. -/
def toldF (c : Cmd) (f : Nat) (x : List UInt8) : Nat := if (readF c f x).2 then 0 else if f = 4 then 4 else 2
def RefReadOk (p : Nat) (ks : Value) (_c r : Cmd) (ok : Bool) (t : Nat) (w : World) (e : Ending) (w' : World) : Prop :=
  e = .returned (.int .i64 (t : Int)) ∧ ∃ c', CAt w' p ks c' ∧ w.grownBy w' (some p) ∧ (ok = true → c' = r)
def RefReads (f : Nat) : Prop := ∀ (p : Nat) (ks : Value) (c : Cmd) (x : List UInt8) (w : World), x.length ≤ maxLen → CAt w p ks c →
  Calls Tryz.prog 91 #[.pointer (some ⟨p, 0, none⟩), .int .u8 ((letter f).toNat : Int), sv x] w (RefReadOk p ks c (readF c f x).1 (readF c f x).2 (toldF c f x) w)

set_option maxHeartbeats 1000000 in
set_option maxRecDepth 100000 in
theorem refFlags : RefReads 0 := by
  intro p ks c x w hx hp
  have hc := fun W => refParse32_any ⟨x.toArray⟩ W (by rw [sv_size]; exact hx)
  rw [show bs ⟨x.toArray⟩ = x from rfl, parse32V_is] at hc
  have h2 : readF c 0 x = ({ c with flags := (parse32N x).getD 0 }, (parse32N x).isSome) := rfl
  have h3 : toldF c 0 x = if (parse32N x).isSome then 0 else 2 := rfl
  rw [h2, h3]
  show Calls _ _ #[_, .int .u8 102, _] _ _
  generalize (parse32N x).getD 0 = n at *
  have HC := Lib.hid hc
  have c6 := hp.cell 5 rfl
  have f6 := hp.free 5
  have HP := Lib.hid hp
  clear hc hp h2 h3
  cases hb : (parse32N x).isSome
  all_goals
    have HC2 := Lib.hid (by have := HC.out; rw [hb] at this; exact this)
    clear HC hb
    go_enter Tryz.func91, Tryz.ntmps91
    go_wp2_with fail
    refine (HC2.out _).mono ?_
    rintro e w1 ⟨rfl, rfl⟩
    go_wp2_with fail
    go_ret
    exact ⟨rfl, _, HP.out.set 5 _ rfl, grown_set _ _ _ _, fun _ => rfl⟩

set_option maxHeartbeats 1000000 in
set_option maxRecDepth 100000 in
theorem refExp : RefReads 1 := by
  intro p ks c x w hx hp
  have hc := fun W => refParseSigned_any ⟨x.toArray⟩ W (by rw [sv_size]; exact hx)
  rw [show bs ⟨x.toArray⟩ = x from rfl, signedV_is] at hc
  have h2 : readF c 1 x = ({ c with exp := (signedN x).getD 0 }, (signedN x).isSome) := rfl
  have h3 : toldF c 1 x = if (signedN x).isSome then 0 else 2 := rfl
  rw [h2, h3]
  show Calls _ _ #[_, .int .u8 101, _] _ _
  generalize (signedN x).getD 0 = n at *
  have HC := Lib.hid hc
  have c6 := hp.cell 6 rfl
  have f6 := hp.free 6
  have HP := Lib.hid hp
  clear hc hp h2 h3
  cases hb : (signedN x).isSome
  all_goals
    have HC2 := Lib.hid (by have := HC.out; rw [hb] at this; exact this)
    clear HC hb
    go_enter Tryz.func91, Tryz.ntmps91
    go_wp2_with fail
    refine (HC2.out _).mono ?_
    rintro e w1 ⟨rfl, rfl⟩
    go_wp2_with fail
    go_ret
    exact ⟨rfl, _, HP.out.set 6 _ rfl, grown_set _ _ _ _, fun _ => rfl⟩

set_option maxHeartbeats 1000000 in
set_option maxRecDepth 100000 in
theorem refId : RefReads 3 := by
  intro p ks c x w hx hp
  have hc := fun W => refParse_any ⟨x.toArray⟩ W (by rw [sv_size]; exact hx)
  rw [show bs ⟨x.toArray⟩ = x from rfl, parseV_is] at hc
  have h2 : readF c 3 x = ({ c with id := (parseN x).getD 0 }, (parseN x).isSome) := rfl
  have h3 : toldF c 3 x = if (parseN x).isSome then 0 else 2 := rfl
  rw [h2, h3]
  show Calls _ _ #[_, .int .u8 105, _] _ _
  generalize (parseN x).getD 0 = n at *
  have HC := Lib.hid hc
  have c6 := hp.cell 7 rfl
  have f6 := hp.free 7
  have HP := Lib.hid hp
  clear hc hp h2 h3
  cases hb : (parseN x).isSome
  all_goals
    have HC2 := Lib.hid (by have := HC.out; rw [hb] at this; exact this)
    clear HC hb
    go_enter Tryz.func91, Tryz.ntmps91
    go_wp2_with fail
    refine (HC2.out _).mono ?_
    rintro e w1 ⟨rfl, rfl⟩
    go_wp2_with fail
    go_ret
    exact ⟨rfl, _, HP.out.set 7 _ rfl, grown_set _ _ _ _, fun _ => rfl⟩

set_option maxHeartbeats 1000000 in
set_option maxRecDepth 100000 in
theorem refBy : RefReads 4 := by
  intro p ks c x w hx hp
  have hc := fun W => refParse_any ⟨x.toArray⟩ W (by rw [sv_size]; exact hx)
  rw [show bs ⟨x.toArray⟩ = x from rfl, parseV_is] at hc
  have h2 : readF c 4 x = ({ c with by' := (parseN x).getD 0 }, (parseN x).isSome) := rfl
  have h3 : toldF c 4 x = if (parseN x).isSome then 0 else 4 := rfl
  rw [h2, h3]
  show Calls _ _ #[_, .int .u8 121, _] _ _
  generalize (parseN x).getD 0 = n at *
  have HC := Lib.hid hc
  have c6 := hp.cell 8 rfl
  have f6 := hp.free 8
  have HP := Lib.hid hp
  clear hc hp h2 h3
  cases hb : (parseN x).isSome
  all_goals
    have HC2 := Lib.hid (by have := HC.out; rw [hb] at this; exact this)
    clear HC hb
    go_enter Tryz.func91, Tryz.ntmps91
    go_wp2_with fail
    refine (HC2.out _).mono ?_
    rintro e w1 ⟨rfl, rfl⟩
    go_wp2_with fail
    go_ret
    exact ⟨rfl, _, HP.out.set 8 _ rfl, grown_set _ _ _ _, fun _ => rfl⟩

set_option maxHeartbeats 1000000 in
set_option maxRecDepth 100000 in
theorem refBytes : RefReads 2 := by
  intro p ks c x w hx hp
  have hc := fun W => refParse_any ⟨x.toArray⟩ W (by rw [sv_size]; exact hx)
  rw [show bs ⟨x.toArray⟩ = x from rfl] at hc
  show Calls _ _ #[_, .int .u8 98, _] _ _
  have hcase : (parseN x = none) ∨ ∃ n, parseN x = some n := by cases parseN x; exact .inl rfl; exact .inr ⟨_, rfl⟩
  have c9 := hp.cell 9 rfl
  have f9 := hp.free 9
  have HP := Lib.hid hp
  clear hp
  rcases hcase with h | ⟨n, h⟩
  · rw [parseV_none h] at hc
    have h2 : readF c 2 x = ({ c with bytes := 0 }, false) := by simp [readF, h]
    have h3 : toldF c 2 x = 2 := by simp [toldF, h2]
    rw [h2, h3]
    have HC := Lib.hid hc
    clear hc h2 h3 h
    go_enter Tryz.func91, Tryz.ntmps91
    go_wp2_with fail
    refine (HC.out _).mono ?_
    rintro e w1 ⟨rfl, rfl⟩
    go_wp2_with fail
    go_ret
    exact ⟨rfl, _, HP.out, World.grownBy.refl _ _, fun h => by cases h⟩
  · rw [parseV_some h] at hc
    have hlt := parse_lt h
    by_cases hM : n ≤ 2147483647
    · have h2 : readF c 2 x = ({ c with bytes := (n : Int) }, true) := by simp [readF, h, hM]
      have h3 : toldF c 2 x = 0 := by simp [toldF, h2]
      rw [h2, h3]
      have hw : IntKind.i64.wrap (n : Int) = (n : Int) := IntWalk.i64_in _ (by omega)
      have hle : decide ((n : Int) ≤ 2147483647) = true := by rw [decide_eq_true_eq]; omega
      have HC := Lib.hid hc
      clear hc h2 h3 h hlt hM
      go_enter Tryz.func91, Tryz.ntmps91
      go_wp2_with fail
      refine (HC.out _).mono ?_
      rintro e w1 ⟨rfl, rfl⟩
      go_wp2_with fail
      go_ret
      exact ⟨rfl, _, HP.out.set 9 _ rfl, grown_set _ _ _ _, fun _ => rfl⟩
    · have h2 : (readF c 2 x).2 = false := by simp [readF, h, hM]
      have h3 : toldF c 2 x = 2 := by simp [toldF, h2]
      rw [h2, h3]
      generalize (readF c 2 x).1 = r
      have hle : decide ((n : Int) ≤ 2147483647) = false := by rw [decide_eq_false_iff_not]; omega
      have HC := Lib.hid hc
      clear hc h2 h3 h hlt hM
      go_enter Tryz.func91, Tryz.ntmps91
      go_wp2_with fail
      refine (HC.out _).mono ?_
      rintro e w1 ⟨rfl, rfl⟩
      go_wp2_with fail
      go_ret
      exact ⟨rfl, _, HP.out, World.grownBy.refl _ _, fun h => by cases h⟩
theorem refRead_any {f : Nat} (hf : f < 5) : RefReads f := by
  match f, hf with
  | 0, _ => exact refFlags
  | 1, _ => exact refExp
  | 2, _ => exact refBytes
  | 3, _ => exact refId
  | 4, _ => exact refBy
end Go.Proofs.YtddifbimlmkcbaaGreatDoor
