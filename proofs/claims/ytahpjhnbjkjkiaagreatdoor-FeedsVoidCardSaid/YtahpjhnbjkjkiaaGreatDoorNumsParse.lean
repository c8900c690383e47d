/- nums.Parse and the reference's: at any text. Condition: the library's variable ErrRange holds an error. -/
import Derived.Test.YtahpjhnbjkjkiaaGreatDoorNums
import Derived.Lib.SmallJoins
import Derived.Lib.AtoiErrMem
namespace Go.Proofs.YtahpjhnbjkjkiaaGreatDoor
open Go.RowKit

/-- The library's variable ErrRange holds an error. -/
def HasErr (w : World) : Prop := ∃ tp p, w.var? Tryz.prog "strconv.ErrRange" = some #[.iface tp p]
theorem HasErr.below {w w' : World} (h : HasErr w) (hb : Below w.heap.size w w') : HasErr w' := by
  obtain ⟨tp, p, h⟩ := h
  have hg : Tryz.prog.globalNamed "strconv.ErrRange" = some 7 := by kernel_rfl
  have hc := World.var?_cell hg h 0
  exact ⟨tp, p, var?_below hb hg (cell_lt hc) h⟩

def parseV (l : List UInt8) : Value := match parseN l with | some u => .tuple #[.int .u64 u, .bool true] | none => .tuple #[.int .u64 0, .bool false]
theorem parseV_none {l : List UInt8} (h : parseN l = none) : parseV l = .tuple #[.int .u64 0, .bool false] := by simp [parseV, h]
theorem parseV_some {l : List UInt8} {u : Nat} (h : parseN l = some u) : parseV l = .tuple #[.int .u64 u, .bool true] := by simp [parseV, h]
theorem num_parse {l : List UInt8} (h : numB l = true) : (parseN l = none ∧ Lib.parseUintB 64 l = .range) ∨ ∃ u, parseN l = some u ∧ Lib.parseUintB 64 l = .ok u := by
  rw [parse_uint h]
  unfold parseN
  by_cases hd : dval 0 l < 18446744073709551616
  · right; exact ⟨_, by rw [if_pos ⟨h, hd⟩], by rw [if_pos hd]⟩
  · left; exact ⟨by rw [if_neg (by rintro ⟨_, h⟩; exact hd h)], by rw [if_neg hd]⟩
theorem num_size {s : ByteArray} (h : numB (bs s) = true) : s.size ≤ 20 := by
  rw [← bs_length]; exact num_short h
theorem parse_no {l : List UInt8} (h : numB l = false) : parseN l = none := by unfold parseN; rw [h]; simp

set_option maxHeartbeats 1000000 in
set_option maxRecDepth 100000 in
theorem parse_any (s : ByteArray) (w : World) (hE : HasErr w) :
    Calls Tryz.prog 152 #[.string s] w fun e w' => e = .returned (parseV (bs s)) ∧ Below w.heap.size w w' := by
  have HE := Lib.hid hE
  have HN := Lib.hid (number_any s w)
  clear hE
  by_cases hn : numB (bs s) = true
  · have hz := num_size hn
    rw [hn] at HN
    rcases num_parse hn with ⟨hp, hr⟩ | ⟨u, hp, hu⟩
    · have hv := parseV_none hp
      rw [hv]
      have HR := Lib.hid hr
      clear hr hn hv hp
      go_enter Tryz.func152, Tryz.ntmps152
      go_wp2_with fail
      refine HN.out.mono ?_
      rintro e w1 ⟨rfl, hb1⟩
      obtain ⟨tp, p, hvar⟩ := HE.out.below hb1
      have HV := Lib.hid hvar
      clear hvar
      go_wp2_with fail
      refine (Tryz.strconv_ParseUint_10_at64_range_var s (by omega) HR.out tp p w1 HV.out).mono ?_
      rintro e w2 ⟨N, rfl, _, _, hb2⟩
      go_wp2_with fail
      go_ret2
      exact ⟨rfl, hb1.trans (hb2.mono hb1.size)⟩
    · have hv := parseV_some hp
      rw [hv]
      have HR := Lib.hid hu
      clear hu hn hv hp
      go_enter Tryz.func152, Tryz.ntmps152
      go_wp2_with fail
      refine HN.out.mono ?_
      rintro e w1 ⟨rfl, hb1⟩
      go_wp2_with fail
      refine (Tryz.strconv_ParseUint_10_at64_ok s (by omega) u HR.out w1).mono ?_
      rintro e w2 ⟨rfl, hw2⟩
      have hb2 : Below w1.heap.size w1 w2 := by
        rcases hw2 with rfl | rfl
        · exact Below.refl _ _
        · exact Lib.bytesWorld_below _ _ _
      go_wp2_with fail
      go_ret2
      exact ⟨rfl, hb1.trans (hb2.mono hb1.size)⟩
  · have hn0 : numB (bs s) = false := by simpa using hn
    rw [hn0] at HN
    have hv := parseV_none (parse_no hn0)
    rw [hv]
    clear hn hn0 hv
    go_enter Tryz.func152, Tryz.ntmps152
    go_wp2_with fail
    refine HN.out.mono ?_
    rintro e w1 ⟨rfl, hb1⟩
    go_wp2_with fail
    go_ret2
    exact ⟨rfl, hb1⟩

def signedV (l : List UInt8) : Value := match signedN l with | some z => .tuple #[.int .i64 z, .bool true] | none => .tuple #[.int .i64 0, .bool false]
theorem signedV_none {l : List UInt8} (h : signedN l = none) : signedV l = .tuple #[.int .i64 0, .bool false] := by simp [signedV, h]
theorem signedV_some {l : List UInt8} {z : Int} (h : signedN l = some z) : signedV l = .tuple #[.int .i64 z, .bool true] := by simp [signedV, h]
theorem parse_at (l : List UInt8) (w : World) (hE : HasErr w) : Calls Tryz.prog 152 #[sv l] w fun e w' => e = .returned (parseV l) ∧ Below w.heap.size w w' := parse_any ⟨l.toArray⟩ w hE
theorem neg_wrap {u : Nat} (h : u ≤ 9223372036854775808) : IntKind.i64.wrap (IntKind.u64.wrap (-(u : Int))) = -(u : Int) := by
  rw [IntKind.wrap_u64, IntKind.wrap_i64]
  by_cases h0 : u = 0
  · subst h0; rfl
  · rw [show (-(u : Int)) % 18446744073709551616 = 18446744073709551616 - u from by omega]; omega

set_option maxHeartbeats 1000000 in
set_option maxRecDepth 100000 in
theorem parseSigned_any (s : ByteArray) (w : World) (hE : HasErr w) :
    Calls Tryz.prog 151 #[.string s] w fun e w' => e = .returned (signedV (bs s)) ∧ Below w.heap.size w w' := by
  have HE := Lib.hid hE
  clear hE
  by_cases h45 : ∃ r, bs s = 45 :: r
  · obtain ⟨r, hr⟩ := h45
    have hcut : ∀ W, Calls Tryz.prog 157 #[.string s, .string ⟨#[45]⟩] W fun e w' => e = .returned (.tuple #[sv r, .bool true]) ∧ w' = W := fun W => by
      have h := Tryz.strings_CutPrefix s ⟨#[45]⟩ W
      rw [show Lib.trimPrefix s.data.toList (⟨#[45]⟩ : ByteArray).data.toList = r from by rw [show s.data.toList = 45 :: r from hr]; simp [Lib.trimPrefix, Lib.hasPrefix], show Lib.hasPrefix s.data.toList (⟨#[45]⟩ : ByteArray).data.toList = true from by rw [show s.data.toList = 45 :: r from hr]; simp [Lib.hasPrefix]] at h
      exact h
    have hpar := fun W hW => parse_at r W hW
    have HC := Lib.hid hcut
    clear hcut
    rcases hp : parseN r with _ | u
    · rw [signedV_none (by rw [hr]; simp [signedN, hp])]
      rw [parseV_none hp] at hpar
      have HP := Lib.hid hpar
      clear hpar hp hr
      go_enter Tryz.func151, Tryz.ntmps151
      go_wp2_with fail
      refine (HC.out _).mono ?_
      rintro e w1 ⟨rfl, rfl⟩
      go_wp2_with fail
      refine (HP.out _ HE.out).mono ?_
      rintro e w1 ⟨rfl, hb1⟩
      go_wp2_with fail
      go_ret2
      exact ⟨rfl, hb1⟩
    · rw [parseV_some hp] at hpar
      have HP := Lib.hid hpar
      have hlt := parse_lt hp
      by_cases h63 : u ≤ 9223372036854775808
      · rw [signedV_some (z := -(u : Int)) (by rw [hr]; simp [signedN, hp, h63])]
        have hneg := neg_wrap h63
        have h1 : ¬ (9223372036854775808 : Int) < (u : Int) := by omega
        clear hpar hp hr hlt h63
        go_enter Tryz.func151, Tryz.ntmps151
        go_wp2_with fail
        refine (HC.out _).mono ?_
        rintro e w1 ⟨rfl, rfl⟩
        go_wp2_with fail
        refine (HP.out _ HE.out).mono ?_
        rintro e w1 ⟨rfl, hb1⟩
        go_wp2_with fail
        go_ret2
        exact ⟨rfl, hb1⟩
      · rw [signedV_none (by rw [hr]; simp [signedN, hp, h63])]
        have h1 : (9223372036854775808 : Int) < (u : Int) := by omega
        clear hpar hp hr hlt h63
        go_enter Tryz.func151, Tryz.ntmps151
        go_wp2_with fail
        refine (HC.out _).mono ?_
        rintro e w1 ⟨rfl, rfl⟩
        go_wp2_with fail
        refine (HP.out _ HE.out).mono ?_
        rintro e w1 ⟨rfl, hb1⟩
        go_wp2_with fail
        go_ret2
        exact ⟨rfl, hb1⟩
  · have hno : Lib.hasPrefix s.data.toList (⟨#[45]⟩ : ByteArray).data.toList = false := by
      rw [Bool.eq_false_iff]
      intro h
      cases hl : s.data.toList with
      | nil => rw [hl] at h; simp [Lib.hasPrefix] at h
      | cons c r =>
        rw [hl] at h
        have hc : c = 45 := by
          have h2 : (45 == c) = true := by simpa [Lib.hasPrefix] using h
          exact (beq_iff_eq.1 h2).symm
        exact h45 ⟨r, by rw [show bs s = c :: r from hl, hc]⟩
    have hcut : ∀ W, Calls Tryz.prog 157 #[.string s, .string ⟨#[45]⟩] W fun e w' => e = .returned (.tuple #[.string s, .bool false]) ∧ w' = W := fun W => by
      have h := Tryz.strings_CutPrefix s ⟨#[45]⟩ W
      rw [show Lib.trimPrefix s.data.toList (⟨#[45]⟩ : ByteArray).data.toList = s.data.toList from by rw [Lib.trimPrefix, hno]; rfl, hno] at h
      exact h
    have hsg := signed_plain (l := bs s) (fun r hr => h45 ⟨r, hr⟩)
    have hpar := fun W hW => parse_any s W hW
    have HC := Lib.hid hcut
    clear hcut hno h45
    rcases hp : parseN (bs s) with _ | u
    · rw [signedV_none (by rw [hsg, hp])]
      rw [parseV_none hp] at hpar
      have HP := Lib.hid hpar
      clear hpar hp hsg
      go_enter Tryz.func151, Tryz.ntmps151
      go_wp2_with fail
      refine (HC.out _).mono ?_
      rintro e w1 ⟨rfl, rfl⟩
      go_wp2_with fail
      refine (HP.out _ HE.out).mono ?_
      rintro e w1 ⟨rfl, hb1⟩
      go_wp2_with fail
      go_ret2
      exact ⟨rfl, hb1⟩
    · rw [parseV_some hp] at hpar
      have HP := Lib.hid hpar
      have hlt := parse_lt hp
      by_cases h63 : u < 9223372036854775808
      · rw [signedV_some (z := (u : Int)) (by rw [hsg, hp]; simp [h63])]
        have hneg : IntKind.i64.wrap (u : Int) = (u : Int) := IntWalk.i64_in _ (by omega)
        have h1 : ¬ (9223372036854775807 : Int) < (u : Int) := by omega
        clear hpar hp hsg hlt h63
        go_enter Tryz.func151, Tryz.ntmps151
        go_wp2_with fail
        refine (HC.out _).mono ?_
        rintro e w1 ⟨rfl, rfl⟩
        go_wp2_with fail
        refine (HP.out _ HE.out).mono ?_
        rintro e w1 ⟨rfl, hb1⟩
        go_wp2_with fail
        go_ret2
        exact ⟨rfl, hb1⟩
      · rw [signedV_none (by rw [hsg, hp]; simp [h63])]
        have h1 : (9223372036854775807 : Int) < (u : Int) := by omega
        clear hpar hp hsg hlt h63
        go_enter Tryz.func151, Tryz.ntmps151
        go_wp2_with fail
        refine (HC.out _).mono ?_
        rintro e w1 ⟨rfl, rfl⟩
        go_wp2_with fail
        refine (HP.out _ HE.out).mono ?_
        rintro e w1 ⟨rfl, hb1⟩
        go_wp2_with fail
        go_ret2
        exact ⟨rfl, hb1⟩

/-- One of 32 bits. -/
def parse32N (l : List UInt8) : Option Nat := match parseN l with | some u => if u < 4294967296 then some u else none | none => none
def parse32V (l : List UInt8) : Value := match parse32N l with | some u => .tuple #[.int .u32 u, .bool true] | none => .tuple #[.int .u32 0, .bool false]
theorem parse32V_none {l : List UInt8} (h : parse32N l = none) : parse32V l = .tuple #[.int .u32 0, .bool false] := by simp [parse32V, h]
theorem parse32V_some {l : List UInt8} {u : Nat} (h : parse32N l = some u) : parse32V l = .tuple #[.int .u32 u, .bool true] := by simp [parse32V, h]

set_option maxHeartbeats 1000000 in
set_option maxRecDepth 100000 in
theorem parse32_any (s : ByteArray) (w : World) (hE : HasErr w) :
    Calls Tryz.prog 150 #[.string s] w fun e w' => e = .returned (parse32V (bs s)) ∧ Below w.heap.size w w' := by
  have hpar := parse_any s w hE
  rcases hp : parseN (bs s) with _ | u
  · rw [parse32V_none (by simp [parse32N, hp])]
    rw [parseV_none hp] at hpar
    have HP := Lib.hid hpar
    clear hpar hp
    go_enter Tryz.func150, Tryz.ntmps150
    go_wp2_with fail
    refine HP.out.mono ?_
    rintro e w1 ⟨rfl, hb1⟩
    go_wp2_with fail
    go_ret2
    exact ⟨rfl, hb1⟩
  · rw [parseV_some hp] at hpar
    have HP := Lib.hid hpar
    by_cases h32 : u < 4294967296
    · rw [parse32V_some (u := u) (by simp [parse32N, hp, h32])]
      have hwr : IntKind.u32.wrap (u : Int) = (u : Int) := IntWalk.u32_in _ (by omega)
      have h1 : ¬ (4294967295 : Int) < (u : Int) := by omega
      clear hpar hp h32
      go_enter Tryz.func150, Tryz.ntmps150
      go_wp2_with fail
      refine HP.out.mono ?_
      rintro e w1 ⟨rfl, hb1⟩
      go_wp2_with fail
      go_ret2
      exact ⟨rfl, hb1⟩
    · rw [parse32V_none (by simp [parse32N, hp, h32])]
      have h1 : (4294967295 : Int) < (u : Int) := by omega
      clear hpar hp h32
      go_enter Tryz.func150, Tryz.ntmps150
      go_wp2_with fail
      refine HP.out.mono ?_
      rintro e w1 ⟨rfl, hb1⟩
      go_wp2_with fail
      go_ret2
      exact ⟨rfl, hb1⟩
end Go.Proofs.YtahpjhnbjkjkiaaGreatDoor
