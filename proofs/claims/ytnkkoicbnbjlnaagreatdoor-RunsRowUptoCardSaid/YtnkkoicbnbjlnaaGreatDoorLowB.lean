/- Texts of numbers: nums.Text, strconv.FormatUint at base 10, the reference's Text: each is the number's decimal digits. Condition: the table of the powers of ten lies as the library lays it. And what goes with it (8 texts). -/
import Derived.Test.YtnkkoicbnbjlnaaGreatDoorLowA
import Derived.Test.YtnkkoicbnbjlnaaGreatDoorShelf
import Derived.Lib.ItoaMem
import Derived.Lib.ParseIntB
import Derived.Laws.RangeAny
import Derived.Lib.SmallJoins
import Derived.Lib.AtoiErrMem
namespace Go.Proofs.YtnkkoicbnbjlnaaGreatDoor
set_option maxRecDepth 100000
set_option maxHeartbeats 8000000
open Go.RowKit Go.Sort
def HasPow (w : World) : Prop := Lib.TabIs Tryz.prog w "internal/strconv.uint64pow10" .u64 Lib.pow10Tab
theorem HasPow.below {w w' : World} (h : HasPow w) (hb : Below w.heap.size w w') : HasPow w' := by
 have hg : Tryz.prog.globalNamed "internal/strconv.uint64pow10" = some 0 := by kernel_rfl
 have hc := h.cell hg 0 (by decide)
 exact var?_below hb hg (cell_lt hc) h
theorem holds0 (w : World) (T : TypeId) (nd : Nat) (hs : nd ≤ 24) : Holds (fun (b : UInt8) => Value.int .u8 (b.toNat : Int)) (w.alloc (.cells Lib.zeros24 T)) w.heap.size 0 (Array.replicate nd (0 : UInt8)) := fun j hj => by
 have hj' : j < nd := by simpa using hj
 refine ⟨?_, World.frozen?_alloc_new _ _ _ _⟩
 rw [World.cell?_alloc_new, Lib.zeros24_at _ (by omega), getElem!_pos _ j hj]
 simp
theorem below_fin (w : World) (o : Obj) (dk : Array UInt8) (k : Nat) : Below w.heap.size w ((putRow (fun (b : UInt8) => Value.int .u8 (b.toNat : Int)) (w.alloc o) w.heap.size 0 dk).drewN k) := by
 rw [alloc_eq_grow]
 obtain ⟨os', _, e⟩ := putRow_grow_new (fun (b : UInt8) => Value.int .u8 (b.toNat : Int)) w #[o] w.heap.size 0 dk (Nat.le_refl _)
 rw [e]
 have hb : Below w.heap.size w (grow w os') := ⟨rfl, rfl, rfl, by simp [grow], fun i hi => heap_grow_old w os' hi⟩
 exact below_drewN hb k
theorem formatUint_in (u : Nat) (hu : u < 18446744073709551616) (w : World) (hP : HasPow w) :
  Calls Tryz.prog 40 #[.int .u64 u, .int .i64 10] w fun e w' => e = .returned (sv (Lib.decDigits u)) ∧ Below w.heap.size w w' := by
 have HP := hidZ hP
 clear hP
 by_cases hs : u < 100
 ·go_enter Tryz.func40, Tryz.ntmps40
  go_wp2_with fail
  refine (Tryz.internal_strconv_small u hs _).mono ?_
  rintro e w1 ⟨rfl, hw⟩
  rw [hw]
  go_wp2_with fail
  go_ret
  exact ⟨rfl, Below.refl _ _⟩
 ·have hu1 : 1 ≤ u := by omega
  have hnd20 : Lib.nDigits u ≤ 20 := by have := Lib.numDigits_eq u hu1 hu; split at this <;> omega
  have hal : Tryz.prog.arrayLen 142 = 24 := by simp [Program.arrayLen, Tryz.underlying142]
  have hsl1 : ∀ W, (Instr.sliceAt 142 (.pointer (some ⟨w.heap.size, 0, none⟩)) none (some (.int .i64 (Lib.nDigits u : Int))) none).run Tryz.prog W = .ok (.slice (some ⟨w.heap.size, 0, none⟩) (Lib.nDigits u) 24) W := fun W => by
   rw [run_sliceAt_array_h W 142 ⟨w.heap.size, 0, none⟩ (by simp [Program.arrayLen, Program.elem, Tryz.underlying142]) .i64 (Lib.nDigits u : Int) (by omega) (by rw [hal]; omega)]
   go_simp
  have hH0 := holds0 w 142 (Lib.nDigits u) (by omega)
  have hfmt := Tryz.internal_strconv_formatBase10 w.heap.size 0 24 u (Array.replicate (Lib.nDigits u) 0) (w.alloc (.cells Lib.zeros24 142)) hH0 (by rw [Array.size_replicate]; exact Lib.lt_pow_nDigits u) hu (by rw [Array.size_replicate]; omega)
  rw [Array.size_replicate] at hfmt
  have HH0 := hidZ hH0
  have HF := hidZ hfmt
  clear hH0 hal hfmt
  go_enter Tryz.func40, Tryz.ntmps40
  go_wp2_with fail
  refine (Tryz.internal_strconv_numDigits u hu1 hu _ (Lib.tabIs_alloc HP.out _)).mono ?_
  rintro e w1 ⟨rfl, rfl⟩
  go_wp2_with fail
  refine HF.out.mono ?_
  rintro e w1 ⟨rfl, k, v', dk, rfl, hF⟩
  have hcv : (convert 47 9 (.slice (some ⟨w.heap.size, 0, none⟩) (Lib.nDigits u) 24)).run Tryz.prog ((putRow (fun (b : UInt8) => Value.int .u8 (b.toNat : Int)) (w.alloc (.cells Lib.zeros24 142)) w.heap.size 0 dk).drewN k) = .ok (sv (Lib.decDigits u)) ((putRow (fun (b : UInt8) => Value.int .u8 (b.toNat : Int)) (w.alloc (.cells Lib.zeros24 142)) w.heap.size 0 dk).drewN k) := by
   have h := run_convert_bytes_back (P := Tryz.prog) ((putRow (fun (b : UInt8) => Value.int .u8 (b.toNat : Int)) (w.alloc (.cells Lib.zeros24 142)) w.heap.size 0 dk).drewN k) 47 9 5 ⟨w.heap.size, 0, none⟩ 24 (Lib.decDigits u) Tryz.underlying47 Tryz.underlying5 Tryz.underlying9 (fun j hj => by
    rw [Lib.row_is_numeral hF j hj, Lib.add_plain, World.cell?_drewN]
    exact cell?_putRow (fun (b : UInt8) => Value.int .u8 (b.toNat : Int)) _ w.heap.size 0 _ dk HH0.out (by rw [hF.size, Array.size_replicate]) j (by rw [hF.size]; rw [Lib.decDigits_length] at hj; exact hj))
   rw [Lib.decDigits_length] at h
   exact h
  have hbf := below_fin w (.cells Lib.zeros24 142) dk k
  go_wp2_with fail
  go_ret
  exact ⟨rfl, hbf⟩
theorem formatUint_any (u : Nat) (hu : u < 18446744073709551616) (w : World) (hP : HasPow w) :
  Calls Tryz.prog 18 #[.int .u64 u, .int .i64 10] w fun e w' => e = .returned (sv (Lib.decDigits u)) ∧ Below w.heap.size w w' := by
 have h := formatUint_in u hu w hP
 generalize Lib.decDigits u = l at *
 have H := hidZ h
 clear h hP
 go_enter Tryz.func18, Tryz.ntmps18
 go_wp2_with fail
 refine H.out.mono ?_
 rintro e w1 ⟨rfl, hb⟩
 go_wp2_with fail
 go_ret
 exact ⟨rfl, hb⟩
theorem text_any (n : Int) (h0 : 0 ≤ n) (hu : n < 18446744073709551616) (w : World) (hP : HasPow w) :
  Calls Tryz.prog 143 #[.int .u64 n] w fun e w' => e = .returned (sv (Lib.decDigits n.toNat)) ∧ Below w.heap.size w w' := by
 obtain ⟨u, rfl⟩ := Int.eq_ofNat_of_zero_le h0
 have h := formatUint_any u (by omega) w hP
 rw [Int.toNat_natCast]
 generalize Lib.decDigits u = l at *
 have H := hidZ h
 clear h hP
 go_enter Tryz.func143, Tryz.ntmps143
 go_wp2_with fail
 refine H.out.mono ?_
 rintro e w1 ⟨rfl, hb⟩
 go_wp2_with fail
 go_ret
 exact ⟨rfl, hb⟩
def digitOf (d : Int) : UInt8 := UInt8.ofNat (48 + d.toNat)
def TextRel (D : List UInt8) (m s : Value) : Prop := ∃ (k : Int) (l : List UInt8), m = .int .u64 k ∧ s = sv l ∧ 0 ≤ k ∧ Hid (k < 18446744073709551616 ∧ D = Lib.decDigits k.toNat ++ l)
def numOf (v : Value) : Nat := (intOf v).toNat
theorem digit_piece (d : Int) (h0 : 0 ≤ d) (h : d ≤ 9) (W : World) : (Instr.slice 9 (.string ⟨#[48, 49, 50, 51, 52, 53, 54, 55, 56, 57]⟩) (some (.int .u64 d)) (some (.int .u64 (d + 1))) none).run Tryz.prog W = .ok (sv [digitOf d]) W := by
 rw [run_slice_string (h := Tryz.underlying9) (h0 := h0) (h1 := by omega) (h2 := by show d + 1 ≤ 10; omega)]
 congr 1
 refine sv_of ?_
 rw [bs_extract]
 have : ∀ e : Fin 10, ((bs ⟨#[48, 49, 50, 51, 52, 53, 54, 55, 56, 57]⟩).take (e.val + 1)).drop e.val = [UInt8.ofNat (48 + e.val)] := by decide
 have h2 := this ⟨d.toNat, by omega⟩
 rw [show (d + 1).toNat = d.toNat + 1 from by omega]
 exact h2
theorem dec_big {u : Nat} (h : ¬ u < 10) : Lib.decDigits u = Lib.decDigits (u / 10) ++ [UInt8.ofNat (48 + u % 10)] := by rw [Lib.decDigits, dif_neg h]
theorem dec_small {u : Nat} (h : u < 10) : Lib.decDigits u = [UInt8.ofNat (48 + u % 10)] := by rw [Lib.decDigits, dif_pos h, Nat.mod_eq_of_lt h]
theorem dec_short (u : Nat) (h : u < 18446744073709551616) : (Lib.decDigits u).length ≤ 20 := by
 rw [Lib.decDigits_length]
 by_cases h1 : 1 ≤ u
 ·have := Lib.numDigits_eq u h1 h; split at this <;> omega
 ·obtain rfl : u = 0 := by omega
  rw [Lib.nDigits_small (by omega)]; omega
theorem u64_tenth {k : Int} (h0 : 0 ≤ k) (h : k < 18446744073709551616) : IntKind.u64.wrap (k.tdiv 10) = k / 10 := by
 rw [Int.tdiv_eq_ediv_of_nonneg h0, IntKind.wrap_u64]; omega
theorem digit_eq {k : Int} (h0 : 0 ≤ k) : [UInt8.ofNat (48 + k.toNat % 10)] = [digitOf (k % 10)] := by
 unfold digitOf
 rw [show (k % 10).toNat = k.toNat % 10 from by omega]
theorem refText_any (n : Int) (h0 : 0 ≤ n) (hu : n < 18446744073709551616) (w : World) :
  Calls Tryz.prog 22 #[.int .u64 n] w fun e w' => e = .returned (sv (Lib.decDigits n.toNat)) ∧ w = w' := by
 obtain ⟨u, rfl⟩ := Int.eq_ofNat_of_zero_le h0
 rw [Int.toNat_natCast]
 have hshort := dec_short u (by omega)
 obtain ⟨D, hD⟩ := xE (Lib.decDigits u)
 rw [← hD] at hshort ⊢
 have HD := hidZ hD
 have HU := hidZ hu
 clear hD hu h0
 go_enter Tryz.func22, Tryz.ntmps22
 go_wp2_with fail
 go_loop [0, 3] (fun m s => TextRel D m s) (fun m _ => numOf m)
 case atStart => exact ⟨u, [], rfl, rfl, by omega, by rw [HD.out]; exact ⟨HU.out, by simp⟩⟩
 case round =>
  obtain ⟨k, l, rfl, rfl, hk, hl⟩ := hrel
  have hk0 : 0 ≤ k % 10 := by omega
  have hk9 : k % 10 ≤ 9 := by omega
  have hsl := fun W => digit_piece (k % 10) hk0 hk9 W
  have hlen : l.length ≤ 20 := by
   have h1 := hl.out.2
   have h2 := congrArg List.length h1
   rw [List.length_append] at h2
   omega
  by_cases h10 : k < 10
  ·have hz : ((k / 10) == 0) = true := by rw [beq_iff_eq]; omega
   have hdiv := u64_tenth hk hl.out.1
   go_wp2_with fail
   go_ret
   refine ⟨ret_congr (sv_of ?_), rfl⟩
   rw [bs_append, hl.out.2, dec_small (u := k.toNat) (by omega), digit_eq hk]
  ·have hz : ((k / 10) == 0) = false := by rw [beq_eq_false_iff_ne]; omega
   have hdiv := u64_tenth hk hl.out.1
   go_wp2_with fail
   go_round
   case rel =>
    refine ⟨k / 10, [digitOf (k % 10)] ++ l, rfl, sv_of (by rw [bs_append]), by omega, (by have := hl.out.1; clear hdiv; omega), ?_⟩
    rw [hl.out.2, dec_big (u := k.toNat) (by omega), List.append_assoc, digit_eq hk, show (k / 10).toNat = k.toNat / 10 from by omega]
   case measure => simp only [numOf, intOf]; omega
def digitB (c : UInt8) : Bool := decide (48 ≤ c.toNat) && decide (c.toNat ≤ 57)
def numB (l : List UInt8) : Bool := l.all digitB && !l.isEmpty && decide (l.length ≤ 20)
def dig (a : Nat) (c : UInt8) : Nat := a * 10 + (c.toNat - 48)
def dval (a : Nat) (l : List UInt8) : Nat := l.foldl dig a
theorem dval_nil (a : Nat) : dval a [] = a := by simp only [dval, List.foldl_nil]
theorem dval_cons (a : Nat) (c : UInt8) (r : List UInt8) : dval a (c :: r) = dval (a * 10 + (c.toNat - 48)) r := by simp only [dval, List.foldl_cons, dig]
def parseN (l : List UInt8) : Option Nat := if numB l = true ∧ dval 0 l < 18446744073709551616 then some (dval 0 l) else none
def signedN (l : List UInt8) : Option Int :=
 match l with
 | [] => none
 | c :: r => if c = 45 then (match parseN r with | some u => if u ≤ 9223372036854775808 then some (-(u : Int)) else none | none => none)
  else (match parseN (c :: r) with | some u => if u < 9223372036854775808 then some (u : Int) else none | none => none)
theorem digit_is {c : UInt8} : digitB c = true ↔ 48 ≤ c.toNat ∧ c.toNat ≤ 57 := by simp [digitB]
theorem dval_lin : ∀ (l : List UInt8) (a : Nat), dval a l = a * 10 ^ l.length + dval 0 l
 | [], a => by simp [dval_nil]
 | c :: r, a => by
  rw [dval_cons, dval_lin r, dval_cons, dval_lin r (0 * 10 + (c.toNat - 48)), List.length_cons, Nat.pow_succ, Nat.add_mul, Nat.zero_mul, Nat.zero_add]
  rw [Nat.mul_assoc, Nat.mul_comm 10]
  omega
theorem dval_append : ∀ (l m : List UInt8) (a : Nat), dval a (l ++ m) = dval (dval a l) m
 | [], _, _ => by rw [List.nil_append, dval_nil]
 | c :: l, m, a => by rw [List.cons_append, dval_cons, dval_append l m, dval_cons]
theorem dval_lt : ∀ (l : List UInt8), l.all digitB = true → dval 0 l < 10 ^ l.length
 | [], _ => by simp [dval_nil]
 | c :: r, h => by
  simp only [List.all_cons, Bool.and_eq_true] at h
  have h1 := dval_lt r h.2
  have h2 := digit_is.1 h.1
  rw [dval_cons, dval_lin, List.length_cons, Nat.pow_succ, Nat.zero_mul, Nat.zero_add]
  have h3 : (c.toNat - 48) * 10 ^ r.length ≤ 9 * 10 ^ r.length := Nat.mul_le_mul_right _ (by omega)
  omega
theorem digit_ofNat {d : Nat} (h : d < 10) : (UInt8.ofNat (48 + d)).toNat = 48 + d := by
 simp [UInt8.toNat_ofNat]; omega
theorem dval_dec (u : Nat) : dval 0 (Lib.decDigits u) = u := by
 induction u using Nat.strongRecOn with
 | _ u ih =>
  by_cases h : u < 10
  ·rw [dec_small h, dval_cons, dval_nil, digit_ofNat (by omega)]; omega
  ·rw [dec_big h, dval_append, ih (u / 10) (by omega), dval_cons, dval_nil, digit_ofNat (by omega)]; omega
theorem dec_all (u : Nat) : (Lib.decDigits u).all digitB = true := by
 induction u using Nat.strongRecOn with
 | _ u ih =>
  by_cases h : u < 10
  ·rw [dec_small h]; simp [digitB]; omega
  ·rw [dec_big h, List.all_append, ih (u / 10) (by omega)]; simp [digitB]; omega
theorem dec_head {u : Nat} (h0 : 0 < u) : ∃ c r, Lib.decDigits u = c :: r ∧ c ≠ 48 := by
 induction u using Nat.strongRecOn with
 | _ u ih =>
  by_cases h : u < 10
  ·refine ⟨_, _, dec_small h, fun e => ?_⟩
   have := congrArg UInt8.toNat e
   rw [digit_ofNat (by omega)] at this
   simp at this; omega
  ·obtain ⟨c, r, e, hc⟩ := ih (u / 10) (by omega) (by omega)
   exact ⟨c, r ++ [UInt8.ofNat (48 + u % 10)], by rw [dec_big h, e]; rfl, hc⟩
theorem dec_zero : Lib.decDigits 0 = [48] := by rw [dec_small (by omega)]; rfl
theorem dec_digit {u : Nat} {c : UInt8} (h : c ∈ Lib.decDigits u) : digitB c = true := List.all_eq_true.1 (dec_all u) c h
theorem dec_nonempty (u : Nat) : Lib.decDigits u ≠ [] := by
 rcases Nat.eq_zero_or_pos u with rfl | h
 ·rw [dec_zero]; simp
 ·obtain ⟨c, r, e, _⟩ := dec_head h; rw [e]; simp
theorem num_dec {u : Nat} (h : u < 18446744073709551616) : numB (Lib.decDigits u) = true := by
 have h1 := dec_short u h
 have h2 := dec_nonempty u
 simp only [numB, dec_all, Bool.true_and, Bool.and_eq_true, Bool.not_eq_true', List.isEmpty_eq_false_iff, decide_eq_true_eq]
 exact ⟨h2, h1⟩
theorem parse_dec {u : Nat} (h : u < 18446744073709551616) : parseN (Lib.decDigits u) = some u := by
 unfold parseN
 rw [num_dec h, dval_dec, if_pos ⟨rfl, h⟩]
theorem parse_lt {l : List UInt8} {u : Nat} (h : parseN l = some u) : u < 18446744073709551616 := by
 unfold parseN at h
 split at h
 ·cases h; rename_i h; exact h.2
 ·cases h
theorem parse_uintM : ∀ (l : List UInt8) (a : Nat), l.all digitB = true → a < 18446744073709551616 → Lib.parseUintM (2 ^ 64 - 1) a l = if dval a l < 18446744073709551616 then .ok (dval a l) else .range
 | [], a, _, ha => by rw [Lib.parseUintM, dval_nil, if_pos ha]
 | c :: r, a, h, ha => by
  simp only [List.all_cons, Bool.and_eq_true] at h
  have hd := digit_is.1 h.1
  rw [Lib.parseUintM, if_pos hd, dval_cons]
  have hge : a * 10 + (c.toNat - 48) ≤ dval (a * 10 + (c.toNat - 48)) r := by
   rw [dval_lin]
   have := Nat.le_mul_of_pos_right (a * 10 + (c.toNat - 48)) (Nat.pow_pos (n := r.length) (show 0 < 10 by omega))
   omega
  by_cases h1 : 1844674407370955162 ≤ a
  ·rw [if_pos h1, if_neg (by omega)]
  ·rw [if_neg h1]
   by_cases h2 : 2 ^ 64 - 1 < a * 10 + (c.toNat - 48)
   ·rw [if_pos h2, if_neg (by omega)]
   ·rw [if_neg h2, parse_uintM r _ h.2 (by omega)]
theorem parse_uint {l : List UInt8} (h : numB l = true) : Lib.parseUintB 64 l = if dval 0 l < 18446744073709551616 then .ok (dval 0 l) else .range := by
 simp only [numB, Bool.and_eq_true, Bool.not_eq_true', decide_eq_true_eq] at h
 unfold Lib.parseUintB
 rw [if_neg (by rintro rfl; simp at h), parse_uintM l 0 h.1.1 (by omega)]
theorem num_short {l : List UInt8} (h : numB l = true) : l.length ≤ 20 := by
 simp only [numB, Bool.and_eq_true, decide_eq_true_eq] at h
 exact h.2
theorem parse_nil : parseN [] = none := by simp [parseN, numB]
/-! ### The order of texts of numbers -/
/-! ### Signed ones -/
theorem signed_neg {u : Nat} (h : u < 18446744073709551616) : signedN (45 :: Lib.decDigits u) = if u ≤ 9223372036854775808 then some (-(u : Int)) else none := by
 simp only [signedN, if_true, parse_dec h]
theorem signed_plain {l : List UInt8} (h : ∀ r, l ≠ 45 :: r) : signedN l = match parseN l with | some u => if u < 9223372036854775808 then some (u : Int) else none | none => none := by
 cases l with
 | nil => simp [signedN, parse_nil]
 | cons c r => rw [signedN, if_neg (fun hc => h r (by rw [hc]))]
theorem dec_no_minus (u : Nat) (r : List UInt8) : Lib.decDigits u ≠ 45 :: r := by
 intro h
 have : digitB 45 = true := dec_digit (u := u) (by rw [h]; simp)
 exact absurd this (by decide)
theorem signed_dec {u : Nat} (h : u < 18446744073709551616) : signedN (Lib.decDigits u) = if u < 9223372036854775808 then some (u : Int) else none := by
 rw [signed_plain (dec_no_minus u), parse_dec h]
open Go.RowKit
theorem good_all_digits {l : List UInt8} (h : Good (fun c => !digitB c) l l.length) : l.all digitB = true := by
 rw [List.all_eq_true]
 intro x hx
 obtain ⟨j, hj, rfl⟩ := List.getElem_of_mem hx
 simpa using h j hj _ (List.getElem?_eq_getElem hj)
theorem bad_digit {l : List UInt8} {k : Nat} {c : UInt8} (hc : l[k]? = some c) (h : digitB c = false) : numB l = false := by
 have : l.all digitB = false := by
  rw [Bool.eq_false_iff]
  intro ha
  rw [List.all_eq_true] at ha
  rw [ha c (List.mem_of_getElem? hc)] at h
  cases h
 simp [numB, this]
theorem number_any (s : ByteArray) (w : World) :
  Calls Tryz.prog 244 #[.string s] w fun e w' => e = .returned (.bool (numB (bs s))) ∧ Below w.heap.size w w' := by
 go_enter Tryz.func244, Tryz.ntmps244
 go_wp2
 go_loopw [2] (fun n w' => ∃ pos : Nat, w' = w.iter s pos ∧ n = .bool false ∧ pos ≤ s.size ∧ Good (fun c => !digitB c) (bs s) pos) (fun _ w' => s.size - w'.iterPos w.heap.size)
 case atStart => exact ⟨0, rfl, rfl, Nat.zero_le _, good_zero _ _⟩
 case round =>
  obtain ⟨pos, rfl, rfl, hps, hg⟩ := hrel
  have HG := hidZ hg
  have hbl : ∀ q, Below w.heap.size w (w.iter s q) := fun q => (Below.refl _ _).alloc (Nat.le_refl _) _
  clear hg
  by_cases hp : pos < s.size
  ·have hget := bs_get? hp
   have HGET := hidZ hget
   clear hget
   generalize hc : s[pos] = c at HGET
   by_cases hd : digitB c = true
   ·have hd' := hd
    simp only [digitB, Bool.and_eq_true, decide_eq_true_eq] at hd
    have hnx : ∀ ty, (Instr.next (.pointer (some ⟨w.heap.size, 0, none⟩)) true ty).run Tryz.prog (w.iter s pos) = .ok (.tuple #[.bool true, .int .i64 pos, .int .i32 (c.toNat : Int)]) (w.iter s (pos + 1)) := fun ty => by
     rw [run_next_any w s pos ty hp, decode_ascii s pos hp (by rw [hc]; omega), hc]
    have h1 : ¬ ((c.toNat : Int) < 48) := by omega
    have h2 : ¬ ((57 : Int) < (c.toNat : Int)) := by omega
    clear hd
    go_wp2
    go_roundw
    case rel => exact ⟨pos + 1, rfl, rfl, by omega, good_step HGET.out (by simp [hd']) HG.out⟩
    case measure => simp; omega
   ·have hd0 : digitB c = false := by simpa using hd
    have hn : numB (bs s) = false := bad_digit HGET.out hd0
    have HN := hidZ hn
    by_cases h128 : c.toNat < 128
    ·have hnx : ∀ ty, (Instr.next (.pointer (some ⟨w.heap.size, 0, none⟩)) true ty).run Tryz.prog (w.iter s pos) = .ok (.tuple #[.bool true, .int .i64 pos, .int .i32 (c.toNat : Int)]) (w.iter s (pos + 1)) := fun ty => by
      rw [run_next_any w s pos ty hp, decode_ascii s pos hp (by rw [hc]; omega), hc]
     by_cases h48 : c.toNat < 48
     ·have h1 : (c.toNat : Int) < 48 := by omega
      clear hd hd0 hn h128 h48
      go_wp2
      go_ret
      exact ⟨by rw [HN.out]; rfl, hbl _⟩
     ·have h1 : ¬ ((c.toNat : Int) < 48) := by omega
      have h2 : (57 : Int) < (c.toNat : Int) := by
       simp only [digitB, Bool.and_eq_false_iff, decide_eq_false_iff_not] at hd0
       omega
      clear hd hd0 hn h128 h48
      go_wp2
      go_ret
      exact ⟨by rw [HN.out]; rfl, hbl _⟩
    ·have hhi := (decode_high s pos hp (by rw [hc]; omega)).1
     have hnx : ∀ ty, (Instr.next (.pointer (some ⟨w.heap.size, 0, none⟩)) true ty).run Tryz.prog (w.iter s pos) = _ := fun ty => run_next_any w s pos ty hp
     have h1 : ¬ (((Utf8.decode s pos).1 : Int) < 48) := by omega
     have h2 : (57 : Int) < ((Utf8.decode s pos).1 : Int) := by omega
     clear hd hd0 hn h128 hhi
     go_wp2
     go_ret
     exact ⟨by rw [HN.out]; rfl, hbl _⟩
  ·have hnx : ∀ ty, (Instr.next (.pointer (some ⟨w.heap.size, 0, none⟩)) true ty).run Tryz.prog (w.iter s pos) = _ := fun ty => run_next_end w s pos ty hp
   obtain rfl : pos = s.size := by omega
   have hall : (bs s).all digitB = true := good_all_digits (by rw [bs_length]; exact HG.out)
   have hnum : numB (bs s) = (!(bs s).isEmpty && decide (s.size ≤ 20)) := by simp [numB, hall]
   have HNUM := hidZ hnum
   clear hall hnum
   by_cases he : s.toList.isEmpty = true
   ·have h0 := bs_empty he
    go_wp2
    go_ret
    exact ⟨by rw [HNUM.out, h0]; rfl, hbl _⟩
   ·have he' : s.toList.isEmpty = false := by simpa using he
    have h0 := bs_some he'
    have h1 : (!(bs s).isEmpty) = true := by simpa using h0
    clear he
    by_cases h20 : s.size ≤ 20
    ·have h2 : (s.size : Int) ≤ 20 := by omega
     go_wp2
     go_ret
     exact ⟨by rw [HNUM.out, h1]; simp [h20], hbl _⟩
    ·have h2 : ¬ ((s.size : Int) ≤ 20) := by omega
     go_wp2
     go_ret
     exact ⟨by rw [HNUM.out, h1]; simp [h20], hbl _⟩
def HasErr (w : World) : Prop := ∃ tp p, w.var? Tryz.prog "strconv.ErrRange" = some #[.iface tp p]
theorem HasErr.below {w w' : World} (h : HasErr w) (hb : Below w.heap.size w w') : HasErr w' := by
 obtain ⟨tp, p, h⟩ := h
 have hg : Tryz.prog.globalNamed "strconv.ErrRange" = some 5 := by kernel_rfl
 have hc := World.var?_cell hg h 0
 exact ⟨tp, p, var?_below hb hg (cell_lt hc) h⟩
def parseV (l : List UInt8) : Value := match parseN l with | some u => .tuple #[.int .u64 u, .bool true] | none => .tuple #[.int .u64 0, .bool false]
theorem parseV_none {l : List UInt8} (h : parseN l = none) : parseV l = .tuple #[.int .u64 0, .bool false] := by simp [parseV, h]
theorem parseV_some {l : List UInt8} {u : Nat} (h : parseN l = some u) : parseV l = .tuple #[.int .u64 u, .bool true] := by simp [parseV, h]
theorem num_parse {l : List UInt8} (h : numB l = true) : (parseN l = none ∧ Lib.parseUintB 64 l = .range) ∨ ∃ u, parseN l = some u ∧ Lib.parseUintB 64 l = .ok u := by
 rw [parse_uint h]
 unfold parseN
 by_cases hd : dval 0 l < 18446744073709551616
 ·right; exact ⟨_, by rw [if_pos ⟨h, hd⟩], by rw [if_pos hd]⟩
 ·left; exact ⟨by rw [if_neg (by rintro ⟨_, h⟩; exact hd h)], by rw [if_neg hd]⟩
theorem num_size {s : ByteArray} (h : numB (bs s) = true) : s.size ≤ 20 := by
 rw [← bs_length]; exact num_short h
theorem parse_no {l : List UInt8} (h : numB l = false) : parseN l = none := by unfold parseN; rw [h]; simp
theorem parse_any (s : ByteArray) (w : World) (hE : HasErr w) :
  Calls Tryz.prog 210 #[.string s] w fun e w' => e = .returned (parseV (bs s)) ∧ Below w.heap.size w w' := by
 have HE := hidZ hE
 have HN := hidZ (number_any s w)
 clear hE
 by_cases hn : numB (bs s) = true
 ·have hz := num_size hn
  rw [hn] at HN
  rcases num_parse hn with ⟨hp, hr⟩ | ⟨u, hp, hu⟩
  ·have hv := parseV_none hp
   rw [hv]
   have HR := hidZ hr
   clear hr hn hv hp
   go_enter Tryz.func210, Tryz.ntmps210
   go_wp2_with fail
   refine HN.out.mono ?_
   rintro e w1 ⟨rfl, hb1⟩
   obtain ⟨tp, p, hvar⟩ := HE.out.below hb1
   have HV := hidZ hvar
   clear hvar
   go_wp2_with fail
   refine (Tryz.strconv_ParseUint_10_at64_range_var s (by omega) HR.out tp p w1 HV.out).mono ?_
   rintro e w2 ⟨N, rfl, _, _, hb2⟩
   go_wp2_with fail
   go_ret2
   exact ⟨rfl, hb1.trans (hb2.mono hb1.size)⟩
  ·have hv := parseV_some hp
   rw [hv]
   have HR := hidZ hu
   clear hu hn hv hp
   go_enter Tryz.func210, Tryz.ntmps210
   go_wp2_with fail
   refine HN.out.mono ?_
   rintro e w1 ⟨rfl, hb1⟩
   go_wp2_with fail
   refine (Tryz.strconv_ParseUint_10_at64_ok s (by omega) u HR.out w1).mono ?_
   rintro e w2 ⟨rfl, hw2⟩
   have hb2 : Below w1.heap.size w1 w2 := by
    rcases hw2 with rfl | rfl
    ·exact Below.refl _ _
    ·exact Lib.bytesWorld_below _ _ _
   go_wp2_with fail
   go_ret2
   exact ⟨rfl, hb1.trans (hb2.mono hb1.size)⟩
 ·have hn0 : numB (bs s) = false := by simpa using hn
  rw [hn0] at HN
  have hv := parseV_none (parse_no hn0)
  rw [hv]
  clear hn hn0 hv
  go_enter Tryz.func210, Tryz.ntmps210
  go_wp2_with fail
  refine HN.out.mono ?_
  rintro e w1 ⟨rfl, hb1⟩
  go_wp2_with fail
  go_ret2
  exact ⟨rfl, hb1⟩
def signedV (l : List UInt8) : Value := match signedN l with | some z => .tuple #[.int .i64 z, .bool true] | none => .tuple #[.int .i64 0, .bool false]
theorem signedV_none {l : List UInt8} (h : signedN l = none) : signedV l = .tuple #[.int .i64 0, .bool false] := by simp [signedV, h]
theorem signedV_some {l : List UInt8} {z : Int} (h : signedN l = some z) : signedV l = .tuple #[.int .i64 z, .bool true] := by simp [signedV, h]
theorem parse_at (l : List UInt8) (w : World) (hE : HasErr w) : Calls Tryz.prog 210 #[sv l] w fun e w' => e = .returned (parseV l) ∧ Below w.heap.size w w' := parse_any ⟨l.toArray⟩ w hE
theorem neg_wrap {u : Nat} (h : u ≤ 9223372036854775808) : IntKind.i64.wrap (IntKind.u64.wrap (-(u : Int))) = -(u : Int) := by
 rw [IntKind.wrap_u64, IntKind.wrap_i64]
 by_cases h0 : u = 0
 ·subst h0; rfl
 ·rw [show (-(u : Int)) % 18446744073709551616 = 18446744073709551616 - u from by omega]; omega
theorem parseSigned_any (s : ByteArray) (w : World) (hE : HasErr w) :
  Calls Tryz.prog 338 #[.string s] w fun e w' => e = .returned (signedV (bs s)) ∧ Below w.heap.size w w' := by
 have HE := hidZ hE
 clear hE
 by_cases h45 : ∃ r, bs s = 45 :: r
 ·obtain ⟨r, hr⟩ := h45
  have hcut : ∀ W, Calls Tryz.prog 355 #[.string s, .string ⟨#[45]⟩] W fun e w' => e = .returned (.tuple #[sv r, .bool true]) ∧ w' = W := fun W => by
   have h := Tryz.strings_CutPrefix s ⟨#[45]⟩ W
   rw [show Lib.trimPrefix s.data.toList (⟨#[45]⟩ : ByteArray).data.toList = r from by rw [show s.data.toList = 45 :: r from hr]; simp [Lib.trimPrefix, Lib.hasPrefix], show Lib.hasPrefix s.data.toList (⟨#[45]⟩ : ByteArray).data.toList = true from by rw [show s.data.toList = 45 :: r from hr]; simp [Lib.hasPrefix]] at h
   exact h
  have hpar := fun W hW => parse_at r W hW
  have HC := hidZ hcut
  clear hcut
  rcases hp : parseN r with _ | u
  ·rw [signedV_none (by rw [hr]; simp [signedN, hp])]
   rw [parseV_none hp] at hpar
   have HP := hidZ hpar
   clear hpar hp hr
   go_enter Tryz.func338, Tryz.ntmps338
   go_wp2_with fail
   refine (HC.out _).mono ?_
   rintro e w1 ⟨rfl, rfl⟩
   go_wp2_with fail
   refine (HP.out _ HE.out).mono ?_
   rintro e w1 ⟨rfl, hb1⟩
   go_wp2_with fail
   go_ret2
   exact ⟨rfl, hb1⟩
  ·rw [parseV_some hp] at hpar
   have HP := hidZ hpar
   have hlt := parse_lt hp
   by_cases h63 : u ≤ 9223372036854775808
   ·rw [signedV_some (z := -(u : Int)) (by rw [hr]; simp [signedN, hp, h63])]
    have hneg := neg_wrap h63
    have h1 : ¬ (9223372036854775808 : Int) < (u : Int) := by omega
    clear hpar hp hr hlt h63
    go_enter Tryz.func338, Tryz.ntmps338
    go_wp2_with fail
    refine (HC.out _).mono ?_
    rintro e w1 ⟨rfl, rfl⟩
    go_wp2_with fail
    refine (HP.out _ HE.out).mono ?_
    rintro e w1 ⟨rfl, hb1⟩
    go_wp2_with fail
    go_ret2
    exact ⟨rfl, hb1⟩
   ·rw [signedV_none (by rw [hr]; simp [signedN, hp, h63])]
    have h1 : (9223372036854775808 : Int) < (u : Int) := by omega
    clear hpar hp hr hlt h63
    go_enter Tryz.func338, Tryz.ntmps338
    go_wp2_with fail
    refine (HC.out _).mono ?_
    rintro e w1 ⟨rfl, rfl⟩
    go_wp2_with fail
    refine (HP.out _ HE.out).mono ?_
    rintro e w1 ⟨rfl, hb1⟩
    go_wp2_with fail
    go_ret2
    exact ⟨rfl, hb1⟩
 ·have hno : Lib.hasPrefix s.data.toList (⟨#[45]⟩ : ByteArray).data.toList = false := by
   rw [Bool.eq_false_iff]
   intro h
   cases hl : s.data.toList with
   | nil => rw [hl] at h; simp [Lib.hasPrefix] at h
   | cons c r =>
    rw [hl] at h
    have hc : c = 45 := by
     have h2 : (45 == c) = true := by simpa [Lib.hasPrefix] using h
     exact (beq_iff_eq.1 h2).symm
    exact h45 ⟨r, by rw [show bs s = c :: r from hl, hc]⟩
  have hcut : ∀ W, Calls Tryz.prog 355 #[.string s, .string ⟨#[45]⟩] W fun e w' => e = .returned (.tuple #[.string s, .bool false]) ∧ w' = W := fun W => by
   have h := Tryz.strings_CutPrefix s ⟨#[45]⟩ W
   rw [show Lib.trimPrefix s.data.toList (⟨#[45]⟩ : ByteArray).data.toList = s.data.toList from by rw [Lib.trimPrefix, hno]; rfl, hno] at h
   exact h
  have hsg := signed_plain (l := bs s) (fun r hr => h45 ⟨r, hr⟩)
  have hpar := fun W hW => parse_any s W hW
  have HC := hidZ hcut
  clear hcut hno h45
  rcases hp : parseN (bs s) with _ | u
  ·rw [signedV_none (by rw [hsg, hp])]
   rw [parseV_none hp] at hpar
   have HP := hidZ hpar
   clear hpar hp hsg
   go_enter Tryz.func338, Tryz.ntmps338
   go_wp2_with fail
   refine (HC.out _).mono ?_
   rintro e w1 ⟨rfl, rfl⟩
   go_wp2_with fail
   refine (HP.out _ HE.out).mono ?_
   rintro e w1 ⟨rfl, hb1⟩
   go_wp2_with fail
   go_ret2
   exact ⟨rfl, hb1⟩
  ·rw [parseV_some hp] at hpar
   have HP := hidZ hpar
   have hlt := parse_lt hp
   by_cases h63 : u < 9223372036854775808
   ·rw [signedV_some (z := (u : Int)) (by rw [hsg, hp]; simp [h63])]
    have hneg : IntKind.i64.wrap (u : Int) = (u : Int) := IntWalk.i64_in _ (by omega)
    have h1 : ¬ (9223372036854775807 : Int) < (u : Int) := by omega
    clear hpar hp hsg hlt h63
    go_enter Tryz.func338, Tryz.ntmps338
    go_wp2_with fail
    refine (HC.out _).mono ?_
    rintro e w1 ⟨rfl, rfl⟩
    go_wp2_with fail
    refine (HP.out _ HE.out).mono ?_
    rintro e w1 ⟨rfl, hb1⟩
    go_wp2_with fail
    go_ret2
    exact ⟨rfl, hb1⟩
   ·rw [signedV_none (by rw [hsg, hp]; simp [h63])]
    have h1 : (9223372036854775807 : Int) < (u : Int) := by omega
    clear hpar hp hsg hlt h63
    go_enter Tryz.func338, Tryz.ntmps338
    go_wp2_with fail
    refine (HC.out _).mono ?_
    rintro e w1 ⟨rfl, rfl⟩
    go_wp2_with fail
    refine (HP.out _ HE.out).mono ?_
    rintro e w1 ⟨rfl, hb1⟩
    go_wp2_with fail
    go_ret2
    exact ⟨rfl, hb1⟩
def parse32N (l : List UInt8) : Option Nat := match parseN l with | some u => if u < 4294967296 then some u else none | none => none
def parse32V (l : List UInt8) : Value := match parse32N l with | some u => .tuple #[.int .u32 u, .bool true] | none => .tuple #[.int .u32 0, .bool false]
theorem parse32V_none {l : List UInt8} (h : parse32N l = none) : parse32V l = .tuple #[.int .u32 0, .bool false] := by simp [parse32V, h]
theorem parse32V_some {l : List UInt8} {u : Nat} (h : parse32N l = some u) : parse32V l = .tuple #[.int .u32 u, .bool true] := by simp [parse32V, h]
theorem parse32_any (s : ByteArray) (w : World) (hE : HasErr w) :
  Calls Tryz.prog 337 #[.string s] w fun e w' => e = .returned (parse32V (bs s)) ∧ Below w.heap.size w w' := by
 have hpar := parse_any s w hE
 rcases hp : parseN (bs s) with _ | u
 ·rw [parse32V_none (by simp [parse32N, hp])]
  rw [parseV_none hp] at hpar
  have HP := hidZ hpar
  clear hpar hp
  go_enter Tryz.func337, Tryz.ntmps337
  go_wp2_with fail
  refine HP.out.mono ?_
  rintro e w1 ⟨rfl, hb1⟩
  go_wp2_with fail
  go_ret2
  exact ⟨rfl, hb1⟩
 ·rw [parseV_some hp] at hpar
  have HP := hidZ hpar
  by_cases h32 : u < 4294967296
  ·rw [parse32V_some (u := u) (by simp [parse32N, hp, h32])]
   have hwr : IntKind.u32.wrap (u : Int) = (u : Int) := IntWalk.u32_in _ (by omega)
   have h1 : ¬ (4294967295 : Int) < (u : Int) := by omega
   clear hpar hp h32
   go_enter Tryz.func337, Tryz.ntmps337
   go_wp2_with fail
   refine HP.out.mono ?_
   rintro e w1 ⟨rfl, hb1⟩
   go_wp2_with fail
   go_ret2
   exact ⟨rfl, hb1⟩
  ·rw [parse32V_none (by simp [parse32N, hp, h32])]
   have h1 : (4294967295 : Int) < (u : Int) := by omega
   clear hpar hp h32
   go_enter Tryz.func337, Tryz.ntmps337
   go_wp2_with fail
   refine HP.out.mono ?_
   rintro e w1 ⟨rfl, hb1⟩
   go_wp2_with fail
   go_ret2
   exact ⟨rfl, hb1⟩
structure Cmd where
 verb : Nat
 keys : List (List UInt8)
 cverb : Nat
 key : List UInt8
 value : List UInt8
 flags : Nat
 exp : Int
 id : Nat
 by' : Nat
 bytes : Int
 quiet : Bool
def noCmd : Cmd := ⟨0, [], 0, [], [], 0, 0, 0, 0, 0, false⟩
def names : List (List UInt8) := [[103, 101, 116], [103, 101, 116, 115], [115, 101, 116], [97, 100, 100], [114, 101, 112, 108, 97, 99, 101], [99, 97, 115], [100, 101, 108, 101, 116, 101], [116, 111, 117, 99, 104], [105, 110, 99, 114], [100, 101, 99, 114], [102, 108, 117, 115, 104, 95, 97, 108, 108], [118, 101, 114, 115, 105, 111, 110], [113, 117, 105, 116]]
def noreply : List UInt8 := [110, 111, 114, 101, 112, 108, 121]
def verbOf (w : List UInt8) : Nat := match names.findIdx? (· == w) with | some i => i + 1 | none => 0
def leastOf (v : Nat) : Nat := [0, 1, 1, 4, 4, 4, 5, 1, 2, 2, 2, 0, 0, 0].getD v 0
def mostOf (v : Nat) : Nat := [0, 64, 64, 4, 4, 4, 5, 1, 2, 2, 2, 1, 0, 0].getD v 0
def quietOf (v : Nat) : Bool := 3 ≤ v && v ≤ 11
def keysOf (v : Nat) : Bool := v == 1 || v == 2
def restOf (v : Nat) : List Nat := [[], [], [], [0, 1, 2], [0, 1, 2], [0, 1, 2], [0, 1, 2, 3], [], [1], [4], [4], [1], [], []].getD v []
def readF (c : Cmd) (f : Nat) (w : List UInt8) : Cmd × Bool :=
 if f = 0 then ({ c with flags := (parse32N w).getD 0 }, (parse32N w).isSome)
 else if f = 1 then ({ c with exp := (signedN w).getD 0 }, (signedN w).isSome)
 else if f = 2 then ({ c with bytes := ((min ((parseN w).getD 0) 2147483647 : Nat) : Int) }, match parseN w with | some n => n ≤ 2147483647 | none => false)
 else if f = 3 then ({ c with id := (parseN w).getD 0 }, (parseN w).isSome)
 else ({ c with by' := (parseN w).getD 0 }, (parseN w).isSome)
def readAll (c : Cmd) : List Nat → List (List UInt8) → Cmd × Nat
 | _, [] => (c, 0)
 | [], _ :: _ => (c, 2)
 | f :: fs, w :: ws => if (readF c f w).2 then readAll (readF c f w).1 fs ws else ((readF c f w).1, if f = 4 then 4 else 2)
def parseW (v : Nat) (quiet : Bool) (l : List (List UInt8)) : Cmd × Nat :=
 let many := if keysOf v then l.length else min (leastOf v) 1
 let ks := l.take many
 if ks.any (fun k => !okB k) then (noCmd, 2)
 else
  let c : Cmd := ⟨v, ks, v, ks.headD [], [], 0, 0, 0, 0, -1, quiet⟩
  let r := readAll c (restOf v) (l.drop many)
  if r.2 ≠ 0 then (noCmd, r.2) else if 1024 < r.1.bytes then (r.1, 5) else (r.1, 0)
def isQuiet (v : Nat) (l : List (List UInt8)) : Bool := quietOf v && decide (leastOf v < l.length) && l.getLast? == some noreply
def parseL (s : List UInt8) : Cmd × Nat :=
 if 2048 < s.length then (noCmd, 3)
 else match words s with
  | [] => (noCmd, 1)
  | name :: l =>
   let v := verbOf name
   let q := isQuiet v l
   let l' := if q then l.dropLast else l
   if v = 0 ∨ l'.length < leastOf v ∨ mostOf v < l'.length then (noCmd, 1) else parseW v q l'
structure Ev where
 cmd : Cmd
 data : List UInt8
 told : Nat
def toldE (t : Nat) : Ev := ⟨noCmd, [], t⟩
structure FSt where
 way : Nat
 held : List UInt8
 cmd : Cmd
 many : Nat
def fNew : FSt := ⟨0, [], noCmd, 0⟩
def trimCr (l : List UInt8) : List UInt8 := if l.getLast? = some 13 then l.dropLast else l
def beginF (st : FSt) (way : Nat) : FSt := { st with way := way, held := [] }
def fullF (st : FSt) : FSt := if st.cmd.bytes ≤ (st.held.length : Int) then { st with way := 2 } else st
def chunkF (st : FSt) (c : UInt8) : FSt × List Ev := (if c = 10 then beginF st 0 else beginF st 4, [toldE 6])
def lineF (st : FSt) (s : List UInt8) : FSt × List Ev :=
 let r := parseL s
 if r.2 = 5 then ({ beginF st 5 with many := r.1.bytes.toNat + 2 }, [toldE 5])
 else if r.2 = 0 then
  if 0 ≤ r.1.bytes then (fullF { beginF st 1 with cmd := r.1 }, [])
  else (beginF st 0, [⟨r.1, [], 0⟩])
 else (beginF st 0, [toldE r.2])
def gatherF (st : FSt) (c : UInt8) : FSt × List Ev :=
 if c = 10 then lineF st (trimCr st.held)
 else if st.held.length = 2048 then (beginF st 4, [toldE 3])
 else ({ st with held := st.held ++ [c] }, [])
def stepF (st : FSt) (c : UInt8) : FSt × List Ev :=
 if st.way = 0 then gatherF st c
 else if st.way = 1 then (fullF { st with held := st.held ++ [c] }, [])
 else if st.way = 2 then if c = 13 then ({ st with way := 3 }, []) else chunkF st c
 else if st.way = 3 then if c = 10 then (beginF st 0, [⟨st.cmd, st.held, 0⟩]) else chunkF st c
 else if st.way = 4 then (if c = 10 then beginF st 0 else st, [])
 else (if st.many - 1 = 0 then beginF { st with many := st.many - 1 } 0 else { st with many := st.many - 1 }, [])
def runF (st : FSt) : List UInt8 → FSt × List Ev
 | [] => (st, [])
 | c :: b => let r := stepF st c; let q := runF r.1 b; (q.1, r.2 ++ q.2)
def leftF (st : FSt) : Nat := if st.way = 3 then st.held.length + 1 else st.held.length
theorem runF_nil (st : FSt) : runF st [] = (st, []) := rfl
theorem runF_cons (st : FSt) (c : UInt8) (b : List UInt8) : runF st (c :: b) = ((runF (stepF st c).1 b).1, (stepF st c).2 ++ (runF (stepF st c).1 b).2) := rfl
theorem runF_append : ∀ (a b : List UInt8) (st : FSt), runF st (a ++ b) = ((runF (runF st a).1 b).1, (runF st a).2 ++ (runF (runF st a).1 b).2)
 | [], b, st => by simp [runF_nil]
 | c :: a, b, st => by
  rw [List.cons_append, runF_cons, runF_cons, runF_append a b]
  simp
/-! ### The document: all bytes, cut by definition -/
def line10 : List UInt8 → Nat
 | [] => 0
 | c :: b => if c = 10 then 0 else line10 b + 1
def badOf (k : Nat) (rest : List UInt8) : Nat := if rest[k]? = some 13 then k + 1 else k
def dataD (n : Nat) (d : Cmd) (k : Nat) (rest : List UInt8) : List Ev × Option Nat × Nat :=
 if rest.length ≤ badOf k rest then ([], none, rest.length)
 else if badOf k rest = k + 1 ∧ rest[badOf k rest]? = some 10 then ([⟨d, rest.take k, 0⟩], some (n + 1 + badOf k rest), 0)
 else ([toldE 6], some (n + 1 + (badOf k rest + line10 (rest.drop (badOf k rest)))), 0)
def unitD (n : Nat) (r : Cmd × Nat) (rest : List UInt8) : List Ev × Option Nat × Nat :=
 if r.2 = 5 then (if rest.length < r.1.bytes.toNat + 2 then ([toldE 5], none, 0) else ([toldE 5], some (n + (r.1.bytes.toNat + 2)), 0))
 else if r.2 ≠ 0 then ([toldE r.2], some n, 0)
 else if r.1.bytes < 0 then ([⟨r.1, [], 0⟩], some n, 0)
 else dataD n r.1 r.1.bytes.toNat rest
def unitR (b : List UInt8) : List Ev × Option Nat × Nat :=
 if 2048 < line10 b then ([toldE 3], some (line10 b), 0)
 else if line10 b = b.length then ([], none, b.length)
 else unitD (line10 b) (parseL (trimCr (b.take (line10 b)))) (b.drop (line10 b + 1))
def refEv : List UInt8 → List Ev × Nat
 | [] => ([], 0)
 | c :: b => match unitR (c :: b) with
  | (es, none, m) => (es, m)
  | (es, some k, _) => (es ++ (refEv (b.drop k)).1, (refEv (b.drop k)).2)
termination_by b => b.length
decreasing_by
 all_goals
  simp only [List.length_drop, List.length_cons]
  omega
def Tells (st : FSt) (b : List UInt8) : Prop := (runF st b).2 = (refEv b).1 ∧ leftF (runF st b).1 = (refEv b).2
theorem run_one (st : FSt) (c : UInt8) : runF st [c] = ((stepF st c).1, (stepF st c).2) := by rw [runF_cons, runF_nil, List.append_nil]
instance : DecidableEq ItemD := fun a b => decidable_of_iff (a.key = b.key ∧ a.value = b.value ∧ a.flags = b.flags ∧ a.id = b.id ∧ a.dies = b.dies ∧ a.gen = b.gen) (by
 cases a; cases b; simp)
instance : DecidableEq AnsD := fun a b => decidable_of_iff (a.kind = b.kind ∧ a.number = b.number ∧ a.item = b.item) (by
 cases a; cases b; simp)
def nowE (w : Nat) : Nat := w % 16777216
def atE (w : Nat) : Nat := w / 16777216 % 16777216
def genE (w : Nat) : Nat := w / 281474976710656
def putE (n a g : Nat) : Nat := (g % 65536 * 16777216 + a % 16777216) * 16777216 + n % 16777216
def tickE (w : Nat) : Nat :=
 if 0 < atE w ∧ atE w ≤ min (nowE w + 1) 16777215 then putE (min (nowE w + 1) 16777215) 0 (min (genE w + 1) 65535) else putE (min (nowE w + 1) 16777215) (atE w) (genE w)
def diesE (w : Nat) (e : Int) : Int := if e = 0 then -1 else if e < 0 then nowE w else if e ≤ 2592000 then nowE w + e else e
theorem now_lt (w : Nat) : nowE w < 16777216 := Nat.mod_lt _ (by omega)
theorem at_lt (w : Nat) : atE w < 16777216 := Nat.mod_lt _ (by omega)
theorem gen_lt {w : Nat} (h : w < 18446744073709551616) : genE w < 65536 := by unfold genE; omega
theorem put_lt (n a g : Nat) : putE n a g < 18446744073709551616 := by unfold putE; omega
end Go.Proofs.YtnkkoicbnbjlnaaGreatDoor
