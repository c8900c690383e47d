/- Texts of numbers: nums.Text, strconv.FormatUint at base 10, the reference's Text: each is the number's decimal digits. Condition: the table of the powers of ten lies as the library lays it. Plain: the value of a text of digits, texts of numbers, their order, what is a number's text. No condition. nums.number, Incr, Decr and the reference's; a text of digits. No condition. nums.Parse and the reference's: at any text. Condition: the library's variable ErrRange holds an error. Plain: what a line of the protocol asks for: the command that it has, what is told of it. No condition. Plain: what a feed of bytes tells: byte by byte, and as the document has it, of all bytes. No condition, no program in sight. Plain: byte by byte a feed tells what the document has of all bytes. No condition, no program in sight. Plain: data and its end, by cases. No program in sight. -/
import Derived.Test.YtddifbimlmkcbaaGreatDoorLowA
import Derived.Test.YtddifbimlmkcbaaGreatDoorShelf
import Derived.Lib.ItoaMem
import Derived.Lib.ParseIntB
import Derived.Laws.RangeAny
import Derived.Lib.SmallJoins
import Derived.Lib.AtoiErrMem
namespace Go.Proofs.YtddifbimlmkcbaaGreatDoor
open Go.RowKit Go.Sort

/-- The library's table of the powers of ten. -/
def HasPow (w : World) : Prop := Lib.TabIs Tryz.prog w "internal/strconv.uint64pow10" .u64 Lib.pow10Tab
theorem HasPow.below {w w' : World} (h : HasPow w) (hb : Below w.heap.size w w') : HasPow w' := by
  have hg : Tryz.prog.globalNamed "internal/strconv.uint64pow10" = some 0 := by kernel_rfl
  have hc := h.cell hg 0 (by decide)
  exact var?_below hb hg (cell_lt hc) h

theorem holds0 (w : World) (T : TypeId) (nd : Nat) (hs : nd ≤ 24) : Holds (fun (b : UInt8) => Value.int .u8 (b.toNat : Int)) (w.alloc (.cells Lib.zeros24 T)) w.heap.size 0 (Array.replicate nd (0 : UInt8)) := fun j hj => by
  have hj' : j < nd := by simpa using hj
  refine ⟨?_, World.frozen?_alloc_new _ _ _ _⟩
  rw [World.cell?_alloc_new, Lib.zeros24_at _ (by omega), getElem!_pos _ j hj]
  simp
theorem below_fin (w : World) (o : Obj) (dk : Array UInt8) (k : Nat) : Below w.heap.size w ((putRow (fun (b : UInt8) => Value.int .u8 (b.toNat : Int)) (w.alloc o) w.heap.size 0 dk).drewN k) := by
  rw [alloc_eq_grow]
  obtain ⟨os', _, e⟩ := putRow_grow_new (fun (b : UInt8) => Value.int .u8 (b.toNat : Int)) w #[o] w.heap.size 0 dk (Nat.le_refl _)
  rw [e]
  have hb : Below w.heap.size w (grow w os') := ⟨rfl, rfl, rfl, by simp [grow], fun i hi => heap_grow_old w os' hi⟩
  exact below_drewN hb k

set_option maxHeartbeats 2000000 in
set_option maxRecDepth 100000 in
theorem formatUint_in (u : Nat) (hu : u < 18446744073709551616) (w : World) (hP : HasPow w) :
    Calls Tryz.prog 62 #[.int .u64 u, .int .i64 10] w fun e w' => e = .returned (sv (Lib.decDigits u)) ∧ Below w.heap.size w w' := by
  have HP := Lib.hid hP
  clear hP
  by_cases hs : u < 100
  · go_enter Tryz.func62, Tryz.ntmps62
    go_wp2_with fail
    refine (Tryz.internal_strconv_small u hs _).mono ?_
    rintro e w1 ⟨rfl, hw⟩
    rw [hw]
    go_wp2_with fail
    go_ret
    exact ⟨rfl, Below.refl _ _⟩
  · have hu1 : 1 ≤ u := by omega
    have hnd20 : Lib.nDigits u ≤ 20 := by have := Lib.numDigits_eq u hu1 hu; split at this <;> omega
    have hal : Tryz.prog.arrayLen 121 = 24 := by simp [Program.arrayLen, Tryz.underlying121]
    have hsl1 : ∀ W, (Instr.sliceAt 121 (.pointer (some ⟨w.heap.size, 0, none⟩)) none (some (.int .i64 (Lib.nDigits u : Int))) none).run Tryz.prog W = .ok (.slice (some ⟨w.heap.size, 0, none⟩) (Lib.nDigits u) 24) W := fun W => by
      rw [run_sliceAt_array_h W 121 ⟨w.heap.size, 0, none⟩ (by simp [Program.arrayLen, Program.elem, Tryz.underlying121]) .i64 (Lib.nDigits u : Int) (by omega) (by rw [hal]; omega)]
      go_simp
    have hH0 := holds0 w 121 (Lib.nDigits u) (by omega)
    have hfmt := Tryz.internal_strconv_formatBase10 w.heap.size 0 24 u (Array.replicate (Lib.nDigits u) 0) (w.alloc (.cells Lib.zeros24 121)) hH0 (by rw [Array.size_replicate]; exact Lib.lt_pow_nDigits u) hu (by rw [Array.size_replicate]; omega)
    rw [Array.size_replicate] at hfmt
    have HH0 := Lib.hid hH0
    have HF := Lib.hid hfmt
    clear hH0 hal hfmt
    go_enter Tryz.func62, Tryz.ntmps62
    go_wp2_with fail
    refine (Tryz.internal_strconv_numDigits u hu1 hu _ (Lib.tabIs_alloc HP.out _)).mono ?_
    rintro e w1 ⟨rfl, rfl⟩
    go_wp2_with fail
    refine HF.out.mono ?_
    rintro e w1 ⟨rfl, k, v', dk, rfl, hF⟩
    have hcv : (convert 22 9 (.slice (some ⟨w.heap.size, 0, none⟩) (Lib.nDigits u) 24)).run Tryz.prog ((putRow (fun (b : UInt8) => Value.int .u8 (b.toNat : Int)) (w.alloc (.cells Lib.zeros24 121)) w.heap.size 0 dk).drewN k) = .ok (sv (Lib.decDigits u)) ((putRow (fun (b : UInt8) => Value.int .u8 (b.toNat : Int)) (w.alloc (.cells Lib.zeros24 121)) w.heap.size 0 dk).drewN k) := by
      have h := run_convert_bytes_back (P := Tryz.prog) ((putRow (fun (b : UInt8) => Value.int .u8 (b.toNat : Int)) (w.alloc (.cells Lib.zeros24 121)) w.heap.size 0 dk).drewN k) 22 9 5 ⟨w.heap.size, 0, none⟩ 24 (Lib.decDigits u) Tryz.underlying22 Tryz.underlying5 Tryz.underlying9 (fun j hj => by
        rw [Lib.row_is_numeral hF j hj, Lib.add_plain, World.cell?_drewN]
        exact cell?_putRow (fun (b : UInt8) => Value.int .u8 (b.toNat : Int)) _ w.heap.size 0 _ dk HH0.out (by rw [hF.size, Array.size_replicate]) j (by rw [hF.size]; rw [Lib.decDigits_length] at hj; exact hj))
      rw [Lib.decDigits_length] at h
      exact h
    have hbf := below_fin w (.cells Lib.zeros24 121) dk k
    go_wp2_with fail
    go_ret
    exact ⟨rfl, hbf⟩

theorem formatUint_any (u : Nat) (hu : u < 18446744073709551616) (w : World) (hP : HasPow w) :
    Calls Tryz.prog 49 #[.int .u64 u, .int .i64 10] w fun e w' => e = .returned (sv (Lib.decDigits u)) ∧ Below w.heap.size w w' := by
  have h := formatUint_in u hu w hP
  generalize Lib.decDigits u = l at *
  have H := Lib.hid h
  clear h hP
  go_enter Tryz.func49, Tryz.ntmps49
  go_wp2_with fail
  refine H.out.mono ?_
  rintro e w1 ⟨rfl, hb⟩
  go_wp2_with fail
  go_ret
  exact ⟨rfl, hb⟩
/-- nums.Text: any number of 64 bits. -/
theorem text_any (n : Int) (h0 : 0 ≤ n) (hu : n < 18446744073709551616) (w : World) (hP : HasPow w) :
    Calls Tryz.prog 34 #[.int .u64 n] w fun e w' => e = .returned (sv (Lib.decDigits n.toNat)) ∧ Below w.heap.size w w' := by
  obtain ⟨u, rfl⟩ := Int.eq_ofNat_of_zero_le h0
  have h := formatUint_any u (by omega) w hP
  rw [Int.toNat_natCast]
  generalize Lib.decDigits u = l at *
  have H := Lib.hid h
  clear h hP
  go_enter Tryz.func34, Tryz.ntmps34
  go_wp2_with fail
  refine H.out.mono ?_
  rintro e w1 ⟨rfl, hb⟩
  go_wp2_with fail
  go_ret
  exact ⟨rfl, hb⟩

theorem dec_big {u : Nat} (h : ¬ u < 10) : Lib.decDigits u = Lib.decDigits (u / 10) ++ [UInt8.ofNat (48 + u % 10)] := by rw [Lib.decDigits, dif_neg h]
theorem dec_small {u : Nat} (h : u < 10) : Lib.decDigits u = [UInt8.ofNat (48 + u % 10)] := by rw [Lib.decDigits, dif_pos h, Nat.mod_eq_of_lt h]
theorem dec_short (u : Nat) (h : u < 18446744073709551616) : (Lib.decDigits u).length ≤ 20 := by
  rw [Lib.decDigits_length]
  by_cases h1 : 1 ≤ u
  · have := Lib.numDigits_eq u h1 h; split at this <;> omega
  · obtain rfl : u = 0 := by omega
    rw [Lib.nDigits_small (by omega)]; omega

end Go.Proofs.YtddifbimlmkcbaaGreatDoor
namespace Go.Proofs.YtddifbimlmkcbaaGreatDoor

def digitB (c : UInt8) : Bool := decide (48 ≤ c.toNat) && decide (c.toNat ≤ 57)
def numB (l : List UInt8) : Bool := l.all digitB && !l.isEmpty && decide (l.length ≤ 20)
/-- The value of digits behind a value. -/
def dig (a : Nat) (c : UInt8) : Nat := a * 10 + (c.toNat - 48)
def dval (a : Nat) (l : List UInt8) : Nat := l.foldl dig a
theorem dval_nil (a : Nat) : dval a [] = a := by simp only [dval, List.foldl_nil]
theorem dval_cons (a : Nat) (c : UInt8) (r : List UInt8) : dval a (c :: r) = dval (a * 10 + (c.toNat - 48)) r := by simp only [dval, List.foldl_cons, dig]
/-- The number that a text is, if it is one. -/
def parseN (l : List UInt8) : Option Nat := if numB l = true ∧ dval 0 l < 18446744073709551616 then some (dval 0 l) else none
/-- The signed one. -/
def signedN (l : List UInt8) : Option Int :=
  match l with
  | [] => none
  | c :: r => if c = 45 then (match parseN r with | some u => if u ≤ 9223372036854775808 then some (-(u : Int)) else none | none => none)
    else (match parseN (c :: r) with | some u => if u < 9223372036854775808 then some (u : Int) else none | none => none)

theorem digit_is {c : UInt8} : digitB c = true ↔ 48 ≤ c.toNat ∧ c.toNat ≤ 57 := by simp [digitB]
theorem dval_lin : ∀ (l : List UInt8) (a : Nat), dval a l = a * 10 ^ l.length + dval 0 l
  | [], a => by simp [dval_nil]
  | c :: r, a => by
    rw [dval_cons, dval_lin r, dval_cons, dval_lin r (0 * 10 + (c.toNat - 48)), List.length_cons, Nat.pow_succ, Nat.add_mul, Nat.zero_mul, Nat.zero_add]
    rw [Nat.mul_assoc, Nat.mul_comm 10]
    omega
theorem dval_append : ∀ (l m : List UInt8) (a : Nat), dval a (l ++ m) = dval (dval a l) m
  | [], _, _ => by rw [List.nil_append, dval_nil]
  | c :: l, m, a => by rw [List.cons_append, dval_cons, dval_append l m, dval_cons]
theorem dval_lt : ∀ (l : List UInt8), l.all digitB = true → dval 0 l < 10 ^ l.length
  | [], _ => by simp [dval_nil]
  | c :: r, h => by
    simp only [List.all_cons, Bool.and_eq_true] at h
    have h1 := dval_lt r h.2
    have h2 := digit_is.1 h.1
    rw [dval_cons, dval_lin, List.length_cons, Nat.pow_succ, Nat.zero_mul, Nat.zero_add]
    have h3 : (c.toNat - 48) * 10 ^ r.length ≤ 9 * 10 ^ r.length := Nat.mul_le_mul_right _ (by omega)
    omega
theorem digit_ofNat {d : Nat} (h : d < 10) : (UInt8.ofNat (48 + d)).toNat = 48 + d := by
  simp [UInt8.toNat_ofNat]; omega
theorem dval_dec (u : Nat) : dval 0 (Lib.decDigits u) = u := by
  induction u using Nat.strongRecOn with
  | _ u ih =>
    by_cases h : u < 10
    · rw [dec_small h, dval_cons, dval_nil, digit_ofNat (by omega)]; omega
    · rw [dec_big h, dval_append, ih (u / 10) (by omega), dval_cons, dval_nil, digit_ofNat (by omega)]; omega
theorem dec_all (u : Nat) : (Lib.decDigits u).all digitB = true := by
  induction u using Nat.strongRecOn with
  | _ u ih =>
    by_cases h : u < 10
    · rw [dec_small h]; simp [digitB]; omega
    · rw [dec_big h, List.all_append, ih (u / 10) (by omega)]; simp [digitB]; omega
theorem dec_head {u : Nat} (h0 : 0 < u) : ∃ c r, Lib.decDigits u = c :: r ∧ c ≠ 48 := by
  induction u using Nat.strongRecOn with
  | _ u ih =>
    by_cases h : u < 10
    · refine ⟨_, _, dec_small h, fun e => ?_⟩
      have := congrArg UInt8.toNat e
      rw [digit_ofNat (by omega)] at this
      simp at this; omega
    · obtain ⟨c, r, e, hc⟩ := ih (u / 10) (by omega) (by omega)
      exact ⟨c, r ++ [UInt8.ofNat (48 + u % 10)], by rw [dec_big h, e]; rfl, hc⟩
theorem dec_zero : Lib.decDigits 0 = [48] := by rw [dec_small (by omega)]; rfl
theorem dec_digit {u : Nat} {c : UInt8} (h : c ∈ Lib.decDigits u) : digitB c = true := List.all_eq_true.1 (dec_all u) c h
theorem dec_nonempty (u : Nat) : Lib.decDigits u ≠ [] := by
  rcases Nat.eq_zero_or_pos u with rfl | h
  · rw [dec_zero]; simp
  · obtain ⟨c, r, e, _⟩ := dec_head h; rw [e]; simp
theorem num_dec {u : Nat} (h : u < 18446744073709551616) : numB (Lib.decDigits u) = true := by
  have h1 := dec_short u h
  have h2 := dec_nonempty u
  simp only [numB, dec_all, Bool.true_and, Bool.and_eq_true, Bool.not_eq_true', List.isEmpty_eq_false_iff, decide_eq_true_eq]
  exact ⟨h2, h1⟩
theorem parse_dec {u : Nat} (h : u < 18446744073709551616) : parseN (Lib.decDigits u) = some u := by
  unfold parseN
  rw [num_dec h, dval_dec, if_pos ⟨rfl, h⟩]
theorem parse_lt {l : List UInt8} {u : Nat} (h : parseN l = some u) : u < 18446744073709551616 := by
  unfold parseN at h
  split at h
  · cases h; rename_i h; exact h.2
  · cases h

theorem parse_uintM : ∀ (l : List UInt8) (a : Nat), l.all digitB = true → a < 18446744073709551616 → Lib.parseUintM (2 ^ 64 - 1) a l = if dval a l < 18446744073709551616 then .ok (dval a l) else .range
  | [], a, _, ha => by rw [Lib.parseUintM, dval_nil, if_pos ha]
  | c :: r, a, h, ha => by
    simp only [List.all_cons, Bool.and_eq_true] at h
    have hd := digit_is.1 h.1
    rw [Lib.parseUintM, if_pos hd, dval_cons]
    have hge : a * 10 + (c.toNat - 48) ≤ dval (a * 10 + (c.toNat - 48)) r := by
      rw [dval_lin]
      have := Nat.le_mul_of_pos_right (a * 10 + (c.toNat - 48)) (Nat.pow_pos (n := r.length) (show 0 < 10 by omega))
      omega
    by_cases h1 : 1844674407370955162 ≤ a
    · rw [if_pos h1, if_neg (by omega)]
    · rw [if_neg h1]
      by_cases h2 : 2 ^ 64 - 1 < a * 10 + (c.toNat - 48)
      · rw [if_pos h2, if_neg (by omega)]
      · rw [if_neg h2, parse_uintM r _ h.2 (by omega)]
theorem parse_uint {l : List UInt8} (h : numB l = true) : Lib.parseUintB 64 l = if dval 0 l < 18446744073709551616 then .ok (dval 0 l) else .range := by
  simp only [numB, Bool.and_eq_true, Bool.not_eq_true', decide_eq_true_eq] at h
  unfold Lib.parseUintB
  rw [if_neg (by rintro rfl; simp at h), parse_uintM l 0 h.1.1 (by omega)]
theorem num_short {l : List UInt8} (h : numB l = true) : l.length ≤ 20 := by
  simp only [numB, Bool.and_eq_true, decide_eq_true_eq] at h
  exact h.2
theorem num_bad {l : List UInt8} {c : UInt8} (hc : c ∈ l) (h : digitB c = false) : numB l = false := by
  have : l.all digitB = false := by
    rw [Bool.eq_false_iff]; intro ha
    rw [List.all_eq_true] at ha
    rw [ha c hc] at h; cases h
  simp [numB, this]
theorem parse_bad {l : List UInt8} {c : UInt8} (hc : c ∈ l) (h : digitB c = false) : parseN l = none := by
  unfold parseN; rw [num_bad hc h]; simp
theorem parse_nil : parseN [] = none := by simp [parseN, numB]
theorem parse_long {l : List UInt8} (h : 20 < l.length) : parseN l = none := by
  unfold parseN
  rw [if_neg]
  rintro ⟨h1, _⟩
  have := num_short h1
  omega

/-- The reference's scan: behind i bytes of a text of 1 to 20 bytes. -/
def Scan (l : List UInt8) (i n : Nat) : Prop := (∀ c ∈ l.take i, digitB c = true) ∧ n = dval 0 (l.take i) ∧ n < 18446744073709551616
theorem scan_zero (l : List UInt8) : Scan l 0 0 := ⟨by simp, rfl, by omega⟩
theorem scan_next {l : List UInt8} {i n : Nat} {c : UInt8} (h : Scan l i n) (hc : l[i]? = some c) (hd : digitB c = true) (hn : n * 10 + (c.toNat - 48) < 18446744073709551616) : Scan l (i + 1) (n * 10 + (c.toNat - 48)) := by
  obtain ⟨h1, h2, h3⟩ := h
  have ht : l.take (i + 1) = l.take i ++ [c] := by rw [List.take_add_one, hc]; rfl
  refine ⟨?_, ?_, hn⟩
  · rw [ht]; intro x hx
    rcases List.mem_append.1 hx with hx | hx
    · exact h1 x hx
    · rw [List.mem_singleton.1 hx]; exact hd
  · rw [ht, dval_append, ← h2]; rfl
theorem scan_bad {l : List UInt8} {i : Nat} {c : UInt8} (hc : l[i]? = some c) (hd : digitB c = false) : parseN l = none := parse_bad (List.mem_of_getElem? hc) hd
theorem scan_over {l : List UInt8} {i n : Nat} {c : UInt8} (h : Scan l i n) (hc : l[i]? = some c) (hn : ¬ n * 10 + (c.toNat - 48) < 18446744073709551616) : parseN l = none := by
  obtain ⟨hi, hci⟩ := List.getElem?_eq_some_iff.1 hc
  have hl : l = l.take i ++ (c :: l.drop (i + 1)) := by
    rw [← hci, ← List.drop_eq_getElem_cons hi, List.take_append_drop]
  unfold parseN
  rw [if_neg]
  rintro ⟨_, h2⟩
  rw [hl, dval_append, ← h.2.1, dval_cons, dval_lin] at h2
  have := Nat.le_mul_of_pos_right (n * 10 + (c.toNat - 48)) (Nat.pow_pos (n := (l.drop (i + 1)).length) (show 0 < 10 by omega))
  omega
theorem scan_end {l : List UInt8} {n : Nat} (h : Scan l l.length n) (h0 : l ≠ []) (h20 : l.length ≤ 20) : parseN l = some n := by
  obtain ⟨h1, h2, h3⟩ := h
  rw [List.take_length] at h1 h2
  have hn : numB l = true := by
    simp only [numB, Bool.and_eq_true, Bool.not_eq_true', List.isEmpty_eq_false_iff, decide_eq_true_eq, List.all_eq_true]
    exact ⟨⟨h1, h0⟩, h20⟩
  unfold parseN
  rw [hn, ← h2, if_pos ⟨rfl, h3⟩]

/-! ### The order of texts of numbers -/
/-! ### Signed ones -/
theorem signed_neg {u : Nat} (h : u < 18446744073709551616) : signedN (45 :: Lib.decDigits u) = if u ≤ 9223372036854775808 then some (-(u : Int)) else none := by
  simp only [signedN, if_true, parse_dec h]
theorem signed_plain {l : List UInt8} (h : ∀ r, l ≠ 45 :: r) : signedN l = match parseN l with | some u => if u < 9223372036854775808 then some (u : Int) else none | none => none := by
  cases l with
  | nil => simp [signedN, parse_nil]
  | cons c r => rw [signedN, if_neg (fun hc => h r (by rw [hc]))]
theorem dec_no_minus (u : Nat) (r : List UInt8) : Lib.decDigits u ≠ 45 :: r := by
  intro h
  have : digitB 45 = true := dec_digit (u := u) (by rw [h]; simp)
  exact absurd this (by decide)
theorem signed_dec {u : Nat} (h : u < 18446744073709551616) : signedN (Lib.decDigits u) = if u < 9223372036854775808 then some (u : Int) else none := by
  rw [signed_plain (dec_no_minus u), parse_dec h]
end Go.Proofs.YtddifbimlmkcbaaGreatDoor
namespace Go.Proofs.YtddifbimlmkcbaaGreatDoor
open Go.RowKit

theorem good_all_digits {l : List UInt8} (h : Good (fun c => !digitB c) l l.length) : l.all digitB = true := by
  rw [List.all_eq_true]
  intro x hx
  obtain ⟨j, hj, rfl⟩ := List.getElem_of_mem hx
  simpa using h j hj _ (List.getElem?_eq_getElem hj)
theorem bad_digit {l : List UInt8} {k : Nat} {c : UInt8} (hc : l[k]? = some c) (h : digitB c = false) : numB l = false := by
  have : l.all digitB = false := by
    rw [Bool.eq_false_iff]
    intro ha
    rw [List.all_eq_true] at ha
    rw [ha c (List.mem_of_getElem? hc)] at h
    cases h
  simp [numB, this]

set_option maxHeartbeats 1000000 in
set_option maxRecDepth 100000 in
theorem number_any (s : ByteArray) (w : World) :
    Calls Tryz.prog 130 #[.string s] w fun e w' => e = .returned (.bool (numB (bs s))) ∧ Below w.heap.size w w' := by
  go_enter Tryz.func130, Tryz.ntmps130
  go_wp2
  go_loopw [2] (fun n w' => ∃ pos : Nat, w' = w.iter s pos ∧ n = .bool false ∧ pos ≤ s.size ∧ Good (fun c => !digitB c) (bs s) pos) (fun _ w' => s.size - w'.iterPos w.heap.size)
  case atStart => exact ⟨0, rfl, rfl, Nat.zero_le _, good_zero _ _⟩
  case round =>
    obtain ⟨pos, rfl, rfl, hps, hg⟩ := hrel
    have HG := Lib.hid hg
    have hbl : ∀ q, Below w.heap.size w (w.iter s q) := fun q => (Below.refl _ _).alloc (Nat.le_refl _) _
    clear hg
    by_cases hp : pos < s.size
    · have hget := bs_get? hp
      have HGET := Lib.hid hget
      clear hget
      generalize hc : s[pos] = c at HGET
      by_cases hd : digitB c = true
      · have hd' := hd
        simp only [digitB, Bool.and_eq_true, decide_eq_true_eq] at hd
        have hnx : ∀ ty, (Instr.next (.pointer (some ⟨w.heap.size, 0, none⟩)) true ty).run Tryz.prog (w.iter s pos) = .ok (.tuple #[.bool true, .int .i64 pos, .int .i32 (c.toNat : Int)]) (w.iter s (pos + 1)) := fun ty => by
          rw [run_next_any w s pos ty hp, decode_ascii s pos hp (by rw [hc]; omega), hc]
        have h1 : ¬ ((c.toNat : Int) < 48) := by omega
        have h2 : ¬ ((57 : Int) < (c.toNat : Int)) := by omega
        clear hd
        go_wp2
        go_roundw
        case rel => exact ⟨pos + 1, rfl, rfl, by omega, good_step HGET.out (by simp [hd']) HG.out⟩
        case measure => simp; omega
      · have hd0 : digitB c = false := by simpa using hd
        have hn : numB (bs s) = false := bad_digit HGET.out hd0
        have HN := Lib.hid hn
        by_cases h128 : c.toNat < 128
        · have hnx : ∀ ty, (Instr.next (.pointer (some ⟨w.heap.size, 0, none⟩)) true ty).run Tryz.prog (w.iter s pos) = .ok (.tuple #[.bool true, .int .i64 pos, .int .i32 (c.toNat : Int)]) (w.iter s (pos + 1)) := fun ty => by
            rw [run_next_any w s pos ty hp, decode_ascii s pos hp (by rw [hc]; omega), hc]
          by_cases h48 : c.toNat < 48
          · have h1 : (c.toNat : Int) < 48 := by omega
            clear hd hd0 hn h128 h48
            go_wp2
            go_ret
            exact ⟨by rw [HN.out]; rfl, hbl _⟩
          · have h1 : ¬ ((c.toNat : Int) < 48) := by omega
            have h2 : (57 : Int) < (c.toNat : Int) := by
              simp only [digitB, Bool.and_eq_false_iff, decide_eq_false_iff_not] at hd0
              omega
            clear hd hd0 hn h128 h48
            go_wp2
            go_ret
            exact ⟨by rw [HN.out]; rfl, hbl _⟩
        · have hhi := (decode_high s pos hp (by rw [hc]; omega)).1
          have hnx : ∀ ty, (Instr.next (.pointer (some ⟨w.heap.size, 0, none⟩)) true ty).run Tryz.prog (w.iter s pos) = _ := fun ty => run_next_any w s pos ty hp
          have h1 : ¬ (((Utf8.decode s pos).1 : Int) < 48) := by omega
          have h2 : (57 : Int) < ((Utf8.decode s pos).1 : Int) := by omega
          clear hd hd0 hn h128 hhi
          go_wp2
          go_ret
          exact ⟨by rw [HN.out]; rfl, hbl _⟩
    · have hnx : ∀ ty, (Instr.next (.pointer (some ⟨w.heap.size, 0, none⟩)) true ty).run Tryz.prog (w.iter s pos) = _ := fun ty => run_next_end w s pos ty hp
      obtain rfl : pos = s.size := by omega
      have hall : (bs s).all digitB = true := good_all_digits (by rw [bs_length]; exact HG.out)
      have hnum : numB (bs s) = (!(bs s).isEmpty && decide (s.size ≤ 20)) := by simp [numB, hall]
      have HNUM := Lib.hid hnum
      clear hall hnum
      by_cases he : s.toList.isEmpty = true
      · have h0 := bs_empty he
        go_wp2
        go_ret
        exact ⟨by rw [HNUM.out, h0]; rfl, hbl _⟩
      · have he' : s.toList.isEmpty = false := by simpa using he
        have h0 := bs_some he'
        have h1 : (!(bs s).isEmpty) = true := by simpa using h0
        clear he
        by_cases h20 : s.size ≤ 20
        · have h2 : (s.size : Int) ≤ 20 := by omega
          go_wp2
          go_ret
          exact ⟨by rw [HNUM.out, h1]; simp [h20], hbl _⟩
        · have h2 : ¬ ((s.size : Int) ≤ 20) := by omega
          go_wp2
          go_ret
          exact ⟨by rw [HNUM.out, h1]; simp [h20], hbl _⟩

end Go.Proofs.YtddifbimlmkcbaaGreatDoor
namespace Go.Proofs.YtddifbimlmkcbaaGreatDoor
open Go.RowKit

/-- The library's variable ErrRange holds an error. -/
def HasErr (w : World) : Prop := ∃ tp p, w.var? Tryz.prog "strconv.ErrRange" = some #[.iface tp p]
theorem HasErr.below {w w' : World} (h : HasErr w) (hb : Below w.heap.size w w') : HasErr w' := by
  obtain ⟨tp, p, h⟩ := h
  have hg : Tryz.prog.globalNamed "strconv.ErrRange" = some 7 := by kernel_rfl
  have hc := World.var?_cell hg h 0
  exact ⟨tp, p, var?_below hb hg (cell_lt hc) h⟩

def parseV (l : List UInt8) : Value := match parseN l with | some u => .tuple #[.int .u64 u, .bool true] | none => .tuple #[.int .u64 0, .bool false]
theorem parseV_none {l : List UInt8} (h : parseN l = none) : parseV l = .tuple #[.int .u64 0, .bool false] := by simp [parseV, h]
theorem parseV_some {l : List UInt8} {u : Nat} (h : parseN l = some u) : parseV l = .tuple #[.int .u64 u, .bool true] := by simp [parseV, h]
theorem num_parse {l : List UInt8} (h : numB l = true) : (parseN l = none ∧ Lib.parseUintB 64 l = .range) ∨ ∃ u, parseN l = some u ∧ Lib.parseUintB 64 l = .ok u := by
  rw [parse_uint h]
  unfold parseN
  by_cases hd : dval 0 l < 18446744073709551616
  · right; exact ⟨_, by rw [if_pos ⟨h, hd⟩], by rw [if_pos hd]⟩
  · left; exact ⟨by rw [if_neg (by rintro ⟨_, h⟩; exact hd h)], by rw [if_neg hd]⟩
theorem num_size {s : ByteArray} (h : numB (bs s) = true) : s.size ≤ 20 := by
  rw [← bs_length]; exact num_short h
theorem parse_no {l : List UInt8} (h : numB l = false) : parseN l = none := by unfold parseN; rw [h]; simp

set_option maxHeartbeats 1000000 in
set_option maxRecDepth 100000 in
theorem parse_any (s : ByteArray) (w : World) (hE : HasErr w) :
    Calls Tryz.prog 124 #[.string s] w fun e w' => e = .returned (parseV (bs s)) ∧ Below w.heap.size w w' := by
  have HE := Lib.hid hE
  have HN := Lib.hid (number_any s w)
  clear hE
  by_cases hn : numB (bs s) = true
  · have hz := num_size hn
    rw [hn] at HN
    rcases num_parse hn with ⟨hp, hr⟩ | ⟨u, hp, hu⟩
    · have hv := parseV_none hp
      rw [hv]
      have HR := Lib.hid hr
      clear hr hn hv hp
      go_enter Tryz.func124, Tryz.ntmps124
      go_wp2_with fail
      refine HN.out.mono ?_
      rintro e w1 ⟨rfl, hb1⟩
      obtain ⟨tp, p, hvar⟩ := HE.out.below hb1
      have HV := Lib.hid hvar
      clear hvar
      go_wp2_with fail
      refine (Tryz.strconv_ParseUint_10_at64_range_var s (by omega) HR.out tp p w1 HV.out).mono ?_
      rintro e w2 ⟨N, rfl, _, _, hb2⟩
      go_wp2_with fail
      go_ret2
      exact ⟨rfl, hb1.trans (hb2.mono hb1.size)⟩
    · have hv := parseV_some hp
      rw [hv]
      have HR := Lib.hid hu
      clear hu hn hv hp
      go_enter Tryz.func124, Tryz.ntmps124
      go_wp2_with fail
      refine HN.out.mono ?_
      rintro e w1 ⟨rfl, hb1⟩
      go_wp2_with fail
      refine (Tryz.strconv_ParseUint_10_at64_ok s (by omega) u HR.out w1).mono ?_
      rintro e w2 ⟨rfl, hw2⟩
      have hb2 : Below w1.heap.size w1 w2 := by
        rcases hw2 with rfl | rfl
        · exact Below.refl _ _
        · exact Lib.bytesWorld_below _ _ _
      go_wp2_with fail
      go_ret2
      exact ⟨rfl, hb1.trans (hb2.mono hb1.size)⟩
  · have hn0 : numB (bs s) = false := by simpa using hn
    rw [hn0] at HN
    have hv := parseV_none (parse_no hn0)
    rw [hv]
    clear hn hn0 hv
    go_enter Tryz.func124, Tryz.ntmps124
    go_wp2_with fail
    refine HN.out.mono ?_
    rintro e w1 ⟨rfl, hb1⟩
    go_wp2_with fail
    go_ret2
    exact ⟨rfl, hb1⟩

def signedV (l : List UInt8) : Value := match signedN l with | some z => .tuple #[.int .i64 z, .bool true] | none => .tuple #[.int .i64 0, .bool false]
theorem signedV_none {l : List UInt8} (h : signedN l = none) : signedV l = .tuple #[.int .i64 0, .bool false] := by simp [signedV, h]
theorem signedV_some {l : List UInt8} {z : Int} (h : signedN l = some z) : signedV l = .tuple #[.int .i64 z, .bool true] := by simp [signedV, h]
theorem parse_at (l : List UInt8) (w : World) (hE : HasErr w) : Calls Tryz.prog 124 #[sv l] w fun e w' => e = .returned (parseV l) ∧ Below w.heap.size w w' := parse_any ⟨l.toArray⟩ w hE
theorem neg_wrap {u : Nat} (h : u ≤ 9223372036854775808) : IntKind.i64.wrap (IntKind.u64.wrap (-(u : Int))) = -(u : Int) := by
  rw [IntKind.wrap_u64, IntKind.wrap_i64]
  by_cases h0 : u = 0
  · subst h0; rfl
  · rw [show (-(u : Int)) % 18446744073709551616 = 18446744073709551616 - u from by omega]; omega

set_option maxHeartbeats 1000000 in
set_option maxRecDepth 100000 in
theorem parseSigned_any (s : ByteArray) (w : World) (hE : HasErr w) :
    Calls Tryz.prog 123 #[.string s] w fun e w' => e = .returned (signedV (bs s)) ∧ Below w.heap.size w w' := by
  have HE := Lib.hid hE
  clear hE
  by_cases h45 : ∃ r, bs s = 45 :: r
  · obtain ⟨r, hr⟩ := h45
    have hcut : ∀ W, Calls Tryz.prog 129 #[.string s, .string ⟨#[45]⟩] W fun e w' => e = .returned (.tuple #[sv r, .bool true]) ∧ w' = W := fun W => by
      have h := Tryz.strings_CutPrefix s ⟨#[45]⟩ W
      rw [show Lib.trimPrefix s.data.toList (⟨#[45]⟩ : ByteArray).data.toList = r from by rw [show s.data.toList = 45 :: r from hr]; simp [Lib.trimPrefix, Lib.hasPrefix], show Lib.hasPrefix s.data.toList (⟨#[45]⟩ : ByteArray).data.toList = true from by rw [show s.data.toList = 45 :: r from hr]; simp [Lib.hasPrefix]] at h
      exact h
    have hpar := fun W hW => parse_at r W hW
    have HC := Lib.hid hcut
    clear hcut
    rcases hp : parseN r with _ | u
    · rw [signedV_none (by rw [hr]; simp [signedN, hp])]
      rw [parseV_none hp] at hpar
      have HP := Lib.hid hpar
      clear hpar hp hr
      go_enter Tryz.func123, Tryz.ntmps123
      go_wp2_with fail
      refine (HC.out _).mono ?_
      rintro e w1 ⟨rfl, rfl⟩
      go_wp2_with fail
      refine (HP.out _ HE.out).mono ?_
      rintro e w1 ⟨rfl, hb1⟩
      go_wp2_with fail
      go_ret2
      exact ⟨rfl, hb1⟩
    · rw [parseV_some hp] at hpar
      have HP := Lib.hid hpar
      have hlt := parse_lt hp
      by_cases h63 : u ≤ 9223372036854775808
      · rw [signedV_some (z := -(u : Int)) (by rw [hr]; simp [signedN, hp, h63])]
        have hneg := neg_wrap h63
        have h1 : ¬ (9223372036854775808 : Int) < (u : Int) := by omega
        clear hpar hp hr hlt h63
        go_enter Tryz.func123, Tryz.ntmps123
        go_wp2_with fail
        refine (HC.out _).mono ?_
        rintro e w1 ⟨rfl, rfl⟩
        go_wp2_with fail
        refine (HP.out _ HE.out).mono ?_
        rintro e w1 ⟨rfl, hb1⟩
        go_wp2_with fail
        go_ret2
        exact ⟨rfl, hb1⟩
      · rw [signedV_none (by rw [hr]; simp [signedN, hp, h63])]
        have h1 : (9223372036854775808 : Int) < (u : Int) := by omega
        clear hpar hp hr hlt h63
        go_enter Tryz.func123, Tryz.ntmps123
        go_wp2_with fail
        refine (HC.out _).mono ?_
        rintro e w1 ⟨rfl, rfl⟩
        go_wp2_with fail
        refine (HP.out _ HE.out).mono ?_
        rintro e w1 ⟨rfl, hb1⟩
        go_wp2_with fail
        go_ret2
        exact ⟨rfl, hb1⟩
  · have hno : Lib.hasPrefix s.data.toList (⟨#[45]⟩ : ByteArray).data.toList = false := by
      rw [Bool.eq_false_iff]
      intro h
      cases hl : s.data.toList with
      | nil => rw [hl] at h; simp [Lib.hasPrefix] at h
      | cons c r =>
        rw [hl] at h
        have hc : c = 45 := by
          have h2 : (45 == c) = true := by simpa [Lib.hasPrefix] using h
          exact (beq_iff_eq.1 h2).symm
        exact h45 ⟨r, by rw [show bs s = c :: r from hl, hc]⟩
    have hcut : ∀ W, Calls Tryz.prog 129 #[.string s, .string ⟨#[45]⟩] W fun e w' => e = .returned (.tuple #[.string s, .bool false]) ∧ w' = W := fun W => by
      have h := Tryz.strings_CutPrefix s ⟨#[45]⟩ W
      rw [show Lib.trimPrefix s.data.toList (⟨#[45]⟩ : ByteArray).data.toList = s.data.toList from by rw [Lib.trimPrefix, hno]; rfl, hno] at h
      exact h
    have hsg := signed_plain (l := bs s) (fun r hr => h45 ⟨r, hr⟩)
    have hpar := fun W hW => parse_any s W hW
    have HC := Lib.hid hcut
    clear hcut hno h45
    rcases hp : parseN (bs s) with _ | u
    · rw [signedV_none (by rw [hsg, hp])]
      rw [parseV_none hp] at hpar
      have HP := Lib.hid hpar
      clear hpar hp hsg
      go_enter Tryz.func123, Tryz.ntmps123
      go_wp2_with fail
      refine (HC.out _).mono ?_
      rintro e w1 ⟨rfl, rfl⟩
      go_wp2_with fail
      refine (HP.out _ HE.out).mono ?_
      rintro e w1 ⟨rfl, hb1⟩
      go_wp2_with fail
      go_ret2
      exact ⟨rfl, hb1⟩
    · rw [parseV_some hp] at hpar
      have HP := Lib.hid hpar
      have hlt := parse_lt hp
      by_cases h63 : u < 9223372036854775808
      · rw [signedV_some (z := (u : Int)) (by rw [hsg, hp]; simp [h63])]
        have hneg : IntKind.i64.wrap (u : Int) = (u : Int) := IntWalk.i64_in _ (by omega)
        have h1 : ¬ (9223372036854775807 : Int) < (u : Int) := by omega
        clear hpar hp hsg hlt h63
        go_enter Tryz.func123, Tryz.ntmps123
        go_wp2_with fail
        refine (HC.out _).mono ?_
        rintro e w1 ⟨rfl, rfl⟩
        go_wp2_with fail
        refine (HP.out _ HE.out).mono ?_
        rintro e w1 ⟨rfl, hb1⟩
        go_wp2_with fail
        go_ret2
        exact ⟨rfl, hb1⟩
      · rw [signedV_none (by rw [hsg, hp]; simp [h63])]
        have h1 : (9223372036854775807 : Int) < (u : Int) := by omega
        clear hpar hp hsg hlt h63
        go_enter Tryz.func123, Tryz.ntmps123
        go_wp2_with fail
        refine (HC.out _).mono ?_
        rintro e w1 ⟨rfl, rfl⟩
        go_wp2_with fail
        refine (HP.out _ HE.out).mono ?_
        rintro e w1 ⟨rfl, hb1⟩
        go_wp2_with fail
        go_ret2
        exact ⟨rfl, hb1⟩

/-- One of 32 bits. -/
def parse32N (l : List UInt8) : Option Nat := match parseN l with | some u => if u < 4294967296 then some u else none | none => none
def parse32V (l : List UInt8) : Value := match parse32N l with | some u => .tuple #[.int .u32 u, .bool true] | none => .tuple #[.int .u32 0, .bool false]
theorem parse32V_none {l : List UInt8} (h : parse32N l = none) : parse32V l = .tuple #[.int .u32 0, .bool false] := by simp [parse32V, h]
theorem parse32V_some {l : List UInt8} {u : Nat} (h : parse32N l = some u) : parse32V l = .tuple #[.int .u32 u, .bool true] := by simp [parse32V, h]

set_option maxHeartbeats 1000000 in
set_option maxRecDepth 100000 in
theorem parse32_any (s : ByteArray) (w : World) (hE : HasErr w) :
    Calls Tryz.prog 122 #[.string s] w fun e w' => e = .returned (parse32V (bs s)) ∧ Below w.heap.size w w' := by
  have hpar := parse_any s w hE
  rcases hp : parseN (bs s) with _ | u
  · rw [parse32V_none (by simp [parse32N, hp])]
    rw [parseV_none hp] at hpar
    have HP := Lib.hid hpar
    clear hpar hp
    go_enter Tryz.func122, Tryz.ntmps122
    go_wp2_with fail
    refine HP.out.mono ?_
    rintro e w1 ⟨rfl, hb1⟩
    go_wp2_with fail
    go_ret2
    exact ⟨rfl, hb1⟩
  · rw [parseV_some hp] at hpar
    have HP := Lib.hid hpar
    by_cases h32 : u < 4294967296
    · rw [parse32V_some (u := u) (by simp [parse32N, hp, h32])]
      have hwr : IntKind.u32.wrap (u : Int) = (u : Int) := IntWalk.u32_in _ (by omega)
      have h1 : ¬ (4294967295 : Int) < (u : Int) := by omega
      clear hpar hp h32
      go_enter Tryz.func122, Tryz.ntmps122
      go_wp2_with fail
      refine HP.out.mono ?_
      rintro e w1 ⟨rfl, hb1⟩
      go_wp2_with fail
      go_ret2
      exact ⟨rfl, hb1⟩
    · rw [parse32V_none (by simp [parse32N, hp, h32])]
      have h1 : (4294967295 : Int) < (u : Int) := by omega
      clear hpar hp h32
      go_enter Tryz.func122, Tryz.ntmps122
      go_wp2_with fail
      refine HP.out.mono ?_
      rintro e w1 ⟨rfl, hb1⟩
      go_wp2_with fail
      go_ret2
      exact ⟨rfl, hb1⟩
end Go.Proofs.YtddifbimlmkcbaaGreatDoor
namespace Go.Proofs.YtddifbimlmkcbaaGreatDoor

/-- A command. -/
structure Cmd where
  verb : Nat
  keys : List (List UInt8)
  cverb : Nat
  key : List UInt8
  value : List UInt8
  flags : Nat
  exp : Int
  id : Nat
  by' : Nat
  bytes : Int
  quiet : Bool
def noCmd : Cmd := ⟨0, [], 0, [], [], 0, 0, 0, 0, 0, false⟩

def names : List (List UInt8) := [[103, 101, 116], [103, 101, 116, 115], [115, 101, 116], [97, 100, 100], [114, 101, 112, 108, 97, 99, 101], [99, 97, 115], [100, 101, 108, 101, 116, 101], [116, 111, 117, 99, 104], [105, 110, 99, 114], [100, 101, 99, 114], [102, 108, 117, 115, 104, 95, 97, 108, 108], [118, 101, 114, 115, 105, 111, 110], [113, 117, 105, 116]]
def noreply : List UInt8 := [110, 111, 114, 101, 112, 108, 121]
/-- The verb of a name; 0: none. -/
def verbOf (w : List UInt8) : Nat := match names.findIdx? (· == w) with | some i => i + 1 | none => 0
/-- How many words at least, at most; may it be quiet; are all words keys; the fields behind the key: 0 flags, 1 exp, 2 size, 3 id, 4 by. -/
def leastOf (v : Nat) : Nat := [0, 1, 1, 4, 4, 4, 5, 1, 2, 2, 2, 0, 0, 0].getD v 0
def mostOf (v : Nat) : Nat := [0, 64, 64, 4, 4, 4, 5, 1, 2, 2, 2, 1, 0, 0].getD v 0
def quietOf (v : Nat) : Bool := 3 ≤ v && v ≤ 11
def keysOf (v : Nat) : Bool := v == 1 || v == 2
def restOf (v : Nat) : List Nat := [[], [], [], [0, 1, 2], [0, 1, 2], [0, 1, 2], [0, 1, 2, 3], [], [1], [4], [4], [1], [], []].getD v []

/-- One word read into a field. -/
def readF (c : Cmd) (f : Nat) (w : List UInt8) : Cmd × Bool :=
  if f = 0 then ({ c with flags := (parse32N w).getD 0 }, (parse32N w).isSome)
  else if f = 1 then ({ c with exp := (signedN w).getD 0 }, (signedN w).isSome)
  else if f = 2 then ({ c with bytes := ((min ((parseN w).getD 0) 2147483647 : Nat) : Int) }, match parseN w with | some n => n ≤ 2147483647 | none => false)
  else if f = 3 then ({ c with id := (parseN w).getD 0 }, (parseN w).isSome)
  else ({ c with by' := (parseN w).getD 0 }, (parseN w).isSome)
/-- The words behind the key, field by field: the command, and what is told. -/
def readAll (c : Cmd) : List Nat → List (List UInt8) → Cmd × Nat
  | _, [] => (c, 0)
  | [], _ :: _ => (c, 2)
  | f :: fs, w :: ws => if (readF c f w).2 then readAll (readF c f w).1 fs ws else ((readF c f w).1, if f = 4 then 4 else 2)

/-- The words of a verb, behind its name, without a last noreply: the command, and what is told. -/
def parseW (v : Nat) (quiet : Bool) (l : List (List UInt8)) : Cmd × Nat :=
  let many := if keysOf v then l.length else min (leastOf v) 1
  let ks := l.take many
  if ks.any (fun k => !okB k) then (noCmd, 2)
  else
    let c : Cmd := ⟨v, ks, v, ks.headD [], [], 0, 0, 0, 0, -1, quiet⟩
    let r := readAll c (restOf v) (l.drop many)
    if r.2 ≠ 0 then (noCmd, r.2) else if 1024 < r.1.bytes then (r.1, 5) else (r.1, 0)
def isQuiet (v : Nat) (l : List (List UInt8)) : Bool := quietOf v && decide (leastOf v < l.length) && l.getLast? == some noreply
/-- A line. -/
def parseL (s : List UInt8) : Cmd × Nat :=
  if 2048 < s.length then (noCmd, 3)
  else match words s with
    | [] => (noCmd, 1)
    | name :: l =>
      let v := verbOf name
      let q := isQuiet v l
      let l' := if q then l.dropLast else l
      if v = 0 ∨ l'.length < leastOf v ∨ mostOf v < l'.length then (noCmd, 1) else parseW v q l'
end Go.Proofs.YtddifbimlmkcbaaGreatDoor
namespace Go.Proofs.YtddifbimlmkcbaaGreatDoor

/-- An event. -/
structure Ev where
  cmd : Cmd
  data : List UInt8
  told : Nat
def toldE (t : Nat) : Ev := ⟨noCmd, [], t⟩
/-- What a feed holds. -/
structure FSt where
  way : Nat
  held : List UInt8
  cmd : Cmd
  many : Nat
def fNew : FSt := ⟨0, [], noCmd, 0⟩
def trimCr (l : List UInt8) : List UInt8 := if l.getLast? = some 13 then l.dropLast else l
def beginF (st : FSt) (way : Nat) : FSt := { st with way := way, held := [] }
def fullF (st : FSt) : FSt := if st.cmd.bytes ≤ (st.held.length : Int) then { st with way := 2 } else st
def chunkF (st : FSt) (c : UInt8) : FSt × List Ev := (if c = 10 then beginF st 0 else beginF st 4, [toldE 6])
def lineF (st : FSt) (s : List UInt8) : FSt × List Ev :=
  let r := parseL s
  if r.2 = 5 then ({ beginF st 5 with many := r.1.bytes.toNat + 2 }, [toldE 5])
  else if r.2 = 0 then
    if 0 ≤ r.1.bytes then (fullF { beginF st 1 with cmd := r.1 }, [])
    else (beginF st 0, [⟨r.1, [], 0⟩])
  else (beginF st 0, [toldE r.2])
def gatherF (st : FSt) (c : UInt8) : FSt × List Ev :=
  if c = 10 then lineF st (trimCr st.held)
  else if st.held.length = 2048 then (beginF st 4, [toldE 3])
  else ({ st with held := st.held ++ [c] }, [])
/-- One byte. -/
def stepF (st : FSt) (c : UInt8) : FSt × List Ev :=
  if st.way = 0 then gatherF st c
  else if st.way = 1 then (fullF { st with held := st.held ++ [c] }, [])
  else if st.way = 2 then if c = 13 then ({ st with way := 3 }, []) else chunkF st c
  else if st.way = 3 then if c = 10 then (beginF st 0, [⟨st.cmd, st.held, 0⟩]) else chunkF st c
  else if st.way = 4 then (if c = 10 then beginF st 0 else st, [])
  else (if st.many - 1 = 0 then beginF { st with many := st.many - 1 } 0 else { st with many := st.many - 1 }, [])
def runF (st : FSt) : List UInt8 → FSt × List Ev
  | [] => (st, [])
  | c :: b => let r := stepF st c; let q := runF r.1 b; (q.1, r.2 ++ q.2)
def leftF (st : FSt) : Nat := if st.way = 3 then st.held.length + 1 else st.held.length
theorem runF_nil (st : FSt) : runF st [] = (st, []) := rfl
theorem runF_cons (st : FSt) (c : UInt8) (b : List UInt8) : runF st (c :: b) = ((runF (stepF st c).1 b).1, (stepF st c).2 ++ (runF (stepF st c).1 b).2) := rfl
theorem runF_append : ∀ (a b : List UInt8) (st : FSt), runF st (a ++ b) = ((runF (runF st a).1 b).1, (runF st a).2 ++ (runF (runF st a).1 b).2)
  | [], b, st => by simp [runF_nil]
  | c :: a, b, st => by
    rw [List.cons_append, runF_cons, runF_cons, runF_append a b]
    simp

/-! ### The document: all bytes, cut by definition -/
/-- Up to the first byte 10. -/
def line10 : List UInt8 → Nat
  | [] => 0
  | c :: b => if c = 10 then 0 else line10 b + 1
/-- Behind data of k bytes: the first byte that may be wrong. -/
def badOf (k : Nat) (rest : List UInt8) : Nat := if rest[k]? = some 13 then k + 1 else k
/-- A command with data of k bytes, behind its line of n bytes. -/
def dataD (n : Nat) (d : Cmd) (k : Nat) (rest : List UInt8) : List Ev × Option Nat × Nat :=
  if rest.length ≤ badOf k rest then ([], none, rest.length)
  else if badOf k rest = k + 1 ∧ rest[badOf k rest]? = some 10 then ([⟨d, rest.take k, 0⟩], some (n + 1 + badOf k rest), 0)
  else ([toldE 6], some (n + 1 + (badOf k rest + line10 (rest.drop (badOf k rest)))), 0)
/-- Behind a line of n bytes that says r: what is told, how many bytes the unit is, less one (none: it is not all there), how many bytes are held else. -/
def unitD (n : Nat) (r : Cmd × Nat) (rest : List UInt8) : List Ev × Option Nat × Nat :=
  if r.2 = 5 then (if rest.length < r.1.bytes.toNat + 2 then ([toldE 5], none, 0) else ([toldE 5], some (n + (r.1.bytes.toNat + 2)), 0))
  else if r.2 ≠ 0 then ([toldE r.2], some n, 0)
  else if r.1.bytes < 0 then ([⟨r.1, [], 0⟩], some n, 0)
  else dataD n r.1 r.1.bytes.toNat rest
theorem unitD_large (n : Nat) (d : Cmd) (q : List UInt8) : unitD n (d, 5) q = if q.length < d.bytes.toNat + 2 then ([toldE 5], none, 0) else ([toldE 5], some (n + (d.bytes.toNat + 2)), 0) := by unfold unitD; exact if_pos rfl
theorem unitD_told (n : Nat) (d : Cmd) {t : Nat} (q : List UInt8) (h5 : t ≠ 5) (h0 : t ≠ 0) : unitD n (d, t) q = ([toldE t], some n, 0) := by
  unfold unitD
  rw [if_neg (show ¬ (d, t).2 = 5 from h5), if_pos (show (d, t).2 ≠ 0 from h0)]
theorem unitD_plain (n : Nat) {d : Cmd} (q : List UInt8) (h : d.bytes < 0) : unitD n (d, 0) q = ([⟨d, [], 0⟩], some n, 0) := by
  unfold unitD
  rw [if_neg (show ¬ (d, 0).2 = 5 from (by decide : ¬ (0 : Nat) = 5)), if_neg (show ¬ (d, 0).2 ≠ 0 by simp), if_pos (show (d, 0).1.bytes < 0 from h)]
theorem unitD_data (n : Nat) {d : Cmd} (q : List UInt8) (h : ¬ d.bytes < 0) : unitD n (d, 0) q = dataD n d d.bytes.toNat q := by
  unfold unitD
  rw [if_neg (show ¬ (d, 0).2 = 5 from (by decide : ¬ (0 : Nat) = 5)), if_neg (show ¬ (d, 0).2 ≠ 0 by simp), if_neg (show ¬ (d, 0).1.bytes < 0 from h)]
/-- The first unit of bytes. -/
def unitR (b : List UInt8) : List Ev × Option Nat × Nat :=
  if 2048 < line10 b then ([toldE 3], some (line10 b), 0)
  else if line10 b = b.length then ([], none, b.length)
  else unitD (line10 b) (parseL (trimCr (b.take (line10 b)))) (b.drop (line10 b + 1))
/-- All events; how many bytes are held at the end. -/
def refEv : List UInt8 → List Ev × Nat
  | [] => ([], 0)
  | c :: b => match unitR (c :: b) with
    | (es, none, m) => (es, m)
    | (es, some k, _) => (es ++ (refEv (b.drop k)).1, (refEv (b.drop k)).2)
termination_by b => b.length
decreasing_by
  all_goals
    simp only [List.length_drop, List.length_cons]
    omega
theorem refEv_nil : refEv [] = ([], 0) := by rw [refEv]
theorem refEv_stop {c : UInt8} {b : List UInt8} {es : List Ev} {m : Nat} (hu : unitR (c :: b) = (es, none, m)) : refEv (c :: b) = (es, m) := by
  rw [refEv, hu]
theorem refEv_go {c : UInt8} {b : List UInt8} {es : List Ev} {k m : Nat} (hu : unitR (c :: b) = (es, some k, m)) : refEv (c :: b) = (es ++ (refEv (b.drop k)).1, (refEv (b.drop k)).2) := by
  rw [refEv, hu]
end Go.Proofs.YtddifbimlmkcbaaGreatDoor
namespace Go.Proofs.YtddifbimlmkcbaaGreatDoor

theorem line10_le : ∀ b : List UInt8, line10 b ≤ b.length
  | [] => Nat.le_refl _
  | c :: b => by
    rw [line10]
    split
    · omega
    · have := line10_le b
      simp only [List.length_cons]; omega
/-- Bytes without a 10, or up to the first one. -/
theorem line10_cut : ∀ b : List UInt8, (line10 b = b.length ∧ ∀ c ∈ b, c ≠ 10) ∨ ∃ p q, b = p ++ 10 :: q ∧ p.length = line10 b ∧ ∀ c ∈ p, c ≠ 10
  | [] => .inl ⟨rfl, by simp⟩
  | c :: b => by
    by_cases hc : c = 10
    · subst hc
      exact .inr ⟨[], b, rfl, by rw [line10, if_pos rfl]; rfl, by simp⟩
    · rcases line10_cut b with ⟨h1, h2⟩ | ⟨p, q, rfl, h2, h3⟩
      · refine .inl ⟨by rw [line10, if_neg hc, h1]; rfl, fun x hx => ?_⟩
        rcases List.mem_cons.1 hx with rfl | hx
        · exact hc
        · exact h2 x hx
      · refine .inr ⟨c :: p, q, rfl, by rw [line10, if_neg hc, ← h2]; rfl, fun x hx => ?_⟩
        rcases List.mem_cons.1 hx with rfl | hx
        · exact hc
        · exact h3 x hx
theorem line10_at {p q : List UInt8} (h : ∀ c ∈ p, c ≠ 10) : line10 (p ++ 10 :: q) = p.length := by
  induction p with
  | nil => rw [List.nil_append, line10, if_pos rfl]; rfl
  | cons c p ih =>
    rw [List.cons_append, line10, if_neg (h c (by simp)), ih (fun x hx => h x (by simp [hx]))]; rfl
theorem line10_none {p : List UInt8} (h : ∀ c ∈ p, c ≠ 10) : line10 p = p.length := by
  induction p with
  | nil => rfl
  | cons c p ih => rw [line10, if_neg (h c (by simp)), ih (fun x hx => h x (by simp [hx]))]; rfl

/-- A line that is gathered. -/
theorem run_gather : ∀ (b : List UInt8) (st : FSt), st.way = 0 → (∀ c ∈ b, c ≠ 10) → st.held.length + b.length ≤ 2048 → runF st b = ({ st with held := st.held ++ b }, [])
  | [], st, _, _, _ => by rw [runF_nil, List.append_nil]
  | c :: b, st, hw, hb, hl => by
    have hc := hb c (by simp)
    simp only [List.length_cons] at hl
    have hs : stepF st c = ({ st with held := st.held ++ [c] }, []) := by
      unfold stepF gatherF
      rw [if_pos hw, if_neg hc, if_neg (by omega)]
    rw [runF_cons, hs]
    have := run_gather b { st with held := st.held ++ [c] } hw (fun x hx => hb x (by simp [hx])) (by simp only [List.length_append, List.length_cons, List.length_nil]; omega)
    rw [this]
    simp
/-- A line that is swallowed. -/
theorem run_swallow : ∀ (b : List UInt8) (st : FSt), st.way = 4 → (∀ c ∈ b, c ≠ 10) → runF st b = (st, [])
  | [], st, _, _ => rfl
  | c :: b, st, hw, hb => by
    have hs : stepF st c = (st, []) := by
      unfold stepF
      rw [hw, if_neg (by decide), if_neg (by decide), if_neg (by decide), if_neg (by decide), if_pos rfl, if_neg (hb c (by simp))]
    rw [runF_cons, hs]
    have := run_swallow b st hw (fun x hx => hb x (by simp [hx]))
    rw [this]; rfl
/-- A line that is too long. -/
theorem run_long (b : List UInt8) (st : FSt) (hw : st.way = 0) (hb : ∀ c ∈ b, c ≠ 10) (hh : st.held.length ≤ 2048) (hl : 2048 < st.held.length + b.length) : runF st b = (beginF { st with held := [] } 4, [toldE 3]) := by
  have hcut : b = b.take (2048 - st.held.length) ++ b.drop (2048 - st.held.length) := (List.take_append_drop _ _).symm
  have hl1 : (b.take (2048 - st.held.length)).length = 2048 - st.held.length := by rw [List.length_take]; omega
  have hl2 : 0 < (b.drop (2048 - st.held.length)).length := by rw [List.length_drop]; omega
  have hb1 : ∀ c ∈ b.take (2048 - st.held.length), c ≠ 10 := fun c hc => hb c (List.mem_of_mem_take hc)
  have hb2 : ∀ c ∈ b.drop (2048 - st.held.length), c ≠ 10 := fun c hc => hb c (List.mem_of_mem_drop hc)
  generalize b.take (2048 - st.held.length) = p at *
  generalize b.drop (2048 - st.held.length) = q at *
  subst hcut
  rw [runF_append, run_gather p st hw hb1 (by omega)]
  cases q with
  | nil => simp at hl2
  | cons c q =>
    have hs : stepF { st with held := st.held ++ p } c = (beginF { st with held := [] } 4, [toldE 3]) := by
      unfold stepF gatherF
      rw [if_pos hw, if_neg (hb2 c (by simp)), if_pos (by show (st.held ++ p).length = 2048; rw [List.length_append]; omega)]
      rfl
    simp only
    rw [runF_cons, hs, run_swallow q _ rfl (fun x hx => hb2 x (by simp [hx]))]
    rfl
/-- Bytes that are swallowed one by one. -/
theorem run_many : ∀ (b : List UInt8) (st : FSt), st.way = 5 → st.held = [] → b.length < st.many → runF st b = ({ st with many := st.many - b.length }, [])
  | [], st, _, _, _ => rfl
  | c :: b, st, hw, hh, hl => by
    simp only [List.length_cons] at hl
    have hs : stepF st c = ({ st with many := st.many - 1 }, []) := by
      unfold stepF
      rw [hw, if_neg (by decide), if_neg (by decide), if_neg (by decide), if_neg (by decide), if_neg (by decide), if_neg (by omega)]
    rw [runF_cons, hs]
    have := run_many b { st with many := st.many - 1 } hw hh (by show b.length < st.many - 1; omega)
    rw [this]
    simp only [List.length_cons, List.nil_append, Prod.mk.injEq, and_true]
    rw [show st.many - 1 - b.length = st.many - (b.length + 1) from by omega]
theorem run_many_all (b : List UInt8) (st : FSt) (hw : st.way = 5) (hh : st.held = []) (h0 : 0 < st.many) (hl : b.length = st.many) : runF st b = (beginF { st with many := 0 } 0, []) := by
  have hne : b ≠ [] := by intro h; rw [h] at hl; simp at hl; omega
  have hcut := List.dropLast_concat_getLast hne
  generalize b.getLast hne = c at hcut
  clear hne
  have hl1 : b.dropLast.length = st.many - 1 := by rw [List.length_dropLast, hl]
  generalize b.dropLast = p at *
  subst hcut
  rw [runF_append, run_many p st hw hh (by omega)]
  simp only
  have hs : stepF { st with many := st.many - p.length } c = (beginF { st with many := 0 } 0, []) := by
    unfold stepF
    rw [hw, if_neg (by decide), if_neg (by decide), if_neg (by decide), if_neg (by decide), if_neg (by decide), if_pos (by show st.many - p.length - 1 = 0; omega)]
    simp only [Prod.mk.injEq, and_true]
    rw [show st.many - p.length - 1 = 0 from by omega]
  rw [runF_cons, hs]; rfl
/-- Data that is gathered. -/
theorem run_data : ∀ (b : List UInt8) (st : FSt), st.way = 1 → (st.held.length + b.length : Int) < st.cmd.bytes → runF st b = ({ st with held := st.held ++ b }, [])
  | [], st, _, _ => by rw [runF_nil, List.append_nil]
  | c :: b, st, hw, hl => by
    simp only [List.length_cons] at hl
    have hs : stepF st c = ({ st with held := st.held ++ [c] }, []) := by
      unfold stepF fullF
      rw [hw, if_neg (by decide), if_pos rfl, if_neg (by simp only [List.length_append, List.length_cons, List.length_nil]; omega)]
    rw [runF_cons, hs]
    have := run_data b { st with held := st.held ++ [c] } hw (by simp only [List.length_append, List.length_cons, List.length_nil]; omega)
    rw [this]
    simp
theorem run_data_all (b : List UInt8) (st : FSt) (hw : st.way = 1) (hh : st.held = []) (h0 : 0 < st.cmd.bytes) (hl : (b.length : Int) = st.cmd.bytes) : runF st b = ({ st with way := 2, held := b }, []) := by
  have hne : b ≠ [] := by intro h; rw [h] at hl; simp at hl; omega
  have hcut := List.dropLast_concat_getLast hne
  generalize b.getLast hne = c at hcut
  clear hne
  have hl1 : (b.dropLast.length : Int) = st.cmd.bytes - 1 := by rw [List.length_dropLast]; omega
  generalize b.dropLast = p at *
  subst hcut
  rw [runF_append, run_data p st hw (by rw [hh]; simp only [List.length_nil]; omega)]
  simp only
  have hs : stepF { st with held := st.held ++ p } c = ({ st with way := 2, held := p ++ [c] }, []) := by
    unfold stepF fullF
    rw [hw, if_neg (by decide), if_pos rfl, if_pos (by rw [hh]; simp only [List.nil_append, List.length_append, List.length_cons, List.length_nil]; omega)]
    rw [hh]; rfl
  rw [runF_cons, hs]; rfl

/-- At a line's begin, whatever else is held, the rest of the bytes tells what the document has of them. -/
def Tells (st : FSt) (b : List UInt8) : Prop := (runF st b).2 = (refEv b).1 ∧ leftF (runF st b).1 = (refEv b).2
theorem tells_nil {st : FSt} (hw : st.way = 0) (hh : st.held = []) : Tells st [] := by
  unfold Tells leftF
  rw [refEv_nil, runF_nil]
  refine ⟨rfl, ?_⟩
  simp only
  rw [hw, hh, if_neg (by decide)]; rfl
/-- A unit that is all there. -/
theorem tells_unit {st : FSt} {c : UInt8} {b q : List UInt8} {es : List Ev} {k m : Nat} {st' : FSt} {p : List UInt8} (hu : unitR (c :: b) = (es, some k, m)) (hb : c :: b = p ++ q) (hp : p.length = k + 1) (hr : runF st p = (st', es)) (h : Tells st' q) : Tells st (c :: b) := by
  have hd : b.drop k = q := by
    have h1 : (c :: b).drop (k + 1) = q := by rw [hb, ← hp, List.drop_left]
    rwa [List.drop_succ_cons] at h1
  unfold Tells
  rw [refEv_go hu, hd, hb, runF_append, hr]
  exact ⟨congrArg (es ++ ·) h.1, h.2⟩
/-- A unit that is not all there. -/
theorem tells_stop {st : FSt} {c : UInt8} {b : List UInt8} {es : List Ev} {m : Nat} {st' : FSt} (hu : unitR (c :: b) = (es, none, m)) (hr : runF st (c :: b) = (st', es)) (hl : leftF st' = m) : Tells st (c :: b) := by
  unfold Tells
  rw [refEv_stop hu, hr]
  exact ⟨rfl, hl⟩
/-- Units that end behind the end: nothing is left. -/
theorem tells_over {st : FSt} {c : UInt8} {b : List UInt8} {es : List Ev} {k m : Nat} {st' : FSt} (hu : unitR (c :: b) = (es, some k, m)) (hk : b.length ≤ k) (hr : runF st (c :: b) = (st', es)) (hl : leftF st' = 0) : Tells st (c :: b) := by
  unfold Tells
  rw [refEv_go hu, List.drop_eq_nil_of_le hk, refEv_nil, hr, List.append_nil]
  exact ⟨rfl, hl⟩
theorem left_held {st : FSt} (h : st.way ≠ 3) : leftF st = st.held.length := by unfold leftF; rw [if_neg h]
theorem step10 {st : FSt} (hw : st.way = 0) : stepF st 10 = lineF st (trimCr st.held) := by
  unfold stepF gatherF
  rw [if_pos hw, if_pos rfl]
theorem step2 {st : FSt} {c : UInt8} (hw : st.way = 2) (h : c ≠ 13) : stepF st c = chunkF st c := by
  unfold stepF
  rw [hw, if_neg (by decide), if_neg (by decide), if_pos rfl, if_neg h]
theorem step3 {st : FSt} {c : UInt8} (hw : st.way = 3) (h : c ≠ 10) : stepF st c = chunkF st c := by
  unfold stepF
  rw [hw, if_neg (by decide), if_neg (by decide), if_neg (by decide), if_pos rfl, if_neg h]
theorem run_one (st : FSt) (c : UInt8) : runF st [c] = ((stepF st c).1, (stepF st c).2) := by rw [runF_cons, runF_nil, List.append_nil]
theorem feed_tells : ∀ (n : Nat) (b : List UInt8), b.length ≤ n → ∀ st : FSt, st.way = 0 → st.held = [] → Tells st b
  | 0, b, hb, st, hw, hh => by
    obtain rfl : b = [] := List.eq_nil_of_length_eq_zero (by omega)
    exact tells_nil hw hh
  | n + 1, [], _, st, hw, hh => tells_nil hw hh
  | n + 1, c :: b, hb, st, hw, hh => by
    have ih := feed_tells n
    rcases line10_cut (c :: b) with ⟨h1, h2⟩ | ⟨p, q, hpq, hpl, hp⟩
    · by_cases hl : 2048 < (c :: b).length
      · have hu : unitR (c :: b) = ([toldE 3], some (c :: b).length, 0) := by unfold unitR; rw [h1, if_pos hl]
        exact tells_over hu (by simp) (run_long _ st hw h2 (by rw [hh]; simp) (by rw [hh]; simpa using hl)) rfl
      · have hu : unitR (c :: b) = ([], none, (c :: b).length) := by unfold unitR; rw [h1, if_neg hl, if_pos rfl]
        have hr := run_gather (c :: b) st hw h2 (by rw [hh]; simp only [List.length_nil]; omega)
        rw [hh, List.nil_append] at hr
        refine tells_stop hu hr ?_
        rw [left_held (by show st.way ≠ 3; rw [hw]; decide)]
    · have hlen : (c :: b).length = p.length + 1 + q.length := by rw [hpq]; simp; omega
      have hqn : q.length ≤ n := by omega
      have htk : (c :: b).take p.length = p := by rw [hpq]; simp
      have hdr : (c :: b).drop (p.length + 1) = q := by rw [hpq]; simp
      by_cases hl : 2048 < p.length
      · have hu : unitR (c :: b) = ([toldE 3], some p.length, 0) := by unfold unitR; rw [← hpl, if_pos hl]
        refine tells_unit (p := p ++ [10]) (q := q) (st' := beginF (beginF { st with held := [] } 4) 0) hu (by rw [hpq]; simp) (by simp) ?_ (ih q hqn _ rfl rfl)
        rw [runF_append, run_long p st hw hp (by rw [hh]; simp) (by rw [hh]; simpa using hl)]
        simp only
        rw [run_one]; rfl
      · have hr := run_gather p st hw hp (by rw [hh]; simp only [List.length_nil]; omega)
        rw [hh, List.nil_append] at hr
        have hst : stepF { st with held := p } 10 = lineF { st with held := p } (trimCr p) := step10 hw
        have hrun : runF st (p ++ [10]) = lineF { st with held := p } (trimCr p) := by rw [runF_append, hr]; simp only; rw [run_one, hst]; simp
        have hne : ¬ p.length = (c :: b).length := by omega
        have hrest : unitR (c :: b) = unitD p.length (parseL (trimCr p)) q := by
          unfold unitR
          rw [← hpl, if_neg hl, if_neg hne, htk, hdr]
        unfold lineF at hrun
        simp only at hrun
        generalize parseL (trimCr p) = r at *
        obtain ⟨d, t⟩ := r
        simp only at hrun hrest
        have hall : c :: b = (p ++ [10]) ++ q := by rw [hpq]; simp
        by_cases h5 : t = 5
        · subst h5
          rw [if_pos rfl] at hrun
          by_cases hq : q.length < d.bytes.toNat + 2
          · have hu := hrest.trans (unitD_large _ _ _)
            rw [if_pos hq] at hu
            refine tells_stop hu (st' := { beginF { st with held := p } 5 with many := d.bytes.toNat + 2 - q.length }) ?_ rfl
            rw [hall, runF_append, hrun]
            simp only
            rw [run_many q _ rfl rfl hq]; rfl
          · have hu := hrest.trans (unitD_large _ _ _)
            rw [if_neg hq] at hu
            have hq1 : (q.take (d.bytes.toNat + 2)).length = d.bytes.toNat + 2 := by rw [List.length_take]; omega
            refine tells_unit (p := (p ++ [10]) ++ q.take (d.bytes.toNat + 2)) (q := q.drop (d.bytes.toNat + 2)) (st' := beginF { beginF { st with held := p } 5 with many := 0 } 0) hu (by rw [hall, List.append_assoc, List.append_assoc, List.append_assoc, List.take_append_drop]) (by simp only [List.length_append, hq1, List.length_cons, List.length_nil]; omega) ?_ (ih _ (by rw [List.length_drop]; omega) _ rfl rfl)
            rw [runF_append, hrun]
            simp only
            rw [run_many_all _ _ rfl rfl (by show 0 < d.bytes.toNat + 2; omega) hq1]; rfl
        · rw [if_neg h5] at hrun
          by_cases h0 : t = 0
          · subst h0
            rw [if_pos rfl] at hrun
            by_cases hby : 0 ≤ d.bytes
            · rw [if_pos hby] at hrun
              have hu := hrest.trans (unitD_data _ _ (by omega))
              have hk : ((d.bytes.toNat : Nat) : Int) = d.bytes := by omega
              generalize hkk : d.bytes.toNat = k at *
              -- the data that is there
              have hdat : ∀ q1 : List UInt8, q1.length = k → runF st (p ++ [10] ++ q1) = ({ beginF { st with held := p } 2 with cmd := d, held := q1 }, []) := fun q1 h1 => by
                rw [runF_append, hrun]
                simp only
                by_cases h0 : k = 0
                · obtain rfl : q1 = [] := List.eq_nil_of_length_eq_zero (by omega)
                  unfold fullF
                  rw [if_pos (by show d.bytes ≤ (([] : List UInt8).length : Int); simp only [List.length_nil]; omega), runF_nil]; rfl
                · unfold fullF
                  rw [if_neg (by show ¬ d.bytes ≤ (([] : List UInt8).length : Int); simp only [List.length_nil]; omega)]
                  rw [run_data_all q1 _ rfl rfl (by show 0 < d.bytes; omega) (by show (q1.length : Int) = d.bytes; omega)]; rfl
              by_cases hqk : q.length < k
              · have hbad : badOf k q = k := by unfold badOf; rw [List.getElem?_eq_none (by omega)]; rfl
                unfold dataD at hu
                rw [hbad, if_pos (by omega)] at hu
                refine tells_stop hu (st' := { beginF { st with held := p } 1 with cmd := d, held := q }) ?_ ?_
                · rw [hall, runF_append, hrun]
                  simp only
                  unfold fullF
                  rw [if_neg (by show ¬ d.bytes ≤ (([] : List UInt8).length : Int); simp only [List.length_nil]; omega)]
                  rw [run_data q _ rfl (by show (([] : List UInt8).length + q.length : Int) < d.bytes; simp only [List.length_nil]; omega)]; rfl
                · rw [left_held (by show (1 : Nat) ≠ 3; decide)]
              · have hq1 : (q.take k).length = k := by rw [List.length_take]; omega
                have hqq := (List.take_append_drop k q).symm
                have hrd := hdat _ hq1
                generalize q.take k = q1 at *
                generalize q.drop k = q2 at *
                subst hqq
                rw [List.length_append] at hqn hqk hlen
                cases q2 with
                | nil =>
                  rw [List.append_nil] at *
                  have hbad : badOf k q1 = k := by unfold badOf; rw [List.getElem?_eq_none (by omega)]; rfl
                  unfold dataD at hu
                  rw [hbad, if_pos (by omega)] at hu
                  refine tells_stop hu (st' := _) (by rw [hall]; exact hrd) ?_
                  rw [left_held (by show (2 : Nat) ≠ 3; decide)]
                | cons x q3 =>
                  have hx : (q1 ++ x :: q3)[k]? = some x := by rw [List.getElem?_append_right (by omega), hq1, Nat.sub_self]; rfl
                  simp only [List.length_cons] at hqn hlen
                  by_cases h13 : x = 13
                  · subst h13
                    have hbad : badOf k (q1 ++ 13 :: q3) = k + 1 := by unfold badOf; rw [hx, if_pos rfl]
                    have hs13 : runF st (p ++ [10] ++ q1 ++ [13]) = ({ beginF { st with held := p } 3 with cmd := d, held := q1 }, []) := by
                      rw [runF_append, hrd]; simp only; rw [run_one]; rfl
                    unfold dataD at hu
                    rw [hbad] at hu
                    cases q3 with
                    | nil =>
                      rw [if_pos (by simp; omega)] at hu
                      refine tells_stop hu (st' := _) (by rw [hall, ← List.append_assoc]; exact hs13) ?_
                      show q1.length + 1 = _
                      simp
                    | cons y q4 =>
                      have hy : (q1 ++ 13 :: y :: q4)[k + 1]? = some y := by rw [List.getElem?_append_right (by omega), hq1, Nat.add_sub_cancel_left]; rfl
                      have htk1 : (q1 ++ 13 :: y :: q4).take k = q1 := by rw [← hq1, List.take_left]
                      have hdk1 : (q1 ++ 13 :: y :: q4).drop (k + 1) = y :: q4 := by rw [← hq1, List.drop_append]; simp
                      simp only [List.length_cons] at hqn hlen
                      rw [if_neg (by simp; omega), hy, htk1, hdk1] at hu
                      by_cases hy10 : y = 10
                      · subst hy10
                        rw [if_pos ⟨rfl, rfl⟩] at hu
                        refine tells_unit (p := p ++ [10] ++ q1 ++ [13] ++ [10]) (q := q4) (st' := beginF { beginF { st with held := p } 3 with cmd := d, held := q1 } 0) hu (by rw [hall]; simp) (by simp; omega) ?_ (ih q4 (by omega) _ rfl rfl)
                        rw [runF_append, hs13]; simp only; rw [run_one]; rfl
                      · rw [if_neg (by rintro ⟨_, h⟩; exact hy10 (by simpa using h))] at hu
                        have hs14 : runF st (p ++ [10] ++ q1 ++ [13] ++ [y]) = (beginF { beginF { st with held := p } 3 with cmd := d, held := q1 } 4, [toldE 6]) := by
                          rw [runF_append, hs13]; simp only; rw [run_one, step3 rfl hy10]
                          unfold chunkF
                          rw [if_neg hy10]; rfl
                        rcases line10_cut (y :: q4) with ⟨e1, e2⟩ | ⟨p5, q5, e1, e2, e3⟩
                        · rw [e1] at hu
                          refine tells_over hu (by simp only [List.length_cons] at *; omega) (st' := _) ?_ (show leftF (beginF { beginF { st with held := p } 3 with cmd := d, held := q1 } 4) = 0 from rfl)
                          rw [hall, show p ++ [10] ++ (q1 ++ 13 :: y :: q4) = (p ++ [10] ++ q1 ++ [13] ++ [y]) ++ q4 from by simp, runF_append, hs14]
                          simp only
                          rw [run_swallow q4 _ rfl (fun z hz => e2 z (by simp [hz]))]; rfl
                        · cases p5 with
                          | nil => exact absurd (List.cons.inj e1).1 hy10
                          | cons z p5 =>
                            simp only [List.cons_append, List.cons.injEq] at e1
                            obtain ⟨rfl, rfl⟩ := e1
                            rw [← e2] at hu
                            simp only [List.length_cons, List.length_append] at *
                            refine tells_unit (p := p ++ [10] ++ q1 ++ [13] ++ [y] ++ p5 ++ [10]) (q := q5) (st' := beginF (beginF { beginF { st with held := p } 3 with cmd := d, held := q1 } 4) 0) hu (by rw [hall]; simp) (by simp; omega) ?_ (ih q5 (by omega) _ rfl rfl)
                            rw [runF_append, runF_append, hs14]
                            simp only
                            rw [run_swallow p5 _ rfl (fun w hw => e3 w (by simp [hw]))]
                            simp only
                            rw [run_one]; rfl
                  · have hbad : badOf k (q1 ++ x :: q3) = k := by unfold badOf; rw [hx, if_neg (by simpa using h13)]
                    have hdk1 : (q1 ++ x :: q3).drop k = x :: q3 := by rw [← hq1, List.drop_left]
                    unfold dataD at hu
                    rw [hbad, if_neg (by simp; omega), if_neg (by rintro ⟨h, _⟩; omega), hdk1] at hu
                    have hs14 : runF st (p ++ [10] ++ q1 ++ [x]) = (if x = 10 then beginF { beginF { st with held := p } 2 with cmd := d, held := q1 } 0 else beginF { beginF { st with held := p } 2 with cmd := d, held := q1 } 4, [toldE 6]) := by
                      rw [runF_append, hrd]; simp only; rw [run_one, step2 rfl h13]
                      rfl
                    rcases line10_cut (x :: q3) with ⟨e1, e2⟩ | ⟨p5, q5, e1, e2, e3⟩
                    · have hx10 : x ≠ 10 := e2 x (by simp)
                      rw [if_neg hx10] at hs14
                      rw [e1] at hu
                      refine tells_over hu (by simp only [List.length_cons] at *; omega) (st' := _) ?_ (show leftF (beginF { beginF { st with held := p } 2 with cmd := d, held := q1 } 4) = 0 from rfl)
                      rw [hall, show p ++ [10] ++ (q1 ++ x :: q3) = (p ++ [10] ++ q1 ++ [x]) ++ q3 from by simp, runF_append, hs14]
                      simp only
                      rw [run_swallow q3 _ rfl (fun z hz => e2 z (by simp [hz]))]; rfl
                    · rw [← e2] at hu
                      cases p5 with
                      | nil =>
                        obtain ⟨rfl, rfl⟩ := List.cons.inj e1
                        rw [if_pos rfl] at hs14
                        exact tells_unit (p := p ++ [10] ++ q1 ++ [10]) (q := q3) hu (by rw [hall]; simp) (by simp; omega) hs14 (ih q3 (by omega) _ rfl rfl)
                      | cons z p5 =>
                        simp only [List.cons_append, List.cons.injEq] at e1
                        obtain ⟨rfl, rfl⟩ := e1
                        have hx10 : x ≠ 10 := e3 x (by simp)
                        rw [if_neg hx10] at hs14
                        simp only [List.length_cons, List.length_append] at *
                        refine tells_unit (p := p ++ [10] ++ q1 ++ [x] ++ p5 ++ [10]) (q := q5) (st' := beginF (beginF { beginF { st with held := p } 2 with cmd := d, held := q1 } 4) 0) hu (by rw [hall]; simp) (by simp; omega) ?_ (ih q5 (by omega) _ rfl rfl)
                        rw [runF_append, runF_append, hs14]
                        simp only
                        rw [run_swallow p5 _ rfl (fun w hw => e3 w (by simp [hw]))]
                        simp only
                        rw [run_one]; rfl
            · rw [if_neg hby] at hrun
              have hu := hrest.trans (unitD_plain _ _ (by omega))
              exact tells_unit (p := p ++ [10]) (q := q) hu hall (by simp) hrun (ih q hqn _ rfl rfl)
          · rw [if_neg h0] at hrun
            have hu := hrest.trans (unitD_told _ _ _ h5 h0)
            exact tells_unit (p := p ++ [10]) (q := q) hu hall (by simp) hrun (ih q hqn _ rfl rfl)
/-- All bytes that came: the events, how many are held. -/
theorem feed_all (b : List UInt8) : (runF fNew b).2 = (refEv b).1 ∧ leftF (runF fNew b).1 = (refEv b).2 := feed_tells b.length b (Nat.le_refl _) fNew rfl rfl
/-- More bytes tell more events. -/
theorem feed_more (a b : List UInt8) : (refEv (a ++ b)).1 = (refEv a).1 ++ (runF (runF fNew a).1 b).2 ∧ (refEv (a ++ b)).2 = leftF (runF (runF fNew a).1 b).1 := by
  have h := feed_all (a ++ b)
  rw [runF_append] at h
  rw [← h.1, ← h.2, (feed_all a).1]
  exact ⟨rfl, rfl⟩
end Go.Proofs.YtddifbimlmkcbaaGreatDoor
namespace Go.Proofs.YtddifbimlmkcbaaGreatDoor
theorem dataD_short {n : Nat} {d : Cmd} {k : Nat} {rest : List UInt8} (h : rest.length ≤ k) : dataD n d k rest = ([], none, rest.length) := by
  have hx : rest[k]? = none := List.getElem?_eq_none h
  have hb : badOf k rest = k := by unfold badOf; rw [hx]; rfl
  unfold dataD
  rw [hb, if_pos h]
theorem badD_cr {k : Nat} {rest : List UInt8} (h : rest[k]? = some 13) : badOf k rest = k + 1 := by unfold badOf; rw [if_pos h]
theorem badD_no {k : Nat} {rest : List UInt8} {x : UInt8} (h : rest[k]? = some x) (hx : x ≠ 13) : badOf k rest = k := by unfold badOf; rw [if_neg (by rw [h]; exact fun e => hx (Option.some.inj e))]
theorem dataD_cr_short {n : Nat} {d : Cmd} {k : Nat} {rest : List UInt8} (hx : rest[k]? = some 13) (h : rest.length ≤ k + 1) : dataD n d k rest = ([], none, rest.length) := by
  unfold dataD
  rw [badD_cr hx, if_pos h]
theorem dataD_ok {n : Nat} {d : Cmd} {k : Nat} {rest : List UInt8} (hx : rest[k]? = some 13) (hy : rest[k + 1]? = some 10) : dataD n d k rest = ([⟨d, rest.take k, 0⟩], some (n + 1 + (k + 1)), 0) := by
  have hl : k + 1 < rest.length := (List.getElem?_eq_some_iff.1 hy).1
  unfold dataD
  rw [badD_cr hx, if_neg (by omega), if_pos ⟨rfl, hy⟩]
theorem dataD_bad2 {n : Nat} {d : Cmd} {k : Nat} {rest : List UInt8} {y : UInt8} (hx : rest[k]? = some 13) (hy : rest[k + 1]? = some y) (h : y ≠ 10) : dataD n d k rest = ([toldE 6], some (n + 1 + ((k + 1) + line10 (rest.drop (k + 1)))), 0) := by
  have hl : k + 1 < rest.length := (List.getElem?_eq_some_iff.1 hy).1
  unfold dataD
  rw [badD_cr hx, if_neg (by omega), if_neg (fun e => by rw [hy] at e; exact h (Option.some.inj e.2))]
theorem dataD_bad1 {n : Nat} {d : Cmd} {k : Nat} {rest : List UInt8} {x : UInt8} (hx : rest[k]? = some x) (h : x ≠ 13) : dataD n d k rest = ([toldE 6], some (n + 1 + (k + line10 (rest.drop k))), 0) := by
  have hl : k < rest.length := (List.getElem?_eq_some_iff.1 hx).1
  unfold dataD
  rw [badD_no hx h, if_neg (by omega), if_neg (fun e => by omega)]
end Go.Proofs.YtddifbimlmkcbaaGreatDoor
