/- Texts of numbers: nums.Text, strconv.FormatUint at base 10, the reference's Text: each is the number's decimal digits. Condition: the table of the powers of ten lies as the library lays it. Plain: the value of a text of digits, texts of numbers, their order, what is a number's text. No condition. nums.number, Incr, Decr and the reference's; a text of digits. No condition. nums.Parse and the reference's: at any text. Condition: the library's variable ErrRange holds an error. -/
import Derived.Test.YtaooangnnlopcaaGreatDoorLowA
import Derived.Test.YtaooangnnlopcaaGreatDoorShelf
import Derived.Lib.ItoaMem
import Derived.Lib.ParseIntB
import Derived.Laws.RangeAny
import Derived.Lib.SmallJoins
import Derived.Lib.AtoiErrMem
namespace Go.Proofs.YtaooangnnlopcaaGreatDoor
open Go.RowKit Go.Sort

/-- The library's table of the powers of ten. -/
def HasPow (w : World) : Prop := Lib.TabIs Tryz.prog w "internal/strconv.uint64pow10" .u64 Lib.pow10Tab
theorem HasPow.below {w w' : World} (h : HasPow w) (hb : Below w.heap.size w w') : HasPow w' := by
  have hg : Tryz.prog.globalNamed "internal/strconv.uint64pow10" = some 2 := by kernel_rfl
  have hc := h.cell hg 0 (by decide)
  exact var?_below hb hg (cell_lt hc) h

theorem holds0 (w : World) (T : TypeId) (nd : Nat) (hs : nd ≤ 24) : Holds (fun (b : UInt8) => Value.int .u8 (b.toNat : Int)) (w.alloc (.cells Lib.zeros24 T)) w.heap.size 0 (Array.replicate nd (0 : UInt8)) := fun j hj => by
  have hj' : j < nd := by simpa using hj
  refine ⟨?_, World.frozen?_alloc_new _ _ _ _⟩
  rw [World.cell?_alloc_new, Lib.zeros24_at _ (by omega), getElem!_pos _ j hj]
  simp
theorem below_fin (w : World) (o : Obj) (dk : Array UInt8) (k : Nat) : Below w.heap.size w ((putRow (fun (b : UInt8) => Value.int .u8 (b.toNat : Int)) (w.alloc o) w.heap.size 0 dk).drewN k) := by
  rw [alloc_eq_grow]
  obtain ⟨os', _, e⟩ := putRow_grow_new (fun (b : UInt8) => Value.int .u8 (b.toNat : Int)) w #[o] w.heap.size 0 dk (Nat.le_refl _)
  rw [e]
  have hb : Below w.heap.size w (grow w os') := ⟨rfl, rfl, rfl, by simp [grow], fun i hi => heap_grow_old w os' hi⟩
  exact below_drewN hb k

set_option maxHeartbeats 2000000 in
set_option maxRecDepth 100000 in
theorem formatUint_in (u : Nat) (hu : u < 18446744073709551616) (w : World) (hP : HasPow w) :
    Calls Tryz.prog 112 #[.int .u64 u, .int .i64 10] w fun e w' => e = .returned (sv (Lib.decDigits u)) ∧ Below w.heap.size w w' := by
  have HP := Lib.hid hP
  clear hP
  by_cases hs : u < 100
  · go_enter Tryz.func112, Tryz.ntmps112
    go_wp2_with fail
    refine (Tryz.internal_strconv_small u hs _).mono ?_
    rintro e w1 ⟨rfl, hw⟩
    rw [hw]
    go_wp2_with fail
    go_ret
    exact ⟨rfl, Below.refl _ _⟩
  · have hu1 : 1 ≤ u := by omega
    have hnd20 : Lib.nDigits u ≤ 20 := by have := Lib.numDigits_eq u hu1 hu; split at this <;> omega
    have hal : Tryz.prog.arrayLen 168 = 24 := by simp [Program.arrayLen, Tryz.underlying168]
    have hsl1 : ∀ W, (Instr.sliceAt 168 (.pointer (some ⟨w.heap.size, 0, none⟩)) none (some (.int .i64 (Lib.nDigits u : Int))) none).run Tryz.prog W = .ok (.slice (some ⟨w.heap.size, 0, none⟩) (Lib.nDigits u) 24) W := fun W => by
      rw [run_sliceAt_array_h W 168 ⟨w.heap.size, 0, none⟩ (by simp [Program.arrayLen, Program.elem, Tryz.underlying168]) .i64 (Lib.nDigits u : Int) (by omega) (by rw [hal]; omega)]
      go_simp
    have hH0 := holds0 w 168 (Lib.nDigits u) (by omega)
    have hfmt := Tryz.internal_strconv_formatBase10 w.heap.size 0 24 u (Array.replicate (Lib.nDigits u) 0) (w.alloc (.cells Lib.zeros24 168)) hH0 (by rw [Array.size_replicate]; exact Lib.lt_pow_nDigits u) hu (by rw [Array.size_replicate]; omega)
    rw [Array.size_replicate] at hfmt
    have HH0 := Lib.hid hH0
    have HF := Lib.hid hfmt
    clear hH0 hal hfmt
    go_enter Tryz.func112, Tryz.ntmps112
    go_wp2_with fail
    refine (Tryz.internal_strconv_numDigits u hu1 hu _ (Lib.tabIs_alloc HP.out _)).mono ?_
    rintro e w1 ⟨rfl, rfl⟩
    go_wp2_with fail
    refine HF.out.mono ?_
    rintro e w1 ⟨rfl, k, v', dk, rfl, hF⟩
    have hcv : (convert 163 9 (.slice (some ⟨w.heap.size, 0, none⟩) (Lib.nDigits u) 24)).run Tryz.prog ((putRow (fun (b : UInt8) => Value.int .u8 (b.toNat : Int)) (w.alloc (.cells Lib.zeros24 168)) w.heap.size 0 dk).drewN k) = .ok (sv (Lib.decDigits u)) ((putRow (fun (b : UInt8) => Value.int .u8 (b.toNat : Int)) (w.alloc (.cells Lib.zeros24 168)) w.heap.size 0 dk).drewN k) := by
      have h := run_convert_bytes_back (P := Tryz.prog) ((putRow (fun (b : UInt8) => Value.int .u8 (b.toNat : Int)) (w.alloc (.cells Lib.zeros24 168)) w.heap.size 0 dk).drewN k) 163 9 5 ⟨w.heap.size, 0, none⟩ 24 (Lib.decDigits u) Tryz.underlying163 Tryz.underlying5 Tryz.underlying9 (fun j hj => by
        rw [Lib.row_is_numeral hF j hj, Lib.add_plain, World.cell?_drewN]
        exact cell?_putRow (fun (b : UInt8) => Value.int .u8 (b.toNat : Int)) _ w.heap.size 0 _ dk HH0.out (by rw [hF.size, Array.size_replicate]) j (by rw [hF.size]; rw [Lib.decDigits_length] at hj; exact hj))
      rw [Lib.decDigits_length] at h
      exact h
    have hbf := below_fin w (.cells Lib.zeros24 168) dk k
    go_wp2_with fail
    go_ret
    exact ⟨rfl, hbf⟩

theorem formatUint_any (u : Nat) (hu : u < 18446744073709551616) (w : World) (hP : HasPow w) :
    Calls Tryz.prog 108 #[.int .u64 u, .int .i64 10] w fun e w' => e = .returned (sv (Lib.decDigits u)) ∧ Below w.heap.size w w' := by
  have h := formatUint_in u hu w hP
  generalize Lib.decDigits u = l at *
  have H := Lib.hid h
  clear h hP
  go_enter Tryz.func108, Tryz.ntmps108
  go_wp2_with fail
  refine H.out.mono ?_
  rintro e w1 ⟨rfl, hb⟩
  go_wp2_with fail
  go_ret
  exact ⟨rfl, hb⟩
/-- nums.Text: any number of 64 bits. -/
theorem text_any (n : Int) (h0 : 0 ≤ n) (hu : n < 18446744073709551616) (w : World) (hP : HasPow w) :
    Calls Tryz.prog 101 #[.int .u64 n] w fun e w' => e = .returned (sv (Lib.decDigits n.toNat)) ∧ Below w.heap.size w w' := by
  obtain ⟨u, rfl⟩ := Int.eq_ofNat_of_zero_le h0
  have h := formatUint_any u (by omega) w hP
  rw [Int.toNat_natCast]
  generalize Lib.decDigits u = l at *
  have H := Lib.hid h
  clear h hP
  go_enter Tryz.func101, Tryz.ntmps101
  go_wp2_with fail
  refine H.out.mono ?_
  rintro e w1 ⟨rfl, hb⟩
  go_wp2_with fail
  go_ret
  exact ⟨rfl, hb⟩

def digitOf (d : Int) : UInt8 := UInt8.ofNat (48 + d.toNat)
def TextRel (D : List UInt8) (m s : Value) : Prop := ∃ (k : Int) (l : List UInt8), m = .int .u64 k ∧ s = sv l ∧ 0 ≤ k ∧ Hid (k < 18446744073709551616 ∧ D = Lib.decDigits k.toNat ++ l)
def numOf (v : Value) : Nat := (intOf v).toNat
theorem digit_piece (d : Int) (h0 : 0 ≤ d) (h : d ≤ 9) (W : World) : (Instr.slice 9 (.string ⟨#[48, 49, 50, 51, 52, 53, 54, 55, 56, 57]⟩) (some (.int .u64 d)) (some (.int .u64 (d + 1))) none).run Tryz.prog W = .ok (sv [digitOf d]) W := by
  rw [run_slice_string (h := Tryz.underlying9) (h0 := h0) (h1 := by omega) (h2 := by show d + 1 ≤ 10; omega)]
  congr 1
  refine sv_of ?_
  rw [bs_extract]
  have : ∀ e : Fin 10, ((bs ⟨#[48, 49, 50, 51, 52, 53, 54, 55, 56, 57]⟩).take (e.val + 1)).drop e.val = [UInt8.ofNat (48 + e.val)] := by decide
  have h2 := this ⟨d.toNat, by omega⟩
  rw [show (d + 1).toNat = d.toNat + 1 from by omega]
  exact h2
theorem dec_big {u : Nat} (h : ¬ u < 10) : Lib.decDigits u = Lib.decDigits (u / 10) ++ [UInt8.ofNat (48 + u % 10)] := by rw [Lib.decDigits, dif_neg h]
theorem dec_small {u : Nat} (h : u < 10) : Lib.decDigits u = [UInt8.ofNat (48 + u % 10)] := by rw [Lib.decDigits, dif_pos h, Nat.mod_eq_of_lt h]
theorem dec_short (u : Nat) (h : u < 18446744073709551616) : (Lib.decDigits u).length ≤ 20 := by
  rw [Lib.decDigits_length]
  by_cases h1 : 1 ≤ u
  · have := Lib.numDigits_eq u h1 h; split at this <;> omega
  · obtain rfl : u = 0 := by omega
    rw [Lib.nDigits_small (by omega)]; omega

theorem u64_tenth {k : Int} (h0 : 0 ≤ k) (h : k < 18446744073709551616) : IntKind.u64.wrap (k.tdiv 10) = k / 10 := by
  rw [Int.tdiv_eq_ediv_of_nonneg h0, IntKind.wrap_u64]; omega
theorem digit_eq {k : Int} (h0 : 0 ≤ k) : [UInt8.ofNat (48 + k.toNat % 10)] = [digitOf (k % 10)] := by
  unfold digitOf
  rw [show (k % 10).toNat = k.toNat % 10 from by omega]

set_option maxHeartbeats 2000000 in
set_option maxRecDepth 100000 in
theorem refText_any (n : Int) (h0 : 0 ≤ n) (hu : n < 18446744073709551616) (w : World) :
    Calls Tryz.prog 94 #[.int .u64 n] w fun e w' => e = .returned (sv (Lib.decDigits n.toNat)) ∧ w = w' := by
  obtain ⟨u, rfl⟩ := Int.eq_ofNat_of_zero_le h0
  rw [Int.toNat_natCast]
  have hshort := dec_short u (by omega)
  obtain ⟨D, hD⟩ : ∃ D, D = Lib.decDigits u := ⟨_, rfl⟩
  rw [← hD] at hshort ⊢
  have HD := Lib.hid hD
  have HU := Lib.hid hu
  clear hD hu h0
  go_enter Tryz.func94, Tryz.ntmps94
  go_wp2_with fail
  go_loop [0, 3] (fun m s => TextRel D m s) (fun m _ => numOf m)
  case atStart => exact ⟨u, [], rfl, rfl, by omega, by rw [HD.out]; exact ⟨HU.out, by simp⟩⟩
  case round =>
    obtain ⟨k, l, rfl, rfl, hk, hl⟩ := hrel
    have hk0 : 0 ≤ k % 10 := by omega
    have hk9 : k % 10 ≤ 9 := by omega
    have hsl := fun W => digit_piece (k % 10) hk0 hk9 W
    have hlen : l.length ≤ 20 := by
      have h1 := hl.out.2
      have h2 := congrArg List.length h1
      rw [List.length_append] at h2
      omega
    by_cases h10 : k < 10
    · have hz : ((k / 10) == 0) = true := by rw [beq_iff_eq]; omega
      have hdiv := u64_tenth hk hl.out.1
      go_wp2_with fail
      go_ret
      refine ⟨ret_congr (sv_of ?_), rfl⟩
      rw [bs_append, hl.out.2, dec_small (u := k.toNat) (by omega), digit_eq hk]
    · have hz : ((k / 10) == 0) = false := by rw [beq_eq_false_iff_ne]; omega
      have hdiv := u64_tenth hk hl.out.1
      go_wp2_with fail
      go_round
      case rel =>
        refine ⟨k / 10, [digitOf (k % 10)] ++ l, rfl, sv_of (by rw [bs_append]), by omega, (by have := hl.out.1; clear hdiv; omega), ?_⟩
        rw [hl.out.2, dec_big (u := k.toNat) (by omega), List.append_assoc, digit_eq hk, show (k / 10).toNat = k.toNat / 10 from by omega]
      case measure => simp only [numOf, intOf]; omega
end Go.Proofs.YtaooangnnlopcaaGreatDoor
namespace Go.Proofs.YtaooangnnlopcaaGreatDoor

def digitB (c : UInt8) : Bool := decide (48 ≤ c.toNat) && decide (c.toNat ≤ 57)
def numB (l : List UInt8) : Bool := l.all digitB && !l.isEmpty && decide (l.length ≤ 20)
/-- The value of digits behind a value. -/
def dig (a : Nat) (c : UInt8) : Nat := a * 10 + (c.toNat - 48)
def dval (a : Nat) (l : List UInt8) : Nat := l.foldl dig a
theorem dval_nil (a : Nat) : dval a [] = a := by simp only [dval, List.foldl_nil]
theorem dval_cons (a : Nat) (c : UInt8) (r : List UInt8) : dval a (c :: r) = dval (a * 10 + (c.toNat - 48)) r := by simp only [dval, List.foldl_cons, dig]
/-- The number that a text is, if it is one. -/
def parseN (l : List UInt8) : Option Nat := if numB l = true ∧ dval 0 l < 18446744073709551616 then some (dval 0 l) else none
theorem digit_is {c : UInt8} : digitB c = true ↔ 48 ≤ c.toNat ∧ c.toNat ≤ 57 := by simp [digitB]
theorem dval_lin : ∀ (l : List UInt8) (a : Nat), dval a l = a * 10 ^ l.length + dval 0 l
  | [], a => by simp [dval_nil]
  | c :: r, a => by
    rw [dval_cons, dval_lin r, dval_cons, dval_lin r (0 * 10 + (c.toNat - 48)), List.length_cons, Nat.pow_succ, Nat.add_mul, Nat.zero_mul, Nat.zero_add]
    rw [Nat.mul_assoc, Nat.mul_comm 10]
    omega
theorem dval_append : ∀ (l m : List UInt8) (a : Nat), dval a (l ++ m) = dval (dval a l) m
  | [], _, _ => by rw [List.nil_append, dval_nil]
  | c :: l, m, a => by rw [List.cons_append, dval_cons, dval_append l m, dval_cons]
theorem parse_lt {l : List UInt8} {u : Nat} (h : parseN l = some u) : u < 18446744073709551616 := by
  unfold parseN at h
  split at h
  · cases h; rename_i h; exact h.2
  · cases h

theorem parse_uintM : ∀ (l : List UInt8) (a : Nat), l.all digitB = true → a < 18446744073709551616 → Lib.parseUintM (2 ^ 64 - 1) a l = if dval a l < 18446744073709551616 then .ok (dval a l) else .range
  | [], a, _, ha => by rw [Lib.parseUintM, dval_nil, if_pos ha]
  | c :: r, a, h, ha => by
    simp only [List.all_cons, Bool.and_eq_true] at h
    have hd := digit_is.1 h.1
    rw [Lib.parseUintM, if_pos hd, dval_cons]
    have hge : a * 10 + (c.toNat - 48) ≤ dval (a * 10 + (c.toNat - 48)) r := by
      rw [dval_lin]
      have := Nat.le_mul_of_pos_right (a * 10 + (c.toNat - 48)) (Nat.pow_pos (n := r.length) (show 0 < 10 by omega))
      omega
    by_cases h1 : 1844674407370955162 ≤ a
    · rw [if_pos h1, if_neg (by omega)]
    · rw [if_neg h1]
      by_cases h2 : 2 ^ 64 - 1 < a * 10 + (c.toNat - 48)
      · rw [if_pos h2, if_neg (by omega)]
      · rw [if_neg h2, parse_uintM r _ h.2 (by omega)]
theorem parse_uint {l : List UInt8} (h : numB l = true) : Lib.parseUintB 64 l = if dval 0 l < 18446744073709551616 then .ok (dval 0 l) else .range := by
  simp only [numB, Bool.and_eq_true, Bool.not_eq_true', decide_eq_true_eq] at h
  unfold Lib.parseUintB
  rw [if_neg (by rintro rfl; simp at h), parse_uintM l 0 h.1.1 (by omega)]
theorem num_short {l : List UInt8} (h : numB l = true) : l.length ≤ 20 := by
  simp only [numB, Bool.and_eq_true, decide_eq_true_eq] at h
  exact h.2
theorem num_bad {l : List UInt8} {c : UInt8} (hc : c ∈ l) (h : digitB c = false) : numB l = false := by
  have : l.all digitB = false := by
    rw [Bool.eq_false_iff]; intro ha
    rw [List.all_eq_true] at ha
    rw [ha c hc] at h; cases h
  simp [numB, this]
theorem parse_bad {l : List UInt8} {c : UInt8} (hc : c ∈ l) (h : digitB c = false) : parseN l = none := by
  unfold parseN; rw [num_bad hc h]; simp
theorem parse_nil : parseN [] = none := by simp [parseN, numB]
theorem parse_long {l : List UInt8} (h : 20 < l.length) : parseN l = none := by
  unfold parseN
  rw [if_neg]
  rintro ⟨h1, _⟩
  have := num_short h1
  omega

/-- The reference's scan: behind i bytes of a text of 1 to 20 bytes. -/
def Scan (l : List UInt8) (i n : Nat) : Prop := (∀ c ∈ l.take i, digitB c = true) ∧ n = dval 0 (l.take i) ∧ n < 18446744073709551616
theorem scan_zero (l : List UInt8) : Scan l 0 0 := ⟨by simp, rfl, by omega⟩
theorem scan_next {l : List UInt8} {i n : Nat} {c : UInt8} (h : Scan l i n) (hc : l[i]? = some c) (hd : digitB c = true) (hn : n * 10 + (c.toNat - 48) < 18446744073709551616) : Scan l (i + 1) (n * 10 + (c.toNat - 48)) := by
  obtain ⟨h1, h2, h3⟩ := h
  have ht : l.take (i + 1) = l.take i ++ [c] := by rw [List.take_add_one, hc]; rfl
  refine ⟨?_, ?_, hn⟩
  · rw [ht]; intro x hx
    rcases List.mem_append.1 hx with hx | hx
    · exact h1 x hx
    · rw [List.mem_singleton.1 hx]; exact hd
  · rw [ht, dval_append, ← h2]; rfl
theorem scan_bad {l : List UInt8} {i : Nat} {c : UInt8} (hc : l[i]? = some c) (hd : digitB c = false) : parseN l = none := parse_bad (List.mem_of_getElem? hc) hd
theorem scan_over {l : List UInt8} {i n : Nat} {c : UInt8} (h : Scan l i n) (hc : l[i]? = some c) (hn : ¬ n * 10 + (c.toNat - 48) < 18446744073709551616) : parseN l = none := by
  obtain ⟨hi, hci⟩ := List.getElem?_eq_some_iff.1 hc
  have hl : l = l.take i ++ (c :: l.drop (i + 1)) := by
    rw [← hci, ← List.drop_eq_getElem_cons hi, List.take_append_drop]
  unfold parseN
  rw [if_neg]
  rintro ⟨_, h2⟩
  rw [hl, dval_append, ← h.2.1, dval_cons, dval_lin] at h2
  have := Nat.le_mul_of_pos_right (n * 10 + (c.toNat - 48)) (Nat.pow_pos (n := (l.drop (i + 1)).length) (show 0 < 10 by omega))
  omega
theorem scan_end {l : List UInt8} {n : Nat} (h : Scan l l.length n) (h0 : l ≠ []) (h20 : l.length ≤ 20) : parseN l = some n := by
  obtain ⟨h1, h2, h3⟩ := h
  rw [List.take_length] at h1 h2
  have hn : numB l = true := by
    simp only [numB, Bool.and_eq_true, Bool.not_eq_true', List.isEmpty_eq_false_iff, decide_eq_true_eq, List.all_eq_true]
    exact ⟨⟨h1, h0⟩, h20⟩
  unfold parseN
  rw [hn, ← h2, if_pos ⟨rfl, h3⟩]

/-! ### The order of texts of numbers -/
/-! ### Signed ones -/
end Go.Proofs.YtaooangnnlopcaaGreatDoor
namespace Go.Proofs.YtaooangnnlopcaaGreatDoor
open Go.RowKit

theorem good_all_digits {l : List UInt8} (h : Good (fun c => !digitB c) l l.length) : l.all digitB = true := by
  rw [List.all_eq_true]
  intro x hx
  obtain ⟨j, hj, rfl⟩ := List.getElem_of_mem hx
  simpa using h j hj _ (List.getElem?_eq_getElem hj)
theorem bad_digit {l : List UInt8} {k : Nat} {c : UInt8} (hc : l[k]? = some c) (h : digitB c = false) : numB l = false := by
  have : l.all digitB = false := by
    rw [Bool.eq_false_iff]
    intro ha
    rw [List.all_eq_true] at ha
    rw [ha c (List.mem_of_getElem? hc)] at h
    cases h
  simp [numB, this]

set_option maxHeartbeats 1000000 in
set_option maxRecDepth 100000 in
theorem number_any (s : ByteArray) (w : World) :
    Calls Tryz.prog 106 #[.string s] w fun e w' => e = .returned (.bool (numB (bs s))) ∧ Below w.heap.size w w' := by
  go_enter Tryz.func106, Tryz.ntmps106
  go_wp2
  go_loopw [2] (fun n w' => ∃ pos : Nat, w' = w.iter s pos ∧ n = .bool false ∧ pos ≤ s.size ∧ Good (fun c => !digitB c) (bs s) pos) (fun _ w' => s.size - w'.iterPos w.heap.size)
  case atStart => exact ⟨0, rfl, rfl, Nat.zero_le _, good_zero _ _⟩
  case round =>
    obtain ⟨pos, rfl, rfl, hps, hg⟩ := hrel
    have HG := Lib.hid hg
    have hbl : ∀ q, Below w.heap.size w (w.iter s q) := fun q => (Below.refl _ _).alloc (Nat.le_refl _) _
    clear hg
    by_cases hp : pos < s.size
    · have hget := bs_get? hp
      have HGET := Lib.hid hget
      clear hget
      generalize hc : s[pos] = c at HGET
      by_cases hd : digitB c = true
      · have hd' := hd
        simp only [digitB, Bool.and_eq_true, decide_eq_true_eq] at hd
        have hnx : ∀ ty, (Instr.next (.pointer (some ⟨w.heap.size, 0, none⟩)) true ty).run Tryz.prog (w.iter s pos) = .ok (.tuple #[.bool true, .int .i64 pos, .int .i32 (c.toNat : Int)]) (w.iter s (pos + 1)) := fun ty => by
          rw [run_next_any w s pos ty hp, decode_ascii s pos hp (by rw [hc]; omega), hc]
        have h1 : ¬ ((c.toNat : Int) < 48) := by omega
        have h2 : ¬ ((57 : Int) < (c.toNat : Int)) := by omega
        clear hd
        go_wp2
        go_roundw
        case rel => exact ⟨pos + 1, rfl, rfl, by omega, good_step HGET.out (by simp [hd']) HG.out⟩
        case measure => simp; omega
      · have hd0 : digitB c = false := by simpa using hd
        have hn : numB (bs s) = false := bad_digit HGET.out hd0
        have HN := Lib.hid hn
        by_cases h128 : c.toNat < 128
        · have hnx : ∀ ty, (Instr.next (.pointer (some ⟨w.heap.size, 0, none⟩)) true ty).run Tryz.prog (w.iter s pos) = .ok (.tuple #[.bool true, .int .i64 pos, .int .i32 (c.toNat : Int)]) (w.iter s (pos + 1)) := fun ty => by
            rw [run_next_any w s pos ty hp, decode_ascii s pos hp (by rw [hc]; omega), hc]
          by_cases h48 : c.toNat < 48
          · have h1 : (c.toNat : Int) < 48 := by omega
            clear hd hd0 hn h128 h48
            go_wp2
            go_ret
            exact ⟨by rw [HN.out]; rfl, hbl _⟩
          · have h1 : ¬ ((c.toNat : Int) < 48) := by omega
            have h2 : (57 : Int) < (c.toNat : Int) := by
              simp only [digitB, Bool.and_eq_false_iff, decide_eq_false_iff_not] at hd0
              omega
            clear hd hd0 hn h128 h48
            go_wp2
            go_ret
            exact ⟨by rw [HN.out]; rfl, hbl _⟩
        · have hhi := (decode_high s pos hp (by rw [hc]; omega)).1
          have hnx : ∀ ty, (Instr.next (.pointer (some ⟨w.heap.size, 0, none⟩)) true ty).run Tryz.prog (w.iter s pos) = _ := fun ty => run_next_any w s pos ty hp
          have h1 : ¬ (((Utf8.decode s pos).1 : Int) < 48) := by omega
          have h2 : (57 : Int) < ((Utf8.decode s pos).1 : Int) := by omega
          clear hd hd0 hn h128 hhi
          go_wp2
          go_ret
          exact ⟨by rw [HN.out]; rfl, hbl _⟩
    · have hnx : ∀ ty, (Instr.next (.pointer (some ⟨w.heap.size, 0, none⟩)) true ty).run Tryz.prog (w.iter s pos) = _ := fun ty => run_next_end w s pos ty hp
      obtain rfl : pos = s.size := by omega
      have hall : (bs s).all digitB = true := good_all_digits (by rw [bs_length]; exact HG.out)
      have hnum : numB (bs s) = (!(bs s).isEmpty && decide (s.size ≤ 20)) := by simp [numB, hall]
      have HNUM := Lib.hid hnum
      clear hall hnum
      by_cases he : s.toList.isEmpty = true
      · have h0 := bs_empty he
        go_wp2
        go_ret
        exact ⟨by rw [HNUM.out, h0]; rfl, hbl _⟩
      · have he' : s.toList.isEmpty = false := by simpa using he
        have h0 := bs_some he'
        have h1 : (!(bs s).isEmpty) = true := by simpa using h0
        clear he
        by_cases h20 : s.size ≤ 20
        · have h2 : (s.size : Int) ≤ 20 := by omega
          go_wp2
          go_ret
          exact ⟨by rw [HNUM.out, h1]; simp [h20], hbl _⟩
        · have h2 : ¬ ((s.size : Int) ≤ 20) := by omega
          go_wp2
          go_ret
          exact ⟨by rw [HNUM.out, h1]; simp [h20], hbl _⟩

def decrN (n b : Int) : Int := if b ≤ n then n - b else 0
theorem incr_any (n b : Int) (w : World) : Calls Tryz.prog 77 #[.int .u64 n, .int .u64 b] w fun e w' => e = .returned (.int .u64 (IntKind.u64.wrap (n + b))) ∧ w = w' := by
  go_enter Tryz.func77, Tryz.ntmps77
  go_wp2_with fail
  go_ret
  exact ⟨rfl, rfl⟩
theorem refIncr_any (n b : Int) (w : World) : Calls Tryz.prog 92 #[.int .u64 n, .int .u64 b] w fun e w' => e = .returned (.int .u64 (IntKind.u64.wrap (n + b))) ∧ w = w' := by
  go_enter Tryz.func92, Tryz.ntmps92
  go_wp2_with fail
  go_ret
  exact ⟨rfl, rfl⟩
theorem decr_any (n b : Int) (w : World) (hn0 : 0 ≤ n) (hn : n < 18446744073709551616) (hb0 : 0 ≤ b) (hb : b < 18446744073709551616) : Calls Tryz.prog 79 #[.int .u64 n, .int .u64 b] w fun e w' => e = .returned (.int .u64 (decrN n b)) ∧ w = w' := by
  by_cases h : b ≤ n
  · have e : decrN n b = n - b := by simp [decrN, h]
    rw [e]
    go_enter Tryz.func79, Tryz.ntmps79
    go_wp2_with fail
    go_ret
    exact ⟨ret_congr (int_congr (by omega)), rfl⟩
  · have e : decrN n b = 0 := by simp [decrN, h]
    rw [e]
    go_enter Tryz.func79, Tryz.ntmps79
    go_wp2_with fail
    go_ret
    exact ⟨ret_congr (int_congr (by omega)), rfl⟩
theorem refDecr_any (n b : Int) (w : World) (hn0 : 0 ≤ n) (hn : n < 18446744073709551616) (hb0 : 0 ≤ b) (hb : b < 18446744073709551616) : Calls Tryz.prog 93 #[.int .u64 n, .int .u64 b] w fun e w' => e = .returned (.int .u64 (decrN n b)) ∧ w = w' := by
  by_cases h : b ≤ n
  · have e : decrN n b = n - b := by simp [decrN, h]
    rw [e]
    have hw : IntKind.u64.wrap (n - b) = n - b := IntWalk.u64_in _ (by omega)
    have h2 : ¬ n < b := by omega
    go_enter Tryz.func93, Tryz.ntmps93
    go_wp2_with fail
    go_ret
    exact ⟨rfl, rfl⟩
  · have e : decrN n b = 0 := by simp [decrN, h]
    rw [e]
    have h2 : n < b := by omega
    go_enter Tryz.func93, Tryz.ntmps93
    go_wp2_with fail
    go_ret
    exact ⟨rfl, rfl⟩
end Go.Proofs.YtaooangnnlopcaaGreatDoor
namespace Go.Proofs.YtaooangnnlopcaaGreatDoor
open Go.RowKit

/-- The library's variable ErrRange holds an error. -/
def HasErr (w : World) : Prop := ∃ tp p, w.var? Tryz.prog "strconv.ErrRange" = some #[.iface tp p]
theorem HasErr.below {w w' : World} (h : HasErr w) (hb : Below w.heap.size w w') : HasErr w' := by
  obtain ⟨tp, p, h⟩ := h
  have hg : Tryz.prog.globalNamed "strconv.ErrRange" = some 1 := by kernel_rfl
  have hc := World.var?_cell hg h 0
  exact ⟨tp, p, var?_below hb hg (cell_lt hc) h⟩

def parseV (l : List UInt8) : Value := match parseN l with | some u => .tuple #[.int .u64 u, .bool true] | none => .tuple #[.int .u64 0, .bool false]
theorem parseV_none {l : List UInt8} (h : parseN l = none) : parseV l = .tuple #[.int .u64 0, .bool false] := by simp [parseV, h]
theorem parseV_some {l : List UInt8} {u : Nat} (h : parseN l = some u) : parseV l = .tuple #[.int .u64 u, .bool true] := by simp [parseV, h]
theorem num_parse {l : List UInt8} (h : numB l = true) : (parseN l = none ∧ Lib.parseUintB 64 l = .range) ∨ ∃ u, parseN l = some u ∧ Lib.parseUintB 64 l = .ok u := by
  rw [parse_uint h]
  unfold parseN
  by_cases hd : dval 0 l < 18446744073709551616
  · right; exact ⟨_, by rw [if_pos ⟨h, hd⟩], by rw [if_pos hd]⟩
  · left; exact ⟨by rw [if_neg (by rintro ⟨_, h⟩; exact hd h)], by rw [if_neg hd]⟩
theorem num_size {s : ByteArray} (h : numB (bs s) = true) : s.size ≤ 20 := by
  rw [← bs_length]; exact num_short h
theorem parse_no {l : List UInt8} (h : numB l = false) : parseN l = none := by unfold parseN; rw [h]; simp

set_option maxHeartbeats 1000000 in
set_option maxRecDepth 100000 in
theorem parse_any (s : ByteArray) (w : World) (hE : HasErr w) :
    Calls Tryz.prog 100 #[.string s] w fun e w' => e = .returned (parseV (bs s)) ∧ Below w.heap.size w w' := by
  have HE := Lib.hid hE
  have HN := Lib.hid (number_any s w)
  clear hE
  by_cases hn : numB (bs s) = true
  · have hz := num_size hn
    rw [hn] at HN
    rcases num_parse hn with ⟨hp, hr⟩ | ⟨u, hp, hu⟩
    · have hv := parseV_none hp
      rw [hv]
      have HR := Lib.hid hr
      clear hr hn hv hp
      go_enter Tryz.func100, Tryz.ntmps100
      go_wp2_with fail
      refine HN.out.mono ?_
      rintro e w1 ⟨rfl, hb1⟩
      obtain ⟨tp, p, hvar⟩ := HE.out.below hb1
      have HV := Lib.hid hvar
      clear hvar
      go_wp2_with fail
      refine (Tryz.strconv_ParseUint_10_at64_range_var s (by omega) HR.out tp p w1 HV.out).mono ?_
      rintro e w2 ⟨N, rfl, _, _, hb2⟩
      go_wp2_with fail
      go_ret2
      exact ⟨rfl, hb1.trans (hb2.mono hb1.size)⟩
    · have hv := parseV_some hp
      rw [hv]
      have HR := Lib.hid hu
      clear hu hn hv hp
      go_enter Tryz.func100, Tryz.ntmps100
      go_wp2_with fail
      refine HN.out.mono ?_
      rintro e w1 ⟨rfl, hb1⟩
      go_wp2_with fail
      refine (Tryz.strconv_ParseUint_10_at64_ok s (by omega) u HR.out w1).mono ?_
      rintro e w2 ⟨rfl, hw2⟩
      have hb2 : Below w1.heap.size w1 w2 := by
        rcases hw2 with rfl | rfl
        · exact Below.refl _ _
        · exact Lib.bytesWorld_below _ _ _
      go_wp2_with fail
      go_ret2
      exact ⟨rfl, hb1.trans (hb2.mono hb1.size)⟩
  · have hn0 : numB (bs s) = false := by simpa using hn
    rw [hn0] at HN
    have hv := parseV_none (parse_no hn0)
    rw [hv]
    clear hn hn0 hv
    go_enter Tryz.func100, Tryz.ntmps100
    go_wp2_with fail
    refine HN.out.mono ?_
    rintro e w1 ⟨rfl, hb1⟩
    go_wp2_with fail
    go_ret2
    exact ⟨rfl, hb1⟩

end Go.Proofs.YtaooangnnlopcaaGreatDoor
