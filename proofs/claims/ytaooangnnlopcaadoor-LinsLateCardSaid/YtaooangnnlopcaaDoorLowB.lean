/- Texts of numbers: nums.Text, strconv.FormatUint at base 10, the reference's Text: each is the number's decimal digits. Condition: the table of the powers of ten lies as the library lays it. Plain: the value of a text of digits, texts of numbers, their order, what is a number's text. No condition. nums.number, Incr, Decr and the reference's; a text of digits. No condition. nums.Parse and the reference's: at any text. Condition: the library's variable ErrRange holds an error. -/
import Derived.Test.YtaooangnnlopcaaDoorLowA
import Derived.Test.YtaooangnnlopcaaDoorShelf
import Derived.Lib.ItoaMem
import Derived.Lib.ParseIntB
import Derived.Laws.RangeAny
import Derived.Lib.SmallJoins
import Derived.Lib.AtoiErrMem
namespace Go.Proofs.YtaooangnnlopcaaDoor
open Go.RowKit Go.Sort

/-- The library's table of the powers of ten. -/
def HasPow (w : World) : Prop := Lib.TabIs Tryd.prog w "internal/strconv.uint64pow10" .u64 Lib.pow10Tab
theorem HasPow.below {w w' : World} (h : HasPow w) (hb : Below w.heap.size w w') : HasPow w' := by
  have hg : Tryd.prog.globalNamed "internal/strconv.uint64pow10" = some 0 := by kernel_rfl
  have hc := h.cell hg 0 (by decide)
  exact var?_below hb hg (cell_lt hc) h

theorem holds0 (w : World) (T : TypeId) (nd : Nat) (hs : nd ≤ 24) : Holds (fun (b : UInt8) => Value.int .u8 (b.toNat : Int)) (w.alloc (.cells Lib.zeros24 T)) w.heap.size 0 (Array.replicate nd (0 : UInt8)) := fun j hj => by
  have hj' : j < nd := by simpa using hj
  refine ⟨?_, World.frozen?_alloc_new _ _ _ _⟩
  rw [World.cell?_alloc_new, Lib.zeros24_at _ (by omega), getElem!_pos _ j hj]
  simp
theorem below_fin (w : World) (o : Obj) (dk : Array UInt8) (k : Nat) : Below w.heap.size w ((putRow (fun (b : UInt8) => Value.int .u8 (b.toNat : Int)) (w.alloc o) w.heap.size 0 dk).drewN k) := by
  rw [alloc_eq_grow]
  obtain ⟨os', _, e⟩ := putRow_grow_new (fun (b : UInt8) => Value.int .u8 (b.toNat : Int)) w #[o] w.heap.size 0 dk (Nat.le_refl _)
  rw [e]
  have hb : Below w.heap.size w (grow w os') := ⟨rfl, rfl, rfl, by simp [grow], fun i hi => heap_grow_old w os' hi⟩
  exact below_drewN hb k

set_option maxHeartbeats 2000000 in
set_option maxRecDepth 100000 in
theorem formatUint_in (u : Nat) (hu : u < 18446744073709551616) (w : World) (hP : HasPow w) :
    Calls Tryd.prog 51 #[.int .u64 u, .int .i64 10] w fun e w' => e = .returned (sv (Lib.decDigits u)) ∧ Below w.heap.size w w' := by
  have HP := Lib.hid hP
  clear hP
  by_cases hs : u < 100
  · go_enter Tryd.func51, Tryd.ntmps51
    go_wp2_with fail
    refine (Tryd.internal_strconv_small u hs _).mono ?_
    rintro e w1 ⟨rfl, hw⟩
    rw [hw]
    go_wp2_with fail
    go_ret
    exact ⟨rfl, Below.refl _ _⟩
  · have hu1 : 1 ≤ u := by omega
    have hnd20 : Lib.nDigits u ≤ 20 := by have := Lib.numDigits_eq u hu1 hu; split at this <;> omega
    have hal : Tryd.prog.arrayLen 132 = 24 := by simp [Program.arrayLen, Tryd.underlying132]
    have hsl1 : ∀ W, (Instr.sliceAt 132 (.pointer (some ⟨w.heap.size, 0, none⟩)) none (some (.int .i64 (Lib.nDigits u : Int))) none).run Tryd.prog W = .ok (.slice (some ⟨w.heap.size, 0, none⟩) (Lib.nDigits u) 24) W := fun W => by
      rw [run_sliceAt_array_h W 132 ⟨w.heap.size, 0, none⟩ (by simp [Program.arrayLen, Program.elem, Tryd.underlying132]) .i64 (Lib.nDigits u : Int) (by omega) (by rw [hal]; omega)]
      go_simp
    have hH0 := holds0 w 132 (Lib.nDigits u) (by omega)
    have hfmt := Tryd.internal_strconv_formatBase10 w.heap.size 0 24 u (Array.replicate (Lib.nDigits u) 0) (w.alloc (.cells Lib.zeros24 132)) hH0 (by rw [Array.size_replicate]; exact Lib.lt_pow_nDigits u) hu (by rw [Array.size_replicate]; omega)
    rw [Array.size_replicate] at hfmt
    have HH0 := Lib.hid hH0
    have HF := Lib.hid hfmt
    clear hH0 hal hfmt
    go_enter Tryd.func51, Tryd.ntmps51
    go_wp2_with fail
    refine (Tryd.internal_strconv_numDigits u hu1 hu _ (Lib.tabIs_alloc HP.out _)).mono ?_
    rintro e w1 ⟨rfl, rfl⟩
    go_wp2_with fail
    refine HF.out.mono ?_
    rintro e w1 ⟨rfl, k, v', dk, rfl, hF⟩
    have hcv : (convert 134 9 (.slice (some ⟨w.heap.size, 0, none⟩) (Lib.nDigits u) 24)).run Tryd.prog ((putRow (fun (b : UInt8) => Value.int .u8 (b.toNat : Int)) (w.alloc (.cells Lib.zeros24 132)) w.heap.size 0 dk).drewN k) = .ok (sv (Lib.decDigits u)) ((putRow (fun (b : UInt8) => Value.int .u8 (b.toNat : Int)) (w.alloc (.cells Lib.zeros24 132)) w.heap.size 0 dk).drewN k) := by
      have h := run_convert_bytes_back (P := Tryd.prog) ((putRow (fun (b : UInt8) => Value.int .u8 (b.toNat : Int)) (w.alloc (.cells Lib.zeros24 132)) w.heap.size 0 dk).drewN k) 134 9 5 ⟨w.heap.size, 0, none⟩ 24 (Lib.decDigits u) Tryd.underlying134 Tryd.underlying5 Tryd.underlying9 (fun j hj => by
        rw [Lib.row_is_numeral hF j hj, Lib.add_plain, World.cell?_drewN]
        exact cell?_putRow (fun (b : UInt8) => Value.int .u8 (b.toNat : Int)) _ w.heap.size 0 _ dk HH0.out (by rw [hF.size, Array.size_replicate]) j (by rw [hF.size]; rw [Lib.decDigits_length] at hj; exact hj))
      rw [Lib.decDigits_length] at h
      exact h
    have hbf := below_fin w (.cells Lib.zeros24 132) dk k
    go_wp2_with fail
    go_ret
    exact ⟨rfl, hbf⟩

theorem formatUint_any (u : Nat) (hu : u < 18446744073709551616) (w : World) (hP : HasPow w) :
    Calls Tryd.prog 40 #[.int .u64 u, .int .i64 10] w fun e w' => e = .returned (sv (Lib.decDigits u)) ∧ Below w.heap.size w w' := by
  have h := formatUint_in u hu w hP
  generalize Lib.decDigits u = l at *
  have H := Lib.hid h
  clear h hP
  go_enter Tryd.func40, Tryd.ntmps40
  go_wp2_with fail
  refine H.out.mono ?_
  rintro e w1 ⟨rfl, hb⟩
  go_wp2_with fail
  go_ret
  exact ⟨rfl, hb⟩
/-- nums.Text: any number of 64 bits. -/
theorem text_any (n : Int) (h0 : 0 ≤ n) (hu : n < 18446744073709551616) (w : World) (hP : HasPow w) :
    Calls Tryd.prog 18 #[.int .u64 n] w fun e w' => e = .returned (sv (Lib.decDigits n.toNat)) ∧ Below w.heap.size w w' := by
  obtain ⟨u, rfl⟩ := Int.eq_ofNat_of_zero_le h0
  have h := formatUint_any u (by omega) w hP
  rw [Int.toNat_natCast]
  generalize Lib.decDigits u = l at *
  have H := Lib.hid h
  clear h hP
  go_enter Tryd.func18, Tryd.ntmps18
  go_wp2_with fail
  refine H.out.mono ?_
  rintro e w1 ⟨rfl, hb⟩
  go_wp2_with fail
  go_ret
  exact ⟨rfl, hb⟩

def digitOf (d : Int) : UInt8 := UInt8.ofNat (48 + d.toNat)
def TextRel (D : List UInt8) (m s : Value) : Prop := ∃ (k : Int) (l : List UInt8), m = .int .u64 k ∧ s = sv l ∧ 0 ≤ k ∧ Hid (k < 18446744073709551616 ∧ D = Lib.decDigits k.toNat ++ l)
def numOf (v : Value) : Nat := (intOf v).toNat
theorem digit_piece (d : Int) (h0 : 0 ≤ d) (h : d ≤ 9) (W : World) : (Instr.slice 9 (.string ⟨#[48, 49, 50, 51, 52, 53, 54, 55, 56, 57]⟩) (some (.int .u64 d)) (some (.int .u64 (d + 1))) none).run Tryd.prog W = .ok (sv [digitOf d]) W := by
  rw [run_slice_string (h := Tryd.underlying9) (h0 := h0) (h1 := by omega) (h2 := by show d + 1 ≤ 10; omega)]
  congr 1
  refine sv_of ?_
  rw [bs_extract]
  have : ∀ e : Fin 10, ((bs ⟨#[48, 49, 50, 51, 52, 53, 54, 55, 56, 57]⟩).take (e.val + 1)).drop e.val = [UInt8.ofNat (48 + e.val)] := by decide
  have h2 := this ⟨d.toNat, by omega⟩
  rw [show (d + 1).toNat = d.toNat + 1 from by omega]
  exact h2
theorem dec_big {u : Nat} (h : ¬ u < 10) : Lib.decDigits u = Lib.decDigits (u / 10) ++ [UInt8.ofNat (48 + u % 10)] := by rw [Lib.decDigits, dif_neg h]
theorem dec_small {u : Nat} (h : u < 10) : Lib.decDigits u = [UInt8.ofNat (48 + u % 10)] := by rw [Lib.decDigits, dif_pos h, Nat.mod_eq_of_lt h]
theorem dec_short (u : Nat) (h : u < 18446744073709551616) : (Lib.decDigits u).length ≤ 20 := by
  rw [Lib.decDigits_length]
  by_cases h1 : 1 ≤ u
  · have := Lib.numDigits_eq u h1 h; split at this <;> omega
  · obtain rfl : u = 0 := by omega
    rw [Lib.nDigits_small (by omega)]; omega

theorem u64_tenth {k : Int} (h0 : 0 ≤ k) (h : k < 18446744073709551616) : IntKind.u64.wrap (k.tdiv 10) = k / 10 := by
  rw [Int.tdiv_eq_ediv_of_nonneg h0, IntKind.wrap_u64]; omega
theorem digit_eq {k : Int} (h0 : 0 ≤ k) : [UInt8.ofNat (48 + k.toNat % 10)] = [digitOf (k % 10)] := by
  unfold digitOf
  rw [show (k % 10).toNat = k.toNat % 10 from by omega]

end Go.Proofs.YtaooangnnlopcaaDoor
namespace Go.Proofs.YtaooangnnlopcaaDoor

def digitB (c : UInt8) : Bool := decide (48 ≤ c.toNat) && decide (c.toNat ≤ 57)
def numB (l : List UInt8) : Bool := l.all digitB && !l.isEmpty && decide (l.length ≤ 20)
/-- The value of digits behind a value. -/
def dig (a : Nat) (c : UInt8) : Nat := a * 10 + (c.toNat - 48)
def dval (a : Nat) (l : List UInt8) : Nat := l.foldl dig a
theorem dval_nil (a : Nat) : dval a [] = a := by simp only [dval, List.foldl_nil]
theorem dval_cons (a : Nat) (c : UInt8) (r : List UInt8) : dval a (c :: r) = dval (a * 10 + (c.toNat - 48)) r := by simp only [dval, List.foldl_cons, dig]
/-- The number that a text is, if it is one. -/
def parseN (l : List UInt8) : Option Nat := if numB l = true ∧ dval 0 l < 18446744073709551616 then some (dval 0 l) else none
/-- The signed one. -/
def signedN (l : List UInt8) : Option Int :=
  match l with
  | [] => none
  | c :: r => if c = 45 then (match parseN r with | some u => if u ≤ 9223372036854775808 then some (-(u : Int)) else none | none => none)
    else (match parseN (c :: r) with | some u => if u < 9223372036854775808 then some (u : Int) else none | none => none)

theorem digit_is {c : UInt8} : digitB c = true ↔ 48 ≤ c.toNat ∧ c.toNat ≤ 57 := by simp [digitB]
theorem dval_lin : ∀ (l : List UInt8) (a : Nat), dval a l = a * 10 ^ l.length + dval 0 l
  | [], a => by simp [dval_nil]
  | c :: r, a => by
    rw [dval_cons, dval_lin r, dval_cons, dval_lin r (0 * 10 + (c.toNat - 48)), List.length_cons, Nat.pow_succ, Nat.add_mul, Nat.zero_mul, Nat.zero_add]
    rw [Nat.mul_assoc, Nat.mul_comm 10]
    omega
theorem dval_append : ∀ (l m : List UInt8) (a : Nat), dval a (l ++ m) = dval (dval a l) m
  | [], _, _ => by rw [List.nil_append, dval_nil]
  | c :: l, m, a => by rw [List.cons_append, dval_cons, dval_append l m, dval_cons]
theorem dval_lt : ∀ (l : List UInt8), l.all digitB = true → dval 0 l < 10 ^ l.length
  | [], _ => by simp [dval_nil]
  | c :: r, h => by
    simp only [List.all_cons, Bool.and_eq_true] at h
    have h1 := dval_lt r h.2
    have h2 := digit_is.1 h.1
    rw [dval_cons, dval_lin, List.length_cons, Nat.pow_succ, Nat.zero_mul, Nat.zero_add]
    have h3 : (c.toNat - 48) * 10 ^ r.length ≤ 9 * 10 ^ r.length := Nat.mul_le_mul_right _ (by omega)
    omega
theorem dval_zeros (k : Nat) (l : List UInt8) : dval 0 (List.replicate k 48 ++ l) = dval 0 l := by
  induction k with
  | zero => rfl
  | succ k ih => rw [List.replicate_succ, List.cons_append, dval_cons]; exact ih
theorem digit_ofNat {d : Nat} (h : d < 10) : (UInt8.ofNat (48 + d)).toNat = 48 + d := by
  simp [UInt8.toNat_ofNat]; omega
theorem dval_dec (u : Nat) : dval 0 (Lib.decDigits u) = u := by
  induction u using Nat.strongRecOn with
  | _ u ih =>
    by_cases h : u < 10
    · rw [dec_small h, dval_cons, dval_nil, digit_ofNat (by omega)]; omega
    · rw [dec_big h, dval_append, ih (u / 10) (by omega), dval_cons, dval_nil, digit_ofNat (by omega)]; omega
theorem dec_all (u : Nat) : (Lib.decDigits u).all digitB = true := by
  induction u using Nat.strongRecOn with
  | _ u ih =>
    by_cases h : u < 10
    · rw [dec_small h]; simp [digitB]; omega
    · rw [dec_big h, List.all_append, ih (u / 10) (by omega)]; simp [digitB]; omega
theorem dec_head {u : Nat} (h0 : 0 < u) : ∃ c r, Lib.decDigits u = c :: r ∧ c ≠ 48 := by
  induction u using Nat.strongRecOn with
  | _ u ih =>
    by_cases h : u < 10
    · refine ⟨_, _, dec_small h, fun e => ?_⟩
      have := congrArg UInt8.toNat e
      rw [digit_ofNat (by omega)] at this
      simp at this; omega
    · obtain ⟨c, r, e, hc⟩ := ih (u / 10) (by omega) (by omega)
      exact ⟨c, r ++ [UInt8.ofNat (48 + u % 10)], by rw [dec_big h, e]; rfl, hc⟩
theorem dec_zero : Lib.decDigits 0 = [48] := by rw [dec_small (by omega)]; rfl
theorem dec_digit {u : Nat} {c : UInt8} (h : c ∈ Lib.decDigits u) : digitB c = true := List.all_eq_true.1 (dec_all u) c h
theorem dec_inj {a b : Nat} (h : Lib.decDigits a = Lib.decDigits b) : a = b := by
  rw [← dval_dec a, h, dval_dec]
theorem dec_nonempty (u : Nat) : Lib.decDigits u ≠ [] := by
  rcases Nat.eq_zero_or_pos u with rfl | h
  · rw [dec_zero]; simp
  · obtain ⟨c, r, e, _⟩ := dec_head h; rw [e]; simp
theorem num_dec {u : Nat} (h : u < 18446744073709551616) : numB (Lib.decDigits u) = true := by
  have h1 := dec_short u h
  have h2 := dec_nonempty u
  simp only [numB, dec_all, Bool.true_and, Bool.and_eq_true, Bool.not_eq_true', List.isEmpty_eq_false_iff, decide_eq_true_eq]
  exact ⟨h2, h1⟩
theorem parse_dec {u : Nat} (h : u < 18446744073709551616) : parseN (Lib.decDigits u) = some u := by
  unfold parseN
  rw [num_dec h, dval_dec, if_pos ⟨rfl, h⟩]
theorem parse_lt {l : List UInt8} {u : Nat} (h : parseN l = some u) : u < 18446744073709551616 := by
  unfold parseN at h
  split at h
  · cases h; rename_i h; exact h.2
  · cases h

/-- With noughts ahead. -/
theorem parse_zeros {u : Nat} (h : u < 18446744073709551616) (k : Nat) : parseN (List.replicate k 48 ++ Lib.decDigits u) = if k + (Lib.decDigits u).length ≤ 20 then some u else none := by
  have h1 : (List.replicate k 48).all digitB = true := by
    rw [List.all_eq_true]; intro x hx; rw [List.eq_of_mem_replicate hx]; rfl
  have h2 : numB (List.replicate k 48 ++ Lib.decDigits u) = decide (k + (Lib.decDigits u).length ≤ 20) := by
    have h3 := dec_nonempty u
    simp [numB, h1, dec_all, h3]
  unfold parseN
  rw [h2, dval_zeros, dval_dec]
  by_cases hk : k + (Lib.decDigits u).length ≤ 20
  · rw [if_pos ⟨by simpa using hk, h⟩, if_pos hk]
  · rw [if_neg (by simp; omega), if_neg hk]

theorem parse_uintM : ∀ (l : List UInt8) (a : Nat), l.all digitB = true → a < 18446744073709551616 → Lib.parseUintM (2 ^ 64 - 1) a l = if dval a l < 18446744073709551616 then .ok (dval a l) else .range
  | [], a, _, ha => by rw [Lib.parseUintM, dval_nil, if_pos ha]
  | c :: r, a, h, ha => by
    simp only [List.all_cons, Bool.and_eq_true] at h
    have hd := digit_is.1 h.1
    rw [Lib.parseUintM, if_pos hd, dval_cons]
    have hge : a * 10 + (c.toNat - 48) ≤ dval (a * 10 + (c.toNat - 48)) r := by
      rw [dval_lin]
      have := Nat.le_mul_of_pos_right (a * 10 + (c.toNat - 48)) (Nat.pow_pos (n := r.length) (show 0 < 10 by omega))
      omega
    by_cases h1 : 1844674407370955162 ≤ a
    · rw [if_pos h1, if_neg (by omega)]
    · rw [if_neg h1]
      by_cases h2 : 2 ^ 64 - 1 < a * 10 + (c.toNat - 48)
      · rw [if_pos h2, if_neg (by omega)]
      · rw [if_neg h2, parse_uintM r _ h.2 (by omega)]
theorem parse_uint {l : List UInt8} (h : numB l = true) : Lib.parseUintB 64 l = if dval 0 l < 18446744073709551616 then .ok (dval 0 l) else .range := by
  simp only [numB, Bool.and_eq_true, Bool.not_eq_true', decide_eq_true_eq] at h
  unfold Lib.parseUintB
  rw [if_neg (by rintro rfl; simp at h), parse_uintM l 0 h.1.1 (by omega)]
theorem num_short {l : List UInt8} (h : numB l = true) : l.length ≤ 20 := by
  simp only [numB, Bool.and_eq_true, decide_eq_true_eq] at h
  exact h.2
theorem num_bad {l : List UInt8} {c : UInt8} (hc : c ∈ l) (h : digitB c = false) : numB l = false := by
  have : l.all digitB = false := by
    rw [Bool.eq_false_iff]; intro ha
    rw [List.all_eq_true] at ha
    rw [ha c hc] at h; cases h
  simp [numB, this]
theorem parse_bad {l : List UInt8} {c : UInt8} (hc : c ∈ l) (h : digitB c = false) : parseN l = none := by
  unfold parseN; rw [num_bad hc h]; simp
theorem parse_nil : parseN [] = none := by simp [parseN, numB]
theorem parse_long {l : List UInt8} (h : 20 < l.length) : parseN l = none := by
  unfold parseN
  rw [if_neg]
  rintro ⟨h1, _⟩
  have := num_short h1
  omega

/-- The reference's scan: behind i bytes of a text of 1 to 20 bytes. -/
def Scan (l : List UInt8) (i n : Nat) : Prop := (∀ c ∈ l.take i, digitB c = true) ∧ n = dval 0 (l.take i) ∧ n < 18446744073709551616
theorem scan_zero (l : List UInt8) : Scan l 0 0 := ⟨by simp, rfl, by omega⟩
theorem scan_next {l : List UInt8} {i n : Nat} {c : UInt8} (h : Scan l i n) (hc : l[i]? = some c) (hd : digitB c = true) (hn : n * 10 + (c.toNat - 48) < 18446744073709551616) : Scan l (i + 1) (n * 10 + (c.toNat - 48)) := by
  obtain ⟨h1, h2, h3⟩ := h
  have ht : l.take (i + 1) = l.take i ++ [c] := by rw [List.take_add_one, hc]; rfl
  refine ⟨?_, ?_, hn⟩
  · rw [ht]; intro x hx
    rcases List.mem_append.1 hx with hx | hx
    · exact h1 x hx
    · rw [List.mem_singleton.1 hx]; exact hd
  · rw [ht, dval_append, ← h2]; rfl
theorem scan_bad {l : List UInt8} {i : Nat} {c : UInt8} (hc : l[i]? = some c) (hd : digitB c = false) : parseN l = none := parse_bad (List.mem_of_getElem? hc) hd
theorem scan_over {l : List UInt8} {i n : Nat} {c : UInt8} (h : Scan l i n) (hc : l[i]? = some c) (hn : ¬ n * 10 + (c.toNat - 48) < 18446744073709551616) : parseN l = none := by
  obtain ⟨hi, hci⟩ := List.getElem?_eq_some_iff.1 hc
  have hl : l = l.take i ++ (c :: l.drop (i + 1)) := by
    rw [← hci, ← List.drop_eq_getElem_cons hi, List.take_append_drop]
  unfold parseN
  rw [if_neg]
  rintro ⟨_, h2⟩
  rw [hl, dval_append, ← h.2.1, dval_cons, dval_lin] at h2
  have := Nat.le_mul_of_pos_right (n * 10 + (c.toNat - 48)) (Nat.pow_pos (n := (l.drop (i + 1)).length) (show 0 < 10 by omega))
  omega
theorem scan_end {l : List UInt8} {n : Nat} (h : Scan l l.length n) (h0 : l ≠ []) (h20 : l.length ≤ 20) : parseN l = some n := by
  obtain ⟨h1, h2, h3⟩ := h
  rw [List.take_length] at h1 h2
  have hn : numB l = true := by
    simp only [numB, Bool.and_eq_true, Bool.not_eq_true', List.isEmpty_eq_false_iff, decide_eq_true_eq, List.all_eq_true]
    exact ⟨⟨h1, h0⟩, h20⟩
  unfold parseN
  rw [hn, ← h2, if_pos ⟨rfl, h3⟩]

/-! ### The order of texts of numbers -/
theorem dec_len_le {a b : Nat} (h : a ≤ b) : (Lib.decDigits a).length ≤ (Lib.decDigits b).length := by
  rw [Lib.decDigits_length, Lib.decDigits_length]
  induction b using Nat.strongRecOn generalizing a with
  | _ b ih =>
    by_cases ha : a < 10
    · rw [Lib.nDigits_small ha]; exact Lib.nDigits_pos b
    · rw [Lib.nDigits_big ha, Lib.nDigits_big (u := b) (by omega)]
      have := ih (b / 10) (by omega) (a := a / 10) (Nat.div_le_div_right h)
      omega
theorem lt_digits : ∀ (l m : List UInt8), l.length = m.length → l.all digitB = true → m.all digitB = true → (l < m ↔ dval 0 l < dval 0 m)
  | [], [], _, _, _ => by simp [dval_nil]
  | [], _ :: _, h, _, _ => by simp at h
  | _ :: _, [], h, _, _ => by simp at h
  | c :: l, d :: m, h, hl, hm => by
    simp only [List.all_cons, Bool.and_eq_true] at hl hm
    have hc := digit_is.1 hl.1
    have hd := digit_is.1 hm.1
    have hlen : l.length = m.length := by simpa using h
    have ih := lt_digits l m hlen hl.2 hm.2
    have bl := dval_lt l hl.2
    have bm := dval_lt m hm.2
    rw [hlen] at bl
    rw [List.cons_lt_cons_iff, dval_cons, dval_cons, dval_lin l, dval_lin m, hlen, Nat.zero_mul, Nat.zero_add, Nat.zero_add, ih]
    by_cases e : c = d
    · subst e
      constructor
      · rintro (h | h)
        · exact absurd h (by simp)
        · omega
      · intro h; exact .inr ⟨rfl, by omega⟩
    · have hne : c.toNat ≠ d.toNat := fun h => e (UInt8.toNat_inj.1 h)
      rw [UInt8.lt_iff_toNat_lt]
      constructor
      · rintro (h | h)
        · have : (c.toNat - 48 + 1) * 10 ^ m.length ≤ (d.toNat - 48) * 10 ^ m.length := Nat.mul_le_mul_right _ (by omega)
          rw [Nat.add_mul] at this
          omega
        · exact absurd h.1 e
      · intro h
        left
        rcases Nat.lt_or_ge c.toNat d.toNat with h' | h'
        · exact h'
        · have : (d.toNat - 48 + 1) * 10 ^ m.length ≤ (c.toNat - 48) * 10 ^ m.length := Nat.mul_le_mul_right _ (by omega)
          rw [Nat.add_mul] at this
          omega
theorem dec_order (a b : Nat) : ((Lib.decDigits a).length < (Lib.decDigits b).length ∨ (Lib.decDigits a).length = (Lib.decDigits b).length ∧ Lib.decDigits a < Lib.decDigits b) ↔ a < b := by
  constructor
  · rintro (h | ⟨h1, h2⟩)
    · rcases Nat.lt_or_ge a b with h' | h'
      · exact h'
      · have := dec_len_le h'; omega
    · have := (lt_digits _ _ h1 (dec_all a) (dec_all b)).1 h2
      rwa [dval_dec, dval_dec] at this
  · intro h
    have h1 := dec_len_le (Nat.le_of_lt h)
    by_cases e : (Lib.decDigits a).length = (Lib.decDigits b).length
    · right; refine ⟨e, (lt_digits _ _ e (dec_all a) (dec_all b)).2 ?_⟩
      rw [dval_dec, dval_dec]; exact h
    · left; omega

/-! ### Signed ones -/
theorem signed_neg {u : Nat} (h : u < 18446744073709551616) : signedN (45 :: Lib.decDigits u) = if u ≤ 9223372036854775808 then some (-(u : Int)) else none := by
  simp only [signedN, if_true, parse_dec h]
theorem signed_plain {l : List UInt8} (h : ∀ r, l ≠ 45 :: r) : signedN l = match parseN l with | some u => if u < 9223372036854775808 then some (u : Int) else none | none => none := by
  cases l with
  | nil => simp [signedN, parse_nil]
  | cons c r => rw [signedN, if_neg (fun hc => h r (by rw [hc]))]
theorem dec_no_minus (u : Nat) (r : List UInt8) : Lib.decDigits u ≠ 45 :: r := by
  intro h
  have : digitB 45 = true := dec_digit (u := u) (by rw [h]; simp)
  exact absurd this (by decide)
theorem signed_dec {u : Nat} (h : u < 18446744073709551616) : signedN (Lib.decDigits u) = if u < 9223372036854775808 then some (u : Int) else none := by
  rw [signed_plain (dec_no_minus u), parse_dec h]
/-- A byte that is no digit, anywhere in a number's text. -/
theorem spoilt_none (u i : Nat) {b : UInt8} (hb : digitB b = false) : parseN ((Lib.decDigits u).take i ++ b :: (Lib.decDigits u).drop i) = none := parse_bad (c := b) (by simp) hb
theorem spoilt_signed (u : Nat) {i : Nat} {b : UInt8} (hb : digitB b = false) (h : ¬ (i = 0 ∧ b = 45)) : signedN ((Lib.decDigits u).take i ++ b :: (Lib.decDigits u).drop i) = none := by
  rw [signed_plain, spoilt_none u i hb]
  intro r hr
  cases i with
  | zero =>
    rw [List.take_zero, List.nil_append] at hr
    exact h ⟨rfl, (List.cons.inj hr).1⟩
  | succ i =>
    cases hd : Lib.decDigits u with
    | nil => exact dec_nonempty u hd
    | cons c r' =>
      rw [hd, List.take_succ_cons, List.cons_append] at hr
      rw [(List.cons.inj hr).1] at hd
      exact dec_no_minus u r' hd
end Go.Proofs.YtaooangnnlopcaaDoor
namespace Go.Proofs.YtaooangnnlopcaaDoor
open Go.RowKit

theorem good_all_digits {l : List UInt8} (h : Good (fun c => !digitB c) l l.length) : l.all digitB = true := by
  rw [List.all_eq_true]
  intro x hx
  obtain ⟨j, hj, rfl⟩ := List.getElem_of_mem hx
  simpa using h j hj _ (List.getElem?_eq_getElem hj)
theorem bad_digit {l : List UInt8} {k : Nat} {c : UInt8} (hc : l[k]? = some c) (h : digitB c = false) : numB l = false := by
  have : l.all digitB = false := by
    rw [Bool.eq_false_iff]
    intro ha
    rw [List.all_eq_true] at ha
    rw [ha c (List.mem_of_getElem? hc)] at h
    cases h
  simp [numB, this]

set_option maxHeartbeats 1000000 in
set_option maxRecDepth 100000 in
theorem number_any (s : ByteArray) (w : World) :
    Calls Tryd.prog 41 #[.string s] w fun e w' => e = .returned (.bool (numB (bs s))) ∧ Below w.heap.size w w' := by
  go_enter Tryd.func41, Tryd.ntmps41
  go_wp2
  go_loopw [2] (fun n w' => ∃ pos : Nat, w' = w.iter s pos ∧ n = .bool false ∧ pos ≤ s.size ∧ Good (fun c => !digitB c) (bs s) pos) (fun _ w' => s.size - w'.iterPos w.heap.size)
  case atStart => exact ⟨0, rfl, rfl, Nat.zero_le _, good_zero _ _⟩
  case round =>
    obtain ⟨pos, rfl, rfl, hps, hg⟩ := hrel
    have HG := Lib.hid hg
    have hbl : ∀ q, Below w.heap.size w (w.iter s q) := fun q => (Below.refl _ _).alloc (Nat.le_refl _) _
    clear hg
    by_cases hp : pos < s.size
    · have hget := bs_get? hp
      have HGET := Lib.hid hget
      clear hget
      generalize hc : s[pos] = c at HGET
      by_cases hd : digitB c = true
      · have hd' := hd
        simp only [digitB, Bool.and_eq_true, decide_eq_true_eq] at hd
        have hnx : ∀ ty, (Instr.next (.pointer (some ⟨w.heap.size, 0, none⟩)) true ty).run Tryd.prog (w.iter s pos) = .ok (.tuple #[.bool true, .int .i64 pos, .int .i32 (c.toNat : Int)]) (w.iter s (pos + 1)) := fun ty => by
          rw [run_next_any w s pos ty hp, decode_ascii s pos hp (by rw [hc]; omega), hc]
        have h1 : ¬ ((c.toNat : Int) < 48) := by omega
        have h2 : ¬ ((57 : Int) < (c.toNat : Int)) := by omega
        clear hd
        go_wp2
        go_roundw
        case rel => exact ⟨pos + 1, rfl, rfl, by omega, good_step HGET.out (by simp [hd']) HG.out⟩
        case measure => simp; omega
      · have hd0 : digitB c = false := by simpa using hd
        have hn : numB (bs s) = false := bad_digit HGET.out hd0
        have HN := Lib.hid hn
        by_cases h128 : c.toNat < 128
        · have hnx : ∀ ty, (Instr.next (.pointer (some ⟨w.heap.size, 0, none⟩)) true ty).run Tryd.prog (w.iter s pos) = .ok (.tuple #[.bool true, .int .i64 pos, .int .i32 (c.toNat : Int)]) (w.iter s (pos + 1)) := fun ty => by
            rw [run_next_any w s pos ty hp, decode_ascii s pos hp (by rw [hc]; omega), hc]
          by_cases h48 : c.toNat < 48
          · have h1 : (c.toNat : Int) < 48 := by omega
            clear hd hd0 hn h128 h48
            go_wp2
            go_ret
            exact ⟨by rw [HN.out]; rfl, hbl _⟩
          · have h1 : ¬ ((c.toNat : Int) < 48) := by omega
            have h2 : (57 : Int) < (c.toNat : Int) := by
              simp only [digitB, Bool.and_eq_false_iff, decide_eq_false_iff_not] at hd0
              omega
            clear hd hd0 hn h128 h48
            go_wp2
            go_ret
            exact ⟨by rw [HN.out]; rfl, hbl _⟩
        · have hhi := (decode_high s pos hp (by rw [hc]; omega)).1
          have hnx : ∀ ty, (Instr.next (.pointer (some ⟨w.heap.size, 0, none⟩)) true ty).run Tryd.prog (w.iter s pos) = _ := fun ty => run_next_any w s pos ty hp
          have h1 : ¬ (((Utf8.decode s pos).1 : Int) < 48) := by omega
          have h2 : (57 : Int) < ((Utf8.decode s pos).1 : Int) := by omega
          clear hd hd0 hn h128 hhi
          go_wp2
          go_ret
          exact ⟨by rw [HN.out]; rfl, hbl _⟩
    · have hnx : ∀ ty, (Instr.next (.pointer (some ⟨w.heap.size, 0, none⟩)) true ty).run Tryd.prog (w.iter s pos) = _ := fun ty => run_next_end w s pos ty hp
      obtain rfl : pos = s.size := by omega
      have hall : (bs s).all digitB = true := good_all_digits (by rw [bs_length]; exact HG.out)
      have hnum : numB (bs s) = (!(bs s).isEmpty && decide (s.size ≤ 20)) := by simp [numB, hall]
      have HNUM := Lib.hid hnum
      clear hall hnum
      by_cases he : s.toList.isEmpty = true
      · have h0 := bs_empty he
        go_wp2
        go_ret
        exact ⟨by rw [HNUM.out, h0]; rfl, hbl _⟩
      · have he' : s.toList.isEmpty = false := by simpa using he
        have h0 := bs_some he'
        have h1 : (!(bs s).isEmpty) = true := by simpa using h0
        clear he
        by_cases h20 : s.size ≤ 20
        · have h2 : (s.size : Int) ≤ 20 := by omega
          go_wp2
          go_ret
          exact ⟨by rw [HNUM.out, h1]; simp [h20], hbl _⟩
        · have h2 : ¬ ((s.size : Int) ≤ 20) := by omega
          go_wp2
          go_ret
          exact ⟨by rw [HNUM.out, h1]; simp [h20], hbl _⟩

def decrN (n b : Int) : Int := if b ≤ n then n - b else 0
theorem incr_any (n b : Int) (w : World) : Calls Tryd.prog 69 #[.int .u64 n, .int .u64 b] w fun e w' => e = .returned (.int .u64 (IntKind.u64.wrap (n + b))) ∧ w = w' := by
  go_enter Tryd.func69, Tryd.ntmps69
  go_wp2_with fail
  go_ret
  exact ⟨rfl, rfl⟩
theorem decr_any (n b : Int) (w : World) (hn0 : 0 ≤ n) (hn : n < 18446744073709551616) (hb0 : 0 ≤ b) (hb : b < 18446744073709551616) : Calls Tryd.prog 71 #[.int .u64 n, .int .u64 b] w fun e w' => e = .returned (.int .u64 (decrN n b)) ∧ w = w' := by
  by_cases h : b ≤ n
  · have e : decrN n b = n - b := by simp [decrN, h]
    rw [e]
    go_enter Tryd.func71, Tryd.ntmps71
    go_wp2_with fail
    go_ret
    exact ⟨ret_congr (int_congr (by omega)), rfl⟩
  · have e : decrN n b = 0 := by simp [decrN, h]
    rw [e]
    go_enter Tryd.func71, Tryd.ntmps71
    go_wp2_with fail
    go_ret
    exact ⟨ret_congr (int_congr (by omega)), rfl⟩
end Go.Proofs.YtaooangnnlopcaaDoor
namespace Go.Proofs.YtaooangnnlopcaaDoor
open Go.RowKit

/-- The library's variable ErrRange holds an error. -/
def HasErr (w : World) : Prop := ∃ tp p, w.var? Tryd.prog "strconv.ErrRange" = some #[.iface tp p]
theorem HasErr.below {w w' : World} (h : HasErr w) (hb : Below w.heap.size w w') : HasErr w' := by
  obtain ⟨tp, p, h⟩ := h
  have hg : Tryd.prog.globalNamed "strconv.ErrRange" = some 2 := by kernel_rfl
  have hc := World.var?_cell hg h 0
  exact ⟨tp, p, var?_below hb hg (cell_lt hc) h⟩

def parseV (l : List UInt8) : Value := match parseN l with | some u => .tuple #[.int .u64 u, .bool true] | none => .tuple #[.int .u64 0, .bool false]
theorem parseV_none {l : List UInt8} (h : parseN l = none) : parseV l = .tuple #[.int .u64 0, .bool false] := by simp [parseV, h]
theorem parseV_some {l : List UInt8} {u : Nat} (h : parseN l = some u) : parseV l = .tuple #[.int .u64 u, .bool true] := by simp [parseV, h]
theorem num_parse {l : List UInt8} (h : numB l = true) : (parseN l = none ∧ Lib.parseUintB 64 l = .range) ∨ ∃ u, parseN l = some u ∧ Lib.parseUintB 64 l = .ok u := by
  rw [parse_uint h]
  unfold parseN
  by_cases hd : dval 0 l < 18446744073709551616
  · right; exact ⟨_, by rw [if_pos ⟨h, hd⟩], by rw [if_pos hd]⟩
  · left; exact ⟨by rw [if_neg (by rintro ⟨_, h⟩; exact hd h)], by rw [if_neg hd]⟩
theorem num_size {s : ByteArray} (h : numB (bs s) = true) : s.size ≤ 20 := by
  rw [← bs_length]; exact num_short h
theorem parse_no {l : List UInt8} (h : numB l = false) : parseN l = none := by unfold parseN; rw [h]; simp

set_option maxHeartbeats 1000000 in
set_option maxRecDepth 100000 in
theorem parse_any (s : ByteArray) (w : World) (hE : HasErr w) :
    Calls Tryd.prog 19 #[.string s] w fun e w' => e = .returned (parseV (bs s)) ∧ Below w.heap.size w w' := by
  have HE := Lib.hid hE
  have HN := Lib.hid (number_any s w)
  clear hE
  by_cases hn : numB (bs s) = true
  · have hz := num_size hn
    rw [hn] at HN
    rcases num_parse hn with ⟨hp, hr⟩ | ⟨u, hp, hu⟩
    · have hv := parseV_none hp
      rw [hv]
      have HR := Lib.hid hr
      clear hr hn hv hp
      go_enter Tryd.func19, Tryd.ntmps19
      go_wp2_with fail
      refine HN.out.mono ?_
      rintro e w1 ⟨rfl, hb1⟩
      obtain ⟨tp, p, hvar⟩ := HE.out.below hb1
      have HV := Lib.hid hvar
      clear hvar
      go_wp2_with fail
      refine (Tryd.strconv_ParseUint_10_at64_range_var s (by omega) HR.out tp p w1 HV.out).mono ?_
      rintro e w2 ⟨N, rfl, _, _, hb2⟩
      go_wp2_with fail
      go_ret2
      exact ⟨rfl, hb1.trans (hb2.mono hb1.size)⟩
    · have hv := parseV_some hp
      rw [hv]
      have HR := Lib.hid hu
      clear hu hn hv hp
      go_enter Tryd.func19, Tryd.ntmps19
      go_wp2_with fail
      refine HN.out.mono ?_
      rintro e w1 ⟨rfl, hb1⟩
      go_wp2_with fail
      refine (Tryd.strconv_ParseUint_10_at64_ok s (by omega) u HR.out w1).mono ?_
      rintro e w2 ⟨rfl, hw2⟩
      have hb2 : Below w1.heap.size w1 w2 := by
        rcases hw2 with rfl | rfl
        · exact Below.refl _ _
        · exact Lib.bytesWorld_below _ _ _
      go_wp2_with fail
      go_ret2
      exact ⟨rfl, hb1.trans (hb2.mono hb1.size)⟩
  · have hn0 : numB (bs s) = false := by simpa using hn
    rw [hn0] at HN
    have hv := parseV_none (parse_no hn0)
    rw [hv]
    clear hn hn0 hv
    go_enter Tryd.func19, Tryd.ntmps19
    go_wp2_with fail
    refine HN.out.mono ?_
    rintro e w1 ⟨rfl, hb1⟩
    go_wp2_with fail
    go_ret2
    exact ⟨rfl, hb1⟩

def signedV (l : List UInt8) : Value := match signedN l with | some z => .tuple #[.int .i64 z, .bool true] | none => .tuple #[.int .i64 0, .bool false]
theorem signedV_none {l : List UInt8} (h : signedN l = none) : signedV l = .tuple #[.int .i64 0, .bool false] := by simp [signedV, h]
theorem signedV_some {l : List UInt8} {z : Int} (h : signedN l = some z) : signedV l = .tuple #[.int .i64 z, .bool true] := by simp [signedV, h]
theorem parse_at (l : List UInt8) (w : World) (hE : HasErr w) : Calls Tryd.prog 19 #[sv l] w fun e w' => e = .returned (parseV l) ∧ Below w.heap.size w w' := parse_any ⟨l.toArray⟩ w hE
theorem neg_wrap {u : Nat} (h : u ≤ 9223372036854775808) : IntKind.i64.wrap (IntKind.u64.wrap (-(u : Int))) = -(u : Int) := by
  rw [IntKind.wrap_u64, IntKind.wrap_i64]
  by_cases h0 : u = 0
  · subst h0; rfl
  · rw [show (-(u : Int)) % 18446744073709551616 = 18446744073709551616 - u from by omega]; omega

/-- One of 32 bits. -/
def parse32N (l : List UInt8) : Option Nat := match parseN l with | some u => if u < 4294967296 then some u else none | none => none
def parse32V (l : List UInt8) : Value := match parse32N l with | some u => .tuple #[.int .u32 u, .bool true] | none => .tuple #[.int .u32 0, .bool false]
theorem parse32V_none {l : List UInt8} (h : parse32N l = none) : parse32V l = .tuple #[.int .u32 0, .bool false] := by simp [parse32V, h]
theorem parse32V_some {l : List UInt8} {u : Nat} (h : parse32N l = some u) : parse32V l = .tuple #[.int .u32 u, .bool true] := by simp [parse32V, h]

end Go.Proofs.YtaooangnnlopcaaDoor
