/- Plain: the value of a text of digits, texts of numbers, their order, what is a number's text. No condition. -/
import Derived.Test.YtahpjhnbjkjkiaaGreatDoorText
import Derived.Lib.ParseIntB
namespace Go.Proofs.YtahpjhnbjkjkiaaGreatDoor

def digitB (c : UInt8) : Bool := decide (48 ≤ c.toNat) && decide (c.toNat ≤ 57)
def numB (l : List UInt8) : Bool := l.all digitB && !l.isEmpty && decide (l.length ≤ 20)
/-- The value of digits behind a value. -/
def dig (a : Nat) (c : UInt8) : Nat := a * 10 + (c.toNat - 48)
def dval (a : Nat) (l : List UInt8) : Nat := l.foldl dig a
theorem dval_nil (a : Nat) : dval a [] = a := by simp only [dval, List.foldl_nil]
theorem dval_cons (a : Nat) (c : UInt8) (r : List UInt8) : dval a (c :: r) = dval (a * 10 + (c.toNat - 48)) r := by simp only [dval, List.foldl_cons, dig]
/-- The number that a text is, if it is one. -/
def parseN (l : List UInt8) : Option Nat := if numB l = true ∧ dval 0 l < 18446744073709551616 then some (dval 0 l) else none
/-- The signed one. -/
def signedN (l : List UInt8) : Option Int :=
  match l with
  | [] => none
  | c :: r => if c = 45 then (match parseN r with | some u => if u ≤ 9223372036854775808 then some (-(u : Int)) else none | none => none)
    else (match parseN (c :: r) with | some u => if u < 9223372036854775808 then some (u : Int) else none | none => none)

theorem digit_is {c : UInt8} : digitB c = true ↔ 48 ≤ c.toNat ∧ c.toNat ≤ 57 := by simp [digitB]
theorem dval_lin : ∀ (l : List UInt8) (a : Nat), dval a l = a * 10 ^ l.length + dval 0 l
  | [], a => by simp [dval_nil]
  | c :: r, a => by
    rw [dval_cons, dval_lin r, dval_cons, dval_lin r (0 * 10 + (c.toNat - 48)), List.length_cons, Nat.pow_succ, Nat.add_mul, Nat.zero_mul, Nat.zero_add]
    rw [Nat.mul_assoc, Nat.mul_comm 10]
    omega
theorem dval_append : ∀ (l m : List UInt8) (a : Nat), dval a (l ++ m) = dval (dval a l) m
  | [], _, _ => by rw [List.nil_append, dval_nil]
  | c :: l, m, a => by rw [List.cons_append, dval_cons, dval_append l m, dval_cons]
theorem dval_lt : ∀ (l : List UInt8), l.all digitB = true → dval 0 l < 10 ^ l.length
  | [], _ => by simp [dval_nil]
  | c :: r, h => by
    simp only [List.all_cons, Bool.and_eq_true] at h
    have h1 := dval_lt r h.2
    have h2 := digit_is.1 h.1
    rw [dval_cons, dval_lin, List.length_cons, Nat.pow_succ, Nat.zero_mul, Nat.zero_add]
    have h3 : (c.toNat - 48) * 10 ^ r.length ≤ 9 * 10 ^ r.length := Nat.mul_le_mul_right _ (by omega)
    omega
theorem dval_zeros (k : Nat) (l : List UInt8) : dval 0 (List.replicate k 48 ++ l) = dval 0 l := by
  induction k with
  | zero => rfl
  | succ k ih => rw [List.replicate_succ, List.cons_append, dval_cons]; exact ih
theorem digit_ofNat {d : Nat} (h : d < 10) : (UInt8.ofNat (48 + d)).toNat = 48 + d := by
  simp [UInt8.toNat_ofNat]; omega
theorem dval_dec (u : Nat) : dval 0 (Lib.decDigits u) = u := by
  induction u using Nat.strongRecOn with
  | _ u ih =>
    by_cases h : u < 10
    · rw [dec_small h, dval_cons, dval_nil, digit_ofNat (by omega)]; omega
    · rw [dec_big h, dval_append, ih (u / 10) (by omega), dval_cons, dval_nil, digit_ofNat (by omega)]; omega
theorem dec_all (u : Nat) : (Lib.decDigits u).all digitB = true := by
  induction u using Nat.strongRecOn with
  | _ u ih =>
    by_cases h : u < 10
    · rw [dec_small h]; simp [digitB]; omega
    · rw [dec_big h, List.all_append, ih (u / 10) (by omega)]; simp [digitB]; omega
theorem dec_head {u : Nat} (h0 : 0 < u) : ∃ c r, Lib.decDigits u = c :: r ∧ c ≠ 48 := by
  induction u using Nat.strongRecOn with
  | _ u ih =>
    by_cases h : u < 10
    · refine ⟨_, _, dec_small h, fun e => ?_⟩
      have := congrArg UInt8.toNat e
      rw [digit_ofNat (by omega)] at this
      simp at this; omega
    · obtain ⟨c, r, e, hc⟩ := ih (u / 10) (by omega) (by omega)
      exact ⟨c, r ++ [UInt8.ofNat (48 + u % 10)], by rw [dec_big h, e]; rfl, hc⟩
theorem dec_zero : Lib.decDigits 0 = [48] := by rw [dec_small (by omega)]; rfl
theorem dec_digit {u : Nat} {c : UInt8} (h : c ∈ Lib.decDigits u) : digitB c = true := List.all_eq_true.1 (dec_all u) c h
theorem dec_inj {a b : Nat} (h : Lib.decDigits a = Lib.decDigits b) : a = b := by
  rw [← dval_dec a, h, dval_dec]
theorem dec_nonempty (u : Nat) : Lib.decDigits u ≠ [] := by
  rcases Nat.eq_zero_or_pos u with rfl | h
  · rw [dec_zero]; simp
  · obtain ⟨c, r, e, _⟩ := dec_head h; rw [e]; simp
theorem num_dec {u : Nat} (h : u < 18446744073709551616) : numB (Lib.decDigits u) = true := by
  have h1 := dec_short u h
  have h2 := dec_nonempty u
  simp only [numB, dec_all, Bool.true_and, Bool.and_eq_true, Bool.not_eq_true', List.isEmpty_eq_false_iff, decide_eq_true_eq]
  exact ⟨h2, h1⟩
theorem parse_dec {u : Nat} (h : u < 18446744073709551616) : parseN (Lib.decDigits u) = some u := by
  unfold parseN
  rw [num_dec h, dval_dec, if_pos ⟨rfl, h⟩]
theorem parse_lt {l : List UInt8} {u : Nat} (h : parseN l = some u) : u < 18446744073709551616 := by
  unfold parseN at h
  split at h
  · cases h; rename_i h; exact h.2
  · cases h

/-- With noughts ahead. -/
theorem parse_zeros {u : Nat} (h : u < 18446744073709551616) (k : Nat) : parseN (List.replicate k 48 ++ Lib.decDigits u) = if k + (Lib.decDigits u).length ≤ 20 then some u else none := by
  have h1 : (List.replicate k 48).all digitB = true := by
    rw [List.all_eq_true]; intro x hx; rw [List.eq_of_mem_replicate hx]; rfl
  have h2 : numB (List.replicate k 48 ++ Lib.decDigits u) = decide (k + (Lib.decDigits u).length ≤ 20) := by
    have h3 := dec_nonempty u
    simp [numB, h1, dec_all, h3]
  unfold parseN
  rw [h2, dval_zeros, dval_dec]
  by_cases hk : k + (Lib.decDigits u).length ≤ 20
  · rw [if_pos ⟨by simpa using hk, h⟩, if_pos hk]
  · rw [if_neg (by simp; omega), if_neg hk]

theorem parse_uintM : ∀ (l : List UInt8) (a : Nat), l.all digitB = true → a < 18446744073709551616 → Lib.parseUintM (2 ^ 64 - 1) a l = if dval a l < 18446744073709551616 then .ok (dval a l) else .range
  | [], a, _, ha => by rw [Lib.parseUintM, dval_nil, if_pos ha]
  | c :: r, a, h, ha => by
    simp only [List.all_cons, Bool.and_eq_true] at h
    have hd := digit_is.1 h.1
    rw [Lib.parseUintM, if_pos hd, dval_cons]
    have hge : a * 10 + (c.toNat - 48) ≤ dval (a * 10 + (c.toNat - 48)) r := by
      rw [dval_lin]
      have := Nat.le_mul_of_pos_right (a * 10 + (c.toNat - 48)) (Nat.pow_pos (n := r.length) (show 0 < 10 by omega))
      omega
    by_cases h1 : 1844674407370955162 ≤ a
    · rw [if_pos h1, if_neg (by omega)]
    · rw [if_neg h1]
      by_cases h2 : 2 ^ 64 - 1 < a * 10 + (c.toNat - 48)
      · rw [if_pos h2, if_neg (by omega)]
      · rw [if_neg h2, parse_uintM r _ h.2 (by omega)]
theorem parse_uint {l : List UInt8} (h : numB l = true) : Lib.parseUintB 64 l = if dval 0 l < 18446744073709551616 then .ok (dval 0 l) else .range := by
  simp only [numB, Bool.and_eq_true, Bool.not_eq_true', decide_eq_true_eq] at h
  unfold Lib.parseUintB
  rw [if_neg (by rintro rfl; simp at h), parse_uintM l 0 h.1.1 (by omega)]
theorem num_short {l : List UInt8} (h : numB l = true) : l.length ≤ 20 := by
  simp only [numB, Bool.and_eq_true, decide_eq_true_eq] at h
  exact h.2
theorem num_bad {l : List UInt8} {c : UInt8} (hc : c ∈ l) (h : digitB c = false) : numB l = false := by
  have : l.all digitB = false := by
    rw [Bool.eq_false_iff]; intro ha
    rw [List.all_eq_true] at ha
    rw [ha c hc] at h; cases h
  simp [numB, this]
theorem parse_bad {l : List UInt8} {c : UInt8} (hc : c ∈ l) (h : digitB c = false) : parseN l = none := by
  unfold parseN; rw [num_bad hc h]; simp
theorem parse_nil : parseN [] = none := by simp [parseN, numB]
theorem parse_long {l : List UInt8} (h : 20 < l.length) : parseN l = none := by
  unfold parseN
  rw [if_neg]
  rintro ⟨h1, _⟩
  have := num_short h1
  omega

/-- The reference's scan: behind i bytes of a text of 1 to 20 bytes. -/
def Scan (l : List UInt8) (i n : Nat) : Prop := (∀ c ∈ l.take i, digitB c = true) ∧ n = dval 0 (l.take i) ∧ n < 18446744073709551616
theorem scan_zero (l : List UInt8) : Scan l 0 0 := ⟨by simp, rfl, by omega⟩
theorem scan_next {l : List UInt8} {i n : Nat} {c : UInt8} (h : Scan l i n) (hc : l[i]? = some c) (hd : digitB c = true) (hn : n * 10 + (c.toNat - 48) < 18446744073709551616) : Scan l (i + 1) (n * 10 + (c.toNat - 48)) := by
  obtain ⟨h1, h2, h3⟩ := h
  have ht : l.take (i + 1) = l.take i ++ [c] := by rw [List.take_add_one, hc]; rfl
  refine ⟨?_, ?_, hn⟩
  · rw [ht]; intro x hx
    rcases List.mem_append.1 hx with hx | hx
    · exact h1 x hx
    · rw [List.mem_singleton.1 hx]; exact hd
  · rw [ht, dval_append, ← h2]; rfl
theorem scan_bad {l : List UInt8} {i : Nat} {c : UInt8} (hc : l[i]? = some c) (hd : digitB c = false) : parseN l = none := parse_bad (List.mem_of_getElem? hc) hd
theorem scan_over {l : List UInt8} {i n : Nat} {c : UInt8} (h : Scan l i n) (hc : l[i]? = some c) (hn : ¬ n * 10 + (c.toNat - 48) < 18446744073709551616) : parseN l = none := by
  obtain ⟨hi, hci⟩ := List.getElem?_eq_some_iff.1 hc
  have hl : l = l.take i ++ (c :: l.drop (i + 1)) := by
    rw [← hci, ← List.drop_eq_getElem_cons hi, List.take_append_drop]
  unfold parseN
  rw [if_neg]
  rintro ⟨_, h2⟩
  rw [hl, dval_append, ← h.2.1, dval_cons, dval_lin] at h2
  have := Nat.le_mul_of_pos_right (n * 10 + (c.toNat - 48)) (Nat.pow_pos (n := (l.drop (i + 1)).length) (show 0 < 10 by omega))
  omega
theorem scan_end {l : List UInt8} {n : Nat} (h : Scan l l.length n) (h0 : l ≠ []) (h20 : l.length ≤ 20) : parseN l = some n := by
  obtain ⟨h1, h2, h3⟩ := h
  rw [List.take_length] at h1 h2
  have hn : numB l = true := by
    simp only [numB, Bool.and_eq_true, Bool.not_eq_true', List.isEmpty_eq_false_iff, decide_eq_true_eq, List.all_eq_true]
    exact ⟨⟨h1, h0⟩, h20⟩
  unfold parseN
  rw [hn, ← h2, if_pos ⟨rfl, h3⟩]

/-! ### The order of texts of numbers -/
theorem dec_len_le {a b : Nat} (h : a ≤ b) : (Lib.decDigits a).length ≤ (Lib.decDigits b).length := by
  rw [Lib.decDigits_length, Lib.decDigits_length]
  induction b using Nat.strongRecOn generalizing a with
  | _ b ih =>
    by_cases ha : a < 10
    · rw [Lib.nDigits_small ha]; exact Lib.nDigits_pos b
    · rw [Lib.nDigits_big ha, Lib.nDigits_big (u := b) (by omega)]
      have := ih (b / 10) (by omega) (a := a / 10) (Nat.div_le_div_right h)
      omega
theorem lt_digits : ∀ (l m : List UInt8), l.length = m.length → l.all digitB = true → m.all digitB = true → (l < m ↔ dval 0 l < dval 0 m)
  | [], [], _, _, _ => by simp [dval_nil]
  | [], _ :: _, h, _, _ => by simp at h
  | _ :: _, [], h, _, _ => by simp at h
  | c :: l, d :: m, h, hl, hm => by
    simp only [List.all_cons, Bool.and_eq_true] at hl hm
    have hc := digit_is.1 hl.1
    have hd := digit_is.1 hm.1
    have hlen : l.length = m.length := by simpa using h
    have ih := lt_digits l m hlen hl.2 hm.2
    have bl := dval_lt l hl.2
    have bm := dval_lt m hm.2
    rw [hlen] at bl
    rw [List.cons_lt_cons_iff, dval_cons, dval_cons, dval_lin l, dval_lin m, hlen, Nat.zero_mul, Nat.zero_add, Nat.zero_add, ih]
    by_cases e : c = d
    · subst e
      constructor
      · rintro (h | h)
        · exact absurd h (by simp)
        · omega
      · intro h; exact .inr ⟨rfl, by omega⟩
    · have hne : c.toNat ≠ d.toNat := fun h => e (UInt8.toNat_inj.1 h)
      rw [UInt8.lt_iff_toNat_lt]
      constructor
      · rintro (h | h)
        · have : (c.toNat - 48 + 1) * 10 ^ m.length ≤ (d.toNat - 48) * 10 ^ m.length := Nat.mul_le_mul_right _ (by omega)
          rw [Nat.add_mul] at this
          omega
        · exact absurd h.1 e
      · intro h
        left
        rcases Nat.lt_or_ge c.toNat d.toNat with h' | h'
        · exact h'
        · have : (d.toNat - 48 + 1) * 10 ^ m.length ≤ (c.toNat - 48) * 10 ^ m.length := Nat.mul_le_mul_right _ (by omega)
          rw [Nat.add_mul] at this
          omega
theorem dec_order (a b : Nat) : ((Lib.decDigits a).length < (Lib.decDigits b).length ∨ (Lib.decDigits a).length = (Lib.decDigits b).length ∧ Lib.decDigits a < Lib.decDigits b) ↔ a < b := by
  constructor
  · rintro (h | ⟨h1, h2⟩)
    · rcases Nat.lt_or_ge a b with h' | h'
      · exact h'
      · have := dec_len_le h'; omega
    · have := (lt_digits _ _ h1 (dec_all a) (dec_all b)).1 h2
      rwa [dval_dec, dval_dec] at this
  · intro h
    have h1 := dec_len_le (Nat.le_of_lt h)
    by_cases e : (Lib.decDigits a).length = (Lib.decDigits b).length
    · right; refine ⟨e, (lt_digits _ _ e (dec_all a) (dec_all b)).2 ?_⟩
      rw [dval_dec, dval_dec]; exact h
    · left; omega

/-! ### Signed ones -/
theorem signed_neg {u : Nat} (h : u < 18446744073709551616) : signedN (45 :: Lib.decDigits u) = if u ≤ 9223372036854775808 then some (-(u : Int)) else none := by
  simp only [signedN, if_true, parse_dec h]
theorem signed_plain {l : List UInt8} (h : ∀ r, l ≠ 45 :: r) : signedN l = match parseN l with | some u => if u < 9223372036854775808 then some (u : Int) else none | none => none := by
  cases l with
  | nil => simp [signedN, parse_nil]
  | cons c r => rw [signedN, if_neg (fun hc => h r (by rw [hc]))]
theorem dec_no_minus (u : Nat) (r : List UInt8) : Lib.decDigits u ≠ 45 :: r := by
  intro h
  have : digitB 45 = true := dec_digit (u := u) (by rw [h]; simp)
  exact absurd this (by decide)
theorem signed_dec {u : Nat} (h : u < 18446744073709551616) : signedN (Lib.decDigits u) = if u < 9223372036854775808 then some (u : Int) else none := by
  rw [signed_plain (dec_no_minus u), parse_dec h]
/-- A byte that is no digit, anywhere in a number's text. -/
theorem spoilt_none (u i : Nat) {b : UInt8} (hb : digitB b = false) : parseN ((Lib.decDigits u).take i ++ b :: (Lib.decDigits u).drop i) = none := parse_bad (c := b) (by simp) hb
theorem spoilt_signed (u : Nat) {i : Nat} {b : UInt8} (hb : digitB b = false) (h : ¬ (i = 0 ∧ b = 45)) : signedN ((Lib.decDigits u).take i ++ b :: (Lib.decDigits u).drop i) = none := by
  rw [signed_plain, spoilt_none u i hb]
  intro r hr
  cases i with
  | zero =>
    rw [List.take_zero, List.nil_append] at hr
    exact h ⟨rfl, (List.cons.inj hr).1⟩
  | succ i =>
    cases hd : Lib.decDigits u with
    | nil => exact dec_nonempty u hd
    | cons c r' =>
      rw [hd, List.take_succ_cons, List.cons_append] at hr
      rw [(List.cons.inj hr).1] at hd
      exact dec_no_minus u r' hd
end Go.Proofs.YtahpjhnbjkjkiaaGreatDoor
