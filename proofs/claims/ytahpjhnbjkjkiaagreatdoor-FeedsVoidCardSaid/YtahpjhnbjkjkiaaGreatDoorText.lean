/- Texts of numbers: nums.Text, strconv.FormatUint at base 10, the reference's Text: each is the number's decimal digits. Condition: the table of the powers of ten lies as the library lays it. -/
import Derived.Test.YtahpjhnbjkjkiaaGreatDoorBase
import Derived.Test.YtahpjhnbjkjkiaaGreatDoorShelf
import Derived.Lib.ItoaMem
namespace Go.Proofs.YtahpjhnbjkjkiaaGreatDoor
open Go.RowKit Go.Sort

/-- The library's table of the powers of ten. -/
def HasPow (w : World) : Prop := Lib.TabIs Tryz.prog w "internal/strconv.uint64pow10" .u64 Lib.pow10Tab
theorem HasPow.below {w w' : World} (h : HasPow w) (hb : Below w.heap.size w w') : HasPow w' := by
  have hg : Tryz.prog.globalNamed "internal/strconv.uint64pow10" = some 0 := by kernel_rfl
  have hc := h.cell hg 0 (by decide)
  exact var?_below hb hg (cell_lt hc) h

theorem holds0 (w : World) (T : TypeId) (nd : Nat) (hs : nd ≤ 24) : Holds (fun (b : UInt8) => Value.int .u8 (b.toNat : Int)) (w.alloc (.cells Lib.zeros24 T)) w.heap.size 0 (Array.replicate nd (0 : UInt8)) := fun j hj => by
  have hj' : j < nd := by simpa using hj
  refine ⟨?_, World.frozen?_alloc_new _ _ _ _⟩
  rw [World.cell?_alloc_new, Lib.zeros24_at _ (by omega), getElem!_pos _ j hj]
  simp
theorem below_fin (w : World) (o : Obj) (dk : Array UInt8) (k : Nat) : Below w.heap.size w ((putRow (fun (b : UInt8) => Value.int .u8 (b.toNat : Int)) (w.alloc o) w.heap.size 0 dk).drewN k) := by
  rw [alloc_eq_grow]
  obtain ⟨os', _, e⟩ := putRow_grow_new (fun (b : UInt8) => Value.int .u8 (b.toNat : Int)) w #[o] w.heap.size 0 dk (Nat.le_refl _)
  rw [e]
  have hb : Below w.heap.size w (grow w os') := ⟨rfl, rfl, rfl, by simp [grow], fun i hi => heap_grow_old w os' hi⟩
  exact below_drewN hb k

set_option maxHeartbeats 2000000 in
set_option maxRecDepth 100000 in
theorem formatUint_in (u : Nat) (hu : u < 18446744073709551616) (w : World) (hP : HasPow w) :
    Calls Tryz.prog 94 #[.int .u64 u, .int .i64 10] w fun e w' => e = .returned (sv (Lib.decDigits u)) ∧ Below w.heap.size w w' := by
  have HP := Lib.hid hP
  clear hP
  by_cases hs : u < 100
  · go_enter Tryz.func94, Tryz.ntmps94
    go_wp2_with fail
    refine (Tryz.internal_strconv_small u hs _).mono ?_
    rintro e w1 ⟨rfl, hw⟩
    rw [hw]
    go_wp2_with fail
    go_ret
    exact ⟨rfl, Below.refl _ _⟩
  · have hu1 : 1 ≤ u := by omega
    have hnd20 : Lib.nDigits u ≤ 20 := by have := Lib.numDigits_eq u hu1 hu; split at this <;> omega
    have hal : Tryz.prog.arrayLen 154 = 24 := by simp [Program.arrayLen, Tryz.underlying154]
    have hsl1 : ∀ W, (Instr.sliceAt 154 (.pointer (some ⟨w.heap.size, 0, none⟩)) none (some (.int .i64 (Lib.nDigits u : Int))) none).run Tryz.prog W = .ok (.slice (some ⟨w.heap.size, 0, none⟩) (Lib.nDigits u) 24) W := fun W => by
      rw [run_sliceAt_array_h W 154 ⟨w.heap.size, 0, none⟩ (by simp [Program.arrayLen, Program.elem, Tryz.underlying154]) .i64 (Lib.nDigits u : Int) (by omega) (by rw [hal]; omega)]
      go_simp
    have hH0 := holds0 w 154 (Lib.nDigits u) (by omega)
    have hfmt := Tryz.internal_strconv_formatBase10 w.heap.size 0 24 u (Array.replicate (Lib.nDigits u) 0) (w.alloc (.cells Lib.zeros24 154)) hH0 (by rw [Array.size_replicate]; exact Lib.lt_pow_nDigits u) hu (by rw [Array.size_replicate]; omega)
    rw [Array.size_replicate] at hfmt
    have HH0 := Lib.hid hH0
    have HF := Lib.hid hfmt
    clear hH0 hal hfmt
    go_enter Tryz.func94, Tryz.ntmps94
    go_wp2_with fail
    refine (Tryz.internal_strconv_numDigits u hu1 hu _ (Lib.tabIs_alloc HP.out _)).mono ?_
    rintro e w1 ⟨rfl, rfl⟩
    go_wp2_with fail
    refine HF.out.mono ?_
    rintro e w1 ⟨rfl, k, v', dk, rfl, hF⟩
    have hcv : (convert 23 9 (.slice (some ⟨w.heap.size, 0, none⟩) (Lib.nDigits u) 24)).run Tryz.prog ((putRow (fun (b : UInt8) => Value.int .u8 (b.toNat : Int)) (w.alloc (.cells Lib.zeros24 154)) w.heap.size 0 dk).drewN k) = .ok (sv (Lib.decDigits u)) ((putRow (fun (b : UInt8) => Value.int .u8 (b.toNat : Int)) (w.alloc (.cells Lib.zeros24 154)) w.heap.size 0 dk).drewN k) := by
      have h := run_convert_bytes_back (P := Tryz.prog) ((putRow (fun (b : UInt8) => Value.int .u8 (b.toNat : Int)) (w.alloc (.cells Lib.zeros24 154)) w.heap.size 0 dk).drewN k) 23 9 5 ⟨w.heap.size, 0, none⟩ 24 (Lib.decDigits u) Tryz.underlying23 Tryz.underlying5 Tryz.underlying9 (fun j hj => by
        rw [Lib.row_is_numeral hF j hj, Lib.add_plain, World.cell?_drewN]
        exact cell?_putRow (fun (b : UInt8) => Value.int .u8 (b.toNat : Int)) _ w.heap.size 0 _ dk HH0.out (by rw [hF.size, Array.size_replicate]) j (by rw [hF.size]; rw [Lib.decDigits_length] at hj; exact hj))
      rw [Lib.decDigits_length] at h
      exact h
    have hbf := below_fin w (.cells Lib.zeros24 154) dk k
    go_wp2_with fail
    go_ret
    exact ⟨rfl, hbf⟩

theorem formatUint_any (u : Nat) (hu : u < 18446744073709551616) (w : World) (hP : HasPow w) :
    Calls Tryz.prog 81 #[.int .u64 u, .int .i64 10] w fun e w' => e = .returned (sv (Lib.decDigits u)) ∧ Below w.heap.size w w' := by
  have h := formatUint_in u hu w hP
  generalize Lib.decDigits u = l at *
  have H := Lib.hid h
  clear h hP
  go_enter Tryz.func81, Tryz.ntmps81
  go_wp2_with fail
  refine H.out.mono ?_
  rintro e w1 ⟨rfl, hb⟩
  go_wp2_with fail
  go_ret
  exact ⟨rfl, hb⟩
/-- nums.Text: any number of 64 bits. -/
theorem text_any (n : Int) (h0 : 0 ≤ n) (hu : n < 18446744073709551616) (w : World) (hP : HasPow w) :
    Calls Tryz.prog 64 #[.int .u64 n] w fun e w' => e = .returned (sv (Lib.decDigits n.toNat)) ∧ Below w.heap.size w w' := by
  obtain ⟨u, rfl⟩ := Int.eq_ofNat_of_zero_le h0
  have h := formatUint_any u (by omega) w hP
  rw [Int.toNat_natCast]
  generalize Lib.decDigits u = l at *
  have H := Lib.hid h
  clear h hP
  go_enter Tryz.func64, Tryz.ntmps64
  go_wp2_with fail
  refine H.out.mono ?_
  rintro e w1 ⟨rfl, hb⟩
  go_wp2_with fail
  go_ret
  exact ⟨rfl, hb⟩

def digitOf (d : Int) : UInt8 := UInt8.ofNat (48 + d.toNat)
def TextRel (D : List UInt8) (m s : Value) : Prop := ∃ (k : Int) (l : List UInt8), m = .int .u64 k ∧ s = sv l ∧ 0 ≤ k ∧ Hid (k < 18446744073709551616 ∧ D = Lib.decDigits k.toNat ++ l)
def numOf (v : Value) : Nat := (intOf v).toNat
theorem digit_piece (d : Int) (h0 : 0 ≤ d) (h : d ≤ 9) (W : World) : (Instr.slice 9 (.string ⟨#[48, 49, 50, 51, 52, 53, 54, 55, 56, 57]⟩) (some (.int .u64 d)) (some (.int .u64 (d + 1))) none).run Tryz.prog W = .ok (sv [digitOf d]) W := by
  rw [run_slice_string (h := Tryz.underlying9) (h0 := h0) (h1 := by omega) (h2 := by show d + 1 ≤ 10; omega)]
  congr 1
  refine sv_of ?_
  rw [bs_extract]
  have : ∀ e : Fin 10, ((bs ⟨#[48, 49, 50, 51, 52, 53, 54, 55, 56, 57]⟩).take (e.val + 1)).drop e.val = [UInt8.ofNat (48 + e.val)] := by decide
  have h2 := this ⟨d.toNat, by omega⟩
  rw [show (d + 1).toNat = d.toNat + 1 from by omega]
  exact h2
theorem dec_big {u : Nat} (h : ¬ u < 10) : Lib.decDigits u = Lib.decDigits (u / 10) ++ [UInt8.ofNat (48 + u % 10)] := by rw [Lib.decDigits, dif_neg h]
theorem dec_small {u : Nat} (h : u < 10) : Lib.decDigits u = [UInt8.ofNat (48 + u % 10)] := by rw [Lib.decDigits, dif_pos h, Nat.mod_eq_of_lt h]
theorem dec_short (u : Nat) (h : u < 18446744073709551616) : (Lib.decDigits u).length ≤ 20 := by
  rw [Lib.decDigits_length]
  by_cases h1 : 1 ≤ u
  · have := Lib.numDigits_eq u h1 h; split at this <;> omega
  · obtain rfl : u = 0 := by omega
    rw [Lib.nDigits_small (by omega)]; omega

theorem u64_tenth {k : Int} (h0 : 0 ≤ k) (h : k < 18446744073709551616) : IntKind.u64.wrap (k.tdiv 10) = k / 10 := by
  rw [Int.tdiv_eq_ediv_of_nonneg h0, IntKind.wrap_u64]; omega
theorem digit_eq {k : Int} (h0 : 0 ≤ k) : [UInt8.ofNat (48 + k.toNat % 10)] = [digitOf (k % 10)] := by
  unfold digitOf
  rw [show (k % 10).toNat = k.toNat % 10 from by omega]

set_option maxHeartbeats 2000000 in
set_option maxRecDepth 100000 in
theorem refText_any (n : Int) (h0 : 0 ≤ n) (hu : n < 18446744073709551616) (w : World) :
    Calls Tryz.prog 85 #[.int .u64 n] w fun e w' => e = .returned (sv (Lib.decDigits n.toNat)) ∧ w = w' := by
  obtain ⟨u, rfl⟩ := Int.eq_ofNat_of_zero_le h0
  rw [Int.toNat_natCast]
  have hshort := dec_short u (by omega)
  obtain ⟨D, hD⟩ : ∃ D, D = Lib.decDigits u := ⟨_, rfl⟩
  rw [← hD] at hshort ⊢
  have HD := Lib.hid hD
  have HU := Lib.hid hu
  clear hD hu h0
  go_enter Tryz.func85, Tryz.ntmps85
  go_wp2_with fail
  go_loop [0, 3] (fun m s => TextRel D m s) (fun m _ => numOf m)
  case atStart => exact ⟨u, [], rfl, rfl, by omega, by rw [HD.out]; exact ⟨HU.out, by simp⟩⟩
  case round =>
    obtain ⟨k, l, rfl, rfl, hk, hl⟩ := hrel
    have hk0 : 0 ≤ k % 10 := by omega
    have hk9 : k % 10 ≤ 9 := by omega
    have hsl := fun W => digit_piece (k % 10) hk0 hk9 W
    have hlen : l.length ≤ 20 := by
      have h1 := hl.out.2
      have h2 := congrArg List.length h1
      rw [List.length_append] at h2
      omega
    by_cases h10 : k < 10
    · have hz : ((k / 10) == 0) = true := by rw [beq_iff_eq]; omega
      have hdiv := u64_tenth hk hl.out.1
      go_wp2_with fail
      go_ret
      refine ⟨ret_congr (sv_of ?_), rfl⟩
      rw [bs_append, hl.out.2, dec_small (u := k.toNat) (by omega), digit_eq hk]
    · have hz : ((k / 10) == 0) = false := by rw [beq_eq_false_iff_ne]; omega
      have hdiv := u64_tenth hk hl.out.1
      go_wp2_with fail
      go_round
      case rel =>
        refine ⟨k / 10, [digitOf (k % 10)] ++ l, rfl, sv_of (by rw [bs_append]), by omega, (by have := hl.out.1; clear hdiv; omega), ?_⟩
        rw [hl.out.2, dec_big (u := k.toNat) (by omega), List.append_assoc, digit_eq hk, show (k / 10).toNat = k.toNat / 10 from by omega]
      case measure => simp only [numOf, intOf]; omega
end Go.Proofs.YtahpjhnbjkjkiaaGreatDoor
