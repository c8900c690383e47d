/- The law NumsByte answers true. Conditions: the library's table of the powers of ten lies as it lays it, its variable ErrRange holds an error. -/
import Derived.Test.YtaokclnandjlpaaDoorNumsLives
import Derived.Deep.RegionWith
namespace Go.Proofs.YtaokclnandjlpaaDoor
open Go.RowKit

theorem none_str (s : ByteArray) (w : World) (hE : HasErr w) (hp : parseN (bs s) = none) : Calls Tryd.prog 62 #[.string s] w fun e w' => e = .returned (.bool true) ∧ Below w.heap.size w w' := none_any (bs s) w hE hp

set_option maxHeartbeats 8000000 in
set_option maxRecDepth 100000 in
theorem byte_core (n a bad : Int) (q : UInt8) (D : List UInt8) (i : Nat) (c : Int) (z : Bool) (w : World) (hb0 : 0 ≤ bad) (hb1 : bad ≤ 255) (ha0 : 0 ≤ a) (ha1 : a ≤ 255) (hD : D.length ≤ 20)
    (hq : (48 ≤ bad ∧ bad ≤ 57 ∧ bad - 10 = (q.toNat : Int)) ∨ ((bad < 48 ∨ 57 < bad) ∧ bad = (q.toNat : Int))) (hi : a % ((D.length : Int) + 1) = (i : Int))
    (hm : (((i : Int) == 0) = false ∧ z = false ∧ c = 0) ∨ (((i : Int) == 0) = true ∧ ((q.toNat : Int) == 45) = false ∧ z = false ∧ c = 0) ∨ (((i : Int) == 0) = true ∧ ((q.toNat : Int) == 45) = true ∧ n ≤ 9223372036854775808 ∧ z = true)
      ∨ (((i : Int) == 0) = true ∧ ((q.toNat : Int) == 45) = true ∧ decide (n ≤ 9223372036854775808) = false ∧ z = false ∧ c = 0))
    (ht : ∀ W, HasPow W → Calls Tryd.prog 58 #[.int .u64 n] W fun e w' => e = .returned (sv D) ∧ Below W.heap.size W w')
    (hps : ∀ W s, bs s = D.take i ++ q :: D.drop i → HasErr W → Calls Tryd.prog 51 #[.string s] W fun e w' => e = .returned (.tuple #[.int .i64 c, .bool z]) ∧ Below W.heap.size W w')
    (hno : parseN (D.take i ++ q :: D.drop i) = none) (hP : HasPow w) (hE : HasErr w) :
    Calls Tryd.prog 16 #[.int .u64 n, .int .u8 a, .int .u8 bad] w fun e w' => e = .returned (.bool true) ∧ Below w.heap.size w w' := by
  have hi1 : i ≤ D.length := by
    have := Int.emod_lt_of_pos a (show (0 : Int) < (D.length : Int) + 1 by omega)
    omega
  have HT := Lib.hid ht
  have HPS := Lib.hid hps
  have HNO := Lib.hid hno
  have HI := Lib.hid hi
  have HP := Lib.hid hP
  have HE := Lib.hid hE
  clear ht hps hno hi hP hE
  have hq255 : (q.toNat : Int) ≤ 255 := by have := q.toNat_lt; omega
  rcases hq with ⟨h48, h57, hq⟩ | ⟨hnd | hnd, rfl⟩
  · rcases hm with ⟨h1, rfl, rfl⟩ | ⟨h1, h2, rfl, rfl⟩ | ⟨h1, h2, h3, rfl⟩ | ⟨h1, h2, h3, rfl, rfl⟩
    all_goals
      go_enter Tryd.func16, Tryd.ntmps16
      go_wp2_with fail
      refine (HT.out _ HP.out).mono ?_
      rintro e w1 ⟨rfl, hb1⟩
      have hs1 := fun W => slice_to D i hi1 W
      have hs2 := fun W => slice_from D (i : Int) (by omega) (by omega) W
      have hcv := convert_new [q] 1 w1.heap.size (w1.alloc (.cells #[.int .u8 (q.toNat : Int)] 5)).drew (fun j x hx => by
        match j, hx with
        | 0, hx => cases hx; simp
        | j + 1, hx => simp at hx)
      simp only [List.length_cons, List.length_nil, Nat.zero_add] at hcv
      rw [Int.toNat_natCast] at hs2
      have hn1 : ¬ 9223372036854775807 < min i D.length + 1 := by omega
      have hn2 : ¬ 9223372036854775807 < min i D.length + 1 + (D.length - i) := by omega
      have hi := HI.out
      go_wp2_with fail
      go_region_with (fail)
      have hbn := (hb1.alloc hb1.size (.cells #[.int .u8 (q.toNat : Int)] 5)).drew
      clear hs1 hs2 hcv hn1 hn2 hb1
      go_wp2_with fail
      refine (HPS.out _ _ (by rw [bs_append, bs_append, bs_sv, bs_sv, bs_sv]; simp) (HE.out.below hbn)).mono ?_
      rintro e w2 ⟨rfl, hb2⟩
      have hB2 := hbn.trans (hb2.mono hbn.size)
      clear hb2 hbn
      go_wp2_with fail
      refine (none_str _ _ (HE.out.below hB2) (by rw [bs_append, bs_append, bs_sv, bs_sv, bs_sv]; simpa using HNO.out)).mono ?_
      rintro e w3 ⟨rfl, hb3⟩
      have hB3 := hB2.trans (hb3.mono hB2.size)
      clear hb3 hB2
      go_wp2_with fail
      refine (lives04 _ (HE.out.below hB3)).mono ?_
      rintro e w4 ⟨rfl, hb4⟩
      go_wp2_with fail
      go_ret
      exact ⟨rfl, hB3.trans (hb4.mono hB3.size)⟩
  · rcases hm with ⟨h1, rfl, rfl⟩ | ⟨h1, h2, rfl, rfl⟩ | ⟨h1, h2, h3, rfl⟩ | ⟨h1, h2, h3, rfl, rfl⟩
    all_goals
      go_enter Tryd.func16, Tryd.ntmps16
      go_wp2_with fail
      refine (HT.out _ HP.out).mono ?_
      rintro e w1 ⟨rfl, hb1⟩
      have hs1 := fun W => slice_to D i hi1 W
      have hs2 := fun W => slice_from D (i : Int) (by omega) (by omega) W
      have hcv := convert_new [q] 1 w1.heap.size (w1.alloc (.cells #[.int .u8 (q.toNat : Int)] 5)).drew (fun j x hx => by
        match j, hx with
        | 0, hx => cases hx; simp
        | j + 1, hx => simp at hx)
      simp only [List.length_cons, List.length_nil, Nat.zero_add] at hcv
      rw [Int.toNat_natCast] at hs2
      have hn1 : ¬ 9223372036854775807 < min i D.length + 1 := by omega
      have hn2 : ¬ 9223372036854775807 < min i D.length + 1 + (D.length - i) := by omega
      have hi := HI.out
      go_wp2_with fail
      go_region_with (fail)
      have hbn := (hb1.alloc hb1.size (.cells #[.int .u8 (q.toNat : Int)] 5)).drew
      clear hs1 hs2 hcv hn1 hn2 hb1
      go_wp2_with fail
      refine (HPS.out _ _ (by rw [bs_append, bs_append, bs_sv, bs_sv, bs_sv]; simp) (HE.out.below hbn)).mono ?_
      rintro e w2 ⟨rfl, hb2⟩
      have hB2 := hbn.trans (hb2.mono hbn.size)
      clear hb2 hbn
      go_wp2_with fail
      refine (none_str _ _ (HE.out.below hB2) (by rw [bs_append, bs_append, bs_sv, bs_sv, bs_sv]; simpa using HNO.out)).mono ?_
      rintro e w3 ⟨rfl, hb3⟩
      have hB3 := hB2.trans (hb3.mono hB2.size)
      clear hb3 hB2
      go_wp2_with fail
      refine (lives04 _ (HE.out.below hB3)).mono ?_
      rintro e w4 ⟨rfl, hb4⟩
      go_wp2_with fail
      go_ret
      exact ⟨rfl, hB3.trans (hb4.mono hB3.size)⟩
  · rcases hm with ⟨h1, rfl, rfl⟩ | ⟨h1, h2, rfl, rfl⟩ | ⟨h1, h2, h3, rfl⟩ | ⟨h1, h2, h3, rfl, rfl⟩
    all_goals
      go_enter Tryd.func16, Tryd.ntmps16
      go_wp2_with fail
      refine (HT.out _ HP.out).mono ?_
      rintro e w1 ⟨rfl, hb1⟩
      have hs1 := fun W => slice_to D i hi1 W
      have hs2 := fun W => slice_from D (i : Int) (by omega) (by omega) W
      have hcv := convert_new [q] 1 w1.heap.size (w1.alloc (.cells #[.int .u8 (q.toNat : Int)] 5)).drew (fun j x hx => by
        match j, hx with
        | 0, hx => cases hx; simp
        | j + 1, hx => simp at hx)
      simp only [List.length_cons, List.length_nil, Nat.zero_add] at hcv
      rw [Int.toNat_natCast] at hs2
      have hn1 : ¬ 9223372036854775807 < min i D.length + 1 := by omega
      have hn2 : ¬ 9223372036854775807 < min i D.length + 1 + (D.length - i) := by omega
      have hi := HI.out
      go_wp2_with fail
      go_region_with (fail)
      have hbn := (hb1.alloc hb1.size (.cells #[.int .u8 (q.toNat : Int)] 5)).drew
      clear hs1 hs2 hcv hn1 hn2 hb1
      go_wp2_with fail
      refine (HPS.out _ _ (by rw [bs_append, bs_append, bs_sv, bs_sv, bs_sv]; simp) (HE.out.below hbn)).mono ?_
      rintro e w2 ⟨rfl, hb2⟩
      have hB2 := hbn.trans (hb2.mono hbn.size)
      clear hb2 hbn
      go_wp2_with fail
      refine (none_str _ _ (HE.out.below hB2) (by rw [bs_append, bs_append, bs_sv, bs_sv, bs_sv]; simpa using HNO.out)).mono ?_
      rintro e w3 ⟨rfl, hb3⟩
      have hB3 := hB2.trans (hb3.mono hB2.size)
      clear hb3 hB2
      go_wp2_with fail
      refine (lives04 _ (HE.out.below hB3)).mono ?_
      rintro e w4 ⟨rfl, hb4⟩
      go_wp2_with fail
      go_ret
      exact ⟨rfl, hB3.trans (hb4.mono hB3.size)⟩

theorem numsByte_walk (n a bad : Int) (w : World) (hn : 0 ≤ n ∧ n ≤ 18446744073709551615) (ha : 0 ≤ a ∧ a ≤ 255) (hb : 0 ≤ bad ∧ bad ≤ 255) (hP : HasPow w) (hE : HasErr w) :
    Calls Tryd.prog 16 #[.int .u64 n, .int .u8 a, .int .u8 bad] w fun e w' => e = .returned (.bool true) ∧ Below w.heap.size w w' := by
  obtain ⟨u, rfl⟩ := Int.eq_ofNat_of_zero_le hn.1
  have hu : u < 18446744073709551616 := by omega
  have ht : ∀ W, HasPow W → Calls Tryd.prog 58 #[.int .u64 (u : Int)] W fun e w' => e = .returned (sv (Lib.decDigits u)) ∧ Below W.heap.size W w' := fun W hW => text_any (u : Int) hn.1 (by omega) W hW
  obtain ⟨i, hi⟩ : ∃ i : Nat, a % (((Lib.decDigits u).length : Int) + 1) = (i : Int) := ⟨(a % (((Lib.decDigits u).length : Int) + 1)).toNat, by have := Int.emod_nonneg a (show ((Lib.decDigits u).length : Int) + 1 ≠ 0 by omega); omega⟩
  obtain ⟨q, hqd, hq⟩ : ∃ q : UInt8, digitB q = false ∧ ((48 ≤ bad ∧ bad ≤ 57 ∧ bad - 10 = (q.toNat : Int)) ∨ ((bad < 48 ∨ 57 < bad) ∧ bad = (q.toNat : Int))) := by
    by_cases h : 48 ≤ bad ∧ bad ≤ 57
    · have hv : (UInt8.ofNat (bad - 10).toNat).toNat = (bad - 10).toNat := by simp; omega
      refine ⟨UInt8.ofNat (bad - 10).toNat, ?_, .inl ⟨h.1, h.2, by rw [hv]; omega⟩⟩
      unfold digitB; rw [hv]; simp; omega
    · have hv : (UInt8.ofNat bad.toNat).toNat = bad.toNat := by simp; omega
      refine ⟨UInt8.ofNat bad.toNat, ?_, .inr ⟨by omega, by rw [hv]; omega⟩⟩
      unfold digitB; rw [hv]; simp; omega
  have hps : ∀ (c : Int) (z : Bool), signedV ((Lib.decDigits u).take i ++ q :: (Lib.decDigits u).drop i) = .tuple #[.int .i64 c, .bool z] → ∀ W s, bs s = (Lib.decDigits u).take i ++ q :: (Lib.decDigits u).drop i → HasErr W →
      Calls Tryd.prog 51 #[.string s] W fun e w' => e = .returned (.tuple #[.int .i64 c, .bool z]) ∧ Below W.heap.size W w' := fun c z hv W s hs hW => by
    have h := parseSigned_any s W hW; rw [hs, hv] at h; exact h
  have hno := spoilt_none u i hqd
  have hsn := spoilt_signed u (i := i) hqd
  have hD := dec_short u hu
  have h45 : ((q.toNat : Int) == 45) = true ↔ q = 45 := by
    rw [beq_iff_eq]
    exact ⟨fun h => UInt8.toNat_inj.1 (show q.toNat = 45 by omega), fun h => by rw [h]; rfl⟩
  by_cases hi0 : i = 0
  · have hz0 : ((i : Int) == 0) = true := by rw [beq_iff_eq]; omega
    by_cases hq45 : q = 45
    · have hsv : signedN ((Lib.decDigits u).take i ++ q :: (Lib.decDigits u).drop i) = if u ≤ 9223372036854775808 then some (-(u : Int)) else none := by
        rw [hi0, hq45]; exact signed_neg hu
      by_cases hm : u ≤ 9223372036854775808
      · rw [if_pos hm] at hsv
        exact byte_core _ a bad q _ i (-(u : Int)) true w hb.1 hb.2 ha.1 ha.2 hD hq hi (.inr (.inr (.inl ⟨hz0, h45.2 hq45, by omega, rfl⟩))) ht (hps _ _ (signedV_some hsv)) hno hP hE
      · rw [if_neg hm] at hsv
        exact byte_core _ a bad q _ i 0 false w hb.1 hb.2 ha.1 ha.2 hD hq hi (.inr (.inr (.inr ⟨hz0, h45.2 hq45, by rw [decide_eq_false_iff_not]; omega, rfl, rfl⟩))) ht (hps _ _ (signedV_none hsv)) hno hP hE
    · have h45f : ((q.toNat : Int) == 45) = false := by rw [Bool.eq_false_iff]; exact fun h => hq45 (h45.1 h)
      exact byte_core _ a bad q _ i 0 false w hb.1 hb.2 ha.1 ha.2 hD hq hi (.inr (.inl ⟨hz0, h45f, rfl, rfl⟩)) ht (hps _ _ (signedV_none (hsn fun h => hq45 h.2))) hno hP hE
  · have hz0 : ((i : Int) == 0) = false := by rw [beq_eq_false_iff_ne]; omega
    exact byte_core _ a bad q _ i 0 false w hb.1 hb.2 ha.1 ha.2 hD hq hi (.inl ⟨hz0, rfl, rfl⟩) ht (hps _ _ (signedV_none (hsn fun h => hi0 h.1))) hno hP hE
end Go.Proofs.YtaokclnandjlpaaDoor
