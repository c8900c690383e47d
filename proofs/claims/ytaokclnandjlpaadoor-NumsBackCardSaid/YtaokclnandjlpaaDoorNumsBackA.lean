/- The law NumsBack, the cases zero, small. Conditions: the library's table of the powers of ten lies as it lays it, its variable ErrRange holds an error. (Printed by gennumsback.py.) -/
import Derived.Test.YtaokclnandjlpaaDoorNumsBack0
namespace Go.Proofs.YtaokclnandjlpaaDoor
open Go.RowKit

set_option maxHeartbeats 4000000 in
set_option maxRecDepth 100000 in
theorem back_zero_fits  (nn : Int) (k : Nat) (w : World)  (_hn0 : 0 ≤ nn) (_hn1 : nn ≤ 255) (hk : nn % 25 = (k : Int)) (hk24 : k ≤ 24)  (hfit : k + [48].length ≤ 20) (hB : Backs 0 k [48] 0 true 0 true 0 true 0 true)
    (ht : ∀ W, HasPow W → Calls Tryd.prog 58 #[.int .u64 (0 : Int)] W fun e w' => e = .returned (sv [48]) ∧ Below W.heap.size W w') (hP : HasPow w) (hE : HasErr w) :
    Calls Tryd.prog 14 #[.int .u64 (0 : Int), .int .u8 nn] w fun e w' => e = .returned (.bool true) ∧ Below w.heap.size w w' := by
  have HK := Lib.hid hk
  clear hk
  have HB := Lib.hid hB
  have HT := Lib.hid ht
  have HP := Lib.hid hP
  have HE := Lib.hid hE
  clear hB ht hP hE
  go_enter Tryd.func14, Tryd.ntmps14
  go_wp2_with fail
  refine (HT.out _ HP.out).mono ?_
  rintro e w1 ⟨rfl, hb1⟩
  go_wp2_with fail
  refine (HB.out.p1 _ (HE.out.below hb1)).mono ?_
  rintro e w2 ⟨rfl, hb2⟩
  have hB2 := hb1.trans (hb2.mono hb1.size)
  clear hb1 hb2
  go_wp2_with fail
  rw [HK.out]
  refine (Tryd.strings_Repeat ⟨#[48]⟩ k _ (by omega) (by show 1 * k ≤ _; omega)).mono ?_
  rintro e w3 ⟨rfl, hb3⟩
  have hB3 := hB2.trans (hb3.mono hB2.size)
  clear hB2 hb3
  rw [show Lib.repeatL (⟨#[48]⟩ : ByteArray).data.toList k = List.replicate k 48 from repeat_noughts k]
  obtain ⟨g, hg⟩ : ∃ g : List UInt8, g = List.replicate k 48 := ⟨_, rfl⟩
  rw [← hg]
  have hgl : g.length = k := by rw [hg]; simp
  have HG := Lib.hid hg
  have HGL := Lib.hid hgl
  have hg24 : g.length ≤ 24 := by omega
  have hfit2 : (g.length : Int) + 1 ≤ 20 := by have h := hfit; simp only [List.length_cons, List.length_nil] at h; omega
  clear hg hgl
  go_wp2_with fail
  refine (HB.out.p2 _ _ (by rw [bs_append, bs_sv, bs_sv, HG.out]) (HE.out.below hB3)).mono ?_
  rintro e w4 ⟨rfl, hb4⟩
  have hB4 := hB3.trans (hb4.mono hB3.size)
  clear hB3 hb4
  go_wp2_with fail
  refine (HB.out.p3 _ _ (by rw [bs_append, bs_sv]; rfl) (HE.out.below hB4)).mono ?_
  rintro e w5 ⟨rfl, hb5⟩
  have hB5 := hB4.trans (hb5.mono hB4.size)
  clear hB4 hb5
  go_wp2_with fail
  refine (HB.out.p4 _ (HE.out.below hB5)).mono ?_
  rintro e w6 ⟨rfl, hb6⟩
  have hB6 := hB5.trans (hb6.mono hB5.size)
  clear hB5 hb6
  go_wp2_with fail
  refine (HB.out.p5 _ (HE.out.below hB6)).mono ?_
  rintro e w7 ⟨rfl, hb7⟩
  have hB7 := hB6.trans (hb7.mono hB6.size)
  clear hB6 hb7
  go_wp2_with fail
  refine (lives04 _ (HE.out.below hB7)).mono ?_
  rintro e w8 ⟨rfl, hb8⟩
  go_wp2_with fail
  go_ret
  exact ⟨rfl, hB7.trans (hb8.mono hB7.size)⟩

set_option maxHeartbeats 4000000 in
set_option maxRecDepth 100000 in
theorem back_zero_long  (nn : Int) (k : Nat) (w : World)  (_hn0 : 0 ≤ nn) (_hn1 : nn ≤ 255) (hk : nn % 25 = (k : Int)) (hk24 : k ≤ 24)  (hfit : 20 < k + [48].length) (hB : Backs 0 k [48] 0 false 0 true 0 true 0 true)
    (ht : ∀ W, HasPow W → Calls Tryd.prog 58 #[.int .u64 (0 : Int)] W fun e w' => e = .returned (sv [48]) ∧ Below W.heap.size W w') (hP : HasPow w) (hE : HasErr w) :
    Calls Tryd.prog 14 #[.int .u64 (0 : Int), .int .u8 nn] w fun e w' => e = .returned (.bool true) ∧ Below w.heap.size w w' := by
  have HK := Lib.hid hk
  clear hk
  have HB := Lib.hid hB
  have HT := Lib.hid ht
  have HP := Lib.hid hP
  have HE := Lib.hid hE
  clear hB ht hP hE
  go_enter Tryd.func14, Tryd.ntmps14
  go_wp2_with fail
  refine (HT.out _ HP.out).mono ?_
  rintro e w1 ⟨rfl, hb1⟩
  go_wp2_with fail
  refine (HB.out.p1 _ (HE.out.below hb1)).mono ?_
  rintro e w2 ⟨rfl, hb2⟩
  have hB2 := hb1.trans (hb2.mono hb1.size)
  clear hb1 hb2
  go_wp2_with fail
  rw [HK.out]
  refine (Tryd.strings_Repeat ⟨#[48]⟩ k _ (by omega) (by show 1 * k ≤ _; omega)).mono ?_
  rintro e w3 ⟨rfl, hb3⟩
  have hB3 := hB2.trans (hb3.mono hB2.size)
  clear hB2 hb3
  rw [show Lib.repeatL (⟨#[48]⟩ : ByteArray).data.toList k = List.replicate k 48 from repeat_noughts k]
  obtain ⟨g, hg⟩ : ∃ g : List UInt8, g = List.replicate k 48 := ⟨_, rfl⟩
  rw [← hg]
  have hgl : g.length = k := by rw [hg]; simp
  have HG := Lib.hid hg
  have HGL := Lib.hid hgl
  have hg24 : g.length ≤ 24 := by omega
  have hfit2 : 20 < (g.length : Int) + 1 := by have h := hfit; simp only [List.length_cons, List.length_nil] at h; omega
  clear hg hgl
  go_wp2_with fail
  refine (HB.out.p2 _ _ (by rw [bs_append, bs_sv, bs_sv, HG.out]) (HE.out.below hB3)).mono ?_
  rintro e w4 ⟨rfl, hb4⟩
  have hB4 := hB3.trans (hb4.mono hB3.size)
  clear hB3 hb4
  go_wp2_with fail
  refine (HB.out.p3 _ _ (by rw [bs_append, bs_sv]; rfl) (HE.out.below hB4)).mono ?_
  rintro e w5 ⟨rfl, hb5⟩
  have hB5 := hB4.trans (hb5.mono hB4.size)
  clear hB4 hb5
  go_wp2_with fail
  refine (HB.out.p4 _ (HE.out.below hB5)).mono ?_
  rintro e w6 ⟨rfl, hb6⟩
  have hB6 := hB5.trans (hb6.mono hB5.size)
  clear hB5 hb6
  go_wp2_with fail
  refine (HB.out.p5 _ (HE.out.below hB6)).mono ?_
  rintro e w7 ⟨rfl, hb7⟩
  have hB7 := hB6.trans (hb7.mono hB6.size)
  clear hB6 hb7
  go_wp2_with fail
  refine (lives04 _ (HE.out.below hB7)).mono ?_
  rintro e w8 ⟨rfl, hb8⟩
  go_wp2_with fail
  go_ret
  exact ⟨rfl, hB7.trans (hb8.mono hB7.size)⟩

set_option maxHeartbeats 4000000 in
set_option maxRecDepth 100000 in
theorem back_small_fits (u : Int) (D : List UInt8) (nn : Int) (k : Nat) (w : World) (h0 : 1 ≤ u) (h1 : u ≤ 4294967295) (_hn0 : 0 ≤ nn) (_hn1 : nn ≤ 255) (hk : nn % 25 = (k : Int)) (hk24 : k ≤ 24) (hD0 : 0 < D.length) (hD20 : D.length ≤ 20) (hx : ∀ h, ((⟨D.toArray⟩ : ByteArray)[0]'h) ≠ 48) (hfit : k + D.length ≤ 20) (hB : Backs u k D u true (-u) true u true u true)
    (ht : ∀ W, HasPow W → Calls Tryd.prog 58 #[.int .u64 u] W fun e w' => e = .returned (sv D) ∧ Below W.heap.size W w') (hP : HasPow w) (hE : HasErr w) :
    Calls Tryd.prog 14 #[.int .u64 u, .int .u8 nn] w fun e w' => e = .returned (.bool true) ∧ Below w.heap.size w w' := by
  have HK := Lib.hid hk
  clear hk
  have hx48 : ((((⟨D.toArray⟩ : ByteArray)[0]'(by rw [sv_size]; exact hD0)).toNat : Int) == 48) = false := by
    rw [beq_eq_false_iff_ne]; intro h; exact hx _ (UInt8.toNat_inj.1 (show _ = 48 by omega))
  have hl0 : ((D.length : Int) == 0) = false := by rw [beq_eq_false_iff_ne]; omega
  clear hx
  have hg0 : (0 : Int) < u := by omega
  have hz0 : (u == 0) = false := by rw [beq_eq_false_iff_ne]; omega
  have hw0 : IntKind.u64.wrap u = u := IntWalk.u64_in _ (by omega)
  have h63 : ¬ (9223372036854775808 : Int) ≤ u := by omega
  have HB := Lib.hid hB
  have HT := Lib.hid ht
  have HP := Lib.hid hP
  have HE := Lib.hid hE
  clear hB ht hP hE
  go_enter Tryd.func14, Tryd.ntmps14
  go_wp2_with fail
  refine (HT.out _ HP.out).mono ?_
  rintro e w1 ⟨rfl, hb1⟩
  go_wp2_with fail
  refine (HB.out.p1 _ (HE.out.below hb1)).mono ?_
  rintro e w2 ⟨rfl, hb2⟩
  have hB2 := hb1.trans (hb2.mono hb1.size)
  clear hb1 hb2
  go_wp2_with fail
  rw [HK.out]
  refine (Tryd.strings_Repeat ⟨#[48]⟩ k _ (by omega) (by show 1 * k ≤ _; omega)).mono ?_
  rintro e w3 ⟨rfl, hb3⟩
  have hB3 := hB2.trans (hb3.mono hB2.size)
  clear hB2 hb3
  rw [show Lib.repeatL (⟨#[48]⟩ : ByteArray).data.toList k = List.replicate k 48 from repeat_noughts k]
  obtain ⟨g, hg⟩ : ∃ g : List UInt8, g = List.replicate k 48 := ⟨_, rfl⟩
  rw [← hg]
  have hgl : g.length = k := by rw [hg]; simp
  have HG := Lib.hid hg
  have HGL := Lib.hid hgl
  have hg24 : g.length ≤ 24 := by omega
  have hfit2 : (g.length : Int) + (D.length : Int) ≤ 20 := by have h := hfit; omega
  clear hg hgl
  go_wp2_with fail
  refine (HB.out.p2 _ _ (by rw [bs_append, bs_sv, bs_sv, HG.out]) (HE.out.below hB3)).mono ?_
  rintro e w4 ⟨rfl, hb4⟩
  have hB4 := hB3.trans (hb4.mono hB3.size)
  clear hB3 hb4
  go_wp2_with fail
  refine (HB.out.p3 _ _ (by rw [bs_append, bs_sv]; rfl) (HE.out.below hB4)).mono ?_
  rintro e w5 ⟨rfl, hb5⟩
  have hB5 := hB4.trans (hb5.mono hB4.size)
  clear hB4 hb5
  go_wp2_with fail
  refine (HB.out.p4 _ (HE.out.below hB5)).mono ?_
  rintro e w6 ⟨rfl, hb6⟩
  have hB6 := hB5.trans (hb6.mono hB5.size)
  clear hB5 hb6
  go_wp2_with fail
  refine (HB.out.p5 _ (HE.out.below hB6)).mono ?_
  rintro e w7 ⟨rfl, hb7⟩
  have hB7 := hB6.trans (hb7.mono hB6.size)
  clear hB6 hb7
  go_wp2_with fail
  refine (lives04 _ (HE.out.below hB7)).mono ?_
  rintro e w8 ⟨rfl, hb8⟩
  go_wp2_with fail
  go_ret
  exact ⟨rfl, hB7.trans (hb8.mono hB7.size)⟩

set_option maxHeartbeats 4000000 in
set_option maxRecDepth 100000 in
theorem back_small_long (u : Int) (D : List UInt8) (nn : Int) (k : Nat) (w : World) (h0 : 1 ≤ u) (h1 : u ≤ 4294967295) (_hn0 : 0 ≤ nn) (_hn1 : nn ≤ 255) (hk : nn % 25 = (k : Int)) (hk24 : k ≤ 24) (hD0 : 0 < D.length) (hD20 : D.length ≤ 20) (hx : ∀ h, ((⟨D.toArray⟩ : ByteArray)[0]'h) ≠ 48) (hfit : 20 < k + D.length) (hB : Backs u k D 0 false (-u) true u true u true)
    (ht : ∀ W, HasPow W → Calls Tryd.prog 58 #[.int .u64 u] W fun e w' => e = .returned (sv D) ∧ Below W.heap.size W w') (hP : HasPow w) (hE : HasErr w) :
    Calls Tryd.prog 14 #[.int .u64 u, .int .u8 nn] w fun e w' => e = .returned (.bool true) ∧ Below w.heap.size w w' := by
  have HK := Lib.hid hk
  clear hk
  have hx48 : ((((⟨D.toArray⟩ : ByteArray)[0]'(by rw [sv_size]; exact hD0)).toNat : Int) == 48) = false := by
    rw [beq_eq_false_iff_ne]; intro h; exact hx _ (UInt8.toNat_inj.1 (show _ = 48 by omega))
  have hl0 : ((D.length : Int) == 0) = false := by rw [beq_eq_false_iff_ne]; omega
  clear hx
  have hg0 : (0 : Int) < u := by omega
  have hz0 : (u == 0) = false := by rw [beq_eq_false_iff_ne]; omega
  have hw0 : IntKind.u64.wrap u = u := IntWalk.u64_in _ (by omega)
  have h63 : ¬ (9223372036854775808 : Int) ≤ u := by omega
  have HB := Lib.hid hB
  have HT := Lib.hid ht
  have HP := Lib.hid hP
  have HE := Lib.hid hE
  clear hB ht hP hE
  go_enter Tryd.func14, Tryd.ntmps14
  go_wp2_with fail
  refine (HT.out _ HP.out).mono ?_
  rintro e w1 ⟨rfl, hb1⟩
  go_wp2_with fail
  refine (HB.out.p1 _ (HE.out.below hb1)).mono ?_
  rintro e w2 ⟨rfl, hb2⟩
  have hB2 := hb1.trans (hb2.mono hb1.size)
  clear hb1 hb2
  go_wp2_with fail
  rw [HK.out]
  refine (Tryd.strings_Repeat ⟨#[48]⟩ k _ (by omega) (by show 1 * k ≤ _; omega)).mono ?_
  rintro e w3 ⟨rfl, hb3⟩
  have hB3 := hB2.trans (hb3.mono hB2.size)
  clear hB2 hb3
  rw [show Lib.repeatL (⟨#[48]⟩ : ByteArray).data.toList k = List.replicate k 48 from repeat_noughts k]
  obtain ⟨g, hg⟩ : ∃ g : List UInt8, g = List.replicate k 48 := ⟨_, rfl⟩
  rw [← hg]
  have hgl : g.length = k := by rw [hg]; simp
  have HG := Lib.hid hg
  have HGL := Lib.hid hgl
  have hg24 : g.length ≤ 24 := by omega
  have hfit2 : 20 < (g.length : Int) + (D.length : Int) := by have h := hfit; omega
  clear hg hgl
  go_wp2_with fail
  refine (HB.out.p2 _ _ (by rw [bs_append, bs_sv, bs_sv, HG.out]) (HE.out.below hB3)).mono ?_
  rintro e w4 ⟨rfl, hb4⟩
  have hB4 := hB3.trans (hb4.mono hB3.size)
  clear hB3 hb4
  go_wp2_with fail
  refine (HB.out.p3 _ _ (by rw [bs_append, bs_sv]; rfl) (HE.out.below hB4)).mono ?_
  rintro e w5 ⟨rfl, hb5⟩
  have hB5 := hB4.trans (hb5.mono hB4.size)
  clear hB4 hb5
  go_wp2_with fail
  refine (HB.out.p4 _ (HE.out.below hB5)).mono ?_
  rintro e w6 ⟨rfl, hb6⟩
  have hB6 := hB5.trans (hb6.mono hB5.size)
  clear hB5 hb6
  go_wp2_with fail
  refine (HB.out.p5 _ (HE.out.below hB6)).mono ?_
  rintro e w7 ⟨rfl, hb7⟩
  have hB7 := hB6.trans (hb7.mono hB6.size)
  clear hB6 hb7
  go_wp2_with fail
  refine (lives04 _ (HE.out.below hB7)).mono ?_
  rintro e w8 ⟨rfl, hb8⟩
  go_wp2_with fail
  go_ret
  exact ⟨rfl, hB7.trans (hb8.mono hB7.size)⟩

end Go.Proofs.YtaokclnandjlpaaDoor
