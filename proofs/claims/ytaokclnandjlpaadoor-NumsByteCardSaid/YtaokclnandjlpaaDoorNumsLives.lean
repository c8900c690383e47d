/- The chapter's examples of layer 4 hold: 'none' and 'lives'. Condition: the library's variable ErrRange holds an error. -/
import Derived.Test.YtaokclnandjlpaaDoorNumsParse
import Derived.Lib.Repeat
namespace Go.Proofs.YtaokclnandjlpaaDoor
open Go.RowKit

theorem parse32_at (l : List UInt8) (w : World) (hE : HasErr w) : Calls Tryd.prog 53 #[sv l] w fun e w' => e = .returned (parse32V l) ∧ Below w.heap.size w w' := parse32_any ⟨l.toArray⟩ w hE
theorem signed_at (l : List UInt8) (w : World) (hE : HasErr w) : Calls Tryd.prog 51 #[sv l] w fun e w' => e = .returned (signedV l) ∧ Below w.heap.size w w' := parseSigned_any ⟨l.toArray⟩ w hE

set_option maxHeartbeats 1000000 in
/-- A text that is no number's. -/
theorem none_any (l : List UInt8) (w : World) (hE : HasErr w) (hp : parseN l = none) :
    Calls Tryd.prog 62 #[sv l] w fun e w' => e = .returned (.bool true) ∧ Below w.heap.size w w' := by
  have h1 := fun W hW => parse_at l W hW
  have h2 := fun W hW => parse32_at l W hW
  rw [parseV_none hp] at h1
  rw [parse32V_none (by simp [parse32N, hp])] at h2
  have H1 := Lib.hid h1
  have H2 := Lib.hid h2
  have HE := Lib.hid hE
  clear h1 h2 hE hp
  go_enter Tryd.func62, Tryd.ntmps62
  go_wp2_with fail
  refine (H1.out _ HE.out).mono ?_
  rintro e w1 ⟨rfl, hb1⟩
  go_wp2_with fail
  refine (H2.out _ (HE.out.below hb1)).mono ?_
  rintro e w2 ⟨rfl, hb2⟩
  go_wp2_with fail
  go_ret
  exact ⟨rfl, hb1.trans (hb2.mono hb1.size)⟩

theorem p_0042 : parseV [48, 48, 52, 50] = .tuple #[.int .u64 42, .bool true] := parseV_some (u := 42) (by decide +kernel)
theorem p_most : parseV [49, 56, 52, 52, 54, 55, 52, 52, 48, 55, 51, 55, 48, 57, 53, 53, 49, 54, 49, 53] = .tuple #[.int .u64 18446744073709551615, .bool true] := parseV_some (u := 18446744073709551615) (by decide +kernel)
theorem p_least : signedV [45, 57, 50, 50, 51, 51, 55, 50, 48, 51, 54, 56, 53, 52, 55, 55, 53, 56, 48, 56] = .tuple #[.int .i64 (-9223372036854775808), .bool true] := signedV_some (z := -9223372036854775808) (by decide +kernel)
theorem p_minus : signedV [45] = .tuple #[.int .i64 0, .bool false] := signedV_none (by decide +kernel)
theorem p_32 : parse32V [52, 50, 57, 52, 57, 54, 55, 50, 57, 54] = .tuple #[.int .u32 0, .bool false] := parse32V_none (by decide +kernel)

set_option maxHeartbeats 2000000 in
set_option maxRecDepth 100000 in
theorem lives04 (w : World) (hE : HasErr w) :
    Calls Tryd.prog 55 #[] w fun e w' => e = .returned (.bool true) ∧ Below w.heap.size w w' := by
  have h1 := fun W hW => parse_at [48, 48, 52, 50] W hW
  have h2 := fun W hW => parse_at [49, 56, 52, 52, 54, 55, 52, 52, 48, 55, 51, 55, 48, 57, 53, 53, 49, 54, 49, 53] W hW
  have h3 := fun W hW => signed_at [45, 57, 50, 50, 51, 51, 55, 50, 48, 51, 54, 56, 53, 52, 55, 55, 53, 56, 48, 56] W hW
  have h4 := fun W hW => signed_at [45] W hW
  have h5 := fun W hW => parse32_at [52, 50, 57, 52, 57, 54, 55, 50, 57, 54] W hW
  rw [p_0042] at h1
  rw [p_most] at h2
  rw [p_least] at h3
  rw [p_minus] at h4
  rw [p_32] at h5
  have H1 := Lib.hid h1
  have H2 := Lib.hid h2
  have H3 := Lib.hid h3
  have H4 := Lib.hid h4
  have H5 := Lib.hid h5
  have HE := Lib.hid hE
  clear h1 h2 h3 h4 h5 hE
  go_enter Tryd.func55, Tryd.ntmps55
  go_wp2_with fail
  refine (H1.out _ HE.out).mono ?_
  rintro e w1 ⟨rfl, hb1⟩
  go_wp2_with fail
  refine (H2.out _ (HE.out.below hb1)).mono ?_
  rintro e w2 ⟨rfl, hb2⟩
  have hB2 := hb1.trans (hb2.mono hb1.size)
  clear hb1 hb2
  go_wp2_with fail
  refine (H3.out _ (HE.out.below hB2)).mono ?_
  rintro e w3 ⟨rfl, hb3⟩
  have hB3 := hB2.trans (hb3.mono hB2.size)
  clear hB2 hb3
  go_wp2_with fail
  refine (H4.out _ (HE.out.below hB3)).mono ?_
  rintro e w4 ⟨rfl, hb4⟩
  have hB4 := hB3.trans (hb4.mono hB3.size)
  clear hB3 hb4
  go_wp2_with fail
  refine (H5.out _ (HE.out.below hB4)).mono ?_
  rintro e w5 ⟨rfl, hb5⟩
  have hB5 := hB4.trans (hb5.mono hB4.size)
  clear hB4 hb5
  go_wp2_with fail
  refine (none_any [49, 56, 52, 52, 54, 55, 52, 52, 48, 55, 51, 55, 48, 57, 53, 53, 49, 54, 49, 54] _ (HE.out.below hB5) (by decide +kernel)).mono ?_
  rintro e w6 ⟨rfl, hb6⟩
  have hB6 := hB5.trans (hb6.mono hB5.size)
  clear hB5 hb6
  go_wp2_with fail
  refine (none_any [] _ (HE.out.below hB6) (by decide +kernel)).mono ?_
  rintro e w7 ⟨rfl, hb7⟩
  have hB7 := hB6.trans (hb7.mono hB6.size)
  clear hB6 hb7
  go_wp2_with fail
  refine (none_any [43, 49] _ (HE.out.below hB7) (by decide +kernel)).mono ?_
  rintro e w8 ⟨rfl, hb8⟩
  have hB8 := hB7.trans (hb8.mono hB7.size)
  clear hB7 hb8
  go_wp2_with fail
  refine (Tryd.strings_Repeat ⟨#[48]⟩ 21 _ (by decide) (by decide)).mono ?_
  rintro e w9 ⟨rfl, hb9⟩
  have hB9 := hB8.trans (hb9.mono hB8.size)
  clear hB8 hb9
  go_wp2_with fail
  refine (none_any (Lib.repeatL [48] 21) _ (HE.out.below hB9) (by decide +kernel)).mono ?_
  rintro e w10 ⟨rfl, hb10⟩
  have hB10 := hB9.trans (hb10.mono hB9.size)
  clear hB9 hb10
  go_wp2_with fail
  refine (incr_any _ _ _).mono ?_
  rintro e w' ⟨rfl, rfl⟩
  rw [show IntKind.u64.wrap (18446744073709551615 + 2) = 1 from by rw [IntKind.wrap_u64]; rfl]
  go_wp2_with fail
  refine (decr_any _ _ _ (by decide) (by decide) (by decide) (by decide)).mono ?_
  rintro e w' ⟨rfl, rfl⟩
  rw [show decrN 3 5 = 0 from by decide]
  go_wp2_with fail
  go_ret
  exact ⟨rfl, hB10⟩
end Go.Proofs.YtaokclnandjlpaaDoor
