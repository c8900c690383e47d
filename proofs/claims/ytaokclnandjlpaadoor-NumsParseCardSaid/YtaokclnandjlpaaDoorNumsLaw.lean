/- The laws NumsSteps, NumsCount, NumsParse, NumsOrder answer true. Conditions: the library's table of the powers of ten lies as it lays it, its variable ErrRange holds an error. -/
import Derived.Test.YtaokclnandjlpaaDoorNumsLives
import Derived.Test.YtaokclnandjlpaaDoorNumsRef
namespace Go.Proofs.YtaokclnandjlpaaDoor
open Go.RowKit

set_option maxHeartbeats 2000000 in
set_option maxRecDepth 100000 in
theorem numsCount_walk (n b : Int) (w : World) (hn : 0 ≤ n ∧ n ≤ 18446744073709551615) (hb : 0 ≤ b ∧ b ≤ 18446744073709551615) (hP : HasPow w) (hE : HasErr w) :
    Calls Tryd.prog 13 #[.int .u64 n, .int .u64 b] w fun e w' => e = .returned (.bool true) ∧ Below w.heap.size w w' := by
  have ht := fun W hW => text_any n hn.1 (by omega) W hW
  have hr := fun W => refText_any n hn.1 (by omega) W
  have hd := fun W => decr_any n b W hn.1 (by omega) hb.1 (by omega)
  have hrd := fun W => refDecr_any n b W hn.1 (by omega) hb.1 (by omega)
  have hi := fun W => incr_any n b W
  have hri := fun W => refIncr_any n b W
  generalize IntKind.u64.wrap (n + b) = U at hi hri
  generalize decrN n b = D at hd hrd
  generalize Lib.decDigits n.toNat = T at ht hr
  have HT := Lib.hid ht
  have HR := Lib.hid hr
  have HD := Lib.hid hd
  have HRD := Lib.hid hrd
  have HI := Lib.hid hi
  have HRI := Lib.hid hri
  have HP := Lib.hid hP
  have HE := Lib.hid hE
  clear ht hr hd hrd hi hri hP hE hn hb
  go_enter Tryd.func13, Tryd.ntmps13
  go_wp2_with fail
  refine (HT.out _ HP.out).mono ?_
  rintro e w1 ⟨rfl, hb1⟩
  go_wp2_with fail
  refine (HR.out _).mono ?_
  rintro e w2 ⟨rfl, rfl⟩
  go_wp2_with fail
  refine (HI.out _).mono ?_
  rintro e w2 ⟨rfl, rfl⟩
  go_wp2_with fail
  refine (HRI.out _).mono ?_
  rintro e w2 ⟨rfl, rfl⟩
  go_wp2_with fail
  refine (HD.out _).mono ?_
  rintro e w2 ⟨rfl, rfl⟩
  go_wp2_with fail
  refine (HRD.out _).mono ?_
  rintro e w2 ⟨rfl, rfl⟩
  go_wp2_with fail
  refine (lives04 _ (HE.out.below hb1)).mono ?_
  rintro e w2 ⟨rfl, hb2⟩
  go_wp2_with fail
  go_ret
  exact ⟨rfl, hb1.trans (hb2.mono hb1.size)⟩

set_option maxHeartbeats 4000000 in
set_option maxRecDepth 100000 in
theorem numsParse_walk (s : ByteArray) (w : World) (hs : s.size ≤ maxLen) (hE : HasErr w) :
    Calls Tryd.prog 11 #[.string s] w fun e w' => e = .returned (.bool true) ∧ Below w.heap.size w w' := by
  obtain ⟨a, x, hv1⟩ : ∃ a x, parseV (bs s) = .tuple #[.int .u64 a, .bool x] := by unfold parseV; split <;> exact ⟨_, _, rfl⟩
  obtain ⟨c, z, hv2⟩ : ∃ a x, signedV (bs s) = .tuple #[.int .i64 a, .bool x] := by unfold signedV; split <;> exact ⟨_, _, rfl⟩
  obtain ⟨d, u, hv3⟩ : ∃ a x, parse32V (bs s) = .tuple #[.int .u32 a, .bool x] := by unfold parse32V; split <;> exact ⟨_, _, rfl⟩
  have h1 := fun W hW => parse_any s W hW
  have h2 := fun W => refParse_any s W hs
  have h3 := fun W hW => parseSigned_any s W hW
  have h4 := fun W => refParseSigned_any s W hs
  have h5 := fun W hW => parse32_any s W hW
  have h6 := fun W => refParse32_any s W hs
  rw [hv1] at h1 h2
  rw [hv2] at h3 h4
  rw [hv3] at h5 h6
  have H1 := Lib.hid h1
  have H2 := Lib.hid h2
  have H3 := Lib.hid h3
  have H4 := Lib.hid h4
  have H5 := Lib.hid h5
  have H6 := Lib.hid h6
  have HE := Lib.hid hE
  clear h1 h2 h3 h4 h5 h6 hv1 hv2 hv3 hE hs
  go_enter Tryd.func11, Tryd.ntmps11
  go_wp2_with fail
  refine (H1.out _ HE.out).mono ?_
  rintro e w1 ⟨rfl, hb1⟩
  go_wp2_with fail
  refine (H2.out _).mono ?_
  rintro e w2 ⟨rfl, rfl⟩
  go_wp2_with fail
  refine (H3.out _ (HE.out.below hb1)).mono ?_
  rintro e w2 ⟨rfl, hb2⟩
  have hB2 := hb1.trans (hb2.mono hb1.size)
  clear hb1 hb2
  go_wp2_with fail
  refine (H4.out _).mono ?_
  rintro e w3 ⟨rfl, rfl⟩
  go_wp2_with fail
  refine (H5.out _ (HE.out.below hB2)).mono ?_
  rintro e w3 ⟨rfl, hb3⟩
  have hB3 := hB2.trans (hb3.mono hB2.size)
  clear hB2 hb3
  go_wp2_with fail
  refine (H6.out _).mono ?_
  rintro e w4 ⟨rfl, rfl⟩
  go_wp2_with fail
  refine (lives04 _ (HE.out.below hB3)).mono ?_
  rintro e w4 ⟨rfl, hb4⟩
  go_wp2_with fail
  go_ret
  exact ⟨rfl, hB3.trans (hb4.mono hB3.size)⟩
end Go.Proofs.YtaokclnandjlpaaDoor
