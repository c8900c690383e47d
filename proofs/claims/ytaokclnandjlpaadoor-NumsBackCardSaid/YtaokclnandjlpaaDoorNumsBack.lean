/- The law NumsBack answers true: the cases joined. Conditions: the library's table of the powers of ten lies as it lays it, its variable ErrRange holds an error. (Printed by gennumsback.py.) -/
import Derived.Test.YtaokclnandjlpaaDoorNumsBackA
import Derived.Test.YtaokclnandjlpaaDoorNumsBackB
import Derived.Test.YtaokclnandjlpaaDoorNumsBackC
namespace Go.Proofs.YtaokclnandjlpaaDoor
open Go.RowKit

theorem numsBack_walk (n nn : Int) (w : World) (hn : 0 ≤ n ∧ n ≤ 18446744073709551615) (hnn : 0 ≤ nn ∧ nn ≤ 255) (hP : HasPow w) (hE : HasErr w) :
    Calls Tryd.prog 14 #[.int .u64 n, .int .u8 nn] w fun e w' => e = .returned (.bool true) ∧ Below w.heap.size w w' := by
  obtain ⟨u, rfl⟩ := Int.eq_ofNat_of_zero_le hn.1
  obtain ⟨k, hk⟩ : ∃ k : Nat, nn % 25 = (k : Int) := ⟨(nn % 25).toNat, by omega⟩
  have hk24 : k ≤ 24 := by omega
  have hu : u < 18446744073709551616 := by omega
  have ht : ∀ W, HasPow W → Calls Tryd.prog 58 #[.int .u64 (u : Int)] W fun e w' => e = .returned (sv (Lib.decDigits u)) ∧ Below W.heap.size W w' := fun W hW => text_any (u : Int) hn.1 (by omega) W hW
  have h2 := parse_zeros hu k
  have h3 := signed_neg hu
  have h4 := signed_dec hu
  have h5 := p32_dec hu
  have h20 := dec_short u hu
  have hlen : 0 < (Lib.decDigits u).length := List.length_pos_iff.2 (dec_nonempty u)
  rcases Nat.eq_zero_or_pos u with h0 | h0
  · subst h0
    rw [dec_zero] at *
    by_cases hf : k + [48].length ≤ 20
    · exact back_zero_fits nn k w hnn.1 hnn.2 hk hk24 hf (by have h := backs (k := k) hu (b := 0) (y := true) (c := 0) (z := true) (d := 0) (t := true) (e := 0) (v := true) (by rw [dec_zero]; exact parseV_some (h2.trans (if_pos hf))) (by rw [dec_zero]; exact signedV_some h3) (by rw [dec_zero]; exact signedV_some h4) (by rw [dec_zero]; exact parse32V_some h5); rw [dec_zero] at h; exact h) ht hP hE
    · exact back_zero_long nn k w hnn.1 hnn.2 hk hk24 (by omega) (by have h := backs (k := k) hu (b := 0) (y := false) (c := 0) (z := true) (d := 0) (t := true) (e := 0) (v := true) (by rw [dec_zero]; exact parseV_none (h2.trans (if_neg hf))) (by rw [dec_zero]; exact signedV_some h3) (by rw [dec_zero]; exact signedV_some h4) (by rw [dec_zero]; exact parse32V_some h5); rw [dec_zero] at h; exact h) ht hP hE
  · have hx : ∀ h, ((⟨(Lib.decDigits u).toArray⟩ : ByteArray)[0]'h) ≠ 48 := by
      obtain ⟨c, r, e, hc⟩ := dec_head h0
      intro h
      have hg := bs_get? h
      have hc0 : (bs ⟨(Lib.decDigits u).toArray⟩)[0]? = some c := by rw [bs_sv, e]; rfl
      rw [hc0] at hg
      rw [← Option.some.inj hg]; exact hc
    have fits : k + (Lib.decDigits u).length ≤ 20 → parseV (List.replicate k 48 ++ Lib.decDigits u) = .tuple #[.int .u64 (u : Int), .bool true] := fun h => by rw [if_pos h] at h2; exact parseV_some h2
    have long : ¬ k + (Lib.decDigits u).length ≤ 20 → parseV (List.replicate k 48 ++ Lib.decDigits u) = .tuple #[.int .u64 0, .bool false] := fun h => by rw [if_neg h] at h2; exact parseV_none h2
    by_cases hs : u < 4294967296
    · rw [if_pos (by omega)] at h3 h4 h5
      by_cases hf : k + (Lib.decDigits u).length ≤ 20
      · exact back_small_fits _ _ nn k w (by omega) (by omega) hnn.1 hnn.2 hk hk24 hlen h20 hx hf (backs hu (fits hf) (signedV_some h3) (signedV_some h4) (parse32V_some h5)) ht hP hE
      · exact back_small_long _ _ nn k w (by omega) (by omega) hnn.1 hnn.2 hk hk24 hlen h20 hx (by omega) (backs hu (long hf) (signedV_some h3) (signedV_some h4) (parse32V_some h5)) ht hP hE
    · rw [if_neg hs] at h5
      by_cases hm : u < 9223372036854775808
      · rw [if_pos (by omega)] at h3 h4
        by_cases hf : k + (Lib.decDigits u).length ≤ 20
        · exact back_mid_fits _ _ nn k w (by omega) (by omega) hnn.1 hnn.2 hk hk24 hlen h20 hx hf (backs hu (fits hf) (signedV_some h3) (signedV_some h4) (parse32V_none h5)) ht hP hE
        · exact back_mid_long _ _ nn k w (by omega) (by omega) hnn.1 hnn.2 hk hk24 hlen h20 hx (by omega) (backs hu (long hf) (signedV_some h3) (signedV_some h4) (parse32V_none h5)) ht hP hE
      · rw [if_neg hm] at h4
        by_cases he : u = 9223372036854775808
        · subst he
          rw [if_pos (by omega)] at h3
          by_cases hf : k + (Lib.decDigits 9223372036854775808).length ≤ 20
          · exact back_edge_fits _ nn k w hnn.1 hnn.2 hk hk24 hlen h20 hx hf (backs hu (fits hf) (signedV_some h3) (signedV_none h4) (parse32V_none h5)) ht hP hE
          · exact back_edge_long _ nn k w hnn.1 hnn.2 hk hk24 hlen h20 hx (by omega) (backs hu (long hf) (signedV_some h3) (signedV_none h4) (parse32V_none h5)) ht hP hE
        · rw [if_neg (by omega)] at h3
          by_cases hf : k + (Lib.decDigits u).length ≤ 20
          · exact back_big_fits _ _ nn k w (by omega) (by omega) hnn.1 hnn.2 hk hk24 hlen h20 hx hf (backs hu (fits hf) (signedV_none h3) (signedV_none h4) (parse32V_none h5)) ht hP hE
          · exact back_big_long _ _ nn k w (by omega) (by omega) hnn.1 hnn.2 hk hk24 hlen h20 hx (by omega) (backs hu (long hf) (signedV_none h3) (signedV_none h4) (parse32V_none h5)) ht hP hE
end Go.Proofs.YtaokclnandjlpaaDoor
