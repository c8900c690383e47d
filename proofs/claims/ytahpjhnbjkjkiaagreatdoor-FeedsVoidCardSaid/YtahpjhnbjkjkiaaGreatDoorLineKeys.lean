/- A line's keys: the closure that asks whether a key may not be, slices.IndexFunc and ContainsFunc with it. No condition. -/
import Derived.Test.YtahpjhnbjkjkiaaGreatDoorLineSpec
namespace Go.Proofs.YtahpjhnbjkjkiaaGreatDoor
open Go.RowKit

theorem ok_str (x : List UInt8) (w : World) (hs : x.length ≤ maxLen) : Calls Tryz.prog 137 #[sv x] w fun e w' => e = .returned (.bool (okB x)) ∧ w = w' := ok_any ⟨x.toArray⟩ w (by rw [sv_size]; exact hs)
theorem notOk_any (x : List UInt8) (w : World) (hs : x.length ≤ maxLen) : Calls Tryz.prog 136 #[sv x] w fun e w' => e = .returned (.bool (!okB x)) ∧ w = w' := by
  have h := ok_str x w hs
  generalize okB x = b at *
  have H := Lib.hid h
  clear h
  go_enter Tryz.func136, Tryz.ntmps136
  go_wp2_with fail
  refine H.out.mono ?_
  rintro e w' ⟨rfl, rfl⟩
  go_wp2_with fail
  go_ret
  exact ⟨rfl, rfl⟩
def badKey (k : List UInt8) : Bool := !okB k
def firstBad (L : List (List UInt8)) : Int := match L.findIdx? badKey with | some i => (i : Int) | none => -1

/-- The place of an element, without laying the slice's address open. -/
theorem idx_str' {a : Option Addr} {g o n c k : Nat} (ha : a = some ⟨g, o, none⟩) (hk : k < n) (W : World) : (Instr.indexAt 38 (.slice a n c) (.int .i64 (k : Int))).run Tryz.prog W = .ok (.pointer (some ⟨g, o + k, none⟩)) W := by
  subst ha
  have h0 : (0 : Int) ≤ (k : Int) := by omega
  have h1 : (k : Int) < (n : Int) := by omega
  have h2 := Tryz.underlying38
  go_simp

set_option maxHeartbeats 1000000 in
theorem indexFunc_any {w : World} {B : Nat} {v : Value} {L : List (List UInt8)} (h : Own w B v (L.map sv)) (hl : ∀ x ∈ L, x.length ≤ maxLen) :
    Calls Tryz.prog 140 #[v, .func (.func 136) #[] #[]] w fun e w' => e = .returned (.int .i64 (firstBad L)) ∧ w = w' := by
  have hm := h.max
  obtain ⟨a, c, rfl⟩ := h.len
  rw [List.length_map] at *
  unfold maxLen at hm
  have HH := Lib.hid h
  clear h
  go_enter Tryz.func140, Tryz.ntmps140
  go_wp2_with fail
  go_loop [8] (fun i => ∃ k : Nat, k ≤ L.length ∧ i = .int .i64 k ∧ Good badKey L k) (fun i => L.length - (intOf i).toNat)
  case atStart => exact ⟨0, Nat.zero_le _, rfl, good_zero _ _⟩
  case round =>
    obtain ⟨k, hk, rfl, hg⟩ := hrel
    have HG := Lib.hid hg
    clear hg
    by_cases hlt : k < L.length
    · obtain ⟨x, hx⟩ : ∃ x, L[k]? = some x := ⟨_, List.getElem?_eq_getElem hlt⟩
      obtain ⟨g, o, cc, he, _, _, hcell, _⟩ := HH.out.at (k := k) (x := sv x) (by rw [List.getElem?_map, hx]; rfl)
      have hix := fun W => idx_str' (n := L.length) (c := c) (slice_inj he).1 hlt W
      have hno := notOk_any x w (hl x (List.mem_of_getElem? hx))
      have HX := Lib.hid hx
      clear he hx
      cases hb : okB x
      · have hbad : badKey x = true := by simp [badKey, hb]
        rw [hb] at hno
        have HNO := Lib.hid hno
        have HV := Lib.hid (show firstBad L = (k : Int) from by unfold firstBad; rw [good_hit HX.out hbad HG.out])
        clear hno hbad hb
        go_wp2_with fail
        refine HNO.out.mono ?_
        rintro e w' ⟨rfl, rfl⟩
        go_wp2_with fail
        go_ret
        exact ⟨by rw [HV.out]; rfl, rfl⟩
      · have hbad : badKey x = false := by simp [badKey, hb]
        rw [hb] at hno
        have HNO := Lib.hid hno
        have HS := Lib.hid (good_step HX.out hbad HG.out)
        clear hno hbad hb
        go_wp2_with fail
        refine HNO.out.mono ?_
        rintro e w' ⟨rfl, rfl⟩
        go_wp2_with fail
        go_round
        case rel => exact ⟨k + 1, by omega, by go_num, HS.out⟩
        case measure => simp [intOf]; omega
    · have HV := Lib.hid (show firstBad L = -1 from by unfold firstBad; rw [good_all (HG.out.mono (by omega))])
      go_wp2_with fail
      go_ret
      exact ⟨by rw [HV.out]; rfl, rfl⟩
theorem firstBad_neg {L : List (List UInt8)} : decide (0 ≤ firstBad L) = L.any badKey := by
  unfold firstBad
  cases h : L.findIdx? badKey with
  | none =>
    rw [List.findIdx?_eq_none_iff] at h
    have : L.any badKey = false := by rw [List.any_eq_false]; intro x hx; rw [h x hx]; simp
    rw [this]; rfl
  | some i =>
    have : L.any badKey = true := by
      rw [List.findIdx?_eq_some_iff_getElem] at h
      obtain ⟨hi, hb, _⟩ := h
      exact List.any_eq_true.2 ⟨_, List.getElem_mem hi, hb⟩
    rw [this]
    simp
theorem containsFunc_any {w : World} {B : Nat} {v : Value} {L : List (List UInt8)} (h : Own w B v (L.map sv)) (hl : ∀ x ∈ L, x.length ≤ maxLen) :
    Calls Tryz.prog 135 #[v, .func (.func 136) #[] #[]] w fun e w' => e = .returned (.bool (L.any badKey)) ∧ w = w' := by
  have hc := indexFunc_any h hl
  rw [← firstBad_neg]
  generalize firstBad L = n at *
  have HC := Lib.hid hc
  clear hc h hl
  go_enter Tryz.func135, Tryz.ntmps135
  go_wp2_with fail
  refine HC.out.mono ?_
  rintro e w' ⟨rfl, rfl⟩
  go_wp2_with fail
  go_ret
  exact ⟨rfl, rfl⟩
end Go.Proofs.YtahpjhnbjkjkiaaGreatDoor
