/- The law TellsUnlike answers true. Condition: the table of the powers of ten lies as the library lays it. -/
import Derived.Test.YtaokclnandjlpaaDoorTellsEnds
namespace Go.Proofs.YtaokclnandjlpaaDoor
open Go.RowKit

theorem a_none {k : Nat} (h : 13 ≤ k) : aOf k = [] := by
  unfold aOf
  rw [List.getD_eq_getElem?_getD, List.getElem?_eq_none (by simp [answersL]; omega)]; rfl
theorem t_none {k : Nat} (h : 7 ≤ k) : tOf k = [] := by
  unfold tOf
  rw [List.getD_eq_getElem?_getD, List.getElem?_eq_none (by simp [toldL]; omega)]; rfl

/-- The calls that the law makes, at these numbers. -/
structure Unlike (n m : Nat) (k : Int) : Prop where
  x : ∀ W, HasPow W → Calls Tryd.prog 45 #[.int .i64 n] W fun e w' => e = .returned (sv (lineN n)) ∧ Below W.heap.size W w'
  y : ∀ W, HasPow W → Calls Tryd.prog 45 #[.int .i64 m] W fun e w' => e = .returned (sv (lineN m)) ∧ Below W.heap.size W w'
  a1 : ∀ W, HasPow W → Calls Tryd.prog 25 #[(CmdD.mk 0 none 0 0 ⟨0, ⟨#[]⟩, ⟨#[]⟩, 0, 0, 0, 0⟩ 0 true).val, (AnsD.mk k 0 lifeI0).val] W fun e w' => e = .returned (sv []) ∧ Below W.heap.size W w'
  a2 : ∀ W, HasPow W → Calls Tryd.prog 25 #[lifeC0.val, (AnsD.mk (13 + k % 240) 0 lifeI0).val] W fun e w' => e = .returned (sv []) ∧ Below W.heap.size W w'
  t : ∀ W, Calls Tryd.prog 23 #[.int .u8 (7 + k % 240)] W fun e w' => e = .returned (sv []) ∧ Below W.heap.size W w'

theorem unlike_calls {n m : Nat} {k : Int} (hn : n < 22) (hm : m < 22) (hk : 0 ≤ k ∧ k ≤ 255) : Unlike n m k where
  x := fun W hW => line31_any n W hn hW
  y := fun W hW => line31_any m W hm hW
  a1 := fun W hW => answer_any ⟨0, none, 0, 0, ⟨0, ⟨#[]⟩, ⟨#[]⟩, 0, 0, 0, 0⟩, 0, true⟩ ⟨k, 0, lifeI0⟩ W ⟨hk, show (0 : Int) ≤ 0 ∧ (0 : Int) ≤ 18446744073709551615 from by decide, lifeA0_ok.item⟩ hW
  a2 := fun W hW => by
    have h := answer_any lifeC0 ⟨13 + k % 240, 0, lifeI0⟩ W ⟨by simp; omega, show (0 : Int) ≤ 0 ∧ (0 : Int) ≤ 18446744073709551615 from by decide, lifeA0_ok.item⟩ hW
    rw [show ansOf lifeC0.quiet (AnsD.mk (13 + k % 240) 0 lifeI0).kind (AnsD.mk (13 + k % 240) 0 lifeI0).number = [] from by
      have h8 : ¬ (13 + k % 240 = 8) := by omega
      simp only [ansOf, h8, if_false]
      rw [a_none (by omega)]; simp] at h
    exact h
  t := fun W => by
    have h := of_any (7 + k % 240).toNat W (by omega)
    rw [t_none (by omega), show (((7 + k % 240).toNat : Nat) : Int) = 7 + k % 240 from by omega] at h
    exact h

set_option maxHeartbeats 1600000 in
set_option maxRecDepth 100000 in
theorem unlike_core (a b k : Int) (n m : Nat) (X Y : List UInt8) (hX : lineN n = X) (hY : lineN m = Y) (w : World) (ha : a % 22 = (n : Int)) (hb : b % 22 = (m : Int)) (ha0 : 0 ≤ a ∧ a ≤ 255) (hb0 : 0 ≤ b ∧ b ≤ 255) (hk0 : 0 ≤ k ∧ k ≤ 255)
    (hU : Unlike n m k)
    (hc : (noneB n = true ∧ X.isEmpty = true) ∨ (((n : Int) == 0) = false ∧ ((n : Int) == 7) = false ∧ ((n : Int) == 18) = false ∧ ((n : Int) == 19) = false ∧ X.isEmpty = false ∧ (∀ W, Calls Tryd.prog 46 #[sv X] W fun e w' => e = .returned (.bool true) ∧ Below W.heap.size W w')
      ∧ (((n : Int) != (m : Int)) = false ∨ (((n : Int) != (m : Int)) = true ∧ (X == Y) = false)))) (hP : HasPow w) :
    Calls Tryd.prog 9 #[.int .u8 a, .int .u8 b, .int .u8 k] w fun e w' => e = .returned (.bool true) ∧ Below w.heap.size w w' := by
  have hx := hU.x
  have hy := hU.y
  rw [hX] at hx
  rw [hY] at hy
  have HX := Lib.hid hx
  have HY := Lib.hid hy
  have HU := Lib.hid hU
  have HP := Lib.hid hP
  clear hx hy hU hP hX hY
  rcases hc with ⟨h1, h2⟩ | ⟨h1, h2, h3, h4, h5, h6, h7⟩
  · have h1' : n = 0 ∨ n = 7 ∨ n = 18 ∨ n = 19 := by simp [noneB] at h1; omega
    clear h1
    obtain ⟨bb, h7⟩ : ∃ bb, ((n : Int) != (m : Int)) = bb := ⟨_, rfl⟩
    have h1'' : ((n : Int) == 0) = true ∨ (((n : Int) == 0) = false ∧ ((n : Int) == 7) = true) ∨ (((n : Int) == 0) = false ∧ ((n : Int) == 7) = false ∧ ((n : Int) == 18) = true) ∨ (((n : Int) == 0) = false ∧ ((n : Int) == 7) = false ∧ ((n : Int) == 18) = false ∧ ((n : Int) == 19) = true) := by
      simp only [beq_iff_eq, beq_eq_false_iff_ne]; omega
    clear h1'
    rcases h1'' with h3 | ⟨h3, h4⟩ | ⟨h3, h4, h5⟩ | ⟨h3, h4, h5, h6⟩ <;> cases bb
    all_goals
      go_enter Tryd.func9, Tryd.ntmps9
      go_wp2_with fail
      refine (HX.out _ HP.out).mono ?_
      rintro e w1 ⟨rfl, hb1⟩
      go_wp2_with fail
      refine (HY.out _ (HP.out.below hb1)).mono ?_
      rintro e w2 ⟨rfl, hb2⟩
      have hB2 := hb1.trans (hb2.mono hb1.size)
      clear hb1 hb2
      go_wp2_with fail
      have hB2 := hB2.alloc hB2.size (.cells #[.int .u8 0, .slice none 0 0, .int .u8 0, .string ⟨#[]⟩, .string ⟨#[]⟩, .int .u32 0, .int .i64 0, .int .u64 0, .int .u64 0, .int .i64 0, .bool true] 29)
      refine (HU.out.a1 _ (HP.out.below hB2)).mono ?_
      rintro e w3 ⟨rfl, hb3⟩
      have hB3 := hB2.trans (hb3.mono hB2.size)
      clear hB2 hb3
      go_wp2_with fail
      refine (HU.out.a2 _ (HP.out.below hB3)).mono ?_
      rintro e w4 ⟨rfl, hb4⟩
      have hB4 := hB3.trans (hb4.mono hB3.size)
      clear hB3 hb4
      go_wp2_with fail
      refine (HU.out.t _).mono ?_
      rintro e w5 ⟨rfl, hb5⟩
      have hB5 := hB4.trans (hb5.mono hB4.size)
      clear hB4 hb5
      go_wp2_with fail
      refine (lives31 _ (HP.out.below hB5)).mono ?_
      rintro e w6 ⟨rfl, hb6⟩
      go_wp2_with fail
      go_ret
      exact ⟨rfl, hB5.trans (hb6.mono hB5.size)⟩
  · have H6 := Lib.hid h6
    clear h6
    rcases h7 with h7 | ⟨h7, h8⟩
    all_goals
      go_enter Tryd.func9, Tryd.ntmps9
      go_wp2_with fail
      refine (HX.out _ HP.out).mono ?_
      rintro e w1 ⟨rfl, hb1⟩
      go_wp2_with fail
      refine (HY.out _ (HP.out.below hb1)).mono ?_
      rintro e w2 ⟨rfl, hb2⟩
      have hB2 := hb1.trans (hb2.mono hb1.size)
      clear hb1 hb2
      go_wp2_with fail
      refine (H6.out _).mono ?_
      rintro e w3 ⟨rfl, hb3⟩
      have hB2 := hB2.trans (hb3.mono hB2.size)
      clear hb3
      go_wp2_with fail
      have hB2 := hB2.alloc hB2.size (.cells #[.int .u8 0, .slice none 0 0, .int .u8 0, .string ⟨#[]⟩, .string ⟨#[]⟩, .int .u32 0, .int .i64 0, .int .u64 0, .int .u64 0, .int .i64 0, .bool true] 29)
      refine (HU.out.a1 _ (HP.out.below hB2)).mono ?_
      rintro e w3 ⟨rfl, hb3⟩
      have hB3 := hB2.trans (hb3.mono hB2.size)
      clear hB2 hb3
      go_wp2_with fail
      refine (HU.out.a2 _ (HP.out.below hB3)).mono ?_
      rintro e w4 ⟨rfl, hb4⟩
      have hB4 := hB3.trans (hb4.mono hB3.size)
      clear hB3 hb4
      go_wp2_with fail
      refine (HU.out.t _).mono ?_
      rintro e w5 ⟨rfl, hb5⟩
      have hB5 := hB4.trans (hb5.mono hB4.size)
      clear hB4 hb5
      go_wp2_with fail
      refine (lives31 _ (HP.out.below hB5)).mono ?_
      rintro e w6 ⟨rfl, hb6⟩
      go_wp2_with fail
      go_ret
      exact ⟨rfl, hB5.trans (hb6.mono hB5.size)⟩

theorem tellsUnlike_walk (a b k : Int) (w : World) (ha : 0 ≤ a ∧ a ≤ 255) (hb : 0 ≤ b ∧ b ≤ 255) (hk : 0 ≤ k ∧ k ≤ 255) (hP : HasPow w) :
    Calls Tryd.prog 9 #[.int .u8 a, .int .u8 b, .int .u8 k] w fun e w' => e = .returned (.bool true) ∧ Below w.heap.size w w' := by
  obtain ⟨n, hn⟩ : ∃ n : Nat, a % 22 = (n : Int) := ⟨(a % 22).toNat, by omega⟩
  obtain ⟨m, hm⟩ : ∃ m : Nat, b % 22 = (m : Int) := ⟨(b % 22).toNat, by omega⟩
  have hn22 : n < 22 := by omega
  have hm22 : m < 22 := by omega
  refine unlike_core a b k n m _ _ rfl rfl w hn hm ha hb hk (unlike_calls hn22 hm22 hk) ?_ hP
  have he := lines_none ⟨n, hn22⟩
  have hu := lines_unlike ⟨n, hn22⟩ ⟨m, hm22⟩
  have hend := lines_end ⟨n, hn22⟩
  simp only [Fin.mk.injEq] at he hu hend
  cases hN : noneB n with
  | true => exact .inl ⟨rfl, by rw [he, hN]⟩
  | false =>
    right
    rw [hN] at he hu hend
    have h0 : n ≠ 0 ∧ n ≠ 7 ∧ n ≠ 18 ∧ n ≠ 19 := by simp [noneB] at hN; omega
    obtain ⟨e1, e2, e3, e4, e5⟩ := hend.resolve_left (by simp)
    refine ⟨by rw [beq_eq_false_iff_ne]; omega, by rw [beq_eq_false_iff_ne]; omega, by rw [beq_eq_false_iff_ne]; omega, by rw [beq_eq_false_iff_ne]; omega, he, fun W => ended_yes _ W e1 (by omega) e3 e4 e5, ?_⟩
    rcases hu with h | h | h
    · left; subst h; simp
    · cases h
    · by_cases e : n = m
      · left; subst e; simp
      · right; exact ⟨by rw [bne_iff_ne]; omega, h⟩
end Go.Proofs.YtaokclnandjlpaaDoor
