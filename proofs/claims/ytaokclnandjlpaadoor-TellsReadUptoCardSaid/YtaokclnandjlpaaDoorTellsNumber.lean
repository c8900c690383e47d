/- The law TellsNumber answers true. Conditions: the item's and the call's texts are of at most 1048576 bytes together; the table of the powers of ten lies as the library lays it; its variable ErrRange holds an error. -/
import Derived.Test.YtaokclnandjlpaaDoorTellsEnds
import Derived.Test.YtaokclnandjlpaaDoorNumsParse
namespace Go.Proofs.YtaokclnandjlpaaDoor
open Go.RowKit

abbrev CallD.val (c : CallD) : Value := .agg #[.int .u8 c.verb, .string c.key, .string c.value, .int .u32 c.flags, .int .i64 c.exp, .int .u64 c.id, .int .u64 c.by']
abbrev ItemD.val (x : ItemD) : Value := .agg #[.string x.key, .string x.value, .int .u32 x.flags, .int .u64 x.id, .int .i64 x.dies, .int .i64 x.gen]

theorem any_none : ∀ (l chars : List UInt8), (∀ c ∈ l, chars.contains c = false) → Lib.indexAny l chars = -1
  | [], _, _ => rfl
  | b :: l, chars, h => by
    rw [Lib.indexAny, h b (by simp), any_none l chars (fun c hc => h c (by simp [hc]))]; simp
theorem ended_dec (u : Nat) (hu : u < 18446744073709551616) (W : World) :
    Calls Tryd.prog 46 #[sv (Lib.decDigits u ++ [13, 10])] W fun e w' => e = .returned (.bool true) ∧ Below W.heap.size W w' := by
  have h1 : 0 < (Lib.decDigits u).length := List.length_pos_iff.2 (dec_nonempty u)
  have h2 := dec_short u hu
  have hd : ∀ c ∈ Lib.decDigits u, 48 ≤ c.toNat ∧ c.toNat ≤ 57 := fun c hc => digit_is.1 (dec_digit hc)
  have ht : (Lib.decDigits u ++ [13, 10]).take ((Lib.decDigits u ++ [13, 10]).length - 2) = Lib.decDigits u := by
    rw [List.length_append]; simp
  refine ended_yes _ W (by simp; omega) (by simp; omega) (by simp [Lib.hasSuffix]) ?_ ?_
  · rw [ht, Lib.containsAny, any_none]
    · rfl
    · intro c hc
      have := hd c hc
      have h13 : c ≠ 13 := by rintro rfl; simp at this
      have h10 : c ≠ 10 := by rintro rfl; simp at this
      simp [h13, h10]
  · intro c hc
    rcases List.mem_append.1 hc with hc | hc
    · have := hd c hc; omega
    · simp at hc; rcases hc with rfl | rfl <;> decide

abbrev numberW (n m : Int) (x : ItemD) (c : CallD) (w : World) : World :=
  ((w.alloc (.cells #[.int .u64 n, .int .u64 m] 79)).alloc (.cells #[.string x.key, .string x.value, .int .u32 x.flags, .int .u64 x.id, .int .i64 x.dies, .int .i64 x.gen] 32)).alloc (.cells #[.int .u8 c.verb, .string c.key, .string c.value, .int .u32 c.flags, .int .i64 c.exp, .int .u64 c.id, .int .u64 c.by'] 27)
theorem number_b0 (n m : Int) (x : ItemD) (c : CallD) (w : World) : Below w.heap.size w (numberW n m x c w) := (((Below.refl _ _).alloc (Nat.le_refl _) _).alloc (by simp) _).alloc (by simp; omega) _
/-- The calls that the law makes. -/
structure Numbers (n m : Int) (x : ItemD) (c : CallD) (S T D : List UInt8) : Prop where
  a1 : ∀ W, HasPow W → Calls Tryd.prog 25 #[(CmdD.mk 9 none 0 0 c 0 false).val, (AnsD.mk 8 n x).val] W fun e w' => e = .returned (sv S) ∧ Below W.heap.size W w'
  a2 : ∀ W, HasPow W → Calls Tryd.prog 25 #[lifeC0.val, (AnsD.mk 8 m lifeI0).val] W fun e w' => e = .returned (sv T) ∧ Below W.heap.size W w'
  e1 : ∀ W, Calls Tryd.prog 46 #[sv S] W fun e w' => e = .returned (.bool true) ∧ Below W.heap.size W w'
  e2 : ∀ W, Calls Tryd.prog 46 #[sv T] W fun e w' => e = .returned (.bool true) ∧ Below W.heap.size W w'
  cut : ∀ W, (Instr.slice 9 (sv S) none (some (.int .i64 ((S.length : Int) - 2))) none).run Tryd.prog W = .ok (sv D) W
  p : ∀ W, HasErr W → Calls Tryd.prog 49 #[sv D] W fun e w' => e = .returned (.tuple #[.int .u64 n, .bool true]) ∧ Below W.heap.size W w'
  len : 2 ≤ S.length ∧ S.length ≤ 100
  eq : (S == T) = (n == m)

theorem ans_dec {u : Nat} (q : Bool) (hq : q = false) : ansOf q 8 (u : Int) = Lib.decDigits u ++ [13, 10] := by
  subst hq; simp [ansOf, line_dec]
theorem numbers {u v : Nat} (hu : u < 18446744073709551616) (hv : v < 18446744073709551616) (x : ItemD) (c : CallD) (hx : x.Ok) : Numbers (u : Int) (v : Int) x c (Lib.decDigits u ++ [13, 10]) (Lib.decDigits v ++ [13, 10]) (Lib.decDigits u) where
  a1 := fun W hW => by
    have h := answer_any ⟨9, none, 0, 0, c, 0, false⟩ ⟨8, (u : Int), x⟩ W ⟨show (0 : Int) ≤ 8 ∧ (8 : Int) ≤ 255 from by decide, show (0 : Int) ≤ (u : Int) ∧ (u : Int) ≤ 18446744073709551615 from by omega, hx⟩ hW
    rw [show ansOf (CmdD.mk 9 none 0 0 c 0 false).quiet (AnsD.mk 8 (u : Int) x).kind (AnsD.mk 8 (u : Int) x).number = _ from ans_dec false rfl] at h
    exact h
  a2 := fun W hW => by
    have h := answer_any lifeC0 ⟨8, (v : Int), lifeI0⟩ W ⟨show (0 : Int) ≤ 8 ∧ (8 : Int) ≤ 255 from by decide, show (0 : Int) ≤ (v : Int) ∧ (v : Int) ≤ 18446744073709551615 from by omega, lifeA0_ok.item⟩ hW
    rw [show ansOf lifeC0.quiet (AnsD.mk 8 (v : Int) lifeI0).kind (AnsD.mk 8 (v : Int) lifeI0).number = _ from ans_dec false rfl] at h
    exact h
  e1 := fun W => ended_dec u hu W
  e2 := fun W => ended_dec v hv W
  cut := fun W => by
    have h := slice_to (Lib.decDigits u ++ [13, 10]) (Lib.decDigits u).length (by simp) W
    rw [List.take_left, show (((Lib.decDigits u).length : Nat) : Int) = ((Lib.decDigits u ++ [13, 10]).length : Int) - 2 from by simp] at h
    exact h
  p := fun W hW => by have h := parse_at (Lib.decDigits u) W hW; rw [parseV_some (parse_dec hu)] at h; exact h
  len := by have := dec_short u hu; simp; omega
  eq := by
    rw [Bool.eq_iff_iff, beq_iff_eq, beq_iff_eq]
    exact ⟨fun h => by have := dec_inj (List.append_cancel_right h); omega, fun h => by rw [show u = v by omega]⟩

set_option maxHeartbeats 1600000 in
set_option maxRecDepth 100000 in
theorem number_core (n m : Int) (x : ItemD) (c : CallD) (S T D : List UInt8) (w : World) (hs : x.key.size + x.value.size ≤ 1048576) (hs2 : c.key.size + c.value.size ≤ 1048576) (hN : Numbers n m x c S T D) (hP : HasPow w) (hE : HasErr w) :
    Calls Tryd.prog 17 #[.agg #[.int .u64 n, .int .u64 m], x.val, c.val] w fun e w' => e = .returned (.bool true) ∧ Below w.heap.size w w' := by
  have hb0 := number_b0 n m x c w
  have HP := Lib.hid hP
  have HE := Lib.hid hE
  have HB := Lib.hid hb0
  clear hP hE hb0
  by_cases h3000 : 3000 < x.key.size + x.value.size + c.key.size + c.value.size
  · go_enter Tryd.func17, Tryd.ntmps17
    go_wp2_with fail
    refine (lives31 _ (HP.out.below HB.out)).mono ?_
    rintro e w1 ⟨rfl, hb1⟩
    go_wp2_with fail
    go_ret
    exact ⟨rfl, HB.out.trans (hb1.mono HB.out.size)⟩
  · have hcut := hN.cut
    have hlen := hN.len
    have heq := hN.eq
    have HN := Lib.hid hN
    clear hN
    go_enter Tryd.func17, Tryd.ntmps17
    go_wp2_with fail
    refine (HN.out.a1 _ (HP.out.below HB.out)).mono ?_
    rintro e w1 ⟨rfl, hb1⟩
    have hB1 := HB.out.trans (hb1.mono HB.out.size)
    clear hb1
    go_wp2_with fail
    refine (HN.out.a2 _ (HP.out.below hB1)).mono ?_
    rintro e w2 ⟨rfl, hb2⟩
    have hB2 := hB1.trans (hb2.mono hB1.size)
    clear hb2 hB1
    go_wp2_with fail
    refine (HN.out.e1 _).mono ?_
    rintro e w3 ⟨rfl, hb3⟩
    have hB3 := hB2.trans (hb3.mono hB2.size)
    clear hb3 hB2
    go_wp2_with fail
    refine (HN.out.e2 _).mono ?_
    rintro e w4 ⟨rfl, hb4⟩
    have hB4 := hB3.trans (hb4.mono hB3.size)
    clear hb4 hB3
    go_wp2_with fail
    refine (HN.out.p _ (HE.out.below hB4)).mono ?_
    rintro e w5 ⟨rfl, hb5⟩
    have hB5 := hB4.trans (hb5.mono hB4.size)
    clear hb5 hB4
    go_wp2_with fail
    refine (lives31 _ (HP.out.below hB5)).mono ?_
    rintro e w6 ⟨rfl, hb6⟩
    go_wp2_with fail
    go_ret
    exact ⟨rfl, hB5.trans (hb6.mono hB5.size)⟩

theorem tellsNumber_walk (n m : Int) (x : ItemD) (c : CallD) (w : World) (hn : 0 ≤ n ∧ n ≤ 18446744073709551615) (hm : 0 ≤ m ∧ m ≤ 18446744073709551615) (hx : x.Ok) (hs : x.key.size + x.value.size ≤ 1048576) (hs2 : c.key.size + c.value.size ≤ 1048576) (hP : HasPow w) (hE : HasErr w) :
    Calls Tryd.prog 17 #[.agg #[.int .u64 n, .int .u64 m], x.val, c.val] w fun e w' => e = .returned (.bool true) ∧ Below w.heap.size w w' := by
  obtain ⟨u, rfl⟩ := Int.eq_ofNat_of_zero_le hn.1
  obtain ⟨v, rfl⟩ := Int.eq_ofNat_of_zero_le hm.1
  exact number_core _ _ x c _ _ _ w hs hs2 (numbers (by omega) (by omega) x c hx) hP hE
end Go.Proofs.YtaokclnandjlpaaDoor
