/- What the reference's Value answers. Condition: the item's texts are of at most 1048576 bytes together. -/
import Derived.Test.YtddifbimlmkcbaaGreatDoorTellsValue0
namespace Go.Proofs.YtddifbimlmkcbaaGreatDoor
open Go.RowKit

theorem value_text (x : ItemD) : lineOf (headL x) = valueW ++ [32] ++ bs x.key ++ [32] ++ Lib.decDigits x.flags.toNat ++ [32] ++ Lib.decDigits x.value.size ++ [13, 10] := by
  have h : Lib.join (headL x) [32] = valueW ++ [32] ++ bs x.key ++ [32] ++ Lib.decDigits x.flags.toNat ++ [32] ++ Lib.decDigits x.value.size := by simp [headL, Lib.join, List.intercalate]
  unfold lineOf
  rw [h, if_neg (by simp [valueW])]
theorem value_text2 (x : ItemD) : lineOf (headL x ++ [Lib.decDigits x.id.toNat]) = valueW ++ [32] ++ bs x.key ++ [32] ++ Lib.decDigits x.flags.toNat ++ [32] ++ Lib.decDigits x.value.size ++ [32] ++ Lib.decDigits x.id.toNat ++ [13, 10] := by
  have h : Lib.join (headL x ++ [Lib.decDigits x.id.toNat]) [32] = valueW ++ [32] ++ bs x.key ++ [32] ++ Lib.decDigits x.flags.toNat ++ [32] ++ Lib.decDigits x.value.size ++ [32] ++ Lib.decDigits x.id.toNat := by simp [headL, Lib.join, List.intercalate]
  unfold lineOf
  rw [h, if_neg (by simp [valueW])]

set_option maxHeartbeats 4000000 in
set_option maxRecDepth 100000 in
theorem refValue_any (c : CmdD) (a : AnsD) (w : World) (ha : a.Ok) (hs : a.item.key.size + a.item.value.size ≤ 1048576) (hP : HasPow w) :
    Calls Tryz.prog 42 #[c.val, a.val] w fun e w' => e = .returned (sv (valueOf c.verb a.kind a.item)) ∧ Below w.heap.size w w' := by
  have HP := Lib.hid hP
  clear hP
  obtain ⟨⟨hk0, hk1⟩, ⟨hn0, hn1⟩, ⟨_, _, ⟨hf0, hf1⟩, ⟨hi0, hi1⟩⟩⟩ := ha
  have hb0 : Below w.heap.size w ((w.alloc (.cells #[.int .u8 c.verb, .slice c.ka c.kn c.kc, .int .u8 c.call.verb, .string c.call.key, .string c.call.value, .int .u32 c.call.flags, .int .i64 c.call.exp, .int .u64 c.call.id, .int .u64 c.call.by', .int .i64 c.bytes, .bool c.quiet] 61)).alloc (.cells #[.int .u8 a.kind, .int .u64 a.number, .string a.item.key, .string a.item.value, .int .u32 a.item.flags, .int .u64 a.item.id, .int .i64 a.item.dies, .int .i64 a.item.gen] 52)) :=
    ((Below.refl _ _).alloc (Nat.le_refl _) _).alloc (by simp) _
  have HB0 := Lib.hid hb0
  clear hb0
  by_cases h11 : a.kind = 11
  · have hb11 : (a.kind == 11) = true := by rw [h11]; rfl
    have hfw : IntKind.u64.wrap a.item.flags = a.item.flags := IntWalk.u64_in _ (by omega)
    have hlw : IntKind.u64.wrap (a.item.value.size : Int) = a.item.value.size := IntWalk.u64_in _ (by omega)
    have hve : valueOf c.verb a.kind a.item = (if c.verb = 2 then valueW ++ [32] ++ bs a.item.key ++ [32] ++ Lib.decDigits a.item.flags.toNat ++ [32] ++ Lib.decDigits a.item.value.size ++ [32] ++ Lib.decDigits a.item.id.toNat ++ [13, 10] else valueW ++ [32] ++ bs a.item.key ++ [32] ++ Lib.decDigits a.item.flags.toNat ++ [32] ++ Lib.decDigits a.item.value.size ++ [13, 10]) ++ bs a.item.value ++ [13, 10] := by
      rw [valueOf, if_pos h11, wordsL]
      split
      · rw [value_text2]
      · rw [value_text]
    rw [hve]
    clear hve
    obtain ⟨D, hD⟩ : ∃ D : Int → List UInt8, ∀ n, D n = Lib.decDigits n.toNat := ⟨_, fun _ => rfl⟩
    rw [← hD a.item.flags, ← hD a.item.id, show Lib.decDigits a.item.value.size = D (a.item.value.size : Int) from by rw [hD, Int.toNat_natCast]]
    have HT : ∀ n : Int, n = a.item.flags ∨ n = (a.item.value.size : Int) ∨ n = a.item.id → ∀ W, Calls Tryz.prog 54 #[.int .u64 n] W fun e w' => e = .returned (sv (D n)) ∧ W = w' := by
      intro n hn W
      rw [hD]
      exact refText_any n (by omega) (by omega) W
    have hd1 : (D a.item.flags).length ≤ 20 := by rw [hD]; exact dec_short _ (by omega)
    have hd2 : (D (a.item.value.size : Int)).length ≤ 20 := by rw [hD]; exact dec_short _ (by omega)
    have hd3 : (D a.item.id).length ≤ 20 := by rw [hD]; exact dec_short _ (by omega)
    have HD := Lib.hid hD
    have HT' := Lib.hid HT
    clear hD HT
    have q1 : ¬ 9223372036854775807 < 6 + a.item.key.size := by omega
    have q2 : ¬ 9223372036854775807 < 6 + a.item.key.size + 1 := by omega
    have q3 : ¬ 9223372036854775807 < 6 + a.item.key.size + 1 + (D a.item.flags).length := by omega
    have q4 : ¬ 9223372036854775807 < 6 + a.item.key.size + 1 + (D a.item.flags).length + 1 := by omega
    have q5 : ¬ 9223372036854775807 < 6 + a.item.key.size + 1 + (D a.item.flags).length + 1 + (D (a.item.value.size : Int)).length := by omega
    have q6 : ¬ 9223372036854775807 < 6 + a.item.key.size + 1 + (D a.item.flags).length + 1 + (D (a.item.value.size : Int)).length + 1 := by omega
    have q7 : ¬ 9223372036854775807 < 6 + a.item.key.size + 1 + (D a.item.flags).length + 1 + (D (a.item.value.size : Int)).length + 1 + (D a.item.id).length := by omega
    clear h11
    by_cases hv2 : c.verb = 2
    · rw [if_pos hv2]
      have hb2 : (c.verb == 2) = true := by rw [hv2]; rfl
      clear hv2
      go_enter Tryz.func42, Tryz.ntmps42
      go_wp2_with fail
      have H0 : Held w c a ((w.alloc (.cells #[.int .u8 c.verb, .slice c.ka c.kn c.kc, .int .u8 c.call.verb, .string c.call.key, .string c.call.value, .int .u32 c.call.flags, .int .i64 c.call.exp, .int .u64 c.call.id, .int .u64 c.call.by', .int .i64 c.bytes, .bool c.quiet] 61)).alloc (.cells #[.int .u8 a.kind, .int .u64 a.number, .string a.item.key, .string a.item.value, .int .u32 a.item.flags, .int .u64 a.item.id, .int .i64 a.item.dies, .int .i64 a.item.gen] 52)) :=
        ⟨by simp [go_sem], by simp [go_sem], by simp [go_sem], by simp [go_sem], by simp [go_sem], HP.out.below HB0.out, HB0.out⟩
      clear HB0
      generalize (w.alloc (.cells #[.int .u8 c.verb, .slice c.ka c.kn c.kc, .int .u8 c.call.verb, .string c.call.key, .string c.call.value, .int .u32 c.call.flags, .int .i64 c.call.exp, .int .u64 c.call.id, .int .u64 c.call.by', .int .i64 c.bytes, .bool c.quiet] 61)).alloc (.cells #[.int .u8 a.kind, .int .u64 a.number, .string a.item.key, .string a.item.value, .int .u32 a.item.flags, .int .u64 a.item.id, .int .i64 a.item.dies, .int .i64 a.item.gen] 52) = W0 at H0 ⊢
      obtain ⟨h1, h2, h3, h4, h5, h6, h7⟩ := H0
      go_region_held3 (fun W => W.cell? ⟨w.heap.size + 1, 2, none⟩ = some (.string a.item.key) ∧ W.cell? ⟨w.heap.size + 1, 3, none⟩ = some (.string a.item.value) ∧ W.cell? ⟨w.heap.size + 1, 4, none⟩ = some (.int .u32 a.item.flags) ∧
          W.cell? ⟨w.heap.size + 1, 5, none⟩ = some (.int .u64 a.item.id) ∧ W.cell? ⟨w.heap.size, 0, none⟩ = some (.int .u8 c.verb) ∧ HasPow W ∧ Below w.heap.size w W)
        (first
          | (exact held_keep (Below.refl _ _).drew ⟨by assumption, by assumption, by assumption, by assumption, by assumption, by assumption, by assumption⟩)
          | (go_split_ands; exact held_keep (Below.refl _ _) ⟨by assumption, by assumption, by assumption, by assumption, by assumption, by assumption, by assumption⟩)
          | go_keep)
        (first
          | (go_split_ands; go_at_call 54; refine (HT'.out _ (by simp) _).mono ?_; rintro e w1 ⟨rfl, rfl⟩)
          | fail)
      go_split_ands
      go_wp2_with fail
      refine (HT'.out _ (by simp) _).mono ?_
      rintro e w2 ⟨rfl, rfl⟩
      go_wp2_with fail
      go_ret
      refine ⟨ret_congr ?_, by assumption⟩
      exact sv_of (by simp only [bs_append, bs_sv]; rfl)
    · rw [if_neg hv2]
      have hb2 : (c.verb == 2) = false := by rw [beq_eq_false_iff_ne]; exact hv2
      clear hv2
      go_enter Tryz.func42, Tryz.ntmps42
      go_wp2_with fail
      have H0 : Held w c a ((w.alloc (.cells #[.int .u8 c.verb, .slice c.ka c.kn c.kc, .int .u8 c.call.verb, .string c.call.key, .string c.call.value, .int .u32 c.call.flags, .int .i64 c.call.exp, .int .u64 c.call.id, .int .u64 c.call.by', .int .i64 c.bytes, .bool c.quiet] 61)).alloc (.cells #[.int .u8 a.kind, .int .u64 a.number, .string a.item.key, .string a.item.value, .int .u32 a.item.flags, .int .u64 a.item.id, .int .i64 a.item.dies, .int .i64 a.item.gen] 52)) :=
        ⟨by simp [go_sem], by simp [go_sem], by simp [go_sem], by simp [go_sem], by simp [go_sem], HP.out.below HB0.out, HB0.out⟩
      clear HB0
      generalize (w.alloc (.cells #[.int .u8 c.verb, .slice c.ka c.kn c.kc, .int .u8 c.call.verb, .string c.call.key, .string c.call.value, .int .u32 c.call.flags, .int .i64 c.call.exp, .int .u64 c.call.id, .int .u64 c.call.by', .int .i64 c.bytes, .bool c.quiet] 61)).alloc (.cells #[.int .u8 a.kind, .int .u64 a.number, .string a.item.key, .string a.item.value, .int .u32 a.item.flags, .int .u64 a.item.id, .int .i64 a.item.dies, .int .i64 a.item.gen] 52) = W0 at H0 ⊢
      obtain ⟨h1, h2, h3, h4, h5, h6, h7⟩ := H0
      go_region_held3 (fun W => W.cell? ⟨w.heap.size + 1, 2, none⟩ = some (.string a.item.key) ∧ W.cell? ⟨w.heap.size + 1, 3, none⟩ = some (.string a.item.value) ∧ W.cell? ⟨w.heap.size + 1, 4, none⟩ = some (.int .u32 a.item.flags) ∧
          W.cell? ⟨w.heap.size + 1, 5, none⟩ = some (.int .u64 a.item.id) ∧ W.cell? ⟨w.heap.size, 0, none⟩ = some (.int .u8 c.verb) ∧ HasPow W ∧ Below w.heap.size w W)
        (first
          | (exact held_keep (Below.refl _ _).drew ⟨by assumption, by assumption, by assumption, by assumption, by assumption, by assumption, by assumption⟩)
          | (go_split_ands; exact held_keep (Below.refl _ _) ⟨by assumption, by assumption, by assumption, by assumption, by assumption, by assumption, by assumption⟩)
          | go_keep)
        (first
          | (go_split_ands; go_at_call 54; refine (HT'.out _ (by simp) _).mono ?_; rintro e w1 ⟨rfl, rfl⟩)
          | fail)
      go_split_ands
      go_wp2_with fail
      go_ret
      refine ⟨ret_congr ?_, by assumption⟩
      exact sv_of (by simp only [bs_append, bs_sv]; rfl)
  · rw [show valueOf c.verb a.kind a.item = [] from by simp [valueOf, h11]]
    have hb11 : (a.kind == 11) = false := by rw [beq_eq_false_iff_ne]; exact h11
    clear h11
    go_enter Tryz.func42, Tryz.ntmps42
    go_wp2_with fail
    go_ret
    exact ⟨rfl, HB0.out⟩
end Go.Proofs.YtddifbimlmkcbaaGreatDoor
