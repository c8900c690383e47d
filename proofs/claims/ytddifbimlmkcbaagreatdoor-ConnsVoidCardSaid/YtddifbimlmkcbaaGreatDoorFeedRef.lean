/- The reference's feed: to, line, parsed. Condition: bytes of less than 2^20. -/
import Derived.Test.YtddifbimlmkcbaaGreatDoorLowB
import Derived.Test.YtddifbimlmkcbaaGreatDoorLineRefParse
import Derived.Test.YtddifbimlmkcbaaGreatDoorLowA
import Derived.Test.YtddifbimlmkcbaaGreatDoorLowC
namespace Go.Proofs.YtddifbimlmkcbaaGreatDoor
open Go.RowKit Go.ChangeMaps Go.MapKept

theorem line10_from {bl : List UInt8} {k j : Nat} (hk : k ≤ j) (hj : j ≤ bl.length) (hn : ∀ i, k ≤ i → i < j → bl[i]? ≠ some 10) (he : j = bl.length ∨ bl[j]? = some 10) : line10 (bl.drop k) = j - k := by
  have hs : bl.drop k = (bl.drop k).take (j - k) ++ bl.drop j := by
    rw [show bl.drop j = (bl.drop k).drop (j - k) from by rw [List.drop_drop]; congr 1; omega, List.take_append_drop]
  have hp : ∀ c ∈ (bl.drop k).take (j - k), c ≠ 10 := fun c hc e => by
    obtain ⟨i, hi, rfl⟩ := List.getElem_of_mem hc
    simp at hi
    have h1 := hn (k + i) (by omega) (by omega)
    simp at e
    rw [List.getElem?_eq_getElem (by omega), e] at h1
    exact h1 rfl
  have hl : ((bl.drop k).take (j - k)).length = j - k := by simp; omega
  rcases he with he | he
  · rw [hs, show bl.drop j = [] from by rw [he]; simp, List.append_nil, line10_none hp, hl]
  · have hd : bl.drop j = 10 :: bl.drop (j + 1) := by
      obtain ⟨h1, h2⟩ := List.getElem?_eq_some_iff.1 he
      rw [List.drop_eq_getElem_cons h1, h2]
    rw [hs, hd, line10_at hp, hl]
/-- A number is answered; the world is as it was. -/
def IntIs (n : Nat) (w : World) (e : Ending) (w' : World) : Prop := e = .returned (.int .i64 (n : Int)) ∧ w = w'
set_option maxRecDepth 100000 in
set_option maxHeartbeats 1000000 in
theorem refTo_any {w : World} {bv : Value} {bl : List UInt8} (h : BRow w bv bl) {k : Nat} (hk : k ≤ bl.length) (hl : bl.length < 1048576) :
    Calls Tryz.prog 65 #[bv, .int .i64 (k : Int)] w (IntIs (k + line10 (bl.drop k)) w) := by
  obtain ⟨ba, bc, rfl⟩ := h.len
  have H := Lib.hid h
  clear h
  go_enter Tryz.func65, Tryz.ntmps65
  go_wp2
  go_loop [1] (fun i => ∃ j : Nat, k ≤ j ∧ j ≤ bl.length ∧ i = .int .i64 (j : Int) ∧ ∀ i, k ≤ i → i < j → bl[i]? ≠ some 10) (fun i => bl.length - (intOf i).toNat)
  case atStart => exact ⟨k, Nat.le_refl _, hk, rfl, fun i h1 h2 => by omega⟩
  case round =>
    obtain ⟨j, h1, h2, rfl, hn⟩ := hrel
    have HN := Lib.hid hn
    clear hn
    by_cases hlt : j < bl.length
    · obtain ⟨c, hc⟩ : ∃ c, bl[j]? = some c := ⟨_, List.getElem?_eq_getElem hlt⟩
      obtain ⟨g, o, cc, he, _, hcell⟩ := H.out.at hc
      have hix : ∀ W : World, (Instr.indexAt 22 (.slice ba bl.length bc) (.int .i64 (j : Int))).run Tryz.prog W = .ok (.pointer (some ⟨g, o + j, none⟩)) W := fun W => idx_byte (slice_inj he).1 hlt W
      by_cases hx : c = 10
      · have ht : ((c.toNat : Int) != 10) = false := by rw [hx]; rfl
        have HC := Lib.hid (show bl[j]? = some 10 by rw [hc, hx])
        clear he hc hx
        go_wp2
        go_ret
        exact ⟨ret_congr (int_congr (by rw [line10_from h1 h2 HN.out (.inr HC.out)]; omega)), rfl⟩
      · have ht : ((c.toNat : Int) != 10) = true := by
          rw [bne_iff_ne]
          intro e
          exact hx (UInt8.toNat_inj.1 (by show c.toNat = 10; omega))
        have hn' : ∀ i, k ≤ i → i < j + 1 → bl[i]? ≠ some 10 := fun i q1 q2 => by
          by_cases e : i = j
          · rw [e, hc]; intro e'; exact hx (Option.some.inj e')
          · exact HN.out i q1 (by omega)
        have HN' := Lib.hid hn'
        clear he hc hx hn' HN
        go_wp2
        go_round
        case rel => exact ⟨j + 1, by omega, by omega, by go_num, HN'.out⟩
        case measure => simp [intOf]; omega
    · obtain rfl : j = bl.length := by omega
      go_wp2
      go_ret
      exact ⟨ret_congr (int_congr (by rw [line10_from h1 h2 HN.out (.inl rfl)]; omega)), rfl⟩
/-- What 'line' answers of bytes from k on, whose line has L bytes. -/
def LineIs (k L n : Nat) (w : World) (e : Ending) (w' : World) : Prop := e = .returned (.tuple #[.int .i64 ((k + L + 1 : Nat) : Int), .bool (decide (2048 < L)), .bool (decide (2048 < L) || decide (k + L < n))]) ∧ w = w'
set_option maxRecDepth 100000 in
set_option maxHeartbeats 1000000 in
theorem refLine30_any {w : World} {bv : Value} {bl : List UInt8} (h : BRow w bv bl) {k : Nat} (hk : k ≤ bl.length) (hl : bl.length < 1048576) :
    Calls Tryz.prog 63 #[bv, .int .i64 (k : Int)] w (LineIs k (line10 (bl.drop k)) bl.length w) := by
  have hto := refTo_any h hk hl
  have hle := line10_le (bl.drop k)
  rw [List.length_drop] at hle
  obtain ⟨ba, bc, rfl⟩ := h.len
  obtain ⟨M, hM⟩ : ∃ M, M = k + line10 (bl.drop k) := ⟨_, rfl⟩
  rw [← hM] at hto
  have hLM : line10 (bl.drop k) = M - k := by omega
  rw [hLM] at hle ⊢
  have hkM : k ≤ M := by omega
  have hMn : M ≤ bl.length := by omega
  generalize bl.length = n at *
  have H := Lib.hid hto
  clear hto h hM hLM hle
  have hv : LineIs k (M - k) n w (.returned (.tuple #[.int .i64 ((M : Int) + 1), .bool (decide (2048 < M - k)), .bool (decide (2048 < M - k) || decide (M < n))])) w :=
    ⟨ret_congr (by rw [show ((k + (M - k) + 1 : Nat) : Int) = (M : Int) + 1 from by omega, show k + (M - k) = M from by omega]), rfl⟩
  have HV := Lib.hid hv
  clear hv
  by_cases hL : 2048 < M - k
  · have ht : decide ((2048 : Int) < (M : Int) - (k : Int)) = true := by rw [decide_eq_true_eq]; omega
    have e1 : decide (2048 < M - k) = true := decide_eq_true hL
    rw [e1] at HV
    clear e1 hL
    go_enter Tryz.func63, Tryz.ntmps63
    go_wp2_with fail
    refine H.out.mono ?_
    rintro e w' ⟨rfl, rfl⟩
    go_wp2_with fail
    exact bodyPost_ret (v := .tuple #[.int .i64 ((M : Int) + 1), .bool true, .bool true]) (by simp [results, Tryz.results63, go_sem]) rfl (by simpa using HV.out)
  · have ht : decide ((2048 : Int) < (M : Int) - (k : Int)) = false := by rw [decide_eq_false_iff_not]; omega
    have e1 : decide (2048 < M - k) = false := decide_eq_false hL
    rw [e1] at HV
    clear e1 hL
    go_enter Tryz.func63, Tryz.ntmps63
    go_wp2_with fail
    refine H.out.mono ?_
    rintro e w' ⟨rfl, rfl⟩
    have e2 : decide ((M : Int) < (n : Int)) = decide (M < n) := by simp
    have HE := Lib.hid e2
    clear e2
    go_wp2_with fail
    refine bodyPost_ret (v := .tuple #[.int .i64 ((M : Int) + 1), .bool false, .bool (decide (M < n))]) (by simp [results, Tryz.results63, go_sem]) rfl ?_
    have := HV.out
    simpa using this
theorem bytes_mid {g o n c k m : Nat} {hi : Int} (hh : hi = (k : Int) + (m : Int)) (h1 : k + m ≤ n) (h2 : n ≤ c) (h3 : k < c) (hm : c ≤ maxLen) (W : World) : (Instr.slice 22 (.slice (some ⟨g, o, none⟩) n c) (some (.int .i64 (k : Int))) (some (.int .i64 hi)) none).run Tryz.prog W = .ok (.slice (some ⟨g, o + k, none⟩) m (c - k)) W := by
  subst hh
  unfold maxLen at hm
  have h0 : (0 : Int) ≤ (k : Int) := by omega
  have h4 : (0 : Int) ≤ (k : Int) + (m : Int) := by omega
  have h5 : (k : Int) ≤ (k : Int) + (m : Int) := by omega
  have h6 : (k : Int) + (m : Int) ≤ (c : Int) := by omega
  have h7 := Tryz.underlying22
  have h9 : ¬ c = k := by omega
  go_simp
  omega
theorem bytes_to {g o n c m : Nat} {hi : Int} (hh : hi = (m : Int)) (h1 : m ≤ n) (h2 : n ≤ c) (W : World) : (Instr.slice 22 (.slice (some ⟨g, o, none⟩) n c) none (some (.int .i64 hi)) none).run Tryz.prog W = .ok (.slice (some ⟨g, o, none⟩) m c) W := by
  subst hh
  have h4 : (0 : Int) ≤ (m : Int) := by omega
  have h6 : (m : Int) ≤ (c : Int) := by omega
  have h7 := Tryz.underlying22
  go_simp
theorem conv_at {l : List UInt8} {g o c : Nat} {W : World} (h : ∀ j x, l[j]? = some x → W.cell? ⟨g, o + j, none⟩ = some (u8v x)) : (convert 22 9 (.slice (some ⟨g, o, none⟩) l.length c)).run Tryz.prog W = .ok (sv l) W :=
  run_convert_bytes_back (P := Tryz.prog) W 22 9 5 ⟨g, o, none⟩ c l Tryz.underlying22 Tryz.underlying5 Tryz.underlying9 (fun j hj => by
    rw [show (⟨g, o, none⟩ : Addr).add j = ⟨g, o + j, none⟩ from by simp [Addr.add]]; exact h j _ (List.getElem?_eq_getElem hj))
set_option maxRecDepth 100000 in
set_option maxHeartbeats 2000000 in
theorem refParsed_any {w : World} {bv : Value} {bl : List UInt8} (h : BRow w bv bl) {k L E : Nat} (hE : E = k + L + 1) (hk : k + L < bl.length) (hl : bl.length < 1048576) :
    Calls Tryz.prog 64 #[bv, .int .i64 (k : Int), .int .i64 (E : Int)] w (RefParseOk (trimCr ((bl.drop k).take L)) w) := by
  obtain ⟨g, o, c, rfl, hg, hnc, hcm, hcell⟩ := h.get (by intro e; have := congrArg List.length e; rw [List.length_nil] at this; omega)
  have hP : ∀ j x, ((bl.drop k).take L)[j]? = some x → w.cell? ⟨g, o + k + j, none⟩ = some (u8v x) := fun j x hx => by
    have hj : j < L := by have := (List.getElem?_eq_some_iff.1 hx).1; simp at this; omega
    rw [List.getElem?_take, if_pos hj, List.getElem?_drop] at hx
    rw [show o + k + j = o + (k + j) from by omega]
    exact hcell (k + j) x hx
  have hPl : ((bl.drop k).take L).length = L := by
    rw [List.length_take, List.length_drop]
    omega
  generalize (bl.drop k).take L = P at *
  generalize bl.length = n at *
  rw [show (E : Int) = (k : Int) + (L : Int) + 1 from by omega]
  have hsl := fun W => bytes_mid (g := g) (o := o) (n := n) (c := c) (k := k) (m := L) rfl (by omega) hnc (by omega) hcm W
  obtain ⟨w0, hw0⟩ : ∃ w0, w0 = w.alloc (.cells zeroA 61) := ⟨_, rfl⟩
  have hb0 : Below w.heap.size w w0 := by rw [hw0]; exact (Below.refl _ _).alloc (Nat.le_refl _) _
  have hq0 : w0.heap[w.heap.size]? = some (.cells zeroA 61 (0, 0)) := by rw [hw0]; exact heap_alloc_new _ _
  have hP0 : ∀ j x, P[j]? = some x → w0.cell? ⟨g, o + k + j, none⟩ = some (u8v x) := fun j x hx => by
    rw [hb0.cell (p := ⟨g, o + k + j, none⟩) hg]; exact hP j x hx
  clear h hcell hP
  have HB0 := Lib.hid hb0
  have HQ0 := Lib.hid hq0
  have HP0 := Lib.hid hP0
  have HW0 := Lib.hid hw0
  clear hb0 hq0 hP0
  have fin : ∀ (Q : List UInt8), Q = trimCr P → Calls Tryz.prog 74 #[sv Q] w0 (RefParseOk (trimCr P) w0) := fun Q hQ => by
    subst hQ
    refine refParseLine_at _ w0 ?_
    have : (trimCr P).length ≤ P.length := by unfold trimCr; split <;> simp
    omega
  have HFIN := Lib.hid fin
  clear fin hw0
  have hdone : ∀ (ks : Value) (w2 w3 : World), OwnT w2 w0.heap.size 9 ks ((parseL (trimCr P)).1.keys.map sv) → Below w0.heap.size w0 w2 → w2.grownBy w3 (some w.heap.size) → RefParseOk (trimCr P) w (.returned (.tuple #[cmdV ks (parseL (trimCr P)).1, .int .i64 ((parseL (trimCr P)).2 : Int)])) w3 := fun ks w2 w3 ho hb hg => by
    have h1 : w.heap.size < w0.heap.size := lt_of_block HQ0.out
    exact ⟨ks, rfl, (ho.grown hg h1).mono (by omega), below_then (HB0.out.trans (hb.mono (by omega))) (by have := hb.size; omega) hg (Nat.le_refl _)⟩
  have HDONE := Lib.hid hdone
  clear hdone hE
  by_cases hL : L = 0
  · have h13 : P = trimCr P := by
      obtain rfl : P = [] := List.eq_nil_of_length_eq_zero (by omega)
      rfl
    have hcv := conv_at (c := c - k) HP0.out
    rw [hPl] at hcv
    have hl0 : decide (0 < L) = false := by rw [decide_eq_false_iff_not]; omega
    have HT := Lib.hid h13
    clear h13 hL hPl
    · -- nothing to cut
      go_enter Tryz.func64, Tryz.ntmps64
      go_upto_region 1 with fail
      rw [← HW0.out]
      go_wp2_with fail
      refine (HFIN.out _ HT.out).mono ?_
      rintro e w2 ⟨ks, rfl, ho2, hb2⟩
      have hq2 : w2.heap[w.heap.size]? = some (.cells zeroA 61 (0, 0)) := (hb2.block _ (lt_of_block HQ0.out)).trans HQ0.out
      obtain ⟨ka, kc, hka⟩ := ho2.1.len
      have hk1 : ks.oneCell' = true := by rw [hka]; rfl
      have HO := Lib.hid ho2
      have HB2 := Lib.hid hb2
      clear hka ho2 hb2
      go_wp2_with (first
        | ((with_reducible show wpList _ _ _ (⟨none, Op.store _ _ _, _, _, _, _⟩ :: _) _ _); refine wpList_store_whole (by rfl) 61 (.tmp 6) (.tmp 34) (by rfl) w.heap.size (by rfl) (cmdCells ks (parseL (trimCr P)).1).toArray (by rfl) _ 61 hq2 (by rfl) (by kernel_rfl) (by simp [Value.oneCell']; exact hk1) ?_; intro w3 hr3 hg3 hs3)
        | ((with_reducible show bodyPost _ _ _ Exit.ret _ _); exact bodyPost_ret (v := .tuple #[cmdV ks (parseL (trimCr P)).1, .int .i64 ((parseL (trimCr P)).2 : Int)]) (results_row_tmp rfl _ _ w.heap.size _ _ _ _ (by rfl) hr3 Tryz.underlying61 rfl (by kernel_rfl) _ (by rfl)) rfl (HDONE.out _ _ _ HO.out HB2.out hg3))
        | fail)
  · obtain ⟨x, hx⟩ : ∃ x, P[L - 1]? = some x := ⟨_, List.getElem?_eq_getElem (by omega)⟩
    have hlast : P.getLast? = some x := by rw [List.getLast?_eq_getElem?, hPl]; exact hx
    have hcx := HP0.out _ _ hx
    have hl0 : decide (0 < L) = true := by rw [decide_eq_true_eq]; omega
    have hpos : 0 < L := by omega
    by_cases h13 : x = 13
    · have ht : ((x.toNat : Int) == 13) = true := by rw [h13]; rfl
      have hT : P.dropLast = trimCr P := by unfold trimCr; rw [hlast, if_pos (by rw [h13])]
      have hsl2 := fun W => bytes_to (g := g) (o := o + k) (n := L) (c := c - k) (m := L - 1) (hi := (L : Int) - 1) (by omega) (by omega) (by omega) W
      have hcv := conv_at (l := P.dropLast) (c := c - k) (W := w0) (g := g) (o := o + k) (fun j y hy => by
        have hj : j < P.length - 1 := by have := (List.getElem?_eq_some_iff.1 hy).1; simpa using this
        rw [List.getElem?_dropLast, if_pos hj] at hy
        exact HP0.out j y hy)
      rw [show P.dropLast.length = L - 1 from by rw [List.length_dropLast, hPl]] at hcv
      have HT := Lib.hid hT
      clear hT h13 hlast hx hPl hL
      go_enter Tryz.func64, Tryz.ntmps64
      go_upto_region 1 with fail
      rw [← HW0.out]
      go_wp2_with fail
      refine (HFIN.out _ HT.out).mono ?_
      rintro e w2 ⟨ks, rfl, ho2, hb2⟩
      have hq2 : w2.heap[w.heap.size]? = some (.cells zeroA 61 (0, 0)) := (hb2.block _ (lt_of_block HQ0.out)).trans HQ0.out
      obtain ⟨ka, kc, hka⟩ := ho2.1.len
      have hk1 : ks.oneCell' = true := by rw [hka]; rfl
      have HO := Lib.hid ho2
      have HB2 := Lib.hid hb2
      clear hka ho2 hb2
      go_wp2_with (first
        | ((with_reducible show wpList _ _ _ (⟨none, Op.store _ _ _, _, _, _, _⟩ :: _) _ _); refine wpList_store_whole (by rfl) 61 (.tmp 6) (.tmp 34) (by rfl) w.heap.size (by rfl) (cmdCells ks (parseL (trimCr P)).1).toArray (by rfl) _ 61 hq2 (by rfl) (by kernel_rfl) (by simp [Value.oneCell']; exact hk1) ?_; intro w3 hr3 hg3 hs3)
        | ((with_reducible show bodyPost _ _ _ Exit.ret _ _); exact bodyPost_ret (v := .tuple #[cmdV ks (parseL (trimCr P)).1, .int .i64 ((parseL (trimCr P)).2 : Int)]) (results_row_tmp rfl _ _ w.heap.size _ _ _ _ (by rfl) hr3 Tryz.underlying61 rfl (by kernel_rfl) _ (by rfl)) rfl (HDONE.out _ _ _ HO.out HB2.out hg3))
        | fail)
    · have ht : ((x.toNat : Int) == 13) = false := by
        rw [beq_eq_false_iff_ne]
        intro e
        exact h13 (UInt8.toNat_inj.1 (by show x.toNat = 13; omega))
      have hT : P = trimCr P := by unfold trimCr; rw [hlast, if_neg (by simpa using h13)]
      have hcv := conv_at (c := c - k) HP0.out
      rw [hPl] at hcv
      have HT := Lib.hid hT
      clear hT h13 hlast hx hPl hL
      go_enter Tryz.func64, Tryz.ntmps64
      go_upto_region 1 with fail
      rw [← HW0.out]
      go_wp2_with fail
      refine (HFIN.out _ HT.out).mono ?_
      rintro e w2 ⟨ks, rfl, ho2, hb2⟩
      have hq2 : w2.heap[w.heap.size]? = some (.cells zeroA 61 (0, 0)) := (hb2.block _ (lt_of_block HQ0.out)).trans HQ0.out
      obtain ⟨ka, kc, hka⟩ := ho2.1.len
      have hk1 : ks.oneCell' = true := by rw [hka]; rfl
      have HO := Lib.hid ho2
      have HB2 := Lib.hid hb2
      clear hka ho2 hb2
      go_wp2_with (first
        | ((with_reducible show wpList _ _ _ (⟨none, Op.store _ _ _, _, _, _, _⟩ :: _) _ _); refine wpList_store_whole (by rfl) 61 (.tmp 6) (.tmp 34) (by rfl) w.heap.size (by rfl) (cmdCells ks (parseL (trimCr P)).1).toArray (by rfl) _ 61 hq2 (by rfl) (by kernel_rfl) (by simp [Value.oneCell']; exact hk1) ?_; intro w3 hr3 hg3 hs3)
        | ((with_reducible show bodyPost _ _ _ Exit.ret _ _); exact bodyPost_ret (v := .tuple #[cmdV ks (parseL (trimCr P)).1, .int .i64 ((parseL (trimCr P)).2 : Int)]) (results_row_tmp rfl _ _ w.heap.size _ _ _ _ (by rfl) hr3 Tryz.underlying61 rfl (by kernel_rfl) _ (by rfl)) rfl (HDONE.out _ _ _ HO.out HB2.out hg3))
        | fail)
end Go.Proofs.YtddifbimlmkcbaaGreatDoor
