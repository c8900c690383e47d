/- The law LinesWords returns true at every verb, number and letter. Conditions: MaxLen, ErrRange, the powers of ten as they must be. (Printed by genlwords.py.) -/
import Derived.Test.YtofpaooaiafpbaaGreatDoorLinesWords1
import Derived.Test.YtofpaooaiafpbaaGreatDoorLineLives
import Derived.Test.YtofpaooaiafpbaaGreatDoorLinesParse
namespace Go.Proofs.YtofpaooaiafpbaaGreatDoor
open Go.RowKit Go.ChangeMaps Go.MapKept

theorem join_le (L : List (List UInt8)) : (Lib.join L [32]).length ≤ (flatW L).length := by
  cases L with
  | nil => simp [Lib.join]
  | cons x L => rw [join_flat, flatW_cons]; simp
theorem short_join {L : List (List UInt8)} (h : ∀ x ∈ L, x.length ≤ 10) (hl : L.length ≤ 7) : (Lib.join L [32]).length ≤ 100 := by
  have h1 := join_le L
  have h2 := flatW_le (k := 10) h
  have h3 : L.length * (10 + 1) ≤ 7 * 11 := Nat.mul_le_mul_right _ hl
  omega
theorem join_any {w : World} {B : Nat} {v : Value} {L : List (List UInt8)} (h : Strs w B v L) (hs : ∀ x ∈ L, x.length ≤ 10) (hl : L.length ≤ 7) :
    Calls Tryz.prog 16 #[v, sv [32]] w fun e w' => e = .returned (sv (Lib.join L [32])) ∧ Below w.heap.size w w' := by
  have hj := short_join hs hl
  cases L with
  | nil =>
    obtain ⟨a, c, rfl⟩ := h.len
    refine (Tryz.strings_Join_none a c _ w).mono ?_
    rintro e w' ⟨rfl, rfl⟩
    exact ⟨rfl, Below.refl _ _⟩
  | cons x L => exact join_at h (by simp) (by omega) (by omega)
theorem cat3s (a b d : List UInt8) : Value.string ((⟨a.toArray⟩ : ByteArray) ++ ⟨b.toArray⟩ ++ ⟨d.toArray⟩) = sv (a ++ b ++ d) := sv_of (by rw [bs_append, bs_append])
theorem toUpper_at (x : List UInt8) (w : World) (hx : x.length ≤ 10) (ha : ∀ b ∈ x, b.toNat < 128) :
    Calls Tryz.prog 17 #[sv x] w fun e w' => e = .returned (sv (Lib.toUpperA x)) ∧ Below w.heap.size w w' := by
  have h := Tryz.strings_ToUpper_ascii ⟨x.toArray⟩ w (by rw [sv_size]; omega) (fun j b hb => ha b (List.mem_of_getElem? hb))
  exact h
theorem slice_mid (l : List UInt8) (i : Nat) (h : i + 1 ≤ l.length) (W : World) : (Instr.slice 9 (sv l) (some (.int .i64 (i : Int))) (some (.int .i64 ((i : Int) + 1))) none).run Tryz.prog W = .ok (sv ((l.drop i).take 1)) W := by
  rw [run_slice_string_if (h := Tryz.underlying9), if_pos (by rw [sv_size]; omega), if_pos ⟨by omega, by omega⟩]
  congr 1
  exact sv_of (by rw [bs_extract, bs_sv, show ((i : Int)).toNat = i from by omega, show ((i : Int) + 1).toNat = i + 1 from by omega, List.drop_take, show i + 1 - i = 1 from by omega])
/-- 's[:k]' of a slice of strings. -/
theorem strs_to (g o n c M : Nat) (h : M ≤ n) (hc : n ≤ c) (W : World) : (Instr.slice 24 (.slice (some ⟨g, o, none⟩) n c) none (some (.int .i64 (M : Int))) none).run Tryz.prog W = .ok (.slice (some ⟨g, o, none⟩) M c) W := by
  have h2 := Tryz.underlying24
  have i1 : (0 : Int) ≤ (M : Int) := by omega
  have i2 : (M : Int) ≤ (c : Int) := by omega
  have i3 : (n : Int) ≤ (c : Int) := by omega
  go_simp
theorem strs_tail {w : World} {B g o n c o' : Nat} {x : List UInt8} {R : List (List UInt8)} (h : Strs w B (.slice (some ⟨g, o, none⟩) n c) (x :: R)) (ho : 1 < n → o' = o + 1) (j : Nat) (u : Value) (hu : (R.map sv)[j]? = some u) : w.cell? ((⟨g, o', none⟩ : Addr).add j) = some u := by
  obtain ⟨a', c', he, _, _, _, h4⟩ := h
  obtain ⟨ha, hn, _⟩ := slice_inj he
  rcases h4 with h4 | ⟨g2, o2, ha2, _, h5⟩
  · simp at h4
  · rw [ha2] at ha
    simp only [Option.some.injEq, Addr.mk.injEq, and_true] at ha
    obtain ⟨rfl, rfl⟩ := ha
    have hj := (List.getElem?_eq_some_iff.1 hu).1
    have hn1 : 1 < n := by rw [hn]; simp at hj ⊢; omega
    rw [ho hn1, show (⟨g, o + 1, none⟩ : Addr).add j = ⟨g, o + (j + 1), none⟩ from by rw [Addr.add_mid]; congr 1; omega]
    exact (h5 (j + 1) u (by simpa using hu)).1
theorem strs_init {w : World} {B n c : Nat} {a : Option Addr} {L : List (List UInt8)} (h : Strs w B (.slice a n c) L) : Strs w B (.slice a (n - 1) c) L.dropLast := by
  obtain ⟨a', c', he, h1, h2, h3, h4⟩ := h
  obtain ⟨rfl, hn, rfl⟩ := slice_inj he
  rw [List.length_map] at h1 hn
  refine ⟨a, c, by rw [List.length_map, List.length_dropLast, hn], by rw [List.length_map, List.length_dropLast]; omega, h2, fun hc => by have := h3 hc; omega, ?_⟩
  rcases h4 with h4 | ⟨g, o, rfl, hg, h5⟩
  · left
    rw [List.map_eq_nil_iff] at h4
    rw [h4]; rfl
  · right
    refine ⟨g, o, rfl, hg, fun j x hx => h5 j x ?_⟩
    rw [List.getElem?_map] at hx ⊢
    rw [List.getElem?_dropLast] at hx
    split at hx
    · exact hx
    · simp at hx
theorem own_cells9 {w : World} {B n c : Nat} {ad : Addr} {L : List (List UInt8)} (h : Strs w B (.slice (some ad) n c) L) (j : Nat) (x : Value) (hx : (L.map sv)[j]? = some x) : w.cell? (ad.add j) = some x := by
  obtain ⟨a, c', he, _, _, _, h4⟩ := h
  rcases h4 with h4 | ⟨g, o, ha, _, h5⟩
  · rw [h4] at hx; simp at hx
  · have h1 := (slice_inj he).1
    rw [ha] at h1
    cases h1
    rw [show (⟨g, o, none⟩ : Addr).add j = ⟨g, o + j, none⟩ from Addr.add_mid g o j]
    exact (h5 j x hx).1
theorem wordsV_head (m : Nat) (h : m < 13) (n0 n1 n2 n3 : List UInt8) : wordsV m n0 n1 n2 n3 = names.getD m [] :: (wordsV m n0 n1 n2 n3).drop 1 := by
  match m, h with
  | 0, _ => rfl
  | 1, _ => rfl
  | 2, _ => rfl
  | 3, _ => rfl
  | 4, _ => rfl
  | 5, _ => rfl
  | 6, _ => rfl
  | 7, _ => rfl
  | 8, _ => rfl
  | 9, _ => rfl
  | 10, _ => rfl
  | 11, _ => rfl
  | 12, _ => rfl
theorem wordsV_short (m : Nat) (n0 n1 n2 n3 : List UInt8) (h0 : n0.length ≤ 3) (h1 : n1.length ≤ 3) (h2 : n2.length ≤ 3) (h3 : n3.length ≤ 3) : ∀ x ∈ wordsV m n0 n1 n2 n3, x.length ≤ 9 := by
  unfold wordsV
  split <;> (intro x hx; simp only [List.mem_cons, List.not_mem_nil, or_false] at hx; rcases hx with rfl | hx) <;> first
    | decide
    | (rcases hx with rfl | hx <;> first | decide | omega | (rcases hx with rfl | rfl | rfl | rfl <;> first | decide | omega) | (rcases hx with rfl | rfl | rfl <;> first | decide | omega) | (subst hx; first | decide | omega))
    | (subst hx; first | decide | omega)
theorem names_ascii : ∀ m < 13, ∀ b ∈ names.getD m [], b.toNat < 128 := by decide
theorem names_size : ∀ m < 13, 3 ≤ (names.getD m []).length ∧ (names.getD m []).length ≤ 9 := by decide
/-- What is known of a verb's words. -/
structure WordsSay (m : Nat) (nm : List UInt8) (R : List (List UInt8)) (c q : Cmd) (mt lt qt : Nat) : Prop where
  isC : pJ (nm :: R) = (c, 0)
  quiet : c.quiet = false
  x : (pJ ((nm ++ [120]) :: R)).2 = 1
  odd : ∀ i < nm.length, nm.getD i 0 = 95 ∨ (pJ (oddAt nm i :: R)).2 = 1
  more : (pJ (nm :: R ++ [moreW])).2 = mt
  less : (pJ (nm :: R).dropLast).2 = lt
  isQ : pJ (nm :: R ++ [noreply]) = (q, qt)
  end0 : m < 2 → mt = 0 ∧ qt = 0 ∧ q.quiet = false ∧ q.keys.length = R.length + 1 ∧ ((lt = 0) = (R.length + 1 = 3))
  end1 : m = 10 → mt = 1 ∧ lt = 0 ∧ qt = 0 ∧ q.quiet = true ∧ callC q c = true
  end2 : m = 11 ∨ m = 12 → mt = 1 ∧ lt = 1 ∧ qt = 1
  end3 : 2 ≤ m → m ≠ 10 → m ≠ 11 → m ≠ 12 → mt = 1 ∧ lt = 1 ∧ qt = 0 ∧ q.quiet = true ∧ callC q c = true ∧ q.bytes = c.bytes
theorem words_say {m : Nat} {nm : List UInt8} {R : List (List UInt8)} (h : wordsOk m (nm :: R) = true) : ∃ c q mt lt qt, WordsSay m nm R c q mt lt qt := by
  unfold wordsOk at h
  simp only [] at h
  simp only [Bool.and_eq_true] at h
  obtain ⟨⟨⟨⟨h1, h2⟩, h3⟩, h4⟩, h5⟩ := h
  refine ⟨(pJ (nm :: R)).1, (pJ (nm :: R ++ [noreply])).1, _, _, (pJ (nm :: R ++ [noreply])).2, ⟨Prod.ext rfl (by simpa using h1), by simpa using h2, by rw [beq_iff_eq] at h3; exact h3, fun i hi => ?_, rfl, rfl, rfl, fun hm => ?_, fun hm => ?_, fun hm => ?_, fun a1 a2 a3 a4 => ?_⟩⟩
  · have h6 := List.all_eq_true.1 h4 i (List.mem_range.2 hi)
    simp only [Bool.or_eq_true, beq_iff_eq] at h6
    exact h6
  · rw [if_pos hm] at h5
    simp only [Bool.and_eq_true, beq_iff_eq, Bool.not_eq_true', List.length_cons] at h5
    obtain ⟨⟨⟨⟨h6, h7⟩, h8⟩, h9⟩, h10⟩ := h5
    exact ⟨h6, h7, h8, h9, by rw [Bool.eq_iff_iff] at h10; simpa using h10⟩
  · rw [if_neg (by omega), if_pos hm] at h5
    simp only [Bool.and_eq_true, beq_iff_eq] at h5
    exact ⟨h5.1.1.1.1, h5.1.1.1.2, h5.1.1.2, h5.1.2, h5.2⟩
  · rw [if_neg (by omega), if_neg (by omega), if_pos hm] at h5
    simp only [Bool.and_eq_true, beq_iff_eq] at h5
    exact ⟨h5.1.1, h5.1.2, h5.2⟩
  · rw [if_neg (by omega), if_neg a2, if_neg (by omega)] at h5
    simp only [Bool.and_eq_true, beq_iff_eq] at h5
    exact ⟨h5.1.1.1.1.1, h5.1.1.1.1.2, h5.1.1.1.2, h5.1.1.2, h5.1.2, h5.2⟩


set_option maxRecDepth 100000 in
set_option maxHeartbeats 6400000 in
theorem linesWords_walk (v k0 k1 k2 k3 l : Nat) (w : World) (hv : v < 256) (h0 : k0 < 65536) (h1 : k1 < 65536) (h2 : k2 < 65536) (h3 : k3 < 65536) (hl : l < 256) (hL : HasLen w) (hE : HasErr w) (hP : HasPow w) :
    Calls Tryz.prog 5 #[.int .u8 (v : Int), .agg #[.int .u16 (k0 : Int), .int .u16 (k1 : Int), .int .u16 (k2 : Int), .int .u16 (k3 : Int)], .int .u8 (l : Int)] w fun e w' => e = .returned (.bool true) ∧ Below w.heap.size w w' := by
  obtain ⟨i0, hi, hz0, hz1, hz2⟩ := info_parts infoStr
  have Hi := Lib.hid hi
  have Hz := Lib.hid (And.intro hz0 (And.intro hz1 hz2))
  clear hi hz0 hz1 hz2
  have hb1 : Below w.heap.size w (w.alloc (.cells #[.int .u16 (k0 : Int), .int .u16 (k1 : Int), .int .u16 (k2 : Int), .int .u16 (k3 : Int)] 45)) := (Below.refl _ _).alloc (Nat.le_refl _) _
  have hbox : (w.alloc (.cells #[.int .u16 (k0 : Int), .int .u16 (k1 : Int), .int .u16 (k2 : Int), .int .u16 (k3 : Int)] 45)).heap[w.heap.size]? = some (.cells #[.int .u16 (k0 : Int), .int .u16 (k1 : Int), .int .u16 (k2 : Int), .int .u16 (k3 : Int)] 45 (0, 0)) := heap_alloc_new _ _
  have HL := Lib.hid (hL.below hb1)
  have HE := Lib.hid (hE.below hb1)
  have HP := Lib.hid (hP.below hb1)
  have HB1 := Lib.hid hb1
  have HBOX := Lib.hid hbox
  clear hL hE hP hb1 hbox
  go_enter Tryz.func5, Tryz.ntmps5
  go_wp2_with fail
  generalize w.alloc (.cells #[.int .u16 (k0 : Int), .int .u16 (k1 : Int), .int .u16 (k2 : Int), .int .u16 (k3 : Int)] 45) = W1 at *
  refine (number29_any 0 k0 w.heap.size W1 h0 (by decide) (block_cell (((Below.refl W1.heap.size W1).block _ (lt_of_block HBOX.out)).trans HBOX.out) 0).1).mono ?_
  rintro e W2 ⟨rfl, hb⟩
  have HB11 := Lib.hid ((Below.refl W1.heap.size W1).trans (hb.mono (Below.refl W1.heap.size W1).size))
  clear hb
  go_wp2_with fail
  refine (number29_any 1 k1 w.heap.size W2 h1 (by decide) (block_cell ((HB11.out.block _ (lt_of_block HBOX.out)).trans HBOX.out) 1).1).mono ?_
  rintro e W3 ⟨rfl, hb⟩
  have HB12 := Lib.hid (HB11.out.trans (hb.mono HB11.out.size))
  clear hb
  go_wp2_with fail
  refine (number29_any 2 k2 w.heap.size W3 h2 (by decide) (block_cell ((HB12.out.block _ (lt_of_block HBOX.out)).trans HBOX.out) 2).1).mono ?_
  rintro e W4 ⟨rfl, hb⟩
  have HB13 := Lib.hid (HB12.out.trans (hb.mono HB12.out.size))
  clear hb
  go_wp2_with fail
  refine (number29_any 3 k3 w.heap.size W4 h3 (by decide) (block_cell ((HB13.out.block _ (lt_of_block HBOX.out)).trans HBOX.out) 3).1).mono ?_
  rintro e W5 ⟨rfl, hb⟩
  have HB14 := Lib.hid (HB13.out.trans (hb.mono HB13.out.size))
  clear hb
  go_wp2_with fail
  refine (words29_any v hv _ _ _ _ W5).mono ?_
  rintro e W6 ⟨lv, rfl, hown, hb⟩
  have hok := words_okV (v % 13) (k0 % 3) (k1 % 3) (k2 % 3) (k3 % 3) (Nat.mod_lt _ (by decide)) (Nat.mod_lt _ (by decide)) (Nat.mod_lt _ (by decide)) (Nat.mod_lt _ (by decide)) (Nat.mod_lt _ (by decide))
  have hm : v % 13 < 13 := Nat.mod_lt _ (by decide)
  generalize v % 13 = m at *
  have hsh := wordsV_short m (onesN (1 + k0 % 3)) (onesN (1 + k1 % 3)) (onesN (1 + k2 % 3)) (onesN (1 + k3 % 3)) (by simp [onesN]; omega) (by simp [onesN]; omega) (by simp [onesN]; omega) (by simp [onesN]; omega)
  have hl6 := (wordsV_len m (onesN (1 + k0 % 3)) (onesN (1 + k1 % 3)) (onesN (1 + k2 % 3)) (onesN (1 + k3 % 3))).2
  have hR0 : m = 0 → ((wordsV m (onesN (1 + k0 % 3)) (onesN (1 + k1 % 3)) (onesN (1 + k2 % 3)) (onesN (1 + k3 % 3))).drop 1).length = 1 := fun h => by subst h; rfl
  have hR1 : m = 1 → ((wordsV m (onesN (1 + k0 % 3)) (onesN (1 + k1 % 3)) (onesN (1 + k2 % 3)) (onesN (1 + k3 % 3))).drop 1).length = 2 := fun h => by subst h; rfl
  rw [wordsV_head m hm] at hown hok hsh hl6
  have hnmA := names_ascii m hm
  have hnmL := names_size m hm
  generalize (wordsV m (onesN (1 + k0 % 3)) (onesN (1 + k1 % 3)) (onesN (1 + k2 % 3)) (onesN (1 + k3 % 3))).drop 1 = R at *
  generalize hnm : names.getD m [] = nm at *
  obtain ⟨c, q, mt, lt, qt, hsay⟩ := words_say hok
  obtain ⟨g, og, cg, rfl, _, _, hle, hmx, hcell⟩ := Own.some hown (by simp)
  rw [List.length_map, List.length_cons] at hle ⊢
  rw [List.length_map, List.length_cons] at hown
  rw [List.length_cons] at hl6
  have hc0 : W6.cell? ⟨g, og, none⟩ = some (sv nm) := (hcell 0 _ rfl).1
  have hi0 : ∀ W : World, (Instr.indexAt 24 (.slice (some ⟨g, og, none⟩) (R.length + 1) cg) (.int .i64 0)).run Tryz.prog W = .ok (.pointer (some ⟨g, og, none⟩)) W := fun W => idx_str' (k := 0) rfl (by omega) W
  have HSAY := Lib.hid hsay
  have HRL := Lib.hid (And.intro hR0 hR1)
  have HOWN := Lib.hid hown
  have HNM := Lib.hid hnm
  have HNA := Lib.hid hnmA
  have HSH := Lib.hid hsh
  have HB16 := Lib.hid (HB14.out.trans (hb.mono HB14.out.size))
  clear hR0 hR1 hok hsay hown hnm hnmA hsh hb hcell HBOX HB11 HB12 HB13 HB14
  go_wp2_with fail
  refine (join_any HOWN.out (fun x hx => Nat.le_succ_of_le (HSH.out x hx)) (by simp; omega)).mono ?_
  rintro e x0 ⟨rfl, hb⟩
  have HJ0 := Lib.hid (HB16.out.trans (hb.mono HB16.out.size))
  have HJC0 := Lib.hid hb
  have hpar := lparse_at (Lib.join (nm :: R) [32]) x0 (by have := short_join (L := nm :: R) (fun x hx => Nat.le_succ_of_le (HSH.out x hx)) (by simp; omega); omega) (HL.out.below HJ0.out) (HE.out.below HJ0.out)
  have HPAR := Lib.hid hpar
  clear hb hpar
  go_wp2_with fail
  refine HPAR.out.mono ?_
  rintro e v0 ⟨ks0, rfl, hok, hb⟩
  obtain ⟨d0, hR⟩ : ∃ d, parseL (Lib.join (nm :: R) [32]) = (d, 0) := ⟨c, HSAY.out.isC⟩
  have hRd := hR
  rw [hR] at hok ⊢
  simp only at hok ⊢
  obtain ⟨oa0, oc0, hks⟩ := hok.len
  rw [List.length_map] at hks
  subst hks
  have hz : (v0.alloc (.cells zeroA 30)).heap[v0.heap.size]? = some (.cells zeroA 30 (0, 0)) := heap_alloc_new _ _
  have HOK := Lib.hid hok
  have HBV := Lib.hid hb
  clear hok hb hR HPAR
  go_upto_region 5 with ((with_reducible show wpList _ _ _ (⟨none, Op.store _ _ _, _, _, _, _⟩ :: _) _ _); refine wpList_store_whole (by rfl) 30 (.tmp 10) (.tmp 43) (by rfl) v0.heap.size (by rfl) (cmdCells (.slice oa0 (d0).keys.length oc0) (d0)).toArray (by rfl) _ 30 hz (by rfl) (by kernel_rfl) (by simp [Value.oneCell']) ?_; intro u0 hr hg hs)
  have hg' := grown_new hg
  have hbu := below_to HBV.out hg'
  have HC0 := Lib.hid (HJC0.out.trans (hbu.mono HJC0.out.size))
  have HU0 := Lib.hid (HJ0.out.trans (hbu.mono HJ0.out.size))
  have HR0 := Lib.hid hr
  have HD0 := Lib.hid ((Prod.mk.inj (hRd.symm.trans HSAY.out.isC)).1)
  clear hr hg hs hz hg' hbu HOK HBV hRd
  obtain rfl : d0 = c := HD0.out
  have hq0 : u0.cell? ⟨v0.heap.size, 10, none⟩ = some (.bool false) := by rw [(block_cell HR0.out 10).1, ← HSAY.out.quiet]; rfl
  go_upto_region 7 with fail
  obtain ⟨i, hi⟩ : ∃ i, i = l % nm.length := ⟨_, rfl⟩
  have hin : i < nm.length := by rw [hi]; exact Nat.mod_lt _ (by omega)
  have hrem : ((l : Int)).tmod (nm.length : Int) = (i : Int) := by rw [Int.tmod_eq_emod_of_nonneg (by omega), hi]; omega
  have hne0 : ¬ ((nm.length : Int) = 0) := by omega
  have h64 : IntKind.i64.wrap (l : Int) = (l : Int) := IntWalk.i64_in _ (by omega)
  have h65 : IntKind.i64.wrap (i : Int) = (i : Int) := IntWalk.i64_in _ (by omega)
  have hch : ∀ W : World, (Instr.index 9 (sv nm) (.int .i64 (i : Int))).run Tryz.prog W = .ok (.int .u8 ((nm.getD i 0).toNat : Int)) W := fun W => index_sv (c := nm.getD i 0) (by rw [List.getD_eq_getElem?_getD, List.getElem?_eq_getElem hin]; rfl) W
  have hodd := HSAY.out.odd i hin
  have h95 : nm.getD i 0 = 95 ↔ (nm.getD i 0).toNat = 95 := ⟨fun h => by rw [h]; rfl, fun h => UInt8.toNat_inj.1 h⟩
  generalize (nm.getD i 0).toNat = ch at *
  rw [h95] at hodd
  have HODD := Lib.hid hodd
  obtain ⟨o1, hsl, ho1⟩ := strs_from g og (R.length + 1) cg 1 (by omega) hle hmx
  have hsl' : ∀ W : World, (Instr.slice 24 (.slice (some ⟨g, og, none⟩) (R.length + 1) cg) (some (.int .i64 1)) none none).run Tryz.prog W = .ok (.slice (some ⟨g, o1, none⟩) R.length (cg - 1)) W := hsl
  have HO1 := Lib.hid ho1
  clear hi hq0 hc0 hi0 h95 hodd hsl ho1
  go_upto_if 59 with fail
  go_cut [] (fun wx => ∃ W7, W7 = wx ∧ Below u0.heap.size u0 W7)
  case first =>
    by_cases hc95 : ch = 95
    · have e1 : ((ch : Int) != 95) = false := by rw [hc95]; rfl
      have e2 : (ch != 95) = false := by rw [hc95]; rfl
      clear hc95
      go_wp2_with fail
      go_meet
      case rel => exact ⟨_, rfl, Below.refl _ _⟩
    · have e1 : ((ch : Int) != 95) = true := by rw [bne_iff_ne]; omega
      have e2 : (ch != 95) = true := by rw [bne_iff_ne]; exact hc95
      have hod := HODD.out.resolve_left hc95
      have hup := fun W => toUpper_at ((nm.drop i).take 1) W (by simp; omega) (fun b hb => HNA.out b (List.mem_of_mem_drop (List.mem_of_mem_take hb)))
      have hs1 := slice_to nm i (by omega)
      have hs2 := slice_mid nm i (by omega)
      have hs3 : ∀ W : World, (Instr.slice 9 (sv nm) (some (.int .i64 ((i : Int) + 1))) none none).run Tryz.prog W = .ok (sv (nm.drop (i + 1))) W := fun W => by
        have h := slice_from nm ((i : Int) + 1) (by omega) (by omega) W
        rwa [show ((i : Int) + 1).toNat = i + 1 from by omega] at h
      have hw1 : IntKind.i64.wrap ((i : Int) + 1) = (i : Int) + 1 := IntWalk.i64_in _ (by omega)
      have hul : (Lib.toUpperA ((nm.drop i).take 1)).length ≤ 1 := by simp [Lib.toUpperA]; omega
      have hodd' : oddAt nm i = nm.take i ++ Lib.toUpperA ((nm.drop i).take 1) ++ nm.drop (i + 1) := rfl
      have hol : (oddAt nm i).length ≤ 10 := by rw [hodd']; simp only [List.length_append, List.length_take, List.length_drop]; omega
      have hn1 : ¬ 9223372036854775807 < (nm.take i).length + (Lib.toUpperA ((nm.drop i).take 1)).length := by simp only [List.length_take]; omega
      have hn2 : ¬ 9223372036854775807 < (nm.take i).length + (Lib.toUpperA ((nm.drop i).take 1)).length + (nm.drop (i + 1)).length := by simp only [List.length_take, List.length_drop]; omega
      have hcat : Value.string ((⟨(nm.take i).toArray⟩ : ByteArray) ++ ⟨(Lib.toUpperA ((nm.drop i).take 1)).toArray⟩ ++ ⟨(nm.drop (i + 1)).toArray⟩) = sv (oddAt nm i) := by rw [hodd']; exact cat3s _ _ _
      have HCAT := Lib.hid hcat
      have hu0R : Strs u0 W5.heap.size (.slice (some ⟨g, og, none⟩) (R.length + 1) cg) (nm :: R) := strs_below HOWN.out HC0.out
      have HU := Lib.hid hup
      have HOD := Lib.hid hod
      have HU0R := Lib.hid hu0R
      clear hup hod hu0R hc95 hul hodd' hcat
      generalize oddAt nm i = odd at *
      generalize nm.take i = P1 at *
      generalize nm.drop (i + 1) = P3 at *
      generalize Lib.toUpperA ((nm.drop i).take 1) = P4 at *
      generalize (nm.drop i).take 1 = P5 at *
      go_wp2_with fail
      go_region_with (first | (go_at_call 17; refine (HU.out _).mono ?_; rintro e w9 ⟨rfl, hb9⟩) | fail)
      have hb9' : Below u0.heap.size u0 w9 := ⟨hb9.os, hb9.tape, hb9.output, hb9.size, hb9.block⟩
      have hx9 : Strs w9 W5.heap.size (.slice (some ⟨g, og, none⟩) (R.length + 1) cg) (nm :: R) := strs_below HU0R.out hb9'
      have hb19 := HU0.out.trans (hb9'.mono HU0.out.size)

      have hrow : (w9.alloc (.cells #[Value.string ((⟨P1.toArray⟩ : ByteArray) ++ ⟨P4.toArray⟩ ++ ⟨P3.toArray⟩)] 9)).ownsRow w9.heap.size 9 1 (.slice (some ⟨w9.heap.size, 0, none⟩) 1 1) 1 [Value.string ((⟨P1.toArray⟩ : ByteArray) ++ ⟨P4.toArray⟩ ++ ⟨P3.toArray⟩)] := ⟨rfl, .inr ⟨w9.heap.size, 1, _, rfl, Nat.le_refl _, heap_alloc_new _ _, Nat.le_refl _, by simp [maxLen], rfl, rfl⟩⟩
      have hnews : ∀ (j : Nat) (u : Value), (R.map sv)[j]? = some u → (w9.alloc (.cells #[Value.string ((⟨P1.toArray⟩ : ByteArray) ++ ⟨P4.toArray⟩ ++ ⟨P3.toArray⟩)] 9)).cell? ((⟨g, o1, none⟩ : Addr).add j) = some u := fun j u hu => by
        have h := strs_tail hx9 (fun h => HO1.out (by omega)) j u hu
        rw [Addr.add_mid] at h ⊢
        exact (((Below.refl w9.heap.size w9).alloc (Nat.le_refl _) _).cell (p := ⟨g, o1 + j, none⟩) (cell_lt h)).trans h
      have HROW := Lib.hid hrow
      have HNEWS := Lib.hid hnews
      have HBC := Lib.hid hb19
      clear hrow hnews hb9
      go_wp2_with (first | (at_builtin; refine wpList_append_own _ (by rfl) _ _ 24 (by rfl) w9.heap.size 9 i0 _ 1 16 Tryz.underlying24 Hi.out Hz.out.1 Hz.out.2.1 Hz.out.2.2 rfl (by omega) _ _ _ (by rfl) HROW.out ⟨g, o1, none⟩ R.length (cg - 1) (R.map sv) (by rfl) (by simp) HNEWS.out (one_svs _) (by unfold maxLen; omega) (by omega) (by simp) ?_; intro a9 z9 hrow9 hg9 _) | fail)
      have hbz := (World.grownBy.refl w9 none)
      have hgz := grown_new hg9
      have hcz : Below w9.heap.size w9 z9 := ⟨hgz.os, hgz.tape, hgz.output, hgz.size, fun k hk => hgz.block k hk (by simp)⟩
      have HBZ := Lib.hid (HBC.out.trans (hcz.mono HBC.out.size))
      have HCZ := Lib.hid hcz
      have HZ := Lib.hid (Own.of_row (e := 9) (xs := (odd :: R).map sv) (by have h9 := hrow9; rw [HCAT.out] at h9; simpa [Nat.add_comm] using h9))
      clear hbz hgz hcz hrow9 hg9 HROW HNEWS
      have HCUT := Lib.hid (hb9'.trans (HCZ.out.mono hb9'.size))
      clear hb9'
      refine (join_any HZ.out (fun x hx => by rcases List.mem_cons.1 hx with rfl | hx; exact hol; exact Nat.le_succ_of_le (HSH.out x (List.mem_cons_of_mem _ hx))) (by simp; omega)).mono ?_
      rintro e x1 ⟨rfl, hb⟩
      have HJ1 := Lib.hid (HBZ.out.trans (hb.mono HBZ.out.size))
      have HJC1 := Lib.hid hb
      have hpar := lparse_at (Lib.join (odd :: R) [32]) x1 (by have := short_join (L := odd :: R) (fun x hx => by rcases List.mem_cons.1 hx with rfl | hx; exact hol; exact Nat.le_succ_of_le (HSH.out x (List.mem_cons_of_mem _ hx))) (by simp; omega); omega) (HL.out.below HJ1.out) (HE.out.below HJ1.out)
      have HPAR := Lib.hid hpar
      clear hb hpar
      go_wp2_with fail
      refine HPAR.out.mono ?_
      rintro e v1 ⟨ks1, rfl, hok, hb⟩
      obtain ⟨d1, hR⟩ : ∃ d, parseL (Lib.join (odd :: R) [32]) = (d, 1) := ⟨_, Prod.ext rfl HOD.out⟩
      have hRd := hR
      rw [hR] at hok ⊢
      simp only at hok ⊢
      obtain ⟨oa1, oc1, hks⟩ := hok.len
      rw [List.length_map] at hks
      subst hks
      have hz : (v1.alloc (.cells zeroA 30)).heap[v1.heap.size]? = some (.cells zeroA 30 (0, 0)) := heap_alloc_new _ _
      have HOK := Lib.hid hok
      have HBV := Lib.hid hb
      clear hok hb hR HPAR
      go_upto_region 11 with ((with_reducible show wpList _ _ _ (⟨none, Op.store _ _ _, _, _, _, _⟩ :: _) _ _); refine wpList_store_whole (by rfl) 30 (.tmp 14) (.tmp 83) (by rfl) v1.heap.size (by rfl) (cmdCells (.slice oa1 (d1).keys.length oc1) (d1)).toArray (by rfl) _ 30 hz (by rfl) (by kernel_rfl) (by simp [Value.oneCell']) ?_; intro u1 hr hg hs)
      have hg' := grown_new hg
      have hbu := below_to HBV.out hg'
      have HC1 := Lib.hid (HJC1.out.trans (hbu.mono HJC1.out.size))
      have HU1 := Lib.hid (HJ1.out.trans (hbu.mono HJ1.out.size))
      have HR1 := Lib.hid hr
      have HD1 := Lib.hid (trivial)
      clear hr hg hs hz hg' hbu HOK HBV hRd
      go_wp2_with fail
      go_meet
      case rel => exact ⟨_, rfl, HCUT.out.trans (HC1.out.mono HCUT.out.size)⟩
  case rest =>
    obtain ⟨W7, rfl, hb07⟩ := hcut
    have hx7 : Strs W7 W5.heap.size (.slice (some ⟨g, og, none⟩) (R.length + 1) cg) (nm :: R) := strs_below (strs_below HOWN.out HC0.out) hb07
    have hb17 := HU0.out.trans (hb07.mono HU0.out.size)
    have hcatx : Value.string ((⟨nm.toArray⟩ : ByteArray) ++ ⟨#[120]⟩) = sv (nm ++ [120]) := sv_of (by rw [bs_append])
    have HCATX := Lib.hid hcatx
    have HX7 := Lib.hid hx7
    have HB07 := Lib.hid hb07
    clear hcatx hb07 hch hrem hne0 h64 h65 HODD
    have hrow : (W7.alloc (.cells #[Value.string ((⟨nm.toArray⟩ : ByteArray) ++ ⟨#[120]⟩)] 9)).ownsRow W7.heap.size 9 1 (.slice (some ⟨W7.heap.size, 0, none⟩) 1 1) 1 [Value.string ((⟨nm.toArray⟩ : ByteArray) ++ ⟨#[120]⟩)] := ⟨rfl, .inr ⟨W7.heap.size, 1, _, rfl, Nat.le_refl _, heap_alloc_new _ _, Nat.le_refl _, by simp [maxLen], rfl, rfl⟩⟩
    have hnews : ∀ (j : Nat) (u : Value), (R.map sv)[j]? = some u → (W7.alloc (.cells #[Value.string ((⟨nm.toArray⟩ : ByteArray) ++ ⟨#[120]⟩)] 9)).cell? ((⟨g, o1, none⟩ : Addr).add j) = some u := fun j u hu => by
      have h := strs_tail hx7 (fun h => HO1.out (by omega)) j u hu
      rw [Addr.add_mid] at h ⊢
      exact (((Below.refl W7.heap.size W7).alloc (Nat.le_refl _) _).cell (p := ⟨g, o1 + j, none⟩) (cell_lt h)).trans h
    have HROW := Lib.hid hrow
    have HNEWS := Lib.hid hnews
    have HBC := Lib.hid hb17
    clear hrow hnews hx7 hb17
    go_wp2_with (first | (at_builtin; refine wpList_append_own _ (by rfl) _ _ 24 (by rfl) W7.heap.size 9 i0 _ 1 16 Tryz.underlying24 Hi.out Hz.out.1 Hz.out.2.1 Hz.out.2.2 rfl (by omega) _ _ _ (by rfl) HROW.out ⟨g, o1, none⟩ R.length (cg - 1) (R.map sv) (by rfl) (by simp) HNEWS.out (one_svs _) (by unfold maxLen; omega) (by omega) (by simp) ?_; intro a9 z9 hrow9 hg9 _) | fail)
    have hbz := (World.grownBy.refl W7 none)
    have hgz := grown_new hg9
    have hcz : Below W7.heap.size W7 z9 := ⟨hgz.os, hgz.tape, hgz.output, hgz.size, fun k hk => hgz.block k hk (by simp)⟩
    have HBZ := Lib.hid (HBC.out.trans (hcz.mono HBC.out.size))
    have HCZ := Lib.hid hcz
    have HZ := Lib.hid (Own.of_row (e := 9) (xs := ((nm ++ [120]) :: R).map sv) (by have h9 := hrow9; rw [HCATX.out] at h9; simpa [Nat.add_comm] using h9))
    clear hbz hgz hcz hrow9 hg9 HROW HNEWS
    refine (join_any HZ.out (fun x hx => by rcases List.mem_cons.1 hx with rfl | hx; exact (by simp; omega); exact Nat.le_succ_of_le (HSH.out x (List.mem_cons_of_mem _ hx))) (by simp; omega)).mono ?_
    rintro e x2 ⟨rfl, hb⟩
    have HJ2 := Lib.hid (HBZ.out.trans (hb.mono HBZ.out.size))
    have HJC2 := Lib.hid hb
    have hpar := lparse_at (Lib.join ((nm ++ [120]) :: R) [32]) x2 (by have := short_join (L := (nm ++ [120]) :: R) (fun x hx => by rcases List.mem_cons.1 hx with rfl | hx; exact (by simp; omega); exact Nat.le_succ_of_le (HSH.out x (List.mem_cons_of_mem _ hx))) (by simp; omega); omega) (HL.out.below HJ2.out) (HE.out.below HJ2.out)
    have HPAR := Lib.hid hpar
    clear hb hpar
    go_wp2_with fail
    refine HPAR.out.mono ?_
    rintro e v2 ⟨ks2, rfl, hok, hb⟩
    obtain ⟨d2, hR⟩ : ∃ d, parseL (Lib.join ((nm ++ [120]) :: R) [32]) = (d, 1) := ⟨_, Prod.ext rfl HSAY.out.x⟩
    have hRd := hR
    rw [hR] at hok ⊢
    simp only at hok ⊢
    obtain ⟨oa2, oc2, hks⟩ := hok.len
    rw [List.length_map] at hks
    subst hks
    have hz : (v2.alloc (.cells zeroA 30)).heap[v2.heap.size]? = some (.cells zeroA 30 (0, 0)) := heap_alloc_new _ _
    have HOK := Lib.hid hok
    have HBV := Lib.hid hb
    clear hok hb hR HPAR
    go_upto_region 14 with ((with_reducible show wpList _ _ _ (⟨none, Op.store _ _ _, _, _, _, _⟩ :: _) _ _); refine wpList_store_whole (by rfl) 30 (.tmp 16) (.tmp 96) (by rfl) v2.heap.size (by rfl) (cmdCells (.slice oa2 (d2).keys.length oc2) (d2)).toArray (by rfl) _ 30 hz (by rfl) (by kernel_rfl) (by simp [Value.oneCell']) ?_; intro u2 hr hg hs)
    have hg' := grown_new hg
    have hbu := below_to HBV.out hg'
    have HC2 := Lib.hid (HJC2.out.trans (hbu.mono HJC2.out.size))
    have HU2 := Lib.hid (HJ2.out.trans (hbu.mono HJ2.out.size))
    have HR2 := Lib.hid hr
    have HD2 := Lib.hid (trivial)
    clear hr hg hs hz hg' hbu HOK HBV hRd
    have HT2 := Lib.hid (HB07.out.trans ((HCZ.out.trans (HC2.out.mono HCZ.out.size)).mono HB07.out.size))
    clear HZ HBZ HCZ HBC
    go_upto_region 16 with fail
    have hnil : u2.ownsRow u2.heap.size 9 1 (.slice none 0 0) 0 [] := ⟨rfl, .inl ⟨rfl, rfl⟩⟩
    have hxs : Strs u2 W5.heap.size (.slice (some ⟨g, og, none⟩) (R.length + 1) cg) (nm :: R) := strs_below (strs_below HOWN.out HC0.out) HT2.out
    have hnews : ∀ (j : Nat) (u : Value), ((nm :: R).map sv)[j]? = some u → u2.cell? ((⟨g, og, none⟩ : Addr).add j) = some u := fun j u hu => own_cells9 hxs j u hu
    have HNIL := Lib.hid hnil
    have HNEWS := Lib.hid hnews
    clear hnil hnews hxs
    have tok1 : True := trivial
    have tok2 : True := trivial
    go_wp2_with (first
      | (clear tok1; at_builtin; refine wpList_append_own _ (by rfl) _ _ 24 (by rfl) u2.heap.size 9 i0 _ 1 16 Tryz.underlying24 Hi.out Hz.out.1 Hz.out.2.1 Hz.out.2.2 rfl (by omega) _ _ _ (by rfl) HNIL.out ⟨g, og, none⟩ (R.length + 1) cg ((nm :: R).map sv) (by rfl) (by simp) HNEWS.out (one_svs _) (by unfold maxLen; omega) (by omega) (by simp) ?_; intro a8 z8 hrow8 hg8 _; have HROW8 := Lib.hid hrow8; have hsz8 := hg8.size)
      | (clear tok2; at_builtin; refine wpList_append_own _ (by rfl) _ _ 24 (by rfl) u2.heap.size 9 i0 _ 1 16 Tryz.underlying24 Hi.out Hz.out.1 Hz.out.2.1 Hz.out.2.2 rfl (by omega) _ _ _ (by rfl) (HROW8.out.alloc _) ⟨z8.heap.size, 0, none⟩ 1 1 [sv moreW] (by rfl) (by rfl) (cell_one_new _ _ _) (by simp [Value.oneCell']) (by unfold maxLen; omega) (by omega) (by simp; omega) ?_; intro a9 z9 hrow9 hg9 _)
      | fail)
    have hg8' : u2.grownBy z8 none := hg8
    have hcz8 : Below u2.heap.size u2 z8 := ⟨hg8'.os, hg8'.tape, hg8'.output, hg8'.size, fun k hk => hg8'.block k hk (by simp)⟩
    have hcz : Below u2.heap.size u2 z9 := below_append hcz8 (Nat.le_refl _) hrow8 hg9
    have HBZ := Lib.hid (HU2.out.trans (hcz.mono HU2.out.size))
    have HCZ := Lib.hid hcz
    have HZ := Lib.hid (Own.of_row (e := 9) (xs := (nm :: R ++ [moreW]).map sv) (by have h9 := hrow9; simpa [Nat.add_comm, Nat.add_assoc] using h9))
    clear hg8' hcz8 hcz hrow8 HROW8 hg8 hrow9 hg9 HNIL HNEWS hsz8
    refine (join_any HZ.out (fun x hx => by rcases List.mem_append.1 hx with hx | hx; exact Nat.le_succ_of_le (HSH.out x hx); rw [List.mem_singleton.1 hx]; decide) (by simp; omega)).mono ?_
    rintro e x3 ⟨rfl, hb⟩
    have HJ3 := Lib.hid (HBZ.out.trans (hb.mono HBZ.out.size))
    have HJC3 := Lib.hid hb
    have hpar := lparse_at (Lib.join (nm :: R ++ [moreW]) [32]) x3 (by have := short_join (L := nm :: R ++ [moreW]) (fun x hx => by rcases List.mem_append.1 hx with hx | hx; exact Nat.le_succ_of_le (HSH.out x hx); rw [List.mem_singleton.1 hx]; decide) (by simp; omega); omega) (HL.out.below HJ3.out) (HE.out.below HJ3.out)
    have HPAR := Lib.hid hpar
    clear hb hpar
    go_wp2_with fail
    refine HPAR.out.mono ?_
    rintro e v3 ⟨ks3, rfl, hok, hb⟩
    obtain ⟨d3, hR⟩ : ∃ d, parseL (Lib.join (nm :: R ++ [moreW]) [32]) = (d, mt) := ⟨_, Prod.ext rfl HSAY.out.more⟩
    have hRd := hR
    rw [hR] at hok ⊢
    simp only at hok ⊢
    obtain ⟨oa3, oc3, hks⟩ := hok.len
    rw [List.length_map] at hks
    subst hks
    have hz : (v3.alloc (.cells zeroA 30)).heap[v3.heap.size]? = some (.cells zeroA 30 (0, 0)) := heap_alloc_new _ _
    have HOK := Lib.hid hok
    have HBV := Lib.hid hb
    clear hok hb hR HPAR
    go_upto_region 17 with ((with_reducible show wpList _ _ _ (⟨none, Op.store _ _ _, _, _, _, _⟩ :: _) _ _); refine wpList_store_whole (by rfl) 30 (.tmp 18) (.tmp 107) (by rfl) v3.heap.size (by rfl) (cmdCells (.slice oa3 (d3).keys.length oc3) (d3)).toArray (by rfl) _ 30 hz (by rfl) (by kernel_rfl) (by simp [Value.oneCell']) ?_; intro u3 hr hg hs)
    have hg' := grown_new hg
    have hbu := below_to HBV.out hg'
    have HC3 := Lib.hid (HJC3.out.trans (hbu.mono HJC3.out.size))
    have HU3 := Lib.hid (HJ3.out.trans (hbu.mono HJ3.out.size))
    have HR3 := Lib.hid hr
    have HD3 := Lib.hid (trivial)
    clear hr hg hs hz hg' hbu HOK HBV hRd
    have HT3 := Lib.hid (HT2.out.trans ((HCZ.out.trans (HC3.out.mono HCZ.out.size)).mono HT2.out.size))
    clear HZ HBZ HCZ
    have hto : ∀ W : World, (Instr.slice 24 (.slice (some ⟨g, og, none⟩) (R.length + 1) cg) none (some (.int .i64 (R.length : Int))) none).run Tryz.prog W = .ok (.slice (some ⟨g, og, none⟩) R.length cg) W := fun W => strs_to g og (R.length + 1) cg R.length (by omega) hle W
    have hini : Strs u3 W5.heap.size (.slice (some ⟨g, og, none⟩) R.length cg) (nm :: R).dropLast := strs_init (strs_below (strs_below HOWN.out HC0.out) HT3.out)
    have HINI := Lib.hid hini
    clear hini
    go_wp2_with fail
    refine (join_any HINI.out (fun x hx => Nat.le_succ_of_le (HSH.out x (List.dropLast_subset _ hx))) (by simp; omega)).mono ?_
    rintro e x4 ⟨rfl, hb⟩
    have HJ4 := Lib.hid (HU3.out.trans (hb.mono HU3.out.size))
    have HJC4 := Lib.hid hb
    have hpar := lparse_at (Lib.join ((nm :: R).dropLast) [32]) x4 (by have := short_join (L := (nm :: R).dropLast) (fun x hx => Nat.le_succ_of_le (HSH.out x (List.dropLast_subset _ hx))) (by simp; omega); omega) (HL.out.below HJ4.out) (HE.out.below HJ4.out)
    have HPAR := Lib.hid hpar
    clear hb hpar
    go_wp2_with fail
    refine HPAR.out.mono ?_
    rintro e v4 ⟨ks4, rfl, hok, hb⟩
    obtain ⟨d4, hR⟩ : ∃ d, parseL (Lib.join ((nm :: R).dropLast) [32]) = (d, lt) := ⟨_, Prod.ext rfl HSAY.out.less⟩
    have hRd := hR
    rw [hR] at hok ⊢
    simp only at hok ⊢
    obtain ⟨oa4, oc4, hks⟩ := hok.len
    rw [List.length_map] at hks
    subst hks
    have hz : (v4.alloc (.cells zeroA 30)).heap[v4.heap.size]? = some (.cells zeroA 30 (0, 0)) := heap_alloc_new _ _
    have HOK := Lib.hid hok
    have HBV := Lib.hid hb
    clear hok hb hR HPAR
    go_upto_region 18 with ((with_reducible show wpList _ _ _ (⟨none, Op.store _ _ _, _, _, _, _⟩ :: _) _ _); refine wpList_store_whole (by rfl) 30 (.tmp 20) (.tmp 117) (by rfl) v4.heap.size (by rfl) (cmdCells (.slice oa4 (d4).keys.length oc4) (d4)).toArray (by rfl) _ 30 hz (by rfl) (by kernel_rfl) (by simp [Value.oneCell']) ?_; intro u4 hr hg hs)
    have hg' := grown_new hg
    have hbu := below_to HBV.out hg'
    have HC4 := Lib.hid (HJC4.out.trans (hbu.mono HJC4.out.size))
    have HU4 := Lib.hid (HJ4.out.trans (hbu.mono HJ4.out.size))
    have HR4 := Lib.hid hr
    have HD4 := Lib.hid (trivial)
    clear hr hg hs hz hg' hbu HOK HBV hRd
    have HT4 := Lib.hid (HT3.out.trans (HC4.out.mono HT3.out.size))
    clear HINI hto
    have hnil : u4.ownsRow u4.heap.size 9 1 (.slice none 0 0) 0 [] := ⟨rfl, .inl ⟨rfl, rfl⟩⟩
    have hxs : Strs u4 W5.heap.size (.slice (some ⟨g, og, none⟩) (R.length + 1) cg) (nm :: R) := strs_below (strs_below HOWN.out HC0.out) HT4.out
    have hnews : ∀ (j : Nat) (u : Value), ((nm :: R).map sv)[j]? = some u → u4.cell? ((⟨g, og, none⟩ : Addr).add j) = some u := fun j u hu => own_cells9 hxs j u hu
    have HNIL := Lib.hid hnil
    have HNEWS := Lib.hid hnews
    clear hnil hnews hxs
    have tok1 : True := trivial
    have tok2 : True := trivial
    go_wp2_with (first
      | (clear tok1; at_builtin; refine wpList_append_own _ (by rfl) _ _ 24 (by rfl) u4.heap.size 9 i0 _ 1 16 Tryz.underlying24 Hi.out Hz.out.1 Hz.out.2.1 Hz.out.2.2 rfl (by omega) _ _ _ (by rfl) HNIL.out ⟨g, og, none⟩ (R.length + 1) cg ((nm :: R).map sv) (by rfl) (by simp) HNEWS.out (one_svs _) (by unfold maxLen; omega) (by omega) (by simp) ?_; intro a8 z8 hrow8 hg8 _; have HROW8 := Lib.hid hrow8; have hsz8 := hg8.size)
      | (clear tok2; at_builtin; refine wpList_append_own _ (by rfl) _ _ 24 (by rfl) u4.heap.size 9 i0 _ 1 16 Tryz.underlying24 Hi.out Hz.out.1 Hz.out.2.1 Hz.out.2.2 rfl (by omega) _ _ _ (by rfl) (HROW8.out.alloc _) ⟨z8.heap.size, 0, none⟩ 1 1 [sv noreply] (by rfl) (by rfl) (cell_one_new _ _ _) (by simp [Value.oneCell']) (by unfold maxLen; omega) (by omega) (by simp; omega) ?_; intro a9 z9 hrow9 hg9 _)
      | fail)
    have hg8' : u4.grownBy z8 none := hg8
    have hcz8 : Below u4.heap.size u4 z8 := ⟨hg8'.os, hg8'.tape, hg8'.output, hg8'.size, fun k hk => hg8'.block k hk (by simp)⟩
    have hcz : Below u4.heap.size u4 z9 := below_append hcz8 (Nat.le_refl _) hrow8 hg9
    have HBZ := Lib.hid (HU4.out.trans (hcz.mono HU4.out.size))
    have HCZ := Lib.hid hcz
    have HZ := Lib.hid (Own.of_row (e := 9) (xs := (nm :: R ++ [noreply]).map sv) (by have h9 := hrow9; simpa [Nat.add_comm, Nat.add_assoc] using h9))
    clear hg8' hcz8 hcz hrow8 HROW8 hg8 hrow9 hg9 HNIL HNEWS hsz8
    refine (join_any HZ.out (fun x hx => by rcases List.mem_append.1 hx with hx | hx; exact Nat.le_succ_of_le (HSH.out x hx); rw [List.mem_singleton.1 hx]; decide) (by simp; omega)).mono ?_
    rintro e x5 ⟨rfl, hb⟩
    have HJ5 := Lib.hid (HBZ.out.trans (hb.mono HBZ.out.size))
    have HJC5 := Lib.hid hb
    have hpar := lparse_at (Lib.join (nm :: R ++ [noreply]) [32]) x5 (by have := short_join (L := nm :: R ++ [noreply]) (fun x hx => by rcases List.mem_append.1 hx with hx | hx; exact Nat.le_succ_of_le (HSH.out x hx); rw [List.mem_singleton.1 hx]; decide) (by simp; omega); omega) (HL.out.below HJ5.out) (HE.out.below HJ5.out)
    have HPAR := Lib.hid hpar
    clear hb hpar
    go_wp2_with fail
    refine HPAR.out.mono ?_
    rintro e v5 ⟨ks5, rfl, hok, hb⟩
    obtain ⟨d5, hR⟩ : ∃ d, parseL (Lib.join (nm :: R ++ [noreply]) [32]) = (d, qt) := ⟨q, HSAY.out.isQ⟩
    have hRd := hR
    rw [hR] at hok ⊢
    simp only at hok ⊢
    obtain ⟨oa5, oc5, hks⟩ := hok.len
    rw [List.length_map] at hks
    subst hks
    have hz : (v5.alloc (.cells zeroA 30)).heap[v5.heap.size]? = some (.cells zeroA 30 (0, 0)) := heap_alloc_new _ _
    have HOK := Lib.hid hok
    have HBV := Lib.hid hb
    clear hok hb hR HPAR
    go_upto_region 19 with ((with_reducible show wpList _ _ _ (⟨none, Op.store _ _ _, _, _, _, _⟩ :: _) _ _); refine wpList_store_whole (by rfl) 30 (.tmp 22) (.tmp 126) (by rfl) v5.heap.size (by rfl) (cmdCells (.slice oa5 (d5).keys.length oc5) (d5)).toArray (by rfl) _ 30 hz (by rfl) (by kernel_rfl) (by simp [Value.oneCell']) ?_; intro u5 hr hg hs)
    have hg' := grown_new hg
    have hbu := below_to HBV.out hg'
    have HC5 := Lib.hid (HJC5.out.trans (hbu.mono HJC5.out.size))
    have HU5 := Lib.hid (HJ5.out.trans (hbu.mono HJ5.out.size))
    have HR5 := Lib.hid hr
    have HD5 := Lib.hid ((Prod.mk.inj (hRd.symm.trans HSAY.out.isQ)).1)
    clear hr hg hs hz hg' hbu HOK HBV hRd
    obtain rfl : d5 = q := HD5.out
    have HT5 := Lib.hid (HT4.out.trans ((HCZ.out.trans (HC5.out.mono HCZ.out.size)).mono HT4.out.size))
    have hxc := (HT5.out.block _ (lt_of_block HR0.out)).trans HR0.out
    have hxq := HR5.out
    have hrl := HRL.out
    have hnm := HNM.out
    have e0 := HSAY.out.end0
    have e1 := HSAY.out.end1
    have e2 := HSAY.out.end2
    have e3 := HSAY.out.end3
    have hlv := lives29 u5 (HL.out.below HU5.out) (HE.out.below HU5.out) (HP.out.below HU5.out)
    have HLV := Lib.hid hlv
    have HBW := Lib.hid (HB1.out.trans (HU5.out.mono HB1.out.size))
    clear HZ HBZ HCZ hlv
    have h13 : m = 0 ∨ m = 1 ∨ m = 2 ∨ m = 3 ∨ m = 4 ∨ m = 5 ∨ m = 6 ∨ m = 7 ∨ m = 8 ∨ m = 9 ∨ m = 10 ∨ m = 11 ∨ m = 12 := by omega
    rcases h13 with rfl | rfl | rfl | rfl | rfl | rfl | rfl | rfl | rfl | rfl | rfl | rfl | rfl
    · obtain rfl : ([103, 101, 116] : List UInt8) = nm := hnm
      obtain ⟨rfl, rfl, hqq, hqk, hl3⟩ := e0 (by decide)
      have hRl : R.length = 1 := hrl.1 rfl
      have f10 : u5.cell? ⟨v5.heap.size, 10, none⟩ = some (.bool false) := by rw [(block_cell hxq 10).1, ← hqq]; rfl
      have f1 : u5.cell? ⟨v5.heap.size, 1, none⟩ = some (.slice oa5 (R.length + 1) oc5) := by rw [(block_cell hxq 1).1, ← hqk]; rfl
      have hlt : lt ≠ 0 := fun h => by have h2 : R.length + 1 = 3 := hl3 ▸ h; omega
      have g1 : ((lt : Int) == 0) = false := by rw [beq_eq_false_iff_ne]; omega
      have g2 : ((R.length : Int) + 1 == 3) = false := by rw [beq_eq_false_iff_ne]; omega
      clear hqq hqk hl3 e0 e1 e2 e3 hrl hxc hxq hRl hlt
      go_wp2_with fail
      refine HLV.out.mono ?_
      rintro e w' ⟨rfl, hb⟩
      go_wp2_with fail
      go_ret
      exact ⟨rfl, HBW.out.trans (hb.mono HBW.out.size)⟩
    · obtain rfl : ([103, 101, 116, 115] : List UInt8) = nm := hnm
      obtain ⟨rfl, rfl, hqq, hqk, hl3⟩ := e0 (by decide)
      have hRl : R.length = 2 := hrl.2 rfl
      have f10 : u5.cell? ⟨v5.heap.size, 10, none⟩ = some (.bool false) := by rw [(block_cell hxq 10).1, ← hqq]; rfl
      have f1 : u5.cell? ⟨v5.heap.size, 1, none⟩ = some (.slice oa5 (R.length + 1) oc5) := by rw [(block_cell hxq 1).1, ← hqk]; rfl
      obtain rfl : lt = 0 := hl3 ▸ (by omega : R.length + 1 = 3)
      have g2 : ((R.length : Int) + 1 == 3) = true := by rw [beq_iff_eq]; omega
      clear hqq hqk hl3 e0 e1 e2 e3 hrl hxc hxq hRl
      go_wp2_with fail
      refine HLV.out.mono ?_
      rintro e w' ⟨rfl, hb⟩
      go_wp2_with fail
      go_ret
      exact ⟨rfl, HBW.out.trans (hb.mono HBW.out.size)⟩
    · obtain rfl : ([115, 101, 116] : List UInt8) = nm := hnm
      obtain ⟨rfl, rfl, rfl, hqq, hcc, hby⟩ := e3 (by decide) (by decide) (by decide) (by decide)
      have f10 : u5.cell? ⟨v5.heap.size, 10, none⟩ = some (.bool true) := by rw [(block_cell hxq 10).1, ← hqq]; rfl
      simp only [callC, Bool.and_eq_true, beq_iff_eq] at hcc
      obtain ⟨⟨⟨⟨⟨⟨y2, y3⟩, y4⟩, y5⟩, y6⟩, y7⟩, y8⟩ := hcc
      have a2 : u5.cell? ⟨v0.heap.size, 2, none⟩ = some (.int .u8 (d0.cverb : Int)) := (block_cell hxc 2).1
      have b2 : u5.cell? ⟨v5.heap.size, 2, none⟩ = some (.int .u8 (d0.cverb : Int)) := by rw [(block_cell hxq 2).1, ← y2]; rfl
      have a3 : u5.cell? ⟨v0.heap.size, 3, none⟩ = some (sv d0.key) := (block_cell hxc 3).1
      have b3 : u5.cell? ⟨v5.heap.size, 3, none⟩ = some (sv d0.key) := by rw [(block_cell hxq 3).1, ← y3]; rfl
      have a4 : u5.cell? ⟨v0.heap.size, 4, none⟩ = some (sv d0.value) := (block_cell hxc 4).1
      have b4 : u5.cell? ⟨v5.heap.size, 4, none⟩ = some (sv d0.value) := by rw [(block_cell hxq 4).1, ← y4]; rfl
      have a5 : u5.cell? ⟨v0.heap.size, 5, none⟩ = some (.int .u32 (d0.flags : Int)) := (block_cell hxc 5).1
      have b5 : u5.cell? ⟨v5.heap.size, 5, none⟩ = some (.int .u32 (d0.flags : Int)) := by rw [(block_cell hxq 5).1, ← y5]; rfl
      have a6 : u5.cell? ⟨v0.heap.size, 6, none⟩ = some (.int .i64 d0.exp) := (block_cell hxc 6).1
      have b6 : u5.cell? ⟨v5.heap.size, 6, none⟩ = some (.int .i64 d0.exp) := by rw [(block_cell hxq 6).1, ← y6]; rfl
      have a7 : u5.cell? ⟨v0.heap.size, 7, none⟩ = some (.int .u64 (d0.id : Int)) := (block_cell hxc 7).1
      have b7 : u5.cell? ⟨v5.heap.size, 7, none⟩ = some (.int .u64 (d0.id : Int)) := by rw [(block_cell hxq 7).1, ← y7]; rfl
      have a8 : u5.cell? ⟨v0.heap.size, 8, none⟩ = some (.int .u64 (d0.by' : Int)) := (block_cell hxc 8).1
      have b8 : u5.cell? ⟨v5.heap.size, 8, none⟩ = some (.int .u64 (d0.by' : Int)) := by rw [(block_cell hxq 8).1, ← y8]; rfl
      have a9 : u5.cell? ⟨v0.heap.size, 9, none⟩ = some (.int .i64 d0.bytes) := (block_cell hxc 9).1
      have b9 : u5.cell? ⟨v5.heap.size, 9, none⟩ = some (.int .i64 d0.bytes) := by rw [(block_cell hxq 9).1, ← hby]; rfl
      clear hqq hby e0 e1 e2 e3 hrl hxc hxq y2 y3 y4 y5 y6 y7 y8
      go_wp2_with fail
      refine HLV.out.mono ?_
      rintro e w' ⟨rfl, hb⟩
      go_wp2_with fail
      go_ret
      exact ⟨rfl, HBW.out.trans (hb.mono HBW.out.size)⟩
    · obtain rfl : ([97, 100, 100] : List UInt8) = nm := hnm
      obtain ⟨rfl, rfl, rfl, hqq, hcc, hby⟩ := e3 (by decide) (by decide) (by decide) (by decide)
      have f10 : u5.cell? ⟨v5.heap.size, 10, none⟩ = some (.bool true) := by rw [(block_cell hxq 10).1, ← hqq]; rfl
      simp only [callC, Bool.and_eq_true, beq_iff_eq] at hcc
      obtain ⟨⟨⟨⟨⟨⟨y2, y3⟩, y4⟩, y5⟩, y6⟩, y7⟩, y8⟩ := hcc
      have a2 : u5.cell? ⟨v0.heap.size, 2, none⟩ = some (.int .u8 (d0.cverb : Int)) := (block_cell hxc 2).1
      have b2 : u5.cell? ⟨v5.heap.size, 2, none⟩ = some (.int .u8 (d0.cverb : Int)) := by rw [(block_cell hxq 2).1, ← y2]; rfl
      have a3 : u5.cell? ⟨v0.heap.size, 3, none⟩ = some (sv d0.key) := (block_cell hxc 3).1
      have b3 : u5.cell? ⟨v5.heap.size, 3, none⟩ = some (sv d0.key) := by rw [(block_cell hxq 3).1, ← y3]; rfl
      have a4 : u5.cell? ⟨v0.heap.size, 4, none⟩ = some (sv d0.value) := (block_cell hxc 4).1
      have b4 : u5.cell? ⟨v5.heap.size, 4, none⟩ = some (sv d0.value) := by rw [(block_cell hxq 4).1, ← y4]; rfl
      have a5 : u5.cell? ⟨v0.heap.size, 5, none⟩ = some (.int .u32 (d0.flags : Int)) := (block_cell hxc 5).1
      have b5 : u5.cell? ⟨v5.heap.size, 5, none⟩ = some (.int .u32 (d0.flags : Int)) := by rw [(block_cell hxq 5).1, ← y5]; rfl
      have a6 : u5.cell? ⟨v0.heap.size, 6, none⟩ = some (.int .i64 d0.exp) := (block_cell hxc 6).1
      have b6 : u5.cell? ⟨v5.heap.size, 6, none⟩ = some (.int .i64 d0.exp) := by rw [(block_cell hxq 6).1, ← y6]; rfl
      have a7 : u5.cell? ⟨v0.heap.size, 7, none⟩ = some (.int .u64 (d0.id : Int)) := (block_cell hxc 7).1
      have b7 : u5.cell? ⟨v5.heap.size, 7, none⟩ = some (.int .u64 (d0.id : Int)) := by rw [(block_cell hxq 7).1, ← y7]; rfl
      have a8 : u5.cell? ⟨v0.heap.size, 8, none⟩ = some (.int .u64 (d0.by' : Int)) := (block_cell hxc 8).1
      have b8 : u5.cell? ⟨v5.heap.size, 8, none⟩ = some (.int .u64 (d0.by' : Int)) := by rw [(block_cell hxq 8).1, ← y8]; rfl
      have a9 : u5.cell? ⟨v0.heap.size, 9, none⟩ = some (.int .i64 d0.bytes) := (block_cell hxc 9).1
      have b9 : u5.cell? ⟨v5.heap.size, 9, none⟩ = some (.int .i64 d0.bytes) := by rw [(block_cell hxq 9).1, ← hby]; rfl
      clear hqq hby e0 e1 e2 e3 hrl hxc hxq y2 y3 y4 y5 y6 y7 y8
      go_wp2_with fail
      refine HLV.out.mono ?_
      rintro e w' ⟨rfl, hb⟩
      go_wp2_with fail
      go_ret
      exact ⟨rfl, HBW.out.trans (hb.mono HBW.out.size)⟩
    · obtain rfl : ([114, 101, 112, 108, 97, 99, 101] : List UInt8) = nm := hnm
      obtain ⟨rfl, rfl, rfl, hqq, hcc, hby⟩ := e3 (by decide) (by decide) (by decide) (by decide)
      have f10 : u5.cell? ⟨v5.heap.size, 10, none⟩ = some (.bool true) := by rw [(block_cell hxq 10).1, ← hqq]; rfl
      simp only [callC, Bool.and_eq_true, beq_iff_eq] at hcc
      obtain ⟨⟨⟨⟨⟨⟨y2, y3⟩, y4⟩, y5⟩, y6⟩, y7⟩, y8⟩ := hcc
      have a2 : u5.cell? ⟨v0.heap.size, 2, none⟩ = some (.int .u8 (d0.cverb : Int)) := (block_cell hxc 2).1
      have b2 : u5.cell? ⟨v5.heap.size, 2, none⟩ = some (.int .u8 (d0.cverb : Int)) := by rw [(block_cell hxq 2).1, ← y2]; rfl
      have a3 : u5.cell? ⟨v0.heap.size, 3, none⟩ = some (sv d0.key) := (block_cell hxc 3).1
      have b3 : u5.cell? ⟨v5.heap.size, 3, none⟩ = some (sv d0.key) := by rw [(block_cell hxq 3).1, ← y3]; rfl
      have a4 : u5.cell? ⟨v0.heap.size, 4, none⟩ = some (sv d0.value) := (block_cell hxc 4).1
      have b4 : u5.cell? ⟨v5.heap.size, 4, none⟩ = some (sv d0.value) := by rw [(block_cell hxq 4).1, ← y4]; rfl
      have a5 : u5.cell? ⟨v0.heap.size, 5, none⟩ = some (.int .u32 (d0.flags : Int)) := (block_cell hxc 5).1
      have b5 : u5.cell? ⟨v5.heap.size, 5, none⟩ = some (.int .u32 (d0.flags : Int)) := by rw [(block_cell hxq 5).1, ← y5]; rfl
      have a6 : u5.cell? ⟨v0.heap.size, 6, none⟩ = some (.int .i64 d0.exp) := (block_cell hxc 6).1
      have b6 : u5.cell? ⟨v5.heap.size, 6, none⟩ = some (.int .i64 d0.exp) := by rw [(block_cell hxq 6).1, ← y6]; rfl
      have a7 : u5.cell? ⟨v0.heap.size, 7, none⟩ = some (.int .u64 (d0.id : Int)) := (block_cell hxc 7).1
      have b7 : u5.cell? ⟨v5.heap.size, 7, none⟩ = some (.int .u64 (d0.id : Int)) := by rw [(block_cell hxq 7).1, ← y7]; rfl
      have a8 : u5.cell? ⟨v0.heap.size, 8, none⟩ = some (.int .u64 (d0.by' : Int)) := (block_cell hxc 8).1
      have b8 : u5.cell? ⟨v5.heap.size, 8, none⟩ = some (.int .u64 (d0.by' : Int)) := by rw [(block_cell hxq 8).1, ← y8]; rfl
      have a9 : u5.cell? ⟨v0.heap.size, 9, none⟩ = some (.int .i64 d0.bytes) := (block_cell hxc 9).1
      have b9 : u5.cell? ⟨v5.heap.size, 9, none⟩ = some (.int .i64 d0.bytes) := by rw [(block_cell hxq 9).1, ← hby]; rfl
      clear hqq hby e0 e1 e2 e3 hrl hxc hxq y2 y3 y4 y5 y6 y7 y8
      go_wp2_with fail
      refine HLV.out.mono ?_
      rintro e w' ⟨rfl, hb⟩
      go_wp2_with fail
      go_ret
      exact ⟨rfl, HBW.out.trans (hb.mono HBW.out.size)⟩
    · obtain rfl : ([99, 97, 115] : List UInt8) = nm := hnm
      obtain ⟨rfl, rfl, rfl, hqq, hcc, hby⟩ := e3 (by decide) (by decide) (by decide) (by decide)
      have f10 : u5.cell? ⟨v5.heap.size, 10, none⟩ = some (.bool true) := by rw [(block_cell hxq 10).1, ← hqq]; rfl
      simp only [callC, Bool.and_eq_true, beq_iff_eq] at hcc
      obtain ⟨⟨⟨⟨⟨⟨y2, y3⟩, y4⟩, y5⟩, y6⟩, y7⟩, y8⟩ := hcc
      have a2 : u5.cell? ⟨v0.heap.size, 2, none⟩ = some (.int .u8 (d0.cverb : Int)) := (block_cell hxc 2).1
      have b2 : u5.cell? ⟨v5.heap.size, 2, none⟩ = some (.int .u8 (d0.cverb : Int)) := by rw [(block_cell hxq 2).1, ← y2]; rfl
      have a3 : u5.cell? ⟨v0.heap.size, 3, none⟩ = some (sv d0.key) := (block_cell hxc 3).1
      have b3 : u5.cell? ⟨v5.heap.size, 3, none⟩ = some (sv d0.key) := by rw [(block_cell hxq 3).1, ← y3]; rfl
      have a4 : u5.cell? ⟨v0.heap.size, 4, none⟩ = some (sv d0.value) := (block_cell hxc 4).1
      have b4 : u5.cell? ⟨v5.heap.size, 4, none⟩ = some (sv d0.value) := by rw [(block_cell hxq 4).1, ← y4]; rfl
      have a5 : u5.cell? ⟨v0.heap.size, 5, none⟩ = some (.int .u32 (d0.flags : Int)) := (block_cell hxc 5).1
      have b5 : u5.cell? ⟨v5.heap.size, 5, none⟩ = some (.int .u32 (d0.flags : Int)) := by rw [(block_cell hxq 5).1, ← y5]; rfl
      have a6 : u5.cell? ⟨v0.heap.size, 6, none⟩ = some (.int .i64 d0.exp) := (block_cell hxc 6).1
      have b6 : u5.cell? ⟨v5.heap.size, 6, none⟩ = some (.int .i64 d0.exp) := by rw [(block_cell hxq 6).1, ← y6]; rfl
      have a7 : u5.cell? ⟨v0.heap.size, 7, none⟩ = some (.int .u64 (d0.id : Int)) := (block_cell hxc 7).1
      have b7 : u5.cell? ⟨v5.heap.size, 7, none⟩ = some (.int .u64 (d0.id : Int)) := by rw [(block_cell hxq 7).1, ← y7]; rfl
      have a8 : u5.cell? ⟨v0.heap.size, 8, none⟩ = some (.int .u64 (d0.by' : Int)) := (block_cell hxc 8).1
      have b8 : u5.cell? ⟨v5.heap.size, 8, none⟩ = some (.int .u64 (d0.by' : Int)) := by rw [(block_cell hxq 8).1, ← y8]; rfl
      have a9 : u5.cell? ⟨v0.heap.size, 9, none⟩ = some (.int .i64 d0.bytes) := (block_cell hxc 9).1
      have b9 : u5.cell? ⟨v5.heap.size, 9, none⟩ = some (.int .i64 d0.bytes) := by rw [(block_cell hxq 9).1, ← hby]; rfl
      clear hqq hby e0 e1 e2 e3 hrl hxc hxq y2 y3 y4 y5 y6 y7 y8
      go_wp2_with fail
      refine HLV.out.mono ?_
      rintro e w' ⟨rfl, hb⟩
      go_wp2_with fail
      go_ret
      exact ⟨rfl, HBW.out.trans (hb.mono HBW.out.size)⟩
    · obtain rfl : ([100, 101, 108, 101, 116, 101] : List UInt8) = nm := hnm
      obtain ⟨rfl, rfl, rfl, hqq, hcc, hby⟩ := e3 (by decide) (by decide) (by decide) (by decide)
      have f10 : u5.cell? ⟨v5.heap.size, 10, none⟩ = some (.bool true) := by rw [(block_cell hxq 10).1, ← hqq]; rfl
      simp only [callC, Bool.and_eq_true, beq_iff_eq] at hcc
      obtain ⟨⟨⟨⟨⟨⟨y2, y3⟩, y4⟩, y5⟩, y6⟩, y7⟩, y8⟩ := hcc
      have a2 : u5.cell? ⟨v0.heap.size, 2, none⟩ = some (.int .u8 (d0.cverb : Int)) := (block_cell hxc 2).1
      have b2 : u5.cell? ⟨v5.heap.size, 2, none⟩ = some (.int .u8 (d0.cverb : Int)) := by rw [(block_cell hxq 2).1, ← y2]; rfl
      have a3 : u5.cell? ⟨v0.heap.size, 3, none⟩ = some (sv d0.key) := (block_cell hxc 3).1
      have b3 : u5.cell? ⟨v5.heap.size, 3, none⟩ = some (sv d0.key) := by rw [(block_cell hxq 3).1, ← y3]; rfl
      have a4 : u5.cell? ⟨v0.heap.size, 4, none⟩ = some (sv d0.value) := (block_cell hxc 4).1
      have b4 : u5.cell? ⟨v5.heap.size, 4, none⟩ = some (sv d0.value) := by rw [(block_cell hxq 4).1, ← y4]; rfl
      have a5 : u5.cell? ⟨v0.heap.size, 5, none⟩ = some (.int .u32 (d0.flags : Int)) := (block_cell hxc 5).1
      have b5 : u5.cell? ⟨v5.heap.size, 5, none⟩ = some (.int .u32 (d0.flags : Int)) := by rw [(block_cell hxq 5).1, ← y5]; rfl
      have a6 : u5.cell? ⟨v0.heap.size, 6, none⟩ = some (.int .i64 d0.exp) := (block_cell hxc 6).1
      have b6 : u5.cell? ⟨v5.heap.size, 6, none⟩ = some (.int .i64 d0.exp) := by rw [(block_cell hxq 6).1, ← y6]; rfl
      have a7 : u5.cell? ⟨v0.heap.size, 7, none⟩ = some (.int .u64 (d0.id : Int)) := (block_cell hxc 7).1
      have b7 : u5.cell? ⟨v5.heap.size, 7, none⟩ = some (.int .u64 (d0.id : Int)) := by rw [(block_cell hxq 7).1, ← y7]; rfl
      have a8 : u5.cell? ⟨v0.heap.size, 8, none⟩ = some (.int .u64 (d0.by' : Int)) := (block_cell hxc 8).1
      have b8 : u5.cell? ⟨v5.heap.size, 8, none⟩ = some (.int .u64 (d0.by' : Int)) := by rw [(block_cell hxq 8).1, ← y8]; rfl
      have a9 : u5.cell? ⟨v0.heap.size, 9, none⟩ = some (.int .i64 d0.bytes) := (block_cell hxc 9).1
      have b9 : u5.cell? ⟨v5.heap.size, 9, none⟩ = some (.int .i64 d0.bytes) := by rw [(block_cell hxq 9).1, ← hby]; rfl
      clear hqq hby e0 e1 e2 e3 hrl hxc hxq y2 y3 y4 y5 y6 y7 y8
      go_wp2_with fail
      refine HLV.out.mono ?_
      rintro e w' ⟨rfl, hb⟩
      go_wp2_with fail
      go_ret
      exact ⟨rfl, HBW.out.trans (hb.mono HBW.out.size)⟩
    · obtain rfl : ([116, 111, 117, 99, 104] : List UInt8) = nm := hnm
      obtain ⟨rfl, rfl, rfl, hqq, hcc, hby⟩ := e3 (by decide) (by decide) (by decide) (by decide)
      have f10 : u5.cell? ⟨v5.heap.size, 10, none⟩ = some (.bool true) := by rw [(block_cell hxq 10).1, ← hqq]; rfl
      simp only [callC, Bool.and_eq_true, beq_iff_eq] at hcc
      obtain ⟨⟨⟨⟨⟨⟨y2, y3⟩, y4⟩, y5⟩, y6⟩, y7⟩, y8⟩ := hcc
      have a2 : u5.cell? ⟨v0.heap.size, 2, none⟩ = some (.int .u8 (d0.cverb : Int)) := (block_cell hxc 2).1
      have b2 : u5.cell? ⟨v5.heap.size, 2, none⟩ = some (.int .u8 (d0.cverb : Int)) := by rw [(block_cell hxq 2).1, ← y2]; rfl
      have a3 : u5.cell? ⟨v0.heap.size, 3, none⟩ = some (sv d0.key) := (block_cell hxc 3).1
      have b3 : u5.cell? ⟨v5.heap.size, 3, none⟩ = some (sv d0.key) := by rw [(block_cell hxq 3).1, ← y3]; rfl
      have a4 : u5.cell? ⟨v0.heap.size, 4, none⟩ = some (sv d0.value) := (block_cell hxc 4).1
      have b4 : u5.cell? ⟨v5.heap.size, 4, none⟩ = some (sv d0.value) := by rw [(block_cell hxq 4).1, ← y4]; rfl
      have a5 : u5.cell? ⟨v0.heap.size, 5, none⟩ = some (.int .u32 (d0.flags : Int)) := (block_cell hxc 5).1
      have b5 : u5.cell? ⟨v5.heap.size, 5, none⟩ = some (.int .u32 (d0.flags : Int)) := by rw [(block_cell hxq 5).1, ← y5]; rfl
      have a6 : u5.cell? ⟨v0.heap.size, 6, none⟩ = some (.int .i64 d0.exp) := (block_cell hxc 6).1
      have b6 : u5.cell? ⟨v5.heap.size, 6, none⟩ = some (.int .i64 d0.exp) := by rw [(block_cell hxq 6).1, ← y6]; rfl
      have a7 : u5.cell? ⟨v0.heap.size, 7, none⟩ = some (.int .u64 (d0.id : Int)) := (block_cell hxc 7).1
      have b7 : u5.cell? ⟨v5.heap.size, 7, none⟩ = some (.int .u64 (d0.id : Int)) := by rw [(block_cell hxq 7).1, ← y7]; rfl
      have a8 : u5.cell? ⟨v0.heap.size, 8, none⟩ = some (.int .u64 (d0.by' : Int)) := (block_cell hxc 8).1
      have b8 : u5.cell? ⟨v5.heap.size, 8, none⟩ = some (.int .u64 (d0.by' : Int)) := by rw [(block_cell hxq 8).1, ← y8]; rfl
      have a9 : u5.cell? ⟨v0.heap.size, 9, none⟩ = some (.int .i64 d0.bytes) := (block_cell hxc 9).1
      have b9 : u5.cell? ⟨v5.heap.size, 9, none⟩ = some (.int .i64 d0.bytes) := by rw [(block_cell hxq 9).1, ← hby]; rfl
      clear hqq hby e0 e1 e2 e3 hrl hxc hxq y2 y3 y4 y5 y6 y7 y8
      go_wp2_with fail
      refine HLV.out.mono ?_
      rintro e w' ⟨rfl, hb⟩
      go_wp2_with fail
      go_ret
      exact ⟨rfl, HBW.out.trans (hb.mono HBW.out.size)⟩
    · obtain rfl : ([105, 110, 99, 114] : List UInt8) = nm := hnm
      obtain ⟨rfl, rfl, rfl, hqq, hcc, hby⟩ := e3 (by decide) (by decide) (by decide) (by decide)
      have f10 : u5.cell? ⟨v5.heap.size, 10, none⟩ = some (.bool true) := by rw [(block_cell hxq 10).1, ← hqq]; rfl
      simp only [callC, Bool.and_eq_true, beq_iff_eq] at hcc
      obtain ⟨⟨⟨⟨⟨⟨y2, y3⟩, y4⟩, y5⟩, y6⟩, y7⟩, y8⟩ := hcc
      have a2 : u5.cell? ⟨v0.heap.size, 2, none⟩ = some (.int .u8 (d0.cverb : Int)) := (block_cell hxc 2).1
      have b2 : u5.cell? ⟨v5.heap.size, 2, none⟩ = some (.int .u8 (d0.cverb : Int)) := by rw [(block_cell hxq 2).1, ← y2]; rfl
      have a3 : u5.cell? ⟨v0.heap.size, 3, none⟩ = some (sv d0.key) := (block_cell hxc 3).1
      have b3 : u5.cell? ⟨v5.heap.size, 3, none⟩ = some (sv d0.key) := by rw [(block_cell hxq 3).1, ← y3]; rfl
      have a4 : u5.cell? ⟨v0.heap.size, 4, none⟩ = some (sv d0.value) := (block_cell hxc 4).1
      have b4 : u5.cell? ⟨v5.heap.size, 4, none⟩ = some (sv d0.value) := by rw [(block_cell hxq 4).1, ← y4]; rfl
      have a5 : u5.cell? ⟨v0.heap.size, 5, none⟩ = some (.int .u32 (d0.flags : Int)) := (block_cell hxc 5).1
      have b5 : u5.cell? ⟨v5.heap.size, 5, none⟩ = some (.int .u32 (d0.flags : Int)) := by rw [(block_cell hxq 5).1, ← y5]; rfl
      have a6 : u5.cell? ⟨v0.heap.size, 6, none⟩ = some (.int .i64 d0.exp) := (block_cell hxc 6).1
      have b6 : u5.cell? ⟨v5.heap.size, 6, none⟩ = some (.int .i64 d0.exp) := by rw [(block_cell hxq 6).1, ← y6]; rfl
      have a7 : u5.cell? ⟨v0.heap.size, 7, none⟩ = some (.int .u64 (d0.id : Int)) := (block_cell hxc 7).1
      have b7 : u5.cell? ⟨v5.heap.size, 7, none⟩ = some (.int .u64 (d0.id : Int)) := by rw [(block_cell hxq 7).1, ← y7]; rfl
      have a8 : u5.cell? ⟨v0.heap.size, 8, none⟩ = some (.int .u64 (d0.by' : Int)) := (block_cell hxc 8).1
      have b8 : u5.cell? ⟨v5.heap.size, 8, none⟩ = some (.int .u64 (d0.by' : Int)) := by rw [(block_cell hxq 8).1, ← y8]; rfl
      have a9 : u5.cell? ⟨v0.heap.size, 9, none⟩ = some (.int .i64 d0.bytes) := (block_cell hxc 9).1
      have b9 : u5.cell? ⟨v5.heap.size, 9, none⟩ = some (.int .i64 d0.bytes) := by rw [(block_cell hxq 9).1, ← hby]; rfl
      clear hqq hby e0 e1 e2 e3 hrl hxc hxq y2 y3 y4 y5 y6 y7 y8
      go_wp2_with fail
      refine HLV.out.mono ?_
      rintro e w' ⟨rfl, hb⟩
      go_wp2_with fail
      go_ret
      exact ⟨rfl, HBW.out.trans (hb.mono HBW.out.size)⟩
    · obtain rfl : ([100, 101, 99, 114] : List UInt8) = nm := hnm
      obtain ⟨rfl, rfl, rfl, hqq, hcc, hby⟩ := e3 (by decide) (by decide) (by decide) (by decide)
      have f10 : u5.cell? ⟨v5.heap.size, 10, none⟩ = some (.bool true) := by rw [(block_cell hxq 10).1, ← hqq]; rfl
      simp only [callC, Bool.and_eq_true, beq_iff_eq] at hcc
      obtain ⟨⟨⟨⟨⟨⟨y2, y3⟩, y4⟩, y5⟩, y6⟩, y7⟩, y8⟩ := hcc
      have a2 : u5.cell? ⟨v0.heap.size, 2, none⟩ = some (.int .u8 (d0.cverb : Int)) := (block_cell hxc 2).1
      have b2 : u5.cell? ⟨v5.heap.size, 2, none⟩ = some (.int .u8 (d0.cverb : Int)) := by rw [(block_cell hxq 2).1, ← y2]; rfl
      have a3 : u5.cell? ⟨v0.heap.size, 3, none⟩ = some (sv d0.key) := (block_cell hxc 3).1
      have b3 : u5.cell? ⟨v5.heap.size, 3, none⟩ = some (sv d0.key) := by rw [(block_cell hxq 3).1, ← y3]; rfl
      have a4 : u5.cell? ⟨v0.heap.size, 4, none⟩ = some (sv d0.value) := (block_cell hxc 4).1
      have b4 : u5.cell? ⟨v5.heap.size, 4, none⟩ = some (sv d0.value) := by rw [(block_cell hxq 4).1, ← y4]; rfl
      have a5 : u5.cell? ⟨v0.heap.size, 5, none⟩ = some (.int .u32 (d0.flags : Int)) := (block_cell hxc 5).1
      have b5 : u5.cell? ⟨v5.heap.size, 5, none⟩ = some (.int .u32 (d0.flags : Int)) := by rw [(block_cell hxq 5).1, ← y5]; rfl
      have a6 : u5.cell? ⟨v0.heap.size, 6, none⟩ = some (.int .i64 d0.exp) := (block_cell hxc 6).1
      have b6 : u5.cell? ⟨v5.heap.size, 6, none⟩ = some (.int .i64 d0.exp) := by rw [(block_cell hxq 6).1, ← y6]; rfl
      have a7 : u5.cell? ⟨v0.heap.size, 7, none⟩ = some (.int .u64 (d0.id : Int)) := (block_cell hxc 7).1
      have b7 : u5.cell? ⟨v5.heap.size, 7, none⟩ = some (.int .u64 (d0.id : Int)) := by rw [(block_cell hxq 7).1, ← y7]; rfl
      have a8 : u5.cell? ⟨v0.heap.size, 8, none⟩ = some (.int .u64 (d0.by' : Int)) := (block_cell hxc 8).1
      have b8 : u5.cell? ⟨v5.heap.size, 8, none⟩ = some (.int .u64 (d0.by' : Int)) := by rw [(block_cell hxq 8).1, ← y8]; rfl
      have a9 : u5.cell? ⟨v0.heap.size, 9, none⟩ = some (.int .i64 d0.bytes) := (block_cell hxc 9).1
      have b9 : u5.cell? ⟨v5.heap.size, 9, none⟩ = some (.int .i64 d0.bytes) := by rw [(block_cell hxq 9).1, ← hby]; rfl
      clear hqq hby e0 e1 e2 e3 hrl hxc hxq y2 y3 y4 y5 y6 y7 y8
      go_wp2_with fail
      refine HLV.out.mono ?_
      rintro e w' ⟨rfl, hb⟩
      go_wp2_with fail
      go_ret
      exact ⟨rfl, HBW.out.trans (hb.mono HBW.out.size)⟩
    · obtain rfl : ([102, 108, 117, 115, 104, 95, 97, 108, 108] : List UInt8) = nm := hnm
      obtain ⟨rfl, rfl, rfl, hqq, hcc⟩ := e1 rfl
      have f10 : u5.cell? ⟨v5.heap.size, 10, none⟩ = some (.bool true) := by rw [(block_cell hxq 10).1, ← hqq]; rfl
      simp only [callC, Bool.and_eq_true, beq_iff_eq] at hcc
      obtain ⟨⟨⟨⟨⟨⟨y2, y3⟩, y4⟩, y5⟩, y6⟩, y7⟩, y8⟩ := hcc
      have a2 : u5.cell? ⟨v0.heap.size, 2, none⟩ = some (.int .u8 (d0.cverb : Int)) := (block_cell hxc 2).1
      have b2 : u5.cell? ⟨v5.heap.size, 2, none⟩ = some (.int .u8 (d0.cverb : Int)) := by rw [(block_cell hxq 2).1, ← y2]; rfl
      have a3 : u5.cell? ⟨v0.heap.size, 3, none⟩ = some (sv d0.key) := (block_cell hxc 3).1
      have b3 : u5.cell? ⟨v5.heap.size, 3, none⟩ = some (sv d0.key) := by rw [(block_cell hxq 3).1, ← y3]; rfl
      have a4 : u5.cell? ⟨v0.heap.size, 4, none⟩ = some (sv d0.value) := (block_cell hxc 4).1
      have b4 : u5.cell? ⟨v5.heap.size, 4, none⟩ = some (sv d0.value) := by rw [(block_cell hxq 4).1, ← y4]; rfl
      have a5 : u5.cell? ⟨v0.heap.size, 5, none⟩ = some (.int .u32 (d0.flags : Int)) := (block_cell hxc 5).1
      have b5 : u5.cell? ⟨v5.heap.size, 5, none⟩ = some (.int .u32 (d0.flags : Int)) := by rw [(block_cell hxq 5).1, ← y5]; rfl
      have a6 : u5.cell? ⟨v0.heap.size, 6, none⟩ = some (.int .i64 d0.exp) := (block_cell hxc 6).1
      have b6 : u5.cell? ⟨v5.heap.size, 6, none⟩ = some (.int .i64 d0.exp) := by rw [(block_cell hxq 6).1, ← y6]; rfl
      have a7 : u5.cell? ⟨v0.heap.size, 7, none⟩ = some (.int .u64 (d0.id : Int)) := (block_cell hxc 7).1
      have b7 : u5.cell? ⟨v5.heap.size, 7, none⟩ = some (.int .u64 (d0.id : Int)) := by rw [(block_cell hxq 7).1, ← y7]; rfl
      have a8 : u5.cell? ⟨v0.heap.size, 8, none⟩ = some (.int .u64 (d0.by' : Int)) := (block_cell hxc 8).1
      have b8 : u5.cell? ⟨v5.heap.size, 8, none⟩ = some (.int .u64 (d0.by' : Int)) := by rw [(block_cell hxq 8).1, ← y8]; rfl
      clear hqq e0 e1 e2 e3 hrl hxc hxq y2 y3 y4 y5 y6 y7 y8
      go_wp2_with fail
      refine HLV.out.mono ?_
      rintro e w' ⟨rfl, hb⟩
      go_wp2_with fail
      go_ret
      exact ⟨rfl, HBW.out.trans (hb.mono HBW.out.size)⟩
    · obtain rfl : ([118, 101, 114, 115, 105, 111, 110] : List UInt8) = nm := hnm
      obtain ⟨rfl, rfl, rfl⟩ := e2 (by decide)
      clear e0 e1 e2 e3 hrl hxc hxq
      go_wp2_with fail
      refine HLV.out.mono ?_
      rintro e w' ⟨rfl, hb⟩
      go_wp2_with fail
      go_ret
      exact ⟨rfl, HBW.out.trans (hb.mono HBW.out.size)⟩
    · obtain rfl : ([113, 117, 105, 116] : List UInt8) = nm := hnm
      obtain ⟨rfl, rfl, rfl⟩ := e2 (by decide)
      clear e0 e1 e2 e3 hrl hxc hxq
      go_wp2_with fail
      refine HLV.out.mono ?_
      rintro e w' ⟨rfl, hb⟩
      go_wp2_with fail
      go_ret
      exact ⟨rfl, HBW.out.trans (hb.mono HBW.out.size)⟩

end Go.Proofs.YtofpaooaiafpbaaGreatDoor
