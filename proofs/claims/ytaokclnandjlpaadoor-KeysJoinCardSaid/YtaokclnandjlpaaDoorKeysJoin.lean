/- The law KeysJoin answers true. Conditions: MaxLen holds a number; the line is of at most 1048576 bytes. -/
import Derived.Test.YtaokclnandjlpaaDoorJoins
import Derived.Test.YtaokclnandjlpaaDoorLine
import Derived.Deep.RegionWith
namespace Go.Proofs.YtaokclnandjlpaaDoor
open Go.RowKit

theorem repeat32 (n : Int) (h0 : 0 ≤ n) (h : n ≤ 100) (w : World) : Calls Tryd.prog 43 #[.string ⟨#[32]⟩, .int .i64 n] w fun e w' => e = .returned (sv (List.replicate n.toNat 32)) ∧ Below w.heap.size w w' := by
  obtain ⟨k, rfl⟩ := Int.eq_ofNat_of_zero_le h0
  have := Tryd.strings_Repeat ⟨#[32]⟩ k w (by omega) (by show 1 * k ≤ _; omega)
  rw [show Lib.repeatL (⟨#[32]⟩ : ByteArray).data.toList k = List.replicate k 32 from repeat_blanks k] at this
  rw [Int.toNat_natCast]
  exact this
theorem unblank (x : List UInt8) (w : World) (hL : HasLen w) (h : x.length ≤ 1000) : Calls Tryd.prog 47 #[sv x, .string ⟨#[32]⟩, .string ⟨#[]⟩] w fun e w' => e = .returned (sv (x.filter (· ≠ 32))) ∧ Below w.heap.size w w' := by
  obtain ⟨m, hm⟩ := hL
  have := Tryd.strings_ReplaceAll ⟨x.toArray⟩ ⟨#[32]⟩ ⟨#[]⟩ m w (by rw [sv_size]; omega) hm (by decide) (by rw [sv_size]; show x.length + _ * 0 ≤ _; omega)
  rw [show Lib.replaceAll (⟨x.toArray⟩ : ByteArray).data.toList (⟨#[32]⟩ : ByteArray).data.toList (⟨#[]⟩ : ByteArray).data.toList = x.filter (· ≠ 32) from replace_blank x] at this
  exact this
theorem words_at (l : List UInt8) (w : World) (h : l.length ≤ 1048576) (hL : HasLen w) : Calls Tryd.prog 32 #[sv l] w fun e w' => ∃ v, e = .returned v ∧ Strs w' w.heap.size v (words l) ∧ Below w.heap.size w w' := words_any ⟨l.toArray⟩ w (by rw [sv_size]; exact h) hL
theorem words_str (s : ByteArray) (L : List (List UInt8)) (w : World) (h : s.size ≤ 1048576) (hw : words (bs s) = L) (hL : HasLen w) : Calls Tryd.prog 32 #[.string s] w fun e w' => ∃ v, e = .returned v ∧ Strs w' w.heap.size v L ∧ Below w.heap.size w w' := by
  subst hw; exact words_any s w h hL
theorem nb_contains {x : List UInt8} (h : ∀ c ∈ x, c ≠ 32) (w : World) : Calls Tryd.prog 44 #[sv x, .string ⟨#[32]⟩] w fun e w' => e = .returned (.bool false) ∧ w = w' := by
  refine (Tryd.strings_Contains_one ⟨x.toArray⟩ 32 w).mono ?_
  rintro e w' ⟨rfl, rfl⟩
  refine ⟨?_, rfl⟩
  have : ∀ l : List UInt8, (∀ c ∈ l, c ≠ 32) → Lib.indexByte l 32 = -1 := by
    intro l
    induction l with
    | nil => intro _; rfl
    | cons b l ih =>
      intro hb
      rw [Lib.indexByte, if_neg (by simpa using hb b (by simp)), ih (fun c hc => hb c (by simp [hc]))]; rfl
  rw [show Lib.indexByte (⟨x.toArray⟩ : ByteArray).data.toList 32 = -1 from this x h]
  rfl

/-- What the first loop holds. -/
def JoinInv (B : Nat) (w : World) (k : Nat) (v t : Value) (wr : World) : Prop :=
  ∃ (T : List UInt8) (Ls : List (List UInt8)) (a : Option Addr) (c : Nat), t = sv T ∧ v = .slice a Ls.length c ∧ Texts T Ls ∧ T.length ≤ 46 * k ∧ Ls.length ≤ k ∧ wr.ownsRow B 9 1 v Ls.length (Ls.map sv) ∧ Below B w wr
theorem row_form {w : World} {B n : Nat} {e : TypeId} {v : Value} {xs : List Value} (h : w.ownsRow B e 1 v n xs) : ∃ a c, v = .slice a n c := by
  obtain ⟨hl, h2⟩ := h
  rcases h2 with ⟨rfl, h3⟩ | ⟨g, cap, cur, rfl, _⟩
  · exact ⟨none, 0, by rw [h3]⟩
  · exact ⟨_, _, rfl⟩
theorem join_skip {B : Nat} {w : World} {k : Nat} {v : Value} {T : List UInt8} {Ls : List (List UInt8)} {wr w2 w3 : World} {s : ByteArray} {n : Nat} (hT : Texts T Ls) (hl : T.length ≤ 46 * k) (hk : Ls.length ≤ k) (ho : wr.ownsRow B 9 1 v Ls.length (Ls.map sv)) (hb : Below B w wr)
    (hB : B ≤ wr.heap.size) (h2 : Below wr.heap.size wr w2) (h3 : Below w2.heap.size w2 w3) (hn : n ≤ 6) (hs : bs s = T ++ List.replicate n 32) : JoinInv B w (k + 1) v (.string s) w3 := by
  have h23 := h2.trans (h3.mono h2.size)
  obtain ⟨a, c, hv⟩ := row_form ho
  refine ⟨_, Ls, a, c, sv_of hs, hv, texts_skip hT _, by simp; omega, by omega, row_kept ho h23, hb.trans (h23.mono hB)⟩
theorem join_word {B : Nat} {w : World} {k : Nat} {v' : Value} {T X : List UInt8} {Ls : List (List UInt8)} {w4 : World} {s : ByteArray} {n : Nat} (hT : Texts T Ls) (hl : T.length ≤ 46 * k) (hk : Ls.length ≤ k) (ho : w4.ownsRow B 9 1 v' (Ls.length + 1) (Ls.map sv ++ [sv X])) (hb : Below B w w4)
    (hn : n ≤ 6) (hX0 : X ≠ []) (hXb : ∀ c ∈ X, c ≠ 32) (hXl : X.length ≤ 40) (hn1 : Ls ≠ [] → 1 ≤ n) (hs : bs s = T ++ List.replicate n 32 ++ X) : JoinInv B w (k + 1) v' (.string s) w4 := by
  obtain ⟨a, c, hv⟩ := row_form ho
  refine ⟨_, Ls ++ [X], a, c, sv_of hs, by simpa using hv, texts_word hT hn1 hX0 hXb, by simp; omega, by simp; omega, by simpa using ho, hb⟩

set_option maxRecDepth 100000 in
set_option maxHeartbeats 4000000 in
theorem keysJoin_walk (v : Value) (L : List (List UInt8)) (g : Value) (G : List UInt8) (s : ByteArray) (w : World) (hv : Own w 0 v (L.map sv)) (hg : Own w 0 g (G.map u8v)) (hs : s.size ≤ maxLen) (hLen : ∀ x ∈ L, x.length ≤ maxLen) (hL : HasLen w) :
    Calls Tryd.prog 10 #[v, g, .string s] w fun e w' => e = .returned (.bool true) ∧ Below w.heap.size w w' := by
  obtain ⟨i0, hi, hz0, hz1, hz2⟩ := info_parts infoStr
  have Hi := Lib.hid hi
  have Hz := Lib.hid (And.intro hz0 (And.intro hz1 hz2))
  clear hi hz0 hz1 hz2
  have HL := Lib.hid hL
  clear hL
  obtain ⟨a1, c1, rfl⟩ := hv.len
  obtain ⟨a2, c2, rfl⟩ := hg.len
  have hm1 := hv.max
  have hm2 := hg.max
  rw [List.length_map] at *
  unfold maxLen at hs hm1 hm2 hLen
  by_cases h1 : 40 < L.length
  · go_enter Tryd.func10, Tryd.ntmps10
    go_wp2_with fail
    refine (lives03 _ HL.out).mono ?_
    rintro e w1 ⟨rfl, hb⟩
    go_wp2_with fail
    go_ret
    exact ⟨rfl, hb⟩
  · by_cases h2 : 40 < G.length
    · go_enter Tryd.func10, Tryd.ntmps10
      go_wp2_with fail
      refine (lives03 _ HL.out).mono ?_
      rintro e w1 ⟨rfl, hb⟩
      go_wp2_with fail
      go_ret
      exact ⟨rfl, hb⟩
    · by_cases h3 : 2000 < s.size
      · go_enter Tryd.func10, Tryd.ntmps10
        go_wp2_with fail
        refine (lives03 _ HL.out).mono ?_
        rintro e w1 ⟨rfl, hb⟩
        go_wp2_with fail
        go_ret
        exact ⟨rfl, hb⟩
      · go_enter Tryd.func10, Tryd.ntmps10
        go_wp2_with fail
        go_loopw [7, 8, 9] (fun vw t i wr => ∃ k : Nat, k ≤ L.length ∧ i = .int .i64 k ∧ JoinInv w.heap.size w k vw t wr) (fun _ _ i _ => L.length - (intOf i).toNat)
        case atStart => exact ⟨0, Nat.zero_le _, rfl, [], [], none, 0, rfl, rfl, texts_nil, by simp, by simp, World.ownsRow_nil _ _ _ _, Below.refl _ _⟩
        case round =>
          obtain ⟨k, hk, rfl, T, Ls, a7, c7, rfl, rfl, hT, hTl, hLk, hown, hb⟩ := hrel
          have HLr := Lib.hid (HL.out.below hb)
          have HT := Lib.hid hT
          clear hT
          have hcase : (0 : Int) < (Ls.length : Int) ∨ Ls.length = 0 := by omega
          by_cases hlt : k < L.length
          · obtain ⟨x, hx⟩ : ∃ x, L[k]? = some x := ⟨_, List.getElem?_eq_getElem hlt⟩
            obtain ⟨g1, o1, cc, he, _, hg1, hcell, _⟩ := hv.at (k := k) (x := sv x) (by rw [List.getElem?_map, hx]; rfl)
            have hx1 := fun W => idx_str (n := L.length) (c := c1) (slice_inj he).1 hlt W
            have hc1 : wr.cell? ⟨g1, o1 + k, none⟩ = some (sv x) := (hb.cell (p := ⟨g1, o1 + k, none⟩) hg1).trans hcell
            have hxm := hLen x (List.mem_of_getElem? hx)
            clear he hcell hx
            by_cases hx40 : 40 < x.length
            · go_wp2_with fail
              refine (lives03 _ HLr.out).mono ?_
              rintro e w1 ⟨rfl, hb1⟩
              go_wp2_with fail
              go_ret
              exact ⟨rfl, hb.trans (hb1.mono hb.size)⟩
            · by_cases hgk : k < G.length
              · obtain ⟨c, hc⟩ : ∃ c, G[k]? = some c := ⟨_, List.getElem?_eq_getElem hgk⟩
                obtain ⟨g2, o2, cc, he, _, hg2, hcell, _⟩ := hg.at (k := k) (x := u8v c) (by rw [List.getElem?_map, hc]; rfl)
                have hx2 := fun W => idx_byte (n := G.length) (c := c2) (slice_inj he).1 hgk W
                have hgc : wr.cell? ⟨g2, o2 + k, none⟩ = some (u8v c) := (hb.cell (p := ⟨g2, o2 + k, none⟩) hg2).trans hcell
                have hc255 := c.toNat_lt
                clear he hcell hc
                rcases hcase with hLs | hLs
                · go_wp2_with fail
                  refine (unblank x _ HLr.out (by omega)).mono ?_
                  rintro e w2 ⟨rfl, hb2⟩
                  have hgc2 : w2.cell? ⟨g2, o2 + k, none⟩ = some (u8v c) := (hb2.cell (p := ⟨g2, o2 + k, none⟩) (by have := hb.size; show g2 < _; omega)).trans hgc
                  clear hgc
                  have hXl : (x.filter (· ≠ 32)).length ≤ 40 := Nat.le_trans (List.length_filter_le _ _) (by omega)
                  have HXB := Lib.hid (unblank_nb x)
                  generalize x.filter (· ≠ 32) = X at *
                  go_wp2_with fail
                  refine (repeat32 _ ?_ ?_ _).mono ?_
                  · omega
                  · omega
                  rintro e w3 ⟨rfl, hb3⟩
                  generalize hN : List.replicate _ (32 : UInt8) = R
                  have HR : Hid (∃ N, R = List.replicate N 32 ∧ N ≤ 6 ∧ (Ls ≠ [] → 1 ≤ N)) := ⟨_, hN.symm, by omega, fun hne => by have := List.length_pos_iff.2 hne; first | (simp at this; done) | omega⟩
                  have hRl : R.length ≤ 6 := by obtain ⟨N, e, h, _⟩ := HR.out; rw [e]; simpa using h
                  clear hN
                  have hsum : ¬ 9223372036854775807 < T.length + R.length := by omega
                  have hsum2 : ¬ 9223372036854775807 < T.length + R.length + X.length := by omega
                  have h23 := hb2.trans (hb3.mono hb2.size)
                  have hown3 := row_kept hown h23
                  have hb03 := hb.trans (h23.mono hb.size)
                  cases hX : X.isEmpty
                  · have hX0 : X ≠ [] := by rintro rfl; cases hX
                    have HX0 := Lib.hid hX0
                    clear hX0
                    go_wp2_with (at_builtin; refine wpList_append_own _ rfl _ _ 23 rfl w.heap.size 9 i0 (.string ⟨#[]⟩) 1 16 Tryd.underlying23 Hi.out Hz.out.1 Hz.out.2.1 Hz.out.2.2 rfl (by decide) _ _ _ rfl (hown3.alloc _) ⟨w3.heap.size, 0, none⟩ 1 1 [sv X] rfl rfl (cell_one_new _ _ _) (by intro u hu; simp at hu; subst hu; rfl) (by unfold maxLen; omega) (by omega) (by have := hb03.size; simp at this ⊢; omega) ?_)
                    intro v' w4 hown' hgrow _
                    have hbl := below_append hb03 (Nat.le_refl _) hown3 hgrow
                    have hj : ∀ s' : ByteArray, bs s' = T ++ R ++ X → JoinInv w.heap.size w (k + 1) v' (.string s') w4 := by
                      intro s' hs'
                      obtain ⟨N, e, h6, h1⟩ := HR.out
                      rw [e] at hs'
                      exact join_word (w := w) (k := k) HT.out hTl hLk hown' hbl h6 HX0.out HXB.out hXl h1 hs'
                    have HJ := Lib.hid hj
                    clear hj hown' hgrow hown hown3 hb2 hb3 h23 hb03
                    go_wp2_with fail
                    go_roundw
                    case rel => exact ⟨k + 1, by omega, by go_num, HJ.out _ (by rw [bs_append, bs_append])⟩
                    case measure => simp [intOf]; omega
                  · have hj : ∀ s' : ByteArray, bs s' = T ++ R → JoinInv w.heap.size w (k + 1) (.slice a7 Ls.length c7) (.string s') w3 := by
                      intro s' hs'
                      obtain ⟨N, e, h6, _⟩ := HR.out
                      rw [e] at hs'
                      exact join_skip (w := w) (k := k) HT.out hTl hLk hown hb hb.size hb2 hb3 h6 hs'
                    have HJ := Lib.hid hj
                    clear hj hown hown3 hb2 hb3 h23 hb03
                    go_wp2_with fail
                    go_roundw
                    case rel => exact ⟨k + 1, by omega, by go_num, HJ.out _ (by rw [bs_append])⟩
                    case measure => simp [intOf]; omega
                · obtain rfl : Ls = [] := List.eq_nil_of_length_eq_zero hLs
                  simp only [List.length_nil, List.map_nil] at hown hLk
                  clear hLs
                  go_wp2_with fail
                  refine (unblank x _ HLr.out (by omega)).mono ?_
                  rintro e w2 ⟨rfl, hb2⟩
                  have hgc2 : w2.cell? ⟨g2, o2 + k, none⟩ = some (u8v c) := (hb2.cell (p := ⟨g2, o2 + k, none⟩) (by have := hb.size; show g2 < _; omega)).trans hgc
                  clear hgc
                  have hXl : (x.filter (· ≠ 32)).length ≤ 40 := Nat.le_trans (List.length_filter_le _ _) (by omega)
                  have HXB := Lib.hid (unblank_nb x)
                  generalize x.filter (· ≠ 32) = X at *
                  go_wp2_with fail
                  refine (repeat32 _ ?_ ?_ _).mono ?_
                  · omega
                  · omega
                  rintro e w3 ⟨rfl, hb3⟩
                  generalize hN : List.replicate _ (32 : UInt8) = R
                  have HR : Hid (∃ N, R = List.replicate N 32 ∧ N ≤ 6 ∧ (([] : List (List UInt8)) ≠ [] → 1 ≤ N)) := ⟨_, hN.symm, by omega, fun hne => by have := List.length_pos_iff.2 hne; first | (simp at this; done) | omega⟩
                  have hRl : R.length ≤ 6 := by obtain ⟨N, e, h, _⟩ := HR.out; rw [e]; simpa using h
                  clear hN
                  have hsum : ¬ 9223372036854775807 < T.length + R.length := by omega
                  have hsum2 : ¬ 9223372036854775807 < T.length + R.length + X.length := by omega
                  have h23 := hb2.trans (hb3.mono hb2.size)
                  have hown3 := row_kept hown h23
                  have hb03 := hb.trans (h23.mono hb.size)
                  cases hX : X.isEmpty
                  · have hX0 : X ≠ [] := by rintro rfl; cases hX
                    have HX0 := Lib.hid hX0
                    clear hX0
                    go_wp2_with (at_builtin; refine wpList_append_own _ rfl _ _ 23 rfl w.heap.size 9 i0 (.string ⟨#[]⟩) 1 16 Tryd.underlying23 Hi.out Hz.out.1 Hz.out.2.1 Hz.out.2.2 rfl (by decide) _ _ _ rfl (hown3.alloc _) ⟨w3.heap.size, 0, none⟩ 1 1 [sv X] rfl rfl (cell_one_new _ _ _) (by intro u hu; simp at hu; subst hu; rfl) (by unfold maxLen; omega) (by omega) (by have := hb03.size; simp at this ⊢; omega) ?_)
                    intro v' w4 hown' hgrow _
                    have hbl := below_append hb03 (Nat.le_refl _) hown3 hgrow
                    have hj : ∀ s' : ByteArray, bs s' = T ++ R ++ X → JoinInv w.heap.size w (k + 1) v' (.string s') w4 := by
                      intro s' hs'
                      obtain ⟨N, e, h6, h1⟩ := HR.out
                      rw [e] at hs'
                      exact join_word (w := w) (k := k) HT.out hTl hLk hown' hbl h6 HX0.out HXB.out hXl h1 hs'
                    have HJ := Lib.hid hj
                    clear hj hown' hgrow hown hown3 hb2 hb3 h23 hb03
                    go_wp2_with fail
                    go_roundw
                    case rel => exact ⟨k + 1, by omega, by go_num, HJ.out _ (by rw [bs_append, bs_append])⟩
                    case measure => simp [intOf]; omega
                  · have hj : ∀ s' : ByteArray, bs s' = T ++ R → JoinInv w.heap.size w (k + 1) (.slice a7 0 c7) (.string s') w3 := by
                      intro s' hs'
                      obtain ⟨N, e, h6, _⟩ := HR.out
                      rw [e] at hs'
                      exact join_skip (w := w) (k := k) HT.out hTl hLk hown hb hb.size hb2 hb3 h6 hs'
                    have HJ := Lib.hid hj
                    clear hj hown hown3 hb2 hb3 h23 hb03
                    go_wp2_with fail
                    go_roundw
                    case rel => exact ⟨k + 1, by omega, by go_num, HJ.out _ (by rw [bs_append])⟩
                    case measure => simp [intOf]; omega
              · rcases hcase with hLs | hLs
                · go_wp2_with fail
                  refine (unblank x _ HLr.out (by omega)).mono ?_
                  rintro e w2 ⟨rfl, hb2⟩
                  have hXl : (x.filter (· ≠ 32)).length ≤ 40 := Nat.le_trans (List.length_filter_le _ _) (by omega)
                  have HXB := Lib.hid (unblank_nb x)
                  generalize x.filter (· ≠ 32) = X at *
                  go_wp2_with fail
                  refine (repeat32 _ ?_ ?_ _).mono ?_
                  · omega
                  · omega
                  rintro e w3 ⟨rfl, hb3⟩
                  generalize hN : List.replicate _ (32 : UInt8) = R
                  have HR : Hid (∃ N, R = List.replicate N 32 ∧ N ≤ 6 ∧ (Ls ≠ [] → 1 ≤ N)) := ⟨_, hN.symm, by omega, fun hne => by have := List.length_pos_iff.2 hne; first | (simp at this; done) | omega⟩
                  have hRl : R.length ≤ 6 := by obtain ⟨N, e, h, _⟩ := HR.out; rw [e]; simpa using h
                  clear hN
                  have hsum : ¬ 9223372036854775807 < T.length + R.length := by omega
                  have hsum2 : ¬ 9223372036854775807 < T.length + R.length + X.length := by omega
                  have h23 := hb2.trans (hb3.mono hb2.size)
                  have hown3 := row_kept hown h23
                  have hb03 := hb.trans (h23.mono hb.size)
                  cases hX : X.isEmpty
                  · have hX0 : X ≠ [] := by rintro rfl; cases hX
                    have HX0 := Lib.hid hX0
                    clear hX0
                    go_wp2_with (at_builtin; refine wpList_append_own _ rfl _ _ 23 rfl w.heap.size 9 i0 (.string ⟨#[]⟩) 1 16 Tryd.underlying23 Hi.out Hz.out.1 Hz.out.2.1 Hz.out.2.2 rfl (by decide) _ _ _ rfl (hown3.alloc _) ⟨w3.heap.size, 0, none⟩ 1 1 [sv X] rfl rfl (cell_one_new _ _ _) (by intro u hu; simp at hu; subst hu; rfl) (by unfold maxLen; omega) (by omega) (by have := hb03.size; simp at this ⊢; omega) ?_)
                    intro v' w4 hown' hgrow _
                    have hbl := below_append hb03 (Nat.le_refl _) hown3 hgrow
                    have hj : ∀ s' : ByteArray, bs s' = T ++ R ++ X → JoinInv w.heap.size w (k + 1) v' (.string s') w4 := by
                      intro s' hs'
                      obtain ⟨N, e, h6, h1⟩ := HR.out
                      rw [e] at hs'
                      exact join_word (w := w) (k := k) HT.out hTl hLk hown' hbl h6 HX0.out HXB.out hXl h1 hs'
                    have HJ := Lib.hid hj
                    clear hj hown' hgrow hown hown3 hb2 hb3 h23 hb03
                    go_wp2_with fail
                    go_roundw
                    case rel => exact ⟨k + 1, by omega, by go_num, HJ.out _ (by rw [bs_append, bs_append])⟩
                    case measure => simp [intOf]; omega
                  · have hj : ∀ s' : ByteArray, bs s' = T ++ R → JoinInv w.heap.size w (k + 1) (.slice a7 Ls.length c7) (.string s') w3 := by
                      intro s' hs'
                      obtain ⟨N, e, h6, _⟩ := HR.out
                      rw [e] at hs'
                      exact join_skip (w := w) (k := k) HT.out hTl hLk hown hb hb.size hb2 hb3 h6 hs'
                    have HJ := Lib.hid hj
                    clear hj hown hown3 hb2 hb3 h23 hb03
                    go_wp2_with fail
                    go_roundw
                    case rel => exact ⟨k + 1, by omega, by go_num, HJ.out _ (by rw [bs_append])⟩
                    case measure => simp [intOf]; omega
                · obtain rfl : Ls = [] := List.eq_nil_of_length_eq_zero hLs
                  simp only [List.length_nil, List.map_nil] at hown hLk
                  clear hLs
                  go_wp2_with fail
                  refine (unblank x _ HLr.out (by omega)).mono ?_
                  rintro e w2 ⟨rfl, hb2⟩
                  have hXl : (x.filter (· ≠ 32)).length ≤ 40 := Nat.le_trans (List.length_filter_le _ _) (by omega)
                  have HXB := Lib.hid (unblank_nb x)
                  generalize x.filter (· ≠ 32) = X at *
                  go_wp2_with fail
                  refine (repeat32 _ ?_ ?_ _).mono ?_
                  · omega
                  · omega
                  rintro e w3 ⟨rfl, hb3⟩
                  generalize hN : List.replicate _ (32 : UInt8) = R
                  have HR : Hid (∃ N, R = List.replicate N 32 ∧ N ≤ 6 ∧ (([] : List (List UInt8)) ≠ [] → 1 ≤ N)) := ⟨_, hN.symm, by omega, fun hne => by have := List.length_pos_iff.2 hne; first | (simp at this; done) | omega⟩
                  have hRl : R.length ≤ 6 := by obtain ⟨N, e, h, _⟩ := HR.out; rw [e]; simpa using h
                  clear hN
                  have hsum : ¬ 9223372036854775807 < T.length + R.length := by omega
                  have hsum2 : ¬ 9223372036854775807 < T.length + R.length + X.length := by omega
                  have h23 := hb2.trans (hb3.mono hb2.size)
                  have hown3 := row_kept hown h23
                  have hb03 := hb.trans (h23.mono hb.size)
                  cases hX : X.isEmpty
                  · have hX0 : X ≠ [] := by rintro rfl; cases hX
                    have HX0 := Lib.hid hX0
                    clear hX0
                    go_wp2_with (at_builtin; refine wpList_append_own _ rfl _ _ 23 rfl w.heap.size 9 i0 (.string ⟨#[]⟩) 1 16 Tryd.underlying23 Hi.out Hz.out.1 Hz.out.2.1 Hz.out.2.2 rfl (by decide) _ _ _ rfl (hown3.alloc _) ⟨w3.heap.size, 0, none⟩ 1 1 [sv X] rfl rfl (cell_one_new _ _ _) (by intro u hu; simp at hu; subst hu; rfl) (by unfold maxLen; omega) (by omega) (by have := hb03.size; simp at this ⊢; omega) ?_)
                    intro v' w4 hown' hgrow _
                    have hbl := below_append hb03 (Nat.le_refl _) hown3 hgrow
                    have hj : ∀ s' : ByteArray, bs s' = T ++ R ++ X → JoinInv w.heap.size w (k + 1) v' (.string s') w4 := by
                      intro s' hs'
                      obtain ⟨N, e, h6, h1⟩ := HR.out
                      rw [e] at hs'
                      exact join_word (w := w) (k := k) HT.out hTl hLk hown' hbl h6 HX0.out HXB.out hXl h1 hs'
                    have HJ := Lib.hid hj
                    clear hj hown' hgrow hown hown3 hb2 hb3 h23 hb03
                    go_wp2_with fail
                    go_roundw
                    case rel => exact ⟨k + 1, by omega, by go_num, HJ.out _ (by rw [bs_append, bs_append])⟩
                    case measure => simp [intOf]; omega
                  · have hj : ∀ s' : ByteArray, bs s' = T ++ R → JoinInv w.heap.size w (k + 1) (.slice a7 0 c7) (.string s') w3 := by
                      intro s' hs'
                      obtain ⟨N, e, h6, _⟩ := HR.out
                      rw [e] at hs'
                      exact join_skip (w := w) (k := k) HT.out hTl hLk hown hb hb.size hb2 hb3 h6 hs'
                    have HJ := Lib.hid hj
                    clear hj hown hown3 hb2 hb3 h23 hb03
                    go_wp2_with fail
                    go_roundw
                    case rel => exact ⟨k + 1, by omega, by go_num, HJ.out _ (by rw [bs_append])⟩
                    case measure => simp [intOf]; omega
          · have hTw := HT.out.1
            have hpad : words (T ++ [32, 32]) = Ls := (words_pad T 2).trans hTw
            have HTW := Lib.hid hTw
            have HPAD := Lib.hid hpad
            clear hTw hpad hcase
            have hT4 : T.length ≤ 46 * 40 := by omega
            have hLs40 : Ls.length ≤ 40 := by omega
            have hOL : Own wr w.heap.size (.slice a7 Ls.length c7) (Ls.map sv) := Own.of_row (by rw [List.length_map]; exact hown)
            have HO := Lib.hid hOL
            clear hOL hown
            go_wp2_with fail
            refine (words_str ⟨T.toArray⟩ Ls _ (by rw [sv_size]; omega) HTW.out HLr.out).mono ?_
            rintro e w2 ⟨v2, rfl, hv2, hb2⟩
            go_wp2_with fail
            refine (same_any hv2 (HO.out.below hb2 (Nat.le_refl _))).mono ?_
            rintro e w3 ⟨rfl, hb3⟩
            rw [show (Ls == Ls) = true from by simp]
            have hB3 := hb2.trans (hb3.mono hb2.size)
            clear hb2 hb3 hv2
            have hsum : ¬ 9223372036854775807 < T.length + 2 := by omega
            go_wp2_with fail
            refine (words_str _ Ls _ (by rw [← bs_length, bs_append, bs_sv]; simp; omega) (by rw [bs_append, bs_sv]; exact HPAD.out) (HLr.out.below hB3)).mono ?_
            rintro e w4 ⟨v4, rfl, hv4, hb4⟩
            have hB4 := hB3.trans (hb4.mono hB3.size)
            go_wp2_with fail
            refine (same_any hv4 (HO.out.below hB4 (Nat.le_refl _))).mono ?_
            rintro e w5 ⟨rfl, hb5⟩
            rw [show (Ls == Ls) = true from by simp]
            have hB5 := hB4.trans (hb5.mono hB4.size)
            clear hb4 hb5 hv4 hB3 hB4
            go_wp2_with fail
            refine (words_any s _ (by omega) (HLr.out.below hB5)).mono ?_
            rintro e w6 ⟨v6, rfl, hv6, hb6⟩
            have hB6 := hb.trans (hB5.mono hb.size) |>.trans (hb6.mono (Nat.le_trans hb.size hB5.size))
            have HL6 := Lib.hid (HL.out.below hB6)
            have hne := words_ne (bs s)
            have hnb := words_nb (bs s)
            have hwl := words_length (bs s)
            have hjl := join_len (bs s)
            have hjw := words_join (words (bs s)) hne hnb
            rw [bs_length] at hwl hjl
            generalize words (bs s) = A at *
            obtain ⟨a6, c6, rfl⟩ := hv6.len
            rw [List.length_map] at *
            have HV6 := Lib.hid hv6
            have HNE := Lib.hid hne
            have HNB := Lib.hid hnb
            have HJW := Lib.hid hjw
            have HJL := Lib.hid hjl
            have HB6 := Lib.hid hB6
            clear hv6 hne hnb hjw hjl hB6 hb6 hB5 hb
            go_wp2_with fail
            go_loop [13] (fun i => ∃ j : Nat, j ≤ A.length ∧ i = .int .i64 j) (fun i => A.length - (intOf i).toNat)
            case atStart => exact ⟨0, Nat.zero_le _, rfl⟩
            case round =>
              obtain ⟨j, hj, rfl⟩ := hrel
              by_cases hlt2 : j < A.length
              · obtain ⟨y, hy⟩ : ∃ y, A[j]? = some y := ⟨_, List.getElem?_eq_getElem hlt2⟩
                have hym := List.mem_of_getElem? hy
                obtain ⟨g6, o6, cc, he, _, hg6, hcell, _⟩ := HV6.out.at (k := j) (x := sv y) (by rw [List.getElem?_map, hy]; rfl)
                have hx6 := fun W => idx_str (n := A.length) (c := c6) (slice_inj he).1 hlt2 W
                have hye : y.isEmpty = false := by have := HNE.out y hym; simpa using this
                have HC := Lib.hid (nb_contains (HNB.out y hym) w6)
                clear he hy hym
                go_wp2_with fail
                refine HC.out.mono ?_
                rintro e w7 ⟨rfl, rfl⟩
                go_wp2_with fail
                go_round
                case rel => exact ⟨j + 1, by omega, by go_num⟩
                case measure => simp [intOf]; omega
              · go_wp2_with fail
                refine (join_any [32] HV6.out (by omega) (by have := HJL.out; omega)).mono ?_
                rintro e w7 ⟨rfl, hb7⟩
                go_wp2_with fail
                refine (words_str ⟨(Lib.join A [32]).toArray⟩ A _ (by rw [sv_size]; have := HJL.out; omega) HJW.out (HL6.out.below hb7)).mono ?_
                rintro e w8 ⟨v8, rfl, hv8, hb8⟩
                have hB8 := hb7.trans (hb8.mono hb7.size)
                clear hb7 hb8
                go_wp2_with fail
                refine (same_any hv8 (HV6.out.below hB8 (Nat.le_refl _))).mono ?_
                rintro e w9 ⟨rfl, hb9⟩
                rw [show (A == A) = true from by simp]
                have hB9 := hB8.trans (hb9.mono hB8.size)
                clear hB8 hb9 hv8
                go_wp2_with fail
                refine (lives03 _ (HL6.out.below hB9)).mono ?_
                rintro e w10 ⟨rfl, hb10⟩
                go_wp2_with fail
                go_ret
                exact ⟨rfl, HB6.out.trans ((hB9.trans (hb10.mono hB9.size)).mono HB6.out.size)⟩
end Go.Proofs.YtaokclnandjlpaaDoor
