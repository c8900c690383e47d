/- The law KeysOne returns true at every text and number of blanks. Condition: MaxLen holds a number. -/
import Derived.Test.YtaokclnandjlpaaDoorKeysLives
import Derived.Lib.Repeat
namespace Go.Proofs.YtaokclnandjlpaaDoor
open Go.RowKit

/-! ### Plain -/
theorem repeat_blanks : ∀ k : Nat, Lib.repeatL [32] k = List.replicate k 32
  | 0 => rfl
  | k + 1 => by rw [Lib.repeatL, repeat_blanks k, List.replicate_succ]; rfl
theorem words_lead : ∀ (k : Nat) (l : List UInt8), words (List.replicate k 32 ++ l) = words l
  | 0, l => rfl
  | k + 1, l => by
    rw [List.replicate_succ, List.cons_append]
    have := words_cut [] (List.replicate k 32 ++ l) (by simp)
    simp only [List.nil_append, if_true] at this
    rw [this, words_lead k l]
theorem words_blanks (k : Nat) : words (List.replicate k 32) = [] := by
  have := words_lead k []
  simpa [words_nil] using this
theorem words_gap {s : List UInt8} (h0 : s ≠ []) (h : ∀ c ∈ s, c ≠ 32) (a b : Nat) : words (List.replicate a 32 ++ s ++ List.replicate b 32) = [s] := by
  rw [List.append_assoc, words_lead]
  cases b with
  | zero => rw [List.replicate_zero, List.append_nil, words_end s h, if_neg h0]
  | succ b => rw [List.replicate_succ, words_cut s _ h, if_neg h0, words_blanks]; rfl
theorem wordsGo_ne : ∀ (l cur : List UInt8), ∀ w ∈ wordsGo l cur, w ≠ []
  | [], cur => by
    intro w hw
    simp only [wordsGo] at hw
    split at hw
    · simp at hw
    · simp at hw; subst hw; assumption
  | c :: l, cur => by
    intro w hw
    simp only [wordsGo] at hw
    split at hw
    · split at hw
      · exact wordsGo_ne l [] w hw
      · rcases List.mem_cons.1 hw with rfl | hw
        · assumption
        · exact wordsGo_ne l [] w hw
    · exact wordsGo_ne l _ w hw
theorem words_ne (l : List UInt8) : ∀ w ∈ words l, w ≠ [] := wordsGo_ne l []
theorem ok_blank {s : List UInt8} (h : okB s = true) : s ≠ [] ∧ ∀ c ∈ s, c ≠ 32 := by
  unfold okB look at h
  split at h
  · simp at h
  · rename_i h0
    split at h
    · simp at h
    · split at h
      · simp at h
      · rename_i hf
        refine ⟨by rintro rfl; simp at h0, fun c hc h32 => ?_⟩
        have := List.findIdx?_eq_none_iff.1 hf c hc
        subst h32
        exact absurd this (by decide)
theorem not_ok_look {s : List UInt8} (h : okB s = false) (h0 : s ≠ []) : ((((look s).1 : Nat) : Int) != 1) = true ∧ ((((look s).1 : Nat) : Int) != 0) = true := by
  have h1 : (look s).1 ≠ 0 := by simpa [okB] using h
  have h2 : (look s).1 ≠ 1 := by
    have : s.length ≠ 0 := by simpa using h0
    unfold look; rw [if_neg this]
    split
    · simp
    · split <;> simp
  exact ⟨by rw [bne_iff_ne]; omega, by rw [bne_iff_ne]; omega⟩

theorem indexByte_mem {c : UInt8} : ∀ {l : List UInt8}, c ∈ l → 0 ≤ Lib.indexByte l c := by
  intro l h
  induction l with
  | nil => simp at h
  | cons b l ih =>
    rw [Lib.indexByte]
    by_cases hb : b = c
    · rw [if_pos (by simp [hb])]; omega
    · have h1 := ih (by rcases List.mem_cons.1 h with h | h; exact absurd h.symm hb; exact h)
      rw [if_neg (by simp [hb]), if_neg (by simp; omega)]; omega

set_option maxRecDepth 100000 in
set_option maxHeartbeats 4000000 in
theorem keysOne_walk (s : ByteArray) (n : Int) (w : World) (hs : s.size ≤ maxLen) (hn0 : 0 ≤ n) (_hn1 : n ≤ 255) (hL : HasLen w) :
    Calls Tryd.prog 8 #[.string s, .int .u8 n] w fun e w' => e = .returned (.bool true) ∧ Below w.heap.size w w' := by
  have HL := Lib.hid hL
  clear hL
  unfold maxLen at hs
  by_cases h2000 : 2000 < s.size
  · go_enter Tryd.func8, Tryd.ntmps8
    go_wp2_with fail
    refine (lives03 _ HL.out).mono ?_
    rintro e w1 ⟨rfl, hb⟩
    go_wp2_with fail
    go_ret
    exact ⟨rfl, hb⟩
  · obtain ⟨c, hc⟩ : ∃ c : Nat, n % 9 = (c : Int) := ⟨(n % 9).toNat, by omega⟩
    have hc9 : c < 9 := by omega
    have HC := Lib.hid hc
    clear hc
    go_enter Tryd.func8, Tryd.ntmps8
    go_wp2_with fail
    rw [HC.out]
    refine (Tryd.strings_Repeat ⟨#[32]⟩ c _ (by omega) (by show 1 * c ≤ _; omega)).mono ?_
    rintro e w1 ⟨rfl, hb1⟩
    rw [show Lib.repeatL (⟨#[32]⟩ : ByteArray).data.toList c = List.replicate c 32 from repeat_blanks c]
    have HL1 := Lib.hid (HL.out.below hb1)
    have hsz1 := hb1.size
    obtain ⟨g, hg⟩ : ∃ g : List UInt8, g = List.replicate c 32 := ⟨_, rfl⟩
    rw [← hg]
    have hgl : g.length < 9 := by rw [hg]; simpa using hc9
    have HG := Lib.hid hg
    clear hg
    go_wp2_with fail
    have hsum : ((⟨g.toArray⟩ : ByteArray) ++ s ++ ⟨g.toArray⟩).size ≤ 1048576 := by
      have hsl := bs_length s
      rw [← bs_length, bs_append, bs_append, bs_sv]
      simp only [List.length_append]
      omega
    refine (words_any _ _ hsum HL1.out).mono ?_
    rintro e w2 ⟨v, rfl, hv, hb2⟩
    rw [bs_append, bs_append, bs_sv, HG.out] at hv
    have hB2 : Below w.heap.size w w2 := hb1.trans (hb2.mono hsz1)
    have HL2 := Lib.hid (HL.out.below hB2)
    have hsz2 := hB2.size
    clear hb2 hsum HL1 hb1
    have HV := Lib.hid hv
    clear hv
    cases hok : okB (bs s) with
    | true =>
      obtain ⟨h0, hne⟩ := ok_blank hok
      have hv := HV.out
      rw [words_gap h0 hne] at hv
      obtain ⟨p, o, cp, rfl, _, _, hcell, _⟩ := hv.at (k := 0) (x := sv (bs s)) rfl
      rw [sv_bs, Nat.add_zero] at hcell
      clear hv hne h0
      go_wp2_with fail
      refine (ok_any s _ (by unfold maxLen; omega)).mono ?_
      rintro e w3 ⟨rfl, rfl⟩
      rw [hok]
      go_wp2_with fail
      refine (lives03 _ HL2.out).mono ?_
      rintro e w3 ⟨rfl, hb3⟩
      go_wp2_with fail
      go_ret
      exact ⟨rfl, hB2.trans (hb3.mono hsz2)⟩
    | false =>
      by_cases hw : words (List.replicate c 32 ++ bs s ++ List.replicate c 32) = [bs s]
      · have h0 : bs s ≠ [] := words_ne _ (bs s) (by rw [hw]; simp)
        have hv := HV.out
        rw [hw] at hv
        obtain ⟨p, o, cp, rfl, _, _, hcell, _⟩ := hv.at (k := 0) (x := sv (bs s)) rfl
        rw [sv_bs, Nat.add_zero] at hcell
        obtain ⟨hl1, hl0⟩ := not_ok_look hok h0
        have hlk := look_any s w2 (by unfold maxLen; omega)
        generalize (look (bs s)).1 = f at hl1 hl0 hlk
        generalize (look (bs s)).2 = q at hlk
        have HLK := Lib.hid hlk
        clear hv h0 hw hlk
        go_wp2_with fail
        refine (ok_any s _ (by unfold maxLen; omega)).mono ?_
        rintro e w3 ⟨rfl, rfl⟩
        rw [hok]
        go_wp2_with fail
        refine HLK.out.mono ?_
        rintro e w3 ⟨rfl, rfl⟩
        go_wp2_with fail
        refine (lives03 _ HL2.out).mono ?_
        rintro e w3 ⟨rfl, hb3⟩
        go_wp2_with fail
        go_ret
        exact ⟨rfl, hB2.trans (hb3.mono hsz2)⟩
      · have hblank : bs s = [] ∨ (32 : UInt8) ∈ bs s := by
          by_cases h0 : bs s = []
          · exact .inl h0
          · right
            by_cases h32 : (32 : UInt8) ∈ bs s
            · exact h32
            · exact absurd (words_gap h0 (fun c hc h => h32 (h ▸ hc)) c c) hw
        have hv := HV.out
        generalize words (List.replicate c 32 ++ bs s ++ List.replicate c 32) = L at hv hw
        clear HV
        cases he : s.toList.isEmpty with
        | true =>
          have hbl := Lib.hid hblank
          clear hblank
          by_cases h1 : L.length = 1
          · obtain ⟨x, rfl⟩ : ∃ x, L = [x] := by
              match L, h1 with
              | [x], _ => exact ⟨x, rfl⟩
            obtain ⟨p, o, cp, rfl, _, _, hcell, _⟩ := hv.at (k := 0) (x := sv x) rfl
            rw [Nat.add_zero] at hcell
            have hx : (x == s.toList) = false := by rw [beq_eq_false_iff_ne, ByteArray.toList_eq]; exact fun h => hw (by rw [h])
            clear hv hw
            go_wp2_with fail
            refine (ok_any s _ (by unfold maxLen; omega)).mono ?_
            rintro e w3 ⟨rfl, rfl⟩
            rw [hok]
            go_wp2_with fail
            refine (lives03 _ HL2.out).mono ?_
            rintro e w3 ⟨rfl, hb3⟩
            go_wp2_with fail
            go_ret
            exact ⟨rfl, hB2.trans (hb3.mono hsz2)⟩
          · obtain ⟨p, cp, rfl⟩ := hv.len
            have hn : (((L.map sv).length : Int) == 1) = false := by rw [beq_eq_false_iff_ne, List.length_map]; omega
            have hn' : ((L.map sv).length == 1) = false := by rw [beq_eq_false_iff_ne, List.length_map]; omega
            generalize (L.map sv).length = m at hn hn'
            clear hv hw h1
            go_wp2_with fail
            refine (ok_any s _ (by unfold maxLen; omega)).mono ?_
            rintro e w3 ⟨rfl, rfl⟩
            rw [hok]
            go_wp2_with fail
            refine (lives03 _ HL2.out).mono ?_
            rintro e w3 ⟨rfl, hb3⟩
            go_wp2_with fail
            go_ret
            exact ⟨rfl, hB2.trans (hb3.mono hsz2)⟩
        | false =>
          have h32 : (32 : UInt8) ∈ bs s := hblank.resolve_left (bs_some he)
          have hct : decide (0 ≤ Lib.indexByte s.data.toList 32) = true := by simpa using indexByte_mem h32
          have HCT := Lib.hid hct
          clear hblank h32 hct
          by_cases h1 : L.length = 1
          · obtain ⟨x, rfl⟩ : ∃ x, L = [x] := by
              match L, h1 with
              | [x], _ => exact ⟨x, rfl⟩
            obtain ⟨p, o, cp, rfl, _, _, hcell, _⟩ := hv.at (k := 0) (x := sv x) rfl
            rw [Nat.add_zero] at hcell
            have hx : (x == s.toList) = false := by rw [beq_eq_false_iff_ne, ByteArray.toList_eq]; exact fun h => hw (by rw [h])
            clear hv hw
            go_wp2_with fail
            refine (ok_any s _ (by unfold maxLen; omega)).mono ?_
            rintro e w3 ⟨rfl, rfl⟩
            rw [hok]
            go_wp2_with fail
            refine (Tryd.strings_Contains_one s 32 _).mono ?_
            rintro e w3 ⟨rfl, hw3⟩
            rw [HCT.out, hw3]
            go_wp2_with fail
            refine (lives03 _ HL2.out).mono ?_
            rintro e w4 ⟨rfl, hb3⟩
            go_wp2_with fail
            go_ret
            exact ⟨rfl, hB2.trans (hb3.mono hsz2)⟩
          · obtain ⟨p, cp, rfl⟩ := hv.len
            have hn : (((L.map sv).length : Int) == 1) = false := by rw [beq_eq_false_iff_ne, List.length_map]; omega
            have hn' : ((L.map sv).length == 1) = false := by rw [beq_eq_false_iff_ne, List.length_map]; omega
            generalize (L.map sv).length = m at hn hn'
            clear hv hw h1
            go_wp2_with fail
            refine (ok_any s _ (by unfold maxLen; omega)).mono ?_
            rintro e w3 ⟨rfl, rfl⟩
            rw [hok]
            go_wp2_with fail
            refine (Tryd.strings_Contains_one s 32 _).mono ?_
            rintro e w3 ⟨rfl, hw3⟩
            rw [HCT.out, hw3]
            go_wp2_with fail
            refine (lives03 _ HL2.out).mono ?_
            rintro e w4 ⟨rfl, hb3⟩
            go_wp2_with fail
            go_ret
            exact ⟨rfl, hB2.trans (hb3.mono hsz2)⟩
end Go.Proofs.YtaokclnandjlpaaDoor
