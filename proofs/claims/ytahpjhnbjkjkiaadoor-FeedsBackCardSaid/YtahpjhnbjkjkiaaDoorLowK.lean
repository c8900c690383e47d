/- Plain: as many bytes 10 as data may have, and two more, bring a feed back, unless something was too large. No program in sight. Plain: commands that are written one behind the other come back in their order. No program in sight. Plain: FeedsBack's and FeedsMend's texts. No program in sight. -/
import Derived.Test.YtahpjhnbjkjkiaaDoorLowB
import Derived.Test.YtahpjhnbjkjkiaaDoorLowF
namespace Go.Proofs.YtahpjhnbjkjkiaaDoor

/-- What holds of a feed that told no TdLarge: it does not swallow by number; its command's data is no more than may be. -/
def CalmF (st : FSt) : Prop := st.way ≤ 4 ∧ ((st.way = 1 ∨ st.way = 2 ∨ st.way = 3) → 0 ≤ st.cmd.bytes ∧ st.cmd.bytes ≤ 1024) ∧ (st.way = 1 → (st.held.length : Int) < st.cmd.bytes) ∧ ((st.way = 4) → st.held = [])
theorem told_small {s : List UInt8} (h : (parseL s).2 = 0) : (parseL s).1.bytes ≤ 1024 := by
  by_cases hv : (parseL s).1.verb = 0
  · exact absurd h (told_none hv).2
  · have hB := (line_back (s := s) (c := (parseL s).1) (t := (parseL s).2) rfl hv).told
    rw [h] at hB
    by_cases hb : 1024 < (parseL s).1.bytes
    · rw [if_pos hb] at hB; cases hB
    · omega
theorem calm_new : CalmF fNew := ⟨by decide, by simp [fNew], by simp [fNew], by simp [fNew]⟩
theorem calm_begin0 (st : FSt) : CalmF (beginF st 0) := ⟨by show 0 ≤ 4; decide, (by rintro (h | h | h) <;> cases h), (by intro h; cases h), by intro h; cases h⟩
theorem calm_begin4 (st : FSt) : CalmF (beginF st 4) := ⟨by show 4 ≤ 4; decide, (by rintro (h | h | h) <;> cases h), (by intro h; cases h), fun _ => rfl⟩
theorem calm_line {st : FSt} {s : List UInt8} (h : (parseL s).2 ≠ 5) : CalmF (lineF st s).1 := by
  unfold lineF
  simp only
  rw [if_neg h]
  by_cases h0 : (parseL s).2 = 0
  · rw [if_pos h0]
    have hsm := told_small h0
    by_cases hb : 0 ≤ (parseL s).1.bytes
    · rw [if_pos hb]
      unfold fullF
      simp only
      split
      · exact ⟨by show 2 ≤ 4; decide, fun _ => ⟨hb, hsm⟩, fun h => (by cases h), fun h => (by cases h)⟩
      · rename_i hn
        exact ⟨by show 1 ≤ 4; decide, fun _ => ⟨hb, hsm⟩, fun _ => by show ((beginF st 1).held.length : Int) < (parseL s).1.bytes; omega, fun h => (by cases h)⟩
    · rw [if_neg hb]; exact calm_begin0 st
  · rw [if_neg h0]; exact calm_begin0 st
theorem calm_step {st : FSt} {c : UInt8} (h : CalmF st) (hn : ∀ e ∈ (stepF st c).2, e.told ≠ 5) : CalmF (stepF st c).1 := by
  obtain ⟨h1, h2, h3, h4⟩ := h
  unfold stepF at hn ⊢
  by_cases w0 : st.way = 0
  · rw [if_pos w0] at hn ⊢
    unfold gatherF at hn ⊢
    by_cases hc : c = 10
    · rw [if_pos hc] at hn ⊢
      refine calm_line fun h5 => ?_
      unfold lineF at hn
      simp only at hn
      rw [if_pos h5] at hn
      exact hn (toldE 5) (by simp) rfl
    · rw [if_neg hc] at hn ⊢
      split
      · exact calm_begin4 st
      · exact ⟨h1, h2, fun h => absurd (w0.symm.trans h) (by decide), fun h => absurd (w0.symm.trans h) (by decide)⟩
  · rw [if_neg w0]
    by_cases w1 : st.way = 1
    · rw [if_pos w1]
      unfold fullF
      simp only
      split
      · exact ⟨by show 2 ≤ 4; decide, fun _ => h2 (.inl w1), fun h => (by cases h), fun h => (by cases h)⟩
      · rename_i hx
        exact ⟨h1, fun _ => h2 (.inl w1), fun _ => by show ((st.held ++ [c]).length : Int) < st.cmd.bytes; omega, fun h => absurd (w1.symm.trans h) (by decide)⟩
    · rw [if_neg w1]
      by_cases w2 : st.way = 2
      · rw [if_pos w2]
        split
        · exact ⟨by show 3 ≤ 4; decide, fun _ => h2 (.inr (.inl w2)), fun h => (by cases h), fun h => (by cases h)⟩
        · unfold chunkF; simp only; split
          · exact calm_begin0 st
          · exact calm_begin4 st
      · rw [if_neg w2]
        by_cases w3 : st.way = 3
        · rw [if_pos w3]
          split
          · exact calm_begin0 st
          · unfold chunkF; simp only; split
            · exact calm_begin0 st
            · exact calm_begin4 st
        · rw [if_neg w3, if_pos (by omega)]
          simp only
          split
          · exact calm_begin0 st
          · exact ⟨h1, h2, h3, h4⟩
theorem calm_run : ∀ (b : List UInt8) (st : FSt), CalmF st → (∀ e ∈ (runF st b).2, e.told ≠ 5) → CalmF (runF st b).1
  | [], _, h, _ => h
  | c :: b, st, h, hn => by
    rw [runF_cons] at hn ⊢
    exact calm_run b _ (calm_step h fun e he => hn e (by simp [he])) fun e he => hn e (by simp [he])
/-- At a line's begin. -/
def AtBegin (st : FSt) : Prop := st.way = 0 ∧ st.held = []
theorem begin10 {st : FSt} (h : AtBegin st) : AtBegin (stepF st 10).1 := by
  rw [step10 h.1, h.2]
  unfold lineF trimCr
  have hp : parseL (if ([] : List UInt8).getLast? = some 13 then ([] : List UInt8).dropLast else []) = (noCmd, 1) := rfl
  rw [hp]
  exact ⟨rfl, rfl⟩
theorem begin_run : ∀ (n : Nat) (st : FSt), AtBegin st → AtBegin (runF st (List.replicate n 10)).1
  | 0, _, h => h
  | n + 1, st, h => by
    rw [List.replicate_succ, runF_cons]
    exact begin_run n _ (begin10 h)
theorem atBegin_begin (st : FSt) : AtBegin (beginF st 0) := ⟨rfl, rfl⟩
theorem mend2 {st : FSt} (h : st.way = 2) (n : Nat) : AtBegin (runF st (List.replicate (n + 1) 10)).1 := by
  rw [List.replicate_succ, runF_cons, step2 h (by decide)]
  exact begin_run n _ (atBegin_begin st)
theorem mend_data : ∀ (n : Nat) (st : FSt), st.way = 1 → (st.held.length : Int) < st.cmd.bytes → st.cmd.bytes - st.held.length < n → AtBegin (runF st (List.replicate n 10)).1
  | 0, _, _, h1, h2 => by omega
  | n + 1, st, hw, h1, h2 => by
    rw [List.replicate_succ, runF_cons]
    have hs : stepF st 10 = (fullF { st with held := st.held ++ [10] }, []) := by
      unfold stepF
      rw [if_neg (by rw [hw]; decide), if_pos hw]
    rw [hs]
    unfold fullF
    simp only [List.length_append, List.length_cons, List.length_nil]
    by_cases hf : st.cmd.bytes ≤ ((st.held.length + 1 : Nat) : Int)
    · rw [if_pos hf]
      obtain ⟨m, rfl⟩ : ∃ m, n = m + 1 := ⟨n - 1, by omega⟩
      exact mend2 rfl m
    · rw [if_neg hf]
      refine mend_data n _ hw ?_ ?_
      · simp only [List.length_append, List.length_cons, List.length_nil]; omega
      · simp only [List.length_append, List.length_cons, List.length_nil]; omega
theorem mend {st : FSt} {n : Nat} (hn : 1025 ≤ n) (h : CalmF st) (h5 : ∀ e ∈ (stepF st 10).2, e.told ≠ 5) : AtBegin (runF st (List.replicate (n + 1) 10)).1 := by
  obtain ⟨h1, h2, h3, h4⟩ := h
  by_cases w1 : st.way = 1
  · have := h2 (.inl w1)
    exact mend_data (n + 1) st w1 (h3 w1) (by have := h3 w1; omega)
  by_cases w2 : st.way = 2
  · exact mend2 w2 n
  rw [List.replicate_succ, runF_cons]
  by_cases w0 : st.way = 0
  · rw [step10 w0] at h5 ⊢
    unfold lineF at h5 ⊢
    simp only at h5 ⊢
    by_cases e5 : (parseL (trimCr st.held)).2 = 5
    · rw [if_pos e5] at h5
      exact absurd rfl (h5 (toldE 5) (by simp))
    · rw [if_neg e5]
      by_cases e0 : (parseL (trimCr st.held)).2 = 0
      · rw [if_pos e0]
        have hsm := told_small e0
        by_cases hb : 0 ≤ (parseL (trimCr st.held)).1.bytes
        · rw [if_pos hb]
          unfold fullF
          simp only
          by_cases hf : (parseL (trimCr st.held)).1.bytes ≤ ((beginF st 1).held.length : Int)
          · rw [if_pos hf]; obtain ⟨m, rfl⟩ : ∃ m, n = m + 1 := ⟨n - 1, by omega⟩
            exact mend2 rfl m
          · rw [if_neg hf]
            refine mend_data n _ rfl ?_ ?_
            · show ((beginF st 1).held.length : Int) < (parseL (trimCr st.held)).1.bytes; omega
            · show (parseL (trimCr st.held)).1.bytes - ((beginF st 1).held.length : Int) < n; omega
        · rw [if_neg hb]; exact begin_run n _ (atBegin_begin st)
      · rw [if_neg e0]; exact begin_run n _ (atBegin_begin st)
  · by_cases w3 : st.way = 3
    · have hs : stepF st 10 = (beginF st 0, [⟨st.cmd, st.held, 0⟩]) := by
        unfold stepF
        rw [if_neg w0, if_neg w1, if_neg w2, if_pos w3, if_pos rfl]
      rw [hs]; exact begin_run n _ (atBegin_begin st)
    · have hs : stepF st 10 = (beginF st 0, []) := by
        unfold stepF
        rw [if_neg w0, if_neg w1, if_neg w2, if_neg w3, if_pos (by omega), if_pos rfl]
      rw [hs]; exact begin_run n _ (atBegin_begin st)
/-- Behind whatever came, and a line's end, without a TdLarge, and 1026 bytes 10: a line's begin. -/
theorem mended (b : List UInt8) {n : Nat} (hn : 1025 ≤ n) (h : ∀ e ∈ (refEv (b ++ [10])).1, e.told ≠ 5) : AtBegin (runF (runF fNew b).1 (List.replicate (n + 1) 10)).1 := by
  have h1 := feed_more b [10]
  rw [h1.1, runF_cons, runF_nil, List.append_nil] at h
  have hb : ∀ e ∈ (runF fNew b).2, e.told ≠ 5 := fun e he => h e (by rw [← (feed_all b).1]; simp [he])
  exact mend hn (calm_run b fNew calm_new hb) (fun e he => h e (by simp [he]))
end Go.Proofs.YtahpjhnbjkjkiaaDoor
namespace Go.Proofs.YtahpjhnbjkjkiaaDoor

theorem ok_plain {s : List UInt8} (h : okB s = true) : s.length ≤ 250 ∧ s ≠ [] ∧ ∀ c ∈ s, c ≠ 32 ∧ c ≠ 13 ∧ c ≠ 10 := by
  unfold okB look at h
  split at h
  · simp at h
  · rename_i h0
    split at h
    · simp at h
    · split at h
      · simp at h
      · rename_i hf
        refine ⟨by omega, by rintro rfl; simp at h0, fun c hc => ?_⟩
        have := List.findIdx?_eq_none_iff.1 hf c hc
        refine ⟨?_, ?_, ?_⟩ <;> (rintro rfl; exact absurd this (by decide))
/-- A command as it is written. -/
structure SentD where
  kind : Nat
  key : List UInt8
  data : List UInt8
  flags : Nat
  exp : Int
  quiet : Bool
  cr : Bool
def SentD.verb (x : SentD) : Nat := if x.kind % 4 = 3 then 1 else x.kind % 4 + 3
def sentW (x : SentD) : List (List UInt8) :=
  if x.kind % 4 = 3 then [[103, 101, 116], x.key]
  else [names.getD (x.verb - 1) [], x.key, Lib.decDigits x.flags, Lib.itoa x.exp, Lib.decDigits x.data.length] ++ (if x.quiet then [noreply] else [])
def sentCmd (x : SentD) : Cmd :=
  if x.kind % 4 = 3 then ⟨1, [x.key], 1, x.key, [], 0, 0, 0, 0, -1, false⟩
  else ⟨x.verb, [x.key], x.verb, x.key, [], x.flags, x.exp, 0, 0, (x.data.length : Int), x.quiet⟩
structure SentOk (x : SentD) : Prop where
  key : okB x.key = true
  data : x.data.length ≤ 1024
  flags : x.flags < 4294967296
  exp0 : -2147483648 ≤ x.exp
  exp1 : x.exp ≤ 2147483647

/-- The bytes of a number's text. -/
theorem num_plain {l : List UInt8} (h : ∀ b ∈ l, digitB b = true ∨ b = 45) : ∀ c ∈ l, c ≠ 32 ∧ c ≠ 13 ∧ c ≠ 10 := fun c hc => by
  rcases h c hc with h1 | h1
  · refine ⟨?_, ?_, ?_⟩ <;> (rintro rfl; exact absurd h1 (by decide))
  · subst h1; decide
theorem dec_plain (u : Nat) : Lib.decDigits u ≠ [] ∧ ∀ c ∈ Lib.decDigits u, c ≠ 32 ∧ c ≠ 13 ∧ c ≠ 10 := ⟨dec_nonempty u, num_plain (fun _ hb => .inl (dec_digit hb))⟩
theorem itoa_plain (z : Int) : Lib.itoa z ≠ [] ∧ ∀ c ∈ Lib.itoa z, c ≠ 32 ∧ c ≠ 13 ∧ c ≠ 10 := by
  have h := textF_bytes ⟨0, [], 0, [], [], 0, z, 0, 0, 0, false⟩ 1
  exact ⟨h.1, num_plain h.2⟩
theorem sent_names : ∀ k < 3, names.getD (k + 3 - 1) [] ≠ [] ∧ ∀ c ∈ names.getD (k + 3 - 1) [], c ≠ 32 ∧ c ≠ 13 ∧ c ≠ 10 := by decide
theorem sentW_plain {x : SentD} (h : SentOk x) : ∀ y ∈ sentW x, y ≠ [] ∧ ∀ c ∈ y, c ≠ 32 ∧ c ≠ 13 ∧ c ≠ 10 := by
  have hk := ok_plain h.key
  have hn : names.getD (x.verb - 1) [] ≠ [] ∧ ∀ c ∈ names.getD (x.verb - 1) [], c ≠ 32 ∧ c ≠ 13 ∧ c ≠ 10 := by
    unfold SentD.verb
    split
    · decide
    · exact sent_names (x.kind % 4) (by omega)
  unfold sentW
  split
  · intro y hy
    simp only [List.mem_cons, List.not_mem_nil, or_false] at hy
    rcases hy with rfl | rfl
    · decide
    · exact hk.2
  · intro y hy
    rcases List.mem_append.1 hy with hy | hy
    · simp only [List.mem_cons, List.not_mem_nil, or_false] at hy
      rcases hy with rfl | rfl | rfl | rfl | rfl
      · exact hn
      · exact hk.2
      · exact dec_plain _
      · exact itoa_plain _
      · exact dec_plain _
    · split at hy
      · rw [List.mem_singleton.1 hy]; decide
      · simp at hy
theorem mem_join : ∀ (L : List (List UInt8)) (c : UInt8), c ∈ Lib.join L [32] → c = 32 ∨ ∃ y ∈ L, c ∈ y
  | [], c, h => by simp [Lib.join] at h
  | y :: L, c, h => by
    rw [join_flat] at h
    rcases List.mem_append.1 h with h | h
    · exact .inr ⟨y, by simp, h⟩
    · unfold flatW at h
      obtain ⟨z, hz, hc⟩ := List.mem_flatten.1 h
      obtain ⟨u, hu, rfl⟩ := List.mem_map.1 hz
      rcases List.mem_cons.1 hc with rfl | hc
      · exact .inl rfl
      · exact .inr ⟨u, by simp [hu], hc⟩
def sentLine (x : SentD) : List UInt8 := Lib.join (sentW x) [32]
theorem sentLine_plain {x : SentD} (h : SentOk x) : ∀ c ∈ sentLine x, c ≠ 13 ∧ c ≠ 10 := fun c hc => by
  rcases mem_join _ c hc with rfl | ⟨y, hy, hc⟩
  · decide
  · exact ((sentW_plain h y hy).2 c hc).2
theorem dec_len20 {u : Nat} (h : u < 18446744073709551616) : (Lib.decDigits u).length ≤ 20 := dec_short u h
theorem itoa_len {z : Int} (h0 : -2147483648 ≤ z) (h1 : z ≤ 2147483647) : (Lib.itoa z).length ≤ 21 := by
  unfold Lib.itoa
  split
  · have := dec_len20 (u := z.natAbs) (by omega)
    simp only [List.length_cons]; omega
  · have := dec_len20 (u := z.toNat) (by omega)
    omega
theorem sentLine_len {x : SentD} (h : SentOk x) : (sentLine x).length ≤ 400 := by
  have hk := (ok_plain h.key).1
  have hn := (by decide : ∀ k < 3, (names.getD (k + 3 - 1) []).length ≤ 7)
  unfold sentLine sentW
  split
  · rw [join_flat, flatW_cons, flatW_nil]
    simp only [List.length_append, List.length_cons, List.length_nil]; omega
  · rename_i h3
    have hv : x.verb = x.kind % 4 + 3 := by unfold SentD.verb; rw [if_neg h3]
    have h4 := hn (x.kind % 4) (by omega)
    have h5 := dec_len20 (u := x.flags) (by have := h.flags; omega)
    have h6 := itoa_len h.exp0 h.exp1
    have h7 := dec_len20 (u := x.data.length) (by have := h.data; omega)
    rw [hv, List.cons_append, join_flat, List.cons_append, List.cons_append, List.cons_append, List.cons_append, List.nil_append, flatW_cons, flatW_cons, flatW_cons, flatW_cons]
    have h8 : (flatW (if x.quiet = true then [noreply] else [])).length ≤ 8 := by split <;> decide
    simp only [List.length_append, List.length_cons, List.cons_append]
    omega
theorem sent_words {x : SentD} (h : SentOk x) : words (sentLine x) = sentW x := words_join _ (fun y hy => (sentW_plain h y hy).1) (fun y hy c hc => ((sentW_plain h y hy).2 c hc).1)
theorem signed_itoa {z : Int} (h0 : -2147483648 ≤ z) (h1 : z ≤ 2147483647) : signedN (Lib.itoa z) = some z := by
  unfold Lib.itoa
  split
  · rw [signed_neg (by omega), if_pos (by omega)]
    congr 1; omega
  · rw [signed_dec (by omega), if_pos (by omega)]
    congr 1; omega
theorem sent_verbs : ∀ k < 3, verbOf (names.getD (k + 3 - 1) []) = k + 3 ∧ quietOf (k + 3) = true ∧ leastOf (k + 3) = 4 ∧ mostOf (k + 3) = 4 ∧ keysOf (k + 3) = false ∧ restOf (k + 3) = [0, 1, 2] := by decide
theorem sent_parse {x : SentD} (h : SentOk x) : parseL (sentLine x) = (sentCmd x, 0) := by
  have hw := sent_words h
  have hl := sentLine_len h
  by_cases h3 : x.kind % 4 = 3
  · unfold sentW at hw
    rw [if_pos h3] at hw
    rw [parseL_some (by omega) hw]
    have hv : verbOf [103, 101, 116] = 1 := by decide
    have ht : tailOf 1 [x.key] = [x.key] := by unfold tailOf; rw [show isQuiet 1 [x.key] = false from by unfold isQuiet; rfl]; rfl
    have hq : isQuiet 1 [x.key] = false := by unfold isQuiet; rfl
    rw [hv, ht, hq, if_neg (show ¬ ((1 : Nat) = 0 ∨ [x.key].length < leastOf 1 ∨ mostOf 1 < [x.key].length) from (by decide : ¬ ((1 : Nat) = 0 ∨ (1 : Nat) < 1 ∨ (64 : Nat) < 1)))]
    have hc : sentCmd x = ⟨1, [x.key], 1, x.key, [], 0, 0, 0, 0, -1, false⟩ := by unfold sentCmd; rw [if_pos h3]
    rw [hc]
    have hp := parseW_of (v := 1) (q := false) (l := [x.key]) (c := ⟨1, [x.key], 1, x.key, [], 0, 0, 0, 0, -1, false⟩) (by
      intro k hk
      have : k = x.key := by simpa using List.mem_of_mem_take hk
      rw [this]; exact h.key) rfl
    rw [hp]; rfl
  · have hv : x.verb = x.kind % 4 + 3 := by unfold SentD.verb; rw [if_neg h3]
    obtain ⟨e1, e2, e3, e4, e5, e6⟩ := sent_verbs (x.kind % 4) (by omega)
    rw [← hv] at e1 e2 e3 e4 e5 e6
    unfold sentW at hw
    rw [if_neg h3] at hw
    have hw' : words (sentLine x) = names.getD (x.verb - 1) [] :: ([x.key, Lib.decDigits x.flags, Lib.itoa x.exp, Lib.decDigits x.data.length] ++ (if x.quiet = true then [noreply] else [])) := hw
    rw [parseL_some (by omega) hw', e1]
    have hq : isQuiet x.verb ([x.key, Lib.decDigits x.flags, Lib.itoa x.exp, Lib.decDigits x.data.length] ++ (if x.quiet = true then [noreply] else [])) = x.quiet := by
      unfold isQuiet
      rw [e2, e3]
      cases x.quiet
      · simp
      · simp
    have ht : tailOf x.verb ([x.key, Lib.decDigits x.flags, Lib.itoa x.exp, Lib.decDigits x.data.length] ++ (if x.quiet = true then [noreply] else [])) = [x.key, Lib.decDigits x.flags, Lib.itoa x.exp, Lib.decDigits x.data.length] := by
      unfold tailOf
      rw [hq]
      cases x.quiet
      · simp
      · simp
    rw [ht, hq, e3, e4, if_neg (by rw [hv]; simp)]
    have hm : manyP x.verb 4 = 1 := by unfold manyP; rw [e5, e3]; rfl
    have hc : sentCmd x = ⟨x.verb, [x.key], x.verb, x.key, [], x.flags, x.exp, 0, 0, (x.data.length : Int), x.quiet⟩ := by unfold sentCmd; rw [if_neg h3]
    have hp32 : parse32N (Lib.decDigits x.flags) = some x.flags := by
      unfold parse32N
      rw [parse_dec (by have := h.flags; omega)]
      simp only [h.flags, if_true]
    have hpn : parseN (Lib.decDigits x.data.length) = some x.data.length := parse_dec (by have := h.data; omega)
    have hse := signed_itoa h.exp0 h.exp1
    have hmin : min x.data.length 2147483647 = x.data.length := by have := h.data; omega
    have hle : x.data.length ≤ 2147483647 := by have := h.data; omega
    have hp := parseW_of (v := x.verb) (q := x.quiet) (l := [x.key, Lib.decDigits x.flags, Lib.itoa x.exp, Lib.decDigits x.data.length]) (c := sentCmd x) (by
      intro k hk
      have hk2 : k ∈ ([x.key, Lib.decDigits x.flags, Lib.itoa x.exp, Lib.decDigits x.data.length] : List (List UInt8)).take 1 := by rw [← hm]; exact hk
      have : k = x.key := by simpa using hk2
      rw [this]; exact h.key) (by
      show readAll (freshC x.verb x.quiet (([x.key, Lib.decDigits x.flags, Lib.itoa x.exp, Lib.decDigits x.data.length] : List (List UInt8)).take (manyP x.verb 4))) (restOf x.verb) (([x.key, Lib.decDigits x.flags, Lib.itoa x.exp, Lib.decDigits x.data.length] : List (List UInt8)).drop (manyP x.verb 4)) = _
      rw [hm, e6, hc]
      simp [readAll, readF, freshC, hp32, hse, hpn, hmin, hle])
    rw [hp, hc]
    simp only
    rw [if_neg (by have := h.data; omega)]
/-- Its text. -/
def sentText (x : SentD) : List UInt8 := sentLine x ++ (if x.cr then [13] else []) ++ 10 :: (if x.kind % 4 = 3 then [] else x.data ++ [13, 10])
def sentEv (x : SentD) : Ev := ⟨sentCmd x, if x.kind % 4 = 3 then [] else x.data, 0⟩
theorem trim_line {l : List UInt8} (h : ∀ c ∈ l, c ≠ 13) (b : Bool) : trimCr (l ++ (if b then [13] else [])) = l := by
  unfold trimCr
  cases b
  · simp only [Bool.false_eq_true, if_false, List.append_nil]
    rw [if_neg]
    intro h2
    obtain ⟨ys, hy⟩ := List.getLast?_eq_some_iff.1 h2
    exact h 13 (by rw [hy]; simp) rfl
  · simp
theorem run_line {st : FSt} (h : AtBegin st) {l : List UInt8} (hl : l.length ≤ 400) (hp : ∀ c ∈ l, c ≠ 13 ∧ c ≠ 10) (b : Bool) : runF st (l ++ (if b then [13] else []) ++ [10]) = lineF { st with held := l ++ (if b then [13] else []) } l := by
  have hl2 : (l ++ (if b then [13] else [])).length ≤ 401 := by cases b <;> simp <;> omega
  rw [runF_append, run_gather (l ++ (if b then [13] else [])) st h.1 (by
    intro c hc
    rcases List.mem_append.1 hc with hc | hc
    · exact (hp c hc).2
    · cases b
      · simp at hc
      · simp only [if_true, List.mem_singleton] at hc; subst hc; decide) (by rw [h.2]; simp only [List.length_nil]; omega)]
  rw [h.2, List.nil_append]
  simp only
  have hs : stepF { st with held := l ++ (if b then [13] else []) } 10 = lineF { st with held := l ++ (if b then [13] else []) } (trimCr (l ++ (if b then [13] else []))) := step10 (st := { st with held := l ++ (if b then [13] else []) }) h.1
  rw [run_one, hs, trim_line (fun c hc => (hp c hc).1) b]
  simp
theorem lineF_data (st : FSt) {s : List UInt8} {d : Cmd} (h : parseL s = (d, 0)) (hb : 0 ≤ d.bytes) : lineF st s = (fullF { beginF st 1 with cmd := d }, []) := by
  unfold lineF
  rw [h]
  exact if_pos hb
theorem lineF_plain (st : FSt) {s : List UInt8} {d : Cmd} (h : parseL s = (d, 0)) (hb : ¬ 0 ≤ d.bytes) : lineF st s = (beginF st 0, [⟨d, [], 0⟩]) := by
  unfold lineF
  rw [h]
  exact if_neg hb
theorem lineF_told (st : FSt) {s : List UInt8} {d : Cmd} (h : parseL s = (d, 1)) : lineF st s = (beginF st 0, [toldE 1]) := by
  unfold lineF
  rw [h]; rfl
theorem sent_run {x : SentD} (h : SentOk x) {st : FSt} (hb : AtBegin st) : ∃ st', runF st (sentText x) = (st', [sentEv x]) ∧ AtBegin st' := by
  have hrl := run_line hb (by have := sentLine_len h; omega) (sentLine_plain h) x.cr
  by_cases h3 : x.kind % 4 = 3
  · have hby : ¬ 0 ≤ (sentCmd x).bytes := by unfold sentCmd; rw [if_pos h3]; exact (by decide : ¬ (0 : Int) ≤ -1)
    rw [lineF_plain _ (sent_parse h) hby] at hrl
    refine ⟨_, ?_, atBegin_begin { st with held := sentLine x ++ (if x.cr then [13] else []) }⟩
    unfold sentText sentEv
    rw [if_pos h3, if_pos h3]
    exact hrl
  · have hby : (sentCmd x).bytes = (x.data.length : Int) := by unfold sentCmd; rw [if_neg h3]
    rw [lineF_data _ (sent_parse h) (by rw [hby]; omega)] at hrl
    have ht : sentText x = (sentLine x ++ (if x.cr then [13] else []) ++ [10]) ++ (x.data ++ [13, 10]) := by unfold sentText; rw [if_neg h3]; simp
    rw [ht, runF_append, hrl]
    simp only
    have hd : runF (fullF { beginF { st with held := sentLine x ++ (if x.cr then [13] else []) } 1 with cmd := sentCmd x }) x.data = ({ beginF { st with held := sentLine x ++ (if x.cr then [13] else []) } 2 with cmd := sentCmd x, held := x.data }, []) := by
      unfold fullF
      by_cases h0 : x.data.length = 0
      · have hnil : x.data = [] := List.eq_nil_of_length_eq_zero h0
        rw [if_pos (by show (sentCmd x).bytes ≤ (([] : List UInt8).length : Int); rw [hby, h0]; decide), hnil]; rfl
      · rw [if_neg (by show ¬ (sentCmd x).bytes ≤ (([] : List UInt8).length : Int); rw [hby]; simp only [List.length_nil]; omega)]
        rw [run_data_all x.data _ rfl rfl (by show 0 < (sentCmd x).bytes; rw [hby]; omega) (by show (x.data.length : Int) = (sentCmd x).bytes; rw [hby])]; rfl
    rw [runF_append, hd]
    simp only
    refine ⟨_, ?_, atBegin_begin { beginF { st with held := sentLine x ++ (if x.cr then [13] else []) } 3 with cmd := sentCmd x, held := x.data }⟩
    unfold sentEv
    rw [if_neg h3]
    rfl
/-- A line without sense. -/
def senseless : List UInt8 := [110, 111, 32, 115, 117, 99, 104, 32, 118, 101, 114, 98]
set_option maxRecDepth 100000 in
theorem senseless_parse : parseL senseless = (noCmd, 1) := rfl
theorem senseless_run {st : FSt} (hb : AtBegin st) (b : Bool) : ∃ st', runF st (senseless ++ (if b then [13] else []) ++ [10]) = (st', [toldE 1]) ∧ AtBegin st' := by
  have hrl := run_line hb (l := senseless) (by decide) (by decide) b
  rw [lineF_told _ senseless_parse] at hrl
  exact ⟨_, hrl, atBegin_begin _⟩
/-- All of them. -/
theorem sent_all : ∀ (l : List SentD) (st : FSt), (∀ x ∈ l, SentOk x) → AtBegin st → ∃ st', runF st (l.flatMap sentText) = (st', l.map sentEv) ∧ AtBegin st'
  | [], st, _, hb => ⟨st, rfl, hb⟩
  | x :: l, st, h, hb => by
    obtain ⟨s1, h1, h2⟩ := sent_run (h x (by simp)) hb
    obtain ⟨s2, h3, h4⟩ := sent_all l s1 (fun y hy => h y (by simp [hy])) h2
    refine ⟨s2, ?_, h4⟩
    rw [List.flatMap_cons, runF_append, h1]
    simp only
    rw [h3]; rfl
end Go.Proofs.YtahpjhnbjkjkiaaDoor
namespace Go.Proofs.YtahpjhnbjkjkiaaDoor

/-- Commands one behind the other, a line without sense ahead of one. -/
def backText (bad : Nat) : List SentD → Nat → List UInt8
  | [], _ => []
  | x :: l, i => (if i = bad then senseless ++ [13, 10] else []) ++ sentText x ++ backText bad l (i + 1)
def backEvs (bad : Nat) : List SentD → Nat → List Ev
  | [], _ => []
  | x :: l, i => (if i = bad then [toldE 1] else []) ++ sentEv x :: backEvs bad l (i + 1)
theorem back_run (bad : Nat) : ∀ (l : List SentD) (i : Nat) (st : FSt), (∀ x ∈ l, SentOk x) → AtBegin st → ∃ st', runF st (backText bad l i) = (st', backEvs bad l i) ∧ AtBegin st'
  | [], _, st, _, hb => ⟨st, rfl, hb⟩
  | x :: l, i, st, h, hb => by
    obtain ⟨s0, h0, hb0⟩ : ∃ s0, runF st (if i = bad then senseless ++ [13, 10] else []) = (s0, if i = bad then [toldE 1] else []) ∧ AtBegin s0 := by
      by_cases hi : i = bad
      · rw [if_pos hi, if_pos hi]
        exact senseless_run hb true
      · rw [if_neg hi, if_neg hi]
        exact ⟨st, rfl, hb⟩
    obtain ⟨s1, h1, hb1⟩ := sent_run (h x (by simp)) hb0
    obtain ⟨s2, h2, hb2⟩ := back_run bad l (i + 1) s1 (fun y hy => h y (by simp [hy])) hb1
    refine ⟨s2, ?_, hb2⟩
    unfold backText backEvs
    rw [runF_append, runF_append, h0]
    simp only
    rw [h1]
    simp only
    rw [h2]
    simp
theorem begin_left {st : FSt} (h : AtBegin st) : leftF st = 0 := by
  unfold leftF
  rw [if_neg (by rw [h.1]; decide), h.2]; rfl
theorem begin_new : AtBegin fNew := ⟨rfl, rfl⟩
/-- The events that are looked through: where the bad one is, and how many commands there were ahead. -/
theorem backEvs_get (bad : Nat) : ∀ (l : List SentD) (i k : Nat), (backEvs bad l i)[k]? = if i ≤ bad ∧ bad < i + l.length then (if i + k = bad then some (toldE 1) else if bad < i + k then (l[k - 1]?).map sentEv else (l[k]?).map sentEv) else (l[k]?).map sentEv
  | [], i, k => by
    rw [if_neg (by simp only [List.length_nil]; omega)]
    simp [backEvs]
  | x :: l, i, k => by
    have hlen : (x :: l).length = l.length + 1 := rfl
    unfold backEvs
    by_cases hi : i = bad
    · subst hi
      rw [if_pos rfl, if_pos (show i ≤ i ∧ i < i + (x :: l).length by omega)]
      cases k with
      | zero => simp
      | succ k =>
        rw [if_neg (show ¬ i + (k + 1) = i by omega), if_pos (show i < i + (k + 1) by omega)]
        simp only [List.cons_append, List.nil_append, List.getElem?_cons_succ, Nat.add_sub_cancel]
        cases k with
        | zero => simp
        | succ k =>
          simp only [List.getElem?_cons_succ]
          rw [backEvs_get i l (i + 1) k, if_neg (show ¬ (i + 1 ≤ i ∧ i < i + 1 + l.length) by omega)]
    · rw [if_neg hi, List.nil_append]
      cases k with
      | zero =>
        simp only [List.getElem?_cons_zero, Option.map_some, Nat.add_zero]
        by_cases hr : i ≤ bad ∧ bad < i + (x :: l).length
        · rw [if_pos hr, if_neg hi, if_neg (show ¬ bad < i by omega)]
        · rw [if_neg hr]
      | succ k =>
        simp only [List.getElem?_cons_succ]
        rw [backEvs_get bad l (i + 1) k]
        by_cases hr : i ≤ bad ∧ bad < i + (x :: l).length
        · have hr2 : i + 1 ≤ bad ∧ bad < i + 1 + l.length := by omega
          rw [if_pos hr, if_pos hr2]
          by_cases h1 : i + 1 + k = bad
          · rw [if_pos h1, if_pos (show i + (k + 1) = bad by omega)]
          · rw [if_neg h1, if_neg (show ¬ i + (k + 1) = bad by omega)]
            by_cases h2 : bad < i + 1 + k
            · rw [if_pos h2, if_pos (show bad < i + (k + 1) by omega)]
              obtain ⟨j, rfl⟩ : ∃ j, k = j + 1 := ⟨k - 1, by omega⟩
              simp
            · rw [if_neg h2, if_neg (show ¬ bad < i + (k + 1) by omega)]
        · have hr2 : ¬ (i + 1 ≤ bad ∧ bad < i + 1 + l.length) := by omega
          rw [if_neg hr, if_neg hr2]
theorem backEvs_len (bad : Nat) : ∀ (l : List SentD) (i : Nat), (backEvs bad l i).length = l.length + if i ≤ bad ∧ bad < i + l.length then 1 else 0
  | [], i => by
    rw [if_neg (by simp only [List.length_nil]; omega)]; rfl
  | x :: l, i => by
    have hlen : (x :: l).length = l.length + 1 := rfl
    unfold backEvs
    rw [List.length_append, List.length_cons, backEvs_len bad l (i + 1)]
    by_cases hi : i = bad
    · subst hi
      rw [if_pos rfl, if_pos (show i ≤ i ∧ i < i + (x :: l).length by omega), if_neg (show ¬ (i + 1 ≤ i ∧ i < i + 1 + l.length) by omega), hlen]
      simp only [List.length_cons, List.length_nil]; omega
    · rw [if_neg hi, hlen]
      by_cases hr : i ≤ bad ∧ bad < i + (l.length + 1)
      · rw [if_pos hr, if_pos (show i + 1 ≤ bad ∧ bad < i + 1 + l.length by omega)]
        simp only [List.length_nil]; omega
      · rw [if_neg hr, if_neg (show ¬ (i + 1 ≤ bad ∧ bad < i + 1 + l.length) by omega)]
        simp only [List.length_nil]; omega
/-- A line without sense, and a get: behind a line's begin. -/
def getD29 (key : List UInt8) : SentD := ⟨3, key, [], 0, 0, false, false⟩
theorem getD29_text (key : List UInt8) : sentText (getD29 key) = [103, 101, 116, 32] ++ key ++ [10] := by
  unfold sentText sentLine sentW getD29
  simp [join_flat, flatW]
theorem getD29_ok {key : List UInt8} (h : okB key = true) : SentOk (getD29 key) := ⟨h, by simp [getD29], by simp [getD29], by simp [getD29], by simp [getD29]⟩
theorem mend_tells {st : FSt} (hb : AtBegin st) {key : List UInt8} (h : okB key = true) : (runF st (senseless ++ [10] ++ ([103, 101, 116, 32] ++ key ++ [10]))).2 = [toldE 1, sentEv (getD29 key)] := by
  obtain ⟨s1, h1, hb1⟩ := senseless_run hb false
  obtain ⟨s2, h2, _⟩ := sent_run (getD29_ok h) hb1
  rw [← getD29_text, runF_append]
  have h1' : runF st (senseless ++ [10]) = (s1, [toldE 1]) := by simpa using h1
  rw [h1']
  simp only
  rw [h2]; rfl
end Go.Proofs.YtahpjhnbjkjkiaaDoor
