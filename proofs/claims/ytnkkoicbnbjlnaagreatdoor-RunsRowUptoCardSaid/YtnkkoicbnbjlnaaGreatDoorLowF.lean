/- lines.Line: the line of a command. Conditions: the numbers of their kinds; the line of at most 2^20 bytes; the library variables as they must be. And what goes with it (4 texts). -/
import Derived.Test.YtnkkoicbnbjlnaaGreatDoorLowE
import Derived.Laws.AppendOwnNone
import Derived.Maps.AppendAt
import Derived.Lib.Join
import Derived.Test.YtnkkoicbnbjlnaaGreatDoorLowC
namespace Go.Proofs.YtnkkoicbnbjlnaaGreatDoor
set_option maxRecDepth 100000
set_option maxHeartbeats 8000000
open Go.RowKit Go.ChangeMaps Go.MapKept
def fieldsOf (c : Cmd) : List Nat := if 0 < leastOf c.verb ∨ c.exp ≠ 0 then restOf c.verb else []
def lineW (c : Cmd) : List (List UInt8) := names.getD (c.verb - 1) [] :: c.keys ++ (fieldsOf c).map (textF c) ++ (if c.quiet then [noreply] else [])
def lineS (c : Cmd) : List UInt8 := Lib.join (lineW c) [32]
theorem rowKept {w w' : World} {B : Nat} {e : TypeId} {sz n : Nat} {v : Value} {xs : List Value} (h : w.ownsRow B e sz v n xs) (hb : Below w.heap.size w w') : w'.ownsRow B e sz v n xs := by
 obtain ⟨hl, h2⟩ := h
 refine ⟨hl, h2.imp id ?_⟩
 rintro ⟨g, cap, cur, rfl, hg, hh, hr⟩
 exact ⟨g, cap, cur, rfl, hg, (hb.block g (Array.getElem?_eq_some_iff.1 hh).1).trans hh, hr⟩
def flatW (L : List (List UInt8)) : List UInt8 := (L.map (fun x => 32 :: x)).flatten
theorem flatW_append (L M : List (List UInt8)) : flatW (L ++ M) = flatW L ++ flatW M := by simp [flatW]
theorem join_flat (x : List UInt8) (L : List (List UInt8)) : Lib.join (x :: L) [32] = x ++ flatW L := by
 rw [Lib.join_cons]
 rfl
theorem lineS_is (c : Cmd) (nm : List UInt8) (h : nm = names.getD (c.verb - 1) []) : lineS c = nm ++ flatW c.keys ++ flatW ((fieldsOf c).map (textF c)) ++ flatW (if c.quiet then [noreply] else []) := by
 subst h
 unfold lineS lineW
 rw [List.cons_append, List.cons_append, join_flat, flatW_append, flatW_append]
 simp
theorem flatW_cons (x : List UInt8) (L : List (List UInt8)) : flatW (x :: L) = 32 :: x ++ flatW L := rfl
theorem flat_words : ∀ (l cur : List UInt8), (flatW (wordsGo l cur)).length ≤ cur.length + l.length + 1
 | [], cur => by
  rw [wordsGo]
  split <;> simp [flatW]
 | c :: l, cur => by
  rw [wordsGo]
  split
  ·split
   ·have := flat_words l []
    simp only [List.length_nil, List.length_cons] at *; omega
   ·have := flat_words l []
    rw [flatW_cons]
    simp only [List.length_nil, List.length_cons, List.length_append, List.cons_append] at *; omega
  ·have := flat_words l (cur ++ [c])
   simp only [List.length_append, List.length_cons, List.length_nil] at *; omega
theorem words_full : ∀ (l cur : List UInt8), ∀ x ∈ wordsGo l cur, x ≠ []
 | [], cur => by
  rw [wordsGo]
  split
  ·simp
  ·intro x hx; simp only [List.mem_singleton] at hx; subst hx; assumption
 | c :: l, cur => by
  rw [wordsGo]
  split
  ·split
   ·exact words_full l []
   ·intro x hx
    rcases List.mem_cons.1 hx with rfl | hx
    ·assumption
    ·exact words_full l [] x hx
  ·exact words_full l _
theorem dec_len : ∀ (k u : Nat), 0 < k → u < 10 ^ k → (Lib.decDigits u).length ≤ k
 | 0, _, h, _ => by omega
 | k + 1, u, _, hu => by
  by_cases h : u < 10
  ·rw [dec_small h]; simp
  ·have hk : 0 < k := by
    rcases Nat.eq_zero_or_pos k with rfl | h1
    ·simp at hu; omega
    ·exact h1
   rw [dec_big h, List.length_append]
   have := dec_len k (u / 10) hk (by rw [Nat.pow_succ] at hu; omega)
   simp only [List.length_cons, List.length_nil]; omega
theorem parse_len {l : List UInt8} {u : Nat} (h : parseN l = some u) : (Lib.decDigits u).length ≤ l.length := by
 unfold parseN at h
 split at h
 ·rename_i h1
  obtain ⟨hn, _⟩ := h1
  have hu : dval 0 l = u := by simpa using h
  unfold numB at hn
  simp only [Bool.and_eq_true, Bool.not_eq_true', decide_eq_true_eq] at hn
  refine dec_len _ _ ?_ (by rw [← hu]; exact dval_lt l hn.1.1)
  cases l with
  | nil => simp at hn
  | cons => simp
 ·cases h
theorem parse_back {l : List UInt8} {u : Nat} (h : parseN l = some u) : parseN (Lib.decDigits u) = some u := parse_dec (parse_lt h)
theorem signed_back {l : List UInt8} {z : Int} (h : signedN l = some z) : signedN (Lib.itoa z) = some z ∧ (Lib.itoa z).length ≤ l.length := by
 by_cases hl : ∃ r, l = 45 :: r
 ·obtain ⟨r, rfl⟩ := hl
  rcases hp : parseN r with _ | u
  ·simp [signedN, hp] at h
  ·have hlt := parse_lt hp
   have hlen := parse_len hp
   by_cases hu : u ≤ 9223372036854775808
   ·have hz : z = -(u : Int) := by simp [signedN, hp, hu] at h; omega
    subst hz
    by_cases h0 : u = 0
    ·subst h0
     have : Lib.itoa (-((0 : Nat) : Int)) = [48] := by unfold Lib.itoa; rw [if_neg (by omega)]; exact dec_zero
     rw [this]
     exact ⟨by decide, by simp⟩
    ·have : Lib.itoa (-(u : Int)) = 45 :: Lib.decDigits u := by unfold Lib.itoa; rw [if_pos (by omega), show (-(u : Int)).natAbs = u from by omega]
     rw [this]
     refine ⟨?_, by simp; omega⟩
     rw [signed_neg hlt, if_pos hu]
   ·simp [signedN, hp, hu] at h
 ·have hl' : ∀ r, l ≠ 45 :: r := fun r hr => hl ⟨r, hr⟩
  rw [signed_plain hl'] at h
  rcases hp : parseN l with _ | u
  ·rw [hp] at h; cases h
  ·rw [hp] at h
   have hlt := parse_lt hp
   have hlen := parse_len hp
   by_cases hu : u < 9223372036854775808
   ·have hz : z = (u : Int) := by simp [hu] at h; omega
    subst hz
    have : Lib.itoa (u : Int) = Lib.decDigits u := by unfold Lib.itoa; rw [if_neg (by omega)]; rfl
    rw [this]
    refine ⟨?_, hlen⟩
    rw [signed_dec hlt, if_pos hu]
   ·simp [hu] at h
theorem p32_back {l : List UInt8} {u : Nat} (h : parse32N l = some u) : parse32N (Lib.decDigits u) = some u ∧ (Lib.decDigits u).length ≤ l.length := by
 unfold parse32N at h
 rcases hp : parseN l with _ | x
 ·rw [hp] at h; cases h
 ·rw [hp] at h
  by_cases hx : x < 4294967296
  ·simp only [hx, if_true, Option.some.injEq] at h
   subst h
   refine ⟨?_, parse_len hp⟩
   unfold parse32N
   rw [parse_back hp]; simp only [hx, if_true]
  ·simp [hx] at h
def headC (c : Cmd) : Nat × List (List UInt8) × Nat × List UInt8 × List UInt8 × Bool := (c.verb, c.keys, c.cverb, c.key, c.value, c.quiet)
theorem readF_head (c : Cmd) (f : Nat) (w : List UInt8) : headC (readF c f w).1 = headC c := by
 unfold readF headC
 repeat' split
 all_goals rfl
theorem readF_text (c : Cmd) (f g : Nat) (w : List UInt8) (hf : f < 5) (hg : g < 5) (h : g ≠ f) : textF (readF c f w).1 g = textF c g := by
 have h1 : f = 0 ∨ f = 1 ∨ f = 2 ∨ f = 3 ∨ f = 4 := by omega
 have h2 : g = 0 ∨ g = 1 ∨ g = 2 ∨ g = 3 ∨ g = 4 := by omega
 rcases h1 with rfl | rfl | rfl | rfl | rfl <;> rcases h2 with rfl | rfl | rfl | rfl | rfl <;> first | exact absurd rfl h | rfl
theorem itoa_nat (n : Nat) : Lib.itoa (n : Int) = Lib.decDigits n := by unfold Lib.itoa; rw [if_neg (by omega)]; rfl
theorem readF_back {c : Cmd} {f : Nat} {w : List UInt8} (hf : f < 5) (h : (readF c f w).2 = true) :
  readF c f (textF (readF c f w).1 f) = ((readF c f w).1, true) ∧ (textF (readF c f w).1 f).length ≤ w.length := by
 have h1 : f = 0 ∨ f = 1 ∨ f = 2 ∨ f = 3 ∨ f = 4 := by omega
 rcases h1 with rfl | rfl | rfl | rfl | rfl
 ·obtain ⟨u, hu⟩ := Option.isSome_iff_exists.1 (show (parse32N w).isSome = true from h)
  obtain ⟨h2, h3⟩ := p32_back hu
  simp [readF, textF, hu, h2, h3]
 ·obtain ⟨u, hu⟩ := Option.isSome_iff_exists.1 (show (signedN w).isSome = true from h)
  obtain ⟨h2, h3⟩ := signed_back hu
  simp [readF, textF, hu, h2, h3]
 ·rcases hu : parseN w with _ | u
  ·simp [readF, hu] at h
  ·have hle : u ≤ 2147483647 := by simpa [readF, hu] using h
   have h2 := parse_back hu
   have h3 := parse_len hu
   have hm : min u 2147483647 = u := by omega
   simp [readF, textF, hu, hm, itoa_nat, h2, h3, hle]
 ·obtain ⟨u, hu⟩ := Option.isSome_iff_exists.1 (show (parseN w).isSome = true from h)
  have h2 := parse_back hu
  have h3 := parse_len hu
  simp [readF, textF, hu, h2, h3]
 ·obtain ⟨u, hu⟩ := Option.isSome_iff_exists.1 (show (parseN w).isSome = true from h)
  have h2 := parse_back hu
  have h3 := parse_len hu
  simp [readF, textF, hu, h2, h3]
theorem readAll_back : ∀ (fs : List Nat) (ws : List (List UInt8)) (c0 c : Cmd), fs.Nodup → (∀ f ∈ fs, f < 5) → readAll c0 fs ws = (c, 0) →
  ws.length ≤ fs.length ∧ readAll c0 fs ((fs.take ws.length).map (textF c)) = (c, 0) ∧ (flatW ((fs.take ws.length).map (textF c))).length ≤ (flatW ws).length ∧ (∀ f < 5, f ∉ fs.take ws.length → textF c f = textF c0 f) ∧ headC c = headC c0
 | fs, [], c0, c, _, _, h => by
  have : c0 = c := by cases fs <;> (rw [readAll] at h; exact (Prod.mk.inj h).1)
  subst this
  refine ⟨by simp, ?_, by simp [flatW], fun _ _ _ => rfl, rfl⟩
  cases fs <;> simp [readAll]
 | [], _ :: _, c0, c, _, _, h => by
  rw [readAll] at h; cases (Prod.mk.inj h).2
 | f :: fs, w :: ws, c0, c, hnd, hlt, h => by
  rw [readAll] at h
  have hf5 := hlt f (by simp)
  by_cases hok : (readF c0 f w).2 = true
  ·rw [if_pos hok] at h
   obtain ⟨hnf, hnd'⟩ := List.nodup_cons.1 hnd
   obtain ⟨h1, h2, h3, h4, h5⟩ := readAll_back fs ws _ c hnd' (fun g hg => hlt g (by simp [hg])) h
   obtain ⟨h6, h7⟩ := readF_back hf5 hok
   have hfc : textF c f = textF (readF c0 f w).1 f := h4 f hf5 (fun hm => hnf (List.mem_of_mem_take hm))
   refine ⟨by simp; omega, ?_, ?_, ?_, h5.trans (readF_head _ _ _)⟩
   ·rw [List.length_cons, List.take_succ_cons, List.map_cons, readAll, hfc, h6]
    simp only [if_true]
    exact h2
   ·rw [List.length_cons, List.take_succ_cons, List.map_cons, flatW_cons, flatW_cons, hfc]
    simp only [List.cons_append, List.length_cons, List.length_append]
    omega
   ·intro g hg hgn
    rw [List.length_cons, List.take_succ_cons] at hgn
    have hgf : g ≠ f := fun he => hgn (by simp [he])
    rw [h4 g hg (fun hm => hgn (by simp [hm])), readF_text c0 f g w hf5 hg hgf]
  ·rw [if_neg hok] at h
   split at h <;> cases (Prod.mk.inj h).2
theorem textF_bytes (c : Cmd) (f : Nat) : textF c f ≠ [] ∧ ∀ b ∈ textF c f, digitB b = true ∨ b = 45 := by
 have hd : ∀ u : Nat, Lib.decDigits u ≠ [] ∧ ∀ b ∈ Lib.decDigits u, digitB b = true ∨ b = 45 := fun u => ⟨dec_nonempty u, fun b hb => .inl (dec_digit hb)⟩
 have hi : ∀ z : Int, Lib.itoa z ≠ [] ∧ ∀ b ∈ Lib.itoa z, digitB b = true ∨ b = 45 := fun z => by
  unfold Lib.itoa
  split
  ·refine ⟨by simp, fun b hb => ?_⟩
   rcases List.mem_cons.1 hb with rfl | hb
   ·exact .inr rfl
   ·exact .inl (dec_digit hb)
  ·exact hd _
 unfold textF
 repeat' split
 ·exact hd _
 ·exact hi _
 ·exact hi _
 ·exact hd _
 ·exact hd _
theorem textF_nb (c : Cmd) (f : Nat) : ∀ b ∈ textF c f, b ≠ 32 := fun b hb he => by
 subst he
 rcases (textF_bytes c f).2 _ hb with h | h
 ·exact absurd h (by decide)
 ·exact absurd h (by decide)
theorem textF_noreply (c : Cmd) (f : Nat) : textF c f ≠ noreply := fun he => by
 have h := (textF_bytes c f).2 110 (by rw [he]; decide)
 rcases h with h | h
 ·exact absurd h (by decide)
 ·exact absurd h (by decide)
theorem verb_name {x : List UInt8} (h : verbOf x ≠ 0) : verbOf x < 14 ∧ x = names.getD (verbOf x - 1) [] := by
 unfold verbOf at *
 rcases hf : names.findIdx? (· == x) with _ | i
 ·rw [hf] at h; exact absurd rfl h
 ·obtain ⟨hi, hx, _⟩ := List.findIdx?_eq_some_iff_getElem.1 hf
  have hl : names.length = 13 := rfl
  refine ⟨by show i + 1 < 14; omega, ?_⟩
  show x = names.getD (i + 1 - 1) []
  rw [Nat.add_sub_cancel, List.getD_eq_getElem?_getD, List.getElem?_eq_getElem hi]
  exact (by simpa using hx : names[i] = x).symm
theorem verb_back : ∀ v < 14, v ≠ 0 → verbOf (names.getD (v - 1) []) = v := by decide
theorem rest_ok : ∀ v < 14, (restOf v).Nodup ∧ ∀ f ∈ restOf v, f < 5 := by decide
theorem rest_many : ∀ v < 14, v ≠ 11 → keysOf v = false → leastOf v = min (leastOf v) 1 + (restOf v).length ∧ mostOf v = leastOf v ∧ (0 < leastOf v ∨ restOf v = []) := by decide
theorem rest_keys : ∀ v < 14, keysOf v = true → restOf v = [] ∧ quietOf v = false ∧ 0 < leastOf v := by decide
def manyP (v n : Nat) : Nat := if keysOf v then n else min (leastOf v) 1
theorem many_le {v n : Nat} (h : leastOf v ≤ n) : manyP v n ≤ n := by unfold manyP; split <;> omega
def freshC (v : Nat) (q : Bool) (ks : List (List UInt8)) : Cmd := ⟨v, ks, v, ks.headD [], [], 0, 0, 0, 0, -1, q⟩
theorem readAll_told : ∀ (fs : List Nat) (ws : List (List UInt8)) (c : Cmd), (readAll c fs ws).2 = 0 ∨ (readAll c fs ws).2 = 2 ∨ (readAll c fs ws).2 = 4
 | fs, [], c => by cases fs <;> simp [readAll]
 | [], _ :: _, c => by simp [readAll]
 | f :: fs, w :: ws, c => by
  rw [readAll]
  split
  ·exact readAll_told fs ws _
  ·split <;> simp
theorem parseW_is (v : Nat) (q : Bool) (l : List (List UInt8)) : ((parseW v q l).1 = noCmd ∧ ((parseW v q l).2 = 2 ∨ (parseW v q l).2 = 4)) ∨
  ((∀ k ∈ l.take (manyP v l.length), okB k = true) ∧ readAll (freshC v q (l.take (manyP v l.length))) (restOf v) (l.drop (manyP v l.length)) = ((parseW v q l).1, 0) ∧ (parseW v q l).2 = if 1024 < (parseW v q l).1.bytes then 5 else 0) := by
 unfold parseW
 simp only []
 by_cases h1 : ((l.take (if keysOf v then l.length else min (leastOf v) 1)).any (fun k => !okB k)) = true
 ·rw [if_pos h1]; exact .inl ⟨rfl, .inl rfl⟩
 ·rw [if_neg h1]
  have hk : ∀ k ∈ l.take (manyP v l.length), okB k = true := fun k hk => by
   by_cases hb : okB k = true
   ·exact hb
   ·exact absurd (List.any_eq_true.2 ⟨k, hk, by simpa using hb⟩) h1
  have ht := readAll_told (restOf v) (l.drop (manyP v l.length)) (freshC v q (l.take (manyP v l.length)))
  change _ ∨ (_ ∧ readAll (freshC v q (l.take (manyP v l.length))) (restOf v) (l.drop (manyP v l.length)) = _ ∧ _)
  have hr : readAll (⟨v, l.take (if keysOf v then l.length else min (leastOf v) 1), v, (l.take (if keysOf v then l.length else min (leastOf v) 1)).headD [], [], 0, 0, 0, 0, -1, q⟩ : Cmd) (restOf v) (l.drop (if keysOf v then l.length else min (leastOf v) 1)) = readAll (freshC v q (l.take (manyP v l.length))) (restOf v) (l.drop (manyP v l.length)) := rfl
  rw [hr]
  generalize readAll (freshC v q (l.take (manyP v l.length))) (restOf v) (l.drop (manyP v l.length)) = R at *
  obtain ⟨rc, rt⟩ := R
  simp only at ht ⊢
  by_cases h0 : rt = 0
  ·subst h0
   right
   refine ⟨hk, ?_⟩
   simp only [ne_eq, not_true_eq_false, if_false]
   split <;> simp_all
  ·left
   rw [if_pos h0]
   exact ⟨rfl, by omega⟩
theorem parseW_of {v : Nat} {q : Bool} {l : List (List UInt8)} {c : Cmd} (hk : ∀ k ∈ l.take (manyP v l.length), okB k = true) (hr : readAll (freshC v q (l.take (manyP v l.length))) (restOf v) (l.drop (manyP v l.length)) = (c, 0)) :
  parseW v q l = (c, if 1024 < c.bytes then 5 else 0) := by
 unfold parseW
 simp only []
 have h1 : ¬ ((l.take (if keysOf v then l.length else min (leastOf v) 1)).any (fun k => !okB k)) = true := fun h => by
  obtain ⟨k, hk1, hk2⟩ := List.any_eq_true.1 h
  rw [hk k hk1] at hk2
  exact absurd hk2 (by decide)
 rw [if_neg h1]
 have hr' : readAll (⟨v, l.take (if keysOf v then l.length else min (leastOf v) 1), v, (l.take (if keysOf v then l.length else min (leastOf v) 1)).headD [], [], 0, 0, 0, 0, -1, q⟩ : Cmd) (restOf v) (l.drop (if keysOf v then l.length else min (leastOf v) 1)) = (c, 0) := hr
 rw [hr']
 simp only [ne_eq, not_true_eq_false, if_false]
 split <;> rfl
structure Fields (v : Nat) (q : Bool) (l : List (List UInt8)) (c : Cmd) : Prop where
 read : readAll (freshC v q (l.take (manyP v l.length))) (restOf v) ((fieldsOf c).map (textF c)) = (c, 0)
 len : (flatW ((fieldsOf c).map (textF c))).length ≤ (flatW (l.drop (manyP v l.length))).length
 least : leastOf v ≤ manyP v l.length + (fieldsOf c).length
 most : manyP v l.length + (fieldsOf c).length ≤ mostOf v
 keys : keysOf v = true → fieldsOf c = []
 full : keysOf v = false → v ≠ 11 → manyP v l.length + (fieldsOf c).length = leastOf v
 flush : v = 11 → manyP v l.length = 0
theorem fields_of {v : Nat} {q : Bool} {l : List (List UInt8)} {c : Cmd} (h0 : v ≠ 0) (h14 : v < 14) (hle : leastOf v ≤ l.length) (hmo : l.length ≤ mostOf v)
  (hr : readAll (freshC v q (l.take (manyP v l.length))) (restOf v) (l.drop (manyP v l.length)) = (c, 0)) : Fields v q l c := by
 obtain ⟨hnd, hlt⟩ := rest_ok v h14
 obtain ⟨b1, b2, b3, b4, b5⟩ := readAll_back _ _ _ _ hnd hlt hr
 have hcv : c.verb = v := congrArg (·.1) b5
 have hml := many_le hle
 by_cases h11 : v = 11
 ·subst h11
  have hm0 : manyP 11 l.length = 0 := by unfold manyP; rw [if_neg (by decide)]; decide
  rw [hm0, List.drop_zero] at hr b1 b2 b3
  have hmo1 : l.length ≤ 1 := hmo
  have hL : leastOf c.verb = 0 := by rw [hcv]; rfl
  match l, hmo1 with
  | [], _ =>
   have hc : freshC 11 q ([].take 0) = c := by rw [show restOf 11 = [1] from rfl, readAll] at hr; exact (Prod.mk.inj hr).1
   have hf : fieldsOf c = [] := by unfold fieldsOf; rw [hL, if_neg (by rw [← hc]; simp [freshC])]
   exact ⟨by rw [hf, hm0]; exact hr, by rw [hf]; simp [flatW], Nat.zero_le _, by rw [hm0, hf]; decide, fun _ => hf, fun _ h => absurd rfl h, fun _ => hm0⟩
  | [x], _ =>
   by_cases he : c.exp = 0
   ·have hf : fieldsOf c = [] := by unfold fieldsOf; rw [hL, if_neg (by rw [he]; simp)]
    have hc : freshC 11 q ([x].take 0) = c := by
     rw [show restOf 11 = [1] from rfl, readAll] at hr
     split at hr
     ·rw [readAll] at hr
      have h1 := (Prod.mk.inj hr).1
      rw [← h1] at he
      have h2 : (signedN x).getD 0 = 0 := he
      rw [← h1]
      simp [readF, freshC, h2]
     ·split at hr <;> cases (Prod.mk.inj hr).2
    refine ⟨?_, by rw [hf]; simp [flatW], Nat.zero_le _, by rw [show manyP 11 [x].length = 0 from hm0, hf]; decide, fun _ => hf, fun _ h => absurd rfl h, fun _ => hm0⟩
    rw [hf, show manyP 11 [x].length = 0 from hm0, show restOf 11 = [1] from rfl, List.map_nil, readAll, hc]
   ·have hf : fieldsOf c = [1] := by unfold fieldsOf; rw [if_pos (.inr he), hcv]; rfl
    refine ⟨?_, ?_, Nat.zero_le _, by rw [show manyP 11 [x].length = 0 from hm0, hf]; decide, fun h => absurd h (by decide), fun _ h => absurd rfl h, fun _ => hm0⟩
    ·rw [hf, show manyP 11 [x].length = 0 from hm0]; exact b2
    ·rw [hf, show manyP 11 [x].length = 0 from hm0]; exact b3
 ·cases hk : keysOf v
  ·obtain ⟨r1, r2, r3⟩ := rest_many v h14 h11 hk
   have hmany : manyP v l.length = min (leastOf v) 1 := by unfold manyP; rw [hk]; rfl
   have hn : (l.drop (manyP v l.length)).length = (restOf v).length := by rw [List.length_drop, hmany]; omega
   have hf : fieldsOf c = restOf v := by
    unfold fieldsOf
    rw [hcv]
    rcases r3 with h | h
    ·rw [if_pos (.inl h)]
    ·rw [h]; split <;> rfl
   have ht : (restOf v).take (l.drop (manyP v l.length)).length = restOf v := by rw [hn, List.take_length]
   rw [ht] at b2 b3
   refine ⟨by rw [hf]; exact b2, by rw [hf]; exact b3, by rw [hf, hmany]; omega, by rw [hf, hmany]; omega, fun h => absurd h (by simp [hk]), fun _ _ => by rw [hf, hmany]; omega, fun h => absurd h h11⟩
  ·obtain ⟨r1, r2, r3⟩ := rest_keys v h14 hk
   have hmany : manyP v l.length = l.length := by unfold manyP; rw [hk]; rfl
   have hf : fieldsOf c = [] := by
    unfold fieldsOf
    rw [hcv, r1]; split <;> rfl
   rw [r1, List.take_nil, List.map_nil] at b2 b3
   refine ⟨by rw [hf, r1]; exact b2, by rw [hf]; simp [flatW], by rw [hf, hmany]; simpa using hle, by rw [hf, hmany]; simpa using hmo, fun _ => hf, fun h => absurd h (by simp [hk]), fun h => absurd h h11⟩
def tailOf (v : Nat) (l : List (List UInt8)) : List (List UInt8) := if isQuiet v l then l.dropLast else l
theorem parseL_some {s name : List UInt8} {l : List (List UInt8)} (h : ¬ 2048 < s.length) (hw : words s = name :: l) :
  parseL s = if verbOf name = 0 ∨ (tailOf (verbOf name) l).length < leastOf (verbOf name) ∨ mostOf (verbOf name) < (tailOf (verbOf name) l).length then (noCmd, 1) else parseW (verbOf name) (isQuiet (verbOf name) l) (tailOf (verbOf name) l) := by
 unfold parseL; rw [if_neg h, hw]; rfl
theorem quietP_is {v : Nat} {l : List (List UInt8)} (h : isQuiet v l = true) : quietOf v = true ∧ leastOf v < l.length ∧ l = l.dropLast ++ [noreply] := by
 unfold isQuiet at h
 simp only [Bool.and_eq_true, decide_eq_true_eq, beq_iff_eq] at h
 obtain ⟨⟨h1, h2⟩, h3⟩ := h
 obtain ⟨ys, hy⟩ := List.getLast?_eq_some_iff.1 h3
 exact ⟨h1, h2, by rw [hy]; simp⟩
theorem tail_is (v : Nat) (l : List (List UInt8)) : l = tailOf v l ++ (if isQuiet v l then [noreply] else []) := by
 unfold tailOf
 cases h : isQuiet v l
 ·simp
 ·simpa using (quietP_is h).2.2
structure BackOk (s : List UInt8) (c : Cmd) (t : Nat) : Prop where
 lt : c.verb < 14
 back : parseL (lineS c) = (c, t)
 len : (lineS c).length ≤ s.length
 told : t = if 1024 < c.bytes then 5 else 0
 cverb : c.cverb = c.verb
 key : c.key = c.keys.headD []
 keysOk : ∀ k ∈ c.keys, okB k = true
 short : s.length ≤ 2048
theorem flatW_len_append (L M : List (List UInt8)) : (flatW (L ++ M)).length = (flatW L).length + (flatW M).length := by rw [flatW_append, List.length_append]
theorem line_back {s : List UInt8} {c : Cmd} {t : Nat} (h : parseL s = (c, t)) (hv : c.verb ≠ 0) : BackOk s c t := by
 by_cases hlen : 2048 < s.length
 ·unfold parseL at h
  rw [if_pos hlen] at h; exact absurd (by rw [← (Prod.mk.inj h).1]; rfl) hv
 cases hw : words s with
 | nil =>
  unfold parseL at h
  rw [if_neg hlen, hw] at h; exact absurd (by rw [← (Prod.mk.inj h).1]; rfl) hv
 | cons name l =>
  rw [parseL_some hlen hw] at h
  by_cases hbad : verbOf name = 0 ∨ (tailOf (verbOf name) l).length < leastOf (verbOf name) ∨ mostOf (verbOf name) < (tailOf (verbOf name) l).length
  ·rw [if_pos hbad] at h; exact absurd (by rw [← (Prod.mk.inj h).1]; rfl) hv
  ·rw [if_neg hbad] at h
   simp only [not_or, Nat.not_lt] at hbad
   obtain ⟨h0, hle, hmo⟩ := hbad
   obtain ⟨h14, hname⟩ := verb_name h0
   have htail := tail_is (verbOf name) l
   have hqt : isQuiet (verbOf name) l = true → quietOf (verbOf name) = true := fun h => (quietP_is h).1
   generalize verbOf name = v at *
   generalize isQuiet v l = q at *
   generalize tailOf v l = l' at *
   have hp := parseW_is v q l'
   rw [h] at hp
   simp only at hp
   rcases hp with ⟨rfl, _⟩ | ⟨hk, hr, ht⟩
   ·exact absurd rfl hv
   obtain ⟨f1, f2, f3, f4, f5, f6, f7⟩ := fields_of h0 h14 hle hmo hr
   have hml := many_le hle
   have hkl : (l'.take (manyP v l'.length)).length = manyP v l'.length := by rw [List.length_take]; omega
   obtain ⟨hnd, hlt⟩ := rest_ok v h14
   obtain ⟨_, _, _, _, b5⟩ := readAll_back _ _ _ _ hnd hlt hr
   have hcv : c.verb = v := congrArg (·.1) b5
   have hck : c.keys = l'.take (manyP v l'.length) := congrArg (·.2.1) b5
   have hcc : c.cverb = v := congrArg (·.2.2.1) b5
   have hcy : c.key = (l'.take (manyP v l'.length)).headD [] := congrArg (·.2.2.2.1) b5
   have hcq : c.quiet = q := congrArg (·.2.2.2.2.2) b5
   have hW : lineW c = name :: (l'.take (manyP v l'.length) ++ (fieldsOf c).map (textF c) ++ (if q then [noreply] else [])) := by
    unfold lineW
    rw [hcv, ← hname, hck, hcq]
    simp
   have hfull : ∀ x ∈ words s, x ≠ [] := words_full s []
   have hnb := words_nb s
   rw [hw] at hfull hnb
   have hmem : ∀ x ∈ l'.take (manyP v l'.length), x ∈ name :: l := fun x hx => by
    rw [htail]; simp [List.mem_of_mem_take hx]
   have hall : ∀ x ∈ lineW c, x ≠ [] ∧ ∀ b ∈ x, b ≠ 32 := fun x hx => by
    rw [hW] at hx
    rcases List.mem_cons.1 hx with rfl | hx
    ·exact ⟨hfull _ (by simp), hnb _ (by simp)⟩
    ·rcases List.mem_append.1 hx with hx | hx
     ·rcases List.mem_append.1 hx with hx | hx
      ·exact ⟨hfull _ (hmem x hx), hnb _ (hmem x hx)⟩
      ·obtain ⟨f, _, rfl⟩ := List.mem_map.1 hx
       exact ⟨(textF_bytes c f).1, textF_nb c f⟩
     ·cases q
      ·simp at hx
      ·simp only [if_true, List.mem_singleton] at hx
       subst hx
       exact ⟨by decide, by decide⟩
   have hwords : words (lineS c) = lineW c := words_join _ (fun x hx => (hall x hx).1) (fun x hx => (hall x hx).2)
   have hlenc : (lineS c).length ≤ s.length := by
    have h1 : (flatW (words s)).length ≤ s.length + 1 := by have := flat_words s []; simpa [words] using this
    have h2 : (flatW (lineW c)).length ≤ (flatW (words s)).length := by
     rw [hW, hw, htail]
     conv => rhs; rw [← List.take_append_drop (manyP v l'.length) l']
     rw [flatW_cons, flatW_cons, List.length_append, List.length_append, flatW_len_append, flatW_len_append, flatW_len_append, flatW_len_append]
     omega
    have h3 : (flatW (lineW c)).length = (lineS c).length + 1 := by
     unfold lineS
     rw [hW, join_flat, flatW_cons]
     simp
    omega
   have hback : parseL (lineS c) = (c, t) := by
    rw [parseL_some (by omega) (hwords.trans hW)]
    have hvb : verbOf name = v := by rw [hname]; exact verb_back v h14 h0
    rw [hvb]
    have hflen : ((fieldsOf c).map (textF c)).length = (fieldsOf c).length := List.length_map ..
    have hisq : isQuiet v (l'.take (manyP v l'.length) ++ (fieldsOf c).map (textF c) ++ (if q then [noreply] else [])) = q := by
     cases q
     ·rw [Bool.eq_false_iff]
      intro hc
      obtain ⟨q1, q2, q3⟩ := quietP_is hc
      simp only [Bool.false_eq_true, if_false, List.append_nil] at q2 q3
      rw [List.length_append, hkl, hflen] at q2
      cases hkk : keysOf v
      ·by_cases h11 : v = 11
       ·have hm0 := f7 h11
        rw [hm0, List.take_zero, List.nil_append] at q3
        have : noreply ∈ (fieldsOf c).map (textF c) := by rw [q3]; simp
        obtain ⟨f, _, hf⟩ := List.mem_map.1 this
        exact textF_noreply c f hf
       ·have := f6 hkk h11; omega
      ·have := (rest_keys v h14 hkk).2.1; rw [this] at q1; cases q1
     ·unfold isQuiet
      simp only [if_true, Bool.and_eq_true, decide_eq_true_eq, beq_iff_eq]
      refine ⟨⟨hqt rfl, ?_⟩, by simp⟩
      simp only [List.length_append, hkl, hflen, List.length_cons, List.length_nil]
      omega
    have htl : tailOf v (l'.take (manyP v l'.length) ++ (fieldsOf c).map (textF c) ++ (if q then [noreply] else [])) = l'.take (manyP v l'.length) ++ (fieldsOf c).map (textF c) := by
     unfold tailOf
     rw [hisq]
     cases q <;> simp
    rw [hisq, htl]
    have hL : (l'.take (manyP v l'.length) ++ (fieldsOf c).map (textF c)).length = manyP v l'.length + (fieldsOf c).length := by rw [List.length_append, hkl, hflen]
    rw [hL, if_neg (by omega)]
    have hm : manyP v (l'.take (manyP v l'.length) ++ (fieldsOf c).map (textF c)).length = manyP v l'.length := by
     cases hkk : keysOf v
     ·unfold manyP; rw [hkk]; rfl
     ·rw [hL, f5 hkk]; unfold manyP; rw [hkk]; simp
    have htk : (l'.take (manyP v l'.length) ++ (fieldsOf c).map (textF c)).take (manyP v l'.length) = l'.take (manyP v l'.length) := by
     rw [List.take_append_of_le_length (by omega), List.take_take, Nat.min_self]
    have hdr : (l'.take (manyP v l'.length) ++ (fieldsOf c).map (textF c)).drop (manyP v l'.length) = (fieldsOf c).map (textF c) := by
     rw [List.drop_append, hkl, Nat.sub_self, List.drop_zero, List.drop_eq_nil_of_le (by omega), List.nil_append]
    rw [ht]
    refine parseW_of ?_ ?_
    ·rw [hm, htk]; exact hk
    ·rw [hm, htk, hdr]; exact f1
   exact ⟨by omega, hback, hlenc, ht, by rw [hcc, hcv], by rw [hcy, hck], by rw [hck]; exact hk, by omega⟩
theorem told_none {s : List UInt8} (h : (parseL s).1.verb = 0) : (parseL s).1 = noCmd ∧ (parseL s).2 ≠ 0 := by
 by_cases hlen : 2048 < s.length
 ·unfold parseL
  rw [if_pos hlen]; exact ⟨rfl, by decide⟩
 cases hw : words s with
 | nil =>
  unfold parseL
  rw [if_neg hlen, hw]; exact ⟨rfl, by decide⟩
 | cons name l =>
  rw [parseL_some hlen hw] at *
  by_cases hbad : verbOf name = 0 ∨ (tailOf (verbOf name) l).length < leastOf (verbOf name) ∨ mostOf (verbOf name) < (tailOf (verbOf name) l).length
  ·rw [if_pos hbad]; exact ⟨rfl, by simp⟩
  ·rw [if_neg hbad] at *
   simp only [not_or, Nat.not_lt] at hbad
   obtain ⟨h0, hle, hmo⟩ := hbad
   obtain ⟨h14, hname⟩ := verb_name h0
   generalize verbOf name = v at *
   generalize isQuiet v l = q at *
   generalize tailOf v l = l' at *
   rcases parseW_is v q l' with ⟨h1, h2⟩ | ⟨hk, hr, ht⟩
   ·exact ⟨h1, by omega⟩
   ·obtain ⟨hnd, hlt⟩ := rest_ok v h14
    obtain ⟨_, _, _, _, b5⟩ := readAll_back _ _ _ _ hnd hlt hr
    have hcv : (parseW v q l').1.verb = v := congrArg (·.1) b5
    omega
theorem keys_le_flat (L : List (List UInt8)) : L.length ≤ (flatW L).length := by
 induction L with
 | nil => simp
 | cons x L ih => rw [flatW_cons]; simp only [List.cons_append, List.length_cons, List.length_append]; omega
theorem parse_short (s : List UInt8) : (lineS (parseL s).1).length ≤ 2048 ∧ (parseL s).1.keys.length ≤ 2048 := by
 by_cases hv : (parseL s).1.verb = 0
 ·rw [(told_none hv).1]
  exact ⟨by decide, by decide⟩
 ·have hB := line_back (s := s) (c := (parseL s).1) (t := (parseL s).2) rfl hv
  have h1 := hB.len
  have h2 := hB.short
  refine ⟨by omega, ?_⟩
  have h3 := keys_le_flat (parseL s).1.keys
  have h4 := lineS_is (parseL s).1 _ rfl
  have h5 : (flatW (parseL s).1.keys).length ≤ (lineS (parseL s).1).length := by rw [h4]; simp only [List.length_append]; omega
  omega
end Go.Proofs.YtnkkoicbnbjlnaaGreatDoor
