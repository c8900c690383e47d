/- The walks of keys.Words, the reference's Words, the law's 'same', slices.Clip at strings. Conditions: a line of at most 2^20 bytes, MaxLen holds a number. And what goes with it (4 texts). -/
import Derived.Test.YtnkkoicbnbjlnaaGreatDoorLowA
import Derived.Lib.Repeat
import Derived.Lib.Replace
import Derived.Lib.Join
namespace Go.Proofs.YtnkkoicbnbjlnaaGreatDoor
set_option maxRecDepth 100000
set_option maxHeartbeats 8000000
open Go.RowKit
theorem clip_nil (w : World) : Calls Tryz.prog 281 #[.slice none 0 0] w fun e w' => e = .returned (.slice none 0 0) ∧ w = w' := by
 go_enter Tryz.func281, Tryz.ntmps281
 go_wp2
 go_ret
 exact ⟨rfl, rfl⟩
theorem clip_some (a : Addr) (n c : Nat) (w : World) (_h : n ≤ c) (_hc : c ≤ maxLen) : Calls Tryz.prog 281 #[.slice (some a) n c] w fun e w' => e = .returned (.slice (some a) n n) ∧ w = w' := by
 unfold maxLen at _hc
 go_enter Tryz.func281, Tryz.ntmps281
 go_wp2
 go_ret
 exact ⟨rfl, rfl⟩
theorem clip_any {w : World} {B : Nat} {v : Value} {xs : List Value} (h : Own w B v xs) :
  Calls Tryz.prog 281 #[v] w fun e w' => ∃ v', e = .returned v' ∧ Own w B v' xs ∧ w = w' := by
 obtain ⟨a, c, rfl, h1, h2, h3, h4⟩ := h
 cases a with
 | none =>
  obtain rfl := h3 rfl
  obtain rfl : xs = [] := List.eq_nil_of_length_eq_zero (by omega)
  exact (clip_nil w).mono fun e w' ⟨he, hw⟩ => ⟨_, he, Own.nil w B, hw⟩
 | some a => exact (clip_some _ _ _ w h1 h2).mono fun e w' ⟨he, hw⟩ => ⟨_, he, ⟨_, _, rfl, Nat.le_refl _, by omega, (fun h => by cases h), h4⟩, hw⟩
theorem infoStr : (Tryz.prog.info? 9).map (fun i => (i.zero, i.size, i.bytes)) = some (some (.string ⟨#[]⟩), 1, 16) := by kernel_rfl
def WordsInv (l : List UInt8) (B : Nat) (v : Value) (a : Nat) (wr : World) : Prop :=
 ∃ L : List (List UInt8), words l = L ++ words (l.drop a) ∧ L.length ≤ a ∧ wr.ownsRow B 9 1 v L.length (L.map sv)
def NoBlank (l : List UInt8) (a b : Nat) : Prop := ∀ j, a ≤ j → j < b → ∀ c, l[j]? = some c → c ≠ 32
def keptOf (L : List (List UInt8)) (k : Nat) : List (List UInt8) := (L.take k).filter (fun w => !w.isEmpty)
theorem kept_yes {L : List (List UInt8)} {k : Nat} {x : List UInt8} (h : L[k]? = some x) (hx : x ≠ []) : keptOf L (k + 1) = keptOf L k ++ [x] := by
 unfold keptOf
 rw [List.take_add_one, h, Option.toList_some, List.filter_append]
 cases x <;> simp_all
theorem kept_no {L : List (List UInt8)} {k : Nat} (h : L[k]? = some []) : keptOf L (k + 1) = keptOf L k := by
 unfold keptOf
 rw [List.take_add_one, h, Option.toList_some, List.filter_append]
 simp
theorem kept_le (L : List (List UInt8)) (k : Nat) : (keptOf L k).length ≤ k :=
 Nat.le_trans (List.length_filter_le _ _) (List.length_take_le _ _)
theorem kept_all {L : List (List UInt8)} {k : Nat} (h : L.length ≤ k) : keptOf L k = L.filter (fun w => !w.isEmpty) := by
 unfold keptOf; rw [List.take_of_length_le h]
theorem split_words (s : ByteArray) : ((Lib.splitB ⟨#[32]⟩ 0 (Lib.countB s ⟨#[32]⟩) s).map (·.data.toList)).filter (fun w => !w.isEmpty) = words (bs s) := by
 rw [Lib.splitB_data]
 exact splitK_words _ _ rfl
theorem words_any (s : ByteArray) (w : World) (hs : s.size ≤ 1048576) (hL : HasLen w) :
  Calls Tryz.prog 250 #[.string s] w fun e w' => ∃ v, e = .returned v ∧ Strs w' w.heap.size v (words (bs s)) ∧ Below w.heap.size w w' := by
 obtain ⟨i0, hi, hz0, hz1, hz2⟩ := info_parts infoStr
 have Hi := hidZ hi
 have Hz := hidZ (And.intro hz0 (And.intro hz1 hz2))
 clear hi hz0 hz1 hz2
 obtain ⟨m, hm⟩ := hL
 have hcall := Tryz.strings_Split s ⟨#[32]⟩ m w (by omega) hm (by decide)
 have hlen := Lib.splitB_all ⟨#[32]⟩ (by decide) 0 _ s rfl
 have hcnt := Lib.countB_le ⟨#[32]⟩ (by decide) _ s (Nat.le_refl _)
 have hsw := split_words s
 generalize Lib.countB s ⟨#[32]⟩ = N at *
 generalize Lib.splitB ⟨#[32]⟩ 0 N s = Ps at *
 have HC := hidZ hcall
 have HP := hidZ hlen
 have HS := hidZ hsw
 clear hcall hlen hsw hm
 go_enter Tryz.func250, Tryz.ntmps250
 go_wp2_with fail
 refine HC.out.mono ?_
 rintro e w1 ⟨rfl, rfl⟩
 go_wp2_with fail
 go_loopw [3, 9] (fun v i wr => ∃ k : Nat, k ≤ N + 1 ∧ i = .int .i64 k ∧ Below (w.heap.size + 1) (w.alloc (.cells (Ps.map Value.string).toArray 9)) wr ∧ wr.ownsRow (w.heap.size + 1) 9 1 v (keptOf (Ps.map bs) k).length ((keptOf (Ps.map bs) k).map sv)) (fun _ i _ => N + 1 - (intOf i).toNat)
 case atStart => exact ⟨0, Nat.zero_le _, rfl, Below.refl _ _, World.ownsRow_nil _ _ _ _⟩
 case round =>
  obtain ⟨k, hk, rfl, hb, hown⟩ := hrel
  by_cases hlt : k < N + 1
  ·obtain ⟨x, hx⟩ : ∃ x, Ps[k]? = some x := ⟨_, List.getElem?_eq_getElem (by rw [HP.out]; exact hlt)⟩
   have hcell : wr.cell? ⟨w.heap.size, k, none⟩ = some (.string x) := by
    rw [hb.cell (p := ⟨w.heap.size, k, none⟩) (by show w.heap.size < _; omega), World.cell?_alloc_new]
    simp [hx]
   have HX := hidZ hx
   clear hx
   cases he : x.toList.isEmpty with
   | true =>
    have he' := bs_empty he
    go_wp2_with fail
    go_roundw
    case rel => exact ⟨k + 1, by omega, by go_num, hb, by rw [kept_no (by rw [List.getElem?_map, HX.out, Option.map_some, he'])]; exact hown⟩
    case measure => simp [intOf]; omega
   | false =>
    have he' := bs_some he
    go_wp2_with (at_builtin; refine wpList_append_own _ rfl _ _ 52 rfl (w.heap.size + 1) 9 i0 (.string ⟨#[]⟩) 1 16 Tryz.underlying52 Hi.out Hz.out.1 Hz.out.2.1 Hz.out.2.2 rfl (by decide) _ _ _ rfl (hown.alloc _) ⟨wr.heap.size, 0, none⟩ 1 1 [.string x] rfl rfl ?c1 ?c2 ?c3 ?c4 ?c5 ?_)
    have hkl := kept_le (Ps.map bs) k
    case c1 => exact cell_one_new _ _ _
    case c2 => intro u hu; simp at hu; subst hu; rfl
    case c3 => have := kept_le (Ps.map bs) k; unfold maxLen; omega
    case c4 => have := kept_le (Ps.map bs) k; omega
    case c5 => have := hb.size; simp at this ⊢; omega
    ·intro v' w2 hown' hgrow _
     have hbl := below_append hb (by simp) hown hgrow
     have hkk := kept_yes (L := Ps.map bs) (k := k) (x := bs x) (by rw [List.getElem?_map, HX.out, Option.map_some]) he'
     have hnx : w2.ownsRow (w.heap.size + 1) 9 1 v' (keptOf (Ps.map bs) (k + 1)).length ((keptOf (Ps.map bs) (k + 1)).map sv) := by rw [hkk]; simpa using hown'
     clear hown' hgrow hown hkk
     go_wp2_with fail
     go_roundw
     case rel => exact ⟨k + 1, by omega, by go_num, hbl, hnx⟩
     case measure => simp [intOf]; omega
  ·go_wp2_with fail
   have hfin : Own wr w.heap.size u3 ((words (bs s)).map sv) := by
    rw [← HS.out, ← kept_all (k := k) (by rw [List.length_map, HP.out]; omega)]
    exact (Own.of_row (by rw [List.length_map]; exact hown)).mono (by omega)
   refine (clip_any hfin).mono ?_
   rintro e w2 ⟨v', rfl, hv, rfl⟩
   go_wp2_with fail
   go_ret
   exact ⟨v', rfl, hv, ((Below.refl _ _).alloc (Nat.le_refl _) _).trans (hb.mono (by omega))⟩
/-! ### Plain -/
theorem wordsGo_cut : ∀ (a b cur : List UInt8), wordsGo (a ++ 32 :: b) cur = wordsGo a cur ++ wordsGo b []
 | [], b, cur => by
  simp only [List.nil_append, wordsGo, if_true]
  split <;> simp
 | c :: a, b, cur => by
  rw [List.cons_append, wordsGo, wordsGo]
  split
  ·split
   ·exact wordsGo_cut a b []
   ·rw [wordsGo_cut a b []]; rfl
  ·exact wordsGo_cut a b _
theorem words_at_blank (a b : List UInt8) : words (a ++ 32 :: b) = words a ++ words b := wordsGo_cut a b []
theorem words_one {x : List UInt8} (h0 : x ≠ []) (h : ∀ c ∈ x, c ≠ 32) : words x = [x] := by rw [words_end x h, if_neg h0]
theorem wordsGo_nb : ∀ (l cur : List UInt8), (∀ c ∈ cur, c ≠ 32) → ∀ x ∈ wordsGo l cur, ∀ c ∈ x, c ≠ 32
 | [], cur, hc => by
  intro x hx
  simp only [wordsGo] at hx
  split at hx
  ·simp at hx
  ·simp at hx; subst hx; exact hc
 | c :: l, cur, hc => by
  intro x hx
  simp only [wordsGo] at hx
  split at hx
  ·split at hx
   ·exact wordsGo_nb l [] (by simp) x hx
   ·rcases List.mem_cons.1 hx with rfl | hx
    ·exact hc
    ·exact wordsGo_nb l [] (by simp) x hx
  ·rename_i h32
   exact wordsGo_nb l _ (fun d hd => by
    rcases List.mem_append.1 hd with hd | hd
    ·exact hc d hd
    ·rw [List.mem_singleton.1 hd]; exact h32) x hx
theorem words_nb (l : List UInt8) : ∀ x ∈ words l, ∀ c ∈ x, c ≠ 32 := wordsGo_nb l [] (by simp)
def Texts (T : List UInt8) (L : List (List UInt8)) : Prop := words T = L ∧ (L = [] → T = List.replicate T.length 32)
theorem words_join : ∀ (L : List (List UInt8)), (∀ x ∈ L, x ≠ []) → (∀ x ∈ L, ∀ c ∈ x, c ≠ 32) → words (Lib.join L [32]) = L
 | [], _, _ => by simp [Lib.join, words_nil]
 | [x], h0, hb => by
  rw [Lib.join_one]; exact words_one (h0 x (by simp)) (hb x (by simp))
 | x :: y :: L, h0, hb => by
  have ih := words_join (y :: L) (fun z hz => h0 z (by simp [hz])) (fun z hz => hb z (by simp [hz]))
  have e : Lib.join (x :: y :: L) [32] = x ++ 32 :: Lib.join (y :: L) [32] := by simp [Lib.join, List.intercalate]
  rw [e, words_at_blank, ih, words_one (h0 x (by simp)) (hb x (by simp))]; rfl
theorem idx_byte {a : Option Addr} {g o n c k : Nat} (ha : a = some ⟨g, o, none⟩) (hk : k < n) (W : World) : (Instr.indexAt 47 (.slice a n c) (.int .i64 (k : Int))).run Tryz.prog W = .ok (.pointer (some ⟨g, o + k, none⟩)) W := by
 subst ha
 have h0 : (0 : Int) ≤ (k : Int) := by omega
 have h1 : (k : Int) < (n : Int) := by omega
 have h2 := Tryz.underlying47
 go_simp
end Go.Proofs.YtnkkoicbnbjlnaaGreatDoor
