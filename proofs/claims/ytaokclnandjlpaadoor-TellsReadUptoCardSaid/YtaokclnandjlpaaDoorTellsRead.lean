/- The law TellsRead answers true. Conditions: the item's texts are of at most 1048576 bytes together; the table of the powers of ten lies as the library lays it; its variable ErrRange holds an error; MaxLen holds a number. -/
import Derived.Test.YtaokclnandjlpaaDoorTellsNumber
import Derived.Test.YtaokclnandjlpaaDoorJoins
import Derived.Test.YtaokclnandjlpaaDoorKeys
import Derived.Deep.QuietTactic
import Derived.BigQuiet
namespace Go.Proofs.YtaokclnandjlpaaDoor
open Go.RowKit

/-! ### Plain -/
theorem index_crlf : ∀ (h r : List UInt8), (∀ c ∈ h, c ≠ 13) → Lib.index (h ++ 13 :: 10 :: r) [13, 10] = (h.length : Int)
  | [], r, _ => by simp [Lib.index]
  | c :: h, r, hc => by
    have ih := index_crlf h r (fun d hd => hc d (by simp [hd]))
    have h13 : (c == 13) = false := by simpa using hc c (by simp)
    have hp : ([13, 10] : List UInt8).isPrefixOf (c :: (h ++ 13 :: 10 :: r)) = false := by
      simp only [List.isPrefixOf, Bool.and_eq_false_iff]
      left; rw [beq_eq_false_iff_ne]; exact fun e => by rw [← e] at h13; simp at h13
    rw [List.cons_append, Lib.index, if_neg (by rw [hp]; simp), ih, if_neg (by rw [beq_iff_eq]; omega)]
    simp
theorem digits_no (u : Nat) : ∀ c ∈ Lib.decDigits u, c ≠ 13 ∧ c ≠ 32 := fun c hc => by
  have := digit_is.1 (dec_digit hc)
  constructor <;> (rintro rfl; simp at this)
theorem ok_no {s : List UInt8} (h : okB s = true) : s ≠ [] ∧ ∀ c ∈ s, c ≠ 13 ∧ c ≠ 32 := by
  unfold okB look at h
  split at h
  · simp at h
  · rename_i h0
    split at h
    · simp at h
    · split at h
      · simp at h
      · rename_i hf
        refine ⟨by rintro rfl; simp at h0, fun c hc => ?_⟩
        have := List.findIdx?_eq_none_iff.1 hf c hc
        constructor <;> (rintro rfl; exact absurd this (by decide))
theorem ok_short {s : List UInt8} (h : okB s = true) : s.length ≤ 250 := by
  unfold okB look at h
  split at h
  · simp at h
  · split at h
    · simp at h
    · omega
/-- The words of a value's first line. -/
theorem wordsL_no {verb : Int} {x : ItemD} (hk : okB (bs x.key) = true) : (∀ y ∈ wordsL verb x, y ≠ []) ∧ ∀ y ∈ wordsL verb x, ∀ c ∈ y, c ≠ 13 ∧ c ≠ 32 := by
  have hv : ∀ c ∈ valueW, c ≠ 13 ∧ c ≠ 32 := by decide
  have hk2 := ok_no hk
  have hh : (∀ y ∈ headL x, y ≠ []) ∧ ∀ y ∈ headL x, ∀ c ∈ y, c ≠ 13 ∧ c ≠ 32 := by
    constructor
    · intro y hy
      simp [headL] at hy
      rcases hy with rfl | rfl | rfl | rfl
      · decide
      · exact hk2.1
      · exact dec_nonempty _
      · exact dec_nonempty _
    · intro y hy
      simp [headL] at hy
      rcases hy with rfl | rfl | rfl | rfl
      · exact hv
      · exact hk2.2
      · exact digits_no _
      · exact digits_no _
  unfold wordsL
  split
  · constructor
    · intro y hy
      rcases List.mem_append.1 hy with hy | hy
      · exact hh.1 y hy
      · rw [List.mem_singleton.1 hy]; exact dec_nonempty _
    · intro y hy
      rcases List.mem_append.1 hy with hy | hy
      · exact hh.2 y hy
      · rw [List.mem_singleton.1 hy]; exact digits_no _
  · exact hh
theorem join_no : ∀ (L : List (List UInt8)), (∀ y ∈ L, ∀ c ∈ y, c ≠ 13) → ∀ c ∈ Lib.join L [32], c ≠ 13
  | [], _ => by simp [Lib.join]
  | [x], h => by rw [Lib.join_one]; exact h x (by simp)
  | x :: y :: L, h => by
    have e : Lib.join (x :: y :: L) [32] = x ++ 32 :: Lib.join (y :: L) [32] := by simp [Lib.join, List.intercalate]
    rw [e]
    intro c hc
    rcases List.mem_append.1 hc with hc | hc
    · exact h x (by simp) c hc
    · rcases List.mem_cons.1 hc with rfl | hc
      · decide
      · exact join_no (y :: L) (fun z hz => h z (by simp [hz])) c hc
theorem value_shape {verb : Int} {x : ItemD} (hk : okB (bs x.key) = true) : valueOf verb 11 x = Lib.join (wordsL verb x) [32] ++ 13 :: 10 :: (bs x.value ++ [13, 10]) ∧ words (Lib.join (wordsL verb x) [32]) = wordsL verb x
    ∧ Lib.index (valueOf verb 11 x) [13, 10] = ((Lib.join (wordsL verb x) [32]).length : Int) := by
  have hw := wordsL_no (verb := verb) hk
  have hj := words_join (wordsL verb x) hw.1 (fun y hy c hc => (hw.2 y hy c hc).2)
  have hne : Lib.join (wordsL verb x) [32] ≠ [] := by
    intro h
    rw [h, words_nil] at hj
    have : (wordsL verb x).length ≠ 0 := by unfold wordsL; split <;> simp [headL]
    rw [← hj] at this; simp at this
  have hs : valueOf verb 11 x = Lib.join (wordsL verb x) [32] ++ 13 :: 10 :: (bs x.value ++ [13, 10]) := by
    simp [valueOf, lineOf, hne]
  refine ⟨hs, hj, ?_⟩
  rw [hs]
  exact index_crlf _ _ (join_no _ (fun y hy c hc => (hw.2 y hy c hc).1))
theorem value_none {verb kind : Int} {x : ItemD} (h : kind ≠ 11) : valueOf verb kind x = [] := by simp [valueOf, h]

/-- What the walk holds of the world: the item's cells, the command's. -/
def HeldR (w : World) (verb : Int) (x : ItemD) (W : World) : Prop :=
  W.cell? ⟨w.heap.size, 0, none⟩ = some (.string x.key) ∧ W.cell? ⟨w.heap.size, 1, none⟩ = some (.string x.value) ∧ W.cell? ⟨w.heap.size, 2, none⟩ = some (.int .u32 x.flags) ∧ W.cell? ⟨w.heap.size, 3, none⟩ = some (.int .u64 x.id) ∧ W.cell? ⟨w.heap.size, 4, none⟩ = some (.int .i64 x.dies) ∧ W.cell? ⟨w.heap.size, 5, none⟩ = some (.int .i64 x.gen) ∧
  W.cell? ⟨w.heap.size + 1, 0, none⟩ = some (.int .u8 verb) ∧ W.cell? ⟨w.heap.size + 1, 1, none⟩ = some (.slice none 0 0) ∧ W.cell? ⟨w.heap.size + 1, 2, none⟩ = some (.int .u8 0) ∧ W.cell? ⟨w.heap.size + 1, 3, none⟩ = some (.string ⟨#[]⟩) ∧ W.cell? ⟨w.heap.size + 1, 4, none⟩ = some (.string ⟨#[]⟩) ∧ W.cell? ⟨w.heap.size + 1, 5, none⟩ = some (.int .u32 0) ∧
  W.cell? ⟨w.heap.size + 1, 6, none⟩ = some (.int .i64 0) ∧ W.cell? ⟨w.heap.size + 1, 7, none⟩ = some (.int .u64 0) ∧ W.cell? ⟨w.heap.size + 1, 8, none⟩ = some (.int .u64 0) ∧ W.cell? ⟨w.heap.size + 1, 9, none⟩ = some (.int .i64 0) ∧ W.cell? ⟨w.heap.size + 1, 10, none⟩ = some (.bool false) ∧
  HasPow W ∧ HasErr W ∧ HasLen W ∧ Below w.heap.size w W
theorem heldR_keep {w : World} {verb : Int} {x : ItemD} {W W' : World} (h : HeldR w verb x W) (hb : Below W.heap.size W W') : HeldR w verb x W' := by
  obtain ⟨h0, h1, h2, h3, h4, h5, h6, h7, h8, h9, h10, h11, h12, h13, h14, h15, h16, hP, hE, hL, hB⟩ := h
  exact ⟨(hb.cell (cell_lt h0)).trans h0, (hb.cell (cell_lt h1)).trans h1, (hb.cell (cell_lt h2)).trans h2, (hb.cell (cell_lt h3)).trans h3, (hb.cell (cell_lt h4)).trans h4, (hb.cell (cell_lt h5)).trans h5, (hb.cell (cell_lt h6)).trans h6, (hb.cell (cell_lt h7)).trans h7, (hb.cell (cell_lt h8)).trans h8, (hb.cell (cell_lt h9)).trans h9, (hb.cell (cell_lt h10)).trans h10, (hb.cell (cell_lt h11)).trans h11, (hb.cell (cell_lt h12)).trans h12, (hb.cell (cell_lt h13)).trans h13, (hb.cell (cell_lt h14)).trans h14, (hb.cell (cell_lt h15)).trans h15, (hb.cell (cell_lt h16)).trans h16, hP.below hb, hE.below hb, hL.below hb, hB.trans (hb.mono hB.size)⟩

/-- The calls that the law makes behind the value. -/
structure Reads (x : ItemD) (verb : Int) (S H V : List UInt8) (Ws : List (List UInt8)) : Prop where
  v : ∀ W, HasPow W → Calls Tryd.prog 20 #[(CmdD.mk verb none 0 0 ⟨0, ⟨#[]⟩, ⟨#[]⟩, 0, 0, 0, 0⟩ 0 false).val, (AnsD.mk 11 7 x).val] W fun e w' => e = .returned (sv S) ∧ Below W.heap.size W w'
  m : ∀ W, HasPow W → Calls Tryd.prog 20 #[(CmdD.mk verb none 0 0 ⟨0, ⟨#[]⟩, ⟨#[]⟩, 0, 0, 0, 0⟩ 0 false).val, (AnsD.mk 12 0 x).val] W fun e w' => e = .returned (sv []) ∧ Below W.heap.size W w'
  t : ∀ W, HasPow W → Calls Tryd.prog 20 #[(CmdD.mk verb none 0 0 ⟨0, ⟨#[]⟩, ⟨#[]⟩, 0, 0, 0, 0⟩ 0 false).val, (AnsD.mk 1 0 x).val] W fun e w' => e = .returned (sv []) ∧ Below W.heap.size W w'
  i : ∀ W, HasLen W → Calls Tryd.prog 63 #[sv S, .string ⟨#[13, 10]⟩] W fun e w' => e = .returned (.int .i64 (H.length : Int)) ∧ W = w'
  w : ∀ W, HasLen W → Calls Tryd.prog 32 #[sv H] W fun e w' => ∃ v, e = .returned v ∧ Strs w' W.heap.size v Ws ∧ Below W.heap.size W w'
  cut : ∀ W, (Instr.slice 9 (sv S) none (some (.int .i64 (H.length : Int))) none).run Tryd.prog W = .ok (sv H) W
  rest : ∀ W, (Instr.slice 9 (sv S) (some (.int .i64 ((H.length : Int) + 2))) none none).run Tryd.prog W = .ok (sv (V ++ [13, 10])) W
  len : H.length ≤ 5000
  val : V.length ≤ 3000 ∧ V = bs x.value

theorem reads_of {verb : Int} {x : ItemD} (hk : okB (bs x.key) = true) (hx : x.Ok) (hv : x.value.size ≤ 2000) : Reads x verb (valueOf verb 11 x) (Lib.join (wordsL verb x) [32]) (bs x.value) (wordsL verb x) := by
  obtain ⟨hs, hw, hi⟩ := value_shape (verb := verb) hk
  have hks := ok_short hk
  rw [bs_length] at hks
  have hs3 : x.key.size + x.value.size ≤ 3000 := by omega
  have hjl := join_words verb x hx hs3
  have hSl : (valueOf verb 11 x).length ≤ 10000 := by rw [hs]; simp; omega
  have ok : ∀ k n : Int, 0 ≤ k ∧ k ≤ 255 → 0 ≤ n ∧ n ≤ 18446744073709551615 → (AnsD.mk k n x).Ok := fun k n h1 h2 => ⟨h1, h2, hx⟩
  refine ⟨fun W hW => value_any ⟨verb, none, 0, 0, ⟨0, ⟨#[]⟩, ⟨#[]⟩, 0, 0, 0, 0⟩, 0, false⟩ ⟨11, 7, x⟩ W (ok _ _ (by decide) (by decide)) hs3 hW, fun W hW => ?_, fun W hW => ?_, fun W hW => ?_, fun W hW => ?_, fun W => ?_, fun W => ?_, by omega, by rw [bs_length]; omega, rfl⟩
  · have h := value_any ⟨verb, none, 0, 0, ⟨0, ⟨#[]⟩, ⟨#[]⟩, 0, 0, 0, 0⟩, 0, false⟩ ⟨12, 0, x⟩ W (ok _ _ (by decide) (by decide)) hs3 hW
    rw [show valueOf (CmdD.mk verb none 0 0 ⟨0, ⟨#[]⟩, ⟨#[]⟩, 0, 0, 0, 0⟩ 0 false).verb (AnsD.mk 12 0 x).kind (AnsD.mk 12 0 x).item = [] from value_none (show ¬ _ from by simp)] at h
    exact h
  · have h := value_any ⟨verb, none, 0, 0, ⟨0, ⟨#[]⟩, ⟨#[]⟩, 0, 0, 0, 0⟩, 0, false⟩ ⟨1, 0, x⟩ W (ok _ _ (by decide) (by decide)) hs3 hW
    rw [show valueOf (CmdD.mk verb none 0 0 ⟨0, ⟨#[]⟩, ⟨#[]⟩, 0, 0, 0, 0⟩ 0 false).verb (AnsD.mk 1 0 x).kind (AnsD.mk 1 0 x).item = [] from value_none (show ¬ _ from by simp)] at h
    exact h
  · obtain ⟨m, hm⟩ := hW
    refine (Tryd.strings_Index ⟨(valueOf verb 11 x).toArray⟩ ⟨#[13, 10]⟩ m W (by rw [sv_size]; omega) hm).mono ?_
    rintro e w' ⟨rfl, rfl⟩
    rw [show Lib.index (⟨(valueOf verb 11 x).toArray⟩ : ByteArray).data.toList (⟨#[13, 10]⟩ : ByteArray).data.toList = _ from hi]
    exact ⟨rfl, rfl⟩
  · have h := words_any ⟨(Lib.join (wordsL verb x) [32]).toArray⟩ W (by rw [sv_size]; omega) hW
    rw [show words (bs ⟨(Lib.join (wordsL verb x) [32]).toArray⟩) = _ from hw] at h
    exact h
  · have h := slice_to (valueOf verb 11 x) (Lib.join (wordsL verb x) [32]).length (by rw [hs]; simp) W
    rw [hs, List.take_left, ← hs] at h
    exact h
  · have h := slice_from (valueOf verb 11 x) (((Lib.join (wordsL verb x) [32]).length : Int) + 2) (by omega) (by rw [hs]; simp; omega) W
    rw [show ((((Lib.join (wordsL verb x) [32]).length : Int) + 2)).toNat = (Lib.join (wordsL verb x) [32]).length + 2 from by omega] at h
    have hd : (valueOf verb 11 x).drop ((Lib.join (wordsL verb x) [32]).length + 2) = bs x.value ++ [13, 10] := by
      rw [hs, ← List.drop_drop, List.drop_left]; rfl
    rw [hd] at h
    exact h

set_option maxHeartbeats 1600000 in
set_option maxRecDepth 100000 in
theorem tellsRead_no (x : ItemD) (gets : Bool) (w : World) (hs : x.key.size + x.value.size ≤ 1048576) (hn : okB (bs x.key) = false ∨ 2000 < x.value.size) (hP : HasPow w) :
    Calls Tryd.prog 18 #[x.val, .bool gets] w fun e w' => e = .returned (.bool true) ∧ Below w.heap.size w w' := by
  have hb0 : Below w.heap.size w (w.alloc (.cells #[.string x.key, .string x.value, .int .u32 x.flags, .int .u64 x.id, .int .i64 x.dies, .int .i64 x.gen] 32)) := (Below.refl _ _).alloc (Nat.le_refl _) _
  have HB := Lib.hid hb0
  have HP := Lib.hid (hP.below hb0)
  clear hP hb0
  cases hk : okB (bs x.key)
  · go_enter Tryd.func18, Tryd.ntmps18
    go_wp2_with fail
    refine (ok_any x.key _ (by unfold maxLen; omega)).mono ?_
    rintro e w1 ⟨rfl, rfl⟩
    rw [hk]
    go_wp2_with fail
    refine (lives31 _ HP.out).mono ?_
    rintro e w1 ⟨rfl, hb1⟩
    go_wp2_with fail
    go_ret
    exact ⟨rfl, HB.out.trans (hb1.mono HB.out.size)⟩
  · have h2000 : 2000 < x.value.size := by
      rcases hn with h | h
      · rw [hk] at h; cases h
      · exact h
    clear hn
    go_enter Tryd.func18, Tryd.ntmps18
    go_wp2_with fail
    refine (ok_any x.key _ (by unfold maxLen; omega)).mono ?_
    rintro e w1 ⟨rfl, rfl⟩
    rw [hk]
    go_wp2_with fail
    refine (lives31 _ HP.out).mono ?_
    rintro e w1 ⟨rfl, hb1⟩
    go_wp2_with fail
    go_ret
    exact ⟨rfl, HB.out.trans (hb1.mono HB.out.size)⟩

set_option maxHeartbeats 3000000 in
set_option maxRecDepth 100000 in
theorem tellsRead_get (x : ItemD) (w : World) (hs : x.key.size + x.value.size ≤ 1048576) (hk : okB (bs x.key) = true) (h2000 : ¬ 2000 < x.value.size) (S H V D2 D3 : List UInt8) (hR : Reads x 1 S H V [valueW, bs x.key, D2, D3])
    (hc2 : ∀ W, HasErr W → Calls Tryd.prog 53 #[sv D2] W fun e w' => e = .returned (.tuple #[.int .u32 x.flags, .bool true]) ∧ Below W.heap.size W w') (hc3 : ∀ W, HasErr W → Calls Tryd.prog 49 #[sv D3] W fun e w' => e = .returned (.tuple #[.int .u64 (x.value.size : Int), .bool true]) ∧ Below W.heap.size W w')
    (hP : HasPow w) (hE : HasErr w) (hL : HasLen w) :
    Calls Tryd.prog 18 #[x.val, .bool false] w fun e w' => e = .returned (.bool true) ∧ Below w.heap.size w w' := by
  have hb0 : Below w.heap.size w ((w.alloc (.cells #[.string x.key, .string x.value, .int .u32 x.flags, .int .u64 x.id, .int .i64 x.dies, .int .i64 x.gen] 32)).alloc (.cells #[.int .u8 1, .slice none 0 0, .int .u8 0, .string ⟨#[]⟩, .string ⟨#[]⟩, .int .u32 0, .int .i64 0, .int .u64 0, .int .u64 0, .int .i64 0, .bool false] 29)) := ((Below.refl _ _).alloc (Nat.le_refl _) _).alloc (by simp) _
  have H0 : HeldR w 1 x ((w.alloc (.cells #[.string x.key, .string x.value, .int .u32 x.flags, .int .u64 x.id, .int .i64 x.dies, .int .i64 x.gen] 32)).alloc (.cells #[.int .u8 1, .slice none 0 0, .int .u8 0, .string ⟨#[]⟩, .string ⟨#[]⟩, .int .u32 0, .int .i64 0, .int .u64 0, .int .u64 0, .int .i64 0, .bool false] 29)) :=
    ⟨by simp [go_sem], by simp [go_sem], by simp [go_sem], by simp [go_sem], by simp [go_sem], by simp [go_sem], by simp [go_sem], by simp [go_sem], by simp [go_sem], by simp [go_sem], by simp [go_sem], by simp [go_sem], by simp [go_sem], by simp [go_sem], by simp [go_sem], by simp [go_sem], by simp [go_sem], hP.below hb0, hE.below hb0, hL.below hb0, hb0⟩
  have hcut := hR.cut
  have hrest := hR.rest
  have hlen := hR.len
  have hve := hR.val.2
  have hcmp : (V ++ [13, 10] == (x.value ++ { data := #[13, 10] }).toList) = true := by
    rw [beq_iff_eq, ByteArray.toList_eq, show (x.value ++ (⟨#[13, 10]⟩ : ByteArray)).data.toList = bs x.value ++ bs ⟨#[13, 10]⟩ from bs_append _ _, ← hve]
  have HR := Lib.hid hR
  have HH := Lib.hid H0
  have HCMP := Lib.hid hcmp
  have HC2 := Lib.hid hc2
  have HC3 := Lib.hid hc3
  clear hR hb0 hP hE hL H0 hve hcmp hc2 hc3
  go_enter Tryd.func18, Tryd.ntmps18
  go_wp2_with fail
  refine (ok_any x.key _ (by unfold maxLen; omega)).mono ?_
  rintro e w1 ⟨rfl, rfl⟩
  rw [hk]
  go_wp2_with fail
  refine (HR.out.v _ HH.out.2.2.2.2.2.2.2.2.2.2.2.2.2.2.2.2.2.1).mono ?_
  rintro e w2 ⟨rfl, hb2⟩
  have H2 := heldR_keep HH.out hb2
  clear hb2 HH
  obtain ⟨h0, h1, h2, h3, h4, h5, h6, h7, h8, h9, h10, h11, h12, h13, h14, h15, h16, hP2, hE2, hL2, hB2⟩ := id H2
  have HH := Lib.hid H2
  clear H2
  go_wp2_with fail
  refine (HR.out.i _ hL2).mono ?_
  rintro e w3 ⟨rfl, rfl⟩
  go_wp2_with fail
  refine (HR.out.w _ hL2).mono ?_
  rintro e w3 ⟨v, rfl, hv, hb3⟩
  obtain ⟨g, o, c, rfl, _, hg, _, _, hcells⟩ := hv.some (by simp)
  have d0 : w3.cell? ⟨g, o, none⟩ = some (.string ⟨#[86, 65, 76, 85, 69]⟩) := (hcells 0 _ rfl).1
  have d1 : w3.cell? ⟨g, o + 1, none⟩ = some (.string x.key) := (hcells 1 _ rfl).1
  have d2 : w3.cell? ⟨g, o + 2, none⟩ = some (sv D2) := (hcells 2 _ rfl).1
  have d3 : w3.cell? ⟨g, o + 3, none⟩ = some (sv D3) := (hcells 3 _ rfl).1
  have H3 := heldR_keep HH.out hb3
  clear hv hcells hb3 HH h0 h1 h2 h3 h4 h5 h6 h7 h8 h9 h10 h11 h12 h13 h14 h15 h16 hP2 hE2 hL2 hB2
  obtain ⟨h0, h1, h2, h3, h4, h5, h6, h7, h8, h9, h10, h11, h12, h13, h14, h15, h16, hP2, hE2, hL2, hB2⟩ := id H3
  have HH := Lib.hid H3
  clear H3
  rw [show (List.map sv [valueW, bs x.key, D2, D3]).length = 4 from rfl]
  go_wp2_with fail
  go_quiet (fail)
  go_wp2_with fail
  have HW := Lib.hid (heldR_keep HH.out (below_drewN (Below.refl _ _) nq))
  have E2 := HW.out.2.2.2.2.2.2.2.2.2.2.2.2.2.2.2.2.2.2.1
  refine (HC2.out _ E2).mono ?_
  rintro e w4 ⟨rfl, hb4⟩
  have H4 := heldR_keep HW.out hb4
  have e3 : w4.cell? ⟨g, o + 3, none⟩ = some (sv D3) := (hb4.cell (p := ⟨g, o + 3, none⟩) (by simpa using hg)).trans (by simpa using d3)
  have hsz4 : g < w4.heap.size := by have := hb4.size; simp at this; omega
  clear HW E2 hb4 d0 d1 d2 d3 HH h0 h1 h2 h3 h4 h5 h6 h7 h8 h9 h10 h11 h12 h13 h14 h15 h16 hP2 hE2 hL2 hB2
  obtain ⟨h0, h1, h2, h3, h4, h5, h6, h7, h8, h9, h10, h11, h12, h13, h14, h15, h16, hP2, hE2, hL2, hB2⟩ := id H4
  have HH := Lib.hid H4
  clear H4
  go_wp2_with fail
  refine (HC3.out _ hE2).mono ?_
  rintro e w5 ⟨rfl, hb5⟩
  have H5 := heldR_keep HH.out hb5
  clear hb5 e3 HH h0 h1 h2 h3 h4 h5 h6 h7 h8 h9 h10 h11 h12 h13 h14 h15 h16 hP2 hE2 hL2 hB2
  obtain ⟨h0, h1, h2, h3, h4, h5, h6, h7, h8, h9, h10, h11, h12, h13, h14, h15, h16, hP2, hE2, hL2, hB2⟩ := id H5
  have HH := Lib.hid H5
  clear H5
  go_wp2_with fail
  have hw64 : IntKind.u64.wrap (x.value.size : Int) = (x.value.size : Int) := IntWalk.u64_in _ (by omega)
  have hwi : IntKind.i64.wrap ((H.length : Int) + 2) = (H.length : Int) + 2 := IntWalk.i64_in _ (by omega)
  have hsum : ¬ 9223372036854775807 < x.value.size + 2 := by omega
  have hcmp := HCMP.out
  go_quiet (fail)
  clear hw64 hwi hsum
  go_wp2_with fail
  have HW := Lib.hid (heldR_keep HH.out (below_drewN (Below.refl _ _) nq))
  refine (HR.out.m _ HW.out.2.2.2.2.2.2.2.2.2.2.2.2.2.2.2.2.2.1).mono ?_
  rintro e w6 ⟨rfl, hb6⟩
  have H6 := heldR_keep HW.out hb6
  clear HW hb6 HH h0 h1 h2 h3 h4 h5 h6 h7 h8 h9 h10 h11 h12 h13 h14 h15 h16 hP2 hE2 hL2 hB2
  obtain ⟨h0, h1, h2, h3, h4, h5, h6, h7, h8, h9, h10, h11, h12, h13, h14, h15, h16, hP2, hE2, hL2, hB2⟩ := id H6
  have HH := Lib.hid H6
  clear H6
  go_wp2_with fail
  refine (HR.out.t _ hP2).mono ?_
  rintro e w8 ⟨rfl, hb8⟩
  have H8 := heldR_keep HH.out hb8
  clear hb8 HH h0 h1 h2 h3 h4 h5 h6 h7 h8 h9 h10 h11 h12 h13 h14 h15 h16 hP2 hE2 hL2 hB2
  obtain ⟨h0, h1, h2, h3, h4, h5, h6, h7, h8, h9, h10, h11, h12, h13, h14, h15, h16, hP2, hE2, hL2, hB2⟩ := id H8
  clear H8
  go_wp2_with fail
  refine (lives31 _ hP2).mono ?_
  rintro e w9 ⟨rfl, hb9⟩
  go_wp2_with fail
  go_ret
  exact ⟨rfl, hB2.trans (hb9.mono hB2.size)⟩

set_option maxHeartbeats 3000000 in
set_option maxRecDepth 100000 in
theorem tellsRead_gets (x : ItemD) (w : World) (hs : x.key.size + x.value.size ≤ 1048576) (hk : okB (bs x.key) = true) (h2000 : ¬ 2000 < x.value.size) (S H V D2 D3 D4 : List UInt8) (hR : Reads x 2 S H V [valueW, bs x.key, D2, D3, D4])
    (hc2 : ∀ W, HasErr W → Calls Tryd.prog 53 #[sv D2] W fun e w' => e = .returned (.tuple #[.int .u32 x.flags, .bool true]) ∧ Below W.heap.size W w') (hc3 : ∀ W, HasErr W → Calls Tryd.prog 49 #[sv D3] W fun e w' => e = .returned (.tuple #[.int .u64 (x.value.size : Int), .bool true]) ∧ Below W.heap.size W w') (hc4 : ∀ W, HasErr W → Calls Tryd.prog 49 #[sv D4] W fun e w' => e = .returned (.tuple #[.int .u64 x.id, .bool true]) ∧ Below W.heap.size W w')
    (hP : HasPow w) (hE : HasErr w) (hL : HasLen w) :
    Calls Tryd.prog 18 #[x.val, .bool true] w fun e w' => e = .returned (.bool true) ∧ Below w.heap.size w w' := by
  have hb0 : Below w.heap.size w ((w.alloc (.cells #[.string x.key, .string x.value, .int .u32 x.flags, .int .u64 x.id, .int .i64 x.dies, .int .i64 x.gen] 32)).alloc (.cells #[.int .u8 2, .slice none 0 0, .int .u8 0, .string ⟨#[]⟩, .string ⟨#[]⟩, .int .u32 0, .int .i64 0, .int .u64 0, .int .u64 0, .int .i64 0, .bool false] 29)) := ((Below.refl _ _).alloc (Nat.le_refl _) _).alloc (by simp) _
  have H0 : HeldR w 2 x ((w.alloc (.cells #[.string x.key, .string x.value, .int .u32 x.flags, .int .u64 x.id, .int .i64 x.dies, .int .i64 x.gen] 32)).alloc (.cells #[.int .u8 2, .slice none 0 0, .int .u8 0, .string ⟨#[]⟩, .string ⟨#[]⟩, .int .u32 0, .int .i64 0, .int .u64 0, .int .u64 0, .int .i64 0, .bool false] 29)) :=
    ⟨by simp [go_sem], by simp [go_sem], by simp [go_sem], by simp [go_sem], by simp [go_sem], by simp [go_sem], by simp [go_sem], by simp [go_sem], by simp [go_sem], by simp [go_sem], by simp [go_sem], by simp [go_sem], by simp [go_sem], by simp [go_sem], by simp [go_sem], by simp [go_sem], by simp [go_sem], hP.below hb0, hE.below hb0, hL.below hb0, hb0⟩
  have hcut := hR.cut
  have hrest := hR.rest
  have hlen := hR.len
  have hve := hR.val.2
  have hcmp : (V ++ [13, 10] == (x.value ++ { data := #[13, 10] }).toList) = true := by
    rw [beq_iff_eq, ByteArray.toList_eq, show (x.value ++ (⟨#[13, 10]⟩ : ByteArray)).data.toList = bs x.value ++ bs ⟨#[13, 10]⟩ from bs_append _ _, ← hve]
  have HR := Lib.hid hR
  have HH := Lib.hid H0
  have HCMP := Lib.hid hcmp
  have HC2 := Lib.hid hc2
  have HC3 := Lib.hid hc3
  have HC4 := Lib.hid hc4
  clear hR hb0 hP hE hL H0 hve hcmp hc2 hc3 hc4
  go_enter Tryd.func18, Tryd.ntmps18
  go_wp2_with fail
  refine (ok_any x.key _ (by unfold maxLen; omega)).mono ?_
  rintro e w1 ⟨rfl, rfl⟩
  rw [hk]
  go_wp2_with fail
  refine (HR.out.v _ HH.out.2.2.2.2.2.2.2.2.2.2.2.2.2.2.2.2.2.1).mono ?_
  rintro e w2 ⟨rfl, hb2⟩
  have H2 := heldR_keep HH.out hb2
  clear hb2 HH
  obtain ⟨h0, h1, h2, h3, h4, h5, h6, h7, h8, h9, h10, h11, h12, h13, h14, h15, h16, hP2, hE2, hL2, hB2⟩ := id H2
  have HH := Lib.hid H2
  clear H2
  go_wp2_with fail
  refine (HR.out.i _ hL2).mono ?_
  rintro e w3 ⟨rfl, rfl⟩
  go_wp2_with fail
  refine (HR.out.w _ hL2).mono ?_
  rintro e w3 ⟨v, rfl, hv, hb3⟩
  obtain ⟨g, o, c, rfl, _, hg, _, _, hcells⟩ := hv.some (by simp)
  have d0 : w3.cell? ⟨g, o, none⟩ = some (.string ⟨#[86, 65, 76, 85, 69]⟩) := (hcells 0 _ rfl).1
  have d1 : w3.cell? ⟨g, o + 1, none⟩ = some (.string x.key) := (hcells 1 _ rfl).1
  have d2 : w3.cell? ⟨g, o + 2, none⟩ = some (sv D2) := (hcells 2 _ rfl).1
  have d3 : w3.cell? ⟨g, o + 3, none⟩ = some (sv D3) := (hcells 3 _ rfl).1
  have d4 : w3.cell? ⟨g, o + 4, none⟩ = some (sv D4) := (hcells 4 _ rfl).1
  have H3 := heldR_keep HH.out hb3
  clear hv hcells hb3 HH h0 h1 h2 h3 h4 h5 h6 h7 h8 h9 h10 h11 h12 h13 h14 h15 h16 hP2 hE2 hL2 hB2
  obtain ⟨h0, h1, h2, h3, h4, h5, h6, h7, h8, h9, h10, h11, h12, h13, h14, h15, h16, hP2, hE2, hL2, hB2⟩ := id H3
  have HH := Lib.hid H3
  clear H3
  rw [show (List.map sv [valueW, bs x.key, D2, D3, D4]).length = 5 from rfl]
  go_wp2_with fail
  go_quiet (fail)
  go_wp2_with fail
  have HW := Lib.hid (heldR_keep HH.out (below_drewN (Below.refl _ _) nq))
  have E2 := HW.out.2.2.2.2.2.2.2.2.2.2.2.2.2.2.2.2.2.2.1
  refine (HC2.out _ E2).mono ?_
  rintro e w4 ⟨rfl, hb4⟩
  have H4 := heldR_keep HW.out hb4
  have e3 : w4.cell? ⟨g, o + 3, none⟩ = some (sv D3) := (hb4.cell (p := ⟨g, o + 3, none⟩) (by simpa using hg)).trans (by simpa using d3)
  have e4 : w4.cell? ⟨g, o + 4, none⟩ = some (sv D4) := (hb4.cell (p := ⟨g, o + 4, none⟩) (by simpa using hg)).trans (by simpa using d4)
  have hsz4 : g < w4.heap.size := by have := hb4.size; simp at this; omega
  clear HW E2 hb4 d0 d1 d2 d3 d4 HH h0 h1 h2 h3 h4 h5 h6 h7 h8 h9 h10 h11 h12 h13 h14 h15 h16 hP2 hE2 hL2 hB2
  obtain ⟨h0, h1, h2, h3, h4, h5, h6, h7, h8, h9, h10, h11, h12, h13, h14, h15, h16, hP2, hE2, hL2, hB2⟩ := id H4
  have HH := Lib.hid H4
  clear H4
  go_wp2_with fail
  refine (HC3.out _ hE2).mono ?_
  rintro e w5 ⟨rfl, hb5⟩
  have H5 := heldR_keep HH.out hb5
  have f4 : w5.cell? ⟨g, o + 4, none⟩ = some (sv D4) := (hb5.cell (p := ⟨g, o + 4, none⟩) hsz4).trans e4
  clear e4
  clear hb5 e3 HH h0 h1 h2 h3 h4 h5 h6 h7 h8 h9 h10 h11 h12 h13 h14 h15 h16 hP2 hE2 hL2 hB2
  obtain ⟨h0, h1, h2, h3, h4, h5, h6, h7, h8, h9, h10, h11, h12, h13, h14, h15, h16, hP2, hE2, hL2, hB2⟩ := id H5
  have HH := Lib.hid H5
  clear H5
  go_wp2_with fail
  have hw64 : IntKind.u64.wrap (x.value.size : Int) = (x.value.size : Int) := IntWalk.u64_in _ (by omega)
  have hwi : IntKind.i64.wrap ((H.length : Int) + 2) = (H.length : Int) + 2 := IntWalk.i64_in _ (by omega)
  have hsum : ¬ 9223372036854775807 < x.value.size + 2 := by omega
  have hcmp := HCMP.out
  go_quiet (fail)
  clear hw64 hwi hsum
  go_wp2_with fail
  have HW := Lib.hid (heldR_keep HH.out (below_drewN (Below.refl _ _) nq))
  have E2 := HW.out.2.2.2.2.2.2.2.2.2.2.2.2.2.2.2.2.2.2.1
  refine (HC4.out _ E2).mono ?_
  rintro e w6 ⟨rfl, hb6⟩
  have H6 := heldR_keep HW.out hb6
  clear HW E2 hb6 f4 HH h0 h1 h2 h3 h4 h5 h6 h7 h8 h9 h10 h11 h12 h13 h14 h15 h16 hP2 hE2 hL2 hB2
  obtain ⟨h0, h1, h2, h3, h4, h5, h6, h7, h8, h9, h10, h11, h12, h13, h14, h15, h16, hP2, hE2, hL2, hB2⟩ := id H6
  have HH := Lib.hid H6
  clear H6
  go_wp2_with fail
  refine (HR.out.m _ hP2).mono ?_
  rintro e w7 ⟨rfl, hb7⟩
  have H7 := heldR_keep HH.out hb7
  clear hb7 HH h0 h1 h2 h3 h4 h5 h6 h7 h8 h9 h10 h11 h12 h13 h14 h15 h16 hP2 hE2 hL2 hB2
  obtain ⟨h0, h1, h2, h3, h4, h5, h6, h7, h8, h9, h10, h11, h12, h13, h14, h15, h16, hP2, hE2, hL2, hB2⟩ := id H7
  have HH := Lib.hid H7
  clear H7
  go_wp2_with fail
  refine (HR.out.t _ hP2).mono ?_
  rintro e w8 ⟨rfl, hb8⟩
  have H8 := heldR_keep HH.out hb8
  clear hb8 HH h0 h1 h2 h3 h4 h5 h6 h7 h8 h9 h10 h11 h12 h13 h14 h15 h16 hP2 hE2 hL2 hB2
  obtain ⟨h0, h1, h2, h3, h4, h5, h6, h7, h8, h9, h10, h11, h12, h13, h14, h15, h16, hP2, hE2, hL2, hB2⟩ := id H8
  clear H8
  go_wp2_with fail
  refine (lives31 _ hP2).mono ?_
  rintro e w9 ⟨rfl, hb9⟩
  go_wp2_with fail
  go_ret
  exact ⟨rfl, hB2.trans (hb9.mono hB2.size)⟩


theorem tellsRead_walk (x : ItemD) (gets : Bool) (w : World) (hx : x.Ok) (hs : x.key.size + x.value.size ≤ 1048576) (hP : HasPow w) (hE : HasErr w) (hL : HasLen w) :
    Calls Tryd.prog 18 #[x.val, .bool gets] w fun e w' => e = .returned (.bool true) ∧ Below w.heap.size w w' := by
  by_cases hn : okB (bs x.key) = false ∨ 2000 < x.value.size
  · exact tellsRead_no x gets w hs hn hP
  · have hk : okB (bs x.key) = true := by
      cases h : okB (bs x.key)
      · exact absurd (.inl h) hn
      · rfl
    have h2000 : ¬ 2000 < x.value.size := fun h => hn (.inr h)
    have hf := hx.flags
    have hi := hx.id
    have c2 : ∀ W, HasErr W → Calls Tryd.prog 53 #[sv (Lib.decDigits x.flags.toNat)] W fun e w' => e = .returned (.tuple #[.int .u32 x.flags, .bool true]) ∧ Below W.heap.size W w' := fun W hW => by
      have h := parse32_any ⟨(Lib.decDigits x.flags.toNat).toArray⟩ W hW
      rw [show bs ⟨(Lib.decDigits x.flags.toNat).toArray⟩ = Lib.decDigits x.flags.toNat from rfl, parse32V_some (u := x.flags.toNat) (by unfold parse32N; rw [parse_dec (by omega)]; simp; omega), show ((x.flags.toNat : Nat) : Int) = x.flags from by omega] at h
      exact h
    have c3 : ∀ W, HasErr W → Calls Tryd.prog 49 #[sv (Lib.decDigits x.value.size)] W fun e w' => e = .returned (.tuple #[.int .u64 (x.value.size : Int), .bool true]) ∧ Below W.heap.size W w' := fun W hW => by
      have h := parse_at (Lib.decDigits x.value.size) W hW
      rw [parseV_some (parse_dec (by omega))] at h
      exact h
    have c4 : ∀ W, HasErr W → Calls Tryd.prog 49 #[sv (Lib.decDigits x.id.toNat)] W fun e w' => e = .returned (.tuple #[.int .u64 x.id, .bool true]) ∧ Below W.heap.size W w' := fun W hW => by
      have h := parse_at (Lib.decDigits x.id.toNat) W hW
      rw [parseV_some (parse_dec (by omega)), show ((x.id.toNat : Nat) : Int) = x.id from by omega] at h
      exact h
    cases gets
    · exact tellsRead_get x w hs hk h2000 _ _ _ _ _ (by have h := reads_of (verb := 1) hk hx (by omega); rw [show wordsL 1 x = headL x from rfl] at h; exact h) c2 c3 hP hE hL
    · exact tellsRead_gets x w hs hk h2000 _ _ _ _ _ _ (by have h := reads_of (verb := 2) hk hx (by omega); rw [show wordsL 2 x = headL x ++ [Lib.decDigits x.id.toNat] from rfl] at h; exact h) c2 c3 c4 hP hE hL
end Go.Proofs.YtaokclnandjlpaaDoor
