/- strings.Join at the strings that a slice holds; tells.line. Condition: the line is of at most 2^47 bytes. And what goes with it (4 texts). -/
import Derived.Test.YtnkkoicbnbjlnaaGreatDoorLowA
import Derived.Test.YtnkkoicbnbjlnaaGreatDoorShelf
import Derived.Test.YtnkkoicbnbjlnaaGreatDoorLowB
import Derived.Test.YtnkkoicbnbjlnaaGreatDoorLowC
namespace Go.Proofs.YtnkkoicbnbjlnaaGreatDoor
set_option maxRecDepth 100000
set_option maxHeartbeats 8000000
open Go.RowKit
theorem join_any {w : World} {B : Nat} {v : Value} {L : List (List UInt8)} (sep : List UInt8) (h : Own w B v (L.map sv)) (hN : L.length ≤ 140737488355328) (hlen : (Lib.join L sep).length ≤ 140737488355328) :
  Calls Tryz.prog 19 #[v, sv sep] w fun e w' => e = .returned (sv (Lib.join L sep)) ∧ Below w.heap.size w w' := by
 by_cases h0 : L = []
 ·subst h0
  obtain ⟨a, c, rfl⟩ := h.len
  exact (Tryz.strings_Join_none a c ⟨sep.toArray⟩ w).mono fun e w' ⟨he, hw⟩ => ⟨he, hw ▸ Below.refl _ _⟩
 ·obtain ⟨g, o, c, rfl, _, hg, hc, _, hcells⟩ := h.some (by simpa using h0)
  have hm : (L.map (fun l => (⟨l.toArray⟩ : ByteArray))).map (·.data.toList) = L := by rw [List.map_map]; exact (List.map_congr_left (fun l _ => rfl)).trans (List.map_id' L)
  have := Tryz.strings_Join g o c (L.map (fun l => (⟨l.toArray⟩ : ByteArray))) ⟨sep.toArray⟩ w (fun j x hx => by
   rw [List.getElem?_map] at hx
   cases hl : L[j]? with
   | none => simp [hl] at hx
   | some l =>
    simp [hl] at hx
    subst hx
    exact (hcells j (sv l) (by rw [List.getElem?_map, hl]; rfl)).1) hg (by simpa using hN) (by simpa using hc) (by rw [hm]; exact hlen)
  rw [hm] at this
  simpa using this
def lineOf (L : List (List UInt8)) : List UInt8 := if Lib.join L [32] = [] then [] else Lib.join L [32] ++ [13, 10]
theorem tline_any {w : World} {B : Nat} {v : Value} {L : List (List UInt8)} (h : Own w B v (L.map sv)) (hN : L.length ≤ 140737488355328) (hlen : (Lib.join L [32]).length ≤ 2097152) :
  Calls Tryz.prog 144 #[v] w fun e w' => e = .returned (sv (lineOf L)) ∧ Below w.heap.size w w' := by
 have hj := join_any [32] h hN (by omega)
 unfold lineOf
 generalize Lib.join L [32] = t at *
 have HJ := hidZ hj
 clear hj h
 by_cases h0 : t = []
 ·subst h0
  go_enter Tryz.func144, Tryz.ntmps144
  go_wp2_with fail
  refine HJ.out.mono ?_
  rintro e w1 ⟨rfl, hb⟩
  go_wp2_with fail
  go_ret
  exact ⟨rfl, hb⟩
 ·rw [if_neg h0]
  have he : t.isEmpty = false := by simpa using h0
  clear h0
  go_enter Tryz.func144, Tryz.ntmps144
  go_wp2_with fail
  refine HJ.out.mono ?_
  rintro e w1 ⟨rfl, hb⟩
  go_wp2_with fail
  go_ret
  exact ⟨ret_congr (sv_of (by rw [bs_append])), hb⟩
theorem own_new (w : World) (T : TypeId) (xs : List Value) (h : xs.length ≤ maxLen) : Own (w.alloc (.cells xs.toArray T)) w.heap.size (.slice (some ⟨w.heap.size, 0, none⟩) xs.length xs.length) xs := by
 refine ⟨some ⟨w.heap.size, 0, none⟩, xs.length, rfl, Nat.le_refl _, h, (fun h => by cases h), Or.inr ?_⟩
 refine ⟨w.heap.size, 0, rfl, Nat.le_refl _, fun j x hx => ⟨?_, World.frozen?_alloc_new _ _ _ _⟩⟩
 rw [World.cell?_alloc_new, Nat.zero_add]
 simpa using hx
def toldL : List (List UInt8) := [[], [69, 82, 82, 79, 82], [67, 76, 73, 69, 78, 84, 95, 69, 82, 82, 79, 82, 32, 98, 97, 100, 32, 99, 111, 109, 109, 97, 110, 100, 32, 108, 105, 110, 101, 32, 102, 111, 114, 109, 97, 116], [67, 76, 73, 69, 78, 84, 95, 69, 82, 82, 79, 82, 32, 108, 105, 110, 101, 32, 116, 111, 111, 32, 108, 111, 110, 103], [67, 76, 73, 69, 78, 84, 95, 69, 82, 82, 79, 82, 32, 105, 110, 118, 97, 108, 105, 100, 32, 110, 117, 109, 101, 114, 105, 99, 32, 100, 101, 108, 116, 97, 32, 97, 114, 103, 117, 109, 101, 110, 116], [83, 69, 82, 86, 69, 82, 95, 69, 82, 82, 79, 82, 32, 111, 98, 106, 101, 99, 116, 32, 116, 111, 111, 32, 108, 97, 114, 103, 101, 32, 102, 111, 114, 32, 99, 97, 99, 104, 101], [67, 76, 73, 69, 78, 84, 95, 69, 82, 82, 79, 82, 32, 98, 97, 100, 32, 100, 97, 116, 97, 32, 99, 104, 117, 110, 107]]
def answersL : List (List UInt8) := [[], [83, 84, 79, 82, 69, 68], [78, 79, 84, 95, 83, 84, 79, 82, 69, 68], [69, 88, 73, 83, 84, 83], [78, 79, 84, 95, 70, 79, 85, 78, 68], [83, 69, 82, 86, 69, 82, 95, 69, 82, 82, 79, 82, 32, 111, 117, 116, 32, 111, 102, 32, 109, 101, 109, 111, 114, 121, 32, 115, 116, 111, 114, 105, 110, 103, 32, 111, 98, 106, 101, 99, 116], [68, 69, 76, 69, 84, 69, 68], [84, 79, 85, 67, 72, 69, 68], [], [67, 76, 73, 69, 78, 84, 95, 69, 82, 82, 79, 82, 32, 99, 97, 110, 110, 111, 116, 32, 105, 110, 99, 114, 101, 109, 101, 110, 116, 32, 111, 114, 32, 100, 101, 99, 114, 101, 109, 101, 110, 116, 32, 110, 111, 110, 45, 110, 117, 109, 101, 114, 105, 99, 32, 118, 97, 108, 117, 101], [79, 75]]
def tOf (t : Nat) : List UInt8 := lineOf [toldL.getD t []]
def aOf (k : Nat) : List UInt8 := lineOf [answersL.getD k []]
theorem told_any (w : World) : Calls Tryz.prog 152 #[] w fun e w' => ∃ v, e = .returned v ∧ Own w' w.heap.size v (toldL.map sv) ∧ Below w.heap.size w w' := by
 go_enter Tryz.func152, Tryz.ntmps152
 go_wp2_with fail
 go_ret
 exact ⟨_, rfl, own_new w 9 (toldL.map sv) (by decide), (Below.refl _ _).alloc (Nat.le_refl _) _⟩
theorem answers_any (w : World) : Calls Tryz.prog 145 #[] w fun e w' => ∃ v, e = .returned v ∧ Own w' w.heap.size v (answersL.map sv) ∧ Below w.heap.size w w' := by
 go_enter Tryz.func145, Tryz.ntmps145
 go_wp2_with fail
 go_ret
 exact ⟨_, rfl, own_new w 9 (answersL.map sv) (by decide), (Below.refl _ _).alloc (Nat.le_refl _) _⟩
theorem own_set {w : World} {B : Nat} {v : Value} {L : List (List UInt8)} (h : Own w B v (L.map sv)) {k : Nat} {x : List UInt8} (hx : L[k]? = some x) :
  ∃ g o c : Nat, v = .slice (some ⟨g, o, none⟩) L.length c ∧ g < w.heap.size ∧ w.cell? ⟨g, o + k, none⟩ = some (sv x) := by
 obtain ⟨g, o, c, rfl, _, h2, h3, _⟩ := h.at (k := k) (x := sv x) (by rw [List.getElem?_map, hx]; rfl)
 exact ⟨g, o, c, by rw [List.length_map], h2, h3⟩
theorem below_step {w w1 w2 : World} (h1 : Below w.heap.size w w1) (o : Obj) (h2 : Below (w1.alloc o).heap.size (w1.alloc o) w2) : Below w.heap.size w w2 :=
 (h1.alloc h1.size o).trans (h2.mono (by have := h1.size; simp; omega))
theorem tline_one (x : List UInt8) (w : World) (hx : x.length ≤ 2097152) :
  Calls Tryz.prog 144 #[.slice (some ⟨w.heap.size, 0, none⟩) 1 1] (w.alloc (.cells #[sv x] 9)) fun e w' => e = .returned (sv (lineOf [x])) ∧ Below w.heap.size w w' :=
 (tline_any (L := [x]) (own_new w 9 [sv x] (by simp [maxLen])) (by simp) (by rw [Lib.join_one]; exact hx)).mono fun _ _ ⟨he, hb⟩ => ⟨he, below_step (Below.refl _ _) _ hb⟩
theorem of_any (k : Nat) (w : World) (hk : k ≤ 255) : Calls Tryz.prog 121 #[.int .u8 k] w fun e w' => e = .returned (sv (tOf k)) ∧ Below w.heap.size w w' := by
 by_cases h7 : k < 7
 ·obtain ⟨x, hx⟩ : ∃ x, toldL[k]? = some x := ⟨_, List.getElem?_eq_getElem (by simpa [toldL] using h7)⟩
  have htx : tOf k = lineOf [x] := by unfold tOf; rw [List.getD_eq_getElem?_getD, hx]; rfl
  have hxl : x.length ≤ 100 := by
   have : ∀ y ∈ toldL, y.length ≤ 100 := by decide
   exact this x (List.mem_of_getElem? hx)
  rw [htx]
  have HX := hidZ hx
  clear hx htx
  go_enter Tryz.func121, Tryz.ntmps121
  go_wp2_with fail
  refine (told_any _).mono ?_
  rintro e w1 ⟨v, rfl, hv, hb1⟩
  obtain ⟨g, o, c, rfl, hg, hcell⟩ := own_set hv HX.out
  have hl7 : toldL.length = 7 := rfl
  rw [hl7]
  clear hv hl7
  go_wp2_with fail
  refine (tline_one x w1 (by omega)).mono ?_
  rintro e w2 ⟨rfl, hb2⟩
  go_wp2_with fail
  go_ret
  exact ⟨rfl, hb1.trans (hb2.mono hb1.size)⟩
 ·have htx : tOf k = lineOf [[]] := by
   unfold tOf
   rw [List.getD_eq_getElem?_getD, List.getElem?_eq_none (by simpa [toldL] using Nat.le_of_not_lt h7)]; rfl
  rw [htx]
  clear htx
  go_enter Tryz.func121, Tryz.ntmps121
  go_wp2_with fail
  refine (told_any _).mono ?_
  rintro e w1 ⟨v, rfl, hv, hb1⟩
  obtain ⟨g, o, c, rfl, hg, hcell⟩ := own_set hv (k := 0) (x := []) rfl
  have hl7 : toldL.length = 7 := rfl
  rw [hl7]
  rw [Nat.add_zero] at hcell
  clear hv hl7
  go_wp2_with fail
  refine (tline_one [] w1 (by decide)).mono ?_
  rintro e w2 ⟨rfl, hb2⟩
  go_wp2_with fail
  go_ret
  exact ⟨rfl, hb1.trans (hb2.mono hb1.size)⟩
def endL : List UInt8 := lineOf [[69, 78, 68]]
def versionL : List UInt8 := lineOf [[86, 69, 82, 83, 73, 79, 78], [110, 101, 115, 116, 98, 111, 120], [49]]
theorem end_any (w : World) : Calls Tryz.prog 106 #[] w fun e w' => e = .returned (sv endL) ∧ Below w.heap.size w w' := by
 go_enter Tryz.func106, Tryz.ntmps106
 go_wp2_with fail
 refine (tline_one [69, 78, 68] w (by decide)).mono ?_
 rintro e w2 ⟨rfl, hb2⟩
 go_wp2_with fail
 go_ret
 exact ⟨rfl, hb2⟩
theorem version_any (w : World) : Calls Tryz.prog 122 #[] w fun e w' => e = .returned (sv versionL) ∧ Below w.heap.size w w' := by
 have h := tline_any (L := [[86, 69, 82, 83, 73, 79, 78], [110, 101, 115, 116, 98, 111, 120], [49]]) (own_new w 9 [sv [86, 69, 82, 83, 73, 79, 78], sv [110, 101, 115, 116, 98, 111, 120], sv [49]] (by decide)) (by decide) (by decide)
 have H := hidZ h
 clear h
 go_enter Tryz.func122, Tryz.ntmps122
 go_wp2_with fail
 refine H.out.mono ?_
 rintro e w2 ⟨rfl, hb2⟩
 go_wp2_with fail
 go_ret
 exact ⟨rfl, below_step (Below.refl _ _) _ hb2⟩
def ansOf (quiet : Bool) (kind : Int) (number : Int) : List UInt8 :=
 if quiet then [] else if kind = 8 then lineOf [Lib.decDigits number.toNat] else aOf kind.toNat
theorem answer_any (c : CmdD) (a : AnsD) (w : World) (ha : a.Ok) (hP : HasPow w) :
  Calls Tryz.prog 107 #[c.val, a.val] w fun e w' => e = .returned (sv (ansOf c.quiet a.kind a.number)) ∧ Below w.heap.size w w' := by
 have HP := hidZ hP
 clear hP
 obtain ⟨⟨hk0, hk1⟩, ⟨hn0, hn1⟩, _⟩ := ha
 have hb0 : Below w.heap.size w ((w.alloc (.cells #[.int .u8 c.verb, .slice c.ka c.kn c.kc, .int .u8 c.call.verb, .string c.call.key, .string c.call.value, .int .u32 c.call.flags, .int .i64 c.call.exp, .int .u64 c.call.id, .int .u64 c.call.by', .int .i64 c.bytes, .bool c.quiet] 113)).alloc (.cells #[.int .u8 a.kind, .int .u64 a.number, .string a.item.key, .string a.item.value, .int .u32 a.item.flags, .int .u64 a.item.id, .int .i64 a.item.dies, .int .i64 a.item.gen] 31)) :=
  ((Below.refl _ _).alloc (Nat.le_refl _) _).alloc (by simp) _
 have HB0 := hidZ hb0
 clear hb0
 cases hq : c.quiet with
 | true =>
  go_enter Tryz.func107, Tryz.ntmps107
  go_wp2_with fail
  go_ret
  rw [hq] at HB0
  exact ⟨rfl, HB0.out⟩
 | false =>
  rw [hq] at HB0
  by_cases h8 : a.kind = 8
  ·have hb8 : (a.kind == 8) = true := by rw [h8]; rfl
   have htx : ansOf false a.kind a.number = lineOf [Lib.decDigits a.number.toNat] := by simp [ansOf, h8]
   rw [htx]
   have hds := dec_short a.number.toNat (by omega)
   have hcl := text_any a.number hn0 (by omega) _ (HP.out.below HB0.out)
   generalize Lib.decDigits a.number.toNat = D at hds hcl ⊢
   have HC := hidZ hcl
   clear htx hcl h8 hn1
   go_enter Tryz.func107, Tryz.ntmps107
   go_wp2_with fail
   refine HC.out.mono ?_
   rintro e w1 ⟨rfl, hb1⟩
   go_wp2_with fail
   refine (tline_one D w1 (by omega)).mono ?_
   rintro e w2 ⟨rfl, hb2⟩
   go_wp2_with fail
   go_ret
   exact ⟨rfl, HB0.out.trans ((hb1.mono HB0.out.size).trans (hb2.mono (Nat.le_trans HB0.out.size hb1.size)))⟩
  ·have hb8 : (a.kind == 8) = false := by rw [beq_eq_false_iff_ne]; exact h8
   have htx : ansOf false a.kind a.number = aOf a.kind.toNat := by simp [ansOf, h8]
   rw [htx]
   obtain ⟨k, hk⟩ : ∃ k : Nat, a.kind = (k : Int) := ⟨a.kind.toNat, by omega⟩
   rw [hk] at hb8 hk0 hk1 HB0 ⊢
   rw [Int.toNat_natCast]
   clear htx h8
   by_cases h11 : k < 11
   ·obtain ⟨x, hx⟩ : ∃ x, answersL[k]? = some x := ⟨_, List.getElem?_eq_getElem (by simpa [answersL] using h11)⟩
    have htx : aOf k = lineOf [x] := by unfold aOf; rw [List.getD_eq_getElem?_getD, hx]; rfl
    have hxl : x.length ≤ 100 := by
     have : ∀ y ∈ answersL, y.length ≤ 100 := by decide
     exact this x (List.mem_of_getElem? hx)
    rw [htx]
    have HX := hidZ hx
    clear hx htx
    go_enter Tryz.func107, Tryz.ntmps107
    go_wp2_with fail
    refine (answers_any _).mono ?_
    rintro e w1 ⟨v, rfl, hv, hb1⟩
    obtain ⟨g, o, cc, rfl, hg, hcell⟩ := own_set hv HX.out
    have hl11 : answersL.length = 11 := rfl
    rw [hl11]
    have hkc : w1.cell? ⟨w.heap.size + 1, 0, none⟩ = some (.int .u8 (k : Int)) := by
     rw [hb1.cell (p := ⟨w.heap.size + 1, 0, none⟩) (by simp)]
     simp [go_sem]
    clear hv hl11
    go_wp2_with fail
    refine (tline_one x w1 (by omega)).mono ?_
    rintro e w2 ⟨rfl, hb2⟩
    go_wp2_with fail
    go_ret
    exact ⟨rfl, HB0.out.trans ((hb1.mono HB0.out.size).trans (hb2.mono (Nat.le_trans HB0.out.size hb1.size)))⟩
   ·have htx : aOf k = [] := by
     unfold aOf
     rw [List.getD_eq_getElem?_getD, List.getElem?_eq_none (by simpa [answersL] using Nat.le_of_not_lt h11)]; rfl
    rw [htx]
    clear htx
    go_enter Tryz.func107, Tryz.ntmps107
    go_wp2_with fail
    refine (answers_any _).mono ?_
    rintro e w1 ⟨v, rfl, hv, hb1⟩
    obtain ⟨g, o, cc, rfl, hg, hcell⟩ := own_set hv (k := 0) (x := []) rfl
    have hl11 : answersL.length = 11 := rfl
    rw [hl11]
    have hkc : w1.cell? ⟨w.heap.size + 1, 0, none⟩ = some (.int .u8 (k : Int)) := by
     rw [hb1.cell (p := ⟨w.heap.size + 1, 0, none⟩) (by simp)]
     simp [go_sem]
    clear hv hl11
    go_wp2_with fail
    go_ret
    exact ⟨rfl, HB0.out.trans (hb1.mono HB0.out.size)⟩
def valueW : List UInt8 := [86, 65, 76, 85, 69]
abbrev headL (x : ItemD) : List (List UInt8) := [valueW, bs x.key, Lib.decDigits x.flags.toNat, Lib.decDigits x.value.size]
def wordsL (verb : Int) (x : ItemD) : List (List UInt8) := if verb = 2 then headL x ++ [Lib.decDigits x.id.toNat] else headL x
def valueOf (verb kind : Int) (x : ItemD) : List UInt8 := if kind = 11 then lineOf (wordsL verb x) ++ bs x.value ++ [13, 10] else []
theorem join_words (verb : Int) (x : ItemD) (hx : x.Ok) (h : x.key.size + x.value.size ≤ 1048576) : (Lib.join (wordsL verb x) [32]).length ≤ 1050000 := by
 have h1 := dec_short x.flags.toNat (by have := hx.flags; omega)
 have h2 := dec_short x.value.size (by omega)
 have h3 := dec_short x.id.toNat (by have := hx.id; omega)
 have h4 := bs_length x.key
 unfold wordsL
 split <;> simp [Lib.join, headL, valueW, List.intercalate] at * <;> omega
theorem line_length (L : List (List UInt8)) : (lineOf L).length ≤ (Lib.join L [32]).length + 2 := by
 unfold lineOf; split <;> simp
theorem row_below {w w' : World} {B : Nat} {e : TypeId} {sz n : Nat} {v : Value} {xs : List Value} (h : w.ownsRow B e sz v n xs) (hb : Below w.heap.size w w') : w'.ownsRow B e sz v n xs := by
 obtain ⟨hl, h2⟩ := h
 refine ⟨hl, h2.imp id ?_⟩
 rintro ⟨g, cap, cur, rfl, hg, hh, hr⟩
 exact ⟨g, cap, cur, rfl, hg, (hb.block g (Array.getElem?_eq_some_iff.1 hh).1).trans hh, hr⟩
abbrev Held (w : World) (c : CmdD) (a : AnsD) (W : World) : Prop :=
 W.cell? ⟨w.heap.size + 1, 2, none⟩ = some (.string a.item.key) ∧ W.cell? ⟨w.heap.size + 1, 3, none⟩ = some (.string a.item.value) ∧ W.cell? ⟨w.heap.size + 1, 4, none⟩ = some (.int .u32 a.item.flags) ∧
 W.cell? ⟨w.heap.size + 1, 5, none⟩ = some (.int .u64 a.item.id) ∧ W.cell? ⟨w.heap.size, 0, none⟩ = some (.int .u8 c.verb) ∧ HasPow W ∧ Below w.heap.size w W
theorem held_keep {w : World} {c : CmdD} {a : AnsD} {W W' : World} (hb : Below W.heap.size W W') (h : Held w c a W) : Held w c a W' := by
 obtain ⟨h1, h2, h3, h4, h5, h6, h7⟩ := h
 exact ⟨(hb.cell (cell_lt h1)).trans h1, (hb.cell (cell_lt h2)).trans h2, (hb.cell (cell_lt h3)).trans h3, (hb.cell (cell_lt h4)).trans h4, (hb.cell (cell_lt h5)).trans h5, h6.below hb, h7.trans (hb.mono h7.size)⟩
theorem held_keep' {w : World} {c : CmdD} {a : AnsD} {W W' : World} {B : Nat} (h0 : HasPow w) (hb : Below B W W') (hB : w.heap.size + 2 ≤ B) (h : Held w c a W) : Held w c a W' := by
 obtain ⟨h1, h2, h3, h4, h5, h6, h7⟩ := h
 have hb' : Below w.heap.size w W' := h7.trans (hb.mono (by omega))
 exact ⟨(hb.cell (by show _ < B; simp; omega)).trans h1, (hb.cell (by show _ < B; simp; omega)).trans h2, (hb.cell (by show _ < B; simp; omega)).trans h3, (hb.cell (by show _ < B; simp; omega)).trans h4, (hb.cell (by show _ < B; simp; omega)).trans h5, h0.below hb', hb'⟩
theorem value_any (c : CmdD) (a : AnsD) (w : World) (ha : a.Ok) (hs : a.item.key.size + a.item.value.size ≤ 1048576) (hP : HasPow w) :
  Calls Tryz.prog 105 #[c.val, a.val] w fun e w' => e = .returned (sv (valueOf c.verb a.kind a.item)) ∧ Below w.heap.size w w' := by
 obtain ⟨i0, hi, hz0, hz1, hz2⟩ := info_parts infoStr
 have Hi := hidZ hi
 have Hz := hidZ (And.intro hz0 (And.intro hz1 hz2))
 clear hi hz0 hz1 hz2
 have HP := hidZ hP
 clear hP
 have hjw := join_words c.verb a.item ha.item hs
 obtain ⟨⟨hk0, hk1⟩, ⟨hn0, hn1⟩, ⟨_, _, ⟨hf0, hf1⟩, ⟨hi0, hi1⟩⟩⟩ := ha
 have hb0 : Below w.heap.size w ((w.alloc (.cells #[.int .u8 c.verb, .slice c.ka c.kn c.kc, .int .u8 c.call.verb, .string c.call.key, .string c.call.value, .int .u32 c.call.flags, .int .i64 c.call.exp, .int .u64 c.call.id, .int .u64 c.call.by', .int .i64 c.bytes, .bool c.quiet] 113)).alloc (.cells #[.int .u8 a.kind, .int .u64 a.number, .string a.item.key, .string a.item.value, .int .u32 a.item.flags, .int .u64 a.item.id, .int .i64 a.item.dies, .int .i64 a.item.gen] 31)) :=
  ((Below.refl _ _).alloc (Nat.le_refl _) _).alloc (by simp) _
 have HB0 := hidZ hb0
 have HJ := hidZ hjw
 clear hb0 hjw
 by_cases h11 : a.kind = 11
 ·have hb11 : (a.kind == 11) = true := by rw [h11]; rfl
  rw [show valueOf c.verb a.kind a.item = lineOf (wordsL c.verb a.item) ++ bs a.item.value ++ [13, 10] from by simp [valueOf, h11]]
  have hfw : IntKind.u64.wrap a.item.flags = a.item.flags := IntWalk.u64_in _ (by omega)
  have hlw : IntKind.u64.wrap (a.item.value.size : Int) = a.item.value.size := IntWalk.u64_in _ (by omega)
  clear h11
  go_enter Tryz.func105, Tryz.ntmps105
  go_wp2_with fail
  have H0 : Held w c a ((w.alloc (.cells #[.int .u8 c.verb, .slice c.ka c.kn c.kc, .int .u8 c.call.verb, .string c.call.key, .string c.call.value, .int .u32 c.call.flags, .int .i64 c.call.exp, .int .u64 c.call.id, .int .u64 c.call.by', .int .i64 c.bytes, .bool c.quiet] 113)).alloc (.cells #[.int .u8 a.kind, .int .u64 a.number, .string a.item.key, .string a.item.value, .int .u32 a.item.flags, .int .u64 a.item.id, .int .i64 a.item.dies, .int .i64 a.item.gen] 31)) :=
   ⟨by simp [go_sem], by simp [go_sem], by simp [go_sem], by simp [go_sem], by simp [go_sem], HP.out.below HB0.out, HB0.out⟩
  clear HB0
  generalize (w.alloc (.cells #[.int .u8 c.verb, .slice c.ka c.kn c.kc, .int .u8 c.call.verb, .string c.call.key, .string c.call.value, .int .u32 c.call.flags, .int .i64 c.call.exp, .int .u64 c.call.id, .int .u64 c.call.by', .int .i64 c.bytes, .bool c.quiet] 113)).alloc (.cells #[.int .u8 a.kind, .int .u64 a.number, .string a.item.key, .string a.item.value, .int .u32 a.item.flags, .int .u64 a.item.id, .int .i64 a.item.dies, .int .i64 a.item.gen] 31) = W0 at H0 ⊢
  obtain ⟨h1, h2, h3, h4, h5, h6, h7⟩ := H0
  go_region_held3 (fun W => W.cell? ⟨w.heap.size + 1, 2, none⟩ = some (.string a.item.key) ∧ W.cell? ⟨w.heap.size + 1, 3, none⟩ = some (.string a.item.value) ∧ W.cell? ⟨w.heap.size + 1, 4, none⟩ = some (.int .u32 a.item.flags) ∧
   W.cell? ⟨w.heap.size + 1, 5, none⟩ = some (.int .u64 a.item.id) ∧ W.cell? ⟨w.heap.size, 0, none⟩ = some (.int .u8 c.verb) ∧ HasPow W ∧ Below w.heap.size w W)
   (first
    | (exact held_keep (Below.refl _ _).drew ⟨by assumption, by assumption, by assumption, by assumption, by assumption, by assumption, by assumption⟩)
    | (go_split_ands; exact held_keep (by assumption) ⟨by assumption, by assumption, by assumption, by assumption, by assumption, by assumption, by assumption⟩)
    | (go_split_ands; exact held_keep ((Below.refl _ _).alloc (Nat.le_refl _) _) ⟨by assumption, by assumption, by assumption, by assumption, by assumption, by assumption, by assumption⟩)
    | go_keep)
   (first
    | (go_split_ands; go_at_call 143; refine (text_any a.item.flags hf0 (by omega) _ ‹_›).mono ?_; rintro e w1 ⟨rfl, hb1⟩)
    | (go_split_ands; go_at_call 143; refine (text_any (a.item.value.size : Int) (by omega) (by omega) _ ‹_›).mono ?_; rintro e w1 ⟨rfl, hb1⟩))
  go_split_ands
  rename_i g1 g2 g3 g4 g5 g6 g7
  clear h1 h2 h3 h4 h5 h6 h7
  rename_i p2 p3 p4 p5 pV pH pR
  have hlt0 : w.heap.size + 2 ≤ w1.heap.size := Nat.le_trans (cell_lt p2) hb1.size
  clear p2 p3 p4 p5 pV pH
  have hB1 : Below w.heap.size w w1 := pR.trans (hb1.mono pR.size)
  have hown := World.ownsRow_lit (base := w1.heap.size) (e := 9) (size := 1) w1 #[.string ⟨#[86, 65, 76, 85, 69]⟩, .string a.item.key, sv (Lib.decDigits a.item.flags.toNat), sv (Lib.decDigits a.item.value.size)] 4 (Nat.le_refl _) (by decide) (by simp)
  generalize w1.alloc (.cells #[.string ⟨#[86, 65, 76, 85, 69]⟩, .string a.item.key, sv (Lib.decDigits a.item.flags.toNat), sv (Lib.decDigits a.item.value.size)] 9) = W1 at *
  have hlt1 : w1.heap.size < W1.heap.size := by
   rcases hown.2 with ⟨h, _⟩ | ⟨g, cap, cur, h, _, hg, _⟩
   ·simp at h
   ·obtain ⟨rfl, _⟩ : g = w1.heap.size ∧ cap = 4 := by simpa using h.symm
    exact (Array.getElem?_eq_some_iff.1 hg).1
  by_cases hv2 : c.verb = 2
  ·have hwd : wordsL c.verb a.item = headL a.item ++ [Lib.decDigits a.item.id.toNat] := by simp [wordsL, hv2]
   rw [hwd] at HJ
   have HWD := hidZ hwd
   have hb2 : (c.verb == 2) = true := by rw [hv2]; rfl
   clear hwd
   go_wp2_with fail
   refine (text_any a.item.id hi0 (by omega) _ g6).mono ?_
   rintro e w2 ⟨rfl, hb2⟩
   have hown2 := row_below hown hb2
   have HS2 : Held w c a w2 := held_keep hb2 ⟨g1, g2, g3, g4, g5, g6, g7⟩
   clear g1 g2 g3 g4 g5 g6
   go_wp2_with (at_builtin; refine wpList_append_own _ rfl _ _ 52 rfl w1.heap.size 9 i0 (.string ⟨#[]⟩) 1 16 Tryz.underlying52 Hi.out Hz.out.1 Hz.out.2.1 Hz.out.2.2 rfl (by decide) _ _ _ rfl (hown2.alloc _) ⟨w2.heap.size, 0, none⟩ 1 1 [sv (Lib.decDigits a.item.id.toNat)] rfl rfl ?c1 ?c2 ?c3 ?c4 ?c5 ?_)
   case c2 => intro u hu; obtain rfl := List.mem_singleton.1 hu; rfl
   case c3 => decide
   case c4 => decide
   case c5 => have := hb2.size; simp; omega
   ·go_simp
   ·intro v' w3 hown3 hgrow _
    have hb3 := below_append (Below.refl _ _) (by have := hb2.size; omega) hown2 hgrow
    obtain ⟨g1, g2, g3, g4, g5, g6, g7⟩ := held_keep' HP.out hb3 hlt0 HS2
    have hO3 : Own w3 w1.heap.size v' ((headL a.item ++ [Lib.decDigits a.item.id.toNat]).map sv) := Own.of_row hown3
    have HL := hidZ (tline_any (hO3.below (Below.refl w3.heap.size w3).drew (Nat.le_refl _)) (by simp) (by have := HJ.out; omega))
    clear hO3
    have hll := line_length (headL a.item ++ [Lib.decDigits a.item.id.toNat])
    have hj := HJ.out
    generalize hLL : lineOf (headL a.item ++ [Lib.decDigits a.item.id.toNat]) = LL at HL hll
    have HLL := hidZ hLL
    have hl4 : LL.length ≤ 1050002 := by omega
    have hv3 : a.item.value.size ≤ 1048576 := by omega
    have hq1 : ¬ 9223372036854775807 < LL.length + a.item.value.size := by omega
    have hq2 : ¬ 9223372036854775807 < LL.length + a.item.value.size + 2 := by omega
    clear hLL hll hj
    clear hown hown2 hown3 hgrow hb3 HS2 hb2
    go_wp2_with fail
    go_region_held3 (fun W => W.cell? ⟨w.heap.size + 1, 2, none⟩ = some (.string a.item.key) ∧ W.cell? ⟨w.heap.size + 1, 3, none⟩ = some (.string a.item.value) ∧ W.cell? ⟨w.heap.size + 1, 4, none⟩ = some (.int .u32 a.item.flags) ∧
      W.cell? ⟨w.heap.size + 1, 5, none⟩ = some (.int .u64 a.item.id) ∧ W.cell? ⟨w.heap.size, 0, none⟩ = some (.int .u8 c.verb) ∧ HasPow W ∧ Below w.heap.size w W)
     (first
      | (exact held_keep (Below.refl _ _).drew ⟨by assumption, by assumption, by assumption, by assumption, by assumption, by assumption, by assumption⟩)
      | (go_split_ands; exact held_keep (by assumption) ⟨by assumption, by assumption, by assumption, by assumption, by assumption, by assumption, by assumption⟩)
      | go_keep)
     (first
      | (go_split_ands; go_at_call 144; refine HL.out.mono ?_; rintro e w2 ⟨rfl, hb2⟩) | fail)
    go_split_ands
    go_wp2_with fail
    go_ret
    refine ⟨ret_congr ?_, by assumption⟩
    rw [HWD.out, HLL.out]
    exact sv_of (by rw [bs_append, bs_append])
  ·have hwd : wordsL c.verb a.item = headL a.item := by simp [wordsL, hv2]
   rw [hwd] at HJ
   have HWD := hidZ hwd
   have hb2 : (c.verb == 2) = false := by rw [beq_eq_false_iff_ne]; exact hv2
   have hO1 : Own W1 w1.heap.size (.slice (some ⟨w1.heap.size, 0, none⟩) 4 4) ((headL a.item).map sv) := Own.of_row hown
   have HL := hidZ (tline_any (hO1.below (Below.refl W1.heap.size W1).drew (Nat.le_refl _)) (by simp) (by have := HJ.out; omega))
   clear hO1
   have hll := line_length (headL a.item)
   have hj := HJ.out
   generalize hLL : lineOf (headL a.item) = LL at HL hll
   have HLL := hidZ hLL
   have hl4 : LL.length ≤ 1050002 := by omega
   have hv3 : a.item.value.size ≤ 1048576 := by omega
   have hq1 : ¬ 9223372036854775807 < LL.length + a.item.value.size := by omega
   have hq2 : ¬ 9223372036854775807 < LL.length + a.item.value.size + 2 := by omega
   clear hLL hll hj
   clear hwd hown
   go_wp2_with fail
   go_region_held3 (fun W => W.cell? ⟨w.heap.size + 1, 2, none⟩ = some (.string a.item.key) ∧ W.cell? ⟨w.heap.size + 1, 3, none⟩ = some (.string a.item.value) ∧ W.cell? ⟨w.heap.size + 1, 4, none⟩ = some (.int .u32 a.item.flags) ∧
     W.cell? ⟨w.heap.size + 1, 5, none⟩ = some (.int .u64 a.item.id) ∧ W.cell? ⟨w.heap.size, 0, none⟩ = some (.int .u8 c.verb) ∧ HasPow W ∧ Below w.heap.size w W)
    (first
     | (exact held_keep (Below.refl _ _).drew ⟨by assumption, by assumption, by assumption, by assumption, by assumption, by assumption, by assumption⟩)
     | (go_split_ands; exact held_keep (by assumption) ⟨by assumption, by assumption, by assumption, by assumption, by assumption, by assumption, by assumption⟩)
     | go_keep)
    (first
     | (go_split_ands; go_at_call 144; refine HL.out.mono ?_; rintro e w2 ⟨rfl, hb2⟩) | fail)
   go_split_ands
   go_wp2_with fail
   go_ret
   refine ⟨ret_congr ?_, by assumption⟩
   rw [HWD.out, HLL.out]
   exact sv_of (by rw [bs_append, bs_append])
 ·rw [show valueOf c.verb a.kind a.item = [] from by simp [valueOf, h11]]
  have hb11 : (a.kind == 11) = false := by rw [beq_eq_false_iff_ne]; exact h11
  clear h11
  go_enter Tryz.func105, Tryz.ntmps105
  go_wp2_with fail
  go_ret
  exact ⟨rfl, HB0.out⟩
end Go.Proofs.YtnkkoicbnbjlnaaGreatDoor
