/- runs and its document: names of verbs and of kinds, numbers. No condition but the numbers' own bounds. And what goes with it (4 texts). -/
import Derived.Test.YtnkkoicbnbjlnaaGreatDoorLowE
import Derived.Test.YtnkkoicbnbjlnaaGreatDoorLowF
import Derived.Test.YtnkkoicbnbjlnaaGreatDoorMcF
import Derived.Test.YtnkkoicbnbjlnaaGreatDoorLowA
import Derived.Test.YtnkkoicbnbjlnaaGreatDoorMcB
import Derived.Test.YtnkkoicbnbjlnaaGreatDoorMdA
namespace Go.Proofs.YtnkkoicbnbjlnaaGreatDoor
set_option maxRecDepth 100000
set_option maxHeartbeats 8000000
open Go.RowKit Go.ChangeMaps Go.MapKept
def verbNames : List (List UInt8) := [[63], [103, 101, 116], [103, 101, 116, 115], [115, 101, 116], [97, 100, 100], [114, 101, 112, 108, 97, 99, 101], [99, 97, 115], [100, 101, 108, 101, 116, 101], [116, 111, 117, 99, 104], [105, 110, 99, 114], [100, 101, 99, 114], [102, 108, 117, 115, 104, 95, 97, 108, 108], [118, 101, 114, 115, 105, 111, 110], [113, 117, 105, 116]]
def kindNames : List (List UInt8) := [[110, 111, 110, 101], [115, 116, 111, 114, 101, 100], [110, 111, 116, 95, 115, 116, 111, 114, 101, 100], [101, 120, 105, 115, 116, 115], [110, 111, 116, 95, 102, 111, 117, 110, 100], [110, 111, 95, 114, 111, 111, 109], [100, 101, 108, 101, 116, 101, 100], [116, 111, 117, 99, 104, 101, 100], [110, 117, 109, 98, 101, 114], [110, 111, 116, 95, 110, 117, 109, 98, 101, 114], [111, 107], [104, 105, 116], [109, 105, 115, 115]]
def nameN (L : List (List UInt8)) (n : Nat) : List UInt8 := (L[n]?).getD [63]
abbrev strV (l : List UInt8) : Value := .string ⟨l.toArray⟩
theorem idx_strK {g n k : Nat} (h : n < k) (W : World) : (Instr.indexAt 52 (.slice (some ⟨g, 0, none⟩) k k) (.int .i64 (n : Int))).run Tryz.prog W = .ok (.pointer (some ⟨g, n, none⟩)) W := by
 have h0 : (0 : Int) ≤ (n : Int) := by omega
 have h1 : (n : Int) < (k : Int) := by omega
 have h2 := Tryz.underlying52
 go_simp
theorem str_mem (w : World) (cs : Array Value) : (w.alloc (.cells cs 9)).heap[w.heap.size]? = some (.cells cs 9 (0, 0)) := heap_new w _
theorem names_cells (w : World) (L : List (List UInt8)) (j : Nat) (l : List UInt8) (h : L[j]? = some l) : (w.alloc (.cells (L.map strV).toArray 9)).cell? ⟨w.heap.size, j, none⟩ = some (strV l) := by
 have := (cellsAt (str_mem w (L.map strV).toArray) j).1
 rw [this]
 simp [h]
section
variable {w : World}
theorem rnamed_any {g n : Nat} {L : List (List UInt8)} (hg : ∀ (j : Nat) l, L[j]? = some l → w.cell? ⟨g, j, none⟩ = some (strV l)) :
  Calls Tryz.prog 39 #[.int .i64 (n : Int), .slice (some ⟨g, 0, none⟩) L.length L.length] w fun e w' => e = .returned (strV (nameN L n)) ∧ w = w' := by
 by_cases h : n < L.length
 ·have hl : L[n]? = some L[n] := List.getElem?_eq_getElem h
  have c := hg n _ hl
  have hnm : nameN L n = L[n] := by unfold nameN; rw [hl]; rfl
  rw [hnm]
  obtain ⟨l, hl2⟩ := xE (L[n])
  rw [← hl2] at c ⊢
  obtain ⟨k, hk⟩ := xE (L.length)
  rw [← hk] at h ⊢
  have hlt : decide (n < k) = true := decide_eq_true h
  have hix : ∀ W : World, (Instr.indexAt 52 (.slice (some ⟨g, 0, none⟩) k k) (.int .i64 (n : Int))).run Tryz.prog W = .ok (.pointer (some ⟨g, n, none⟩)) W := idx_strK h
  unfold strV at *
  clear hg hl hnm hl2 hk h
  go_enter Tryz.func39, Tryz.ntmps39
  go_wp2_with fail
  go_ret
  exact ⟨rfl, rfl⟩
 ·have hnm : nameN L n = [63] := by unfold nameN; rw [List.getElem?_eq_none (by omega)]; rfl
  rw [hnm]
  obtain ⟨k, hk⟩ := xE (L.length)
  rw [← hk] at h ⊢
  have hlt : decide (n < k) = false := decide_eq_false h
  unfold strV at *
  clear hg hnm hk h
  go_enter Tryz.func39, Tryz.ntmps39
  go_wp2_with fail
  go_ret
  exact ⟨rfl, rfl⟩
theorem refname_any {g n : Nat} {L : List (List UInt8)} (hn : n < 256) (hg : ∀ (j : Nat) l, L[j]? = some l → w.cell? ⟨g, j, none⟩ = some (strV l)) :
  Calls Tryz.prog 21 #[.int .i64 (n : Int), .slice (some ⟨g, 0, none⟩) L.length L.length] w fun e w' => e = .returned (strV (nameN L n)) ∧ w = w' := by
 have hz : decide ((0 : Int) ≤ (n : Int)) = true := decide_eq_true (by omega)
 by_cases h : n < L.length
 ·have hl : L[n]? = some L[n] := List.getElem?_eq_getElem h
  have c := hg n _ hl
  have hnm : nameN L n = L[n] := by unfold nameN; rw [hl]; rfl
  rw [hnm]
  obtain ⟨l, hl2⟩ := xE (L[n])
  rw [← hl2] at c ⊢
  obtain ⟨k, hk⟩ := xE (L.length)
  rw [← hk] at h ⊢
  have hlt : decide (n < k) = true := decide_eq_true h
  have hix : ∀ W : World, (Instr.indexAt 52 (.slice (some ⟨g, 0, none⟩) k k) (.int .i64 (n : Int))).run Tryz.prog W = .ok (.pointer (some ⟨g, n, none⟩)) W := idx_strK h
  unfold strV at *
  clear hg hl hnm hl2 hk h
  go_enter Tryz.func21, Tryz.ntmps21
  go_wp2_with fail
  go_ret
  exact ⟨rfl, rfl⟩
 ·have hnm : nameN L n = [63] := by unfold nameN; rw [List.getElem?_eq_none (by omega)]; rfl
  rw [hnm]
  obtain ⟨k, hk⟩ := xE (L.length)
  rw [← hk] at h ⊢
  have hlt : decide (n < k) = false := decide_eq_false h
  unfold strV at *
  clear hg hnm hk h
  go_enter Tryz.func21, Tryz.ntmps21
  go_wp2_with fail
  go_ret
  exact ⟨rfl, rfl⟩
theorem rverb_any {v : Nat} (hv : v < 256) : Calls Tryz.prog 16 #[.int .u8 (v : Int)] w fun e w' => e = .returned (strV (nameN verbNames v)) ∧ Below w.heap.size w w' := by
 have hcv : IntKind.i64.wrap (v : Int) = (v : Int) := IntWalk.i64_in _ (by omega)
 obtain ⟨w1, hw1⟩ := xE (w.alloc (.cells (verbNames.map strV).toArray 9))
 have HW := hidZ (hw1.trans (by rfl : _ = w.alloc (.cells #[.string ⟨#[63]⟩, .string ⟨#[103, 101, 116]⟩, .string ⟨#[103, 101, 116, 115]⟩, .string ⟨#[115, 101, 116]⟩, .string ⟨#[97, 100, 100]⟩, .string ⟨#[114, 101, 112, 108, 97, 99, 101]⟩, .string ⟨#[99, 97, 115]⟩, .string ⟨#[100, 101, 108, 101, 116, 101]⟩, .string ⟨#[116, 111, 117, 99, 104]⟩, .string ⟨#[105, 110, 99, 114]⟩, .string ⟨#[100, 101, 99, 114]⟩, .string ⟨#[102, 108, 117, 115, 104, 95, 97, 108, 108]⟩, .string ⟨#[118, 101, 114, 115, 105, 111, 110]⟩, .string ⟨#[113, 117, 105, 116]⟩] 9)))
 have HB := hidZ (show Below w.heap.size w w1 from by rw [hw1]; exact (Below.refl _ _).alloc (Nat.le_refl _) _)
 have HN := hidZ (rnamed_any (w := w1) (g := w.heap.size) (n := v) (L := verbNames) (fun j l h => by rw [hw1]; exact names_cells w _ j l h))
 clear hw1 hv
 go_enter Tryz.func16, Tryz.ntmps16
 go_upto_region 1 with fail
 go_wp2_with fail
 rw [← HW.out]
 refine HN.out.mono ?_
 rintro e w2 ⟨rfl, rfl⟩
 go_wp2_with fail
 go_ret
 exact ⟨rfl, HB.out⟩
theorem rkind_any {v : Nat} (hv : v < 256) : Calls Tryz.prog 17 #[.int .u8 (v : Int)] w fun e w' => e = .returned (strV (nameN kindNames v)) ∧ Below w.heap.size w w' := by
 have hcv : IntKind.i64.wrap (v : Int) = (v : Int) := IntWalk.i64_in _ (by omega)
 obtain ⟨w1, hw1⟩ := xE (w.alloc (.cells (kindNames.map strV).toArray 9))
 have HW := hidZ (hw1.trans (by rfl : _ = w.alloc (.cells #[.string ⟨#[110, 111, 110, 101]⟩, .string ⟨#[115, 116, 111, 114, 101, 100]⟩, .string ⟨#[110, 111, 116, 95, 115, 116, 111, 114, 101, 100]⟩, .string ⟨#[101, 120, 105, 115, 116, 115]⟩, .string ⟨#[110, 111, 116, 95, 102, 111, 117, 110, 100]⟩, .string ⟨#[110, 111, 95, 114, 111, 111, 109]⟩, .string ⟨#[100, 101, 108, 101, 116, 101, 100]⟩, .string ⟨#[116, 111, 117, 99, 104, 101, 100]⟩, .string ⟨#[110, 117, 109, 98, 101, 114]⟩, .string ⟨#[110, 111, 116, 95, 110, 117, 109, 98, 101, 114]⟩, .string ⟨#[111, 107]⟩, .string ⟨#[104, 105, 116]⟩, .string ⟨#[109, 105, 115, 115]⟩] 9)))
 have HB := hidZ (show Below w.heap.size w w1 from by rw [hw1]; exact (Below.refl _ _).alloc (Nat.le_refl _) _)
 have HN := hidZ (rnamed_any (w := w1) (g := w.heap.size) (n := v) (L := kindNames) (fun j l h => by rw [hw1]; exact names_cells w _ j l h))
 clear hw1 hv
 go_enter Tryz.func17, Tryz.ntmps17
 go_upto_region 1 with fail
 go_wp2_with fail
 rw [← HW.out]
 refine HN.out.mono ?_
 rintro e w2 ⟨rfl, rfl⟩
 go_wp2_with fail
 go_ret
 exact ⟨rfl, HB.out⟩
theorem refnumber_any {n : Int} (h0 : -9223372036854775808 ≤ n) (h1 : n ≤ 9223372036854775807) : Calls Tryz.prog 20 #[.int .i64 n] w fun e w' => e = .returned (strV (Lib.itoa n)) ∧ w = w' := by
 by_cases hn : n < 0
 ·have hd : decide (n < 0) = true := decide_eq_true hn
  obtain ⟨u, hu⟩ : ∃ u : Nat, (u : Int) = -n := ⟨(-n).toNat, by omega⟩
  have c1 : IntKind.u64.wrap n = 18446744073709551616 + n := by rw [IntKind.wrap_u64]; omega
  have c2 : IntKind.u64.wrap (-(18446744073709551616 + n)) = (u : Int) := by rw [IntKind.wrap_u64]; omega
  have HT := hidZ (refText_any (u : Int) (by omega) (by omega) w)
  have hlen : ¬ 9223372036854775807 < 1 + (Lib.decDigits u).length := by
   have := dec_len 20 u (by omega) (Nat.lt_trans (show u < 18446744073709551616 by omega) (by decide))
   omega
  have hi : Lib.itoa n = 45 :: Lib.decDigits u := by unfold Lib.itoa; rw [if_pos hn, show n.natAbs = u from by omega]
  rw [hi]
  clear hi hn h0 h1 hu
  go_enter Tryz.func20, Tryz.ntmps20
  go_wp2_with fail
  refine HT.out.mono ?_
  rintro e w2 ⟨rfl, rfl⟩
  go_wp2_with fail
  go_ret
  exact ⟨by congr 1, rfl⟩
 ·have hd : decide (n < 0) = false := decide_eq_false hn
  have c1 : IntKind.u64.wrap n = n := by rw [IntKind.wrap_u64]; omega
  have HT := hidZ (refText_any n (by omega) (by omega) w)
  have hi : Lib.itoa n = Lib.decDigits n.toNat := by unfold Lib.itoa; rw [if_neg hn]
  rw [hi]
  clear hi hn h0 h1
  go_enter Tryz.func20, Tryz.ntmps20
  go_wp2_with fail
  refine HT.out.mono ?_
  rintro e w2 ⟨rfl, rfl⟩
  go_wp2_with fail
  go_ret
  exact ⟨rfl, rfl⟩
end
open Go.RowKit Go.ChangeMaps Go.MapKept
theorem rjoin_any {w : World} {g c n : Nat} {L : List (List UInt8)} (hq : ∀ (j : Nat) l, L[j]? = some l → w.cell? ⟨g, j, none⟩ = some (strV l)) (hg : g < w.heap.size) (hn : n = L.length) (hc : L.length ≤ c) (hL : L.length ≤ 100) (hl : (Lib.join L [32]).length ≤ 140737488355328) :
  Calls Tryz.prog 19 #[.slice (some ⟨g, 0, none⟩) n c, .string ⟨#[32]⟩] w fun e w' => e = .returned (strV (Lib.join L [32])) ∧ Below w.heap.size w w' := by
 subst hn
 have hm : (L.map fun l => (⟨l.toArray⟩ : ByteArray)).map (·.data.toList) = L := by simp [Function.comp_def]
 have h := Tryz.strings_Join g 0 c (L.map fun l => (⟨l.toArray⟩ : ByteArray)) ⟨#[32]⟩ w (fun j y hj => by
  rw [List.getElem?_map] at hj
  cases hl2 : L[j]? with
  | none => rw [hl2] at hj; cases hj
  | some l =>
   rw [hl2] at hj
   cases hj
   rw [Nat.zero_add]
   exact hq j l hl2) hg (by simp; omega) (by simpa using hc) (by rw [hm]; exact hl)
 rw [hm] at h
 simpa using h
theorem rname_len (L : List (List UInt8)) (k : Nat) (hk : 1 ≤ k) (h : ∀ l ∈ L, l.length ≤ k) (n : Nat) : (nameN L n).length ≤ k := by
 unfold nameN
 cases hl : L[n]? with
 | none => simpa using hk
 | some l => simpa using h l (List.mem_of_getElem? hl)
theorem itoa_short (n : Int) (h0 : -9223372036854775808 ≤ n) (h1 : n ≤ 9223372036854775807) : (Lib.itoa n).length ≤ 21 := by
 unfold Lib.itoa
 split
 ·have := dec_len 20 n.natAbs (by omega) (Nat.lt_trans (show n.natAbs < 18446744073709551616 by omega) (by decide))
  simp
  omega
 ·have := dec_len 20 n.toNat (by omega) (Nat.lt_trans (show n.toNat < 18446744073709551616 by omega) (by decide))
  omega
theorem join_leK : ∀ L : List (List UInt8), (Lib.join L [32]).length ≤ (L.map fun l => l.length + 1).sum
 | [] => by simp [Lib.join_nil]
 | l :: r => by
  have ht : ∀ r : List (List UInt8), (Lib.joinTail [32] r).length = (r.map fun l => l.length + 1).sum := fun r => by
   induction r with
   | nil => rfl
   | cons y r ih =>
    unfold Lib.joinTail at ih ⊢
    simp only [List.map_cons, List.flatten_cons, List.length_append, List.sum_cons, ih, List.length_cons, List.length_nil]
    omega
  rw [Lib.join_cons, List.length_append, ht]
  simp
theorem app_word {w : World} {g h : Nat} {cs : List Value} {u : Value} (hl : cs.length = 7) (hu : u.oneCell' = true) (hq : w.heap[g]? = some (.cells cs.toArray 9 (0, 0))) (hh : w.heap[h]? = some (.cells #[u] 9 (0, 0))) :
  ∃ g' c' W, (Builtin.append_ #[52, 52] 52 #[.slice (some ⟨g, 0, none⟩) 7 7, .slice (some ⟨h, 0, none⟩) 1 1]).run Tryz.prog w = .ok (.slice (some ⟨g', 0, none⟩) 8 c') W ∧ 8 ≤ c' ∧ g' < W.heap.size ∧ (∀ j v, (cs ++ [u])[j]? = some v → W.cell? ⟨g', j, none⟩ = some v) ∧ w.grownBy W (some g) := by
 obtain ⟨i0, hi0, hz0, hz1, hz2⟩ := info_parts infoStr
 have hnews : ∀ j v, ([u] : List Value)[j]? = some v → w.cell? (Addr.add ⟨h, 0, none⟩ j) = some v := by
  intro j v hj
  cases j with
  | zero =>
   cases hj
   simpa [Addr.add] using (cellsAt hh 0).1
  | succ j => simp at hj
 have hg : g < w.heap.size := (Array.getElem?_eq_some_iff.1 hq).1
 obtain ⟨v', w', hr, h2, h3, h4, h5⟩ := run_append_own_at (P := Tryz.prog) w g 52 52 9 i0 _ 1 16 Tryz.underlying52 hi0 hz0 hz1 hz2 (by rfl) (by omega) (.slice (some ⟨g, 0, none⟩) 7 7) 7 cs
  ⟨by omega, .inr ⟨g, 7, cs.toArray, rfl, Nat.le_refl _, hq, Nat.le_refl _, by unfold maxLen; omega, by simp [hl], by simpa using List.take_of_length_le (by omega)⟩⟩ ⟨h, 0, none⟩ 1 1 [u] rfl hnews (fun v hv => by simp at hv; rw [hv]; exact hu) (by unfold maxLen; omega) (by omega) (Nat.le_of_lt hg)
 obtain ⟨h6, h7⟩ := h2
 rcases h7 with ⟨-, h7⟩ | ⟨g', c', cur, rfl, h8, h9, h10, -, -, h11⟩
 ·omega
 ·refine ⟨g', c', w', hr, h10, (Array.getElem?_eq_some_iff.1 h9).1, fun j v hj => ?_, h3⟩
  rw [(cellsAt h9 j).1]
  rw [← h11] at hj
  have hj2 := hj
  rw [List.getElem?_take] at hj2
  split at hj2
  ·simpa using hj2
  ·cases hj2
structure RowD where
 th : Int
 vb : Nat
 key : List UInt8
 val : ByteArray
 fl : Int
 exp : Int
 id : Int
 by' : Int
 fr : Int
 tt : Int
 kd : Nat
 num : Nat
 ik : ByteArray
 iv : ByteArray
 ifl : Int
 iid : Nat
 dies : Int
 gen : Int
 ep : Int
 pt : Int
def RI64 (n : Int) : Prop := -9223372036854775808 ≤ n ∧ n ≤ 9223372036854775807
structure RowD.Ok (x : RowD) : Prop where
 th : RI64 x.th
 fr : RI64 x.fr
 tt : RI64 x.tt
 pt : RI64 x.pt
 vb : x.vb < 256
 kd : x.kd < 256
 num : x.num < 18446744073709551616
 iid : x.iid < 18446744073709551616
 key : x.key.length ≤ 3000
abbrev RowD.cells (x : RowD) : List Value := [.int .i64 x.th, .int .u8 (x.vb : Int), strV x.key, .string x.val, .int .u32 x.fl, .int .i64 x.exp, .int .u64 x.id, .int .u64 x.by', .int .i64 x.fr, .int .i64 x.tt, .int .u8 (x.kd : Int), .int .u64 (x.num : Int), .string x.ik, .string x.iv, .int .u32 x.ifl, .int .u64 (x.iid : Int), .int .i64 x.dies, .int .i64 x.gen, .int .u64 x.ep, .int .i64 x.pt]
def keyL (l : List UInt8) : List UInt8 := if l = [] then [45] else l
def rowWd (x : RowD) : List (List UInt8) := [Lib.itoa x.th, nameN verbNames x.vb, keyL x.key, Lib.itoa x.fr, Lib.itoa x.tt, Lib.itoa x.pt, nameN kindNames x.kd]
def moreL (x : RowD) : List (List UInt8) := if x.kd = 1 ∨ x.kd = 8 then [Lib.decDigits x.num] else if x.kd = 11 then [Lib.decDigits x.iid] else []
def rowL (x : RowD) : List UInt8 := Lib.join (rowWd x ++ moreL x) [32]
theorem rowWd_len (x : RowD) (hx : x.Ok) : ((rowWd x).map fun l => l.length + 1).sum ≤ 3200 := by
 have h1 := itoa_short x.th hx.th.1 hx.th.2
 have h2 := itoa_short x.fr hx.fr.1 hx.fr.2
 have h3 := itoa_short x.tt hx.tt.1 hx.tt.2
 have h4 := itoa_short x.pt hx.pt.1 hx.pt.2
 have h5 := rname_len verbNames 9 (by omega) (by decide) x.vb
 have h6 := rname_len kindNames 10 (by omega) (by decide) x.kd
 have h7 : (keyL x.key).length ≤ 3001 := by
  have := hx.key
  unfold keyL
  split
  ·simp
  ·omega
 simp only [rowWd, List.map_cons, List.map_nil, List.sum_cons, List.sum_nil]
 omega
theorem rowWd_at {g : Nat} {x : RowD} {W : World} (h : W.heap[g]? = some (.cells ((rowWd x).map strV).toArray 9 (0, 0))) (j : Nat) (l : List UInt8) (hj : (rowWd x)[j]? = some l) : W.cell? ⟨g, j, none⟩ = some (strV l) := by
 rw [(cellsAt h j).1]
 simp [hj]
def RowS (b : Nat) (x : RowD) (V : World) : Prop := V.heap[b]? = some (.cells x.cells.toArray 33 (0, 0)) ∧ HasPow V
theorem RowS.below {b : Nat} {x : RowD} {V W : World} (h : RowS b x V) (hb : Below V.heap.size V W) : RowS b x W := ⟨boxAt h.1 hb, h.2.below hb⟩
theorem RowS.cell {b : Nat} {x : RowD} {V : World} (h : RowS b x V) (j : Nat) : V.cell? ⟨b, j, none⟩ = x.cells.toArray[j]? := (cellsAt h.1 j).1
theorem rowApp_any {x : RowD} {n : Nat} (hx : x.Ok) (hn : n < 18446744073709551616) {w w5 : World} {g : Nat} (hw : Below w.heap.size w w5) (hg0 : w.heap.size ≤ g) (hq : w5.heap[g]? = some (.cells ((rowWd x).map strV).toArray 9 (0, 0))) (w6 : World) (hb6 : Below w5.heap.size w5 w6) :
  ∃ g' c' W, (Builtin.append_ #[52, 52] 52 #[.slice (some ⟨g, 0, none⟩) 7 7, .slice (some ⟨w6.heap.size, 0, none⟩) 1 1]).run Tryz.prog (w6.alloc (.cells #[sv (Lib.decDigits n)] 9)) = .ok (.slice (some ⟨g', 0, none⟩) 8 c') W ∧
   Hid ((Calls Tryz.prog 19 #[.slice (some ⟨g', 0, none⟩) 8 c', .string ⟨#[32]⟩] W fun e w' => e = .returned (strV (Lib.join (rowWd x ++ [Lib.decDigits n]) [32])) ∧ Below w.heap.size w w' ∧ True) ∧ True) := by
 have hb7 : Below w6.heap.size w6 (w6.alloc (.cells #[sv (Lib.decDigits n)] 9)) := (Below.refl _ _).alloc (Nat.le_refl _) _
 obtain ⟨g', c', W, hr, h8, hg', hc, hgr⟩ := app_word (w := w6.alloc (.cells #[sv (Lib.decDigits n)] 9)) (g := g) (h := w6.heap.size) (cs := (rowWd x).map strV) (u := sv (Lib.decDigits n)) rfl rfl (boxAt (boxAt hq hb6) hb7) (heap_new w6 _)
 refine ⟨g', c', W, hr, hidZ ⟨?_, trivial⟩⟩
 have h1 := hw.trans (hb6.mono hw.size)
 have h2 := h1.trans (hb7.mono h1.size)
 have h3 : Below w.heap.size w W := h2.trans ((Chg.of_grown (M := fun k => k = g) hgr (fun _ _ e => (Option.some.inj e).symm)).below (fun k hk => ⟨Nat.lt_of_lt_of_le hk h2.size, fun e => by omega⟩))
 have hl : (Lib.join (rowWd x ++ [Lib.decDigits n]) [32]).length ≤ 140737488355328 := by
  refine Nat.le_trans (join_leK _) ?_
  have e1 := rowWd_len x hx
  have e2 := dec_len 20 n (by omega) (Nat.lt_trans hn (by decide))
  rw [List.map_append, List.sum_append]
  simp only [List.map_cons, List.map_nil, List.sum_cons, List.sum_nil]
  omega
 refine (rjoin_any (w := W) (g := g') (c := c') (n := 8) (L := rowWd x ++ [Lib.decDigits n]) (fun j l hj => hc j (strV l) ?_) hg' rfl h8 (show 8 ≤ 100 by omega) hl).mono ?_
 ·rw [show (rowWd x).map strV ++ [sv (Lib.decDigits n)] = (rowWd x ++ [Lib.decDigits n]).map strV from by rw [List.map_append]; rfl, List.getElem?_map, hj]
  rfl
 ·rintro e w' ⟨he, hb⟩
  exact ⟨he, h3.trans (hb.mono h3.size), trivial⟩
section
variable {w : World}
theorem rowWords_any (x : RowD) (hx : x.Ok) (hP : HasPow w) : Calls Tryz.prog 5 #[.agg x.cells.toArray] w fun e w' => e = .returned (strV (rowL x)) ∧ Below w.heap.size w w' := by
 obtain ⟨b, hb0⟩ := xE (w.heap.size)
 obtain ⟨w1, hw1⟩ := xE (w.alloc (.cells x.cells.toArray 33))
 have hb1 : Below w.heap.size w w1 := bal hw1
 have hS1 : RowS b x w1 := ⟨by rw [hw1, hb0]; exact heap_new w _, hP.below hb1⟩
 have HS1 := hidZ hS1
 have HB1 := hidZ hb1
 have HX := hidZ hx
 have HW := hidZ hw1
 have HB0 := hidZ hb0
 have k2 : w1.cell? ⟨b, 2, none⟩ = some (strV x.key) := hS1.cell 2
 clear hb1 hS1 hx hw1 hb0 hP
 go_enter Tryz.func5, Tryz.ntmps5
 go_upto_region 1 with fail
 rw [← HW.out, ← HB0.out]
 clear HW
 obtain ⟨kw, hkv⟩ : ∃ kw : ByteArray, kw = ⟨(keyL x.key).toArray⟩ := ⟨_, rfl⟩
 have HKV := hidZ hkv
 obtain ⟨kb, hkb⟩ : ∃ kb : ByteArray, kb = ⟨x.key.toArray⟩ := ⟨_, rfl⟩
 have hcase : kb.toList.isEmpty = true ∧ Hid ((⟨#[45]⟩ : ByteArray) = kw) ∨ kb.toList.isEmpty = false ∧ Hid (kb = kw) := by
  have e : bs kb = x.key := by rw [hkb]
  cases h0 : kb.toList.isEmpty with
  | true =>
   refine .inl ⟨rfl, hidZ ?_⟩
   have := bs_empty h0
   rw [e] at this
   rw [hkv, this]
   rfl
  | false =>
   refine .inr ⟨rfl, hidZ ?_⟩
   have := bs_some h0
   rw [e] at this
   rw [hkv, hkb]
   unfold keyL
   rw [if_neg this]
 rw [show strV x.key = .string kb from by unfold strV; rw [hkb]] at k2
 clear hkv hkb
 rcases hcase with ⟨hd, hkv2⟩ | ⟨hd, hkv2⟩
 all_goals
  go_upto_region 4 with fail
  rw [hkv2.out]
  clear hkv2 hd k2
  have hSD : RowS b x w1 := HS1.out
  refine wp_region_held_drew (S := RowS b x) (by kernel_rfl) hSD (fun hHe => ?_)
  refine tkz 0 rfl ?_
  try simp only [tp, tz]
  refine tkv 1 (v := ?_) rfl ?_ ?_
  rotate_left 1
  ·((intro w hSw; (try dsimp only at hSw); have c0 := hSw.cell 0; rw [show x.cells.toArray[0]? = some _ from rfl] at c0; go_simp) <;> with_reducible rfl)
  try simp only [tp, tz]
  refine tkz 3 rfl ?_
  try simp only [tp, tz]
  refine tkz 4 rfl ?_
  try simp only [tp, tz]
  refine tkv 5 (v := ?_) rfl ?_ ?_
  rotate_left 1
  ·((intro w hSw; (try dsimp only at hSw); have c0 := hSw.cell 1; rw [show x.cells.toArray[1]? = some _ from rfl] at c0; go_simp) <;> with_reducible rfl)
  try simp only [tp, tz]
  refine tkz 7 rfl ?_
  try simp only [tp, tz]
  refine tkz 8 rfl ?_
  try simp only [tp, tz]
  refine tkv 9 (v := ?_) rfl ?_ ?_
  rotate_left 1
  ·((intro w hSw; (try dsimp only at hSw); have c0 := hSw.cell 8; rw [show x.cells.toArray[8]? = some _ from rfl] at c0; go_simp) <;> with_reducible rfl)
  try simp only [tp, tz]
  refine tkz 11 rfl ?_
  try simp only [tp, tz]
  refine tkv 12 (v := ?_) rfl ?_ ?_
  rotate_left 1
  ·((intro w hSw; (try dsimp only at hSw); have c0 := hSw.cell 9; rw [show x.cells.toArray[9]? = some _ from rfl] at c0; go_simp) <;> with_reducible rfl)
  try simp only [tp, tz]
  refine tkz 14 rfl ?_
  try simp only [tp, tz]
  refine tkv 15 (v := ?_) rfl ?_ ?_
  rotate_left 1
  ·((intro w hSw; (try dsimp only at hSw); have c0 := hSw.cell 19; rw [show x.cells.toArray[19]? = some _ from rfl] at c0; go_simp) <;> with_reducible rfl)
  try simp only [tp, tz]
  refine tkz 17 rfl ?_
  try simp only [tp, tz]
  refine tkz 18 rfl ?_
  try simp only [tp, tz]
  refine tkv 19 (v := ?_) rfl ?_ ?_
  rotate_left 1
  ·((intro w hSw; (try dsimp only at hSw); have c0 := hSw.cell 10; rw [show x.cells.toArray[10]? = some _ from rfl] at c0; go_simp) <;> with_reducible rfl)
  try simp only [tp, tz]
  refine rdy 2 rfl (fun K hK => ?_)
  go_simp
  go_at_call 15
  refine (itoa_at x.th HX.out.th.1 HX.out.th.2 _ hHe.2).mono ?_
  rintro e V2 ⟨rfl, hbV2⟩
  refine hK.out _ _ (RowS.below hHe hbV2) (fun hHf => ?_)
  clear hK K
  try simp only [tp, tz]
  refine rdy 6 rfl (fun K hK => ?_)
  go_simp
  go_at_call 16
  refine (rverb_any HX.out.vb).mono ?_
  rintro e V6 ⟨rfl, hbV6⟩
  refine hK.out _ _ (RowS.below hHf hbV6) (fun hHf => ?_)
  clear hK K
  try simp only [tp, tz]
  refine rdy 10 rfl (fun K hK => ?_)
  go_simp
  go_at_call 15
  refine (itoa_at x.fr HX.out.fr.1 HX.out.fr.2 _ hHf.2).mono ?_
  rintro e V10 ⟨rfl, hbV10⟩
  refine hK.out _ _ (RowS.below hHf hbV10) (fun hHf => ?_)
  clear hK K
  try simp only [tp, tz]
  refine rdy 13 rfl (fun K hK => ?_)
  go_simp
  go_at_call 15
  refine (itoa_at x.tt HX.out.tt.1 HX.out.tt.2 _ hHf.2).mono ?_
  rintro e V13 ⟨rfl, hbV13⟩
  refine hK.out _ _ (RowS.below hHf hbV13) (fun hHf => ?_)
  clear hK K
  try simp only [tp, tz]
  refine rdy 16 rfl (fun K hK => ?_)
  go_simp
  go_at_call 15
  refine (itoa_at x.pt HX.out.pt.1 HX.out.pt.2 _ hHf.2).mono ?_
  rintro e V16 ⟨rfl, hbV16⟩
  refine hK.out _ _ (RowS.below hHf hbV16) (fun hHf => ?_)
  clear hK K
  try simp only [tp, tz]
  refine rdy 20 rfl (fun K hK => ?_)
  go_simp
  go_at_call 17
  refine (rkind_any HX.out.kd).mono ?_
  rintro e V20 ⟨rfl, hbV20⟩
  refine hK.out _ _ (RowS.below hHf hbV20) (fun hHf => ?_)
  clear hK K
  try simp only [tp, tz]
  refine rdy 21 rfl (fun K hK => ?_)
  go_simp
  refine hK.out _ _ (RowS.below hHf ((Below.refl _ V20).alloc (Nat.le_refl _) _)) (fun hHf => ?_)
  clear hK K
  try simp only [tp, tz]
  refine tkz 22 rfl ?_
  try simp only [tp, tz]
  refine wpAnyH_done (by kernel_rfl) ?_ _
  clear hHe
  have a2 : Below w1.heap.size w1 V2 := ((Below.refl _ w1).drew).trans hbV2
  have a6 := a2.trans (hbV6.mono a2.size)
  have a10 := a6.trans (hbV10.mono a6.size)
  have a13 := a10.trans (hbV13.mono a10.size)
  have a16 := a13.trans (hbV16.mono a13.size)
  have a20 := a16.trans (hbV20.mono a16.size)
  have HBB := hidZ (HB1.out.trans (a20.mono HB1.out.size))
  clear a2 a6 a10 a13 a16 a20 hbV2 hbV6 hbV10 hbV13 hbV16 hbV20 HS1 HB1 HB0
  have hq5 : (V20.alloc (.cells #[sv (Lib.itoa x.th), strV (nameN verbNames x.vb), .string kw, sv (Lib.itoa x.fr), sv (Lib.itoa x.tt), sv (Lib.itoa x.pt), strV (nameN kindNames x.kd)] 9)).heap[V20.heap.size]? = some (.cells #[sv (Lib.itoa x.th), strV (nameN verbNames x.vb), .string kw, sv (Lib.itoa x.fr), sv (Lib.itoa x.tt), sv (Lib.itoa x.pt), strV (nameN kindNames x.kd)] 9 (0, 0)) := heap_new V20 _
  have hb5 : Below V20.heap.size V20 (V20.alloc (.cells #[sv (Lib.itoa x.th), strV (nameN verbNames x.vb), .string kw, sv (Lib.itoa x.fr), sv (Lib.itoa x.tt), sv (Lib.itoa x.pt), strV (nameN kindNames x.kd)] 9)) := (Below.refl _ _).alloc (Nat.le_refl _) _
  generalize V20.alloc (.cells #[sv (Lib.itoa x.th), strV (nameN verbNames x.vb), .string kw, sv (Lib.itoa x.fr), sv (Lib.itoa x.tt), sv (Lib.itoa x.pt), strV (nameN kindNames x.kd)] 9) = w5 at hq5 hb5 hHf ⊢
  obtain ⟨g, hg⟩ := xE (V20.heap.size)
  rw [← hg] at hq5 ⊢
  have HB5 := hidZ (show Below w.heap.size w w5 ∧ g < w5.heap.size ∧ w.heap.size ≤ g from ⟨HBB.out.trans (hb5.mono HBB.out.size), (Array.getElem?_eq_some_iff.1 hq5).1, by rw [hg]; exact HBB.out.size⟩)
  have HQ5 := hidZ hq5
  have HS5 := hidZ hHf
  have k10 : w5.cell? ⟨b, 10, none⟩ = some (.int .u8 (x.kd : Int)) := hHf.cell 10
  have k11 : w5.cell? ⟨b, 11, none⟩ = some (.int .u64 (x.num : Int)) := hHf.cell 11
  have k15 : w5.cell? ⟨b, 15, none⟩ = some (.int .u64 (x.iid : Int)) := hHf.cell 15
  clear hq5 hb5 hHf hg HBB hSD
  obtain ⟨kd, hkd⟩ := xE (x.kd)
  rw [← hkd] at k10 ⊢
  by_cases h1 : kd = 1
  ·subst h1
   have HKD := hidZ hkd
   clear hkd
   have k10' : w5.cell? ⟨b, 10, none⟩ = some (.int .u8 1) := k10
   clear k10
   have HF := hidZ (formatUint_any x.num HX.out.num w5 HS5.out.2)
   have hws : rowWd x ++ moreL x = rowWd x ++ [Lib.decDigits x.num] := by
    have hz := HKD.out
    unfold moreL
    rw [if_pos (by omega)]
   have HAP := hidZ (rowApp_any (x := x) (n := x.num) HX.out HX.out.num (w := w) (w5 := w5) (g := g) HB5.out.1 HB5.out.2.2 (by rw [HQ5.out, HKV.out]; rfl))
   go_wp2_with (first
    | (go_at_call 18; refine HF.out.mono ?_; rintro e w6 ⟨rfl, hb6⟩; obtain ⟨g', c', W, hrun, HA⟩ := HAP.out w6 hb6)
    | (at_builtin; refine wpList_plain (by rfl) fun _ hK => wp_append_run (.tmp 38) (.tmp 43) 52 (by rfl) _ _ _ (by rfl) (by rfl) hrun (hK _ _ ?_))
    | (go_at_call 19; refine HA.out.1.mono ?_; rintro e w7 ⟨rfl, hb7⟩)
    | fail)
   go_ret
   refine ⟨?_, hb7.1⟩
   rw [show rowL x = Lib.join (rowWd x ++ [Lib.decDigits x.num]) [32] from by unfold rowL; rw [hws]]
   rfl
  ·by_cases h8 : kd = 8
   ·subst h8
    have HKD := hidZ hkd
    clear hkd
    have k10' : w5.cell? ⟨b, 10, none⟩ = some (.int .u8 8) := k10
    clear k10
    have HF := hidZ (formatUint_any x.num HX.out.num w5 HS5.out.2)
    have hws : rowWd x ++ moreL x = rowWd x ++ [Lib.decDigits x.num] := by
     have hz := HKD.out
     unfold moreL
     rw [if_pos (by omega)]
    have HAP := hidZ (rowApp_any (x := x) (n := x.num) HX.out HX.out.num (w := w) (w5 := w5) (g := g) HB5.out.1 HB5.out.2.2 (by rw [HQ5.out, HKV.out]; rfl))
    go_wp2_with (first
     | (go_at_call 18; refine HF.out.mono ?_; rintro e w6 ⟨rfl, hb6⟩; obtain ⟨g', c', W, hrun, HA⟩ := HAP.out w6 hb6)
     | (at_builtin; refine wpList_plain (by rfl) fun _ hK => wp_append_run (.tmp 38) (.tmp 43) 52 (by rfl) _ _ _ (by rfl) (by rfl) hrun (hK _ _ ?_))
     | (go_at_call 19; refine HA.out.1.mono ?_; rintro e w7 ⟨rfl, hb7⟩)
     | fail)
    go_ret
    refine ⟨?_, hb7.1⟩
    rw [show rowL x = Lib.join (rowWd x ++ [Lib.decDigits x.num]) [32] from by unfold rowL; rw [hws]]
    rfl
   ·by_cases h11 : kd = 11
    ·subst h11
     have HKD := hidZ hkd
     clear hkd
     have k10' : w5.cell? ⟨b, 10, none⟩ = some (.int .u8 11) := k10
     clear k10
     have HF := hidZ (formatUint_any x.iid HX.out.iid w5 HS5.out.2)
     have hws : rowWd x ++ moreL x = rowWd x ++ [Lib.decDigits x.iid] := by
      have hz := HKD.out
      unfold moreL
      rw [if_neg (by omega), if_pos (by omega)]
     have HAP := hidZ (rowApp_any (x := x) (n := x.iid) HX.out HX.out.iid (w := w) (w5 := w5) (g := g) HB5.out.1 HB5.out.2.2 (by rw [HQ5.out, HKV.out]; rfl))
     go_wp2_with (first
      | (go_at_call 18; refine HF.out.mono ?_; rintro e w6 ⟨rfl, hb6⟩; obtain ⟨g', c', W, hrun, HA⟩ := HAP.out w6 hb6)
      | (at_builtin; refine wpList_plain (by rfl) fun _ hK => wp_append_run (.tmp 47) (.tmp 53) 52 (by rfl) _ _ _ (by rfl) (by rfl) hrun (hK _ _ ?_))
      | (go_at_call 19; refine HA.out.1.mono ?_; rintro e w7 ⟨rfl, hb7⟩)
      | fail)
     go_ret
     refine ⟨?_, hb7.1⟩
     rw [show rowL x = Lib.join (rowWd x ++ [Lib.decDigits x.iid]) [32] from by unfold rowL; rw [hws]]
     rfl
    ·have HKD := hidZ (And.intro hkd (And.intro h1 (And.intro h8 h11)))
     clear hkd
     have g1 : ¬ ((kd : Int) = 1) := by omega
     have g8 : ¬ ((kd : Int) = 8) := by omega
     have g11 : ¬ ((kd : Int) = 11) := by omega
     have HJ := hidZ (rjoin_any (w := w5) (g := g) (c := 7) (n := 7) (L := rowWd x) (rowWd_at (by rw [HQ5.out, HKV.out]; rfl)) HB5.out.2.1 rfl (Nat.le_refl 7) (show 7 ≤ 100 by omega) (Nat.le_trans (join_leK _) (Nat.le_trans (rowWd_len x HX.out) (by omega))))
     go_wp2_with (first
      | (go_at_call 19; refine HJ.out.mono ?_; rintro e w6 ⟨rfl, hb6⟩)
      | fail)
     go_ret
     refine ⟨?_, HB5.out.1.trans (hb6.mono HB5.out.1.size)⟩
     have hz := HKD.out
     rw [show rowL x = Lib.join (rowWd x) [32] from by
      unfold rowL moreL
      rw [if_neg (by omega), if_neg (by omega), List.append_nil]]
     rfl
end
open Go.RowKit Go.ChangeMaps Go.MapKept
def RefS (b g1 g2 : Nat) (x : RowD) (V : World) : Prop := V.heap[b]? = some (.cells x.cells.toArray 35 (0, 0)) ∧ V.heap[g1]? = some (.cells (verbNames.map strV).toArray 9 (0, 0)) ∧ V.heap[g2]? = some (.cells (kindNames.map strV).toArray 9 (0, 0))
theorem names_at {g : Nat} {L : List (List UInt8)} {W : World} (h : W.heap[g]? = some (.cells (L.map strV).toArray 9 (0, 0))) (j : Nat) (l : List UInt8) (hj : L[j]? = some l) : W.cell? ⟨g, j, none⟩ = some (strV l) := by
 rw [(cellsAt h j).1]
 simp [hj]
theorem RefS.cell {b g1 g2 : Nat} {x : RowD} {V : World} (h : RefS b g1 g2 x V) (j : Nat) : V.cell? ⟨b, j, none⟩ = x.cells.toArray[j]? := (cellsAt h.1 j).1
def refL (x : RowD) : List UInt8 := (Lib.itoa x.th ++ [32] ++ nameN verbNames x.vb ++ [32]) ++ (if x.key = [] then [45] else []) ++ x.key ++ [32] ++ Lib.itoa x.fr ++ [32] ++ Lib.itoa x.tt ++ [32] ++ Lib.itoa x.pt ++ [32] ++ nameN kindNames x.kd
theorem refL_join (x : RowD) : refL x = Lib.join (rowWd x) [32] := by
 unfold refL rowWd keyL
 rw [Lib.join_cons]
 unfold Lib.joinTail
 by_cases h : x.key = []
 ·simp [h]
 ·simp [h]
theorem refL_more (x : RowD) (l : List UInt8) : refL x ++ [32] ++ l = Lib.join (rowWd x ++ [l]) [32] := by
 rw [refL_join]
 unfold rowWd
 rw [Lib.join_cons, List.cons_append, Lib.join_cons]
 unfold Lib.joinTail
 simp
def bA (l : List UInt8) : ByteArray := ⟨l.toArray⟩
theorem bA_add (a b : List UInt8) : bA a ++ bA b = bA (a ++ b) := by
 apply ByteArray.ext
 simp [bA, ByteArray.data_append]
theorem refL_bytes {x : RowD} {p kb q a1 a2 a3 a4 a5 a6 r : ByteArray} (hp : p = a1 ++ ⟨#[32]⟩ ++ a2 ++ ⟨#[32]⟩) (hkb : kb = ⟨x.key.toArray⟩) (hq : q = if x.key = [] then p ++ ⟨#[45]⟩ else p) (h1 : a1 = ⟨(Lib.itoa x.th).toArray⟩) (h2 : a2 = ⟨(nameN verbNames x.vb).toArray⟩) (h3 : a3 = ⟨(Lib.itoa x.fr).toArray⟩) (h4 : a4 = ⟨(Lib.itoa x.tt).toArray⟩) (h5 : a5 = ⟨(Lib.itoa x.pt).toArray⟩) (h6 : a6 = ⟨(nameN kindNames x.kd).toArray⟩)
  (hr : r = q ++ kb ++ ⟨#[32]⟩ ++ a3 ++ ⟨#[32]⟩ ++ a4 ++ ⟨#[32]⟩ ++ a5 ++ ⟨#[32]⟩ ++ a6) : r = bA (refL x) := by
 have e : (⟨#[32]⟩ : ByteArray) = bA [32] := rfl
 have e2 : (⟨#[45]⟩ : ByteArray) = bA [45] := rfl
 rw [hr, hq, hp, hkb, h1, h2, h3, h4, h5, h6, e, e2]
 unfold refL
 by_cases h : x.key = []
 ·rw [if_pos h, if_pos h]
  simp only [show ∀ l : List UInt8, (⟨l.toArray⟩ : ByteArray) = bA l from fun _ => rfl, bA_add]
 ·rw [if_neg h, if_neg h, List.append_nil]
  simp only [show ∀ l : List UInt8, (⟨l.toArray⟩ : ByteArray) = bA l from fun _ => rfl, bA_add]
section
variable {w : World}
theorem refRow_any (x : RowD) (hx : x.Ok) : Calls Tryz.prog 6 #[.agg x.cells.toArray] w fun e w' => e = .returned (strV (rowL x)) ∧ Below w.heap.size w w' := by
 obtain ⟨b, hb0⟩ := xE (w.heap.size)
 obtain ⟨w1, hw1⟩ := xE (w.alloc (.cells x.cells.toArray 35))
 obtain ⟨w2, hw2⟩ := xE (w1.alloc (.cells (verbNames.map strV).toArray 9))
 obtain ⟨w3, hw3⟩ := xE (w2.alloc (.cells (kindNames.map strV).toArray 9))
 have s1 : w1.heap.size = w.heap.size + 1 := by rw [hw1]; exact size_at _ _
 have s2 : w2.heap.size = w.heap.size + 2 := by rw [hw2, size_at, s1]
 have hb1 : Below w.heap.size w w1 := bal hw1
 have hb2 : Below w1.heap.size w1 w2 := bal hw2
 have hb3 : Below w2.heap.size w2 w3 := bal hw3
 have hq1 : w1.heap[b]? = some (.cells x.cells.toArray 35 (0, 0)) := by rw [hw1, hb0]; exact heap_new w _
 have hq2 : w2.heap[w1.heap.size]? = some (.cells (verbNames.map strV).toArray 9 (0, 0)) := by rw [hw2]; exact heap_new w1 _
 have hq3 : w3.heap[w2.heap.size]? = some (.cells (kindNames.map strV).toArray 9 (0, 0)) := by rw [hw3]; exact heap_new w2 _
 have hS3 : RefS b w1.heap.size w2.heap.size x w3 := ⟨boxAt (boxAt hq1 hb2) hb3, boxAt hq2 hb3, hq3⟩
 obtain ⟨g1, hg1⟩ := xE (w1.heap.size)
 obtain ⟨g2, hg2⟩ := xE (w2.heap.size)
 rw [← hg1, ← hg2] at hS3
 have HB := hidZ ((hb1.trans (hb2.mono hb1.size)).trans (hb3.mono (Nat.le_trans hb1.size hb2.size)))
 have HS3 := hidZ hS3
 have HX := hidZ hx
 have HW1 := hidZ hw1
 have HW2 := hidZ (hw2.trans (by rfl : _ = w1.alloc (.cells #[.string ⟨#[63]⟩, .string ⟨#[103, 101, 116]⟩, .string ⟨#[103, 101, 116, 115]⟩, .string ⟨#[115, 101, 116]⟩, .string ⟨#[97, 100, 100]⟩, .string ⟨#[114, 101, 112, 108, 97, 99, 101]⟩, .string ⟨#[99, 97, 115]⟩, .string ⟨#[100, 101, 108, 101, 116, 101]⟩, .string ⟨#[116, 111, 117, 99, 104]⟩, .string ⟨#[105, 110, 99, 114]⟩, .string ⟨#[100, 101, 99, 114]⟩, .string ⟨#[102, 108, 117, 115, 104, 95, 97, 108, 108]⟩, .string ⟨#[118, 101, 114, 115, 105, 111, 110]⟩, .string ⟨#[113, 117, 105, 116]⟩] 9)))
 have HW3 := hidZ (hw3.trans (by rfl : _ = w2.alloc (.cells #[.string ⟨#[110, 111, 110, 101]⟩, .string ⟨#[115, 116, 111, 114, 101, 100]⟩, .string ⟨#[110, 111, 116, 95, 115, 116, 111, 114, 101, 100]⟩, .string ⟨#[101, 120, 105, 115, 116, 115]⟩, .string ⟨#[110, 111, 116, 95, 102, 111, 117, 110, 100]⟩, .string ⟨#[110, 111, 95, 114, 111, 111, 109]⟩, .string ⟨#[100, 101, 108, 101, 116, 101, 100]⟩, .string ⟨#[116, 111, 117, 99, 104, 101, 100]⟩, .string ⟨#[110, 117, 109, 98, 101, 114]⟩, .string ⟨#[110, 111, 116, 95, 110, 117, 109, 98, 101, 114]⟩, .string ⟨#[111, 107]⟩, .string ⟨#[104, 105, 116]⟩, .string ⟨#[109, 105, 115, 115]⟩] 9)))
 have HB0 := hidZ hb0
 have HG1 := hidZ hg1
 have HG2 := hidZ hg2
 clear hx hw1 hw2 hw3 hb0 hb1 hb2 hb3 hq1 hq2 hq3 hS3 s1 s2 hg1 hg2
 go_enter Tryz.func6, Tryz.ntmps6
 go_upto_region 1 with fail
 rw [← HW1.out, ← HB0.out]
 go_upto_region 2 with fail
 rw [← HW2.out, ← HG1.out]
 go_upto_region 3 with fail
 rw [← HW3.out, ← HG2.out]
 obtain ⟨a1, ha1⟩ : ∃ a : ByteArray, a = ⟨(Lib.itoa x.th).toArray⟩ := ⟨_, rfl⟩
 obtain ⟨a2, ha2⟩ : ∃ a : ByteArray, a = ⟨(nameN verbNames x.vb).toArray⟩ := ⟨_, rfl⟩
 have z1 : a1.size ≤ 21 := by rw [ha1]; exact itoa_short _ HX.out.th.1 HX.out.th.2
 have z2 : a2.size ≤ 9 := by rw [ha2]; exact rname_len verbNames 9 (by omega) (by decide) _
 have HN := hidZ (fun (V : World) => (show Calls Tryz.prog 20 #[.int .i64 x.th] V fun e w' => e = .returned (.string a1) ∧ V = w' from by rw [ha1]; exact refnumber_any HX.out.th.1 HX.out.th.2))
 have HM := hidZ (fun (V : World) (h : RefS b g1 g2 x V) => (show Calls Tryz.prog 21 #[.int .i64 (x.vb : Int), .slice (some ⟨g1, 0, none⟩) 14 14] V fun e w' => e = .returned (.string a2) ∧ V = w' from by rw [ha2]; exact refname_any (L := verbNames) HX.out.vb (names_at h.2.1)))
 have HA1 := hidZ (And.intro ha1 ha2)
 have HZ := hidZ (And.intro z1 z2)
 have f1 : ¬ 9223372036854775807 < a1.size + 1 := by omega
 have f2 : ¬ 9223372036854775807 < a1.size + 1 + a2.size := by omega
 have f3 : ¬ 9223372036854775807 < a1.size + 1 + a2.size + 1 := by omega
 have hcv : IntKind.i64.wrap (x.vb : Int) = (x.vb : Int) := IntWalk.i64_in _ (by have := HX.out.vb; omega)
 have hSD : RefS b g1 g2 x w3 := HS3.out
 clear ha1 ha2 z1 z2 HW1 HW2 HW3
 refine wp_region_held_drew (S := RefS b g1 g2 x) (by kernel_rfl) hSD (fun hHe => ?_)
 refine tkz 0 rfl ?_
 try simp only [tp, tz]
 refine tkv 1 (v := ?_) rfl ?_ ?_
 rotate_left 1
 ·((intro w hSw; (try dsimp only at hSw); have c0 := hSw.cell 0; rw [show x.cells.toArray[0]? = some _ from rfl] at c0; go_simp) <;> with_reducible rfl)
 try simp only [tp, tz]
 refine tkz 4 rfl ?_
 try simp only [tp, tz]
 refine tkz 5 rfl ?_
 try simp only [tp, tz]
 refine tkv 6 (v := ?_) rfl ?_ ?_
 rotate_left 1
 ·((intro w hSw; (try dsimp only at hSw); have c0 := hSw.cell 1; rw [show x.cells.toArray[1]? = some _ from rfl] at c0; go_simp) <;> with_reducible rfl)
 try simp only [tp, tz]
 refine tkz 7 rfl ?_
 try simp only [tp, tz]
 refine tkz 8 rfl ?_
 try simp only [tp, tz]
 refine rdy 2 rfl (fun K hK => ?_)
 go_simp
 go_at_call 20
 refine (HN.out _).mono ?_
 rintro e V2 ⟨rfl, rfl⟩
 refine hK.out _ _ hHe (fun hHf => ?_)
 clear hK K
 try simp only [tp, tz]
 refine tkz 3 rfl ?_
 try simp only [tp, tz]
 refine rdy 9 rfl (fun K hK => ?_)
 go_simp
 go_at_call 21
 refine (HM.out _ hHf).mono ?_
 rintro e V9 ⟨rfl, rfl⟩
 refine hK.out _ _ hHf (fun hHf => ?_)
 clear hK K
 try simp only [tp, tz]
 refine tkz 10 rfl ?_
 try simp only [tp, tz]
 refine tkz 11 rfl ?_
 try simp only [tp, tz]
 refine tkz 12 rfl ?_
 try simp only [tp, tz]
 refine wpAnyH_done (by kernel_rfl) ?_ _
 clear hHe
 clear hHf hSD hcv f1 f2 f3 HN HM
 obtain ⟨w4, hw4⟩ := xE (w3.drew)
 have hS4 : RefS b g1 g2 x w4 := by rw [hw4]; exact HS3.out
 have HB4 := hidZ (show Below w.heap.size w w4 from by rw [hw4]; exact HB.out.drew)
 rw [← hw4]
 clear hw4
 obtain ⟨p, hp⟩ : ∃ p : ByteArray, p = a1 ++ ⟨#[32]⟩ ++ a2 ++ ⟨#[32]⟩ := ⟨_, rfl⟩
 rw [← hp]
 have zp : p.size ≤ 40 := by
  have := HZ.out
  rw [hp]
  simp only [ByteArray.size_append]
  have e : (⟨#[32]⟩ : ByteArray).size = 1 := rfl
  omega
 obtain ⟨kb, hkb⟩ : ∃ kb : ByteArray, kb = ⟨x.key.toArray⟩ := ⟨_, rfl⟩
 have zk : kb.size ≤ 3000 := by rw [hkb]; exact HX.out.key
 have k2 : w4.cell? ⟨b, 2, none⟩ = some (.string kb) := by rw [hkb]; exact hS4.cell 2
 obtain ⟨q, hq⟩ : ∃ q : ByteArray, q = if x.key = [] then p ++ ⟨#[45]⟩ else p := ⟨_, rfl⟩
 have zq : q.size ≤ 41 := by
  rw [hq]
  split
  ·rw [ByteArray.size_append]
   have e : (⟨#[45]⟩ : ByteArray).size = 1 := rfl
   omega
  ·omega
 have hcase : kb.toList.isEmpty = true ∧ Hid (p ++ ⟨#[45]⟩ = q) ∨ kb.toList.isEmpty = false ∧ Hid (p = q) := by
  have e : bs kb = x.key := by rw [hkb]
  cases h0 : kb.toList.isEmpty with
  | true =>
   have := bs_empty h0
   rw [e] at this
   exact .inl ⟨rfl, hidZ (by rw [hq, if_pos this])⟩
  | false =>
   have := bs_some h0
   rw [e] at this
   exact .inr ⟨rfl, hidZ (by rw [hq, if_neg this])⟩
 obtain ⟨a3, ha3⟩ : ∃ a : ByteArray, a = ⟨(Lib.itoa x.fr).toArray⟩ := ⟨_, rfl⟩
 have z3 : a3.size ≤ 21 := by rw [ha3]; exact itoa_short _ HX.out.fr.1 HX.out.fr.2
 have HN3 := hidZ (fun (V : World) => (show Calls Tryz.prog 20 #[.int .i64 x.fr] V fun e w' => e = .returned (.string a3) ∧ V = w' from by rw [ha3]; exact refnumber_any HX.out.fr.1 HX.out.fr.2))
 obtain ⟨a4, ha4⟩ : ∃ a : ByteArray, a = ⟨(Lib.itoa x.tt).toArray⟩ := ⟨_, rfl⟩
 have z4 : a4.size ≤ 21 := by rw [ha4]; exact itoa_short _ HX.out.tt.1 HX.out.tt.2
 have HN4 := hidZ (fun (V : World) => (show Calls Tryz.prog 20 #[.int .i64 x.tt] V fun e w' => e = .returned (.string a4) ∧ V = w' from by rw [ha4]; exact refnumber_any HX.out.tt.1 HX.out.tt.2))
 obtain ⟨a5, ha5⟩ : ∃ a : ByteArray, a = ⟨(Lib.itoa x.pt).toArray⟩ := ⟨_, rfl⟩
 have z5 : a5.size ≤ 21 := by rw [ha5]; exact itoa_short _ HX.out.pt.1 HX.out.pt.2
 have HN5 := hidZ (fun (V : World) => (show Calls Tryz.prog 20 #[.int .i64 x.pt] V fun e w' => e = .returned (.string a5) ∧ V = w' from by rw [ha5]; exact refnumber_any HX.out.pt.1 HX.out.pt.2))
 obtain ⟨a6, ha6⟩ : ∃ a : ByteArray, a = ⟨(nameN kindNames x.kd).toArray⟩ := ⟨_, rfl⟩
 have z6 : a6.size ≤ 10 := by rw [ha6]; exact rname_len kindNames 10 (by omega) (by decide) _
 have HN6 := hidZ (fun (V : World) (h : RefS b g1 g2 x V) => (show Calls Tryz.prog 21 #[.int .i64 (x.kd : Int), .slice (some ⟨g2, 0, none⟩) 13 13] V fun e w' => e = .returned (.string a6) ∧ V = w' from by rw [ha6]; exact refname_any (L := kindNames) HX.out.kd (names_at h.2.2)))
 have HQ := hidZ (And.intro hp (And.intro hkb (And.intro hq (And.intro ha3 (And.intro ha4 (And.intro ha5 ha6))))))
 have fp : ¬ 9223372036854775807 < p.size + 1 := by omega
 have f1 : ¬ 9223372036854775807 < q.size + kb.size := by omega
 have f2 : ¬ 9223372036854775807 < q.size + kb.size + 1 := by omega
 have f3 : ¬ 9223372036854775807 < q.size + kb.size + 1 + a3.size := by omega
 have f4 : ¬ 9223372036854775807 < q.size + kb.size + 1 + a3.size + 1 := by omega
 have f5 : ¬ 9223372036854775807 < q.size + kb.size + 1 + a3.size + 1 + a4.size := by omega
 have f6 : ¬ 9223372036854775807 < q.size + kb.size + 1 + a3.size + 1 + a4.size + 1 := by omega
 have f7 : ¬ 9223372036854775807 < q.size + kb.size + 1 + a3.size + 1 + a4.size + 1 + a5.size := by omega
 have f8 : ¬ 9223372036854775807 < q.size + kb.size + 1 + a3.size + 1 + a4.size + 1 + a5.size + 1 := by omega
 have f9 : ¬ 9223372036854775807 < q.size + kb.size + 1 + a3.size + 1 + a4.size + 1 + a5.size + 1 + a6.size := by omega
 have HZQ := hidZ (show q.size + kb.size + 1 + a3.size + 1 + a4.size + 1 + a5.size + 1 + a6.size ≤ 4000 from by omega)
 have hcv : IntKind.i64.wrap (x.kd : Int) = (x.kd : Int) := IntWalk.i64_in _ (by have := HX.out.kd; omega)
 have hck : x.cells.toArray[2]? = some (.string kb) := by rw [hkb]; rfl
 clear hp hkb hq ha3 ha4 ha5 ha6 zp zk zq z3 z4 z5 z6
 rcases hcase with ⟨hd, hq2⟩ | ⟨hd, hq2⟩
 all_goals
  go_upto_region 6 with fail
  rw [hq2.out]
  clear hq2 hd k2 fp
  refine wp_region_held_drew (S := RefS b g1 g2 x) (by kernel_rfl) hS4 (fun hHe => ?_)
  refine tkz 0 rfl ?_
  try simp only [tp, tz]
  refine tkz 1 rfl ?_
  try simp only [tp, tz]
  refine tkz 2 rfl ?_
  try simp only [tp, tz]
  refine tkv 3 (v := ?_) rfl ?_ ?_
  rotate_left 1
  ·((intro w hSw; (try dsimp only at hSw); have c0 := hSw.cell 2; rw [hck] at c0; go_simp) <;> with_reducible rfl)
  try simp only [tp, tz]
  refine tkz 4 rfl ?_
  try simp only [tp, tz]
  refine tkz 5 rfl ?_
  try simp only [tp, tz]
  refine tkz 6 rfl ?_
  try simp only [tp, tz]
  refine tkv 7 (v := ?_) rfl ?_ ?_
  rotate_left 1
  ·((intro w hSw; (try dsimp only at hSw); have c0 := hSw.cell 8; rw [show x.cells.toArray[8]? = some _ from rfl] at c0; go_simp) <;> with_reducible rfl)
  try simp only [tp, tz]
  refine tkz 11 rfl ?_
  try simp only [tp, tz]
  refine tkv 12 (v := ?_) rfl ?_ ?_
  rotate_left 1
  ·((intro w hSw; (try dsimp only at hSw); have c0 := hSw.cell 9; rw [show x.cells.toArray[9]? = some _ from rfl] at c0; go_simp) <;> with_reducible rfl)
  try simp only [tp, tz]
  refine tkz 16 rfl ?_
  try simp only [tp, tz]
  refine tkv 17 (v := ?_) rfl ?_ ?_
  rotate_left 1
  ·((intro w hSw; (try dsimp only at hSw); have c0 := hSw.cell 19; rw [show x.cells.toArray[19]? = some _ from rfl] at c0; go_simp) <;> with_reducible rfl)
  try simp only [tp, tz]
  refine tkz 21 rfl ?_
  try simp only [tp, tz]
  refine tkz 22 rfl ?_
  try simp only [tp, tz]
  refine tkv 23 (v := ?_) rfl ?_ ?_
  rotate_left 1
  ·((intro w hSw; (try dsimp only at hSw); have c0 := hSw.cell 10; rw [show x.cells.toArray[10]? = some _ from rfl] at c0; go_simp) <;> with_reducible rfl)
  try simp only [tp, tz]
  refine tkz 24 rfl ?_
  try simp only [tp, tz]
  refine tkz 25 rfl ?_
  try simp only [tp, tz]
  refine rdy 8 rfl (fun K hK => ?_)
  go_simp
  go_at_call 20
  refine (HN3.out _).mono ?_
  rintro e V8 ⟨rfl, rfl⟩
  refine hK.out _ _ hHe (fun hHf => ?_)
  clear hK K
  try simp only [tp, tz]
  refine tkz 9 rfl ?_
  try simp only [tp, tz]
  refine tkz 10 rfl ?_
  try simp only [tp, tz]
  refine rdy 13 rfl (fun K hK => ?_)
  go_simp
  go_at_call 20
  refine (HN4.out _).mono ?_
  rintro e V13 ⟨rfl, rfl⟩
  refine hK.out _ _ hHf (fun hHf => ?_)
  clear hK K
  try simp only [tp, tz]
  refine tkz 14 rfl ?_
  try simp only [tp, tz]
  refine tkz 15 rfl ?_
  try simp only [tp, tz]
  refine rdy 18 rfl (fun K hK => ?_)
  go_simp
  go_at_call 20
  refine (HN5.out _).mono ?_
  rintro e V18 ⟨rfl, rfl⟩
  refine hK.out _ _ hHf (fun hHf => ?_)
  clear hK K
  try simp only [tp, tz]
  refine tkz 19 rfl ?_
  try simp only [tp, tz]
  refine tkz 20 rfl ?_
  try simp only [tp, tz]
  refine rdy 26 rfl (fun K hK => ?_)
  go_simp
  go_at_call 21
  refine (HN6.out _ hHf).mono ?_
  rintro e V26 ⟨rfl, rfl⟩
  refine hK.out _ _ hHf (fun hHf => ?_)
  clear hK K
  try simp only [tp, tz]
  refine tkz 27 rfl ?_
  try simp only [tp, tz]
  refine tkz 28 rfl ?_
  try simp only [tp, tz]
  refine wpAnyH_done (by kernel_rfl) ?_ _
  clear hHe
  clear hHf f1 f2 f3 f4 f5 f6 f7 f8 f9 hcv hck HN3 HN4 HN5 HN6
  obtain ⟨w5, hw5⟩ := xE (w4.drew)
  have hS5 : RefS b g1 g2 x w5 := by rw [hw5]; exact hS4
  have HB5 := hidZ (show Below w.heap.size w w5 from by rw [hw5]; exact HB4.out.drew)
  rw [← hw5]
  clear hw5 hS4
  obtain ⟨r, hr⟩ : ∃ r : ByteArray, r = q ++ kb ++ ⟨#[32]⟩ ++ a3 ++ ⟨#[32]⟩ ++ a4 ++ ⟨#[32]⟩ ++ a5 ++ ⟨#[32]⟩ ++ a6 := ⟨_, rfl⟩
  rw [← hr]
  have zr : r.size ≤ 4000 := by
   have := HZQ.out
   rw [hr]
   simp only [ByteArray.size_append]
   have e : (⟨#[32]⟩ : ByteArray).size = 1 := rfl
   omega
  have HR := hidZ hr
  have k10 : w5.cell? ⟨b, 10, none⟩ = some (.int .u8 (x.kd : Int)) := hS5.cell 10
  have k11 : w5.cell? ⟨b, 11, none⟩ = some (.int .u64 (x.num : Int)) := hS5.cell 11
  have k15 : w5.cell? ⟨b, 15, none⟩ = some (.int .u64 (x.iid : Int)) := hS5.cell 15
  obtain ⟨kd, hkd⟩ := xE (x.kd)
  rw [← hkd] at k10 ⊢
  have HRL := hidZ (refL_bytes HQ.out.1 HQ.out.2.1 HQ.out.2.2.1 HA1.out.1 HA1.out.2 HQ.out.2.2.2.1 HQ.out.2.2.2.2.1 HQ.out.2.2.2.2.2.1 HQ.out.2.2.2.2.2.2 hr)
  clear hr hS5
  by_cases h1 : kd = 1
  ·subst h1
   have HKD := hidZ hkd
   clear hkd
   have k10' : w5.cell? ⟨b, 10, none⟩ = some (.int .u8 1) := k10
   clear k10
   obtain ⟨a7, ha7⟩ : ∃ a : ByteArray, a = ⟨(Lib.decDigits x.num).toArray⟩ := ⟨_, rfl⟩
   have HT := hidZ (show Calls Tryz.prog 22 #[.int .u64 (x.num : Int)] w5 fun e w' => e = .returned (.string a7) ∧ w5 = w' from by rw [ha7]; exact refText_any (x.num : Int) (by omega) (by have := HX.out.num; omega) w5)
   have z7 : a7.size ≤ 20 := by rw [ha7]; exact dec_len 20 x.num (by omega) (Nat.lt_trans HX.out.num (by decide))
   have e1 : ¬ 9223372036854775807 < r.size + 1 := by omega
   have e2 : ¬ 9223372036854775807 < r.size + 1 + a7.size := by omega
   have HA7 := hidZ ha7
   clear ha7 z7 zr
   go_wp2_with (first
    | (go_at_call 22; refine HT.out.mono ?_; rintro e w6 ⟨rfl, rfl⟩)
    | fail)
   go_ret
   refine ⟨?_, HB5.out⟩
   have hz := HKD.out
   rw [show rowL x = refL x ++ [32] ++ Lib.decDigits x.num from by
    rw [refL_more]
    unfold rowL moreL
    rw [if_pos (by omega)]]
   show Ending.returned (.string (r ++ ⟨#[32]⟩ ++ a7)) = _
   rw [HRL.out, HA7.out, show (⟨#[32]⟩ : ByteArray) = bA [32] from rfl, show (⟨(Lib.decDigits x.num).toArray⟩ : ByteArray) = bA (Lib.decDigits x.num) from rfl, bA_add, bA_add]
   rfl
  ·by_cases h8 : kd = 8
   ·subst h8
    have HKD := hidZ hkd
    clear hkd
    have k10' : w5.cell? ⟨b, 10, none⟩ = some (.int .u8 8) := k10
    clear k10
    obtain ⟨a7, ha7⟩ : ∃ a : ByteArray, a = ⟨(Lib.decDigits x.num).toArray⟩ := ⟨_, rfl⟩
    have HT := hidZ (show Calls Tryz.prog 22 #[.int .u64 (x.num : Int)] w5 fun e w' => e = .returned (.string a7) ∧ w5 = w' from by rw [ha7]; exact refText_any (x.num : Int) (by omega) (by have := HX.out.num; omega) w5)
    have z7 : a7.size ≤ 20 := by rw [ha7]; exact dec_len 20 x.num (by omega) (Nat.lt_trans HX.out.num (by decide))
    have e1 : ¬ 9223372036854775807 < r.size + 1 := by omega
    have e2 : ¬ 9223372036854775807 < r.size + 1 + a7.size := by omega
    have HA7 := hidZ ha7
    clear ha7 z7 zr
    go_wp2_with (first
     | (go_at_call 22; refine HT.out.mono ?_; rintro e w6 ⟨rfl, rfl⟩)
     | fail)
    go_ret
    refine ⟨?_, HB5.out⟩
    have hz := HKD.out
    rw [show rowL x = refL x ++ [32] ++ Lib.decDigits x.num from by
     rw [refL_more]
     unfold rowL moreL
     rw [if_pos (by omega)]]
    show Ending.returned (.string (r ++ ⟨#[32]⟩ ++ a7)) = _
    rw [HRL.out, HA7.out, show (⟨#[32]⟩ : ByteArray) = bA [32] from rfl, show (⟨(Lib.decDigits x.num).toArray⟩ : ByteArray) = bA (Lib.decDigits x.num) from rfl, bA_add, bA_add]
    rfl
   ·by_cases h11 : kd = 11
    ·subst h11
     have HKD := hidZ hkd
     clear hkd
     have k10' : w5.cell? ⟨b, 10, none⟩ = some (.int .u8 11) := k10
     clear k10
     obtain ⟨a7, ha7⟩ : ∃ a : ByteArray, a = ⟨(Lib.decDigits x.iid).toArray⟩ := ⟨_, rfl⟩
     have HT := hidZ (show Calls Tryz.prog 22 #[.int .u64 (x.iid : Int)] w5 fun e w' => e = .returned (.string a7) ∧ w5 = w' from by rw [ha7]; exact refText_any (x.iid : Int) (by omega) (by have := HX.out.iid; omega) w5)
     have z7 : a7.size ≤ 20 := by rw [ha7]; exact dec_len 20 x.iid (by omega) (Nat.lt_trans HX.out.iid (by decide))
     have e1 : ¬ 9223372036854775807 < r.size + 1 := by omega
     have e2 : ¬ 9223372036854775807 < r.size + 1 + a7.size := by omega
     have HA7 := hidZ ha7
     clear ha7 z7 zr
     go_wp2_with (first
      | (go_at_call 22; refine HT.out.mono ?_; rintro e w6 ⟨rfl, rfl⟩)
      | fail)
     go_ret
     refine ⟨?_, HB5.out⟩
     have hz := HKD.out
     rw [show rowL x = refL x ++ [32] ++ Lib.decDigits x.iid from by
      rw [refL_more]
      unfold rowL moreL
      rw [if_neg (by omega), if_pos (by omega)]]
     show Ending.returned (.string (r ++ ⟨#[32]⟩ ++ a7)) = _
     rw [HRL.out, HA7.out, show (⟨#[32]⟩ : ByteArray) = bA [32] from rfl, show (⟨(Lib.decDigits x.iid).toArray⟩ : ByteArray) = bA (Lib.decDigits x.iid) from rfl, bA_add, bA_add]
     rfl
    ·have HKD := hidZ (And.intro hkd (And.intro h1 (And.intro h8 h11)))
     clear hkd
     have g1 : ¬ ((kd : Int) = 1) := by omega
     have g8 : ¬ ((kd : Int) = 8) := by omega
     have g11 : ¬ ((kd : Int) = 11) := by omega
     go_wp2_with fail
     go_ret
     refine ⟨?_, HB5.out⟩
     have hz := HKD.out
     rw [show rowL x = refL x from by
      rw [refL_join]
      unfold rowL moreL
      rw [if_neg (by omega), if_neg (by omega), List.append_nil]]
     show Ending.returned (.string r) = _
     rw [HRL.out]
     rfl
end
end Go.Proofs.YtnkkoicbnbjlnaaGreatDoor
