/- The parser's block; its methods word, flags, exp, size, id, by: what each answers, and what becomes of the block. Condition: the library's variable ErrRange holds an error. And what goes with it (2 texts). -/
import Derived.Test.YtnkkoicbnbjlnaaGreatDoorLowB
import Derived.Test.YtnkkoicbnbjlnaaGreatDoorLowA
import Derived.OneCell
import Derived.Laws.Rows
import Derived.Deep.AppendLies
namespace Go.Proofs.YtnkkoicbnbjlnaaGreatDoor
set_option maxRecDepth 100000
set_option maxHeartbeats 8000000
open Go.RowKit
abbrev cmdCells (ks : Value) (c : Cmd) : List Value := [.int .u8 (c.verb : Int), ks, .int .u8 (c.cverb : Int), sv c.key, sv c.value, .int .u32 (c.flags : Int), .int .i64 c.exp, .int .u64 (c.id : Int), .int .u64 (c.by' : Int), .int .i64 c.bytes, .bool c.quiet]
def PAt (w : World) (p : Nat) (ws ks : Value) (c : Cmd) : Prop := w.heap[p]? = some (.cells (ws :: cmdCells ks c).toArray 366 (0, 0))
theorem block_cell {w : World} {p : Nat} {cs : Array Value} {t : TypeId} (h : w.heap[p]? = some (.cells cs t (0, 0))) (j : Nat) : w.cell? ⟨p, j, none⟩ = cs[j]? ∧ w.frozen? ⟨p, j, none⟩ = false := by
 constructor
 ·simp [World.cell?, h]
 ·simp [World.frozen?, h]
theorem PAt.free {w : World} {p : Nat} {ws ks : Value} {c : Cmd} (h : PAt w p ws ks c) (j : Nat) : w.frozen? ⟨p, j, none⟩ = false := (block_cell h j).2
theorem PAt.cell {w : World} {p : Nat} {ws ks : Value} {c : Cmd} (h : PAt w p ws ks c) (j : Nat) {v : Value} (hj : (ws :: cmdCells ks c)[j]? = some v) : w.cell? ⟨p, j, none⟩ = some v := by
 rw [(block_cell h j).1]; simpa using hj
theorem PAt.lt {w : World} {p : Nat} {ws ks : Value} {c : Cmd} (h : PAt w p ws ks c) : p < w.heap.size := lt_of_block h
theorem PAt.grown {w w' : World} {p : Nat} {ws ks : Value} {c : Cmd} {row : Option Nat} (h : PAt w p ws ks c) (hg : w.grownBy w' row) (hne : some p ≠ row) : PAt w' p ws ks c := (hg.block p h.lt hne).trans h
theorem PAt.below {w w' : World} {p : Nat} {ws ks : Value} {c : Cmd} (h : PAt w p ws ks c) (hb : Below w.heap.size w w') : PAt w' p ws ks c := (hb.block p h.lt).trans h
theorem PAt.set {w : World} {p : Nat} {ws ks : Value} {c : Cmd} (h : PAt w p ws ks c) (j : Nat) (v : Value) {ws' ks' : Value} {c' : Cmd} (he : ((ws :: cmdCells ks c).toArray).setIfInBounds j v = (ws' :: cmdCells ks' c').toArray) : PAt (w.setCell ⟨p, j, none⟩ v) p ws' ks' c' := by
 unfold PAt
 rw [heap_setCell_same w p j _ _ v h, he]
theorem grown_set (w : World) (p j : Nat) (v : Value) : w.grownBy (w.setCell ⟨p, j, none⟩ v) (some p) :=
 ⟨rfl, rfl, rfl, by simp, fun k _ hk => Below.heap_setCell w ⟨p, j, none⟩ v k (fun e => hk (by rw [e]))⟩
theorem grown_trans {a b c : World} {row : Option Nat} (h1 : a.grownBy b row) (h2 : b.grownBy c row) : a.grownBy c row :=
 ⟨h2.os.trans h1.os, h2.tape.trans h1.tape, h2.output.trans h1.output, Nat.le_trans h1.size h2.size, fun k hk hne => (h2.block k (Nat.lt_of_lt_of_le hk h1.size) hne).trans (h1.block k hk hne)⟩
theorem grown_below {w w' : World} (h : Below w.heap.size w w') (row : Option Nat) : w.grownBy w' row := ⟨h.os, h.tape, h.output, h.size, fun k hk _ => h.block k hk⟩
theorem parse32V_is (l : List UInt8) : parse32V l = .tuple #[.int .u32 (((parse32N l).getD 0 : Nat) : Int), .bool (parse32N l).isSome] := by
 unfold parse32V; cases parse32N l <;> rfl
theorem parseV_is (l : List UInt8) : parseV l = .tuple #[.int .u64 (((parseN l).getD 0 : Nat) : Int), .bool (parseN l).isSome] := by
 unfold parseV; cases parseN l <;> rfl
theorem signedV_is (l : List UInt8) : signedV l = .tuple #[.int .i64 ((signedN l).getD 0), .bool (signedN l).isSome] := by
 unfold signedV; cases signedN l <;> rfl
abbrev Reads (fn : Nat) (f : Nat) : Prop := ∀ (p : Nat) (ws ks : Value) (c : Cmd) (x : List UInt8) (w : World), PAt w p ws ks c → HasErr w →
 Calls Tryz.prog fn #[.pointer (some ⟨p, 0, none⟩), sv x] w fun e w' => e = .returned (.bool (readF c f x).2) ∧ PAt w' p ws ks (readF c f x).1 ∧ w.grownBy w' (some p)
theorem flags_any : Reads 310 0 := by
 intro p ws ks c x w hp hE
 have hc := fun W hW => parse32_any ⟨x.toArray⟩ W hW
 rw [show bs ⟨x.toArray⟩ = x from rfl, parse32V_is] at hc
 have h2 : readF c 0 x = ({ c with flags := (parse32N x).getD 0 }, (parse32N x).isSome) := rfl
 rw [h2]
 generalize (parse32N x).getD 0 = n at *
 generalize (parse32N x).isSome = b at *
 have HC := hidZ hc
 have HP := hidZ hp
 have HE := hidZ hE
 clear hc hp hE h2
 go_enter Tryz.func310, Tryz.ntmps310
 go_wp2_with fail
 refine (HC.out _ HE.out).mono ?_
 rintro e w1 ⟨rfl, hb1⟩
 have hp1 := HP.out.below hb1
 have hc6 := hp1.cell 6 rfl
 have hf6 := hp1.free 6
 have HP1 := hidZ hp1
 clear hp1
 go_wp2_with fail
 go_ret
 exact ⟨rfl, HP1.out.set 6 _ rfl, grown_trans (grown_below hb1 _) (grown_set _ _ _ _)⟩
theorem exp_any : Reads 311 1 := by
 intro p ws ks c x w hp hE
 have hc := fun W hW => parseSigned_any ⟨x.toArray⟩ W hW
 rw [show bs ⟨x.toArray⟩ = x from rfl, signedV_is] at hc
 have h2 : readF c 1 x = ({ c with exp := (signedN x).getD 0 }, (signedN x).isSome) := rfl
 rw [h2]
 generalize (signedN x).getD 0 = n at *
 generalize (signedN x).isSome = b at *
 have HC := hidZ hc
 have HP := hidZ hp
 have HE := hidZ hE
 clear hc hp hE h2
 go_enter Tryz.func311, Tryz.ntmps311
 go_wp2_with fail
 refine (HC.out _ HE.out).mono ?_
 rintro e w1 ⟨rfl, hb1⟩
 have hp1 := HP.out.below hb1
 have hc6 := hp1.cell 7 rfl
 have hf6 := hp1.free 7
 have HP1 := hidZ hp1
 clear hp1
 go_wp2_with fail
 go_ret
 exact ⟨rfl, HP1.out.set 7 _ rfl, grown_trans (grown_below hb1 _) (grown_set _ _ _ _)⟩
theorem id_any : Reads 313 3 := by
 intro p ws ks c x w hp hE
 have hc := fun W hW => parse_any ⟨x.toArray⟩ W hW
 rw [show bs ⟨x.toArray⟩ = x from rfl, parseV_is] at hc
 have h2 : readF c 3 x = ({ c with id := (parseN x).getD 0 }, (parseN x).isSome) := rfl
 rw [h2]
 generalize (parseN x).getD 0 = n at *
 generalize (parseN x).isSome = b at *
 have HC := hidZ hc
 have HP := hidZ hp
 have HE := hidZ hE
 clear hc hp hE h2
 go_enter Tryz.func313, Tryz.ntmps313
 go_wp2_with fail
 refine (HC.out _ HE.out).mono ?_
 rintro e w1 ⟨rfl, hb1⟩
 have hp1 := HP.out.below hb1
 have hc6 := hp1.cell 8 rfl
 have hf6 := hp1.free 8
 have HP1 := hidZ hp1
 clear hp1
 go_wp2_with fail
 go_ret
 exact ⟨rfl, HP1.out.set 8 _ rfl, grown_trans (grown_below hb1 _) (grown_set _ _ _ _)⟩
theorem by_any : Reads 314 4 := by
 intro p ws ks c x w hp hE
 have hc := fun W hW => parse_any ⟨x.toArray⟩ W hW
 rw [show bs ⟨x.toArray⟩ = x from rfl, parseV_is] at hc
 have h2 : readF c 4 x = ({ c with by' := (parseN x).getD 0 }, (parseN x).isSome) := rfl
 rw [h2]
 generalize (parseN x).getD 0 = n at *
 generalize (parseN x).isSome = b at *
 have HC := hidZ hc
 have HP := hidZ hp
 have HE := hidZ hE
 clear hc hp hE h2
 go_enter Tryz.func314, Tryz.ntmps314
 go_wp2_with fail
 refine (HC.out _ HE.out).mono ?_
 rintro e w1 ⟨rfl, hb1⟩
 have hp1 := HP.out.below hb1
 have hc6 := hp1.cell 9 rfl
 have hf6 := hp1.free 9
 have HP1 := hidZ hp1
 clear hp1
 go_wp2_with fail
 go_ret
 exact ⟨rfl, HP1.out.set 9 _ rfl, grown_trans (grown_below hb1 _) (grown_set _ _ _ _)⟩
theorem size_any : Reads 312 2 := by
 intro p ws ks c x w hp hE
 have hc := fun W hW => parse_any ⟨x.toArray⟩ W hW
 rw [show bs ⟨x.toArray⟩ = x from rfl] at hc
 have hcase : (parseN x = none) ∨ ∃ n, parseN x = some n := by cases parseN x; exact .inl rfl; exact .inr ⟨_, rfl⟩
 have HP := hidZ hp
 have HE := hidZ hE
 clear hp hE
 rcases hcase with h | ⟨n, h⟩
 ·rw [parseV_none h] at hc
  have h2 : readF c 2 x = ({ c with bytes := 0 }, false) := by simp [readF, h]
  rw [h2]
  have HC := hidZ hc
  clear hc h2 h
  go_enter Tryz.func312, Tryz.ntmps312
  go_wp2_with fail
  refine (HC.out _ HE.out).mono ?_
  rintro e w1 ⟨rfl, hb1⟩
  have hp1 := HP.out.below hb1
  have hc6 := hp1.cell 10 rfl
  have hf6 := hp1.free 10
  have HP1 := hidZ hp1
  clear hp1
  go_wp2_with fail
  go_ret
  exact ⟨rfl, HP1.out.set 10 _ rfl, grown_trans (grown_below hb1 _) (grown_set _ _ _ _)⟩
 ·rw [parseV_some h] at hc
  have hlt := parse_lt h
  by_cases hM : n ≤ 2147483647
  ·have h2 : readF c 2 x = ({ c with bytes := (n : Int) }, true) := by simp [readF, h, hM]
   rw [h2]
   have hmin : min (n : Int) 2147483647 = (n : Int) := by omega
   have hw : IntKind.i64.wrap (n : Int) = (n : Int) := IntWalk.i64_in _ (by omega)
   have hle : decide ((n : Int) ≤ 2147483647) = true := by rw [decide_eq_true_eq]; omega
   have HC := hidZ hc
   clear hc h2 h hlt hM
   go_enter Tryz.func312, Tryz.ntmps312
   go_wp2_with fail
   refine (HC.out _ HE.out).mono ?_
   rintro e w1 ⟨rfl, hb1⟩
   have hp1 := HP.out.below hb1
   have hc6 := hp1.cell 10 rfl
   have hf6 := hp1.free 10
   have HP1 := hidZ hp1
   clear hp1
   go_wp2_with fail
   go_ret
   exact ⟨rfl, HP1.out.set 10 _ rfl, grown_trans (grown_below hb1 _) (grown_set _ _ _ _)⟩
  ·have h2 : readF c 2 x = ({ c with bytes := 2147483647 }, false) := by simp [readF, h, hM]; omega
   rw [h2]
   have hmin : min (n : Int) 2147483647 = 2147483647 := by omega
   have hle : decide ((n : Int) ≤ 2147483647) = false := by rw [decide_eq_false_iff_not]; omega
   have HC := hidZ hc
   clear hc h2 h hlt hM
   go_enter Tryz.func312, Tryz.ntmps312
   go_wp2_with fail
   refine (HC.out _ HE.out).mono ?_
   rintro e w1 ⟨rfl, hb1⟩
   have hp1 := HP.out.below hb1
   have hc6 := hp1.cell 10 rfl
   have hf6 := hp1.free 10
   have HP1 := hidZ hp1
   clear hp1
   go_wp2_with fail
   go_ret
   exact ⟨rfl, HP1.out.set 10 _ rfl, grown_trans (grown_below hb1 _) (grown_set _ _ _ _)⟩
def Seg (w : World) (p : Nat) (v : Value) (xs : List (List UInt8)) : Prop :=
 ∃ g o c : Nat, v = .slice (some ⟨g, o, none⟩) xs.length c ∧ xs.length ≤ c ∧ c ≤ maxLen ∧ g ≠ p ∧ g < w.heap.size ∧ ∀ j x, xs[j]? = some x → w.cell? ⟨g, o + j, none⟩ = some (sv x)
theorem Seg.grown {w w' : World} {p : Nat} {v : Value} {xs : List (List UInt8)} (h : Seg w p v xs) (hg : w.grownBy w' (some p)) : Seg w' p v xs := by
 obtain ⟨g, o, c, rfl, h1, h2, h3, h4, h5⟩ := h
 exact ⟨g, o, c, rfl, h1, h2, h3, Nat.lt_of_lt_of_le h4 hg.size, fun j x hx => (hg.cell_far ⟨g, o + j, none⟩ h4 (by simpa using h3)).trans (h5 j x hx)⟩
theorem word_any (p : Nat) (ws ks : Value) (c : Cmd) (x : List UInt8) (xs : List (List UInt8)) (w : World) (hp : PAt w p ws ks c) (hs : Seg w p ws (x :: xs)) :
  Calls Tryz.prog 252 #[.pointer (some ⟨p, 0, none⟩)] w fun e w' => e = .returned (sv x) ∧ ∃ ws', PAt w' p ws' ks c ∧ Seg w' p ws' xs ∧ w.grownBy w' (some p) ∧ ws'.ownBlock = ws.ownBlock := by
 obtain ⟨g, o, cap, rfl, h1, h2, h3, h4, h5⟩ := hs
 have hx : w.cell? ⟨g, o, none⟩ = some (sv x) := h5 0 x rfl
 have hrest : ∀ j y, xs[j]? = some y → w.cell? ⟨g, o + 1 + j, none⟩ = some (sv y) := fun j y hy => by
  have := h5 (j + 1) y (by simpa using hy)
  rwa [show o + (j + 1) = o + 1 + j from by omega] at this
 have hc0 := hp.cell 0 rfl
 have hf0 := hp.free 0
 rw [List.length_cons] at *
 unfold maxLen at h2
 have HP := hidZ hp
 have HR := hidZ hrest
 have H5 := hidZ h5
 clear hp hrest h5
 have key : ∀ v : Value, Seg w p v xs → Seg (w.setCell ⟨p, 0, none⟩ v) p v xs := fun v hv => hv.grown (grown_set _ _ _ _)
 have HK := hidZ key
 clear key
 by_cases hcap : cap = 1
 ·subst hcap
  have hl0 : xs.length = 0 := by omega
  obtain rfl : xs = [] := List.eq_nil_of_length_eq_zero hl0
  go_enter Tryz.func252, Tryz.ntmps252
  go_wp2_with fail
  go_ret
  exact ⟨rfl, _, HP.out.set 0 _ rfl, HK.out _ ⟨g, o, 0, rfl, by simp, by simp [maxLen], h3, h4, by simp⟩, grown_set _ _ _ _, rfl⟩
 ·have hl : ((xs.length : Int) + 1 - 1) = (xs.length : Int) := by omega
  go_enter Tryz.func252, Tryz.ntmps252
  go_wp2_with fail
  go_ret
  exact ⟨rfl, _, HP.out.set 0 _ rfl, HK.out _ ⟨g, o + 1, cap - 1, rfl, by omega, by unfold maxLen; omega, h3, h4, HR.out⟩, grown_set _ _ _ _, rfl⟩
theorem ok_str (x : List UInt8) (w : World) (hs : x.length ≤ maxLen) : Calls Tryz.prog 132 #[sv x] w fun e w' => e = .returned (.bool (okB x)) ∧ w = w' := ok_any ⟨x.toArray⟩ w (by rw [sv_size]; exact hs)
theorem notOk_any (x : List UInt8) (w : World) (hs : x.length ≤ maxLen) : Calls Tryz.prog 283 #[sv x] w fun e w' => e = .returned (.bool (!okB x)) ∧ w = w' := by
 have h := ok_str x w hs
 generalize okB x = b at *
 have H := hidZ h
 clear h
 go_enter Tryz.func283, Tryz.ntmps283
 go_wp2_with fail
 refine H.out.mono ?_
 rintro e w' ⟨rfl, rfl⟩
 go_wp2_with fail
 go_ret
 exact ⟨rfl, rfl⟩
def badKey (k : List UInt8) : Bool := !okB k
def firstBad (L : List (List UInt8)) : Int := match L.findIdx? badKey with | some i => (i : Int) | none => -1
theorem idx_str' {a : Option Addr} {g o n c k : Nat} (ha : a = some ⟨g, o, none⟩) (hk : k < n) (W : World) : (Instr.indexAt 52 (.slice a n c) (.int .i64 (k : Int))).run Tryz.prog W = .ok (.pointer (some ⟨g, o + k, none⟩)) W := by
 subst ha
 have h0 : (0 : Int) ≤ (k : Int) := by omega
 have h1 : (k : Int) < (n : Int) := by omega
 have h2 := Tryz.underlying52
 go_simp
theorem indexFunc_any {w : World} {B : Nat} {v : Value} {L : List (List UInt8)} (h : Own w B v (L.map sv)) (hl : ∀ x ∈ L, x.length ≤ maxLen) :
  Calls Tryz.prog 309 #[v, .func (.func 283) #[] #[]] w fun e w' => e = .returned (.int .i64 (firstBad L)) ∧ w = w' := by
 have hm := h.max
 obtain ⟨a, c, rfl⟩ := h.len
 rw [List.length_map] at *
 unfold maxLen at hm
 have HH := hidZ h
 clear h
 go_enter Tryz.func309, Tryz.ntmps309
 go_wp2_with fail
 go_loop [8] (fun i => ∃ k : Nat, k ≤ L.length ∧ i = .int .i64 k ∧ Good badKey L k) (fun i => L.length - (intOf i).toNat)
 case atStart => exact ⟨0, Nat.zero_le _, rfl, good_zero _ _⟩
 case round =>
  obtain ⟨k, hk, rfl, hg⟩ := hrel
  have HG := hidZ hg
  clear hg
  by_cases hlt : k < L.length
  ·obtain ⟨x, hx⟩ : ∃ x, L[k]? = some x := ⟨_, List.getElem?_eq_getElem hlt⟩
   obtain ⟨g, o, cc, he, _, _, hcell, _⟩ := HH.out.at (k := k) (x := sv x) (by rw [List.getElem?_map, hx]; rfl)
   have hix := fun W => idx_str' (n := L.length) (c := c) (slice_inj he).1 hlt W
   have hno := notOk_any x w (hl x (List.mem_of_getElem? hx))
   have HX := hidZ hx
   clear he hx
   cases hb : okB x
   ·have hbad : badKey x = true := by simp [badKey, hb]
    rw [hb] at hno
    have HNO := hidZ hno
    have HV := hidZ (show firstBad L = (k : Int) from by unfold firstBad; rw [good_hit HX.out hbad HG.out])
    clear hno hbad hb
    go_wp2_with fail
    refine HNO.out.mono ?_
    rintro e w' ⟨rfl, rfl⟩
    go_wp2_with fail
    go_ret
    exact ⟨by rw [HV.out]; rfl, rfl⟩
   ·have hbad : badKey x = false := by simp [badKey, hb]
    rw [hb] at hno
    have HNO := hidZ hno
    have HS := hidZ (good_step HX.out hbad HG.out)
    clear hno hbad hb
    go_wp2_with fail
    refine HNO.out.mono ?_
    rintro e w' ⟨rfl, rfl⟩
    go_wp2_with fail
    go_round
    case rel => exact ⟨k + 1, by omega, by go_num, HS.out⟩
    case measure => simp [intOf]; omega
  ·have HV := hidZ (show firstBad L = -1 from by unfold firstBad; rw [good_all (HG.out.mono (by omega))])
   go_wp2_with fail
   go_ret
   exact ⟨by rw [HV.out]; rfl, rfl⟩
theorem firstBad_neg {L : List (List UInt8)} : decide (0 ≤ firstBad L) = L.any badKey := by
 unfold firstBad
 cases h : L.findIdx? badKey with
 | none =>
  rw [List.findIdx?_eq_none_iff] at h
  have : L.any badKey = false := by rw [List.any_eq_false]; intro x hx; rw [h x hx]; simp
  rw [this]; rfl
 | some i =>
  have : L.any badKey = true := by
   rw [List.findIdx?_eq_some_iff_getElem] at h
   obtain ⟨hi, hb, _⟩ := h
   exact List.any_eq_true.2 ⟨_, List.getElem_mem hi, hb⟩
  rw [this]
  simp
theorem containsFunc_any {w : World} {B : Nat} {v : Value} {L : List (List UInt8)} (h : Own w B v (L.map sv)) (hl : ∀ x ∈ L, x.length ≤ maxLen) :
  Calls Tryz.prog 282 #[v, .func (.func 283) #[] #[]] w fun e w' => e = .returned (.bool (L.any badKey)) ∧ w = w' := by
 have hc := indexFunc_any h hl
 rw [← firstBad_neg]
 generalize firstBad L = n at *
 have HC := hidZ hc
 clear hc h hl
 go_enter Tryz.func282, Tryz.ntmps282
 go_wp2_with fail
 refine HC.out.mono ?_
 rintro e w' ⟨rfl, rfl⟩
 go_wp2_with fail
 go_ret
 exact ⟨rfl, rfl⟩
end Go.Proofs.YtnkkoicbnbjlnaaGreatDoor
