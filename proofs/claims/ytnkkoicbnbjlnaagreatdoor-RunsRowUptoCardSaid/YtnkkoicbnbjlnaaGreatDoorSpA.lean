/- Bytes cut in two; events appended to events: what the laws of layer 30 share. No condition. And what goes with it (2 texts). -/
import Derived.Test.YtnkkoicbnbjlnaaGreatDoorLowH
import Derived.Test.YtnkkoicbnbjlnaaGreatDoorLowB
import Derived.Maps.AppendAt
import Derived.Test.YtnkkoicbnbjlnaaGreatDoorLowP
import Derived.Test.YtnkkoicbnbjlnaaGreatDoorMcC
import Derived.Test.YtnkkoicbnbjlnaaGreatDoorMdA
import Derived.Test.YtnkkoicbnbjlnaaGreatDoorLowA
namespace Go.Proofs.YtnkkoicbnbjlnaaGreatDoor
set_option maxRecDepth 100000
set_option maxHeartbeats 8000000
open Go.RowKit Go.ChangeMaps Go.MapKept
theorem bytes_cut_from {A : Addr} {n c k : Nat} (h1 : k ≤ n) (h2 : n ≤ c) (_hm : c ≤ maxLen) (W : World) : (Instr.slice 47 (.slice (some A) n c) (some (.int .i64 (k : Int))) none none).run Tryz.prog W = .ok (.slice (some (if c = k then A else A.add k)) (n - k) (c - k)) W := by
 unfold maxLen at _hm
 have i1 : (0 : Int) ≤ (k : Int) := by omega
 have i2 : (k : Int) ≤ (n : Int) := by omega
 have i3 : (n : Int) ≤ (c : Int) := by omega
 have h7 := Tryz.underlying47
 go_simp
 split <;> rfl
theorem bytes_cut_to {A : Addr} {n c k : Nat} (h1 : k ≤ n) (h2 : n ≤ c) (W : World) : (Instr.slice 47 (.slice (some A) n c) none (some (.int .i64 (k : Int))) none).run Tryz.prog W = .ok (.slice (some A) k c) W := by
 have h4 : (0 : Int) ≤ (k : Int) := by omega
 have h6 : (k : Int) ≤ (c : Int) := by omega
 have h7 := Tryz.underlying47
 go_simp
theorem bytes_nil_to (W : World) : (Instr.slice 47 (.slice none 0 0) none (some (.int .i64 ((0 : Nat) : Int))) none).run Tryz.prog W = .ok (.slice none 0 0) W := by
 have h7 := Tryz.underlying47
 go_simp
theorem bytes_nil_from (W : World) : (Instr.slice 47 (.slice none 0 0) (some (.int .i64 ((0 : Nat) : Int))) none none).run Tryz.prog W = .ok (.slice none 0 0) W := by
 have h7 := Tryz.underlying47
 go_simp
theorem addr_block (A : Addr) (k : Nat) : (A.add k).block = A.block := by
 unfold Addr.add
 split <;> rfl
theorem brow_cut {w : World} {bv : Value} {bl : List UInt8} (h : BRow w bv bl) {k : Nat} (hk : k ≤ bl.length) :
  ∃ a1 c1 a2 c2, (∀ W : World, (Instr.slice 47 bv none (some (.int .i64 (k : Int))) none).run Tryz.prog W = .ok (.slice a1 k c1) W) ∧ (∀ W : World, (Instr.slice 47 bv (some (.int .i64 (k : Int))) none none).run Tryz.prog W = .ok (.slice a2 (bl.length - k) c2) W) ∧
   BRow w (.slice a1 k c1) (bl.take k) ∧ BRow w (.slice a2 (bl.length - k) c2) (bl.drop k) ∧ (Value.slice a1 k c1).ownBlock = bv.ownBlock ∧ (Value.slice a2 (bl.length - k) c2).ownBlock = bv.ownBlock := by
 obtain ⟨a, c, rfl, h1, h2, h3, h4⟩ := h
 have ht : (bl.take k).length = k := by rw [List.length_take]; omega
 have hd : (bl.drop k).length = bl.length - k := List.length_drop
 cases a with
 | none =>
  obtain rfl := h3 rfl
  obtain rfl : bl = [] := List.eq_nil_of_length_eq_zero (by omega)
  obtain rfl : k = 0 := by simpa using hk
  have hb : BRow w (.slice none 0 0) [] := ⟨none, 0, rfl, Nat.le_refl _, by simp [maxLen], fun _ => rfl, .inl rfl⟩
  exact ⟨none, 0, none, 0, bytes_nil_to, bytes_nil_from, hb, hb, rfl, rfl⟩
 | some A =>
  refine ⟨some A, c, some (if c = k then A else A.add k), c - k, bytes_cut_to hk h1, bytes_cut_from hk h1 h2, ?_, ?_, rfl, ?_⟩
  ·refine ⟨some A, c, by rw [ht], by rw [ht]; omega, h2, (fun h => by cases h), ?_⟩
   rcases h4 with rfl | ⟨g, o, ha, hg, h5⟩
   ·exact .inl (by simp)
   ·refine .inr ⟨g, o, ha, hg, fun j x hx => ?_⟩
    have hj : j < k := by have := (List.getElem?_eq_some_iff.1 hx).1; rw [ht] at this; exact this
    rw [List.getElem?_take, if_pos hj] at hx
    exact h5 j x hx
  ·refine ⟨some (if c = k then A else A.add k), c - k, by rw [hd], by rw [hd]; omega, by omega, (fun h => by cases h), ?_⟩
   by_cases hck : c = k
   ·exact .inl (List.eq_nil_of_length_eq_zero (by rw [hd]; omega))
   ·rcases h4 with rfl | ⟨g, o, ha, hg, h5⟩
    ·exact .inl (by simp)
    ·obtain rfl := Option.some.inj ha
     refine .inr ⟨g, o + k, by rw [if_neg hck]; simp [Addr.add], hg, fun j x hx => ?_⟩
     rw [List.getElem?_drop] at hx
     rw [show o + k + j = o + (k + j) from by omega]
     exact h5 (k + j) x hx
  ·show some (if c = k then A else A.add k).block = some A.block
   split
   ·rfl
   ·rw [addr_block]
theorem evsCells_append (L M : List (Value × Ev)) : evsCells (L ++ M) = evsCells L ++ evsCells M := by simp [evsCells]
structure Parts (w : World) (pv : Value) (L : List (Value × Ev)) (W : World) : Prop where
 row : W.ownsRow w.heap.size 206 13 pv L.length (evsCells L)
 keys : ∀ x ∈ L, KeysAt W x.1 x.2.cmd.keys
theorem Parts.kept {w : World} {pv : Value} {L : List (Value × Ev)} {W W' : World} (h : Parts w pv L W) {M : Nat → Prop} (hc : Chg M W W') (hM : ∀ k, M k → ¬ Tag W k 206 ∧ ¬ Tag W k 9) : Parts w pv L W' :=
 ⟨owns_grow h.row hc (fun g hg e => (hM g e).1 (owns_tag h.row hg)), fun x hx => (h.keys x hx).kept hc (fun g hg e => (hM g e).2 ((h.keys x hx).tag hg))⟩
theorem Parts.push {w : World} {pv : Value} {L : List (Value × Ev)} {W w1 : World} (h : Parts w pv L W) {v' : Value} {M : List (Value × Ev)} (hk : ∀ x ∈ M, KeysAt W x.1 x.2.cmd.keys)
  (hown : w1.ownsRow w.heap.size 206 13 v' (L.length + M.length) (evsCells L ++ evsCells M)) (hgr : W.grownBy w1 pv.ownBlock) : Parts w v' (L ++ M) w1 ∧ Chg (fun k => pv.ownBlock = some k) W w1 := by
 have hc1 : Chg (fun k => pv.ownBlock = some k) W w1 := Chg.of_grown hgr (fun _ _ e => e)
 have hno : ∀ g, pv.ownBlock = some g → ¬ Tag W g 9 := fun g hg e => absurd ((owns_tag h.row hg).one e) (by decide)
 refine ⟨⟨by rw [List.length_append, evsCells_append]; exact hown, fun x hx => ?_⟩, hc1⟩
 rcases List.mem_append.1 hx with hx | hx
 ·exact (h.keys x hx).kept hc1 (fun g hg e => hno g e ((h.keys x hx).tag hg))
 ·exact (hk x hx).kept hc1 (fun g hg e => hno g e ((hk x hx).tag hg))
structure SCmd where
 kind : Nat
 conn : Nat
 bytes : List UInt8
def stepS (x : UInt8) (r : List UInt8) : SCmd × List UInt8 :=
 if 192 ≤ x.toNat then (⟨2, 0, []⟩, r) else if 64 ≤ x.toNat then (⟨1, x.toNat % 64, []⟩, r) else
  match r with
  | [] => (⟨0, x.toNat, []⟩, [])
  | m :: r => (⟨0, x.toNat, r.take (min m.toNat r.length)⟩, r.drop (min m.toNat r.length))
theorem stepS_len (x : UInt8) (r : List UInt8) : (stepS x r).2.length ≤ r.length := by
 unfold stepS
 split
 ·exact Nat.le_refl _
 ·split
  ·exact Nat.le_refl _
  ·cases r with
   | nil => exact Nat.le_refl _
   | cons m r => simp only [List.length_drop, List.length_cons]; omega
def parseF : Nat → List UInt8 → List SCmd
 | 0, _ => []
 | _ + 1, [] => []
 | k + 1, x :: r => (stepS x r).1 :: parseF k (stepS x r).2
theorem parseF_more : ∀ (k k' : Nat) (l : List UInt8), l.length ≤ k → l.length ≤ k' → parseF k l = parseF k' l
 | k, k', [], _, _ => by cases k <;> cases k' <;> rfl
 | 0, _, _ :: _, h, _ => by simp at h
 | _ + 1, 0, _ :: _, _, h => by simp at h
 | k + 1, k' + 1, x :: r, h, h' => by
  have := stepS_len x r
  simp only [List.length_cons] at h h'
  exact congrArg _ (parseF_more k k' _ (by omega) (by omega))
def parseS (l : List UInt8) : List SCmd := parseF l.length l
theorem parseS_nil : parseS [] = [] := rfl
theorem parseS_cons (x : UInt8) (r : List UInt8) : parseS (x :: r) = (stepS x r).1 :: parseS (stepS x r).2 := by
 have := stepS_len x r
 unfold parseS
 show parseF (r.length + 1) (x :: r) = _
 exact congrArg _ (parseF_more _ _ _ (by omega) (by omega))
abbrev scmdCells (c : SCmd) (bv : Value) : List Value := [.int .u8 (c.kind : Int), .int .i64 (c.conn : Int), bv]
def SRows (B : Nat) (w : World) (L : List (SCmd × Value)) : Prop := ∀ x ∈ L, Row w 5 1 x.2 x.1.bytes.length (x.1.bytes.map u8v) ∧ ∀ g, x.2.ownBlock = some g → B ≤ g
def scells (L : List (SCmd × Value)) : List Value := L.flatMap fun x => scmdCells x.1 x.2
theorem scells_snoc (L : List (SCmd × Value)) (c : SCmd) (bv : Value) : scells (L ++ [(c, bv)]) = scells L ++ scmdCells c bv := by
 unfold scells
 rw [List.flatMap_append]
 simp
theorem infoSCmd : (Tryz.prog.info? 73).map (fun i => (i.zero, i.size, i.bytes)) = some (some (Value.agg #[.int .u8 0, .int .i64 0, .slice none 0 0]), 3, 40) := by kernel_rfl
theorem bslice_scmd (k j : Int) (bv : Value) (W : World) : (Instr.buildSlice 69 1 #[(0, .agg #[.int .u8 k, .int .i64 j, bv])]).run Tryz.prog W = .ok (.slice (some ⟨W.heap.size, 0, none⟩) 1 1) (W.alloc (.cells #[.int .u8 k, .int .i64 j, bv] 73)) := by kernel_rfl
theorem app_scmd {w : World} {B : Nat} {v : Value} {L : List (SCmd × Value)} {c : SCmd} {bv : Value} {g : Nat} (h : w.ownsRow B 73 3 v L.length (scells L)) (hn : L.length ≤ 10000) (hbv : bv.oneCell' = true) (hB : B ≤ w.heap.size) (hg : w.heap[g]? = some (.cells (scmdCells c bv).toArray 73 (0, 0))) :
  ∃ v' W, (Builtin.append_ #[69, 69] 69 #[v, .slice (some ⟨g, 0, none⟩) 1 1]).run Tryz.prog w = .ok v' W ∧
   W.ownsRow B 73 3 v' (L ++ [(c, bv)]).length (scells (L ++ [(c, bv)])) ∧ w.grownBy W v.ownBlock := by
 obtain ⟨i0, hi0, hz0, hz1, hz2⟩ := infoP_parts infoSCmd
 have hnews : ∀ j u, (scmdCells c bv)[j]? = some u → w.cell? (Addr.add ⟨g, 0, none⟩ j) = some u := by
  intro j u hj
  have := (cellsAt hg j).1
  rw [List.getElem?_toArray] at this
  by_cases h0 : j = 0
  ·subst h0
   exact this.trans hj
  ·simpa [Addr.add, h0] using this.trans hj
 obtain ⟨v', w', hr, h2, h3, h4, h5⟩ := run_append_own_at (P := Tryz.prog) w B 69 69 73 i0 _ 3 40 Tryz.underlying69 hi0 hz0 hz1 hz2 (by rfl) (by omega) v L.length (scells L) h ⟨g, 0, none⟩ 1 1 (scmdCells c bv) rfl hnews (by simp [Value.oneCell'] at hbv ⊢; exact hbv) (by unfold maxLen; omega) (by omega) hB
 exact ⟨v', w', hr, by rw [scells_snoc]; simpa using h2, h3⟩
theorem clipS_any {a : Option Addr} {n c : Nat} (w : World) (h : n ≤ c) (_hc : c ≤ maxLen) (ha : a = none → c = 0) : Calls Tryz.prog 46 #[.slice a n c] w fun e w' => e = .returned (.slice a n n) ∧ w = w' := by
 unfold maxLen at _hc
 cases a with
 | none =>
  obtain rfl := ha rfl
  obtain rfl : n = 0 := by omega
  clear ha h _hc
  go_enter Tryz.func46, Tryz.ntmps46
  go_wp2_with fail
  go_ret
  exact ⟨rfl, rfl⟩
 | some a =>
  clear ha
  go_enter Tryz.func46, Tryz.ntmps46
  go_wp2_with fail
  go_ret
  exact ⟨rfl, rfl⟩
theorem clipY_any {a : Option Addr} {n c : Nat} (w : World) (h : n ≤ c) (_hc : c ≤ maxLen) (ha : a = none → c = 0) : Calls Tryz.prog 44 #[.slice a n c] w fun e w' => e = .returned (.slice a n n) ∧ w = w' := by
 unfold maxLen at _hc
 cases a with
 | none =>
  obtain rfl := ha rfl
  obtain rfl : n = 0 := by omega
  clear ha h _hc
  go_enter Tryz.func44, Tryz.ntmps44
  go_wp2_with fail
  go_ret
  exact ⟨rfl, rfl⟩
 | some a =>
  clear ha
  go_enter Tryz.func44, Tryz.ntmps44
  go_wp2_with fail
  go_ret
  exact ⟨rfl, rfl⟩
theorem bytesSlice (a : Addr) (n c : Nat) (W : World) : (binOp .eql 47 (.slice (some a) n c) (.slice none 0 0)).run Tryz.prog W = .ok (.bool false) W := by kernel_rfl
theorem cloneY_some {w : World} {a : Addr} {n c : Nat} {bl : List UInt8} (hn : n = bl.length) (hb : BRow w (.slice (some a) n c) bl) (hl : bl.length ≤ 3000) :
  Calls Tryz.prog 45 #[.slice (some a) n c] w fun e w' => ∃ a' c', e = .returned (.slice a' n c') ∧ w'.ownsRow w.heap.size 5 1 (.slice a' n c') bl.length (bl.map u8v) ∧ Below w.heap.size w w' := by
 have q1 := bytesSlice
 obtain ⟨q, hq⟩ := xE (w.heap.size)
 obtain ⟨w1, hw1⟩ := xE (w.alloc (.cells #[] 5))
 have hb1 : Below w.heap.size w w1 := bal hw1
 have hz1 : w1.heap.size = w.heap.size + 1 := by rw [hw1, size_at]
 have hq1 : w1.heap[q]? = some (.cells #[] 5 (0, 0)) := by rw [hw1, hq]; exact heap_mem w _
 have HO := hidZ (show w1.ownsRow w.heap.size 5 1 (.slice (some ⟨q, 0, none⟩) 0 0) ([] : List UInt8).length (([] : List UInt8).map u8v) from ⟨rfl, .inr ⟨q, 0, #[], rfl, by omega, hq1, Nat.le_refl _, Nat.zero_le _, rfl, rfl⟩⟩)
 have HR := hidZ (hb.below hb1)
 have HB := hidZ hb1
 have HS := hidZ (And.intro hl (show w.heap.size ≤ w1.heap.size by omega))
 have HN := hidZ hn
 clear hb hb1 hq1 hl hz1 hn
 go_enter Tryz.func45, Tryz.ntmps45
 go_wp2_with (first
  | (at_builtin; rw [← hw1, ← hq]; refine wpList_appB _ _ (by rfl) (by rfl) (by rfl) (by rfl) HS.out.2 HO.out HR.out (by have := HS.out.1; simp; omega) ?_; intro v' w2 ho hb2)
  | fail)
 obtain ⟨a2, c2, rfl⟩ := row_slice ho
 have HX := hidZ (And.intro ho hb2)
 clear ho hb2
 go_wp2_with fail
 go_ret
 have ho := HX.out.1
 have hb2 := HB.out.trans (HX.out.2.mono (Nat.le_refl _))
 simp only [List.nil_append] at ho
 rw [HN.out]
 exact ⟨a2, c2, rfl, ho, hb2⟩
structure ParseJ (w : World) (bl : List UInt8) (v lv : Value) (L : List (SCmd × Value)) (rest : List UInt8) (wr : World) : Prop where
 own : wr.ownsRow w.heap.size 73 3 v L.length (scells L)
 rows : SRows w.heap.size wr L
 left : BRow wr lv rest
 blk : rest ≠ [] → ∀ g, lv.ownBlock = some g → g < w.heap.size
 eq : parseS bl = L.map Prod.fst ++ parseS rest
 len : L.length + rest.length ≤ bl.length
 low : Below w.heap.size w wr
theorem ParseJ.more {w wr w2 W : World} {bl r rest' : List UInt8} {x : UInt8} {v v' lv lv' bv : Value} {L : List (SCmd × Value)} {c : SCmd} (h : ParseJ w bl v lv L (x :: r) wr) (hs : stepS x r = (c, rest')) (hl : BRow wr lv' rest') (hlb : rest' ≠ [] → ∀ g, lv'.ownBlock = some g → g < w.heap.size)
  (hb : Below wr.heap.size wr w2) (hbv : Row w2 5 1 bv c.bytes.length (c.bytes.map u8v)) (hbb : ∀ g, bv.ownBlock = some g → w.heap.size ≤ g)
  (ho : W.ownsRow w.heap.size 73 3 v' (L ++ [(c, bv)]).length (scells (L ++ [(c, bv)]))) (hg : w2.grownBy W v.ownBlock) : ParseJ w bl v' lv' (L ++ [(c, bv)]) rest' W := by
 have hno : ∀ g, v.ownBlock = some g → w.heap.size ≤ g ∧ Tag w2 g 73 := fun g hgv => ⟨(h.own.lt g hgv).1, (Chg.of_below (M := fun _ => False) hb).tag (owns_tag h.own hgv) (fun e => e)⟩
 have hc : Chg (fun k => v.ownBlock = some k) w2 W := Chg.of_grown hg (fun i _ e => e)
 have hdiff : ∀ {y : Value} {n : Nat} {xs : List Value}, Row w2 5 1 y n xs → ∀ g, y.ownBlock = some g → ¬ v.ownBlock = some g := fun hy g hgy e => by
  have := (hy.tag hgy).one (hno g e).2
  exact absurd this (by decide)
 have hz := h.low.size
 have hl2 := stepS_len x r
 rw [hs] at hl2
 dsimp only at hl2
 refine ⟨ho, fun y hy => ?_, ?_, hlb, ?_, ?_, ?_⟩
 ·rcases List.mem_append.1 hy with hy | hy
  ·obtain ⟨h1, h2⟩ := h.rows y hy
   have h3 := h1.below hb
   exact ⟨h3.kept hc (hdiff h3), h2⟩
  ·obtain rfl := List.mem_singleton.1 hy
   exact ⟨hbv.kept hc (hdiff hbv), hbb⟩
 ·exact (hl.below hb).kept hc (fun hne g hg e => by have := hlb hne g hg; have := (hno g e).1; omega)
 ·rw [h.eq, parseS_cons, hs, List.map_append, List.append_assoc]
  rfl
 ·have := h.len
  simp only [List.length_append, List.length_cons, List.length_nil] at this ⊢
  omega
 ·have hb2 := h.low.trans (hb.mono hz)
  exact hb2.trans (hc.below (fun k hk => ⟨Nat.lt_of_lt_of_le hk hb2.size, fun e => by have := (hno k e).1; omega⟩))
theorem own_cap {a : Option Addr} {n n' c c' g : Nat} (h : (Value.slice a n c).ownBlock = some g) : (Value.slice a n' c').ownBlock = some g := by cases a <;> exact h
def lenS : Value → Nat
 | .slice _ n _ => n
 | _ => 0
theorem brow_tail {w : World} {bv : Value} {x : UInt8} {r : List UInt8} (h : BRow w bv (x :: r)) : ∃ A2 c2, (∀ W : World, (Instr.slice 47 bv (some (.int .i64 1)) none none).run Tryz.prog W = .ok (.slice (some A2) r.length c2) W) ∧ BRow w (.slice (some A2) r.length c2) r ∧ (Value.slice (some A2) r.length c2).ownBlock = bv.ownBlock ∧ r.length ≤ c2 ∧ c2 ≤ maxLen := by
 obtain ⟨g, o, c, rfl, -, h1, h2, -⟩ := h.get (by simp)
 obtain ⟨a1, c1, a2, c2, -, q, -, hb, -, hob⟩ := brow_cut h (k := 1) (by simp)
 have q' : ∀ W : World, (Instr.slice 47 (.slice (some ⟨g, o, none⟩) (x :: r).length c) (some (.int .i64 1)) none none).run Tryz.prog W = .ok (.slice a2 r.length c2) W := q
 have hb' : BRow w (.slice a2 r.length c2) r := hb
 have hob' : (Value.slice a2 r.length c2).ownBlock = (Value.slice (some ⟨g, o, none⟩) (x :: r).length c).ownBlock := hob
 obtain ⟨a, c', e, h3, h4, -⟩ := hb'
 obtain ⟨rfl, -, rfl⟩ := slice_inj e
 cases a2 with
 | none => simp [Value.ownBlock] at hob'
 | some A2 => exact ⟨A2, c2, q', hb, hob', h3, h4⟩
theorem brow_first {w : World} {bv : Value} {x : UInt8} {r : List UInt8} (h : BRow w bv (x :: r)) : ∃ g o : Nat, (∀ W : World, (Instr.indexAt 47 bv (.int .i64 0)).run Tryz.prog W = .ok (.pointer (some ⟨g, o, none⟩)) W) ∧ w.cell? ⟨g, o, none⟩ = some (.int .u8 (x.toNat : Int)) := by
 obtain ⟨g, o, c, rfl, -, h1, h2, h3⟩ := h.get (by simp)
 exact ⟨g, o, fun W => idx_byte30 (k := 0) rfl (by simp) W, h3 0 x rfl⟩
theorem full_slice {w : World} {bv : Value} {bl : List UInt8} (h : BRow w bv bl) : ∃ a, (∀ W : World, (Instr.slice 47 bv none (some (.int .i64 (bl.length : Int))) (some (.int .i64 (bl.length : Int)))).run Tryz.prog W = .ok (.slice a bl.length bl.length) W) ∧ BRow w (.slice a bl.length bl.length) bl ∧ (Value.slice a bl.length bl.length).ownBlock = bv.ownBlock := by
 obtain ⟨a, c, rfl, h1, h2, h3, h4⟩ := h
 unfold maxLen at h2
 have h7 := Tryz.underlying47
 have i1 : (0 : Int) ≤ (bl.length : Int) := by omega
 have i2 : (bl.length : Int) ≤ (c : Int) := by omega
 refine ⟨a, fun W => ?_, ⟨a, bl.length, rfl, Nat.le_refl _, by unfold maxLen; omega, fun e => by have := h3 e; omega, h4⟩, by cases a <;> rfl⟩
 cases a with
 | none =>
  obtain rfl := h3 rfl
  obtain h0 : bl.length = 0 := by omega
  rw [h0]
  go_simp
 | some A => go_simp
theorem sparse_any {w : World} {bv : Value} {bl : List UInt8} (hb : BRow w bv bl) (hl : bl.length ≤ 3000) (hbk : bl ≠ [] → ∀ g, bv.ownBlock = some g → g < w.heap.size) :
  Calls Tryz.prog 24 #[bv] w fun e w' => ∃ v L, e = .returned v ∧ Row w' 73 3 v L.length (scells L) ∧ (∀ g, v.ownBlock = some g → w.heap.size ≤ g) ∧ SRows w.heap.size w' L ∧ L.map Prod.fst = parseS bl ∧ Below w.heap.size w w' := by
 obtain ⟨a, qf, hbf, hob⟩ := full_slice hb
 obtain ⟨ba, bc, rfl⟩ := hb.len
 have HJ0 := hidZ (show ParseJ w bl (.slice none 0 0) (.slice a bl.length bl.length) [] bl w from ⟨World.ownsRow_nil _ _ _ _, (fun _ h => nomatch h), hbf, fun hne g hg => hbk hne g (hob ▸ hg), rfl, by simp, Below.refl _ _⟩)
 have HLN := hidZ hl
 obtain ⟨n, hn⟩ := xE (bl.length)
 rw [← hn] at qf HJ0
 rw [← hn]
 have HN := hidZ hn
 clear hb hl hbk hbf hob hn
 go_enter Tryz.func24, Tryz.ntmps24
 go_upto_region 2 with fail
 go_wp2_with fail
 clear qf
 go_loopw [3, 4] (fun s3 s4 wr => ∃ L rest, Hid (ParseJ w bl s3 s4 L rest wr)) (fun _ s4 _ => lenS s4)
 case atStart => exact ⟨[], bl, HJ0⟩
 case round =>
  obtain ⟨L, rest, HJ⟩ := hrel
  clear HJ0
  obtain ⟨va, vc, rfl⟩ := row_slice HJ.out.own
  obtain ⟨la, lc, rfl⟩ := HJ.out.left.len
  cases rest with
  | nil =>
   obtain ⟨-, a2, c2, e2, h1, h2, h3, -, h5⟩ := Row.of_owns HJ.out.own
   obtain ⟨rfl, -, rfl⟩ := slice_inj e2
   have HCP := hidZ (clipS_any wr h1 h2 h3)
   have HX := hidZ (Row.of_owns HJ.out.own)
   have HM := hidZ h3
   clear h1 h2 h3 h5
   go_wp2_with fail
   refine HCP.out.mono ?_
   rintro e w' ⟨rfl, rfl⟩
   go_wp2_with fail
   go_ret
   refine ⟨.slice va L.length L.length, L, rfl, ?_, fun g hg => (HJ.out.own.lt g (own_cap hg)).1, HJ.out.rows, by rw [HJ.out.eq, parseS_nil, List.append_nil], HJ.out.low⟩
   obtain ⟨y0, a3, c3, e3, y1, y2, y3, y4, y5⟩ := HX.out
   obtain ⟨rfl, -, rfl⟩ := slice_inj e3
   exact ⟨y0, va, L.length, rfl, Nat.le_refl _, Nat.le_trans y1 y2, fun e => by have := y3 e; omega, fun g hg => y4 g (own_cap hg), y5⟩
  | cons x r =>
   obtain ⟨g, o, qi, c0⟩ := brow_first HJ.out.left
   obtain ⟨A2, c2, qt, hb2, hob2, hr2, hm2⟩ := brow_tail HJ.out.left
   change ∀ W : World, (Instr.indexAt 47 (.slice la (r.length + 1) lc) (.int .i64 0)).run Tryz.prog W = .ok (.pointer (some ⟨g, o, none⟩)) W at qi
   change ∀ W : World, (Instr.slice 47 (.slice la (r.length + 1) lc) (some (.int .i64 1)) none none).run Tryz.prog W = .ok (.slice (some A2) r.length c2) W at qt
   have HB2 := hidZ (show BRow wr (.slice (some A2) r.length c2) r ∧ (r ≠ [] → ∀ g, (Value.slice (some A2) r.length c2).ownBlock = some g → g < w.heap.size) from ⟨hb2, fun _ g hg => HJ.out.blk (by simp) g (hob2 ▸ hg)⟩)
   have HX := hidZ (show x.toNat < 256 from x.toNat_lt)
   obtain ⟨z, hz⟩ : ∃ z : Int, z = (x.toNat : Int) := ⟨_, rfl⟩
   rw [← hz] at c0
   have hwz : IntKind.i64.wrap z = z := IntWalk.i64_in _ (by have := HX.out; omega)
   have HZ := hidZ hz
   clear hb2 hob2 hz
   by_cases h192 : 192 ≤ x.toNat
   ·have d1 : decide (192 ≤ z) = true := decide_eq_true (by have := HZ.out; omega)
    have d2 : decide (z ≥ 192) = true := decide_eq_true (by have := HZ.out; omega)
    have qb : ∀ W : World, (Instr.build 73 #[(0, .int .u8 2)]).run Tryz.prog W = .ok (.agg #[.int .u8 2, .int .i64 0, .slice none 0 0]) W := fun W => by kernel_rfl
    have HS := hidZ (show stepS x r = (⟨2, 0, []⟩, r) by unfold stepS; rw [if_pos h192])
    clear h192
    have qs := bslice_scmd
    obtain ⟨q, hq⟩ := xE (wr.heap.size)
    obtain ⟨w4, hw4⟩ := xE (wr.alloc (.cells #[.int .u8 2, .int .i64 0, .slice none 0 0] 73))
    have hb4 : Below wr.heap.size wr w4 := bal hw4
    have hq4 : w4.heap[q]? = some (.cells (scmdCells ⟨2, 0, []⟩ (.slice none 0 0)).toArray 73 (0, 0)) := by rw [hw4, hq]; exact heap_mem wr _
    have hbw : Below wr.heap.size wr w4 := hb4
    obtain ⟨v', W5, hrun, hown, hgr⟩ := app_scmd (owns_grow HJ.out.own (Chg.of_below (M := fun _ => False) hbw) (fun _ _ e => e)) (by have := HJ.out.len; have := HLN.out; omega) (by rfl) (Nat.le_trans HJ.out.low.size hbw.size) hq4
    have HJ2 := hidZ (HJ.out.more (c := ⟨2, 0, []⟩) (rest' := r) (lv' := .slice (some A2) r.length c2) HS.out HB2.out.1 HB2.out.2 hbw (Row.nil _ _ _) (fun g hg => by simp [Value.ownBlock] at hg) hown hgr)
    rw [hw4, hq] at hrun
    clear hw4 hq hb4 hq4 hbw hown hgr
    go_wp2_with (first
     | (at_builtin; refine wpList_plain (by rfl) fun _ hK => wp_append_run (.tmp 51) (.tmp 53) 69 (by rfl) _ _ _ (by rfl) (by rfl) hrun (hK _ _ ?_))
     | fail)
    go_wp2_with fail
    go_roundw
    case rel => exact ⟨_, _, HJ2⟩
    case measure => simp [lenS]
   ·have d1 : decide (192 ≤ z) = false := decide_eq_false (by have := HZ.out; omega)
    have d2 : decide (z ≥ 192) = false := decide_eq_false (by have := HZ.out; omega)
    by_cases h64 : 64 ≤ x.toNat
    ·have d3 : decide (64 ≤ z) = true := decide_eq_true (by have := HZ.out; omega)
     have d4 : decide (z ≥ 64) = true := decide_eq_true (by have := HZ.out; omega)
     have HS := hidZ (show stepS x r = (⟨1, x.toNat % 64, []⟩, r) by unfold stepS; rw [if_neg h192, if_pos h64])
     obtain ⟨m, hm⟩ : ∃ m : Int, m = ((x.toNat % 64 : Nat) : Int) := ⟨_, rfl⟩
     have hmod : z.tmod 64 = m := by have := HZ.out; rw [this, hm]; exact Int.ofNat_tmod _ _ |>.symm
     have hwm : IntKind.i64.wrap m = m := IntWalk.i64_in _ (by have := HX.out; omega)
     have qb : ∀ W : World, (Instr.build 73 #[(0, .int .u8 1), (1, .int .i64 m)]).run Tryz.prog W = .ok (.agg #[.int .u8 1, .int .i64 m, .slice none 0 0]) W := fun W => by kernel_rfl
     have HM := hidZ hm
     clear h192 h64 hm
     have qs := bslice_scmd
     obtain ⟨q, hq⟩ := xE (wr.heap.size)
     obtain ⟨w4, hw4⟩ := xE (wr.alloc (.cells #[.int .u8 1, .int .i64 m, .slice none 0 0] 73))
     have hb4 : Below wr.heap.size wr w4 := bal hw4
     have hq4 : w4.heap[q]? = some (.cells (scmdCells ⟨1, x.toNat % 64, []⟩ (.slice none 0 0)).toArray 73 (0, 0)) := by rw [hw4, hq, HM.out]; exact heap_mem wr _
     have hbw : Below wr.heap.size wr w4 := hb4
     obtain ⟨v', W5, hrun, hown, hgr⟩ := app_scmd (owns_grow HJ.out.own (Chg.of_below (M := fun _ => False) hbw) (fun _ _ e => e)) (by have := HJ.out.len; have := HLN.out; omega) (by rfl) (Nat.le_trans HJ.out.low.size hbw.size) hq4
     have HJ2 := hidZ (HJ.out.more (c := ⟨1, x.toNat % 64, []⟩) (rest' := r) (lv' := .slice (some A2) r.length c2) HS.out HB2.out.1 HB2.out.2 hbw (Row.nil _ _ _) (fun g hg => by simp [Value.ownBlock] at hg) hown hgr)
     rw [hw4, hq] at hrun
     clear hw4 hq hb4 hq4 hbw hown hgr
     go_wp2_with (first
      | (at_builtin; refine wpList_plain (by rfl) fun _ hK => wp_append_run (.tmp 58) (.tmp 62) 69 (by rfl) _ _ _ (by rfl) (by rfl) hrun (hK _ _ ?_))
      | fail)
     go_wp2_with fail
     go_roundw
     case rel => exact ⟨_, _, HJ2⟩
     case measure => simp [lenS]
    ·have d3 : decide (64 ≤ z) = false := decide_eq_false (by have := HZ.out; omega)
     have d4 : decide (z ≥ 64) = false := decide_eq_false (by have := HZ.out; omega)
     have qb : ∀ (a : Option Addr) (n c : Nat) (W : World), (Instr.build 73 #[(1, .int .i64 z), (2, .slice a n c)]).run Tryz.prog W = .ok (.agg #[.int .u8 0, .int .i64 z, .slice a n c]) W := fun a n c W => by kernel_rfl
     go_upto_if 24 with fail
     go_cut [4, 6] (fun s4 s6 wx => wr = wx ∧ ∃ (A : Addr) (rr : List UInt8) (cc k : Nat), s4 = .slice (some A) rr.length cc ∧ s6 = .int .i64 (k : Int) ∧ Hid (BRow wr (.slice (some A) rr.length cc) rr ∧ (rr ≠ [] → ∀ g, (Value.slice (some A) rr.length cc).ownBlock = some g → g < w.heap.size) ∧ k ≤ rr.length ∧ rr.length ≤ cc ∧ rr.length ≤ r.length ∧ stepS x r = (⟨0, x.toNat, rr.take k⟩, rr.drop k)))
     case first =>
      cases r with
      | nil =>
       rw [show decide (0 < ([] : List UInt8).length) = false from rfl]
       go_wp2_with fail
       go_meet
       case rel => exact ⟨rfl, A2, [], c2, 0, rfl, rfl, hidZ ⟨HB2.out.1, HB2.out.2, Nat.le_refl _, Nat.zero_le _, Nat.le_refl _, by unfold stepS; rw [if_neg h192, if_neg h64]; rfl⟩⟩
      | cons m r2 =>
       obtain ⟨g2, o2, qi2, k0⟩ := brow_first HB2.out.1
       obtain ⟨A3, c3, qt2, hb3, hob3, hr3, hm3⟩ := brow_tail HB2.out.1
       change ∀ W : World, (Instr.indexAt 47 (.slice (some A2) (r2.length + 1) c2) (.int .i64 0)).run Tryz.prog W = .ok (.pointer (some ⟨g2, o2, none⟩)) W at qi2
       change ∀ W : World, (Instr.slice 47 (.slice (some A2) (r2.length + 1) c2) (some (.int .i64 1)) none none).run Tryz.prog W = .ok (.slice (some A3) r2.length c3) W at qt2
       obtain ⟨y, hy⟩ : ∃ y : Int, y = (m.toNat : Int) := ⟨_, rfl⟩
       rw [← hy] at k0
       have hwy : IntKind.i64.wrap y = y := IntWalk.i64_in _ (by have := m.toNat_lt; omega)
       have hwl : IntKind.i64.wrap (r2.length : Int) = (r2.length : Int) := IntWalk.i64_in _ (by have h1 := HJ.out.len; have h2 := HLN.out; simp only [List.length_cons] at h1; omega)
       have HB3 := hidZ (show BRow wr (.slice (some A3) r2.length c3) r2 ∧ (r2 ≠ [] → ∀ g, (Value.slice (some A3) r2.length c3).ownBlock = some g → g < w.heap.size) from ⟨hb3, fun _ g hg => HB2.out.2 (by simp) g (hob3 ▸ hg)⟩)
       have HY := hidZ hy
       clear hy hb3 hob3
       rw [show decide (0 < (m :: r2).length) = true from decide_eq_true (by simp)]
       go_wp2_with fail
       go_meet
       case rel => exact ⟨rfl, A3, r2, c3, min m.toNat r2.length, rfl, int_congr (by have := HY.out; omega), hidZ ⟨HB3.out.1, HB3.out.2, Nat.min_le_right _ _, hr3, by simp, by unfold stepS; rw [if_neg h192, if_neg h64]⟩⟩
     case rest =>
      obtain ⟨rfl, A, rr, cc, k, rfl, rfl, HC⟩ := hcut
      obtain ⟨a3, c3, qd, hb3, hob3⟩ : ∃ a3 c3, (∀ W : World, (Instr.slice 47 (.slice (some A) rr.length cc) (some (.int .i64 (k : Int))) none none).run Tryz.prog W = .ok (.slice a3 (rr.length - k) c3) W) ∧ BRow wr (.slice a3 (rr.length - k) c3) (rr.drop k) ∧ (Value.slice a3 (rr.length - k) c3).ownBlock = (Value.slice (some A) rr.length cc).ownBlock := by
       obtain ⟨-, -, a3, c3, -, q, -, h, -, h'⟩ := brow_cut HC.out.1 HC.out.2.2.1
       exact ⟨a3, c3, q, h, h'⟩
      have qu : ∀ W : World, (Instr.slice 47 (.slice (some A) rr.length cc) none (some (.int .i64 (k : Int))) none).run Tryz.prog W = .ok (.slice (some A) k cc) W := fun W => bytes_cut_to HC.out.2.2.1 HC.out.2.2.2.1 W
      have ht : (rr.take k).length = k := by rw [List.length_take]; exact Nat.min_eq_left HC.out.2.2.1
      have hbk : BRow wr (.slice (some A) k cc) (rr.take k) := by
       obtain ⟨a, c, e, y1, y2, y3, y4⟩ := HC.out.1
       obtain ⟨ha, -, rfl⟩ := slice_inj e
       subst ha
       refine ⟨some A, cc, by rw [ht], by rw [ht]; exact Nat.le_trans HC.out.2.2.1 y1, y2, (fun e => by cases e), ?_⟩
       rcases y4 with y4 | ⟨g, o, e, hg, y5⟩
       ·left
        rw [y4]
        simp
       ·refine .inr ⟨g, o, e, hg, fun j x hx => ?_⟩
        have hj : j < k := by have := (List.getElem?_eq_some_iff.1 hx).1; rw [ht] at this; exact this
        rw [List.getElem?_take, if_pos hj] at hx
        exact y5 j x hx
      have HCL := hidZ (cloneY_some (n := k) ht.symm hbk (by have h1 := HJ.out.len; have h2 := HLN.out; have h3 := HC.out.2.2.1; have h4 := HC.out.2.2.2.2.1; rw [ht]; simp only [List.length_cons] at h1; omega))
      have HD := hidZ (And.intro hb3 hob3)
      have HT := hidZ ht
      obtain ⟨nk, hnk⟩ := xE (rr.length - k)
      rw [← hnk] at qd HD
      have h4' := HC.out.2.2.2.2.1
      have hmw : IntKind.i64.wrap ((rr.length : Int) - 0) = (rr.length : Int) := IntWalk.i64_in _ (by have h1 := HJ.out.len; have h2 := HLN.out; have h4 := HC.out.2.2.2.2.1; simp only [List.length_cons] at h1; omega)
      have HNK := hidZ (And.intro hnk h4')
      clear hb3 hob3 hbk ht hnk qi qt c0 h4'
      go_wp2_with fail
      refine HCL.out.mono ?_
      rintro e w2 ⟨a', c', rfl, ho2, hb2'⟩
      obtain ⟨-, ax, cx, ex, y1, y2, y3, -, -⟩ := Row.of_owns ho2
      obtain ⟨rfl, hkk, rfl⟩ := slice_inj ex
      have HCP := hidZ (clipY_any w2 (show k ≤ c' by rw [hkk]; exact y1) y2 y3)
      have HO2 := hidZ (And.intro ho2 (And.intro hb2' (And.intro hkk (And.intro y1 (And.intro y2 y3)))))
      clear ho2 hb2' hkk y1 y2 y3 ex HCL
      go_wp2_with fail
      refine HCP.out.mono ?_
      rintro e w3 ⟨rfl, rfl⟩
      clear HCP
      have HRW := hidZ (show Row w2 5 1 (.slice a' k k) (rr.take k).length ((rr.take k).map u8v) from by
       obtain ⟨y0, a9, c9, e9, z1, z2, z3, z4, z5⟩ := Row.of_owns HO2.out.1
       obtain ⟨rfl, -, rfl⟩ := slice_inj e9
       have hk := HO2.out.2.2.1
       refine ⟨y0, a', k, by rw [← hk], by rw [← hk]; exact Nat.le_refl _, by have := z2; have := z1; omega, fun e => by have := z3 e; omega, fun g hg => z4 g (own_cap hg), z5⟩)
      have HZ2 := hidZ (show (z : Int) = ((⟨0, x.toNat, rr.take k⟩ : SCmd).conn : Int) from HZ.out)
      have qs := bslice_scmd
      obtain ⟨q, hq⟩ := xE (w2.heap.size)
      obtain ⟨w4, hw4⟩ := xE (w2.alloc (.cells #[.int .u8 0, .int .i64 z, .slice a' k k] 73))
      have hb4 : Below w2.heap.size w2 w4 := bal hw4
      have hq4 : w4.heap[q]? = some (.cells (scmdCells ⟨0, x.toNat, rr.take k⟩ (.slice a' k k)).toArray 73 (0, 0)) := by rw [hw4, hq, HZ.out]; exact heap_mem w2 _
      have hbw : Below wr.heap.size wr w4 := HO2.out.2.1.trans (hb4.mono HO2.out.2.1.size)
      obtain ⟨v', W5, hrun, hown, hgr⟩ := app_scmd (owns_grow HJ.out.own (Chg.of_below (M := fun _ => False) hbw) (fun _ _ e => e)) (by have := HJ.out.len; have := HLN.out; omega) (by rfl) (Nat.le_trans HJ.out.low.size hbw.size) hq4
      have HJ2 := hidZ (HJ.out.more (c := ⟨0, x.toNat, rr.take k⟩) (rest' := rr.drop k) (lv' := .slice a3 nk c3) HC.out.2.2.2.2.2 HD.out.1 (fun hne g hg => HC.out.2.1 (fun e => hne (by rw [e]; simp)) g (HD.out.2 ▸ hg)) hbw (HRW.out.below hb4) (fun g hg => Nat.le_trans HJ.out.low.size (HO2.out.1.lt g (own_cap hg)).1) hown hgr)
      rw [hw4, hq] at hrun
      clear hw4 hq hb4 hq4 hbw hown hgr
      go_wp2_with (first
       | (at_builtin; refine wpList_plain (by rfl) fun _ hK => wp_append_run (.tmp 35) (.tmp 43) 69 (by rfl) _ _ _ (by rfl) (by rfl) hrun (hK _ _ ?_))
       | fail)
      go_wp2_with fail
      go_roundw
      case rel => exact ⟨_, _, HJ2⟩
      case measure => have h4 := HNK.out; simp [lenS]; omega
end Go.Proofs.YtnkkoicbnbjlnaaGreatDoor
