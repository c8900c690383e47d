/- Plain: hashes, tags, places, words of tables: chapters 01, 02, 08. No condition. And what goes with it (6 texts). -/
import Derived.Test.YtnkkoicbnbjlnaaGreatDoorLowA
import Derived.Lib.SmallJoins
import Derived.Laws.Bits64
import Derived.Laws.BitsLemmas
import Derived.Deep.Light
import Derived.Lib.MinMax
namespace Go.Proofs.YtnkkoicbnbjlnaaGreatDoor
set_option maxRecDepth 100000
set_option maxHeartbeats 8000000
open Go.RowKit
def hashStep (s : Nat) (c : UInt8) : Nat := ((s ^^^ c.toNat) * 1099511628211) % 18446744073709551616
def seedN : Nat := 14695981039346656037
def hashN (l : List UInt8) : Nat := l.foldl hashStep seedN
def tagN (h : Nat) : Nat := max (h / 72057594037927936) 1
def sizeN (b : Nat) : Nat := if 1 ≤ b ∧ b ≤ 12 then 2 ^ b else 0
def bucketN (h b : Nat) : Nat := h % sizeN b
def otherN (a t b : Nat) : Nat := a ^^^ (t * 1540483477 % sizeN b)
def stripeN (b k : Nat) : Nat := (k + 31 * b) % 64
theorem hashStep_lt (s : Nat) (c : UInt8) : hashStep s c < 18446744073709551616 := Nat.mod_lt _ (by omega)
theorem foldHash_lt : ∀ (l : List UInt8) (s : Nat), s < 18446744073709551616 → l.foldl hashStep s < 18446744073709551616
 | [], _, h => h
 | c :: l, s, _ => foldHash_lt l _ (hashStep_lt s c)
theorem hashN_lt (l : List UInt8) : hashN l < 18446744073709551616 := foldHash_lt l _ (by decide)
theorem tag_bounds {h : Nat} (hh : h < 18446744073709551616) : 1 ≤ tagN h ∧ tagN h ≤ 255 := by
 unfold tagN
 omega
theorem size_le (b : Nat) : sizeN b ≤ 4096 := by
 unfold sizeN
 split
 ·rename_i h
  exact Nat.le_trans (Nat.pow_le_pow_right (by omega) h.2) (by decide)
 ·omega
theorem size_pos {b : Nat} (h1 : 1 ≤ b) (h2 : b ≤ 12) : 2 ≤ sizeN b := by
 unfold sizeN
 rw [if_pos ⟨h1, h2⟩]
 have := Nat.pow_le_pow_right (n := 2) (by omega) h1
 omega
theorem size_ne {b : Nat} (h : sizeN b ≠ 0) : 1 ≤ b ∧ b ≤ 12 := by
 unfold sizeN at h
 by_cases hb : 1 ≤ b ∧ b ≤ 12
 ·exact hb
 ·rw [if_neg hb] at h
  exact absurd rfl h
theorem size_cases {b : Nat} (h1 : 1 ≤ b) (h2 : b ≤ 12) : b = 1 ∨ b = 2 ∨ b = 3 ∨ b = 4 ∨ b = 5 ∨ b = 6 ∨ b = 7 ∨ b = 8 ∨ b = 9 ∨ b = 10 ∨ b = 11 ∨ b = 12 := by omega
theorem size_none {b : Nat} (h : ¬ (1 ≤ b ∧ b ≤ 12)) : sizeN b = 0 := by unfold sizeN; rw [if_neg h]
theorem bucket_lt {h b : Nat} (h1 : 1 ≤ b) (h2 : b ≤ 12) : bucketN h b < sizeN b := Nat.mod_lt _ (by have := size_pos h1 h2; omega)
theorem size_pow {b : Nat} (h1 : 1 ≤ b) (h2 : b ≤ 12) : sizeN b = 2 ^ b := by unfold sizeN; rw [if_pos ⟨h1, h2⟩]
theorem other_lt {a t b : Nat} (h1 : 1 ≤ b) (h2 : b ≤ 12) (ha : a < sizeN b) : otherN a t b < sizeN b := by
 unfold otherN
 rw [size_pow h1 h2] at ha ⊢
 exact Nat.xor_lt_two_pow ha (Nat.mod_lt _ (by have := size_pos h1 h2; rw [size_pow h1 h2] at this; omega))
def partN (w s : Nat) : Nat := w / 256 ^ s % 256
def withN (w s t : Nat) : Nat := w - partN w s * 256 ^ s + t * 256 ^ s
def freeN (w : Nat) : Option Nat := (List.range 4).find? fun s => partN w s == 0
def tagsA (b k : Nat) : Nat := 4096 + 8 * (sizeN b + k)
def itemA (b k s : Nat) : Nat := tagsA b k + 1 + s
def verA (b k : Nat) : Nat := 64 + stripeN b k
def wordN (old now : Nat) : Nat := old % 256 + 256 * (now % 256)
def oldN (w : Nat) : Nat := if sizeN (w % 256) = 0 then 1 else w % 256
def newN (w : Nat) : Nat := if w / 256 % 256 = oldN w + 1 ∧ sizeN (w / 256 % 256) ≠ 0 then w / 256 % 256 else 0
def targetN (w : Nat) : Nat := max (oldN w) (newN w)
theorem old_bounds (w : Nat) : 1 ≤ oldN w ∧ oldN w ≤ 12 := by
 unfold oldN
 by_cases h : sizeN (w % 256) = 0
 ·rw [if_pos h]; omega
 ·rw [if_neg h]; exact size_ne h
theorem new_bounds (w : Nat) : newN w = 0 ∨ 1 ≤ newN w ∧ newN w ≤ 12 := by
 unfold newN
 by_cases h : w / 256 % 256 = oldN w + 1 ∧ sizeN (w / 256 % 256) ≠ 0
 ·rw [if_pos h]; exact .inr (size_ne h.2)
 ·rw [if_neg h]; exact .inl rfl
theorem target_bounds (w : Nat) : 1 ≤ targetN w ∧ targetN w ≤ 12 := by
 have h1 := old_bounds w
 have h2 := new_bounds w
 unfold targetN
 omega
def onceL : List (Nat × Nat) → List (Nat × Nat) → List (Nat × Nat)
 | acc, [] => acc
 | acc, p :: l => if p ∈ acc then onceL acc l else onceL (acc ++ [p]) l
def pairL (h b : Nat) : List (Nat × Nat) := if sizeN b = 0 then [] else [(b, bucketN h b), (b, otherN (bucketN h b) (tagN h) b)]
def placesL (h w : Nat) : List (Nat × Nat) := onceL [] (pairL h (oldN w) ++ pairL h (newN w))
theorem cellsAt {w : World} {p : Nat} {cs : Array Value} {t : TypeId} (h : w.heap[p]? = some (.cells cs t (0, 0))) (j : Nat) : w.cell? ⟨p, j, none⟩ = cs[j]? ∧ w.frozen? ⟨p, j, none⟩ = false := by
 constructor
 ·simp [World.cell?, h]
 ·simp [World.frozen?, h]
theorem low_drawn {B : Nat} {a b : World} (h : Below B a b) (n : Nat) : Below B a (b.drewN n) := ⟨h.os, h.tape, h.output, h.size, h.block⟩
abbrev Thing := World → (Nat → Prop) → Prop
def NoTxt (w : World) (k : Nat) : Prop := ¬ Tag w k 9
structure Framed (A : Thing) : Prop where
 keep : ∀ {w w' : World} {S M : Nat → Prop}, A w S → Chg M w w' → (∀ k, M k → ¬ S k ∧ NoTxt w k) → A w' S
 lt : ∀ {w : World} {S : Nat → Prop} {k : Nat}, A w S → S k → k < w.heap.size
 txt : ∀ {w : World} {S : Nat → Prop} {k : Nat}, A w S → S k → NoTxt w k
theorem Framed.below {A : Thing} (hA : Framed A) {w w' : World} {S : Nat → Prop} (h : A w S) (hb : Below w.heap.size w w') : A w' S :=
 hA.keep (M := fun _ => False) h (Chg.of_below hb) (fun _ e => e.elim)
def Star (A B : Thing) : Thing := fun w S => ∃ S1 S2, A w S1 ∧ B w S2 ∧ (∀ k, S1 k → S2 k → False) ∧ (∀ k, S k ↔ S1 k ∨ S2 k)
theorem Framed.star {A B : Thing} (hA : Framed A) (hB : Framed B) : Framed (Star A B) where
 keep := by
  rintro w w' S M ⟨S1, S2, h1, h2, hd, hs⟩ hc hM
  exact ⟨S1, S2, hA.keep h1 hc (fun k hk => ⟨fun e => (hM k hk).1 ((hs k).2 (.inl e)), (hM k hk).2⟩), hB.keep h2 hc (fun k hk => ⟨fun e => (hM k hk).1 ((hs k).2 (.inr e)), (hM k hk).2⟩), hd, hs⟩
 lt := by
  rintro w S k ⟨S1, S2, h1, h2, hd, hs⟩ hk
  exact ((hs k).1 hk).elim (hA.lt h1) (hB.lt h2)
 txt := by
  rintro w S k ⟨S1, S2, h1, h2, hd, hs⟩ hk
  exact ((hs k).1 hk).elim (hA.txt h1) (hB.txt h2)
def Stp (A : Thing) (S : Nat → Prop) (w w' : World) : Prop := ∃ S', A w' S' ∧ Chg S w w' ∧ ∀ k, S' k → S k ∨ w.heap.size ≤ k
theorem Stp.mono {A B : Thing} {S : Nat → Prop} {w w' : World} (h : Stp A S w w') (hAB : ∀ S', A w' S' → B w' S') : Stp B S w w' := by
 obtain ⟨S', h1, h2, h3⟩ := h
 exact ⟨S', hAB S' h1, h2, h3⟩
theorem Stp.refl {A : Thing} {S : Nat → Prop} {w : World} (h : A w S) : Stp A S w w := ⟨S, h, Chg.refl _ _, fun _ h => .inl h⟩
theorem Stp.of_below {A : Thing} (hA : Framed A) {S : Nat → Prop} {w w' : World} (h : A w S) (hb : Below w.heap.size w w') : Stp A S w w' :=
 ⟨S, hA.below h hb, Chg.of_below hb, fun _ h => .inl h⟩
theorem Stp.chg {A : Thing} {S : Nat → Prop} {w w' : World} (h : Stp A S w w') : Chg S w w' := by
 obtain ⟨S', h1, h2, h3⟩ := h
 exact h2
theorem Stp.size {A : Thing} {S : Nat → Prop} {w w' : World} (h : Stp A S w w') : w.heap.size ≤ w'.heap.size := h.chg.size
theorem Stp.then {A : Thing} {S S1 : Nat → Prop} {w w1 w2 : World} (hc : Chg S w w1) (hs : ∀ k, S1 k → S k ∨ w.heap.size ≤ k) (h : Stp A S1 w1 w2) : Stp A S w w2 := by
 obtain ⟨S', h1, h2, h3⟩ := h
 refine ⟨S', h1, hc.then h2 (fun i hi hk => (hs i hk).elim id (fun hk => absurd hi (by omega))), fun k hk => ?_⟩
 rcases h3 k hk with hk | hk
 ·exact hs k hk
 ·exact .inr (Nat.le_trans hc.size hk)
theorem Stp.bind {A B : Thing} {S : Nat → Prop} {w w1 w2 : World} (h : Stp A S w w1) (hB : ∀ S1, A w1 S1 → Stp B S1 w1 w2) : Stp B S w w2 := by
 obtain ⟨S1, h1, h2, h3⟩ := h
 exact Stp.then h2 h3 (hB S1 h1)
theorem Stp.left {A A' B : Thing} (hB : Framed B) {S S1 S2 : Nat → Prop} {w w' : World} (hA : Framed A) (h1 : A w S1) (h2 : B w S2) (hd : ∀ k, S1 k → S2 k → False) (hs : ∀ k, S k ↔ S1 k ∨ S2 k) (h : Stp A' S1 w w') : Stp (Star A' B) S w w' := by
 obtain ⟨S', h3, h4, h5⟩ := h
 refine ⟨fun k => S' k ∨ S2 k, ⟨S', S2, h3, hB.keep h2 h4 (fun k hk => ⟨fun h => hd k hk h, hA.txt h1 hk⟩), fun k hk hk2 => ?_, fun _ => Iff.rfl⟩, h4.mono (fun k _ hk => (hs k).2 (.inl hk)), fun k hk => ?_⟩
 ·rcases h5 k hk with hk | hk
  ·exact hd k hk hk2
  ·have := hB.lt h2 hk2
   omega
 ·rcases hk with hk | hk
  ·exact (h5 k hk).imp (fun h => (hs k).2 (.inl h)) id
  ·exact .inl ((hs k).2 (.inr hk))
theorem Star.comm {A B : Thing} {w : World} {S : Nat → Prop} (h : Star A B w S) : Star B A w S := by
 obtain ⟨S1, S2, h1, h2, hd, hs⟩ := h
 exact ⟨S2, S1, h2, h1, fun k a b => hd k b a, fun k => (hs k).trans Or.comm⟩
theorem Stp.right {A B B' : Thing} (hA : Framed A) {S S1 S2 : Nat → Prop} {w w' : World} (hB : Framed B) (h1 : A w S1) (h2 : B w S2) (hd : ∀ k, S1 k → S2 k → False) (hs : ∀ k, S k ↔ S1 k ∨ S2 k) (h : Stp B' S2 w w') : Stp (Star A B') S w w' :=
 (Stp.left hA hB h2 h1 (fun k a b => hd k b a) (fun k => (hs k).trans Or.comm) h).mono (fun _ => Star.comm)
theorem Star.assoc {A B C : Thing} {w : World} {S : Nat → Prop} (h : Star (Star A B) C w S) : Star A (Star B C) w S := by
 obtain ⟨S12, S3, ⟨S1, S2, h1, h2, hd, hs⟩, h3, hd', hs'⟩ := h
 refine ⟨S1, fun k => S2 k ∨ S3 k, h1, ⟨S2, S3, h2, h3, fun k a b => hd' k ((hs k).2 (.inr a)) b, fun _ => Iff.rfl⟩, fun k a b => b.elim (hd k a) (hd' k ((hs k).2 (.inl a))), fun k => ?_⟩
 rw [hs', hs, or_assoc]
theorem Star.assoc' {A B C : Thing} {w : World} {S : Nat → Prop} (h : Star A (Star B C) w S) : Star (Star A B) C w S := by
 obtain ⟨S1, S23, h1, ⟨S2, S3, h2, h3, hd, hs⟩, hd', hs'⟩ := h
 refine ⟨fun k => S1 k ∨ S2 k, S3, ⟨S1, S2, h1, h2, fun k a b => hd' k a ((hs k).2 (.inl b)), fun _ => Iff.rfl⟩, h3, fun k a b => a.elim (fun a => hd' k a ((hs k).2 (.inr b))) (fun a => hd k a b), fun k => ?_⟩
 rw [hs', hs, or_assoc]
theorem Star.swap {A B C : Thing} {w : World} {S : Nat → Prop} (h : Star A (Star B C) w S) : Star B (Star A C) w S := by
 obtain ⟨S1, S23, h1, ⟨S2, S3, h2, h3, hd, hs⟩, hd', hs'⟩ := h
 refine ⟨S2, fun k => S1 k ∨ S3 k, h2, ⟨S1, S3, h1, h3, fun k a b => hd' k a ((hs k).2 (.inr b)), fun _ => Iff.rfl⟩, fun k a b => b.elim (fun b => hd' k b ((hs k).2 (.inl a))) (hd k a), fun k => ?_⟩
 rw [hs', hs]
 exact or_left_comm
theorem Star.snd_mono {A B C : Thing} {w : World} {S : Nat → Prop} (h : Star A B w S) (hBC : ∀ S', B w S' → C w S') : Star A C w S := by
 obtain ⟨S1, S2, h1, h2, hd, hs⟩ := h
 exact ⟨S1, S2, h1, hBC _ h2, hd, hs⟩
theorem Star.fst_mono {A B C : Thing} {w : World} {S : Nat → Prop} (h : Star A B w S) (hAC : ∀ S', A w S' → C w S') : Star C B w S := by
 obtain ⟨S1, S2, h1, h2, hd, hs⟩ := h
 exact ⟨S1, S2, hAC _ h1, h2, hd, hs⟩
theorem Star.new {A B : Thing} {w w' : World} {S S' : Nat → Prop} (hA : Framed A) (h : A w S) (hb : Below w.heap.size w w') (h' : B w' S') (hn : ∀ k, S' k → w.heap.size ≤ k) : Stp (Star A B) S w w' :=
 ⟨fun k => S k ∨ S' k, ⟨S, S', hA.below h hb, h', fun k a b => by have := hA.lt h a; have := hn k b; omega, fun _ => Iff.rfl⟩, Chg.of_below hb, fun k hk => hk.imp id (hn k)⟩
theorem Stp.fst {A B : Thing} {S : Nat → Prop} {w w' : World} (h : Stp (Star A B) S w w') : Stp A S w w' := by
 obtain ⟨S', ⟨S1, S2, h1, h2, hd, hs⟩, hc, hk⟩ := h
 exact ⟨S1, h1, hc, fun k h => hk k ((hs k).2 (.inl h))⟩
theorem Stp.snd {A B : Thing} {S : Nat → Prop} {w w' : World} (h : Stp (Star A B) S w w') : Stp B S w w' := by
 obtain ⟨S', ⟨S1, S2, h1, h2, hd, hs⟩, hc, hk⟩ := h
 exact ⟨S2, h2, hc, fun k h => hk k ((hs k).2 (.inr h))⟩
def Blk (p : Nat) (cs : List Value) (t : TypeId) : Thing := fun w S => w.heap[p]? = some (.cells cs.toArray t (0, 0)) ∧ ∀ k, S k ↔ k = p
theorem framed_blk (p : Nat) (cs : List Value) (t : TypeId) (ht : t ≠ 9) : Framed (Blk p cs t) where
 keep := fun ⟨h, hs⟩ hc hM => ⟨hc.obj h (fun e => (hM p e).1 ((hs p).2 rfl)), hs⟩
 lt := fun ⟨h, hs⟩ hk => by
  have := (hs _).1 hk
  subst this
  exact (Array.getElem?_eq_some_iff.1 h).1
 txt := fun ⟨h, hs⟩ hk e => by
  have := (hs _).1 hk
  subst this
  exact ht ((Tag.of h).one e)
def Emp : Thing := fun _ S => ∀ k, ¬ S k
theorem framed_emp : Framed Emp where
 keep := fun h _ _ => h
 lt := fun h hk => absurd hk (h _)
 txt := fun h hk => absurd hk (h _)
def StarL : List Thing → Thing
 | [] => Emp
 | A :: l => Star A (StarL l)
theorem framed_starL : ∀ {l : List Thing}, (∀ A ∈ l, Framed A) → Framed (StarL l)
 | [], _ => framed_emp
 | A :: _, h => (h A (List.mem_cons_self ..)).star (framed_starL (fun B hB => h B (List.mem_cons_of_mem _ hB)))
theorem bv64_nat {a : Nat} (ha : a < 18446744073709551616) : (BitVec.ofInt 64 (a : Int)).toNat = a := by rw [BitVec.ofInt_natCast, BitVec.toNat_ofNat]; omega
theorem uand (a b : Nat) (ha : a < 18446744073709551616) (hb : b < 18446744073709551616) : bits .and .u64 (a : Int) (b : Int) = ((a &&& b : Nat) : Int) := by
 have hx : a &&& b < 2 ^ 64 := Nat.and_lt_two_pow _ (by omega)
 show IntKind.u64.wrap ((BitVec.ofInt 64 (a : Int) &&& BitVec.ofInt 64 (b : Int)).toNat : Int) = _
 rw [BitVec.toNat_and, bv64_nat ha, bv64_nat hb, IntKind.wrap_u64]
 omega
theorem uor (a b : Nat) (ha : a < 18446744073709551616) (hb : b < 18446744073709551616) : bits .or .u64 (a : Int) (b : Int) = ((a ||| b : Nat) : Int) := by
 have hx : a ||| b < 2 ^ 64 := Nat.or_lt_two_pow (by omega) (by omega)
 show IntKind.u64.wrap ((BitVec.ofInt 64 (a : Int) ||| BitVec.ofInt 64 (b : Int)).toNat : Int) = _
 rw [BitVec.toNat_or, bv64_nat ha, bv64_nat hb, IntKind.wrap_u64]
 omega
theorem uxor (a b : Nat) (ha : a < 18446744073709551616) (hb : b < 18446744073709551616) : bits .xor .u64 (a : Int) (b : Int) = ((a ^^^ b : Nat) : Int) := by
 have hx : a ^^^ b < 2 ^ 64 := Nat.xor_lt_two_pow (by omega) (by omega)
 show IntKind.u64.wrap ((BitVec.ofInt 64 (a : Int) ^^^ BitVec.ofInt 64 (b : Int)).toNat : Int) = _
 rw [BitVec.toNat_xor, bv64_nat ha, bv64_nat hb, IntKind.wrap_u64]
 omega
theorem iand (a b : Nat) (ha : a < 9223372036854775808) (hb : b < 9223372036854775808) : bits .and .i64 (a : Int) (b : Int) = ((a &&& b : Nat) : Int) := by
 have hx : a &&& b < 2 ^ 63 := Nat.and_lt_two_pow _ (by omega)
 show IntKind.i64.wrap ((BitVec.ofInt 64 (a : Int) &&& BitVec.ofInt 64 (b : Int)).toNat : Int) = _
 rw [BitVec.toNat_and, bv64_nat (by omega), bv64_nat (by omega)]
 exact IntWalk.i64_in _ (by omega)
theorem ixor (a b : Nat) (ha : a < 9223372036854775808) (hb : b < 9223372036854775808) : bits .xor .i64 (a : Int) (b : Int) = ((a ^^^ b : Nat) : Int) := by
 have hx : a ^^^ b < 2 ^ 63 := Nat.xor_lt_two_pow (by omega) (by omega)
 show IntKind.i64.wrap ((BitVec.ofInt 64 (a : Int) ^^^ BitVec.ofInt 64 (b : Int)).toNat : Int) = _
 rw [BitVec.toNat_xor, bv64_nat (by omega), bv64_nat (by omega)]
 exact IntWalk.i64_in _ (by omega)
theorem wrapN64 (n : Nat) (h : n < 9223372036854775808) : wrap64 (n : Int) = (n : Int) := IntWalk.wrap64_in _ (by omega)
abbrev ptrN (g : Nat) : Value := .pointer (some ⟨g, 0, none⟩)
theorem fnvSize_any (b : Nat) (hb : b ≤ 1000000) (w : World) : Calls Tryz.prog 263 #[.int .i64 (b : Int)] w fun e w' => e = .returned (.int .i64 (sizeN b : Int)) ∧ w = w' := by
 by_cases h : 1 ≤ b ∧ b ≤ 12
 ·rcases size_cases h.1 h.2 with rfl | rfl | rfl | rfl | rfl | rfl | rfl | rfl | rfl | rfl | rfl | rfl <;>
  (go_enter Tryz.func263, Tryz.ntmps263
   go_wp2_with fail
   go_ret
   exact ⟨rfl, rfl⟩)
 ·rw [size_none h]
  by_cases h0 : b = 0
  ·subst h0
   go_enter Tryz.func263, Tryz.ntmps263
   go_wp2_with fail
   go_ret
   exact ⟨rfl, rfl⟩
  ·have h1 : ¬ ((b : Int) < 1) := by omega
   have h2 : (12 : Int) < (b : Int) := by omega
   clear h h0
   go_enter Tryz.func263, Tryz.ntmps263
   go_wp2_with fail
   go_ret
   exact ⟨rfl, rfl⟩
theorem fnvTag_any (h : Nat) (hh : h < 18446744073709551616) (w : World) : Calls Tryz.prog 258 #[.int .u64 (h : Int)] w fun e w' => e = .returned (.int .i64 (tagN h : Int)) ∧ w = w' := by
 have hm : max ((h : Int) / 72057594037927936) 1 = (tagN h : Int) := by unfold tagN; omega
 have hw : wrap64 ((h : Int) / 72057594037927936) = (h : Int) / 72057594037927936 := IntWalk.wrap64_in _ (by omega)
 obtain ⟨t, ht⟩ : ∃ t : Int, t = (tagN h : Int) := ⟨_, rfl⟩
 rw [← ht] at hm ⊢
 obtain ⟨q, hq⟩ : ∃ q : Int, q = (h : Int) / 72057594037927936 := ⟨_, rfl⟩
 rw [← hq] at hm hw
 have HT := hidZ ht
 have HQ := hidZ hq
 clear ht hq
 go_enter Tryz.func258, Tryz.ntmps258
 go_wp2_with fail
 go_ret
 exact ⟨ret_congr (int_congr (by rw [← HQ.out]; exact hm)), rfl⟩
theorem mask_size {b : Nat} (h1 : 1 ≤ b) (h2 : b ≤ 12) (h : Nat) (hh : h < 18446744073709551616) : bits .and .u64 (h : Int) ((sizeN b : Int) - 1) = ((h % sizeN b : Nat) : Int) := by
 have hs := size_pos h1 h2
 have hl := size_le b
 have e : ((sizeN b : Int) - 1) = ((sizeN b - 1 : Nat) : Int) := by omega
 rw [e, uand h (sizeN b - 1) hh (by omega), size_pow h1 h2, Nat.and_two_pow_sub_one_eq_mod]
theorem bucket_any (h b : Nat) (hh : h < 18446744073709551616) (h1 : 1 ≤ b) (h2 : b ≤ 12) (w : World) : Calls Tryz.prog 264 #[.int .u64 (h : Int), .int .i64 (b : Int)] w fun e w' => e = .returned (.int .i64 (bucketN h b : Int)) ∧ w = w' := by
 have HS := hidZ (fnvSize_any b (by omega) w)
 have hs := size_pos h1 h2
 have hl := size_le b
 have hm := mask_size h1 h2 h hh
 have hlt := bucket_lt (h := h) h1 h2
 have hB : ((h % sizeN b : Nat) : Int) = (bucketN h b : Int) := rfl
 rw [hB] at hm
 have hw : wrap64 (bucketN h b : Int) = (bucketN h b : Int) := IntWalk.wrap64_in _ (by omega)
 have hc : IntKind.u64.wrap ((sizeN b : Int) - 1) = (sizeN b : Int) - 1 := by rw [IntKind.wrap_u64]; omega
 have hp : (0 : Int) < (sizeN b : Int) := by omega
 obtain ⟨n, hn⟩ : ∃ n : Int, n = (sizeN b : Int) := ⟨_, rfl⟩
 obtain ⟨r, hr⟩ : ∃ r : Int, r = (bucketN h b : Int) := ⟨_, rfl⟩
 rw [← hn] at HS hm hc hp
 rw [← hr] at hm hw ⊢
 have hn1 : wrap64 (n - 1) = n - 1 := IntWalk.wrap64_in _ (by omega)
 clear hn hr hB hlt
 go_enter Tryz.func264, Tryz.ntmps264
 go_wp2_with fail
 refine HS.out.mono ?_
 rintro e w1 ⟨rfl, rfl⟩
 go_wp2_with fail
 go_ret
 exact ⟨ret_congr (int_congr hw), rfl⟩
theorem add_any {g : Nat} {w : World} {s : Nat} (hs : s < 18446744073709551616) (h : w.heap[g]? = some (.cells #[.int .u64 (s : Int)] 279 (0, 0))) (x : UInt8) :
  Calls Tryz.prog 154 #[.pointer (some ⟨g, 0, none⟩), u8v x] w fun e w' => (∃ v, e = .returned v) ∧ w' = w.setCell ⟨g, 0, none⟩ (.int .u64 (hashStep s x : Int)) := by
 have c0 := (cellsAt h 0).1
 have f0 := (cellsAt h 0).2
 have hx : x.toNat < 256 := x.toNat_lt
 have hb : bits .xor .u64 (s : Int) (x.toNat : Int) = ((s ^^^ x.toNat : Nat) : Int) := uxor _ _ hs (by omega)
 have hm : IntKind.u64.wrap (((s ^^^ x.toNat : Nat) : Int) * 1099511628211) = (hashStep s x : Int) := by
  rw [IntKind.wrap_u64]; unfold hashStep; omega
 clear h
 go_enter Tryz.func154, Tryz.ntmps154
 go_wp2_with fail
 exact bodyPost_end (results_none (by exact Tryz.results154) _ _ _) rfl ⟨⟨_, rfl⟩, rfl⟩
theorem byte_at {l : List UInt8} {k : Nat} {c : UInt8} (h : l[k]? = some c) (W : World) : (Instr.index 9 (sv l) (.int .i64 (k : Int))).run Tryz.prog W = .ok (.int .u8 (c.toNat : Int)) W := by
 obtain ⟨hk, hc⟩ := List.getElem?_eq_some_iff.1 h
 rw [run_index_string W 9 _ .i64 (k : Int) Tryz.underlying9, dif_pos ⟨by omega, by rw [sv_size]; omega⟩]
 subst hc
 rfl
theorem fold_snoc {α β : Type} (f : β → α → β) {l : List α} {k : Nat} {x : α} (h : l[k]? = some x) (z : β) : (l.take (k + 1)).foldl f z = f ((l.take k).foldl f z) x := by
 rw [List.take_add_one, h, List.foldl_append]
 rfl
abbrev sumO (s : Nat) : Obj := .cells #[.int .u64 (s : Int)] 279
theorem seed_lt : seedN < 18446744073709551616 := by decide
def SumAt (l : List UInt8) (g k : Nat) (w W : World) : Prop := W.heap[g]? = some (sumO ((l.take k).foldl hashStep seedN)) ∧ Below w.heap.size w W
theorem each_any {g : Nat} {w : World} (l : List UInt8) (hl : l.length ≤ maxLen) (hg : g = w.heap.size) :
  Calls Tryz.prog 153 #[sv l, .func (.func 154) #[ptrN g] #[]] (w.alloc (sumO seedN)) fun e w' => (∃ v, e = .returned v) ∧ SumAt l g l.length w w' := by
 unfold maxLen at hl
 have h0 : SumAt l g 0 w (w.alloc (sumO seedN)) := ⟨by rw [heap_at, if_pos hg, List.take_zero, List.foldl_nil], (Below.refl _ _).alloc (Nat.le_refl _) _⟩
 obtain ⟨w0, hw0⟩ := xE (w.alloc (sumO seedN))
 rw [← hw0] at h0 ⊢
 have H0 := hidZ h0
 have HG := hidZ hg
 clear h0 hw0 hg
 go_enter Tryz.func153, Tryz.ntmps153
 go_wp2_with fail
 go_loopw [7] (fun s7 wr => ∃ k : Nat, s7 = .int .i64 (k : Int) ∧ k ≤ l.length ∧ Hid (SumAt l g k w wr)) (fun s7 _ => l.length - (intOf s7).toNat)
 case atStart => exact ⟨0, rfl, Nat.zero_le _, H0⟩
 case round =>
  obtain ⟨k, rfl, hk, HS⟩ := hrel
  by_cases hlt : k < l.length
  ·obtain ⟨x, hx⟩ : ∃ x, l[k]? = some x := ⟨_, List.getElem?_eq_getElem hlt⟩
   have HA := add_any (g := g) (w := wr) (s := (l.take k).foldl hashStep seedN) (foldHash_lt _ _ seed_lt) HS.out.1 x
   obtain ⟨s1, hs1⟩ : ∃ s1 : Nat, s1 = hashStep ((l.take k).foldl hashStep seedN) x := ⟨_, rfl⟩
   rw [← hs1] at HA
   have HS1 := hidZ hs1
   have HA := hidZ HA
   clear hs1
   have ix : ∀ W : World, (Instr.index 9 (sv l) (.int .i64 (k : Int))).run Tryz.prog W = .ok (u8v x) W := fun W => byte_at hx W
   have HX := hidZ hx
   clear hx
   go_wp2_with fail
   refine HA.out.mono ?_
   rintro e w1 ⟨⟨v, rfl⟩, rfl⟩
   clear HA
   go_wp2_with fail
   refine ⟨⟨k + 1, by go_num, by omega, hidZ ⟨?_, ?_⟩⟩, ?_⟩
   ·rw [fold_snoc hashStep HX.out, ← HS1.out]
    exact Go.Joins.block_setCell (i := 0) HS.out.1 _
   ·exact ((Chg.refl (fun j => j = g) wr).set (fun _ => rfl) _).below (fun j hj => ⟨by have := HS.out.2.size; omega, fun e => by have := HG.out; omega⟩) |> HS.out.2.trans
   ·simp [intOf]; omega
  ·obtain rfl : k = l.length := by omega
   clear hlt
   go_wp2_with fail
   exact bodyPost_end (results_none (by exact Tryz.results153) _ _ _) rfl ⟨⟨_, rfl⟩, HS.out⟩
theorem fnvOther_any (a t b : Nat) (h1 : 1 ≤ b) (h2 : b ≤ 12) (ha : a < sizeN b) (ht : 1 ≤ t ∧ t ≤ 255) (w : World) : Calls Tryz.prog 265 #[.int .i64 (a : Int), .int .i64 (t : Int), .int .i64 (b : Int)] w fun e w' => e = .returned (.int .i64 (otherN a t b : Int)) ∧ w = w' := by
 have HS := hidZ (fnvSize_any b (by omega) w)
 have hs := size_pos h1 h2
 have hl := size_le b
 have hw : wrap64 ((t : Int) * 1540483477) = ((t * 1540483477 : Nat) : Int) := IntWalk.wrap64_in _ (by omega)
 have hw' : IntKind.i64.wrap ((t : Int) * 1540483477) = ((t * 1540483477 : Nat) : Int) := IntWalk.i64_in _ (by omega)
 have hn1 : wrap64 ((sizeN b : Int) - 1) = (sizeN b : Int) - 1 := IntWalk.wrap64_in _ (by omega)
 have hn1' : IntKind.i64.wrap ((sizeN b : Int) - 1) = (sizeN b : Int) - 1 := IntWalk.i64_in _ (by omega)
 have hm : bits .and .i64 ((t * 1540483477 : Nat) : Int) ((sizeN b : Int) - 1) = ((t * 1540483477 % sizeN b : Nat) : Int) := by
  rw [show ((sizeN b : Int) - 1) = ((sizeN b - 1 : Nat) : Int) by omega, iand _ _ (by omega) (by omega), size_pow h1 h2, Nat.and_two_pow_sub_one_eq_mod]
 have hr : t * 1540483477 % sizeN b < sizeN b := Nat.mod_lt _ (by omega)
 have hx : bits .xor .i64 (a : Int) ((t * 1540483477 % sizeN b : Nat) : Int) = (otherN a t b : Int) := ixor _ _ (by omega) (by omega)
 obtain ⟨u, hu⟩ : ∃ u : Int, u = ((t * 1540483477 : Nat) : Int) := ⟨_, rfl⟩
 obtain ⟨r, hrr⟩ : ∃ r : Int, r = ((t * 1540483477 % sizeN b : Nat) : Int) := ⟨_, rfl⟩
 obtain ⟨o, ho⟩ : ∃ o : Int, o = (otherN a t b : Int) := ⟨_, rfl⟩
 rw [← hu] at hw hw' hm
 rw [← hrr] at hm hx
 rw [← ho] at hx ⊢
 have d0 : ¬ ((a : Int) < 0) := by omega
 have d1 : ¬ ((sizeN b : Int) ≤ (a : Int)) := by omega
 have d2 : ¬ ((t : Int) < 1) := by omega
 have d3 : ¬ ((255 : Int) < (t : Int)) := by omega
 obtain ⟨n, hn⟩ : ∃ n : Int, n = (sizeN b : Int) := ⟨_, rfl⟩
 obtain ⟨a', ha'⟩ : ∃ n : Int, n = (a : Int) := ⟨_, rfl⟩
 obtain ⟨t', ht'⟩ : ∃ n : Int, n = (t : Int) := ⟨_, rfl⟩
 rw [← hn] at HS hn1 hn1' hm d1
 rw [← ha'] at hx d0 d1 ⊢
 rw [← ht'] at hw hw' d2 d3 ⊢
 clear hu hrr ho hn hr hs hl ha ht ha' ht'
 go_enter Tryz.func265, Tryz.ntmps265
 go_wp2_with fail
 refine HS.out.mono ?_
 rintro e w1 ⟨rfl, rfl⟩
 go_wp2_with fail
 go_ret
 exact ⟨rfl, rfl⟩
abbrev placeV (b k : Nat) : Value := .agg #[.int .i64 (b : Int), .int .i64 (k : Int)]
structure Bkt (b k : Nat) : Prop where
 b1 : 1 ≤ b
 b2 : b ≤ 12
 k : k < sizeN b
theorem Bkt.le {b k : Nat} (h : Bkt b k) : k < 4096 := Nat.lt_of_lt_of_le h.k (size_le b)
theorem stripe_any (b k : Nat) (h : Bkt b k) (w : World) : Calls Tryz.prog 278 #[placeV b k] w fun e w' => e = .returned (.int .i64 (stripeN b k : Int)) ∧ Below w.heap.size w w' := by
 have hbx : (w.alloc (.cells #[.int .i64 (b : Int), .int .i64 (k : Int)] 130)).heap[w.heap.size]? = some (.cells #[.int .i64 (b : Int), .int .i64 (k : Int)] 130 (0, 0)) := by rw [heap_at, if_pos rfl]
 have hlow : Below w.heap.size w (w.alloc (.cells #[.int .i64 (b : Int), .int .i64 (k : Int)] 130)) := (Below.refl _ _).alloc (Nat.le_refl _) _
 have HS := hidZ (fun W => fnvSize_any b (by have := h.b2; omega) W)
 have hk := h.le
 have hb := h.b2
 have hkl := h.k
 have hw1 : IntKind.i64.wrap (31 * (b : Int)) = ((31 * b : Nat) : Int) := IntWalk.i64_in _ (by omega)
 have hw2 : IntKind.i64.wrap ((k : Int) + ((31 * b : Nat) : Int)) = ((k + 31 * b : Nat) : Int) := IntWalk.i64_in _ (by omega)
 have hw3 : ((k + 31 * b : Nat) : Int).tmod 64 = (stripeN b k : Int) := by unfold stripeN; rw [Int.tmod_eq_emod_of_nonneg (by omega)]; omega
 obtain ⟨K, hK⟩ : ∃ K : Int, K = (k : Int) := ⟨_, rfl⟩
 obtain ⟨n, hn⟩ : ∃ n : Int, n = (sizeN b : Int) := ⟨_, rfl⟩
 obtain ⟨B, hB⟩ : ∃ B : Int, B = (b : Int) := ⟨_, rfl⟩
 obtain ⟨y, hy⟩ : ∃ y : Int, y = ((31 * b : Nat) : Int) := ⟨_, rfl⟩
 obtain ⟨z, hz⟩ : ∃ z : Int, z = ((k + 31 * b : Nat) : Int) := ⟨_, rfl⟩
 obtain ⟨o, ho⟩ : ∃ o : Int, o = (stripeN b k : Int) := ⟨_, rfl⟩
 rw [← hy, ← hB] at hw1
 rw [← hK, ← hy, ← hz] at hw2
 rw [← hz, ← ho] at hw3
 have d0 : decide (K < 0) = false := by rw [decide_eq_false_iff_not]; omega
 have d1 : decide (n ≤ K) = false := by rw [decide_eq_false_iff_not]; omega
 rw [← hn, ← hB] at HS
 rw [← hK, ← hB] at hbx hlow
 unfold placeV
 rw [← hK, ← hB, ← ho]
 have HL := hidZ hlow
 have HX := hidZ hbx
 clear h hk hkl hK hn hB hy hz ho hb hlow hbx
 go_enter Tryz.func278, Tryz.ntmps278
 go_upto_region 1 with fail
 obtain ⟨wx, hwx⟩ := xE (w.alloc (.cells #[.int .i64 B, .int .i64 K] 130))
 rw [← hwx] at HL HX ⊢
 have x0 : wx.cell? ⟨w.heap.size, 0, none⟩ = some (.int .i64 B) := (cellsAt HX.out 0).1
 have x1 : wx.cell? ⟨w.heap.size, 1, none⟩ = some (.int .i64 K) := (cellsAt HX.out 1).1
 clear hwx
 refine wp_region_held_drew (S := fun W => W.cell? ⟨w.heap.size, 0, none⟩ = some (.int .i64 B) ∧ W.cell? ⟨w.heap.size, 1, none⟩ = some (.int .i64 K)) (by kernel_rfl) ⟨x0, x1⟩ (fun hHe => ?_)
 refine tkz 0 rfl ?_
 try simp only [tp, tz]
 refine tkw 1 rfl ?_
 try simp only [tp, tz]
 refine tkz 2 rfl ?_
 try simp only [tp, tz]
 refine tkz 3 rfl ?_
 try simp only [tp, tz]
 refine tkz 4 rfl ?_
 try simp only [tp, tz]
 refine tkw 5 rfl ?_
 try simp only [tp, tz]
 refine tkz 6 rfl ?_
 try simp only [tp, tz]
 refine tkw 7 rfl ?_
 try simp only [tp, tz]
 refine rdy 8 rfl (fun K hK => ?_)
 go_simp
 go_at_call 263
 refine (HS.out _).mono ?_
 rintro e w1 ⟨rfl, rfl⟩
 refine hK.out _ _ hHe (fun hHf => ?_)
 clear hK K
 try simp only [tp, tz]
 refine tkz 9 rfl ?_
 try simp only [tp, tz]
 refine tkz 10 rfl ?_
 try simp only [tp, tz]
 refine wpAnyH_done (by kernel_rfl) ?_ _
 clear hHe
 obtain ⟨c0, c1⟩ := hHf
 have HD := hidZ (show Below w.heap.size w wx.drew from HL.out.drew)
 go_wp2_with fail
 go_ret
 exact ⟨rfl, HD.out⟩
theorem hash_any (l : List UInt8) (hl : l.length ≤ maxLen) (w : World) : Calls Tryz.prog 123 #[sv l] w fun e w' => e = .returned (.int .u64 (hashN l : Int)) ∧ Below w.heap.size w w' := by
 have hmf := @mkFn Tryz.prog
 have HE := each_any (g := w.heap.size) (w := w) l hl rfl
 obtain ⟨z, hz⟩ : ∃ z : Int, z = (seedN : Int) := ⟨_, rfl⟩
 unfold sumO at HE
 rw [← hz] at HE
 have hz' : (14695981039346656037 : Int) = z := hz.symm
 have HE := hidZ HE
 clear hz
 clear hl
 go_enter Tryz.func123, Tryz.ntmps123
 go_wp2_with fail
 refine HE.out.mono ?_
 rintro e w1 ⟨⟨v, rfl⟩, h1, h2⟩
 clear HE
 rw [List.take_of_length_le (Nat.le_refl _)] at h1
 have c0 : w1.cell? ⟨w.heap.size, 0, none⟩ = some (.int .u64 (hashN l : Int)) := (cellsAt h1 0).1
 have H2 := hidZ h2
 clear h1 h2
 go_wp2_with fail
 go_ret
 exact ⟨rfl, H2.out⟩
theorem setByte (u t i : Nat) (hu : u < 2 ^ 64) (ht : t < 2 ^ 8) (hi : i + 8 ≤ 64) :
  ((BitVec.ofNat 64 u &&& ~~~ BitVec.ofNat 64 ((2 ^ 8 - 1) <<< i)) ||| BitVec.ofNat 64 (t <<< i)).toNat = ((u >>> (i + 8)) <<< 8 ||| t) <<< i ||| u % 2 ^ i := by
 apply Nat.eq_of_testBit_eq
 intro j
 have hub : 64 ≤ j → u.testBit j = false := fun h => Nat.testBit_lt_two_pow (Nat.lt_of_lt_of_le hu (Nat.pow_le_pow_right (by omega) h))
 have htb : 8 ≤ j - i → t.testBit (j - i) = false := fun h => Nat.testBit_lt_two_pow (Nat.lt_of_lt_of_le ht (Nat.pow_le_pow_right (by omega) h))
 simp only [BitVec.testBit_toNat, BitVec.getLsbD_or, BitVec.getLsbD_and, BitVec.getLsbD_not, BitVec.getLsbD_ofNat, Nat.testBit_or, Nat.testBit_shiftLeft, Nat.testBit_mod_two_pow, Nat.testBit_shiftRight, Nat.testBit_two_pow_sub_one]
 by_cases h1 : j < i
 ·have a1 : ¬ i ≤ j := by omega
  have a2 : j < 64 := by omega
  simp [h1, a1, a2]
 ·have a1 : i ≤ j := by omega
  by_cases h2 : j - i < 8
  ·have a2 : j < 64 := by omega
   have a3 : ¬ 8 ≤ j - i := by omega
   simp [h1, a1, a2, h2, a3]
  ·have a3 : 8 ≤ j - i := by omega
   have e : i + 8 + (j - i - 8) = j := by omega
   rw [htb a3, e]
   by_cases h4 : j < 64
   ·simp [h1, a1, h2, a3, h4]
   ·rw [hub (by omega)]
    simp
theorem uandNot (a b c : Nat) (hc : c < 18446744073709551616) (h : (BitVec.ofNat 64 a &&& ~~~ BitVec.ofNat 64 b).toNat = c) : bits .andNot .u64 (a : Int) (b : Int) = (c : Int) := by
 show IntKind.u64.wrap ((BitVec.ofInt 64 (a : Int) &&& ~~~ BitVec.ofInt 64 (b : Int)).toNat : Int) = _
 rw [BitVec.ofInt_natCast, BitVec.ofInt_natCast, h, IntKind.wrap_u64]
 omega
theorem byte_all (u t i m d : Nat) (hu : u < 18446744073709551616) (ht : t < 256) (hi : i + 8 ≤ 64) (hm : 255 <<< i = m) (hd : t <<< i = d) (hdl : d < 18446744073709551616) :
  bits .or .u64 (bits .andNot .u64 (u : Int) (m : Int)) (d : Int) = ((((u >>> (i + 8)) <<< 8 ||| t) <<< i ||| u % 2 ^ i : Nat) : Int) := by
 have h1 := setByte u t i hu ht hi
 have hn := (BitVec.ofNat 64 u &&& ~~~ BitVec.ofNat 64 m).isLt
 rw [uandNot u m _ hn rfl, uor _ d hn hdl]
 rw [show (2 ^ 8 - 1) <<< i = m from hm, hd] at h1
 rw [← h1, BitVec.toNat_or]
 congr 2
 rw [BitVec.toNat_ofNat, Nat.mod_eq_of_lt hdl]
theorem byte_with (u t s i : Nat) (ht : t < 256) (hs : s = 0 ∧ i = 0 ∨ s = 1 ∧ i = 8 ∨ s = 2 ∧ i = 16 ∨ s = 3 ∧ i = 24) : ((u >>> (i + 8)) <<< 8 ||| t) <<< i ||| u % 2 ^ i = withN u s t := by
 rw [← Nat.shiftLeft_add_eq_or_of_lt (show t < 2 ^ 8 from ht), ← Nat.shiftLeft_add_eq_or_of_lt (Nat.mod_lt _ (Nat.two_pow_pos i))]
 unfold withN partN
 rcases hs with ⟨rfl, rfl⟩ | ⟨rfl, rfl⟩ | ⟨rfl, rfl⟩ | ⟨rfl, rfl⟩ <;> simp only [Nat.shiftLeft_eq, Nat.shiftRight_eq_div_pow, Nat.reduceAdd, Nat.reducePow] <;> omega
open Go.RowKit Go.ChangeMaps Go.MapKept
def makerEs : Array MapEntry := #[⟨.int .u8 3, .func (.func 96) #[] #[], 0⟩, ⟨.int .u8 4, .func (.func 96) #[] #[], 1⟩, ⟨.int .u8 5, .func (.func 96) #[] #[], 2⟩, ⟨.int .u8 6, .func (.func 96) #[] #[], 3⟩, ⟨.int .u8 7, .func (.func 98) #[] #[], 4⟩, ⟨.int .u8 8, .func (.func 98) #[] #[], 5⟩, ⟨.int .u8 9, .func (.func 98) #[] #[], 6⟩, ⟨.int .u8 10, .func (.func 98) #[] #[], 7⟩, ⟨.int .u8 11, .func (.func 102) #[] #[], 8⟩, ⟨.int .u8 1, .func (.func 100) #[] #[], 9⟩, ⟨.int .u8 2, .func (.func 100) #[] #[], 10⟩]
def mkEs (k : Nat) : Array MapEntry := (makerEs.toList.take k).toArray
theorem mk_ins {w : World} {ops : Array Oper} {rest : List Oper} {o : Oper} {a : Act} {Q : Exit → Act → World → Prop} {kl : Lit} (k : Nat) (n : Int) (v : Operand) (hg : o.guard = none) (hop : o.op = Op.insert 159 (.tmp 4) (.const (.int .u8 n)) v) (hm : a.eval (.tmp 4) = .map (some w.heap.size))
  (hkey : keyOf Tryz.prog 22 (.int .u8 n) = some kl) (hnew : Instr.findNow (.int .u8) (.int .u8 n) (mkEs k).toList 0 = some none) (hp : (mkEs k).push ⟨.int .u8 n, a.eval v, k⟩ = mkEs (k + 1))
  (hK : wpList Tryz.prog ops Q rest (a.put o.dst undef) (w.alloc (.map (mkEs (k + 1)) (k + 1)))) : wpList Tryz.prog ops Q (o :: rest) a (w.alloc (.map (mkEs k) k)) :=
 wpList_insert_lit w w.heap.size rfl [] (mkEs k) k rfl hg (.tmp 4) (.const (.int .u8 n)) v 159 hop 22 158 (Go.Maps.int_keyed Tryz.underlying22) Tryz.underlying159 (.int .u8) Tryz.underlying22 hm (.int .u8 n) kl rfl hkey hnew _ (by rw [hp]; rfl) hK
theorem makers_any (w : World) : Calls Tryz.prog 72 #[] w fun e w' => e = .returned (.map (some w.heap.size)) ∧ w' = w.alloc (.map makerEs 11) := by
 have hmm := @run_makeMap Tryz.prog
 go_enter Tryz.func72, Tryz.ntmps72
 go_wp2_with (first
  | ((with_reducible show wpList _ _ _ (⟨_, Op.insert _ _ (.const (.int .u8 3)) _, _, _, _, _⟩ :: _) _ _); refine mk_ins (w := w) 0 3 (.tmp 5) rfl rfl rfl (Go.Maps.keyOf_int_mk Tryz.underlying22 (by decide)) rfl rfl ?_)
  | ((with_reducible show wpList _ _ _ (⟨_, Op.insert _ _ (.const (.int .u8 4)) _, _, _, _, _⟩ :: _) _ _); refine mk_ins (w := w) 1 4 (.tmp 6) rfl rfl rfl (Go.Maps.keyOf_int_mk Tryz.underlying22 (by decide)) rfl rfl ?_)
  | ((with_reducible show wpList _ _ _ (⟨_, Op.insert _ _ (.const (.int .u8 5)) _, _, _, _, _⟩ :: _) _ _); refine mk_ins (w := w) 2 5 (.tmp 7) rfl rfl rfl (Go.Maps.keyOf_int_mk Tryz.underlying22 (by decide)) rfl rfl ?_)
  | ((with_reducible show wpList _ _ _ (⟨_, Op.insert _ _ (.const (.int .u8 6)) _, _, _, _, _⟩ :: _) _ _); refine mk_ins (w := w) 3 6 (.tmp 8) rfl rfl rfl (Go.Maps.keyOf_int_mk Tryz.underlying22 (by decide)) rfl rfl ?_)
  | ((with_reducible show wpList _ _ _ (⟨_, Op.insert _ _ (.const (.int .u8 7)) _, _, _, _, _⟩ :: _) _ _); refine mk_ins (w := w) 4 7 (.tmp 9) rfl rfl rfl (Go.Maps.keyOf_int_mk Tryz.underlying22 (by decide)) rfl rfl ?_)
  | ((with_reducible show wpList _ _ _ (⟨_, Op.insert _ _ (.const (.int .u8 8)) _, _, _, _, _⟩ :: _) _ _); refine mk_ins (w := w) 5 8 (.tmp 10) rfl rfl rfl (Go.Maps.keyOf_int_mk Tryz.underlying22 (by decide)) rfl rfl ?_)
  | ((with_reducible show wpList _ _ _ (⟨_, Op.insert _ _ (.const (.int .u8 9)) _, _, _, _, _⟩ :: _) _ _); refine mk_ins (w := w) 6 9 (.tmp 11) rfl rfl rfl (Go.Maps.keyOf_int_mk Tryz.underlying22 (by decide)) rfl rfl ?_)
  | ((with_reducible show wpList _ _ _ (⟨_, Op.insert _ _ (.const (.int .u8 10)) _, _, _, _, _⟩ :: _) _ _); refine mk_ins (w := w) 7 10 (.tmp 12) rfl rfl rfl (Go.Maps.keyOf_int_mk Tryz.underlying22 (by decide)) rfl rfl ?_)
  | ((with_reducible show wpList _ _ _ (⟨_, Op.insert _ _ (.const (.int .u8 11)) _, _, _, _, _⟩ :: _) _ _); refine mk_ins (w := w) 8 11 (.func 102) rfl rfl rfl (Go.Maps.keyOf_int_mk Tryz.underlying22 (by decide)) rfl rfl ?_)
  | ((with_reducible show wpList _ _ _ (⟨_, Op.insert _ _ (.const (.int .u8 1)) _, _, _, _, _⟩ :: _) _ _); refine mk_ins (w := w) 9 1 (.tmp 13) rfl rfl rfl (Go.Maps.keyOf_int_mk Tryz.underlying22 (by decide)) rfl rfl ?_)
  | ((with_reducible show wpList _ _ _ (⟨_, Op.insert _ _ (.const (.int .u8 2)) _, _, _, _, _⟩ :: _) _ _); refine mk_ins (w := w) 10 2 (.tmp 14) rfl rfl rfl (Go.Maps.keyOf_int_mk Tryz.underlying22 (by decide)) rfl rfl ?_)
  | fail)
 go_ret
 exact ⟨rfl, rfl⟩
theorem makers_look (w : World) (b : Nat) (h : w.heap[b]? = some (.map makerEs 11)) : (Instr.lookup 159 (.map (some b)) (.int .u8 3) false).run Tryz.prog w = .ok (.func (.func 96) #[] #[]) w :=
 run_lookup_hit (Go.Maps.int_keyed Tryz.underlying22) Tryz.underlying159 Tryz.underlying22 h (Go.Maps.keyOf_int_mk Tryz.underlying22 (by decide)) rfl false
end Go.Proofs.YtnkkoicbnbjlnaaGreatDoor
