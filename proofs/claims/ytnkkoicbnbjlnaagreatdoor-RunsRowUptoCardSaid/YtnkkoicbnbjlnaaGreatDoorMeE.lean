/- stores: a Store's step from phase to phase. No condition. And what goes with it (4 texts). -/
import Derived.Test.YtnkkoicbnbjlnaaGreatDoorMeC
namespace Go.Proofs.YtnkkoicbnbjlnaaGreatDoor
set_option maxRecDepth 100000
set_option maxHeartbeats 8000000
open Go.RowKit Go.ChangeMaps Go.MapKept
def StepTo (x p : Nat) (b : Bool) (A B : Thing) : Prop := ∀ V S0, A V S0 → Calls Tryz.prog 398 #[ptrN x, ptrN p] V fun e w' => e = .returned (.bool b) ∧ Stp B S0 V w'
theorem StepTo.wk {x p : Nat} {b : Bool} {A A' B B' : Thing} (h : StepTo x p b A' B') (hA : Wk A A') (hB : Wk B' B) : StepTo x p b A B := fun V S0 hV => by
 obtain ⟨S1, h1, h2⟩ := hA V S0 hV
 refine (h V S1 h1).mono ?_
 rintro e w' ⟨rfl, hst⟩
 exact ⟨rfl, (hst.wk hB).sub h2⟩
theorem StepTo.ex {α : Type} {x p : Nat} {b : Bool} {A : α → Thing} {B : Thing} (h : ∀ a, StepTo x p b (A a) B) : StepTo x p b (fun V S => ∃ a, A a V S) B := fun V S0 ⟨a, ha⟩ => h a V S0 ha
theorem stepMore {x p t o F : Nat} {thn act : Value} {m : StM} {A R : Thing} (hA : Framed A) (hs : Steps t F o p false A R) : StepTo x p false (Star A (StoreB x (.iface t (ptrN o)) thn act m)) (Star R (StoreB x (.iface t (ptrN o)) thn act m)) := fun _ _ h =>
 storeStep_any h.goesOp (onMore_any hA h hs) (fun _ _ h => h.goesOp)
theorem stepOver {x p t o F G : Nat} {first cap : Array Value} {act : Value} {m : StM} {b : Bool} {A R R2 : Thing} (hA : Framed A) (hs : Steps t F o p true A R)
  (hG : Doing G (first.push (ptrN p) ++ cap) (Star R (StoreB x (.iface t (ptrN o)) (.func (.func G) first cap) act m)) R2) (hR : ∀ V S0, R2 V S0 → GoesIs x b V) : StepTo x p b (Star A (StoreB x (.iface t (ptrN o)) (.func (.func G) first cap) act m)) R2 := fun _ _ h =>
 storeStep_any h.goesOp (onOver_any hA h hs hG) hR
theorem stepAct {x p G : Nat} {first cap : Array Value} {thn : Value} {m : StM} {b : Bool} {A R : Thing} (hG : Doing G (first.push (ptrN p) ++ cap) (Star A (StoreB x .nilIface thn (.func (.func G) first cap) m)) R) (hR : ∀ V S0, R V S0 → GoesIs x b V) :
  StepTo x p b (Star A (StoreB x .nilIface thn (.func (.func G) first cap) m)) R := fun _ _ h =>
 storeStep_any h.goesAct (onAct_any h hG) hR
theorem WorldM.Ok.acc {W : WorldM} (h : W.Ok) {k a v : Nat} (hv : U64 v) (hc : W.cells.count + 1 < 4611686018427387904) : ({ W with cells := W.cells.acc k a v } : WorldM).Ok where
 tickets := h.tickets
 small := h.small
 f := fun b => by
  show U64 (setF W.cells.f a v b)
  unfold setF
  split
  ·exact hv
  ·exact h.f b
 count := hc
theorem WorldM.Ok.load {W : WorldM} (h : W.Ok) (a : Nat) (hc : W.cells.count + 1 < 4611686018427387904) : (loadW W a).Ok := h.acc (h.f a) hc
theorem WorldM.Ok.store {W : WorldM} (h : W.Ok) (a v : Nat) (hv : U64 v) (hc : W.cells.count + 1 < 4611686018427387904) : (storeW W a v).Ok := h.acc hv hc
theorem WorldM.Ok.mark {W : WorldM} (h : W.Ok) (a : Nat) (hc : W.cells.count + 1 < 4611686018427387904) : (markW W a).Ok := h.acc (Nat.mod_lt _ (by decide)) hc
theorem WorldM.Ok.add {W : WorldM} (h : W.Ok) (a v : Nat) (hc : W.cells.count + 1 < 4611686018427387904) : (addW W a v).Ok := h.acc (Nat.mod_lt _ (by decide)) hc
theorem WorldM.Ok.item {W : WorldM} (h : W.Ok) (x : ItemD) : (itemW W x).Ok := ⟨h.tickets, h.small, h.f, h.count⟩
theorem WorldM.Ok.draw {W : WorldM} (h : W.Ok) (t : Nat) (hc : W.cells.count + 1 < 4611686018427387904) : (drawW W t).Ok := by
 have h1 : ({ W with cells := W.cells.acc 4 0 ((W.cells.f 0 + 1) % 18446744073709551616) } : WorldM).Ok := h.acc (Nat.mod_lt _ (by decide)) hc
 refine ⟨?_, fun n hn => ?_, h1.f, h1.count⟩
 ·show (W.tickets.set t _).length = 64
  rw [List.length_set]
  exact h.tickets
 ·rcases List.mem_or_eq_of_mem_set hn with hn | hn
  ·exact h.small n hn
  ·rw [hn]
   exact Nat.mod_lt _ (by decide)
theorem WorldM.Ok.look {W : WorldM} (h : W.Ok) (t tk : Nat) (hc : W.cells.count + 1 < 4611686018427387904) : (lookW W t tk).Ok := by
 have h1 : ({ W with cells := W.cells.acc 1 1 (W.cells.f 1) } : WorldM).Ok := h.acc (h.f 1) hc
 unfold lookW
 split
 ·refine ⟨?_, fun n hn => ?_, h1.f, h1.count⟩
  ·show (W.tickets.set t _).length = 64
   rw [List.length_set]
   exact h.tickets
  ·rcases List.mem_or_eq_of_mem_set hn with hn | hn
   ·exact h.small n hn
   ·rw [hn]
    exact (by decide : (0:Nat) < 18446744073709551616)
 ·exact h1
theorem WorldM.Ok.give {W : WorldM} (h : W.Ok) (hc : W.cells.count + 1 < 4611686018427387904) : (giveW W).Ok := by
 have h1 : ({ W with cells := W.cells.acc 4 1 ((W.cells.f 1 + 1) % 18446744073709551616) } : WorldM).Ok := h.acc (Nat.mod_lt _ (by decide)) hc
 exact ⟨h1.tickets, h1.small, h1.f, h1.count⟩
theorem WorldM.Ok.new (c : CfgD) : (newWorld c).Ok where
 tickets := by simp [newWorld]
 small := fun n hn => by
  have := List.eq_of_mem_replicate hn
  rw [this]
  exact (by decide : (0:Nat) < 18446744073709551616)
 f := fun a => by
  show U64 (setF (fun _ => 0) 2 (wordN c.bits.toNat 0) a)
  unfold setF U64 wordN
  split
  ·omega
  ·exact (by decide : (0:Nat) < 18446744073709551616)
 count := (by decide : (0:Nat) < 4611686018427387904)
theorem Steps.wk {t F o p : Nat} {b : Bool} {A A' R R' : Thing} (h : Steps t F o p b A' R') (hA : Wk A A') (hR : Wk R' R) : Steps t F o p b A R := ⟨h.meth, h.enter, fun V S0 hV => by
 obtain ⟨S1, h1, h2⟩ := hA V S0 hV
 refine (h.does V S1 h1).mono ?_
 rintro e w' ⟨rfl, hst⟩
 exact ⟨rfl, (hst.wk hR).sub h2⟩⟩
def lcfg : CfgD := ⟨2, 8, 3, 1, 16⟩
def lh : Nat := hashN [97]
def lb : Nat := bucketN lh 2
def lb2 : Nat := otherN lb (tagN lh) 2
def lta : Nat := tagsA 2 lb
def ltt : Nat := itemA 2 lb 0
def ltg : Nat := tagN lh
def lver : Nat := verA 2 lb
def sm0 : StM := ⟨3, [97], [120], 0, 0, 0, 0, lh, 0, 0, 0, 0, 0, 0, 0⟩
def sm1 : StM := sm0.at 2 lb 0
def lw0 : WorldM := newWorld lcfg
theorem lok0 : lw0.Ok := WorldM.Ok.new _
theorem lwith_lt : withN 0 0 ltg < 18446744073709551616 := of_decide_eq_true (by kernel_rfl)
theorem lhh : lh < 18446744073709551616 := hashN_lt _
theorem lbkt : Bkt 2 lb := ⟨by decide, by decide, bucket_lt (by decide) (by decide)⟩
theorem lbkt2 : Bkt 2 lb2 := ⟨by decide, by decide, other_lt (by decide) (by decide) (bucket_lt (by decide) (by decide))⟩
theorem lplaces : placesL (hashN sm0.key) 2 = [(2, lb), (2, lb2)] := by kernel_rfl
theorem lta_lt : U64 lta := Nat.lt_trans (tagsA_lt lbkt) (by decide)
theorem ltt_lt : U64 ltt := show ltt < 18446744073709551616 from of_decide_eq_true (by kernel_rfl)
theorem lver_lt : U64 lver := Nat.lt_trans (verA_lt (b := 2) (k := lb)).1 (by decide)
abbrev newF (bx : Nat) : Value := .func (.func 127) #[] #[ptrN bx]
section
variable (p x : Nat)
end
theorem framed_box {b : Nat} {v : Value} {t : TypeId} (h : t ≠ 9) : Framed (BoxB b v t) := framed_blk _ _ _ h
theorem boxes_wk (A B C : Thing) : Wk (Star (Star A B) C) (Star (Star A C) B) := (Wk.assoc _ _ _).trans ((Wk.star (Wk.refl _) (Wk.comm _ _)).trans (Wk.assoc' _ _ _))
theorem box_reads {b x : Nat} {A : Thing} : ∀ (V : World) (S0 : Nat → Prop), Star A (StoreBox b x) V S0 → V.cell? ⟨b, 0, none⟩ = some (ptrN x) := fun _ _ ⟨_, _, _, h2, _⟩ => Blk.cell0 h2
variable {p x : Nat}
theorem framed_boxes {b b' o : Nat} : Framed (Star (StoreBox b x) (FindBox b' o)) := (framed_box (by decide)).star (framed_box (by decide))
open Go.RowKit Go.ChangeMaps Go.MapKept
variable {p x : Nat}
theorem putPh_wk {m : StM} {A B : Thing} {O : Nat → Thing} {n : Nat} : Wk (PutPh x m (Star A B) O n) (PutPh x m A O n) := fun V S ⟨q, h⟩ => (Wk.star (Wk.star (Wk.star (Wk.fst _ _) (Wk.refl _)) (Wk.refl _)) (Wk.refl _)).trans (Wk.exI q (Wk.refl _)) V S h
theorem framed_pboxes {b b' n : Nat} : Framed (Star (StoreBox b x) (IdBox b' n)) := (framed_box (by decide)).star (framed_box (by decide))
theorem markPh_wk {m : StM} {A B : Thing} {thn : Value} : Wk (MarkPh x m (Star A B) thn) (MarkPh x m A thn) := fun V S ⟨q, h⟩ => (Wk.star (Wk.star (Wk.fst _ _) (Wk.refl _)) (Wk.refl _)).trans (Wk.exI q (Wk.refl _)) V S h
end Go.Proofs.YtnkkoicbnbjlnaaGreatDoor
