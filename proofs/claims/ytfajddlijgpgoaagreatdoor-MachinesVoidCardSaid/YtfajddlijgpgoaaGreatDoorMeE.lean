/- stores: a Store's step from phase to phase. No condition. stores: the eighteen steps of the chapter's example. No condition. stores: the eighteen steps of the chapter's example, step by step. No condition. stores: the later steps of the chapter's example. No condition. -/
import Derived.Test.YtfajddlijgpgoaaGreatDoorMeC
namespace Go.Proofs.YtfajddlijgpgoaaGreatDoor
open Go.RowKit Go.ChangeMaps Go.MapKept

/-- One step of a Store brings one thing to another. -/
def StepTo (x p : Nat) (b : Bool) (A B : Thing) : Prop := ∀ V S0, A V S0 → Calls Tryz.prog 378 #[ptrN x, ptrN p] V fun e w' => e = .returned (.bool b) ∧ Stp B S0 V w'
theorem StepTo.wk {x p : Nat} {b : Bool} {A A' B B' : Thing} (h : StepTo x p b A' B') (hA : Wk A A') (hB : Wk B' B) : StepTo x p b A B := fun V S0 hV => by
  obtain ⟨S1, h1, h2⟩ := hA V S0 hV
  refine (h V S1 h1).mono ?_
  rintro e w' ⟨rfl, hst⟩
  exact ⟨rfl, (hst.wk hB).sub h2⟩
theorem StepTo.ex {α : Type} {x p : Nat} {b : Bool} {A : α → Thing} {B : Thing} (h : ∀ a, StepTo x p b (A a) B) : StepTo x p b (fun V S => ∃ a, A a V S) B := fun V S0 ⟨a, ha⟩ => h a V S0 ha
theorem stepMore {x p t o F : Nat} {thn act : Value} {m : StM} {A R : Thing} (hA : Framed A) (hs : Steps t F o p false A R) : StepTo x p false (Star A (StoreB x (.iface t (ptrN o)) thn act m)) (Star R (StoreB x (.iface t (ptrN o)) thn act m)) := fun _ _ h =>
  storeStep_any h.goesOp (onMore_any hA h hs) (fun _ _ h => h.goesOp)
theorem stepOver {x p t o F G : Nat} {first cap : Array Value} {act : Value} {m : StM} {b : Bool} {A R R2 : Thing} (hA : Framed A) (hs : Steps t F o p true A R)
    (hG : Doing G (first.push (ptrN p) ++ cap) (Star R (StoreB x (.iface t (ptrN o)) (.func (.func G) first cap) act m)) R2) (hR : ∀ V S0, R2 V S0 → GoesIs x b V) : StepTo x p b (Star A (StoreB x (.iface t (ptrN o)) (.func (.func G) first cap) act m)) R2 := fun _ _ h =>
  storeStep_any h.goesOp (onOver_any hA h hs hG) hR
theorem stepAct {x p G : Nat} {first cap : Array Value} {thn : Value} {m : StM} {b : Bool} {A R : Thing} (hG : Doing G (first.push (ptrN p) ++ cap) (Star A (StoreB x .nilIface thn (.func (.func G) first cap) m)) R) (hR : ∀ V S0, R V S0 → GoesIs x b V) :
    StepTo x p b (Star A (StoreB x .nilIface thn (.func (.func G) first cap) m)) R := fun _ _ h =>
  storeStep_any h.goesAct (onAct_any h hG) hR
theorem WorldM.Ok.acc {W : WorldM} (h : W.Ok) {k a v : Nat} (hv : U64 v) (hc : W.cells.count + 1 < 4611686018427387904) : ({ W with cells := W.cells.acc k a v } : WorldM).Ok where
  tickets := h.tickets
  small := h.small
  f := fun b => by
    show U64 (setF W.cells.f a v b)
    unfold setF
    split
    · exact hv
    · exact h.f b
  count := hc
theorem WorldM.Ok.load {W : WorldM} (h : W.Ok) (a : Nat) (hc : W.cells.count + 1 < 4611686018427387904) : (loadW W a).Ok := h.acc (h.f a) hc
theorem WorldM.Ok.store {W : WorldM} (h : W.Ok) (a v : Nat) (hv : U64 v) (hc : W.cells.count + 1 < 4611686018427387904) : (storeW W a v).Ok := h.acc hv hc
theorem WorldM.Ok.mark {W : WorldM} (h : W.Ok) (a : Nat) (hc : W.cells.count + 1 < 4611686018427387904) : (markW W a).Ok := h.acc (Nat.mod_lt _ (by decide)) hc
theorem WorldM.Ok.add {W : WorldM} (h : W.Ok) (a v : Nat) (hc : W.cells.count + 1 < 4611686018427387904) : (addW W a v).Ok := h.acc (Nat.mod_lt _ (by decide)) hc
theorem WorldM.Ok.item {W : WorldM} (h : W.Ok) (x : ItemD) : (itemW W x).Ok := ⟨h.tickets, h.small, h.f, h.count⟩
theorem WorldM.Ok.draw {W : WorldM} (h : W.Ok) (t : Nat) (hc : W.cells.count + 1 < 4611686018427387904) : (drawW W t).Ok := by
  have h1 : ({ W with cells := W.cells.acc 4 0 ((W.cells.f 0 + 1) % 18446744073709551616) } : WorldM).Ok := h.acc (Nat.mod_lt _ (by decide)) hc
  refine ⟨?_, fun n hn => ?_, h1.f, h1.count⟩
  · show (W.tickets.set t _).length = 64
    rw [List.length_set]
    exact h.tickets
  · rcases List.mem_or_eq_of_mem_set hn with hn | hn
    · exact h.small n hn
    · rw [hn]
      exact Nat.mod_lt _ (by decide)
theorem WorldM.Ok.look {W : WorldM} (h : W.Ok) (t tk : Nat) (hc : W.cells.count + 1 < 4611686018427387904) : (lookW W t tk).Ok := by
  have h1 : ({ W with cells := W.cells.acc 1 1 (W.cells.f 1) } : WorldM).Ok := h.acc (h.f 1) hc
  unfold lookW
  split
  · refine ⟨?_, fun n hn => ?_, h1.f, h1.count⟩
    · show (W.tickets.set t _).length = 64
      rw [List.length_set]
      exact h.tickets
    · rcases List.mem_or_eq_of_mem_set hn with hn | hn
      · exact h.small n hn
      · rw [hn]
        exact (by decide : (0:Nat) < 18446744073709551616)
  · exact h1
theorem WorldM.Ok.new (c : CfgD) : (newWorld c).Ok where
  tickets := by simp [newWorld]
  small := fun n hn => by
    have := List.eq_of_mem_replicate hn
    rw [this]
    exact (by decide : (0:Nat) < 18446744073709551616)
  f := fun a => by
    show U64 (setF (fun _ => 0) 2 (wordN c.bits.toNat 0) a)
    unfold setF U64 wordN
    split
    · omega
    · exact (by decide : (0:Nat) < 18446744073709551616)
  count := (by decide : (0:Nat) < 4611686018427387904)

theorem Steps.wk {t F o p : Nat} {b : Bool} {A A' R R' : Thing} (h : Steps t F o p b A' R') (hA : Wk A A') (hR : Wk R' R) : Steps t F o p b A R := ⟨h.meth, h.enter, fun V S0 hV => by
  obtain ⟨S1, h1, h2⟩ := hA V S0 hV
  refine (h.does V S1 h1).mono ?_
  rintro e w' ⟨rfl, hst⟩
  exact ⟨rfl, (hst.wk hR).sub h2⟩⟩
def lcfg : CfgD := ⟨2, 8, 3, 1, 16⟩
def lh : Nat := hashN [97]
def lb : Nat := bucketN lh 2
def lb2 : Nat := otherN lb (tagN lh) 2
def lta : Nat := tagsA 2 lb
def ltt : Nat := itemA 2 lb 0
def ltg : Nat := tagN lh
def lver : Nat := verA 2 lb
def sm0 : StM := ⟨3, [97], [120], 0, 0, 0, 0, lh, 0, 0, 0, 0, 0, 0, 0⟩
def sm1 : StM := sm0.at 2 lb 0
def sm2 : StM := sm1.pt 0 11
def sm3 : StM := sm2.ans 1 1
def lw0 : WorldM := newWorld lcfg
def lw1 : WorldM := drawW lw0 0
def lw2 : WorldM := lookW lw1 0 0
def lw3 : WorldM := loadW lw2 2
def lw4 : WorldM := loadW lw3 2
def lw5 : WorldM := loadW lw4 lta
def lw6 : WorldM := loadW lw5 (tagsA 2 lb2)
def lw7 : WorldM := loadW lw6 6
def lw8 : WorldM := loadW lw7 2
def lw9 : WorldM := loadW lw8 lta
def lw10 : WorldM := markW lw9 lver
def lw11 : WorldM := loadW lw10 8
def lw12 : WorldM := itemW (addW lw11 7 1) (recI sm2 1)
def lw13 : WorldM := storeW lw12 ltt 1
def lw14 : WorldM := loadW lw13 lta
def lw15 : WorldM := storeW lw14 lta (withN 0 0 ltg)
def lw16 : WorldM := addW lw15 6 1
def lw17 : WorldM := markW lw16 lver
def lw18 : WorldM := giveW lw17
theorem lok0 : lw0.Ok := WorldM.Ok.new _
theorem lok1 : lw1.Ok := lok0.draw 0 (by decide)
theorem lok2 : lw2.Ok := lok1.look 0 0 (by decide)
theorem lok3 : lw3.Ok := lok2.load 2 (by decide)
theorem lok4 : lw4.Ok := lok3.load 2 (by decide)
theorem lok5 : lw5.Ok := lok4.load lta (by decide)
theorem lok6 : lw6.Ok := lok5.load _ (by decide)
theorem lok7 : lw7.Ok := lok6.load 6 (by decide)
theorem lok8 : lw8.Ok := lok7.load 2 (by decide)
theorem lok9 : lw9.Ok := lok8.load lta (by decide)
theorem lok10 : lw10.Ok := lok9.mark lver (by decide)
theorem lok11 : lw11.Ok := lok10.load 8 (by decide)
theorem lok12 : lw12.Ok := (lok11.add 7 1 (by decide)).item _
theorem lok13 : lw13.Ok := lok12.store ltt 1 (by unfold U64; omega) (by decide)
theorem lok14 : lw14.Ok := lok13.load lta (by decide)
theorem lwith_lt : withN 0 0 ltg < 18446744073709551616 := of_decide_eq_true (by kernel_rfl)
theorem lok15 : lw15.Ok := lok14.store lta _ lwith_lt (by decide)
theorem lok16 : lw16.Ok := lok15.add 6 1 (by decide)
theorem lok17 : lw17.Ok := lok16.mark lver (by decide)
theorem lhh : lh < 18446744073709551616 := hashN_lt _
theorem lbkt : Bkt 2 lb := ⟨by decide, by decide, bucket_lt (by decide) (by decide)⟩
theorem lbkt2 : Bkt 2 lb2 := ⟨by decide, by decide, other_lt (by decide) (by decide) (bucket_lt (by decide) (by decide))⟩
theorem lplaces : placesL (hashN sm0.key) 2 = [(2, lb), (2, lb2)] := by kernel_rfl
theorem lta_lt : U64 lta := Nat.lt_trans (tagsA_lt lbkt) (by decide)
theorem ltt_lt : U64 ltt := show ltt < 18446744073709551616 from of_decide_eq_true (by kernel_rfl)
theorem lver_lt : U64 lver := Nat.lt_trans (verA_lt (b := 2) (k := lb)).1 (by decide)

abbrev newF (bx : Nat) : Value := .func (.func 90) #[] #[ptrN bx]
section
variable (p x : Nat)
def LP0 : Thing := fun V S => ∃ q : Nat × Nat, Star (Star (Star (WorldIs p lw0) (StoreBox q.2 x)) (TakeIs q.1 0 0 false (drawF q.1))) (StoreB x (.iface 208 (ptrN q.1)) (newF q.2) .nilFunc sm0) V S
def LP1 : Thing := fun V S => ∃ q : Nat × Nat, Star (Star (Star (WorldIs p lw1) (StoreBox q.2 x)) (TakeIs q.1 0 0 true (lookF q.1))) (StoreB x (.iface 208 (ptrN q.1)) (newF q.2) .nilFunc sm0) V S
def LP2 : Thing := fun V S => ∃ o, Star (Star (WorldIs p lw2) (TurnIs o 1 0)) (StoreB x (.iface 212 (ptrN o)) (findsF x) .nilFunc sm0) V S
def LP3 : Thing := fun V S => ∃ o, FindPh x sm0 (WorldIs p lw3) (Find0 o sm0.key) o V S
def LP4 : Thing := fun V S => ∃ o, FindPh x sm0 (WorldIs p lw4) (FindIs o sm0.key 2 [(2, lb), (2, lb2)]) o V S
def LP5 : Thing := fun V S => ∃ o, FindPh x sm0 (WorldIs p lw5) (FindIs o sm0.key 2 [(2, lb2)]) o V S
def LP6 : Thing := fun V S => ∃ thn, Star (WorldIs p lw6) (StoreB x .nilIface thn (storeF 134 x) sm0) V S
def LP7 : Thing := fun V S => ∃ thn, Star (WorldIs p lw7) (StoreB x .nilIface thn (storeF 175 x) sm0) V S
def LP8 : Thing := fun V S => ∃ o, RoomPh x sm0 (WorldIs p lw8) (RoomIs o 2 lh) o V S
def LP9 : Thing := fun V S => ∃ bx, MarkPh x sm1 (Star (WorldIs p lw9) (StoreBox bx x)) (boxF 244 bx) V S
def LP10 : Thing := fun V S => ∃ q : Nat × Value, Star (Star (WorldIs p lw10) (StoreBox q.1 x)) (StoreB x .nilIface q.2 (boxF 245 q.1) sm1) V S
def LP11 : Thing := fun V S => ∃ q : Nat × Value, Star (Star (WorldIs p lw11) (StoreBox q.1 x)) (StoreB x .nilIface q.2 (boxF 246 q.1) sm2) V S
def LP12 : Thing := PutPh x sm2 (WorldIs p lw12) (fun o => PutIs o lta ltt 0 0 0 ltg 1) 1
def LP13 : Thing := PutPh x sm2 (WorldIs p lw13) (fun o => PutIs o lta ltt 0 0 1 ltg 1) 1
def LP14 : Thing := PutPh x sm2 (WorldIs p lw14) (fun o => PutIs o lta ltt 0 0 2 ltg 1) 1
def LP15 : Thing := fun V S => ∃ q : Nat × Nat × Value, Star (Star (WorldIs p lw15) (Star (StoreBox q.1 x) (IdBox q.2.1 1))) (StoreB x .nilIface q.2.2 (countF q.1 q.2.1) sm2) V S
def LP16 : Thing := MarkPh x sm3 (WorldIs p lw16) (storeF 173 x)
def LP17 : Thing := GivePh x sm3 (WorldIs p lw17)
def LP18 : Thing := fun V S => ∃ thn, Star (WorldIs p lw18) (StoreB x .nilIface thn .nilFunc sm3) V S
end
theorem framed_box {b : Nat} {v : Value} {t : TypeId} (h : t ≠ 9) : Framed (BoxB b v t) := framed_blk _ _ _ h
theorem boxes_wk (A B C : Thing) : Wk (Star (Star A B) C) (Star (Star A C) B) := (Wk.assoc _ _ _).trans ((Wk.star (Wk.refl _) (Wk.comm _ _)).trans (Wk.assoc' _ _ _))
theorem box_reads {b x : Nat} {A : Thing} : ∀ (V : World) (S0 : Nat → Prop), Star A (StoreBox b x) V S0 → V.cell? ⟨b, 0, none⟩ = some (ptrN x) := fun _ _ ⟨_, _, _, h2, _⟩ => Blk.cell0 h2
variable {p x : Nat}
theorem lstep0 : StepTo x p false (LP0 p x) (LP1 p x) := StepTo.ex fun q => (stepMore (((framed_worldIs p _).star (framed_box (by decide))).star (framed_take _ _ _ _ _))
    (((takeSteps_draw lok0 (by decide)).frame ((framed_worldIs p _).star (framed_take _ _ _ _ _)) (framed_box (b := q.2) (v := ptrN x) (t := 151) (by decide))).wk (boxes_wk _ _ _) (boxes_wk _ _ _))).wk (Wk.refl _) (Wk.exI q (Wk.refl _))
theorem lstep1 : StepTo x p false (LP1 p x) (LP2 p x) := StepTo.ex fun q => (stepOver (first := #[]) (cap := #[ptrN q.2]) (((framed_worldIs p _).star (framed_box (by decide))).star (framed_take _ _ _ _ _))
    (((takeSteps_look lok1 (by decide) (show lw1.cells.f 1 = 0 from by kernel_rfl)).frame ((framed_worldIs p _).star (framed_take _ _ _ _ _)) (framed_box (b := q.2) (v := ptrN x) (t := 151) (by decide))).wk (boxes_wk _ _ _) (Wk.refl _))
    (doesTurn (p := p) ((framed_worldIs p _).star (framed_box (by decide))) box_reads) (fun _ _ ⟨_, h⟩ => h.goesOp)).wk (Wk.refl _) (fun V S ⟨o, h⟩ => (Wk.star (Wk.star (Wk.fst _ _) (Wk.refl _)) (Wk.refl _)).trans (Wk.exI o (Wk.refl _)) V S h)
theorem lstep2 : StepTo x p false (LP2 p x) (LP3 p x) := StepTo.ex fun o => stepOver (first := #[ptrN x]) (cap := #[]) ((framed_worldIs p _).star (framed_turn _ _ _)) (turnSteps lok2 (by kernel_rfl)) (doesFinds (p := p) (framed_worldIs p _)) (fun _ _ ⟨_, _, h⟩ => h.goesOp)
theorem framed_boxes {b b' o : Nat} : Framed (Star (StoreBox b x) (FindBox b' o)) := (framed_box (by decide)).star (framed_box (by decide))
theorem lstep3 : StepTo x p false (LP3 p x) (LP4 p x) := StepTo.ex fun o => StepTo.ex fun q => (stepMore (((framed_worldIs p _).star (framed_find0 _ _)).star framed_boxes)
    ((findSteps_first (key := sm0.key) lok3 (by kernel_rfl) (by decide)).frame ((framed_worldIs p _).star (framed_find0 _ _)) framed_boxes)).wk (Wk.refl _) (Wk.exI o (Wk.exI q (Wk.star (Wk.star (Wk.star (Wk.refl _) (Wk.of fun V S h => by
      rw [show lw3.cells.f 2 = 2 from by kernel_rfl, lplaces] at h
      exact h)) (Wk.refl _)) (Wk.refl _))))
theorem lstep4 : StepTo x p false (LP4 p x) (LP5 p x) := StepTo.ex fun o => StepTo.ex fun q => (stepMore (((framed_worldIs p _).star (framed_find _ _ _ _)).star framed_boxes)
    ((findSteps_tags (key := sm0.key) lok4 lbkt (by decide) (by decide) (by decide) (by decide)).frame ((framed_worldIs p _).star (framed_find _ _ _ _)) framed_boxes)).wk (Wk.refl _) (Wk.exI o (Wk.exI q (Wk.refl _)))
theorem lstep5 : StepTo x p false (LP5 p x) (LP6 p x) := StepTo.ex fun o => StepTo.ex fun q => (stepOver (first := #[]) (cap := #[ptrN q.2, ptrN q.1]) (((framed_worldIs p _).star (framed_find _ _ _ _)).star framed_boxes)
    ((findSteps_tags (key := sm0.key) lok5 lbkt2 (by decide) (by decide) (by decide) (by decide)).frame ((framed_worldIs p _).star (framed_find _ _ _ _)) framed_boxes)
    (doesFound (p := p) (framed_worldIs p _) (by decide) (by decide)) (fun _ _ h => h.goesAct)).wk (Wk.refl _) (Wk.exI _ (Wk.refl _))
theorem lstep6 : StepTo x p false (LP6 p x) (LP7 p x) := StepTo.ex fun thn => (stepAct (first := #[ptrN x]) (cap := #[]) (doesCounts (p := p) (bud := 8) lok6 rfl (by decide) (by decide)) (fun _ _ h => h.goesAct)).wk (Wk.refl _) (Wk.exI _ (Wk.refl _))
theorem lstep7 : StepTo x p false (LP7 p x) (LP8 p x) := StepTo.ex fun _ => stepAct (first := #[ptrN x]) (cap := #[]) (doesTables (p := p) lok7 lhh) (fun _ _ ⟨_, _, h⟩ => h.goesOp)
open Go.RowKit Go.ChangeMaps Go.MapKept

variable {p x : Nat}
theorem lstep8 : StepTo x p false (LP8 p x) (LP9 p x) := StepTo.ex fun o => StepTo.ex fun q => stepOver (first := #[]) (cap := #[ptrN q.2.1, ptrN q.1, ptrN q.2.2.1, ptrN q.2.2.2.1, ptrN q.2.2.2.2]) (((framed_worldIs p _).star (framed_room _ _ _)).star ((framed_box (by decide)).star (framed_box (by decide))))
    ((roomSteps lok8 lbkt (by kernel_rfl)).frame ((framed_worldIs p _).star (framed_room _ _ _)) ((framed_box (by decide)).star (framed_box (by decide))))
    (doesRoomed (p := p) (s := 0) (framed_worldIs p _) lbkt) (fun _ _ ⟨_, _, h⟩ => h.goesOp)
theorem lstep9 : StepTo x p false (LP9 p x) (LP10 p x) := StepTo.ex fun bx => StepTo.ex fun o => (stepOver (first := #[]) (cap := #[ptrN bx]) (((framed_worldIs p _).star (framed_box (by decide))).star (framed_mark _ _))
    (((markSteps lok9 lver_lt).frame ((framed_worldIs p _).star (framed_mark _ _)) (framed_box (b := bx) (v := ptrN x) (t := 151) (by decide))).wk (boxes_wk _ _ _) (Wk.refl _))
    (doesComes1 (p := p) ((framed_worldIs p _).star (framed_box (by decide))) box_reads) (fun _ _ h => h.goesAct)).wk (Wk.refl _) (Wk.exI (bx, _) (Wk.refl _))
theorem lstep10 : StepTo x p false (LP10 p x) (LP11 p x) := StepTo.ex fun q => (stepAct (first := #[]) (cap := #[ptrN q.1]) (doesComes2 (p := p) (X := StoreBox q.1 x) (framed_box (by decide)) lok10 (fun _ _ h => Blk.cell0 h)) (fun _ _ h => h.goesAct)).wk (Wk.refl _) (Wk.exI q (Wk.of fun V S h => by
    rw [show lw10.cells.f 8 = 0 from by kernel_rfl, show lw10.cells.count + 1 = 11 from by kernel_rfl] at h
    exact h))
theorem putPh_wk {m : StM} {A B : Thing} {O : Nat → Thing} {n : Nat} : Wk (PutPh x m (Star A B) O n) (PutPh x m A O n) := fun V S ⟨q, h⟩ => (Wk.star (Wk.star (Wk.star (Wk.fst _ _) (Wk.refl _)) (Wk.refl _)) (Wk.refl _)).trans (Wk.exI q (Wk.refl _)) V S h
theorem lhh2 : sm2.h < 18446744073709551616 := by
  rw [show sm2.h = lh from by kernel_rfl]
  exact lhh
theorem lstep11 : StepTo x p false (LP11 p x) (LP12 p x) := StepTo.ex fun q => (stepAct (first := #[]) (cap := #[ptrN q.1]) (doesComes3 (p := p) (i7 := 0) (X := StoreBox q.1 x) (framed_box (by decide)) lok11 lbkt (by decide) lhh2 (by kernel_rfl) (of_decide_eq_true (by kernel_rfl)) (by kernel_rfl) (by omega) (show (0 : Nat) < 18446744073709551616 from by omega) (show -9223372036854775808 ≤ (0 : Int) ∧ (0 : Int) ≤ 9223372036854775807 from by omega) (fun _ _ h => Blk.cell0 h)) (fun _ _ ⟨_, h⟩ => h.goesOp)).wk (Wk.refl _) putPh_wk
theorem framed_pboxes {b b' n : Nat} : Framed (Star (StoreBox b x) (IdBox b' n)) := (framed_box (by decide)).star (framed_box (by decide))
theorem lstep12 : StepTo x p false (LP12 p x) (LP13 p x) := StepTo.ex fun q => (stepMore (((framed_worldIs p _).star (framed_put _ _ _ _ _ _ _ _)).star framed_pboxes)
    ((putSteps1 lok12 tagsA_pos ltt_lt (by decide)).frame ((framed_worldIs p _).star (framed_put _ _ _ _ _ _ _ _)) framed_pboxes)).wk (Wk.refl _) (Wk.exI q (Wk.refl _))
theorem lstep13 : StepTo x p false (LP13 p x) (LP14 p x) := StepTo.ex fun q => (stepMore (((framed_worldIs p _).star (framed_put _ _ _ _ _ _ _ _)).star framed_pboxes)
    ((putSteps2 lok13 tagsA_pos lta_lt).frame ((framed_worldIs p _).star (framed_put _ _ _ _ _ _ _ _)) framed_pboxes)).wk (Wk.refl _) (Wk.exI q (Wk.of fun V S h => by
    rw [show lw13.cells.f (tagsA 2 lb) = 0 from by kernel_rfl] at h
    exact h))
theorem lstep14 : StepTo x p false (LP14 p x) (LP15 p x) := StepTo.ex fun q => (stepOver (first := #[]) (cap := #[ptrN q.2.1, ptrN q.2.2]) (((framed_worldIs p _).star (framed_put _ _ _ _ _ _ _ _)).star framed_pboxes)
    ((putSteps3 lok14 tagsA_pos lta_lt (by unfold U64; omega) (by decide) (of_decide_eq_true (by kernel_rfl))).frame ((framed_worldIs p _).star (framed_put _ _ _ _ _ _ _ _)) framed_pboxes)
    (doesPut1 (p := p) ((framed_worldIs p _).star framed_pboxes) (fun _ _ ⟨_, _, _, ⟨_, _, h, _⟩, _⟩ => Blk.cell0 h)) (fun _ _ h => h.goesAct)).wk (Wk.refl _) (Wk.exI (q.2.1, q.2.2, _) (Wk.refl _))
theorem markPh_wk {m : StM} {A B : Thing} {thn : Value} : Wk (MarkPh x m (Star A B) thn) (MarkPh x m A thn) := fun V S ⟨q, h⟩ => (Wk.star (Wk.star (Wk.fst _ _) (Wk.refl _)) (Wk.refl _)).trans (Wk.exI q (Wk.refl _)) V S h
theorem lstep15 : StepTo x p false (LP15 p x) (LP16 p x) := StepTo.ex fun q => (stepAct (first := #[]) (cap := #[ptrN q.1, ptrN q.2.1]) (doesPut2 (p := p) (id := 1) (X := Star (StoreBox q.1 x) (IdBox q.2.1 1)) framed_pboxes lok15 lbkt (fun _ _ ⟨_, _, h, _⟩ => Blk.cell0 h) (fun _ _ ⟨_, _, _, h, _⟩ => Blk.cell0 h)) (fun _ _ ⟨_, h⟩ => h.goesOp)).wk (Wk.refl _) markPh_wk
theorem lstep16 : StepTo x p false (LP16 p x) (LP17 p x) := StepTo.ex fun _ => stepOver (first := #[ptrN x]) (cap := #[]) ((framed_worldIs p _).star (framed_mark _ _)) (markSteps lok16 lver_lt) (doesGives (p := p) (framed_worldIs p _)) (fun _ _ ⟨_, h⟩ => h.goesOp)
theorem lstep17 : StepTo x p true (LP17 p x) (LP18 p x) := StepTo.ex fun _ => (stepOver (first := #[ptrN x]) (cap := #[]) ((framed_worldIs p _).star (framed_give _ _)) (giveSteps lok17) (doesEnds (p := p) (framed_worldIs p _)) (fun _ _ h => h.goesNil)).wk (Wk.refl _) (Wk.exI _ (Wk.refl _))
/-- All of them, by number. -/
def LP (p x : Nat) : Nat → Thing
  | 0 => LP0 p x | 1 => LP1 p x | 2 => LP2 p x | 3 => LP3 p x | 4 => LP4 p x | 5 => LP5 p x | 6 => LP6 p x | 7 => LP7 p x | 8 => LP8 p x | 9 => LP9 p x | 10 => LP10 p x
  | 11 => LP11 p x | 12 => LP12 p x | 13 => LP13 p x | 14 => LP14 p x | 15 => LP15 p x | 16 => LP16 p x | 17 => LP17 p x | _ => LP18 p x
theorem lsteps (n : Nat) (h : n < 18) : StepTo x p (decide (n = 17)) (LP p x n) (LP p x (n + 1)) := by
  rcases n with _ | _ | _ | _ | _ | _ | _ | _ | _ | _ | _ | _ | _ | _ | _ | _ | _ | _ | n
  · exact lstep0
  · exact lstep1
  · exact lstep2
  · exact lstep3
  · exact lstep4
  · exact lstep5
  · exact lstep6
  · exact lstep7
  · exact lstep8
  · exact lstep9
  · exact lstep10
  · exact lstep11
  · exact lstep12
  · exact lstep13
  · exact lstep14
  · exact lstep15
  · exact lstep16
  · exact lstep17
  · omega
end Go.Proofs.YtfajddlijgpgoaaGreatDoor
