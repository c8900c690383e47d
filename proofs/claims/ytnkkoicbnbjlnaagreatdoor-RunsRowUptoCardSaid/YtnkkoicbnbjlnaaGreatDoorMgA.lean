/- machines: a pick at which a set begins. No condition. And what goes with it (4 texts). -/
import Derived.Test.YtnkkoicbnbjlnaaGreatDoorMfB
import Derived.Test.YtnkkoicbnbjlnaaGreatDoorMcA
import Derived.Test.YtnkkoicbnbjlnaaGreatDoorMNewStore
import Derived.Test.YtnkkoicbnbjlnaaGreatDoorLowA
import Derived.Test.YtnkkoicbnbjlnaaGreatDoorMdB
namespace Go.Proofs.YtnkkoicbnbjlnaaGreatDoor
set_option maxRecDepth 100000
set_option maxHeartbeats 8000000
open Go.RowKit Go.ChangeMaps Go.MapKept
theorem maker1_any (m : StM) (hz : storeCells .nilIface .nilFunc .nilFunc m = [.nilIface, .nilFunc, .nilFunc, .int .u8 3, sv m.key, sv m.value, .int .u32 (m.flags : Int), .int .i64 m.exp, .int .u64 (m.id : Int), .int .u64 (m.by' : Int), .int .u64 (m.h : Int), .int .i64 0, .int .i64 0, .int .i64 0, .int .u8 0, .int .u64 0, .string ⟨#[]⟩, .string ⟨#[]⟩, .int .u32 0, .int .u64 0, .int .i64 0, .int .i64 0, .int .u64 0, .int .i64 0]) (hh : m.h = hashN m.key)
  (hk : m.key.length ≤ maxLen) (hv : m.value.length ≤ maxLen) (hok : okB m.key = true) (hr : roomB m.value.length = true) (w : World) :
  Calls Tryz.prog 96 #[.int .i64 0, callV m] w fun e w' => ∃ x, e = .returned (.iface 209 (ptrN x)) ∧ Made (NewSt 0 m x) w w' := by
 have hb : Below w.heap.size w (w.alloc (.cells #[.int .u8 3, sv m.key, sv m.value, .int .u32 (m.flags : Int), .int .i64 m.exp, .int .u64 (m.id : Int), .int .u64 (m.by' : Int)] 26)) := (Below.refl _ _).alloc (Nat.le_refl _) _
 have HB := hidZ hb
 have HN := hidZ (fun W : World => storeNew_any (t := 0) (by omega) m hz hh hk hv hok hr W)
 clear hb hz hh hk hv hok hr
 go_enter Tryz.func96, Tryz.ntmps96
 go_wp2_with fail
 refine (HN.out _).mono ?_
 rintro e w2 ⟨x, rfl, hm⟩
 have HM := hidZ (Made.later HB.out hm)
 clear hm
 go_wp2_with fail
 go_ret
 exact ⟨x, rfl, HM.out⟩
theorem RowB.setMany {b : Nat} {t : TypeId} : ∀ (vs : List Value) (A old C : List Value) {w : World} {S : Nat → Prop}, old.length = vs.length → RowB b (A ++ (old ++ C)) t w S → RowB b (A ++ (vs ++ C)) t (w.setCells b A.length vs) S ∧ Chg S w (w.setCells b A.length vs)
 | [], A, old, C, w, S, hl, h => by
  obtain rfl := List.length_eq_zero_iff.1 hl
  exact ⟨h, Chg.refl S w⟩
 | v :: vs, A, old, C, w, S, hl, h => by
  obtain ⟨o1, os, rfl⟩ : ∃ o os, old = o :: os := by
   cases old with
   | nil => simp at hl
   | cons o os => exact ⟨o, os, rfl⟩
  obtain ⟨h1, h2⟩ := h.set A.length v (by simp)
  have h1 : RowB b ((A ++ [v]) ++ (os ++ C)) t (w.setCell ⟨b, A.length, none⟩ v) S := by
   have e : (A ++ (o1 :: os ++ C)).set A.length v = (A ++ [v]) ++ (os ++ C) := by simp
   rw [e] at h1
   exact h1
  obtain ⟨h3, h4⟩ := RowB.setMany vs (A ++ [v]) os C (by simpa using hl) h1
  rw [List.length_append] at h3 h4
  refine ⟨?_, h2.trans h4⟩
  have e : A ++ (v :: vs ++ C) = (A ++ [v]) ++ (vs ++ C) := by simp
  rw [e]
  exact h3
theorem funcEq (W : World) : (binOp .eql 158 (.func (.func 96) #[] #[]) .nilFunc).run Tryz.prog W = .ok (.bool false) W := by kernel_rfl
theorem framed_newSt (t : Nat) (m : StM) (x : Nat) : Framed (NewSt t m x) := Framed.ex (fun _ => ((framed_box (by decide)).star (framed_take _ _ _ _ _)).star (framed_store _ _ _ _ _))
theorem Star.machTag {R Y : Thing} {mp wp tb tc n : Nat} {th : List Value} {cv : Value} {w : World} {S : Nat → Prop} (h : Star (Star R (MachB mp wp tb tc n th cv)) Y w S) : Tag w tb 103 := by
 obtain ⟨T1, T2, ⟨T3, T4, -, ⟨T5, T6, -, b2, -⟩, -⟩, -⟩ := h
 exact b2.1
theorem mach_set {R Y : Thing} {mp wp tb tc n : Nat} {th th' : List Value} {cv : Value} {w w' : World} {S : Nat → Prop} (hR : Framed R) (hY : Framed Y) (h : Star (Star R (MachB mp wp tb tc n th cv)) Y w S)
  (f : ∀ S', RowB tb th 103 w S' → RowB tb th' 103 w' S' ∧ Chg S' w w') : Star (Star R (MachB mp wp tb tc n th' cv)) Y w' S ∧ Chg S w w' := by
 obtain ⟨S1, S2, ⟨S3, S4, a1, ⟨S5, S6, b1, b2, b3, b4⟩, a3, a4⟩, h2, h3, h4⟩ := h
 obtain ⟨g1, g2⟩ := f S6 b2
 have hT : ∀ k, S6 k → NoTxt w k := fun k hk => (framed_rowB tb th _ (by decide)).txt b2 hk
 have h64 : ∀ k, S6 k → S4 k := fun k hk => (b4 k).2 (.inr hk)
 have h61 : ∀ k, S6 k → S1 k := fun k hk => (a4 k).2 (.inr (h64 k hk))
 exact ⟨⟨S1, S2, ⟨S3, S4, hR.keep a1 g2 (fun k hk => ⟨fun e => a3 k e (h64 k hk), hT k hk⟩), ⟨S5, S6, (framed_blk mp _ _ (by decide)).keep b1 g2 (fun k hk => ⟨fun e => b3 k e hk, hT k hk⟩), g1, b3, b4⟩, a3, a4⟩, hY.keep h2 g2 (fun k hk => ⟨fun e => h3 k (h61 k hk) e, hT k hk⟩), h3, h4⟩,
  g2.mono (fun k _ hk => (h4 k).2 (.inl (h61 k hk)))⟩
theorem infoCalledM : (Tryz.prog.info? 33).map (fun i => (i.zero, i.size, i.bytes)) = some (some (.agg #[.int .i64 0, .int .u8 0, .string ⟨#[]⟩, .string ⟨#[]⟩, .int .u32 0, .int .i64 0, .int .u64 0, .int .u64 0, .int .i64 0, .int .i64 0, .int .u8 0, .int .u64 0, .string ⟨#[]⟩, .string ⟨#[]⟩, .int .u32 0, .int .u64 0, .int .i64 0, .int .i64 0, .int .u64 0, .int .i64 0]), 20, 192) := by kernel_rfl
def DoneRow (cv : Value) (n : Nat) (cs : List Value) : Thing := fun w S => w.ownsRow 0 33 20 cv n cs ∧ ∀ k, S k ↔ cv.ownBlock = some k
theorem framed_done (cv : Value) (n : Nat) (cs : List Value) : Framed (DoneRow cv n cs) where
 keep := by
  rintro w w' S M ⟨h1, hs⟩ hc hM
  exact ⟨owns_grow h1 hc (fun g hg e => (hM g e).1 ((hs g).2 hg)), hs⟩
 lt := by
  rintro w S k ⟨h1, hs⟩ hk
  exact (owns_tag h1 ((hs k).1 hk)).lt
 txt := by
  rintro w S k ⟨h1, hs⟩ hk e
  exact absurd ((owns_tag h1 ((hs k).1 hk)).one e) (by decide)
theorem app_called {w : World} {g : Nat} {cs : List Value} (hl : cs.length = 20) (h1 : ∀ u ∈ cs, u.oneCell' = true) (hg : w.heap[g]? = some (.cells cs.toArray 33 (0, 0))) :
  ∃ v' W, (Builtin.append_ #[54, 54] 54 #[.slice none 0 0, .slice (some ⟨g, 0, none⟩) 1 1]).run Tryz.prog w = .ok v' W ∧ Made (DoneRow v' 1 cs) w W := by
 obtain ⟨i0, hi0, hz0, hz1, hz2⟩ := infoP_parts infoCalledM
 have hnews : ∀ j u, cs[j]? = some u → w.cell? (Addr.add ⟨g, 0, none⟩ j) = some u := by
  intro j u hj
  have := (cellsAt hg j).1
  rw [List.getElem?_toArray] at this
  by_cases h0 : j = 0
  ·subst h0
   exact this.trans hj
  ·simpa [Addr.add, h0] using this.trans hj
 obtain ⟨v', w', hr, h2, h3, h4, h5⟩ := run_append_own_at (P := Tryz.prog) w 0 54 54 33 i0 _ 20 192 Tryz.underlying54 hi0 hz0 hz1 hz2 (by rfl) (by omega) (.slice none 0 0) 0 [] (World.ownsRow_nil _ _ _ _) ⟨g, 0, none⟩ 1 1 cs (by omega) hnews h1 (by unfold maxLen; omega) (by omega) (Nat.zero_le _)
 refine ⟨v', w', hr, ⟨fun k => v'.ownBlock = some k, ⟨by simpa using h2, fun _ => Iff.rfl⟩, fun k hk => ?_⟩, ?_⟩
 ·rcases h5 with e | e
  ·rw [hk] at e
   simp [Value.ownBlock] at e
  ·rw [hk] at e
   exact Nat.le_of_eq (Option.some.inj e).symm
 ·exact (Chg.of_grown (M := fun _ => False) h3 (fun i _ e => by simp [Value.ownBlock] at e)).below (fun k hk => ⟨hk, fun e => e⟩)
theorem mach_cv {R Y : Thing} {mp wp tb tc n : Nat} {th : List Value} {cv : Value} {w : World} {S : Nat → Prop} (hR : Framed R) (hY : Framed Y) (h : Star (Star R (MachB mp wp tb tc n th cv)) Y w S) (cv' : Value) : Star (Star R (MachB mp wp tb tc n th cv')) Y (w.setCell ⟨mp, 2, none⟩ cv') S ∧ Chg S w (w.setCell ⟨mp, 2, none⟩ cv') := by
 obtain ⟨S1, S2, ⟨S3, S4, a1, ⟨S5, S6, b1, b2, b3, b4⟩, a3, a4⟩, h2, h3, h4⟩ := h
 obtain ⟨g1, g2⟩ := Blk.set b1 2 cv'
 have hT : ∀ k, S5 k → NoTxt w k := fun k hk => (framed_blk mp _ _ (by decide)).txt b1 hk
 have h54 : ∀ k, S5 k → S4 k := fun k hk => (b4 k).2 (.inl hk)
 have h51 : ∀ k, S5 k → S1 k := fun k hk => (a4 k).2 (.inr (h54 k hk))
 exact ⟨⟨S1, S2, ⟨S3, S4, hR.keep a1 g2 (fun k hk => ⟨fun e => a3 k e (h54 k hk), hT k hk⟩), ⟨S5, S6, g1, (framed_rowB tb th _ (by decide)).keep b2 g2 (fun k hk => ⟨fun e => b3 k hk e, hT k hk⟩), b3, b4⟩, a3, a4⟩, hY.keep h2 g2 (fun k hk => ⟨fun e => h3 k (h51 k hk) e, hT k hk⟩), h3, h4⟩,
  g2.mono (fun k _ hk => (h4 k).2 (.inl (h51 k hk)))⟩
end Go.Proofs.YtnkkoicbnbjlnaaGreatDoor
