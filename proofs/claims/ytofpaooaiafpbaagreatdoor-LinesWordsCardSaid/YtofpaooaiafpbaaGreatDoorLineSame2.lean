/- The laws' Other and Same. No condition. -/
import Derived.Test.YtofpaooaiafpbaaGreatDoorLineSame
namespace Go.Proofs.YtofpaooaiafpbaaGreatDoor
open Go.RowKit Go.ChangeMaps Go.MapKept

theorem undrewB {w w' : World} (h : Below w.drew.heap.size w.drew w') : Below w.heap.size w w' := ⟨h.os, h.tape, h.output, h.size, h.block⟩
set_option maxRecDepth 100000 in
set_option maxHeartbeats 1000000 in
theorem other_any (k : Value) (c : Cmd) (w : World) (a1 : Option Addr) (n1 c1 : Nat) (hk : k = .slice a1 n1 c1) : Calls Tryz.prog 12 #[cmdV k c] w fun e w' => e = .returned (cmdV k c) ∧ Below w.heap.size w w' := by
  subst hk
  go_enter Tryz.func12, Tryz.ntmps12
  go_wp2_with fail
  exact bodyPost_ret (v := cmdV (.slice a1 n1 c1) c) (by simp [results, Tryz.results12, go_sem]) rfl ⟨rfl, ((Below.refl _ _).alloc (Nat.le_refl _) _).alloc (by simp) _⟩

set_option maxRecDepth 100000 in
set_option maxHeartbeats 2000000 in
theorem lawSame_any {w : World} {B1 B2 : Nat} {k1 k2 : Value} {a b : Cmd} (h1 : Strs w B1 k1 a.keys) (h2 : Strs w B2 k2 b.keys) :
    Calls Tryz.prog 9 #[cmdV k1 a, cmdV k2 b] w fun e w' => e = .returned (.bool (sameC a b)) ∧ Below w.heap.size w w' := by
  obtain ⟨a1, c1, e1⟩ := h1.len
  obtain ⟨a2, c2, e2⟩ := h2.len
  rw [List.length_map] at e1 e2
  rw [e1] at h1
  rw [e2] at h2
  rw [e1, e2]
  have H1 := Lib.hid h1
  have H2 := Lib.hid h2
  clear h1 h2 e1 e2
  go_enter Tryz.func9, Tryz.ntmps9
  go_wp2_with fail
  have hb0 : Below w.heap.size w ((w.alloc (.cells (cmdCells (.slice a1 a.keys.length c1) a).toArray 30)).alloc (.cells (cmdCells (.slice a2 b.keys.length c2) b).toArray 34)) := ((Below.refl _ _).alloc (Nat.le_refl _) _).alloc (by simp) _
  have HB0 := Lib.hid hb0
  have HS1 := Lib.hid (strs_below H1.out hb0)
  have HS2 := Lib.hid (strs_below H2.out hb0)
  have hz0 := hb0.size
  clear hb0
  have tok1 : True := trivial
  go_region_law
    (first
      | (clear tok1; refine step_call (by rfl) 12 #[cmdV (.slice a1 a.keys.length c1) a] (by go_simp; done) (other_any _ a _ a1 _ c1 rfl) ?_; rintro e w2 ⟨rfl, hb⟩; refine ⟨_, rfl, ?_⟩; obtain ⟨r1, r2⟩ := bcell hb; have HB2 := Lib.hid (undrewB hb); have hz2 := hb.size; clear hb)
      | (refine step_call (by rfl) 30 #[cmdV (.slice a1 a.keys.length c1) a, cmdV (.slice a2 b.keys.length c2) b] (by go_simp; done) (refSame_any (B1 := B1) (B2 := B2) (a := a) (b := b) (strs_below HS1.out HB2.out) (strs_below HS2.out HB2.out)) ?_; rintro e w3 ⟨rfl, hb3⟩; refine ⟨_, rfl, ?_⟩)
      | fail)
  all_goals go_wp2_with fail
  all_goals go_ret
  all_goals refine ⟨rfl, ?_⟩
  all_goals exact HB0.out.trans ((HB2.out.mono (by simpa using hz0)).trans (hb3.mono (by simp at hz0 hz2 ⊢; omega)))
end Go.Proofs.YtofpaooaiafpbaaGreatDoor
