/- The chapter's example (lives), walked. Condition: the library's tables lie as they are laid. -/
import Derived.Test.YtaooangnnlopcaaGreatDoorMapsEval
namespace Go.Proofs.YtaooangnnlopcaaGreatDoor
open Go.RowKit Go.ChangeMaps Go.MapKept
/-- A map of one's own, and answers kept beside it. -/
structure LvAt (w W : World) (p : Nat) (m : MapM) (bs : List (Nat × Array Value)) : Prop where
  map : MapAt W p m
  low : w.heap.size ≤ p
  new : ∀ k, W.cell? ⟨p, 0, none⟩ = some (.map (some k)) → w.heap.size ≤ k
  bel : Below w.heap.size w W
  held : ∀ x ∈ bs, x.1 ≠ p ∧ W.heap[x.1]? = some (.cells x.2 40 (0, 0))
theorem LvAt.step {w W W' : World} {p : Nat} {m m' : MapM} {bs : List (Nat × Array Value)} (h : LvAt w W p m bs) (hm : MapAt W' p m') (hc : MChg W p W') : LvAt w W' p m' bs := by
  refine ⟨hm, h.low, fun k hk => ?_, h.bel.trans (hc.chg.below (fun k hk => ⟨Nat.lt_of_lt_of_le hk h.bel.size, fun hM => ?_⟩)), fun x hx => ⟨(h.held x hx).1, hc.chg.obj (h.held x hx).2 (fun hM => ?_)⟩⟩
  · by_cases hlt : k < W.heap.size
    · exact h.new k (hc.own k hlt hk)
    · have := h.bel.size; omega
  · rcases hM with e | e
    · have := h.low; omega
    · have := h.new k e; omega
  · have h2 := h.held x hx
    rcases MM.kind h.map hM with e | ⟨es, clock, e⟩
    · exact h2.1 e
    · rw [h2.2] at e; cases e
theorem LvAt.below {w W W' : World} {p : Nat} {m : MapM} {bs : List (Nat × Array Value)} (h : LvAt w W p m bs) (hb : Below W.heap.size W W') : LvAt w W' p m bs :=
  h.step (h.map.below hb) (MChg.below hb h.map.lt)
theorem LvAt.put {w W W' : World} {p : Nat} {m : MapM} {bs : List (Nat × Array Value)} {cs : Array Value} {o : Obj} (h : LvAt w W p m bs) (hr : W'.heap[W.heap.size]? = some (.cells cs 40 (0, 0))) (hg : (W.alloc o).grownBy W' (some W.heap.size)) : LvAt w W' p m ((W.heap.size, cs) :: bs) := by
  have hb : Below W.heap.size W W' := grown_below ((Below.refl _ _).alloc (Nat.le_refl _) o) (by rw [size_at]; omega) hg (fun k hk => by cases hk; exact Nat.le_refl _)
  have h2 := h.below hb
  refine ⟨h2.map, h2.low, h2.new, h2.bel, fun x hx => ?_⟩
  rcases List.mem_cons.1 hx with rfl | hx
  · exact ⟨by have := h.map.lt; simp only; omega, hr⟩
  · exact h2.held x hx
section
variable {w W : World} {p : Nat} {bs : List (Nat × Array Value)}
end
/-- A new map, with no entries' block yet. -/
theorem mapsNew_own (w : World) : Calls Tryz.prog 8 #[] w fun e w' => e = .returned (.pointer (some ⟨w.heap.size, 0, none⟩)) ∧ LvAt w w' w.heap.size newM [] := by
  go_enter Tryz.func8, Tryz.ntmps8
  go_wp2_with fail
  go_ret
  refine ⟨rfl, ⟨none, by rw [heap_at, if_pos rfl]; rfl, .inl ⟨rfl, rfl⟩⟩, Nat.le_refl _, fun k hk => ?_, (Below.refl _ _).alloc (Nat.le_refl _) _, fun x hx => (nomatch hx)⟩
  exfalso
  rw [(cells_at (by rw [heap_at, if_pos rfl]) 0).1] at hk
  simp at hk
end Go.Proofs.YtaooangnnlopcaaGreatDoor
