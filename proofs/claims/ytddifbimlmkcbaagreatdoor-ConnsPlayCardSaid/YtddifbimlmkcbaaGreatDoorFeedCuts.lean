/- Bytes cut in two; events appended to events: what the laws of layer 30 share. No condition. -/
import Derived.Test.YtddifbimlmkcbaaGreatDoorLowH
import Derived.Test.YtddifbimlmkcbaaGreatDoorLowB
import Derived.Maps.AppendAt
namespace Go.Proofs.YtddifbimlmkcbaaGreatDoor
open Go.RowKit Go.ChangeMaps Go.MapKept

theorem evsCells_append (L M : List (Value × Ev)) : evsCells (L ++ M) = evsCells L ++ evsCells M := by simp [evsCells]
/-- Events of one's own, to which others are appended. -/
structure Parts (w : World) (pv : Value) (L : List (Value × Ev)) (W : World) : Prop where
  row : W.ownsRow w.heap.size 44 13 pv L.length (evsCells L)
  keys : ∀ x ∈ L, KeysAt W x.1 x.2.cmd.keys
theorem Parts.kept {w : World} {pv : Value} {L : List (Value × Ev)} {W W' : World} (h : Parts w pv L W) {M : Nat → Prop} (hc : Chg M W W') (hM : ∀ k, M k → ¬ Tag W k 44 ∧ ¬ Tag W k 9) : Parts w pv L W' :=
  ⟨owns_grow h.row hc (fun g hg e => (hM g e).1 (owns_tag h.row hg)), fun x hx => (h.keys x hx).kept hc (fun g hg e => (hM g e).2 ((h.keys x hx).tag hg))⟩
theorem Parts.push {w : World} {pv : Value} {L : List (Value × Ev)} {W w1 : World} (h : Parts w pv L W) {v' : Value} {M : List (Value × Ev)} (hk : ∀ x ∈ M, KeysAt W x.1 x.2.cmd.keys)
    (hown : w1.ownsRow w.heap.size 44 13 v' (L.length + M.length) (evsCells L ++ evsCells M)) (hgr : W.grownBy w1 pv.ownBlock) : Parts w v' (L ++ M) w1 ∧ Chg (fun k => pv.ownBlock = some k) W w1 := by
  have hc1 : Chg (fun k => pv.ownBlock = some k) W w1 := Chg.of_grown hgr (fun _ _ e => e)
  have hno : ∀ g, pv.ownBlock = some g → ¬ Tag W g 9 := fun g hg e => absurd ((owns_tag h.row hg).one e) (by decide)
  refine ⟨⟨by rw [List.length_append, evsCells_append]; exact hown, fun x hx => ?_⟩, hc1⟩
  rcases List.mem_append.1 hx with hx | hx
  · exact (h.keys x hx).kept hc1 (fun g hg e => hno g e ((h.keys x hx).tag hg))
  · exact (hk x hx).kept hc1 (fun g hg e => hno g e ((hk x hx).tag hg))
end Go.Proofs.YtddifbimlmkcbaaGreatDoor
