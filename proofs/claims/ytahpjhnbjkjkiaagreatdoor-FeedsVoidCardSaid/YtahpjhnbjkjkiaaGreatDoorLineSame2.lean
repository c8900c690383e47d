/- The laws' Other and Same. No condition. -/
import Derived.Test.YtahpjhnbjkjkiaaGreatDoorLineSame
namespace Go.Proofs.YtahpjhnbjkjkiaaGreatDoor
open Go.RowKit Go.ChangeMaps Go.MapKept

theorem undrewB {w w' : World} (h : Below w.drew.heap.size w.drew w') : Below w.heap.size w w' := ⟨h.os, h.tape, h.output, h.size, h.block⟩
end Go.Proofs.YtahpjhnbjkjkiaaGreatDoor
