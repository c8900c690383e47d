/- The chapter's examples of layer 3 hold: 'lives' answers true. Condition: MaxLen holds a number. -/
import Derived.Test.YtahpjhnbjkjkiaaGreatDoorKeys
import Derived.Test.YtahpjhnbjkjkiaaGreatDoorWordsWalk
namespace Go.Proofs.YtahpjhnbjkjkiaaGreatDoor
open Go.RowKit

theorem look_at (l : List UInt8) (f p : Nat) (w : World) (h : look l = (f, p)) (hs : l.length ≤ maxLen) :
    Calls Tryz.prog 141 #[sv l] w fun e w' => e = .returned (.tuple #[.int .u8 f, .int .i64 p]) ∧ w = w' := by
  have := look_any ⟨l.toArray⟩ w (by simpa [ByteArray.size] using hs)
  rw [show bs ⟨l.toArray⟩ = l from rfl, h] at this
  exact this

theorem ok_at (l : List UInt8) (b : Bool) (w : World) (h : okB l = b) (hs : l.length ≤ maxLen) :
    Calls Tryz.prog 137 #[sv l] w fun e w' => e = .returned (.bool b) ∧ w = w' := by
  have := ok_any ⟨l.toArray⟩ w (by simpa [ByteArray.size] using hs)
  rw [show bs ⟨l.toArray⟩ = l from rfl, h] at this
  exact this

end Go.Proofs.YtahpjhnbjkjkiaaGreatDoor
