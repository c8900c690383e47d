/- What the reference's Value answers. Condition: the item's texts are of at most 1048576 bytes together. -/
import Derived.Test.YtddifbimlmkcbaaGreatDoorTellsValue0
namespace Go.Proofs.YtddifbimlmkcbaaGreatDoor
open Go.RowKit

end Go.Proofs.YtddifbimlmkcbaaGreatDoor
