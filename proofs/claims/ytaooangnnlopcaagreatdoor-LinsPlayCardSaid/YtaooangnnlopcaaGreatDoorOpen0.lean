/- The arguments that are commands and answers. No condition. (Printed by genopen.py.) -/
import Derived.Test.YtaooangnnlopcaaGreatDoorLowI
import Derived.Test.YtaooangnnlopcaaGreatDoorTypes
namespace Go.Proofs.YtaooangnnlopcaaGreatDoor
open Go.ChangeShapes Go.WideShapes Go.ChangeAt Go.RowKit

end Go.Proofs.YtaooangnnlopcaaGreatDoor
