/- Plain: the chapter's example, call by call. No program in sight. -/
import Derived.Test.YtaooangnnlopcaaGreatDoorMapsDo
namespace Go.Proofs.YtaooangnnlopcaaGreatDoor
open Go.RowKit
end Go.Proofs.YtaooangnnlopcaaGreatDoor
