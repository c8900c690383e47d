/- The reference's Parse, ParseSigned, Parse32, at any text. No condition. And what goes with it (3 texts). -/
import Derived.Test.YtnkkoicbnbjlnaaGreatDoorLowB
import Derived.Test.YtnkkoicbnbjlnaaGreatDoorLpA
namespace Go.Proofs.YtnkkoicbnbjlnaaGreatDoor
set_option maxRecDepth 100000
set_option maxHeartbeats 8000000
open Go.RowKit
open Go.RowKit Go.ChangeMaps Go.MapKept
end Go.Proofs.YtnkkoicbnbjlnaaGreatDoor
