/- The reference's Parse, ParseSigned, Parse32, at any text. No condition. The reference's small functions on lines: names, verb, rest, gets, bare, bounds; and how it reads a word into a command. No condition. The reference's Parse of a line. Condition: a line of at most 2^20 bytes. -/
import Derived.Test.YtfajddlijgpgoaaGreatDoorLowB
import Derived.Test.YtfajddlijgpgoaaGreatDoorLpA
namespace Go.Proofs.YtfajddlijgpgoaaGreatDoor
open Go.RowKit

open Go.RowKit Go.ChangeMaps Go.MapKept


end Go.Proofs.YtfajddlijgpgoaaGreatDoor
