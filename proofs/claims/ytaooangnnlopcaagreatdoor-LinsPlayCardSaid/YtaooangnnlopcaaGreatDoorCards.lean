/-
  DERIVED. GIVEN WITH THE SEED: THE CARDS: each row of YtaooangnnlopcaaGreatDoorRows.lean that lists a variable, with what it lists TIED to the program's text (the seventh form; the later family's looks); each row that meets fmt, with fmt's text TOLD by the authors' own Lean function (tested against real Go, not proved from fmt's source: count such statements apart). THE CARD IS WHAT COUNTS. Prove the row's statement (the work); the ties are given (YtaooangnnlopcaaGreatDoorTie.lean); close each card by the builder's one call (the guide's Derived/Test/ToyasCard.lean, 'card_holds'). Laid BY PROGRAM, IN A SANDBOX (cutbox-door.mjs). By AI agents, Wed Nov 11 2026. No macro, syntax, notation, axiom, sorry.
-/
import Derived.Test.YtaooangnnlopcaaGreatDoorRows
import GoSem.ClaimSeven
namespace Go.Proofs.YtaooangnnlopcaaGreatDoor
namespace Rows

/-- THE TIED CARD OF 'nestboxlaw36.MapsPlay'. -/
def mapsPlayCard : Claim7 := { stood := { row := mapsPlayRow, standIns := [], harness := (true, "acd74ffe809f53b8a631b6f93b2f023b46978e524ab62e8ae5e4e237abc8ac37"), looks := true }, kinds := [], alts := [], laidByText := true, laidKinds := [.data, .data, .data, .sentinel, .sentinel], laidTests := true, laidLooks := .later }
def MapsPlayCardSaid : Prop := Claim7.holds Tryz.pinned (.plain (OpenSpec.ofChange mapsPlaySpec)) mapsPlayCard

/-- THE TIED CARD OF 'nestboxlaw36.MapsVoid'. -/
def mapsVoidCard : Claim7 := { stood := { row := mapsVoidRow, standIns := [], harness := (true, "acd74ffe809f53b8a631b6f93b2f023b46978e524ab62e8ae5e4e237abc8ac37"), looks := true }, kinds := [], alts := [], laidByText := true, laidKinds := [.data, .data, .data, .sentinel, .sentinel], laidTests := true, laidLooks := .later }
def MapsVoidCardSaid : Prop := Claim7.holds Tryz.pinned (.plain (OpenSpec.ofChange mapsVoidSpec)) mapsVoidCard

/-- THE TIED CARD OF 'nestboxlaw37.LinsPlay'. -/
def linsPlayCard : Claim7 := { stood := { row := linsPlayRow, standIns := [], harness := (true, "acd74ffe809f53b8a631b6f93b2f023b46978e524ab62e8ae5e4e237abc8ac37"), looks := true }, kinds := [], alts := [], laidByText := true, laidKinds := [.data, .data, .data, .sentinel, .sentinel], laidTests := true, laidLooks := .later }
def LinsPlayCardSaid : Prop := Claim7.holds Tryz.pinned (.plain (OpenSpec.ofChange linsPlaySpec)) linsPlayCard

/-- THE SECOND FORM's CARD OF 'nestboxlaw36.MapsPlay'. -/
def mapsPlayUptoCard : Claim7 := { stood := { row := mapsPlayUptoRow, standIns := [], harness := (true, "acd74ffe809f53b8a631b6f93b2f023b46978e524ab62e8ae5e4e237abc8ac37"), looks := true }, kinds := [], alts := [], laidByText := true, laidKinds := [.data, .data, .data, .sentinel, .sentinel], laidTests := true, laidLooks := .later }
def MapsPlayUptoCardSaid : Prop := Claim7.holds Tryz.pinned (.plain (OpenSpec.upto mapsPlaySpec)) mapsPlayUptoCard

/-- THE SECOND FORM's CARD OF 'nestboxlaw36.MapsVoid'. -/
def mapsVoidUptoCard : Claim7 := { stood := { row := mapsVoidUptoRow, standIns := [], harness := (true, "acd74ffe809f53b8a631b6f93b2f023b46978e524ab62e8ae5e4e237abc8ac37"), looks := true }, kinds := [], alts := [], laidByText := true, laidKinds := [.data, .data, .data, .sentinel, .sentinel], laidTests := true, laidLooks := .later }
def MapsVoidUptoCardSaid : Prop := Claim7.holds Tryz.pinned (.plain (OpenSpec.upto mapsVoidSpec)) mapsVoidUptoCard

/-- THE SECOND FORM's CARD OF 'nestboxlaw37.LinsPlay'. -/
def linsPlayUptoCard : Claim7 := { stood := { row := linsPlayUptoRow, standIns := [], harness := (true, "acd74ffe809f53b8a631b6f93b2f023b46978e524ab62e8ae5e4e237abc8ac37"), looks := true }, kinds := [], alts := [], laidByText := true, laidKinds := [.data, .data, .data, .sentinel, .sentinel], laidTests := true, laidLooks := .later }
def LinsPlayUptoCardSaid : Prop := Claim7.holds Tryz.pinned (.plain (OpenSpec.upto linsPlaySpec)) linsPlayUptoCard
end Rows
end Go.Proofs.YtaooangnnlopcaaGreatDoor
