/-
  DERIVED. GIVEN WITH THE SEED: THE CARDS: each row of YtnkkoicbnbjlnaaGreatDoorRows.lean that lists a variable, with what it lists TIED to the program's text (the seventh form; the later family's looks); each row that meets fmt, with fmt's text TOLD by the authors' own Lean function (tested against real Go, not proved from fmt's source: count such statements apart). THE CARD IS WHAT COUNTS. Prove the row's statement (the work); the ties are given (YtnkkoicbnbjlnaaGreatDoorTie.lean); close each card by the builder's one call (the guide's Derived/Test/ToyasCard.lean, 'card_holds'). Laid BY PROGRAM, IN A SANDBOX (cutbox-door.mjs). By AI agents, Wed Nov 11 2026. No macro, syntax, notation, axiom, sorry.
-/
import Derived.Test.YtnkkoicbnbjlnaaGreatDoorRows
import GoSem.ClaimSeven
namespace Go.Proofs.YtnkkoicbnbjlnaaGreatDoor
namespace Rows

/-- THE TIED CARD OF 'nestboxlaw39.RunsRow'. -/
def runsRowCard : Claim7 := { stood := { row := runsRowRow, standIns := [], harness := (true, "f67d3603c9b8b02947b75f27b5157b0ff3e7aed6f9fb394e9f235ca244fa2509"), looks := true }, kinds := [], alts := [], laidByText := true, laidKinds := [.data, .data, .data, .data, .sentinel, .sentinel, .pinned], laidTests := true, laidLooks := .later }
def RunsRowCardSaid : Prop := Claim7.holds Tryz.pinned (.plain (OpenSpec.ofChange runsRowSpec)) runsRowCard

/-- THE SECOND FORM's CARD OF 'nestboxlaw39.RunsRow'. -/
def runsRowUptoCard : Claim7 := { stood := { row := runsRowUptoRow, standIns := [], harness := (true, "f67d3603c9b8b02947b75f27b5157b0ff3e7aed6f9fb394e9f235ca244fa2509"), looks := true }, kinds := [], alts := [], laidByText := true, laidKinds := [.data, .data, .data, .data, .sentinel, .sentinel, .pinned], laidTests := true, laidLooks := .later }
def RunsRowUptoCardSaid : Prop := Claim7.holds Tryz.pinned (.plain (OpenSpec.upto runsRowSpec)) runsRowUptoCard
end Rows
end Go.Proofs.YtnkkoicbnbjlnaaGreatDoor
