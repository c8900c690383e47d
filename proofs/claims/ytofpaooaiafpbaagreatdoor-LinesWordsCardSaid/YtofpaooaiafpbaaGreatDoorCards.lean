/-
  DERIVED. GIVEN WITH THE SEED: THE CARDS: each row of YtofpaooaiafpbaaGreatDoorRows.lean that lists a variable, with what it lists TIED to the program's text (the seventh form; the later family's looks); each row that meets fmt, with fmt's text TOLD by the authors' own Lean function (tested against real Go, not proved from fmt's source: count such statements apart). THE CARD IS WHAT COUNTS. Prove the row's statement (the work); the ties are given (YtofpaooaiafpbaaGreatDoorTie.lean); close each card by the builder's one call (the guide's Derived/Test/ToyasCard.lean, 'card_holds'). Laid BY PROGRAM, IN A SANDBOX (cutbox-door.mjs). By AI agents, Wed Nov 11 2026. No macro, syntax, notation, axiom, sorry.
-/
import Derived.Test.YtofpaooaiafpbaaGreatDoorRows
import GoSem.ClaimSeven
namespace Go.Proofs.YtofpaooaiafpbaaGreatDoor
namespace Rows

/-- THE TIED CARD OF 'nestboxlaw29.LinesParse'. -/
def linesParseCard : Claim7 := { stood := { row := linesParseRow, standIns := [], harness := (true, "b8aafa8c9ec32fbe69b5dfdc629aa5b7ad898ff97f2e75fad74788454f51109b"), looks := true }, kinds := [], alts := [], laidByText := true, laidKinds := [.data, .data, .data, .data, .sentinel, .sentinel, .pinned], laidTests := true, laidLooks := .later }
def LinesParseCardSaid : Prop := Claim7.holds Tryz.pinned (.plain (OpenSpec.ofChange linesParseSpec)) linesParseCard

/-- THE TIED CARD OF 'nestboxlaw29.LinesLine'. -/
def linesLineCard : Claim7 := { stood := { row := linesLineRow, standIns := [], harness := (true, "b8aafa8c9ec32fbe69b5dfdc629aa5b7ad898ff97f2e75fad74788454f51109b"), looks := true }, kinds := [], alts := [], laidByText := true, laidKinds := [.data, .data, .data, .data, .sentinel, .sentinel, .pinned], laidTests := true, laidLooks := .later }
def LinesLineCardSaid : Prop := Claim7.holds Tryz.pinned (.plain (OpenSpec.ofChange linesLineSpec)) linesLineCard

/-- THE TIED CARD OF 'nestboxlaw29.LinesWords'. -/
def linesWordsCard : Claim7 := { stood := { row := linesWordsRow, standIns := [], harness := (true, "b8aafa8c9ec32fbe69b5dfdc629aa5b7ad898ff97f2e75fad74788454f51109b"), looks := true }, kinds := [], alts := [], laidByText := true, laidKinds := [.data, .data, .data, .data, .sentinel, .sentinel, .pinned, .pinned], laidTests := true, laidLooks := .later }
def LinesWordsCardSaid : Prop := Claim7.holds Tryz.pinned (.plain (OpenSpec.ofChange linesWordsSpec)) linesWordsCard

/-- THE SECOND FORM's CARD OF 'nestboxlaw29.LinesParse'. -/
def linesParseUptoCard : Claim7 := { stood := { row := linesParseUptoRow, standIns := [], harness := (true, "b8aafa8c9ec32fbe69b5dfdc629aa5b7ad898ff97f2e75fad74788454f51109b"), looks := true }, kinds := [], alts := [], laidByText := true, laidKinds := [.data, .data, .data, .data, .sentinel, .sentinel, .pinned], laidTests := true, laidLooks := .later }
def LinesParseUptoCardSaid : Prop := Claim7.holds Tryz.pinned (.plain (OpenSpec.upto linesParseSpec)) linesParseUptoCard

/-- THE SECOND FORM's CARD OF 'nestboxlaw29.LinesLine'. -/
def linesLineUptoCard : Claim7 := { stood := { row := linesLineUptoRow, standIns := [], harness := (true, "b8aafa8c9ec32fbe69b5dfdc629aa5b7ad898ff97f2e75fad74788454f51109b"), looks := true }, kinds := [], alts := [], laidByText := true, laidKinds := [.data, .data, .data, .data, .sentinel, .sentinel, .pinned], laidTests := true, laidLooks := .later }
def LinesLineUptoCardSaid : Prop := Claim7.holds Tryz.pinned (.plain (OpenSpec.upto linesLineSpec)) linesLineUptoCard

/-- THE SECOND FORM's CARD OF 'nestboxlaw29.LinesWords'. -/
def linesWordsUptoCard : Claim7 := { stood := { row := linesWordsUptoRow, standIns := [], harness := (true, "b8aafa8c9ec32fbe69b5dfdc629aa5b7ad898ff97f2e75fad74788454f51109b"), looks := true }, kinds := [], alts := [], laidByText := true, laidKinds := [.data, .data, .data, .data, .sentinel, .sentinel, .pinned, .pinned], laidTests := true, laidLooks := .later }
def LinesWordsUptoCardSaid : Prop := Claim7.holds Tryz.pinned (.plain (OpenSpec.upto linesWordsSpec)) linesWordsUptoCard
end Rows
end Go.Proofs.YtofpaooaiafpbaaGreatDoor
