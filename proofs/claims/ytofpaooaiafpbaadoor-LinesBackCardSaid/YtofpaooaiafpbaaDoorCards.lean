/-
  DERIVED. GIVEN WITH THE SEED: THE CARDS: each row of YtofpaooaiafpbaaDoorRows.lean that lists a variable, with what it lists TIED to the program's text (the seventh form; the later family's looks); each row that meets fmt, with fmt's text TOLD by the authors' own Lean function (tested against real Go, not proved from fmt's source: count such statements apart). THE CARD IS WHAT COUNTS. Prove the row's statement (the work); the ties are given (YtofpaooaiafpbaaDoorTie.lean); close each card by the builder's one call (the guide's Derived/Test/ToyasCard.lean, 'card_holds'). Laid BY PROGRAM, IN A SANDBOX (cutbox-door.mjs). By AI agents, Wed Nov 11 2026. No macro, syntax, notation, axiom, sorry.
-/
import Derived.Test.YtofpaooaiafpbaaDoorRows
import GoSem.ClaimSeven
namespace Go.Proofs.YtofpaooaiafpbaaDoor
namespace Rows

/-- THE TIED CARD OF 'nestboxlaw29.LinesBack'. -/
def linesBackCard : Claim7 := { stood := { row := linesBackRow, standIns := [], harness := (true, "042ecbf6fee292103c05f8658b3a9713eb9f0904ba54799ac749e8f9f1885d1d"), looks := true }, kinds := [], alts := [], laidByText := true, laidKinds := [.data, .data, .data, .data, .sentinel, .sentinel, .pinned], laidTests := true, laidLooks := .later }
def LinesBackCardSaid : Prop := Claim7.holds Tryd.pinned (.plain (OpenSpec.ofChange linesBackSpec)) linesBackCard

/-- THE TIED CARD OF 'nestboxlaw29.LinesBlanks'. -/
def linesBlanksCard : Claim7 := { stood := { row := linesBlanksRow, standIns := [], harness := (true, "042ecbf6fee292103c05f8658b3a9713eb9f0904ba54799ac749e8f9f1885d1d"), looks := true }, kinds := [], alts := [], laidByText := true, laidKinds := [.data, .data, .data, .data, .sentinel, .sentinel, .pinned], laidTests := true, laidLooks := .later }
def LinesBlanksCardSaid : Prop := Claim7.holds Tryd.pinned (.plain (OpenSpec.ofChange linesBlanksSpec)) linesBlanksCard

/-- THE SECOND FORM's CARD OF 'nestboxlaw29.LinesBack'. -/
def linesBackUptoCard : Claim7 := { stood := { row := linesBackUptoRow, standIns := [], harness := (true, "042ecbf6fee292103c05f8658b3a9713eb9f0904ba54799ac749e8f9f1885d1d"), looks := true }, kinds := [], alts := [], laidByText := true, laidKinds := [.data, .data, .data, .data, .sentinel, .sentinel, .pinned], laidTests := true, laidLooks := .later }
def LinesBackUptoCardSaid : Prop := Claim7.holds Tryd.pinned (.plain (OpenSpec.upto linesBackSpec)) linesBackUptoCard

/-- THE SECOND FORM's CARD OF 'nestboxlaw29.LinesBlanks'. -/
def linesBlanksUptoCard : Claim7 := { stood := { row := linesBlanksUptoRow, standIns := [], harness := (true, "042ecbf6fee292103c05f8658b3a9713eb9f0904ba54799ac749e8f9f1885d1d"), looks := true }, kinds := [], alts := [], laidByText := true, laidKinds := [.data, .data, .data, .data, .sentinel, .sentinel, .pinned], laidTests := true, laidLooks := .later }
def LinesBlanksUptoCardSaid : Prop := Claim7.holds Tryd.pinned (.plain (OpenSpec.upto linesBlanksSpec)) linesBlanksUptoCard
end Rows
end Go.Proofs.YtofpaooaiafpbaaDoor
