/-
  DERIVED. GIVEN WITH THE SEED: THE CARDS: each row of YtddifbimlmkcbaaGreatDoorRows.lean that lists a variable, with what it lists TIED to the program's text (the seventh form; the later family's looks); each row that meets fmt, with fmt's text TOLD by the authors' own Lean function (tested against real Go, not proved from fmt's source: count such statements apart). THE CARD IS WHAT COUNTS. Prove the row's statement (the work); the ties are given (YtddifbimlmkcbaaGreatDoorTie.lean); close each card by the builder's one call (the guide's Derived/Test/ToyasCard.lean, 'card_holds'). Laid BY PROGRAM, IN A SANDBOX (cutbox-door.mjs). By AI agents, Wed Nov 11 2026. No macro, syntax, notation, axiom, sorry.
-/
import Derived.Test.YtddifbimlmkcbaaGreatDoorRows
import GoSem.ClaimSeven
namespace Go.Proofs.YtddifbimlmkcbaaGreatDoor
namespace Rows

/-- THE TIED CARD OF 'nestboxlaw32.ConnsOrder'. -/
def connsOrderCard : Claim7 := { stood := { row := connsOrderRow, standIns := [], harness := (true, "5440ab322229dc10a7bc30b5bba145ace3071ca1686b8d8be6677401f2c52cad"), looks := true }, kinds := [], alts := [], laidByText := true, laidKinds := [.data, .data, .data, .data, .sentinel, .sentinel, .pinned], laidTests := true, laidLooks := .later }
def ConnsOrderCardSaid : Prop := Claim7.holds Tryz.pinned (.plain (OpenSpec.ofChange connsOrderSpec)) connsOrderCard

/-- THE TIED CARD OF 'nestboxlaw32.ConnsPlay'. -/
def connsPlayCard : Claim7 := { stood := { row := connsPlayRow, standIns := [], harness := (true, "5440ab322229dc10a7bc30b5bba145ace3071ca1686b8d8be6677401f2c52cad"), looks := true }, kinds := [], alts := [], laidByText := true, laidKinds := [.data, .data, .data, .data, .sentinel, .sentinel, .pinned], laidTests := true, laidLooks := .later }
def ConnsPlayCardSaid : Prop := Claim7.holds Tryz.pinned (.plain (OpenSpec.ofChange connsPlaySpec)) connsPlayCard

/-- THE TIED CARD OF 'nestboxlaw32.ConnsVoid'. -/
def connsVoidCard : Claim7 := { stood := { row := connsVoidRow, standIns := [], harness := (true, "5440ab322229dc10a7bc30b5bba145ace3071ca1686b8d8be6677401f2c52cad"), looks := true }, kinds := [], alts := [], laidByText := true, laidKinds := [.data, .data, .data, .data, .sentinel, .sentinel, .pinned], laidTests := true, laidLooks := .later }
def ConnsVoidCardSaid : Prop := Claim7.holds Tryz.pinned (.plain (OpenSpec.ofChange connsVoidSpec)) connsVoidCard

/-- THE TIED CARD OF 'nestboxlaw32.ConnsCuts'. -/
def connsCutsCard : Claim7 := { stood := { row := connsCutsRow, standIns := [], harness := (true, "5440ab322229dc10a7bc30b5bba145ace3071ca1686b8d8be6677401f2c52cad"), looks := true }, kinds := [], alts := [], laidByText := true, laidKinds := [.data, .data, .data, .data, .sentinel, .sentinel, .pinned], laidTests := true, laidLooks := .later }
def ConnsCutsCardSaid : Prop := Claim7.holds Tryz.pinned (.plain (OpenSpec.ofChange connsCutsSpec)) connsCutsCard

/-- THE TIED CARD OF 'nestboxlaw32.ConnsStays'. -/
def connsStaysCard : Claim7 := { stood := { row := connsStaysRow, standIns := [], harness := (true, "5440ab322229dc10a7bc30b5bba145ace3071ca1686b8d8be6677401f2c52cad"), looks := true }, kinds := [], alts := [], laidByText := true, laidKinds := [.data, .data, .data, .data, .sentinel, .sentinel, .pinned], laidTests := true, laidLooks := .later }
def ConnsStaysCardSaid : Prop := Claim7.holds Tryz.pinned (.plain (OpenSpec.ofChange connsStaysSpec)) connsStaysCard

/-- THE SECOND FORM's CARD OF 'nestboxlaw32.ConnsOrder'. -/
def connsOrderUptoCard : Claim7 := { stood := { row := connsOrderUptoRow, standIns := [], harness := (true, "5440ab322229dc10a7bc30b5bba145ace3071ca1686b8d8be6677401f2c52cad"), looks := true }, kinds := [], alts := [], laidByText := true, laidKinds := [.data, .data, .data, .data, .sentinel, .sentinel, .pinned], laidTests := true, laidLooks := .later }
def ConnsOrderUptoCardSaid : Prop := Claim7.holds Tryz.pinned (.plain (OpenSpec.upto connsOrderSpec)) connsOrderUptoCard

/-- THE SECOND FORM's CARD OF 'nestboxlaw32.ConnsPlay'. -/
def connsPlayUptoCard : Claim7 := { stood := { row := connsPlayUptoRow, standIns := [], harness := (true, "5440ab322229dc10a7bc30b5bba145ace3071ca1686b8d8be6677401f2c52cad"), looks := true }, kinds := [], alts := [], laidByText := true, laidKinds := [.data, .data, .data, .data, .sentinel, .sentinel, .pinned], laidTests := true, laidLooks := .later }
def ConnsPlayUptoCardSaid : Prop := Claim7.holds Tryz.pinned (.plain (OpenSpec.upto connsPlaySpec)) connsPlayUptoCard

/-- THE SECOND FORM's CARD OF 'nestboxlaw32.ConnsVoid'. -/
def connsVoidUptoCard : Claim7 := { stood := { row := connsVoidUptoRow, standIns := [], harness := (true, "5440ab322229dc10a7bc30b5bba145ace3071ca1686b8d8be6677401f2c52cad"), looks := true }, kinds := [], alts := [], laidByText := true, laidKinds := [.data, .data, .data, .data, .sentinel, .sentinel, .pinned], laidTests := true, laidLooks := .later }
def ConnsVoidUptoCardSaid : Prop := Claim7.holds Tryz.pinned (.plain (OpenSpec.upto connsVoidSpec)) connsVoidUptoCard

/-- THE SECOND FORM's CARD OF 'nestboxlaw32.ConnsCuts'. -/
def connsCutsUptoCard : Claim7 := { stood := { row := connsCutsUptoRow, standIns := [], harness := (true, "5440ab322229dc10a7bc30b5bba145ace3071ca1686b8d8be6677401f2c52cad"), looks := true }, kinds := [], alts := [], laidByText := true, laidKinds := [.data, .data, .data, .data, .sentinel, .sentinel, .pinned], laidTests := true, laidLooks := .later }
def ConnsCutsUptoCardSaid : Prop := Claim7.holds Tryz.pinned (.plain (OpenSpec.upto connsCutsSpec)) connsCutsUptoCard

/-- THE SECOND FORM's CARD OF 'nestboxlaw32.ConnsStays'. -/
def connsStaysUptoCard : Claim7 := { stood := { row := connsStaysUptoRow, standIns := [], harness := (true, "5440ab322229dc10a7bc30b5bba145ace3071ca1686b8d8be6677401f2c52cad"), looks := true }, kinds := [], alts := [], laidByText := true, laidKinds := [.data, .data, .data, .data, .sentinel, .sentinel, .pinned], laidTests := true, laidLooks := .later }
def ConnsStaysUptoCardSaid : Prop := Claim7.holds Tryz.pinned (.plain (OpenSpec.upto connsStaysSpec)) connsStaysUptoCard
end Rows
end Go.Proofs.YtddifbimlmkcbaaGreatDoor
