/-
  DERIVED. GIVEN WITH THE SEED: THE CARDS: each row of YtahpjhnbjkjkiaaDoorRows.lean that lists a variable, with what it lists TIED to the program's text (the seventh form; the later family's looks); each row that meets fmt, with fmt's text TOLD by the authors' own Lean function (tested against real Go, not proved from fmt's source: count such statements apart). THE CARD IS WHAT COUNTS. Prove the row's statement (the work); the ties are given (YtahpjhnbjkjkiaaDoorTie.lean); close each card by the builder's one call (the guide's Derived/Test/ToyasCard.lean, 'card_holds'). Laid BY PROGRAM, IN A SANDBOX (cutbox-door.mjs). By AI agents, Wed Nov 11 2026. No macro, syntax, notation, axiom, sorry.
-/
import Derived.Test.YtahpjhnbjkjkiaaDoorRows
import GoSem.ClaimSeven
namespace Go.Proofs.YtahpjhnbjkjkiaaDoor
namespace Rows

/-- THE TIED CARD OF 'nestboxlaw30.FeedsCuts'. -/
def feedsCutsCard : Claim7 := { stood := { row := feedsCutsRow, standIns := [], harness := (true, "34bfdb5d80e9ddc53c25a02a3467f840cfb1d512f536463a5fd29da6119c2682"), looks := true }, kinds := [], alts := [], laidByText := true, laidKinds := [.data, .data, .data, .data, .sentinel, .sentinel, .pinned], laidTests := true, laidLooks := .later }
def FeedsCutsCardSaid : Prop := Claim7.holds Tryd.pinned (.plain (OpenSpec.ofChange feedsCutsSpec)) feedsCutsCard

/-- THE TIED CARD OF 'nestboxlaw30.FeedsMend'. -/
def feedsMendCard : Claim7 := { stood := { row := feedsMendRow, standIns := [], harness := (true, "34bfdb5d80e9ddc53c25a02a3467f840cfb1d512f536463a5fd29da6119c2682"), looks := true }, kinds := [], alts := [], laidByText := true, laidKinds := [.data, .data, .data, .data, .sentinel, .sentinel, .pinned], laidTests := true, laidLooks := .later }
def FeedsMendCardSaid : Prop := Claim7.holds Tryd.pinned (.plain (OpenSpec.ofChange feedsMendSpec)) feedsMendCard

/-- THE TIED CARD OF 'nestboxlaw30.FeedsBack'. -/
def feedsBackCard : Claim7 := { stood := { row := feedsBackRow, standIns := [], harness := (true, "34bfdb5d80e9ddc53c25a02a3467f840cfb1d512f536463a5fd29da6119c2682"), looks := true }, kinds := [], alts := [], laidByText := true, laidKinds := [.data, .data, .data, .data, .sentinel, .sentinel, .pinned], laidTests := true, laidLooks := .later }
def FeedsBackCardSaid : Prop := Claim7.holds Tryd.pinned (.plain (OpenSpec.ofChange feedsBackSpec)) feedsBackCard

/-- THE TIED CARD OF 'nestboxlaw40.BoundsMore'. -/
def boundsMoreCard : Claim7 := { stood := { row := boundsMoreRow, standIns := [], harness := (true, "34bfdb5d80e9ddc53c25a02a3467f840cfb1d512f536463a5fd29da6119c2682"), looks := true }, kinds := [], alts := [], laidByText := true, laidKinds := [.data, .data, .data, .data, .sentinel, .sentinel, .pinned], laidTests := true, laidLooks := .later }
def BoundsMoreCardSaid : Prop := Claim7.holds Tryd.pinned (.plain (OpenSpec.ofChange boundsMoreSpec)) boundsMoreCard

/-- THE TIED CARD OF 'nestboxlaw40.BoundsCut'. -/
def boundsCutCard : Claim7 := { stood := { row := boundsCutRow, standIns := [], harness := (true, "34bfdb5d80e9ddc53c25a02a3467f840cfb1d512f536463a5fd29da6119c2682"), looks := true }, kinds := [], alts := [], laidByText := true, laidKinds := [.data, .data, .data, .data, .sentinel, .sentinel, .pinned], laidTests := true, laidLooks := .later }
def BoundsCutCardSaid : Prop := Claim7.holds Tryd.pinned (.plain (OpenSpec.ofChange boundsCutSpec)) boundsCutCard

/-- THE SECOND FORM's CARD OF 'nestboxlaw30.FeedsCuts'. -/
def feedsCutsUptoCard : Claim7 := { stood := { row := feedsCutsUptoRow, standIns := [], harness := (true, "34bfdb5d80e9ddc53c25a02a3467f840cfb1d512f536463a5fd29da6119c2682"), looks := true }, kinds := [], alts := [], laidByText := true, laidKinds := [.data, .data, .data, .data, .sentinel, .sentinel, .pinned], laidTests := true, laidLooks := .later }
def FeedsCutsUptoCardSaid : Prop := Claim7.holds Tryd.pinned (.plain (OpenSpec.upto feedsCutsSpec)) feedsCutsUptoCard

/-- THE SECOND FORM's CARD OF 'nestboxlaw30.FeedsMend'. -/
def feedsMendUptoCard : Claim7 := { stood := { row := feedsMendUptoRow, standIns := [], harness := (true, "34bfdb5d80e9ddc53c25a02a3467f840cfb1d512f536463a5fd29da6119c2682"), looks := true }, kinds := [], alts := [], laidByText := true, laidKinds := [.data, .data, .data, .data, .sentinel, .sentinel, .pinned], laidTests := true, laidLooks := .later }
def FeedsMendUptoCardSaid : Prop := Claim7.holds Tryd.pinned (.plain (OpenSpec.upto feedsMendSpec)) feedsMendUptoCard

/-- THE SECOND FORM's CARD OF 'nestboxlaw30.FeedsBack'. -/
def feedsBackUptoCard : Claim7 := { stood := { row := feedsBackUptoRow, standIns := [], harness := (true, "34bfdb5d80e9ddc53c25a02a3467f840cfb1d512f536463a5fd29da6119c2682"), looks := true }, kinds := [], alts := [], laidByText := true, laidKinds := [.data, .data, .data, .data, .sentinel, .sentinel, .pinned], laidTests := true, laidLooks := .later }
def FeedsBackUptoCardSaid : Prop := Claim7.holds Tryd.pinned (.plain (OpenSpec.upto feedsBackSpec)) feedsBackUptoCard

/-- THE SECOND FORM's CARD OF 'nestboxlaw40.BoundsMore'. -/
def boundsMoreUptoCard : Claim7 := { stood := { row := boundsMoreUptoRow, standIns := [], harness := (true, "34bfdb5d80e9ddc53c25a02a3467f840cfb1d512f536463a5fd29da6119c2682"), looks := true }, kinds := [], alts := [], laidByText := true, laidKinds := [.data, .data, .data, .data, .sentinel, .sentinel, .pinned], laidTests := true, laidLooks := .later }
def BoundsMoreUptoCardSaid : Prop := Claim7.holds Tryd.pinned (.plain (OpenSpec.upto boundsMoreSpec)) boundsMoreUptoCard

/-- THE SECOND FORM's CARD OF 'nestboxlaw40.BoundsCut'. -/
def boundsCutUptoCard : Claim7 := { stood := { row := boundsCutUptoRow, standIns := [], harness := (true, "34bfdb5d80e9ddc53c25a02a3467f840cfb1d512f536463a5fd29da6119c2682"), looks := true }, kinds := [], alts := [], laidByText := true, laidKinds := [.data, .data, .data, .data, .sentinel, .sentinel, .pinned], laidTests := true, laidLooks := .later }
def BoundsCutUptoCardSaid : Prop := Claim7.holds Tryd.pinned (.plain (OpenSpec.upto boundsCutSpec)) boundsCutUptoCard
end Rows
end Go.Proofs.YtahpjhnbjkjkiaaDoor
