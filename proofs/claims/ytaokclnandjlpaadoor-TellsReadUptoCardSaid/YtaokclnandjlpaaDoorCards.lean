/-
  DERIVED. GIVEN WITH THE SEED: THE CARDS: each row of YtaokclnandjlpaaDoorRows.lean that lists a variable, with what it lists TIED to the program's text (the seventh form; the later family's looks); each row that meets fmt, with fmt's text TOLD by the authors' own Lean function (tested against real Go, not proved from fmt's source: count such statements apart). THE CARD IS WHAT COUNTS. Prove the row's statement (the work); the ties are given (YtaokclnandjlpaaDoorTie.lean); close each card by the builder's one call (the guide's Derived/Test/ToyasCard.lean, 'card_holds'). Laid BY PROGRAM, IN A SANDBOX (cutbox-door.mjs). By AI agents, Wed Nov 11 2026. No macro, syntax, notation, axiom, sorry.
-/
import Derived.Test.YtaokclnandjlpaaDoorRows
import GoSem.ClaimSeven
namespace Go.Proofs.YtaokclnandjlpaaDoor
namespace Rows

/-- THE TIED CARD OF 'nestboxlaw31.TellsValue'. -/
def tellsValueCard : Claim7 := { stood := { row := tellsValueRow, standIns := [], harness := (true, "eb7f9705310de1e9ebc0d18bf8577d25f4ae76bbea407aba1c1c4a9b9f867cc8"), looks := true }, kinds := [], alts := [], laidByText := true, laidKinds := [.data, .data, .data], laidTests := true, laidLooks := .later }
def TellsValueCardSaid : Prop := Claim7.holds Tryd.pinned (.plain (OpenSpec.ofChange tellsValueSpec)) tellsValueCard

/-- THE TIED CARD OF 'nestboxlaw31.TellsLine'. -/
def tellsLineCard : Claim7 := { stood := { row := tellsLineRow, standIns := [], harness := (true, "eb7f9705310de1e9ebc0d18bf8577d25f4ae76bbea407aba1c1c4a9b9f867cc8"), looks := true }, kinds := [], alts := [], laidByText := true, laidKinds := [.data, .data, .data], laidTests := true, laidLooks := .later }
def TellsLineCardSaid : Prop := Claim7.holds Tryd.pinned (.plain (OpenSpec.ofChange tellsLineSpec)) tellsLineCard

/-- THE TIED CARD OF 'nestboxlaw03.KeysWords'. -/
def keysWordsCard : Claim7 := { stood := { row := keysWordsRow, standIns := [], harness := (true, "eb7f9705310de1e9ebc0d18bf8577d25f4ae76bbea407aba1c1c4a9b9f867cc8"), looks := true }, kinds := [], alts := [], laidByText := true, laidKinds := [.data, .pinned], laidTests := true, laidLooks := .later }
def KeysWordsCardSaid : Prop := Claim7.holds Tryd.pinned (.plain (OpenSpec.ofChange keysWordsSpec)) keysWordsCard

/-- THE TIED CARD OF 'nestboxlaw03.KeysByte'. -/
def keysByteCard : Claim7 := { stood := { row := keysByteRow, standIns := [], harness := (true, "eb7f9705310de1e9ebc0d18bf8577d25f4ae76bbea407aba1c1c4a9b9f867cc8"), looks := true }, kinds := [], alts := [], laidByText := true, laidKinds := [.data, .pinned], laidTests := true, laidLooks := .later }
def KeysByteCardSaid : Prop := Claim7.holds Tryd.pinned (.plain (OpenSpec.ofChange keysByteSpec)) keysByteCard

/-- THE TIED CARD OF 'nestboxlaw03.KeysLook'. -/
def keysLookCard : Claim7 := { stood := { row := keysLookRow, standIns := [], harness := (true, "eb7f9705310de1e9ebc0d18bf8577d25f4ae76bbea407aba1c1c4a9b9f867cc8"), looks := true }, kinds := [], alts := [], laidByText := true, laidKinds := [.data, .pinned], laidTests := true, laidLooks := .later }
def KeysLookCardSaid : Prop := Claim7.holds Tryd.pinned (.plain (OpenSpec.ofChange keysLookSpec)) keysLookCard

/-- THE TIED CARD OF 'nestboxlaw03.KeysOne'. -/
def keysOneCard : Claim7 := { stood := { row := keysOneRow, standIns := [], harness := (true, "eb7f9705310de1e9ebc0d18bf8577d25f4ae76bbea407aba1c1c4a9b9f867cc8"), looks := true }, kinds := [], alts := [], laidByText := true, laidKinds := [.data, .pinned], laidTests := true, laidLooks := .later }
def KeysOneCardSaid : Prop := Claim7.holds Tryd.pinned (.plain (OpenSpec.ofChange keysOneSpec)) keysOneCard

/-- THE TIED CARD OF 'nestboxlaw31.TellsUnlike'. -/
def tellsUnlikeCard : Claim7 := { stood := { row := tellsUnlikeRow, standIns := [], harness := (true, "eb7f9705310de1e9ebc0d18bf8577d25f4ae76bbea407aba1c1c4a9b9f867cc8"), looks := true }, kinds := [], alts := [], laidByText := true, laidKinds := [.data, .data, .data], laidTests := true, laidLooks := .later }
def TellsUnlikeCardSaid : Prop := Claim7.holds Tryd.pinned (.plain (OpenSpec.ofChange tellsUnlikeSpec)) tellsUnlikeCard

/-- THE TIED CARD OF 'nestboxlaw03.KeysJoin'. -/
def keysJoinCard : Claim7 := { stood := { row := keysJoinRow, standIns := [], harness := (true, "eb7f9705310de1e9ebc0d18bf8577d25f4ae76bbea407aba1c1c4a9b9f867cc8"), looks := true }, kinds := [], alts := [], laidByText := true, laidKinds := [.data, .pinned], laidTests := true, laidLooks := .later }
def KeysJoinCardSaid : Prop := Claim7.holds Tryd.pinned (.plain (OpenSpec.ofChange keysJoinSpec)) keysJoinCard

/-- THE TIED CARD OF 'nestboxlaw04.NumsParse'. -/
def numsParseCard : Claim7 := { stood := { row := numsParseRow, standIns := [], harness := (true, "eb7f9705310de1e9ebc0d18bf8577d25f4ae76bbea407aba1c1c4a9b9f867cc8"), looks := true }, kinds := [], alts := [], laidByText := true, laidKinds := [.data, .data, .data, .sentinel, .sentinel], laidTests := true, laidLooks := .later }
def NumsParseCardSaid : Prop := Claim7.holds Tryd.pinned (.plain (OpenSpec.ofChange numsParseSpec)) numsParseCard

/-- THE TIED CARD OF 'nestboxlaw04.NumsSteps'. -/
def numsStepsCard : Claim7 := { stood := { row := numsStepsRow, standIns := [], harness := (true, "eb7f9705310de1e9ebc0d18bf8577d25f4ae76bbea407aba1c1c4a9b9f867cc8"), looks := true }, kinds := [], alts := [], laidByText := true, laidKinds := [.data, .data, .data, .sentinel, .sentinel], laidTests := true, laidLooks := .later }
def NumsStepsCardSaid : Prop := Claim7.holds Tryd.pinned (.plain (OpenSpec.ofChange numsStepsSpec)) numsStepsCard

/-- THE TIED CARD OF 'nestboxlaw04.NumsCount'. -/
def numsCountCard : Claim7 := { stood := { row := numsCountRow, standIns := [], harness := (true, "eb7f9705310de1e9ebc0d18bf8577d25f4ae76bbea407aba1c1c4a9b9f867cc8"), looks := true }, kinds := [], alts := [], laidByText := true, laidKinds := [.data, .data, .data, .sentinel, .sentinel], laidTests := true, laidLooks := .later }
def NumsCountCardSaid : Prop := Claim7.holds Tryd.pinned (.plain (OpenSpec.ofChange numsCountSpec)) numsCountCard

/-- THE TIED CARD OF 'nestboxlaw04.NumsBack'. -/
def numsBackCard : Claim7 := { stood := { row := numsBackRow, standIns := [], harness := (true, "eb7f9705310de1e9ebc0d18bf8577d25f4ae76bbea407aba1c1c4a9b9f867cc8"), looks := true }, kinds := [], alts := [], laidByText := true, laidKinds := [.data, .data, .data, .sentinel, .sentinel], laidTests := true, laidLooks := .later }
def NumsBackCardSaid : Prop := Claim7.holds Tryd.pinned (.plain (OpenSpec.ofChange numsBackSpec)) numsBackCard

/-- THE TIED CARD OF 'nestboxlaw04.NumsOrder'. -/
def numsOrderCard : Claim7 := { stood := { row := numsOrderRow, standIns := [], harness := (true, "eb7f9705310de1e9ebc0d18bf8577d25f4ae76bbea407aba1c1c4a9b9f867cc8"), looks := true }, kinds := [], alts := [], laidByText := true, laidKinds := [.data, .data, .data, .sentinel, .sentinel], laidTests := true, laidLooks := .later }
def NumsOrderCardSaid : Prop := Claim7.holds Tryd.pinned (.plain (OpenSpec.ofChange numsOrderSpec)) numsOrderCard

/-- THE TIED CARD OF 'nestboxlaw04.NumsByte'. -/
def numsByteCard : Claim7 := { stood := { row := numsByteRow, standIns := [], harness := (true, "eb7f9705310de1e9ebc0d18bf8577d25f4ae76bbea407aba1c1c4a9b9f867cc8"), looks := true }, kinds := [], alts := [], laidByText := true, laidKinds := [.data, .data, .data, .sentinel, .sentinel], laidTests := true, laidLooks := .later }
def NumsByteCardSaid : Prop := Claim7.holds Tryd.pinned (.plain (OpenSpec.ofChange numsByteSpec)) numsByteCard

/-- THE TIED CARD OF 'nestboxlaw31.TellsNumber'. -/
def tellsNumberCard : Claim7 := { stood := { row := tellsNumberRow, standIns := [], harness := (true, "eb7f9705310de1e9ebc0d18bf8577d25f4ae76bbea407aba1c1c4a9b9f867cc8"), looks := true }, kinds := [], alts := [], laidByText := true, laidKinds := [.data, .data, .data, .sentinel, .sentinel], laidTests := true, laidLooks := .later }
def TellsNumberCardSaid : Prop := Claim7.holds Tryd.pinned (.plain (OpenSpec.ofChange tellsNumberSpec)) tellsNumberCard

/-- THE TIED CARD OF 'nestboxlaw31.TellsRead'. -/
def tellsReadCard : Claim7 := { stood := { row := tellsReadRow, standIns := [], harness := (true, "eb7f9705310de1e9ebc0d18bf8577d25f4ae76bbea407aba1c1c4a9b9f867cc8"), looks := true }, kinds := [], alts := [], laidByText := true, laidKinds := [.data, .data, .data, .data, .sentinel, .sentinel, .pinned], laidTests := true, laidLooks := .later }
def TellsReadCardSaid : Prop := Claim7.holds Tryd.pinned (.plain (OpenSpec.ofChange tellsReadSpec)) tellsReadCard

/-- THE SECOND FORM's CARD OF 'nestboxlaw31.TellsValue'. -/
def tellsValueUptoCard : Claim7 := { stood := { row := tellsValueUptoRow, standIns := [], harness := (true, "eb7f9705310de1e9ebc0d18bf8577d25f4ae76bbea407aba1c1c4a9b9f867cc8"), looks := true }, kinds := [], alts := [], laidByText := true, laidKinds := [.data, .data, .data], laidTests := true, laidLooks := .later }
def TellsValueUptoCardSaid : Prop := Claim7.holds Tryd.pinned (.plain (OpenSpec.upto tellsValueSpec)) tellsValueUptoCard

/-- THE SECOND FORM's CARD OF 'nestboxlaw31.TellsLine'. -/
def tellsLineUptoCard : Claim7 := { stood := { row := tellsLineUptoRow, standIns := [], harness := (true, "eb7f9705310de1e9ebc0d18bf8577d25f4ae76bbea407aba1c1c4a9b9f867cc8"), looks := true }, kinds := [], alts := [], laidByText := true, laidKinds := [.data, .data, .data], laidTests := true, laidLooks := .later }
def TellsLineUptoCardSaid : Prop := Claim7.holds Tryd.pinned (.plain (OpenSpec.upto tellsLineSpec)) tellsLineUptoCard

/-- THE SECOND FORM's CARD OF 'nestboxlaw03.KeysWords'. -/
def keysWordsUptoCard : Claim7 := { stood := { row := keysWordsUptoRow, standIns := [], harness := (true, "eb7f9705310de1e9ebc0d18bf8577d25f4ae76bbea407aba1c1c4a9b9f867cc8"), looks := true }, kinds := [], alts := [], laidByText := true, laidKinds := [.data, .pinned], laidTests := true, laidLooks := .later }
def KeysWordsUptoCardSaid : Prop := Claim7.holds Tryd.pinned (.plain (OpenSpec.upto keysWordsSpec)) keysWordsUptoCard

/-- THE SECOND FORM's CARD OF 'nestboxlaw03.KeysByte'. -/
def keysByteUptoCard : Claim7 := { stood := { row := keysByteUptoRow, standIns := [], harness := (true, "eb7f9705310de1e9ebc0d18bf8577d25f4ae76bbea407aba1c1c4a9b9f867cc8"), looks := true }, kinds := [], alts := [], laidByText := true, laidKinds := [.data, .pinned], laidTests := true, laidLooks := .later }
def KeysByteUptoCardSaid : Prop := Claim7.holds Tryd.pinned (.plain (OpenSpec.upto keysByteSpec)) keysByteUptoCard

/-- THE SECOND FORM's CARD OF 'nestboxlaw03.KeysLook'. -/
def keysLookUptoCard : Claim7 := { stood := { row := keysLookUptoRow, standIns := [], harness := (true, "eb7f9705310de1e9ebc0d18bf8577d25f4ae76bbea407aba1c1c4a9b9f867cc8"), looks := true }, kinds := [], alts := [], laidByText := true, laidKinds := [.data, .pinned], laidTests := true, laidLooks := .later }
def KeysLookUptoCardSaid : Prop := Claim7.holds Tryd.pinned (.plain (OpenSpec.upto keysLookSpec)) keysLookUptoCard

/-- THE SECOND FORM's CARD OF 'nestboxlaw03.KeysOne'. -/
def keysOneUptoCard : Claim7 := { stood := { row := keysOneUptoRow, standIns := [], harness := (true, "eb7f9705310de1e9ebc0d18bf8577d25f4ae76bbea407aba1c1c4a9b9f867cc8"), looks := true }, kinds := [], alts := [], laidByText := true, laidKinds := [.data, .pinned], laidTests := true, laidLooks := .later }
def KeysOneUptoCardSaid : Prop := Claim7.holds Tryd.pinned (.plain (OpenSpec.upto keysOneSpec)) keysOneUptoCard

/-- THE SECOND FORM's CARD OF 'nestboxlaw31.TellsUnlike'. -/
def tellsUnlikeUptoCard : Claim7 := { stood := { row := tellsUnlikeUptoRow, standIns := [], harness := (true, "eb7f9705310de1e9ebc0d18bf8577d25f4ae76bbea407aba1c1c4a9b9f867cc8"), looks := true }, kinds := [], alts := [], laidByText := true, laidKinds := [.data, .data, .data], laidTests := true, laidLooks := .later }
def TellsUnlikeUptoCardSaid : Prop := Claim7.holds Tryd.pinned (.plain (OpenSpec.upto tellsUnlikeSpec)) tellsUnlikeUptoCard

/-- THE SECOND FORM's CARD OF 'nestboxlaw03.KeysJoin'. -/
def keysJoinUptoCard : Claim7 := { stood := { row := keysJoinUptoRow, standIns := [], harness := (true, "eb7f9705310de1e9ebc0d18bf8577d25f4ae76bbea407aba1c1c4a9b9f867cc8"), looks := true }, kinds := [], alts := [], laidByText := true, laidKinds := [.data, .pinned], laidTests := true, laidLooks := .later }
def KeysJoinUptoCardSaid : Prop := Claim7.holds Tryd.pinned (.plain (OpenSpec.upto keysJoinSpec)) keysJoinUptoCard

/-- THE SECOND FORM's CARD OF 'nestboxlaw04.NumsParse'. -/
def numsParseUptoCard : Claim7 := { stood := { row := numsParseUptoRow, standIns := [], harness := (true, "eb7f9705310de1e9ebc0d18bf8577d25f4ae76bbea407aba1c1c4a9b9f867cc8"), looks := true }, kinds := [], alts := [], laidByText := true, laidKinds := [.data, .data, .data, .sentinel, .sentinel], laidTests := true, laidLooks := .later }
def NumsParseUptoCardSaid : Prop := Claim7.holds Tryd.pinned (.plain (OpenSpec.upto numsParseSpec)) numsParseUptoCard

/-- THE SECOND FORM's CARD OF 'nestboxlaw04.NumsSteps'. -/
def numsStepsUptoCard : Claim7 := { stood := { row := numsStepsUptoRow, standIns := [], harness := (true, "eb7f9705310de1e9ebc0d18bf8577d25f4ae76bbea407aba1c1c4a9b9f867cc8"), looks := true }, kinds := [], alts := [], laidByText := true, laidKinds := [.data, .data, .data, .sentinel, .sentinel], laidTests := true, laidLooks := .later }
def NumsStepsUptoCardSaid : Prop := Claim7.holds Tryd.pinned (.plain (OpenSpec.upto numsStepsSpec)) numsStepsUptoCard

/-- THE SECOND FORM's CARD OF 'nestboxlaw04.NumsCount'. -/
def numsCountUptoCard : Claim7 := { stood := { row := numsCountUptoRow, standIns := [], harness := (true, "eb7f9705310de1e9ebc0d18bf8577d25f4ae76bbea407aba1c1c4a9b9f867cc8"), looks := true }, kinds := [], alts := [], laidByText := true, laidKinds := [.data, .data, .data, .sentinel, .sentinel], laidTests := true, laidLooks := .later }
def NumsCountUptoCardSaid : Prop := Claim7.holds Tryd.pinned (.plain (OpenSpec.upto numsCountSpec)) numsCountUptoCard

/-- THE SECOND FORM's CARD OF 'nestboxlaw04.NumsBack'. -/
def numsBackUptoCard : Claim7 := { stood := { row := numsBackUptoRow, standIns := [], harness := (true, "eb7f9705310de1e9ebc0d18bf8577d25f4ae76bbea407aba1c1c4a9b9f867cc8"), looks := true }, kinds := [], alts := [], laidByText := true, laidKinds := [.data, .data, .data, .sentinel, .sentinel], laidTests := true, laidLooks := .later }
def NumsBackUptoCardSaid : Prop := Claim7.holds Tryd.pinned (.plain (OpenSpec.upto numsBackSpec)) numsBackUptoCard

/-- THE SECOND FORM's CARD OF 'nestboxlaw04.NumsOrder'. -/
def numsOrderUptoCard : Claim7 := { stood := { row := numsOrderUptoRow, standIns := [], harness := (true, "eb7f9705310de1e9ebc0d18bf8577d25f4ae76bbea407aba1c1c4a9b9f867cc8"), looks := true }, kinds := [], alts := [], laidByText := true, laidKinds := [.data, .data, .data, .sentinel, .sentinel], laidTests := true, laidLooks := .later }
def NumsOrderUptoCardSaid : Prop := Claim7.holds Tryd.pinned (.plain (OpenSpec.upto numsOrderSpec)) numsOrderUptoCard

/-- THE SECOND FORM's CARD OF 'nestboxlaw04.NumsByte'. -/
def numsByteUptoCard : Claim7 := { stood := { row := numsByteUptoRow, standIns := [], harness := (true, "eb7f9705310de1e9ebc0d18bf8577d25f4ae76bbea407aba1c1c4a9b9f867cc8"), looks := true }, kinds := [], alts := [], laidByText := true, laidKinds := [.data, .data, .data, .sentinel, .sentinel], laidTests := true, laidLooks := .later }
def NumsByteUptoCardSaid : Prop := Claim7.holds Tryd.pinned (.plain (OpenSpec.upto numsByteSpec)) numsByteUptoCard

/-- THE SECOND FORM's CARD OF 'nestboxlaw31.TellsNumber'. -/
def tellsNumberUptoCard : Claim7 := { stood := { row := tellsNumberUptoRow, standIns := [], harness := (true, "eb7f9705310de1e9ebc0d18bf8577d25f4ae76bbea407aba1c1c4a9b9f867cc8"), looks := true }, kinds := [], alts := [], laidByText := true, laidKinds := [.data, .data, .data, .sentinel, .sentinel], laidTests := true, laidLooks := .later }
def TellsNumberUptoCardSaid : Prop := Claim7.holds Tryd.pinned (.plain (OpenSpec.upto tellsNumberSpec)) tellsNumberUptoCard

/-- THE SECOND FORM's CARD OF 'nestboxlaw31.TellsRead'. -/
def tellsReadUptoCard : Claim7 := { stood := { row := tellsReadUptoRow, standIns := [], harness := (true, "eb7f9705310de1e9ebc0d18bf8577d25f4ae76bbea407aba1c1c4a9b9f867cc8"), looks := true }, kinds := [], alts := [], laidByText := true, laidKinds := [.data, .data, .data, .data, .sentinel, .sentinel, .pinned], laidTests := true, laidLooks := .later }
def TellsReadUptoCardSaid : Prop := Claim7.holds Tryd.pinned (.plain (OpenSpec.upto tellsReadSpec)) tellsReadUptoCard
end Rows
end Go.Proofs.YtaokclnandjlpaaDoor
