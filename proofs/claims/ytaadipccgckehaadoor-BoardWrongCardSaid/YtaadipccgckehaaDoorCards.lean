/-
  DERIVED. GIVEN WITH THE SEED: THE CARDS: each row of YtaadipccgckehaaDoorRows.lean that lists a variable, with what it lists TIED to the program's text (the seventh form; the later family's looks); each row that meets fmt, with fmt's text TOLD by the authors' own Lean function (tested against real Go, not proved from fmt's source: count such statements apart). THE CARD IS WHAT COUNTS. Prove the row's statement (the work); the ties are given (YtaadipccgckehaaDoorTie.lean); close each card by the builder's one call (the guide's Derived/Test/ToyasCard.lean, 'card_holds'). Laid BY PROGRAM, IN A SANDBOX (cutbox-door.mjs). By AI agents, Wed Nov 11 2026. No macro, syntax, notation, axiom, sorry.
-/
import Derived.Test.YtaadipccgckehaaDoorRows
import GoSem.ClaimSeven
namespace Go.Proofs.YtaadipccgckehaaDoor
namespace Rows

/-- THE TIED CARD OF 'finesselaw07.BoardTells'. -/
def boardTellsCard : Claim7 := { stood := { row := boardTellsRow, standIns := [], harness := (true, "3c7b59e18d11e63da416fff067d755b1a2c006713f14556e38621fc300f04fa6"), looks := true }, kinds := [], alts := [], laidByText := true, laidKinds := [.data, .data, .data, .data, .sentinel, .sentinel, .data, .pinned], laidTests := true, laidLooks := .later }
def BoardTellsCardSaid : Prop := Claim7.holds Tryd.pinned (.plain (OpenSpec.ofChange boardTellsSpec)) boardTellsCard

/-- THE TIED CARD OF 'finesselaw07.BoardDiffers'. -/
def boardDiffersCard : Claim7 := { stood := { row := boardDiffersRow, standIns := [], harness := (true, "3c7b59e18d11e63da416fff067d755b1a2c006713f14556e38621fc300f04fa6"), looks := true }, kinds := [], alts := [], laidByText := true, laidKinds := [.data, .data, .data, .data, .sentinel, .sentinel, .data, .pinned], laidTests := true, laidLooks := .later }
def BoardDiffersCardSaid : Prop := Claim7.holds Tryd.pinned (.plain (OpenSpec.ofChange boardDiffersSpec)) boardDiffersCard

/-- THE TIED CARD OF 'finesselaw07.BoardSixteen'. -/
def boardSixteenCard : Claim7 := { stood := { row := boardSixteenRow, standIns := [], harness := (true, "3c7b59e18d11e63da416fff067d755b1a2c006713f14556e38621fc300f04fa6"), looks := true }, kinds := [], alts := [], laidByText := true, laidKinds := [.data, .data, .data, .data, .sentinel, .sentinel, .data, .pinned], laidTests := true, laidLooks := .later }
def BoardSixteenCardSaid : Prop := Claim7.holds Tryd.pinned (.plain (OpenSpec.ofChange boardSixteenSpec)) boardSixteenCard

/-- THE TIED CARD OF 'finesselaw07.BoardChanges'. -/
def boardChangesCard : Claim7 := { stood := { row := boardChangesRow, standIns := [], harness := (true, "3c7b59e18d11e63da416fff067d755b1a2c006713f14556e38621fc300f04fa6"), looks := true }, kinds := [], alts := [], laidByText := true, laidKinds := [.data, .data, .data, .data, .sentinel, .sentinel, .data, .pinned], laidTests := true, laidLooks := .later }
def BoardChangesCardSaid : Prop := Claim7.holds Tryd.pinned (.plain (OpenSpec.ofChange boardChangesSpec)) boardChangesCard

/-- THE TIED CARD OF 'finesselaw07.BoardClasses'. -/
def boardClassesCard : Claim7 := { stood := { row := boardClassesRow, standIns := [], harness := (true, "3c7b59e18d11e63da416fff067d755b1a2c006713f14556e38621fc300f04fa6"), looks := true }, kinds := [], alts := [], laidByText := true, laidKinds := [.data, .data, .data, .data, .sentinel, .sentinel, .data, .pinned], laidTests := true, laidLooks := .later }
def BoardClassesCardSaid : Prop := Claim7.holds Tryd.pinned (.plain (OpenSpec.ofChange boardClassesSpec)) boardClassesCard

/-- THE TIED CARD OF 'finesselaw07.BoardBack'. -/
def boardBackCard : Claim7 := { stood := { row := boardBackRow, standIns := [], harness := (true, "3c7b59e18d11e63da416fff067d755b1a2c006713f14556e38621fc300f04fa6"), looks := true }, kinds := [], alts := [], laidByText := true, laidKinds := [.data, .data, .data, .data, .sentinel, .sentinel, .data, .pinned], laidTests := true, laidLooks := .later }
def BoardBackCardSaid : Prop := Claim7.holds Tryd.pinned (.plain (OpenSpec.ofChange boardBackSpec)) boardBackCard

/-- THE TIED CARD OF 'finesselaw07.BoardWrong'. -/
def boardWrongCard : Claim7 := { stood := { row := boardWrongRow, standIns := [], harness := (true, "3c7b59e18d11e63da416fff067d755b1a2c006713f14556e38621fc300f04fa6"), looks := true }, kinds := [], alts := [], laidByText := true, laidKinds := [.data, .data, .data, .data, .sentinel, .sentinel, .data, .pinned], laidTests := true, laidLooks := .later }
def BoardWrongCardSaid : Prop := Claim7.holds Tryd.pinned (.plain (OpenSpec.ofChange boardWrongSpec)) boardWrongCard

/-- THE SECOND FORM's CARD OF 'finesselaw07.BoardTells'. -/
def boardTellsUptoCard : Claim7 := { stood := { row := boardTellsUptoRow, standIns := [], harness := (true, "3c7b59e18d11e63da416fff067d755b1a2c006713f14556e38621fc300f04fa6"), looks := true }, kinds := [], alts := [], laidByText := true, laidKinds := [.data, .data, .data, .data, .sentinel, .sentinel, .data, .pinned], laidTests := true, laidLooks := .later }
def BoardTellsUptoCardSaid : Prop := Claim7.holds Tryd.pinned (.plain (OpenSpec.upto boardTellsSpec)) boardTellsUptoCard

/-- THE SECOND FORM's CARD OF 'finesselaw07.BoardDiffers'. -/
def boardDiffersUptoCard : Claim7 := { stood := { row := boardDiffersUptoRow, standIns := [], harness := (true, "3c7b59e18d11e63da416fff067d755b1a2c006713f14556e38621fc300f04fa6"), looks := true }, kinds := [], alts := [], laidByText := true, laidKinds := [.data, .data, .data, .data, .sentinel, .sentinel, .data, .pinned], laidTests := true, laidLooks := .later }
def BoardDiffersUptoCardSaid : Prop := Claim7.holds Tryd.pinned (.plain (OpenSpec.upto boardDiffersSpec)) boardDiffersUptoCard

/-- THE SECOND FORM's CARD OF 'finesselaw07.BoardSixteen'. -/
def boardSixteenUptoCard : Claim7 := { stood := { row := boardSixteenUptoRow, standIns := [], harness := (true, "3c7b59e18d11e63da416fff067d755b1a2c006713f14556e38621fc300f04fa6"), looks := true }, kinds := [], alts := [], laidByText := true, laidKinds := [.data, .data, .data, .data, .sentinel, .sentinel, .data, .pinned], laidTests := true, laidLooks := .later }
def BoardSixteenUptoCardSaid : Prop := Claim7.holds Tryd.pinned (.plain (OpenSpec.upto boardSixteenSpec)) boardSixteenUptoCard

/-- THE SECOND FORM's CARD OF 'finesselaw07.BoardChanges'. -/
def boardChangesUptoCard : Claim7 := { stood := { row := boardChangesUptoRow, standIns := [], harness := (true, "3c7b59e18d11e63da416fff067d755b1a2c006713f14556e38621fc300f04fa6"), looks := true }, kinds := [], alts := [], laidByText := true, laidKinds := [.data, .data, .data, .data, .sentinel, .sentinel, .data, .pinned], laidTests := true, laidLooks := .later }
def BoardChangesUptoCardSaid : Prop := Claim7.holds Tryd.pinned (.plain (OpenSpec.upto boardChangesSpec)) boardChangesUptoCard

/-- THE SECOND FORM's CARD OF 'finesselaw07.BoardClasses'. -/
def boardClassesUptoCard : Claim7 := { stood := { row := boardClassesUptoRow, standIns := [], harness := (true, "3c7b59e18d11e63da416fff067d755b1a2c006713f14556e38621fc300f04fa6"), looks := true }, kinds := [], alts := [], laidByText := true, laidKinds := [.data, .data, .data, .data, .sentinel, .sentinel, .data, .pinned], laidTests := true, laidLooks := .later }
def BoardClassesUptoCardSaid : Prop := Claim7.holds Tryd.pinned (.plain (OpenSpec.upto boardClassesSpec)) boardClassesUptoCard

/-- THE SECOND FORM's CARD OF 'finesselaw07.BoardBack'. -/
def boardBackUptoCard : Claim7 := { stood := { row := boardBackUptoRow, standIns := [], harness := (true, "3c7b59e18d11e63da416fff067d755b1a2c006713f14556e38621fc300f04fa6"), looks := true }, kinds := [], alts := [], laidByText := true, laidKinds := [.data, .data, .data, .data, .sentinel, .sentinel, .data, .pinned], laidTests := true, laidLooks := .later }
def BoardBackUptoCardSaid : Prop := Claim7.holds Tryd.pinned (.plain (OpenSpec.upto boardBackSpec)) boardBackUptoCard

/-- THE SECOND FORM's CARD OF 'finesselaw07.BoardWrong'. -/
def boardWrongUptoCard : Claim7 := { stood := { row := boardWrongUptoRow, standIns := [], harness := (true, "3c7b59e18d11e63da416fff067d755b1a2c006713f14556e38621fc300f04fa6"), looks := true }, kinds := [], alts := [], laidByText := true, laidKinds := [.data, .data, .data, .data, .sentinel, .sentinel, .data, .pinned], laidTests := true, laidLooks := .later }
def BoardWrongUptoCardSaid : Prop := Claim7.holds Tryd.pinned (.plain (OpenSpec.upto boardWrongSpec)) boardWrongUptoCard
end Rows
end Go.Proofs.YtaadipccgckehaaDoor
