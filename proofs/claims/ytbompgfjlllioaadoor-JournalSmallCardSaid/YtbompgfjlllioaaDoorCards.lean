/-
  DERIVED. GIVEN WITH THE SEED: THE CARDS: each row of YtbompgfjlllioaaDoorRows.lean that lists a variable, with what it lists TIED to the program's text (the seventh form; the later family's looks); each row that meets fmt, with fmt's text TOLD by the authors' own Lean function (tested against real Go, not proved from fmt's source: count such statements apart). THE CARD IS WHAT COUNTS. Prove the row's statement (the work); the ties are given (YtbompgfjlllioaaDoorTie.lean); close each card by the builder's one call (the guide's Derived/Test/ToyasCard.lean, 'card_holds'). Laid BY PROGRAM, IN A SANDBOX (cutbox-door.mjs). By AI agents, Wed Nov 11 2026. No macro, syntax, notation, axiom, sorry.
-/
import Derived.Test.YtbompgfjlllioaaDoorRows
import GoSem.ClaimSeven
namespace Go.Proofs.YtbompgfjlllioaaDoor
namespace Rows

/-- THE TIED CARD OF 'finesselaw42.JournalKeeps'. -/
def journalKeepsCard : Claim7 := { stood := { row := journalKeepsRow, standIns := [], harness := (true, "3af22e1bd13a916cf43529b3373b462aaab7c12ee69bd0f1fba6d33644b47311"), looks := false }, kinds := [], alts := [], laidByText := true, laidKinds := [.data, .data, .data], laidTests := true, laidLooks := .later }
def JournalKeepsCardSaid : Prop := Claim7.holds Tryd.pinned (.plain (OpenSpec.ofChange journalKeepsSpec)) journalKeepsCard

/-- THE TIED CARD OF 'finesselaw42.JournalCuts'. -/
def journalCutsCard : Claim7 := { stood := { row := journalCutsRow, standIns := [], harness := (true, "3af22e1bd13a916cf43529b3373b462aaab7c12ee69bd0f1fba6d33644b47311"), looks := false }, kinds := [], alts := [], laidByText := true, laidKinds := [.data, .data, .data], laidTests := true, laidLooks := .later }
def JournalCutsCardSaid : Prop := Claim7.holds Tryd.pinned (.plain (OpenSpec.ofChange journalCutsSpec)) journalCutsCard

/-- THE TIED CARD OF 'finesselaw42.JournalSwaps'. -/
def journalSwapsCard : Claim7 := { stood := { row := journalSwapsRow, standIns := [], harness := (true, "3af22e1bd13a916cf43529b3373b462aaab7c12ee69bd0f1fba6d33644b47311"), looks := false }, kinds := [], alts := [], laidByText := true, laidKinds := [.data, .data, .data], laidTests := true, laidLooks := .later }
def JournalSwapsCardSaid : Prop := Claim7.holds Tryd.pinned (.plain (OpenSpec.ofChange journalSwapsSpec)) journalSwapsCard

/-- THE TIED CARD OF 'finesselaw42.JournalScans'. -/
def journalScansCard : Claim7 := { stood := { row := journalScansRow, standIns := [], harness := (true, "3af22e1bd13a916cf43529b3373b462aaab7c12ee69bd0f1fba6d33644b47311"), looks := false }, kinds := [], alts := [], laidByText := true, laidKinds := [.data, .data, .data], laidTests := true, laidLooks := .later }
def JournalScansCardSaid : Prop := Claim7.holds Tryd.pinned (.plain (OpenSpec.ofChange journalScansSpec)) journalScansCard

/-- THE TIED CARD OF 'finesselaw42.JournalChecks'. -/
def journalChecksCard : Claim7 := { stood := { row := journalChecksRow, standIns := [], harness := (true, "3af22e1bd13a916cf43529b3373b462aaab7c12ee69bd0f1fba6d33644b47311"), looks := false }, kinds := [], alts := [], laidByText := true, laidKinds := [.data, .data, .data], laidTests := true, laidLooks := .later }
def JournalChecksCardSaid : Prop := Claim7.holds Tryd.pinned (.plain (OpenSpec.ofChange journalChecksSpec)) journalChecksCard

/-- THE TIED CARD OF 'finesselaw42.JournalDoes'. -/
def journalDoesCard : Claim7 := { stood := { row := journalDoesRow, standIns := [], harness := (true, "3af22e1bd13a916cf43529b3373b462aaab7c12ee69bd0f1fba6d33644b47311"), looks := false }, kinds := [], alts := [], laidByText := true, laidKinds := [.data, .data, .data], laidTests := true, laidLooks := .later }
def JournalDoesCardSaid : Prop := Claim7.holds Tryd.pinned (.plain (OpenSpec.ofChange journalDoesSpec)) journalDoesCard

/-- THE TIED CARD OF 'finesselaw42.JournalOne'. -/
def journalOneCard : Claim7 := { stood := { row := journalOneRow, standIns := [], harness := (true, "3af22e1bd13a916cf43529b3373b462aaab7c12ee69bd0f1fba6d33644b47311"), looks := false }, kinds := [], alts := [], laidByText := true, laidKinds := [.data, .data, .data], laidTests := true, laidLooks := .later }
def JournalOneCardSaid : Prop := Claim7.holds Tryd.pinned (.plain (OpenSpec.ofChange journalOneSpec)) journalOneCard

/-- THE TIED CARD OF 'finesselaw42.JournalSmall'. -/
def journalSmallCard : Claim7 := { stood := { row := journalSmallRow, standIns := [], harness := (true, "3af22e1bd13a916cf43529b3373b462aaab7c12ee69bd0f1fba6d33644b47311"), looks := false }, kinds := [], alts := [], laidByText := true, laidKinds := [.data, .data, .data], laidTests := true, laidLooks := .later }
def JournalSmallCardSaid : Prop := Claim7.holds Tryd.pinned (.plain (OpenSpec.ofChange journalSmallSpec)) journalSmallCard

/-- THE TIED CARD OF 'finesselaw42.JournalWrong'. -/
def journalWrongCard : Claim7 := { stood := { row := journalWrongRow, standIns := [], harness := (true, "3af22e1bd13a916cf43529b3373b462aaab7c12ee69bd0f1fba6d33644b47311"), looks := false }, kinds := [], alts := [], laidByText := true, laidKinds := [.data, .data, .data], laidTests := true, laidLooks := .later }
def JournalWrongCardSaid : Prop := Claim7.holds Tryd.pinned (.plain (OpenSpec.ofChange journalWrongSpec)) journalWrongCard

/-- THE SECOND FORM's CARD OF 'finesselaw42.JournalKeeps'. -/
def journalKeepsUptoCard : Claim7 := { stood := { row := journalKeepsUptoRow, standIns := [], harness := (true, "3af22e1bd13a916cf43529b3373b462aaab7c12ee69bd0f1fba6d33644b47311"), looks := false }, kinds := [], alts := [], laidByText := true, laidKinds := [.data, .data, .data], laidTests := true, laidLooks := .later }
def JournalKeepsUptoCardSaid : Prop := Claim7.holds Tryd.pinned (.plain (OpenSpec.upto journalKeepsSpec)) journalKeepsUptoCard

/-- THE SECOND FORM's CARD OF 'finesselaw42.JournalCuts'. -/
def journalCutsUptoCard : Claim7 := { stood := { row := journalCutsUptoRow, standIns := [], harness := (true, "3af22e1bd13a916cf43529b3373b462aaab7c12ee69bd0f1fba6d33644b47311"), looks := false }, kinds := [], alts := [], laidByText := true, laidKinds := [.data, .data, .data], laidTests := true, laidLooks := .later }
def JournalCutsUptoCardSaid : Prop := Claim7.holds Tryd.pinned (.plain (OpenSpec.upto journalCutsSpec)) journalCutsUptoCard

/-- THE SECOND FORM's CARD OF 'finesselaw42.JournalSwaps'. -/
def journalSwapsUptoCard : Claim7 := { stood := { row := journalSwapsUptoRow, standIns := [], harness := (true, "3af22e1bd13a916cf43529b3373b462aaab7c12ee69bd0f1fba6d33644b47311"), looks := false }, kinds := [], alts := [], laidByText := true, laidKinds := [.data, .data, .data], laidTests := true, laidLooks := .later }
def JournalSwapsUptoCardSaid : Prop := Claim7.holds Tryd.pinned (.plain (OpenSpec.upto journalSwapsSpec)) journalSwapsUptoCard

/-- THE SECOND FORM's CARD OF 'finesselaw42.JournalScans'. -/
def journalScansUptoCard : Claim7 := { stood := { row := journalScansUptoRow, standIns := [], harness := (true, "3af22e1bd13a916cf43529b3373b462aaab7c12ee69bd0f1fba6d33644b47311"), looks := false }, kinds := [], alts := [], laidByText := true, laidKinds := [.data, .data, .data], laidTests := true, laidLooks := .later }
def JournalScansUptoCardSaid : Prop := Claim7.holds Tryd.pinned (.plain (OpenSpec.upto journalScansSpec)) journalScansUptoCard

/-- THE SECOND FORM's CARD OF 'finesselaw42.JournalChecks'. -/
def journalChecksUptoCard : Claim7 := { stood := { row := journalChecksUptoRow, standIns := [], harness := (true, "3af22e1bd13a916cf43529b3373b462aaab7c12ee69bd0f1fba6d33644b47311"), looks := false }, kinds := [], alts := [], laidByText := true, laidKinds := [.data, .data, .data], laidTests := true, laidLooks := .later }
def JournalChecksUptoCardSaid : Prop := Claim7.holds Tryd.pinned (.plain (OpenSpec.upto journalChecksSpec)) journalChecksUptoCard

/-- THE SECOND FORM's CARD OF 'finesselaw42.JournalDoes'. -/
def journalDoesUptoCard : Claim7 := { stood := { row := journalDoesUptoRow, standIns := [], harness := (true, "3af22e1bd13a916cf43529b3373b462aaab7c12ee69bd0f1fba6d33644b47311"), looks := false }, kinds := [], alts := [], laidByText := true, laidKinds := [.data, .data, .data], laidTests := true, laidLooks := .later }
def JournalDoesUptoCardSaid : Prop := Claim7.holds Tryd.pinned (.plain (OpenSpec.upto journalDoesSpec)) journalDoesUptoCard

/-- THE SECOND FORM's CARD OF 'finesselaw42.JournalOne'. -/
def journalOneUptoCard : Claim7 := { stood := { row := journalOneUptoRow, standIns := [], harness := (true, "3af22e1bd13a916cf43529b3373b462aaab7c12ee69bd0f1fba6d33644b47311"), looks := false }, kinds := [], alts := [], laidByText := true, laidKinds := [.data, .data, .data], laidTests := true, laidLooks := .later }
def JournalOneUptoCardSaid : Prop := Claim7.holds Tryd.pinned (.plain (OpenSpec.upto journalOneSpec)) journalOneUptoCard

/-- THE SECOND FORM's CARD OF 'finesselaw42.JournalSmall'. -/
def journalSmallUptoCard : Claim7 := { stood := { row := journalSmallUptoRow, standIns := [], harness := (true, "3af22e1bd13a916cf43529b3373b462aaab7c12ee69bd0f1fba6d33644b47311"), looks := false }, kinds := [], alts := [], laidByText := true, laidKinds := [.data, .data, .data], laidTests := true, laidLooks := .later }
def JournalSmallUptoCardSaid : Prop := Claim7.holds Tryd.pinned (.plain (OpenSpec.upto journalSmallSpec)) journalSmallUptoCard

/-- THE SECOND FORM's CARD OF 'finesselaw42.JournalWrong'. -/
def journalWrongUptoCard : Claim7 := { stood := { row := journalWrongUptoRow, standIns := [], harness := (true, "3af22e1bd13a916cf43529b3373b462aaab7c12ee69bd0f1fba6d33644b47311"), looks := false }, kinds := [], alts := [], laidByText := true, laidKinds := [.data, .data, .data], laidTests := true, laidLooks := .later }
def JournalWrongUptoCardSaid : Prop := Claim7.holds Tryd.pinned (.plain (OpenSpec.upto journalWrongSpec)) journalWrongUptoCard
end Rows
end Go.Proofs.YtbompgfjlllioaaDoor
