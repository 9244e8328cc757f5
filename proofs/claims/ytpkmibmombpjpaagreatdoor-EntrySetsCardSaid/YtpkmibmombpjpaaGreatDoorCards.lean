/-
  DERIVED. GIVEN WITH THE SEED: THE CARDS: each row of YtpkmibmombpjpaaGreatDoorRows.lean that lists a variable, with what it lists TIED to the program's text (the seventh form; the later family's looks); each row that meets fmt, with fmt's text TOLD by the authors' own Lean function (tested against real Go, not proved from fmt's source: count such statements apart). THE CARD IS WHAT COUNTS. Prove the row's statement (the work); the ties are given (YtpkmibmombpjpaaGreatDoorTie.lean); close each card by the builder's one call (the guide's Derived/Test/ToyasCard.lean, 'card_holds'). Laid BY PROGRAM, IN A SANDBOX (cutbox-door.mjs). By AI agents, Wed Nov 11 2026. No macro, syntax, notation, axiom, sorry.
-/
import Derived.Test.YtpkmibmombpjpaaGreatDoorRows
import GoSem.ClaimSeven
namespace Go.Proofs.YtpkmibmombpjpaaGreatDoor
namespace Rows

/-- THE TIED CARD OF 'finesselaw31.EntryChecks'. -/
def entryChecksCard : Claim7 := { stood := { row := entryChecksRow, standIns := [], harness := (true, "0164e4441daa2ef451322f1291758c9700ccce8c29fafcad22677b4fb54b4141"), looks := true }, kinds := [], alts := [], laidByText := true, laidKinds := [.data, .data, .data, .data, .sentinel, .sentinel, .pinned], laidTests := true, laidLooks := .later }
def EntryChecksCardSaid : Prop := Claim7.holds Tryz.pinned (.plain (OpenSpec.ofChange entryChecksSpec)) entryChecksCard

/-- THE TIED CARD OF 'finesselaw31.EntryReads'. -/
def entryReadsCard : Claim7 := { stood := { row := entryReadsRow, standIns := [], harness := (true, "0164e4441daa2ef451322f1291758c9700ccce8c29fafcad22677b4fb54b4141"), looks := true }, kinds := [], alts := [], laidByText := true, laidKinds := [.data, .data, .data, .data, .sentinel, .sentinel, .pinned], laidTests := true, laidLooks := .later }
def EntryReadsCardSaid : Prop := Claim7.holds Tryz.pinned (.plain (OpenSpec.ofChange entryReadsSpec)) entryReadsCard

/-- THE TIED CARD OF 'finesselaw31.EntryMerges'. -/
def entryMergesCard : Claim7 := { stood := { row := entryMergesRow, standIns := [], harness := (true, "0164e4441daa2ef451322f1291758c9700ccce8c29fafcad22677b4fb54b4141"), looks := true }, kinds := [], alts := [], laidByText := true, laidKinds := [.data, .data, .data, .data, .sentinel, .sentinel, .pinned], laidTests := true, laidLooks := .later }
def EntryMergesCardSaid : Prop := Claim7.holds Tryz.pinned (.plain (OpenSpec.ofChange entryMergesSpec)) entryMergesCard

/-- THE TIED CARD OF 'finesselaw31.EntrySets'. -/
def entrySetsCard : Claim7 := { stood := { row := entrySetsRow, standIns := [], harness := (true, "0164e4441daa2ef451322f1291758c9700ccce8c29fafcad22677b4fb54b4141"), looks := true }, kinds := [], alts := [], laidByText := true, laidKinds := [.data, .data, .data, .data, .sentinel, .sentinel, .pinned], laidTests := true, laidLooks := .later }
def EntrySetsCardSaid : Prop := Claim7.holds Tryz.pinned (.plain (OpenSpec.ofChange entrySetsSpec)) entrySetsCard

/-- THE TIED CARD OF 'finesselaw31.EntrySmall'. -/
def entrySmallCard : Claim7 := { stood := { row := entrySmallRow, standIns := [], harness := (true, "0164e4441daa2ef451322f1291758c9700ccce8c29fafcad22677b4fb54b4141"), looks := true }, kinds := [], alts := [], laidByText := true, laidKinds := [.data, .data, .data, .data, .sentinel, .sentinel, .pinned], laidTests := true, laidLooks := .later }
def EntrySmallCardSaid : Prop := Claim7.holds Tryz.pinned (.plain (OpenSpec.ofChange entrySmallSpec)) entrySmallCard

/-- THE TIED CARD OF 'finesselaw31.EntryCounts'. -/
def entryCountsCard : Claim7 := { stood := { row := entryCountsRow, standIns := [], harness := (true, "0164e4441daa2ef451322f1291758c9700ccce8c29fafcad22677b4fb54b4141"), looks := true }, kinds := [], alts := [], laidByText := true, laidKinds := [.data, .data, .data, .data, .sentinel, .sentinel, .pinned], laidTests := true, laidLooks := .later }
def EntryCountsCardSaid : Prop := Claim7.holds Tryz.pinned (.plain (OpenSpec.ofChange entryCountsSpec)) entryCountsCard

/-- THE TIED CARD OF 'finesselaw31.EntryWrong'. -/
def entryWrongCard : Claim7 := { stood := { row := entryWrongRow, standIns := [], harness := (true, "0164e4441daa2ef451322f1291758c9700ccce8c29fafcad22677b4fb54b4141"), looks := true }, kinds := [], alts := [], laidByText := true, laidKinds := [.data, .data, .data, .data, .sentinel, .sentinel, .pinned], laidTests := true, laidLooks := .later }
def EntryWrongCardSaid : Prop := Claim7.holds Tryz.pinned (.plain (OpenSpec.ofChange entryWrongSpec)) entryWrongCard

/-- THE SECOND FORM's CARD OF 'finesselaw31.EntryChecks'. -/
def entryChecksUptoCard : Claim7 := { stood := { row := entryChecksUptoRow, standIns := [], harness := (true, "0164e4441daa2ef451322f1291758c9700ccce8c29fafcad22677b4fb54b4141"), looks := true }, kinds := [], alts := [], laidByText := true, laidKinds := [.data, .data, .data, .data, .sentinel, .sentinel, .pinned], laidTests := true, laidLooks := .later }
def EntryChecksUptoCardSaid : Prop := Claim7.holds Tryz.pinned (.plain (OpenSpec.upto entryChecksSpec)) entryChecksUptoCard

/-- THE SECOND FORM's CARD OF 'finesselaw31.EntryReads'. -/
def entryReadsUptoCard : Claim7 := { stood := { row := entryReadsUptoRow, standIns := [], harness := (true, "0164e4441daa2ef451322f1291758c9700ccce8c29fafcad22677b4fb54b4141"), looks := true }, kinds := [], alts := [], laidByText := true, laidKinds := [.data, .data, .data, .data, .sentinel, .sentinel, .pinned], laidTests := true, laidLooks := .later }
def EntryReadsUptoCardSaid : Prop := Claim7.holds Tryz.pinned (.plain (OpenSpec.upto entryReadsSpec)) entryReadsUptoCard

/-- THE SECOND FORM's CARD OF 'finesselaw31.EntryMerges'. -/
def entryMergesUptoCard : Claim7 := { stood := { row := entryMergesUptoRow, standIns := [], harness := (true, "0164e4441daa2ef451322f1291758c9700ccce8c29fafcad22677b4fb54b4141"), looks := true }, kinds := [], alts := [], laidByText := true, laidKinds := [.data, .data, .data, .data, .sentinel, .sentinel, .pinned], laidTests := true, laidLooks := .later }
def EntryMergesUptoCardSaid : Prop := Claim7.holds Tryz.pinned (.plain (OpenSpec.upto entryMergesSpec)) entryMergesUptoCard

/-- THE SECOND FORM's CARD OF 'finesselaw31.EntrySets'. -/
def entrySetsUptoCard : Claim7 := { stood := { row := entrySetsUptoRow, standIns := [], harness := (true, "0164e4441daa2ef451322f1291758c9700ccce8c29fafcad22677b4fb54b4141"), looks := true }, kinds := [], alts := [], laidByText := true, laidKinds := [.data, .data, .data, .data, .sentinel, .sentinel, .pinned], laidTests := true, laidLooks := .later }
def EntrySetsUptoCardSaid : Prop := Claim7.holds Tryz.pinned (.plain (OpenSpec.upto entrySetsSpec)) entrySetsUptoCard

/-- THE SECOND FORM's CARD OF 'finesselaw31.EntrySmall'. -/
def entrySmallUptoCard : Claim7 := { stood := { row := entrySmallUptoRow, standIns := [], harness := (true, "0164e4441daa2ef451322f1291758c9700ccce8c29fafcad22677b4fb54b4141"), looks := true }, kinds := [], alts := [], laidByText := true, laidKinds := [.data, .data, .data, .data, .sentinel, .sentinel, .pinned], laidTests := true, laidLooks := .later }
def EntrySmallUptoCardSaid : Prop := Claim7.holds Tryz.pinned (.plain (OpenSpec.upto entrySmallSpec)) entrySmallUptoCard

/-- THE SECOND FORM's CARD OF 'finesselaw31.EntryCounts'. -/
def entryCountsUptoCard : Claim7 := { stood := { row := entryCountsUptoRow, standIns := [], harness := (true, "0164e4441daa2ef451322f1291758c9700ccce8c29fafcad22677b4fb54b4141"), looks := true }, kinds := [], alts := [], laidByText := true, laidKinds := [.data, .data, .data, .data, .sentinel, .sentinel, .pinned], laidTests := true, laidLooks := .later }
def EntryCountsUptoCardSaid : Prop := Claim7.holds Tryz.pinned (.plain (OpenSpec.upto entryCountsSpec)) entryCountsUptoCard

/-- THE SECOND FORM's CARD OF 'finesselaw31.EntryWrong'. -/
def entryWrongUptoCard : Claim7 := { stood := { row := entryWrongUptoRow, standIns := [], harness := (true, "0164e4441daa2ef451322f1291758c9700ccce8c29fafcad22677b4fb54b4141"), looks := true }, kinds := [], alts := [], laidByText := true, laidKinds := [.data, .data, .data, .data, .sentinel, .sentinel, .pinned], laidTests := true, laidLooks := .later }
def EntryWrongUptoCardSaid : Prop := Claim7.holds Tryz.pinned (.plain (OpenSpec.upto entryWrongSpec)) entryWrongUptoCard
end Rows
end Go.Proofs.YtpkmibmombpjpaaGreatDoor
