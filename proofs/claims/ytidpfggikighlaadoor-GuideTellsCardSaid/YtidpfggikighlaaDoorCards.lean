/-
  DERIVED. GIVEN WITH THE SEED: THE CARDS: each row of YtidpfggikighlaaDoorRows.lean that lists a variable, with what it lists TIED to the program's text (the seventh form; the later family's looks); each row that meets fmt, with fmt's text TOLD by the authors' own Lean function (tested against real Go, not proved from fmt's source: count such statements apart). THE CARD IS WHAT COUNTS. Prove the row's statement (the work); the ties are given (YtidpfggikighlaaDoorTie.lean); close each card by the builder's one call (the guide's Derived/Test/ToyasCard.lean, 'card_holds'). Laid BY PROGRAM, IN A SANDBOX (cutbox-door.mjs). By AI agents, Wed Nov 11 2026. No macro, syntax, notation, axiom, sorry.
-/
import Derived.Test.YtidpfggikighlaaDoorRows
import GoSem.ClaimSeven
namespace Go.Proofs.YtidpfggikighlaaDoor
namespace Rows

/-- THE TIED CARD OF 'finesselaw30.GuideTells'. -/
def guideTellsCard : Claim7 := { stood := { row := guideTellsRow, standIns := [], harness := (true, "a354805586d18b7ba606fa2b9dbc84820cb175c3e68f4df9682498f5d81f070b"), looks := true }, kinds := [], alts := [], laidByText := true, laidKinds := [.data, .data, .data], laidTests := true, laidLooks := .later }
def GuideTellsCardSaid : Prop := Claim7.holds Tryd.pinned (.plain (OpenSpec.ofChange guideTellsSpec)) guideTellsCard

/-- THE TIED CARD OF 'finesselaw30.GuideBack'. -/
def guideBackCard : Claim7 := { stood := { row := guideBackRow, standIns := [], harness := (true, "a354805586d18b7ba606fa2b9dbc84820cb175c3e68f4df9682498f5d81f070b"), looks := true }, kinds := [], alts := [], laidByText := true, laidKinds := [.data, .data, .data, .data, .sentinel, .sentinel, .pinned], laidTests := true, laidLooks := .later }
def GuideBackCardSaid : Prop := Claim7.holds Tryd.pinned (.plain (OpenSpec.ofChange guideBackSpec)) guideBackCard

/-- THE TIED CARD OF 'finesselaw30.GuideTables'. -/
def guideTablesCard : Claim7 := { stood := { row := guideTablesRow, standIns := [], harness := (true, "a354805586d18b7ba606fa2b9dbc84820cb175c3e68f4df9682498f5d81f070b"), looks := true }, kinds := [], alts := [], laidByText := true, laidKinds := [.data, .data, .data, .data, .sentinel, .sentinel, .pinned], laidTests := true, laidLooks := .later }
def GuideTablesCardSaid : Prop := Claim7.holds Tryd.pinned (.plain (OpenSpec.ofChange guideTablesSpec)) guideTablesCard

/-- THE TIED CARD OF 'finesselaw30.GuideReads'. -/
def guideReadsCard : Claim7 := { stood := { row := guideReadsRow, standIns := [], harness := (true, "a354805586d18b7ba606fa2b9dbc84820cb175c3e68f4df9682498f5d81f070b"), looks := true }, kinds := [], alts := [], laidByText := true, laidKinds := [.data, .data, .data, .data, .sentinel, .sentinel, .pinned], laidTests := true, laidLooks := .later }
def GuideReadsCardSaid : Prop := Claim7.holds Tryd.pinned (.plain (OpenSpec.ofChange guideReadsSpec)) guideReadsCard

/-- THE TIED CARD OF 'finesselaw30.GuideSmall'. -/
def guideSmallCard : Claim7 := { stood := { row := guideSmallRow, standIns := [], harness := (true, "a354805586d18b7ba606fa2b9dbc84820cb175c3e68f4df9682498f5d81f070b"), looks := true }, kinds := [], alts := [], laidByText := true, laidKinds := [.data, .data, .data, .data, .sentinel, .sentinel, .pinned], laidTests := true, laidLooks := .later }
def GuideSmallCardSaid : Prop := Claim7.holds Tryd.pinned (.plain (OpenSpec.ofChange guideSmallSpec)) guideSmallCard

/-- THE TIED CARD OF 'finesselaw30.GuideWrong'. -/
def guideWrongCard : Claim7 := { stood := { row := guideWrongRow, standIns := [], harness := (true, "a354805586d18b7ba606fa2b9dbc84820cb175c3e68f4df9682498f5d81f070b"), looks := true }, kinds := [], alts := [], laidByText := true, laidKinds := [.data, .data, .data, .data, .sentinel, .sentinel, .pinned], laidTests := true, laidLooks := .later }
def GuideWrongCardSaid : Prop := Claim7.holds Tryd.pinned (.plain (OpenSpec.ofChange guideWrongSpec)) guideWrongCard

/-- THE TIED CARD OF 'finesselaw30.GuideTurned'. -/
def guideTurnedCard : Claim7 := { stood := { row := guideTurnedRow, standIns := [], harness := (true, "a354805586d18b7ba606fa2b9dbc84820cb175c3e68f4df9682498f5d81f070b"), looks := true }, kinds := [], alts := [], laidByText := true, laidKinds := [.data, .data, .data, .data, .sentinel, .sentinel, .pinned], laidTests := true, laidLooks := .later }
def GuideTurnedCardSaid : Prop := Claim7.holds Tryd.pinned (.plain (OpenSpec.ofChange guideTurnedSpec)) guideTurnedCard

/-- THE SECOND FORM's CARD OF 'finesselaw30.GuideTells'. -/
def guideTellsUptoCard : Claim7 := { stood := { row := guideTellsUptoRow, standIns := [], harness := (true, "a354805586d18b7ba606fa2b9dbc84820cb175c3e68f4df9682498f5d81f070b"), looks := true }, kinds := [], alts := [], laidByText := true, laidKinds := [.data, .data, .data], laidTests := true, laidLooks := .later }
def GuideTellsUptoCardSaid : Prop := Claim7.holds Tryd.pinned (.plain (OpenSpec.upto guideTellsSpec)) guideTellsUptoCard

/-- THE SECOND FORM's CARD OF 'finesselaw30.GuideBack'. -/
def guideBackUptoCard : Claim7 := { stood := { row := guideBackUptoRow, standIns := [], harness := (true, "a354805586d18b7ba606fa2b9dbc84820cb175c3e68f4df9682498f5d81f070b"), looks := true }, kinds := [], alts := [], laidByText := true, laidKinds := [.data, .data, .data, .data, .sentinel, .sentinel, .pinned], laidTests := true, laidLooks := .later }
def GuideBackUptoCardSaid : Prop := Claim7.holds Tryd.pinned (.plain (OpenSpec.upto guideBackSpec)) guideBackUptoCard

/-- THE SECOND FORM's CARD OF 'finesselaw30.GuideTables'. -/
def guideTablesUptoCard : Claim7 := { stood := { row := guideTablesUptoRow, standIns := [], harness := (true, "a354805586d18b7ba606fa2b9dbc84820cb175c3e68f4df9682498f5d81f070b"), looks := true }, kinds := [], alts := [], laidByText := true, laidKinds := [.data, .data, .data, .data, .sentinel, .sentinel, .pinned], laidTests := true, laidLooks := .later }
def GuideTablesUptoCardSaid : Prop := Claim7.holds Tryd.pinned (.plain (OpenSpec.upto guideTablesSpec)) guideTablesUptoCard

/-- THE SECOND FORM's CARD OF 'finesselaw30.GuideReads'. -/
def guideReadsUptoCard : Claim7 := { stood := { row := guideReadsUptoRow, standIns := [], harness := (true, "a354805586d18b7ba606fa2b9dbc84820cb175c3e68f4df9682498f5d81f070b"), looks := true }, kinds := [], alts := [], laidByText := true, laidKinds := [.data, .data, .data, .data, .sentinel, .sentinel, .pinned], laidTests := true, laidLooks := .later }
def GuideReadsUptoCardSaid : Prop := Claim7.holds Tryd.pinned (.plain (OpenSpec.upto guideReadsSpec)) guideReadsUptoCard

/-- THE SECOND FORM's CARD OF 'finesselaw30.GuideSmall'. -/
def guideSmallUptoCard : Claim7 := { stood := { row := guideSmallUptoRow, standIns := [], harness := (true, "a354805586d18b7ba606fa2b9dbc84820cb175c3e68f4df9682498f5d81f070b"), looks := true }, kinds := [], alts := [], laidByText := true, laidKinds := [.data, .data, .data, .data, .sentinel, .sentinel, .pinned], laidTests := true, laidLooks := .later }
def GuideSmallUptoCardSaid : Prop := Claim7.holds Tryd.pinned (.plain (OpenSpec.upto guideSmallSpec)) guideSmallUptoCard

/-- THE SECOND FORM's CARD OF 'finesselaw30.GuideWrong'. -/
def guideWrongUptoCard : Claim7 := { stood := { row := guideWrongUptoRow, standIns := [], harness := (true, "a354805586d18b7ba606fa2b9dbc84820cb175c3e68f4df9682498f5d81f070b"), looks := true }, kinds := [], alts := [], laidByText := true, laidKinds := [.data, .data, .data, .data, .sentinel, .sentinel, .pinned], laidTests := true, laidLooks := .later }
def GuideWrongUptoCardSaid : Prop := Claim7.holds Tryd.pinned (.plain (OpenSpec.upto guideWrongSpec)) guideWrongUptoCard

/-- THE SECOND FORM's CARD OF 'finesselaw30.GuideTurned'. -/
def guideTurnedUptoCard : Claim7 := { stood := { row := guideTurnedUptoRow, standIns := [], harness := (true, "a354805586d18b7ba606fa2b9dbc84820cb175c3e68f4df9682498f5d81f070b"), looks := true }, kinds := [], alts := [], laidByText := true, laidKinds := [.data, .data, .data, .data, .sentinel, .sentinel, .pinned], laidTests := true, laidLooks := .later }
def GuideTurnedUptoCardSaid : Prop := Claim7.holds Tryd.pinned (.plain (OpenSpec.upto guideTurnedSpec)) guideTurnedUptoCard
end Rows
end Go.Proofs.YtidpfggikighlaaDoor
