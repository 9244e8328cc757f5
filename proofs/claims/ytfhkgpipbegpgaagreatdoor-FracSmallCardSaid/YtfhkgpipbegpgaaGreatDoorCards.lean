/-
  DERIVED. GIVEN WITH THE SEED: THE CARDS: each row of YtfhkgpipbegpgaaGreatDoorRows.lean that lists a variable, with what it lists TIED to the program's text (the seventh form; the later family's looks); each row that meets fmt, with fmt's text TOLD by the authors' own Lean function (tested against real Go, not proved from fmt's source: count such statements apart). THE CARD IS WHAT COUNTS. Prove the row's statement (the work); the ties are given (YtfhkgpipbegpgaaGreatDoorTie.lean); close each card by the builder's one call (the guide's Derived/Test/ToyasCard.lean, 'card_holds'). Laid BY PROGRAM, IN A SANDBOX (cutbox-door.mjs). By AI agents, Wed Nov 11 2026. No macro, syntax, notation, axiom, sorry.
-/
import Derived.Test.YtfhkgpipbegpgaaGreatDoorRows
import GoSem.ClaimSeven
namespace Go.Proofs.YtfhkgpipbegpgaaGreatDoor
namespace Rows

/-- THE TIED CARD OF 'finesselaw01.FracTells'. -/
def fracTellsCard : Claim7 := { stood := { row := fracTellsRow, standIns := [], harness := (true, "8920802a58cd73e084a9cff5882dc826dc6d70239e1fc33b77d2aad2997819ee"), looks := true }, kinds := [], alts := [], laidByText := true, laidKinds := [.data, .data, .data, .sentinel, .sentinel], laidTests := true, laidLooks := .later }
def FracTellsCardSaid : Prop := Claim7.holds Tryz.pinned (.plain (OpenSpec.ofChange fracTellsSpec)) fracTellsCard

/-- THE TIED CARD OF 'finesselaw01.FracSums'. -/
def fracSumsCard : Claim7 := { stood := { row := fracSumsRow, standIns := [], harness := (true, "8920802a58cd73e084a9cff5882dc826dc6d70239e1fc33b77d2aad2997819ee"), looks := true }, kinds := [], alts := [], laidByText := true, laidKinds := [.data, .data, .data, .sentinel, .sentinel], laidTests := true, laidLooks := .later }
def FracSumsCardSaid : Prop := Claim7.holds Tryz.pinned (.plain (OpenSpec.ofChange fracSumsSpec)) fracSumsCard

/-- THE TIED CARD OF 'finesselaw01.FracSmall'. -/
def fracSmallCard : Claim7 := { stood := { row := fracSmallRow, standIns := [], harness := (true, "8920802a58cd73e084a9cff5882dc826dc6d70239e1fc33b77d2aad2997819ee"), looks := true }, kinds := [], alts := [], laidByText := true, laidKinds := [.data, .data, .data, .sentinel, .sentinel, .data], laidTests := true, laidLooks := .later }
def FracSmallCardSaid : Prop := Claim7.holds Tryz.pinned (.plain (OpenSpec.ofChange fracSmallSpec)) fracSmallCard

/-- THE SECOND FORM's CARD OF 'finesselaw01.FracTells'. -/
def fracTellsUptoCard : Claim7 := { stood := { row := fracTellsUptoRow, standIns := [], harness := (true, "8920802a58cd73e084a9cff5882dc826dc6d70239e1fc33b77d2aad2997819ee"), looks := true }, kinds := [], alts := [], laidByText := true, laidKinds := [.data, .data, .data, .sentinel, .sentinel], laidTests := true, laidLooks := .later }
def FracTellsUptoCardSaid : Prop := Claim7.holds Tryz.pinned (.plain (OpenSpec.upto fracTellsSpec)) fracTellsUptoCard

/-- THE SECOND FORM's CARD OF 'finesselaw01.FracSums'. -/
def fracSumsUptoCard : Claim7 := { stood := { row := fracSumsUptoRow, standIns := [], harness := (true, "8920802a58cd73e084a9cff5882dc826dc6d70239e1fc33b77d2aad2997819ee"), looks := true }, kinds := [], alts := [], laidByText := true, laidKinds := [.data, .data, .data, .sentinel, .sentinel], laidTests := true, laidLooks := .later }
def FracSumsUptoCardSaid : Prop := Claim7.holds Tryz.pinned (.plain (OpenSpec.upto fracSumsSpec)) fracSumsUptoCard

/-- THE SECOND FORM's CARD OF 'finesselaw01.FracSmall'. -/
def fracSmallUptoCard : Claim7 := { stood := { row := fracSmallUptoRow, standIns := [], harness := (true, "8920802a58cd73e084a9cff5882dc826dc6d70239e1fc33b77d2aad2997819ee"), looks := true }, kinds := [], alts := [], laidByText := true, laidKinds := [.data, .data, .data, .sentinel, .sentinel, .data], laidTests := true, laidLooks := .later }
def FracSmallUptoCardSaid : Prop := Claim7.holds Tryz.pinned (.plain (OpenSpec.upto fracSmallSpec)) fracSmallUptoCard
end Rows
end Go.Proofs.YtfhkgpipbegpgaaGreatDoor
