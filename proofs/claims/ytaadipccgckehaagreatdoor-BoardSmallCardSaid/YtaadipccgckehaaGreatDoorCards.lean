/-
  DERIVED. GIVEN WITH THE SEED: THE CARDS: each row of YtaadipccgckehaaGreatDoorRows.lean that lists a variable, with what it lists TIED to the program's text (the seventh form; the later family's looks); each row that meets fmt, with fmt's text TOLD by the authors' own Lean function (tested against real Go, not proved from fmt's source: count such statements apart). THE CARD IS WHAT COUNTS. Prove the row's statement (the work); the ties are given (YtaadipccgckehaaGreatDoorTie.lean); close each card by the builder's one call (the guide's Derived/Test/ToyasCard.lean, 'card_holds'). Laid BY PROGRAM, IN A SANDBOX (cutbox-door.mjs). By AI agents, Wed Nov 11 2026. No macro, syntax, notation, axiom, sorry.
-/
import Derived.Test.YtaadipccgckehaaGreatDoorRows
import GoSem.ClaimSeven
namespace Go.Proofs.YtaadipccgckehaaGreatDoor
namespace Rows

/-- THE TIED CARD OF 'finesselaw07.BoardRecords'. -/
def boardRecordsCard : Claim7 := { stood := { row := boardRecordsRow, standIns := [], harness := (true, "d10a22dee2a705698fbebe234b894c60581baa26da29d411d3687fbfbcf5ff32"), looks := true }, kinds := [], alts := [], laidByText := true, laidKinds := [.data, .data, .data, .data, .sentinel, .sentinel, .data, .pinned], laidTests := true, laidLooks := .later }
def BoardRecordsCardSaid : Prop := Claim7.holds Tryz.pinned (.plain (OpenSpec.ofChange boardRecordsSpec)) boardRecordsCard

/-- THE TIED CARD OF 'finesselaw07.BoardSmall'. -/
def boardSmallCard : Claim7 := { stood := { row := boardSmallRow, standIns := [], harness := (true, "d10a22dee2a705698fbebe234b894c60581baa26da29d411d3687fbfbcf5ff32"), looks := true }, kinds := [], alts := [], laidByText := true, laidKinds := [.data, .data, .data, .data, .sentinel, .sentinel, .data, .pinned], laidTests := true, laidLooks := .later }
def BoardSmallCardSaid : Prop := Claim7.holds Tryz.pinned (.plain (OpenSpec.ofChange boardSmallSpec)) boardSmallCard

/-- THE SECOND FORM's CARD OF 'finesselaw07.BoardRecords'. -/
def boardRecordsUptoCard : Claim7 := { stood := { row := boardRecordsUptoRow, standIns := [], harness := (true, "d10a22dee2a705698fbebe234b894c60581baa26da29d411d3687fbfbcf5ff32"), looks := true }, kinds := [], alts := [], laidByText := true, laidKinds := [.data, .data, .data, .data, .sentinel, .sentinel, .data, .pinned], laidTests := true, laidLooks := .later }
def BoardRecordsUptoCardSaid : Prop := Claim7.holds Tryz.pinned (.plain (OpenSpec.upto boardRecordsSpec)) boardRecordsUptoCard

/-- THE SECOND FORM's CARD OF 'finesselaw07.BoardSmall'. -/
def boardSmallUptoCard : Claim7 := { stood := { row := boardSmallUptoRow, standIns := [], harness := (true, "d10a22dee2a705698fbebe234b894c60581baa26da29d411d3687fbfbcf5ff32"), looks := true }, kinds := [], alts := [], laidByText := true, laidKinds := [.data, .data, .data, .data, .sentinel, .sentinel, .data, .pinned], laidTests := true, laidLooks := .later }
def BoardSmallUptoCardSaid : Prop := Claim7.holds Tryz.pinned (.plain (OpenSpec.upto boardSmallSpec)) boardSmallUptoCard
end Rows
end Go.Proofs.YtaadipccgckehaaGreatDoor
