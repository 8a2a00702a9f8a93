/-
  DERIVED. GIVEN WITH THE SEED: THE CARDS: each row of YtcnflmbnnobocaaDoorRows.lean that lists a variable, with what it lists TIED to the program's text (the seventh form; the later family's looks); each row that meets fmt, with fmt's text TOLD by the authors' own Lean function (tested against real Go, not proved from fmt's source: count such statements apart). THE CARD IS WHAT COUNTS. Prove the row's statement (the work); the ties are given (YtcnflmbnnobocaaDoorTie.lean); close each card by the builder's one call (the guide's Derived/Test/ToyasCard.lean, 'card_holds'). Laid BY PROGRAM, IN A SANDBOX (cutbox-door.mjs). By AI agents, Wed Nov 11 2026. No macro, syntax, notation, axiom, sorry.
-/
import Derived.Test.YtcnflmbnnobocaaDoorRows
import GoSem.ClaimSeven
namespace Go.Proofs.YtcnflmbnnobocaaDoor
namespace Rows

/-- THE TIED CARD OF 'tempolaw20.MaterialCounts'. -/
def materialCountsCard : Claim7 := { stood := { row := materialCountsRow, standIns := [], harness := (true, "35aadd17b4bec18edb0c100a335ec1113145cb3621979f1aeca9b72affd2b341"), looks := true }, kinds := [], alts := [], laidByText := true, laidKinds := [.data, .data, .data, .data, .sentinel, .sentinel, .data, .pinned], laidTests := true, laidLooks := .later }
def MaterialCountsCardSaid : Prop := Claim7.holds Tryd.pinned (.plain (OpenSpec.ofChange materialCountsSpec)) materialCountsCard

/-- THE TIED CARD OF 'tempolaw20.MaterialSigns'. -/
def materialSignsCard : Claim7 := { stood := { row := materialSignsRow, standIns := [], harness := (true, "35aadd17b4bec18edb0c100a335ec1113145cb3621979f1aeca9b72affd2b341"), looks := true }, kinds := [], alts := [], laidByText := true, laidKinds := [.data, .data, .data, .data, .sentinel, .sentinel, .data, .pinned], laidTests := true, laidLooks := .later }
def MaterialSignsCardSaid : Prop := Claim7.holds Tryd.pinned (.plain (OpenSpec.ofChange materialSignsSpec)) materialSignsCard

/-- THE TIED CARD OF 'tempolaw20.MaterialReads'. -/
def materialReadsCard : Claim7 := { stood := { row := materialReadsRow, standIns := [], harness := (true, "35aadd17b4bec18edb0c100a335ec1113145cb3621979f1aeca9b72affd2b341"), looks := true }, kinds := [], alts := [], laidByText := true, laidKinds := [.data, .data, .data, .data, .sentinel, .sentinel, .data, .pinned], laidTests := true, laidLooks := .later }
def MaterialReadsCardSaid : Prop := Claim7.holds Tryd.pinned (.plain (OpenSpec.ofChange materialReadsSpec)) materialReadsCard

/-- THE TIED CARD OF 'tempolaw20.MaterialBack'. -/
def materialBackCard : Claim7 := { stood := { row := materialBackRow, standIns := [], harness := (true, "35aadd17b4bec18edb0c100a335ec1113145cb3621979f1aeca9b72affd2b341"), looks := true }, kinds := [], alts := [], laidByText := true, laidKinds := [.data, .data, .data, .data, .sentinel, .sentinel, .data, .pinned], laidTests := true, laidLooks := .later }
def MaterialBackCardSaid : Prop := Claim7.holds Tryd.pinned (.plain (OpenSpec.ofChange materialBackSpec)) materialBackCard

/-- THE TIED CARD OF 'tempolaw20.MaterialReadBack'. -/
def materialReadBackCard : Claim7 := { stood := { row := materialReadBackRow, standIns := [], harness := (true, "35aadd17b4bec18edb0c100a335ec1113145cb3621979f1aeca9b72affd2b341"), looks := true }, kinds := [], alts := [], laidByText := true, laidKinds := [.data, .data, .data, .data, .sentinel, .sentinel, .data, .pinned], laidTests := true, laidLooks := .later }
def MaterialReadBackCardSaid : Prop := Claim7.holds Tryd.pinned (.plain (OpenSpec.ofChange materialReadBackSpec)) materialReadBackCard

/-- THE TIED CARD OF 'tempolaw20.MaterialBoards'. -/
def materialBoardsCard : Claim7 := { stood := { row := materialBoardsRow, standIns := [], harness := (true, "35aadd17b4bec18edb0c100a335ec1113145cb3621979f1aeca9b72affd2b341"), looks := true }, kinds := [], alts := [], laidByText := true, laidKinds := [.data, .data, .data, .data, .sentinel, .sentinel, .data, .pinned], laidTests := true, laidLooks := .later }
def MaterialBoardsCardSaid : Prop := Claim7.holds Tryd.pinned (.plain (OpenSpec.ofChange materialBoardsSpec)) materialBoardsCard

/-- THE TIED CARD OF 'tempolaw20.MaterialOdd'. -/
def materialOddCard : Claim7 := { stood := { row := materialOddRow, standIns := [], harness := (true, "35aadd17b4bec18edb0c100a335ec1113145cb3621979f1aeca9b72affd2b341"), looks := true }, kinds := [], alts := [], laidByText := true, laidKinds := [.data, .data, .data, .data, .sentinel, .sentinel, .data, .pinned], laidTests := true, laidLooks := .later }
def MaterialOddCardSaid : Prop := Claim7.holds Tryd.pinned (.plain (OpenSpec.ofChange materialOddSpec)) materialOddCard

/-- THE TIED CARD OF 'tempolaw20.MaterialRefuses'. -/
def materialRefusesCard : Claim7 := { stood := { row := materialRefusesRow, standIns := [], harness := (true, "35aadd17b4bec18edb0c100a335ec1113145cb3621979f1aeca9b72affd2b341"), looks := true }, kinds := [], alts := [], laidByText := true, laidKinds := [.data, .data, .data, .data, .sentinel, .sentinel, .data, .pinned], laidTests := true, laidLooks := .later }
def MaterialRefusesCardSaid : Prop := Claim7.holds Tryd.pinned (.plain (OpenSpec.ofChange materialRefusesSpec)) materialRefusesCard

/-- THE SECOND FORM's CARD OF 'tempolaw20.MaterialCounts'. -/
def materialCountsUptoCard : Claim7 := { stood := { row := materialCountsUptoRow, standIns := [], harness := (true, "35aadd17b4bec18edb0c100a335ec1113145cb3621979f1aeca9b72affd2b341"), looks := true }, kinds := [], alts := [], laidByText := true, laidKinds := [.data, .data, .data, .data, .sentinel, .sentinel, .data, .pinned], laidTests := true, laidLooks := .later }
def MaterialCountsUptoCardSaid : Prop := Claim7.holds Tryd.pinned (.plain (OpenSpec.upto materialCountsSpec)) materialCountsUptoCard

/-- THE SECOND FORM's CARD OF 'tempolaw20.MaterialSigns'. -/
def materialSignsUptoCard : Claim7 := { stood := { row := materialSignsUptoRow, standIns := [], harness := (true, "35aadd17b4bec18edb0c100a335ec1113145cb3621979f1aeca9b72affd2b341"), looks := true }, kinds := [], alts := [], laidByText := true, laidKinds := [.data, .data, .data, .data, .sentinel, .sentinel, .data, .pinned], laidTests := true, laidLooks := .later }
def MaterialSignsUptoCardSaid : Prop := Claim7.holds Tryd.pinned (.plain (OpenSpec.upto materialSignsSpec)) materialSignsUptoCard

/-- THE SECOND FORM's CARD OF 'tempolaw20.MaterialReads'. -/
def materialReadsUptoCard : Claim7 := { stood := { row := materialReadsUptoRow, standIns := [], harness := (true, "35aadd17b4bec18edb0c100a335ec1113145cb3621979f1aeca9b72affd2b341"), looks := true }, kinds := [], alts := [], laidByText := true, laidKinds := [.data, .data, .data, .data, .sentinel, .sentinel, .data, .pinned], laidTests := true, laidLooks := .later }
def MaterialReadsUptoCardSaid : Prop := Claim7.holds Tryd.pinned (.plain (OpenSpec.upto materialReadsSpec)) materialReadsUptoCard

/-- THE SECOND FORM's CARD OF 'tempolaw20.MaterialBack'. -/
def materialBackUptoCard : Claim7 := { stood := { row := materialBackUptoRow, standIns := [], harness := (true, "35aadd17b4bec18edb0c100a335ec1113145cb3621979f1aeca9b72affd2b341"), looks := true }, kinds := [], alts := [], laidByText := true, laidKinds := [.data, .data, .data, .data, .sentinel, .sentinel, .data, .pinned], laidTests := true, laidLooks := .later }
def MaterialBackUptoCardSaid : Prop := Claim7.holds Tryd.pinned (.plain (OpenSpec.upto materialBackSpec)) materialBackUptoCard

/-- THE SECOND FORM's CARD OF 'tempolaw20.MaterialReadBack'. -/
def materialReadBackUptoCard : Claim7 := { stood := { row := materialReadBackUptoRow, standIns := [], harness := (true, "35aadd17b4bec18edb0c100a335ec1113145cb3621979f1aeca9b72affd2b341"), looks := true }, kinds := [], alts := [], laidByText := true, laidKinds := [.data, .data, .data, .data, .sentinel, .sentinel, .data, .pinned], laidTests := true, laidLooks := .later }
def MaterialReadBackUptoCardSaid : Prop := Claim7.holds Tryd.pinned (.plain (OpenSpec.upto materialReadBackSpec)) materialReadBackUptoCard

/-- THE SECOND FORM's CARD OF 'tempolaw20.MaterialBoards'. -/
def materialBoardsUptoCard : Claim7 := { stood := { row := materialBoardsUptoRow, standIns := [], harness := (true, "35aadd17b4bec18edb0c100a335ec1113145cb3621979f1aeca9b72affd2b341"), looks := true }, kinds := [], alts := [], laidByText := true, laidKinds := [.data, .data, .data, .data, .sentinel, .sentinel, .data, .pinned], laidTests := true, laidLooks := .later }
def MaterialBoardsUptoCardSaid : Prop := Claim7.holds Tryd.pinned (.plain (OpenSpec.upto materialBoardsSpec)) materialBoardsUptoCard

/-- THE SECOND FORM's CARD OF 'tempolaw20.MaterialOdd'. -/
def materialOddUptoCard : Claim7 := { stood := { row := materialOddUptoRow, standIns := [], harness := (true, "35aadd17b4bec18edb0c100a335ec1113145cb3621979f1aeca9b72affd2b341"), looks := true }, kinds := [], alts := [], laidByText := true, laidKinds := [.data, .data, .data, .data, .sentinel, .sentinel, .data, .pinned], laidTests := true, laidLooks := .later }
def MaterialOddUptoCardSaid : Prop := Claim7.holds Tryd.pinned (.plain (OpenSpec.upto materialOddSpec)) materialOddUptoCard

/-- THE SECOND FORM's CARD OF 'tempolaw20.MaterialRefuses'. -/
def materialRefusesUptoCard : Claim7 := { stood := { row := materialRefusesUptoRow, standIns := [], harness := (true, "35aadd17b4bec18edb0c100a335ec1113145cb3621979f1aeca9b72affd2b341"), looks := true }, kinds := [], alts := [], laidByText := true, laidKinds := [.data, .data, .data, .data, .sentinel, .sentinel, .data, .pinned], laidTests := true, laidLooks := .later }
def MaterialRefusesUptoCardSaid : Prop := Claim7.holds Tryd.pinned (.plain (OpenSpec.upto materialRefusesSpec)) materialRefusesUptoCard
end Rows
end Go.Proofs.YtcnflmbnnobocaaDoor
