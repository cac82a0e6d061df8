/-
  DERIVED. GIVEN WITH THE SEED: THE CARDS: each row of YtjcbcmonmmfllaaGreatDoorRows.lean that lists a variable, with what it lists TIED to the program's text (the seventh form; the later family's looks); each row that meets fmt, with fmt's text TOLD by the authors' own Lean function (tested against real Go, not proved from fmt's source: count such statements apart). THE CARD IS WHAT COUNTS. Prove the row's statement (the work); the ties are given (YtjcbcmonmmfllaaGreatDoorTie.lean); close each card by the builder's one call (the guide's Derived/Test/ToyasCard.lean, 'card_holds'). Laid BY PROGRAM, IN A SANDBOX (cutbox-door.mjs). By AI agents, Wed Nov 11 2026. No macro, syntax, notation, axiom, sorry.
-/
import Derived.Test.YtjcbcmonmmfllaaGreatDoorRows
import GoSem.ClaimSeven
namespace Go.Proofs.YtjcbcmonmmfllaaGreatDoor
namespace Rows

/-- THE TIED CARD OF 'arborlaw27.ToolTells'. -/
def toolTellsCard : Claim7 := { stood := { row := toolTellsRow, standIns := [], harness := (true, "1bac3749ff9a8c14c99d84c0a2c65a52b7da0fb2a8030bc4a1ac9327d02389d5"), looks := false }, kinds := [], alts := [], laidByText := true, laidKinds := [.data, .data, .data], laidTests := true, laidLooks := .later }
def ToolTellsCardSaid : Prop := Claim7.holds Tryz.pinned (.plain (OpenSpec.ofChange toolTellsSpec)) toolTellsCard

/-- THE SECOND FORM's CARD OF 'arborlaw27.ToolTells'. -/
def toolTellsUptoCard : Claim7 := { stood := { row := toolTellsUptoRow, standIns := [], harness := (true, "1bac3749ff9a8c14c99d84c0a2c65a52b7da0fb2a8030bc4a1ac9327d02389d5"), looks := false }, kinds := [], alts := [], laidByText := true, laidKinds := [.data, .data, .data], laidTests := true, laidLooks := .later }
def ToolTellsUptoCardSaid : Prop := Claim7.holds Tryz.pinned (.plain (OpenSpec.upto toolTellsSpec)) toolTellsUptoCard
end Rows
end Go.Proofs.YtjcbcmonmmfllaaGreatDoor
