/-
  DERIVED. GIVEN WITH THE SEED: THE CARDS: each row of YtmibmlioidpogaaGreatDoorRows.lean that lists a variable, with what it lists TIED to the program's text (the seventh form; the later family's looks); each row that meets fmt, with fmt's text TOLD by the authors' own Lean function (tested against real Go, not proved from fmt's source: count such statements apart). THE CARD IS WHAT COUNTS. Prove the row's statement (the work); the ties are given (YtmibmlioidpogaaGreatDoorTie.lean); close each card by the builder's one call (the guide's Derived/Test/ToyasCard.lean, 'card_holds'). Laid BY PROGRAM, IN A SANDBOX (cutbox-door.mjs). By AI agents, Wed Nov 11 2026. No macro, syntax, notation, axiom, sorry.
-/
import Derived.Test.YtmibmlioidpogaaGreatDoorRows
import GoSem.ClaimSeven
namespace Go.Proofs.YtmibmlioidpogaaGreatDoor
namespace Rows

/-- THE TIED CARD OF 'arborlaw10.SweepFlat'. -/
def sweepFlatCard : Claim7 := { stood := { row := sweepFlatRow, standIns := [], harness := (true, "0f4ace10040c0306ee08f2d9edc062422ed90cc780e6f59222b5653f480125de"), looks := false }, kinds := [], alts := [], laidByText := true, laidKinds := [.data, .data, .data], laidTests := true, laidLooks := .later }
def SweepFlatCardSaid : Prop := Claim7.holds Tryz.pinned (.plain (OpenSpec.ofChange sweepFlatSpec)) sweepFlatCard

/-- THE SECOND FORM's CARD OF 'arborlaw10.SweepFlat'. -/
def sweepFlatUptoCard : Claim7 := { stood := { row := sweepFlatUptoRow, standIns := [], harness := (true, "0f4ace10040c0306ee08f2d9edc062422ed90cc780e6f59222b5653f480125de"), looks := false }, kinds := [], alts := [], laidByText := true, laidKinds := [.data, .data, .data], laidTests := true, laidLooks := .later }
def SweepFlatUptoCardSaid : Prop := Claim7.holds Tryz.pinned (.plain (OpenSpec.upto sweepFlatSpec)) sweepFlatUptoCard
end Rows
end Go.Proofs.YtmibmlioidpogaaGreatDoor
