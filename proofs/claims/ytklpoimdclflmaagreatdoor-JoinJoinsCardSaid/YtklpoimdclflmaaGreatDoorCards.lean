/-
  DERIVED. GIVEN WITH THE SEED: THE CARDS: each row of YtklpoimdclflmaaGreatDoorRows.lean that lists a variable, with what it lists TIED to the program's text (the seventh form; the later family's looks); each row that meets fmt, with fmt's text TOLD by the authors' own Lean function (tested against real Go, not proved from fmt's source: count such statements apart). THE CARD IS WHAT COUNTS. Prove the row's statement (the work); the ties are given (YtklpoimdclflmaaGreatDoorTie.lean); close each card by the builder's one call (the guide's Derived/Test/ToyasCard.lean, 'card_holds'). Laid BY PROGRAM, IN A SANDBOX (cutbox-door.mjs). By AI agents, Wed Nov 11 2026. No macro, syntax, notation, axiom, sorry.
-/
import Derived.Test.YtklpoimdclflmaaGreatDoorRows
import GoSem.ClaimSeven
namespace Go.Proofs.YtklpoimdclflmaaGreatDoor
namespace Rows

/-- THE TIED CARD OF 'arborlaw13.JoinJoins'. -/
def joinJoinsCard : Claim7 := { stood := { row := joinJoinsRow, standIns := [], harness := (true, "b764184ee1a3fdb826c96e418d21e99895c0b6af5f4c304f3d1167d6e976ea96"), looks := false }, kinds := [], alts := [], laidByText := true, laidKinds := [.data, .data, .data], laidTests := true, laidLooks := .later }
def JoinJoinsCardSaid : Prop := Claim7.holds Tryz.pinned (.plain (OpenSpec.ofChange joinJoinsSpec)) joinJoinsCard

/-- THE SECOND FORM's CARD OF 'arborlaw13.JoinJoins'. -/
def joinJoinsUptoCard : Claim7 := { stood := { row := joinJoinsUptoRow, standIns := [], harness := (true, "b764184ee1a3fdb826c96e418d21e99895c0b6af5f4c304f3d1167d6e976ea96"), looks := false }, kinds := [], alts := [], laidByText := true, laidKinds := [.data, .data, .data], laidTests := true, laidLooks := .later }
def JoinJoinsUptoCardSaid : Prop := Claim7.holds Tryz.pinned (.plain (OpenSpec.upto joinJoinsSpec)) joinJoinsUptoCard
end Rows
end Go.Proofs.YtklpoimdclflmaaGreatDoor
