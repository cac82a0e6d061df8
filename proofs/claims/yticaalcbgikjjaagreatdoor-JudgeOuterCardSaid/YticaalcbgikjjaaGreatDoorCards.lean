/-
  DERIVED. GIVEN WITH THE SEED: THE CARDS: each row of YticaalcbgikjjaaGreatDoorRows.lean that lists a variable, with what it lists TIED to the program's text (the seventh form; the later family's looks); each row that meets fmt, with fmt's text TOLD by the authors' own Lean function (tested against real Go, not proved from fmt's source: count such statements apart). THE CARD IS WHAT COUNTS. Prove the row's statement (the work); the ties are given (YticaalcbgikjjaaGreatDoorTie.lean); close each card by the builder's one call (the guide's Derived/Test/ToyasCard.lean, 'card_holds'). Laid BY PROGRAM, IN A SANDBOX (cutbox-door.mjs). By AI agents, Wed Nov 11 2026. No macro, syntax, notation, axiom, sorry.
-/
import Derived.Test.YticaalcbgikjjaaGreatDoorRows
import GoSem.ClaimSeven
namespace Go.Proofs.YticaalcbgikjjaaGreatDoor
namespace Rows

/-- THE TIED CARD OF 'arborlaw26.JudgeOuter'. -/
def judgeOuterCard : Claim7 := { stood := { row := judgeOuterRow, standIns := [], harness := (true, "bd30277d5cab62199067215bd623593820b2d3af0290e2e7a65ccf2469aa4333"), looks := false }, kinds := [], alts := [], laidByText := true, laidKinds := [.data, .data, .data], laidTests := true, laidLooks := .later }
def JudgeOuterCardSaid : Prop := Claim7.holds Tryz.pinned (.plain (OpenSpec.ofChange judgeOuterSpec)) judgeOuterCard

/-- THE SECOND FORM's CARD OF 'arborlaw26.JudgeOuter'. -/
def judgeOuterUptoCard : Claim7 := { stood := { row := judgeOuterUptoRow, standIns := [], harness := (true, "bd30277d5cab62199067215bd623593820b2d3af0290e2e7a65ccf2469aa4333"), looks := false }, kinds := [], alts := [], laidByText := true, laidKinds := [.data, .data, .data], laidTests := true, laidLooks := .later }
def JudgeOuterUptoCardSaid : Prop := Claim7.holds Tryz.pinned (.plain (OpenSpec.upto judgeOuterSpec)) judgeOuterUptoCard
end Rows
end Go.Proofs.YticaalcbgikjjaaGreatDoor
