/-
  DERIVED. GIVEN WITH THE SEED: THE CARDS: each row of YthbmhbldmcbnpaaGreatDoorRows.lean that lists a variable, with what it lists TIED to the program's text (the seventh form; the later family's looks); each row that meets fmt, with fmt's text TOLD by the authors' own Lean function (tested against real Go, not proved from fmt's source: count such statements apart). THE CARD IS WHAT COUNTS. Prove the row's statement (the work); the ties are given (YthbmhbldmcbnpaaGreatDoorTie.lean); close each card by the builder's one call (the guide's Derived/Test/ToyasCard.lean, 'card_holds'). Laid BY PROGRAM, IN A SANDBOX (cutbox-door.mjs). By AI agents, Wed Nov 11 2026. No macro, syntax, notation, axiom, sorry.
-/
import Derived.Test.YthbmhbldmcbnpaaGreatDoorRows
import GoSem.ClaimSeven
namespace Go.Proofs.YthbmhbldmcbnpaaGreatDoor
namespace Rows

/-- THE TIED CARD OF 'arborlaw14.SplitRight'. -/
def splitRightCard : Claim7 := { stood := { row := splitRightRow, standIns := [], harness := (true, "637089dfd6bc45656c5ddabe54f4372790c0a2fce471a9c7d4dc9515a4445179"), looks := false }, kinds := [], alts := [], laidByText := true, laidKinds := [.data], laidTests := true, laidLooks := .later }
def SplitRightCardSaid : Prop := Claim7.holds Tryz.pinned (.plain (OpenSpec.ofChange splitRightSpec)) splitRightCard

/-- THE SECOND FORM's CARD OF 'arborlaw14.SplitRight'. -/
def splitRightUptoCard : Claim7 := { stood := { row := splitRightUptoRow, standIns := [], harness := (true, "637089dfd6bc45656c5ddabe54f4372790c0a2fce471a9c7d4dc9515a4445179"), looks := false }, kinds := [], alts := [], laidByText := true, laidKinds := [.data], laidTests := true, laidLooks := .later }
def SplitRightUptoCardSaid : Prop := Claim7.holds Tryz.pinned (.plain (OpenSpec.upto splitRightSpec)) splitRightUptoCard
end Rows
end Go.Proofs.YthbmhbldmcbnpaaGreatDoor
