/-
  DERIVED. GIVEN WITH THE SEED: THE CARDS: each row of YtahepnbflofndaaGreatDoorRows.lean that lists a variable, with what it lists TIED to the program's text (the seventh form; the later family's looks); each row that meets fmt, with fmt's text TOLD by the authors' own Lean function (tested against real Go, not proved from fmt's source: count such statements apart). THE CARD IS WHAT COUNTS. Prove the row's statement (the work); the ties are given (YtahepnbflofndaaGreatDoorTie.lean); close each card by the builder's one call (the guide's Derived/Test/ToyasCard.lean, 'card_holds'). Laid BY PROGRAM, IN A SANDBOX (cutbox-door.mjs). By AI agents, Wed Nov 11 2026. No macro, syntax, notation, axiom, sorry.
-/
import Derived.Test.YtahepnbflofndaaGreatDoorRows
import GoSem.ClaimSeven
namespace Go.Proofs.YtahepnbflofndaaGreatDoor
namespace Rows

/-- THE TIED CARD OF 'arborlaw15.CensusAround'. -/
def censusAroundCard : Claim7 := { stood := { row := censusAroundRow, standIns := [], harness := (true, "e88c2fa8cd4e20d495daa7755a73ca1a72d6d356d4e057cfa261ccde057cadeb"), looks := false }, kinds := [], alts := [], laidByText := true, laidKinds := [.data], laidTests := true, laidLooks := .later }
def CensusAroundCardSaid : Prop := Claim7.holds Tryz.pinned (.plain (OpenSpec.ofChange censusAroundSpec)) censusAroundCard

/-- THE TIED CARD OF 'arborlaw14.SplitRight'. -/
def splitRightCard : Claim7 := { stood := { row := splitRightRow, standIns := [], harness := (true, "e88c2fa8cd4e20d495daa7755a73ca1a72d6d356d4e057cfa261ccde057cadeb"), looks := false }, kinds := [], alts := [], laidByText := true, laidKinds := [.data], laidTests := true, laidLooks := .later }
def SplitRightCardSaid : Prop := Claim7.holds Tryz.pinned (.plain (OpenSpec.ofChange splitRightSpec)) splitRightCard

/-- THE TIED CARD OF 'arborlaw13.JoinParts'. -/
def joinPartsCard : Claim7 := { stood := { row := joinPartsRow, standIns := [], harness := (true, "e88c2fa8cd4e20d495daa7755a73ca1a72d6d356d4e057cfa261ccde057cadeb"), looks := false }, kinds := [], alts := [], laidByText := true, laidKinds := [.data, .data, .data], laidTests := true, laidLooks := .later }
def JoinPartsCardSaid : Prop := Claim7.holds Tryz.pinned (.plain (OpenSpec.ofChange joinPartsSpec)) joinPartsCard

/-- THE TIED CARD OF 'arborlaw13.JoinCuts'. -/
def joinCutsCard : Claim7 := { stood := { row := joinCutsRow, standIns := [], harness := (true, "e88c2fa8cd4e20d495daa7755a73ca1a72d6d356d4e057cfa261ccde057cadeb"), looks := false }, kinds := [], alts := [], laidByText := true, laidKinds := [.data, .data, .data], laidTests := true, laidLooks := .later }
def JoinCutsCardSaid : Prop := Claim7.holds Tryz.pinned (.plain (OpenSpec.ofChange joinCutsSpec)) joinCutsCard

/-- THE TIED CARD OF 'arborlaw13.JoinJoins'. -/
def joinJoinsCard : Claim7 := { stood := { row := joinJoinsRow, standIns := [], harness := (true, "e88c2fa8cd4e20d495daa7755a73ca1a72d6d356d4e057cfa261ccde057cadeb"), looks := false }, kinds := [], alts := [], laidByText := true, laidKinds := [.data, .data, .data], laidTests := true, laidLooks := .later }
def JoinJoinsCardSaid : Prop := Claim7.holds Tryz.pinned (.plain (OpenSpec.ofChange joinJoinsSpec)) joinJoinsCard

/-- THE SECOND FORM's CARD OF 'arborlaw15.CensusAround'. -/
def censusAroundUptoCard : Claim7 := { stood := { row := censusAroundUptoRow, standIns := [], harness := (true, "e88c2fa8cd4e20d495daa7755a73ca1a72d6d356d4e057cfa261ccde057cadeb"), looks := false }, kinds := [], alts := [], laidByText := true, laidKinds := [.data], laidTests := true, laidLooks := .later }
def CensusAroundUptoCardSaid : Prop := Claim7.holds Tryz.pinned (.plain (OpenSpec.upto censusAroundSpec)) censusAroundUptoCard

/-- THE SECOND FORM's CARD OF 'arborlaw14.SplitRight'. -/
def splitRightUptoCard : Claim7 := { stood := { row := splitRightUptoRow, standIns := [], harness := (true, "e88c2fa8cd4e20d495daa7755a73ca1a72d6d356d4e057cfa261ccde057cadeb"), looks := false }, kinds := [], alts := [], laidByText := true, laidKinds := [.data], laidTests := true, laidLooks := .later }
def SplitRightUptoCardSaid : Prop := Claim7.holds Tryz.pinned (.plain (OpenSpec.upto splitRightSpec)) splitRightUptoCard

/-- THE SECOND FORM's CARD OF 'arborlaw13.JoinParts'. -/
def joinPartsUptoCard : Claim7 := { stood := { row := joinPartsUptoRow, standIns := [], harness := (true, "e88c2fa8cd4e20d495daa7755a73ca1a72d6d356d4e057cfa261ccde057cadeb"), looks := false }, kinds := [], alts := [], laidByText := true, laidKinds := [.data, .data, .data], laidTests := true, laidLooks := .later }
def JoinPartsUptoCardSaid : Prop := Claim7.holds Tryz.pinned (.plain (OpenSpec.upto joinPartsSpec)) joinPartsUptoCard

/-- THE SECOND FORM's CARD OF 'arborlaw13.JoinCuts'. -/
def joinCutsUptoCard : Claim7 := { stood := { row := joinCutsUptoRow, standIns := [], harness := (true, "e88c2fa8cd4e20d495daa7755a73ca1a72d6d356d4e057cfa261ccde057cadeb"), looks := false }, kinds := [], alts := [], laidByText := true, laidKinds := [.data, .data, .data], laidTests := true, laidLooks := .later }
def JoinCutsUptoCardSaid : Prop := Claim7.holds Tryz.pinned (.plain (OpenSpec.upto joinCutsSpec)) joinCutsUptoCard

/-- THE SECOND FORM's CARD OF 'arborlaw13.JoinJoins'. -/
def joinJoinsUptoCard : Claim7 := { stood := { row := joinJoinsUptoRow, standIns := [], harness := (true, "e88c2fa8cd4e20d495daa7755a73ca1a72d6d356d4e057cfa261ccde057cadeb"), looks := false }, kinds := [], alts := [], laidByText := true, laidKinds := [.data, .data, .data], laidTests := true, laidLooks := .later }
def JoinJoinsUptoCardSaid : Prop := Claim7.holds Tryz.pinned (.plain (OpenSpec.upto joinJoinsSpec)) joinJoinsUptoCard
end Rows
end Go.Proofs.YtahepnbflofndaaGreatDoor
