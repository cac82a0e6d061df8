/-
  DERIVED. GIVEN WITH THE SEED: THE CARDS: each row of YtihedjolidbfiaaGreatDoorRows.lean that lists a variable, with what it lists TIED to the program's text (the seventh form; the later family's looks); each row that meets fmt, with fmt's text TOLD by the authors' own Lean function (tested against real Go, not proved from fmt's source: count such statements apart). THE CARD IS WHAT COUNTS. Prove the row's statement (the work); the ties are given (YtihedjolidbfiaaGreatDoorTie.lean); close each card by the builder's one call (the guide's Derived/Test/ToyasCard.lean, 'card_holds'). Laid BY PROGRAM, IN A SANDBOX (cutbox-door.mjs). By AI agents, Wed Nov 11 2026. No macro, syntax, notation, axiom, sorry.
-/
import Derived.Test.YtihedjolidbfiaaGreatDoorRows
import GoSem.ClaimSeven
namespace Go.Proofs.YtihedjolidbfiaaGreatDoor
namespace Rows

/-- THE TIED CARD OF 'arborlaw10.SweepRuns'. -/
def sweepRunsCard : Claim7 := { stood := { row := sweepRunsRow, standIns := [], harness := (true, "08d1fd99cffa7004a6a95a3f568e972f00172f2a3d7b35a38f04d82a7637288b"), looks := false }, kinds := [], alts := [], laidByText := true, laidKinds := [.data, .data, .data], laidTests := true, laidLooks := .later }
def SweepRunsCardSaid : Prop := Claim7.holds Tryz.pinned (.plain (OpenSpec.ofChange sweepRunsSpec)) sweepRunsCard

/-- THE TIED CARD OF 'arborlaw10.SweepAny'. -/
def sweepAnyCard : Claim7 := { stood := { row := sweepAnyRow, standIns := [], harness := (true, "08d1fd99cffa7004a6a95a3f568e972f00172f2a3d7b35a38f04d82a7637288b"), looks := false }, kinds := [], alts := [], laidByText := true, laidKinds := [.data, .data, .data], laidTests := true, laidLooks := .later }
def SweepAnyCardSaid : Prop := Claim7.holds Tryz.pinned (.plain (OpenSpec.ofChange sweepAnySpec)) sweepAnyCard

/-- THE TIED CARD OF 'arborlaw10.SweepMirrors'. -/
def sweepMirrorsCard : Claim7 := { stood := { row := sweepMirrorsRow, standIns := [], harness := (true, "08d1fd99cffa7004a6a95a3f568e972f00172f2a3d7b35a38f04d82a7637288b"), looks := false }, kinds := [], alts := [], laidByText := true, laidKinds := [.data, .data, .data], laidTests := true, laidLooks := .later }
def SweepMirrorsCardSaid : Prop := Claim7.holds Tryz.pinned (.plain (OpenSpec.ofChange sweepMirrorsSpec)) sweepMirrorsCard

/-- THE TIED CARD OF 'arborlaw24.ReportSubs'. -/
def reportSubsCard : Claim7 := { stood := { row := reportSubsRow, standIns := [], harness := (true, "08d1fd99cffa7004a6a95a3f568e972f00172f2a3d7b35a38f04d82a7637288b"), looks := false }, kinds := [], alts := [], laidByText := true, laidKinds := [.data, .data, .data], laidTests := true, laidLooks := .later }
def ReportSubsCardSaid : Prop := Claim7.holds Tryz.pinned (.plain (OpenSpec.ofChange reportSubsSpec)) reportSubsCard

/-- THE SECOND FORM's CARD OF 'arborlaw10.SweepRuns'. -/
def sweepRunsUptoCard : Claim7 := { stood := { row := sweepRunsUptoRow, standIns := [], harness := (true, "08d1fd99cffa7004a6a95a3f568e972f00172f2a3d7b35a38f04d82a7637288b"), looks := false }, kinds := [], alts := [], laidByText := true, laidKinds := [.data, .data, .data], laidTests := true, laidLooks := .later }
def SweepRunsUptoCardSaid : Prop := Claim7.holds Tryz.pinned (.plain (OpenSpec.upto sweepRunsSpec)) sweepRunsUptoCard

/-- THE SECOND FORM's CARD OF 'arborlaw10.SweepAny'. -/
def sweepAnyUptoCard : Claim7 := { stood := { row := sweepAnyUptoRow, standIns := [], harness := (true, "08d1fd99cffa7004a6a95a3f568e972f00172f2a3d7b35a38f04d82a7637288b"), looks := false }, kinds := [], alts := [], laidByText := true, laidKinds := [.data, .data, .data], laidTests := true, laidLooks := .later }
def SweepAnyUptoCardSaid : Prop := Claim7.holds Tryz.pinned (.plain (OpenSpec.upto sweepAnySpec)) sweepAnyUptoCard

/-- THE SECOND FORM's CARD OF 'arborlaw10.SweepMirrors'. -/
def sweepMirrorsUptoCard : Claim7 := { stood := { row := sweepMirrorsUptoRow, standIns := [], harness := (true, "08d1fd99cffa7004a6a95a3f568e972f00172f2a3d7b35a38f04d82a7637288b"), looks := false }, kinds := [], alts := [], laidByText := true, laidKinds := [.data, .data, .data], laidTests := true, laidLooks := .later }
def SweepMirrorsUptoCardSaid : Prop := Claim7.holds Tryz.pinned (.plain (OpenSpec.upto sweepMirrorsSpec)) sweepMirrorsUptoCard

/-- THE SECOND FORM's CARD OF 'arborlaw24.ReportSubs'. -/
def reportSubsUptoCard : Claim7 := { stood := { row := reportSubsUptoRow, standIns := [], harness := (true, "08d1fd99cffa7004a6a95a3f568e972f00172f2a3d7b35a38f04d82a7637288b"), looks := false }, kinds := [], alts := [], laidByText := true, laidKinds := [.data, .data, .data], laidTests := true, laidLooks := .later }
def ReportSubsUptoCardSaid : Prop := Claim7.holds Tryz.pinned (.plain (OpenSpec.upto reportSubsSpec)) reportSubsUptoCard
end Rows
end Go.Proofs.YtihedjolidbfiaaGreatDoor
