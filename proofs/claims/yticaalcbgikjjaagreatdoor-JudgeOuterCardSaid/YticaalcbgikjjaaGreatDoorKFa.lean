/-
  Closed facts of the program's text that the row of JudgeOuter rests on.
-/
import Derived.Test.YticaalcbgikjjaaGreatDoorRows
import Derived.WalkKit
import Derived.ProofKit
import Derived.OpenShut
import Derived.Stop.Joined
import Derived.Deep.Matrix
set_option linter.all false
namespace Go.Proofs.YticaalcbgikjjaaGreatDoor
theorem laidOut:laidOutB Tryz.prog=true:=by kernel_rfl
theorem rowedMaps:mapsRowed Tryz.prog=true:=by kernel_rfl
theorem heardStops:Tryz.prog.stopsHeard=true:=by kernel_rfl
theorem mayEnter:Tryz.prog.mayEnter=true:=by kernel_rfl
end Go.Proofs.YticaalcbgikjjaaGreatDoor
