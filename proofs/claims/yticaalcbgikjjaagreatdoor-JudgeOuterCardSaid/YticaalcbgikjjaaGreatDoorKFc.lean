/-
  What the row of JudgeOuter says of the functions that it reaches: loops and variables.
-/
import Derived.Test.YticaalcbgikjjaaGreatDoorRows
import Derived.WalkKit
import Derived.ProofKit
import Derived.OpenShut
import Derived.Stop.Joined
import Derived.Deep.Matrix
set_option linter.all false
namespace Go.Proofs.YticaalcbgikjjaaGreatDoor
theorem recurses3:(Rows.judgeOuterRow.recurses==Tryz.prog.recurses 3)=true:=by kernel_rfl
theorem named3:(Rows.judgeOuterRow.named==Tryz.prog.varsNamed 3)=true:=by kernel_rfl
end Go.Proofs.YticaalcbgikjjaaGreatDoor
