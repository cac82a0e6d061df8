/-
  What the row of JudgeOuter says of the functions that it reaches.
-/
import Derived.Test.YticaalcbgikjjaaGreatDoorRows
import Derived.WalkKit
import Derived.ProofKit
import Derived.OpenShut
import Derived.Stop.Joined
import Derived.Deep.Matrix
set_option linter.all false
namespace Go.Proofs.YticaalcbgikjjaaGreatDoor
theorem inPlace3:(Rows.judgeOuterRow.inPlace==Tryz.prog.inPlace 3)=true:=by kernel_rfl
theorem unfollowed3:(Rows.judgeOuterRow.unfollowed==Tryz.prog.unfollowed 3)=true:=by kernel_rfl
end Go.Proofs.YticaalcbgikjjaaGreatDoor
