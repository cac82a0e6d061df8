/-
  What all texts here stand on.
-/
import Derived.Test.YtjcbcmonmmfllaaGreatDoorRf
import Derived.Test.YtjcbcmonmmfllaaGreatDoorAmS
import Derived.IntWalk
namespace Go.Proofs.YtjcbcmonmmfllaaGreatDoor
set_option linter.unusedVariables false
set_option linter.unusedSimpArgs false
open Go.Am

theorem capA_nils : capA .nils = some (.int .i64 0) := rfl

end Go.Proofs.YtjcbcmonmmfllaaGreatDoor
