/-
  The definition's side: cycle. The definition's side: Check, Good.
-/
import Derived.Test.YtihedjolidbfiaaGreatDoorYLh
set_option linter.all false
namespace Go.Proofs.YtihedjolidbfiaaGreatDoor
open Go.Am
end Go.Proofs.YtihedjolidbfiaaGreatDoor
namespace Go.Proofs.YtihedjolidbfiaaGreatDoor
open Go.Am
end Go.Proofs.YtihedjolidbfiaaGreatDoor
