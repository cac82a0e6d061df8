/-
  The definition's side: a front: Ready. The definition's side: a front: Place. The definition's side: Of: is a plan one of a good graph? The definition's side: Run.
-/
import Derived.Test.YtihedjolidbfiaaGreatDoorYLi
set_option linter.all false
namespace Go.Proofs.YtihedjolidbfiaaGreatDoor
open Go.Am
end Go.Proofs.YtihedjolidbfiaaGreatDoor
namespace Go.Proofs.YtihedjolidbfiaaGreatDoor
open Go.Am
end Go.Proofs.YtihedjolidbfiaaGreatDoor
namespace Go.Proofs.YtihedjolidbfiaaGreatDoor
open Go.Am
end Go.Proofs.YtihedjolidbfiaaGreatDoor
namespace Go.Proofs.YtihedjolidbfiaaGreatDoor
open Go.Am
end Go.Proofs.YtihedjolidbfiaaGreatDoor
