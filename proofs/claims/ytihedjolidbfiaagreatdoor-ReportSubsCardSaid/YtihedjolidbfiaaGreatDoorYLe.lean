/-
  graph.View.cycle: that there is one. graph.Check: whether there is a fault; front.New.
-/
import Derived.Test.YtihedjolidbfiaaGreatDoorYLc
import Derived.Test.YtihedjolidbfiaaGreatDoorYLd
set_option linter.all false
namespace Go.Proofs.YtihedjolidbfiaaGreatDoor
open Go.Am Go.Sort
end Go.Proofs.YtihedjolidbfiaaGreatDoor
namespace Go.Proofs.YtihedjolidbfiaaGreatDoor
open Go.Am
end Go.Proofs.YtihedjolidbfiaaGreatDoor
