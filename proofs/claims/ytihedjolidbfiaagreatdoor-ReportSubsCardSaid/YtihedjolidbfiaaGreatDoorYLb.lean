/-
  graph.Of; there, Outs, Ins. Taking vertices away one by one: plain facts. graph.View.run, Sources.
-/
import Derived.Test.YtihedjolidbfiaaGreatDoorYLa
set_option linter.all false
namespace Go.Proofs.YtihedjolidbfiaaGreatDoor
open Go.Am
end Go.Proofs.YtihedjolidbfiaaGreatDoor
namespace Go.Proofs.YtihedjolidbfiaaGreatDoor
open Go.Am
end Go.Proofs.YtihedjolidbfiaaGreatDoor
namespace Go.Proofs.YtihedjolidbfiaaGreatDoor
open Go.Am
end Go.Proofs.YtihedjolidbfiaaGreatDoor
