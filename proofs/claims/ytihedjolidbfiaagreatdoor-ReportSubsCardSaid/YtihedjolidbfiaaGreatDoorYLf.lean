/-
  front: span, bare, swap, above. front: a front; swap, above, ready. The row's laws: where a vertex's edges stand, what stays ready, orders, mirrors. front: Place, Ready, Done, Row, New. front: Ready, Done, Row, New.
-/
import Derived.Test.YtihedjolidbfiaaGreatDoorYLe
set_option linter.all false
namespace Go.Proofs.YtihedjolidbfiaaGreatDoor
open Go.Am
end Go.Proofs.YtihedjolidbfiaaGreatDoor
namespace Go.Proofs.YtihedjolidbfiaaGreatDoor
open Go.Am
end Go.Proofs.YtihedjolidbfiaaGreatDoor
namespace Go.Proofs.YtihedjolidbfiaaGreatDoor
open Go.Am
end Go.Proofs.YtihedjolidbfiaaGreatDoor
namespace Go.Proofs.YtihedjolidbfiaaGreatDoor
open Go.Am
end Go.Proofs.YtihedjolidbfiaaGreatDoor
namespace Go.Proofs.YtihedjolidbfiaaGreatDoor
open Go.Am
end Go.Proofs.YtihedjolidbfiaaGreatDoor
