/-
  A call without arguments, carried out: states (printed by a program of ours) and legs (checked by the kernel).
-/
import Derived.Test.YtihedjolidbfiaaGreatDoorXSpS
import Derived.KernelRfl
set_option linter.all false
namespace Go.Proofs.YtihedjolidbfiaaGreatDoor
open Go.Am
set_option maxRecDepth 100000
theorem spLeg2:leg prg 24100 spS1 spS2=true:=by kernel_rfl
end Go.Proofs.YtihedjolidbfiaaGreatDoor
