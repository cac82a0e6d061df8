/-
  A call without arguments, carried out: states (printed by a program of ours) and legs (checked by the kernel).
-/
import Derived.Test.YtihedjolidbfiaaGreatDoorXSpS
import Derived.KernelRfl
set_option linter.all false
namespace Go.Proofs.YtihedjolidbfiaaGreatDoor
open Go.Am
set_option maxRecDepth 100000
theorem spEnd:legEnd prg 23710 spS2=true:=by kernel_rfl
end Go.Proofs.YtihedjolidbfiaaGreatDoor
