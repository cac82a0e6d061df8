/-
  A call without arguments, carried out: states (printed by a program of ours) and legs (checked by the kernel).
-/
import Derived.Test.YtjcbcmonmmfllaaGreatDoorSpS
import Derived.KernelRfl
namespace Go.Proofs.YtjcbcmonmmfllaaGreatDoor
set_option linter.unusedVariables false
set_option linter.unusedSimpArgs false
open Go.Am
set_option maxRecDepth 100000

theorem spLeg10 : leg prg 12001 spS9 spS10 = true := by kernel_rfl
theorem spEnd : legEnd prg 12067 spS10 = true := by kernel_rfl

end Go.Proofs.YtjcbcmonmmfllaaGreatDoor
