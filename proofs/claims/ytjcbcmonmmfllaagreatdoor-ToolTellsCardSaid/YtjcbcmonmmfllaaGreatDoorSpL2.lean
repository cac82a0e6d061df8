/-
  A call without arguments, carried out: states (printed by a program of ours) and legs (checked by the kernel).
-/
import Derived.Test.YtjcbcmonmmfllaaGreatDoorSpS
import Derived.KernelRfl
namespace Go.Proofs.YtjcbcmonmmfllaaGreatDoor
set_option linter.unusedVariables false
set_option linter.unusedSimpArgs false
open Go.Am
set_option maxRecDepth 100000

theorem spLeg7 : leg prg 12043 spS6 spS7 = true := by kernel_rfl
theorem spLeg8 : leg prg 12131 spS7 spS8 = true := by kernel_rfl
theorem spLeg9 : leg prg 12036 spS8 spS9 = true := by kernel_rfl

end Go.Proofs.YtjcbcmonmmfllaaGreatDoor
