/-
  A call without arguments, carried out: states (printed by a program of ours) and legs (checked by the kernel).
-/
import Derived.Test.YtjcbcmonmmfllaaGreatDoorSpS
import Derived.KernelRfl
namespace Go.Proofs.YtjcbcmonmmfllaaGreatDoor
set_option linter.unusedVariables false
set_option linter.unusedSimpArgs false
open Go.Am
set_option maxRecDepth 100000

theorem spLeg4 : leg prg 12009 spS3 spS4 = true := by kernel_rfl
theorem spLeg5 : leg prg 12492 spS4 spS5 = true := by kernel_rfl
theorem spLeg6 : leg prg 12070 spS5 spS6 = true := by kernel_rfl

end Go.Proofs.YtjcbcmonmmfllaaGreatDoor
