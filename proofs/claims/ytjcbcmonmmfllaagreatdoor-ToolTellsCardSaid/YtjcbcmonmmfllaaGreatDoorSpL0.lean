/-
  A call without arguments, carried out: states (printed by a program of ours) and legs (checked by the kernel).
-/
import Derived.Test.YtjcbcmonmmfllaaGreatDoorSpS
import Derived.KernelRfl
namespace Go.Proofs.YtjcbcmonmmfllaaGreatDoor
set_option linter.unusedVariables false
set_option linter.unusedSimpArgs false
open Go.Am
set_option maxRecDepth 100000

theorem spLeg1 : leg prg 12023 spS0 spS1 = true := by kernel_rfl
theorem spLeg2 : leg prg 12002 spS1 spS2 = true := by kernel_rfl
theorem spLeg3 : leg prg 12147 spS2 spS3 = true := by kernel_rfl

end Go.Proofs.YtjcbcmonmmfllaaGreatDoor
