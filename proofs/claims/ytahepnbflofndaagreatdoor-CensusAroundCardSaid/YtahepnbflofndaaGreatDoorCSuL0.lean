/-
  A call without arguments, carried out: states (printed by a program of ours) and legs (checked by the kernel).
-/
import Derived.Test.YtahepnbflofndaaGreatDoorCSuS0
import Derived.KernelRfl
set_option linter.all false
namespace Go.Proofs.YtahepnbflofndaaGreatDoor
open Go.Am
set_option maxRecDepth 100000
theorem suLeg1:legF prg 25044 suG1 suS0 suS1=true:=by kernel_rfl
theorem suLeg2:legF prg 25006 suG2 suS1 suS2=true:=by kernel_rfl
theorem suLeg3:legF prg 10122 suG3 suS2 suS3=true:=by kernel_rfl
theorem suLeg4:legBF prg 1950 22 suG4 suS3 suS4=true:=by kernel_rfl
end Go.Proofs.YtahepnbflofndaaGreatDoor
