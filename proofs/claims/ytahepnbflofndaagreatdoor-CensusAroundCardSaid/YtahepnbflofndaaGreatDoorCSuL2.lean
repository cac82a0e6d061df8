/-
  A call without arguments, carried out: states (printed by a program of ours) and legs (checked by the kernel).
-/
import Derived.Test.YtahepnbflofndaaGreatDoorCSuS0
import Derived.KernelRfl
set_option linter.all false
namespace Go.Proofs.YtahepnbflofndaaGreatDoor
open Go.Am
set_option maxRecDepth 100000
theorem suLeg11:legF prg 25123 suG11 suS10 suS11=true:=by kernel_rfl
theorem suLeg12:legF prg 10519 suG12 suS11 suS12=true:=by kernel_rfl
theorem suLeg13:legBF prg 1378 32 suG13 suS12 suS13=true:=by kernel_rfl
theorem suLeg14:legF prg 24089 suG14 suS13 suS14=true:=by kernel_rfl
theorem suLeg15:legBF prg 1378 32 suG15 suS14 suS15=true:=by kernel_rfl
end Go.Proofs.YtahepnbflofndaaGreatDoor
