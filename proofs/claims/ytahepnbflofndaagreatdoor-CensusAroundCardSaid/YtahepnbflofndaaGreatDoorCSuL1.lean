/-
  A call without arguments, carried out: states (printed by a program of ours) and legs (checked by the kernel).
-/
import Derived.Test.YtahepnbflofndaaGreatDoorCSuS0
import Derived.KernelRfl
set_option linter.all false
namespace Go.Proofs.YtahepnbflofndaaGreatDoor
open Go.Am
set_option maxRecDepth 100000
theorem suLeg5:legF prg 25153 suG5 suS4 suS5=true:=by kernel_rfl
theorem suLeg6:legF prg 10519 suG6 suS5 suS6=true:=by kernel_rfl
theorem suLeg7:legBF prg 1378 32 suG7 suS6 suS7=true:=by kernel_rfl
theorem suLeg8:legF prg 25123 suG8 suS7 suS8=true:=by kernel_rfl
theorem suLeg9:legF prg 10519 suG9 suS8 suS9=true:=by kernel_rfl
theorem suLeg10:legBF prg 1378 32 suG10 suS9 suS10=true:=by kernel_rfl
end Go.Proofs.YtahepnbflofndaaGreatDoor
