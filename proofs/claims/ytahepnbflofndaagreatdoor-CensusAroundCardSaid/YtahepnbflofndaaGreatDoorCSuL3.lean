/-
  A call without arguments, carried out: states (printed by a program of ours) and legs (checked by the kernel).
-/
import Derived.Test.YtahepnbflofndaaGreatDoorCSuS0
import Derived.KernelRfl
set_option linter.all false
namespace Go.Proofs.YtahepnbflofndaaGreatDoor
open Go.Am
set_option maxRecDepth 100000
theorem suLeg16:legF prg 24039 suG16 suS15 suS16=true:=by kernel_rfl
theorem suLeg17:legBF prg 1378 32 suG17 suS16 suS17=true:=by kernel_rfl
theorem suLeg18:legF prg 24089 suG18 suS17 suS18=true:=by kernel_rfl
theorem suLeg19:legBF prg 1378 32 suG19 suS18 suS19=true:=by kernel_rfl
theorem suEnd:legFEnd prg 7359 suS19=true:=by kernel_rfl
end Go.Proofs.YtahepnbflofndaaGreatDoor
