/-
  A call without arguments, carried out: states (printed by a program of ours) and legs (checked by the kernel). A call without arguments, carried out: states (printed by a program of ours) and legs (checked by the kernel). A call without arguments, carried out: states (printed by a program of ours) and legs (checked by the kernel).
-/
import Derived.Test.YtihedjolidbfiaaGreatDoorYSqS1
import Derived.KernelRfl
set_option linter.all false
namespace Go.Proofs.YtihedjolidbfiaaGreatDoor
open Go.Am
set_option maxRecDepth 100000
theorem sqLeg10:legF prg 25067 sqG10 sqS9 sqS10=true:=by kernel_rfl
theorem sqLeg11:legF prg 25144 sqG11 sqS10 sqS11=true:=by kernel_rfl
theorem sqLeg12:legF prg 25032 sqG12 sqS11 sqS12=true:=by kernel_rfl
end Go.Proofs.YtihedjolidbfiaaGreatDoor
namespace Go.Proofs.YtihedjolidbfiaaGreatDoor
open Go.Am
set_option maxRecDepth 100000
theorem sqLeg13:legF prg 25001 sqG13 sqS12 sqS13=true:=by kernel_rfl
theorem sqLeg14:legF prg 25164 sqG14 sqS13 sqS14=true:=by kernel_rfl
theorem sqLeg15:legF prg 25009 sqG15 sqS14 sqS15=true:=by kernel_rfl
end Go.Proofs.YtihedjolidbfiaaGreatDoor
namespace Go.Proofs.YtihedjolidbfiaaGreatDoor
open Go.Am
set_option maxRecDepth 100000
theorem sqLeg16:legF prg 25066 sqG16 sqS15 sqS16=true:=by kernel_rfl
theorem sqLeg17:legF prg 25151 sqG17 sqS16 sqS17=true:=by kernel_rfl
theorem sqLeg18:legF prg 25136 sqG18 sqS17 sqS18=true:=by kernel_rfl
end Go.Proofs.YtihedjolidbfiaaGreatDoor
