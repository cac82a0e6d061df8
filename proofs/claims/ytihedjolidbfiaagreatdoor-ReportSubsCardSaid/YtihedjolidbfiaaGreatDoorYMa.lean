/-
  A call without arguments, carried out: states (printed by a program of ours) and legs (checked by the kernel). A call without arguments, carried out: states (printed by a program of ours) and legs (checked by the kernel). A call without arguments, carried out: states (printed by a program of ours) and legs (checked by the kernel).
-/
import Derived.Test.YtihedjolidbfiaaGreatDoorYSqS1
import Derived.KernelRfl
set_option linter.all false
namespace Go.Proofs.YtihedjolidbfiaaGreatDoor
open Go.Am
set_option maxRecDepth 100000
theorem sqLeg1:legF prg 25681 sqG1 sqS0 sqS1=true:=by kernel_rfl
theorem sqLeg2:legF prg 25012 sqG2 sqS1 sqS2=true:=by kernel_rfl
theorem sqLeg3:legF prg 25095 sqG3 sqS2 sqS3=true:=by kernel_rfl
end Go.Proofs.YtihedjolidbfiaaGreatDoor
namespace Go.Proofs.YtihedjolidbfiaaGreatDoor
open Go.Am
set_option maxRecDepth 100000
theorem sqLeg4:legF prg 25127 sqG4 sqS3 sqS4=true:=by kernel_rfl
theorem sqLeg5:legF prg 25002 sqG5 sqS4 sqS5=true:=by kernel_rfl
theorem sqLeg6:legF prg 25073 sqG6 sqS5 sqS6=true:=by kernel_rfl
end Go.Proofs.YtihedjolidbfiaaGreatDoor
namespace Go.Proofs.YtihedjolidbfiaaGreatDoor
open Go.Am
set_option maxRecDepth 100000
theorem sqLeg7:legF prg 25169 sqG7 sqS6 sqS7=true:=by kernel_rfl
theorem sqLeg8:legF prg 25118 sqG8 sqS7 sqS8=true:=by kernel_rfl
theorem sqLeg9:legF prg 25021 sqG9 sqS8 sqS9=true:=by kernel_rfl
end Go.Proofs.YtihedjolidbfiaaGreatDoor
