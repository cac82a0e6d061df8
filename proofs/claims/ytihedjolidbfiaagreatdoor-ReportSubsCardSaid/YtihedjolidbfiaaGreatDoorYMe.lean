/-
  A call without arguments, carried out: states (printed by a program of ours) and legs (checked by the kernel). A call without arguments, carried out: states (printed by a program of ours) and legs (checked by the kernel). A call without arguments, carried out: states (printed by a program of ours) and legs (checked by the kernel). A call without arguments, carried out: states (printed by a program of ours) and legs (checked by the kernel).
-/
import Derived.Test.YtihedjolidbfiaaGreatDoorYSqS1
import Derived.KernelRfl
set_option linter.all false
namespace Go.Proofs.YtihedjolidbfiaaGreatDoor
open Go.Am
set_option maxRecDepth 100000
theorem sqLeg37:legF prg 25069 sqG37 sqS36 sqS37=true:=by kernel_rfl
theorem sqLeg38:legF prg 25008 sqG38 sqS37 sqS38=true:=by kernel_rfl
theorem sqLeg39:legF prg 25026 sqG39 sqS38 sqS39=true:=by kernel_rfl
theorem sqLeg40:legF prg 16940 sqG40 sqS39 sqS40=true:=by kernel_rfl
theorem sqLeg41N:legN prg 21 sqS40 5=true:=by kernel_rfl
end Go.Proofs.YtihedjolidbfiaaGreatDoor
namespace Go.Proofs.YtihedjolidbfiaaGreatDoor
open Go.Am
set_option maxRecDepth 100000
theorem sqLeg41_0:legC prg 21 2206 12 sqG41 sqS40 sqS41 0=true:=by kernel_rfl
theorem sqLeg41_1:legC prg 21 2206 12 sqG41 sqS40 sqS41 1=true:=by kernel_rfl
end Go.Proofs.YtihedjolidbfiaaGreatDoor
namespace Go.Proofs.YtihedjolidbfiaaGreatDoor
open Go.Am
set_option maxRecDepth 100000
theorem sqLeg41_2:legC prg 21 2206 12 sqG41 sqS40 sqS41 2=true:=by kernel_rfl
theorem sqLeg41_3:legC prg 21 2206 12 sqG41 sqS40 sqS41 3=true:=by kernel_rfl
end Go.Proofs.YtihedjolidbfiaaGreatDoor
namespace Go.Proofs.YtihedjolidbfiaaGreatDoor
open Go.Am
set_option maxRecDepth 100000
theorem sqLeg41_4:legC prg 21 2206 12 sqG41 sqS40 sqS41 4=true:=by kernel_rfl
theorem sqEnd:legFEnd prg 8326 sqS41=true:=by kernel_rfl
end Go.Proofs.YtihedjolidbfiaaGreatDoor
