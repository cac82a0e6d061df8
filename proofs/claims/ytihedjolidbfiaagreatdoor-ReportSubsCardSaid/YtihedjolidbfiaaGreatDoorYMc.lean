/-
  A call without arguments, carried out: states (printed by a program of ours) and legs (checked by the kernel). A call without arguments, carried out: states (printed by a program of ours) and legs (checked by the kernel). A call without arguments, carried out: states (printed by a program of ours) and legs (checked by the kernel).
-/
import Derived.Test.YtihedjolidbfiaaGreatDoorYSqS1
import Derived.KernelRfl
set_option linter.all false
namespace Go.Proofs.YtihedjolidbfiaaGreatDoor
open Go.Am
set_option maxRecDepth 100000
theorem sqLeg19:legF prg 25200 sqG19 sqS18 sqS19=true:=by kernel_rfl
theorem sqLeg20:legF prg 25021 sqG20 sqS19 sqS20=true:=by kernel_rfl
theorem sqLeg21:legF prg 25102 sqG21 sqS20 sqS21=true:=by kernel_rfl
end Go.Proofs.YtihedjolidbfiaaGreatDoor
namespace Go.Proofs.YtihedjolidbfiaaGreatDoor
open Go.Am
set_option maxRecDepth 100000
theorem sqLeg22:legF prg 25148 sqG22 sqS21 sqS22=true:=by kernel_rfl
theorem sqLeg23:legF prg 25034 sqG23 sqS22 sqS23=true:=by kernel_rfl
theorem sqLeg24:legF prg 25054 sqG24 sqS23 sqS24=true:=by kernel_rfl
end Go.Proofs.YtihedjolidbfiaaGreatDoor
namespace Go.Proofs.YtihedjolidbfiaaGreatDoor
open Go.Am
set_option maxRecDepth 100000
theorem sqLeg25:legF prg 25146 sqG25 sqS24 sqS25=true:=by kernel_rfl
theorem sqLeg26:legF prg 25040 sqG26 sqS25 sqS26=true:=by kernel_rfl
theorem sqLeg27:legF prg 25077 sqG27 sqS26 sqS27=true:=by kernel_rfl
end Go.Proofs.YtihedjolidbfiaaGreatDoor
