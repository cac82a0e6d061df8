/-
  A call without arguments, carried out: states (printed by a program of ours) and legs (checked by the kernel). A call without arguments, carried out: states (printed by a program of ours) and legs (checked by the kernel). A call without arguments, carried out: states (printed by a program of ours) and legs (checked by the kernel).
-/
import Derived.Test.YtihedjolidbfiaaGreatDoorYSqS1
import Derived.KernelRfl
set_option linter.all false
namespace Go.Proofs.YtihedjolidbfiaaGreatDoor
open Go.Am
set_option maxRecDepth 100000
theorem sqLeg28:legF prg 25059 sqG28 sqS27 sqS28=true:=by kernel_rfl
theorem sqLeg29:legF prg 25017 sqG29 sqS28 sqS29=true:=by kernel_rfl
theorem sqLeg30:legF prg 25007 sqG30 sqS29 sqS30=true:=by kernel_rfl
end Go.Proofs.YtihedjolidbfiaaGreatDoor
namespace Go.Proofs.YtihedjolidbfiaaGreatDoor
open Go.Am
set_option maxRecDepth 100000
theorem sqLeg31:legF prg 25111 sqG31 sqS30 sqS31=true:=by kernel_rfl
theorem sqLeg32:legF prg 25050 sqG32 sqS31 sqS32=true:=by kernel_rfl
theorem sqLeg33:legF prg 25025 sqG33 sqS32 sqS33=true:=by kernel_rfl
end Go.Proofs.YtihedjolidbfiaaGreatDoor
namespace Go.Proofs.YtihedjolidbfiaaGreatDoor
open Go.Am
set_option maxRecDepth 100000
theorem sqLeg34:legF prg 25146 sqG34 sqS33 sqS34=true:=by kernel_rfl
theorem sqLeg35:legF prg 25187 sqG35 sqS34 sqS35=true:=by kernel_rfl
theorem sqLeg36:legF prg 25011 sqG36 sqS35 sqS36=true:=by kernel_rfl
end Go.Proofs.YtihedjolidbfiaaGreatDoor
