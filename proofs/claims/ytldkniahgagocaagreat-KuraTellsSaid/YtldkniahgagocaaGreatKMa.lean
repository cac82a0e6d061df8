/-
  A call without arguments, carried out: states (printed by a program of ours) and legs (checked by the kernel). A call without arguments, carried out: states (printed by a program of ours) and legs (checked by the kernel). A call without arguments, carried out: states (printed by a program of ours) and legs (checked by the kernel).
-/
import Derived.Test.YtldkniahgagocaaGreatKSkS0
import Derived.KernelRfl
set_option linter.all false
namespace Go.Proofs.YtldkniahgagocaaGreat
open Go.Am
set_option maxRecDepth 100000
theorem skLeg1:legF prg 25033 skG1 skS0 skS1=true:=by kernel_rfl
theorem skLeg2:legF prg 25016 skG2 skS1 skS2=true:=by kernel_rfl
theorem skLeg3:legF prg 25030 skG3 skS2 skS3=true:=by kernel_rfl
end Go.Proofs.YtldkniahgagocaaGreat
namespace Go.Proofs.YtldkniahgagocaaGreat
open Go.Am
set_option maxRecDepth 100000
theorem skLeg4:legF prg 25236 skG4 skS3 skS4=true:=by kernel_rfl
theorem skLeg5:legF prg 25016 skG5 skS4 skS5=true:=by kernel_rfl
theorem skLeg6:legF prg 25051 skG6 skS5 skS6=true:=by kernel_rfl
end Go.Proofs.YtldkniahgagocaaGreat
namespace Go.Proofs.YtldkniahgagocaaGreat
open Go.Am
set_option maxRecDepth 100000
theorem skLeg7:legF prg 25141 skG7 skS6 skS7=true:=by kernel_rfl
theorem skLeg8:legF prg 25079 skG8 skS7 skS8=true:=by kernel_rfl
theorem skLeg9:legF prg 25110 skG9 skS8 skS9=true:=by kernel_rfl
end Go.Proofs.YtldkniahgagocaaGreat
