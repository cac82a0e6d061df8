/-
  A call without arguments, carried out: states (printed by a program of ours) and legs (checked by the kernel). A call without arguments, carried out: states (printed by a program of ours) and legs (checked by the kernel). A call without arguments, carried out: states (printed by a program of ours) and legs (checked by the kernel).
-/
import Derived.Test.YtldkniahgagocaaGreatKSkS0
import Derived.KernelRfl
set_option linter.all false
namespace Go.Proofs.YtldkniahgagocaaGreat
open Go.Am
set_option maxRecDepth 100000
theorem skLeg35_1:legC prg 21 2206 7 skG35 skS34 skS35 1=true:=by kernel_rfl
theorem skLeg35_2:legC prg 21 2206 7 skG35 skS34 skS35 2=true:=by kernel_rfl
end Go.Proofs.YtldkniahgagocaaGreat
namespace Go.Proofs.YtldkniahgagocaaGreat
open Go.Am
set_option maxRecDepth 100000
theorem skLeg35_3:legC prg 21 2206 7 skG35 skS34 skS35 3=true:=by kernel_rfl
theorem skLeg35_4:legC prg 21 2206 7 skG35 skS34 skS35 4=true:=by kernel_rfl
end Go.Proofs.YtldkniahgagocaaGreat
namespace Go.Proofs.YtldkniahgagocaaGreat
open Go.Am
set_option maxRecDepth 100000
theorem skEnd:legFEnd prg 8318 skS35=true:=by kernel_rfl
end Go.Proofs.YtldkniahgagocaaGreat
