/-
  A call without arguments, carried out: states (printed by a program of ours) and legs (checked by the kernel). A call without arguments, carried out: states (printed by a program of ours) and legs (checked by the kernel). A call without arguments, carried out: states (printed by a program of ours) and legs (checked by the kernel).
-/
import Derived.Test.YtldkniahgagocaaGreatKSkS0
import Derived.KernelRfl
set_option linter.all false
namespace Go.Proofs.YtldkniahgagocaaGreat
open Go.Am
set_option maxRecDepth 100000
theorem skLeg28:legF prg 25026 skG28 skS27 skS28=true:=by kernel_rfl
theorem skLeg29:legF prg 25016 skG29 skS28 skS29=true:=by kernel_rfl
theorem skLeg30:legF prg 25005 skG30 skS29 skS30=true:=by kernel_rfl
end Go.Proofs.YtldkniahgagocaaGreat
namespace Go.Proofs.YtldkniahgagocaaGreat
open Go.Am
set_option maxRecDepth 100000
theorem skLeg31:legF prg 25022 skG31 skS30 skS31=true:=by kernel_rfl
theorem skLeg32:legF prg 25020 skG32 skS31 skS32=true:=by kernel_rfl
theorem skLeg33:legF prg 25006 skG33 skS32 skS33=true:=by kernel_rfl
end Go.Proofs.YtldkniahgagocaaGreat
namespace Go.Proofs.YtldkniahgagocaaGreat
open Go.Am
set_option maxRecDepth 100000
theorem skLeg34:legF prg 19164 skG34 skS33 skS34=true:=by kernel_rfl
theorem skLeg35N:legN prg 21 skS34 5=true:=by kernel_rfl
theorem skLeg35_0:legC prg 21 2206 7 skG35 skS34 skS35 0=true:=by kernel_rfl
end Go.Proofs.YtldkniahgagocaaGreat
