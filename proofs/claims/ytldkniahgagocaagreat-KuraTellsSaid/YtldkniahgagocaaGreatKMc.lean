/-
  A call without arguments, carried out: states (printed by a program of ours) and legs (checked by the kernel). A call without arguments, carried out: states (printed by a program of ours) and legs (checked by the kernel). A call without arguments, carried out: states (printed by a program of ours) and legs (checked by the kernel).
-/
import Derived.Test.YtldkniahgagocaaGreatKSkS0
import Derived.KernelRfl
set_option linter.all false
namespace Go.Proofs.YtldkniahgagocaaGreat
open Go.Am
set_option maxRecDepth 100000
theorem skLeg19:legF prg 25027 skG19 skS18 skS19=true:=by kernel_rfl
theorem skLeg20:legF prg 25010 skG20 skS19 skS20=true:=by kernel_rfl
theorem skLeg21:legF prg 25048 skG21 skS20 skS21=true:=by kernel_rfl
end Go.Proofs.YtldkniahgagocaaGreat
namespace Go.Proofs.YtldkniahgagocaaGreat
open Go.Am
set_option maxRecDepth 100000
theorem skLeg22:legF prg 25117 skG22 skS21 skS22=true:=by kernel_rfl
theorem skLeg23:legF prg 25014 skG23 skS22 skS23=true:=by kernel_rfl
theorem skLeg24:legF prg 25153 skG24 skS23 skS24=true:=by kernel_rfl
end Go.Proofs.YtldkniahgagocaaGreat
namespace Go.Proofs.YtldkniahgagocaaGreat
open Go.Am
set_option maxRecDepth 100000
theorem skLeg25:legF prg 25094 skG25 skS24 skS25=true:=by kernel_rfl
theorem skLeg26:legF prg 25051 skG26 skS25 skS26=true:=by kernel_rfl
theorem skLeg27:legF prg 25080 skG27 skS26 skS27=true:=by kernel_rfl
end Go.Proofs.YtldkniahgagocaaGreat
