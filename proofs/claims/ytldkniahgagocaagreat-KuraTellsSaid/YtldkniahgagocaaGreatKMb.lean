/-
  A call without arguments, carried out: states (printed by a program of ours) and legs (checked by the kernel). A call without arguments, carried out: states (printed by a program of ours) and legs (checked by the kernel). A call without arguments, carried out: states (printed by a program of ours) and legs (checked by the kernel).
-/
import Derived.Test.YtldkniahgagocaaGreatKSkS0
import Derived.KernelRfl
set_option linter.all false
namespace Go.Proofs.YtldkniahgagocaaGreat
open Go.Am
set_option maxRecDepth 100000
theorem skLeg10:legF prg 25063 skG10 skS9 skS10=true:=by kernel_rfl
theorem skLeg11:legF prg 25037 skG11 skS10 skS11=true:=by kernel_rfl
theorem skLeg12:legF prg 25058 skG12 skS11 skS12=true:=by kernel_rfl
end Go.Proofs.YtldkniahgagocaaGreat
namespace Go.Proofs.YtldkniahgagocaaGreat
open Go.Am
set_option maxRecDepth 100000
theorem skLeg13:legF prg 25042 skG13 skS12 skS13=true:=by kernel_rfl
theorem skLeg14:legF prg 25006 skG14 skS13 skS14=true:=by kernel_rfl
theorem skLeg15:legF prg 25077 skG15 skS14 skS15=true:=by kernel_rfl
end Go.Proofs.YtldkniahgagocaaGreat
namespace Go.Proofs.YtldkniahgagocaaGreat
open Go.Am
set_option maxRecDepth 100000
theorem skLeg16:legF prg 25013 skG16 skS15 skS16=true:=by kernel_rfl
theorem skLeg17:legF prg 25010 skG17 skS16 skS17=true:=by kernel_rfl
theorem skLeg18:legF prg 25055 skG18 skS17 skS18=true:=by kernel_rfl
end Go.Proofs.YtldkniahgagocaaGreat
