/- A call without arguments, carried out -/
import Derived.Test.YthbmhbldmcbnpaaGreatDoorYTAX
import Derived.KernelRfl
set_option linter.all false
namespace Go.Proofs.YthbmhbldmcbnpaaGreatDoor
open Go.Am
set_option maxRecDepth 100000
theorem Nm:gQ prg 8913 skG1 skS0 skS1=true:=by kernel_rfl
theorem Nl:fq prg 1950 12 skG2 skS1 skS2=true:=by kernel_rfl
theorem Nk:gQ prg 25153 skG3 skS2 skS3=true:=by kernel_rfl
theorem Nj:gQ prg 10519 skG4 skS3 skS4=true:=by kernel_rfl
theorem Ni:fq prg 1378 22 skG5 skS4 skS5=true:=by kernel_rfl
open Go.Am
set_option maxRecDepth 100000
theorem Nh:gQ prg 25123 skG6 skS5 skS6=true:=by kernel_rfl
theorem Ng:gQ prg 10519 skG7 skS6 skS7=true:=by kernel_rfl
theorem Nf:fq prg 1378 22 skG8 skS7 skS8=true:=by kernel_rfl
theorem Nd:gQ prg 25123 skG9 skS8 skS9=true:=by kernel_rfl
theorem Ib:gQ prg 10519 skG10 skS9 LV=true:=by kernel_rfl
end Go.Proofs.YthbmhbldmcbnpaaGreatDoor
