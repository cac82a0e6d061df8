/- A call without arguments, carried out -/
import Derived.Test.YthbmhbldmcbnpaaGreatDoorYTAX
import Derived.KernelRfl
set_option linter.all false
namespace Go.Proofs.YthbmhbldmcbnpaaGreatDoor
open Go.Am
set_option maxRecDepth 100000
theorem Ia:fq prg 1378 22 skG11 LV LU=true:=by kernel_rfl
theorem HZ:gQ prg 24089 skG12 LU LR=true:=by kernel_rfl
theorem HY:fq prg 1378 22 skG13 LR LQ=true:=by kernel_rfl
theorem HX:gQ prg 24039 skG14 LQ LP=true:=by kernel_rfl
theorem HW:fq prg 1378 22 skG15 LP LO=true:=by kernel_rfl
open Go.Am
set_option maxRecDepth 100000
theorem HV:gQ prg 24089 skG16 LO LN=true:=by kernel_rfl
theorem HU:fq prg 1378 22 skG17 LN LM=true:=by kernel_rfl
theorem HT:gQ prg 7978 skG18 LM LK=true:=by kernel_rfl
theorem HS:fq prg 1950 12 skG19 LK LJ=true:=by kernel_rfl
theorem HQ:gQ prg 17004 skG20 LJ LI=true:=by kernel_rfl
theorem HP:fq prg 1664 22 skG21 LI LH=true:=by kernel_rfl
theorem HO:gQ prg 606 skG22 LH LG=true:=by kernel_rfl
theorem HN:fq prg 1856 24 skG23 LG LF=true:=by kernel_rfl
theorem HM:gQ prg 522 skG24 LF LD=true:=by kernel_rfl
theorem HL:fq prg 1664 24 skG25 LD LC=true:=by kernel_rfl
end Go.Proofs.YthbmhbldmcbnpaaGreatDoor
