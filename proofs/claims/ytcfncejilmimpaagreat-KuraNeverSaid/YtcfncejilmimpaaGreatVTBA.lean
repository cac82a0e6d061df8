/- A call without arguments, carried out -/
import Derived.Test.YtcfncejilmimpaaGreatVTAT
set_option linter.all false
namespace Go.Proofs.YtcfncejilmimpaaGreat
open Go.Am
set_option maxRecDepth 100000
theorem DT:BC prg 21 2206 7 yP sY vz 1=true:=by kernel_rfl
theorem DR:BC prg 21 2206 7 yP sY vz 2=true:=by kernel_rfl
open Go.Am
set_option maxRecDepth 100000
theorem DQ:BC prg 21 2206 7 yP sY vz 3=true:=by kernel_rfl
theorem DN:BC prg 21 2206 7 yP sY vz 4=true:=by kernel_rfl
open Go.Am
set_option maxRecDepth 100000
theorem skEnd:xL prg 8318 vz=true:=by kernel_rfl
end Go.Proofs.YtcfncejilmimpaaGreat
