/- A call without arguments, carried out -/
import Derived.Test.YtcfncejilmimpaaGreatVTAT
set_option linter.all false
namespace Go.Proofs.YtcfncejilmimpaaGreat
open Go.Am
set_option maxRecDepth 100000
theorem JU:pU prg 79436 skG11 Mt Ms=true:=by kernel_rfl
open Go.Am
set_option maxRecDepth 100000
theorem JT:pU prg 3509 skG12 Ms sY=true:=by kernel_rfl
theorem Gm:legN prg 21 sY 5=true:=by kernel_rfl
theorem DU:BC prg 21 2206 7 yP sY vz 0=true:=by kernel_rfl
end Go.Proofs.YtcfncejilmimpaaGreat
