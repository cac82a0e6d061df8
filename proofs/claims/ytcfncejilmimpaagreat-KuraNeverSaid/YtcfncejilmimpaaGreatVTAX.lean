/- A call without arguments, carried out -/
import Derived.Test.YtcfncejilmimpaaGreatVTAT
set_option linter.all false
namespace Go.Proofs.YtcfncejilmimpaaGreat
open Go.Am
set_option maxRecDepth 100000
theorem MS:pU prg 79407 skG7 skS6 skS7=true:=by kernel_rfl
open Go.Am
set_option maxRecDepth 100000
theorem MR:pU prg 79261 skG8 skS7 skS8=true:=by kernel_rfl
end Go.Proofs.YtcfncejilmimpaaGreat
