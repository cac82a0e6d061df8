/- A call without arguments, carried out -/
import Derived.Test.YtcfncejilmimpaaGreatVTAT
set_option linter.all false
namespace Go.Proofs.YtcfncejilmimpaaGreat
open Go.Am
set_option maxRecDepth 100000
theorem MY:pU prg 48924 skG1 skS0 skS1=true:=by kernel_rfl
open Go.Am
set_option maxRecDepth 100000
theorem MX:pU prg 80988 skG2 skS1 skS2=true:=by kernel_rfl
end Go.Proofs.YtcfncejilmimpaaGreat
