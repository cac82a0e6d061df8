/- A call without arguments, carried out -/
import Derived.Test.YtcfncejilmimpaaGreatVTAT
set_option linter.all false
namespace Go.Proofs.YtcfncejilmimpaaGreat
open Go.Am
set_option maxRecDepth 100000
theorem MQ:pU prg 79002 skG9 skS8 skS9=true:=by kernel_rfl
open Go.Am
set_option maxRecDepth 100000
theorem JV:pU prg 79120 skG10 skS9 Mt=true:=by kernel_rfl
end Go.Proofs.YtcfncejilmimpaaGreat
