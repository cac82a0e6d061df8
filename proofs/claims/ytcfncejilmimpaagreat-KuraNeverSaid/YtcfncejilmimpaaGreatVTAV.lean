/- A call without arguments, carried out -/
import Derived.Test.YtcfncejilmimpaaGreatVTAT
set_option linter.all false
namespace Go.Proofs.YtcfncejilmimpaaGreat
open Go.Am
set_option maxRecDepth 100000
theorem MW:pU prg 79874 skG3 skS2 skS3=true:=by kernel_rfl
open Go.Am
set_option maxRecDepth 100000
theorem MV:pU prg 78749 skG4 skS3 skS4=true:=by kernel_rfl
end Go.Proofs.YtcfncejilmimpaaGreat
