/- A call without arguments, carried out -/
import Derived.Test.YtcfncejilmimpaaGreatVTAT
set_option linter.all false
namespace Go.Proofs.YtcfncejilmimpaaGreat
open Go.Am
set_option maxRecDepth 100000
theorem MU:pU prg 79123 skG5 skS4 skS5=true:=by kernel_rfl
open Go.Am
set_option maxRecDepth 100000
theorem MT:pU prg 78533 skG6 skS5 skS6=true:=by kernel_rfl
end Go.Proofs.YtcfncejilmimpaaGreat
