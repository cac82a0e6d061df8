/-
  The clean machine carried out: a run with fuel, for calls whose arguments are known; what it gives the machine gives.
-/
import Derived.Test.YtpeemonpdlifbaaQAmW
set_option linter.all false
namespace Go.Am
end Go.Am
