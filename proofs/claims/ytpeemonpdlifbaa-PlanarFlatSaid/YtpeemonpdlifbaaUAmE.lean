/- The clean machine carried out -/
import Derived.Test.YtpeemonpdlifbaaUAmW
set_option linter.all false
namespace Go.Am
end Go.Am
