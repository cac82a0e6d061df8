/- The clean machine carried out -/
import Derived.Test.YtpeemonpdlifbaaGreatVAmW
set_option linter.all false
namespace Go.Am
end Go.Am
