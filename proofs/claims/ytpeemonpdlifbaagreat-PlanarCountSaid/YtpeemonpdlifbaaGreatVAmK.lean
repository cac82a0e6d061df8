/- The clean machine step by step, with a stack -/
import Derived.Test.YtpeemonpdlifbaaGreatVAmE
set_option linter.all false
namespace Go.Am
end Go.Am
