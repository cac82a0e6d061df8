/- The clean machine step by step, with a stack -/
import Derived.Test.YtpeemonpdlifbaaVAmE
set_option linter.all false
namespace Go.Am
end Go.Am
