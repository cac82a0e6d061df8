/- The clean machine's steps once more, each alternative closed -/
import Derived.Test.YtpeemonpdlifbaaUAmG
import Derived.Test.YtpeemonpdlifbaaUAmR
set_option linter.all false
namespace Go.Am
end Go.Am
