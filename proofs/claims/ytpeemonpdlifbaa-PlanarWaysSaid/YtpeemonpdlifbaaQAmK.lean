/-
  The clean machine step by step, with a stack: for long runs of calls whose arguments are known, cut into parts.
-/
import Derived.Test.YtpeemonpdlifbaaQAmE
set_option linter.all false
namespace Go.Am
end Go.Am
