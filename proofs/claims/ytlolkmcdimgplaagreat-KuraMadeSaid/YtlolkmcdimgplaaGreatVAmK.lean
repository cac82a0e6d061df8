/- The clean machine step by step, with a stack -/
import Derived.Test.YtlolkmcdimgplaaGreatVAmE
set_option linter.all false
