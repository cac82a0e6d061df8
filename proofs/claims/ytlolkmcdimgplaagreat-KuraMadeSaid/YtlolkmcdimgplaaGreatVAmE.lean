/- The clean machine carried out -/
import Derived.Test.YtlolkmcdimgplaaGreatVAmW
set_option linter.all false
