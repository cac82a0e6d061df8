/- A closed call carried out by the kernel -/
import Derived.Test.YtpeemonpdlifbaaUAmK
set_option linter.all false
namespace Go.Am
section
variable {n:Nat}{o:AO}{tg:Option Nat}{R:Out→Prop}
end
end Go.Am
