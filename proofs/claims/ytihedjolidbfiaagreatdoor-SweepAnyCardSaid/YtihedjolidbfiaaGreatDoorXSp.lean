/-
  The legs, one behind another.
-/
import Derived.Test.YtihedjolidbfiaaGreatDoorXSpL0
import Derived.Test.YtihedjolidbfiaaGreatDoorXSpL1
import Derived.Test.YtihedjolidbfiaaGreatDoorXSpL2
set_option linter.all false
namespace Go.Proofs.YtihedjolidbfiaaGreatDoor
open Go.Am
theorem sp_good:∃ h,Go.Am.Good prg (spS0.load prg) (.val (.bool true) h):=by
 obtain⟨h,hg⟩:=legEnd_good spEnd
 exact⟨h,leg_good spLeg1 (leg_good spLeg2 (hg))⟩
end Go.Proofs.YtihedjolidbfiaaGreatDoor
