/-
  The legs, one behind another.
-/
import Derived.Test.YtjcbcmonmmfllaaGreatDoorSpL0
import Derived.Test.YtjcbcmonmmfllaaGreatDoorSpL1
import Derived.Test.YtjcbcmonmmfllaaGreatDoorSpL2
import Derived.Test.YtjcbcmonmmfllaaGreatDoorSpL3
namespace Go.Proofs.YtjcbcmonmmfllaaGreatDoor
set_option linter.unusedVariables false
set_option linter.unusedSimpArgs false
open Go.Am

theorem sp_good : ∃ h, Go.Am.Good prg (spS0.load prg) (.val (.bool true) h) := by
  obtain ⟨h, hg⟩ := legEnd_good spEnd
  exact ⟨h, leg_good spLeg1 (leg_good spLeg2 (leg_good spLeg3 (leg_good spLeg4 (leg_good spLeg5 (leg_good spLeg6 (leg_good spLeg7 (leg_good spLeg8 (leg_good spLeg9 (leg_good spLeg10 (hg))))))))))⟩

end Go.Proofs.YtjcbcmonmmfllaaGreatDoor
