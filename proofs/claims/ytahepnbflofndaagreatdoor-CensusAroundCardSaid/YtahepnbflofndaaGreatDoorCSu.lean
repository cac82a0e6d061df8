/-
  The legs, one behind another.
-/
import Derived.Test.YtahepnbflofndaaGreatDoorCSuL0
import Derived.Test.YtahepnbflofndaaGreatDoorCSuL1
import Derived.Test.YtahepnbflofndaaGreatDoorCSuL2
import Derived.Test.YtahepnbflofndaaGreatDoorCSuL3
set_option linter.all false
namespace Go.Proofs.YtahepnbflofndaaGreatDoor
open Go.Am
theorem su_good:GoodS prg (suS0.load prg) :=
 legF_good suLeg1 (legF_good suLeg2 (legF_good suLeg3 (legBF_good suLeg4 (legF_good suLeg5 (legF_good suLeg6 (legBF_good suLeg7 (legF_good suLeg8 (legF_good suLeg9 (legBF_good suLeg10 (
 legF_good suLeg11 (legF_good suLeg12 (legBF_good suLeg13 (legF_good suLeg14 (legBF_good suLeg15 (legF_good suLeg16 (legBF_good suLeg17 (legF_good suLeg18 (legBF_good suLeg19 (legFEnd_good suEnd)))))))))))))))))))
end Go.Proofs.YtahepnbflofndaaGreatDoor
