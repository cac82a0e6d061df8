/-
  The legs, one behind another.
-/
import Derived.Test.YtihedjolidbfiaaGreatDoorYMa
import Derived.Test.YtihedjolidbfiaaGreatDoorYMb
import Derived.Test.YtihedjolidbfiaaGreatDoorYMc
import Derived.Test.YtihedjolidbfiaaGreatDoorYMd
import Derived.Test.YtihedjolidbfiaaGreatDoorYMe
set_option linter.all false
namespace Go.Proofs.YtihedjolidbfiaaGreatDoor
open Go.Am
theorem sq_good:GoodS prg (sqS0.load prg) :=
 legF_good sqLeg1 (legF_good sqLeg2 (legF_good sqLeg3 (legF_good sqLeg4 (legF_good sqLeg5 (legF_good sqLeg6 (legF_good sqLeg7 (legF_good sqLeg8 (legF_good sqLeg9 (legF_good sqLeg10 (
 legF_good sqLeg11 (legF_good sqLeg12 (legF_good sqLeg13 (legF_good sqLeg14 (legF_good sqLeg15 (legF_good sqLeg16 (legF_good sqLeg17 (legF_good sqLeg18 (legF_good sqLeg19 (legF_good sqLeg20 (
 legF_good sqLeg21 (legF_good sqLeg22 (legF_good sqLeg23 (legF_good sqLeg24 (legF_good sqLeg25 (legF_good sqLeg26 (legF_good sqLeg27 (legF_good sqLeg28 (legF_good sqLeg29 (legF_good sqLeg30 (
 legF_good sqLeg31 (legF_good sqLeg32 (legF_good sqLeg33 (legF_good sqLeg34 (legF_good sqLeg35 (legF_good sqLeg36 (legF_good sqLeg37 (legF_good sqLeg38 (legF_good sqLeg39 (legF_good sqLeg40 (
 legC_good sqLeg41N (lt5 sqLeg41_0 sqLeg41_1 sqLeg41_2 sqLeg41_3 sqLeg41_4) (legFEnd_good sqEnd)))))))))))))))))))))))))))))))))))))))))
end Go.Proofs.YtihedjolidbfiaaGreatDoor
