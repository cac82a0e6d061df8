/-
  The legs, one behind another.
-/
import Derived.Test.YtldkniahgagocaaGreatKMa
import Derived.Test.YtldkniahgagocaaGreatKMb
import Derived.Test.YtldkniahgagocaaGreatKMc
import Derived.Test.YtldkniahgagocaaGreatKMd
import Derived.Test.YtldkniahgagocaaGreatKMe
set_option linter.all false
namespace Go.Proofs.YtldkniahgagocaaGreat
open Go.Am
theorem sk_good:GoodS prg (skS0.load prg) :=
 legF_good skLeg1 (legF_good skLeg2 (legF_good skLeg3 (legF_good skLeg4 (legF_good skLeg5 (legF_good skLeg6 (legF_good skLeg7 (legF_good skLeg8 (legF_good skLeg9 (legF_good skLeg10 (
 legF_good skLeg11 (legF_good skLeg12 (legF_good skLeg13 (legF_good skLeg14 (legF_good skLeg15 (legF_good skLeg16 (legF_good skLeg17 (legF_good skLeg18 (legF_good skLeg19 (legF_good skLeg20 (
 legF_good skLeg21 (legF_good skLeg22 (legF_good skLeg23 (legF_good skLeg24 (legF_good skLeg25 (legF_good skLeg26 (legF_good skLeg27 (legF_good skLeg28 (legF_good skLeg29 (legF_good skLeg30 (
 legF_good skLeg31 (legF_good skLeg32 (legF_good skLeg33 (legF_good skLeg34 (legC_good skLeg35N (lt5 skLeg35_0 skLeg35_1 skLeg35_2 skLeg35_3 skLeg35_4) (legFEnd_good skEnd)))))))))))))))))))))))))))))))))))
end Go.Proofs.YtldkniahgagocaaGreat
