/-
  slices.Sort of ints: the partial insertion sort, the pivot (printed by tools/mksrt4.py). How many bits a number has. slices.Sort of ints: the pivot; patterns. slices.Sort of ints: where the pivot is; breaking patterns.
-/
import Derived.Test.YtahepnbflofndaaGreatDoorCLc
import Derived.Test.YtahepnbflofndaaGreatDoorCRf
import Derived.Test.YtahepnbflofndaaGreatDoorCAmA
set_option linter.all false
namespace Go.Proofs.YtahepnbflofndaaGreatDoor
open Go.Am
open Go.Sort (swp ltInt scanSorted shiftDown shiftUp partialIns partialInsertionSort fixDown fixUp partialIns_succ)
end Go.Proofs.YtahepnbflofndaaGreatDoor
namespace Go.Proofs.YtahepnbflofndaaGreatDoor
open Go.Am
end Go.Proofs.YtahepnbflofndaaGreatDoor
namespace Go.Proofs.YtahepnbflofndaaGreatDoor
open Go.Am
open Go.Sort (swp ltInt PermIn)
end Go.Proofs.YtahepnbflofndaaGreatDoor
namespace Go.Proofs.YtahepnbflofndaaGreatDoor
open Go.Am
open Go.Sort (swp ltInt PermIn swp_permIn permIn_refl permIn_trans)
theorem quo_nat {n k:Nat} (hn:n<2 ^ 62):IntKind.i64.wrap (((n:Nat):Int).tdiv ((k:Nat):Int))=((n / k:Nat):Int):=by
 rw[Int.tdiv_eq_ediv_of_nonneg (by omega),← Int.natCast_ediv]
 have h2:n / k≤n:=Nat.div_le_self n k
 generalize n / k=q at *
 exact wr64 (by omega) (by omega)
end Go.Proofs.YtahepnbflofndaaGreatDoor
