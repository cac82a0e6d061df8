/-
  slices.Sort of ints: cmp.Less, the insertion sort. slices.Sort of ints: the heap. slices.Sort of ints: the partitions (printed by tools/mksrt3.py).
-/
import Derived.Test.YtahepnbflofndaaGreatDoorCRf
import Derived.Test.YtahepnbflofndaaGreatDoorCAmA
set_option linter.all false
namespace Go.Proofs.YtahepnbflofndaaGreatDoor
open Go.Am
open Go.Sort (swp ltInt)
open Go.Sort (insInner insOuter insertionSort)
end Go.Proofs.YtahepnbflofndaaGreatDoor
namespace Go.Proofs.YtahepnbflofndaaGreatDoor
open Go.Am
open Go.Sort (swp ltInt siftDown heapBuild heapPop heapSort)
end Go.Proofs.YtahepnbflofndaaGreatDoor
namespace Go.Proofs.YtahepnbflofndaaGreatDoor
open Go.Am
open Go.Sort (swp ltInt reverseLoop reverseRange scanUp scanDown partLoop partition partEqLoop partitionEqual scanUp_spec scanDown_spec scanUp_ge scanDown_le partLoop_eq partEqLoop_eq)
end Go.Proofs.YtahepnbflofndaaGreatDoor
