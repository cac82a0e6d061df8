/-
  slices.Sort of ints: the kit's contract, laid at this program (in plain words, after the kit's own command).
-/
import Derived.Test.YticaalcbgikjjaaGreatDoorKRf
import Derived.Test.YticaalcbgikjjaaGreatDoorKAmSrt
import Derived.Shelf.Slices.In.SortAlone
import Derived.KernelRfl
set_option linter.all false
namespace Go.Proofs.YticaalcbgikjjaaGreatDoor
open Go.Am Go.Shelf
def sren:Ren:=⟨fun x=>match x with|189=>28|125=>61|257=>60|128=>111|129=>112|294=>102|295=>103|296=>104|297=>105|298=>106|299=>107|216=>108|300=>109|301=>110|328=>154|329=>155|330=>156|331=>157|332=>158|215=>159|343=>184|n=>n,fun x=>match x with|28=>27|46=>125|51=>182|53=>171|183=>175|182=>174|131=>59|218=>233|222=>133|228=>264|229=>265|n=>n,fun n=>n⟩
theorem slay:Lays.n189 Tryz.prog sren:=by
 constructor<;>first|kernel_rfl|(intro; kernel_rfl)
theorem ssrt:SrtOK Tryz.prog 28:=fun blk off cap zs w hH hb hz=>calls_of_every_depth fun D=>AnyS.slices_Sort_int_alone slay D blk off cap zs w hH hb hz
theorem srts:Marks Tryz.prog mks:=by
 have c:∀ {k:Nat}{r:RF},(cFunc Tryz.prog k).bind detF=some r→∃ rf,cFunc Tryz.prog k=some rf:=fun h=>let ⟨rf,h,_⟩:=Option.bind_eq_some_iff.1 h; ⟨rf,h⟩
 exact List.forall_mem_cons.2 ⟨.inl ⟨rfl,srts_of ssrt (c cf28)⟩,fun _ h=>by cases h⟩
end Go.Proofs.YticaalcbgikjjaaGreatDoor
