/-
  slices.Sort of ints: the kit's contract, laid at this program (in plain words, after the kit's own command).
-/
import Derived.Test.YtldkniahgagocaaGreatKRf
import Derived.Test.YtldkniahgagocaaGreatKAmSr
import Derived.Shelf.Slices.In.SortAlone
import Derived.KernelRfl
set_option linter.all false
namespace Go.Proofs.YtldkniahgagocaaGreat
open Go.Am Go.Shelf
def sren:Ren:=⟨fun x=>match x with|189=>18|125=>33|257=>32|128=>52|129=>53|294=>43|295=>44|296=>45|297=>46|298=>47|299=>48|216=>49|300=>50|301=>51|328=>64|329=>65|330=>66|331=>67|332=>68|215=>69|343=>83|n=>n,fun x=>match x with|28=>25|46=>70|51=>92|53=>94|183=>84|182=>83|131=>89|218=>107|222=>111|228=>122|229=>123|n=>n,fun n=>n⟩
theorem slay:Lays.n189 Tryz.prog sren:=by
 constructor<;>first|kernel_rfl|(intro; kernel_rfl)
theorem ssrt:SrtOK Tryz.prog 18:=fun blk off cap zs w hH hb hz=>calls_of_every_depth fun D=>AnyS.slices_Sort_int_alone slay D blk off cap zs w hH hb hz
theorem srts:Marks Tryz.prog mks:=by
 have c:∀ {k:Nat}{r:RF},(cFunc Tryz.prog k).bind detF=some r→∃ rf,cFunc Tryz.prog k=some rf:=fun h=>let ⟨rf,h,_⟩:=Option.bind_eq_some_iff.1 h; ⟨rf,h⟩
 exact List.forall_mem_cons.2 ⟨.inl ⟨rfl,srts_of ssrt (c cf18)⟩,fun _ h=>by cases h⟩
end Go.Proofs.YtldkniahgagocaaGreat
