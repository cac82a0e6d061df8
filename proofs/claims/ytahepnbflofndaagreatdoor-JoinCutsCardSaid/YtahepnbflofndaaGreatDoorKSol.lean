/- slices.Sort of ints and slices.SortFunc of rows of ints -/
import Derived.Test.YtahepnbflofndaaGreatDoorKRf
import Derived.Test.YtahepnbflofndaaGreatDoorKAmSrt
import Derived.Shelf.Slices.In.SortAlone
import Derived.KernelRfl
import Derived.Deep.QuietTactic
import Derived.BigQuiet
import Derived.Shelf.SlSortCmp.Whole1
set_option linter.all false
namespace Go.Proofs.YtahepnbflofndaaGreatDoor
open Go.Am Go.Shelf
def sren:Ren:=⟨λx=>match x with|189=>99|125=>145|257=>146|128=>186|129=>187|294=>188|295=>189|296=>190|297=>191|298=>192|299=>193|216=>158|300=>194|301=>195|328=>216|329=>212|330=>213|331=>217|332=>218|215=>200|343=>229|n=>n,λx=>match x with|28=>22|46=>217|51=>253|53=>136|183=>247|182=>246|131=>165|218=>278|222=>282|228=>293|229=>294|n=>n,λn=>n⟩
def sre2:Ren:=⟨λx=>match x with|6=>97|15=>145|14=>144|28=>186|29=>187|20=>178|21=>179|22=>180|23=>181|24=>182|25=>183|26=>184|27=>185|46=>211|47=>212|48=>213|49=>214|50=>215|57=>228|n=>n,λx=>match x with|22=>53|24=>22|25=>163|39=>217|53=>253|55=>136|46=>247|45=>246|50=>165|66=>278|70=>282|76=>293|77=>294|n=>n,λn=>n⟩
theorem brs {f:FuncId}{B:Func} (h1:((Tryz.prog.funcs[f]?.getD Tryz.f97).name== "runtime.NumGoroutine")=false) (h2:Tryz.prog.funcs[f]?=some { B with name:=(Tryz.prog.funcs[f]?.getD Tryz.f97).name}):Bears Tryz.prog f B:=⟨_,h1,h2⟩
theorem slay:Lays.n189 Tryz.prog sren:=by
 constructor<;>first|kernel_rfl|(intro; kernel_rfl)
theorem sla2:SlLaysF.n6 Tryz.prog sre2:=by
 constructor<;>first|kernel_rfl|exact brs (by kernel_rfl) (by kernel_rfl)|(intro; kernel_rfl)
theorem cmp98:IB Tryz.prog 98:=by
 intro W b1 o1 n1 c1 b2 o2 n2 c2 k1 k2 h1 h2 a1 a2 a3 a4
 go_enter Tryz.func98,Tryz.ntmps98
 go_wp2
 go_quiet (fail)
 go_wp2
 go_ret
 exact⟨rfl,_,rfl⟩
theorem ssrt:Iu Tryz.prog 99:=λblk off cap zs w hH hb hz=>calls_of_every_depth λD=>AnyS.slices_Sort_int_alone slay D blk off cap zs w hH hb hz
theorem srts:Ix Tryz.prog mks:=by
 have c:∀ {k:Nat}{r:RF},(bW Tryz.prog k).bind cS=some r→∃ rf,bW Tryz.prog k=some rf:=λh=>let ⟨rf,h,_⟩:=kZ.1 h; ⟨rf,h⟩;exact yi.2 ⟨.inl ⟨rfl,IU ssrt (c cf99)⟩,yi.2 ⟨.inr ⟨98,rfl,IV sla2 rfl (enters_of Tryz.func98 (by kernel_rfl) rfl) cmp98 (c cf97)⟩,λ_ h=>by cases h⟩⟩
end Go.Proofs.YtahepnbflofndaaGreatDoor
