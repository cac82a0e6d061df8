/- Numbers that come in -/
import Derived.Test.YtlolkmcdimgplaaGreatRows
import Derived.WalkKit
import Derived.ProofKit
import Derived.OpenShut
import Derived.Test.YtlolkmcdimgplaaGreatVAmEnd
set_option linter.all false
namespace Go.Proofs.YtlolkmcdimgplaaGreat
open Go.ChangeShapes Go.WideShapes Go.ChangeAt Go.RowKit
open Go.Am (IsRowE NRow)
set_option maxRecDepth 100000
theorem Ng:Tryz.prog.cellsOf 3=1:=by kernel_rfl
theorem Mu{H:Type}{enc:TypeId×Value->H}{W:World}{fuel:Nat}{c:Value}{x:DataW H×List MemPlace}(h:DataW.trod enc Tryz.prog W 0 (λ_=>true) true fuel 22 [c]=some x) :
 ∃a len cap zs,c=.slice a len cap/\IsRowE .i64 1 W a len cap zs:=by
 rcases open_ints Tryz.underlying22 Tryz.underlying3 Ng h with⟨hcs,_⟩|⟨x,l,c,zs,hcs,_,hl,hm,hz,_,hcell,hwz⟩
 .simp only[fh,and_true]at hcs;exact⟨none,0,0,[],hcs,.inl ⟨rfl,rfl,rfl,rfl⟩⟩
 .simp only[fh,and_true]at hcs;exact⟨some x,l,c,zs,hcs,.inr ⟨_,rfl,hl,hm,by simpa using hz,hcell,hwz⟩⟩
end Go.Proofs.YtlolkmcdimgplaaGreat
