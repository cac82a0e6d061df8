/- A graph that comes in -/
import Derived.Test.YtpeemonpdlifbaaGreatRows
import Derived.WalkKit
import Derived.ProofKit
import Derived.OpenShut
import Derived.Deep.SlicePairs
import Derived.Deep.Matrix
import Derived.Test.YtpeemonpdlifbaaGreatVAmEnd
set_option linter.all false
namespace Go.Proofs.YtpeemonpdlifbaaGreat
open Go.ChangeShapes Go.WideShapes Go.ChangeAt Go.RowKit
open Go.Am (IsRowE NRow)
set_option maxRecDepth 100000
theorem JB:Tryz.prog.cellsOf 24=2:=by kernel_rfl
theorem zZ:Tryz.prog.cellsOf 3=1:=by kernel_rfl
theorem JC:Tryz.prog.cellsOf 22=1:=by kernel_rfl
theorem JA:Tryz.prog.cellsOf 36=2:=by kernel_rfl
theorem Ht:Tryz.prog.cellTypes Tryz.prog.depth 24=some [3,22]:=by kernel_rfl
def ur:Value→Int
 | .int _ n=>n
 | _=>0
theorem zC {H:Type}{enc:TypeId×Value→H}{W:World}{base:Nat}{v:Value}{d:DataW H}{p:List MemPlace} (hval:Value.okWide Tryz.prog W .any base 24 v) (h:DataW.Trod enc Tryz.prog W 0 (λ_=>true) true 24 v d p) :
 ∃ n a len cap zs,v=.agg #[.int .i64 n,.slice a len cap]∧IsRowE .i64 2 W a len cap zs∧∀ x,a=some x→x.spot=none:=by
 have hu:=Tryz.underlying24
 simp only[Value.okWide,hu] at hval
 obtain⟨cs,rfl,hsz,ts,hts,_,hok⟩:=hval
 rw[Ht] at hts
 simp only[aa] at hts
 subst hts
 rw[JB] at hsz
 obtain⟨fuel,hf⟩:=h
 obtain⟨xs,m,_,_,hl,hxl,hfs⟩:=DataW.trod_struct hu hf
 have hcs:(Value.agg cs).cells=cs:=rfl
 rw[hcs] at hf hfs hl
 obtain⟨l⟩:=cs
 simp only at hsz hf hfs hl
 match l,hsz with
 | [c0,c1],_ =>
   simp only[gi,aw,aP] at hxl
   match xs,hxl with
   | [x0,x1],_ =>
     have g0:=hfs 0 _ rfl
     have g1:=hfs 1 _ rfl
     simp [zZ,JC] at g0 g1
     obtain⟨n,e0,_,_⟩:=DataW.trod_int Tryz.underlying3 g0
     simp only[eR,and_true] at e0
     subst e0
     have hk:=hok 1 c1 rfl
     obtain⟨u,hu1,hk⟩:=hk
     simp at hu1
     subst hu1
     rcases Deep.open_slice_pairs Tryz.underlying22 Tryz.underlying36 JA rfl rfl zZ zZ g1 with ⟨e1,_⟩|⟨a,len,cap,m',n',V0,V1,D0,D1,P0,P1,e1,_,hle,hcap,hm,_,hcell⟩
     ·simp only[eR,and_true] at e1
      subst e1
      exact⟨n,none,0,0,[],rfl,.inl ⟨rfl,rfl,rfl,rfl⟩,λx hx=>by cases hx⟩
     ·simp only[eR,and_true] at e1
      subst e1
      simp only[if_true] at hm
      subst hm
      have hsp:a.spot=none:=by
       simp only[Cell.okWide,Tryz.underlying22,Cell.ok] at hk
       exact hk.2.2.2.1
      have hV:∀ i,i<m'→(∃ x,V0 i=.int .i64 x∧(Lit.int .i64 x).wf=true)∧∃ x,V1 i=.int .i64 x∧(Lit.int .i64 x).wf=true:=by
       intro i hi
       obtain⟨_,_,q0,q1⟩:=hcell i hi
       obtain⟨x,e,_,hx⟩:=DataW.trod_int Tryz.underlying3 q0
       obtain⟨y,f,_,hy⟩:=DataW.trod_int Tryz.underlying3 q1
       simp only[eR,and_true] at e f
       exact⟨⟨x,e,hx⟩,⟨y,f,hy⟩⟩
      have hZ:∀ j,j<m'*2→W.cell? (a.add j)=some (.int .i64 (if j % 2=0 then ur (V0 (j / 2)) else ur (V1 (j / 2))))∧(Lit.int .i64 (if j % 2=0 then ur (V0 (j / 2)) else ur (V1 (j / 2)))).wf=true:=by
       intro j hj
       have hi:j / 2<m':=om
       obtain⟨⟨x,ex,hx⟩,⟨y,ey,hy⟩⟩:=hV _ hi
       obtain⟨q0,q1,_,_⟩:=hcell _ hi
       rw[ex] at q0
       rw[ey] at q1
       rcases nZ j with hz|hz
       ·have ej:j / 2*2=j:=om
        rw[ej] at q0
        rw[if_pos hz,ex]
        exact⟨q0,hx⟩
       ·have ej:j / 2*2+1=j:=om
        rw[ej] at q1
        rw[if_neg om,ey]
        exact⟨q1,hy⟩
      refine⟨n,some a,len,m',(List.range (m'*2)).map λj=>if j % 2=0 then ur (V0 (j / 2)) else ur (V1 (j / 2)),rfl,.inr ⟨a,rfl,hle,hcap,by simp,λi hi=>?_,λz hz=>?_⟩,λx hx=>by cases hx; exact hsp⟩
      ·have hi':i<m'*2:=by simpa using hi
       rw[(hZ i hi').1,ai,aG,fk hi']
       rfl
      ·obtain⟨j,hj,rfl⟩:=bu.1 hz
       exact (hZ j (ao.1 hj)).2
end Go.Proofs.YtpeemonpdlifbaaGreat
