/- A graph and numbers that come in -/
import Derived.Test.YtcfncejilmimpaaGreatRows
import Derived.WalkKit
import Derived.ProofKit
import Derived.OpenShut
import Derived.Deep.SlicePairs
import Derived.Deep.Matrix
import Derived.Test.YtcfncejilmimpaaGreatVAmEnd
set_option linter.all false
namespace Go.Proofs.YtcfncejilmimpaaGreat
open Go.ChangeShapes Go.WideShapes Go.ChangeAt Go.RowKit
open Go.Am (IsRowE NRow)
set_option maxRecDepth 100000
theorem LH:Tryz.prog.cellsOf 24=2:=by kernel_rfl
theorem yn:Tryz.prog.cellsOf 3=1:=by kernel_rfl
theorem LI:Tryz.prog.cellsOf 22=1:=by kernel_rfl
theorem LG:Tryz.prog.cellsOf 36=2:=by kernel_rfl
theorem JH:Tryz.prog.cellTypes Tryz.prog.depth 24=some [3,22]:=by kernel_rfl
def wz:Value->Int
 |.int _ n=>n
 |_=>0
theorem Bv{H:Type}{enc:TypeId×Value->H}{W:World}{base:Nat}{v:Value}{d:DataW H}{p:List MemPlace}(hval:Value.okWide Tryz.prog W .any base 24 v)(h:DataW.Trod enc Tryz.prog W 0 (λ_=>true) true 24 v d p) :
 ∃n a len cap zs,v=.agg #[.int .i64 n,.slice a len cap]/\IsRowE .i64 2 W a len cap zs/\∀x,a=some x->x.spot=none:=by
 have hu:=Tryz.underlying24;simp only[Value.okWide,hu]at hval;obtain⟨cs,rfl,hsz,ts,hts,_,hok⟩:=hval;rw[JH]at hts;simp only[aa]at hts;subst hts;rw[LH]at hsz;obtain⟨fuel,hf⟩:=h;obtain⟨xs,m,_,_,hl,hxl,hfs⟩:=DataW.trod_struct hu hf;have hcs:(Value.agg cs).cells=cs:=rfl;rw[hcs]at hf hfs hl;obtain⟨l⟩:=cs;simp only at hsz hf hfs hl
 match l,hsz with
 |[c0,c1],_ =>
   simp only[gJ,aA,aQ]at hxl
   match xs,hxl with
   |[x0,x1],_ =>
     have g0:=hfs 0 _ rfl;have g1:=hfs 1 _ rfl;simp[yn,LI]at g0 g1;obtain⟨n,e0,_,_⟩:=DataW.trod_int Tryz.underlying3 g0;simp only[eY,and_true]at e0;subst e0;have hk:=hok 1 c1 rfl;obtain⟨u,hu1,hk⟩:=hk;simp at hu1;subst hu1;rcases Deep.open_slice_pairs Tryz.underlying22 Tryz.underlying36 LG rfl rfl yn yn g1 with⟨e1,_⟩|⟨a,len,cap,m',n',V0,V1,D0,D1,P0,P1,e1,_,hle,hcap,hm,_,hcell⟩
     .simp only[eY,and_true]at e1;subst e1;exact⟨n,none,0,0,[],rfl,.inl ⟨rfl,rfl,rfl,rfl⟩,λx hx=>by cases hx⟩
     .simp only[eY,and_true]at e1;subst e1;simp only[if_true]at hm;subst hm;have hsp:a.spot=none:=by
       simp only[Cell.okWide,Tryz.underlying22,Cell.ok]at hk;exact hk.2.2.2.1
      have hV:∀i,i<m'->(∃x,V0 i=.int .i64 x/\(Lit.int .i64 x).wf=true)/\∃x,V1 i=.int .i64 x/\(Lit.int .i64 x).wf=true:=by
       intro i hi;obtain⟨_,_,q0,q1⟩:=hcell i hi;obtain⟨x,e,_,hx⟩:=DataW.trod_int Tryz.underlying3 q0;obtain⟨y,f,_,hy⟩:=DataW.trod_int Tryz.underlying3 q1;simp only[eY,and_true]at e f;exact⟨⟨x,e,hx⟩,⟨y,f,hy⟩⟩
      have hZ:∀j,j<m'*2->W.cell? (a.add j)=some (.int .i64 (if j%2=0 then wz (V0 (j/2))else wz (V1 (j/2))))/\(Lit.int .i64 (if j%2=0 then wz (V0 (j/2))else wz (V1 (j/2)))).wf=true:=by
       intro j hj;have hi:j/2<m':=om;obtain⟨⟨x,ex,hx⟩,⟨y,ey,hy⟩⟩:=hV _ hi;obtain⟨q0,q1,_,_⟩:=hcell _ hi;rw[ex]at q0;rw[ey]at q1;rcases Nat.mod_two_eq_zero_or_one j with hz|hz
       .have ej:j/2*2=j:=om;rw[ej]at q0;rw[if_pos hz,ex];exact⟨q0,hx⟩
       .have ej:j/2*2+1=j:=om;rw[ej]at q1;rw[if_neg om,ey];exact⟨q1,hy⟩
      refine⟨n,some a,len,m',(List.range (m'*2)).map λj=>if j%2=0 then wz (V0 (j/2))else wz (V1 (j/2)),rfl,.inr ⟨a,rfl,hle,hcap,by simp,λi hi=>?_,λz hz=>?_⟩,λx hx=>by cases hx;exact hsp⟩
      .have hi':i<m'*2:=by simpa using hi
       rw[(hZ i hi').1,aj,aF,ew hi'];rfl
      .obtain⟨j,hj,rfl⟩:=bh.1 hz;exact(hZ j (aB.1 hj)).2
theorem Nd{H:Type}{enc:TypeId×Value->H}{W:World}{fuel:Nat}{c:Value}{x:DataW H×List MemPlace}(h:DataW.trod enc Tryz.prog W 0 (λ_=>true) true fuel 25 [c]=some x) :
 ∃a len cap zs,c=.slice a len cap/\IsRowE .i64 1 W a len cap zs:=by
 rcases open_ints Tryz.underlying25 Tryz.underlying3 yn h with⟨hcs,_⟩|⟨x,l,c,zs,hcs,_,hl,hm,hz,_,hcell,hwz⟩
 .simp only[eY,and_true]at hcs;exact⟨none,0,0,[],hcs,.inl ⟨rfl,rfl,rfl,rfl⟩⟩
 .simp only[eY,and_true]at hcs;exact⟨some x,l,c,zs,hcs,.inr ⟨_,rfl,hl,hm,by simpa using hz,hcell,hwz⟩⟩
end Go.Proofs.YtcfncejilmimpaaGreat
