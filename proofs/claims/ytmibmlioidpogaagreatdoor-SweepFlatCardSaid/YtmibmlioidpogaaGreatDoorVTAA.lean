/- A graph and a plan that come in -/
import Derived.Test.YtmibmlioidpogaaGreatDoorRows
import Derived.WalkKit
import Derived.ProofKit
import Derived.OpenShut
import Derived.Deep.SlicePairs
import Derived.Deep.Matrix
import Derived.Test.YtmibmlioidpogaaGreatDoorVAmEnd
set_option linter.all false
namespace Go.Proofs.YtmibmlioidpogaaGreatDoor
open Go.ChangeShapes Go.WideShapes Go.ChangeAt Go.RowKit
open Go.Am (IsRowE NRow)
set_option maxRecDepth 100000
variable {base fuel:Nat}{c v:Value}{p:List MemPlace}
theorem JY:Tryz.prog.cellsOf 24=2:=by kernel_rfl
theorem to:Tryz.prog.cellsOf 3=1:=by kernel_rfl
theorem JZ:Tryz.prog.cellsOf 22=1:=by kernel_rfl
theorem JV:Tryz.prog.cellsOf 40=2:=by kernel_rfl
theorem HY:Tryz.prog.cellTypes Tryz.prog.depth 24=some [3,22]:=by kernel_rfl
def uF:Value->Int
 |.int _ n=>n
 |_=>0
theorem Ad{H:Type}{enc:TypeId×Value->H}{W:World}{d:DataW H}(hval:Value.okWide Tryz.prog W .any base 24 v)(h:DataW.Trod enc Tryz.prog W 0 (λ_=>true) true 24 v d p) :
 ∃n a len cap zs,v=.agg #[.int .i64 n,.slice a len cap]/\IsRowE .i64 2 W a len cap zs/\∀x,a=some x->x.spot=none:=by
 have hu:=Tryz.underlying24;simp only[Value.okWide,hu]at hval;obtain⟨cs,rfl,hsz,ts,hts,_,hok⟩:=hval;rw[HY]at hts;simp only[aa]at hts;subst hts;rw[JY]at hsz;obtain⟨fuel,hf⟩:=h;obtain⟨xs,m,_,_,hl,hxl,hfs⟩:=DataW.trod_struct hu hf;have hcs:(Value.agg cs).cells=cs:=rfl;rw[hcs]at hf hfs hl;obtain⟨l⟩:=cs;simp only at hsz hf hfs hl
 match l,hsz with
 |[c0,c1],_ =>
   simp only[fR,aq,aK]at hxl
   match xs,hxl with
   |[x0,x1],_ =>
     have g0:=hfs 0 _ rfl;have g1:=hfs 1 _ rfl;simp[to,JZ]at g0 g1;obtain⟨n,e0,_,_⟩:=DataW.trod_int Tryz.underlying3 g0;simp only[de,and_true]at e0;subst e0;have hk:=hok 1 c1 rfl;obtain⟨u,hu1,hk⟩:=hk;simp at hu1;subst hu1;rcases Deep.open_slice_pairs Tryz.underlying22 Tryz.underlying40 JV rfl rfl to to g1 with⟨e1,_⟩|⟨a,len,cap,m',n',V0,V1,D0,D1,P0,P1,e1,_,hle,hcap,hm,_,hcell⟩
     .simp only[de,and_true]at e1;subst e1;exact⟨n,none,0,0,[],rfl,.inl ⟨rfl,rfl,rfl,rfl⟩,λx hx=>by cases hx⟩
     .simp only[de,and_true]at e1;subst e1;simp only[if_true]at hm;subst hm;have hsp:a.spot=none:=by
       simp only[Cell.okWide,Tryz.underlying22,Cell.ok]at hk;exact hk.2.2.2.1
      have hV:∀i,i<m'->(∃x,V0 i=.int .i64 x/\(Lit.int .i64 x).wf=true)/\∃x,V1 i=.int .i64 x/\(Lit.int .i64 x).wf=true:=by
       intro i hi;obtain⟨_,_,q0,q1⟩:=hcell i hi;obtain⟨x,e,_,hx⟩:=DataW.trod_int Tryz.underlying3 q0;obtain⟨y,f,_,hy⟩:=DataW.trod_int Tryz.underlying3 q1;simp only[de,and_true]at e f;exact⟨⟨x,e,hx⟩,⟨y,f,hy⟩⟩
      have hZ:∀j,j<m'*2->W.cell? (a.add j)=some (.int .i64 (if j%2=0 then uF (V0 (j/2))else uF (V1 (j/2))))/\(Lit.int .i64 (if j%2=0 then uF (V0 (j/2))else uF (V1 (j/2)))).wf=true:=by
       intro j hj;have hi:j/2<m':=om;obtain⟨⟨x,ex,hx⟩,⟨y,ey,hy⟩⟩:=hV _ hi;obtain⟨q0,q1,_,_⟩:=hcell _ hi;rw[ex]at q0;rw[ey]at q1;rcases Nat.mod_two_eq_zero_or_one j with hz|hz
       .have ej:j/2*2=j:=om;rw[ej]at q0;rw[if_pos hz,ex];exact⟨q0,hx⟩
       .have ej:j/2*2+1=j:=om;rw[ej]at q1;rw[if_neg om,ey];exact⟨q1,hy⟩
      refine⟨n,some a,len,m',(List.range (m'*2)).map λj=>if j%2=0 then uF (V0 (j/2))else uF (V1 (j/2)),rfl,.inr ⟨a,rfl,hle,hcap,by simp,λi hi=>?_,λz hz=>?_⟩,λx hx=>by cases hx;exact hsp⟩
      .have hi':i<m'*2:=by simpa using hi
       rw[(hZ i hi').1,aH,aE,dp hi'];rfl
      .obtain⟨j,hj,rfl⟩:=bA.1 hz;exact(hZ j (bm.1 hj)).2
theorem JW:Tryz.prog.cellsOf 28=2:=by kernel_rfl
theorem BT:Tryz.prog.cellsOf 25=1:=by kernel_rfl
theorem JX:Tryz.prog.cellsOf 26=1:=by kernel_rfl
theorem HX:Tryz.prog.cellTypes Tryz.prog.depth 28=some [25,26]:=by kernel_rfl
theorem Lf{H:Type}{enc:TypeId×Value->H}{W:World}{x:DataW H×List MemPlace}(h:DataW.trod enc Tryz.prog W 0 (λ_=>true) true fuel 25 [c]=some x) :
 ∃a len cap zs,c=.slice a len cap/\IsRowE .i64 1 W a len cap zs:=by
 rcases open_ints Tryz.underlying25 Tryz.underlying3 to h with⟨hcs,_⟩|⟨x,l,c,zs,hcs,_,hl,hm,hz,_,hcell,hwz⟩
 .simp only[de,and_true]at hcs;exact⟨none,0,0,[],hcs,.inl ⟨rfl,rfl,rfl,rfl⟩⟩
 .simp only[de,and_true]at hcs;exact⟨some x,l,c,zs,hcs,.inr ⟨_,rfl,hl,hm,by simpa using hz,hcell,hwz⟩⟩
structure RowsIn(w:World)(a:Option Addr)(len cap:Nat)(rows:List NRow):Prop where
 spot:∀x,a=some x->x.spot=none
 none_:a=none->len=0/\cap=0
 le:len<=cap
 length:rows.length=cap
 cells:∀x,a=some x->∀(i:Nat) (r:NRow),rows[i]?=some r->w.cell? (x.add i)=some (.slice r.a r.len r.cap)
 ok:∀r∈rows,r.ok w .i64
theorem IY{H:Type}{enc:TypeId×Value->H}{W:World}{x:DataW H×List MemPlace}(hval:Cell.okWide Tryz.prog W .any base 26 c)(h:DataW.trod enc Tryz.prog W 0 (λ_=>true) true fuel 26 [c]=some x) :
 ∃a len cap rows,c=.slice a len cap/\RowsIn W a len cap rows:=by
 rcases Deep.open_int_rows Tryz.underlying26 Tryz.underlying25 Tryz.underlying3 BT to h with⟨hcs,_⟩|⟨x,l,cp,A,Ln,Cp,Z,hcs,_,hl,hm,_,hcell⟩
 .simp only[de,and_true]at hcs;exact⟨none,0,0,[],hcs,λx hx=>(by cases hx),λ_=>⟨rfl,rfl⟩,ab _,rfl,λx hx=>(by cases hx),λr hr=>(by cases hr)⟩
 .simp only[de,and_true]at hcs;subst hcs;have hsp:x.spot=none:=by
   simp only[Cell.okWide,Tryz.underlying26,Cell.ok]at hval;exact hval.2.2.2.1
  refine⟨some x,l,cp,(List.range cp).map λr=>⟨A r,Ln r,Cp r,Z r⟩,rfl,λy hy=>(by cases hy;exact hsp),λh=>(by cases h),hl,by simp,λy hy i r hr=>?_,λr hr=>?_⟩
  .cases hy;rw[aE]at hr;cases hq:(List.range cp)[i]? with
   |none=>rw[hq]at hr;cases hr
   |some j =>
     rw[hq]at hr;have hi:=(aG.1 hq).1;have hj:j=i:=by
      have:=(aG.1 hq).2;simpa using this.symm
     subst hj;simp only[aF,aa]at hr;subst hr;exact(hcell j (by simpa using hi)).1
  .obtain⟨j,hj,rfl⟩:=bA.1 hr;obtain⟨e1,e2,e3,e4,e5,e6,e7⟩:=hcell j (bm.1 hj);exact⟨e2,e4,e6,λy hy i hi=>(e7 y hy).2 i hi⟩
theorem Da{H:Type}{enc:TypeId×Value->H}{W:World}{d:DataW H}(hval:Value.okWide Tryz.prog W .any base 28 v)(h:DataW.Trod enc Tryz.prog W 0 (λ_=>true) true 28 v d p) :
 ∃a len cap zs b lb cb rows,v=.agg #[.slice a len cap,.slice b lb cb]/\IsRowE .i64 1 W a len cap zs/\RowsIn W b lb cb rows:=by
 have hu:=Tryz.underlying28;simp only[Value.okWide,hu]at hval;obtain⟨cs,rfl,hsz,ts,hts,_,hok⟩:=hval;rw[HX]at hts;simp only[aa]at hts;subst hts;rw[JW]at hsz;obtain⟨fuel,hf⟩:=h;obtain⟨xs,m,_,_,hl,hxl,hfs⟩:=DataW.trod_struct hu hf;have hcs:(Value.agg cs).cells=cs:=rfl;rw[hcs]at hf hfs hl;obtain⟨l⟩:=cs;simp only at hsz hf hfs hl
 match l,hsz with
 |[c0,c1],_ =>
   simp only[fR,aq,aK]at hxl
   match xs,hxl with
   |[x0,x1],_ =>
     have g0:=hfs 0 _ rfl;have g1:=hfs 1 _ rfl;simp[BT,JX]at g0 g1;have hk:=hok 1 c1 rfl;obtain⟨u,hu1,hk⟩:=hk;simp at hu1;subst hu1;obtain⟨a,len,cap,zs,rfl,r1⟩:=Lf g0;obtain⟨b,lb,cb,rows,rfl,r2⟩:=IY hk g1;exact⟨a,len,cap,zs,b,lb,cb,rows,rfl,r1,r2⟩
end Go.Proofs.YtmibmlioidpogaaGreatDoor
