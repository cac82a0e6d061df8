/- SweepFlat's law in the clean machine. -/
import Derived.Test.YtmibmlioidpogaaGreatDoorVTAX
import Derived.Test.YtmibmlioidpogaaGreatDoorVAmSrt
import Derived.Shelf.Slices.In.SortAlone
import Derived.Deep.QuietTactic
import Derived.BigQuiet
set_option linter.all false
namespace Go.Proofs.YtmibmlioidpogaaGreatDoor
open Go.Am
theorem Im:skH0=AH.zero.keep 106:=by kernel_rfl
set_option maxHeartbeats 1000000 in
theorem CC{os:List AO}{n:Int}{ev ordv outv:AV}{ne no nu:Nat}{E:List (Int×Int)}{order:List Int}{outs:List (List Int)}(hos:os.length=104)(c:Came (news os AH.zero) ev ordv outv ne no nu E order outs) :
 C prg 3 [.agg [.int .i64 n,ev],.agg [ordv,outv]] (news os AH.zero) λv _=>v=.bool true:=by
 obtain⟨ec,eo⟩:=ka c.le;obtain⟨oc,oo⟩:=ka c.lo;obtain⟨qc,qo⟩:=ka c.lu;have hnx:(news os AH.zero).next=112:=by rw[ur,hos];rfl
 refine Me pf3 ?_;refine ae (ar (Mi0) ?_);have hsp:=Cs (f:=4) Il Im (os:=os++[.cells [.int .i64 n,ev] 2 false,.cells [ordv,outv] 2 false]) (by rw[aC,hos];rfl) (by decide);rw[<-sk]at hsp;have ga:∀c,(((news os AH.zero).new (.cells [.int .i64 n,ev] 2 false)).new (.cells [ordv,outv] 2 false)).get c=if c=(news os AH.zero).next+1 then some (.cells [ordv,outv] 2 false)else if c=(news os AH.zero).next then some (.cells [.int .i64 n,ev] 2 false)else(news os AH.zero).get c:=λc=>by
  rw[AH.get_new,AH.get_new];rfl
 have hk0:∀b o,(news os AH.zero).get b=some o->(((news os AH.zero).new (.cells [.int .i64 n,ev] 2 false)).new (.cells [ordv,outv] 2 false)).get b=some o:=λb o hb=>by
  have:=AH.lt_of_get hb;rw[ga,if_neg om,if_neg om];exact hb
 generalize ((news os AH.zero).new (.cells [.int .i64 n,ev] 2 false)).new (.cells [ordv,outv] 2 false)=h1 at *
 have gG:h1.get (news os AH.zero).next=some (.cells [.int .i64 n,ev] 2 false):=by rw[ga,if_neg om,if_pos rfl]
 have gP:h1.get ((news os AH.zero).next+1)=some (.cells [ordv,outv] 2 false):=by rw[ga,if_pos rfl]
 generalize (news os AH.zero).next=nx at *
 subst hnx;refine ae (ae (bM (jc (Z0) (M0) (hsp) λr h2 hq=>?_)));obtain⟨rfl,hn2,hk2⟩:=hq;refine bF (M0) ?_;refine dQ (Z0) (bK ?_);have c2:=c.stay (h':=h2) λb o hb=>hk2 b o (hk0 b o hb);have gG2:=hk2 _ _ gG;have gP2:=hk2 _ _ gP;have rG:ak h2 112 0 2=some [.int .i64 n,ev]:=by rw[aU gG2];rfl
 have rP:ak h2 113 0 2=some [ordv,outv]:=by rw[aU gP2];rfl
 refine ae (ae (bM (aV 2 (Mi2 rG rP) rfl (Zi2 rG rP) (Mi2 rG rP) (GD (n:=n) c2.le c2.lo c2.lu c2.u) λr h3 hq=>?_)));obtain⟨⟨b,rfl,hb⟩,x3⟩:=hq;have n3:=x3.nx;have gG3:h3.get 112=some (.cells [.int .i64 n,ev] 2 false):=by rw[x3.gt _ om];exact gG2
 have gP3:h3.get 113=some (.cells [ordv,outv] 2 false):=by rw[x3.gt _ om];exact gP2
 have rn3:ak h3 112 0 1=some [.int .i64 n]:=br gG3 rfl;have re3:ak h3 112 1 1=some [ev]:=br gG3 rfl;have le:=c.le;cases b with
 |true =>
   refine bF (Mi0) ?_;refine dg (Z0) (ae (ar (M0) ?_));exact bG ⟨.bool true,(by simp only[rs,rf3,am,aD,simprocAttr]<;>rfl),rfl⟩
 |false =>
 by_cases q1:20<n
 .have d1:decide ((20:Int)<n)=true:=bj q1;refine bF (Mi2 rn3 d1) ?_;refine dg (Z0) (ae (ar (M0) ?_));exact bG ⟨.bool true,(by simp only[rs,rf3,am,aD,simprocAttr]<;>rfl),rfl⟩
 have d1:decide ((20:Int)<n)=false:=aN q1;by_cases q2:40<ne
 .have d2:decide ((40:Int)<((ne:Nat):Int))=true:=bj om;refine bF (by simp only[am,aD,simprocAttr,bE,rn3,d1,re3,le,d2]<;>rfl) ?_;refine dg (Z0) (ae (ar (M0) ?_));exact bG ⟨.bool true,(by simp only[rs,rf3,am,aD,simprocAttr]<;>rfl),rfl⟩
 have d2:decide ((40:Int)<((ne:Nat):Int))=false:=aN om;refine bF (by simp only[am,aD,simprocAttr,bE,rn3,d1,re3,le,d2]<;>rfl) ?_;refine dQ (Z0) (bK ?_);obtain⟨b1,b2,b3,b4⟩:=hb rfl;obtain⟨l1,l2,l3⟩:=c2.lens;have l3:=l3 b3;have e3:=c2.e.ext x3 (ab _);have o3:=c2.o.ext x3 (ab _);have u3:=(c2.u b3).ext x3;have rG3:ak h3 112 0 2=some [.int .i64 n,ev]:=by rw[aU gG3];rfl
 have rP3:ak h3 113 0 2=some [ordv,outv]:=by rw[aU gP3];rfl
 refine ae (bM (aV 2 (Mi2 rG3 rP3) rfl (Zi2 rG3 rP3) (Mi2 rG3 rP3) (Ig (n:=n) e3 om o3 u3 om om b4) λr h4 hq=>?_));obtain⟨x4,hr⟩:=hq;obtain⟨A,B,cd,pl,rfl,hcd⟩:∃A B cd pl,r=.tup ([A,B]++tlF cd pl)/\(cd=0->IsP n E):=by
  rcases hr with⟨_,rfl⟩|⟨hp,⟨i,_,rfl⟩|⟨ends,row,A,B,hrun,rfl,_,_⟩⟩
  .exact⟨_,_,_,_,rfl,λh=>absurd h (by decide)⟩
  .exact⟨_,_,_,_,rfl,λh=>absurd h (by decide)⟩
  .exact⟨_,_,_,_,rfl,λ_=>Fi hp.1 hp.2 hrun⟩
 obtain⟨h5,w5,x5,g5,n5⟩:=iB (h:=h4) (z:=[.int .i64 0,.int .i64 0,.nils]) (cs:=[.int .i64 cd,.int .i64 pl,.nils]) (e:=3) rfl;refine bF (by simp only[am,aD,simprocAttr,tlF,w5]<;>rfl) ?_;have n4:=x4.nx;have x35:Ext h3.next h3 h5:=x4.trans (x5.mono n4);have t0:ak h5 h4.next 0 1=some [.int .i64 cd]:=br g5 rfl;by_cases hz:cd=0
 case neg =>
  have k1:decide (cd=0)=false:=aN hz;refine ae (bM (ja 5 (by simp only[am,aD,simprocAttr,bE,t0,k1]<;>rfl) rfl (Z0) ?_));refine bF (M0) ?_;exact bG ⟨.bool true,(by simp only[rs,rf3,am,aD,simprocAttr]<;>rfl),rfl⟩
 subst hz;have gG5:h5.get 112=some (.cells [.int .i64 n,ev] 2 false):=by rw[x35.gt _ om];exact gG3
 have rG5:ak h5 112 0 2=some [.int .i64 n,ev]:=by rw[aU gG5];rfl
 refine ae (bM (aV 5 (Mi3 t0 @decide_true rG5) rfl (Zi3 t0 @decide_true rG5) (Mi3 t0 @decide_true rG5) (Lh (n:=n) (e3.ext x35 (ab _)) om) λr h6 hq=>?_));obtain⟨b,rfl,hb6,_⟩:=hq;obtain rfl:b=true:=hb6.2 (hcd rfl);refine bF (M0) ?_;exact bG ⟨.bool true,(by simp only[rs,rf3,am,aD,simprocAttr]<;>rfl),rfl⟩
open Go.Am Go.Shelf
def sren:Ren:=⟨λx=>match x with|189=>51|125=>86|257=>85|128=>113|129=>114|294=>104|295=>105|296=>106|297=>107|298=>108|299=>109|216=>110|300=>111|301=>112|328=>132|329=>133|330=>134|331=>135|332=>136|215=>137|343=>145|n=>n,λx=>match x with|28=>25|46=>145|51=>169|53=>171|183=>162|182=>161|131=>157|218=>183|222=>187|228=>195|229=>196|n=>n,λn=>n⟩
def sre2:Ren:=⟨λx=>match x with|6=>62|15=>86|14=>92|28=>113|29=>114|20=>116|21=>117|22=>118|23=>119|24=>120|25=>121|26=>122|27=>123|46=>138|47=>133|48=>134|49=>139|50=>140|57=>146|n=>n,λx=>match x with|22=>26|24=>25|25=>116|39=>145|53=>169|55=>171|46=>162|45=>161|50=>157|66=>183|70=>187|76=>195|77=>196|n=>n,λn=>n⟩
theorem brs{f:FuncId}{B:Func}(h1:((Tryz.prog.funcs[f]?.getD Tryz.f62).name== "runtime.NumGoroutine")=false)(h2:Tryz.prog.funcs[f]?=some { B with name:=(Tryz.prog.funcs[f]?.getD Tryz.f62).name}):Bears Tryz.prog f B:=⟨_,h1,h2⟩
theorem slay:Lays.n189 Tryz.prog sren:=by
 constructor<;>first|kernel_rfl|(intro;kernel_rfl)
theorem sla2:SlLaysF.n6 Tryz.prog sre2:=by
 constructor<;>first|kernel_rfl|exact brs (by kernel_rfl) (by kernel_rfl)|(intro;kernel_rfl)
theorem cmp63:HQ Tryz.prog 63:=by
 intro W b1 o1 n1 c1 b2 o2 n2 c2 k1 k2 h1 h2 a1 a2 a3 a4
 go_enter Tryz.func63,Tryz.ntmps63
 go_wp2
 go_quiet (fail)
 go_wp2
 go_ret
 exact⟨rfl,_,rfl⟩
theorem ssrt:HJ Tryz.prog 51:=λblk off cap zs w hH hb hz=>calls_of_every_depth λD=>AnyS.slices_Sort_int_alone slay D blk off cap zs w hH hb hz
theorem srts:HM Tryz.prog mks:=by
 have c:∀{k:Nat}{r:RF},(bJ Tryz.prog k).bind cJ=some r->∃rf,bJ Tryz.prog k=some rf:=λh=>let ⟨rf,h,_⟩:=kI.1 h;⟨rf,h⟩;exact xl.2 ⟨.inl ⟨rfl,Ih ssrt (c cf51)⟩,xl.2 ⟨.inr ⟨63,rfl,Ii sla2 rfl (enters_of Tryz.func63 (by kernel_rfl) rfl) cmp63 (c cf62)⟩,λ_ h=>by cases h⟩⟩
end Go.Proofs.YtmibmlioidpogaaGreatDoor
