/- The legs, one behind another. -/
import Derived.Test.YtcfncejilmimpaaGreatVTAU
import Derived.Test.YtcfncejilmimpaaGreatVTAV
import Derived.Test.YtcfncejilmimpaaGreatVTAW
import Derived.Test.YtcfncejilmimpaaGreatVTAX
import Derived.Test.YtcfncejilmimpaaGreatVTAY
import Derived.Test.YtcfncejilmimpaaGreatVTAZ
import Derived.Test.YtcfncejilmimpaaGreatVTBA
import Derived.Test.YtcfncejilmimpaaGreatVAmSrt
import Derived.Shelf.Slices.In.SortAlone
import Derived.Deep.QuietTactic
import Derived.BigQuiet
set_option linter.all false
namespace Go.Proofs.YtcfncejilmimpaaGreat
open Go.Am
theorem JS:GoodS prg (skS0.load prg) :=
 fR MY (fR MX (fR MW (fR MV (fR MU (fR MT (fR MS (fR MR (fR MQ (fR JV (
 fR JU (fR JT (EJ Gm (lt5 DU DT DR DQ DN) (xK skEnd)))))))))))))
open Go.Am
theorem JW:skH0=AH.zero.keep 3:=by kernel_rfl
set_option maxHeartbeats 4000000 in
theorem ED{os:List AO}{n:Int}{ev iv:AV}{E:List (Int×Int)}{L:List Int}(hos:os.length=2)(he:SlE (news os AH.zero) ev E)(hi:SlI (news os AH.zero) iv L) :
 C prg 3 [.agg [.int .i64 n,ev],iv] (news os AH.zero) λv _=>v=.bool true:=by
 obtain⟨ec,eo⟩:=he.cells;have hnx:(news os AH.zero).next=10:=by rw[vR,hos];rfl
 refine Oj pf3 ?_;refine ai (aE (Mi0) ?_);have hsp:=DI (f:=4) JS JW (os:=os++[.cells [.int .i64 n,ev] 2 false]) (by rw[aG,hos];rfl) (by decide);rw[<-Hz]at hsp;have ga:∀c,((news os AH.zero).new (.cells [.int .i64 n,ev] 2 false)).get c=if c=(news os AH.zero).next then some (.cells [.int .i64 n,ev] 2 false)else(news os AH.zero).get c:=λc=>by
  rw[AH.get_new]
 have hk0:∀b o,(news os AH.zero).get b=some o->((news os AH.zero).new (.cells [.int .i64 n,ev] 2 false)).get b=some o:=λb o hb=>by
  have:=AH.lt_of_get hb;rw[ga,if_neg om];exact hb
 generalize ((news os AH.zero).new (.cells [.int .i64 n,ev] 2 false))=h1 at *
 have gG:h1.get (news os AH.zero).next=some (.cells [.int .i64 n,ev] 2 false):=by rw[ga,if_pos rfl]
 generalize (news os AH.zero).next=nx at *
 subst hnx;refine ai (ai (cJ (qq (Z0) (M0) (hsp) λr h2 hq=>?_)));obtain⟨rfl,hn2,hk2⟩:=hq;refine bU (M0) ?_;refine dJ (Z0) (bM ?_);have he2:SlE h2 ev E:=Sl.stay (λb o hb=>hk2 b o (hk0 b o hb)) he;have hi2:SlI h2 iv L:=Sl.stay (λb o hb=>hk2 b o (hk0 b o hb)) hi;have gG2:=hk2 _ _ gG;have g10:=AH.lt_of_get gG2;have rG:ar h2 10 0 2=some [.int .i64 n,ev]:=by rw[bC gG2];rfl
 have ess:=Cz he;have hself:AV.same (.agg [.int .i64 n,ev]) (.agg [.int .i64 n,ev])=true:=by simp[AV.same,AV.sames,ess]
 clear hsp ga hk0 hn2 hk2 gG;refine ai (ai (cJ (bK 1 (Mi1 rG) rfl (Zi1 rG) (Mi1 rG) (AU (n:=n) he2) λr h3 hq=>?_)));obtain⟨b,rfl,hb,x3⟩:=hq;have gG3:h3.get 10=some (.cells [.int .i64 n,ev] 2 false):=by rw[x3.gt _ om];exact gG2
 have n3:=x3.nx;have he3:=he2.ext x3 (ab _);have hi3:=hi2.ext x3 (ab _);have el:=he3.len;have il:=hi3.len;rw[ah]at el il;have rG3:ar h3 10 0 2=some [.int .i64 n,ev]:=by rw[bC gG3];rfl
 have r30:ar h3 10 0 1=some [.int .i64 n]:=bF gG3 rfl;have r31:ar h3 10 1 1=some [ev]:=bF gG3 rfl;have skip:∀{ts':Tm}{K:Tm->AH->Prop},True:=fun {_ _}=>trivial;clear skip;cases b with
 |false =>
   refine ly 20 (Mi0) rfl (Z0) ?_;refine bU (M0) ?_;refine cI (Z0) (ai (aE (M0) ?_));exact bP ⟨_,(by simp only[rs,rf3,am,aJ,simprocAttr]<;>rfl),rfl⟩
 |true =>
 have hP:gH n E:=hb.1 rfl;by_cases q2:20<n
 .have d1:decide ((20:Int)<n)=true:=aP q2;refine ly 20 (Mi2 r30 d1) rfl (Z0) ?_;refine bU (M0) ?_;refine cI (Z0) (ai (aE (M0) ?_));exact bP ⟨_,(by simp only[rs,rf3,am,aJ,simprocAttr]<;>rfl),rfl⟩
 have d1:decide ((20:Int)<n)=false:=aL q2;by_cases q3:40<E.length
 .have d2:decide ((40:Int)<((E.length:Nat):Int))=true:=aP om;refine ly 20 (Mi5 r30 d1 r31 el d2) rfl (Z0) ?_;refine bU (M0) ?_;refine cI (Z0) (ai (aE (M0) ?_));exact bP ⟨_,(by simp only[rs,rf3,am,aJ,simprocAttr]<;>rfl),rfl⟩
 have d2:decide ((40:Int)<((E.length:Nat):Int))=false:=aL om;by_cases q4:60<L.length
 .have d3:decide ((60:Int)<((L.length:Nat):Int))=true:=aP om;refine ly 20 (by simp only[am,aJ,simprocAttr,bL,r30,d1,r31,el,d2,il,d3]<;>rfl) rfl (Z0) ?_;refine bU (M0) ?_;refine cI (Z0) (ai (aE (M0) ?_));exact bP ⟨_,(by simp only[rs,rf3,am,aJ,simprocAttr]<;>rfl),rfl⟩
 have d3:decide ((60:Int)<((L.length:Nat):Int))=false:=aL om;refine bK 20 (by simp only[am,aJ,simprocAttr,bL,r30,d1,r31,el,d2,il,d3,rG3]<;>rfl) rfl (by simp only[am,aJ,simprocAttr,bL,r30,d1,r31,el,d2,il,d3,rG3]) (by simp only[am,aJ,simprocAttr,bL,r30,d1,r31,el,d2,il,d3,rG3]<;>rfl) (El (n:=n) he3 hi3 om om om) λr h4 hq=>?_;obtain⟨x4,ha⟩:=hq;obtain⟨k,rfl⟩:=qC hP;have gG4:h4.get 10=some (.cells [.int .i64 (k:Nat),ev] 2 false):=by rw[x4.gt _ om];exact gG3
 have n4:=x4.nx;have rG4:ar h4 10 0 2=some [.int .i64 (k:Nat),ev]:=by rw[bC gG4];rfl
 have he4:=he3.ext x4 (ab _);have hi4:=hi3.ext x4 (ab _);rcases NX hP ha with rfl|⟨hr,hin,hno,hno2,hyes⟩
 .refine bU (M1 @decide_true) ?_;refine cI (Z0) (ai (aE (M0) ?_));exact bP ⟨_,(by simp only[rs,rf3,am,aJ,simprocAttr]<;>rfl),rfl⟩
 obtain⟨z,rfl,hz⟩:∃z:Int,r=.int .i64 z/\z≠0:=by
  rcases hr with rfl|rfl
  .exact⟨5,rfl,om⟩
  .exact⟨33,rfl,om⟩
 have d4:decide (z=0)=false:=aL hz;refine uH (λts h'=>h'=h4/\bt ts 1=iv/\bt ts 2=.ptr 10 0/\bt ts 32=.bool false) (by simp only[am,aJ,simprocAttr,bL,d4]) ?_;rintro ts h4' ⟨rfl,e1,e2,e32⟩;refine dJ (Z1 e32) (bM ?_);clear e32 r30 r31 rG rG3 gG2 gG3 he2 hi2 he3 hi3;refine ai (ai (cJ (bK 1 (M2 e2 rG4) rfl (Z2 e2 rG4) (M2 e2 rG4) (Bf (n:=(k:Nat)) he4 om) λr h5 hq=>?_)));obtain⟨b5,rfl,hb5,x5⟩:=hq;have:b5=false:=by
  cases b5 with
  |false=>rfl
  |true=>exact absurd (hb5.1 rfl) hno
 subst this;have n5:=x5.nx;have gG5:h5.get 10=some (.cells [.int .i64 (k:Nat),ev] 2 false):=by rw[x5.gt _ om];exact gG4
 have rG5:ar h5 10 0 2=some [.int .i64 (k:Nat),ev]:=by rw[bC gG5];rfl
 refine bK 3 (M3 e1 e2 rG5) rfl (Z3 e1 e2 rG5) (M3 e1 e2 rG5) (vH (n:=(k:Nat)) (he4.ext x5 (ab _)) (hi4.ext x5 (ab _)) om hin) λr h6 hq=>?_;obtain⟨kv,rfl,sk,x6⟩:=hq;have n6:=x6.nx;have kl:(jd E L).length=L.length:=by unfold jd;rw[ah]
 refine qq (Z0) (M0) (Bf (n:=(k:Nat)) sk om) λr h7 hq=>?_;obtain⟨b7,rfl,hb7,x7⟩:=hq;have:b7=false:=by
  cases b7 with
  |false=>rfl
  |true=>exact absurd (hb7.1 rfl) hno2
 subst this;have x47:Ext h4'.next h4' h7:=x5.trans ((x6.mono n5).trans (x7.mono om));refine uH (λts h'=>h'=h7/\bt ts 1=iv/\bt ts 2=.ptr 10 0/\bt ts 40=.bool false) (by simp only[am,aJ,simprocAttr,e1,e2]) ?_;clear e1 e2;rintro ts h7' ⟨rfl,e1,e2,e40⟩;refine dJ (Z1 e40) (bM ?_);refine ai (ai (aE (by simp only[am,aJ,simprocAttr,e1,il]<;>rfl) ?_));refine iI (α:=Unit) (N:=L.length) (λ_ _=>[(1,iv),(2,.ptr 10 0)]) (λ_ _ h'=>Ext h4'.next h4' h') () (λ_ _=>rfl) om (H2 e1 e2) x47 ?_ ?_
 .clear e1 e2 e40;rintro i _ ts h8 hk x8 ⟨ei,en,e1,e2,-⟩;simp only at ei en e1 e2;refine ai (bW (λts h'=>h'=h8/\bt ts 1=iv/\bt ts 2=.ptr 10 0/\bt ts 5=.int .i64 (i:Nat)/\bt ts 43=.int .i64 (i:Nat)/\bt ts 42=.int .i64 (L.length:Nat)) (by simp only[am,aJ,simprocAttr,e1,e2,ei,en]) ?_);clear e1 e2 ei en;rintro ts h8' ⟨rfl,e1,e2,e5,ei,en⟩;have n8:=x8.nx;have he8:=he4.ext x8 (ab _);have hi8:=hi4.ext x8 (ab _);have gG8:h8'.get 10=some (.cells [.int .i64 (k:Nat),ev] 2 false):=by rw[x8.gt _ om];exact gG4
  have w1:IntKind.i64.wrap (((i:Nat):Int)+1)=((i+1:Nat):Int):=ft om om;have kg:∀c,c<h8'.next->(h8'.keep 1).get c=h8'.get c:=λc hc=>by rw[AH.keep_get,if_neg om]
  have hrk:SlI (h8'.keep 1) iv L:=hi8.cong λb o n c e=>kg _ (hi8.lt e);obtain⟨va,fa,ta,ia,_⟩:=hrk.upto (hi:=i) (by rw[ah];omega);obtain⟨vb,fb,tb,ib,_⟩:=hrk.from (lo:=i+1) (by rw[ah];omega);rw[<-fy]at ta;rw[<-fz]at tb;have ba:=ia _ (Gh hi8);have bb:=ib _ (Gh hi8);have ta2:SlI h8' va (L.take i):=ta.cong λb o n c e=>by subst e;exact(kg _ ba).symm
  have tb2:SlI h8' vb (L.drop (i+1)):=tb.cong λb o n c e=>by subst e;exact(kg _ bb).symm
  obtain⟨m1,lv1,m2,hm1,q1,a1,i1,y1,_,t1⟩:=catA (K:=1) ta2 (by rw[bG];omega) om;have fb2:slV m2 1 iv (some (.int .i64 ((i+1:Nat):Int))) none none=some vb:=by
   rw[slc (h:=h8'.keep 1) λb o n c e=>?_]
   .exact fb
   .have:=hi8.lt e;rw[kg _ this,y1.gt _ this]
  have sb:=Cz tb;have tbm:SlI m2 vb (L.drop (i+1)):=tb2.ext y1 (ab _);obtain⟨lv,m3,a3,i3,y3,t3,_⟩:=apps (bytes:=8) i1 om om tbm (zM _) (by rw[fJ (f:=eI) (e:=1) (λ_=>rfl),bG,ah,dh];unfold bd;omega) (by rw[fJ (f:=eI) (e:=1) (λ_=>rfl),bG,ah,dh];unfold bd;omega);rw[wy,<-da]at i3;have rk:ar (h8'.keep 1) 10 0 2=some [.int .i64 (k:Nat),ev]:=by rw[cN (kg 10 om),bC gG8];rfl
  have rm2:ar m2 10 0 2=some [.int .i64 (k:Nat),ev]:=by rw[cN (y1.gt 10 om),bC gG8];rfl
  have Y3:Ext h8'.next h8' m3:=y1.trans y3;have rm3:ar m3 10 0 2=some [.int .i64 (k:Nat),ev]:=by rw[cN (Y3.gt 10 om),bC gG8];rfl
  have n9:=Y3.nx;have hin2:∀z∈L.take i++L.drop (i+1),0<=z/\z<((E.length:Nat):Int):=λz hz=>by
   rcases aC.1 hz with h|h
   .exact hin z (nA h)
   .exact hin z (List.mem_of_mem_drop h)
  have hl2:(L.take i++L.drop (i+1)).length<2^28:=by rw[aG,bG,dh];omega
  refine ai (nZ (bK 11 (by simp only[am,aJ,simprocAttr,e1,e2,e5,w1,rk,rm2,rm3,hself,eB,bO,aI,fa,fb,fb2,sb,eO,ez q1,oz,<-hm1,a1,a3]<;>rfl) rfl (by simp only[am,aJ,simprocAttr,e1,e2,e5,w1,rk,rm2,rm3,hself,eB,bO,aI,fa,fb,fb2,sb,eO,ez q1,oz,<-hm1,a1,a3]) (by simp only[am,aJ,simprocAttr,e1,e2,e5,w1,rk,rm2,rm3,hself,eB,bO,aI,fa,fb,fb2,sb,eO,ez q1,oz,<-hm1,a1,a3]<;>rfl) (vH (n:=(k:Nat)) (he8.ext Y3 (ab _)) (MP i3) hl2 hin2) λr h10 hq=>?_));obtain⟨kv2,rfl,sk2,x10⟩:=hq;have kl2:(jd E (L.take i++L.drop (i+1))).length=(L.take i++L.drop (i+1)).length:=by unfold jd;rw[ah]
  refine qq (Z0) (M0) (Bf (n:=(k:Nat)) sk2 om) λr h11 hq=>?_;obtain⟨b11,rfl,hb11,x11⟩:=hq;obtain rfl:b11=true:=hb11.2 (hyes i hk);have X11:Ext h4'.next h4' h11:=x8.trans ((Y3.mono n8).trans ((x10.mono om).trans (x11.mono (by have:=x10.nx;omega))));refine uH (λts h'=>h'=h11/\bt ts 1=iv/\bt ts 2=.ptr 10 0/\bt ts 43=.int .i64 (i:Nat)/\bt ts 42=.int .i64 (L.length:Nat)/\bt ts 59=.bool false) (by simp only[am,aJ,simprocAttr,e1,e2,ei,en]) ?_;clear e1 e2 e5 ei en;rintro ts h12 ⟨rfl,e1,e2,ei,en,e59⟩;refine dJ (Z1 e59) (bM ?_);exact⟨(),X11,H4 ei en e1 e2⟩
 .clear e1 e2 e40;rintro _ ts h8 x8 ⟨e1,e2,-⟩;refine ai (aE (M0) ?_);exact bP ⟨_,(by simp only[rs,rf3,am,aJ,simprocAttr]<;>rfl),rfl⟩
open Go.Am Go.Shelf
def sren:Ren:=⟨λx=>match x with|189=>29|125=>52|257=>51|128=>78|129=>79|294=>69|295=>70|296=>71|297=>72|298=>73|299=>74|216=>75|300=>76|301=>77|328=>96|329=>97|330=>98|331=>99|332=>100|215=>101|343=>108|n=>n,λx=>match x with|28=>25|46=>91|51=>114|53=>116|183=>107|182=>106|131=>103|218=>128|222=>132|228=>137|229=>138|n=>n,λn=>n⟩
def sre2:Ren:=⟨λx=>match x with|6=>42|15=>52|14=>58|28=>78|29=>79|20=>82|21=>83|22=>84|23=>85|24=>86|25=>87|26=>88|27=>89|46=>104|47=>97|48=>98|49=>105|50=>106|57=>110|n=>n,λx=>match x with|22=>41|24=>25|25=>83|39=>91|53=>114|55=>116|46=>107|45=>106|50=>103|66=>128|70=>132|76=>137|77=>138|n=>n,λn=>n⟩
theorem brs{f:FuncId}{B:Func}(h1:((Tryz.prog.funcs[f]?.getD Tryz.f42).name== "runtime.NumGoroutine")=false)(h2:Tryz.prog.funcs[f]?=some { B with name:=(Tryz.prog.funcs[f]?.getD Tryz.f42).name}):Bears Tryz.prog f B:=⟨_,h1,h2⟩
theorem slay:Lays.n189 Tryz.prog sren:=by
 constructor<;>first|kernel_rfl|(intro;kernel_rfl)
theorem sla2:SlLaysF.n6 Tryz.prog sre2:=by
 constructor<;>first|kernel_rfl|exact brs (by kernel_rfl) (by kernel_rfl)|(intro;kernel_rfl)
theorem cmp43:JA Tryz.prog 43:=by
 intro W b1 o1 n1 c1 b2 o2 n2 c2 k1 k2 h1 h2 a1 a2 a3 a4
 go_enter Tryz.func43,Tryz.ntmps43
 go_wp2
 go_quiet (fail)
 go_wp2
 go_ret
 exact⟨rfl,_,rfl⟩
theorem ssrt:Jt Tryz.prog 29:=λblk off cap zs w hH hb hz=>calls_of_every_depth λD=>AnyS.slices_Sort_int_alone slay D blk off cap zs w hH hb hz
theorem srts:Jw Tryz.prog mks:=by
 have c:∀{k:Nat}{r:RF},(bS Tryz.prog k).bind dD=some r->∃rf,bS Tryz.prog k=some rf:=λh=>let ⟨rf,h,_⟩:=fU.1 h;⟨rf,h⟩;exact yC.2 ⟨.inl ⟨rfl,JN ssrt (c cf29)⟩,yC.2 ⟨.inr ⟨43,rfl,JO sla2 rfl (enters_of Tryz.func43 (by kernel_rfl) rfl) cmp43 (c cf42)⟩,λ_ h=>by cases h⟩⟩
end Go.Proofs.YtcfncejilmimpaaGreat
