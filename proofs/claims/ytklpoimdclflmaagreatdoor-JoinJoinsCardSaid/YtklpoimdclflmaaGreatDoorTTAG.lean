/- graph.View.cycle -/
import Derived.Test.YtklpoimdclflmaaGreatDoorTTAF
set_option linter.all false
namespace Go.Proofs.YtklpoimdclflmaaGreatDoor
open Go.Am Go.Sort
variable {b:Nat}{es:List (Int×Int)}{h:AH}{iv:AV}{rest:List AV}{x y:Int}{xs:List Int}
def gcycle1_ok:C prg 84 [.int .i64 x] h λr h'=>r=.bool (decide (0<x))/\h'=h:=by
 refine Oj rfl ?_;refine ae (ak (Mi0) ?_);refine ae (ak (Mi0) ?_);exact bu ⟨_,(by simp only[rs,rf84,am,aL,simprocAttr]<;>rfl),rfl,rfl⟩
def sd:xs.any (y==·)=decide (y∈xs):=by
 rw[dM];simp
def vr(h:y∈xs):∃k,eM (y==·) xs 0=((k:Nat):Int)/\k<xs.length:=by
 have h1:=(lj (y==·) xs 0)
 have h2:0<=eM (y==·) xs 0:=by
  have:xs.any (y==·)=true:=by rw[sd];simpa using h
  by_cases q:eM (y==·) xs 0<0
  .rw[h1.2.1 q]at this;cases this
  .omega
 obtain⟨k,h3,h4,_⟩:=mV _ _ _ h2;exact⟨k,by simpa using h3,h4⟩
def NP{vp:AV}{n:Nat}(hv:IsView h vp n es) :
 C prg 51 [vp] h λr h'=>∃xs:List Int,SlI h' r xs/\(xs=[]↔Acy es)/\Ext h.next h h':=by
 have hv0:=hv;obtain⟨b,ev,os,is,ob,ib,rfl,g1,g2,g3,g4,g5,g6,g7,g8,m1,m2,m3,m4⟩:=hv;refine Oj rfl ?_;refine ae (ak (Mi0) ?_);refine ae (bM (bj 1 (Mi0) rfl (Zi0) (Mi0) (Mc hv0) λr h1 hq=>?_));obtain⟨a,w,out,ws,rfl,iw,k,hz,x1,_⟩:=hq;refine bI (M0) ?_;have hw:SlI h1 w ws:=Ob om (λ_=>rfl) iw;refine ae (bM (bj 1 (M1 @lT) rfl (Z1 @lT) (M1 @lT) (IT (P:=λx=>decide (0<x)) (caps:=[]) hw (by rw[k.len];omega) (λx _ h' _=>by rw[bF];exact gcycle1_ok.mono λr h2 hq=>⟨hq.1,by rw[hq.2];exact Oh⟩)) λr h2 hq=>?_));obtain⟨rfl,x2⟩:=hq;refine bI (M0) ?_;have hacy:=k.acy m4 hz;by_cases q:eM (λx=>decide (0<x)) ws 0<0
 .have hle:=vq _ _ _ q;have ha:Acy es:=hacy.1 λv hv=>by
   have:=hle (ws[v]'(by rw[k.len];exact hv)) (ar _);rw[aA,aj (by rw[k.len];exact hv),cL];simpa using this
  have c1:decide (0<=eM (λx=>decide (0<x)) ws 0)=false:=aw om;have c2:decide (eM (λx=>decide (0<x)) ws 0<0)=true:=aH q;refine ae (ak (M0) ?_);refine ae (qj (λts h3=>h3=h2/\db ts 5=.int .i64 (eM (λx=>decide (0<x)) ws 0)) (dl (hG (λn ts h3=>h3=h2/\db ts 5=.int .i64 (eM (λx=>decide (0<x)) ws 0)) ?_ (n:=0) ⟨rfl,Z0⟩)) ?_)
  .rintro n ts h3 ⟨rfl,e5⟩;refine ae (ae (bM (fB 5 (M2 e5 c1) rfl (Z0) ?_)));refine bI (M0) ?_;refine dC (Z0) ?_;exact fM ⟨λ_=>⟨rfl,Z1 e5⟩,λe=>absurd rfl e⟩
  .rintro ts h3 ⟨rfl,e5⟩;refine ae (ae (ak (M2 e5 c2) ?_));refine cZ (Z0) (ae (ak (M0) ?_));exact bu ⟨.nils,(by simp only[rs,rf51,am,aL,simprocAttr]<;>rfl),[],.inl ⟨rfl,.inl rfl⟩,⟨λ_=>ha,λ_=>rfl⟩,x1.trans (x2.mono x1.nx)⟩
 .obtain⟨z0,hz0,hz1,hz2⟩:=mV _ _ _ (show 0<=eM (λx=>decide (0<x)) ws 0 by omega);rw[bN]at hz0;have hz2:0<ws.getD z0 0:=by
   rw[aA,aj hz1,cL];simpa using hz2
  have hzn:z0<n:=by rw[<-k.len];exact hz1
  have hna:¬Acy es:=λha=>by have:=hacy.2 ha z0 hzn;omega
  rw[hz0];have w1:IsSl h2 1 h.next w (ws.flatMap eI):=iw.ext x2 (ab _);refine ae (ak (M0) ?_);have X2:Ext h.next h h2:=x1.trans (x2.mono x1.nx)
  refine ae (qj (λts h3=>∃(way:List Int) (z:Nat) (a:AV),((z:Nat):Int)∈way/\IsSl h3 1 h2.next a (way.flatMap eI)/\way.length<=n/\Ext h.next h h3/\h2.next<=h3.next/\db ts 5=.int .i64 (z:Nat)/\db ts 6=a)
   (dl (hG (λm ts h3=>∃(way:List Int) (z:Nat) (a:AV),m=n-way.length/\z<n/\0<ws.getD z 0/\way.Nodup/\(∀y∈way,0<=y/\y<n)/\IsSl h3 1 h2.next a (way.flatMap eI)/\Ext h.next h h3/\Ext h2.next h2 h3/\Held [(0,.ptr b 0),(4,w),(5,.int .i64 (z:Nat)),(6,a)] ts) ?_ (n:=n)
    ⟨[],z0,.nils,rfl,hzn,hz2,by simp,by simp,.inl ⟨rfl,rfl⟩,X2,Oh,Hi0⟩)) ?_)
  .rintro m ts h3 ⟨way,z,a,rfl,zn,zp,nd,hrg,ia,x3,x3',e0,e4,e5,e6,-⟩;simp only at e0 e4 e5 e6;have hwl:way.length<=n:=by
    have h1:way ⊆ (List.range n).map λx=>((x:Nat):Int):=λv hv=>by
     have:=hrg v hv;exact bp.2 ⟨v.toNat,aX.2 om,om⟩
    have:=nd.length_le_of_subset h1;simpa using this
   have c1:decide (0<=((z:Nat):Int))=true:=aH om;have hway:SlI h3 a way:=Ob om (λ_=>rfl) ia;refine ae (ae (bM (bj 5 (M3 e5 e6 c1) rfl (Z3 e5 e6 c1) (M3 e5 e6 c1) (Br (y:=((z:Nat):Int)) hway om) λr h4 hq=>?_)));obtain⟨rfl,x4⟩:=hq;rw[sd];refine bI (M0) ?_;by_cases hm:((z:Nat):Int)∈way
   .have c2:decide (((z:Nat):Int)∈way)=true:=aH hm;refine dC (Z1 c2) ?_;have n4:=x4.nx;have n3:=x3'.nx;exact fM ⟨λ_=>⟨way,z,a,hm,ia.ext x4 (ab _),hwl,x3.trans (x4.mono x3.nx),om,Z1 e5,Z1 e6⟩,λe=>absurd rfl e⟩
   .have c2:decide (((z:Nat):Int)∈way)=false:=aw hm;refine cZ (Z1 c2) (bz (dl ?_));have n4:=x4.nx;have n3:=x3'.nx;obtain⟨s',h5,a1,i5,x5,n5⟩:=(ia.ext x4 (ab _)).push (bytes:=8) (eI ((z:Nat):Int)) om om rfl rfl (by rw[ee];unfold bf;omega) (by rw[ee];unfold bf;omega);rw[show eI ((z:Nat):Int)=[.int .i64 ((z:Nat):Int)] from rfl]at a1 i5;refine ae (ak (M3 e5 e6 a1) ?_);refine ae (ak (M0) ?_);have X5:Ext h.next h h5:=x3.trans ((x4.mono x3.nx).trans (x5.mono (by have:=X2.nx;omega)));have X5':Ext h2.next h2 h5:=x3'.trans ((x4.mono n3).trans x5);have r1:ai h5 b 3 1=some [.sl ib 0 n n]:=bq (by rw[X5.gt _ (AH.lt_of_get g1)];exact g1) rfl;have rz:ai h5 ib z 1=some [is[z]'om]:=bq (by rw[X5.gt _ (AH.lt_of_get g4)];exact g4) (aj _);have iz:fe ((z:Nat):Int) n=some z:=cK zn;have si:=(g8 z _ (aj (show z<is.length by omega))).ext X5 (ab _);have li:=si.len;rw[ah]at li;have hll:(dr es ((z:Nat):Int)).length<=128:=cu (fG _ _ _) m3;have sw:SlI h5 w ws:=hw.ext (x2.trans (X5'.mono x2.nx)) (ab _);have se:=g2.ext X5 (ab _);have rv:ai h5 b 1 1=some [ev]:=bq (by rw[X5.gt _ (AH.lt_of_get g1)];exact g1) rfl;refine ae (ae (ak (M7 e0 e5 r1 iz @aP rz li) ?_))
    refine fi (α:=Int) (N:=(dr es ((z:Nat):Int)).length) (λ_ a'=>[(37,is[z]'om),(0,.ptr b 0),(4,w),(6,s'),(7,.int .i64 a')])
     (λk a' h'=>h'=h5/\-1<=a'/\(0<=a'->a'.toNat<n/\0<ws.getD a'.toNat 0)/\∀i∈(dr es ((z:Nat):Int)).take k,0<ws.getD ((es[i.toNat]?).getD (0,0)).1.toNat 0->0<=a') (-1) (λ_ _=>rfl) om (H2 e0 e4) ⟨rfl,om,om,by simp⟩ ?_ ?_
    .clear e0 e4 e5 e6;rintro j a' ts h6 hj ⟨rfl,j2,j3,j4⟩ ⟨ei,en,e37,e0,e4,e6,e7,-⟩;simp only at ei en e37 e0 e4 e6 e7;obtain⟨jb,jp,a6,r6,_⟩:=si.at1 (cm (f:=eI) hj);obtain⟨ed,hed1,hed2,ed',hed3,hed4⟩:=gX (λe=>decide (e.2=((z:Nat):Int))) es 0 _ (ar hj);rw[bN]at hed1;have hed1:(dr es ((z:Nat):Int))[j]=((ed:Nat):Int):=hed1;rw[hed1]at r6;obtain⟨ea,eb,eab,hea,heb⟩:=nH (bK.1 m4 _ (ar hed2));obtain⟨eb1,ep,a7,_,r7,_⟩:=se.at (cm (f:=eE) hed2);have r7:=r7 0 (.int .i64 ((ea:Nat):Int)) (by rw[eab];rfl);rw[eB]at r7;obtain⟨wb1,wp,a8,r8,_⟩:=sw.at1 (cm (f:=eI) (show ea<ws.length by rw[k.len];exact hea));have hgd:ws.getD ea 0=ws[ea]'(by rw[k.len];exact hea):=by rw[aA,aj (by rw[k.len];exact hea),cL]
     have hnew:(es[((dr es ((z:Nat):Int))[j]).toNat]?).getD (0,0)=(((ea:Nat):Int),((eb:Nat):Int)):=by
      rw[hed1,aO,aj hed2,cL,eab]
     refine ae (ak (M4 e37 ei a6 r6) ?_);refine ae (ak (M4 e0 rv a7 r7) ?_);have mem_succ:∀i,i∈(dr es ((z:Nat):Int)).take (j+1)->i∈(dr es ((z:Nat):Int)).take j\/i=(dr es ((z:Nat):Int))[j]:=λi hi=>by
      rw[aI hj,aZ]at hi;rcases hi with hi|hi
      .exact .inl hi
      .exact .inr (by simpa using hi)
     have hno:¬0<ws.getD ea 0->∀i∈(dr es ((z:Nat):Int)).take (j+1),0<ws.getD ((es[i.toNat]?).getD (0,0)).1.toNat 0->0<=a':=λhn i hi hp=>by
      rcases mem_succ i hi with hi|rfl
      .exact j4 i hi hp
      .rw[hnew]at hp;exact absurd (by simpa using hp) hn
     have hge:0<=a'->∀i∈(dr es ((z:Nat):Int)).take (j+1),0<ws.getD ((es[i.toNat]?).getD (0,0)).1.toNat 0->0<=a':=λh0 _ _ _=>h0;by_cases c1:0<ws[ea]'(by rw[k.len];exact hea)
     .have d1:decide (0<ws[ea]'(by rw[k.len];exact hea))=true:=aH c1;have set:∀a'',a''=((ea:Nat):Int)->(h6=h6/\-1<=a''/\(0<=a''->a''.toNat<n/\0<ws.getD a''.toNat 0)/\∀i∈(dr es ((z:Nat):Int)).take (j+1),0<ws.getD ((es[i.toNat]?).getD (0,0)).1.toNat 0->0<=a''):=by
       rintro _ rfl;exact⟨rfl,om,λ_=>⟨om,by rw[aO,hgd];exact c1⟩,λ_ _ _=>by omega⟩
      by_cases c2:a'<0
      .have d2:decide (a'<0)=true:=aH c2;refine ae (ak (M6 e4 e7 a8 r8 d1 d2) ?_);refine cZ (Z0) ?_;refine ak (M0) ?_;exact⟨_,set _ rfl,H6 ei en e37 e0 e4 e6⟩
      .have d2:decide (a'<0)=false:=aw c2;by_cases c3:((ea:Nat):Int)<a'
       .have d3:decide (((ea:Nat):Int)<a')=true:=aH c3;refine ae (ak (M7 e4 e7 a8 r8 d1 d2 d3) ?_);refine cZ (Z0) ?_;refine ak (M0) ?_;exact⟨_,set _ rfl,H6 ei en e37 e0 e4 e6⟩
       .have d3:decide (((ea:Nat):Int)<a')=false:=aw c3;refine ae (ak (M7 e4 e7 a8 r8 d1 d2 d3) ?_);refine dC (Z0) ?_;exact bz ⟨a',⟨rfl,j2,j3,hge om⟩,H7 ei en e37 e0 e4 e6 e7⟩
     .have d1:decide (0<ws[ea]'(by rw[k.len];exact hea))=false:=aw c1;refine ae (ak (M5 e4 e7 a8 r8 d1) ?_);refine dC (Z0) ?_;exact bz ⟨a',⟨rfl,j2,j3,hno (by rw[hgd];exact c1)⟩,H7 ei en e37 e0 e4 e6 e7⟩
    .clear e0 e4 e5 e6;rintro a' ts h6 ⟨rfl,j2,j3,j4⟩ ⟨e37,e0,e4,e6,e7,-⟩;simp only at e37 e0 e4 e6 e7;rw[bt]at j4;obtain⟨e,hee,he1,he2⟩:=k.back m4 hz zn zp;have hpos:0<=a':=by
      have hin:e∈(dr es ((z:Nat):Int)).map (λi=>(es[i.toNat]?).getD (0,0)):=by
       have:=qH (λe=>decide (e.2=((z:Nat):Int))) es [];simp only[bm,cr]at this;unfold dr;rw[this,bB];exact⟨hee,by simpa using he1⟩
      obtain⟨i,hi,rfl⟩:=bp.1 hin;exact j4 i hi he2
     obtain⟨z',rfl⟩:∃z':Nat,a'=z':=⟨a'.toNat,om⟩
     obtain⟨j5,j6⟩:=j3 hpos;rw[aO]at j5 j6;refine ak (M1 e7) ?_;have nd':(way++[((z:Nat):Int)]).Nodup:=by
      rw[bQ];refine⟨nd,by simp,λx hx y hy=>?_⟩;simp only[aF,bA,or_false]at hy;subst hy;exact λe=>hm (e▸hx)
     have hrg':∀y∈way++[((z:Nat):Int)],0<=y/\y<n:=λy hy=>by
      rw[aZ]at hy;rcases hy with hy|hy
      .exact hrg y hy
      .simp only[aF,bA,or_false]at hy;omega
     have hwl':(way++[((z:Nat):Int)]).length<=n:=by
      have h1:(way++[((z:Nat):Int)]) ⊆ (List.range n).map λx=>((x:Nat):Int):=λv hv=>by
       have:=hrg' v hv;exact bp.2 ⟨v.toNat,aX.2 om,om⟩
      have:=nd'.length_le_of_subset h1;simpa using this
     refine⟨n-(way++[((z:Nat):Int)]).length,by simp only[aJ,bd,bm]at hwl' |-;omega,way++[((z:Nat):Int)],z',s',rfl,j5,j6,nd',hrg',by rw[br];exact i5,X5,X5',H3 e0 e4 e6⟩
  .rintro ts h3 ⟨way,z,a,hm,ia,hwl,x3,n3,e5,e6⟩;have c1:decide (((z:Nat):Int)<0)=false:=aw om;refine ae (ae (ak (M2 e5 c1) ?_));refine dC (Z0) (bz ?_);have sa:SlI h3 a way:=Ob om (λ_=>rfl) ia;obtain⟨k0,hk0,hk1⟩:=vr hm;rcases ia with⟨rfl,hnil⟩|⟨wb,L,hwb,rfl,gw,hL⟩
   .have h0:=congrArg List.length hnil;rw[ee,bm]at h0;omega
   have hLn:L=way.length:=by rw[ee]at hL;omega
   subst hLn;refine ae (bM (bj 3 (M2 e5 e6) rfl (Z2 e5 e6) (M2 e5 e6) (rR (y:=((z:Nat):Int)) sa om) λr h4 hq=>?_));obtain⟨rfl,x4⟩:=hq;rw[hk0];have gw4:h4.get wb=some (.cells (way.flatMap eI) 1 false):=by rw[x4.gt _ (AH.lt_of_get gw)];exact gw
   have s1:=GY gw4 hk1 (ab _) (vU hk1);rw[aP]at s1;refine bI (by simp only[am,aL,simprocAttr,dQ,bW,e6,s1]<;>rfl) ?_;have hds:(way.drop k0).toArray.size=way.length-k0:=by simp
   have gb:h4.get wb=some (jT (way.flatMap eI) k0 (way.drop k0).toArray):=by
    rw[gw4];unfold jT;congr 2;refine(oO (by rw[im,hds,ee];omega) ?_).symm;rw[<-mU,ee,cI,nM,nM,gJ,dx (by rw[cI,ah];omega)]
   have hrv:=Cc (c:=way.length-k0) gb (by rw[hds,ee];omega) (by rw[hds];omega);rw[hds]at hrv;refine ae (bM (bj 1 (M0) rfl (Z0) (M0) (hrv) λr h5 u5=>?_));refine bI (M0) ?_;have s5:=NR (c:=way.length-k0) u5.get (by rw[Dv,hds,ee];omega) (by rw[Dv,hds];omega);rw[Dv,hds]at s5;have hl5:(way.drop k0).toArray.reverse.toList.length=way.length-k0:=by simp
   have n4:=x4.nx;have n5:=u5.nx;generalize (way.drop k0).toArray.reverse.toList=rl at *
   refine ae (bM (bj 2 (M0) rfl (Z0) (M0) (LH s5 om om) λr h6 hq=>?_));obtain⟨mi,rfl,hmi,_,rfl⟩:=hq;obtain⟨j0,hj0,hj1⟩:=vr hmi;refine jW (Z0) (M0) (rR (y:=mi) s5 om) λr h7 hq=>?_;obtain⟨rfl,x7⟩:=hq;rw[hj0];refine bI (M0) ?_;have s7:=s5.ext x7 (ab _);have n7:=x7.nx;have kg:∀c,c<h7.next->(h7.keep 1).get c=h7.get c:=λc hc=>by rw[AH.keep_get,if_neg om]
   have q7:(h7.keep 1).get h7.next=some .resv:=ff;have hwb7:wb<h7.next:=by have:=AH.lt_of_get gw4;omega
   have s8:SlI (h7.keep 1) (.sl wb k0 (way.length-k0) (way.length-k0)) rl:=s7.cong λb' o' n' c' e=>kg _ (s7.lt e);obtain⟨v1,f1,t1,t1b,_⟩:=s8.from (lo:=j0) (by rw[ah];omega);obtain⟨v2,f2,t2,t2b,_⟩:=s8.upto (hi:=j0) (by rw[ah];omega);have cl1:=t1.cells;have cl2:=t2.cells;obtain⟨p1,p2,p3,p4⟩:=fO (h:=h7) (o:=.cells [v1,v2] 1 false);have kgp:∀c,c<h7.next->((h7.keep 1).put h7.next (.cells [v1,v2] 1 false)).get c=(h7.keep 1).get c:=λc hc=>by rw[p4 c hc,kg c hc]
   have hcat:=CQ (h:=(h7.keep 1).put h7.next (.cells [v1,v2] 1 false)) (v:=.sl h7.next 0 2 2) (vs:=[v1,v2]) (xss:=[rl.drop j0,rl.take j0]) (Od p2 rfl (ab _)) rfl (λi w xs hw hx=>?_) (by simp) (by simp only[iJ,eX,bF,aJ,cI,aS];omega)
   rotate_left
   .match i with
    |0 =>
      simp only[bD,aa]at hw hx;subst hw hx;rw[<-gJ]at t1;exact t1.cong λb' o' n' c' e=>kgp _ (by
       have:=t1b (λb=>b<h7.next) hwb7;rw[e]at this;exact this)
    |1 =>
      simp only[cJ,bD,aa]at hw hx;subst hw hx;rw[<-gI]at t2;exact t2.cong λb' o' n' c' e=>kgp _ (by
       have:=t2b (λb=>b<h7.next) hwb7;rw[e]at this;exact this)
    |i+2=>simp at hw
   refine ae (pw (bj 7 (by simp only[am,aL,simprocAttr,dQ,bW,f1,f2,eA,dR q7,cl1.1,cl2.1]<;>rfl) rfl (by simp only[am,aL,simprocAttr,dQ,bW,f1,f2,eA,dR q7,cl1.1,cl2.1]) (by simp only[am,aL,simprocAttr,dQ,bW,f1,f2,eA,dR q7,cl1.1,cl2.1]<;>rfl) (hcat) λr h8 hq=>?_));obtain⟨i8,x8⟩:=hq;refine bI (M0) ?_;refine bu ⟨r,(by simp only[rs,rf51,am,aL,simprocAttr]<;>rfl),_,Ob om (λ_=>rfl) i8,⟨λe=>?_,λe=>absurd e hna⟩,?_⟩
   .exfalso;have:=congrArg List.length e;simp only[iJ,eX,bF,aJ,cI,aS,bm]at this;omega
   .have:=X2.nx;exact x3.trans ((x4.mono om).trans ((u5.ext om).trans ((x7.mono om).trans ((p1.mono om).trans (x8.mono om)))))
open Go.Am
def ft(n:Int)(es:List (Int×Int)):Prop:=fC n es=true/\(∀e∈es,e.1≠e.2)/\es.Nodup/\Acy es/\(gU n.toNat es).length<=1
def CG{x:Int×Int}:C prg 49 [.agg (eE x)] h λr h'=>r=.bool (decide (x.1=x.2))/\Ext h.next h h':=by
 refine Oj rfl ?_;refine ae (ak (by simp only[am,aL,simprocAttr,bV,eE]<;>rfl) ?_);have ex:Ext h.next h (h.new (.cells [.int .i64 x.1,.int .i64 x.2] 2 false)):=Oe (ab _);have g:(h.new (.cells [.int .i64 x.1,.int .i64 x.2] 2 false)).get h.next=some (.cells [.int .i64 x.1,.int .i64 x.2] 2 false):=by rw[AH.get_new,if_pos rfl]
 generalize h.new (.cells [.int .i64 x.1,.int .i64 x.2] 2 false)=h1 at *
 have r1:ai h1 h.next 0 1=some [.int .i64 x.1]:=bq g rfl;have r2:ai h1 h.next 1 1=some [.int .i64 x.2]:=bq g rfl;refine ae (ak (M2 r1 r2) ?_);exact bu ⟨_,(by simp only[rs,rf49,am,aL,simprocAttr]<;>rfl),rfl,ex⟩
def Bv{n:Int}{ev:AV}(he:SlE h ev es)(hl:es.length<2^30) :
 C prg 28 [.agg [.int .i64 n,ev]] h λr h'=>(∃c a v,r=.agg [.int .i64 c,.int .i64 a,v]/\(c=0↔ft n es))/\Ext h.next h h':=by
 obtain⟨ec,eo⟩:=he.cells;have hlen:=he.len;rw[ah]at hlen;refine Oj rfl ?_;have x0:Ext h.next h (h.new (.cells [.int .i64 n,ev] 2 false)):=Oe (ab _);have g0:(h.new (.cells [.int .i64 n,ev] 2 false)).get h.next=some (.cells [.int .i64 n,ev] 2 false):=by rw[AH.get_new,if_pos rfl]
 have n0:(h.new (.cells [.int .i64 n,ev] 2 false)).next=h.next+1:=rfl;refine ae (ak (Mi0) ?_);generalize h.new (.cells [.int .i64 n,ev] 2 false)=h0 at *
 rw[<-n0];have x1:Ext h0.next h0 (h0.new (.cells [.int .i64 0,.int .i64 0,.nils] 3 false)):=Oe (ab _);have f1:(h0.new (.cells [.int .i64 0,.int .i64 0,.nils] 3 false)).get h0.next=some (.cells [.int .i64 0,.int .i64 0,.nils] 3 false):=by rw[AH.get_new,if_pos rfl]
 have n1:(h0.new (.cells [.int .i64 0,.int .i64 0,.nils] 3 false)).next=h0.next+1:=rfl;generalize h0.new (.cells [.int .i64 0,.int .i64 0,.nils] 3 false)=h1 at *
 have X1:Ext h.next h h1:=x0.trans (x1.mono om);have r0:ai h1 h.next 0 2=some [.int .i64 n,ev]:=by rw[aR (by rw[x1.gt _ om];exact g0)];rfl
 have hend:∀(h':AH) (c a:Int) (v:AV),h'.get h0.next=some (.cells [.int .i64 0,.int .i64 0,.nils] 3 false)->Ext h.next h h'->(c=0↔ft n es)->∃h'',bP h' h0.next 0 [.int .i64 c,.int .i64 a,v]=some h''/\ai h'' h0.next 0 3=some [.int .i64 c,.int .i64 a,v]/\(∃c' a' w,AV.agg [.int .i64 c,.int .i64 a,v]=.agg [.int .i64 c',.int .i64 a',w]/\(c'=0↔ft n es))/\Ext h.next h h'':=by
  intro h' c a v hg hx hc;refine⟨h'.put h0.next (.cells [.int .i64 c,.int .i64 a,v] 3 false),by rw[dw hg];rfl,?_,⟨c,a,v,rfl,hc⟩,hx.trans ((Oi hg).ext om)⟩;rw[aR (Oi hg).get];rfl
 refine ae (ae (bM (bj 1 (M1 r0) rfl (Z1 r0) (M1 r0) (yN (he.ext X1 (ab _)) om) λr h2 hq=>?_)));obtain⟨rfl,x2⟩:=hq;refine bI (M0) ?_;have X2:=X1.trans (x2.mono X1.nx);have n2:=x2.nx;have f2:h2.get h0.next=some (.cells [.int .i64 0,.int .i64 0,.nils] 3 false):=by rw[x2.gt _ om];exact f1
 by_cases hm:fC n es=true
 case neg =>
  obtain⟨h3,w3,r3,hc,X3⟩:=hend h2 1 0 .nils f2 X2 ⟨λh=>om,λh=>absurd h.1 hm⟩;simp only[ow]at hm;rw[hm];refine cZ (Z0) (ae (ak (M1 w3) ?_));exact bu ⟨_,(by simp only[rs,rf28,am,aL,simprocAttr,r3]<;>rfl),hc,X3⟩
 rw[hm];refine dC (Z0) (bz ?_);have g2:h2.get h.next=some (.cells [.int .i64 n,ev] 2 false):=by rw[x2.gt _ om,x1.gt _ om];exact g0
 have r2:ai h2 h.next 1 1=some [ev]:=bq g2 rfl;refine ae (ae (bM (bj 2 (M2 r2 @lT) rfl (Z2 r2 @lT) (M2 r2 @lT) (AW (P:=λx=>decide (x.1=x.2)) (caps:=[]) (he.ext X2 (ab _)) om (λx _ h' _=>by rw[bF];exact CG)) λr h3 hq=>?_)));obtain⟨rfl,x3⟩:=hq;refine bI (M0) ?_;have X3:=X2.trans (x3.mono X2.nx);have n3:=x3.nx;have f3:h3.get h0.next=some (.cells [.int .i64 0,.int .i64 0,.nils] 3 false):=by rw[x3.gt _ om];exact f2
 have g3:h3.get h.next=some (.cells [.int .i64 n,ev] 2 false):=by rw[x3.gt _ om];exact g2
 refine ae (ak (M0) ?_);by_cases q:0<=eM (λx:Int×Int=>decide (x.1=x.2)) es 0
 .have c1:decide (0<=eM (λx:Int×Int=>decide (x.1=x.2)) es 0)=true:=aH q;obtain⟨kk,_,hk1,hk2⟩:=mV _ _ _ q;obtain⟨h4,w4,r4,hc,X4⟩:=hend h3 13 (eM (λx:Int×Int=>decide (x.1=x.2)) es 0) .nils f3 X3 ⟨λh=>om,λh=>absurd (aY hk2) (h.2.1 _ (ar hk1))⟩;refine cZ (Z1 c1) (ae (ak (M1 w4) ?_));exact bu ⟨_,(by simp only[rs,rf28,am,aL,simprocAttr,r4]<;>rfl),hc,X4⟩
 have c1:decide (0<=eM (λx:Int×Int=>decide (x.1=x.2)) es 0)=false:=aw q;have hloop:∀e∈es,e.1≠e.2:=λe hee=>by
  have:=vq _ _ _ (show eM (λx:Int×Int=>decide (x.1=x.2)) es 0<0 by omega) e hee;simpa using this
 refine dC (Z1 c1) (bz ?_);have r3:ai h3 h.next 1 1=some [ev]:=bq g3 rfl;refine ae (ae (ae (ak (M2 r3 hlen) ?_)))
 refine fi (α:=Unit) (N:=es.length) (λ_ _=>[(1,.ptr h.next 0),(2,.ptr h0.next 0),(21,ev)])
  (λk _ h'=>h'.get h0.next=some (.cells [.int .i64 0,.int .i64 0,.nils] 3 false)/\h'.get h.next=some (.cells [.int .i64 n,ev] 2 false)/\(es.take k).Nodup/\Ext h.next h h'/\h3.next<=h'.next) () (λ_ _=>rfl) om (Oi0) ⟨f3,g3,by simp,X3,ab _⟩ ?_ ?_
 .rintro k _ ts h4 hk ⟨j1,j2,j3,j4,j5⟩ ⟨ei,en,e1,e2,e21,-⟩;simp only at ei en e1 e2 e21;have se:=he.ext j4 (ab _);obtain⟨b1,p1,a1,r4,_⟩:=se.at (cm (f:=eE) hk);obtain⟨h6,w6,x6,g6,n6⟩:=gD (h:=h4) (z:=[.int .i64 0,.int .i64 0]) (cs:=[.int .i64 es[k].1,.int .i64 es[k].2]) (e:=2) rfl;refine ae (ak (by simp only[am,aL,simprocAttr,e21,ei,a1,r4,eE,w6]<;>rfl) ?_);have X6:=j4.trans (x6.mono j4.nx);have f6:h6.get h0.next=some (.cells [.int .i64 0,.int .i64 0,.nils] 3 false):=by rw[x6.gt _ om];exact j1
  have g6':h6.get h.next=some (.cells [.int .i64 n,ev] 2 false):=by rw[x6.gt _ om];exact j2
  have r6:ai h6 h.next 1 1=some [ev]:=bq g6' rfl;obtain⟨v',s1,s2,_⟩:=(he.ext X6 (ab _)).upto (hi:=k) (by rw[ah];omega);rw[<-gI]at s2;have r7:ai h6 h4.next 0 2=some [.int .i64 es[k].1,.int .i64 es[k].2]:=by rw[aR g6];rfl
  have hce:=JC (y:=es[k]) s2 (by rw[aS];omega);rw[show eE es[k]=[.int .i64 es[k].1,.int .i64 es[k].2] from rfl]at hce;refine ae (bM (bj 5 (by simp only[am,aL,simprocAttr,e1,r6,dQ,bW,s1,r7]<;>rfl) rfl (by simp only[am,aL,simprocAttr,e1,r6,dQ,bW,s1,r7]) (by simp only[am,aL,simprocAttr,e1,r6,dQ,bW,s1,r7]<;>rfl) (hce) λr h7 hq=>?_));obtain⟨rfl,x7⟩:=hq;refine bI (M0) ?_;have X7:=X6.trans (x7.mono X6.nx);have f7:h7.get h0.next=some (.cells [.int .i64 0,.int .i64 0,.nils] 3 false):=by rw[x7.gt _ om];exact f6
  have g7:h7.get h.next=some (.cells [.int .i64 n,ev] 2 false):=by rw[x7.gt _ om];exact g6'
  cases hb:(es.take k).any (es[k]==·)with
  |true =>
    obtain⟨h8,w8,r8,hc,X8⟩:=hend h7 14 (k:Nat) .nils f7 X7 ⟨λh=>om,λh=>by
     exfalso;rw[Kj]at hb;obtain⟨y,hy,hye⟩:=hb;rw[beq_iff_eq]at hye;subst hye;have:=h.2.2.1;rw[<-cH k es,cj hk,bQ]at this;exact this.2.2 _ hy _ (aM ..) rfl⟩
    refine cZ (Z0) (ae (ak (M2 e2 w8) ?_));exact bu ⟨_,(by simp only[rs,rf28,am,aL,simprocAttr,e2,r8]<;>rfl),hc,X8⟩
  |false =>
    refine dC (I0) (bz ⟨(),⟨f7,g7,?_,X7,by have:=x7.nx;omega⟩,O5 ei en e1 e2 e21⟩);rw[aI hk,bQ];refine⟨j3,by simp,λx hx y hy=>?_⟩;simp only[aF,bA,or_false]at hy;subst hy;rw[sm]at hb;intro e;subst e;have:=hb _ hx;simp at this
 .rintro _ ts h4 ⟨j1,j2,j3,j4,j5⟩ ⟨e1,e2,e21,-⟩;simp only at e1 e2 e21;rw[bt]at j3;obtain⟨nn,rfl⟩:∃nn:Nat,n=nn:=⟨n.toNat,by
   simp only[fC,aU,aK]at hm;omega⟩
  have r4:ai h4 h.next 0 2=some [.int .i64 (nn:Nat),ev]:=by rw[aR j2];rfl
  refine ae (bM (bj 1 (M2 e1 r4) rfl (Z2 e1 r4) (M2 e1 r4) (vh (he.ext j4 (ab _)) hm) λvp h5 hq=>?_));obtain⟨hv,x5⟩:=hq;refine bI (M0) ?_;have X5:=j4.trans (x5.mono j4.nx);have n5:=x5.nx;have f5:h5.get h0.next=some (.cells [.int .i64 0,.int .i64 0,.nils] 3 false):=by rw[x5.gt _ om];exact j1
  refine ae (ae (bM (bj 1 (M0) rfl (Z0) (M0) (NP hv) λcv h6 hq=>?_)));obtain⟨xs,sx,hxa,x6⟩:=hq;refine bI (M0) ?_;have X6:=X5.trans (x6.mono X5.nx);have n6:=x6.nx;have f6:h6.get h0.next=some (.cells [.int .i64 0,.int .i64 0,.nils] 3 false):=by rw[x6.gt _ om];exact f5
  have lx:=sx.len;rw[ah]at lx;obtain⟨sc,so⟩:=sx.cells;refine ae (ak (M1 lx) ?_);refine cF (t:=decide (0<xs.length)) (by simp only[am,aL,simprocAttr];exact congrArg AV.bool (by simp only[decide_eq_decide];omega)) (λq=>?_) λq=>?_
  .have q:0<xs.length:=aY q;obtain⟨h8,w8,r8,hc,X8⟩:=hend h6 15 0 cv f6 X6 ⟨λh=>om,λh=>by
    exfalso;have:=hxa.2 h.2.2.2.1;subst this;simp at q⟩
   refine ae (ak (by simp only[am,aL,simprocAttr,e2,sc,so,w8]<;>rfl) ?_);exact bu ⟨_,(by simp only[rs,rf28,am,aL,simprocAttr,e2,r8]<;>rfl),hc,X8⟩
  have q:¬0<xs.length:=bo q;have hacy:=hxa.1 (aW.1 om);refine bz ?_;have hv6:=hv.ext x6;refine ae (ae (bM (bj 1 (M0) rfl (Z0) (M0) (qt hv6) λsv h7 hq=>?_)));obtain⟨is,x7⟩:=hq;refine bI (M0) ?_;have X7:=X6.trans (x7.mono X6.nx);have f7:h7.get h0.next=some (.cells [.int .i64 0,.int .i64 0,.nils] 3 false):=by rw[x7.gt _ om];exact f6
  have ss:SlI h7 sv (gU nn es):=Ob om (λ_=>rfl) is;have ls:=ss.len;rw[ah]at ls;refine ae (ak (M1 ls) ?_);refine cF (t:=decide (1<(gU nn es).length)) (by simp only[am,aL,simprocAttr];exact congrArg AV.bool (by simp only[decide_eq_decide];omega)) (λq2=>?_) λq2=>?_
  .have q2:1<(gU nn es).length:=aY q2;rcases is with⟨rfl,hz⟩|⟨sb,sn,hsb,rfl,hsg,hsl⟩
   .exfalso;have:=congrArg List.length hz;rw[ee,bm]at this;omega
   have hsn:sn=(gU nn es).length:=by rw[ee]at hsl;omega
   have s2:slV h7 1 (.sl sb 0 sn sn) none (some (.int .i64 2)) (some (.int .i64 2))=some (.sl sb 0 2 2):=by
    have h1:bnd (.int .i64 2) sn=some 2:=iU (k:=.i64) (n:=2) (y:=sn) om;have h2:bnd (.int .i64 2) 2=some 2:=iU (k:=.i64) (n:=2) (y:=2) om;simp only[slV,hsg,if_true,tb,h1,h2,aQ];simp
   obtain⟨h8,w8,r8,hc,X8⟩:=hend h7 16 0 (.sl sb 0 2 2) f7 X7 ⟨λh=>om,λh=>by
    exfalso;have:=h.2.2.2.2;rw[aO]at this;omega⟩
   refine ae (ak (by simp only[am,aL,simprocAttr,dQ,bW,s2,e2,w8]<;>rfl) ?_);exact bu ⟨_,(by simp only[rs,rf28,am,aL,simprocAttr,e2,r8]<;>rfl),hc,X8⟩
  .have q2:¬1<(gU nn es).length:=bo q2;obtain⟨h8,w8,r8,hc,X8⟩:=hend h7 0 0 .nils f7 X7 ⟨λ_=>⟨hm,hloop,j3,hacy,by rw[aO];omega⟩,λ_=>rfl⟩;refine bz (ae (ak (M2 e2 w8) ?_));exact bu ⟨_,(by simp only[rs,rf28,am,aL,simprocAttr,e2,r8]<;>rfl),hc,X8⟩
open Go.Am
abbrev It:=Int×Int×Int
def eK(x:Int):List It->Nat->Int×Int×Int->Int×Int×Int
 |[],_,s=>s
 |it::r,i,s=>eK x r (i+1) (if it.2.2=x then(if s.1=-1 then((i:Nat):Int)else s.1,((i+1:Nat):Int),s.2.2+1)else s)
def dS(x:Int)(row:List It):Int×Int×Int:=eK x row 0 (-1,0,0)
def zP(x:Int):∀(row:List It) (i:Nat) (s:Int×Int×Int),(s.1=-1/\s.2.1=0/\s.2.2=0\/0<=s.1/\s.1<s.2.1/\s.2.1<=i/\0<s.2.2/\s.2.2<=i) ->
 ((eK x row i s).1=-1/\(eK x row i s).2.1=0/\(eK x row i s).2.2=0\/0<=(eK x row i s).1/\(eK x row i s).1<(eK x row i s).2.1/\(eK x row i s).2.1<=((i+row.length:Nat):Int)/\0<(eK x row i s).2.2/\(eK x row i s).2.2<=((i+row.length:Nat):Int))
 |[],i,s,h=>by
   rcases h with h|h
   .exact .inl h
   .exact .inr (by simpa[eK]using h)
 |it::r,i,s,h=>by
   unfold eK;have:=zP x r (i+1) (if it.2.2=x then(if s.1=-1 then((i:Nat):Int)else s.1,((i+1:Nat):Int),s.2.2+1)else s) (by
    split
    .right;simp only;split<;>omega
    .rcases h with h|h
     .exact .inl h
     .exact .inr om)
   rw[show i+1+r.length=i+(it::r).length by simp only[bd];omega]at this;exact this
def qY(x:Int)(row:List It):((dS x row).1=-1/\(dS x row).2.1=0/\(dS x row).2.2=0)\/(0<=(dS x row).1/\(dS x row).1<(dS x row).2.1/\(dS x row).2.1<=(row.length:Nat)/\0<(dS x row).2.2/\(dS x row).2.2<=(row.length:Nat)):=by
 have:=zP x row 0 (-1,0,0) (.inl ⟨rfl,rfl,rfl⟩);rw[bN]at this;exact this
variable {row:List It}
def DD(hb:h.get b=some (.cells (iv::rest) 3 false))(hv:SlT h iv row)(hl:row.length<2^30) :
 C prg 68 [.ptr b 0,.int .i64 x] h λr h'=>r=.tup [.int .i64 (dS x row).1,.int .i64 (dS x row).2.1,.int .i64 (dS x row).2.2]/\Ext h.next h h':=by
 refine Oj rfl ?_;have r1:ai h b 0 1=some [iv]:=bq hb rfl;have el:=hv.len;rw[ah]at el;refine ae (ak (Mi0) ?_);refine ae (ak (Mi0) ?_);refine ae (ae (ak (Mi2 r1 el) ?_))
 refine fi (α:=Int×Int×Int) (N:=row.length) (λ_ a=>[(1,.int .i64 x),(12,iv),(4,.int .i64 a.1),(5,.int .i64 a.2.1),(6,.int .i64 a.2.2)])
  (λk a h'=>eK x (row.drop k) k a=dS x row/\-1<=a.1/\a.1<=k/\0<=a.2.2/\a.2.2<=k/\Ext h.next h h') (-1,0,0) (λ_ _=>rfl) om (Oi0) ⟨rfl,by decide,by decide,by decide,by decide,Oh⟩ ?_ ?_
 .rintro k ⟨f,t,c⟩ ts h1 hk ⟨j1,j2,j3,j4,j5,jx⟩ ⟨ei,en,e1,e12,e4,e5,e6,-⟩;simp only at ei en e1 e12 e4 e5 e6 j1 j2 j3 j4 j5;obtain⟨b1,p1,a1,r4,_⟩:=(hv.ext jx (ab _)).at (cm (f:=eT) hk);obtain⟨h6,w6,x6,g6,n6⟩:=gD (h:=h1) (z:=[.int .i64 0,.int .i64 0,.int .i64 0]) (cs:=[.int .i64 row[k].1,.int .i64 row[k].2.1,.int .i64 row[k].2.2]) (e:=3) rfl;refine ae (ak (by simp only[am,aL,simprocAttr,e12,ei,a1,r4,eT,w6]<;>rfl) ?_);have r6:ai h6 h1.next 2 1=some [.int .i64 row[k].2.2]:=bq g6 rfl;have X6:=jx.trans (x6.mono jx.nx);rw[cj hk]at j1;unfold eK at j1;refine ae (ae (ak (M2 e1 r6) ?_));refine cF (t:=!decide (row[k].2.2=x)) (Z0) (λq=>?_) λq=>?_
  .have q:¬row[k].2.2=x:=by simpa using q
   rw[if_neg q]at j1;refine fM ⟨λ_=>⟨(f,t,c),⟨j1,j2,by simp only;omega,j4,by simp only;omega,X6⟩,O7 ei en e1 e12 e4 e5 e6⟩,λe=>absurd rfl e⟩
  .have q:row[k].2.2=x:=by simpa using q
   rw[if_pos q]at j1;refine bz ?_;have w1:IntKind.i64.wrap (((k:Nat):Int)+1)=((k+1:Nat):Int):=fU om om;have w2:IntKind.i64.wrap (c+1)=c+1:=fU om om;refine ae (ae (ak (M1 e4) ?_));refine cF (t:=decide (f=-1)) (Z0) (λq2=>?_) λq2=>?_
   .have q2:f=-1:=aY q2;rw[if_pos q2]at j1;refine ak (M0) ?_;refine ae (ak (M1 w1) ?_);refine ak (M2 e6 w2) ?_;exact⟨(((k:Nat):Int),((k+1:Nat):Int),c+1),⟨j1,by simp only;omega,by simp only;omega,by simp only;omega,by simp only;omega,X6⟩,O4 ei en e1 e12⟩
   .have q2:¬f=-1:=bo q2;rw[if_neg q2]at j1;refine bz ?_;refine ae (ak (M1 w1) ?_);refine ak (M2 e6 w2) ?_;exact⟨(f,((k+1:Nat):Int),c+1),⟨j1,by simp only;omega,by simp only;omega,by simp only;omega,by simp only;omega,X6⟩,O5 ei en e1 e12 e4⟩
 .rintro⟨f,t,c⟩ ts h1 ⟨j1,j2,j3,j4,j5,jx⟩ ⟨e1,e12,e4,e5,e6,-⟩;simp only at e1 e12 e4 e5 e6 j1;rw[ou]at j1;have j1:(f,t,c)=dS x row:=j1;rw[<-j1];refine ae (ak (M3 e4 e5 e6) ?_);exact bu ⟨_,(by simp only[rs,rf68,am,aL,simprocAttr]<;>rfl),rfl,jx⟩
def JX{s:Nat}{it:It}(hs:ai h s 0 1=some [.int .i64 x])(hsn:s<h.next):C prg 145 ([.agg (eT it)]++[.ptr s 0]) h λr h'=>r=.bool (decide (it.2.2≠x/\it.2.2≠-1))/\Ext h.next h h':=by
 refine Oj rfl ?_;refine ae (ak (by simp only[am,aL,simprocAttr,bV,eT]<;>rfl) ?_);have ex:Ext h.next h (h.new (.cells [.int .i64 it.1,.int .i64 it.2.1,.int .i64 it.2.2] 3 false)):=Oe (ab _);have g:(h.new (.cells [.int .i64 it.1,.int .i64 it.2.1,.int .i64 it.2.2] 3 false)).get h.next=some (.cells [.int .i64 it.1,.int .i64 it.2.1,.int .i64 it.2.2] 3 false):=by rw[AH.get_new,if_pos rfl]
 generalize h.new (.cells [.int .i64 it.1,.int .i64 it.2.1,.int .i64 it.2.2] 3 false)=h1 at *
 have r1:ai h1 h.next 2 1=some [.int .i64 it.2.2]:=bq g rfl;have r2:ai h1 s 0 1=some [.int .i64 x]:=by rw[<-hs];exact bi (ex.gt _ hsn)
 by_cases q1:it.2.2=x
 .have c1:decide (it.2.2=x)=true:=aH q1;refine ae (ak (Mi3 r1 r2 c1) ?_);exact bu ⟨.bool false,(by simp only[rs,rf145,am,aL,simprocAttr]<;>rfl),by simp[q1],ex⟩
 .have c1:decide (it.2.2=x)=false:=aw q1;refine ae (ak (Mi3 r1 r2 c1) ?_);refine bu ⟨.bool (!decide (it.2.2=-1)),(by simp only[rs,rf145,am,aL,simprocAttr]<;>rfl),by simp[q1],ex⟩
def yf(x:Int)(row:List It):Bool:=!row.any λit=>decide (it.2.2≠x/\it.2.2≠-1)
def JU{lo hi:Nat}(hb:h.get b=some (.cells (iv::rest) 3 false))(hv:SlT h iv row)(hl:row.length<2^30)(hlo:lo<=hi)(hhi:hi<=row.length) :
 C prg 107 [.ptr b 0,.int .i64 x,.int .i64 (lo:Nat),.int .i64 (hi:Nat)] h λr h'=>r=.bool (yf x ((row.drop lo).take (hi-lo)))/\Ext h.next h h':=by
 refine Oj rfl ?_;refine ae (ak (Mi0) ?_);have ex:Ext h.next h (h.new (.cells [.int .i64 x] 1 false)):=Oe (ab _);have g:(h.new (.cells [.int .i64 x] 1 false)).get h.next=some (.cells [.int .i64 x] 1 false):=by rw[AH.get_new,if_pos rfl]
 have n1:(h.new (.cells [.int .i64 x] 1 false)).next=h.next+1:=rfl;generalize h.new (.cells [.int .i64 x] 1 false)=h1 at *
 have r1:ai h1 b 0 1=some [iv]:=bq (by rw[ex.gt _ (AH.lt_of_get hb)];exact hb) rfl;obtain⟨v',s1,s2,_⟩:=(hv.ext ex (ab _)).part hlo (by rw[ah];exact hhi);rw[<-gJ,<-gI]at s2;refine ae (bM (bj 8 (by simp only[am,aL,simprocAttr,bV,r1,dQ,bW,s1]<;>rfl) rfl (by simp only[am,aL,simprocAttr,bV,r1,dQ,bW,s1]) (by simp only[am,aL,simprocAttr,bV,r1,dQ,bW,s1]<;>rfl) (Gg (P:=λit=>decide (it.2.2≠x/\it.2.2≠-1)) s2 (by rw[aS,cI];omega) (λit _ h' hx=>JX (by rw[bi (hx.gt _ om)];exact bq g rfl) (by have:=hx.nx;omega))) λr h3 hq=>?_));obtain⟨rfl,x3⟩:=hq;refine bI (M0) ?_;exact bu ⟨_,(by simp only[rs,rf107,am,aL,simprocAttr]<;>rfl),rfl,ex.trans (x3.mono ex.nx)⟩
end Go.Proofs.YtklpoimdclflmaaGreatDoor
