/- graph.View.cycle -/
import Derived.Test.YtahepnbflofndaaGreatDoorKLc
import Derived.Test.YtahepnbflofndaaGreatDoorKLd
set_option linter.all false
namespace Go.Proofs.YtahepnbflofndaaGreatDoor
open Go.Am Go.Sort
theorem gcycle1_ok {h:AH}{x:Int}:C prg 110 [.int .i64 x] h λr h'=>r=.bool (decide (0<x))∧h'=h:=by
 refine Mw pf110 ?_;refine ae (aj (Mi0) ?_);refine ae (aj (Mi0) ?_);exact br ⟨_,(by simp only[rs,rf110,am,aK,simprocAttr]<;>rfl),rfl,rfl⟩
theorem qj {xs:List Int}{y:Int}:xs.any (y==·)=decide (y∈xs):=by
 rw[dE];simp
theorem tV {xs:List Int}{y:Int} (h:y∈xs):∃ k,dW (y==·) xs 0=((k:Nat):Int)∧k<xs.length:=by
 have h1:=(jR (y==·) xs 0)
 have h2:0≤dW (y==·) xs 0:=by
  have:xs.any (y==·)=true:=by rw[qj]; simpa using h
  by_cases q:dW (y==·) xs 0<0
  ·rw[h1.2.1 q] at this; cases this
  ·omega
 obtain⟨k,h3,h4,_⟩:=jZ _ _ _ h2;exact⟨k,by simpa using h3,h4⟩
theorem Mg {h:AH}{vp:AV}{n:Nat}{es:List (Int×Int)} (hv:IsView h vp n es) :
 C prg 62 [vp] h λr h'=>∃ xs:List Int,SlI h' r xs∧(xs=[]↔Acy es)∧Ext h.next h h':=by
 have hv0:=hv;obtain⟨b,ev,os,is,ob,ib,rfl,g1,g2,g3,g4,g5,g6,g7,g8,m1,m2,m3,m4⟩:=hv;refine Mw pf62 ?_;refine ae (aj (Mi0) ?_);refine ae (bN (bo 1 (Mi0) rfl (Zi0) (Mi0) (Km hv0) λr h1 hq=>?_));obtain⟨a,w,out,ws,rfl,iw,k,hz,x1⟩:=hq;refine bH (M0) ?_;have hw:SlI h1 w ws:=Mq om (λ_=>rfl) iw;refine ae (bN (bo 1 (M1 @kV) rfl (Z1 @kV) (M1 @kV) (Hi (P:=λx=>decide (0<x)) (caps:=[]) hw (by rw[k.len]; omega) (λx _ h' _=>by rw[bO]; exact gcycle1_ok.mono λr h2 hq=>⟨hq.1,by rw[hq.2]; exact Mu⟩)) λr h2 hq=>?_));obtain⟨rfl,x2⟩:=hq;refine bH (M0) ?_;have hacy:=k.acy m4 hz;by_cases q:dW (λx=>decide (0<x)) ws 0<0
 ·have hle:=pZ _ _ _ q;have ha:Acy es:=hacy.1 λv hv=>by
   have:=hle (ws[v]'(by rw[k.len]; exact hv)) (aP _);rw[aL,aq (by rw[k.len]; exact hv),dh];simpa using this
  have c1:decide (0≤dW (λx=>decide (0<x)) ws 0)=false:=aw om;have c2:decide (dW (λx=>decide (0<x)) ws 0<0)=true:=aH q;refine ae (aj (M0) ?_);refine ae (oZ (λts h3=>h3=h2∧cU ts 5=.int .i64 (dW (λx=>decide (0<x)) ws 0)) (cY (fX (λn ts h3=>h3=h2∧cU ts 5=.int .i64 (dW (λx=>decide (0<x)) ws 0)) ?_ (n:=0) ⟨rfl,Z0⟩)) ?_)
  ·rintro n ts h3 ⟨rfl,e5⟩;refine ae (ae (bN (eW 5 (M2 e5 c1) rfl (Z0) ?_)));refine bH (M0) ?_;refine dL (Z0) ?_;exact fB ⟨λ_=>⟨rfl,Z1 e5⟩,λe=>absurd rfl e⟩
  ·rintro ts h3 ⟨rfl,e5⟩;refine ae (ae (aj (M2 e5 c2) ?_));refine db (Z0) (ae (aj (M0) ?_));exact br ⟨.nils,(by simp only[rs,rf62,am,aK,simprocAttr]<;>rfl),[],.inl ⟨rfl,.inl rfl⟩,⟨λ_=>ha,λ_=>rfl⟩,x1.trans (x2.mono x1.nx)⟩
 ·obtain⟨z0,hz0,hz1,hz2⟩:=jZ _ _ _ (show 0≤dW (λx=>decide (0<x)) ws 0 by omega);rw[bM] at hz0;have hz2:0<ws.getD z0 0:=by
   rw[aL,aq hz1,dh];simpa using hz2
  have hzn:z0<n:=by rw[← k.len]; exact hz1
  have hna:¬ Acy es:=λha=>by have:=hacy.2 ha z0 hzn; omega
  rw[hz0];have w1:IsSl h2 1 h.next w (ws.flatMap eI):=iw.ext x2 (ab _);refine ae (aj (M0) ?_);have X2:Ext h.next h h2:=x1.trans (x2.mono x1.nx)
  refine ae (oZ (λts h3=>∃ (way:List Int) (z:Nat) (a:AV),((z:Nat):Int)∈way∧IsSl h3 1 h2.next a (way.flatMap eI)∧way.length≤n∧Ext h.next h h3∧h2.next≤h3.next∧cU ts 5=.int .i64 (z:Nat)∧cU ts 6=a)
   (cY (fX (λm ts h3=>∃ (way:List Int) (z:Nat) (a:AV),m=n-way.length∧z<n∧0<ws.getD z 0∧way.Nodup∧(∀ y∈way,0≤y∧y<n)∧IsSl h3 1 h2.next a (way.flatMap eI)∧Ext h.next h h3∧Ext h2.next h2 h3∧Held [(0,.ptr b 0),(4,w),(5,.int .i64 (z:Nat)),(6,a)] ts) ?_ (n:=n)
    ⟨[],z0,.nils,rfl,hzn,hz2,by simp,by simp,.inl ⟨rfl,rfl⟩,X2,Mu,Hi0⟩)) ?_)
  ·rintro m ts h3 ⟨way,z,a,rfl,zn,zp,nd,hrg,ia,x3,x3',e0,e4,e5,e6,-⟩;simp only at e0 e4 e5 e6;have hwl:way.length≤n:=by
    have h1:way ⊆ (List.range n).map λx=>((x:Nat):Int):=λv hv=>by
     have:=hrg v hv;exact bB.2 ⟨v.toNat,bF.2 om,om⟩
    have:=nd.length_le_of_subset h1;simpa using this
   have c1:decide (0≤((z:Nat):Int))=true:=aH om;have hway:SlI h3 a way:=Mq om (λ_=>rfl) ia;refine ae (ae (bN (bo 5 (M3 e5 e6 c1) rfl (Z3 e5 e6 c1) (M3 e5 e6 c1) (Aa (y:=((z:Nat):Int)) hway om) λr h4 hq=>?_)));obtain⟨rfl,x4⟩:=hq;rw[qj];refine bH (M0) ?_;by_cases hm:((z:Nat):Int)∈way
   ·have c2:decide (((z:Nat):Int)∈way)=true:=aH hm;refine dL (Z1 c2) ?_;have n4:=x4.nx;have n3:=x3'.nx;exact fB ⟨λ_=>⟨way,z,a,hm,ia.ext x4 (ab _),hwl,x3.trans (x4.mono x3.nx),om,Z1 e5,Z1 e6⟩,λe=>absurd rfl e⟩
   ·have c2:decide (((z:Nat):Int)∈way)=false:=aw hm;refine db (Z1 c2) (bu (cY ?_));have n4:=x4.nx;have n3:=x3'.nx;obtain⟨s',h5,a1,i5,x5,n5⟩:=(ia.ext x4 (ab _)).push (bytes:=8) (eI ((z:Nat):Int)) om om rfl rfl (by rw[dS]; unfold aW; omega) (by rw[dS]; unfold aW; omega);rw[show eI ((z:Nat):Int)=[.int .i64 ((z:Nat):Int)] from rfl] at a1 i5;refine ae (aj (M3 e5 e6 a1) ?_);refine ae (aj (M0) ?_);have X5:Ext h.next h h5:=x3.trans ((x4.mono x3.nx).trans (x5.mono (by have:=X2.nx; omega)));have X5':Ext h2.next h2 h5:=x3'.trans ((x4.mono n3).trans x5);have r1:ak h5 b 3 1=some [.sl ib 0 n n]:=bm (by rw[X5.gt _ (AH.lt_of_get g1)]; exact g1) rfl;have rz:ak h5 ib z 1=some [is[z]'om]:=bm (by rw[X5.gt _ (AH.lt_of_get g4)]; exact g4) (aq _);have iz:eR ((z:Nat):Int) n=some z:=cJ zn;have si:=(g8 z _ (aq (show z<is.length by omega))).ext X5 (ab _);have li:=si.len;rw[ai] at li;have hll:(dg es ((z:Nat):Int)).length≤128:=cn (fk _ _ _) m3;have sw:SlI h5 w ws:=hw.ext (x2.trans (X5'.mono x2.nx)) (ab _);have se:=g2.ext X5 (ab _);have rv:ak h5 b 1 1=some [ev]:=bm (by rw[X5.gt _ (AH.lt_of_get g1)]; exact g1) rfl;refine ae (ae (aj (M7 e0 e5 r1 iz @aO rz li) ?_))
    refine fA (α:=Int) (N:=(dg es ((z:Nat):Int)).length) (λ_ a'=>[(37,is[z]'om),(0,.ptr b 0),(4,w),(6,s'),(7,.int .i64 a')])
     (λk a' h'=>h'=h5∧-1≤a'∧(0≤a'→a'.toNat<n∧0<ws.getD a'.toNat 0)∧∀ i∈(dg es ((z:Nat):Int)).take k,0<ws.getD ((es[i.toNat]?).getD (0,0)).1.toNat 0→0≤a') (-1) (λ_ _=>rfl) om (H2 e0 e4) ⟨rfl,om,om,by simp⟩ ?_ ?_
    ·clear e0 e4 e5 e6;rintro j a' ts h6 hj ⟨rfl,j2,j3,j4⟩ ⟨ei,en,e37,e0,e4,e6,e7,-⟩;simp only at ei en e37 e0 e4 e6 e7;obtain⟨jb,jp,a6,r6,_⟩:=si.at1 (cq (f:=eI) hj);obtain⟨ed,hed1,hed2,ed',hed3,hed4⟩:=fV (λe=>decide (e.2=((z:Nat):Int))) es 0 _ (aP hj);rw[bM] at hed1;have hed1:(dg es ((z:Nat):Int))[j]=((ed:Nat):Int):=hed1;rw[hed1] at r6;obtain⟨ea,eb,eab,hea,heb⟩:=mw (bD.1 m4 _ (aP hed2));obtain⟨eb1,ep,a7,_,r7,_⟩:=se.at (cq (f:=eE) hed2);have r7:=r7 0 (.int .i64 ((ea:Nat):Int)) (by rw[eab]; rfl);rw[dX] at r7;obtain⟨wb1,wp,a8,r8,_⟩:=sw.at1 (cq (f:=eI) (show ea<ws.length by rw[k.len]; exact hea));have hgd:ws.getD ea 0=ws[ea]'(by rw[k.len]; exact hea):=by rw[aL,aq (by rw[k.len]; exact hea),dh]
     have hnew:(es[((dg es ((z:Nat):Int))[j]).toNat]?).getD (0,0)=(((ea:Nat):Int),((eb:Nat):Int)):=by
      rw[hed1,aY,aq hed2,dh,eab]
     refine ae (aj (M4 e37 ei a6 r6) ?_);refine ae (aj (M4 e0 rv a7 r7) ?_);have mem_succ:∀ i,i∈(dg es ((z:Nat):Int)).take (j+1)→i∈(dg es ((z:Nat):Int)).take j∨i=(dg es ((z:Nat):Int))[j]:=λi hi=>by
      rw[aG hj,aV] at hi;rcases hi with hi|hi
      ·exact .inl hi
      ·exact .inr (by simpa using hi)
     have hno:¬ 0<ws.getD ea 0→∀ i∈(dg es ((z:Nat):Int)).take (j+1),0<ws.getD ((es[i.toNat]?).getD (0,0)).1.toNat 0→0≤a':=λhn i hi hp=>by
      rcases mem_succ i hi with hi|rfl
      ·exact j4 i hi hp
      ·rw[hnew] at hp;exact absurd (by simpa using hp) hn
     have hge:0≤a'→∀ i∈(dg es ((z:Nat):Int)).take (j+1),0<ws.getD ((es[i.toNat]?).getD (0,0)).1.toNat 0→0≤a':=λh0 _ _ _=>h0;by_cases c1:0<ws[ea]'(by rw[k.len]; exact hea)
     ·have d1:decide (0<ws[ea]'(by rw[k.len]; exact hea))=true:=aH c1;have set:∀ a'',a''=((ea:Nat):Int)→(h6=h6∧-1≤a''∧(0≤a''→a''.toNat<n∧0<ws.getD a''.toNat 0)∧∀ i∈(dg es ((z:Nat):Int)).take (j+1),0<ws.getD ((es[i.toNat]?).getD (0,0)).1.toNat 0→0≤a''):=by
       rintro _ rfl;exact⟨rfl,om,λ_=>⟨om,by rw[aY,hgd]; exact c1⟩,λ_ _ _=>by omega⟩
      by_cases c2:a'<0
      ·have d2:decide (a'<0)=true:=aH c2;refine ae (aj (M6 e4 e7 a8 r8 d1 d2) ?_);refine db (Z0) ?_;refine aj (M0) ?_;exact⟨_,set _ rfl,H6 ei en e37 e0 e4 e6⟩
      ·have d2:decide (a'<0)=false:=aw c2;by_cases c3:((ea:Nat):Int)<a'
       ·have d3:decide (((ea:Nat):Int)<a')=true:=aH c3;refine ae (aj (M7 e4 e7 a8 r8 d1 d2 d3) ?_);refine db (Z0) ?_;refine aj (M0) ?_;exact⟨_,set _ rfl,H6 ei en e37 e0 e4 e6⟩
       ·have d3:decide (((ea:Nat):Int)<a')=false:=aw c3;refine ae (aj (M7 e4 e7 a8 r8 d1 d2 d3) ?_);refine dL (Z0) ?_;exact bu ⟨a',⟨rfl,j2,j3,hge om⟩,H7 ei en e37 e0 e4 e6 e7⟩
     ·have d1:decide (0<ws[ea]'(by rw[k.len]; exact hea))=false:=aw c1;refine ae (aj (M5 e4 e7 a8 r8 d1) ?_);refine dL (Z0) ?_;exact bu ⟨a',⟨rfl,j2,j3,hno (by rw[hgd]; exact c1)⟩,H7 ei en e37 e0 e4 e6 e7⟩
    ·clear e0 e4 e5 e6;rintro a' ts h6 ⟨rfl,j2,j3,j4⟩ ⟨e37,e0,e4,e6,e7,-⟩;simp only at e37 e0 e4 e6 e7;rw[bp] at j4;obtain⟨e,hee,he1,he2⟩:=k.back m4 hz zn zp;have hpos:0≤a':=by
      have hin:e∈(dg es ((z:Nat):Int)).map (λi=>(es[i.toNat]?).getD (0,0)):=by
       have:=pu (λe=>decide (e.2=((z:Nat):Int))) es [];simp only[bt,cH] at this;unfold dg;rw[this,bj];exact⟨hee,by simpa using he1⟩
      obtain⟨i,hi,rfl⟩:=bB.1 hin;exact j4 i hi he2
     obtain⟨z',rfl⟩:∃ z':Nat,a'=z':=⟨a'.toNat,om⟩
     obtain⟨j5,j6⟩:=j3 hpos;rw[aY] at j5 j6;refine aj (M1 e7) ?_;have nd':(way++[((z:Nat):Int)]).Nodup:=by
      rw[bV];refine⟨nd,by simp,λx hx y hy=>?_⟩;simp only[aA,bq,or_false] at hy;subst hy;exact λe=>hm (e▸hx)
     have hrg':∀ y∈way++[((z:Nat):Int)],0≤y∧y<n:=λy hy=>by
      rw[aV] at hy;rcases hy with hy|hy
      ·exact hrg y hy
      ·simp only[aA,bq,or_false] at hy; omega
     have hwl':(way++[((z:Nat):Int)]).length≤n:=by
      have h1:(way++[((z:Nat):Int)]) ⊆ (List.range n).map λx=>((x:Nat):Int):=λv hv=>by
       have:=hrg' v hv;exact bB.2 ⟨v.toNat,bF.2 om,om⟩
      have:=nd'.length_le_of_subset h1;simpa using this
     refine⟨n-(way++[((z:Nat):Int)]).length,by simp only[aN,bf,bt] at hwl' ⊢; omega,way++[((z:Nat):Int)],z',s',rfl,j5,j6,nd',hrg',by rw[bC]; exact i5,X5,X5',H3 e0 e4 e6⟩
  ·rintro ts h3 ⟨way,z,a,hm,ia,hwl,x3,n3,e5,e6⟩;have c1:decide (((z:Nat):Int)<0)=false:=aw om;refine ae (ae (aj (M2 e5 c1) ?_));refine dL (Z0) (bu ?_);have sa:SlI h3 a way:=Mq om (λ_=>rfl) ia;obtain⟨k0,hk0,hk1⟩:=tV hm;rcases ia with ⟨rfl,hnil⟩|⟨wb,L,hwb,rfl,gw,hL⟩
   ·have h0:=congrArg List.length hnil;rw[dS,bt] at h0;omega
   have hLn:L=way.length:=by rw[dS] at hL; omega
   subst hLn;refine ae (bN (bo 3 (M2 e5 e6) rfl (Z2 e5 e6) (M2 e5 e6) (pX (y:=((z:Nat):Int)) sa om) λr h4 hq=>?_));obtain⟨rfl,x4⟩:=hq;rw[hk0];have gw4:h4.get wb=some (.cells (way.flatMap eI) 1 false):=by rw[x4.gt _ (AH.lt_of_get gw)]; exact gw
   have s1:=Fu gw4 hk1 (ab _) (uF hk1);rw[aO] at s1;refine bH (by simp only[am,aK,simprocAttr,dH,bT,e6,s1]<;>rfl) ?_;have hds:(way.drop k0).toArray.size=way.length-k0:=by simp
   have gb:h4.get wb=some (iX (way.flatMap eI) k0 (way.drop k0).toArray):=by
    rw[gw4];unfold iX;congr 2;refine (ny (by rw[gh,hds,dS]; omega) ?_).symm;rw[← lY,dS,cz,mD,mD,fT,da (by rw[cz,ai]; omega)]
   have hrv:=AI (c:=way.length-k0) gb (by rw[hds,dS]; omega) (by rw[hds]; omega);rw[hds] at hrv;refine ae (bN (bo 1 (M0) rfl (Z0) (M0) (hrv) λr h5 u5=>?_));refine bH (M0) ?_;have s5:=Mi (c:=way.length-k0) u5.get (by rw[BX,hds,dS]; omega) (by rw[BX,hds]; omega);rw[BX,hds] at s5;have hl5:(way.drop k0).toArray.reverse.toList.length=way.length-k0:=by simp
   have n4:=x4.nx;have n5:=u5.nx;generalize (way.drop k0).toArray.reverse.toList=rl at *
   refine ae (bN (bo 2 (M0) rfl (Z0) (M0) (JV s5 om om) λr h6 hq=>?_));obtain⟨mi,rfl,hmi,_,rfl⟩:=hq;obtain⟨j0,hj0,hj1⟩:=tV hmi;refine iZ (Z0) (M0) (pX (y:=mi) s5 om) λr h7 hq=>?_;obtain⟨rfl,x7⟩:=hq;rw[hj0];refine bH (M0) ?_;have s7:=s5.ext x7 (ab _);have n7:=x7.nx;have kg:∀ c,c<h7.next→(h7.keep 1).get c=h7.get c:=λc hc=>by rw[AH.keep_get,if_neg om]
   have q7:(h7.keep 1).get h7.next=some .resv:=fG;have hwb7:wb<h7.next:=by have:=AH.lt_of_get gw4; omega
   have s8:SlI (h7.keep 1) (.sl wb k0 (way.length-k0) (way.length-k0)) rl:=s7.cong λb' o' n' c' e=>kg _ (s7.lt e);obtain⟨v1,f1,t1,t1b,_⟩:=s8.from (lo:=j0) (by rw[ai]; omega);obtain⟨v2,f2,t2,t2b,_⟩:=s8.upto (hi:=j0) (by rw[ai]; omega);have cl1:=t1.cells;have cl2:=t2.cells;obtain⟨p1,p2,p3,p4⟩:=gr (h:=h7) (o:=.cells [v1,v2] 1 false);have kgp:∀ c,c<h7.next→((h7.keep 1).put h7.next (.cells [v1,v2] 1 false)).get c=(h7.keep 1).get c:=λc hc=>by rw[p4 c hc,kg c hc]
   have hcat:=Bv (h:=(h7.keep 1).put h7.next (.cells [v1,v2] 1 false)) (v:=.sl h7.next 0 2 2) (vs:=[v1,v2]) (xss:=[rl.drop j0,rl.take j0]) (Ms p2 rfl (ab _)) rfl (λi w xs hw hx=>?_) (by simp) (by simp only[gR,eK,bO,aN,cz,aS]; omega)
   rotate_left
   ·match i with
    | 0 =>
      simp only[ce,aa] at hw hx;subst hw hx;rw[← fT] at t1;exact t1.cong λb' o' n' c' e=>kgp _ (by
       have:=t1b (λb=>b<h7.next) hwb7;rw[e] at this;exact this)
    | 1 =>
      simp only[dy,ce,aa] at hw hx;subst hw hx;rw[← fS] at t2;exact t2.cong λb' o' n' c' e=>kgp _ (by
       have:=t2b (λb=>b<h7.next) hwb7;rw[e] at this;exact this)
    | i+2=>simp at hw
   refine ae (pD (bo 7 (by simp only[am,aK,simprocAttr,dH,bT,f1,f2,eN,et q7,cl1.1,cl2.1]<;>rfl) rfl (by simp only[am,aK,simprocAttr,dH,bT,f1,f2,eN,et q7,cl1.1,cl2.1]) (by simp only[am,aK,simprocAttr,dH,bT,f1,f2,eN,et q7,cl1.1,cl2.1]<;>rfl) (hcat) λr h8 hq=>?_));obtain⟨i8,x8⟩:=hq;refine bH (M0) ?_;refine br ⟨r,(by simp only[rs,rf62,am,aK,simprocAttr]<;>rfl),_,Mq om (λ_=>rfl) i8,⟨λe=>?_,λe=>absurd e hna⟩,?_⟩
   ·exfalso;have:=congrArg List.length e;simp only[gR,eK,bO,aN,cz,aS,bt] at this;omega
   ·have:=X2.nx;exact x3.trans ((x4.mono om).trans ((u5.ext om).trans ((x7.mono om).trans ((p1.mono om).trans (x8.mono om)))))
open Go.Am
def gJ (n:Int) (es:List (Int×Int)):Prop:=fy n es=true∧(∀ e∈es,e.1≠e.2)∧es.Nodup∧Acy es∧(je n.toNat es).length≤1
theorem Bo {h:AH}{x:Int×Int}:C prg 59 [.agg (eE x)] h λr h'=>r=.bool (decide (x.1=x.2))∧Ext h.next h h':=by
 refine Mw pf59 ?_;refine ae (aj (by simp only[am,aK,simprocAttr,bS,eE]<;>rfl) ?_);have ex:Ext h.next h (h.new (.cells [.int .i64 x.1,.int .i64 x.2] 2 false)):=Mt (ab _);have g:(h.new (.cells [.int .i64 x.1,.int .i64 x.2] 2 false)).get h.next=some (.cells [.int .i64 x.1,.int .i64 x.2] 2 false):=by rw[AH.get_new,if_pos rfl]
 generalize h.new (.cells [.int .i64 x.1,.int .i64 x.2] 2 false)=h1 at *
 have r1:ak h1 h.next 0 1=some [.int .i64 x.1]:=bm g rfl;have r2:ak h1 h.next 1 1=some [.int .i64 x.2]:=bm g rfl;refine ae (aj (M2 r1 r2) ?_);exact br ⟨_,(by simp only[rs,rf59,am,aK,simprocAttr]<;>rfl),rfl,ex⟩
theorem Ad {h:AH}{n:Int}{ev:AV}{es:List (Int×Int)} (he:SlE h ev es) (hl:es.length<2 ^ 30) :
 C prg 24 [.agg [.int .i64 n,ev]] h λr h'=>(∃ c a v,r=.agg [.int .i64 c,.int .i64 a,v]∧(c=0↔gJ n es))∧Ext h.next h h':=by
 obtain⟨ec,eo⟩:=he.cells;have hlen:=he.len;rw[ai] at hlen;refine Mw pf24 ?_;have x0:Ext h.next h (h.new (.cells [.int .i64 n,ev] 2 false)):=Mt (ab _);have g0:(h.new (.cells [.int .i64 n,ev] 2 false)).get h.next=some (.cells [.int .i64 n,ev] 2 false):=by rw[AH.get_new,if_pos rfl]
 have n0:(h.new (.cells [.int .i64 n,ev] 2 false)).next=h.next+1:=rfl;refine ae (aj (Mi0) ?_);generalize h.new (.cells [.int .i64 n,ev] 2 false)=h0 at *
 rw[← n0];have x1:Ext h0.next h0 (h0.new (.cells [.int .i64 0,.int .i64 0,.nils] 3 false)):=Mt (ab _);have f1:(h0.new (.cells [.int .i64 0,.int .i64 0,.nils] 3 false)).get h0.next=some (.cells [.int .i64 0,.int .i64 0,.nils] 3 false):=by rw[AH.get_new,if_pos rfl]
 have n1:(h0.new (.cells [.int .i64 0,.int .i64 0,.nils] 3 false)).next=h0.next+1:=rfl;generalize h0.new (.cells [.int .i64 0,.int .i64 0,.nils] 3 false)=h1 at *
 have X1:Ext h.next h h1:=x0.trans (x1.mono om);have r0:ak h1 h.next 0 2=some [.int .i64 n,ev]:=by rw[aU (by rw[x1.gt _ om]; exact g0)]; rfl
 have hend:∀ (h':AH) (c a:Int) (v:AV),h'.get h0.next=some (.cells [.int .i64 0,.int .i64 0,.nils] 3 false)→Ext h.next h h'→(c=0↔gJ n es)→∃ h'',bQ h' h0.next 0 [.int .i64 c,.int .i64 a,v]=some h''∧ak h'' h0.next 0 3=some [.int .i64 c,.int .i64 a,v]∧(∃ c' a' w,AV.agg [.int .i64 c,.int .i64 a,v]=.agg [.int .i64 c',.int .i64 a',w]∧(c'=0↔gJ n es))∧Ext h.next h h'':=by
  intro h' c a v hg hx hc;refine⟨h'.put h0.next (.cells [.int .i64 c,.int .i64 a,v] 3 false),by rw[dp hg]; rfl,?_,⟨c,a,v,rfl,hc⟩,hx.trans ((Mv hg).ext om)⟩;rw[aU (Mv hg).get]; rfl
 refine ae (ae (bN (bo 1 (M1 r0) rfl (Z1 r0) (M1 r0) (xv (he.ext X1 (ab _)) om) λr h2 hq=>?_)));obtain⟨rfl,x2⟩:=hq;refine bH (M0) ?_;have X2:=X1.trans (x2.mono X1.nx);have n2:=x2.nx;have f2:h2.get h0.next=some (.cells [.int .i64 0,.int .i64 0,.nils] 3 false):=by rw[x2.gt _ om]; exact f1
 by_cases hm:fy n es=true
 case neg =>
  obtain⟨h3,w3,r3,hc,X3⟩:=hend h2 1 0 .nils f2 X2 ⟨λh=>om,λh=>absurd h.1 hm⟩;simp only[sF] at hm;rw[hm];refine db (Z0) (ae (aj (M1 w3) ?_));exact br ⟨_,(by simp only[rs,rf24,am,aK,simprocAttr,r3]<;>rfl),hc,X3⟩
 rw[hm];refine dL (Z0) (bu ?_);have g2:h2.get h.next=some (.cells [.int .i64 n,ev] 2 false):=by rw[x2.gt _ om,x1.gt _ om]; exact g0
 have r2:ak h2 h.next 1 1=some [ev]:=bm g2 rfl;refine ae (ae (bN (bo 2 (M2 r2 @kV) rfl (Z2 r2 @kV) (M2 r2 @kV) (zD (P:=λx=>decide (x.1=x.2)) (caps:=[]) (he.ext X2 (ab _)) om (λx _ h' _=>by rw[bO]; exact Bo)) λr h3 hq=>?_)));obtain⟨rfl,x3⟩:=hq;refine bH (M0) ?_;have X3:=X2.trans (x3.mono X2.nx);have n3:=x3.nx;have f3:h3.get h0.next=some (.cells [.int .i64 0,.int .i64 0,.nils] 3 false):=by rw[x3.gt _ om]; exact f2
 have g3:h3.get h.next=some (.cells [.int .i64 n,ev] 2 false):=by rw[x3.gt _ om]; exact g2
 refine ae (aj (M0) ?_);by_cases q:0≤dW (λx:Int×Int=>decide (x.1=x.2)) es 0
 ·have c1:decide (0≤dW (λx:Int×Int=>decide (x.1=x.2)) es 0)=true:=aH q;obtain⟨kk,_,hk1,hk2⟩:=jZ _ _ _ q;obtain⟨h4,w4,r4,hc,X4⟩:=hend h3 13 (dW (λx:Int×Int=>decide (x.1=x.2)) es 0) .nils f3 X3 ⟨λh=>om,λh=>absurd (aR hk2) (h.2.1 _ (aP hk1))⟩;refine db (Z1 c1) (ae (aj (M1 w4) ?_));exact br ⟨_,(by simp only[rs,rf24,am,aK,simprocAttr,r4]<;>rfl),hc,X4⟩
 have c1:decide (0≤dW (λx:Int×Int=>decide (x.1=x.2)) es 0)=false:=aw q;have hloop:∀ e∈es,e.1≠e.2:=λe hee=>by
  have:=pZ _ _ _ (show dW (λx:Int×Int=>decide (x.1=x.2)) es 0<0 by omega) e hee;simpa using this
 refine dL (Z1 c1) (bu ?_);have r3:ak h3 h.next 1 1=some [ev]:=bm g3 rfl;refine ae (ae (ae (aj (M2 r3 hlen) ?_)))
 refine fA (α:=Unit) (N:=es.length) (λ_ _=>[(1,.ptr h.next 0),(2,.ptr h0.next 0),(21,ev)])
  (λk _ h'=>h'.get h0.next=some (.cells [.int .i64 0,.int .i64 0,.nils] 3 false)∧h'.get h.next=some (.cells [.int .i64 n,ev] 2 false)∧(es.take k).Nodup∧Ext h.next h h'∧h3.next≤h'.next) () (λ_ _=>rfl) om (Oi0) ⟨f3,g3,by simp,X3,ab _⟩ ?_ ?_
 ·rintro k _ ts h4 hk ⟨j1,j2,j3,j4,j5⟩ ⟨ei,en,e1,e2,e21,-⟩;simp only at ei en e1 e2 e21;have se:=he.ext j4 (ab _);obtain⟨b1,p1,a1,r4,_⟩:=se.at (cq (f:=eE) hk);obtain⟨h6,w6,x6,g6,n6⟩:=im (h:=h4) (z:=[.int .i64 0,.int .i64 0]) (cs:=[.int .i64 es[k].1,.int .i64 es[k].2]) (e:=2) rfl;refine ae (aj (by simp only[am,aK,simprocAttr,e21,ei,a1,r4,eE,w6]<;>rfl) ?_);have X6:=j4.trans (x6.mono j4.nx);have f6:h6.get h0.next=some (.cells [.int .i64 0,.int .i64 0,.nils] 3 false):=by rw[x6.gt _ om]; exact j1
  have g6':h6.get h.next=some (.cells [.int .i64 n,ev] 2 false):=by rw[x6.gt _ om]; exact j2
  have r6:ak h6 h.next 1 1=some [ev]:=bm g6' rfl;obtain⟨v',s1,s2,_⟩:=(he.ext X6 (ab _)).upto (hi:=k) (by rw[ai]; omega);rw[← fS] at s2;have r7:ak h6 h4.next 0 2=some [.int .i64 es[k].1,.int .i64 es[k].2]:=by rw[aU g6]; rfl
  have hce:=HO (y:=es[k]) s2 (by rw[aS]; omega);rw[show eE es[k]=[.int .i64 es[k].1,.int .i64 es[k].2] from rfl] at hce;refine ae (bN (bo 5 (by simp only[am,aK,simprocAttr,e1,r6,dH,bT,s1,r7]<;>rfl) rfl (by simp only[am,aK,simprocAttr,e1,r6,dH,bT,s1,r7]) (by simp only[am,aK,simprocAttr,e1,r6,dH,bT,s1,r7]<;>rfl) (hce) λr h7 hq=>?_));obtain⟨rfl,x7⟩:=hq;refine bH (M0) ?_;have X7:=X6.trans (x7.mono X6.nx);have f7:h7.get h0.next=some (.cells [.int .i64 0,.int .i64 0,.nils] 3 false):=by rw[x7.gt _ om]; exact f6
  have g7:h7.get h.next=some (.cells [.int .i64 n,ev] 2 false):=by rw[x7.gt _ om]; exact g6'
  cases hb:(es.take k).any (es[k]==·) with
  | true =>
    obtain⟨h8,w8,r8,hc,X8⟩:=hend h7 14 (k:Nat) .nils f7 X7 ⟨λh=>om,λh=>by
     exfalso;rw[Iz] at hb;obtain⟨y,hy,hye⟩:=hb;rw[beq_iff_eq] at hye;subst hye;have:=h.2.2.1;rw[← cD k es,bX hk,bV] at this;exact this.2.2 _ hy _ (bd ..) rfl⟩
    refine db (Z0) (ae (aj (M2 e2 w8) ?_));exact br ⟨_,(by simp only[rs,rf24,am,aK,simprocAttr,e2,r8]<;>rfl),hc,X8⟩
  | false =>
    refine dL (I0) (bu ⟨(),⟨f7,g7,?_,X7,by have:=x7.nx; omega⟩,O5 ei en e1 e2 e21⟩);rw[aG hk,bV];refine⟨j3,by simp,λx hx y hy=>?_⟩;simp only[aA,bq,or_false] at hy;subst hy;rw[qt] at hb;intro e;subst e;have:=hb _ hx;simp at this
 ·rintro _ ts h4 ⟨j1,j2,j3,j4,j5⟩ ⟨e1,e2,e21,-⟩;simp only at e1 e2 e21;rw[bp] at j3;obtain⟨nn,rfl⟩:∃ nn:Nat,n=nn:=⟨n.toNat,by
   simp only[fy,aM,aJ] at hm; omega⟩
  have r4:ak h4 h.next 0 2=some [.int .i64 (nn:Nat),ev]:=by rw[aU j2]; rfl
  refine ae (bN (bo 1 (M2 e1 r4) rfl (Z2 e1 r4) (M2 e1 r4) (Bl (he.ext j4 (ab _)) hm) λvp h5 hq=>?_));obtain⟨hv,x5⟩:=hq;refine bH (M0) ?_;have X5:=j4.trans (x5.mono j4.nx);have n5:=x5.nx;have f5:h5.get h0.next=some (.cells [.int .i64 0,.int .i64 0,.nils] 3 false):=by rw[x5.gt _ om]; exact j1
  refine ae (ae (bN (bo 1 (M0) rfl (Z0) (M0) (Mg hv) λcv h6 hq=>?_)));obtain⟨xs,sx,hxa,x6⟩:=hq;refine bH (M0) ?_;have X6:=X5.trans (x6.mono X5.nx);have n6:=x6.nx;have f6:h6.get h0.next=some (.cells [.int .i64 0,.int .i64 0,.nils] 3 false):=by rw[x6.gt _ om]; exact f5
  have lx:=sx.len;rw[ai] at lx;obtain⟨sc,so⟩:=sx.cells;refine ae (aj (M1 lx) ?_);refine cr (t:=decide (0<xs.length)) (by simp only[am,aK,simprocAttr]; exact congrArg AV.bool (by simp only[decide_eq_decide]; omega)) (λq=>?_) λq=>?_
  ·have q:0<xs.length:=aR q;obtain⟨h8,w8,r8,hc,X8⟩:=hend h6 15 0 cv f6 X6 ⟨λh=>om,λh=>by
    exfalso;have:=hxa.2 h.2.2.2.1;subst this;simp at q⟩
   refine ae (aj (by simp only[am,aK,simprocAttr,e2,sc,so,w8]<;>rfl) ?_);exact br ⟨_,(by simp only[rs,rf24,am,aK,simprocAttr,e2,r8]<;>rfl),hc,X8⟩
  have q:¬ 0<xs.length:=aZ q;have hacy:=hxa.1 (bi.1 om);refine bu ?_;have hv6:=hv.ext x6;refine ae (ae (bN (bo 1 (M0) rfl (Z0) (M0) (AA hv6) λsv h7 hq=>?_)));obtain⟨is,x7⟩:=hq;refine bH (M0) ?_;have X7:=X6.trans (x7.mono X6.nx);have f7:h7.get h0.next=some (.cells [.int .i64 0,.int .i64 0,.nils] 3 false):=by rw[x7.gt _ om]; exact f6
  have ss:SlI h7 sv (je nn es):=Mq om (λ_=>rfl) is;have ls:=ss.len;rw[ai] at ls;refine ae (aj (M1 ls) ?_);refine cr (t:=decide (1<(je nn es).length)) (by simp only[am,aK,simprocAttr]; exact congrArg AV.bool (by simp only[decide_eq_decide]; omega)) (λq2=>?_) λq2=>?_
  ·have q2:1<(je nn es).length:=aR q2;rcases is with ⟨rfl,hz⟩|⟨sb,sn,hsb,rfl,hsg,hsl⟩
   ·exfalso;have:=congrArg List.length hz;rw[dS,bt] at this;omega
   have hsn:sn=(je nn es).length:=by rw[dS] at hsl; omega
   have s2:slV h7 1 (.sl sb 0 sn sn) none (some (.int .i64 2)) (some (.int .i64 2))=some (.sl sb 0 2 2):=by
    have h1:bnd (.int .i64 2) sn=some 2:=hU (k:=.i64) (n:=2) (y:=sn) om;have h2:bnd (.int .i64 2) 2=some 2:=hU (k:=.i64) (n:=2) (y:=2) om;simp only[slV,hsg,if_true,rq,h1,h2,aQ];simp
   obtain⟨h8,w8,r8,hc,X8⟩:=hend h7 16 0 (.sl sb 0 2 2) f7 X7 ⟨λh=>om,λh=>by
    exfalso;have:=h.2.2.2.2;rw[aY] at this;omega⟩
   refine ae (aj (by simp only[am,aK,simprocAttr,dH,bT,s2,e2,w8]<;>rfl) ?_);exact br ⟨_,(by simp only[rs,rf24,am,aK,simprocAttr,e2,r8]<;>rfl),hc,X8⟩
  ·have q2:¬ 1<(je nn es).length:=aZ q2;obtain⟨h8,w8,r8,hc,X8⟩:=hend h7 0 0 .nils f7 X7 ⟨λ_=>⟨hm,hloop,j3,hacy,by rw[aY]; omega⟩,λ_=>rfl⟩;refine bu (ae (aj (M2 e2 w8) ?_));exact br ⟨_,(by simp only[rs,rf24,am,aK,simprocAttr,e2,r8]<;>rfl),hc,X8⟩
end Go.Proofs.YtahepnbflofndaaGreatDoor
