/- graph.View.cycle -/
import Derived.Test.YtmibmlioidpogaaGreatDoorVTAF
set_option linter.all false
namespace Go.Proofs.YtmibmlioidpogaaGreatDoor
open Go.Am Go.Sort
variable {b:Nat}{es:List (Int×Int)}{h:AH}{iv:AV}{rest:List AV}{x y:Int}{xs:List Int}
theorem gcycle1_ok:C prg 80 [.int .i64 x] h λr h'=>r=.bool (decide (0<x))/\h'=h:=by
 refine Me pf80 ?_;refine ae (ar (Mi0) ?_);refine ae (ar (Mi0) ?_);exact bG ⟨_,(by simp only[rs,rf80,am,aD,simprocAttr]<;>rfl),rfl,rfl⟩
theorem wZ:xs.any (y==·)=decide (y∈xs):=by
 rw[eu];simp
theorem yJ(h:y∈xs):∃k,eM (y==·) xs 0=((k:Nat):Int)/\k<xs.length:=by
 have h1:=(jB (y==·) xs 0)
 have h2:0<=eM (y==·) xs 0:=by
  have:xs.any (y==·)=true:=by rw[wZ];simpa using h
  by_cases q:eM (y==·) xs 0<0
  .rw[h1.2.1 q]at this;cases this
  .omega
 obtain⟨k,h3,h4,_⟩:=lK _ _ _ h2;exact⟨k,by simpa using h3,h4⟩
theorem LI{vp:AV}{n:Nat}(hv:IsView h vp n es) :
 C prg 48 [vp] h λr h'=>∃xs:List Int,SlI h' r xs/\(xs=[]↔Acy es)/\Ext h.next h h':=by
 have hv0:=hv;obtain⟨b,ev,os,is,ob,ib,rfl,g1,g2,g3,g4,g5,g6,g7,g8,m1,m2,m3,m4⟩:=hv;refine Me pf48 ?_;refine ae (ar (Mi0) ?_);refine ae (bM (aV 1 (Mi0) rfl (Zi0) (Mi0) (JL hv0) λr h1 hq=>?_));obtain⟨a,w,out,ws,rfl,iw,k,hz,x1,_⟩:=hq;refine bF (M0) ?_;have hw:SlI h1 w ws:=LY om (λ_=>rfl) iw;refine ae (bM (aV 1 (M1 @iP) rfl (Z1 @iP) (M1 @iP) (Gy (P:=λx=>decide (0<x)) (caps:=[]) hw (by rw[k.len];omega) (λx _ h' _=>by rw[bW];exact gcycle1_ok.mono λr h2 hq=>⟨hq.1,by rw[hq.2];exact Mc⟩)) λr h2 hq=>?_));obtain⟨rfl,x2⟩:=hq;refine bF (M0) ?_;have hacy:=k.acy m4 hz;by_cases q:eM (λx=>decide (0<x)) ws 0<0
 .have hle:=sR _ _ _ q;have ha:Acy es:=hacy.1 λv hv=>by
   have:=hle (ws[v]'(by rw[k.len];exact hv)) (aZ _);rw[aH,ai (by rw[k.len];exact hv),cX];simpa using this
  have c1:decide (0<=eM (λx=>decide (0<x)) ws 0)=false:=aN om;have c2:decide (eM (λx=>decide (0<x)) ws 0<0)=true:=bj q;refine ae (ar (M0) ?_);refine ae (pA (λts h3=>h3=h2/\bz ts 5=.int .i64 (eM (λx=>decide (0<x)) ws 0)) (cE (fI (λn ts h3=>h3=h2/\bz ts 5=.int .i64 (eM (λx=>decide (0<x)) ws 0)) ?_ (n:=0) ⟨rfl,Z0⟩)) ?_)
  .rintro n ts h3 ⟨rfl,e5⟩;refine ae (ae (bM (ja 5 (M2 e5 c1) rfl (Z0) ?_)));refine bF (M0) ?_;refine dQ (Z0) ?_;exact fh ⟨λ_=>⟨rfl,Z1 e5⟩,λe=>absurd rfl e⟩
  .rintro ts h3 ⟨rfl,e5⟩;refine ae (ae (ar (M2 e5 c2) ?_));refine dg (Z0) (ae (ar (M0) ?_));exact bG ⟨.nils,(by simp only[rs,rf48,am,aD,simprocAttr]<;>rfl),[],.inl ⟨rfl,.inl rfl⟩,⟨λ_=>ha,λ_=>rfl⟩,x1.trans (x2.mono x1.nx)⟩
 .obtain⟨z0,hz0,hz1,hz2⟩:=lK _ _ _ (show 0<=eM (λx=>decide (0<x)) ws 0 by omega);rw[bL]at hz0;have hz2:0<ws.getD z0 0:=by
   rw[aH,ai hz1,cX];simpa using hz2
  have hzn:z0<n:=by rw[<-k.len];exact hz1
  have hna:¬Acy es:=λha=>by have:=hacy.2 ha z0 hzn;omega
  rw[hz0];have w1:IsSl h2 1 h.next w (ws.flatMap eI):=iw.ext x2 (ab _);refine ae (ar (M0) ?_);have X2:Ext h.next h h2:=x1.trans (x2.mono x1.nx)
  refine ae (pA (λts h3=>∃(way:List Int) (z:Nat) (a:AV),((z:Nat):Int)∈way/\IsSl h3 1 h2.next a (way.flatMap eI)/\way.length<=n/\Ext h.next h h3/\h2.next<=h3.next/\bz ts 5=.int .i64 (z:Nat)/\bz ts 6=a)
   (cE (fI (λm ts h3=>∃(way:List Int) (z:Nat) (a:AV),m=n-way.length/\z<n/\0<ws.getD z 0/\way.Nodup/\(∀y∈way,0<=y/\y<n)/\IsSl h3 1 h2.next a (way.flatMap eI)/\Ext h.next h h3/\Ext h2.next h2 h3/\Held [(0,.ptr b 0),(4,w),(5,.int .i64 (z:Nat)),(6,a)] ts) ?_ (n:=n)
    ⟨[],z0,.nils,rfl,hzn,hz2,by simp,by simp,.inl ⟨rfl,rfl⟩,X2,Mc,Hi0⟩)) ?_)
  .rintro m ts h3 ⟨way,z,a,rfl,zn,zp,nd,hrg,ia,x3,x3',e0,e4,e5,e6,-⟩;simp only at e0 e4 e5 e6;have hwl:way.length<=n:=by
    have h1:way ⊆ (List.range n).map λx=>((x:Nat):Int):=λv hv=>by
     have:=hrg v hv;exact bA.2 ⟨v.toNat,bm.2 om,om⟩
    have:=nd.length_le_of_subset h1;simpa using this
   have c1:decide (0<=((z:Nat):Int))=true:=bj om;have hway:SlI h3 a way:=LY om (λ_=>rfl) ia;refine ae (ae (bM (aV 5 (M3 e5 e6 c1) rfl (Z3 e5 e6 c1) (M3 e5 e6 c1) (nh (y:=((z:Nat):Int)) hway om) λr h4 hq=>?_)));obtain⟨rfl,x4⟩:=hq;rw[wZ];refine bF (M0) ?_;by_cases hm:((z:Nat):Int)∈way
   .have c2:decide (((z:Nat):Int)∈way)=true:=bj hm;refine dQ (Z1 c2) ?_;have n4:=x4.nx;have n3:=x3'.nx;exact fh ⟨λ_=>⟨way,z,a,hm,ia.ext x4 (ab _),hwl,x3.trans (x4.mono x3.nx),om,Z1 e5,Z1 e6⟩,λe=>absurd rfl e⟩
   .have c2:decide (((z:Nat):Int)∈way)=false:=aN hm;refine dg (Z1 c2) (bK (cE ?_));have n4:=x4.nx;have n3:=x3'.nx;obtain⟨s',h5,a1,i5,x5,n5⟩:=(ia.ext x4 (ab _)).push (bytes:=8) (eI ((z:Nat):Int)) om om rfl rfl (by rw[fy];unfold bd;omega) (by rw[fy];unfold bd;omega);rw[show eI ((z:Nat):Int)=[.int .i64 ((z:Nat):Int)] from rfl]at a1 i5;refine ae (ar (M3 e5 e6 a1) ?_);refine ae (ar (M0) ?_);have X5:Ext h.next h h5:=x3.trans ((x4.mono x3.nx).trans (x5.mono (by have:=X2.nx;omega)));have X5':Ext h2.next h2 h5:=x3'.trans ((x4.mono n3).trans x5);have r1:ak h5 b 3 1=some [.sl ib 0 n n]:=br (by rw[X5.gt _ (AH.lt_of_get g1)];exact g1) rfl;have rz:ak h5 ib z 1=some [is[z]'om]:=br (by rw[X5.gt _ (AH.lt_of_get g4)];exact g4) (ai _);have iz:gh ((z:Nat):Int) n=some z:=dL zn;have si:=(g8 z _ (ai (show z<is.length by omega))).ext X5 (ab _);have li:=si.len;rw[ah]at li;have hll:(eD es ((z:Nat):Int)).length<=128:=cw (gq _ _ _) m3;have sw:SlI h5 w ws:=hw.ext (x2.trans (X5'.mono x2.nx)) (ab _);have se:=g2.ext X5 (ab _);have rv:ak h5 b 1 1=some [ev]:=br (by rw[X5.gt _ (AH.lt_of_get g1)];exact g1) rfl;refine ae (ae (ar (M7 e0 e5 r1 iz @aM rz li) ?_))
    refine fj (α:=Int) (N:=(eD es ((z:Nat):Int)).length) (λ_ a'=>[(37,is[z]'om),(0,.ptr b 0),(4,w),(6,s'),(7,.int .i64 a')])
     (λk a' h'=>h'=h5/\-1<=a'/\(0<=a'->a'.toNat<n/\0<ws.getD a'.toNat 0)/\∀i∈(eD es ((z:Nat):Int)).take k,0<ws.getD ((es[i.toNat]?).getD (0,0)).1.toNat 0->0<=a') (-1) (λ_ _=>rfl) om (H2 e0 e4) ⟨rfl,om,om,by simp⟩ ?_ ?_
    .clear e0 e4 e5 e6;rintro j a' ts h6 hj ⟨rfl,j2,j3,j4⟩ ⟨ei,en,e37,e0,e4,e6,e7,-⟩;simp only at ei en e37 e0 e4 e6 e7;obtain⟨jb,jp,a6,r6,_⟩:=si.at1 (eJ (f:=eI) hj);obtain⟨ed,hed1,hed2,ed',hed3,hed4⟩:=gp (λe=>decide (e.2=((z:Nat):Int))) es 0 _ (aZ hj);rw[bL]at hed1;have hed1:(eD es ((z:Nat):Int))[j]=((ed:Nat):Int):=hed1;rw[hed1]at r6;obtain⟨ea,eb,eab,hea,heb⟩:=rg (cD.1 m4 _ (aZ hed2));obtain⟨eb1,ep,a7,_,r7,_⟩:=se.at (eJ (f:=eE) hed2);have r7:=r7 0 (.int .i64 ((ea:Nat):Int)) (by rw[eab];rfl);rw[eG]at r7;obtain⟨wb1,wp,a8,r8,_⟩:=sw.at1 (eJ (f:=eI) (show ea<ws.length by rw[k.len];exact hea));have hgd:ws.getD ea 0=ws[ea]'(by rw[k.len];exact hea):=by rw[aH,ai (by rw[k.len];exact hea),cX]
     have hnew:(es[((eD es ((z:Nat):Int))[j]).toNat]?).getD (0,0)=(((ea:Nat):Int),((eb:Nat):Int)):=by
      rw[hed1,bU,ai hed2,cX,eab]
     refine ae (ar (M4 e37 ei a6 r6) ?_);refine ae (ar (M4 e0 rv a7 r7) ?_);have mem_succ:∀i,i∈(eD es ((z:Nat):Int)).take (j+1)->i∈(eD es ((z:Nat):Int)).take j\/i=(eD es ((z:Nat):Int))[j]:=λi hi=>by
      rw[be hj,aw]at hi;rcases hi with hi|hi
      .exact .inl hi
      .exact .inr (by simpa using hi)
     have hno:¬0<ws.getD ea 0->∀i∈(eD es ((z:Nat):Int)).take (j+1),0<ws.getD ((es[i.toNat]?).getD (0,0)).1.toNat 0->0<=a':=λhn i hi hp=>by
      rcases mem_succ i hi with hi|rfl
      .exact j4 i hi hp
      .rw[hnew]at hp;exact absurd (by simpa using hp) hn
     have hge:0<=a'->∀i∈(eD es ((z:Nat):Int)).take (j+1),0<ws.getD ((es[i.toNat]?).getD (0,0)).1.toNat 0->0<=a':=λh0 _ _ _=>h0;by_cases c1:0<ws[ea]'(by rw[k.len];exact hea)
     .have d1:decide (0<ws[ea]'(by rw[k.len];exact hea))=true:=bj c1;have set:∀a'',a''=((ea:Nat):Int)->(h6=h6/\-1<=a''/\(0<=a''->a''.toNat<n/\0<ws.getD a''.toNat 0)/\∀i∈(eD es ((z:Nat):Int)).take (j+1),0<ws.getD ((es[i.toNat]?).getD (0,0)).1.toNat 0->0<=a''):=by
       rintro _ rfl;exact⟨rfl,om,λ_=>⟨om,by rw[bU,hgd];exact c1⟩,λ_ _ _=>by omega⟩
      by_cases c2:a'<0
      .have d2:decide (a'<0)=true:=bj c2;refine ae (ar (M6 e4 e7 a8 r8 d1 d2) ?_);refine dg (Z0) ?_;refine ar (M0) ?_;exact⟨_,set _ rfl,H6 ei en e37 e0 e4 e6⟩
      .have d2:decide (a'<0)=false:=aN c2;by_cases c3:((ea:Nat):Int)<a'
       .have d3:decide (((ea:Nat):Int)<a')=true:=bj c3;refine ae (ar (M7 e4 e7 a8 r8 d1 d2 d3) ?_);refine dg (Z0) ?_;refine ar (M0) ?_;exact⟨_,set _ rfl,H6 ei en e37 e0 e4 e6⟩
       .have d3:decide (((ea:Nat):Int)<a')=false:=aN c3;refine ae (ar (M7 e4 e7 a8 r8 d1 d2 d3) ?_);refine dQ (Z0) ?_;exact bK ⟨a',⟨rfl,j2,j3,hge om⟩,H7 ei en e37 e0 e4 e6 e7⟩
     .have d1:decide (0<ws[ea]'(by rw[k.len];exact hea))=false:=aN c1;refine ae (ar (M5 e4 e7 a8 r8 d1) ?_);refine dQ (Z0) ?_;exact bK ⟨a',⟨rfl,j2,j3,hno (by rw[hgd];exact c1)⟩,H7 ei en e37 e0 e4 e6 e7⟩
    .clear e0 e4 e5 e6;rintro a' ts h6 ⟨rfl,j2,j3,j4⟩ ⟨e37,e0,e4,e6,e7,-⟩;simp only at e37 e0 e4 e6 e7;rw[da]at j4;obtain⟨e,hee,he1,he2⟩:=k.back m4 hz zn zp;have hpos:0<=a':=by
      have hin:e∈(eD es ((z:Nat):Int)).map (λi=>(es[i.toNat]?).getD (0,0)):=by
       have:=oK (λe=>decide (e.2=((z:Nat):Int))) es [];simp only[aK,aW]at this;unfold eD;rw[this,bq];exact⟨hee,by simpa using he1⟩
      obtain⟨i,hi,rfl⟩:=bA.1 hin;exact j4 i hi he2
     obtain⟨z',rfl⟩:∃z':Nat,a'=z':=⟨a'.toNat,om⟩
     obtain⟨j5,j6⟩:=j3 hpos;rw[bU]at j5 j6;refine ar (M1 e7) ?_;have nd':(way++[((z:Nat):Int)]).Nodup:=by
      rw[aJ];refine⟨nd,by simp,λx hx y hy=>?_⟩;simp only[au,aR,or_false]at hy;subst hy;exact λe=>hm (e▸hx)
     have hrg':∀y∈way++[((z:Nat):Int)],0<=y/\y<n:=λy hy=>by
      rw[aw]at hy;rcases hy with hy|hy
      .exact hrg y hy
      .simp only[au,aR,or_false]at hy;omega
     have hwl':(way++[((z:Nat):Int)]).length<=n:=by
      have h1:(way++[((z:Nat):Int)]) ⊆ (List.range n).map λx=>((x:Nat):Int):=λv hv=>by
       have:=hrg' v hv;exact bA.2 ⟨v.toNat,bm.2 om,om⟩
      have:=nd'.length_le_of_subset h1;simpa using this
     refine⟨n-(way++[((z:Nat):Int)]).length,by simp only[aC,aq,aK]at hwl' |-;omega,way++[((z:Nat):Int)],z',s',rfl,j5,j6,nd',hrg',by rw[dD];exact i5,X5,X5',H3 e0 e4 e6⟩
  .rintro ts h3 ⟨way,z,a,hm,ia,hwl,x3,n3,e5,e6⟩;have c1:decide (((z:Nat):Int)<0)=false:=aN om;refine ae (ae (ar (M2 e5 c1) ?_));refine dQ (Z0) (bK ?_);have sa:SlI h3 a way:=LY om (λ_=>rfl) ia;obtain⟨k0,hk0,hk1⟩:=yJ hm;rcases ia with⟨rfl,hnil⟩|⟨wb,L,hwb,rfl,gw,hL⟩
   .have h0:=congrArg List.length hnil;rw[fy,aK]at h0;omega
   have hLn:L=way.length:=by rw[fy]at hL;omega
   subst hLn;refine ae (bM (aV 3 (M2 e5 e6) rfl (Z2 e5 e6) (M2 e5 e6) (lY (y:=((z:Nat):Int)) sa om) λr h4 hq=>?_));obtain⟨rfl,x4⟩:=hq;rw[hk0];have gw4:h4.get wb=some (.cells (way.flatMap eI) 1 false):=by rw[x4.gt _ (AH.lt_of_get gw)];exact gw
   have s1:=xJ gw4 hk1 (ab _) (Nat.le_of_lt hk1);rw[aM]at s1;refine bF (by simp only[am,aD,simprocAttr,cY,bh,e6,s1]<;>rfl) ?_;have hds:(way.drop k0).toArray.size=way.length-k0:=by simp
   have gb:h4.get wb=some (lA (way.flatMap eI) k0 (way.drop k0).toArray):=by
    rw[gw4];unfold lA;congr 2;refine(mL (by rw[gR,hds,fy];omega) ?_).symm;rw[<-nG,fy,cH,kV,kV,ez,cB (by rw[cH,ah];omega)]
   have hrv:=oj (c:=way.length-k0) gb (by rw[hds,fy];omega) (by rw[hds];omega);rw[hds]at hrv;refine ae (bM (aV 1 (M0) rfl (Z0) (M0) (hrv) λr h5 u5=>?_));refine bF (M0) ?_;have s5:=Hs (c:=way.length-k0) u5.get (by rw[Bb,hds,fy];omega) (by rw[Bb,hds];omega);rw[Bb,hds]at s5;have hl5:(way.drop k0).toArray.reverse.toList.length=way.length-k0:=by simp
   have n4:=x4.nx;have n5:=u5.nx;generalize (way.drop k0).toArray.reverse.toList=rl at *
   refine ae (bM (aV 2 (M0) rfl (Z0) (M0) (Ju s5 om om) λr h6 hq=>?_));obtain⟨mi,rfl,hmi,_,rfl⟩:=hq;obtain⟨j0,hj0,hj1⟩:=yJ hmi;refine jc (Z0) (M0) (lY (y:=mi) s5 om) λr h7 hq=>?_;obtain⟨rfl,x7⟩:=hq;rw[hj0];refine bF (M0) ?_;have s7:=s5.ext x7 (ab _);have n7:=x7.nx;have kg:∀c,c<h7.next->(h7.keep 1).get c=h7.get c:=λc hc=>by rw[AH.keep_get,if_neg om]
   have q7:(h7.keep 1).get h7.next=some .resv:=fZ;have hwb7:wb<h7.next:=by have:=AH.lt_of_get gw4;omega
   have s8:SlI (h7.keep 1) (.sl wb k0 (way.length-k0) (way.length-k0)) rl:=s7.cong λb' o' n' c' e=>kg _ (s7.lt e);obtain⟨v1,f1,t1,t1b,_⟩:=s8.from (lo:=j0) (by rw[ah];omega);obtain⟨v2,f2,t2,t2b,_⟩:=s8.upto (hi:=j0) (by rw[ah];omega);have cl1:=t1.cells;have cl2:=t2.cells;obtain⟨p1,p2,p3,p4⟩:=jm (h:=h7) (o:=.cells [v1,v2] 1 false);have kgp:∀c,c<h7.next->((h7.keep 1).put h7.next (.cells [v1,v2] 1 false)).get c=(h7.keep 1).get c:=λc hc=>by rw[p4 c hc,kg c hc]
   have hcat:=oL (h:=(h7.keep 1).put h7.next (.cells [v1,v2] 1 false)) (v:=.sl h7.next 0 2 2) (vs:=[v1,v2]) (xss:=[rl.drop j0,rl.take j0]) (Ma p2 rfl (ab _)) rfl (λi w xs hw hx=>?_) (by simp) (by simp only[fD,fk,bW,aC,cH,bB];omega)
   rotate_left
   .match i with
    |0 =>
      simp only[aP,aa]at hw hx;subst hw hx;rw[<-ez]at t1;exact t1.cong λb' o' n' c' e=>kgp _ (by
       have:=t1b (λb=>b<h7.next) hwb7;rw[e]at this;exact this)
    |1 =>
      simp only[bP,aP,aa]at hw hx;subst hw hx;rw[<-ew]at t2;exact t2.cong λb' o' n' c' e=>kgp _ (by
       have:=t2b (λb=>b<h7.next) hwb7;rw[e]at this;exact this)
    |i+2=>simp at hw
   refine ae (my (aV 7 (by simp only[am,aD,simprocAttr,cY,bh,f1,f2,dS,dG q7,cl1.1,cl2.1]<;>rfl) rfl (by simp only[am,aD,simprocAttr,cY,bh,f1,f2,dS,dG q7,cl1.1,cl2.1]) (by simp only[am,aD,simprocAttr,cY,bh,f1,f2,dS,dG q7,cl1.1,cl2.1]<;>rfl) (hcat) λr h8 hq=>?_));obtain⟨i8,x8⟩:=hq;refine bF (M0) ?_;refine bG ⟨r,(by simp only[rs,rf48,am,aD,simprocAttr]<;>rfl),_,LY om (λ_=>rfl) i8,⟨λe=>?_,λe=>absurd e hna⟩,?_⟩
   .exfalso;have:=congrArg List.length e;simp only[fD,fk,bW,aC,cH,bB,aK]at this;omega
   .have:=X2.nx;exact x3.trans ((x4.mono om).trans ((u5.ext om).trans ((x7.mono om).trans ((p1.mono om).trans (x8.mono om)))))
open Go.Am
def qP(n:Int)(es:List (Int×Int)):Prop:=lW n es=true/\(∀e∈es,e.1≠e.2)/\es.Nodup/\Acy es/\(rM n.toNat es).length<=1
theorem Aq{x:Int×Int}:C prg 46 [.agg (eE x)] h λr h'=>r=.bool (decide (x.1=x.2))/\Ext h.next h h':=by
 refine Me pf46 ?_;refine ae (ar (by simp only[am,aD,simprocAttr,bE,eE]<;>rfl) ?_);have ex:Ext h.next h (h.new (.cells [.int .i64 x.1,.int .i64 x.2] 2 false)):=Mb (ab _);have g:(h.new (.cells [.int .i64 x.1,.int .i64 x.2] 2 false)).get h.next=some (.cells [.int .i64 x.1,.int .i64 x.2] 2 false):=by rw[AH.get_new,if_pos rfl]
 generalize h.new (.cells [.int .i64 x.1,.int .i64 x.2] 2 false)=h1 at *
 have r1:ak h1 h.next 0 1=some [.int .i64 x.1]:=br g rfl;have r2:ak h1 h.next 1 1=some [.int .i64 x.2]:=br g rfl;refine ae (ar (M2 r1 r2) ?_);exact bG ⟨_,(by simp only[rs,rf46,am,aD,simprocAttr]<;>rfl),rfl,ex⟩
theorem Hj{n:Int}{ev:AV}(he:SlE h ev es)(hl:es.length<2^30) :
 C prg 18 [.agg [.int .i64 n,ev]] h λr h'=>(∃c a v,r=.agg [.int .i64 c,.int .i64 a,v]/\(c=0↔qP n es))/\Ext h.next h h':=by
 obtain⟨ec,eo⟩:=he.cells;have hlen:=he.len;rw[ah]at hlen;refine Me pf18 ?_;have x0:Ext h.next h (h.new (.cells [.int .i64 n,ev] 2 false)):=Mb (ab _);have g0:(h.new (.cells [.int .i64 n,ev] 2 false)).get h.next=some (.cells [.int .i64 n,ev] 2 false):=by rw[AH.get_new,if_pos rfl]
 have n0:(h.new (.cells [.int .i64 n,ev] 2 false)).next=h.next+1:=rfl;refine ae (ar (Mi0) ?_);generalize h.new (.cells [.int .i64 n,ev] 2 false)=h0 at *
 rw[<-n0];have x1:Ext h0.next h0 (h0.new (.cells [.int .i64 0,.int .i64 0,.nils] 3 false)):=Mb (ab _);have f1:(h0.new (.cells [.int .i64 0,.int .i64 0,.nils] 3 false)).get h0.next=some (.cells [.int .i64 0,.int .i64 0,.nils] 3 false):=by rw[AH.get_new,if_pos rfl]
 have n1:(h0.new (.cells [.int .i64 0,.int .i64 0,.nils] 3 false)).next=h0.next+1:=rfl;generalize h0.new (.cells [.int .i64 0,.int .i64 0,.nils] 3 false)=h1 at *
 have X1:Ext h.next h h1:=x0.trans (x1.mono om);have r0:ak h1 h.next 0 2=some [.int .i64 n,ev]:=by rw[aU (by rw[x1.gt _ om];exact g0)];rfl
 have hend:∀(h':AH) (c a:Int) (v:AV),h'.get h0.next=some (.cells [.int .i64 0,.int .i64 0,.nils] 3 false)->Ext h.next h h'->(c=0↔qP n es)->∃h'',bV h' h0.next 0 [.int .i64 c,.int .i64 a,v]=some h''/\ak h'' h0.next 0 3=some [.int .i64 c,.int .i64 a,v]/\(∃c' a' w,AV.agg [.int .i64 c,.int .i64 a,v]=.agg [.int .i64 c',.int .i64 a',w]/\(c'=0↔qP n es))/\Ext h.next h h'':=by
  intro h' c a v hg hx hc;refine⟨h'.put h0.next (.cells [.int .i64 c,.int .i64 a,v] 3 false),by rw[eL hg];rfl,?_,⟨c,a,v,rfl,hc⟩,hx.trans ((Md hg).ext om)⟩;rw[aU (Md hg).get];rfl
 refine ae (ae (bM (aV 1 (M1 r0) rfl (Z1 r0) (M1 r0) (rB (he.ext X1 (ab _)) om) λr h2 hq=>?_)));obtain⟨rfl,x2⟩:=hq;refine bF (M0) ?_;have X2:=X1.trans (x2.mono X1.nx);have n2:=x2.nx;have f2:h2.get h0.next=some (.cells [.int .i64 0,.int .i64 0,.nils] 3 false):=by rw[x2.gt _ om];exact f1
 by_cases hm:lW n es=true
 case neg =>
  obtain⟨h3,w3,r3,hc,X3⟩:=hend h2 1 0 .nils f2 X2 ⟨λh=>om,λh=>absurd h.1 hm⟩;simp only[mB]at hm;rw[hm];refine dg (Z0) (ae (ar (M1 w3) ?_));exact bG ⟨_,(by simp only[rs,rf18,am,aD,simprocAttr,r3]<;>rfl),hc,X3⟩
 rw[hm];refine dQ (Z0) (bK ?_);have g2:h2.get h.next=some (.cells [.int .i64 n,ev] 2 false):=by rw[x2.gt _ om,x1.gt _ om];exact g0
 have r2:ak h2 h.next 1 1=some [ev]:=br g2 rfl;refine ae (ae (bM (aV 2 (M2 r2 @iP) rfl (Z2 r2 @iP) (M2 r2 @iP) (yD (P:=λx=>decide (x.1=x.2)) (caps:=[]) (he.ext X2 (ab _)) om (λx _ h' _=>by rw[bW];exact Aq)) λr h3 hq=>?_)));obtain⟨rfl,x3⟩:=hq;refine bF (M0) ?_;have X3:=X2.trans (x3.mono X2.nx);have n3:=x3.nx;have f3:h3.get h0.next=some (.cells [.int .i64 0,.int .i64 0,.nils] 3 false):=by rw[x3.gt _ om];exact f2
 have g3:h3.get h.next=some (.cells [.int .i64 n,ev] 2 false):=by rw[x3.gt _ om];exact g2
 refine ae (ar (M0) ?_);by_cases q:0<=eM (λx:Int×Int=>decide (x.1=x.2)) es 0
 .have c1:decide (0<=eM (λx:Int×Int=>decide (x.1=x.2)) es 0)=true:=bj q;obtain⟨kk,_,hk1,hk2⟩:=lK _ _ _ q;obtain⟨h4,w4,r4,hc,X4⟩:=hend h3 13 (eM (λx:Int×Int=>decide (x.1=x.2)) es 0) .nils f3 X3 ⟨λh=>om,λh=>absurd (bN hk2) (h.2.1 _ (aZ hk1))⟩;refine dg (Z1 c1) (ae (ar (M1 w4) ?_));exact bG ⟨_,(by simp only[rs,rf18,am,aD,simprocAttr,r4]<;>rfl),hc,X4⟩
 have c1:decide (0<=eM (λx:Int×Int=>decide (x.1=x.2)) es 0)=false:=aN q;have hloop:∀e∈es,e.1≠e.2:=λe hee=>by
  have:=sR _ _ _ (show eM (λx:Int×Int=>decide (x.1=x.2)) es 0<0 by omega) e hee;simpa using this
 refine dQ (Z1 c1) (bK ?_);have r3:ak h3 h.next 1 1=some [ev]:=br g3 rfl;refine ae (ae (ae (ar (M2 r3 hlen) ?_)))
 refine fj (α:=Unit) (N:=es.length) (λ_ _=>[(1,.ptr h.next 0),(2,.ptr h0.next 0),(21,ev)])
  (λk _ h'=>h'.get h0.next=some (.cells [.int .i64 0,.int .i64 0,.nils] 3 false)/\h'.get h.next=some (.cells [.int .i64 n,ev] 2 false)/\(es.take k).Nodup/\Ext h.next h h'/\h3.next<=h'.next) () (λ_ _=>rfl) om (Oi0) ⟨f3,g3,by simp,X3,ab _⟩ ?_ ?_
 .rintro k _ ts h4 hk ⟨j1,j2,j3,j4,j5⟩ ⟨ei,en,e1,e2,e21,-⟩;simp only at ei en e1 e2 e21;have se:=he.ext j4 (ab _);obtain⟨b1,p1,a1,r4,_⟩:=se.at (eJ (f:=eE) hk);obtain⟨h6,w6,x6,g6,n6⟩:=iB (h:=h4) (z:=[.int .i64 0,.int .i64 0]) (cs:=[.int .i64 es[k].1,.int .i64 es[k].2]) (e:=2) rfl;refine ae (ar (by simp only[am,aD,simprocAttr,e21,ei,a1,r4,eE,w6]<;>rfl) ?_);have X6:=j4.trans (x6.mono j4.nx);have f6:h6.get h0.next=some (.cells [.int .i64 0,.int .i64 0,.nils] 3 false):=by rw[x6.gt _ om];exact j1
  have g6':h6.get h.next=some (.cells [.int .i64 n,ev] 2 false):=by rw[x6.gt _ om];exact j2
  have r6:ak h6 h.next 1 1=some [ev]:=br g6' rfl;obtain⟨v',s1,s2,_⟩:=(he.ext X6 (ab _)).upto (hi:=k) (by rw[ah];omega);rw[<-ew]at s2;have r7:ak h6 h4.next 0 2=some [.int .i64 es[k].1,.int .i64 es[k].2]:=by rw[aU g6];rfl
  have hce:=Ha (y:=es[k]) s2 (by rw[bB];omega);rw[show eE es[k]=[.int .i64 es[k].1,.int .i64 es[k].2] from rfl]at hce;refine ae (bM (aV 5 (by simp only[am,aD,simprocAttr,e1,r6,cY,bh,s1,r7]<;>rfl) rfl (by simp only[am,aD,simprocAttr,e1,r6,cY,bh,s1,r7]) (by simp only[am,aD,simprocAttr,e1,r6,cY,bh,s1,r7]<;>rfl) (hce) λr h7 hq=>?_));obtain⟨rfl,x7⟩:=hq;refine bF (M0) ?_;have X7:=X6.trans (x7.mono X6.nx);have f7:h7.get h0.next=some (.cells [.int .i64 0,.int .i64 0,.nils] 3 false):=by rw[x7.gt _ om];exact f6
  have g7:h7.get h.next=some (.cells [.int .i64 n,ev] 2 false):=by rw[x7.gt _ om];exact g6'
  cases hb:(es.take k).any (es[k]==·)with
  |true =>
    obtain⟨h8,w8,r8,hc,X8⟩:=hend h7 14 (k:Nat) .nils f7 X7 ⟨λh=>om,λh=>by
     exfalso;rw[qZ]at hb;obtain⟨y,hy,hye⟩:=hb;rw[beq_iff_eq]at hye;subst hye;have:=h.2.2.1;rw[<-cT k es,bT hk,aJ]at this;exact this.2.2 _ hy _ (bt ..) rfl⟩
    refine dg (Z0) (ae (ar (M2 e2 w8) ?_));exact bG ⟨_,(by simp only[rs,rf18,am,aD,simprocAttr,e2,r8]<;>rfl),hc,X8⟩
  |false =>
    refine dQ (I0) (bK ⟨(),⟨f7,g7,?_,X7,by have:=x7.nx;omega⟩,O5 ei en e1 e2 e21⟩);rw[be hk,aJ];refine⟨j3,by simp,λx hx y hy=>?_⟩;simp only[au,aR,or_false]at hy;subst hy;rw[pF]at hb;intro e;subst e;have:=hb _ hx;simp at this
 .rintro _ ts h4 ⟨j1,j2,j3,j4,j5⟩ ⟨e1,e2,e21,-⟩;simp only at e1 e2 e21;rw[da]at j3;obtain⟨nn,rfl⟩:∃nn:Nat,n=nn:=⟨n.toNat,by
   simp only[lW,aL,aI]at hm;omega⟩
  have r4:ak h4 h.next 0 2=some [.int .i64 (nn:Nat),ev]:=by rw[aU j2];rfl
  refine ae (bM (aV 1 (M2 e1 r4) rfl (Z2 e1 r4) (M2 e1 r4) (Ao (he.ext j4 (ab _)) hm) λvp h5 hq=>?_));obtain⟨hv,x5⟩:=hq;refine bF (M0) ?_;have X5:=j4.trans (x5.mono j4.nx);have n5:=x5.nx;have f5:h5.get h0.next=some (.cells [.int .i64 0,.int .i64 0,.nils] 3 false):=by rw[x5.gt _ om];exact j1
  refine ae (ae (bM (aV 1 (M0) rfl (Z0) (M0) (LI hv) λcv h6 hq=>?_)));obtain⟨xs,sx,hxa,x6⟩:=hq;refine bF (M0) ?_;have X6:=X5.trans (x6.mono X5.nx);have n6:=x6.nx;have f6:h6.get h0.next=some (.cells [.int .i64 0,.int .i64 0,.nils] 3 false):=by rw[x6.gt _ om];exact f5
  have lx:=sx.len;rw[ah]at lx;obtain⟨sc,so⟩:=sx.cells;refine ae (ar (M1 lx) ?_);refine dY (t:=decide (0<xs.length)) (by simp only[am,aD,simprocAttr];exact congrArg AV.bool (by simp only[decide_eq_decide];omega)) (λq=>?_) λq=>?_
  .have q:0<xs.length:=bN q;obtain⟨h8,w8,r8,hc,X8⟩:=hend h6 15 0 cv f6 X6 ⟨λh=>om,λh=>by
    exfalso;have:=hxa.2 h.2.2.2.1;subst this;simp at q⟩
   refine ae (ar (by simp only[am,aD,simprocAttr,e2,sc,so,w8]<;>rfl) ?_);exact bG ⟨_,(by simp only[rs,rf18,am,aD,simprocAttr,e2,r8]<;>rfl),hc,X8⟩
  have q:¬0<xs.length:=cM q;have hacy:=hxa.1 (aY.1 om);refine bK ?_;have hv6:=hv.ext x6;refine ae (ae (bM (aV 1 (M0) rfl (Z0) (M0) (zE hv6) λsv h7 hq=>?_)));obtain⟨is,x7⟩:=hq;refine bF (M0) ?_;have X7:=X6.trans (x7.mono X6.nx);have f7:h7.get h0.next=some (.cells [.int .i64 0,.int .i64 0,.nils] 3 false):=by rw[x7.gt _ om];exact f6
  have ss:SlI h7 sv (rM nn es):=LY om (λ_=>rfl) is;have ls:=ss.len;rw[ah]at ls;refine ae (ar (M1 ls) ?_);refine dY (t:=decide (1<(rM nn es).length)) (by simp only[am,aD,simprocAttr];exact congrArg AV.bool (by simp only[decide_eq_decide];omega)) (λq2=>?_) λq2=>?_
  .have q2:1<(rM nn es).length:=bN q2;rcases is with⟨rfl,hz⟩|⟨sb,sn,hsb,rfl,hsg,hsl⟩
   .exfalso;have:=congrArg List.length hz;rw[fy,aK]at this;omega
   have hsn:sn=(rM nn es).length:=by rw[fy]at hsl;omega
   have s2:slV h7 1 (.sl sb 0 sn sn) none (some (.int .i64 2)) (some (.int .i64 2))=some (.sl sb 0 2 2):=by
    have h1:bnd (.int .i64 2) sn=some 2:=iA (k:=.i64) (n:=2) (y:=sn) om;have h2:bnd (.int .i64 2) 2=some 2:=iA (k:=.i64) (n:=2) (y:=2) om;simp only[slV,hsg,if_true,qW,h1,h2,aF];simp
   obtain⟨h8,w8,r8,hc,X8⟩:=hend h7 16 0 (.sl sb 0 2 2) f7 X7 ⟨λh=>om,λh=>by
    exfalso;have:=h.2.2.2.2;rw[bU]at this;omega⟩
   refine ae (ar (by simp only[am,aD,simprocAttr,cY,bh,s2,e2,w8]<;>rfl) ?_);exact bG ⟨_,(by simp only[rs,rf18,am,aD,simprocAttr,e2,r8]<;>rfl),hc,X8⟩
  .have q2:¬1<(rM nn es).length:=cM q2;obtain⟨h8,w8,r8,hc,X8⟩:=hend h7 0 0 .nils f7 X7 ⟨λ_=>⟨hm,hloop,j3,hacy,by rw[bU];omega⟩,λ_=>rfl⟩;refine bK (ae (ar (M2 e2 w8) ?_));exact bG ⟨_,(by simp only[rs,rf18,am,aD,simprocAttr,e2,r8]<;>rfl),hc,X8⟩
open Go.Am
abbrev It:=Int×Int×Int
def fG(x:Int):List It->Nat->Int×Int×Int->Int×Int×Int
 |[],_,s=>s
 |it::r,i,s=>fG x r (i+1) (if it.2.2=x then(if s.1=-1 then((i:Nat):Int)else s.1,((i+1:Nat):Int),s.2.2+1)else s)
def eH(x:Int)(row:List It):Int×Int×Int:=fG x row 0 (-1,0,0)
theorem xF(x:Int):∀(row:List It) (i:Nat) (s:Int×Int×Int),(s.1=-1/\s.2.1=0/\s.2.2=0\/0<=s.1/\s.1<s.2.1/\s.2.1<=i/\0<s.2.2/\s.2.2<=i) ->
 ((fG x row i s).1=-1/\(fG x row i s).2.1=0/\(fG x row i s).2.2=0\/0<=(fG x row i s).1/\(fG x row i s).1<(fG x row i s).2.1/\(fG x row i s).2.1<=((i+row.length:Nat):Int)/\0<(fG x row i s).2.2/\(fG x row i s).2.2<=((i+row.length:Nat):Int))
 |[],i,s,h=>by
   rcases h with h|h
   .exact .inl h
   .exact .inr (by simpa[fG]using h)
 |it::r,i,s,h=>by
   unfold fG;have:=xF x r (i+1) (if it.2.2=x then(if s.1=-1 then((i:Nat):Int)else s.1,((i+1:Nat):Int),s.2.2+1)else s) (by
    split
    .right;simp only;split<;>omega
    .rcases h with h|h
     .exact .inl h
     .exact .inr om)
   rw[show i+1+r.length=i+(it::r).length by simp only[aq];omega]at this;exact this
theorem xE(x:Int)(row:List It):((eH x row).1=-1/\(eH x row).2.1=0/\(eH x row).2.2=0)\/(0<=(eH x row).1/\(eH x row).1<(eH x row).2.1/\(eH x row).2.1<=(row.length:Nat)/\0<(eH x row).2.2/\(eH x row).2.2<=(row.length:Nat)):=by
 have:=xF x row 0 (-1,0,0) (.inl ⟨rfl,rfl,rfl⟩);rw[bL]at this;exact this
variable {row:List It}
theorem Bh(hb:h.get b=some (.cells (iv::rest) 3 false))(hv:SlT h iv row)(hl:row.length<2^30) :
 C prg 26 [.ptr b 0,.int .i64 x] h λr h'=>r=.tup [.int .i64 (eH x row).1,.int .i64 (eH x row).2.1,.int .i64 (eH x row).2.2]/\Ext h.next h h':=by
 refine Me pf26 ?_;have r1:ak h b 0 1=some [iv]:=br hb rfl;have el:=hv.len;rw[ah]at el;refine ae (ar (Mi0) ?_);refine ae (ar (Mi0) ?_);refine ae (ae (ar (Mi2 r1 el) ?_))
 refine fj (α:=Int×Int×Int) (N:=row.length) (λ_ a=>[(1,.int .i64 x),(12,iv),(4,.int .i64 a.1),(5,.int .i64 a.2.1),(6,.int .i64 a.2.2)])
  (λk a h'=>fG x (row.drop k) k a=eH x row/\-1<=a.1/\a.1<=k/\0<=a.2.2/\a.2.2<=k/\Ext h.next h h') (-1,0,0) (λ_ _=>rfl) om (Oi0) ⟨rfl,by decide,by decide,by decide,by decide,Mc⟩ ?_ ?_
 .rintro k ⟨f,t,c⟩ ts h1 hk ⟨j1,j2,j3,j4,j5,jx⟩ ⟨ei,en,e1,e12,e4,e5,e6,-⟩;simp only at ei en e1 e12 e4 e5 e6 j1 j2 j3 j4 j5;obtain⟨b1,p1,a1,r4,_⟩:=(hv.ext jx (ab _)).at (eJ (f:=eT) hk);obtain⟨h6,w6,x6,g6,n6⟩:=iB (h:=h1) (z:=[.int .i64 0,.int .i64 0,.int .i64 0]) (cs:=[.int .i64 row[k].1,.int .i64 row[k].2.1,.int .i64 row[k].2.2]) (e:=3) rfl;refine ae (ar (by simp only[am,aD,simprocAttr,e12,ei,a1,r4,eT,w6]<;>rfl) ?_);have r6:ak h6 h1.next 2 1=some [.int .i64 row[k].2.2]:=br g6 rfl;have X6:=jx.trans (x6.mono jx.nx);rw[bT hk]at j1;unfold fG at j1;refine ae (ae (ar (M2 e1 r6) ?_));refine dY (t:=!decide (row[k].2.2=x)) (Z0) (λq=>?_) λq=>?_
  .have q:¬row[k].2.2=x:=by simpa using q
   rw[if_neg q]at j1;refine fh ⟨λ_=>⟨(f,t,c),⟨j1,j2,by simp only;omega,j4,by simp only;omega,X6⟩,O7 ei en e1 e12 e4 e5 e6⟩,λe=>absurd rfl e⟩
  .have q:row[k].2.2=x:=by simpa using q
   rw[if_pos q]at j1;refine bK ?_;have w1:IntKind.i64.wrap (((k:Nat):Int)+1)=((k+1:Nat):Int):=fW om om;have w2:IntKind.i64.wrap (c+1)=c+1:=fW om om;refine ae (ae (ar (M1 e4) ?_));refine dY (t:=decide (f=-1)) (Z0) (λq2=>?_) λq2=>?_
   .have q2:f=-1:=bN q2;rw[if_pos q2]at j1;refine ar (M0) ?_;refine ae (ar (M1 w1) ?_);refine ar (M2 e6 w2) ?_;exact⟨(((k:Nat):Int),((k+1:Nat):Int),c+1),⟨j1,by simp only;omega,by simp only;omega,by simp only;omega,by simp only;omega,X6⟩,O4 ei en e1 e12⟩
   .have q2:¬f=-1:=cM q2;rw[if_neg q2]at j1;refine bK ?_;refine ae (ar (M1 w1) ?_);refine ar (M2 e6 w2) ?_;exact⟨(f,((k+1:Nat):Int),c+1),⟨j1,by simp only;omega,by simp only;omega,by simp only;omega,by simp only;omega,X6⟩,O5 ei en e1 e12 e4⟩
 .rintro⟨f,t,c⟩ ts h1 ⟨j1,j2,j3,j4,j5,jx⟩ ⟨e1,e12,e4,e5,e6,-⟩;simp only at e1 e12 e4 e5 e6 j1;rw[List.drop_length]at j1;have j1:(f,t,c)=eH x row:=j1;rw[<-j1];refine ae (ar (M3 e4 e5 e6) ?_);exact bG ⟨_,(by simp only[rs,rf26,am,aD,simprocAttr]<;>rfl),rfl,jx⟩
theorem HC{s:Nat}{it:It}(hs:ak h s 0 1=some [.int .i64 x])(hsn:s<h.next):C prg 88 ([.agg (eT it)]++[.ptr s 0]) h λr h'=>r=.bool (decide (it.2.2≠x/\it.2.2≠-1))/\Ext h.next h h':=by
 refine Me pf88 ?_;refine ae (ar (by simp only[am,aD,simprocAttr,bE,eT]<;>rfl) ?_);have ex:Ext h.next h (h.new (.cells [.int .i64 it.1,.int .i64 it.2.1,.int .i64 it.2.2] 3 false)):=Mb (ab _);have g:(h.new (.cells [.int .i64 it.1,.int .i64 it.2.1,.int .i64 it.2.2] 3 false)).get h.next=some (.cells [.int .i64 it.1,.int .i64 it.2.1,.int .i64 it.2.2] 3 false):=by rw[AH.get_new,if_pos rfl]
 generalize h.new (.cells [.int .i64 it.1,.int .i64 it.2.1,.int .i64 it.2.2] 3 false)=h1 at *
 have r1:ak h1 h.next 2 1=some [.int .i64 it.2.2]:=br g rfl;have r2:ak h1 s 0 1=some [.int .i64 x]:=by rw[<-hs];exact cS (ex.gt _ hsn)
 by_cases q1:it.2.2=x
 .have c1:decide (it.2.2=x)=true:=bj q1;refine ae (ar (Mi3 r1 r2 c1) ?_);exact bG ⟨.bool false,(by simp only[rs,rf88,am,aD,simprocAttr]<;>rfl),by simp[q1],ex⟩
 .have c1:decide (it.2.2=x)=false:=aN q1;refine ae (ar (Mi3 r1 r2 c1) ?_);refine bG ⟨.bool (!decide (it.2.2=-1)),(by simp only[rs,rf88,am,aD,simprocAttr]<;>rfl),by simp[q1],ex⟩
def vk(x:Int)(row:List It):Bool:=!row.any λit=>decide (it.2.2≠x/\it.2.2≠-1)
theorem HA{lo hi:Nat}(hb:h.get b=some (.cells (iv::rest) 3 false))(hv:SlT h iv row)(hl:row.length<2^30)(hlo:lo<=hi)(hhi:hi<=row.length) :
 C prg 57 [.ptr b 0,.int .i64 x,.int .i64 (lo:Nat),.int .i64 (hi:Nat)] h λr h'=>r=.bool (vk x ((row.drop lo).take (hi-lo)))/\Ext h.next h h':=by
 refine Me pf57 ?_;refine ae (ar (Mi0) ?_);have ex:Ext h.next h (h.new (.cells [.int .i64 x] 1 false)):=Mb (ab _);have g:(h.new (.cells [.int .i64 x] 1 false)).get h.next=some (.cells [.int .i64 x] 1 false):=by rw[AH.get_new,if_pos rfl]
 have n1:(h.new (.cells [.int .i64 x] 1 false)).next=h.next+1:=rfl;generalize h.new (.cells [.int .i64 x] 1 false)=h1 at *
 have r1:ak h1 b 0 1=some [iv]:=br (by rw[ex.gt _ (AH.lt_of_get hb)];exact hb) rfl;obtain⟨v',s1,s2,_⟩:=(hv.ext ex (ab _)).part hlo (by rw[ah];exact hhi);rw[<-ez,<-ew]at s2;refine ae (bM (aV 8 (by simp only[am,aD,simprocAttr,bE,r1,cY,bh,s1]<;>rfl) rfl (by simp only[am,aD,simprocAttr,bE,r1,cY,bh,s1]) (by simp only[am,aD,simprocAttr,bE,r1,cY,bh,s1]<;>rfl) (DJ (P:=λit=>decide (it.2.2≠x/\it.2.2≠-1)) s2 (by rw[bB,cH];omega) (λit _ h' hx=>HC (by rw[cS (hx.gt _ om)];exact br g rfl) (by have:=hx.nx;omega))) λr h3 hq=>?_));obtain⟨rfl,x3⟩:=hq;refine bF (M0) ?_;exact bG ⟨_,(by simp only[rs,rf57,am,aD,simprocAttr]<;>rfl),rfl,ex.trans (x3.mono ex.nx)⟩
end Go.Proofs.YtmibmlioidpogaaGreatDoor
