/- join.part, called. -/
import Derived.Test.YtklpoimdclflmaaGreatDoorTTAL
set_option linter.all false
namespace Go.Proofs.YtklpoimdclflmaaGreatDoor
open Go.Am
def vd{h:AH}{pb:Nat}{a0 a1 nv a3:AV}{xs:List Int}{x:Int}(hg:h.get pb=some (.cells [a0,a1,nv,a3] 4 false))(hv:SlI h nv xs)(hs:xs.Pairwise (·<=·))(hxl:xs.length<2^40) :
 C prg 46 [.ptr pb 0,.int .i64 x] h λr h'=>r=.tup [.int .i64 ((xs.countP (λu=>decide (u<x)):Nat):Int),.bool (decide (x∈xs))]/\h'=h:=by
 refine Oj rfl ?_;refine ae (ak (Mi0) ?_);have r2:ai h pb 2 1=some [nv]:=bq hg rfl;refine ae (bM (bj 5 (Mi1 r2) rfl (Zi1 r2) (Mi1 r2) (qN (t:=x) hv hs hxl) λr h2 hq=>?_));obtain⟨rfl,rfl⟩:=hq;refine bI (M0) ?_;exact bu ⟨_,(by simp only[rs,rf46,am,aL,simprocAttr]<;>rfl),rfl,rfl⟩
set_option maxHeartbeats 2000000 in
def IB{h:AH}{n:Int}{ev iv:AV}{E:List (Int×Int)}{es:List Int}(he:SlE h ev E)(hi:SlI h iv es)(hm:fC n E=true)(hes:∀i∈es,0<=i/\i<(E.length:Nat))(hne:es≠[])(hil:es.length<2^30) :
 C prg 30 [.agg [.int .i64 n,ev],iv] h λr h'=>Ext h.next h h'/\∃edv nmv,r=.agg [.int .i64 ((vsM n.toNat E es).length:Nat),edv,nmv,iv]/\IsSl h' 2 h.next edv ((fo n.toNat E es).flatMap eE)/\SlI h' nmv (vsM n.toNat E es)/\∀b o m c,nmv=.sl b o m c->h.next<=b:=by
 have el:=he.len;have il:=hi.len;rw[ah]at el il;obtain⟨ec,eo⟩:=he.cells;obtain⟨ic,io⟩:=hi.cells;have hxl:E.length<=128:=by
  have:=hm;unfold fC at this;simp only[aU,aK]at this;exact this.1.2
 refine Oj rfl ?_;refine ae (ak (Mi0) ?_);have ga:∀c,((h.new (.cells [.int .i64 n,ev] 2 false)).new (.cells [.int .i64 0,.nils,.nils,.nils] 4 false)).get c=if c=h.next+1 then some (.cells [.int .i64 0,.nils,.nils,.nils] 4 false)else if c=h.next then some (.cells [.int .i64 n,ev] 2 false)else h.get c:=λc=>by
  rw[AH.get_new,AH.get_new];rfl
 have x0:Ext h.next h ((h.new (.cells [.int .i64 n,ev] 2 false)).new (.cells [.int .i64 0,.nils,.nils,.nils] 4 false)):=(Oe (ab _)).trans (Oe (by simp));have n0:((h.new (.cells [.int .i64 n,ev] 2 false)).new (.cells [.int .i64 0,.nils,.nils,.nils] 4 false)).next=h.next+2:=rfl;generalize ((h.new (.cells [.int .i64 n,ev] 2 false)).new (.cells [.int .i64 0,.nils,.nils,.nils] 4 false))=h1 at *
 have gA:h1.get h.next=some (.cells [.int .i64 n,ev] 2 false):=by rw[ga,if_neg om,if_pos rfl]
 have gB:h1.get (h.next+1)=some (.cells [.int .i64 0,.nils,.nils,.nils] 4 false):=by rw[ga,if_pos rfl]
 obtain⟨h2,w2,x2,g2,n2⟩:=gD (h:=h1) (z:=[.int .i64 0,.nils,.nils,.nils]) (cs:=[.int .i64 0,.nils,.nils,iv]) (e:=4) rfl;rw[n0]at w2 x2 g2 n2;refine ae (ak (by simp only[am,aL,simprocAttr,bV,n0,ic,io,w2,eH]<;>rfl) ?_);have X2:Ext h.next h h2:=x0.trans (x2.mono om);have gA2:h2.get h.next=some (.cells [.int .i64 n,ev] 2 false):=by rw[x2.gt _ om];exact gA
 have gB2:h2.get (h.next+1)=some (.cells [.int .i64 0,.nils,.nils,.nils] 4 false):=by rw[x2.gt _ om];exact gB
 have he2:=he.ext X2 (ab _);have hi2:=hi.ext X2 (ab _);clear w2 ga;refine ae (ae (ak (by simp only[am,aL,simprocAttr,bV,il]<;>rfl) ?_))
 refine fi (α:=AV) (N:=es.length) (λ_ _=>[(1,iv),(2,.ptr h.next 0),(4,.ptr (h.next+1) 0),(5,.ptr (h.next+2) 0),(16,iv)])
  (λk a h'=>Ext (h.next+2) h2 h'/\h.next+3<=h'.next/\h'.get (h.next+2)=some (.cells [.int .i64 0,.nils,a,iv] 4 false)/\IsSl h' 1 (h.next+3) a ((iG E (es.take k)).flatMap eI)) .nils (λ_ _=>rfl) om (Hi1 n0)
  ⟨Oh,om,g2,.inl ⟨rfl,by simp[iG]⟩⟩ ?_ ?_
 .rintro k a ts h3 hk ⟨jx,jn,jg,ja⟩ ⟨e18,e17,e1,e2,e4,e5,e16,-⟩;simp only at e18 e17 e1 e2 e4 e5 e16 jg;have X3:Ext h.next h h3:=X2.trans (jx.mono om);have he3:=he.ext X3 (ab _);have hi3:=hi.ext X3 (ab _);obtain⟨b1,p1,a1,r1,_⟩:=hi3.at1 (cm (f:=eI) hk);refine ae (ak (M4 e18 e16 a1 r1) ?_);have hin:=hes _ (ar hk);obtain⟨m,hmk⟩:∃m:Nat,es[k]=m:=⟨es[k].toNat,om⟩
  have hml:m<E.length:=om;have hk5:∀c,c<h3.next->(h3.keep 1).get c=h3.get c:=λc hc=>by rw[AH.keep_get,if_neg om]
  have q7:(h3.keep 1).get h3.next=some .resv:=ff;have he5:SlE (h3.keep 1) ev E:=he3.cong λb o m c hb=>hk5 _ (he3.lt hb);obtain⟨eb1,ep,a7,_,r7,_⟩:=he5.at (cm (f:=eE) hml);have r70:=r7 0 (.int .i64 E[m].1) rfl;have r71:=r7 1 (.int .i64 E[m].2) rfl;have gA3:h3.get h.next=some (.cells [.int .i64 n,ev] 2 false):=by rw[jx.gt _ om];exact gA2
  have re:ai (h3.keep 1) h.next 1 1=some [ev]:=by rw[bi (hk5 _ om)];exact bq gA3 rfl
  have rn:ai (h3.keep 1) (h.next+2) 2 1=some [a]:=by rw[bi (hk5 _ om)];exact bq jg rfl
  obtain⟨p1',p2,p3,p4⟩:=fO (h:=h3) (o:=.cells [.int .i64 E[m].1,.int .i64 E[m].2] 1 false);have hlenk:((iG E (es.take k)).flatMap eI).length=2*k:=by
   rw[dE (f:=eI) (e:=1) (λ_=>rfl),vC,aS,cD om];omega
  obtain⟨s',h6,a6,i6,x6,hs6,n6⟩:=appN (bytes:=8) (m:=2) (x:=h3.next) (ja.ext p1' (ab _)) (by rw[p3];omega) om om p2 rfl rfl
   (by rw[hlenk,dN];unfold bf;omega) (by rw[hlenk,dN];unfold bf;omega)
  rw[eB]at r70;have rp2:cq [AV.int .i64 0] 2=[.int .i64 0,.int .i64 0]:=rfl;obtain⟨sc,so⟩:=i6.cells;have g6:h6.get (h.next+2)=some (.cells [.int .i64 0,.nils,a,iv] 4 false):=by rw[x6.gt _ om,p4 _ om];exact jg
  have w6:=ew (v:=s') g6 (i:=2) (by simp);change bP h6 (h.next+2) 2 [s']=some (h6.put (h.next+2) (.cells [.int .i64 0,.nils,s',iv] 4 false))at w6;have u6:=Oi (o:=.cells [.int .i64 0,.nils,s',iv] 4 false) g6;refine lY (by simp only[am,aL,simprocAttr,hmk,e2,e5,re,rn,a7,r70,r71,eA,dR q7,rp2,a6,sc,so,w6]<;>rfl) ?_;refine⟨s',⟨jx.trans ((p1'.mono om).trans ((x6.mono om).trans (u6.ext (ab _)))),by rw[u6.nx,n6,p3];omega,u6.get,?_⟩,H7 e18 e17 e1 e2 e4 e5 e16⟩;rw[FY hk,Jo hmk hml,br];exact i6.upd u6 om
 rintro a ts h3 ⟨jx,jn,jg,ja⟩ ⟨e1,e2,e4,e5,e16,-⟩;simp only at e1 e2 e4 e5 e16 jg ja;rw[bt]at ja;have hnm:=HV hm hes;have hel:=vC E es;have hes0:0<es.length:=List.length_pos_iff.2 hne;generalize iG E es=xs at *
 rcases ja with⟨rfl,hz⟩|⟨b,m,hbn,rfl,hg,hln⟩
 .have:xs.length=0:=by
   have:=congrArg List.length hz;rw[dE (f:=eI) (e:=1) (λ_=>rfl)]at this;simpa using this
  omega
 have hmn:m=xs.length:=by rw[dE (f:=eI) (e:=1) (λ_=>rfl)]at hln;omega
 subst hmn;have e1':xs.flatMap eI=iR xs.toArray:=mU xs;have hg':h3.get b=some (jT (xs.flatMap eI) 0 xs.toArray):=by
  rw[hg];unfold jT;rw[e1'];congr 2;exact(oO (by simp) (by rw[df,bt])).symm
 have hb3:=AH.lt_of_get hg;have hsrt:=DE (c:=xs.length) hg' (by rw[dg,hln];omega) (by rw[dg];omega);rw[dg]at hsrt;have rp3:ai h3 (h.next+2) 2 1=some [.sl b 0 xs.length xs.length]:=bq jg rfl;refine ae (bM (bj 2 (M2 e5 rp3) rfl (Z2 e5 rp3) (M2 e5 rp3) (hsrt) λv h4 hq=>?_));refine bI (M0) ?_;have jn4:=hq.nx;have hg4:=hq.get;rw[show(xs.toArray.toList.mergeSort λx y=>decide (x<=y))=fQ xs from rfl]at hg4;have hcp:=CR (c:=xs.length) hg4 (by rw[dg,gH,hln];omega) (by rw[dg,gH];omega) (by rw[dg,gH];omega);rw[dg,gH]at hcp;have jg4:h4.get (h.next+2)=some (.cells [.int .i64 0,.nils,.sl b 0 xs.length xs.length,iv] 4 false):=by rw[hq.gt _ om om];exact jg
 have rp4:ai h4 (h.next+2) 2 1=some [.sl b 0 xs.length xs.length]:=bq jg4 rfl;refine ae (bM (bj 2 (M2 e5 rp4) rfl (Z2 e5 rp4) (M2 e5 rp4) (hcp) λv h5 hq5=>?_));obtain⟨d',m,rfl,hm1,hm2,u5,hd⟩:=hq5;rw[BJ]at hd;rw[hnm]at hd;have jg5:h5.get (h.next+2)=some (.cells [.int .i64 0,.nils,.sl b 0 xs.length xs.length,iv] 4 false):=by rw[u5.ne om];exact jg4
 have w5:=ew (v:=.sl b 0 m xs.length) jg5 (i:=2) (by simp);change bP h5 (h.next+2) 2 [.sl b 0 m xs.length]=some (h5.put (h.next+2) (.cells [.int .i64 0,.nils,.sl b 0 m xs.length,iv] 4 false))at w5;have u6:=Oi (o:=.cells [.int .i64 0,.nils,.sl b 0 m xs.length,iv] 4 false) jg5;refine bI (M2 e5 w5) ?_;generalize h5.put (h.next+2) (.cells [.int .i64 0,.nils,.sl b 0 m xs.length,iv] 4 false)=h6 at *
 have n5:=u5.nx;have n6:=u6.nx;have hvl:(vsM n.toNat E es).length=m:=by rw[<-hd,aS,bU,hm2];omega
 have gb6:h6.get b=h5.get b:=u6.ne om;have sV:SlI h6 (.sl b 0 m xs.length) (vsM n.toNat E es):=by
  rw[<-hd];exact MF (by rw[gb6];exact u5.get) (by rw[hm2,hln];omega) om om
 have lV:=sV.len;rw[ah]at lV;have rp6:ai h6 (h.next+2) 2 1=some [.sl b 0 m xs.length]:=bq u6.get rfl;have w7:=ew (v:=.int .i64 ((vsM n.toNat E es).length:Nat)) u6.get (i:=0) (by simp);change bP h6 (h.next+2) 0 [.int .i64 ((vsM n.toNat E es).length:Nat)]=some (h6.put (h.next+2) (.cells [.int .i64 ((vsM n.toNat E es).length:Nat),.nils,.sl b 0 m xs.length,iv] 4 false))at w7;have u7:=Oi (o:=.cells [.int .i64 ((vsM n.toNat E es).length:Nat),.nils,.sl b 0 m xs.length,iv] 4 false) u6.get;refine ae (ak (M4 e5 rp6 lV w7) ?_);generalize h6.put (h.next+2) (.cells [.int .i64 ((vsM n.toNat E es).length:Nat),.nils,.sl b 0 m xs.length,iv] 4 false)=h7 at *
 have n7:=u7.nx;have sV7:SlI h7 (.sl b 0 m xs.length) (vsM n.toNat E es):=sV.cong λb' o' l' c' e=>by cases e;exact u7.ne om
 have hb7:=sV7.lt rfl;have K7:Ext (h.next+2) h2 h7:=jx.trans ((Ext.mono (hq.mono (m:=b) om |>.toExt (ab _)) om).trans ((u5.ext om).trans ((u6.ext (ab _)).trans (u7.ext (ab _)))));have hvs:=(tf n.toNat E es).imp (fun {a b} (q:a<b)=>GI q);have hvlen:(vsM n.toNat E es).length<=2^34:=by rw[hvl];omega
 clear jg4 jg5 w5 w7 rp3 rp4 rp6 u5 u6 gb6 sV hg hg' hg4 hq jg;have g7:=u7.get;have n71:h.next+3<=h7.next:=om;clear u7;refine ae ?_;refine ae (ak (by simp only[am,aL,simprocAttr,e1,il]<;>rfl) ?_)
 refine fi (α:=AV) (N:=es.length) (λ_ _=>[(2,.ptr h.next 0),(4,.ptr (h.next+1) 0),(5,.ptr (h.next+2) 0),(52,iv)])
  (λk a h'=>Ext (h.next+2) h2 h'/\h7.next<=h'.next/\(∀c,c<h7.next->c≠h.next+2->h'.get c=h7.get c)/\h'.get (h.next+2)=some (.cells [.int .i64 ((vsM n.toNat E es).length:Nat),a,.sl b 0 m xs.length,iv] 4 false)/\IsSl h' 2 h7.next a (((es.take k).map λi=>(((dn n.toNat E es (edM E i).1:Nat):Int),((dn n.toNat E es (edM E i).2:Nat):Int))).flatMap eE)) .nils (λ_ _=>rfl) om (H3 e2 e4 e5)
  ⟨K7,ab _,λ_ _ _=>rfl,g7,.inl ⟨rfl,by simp⟩⟩ ?_ ?_
 .clear e1 e2 e4 e5 e16;rintro k a ts h8 hk ⟨kx,kn,kk,kg,ka⟩ ⟨e54,e53,e2,e4,e5,e52,-⟩;simp only at e54 e53 e2 e4 e5 e52 kg ka;have X8:Ext h.next h h8:=X2.trans (kx.mono om);have he8:=he.ext X8 (ab _);have hi8:=hi.ext X8 (ab _);have sV8:SlI h8 (.sl b 0 m xs.length) (vsM n.toNat E es):=sV7.cong λb' o' l' c' e=>by
   cases e;exact kk _ hb7 om
  have gA8:h8.get h.next=some (.cells [.int .i64 n,ev] 2 false):=by rw[kx.gt _ om];exact gA2
  have rA8:ai h8 h.next 1 1=some [ev]:=bq gA8 rfl;obtain⟨b1,p1,a1,r1,_⟩:=hi8.at1 (cm (f:=eI) hk);have hin:=hes _ (ar hk);obtain⟨z,hz⟩:∃z:Nat,es[k]=z:=⟨es[k].toNat,om⟩
  have hzl:z<E.length:=om;rw[hz]at r1;obtain⟨eb1,ep,a7,_,r7,_⟩:=he8.at (cm (f:=eE) hzl);have r70:=r7 0 (.int .i64 E[z].1) rfl;have r71:=r7 1 (.int .i64 E[z].2) rfl;rw[eB]at r70;refine ae (ak (M4 e52 e54 a1 r1) ?_);refine ae (bM (bj 6 (M5 e2 e5 rA8 a7 r70) rfl (Z5 e2 e5 rA8 a7 r70) (M5 e2 e5 rA8 a7 r70) (vd (x:=E[z].1) kg sV8 hvs om) λr h9 hq8=>?_));obtain⟨rfl,rfl⟩:=hq8;refine bI (M0) ?_;refine ae (bM (bj 6 (M5 e2 e5 rA8 a7 r71) rfl (Z5 e2 e5 rA8 a7 r71) (M5 e2 e5 rA8 a7 r71) (vd (x:=E[z].2) kg sV8 hvs om) λr h10 hq9=>?_));obtain⟨rfl,rfl⟩:=hq9;refine bI (M0) ?_;have ed:edM E es[k]=E[z]:=Jo hz hzl;have hst:=zM (n:=n.toNat) (E:=E) (F:=es) hk;rw[ed]at hst;have r9:ai h10 (h.next+2) 1 1=some [a]:=bq kg rfl;have hlenk:(((es.take k).map λi=>(((dn n.toNat E es (edM E i).1:Nat):Int),((dn n.toNat E es (edM E i).2:Nat):Int))).flatMap eE).length=k*2:=by
   rw[dE (f:=eE) (e:=2) (λ_=>rfl),ah,aS,cD om]
  obtain⟨s',h11,a11,i11,x11,n11⟩:=ka.push (bytes:=16) [.int .i64 ((dn n.toNat E es E[z].1:Nat):Int),.int .i64 ((dn n.toNat E es E[z].2:Nat):Int)] om om rfl rfl
   (by rw[hlenk,cQ _ om];unfold bf;omega) (by rw[hlenk,cQ _ om];unfold bf;omega)
  have g11:h11.get (h.next+2)=some (.cells [.int .i64 ((vsM n.toNat E es).length:Nat),a,.sl b 0 m xs.length,iv] 4 false):=by rw[x11.gt _ om];exact kg
  obtain⟨sc,so⟩:=i11.cells;have w11:=ew (v:=s') g11 (i:=1) (by simp);change bP h11 (h.next+2) 1 [s']=some (h11.put (h.next+2) (.cells [.int .i64 ((vsM n.toNat E es).length:Nat),s',.sl b 0 m xs.length,iv] 4 false))at w11;have u11:=Oi (o:=.cells [.int .i64 ((vsM n.toNat E es).length:Nat),s',.sl b 0 m xs.length,iv] 4 false) g11;change gh (h10.new (.cells [.int .i64 (((vsM n.toNat E es).countP λu=>decide (u<E[z].1):Nat):Int),.int .i64 (((vsM n.toNat E es).countP λu=>decide (u<E[z].2):Nat):Int)] 2 false)) 2 16 a (.sl h10.next 0 1 1)=some (s',h11)at a11;refine ak (by simp only[am,aL,simprocAttr,e5,r9,a11,w11,sc,so]<;>rfl) ?_;refine⟨s',⟨kx.trans ((x11.mono om).trans (u11.ext (ab _))),by rw[u11.nx];omega,λc hc hne=>by rw[u11.ne hne,x11.gt _ om];exact kk c hc hne,u11.get,?_⟩,H6 e54 e53 e2 e4 e5 e52⟩;rw[hst,br];exact i11.cong λb n _ hb=>u11.ne om
 .clear e1 e2 e4 e5 e16;rintro a ts h8 ⟨kx,kn,kk,kg,ka⟩ ⟨e2,e4,e5,e52,-⟩;simp only at e2 e4 e5 kg ka;rw[bt]at ka;obtain⟨ac,ao⟩:=ka.cells;have gB8:h8.get (h.next+1)=some (.cells [.int .i64 0,.nils,.nils,.nils] 4 false):=by rw[kx.gt _ om];exact gB2
  have rg:ai h8 (h.next+2) 0 4=some [.int .i64 ((vsM n.toNat E es).length:Nat),a,.sl b 0 m xs.length,iv]:=by rw[aR kg];rfl
  have u9:=Oi (o:=.cells [.int .i64 ((vsM n.toNat E es).length:Nat),a,.sl b 0 m xs.length,iv] 4 false) gB8;have w9:bP h8 (h.next+1) 0 [.int .i64 ((vsM n.toNat E es).length:Nat),a,.sl b 0 m xs.length,iv]=some (h8.put (h.next+1) (.cells [.int .i64 ((vsM n.toNat E es).length:Nat),a,.sl b 0 m xs.length,iv] 4 false)):=by rw[dw gB8];rfl
  refine ae (ak (M6 e4 e5 rg ao io w9) ?_);have rB:ai (h8.put (h.next+1) (.cells [.int .i64 ((vsM n.toNat E es).length:Nat),a,.sl b 0 m xs.length,iv] 4 false)) (h.next+1) 0 4=some [.int .i64 ((vsM n.toNat E es).length:Nat),a,.sl b 0 m xs.length,iv]:=by rw[aR u9.get];rfl
  refine bu ⟨_,(by simp only[rs,rf30,am,aL,simprocAttr,e4,rB]<;>rfl),X2.trans ((kx.mono om).trans (u9.ext om)),a,_,rfl,?_,?_,λb o m c e=>by cases e;omega⟩
  .exact(ka.cong λb n _ hb=>u9.ne om).mono om
  .exact sV7.cong λb' o' l' c' e=>by
    cases e;rw[u9.ne om,kk _ hb7 om]
end Go.Proofs.YtklpoimdclflmaaGreatDoor
namespace Go.Blk
variable {g:Gr}
def Nw(s s':DS)(v:Nat):Prop:=s.num v=0/\s'.num v≠0
structure Pre(g:Gr)(an:List Nat)(x:Nat)(by_:Option Nat)(s:DS):Prop where
 hx:x<g.n
 x0:s.num x=0
 gray:∀a∈an,s.num a≠0
 black:∀v,s.num v≠0->v∉an->∀i,g.inc i v->s.num (g.oth i v)≠0
 le:∀v,s.num v<=s.cnt
 inj:∀u v,s.num u=s.num v->s.num u≠0->u=v
 chain:∀z,z∉an->∀a∈an,∀b∈an,Conn g (·≠z) a b
 by1:∀b,by_=some b->g.inc b x/\g.oth b x∈an
 by0:by_=none->an=[]
 stk:∀j∈s.stk,some j≠by_->∀v,g.inc j v->s.num v≠0
structure Com(g:Gr)(x:Nat)(by_:Option Nat)(s s':DS)(new:List Nat)(bs:List (List Nat)):Prop where
 keep:∀v,s.num v≠0->s'.num v=s.num v
 numx:s'.num x=s.cnt+1
 newn:∀v,Nw s s' v->s.cnt<s'.num v
 cnt:s.cnt<s'.cnt
 le:∀v,s'.num v<=s'.cnt
 inj:∀u v,s'.num u=s'.num v->s'.num u≠0->u=v
 conn:∀u,Nw s s' u->Conn g (Nw s s') x u
 lowk:∀v,¬Nw s s' v->s'.low v=s.low v
 lowle:s'.low x<=s'.num x
 lowpos:0<s'.low x
 stk:s'.stk=s.stk++new
 blk:s'.blk=s.blk++bs
 nd:(new++bs.flatten).Nodup
 cls:∀i∈new,∃b,by_=some b/\Cls g i b
 blks:∀b∈bs,IsBlock g b
structure Post(g:Gr)(x:Nat)(by_:Option Nat)(s s':DS)(new:List Nat)(bs:List (List Nat)):Prop extends Com g x by_ s s' new bs where
 black:∀u,Nw s s' u->∀i,g.inc i u->s'.num (g.oth i u)≠0
 lowa:∀u i,Nw s s' u->g.inc i u->some i≠by_->¬Nw s s' (g.oth i u)->s'.low x<=s'.num (g.oth i u)
 lowb:s'.low x=s'.num x\/∃u i,Nw s s' u/\g.inc i u/\some i≠by_/\¬Nw s s' (g.oth i u)/\s'.num (g.oth i u)=s'.low x
 part:∀i,(i∈new\/∃b∈bs,i∈b)↔some i≠by_/\∃u,Nw s s' u/\g.inc i u
structure Mid(g:Gr)(x:Nat)(by_:Option Nat)(s:DS)(L:List Nat)(s':DS)(new:List Nat)(bs:List (List Nat)):Prop extends Com g x by_ s s' new bs where
 blackT:∀u,Nw s s' u->u≠x->∀i,g.inc i u->s'.num (g.oth i u)≠0
 blackx:∀i∈L,s'.num (g.oth i x)≠0
 lowa:∀u i,Nw s s' u->g.inc i u->(u≠x\/i∈L)->some i≠by_->¬Nw s s' (g.oth i u)->s'.low x<=s'.num (g.oth i u)
 lowb:s'.low x=s'.num x\/∃u i,Nw s s' u/\g.inc i u/\some i≠by_/\¬Nw s s' (g.oth i u)/\s'.num (g.oth i u)=s'.low x
 part:∀i,(i∈new\/∃b∈bs,i∈b)↔some i≠by_/\((∃u,Nw s s' u/\u≠x/\g.inc i u)\/(g.inc i x/\i∈L))
def Good(g:Gr)(vis:Nat->Option Nat->DS->DS)(f:Nat):Prop :=
 ∀an x by_ s,Pre g an x by_ s->unm g s<=f->∃new bs,Post g x by_ s (vis x by_ s) new bs
def Com.nx{x:Nat}{by_:Option Nat}{s s':DS}{new:List Nat}{bs:List (List Nat)}(c:Com g x by_ s s' new bs)(h0:s.num x=0):Nw s s' x:=⟨h0,by rw[c.numx];omega⟩
def Com.met{x:Nat}{by_:Option Nat}{s s':DS}{new:List Nat}{bs:List (List Nat)}(c:Com g x by_ s s' new bs){v:Nat}(h:s.num v≠0):s'.num v≠0:=by rw[c.keep v h];exact h
def Com.old{x:Nat}{by_:Option Nat}{s s':DS}{new:List Nat}{bs:List (List Nat)}(c:Com g x by_ s s' new bs){v:Nat}(h1:s'.num v≠0)(h2:¬Nw s s' v):s.num v≠0:=λh=>h2 ⟨h,h1⟩
def mid0{an:List Nat}{x:Nat}{by_:Option Nat}{s:DS}(p:Pre g an x by_ s):Mid g x by_ s [] (enter x s) [] []:=by
 have hnw:∀v,Nw s (enter x s) v↔v=x:=λv=>by
  unfold Nw enter;simp only;constructor
  .rintro⟨h1,h2⟩;exact Decidable.byContradiction λhc=>h2 (by rw[upd_ne hc];exact h1)
  .rintro rfl;exact⟨p.x0,by rw[upd_same];omega⟩
 have keep:∀v,v≠x->(enter x s).num v=s.num v:=λv hv=>upd_ne hv;have nx:(enter x s).num x=s.cnt+1:=upd_same;refine { keep:=λv hv=>keep v λe=>hv (e▸p.x0),numx:=nx,newn:=λv hv=>?_,cnt:=oj _,le:=λv=>?_,inj:=λu v h1 h2=>?_,conn:=λu hu=>?_,lowk:=λv hv=>?_,lowle:=?_,lowpos:=?_,stk:=(bF _).symm,blk:=(bF _).symm,nd:=(by simp),cls:=λi hi=>(by cases hi),blks:=λb hb=>(by cases hb),blackT:=λu hu hne=>absurd ((hnw u).1 hu) hne,blackx:=λi hi=>(by cases hi),lowa:=λu i hu _ h=>?_,lowb:=.inl ?_,part:=λi=>?_}
 .rw[(hnw v).1 hv,nx];omega
 .by_cases e:v=x
  .subst e;rw[nx];exact ab _
  .rw[keep v e];exact sj (p.le v)
 .by_cases e:u=x
  .subst e;by_cases e2:v=u
   .exact e2.symm
   .rw[nx,keep v e2]at h1;have:=p.le v;omega
  .by_cases e2:v=x
   .subst e2;rw[nx,keep u e]at h1;have:=p.le u;omega
   .rw[keep u e,keep v e2]at h1;rw[keep u e]at h2;exact p.inj u v h1 h2
 .rw[(hnw u).1 hu];exact .refl ((hnw x).2 rfl)
 .exact upd_ne λe=>hv ((hnw v).2 e)
 .show upd s.low x (s.cnt+1) x<=upd s.num x (s.cnt+1) x;rw[upd_same,upd_same];exact ab _
 .show 0<upd s.low x (s.cnt+1) x;rw[upd_same];omega
 .rcases h with h|h
  .exact absurd ((hnw u).1 hu) h
  .cases h
 .show upd s.low x (s.cnt+1) x=upd s.num x (s.cnt+1) x;rw[upd_same,upd_same]
 .constructor
  .rintro (h|⟨b,h,_⟩)<;>cases h
  .rintro⟨_,⟨u,h1,h2,_⟩|⟨_,h⟩⟩
   .exact absurd ((hnw u).1 h1) h2
   .cases h
def Mid.post{x:Nat}{by_:Option Nat}{s s':DS}{L new:List Nat}{bs:List (List Nat)}(m:Mid g x by_ s L s' new bs)(h0:s.num x=0)(hL:∀i,i∈L↔g.inc i x):Post g x by_ s s' new bs:=by
 refine { toCom:=m.toCom,black:=λu hu i hi=>?_,lowa:=λu i hu hi=>?_,lowb:=m.lowb,part:=λi=>?_}
 .by_cases e:u=x
  .subst e;exact m.blackx i ((hL i).2 hi)
  .exact m.blackT u hu e i hi
 .refine m.lowa u i hu hi ?_;by_cases e:u=x
  .subst e;exact .inr ((hL i).2 hi)
  .exact .inl e
 .rw[m.part i];constructor
  .rintro⟨h1,⟨u,a,_,b⟩|⟨a,_⟩⟩
   .exact⟨h1,u,a,b⟩
   .exact⟨h1,x,m.toCom.nx h0,a⟩
  .rintro⟨h1,u,a,b⟩;by_cases e:u=x
   .subst e;exact⟨h1,.inr ⟨b,(hL i).2 b⟩⟩
   .exact⟨h1,.inl ⟨u,a,e,b⟩⟩
def rL{x:Nat}{by_:Option Nat}{s s':DS}{L new:List Nat}{bs:List (List Nat)}{i:Nat}(m:Mid g x by_ s L s' new bs)(hi:g.inc i x)(hv:s'.num (g.oth i x)≠0)(hc:by_=some i\/(Nw s s' (g.oth i x))):Mid g x by_ s (L++[i]) s' new bs:=by
 refine { toCom:=m.toCom,blackT:=m.blackT,blackx:=λk hk=>?_,lowa:=λu k hu hk h hb hn=>?_,lowb:=m.lowb,part:=λk=>?_}
 .rcases aZ.1 hk with hk|hk
  .exact m.blackx k hk
  .simp only[aF,bA,or_false]at hk;subst hk;exact hv
 .by_cases e:u=x
  .subst e;by_cases hkL:k∈L
   .exact m.lowa u k hu hk (.inr hkL) hb hn
   .rcases h with h|h
    .exact absurd rfl h
    .rcases aZ.1 h with h|h
     .exact absurd h hkL
     .simp only[aF,bA,or_false]at h;subst h;rcases hc with hc|hc
      .exact absurd hc.symm hb
      .exact absurd hc hn
  .exact m.lowa u k hu hk (.inl e) hb hn
 .rw[m.part k];constructor
  .rintro⟨h1,h|⟨a,b⟩⟩
   .exact⟨h1,.inl h⟩
   .exact⟨h1,.inr ⟨a,cW _ b⟩⟩
  .rintro⟨h1,h|⟨a,b⟩⟩
   .exact⟨h1,.inl h⟩
   .rcases aZ.1 b with b|b
    .exact⟨h1,.inr ⟨a,b⟩⟩
    .simp only[aF,bA,or_false]at b;subst b;rcases hc with hc|hc
     .exact absurd hc.symm h1
     .exact⟨h1,.inl ⟨_,hc,(inc_oth hi).2.1,(inc_oth hi).1⟩⟩
def AA{an:List Nat}{x:Nat}{by_:Option Nat}{s s':DS}{L new:List Nat}{bs:List (List Nat)}{i:Nat}(p:Pre g an x by_ s)(m:Mid g x by_ s L s' new bs)(hi:g.inc i x)(hiL:i∉L)(hb:by_≠some i)(hv:s'.num (g.oth i x)≠0)(hlt:s'.num (g.oth i x)<s'.num x) :
 Mid g x by_ s (L++[i]) { s' with stk:=s'.stk++[i],low:=upd s'.low x (min (s'.low x) (s'.num (g.oth i x)))} (new++[i]) bs:=by
 obtain⟨oi,one,oo⟩:=inc_oth hi;have hnw:¬Nw s s' (g.oth i x):=λh=>by
  have:=m.newn _ h;rw[m.numx]at hlt;omega
 have hold:=m.toCom.old hv hnw;have han:g.oth i x∈an:=Decidable.byContradiction λhc=>by
  have:=p.black _ hold hc i oi;rw[oo]at this;exact this p.x0
 obtain⟨b,rfl⟩:∃b,by_=some b:=by
  cases by_ with
  |none=>rw[p.by0 rfl]at han;cases han
  |some b=>exact⟨b,rfl⟩
 obtain⟨b1,b2⟩:=p.by1 b rfl;have hxan:x∉an:=λh=>p.gray x h p.x0;have hrel:Rel g i b:=⟨x,hi,b1,p.chain x hxan _ han _ b2⟩
 have hni:i∉new/\∀b∈bs,i∉b:=by
  have:=m.part i;have hno:¬(some i≠some b/\((∃u,Nw s s' u/\u≠x/\g.inc i u)\/(g.inc i x/\i∈L))):=by
   rintro⟨_,⟨u,a,c,d⟩|⟨_,d⟩⟩
   .have:=iA hi d c;subst this;exact hnw a
   .exact hiL d
  rw[<-this]at hno;exact⟨λh=>hno (.inl h),λb hb h=>hno (.inr ⟨b,hb,h⟩)⟩
 have hlow:∀v,v≠x->(upd s'.low x (min (s'.low x) (s'.num (g.oth i x)))) v=s'.low v:=λv hv=>upd_ne hv;have hlx:(upd s'.low x (min (s'.low x) (s'.num (g.oth i x)))) x=min (s'.low x) (s'.num (g.oth i x)):=upd_same;have hxT:Nw s s' x:=m.toCom.nx p.x0;refine { keep:=m.keep,numx:=m.numx,newn:=m.newn,cnt:=m.cnt,le:=m.le,inj:=m.inj,conn:=m.conn,lowk:=λv hv=>?_,lowle:=?_,lowpos:=?_,stk:=?_,blk:=m.blk,nd:=?_,cls:=λk hk=>?_,blks:=m.blks,blackT:=m.blackT,blackx:=λk hk=>?_,lowa:=λu k hu hk h hkb hn=>?_,lowb:=?_,part:=λk=>?_}
 .exact(hlow v λe=>hv (e▸hxT)).trans (m.lowk v hv)
 .have:=m.lowle;simp only;rw[hlx];omega
 .have:=m.lowpos;simp only;rw[hlx];omega
 .simp only;rw[m.stk,bL]
 .have h:=m.nd;rw[bL,bQ]at *
  refine⟨h.1,?_,?_⟩
  .rw[bX,cr,cn,iZ];exact⟨λ⟨b,q1,q2⟩=>hni.2 b q1 q2,h.2.1⟩
  .intro a ha c hc;rw[bX,cr]at hc;rcases aF.1 hc with rfl|hc
   .exact λe=>hni.1 (e▸ha)
   .exact h.2.2 a ha c hc
 .rcases aZ.1 hk with hk|hk
  .exact m.cls k hk
  .simp only[aF,bA,or_false]at hk;subst hk;exact⟨b,rfl,.one hrel⟩
 .rcases aZ.1 hk with hk|hk
  .exact m.blackx k hk
  .simp only[aF,bA,or_false]at hk;subst hk;exact hv
 .simp only;rw[hlx];by_cases hq:u≠x\/k∈L
  .have:=m.lowa u k hu hk hq hkb hn;exact cu (Nat.min_le_left _ _) this
  .have e:u=x:=Decidable.byContradiction λc=>hq (.inl c);subst e;rcases h with h|h
   .exact absurd rfl h
   .rcases aZ.1 h with h|h
    .exact absurd (.inr h) hq
    .simp only[aF,bA,or_false]at h;subst h;exact Nat.min_le_right _ _
 .simp only;rw[hlx];by_cases hq:s'.low x<=s'.num (g.oth i x)
  .rw[cD hq];exact m.lowb
  .rw[tW om];exact .inr ⟨x,i,hxT,hi,hb.symm,hnw,rfl⟩
 .have:=m.part k;constructor
  .rintro (h|h)
   .rcases aZ.1 h with h|h
    .obtain⟨h1,h2⟩:=this.1 (.inl h);exact⟨h1,h2.imp id λq=>⟨q.1,cW _ q.2⟩⟩
    .simp only[aF,bA,or_false]at h;subst h;exact⟨hb.symm,.inr ⟨hi,by simp⟩⟩
   .obtain⟨h1,h2⟩:=this.1 (.inr h);exact⟨h1,h2.imp id λq=>⟨q.1,cW _ q.2⟩⟩
  .rintro⟨h1,h2⟩;rcases h2 with h2|⟨h2,h3⟩
   .exact(this.2 ⟨h1,.inl h2⟩).imp (cW _) id
   .rcases aZ.1 h3 with h3|h3
    .exact(this.2 ⟨h1,.inr ⟨h2,h3⟩⟩).imp (cW _) id
    .simp only[aF,bA,or_false]at h3;subst h3;exact .inl (by simp)
variable {g:Gr}
section
variable {an:List Nat}{x:Nat}{by_:Option Nat}{s s1:DS}{L new:List Nat}{bs:List (List Nat)}{i:Nat}
def sub_pre(p:Pre g an x by_ s)(m:Mid g x by_ s L s1 new bs)(hi:g.inc i x)(hy:s1.num (g.oth i x)=0):Pre g (x::an) (g.oth i x) (some i) { s1 with stk:=s1.stk++[i]}:=by
 obtain⟨oi,one,oo⟩:=inc_oth hi;have hxv:s1.num x≠0:=by rw[m.numx];omega
 have hpar:∀b,by_=some b->∀v,g.inc b v->s1.num v≠0:=λb hb v hv=>by
  obtain⟨b1,b2⟩:=p.by1 b hb;by_cases e:v=x
  .rw[e];exact hxv
  .rw[iA b1 hv e];exact m.toCom.met (p.gray _ b2)
 refine⟨inc_lt oi,hy,λa ha=>?_,λv hv hn k hk=>?_,m.le,m.inj,λz hz a ha b hb=>?_,λb hb=>?_,λh=>(by cases h),λj hj hne v hv=>?_⟩
 .rcases aF.1 ha with rfl|ha
  .exact hxv
  .exact m.toCom.met (p.gray a ha)
 .simp only[aF,not_or]at hn;by_cases ho:s.num v=0
  .exact m.blackT v ⟨ho,hv⟩ hn.1 k hk
  .exact m.toCom.met (p.black v ho hn.2 k hk)
 .simp only[aF,not_or]at hz;have key:∀a∈an,Conn g (·≠z) x a:=λa ha=>by
   cases hb:by_ with
   |none=>rw[p.by0 hb]at ha;exact absurd ha (by simp)
   |some b =>
     obtain⟨b1,b2⟩:=p.by1 b hb;have:Conn g (·≠z) x (g.oth b x):=Conn.edge (λe=>hz.1 e.symm) b1 (λe=>hz.2 (e▸b2));exact this.trans (p.chain z hz.2 _ b2 _ ha)
  rcases aF.1 ha with ea|ha
  .rw[ea];rcases aF.1 hb with eb|hb
   .rw[eb];exact .refl λe=>hz.1 e.symm
   .exact key b hb
  .rcases aF.1 hb with eb|hb
   .rw[eb];exact(key a ha).symm
   .exact p.chain z hz.2 a ha b hb
 .cases hb;rw[oo];exact⟨oi,aM ..⟩
 .simp only[m.stk]at hj;rcases aZ.1 hj with hj|hj
  .rcases aZ.1 hj with hj|hj
   .by_cases q:some j=by_
    .exact hpar j q.symm v hv
    .exact m.toCom.met (p.stk j hj q v hv)
   .obtain⟨_,⟨u,a,b,c⟩|⟨b,c⟩⟩:=(m.part j).1 (.inl hj)
    .by_cases e:v=u
     .rw[e];exact a.2
     .rw[iA c hv e];exact m.blackT u a b j c
    .by_cases e:v=x
     .rw[e];exact hxv
     .rw[iA b hv e];exact m.blackx j c
  .simp only[aF,bA,or_false]at hj;exact absurd (by rw[hj]) hne
def Ma{l r:List Nat}{i:Nat}(h:i∉l):(l++i::r).idxOf i=l.length:=by
 rw[GG,if_neg h];simp
def Az{sort:List Nat->List Nat}(hsort:∀l,(sort l).Perm l)(p:Pre g an x by_ s)(m:Mid g x by_ s L s1 new bs)(hi:g.inc i x)(hiL:i∉L)(hb:by_≠some i)(hy:s1.num (g.oth i x)=0)
 {s2:DS}{new2:List Nat}{bs2:List (List Nat)} (c2:Post g (g.oth i x) (some i) { s1 with stk:=s1.stk++[i]} s2 new2 bs2) {s3:DS} (h3:s3={ s2 with low:=upd s2.low x (min (s2.low x) (s2.low (g.oth i x)))}) :
 ∃new' bs',Mid g x by_ s (L++[i]) (if s3.num x<=s3.low (g.oth i x)then s3.close sort i else s3) new' bs':=by
 obtain⟨oi,one,oo⟩:=inc_oth hi;have hxv:s1.num x≠0:=by rw[m.numx];omega
 have ps:=sub_pre p m hi hy;have hT2:∀v,Nw { s1 with stk:=s1.stk++[i]} s2 v↔s1.num v=0/\s2.num v≠0:=λv=>Iff.rfl;generalize hy':g.oth i x=y at *
 have keep2:∀v,s1.num v≠0->s2.num v=s1.num v:=c2.keep;have hT:∀v,Nw s s2 v↔Nw s s1 v\/(s1.num v=0/\s2.num v≠0):=λv=>by
  unfold Nw;constructor
  .rintro⟨h1,h2⟩;by_cases e:s1.num v=0
   .exact .inr ⟨e,h2⟩
   .exact .inl ⟨h1,e⟩
  .rintro (⟨h1,h2⟩|⟨h1,h2⟩)
   .exact⟨h1,by rw[keep2 v h2];exact h2⟩
   .refine⟨Decidable.byContradiction λhc=>?_,h2⟩;exact m.toCom.met hc h1
 have hxT:Nw s s1 x:=m.toCom.nx p.x0;have hnx2:s2.num x=s.cnt+1:=by rw[keep2 x hxv];exact m.numx
 have hlx2:s2.low x=s1.low x:=c2.lowk x λh=>hxv h.1;have hy2:s2.num y≠0:=by rw[c2.numx];simp
 have hny:s2.num x<s2.num y:=by
  have h1:=c2.numx;have h2:=m.le x;simp only at h1;rw[h1,keep2 x hxv];omega
 have hbT:∀k u,g.inc k u->s1.num u=0->some k≠by_:=λk u hk hu e=>by
  obtain⟨b1,b2⟩:=p.by1 k e.symm;by_cases q:u=x
  .rw[q]at hu;exact hxv hu
  .rw[iA b1 hk q]at hu;exact m.toCom.met (p.gray _ b2) hu
 have hA:∀k,(k∈new\/∃b∈bs,k∈b)->∀v,g.inc k v->s1.num v≠0:=λk hk v hv=>by
  obtain⟨_,⟨u,a,b,c⟩|⟨b,c⟩⟩:=(m.part k).1 hk
  .by_cases e:v=u
   .rw[e];exact a.2
   .rw[iA c hv e];exact m.blackT u a b k c
  .by_cases e:v=x
   .rw[e];exact hxv
   .rw[iA b hv e];exact m.blackx k c
 have hB:∀k,(k∈new2\/∃b∈bs2,k∈b)↔k≠i/\∃u,(s1.num u=0/\s2.num u≠0)/\g.inc k u:=λk=>by
  rw[c2.part k];constructor
  .rintro⟨h1,h2⟩;exact⟨λe=>h1 (by rw[e]),h2⟩
  .rintro⟨h1,h2⟩;exact⟨λe=>h1 (Option.some.inj e),h2⟩
 have hiA:¬(i∈new\/∃b∈bs,i∈b):=λh=>hA i h y oi hy;have hiB:¬(i∈new2\/∃b∈bs2,i∈b):=λh=>((hB i).1 h).1 rfl;have hdis:∀k,(k∈new\/∃b∈bs,k∈b)->¬(k∈new2\/∃b∈bs2,k∈b):=λk h1 h2=>by
  obtain⟨_,u,a,b⟩:=(hB k).1 h2;exact hA k h1 u b a.1
 have hgray:∀u k,(s1.num u=0/\s2.num u≠0)->g.inc k u->¬(s1.num (g.oth k u)=0/\s2.num (g.oth k u)≠0)->g.oth k u∈x::an:=λu k hu hk hn=>by
  have h1:=c2.black u hu k hk;have h2:s1.num (g.oth k u)≠0:=λe=>hn ⟨e,h1⟩;refine Decidable.byContradiction λhc=>?_;have:=ps.black _ h2 hc k (inc_oth hk).1;rw[(inc_oth hk).2.2]at this;exact this hu.1
 have hnd:(new++bs.flatten++(i::(new2++bs2.flatten))).Nodup:=by
  rw[bQ];refine⟨m.nd,?_,?_⟩
  .rw[cn];refine⟨λh=>hiB ?_,c2.nd⟩;rw[aZ,iZ]at h;exact h
  .intro a ha c hc;rw[aZ,iZ]at ha;rcases aF.1 hc with rfl|hc
   .exact λe=>hiA (e▸ha)
   .rw[aZ,iZ]at hc;exact λe=>hdis a ha (e▸hc)
 have hl3:∀v,v≠x->s3.low v=s2.low v:=λv hv=>by rw[h3];exact upd_ne hv
 have hl3x:s3.low x=min (s1.low x) (s2.low y):=by rw[h3];show upd s2.low x _ x=_;rw[upd_same,hlx2]
 have hn3:s3.num=s2.num:=by rw[h3]
 have hc3:s3.cnt=s2.cnt:=by rw[h3]
 have hs3:s3.stk=s.stk++new++i::new2:=by
  rw[h3];have:=c2.stk;simp only at this |-;rw[this,m.stk];simp
 have hb3:s3.blk=s.blk++(bs++bs2):=by
  rw[h3];have:=c2.blk;simp only at this |-;rw[this,m.blk];simp
 have hTm:∀v,Nw s s3 v↔Nw s s1 v\/(s1.num v=0/\s2.num v≠0):=λv=>by rw[<-hT v];unfold Nw;rw[hn3]
 have hconnT:∀u,(s1.num u=0/\s2.num u≠0)->Conn g (λv=>s1.num v=0/\s2.num v≠0) y u:=c2.conn;clear h3
 have com:∀(s':DS) (nw:List Nat) (bb:List (List Nat)),s'.num=s3.num->s'.low=s3.low->s'.cnt=s3.cnt->s'.stk=s.stk++nw->s'.blk=s.blk++bb->(nw++bb.flatten).Nodup->(∀k∈nw,∃b,by_=some b/\Cls g k b)->(∀b∈bb,IsBlock g b) ->
  (∀k,(k∈nw\/∃b∈bb,k∈b)↔(k∈new\/∃b∈bs,k∈b)\/k=i\/(k∈new2\/∃b∈bs2,k∈b))->Mid g x by_ s (L++[i]) s' nw bb:=by
  intro s' nw bb q1 q2 q3 q4 q5 q6 q7 q8 q9;have hT':∀v,Nw s s' v↔Nw s s1 v\/(s1.num v=0/\s2.num v≠0):=λv=>by rw[<-hTm v];unfold Nw;rw[q1]
  have qn:s'.num=s2.num:=q1.trans hn3;have hkeep:∀v,s.num v≠0->s'.num v=s.num v:=λv hv=>by rw[qn,keep2 v (m.toCom.met hv)];exact m.keep v hv
  refine { keep:=hkeep,numx:=by rw[qn];exact hnx2,newn:=λv hv=>?_,cnt:=?_,le:=λv=>by rw[qn,q3,hc3];exact c2.le v,inj:=λu v=>by rw[qn];exact c2.inj u v,conn:=λu hu=>?_,lowk:=λv hv=>?_,lowle:=?_,lowpos:=?_,stk:=q4,blk:=q5,nd:=q6,cls:=q7,blks:=q8,blackT:=λu hu hne k hk=>?_,blackx:=λk hk=>?_,lowa:=λu k hu hk h hkb hn=>?_,lowb:=?_,part:=λk=>?_}
  .rw[qn];rcases(hT' v).1 hv with h|h
   .rw[keep2 v h.2];exact m.newn v h
   .have:=c2.newn v h;have:=m.cnt;simp only at *
    omega
  .have:=m.cnt;have:=c2.cnt;simp only at *
   omega
  .rcases(hT' u).1 hu with h|h
   .exact(m.conn u h).mono λz hz=>(hT' z).2 (.inl hz)
   .have h1:Conn g (Nw s s') x (g.oth i x):=Conn.edge ((hT' x).2 (.inl hxT)) hi (by rw[hy'];exact(hT' y).2 (.inr ⟨hy,hy2⟩));rw[hy']at h1;exact h1.trans ((hconnT u h).mono λz hz=>(hT' z).2 (.inr hz))
  .have h1:v≠x:=λe=>hv ((hT' v).2 (.inl (e▸hxT)));have h2:=c2.lowk v λe=>hv ((hT' v).2 (.inr e));simp only at h2;rw[q2,hl3 v h1,h2];exact m.lowk v λe=>hv ((hT' v).2 (.inl e))
  .have:=m.lowle;have:=m.numx;rw[q2,hl3x,qn,hnx2];omega
  .have:=m.lowpos;have:=c2.lowpos;rw[q2,hl3x];omega
  .rw[qn];rcases(hT' u).1 hu with h|h
   .have:=m.blackT u h hne k hk;rw[keep2 _ this];exact this
   .exact c2.black u h k hk
  .rw[qn];rcases aZ.1 hk with hk|hk
   .have:=m.blackx k hk;rw[keep2 _ this];exact this
   .simp only[aF,bA,or_false]at hk;rw[hk,hy'];exact hy2
  .rw[q2,hl3x,qn];rcases(hT' u).1 hu with hu1|hu2
   .have hq:u≠x\/k∈L:=by
     by_cases e:u=x
     .rcases h with h|h
      .exact .inl h
      .rcases aZ.1 h with h|h
       .exact .inr h
       .simp only[aF,bA,or_false]at h;rw[e,h,hy']at hn;exact absurd ((hT' y).2 (.inr ⟨hy,hy2⟩)) hn
     .exact .inl e
    have hv:s1.num (g.oth k u)≠0:=by
     by_cases e:u=x
     .rcases hq with hq|hq
      .exact absurd e hq
      .rw[e];exact m.blackx k hq
     .exact m.blackT u hu1 e k hk
    have:=m.lowa u k hu1 hk hq hkb λe=>hn ((hT' _).2 (.inl e));rw[keep2 _ hv];omega
   .by_cases e:k=i
    .have hux:u≠x:=λe=>hxv (e▸hu2.1);have:u=y:=by rw[<-hy'];exact iA hi (e▸hk) hux
     rw[e,this,oo]at hn;exact absurd ((hT' x).2 (.inl hxT)) hn
    .have:=c2.lowa u k hu2 hk (λq=>e (Option.some.inj q)) λq=>hn ((hT' _).2 (.inr q));omega
  .rw[q2,hl3x,qn];by_cases hq:s1.low x<=s2.low y
   .rw[cD hq];rcases m.lowb with h|⟨u,k,a,b,c,d,e⟩
    .exact .inl (by rw[h,m.numx,hnx2])
    .have hv:s1.num (g.oth k u)≠0:=by have:=m.lowpos;omega
     refine .inr ⟨u,k,(hT' u).2 (.inl a),b,c,λq=>?_,by rw[keep2 _ hv];exact e⟩;rcases(hT' _).1 q with q|q
     .exact d q
     .exact hv q.1
   .rw[tW om];have h1:=m.lowle;have h2:=m.numx;rcases c2.lowb with h|⟨u,k,a,b,c,d,e⟩
    .omega
    .have hg:=hgray u k a b d;have hwx:g.oth k u≠x:=λq=>by rw[q,hnx2]at e;omega
     have han:g.oth k u∈an:=by
      rcases aF.1 hg with q|q
      .exact absurd q hwx
      .exact q
     refine .inr ⟨u,k,(hT' u).2 (.inr a),b,hbT k u b a.1,λq=>?_,e⟩;exact p.gray _ han q.1
  .rw[q9 k];constructor
   .rintro (h|h|h)
    .obtain⟨h1,h2⟩:=(m.part k).1 h;exact⟨h1,h2.imp (λ⟨u,a,b,c⟩=>⟨u,(hT' u).2 (.inl a),b,c⟩) λq=>⟨q.1,cW _ q.2⟩⟩
    .subst h;exact⟨hb.symm,.inr ⟨hi,by simp⟩⟩
    .obtain⟨h1,u,a,c⟩:=(hB k).1 h;exact⟨hbT k u c a.1,.inl ⟨u,(hT' u).2 (.inr a),λe=>hxv (e▸a.1),c⟩⟩
   .rintro⟨h1,⟨u,a,b,c⟩|⟨b,c⟩⟩
    .rcases(hT' u).1 a with a|a
     .exact .inl ((m.part k).2 ⟨h1,.inl ⟨u,a,b,c⟩⟩)
     .by_cases e:k=i
      .exact .inr (.inl e)
      .exact .inr (.inr ((hB k).2 ⟨e,u,a,c⟩))
    .rcases aZ.1 c with c|c
     .exact .inl ((m.part k).2 ⟨h1,.inr ⟨b,c⟩⟩)
     .simp only[aF,bA,or_false]at c;exact .inr (.inl c)
 have hcls2:∀k∈new2,Cls g k i:=λk hk=>by
  obtain⟨b,e,h⟩:=c2.cls k hk;cases e;exact h
 by_cases hcl:s3.num x<=s3.low y
 ·
  rw[if_pos hcl];rw[hn3,hl3 y one]at hcl;have his:i∉s.stk++new:=λh=>by
   rcases aZ.1 h with h|h
   .by_cases q:some i=by_
    .exact hb q.symm
    .exact m.toCom.met (p.stk i h q y oi) hy
   .exact hiA (.inl h)
  have hidx:s3.stk.idxOf i=(s.stk++new).length:=by rw[hs3];exact Ma his
  have hdrop:s3.stk.drop (s3.stk.idxOf i)=i::new2:=by rw[hidx,hs3,qR]
  have htake:s3.stk.take (s3.stk.idxOf i)=s.stk++new:=by rw[hidx,hs3,qP]
  have hsep:∀u k,(s1.num u=0/\s2.num u≠0)->g.inc k u->(s1.num (g.oth k u)=0/\s2.num (g.oth k u)≠0)\/g.oth k u=x:=λu k hu hk=>by
   by_cases q:s1.num (g.oth k u)=0/\s2.num (g.oth k u)≠0
   .exact .inl q
   .right;by_cases e:k=i
    .have hux:u≠x:=λe=>hxv (e▸hu.1);have:u=y:=by rw[<-hy'];exact iA hi (e▸hk) hux
     rw[e,this,oo]
    .have h1:=c2.lowa u k hu hk (λq=>e (Option.some.inj q)) q;have h2:=hgray u k hu hk q;refine Decidable.byContradiction λhc=>?_;have han:g.oth k u∈an:=by
      rcases aF.1 h2 with q|q
      .exact absurd q hc
      .exact q
     have h3:=p.gray _ han;have h4:=p.le (g.oth k u);rw[keep2 _ (m.toCom.met h3),m.keep _ h3]at h1;omega
  have hblock:IsBlock g (sort (i::new2)):=by
   have hm:∀k,k∈sort (i::new2)↔k∈i::new2:=λk=>(hsort _).mem_iff;have hinc:∀e∈i::new2,∃u,(s1.num u=0/\s2.num u≠0)/\g.inc e u:=λe he=>by
    rcases aF.1 he with rfl|he
    .exact⟨y,⟨hy,hy2⟩,oi⟩
    .obtain⟨_,u,a,b⟩:=(hB e).1 (.inl he);exact⟨u,a,b⟩
   have hci:∀e∈i::new2,Cls g e i:=λe he=>by
    rcases aF.1 he with rfl|he
    .exact .refl
    .exact hcls2 e he
   refine⟨λe=>?_,λa ha c hc=>(hci a ((hm a).1 ha)).trans (hci c ((hm c).1 hc)).symm,λe he f hr=>(hm f).2 ?_⟩
   .have:=(hm i).2 (aM ..);rw[e]at this;cases this
   .rw[hm]at he;obtain⟨u,hu,heu⟩:=hinc e he;obtain⟨v,v1,v2,v3⟩:=hr;by_cases hf:∃u,(s1.num u=0/\s2.num u≠0)/\g.inc f u
    .by_cases e1:f=i
     .rw[e1];exact aM ..
     .rcases(hB f).2 ⟨e1,hf⟩with q|⟨b,q1,q2⟩
      .exact aN _ q
      ·
       exfalso;have hbk:=c2.blks b q1;have heb:e∈b:=hbk.2.2 f q2 e (Rel.symm ⟨v,v1,v2,v3⟩);rcases aF.1 he with rfl|he
       .exact hiB (.inr ⟨b,q1,heb⟩)
       .have:=c2.nd;rw[bQ]at this;exact this.2.2 e he e (iZ.2 ⟨b,q1,heb⟩) rfl
    .exfalso;have hvT:¬(s1.num v=0/\s2.num v≠0):=λq=>hf ⟨v,q,v2⟩;have hvu:v≠u:=λe=>hvT (e▸hu);have hv':v=g.oth e u:=iA heu v1 hvu;have hvx:v=x:=by
      rcases hsep u e hu heu with q|q
      .rw[<-hv']at q;exact absurd q hvT
      .rw[hv',q]
     have hou:g.oth e v=u:=by rw[hv'];exact(inc_oth heu).2.2
     rw[hou]at v3;have:=v3.stays (T:=λz=>s1.num z=0/\s2.num z≠0) (λz k hz hk hne=>by
      rcases hsep z k hz hk with q|q
      .exact q
      .exact absurd (q.trans hvx.symm) hne) hu
     exact hf ⟨_,this,(inc_oth v2).1⟩
  refine⟨new,bs++bs2++[sort (i::new2)],com (s3.close sort i) _ _ rfl rfl rfl ?_ ?_ ?_ m.cls ?_ ?_⟩
  .exact htake
  .show s3.blk++[sort (s3.stk.drop (s3.stk.idxOf i))]=_;rw[hdrop,hb3];simp
  .refine(List.Perm.nodup_iff ?_).2 hnd;refine List.perm_iff_count.2 λa=>?_;have:=(hsort (i::new2)).count_eq a;simp only[kU,iJ,eX,bF,gq,px]at *
   omega
  .intro b hb;rcases aZ.1 hb with hb|hb
   .rcases aZ.1 hb with hb|hb
    .exact m.blks b hb
    .exact c2.blks b hb
   .simp only[aF,bA,or_false]at hb;rw[hb];exact hblock
  .intro k;have hm:k∈sort (i::new2)↔k∈i::new2:=(hsort _).mem_iff;simp only[aZ,aF,bA,or_false]at *
   constructor
   .rintro (h|⟨b,(h|h)|h,hk⟩)
    .exact .inl (.inl h)
    .exact .inl (.inr ⟨b,h,hk⟩)
    .exact .inr (.inr (.inr ⟨b,h,hk⟩))
    .rw[h,hm]at hk;rcases hk with hk|hk
     .exact .inr (.inl hk)
     .exact .inr (.inr (.inl hk))
   .rintro ((h|⟨b,h,hk⟩)|h|h|⟨b,h,hk⟩)
    .exact .inl h
    .exact .inr ⟨b,.inl (.inl h),hk⟩
    .exact .inr ⟨_,.inr rfl,hm.2 (.inl h)⟩
    .exact .inr ⟨_,.inr rfl,hm.2 (.inr h)⟩
    .exact .inr ⟨b,.inl (.inr h),hk⟩
 .rw[if_neg hcl];rw[hn3,hl3 y one]at hcl;have hrel:∃b,by_=some b/\Rel g i b:=by
   rcases c2.lowb with h|⟨u,k,a,b,c,d,e⟩
   .omega
   .have hg:=hgray u k a b d;have hwx:g.oth k u≠x:=λq=>by rw[q,hnx2]at e;omega
    have han:g.oth k u∈an:=by
     rcases aF.1 hg with q|q
     .exact absurd q hwx
     .exact q
    have hxan:x∉an:=λh=>p.gray x h p.x0;cases hby:by_ with
    |none=>rw[p.by0 hby]at han;cases han
    |some b0 =>
      obtain⟨b1,b2⟩:=p.by1 b0 hby;refine⟨b0,rfl,x,hi,b1,?_⟩;rw[hy'];have k1:Conn g (·≠x) y u:=(hconnT u a).mono λz hz e=>hxv (e▸hz.1);have k2:Conn g (·≠x) u (g.oth k u):=Conn.edge k1.right b hwx;exact(k1.trans k2).trans (p.chain x hxan _ han _ b2)
  obtain⟨b0,hby,hrel⟩:=hrel;refine⟨new++i::new2,bs++bs2,com s3 _ _ rfl rfl rfl (by rw[hs3];simp) hb3 ?_ ?_ ?_ ?_⟩
  .refine(List.Perm.nodup_iff ?_).2 hnd;refine List.perm_iff_count.2 λa=>?_;simp only[kU,gq,px]at *
   omega
  .intro k hk;rcases aZ.1 hk with hk|hk
   .exact m.cls k hk
   .rcases aF.1 hk with rfl|hk
    .exact⟨b0,hby,.one hrel⟩
    .exact⟨b0,hby,(hcls2 k hk).trans (.one hrel)⟩
  .intro b hb;rcases aZ.1 hb with hb|hb
   .exact m.blks b hb
   .exact c2.blks b hb
  .intro k;simp only[aZ,aF];constructor
   .rintro ((h|h|h)|⟨b,h|h,hk⟩)
    .exact .inl (.inl h)
    .exact .inr (.inl h)
    .exact .inr (.inr (.inl h))
    .exact .inl (.inr ⟨b,h,hk⟩)
    .exact .inr (.inr (.inr ⟨b,h,hk⟩))
   .rintro ((h|⟨b,h,hk⟩)|h|h|⟨b,h,hk⟩)
    .exact .inl (.inl h)
    .exact .inr ⟨b,.inl h,hk⟩
    .exact .inl (.inr (.inl h))
    .exact .inl (.inr (.inr h))
    .exact .inr ⟨b,.inr h,hk⟩
end
end Go.Blk
