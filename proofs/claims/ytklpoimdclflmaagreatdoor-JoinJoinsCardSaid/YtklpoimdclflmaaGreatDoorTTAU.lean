/- The definition's side -/
import Derived.Test.YtklpoimdclflmaaGreatDoorTTAT
set_option linter.all false
namespace Go.Proofs.YtklpoimdclflmaaGreatDoor
open Go.Am
variable {cs order:List Int}{es:List (Int×Int)}{ev v:AV}{h:AH}{n:Nat}{outs:List (List Int)}{x:Int}{xs:List (List AV)}
def zk{esz lo bytes:Nat}{w:AV}{cs:List AV}(hv:IsSl h esz lo v cs)(hlo:lo<=h.next)(he:0<esz)(hw:Sl h esz w xs)(ho:xs.flatten.all AV.one=true)
 (hb:(cs.length/esz+xs.length)*bytes<bf) (hc:cs.length/esz+xs.length<bf):∃v' h',gh h esz bytes v w=some (v',h')/\IsSl h' esz lo v' (cs++xs.flatten)/\Ext lo h h'/\h.next<=h'.next/\(∀c,c<h.next->(∀b n,v=.sl b 0 n n->c≠b)->h'.get c=h.get c)/\(∀c,h'.tyOf c=h.tyOf c):=by
 obtain⟨s1,s2⟩:=hw.src;rcases hv with⟨rfl,rfl⟩|⟨b,n,h1,rfl,h3,h4⟩
 .simp only[bm,vT,bN]at hb hc;by_cases hz:xs.length=0
  .refine⟨.nils,h,?_,.inl ⟨rfl,by rw[aW.1 hz];rfl⟩,Oh,ab _,λ_ _ _=>rfl,λ_=>rfl⟩;simp only[gh,s1,ho,if_true,hz]
  .refine⟨.sl h.next 0 xs.length xs.length,h.new (.cells xs.flatten esz false),?_,.inr ⟨h.next,xs.length,hlo,rfl,by rw[AH.get_new,if_pos rfl];rfl,by simpa using s2⟩,Oe hlo,by simp,λc hc' _=>by rw[AH.get_new,if_neg om],λ_=>rfl⟩;simp only[gh,s1,ho,if_true,if_neg hz];rw[if_pos ⟨hb,hc⟩]
 .have hnn:cs.length/esz=n:=by rw[h4,cQ _ he]
  rw[hnn]at hb hc;have hr2:ai h b 0 (n*esz)=some cs:=by
   rw[aR h3,if_pos om,df,<-h4,bt]
  by_cases hz:xs.length=0
  .refine⟨.sl b 0 n n,h,?_,.inr ⟨b,n,h1,rfl,by rw[aW.1 hz,eX,bF];exact h3,by rw[aW.1 hz,eX,bF];exact h4⟩,Oh,ab _,λ_ _ _=>rfl,λ_=>rfl⟩;simp only[gh,s1,ho,if_true,hz]
  .refine⟨.sl h.next 0 (n+xs.length) (n+xs.length),(h.put b .dead).new (.cells (cs++xs.flatten) esz false),?_,.inr ⟨h.next,n+xs.length,hlo,rfl,by rw[AH.get_new,AH.next_put];simp,by rw[aJ,s2,h4,dF]⟩,?_,by simp,?_,λ_=>rfl⟩
   .simp only[gh,s1,ho,if_true,if_neg hz];rw[if_neg om,if_pos ⟨hb,hc⟩,h3,hr2];simp only[if_true]
   .exact(Og h1).trans (Oe (by simpa using hlo))
   .intro c hc' hne;rw[AH.get_new,AH.next_put,if_neg om,AH.get_put _ _ _ _ (AH.lt_of_get h3),if_neg (Ne.symm (hne b n rfl))]
def qZ{e:Nat}(hs:Sl h e v xs):AV.same v v=true:=by
 rcases hs with⟨_,rfl|rfl⟩|⟨b,o,c,cs,ro,rfl,_⟩
 .exact sA
 .rfl
 .exact lf
def qg(xs:List It):(xs.map eT).flatten=xs.flatMap eT:=rfl
def Nd(xs:List Int):(xs.map eI).flatten=xs.flatMap eI:=rfl
def EH{row:List It}{k:Nat}(hk:k<row.length):eK x (row.take (k+1)) 0 (-1,0,0)=if row[k].2.2=x then(if (eK x (row.take k) 0 (-1,0,0)).1=-1 then((k:Nat):Int)else(eK x (row.take k) 0 (-1,0,0)).1,((k+1:Nat):Int),(eK x (row.take k) 0 (-1,0,0)).2.2+1)else eK x (row.take k) 0 (-1,0,0):=by
 rw[aI hk,mN,eK,eK,aS,cD om,bN]
def EY{fb:Nat}{row:List It}{pl outs:List Int}{rv pv ov:AV}(hr:IsRef h fb n es row pl ev rv pv)(hv:SlI h ov outs)(hov:∀b o m c,ov=.sl b o m c->b≠fb)(ho:OutsOk es x outs)(hl:row.length<2^29)(hl2:pl.length<2^29)(hl3:outs.length<2^29) :
 C prg 45 [.ptr fb 0,.int .i64 x,ov] h λr h' =>
   if jy n es row pl x=true then ∃g rv' pv',r=.tup [g,.int .i64 0]/\SlT h' g (lQ x row)/\(∀b o m c,g=.sl b o m c->h.next<=b)/\IsRef h' fb n es (jJ es x outs row) (pl++[x]) ev rv' pv'/\(∀b o m c,rv'=.sl b o m c->h.next<=b)/\(∀b o m c,pv'=.sl b o m c->h.next<=b)/\Kp (·=fb) h h'
   else r=.tup [.nils,.int .i64 3]/\Ext h.next h h':=by
 obtain⟨m1,m2,m3,m4⟩:=iX hr.hm;have hfb:=AH.lt_of_get hr.g;refine Oj rfl ?_;refine ae (ak (Mi0) ?_);refine ae (ae (bM (bj 2 (Mi0) rfl (Zi0) (Mi0) (EW (x:=x) hr om om) λr h1 hq=>?_)));obtain⟨rfl,x1⟩:=hq;refine bI (M0) ?_;refine cF (t:=!jy n es row pl x) (Z0) (λq=>?_) λq=>?_
 .have q:jy n es row pl x=false:=by simpa using q
  refine ae (ak (M0) ?_);refine bu ⟨.tup [.nils,.int .i64 3],(by simp only[rs,rf45,am,aL,simprocAttr]<;>rfl),?_⟩;rw[if_neg (by simp[q])];exact⟨rfl,x1⟩
 have q:jy n es row pl x=true:=by simpa using q
 refine bz ?_;have hr1:=hr.ext x1;have n1:=x1.nx;have rg:ai h1 fb 0 2=some [.int .i64 (n:Nat),ev]:=by rw[aR hr1.g];rfl
 refine ae (bM (bj 5 (Mi1 rg) rfl (Zi1 rg) (Mi1 rg) (uG (x:=x) (fr:=true) hr1.e om) λr h2 hq=>?_));obtain⟨i2,x2⟩:=hq;have s2:SlI h2 r (dJ es x):=Ob om (λ_=>rfl) i2;have l2:=s2.len;rw[ah]at l2;refine bI (M0) ?_;have X2:=x1.trans (x2.mono n1);have n2:=x2.nx;have hr2:=hr1.ext x2;have hv2:=hv.ext X2 (ab _);have lv:=hv.len;rw[ah]at lv;have hlen:outs.length=(dJ es x).length:=ho.length_eq;have hnl:((outs.length:Nat):Int)=(((dJ es x).length:Nat):Int):=by rw[hlen]
 have c0:decide (((outs.length:Nat):Int)=(((dJ es x).length:Nat):Int))=true:=aH hnl;refine ae (ae (ak (Mi3 lv l2 c0) ?_));refine dC (Z0) (bz ?_);refine ae (ae (ak (Mi0) ?_));have hol:(dJ es x).length<=128:=cu (fG _ _ _) m3;refine dX (α:=Unit) (N:=(dJ es x).length) (λk _=>[(0,.ptr fb 0),(1,.int .i64 x),(2,ov),(8,r),(9,.int .i64 (k:Nat))]) (λ_ _ h'=>h'=h2) () (Oi1 @bh) rfl ?_ ?_ ?_
 .rintro k _ ts h3 hk rfl ⟨e0,e1,e2,e8,e9,-⟩;simp only at e0 e1 e2 e8 e9;exact⟨_,(J4 e8 e9 l2 @bE),I0,O5 e0 e1 e2 e8 e9⟩
 .rintro k _ ts h3 hk rfl ⟨e0,e1,e2,e8,e9,-⟩;simp only at e0 e1 e2 e8 e9;obtain⟨b1,p1,a1,r1,_⟩:=s2.at1 (cm (f:=eI) hk);have w1:=dW (k:=k) om;refine ae (bM (bj 5 (M5 e2 e8 e9 a1 r1) rfl (Z5 e2 e8 e9 a1 r1) (M5 e2 e8 e9 a1 r1) (Af (x:=(dJ es x)[k]) hv2 om) λr4 h4 hq=>?_));obtain⟨rfl,rfl⟩:=hq;have c1:decide ((dJ es x)[k]∈outs)=true:=aH (ho.mem.2 (ar hk));rw[c1];refine bI (M0) ?_;exact dC (I0) (bz ⟨(),rfl,_,(J2 e9 w1),O4 e0 e1 e2 e8⟩)
 rintro _ ts h3 rfl ⟨e0,e1,e2,e8,e9,-⟩;simp only at e0 e1 e2;refine ae (ak (M0) ?_);have x4:Ext h3.next h3 (h3.new (.cells [] 3 false)):=Oe (ab _);have g4:(h3.new (.cells [] 3 false)).get h3.next=some (.cells [] 3 false):=by rw[AH.get_new,if_pos rfl]
 have n4:(h3.new (.cells [] 3 false)).next=h3.next+1:=rfl;generalize h3.new (.cells [] 3 false)=h4 at *
 refine ae (ae (ak (M0) ?_));have hrr:∀i∈outs,0<=i/\i<es.length:=λi hi=>by
  obtain⟨k,rfl,t,ht⟩:=fp.1 (ho.mem.1 hi);have:=(au.1 ht).1;omega
 refine dX (α:=AV) (N:=outs.length) (λk a=>[(0,.ptr fb 0),(1,.int .i64 x),(2,ov),(10,a),(11,.int .i64 (k:Nat))]) (λk a h'=>IsSl h' 3 h3.next a (((outs.map λi=>(i,x,((es[i.toNat]?).getD (0,0)).2)).take k).flatMap eT)/\Ext h3.next h3 h') (.sl h3.next 0 0 0) (O4 e0 e1 e2 @bh)
  ⟨.inr ⟨h3.next,0,ab _,rfl,g4,rfl⟩,x4⟩ ?_ ?_ ?_
 .rintro k a ts h5 hk ⟨j1,jx⟩ ⟨e0,e1,e2,e10,e11,-⟩;simp only at e0 e1 e2 e10 e11;exact⟨_,(J4 e2 e11 lv @bE),I0,O5 e0 e1 e2 e10 e11⟩
 .rintro k a ts h5 hk ⟨j1,jx⟩ ⟨e0,e1,e2,e10,e11,-⟩;simp only at e0 e1 e2 e10 e11;have jn:=jx.nx;have hk5:∀c,c<h5.next->(h5.keep 1).get c=h5.get c:=λc hc=>by rw[AH.keep_get,if_neg om]
  have q7:(h5.keep 1).get h5.next=some .resv:=ff;have hv5:SlI (h5.keep 1) ov outs:=by
   have s:=hv2.ext jx (ab _);exact s.cong λb o m c hb=>hk5 _ (s.lt hb)
  have he5:SlE (h5.keep 1) ev es:=by
   have s:=hr2.e.ext jx (ab _);exact s.cong λb o m c hb=>hk5 _ (s.lt hb)
  have hr5:=hr2.ext jx;obtain⟨b1,p1,a1,r4,_⟩:=hv5.at1 (cm (f:=eI) hk);obtain⟨hi1,hi2⟩:=hrr _ (ar hk);obtain⟨i,hi⟩:∃i:Nat,outs[k]=i:=⟨outs[k].toNat,om⟩
  rw[hi]at r4 hi2;have hil:i<es.length:=om;obtain⟨eb1,ep,a7,_,r7,_⟩:=he5.at (cm (f:=eE) hil);have r7:=r7 1 (.int .i64 es[i].2) rfl;have re:ai (h5.keep 1) fb 1 1=some [ev]:=bq (by rw[hk5 _ om];exact hr5.g) rfl;obtain⟨p1',p2,p3,p4⟩:=fO (h:=h5) (o:=.cells [.int .i64 ((i:Nat):Int),.int .i64 x,.int .i64 es[i].2] 3 false);have hlenk:(((outs.map λi=>(i,x,((es[i.toNat]?).getD (0,0)).2)).take k).flatMap eT).length=k*3:=by
   rw[dE (f:=eT) (e:=3) (λ_=>rfl),aS,ah,cD om]
  obtain⟨s',h6,a6,i6,x6,hs6,n6,k6,t6⟩:=(j1.ext p1' (ab _)).app (bytes:=24) (x:=h5.next) (new:=[.int .i64 ((i:Nat):Int),.int .i64 x,.int .i64 es[i].2]) (by rw[p3];omega) om p2 om (λb m hb=>by have:=j1.lt hb;omega) rfl rfl
   (by rw[hlenk,cQ _ om];unfold bf;omega) (by rw[hlenk,cQ _ om];unfold bf;omega)
  have w1:=dW (k:=k) om;refine lY (by simp only[am,aL,simprocAttr,e0,e1,e2,e10,e11,a1,r4,re,a7,r7,eA,dR q7,a6]<;>rfl) ?_;refine⟨s',⟨?_,jx.trans ((p1'.mono jn).trans x6)⟩,_,(J2 e11 w1),O3 e0 e1 e2⟩;have e1':(outs.map λi=>(i,x,((es[i.toNat]?).getD (0,0)).2)).take (k+1)=(outs.map λi=>(i,x,((es[i.toNat]?).getD (0,0)).2)).take k++[(((i:Nat):Int),x,es[i].2)]:=by
   rw[aI (by rw[ah];exact hk),dz,hi,aO,aj hil,cL]
  rw[e1',br];exact i6
 rintro a ts h5 ⟨j1,jx⟩ ⟨e0,e1,e2,e10,e11,-⟩;simp only at e0 e1 e2 e10;rw[dx (by rw[ah];exact ab _)]at j1;have n5:=jx.nx;refine ae (qj (λts h6=>∃a,IsSl h6 3 h3.next a ((eV es x outs).flatMap eT)/\Ext h3.next h3 h6/\Held [(0,.ptr fb 0),(1,.int .i64 x),(2,ov),(10,a)] ts) ?_ ?_)
 .refine ae (ak (M2 e2 lv) ?_);refine cF (t:=decide (outs.length=0)) (by simp only[am,aL,simprocAttr];exact congrArg AV.bool (by simp only[decide_eq_decide];omega)) (λp=>?_) λp=>?_
  .have p:outs=[]:=aW.1 (aY p);subst p;obtain⟨s',h6,a6,i6,x6,n6⟩:=j1.push (bytes:=24) [.int .i64 (-1),.int .i64 x,.int .i64 (-1)] n5 om rfl rfl (by simp only[GF,eY,bm];unfold bf;omega) (by simp only[GF,eY,bm];unfold bf;omega);refine ak (M3 e1 e10 a6) ?_;exact⟨s',i6,jx.trans x6,O3 e0 e1 e2⟩
  .have p:¬outs=[]:=λe=>bo p (by rw[e];rfl);refine bz ⟨a,?_,jx,O4 e0 e1 e2 e10⟩;unfold eV;rw[if_neg p];exact j1
 clear j1 jx e0 e1 e2 e10 n5;rintro ts h6 ⟨av,ia,jx,e0,e1,e2,e10,-⟩;simp only at e0 e1 e2 e10;have n6:=jx.nx;have hr6:=hr2.ext jx;have rr6:ai h6 fb 2 1=some [rv]:=bq hr6.g rfl;have lr:=hr6.r.len;rw[ah]at lr;refine ae (ak (M0) ?_);refine ae (ae (ak (M0) ?_));refine dX (α:=Unit) (N:=row.length) (λk _=>[(0,.ptr fb 0),(1,.int .i64 x),(10,av),(12,.int .i64 (eK x (row.take k) 0 (-1,0,0)).1),(13,.int .i64 ((eK x (row.take k) 0 (-1,0,0)).2.1-1)),(14,.int .i64 (k:Nat))]) (λ_ _ h'=>h'=h6) () (by simp only[et,eS,am,aL,↓reduceIte,Nat.reduceEqDiff,Int.reduceEq,Nat.reduceAdd,Nat.reduceLeDiff,reduceCtorEq,e0,e1,e10,bh,eD,eK,Int.reduceSub,Int.zero_sub]) rfl ?_ ?_ ?_
 .rintro k _ ts h7 hk rfl ⟨e0,e1,e10,e12,e13,e14,-⟩;simp only at e0 e1 e10 e12 e13 e14;exact⟨_,(J5 e0 e14 rr6 lr @bE),I0,O6 e0 e1 e10 e12 e13 e14⟩
 .rintro k _ ts h7 hk rfl ⟨e0,e1,e10,e12,e13,e14,-⟩;simp only at e0 e1 e10 e12 e13 e14;obtain⟨b1,p1,a1,_,rs,_⟩:=hr6.r.at (cm (f:=eT) hk);have rc:ai h7 b1 (p1+2) 1=some [.int .i64 row[k].2.2]:=rs 2 _ rfl;have w1:=dW (k:=k) om;have hst:=EH (x:=x) hk;have hsok:=qY x (row.take k);have hs0:dS x (row.take k)=eK x (row.take k) 0 (-1,0,0):=rfl;rw[hs0]at hsok;generalize eK x (row.take k) 0 (-1,0,0)=S at *
  refine ae (ak (M6 e0 e1 e14 rr6 a1 rc) ?_);refine cF (t:=decide (row[k].2.2=x)) (Z0) (λp=>?_) λp=>?_
  .have p:row[k].2.2=x:=aY p;rw[if_pos p]at hst;rw[hst];have hk1:((k+1:Nat):Int)-1=((k:Nat):Int):=om;refine ae (ae (ak (M1 e12) ?_));refine cF (t:=decide (S.1<0)) (Z0) (λp2=>?_) λp2=>?_
   .have p2:S.1=-1:=by have:=aY p2;omega
    refine ak (M1 e14) ?_;refine ak (M1 e14) ?_;exact⟨(),rfl,_,(J2 e14 w1),O6 e0 e1 e10 e14 p2 hk1⟩
   .have p2:¬S.1=-1:=by have:=bo p2;omega
    refine bz (ak (M1 e14) ?_);exact⟨(),rfl,_,(J2 e14 w1),by simp only[et,eS,am,aL,↓reduceIte,Nat.reduceEqDiff,Int.reduceEq,Nat.reduceAdd,Nat.reduceLeDiff,reduceCtorEq,e0,e1,e10,e12,e14,if_neg p2,hk1]⟩
  .have p:¬row[k].2.2=x:=bo p;rw[if_neg p]at hst;rw[hst];exact bz ⟨(),rfl,_,(J2 e14 w1),O5 e0 e1 e10 e12 e13⟩
 rintro _ ts h7 rfl ⟨e0,e1,e10,e12,e13,e14,-⟩;simp only at e0 e1 e10 e12 e13;rw[bt]at e12 e13;have hs0:eK x row 0 (-1,0,0)=dS x row:=rfl;rw[hs0]at e12 e13;have sok:=qY x row;have rp7:ai h7 fb 3 1=some [pv]:=bq hr6.g rfl;have rp8:ai (h7.new (.cells [] 1 false)) fb 3 1=some [pv]:=by rw[bi ((Oe (ab _):Ext h7.next h7 _).gt _ (AH.lt_of_get hr6.g))];exact rp7
 obtain⟨p1,h8,a8,i8,x8,_⟩:=pR (bytes:=8) hr6.p (by rw[Nd];exact Cr) (by rw[ah];unfold bf;omega) (by rw[ah];unfold bf;omega);rw[Nd]at i8;have n8:=x8.nx;obtain⟨p2,h9,a9,i9,x9,n9⟩:=i8.push (bytes:=8) [.int .i64 x] n8 om rfl rfl (by rw[ee];unfold bf;omega) (by rw[ee];unfold bf;omega);have X9:=x8.trans x9;have hr9:=hr6.ext X9;have u:=Oi (o:=.cells [.int .i64 (n:Nat),ev,rv,p2] 4 false) hr9.g;have w9:bP h9 fb 3 [p2]=some (h9.put fb (.cells [.int .i64 (n:Nat),ev,rv,p2] 4 false)):=by rw[dw hr9.g];rfl
 obtain⟨pc,po⟩:=i9.cells;refine ae (ak (M8 e0 e1 rp8 a8 a9 w9 pc po) ?_);have hnx:(h9.put fb (.cells [.int .i64 (n:Nat),ev,rv,p2] 4 false)).next=h9.next:=rfl;generalize h9.put fb (.cells [.int .i64 (n:Nat),ev,rv,p2] 4 false)=hA at *
 have rowA:SlT hA rv row:=hr9.r.cong λb o m c hb=>u.ne (hr9.or b o m c hb);have evA:SlE hA ev es:=hr9.e.cong λb o m c hb=>u.ne (hr9.oe b o m c hb);have pI:IsSl hA 1 h7.next p2 ((pl++[x]).flatMap eI):=by
  rw[br];exact i9.cong λb m hb hlo=>u.ne om
 have iaA:IsSl hA 3 h3.next av ((eV es x outs).flatMap eT):=by
  have s:=ia.ext X9 (ab _);exact s.cong λb m hb hlo=>u.ne om
 have KA:Kp (·=fb) h hA:=(X2.kp (S:=(·=fb)) (ab _)).trans ((jx.kp (ab _)).trans ((X9.kp (ab _)).trans (u.kp (S:=(·=fb)) rfl) (λ_ _ e=>e)) (λ_ _ e=>e)) (λ_ _ e=>e);have nA:=KA.nx;have hal:(eV es x outs).length<=outs.length+1:=by
  unfold eV;split
  .simp
  .simp
 have hla:((eV es x outs).flatMap eT).length/3=(eV es x outs).length:=by
  rw[dE (f:=eT) (e:=3) (λ_=>rfl),cQ _ om]
 have rA:ai hA fb 2 1=some [rv]:=bq u.get rfl;have Xm:Ext h3.next h3 h9:=jx.trans (X9.mono n6);refine ae (ae (ak (M1 e12) ?_));refine cF (t:=decide ((dS x row).1<0)) (Z0) (λp=>?_) λp=>?_
 .have p:(dS x row).1<0:=aY p;obtain⟨r',hB,aB,iB,xB,nB,kB,tB⟩:=zk iaA (bytes:=24) om om rowA (by rw[qg];exact qy) (by rw[hla,ah];unfold bf;omega) (by rw[hla,ah];unfold bf;omega);rw[qg,<-br]at iB;have gB:hB.get fb=some (.cells [.int .i64 (n:Nat),ev,rv,p2] 4 false):=by rw[xB.gt _ om];exact u.get
  have wB:bP hB fb 2 [r']=some (hB.put fb (.cells [.int .i64 (n:Nat),ev,r',p2] 4 false)):=by rw[dw gB];rfl
  have uB:=Oi (o:=.cells [.int .i64 (n:Nat),ev,r',p2] 4 false) gB;obtain⟨rc,ro⟩:=iB.cells;refine ae (ak (M7 e0 e10 rA aB wB rc ro) ?_);refine ae (ak (M0) ?_);have hnB:(hB.put fb (.cells [.int .i64 (n:Nat),ev,r',p2] 4 false)).next=hB.next:=rfl;generalize hB.put fb (.cells [.int .i64 (n:Nat),ev,r',p2] 4 false)=hC at *
  refine bu ⟨.tup [.nils,.int .i64 0],(by simp only[rs,rf45,am,aL,simprocAttr]<;>rfl),?_⟩;rw[if_pos q];have hnone:∀i∈row,i.2.2≠x:=by
   rcases qI x row with hh|⟨A,X,C,c⟩
   .exact hh
   .rw[c.span]at p;simp only at p;omega
  refine⟨.nils,r',p2,rfl,.inl ⟨by rw[xv hnone];rfl,.inl rfl⟩,λb o m c e=>(by cases e),⟨uB.get,?_,?_,?_,hr.oe,λb o m c hb=>?_,λb o m c hb=>?_,hr.hm⟩,λb o m c hb=>?_,λb o m c hb=>?_,(⟨om,λc hc hn=>by rw[xB.gt c om];exact KA.gt c hc hn,λc hc=>by rw[xB.ty c om];exact KA.ty c hc⟩:Kp (·=fb) h hB).trans (uB.kp (S:=(·=fb)) rfl) λ_ _ e=>e⟩
  .refine evA.cong λb o m c hb=>?_;have hbl:b<h3.next:=by have:=hr2.e.lt hb;omega
   rw[uB.ne (hr.oe b o m c hb),xB.gt _ hbl]
  .rw[pJ hnone];exact(Ob om (λ_=>rfl) iB:SlT hB r' _).cong λb o m c hb=>by
    refine uB.ne ?_;rcases iB with⟨rfl,_⟩|⟨b',m',hb',rfl,_,_⟩
    .cases hb
    .cases hb;omega
  .refine(Ob om (λ_=>rfl) pI:SlI hA p2 _).cong λb o m c hb=>?_;have hpb:h7.next<=b/\b<hA.next:=by
    refine⟨?_,pI.lt hb⟩;rcases pI with⟨rfl,_⟩|⟨b',m',hb',rfl,_,_⟩
    .cases hb
    .cases hb;exact hb'
   rw[uB.ne om];refine kB b om λb' m' hb' e=>?_;have:=ia.lt hb';omega
  .rcases iB with⟨rfl,_⟩|⟨b',m',hb',rfl,_,_⟩
   .cases hb
   .cases hb;omega
  .rcases pI with⟨rfl,_⟩|⟨b',m',hb',rfl,_,_⟩
   .cases hb
   .cases hb;omega
  .rcases iB with⟨rfl,_⟩|⟨b',m',hb',rfl,_,_⟩
   .cases hb
   .cases hb;omega
  .rcases pI with⟨rfl,_⟩|⟨b',m',hb',rfl,_,_⟩
   .cases hb
   .cases hb;omega
 have p:¬(dS x row).1<0:=bo p;refine bz ?_;obtain⟨lo,hlo⟩:∃lo:Nat,(dS x row).1=lo:=⟨(dS x row).1.toNat,om⟩
 obtain⟨hi,hhi⟩:∃hi:Nat,(dS x row).2.1=hi:=⟨(dS x row).2.1.toNat,om⟩
 rw[hlo]at e12;rw[hhi]at e13;have wl:IntKind.i64.wrap (((hi:Nat):Int)-1+1)=((hi:Nat):Int):=by rw[fU om om];omega
 have hlm:loM x row=lo:=by unfold loM;omega
 have hgone:lQ x row=(row.drop lo).take (hi-lo):=by unfold lQ;rw[hlm,hhi];rfl
 have hnext:jJ es x outs row=row.take lo++eV es x outs++row.drop hi:=by unfold jJ;rw[hlm,hhi];rfl
 have x10:Ext hA.next hA (hA.new (.cells [] 3 false)):=Oe (ab _);obtain⟨v1,s1,t1,_⟩:=(rowA.ext x10 (ab _)).part (lo:=lo) (hi:=hi) om (by rw[ah];omega);obtain⟨v1',s1',t1',_⟩:=rowA.part (lo:=lo) (hi:=hi) om (by rw[ah];omega);have hvv:v1=v1':=by
  have e1:slV (hA.new (.cells [] 3 false)) 3 rv (some (.int .i64 (lo:Nat))) (some (.int .i64 (hi:Nat))) none=slV hA 3 rv (some (.int .i64 (lo:Nat))) (some (.int .i64 (hi:Nat))) none:=by
   rcases rowA with⟨_,rfl|rfl⟩|⟨b,o,c,cs,ro,rfl,hg,_⟩
   .rfl
   .rfl
   .simp only[slV,x10.gt _ (AH.lt_of_get hg)]
  rw[e1,s1']at s1;exact(Option.some.inj s1).symm
 subst hvv;rw[<-gJ,<-gI]at t1';obtain⟨gv,hB,aB,iB,xB,_⟩:=pR (bytes:=24) t1' (by rw[qg];exact qy) (by rw[ah,aS,cI];unfold bf;omega) (by rw[ah,aS,cI];unfold bf;omega);rw[qg,<-hgone]at iB;have rA':ai (hA.new (.cells [] 3 false)) fb 2 1=some [rv]:=by rw[bi (x10.gt _ om)];exact rA
 refine ae (ak (by simp only[am,aL,simprocAttr,e0,e12,e13,rA',wl,dQ,bW,s1,aB]<;>rfl) ?_);have nB:=xB.nx;have rowB:=rowA.ext xB (ab _);have x11:Ext hB.next hB (hB.new (.cells [] 3 false)):=Oe (ab _);obtain⟨v2,s2',t2,_⟩:=rowB.upto (hi:=lo) (by rw[ah];omega);have s2'':slV (hB.new (.cells [] 3 false)) 3 rv none (some (.int .i64 (lo:Nat))) none=some v2:=by
  rw[<-s2'];rcases rowB with⟨_,rfl|rfl⟩|⟨b,o,c,cs,ro,rfl,hg,_⟩
  .rfl
  .rfl
  .simp only[slV,x11.gt _ (AH.lt_of_get hg)]
 rw[<-gI]at t2;obtain⟨nv,hC,aC,iC,xC,_⟩:=pR (bytes:=24) t2 (by rw[qg];exact qy) (by rw[ah,aS];unfold bf;omega) (by rw[ah,aS];unfold bf;omega);rw[qg]at iC;have rB':ai (hB.new (.cells [] 3 false)) fb 2 1=some [rv]:=by rw[bi (x11.gt _ om),bi (xB.gt _ om)];exact rA
 refine ae (ak (by simp only[am,aL,simprocAttr,e0,e12,rB',dQ,bW,s2'',aC]<;>rfl) ?_);have nC:=xC.nx;have XC:=xB.trans (xC.mono nB);have rowC:=rowB.ext xC (ab _);have iaC:=iaA.ext XC (ab _);have saC:SlT hC av (eV es x outs):=Ob om (λ_=>rfl) iaC;have hln:((row.take lo).flatMap eT).length/3=lo:=by
  rw[dE (f:=eT) (e:=3) (λ_=>rfl),cQ _ om,aS,cD om]
 obtain⟨nv2,hD,aD,iD,xD,nD,kD,tD⟩:=zk iC (bytes:=24) nC om saC (by rw[qg];exact qy) (by rw[hln,ah];unfold bf;omega) (by rw[hln,ah];unfold bf;omega);rw[qg,<-br]at iD;have rC:ai hC fb 2 1=some [rv]:=by rw[bi (XC.gt _ om)];exact rA
 have rD:ai hD fb 2 1=some [rv]:=by rw[bi (xD.gt _ om)];exact rC
 obtain⟨v3,s3,t3,_⟩:=rowC.from (lo:=hi) (by rw[ah];omega);have hrl:∀b o m c,rv=.sl b o m c->b<hB.next:=λb o m c hb=>by have:=rowA.lt hb;omega
 have s3':slV hD 3 rv (some (.int .i64 (hi:Nat))) none none=some v3:=by
  rw[<-s3];rcases rowC with⟨_,rfl|rfl⟩|⟨b,o,c,cs,ro,rfl,hg,_⟩
  .rfl
  .rfl
  .simp only[slV,xD.gt _ (hrl _ _ _ _ rfl)]
 have rowD:SlT hD rv row:=rowC.cong λb o m c hb=>xD.gt b (hrl b o m c hb);obtain⟨v3',s3'',t3',_⟩:=rowD.from (lo:=hi) (by rw[ah];omega);rw[s3']at s3'';cases s3'';have same3:=qZ t3';have samer:=qZ rowD;rw[<-gJ]at t3';have hl4:((row.take lo++eV es x outs).flatMap eT).length/3=lo+(eV es x outs).length:=by
  rw[dE (f:=eT) (e:=3) (λ_=>rfl),cQ _ om,aJ,aS,cD om]
 obtain⟨rv',hE,aE,iE,xE,nE,kE,tE⟩:=zk iD (bytes:=24) om om t3' (by rw[qg];exact qy) (by rw[hl4,ah,cI];unfold bf;omega) (by rw[hl4,ah,cI];unfold bf;omega);rw[qg,<-br,<-hnext]at iE;have xCE:Ext hB.next hC hE:=xD.trans xE;have gE:hE.get fb=some (.cells [.int .i64 (n:Nat),ev,rv,p2] 4 false):=by rw[xCE.gt _ om,XC.gt _ om];exact u.get
 have wE:bP hE fb 2 [rv']=some (hE.put fb (.cells [.int .i64 (n:Nat),ev,rv',p2] 4 false)):=by rw[dw gE];rfl
 have uE:=Oi (o:=.cells [.int .i64 (n:Nat),ev,rv',p2] 4 false) gE;obtain⟨rc,ro⟩:=iE.cells;refine ae (ak (by simp only[am,aL,simprocAttr,e0,e10,e13,rC,rD,wl,dQ,bW,s3,s3',same3,samer,aD,aE,wE,rc,ro]<;>rfl) ?_);refine ae (ak (M0) ?_);have hnE:(hE.put fb (.cells [.int .i64 (n:Nat),ev,rv',p2] 4 false)).next=hE.next:=rfl;generalize hE.put fb (.cells [.int .i64 (n:Nat),ev,rv',p2] 4 false)=hF at *
 have low:∀c,c<hB.next->c≠fb->hF.get c=hB.get c:=λc hc hn=>by rw[uE.ne hn,xCE.gt _ hc,xC.gt _ hc]
 refine bu ⟨.tup [gv,.int .i64 0],(by simp only[rs,rf45,am,aL,simprocAttr]<;>rfl),?_⟩;rw[if_pos q];refine⟨gv,rv',p2,rfl,?_,λb o m c hb=>?_,⟨uE.get,?_,?_,?_,hr.oe,λb o m c hb=>?_,λb o m c hb=>?_,hr.hm⟩,λb o m c hb=>?_,λb o m c hb=>?_,?_⟩
 .refine(Ob om (λ_=>rfl) iB:SlT hB gv _).cong λb o m c hb=>low b (iB.lt hb) ?_;rcases iB with⟨rfl,_⟩|⟨b',m',hb',rfl,_,_⟩
  .cases hb
  .cases hb;omega
 .rcases iB with⟨rfl,_⟩|⟨b',m',hb',rfl,_,_⟩
  .cases hb
  .cases hb;omega
 .exact evA.cong λb o m c hb=>by rw[low b (by have:=evA.lt hb;omega) (hr.oe b o m c hb),xB.gt _ (evA.lt hb)]
 .refine(Ob om (λ_=>rfl) iE:SlT hE rv' _).cong λb o m c hb=>uE.ne ?_;rcases iE with⟨rfl,_⟩|⟨b',m',hb',rfl,_,_⟩
  .cases hb
  .cases hb;omega
 .refine(Ob om (λ_=>rfl) pI:SlI hA p2 _).cong λb o m c hb=>?_;have hpb:=pI.lt hb;rw[low b om ?_,xB.gt _ hpb];rcases pI with⟨rfl,_⟩|⟨b',m',hb',rfl,_,_⟩
  .cases hb
  .cases hb;omega
 .rcases iE with⟨rfl,_⟩|⟨b',m',hb',rfl,_,_⟩
  .cases hb
  .cases hb;omega
 .rcases pI with⟨rfl,_⟩|⟨b',m',hb',rfl,_,_⟩
  .cases hb
  .cases hb;omega
 .rcases iE with⟨rfl,_⟩|⟨b',m',hb',rfl,_,_⟩
  .cases hb
  .cases hb;omega
 .rcases pI with⟨rfl,_⟩|⟨b',m',hb',rfl,_,_⟩
  .cases hb
  .cases hb;omega
 .refine⟨by have:=xCE.nx;omega,λc hc hn=>?_,λc hc=>?_⟩
  .rw[low c om hn,xB.gt _ om];exact KA.gt c hc hn
  .rw[uE.ty,xCE.ty _ om,XC.ty _ om];exact KA.ty c hc
open Go.Am
def pz(outs:List (List Int))(x k:Nat)(i:Int):Prop:=(∃y,y<x/\i∈outs.getD y [])\/i∈(outs.getD x []).take k
structure CntI(es:List (Int×Int))(outs:List (List Int))(x k:Nat)(cs:List Int):Prop where
 len:cs.length=es.length
 one:∀i:Nat,i<es.length->pz outs x k ((i:Nat):Int)->cs.getD i 0=1
 zero:∀i:Nat,i<es.length->¬pz outs x k ((i:Nat):Int)->cs.getD i 0=0
 old:∀y,y<x->(outs.getD y []).Nodup/\∀i∈outs.getD y [],i∈dJ es ((y:Nat):Int)
 now:((outs.getD x []).take k).Nodup/\∀i∈(outs.getD x []).take k,i∈dJ es ((x:Nat):Int)
def CntI.start:CntI es outs 0 0 (List.replicate es.length 0) where
 len:=by simp
 one:=λi hi hd=>by
  rcases hd with⟨y,hy,_⟩|hd
  .omega
  .simp at hd
 zero:=λi hi _=>by rw[aA,cz,if_pos hi];rfl
 old:=λy hy=>by omega
 now:=by simp
def CntI.row{es:List (Int×Int)}{outs:List (List Int)}{x:Nat}{cs:List Int}(c:CntI es outs x (outs.getD x []).length cs):CntI es outs (x+1) 0 cs:=by
 have hd:∀i,pz outs (x+1) 0 i↔pz outs x (outs.getD x []).length i:=λi=>by
  unfold pz;rw[bt];constructor
  .rintro (⟨y,hy,hi⟩|hi)
   .by_cases e:y=x
    .subst e;exact .inr hi
    .exact .inl ⟨y,om,hi⟩
   .simp at hi
  .rintro (⟨y,hy,hi⟩|hi)
   .exact .inl ⟨y,om,hi⟩
   .exact .inl ⟨x,om,hi⟩
 refine⟨c.len,λi hi h=>c.one i hi ((hd _).1 h),λi hi h=>c.zero i hi λh'=>h ((hd _).2 h'),λy hy=>?_,by simp⟩;by_cases e:y=x
 .subst e;have:=c.now;rwa [bt]at this
 .exact c.old y om
def wx{i y z:Int}(h1:i∈dJ es y)(h2:i∈dJ es z):y=z:=by
 obtain⟨k,rfl,t,ht⟩:=fp.1 h1;obtain⟨k',hk,t',ht'⟩:=fp.1 h2;have:k'=k:=om;subst this;rw[ht]at ht';simp only[aa,aq]at ht';exact ht'.1
def CntI.step{x k v:Nat}(c:CntI es outs x k cs)(hk:k<(outs.getD x []).length)(hv:(outs.getD x [])[k]=((v:Nat):Int))(hvl:v<es.length)(ht:es[v].1=((x:Nat):Int))(h0:cs.getD v 0=0):CntI es outs x (k+1) (cs.set v 1):=by
 have hm:((v:Nat):Int)∈dJ es ((x:Nat):Int):=fp.2 ⟨v,rfl,es[v].2,by rw[aj hvl,<-ht]⟩;have htk:(outs.getD x []).take (k+1)=(outs.getD x []).take k++[((v:Nat):Int)]:=by rw[aI hk,hv]
 have hnew:¬pz outs x k ((v:Nat):Int):=λhd=>by have:=c.one v hvl hd;omega
 have hd:∀i,pz outs x (k+1) i↔pz outs x k i\/i=((v:Nat):Int):=λi=>by
  unfold pz;rw[htk,aZ];simp only[aF,bA,or_false,or_assoc]
 have hset:∀i:Nat,(cs.set v 1).getD i 0=if v=i then 1 else cs.getD i 0:=λi=>rS (by rw[c.len];exact hvl)
 refine⟨by rw[cx,c.len],λi hi h=>?_,λi hi h=>?_,c.old,?_⟩
 .rw[hset];split
  .rfl
  .rename_i hne
   rcases(hd _).1 h with h|h
   .exact c.one i hi h
   .omega
 .rw[hset,if_neg (λe=>h ((hd _).2 (.inr om)))];exact c.zero i hi λh'=>h ((hd _).2 (.inl h'))
 .rw[htk];refine⟨?_,λi hi=>?_⟩
  .rw[bQ];refine⟨c.now.1,by simp,λa ha b hb e=>?_⟩;simp only[aF,bA,or_false]at hb;subst hb;exact hnew (.inr (e▸ha))
  .rcases aZ.1 hi with hi|hi
   .exact c.now.2 i hi
   .simp only[aF,bA,or_false]at hi;subst hi;exact hm
def CntI.done(c:CntI es outs n 0 cs)(hall:∀i:Nat,i<es.length->cs.getD i 0≠0):∀x:Nat,x<n->OutsOk es x (outs.getD x []):=by
 intro x hx;obtain⟨nd,sub⟩:=c.old x hx;have sup:∀i∈dJ es ((x:Nat):Int),i∈outs.getD x []:=λi hi=>by
  obtain⟨k,rfl,t,ht⟩:=fp.1 hi;have hk:=(au.1 ht).1;by_cases hd:pz outs n 0 ((k:Nat):Int)
  .rcases hd with⟨y,hy,hm⟩|hd
   .have:=wx hi ((c.old y hy).2 _ hm);have:x=y:=om;subst this;exact hm
   .simp at hd
  .exact absurd (c.zero k hk hd) (hall k hk)
 refine lK nd sub ?_;have h1:=qA nd sub;have h2:=qA (iT (λe=>decide (e.1=((x:Nat):Int))) es 0) sup;exact Nat.le_antisymm h2 h1
def PlanP.tail(hP:PlanP n es order outs)(he:es.all (okE n)=true){i:Nat}(hi:i<es.length):∃y:Nat,y<n/\((i:Nat):Int)∈outs.getD y []:=by
 obtain⟨a,b,hab,ha,_⟩:=nH (bK.1 he _ (ar hi));exact⟨a,ha,(hP.2.2 a ha).mem.2 (fp.2 ⟨i,rfl,_,by rw[aj hi,hab]⟩)⟩
def Ic{n:Nat}(hn:n<=200):wg h [.int .i64 0] 1 8 (.int .i64 (n:Nat)) (.int .i64 (n:Nat))=some (.sl h.next 0 n n,h.new (.cells ((List.replicate n (0:Int)).flatMap eI) 1 false)):=by
 rw[lN (by unfold bf;omega) (by unfold bf;omega),eQ,nM,List.map_replicate]
def Nu{n:Int}{ordv outv:AV}(he:SlE h ev es)(hl0:es.length<2^30)(hp:SlI h ordv order)(hq:SlL h outv outs)(hl:order.length<=200)(hl2:outs.length<=200)(hl3:∀l∈outs,l.length<=200) :
 C prg 44 [.agg [.int .i64 n,ev],.agg [ordv,outv]] h λr h'=>(∃b,r=.bool b/\(b=true↔ft n es/\PlanP n.toNat es order outs))/\Ext h.next h h':=by
 obtain⟨ec,eo⟩:=he.cells;obtain⟨oc,oo⟩:=hp.cells;obtain⟨qc,qo⟩:=hq.cells;have el:=he.len;rw[ah]at el;have lq:=hq.len;refine Oj rfl ?_;refine ae (ak (Mi0) ?_);have ga:∀c,((h.new (.cells [.int .i64 n,ev] 2 false)).new (.cells [ordv,outv] 2 false)).get c=if c=h.next+1 then some (.cells [ordv,outv] 2 false)else if c=h.next then some (.cells [.int .i64 n,ev] 2 false)else h.get c:=λc=>by
  rw[AH.get_new,AH.get_new];rfl
 have x0:Ext h.next h ((h.new (.cells [.int .i64 n,ev] 2 false)).new (.cells [ordv,outv] 2 false)):=(Oe (ab _)).trans (Oe (by simp));have n0:((h.new (.cells [.int .i64 n,ev] 2 false)).new (.cells [ordv,outv] 2 false)).next=h.next+2:=rfl;generalize ((h.new (.cells [.int .i64 n,ev] 2 false)).new (.cells [ordv,outv] 2 false))=h1 at *
 have gG:h1.get h.next=some (.cells [.int .i64 n,ev] 2 false):=by rw[ga,if_neg om,if_pos rfl]
 have gP:h1.get (h.next+1)=some (.cells [ordv,outv] 2 false):=by rw[ga,if_pos rfl]
 have rG:ai h1 h.next 0 2=some [.int .i64 n,ev]:=by rw[aR gG];rfl
 refine ae (ae (bM (bj 1 (Mi1 rG) rfl (Zi1 rG) (Mi1 rG) (uD (he.ext x0 (ab _)) hl0) λr h2 hq'=>?_)));obtain⟨⟨bg,rfl,hbg⟩,x2⟩:=hq';have X2:=x0.trans (x2.mono x0.nx);have n2:=x2.nx;cases bg with
 |false =>
   refine fB 6 (M0) rfl (Z0) ?_;refine bI (M0) ?_;refine cZ (Z0) (ae (ak (M0) ?_));exact bu ⟨.bool false,(by simp only[rs,rf44,am,aL,simprocAttr]<;>rfl),⟨false,rfl,⟨λh=>(by cases h),λhh=>by have:=hbg.2 hh.1;cases this⟩⟩,X2⟩
 |true =>
 have hgood:=hbg.1 rfl;have hm:=hgood.1;obtain⟨nn,rfl⟩:∃nn:Nat,n=nn:=⟨n.toNat,by
  simp only[fC,aU,aK]at hm;omega⟩
 obtain⟨m1,m2,m3,m4⟩:=iX hm;rw[aO];have gG2:h2.get h.next=some (.cells [.int .i64 (nn:Nat),ev] 2 false):=by rw[x2.gt _ om];exact gG
 have gP2:h2.get (h.next+1)=some (.cells [ordv,outv] 2 false):=by rw[x2.gt _ om];exact gP
 have rn:ai h2 h.next 0 1=some [.int .i64 (nn:Nat)]:=bq gG2 rfl;have re:ai h2 h.next 1 1=some [ev]:=bq gG2 rfl;have ra:ai h2 (h.next+1) 0 1=some [ordv]:=bq gP2 rfl;have rb:ai h2 (h.next+1) 1 1=some [outv]:=bq gP2 rfl;refine bj 6 (Mi2 rn ra) rfl (Zi2 rn ra) (Mi2 rn ra) (HF (hp.ext X2 (ab _)) om (by omega:nn<2^40)) λr h3 hq'=>?_;obtain⟨⟨be,rfl,hbe⟩,rfl⟩:=hq';cases be with
 |false =>
   refine bI (M0) ?_;refine cZ (Z0) (ae (ak (M0) ?_));exact bu ⟨.bool false,(by simp only[rs,rf44,am,aL,simprocAttr]<;>rfl),⟨false,rfl,⟨λh=>(by cases h),λhh=>by have:=hbe.2 hh.2.1;cases this⟩⟩,X2⟩
 |true =>
 have hperm:=hbe.1 rfl;refine bI (Mi3 rb rn lq) ?_;refine cF (t:=!decide (outs.length=nn)) (by simp only[am,aL,simprocAttr];exact congrArg AV.bool (by congr 1;simp only[decide_eq_decide];omega)) (λq=>?_) λq=>?_
 .have q:¬outs.length=nn:=by simpa using q
  refine ae (ak (M0) ?_);exact bu ⟨.bool false,(by simp only[rs,rf44,am,aL,simprocAttr]<;>rfl),⟨false,rfl,⟨λh=>(by cases h),λhh=>absurd hh.2.2.1 q⟩⟩,X2⟩
 have q:outs.length=nn:=by simpa using q
 refine bz ?_;refine ae (ak (by simp only[am,aL,simprocAttr,bV,re,el,Ic (show es.length<=200 by omega)]<;>rfl) ?_);have x4:Ext h3.next h3 (h3.new (.cells ((List.replicate es.length (0:Int)).flatMap eI) 1 false)):=Oe (ab _);have g4:(h3.new (.cells ((List.replicate es.length (0:Int)).flatMap eI) 1 false)).get h3.next=some (.cells ((List.replicate es.length (0:Int)).flatMap eI) 1 false):=by rw[AH.get_new,if_pos rfl]
 have n4:(h3.new (.cells ((List.replicate es.length (0:Int)).flatMap eI) 1 false)).next=h3.next+1:=rfl;generalize h3.new (.cells ((List.replicate es.length (0:Int)).flatMap eI) 1 false)=h4 at *
 have hq2:=hq.ext X2;have he2:=he.ext X2 (ab _);have keepP:∀{h':AH},Ext h3.next h3 h'->ai h' (h.next+1) 1 1=some [outv]:=λhx=>by rw[bi (hx.gt _ om)];exact rb
 have keepE:∀{h':AH},Ext h3.next h3 h'->ai h' h.next 1 1=some [ev]:=λhx=>by rw[bi (hx.gt _ om)];exact re
 refine ae (ae (ak (Mi0) ?_))
 refine dX (α:=List Int) (N:=outs.length) (λk _=>[(2,.ptr h.next 0),(3,.ptr (h.next+1) 0),(5,.sl h3.next 0 es.length es.length),(6,.int .i64 (k:Nat))]) (λk a h'=>CntI es outs k 0 a/\h'.get h3.next=some (.cells (a.flatMap eI) 1 false)/\Ext h3.next h3 h') (List.replicate es.length 0) (Oi1 @bh)
  ⟨CntI.start,g4,x4⟩ ?_ ?_ ?_
 .rintro k a ts h5 hk ⟨j1,j2,jx⟩ ⟨e2,e3,e5,e6,-⟩;simp only at e2 e3 e5 e6;exact⟨_,(J5 e3 e6 (keepP jx) lq @bE),I0,O4 e2 e3 e5 e6⟩
 .rintro k a ts h5 hk ⟨j1,j2,jx⟩ ⟨e2,e3,e5,e6,-⟩;simp only at e2 e3 e5 e6;have w1:=dW (k:=k) om;have hgd:outs.getD k []=outs[k]:=uh hk;have hlk:=hl3 _ (ar hk);refine ae (ak (M0) ?_)
  refine dX (α:=List Int) (N:=outs[k].length) (λj _=>[(2,.ptr h.next 0),(3,.ptr (h.next+1) 0),(5,.sl h3.next 0 es.length es.length),(6,.int .i64 (k:Nat)),(7,.int .i64 (j:Nat))]) (λj a h'=>CntI es outs k j a/\h'.get h3.next=some (.cells (a.flatMap eI) 1 false)/\Ext h3.next h3 h') a (O5 e2 e3 e5 e6 @bh)
   ⟨j1,j2,jx⟩ ?_ ?_ ?_
  .rintro j a ts h6 hj ⟨i1,i2,ix⟩ ⟨e2,e3,e5,e6,e7,-⟩;simp only at e2 e3 e5 e6 e7;obtain⟨b1,p1,w,a1,r1,sw,_⟩:=(hq2.ext ix).at hk;have lw:=sw.len;rw[ah]at lw;exact⟨_,(J8 e3 e6 e7 (keepP ix) a1 r1 lw @bE),I0,O5 e2 e3 e5 e6 e7⟩
  .rintro j a ts h6 hj ⟨i1,i2,ix⟩ ⟨e2,e3,e5,e6,e7,-⟩;simp only at e2 e3 e5 e6 e7;have X6:Ext h.next h h6:=X2.trans (ix.mono om);obtain⟨b1,p1,w,a1,r1,sw,_⟩:=(hq2.ext ix).at hk;obtain⟨b2,p2,a2,r2,_⟩:=sw.at1 (cm (f:=eI) hj);have w2:=dW (k:=j) om;have hmem:outs[k][j]∈outs.getD k []:=by rw[hgd];exact ar hj
   refine ae (ak (M8 e3 e6 e7 (keepP ix) a1 r1 a2 r2) ?_);have bad:(PlanP nn es order outs->False)->C prg 44 [] h6 (λ_ _=>True)\/True:=λ_=>.inr trivial;by_cases q1:outs[k][j]<0
   .have c1:decide (outs[k][j]<0)=true:=aH q1;refine ae (ae (ak (M1 c1) ?_));refine cZ (Z0) (ae (ak (M0) ?_));refine bu ⟨.bool false,(by simp only[rs,rf44,am,aL,simprocAttr]<;>rfl),⟨false,rfl,⟨λh=>(by cases h),λhh=>?_⟩⟩,X6⟩;exfalso;obtain⟨kk,hkk,_⟩:=fp.1 ((hh.2.2.2 k om).mem.1 hmem);omega
   have c1:decide (outs[k][j]<0)=false:=aw q1;obtain⟨v,hv⟩:∃v:Nat,outs[k][j]=v:=⟨outs[k][j].toNat,om⟩
   rw[hv]at c1 hmem |-;by_cases q2:((es.length:Nat):Int)<=((v:Nat):Int)
   .have c2:decide (((es.length:Nat):Int)<=((v:Nat):Int))=true:=aH q2;refine ae (ae (ak (M3 e5 c1 c2) ?_));refine cZ (Z0) (ae (ak (M0) ?_));refine bu ⟨.bool false,(by simp only[rs,rf44,am,aL,simprocAttr]<;>rfl),⟨false,rfl,⟨λh=>(by cases h),λhh=>?_⟩⟩,X6⟩;exfalso;obtain⟨kk,hkk,t,ht⟩:=fp.1 ((hh.2.2.2 k om).mem.1 hmem);have:=(au.1 ht).1;omega
   have c2:decide (((es.length:Nat):Int)<=((v:Nat):Int))=false:=aw q2;have hvl:v<es.length:=om;obtain⟨b3,p3,a3,_,rr3,_⟩:=(he2.ext ix (ab _)).at (cm (f:=eE) hvl);have r3:ai h6 b3 p3 1=some [.int .i64 es[v].1]:=rr3 0 _ rfl;by_cases q3:es[v].1=((k:Nat):Int)
   case neg =>
    have c3:decide (es[v].1=((k:Nat):Int))=false:=aw q3;refine ae (ae (ak (M10 e2 e5 e6 (keepE ix) a3 r3 c1 c2 c3 c3) ?_));refine cZ (Z0) (ae (ak (M0) ?_));refine bu ⟨.bool false,(by simp only[rs,rf44,am,aL,simprocAttr]<;>rfl),⟨false,rfl,⟨λh=>(by cases h),λhh=>?_⟩⟩,X6⟩;exfalso;obtain⟨kk,hkk,t,ht⟩:=fp.1 ((hh.2.2.2 k om).mem.1 hmem);have:kk=v:=om;subst this;rw[aj hvl]at ht;simp only[aa]at ht;exact q3 (by rw[ht])
   have c3:decide (es[v].1=((k:Nat):Int))=true:=aH q3;have iv:fe ((v:Nat):Int) es.length=some v:=cK hvl;have r4:ai h6 h3.next v 1=some [.int .i64 (a.getD v 0)]:=bq i2 (JZ (by rw[i1.len];exact hvl));by_cases q4:pz outs k j ((v:Nat):Int)
   .have h1:=i1.one v hvl q4;have c4:decide ((0:Int)<a.getD v 0)=true:=aH om;refine ae (ae (ak (M14 e2 e5 e6 (keepE ix) a3 r3 iv r4 @aP c1 c2 c3 c4 c4) ?_));refine cZ (Z0) (ae (ak (M0) ?_));refine bu ⟨.bool false,(by simp only[rs,rf44,am,aL,simprocAttr]<;>rfl),⟨false,rfl,⟨λh=>(by cases h),λhh=>?_⟩⟩,X6⟩;exfalso;have hok:=hh.2.2.2 k om;rcases q4 with⟨y,hy,hm'⟩|hm'
    .have:=wx ((i1.old y hy).2 _ hm') (hok.mem.1 hmem);omega
    .have hnd:=hok.nodup;rw[hgd]at hnd hm';rw[<-cH j outs[k],cj hj,bQ]at hnd;exact hnd.2.2 _ hm' _ (aM ..) hv.symm
   .have h1:=i1.zero v hvl q4;have c4:decide ((0:Int)<a.getD v 0)=false:=aw om;have w6:bP h6 h3.next v [.int .i64 1]=some (h6.put h3.next (.cells ((a.set v 1).flatMap eI) 1 false)):=by rw[ew i2 (by rw[ee,i1.len];exact hvl),BZ]
    have u:=Oi (o:=.cells ((a.set v 1).flatMap eI) 1 false) i2;refine ae (ae (ak (M14 e2 e5 e6 (keepE ix) a3 r3 iv r4 @aP c1 c2 c3 c4 c4) ?_));refine dC (Z0) (bz (ak (M4 e5 iv @aP w6) ?_));refine⟨a.set v 1,⟨i1.step (by rw[hgd];exact hj) (by simp only[hgd,hv]) hvl q3 h1,u.get,ix.trans (u.ext (ab _))⟩,_,(J2 e7 w2),O4 e2 e3 e5 e6⟩
  .rintro a ts h6 ⟨i1,i2,ix⟩ ⟨e2,e3,e5,e6,e7,-⟩;simp only at e2 e3 e5 e6;refine⟨a,⟨CntI.row (by rw[hgd];exact i1),i2,ix⟩,_,(J2 e6 w1),O3 e2 e3 e5⟩
 rintro a ts h5 ⟨j1,j2,jx⟩ ⟨e2,e3,e5,e6,-⟩;simp only at e5;rw[q]at j1;have X5:Ext h.next h h5:=X2.trans (jx.mono om);refine ae (ae (ak (M0) ?_));refine dX (α:=Unit) (N:=es.length) (λk _=>[(5,.sl h3.next 0 es.length es.length),(9,.int .i64 (k:Nat))]) (λk _ h'=>h'=h5/\∀i:Nat,i<k->a.getD i 0≠0) () (O2 e5 @bh) ⟨rfl,λi hi=>absurd hi om⟩ ?_ ?_ ?_
 .rintro k _ ts h6 hk ⟨rfl,i1⟩ ⟨e5,e9,-⟩;simp only at e5 e9;exact⟨_,(J3 e5 e9 @bE),I0,O2 e5 e9⟩
 .rintro k _ ts h6 hk ⟨rfl,i1⟩ ⟨e5,e9,-⟩;simp only at e5 e9;have ik:fe ((k:Nat):Int) es.length=some k:=cK hk;have r4:ai h6 h3.next k 1=some [.int .i64 (a.getD k 0)]:=bq j2 (JZ (by rw[j1.len];exact hk));have w1:=dW (k:=k) om;refine ae (ak (M5 e5 e9 ik r4 @aP) ?_);refine cF (t:=decide (a.getD k 0=0)) (Z0) (λp=>?_) λp=>?_
  .have p:a.getD k 0=0:=aY p;refine ae (ak (M0) ?_);refine bu ⟨.bool false,(by simp only[rs,rf44,am,aL,simprocAttr]<;>rfl),⟨false,rfl,⟨λh=>(by cases h),λhh=>?_⟩⟩,X5⟩;exfalso;obtain⟨y,hy,hm'⟩:=hh.2.tail m4 hk;have:=j1.one k hk (.inl ⟨y,hy,hm'⟩);omega
  .have p:¬a.getD k 0=0:=bo p;refine bz ⟨(),⟨rfl,λi hi=>?_⟩,_,(J2 e9 w1),O1 e5⟩;by_cases e:i=k
   .subst e;exact p
   .exact i1 i om
 .rintro _ ts h6 ⟨rfl,i1⟩ ⟨e5,e9,-⟩;refine ae (ak (M0) ?_);exact bu ⟨.bool true,(by simp only[rs,rf44,am,aL,simprocAttr]<;>rfl),⟨true,rfl,⟨λ_=>⟨hgood,hperm,q,j1.done i1⟩,λ_=>rfl⟩⟩,X5⟩
end Go.Proofs.YtklpoimdclflmaaGreatDoor
