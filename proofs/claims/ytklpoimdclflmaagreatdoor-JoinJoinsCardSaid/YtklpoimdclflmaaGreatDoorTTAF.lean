/- graph.View.run, Sources. -/
import Derived.Test.YtklpoimdclflmaaGreatDoorTTAE
set_option linter.all false
namespace Go.Proofs.YtklpoimdclflmaaGreatDoor
open Go.Am
variable {b c i lb n o:Nat}{cs:List AV}{d:Array Int}{es:List (Int×Int)}{h:AH}{v vp:AV}{x:Int}{xs:List Int}
def mV{α:Type}(P:α->Bool):∀(l:List α) (i:Nat),0<=eM P l i->∃k,eM P l i=((i+k:Nat):Int)/\∃(hk:k<l.length),P l[k]=true
 |[],i,h=>by simp[eM]at h
 |x::r,i,h=>by
   simp only[eM]at h |-;by_cases hp:P x=true
   .exact⟨0,by simp[hp],by simp,by simpa using hp⟩
   .simp only[hp,if_false]at h |-;obtain⟨k,h1,h2,h3⟩:=mV P r (i+1) (by simpa using h);exact⟨k+1,by simp only[bT,if_false,h1];congr 1;omega,by simp only[bd];omega,by simpa using h3⟩
def vq{α:Type}(P:α->Bool)(l:List α)(i:Nat)(h:eM P l i<0):∀x∈l,P x=false:=by
 have:=(lj P l i).2.1 h;rw[sm]at this;intro x hx;simpa using this x hx
def nM(xs:List Int):xs.flatMap eI=xs.map (AV.int .i64):=by
 induction xs with
 |nil=>rfl
 |cons x r ih=>rw[bH,ih];rfl
def BZ{z:Int}:(xs.flatMap eI).set i (.int .i64 z)=(xs.set i z).flatMap eI:=by
 rw[nM,nM,vV]
def JZ(hi:i<xs.length):(xs.flatMap eI)[i]?=some (.int .i64 (xs.getD i 0)):=by
 rw[nM,aV,aj hi,aA,aj hi];rfl
def ee(xs:List Int):(xs.flatMap eI).length=xs.length:=by rw[nM,ah]
def Js{b:Nat}:yZ xs ((b:Nat):Int)=xs.set b (xs.getD b 0-1):=rfl
def Mc(hv:IsView h vp n es) :
 C prg 82 [vp] h λr h'=>∃a w out ws,r=.tup [a,w]/\IsSl h' 1 h.next w (ws.flatMap eI)/\Kahn n es out ws/\(∀v:Nat,v<n->ws.getD v 0≠0)/\Ext h.next h h'/\fP a=some (.int .i64 (out.length:Nat)):=by
 obtain⟨b,ev,os,is,ob,ib,rfl,g1,g2,g3,g4,g5,g6,g7,g8,m1,m2,m3,m4⟩:=hv;refine Oj rfl ?_;have r1:ai h b 3 1=some [.sl ib 0 n n]:=bq g1 rfl;refine ae (ak (Mi0) ?_);refine ae (ae (ak (Mi1 r1) ?_))
 refine fi (α:=AV) (N:=n) (λk a=>[(0,.ptr b 0),(12,.sl ib 0 n n),(3,a),(2,.nils)])
  (λk a h'=>IsSl h' 1 h.next a (((List.range k).map λx=>(((dr es ((x:Nat):Int)).length:Nat):Int)).flatMap eI)/\Ext h.next h h') .nils (λ_ _=>rfl) om (Hi0) ⟨.inl ⟨rfl,rfl⟩,Oh⟩ ?_ ?_
 .rintro k a ts h1 hk ⟨j1,j2⟩ ⟨ei,en,e0,e12,e3,e2,-⟩;simp only at ei en e0 e12 e3 e2;have ik:fe ((k:Nat):Int) n=some k:=cK hk;have rk:=bq (show h1.get ib=some (.cells is 1 false) by rw[j2.gt _ (AH.lt_of_get g4)];exact g4) (aj (show k<is.length by omega));have lk:=(g8 k _ (aj (show k<is.length by omega))).len;rw[ah]at lk;have hlen:(((List.range k).map λx=>(((dr es ((x:Nat):Int)).length:Nat):Int)).flatMap eI).length=k:=by rw[ee];simp
  obtain⟨s',h2,a1,i1,x1,n1⟩:=j1.push (bytes:=8) (eI ((dr es ((k:Nat):Int)).length:Nat)) j2.nx om rfl rfl (by rw[hlen];unfold bf;omega) (by rw[hlen];unfold bf;omega);rw[show eI (((dr es ((k:Nat):Int)).length:Nat):Int)=[.int .i64 (((dr es ((k:Nat):Int)).length:Nat):Int)] from rfl]at a1 i1;refine ae (ak (M5 e12 ei ik @aP rk) ?_);refine ak (by simp only[am,aL,simprocAttr,e3,lk,a1]<;>rfl) ?_;refine⟨s',⟨?_,j2.trans x1⟩,H5 ei en e0 e12 e2⟩;rw[cP,bS,br];exact i1
 .rintro w0 ts h1 ⟨j1,j2⟩ ⟨e0,e12,e3,e2,-⟩;simp only at e0 e12 e3 e2;rcases j1 with⟨_,hz⟩|⟨wb,nn,hwb,rfl,gw,hwl⟩
  .exfalso;have:=congrArg List.length hz;rw[ee]at this;simp at this;omega
  have hnn:nn=n:=by rw[ee]at hwl;simp at hwl;omega
  subst hnn
  refine dl (hG (λm ts h'=>∃(a:AV) (out ws:List Int),m=nn-out.length/\Kahn nn es out ws/\IsSl h' 1 (wb+1) a (out.flatMap eI)/\h'.get wb=some (.cells (ws.flatMap eI) 1 false)/\Ext h.next h h'/\wb<h'.next/\Held [(0,.ptr b 0),(3,.sl wb 0 nn nn),(2,a)] ts) ?_ (n:=nn)
   ⟨.nils,[],_,rfl,Kahn.start,.inl ⟨rfl,rfl⟩,gw,j2,AH.lt_of_get gw,H3 e0 e3 e2⟩)
  clear e0 e12 e3 e2 gw j2;rintro m ts h2 ⟨a,out,ws,rfl,k,ia,gw,x2,hwn,e0,e3,e2,-⟩;simp only at e0 e3 e2;have hlo:out.length<=nn:=by
   have h1:out ⊆ (List.range nn).map λx=>((x:Nat):Int):=λv hv=>by
    have:=k.rng v hv;exact bp.2 ⟨v.toNat,aX.2 om,om⟩
   have:=k.nd.length_le_of_subset h1;simpa using this
  have hsl:SlI h2 (.sl wb 0 nn nn) ws:=Ob (lo:=0) om (λ_=>rfl) (.inr ⟨wb,nn,om,rfl,gw,by rw[ee,k.len,aP]⟩);refine dl (ae (bM (bj 1 (M1 e3) rfl (Z1 e3) (M1 e3) (rR (y:=0) hsl (by rw[k.len];omega)) λr h3 hq=>?_)));obtain⟨rfl,x3⟩:=hq;refine bI (M0) ?_;refine ae (ae (ak (M0) ?_));refine cF (t:=decide (eM (0==·) ws 0<0)) (Z0) (λq=>?_) λq=>?_
  .have q:eM (0==·) ws 0<0:=aY q;have hz:=vq _ _ _ q;refine ae (ak (M2 e2 e3) ?_);refine bu ⟨.tup [a,.sl wb 0 nn nn],(by simp only[rs,rf82,am,aL,simprocAttr]<;>rfl),a,_,out,ws,rfl,.inr ⟨wb,nn,hwb,rfl,by rw[x3.gt _ hwn];exact gw,by rw[ee,k.len,aP]⟩,k,λv hv h0=>?_,x2.trans (x3.mono x2.nx),by rw[(Ob (f:=eI) (e:=1) om (λ_=>rfl) ia).len,ah]⟩;have:=hz (ws[v]'(by rw[k.len];exact hv)) (ar _);rw[aA,aj (by rw[k.len];exact hv),cL]at h0;rw[h0]at this;simp at this
  .have q:¬eM (0==·) ws 0<0:=bo q;obtain⟨x,hx1,hx2,hx3⟩:=mV (0==·) ws 0 om;rw[bN]at hx1;rw[hx1];have hx0:ws.getD x 0=0:=by
    rw[aA,aj hx2,cL];simp at hx3;exact hx3.symm
   have hxn:x<nn:=by rw[<-k.len];exact hx2
   refine bz ?_;have k':=k.step m4 m3 hxn hx0;have gw3:h3.get wb=some (.cells (ws.flatMap eI) 1 false):=by rw[x3.gt _ hwn];exact gw
   obtain⟨s',h4,a1,i4,x4,n4⟩:=(ia.ext x3 (ab _)).push (bytes:=8) (eI ((x:Nat):Int)) (by have:=x3.nx;omega) om rfl rfl (by rw[ee];unfold bf;omega) (by rw[ee];unfold bf;omega);rw[show eI ((x:Nat):Int)=[.int .i64 ((x:Nat):Int)] from rfl]at a1 i4;refine ae (ak (M2 e2 a1) ?_);have gw4:h4.get wb=some (.cells (ws.flatMap eI) 1 false):=by rw[x4.gt _ om];exact gw3
   have ix:fe ((x:Nat):Int) nn=some x:=cK hxn;have w5:=ew (v:=.int .i64 (-1)) gw4 (show x<(ws.flatMap eI).length by rw[ee];exact hx2);rw[BZ]at w5;have u5:=Oi (o:=.cells ((ws.set x (-1)).flatMap eI) 1 false) gw4;refine ae (ak (M4 e3 ix @aP w5) ?_);generalize h4.put wb (.cells ((ws.set x (-1)).flatMap eI) 1 false)=h5 at *
   have n3:=x3.nx;have n5:=u5.nx;have X5:Ext h.next h h5:=x2.trans ((x3.mono x2.nx).trans ((x4.mono om).trans (u5.ext om)));have rr2:ai h5 b 2 1=some [.sl ob 0 nn nn]:=bq (by rw[X5.gt _ (AH.lt_of_get g1)];exact g1) rfl;have hol:x<os.length:=om;have rr3:ai h5 ob x 1=some [os[x]]:=bq (by rw[X5.gt _ (AH.lt_of_get g3)];exact g3) (aj hol);have so:=g7 x _ (aj hol);have lo':=so.len;rw[ah]at lo';refine ae (ak (M6 e0 rr2 ix @aP rr3 lo') ?_);have hll:(dJ es ((x:Nat):Int)).length<=128:=cu (fG _ _ _) m3;have hhl:(hsM es ((x:Nat):Int)).length=(dJ es ((x:Nat):Int)).length:=by rw[<-uL,ah]
   refine fi (α:=Unit) (N:=(dJ es ((x:Nat):Int)).length) (λ_ _=>[(43,os[x]),(3,.sl wb 0 nn nn),(0,.ptr b 0),(2,s')])
    (λk _ h'=>h'.get wb=some (.cells ((nP ((hsM es ((x:Nat):Int)).take k) (ws.set x (-1))).flatMap eI) 1 false)/\IsSl h' 1 (wb+1) s' ((out++[((x:Nat):Int)]).flatMap eI)/\Ext h.next h h'/\wb<h'.next) () (λ_ _=>rfl) om (H2 e0 e3)
    ⟨u5.get,by rw[br];exact i4.upd u5 om,X5,om⟩ ?_ ?_
   .clear rr2 rr3 e0 e3 e2;rintro j _ ts h6 hj ⟨j1,j2,j3,j4⟩ ⟨ei,en,e43,e3,e0,e2,-⟩;simp only at ei en e43 e3 e0 e2;obtain⟨jb,jp,a6,r6,_⟩:=(so.ext j3 (ab _)).at1 (cm (f:=eI) hj);obtain⟨ed,hed1,hed2,ed',hed3,hed4⟩:=gX (λe=>decide (e.1=((x:Nat):Int))) es 0 _ (ar hj);rw[bN]at hed1;have hed1:(dJ es ((x:Nat):Int))[j]=((ed:Nat):Int):=hed1;rw[hed1]at r6;obtain⟨ea,eb,eab,hea,heb⟩:=nH (bK.1 m4 _ (ar hed2));have hhj:(hsM es ((x:Nat):Int))[j]'om=((eb:Nat):Int):=by
     have:(hsM es ((x:Nat):Int))[j]?=some ((eb:Nat):Int):=by
      rw[<-uL,aV,aj hj,hed1,aQ,aO,aj hed2,cL,eab]
     exact(au.1 this).2
    obtain⟨eb1,ep,a7,_,r7,_⟩:=(g2.ext j3 (ab _)).at (cm (f:=eE) hed2);have r7:=r7 1 (.int .i64 ((eb:Nat):Int)) (by rw[eab];rfl);have rv:ai h6 b 1 1=some [ev]:=bq (by rw[j3.gt _ (AH.lt_of_get g1)];exact g1) rfl;have ie:fe ((eb:Nat):Int) nn=some eb:=cK heb;have hdl:(nP ((hsM es ((x:Nat):Int)).take j) (ws.set x (-1))).length=nn:=by rw[vH,cx,k.len]
    have rw6:=bq j1 (JZ (show eb<(nP ((hsM es ((x:Nat):Int)).take j) (ws.set x (-1))).length by omega));have hbd:-20000<=(nP ((hsM es ((x:Nat):Int)).take j) (ws.set x (-1))).getD eb 0/\(nP ((hsM es ((x:Nat):Int)).take j) (ws.set x (-1))).getD eb 0<=200:=by
     rw[vI _ _ _ (λc hc=>by have:=IU m4 (kH hc);rw[cx,k.len];omega),rS (by rw[k.len];exact hxn)];have c1:((hsM es ((x:Nat):Int)).take j).count ((eb:Nat):Int)<=128:=cu zD (by rw[aS];omega);have c2:=k.lo eb heb;have c3:ws.getD eb 0<=128:=by
      by_cases hm:((eb:Nat):Int)∈out
      .have:=k.neg eb heb hm;omega
      .rw[k.cnt eb heb hm];have:tS es out ((eb:Nat):Int)<=es.length:=ni;omega
     split
     .omega
     .omega
    have w1:IntKind.i64.wrap ((nP ((hsM es ((x:Nat):Int)).take j) (ws.set x (-1))).getD eb 0-1)=(nP ((hsM es ((x:Nat):Int)).take j) (ws.set x (-1))).getD eb 0-1:=fU om om;have w7:=ew (v:=.int .i64 ((nP ((hsM es ((x:Nat):Int)).take j) (ws.set x (-1))).getD eb 0-1)) j1 (show eb<_ by rw[ee];omega);rw[BZ,<-Js]at w7;have ed1:yZ (nP ((hsM es ((x:Nat):Int)).take j) (ws.set x (-1))) ((eb:Nat):Int)=nP ((hsM es ((x:Nat):Int)).take (j+1)) (ws.set x (-1)):=by
     rw[aI om,hhj];unfold nP;rw[gp];rfl
    rw[ed1]at w7;have u7:=Oi (o:=.cells ((nP ((hsM es ((x:Nat):Int)).take (j+1)) (ws.set x (-1))).flatMap eI) 1 false) j1;refine ae (ak (M4 e43 ei a6 r6) ?_);refine ak (M10 e3 e0 rv a7 r7 ie @aP rw6 w1 w7) ?_;exact⟨(),⟨u7.get,j2.upd u7 om,j3.trans (u7.ext om),by rw[u7.nx];exact j4⟩,H6 ei en e43 e3 e0 e2⟩
   .clear rr2 rr3 e0 e3 e2;rintro _ ts h6 ⟨j1,j2,j3,j4⟩ ⟨e43,e3,e0,e2,-⟩;simp only at e43 e3 e0 e2;rw[<-hhl,bt]at j1;exact⟨nn-(out++[((x:Nat):Int)]).length,by
     have h1:(out++[((x:Nat):Int)]) ⊆ (List.range nn).map λx=>((x:Nat):Int):=λv hv=>by
      have:=k'.rng v hv;exact bp.2 ⟨v.toNat,aX.2 om,om⟩
     have:=k'.nd.length_le_of_subset h1;simp only[aJ,bd,bm,ah,cw]at this |-;omega,s',_,_,rfl,k',j2,j1,j3,j4,H3 e0 e3 e2⟩
def MS{ib:Nat}{ls:List AV}{f:Nat->List Int}(ho:h.get ib=some (.cells ls 1 false))(hl:ls.length=n)(hn:n<=64)(hr:∀(y:Nat) (v:AV),ls[y]?=some v->SlI h v (f y)) :
 C prg 38 [.sl ib 0 n n] h λr h'=>IsSl h' 1 h.next r ((((List.range n).filter λx=>(f x).length==0).map λx=>((x:Nat):Int)).flatMap eI)/\Ext h.next h h':=by
 refine Oj rfl ?_;refine ae (ak (Mi0) ?_);refine ae (ae (ak (Mi0) ?_));refine fi (α:=AV) (N:=n) (λk a=>[(5,.sl ib 0 n n),(2,a)]) (λk a h'=>IsSl h' 1 h.next a ((((List.range k).filter λx=>(f x).length==0).map λx=>((x:Nat):Int)).flatMap eI)/\Ext h.next h h') .nils (λ_ _=>rfl) om (Oi0) ⟨.inl ⟨rfl,rfl⟩,Oh⟩ ?_ ?_
 .rintro k a ts h1 hk ⟨j1,j2⟩ ⟨ei,en,e5,e2,-⟩;simp only at ei en e5 e2;have ik:fe ((k:Nat):Int) n=some k:=cK hk;have rk:=bq (show h1.get ib=some (.cells ls 1 false) by rw[j2.gt _ (AH.lt_of_get ho)];exact ho) (aj (show k<ls.length by omega));have lk:=(hr k _ (aj (show k<ls.length by omega))).len;rw[ah]at lk;have hlen:((((List.range k).filter λx=>(f x).length==0).map λx=>((x:Nat):Int)).flatMap eI).length<=k:=by
   rw[ee,ah];exact cu (cX _ _) (by simp)
  refine ae (ak (M5 e5 ei ik @aP rk) ?_);refine ae (ak (by simp only[am,aL,simprocAttr,lk]<;>rfl) ?_);refine cF (t:=decide ((f k).length=0)) (by simp only[am,aL,simprocAttr];exact congrArg AV.bool (by simp only[decide_eq_decide];omega)) (λq=>?_) λq=>?_
  .have q:(f k).length=0:=aY q;obtain⟨s',h2,a1,i1,x1,n1⟩:=j1.push (bytes:=8) (eI ((k:Nat):Int)) j2.nx om rfl rfl (by unfold bf;omega) (by unfold bf;omega);rw[show eI ((k:Nat):Int)=[.int .i64 ((k:Nat):Int)] from rfl]at a1 i1;refine ak (M2 e2 a1) ?_;refine⟨s',⟨?_,j2.trans x1⟩,O3 ei en e5⟩;rw[cP,cB,fx,if_pos (by simp[q]),List.filter_nil,bS,br];exact i1
  .have q:¬(f k).length=0:=bo q;refine bz ⟨a,⟨?_,j2⟩,O4 ei en e5 e2⟩;rw[cP,cB,fx,if_neg (by simpa using q),List.filter_nil,bF];exact j1
 .rintro a ts h1 ⟨j1,j2⟩ ⟨e5,e2,-⟩;simp only at e5 e2;refine ae (ak (M1 e2) ?_);exact bu ⟨a,(by simp only[rs,rf38,am,aL,simprocAttr]<;>rfl),j1,j2⟩
def gU(n:Nat)(es:List (Int×Int)):List Int:=((List.range n).filter λx=>(dr es ((x:Nat):Int)).length==0).map λx=>((x:Nat):Int)
def qt(hv:IsView h vp n es):C prg 21 [vp] h λr h'=>IsSl h' 1 h.next r ((gU n es).flatMap eI)/\Ext h.next h h':=by
 obtain⟨b,ev,os,is,ob,ib,rfl,g1,g2,g3,g4,g5,g6,g7,g8,m1,m2,m3,m4⟩:=hv;refine Oj rfl ?_;have r1:ai h b 3 1=some [.sl ib 0 n n]:=bq g1 rfl;refine ae (ak (Mi0) ?_);refine ae (bM (bj 4 (Mi1 r1) rfl (Zi1 r1) (Mi1 r1) (MS (f:=λy=>dr es ((y:Nat):Int)) g4 g6 m2 (λy v q=>g8 y v q)) λr h2 hq=>?_));refine bI (M0) ?_;exact bu ⟨r,(by simp only[rs,rf21,am,aL,simprocAttr]<;>rfl),hq⟩
open Go.Am Go.Sort
def mn2{k:IntKind}{x y:Int}:lR mnA [.int k x,.int k y]=some (.int k (if y<x then y else x)):=by simp[lR,mnA]
def LH(hv:SlI h v xs)(hl:xs.length<2^40)(hne:0<xs.length):C prg 88 [v] h λr h'=>∃m,r=.int .i64 m/\m∈xs/\(∀y∈xs,m<=y)/\h'=h:=by
 have el:=hv.len;rw[ah]at el;refine Oj rfl ?_;have c1:decide (((xs.length:Nat):Int)<1)=false:=aw om;refine ae (ak (Mi0) ?_);refine ae (ae (ak (Mi1 el) ?_));refine dC (Z1 c1) (bz ?_);obtain⟨b0,p0,a0,r0,_⟩:=hv.at1 (cm (f:=eI) hne);have a0:jZ 1 v (.int .i64 0)=some (.ptr b0 p0):=a0;refine ae (ak (Mi2 a0 r0) ?_);refine ae (ae (ak (M0) ?_));refine dX (α:=Int) (N:=xs.length-1) (λk a=>[(0,v),(4,.int .i64 ((k+1:Nat):Int)),(3,.int .i64 a)]) (λk a h'=>h'=h/\a∈xs.take (k+1)/\∀y∈xs.take (k+1),a<=y) xs[0] (by simp only[et,eS,am,aL,↓reduceIte,Nat.reduceEqDiff,Int.reduceEq,Nat.reduceAdd,Nat.reduceLeDiff,reduceCtorEq,bV,bN,vX]) ⟨rfl,by rw[aI hne];simp,by rw[aI hne];simp⟩ ?_ ?_ ?_
 .rintro k a ts h1 hk ⟨rfl,j1,j2⟩ ⟨e0,e4,e3,-⟩;simp only at e0 e4 e3;have c2:decide (((k+1:Nat):Int)<((xs.length:Nat):Int))=decide (k<xs.length-1):=by simp only[decide_eq_decide];omega
  exact⟨_,(J4 e0 e4 el c2),I0,O3 e0 e4 e3⟩
 .rintro k a ts h1 hk ⟨rfl,j1,j2⟩ ⟨e0,e4,e3,-⟩;simp only at e0 e4 e3;obtain⟨b1,p1,a1,r1,_⟩:=hv.at1 (cm (f:=eI) (show k+1<xs.length by omega));have w1:IntKind.i64.wrap (((k+1:Nat):Int)+1)=((k+1+1:Nat):Int):=fU om om;refine ak (M6 e0 e4 e3 a1 r1 @mn2) ?_;refine⟨if xs[k+1]<a then xs[k+1]else a,⟨rfl,?_,?_⟩,_,(J2 e4 w1),O2 e0 e4⟩
  .rw[aI (show k+1<xs.length by omega)];split
   .exact aZ.2 (.inr (aM ..))
   .exact aZ.2 (.inl j1)
  .intro y hy;rw[aI (show k+1<xs.length by omega),aZ]at hy;rcases hy with hy|hy
   .have:=j2 y hy;split<;>omega
   .simp only[aF,bA,or_false]at hy;subst hy;split<;>omega
 .rintro a ts h1 ⟨rfl,j1,j2⟩ ⟨e0,e4,e3,-⟩;simp only at e0 e4 e3;rw[show xs.length-1+1=xs.length by omega,bt]at j1 j2;refine ae (ak (M1 e3) ?_);exact bu ⟨_,(by simp only[rs,rf88,am,aL,simprocAttr]<;>rfl),a,rfl,j1,j2,rfl⟩
def Cc(hg:h.get b=some (jT cs o d))(hr:o+d.size<=cs.length)(hs:d.size<2^40) :
 C prg 87 [.sl b o d.size c] h λ_ h'=>Upd h h' b (jT cs o d.reverse):=by
 refine Oj rfl ?_;have w0:IntKind.i64.wrap (((d.size:Nat):Int)-1)=((d.size:Nat):Int)-1-((0:Nat):Int):=by rw[fU om om];omega
 refine ae (ak (Mi1 w0) ?_)
 refine dX (α:=Array Int) (N:=d.size/2) (λk a=>[(0,.sl b o d.size c),(2,.int .i64 (k:Nat)),(3,.int .i64 (((d.size:Nat):Int)-1-((k:Nat):Int)))])
  (λk a h'=>Upd h h' b (jT cs o a)/\a.size=d.size/\∀x,x<d.size->a[x]! = if x<k\/d.size-1-x<k then d[d.size-1-x]! else d[x]!) d (Hi1 @bh) ⟨Upd.refl hg,rfl,λx _=>by rw[if_neg om]⟩ ?_ ?_ ?_
 .rintro k a ts h1 hk ⟨j1,j2,j3⟩ ⟨e0,e2,e3,-⟩;simp only at e0 e2 e3;have c2:decide (((k:Nat):Int)<((d.size:Nat):Int)-1-((k:Nat):Int))=decide (k<d.size/2):=by simp only[decide_eq_decide];omega
  exact⟨_,(M3 e2 e3 c2),Z0,H3 e0 e2 e3⟩
 .rintro k a ts h1 hk ⟨j1,j2,j3⟩ ⟨e0,e2,e3,-⟩;simp only at e0 e2 e3;have hm:((d.size:Nat):Int)-1-((k:Nat):Int)=((d.size-1-k:Nat):Int):=om;have i1:fe ((k:Nat):Int) d.size=some k:=cK om;have i2:fe ((d.size-1-k:Nat):Int) d.size=some (d.size-1-k):=cK om;have r1:=sC (i:=k) j1.get om om;have r2:=sC (i:=d.size-1-k) j1.get om om;obtain⟨m1,m2,s1,s2,u2⟩:=Kv (i:=k) (j:=d.size-1-k) j1.get om om om;have w1:IntKind.i64.wrap (((k:Nat):Int)+1)=((k+1:Nat):Int):=fU om om;have w2:IntKind.i64.wrap (((d.size-1-k:Nat):Int)-1)=((d.size:Nat):Int)-1-((k+1:Nat):Int):=by rw[fU om om];omega
  refine ak (M12 e0 e2 e3 hm i1 i2 r1 r2 s1 s2 @aP @aP) ?_;refine⟨_,⟨j1.trans u2,by rw[EB,j2],?_⟩,_,(M5 e2 e3 hm w1 w2),H1 e0⟩;intro x hx;by_cases x1:x=k
  .subst x1;rw[swp_left _ _ _ om om,j3 _ om,if_neg om,if_pos om]
  .by_cases x2:x=d.size-1-k
   .rw[x2,swp_right _ _ _ om,j3 _ om,if_neg om,if_pos om];congr 1;omega
   .rw[swp_other _ _ _ _ x1 x2,j3 _ hx];by_cases q:x<k\/d.size-1-x<k
    .rw[if_pos q,if_pos om]
    .rw[if_neg q,if_neg om]
 .rintro a ts h1 ⟨j1,j2,j3⟩ _;refine⟨.tup [],rfl,?_⟩;have:a=d.reverse:=by
   refine Array.ext (by simpa using j2) λi h1 h2=>?_;have:=j3 i om;rw[getElem!_pos a i h1]at this;rw[this,Array.getElem_reverse];rw[getElem!_pos d _ om];split
   .rfl
   .rw[getElem!_pos d _ om];congr 1;omega
  rw[<-this];exact j1
open Go.Am
open Go.Sort (swp ltInt)
def cnan_ok:C prg 112 [.int .i64 x] h λv h'=>v=.bool false/\h'=h:=by
 refine Oj rfl ?_;refine ae (ak (Mi0) ?_);have e:(!decide (x=x))=false:=by simp
 refine ae (ak (Mi1 e) ?_);exact bu ⟨.bool false,(by simp only[rs,rf112,am,aL,simprocAttr,bV,decide_true]<;>rfl),rfl,rfl⟩
def LJ{y:Int}:C prg 79 [.int .i64 x,.int .i64 y] h λv h'=>v=.bool (ltInt x y)/\h'=h:=by
 refine Oj rfl ?_;refine ae (ak (Mi0) ?_);refine ae (bM (MU ?_));simp only[am,aL,simprocAttr,bV];refine G.call ?_;simp only[am,aL,simprocAttr,bV];refine cnan_ok.mono λv h' ⟨ev,eh⟩=>?_;subst ev eh;refine bI (by simp only[am,aL,simprocAttr,bV];rfl) ?_;exact bu ⟨.bool (ltInt x y),(by simp only[rs,rf79,am,aL,simprocAttr,bV,ltInt]<;>rfl),rfl,rfl⟩
open Go.Sort (insInner insOuter insertionSort)
open Go.Am
open Go.Sort (swp ltInt siftDown heapBuild heapPop heapSort)
open Go.Am
open Go.Sort (swp ltInt reverseLoop reverseRange scanUp scanDown partLoop partition partEqLoop partitionEqual scanUp_spec scanDown_spec scanUp_ge scanDown_le partLoop_eq partEqLoop_eq)
open Go.Am
open Go.Sort (swp ltInt scanSorted shiftDown shiftUp partialIns partialInsertionSort fixDown fixUp partialIns_succ)
open Go.Am
def Lg{a k:Nat}(hk:k<64):fq .shr .no (.int .u64 (a:Nat)) (.int .u64 (k:Nat))=some (.int .u64 ((a/2^k:Nat):Int)):=by
 have h1:min ((k:Nat):Int).toNat IntKind.u64.bits=k:=by
  have:IntKind.u64.bits=64:=rfl;rw[this,aO];omega
 have h2:((a:Nat):Int).fdiv (2^k)=((a/2^k:Nat):Int):=by
  rw[Int.fdiv_eq_ediv_of_nonneg _ (GI (Int.pow_pos (by decide)))];simp
 have:fq .shr .no (.int .u64 (a:Nat)) (.int .u64 (k:Nat))=Hr .shr .u64 (a:Nat) (k:Nat):=by simp[fq,fL]
 rw[this];have hk0:¬((k:Nat):Int)<0:=om;simp only[Hr,h1,h2,hk0,if_false]
set_option maxRecDepth 8000 in
def Cv:C prg 123 [.int .u64 0] h λv h'=>v=.int .i64 0/\h'=h:=by
 refine Oj rfl ?_;refine ae (ak (Ji0) ?_);have c1:decide ((4294967296:Int)<=0)=false:=by decide
 have c2:decide ((65536:Int)<=0)=false:=by decide
 have c3:decide ((256:Int)<=0)=false:=by decide
 refine ae (ae (ak (Ji1 c1) ?_));refine dC (I1 c1) (bz ?_);refine ae (ae (ak (Ji1 c2) ?_));refine dC (I1 c2) (bz ?_);refine ae (ae (ak (Ji1 c3) ?_));refine dC (I1 c3) (bz ?_);have w1:IntKind.u8.wrap 0=0:=by decide
 have w2:IntKind.i64.wrap 0=0:=by decide
 have w3:IntKind.i64.wrap (0+0)=0:=by decide
 have hi:xt (.str [0,1,2,2,3,3,3,3,4,4,4,4,4,4,4,4,5,5,5,5,5,5,5,5,5,5,5,5,5,5,5,5,6,6,6,6,6,6,6,6,6,6,6,6,6,6,6,6,6,6,6,6,6,6,6,6,6,6,6,6,6,6,6,6,7,7,7,7,7,7,7,7,7,7,7,7,7,7,7,7,7,7,7,7,7,7,7,7,7,7,7,7,7,7,7,7,7,7,7,7,7,7,7,7,7,7,7,7,7,7,7,7,7,7,7,7,7,7,7,7,7,7,7,7,7,7,7,7,8,8,8,8,8,8,8,8,8,8,8,8,8,8,8,8,8,8,8,8,8,8,8,8,8,8,8,8,8,8,8,8,8,8,8,8,8,8,8,8,8,8,8,8,8,8,8,8,8,8,8,8,8,8,8,8,8,8,8,8,8,8,8,8,8,8,8,8,8,8,8,8,8,8,8,8,8,8,8,8,8,8,8,8,8,8,8,8,8,8,8,8,8,8,8,8,8,8,8,8,8,8,8,8,8,8,8,8,8,8,8,8,8,8,8,8,8,8,8,8,8,8,8,8,8,8,8,8]) (.int .u8 0)=some (.int .u8 0):=rfl;refine ae (zz (λts h5=>h5=h/\db ts 2=.int .i64 0) ?_ λts h5 ⟨eh,e2⟩=>bu ⟨.int .i64 0,(by simp only[rs,rf123,am,aL,simprocAttr,e2]<;>rfl),rfl,eh⟩);simp only[am,aL,simprocAttr,bV,w1,hi,w2,w3]
def xZ:C prg 93 [.int .u64 0] h λv h'=>v=.int .i64 0/\h'=h:=by
 refine Oj rfl ?_;refine ae (ak (Ji0) ?_);refine ae (dC rfl (bz ?_));refine ae (bM (bj 1 (Mi0) rfl (Zi0) (Mi0) (Cv) λv h' hq=>?_));obtain⟨rfl,rfl⟩:=hq;refine bI (M0) ?_;exact bu ⟨_,(by simp only[rs,rf93,am,aL,simprocAttr]<;>rfl),rfl,rfl⟩
open Go.Am
open Go.Sort (swp ltInt PermIn)
open Go.Am
open Go.Sort (swp ltInt PermIn swp_permIn permIn_refl permIn_trans)
def Nj{n:Nat}(h:n<2^64):IntKind.u64.wrap ((n:Nat):Int)=((n:Nat):Int):=IntWalk.u64_in _ ⟨om,om⟩
open Go.Am
open Go.Sort (swp ltInt PermIn SortedIn Below permIn_refl permIn_trans insertionSort_holds heapSort_holds partialInsertionSort_holds partition_holds partitionEqual_holds reverseRange_holds swo_ltInt round_eq round_part)
def zO{a v:List AV}(hr:o+a.length<=cs.length)(hl:v.length=a.length):dG (dG cs o a) o v=dG cs o v:=by
 refine cV λi=>?_;have hs:=iK hr;rw[fE (cs:=dG cs o a) (by rw[hs];omega),fE (cs:=cs) (vs:=a) hr,fE (cs:=cs) (vs:=v) om];by_cases q:o<=i/\i<o+v.length
 .rw[if_pos q,if_pos q]
 .rw[if_neg q,if_neg q,if_neg om]
def DE(hg:h.get b=some (jT cs o d))(hr:o+d.size<=cs.length)(hs:d.size<2^38) :
 C prg 58 [.sl b o d.size c] h λv h'=>Mod h.next h h' b (jT cs o (d.toList.mergeSort (λx y=>decide (x<=y))).toArray):=by
 have hi:(iR d).length=d.size:=by simp[iR]
 have hsp:(dG cs o (iR d)).length=cs.length:=iK om;have hsl:(d.toList.mergeSort λx y=>decide (x<=y)).length=d.size:=by rw[wo,bU]
 have hg':h.get b=some (.cells (dG cs o (iR d)) 1 false):=hg;have hrd:ai h b o d.size=some (d.toList.map (AV.int .i64)):=by
  rw[aR hg',if_pos om];congr 1;refine cV λi=>?_;rw[cS,fS,fE om];by_cases q:i<d.size
  .rw[if_pos q,if_pos om,eO];rfl
  .rw[if_neg q,bJ (by simp;omega)]
 have hwr:bP h b o (BV d.toList)=some (h.put b (jT cs o (d.toList.mergeSort (λx y=>decide (x<=y))).toArray)):=by
  have hl:(BV d.toList).length=d.size:=by unfold BV;rw[ah,hsl]
  rw[dw hg',if_pos om,zO om om];rfl
 exact BS.srt ps58 hrd hwr om ⟨_,_,rfl,(Oi hg).mod⟩
open Go.Am Go.Sort
def LY:C prg 124 [.nils,.int .i64 0,.int .i64 0] h λ_ h'=>h'=h:=by
 refine Oj rfl ?_;refine ae (ak (by simp only[am,aL,↓reduceIte,Nat.reduceEqDiff,Int.reduceEq,Nat.reduceAdd,Nat.reduceLeDiff,reduceCtorEq,bV,fU (z:=0+1) (by decide) (by decide)]<;>rfl) ?_);refine dl (hG (λn ts h1=>h1=h/\db ts 2=.int .i64 0/\db ts 6=.int .i64 (0+1)) ?_ (n:=0) ⟨rfl,Ii0,Ii0⟩);rintro n ts h1 ⟨rfl,e2,e6⟩;refine ae (ae (ak (M2 e2 e6) ?_));refine dC (by simp only[am,aL,simprocAttr];rfl) ?_;exact fM ⟨λ_=>⟨.tup [],rfl,rfl⟩,λe=>absurd rfl e⟩
def Lx{l:Int}:C prg 94 [.nils,.int .i64 0,.int .i64 0,.int .i64 l] h λ_ h'=>h'=h:=by
 refine Oj rfl ?_;refine ae (ak (Mi0) ?_);refine ae (ak (Mi0) ?_);refine dl (hG (λn ts h1=>h1=h/\db ts 0=.nils/\db ts 1=.int .i64 0/\db ts 2=.int .i64 0) ?_ (n:=0) ⟨rfl,Zi0,Zi0,Zi0⟩);rintro n ts h1 ⟨rfl,e0,e1,e2⟩;refine dl (ae (ak (by simp only[am,aL,simprocAttr,e1,e2,fU (z:=0-0) (by decide) (by decide)]<;>rfl) ?_));refine ae (ae (ak (M0) ?_));refine cZ (by simp only[am,aL,simprocAttr];rfl) ?_;refine ae (bM (bj 3 (M3 e0 e1 e2) rfl (Z3 e0 e1 e2) (M3 e0 e1 e2) (LY) λv h2 u=>?_));subst u;refine bI (M0) ?_;exact bu ⟨.tup [],rfl,rfl⟩
def GU:C prg 58 [.nils] h λ_ h'=>h'=h:=by
 refine Oj rfl ?_;refine ae (ak (Mi1 @uW) ?_);have wu:IntKind.u64.wrap 0=0:=by decide
 refine bM (bj 4 (Mi1 wu) rfl (Zi1 wu) (Mi1 wu) (xZ) λv h1 hq=>?_);obtain⟨rfl,rfl⟩:=hq;refine jW (Zi0) (Mi0) (Lx) λv h2 hq=>?_;subst hq;refine bI (M0) ?_;exact⟨.tup [],rfl,rfl⟩
def pA(hv:v.cells=[v]):C prg 64 [v] h λr h'=>r=.fn 105 [.ptr h.next 0]/\h'=h.new (.cells [v] 1 false):=by
 refine Oj rfl ?_;refine ae (ak (Mi1 hv) ?_);refine ae (ak (M0) ?_);exact bu ⟨_,(by simp only[rs,rf64,am,aL,simprocAttr]<;>rfl),rfl,rfl⟩
def BP{L:Nat}(J:Nat->AH->Prop)(hJ:∀i h,J i h->ai h lb 0 1=some [v]/\SlI h v xs)(hl:xs.length<2^40)
 (hY:∀i (hi:i<xs.length) h,J i h->Y prg L [.int .i64 xs[i]] h λr h'=>r=.bool true/\J (i+1) h') (h0:J 0 h) :
 C prg 105 [.yld L,.ptr lb 0] h λ_ h'=>J xs.length h':=by
 refine Oj rfl ?_;obtain⟨r0,s0⟩:=hJ 0 h h0;have e1:=s0.len;rw[ah]at e1;refine ae (ak (Mi2 r0 e1) ?_);refine fi (α:=Unit) (N:=xs.length) (λ_ _=>[(0,.yld L),(5,v)]) (λk _ h1=>J k h1) () (λ_ _=>rfl) om (Oi0) h0 ?_ ?_
 .rintro k _ ts h1 hk hj ⟨ei,en,e0,e5,-⟩;simp only at ei en e0 e5;obtain⟨b1,p1,a1,r1,_⟩:=(hJ k h1 hj).2.at1 (cm (f:=eI) hk);refine ae (ak (M4 e5 ei a1 r1) ?_);refine ae (bM (G.gyield 2 (M1 e0) rfl (Z1 e0) (M1 e0) (M1 e0) (hY k hk h1 hj) λr h2 hq=>?_));obtain⟨rfl,hj2⟩:=hq;refine bI (M0) ?_;refine dC (Z0) ?_;exact bz ⟨(),hj2,O4 ei en e0 e5⟩
 .rintro _ ts h1 hj _;exact⟨.tup [],rfl,hj⟩
def GD(hr:ai h lb 0 1=some [v])(hv:SlI h v xs)(hb:lb<h.next)(hl:xs.length<2^34) :
 C prg 143 [.nils,.fn 105 [.ptr lb 0]] h λr h'=>IsSl h' 1 h.next r (xs.flatMap eI)/\Ext h.next h h':=by
 refine Oj rfl ?_;refine ae (ak (Mi0) ?_);have g0:(h.new (.cells [.nils] 1 false)).get h.next=some (.cells [.nils] 1 false):=by rw[AH.get_new,if_pos rfl]
 have x0:Ext h.next h (h.new (.cells [.nils] 1 false)):=Oe (ab _);have n0:(h.new (.cells [.nils] 1 false)).next=h.next+1:=rfl;generalize h.new (.cells [.nils] 1 false)=h0 at *
 refine ae (ae (zz (λts h1=>h1=h0/\db ts 2=.ptr h.next 0/\db ts 6=.fn 105 [.ptr lb 0]) (by simp only[am,aL,simprocAttr,bV]) λts h1 hq=>?_));obtain⟨rfl,e2,e6⟩:=hq;refine dl (W.rangeF (Q:=λ_ h'=>h'.get h1.next=some (.lp 143 [true,false,true,false] ts [7] .ready none)/\(∃s,h'.get h.next=some (.cells [s] 1 false)/\IsSl h' 1 (h.next+2) s (xs.flatMap eI))/\Ext h.next h h'/\h.next+2<=h'.next) (by simp only[am,aL,simprocAttr,e6];rfl) ?_ ?_)
 .refine(BP (xs:=xs) (v:=v) (λi h'=>h'.get h1.next=some (.lp 143 [true,false,true,false] ts [7] .ready none)/\(∃s,h'.get h.next=some (.cells [s] 1 false)/\IsSl h' 1 (h.next+2) s ((xs.take i).flatMap eI))/\Ext h.next h h'/\h.next+2<=h'.next) ?_ om ?_ ?_).mono λr h' q=>by simpa using q
  .rintro i h' ⟨_,_,hx,_⟩;exact⟨by rw[<-hr];exact bi (hx.gt _ hb),hv.ext hx (ab _)⟩
  .rintro i hi h' ⟨hL,⟨s,hs,hsl⟩,hx,hn⟩;refine Y.round hL rfl rfl rfl ?_;refine ak (by simp only[am,aL,simprocAttr,mB]<;>rfl) ?_;refine⟨rfl,?_⟩;have uB:=Oi (o:=.lp 143 [true,false,true,false] ts [7] .busy none) hL;generalize h'.put h1.next (.lp 143 [true,false,true,false] ts [7] .busy none)=hb at *
   have hsl':IsSl hb 1 (h.next+2) s ((xs.take i).flatMap eI):=hsl.upd uB om;have gs:hb.get h.next=some (.cells [s] 1 false):=by rw[uB.ne om];exact hs
   have rs:ai hb h.next 0 1=some [s]:=by rw[aR gs];rfl
   have hlen:((xs.take i).flatMap eI).length=i:=by
    rw[dE (f:=eI) (e:=1) (λ_=>rfl),aS];omega
   obtain⟨s',h2,a1,i1,x1,n1⟩:=hsl'.push (bytes:=8) (eI xs[i]) (by rw[uB.nx];omega) om rfl rfl (by rw[hlen];unfold bf;omega) (by rw[hlen];unfold bf;omega);rw[show eI xs[i]=[.int .i64 xs[i]] from rfl]at a1 i1;have gs2:h2.get h.next=some (.cells [s] 1 false):=by rw[x1.gt _ om];exact gs
   obtain⟨sc,so⟩:=i1.cells;have w1:bP h2 h.next 0 [s']=some (h2.put h.next (.cells [s'] 1 false)):=by rw[dw gs2];rfl
   have uS:=Oi (o:=.cells [s'] 1 false) gs2;refine dl ?_;refine ak (by simp only[am,aL,simprocAttr,e2,rs,a1,sc,so,w1]<;>rfl) ?_;have gL:(h2.put h.next (.cells [s'] 1 false)).get h1.next=some (.lp 143 [true,false,true,false] ts [7] .busy none):=by rw[uS.ne om,x1.gt _ om,uB.get]
   have uR:=Oi (o:=.lp 143 [true,false,true,false] ts [7] .ready none) gL;refine⟨gL,rfl,uR.get,⟨s',by rw[uR.ne om];exact uS.get,?_⟩,?_,?_⟩
   .have e:(xs.take (i+1)).flatMap eI=(xs.take i).flatMap eI++[.int .i64 xs[i]]:=by
     rw[aI hi,br];rfl
    rw[e];exact(i1.upd uS om).upd uR om
   .exact hx.trans ((uB.ext om).trans ((x1.mono om).trans ((uS.ext (ab _)).trans (uR.ext om))))
   .rw[uR.nx,uS.nx];have:=uB.nx;omega
  .have gN:(h1.new (.lp 143 [true,false,true,false] ts [7] .ready none)).get h1.next=some (.lp 143 [true,false,true,false] ts [7] .ready none):=by rw[AH.get_new,if_pos rfl]
   refine⟨gN,⟨.nils,?_,.inl ⟨rfl,rfl⟩⟩,x0.trans (Oe om),by rw[AH.next_new];omega⟩;rw[AH.get_new,if_neg om];exact g0
 .rintro _ h' ⟨hL,⟨s,hs,hsl⟩,hx,hn⟩;refine⟨⟨_,_,_,_,hL⟩,λf1 p1 t1 q1=>?_⟩;have uO:=Oi (o:=.lp f1 p1 t1 q1 .over none) hL;have rs:ai (h'.put h1.next (.lp f1 p1 t1 q1 .over none)) h.next 0 1=some [s]:=by rw[aR (by rw[uO.ne om];exact hs)];rfl
  refine ae (ak (by simp only[am,aL,simprocAttr,e2,rs]<;>rfl) ?_);exact bu ⟨s,(by simp only[Am.results,jj,kZ,rf143,am,aL,↓reduceIte,Nat.reduceEqDiff,Int.reduceEq,Nat.reduceAdd,Nat.reduceLeDiff,reduceCtorEq]<;>rfl),(hsl.upd uO om).mono om,hx.trans (uO.ext om)⟩
def mU:∀xs:List Int,xs.flatMap eI=iR xs.toArray
 |[]=>rfl
 |x::r=>by
   have:=mU r;unfold iR at *
   rw[BJ]at *
   rw[bH,this];rfl
def fQ(xs:List Int):List Int:=xs.mergeSort (λx y=>decide (x<=y))
def gH(xs:List Int):(fQ xs).length=xs.length:=wo _
def pD(hr:ai h lb 0 1=some [v])(hv:SlI h v xs)(hb:lb<h.next)(hl:xs.length<2^34) :
 C prg 63 [.fn 105 [.ptr lb 0]] h λr h'=>IsSl h' 1 h.next r ((fQ xs).flatMap eI)/\Ext h.next h h':=by
 have hcol:C prg 104 [.fn 105 [.ptr lb 0]] h λr h'=>IsSl h' 1 h.next r (xs.flatMap eI)/\Ext h.next h h':=by
  refine Oj rfl ?_;refine ae (ak (Mi0) ?_);refine ae (bM (bj 1 (Mi0) rfl (Zi0) (Mi0) (GD hr hv hb hl) λr h2 hq=>?_));refine bI (M0) ?_;exact bu ⟨r,(by simp only[rs,rf104,am,aL,simprocAttr]<;>rfl),hq⟩
 refine Oj rfl ?_;refine ae (ak (Mi0) ?_);refine ae (bM (bj 1 (Mi0) rfl (Zi0) (Mi0) (hcol) λr h2 hq=>?_));obtain⟨i1,x1⟩:=hq;refine bI (M0) ?_;rcases i1 with⟨rfl,hz⟩|⟨b,n,hbn,rfl,hg,hln⟩
 .have:xs=[]:=by
   cases xs with
   |nil=>rfl
   |cons x r=>simp[eI]at hz
  subst this;refine ae (bM (bj 1 (M0) rfl (Z0) (M0) (GU) λv h3 hq=>?_));subst hq;refine bI (M0) ?_;refine ae (ak (M0) ?_);exact bu ⟨.nils,(by simp only[rs,rf63,am,aL,simprocAttr]<;>rfl),.inl ⟨rfl,by simp[fQ]⟩,x1⟩
 .have hn:n=xs.length:=by rw[dE (f:=eI) (e:=1) (λ_=>rfl)]at hln;omega
  subst hn;have e1:xs.flatMap eI=iR xs.toArray:=mU xs;have hg':h2.get b=some (jT (xs.flatMap eI) 0 xs.toArray):=by
   rw[hg];unfold jT;rw[e1];congr 2;exact(oO (by simp) (by rw[df,bt])).symm
  have hs:=DE (c:=xs.length) hg' (by rw[dg,hln];omega) (by rw[dg];omega);rw[dg]at hs;refine ae (bM (bj 1 (M0) rfl (Z0) (M0) (hs) λv h3 hq=>?_));refine bI (M0) ?_;refine ae (ak (M0) ?_);refine bu ⟨_,(by simp only[rs,rf63,am,aL,simprocAttr]<;>rfl),.inr ⟨b,xs.length,hbn,rfl,?_,?_⟩,x1.trans ((hq.mono x1.nx).toExt hbn)⟩
  .rw[hq.get];unfold jT;have e2:iR (fQ xs).toArray=(fQ xs).flatMap eI:=(mU _).symm;rw[show(xs.toArray.toList.mergeSort λx y=>decide (x<=y))=fQ xs from rfl,e2];simp only[dG,eD,cr,bN];rw[dE (f:=eI) (e:=1) (λ_=>rfl),gH,dy (by rw[hln];omega),bF]
  .rw[dE (f:=eI) (e:=1) (λ_=>rfl),gH]
end Go.Proofs.YtklpoimdclflmaaGreatDoor
