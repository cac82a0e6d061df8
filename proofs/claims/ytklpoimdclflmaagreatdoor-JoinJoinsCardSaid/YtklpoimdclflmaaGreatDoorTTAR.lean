/- arborref04.Blocks -/
import Derived.Test.YtklpoimdclflmaaGreatDoorTTAQ
import Derived.Test.YtklpoimdclflmaaGreatDoorTTAP
set_option linter.all false
namespace Go.Proofs.YtklpoimdclflmaaGreatDoor
open Go.Am
open Go.Blk (Gr Lst canon)
variable {E:List (Int×Int)}{ev:AV}{h:AH}{i lo m n:Nat}{l:Nat->Nat}
def Gu(m:Nat)(l:Nat->Nat)(i:Nat):List (List Nat):=((List.range i).filter λi=>l i==i).map λi=>(List.range m).filter λk=>l k==i
def rowC(l:Nat->Nat)(i k:Nat):List Nat:=(List.range k).filter λk=>l k==i
def xU:Gu m l (i+1)=Gu m l i++if l i=i then [rowC l i m]else []:=by
 unfold Gu;rw[cP,cB,bS];congr 1;by_cases q:l i=i
 .rw[if_pos q,je (by simpa using q)];rfl
 .rw[if_neg q,jh (by simpa using q)];rfl
def JN(i:Nat):(Gu m l i).length<=i:=by
 unfold Gu;rw[ah];have:=cX (λi=>l i==i) (List.range i);rwa [cw]at this
def wM{k:Nat}:rowC l i (k+1)=rowC l i k++if l k=i then [k]else []:=by
 unfold rowC;rw[cP,cB];congr 1;by_cases q:l k=i
 .rw[if_pos q,je (by simpa using q)];rfl
 .rw[if_neg q,jh (by simpa using q)];rfl
def Hz(k:Nat):(rowC l i k).length<=k:=by
 unfold rowC;have:=cX (λk=>l k==i) (List.range k);rwa [cw]at this
def LL.nil{b:Nat}(hb:lo<=b)(hg:h.get b=some (.cells [] 1 false)):LL h lo (.sl b 0 0 0) [] :=
 ⟨[],.inr ⟨b,0,hb,rfl,hg,rfl⟩,rfl,λi v xs e=>by simp at e⟩
set_option maxHeartbeats 2000000 in
def Cg(he:SlE h ev E)(hE:InG n E)(hL:∀i,i<E.length->tlE E i≠hdE E i)(hxl:E.length<2^30)(hnl:n<2^30) :
 C prg 40 [.agg (gW n ev)] h λr h'=>∃l,Lst (grE n E hE hL) l/\Ext h.next h h'/\LL h' h.next r (canon E.length l):=by
 obtain⟨ec,eo⟩:=he.cells;have hB:∀{h':AH},SlE h' ev E->_:=fun {h'} q=>Fm (n:=n) q hE hL hxl hnl;unfold gW at hB |-;refine Oj rfl ?_;refine ae (ak (Mi0) ?_);have x0:Ext h.next h (h.new (.cells [.int .i64 (n:Nat),ev] 2 false)):=Oe (ab _);have g0:(h.new (.cells [.int .i64 (n:Nat),ev] 2 false)).get h.next=some (.cells [.int .i64 (n:Nat),ev] 2 false):=by rw[AH.get_new,if_pos rfl]
 have n0:(h.new (.cells [.int .i64 (n:Nat),ev] 2 false)).next=h.next+1:=rfl;generalize (h.new (.cells [.int .i64 (n:Nat),ev] 2 false))=h1 at *
 have rA:ai h1 h.next 0 2=some [.int .i64 (n:Nat),ev]:=by rw[aR g0];rfl
 refine ae (bM (bj 1 (Mi1 rA) rfl (Zi1 rA) (Mi1 rA) (hB (he.ext x0 (ab _))) λr h2 hq=>?_));obtain⟨b,l,rfl,hb,x2,g2,lst⟩:=hq;refine bI (M0) ?_;have hb2:=AH.lt_of_get g2;have X2:Ext h.next h h2:=x0.trans (x2.mono om);have x3:Ext h2.next h2 (h2.new (.cells [] 1 false)):=Oe (ab _);have g3:(h2.new (.cells [] 1 false)).get h2.next=some (.cells [] 1 false):=by rw[AH.get_new,if_pos rfl]
 refine ae (ak (M0) ?_);generalize (h2.new (.cells [] 1 false))=h3 at *
 refine ae (ae (ak (M0) ?_))
 refine dX (α:=AV) (N:=E.length) (λi a=>[(3,.sl b 0 E.length E.length),(4,a),(5,.int .i64 (i:Nat))])
  (λi a h'=>Ext h2.next h2 h'/\LL h' h2.next a (Gu E.length l i)) (.sl h2.next 0 0 0) (H1 @bh)
  ⟨x3,LL.nil (ab _) g3⟩ ?_ ?_ ?_
 .rintro i a ts h4 hi ⟨jx,ja⟩ ⟨e3,e4,e5,-⟩;simp only at e3 e4 e5;exact⟨_,(M3 e3 e5 @bE),Z0,H3 e3 e4 e5⟩
 .rintro i a ts h4 hi ⟨jx,ja⟩ ⟨e3,e4,e5,-⟩;simp only at e3 e4 e5;have w5:=dW (k:=i) om;have n4:=jx.nx;have ii:fe ((i:Nat):Int) E.length=some i:=cK hi;have g4:h4.get b=some (.cells (il E.length λi=>((l i:Nat):Int)) 1 false):=by rw[jx.gt _ hb2];exact g2
  have rsi:ai h4 b i 1=some [.int .i64 (l i:Nat)]:=bq g4 (lP hi);by_cases q:l i=i
  .have c1:(!decide (((l i:Nat):Int)=((i:Nat):Int)))=false:=by rw[aH om];rfl
   refine ae (ae (ak (M6 e3 e5 ii @aP rsi c1) ?_));refine dC (Z0) (bz ?_);have x5:Ext h4.next h4 (h4.new (.cells [] 1 false)):=Oe (ab _);have g5:(h4.new (.cells [] 1 false)).get h4.next=some (.cells [] 1 false):=by rw[AH.get_new,if_pos rfl]
   refine ae (ak (M0) ?_);generalize (h4.new (.cells [] 1 false))=h5 at *
   refine ae (ae (ak (M0) ?_))
   refine dX (α:=AV) (N:=E.length) (λk r=>[(3,.sl b 0 E.length E.length),(4,a),(5,.int .i64 (i:Nat)),(6,r),(7,.int .i64 (k:Nat))])
    (λk r h'=>Ext h4.next h4 h'/\IsSl h' 1 h4.next r (nC (rowC l i k))) (.sl h4.next 0 0 0) (H4 e3 e4 e5 @bh)
    ⟨x5,.inr ⟨h4.next,0,ab _,rfl,g5,rfl⟩⟩ ?_ ?_ ?_
   .clear e3 e4 e5;rintro k r ts h6 hk ⟨kx,ka⟩ ⟨e3,e4,e5,e6,e7,-⟩;simp only at e3 e4 e5 e6 e7;exact⟨_,(M3 e3 e7 @bE),Z0,H5 e3 e4 e5 e6 e7⟩
   .clear e3 e4 e5;rintro k r ts h6 hk ⟨kx,ka⟩ ⟨e3,e4,e5,e6,e7,-⟩;simp only at e3 e4 e5 e6 e7;have w7:=dW (k:=k) om;have ik:fe ((k:Nat):Int) E.length=some k:=cK hk;have g6:h6.get b=some (.cells (il E.length λi=>((l i:Nat):Int)) 1 false):=by rw[kx.gt _ om];exact g4
    have rk:ai h6 b k 1=some [.int .i64 (l k:Nat)]:=bq g6 (lP hk);by_cases q2:l k=i
    .have c2:decide (((l k:Nat):Int)=((i:Nat):Int))=true:=aH om;have hrl:=Hz (l:=l) (i:=i) k;obtain⟨r',h7,a7,i7,x7,n7⟩:=ka.push (bytes:=8) [.int .i64 (k:Nat)] (by have:=kx.nx;omega) om rfl rfl (by rw[oW,dN];unfold bf;omega) (by rw[oW,dN];unfold bf;omega);refine ae (ak (M7 e3 e5 e7 ik @aP rk c2) ?_);refine cZ (Z0) ?_;refine ak (M3 e6 e7 a7) ?_;refine⟨r',⟨kx.trans (x7.mono (ab _)),?_⟩,_,(M2 e7 w7),H3 e3 e4 e5⟩;rw[wM,if_pos q2,yz];exact i7
    .have c2:decide (((l k:Nat):Int)=((i:Nat):Int))=false:=aw om;refine ae (ak (M7 e3 e5 e7 ik @aP rk c2) ?_);refine dC (Z0) (bz ?_);refine⟨r,⟨kx,?_⟩,_,(M2 e7 w7),H4 e3 e4 e5 e6⟩;rw[wM,if_neg q2,bF];exact ka
   .clear e3 e4 e5;rintro r ts h6 ⟨kx,ka⟩ ⟨e3,e4,e5,e6,e7,-⟩;simp only at e3 e4 e5 e6;have n6:=kx.nx;have g7:(h6.new (.cells [r] 1 false)).get h6.next=some (.cells [r] 1 false):=by rw[AH.get_new,if_pos rfl]
    have x7:Ext h6.next h6 (h6.new (.cells [r] 1 false)):=Oe (ab _);have n7:(h6.new (.cells [r] 1 false)).next=h6.next+1:=rfl;have hcl:=JN (m:=E.length) (l:=l) i;have rc:=ka.cells;obtain⟨a',h8,a8,i8,x8,_⟩:=((ja.ext kx (ab _)).ext x7 (ab _)).push (x:=h6.next) (v:=r) (xs:=rowC l i E.length) om ((ka.ext x7 (ab _)).mono n4) g7 om (λb' m e=>by
     have:=LL.lt ja e;omega) (λb1 m1 b2 m2 e1 e2=>by
     have h1:=LL.lt ja e2;rcases ka with⟨rfl,_⟩|⟨b',m',hb',rfl,_⟩
     .cases e1
     .cases e1;omega) (by unfold bf;omega)
    refine ak (by simp only[am,aL,simprocAttr,e4,e6,rc.1,rc.2,a8]<;>rfl) ?_;refine⟨a',⟨jx.trans ((kx.mono n4).trans ((x7.mono om).trans x8)),?_⟩,_,(M2 e5 w5),H1 e3⟩;rw[xU,if_pos q];exact i8
  .have c1:(!decide (((l i:Nat):Int)=((i:Nat):Int)))=true:=by rw[aw om];rfl
   refine ae (ae (ak (M6 e3 e5 ii @aP rsi c1) ?_));refine cZ (Z0) (fM ?_);refine⟨λ_=>?_,λq=>absurd rfl q⟩;refine⟨a,⟨jx,?_⟩,_,(M2 e5 w5),H2 e3 e4⟩;rw[xU,if_neg q,bF];exact ja
 .rintro a ts h4 ⟨jx,ja⟩ ⟨e3,e4,e5,-⟩;simp only at e4;obtain⟨vs,j1,j2⟩:=ja;have ac:=j1.cells;refine ae (ak (M1 e4) ?_);exact bu ⟨a,(by simp only[rs,rf40,am,aL,simprocAttr,ac.1]<;>rfl),l,lst,X2.trans (jx.mono X2.nx),LL.mono ⟨vs,j1,j2⟩ X2.nx⟩
def Ls{x:Nat}{bv:AV}{b:List Nat}(he:SlE h ev E)(hb:SlN h bv b)(hE:InG n E)(hlt:∀i∈b,i<E.length)(hbl:b.length<2^40) :
 C prg 41 [.agg (gW n ev),bv,.int .i64 (x:Nat)] h λr h'=>r=.bool (b.any λi=>decide (tlE E i=x)||decide (hdE E i=x))/\Ext h.next h h':=by
 obtain⟨ec,eo⟩:=he.cells;have bl':=hb.len;rw[ah,ah]at bl';unfold gW;refine Oj rfl ?_;refine ae (ak (Mi0) ?_);have x0:Ext h.next h (h.new (.cells [.int .i64 (n:Nat),ev] 2 false)):=Oe (ab _);have g0:(h.new (.cells [.int .i64 (n:Nat),ev] 2 false)).get h.next=some (.cells [.int .i64 (n:Nat),ev] 2 false):=by rw[AH.get_new,if_pos rfl]
 have n0:(h.new (.cells [.int .i64 (n:Nat),ev] 2 false)).next=h.next+1:=rfl;generalize (h.new (.cells [.int .i64 (n:Nat),ev] 2 false))=h1 at *
 refine ae (ae (ak (Mi0) ?_))
 refine dX (α:=Unit) (N:=b.length) (λk _=>[(1,bv),(2,.int .i64 (x:Nat)),(3,.ptr h.next 0),(7,.int .i64 (k:Nat))])
  (λk _ h'=>Ext h.next h h'/\h.next+1<=h'.next/\h'.get h.next=some (.cells [.int .i64 (n:Nat),ev] 2 false)/\(b.take k).any (λi=>decide (tlE E i=x)||decide (hdE E i=x))=false) () (Hi1 @bh) ⟨x0,om,g0,by simp⟩ ?_ ?_ ?_
 .rintro k _ ts h2 hk ⟨jx,jn,jg,ja⟩ ⟨e1,e2,e3,e7,-⟩;simp only at e1 e2 e3 e7;exact⟨_,(M4 e1 e7 bl' @bE),Z0,H4 e1 e2 e3 e7⟩
 .rintro k _ ts h2 hk ⟨jx,jn,jg,ja⟩ ⟨e1,e2,e3,e7,-⟩;simp only at e1 e2 e3 e7;have w7:=dW (k:=k) om;have him:=hlt _ (ar hk);obtain⟨q1,q2,q3⟩:=hE _ him;have rE:ai h2 h.next 1 1=some [ev]:=bq jg rfl;obtain⟨b1,p1,a1,r1,_⟩:=(hb.ext jx (ab _)).at1 (i:=k) (y:=.int .i64 (b[k]:Nat)) (by rw[aV,aV,aj hk];rfl);obtain⟨b2,p2,a2,r2,_⟩:=(he.ext jx (ab _)).at (cm (f:=eE) him);rw[q1]at r2;have hst:(b.take (k+1)).any (λi=>decide (tlE E i=x)||decide (hdE E i=x))=((b.take k).any (λi=>decide (tlE E i=x)||decide (hdE E i=x))||(decide (tlE E b[k]=x)||decide (hdE E b[k]=x))):=by
   rw[aI hk,List.any_append];simp
  have hall:b.any (λi=>decide (tlE E i=x)||decide (hdE E i=x))=((b.take (k+1)).any (λi=>decide (tlE E i=x)||decide (hdE E i=x))||(b.drop (k+1)).any (λi=>decide (tlE E i=x)||decide (hdE E i=x))):=by
   rw[<-List.any_append,cH]
  generalize b[k]=i at *
  obtain⟨h3,w3,x3,g3,n3⟩:=gD (h:=h2) (z:=[.int .i64 0,.int .i64 0]) (cs:=[.int .i64 (tlE E i:Nat),.int .i64 (hdE E i:Nat)]) (e:=2) rfl;refine ae (ak (by simp only[am,aL,simprocAttr,e1,e3,e7,rE,a1,r1,a2,r2,eE,w3]<;>rfl) ?_);have ra:ai h3 h2.next 0 1=some [.int .i64 (tlE E i:Nat)]:=bq g3 rfl;have rb:ai h3 h2.next 1 1=some [.int .i64 (hdE E i:Nat)]:=bq g3 rfl;have X3:=jx.trans (x3.mono om);by_cases k1:tlE E i=x
  .have c1:decide (((tlE E i:Nat):Int)=((x:Nat):Int))=true:=aH om;refine ae (ak (M3 e2 ra c1) ?_);refine cZ (Z0) (ae (ak (M0) ?_));refine bu ⟨.bool true,(by simp only[rs,rf41,am,aL,simprocAttr]<;>rfl),?_,X3⟩;rw[hall,hst,aH k1];simp
  have c1:decide (((tlE E i:Nat):Int)=((x:Nat):Int))=false:=aw om;by_cases k2:hdE E i=x
  .have c2:decide (((hdE E i:Nat):Int)=((x:Nat):Int))=true:=aH om;refine ae (ak (M5 e2 ra rb c1 c2) ?_);refine cZ (Z0) (ae (ak (M0) ?_));refine bu ⟨.bool true,(by simp only[rs,rf41,am,aL,simprocAttr]<;>rfl),?_,X3⟩;rw[hall,hst,aH k2];simp
  have c2:decide (((hdE E i:Nat):Int)=((x:Nat):Int))=false:=aw om;refine ae (ak (M5 e2 ra rb c1 c2) ?_);refine dC (Z0) (bz ?_);refine⟨(),⟨X3,by have:=x3.nx;omega,by rw[x3.gt _ om];exact jg,?_⟩,_,(M2 e7 w7),H3 e1 e2 e3⟩;rw[hst,ja,aw k1,aw k2];rfl
 .rintro _ ts h2 ⟨jx,jn,jg,ja⟩ _;refine ae (ak (M0) ?_);rw[bt]at ja;exact bu ⟨.bool false,(by simp only[rs,rf41,am,aL,simprocAttr]<;>rfl),by rw[ja],jx⟩
def Al{v:AV}{xs:List Int}{x:Int}(hv:SlI h v xs)(hxl:xs.length<2^40):C prg 42 [v,.int .i64 x] h λr h'=>r=.int .i64 (eM (x==·) xs 0)/\h'=h:=by
 have el:=hv.len;rw[ah]at el;refine Oj rfl ?_;refine ae (ak (Mi0) ?_);refine ae (ae (ak (Mi0) ?_))
 refine dX (α:=Unit) (N:=xs.length) (λk _=>[(0,v),(1,.int .i64 x),(5,.int .i64 (k:Nat))])
  (λk _ h'=>h'=h/\eM (x==·) xs 0=eM (x==·) (xs.drop k) k) () (Hi1 @bh) ⟨rfl,rfl⟩ ?_ ?_ ?_
 .rintro k _ ts h2 hk ⟨rfl,ja⟩ ⟨e0,e1,e5,-⟩;simp only at e0 e1 e5;exact⟨_,(M4 e0 e5 el @bE),Z0,H3 e0 e1 e5⟩
 .rintro k _ ts h2 hk ⟨rfl,ja⟩ ⟨e0,e1,e5,-⟩;simp only at e0 e1 e5;have w5:=dW (k:=k) om;obtain⟨b1,p1,a1,r1,_⟩:=hv.at1 (cm (f:=eI) hk);rw[fZ _ hk]at ja;by_cases q:xs[k]=x
  .have c1:decide (xs[k]=x)=true:=aH q;refine ae (ak (M6 e0 e1 e5 a1 r1 c1) ?_);refine cZ (Z0) (ae (ak (M1 e5) ?_));exact bu ⟨_,(by simp only[rs,rf42,am,aL,simprocAttr]<;>rfl),by rw[ja,if_pos (by simp[q])],rfl⟩
  .have c1:decide (xs[k]=x)=false:=aw q;refine ae (ak (M6 e0 e1 e5 a1 r1 c1) ?_);refine dC (Z0) (bz ?_);exact⟨(),⟨rfl,by rw[ja,if_neg (by rw[beq_iff_eq];exact λe=>q e.symm)]⟩,_,(M2 e5 w5),H2 e0 e1⟩
 .rintro _ ts h2 ⟨rfl,ja⟩ _;refine ae (ak (M0) ?_);refine bu ⟨.int .i64 (-1),(by simp only[rs,rf42,am,aL,simprocAttr]<;>rfl),?_,rfl⟩;rw[ja,dy (ab _)];rfl
open Go.Am
open Go.Blk (Gr Lst canon)
def mq{E:List (Int×Int)}(hE:InG n E){i:Nat}(hi:i<E.length):edM E ((i:Nat):Int)=(((tlE E i:Nat):Int),((hdE E i:Nat):Int)):=by
 rw[Jo rfl hi];exact(hE i hi).1
def BE(hE:InG n E){b:List Nat}(hb:∀i∈b,i<E.length)(x:Nat):(b.any λi=>decide (tlE E i=x)||decide (hdE E i=x))=decide (((x:Nat):Int)∈iG E (nI b)):=by
 rw[dM,Kj,aK];unfold iG nI;rw[cM];constructor
 .rintro⟨i,h1,h2⟩;refine⟨_,bp.2 ⟨i,h1,rfl⟩,?_⟩;rw[mq hE (hb i h1)];simp only[dm,aK]at h2;simp only[aF,bA,or_false];omega
 .rintro⟨j,h1,h2⟩;obtain⟨i,h3,rfl⟩:=bp.1 h1;rw[mq hE (hb i h3)]at h2;simp only[aF,bA,or_false]at h2;refine⟨i,h3,?_⟩;simp only[dm,aK];omega
def pL:∀(l:List Int) (v:Int) (k:Nat),l.Pairwise (·<·)->v∈l->eM (v==·) l k=((k+l.countP (λu=>decide (u<v)):Nat):Int)
 |[],v,k,_,h=>by cases h
 |a::l,v,k,hp,h=>by
   obtain⟨p1,p2⟩:=dh.1 hp;show(if (v==a)=true then((k:Nat):Int)else eM (v==·) l (k+1))=_;by_cases e:v=a
   .subst e;have:(v::l).countP (λu=>decide (u<v))=0:=by
     rw[kX];intro u hu;rcases aF.1 hu with rfl|hu
     .simp
     .have:=p1 u hu;simp only[aK];omega
    rw[if_pos (by simp),this];rfl
   .have hm:v∈l:=by
     rcases aF.1 h with q|q
     .exact absurd q e
     .exact q
    have:=p1 v hm;rw[if_neg (by rw[beq_iff_eq];exact e),pL l v (k+1) p2 hm,gr (by simp only[aK];omega)];congr 1;omega
def oM(n:Nat)(E:List (Int×Int))(es:List Int):(vsM n E es).length<=n:=by
 unfold vsM;have:=cX (λv=>decide (v∈iG E es)) (jX n);rwa [kK]at this
def jN{E:List (Int×Int)}(hE:InG n E){b:List Nat}(hb:∀i∈b,i<E.length){i:Nat}(hi:i∈b):((tlE E i:Nat):Int)∈vsM n E (nI b)/\((hdE E i:Nat):Int)∈vsM n E (nI b):=by
 have hil:=hb i hi;obtain⟨_,q2,q3⟩:=hE i hil;unfold vsM;rw[bB,bB,fA,fA,aK,aK];have key:∀x:Int,x∈[((tlE E i:Nat):Int),((hdE E i:Nat):Int)]->x∈iG E (nI b):=λx hx=>by
  unfold iG nI;rw[cM];exact⟨_,bp.2 ⟨i,hi,rfl⟩,by rw[mq hE hil];exact hx⟩
 exact⟨⟨om,key _ (by simp)⟩,om,key _ (by simp)⟩
def LL.at2{a:AV}{xss:List (List Nat)}(hl:LL h lo a xss){i:Nat}(hi:i<xss.length):∃b o v,jZ 1 a (.int .i64 (i:Nat))=some (.ptr b o)/\ai h b o 1=some [v]/\IsSl h 1 lo v (nC xss[i])/\b<h.next/\lo<=b:=by
 obtain⟨b,o,v,q1,q2,q3,q4⟩:=hl.at hi;refine⟨b,o,v,q1,q2,q3,q4,?_⟩;obtain⟨vs,h1,h2,h3⟩:=hl;rcases h1 with⟨rfl,_⟩|⟨b',n,hb,rfl,_⟩
 .cases q1
 .rw[vg]at q1;obtain⟨j,_,e⟩:=aG.1 q1;cases e;exact hb
set_option maxHeartbeats 4000000 in
def EZ(he:SlE h ev E)(hE:InG n E)(hL:∀i,i<E.length->tlE E i≠hdE E i)(hxl:E.length<=128)(hnl:n<=64) :
 C prg 23 [.agg (gW n ev)] h λr h'=>Ext h.next h h'/\∃l,Lst (grE n E hE hL) l/\PL h' h.next r ((canon E.length l).map (lL n E)):=by
 obtain⟨ec,eo⟩:=he.cells;have hB:∀{h':AH},SlE h' ev E->_:=fun {h'} q=>Cg (n:=n) q hE hL om om;have hAt:∀{h':AH}{bv:AV}{b:List Nat}{x:Nat},SlE h' ev E->SlN h' bv b->(∀i∈b,i<E.length)->b.length<2^40->_:=fun {h' bv b x} q1 q2 q3 q4=>Ls (n:=n) (x:=x) q1 q2 hE q3 q4;unfold gW at hB hAt |-;refine Oj rfl ?_;refine ae (ak (Mi0) ?_);have x0:Ext h.next h (h.new (.cells [.int .i64 (n:Nat),ev] 2 false)):=Oe (ab _);have g0:(h.new (.cells [.int .i64 (n:Nat),ev] 2 false)).get h.next=some (.cells [.int .i64 (n:Nat),ev] 2 false):=by rw[AH.get_new,if_pos rfl]
 have n0:(h.new (.cells [.int .i64 (n:Nat),ev] 2 false)).next=h.next+1:=rfl;generalize (h.new (.cells [.int .i64 (n:Nat),ev] 2 false))=h1 at *
 have x2:Ext h1.next h1 (h1.new (.cells [] 4 false)):=Oe (ab _);have g2:(h1.new (.cells [] 4 false)).get h1.next=some (.cells [] 4 false):=by rw[AH.get_new,if_pos rfl]
 have n2:(h1.new (.cells [] 4 false)).next=h1.next+1:=rfl;refine ae (ak (Mi0) ?_);generalize (h1.new (.cells [] 4 false))=h2 at *
 have X2:Ext h.next h h2:=x0.trans (x2.mono om);have gA2:h2.get h.next=some (.cells [.int .i64 (n:Nat),ev] 2 false):=by rw[x2.gt _ om];exact g0
 have rA2:ai h2 h.next 0 2=some [.int .i64 (n:Nat),ev]:=by rw[aR gA2];rfl
 refine ae (bM (bj 1 (Mi1 rA2) rfl (Zi1 rA2) (Mi1 rA2) (hB (he.ext X2 (ab _))) λbv h3 hq=>?_));obtain⟨l,hlst,x3,hLL⟩:=hq;refine bI (M0) ?_;have hBm:=λb hb=>eG (m:=E.length) (l:=l) (b:=b) hb;have hBlen:=lB (m:=E.length) (l:=l);have bl3:=hLL.len;generalize hBc:canon E.length l=B at *
 have X3:Ext h.next h h3:=X2.trans (x3.mono om);have n3:=x3.nx;have gA3:h3.get h.next=some (.cells [.int .i64 (n:Nat),ev] 2 false):=by rw[x3.gt _ om];exact gA2
 have g3:h3.get h1.next=some (.cells [] 4 false):=by rw[x3.gt _ om];exact g2
 refine ae (ae (ak (M0) ?_))
 refine dX (α:=AV) (N:=B.length) (λk a=>[(1,.ptr h.next 0),(3,a),(4,bv),(5,.int .i64 (k:Nat))])
  (λk a h'=>Ext h1.next h3 h'/\(∀c,c<h3.next->c≠h1.next->h'.get c=h3.get c)/\PL h' h1.next a ((B.take k).map (lL n E))/\∀b o m c,a=.sl b o m c->b=h1.next\/h3.next<=b) (.sl h1.next 0 0 0) (Hi1 @bh)
  ⟨Oh,λ_ _ _=>rfl,⟨[],.inr ⟨h1.next,0,ab _,rfl,g3,rfl⟩,rfl,λi x p e=>by simp at e⟩,λb o m c e=>by cases e;exact .inl rfl⟩ ?_ ?_ ?_
 .rintro k a ts h4 hk ⟨jx,jk,ja,jb⟩ ⟨e1,e3,e4,e5,-⟩;simp only at e1 e3 e4 e5;exact⟨_,(M4 e4 e5 bl3 @bE),Z0,H4 e1 e3 e4 e5⟩
 .rintro k a ts h4 hk ⟨jx,jk,ja,jb⟩ ⟨e1,e3,e4,e5,-⟩;simp only at e1 e3 e4 e5;have w5:=dW (k:=k) om;have n4:=jx.nx;obtain⟨k1,k2,k3,_⟩:=hBm _ (ar hk);obtain⟨b1,p1,rv,a1,r1,i1,lb1,lo1⟩:=hLL.at2 hk;generalize hbk:B[k]=bk at *
  have kk:∀{h':AH}{c:Nat},Ext h4.next h4 h'->c<h3.next->c≠h1.next->h'.get c=h3.get c:=fun {h' c} q hc hne=>by rw[q.gt _ om];exact jk c hc hne
  have rrow:∀{h':AH},Ext h4.next h4 h'->ai h' b1 p1 1=some [rv]:=fun {h'} q=>by rw[bi (kk q lb1 om)];exact r1
  have srow:∀{h':AH},Ext h4.next h4 h'->IsSl h' 1 h2.next rv (nC bk):=fun {h'} q=>i1.cong λb m e hb=>kk q (i1.lt e) om;have Xe:∀{h':AH},Ext h4.next h4 h'->Ext h.next h h':=fun {h'} q=>X3.trans ((jx.mono om).trans (q.mono om));have gA:∀{h':AH},Ext h4.next h4 h'->h'.get h.next=some (.cells [.int .i64 (n:Nat),ev] 2 false):=fun {h'} q=>by rw[kk q om om];exact gA3
  obtain⟨rc,ro⟩:=i1.cells;obtain⟨h5,w5',x5,g5,n5⟩:=gD (h:=h4) (z:=[.int .i64 0,.nils,.nils,.nils]) (cs:=[.int .i64 0,.nils,.nils,rv]) (e:=4) rfl;refine ae (ak (by simp only[am,aL,simprocAttr,e4,e5,a1,rrow Oh,rc,ro,eH,w5']<;>rfl) ?_);have bkl:bk.length<=128:=cu k3 hxl;have hNI:∀{h':AH},Ext h4.next h4 h'->SlN h' rv bk:=fun {h'} q=>wZ (srow q);have hrvlt:∀b o m c,rv=.sl b o m c->b<h3.next:=λb o m c e=>i1.lt e;refine ae (ae (ak (M0) ?_))
  refine dX (α:=AV) (N:=n) (λx a2=>[(1,.ptr h.next 0),(3,a),(4,bv),(5,.int .i64 (k:Nat)),(6,.ptr h4.next 0),(7,.int .i64 (x:Nat))])
   (λx a2 h'=>Ext h4.next h4 h'/\h4.next+1<=h'.next/\h'.get h4.next=some (.cells [.int .i64 0,.nils,a2,rv] 4 false)/\IsSl h' 1 (h4.next+1) a2 ((vsM x E (nI bk)).flatMap eI)) .nils (H5 e1 e3 e4 e5 @bh)
   ⟨x5,om,g5,.inl ⟨rfl,rfl⟩⟩ ?_ ?_ ?_
  .clear e1 e3 e4 e5;rintro x a2 ts h6 hx ⟨kx,kn,kg,ka⟩ ⟨e1,e3,e4,e5,e6,e7,-⟩;simp only at e1 e3 e4 e5 e6 e7;have rN:ai h6 h.next 0 1=some [.int .i64 (n:Nat)]:=bq (gA kx) rfl;exact⟨_,(M4 e1 e7 rN @bE),Z0,H6 e1 e3 e4 e5 e6 e7⟩
  .clear e1 e3 e4 e5;rintro x a2 ts h6 hx ⟨kx,kn,kg,ka⟩ ⟨e1,e3,e4,e5,e6,e7,-⟩;simp only at e1 e3 e4 e5 e6 e7 kg ka;have w7:=dW (k:=x) om;have rA6:ai h6 h.next 0 2=some [.int .i64 (n:Nat),ev]:=by rw[aR (gA kx)];rfl
   refine ae (bM (bj 6 (M7 e1 e4 e5 e7 rA6 a1 (rrow kx)) rfl (Z7 e1 e4 e5 e7 rA6 a1 (rrow kx)) (M7 e1 e4 e5 e7 rA6 a1 (rrow kx)) (hAt (x:=x) (he.ext (Xe kx) (ab _)) (hNI kx) k2 om) λr h7 hq=>?_));obtain⟨rfl,x7⟩:=hq;rw[BE hE k2];refine bI (M0) ?_;have kx7:Ext h4.next h4 h7:=kx.trans (x7.mono om);have n7:=x7.nx;have kg7:h7.get h4.next=some (.cells [.int .i64 0,.nils,a2,rv] 4 false):=by rw[x7.gt _ om];exact kg
   have ka7:=ka.ext x7 (ab _);refine cF (t:=decide (((x:Nat):Int)∈iG E (nI bk))) (Z0) (λq=>?_) λq=>?_
   .have q:((x:Nat):Int)∈iG E (nI bk):=aY q;have hvl:=oM x E (nI bk);have hlk:((vsM x E (nI bk)).flatMap eI).length=(vsM x E (nI bk)).length:=by rw[dE (f:=eI) (e:=1) (λ_=>rfl),aP]
    obtain⟨a3,h8,q8,i8,x8,n8⟩:=ka7.push (bytes:=8) [.int .i64 (x:Nat)] om om rfl rfl (by rw[hlk,dN];unfold bf;omega) (by rw[hlk,dN];unfold bf;omega);have rn7:ai h7 h4.next 2 1=some [a2]:=bq kg7 rfl;have kg8:h8.get h4.next=some (.cells [.int .i64 0,.nils,a2,rv] 4 false):=by rw[x8.gt _ om];exact kg7
    have w8:=ew (v:=a3) kg8 (i:=2) (by simp);change bP h8 h4.next 2 [a3]=some (h8.put h4.next (.cells [.int .i64 0,.nils,a3,rv] 4 false))at w8;have u8:=Oi (o:=.cells [.int .i64 0,.nils,a3,rv] 4 false) kg8;obtain⟨ac,ao⟩:=i8.cells;refine ak (M7 e6 e7 rn7 q8 ac ao w8) ?_;refine⟨a3,⟨kx7.trans ((x8.mono om).trans (u8.ext (ab _))),by rw[u8.nx];omega,u8.get,?_⟩,_,(M2 e7 w7),H5 e1 e3 e4 e5 e6⟩;rw[Dy,if_pos q,br];exact i8.upd u8 om
   .have q:¬((x:Nat):Int)∈iG E (nI bk):=bo q;refine bz ⟨a2,⟨kx7,om,kg7,?_⟩,_,(M2 e7 w7),H5 e1 e3 e4 e5 e6⟩;rw[Dy,if_neg q,bF];exact ka7
  clear e1 e3 e4 e5;rintro nm ts h6 ⟨kx,kn,kg,ka⟩ ⟨e1,e3,e4,e5,e6,e7,-⟩;simp only at e1 e3 e4 e5 e6 kg ka;have snm:SlI h6 nm (vsM n E (nI bk)):=Ob om (λ_=>rfl) ka;have lnm:=snm.len;rw[ah]at lnm;have rn6:ai h6 h4.next 2 1=some [nm]:=bq kg rfl;have w6:=ew (v:=.int .i64 ((vsM n E (nI bk)).length:Nat)) kg (i:=0) (by simp);change bP h6 h4.next 0 [.int .i64 ((vsM n E (nI bk)).length:Nat)]=some (h6.put h4.next (.cells [.int .i64 ((vsM n E (nI bk)).length:Nat),.nils,nm,rv] 4 false))at w6;have u6:=Oi (o:=.cells [.int .i64 ((vsM n E (nI bk)).length:Nat),.nils,nm,rv] 4 false) kg;refine ae (ak (M4 e6 rn6 lnm w6) ?_);generalize h6.put h4.next (.cells [.int .i64 ((vsM n E (nI bk)).length:Nat),.nils,nm,rv] 4 false)=h7 at *
  have kx7:Ext h4.next h4 h7:=kx.trans (u6.ext (ab _));have n7:=u6.nx;have ka7:=ka.upd u6 om;have nmb:∀b o m c,nm=.sl b o m c->h4.next+1<=b/\b<h7.next:=λb o m c e=>by
   refine⟨?_,ka7.lt e⟩;rcases ka with⟨rfl,_⟩|⟨b',m',hb',rfl,_⟩
   .cases e
   .cases e;exact hb'
  have snm7:SlI h7 nm (vsM n E (nI bk)):=Ob om (λ_=>rfl) ka7;have same_nm:nm.same nm=true:=by rcases ka with⟨rfl,_⟩|⟨_,_,_,rfl,_⟩<;>first|rfl|exact lf
  have hvl:=oM n E (nI bk);have hrise:=tf n E (nI bk);have g7:=u6.get;refine ae ?_;refine ae (ak (M0) ?_)
  refine dX (α:=AV) (N:=bk.length) (λi a3=>[(1,.ptr h.next 0),(3,a),(4,bv),(5,.int .i64 (k:Nat)),(6,.ptr h4.next 0),(8,.int .i64 (i:Nat))])
   (λi a3 h'=>Ext h4.next h4 h'/\h7.next<=h'.next/\(∀c,c<h7.next->c≠h4.next->h'.get c=h7.get c)/\h'.get h4.next=some (.cells [.int .i64 ((vsM n E (nI bk)).length:Nat),a3,nm,rv] 4 false)/\IsSl h' 2 h7.next a3 ((((nI bk).take i).map λi=>(((dn n E (nI bk) (edM E i).1:Nat):Int),((dn n E (nI bk) (edM E i).2:Nat):Int))).flatMap eE)) .nils (H6 e1 e3 e4 e5 e6 @bh)
   ⟨kx7,ab _,λ_ _ _=>rfl,g7,.inl ⟨rfl,by simp⟩⟩ ?_ ?_ ?_
  .clear e1 e3 e4 e5 e6 e7;rintro i a3 ts h8 hi ⟨jx8,jn8,jk8,jg8,ja8⟩ ⟨e1,e3,e4,e5,e6,e8,-⟩;simp only at e1 e3 e4 e5 e6 e8;have lrv:=(hNI jx8).len;rw[ah,ah]at lrv;exact⟨_,(M7 e4 e5 e8 a1 (rrow jx8) lrv @bE),Z0,H6 e1 e3 e4 e5 e6 e8⟩
  .clear e1 e3 e4 e5 e6 e7;rintro i a3 ts h8 hi ⟨jx8,jn8,jk8,jg8,ja8⟩ ⟨e1,e3,e4,e5,e6,e8,-⟩;simp only at e1 e3 e4 e5 e6 e8 jg8 ja8;have w8:=dW (k:=i) om;have him:=k2 _ (ar hi);have hin:=jN hE k2 (ar hi);obtain⟨q1,q2,q3⟩:=hE _ him;have rE8:ai h8 h.next 1 1=some [ev]:=bq (gA jx8) rfl;obtain⟨b2,p2,a2,r2,_⟩:=(hNI jx8).at1 (i:=i) (y:=.int .i64 (bk[i]:Nat)) (by rw[aV,aV,aj hi];rfl);obtain⟨b3,p3,a3',r3,_⟩:=(he.ext (Xe jx8) (ab _)).at (cm (f:=eE) him);rw[q1]at r3;have hst:=zM (n:=n) (E:=E) (F:=nI bk) (es:=nI bk) (k:=i) (by rw[fj];exact hi);rw[show(nI bk)[i]'(by rw[fj];exact hi)=((bk[i]:Nat):Int) by simp[nI],mq hE him]at hst;generalize bk[i]=e at *
   obtain⟨h9,w9,x9,g9,n9⟩:=gD (h:=h8) (z:=[.int .i64 0,.int .i64 0]) (cs:=[.int .i64 (tlE E e:Nat),.int .i64 (hdE E e:Nat)]) (e:=2) rfl;refine ae (ak (by simp only[am,aL,simprocAttr,e1,e4,e5,e8,rE8,a1,rrow jx8,a2,r2,a3',r3,eE,w9]<;>rfl) ?_);have jx9:Ext h4.next h4 h9:=jx8.trans (x9.mono jx8.nx);have g9p:h9.get h4.next=some (.cells [.int .i64 ((vsM n E (nI bk)).length:Nat),a3,nm,rv] 4 false):=by rw[x9.gt _ om];exact jg8
   have jk9:∀c,c<h7.next->c≠h4.next->h9.get c=h7.get c:=λc hc hne=>by rw[x9.gt _ om];exact jk8 c hc hne
   have ja9:=ja8.ext x9 (ab _);have kg9:∀c,c<h9.next->(h9.keep 1).get c=h9.get c:=λc hc=>by rw[AH.keep_get,if_neg om]
   have kq9:(h9.keep 1).get h9.next=some .resv:=ff;have c9:(h9.keep 1).get h4.next=some (.cells [.int .i64 ((vsM n E (nI bk)).length:Nat),a3,nm,rv] 4 false):=by rw[kg9 _ om];exact g9p
   have d9:(h9.keep 1).get h8.next=some (.cells [.int .i64 (tlE E e:Nat),.int .i64 (hdE E e:Nat)] 2 false):=by rw[kg9 _ om];exact g9
   have s1:ai (h9.keep 1) h4.next 1 1=some [a3]:=bq c9 rfl;have s2:ai (h9.keep 1) h4.next 2 1=some [nm]:=bq c9 rfl;have s3:ai (h9.keep 1) h8.next 0 1=some [.int .i64 (tlE E e:Nat)]:=bq d9 rfl;have s4:ai (h9.keep 1) h8.next 1 1=some [.int .i64 (hdE E e:Nat)]:=bq d9 rfl;have snm9:SlI (h9.keep 1) nm (vsM n E (nI bk)):=snm7.cong λb o m c e'=>by
    have:=nmb b o m c e';rw[kg9 _ om,jk9 _ this.2 om]
   have same_a3:a3.same a3=true:=by rcases ja8 with⟨rfl,_⟩|⟨_,_,_,rfl,_⟩<;>first|rfl|exact lf
   refine pw (ju 11 (M5 e6 s1 s2 s3 s4) rfl (Z5 e6 s1 s2 s3 s4) (M5 e6 s1 s2 s3 s4) (Al (x:=((tlE E e:Nat):Int)) snm9 om) λr h10 hq=>?_);obtain⟨rfl,rfl⟩:=hq;refine⟨by simp only[am,aL,simprocAttr,s1,s2,s4,same_a3,same_nm],?_⟩;refine ju 0 (M0) rfl (Z0) (M0) (Al (x:=((hdE E e:Nat):Int)) snm9 om) λr h11 hq=>?_;obtain⟨rfl,rfl⟩:=hq;refine⟨by simp only[am,aL,simprocAttr,s1,same_a3],?_⟩;have f1:=pL _ _ 0 hrise hin.1;have f2:=pL _ _ 0 hrise hin.2;rw[bN]at f1 f2;change _=((dn n E (nI bk) (tlE E e:Nat):Nat):Int)at f1;change _=((dn n E (nI bk) (hdE E e:Nat):Nat):Int)at f2;obtain⟨p1',pp2,pp3,pp4⟩:=fO (h:=h9) (o:=.cells [.int .i64 (dn n E (nI bk) (tlE E e:Nat):Nat),.int .i64 (dn n E (nI bk) (hdE E e:Nat):Nat)] 2 false);have hlenk:((((nI bk).take i).map λi=>(((dn n E (nI bk) (edM E i).1:Nat):Int),((dn n E (nI bk) (edM E i).2:Nat):Int))).flatMap eE).length=i*2:=by
    rw[dE (f:=eE) (e:=2) (λ_=>rfl),ah,aS,fj,cD om]
   obtain⟨a4,h12,q12,i12,x12,e12,n12,k12,_⟩:=(ja9.ext p1' (ab _)).app (bytes:=16) (x:=h9.next) (new:=[.int .i64 (dn n E (nI bk) (tlE E e:Nat):Nat),.int .i64 (dn n E (nI bk) (hdE E e:Nat):Nat)]) (by rw[pp3];omega) om pp2 om (λb m e'=>by have:=ja9.lt e';omega) rfl rfl
    (by rw[hlenk,cQ _ om];unfold bf;omega) (by rw[hlenk,cQ _ om];unfold bf;omega)
   rw[pp3]at n12;have hlo3:∀b m,a3=.sl b 0 m m->h7.next<=b:=λb m e'=>by
    rcases ja8 with⟨rfl,_⟩|⟨b',m',hb',rfl,_⟩
    .cases e'
    .cases e';exact hb'
   have g12:h12.get h4.next=some (.cells [.int .i64 ((vsM n E (nI bk)).length:Nat),a3,nm,rv] 4 false):=by rw[k12 _ (by rw[pp3];omega) (λb m e'=>by have:=hlo3 b m e';omega),pp4 _ om];exact g9p
   have w12:=ew (v:=a4) g12 (i:=1) (by simp);change bP h12 h4.next 1 [a4]=some (h12.put h4.next (.cells [.int .i64 ((vsM n E (nI bk)).length:Nat),a4,nm,rv] 4 false))at w12;have u12:=Oi (o:=.cells [.int .i64 ((vsM n E (nI bk)).length:Nat),a4,nm,rv] 4 false) g12;obtain⟨ac,ao⟩:=i12.cells;have rp2:cq [AV.int .i64 0,AV.int .i64 0] 1=[.int .i64 0,.int .i64 0]:=rfl;refine bI (by simp only[am,aL,simprocAttr,e6,f1,f2,eA,dR kq9,rp2,q12,ac,ao,w12]<;>rfl) ?_;refine⟨a4,⟨jx9.trans ((p1'.mono om).trans ((x12.mono om).trans (u12.ext (ab _)))),by rw[u12.nx];omega,λc hc hne=>?_,u12.get,?_⟩,_,(M2 e8 w8),H5 e1 e3 e4 e5 e6⟩
   .rw[u12.ne hne,k12 _ (by rw[pp3];omega) (λb m e'=>by have:=hlo3 b m e';omega),pp4 _ om];exact jk9 c hc hne
   .rw[hst,br];exact i12.cong λb m _ hb=>u12.ne om
  clear e1 e3 e4 e5 e6 e7;rintro ed ts h8 ⟨jx8,jn8,jk8,jg8,ja8⟩ ⟨e1,e3,e4,e5,e6,e8,-⟩;simp only at e1 e3 e4 e5 e6 jg8 ja8;rw[dx (by rw[fj];exact ab _)]at ja8;have rP8:ai h8 h4.next 0 4=some [.int .i64 ((vsM n E (nI bk)).length:Nat),ed,nm,rv]:=by rw[aR jg8];rfl
  have x9:Ext h8.next h8 (h8.new (.cells [.int .i64 ((vsM n E (nI bk)).length:Nat),ed,nm,rv] 4 false)):=Oe (ab _);have g9:(h8.new (.cells [.int .i64 ((vsM n E (nI bk)).length:Nat),ed,nm,rv] 4 false)).get h8.next=some (.cells [.int .i64 ((vsM n E (nI bk)).length:Nat),ed,nm,rv] 4 false):=by rw[AH.get_new,if_pos rfl]
  have n9:(h8.new (.cells [.int .i64 ((vsM n E (nI bk)).length:Nat),ed,nm,rv] 4 false)).next=h8.next+1:=rfl;obtain⟨dc,do_⟩:=ja8.cells;obtain⟨mc,mo⟩:=ka.cells;have snm8:SlI h8 nm (vsM n E (nI bk)):=snm7.cong λb o m c e'=>by
   have:=nmb b o m c e';exact jk8 _ this.2 om
  have hpc:PartC (h8.new (.cells [.int .i64 ((vsM n E (nI bk)).length:Nat),ed,nm,rv] 4 false)) a (.int .i64 ((vsM n E (nI bk)).length:Nat),ed,nm,rv) (lL n E bk):=by
   refine⟨rfl,(Ob (f:=eE) om (λ_=>rfl) ja8).ext x9 (ab _),snm8.ext x9 (ab _),(hNI jx8).ext x9 (ab _),λb o m c o' m' c' e1 e2=>?_,λb o m c o' m' c' e1 e2=>?_,λb o m c o' m' c' e1 e2=>?_⟩
   .have h1:=ja.lt e2;rcases ja8 with⟨rfl,_⟩|⟨b',m',hb',rfl,_⟩
    .cases e1
    .cases e1;omega
   .have h1:=ja.lt e2;have h2:=(nmb _ _ _ _ e1).1;omega
   .have h1:=hrvlt _ _ _ _ e1;have h2:=jb _ _ _ _ e2;rcases i1 with⟨rfl,_⟩|⟨b',m',hb',rfl,_⟩
    .cases e1
    .cases e1;omega
  obtain⟨a',h10,a10,i10,x10,n10,f10,k10⟩:=((ja.ext jx8 (ab _)).ext x9 (ab _)).push (q:=h8.next) (by rw[n9];have:=jx8.nx;omega) hpc g9 (by have:=jx8.nx;omega) (λb m e=>by have:=ja.lt e;have:=jx8.nx;omega) (by rw[ah,aS];omega);refine ak (by simp only[am,aL,simprocAttr,e3,e6,rP8,dc,do_,mc,mo,rc,ro,eH,a10]<;>rfl) ?_;have n8:=jx8.nx;refine⟨a',⟨jx.trans ((jx8.mono om).trans ((x9.mono om).trans x10)),λc hc hne=>?_,?_,λb o m c e=>?_⟩,_,(M2 e5 w5),H2 e1 e4⟩
  .rw[k10 c om (λb m e=>by have:=jb _ _ _ _ e;omega),x9.gt _ om,jx8.gt _ om];exact jk c hc hne
  .rw[aI hk,bS,hbk];exact i10
  .have:=f10 b o m c e;rw[n9]at this;omega
 .rintro a ts h4 ⟨jx,jk,ja,jb⟩ ⟨e1,e3,e4,e5,-⟩;simp only at e3;rw[bt]at ja;have ac:=ja.cells;refine ae (ak (M1 e3) ?_);refine bu ⟨_,(by simp only[rs,rf23,am,aL,simprocAttr,ac.1]<;>rfl),X3.trans (jx.mono om),l,hlst,?_⟩;rw[hBc];exact ja.mono om
end Go.Proofs.YtklpoimdclflmaaGreatDoor
namespace Go.Blk
variable {b:List Nat}{e k s v w:Nat}{r:Nat->Nat}
variable {g:Gr}
def qX(hr:∀i,i<g.m->r (g.tl i)<r (g.hd i))(hs:∀v,v<g.n->v≠s->∃i,i<g.m/\g.hd i=v){z:Nat}:∀(k u:Nat),u<g.n->r u<=k->u≠z->(r u<=r z)->(s≠z)->Conn g (·≠z) u s:=by
 intro k;induction k with
 |zero =>
   intro u hu hk hz _ hsz;by_cases e:u=s
   .subst e;exact .refl hz
   .obtain⟨i,hi,rfl⟩:=hs u hu e;have:=hr i hi;omega
 |succ k ih =>
   intro u hu hk hz hle hsz;by_cases e:u=s
   .subst e;exact .refl hz
   .obtain⟨i,hi,rfl⟩:=hs u hu e;have h1:=hr i hi;have hinc:g.inc i (g.hd i):=⟨hi,.inr rfl⟩
    have ho:g.oth i (g.hd i)=g.tl i:=by unfold Gr.oth;omega
    have hne:g.tl i≠z:=λe=>by rw[e]at h1;omega
    have h2:=Conn.edge (S:=(·≠z)) hz hinc (by rw[ho];exact hne);rw[ho]at h2;exact h2.trans (ih (g.tl i) (g.ok i hi).1 om hne om hsz)
def Di(hb:IsBlock g b)(he:e∈b)(hev:g.inc e v)(hk:k∈b)(hw:g.inc k w)(hne:w≠v):∃e0∈b,g.inc e0 v/\Conn g (·≠v) w (g.oth e0 v):=by
 have hc:=hb.2.1 e he k hk;have key:∀k,Cls g e k->∀w,g.inc k w->w≠v->∃e0∈b,g.inc e0 v/\Conn g (·≠v) w (g.oth e0 v):=by
  intro k hc;induction hc with
  |refl =>
    intro w hw hne;have:w=g.oth e v:=iA hev hw hne;exact⟨e,he,hev,by rw[this];exact .refl (inc_oth hev).2.1⟩
  |@step j k h1 h2 ih =>
    intro w hw hne;obtain⟨x,a,c,d⟩:=h2;by_cases hx:x=v
    .subst hx;have:w=g.oth k x:=iA c hw hne;exact⟨k,hb.cls he (.step h1 ⟨x,a,c,d⟩),c,by rw[this];exact .refl (inc_oth c).2.1⟩
    .obtain⟨e0,q1,q2,q3⟩:=ih x a hx;by_cases hwx:w=x
     .subst hwx;exact⟨e0,q1,q2,q3⟩
     .have:w=g.oth k x:=iA c hw hwx;refine⟨e0,q1,q2,?_⟩;have h3:=(Conn.edge (S:=(·≠v)) hx c (by rw[<-this];exact hne)).symm;rw[<-this]at h3;exact h3.trans q3
 exact key k hc w hw hne
def pP(hr:∀i,i<g.m->r (g.tl i)<r (g.hd i))(hs:∀v,v<g.n->v≠s->∃i,i<g.m/\g.hd i=v)(hb:IsBlock g b)(he:e∈b)(hev:g.inc e v)(hno:∀i∈b,g.hd i≠v)(hvs:v≠s)(hk:k∈b)(hw:g.inc k w)(hne:w≠v) :
 ¬Conn g (·≠v) w s:=by
 intro hc;obtain⟨e0,q1,q2,q3⟩:=Di hb he hev hk hw hne;obtain⟨f,hf,hfv⟩:=hs v (inc_lt hev) hvs;have hfi:g.inc f v:=⟨hf,.inr hfv⟩
 have ho:g.oth f v=g.tl f:=by unfold Gr.oth;omega
 have h1:=hr f hf;have hne2:g.tl f≠v:=λe=>by rw[e,hfv]at h1;omega
 have h2:Conn g (·≠v) (g.tl f) s:=qX hr hs (r (g.tl f)) (g.tl f) (g.ok f hf).1 (ab _) hne2 (by rw[hfv]at h1;omega) (Ne.symm hvs);have:Rel g e0 f:=⟨v,q2,hfi,by rw[ho];exact(q3.symm.trans hc).trans h2.symm⟩
 exact hno f (hb.2.2 e0 q1 f this) hfv
def one_source(hr:∀i,i<g.m->r (g.tl i)<r (g.hd i))(hs:∀v,v<g.n->v≠s->∃i,i<g.m/\g.hd i=v)(hb:IsBlock g b)(he:e∈b)(hev:g.inc e v)(hno:∀i∈b,g.hd i≠v)
 {v' e':Nat} (he':e'∈b) (hev':g.inc e' v') (hno':∀i∈b,g.hd i≠v'):v=v':=by
 refine Decidable.byContradiction λhne=>?_;by_cases h1:v=s
 .have h2:v'≠s:=λe=>hne (h1.trans e.symm);exact pP hr hs hb he' hev' hno' h2 he hev hne (by rw[h1];exact .refl (Ne.symm h2))
 .by_cases h2:v'=s
  .exact pP hr hs hb he hev hno h1 he' hev' (Ne.symm hne) (by rw[h2];exact .refl (Ne.symm h1))
  .rcases Nat.le_total (r v) (r v')with h|h
   .exact pP hr hs hb he' hev' hno' h2 he hev hne (qX hr hs (r v) v (inc_lt hev) (ab _) hne h (Ne.symm h2))
   .exact pP hr hs hb he hev hno h1 he' hev' (Ne.symm hne) (qX hr hs (r v') v' (inc_lt hev') (ab _) (Ne.symm hne) h (Ne.symm h1))
end Go.Blk
