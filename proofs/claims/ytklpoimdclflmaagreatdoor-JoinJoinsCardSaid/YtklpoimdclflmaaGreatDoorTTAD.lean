/- slices.Grow of nothing, Concat, Min, Reverse (printed by too -/
import Derived.Test.YtklpoimdclflmaaGreatDoorTTAC
set_option linter.all false
namespace Go.Proofs.YtklpoimdclflmaaGreatDoor
open Go.Am
variable {b e:Nat}{h:AH}{n:Int}{v:AV}{vs:List AV}
def Ka{gb len cap bytes:Nat}{A Z:List AV}{xs:List (List AV)}(hg:h.get gb=some (.cells (A++Z) e false))(hA:A.length=len*e)(hv:Sl h e v xs)(ho:xs.flatten.all AV.one=true)(hc:len+xs.length<=cap)(hz:xs.length*e<=Z.length) :
 ∃h',gh h e bytes (.sl gb 0 len cap) v=some (.sl gb 0 (len+xs.length) cap,h')/\Upd h h' gb (.cells (A++xs.flatten++Z.drop (xs.length*e)) e false):=by
 obtain⟨s1,s2⟩:=hv.src;by_cases hn:xs.length=0
 .refine⟨h,?_,?_⟩
  .simp only[gh,s1,ho,if_true,hn,eB]
  .have:xs=[]:=aW.1 hn;subst this;simp only[eX,bF,bm,pV,df];exact Upd.refl hg
 .have w:bP h gb (0+len*e) xs.flatten=some (h.put gb (.cells (A++xs.flatten++Z.drop (xs.length*e)) e false)):=by
   rw[dw hg,bN,if_pos (by rw[s2,aJ];omega)];congr 3;unfold dG;rw[<-hA,List.take_left',List.drop_append,List.drop_of_length_le om,s2]
   .simp
   .rfl
  refine⟨_,?_,Oi hg⟩;simp only[gh,s1,ho,if_true,if_neg hn,if_pos hc,w,aQ]
def dt{α:Type}{xss:List (List α)}{k:Nat}(hk:k<xss.length):(xss.take (k+1)).flatten=(xss.take k).flatten++xss[k]:=by
 rw[aI hk,kU];simp
def fY{α:Type}(xss:List (List α))(k:Nat):(xss.take k).flatten.length<=xss.flatten.length:=by
 conv=>rhs;rw[<-cH k xss]
 rw[kU,aJ];omega
def zS:slV h e .nils none (some (.int .i64 0)) none=some .nils:=rfl
def uF{z:List AV}:∀n,(cq z n).length=n*z.length
 |0=>by simp[cq]
 |n+1=>by simp only[cq,aJ,uF n,dF];omega
def sB{z:List AV}:∀k n,(cq z (k+n)).drop (k*z.length)=cq z n
 |0,n=>by simp
 |k+1,n=>by
   have e1:cq z (k+1+n)=z++cq z (k+n):=by rw[show k+1+n=(k+n)+1 by omega];rfl
   have e2:(k+1)*z.length=z.length+k*z.length:=by rw[dF];omega
   rw[e1,e2,<-NX,qR,sB k n]
def IX{N:Nat}(hN:N<2^34):C prg 113 [.nils,.int .i64 (N:Nat)] h λr h'=>(N=0/\r=.nils/\h'=h)\/(0<N/\r=.sl h.next 0 0 N/\h'=h.new (.cells (cq [.int .i64 0] N) 1 false)):=by
 refine Oj rfl ?_;have c1:decide (((N:Nat):Int)<0)=false:=aw om;have w1:IntKind.i64.wrap (0-0)=0:=by decide
 have w2:IntKind.i64.wrap (((N:Nat):Int)-0)=((N:Nat):Int):=by rw[fU om om];omega
 have cp:Gt .nils=some (.int .i64 0):=rfl;refine ae (ak (Mi0) ?_);refine ae (ae (ak (Mi0) ?_));refine dC (I1 c1) (bz ?_);refine ae (ae (ak (Ji3 cp w1 w2) ?_));refine ae (ae (ak (J0) ?_));refine cF (t:=decide (0<N)) (by simp only[am,aL,↓reduceIte,Nat.reduceEqDiff,Int.reduceEq,Nat.reduceAdd,Nat.reduceLeDiff,reduceCtorEq];exact congrArg AV.bool (by simp only[decide_eq_decide];omega)) (λq=>?_) λq=>?_
 .have q:0<N:=aY q;have q0:¬((N:Nat):Int)=0:=om;have az:zj h [.int .i64 0] 8 .nils (.int .i64 (N:Nat))=some (.sl h.next 0 N N,h.new (.cells (cq [.int .i64 0] N) 1 false)):=by
   simp only[zj,if_neg q0];rw[if_pos ⟨om,by unfold bf;omega,by unfold bf;omega⟩];simp
  have g1:(h.new (.cells (cq [.int .i64 0] N) 1 false)).get h.next=some (.cells (cq [.int .i64 0] N) 1 false):=by rw[AH.get_new,if_pos rfl]
  have s1:slV (h.new (.cells (cq [.int .i64 0] N) 1 false)) 1 (.sl h.next 0 N N) none (some (.int .i64 0)) none=some (.sl h.next 0 0 N):=by
   have:=iU (k:=.i64) (show 0<=N by omega);simp only[slV,g1,if_true,tb,this,aQ];have h0:bnd (.int .i64 0) N=some 0:=this;rw[h0];simp only[aQ];split<;>simp
  refine ak (by simp only[am,aL,simprocAttr,bV,dQ,bW,cp,zS,az,s1]<;>rfl) ?_;refine ae (ak (M0) ?_);exact bu ⟨_,(by simp only[rs,rf113,am,aL,simprocAttr]<;>rfl),.inr ⟨q,rfl,rfl⟩⟩
 .have q:¬0<N:=bo q;refine bz (ae (ak (Mi0) ?_));exact bu ⟨_,(by simp only[rs,rf113,am,aL,simprocAttr]<;>rfl),.inl ⟨om,rfl,rfl⟩⟩
def CQ{xss:List (List (Int))}(hv:Sl h 1 v (vs.map λx=>[x]))(hl:vs.length=xss.length)(hx:∀(i:Nat) (w:AV) (xs:List (Int)),vs[i]?=some w->xss[i]?=some xs->SlI h w xs)(hn:xss.length<2^30)(hs:xss.flatten.length<2^34) :
 C prg 89 [v] h λr h'=>IsSl h' 1 h.next r (xss.flatten.flatMap eI)/\Ext h.next h h':=by
 have el:=hv.len;rw[ah,hl]at el;have hvk:∀(k:Nat) (hk:k<xss.length),∃b p,jZ 1 v (.int .i64 (k:Nat))=some (.ptr b p)/\ai h b p 1=some [vs[k]'om]/\b<h.next:=λk hk=>hv.at1 (by rw[aV,aj om];rfl);have hxk:∀(k:Nat) (hk:k<xss.length),SlI h (vs[k]'om) xss[k]:=λk hk=>hx k _ _ (aj _) (aj hk);refine Oj rfl ?_;refine ae (ak (Mi0) ?_);refine ae (ak (M0) ?_);refine ae (ae (ak (Mi1 el) ?_));refine fi (α:=Unit) (N:=xss.length) (λk _=>[(0,v),(9,v),(3,.int .i64 ((xss.take k).flatten.length:Nat))]) (λ_ _ h'=>h'=h) () (λ_ _=>rfl) om (by simp only[et,eS,am,aL,↓reduceIte,Nat.reduceEqDiff,Int.reduceEq,Nat.reduceAdd,Nat.reduceLeDiff,reduceCtorEq,bV,eD,eX,bh]) rfl ?_ ?_
 .rintro k _ ts h1 hk rfl ⟨ei,en,e0,e9,e3,-⟩;simp only at ei en e0 e9 e3;obtain⟨b1,p1,a1,r1,_⟩:=hvk k hk;have lk:=(hxk k hk).len;rw[ah]at lk;have hle:=fY xss (k+1);rw[dt hk,aJ]at hle;have w1:IntKind.i64.wrap ((((xss.take k).flatten.length:Nat):Int)+((xss[k].length:Nat):Int))=(((xss.take (k+1)).flatten.length:Nat):Int):=by
   rw[fU om om,dt hk,aJ];omega
  have c1:decide ((((xss.take (k+1)).flatten.length:Nat):Int)<0)=false:=aw om;refine ae (ak (M4 e9 ei a1 r1) ?_);refine ae (ak (by simp only[am,aL,simprocAttr,e3,lk,w1]<;>rfl) ?_);refine ae (ak (M1 c1) ?_);refine dC (I0) (bz ⟨(),rfl,O4 ei en e0 e9⟩)
 .rintro _ ts h1 rfl ⟨e0,e9,e3,-⟩;simp only at e0 e9 e3;rw[bt]at e3;refine ae (bM (bj 1 (M1 e3) rfl (Z1 e3) (M1 e3) (IX hs) λg h2 hq=>?_));refine bI (M0) ?_;refine ae (ae (ak (M2 e0 el) ?_));rcases hq with⟨hz,rfl,rfl⟩|⟨hz,rfl,rfl⟩
  .refine fi (α:=Unit) (N:=xss.length) (λ_ _=>[(25,v),(6,.nils)]) (λ_ _ h'=>h'=h2) () (λ_ _=>rfl) om (O1 e0) rfl ?_ ?_
   .rintro k _ ts h1 hk rfl ⟨ei,en,e25,e6,-⟩;simp only at ei en e25 e6;obtain⟨b1,p1,a1,r1,_⟩:=hvk k hk;have hle:=fY xss (k+1);rw[dt hk,aJ]at hle;have hk0:xss[k]=[]:=aW.1 om;have s1:=(hxk k hk).src.1;rw[hk0]at s1;have ap:gh h1 1 8 .nils (vs[k]'om)=some (.nils,h1):=by simp[gh,s1]
    refine ae (ak (M4 e25 ei a1 r1) ?_);refine ak (M2 e6 ap) ?_;exact⟨(),rfl,O3 ei en e25⟩
   .rintro _ ts h1 rfl ⟨e25,e6,-⟩;simp only at e25 e6;refine ae (ak (M1 e6) ?_);exact bu ⟨_,(by simp only[rs,rf89,am,aL,simprocAttr]<;>rfl),.inl ⟨rfl,by rw[aW.1 hz];rfl⟩,Oh⟩
  .have g2:(h1.new (.cells (cq [.int .i64 0] xss.flatten.length) 1 false)).get h1.next=some (.cells (cq [.int .i64 0] xss.flatten.length) 1 false):=by rw[AH.get_new,if_pos rfl]
   have x2:Ext h1.next h1 (h1.new (.cells (cq [.int .i64 0] xss.flatten.length) 1 false)):=Oe (ab _);generalize h1.new (.cells (cq [.int .i64 0] xss.flatten.length) 1 false)=h2 at *
   refine fi (α:=Unit) (N:=xss.length) (λk _=>[(25,v),(6,.sl h1.next 0 (xss.take k).flatten.length xss.flatten.length)])
    (λk _ h'=>h'.get h1.next=some (.cells ((xss.take k).flatten.flatMap eI++cq [.int .i64 0] (xss.flatten.length-(xss.take k).flatten.length)) 1 false)/\Ext h1.next h1 h') () (λ_ _=>rfl) om (by simp only[et,eS,am,aL,↓reduceIte,Nat.reduceEqDiff,Int.reduceEq,Nat.reduceAdd,Nat.reduceLeDiff,reduceCtorEq,e0,eD,eX,bm]) ⟨g2,x2⟩ ?_ ?_
   .rintro k _ ts h3 hk ⟨j1,j2⟩ ⟨ei,en,e25,e6,-⟩;simp only at ei en e25 e6;obtain⟨b1,p1,a1,r1,hb⟩:=hvk k hk;have hle:=fY xss (k+1);rw[dt hk,aJ]at hle;have fl:((xss.take k).flatten.flatMap eI).length=(xss.take k).flatten.length*1:=dE (f:=eI) (e:=1) (λ_=>rfl) _;obtain⟨h4,p4,u4⟩:=Ka (bytes:=8) (cap:=xss.flatten.length) j1 fl ((hxk k hk).ext j2 (ab _)) Cr (by rw[ah];omega) (by rw[ah,uF];simp only[bd,bm];omega);have ef:(xss.take k).flatten.length+xss[k].length=(xss.take (k+1)).flatten.length:=by rw[dt hk,aJ]
    rw[ah,ef]at p4;have e2:(xss.take k).flatten.flatMap eI++(xss[k].map eI).flatten++(cq [.int .i64 0] (xss.flatten.length-(xss.take k).flatten.length)).drop ((xss[k].map eI).length*1)=(xss.take (k+1)).flatten.flatMap eI++cq [.int .i64 0] (xss.flatten.length-(xss.take (k+1)).flatten.length):=by
     rw[dt hk,br,<-List.flatMap_def,ah,aJ];congr 1;rw[show xss.flatten.length-(xss.take k).flatten.length=xss[k].length+(xss.flatten.length-((xss.take k).flatten.length+xss[k].length)) by omega];exact sB (z:=[.int .i64 0]) _ _
    rw[e2]at u4;have r1':ai h3 b1 p1 1=some [vs[k]'om]:=by rw[bi (j2.gt _ hb)];exact r1
    refine ae (ak (M4 e25 ei a1 r1') ?_);refine ak (M2 e6 p4) ?_;exact⟨(),⟨u4.get,j2.trans (u4.ext (ab _))⟩,O3 ei en e25⟩
   .rintro _ ts h3 ⟨j1,j2⟩ ⟨e25,e6,-⟩;simp only at e25 e6;rw[bt]at j1 e6;refine ae (ak (M1 e6) ?_);refine bu ⟨_,(by simp only[rs,rf89,am,aL,simprocAttr]<;>rfl),.inr ⟨h1.next,xss.flatten.length,ab _,rfl,?_,dE (f:=eI) (e:=1) (λ_=>rfl) _⟩,j2⟩;rw[j1,dV];simp[cq]
def IW{N:Nat}(hN:N<2^34):C prg 146 [.nils,.int .i64 (N:Nat)] h λr h'=>(N=0/\r=.nils/\h'=h)\/(0<N/\r=.sl h.next 0 0 N/\h'=h.new (.cells (cq [.int .i64 0,.int .i64 0,.int .i64 0] N) 3 false)):=by
 refine Oj rfl ?_;have c1:decide (((N:Nat):Int)<0)=false:=aw om;have w1:IntKind.i64.wrap (0-0)=0:=by decide
 have w2:IntKind.i64.wrap (((N:Nat):Int)-0)=((N:Nat):Int):=by rw[fU om om];omega
 have cp:Gt .nils=some (.int .i64 0):=rfl;refine ae (ak (Mi0) ?_);refine ae (ae (ak (Mi0) ?_));refine dC (I1 c1) (bz ?_);refine ae (ae (ak (Ji3 cp w1 w2) ?_));refine ae (ae (ak (J0) ?_));refine cF (t:=decide (0<N)) (by simp only[am,aL,↓reduceIte,Nat.reduceEqDiff,Int.reduceEq,Nat.reduceAdd,Nat.reduceLeDiff,reduceCtorEq];exact congrArg AV.bool (by simp only[decide_eq_decide];omega)) (λq=>?_) λq=>?_
 .have q:0<N:=aY q;have q0:¬((N:Nat):Int)=0:=om;have az:zj h [.int .i64 0,.int .i64 0,.int .i64 0] 24 .nils (.int .i64 (N:Nat))=some (.sl h.next 0 N N,h.new (.cells (cq [.int .i64 0,.int .i64 0,.int .i64 0] N) 3 false)):=by
   simp only[zj,if_neg q0];rw[if_pos ⟨om,by unfold bf;omega,by unfold bf;omega⟩];simp
  have g1:(h.new (.cells (cq [.int .i64 0,.int .i64 0,.int .i64 0] N) 3 false)).get h.next=some (.cells (cq [.int .i64 0,.int .i64 0,.int .i64 0] N) 3 false):=by rw[AH.get_new,if_pos rfl]
  have s1:slV (h.new (.cells (cq [.int .i64 0,.int .i64 0,.int .i64 0] N) 3 false)) 3 (.sl h.next 0 N N) none (some (.int .i64 0)) none=some (.sl h.next 0 0 N):=by
   have:=iU (k:=.i64) (show 0<=N by omega);simp only[slV,g1,if_true,tb,this,aQ];have h0:bnd (.int .i64 0) N=some 0:=this;rw[h0];simp only[aQ];split<;>simp
  refine ak (by simp only[am,aL,simprocAttr,bV,dQ,bW,cp,zS,az,s1]<;>rfl) ?_;refine ae (ak (M0) ?_);exact bu ⟨_,(by simp only[rs,rf146,am,aL,simprocAttr]<;>rfl),.inr ⟨q,rfl,rfl⟩⟩
 .have q:¬0<N:=bo q;refine bz (ae (ak (Mi0) ?_));exact bu ⟨_,(by simp only[rs,rf146,am,aL,simprocAttr]<;>rfl),.inl ⟨om,rfl,rfl⟩⟩
def CP{xss:List (List (Int×Int×Int))}(hv:Sl h 1 v (vs.map λx=>[x]))(hl:vs.length=xss.length)(hx:∀(i:Nat) (w:AV) (xs:List (Int×Int×Int)),vs[i]?=some w->xss[i]?=some xs->SlT h w xs)(hn:xss.length<2^30)(hs:xss.flatten.length<2^34) :
 C prg 108 [v] h λr h'=>IsSl h' 3 h.next r (xss.flatten.flatMap eT)/\Ext h.next h h':=by
 have el:=hv.len;rw[ah,hl]at el;have hvk:∀(k:Nat) (hk:k<xss.length),∃b p,jZ 1 v (.int .i64 (k:Nat))=some (.ptr b p)/\ai h b p 1=some [vs[k]'om]/\b<h.next:=λk hk=>hv.at1 (by rw[aV,aj om];rfl);have hxk:∀(k:Nat) (hk:k<xss.length),SlT h (vs[k]'om) xss[k]:=λk hk=>hx k _ _ (aj _) (aj hk);refine Oj rfl ?_;refine ae (ak (Mi0) ?_);refine ae (ak (M0) ?_);refine ae (ae (ak (Mi1 el) ?_));refine fi (α:=Unit) (N:=xss.length) (λk _=>[(0,v),(9,v),(3,.int .i64 ((xss.take k).flatten.length:Nat))]) (λ_ _ h'=>h'=h) () (λ_ _=>rfl) om (by simp only[et,eS,am,aL,↓reduceIte,Nat.reduceEqDiff,Int.reduceEq,Nat.reduceAdd,Nat.reduceLeDiff,reduceCtorEq,bV,eD,eX,bh]) rfl ?_ ?_
 .rintro k _ ts h1 hk rfl ⟨ei,en,e0,e9,e3,-⟩;simp only at ei en e0 e9 e3;obtain⟨b1,p1,a1,r1,_⟩:=hvk k hk;have lk:=(hxk k hk).len;rw[ah]at lk;have hle:=fY xss (k+1);rw[dt hk,aJ]at hle;have w1:IntKind.i64.wrap ((((xss.take k).flatten.length:Nat):Int)+((xss[k].length:Nat):Int))=(((xss.take (k+1)).flatten.length:Nat):Int):=by
   rw[fU om om,dt hk,aJ];omega
  have c1:decide ((((xss.take (k+1)).flatten.length:Nat):Int)<0)=false:=aw om;refine ae (ak (M4 e9 ei a1 r1) ?_);refine ae (ak (by simp only[am,aL,simprocAttr,e3,lk,w1]<;>rfl) ?_);refine ae (ak (M1 c1) ?_);refine dC (I0) (bz ⟨(),rfl,O4 ei en e0 e9⟩)
 .rintro _ ts h1 rfl ⟨e0,e9,e3,-⟩;simp only at e0 e9 e3;rw[bt]at e3;refine ae (bM (bj 1 (M1 e3) rfl (Z1 e3) (M1 e3) (IW hs) λg h2 hq=>?_));refine bI (M0) ?_;refine ae (ae (ak (M2 e0 el) ?_));rcases hq with⟨hz,rfl,rfl⟩|⟨hz,rfl,rfl⟩
  .refine fi (α:=Unit) (N:=xss.length) (λ_ _=>[(25,v),(6,.nils)]) (λ_ _ h'=>h'=h2) () (λ_ _=>rfl) om (O1 e0) rfl ?_ ?_
   .rintro k _ ts h1 hk rfl ⟨ei,en,e25,e6,-⟩;simp only at ei en e25 e6;obtain⟨b1,p1,a1,r1,_⟩:=hvk k hk;have hle:=fY xss (k+1);rw[dt hk,aJ]at hle;have hk0:xss[k]=[]:=aW.1 om;have s1:=(hxk k hk).src.1;rw[hk0]at s1;have ap:gh h1 3 24 .nils (vs[k]'om)=some (.nils,h1):=by simp[gh,s1]
    refine ae (ak (M4 e25 ei a1 r1) ?_);refine ak (M2 e6 ap) ?_;exact⟨(),rfl,O3 ei en e25⟩
   .rintro _ ts h1 rfl ⟨e25,e6,-⟩;simp only at e25 e6;refine ae (ak (M1 e6) ?_);exact bu ⟨_,(by simp only[rs,rf108,am,aL,simprocAttr]<;>rfl),.inl ⟨rfl,by rw[aW.1 hz];rfl⟩,Oh⟩
  .have g2:(h1.new (.cells (cq [.int .i64 0,.int .i64 0,.int .i64 0] xss.flatten.length) 3 false)).get h1.next=some (.cells (cq [.int .i64 0,.int .i64 0,.int .i64 0] xss.flatten.length) 3 false):=by rw[AH.get_new,if_pos rfl]
   have x2:Ext h1.next h1 (h1.new (.cells (cq [.int .i64 0,.int .i64 0,.int .i64 0] xss.flatten.length) 3 false)):=Oe (ab _);generalize h1.new (.cells (cq [.int .i64 0,.int .i64 0,.int .i64 0] xss.flatten.length) 3 false)=h2 at *
   refine fi (α:=Unit) (N:=xss.length) (λk _=>[(25,v),(6,.sl h1.next 0 (xss.take k).flatten.length xss.flatten.length)])
    (λk _ h'=>h'.get h1.next=some (.cells ((xss.take k).flatten.flatMap eT++cq [.int .i64 0,.int .i64 0,.int .i64 0] (xss.flatten.length-(xss.take k).flatten.length)) 3 false)/\Ext h1.next h1 h') () (λ_ _=>rfl) om (by simp only[et,eS,am,aL,↓reduceIte,Nat.reduceEqDiff,Int.reduceEq,Nat.reduceAdd,Nat.reduceLeDiff,reduceCtorEq,e0,eD,eX,bm]) ⟨g2,x2⟩ ?_ ?_
   .rintro k _ ts h3 hk ⟨j1,j2⟩ ⟨ei,en,e25,e6,-⟩;simp only at ei en e25 e6;obtain⟨b1,p1,a1,r1,hb⟩:=hvk k hk;have hle:=fY xss (k+1);rw[dt hk,aJ]at hle;have fl:((xss.take k).flatten.flatMap eT).length=(xss.take k).flatten.length*3:=dE (f:=eT) (e:=3) (λ_=>rfl) _;obtain⟨h4,p4,u4⟩:=Ka (bytes:=24) (cap:=xss.flatten.length) j1 fl ((hxk k hk).ext j2 (ab _)) qy (by rw[ah];omega) (by rw[ah,uF];simp only[bd,bm];omega);have ef:(xss.take k).flatten.length+xss[k].length=(xss.take (k+1)).flatten.length:=by rw[dt hk,aJ]
    rw[ah,ef]at p4;have e2:(xss.take k).flatten.flatMap eT++(xss[k].map eT).flatten++(cq [.int .i64 0,.int .i64 0,.int .i64 0] (xss.flatten.length-(xss.take k).flatten.length)).drop ((xss[k].map eT).length*3)=(xss.take (k+1)).flatten.flatMap eT++cq [.int .i64 0,.int .i64 0,.int .i64 0] (xss.flatten.length-(xss.take (k+1)).flatten.length):=by
     rw[dt hk,br,<-List.flatMap_def,ah,aJ];congr 1;rw[show xss.flatten.length-(xss.take k).flatten.length=xss[k].length+(xss.flatten.length-((xss.take k).flatten.length+xss[k].length)) by omega];exact sB (z:=[.int .i64 0,.int .i64 0,.int .i64 0]) _ _
    rw[e2]at u4;have r1':ai h3 b1 p1 1=some [vs[k]'om]:=by rw[bi (j2.gt _ hb)];exact r1
    refine ae (ak (M4 e25 ei a1 r1') ?_);refine ak (M2 e6 p4) ?_;exact⟨(),⟨u4.get,j2.trans (u4.ext (ab _))⟩,O3 ei en e25⟩
   .rintro _ ts h3 ⟨j1,j2⟩ ⟨e25,e6,-⟩;simp only at e25 e6;rw[bt]at j1 e6;refine ae (ak (M1 e6) ?_);refine bu ⟨_,(by simp only[rs,rf108,am,aL,simprocAttr]<;>rfl),.inr ⟨h1.next,xss.flatten.length,ab _,rfl,?_,dE (f:=eT) (e:=3) (λ_=>rfl) _⟩,j2⟩;rw[j1,dV];simp[cq]
open Go.Am
def okE(v:Int)(e:Int×Int):Bool:=decide (0<=e.1)&&decide (0<=e.2)&&decide (e.1<v)&&decide (e.2<v)
def fC(v:Int)(es:List (Int×Int)):Bool:=decide (1<=v)&&decide (v<=64)&&decide (es.length<=128)&&es.all (okE v)
def yv(v x:Int):Bool:=decide (x<0)||decide (v<=x)
def AY{x:Int}(hr:ai h b 0 1=some [.int .i64 n]):C prg 72 [.int .i64 x,.ptr b 0] h λr h'=>r=.bool (yv n x)/\h'=h:=by
 refine Oj rfl ?_;refine ae (ak (Mi0) ?_);by_cases q:x<0
 .have c1:decide (x<0)=true:=aH q;refine ae (ak (Mi1 c1) ?_);exact bu ⟨.bool true,(by simp only[rs,rf72,am,aL,simprocAttr,c1]<;>rfl),by simp[yv,q],rfl⟩
 .have c1:decide (x<0)=false:=aw q;refine ae (ak (Mi2 c1 hr) ?_);exact bu ⟨.bool (decide (n<=x)),(by simp only[rs,rf72,am,aL,simprocAttr,c1]<;>rfl),by simp[yv,q],rfl⟩
def Ja{s:Nat}{x:Int×Int}(hr:ai h b 0 1=some [.int .i64 n])(hs:ai h s 0 1=some [.fn 72 [.ptr b 0]])(hb:b<h.next)(hsn:s<h.next) :
 C prg 73 ([.agg (eE x)]++[.ptr s 0]) h λr h'=>r=.bool (!okE n x)/\Ext h.next h h':=by
 refine Oj rfl ?_;have fin:(!okE n x)=(yv n x.1||yv n x.2):=by
  obtain⟨x1,x2⟩:=x;simp only[okE,yv];by_cases a1:x1<0<;>by_cases a2:x2<0<;>by_cases a3:n<=x1<;>by_cases a4:n<=x2<;>simp[a1,a2,a3,a4]<;>omega
 rw[fin];refine ae (ak (by simp only[am,aL,simprocAttr,bV,eE]<;>rfl) ?_);have ex:Ext h.next h (h.new (.cells [.int .i64 x.1,.int .i64 x.2] 2 false)):=Oe (ab _);have g:(h.new (.cells [.int .i64 x.1,.int .i64 x.2] 2 false)).get h.next=some (.cells [.int .i64 x.1,.int .i64 x.2] 2 false):=by rw[AH.get_new,if_pos rfl]
 generalize h.new (.cells [.int .i64 x.1,.int .i64 x.2] 2 false)=h1 at *
 have r1:ai h1 h.next 0 1=some [.int .i64 x.1]:=by rw[aR g];rfl
 have r2:ai h1 h.next 1 1=some [.int .i64 x.2]:=by rw[aR g];rfl
 have hr1:ai h1 b 0 1=some [.int .i64 n]:=by rw[<-hr];exact bi (ex.gt b hb)
 have hs1:ai h1 s 0 1=some [.fn 72 [.ptr b 0]]:=by rw[<-hs];exact bi (ex.gt s hsn)
 refine ae (bM (py 3 (by simp only[am,aL,simprocAttr,bV,eE,hs1,r1]<;>rfl) rfl (by simp only[am,aL,simprocAttr,bV,eE,hs1,r1]) (by simp only[am,aL,simprocAttr,bV,eE,hs1,r1]<;>rfl) (by simp only[am,aL,simprocAttr,bV,eE,hs1,r1]<;>rfl) (AY (x:=x.1) hr1) λr h2 hq=>?_));obtain⟨rfl,rfl⟩:=hq;cases q:yv n x.1 with
 |true =>
   refine G.nocallv 4 (M0) rfl (Z0) ?_;refine bI (M0) ?_;exact bu ⟨.bool true,(by simp only[rs,rf73,am,aL,simprocAttr]<;>rfl),rfl,ex⟩
 |false =>
   refine py 4 (by simp only[am,aL,simprocAttr,bV,eE,hs1,r2]<;>rfl) rfl (by simp only[am,aL,simprocAttr,bV,eE,hs1,r2]) (by simp only[am,aL,simprocAttr,bV,eE,hs1,r2]<;>rfl) (by simp only[am,aL,simprocAttr,bV,eE,hs1,r2]<;>rfl) (AY (x:=x.2) hr1) λr h3 hq=>?_;obtain⟨rfl,rfl⟩:=hq;refine bI (M0) ?_;exact bu ⟨.bool (yv n x.2),(by simp only[rs,rf73,am,aL,simprocAttr]<;>rfl),rfl,ex⟩
def yN{ev:AV}{es:List (Int×Int)}(he:SlE h ev es)(hl:es.length<2^40):C prg 36 [.agg [.int .i64 n,ev]] h λr h'=>r=.bool (fC n es)/\Ext h.next h h':=by
 refine Oj rfl ?_;obtain⟨ec,eo⟩:=he.cells;have hlen:=he.len;rw[ah]at hlen;refine ae (ak (Mi0) ?_);have ex0:Ext h.next h (h.new (.cells [.int .i64 n,ev] 2 false)):=Oe (ab _);have g0:(h.new (.cells [.int .i64 n,ev] 2 false)).get h.next=some (.cells [.int .i64 n,ev] 2 false):=by rw[AH.get_new,if_pos rfl]
 have n0:(h.new (.cells [.int .i64 n,ev] 2 false)).next=h.next+1:=rfl;generalize h.new (.cells [.int .i64 n,ev] 2 false)=h0 at *
 have gN:(h0.new (.cells [.nilf] 1 false)).get h0.next=some (.cells [.nilf] 1 false):=by rw[AH.get_new,if_pos rfl]
 have w1:bP (h0.new (.cells [.nilf] 1 false)) h0.next 0 [.fn 72 [.ptr h.next 0]]=some ((h0.new (.cells [.nilf] 1 false)).put h0.next (.cells [.fn 72 [.ptr h.next 0]] 1 false)):=by rw[dw gN];rfl
 have u1:Upd (h0.new (.cells [.nilf] 1 false)) ((h0.new (.cells [.nilf] 1 false)).put h0.next (.cells [.fn 72 [.ptr h.next 0]] 1 false)) h0.next (.cells [.fn 72 [.ptr h.next 0]] 1 false):=Oi gN;refine ae (ak (Mi1 w1) ?_);have ex1:Ext h0.next h0 ((h0.new (.cells [.nilf] 1 false)).put h0.next (.cells [.fn 72 [.ptr h.next 0]] 1 false)):=(Oe (ab _)).trans (u1.ext (ab _));have n1:((h0.new (.cells [.nilf] 1 false)).put h0.next (.cells [.fn 72 [.ptr h.next 0]] 1 false)).next=h0.next+1:=rfl;have g1:=u1.get;generalize (h0.new (.cells [.nilf] 1 false)).put h0.next (.cells [.fn 72 [.ptr h.next 0]] 1 false)=h1 at *
 clear gN w1 u1;have g0':h1.get h.next=some (.cells [.int .i64 n,ev] 2 false):=by rw[ex1.gt _ om];exact g0
 have r1:ai h1 h.next 0 1=some [.int .i64 n]:=by rw[aR g0'];rfl
 have r2:ai h1 h.next 1 1=some [ev]:=by rw[aR g0'];rfl
 have r3:ai h1 h0.next 0 1=some [.fn 72 [.ptr h.next 0]]:=by rw[aR g1];rfl
 have ex:Ext h.next h h1:=ex0.trans (ex1.mono om);have he1:=he.ext ex (ab _);by_cases q1:0<n
 case neg =>
  have c1:decide (0<n)=false:=aw q1;refine ae (bM (fB 18 (Mi2 r1 c1) rfl (Z1 c1) ?_));refine bI (M0) ?_;exact bu ⟨.bool false,(by simp only[rs,rf36,am,aL,simprocAttr]<;>rfl),by simp[fC];omega,ex⟩
 have c1:decide (0<n)=true:=aH q1;by_cases q2:n<=64
 case neg =>
  have c2:decide (n<=64)=false:=aw q2;refine ae (bM (fB 18 (Mi3 r1 c1 c2) rfl (Z0) ?_));refine bI (M0) ?_;exact bu ⟨.bool false,(by simp only[rs,rf36,am,aL,simprocAttr]<;>rfl),by simp[fC,q2],ex⟩
 have c2:decide (n<=64)=true:=aH q2;by_cases q3:es.length<=128
 case neg =>
  have c3:decide (((es.length:Nat):Int)<=128)=false:=aw om;refine ae (bM (fB 18 (Mi6 r1 r2 hlen c1 c2 c3) rfl (Z0) ?_));refine bI (M0) ?_;exact bu ⟨.bool false,(by simp only[rs,rf36,am,aL,simprocAttr]<;>rfl),by simp[fC,q3],ex⟩
 have c3:decide (((es.length:Nat):Int)<=128)=true:=aH om
 have hcf:∀x∈es,∀h',Ext h1.next h1 h'->C prg 73 ([.agg (eE x)]++[.ptr h0.next 0]) h' λr h''=>r=.bool (!okE n x)/\Ext h'.next h' h'':=λx _ h' hx =>
  Ja (by rw[<-r1];exact bi (hx.gt _ om)) (by rw[<-r3];exact bi (hx.gt _ om)) (by have:=hx.nx;omega) (by have:=hx.nx;omega)
 refine ae (bM (bj 18 (Mi6 r1 r2 hlen c1 c2 c3) rfl (Zi6 r1 r2 hlen c1 c2 c3) (Mi6 r1 r2 hlen c1 c2 c3) (xP he1 hl hcf) λr h2 hq=>?_));obtain⟨rfl,ex2⟩:=hq;refine bI (M0) ?_;refine bu ⟨_,(by simp only[rs,rf36,am,aL,simprocAttr]<;>rfl),?_,ex.trans (ex2.mono ex.nx)⟩;have c4:decide (1<=n)=true:=aH om;have c5:(!es.any λx=>!okE n x)=es.all (okE n):=by
  rw[List.not_any_eq_all_not];simp
 simp only[fC,c4,c2,q3,decide_true,oB,c5]
end Go.Proofs.YtklpoimdclflmaaGreatDoor
