/- The definition's side -/
import Derived.Test.YtklpoimdclflmaaGreatDoorTTAI
set_option linter.all false
namespace Go.Proofs.YtklpoimdclflmaaGreatDoor
open Go.Am
variable {L:List Bool}{e:Int×Int}{es:List (Int×Int)}{ev:AV}{fr:Bool}{h:AH}{k n v:Nat}{x:Int}{xs:List Int}
def dW{k:Nat}(h:k<2^62):IntKind.i64.wrap (((k:Nat):Int)+1)=((k+1:Nat):Int):=fU om om
def lK{α:Type}[DecidableEq α]:∀{l m:List α},l.Nodup->(∀x∈l,x∈m)->m.length=l.length->l.Perm m
 |[],m,_,_,h=>by
   rw[aW.1 h]
 |a::l,m,hn,hs,hl=>by
   have hm:=hs a (aM ..);have hn':=cn.1 hn;have ih:=lK (l:=l) (m:=m.erase a) hn'.2 (λx hx=>(List.mem_erase_of_ne (λe:x=a=>hn'.1 (e▸hx))).2 (hs x (aN _ hx))) (by
    rw[List.length_erase_of_mem hm,hl];simp)
   exact(List.Perm.cons a ih).trans (List.perm_cons_erase hm).symm
def yp{v:AV}(hv:SlI h v xs)(hl:xs.length<2^40):C prg 110 [v,.int .i64 x] h λr h'=>r=.int .i64 (eM (x==·) xs 0)/\h'=h:=by
 have el:=hv.len;rw[ah]at el;refine Oj rfl ?_;refine ae (ak (Mi0) ?_);refine ae (ae (ak (Mi0) ?_));refine dX (α:=Unit) (N:=xs.length) (λk _=>[(0,v),(1,.int .i64 x),(5,.int .i64 (k:Nat))]) (λk _ h'=>h'=h/\eM (x==·) (xs.drop k) k=eM (x==·) xs 0) () (Oi1 @bh) ⟨rfl,rfl⟩ ?_ ?_ ?_
 .rintro k _ ts h1 hk ⟨rfl,j1⟩ ⟨e0,e1,e5,-⟩;simp only at e0 e1 e5;exact⟨_,(J4 e0 e5 el @bE),I0,O3 e0 e1 e5⟩
 .rintro k _ ts h1 hk ⟨rfl,j1⟩ ⟨e0,e1,e5,-⟩;simp only at e0 e1 e5;obtain⟨b1,p1,a1,r1,_⟩:=hv.at1 (cm (f:=eI) hk);rw[fZ _ hk]at j1;have w1:=dW (k:=k) om;refine ae (ak (M5 e0 e1 e5 a1 r1) ?_);refine cF (t:=decide (xs[k]=x)) (Z0) (λq=>?_) λq=>?_
  .have q:xs[k]=x:=aY q;rw[if_pos (by simp[q])]at j1;refine ae (ak (M1 e5) ?_);exact bu ⟨.int .i64 (k:Nat),(by simp only[rs,rf110,am,aL,simprocAttr]<;>rfl),by rw[j1],rfl⟩
  .have q:¬xs[k]=x:=bo q;rw[if_neg (by simpa using λe=>q (Eq.symm e))]at j1;refine bz ⟨(),⟨rfl,j1⟩,_,(J2 e5 w1),O2 e0 e1⟩
 .rintro _ ts h1 ⟨rfl,j1⟩ ⟨e0,e1,e5,-⟩;rw[ou]at j1;refine ae (ak (M0) ?_);exact bu ⟨.int .i64 (-1),(by simp only[rs,rf110,am,aL,simprocAttr]<;>rfl),by rw[<-j1];rfl,rfl⟩
def Af{v:AV}(hv:SlI h v xs)(hl:xs.length<2^40):C prg 78 [v,.int .i64 x] h λr h'=>r=.bool (decide (x∈xs))/\h'=h:=by
 have el:=hv.len;rw[ah]at el;refine Oj rfl ?_;refine ae (ak (Mi0) ?_);refine ae (ae (ak (Mi0) ?_));refine dX (α:=Unit) (N:=xs.length) (λk _=>[(0,v),(1,.int .i64 x),(5,.int .i64 (k:Nat))]) (λk _ h'=>h'=h/\x∉xs.take k) () (Oi1 @bh) ⟨rfl,by simp⟩ ?_ ?_ ?_
 .rintro k _ ts h1 hk ⟨rfl,j1⟩ ⟨e0,e1,e5,-⟩;simp only at e0 e1 e5;exact⟨_,(J4 e0 e5 el @bE),I0,O3 e0 e1 e5⟩
 .rintro k _ ts h1 hk ⟨rfl,j1⟩ ⟨e0,e1,e5,-⟩;simp only at e0 e1 e5;obtain⟨b1,p1,a1,r1,_⟩:=hv.at1 (cm (f:=eI) hk);have w1:=dW (k:=k) om;refine ae (ak (M5 e0 e1 e5 a1 r1) ?_);refine cF (t:=decide (xs[k]=x)) (Z0) (λq=>?_) λq=>?_
  .have q:xs[k]=x:=aY q;refine ae (ak (M0) ?_);exact bu ⟨.bool true,(by simp only[rs,rf78,am,aL,simprocAttr]<;>rfl),by rw[aH (q▸ar hk)],rfl⟩
  .have q:¬xs[k]=x:=bo q;refine bz ⟨(),⟨rfl,?_⟩,_,(J2 e5 w1),O2 e0 e1⟩;rw[aI hk,aZ];rintro (h|h)
   .exact j1 h
   .simp only[aF,bA,or_false]at h;exact q h.symm
 .rintro _ ts h1 ⟨rfl,j1⟩ ⟨e0,e1,e5,-⟩;rw[bt]at j1;refine ae (ak (M0) ?_);exact bu ⟨.bool false,(by simp only[rs,rf78,am,aL,simprocAttr]<;>rfl),by rw[aw j1],rfl⟩
def tR(fr:Bool)(x:Int)(e:Int×Int):Bool:=if fr then decide (e.1=x)else decide (e.2=x)
def Ng(es:List (Int×Int))(x:Int)(fr:Bool):List Int:=if fr then dJ es x else dr es x
def Jl:Ng es x fr=dB (tR fr x) es 0:=by
 cases fr<;>rfl
def uG{n:Int}(he:SlE h ev es)(hl:es.length<2^30):C prg 43 [.agg [.int .i64 n,ev],.int .i64 x,.bool fr] h λr h'=>IsSl h' 1 h.next r ((Ng es x fr).flatMap eI)/\Ext h.next h h':=by
 have el:=he.len;rw[ah]at el;obtain⟨ec,eo⟩:=he.cells;refine Oj rfl ?_;have x0:Ext h.next h (h.new (.cells [.int .i64 n,ev] 2 false)):=Oe (ab _);have g0:(h.new (.cells [.int .i64 n,ev] 2 false)).get h.next=some (.cells [.int .i64 n,ev] 2 false):=by rw[AH.get_new,if_pos rfl]
 have n0:(h.new (.cells [.int .i64 n,ev] 2 false)).next=h.next+1:=rfl;refine ae (ak (Mi0) ?_);generalize h.new (.cells [.int .i64 n,ev] 2 false)=h0 at *
 refine ae (ak (Mi0) ?_);have x1:Ext h0.next h0 (h0.new (.cells [] 1 false)):=Oe (ab _);have g1:(h0.new (.cells [] 1 false)).get h0.next=some (.cells [] 1 false):=by rw[AH.get_new,if_pos rfl]
 have n1:(h0.new (.cells [] 1 false)).next=h0.next+1:=rfl;generalize h0.new (.cells [] 1 false)=h1 at *
 have X1:=x0.trans (x1.mono om);refine ae (ae (ak (Mi0) ?_))
 refine dX (α:=AV) (N:=es.length) (λk a=>[(3,.ptr h.next 0),(1,.int .i64 x),(2,.bool fr),(7,a),(8,.int .i64 (k:Nat))]) (λk a h'=>IsSl h' 1 (h.next+1) a ((dB (tR fr x) (es.take k) 0).flatMap eI)/\Ext (h.next+1) h1 h') (.sl h0.next 0 0 0) (Oi1 @bh)
  ⟨.inr ⟨h0.next,0,om,rfl,g1,rfl⟩,Oh⟩ ?_ ?_ ?_
 .rintro k a ts h2 hk ⟨j1,jx⟩ ⟨e3,e1,e2,e7,e8,-⟩;simp only at e3 e1 e2 e7 e8;have r0:ai h2 h.next 1 1=some [ev]:=bq (by rw[jx.gt _ om,x1.gt _ om];exact g0) rfl;exact⟨_,(J5 e3 e8 r0 el @bE),I0,O5 e3 e1 e2 e7 e8⟩
 .rintro k a ts h2 hk ⟨j1,jx⟩ ⟨e3,e1,e2,e7,e8,-⟩;simp only at e3 e1 e2 e7 e8;have X2:Ext h.next h h2:=X1.trans (jx.mono om);have n2:=jx.nx;have r0:ai h2 h.next 1 1=some [ev]:=bq (by rw[jx.gt _ om,x1.gt _ om];exact g0) rfl;obtain⟨b1,p1,a1,_,rr,_⟩:=(he.ext X2 (ab _)).at (cm (f:=eE) hk);have ra:ai h2 b1 p1 1=some [.int .i64 es[k].1]:=rr 0 _ rfl;have rb:ai h2 b1 (p1+1) 1=some [.int .i64 es[k].2]:=rr 1 _ rfl;have w1:=dW (k:=k) om;have hlen:(dB (tR fr x) (es.take k) 0).length<=k:=cu (fG _ _ _) (by rw[aS];omega);have hs:=pk (tR fr x) hk
  have done:∀ts':Tm,Held [(3,.ptr h.next 0),(1,.int .i64 x),(2,.bool fr),(7,a),(8,.int .i64 (k:Nat)),(41,.bool (tR fr x es[k]))] ts' ->
   W prg (.cond (.t 41) (.reg [⟨some 42,.mov (.t 7),none,none,[]⟩,⟨some 43,.mov (.t 8),none,none,[]⟩,⟨some 44,.mksl [.int .i64 0] 1 1 [(0,1,.t 43)],none,none,[]⟩,⟨some 45,.app 1 8 (.t 42) (.t 44),none,none,[]⟩,⟨some 7,.mov (.t 45),none,none,[]⟩]) .skip) ts' h2
     (λts' h'=>∃a',(IsSl h' 1 (h.next+1) a' ((dB (tR fr x) (es.take (k+1)) 0).flatMap eI)/\Ext (h.next+1) h1 h')/\Held [(3,.ptr h.next 0),(1,.int .i64 x),(2,.bool fr),(7,a'),(8,.int .i64 (k:Nat))] ts') (λ_ _=>False) (λ_ _ _=>False):=by
   rintro ts' ⟨f3,f1,f2,f7,f8,f41,-⟩;simp only at f3 f1 f2 f7 f8 f41;refine cF (t:=tR fr x es[k]) (Z1 f41) (λq=>?_) λq=>?_
   .obtain⟨s',h3,a3,i3,x3,n3⟩:=j1.push (bytes:=8) [.int .i64 ((k:Nat):Int)] om om rfl rfl (by rw[ee];unfold bf;omega) (by rw[ee];unfold bf;omega);refine ak (M3 f7 f8 a3) ?_;refine⟨s',⟨?_,jx.trans x3⟩,by simp only[et,eS,am,aL,↓reduceIte,Nat.reduceEqDiff,Int.reduceEq,Nat.reduceAdd,Nat.reduceLeDiff,reduceCtorEq,f3,f1,f2,f8]⟩;rw[hs,if_pos q,br];exact i3
   .refine bz ⟨a,⟨?_,jx⟩,by simp only[et,eS,am,aL,↓reduceIte,Nat.reduceEqDiff,Int.reduceEq,Nat.reduceAdd,Nat.reduceLeDiff,reduceCtorEq,f3,f1,f2,f7,f8]⟩;rw[hs,if_neg (by simp[q])];exact j1
  have fin:∀ts' h',(∃a',(IsSl h' 1 (h.next+1) a' ((dB (tR fr x) (es.take (k+1)) 0).flatMap eI)/\Ext (h.next+1) h1 h')/\Held [(3,.ptr h.next 0),(1,.int .i64 x),(2,.bool fr),(7,a'),(8,.int .i64 (k:Nat))] ts') ->
   ∃a',(IsSl h' 1 (h.next+1) a' ((dB (tR fr x) (es.take (k+1)) 0).flatMap eI)/\Ext (h.next+1) h1 h')/\∃ts'',lF h'.next [⟨some 15,.mov (.t 8),none,none,[]⟩,⟨some 16,.bin .add .no (.t 15) (.c (.int .i64 1)),none,none,[]⟩,⟨some 8,.mov (.t 16),none,none,[]⟩] (some (ts',h'))=some (ts'',h')/\Held [(3,.ptr h.next 0),(1,.int .i64 x),(2,.bool fr),(7,a'),(8,.int .i64 ((k+1:Nat):Int))] ts'':=by
   rintro ts' h' ⟨a',ha,f3,f1,f2,f7,f8,-⟩;simp only at f3 f1 f2 f7 f8;exact⟨a',ha,_,(J2 f8 w1),by simp only[et,eS,am,aL,↓reduceIte,Nat.reduceEqDiff,Int.reduceEq,Nat.reduceAdd,Nat.reduceLeDiff,reduceCtorEq,f3,f1,f2,f7]⟩
  refine ae ?_;cases fr with
  |true =>
    by_cases q:es[k].1=x
    .have c1:decide (es[k].1=x)=true:=aH q;have cE:tR true x es[k]=true:=c1;refine ak (M10 e3 e1 e2 e8 r0 a1 ra rb c1 c1) ?_;exact kO _ (done _ (O6 e3 e1 e2 e7 e8 cE)) fin (λ_ _ q=>q.elim) (λ_ _ _ q=>q.elim)
    .have c1:decide (es[k].1=x)=false:=aw q;have cE:tR true x es[k]=false:=c1;refine ak (M10 e3 e1 e2 e8 r0 a1 ra rb c1 c1) ?_;exact kO _ (done _ (O6 e3 e1 e2 e7 e8 cE)) fin (λ_ _ q=>q.elim) (λ_ _ _ q=>q.elim)
  |false =>
    have cE:tR false x es[k]=decide (es[k].2=x):=rfl;refine ak (M8 e3 e1 e2 e8 r0 a1 ra rb) ?_;exact kO _ (done _ (O6 e3 e1 e2 e7 e8 cE)) fin (λ_ _ q=>q.elim) (λ_ _ _ q=>q.elim)
 .rintro a ts h2 ⟨j1,jx⟩ ⟨e3,e1,e2,e7,e8,-⟩;simp only at e3 e1 e2 e7 e8;rw[bt]at j1;refine ae (ak (M1 e7) ?_);exact bu ⟨a,(by simp only[rs,rf43,am,aL,simprocAttr]<;>rfl),by rw[Jl];exact j1.mono om,X1.trans (jx.mono om)⟩
def Fi{v:AV}{n:Nat}(hv:SlI h v xs)(hn:n<2^40):C prg 76 [v,.int .i64 (n:Nat)] h λr h'=>(∃b,r=.bool b/\(b=true↔xs.Perm (jX n)))/\h'=h:=by
 have el:=hv.len;rw[ah]at el;refine Oj rfl ?_;refine ae (ak (Mi0) ?_);refine ae (ae (ak (Mi1 el) ?_));refine cF (t:=!decide (xs.length=n)) (by simp only[am,aL,simprocAttr];exact congrArg AV.bool (by congr 1;simp only[decide_eq_decide];omega)) (λq=>?_) λq=>?_
 .have q:¬xs.length=n:=by simpa using q
  refine ae (ak (M0) ?_);exact bu ⟨.bool false,(by simp only[rs,rf76,am,aL,simprocAttr]<;>rfl),⟨false,rfl,⟨λh=>(by cases h),λhP=>absurd (by rw[hP.length_eq,kK]) q⟩⟩,rfl⟩
 have q:xs.length=n:=by simpa using q
 have hl:xs.length<2^40:=om;refine bz ?_;refine ae (ae (ak (M0) ?_));refine dX (α:=Unit) (N:=n) (λk _=>[(0,v),(1,.int .i64 (n:Nat)),(5,.int .i64 (k:Nat))]) (λk _ h'=>h'=h/\∀j:Nat,j<k->((j:Nat):Int)∈xs) () (Oi1 @bh) ⟨rfl,λj hj=>absurd hj om⟩ ?_ ?_ ?_
 .rintro k _ ts h1 hk ⟨rfl,j1⟩ ⟨e0,e1,e5,-⟩;simp only at e0 e1 e5;exact⟨_,(J3 e1 e5 @bE),I0,O3 e0 e1 e5⟩
 .rintro k _ ts h1 hk ⟨rfl,j1⟩ ⟨e0,e1,e5,-⟩;simp only at e0 e1 e5;have w1:=dW (k:=k) om;refine ae (bM (bj 2 (M2 e0 e5) rfl (Z2 e0 e5) (M2 e0 e5) (yp (x:=((k:Nat):Int)) hv hl) λr h2 hq=>?_));obtain⟨rfl,rfl⟩:=hq;refine bI (M0) ?_;have hlo:=(lj (((k:Nat):Int)==·) xs 0).2;rw[sd]at hlo;refine cF (t:=decide (eM (((k:Nat):Int)==·) xs 0<0)) (Z0) (λq2=>?_) λq2=>?_
  .have q2:=hlo.1 (aY q2);have q2:¬((k:Nat):Int)∈xs:=bo q2;refine ae (ak (M0) ?_);exact bu ⟨.bool false,(by simp only[rs,rf76,am,aL,simprocAttr]<;>rfl),⟨false,rfl,⟨λh=>(by cases h),λhP=>absurd (hP.mem_iff.2 (fA.2 ⟨om,om⟩)) q2⟩⟩,rfl⟩
  .have q2:((k:Nat):Int)∈xs:=by
    refine Decidable.byContradiction λhc=>?_;have:=hlo.2 (aw hc);exact bo q2 this
   refine bz ⟨(),⟨rfl,λj hj=>?_⟩,_,(J2 e5 w1),O2 e0 e1⟩;by_cases e:j=k
   .subst e;exact q2
   .exact j1 j om
 .rintro _ ts h1 ⟨rfl,j1⟩ ⟨e0,e1,e5,-⟩;refine ae (ak (M0) ?_);refine bu ⟨.bool true,(by simp only[rs,rf76,am,aL,simprocAttr]<;>rfl),⟨true,rfl,⟨λ_=>?_,λ_=>rfl⟩⟩,rfl⟩;have hsub:∀x∈jX n,x∈xs:=λx hx=>by
   obtain⟨h1,h2⟩:=fA.1 hx;have:=j1 x.toNat om;rwa [kY h1]at this
  exact(lK (qk n) hsub (by rw[kK,q])).symm
def HF{v:AV}{n:Nat}(hv:SlI h v xs)(_:xs.length<2^40)(hn:n<2^40):C prg 76 [v,.int .i64 (n:Nat)] h λr h'=>(∃b,r=.bool b/\(b=true↔xs.Perm (jX n)))/\h'=h:=Fi hv hn
open Go.Am
def oD(L nx:List Bool)(e:Int×Int):List Bool:=if L.getD e.1.toNat false&&L.getD e.2.toNat false then nx.set e.2.toNat true else nx
def rnd(n:Nat)(es:List (Int×Int))(L:List Bool):List Bool:=es.foldl (oD L) (List.replicate n false)
def dY(n:Nat)(es:List (Int×Int)):Nat->List Bool
 |0=>List.replicate n true
 |k+1=>rnd n es (dY n es k)
def Ac{nx:List Bool}:(oD L nx e).length=nx.length:=by
 unfold oD;split<;>simp
def vk{L:List Bool}:∀(es:List (Int×Int)) (nx:List Bool),(es.foldl (oD L) nx).length=nx.length
 |[],nx=>rfl
 |e::r,nx=>by rw[iH,vk r,Ac]
def Ba{L:List Bool}:∀(es:List (Int×Int)) (nx:List Bool) (v:Nat),v<nx.length ->
 ((es.foldl (oD L) nx).getD v false=true↔nx.getD v false=true\/∃e∈es,L.getD e.1.toNat false=true/\L.getD e.2.toNat false=true/\e.2.toNat=v)
 |[],nx,v,h=>by simp
 |e::r,nx,v,h=>by
   rw[iH,Ba r _ v (by rw[Ac];exact h)];unfold oD;by_cases q:(L.getD e.1.toNat false&&L.getD e.2.toNat false)=true
   .rw[if_pos q];rw[aU]at q;by_cases qe:e.2.toNat=v
    .have:(nx.set e.2.toNat true).getD v false=true:=by
      rw[aA,qe,dP h];rfl
     constructor
     .intro _;exact .inr ⟨e,aM ..,q.1,q.2,qe⟩
     .intro _;exact .inl this
    .have:(nx.set e.2.toNat true).getD v false=nx.getD v false:=by
      rw[aA,dq qe,aA]
     rw[this];constructor
     .rintro (h1|⟨e',h1,h2⟩)
      .exact .inl h1
      .exact .inr ⟨e',aN _ h1,h2⟩
     .rintro (h1|⟨e',h1,h2,h3,h4⟩)
      .exact .inl h1
      .rcases aF.1 h1 with rfl|h1
       .exact absurd h4 qe
       .exact .inr ⟨e',h1,h2,h3,h4⟩
   .rw[if_neg q];constructor
    .rintro (h1|⟨e',h1,h2⟩)
     .exact .inl h1
     .exact .inr ⟨e',aN _ h1,h2⟩
    .rintro (h1|⟨e',h1,h2,h3,h4⟩)
     .exact .inl h1
     .rcases aF.1 h1 with rfl|h1
      .exact absurd (by rw[h2,h3];rfl) q
      .exact .inr ⟨e',h1,h2,h3,h4⟩
def kj(n:Nat)(es:List (Int×Int)):∀k,(dY n es k).length=n
 |0=>by simp[dY]
 |k+1=>by rw[dY,rnd,vk,cA]
def lk(n:Nat)(es:List (Int×Int))(k v:Nat):Bool:=(dY n es k).getD v false
def DW(h:v<n):lk n es 0 v=true:=by
 unfold lk dY;rw[aA,cz,if_pos h];rfl
def Nb(h:¬v<n):lk n es k v=false:=by
 unfold lk;rw[aA,bJ (by rw[kj];omega)];rfl
def ug(h:v<n):lk n es (k+1) v=true↔∃e∈es,lk n es k e.1.toNat=true/\lk n es k e.2.toNat=true/\e.2.toNat=v:=by
 unfold lk;rw[dY,rnd,Ba _ _ _ (by rw[cA];exact h)];rw[aA,cz,if_pos h];simp
def DX(h:lk n es (k+1) v=true):lk n es k v=true:=by
 by_cases hv:v<n
 .obtain⟨e,_,_,h2,rfl⟩:=(ug hv).1 h;exact h2
 .rw[Nb hv]at h;cases h
def LI(he:es.all (okE n)=true)(hm:e∈es):∀k,lk n es k e.1.toNat=true->lk n es (k+1) e.2.toNat=true:=by
 have hr:=lM (bK.1 he e hm);intro k;induction k with
 |zero=>exact λh=>(ug om).2 ⟨e,hm,h,DW om,rfl⟩
 |succ k ih=>exact λh=>(ug om).2 ⟨e,hm,h,ih (DX h),rfl⟩
def cnt_le:∀(a b:List Bool),a.length=b.length->(∀i:Nat,a.getD i false=true->b.getD i false=true)->a.count true<=b.count true/\(a.count true=b.count true->a=b)
 |[],[],_,_=>⟨ab _,λ_=>rfl⟩
 |[],_::_,h,_=>by simp at h
 |_::_,[],h,_=>by simp at h
 |x::a,y::b,h,hi=>by
   obtain⟨h1,h2⟩:=cnt_le a b (by simpa using h) λi hh=>by
    have:=hi (i+1);simp only[List.getD_cons_succ]at this;exact this hh
   have h0:=hi 0;simp only[List.getD_cons_zero]at h0;cases x<;>cases y<;>simp only[px,beq_true,beq_false,dp,fI,bT,if_true,if_false]at *
   .exact⟨om,λq=>by rw[h2 om]⟩
   .exact⟨om,λq=>by omega⟩
   .exact absurd (h0 trivial) (by simp)
   .exact⟨om,λq=>by rw[h2 om]⟩
def AG(n:Nat)(es:List (Int×Int)):dY n es (n+1)=dY n es n:=by
 have hle:∀k,(dY n es (k+1)).count true<=(dY n es k).count true/\((dY n es (k+1)).count true=(dY n es k).count true->dY n es (k+1)=dY n es k):=λk =>
  cnt_le _ _ (by rw[kj,kj]) λi h=>DX h
 have key:∀k,(dY n es k).count true+k<=n\/dY n es (k+1)=dY n es k:=by
  intro k;induction k with
  |zero =>
    left;have:=zD (a:=true) (l:=dY n es 0);rw[kj]at this;omega
  |succ k ih =>
    rcases ih with h|h
    .by_cases q:dY n es (k+1)=dY n es k
     .right;rw[dY,q];exact q
     .left;have:=hle k;have h3:(dY n es (k+1)).count true≠(dY n es k).count true:=λe=>q (this.2 e);omega
    .right;rw[dY,h];exact h
 rcases key n with h|h
 .exact(hle n).2 (by have:=(hle n).1;omega)
 .exact h
def xh(h:lk n es n v=true):∃e∈es,lk n es n e.1.toNat=true/\e.2.toNat=v:=by
 by_cases hv:v<n
 .have:lk n es (n+1) v=true:=by unfold lk;rw[AG];exact h
  obtain⟨e,h1,h2,_,h4⟩:=(ug hv).1 this;exact⟨e,h1,h2,h4⟩
 .rw[Nb hv]at h;cases h
def Ip(he:es.all (okE n)=true):(∀v,v<n->lk n es n v=false)↔Acy es:=by
 constructor
 .intro h;refine⟨λx=>(List.range (n+1)).countP λk=>lk n es k x.toNat,λe hm=>?_⟩;have hr:=lM (bK.1 he e hm);have h1:((List.range (n+1)).countP λk=>lk n es k e.1.toNat)=(List.range n).countP λk=>lk n es k e.1.toNat:=by
   rw[cP,Du,dL,h _ om];simp
  have h2:((List.range (n+1)).countP λk=>lk n es k e.2.toNat)=1+(List.range n).countP λk=>lk n es (k+1) e.2.toNat:=by
   rw[List.range_succ_eq_map,dL,List.countP_map,DW om];simp only[if_true];rw[Nat.add_comm];rfl
  have h3:((List.range n).countP λk=>lk n es k e.1.toNat)<=(List.range n).countP λk=>lk n es (k+1) e.2.toNat:=List.countP_mono_left λk _ hk=>LI he hm k hk;show((List.range (n+1)).countP λk=>lk n es k e.1.toNat)<((List.range (n+1)).countP λk=>lk n es k e.2.toNat);omega
 .rintro⟨rank,hr⟩;have key:∀m v,v<n->rank v=m->lk n es n v=false:=by
   intro m;induction m using Nat.strongRecOn with
   |_ m ih =>
     intro v hv hm;cases hb:lk n es n v with
     |false=>rfl
     |true =>
       exfalso;obtain⟨e,h1,h2,h3⟩:=xh hb;have hin:=lM (bK.1 he e h1);have hlt:=hr e h1;have e2:e.2=((v:Nat):Int):=om;have e1:e.1=((e.1.toNat:Nat):Int):=om;rw[e2,hm,e1]at hlt;have:=ih _ hlt e.1.toNat om rfl;rw[this]at h2;cases h2
  exact λv hv=>key _ v hv rfl
def bls(L:List Bool):List AV:=L.map AV.bool
def En(L:List Bool):(bls L).length=L.length:=by simp[bls]
def Em(L:List Bool)(i:Nat)(b:Bool):(bls L).set i (.bool b)=bls (L.set i b):=by simp[bls,vV]
def Dg{i:Nat}(h:i<L.length):(bls L)[i]?=some (.bool (L.getD i false)):=by
 unfold bls;rw[aV,aj h,aA,aj h];rfl
def MD(n:Nat):cq [.bool false] n=bls (List.replicate n false):=by
 rw[eQ];simp[bls]
def xa{n:Nat}(hn:n<=64):wg h [.bool false] 1 1 (.int .i64 (n:Nat)) (.int .i64 (n:Nat))=some (.sl h.next 0 n n,h.new (.cells (bls (List.replicate n false)) 1 false)):=by
 rw[lN (by unfold bf;omega) (by unfold bf;omega),MD]
def HA{n:Nat}(he:SlE h ev es)(hm:fC (n:Nat) es=true) :
 C prg 109 [.agg [.int .i64 (n:Nat),ev]] h λr h'=>∃lb,h.next<=lb/\r=.sl lb 0 n n/\h'.get lb=some (.cells (bls (dY n es n)) 1 false)/\Ext h.next h h':=by
 obtain⟨m1,m2,m3,m4⟩:=iX hm;have el:=he.len;rw[ah]at el;obtain⟨ec,eo⟩:=he.cells;refine Oj rfl ?_;have x0:Ext h.next h (h.new (.cells [.int .i64 (n:Nat),ev] 2 false)):=Oe (ab _);have g0:(h.new (.cells [.int .i64 (n:Nat),ev] 2 false)).get h.next=some (.cells [.int .i64 (n:Nat),ev] 2 false):=by rw[AH.get_new,if_pos rfl]
 have n0:(h.new (.cells [.int .i64 (n:Nat),ev] 2 false)).next=h.next+1:=rfl;refine ae (ak (Mi0) ?_);generalize h.new (.cells [.int .i64 (n:Nat),ev] 2 false)=h0 at *
 have r0:ai h0 h.next 0 1=some [.int .i64 (n:Nat)]:=bq g0 rfl;refine ae (ak (by simp only[am,aL,simprocAttr,bV,r0,xa m2]<;>rfl) ?_);have x1:Ext h0.next h0 (h0.new (.cells (bls (List.replicate n false)) 1 false)):=Oe (ab _);have g1:(h0.new (.cells (bls (List.replicate n false)) 1 false)).get h0.next=some (.cells (bls (List.replicate n false)) 1 false):=by rw[AH.get_new,if_pos rfl]
 have n1:(h0.new (.cells (bls (List.replicate n false)) 1 false)).next=h0.next+1:=rfl;generalize h0.new (.cells (bls (List.replicate n false)) 1 false)=h1 at *
 have G1:h1.get h.next=some (.cells [.int .i64 (n:Nat),ev] 2 false):=by rw[x1.gt _ om];exact g0
 refine ae (ae (ak (Mi0) ?_));have rGn:∀{h':AH},h'.get h.next=some (.cells [.int .i64 (n:Nat),ev] 2 false)->ai h' h.next 0 1=some [.int .i64 (n:Nat)]:=λhg=>bq hg rfl;have rGe:∀{h':AH},h'.get h.next=some (.cells [.int .i64 (n:Nat),ev] 2 false)->ai h' h.next 1 1=some [ev]:=λhg=>bq hg rfl
 refine dX (α:=List Bool) (N:=n) (λk a=>[(1,.ptr h.next 0),(3,.sl h0.next 0 n n),(4,.int .i64 (k:Nat))]) (λk a h'=>h'.get h0.next=some (.cells (bls a) 1 false)/\a.length=n/\(∀v,v<k->a[v]?=some true)/\Ext h0.next h0 h'/\h1.next<=h'.next) (List.replicate n false) (Hi1 @bh)
  ⟨g1,by simp,λv hv=>absurd hv om,x1,ab _⟩ ?_ ?_ ?_
 .rintro k a ts h2 hk ⟨j1,j2,j3,jx,jn⟩ ⟨e1,e3,e4,-⟩;simp only at e1 e3 e4;have rg:=rGn (h':=h2) (by rw[jx.gt _ om];exact g0);exact⟨_,(M4 e1 e4 rg @bE),Z0,H3 e1 e3 e4⟩
 .rintro k a ts h2 hk ⟨j1,j2,j3,jx,jn⟩ ⟨e1,e3,e4,-⟩;simp only at e1 e3 e4;have ik:fe ((k:Nat):Int) n=some k:=cK hk;have w2:bP h2 h0.next k [.bool true]=some (h2.put h0.next (.cells (bls (a.set k true)) 1 false)):=by rw[ew j1 (by rw[En];omega),Em]
  have w1:=dW (k:=k) om;refine ak (M5 e3 e4 ik @aP w2) ?_;have u:=Oi (o:=.cells (bls (a.set k true)) 1 false) j1;refine⟨a.set k true,⟨u.get,by rw[cx,j2],λv hv=>?_,jx.trans (u.ext (ab _)),jn⟩,_,(M2 e4 w1),H2 e1 e3⟩;by_cases e:k=v
  .subst e;rw[dP om]
  .rw[dq e];exact j3 v om
 .rintro a ts h2 ⟨j1,j2,j3,jx,jn⟩ ⟨e1,e3,e4,-⟩;simp only at e1 e3;have ha:a=dY n es 0:=by
   refine cV λv=>?_;unfold dY;rw[cz];split
   .exact j3 v om
   .exact bJ om
  subst ha;have X2:Ext h.next h h2:=x0.trans (jx.mono om);have jxn:=jx.nx;refine ae (ae (ak (M0) ?_))
  refine dX (α:=Nat) (N:=n) (λk a=>[(1,.ptr h.next 0),(3,.sl a 0 n n),(5,.int .i64 (k:Nat))]) (λk a h'=>h'.get a=some (.cells (bls (dY n es k)) 1 false)/\h.next<a/\Ext (h.next+1) h0 h') h0.next (H3 e1 e3 @bh)
   ⟨j1,om,jx.mono om⟩ ?_ ?_ ?_
  .rintro k a ts h3 hk ⟨j1,j2,jx⟩ ⟨e1,e3,e5,-⟩;simp only at e1 e3 e5;have rg:=rGn (h':=h3) (by rw[jx.gt _ om];exact g0);exact⟨_,(M4 e1 e5 rg @bE),Z0,H3 e1 e3 e5⟩
  .rintro k a ts h3 hk ⟨j1,j2,jx⟩ ⟨e1,e3,e5,-⟩;simp only at e1 e3 e5;have hG3:h3.get h.next=some (.cells [.int .i64 (n:Nat),ev] 2 false):=by rw[jx.gt _ om];exact g0
   have rg:=rGn hG3;have al:=AH.lt_of_get j1;refine ae (ak (by simp only[am,aL,simprocAttr,e1,rg,xa m2]<;>rfl) ?_);have x4:Ext h3.next h3 (h3.new (.cells (bls (List.replicate n false)) 1 false)):=Oe (ab _);have g4:(h3.new (.cells (bls (List.replicate n false)) 1 false)).get h3.next=some (.cells (bls (List.replicate n false)) 1 false):=by rw[AH.get_new,if_pos rfl]
   have n4:(h3.new (.cells (bls (List.replicate n false)) 1 false)).next=h3.next+1:=rfl;generalize h3.new (.cells (bls (List.replicate n false)) 1 false)=h4 at *
   have n3:=jx.nx;refine ae (ae (ak (M0) ?_))
   refine dX (α:=Unit) (N:=es.length) (λj _=>[(1,.ptr h.next 0),(3,.sl a 0 n n),(5,.int .i64 (k:Nat)),(6,.sl h3.next 0 n n),(7,.int .i64 (j:Nat))]) (λj _ h'=>h'.get h3.next=some (.cells (bls ((es.take j).foldl (oD (dY n es k)) (List.replicate n false))) 1 false)/\Ext h3.next h3 h'/\h4.next<=h'.next) () (H4 e1 e3 e5 @bh)
    ⟨g4,x4,ab _⟩ ?_ ?_ ?_
   .rintro j _ ts h5 hj ⟨i1,ix,inx⟩ ⟨e1,e3,e5,e6,e7,-⟩;simp only at e1 e3 e5 e6 e7;have rg:=rGe (h':=h5) (by rw[ix.gt _ om];exact hG3);exact⟨_,(M5 e1 e7 rg el @bE),Z0,H5 e1 e3 e5 e6 e7⟩
   .rintro j _ ts h5 hj ⟨i1,ix,inx⟩ ⟨e1,e3,e5,e6,e7,-⟩;simp only at e1 e3 e5 e6 e7;have rg:=rGe (h':=h5) (by rw[ix.gt _ om];exact hG3);have X5:Ext h.next h h5:=x0.trans ((jx.mono om).trans (ix.mono om));obtain⟨b1,p1,a1,r4,_⟩:=(he.ext X5 (ab _)).at (cm (f:=eE) hj);obtain⟨h6,w6,x6,g6,n6⟩:=gD (h:=h5) (z:=[.int .i64 0,.int .i64 0]) (cs:=[.int .i64 es[j].1,.int .i64 es[j].2]) (e:=2) rfl;refine ae (ak (by simp only[am,aL,simprocAttr,e1,e7,rg,a1,r4,eE,w6]<;>rfl) ?_);obtain⟨ea,eb,hab,ha,hb⟩:=nH (bK.1 m4 _ (ar hj));have ra:ai h6 h5.next 0 1=some [.int .i64 (ea:Nat)]:=bq g6 (by rw[hab];rfl);have rb:ai h6 h5.next 1 1=some [.int .i64 (eb:Nat)]:=bq g6 (by rw[hab];rfl);have ia:fe ((ea:Nat):Int) n=some ea:=cK ha;have ib:fe ((eb:Nat):Int) n=some eb:=cK hb;have hL6:h6.get a=some (.cells (bls (dY n es k)) 1 false):=by rw[x6.gt _ om,ix.gt _ al];exact j1
    have la:ai h6 a ea 1=some [.bool ((dY n es k).getD ea false)]:=bq hL6 (Dg (by rw[kj];exact ha));have lb:ai h6 a eb 1=some [.bool ((dY n es k).getD eb false)]:=bq hL6 (Dg (by rw[kj];exact hb));have w1:=dW (k:=j) om;have hstep:(es.take (j+1)).foldl (oD (dY n es k)) (List.replicate n false)=oD (dY n es k) ((es.take j).foldl (oD (dY n es k)) (List.replicate n false)) es[j]:=by
     rw[aI hj,gp];rfl
    have hsv:oD (dY n es k) ((es.take j).foldl (oD (dY n es k)) (List.replicate n false)) es[j]=if (dY n es k).getD ea false&&(dY n es k).getD eb false then((es.take j).foldl (oD (dY n es k)) (List.replicate n false)).set eb true else(es.take j).foldl (oD (dY n es k)) (List.replicate n false):=by
     unfold oD;rw[hab];simp only[aO]
    rw[hsv]at hstep;have hN6:h6.get h3.next=some (.cells (bls ((es.take j).foldl (oD (dY n es k)) (List.replicate n false))) 1 false):=by rw[x6.gt _ om];exact i1
    have ix6:Ext h3.next h3 h6:=ix.trans (x6.mono ix.nx);cases q1:(dY n es k).getD ea false with
    |false =>
      rw[q1]at la hstep;refine ae (ak (by simp only[am,aL,simprocAttr,e3,ra,ia,la,aP]<;>rfl) ?_);refine dC (Z0) (bz ⟨(),⟨?_,ix6,om⟩,_,(M2 e7 w1),H4 e1 e3 e5 e6⟩);rw[hstep];exact hN6
    |true =>
      rw[q1]at la hstep;refine ae (ak (by simp only[am,aL,simprocAttr,e3,ra,ia,la,rb,ib,lb,aP]<;>rfl) ?_);cases q2:(dY n es k).getD eb false with
      |false =>
        rw[q2]at hstep;refine dC (Z0) (bz ⟨(),⟨?_,ix6,om⟩,_,(M2 e7 w1),H4 e1 e3 e5 e6⟩);rw[hstep];exact hN6
      |true =>
        rw[q2]at hstep;have w7:bP h6 h3.next eb [.bool true]=some (h6.put h3.next (.cells (bls (((es.take j).foldl (oD (dY n es k)) (List.replicate n false)).set eb true)) 1 false)):=by
         rw[ew hN6 (by rw[En,vk,cA];exact hb),Em]
        have u:=Oi (o:=.cells (bls (((es.take j).foldl (oD (dY n es k)) (List.replicate n false)).set eb true)) 1 false) hN6;refine cZ (Z0) (ak (M5 e6 rb ib @aP w7) ?_);refine⟨(),⟨?_,ix6.trans (u.ext (ab _)),by rw[AH.next_put];omega⟩,_,(M2 e7 w1),H4 e1 e3 e5 e6⟩;rw[hstep];exact u.get
   .rintro _ ts h5 ⟨i1,ix,inx⟩ ⟨e1,e3,e5,e6,e7,-⟩;simp only at e1 e3 e5 e6;rw[bt]at i1;have w1:=dW (k:=k) om;refine ak (M1 e6) ?_;exact⟨h3.next,⟨i1,om,jx.trans (ix.mono om)⟩,_,(M2 e5 w1),H1 e1⟩
  .rintro a ts h3 ⟨j1,j2,jx⟩ ⟨e1,e3,e5,-⟩;simp only at e1 e3;refine ae (ak (M1 e3) ?_);exact bu ⟨.sl a 0 n n,(by simp only[rs,rf109,am,aL,simprocAttr]<;>rfl),a,om,rfl,j1,x0.trans (jx.mono om)⟩
open Go.Am
def Ad{n:Int}(he:SlE h ev es):C prg 15 [.agg [.int .i64 n,ev]] h λr h'=>r=.bool (fC n es)/\Ext h.next h h':=by
 have el:=he.len;rw[ah]at el;obtain⟨ec,eo⟩:=he.cells;refine Oj rfl ?_;have x0:Ext h.next h (h.new (.cells [.int .i64 n,ev] 2 false)):=Oe (ab _);have g0:(h.new (.cells [.int .i64 n,ev] 2 false)).get h.next=some (.cells [.int .i64 n,ev] 2 false):=by rw[AH.get_new,if_pos rfl]
 have n0:(h.new (.cells [.int .i64 n,ev] 2 false)).next=h.next+1:=rfl;refine ae (ak (Mi0) ?_);generalize h.new (.cells [.int .i64 n,ev] 2 false)=h0 at *
 have rn:ai h0 h.next 0 1=some [.int .i64 n]:=bq g0 rfl;have re:ai h0 h.next 1 1=some [ev]:=bq g0 rfl;by_cases q1:n<1
 .have c1:decide (n<1)=true:=aH q1;have hB:fC n es=false:=by
   have:decide (1<=n)=false:=aw om;simp only[fC,this,eF]
  refine ae (ae (ak (Mi2 rn c1) ?_));refine cZ (Z0) (ae (ak (M0) ?_));exact bu ⟨.bool false,(by simp only[rs,rf15,am,aL,simprocAttr]<;>rfl),by rw[hB],x0⟩
 have c1:decide (n<1)=false:=aw q1;by_cases q2:64<n
 .have c2:decide (64<n)=true:=aH q2;have hB:fC n es=false:=by
   have:decide (n<=64)=false:=aw om;simp only[fC,this,kI,eF]
  refine ae (ae (ak (Mi3 rn c1 c2) ?_));refine cZ (Z0) (ae (ak (M0) ?_));exact bu ⟨.bool false,(by simp only[rs,rf15,am,aL,simprocAttr]<;>rfl),by rw[hB],x0⟩
 have c2:decide (64<n)=false:=aw q2;by_cases q3:128<es.length
 .have c3:decide ((128:Int)<((es.length:Nat):Int))=true:=aH om;have hB:fC n es=false:=by
   have:decide (es.length<=128)=false:=aw om;simp only[fC,this,kI,eF]
  refine ae (ae (ak (Mi6 rn re el c1 c2 c3) ?_));refine cZ (Z0) (ae (ak (M0) ?_));exact bu ⟨.bool false,(by simp only[rs,rf15,am,aL,simprocAttr]<;>rfl),by rw[hB],x0⟩
 have c3:decide ((128:Int)<((es.length:Nat):Int))=false:=aw om;have hB:fC n es=es.all (okE n):=by
  have d1:decide (1<=n)=true:=aH om;have d2:decide (n<=64)=true:=aH om;have d3:decide (es.length<=128)=true:=aH om;simp only[fC,d1,d2,d3,oB]
 refine ae (ae (ak (Mi6 rn re el c1 c2 c3) ?_));refine dC (Z0) (bz ?_);refine ae (ae (ak (M0) ?_));refine dX (α:=Unit) (N:=es.length) (λk _=>[(1,.ptr h.next 0),(3,.int .i64 (k:Nat))]) (λk _ h'=>Ext (h.next+1) h0 h'/\(es.take k).all (okE n)=true) () (Oi1 @bh) ⟨Oh,rfl⟩ ?_ ?_ ?_
 .rintro k _ ts h1 hk ⟨jx,j1⟩ ⟨e1,e3,-⟩;simp only at e1 e3;have re1:ai h1 h.next 1 1=some [ev]:=by rw[bi (jx.gt _ om)];exact re
  exact⟨_,(J5 e1 e3 re1 el @bE),I0,O2 e1 e3⟩
 .rintro k _ ts h1 hk ⟨jx,j1⟩ ⟨e1,e3,-⟩;simp only at e1 e3;have re1:ai h1 h.next 1 1=some [ev]:=by rw[bi (jx.gt _ om)];exact re
  have jn:=jx.nx;have X1:Ext h.next h h1:=x0.trans (jx.mono om);obtain⟨b1,p1,a1,r4,_⟩:=(he.ext X1 (ab _)).at (cm (f:=eE) hk);obtain⟨h2,w2,x2,g2,n2⟩:=gD (h:=h1) (z:=[.int .i64 0,.int .i64 0]) (cs:=[.int .i64 es[k].1,.int .i64 es[k].2]) (e:=2) rfl;refine ae (ak (by simp only[am,aL,simprocAttr,e1,e3,re1,a1,r4,eE,w2]<;>rfl) ?_);have ra:ai h2 h1.next 0 1=some [.int .i64 es[k].1]:=bq g2 rfl;have rb:ai h2 h1.next 1 1=some [.int .i64 es[k].2]:=bq g2 rfl;have rn2:ai h2 h.next 0 1=some [.int .i64 n]:=by rw[bi (x2.gt _ om),bi (jx.gt _ om)];exact rn
  have w1:=dW (k:=k) om;have Y2:Ext (h.next+1) h0 h2:=jx.trans (x2.mono om);have X2:Ext h.next h h2:=X1.trans (x2.mono X1.nx);have bad:okE n es[k]=false->fC n es=false:=λhb=>by
   rw[hB];cases hh:es.all (okE n)with
   |false=>rfl
   |true=>rw[bK.1 hh _ (ar hk)]at hb;cases hb
  by_cases p1:es[k].1<0
  .have d1:decide (es[k].1<0)=true:=aH p1
   have hb:=bad (by have:decide (0<=es[k].1)=false:=aw om
                    simp only[okE,this,eF])
   refine ae (ak (M2 ra d1) ?_);refine cZ (Z0) (ae (ak (M0) ?_));exact bu ⟨.bool false,(by simp only[rs,rf15,am,aL,simprocAttr]<;>rfl),by rw[hb],X2⟩
  have d1:decide (es[k].1<0)=false:=aw p1;by_cases p2:es[k].2<0
  .have d2:decide (es[k].2<0)=true:=aH p2
   have hb:=bad (by have:decide (0<=es[k].2)=false:=aw om
                    simp only[okE,this,eF,kI])
   refine ae (ak (M4 ra rb d1 d2) ?_);refine cZ (Z0) (ae (ak (M0) ?_));exact bu ⟨.bool false,(by simp only[rs,rf15,am,aL,simprocAttr]<;>rfl),by rw[hb],X2⟩
  have d2:decide (es[k].2<0)=false:=aw p2;by_cases p3:n<=es[k].1
  .have d3:decide (n<=es[k].1)=true:=aH p3
   have hb:=bad (by have:decide (es[k].1<n)=false:=aw om
                    simp only[okE,this,eF,kI])
   refine ae (ak (M7 ra rb rn2 e1 d1 d2 d3) ?_);refine cZ (Z0) (ae (ak (M0) ?_));exact bu ⟨.bool false,(by simp only[rs,rf15,am,aL,simprocAttr]<;>rfl),by rw[hb],X2⟩
  have d3:decide (n<=es[k].1)=false:=aw p3;by_cases p4:n<=es[k].2
  .have d4:decide (n<=es[k].2)=true:=aH p4
   have hb:=bad (by have:decide (es[k].2<n)=false:=aw om
                    simp only[okE,this,kI])
   refine ae (ak (M8 ra rb rn2 e1 d1 d2 d3 d4) ?_);refine cZ (Z0) (ae (ak (M0) ?_));exact bu ⟨.bool false,(by simp only[rs,rf15,am,aL,simprocAttr]<;>rfl),by rw[hb],X2⟩
  have d4:decide (n<=es[k].2)=false:=aw p4;refine ae (ak (M8 ra rb rn2 e1 d1 d2 d3 d4) ?_);refine dC (I0) (bz ⟨(),⟨Y2,?_⟩,_,(J2 e3 w1),O1 e1⟩);rw[aI hk,List.all_append,j1];have f1:decide (0<=es[k].1)=true:=aH om;have f2:decide (0<=es[k].2)=true:=aH om;have f3:decide (es[k].1<n)=true:=aH om;have f4:decide (es[k].2<n)=true:=aH om;simp only[gQ,vW,okE,f1,f2,f3,f4,te]
 .rintro _ ts h1 ⟨jx,j1⟩ ⟨e1,e3,-⟩;rw[bt]at j1;refine ae (ak (M0) ?_);exact bu ⟨.bool true,(by simp only[rs,rf15,am,aL,simprocAttr]<;>rfl),by rw[hB,j1],x0.trans (jx.mono (by have:=x0.nx;omega))⟩
def Lq{n:Int}(he:SlE h ev es)(_:es.length<2^40):C prg 15 [.agg [.int .i64 n,ev]] h λr h'=>r=.bool (fC n es)/\Ext h.next h h':=Ad he
def uH{n:Nat}(he:SlE h ev es)(hl:es.length<2^30)(hn:n<=64):C prg 25 [.agg [.int .i64 (n:Nat),ev],.bool true] h λr h'=>IsSl h' 1 h.next r ((gU n es).flatMap eI)/\Ext h.next h h':=by
 obtain⟨ec,eo⟩:=he.cells;refine Oj rfl ?_;have x0:Ext h.next h (h.new (.cells [.int .i64 (n:Nat),ev] 2 false)):=Oe (ab _);have g0:(h.new (.cells [.int .i64 (n:Nat),ev] 2 false)).get h.next=some (.cells [.int .i64 (n:Nat),ev] 2 false):=by rw[AH.get_new,if_pos rfl]
 have n0:(h.new (.cells [.int .i64 (n:Nat),ev] 2 false)).next=h.next+1:=rfl;refine ae (ak (Mi0) ?_);generalize h.new (.cells [.int .i64 (n:Nat),ev] 2 false)=h0 at *
 refine ae (ak (Mi0) ?_);have x1:Ext h0.next h0 (h0.new (.cells [] 1 false)):=Oe (ab _);have g1:(h0.new (.cells [] 1 false)).get h0.next=some (.cells [] 1 false):=by rw[AH.get_new,if_pos rfl]
 have n1:(h0.new (.cells [] 1 false)).next=h0.next+1:=rfl;generalize h0.new (.cells [] 1 false)=h1 at *
 have X1:=x0.trans (x1.mono om);refine ae (ae (ak (Mi0) ?_));have hsucc:∀k,gU (k+1) es=if (dr es ((k:Nat):Int)).length=0 then gU k es++[((k:Nat):Int)]else gU k es:=λk=>by
  unfold gU;rw[cP,cB,fx];by_cases q:(dr es ((k:Nat):Int)).length=0
  .rw[if_pos (by simpa using q),if_pos q];simp
  .rw[if_neg (by simpa using q),if_neg q];simp
 have hle:∀k,(gU k es).length<=k:=λk=>by
  unfold gU;rw[ah];exact cu (cX _ _) (by simp)
 refine dX (α:=AV) (N:=n) (λk a=>[(2,.ptr h.next 0),(1,.bool true),(5,a),(6,.int .i64 (k:Nat))]) (λk a h'=>IsSl h' 1 (h.next+1) a ((gU k es).flatMap eI)/\Ext (h.next+1) h1 h') (.sl h0.next 0 0 0) (Oi1 @bh)
  ⟨.inr ⟨h0.next,0,om,rfl,g1,rfl⟩,Oh⟩ ?_ ?_ ?_
 .rintro k a ts h2 hk ⟨j1,jx⟩ ⟨e2,e1,e5,e6,-⟩;simp only at e2 e1 e5 e6;have rn:ai h2 h.next 0 1=some [.int .i64 (n:Nat)]:=bq (by rw[jx.gt _ om,x1.gt _ om];exact g0) rfl;exact⟨_,(J4 e2 e6 rn @bE),I0,O4 e2 e1 e5 e6⟩
 .rintro k a ts h2 hk ⟨j1,jx⟩ ⟨e2,e1,e5,e6,-⟩;simp only at e2 e1 e5 e6;have jn:=jx.nx;have X2:Ext h.next h h2:=X1.trans (jx.mono om);have rg:ai h2 h.next 0 2=some [.int .i64 (n:Nat),ev]:=by rw[aR (by rw[jx.gt _ om,x1.gt _ om];exact g0)];rfl
  have w1:=dW (k:=k) om;refine ae (bM (bj 4 (M4 e2 e1 e6 rg) rfl (Z4 e2 e1 e6 rg) (M4 e2 e1 e6 rg) (uG (x:=((k:Nat):Int)) (fr:=false) (he.ext X2 (ab _)) hl) λr h3 hq=>?_));obtain⟨i3,x3⟩:=hq;have s3:SlI h3 r (dr es ((k:Nat):Int)):=Ob om (λ_=>rfl) i3;have l3:=s3.len;rw[ah]at l3;refine bI (M1 l3) ?_;have j3:=j1.ext x3 (ab _);have Y3:Ext (h.next+1) h1 h3:=jx.trans (x3.mono om);refine cF (t:=decide ((dr es ((k:Nat):Int)).length=0)) (by simp only[am,aL,simprocAttr];exact congrArg AV.bool (by simp only[decide_eq_decide];omega)) (λq=>?_) λq=>?_
  .have q:(dr es ((k:Nat):Int)).length=0:=aY q;have hk2:=hle k;have n3:=x3.nx;obtain⟨s',h4,a4,i4,x4,n4⟩:=j3.push (bytes:=8) [.int .i64 ((k:Nat):Int)] om om rfl rfl (by rw[ee];unfold bf;omega) (by rw[ee];unfold bf;omega);refine ak (M3 e5 e6 a4) ?_;refine⟨s',⟨?_,Y3.trans x4⟩,_,(J2 e6 w1),O2 e2 e1⟩;rw[hsucc,if_pos q,br];exact i4
  .have q:¬(dr es ((k:Nat):Int)).length=0:=bo q;refine bz ⟨a,⟨?_,Y3⟩,_,(J2 e6 w1),O3 e2 e1 e5⟩;rw[hsucc,if_neg q];exact j3
 .rintro a ts h2 ⟨j1,jx⟩ ⟨e2,e1,e5,e6,-⟩;simp only at e5;refine ae (ak (M1 e5) ?_);exact bu ⟨a,(by simp only[rs,rf25,am,aL,simprocAttr]<;>rfl),j1.mono om,X1.trans (jx.mono om)⟩
end Go.Proofs.YtklpoimdclflmaaGreatDoor
