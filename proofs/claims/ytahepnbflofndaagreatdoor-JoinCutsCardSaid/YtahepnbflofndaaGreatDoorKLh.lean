/- The definition's side -/
import Derived.Test.YtahepnbflofndaaGreatDoorKLf
set_option linter.all false
namespace Go.Proofs.YtahepnbflofndaaGreatDoor
open Go.Am
theorem dT {k:Nat} (h:k<2 ^ 62):IntKind.i64.wrap (((k:Nat):Int)+1)=((k+1:Nat):Int):=fD om om
theorem kH {α:Type} [DecidableEq α]:∀ {l m:List α},l.Nodup→(∀ x∈l,x∈m)→m.length=l.length→l.Perm m
 | [],m,_,_,h=>by
   rw[bi.1 h]
 | a::l,m,hn,hs,hl=>by
   have hm:=hs a (bd ..);have hn':=dm.1 hn;have ih:=kH (l:=l) (m:=m.erase a) hn'.2 (λx hx=>(List.mem_erase_of_ne (λe:x=a=>hn'.1 (e▸hx))).2 (hs x (bw _ hx))) (by
    rw[List.length_erase_of_mem hm,hl]; simp)
   exact (List.Perm.cons a ih).trans (List.perm_cons_erase hm).symm
theorem wS {h:AH}{v:AV}{xs:List Int}{x:Int} (hv:SlI h v xs) (hl:xs.length<2 ^ 40):C prg 148 [v,.int .i64 x] h λr h'=>r=.int .i64 (dW (x==·) xs 0)∧h'=h:=by
 have el:=hv.len;rw[ai] at el;refine Mw pf148 ?_;refine ae (aj (Mi0) ?_);refine ae (ae (aj (Mi0) ?_));refine dV (α:=Unit) (N:=xs.length) (λk _=>[(0,v),(1,.int .i64 x),(5,.int .i64 (k:Nat))]) (λk _ h'=>h'=h∧dW (x==·) (xs.drop k) k=dW (x==·) xs 0) () (Oi1 @bh) ⟨rfl,rfl⟩ ?_ ?_ ?_
 ·rintro k _ ts h1 hk ⟨rfl,j1⟩ ⟨e0,e1,e5,-⟩;simp only at e0 e1 e5;exact⟨_,(J4 e0 e5 el @bz),I0,O3 e0 e1 e5⟩
 ·rintro k _ ts h1 hk ⟨rfl,j1⟩ ⟨e0,e1,e5,-⟩;simp only at e0 e1 e5;obtain⟨b1,p1,a1,r1,_⟩:=hv.at1 (cq (f:=eI) hk);rw[fJ _ hk] at j1;have w1:=dT (k:=k) om;refine ae (aj (M5 e0 e1 e5 a1 r1) ?_);refine cr (t:=decide (xs[k]=x)) (Z0) (λq=>?_) λq=>?_
  ·have q:xs[k]=x:=aR q;rw[if_pos (by simp [q])] at j1;refine ae (aj (M1 e5) ?_);exact br ⟨.int .i64 (k:Nat),(by simp only[rs,rf148,am,aK,simprocAttr]<;>rfl),by rw[j1],rfl⟩
  ·have q:¬ xs[k]=x:=aZ q;rw[if_neg (by simpa using λe=>q (Eq.symm e))] at j1;refine bu ⟨(),⟨rfl,j1⟩,_,(J2 e5 w1),O2 e0 e1⟩
 ·rintro _ ts h1 ⟨rfl,j1⟩ ⟨e0,e1,e5,-⟩;rw[mU] at j1;refine ae (aj (M0) ?_);exact br ⟨.int .i64 (-1),(by simp only[rs,rf148,am,aK,simprocAttr]<;>rfl),by rw[← j1]; rfl,rfl⟩
theorem yR {h:AH}{v:AV}{xs:List Int}{x:Int} (hv:SlI h v xs) (hl:xs.length<2 ^ 40):C prg 162 [v,.int .i64 x] h λr h'=>r=.bool (decide (x∈xs))∧h'=h:=by
 have el:=hv.len;rw[ai] at el;refine Mw pf162 ?_;refine ae (aj (Mi0) ?_);refine ae (ae (aj (Mi0) ?_));refine dV (α:=Unit) (N:=xs.length) (λk _=>[(0,v),(1,.int .i64 x),(5,.int .i64 (k:Nat))]) (λk _ h'=>h'=h∧x∉xs.take k) () (Oi1 @bh) ⟨rfl,by simp⟩ ?_ ?_ ?_
 ·rintro k _ ts h1 hk ⟨rfl,j1⟩ ⟨e0,e1,e5,-⟩;simp only at e0 e1 e5;exact⟨_,(J4 e0 e5 el @bz),I0,O3 e0 e1 e5⟩
 ·rintro k _ ts h1 hk ⟨rfl,j1⟩ ⟨e0,e1,e5,-⟩;simp only at e0 e1 e5;obtain⟨b1,p1,a1,r1,_⟩:=hv.at1 (cq (f:=eI) hk);have w1:=dT (k:=k) om;refine ae (aj (M5 e0 e1 e5 a1 r1) ?_);refine cr (t:=decide (xs[k]=x)) (Z0) (λq=>?_) λq=>?_
  ·have q:xs[k]=x:=aR q;refine ae (aj (M0) ?_);exact br ⟨.bool true,(by simp only[rs,rf162,am,aK,simprocAttr]<;>rfl),by rw[aH (q▸aP hk)],rfl⟩
  ·have q:¬ xs[k]=x:=aZ q;refine bu ⟨(),⟨rfl,?_⟩,_,(J2 e5 w1),O2 e0 e1⟩;rw[aG hk,aV];rintro (h|h)
   ·exact j1 h
   ·simp only[aA,bq,or_false] at h;exact q h.symm
 ·rintro _ ts h1 ⟨rfl,j1⟩ ⟨e0,e1,e5,-⟩;rw[bp] at j1;refine ae (aj (M0) ?_);exact br ⟨.bool false,(by simp only[rs,rf162,am,aK,simprocAttr]<;>rfl),by rw[aw j1],rfl⟩
def su (fr:Bool) (x:Int) (e:Int×Int):Bool:=if fr then decide (e.1=x) else decide (e.2=x)
def Lu (es:List (Int×Int)) (x:Int) (fr:Bool):List Int:=if fr then dz es x else dg es x
theorem Hz {es:List (Int×Int)}{x:Int}{fr:Bool}:Lu es x fr=dr (su fr x) es 0:=by
 cases fr<;>rfl
theorem tf {h:AH}{n x:Int}{ev:AV}{es:List (Int×Int)}{fr:Bool} (he:SlE h ev es) (hl:es.length<2 ^ 30):C prg 124 [.agg [.int .i64 n,ev],.int .i64 x,.bool fr] h λr h'=>IsSl h' 1 h.next r ((Lu es x fr).flatMap eI)∧Ext h.next h h':=by
 have el:=he.len;rw[ai] at el;obtain⟨ec,eo⟩:=he.cells;refine Mw pf124 ?_;have x0:Ext h.next h (h.new (.cells [.int .i64 n,ev] 2 false)):=Mt (ab _);have g0:(h.new (.cells [.int .i64 n,ev] 2 false)).get h.next=some (.cells [.int .i64 n,ev] 2 false):=by rw[AH.get_new,if_pos rfl]
 have n0:(h.new (.cells [.int .i64 n,ev] 2 false)).next=h.next+1:=rfl;refine ae (aj (Mi0) ?_);generalize h.new (.cells [.int .i64 n,ev] 2 false)=h0 at *
 refine ae (aj (Mi0) ?_);have x1:Ext h0.next h0 (h0.new (.cells [] 1 false)):=Mt (ab _);have g1:(h0.new (.cells [] 1 false)).get h0.next=some (.cells [] 1 false):=by rw[AH.get_new,if_pos rfl]
 have n1:(h0.new (.cells [] 1 false)).next=h0.next+1:=rfl;generalize h0.new (.cells [] 1 false)=h1 at *
 have X1:=x0.trans (x1.mono om);refine ae (ae (aj (Mi0) ?_))
 refine dV (α:=AV) (N:=es.length) (λk a=>[(3,.ptr h.next 0),(1,.int .i64 x),(2,.bool fr),(7,a),(8,.int .i64 (k:Nat))]) (λk a h'=>IsSl h' 1 (h.next+1) a ((dr (su fr x) (es.take k) 0).flatMap eI)∧Ext (h.next+1) h1 h') (.sl h0.next 0 0 0) (Oi1 @bh)
  ⟨.inr ⟨h0.next,0,om,rfl,g1,rfl⟩,Mu⟩ ?_ ?_ ?_
 ·rintro k a ts h2 hk ⟨j1,jx⟩ ⟨e3,e1,e2,e7,e8,-⟩;simp only at e3 e1 e2 e7 e8;have r0:ak h2 h.next 1 1=some [ev]:=bm (by rw[jx.gt _ om,x1.gt _ om]; exact g0) rfl;exact⟨_,(J5 e3 e8 r0 el @bz),I0,O5 e3 e1 e2 e7 e8⟩
 ·rintro k a ts h2 hk ⟨j1,jx⟩ ⟨e3,e1,e2,e7,e8,-⟩;simp only at e3 e1 e2 e7 e8;have X2:Ext h.next h h2:=X1.trans (jx.mono om);have n2:=jx.nx;have r0:ak h2 h.next 1 1=some [ev]:=bm (by rw[jx.gt _ om,x1.gt _ om]; exact g0) rfl;obtain⟨b1,p1,a1,_,rr,_⟩:=(he.ext X2 (ab _)).at (cq (f:=eE) hk);have ra:ak h2 b1 p1 1=some [.int .i64 es[k].1]:=rr 0 _ rfl;have rb:ak h2 b1 (p1+1) 1=some [.int .i64 es[k].2]:=rr 1 _ rfl;have w1:=dT (k:=k) om;have hlen:(dr (su fr x) (es.take k) 0).length≤k:=cn (fk _ _ _) (by rw[aS]; omega);have hs:=nU (su fr x) hk
  have done:∀ ts':Tm,Held [(3,.ptr h.next 0),(1,.int .i64 x),(2,.bool fr),(7,a),(8,.int .i64 (k:Nat)),(41,.bool (su fr x es[k]))] ts' →
   W prg (.cond (.t 41) (.reg [⟨some 42,.mov (.t 7),none,none,[]⟩,⟨some 43,.mov (.t 8),none,none,[]⟩,⟨some 44,.mksl [.int .i64 0] 1 1 [(0,1,.t 43)],none,none,[]⟩,⟨some 45,.app 1 8 (.t 42) (.t 44),none,none,[]⟩,⟨some 7,.mov (.t 45),none,none,[]⟩]) .skip) ts' h2
     (λts' h'=>∃ a',(IsSl h' 1 (h.next+1) a' ((dr (su fr x) (es.take (k+1)) 0).flatMap eI)∧Ext (h.next+1) h1 h')∧Held [(3,.ptr h.next 0),(1,.int .i64 x),(2,.bool fr),(7,a'),(8,.int .i64 (k:Nat))] ts') (λ_ _=>False) (λ_ _ _=>False):=by
   rintro ts' ⟨f3,f1,f2,f7,f8,f41,-⟩;simp only at f3 f1 f2 f7 f8 f41;refine cr (t:=su fr x es[k]) (Z1 f41) (λq=>?_) λq=>?_
   ·obtain⟨s',h3,a3,i3,x3,n3⟩:=j1.push (bytes:=8) [.int .i64 ((k:Nat):Int)] om om rfl rfl (by rw[dS]; unfold aW; omega) (by rw[dS]; unfold aW; omega);refine aj (M3 f7 f8 a3) ?_;refine⟨s',⟨?_,jx.trans x3⟩,by simp only[dU,eH,am,aK,↓reduceIte,Nat.reduceEqDiff,Int.reduceEq,Nat.reduceAdd,Nat.reduceLeDiff,reduceCtorEq,f3,f1,f2,f8]⟩;rw[hs,if_pos q,bC];exact i3
   ·refine bu ⟨a,⟨?_,jx⟩,by simp only[dU,eH,am,aK,↓reduceIte,Nat.reduceEqDiff,Int.reduceEq,Nat.reduceAdd,Nat.reduceLeDiff,reduceCtorEq,f3,f1,f2,f7,f8]⟩;rw[hs,if_neg (by simp [q])];exact j1
  have fin:∀ ts' h',(∃ a',(IsSl h' 1 (h.next+1) a' ((dr (su fr x) (es.take (k+1)) 0).flatMap eI)∧Ext (h.next+1) h1 h')∧Held [(3,.ptr h.next 0),(1,.int .i64 x),(2,.bool fr),(7,a'),(8,.int .i64 (k:Nat))] ts') →
   ∃ a',(IsSl h' 1 (h.next+1) a' ((dr (su fr x) (es.take (k+1)) 0).flatMap eI)∧Ext (h.next+1) h1 h')∧∃ ts'',km h'.next [⟨some 15,.mov (.t 8),none,none,[]⟩,⟨some 16,.bin .add .no (.t 15) (.c (.int .i64 1)),none,none,[]⟩,⟨some 8,.mov (.t 16),none,none,[]⟩] (some (ts',h'))=some (ts'',h')∧Held [(3,.ptr h.next 0),(1,.int .i64 x),(2,.bool fr),(7,a'),(8,.int .i64 ((k+1:Nat):Int))] ts'':=by
   rintro ts' h' ⟨a',ha,f3,f1,f2,f7,f8,-⟩;simp only at f3 f1 f2 f7 f8;exact⟨a',ha,_,(J2 f8 w1),by simp only[dU,eH,am,aK,↓reduceIte,Nat.reduceEqDiff,Int.reduceEq,Nat.reduceAdd,Nat.reduceLeDiff,reduceCtorEq,f3,f1,f2,f7]⟩
  refine ae ?_;cases fr with
  | true =>
    by_cases q:es[k].1=x
    ·have c1:decide (es[k].1=x)=true:=aH q;have cE:su true x es[k]=true:=c1;refine aj (M10 e3 e1 e2 e8 r0 a1 ra rb c1 c1) ?_;exact jI _ (done _ (O6 e3 e1 e2 e7 e8 cE)) fin (λ_ _ q=>q.elim) (λ_ _ _ q=>q.elim)
    ·have c1:decide (es[k].1=x)=false:=aw q;have cE:su true x es[k]=false:=c1;refine aj (M10 e3 e1 e2 e8 r0 a1 ra rb c1 c1) ?_;exact jI _ (done _ (O6 e3 e1 e2 e7 e8 cE)) fin (λ_ _ q=>q.elim) (λ_ _ _ q=>q.elim)
  | false =>
    have cE:su false x es[k]=decide (es[k].2=x):=rfl;refine aj (M8 e3 e1 e2 e8 r0 a1 ra rb) ?_;exact jI _ (done _ (O6 e3 e1 e2 e7 e8 cE)) fin (λ_ _ q=>q.elim) (λ_ _ _ q=>q.elim)
 ·rintro a ts h2 ⟨j1,jx⟩ ⟨e3,e1,e2,e7,e8,-⟩;simp only at e3 e1 e2 e7 e8;rw[bp] at j1;refine ae (aj (M1 e7) ?_);exact br ⟨a,(by simp only[rs,rf124,am,aK,simprocAttr]<;>rfl),by rw[Hz]; exact j1.mono om,X1.trans (jx.mono om)⟩
theorem Ge {h:AH}{v:AV}{xs:List Int}{n:Nat} (hv:SlI h v xs) (hl:xs.length<2 ^ 40) (hn:n<2 ^ 40):C prg 160 [v,.int .i64 (n:Nat)] h λr h'=>(∃ b,r=.bool b∧(b=true↔xs.Perm (ju n)))∧h'=h:=by
 have el:=hv.len;rw[ai] at el;refine Mw pf160 ?_;refine ae (aj (Mi0) ?_);refine ae (ae (aj (Mi1 el) ?_));refine cr (t:=!decide (xs.length=n)) (by simp only[am,aK,simprocAttr]; exact congrArg AV.bool (by congr 1; simp only[decide_eq_decide]; omega)) (λq=>?_) λq=>?_
 ·have q:¬ xs.length=n:=by simpa using q
  refine ae (aj (M0) ?_);exact br ⟨.bool false,(by simp only[rs,rf160,am,aK,simprocAttr]<;>rfl),⟨false,rfl,⟨λh=>(by cases h),λhP=>absurd (by rw[hP.length_eq,kh]) q⟩⟩,rfl⟩
 have q:xs.length=n:=by simpa using q
 refine bu ?_;refine ae (ae (aj (M0) ?_));refine dV (α:=Unit) (N:=n) (λk _=>[(0,v),(1,.int .i64 (n:Nat)),(5,.int .i64 (k:Nat))]) (λk _ h'=>h'=h∧∀ j:Nat,j<k→((j:Nat):Int)∈xs) () (Oi1 @bh) ⟨rfl,λj hj=>absurd hj om⟩ ?_ ?_ ?_
 ·rintro k _ ts h1 hk ⟨rfl,j1⟩ ⟨e0,e1,e5,-⟩;simp only at e0 e1 e5;exact⟨_,(J3 e1 e5 @bz),I0,O3 e0 e1 e5⟩
 ·rintro k _ ts h1 hk ⟨rfl,j1⟩ ⟨e0,e1,e5,-⟩;simp only at e0 e1 e5;have w1:=dT (k:=k) om;refine ae (bN (bo 2 (M2 e0 e5) rfl (Z2 e0 e5) (M2 e0 e5) (wS (x:=((k:Nat):Int)) hv hl) λr h2 hq=>?_));obtain⟨rfl,rfl⟩:=hq;refine bH (M0) ?_;have hlo:=(jR (((k:Nat):Int)==·) xs 0).2;rw[qj] at hlo;refine cr (t:=decide (dW (((k:Nat):Int)==·) xs 0<0)) (Z0) (λq2=>?_) λq2=>?_
  ·have q2:=hlo.1 (aR q2);have q2:¬ ((k:Nat):Int)∈xs:=aZ q2;refine ae (aj (M0) ?_);exact br ⟨.bool false,(by simp only[rs,rf160,am,aK,simprocAttr]<;>rfl),⟨false,rfl,⟨λh=>(by cases h),λhP=>absurd (hP.mem_iff.2 (gf.2 ⟨om,om⟩)) q2⟩⟩,rfl⟩
  ·have q2:((k:Nat):Int)∈xs:=by
    refine Decidable.byContradiction λhc=>?_;have:=hlo.2 (aw hc);exact aZ q2 this
   refine bu ⟨(),⟨rfl,λj hj=>?_⟩,_,(J2 e5 w1),O2 e0 e1⟩;by_cases e:j=k
   ·subst e; exact q2
   ·exact j1 j om
 ·rintro _ ts h1 ⟨rfl,j1⟩ ⟨e0,e1,e5,-⟩;refine ae (aj (M0) ?_);refine br ⟨.bool true,(by simp only[rs,rf160,am,aK,simprocAttr]<;>rfl),⟨true,rfl,⟨λ_=>?_,λ_=>rfl⟩⟩,rfl⟩;have hsub:∀ x∈ju n,x∈xs:=λx hx=>by
   obtain⟨h1,h2⟩:=gf.1 hx;have:=j1 x.toNat om;rwa [An h1] at this
  exact (kH (Au n) hsub (by rw[kh,q])).symm
open Go.Am
def nf (L nx:List Bool) (e:Int×Int):List Bool:=if L.getD e.1.toNat false&&L.getD e.2.toNat false then nx.set e.2.toNat true else nx
def rnd (n:Nat) (es:List (Int×Int)) (L:List Bool):List Bool:=es.foldl (nf L) (List.replicate n false)
def dQ (n:Nat) (es:List (Int×Int)):Nat→List Bool
 | 0=>List.replicate n true
 | k+1=>rnd n es (dQ n es k)
theorem yO {L nx:List Bool}{e:Int×Int}:(nf L nx e).length=nx.length:=by
 unfold nf;split<;>simp
theorem tR {L:List Bool}:∀ (es:List (Int×Int)) (nx:List Bool),(es.foldl (nf L) nx).length=nx.length
 | [],nx=>rfl
 | e::r,nx=>by rw[fN,tR r,yO]
theorem zI {L:List Bool}:∀ (es:List (Int×Int)) (nx:List Bool) (v:Nat),v<nx.length →
 ((es.foldl (nf L) nx).getD v false=true↔nx.getD v false=true∨∃ e∈es,L.getD e.1.toNat false=true∧L.getD e.2.toNat false=true∧e.2.toNat=v)
 | [],nx,v,h=>by simp
 | e::r,nx,v,h=>by
   rw[fN,zI r _ v (by rw[yO]; exact h)];unfold nf;by_cases q:(L.getD e.1.toNat false&&L.getD e.2.toNat false)=true
   ·rw[if_pos q];rw[aM] at q;by_cases qe:e.2.toNat=v
    ·have:(nx.set e.2.toNat true).getD v false=true:=by
      rw[aL,qe,dY h]; rfl
     constructor
     ·intro _;exact .inr ⟨e,bd ..,q.1,q.2,qe⟩
     ·intro _;exact .inl this
    ·have:(nx.set e.2.toNat true).getD v false=nx.getD v false:=by
      rw[aL,dq qe,aL]
     rw[this];constructor
     ·rintro (h1|⟨e',h1,h2⟩)
      ·exact .inl h1
      ·exact .inr ⟨e',bw _ h1,h2⟩
     ·rintro (h1|⟨e',h1,h2,h3,h4⟩)
      ·exact .inl h1
      ·rcases aA.1 h1 with rfl|h1
       ·exact absurd h4 qe
       ·exact .inr ⟨e',h1,h2,h3,h4⟩
   ·rw[if_neg q];constructor
    ·rintro (h1|⟨e',h1,h2⟩)
     ·exact .inl h1
     ·exact .inr ⟨e',bw _ h1,h2⟩
    ·rintro (h1|⟨e',h1,h2,h3,h4⟩)
     ·exact .inl h1
     ·rcases aA.1 h1 with rfl|h1
      ·exact absurd (by rw[h2,h3]; rfl) q
      ·exact .inr ⟨e',h1,h2,h3,h4⟩
theorem ji (n:Nat) (es:List (Int×Int)):∀ k,(dQ n es k).length=n
 | 0=>by simp [dQ]
 | k+1=>by rw[dQ,rnd,tR,cF]
def lk (n:Nat) (es:List (Int×Int)) (k v:Nat):Bool:=(dQ n es k).getD v false
theorem Cw {n:Nat}{es:List (Int×Int)}{v:Nat} (h:v<n):lk n es 0 v=true:=by
 unfold lk dQ;rw[aL,cA,if_pos h];rfl
theorem Lp {n:Nat}{es:List (Int×Int)}{k v:Nat} (h:¬ v<n):lk n es k v=false:=by
 unfold lk;rw[aL,bG (by rw[ji]; omega)];rfl
theorem sK {n:Nat}{es:List (Int×Int)}{k v:Nat} (h:v<n):lk n es (k+1) v=true↔∃ e∈es,lk n es k e.1.toNat=true∧lk n es k e.2.toNat=true∧e.2.toNat=v:=by
 unfold lk;rw[dQ,rnd,zI _ _ _ (by rw[cF]; exact h)];rw[aL,cA,if_pos h];simp
theorem Cx {n:Nat}{es:List (Int×Int)}{k v:Nat} (h:lk n es (k+1) v=true):lk n es k v=true:=by
 by_cases hv:v<n
 ·obtain⟨e,_,_,h2,rfl⟩:=(sK hv).1 h;exact h2
 ·rw[Lp hv] at h;cases h
theorem JW {n:Nat}{es:List (Int×Int)} (he:es.all (okE n)=true) {e:Int×Int} (hm:e∈es):∀ k,lk n es k e.1.toNat=true→lk n es (k+1) e.2.toNat=true:=by
 have hr:=kI (bD.1 he e hm);intro k;induction k with
 | zero=>exact λh=>(sK om).2 ⟨e,hm,h,Cw om,rfl⟩
 | succ k ih=>exact λh=>(sK om).2 ⟨e,hm,h,ih (Cx h),rfl⟩
theorem cnt_le:∀ (a b:List Bool),a.length=b.length→(∀ i:Nat,a.getD i false=true→b.getD i false=true)→a.count true≤b.count true∧(a.count true=b.count true→a=b)
 | [],[],_,_=>⟨ab _,λ_=>rfl⟩
 | [],_::_,h,_=>by simp at h
 | _::_,[],h,_=>by simp at h
 | x::a,y::b,h,hi=>by
   obtain⟨h1,h2⟩:=cnt_le a b (by simpa using h) λi hh=>by
    have:=hi (i+1);simp only[List.getD_cons_succ] at this;exact this hh
   have h0:=hi 0;simp only[List.getD_cons_zero] at h0;cases x<;>cases y<;>simp only[uK,beq_true,beq_false,iO,ym,bL,if_true,if_false] at *
   ·exact⟨om,λq=>by rw[h2 om]⟩
   ·exact⟨om,λq=>by omega⟩
   ·exact absurd (h0 trivial) (by simp)
   ·exact⟨om,λq=>by rw[h2 om]⟩
theorem zq (n:Nat) (es:List (Int×Int)):dQ n es (n+1)=dQ n es n:=by
 have hle:∀ k,(dQ n es (k+1)).count true≤(dQ n es k).count true∧((dQ n es (k+1)).count true=(dQ n es k).count true→dQ n es (k+1)=dQ n es k):=λk =>
  cnt_le _ _ (by rw[ji,ji]) λi h=>Cx h
 have key:∀ k,(dQ n es k).count true+k≤n∨dQ n es (k+1)=dQ n es k:=by
  intro k;induction k with
  | zero =>
    left;have:=yj (a:=true) (l:=dQ n es 0);rw[ji] at this;omega
  | succ k ih =>
    rcases ih with h|h
    ·by_cases q:dQ n es (k+1)=dQ n es k
     ·right;rw[dQ,q];exact q
     ·left;have:=hle k;have h3:(dQ n es (k+1)).count true≠(dQ n es k).count true:=λe=>q (this.2 e);omega
    ·right;rw[dQ,h];exact h
 rcases key n with h|h
 ·exact (hle n).2 (by have:=(hle n).1; omega)
 ·exact h
theorem vJ {n:Nat}{es:List (Int×Int)}{v:Nat} (h:lk n es n v=true):∃ e∈es,lk n es n e.1.toNat=true∧e.2.toNat=v:=by
 by_cases hv:v<n
 ·have:lk n es (n+1) v=true:=by unfold lk; rw[zq]; exact h
  obtain⟨e,h1,h2,_,h4⟩:=(sK hv).1 this;exact⟨e,h1,h2,h4⟩
 ·rw[Lp hv] at h;cases h
theorem GN {n:Nat}{es:List (Int×Int)} (he:es.all (okE n)=true):(∀ v,v<n→lk n es n v=false)↔Acy es:=by
 constructor
 ·intro h;refine⟨λx=>(List.range (n+1)).countP λk=>lk n es k x.toNat,λe hm=>?_⟩;have hr:=kI (bD.1 he e hm);have h1:((List.range (n+1)).countP λk=>lk n es k e.1.toNat)=(List.range n).countP λk=>lk n es k e.1.toNat:=by
   rw[du,BW,dD,h _ om];simp
  have h2:((List.range (n+1)).countP λk=>lk n es k e.2.toNat)=1+(List.range n).countP λk=>lk n es (k+1) e.2.toNat:=by
   rw[List.range_succ_eq_map,dD,List.countP_map,Cw om];simp only[if_true];rw[Nat.add_comm];rfl
  have h3:((List.range n).countP λk=>lk n es k e.1.toNat)≤(List.range n).countP λk=>lk n es (k+1) e.2.toNat:=List.countP_mono_left λk _ hk=>JW he hm k hk;show ((List.range (n+1)).countP λk=>lk n es k e.1.toNat)<((List.range (n+1)).countP λk=>lk n es k e.2.toNat);omega
 ·rintro⟨rank,hr⟩;have key:∀ m v,v<n→rank v=m→lk n es n v=false:=by
   intro m;induction m using Nat.strongRecOn with
   | _ m ih =>
     intro v hv hm;cases hb:lk n es n v with
     | false=>rfl
     | true =>
       exfalso;obtain⟨e,h1,h2,h3⟩:=vJ hb;have hin:=kI (bD.1 he e h1);have hlt:=hr e h1;have e2:e.2=((v:Nat):Int):=om;have e1:e.1=((e.1.toNat:Nat):Int):=om;rw[e2,hm,e1] at hlt;have:=ih _ hlt e.1.toNat om rfl;rw[this] at h2;cases h2
  exact λv hv=>key _ v hv rfl
def bls (L:List Bool):List AV:=L.map AV.bool
theorem CO (L:List Bool):(bls L).length=L.length:=by simp [bls]
theorem CN (L:List Bool) (i:Nat) (b:Bool):(bls L).set i (.bool b)=bls (L.set i b):=by simp [bls,List.map_set]
theorem BM {L:List Bool}{i:Nat} (h:i<L.length):(bls L)[i]?=some (.bool (L.getD i false)):=by
 unfold bls;rw[aX,aq h,aL,aq h];rfl
theorem KQ (n:Nat):cm [.bool false] n=bls (List.replicate n false):=by
 rw[fq]; simp [bls]
theorem vF {h:AH}{n:Nat} (hn:n≤64):uQ h [.bool false] 1 1 (.int .i64 (n:Nat)) (.int .i64 (n:Nat))=some (.sl h.next 0 n n,h.new (.cells (bls (List.replicate n false)) 1 false)):=by
 rw[kK (by unfold aW; omega) (by unfold aW; omega),KQ]
theorem FZ {h:AH}{n:Nat}{ev:AV}{es:List (Int×Int)} (he:SlE h ev es) (hm:fy (n:Nat) es=true) :
 C prg 147 [.agg [.int .i64 (n:Nat),ev]] h λr h'=>∃ lb,h.next≤lb∧r=.sl lb 0 n n∧h'.get lb=some (.cells (bls (dQ n es n)) 1 false)∧Ext h.next h h':=by
 obtain⟨m1,m2,m3,m4⟩:=iQ hm;have el:=he.len;rw[ai] at el;obtain⟨ec,eo⟩:=he.cells;refine Mw pf147 ?_;have x0:Ext h.next h (h.new (.cells [.int .i64 (n:Nat),ev] 2 false)):=Mt (ab _);have g0:(h.new (.cells [.int .i64 (n:Nat),ev] 2 false)).get h.next=some (.cells [.int .i64 (n:Nat),ev] 2 false):=by rw[AH.get_new,if_pos rfl]
 have n0:(h.new (.cells [.int .i64 (n:Nat),ev] 2 false)).next=h.next+1:=rfl;refine ae (aj (Mi0) ?_);generalize h.new (.cells [.int .i64 (n:Nat),ev] 2 false)=h0 at *
 have r0:ak h0 h.next 0 1=some [.int .i64 (n:Nat)]:=bm g0 rfl;refine ae (aj (by simp only[am,aK,simprocAttr,bS,r0,vF m2]<;>rfl) ?_);have x1:Ext h0.next h0 (h0.new (.cells (bls (List.replicate n false)) 1 false)):=Mt (ab _);have g1:(h0.new (.cells (bls (List.replicate n false)) 1 false)).get h0.next=some (.cells (bls (List.replicate n false)) 1 false):=by rw[AH.get_new,if_pos rfl]
 have n1:(h0.new (.cells (bls (List.replicate n false)) 1 false)).next=h0.next+1:=rfl;generalize h0.new (.cells (bls (List.replicate n false)) 1 false)=h1 at *
 have G1:h1.get h.next=some (.cells [.int .i64 (n:Nat),ev] 2 false):=by rw[x1.gt _ om]; exact g0
 refine ae (ae (aj (Mi0) ?_));have rGn:∀ {h':AH},h'.get h.next=some (.cells [.int .i64 (n:Nat),ev] 2 false)→ak h' h.next 0 1=some [.int .i64 (n:Nat)]:=λhg=>bm hg rfl;have rGe:∀ {h':AH},h'.get h.next=some (.cells [.int .i64 (n:Nat),ev] 2 false)→ak h' h.next 1 1=some [ev]:=λhg=>bm hg rfl
 refine dV (α:=List Bool) (N:=n) (λk a=>[(1,.ptr h.next 0),(3,.sl h0.next 0 n n),(4,.int .i64 (k:Nat))]) (λk a h'=>h'.get h0.next=some (.cells (bls a) 1 false)∧a.length=n∧(∀ v,v<k→a[v]?=some true)∧Ext h0.next h0 h'∧h1.next≤h'.next) (List.replicate n false) (Hi1 @bh)
  ⟨g1,by simp,λv hv=>absurd hv om,x1,ab _⟩ ?_ ?_ ?_
 ·rintro k a ts h2 hk ⟨j1,j2,j3,jx,jn⟩ ⟨e1,e3,e4,-⟩;simp only at e1 e3 e4;have rg:=rGn (h':=h2) (by rw[jx.gt _ om]; exact g0);exact⟨_,(M4 e1 e4 rg @bz),Z0,H3 e1 e3 e4⟩
 ·rintro k a ts h2 hk ⟨j1,j2,j3,jx,jn⟩ ⟨e1,e3,e4,-⟩;simp only at e1 e3 e4;have ik:eR ((k:Nat):Int) n=some k:=cJ hk;have w2:bQ h2 h0.next k [.bool true]=some (h2.put h0.next (.cells (bls (a.set k true)) 1 false)):=by rw[eA j1 (by rw[CO]; omega),CN]
  have w1:=dT (k:=k) om;refine aj (M5 e3 e4 ik @aO w2) ?_;have u:=Mv (o:=.cells (bls (a.set k true)) 1 false) j1;refine⟨a.set k true,⟨u.get,by rw[ct,j2],λv hv=>?_,jx.trans (u.ext (ab _)),jn⟩,_,(M2 e4 w1),H2 e1 e3⟩;by_cases e:k=v
  ·subst e;rw[dY om]
  ·rw[dq e];exact j3 v om
 ·rintro a ts h2 ⟨j1,j2,j3,jx,jn⟩ ⟨e1,e3,e4,-⟩;simp only at e1 e3;have ha:a=dQ n es 0:=by
   refine cW λv=>?_;unfold dQ;rw[cA];split
   ·exact j3 v om
   ·exact bG om
  subst ha;have X2:Ext h.next h h2:=x0.trans (jx.mono om);have jxn:=jx.nx;refine ae (ae (aj (M0) ?_))
  refine dV (α:=Nat) (N:=n) (λk a=>[(1,.ptr h.next 0),(3,.sl a 0 n n),(5,.int .i64 (k:Nat))]) (λk a h'=>h'.get a=some (.cells (bls (dQ n es k)) 1 false)∧h.next<a∧Ext (h.next+1) h0 h') h0.next (H3 e1 e3 @bh)
   ⟨j1,om,jx.mono om⟩ ?_ ?_ ?_
  ·rintro k a ts h3 hk ⟨j1,j2,jx⟩ ⟨e1,e3,e5,-⟩;simp only at e1 e3 e5;have rg:=rGn (h':=h3) (by rw[jx.gt _ om]; exact g0);exact⟨_,(M4 e1 e5 rg @bz),Z0,H3 e1 e3 e5⟩
  ·rintro k a ts h3 hk ⟨j1,j2,jx⟩ ⟨e1,e3,e5,-⟩;simp only at e1 e3 e5;have hG3:h3.get h.next=some (.cells [.int .i64 (n:Nat),ev] 2 false):=by rw[jx.gt _ om]; exact g0
   have rg:=rGn hG3;have al:=AH.lt_of_get j1;refine ae (aj (by simp only[am,aK,simprocAttr,e1,rg,vF m2]<;>rfl) ?_);have x4:Ext h3.next h3 (h3.new (.cells (bls (List.replicate n false)) 1 false)):=Mt (ab _);have g4:(h3.new (.cells (bls (List.replicate n false)) 1 false)).get h3.next=some (.cells (bls (List.replicate n false)) 1 false):=by rw[AH.get_new,if_pos rfl]
   have n4:(h3.new (.cells (bls (List.replicate n false)) 1 false)).next=h3.next+1:=rfl;generalize h3.new (.cells (bls (List.replicate n false)) 1 false)=h4 at *
   have n3:=jx.nx;refine ae (ae (aj (M0) ?_))
   refine dV (α:=Unit) (N:=es.length) (λj _=>[(1,.ptr h.next 0),(3,.sl a 0 n n),(5,.int .i64 (k:Nat)),(6,.sl h3.next 0 n n),(7,.int .i64 (j:Nat))]) (λj _ h'=>h'.get h3.next=some (.cells (bls ((es.take j).foldl (nf (dQ n es k)) (List.replicate n false))) 1 false)∧Ext h3.next h3 h'∧h4.next≤h'.next) () (H4 e1 e3 e5 @bh)
    ⟨g4,x4,ab _⟩ ?_ ?_ ?_
   ·rintro j _ ts h5 hj ⟨i1,ix,inx⟩ ⟨e1,e3,e5,e6,e7,-⟩;simp only at e1 e3 e5 e6 e7;have rg:=rGe (h':=h5) (by rw[ix.gt _ om]; exact hG3);exact⟨_,(M5 e1 e7 rg el @bz),Z0,H5 e1 e3 e5 e6 e7⟩
   ·rintro j _ ts h5 hj ⟨i1,ix,inx⟩ ⟨e1,e3,e5,e6,e7,-⟩;simp only at e1 e3 e5 e6 e7;have rg:=rGe (h':=h5) (by rw[ix.gt _ om]; exact hG3);have X5:Ext h.next h h5:=x0.trans ((jx.mono om).trans (ix.mono om));obtain⟨b1,p1,a1,r4,_⟩:=(he.ext X5 (ab _)).at (cq (f:=eE) hj);obtain⟨h6,w6,x6,g6,n6⟩:=im (h:=h5) (z:=[.int .i64 0,.int .i64 0]) (cs:=[.int .i64 es[j].1,.int .i64 es[j].2]) (e:=2) rfl;refine ae (aj (by simp only[am,aK,simprocAttr,e1,e7,rg,a1,r4,eE,w6]<;>rfl) ?_);obtain⟨ea,eb,hab,ha,hb⟩:=mw (bD.1 m4 _ (aP hj));have ra:ak h6 h5.next 0 1=some [.int .i64 (ea:Nat)]:=bm g6 (by rw[hab]; rfl);have rb:ak h6 h5.next 1 1=some [.int .i64 (eb:Nat)]:=bm g6 (by rw[hab]; rfl);have ia:eR ((ea:Nat):Int) n=some ea:=cJ ha;have ib:eR ((eb:Nat):Int) n=some eb:=cJ hb;have hL6:h6.get a=some (.cells (bls (dQ n es k)) 1 false):=by rw[x6.gt _ om,ix.gt _ al]; exact j1
    have la:ak h6 a ea 1=some [.bool ((dQ n es k).getD ea false)]:=bm hL6 (BM (by rw[ji]; exact ha));have lb:ak h6 a eb 1=some [.bool ((dQ n es k).getD eb false)]:=bm hL6 (BM (by rw[ji]; exact hb));have w1:=dT (k:=j) om;have hstep:(es.take (j+1)).foldl (nf (dQ n es k)) (List.replicate n false)=nf (dQ n es k) ((es.take j).foldl (nf (dQ n es k)) (List.replicate n false)) es[j]:=by
     rw[aG hj,fK];rfl
    have hsv:nf (dQ n es k) ((es.take j).foldl (nf (dQ n es k)) (List.replicate n false)) es[j]=if (dQ n es k).getD ea false&&(dQ n es k).getD eb false then ((es.take j).foldl (nf (dQ n es k)) (List.replicate n false)).set eb true else (es.take j).foldl (nf (dQ n es k)) (List.replicate n false):=by
     unfold nf;rw[hab];simp only[aY]
    rw[hsv] at hstep;have hN6:h6.get h3.next=some (.cells (bls ((es.take j).foldl (nf (dQ n es k)) (List.replicate n false))) 1 false):=by rw[x6.gt _ om]; exact i1
    have ix6:Ext h3.next h3 h6:=ix.trans (x6.mono ix.nx);cases q1:(dQ n es k).getD ea false with
    | false =>
      rw[q1] at la hstep;refine ae (aj (by simp only[am,aK,simprocAttr,e3,ra,ia,la,aO]<;>rfl) ?_);refine dL (Z0) (bu ⟨(),⟨?_,ix6,om⟩,_,(M2 e7 w1),H4 e1 e3 e5 e6⟩);rw[hstep];exact hN6
    | true =>
      rw[q1] at la hstep;refine ae (aj (by simp only[am,aK,simprocAttr,e3,ra,ia,la,rb,ib,lb,aO]<;>rfl) ?_);cases q2:(dQ n es k).getD eb false with
      | false =>
        rw[q2] at hstep;refine dL (Z0) (bu ⟨(),⟨?_,ix6,om⟩,_,(M2 e7 w1),H4 e1 e3 e5 e6⟩);rw[hstep];exact hN6
      | true =>
        rw[q2] at hstep;have w7:bQ h6 h3.next eb [.bool true]=some (h6.put h3.next (.cells (bls (((es.take j).foldl (nf (dQ n es k)) (List.replicate n false)).set eb true)) 1 false)):=by
         rw[eA hN6 (by rw[CO,tR,cF]; exact hb),CN]
        have u:=Mv (o:=.cells (bls (((es.take j).foldl (nf (dQ n es k)) (List.replicate n false)).set eb true)) 1 false) hN6;refine db (Z0) (aj (M5 e6 rb ib @aO w7) ?_);refine⟨(),⟨?_,ix6.trans (u.ext (ab _)),by rw[AH.next_put]; omega⟩,_,(M2 e7 w1),H4 e1 e3 e5 e6⟩;rw[hstep];exact u.get
   ·rintro _ ts h5 ⟨i1,ix,inx⟩ ⟨e1,e3,e5,e6,e7,-⟩;simp only at e1 e3 e5 e6;rw[bp] at i1;have w1:=dT (k:=k) om;refine aj (M1 e6) ?_;exact⟨h3.next,⟨i1,om,jx.trans (ix.mono om)⟩,_,(M2 e5 w1),H1 e1⟩
  ·rintro a ts h3 ⟨j1,j2,jx⟩ ⟨e1,e3,e5,-⟩;simp only at e1 e3;refine ae (aj (M1 e3) ?_);exact br ⟨.sl a 0 n n,(by simp only[rs,rf147,am,aK,simprocAttr]<;>rfl),a,om,rfl,j1,x0.trans (jx.mono om)⟩
open Go.Am
theorem yP {h:AH}{n:Int}{ev:AV}{es:List (Int×Int)} (he:SlE h ev es):C prg 50 [.agg [.int .i64 n,ev]] h λr h'=>r=.bool (fy n es)∧Ext h.next h h':=by
 have el:=he.len;rw[ai] at el;obtain⟨ec,eo⟩:=he.cells;refine Mw pf50 ?_;have x0:Ext h.next h (h.new (.cells [.int .i64 n,ev] 2 false)):=Mt (ab _);have g0:(h.new (.cells [.int .i64 n,ev] 2 false)).get h.next=some (.cells [.int .i64 n,ev] 2 false):=by rw[AH.get_new,if_pos rfl]
 have n0:(h.new (.cells [.int .i64 n,ev] 2 false)).next=h.next+1:=rfl;refine ae (aj (Mi0) ?_);generalize h.new (.cells [.int .i64 n,ev] 2 false)=h0 at *
 have rn:ak h0 h.next 0 1=some [.int .i64 n]:=bm g0 rfl;have re:ak h0 h.next 1 1=some [ev]:=bm g0 rfl;by_cases q1:n<1
 ·have c1:decide (n<1)=true:=aH q1;have hB:fy n es=false:=by
   have:decide (1≤n)=false:=aw om;simp only[fy,this,ee]
  refine ae (ae (aj (Mi2 rn c1) ?_));refine db (Z0) (ae (aj (M0) ?_));exact br ⟨.bool false,(by simp only[rs,rf50,am,aK,simprocAttr]<;>rfl),by rw[hB],x0⟩
 have c1:decide (n<1)=false:=aw q1;by_cases q2:64<n
 ·have c2:decide (64<n)=true:=aH q2;have hB:fy n es=false:=by
   have:decide (n≤64)=false:=aw om;simp only[fy,this,js,ee]
  refine ae (ae (aj (Mi3 rn c1 c2) ?_));refine db (Z0) (ae (aj (M0) ?_));exact br ⟨.bool false,(by simp only[rs,rf50,am,aK,simprocAttr]<;>rfl),by rw[hB],x0⟩
 have c2:decide (64<n)=false:=aw q2;by_cases q3:128<es.length
 ·have c3:decide ((128:Int)<((es.length:Nat):Int))=true:=aH om;have hB:fy n es=false:=by
   have:decide (es.length≤128)=false:=aw om;simp only[fy,this,js,ee]
  refine ae (ae (aj (Mi6 rn re el c1 c2 c3) ?_));refine db (Z0) (ae (aj (M0) ?_));exact br ⟨.bool false,(by simp only[rs,rf50,am,aK,simprocAttr]<;>rfl),by rw[hB],x0⟩
 have c3:decide ((128:Int)<((es.length:Nat):Int))=false:=aw om;have hB:fy n es=es.all (okE n):=by
  have d1:decide (1≤n)=true:=aH om;have d2:decide (n≤64)=true:=aH om;have d3:decide (es.length≤128)=true:=aH om;simp only[fy,d1,d2,d3,mX]
 refine ae (ae (aj (Mi6 rn re el c1 c2 c3) ?_));refine dL (Z0) (bu ?_);refine ae (ae (aj (M0) ?_));refine dV (α:=Unit) (N:=es.length) (λk _=>[(1,.ptr h.next 0),(3,.int .i64 (k:Nat))]) (λk _ h'=>Ext (h.next+1) h0 h'∧(es.take k).all (okE n)=true) () (Oi1 @bh) ⟨Mu,rfl⟩ ?_ ?_ ?_
 ·rintro k _ ts h1 hk ⟨jx,j1⟩ ⟨e1,e3,-⟩;simp only at e1 e3;have re1:ak h1 h.next 1 1=some [ev]:=by rw[bK (jx.gt _ om)]; exact re
  exact⟨_,(J5 e1 e3 re1 el @bz),I0,O2 e1 e3⟩
 ·rintro k _ ts h1 hk ⟨jx,j1⟩ ⟨e1,e3,-⟩;simp only at e1 e3;have re1:ak h1 h.next 1 1=some [ev]:=by rw[bK (jx.gt _ om)]; exact re
  have jn:=jx.nx;have X1:Ext h.next h h1:=x0.trans (jx.mono om);obtain⟨b1,p1,a1,r4,_⟩:=(he.ext X1 (ab _)).at (cq (f:=eE) hk);obtain⟨h2,w2,x2,g2,n2⟩:=im (h:=h1) (z:=[.int .i64 0,.int .i64 0]) (cs:=[.int .i64 es[k].1,.int .i64 es[k].2]) (e:=2) rfl;refine ae (aj (by simp only[am,aK,simprocAttr,e1,e3,re1,a1,r4,eE,w2]<;>rfl) ?_);have ra:ak h2 h1.next 0 1=some [.int .i64 es[k].1]:=bm g2 rfl;have rb:ak h2 h1.next 1 1=some [.int .i64 es[k].2]:=bm g2 rfl;have rn2:ak h2 h.next 0 1=some [.int .i64 n]:=by rw[bK (x2.gt _ om),bK (jx.gt _ om)]; exact rn
  have w1:=dT (k:=k) om;have Y2:Ext (h.next+1) h0 h2:=jx.trans (x2.mono om);have X2:Ext h.next h h2:=X1.trans (x2.mono X1.nx);have bad:okE n es[k]=false→fy n es=false:=λhb=>by
   rw[hB];cases hh:es.all (okE n) with
   | false=>rfl
   | true=>rw[bD.1 hh _ (aP hk)] at hb; cases hb
  by_cases p1:es[k].1<0
  ·have d1:decide (es[k].1<0)=true:=aH p1
   have hb:=bad (by have:decide (0≤es[k].1)=false:=aw om
                    simp only[okE,this,ee])
   refine ae (aj (M2 ra d1) ?_);refine db (Z0) (ae (aj (M0) ?_));exact br ⟨.bool false,(by simp only[rs,rf50,am,aK,simprocAttr]<;>rfl),by rw[hb],X2⟩
  have d1:decide (es[k].1<0)=false:=aw p1;by_cases p2:es[k].2<0
  ·have d2:decide (es[k].2<0)=true:=aH p2
   have hb:=bad (by have:decide (0≤es[k].2)=false:=aw om
                    simp only[okE,this,ee,js])
   refine ae (aj (M4 ra rb d1 d2) ?_);refine db (Z0) (ae (aj (M0) ?_));exact br ⟨.bool false,(by simp only[rs,rf50,am,aK,simprocAttr]<;>rfl),by rw[hb],X2⟩
  have d2:decide (es[k].2<0)=false:=aw p2;by_cases p3:n≤es[k].1
  ·have d3:decide (n≤es[k].1)=true:=aH p3
   have hb:=bad (by have:decide (es[k].1<n)=false:=aw om
                    simp only[okE,this,ee,js])
   refine ae (aj (M7 ra rb rn2 e1 d1 d2 d3) ?_);refine db (Z0) (ae (aj (M0) ?_));exact br ⟨.bool false,(by simp only[rs,rf50,am,aK,simprocAttr]<;>rfl),by rw[hb],X2⟩
  have d3:decide (n≤es[k].1)=false:=aw p3;by_cases p4:n≤es[k].2
  ·have d4:decide (n≤es[k].2)=true:=aH p4
   have hb:=bad (by have:decide (es[k].2<n)=false:=aw om
                    simp only[okE,this,js])
   refine ae (aj (M8 ra rb rn2 e1 d1 d2 d3 d4) ?_);refine db (Z0) (ae (aj (M0) ?_));exact br ⟨.bool false,(by simp only[rs,rf50,am,aK,simprocAttr]<;>rfl),by rw[hb],X2⟩
  have d4:decide (n≤es[k].2)=false:=aw p4;refine ae (aj (M8 ra rb rn2 e1 d1 d2 d3 d4) ?_);refine dL (I0) (bu ⟨(),⟨Y2,?_⟩,_,(J2 e3 w1),O1 e1⟩);rw[aG hk,List.all_append,j1];have f1:decide (0≤es[k].1)=true:=aH om;have f2:decide (0≤es[k].2)=true:=aH om;have f3:decide (es[k].1<n)=true:=aH om;have f4:decide (es[k].2<n)=true:=aH om;simp only[fU,uI,okE,f1,f2,f3,f4,mY]
 ·rintro _ ts h1 ⟨jx,j1⟩ ⟨e1,e3,-⟩;rw[bp] at j1;refine ae (aj (M0) ?_);exact br ⟨.bool true,(by simp only[rs,rf50,am,aK,simprocAttr]<;>rfl),by rw[hB,j1],x0.trans (jx.mono (by have:=x0.nx; omega))⟩
theorem JI {h:AH}{n:Int}{ev:AV}{es:List (Int×Int)} (he:SlE h ev es) (_:es.length<2 ^ 40):C prg 50 [.agg [.int .i64 n,ev]] h λr h'=>r=.bool (fy n es)∧Ext h.next h h':=yP he
theorem Gf {h:AH}{n:Nat}{ev:AV}{es:List (Int×Int)} (he:SlE h ev es) (hl:es.length<2 ^ 30) (hn:n≤64):C prg 71 [.agg [.int .i64 (n:Nat),ev],.bool true] h λr h'=>IsSl h' 1 h.next r ((je n es).flatMap eI)∧Ext h.next h h':=by
 obtain⟨ec,eo⟩:=he.cells;refine Mw pf71 ?_;have x0:Ext h.next h (h.new (.cells [.int .i64 (n:Nat),ev] 2 false)):=Mt (ab _);have g0:(h.new (.cells [.int .i64 (n:Nat),ev] 2 false)).get h.next=some (.cells [.int .i64 (n:Nat),ev] 2 false):=by rw[AH.get_new,if_pos rfl]
 have n0:(h.new (.cells [.int .i64 (n:Nat),ev] 2 false)).next=h.next+1:=rfl;refine ae (aj (Mi0) ?_);generalize h.new (.cells [.int .i64 (n:Nat),ev] 2 false)=h0 at *
 refine ae (aj (Mi0) ?_);have x1:Ext h0.next h0 (h0.new (.cells [] 1 false)):=Mt (ab _);have g1:(h0.new (.cells [] 1 false)).get h0.next=some (.cells [] 1 false):=by rw[AH.get_new,if_pos rfl]
 have n1:(h0.new (.cells [] 1 false)).next=h0.next+1:=rfl;generalize h0.new (.cells [] 1 false)=h1 at *
 have X1:=x0.trans (x1.mono om);refine ae (ae (aj (Mi0) ?_));have hsucc:∀ k,je (k+1) es=if (dg es ((k:Nat):Int)).length=0 then je k es++[((k:Nat):Int)] else je k es:=λk=>by
  unfold je;rw[du,bI,sE];by_cases q:(dg es ((k:Nat):Int)).length=0
  ·rw[if_pos (by simpa using q),if_pos q]; simp
  ·rw[if_neg (by simpa using q),if_neg q]; simp
 have hle:∀ k,(je k es).length≤k:=λk=>by
  unfold je;rw[ai];exact cn (dj _ _) (by simp)
 refine dV (α:=AV) (N:=n) (λk a=>[(2,.ptr h.next 0),(1,.bool true),(5,a),(6,.int .i64 (k:Nat))]) (λk a h'=>IsSl h' 1 (h.next+1) a ((je k es).flatMap eI)∧Ext (h.next+1) h1 h') (.sl h0.next 0 0 0) (Oi1 @bh)
  ⟨.inr ⟨h0.next,0,om,rfl,g1,rfl⟩,Mu⟩ ?_ ?_ ?_
 ·rintro k a ts h2 hk ⟨j1,jx⟩ ⟨e2,e1,e5,e6,-⟩;simp only at e2 e1 e5 e6;have rn:ak h2 h.next 0 1=some [.int .i64 (n:Nat)]:=bm (by rw[jx.gt _ om,x1.gt _ om]; exact g0) rfl;exact⟨_,(J4 e2 e6 rn @bz),I0,O4 e2 e1 e5 e6⟩
 ·rintro k a ts h2 hk ⟨j1,jx⟩ ⟨e2,e1,e5,e6,-⟩;simp only at e2 e1 e5 e6;have jn:=jx.nx;have X2:Ext h.next h h2:=X1.trans (jx.mono om);have rg:ak h2 h.next 0 2=some [.int .i64 (n:Nat),ev]:=by rw[aU (by rw[jx.gt _ om,x1.gt _ om]; exact g0)]; rfl
  have w1:=dT (k:=k) om;refine ae (bN (bo 4 (M4 e2 e1 e6 rg) rfl (Z4 e2 e1 e6 rg) (M4 e2 e1 e6 rg) (tf (x:=((k:Nat):Int)) (fr:=false) (he.ext X2 (ab _)) hl) λr h3 hq=>?_));obtain⟨i3,x3⟩:=hq;have s3:SlI h3 r (dg es ((k:Nat):Int)):=Mq om (λ_=>rfl) i3;have l3:=s3.len;rw[ai] at l3;refine bH (M1 l3) ?_;have j3:=j1.ext x3 (ab _);have Y3:Ext (h.next+1) h1 h3:=jx.trans (x3.mono om);refine cr (t:=decide ((dg es ((k:Nat):Int)).length=0)) (by simp only[am,aK,simprocAttr]; exact congrArg AV.bool (by simp only[decide_eq_decide]; omega)) (λq=>?_) λq=>?_
  ·have q:(dg es ((k:Nat):Int)).length=0:=aR q;have hk2:=hle k;have n3:=x3.nx;obtain⟨s',h4,a4,i4,x4,n4⟩:=j3.push (bytes:=8) [.int .i64 ((k:Nat):Int)] om om rfl rfl (by rw[dS]; unfold aW; omega) (by rw[dS]; unfold aW; omega);refine aj (M3 e5 e6 a4) ?_;refine⟨s',⟨?_,Y3.trans x4⟩,_,(J2 e6 w1),O2 e2 e1⟩;rw[hsucc,if_pos q,bC];exact i4
  ·have q:¬ (dg es ((k:Nat):Int)).length=0:=aZ q;refine bu ⟨a,⟨?_,Y3⟩,_,(J2 e6 w1),O3 e2 e1 e5⟩;rw[hsucc,if_neg q];exact j3
 ·rintro a ts h2 ⟨j1,jx⟩ ⟨e2,e1,e5,e6,-⟩;simp only at e5;refine ae (aj (M1 e5) ?_);exact br ⟨a,(by simp only[rs,rf71,am,aK,simprocAttr]<;>rfl),j1.mono om,X1.trans (jx.mono om)⟩
end Go.Proofs.YtahepnbflofndaaGreatDoor
