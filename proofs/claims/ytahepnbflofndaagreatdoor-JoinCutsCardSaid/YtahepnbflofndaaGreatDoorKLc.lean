/- slices.Min, Reverse of numbers. -/
import Derived.Test.YtahepnbflofndaaGreatDoorKLa
import Derived.Test.YtahepnbflofndaaGreatDoorKLb
import Derived.Test.YtahepnbflofndaaGreatDoorKRf
import Derived.Test.YtahepnbflofndaaGreatDoorKAmA
set_option linter.all false
namespace Go.Proofs.YtahepnbflofndaaGreatDoor
open Go.Am Go.Sort
theorem mn2 {k:IntKind}{x y:Int}:kQ mnA [.int k x,.int k y]=some (.int k (if y<x then y else x)):=by simp [kQ,mnA]
theorem JV {h:AH}{v:AV}{xs:List Int} (hv:SlI h v xs) (hl:xs.length<2 ^ 40) (hne:0<xs.length):C prg 114 [v] h λr h'=>∃ m,r=.int .i64 m∧m∈xs∧(∀ y∈xs,m≤y)∧h'=h:=by
 have el:=hv.len;rw[ai] at el;refine Mw pf114 ?_;have c1:decide (((xs.length:Nat):Int)<1)=false:=aw om;refine ae (aj (Mi0) ?_);refine ae (ae (aj (Mi1 el) ?_));refine dL (Z1 c1) (bu ?_);obtain⟨b0,p0,a0,r0,_⟩:=hv.at1 (cq (f:=eI) hne);have a0:jO 1 v (.int .i64 0)=some (.ptr b0 p0):=a0;refine ae (aj (Mi2 a0 r0) ?_);refine ae (ae (aj (M0) ?_));refine dV (α:=Int) (N:=xs.length-1) (λk a=>[(0,v),(4,.int .i64 ((k+1:Nat):Int)),(3,.int .i64 a)]) (λk a h'=>h'=h∧a∈xs.take (k+1)∧∀ y∈xs.take (k+1),a≤y) xs[0] (by simp only[dU,eH,am,aK,↓reduceIte,Nat.reduceEqDiff,Int.reduceEq,Nat.reduceAdd,Nat.reduceLeDiff,reduceCtorEq,bS,bM,Lg]) ⟨rfl,by rw[aG hne]; simp,by rw[aG hne]; simp⟩ ?_ ?_ ?_
 ·rintro k a ts h1 hk ⟨rfl,j1,j2⟩ ⟨e0,e4,e3,-⟩;simp only at e0 e4 e3;have c2:decide (((k+1:Nat):Int)<((xs.length:Nat):Int))=decide (k<xs.length-1):=by simp only[decide_eq_decide]; omega
  exact⟨_,(J4 e0 e4 el c2),I0,O3 e0 e4 e3⟩
 ·rintro k a ts h1 hk ⟨rfl,j1,j2⟩ ⟨e0,e4,e3,-⟩;simp only at e0 e4 e3;obtain⟨b1,p1,a1,r1,_⟩:=hv.at1 (cq (f:=eI) (show k+1<xs.length by omega));have w1:IntKind.i64.wrap (((k+1:Nat):Int)+1)=((k+1+1:Nat):Int):=fD om om;refine aj (M6 e0 e4 e3 a1 r1 @mn2) ?_;refine⟨if xs[k+1]<a then xs[k+1] else a,⟨rfl,?_,?_⟩,_,(J2 e4 w1),O2 e0 e4⟩
  ·rw[aG (show k+1<xs.length by omega)];split
   ·exact aV.2 (.inr (bd ..))
   ·exact aV.2 (.inl j1)
  ·intro y hy;rw[aG (show k+1<xs.length by omega),aV] at hy;rcases hy with hy|hy
   ·have:=j2 y hy;split<;>omega
   ·simp only[aA,bq,or_false] at hy;subst hy;split<;>omega
 ·rintro a ts h1 ⟨rfl,j1,j2⟩ ⟨e0,e4,e3,-⟩;simp only at e0 e4 e3;rw[show xs.length-1+1=xs.length by omega,bp] at j1 j2;refine ae (aj (M1 e3) ?_);exact br ⟨_,(by simp only[rs,rf114,am,aK,simprocAttr]<;>rfl),a,rfl,j1,j2,rfl⟩
theorem AI {h:AH}{b o c:Nat}{cs:List AV}{d:Array Int} (hg:h.get b=some (iX cs o d)) (hr:o+d.size≤cs.length) (hs:d.size<2 ^ 40) :
 C prg 113 [.sl b o d.size c] h λ_ h'=>Upd h h' b (iX cs o d.reverse):=by
 refine Mw pf113 ?_;have w0:IntKind.i64.wrap (((d.size:Nat):Int)-1)=((d.size:Nat):Int)-1-((0:Nat):Int):=by rw[fD om om]; omega
 refine ae (aj (Mi1 w0) ?_)
 refine dV (α:=Array Int) (N:=d.size / 2) (λk a=>[(0,.sl b o d.size c),(2,.int .i64 (k:Nat)),(3,.int .i64 (((d.size:Nat):Int)-1-((k:Nat):Int)))])
  (λk a h'=>Upd h h' b (iX cs o a)∧a.size=d.size∧∀ x,x<d.size→a[x]! = if x<k∨d.size-1-x<k then d[d.size-1-x]! else d[x]!) d (Hi1 @bh) ⟨Upd.refl hg,rfl,λx _=>by rw[if_neg om]⟩ ?_ ?_ ?_
 ·rintro k a ts h1 hk ⟨j1,j2,j3⟩ ⟨e0,e2,e3,-⟩;simp only at e0 e2 e3;have c2:decide (((k:Nat):Int)<((d.size:Nat):Int)-1-((k:Nat):Int))=decide (k<d.size / 2):=by simp only[decide_eq_decide]; omega
  exact⟨_,(M3 e2 e3 c2),Z0,H3 e0 e2 e3⟩
 ·rintro k a ts h1 hk ⟨j1,j2,j3⟩ ⟨e0,e2,e3,-⟩;simp only at e0 e2 e3;have hm:((d.size:Nat):Int)-1-((k:Nat):Int)=((d.size-1-k:Nat):Int):=om;have i1:eR ((k:Nat):Int) d.size=some k:=cJ om;have i2:eR ((d.size-1-k:Nat):Int) d.size=some (d.size-1-k):=cJ om;have r1:=qD (i:=k) j1.get om om;have r2:=qD (i:=d.size-1-k) j1.get om om;obtain⟨m1,m2,s1,s2,u2⟩:=IQ (i:=k) (j:=d.size-1-k) j1.get om om om;have w1:IntKind.i64.wrap (((k:Nat):Int)+1)=((k+1:Nat):Int):=fD om om;have w2:IntKind.i64.wrap (((d.size-1-k:Nat):Int)-1)=((d.size:Nat):Int)-1-((k+1:Nat):Int):=by rw[fD om om]; omega
  refine aj (M12 e0 e2 e3 hm i1 i2 r1 r2 s1 s2 @aO @aO) ?_;refine⟨_,⟨j1.trans u2,by rw[Da,j2],?_⟩,_,(M5 e2 e3 hm w1 w2),H1 e0⟩;intro x hx;by_cases x1:x=k
  ·subst x1;rw[swp_left _ _ _ om om,j3 _ om,if_neg om,if_pos om]
  ·by_cases x2:x=d.size-1-k
   ·rw[x2,swp_right _ _ _ om,j3 _ om,if_neg om,if_pos om];congr 1;omega
   ·rw[swp_other _ _ _ _ x1 x2,j3 _ hx];by_cases q:x<k∨d.size-1-x<k
    ·rw[if_pos q,if_pos om]
    ·rw[if_neg q,if_neg om]
 ·rintro a ts h1 ⟨j1,j2,j3⟩ _;refine⟨.tup [],rfl,?_⟩;have:a=d.reverse:=by
   refine Array.ext (by simpa using j2) λi h1 h2=>?_;have:=j3 i om;rw[getElem!_pos a i h1] at this;rw[this,Array.getElem_reverse];rw[getElem!_pos d _ om];split
   ·rfl
   ·rw[getElem!_pos d _ om];congr 1;omega
  rw[← this];exact j1
open Go.Am
open Go.Sort (swp ltInt)
theorem cnan_ok {h:AH}{x:Int}:C prg 200 [.int .i64 x] h λv h'=>v=.bool false∧h'=h:=by
 refine Mw pf200 ?_;refine ae (aj (Mi0) ?_);have e:(!decide (x=x))=false:=by simp
 refine ae (aj (Mi1 e) ?_);exact br ⟨.bool false,(by simp only[rs,rf200,am,aK,simprocAttr,bS,decide_true]<;>rfl),rfl,rfl⟩
theorem JX {h:AH}{x y:Int}:C prg 158 [.int .i64 x,.int .i64 y] h λv h'=>v=.bool (ltInt x y)∧h'=h:=by
 refine Mw pf158 ?_;refine ae (aj (Mi0) ?_);refine ae (bN (Lh ?_));simp only[am,aK,simprocAttr,bS];refine G.call ?_;simp only[am,aK,simprocAttr,bS];refine cnan_ok.mono λv h' ⟨ev,eh⟩=>?_;subst ev eh;refine bH (by simp only[am,aK,simprocAttr,bS]; rfl) ?_;exact br ⟨.bool (ltInt x y),(by simp only[rs,rf158,am,aK,simprocAttr,bS,ltInt]<;>rfl),rfl,rfl⟩
open Go.Sort (insInner insOuter insertionSort)
open Go.Am
open Go.Sort (swp ltInt siftDown heapBuild heapPop heapSort)
open Go.Am
open Go.Sort (swp ltInt reverseLoop reverseRange scanUp scanDown partLoop partition partEqLoop partitionEqual scanUp_spec scanDown_spec scanUp_ge scanDown_le partLoop_eq partEqLoop_eq)
end Go.Proofs.YtahepnbflofndaaGreatDoor
