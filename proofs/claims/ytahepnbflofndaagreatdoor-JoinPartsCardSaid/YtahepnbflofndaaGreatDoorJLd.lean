/- slices.Sort of ints -/
import Derived.Test.YtahepnbflofndaaGreatDoorJLc
import Derived.Test.YtahepnbflofndaaGreatDoorJRf
import Derived.Test.YtahepnbflofndaaGreatDoorJAmA
import Derived.Test.YtahepnbflofndaaGreatDoorJLa
set_option linter.all false
namespace Go.Proofs.YtahepnbflofndaaGreatDoor
open Go.Am
open Go.Sort (swp ltInt scanSorted shiftDown shiftUp partialIns partialInsertionSort fixDown fixUp partialIns_succ)
theorem ol (d:Array Int) (m:Nat):∀ (n i:Nat),m-i=n→i≤m→i≤scanSorted ltInt d m i∧scanSorted ltInt d m i≤m
 | n,i,hn,hi=>by
   unfold scanSorted
   split
   ·rename_i q
    simp only[aq,aj] at q
    cases n with
    | zero=>omega
    | succ n =>
      have:=ol d m n (i+1) om om
      exact⟨om,this.2⟩
   ·exact⟨ae _,hi⟩
theorem Ff {h:AH}{b o c a m:Nat}{cs:List AV}{d:Array Int} (hg:h.get b=some (cT cs o d)) (hr:o+d.size≤cs.length) (ham:a<m) (hm:m≤d.size) (hs:d.size<2 ^ 40) :
 C prg 193 [.sl b o d.size c,.int .i64 (a:Nat),.int .i64 (m:Nat)] h λv h'=>v=.bool (partialInsertionSort ltInt d a m).2∧Upd h h' b (cT cs o (partialInsertionSort ltInt d a m).1):=by
 refine HH pf193 ?_
 refine ab (ah (Mi0) ?_)
 have w0:IntKind.i64.wrap (((a:Nat):Int)+1)=((a+1:Nat):Int):=bE om om
 refine ab (ah (Mi1 w0) ?_)
 refine ab (ab (ah (Mi0) ?_))
 refine aU (cf (λn ts h1=>∃ s i d1,s=n∧s≤5∧a+1≤i∧i≤m∧Upd h h1 b (cT cs o d1)∧d1.size=d.size∧partialIns ltInt a m s i d1=partialInsertionSort ltInt d a m∧aB ts 0=.sl b o d.size c∧aB ts 1=.int .i64 (a:Nat)∧aB ts 2=.int .i64 (m:Nat)∧aB ts 8=.int .i64 ((5-s:Nat):Int)∧aB ts 7=.int .i64 (i:Nat)) ?_ (n:=5) ⟨5,a+1,d,rfl,om,om,om,HG hg,rfl,rfl,Ii0,Ii0,Ii0,by simp only[am,aD,↓reduceIte,Nat.reduceEqDiff,Int.reduceEq,Nat.reduceAdd,Nat.reduceLeDiff,reduceCtorEq,bL]; rfl,Ii1 w0⟩)
 rintro n ts h1 ⟨s,i,d1,rfl,hs5,hai,him,hu,hz,hD,e0,e1,e2,e8,e7⟩
 refine ab (ab (ah (M1 e8) ?_))
 refine bg (t:=decide (0<s)) (by simp only[am,aD,simprocAttr]; exact congrArg AV.bool (by simp only[decide_eq_decide]; omega)) (λq=>?_) λq=>?_
 ·have q:0<s:=aF q
  obtain⟨s,rfl⟩:∃ k,s=k+1:=⟨s-1,om⟩
  refine aN (ab (aU (ab (cZ (λts h2=>h1=h2∧aB ts 0=.sl b o d.size c∧aB ts 1=.int .i64 (a:Nat)∧aB ts 2=.int .i64 (m:Nat)∧aB ts 8=.int .i64 ((5-(s+1):Nat):Int)∧aB ts 7=.int .i64 ((scanSorted ltInt d1 m i:Nat):Int))
   (aU (cf (λn ts h2=>h2=h1∧∃ k,n=m-k∧i≤k∧k≤m∧scanSorted ltInt d1 m k=scanSorted ltInt d1 m i∧aB ts 0=.sl b o d.size c∧aB ts 1=.int .i64 (a:Nat)∧aB ts 2=.int .i64 (m:Nat)∧aB ts 8=.int .i64 ((5-(s+1):Nat):Int)∧aB ts 7=.int .i64 (k:Nat)) ?_ (n:=m-i) ⟨rfl,i,rfl,om,om,rfl,Z1 e0,Z1 e1,Z1 e2,Z1 e8,Z1 e7⟩)) ?_))))
  ·clear e0 e1 e2 e7 e8
   rintro n ts h2 ⟨rfl,k,rfl,hk,hk2,hS,e0,e1,e2,e8,e7⟩
   have w4:IntKind.i64.wrap (((k:Nat):Int)-1)=((k-1:Nat):Int):=by rw[bE om om]; omega
   by_cases q:k<m
   ·have c1:decide (((k:Nat):Int)<((m:Nat):Int))=true:=by simp only[aj]; omega
    have x1:bN ((k:Nat):Int) d.size=some (k):=aO om
    have x2:bN ((k-1:Nat):Int) d.size=some (k-1):=aO om
    have r1:=cq (i:=k) hu.get om om
    have r2:=cq (i:=k-1) hu.get om om
    refine ab (ab (aX (aP 13 (M10 e0 e2 e7 c1 w4 x1 x2 r1 r2 @ai) rfl (Z10 e0 e2 e7 c1 w4 x1 x2 r1 r2 @ai) (M10 e0 e2 e7 c1 w4 x1 x2 r1 r2 @ai) (fk) λv h3 hq=>?_)))
    obtain⟨rfl,rfl⟩:=hq
    refine aW (M1 c1) ?_
    refine bg (t:=!ltInt d1[k]! d1[k-1]!) (Z0) (λq2=>?_) λq2=>?_
    ·have w1:IntKind.i64.wrap (((k:Nat):Int)+1)=((k+1:Nat):Int):=bE om om
     refine aN (aU (ah (M2 e7 w1) ?_))
     refine⟨m-(k+1),om,rfl,k+1,rfl,om,om,?_,Z1 e0,Z1 e1,Z1 e2,Z1 e8,Z2 e7 w1⟩
     rw[← hS]
     conv=>rhs; rw[scanSorted,if_pos (by simp only[aq,aj]; exact⟨q,q2⟩)]
    ·refine bM ⟨λ_=>⟨rfl,Z1 e0,Z1 e1,Z1 e2,Z1 e8,?_⟩,λe=>absurd rfl e⟩
     rw[← hS,scanSorted,if_neg (by simp only[aq,aj]; rintro⟨_,x⟩; exact absurd (q2.symm.trans x) (by decide))]
     simp only[am,aD,simprocAttr,e7]
   ·have c1:decide (((k:Nat):Int)<((m:Nat):Int))=false:=by simp only[aR]; omega
    refine ab (ab (aX (dF 13 (M3 e2 e7 c1) rfl (Z1 c1) ?_)))
    refine aW (M1 c1) ?_
    refine cU (Z0) (bM ⟨λ_=>⟨rfl,Z1 e0,Z1 e1,Z1 e2,Z1 e8,?_⟩,λe=>absurd rfl e⟩)
    rw[← hS,scanSorted,if_neg (by simp only[aq,aj]; rintro⟨x,_⟩; exact q x)]
    simp only[am,aD,simprocAttr,e7]
  clear e0 e1 e2 e7 e8
  rintro ts h2 ⟨rfl,e0,e1,e2,e8,e7⟩
  rw[partialIns_succ] at hD
  have hsc:=ol d1 m _ i rfl him
  generalize hi2:scanSorted ltInt d1 m i=i2 at *
  have hai2:a+1≤i2:=om
  have him2:=hsc.2
  clear hsc hi2 hai him
  rename_i i0
  clear i0
  obtain⟨i,rfl⟩:∃ i,i=i2:=⟨i2,rfl⟩
  have hai:=hai2
  have him:=him2
  clear hai2 him2
  refine ab (ab (ah (M2 e7 e2) ?_))
  refine bg (t:=decide (i=m)) (by simp only[am,aD,simprocAttr]; exact congrArg AV.bool (by simp only[decide_eq_decide]; omega)) (λq=>?_) λq=>?_
  ·have q:i=m:=aF q
   rw[if_pos q] at hD
   refine ab (ah (M0) ?_)
   exact bt ⟨.bool true,(by simp only[rs,rf193,am,aD,simprocAttr]<;>rfl),by rw[← hD],by rw[← hD]; exact hu⟩
  have q:¬ i=m:=aE q
  rw[if_neg q] at hD
  have w5:IntKind.i64.wrap (((m:Nat):Int)-((a:Nat):Int))=((m-a:Nat):Int):=by rw[bE om om]; omega
  refine aN (ab (ab (ah (M3 e1 e2 w5) ?_)))
  refine bg (t:=decide (m-a<50)) (by simp only[am,aD,simprocAttr]; exact congrArg AV.bool (by simp only[decide_eq_decide]; omega)) (λq2=>?_) λq2=>?_
  ·have q2:m-a<50:=aF q2
   rw[if_pos q2] at hD
   refine ab (ah (M0) ?_)
   exact bt ⟨.bool false,(by simp only[rs,rf193,am,aD,simprocAttr]<;>rfl),by rw[← hD],by rw[← hD]; exact hu⟩
  have q2:¬ m-a<50:=aE q2
  rw[if_neg q2] at hD
  have w4:IntKind.i64.wrap (((i:Nat):Int)-1)=((i-1:Nat):Int):=by rw[bE om om]; omega
  have x1:bN ((i:Nat):Int) d.size=some (i):=aO om
  have x2:bN ((i-1:Nat):Int) d.size=some (i-1):=aO om
  have r1:=cq (i:=i) hu.get om om
  have r2:=cq (i:=i-1) hu.get om om
  obtain⟨m1,m2,s1,s2,u2⟩:=eX (i:=i) (j:=i-1) hu.get om om om
  refine aN (ab (ah (M10 e0 e7 w4 x1 x2 r1 r2 s1 s2 @ai) ?_))
  have hu3:=hu.trans u2
  have hz3:(swp d1 i (i-1)).size=d.size:=by rw[cA,hz]
  clear u2 s1 s2 r1 r2 x1 x2 hu hz hg
  generalize swp d1 i (i-1)=d3 at *
  refine ab (cZ (λts h2=>∃ h3 d2,Upd h h3 b (cT cs o d2)∧d2.size=d.size∧fixDown ltInt a i d3=d2∧h2=h3∧aB ts 0=.sl b o d.size c∧aB ts 1=.int .i64 (a:Nat)∧aB ts 2=.int .i64 (m:Nat)∧aB ts 8=.int .i64 ((5-(s+1):Nat):Int)∧aB ts 7=.int .i64 (i:Nat)) ?_ ?_)
  ·have w5:IntKind.i64.wrap (((i:Nat):Int)-((a:Nat):Int))=((i-a:Nat):Int):=by rw[bE om om]; omega
   refine ab (ah (M3 e1 e7 w5) ?_)
   refine bg (t:=decide (2≤i-a)) (by simp only[am,aD,simprocAttr]; exact congrArg AV.bool (by simp only[decide_eq_decide]; omega)) (λq=>?_) λq=>?_
   ·have q:2≤i-a:=aF q
    rw[show fixDown ltInt a i d3=shiftDown ltInt (i-1) d3 from if_pos q]
    have w3:=w4
    refine ab (ah (M2 e7 w3) ?_)
    refine aU (cf (λn ts h2=>∃ j d2,j=n∧j<m∧Upd h h2 b (cT cs o d2)∧d2.size=d.size∧shiftDown ltInt j d2=shiftDown ltInt (i-1) d3∧aB ts 0=.sl b o d.size c∧aB ts 1=.int .i64 (a:Nat)∧aB ts 2=.int .i64 (m:Nat)∧aB ts 8=.int .i64 ((5-(s+1):Nat):Int)∧aB ts 7=.int .i64 (i:Nat)∧aB ts 9=.int .i64 (j:Nat)) ?_ (n:=i-1) ⟨i-1,d3,rfl,om,hu3,hz3,rfl,Z1 e0,Z1 e1,Z1 e2,Z1 e8,Z1 e7,Z2 e7 w3⟩)
    clear e0 e1 e2 e7 e8
    rintro n ts h2 ⟨j,d2,rfl,hj,hu2,hz2,hD2,e0,e1,e2,e8,e7,e9⟩
    refine ab (ab (ah (M2 e9 e2) ?_))
    refine bg (t:=decide (1≤j)) (by simp only[am,aD,simprocAttr]; exact congrArg AV.bool (by simp only[decide_eq_decide]; omega)) (λq=>?_) λq=>?_
    ·have q:1≤j:=aF q
     obtain⟨j,rfl⟩:∃ k,j=k+1:=⟨j-1,om⟩
     have w4:IntKind.i64.wrap (((j+1:Nat):Int)-1)=((j:Nat):Int):=by rw[bE om om]; omega
     have x1:bN ((j+1:Nat):Int) d.size=some (j+1):=aO om
     have x2:bN ((j:Nat):Int) d.size=some (j):=aO om
     have r1:=cq (i:=j+1) hu2.get om om
     have r2:=cq (i:=j) hu2.get om om
     refine aN (ab (aU (ab (ab (aX (aP 9 (M8 e0 e9 w4 x1 x2 r1 r2 @ai) rfl (Z8 e0 e9 w4 x1 x2 r1 r2 @ai) (M8 e0 e9 w4 x1 x2 r1 r2 @ai) (fk) λv h3 hq=>?_))))))
     obtain⟨rfl,rfl⟩:=hq
     refine aW (M0) ?_
     refine bg (t:=!ltInt d2[j+1]! d2[j]!) (Z0) (λq2=>?_) λq2=>?_
     ·have q2:ltInt d2[j+1]! d2[j]! = false:=by simpa using q2
      refine bM ⟨λe=>absurd e (by decide),λ_=>⟨λ_=>?_,λe=>absurd rfl e⟩⟩
      refine⟨h3,d2,hu2,hz2,?_,rfl,Z1 e0,Z1 e1,Z1 e2,Z1 e8,Z1 e7⟩
      rw[← hD2,shiftDown,if_pos (by rw[q2]; rfl)]
     ·have q2:ltInt d2[j+1]! d2[j]! = true:=by simpa using q2
      obtain⟨m1,m2,s1,s2,u2⟩:=eX (i:=j+1) (j:=j) hu2.get om om om
      refine aN (ah (M10 e0 e9 w4 x1 x2 r1 r2 s1 s2 @ai) ?_)
      refine ah (M2 e9 w4) ?_
      refine⟨j,om,j,swp d2 (j+1) j,rfl,om,hu2.trans u2,by rw[cA,hz2],?_,Z1 e0,Z1 e1,Z1 e2,Z1 e8,Z1 e7,Z2 e9 w4⟩
      rw[← hD2]
      conv=>rhs; rw[shiftDown,if_neg (by rw[q2]; decide)]
    ·have q:¬ 1≤j:=aE q
     refine bM ⟨λ_=>?_,λe=>absurd rfl e⟩
     refine⟨h2,d2,hu2,hz2,?_,rfl,I1 e0,I1 e1,I1 e2,I1 e8,I1 e7⟩
     obtain rfl:j=0:=om
     rw[← hD2]
     rfl
   ·have q:¬ 2≤i-a:=aE q
    exact aN ⟨m2,d3,hu3,hz3,if_neg q,rfl,Z1 e0,Z1 e1,Z1 e2,Z1 e8,Z1 e7⟩
  clear e0 e1 e2 e7 e8
  rintro ts h1 ⟨h3,d4,hu4,hz4,hF,rfl,e0,e1,e2,e8,e7⟩
  rw[hF] at hD
  clear hF hu3 hz3
  refine cZ (λts h2=>∃ h3 d2,Upd h h3 b (cT cs o d2)∧d2.size=d.size∧fixUp ltInt m i d4=d2∧h2=h3∧aB ts 0=.sl b o d.size c∧aB ts 1=.int .i64 (a:Nat)∧aB ts 2=.int .i64 (m:Nat)∧aB ts 8=.int .i64 ((5-(s+1):Nat):Int)∧aB ts 7=.int .i64 (i:Nat)) ?_ ?_
  ·have w5:IntKind.i64.wrap (((m:Nat):Int)-((i:Nat):Int))=((m-i:Nat):Int):=by rw[bE om om]; omega
   refine ab (ah (M3 e2 e7 w5) ?_)
   refine bg (t:=decide (2≤m-i)) (by simp only[am,aD,simprocAttr]; exact congrArg AV.bool (by simp only[decide_eq_decide]; omega)) (λq=>?_) λq=>?_
   ·have q:2≤m-i:=aF q
    rw[show fixUp ltInt m i d4=shiftUp ltInt m (i+1) d4 from if_pos q]
    have w3:IntKind.i64.wrap (((i:Nat):Int)+1)=((i+1:Nat):Int):=bE om om
    refine ab (ah (M2 e7 w3) ?_)
    refine aU (cf (λn ts h2=>∃ j d2,n=m-j∧i+1≤j∧Upd h h2 b (cT cs o d2)∧d2.size=d.size∧shiftUp ltInt m j d2=shiftUp ltInt m (i+1) d4∧aB ts 0=.sl b o d.size c∧aB ts 1=.int .i64 (a:Nat)∧aB ts 2=.int .i64 (m:Nat)∧aB ts 8=.int .i64 ((5-(s+1):Nat):Int)∧aB ts 7=.int .i64 (i:Nat)∧aB ts 10=.int .i64 (j:Nat)) ?_ (n:=m-(i+1)) ⟨i+1,d4,rfl,om,hu4,hz4,rfl,Z1 e0,Z1 e1,Z1 e2,Z1 e8,Z1 e7,Z2 e7 w3⟩)
    clear e0 e1 e2 e7 e8
    rintro n ts h2 ⟨j,d2,rfl,hj,hu2,hz2,hD2,e0,e1,e2,e8,e7,e9⟩
    refine ab (ab (ah (M2 e9 e2) ?_))
    refine bg (t:=decide (j<m)) (by simp only[am,aD,simprocAttr]; exact congrArg AV.bool (by simp only[decide_eq_decide]; omega)) (λq=>?_) λq=>?_
    ·have q:j<m:=aF q
     have w4:IntKind.i64.wrap (((j:Nat):Int)-1)=((j-1:Nat):Int):=by rw[bE om om]; omega
     have x1:bN ((j:Nat):Int) d.size=some (j):=aO om
     have x2:bN ((j-1:Nat):Int) d.size=some (j-1):=aO om
     have r1:=cq (i:=j) hu2.get om om
     have r2:=cq (i:=j-1) hu2.get om om
     refine aN (ab (aU (ab (ab (aX (aP 9 (M8 e0 e9 w4 x1 x2 r1 r2 @ai) rfl (Z8 e0 e9 w4 x1 x2 r1 r2 @ai) (M8 e0 e9 w4 x1 x2 r1 r2 @ai) (fk) λv h3 hq=>?_))))))
     obtain⟨rfl,rfl⟩:=hq
     refine aW (M0) ?_
     refine bg (t:=!ltInt d2[j]! d2[j-1]!) (Z0) (λq2=>?_) λq2=>?_
     ·have q2:ltInt d2[j]! d2[j-1]! = false:=by simpa using q2
      refine bM ⟨λe=>absurd e (by decide),λ_=>⟨λ_=>?_,λe=>absurd rfl e⟩⟩
      refine⟨h3,d2,hu2,hz2,?_,rfl,Z1 e0,Z1 e1,Z1 e2,Z1 e8,Z1 e7⟩
      rw[← hD2,shiftUp,if_pos q,if_pos (by rw[q2]; rfl)]
     ·have q2:ltInt d2[j]! d2[j-1]! = true:=by simpa using q2
      obtain⟨m1,m2,s1,s2,u2⟩:=eX (i:=j) (j:=j-1) hu2.get om om om
      refine aN (ah (M10 e0 e9 w4 x1 x2 r1 r2 s1 s2 @ai) ?_)
      have w5:IntKind.i64.wrap (((j:Nat):Int)+1)=((j+1:Nat):Int):=bE om om
      refine ah (M2 e9 w5) ?_
      refine⟨m-(j+1),om,j+1,swp d2 j (j-1),rfl,om,hu2.trans u2,by rw[cA,hz2],?_,Z1 e0,Z1 e1,Z1 e2,Z1 e8,Z1 e7,Z2 e9 w5⟩
      rw[← hD2]
      conv=>rhs; rw[shiftUp,if_pos q,if_neg (by rw[q2]; decide)]
    ·have q:¬ j<m:=aE q
     refine bM ⟨λ_=>?_,λe=>absurd rfl e⟩
     refine⟨h2,d2,hu2,hz2,?_,rfl,I1 e0,I1 e1,I1 e2,I1 e8,I1 e7⟩
     rw[← hD2,shiftUp,if_neg q]
   ·have q:¬ 2≤m-i:=aE q
    exact aN ⟨_,d4,hu4,hz4,if_neg q,rfl,I1 e0,I1 e1,I1 e2,I1 e8,I1 e7⟩
  clear e0 e1 e2 e7 e8
  rintro ts h1 ⟨h3,d2,hu5,hz5,hF,rfl,e0,e1,e2,e8,e7⟩
  rw[hF] at hD
  have w3:IntKind.i64.wrap (((5-(s+1):Nat):Int)+1)=((5-s:Nat):Int):=by rw[bE om om]; omega
  refine ah (J2 e8 w3) ?_
  exact⟨s,om,s,i,d2,rfl,om,hai,him,hu5,hz5,hD,I1 e0,I1 e1,I1 e2,I2 e8 w3,I1 e7⟩
 ·have q:s=0:=by have:=aE q; omega
  subst q
  refine bM ⟨λ_=>?_,λe=>absurd rfl e⟩
  refine ab (ah (M0) ?_)
  exact bt ⟨.bool false,(by simp only[rs,rf193,am,aD,simprocAttr]<;>rfl),by rw[← hD]; rfl,by rw[← hD]; exact hu⟩
open Go.Am
theorem tb1:((List.range 256).all λn=>n==0||([0,1,2,2,3,3,3,3,4,4,4,4,4,4,4,4,5,5,5,5,5,5,5,5,5,5,5,5,5,5,5,5,6,6,6,6,6,6,6,6,6,6,6,6,6,6,6,6,6,6,6,6,6,6,6,6,6,6,6,6,6,6,6,6,7,7,7,7,7,7,7,7,7,7,7,7,7,7,7,7,7,7,7,7,7,7,7,7,7,7,7,7,7,7,7,7,7,7,7,7,7,7,7,7,7,7,7,7,7,7,7,7,7,7,7,7,7,7,7,7,7,7,7,7,7,7,7,7,8,8,8,8,8,8,8,8,8,8,8,8,8,8,8,8,8,8,8,8,8,8,8,8,8,8,8,8,8,8,8,8,8,8,8,8,8,8,8,8,8,8,8,8,8,8,8,8,8,8,8,8,8,8,8,8,8,8,8,8,8,8,8,8,8,8,8,8,8,8,8,8,8,8,8,8,8,8,8,8,8,8,8,8,8,8,8,8,8,8,8,8,8,8,8,8,8,8,8,8,8,8,8,8,8,8,8,8,8,8,8,8,8,8,8,8,8,8,8,8,8,8,8,8,8,8,8,8]:List UInt8)[n]?==some (UInt8.ofNat (Nat.log2 n+1)))=true:=by decide +kernel
theorem vg {n:Nat} (h:n<256):Nat.log2 n<8:=by
 by_cases h0:n=0
 ·subst h0; decide
 ·exact (Ej h0).2 h
set_option maxRecDepth 4000 in
theorem Db {n:Nat} (h1:1≤n) (h2:n<256):pX (.str [0,1,2,2,3,3,3,3,4,4,4,4,4,4,4,4,5,5,5,5,5,5,5,5,5,5,5,5,5,5,5,5,6,6,6,6,6,6,6,6,6,6,6,6,6,6,6,6,6,6,6,6,6,6,6,6,6,6,6,6,6,6,6,6,7,7,7,7,7,7,7,7,7,7,7,7,7,7,7,7,7,7,7,7,7,7,7,7,7,7,7,7,7,7,7,7,7,7,7,7,7,7,7,7,7,7,7,7,7,7,7,7,7,7,7,7,7,7,7,7,7,7,7,7,7,7,7,7,8,8,8,8,8,8,8,8,8,8,8,8,8,8,8,8,8,8,8,8,8,8,8,8,8,8,8,8,8,8,8,8,8,8,8,8,8,8,8,8,8,8,8,8,8,8,8,8,8,8,8,8,8,8,8,8,8,8,8,8,8,8,8,8,8,8,8,8,8,8,8,8,8,8,8,8,8,8,8,8,8,8,8,8,8,8,8,8,8,8,8,8,8,8,8,8,8,8,8,8,8,8,8,8,8,8,8,8,8,8,8,8,8,8,8,8,8,8,8,8,8,8,8,8,8,8,8,8]) (.int .u8 (n:Nat))=some (.int .u8 ((Nat.log2 n+1:Nat):Int)):=by
 have hs:=bA.1 tb1 n (bz.2 h2)
 have hn:(n==0)=false:=by simp; omega
 rw[hn,wm,beq_iff_eq] at hs
 have c:(0:Int)≤(n:Nat):=om
 have hl:=vg h2
 have u:(UInt8.ofNat (Nat.log2 n+1)).toNat=Nat.log2 n+1:=by rw[UInt8.toNat_ofNat']; omega
 simp only[sk,c,if_true,bK,hs,aH,u]
theorem pj {a k:Nat} (hk:k<64):dm .shr .no (.int .u64 (a:Nat)) (.int .u64 (k:Nat))=some (.int .u64 ((a / 2 ^ k:Nat):Int)):=by
 have h1:min ((k:Nat):Int).toNat IntKind.u64.bits=k:=by
  have:IntKind.u64.bits=64:=rfl
  rw[this,bK]
  omega
 have h2:((a:Nat):Int).fdiv (2 ^ k)=((a / 2 ^ k:Nat):Int):=by
  rw[Int.fdiv_eq_ediv_of_nonneg _ (Int.le_of_lt (Int.pow_pos (by decide)))]
  simp
 have:dm .shr .no (.int .u64 (a:Nat)) (.int .u64 (k:Nat))=pz .shr .u64 (a:Nat) (k:Nat):=by simp [dm,eH]
 rw[this]
 have hk0:¬ ((k:Nat):Int)<0:=om
 simp only[pz,h1,h2,hk0,if_false]
theorem pO {a k:Nat} (h:2 ^ k≤a):Nat.log2 (a / 2 ^ k)+k=Nat.log2 a:=by
 induction k generalizing a with
 | zero=>simp
 | succ k ih =>
   have h2:2 ^ (k+1)=2 ^ k*2:=Nat.pow_succ ..
   have hp:=Nat.two_pow_pos k
   have ha:2≤a:=om
   rw[h2,← Nat.div_div_eq_div_mul]
   have h3:2≤a / 2 ^ k:=by rw[Nat.le_div_iff_mul_le hp]; omega
   have h4:=ih (a:=a) om
   have h5:Nat.log2 (a / 2 ^ k)=Nat.log2 (a / 2 ^ k / 2)+1:=by
    conv=>lhs; rw[Nat.log2_def]
    rw[if_pos h3]
   omega
theorem GU:rf187.results=[(.t 2)]:=rfl
set_option maxRecDepth 8000 in
theorem CF {h:AH}{u:Nat} (k1:1≤u) (k2:u<2 ^ 64):C prg 187 [.int .u64 (u:Nat)] h λv h'=>v=.int .i64 ((Nat.log2 u+1:Nat):Int)∧h'=h:=by
 refine HH pf187 ?_
 refine ab (fJ (λts h1=>h1=h∧aB ts 0=.int .u64 (u:Nat)∧aB ts 2=.int .i64 ((0:Nat):Int)) ?_ λts h1 ⟨eh,e0,e2⟩=>?_)
 ·simp only[am,aD,↓reduceIte,Nat.reduceEqDiff,Int.reduceEq,Nat.reduceAdd,Nat.reduceLeDiff,reduceCtorEq,bL]
  simp
 subst eh
 have s32:=pj (a:=u) (k:=32) (by decide)
 refine ab (cZ (λts h2=>h2=h1∧∃ a n,1≤a∧a<2 ^ 32∧Nat.log2 a+n=Nat.log2 u∧n≤32∧aB ts 0=.int .u64 (a:Nat)∧aB ts 2=.int .i64 (n:Nat)) (ab (fJ (λts h2=>h2=h1∧aB ts 0=.int .u64 (u:Nat)∧aB ts 2=.int .i64 ((0:Nat):Int)∧aB ts 4=.bool (decide (4294967296≤u))) ?_ λts h2 ⟨eh,e0,e2,e4⟩=>bg e4 (λhc=>?_) λhc=>aN ?_)) λts h2 ⟨eh,a,n,a1,a2,a3,a4,e0,e2⟩=>?_)
 ·have:decide ((4294967296:Int)≤(u:Nat))=decide (4294967296≤u):=by simp only[decide_eq_decide]; omega
  simp only[am,aD,↓reduceIte,Nat.reduceEqDiff,Int.reduceEq,Nat.reduceAdd,Nat.reduceLeDiff,reduceCtorEq,e0,e2,this]
 ·simp only[aj] at hc
  subst eh
  have s32':dm .shr .no (.int .u64 (u:Nat)) (.int .u64 32)=some (.int .u64 ((u / 2 ^ 32:Nat):Int)):=s32
  refine ab (fJ (λts h3=>h3=h2∧aB ts 0=.int .u64 ((u / 2 ^ 32:Nat):Int)) ?_ λts h3 ⟨eh,e0⟩=>?_)
  ·generalize ((u / 2 ^ 32:Nat):Int)=q at *
   simp only[am,aD,↓reduceIte,Nat.reduceEqDiff,Int.reduceEq,Nat.reduceAdd,Nat.reduceLeDiff,reduceCtorEq,e0,s32']
  subst eh
  refine fJ (λts h4=>h4=h3∧aB ts 0=.int .u64 ((u / 2 ^ 32:Nat):Int)∧aB ts 2=.int .i64 ((32:Nat):Int)) ?_ λts h4 ⟨eh,e0,e2⟩=>⟨eh,u / 2 ^ 32,32,om,om,pO (k:=32) om,om,e0,e2⟩
  generalize ((u / 2 ^ 32:Nat):Int)=q at *
  simp only[am,aD,↓reduceIte,Nat.reduceEqDiff,Int.reduceEq,Nat.reduceAdd,Nat.reduceLeDiff,reduceCtorEq,e0]
  simp
 ·simp only[aR] at hc
  exact⟨eh,u,0,k1,om,rfl,om,e0,e2⟩
 subst eh
 have s16:=pj (a:=a) (k:=16) (by decide)
 refine ab (cZ (λts h3=>h3=h2∧∃ a n,1≤a∧a<2 ^ 16∧Nat.log2 a+n=Nat.log2 u∧n≤48∧aB ts 0=.int .u64 (a:Nat)∧aB ts 2=.int .i64 (n:Nat)) (ab (fJ (λts h3=>h3=h2∧aB ts 0=.int .u64 (a:Nat)∧aB ts 2=.int .i64 (n:Nat)∧aB ts 8=.bool (decide (65536≤a))) ?_ λts h3 ⟨eh,e0,e2,e4⟩=>bg e4 (λhc=>?_) λhc=>aN ?_)) λts h3 ⟨eh,b,m,b1,b2,b3,b4,e0,e2⟩=>?_)
 ·have:decide ((65536:Int)≤(a:Nat))=decide (65536≤a):=by simp only[decide_eq_decide]; omega
  simp only[am,aD,↓reduceIte,Nat.reduceEqDiff,Int.reduceEq,Nat.reduceAdd,Nat.reduceLeDiff,reduceCtorEq,e0,e2,this]
 ·simp only[aj] at hc
  subst eh
  have s16':dm .shr .no (.int .u64 (a:Nat)) (.int .u64 16)=some (.int .u64 ((a / 2 ^ 16:Nat):Int)):=s16
  refine ab (fJ (λts h4=>h4=h3∧aB ts 0=.int .u64 ((a / 2 ^ 16:Nat):Int)∧aB ts 2=.int .i64 (n:Nat)) ?_ λts h4 ⟨eh,e0,e2⟩=>?_)
  ·generalize ((a / 2 ^ 16:Nat):Int)=q at *
   simp only[am,aD,simprocAttr,e0,e2,s16']
  subst eh
  have w:IntKind.i64.wrap (((n:Nat):Int)+16)=((n+16:Nat):Int):=IntWalk.i64_in _ om
  have hd:=pO (a:=a) (k:=16) om
  refine fJ (λts h5=>h5=h4∧aB ts 0=.int .u64 ((a / 2 ^ 16:Nat):Int)∧aB ts 2=.int .i64 ((n+16:Nat):Int)) ?_ λts h5 ⟨eh,e0,e2⟩=>⟨eh,a / 2 ^ 16,n+16,om,om,om,om,e0,e2⟩
  generalize ((a / 2 ^ 16:Nat):Int)=q at *
  simp only[am,aD,simprocAttr,e0,e2,w]
 ·simp only[aR] at hc
  exact⟨eh,a,n,a1,om,a3,om,e0,e2⟩
 subst eh
 have s8:=pj (a:=b) (k:=8) (by decide)
 refine ab (cZ (λts h4=>h4=h3∧∃ a n,1≤a∧a<2 ^ 8∧Nat.log2 a+n=Nat.log2 u∧n≤56∧aB ts 0=.int .u64 (a:Nat)∧aB ts 2=.int .i64 (n:Nat)) (ab (fJ (λts h4=>h4=h3∧aB ts 0=.int .u64 (b:Nat)∧aB ts 2=.int .i64 (m:Nat)∧aB ts 14=.bool (decide (256≤b))) ?_ λts h4 ⟨eh,e0,e2,e4⟩=>bg e4 (λhc=>?_) λhc=>aN ?_)) λts h4 ⟨eh,c,k,c1,c2,c3,c4,e0,e2⟩=>?_)
 ·have:decide ((256:Int)≤(b:Nat))=decide (256≤b):=by simp only[decide_eq_decide]; omega
  simp only[am,aD,↓reduceIte,Nat.reduceEqDiff,Int.reduceEq,Nat.reduceAdd,Nat.reduceLeDiff,reduceCtorEq,e0,e2,this]
 ·simp only[aj] at hc
  subst eh
  have s8':dm .shr .no (.int .u64 (b:Nat)) (.int .u64 8)=some (.int .u64 ((b / 2 ^ 8:Nat):Int)):=s8
  refine ab (fJ (λts h5=>h5=h4∧aB ts 0=.int .u64 ((b / 2 ^ 8:Nat):Int)∧aB ts 2=.int .i64 (m:Nat)) ?_ λts h5 ⟨eh,e0,e2⟩=>?_)
  ·generalize ((b / 2 ^ 8:Nat):Int)=q at *
   simp only[am,aD,simprocAttr,e0,e2,s8']
  subst eh
  have w:IntKind.i64.wrap (((m:Nat):Int)+8)=((m+8:Nat):Int):=IntWalk.i64_in _ om
  have hd:=pO (a:=b) (k:=8) om
  refine fJ (λts h6=>h6=h5∧aB ts 0=.int .u64 ((b / 2 ^ 8:Nat):Int)∧aB ts 2=.int .i64 ((m+8:Nat):Int)) ?_ λts h6 ⟨eh,e0,e2⟩=>⟨eh,b / 2 ^ 8,m+8,om,om,om,om,e0,e2⟩
  generalize ((b / 2 ^ 8:Nat):Int)=q at *
  simp only[am,aD,simprocAttr,e0,e2,w]
 ·simp only[aR] at hc
  exact⟨eh,b,m,b1,om,b3,om,e0,e2⟩
 subst eh
 have w1:IntKind.u8.wrap ((c:Nat):Int)=(c:Nat):=IntWalk.u8_in _ om
 have hx:=Db c1 om
 have hl:=vg (show c<256 by omega)
 have w2:IntKind.i64.wrap ((Nat.log2 c+1:Nat):Int)=((Nat.log2 c+1:Nat):Int):=IntWalk.i64_in _ om
 have w3:IntKind.i64.wrap (((k:Nat):Int)+((Nat.log2 c+1:Nat):Int))=((Nat.log2 u+1:Nat):Int):=by rw[IntWalk.i64_in _ om]; omega
 refine ab (fJ (λts h5=>h5=h4∧aB ts 2=.int .i64 ((Nat.log2 u+1:Nat):Int)) ?_ λts h5 ⟨eh,e2⟩=>bt ⟨_,by simp only[Am.results,iC,GU,lu,e2],rfl,eh⟩)
 generalize ((Nat.log2 c+1:Nat):Int)=q at *
 generalize ((Nat.log2 u+1:Nat):Int)=q2 at *
 simp only[am,aD,simprocAttr,e0,e2,w1,hx,w2,w3]
set_option maxRecDepth 8000 in
theorem wY {h:AH}:C prg 187 [.int .u64 0] h λv h'=>v=.int .i64 0∧h'=h:=by
 refine HH pf187 ?_
 refine ab (ah (Ji0) ?_)
 have c1:decide ((4294967296:Int)≤0)=false:=by decide
 have c2:decide ((65536:Int)≤0)=false:=by decide
 have c3:decide ((256:Int)≤0)=false:=by decide
 refine ab (ab (ah (Ji1 c1) ?_))
 refine cU (I1 c1) (aN ?_)
 refine ab (ab (ah (Ji1 c2) ?_))
 refine cU (I1 c2) (aN ?_)
 refine ab (ab (ah (Ji1 c3) ?_))
 refine cU (I1 c3) (aN ?_)
 have w1:IntKind.u8.wrap 0=0:=by decide
 have w2:IntKind.i64.wrap 0=0:=by decide
 have w3:IntKind.i64.wrap (0+0)=0:=by decide
 have hi:pX (.str [0,1,2,2,3,3,3,3,4,4,4,4,4,4,4,4,5,5,5,5,5,5,5,5,5,5,5,5,5,5,5,5,6,6,6,6,6,6,6,6,6,6,6,6,6,6,6,6,6,6,6,6,6,6,6,6,6,6,6,6,6,6,6,6,7,7,7,7,7,7,7,7,7,7,7,7,7,7,7,7,7,7,7,7,7,7,7,7,7,7,7,7,7,7,7,7,7,7,7,7,7,7,7,7,7,7,7,7,7,7,7,7,7,7,7,7,7,7,7,7,7,7,7,7,7,7,7,7,8,8,8,8,8,8,8,8,8,8,8,8,8,8,8,8,8,8,8,8,8,8,8,8,8,8,8,8,8,8,8,8,8,8,8,8,8,8,8,8,8,8,8,8,8,8,8,8,8,8,8,8,8,8,8,8,8,8,8,8,8,8,8,8,8,8,8,8,8,8,8,8,8,8,8,8,8,8,8,8,8,8,8,8,8,8,8,8,8,8,8,8,8,8,8,8,8,8,8,8,8,8,8,8,8,8,8,8,8,8,8,8,8,8,8,8,8,8,8,8,8,8,8,8,8,8,8,8]) (.int .u8 0)=some (.int .u8 0):=rfl
 refine ab (fJ (λts h5=>h5=h∧aB ts 2=.int .i64 0) ?_ λts h5 ⟨eh,e2⟩=>bt ⟨.int .i64 0,(by simp only[rs,rf187,am,aD,simprocAttr,e2]<;>rfl),rfl,eh⟩)
 simp only[am,aD,simprocAttr,bL,w1,hi,w2,w3]
theorem tP {h:AH}{u:Nat} (k1:1≤u) (k2:u<2 ^ 64):C prg 145 [.int .u64 (u:Nat)] h λv h'=>v=.int .i64 ((Nat.log2 u+1:Nat):Int)∧h'=h:=by
 refine HH pf145 ?_
 refine ab (ah (Ji0) ?_)
 refine ab (cU rfl (aN ?_))
 refine ab (aX (aP 1 (Mi0) rfl (Zi0) (Mi0) (CF k1 k2) λv h' hq=>?_))
 obtain⟨rfl,rfl⟩:=hq
 refine aW (M0) ?_
 exact bt ⟨_,(by simp only[rs,rf145,am,aD,simprocAttr]<;>rfl),rfl,rfl⟩
theorem nY {h:AH}:C prg 145 [.int .u64 0] h λv h'=>v=.int .i64 0∧h'=h:=by
 refine HH pf145 ?_
 refine ab (ah (Ji0) ?_)
 refine ab (cU rfl (aN ?_))
 refine ab (aX (aP 1 (Mi0) rfl (Zi0) (Mi0) (wY) λv h' hq=>?_))
 obtain⟨rfl,rfl⟩:=hq
 refine aW (M0) ?_
 exact bt ⟨_,(by simp only[rs,rf145,am,aD,simprocAttr]<;>rfl),rfl,rfl⟩
open Go.Am
open Go.Sort (swp ltInt PermIn)
def eM (k:IntKind) (z:Int):AO:=.cells [.int k z] 1 false
theorem jz {h:AH}{s:Nat}{k:IntKind}{z:Int} (hg:h.get s=some (eM k z)):ar h s 0 1=some [.int k z]:=by rw[aS hg]; rfl
theorem kj {h:AH}{s:Nat}{k:IntKind}{z y:Int} (hg:h.get s=some (eM k z)):∃ h',bV h s 0 [.int k y]=some h'∧Upd h h' s (eM k y) :=
 ⟨_,by rw[dI hg]; rfl,HF hg⟩
theorem tb {h:AH}{b o c s x y:Nat}{z:Int}{cs:List AV}{d:Array Int} (hg:h.get b=some (cT cs o d)) (hr:o+d.size≤cs.length) (hx:x<d.size) (hy:y<d.size) (hs:h.get s=some (eM .i64 z)) :
 C prg 229 [.sl b o d.size c,.int .i64 (x:Nat),.int .i64 (y:Nat),.ptr s 0] h λv h'=>∃ (x' y':Nat) (z':Int),v=.tup [.int .i64 (x':Nat),.int .i64 (y':Nat)]∧(x'=x∧y'=y∨x'=y∧y'=x)∧Upd h h' s (eM .i64 z'):=by
 refine HH pf229 ?_
 have i1:bN ((y:Nat):Int) d.size=some y:=aO hy
 have i2:bN ((x:Nat):Int) d.size=some x:=aO hx
 have r1:=cq (i:=y) hg hr hy
 have r2:=cq (i:=x) hg hr hx
 refine ab (ah (Mi0) ?_)
 refine ab (ab (aX (aP 8 (Mi5 i1 i2 r1 r2 @ai) rfl (Zi5 i1 i2 r1 r2 @ai) (Mi5 i1 i2 r1 r2 @ai) (fk) λv h3 hq=>?_)))
 obtain⟨rfl,rfl⟩:=hq
 refine aW (M0) ?_
 refine bg (t:=ltInt d[y]! d[x]!) (Z0) (λq=>?_) λq=>?_
 ·have r3:=jz hs
  obtain⟨h4,s4,u4⟩:=kj (y:=IntKind.i64.wrap (z+1)) hs
  refine ab (ah (Mi2 r3 s4) ?_)
  refine ab (ah (Mi0) ?_)
  exact bt ⟨_,(by simp only[rs,rf229,am,aD,simprocAttr,bL]<;>rfl),y,x,_,rfl,.inr ⟨rfl,rfl⟩,u4⟩
 ·refine aN (ab (ah (Mi0) ?_))
  exact bt ⟨_,(by simp only[rs,rf229,am,aD,simprocAttr,bL]<;>rfl),x,y,_,rfl,.inl ⟨rfl,rfl⟩,HG hs⟩
theorem Cy {h:AH}{b o c s x y w:Nat}{z:Int}{cs:List AV}{d:Array Int} (hg:h.get b=some (cT cs o d)) (hbs:b≠s) (hr:o+d.size≤cs.length) (hx:x<d.size) (hy:y<d.size) (hw:w<d.size) (hs:h.get s=some (eM .i64 z)) :
 C prg 218 [.sl b o d.size c,.int .i64 (x:Nat),.int .i64 (y:Nat),.int .i64 (w:Nat),.ptr s 0] h λv h'=>∃ (r:Nat) (z':Int),v=.int .i64 (r:Nat)∧(r=x∨r=y∨r=w)∧Upd h h' s (eM .i64 z'):=by
 refine HH pf218 ?_
 refine ab (ah (Mi0) ?_)
 refine ab (aX (aP 4 (Mi0) rfl (Zi0) (Mi0) (tb hg hr hx hy hs) λv h1 hq=>?_))
 obtain⟨x1,y1,z1,rfl,hxy,u1⟩:=hq
 refine aW (M0) ?_
 have g1:h1.get b=some (cT cs o d):=by rw[u1.ne hbs]; exact hg
 refine ab (aX (aP 4 (Mi0) rfl (Zi0) (Mi0) (tb g1 hr (x:=y1) (y:=w) om hw u1.get) λv h2 hq=>?_))
 obtain⟨y2,w2,z2,rfl,hyw,u2⟩:=hq
 refine aW (M0) ?_
 have u2':=u1.trans u2
 have g2:h2.get b=some (cT cs o d):=by rw[u2'.ne hbs]; exact hg
 refine ab (aX (aP 4 (Mi0) rfl (Zi0) (Mi0) (tb g2 hr (x:=x1) (y:=y2) om om u2.get) λv h3 hq=>?_))
 obtain⟨x3,y3,z3,rfl,hxy3,u3⟩:=hq
 refine aW (M0) ?_
 refine ab (ah (M0) ?_)
 exact bt ⟨_,(by simp only[rs,rf218,am,aD,simprocAttr]<;>rfl),y3,z3,rfl,om,u2'.trans u3⟩
theorem te {h:AH}{b o c s x:Nat}{z:Int}{cs:List AV}{d:Array Int} (hg:h.get b=some (cT cs o d)) (hbs:b≠s) (hr:o+d.size≤cs.length) (hx0:0<x) (hx:x+1<d.size) (hz:d.size<2 ^ 40) (hs:h.get s=some (eM .i64 z)) :
 C prg 217 [.sl b o d.size c,.int .i64 (x:Nat),.ptr s 0] h λv h'=>∃ (r:Nat) (z':Int),v=.int .i64 (r:Nat)∧(x≤r+1∧r≤x+1)∧Upd h h' s (eM .i64 z'):=by
 refine HH pf217 ?_
 have w1:IntKind.i64.wrap (((x:Nat):Int)-1)=((x-1:Nat):Int):=by rw[bE om om]; omega
 have w2:IntKind.i64.wrap (((x:Nat):Int)+1)=((x+1:Nat):Int):=bE om om
 refine ab (ah (Mi0) ?_)
 refine ab (aX (aP 7 (Mi2 w1 w2) rfl (Zi2 w1 w2) (Mi2 w1 w2) (Cy hg hbs hr (x:=x-1) (y:=x) (w:=x+1) om om om hs) λv h1 hq=>?_))
 obtain⟨r,z1,rfl,hxy,u1⟩:=hq
 refine aW (M0) ?_
 exact bt ⟨_,(by simp only[rs,rf217,am,aD,simprocAttr]<;>rfl),r,z1,rfl,om,u1⟩
open Go.Am
open Go.Sort (swp ltInt PermIn swp_permIn permIn_refl permIn_trans)
theorem mS {n k:Nat} (hn:n<2 ^ 62):IntKind.i64.wrap (((n:Nat):Int).tdiv ((k:Nat):Int))=((n / k:Nat):Int):=by
 rw[Int.tdiv_eq_ediv_of_nonneg om,← Int.natCast_ediv]
 have h2:n / k≤n:=Nat.div_le_self n k
 generalize n / k=q at *
 exact bE om om
theorem GW {h:AH}{b o c a m:Nat}{cs:List AV}{d:Array Int} (hg:h.get b=some (cT cs o d)) (hr:o+d.size≤cs.length) (hl:a+8≤m) (hm:m≤d.size) (hs:d.size<2 ^ 40) :
 C prg 191 [.sl b o d.size c,.int .i64 (a:Nat),.int .i64 (m:Nat)] h λv h'=>∃ (r:Nat) (k:Int),v=.tup [.int .i64 (r:Nat),.int .i64 k]∧a≤r∧r<m∧Ext h.next h h':=by
 refine HH pf191 ?_
 have hb:=AH.lt_of_get hg
 have w0:IntKind.i64.wrap (((m:Nat):Int)-((a:Nat):Int))=((m-a:Nat):Int):=by rw[bE om om]; omega
 refine ab (ah (Mi0) ?_)
 refine ab (ah (Mi1 w0) ?_)
 refine ab (ah (Mi0) ?_)
 have z4:¬ (4:Int)=0:=by decide
 have q4:IntKind.i64.wrap (((m-a:Nat):Int).tdiv 4)=(((m-a) / 4:Nat):Int):=mS (k:=4) om
 obtain⟨L,hL⟩:∃ L,L=(m-a) / 4:=⟨_,rfl⟩
 rw[← hL] at q4
 have hL2:2≤L:=om
 have hL4:4*L≤m-a:=om
 have w1:IntKind.i64.wrap (((L:Nat):Int)*1)=((L:Nat):Int):=by rw[bE om om]; omega
 have w2:IntKind.i64.wrap (((L:Nat):Int)*2)=((2*L:Nat):Int):=by rw[bE om om]; omega
 have w3:IntKind.i64.wrap (((L:Nat):Int)*3)=((3*L:Nat):Int):=by rw[bE om om]; omega
 have w4:IntKind.i64.wrap (((a:Nat):Int)+((L:Nat):Int))=((a+L:Nat):Int):=by rw[bE om om]; omega
 have w5:IntKind.i64.wrap (((a:Nat):Int)+((2*L:Nat):Int))=((a+2*L:Nat):Int):=by rw[bE om om]; omega
 have w6:IntKind.i64.wrap (((a:Nat):Int)+((3*L:Nat):Int))=((a+3*L:Nat):Int):=by rw[bE om om]; omega
 refine ab (ah (Mi4 z4 q4 w1 w4) ?_)
 refine ab (ah (Mi4 z4 q4 w2 w5) ?_)
 refine ab (ah (Mi4 z4 q4 w3 w6) ?_)
 have c1:decide ((8:Int)≤((m-a:Nat):Int))=true:=by simp only[aj]; omega
 have hnew:(h.new (.cells [.int .i64 0] 1 false)).get h.next=some (eM .i64 0):=by rw[AH.get_new,if_pos rfl]; rfl
 have gnew:(h.new (.cells [.int .i64 0] 1 false)).get b=some (cT cs o d):=by rw[AH.get_new,if_neg om]; exact hg
 have hbs:b≠h.next:=om
 have ex0:Ext h.next h (h.new (.cells [.int .i64 0] 1 false)):=HD (ae _)
 generalize h.new (.cells [.int .i64 0] 1 false)=h0 at *
 refine ab (cZ (λts h1=>∃ (r:Nat) (z:Int),a≤r∧r<m∧Ext h.next h h1∧h1.get h.next=some (eM .i64 z)∧aB ts 9=.ptr h.next 0∧aB ts 11=.int .i64 (r:Nat)) ?_ ?_)
 ·refine ab (ah (Mi1 c1) ?_)
  refine dv (Z1 c1) (ab (cZ (λts h1=>∃ (x y w:Nat) (z:Int),a≤x∧x<m∧a≤y∧y<m∧a≤w∧w<m∧Upd h0 h1 h.next (eM .i64 z)∧aB ts 0=.sl b o d.size c∧aB ts 9=.ptr h.next 0∧aB ts 10=.int .i64 (x:Nat)∧aB ts 11=.int .i64 (y:Nat)∧aB ts 12=.int .i64 (w:Nat)) ?_ ?_))
  ·refine ab (ah (Mi0) ?_)
   refine bg (t:=decide ((50:Int)≤((m-a:Nat):Int))) (Z0) (λq=>?_) λq=>?_
   ·refine ab (aX (aP 2 (Mi0) rfl (Zi0) (Mi0) (te gnew hbs hr (x:=a+L) om om om hnew) λv h1 hq=>?_))
    obtain⟨x,z1,rfl,hx,u1⟩:=hq
    refine aW (M0) ?_
    have g1:h1.get b=some (cT cs o d):=by rw[u1.ne hbs]; exact gnew
    refine ab (aX (aP 2 (Mi0) rfl (Zi0) (Mi0) (te g1 hbs hr (x:=a+2*L) om om om u1.get) λv h2 hq=>?_))
    obtain⟨y,z2,rfl,hy,u2⟩:=hq
    refine aW (M0) ?_
    have u2':=u1.trans u2
    have g2:h2.get b=some (cT cs o d):=by rw[u2'.ne hbs]; exact gnew
    refine aX (aP 2 (Mi0) rfl (Zi0) (Mi0) (te g2 hbs hr (x:=a+3*L) om om om u2.get) λv h3 hq=>?_)
    obtain⟨w,z3,rfl,hw,u3⟩:=hq
    refine aW (M0) ?_
    exact⟨x,y,w,z3,om,om,om,om,om,om,u2'.trans u3,Zi0,Zi0,Z0,Z0,Z0⟩
   ·exact aN ⟨a+L,a+2*L,a+3*L,0,om,om,om,om,om,om,HG hnew,Zi0,Zi0,Z0,Z0,Z0⟩
  ·rintro ts h1 ⟨x,y,w,z,hx1,hx2,hy1,hy2,hw1,hw2,u1,e0,e9,e10,e11,e12⟩
   have g1:h1.get b=some (cT cs o d):=by rw[u1.ne hbs]; exact gnew
   refine aX (aP 4 (M5 e0 e9 e10 e11 e12) rfl (Z5 e0 e9 e10 e11 e12) (M5 e0 e9 e10 e11 e12) (Cy g1 hbs hr (x:=x) (y:=y) (w:=w) om om om u1.get) λv h2 hq=>?_)
   obtain⟨r,z2,rfl,hr3,u2⟩:=hq
   refine aW (M0) ?_
   exact⟨r,z2,om,om,ex0.trans ((u1.trans u2).ext (ae _)),u2.get,Z1 e9,Z0⟩
 rintro ts h1 ⟨r,z,hr1,hr2,ex,g,e9,e11⟩
 have r1:=jz g
 refine ab (ah (M2 e9 r1) ?_)
 refine aU (ab (ah (M0) ?_))
 refine bg (t:=decide (z=0)) (Z0) (λq=>?_) λq=>?_
 ·refine ab (ah (M1 e11) ?_)
  exact bt ⟨_,(by simp only[rs,rf191,am,aD,simprocAttr]<;>rfl),r,1,rfl,hr1,hr2,ex⟩
 ·refine ab (ah (M0) ?_)
  refine bg (t:=decide (z=12)) (Z0) (λq=>?_) λq=>?_
  ·refine ab (ah (M1 e11) ?_)
   exact bt ⟨_,(by simp only[rs,rf191,am,aD,simprocAttr]<;>rfl),r,2,rfl,hr1,hr2,ex⟩
  ·refine ab (ah (M1 e11) ?_)
   exact bt ⟨_,(by simp only[rs,rf191,am,aD,simprocAttr]<;>rfl),r,0,rfl,hr1,hr2,ex⟩
theorem EU {k:Nat} (hk:k<64):dm .shl .no (.int .u64 1) (.int .i64 (k:Nat))=some (.int .u64 ((2 ^ k:Nat):Int)):=by
 have h1:min ((k:Nat):Int).toNat IntKind.u64.bits=k:=by
  have:IntKind.u64.bits=64:=rfl
  rw[this,bK]
  omega
 have e:dm .shl .no (.int .u64 1) (.int .i64 (k:Nat))=pz .shl .u64 1 (k:Nat):=by simp [dm]
 have hk0:¬ ((k:Nat):Int)<0:=om
 have h2:(1:Int)*2 ^ k=((2 ^ k:Nat):Int):=by rw[Int.one_mul]; exact (Int.natCast_pow 2 k).symm
 have h3:2 ^ k<2 ^ 64:=Nat.pow_lt_pow_right (by decide) hk
 have h4:IntKind.u64.wrap ((2 ^ k:Nat):Int)=((2 ^ k:Nat):Int):=by
  generalize 2 ^ k=p at *
  exact IntWalk.u64_in _ ⟨om,om⟩
 rw[e]
 simp only[pz,h1,hk0,if_false,h2,h4]
theorem kw {n:Nat} (h:n<2 ^ 64):IntKind.u64.wrap ((n:Nat):Int)=((n:Nat):Int):=IntWalk.u64_in _ ⟨om,om⟩
theorem yx {h:AH}{n:Nat} (h1:1≤n) (h2:n<2 ^ 40):C prg 212 [.int .i64 (n:Nat)] h λv h'=>∃ p:Nat,v=.int .u64 (p:Nat)∧h'=h∧1≤p∧p≤2*n:=by
 refine HH pf212 ?_
 have hlg:Nat.log2 n<40:=(Ej om).2 h2
 have hlo:2 ^ Nat.log2 n≤n:=Nat.log2_self_le om
 have w1:IntKind.u64.wrap ((n:Nat):Int)=((n:Nat):Int):=kw om
 have sh:=EU (k:=Nat.log2 n+1) om
 refine ab (ah (Mi0) ?_)
 refine ab (aX (aP 2 (Mi1 w1) rfl (Zi1 w1) (Mi1 w1) (tP h1 om) λv h1 hq=>?_))
 obtain⟨rfl,rfl⟩:=hq
 have hp:2 ^ (Nat.log2 n+1)=2*2 ^ Nat.log2 n:=by rw[Nat.pow_succ]; omega
 have hp1:1≤2 ^ Nat.log2 n:=Nat.one_le_two_pow
 generalize hP:2 ^ (Nat.log2 n+1)=P at *
 refine aW (M1 sh) ?_
 exact bt ⟨_,(by simp only[rs,rf212,am,aD,simprocAttr]<;>rfl),P,rfl,rfl,om,om⟩
def xr (a b:Int):Int:=IntKind.u64.wrap ((BitVec.ofInt 64 a ^^^ BitVec.ofInt 64 b).toNat)
def uq (a:Int) (k:Nat):Int:=IntKind.u64.wrap (a*2 ^ (min ((k:Nat):Int).toNat IntKind.u64.bits))
def Be (a:Int) (k:Nat):Int:=a.fdiv (2 ^ (min ((k:Nat):Int).toNat IntKind.u64.bits))
theorem nZ {a b:Int}:dm .xor .no (.int .u64 a) (.int .u64 b)=some (.int .u64 (xr a b)):=rfl
theorem sM {a:Int}{k:Nat}:dm .shl .no (.int .u64 a) (.int .u64 (k:Nat))=some (.int .u64 (uq a k)):=by
 have e:dm .shl .no (.int .u64 a) (.int .u64 (k:Nat))=pz .shl .u64 a (k:Nat):=by simp [dm]
 have hk0:¬ ((k:Nat):Int)<0:=om
 rw[e]
 simp only[pz,hk0,if_false,uq]
theorem AN {a:Int}{k:Nat}:dm .shr .no (.int .u64 a) (.int .u64 (k:Nat))=some (.int .u64 (Be a k)):=by
 have e:dm .shr .no (.int .u64 a) (.int .u64 (k:Nat))=pz .shr .u64 a (k:Nat):=by simp [dm]
 have hk0:¬ ((k:Nat):Int)<0:=om
 rw[e]
 simp only[pz,hk0,if_false,Be]
theorem uf {h:AH}{s:Nat}{z:Int} (hs:h.get s=some (eM .u64 z)):C prg 213 [.ptr s 0] h λv h'=>∃ z':Int,v=.int .u64 z'∧Upd h h' s (eM .u64 z'):=by
 refine HH pf213 ?_
 have s1:∀ a:Int,dm .shl .no (.int .u64 a) (.int .u64 13)=some (.int .u64 (uq a 13)):=λa=>sM (k:=13)
 have s2:∀ a:Int,dm .shr .no (.int .u64 a) (.int .u64 7)=some (.int .u64 (Be a 7)):=λa=>AN (k:=7)
 have s3:∀ a:Int,dm .shl .no (.int .u64 a) (.int .u64 17)=some (.int .u64 (uq a 17)):=λa=>sM (k:=17)
 have r0:=jz hs
 refine ab (ah (Mi0) ?_)
 obtain⟨h1,t1,u1⟩:=kj (y:=xr z (uq z 13)) hs
 refine ab (ah (Mi4 r0 s1 @nZ t1) ?_)
 generalize xr z (uq z 13)=z1 at *
 have r1:=jz u1.get
 obtain⟨h2,t2,u2⟩:=kj (y:=xr z1 (Be z1 7)) u1.get
 refine ab (ah (Mi4 r1 s2 @nZ t2) ?_)
 generalize xr z1 (Be z1 7)=z2 at *
 have r2:=jz u2.get
 obtain⟨h3,t3,u3⟩:=kj (y:=xr z2 (uq z2 17)) u2.get
 refine ab (ah (Mi4 r2 s3 @nZ t3) ?_)
 generalize xr z2 (uq z2 17)=z3 at *
 have r3:=jz u3.get
 refine ab (ah (Mi1 r3) ?_)
 exact bt ⟨_,(by simp only[rs,rf213,am,aD,simprocAttr]<;>rfl),z3,rfl,(u1.trans u2).trans u3⟩
theorem Ec {z:Int}{p:Nat} (hp:1≤p) (hp2:p<2 ^ 62):∃ r:Nat,Am.bits .and .u64 z (((p-1:Nat):Int))=some ((r:Nat):Int)∧r≤p-1:=by
 refine⟨(BitVec.ofInt 64 z &&& BitVec.ofInt 64 ((p-1:Nat):Int)).toNat,?_,?_⟩
 ·have h:Am.bits .and .u64 z (((p-1:Nat):Int))=some (IntKind.u64.wrap ((BitVec.ofInt 64 z &&& BitVec.ofInt 64 ((p-1:Nat):Int)).toNat:Nat)):=rfl
  rw[h]
  have hl:=(BitVec.ofInt 64 z &&& BitVec.ofInt 64 ((p-1:Nat):Int)).isLt
  generalize (BitVec.ofInt 64 z &&& BitVec.ofInt 64 ((p-1:Nat):Int)).toNat=q at *
  rw[kw hl]
 ·rw[BitVec.toNat_and]
  have:(BitVec.ofInt 64 ((p-1:Nat):Int)).toNat=p-1:=by
   rw[BitVec.toNat_ofInt]
   omega
  rw[this]
  exact Nat.and_le_right
theorem Hs {h:AH}{b o c a m:Nat}{cs:List AV}{d:Array Int} (hg:h.get b=some (cT cs o d)) (hr:o+d.size≤cs.length) (hl:a+8≤m) (hm:m≤d.size) (hs:d.size<2 ^ 38) :
 C prg 190 [.sl b o d.size c,.int .i64 (a:Nat),.int .i64 (m:Nat)] h λv h'=>∃ d',PermIn a m d d'∧Mod h.next h h' b (cT cs o d'):=by
 refine HH pf190 ?_
 have hb:=AH.lt_of_get hg
 have w0:IntKind.i64.wrap (((m:Nat):Int)-((a:Nat):Int))=((m-a:Nat):Int):=by rw[bE om om]; omega
 obtain⟨N,hN⟩:∃ N,N=m-a:=⟨_,rfl⟩
 rw[← hN] at w0
 have c1:decide ((8:Int)≤((N:Nat):Int))=true:=by simp only[aj]; omega
 refine ab (ah (Mi1 w0) ?_)
 refine ab (ah (Mi1 c1) ?_)
 refine dv (Z1 c1) ?_
 have wu:IntKind.u64.wrap ((N:Nat):Int)=((N:Nat):Int):=kw om
 have hnew:(h.new (.cells [.int .u64 0] 1 false)).get h.next=some (eM .u64 0):=by rw[AH.get_new,if_pos rfl]; rfl
 have gnew:(h.new (.cells [.int .u64 0] 1 false)).get b=some (cT cs o d):=by rw[AH.get_new,if_neg om]; exact hg
 have ex0:Ext h.next h (h.new (.cells [.int .u64 0] 1 false)):=HD (ae _)
 have m0:Mod h.next h (h.new (.cells [.int .u64 0] 1 false)) b (cT cs o d):=ex0.mod (Mod.refl gnew)
 obtain⟨h1,t1,u1⟩:=kj (y:=((N:Nat):Int)) hnew
 refine ab (ah (Mi2 wu t1) ?_)
 have m1:Mod h.next h h1 b (cT cs o d):=m0.ext hb (u1.ext (ae _))
 have g1:=u1.get
 clear u1 t1 m0 ex0 hnew gnew
 refine ab (aX (aP 1 (Mi0) rfl (Zi0) (Mi0) (yx (n:=N) om om) λv h2 hq=>?_))
 obtain⟨p,rfl,rfl,hp1,hp2⟩:=hq
 refine aW (M0) ?_
 have z4:¬ (4:Int)=0:=by decide
 have q4:IntKind.i64.wrap (((N:Nat):Int).tdiv 4)=((N / 4:Nat):Int):=mS (k:=4) om
 obtain⟨L,hL⟩:∃ L,L=N / 4:=⟨_,rfl⟩
 rw[← hL] at q4
 have hL2:2≤L:=om
 have hL4:4*L≤N:=om
 have w1:IntKind.i64.wrap (((L:Nat):Int)*2)=((2*L:Nat):Int):=by rw[bE om om]; omega
 have w2:IntKind.i64.wrap (((a:Nat):Int)+((2*L:Nat):Int))=((a+2*L:Nat):Int):=by rw[bE om om]; omega
 have w3:IntKind.i64.wrap (((a+2*L:Nat):Int)-1)=((a+2*L-1:Nat):Int):=by rw[bE om om]; omega
 have w4:IntKind.i64.wrap (((a+2*L:Nat):Int)+1)=((a+2*L+1:Nat):Int):=by rw[bE om om]; omega
 refine ab (ah (Mi5 z4 q4 w1 w2 w3) ?_)
 refine aU (cf (λn ts h1=>∃ (i:Nat) (d1:Array Int) (z:Int),n=a+2*L+2-i∧a+2*L-1≤i∧i≤a+2*L+2∧PermIn a m d d1∧Mod h.next h h1 b (cT cs o d1)∧h1.get h.next=some (eM .u64 z)∧aB ts 0=.sl b o d.size c∧aB ts 1=.int .i64 (a:Nat)∧aB ts 6=.int .i64 (N:Nat)∧aB ts 7=.ptr h.next 0∧aB ts 8=.int .u64 (p:Nat)∧aB ts 9=.int .i64 (i:Nat)) ?_ (n:=3)
  ⟨a+2*L-1,d,_,om,om,om,permIn_refl d a m,m1,g1,Zi0,Zi0,Zi0,Zi0,Zi0,Zi0⟩)
 clear m1 g1
 rintro n ts h1 ⟨i,d1,z,rfl,hi1,hi2,hP,hM,hZ,e0,e1,e6,e7,e8,e9⟩
 have hz:d1.size=d.size:=hP.1
 refine ab (ab (ah (M8 e1 e6 e9 z4 q4 w1 w2 w4) ?_))
 refine bg (t:=decide (i≤a+2*L+1)) (Z1 @me) (λq=>?_) λq=>?_
 ·have q:i≤a+2*L+1:=aF q
  refine aN (ab (aU (ab (aX (kU (Z1 e7) (M1 e7) (uf hZ) λv h2 hq=>?_)))))
  obtain⟨z2,rfl,u2⟩:=hq
  have wp:IntKind.u64.wrap (((p:Nat):Int)-1)=((p-1:Nat):Int):=by
   have:((p:Nat):Int)-1=((p-1:Nat):Int):=om
   rw[this]
   exact kw om
  obtain⟨r,hr1,hr2⟩:=Ec (z:=z2) hp1 om
  have wr:IntKind.i64.wrap ((r:Nat):Int)=((r:Nat):Int):=bE om om
  refine aW (M10 e0 e1 e6 e7 e8 e9 wp hr1 wr wr) ?_
  have m2:Mod h.next h h2 b (cT cs o d1):=hM.ext hb (u2.ext (ae _))
  refine ab (cZ (λts h2=>∃ (r:Nat) (z:Int),r<N∧Mod h.next h h2 b (cT cs o d1)∧h2.get h.next=some (eM .u64 z)∧aB ts 0=.sl b o d.size c∧aB ts 1=.int .i64 (a:Nat)∧aB ts 6=.int .i64 (N:Nat)∧aB ts 7=.ptr h.next 0∧aB ts 8=.int .u64 (p:Nat)∧aB ts 9=.int .i64 (i:Nat)∧aB ts 10=.int .i64 (r:Nat)) ?_ ?_)
  ·refine ab (ah (M1 e6) ?_)
   refine bg (t:=decide (N≤r)) (Z1 @me) (λq3=>?_) λq3=>?_
   ·have q3:N≤r:=aF q3
    have wd:IntKind.i64.wrap (((r:Nat):Int)-((N:Nat):Int))=((r-N:Nat):Int):=by rw[bE om om]; omega
    refine ah (M2 e6 wd) ?_
    exact⟨r-N,z2,om,m2,u2.get,Z1 e0,Z1 e1,Z1 e6,Z1 e7,Z1 e8,Z1 e9,Z1 wd⟩
   ·have q3:¬ N≤r:=aE q3
    exact aN ⟨r,z2,om,m2,u2.get,Z1 e0,Z1 e1,Z1 e6,Z1 e7,Z1 e8,Z1 e9,Z0⟩
  clear e0 e1 e6 e7 e8 e9 hM hZ u2 m2 hr1 hr2 wr r h2
  rintro ts h2 ⟨r,z,hrN,hM,hZ,e0,e1,e6,e7,e8,e9,e10⟩
  have wa:IntKind.i64.wrap (((a:Nat):Int)+((r:Nat):Int))=((a+r:Nat):Int):=by rw[bE om om]; omega
  have x1:bN ((i:Nat):Int) d.size=some i:=aO om
  have x2:bN ((a+r:Nat):Int) d.size=some (a+r):=aO om
  have r1:=cq (i:=i) hM.get om om
  have r2:=cq (i:=a+r) hM.get om om
  obtain⟨m1,m2,s1,s2,u2⟩:=eX (i:=i) (j:=a+r) hM.get om om om
  refine ah (M12 e0 e1 e9 e10 wa x1 x2 r1 r2 s1 s2 @ai) ?_
  have w5:IntKind.i64.wrap (((i:Nat):Int)+1)=((i+1:Nat):Int):=bE om om
  refine ah (M2 e9 w5) ?_
  exact⟨a+2*L+2-(i+1),om,i+1,swp d1 i (a+r),z,rfl,om,om,permIn_trans _ _ _ a m hP (swp_permIn d1 a m i (a+r) om om om om om),hM.upd u2,by rw[u2.ne om]; exact hZ,Z1 e0,Z1 e1,Z1 e6,Z1 e7,Z1 e8,Z2 e9 w5⟩
 ·exact bM ⟨λ_=>⟨.tup [],rfl,d1,hP,hM⟩,λe=>absurd rfl e⟩
open Go.Am
open Go.Sort (swp ltInt PermIn SortedIn Below permIn_refl permIn_trans insertionSort_holds heapSort_holds partialInsertionSort_holds partition_holds partitionEqual_holds reverseRange_holds swo_ltInt round_eq round_part)
theorem quo8 {n:Nat} (hn:n<2 ^ 62):IntKind.i64.wrap (((n:Nat):Int).tdiv 8)=((n / 8:Nat):Int):=mS (k:=8) hn
set_option maxHeartbeats 2000000 in
theorem BX:∀ (N:Nat) {h:AH}{b o c a m l:Nat}{cs:List AV}{d:Array Int},m-a≤N→h.get b=some (cT cs o d)→o+d.size≤cs.length→a≤m→m≤d.size→d.size<2 ^ 38→l<2 ^ 40→Below ltInt a m d →
 C prg 146 [.sl b o d.size c,.int .i64 (a:Nat),.int .i64 (m:Nat),.int .i64 (l:Nat)] h λv h'=>∃ d',PermIn a m d d'∧SortedIn ltInt a m d'∧Mod h.next h h' b (cT cs o d'):=by
 intro N
 induction N using Nat.strongRecOn with
 | _ N ih =>
 intro h b o c a m l cs d hN hg hr ham hm hs hl hB
 have hb:=AH.lt_of_get hg
 refine HH pf146 ?_
 refine ab (ah (Mi0) ?_)
 refine ab (ah (Mi0) ?_)
 refine aU (cf (λk ts h1=>∃ (p n l1:Nat) (d1:Array Int) (wb wp:Bool),k=n-p∧a≤p∧p≤n∧n≤m∧l1≤l∧Below ltInt p n d1∧Mod h.next h h1 b (cT cs o d1)∧d1.size=d.size∧(∀ R,PermIn p n d1 R→SortedIn ltInt p n R→PermIn a m d R∧SortedIn ltInt a m R)∧aB ts 0=.sl b o d.size c∧aB ts 1=.int .i64 (p:Nat)∧aB ts 2=.int .i64 (n:Nat)∧aB ts 3=.int .i64 (l1:Nat)∧aB ts 8=.bool wb∧aB ts 9=.bool wp) ?_ (n:=m-a)
  ⟨a,m,l,d,true,true,rfl,ae _,ham,ae _,ae _,hB,Mod.refl hg,rfl,λR h1 h2=>⟨h1,h2⟩,Zi0,Zi0,Zi0,Zi0,Zi0,Zi0⟩)
 rintro k ts h1 ⟨p,n,l1,d1,wb,wp,rfl,hap,hpn,hnm,hl1,hB1,hM,hz,hC,e0,e1,e2,e3,e8,e9⟩
 have w0:IntKind.i64.wrap (((n:Nat):Int)-((p:Nat):Int))=((n-p:Nat):Int):=by rw[bE om om]; omega
 refine aU (ab (ah (M3 e1 e2 w0) ?_))
 refine ab (ab (ah (M0) ?_))
 refine bg (t:=decide (n-p≤12)) (by simp only[am,aD,simprocAttr]; exact congrArg AV.bool (by simp only[decide_eq_decide]; omega)) (λq=>?_) λq=>?_
 ·have hins:=Hj (c:=c) (a:=p) (m:=n) hM.get om om om om
  rw[hz] at hins
  refine ab (aX (aP 3 (M3 e0 e1 e2) rfl (Z3 e0 e1 e2) (M3 e0 e1 e2) (hins) λv h2 u=>?_))
  refine aW (M0) ?_
  obtain⟨s1,s2⟩:=insertionSort_holds swo_ltInt d1 p n hpn om
  obtain⟨s3,s4⟩:=hC _ s1 s2
  exact bt ⟨.tup [],rfl,_,s3,s4,hM.upd u⟩
 have q:¬ n-p≤12:=aE q
 refine aN (ab (ab (ah (M1 e3) ?_)))
 refine bg (t:=decide (l1=0)) (by simp only[am,aD,simprocAttr]; exact congrArg AV.bool (by simp only[decide_eq_decide]; omega)) (λq2=>?_) λq2=>?_
 ·have hheap:=FF (c:=c) (a:=p) (m:=n) hM.get om om om om
  rw[hz] at hheap
  refine ab (aX (aP 3 (M3 e0 e1 e2) rfl (Z3 e0 e1 e2) (M3 e0 e1 e2) (hheap) λv h2 u=>?_))
  refine aW (M0) ?_
  obtain⟨s1,s2⟩:=heapSort_holds swo_ltInt d1 p n hpn om
  obtain⟨s3,s4⟩:=hC _ s1 s2
  exact bt ⟨.tup [],rfl,_,s3,s4,hM.upd u⟩
 have q2:¬ l1=0:=aE q2
 refine aN (ab (cZ (λts h2=>∃ (d2:Array Int) (l2:Nat),l2≤l∧PermIn p n d1 d2∧Mod h.next h h2 b (cT cs o d2)∧aB ts 10=.int .i64 ((n-p:Nat):Int)∧aB ts 0=.sl b o d.size c∧aB ts 1=.int .i64 (p:Nat)∧aB ts 2=.int .i64 (n:Nat)∧aB ts 3=.int .i64 (l2:Nat)∧aB ts 8=.bool wb∧aB ts 9=.bool wp) ?_ ?_))
 ·refine ab (ah (M1 e8) ?_)
  refine bg (t:=!wb) (Z0) (λq3=>?_) λq3=>?_
  ·have hbrk:=Hs (c:=c) (a:=p) (m:=n) hM.get om om om om
   rw[hz] at hbrk
   refine ab (aX (aP 3 (M3 e0 e1 e2) rfl (Z3 e0 e1 e2) (M3 e0 e1 e2) (hbrk) λv h2 hq=>?_))
   obtain⟨d2,hp2,hm2⟩:=hq
   refine aW (M0) ?_
   have w1:IntKind.i64.wrap (((l1:Nat):Int)-1)=((l1-1:Nat):Int):=by rw[bE om om]; omega
   refine ah (M2 e3 w1) ?_
   exact⟨d2,l1-1,om,hp2,hM.trans (hm2.mono hM.nx),Z0,Z1 e0,Z1 e1,Z1 e2,Z2 e3 w1,Z1 e8,Z1 e9⟩
  ·exact aN ⟨d1,l1,hl1,permIn_refl _ _ _,hM,Z0,Z1 e0,Z1 e1,Z1 e2,Z1 e3,Z1 e8,Z1 e9⟩
 clear e0 e1 e2 e3 e8 e9 hl1
 rintro ts h2 ⟨d2,l2,hl2,hP2,hM2,e10,e0,e1,e2,e3,e8,e9⟩
 have hz2:d2.size=d.size:=hP2.1.trans hz
 have hpiv:=GW (c:=c) (a:=p) (m:=n) hM2.get om om om om
 rw[hz2] at hpiv
 refine ab (aX (aP 3 (M3 e0 e1 e2) rfl (Z3 e0 e1 e2) (M3 e0 e1 e2) (hpiv) λv h3 hq=>?_))
 obtain⟨r,kk,rfl,hr1,hr2,ex⟩:=hq
 refine aW (M0) ?_
 have hM3:Mod h.next h h3 b (cT cs o d2):=hM2.ext hb (ex.mono hM2.nx)
 refine ab (cZ (λts h3=>∃ (d3:Array Int) (r:Nat) (kk:Int),p≤r∧r<n∧PermIn p n d1 d3∧Mod h.next h h3 b (cT cs o d3)∧aB ts 10=.int .i64 ((n-p:Nat):Int)∧aB ts 11=.int .i64 (r:Nat)∧aB ts 12=.int .i64 kk∧aB ts 0=.sl b o d.size c∧aB ts 1=.int .i64 (p:Nat)∧aB ts 2=.int .i64 (n:Nat)∧aB ts 3=.int .i64 (l2:Nat)∧aB ts 8=.bool wb∧aB ts 9=.bool wp) ?_ ?_)
 ·refine ab (ah (M0) ?_)
  refine bg (t:=decide (kk=2)) (Z0) (λq3=>?_) λq3=>?_
  ·have hrev:=GT (c:=c) (a:=p) (m:=n) hM3.get om om om om
   rw[hz2] at hrev
   refine ab (aX (aP 3 (M3 e0 e1 e2) rfl (Z3 e0 e1 e2) (M3 e0 e1 e2) (hrev) λv h4 u=>?_))
   refine aW (M0) ?_
   have w1:IntKind.i64.wrap (((n:Nat):Int)-1)=((n-1:Nat):Int):=by rw[bE om om]; omega
   have w2:IntKind.i64.wrap (((r:Nat):Int)-((p:Nat):Int))=((r-p:Nat):Int):=by rw[bE om om]; omega
   have w3:IntKind.i64.wrap (((n-1:Nat):Int)-((r-p:Nat):Int))=((n-1-(r-p):Nat):Int):=by rw[bE om om]; omega
   refine ab (ah (M5 e1 e2 w1 w2 w3) ?_)
   refine ah (M0) ?_
   exact⟨_,n-1-(r-p),1,om,om,permIn_trans _ _ _ p n hP2 (reverseRange_holds d2 p n hpn om),hM3.upd u,Z1 e10,Z0,Z0,Z1 e0,Z1 e1,Z1 e2,Z1 e3,Z1 e8,Z1 e9⟩
  ·exact aN ⟨d2,r,kk,hr1,hr2,hP2,hM3,Z1 e10,Z0,Z0,Z1 e0,Z1 e1,Z1 e2,Z1 e3,Z1 e8,Z1 e9⟩
 clear e0 e1 e2 e3 e8 e9 e10 hP2 hM2 hM3 hr1 hr2 ex hpiv hz2
 rintro ts h4 ⟨d3,r,kk,hr1,hr2,hP3,hM3,e10,e11,e12,e0,e1,e2,e3,e8,e9⟩
 have hz3:d3.size=d.size:=hP3.1.trans hz
 have hB3:Below ltInt p n d3:=hB1.perm om hP3
 refine ab (cZ (λts h5=>∃ (d4:Array Int),PermIn p n d1 d4∧Mod h.next h h5 b (cT cs o d4)∧aB ts 10=.int .i64 ((n-p:Nat):Int)∧aB ts 11=.int .i64 (r:Nat)∧aB ts 0=.sl b o d.size c∧aB ts 1=.int .i64 (p:Nat)∧aB ts 2=.int .i64 (n:Nat)∧aB ts 3=.int .i64 (l2:Nat)∧aB ts 8=.bool wb∧aB ts 9=.bool wp) ?_ ?_)
 ·cases wb with
  | false =>
    refine ab (ah (M3 e8 e9 e12) ?_)
    refine cU (Z0) ?_
    exact aN ⟨d3,hP3,hM3,Z1 e10,Z1 e11,Z1 e0,Z1 e1,Z1 e2,Z1 e3,Z1 e8,Z1 e9⟩
  | true =>
  cases wp with
  | false =>
    refine ab (ah (M3 e8 e9 e12) ?_)
    refine cU (Z0) ?_
    exact aN ⟨d3,hP3,hM3,Z1 e10,Z1 e11,Z1 e0,Z1 e1,Z1 e2,Z1 e3,Z1 e8,Z1 e9⟩
  | true =>
    refine ab (ah (M3 e8 e9 e12) ?_)
    refine bg (t:=decide (kk=1)) (Z0) (λq3=>?_) λq3=>?_
    ·have hpins:=Ff (c:=c) (a:=p) (m:=n) hM3.get om om om om
     rw[hz3] at hpins
     refine ab (aX (aP 3 (M3 e0 e1 e2) rfl (Z3 e0 e1 e2) (M3 e0 e1 e2) (hpins) λv h5 hq=>?_))
     obtain⟨rfl,u⟩:=hq
     refine aW (M0) ?_
     obtain⟨s1,s2⟩:=partialInsertionSort_holds swo_ltInt d3 p n om om hB3
     refine bg (t:=(Go.Sort.partialInsertionSort ltInt d3 p n).2) (Z0) (λq4=>?_) λq4=>?_
     ·obtain⟨s3,s4⟩:=hC _ (permIn_trans _ _ _ p n hP3 s1) (s2 q4)
      exact bt ⟨.tup [],rfl,_,s3,s4,hM3.upd u⟩
     ·exact aN ⟨_,permIn_trans _ _ _ p n hP3 s1,hM3.upd u,Z1 e10,Z1 e11,Z1 e0,Z1 e1,Z1 e2,Z1 e3,Z1 e8,Z1 e9⟩
    ·exact aN ⟨d3,hP3,hM3,Z1 e10,Z1 e11,Z1 e0,Z1 e1,Z1 e2,Z1 e3,Z1 e8,Z1 e9⟩
 clear e0 e1 e2 e3 e8 e9 e10 e11 e12 hP3 hM3 hz3 hB3
 rintro ts h5 ⟨d4,hP4,hM4,e10,e11,e0,e1,e2,e3,e8,e9⟩
 have hz4:d4.size=d.size:=hP4.1.trans hz
 have hB4:Below ltInt p n d4:=hB1.perm om hP4
 have hC4:∀ R,PermIn p n d4 R→SortedIn ltInt p n R→PermIn a m d R∧SortedIn ltInt a m R:=λR s1 s2=>hC R (permIn_trans _ _ _ p n hP4 s1) s2
 clear hC hP4 hB1 hM
 refine ab (cZ (λts h6=>h5=h6∧aB ts 10=.int .i64 ((n-p:Nat):Int)∧aB ts 11=.int .i64 (r:Nat)∧aB ts 0=.sl b o d.size c∧aB ts 1=.int .i64 (p:Nat)∧aB ts 2=.int .i64 (n:Nat)∧aB ts 3=.int .i64 (l2:Nat)∧aB ts 8=.bool wb∧aB ts 9=.bool wp) ?_ ?_)
 ·by_cases q3:0<p
  ·have c1:decide ((0:Int)<((p:Nat):Int))=true:=by simp only[aj]; omega
   have w1:IntKind.i64.wrap (((p:Nat):Int)-1)=((p-1:Nat):Int):=by rw[bE om om]; omega
   have x1:bN ((p-1:Nat):Int) d.size=some (p-1):=aO om
   have x2:bN ((r:Nat):Int) d.size=some r:=aO om
   have r1:=cq (i:=p-1) hM4.get om om
   have r2:=cq (i:=r) hM4.get om om
   refine ab (aX (aP 12 (M10 e0 e1 e11 c1 w1 x1 x2 r1 r2 @ai) rfl (Z10 e0 e1 e11 c1 w1 x1 x2 r1 r2 @ai) (M10 e0 e1 e11 c1 w1 x1 x2 r1 r2 @ai) (fk) λv h6 hq=>?_))
   obtain⟨rfl,rfl⟩:=hq
   refine aW (M1 c1) ?_
   refine bg (t:=!ltInt d4[p-1]! d4[r]!) (Z0) (λq4=>?_) λq4=>?_
   ·have q4:ltInt d4[p-1]! d4[r]! = false:=by simpa using q4
    have hpe:=zM (c:=c) (a:=p) (m:=n) (piv:=r) hM4.get om hr1 hr2 om om
    rw[hz4] at hpe
    refine ab (aX (aP 4 (M4 e0 e1 e2 e11) rfl (Z4 e0 e1 e2 e11) (M4 e0 e1 e2 e11) (hpe) λv h7 hq=>?_))
    obtain⟨rfl,u⟩:=hq
    obtain⟨y1,y2,y3,y4,y5⟩:=round_eq swo_ltInt (partitionEqual_holds ltInt) q3 hr1 hr2 om hB4 q4 (Prod.eta (Go.Sort.partitionEqual ltInt d4 p n r)).symm
    refine aW (M0) ?_
    refine ab (ah (M0) ?_)
    exact bM ⟨λ_=>⟨n-(Go.Sort.partitionEqual ltInt d4 p n r).1,om,_,n,l2,_,wb,wp,rfl,om,y2,hnm,hl2,y4,hM4.upd u,by rw[y3,hz4],λR s1 s2=>hC4 R (y5 R s1 s2).1 (y5 R s1 s2).2,Z1 e0,Z0,Z1 e2,Z1 e3,Z1 e8,Z1 e9⟩,λe=>absurd rfl e⟩
   ·exact aN ⟨rfl,Z1 e10,Z1 e11,Z1 e0,Z1 e1,Z1 e2,Z1 e3,Z1 e8,Z1 e9⟩
  ·have c1:decide ((0:Int)<((p:Nat):Int))=false:=by simp only[aR]; omega
   refine ab (aX (dF 12 (M4 e0 e1 e11 c1) rfl (Z1 c1) ?_))
   refine aW (M1 c1) ?_
   exact cU (Z0) (aN ⟨rfl,Z1 e10,Z1 e11,Z1 e0,Z1 e1,Z1 e2,Z1 e3,Z1 e8,Z1 e9⟩)
 clear e0 e1 e2 e3 e8 e9 e10 e11
 rintro ts h6 ⟨rfl,e10,e11,e0,e1,e2,e3,e8,e9⟩
 have hpt:=Fh (c:=c) (a:=p) (m:=n) (piv:=r) hM4.get om hr1 hr2 om om
 rw[hz4] at hpt
 refine ab (aX (aP 4 (M4 e0 e1 e2 e11) rfl (Z4 e0 e1 e2 e11) (M4 e0 e1 e2 e11) (hpt) λv h7 hq=>?_))
 obtain⟨rfl,u⟩:=hq
 obtain⟨y1,y2,y3,y4,y5,y6,y7⟩:=round_part swo_ltInt (partition_holds ltInt) hr1 hr2 om hB4 (show Go.Sort.partition ltInt d4 p n r=((Go.Sort.partition ltInt d4 p n r).1,(Go.Sort.partition ltInt d4 p n r).2.1,(Go.Sort.partition ltInt d4 p n r).2.2) from rfl)
 have hM5:=hM4.upd u
 generalize (Go.Sort.partition ltInt d4 p n r).1=mid at *
 generalize (Go.Sort.partition ltInt d4 p n r).2.1=ap at *
 generalize (Go.Sort.partition ltInt d4 p n r).2.2=d5 at *
 refine aW (M0) ?_
 refine ab (ah (M0) ?_)
 have w1:IntKind.i64.wrap (((mid:Nat):Int)-((p:Nat):Int))=((mid-p:Nat):Int):=by rw[bE om om]; omega
 have w2:IntKind.i64.wrap (((n:Nat):Int)-((mid:Nat):Int))=((n-mid:Nat):Int):=by rw[bE om om]; omega
 have w3:IntKind.i64.wrap (((mid:Nat):Int)+1)=((mid+1:Nat):Int):=bE om om
 refine ab (ah (M4 e1 e2 w1 w2) ?_)
 have z8:¬ (8:Int)=0:=by decide
 have q8:=quo8 (n:=n-p) om
 refine ab (ah (M3 e10 z8 q8) ?_)
 refine ab (ah (M0) ?_)
 have hz5:d5.size=d.size:=y3.trans hz4
 refine bg (t:=decide (mid-p<n-mid)) (Z1 @bi) (λq4=>?_) λq4=>?_
 ·refine ab (ah (M0) ?_)
  have hrec:=@ih (mid-p) om h7 b o c p mid l2 cs d5 om hM5.get om y1 om om om y4
  rw[hz5] at hrec
  refine ab (aX (aP 4 (M3 e0 e1 e3) rfl (Z3 e0 e1 e3) (M3 e0 e1 e3) (hrec) λv h8 hq=>?_))
  obtain⟨L,l1',l2',m8⟩:=hq
  refine aW (M0) ?_
  refine ah (M1 w3) ?_
  obtain⟨y8,y9⟩:=y6 L l1' l2'
  exact⟨n-(mid+1),om,mid+1,n,l2,L,_,ap,rfl,om,om,hnm,hl2,y8,hM5.trans (m8.mono hM5.nx),by rw[l1'.1,hz5],λR s1 s2=>hC4 R (y9 R s1 s2).1 (y9 R s1 s2).2,Z1 e0,Z1 w3,Z1 e2,Z1 e3,(M0),Z0⟩
 ·refine ab (ah (M0) ?_)
  have hrec:=@ih (n-(mid+1)) om h7 b o c (mid+1) n l2 cs d5 om hM5.get om om om om om y5
  rw[hz5] at hrec
  refine ab (aX (aP 5 (M4 e0 e2 e3 w3) rfl (Z4 e0 e2 e3 w3) (M4 e0 e2 e3 w3) (hrec) λv h8 hq=>?_))
  obtain⟨L,l1',l2',m8⟩:=hq
  refine aW (M0) ?_
  refine ah (M0) ?_
  obtain⟨y8,y9⟩:=y7 L l1' l2'
  exact⟨mid-p,om,p,mid,l2,L,_,ap,rfl,om,om,om,hl2,y8,hM5.trans (m8.mono hM5.nx),by rw[l1'.1,hz5],λR s1 s2=>hC4 R (y9 R s1 s2).1 (y9 R s1 s2).2,Z1 e0,Z1 e1,Z0,Z1 e3,(M0),Z0⟩
theorem yf {h:AH}{b o c:Nat}{cs:List AV}{d:Array Int} (hg:h.get b=some (cT cs o d)) (hr:o+d.size≤cs.length) (hs:d.size<2 ^ 38) :
 C prg 99 [.sl b o d.size c] h λv h'=>Mod h.next h h' b (cT cs o (d.toList.mergeSort (λx y=>decide (x≤y))).toArray):=by
 have fin:∀ d',PermIn 0 d.size d d'→SortedIn ltInt 0 d.size d'→d'=(d.toList.mergeSort (λx y=>decide (x≤y))).toArray:=λd' h1 h2=>by
  have e:=Go.Sort.sorted_unique_holds swo_ltInt (λx y h1 h2=>by simp only[ltInt,aR] at h1 h2; omega) d d' h1 h2
  have e2:(λx y=>!ltInt y x)=λx y=>decide (x≤y):=by
   funext x y
   simp only[ltInt]
   by_cases q:x≤y
   ·have:¬ y<x:=om
    simp [q,this]
   ·have:y<x:=om
    simp [q,this]
  rw[e2] at e
  rw[← e]
 refine HH pf99 ?_
 refine ab (ah (Mi0) ?_)
 have wu:IntKind.u64.wrap ((d.size:Nat):Int)=((d.size:Nat):Int):=kw om
 by_cases h0:d.size=0
 ·have e0:((d.size:Nat):Int)=0:=om
  refine aX (aP 4 (Mi2 wu e0) rfl (Zi2 wu e0) (Mi2 wu e0) (nY) λv h1 hq=>?_)
  obtain⟨rfl,rfl⟩:=hq
  have hpd:=BX 0 (c:=c) (a:=0) (m:=d.size) (l:=0) om hg hr (dL _) (ae _) hs (by decide) (.inl rfl)
  refine kU (Zi1 e0) (Mi1 e0) (hpd) λv h2 hq=>?_
  obtain⟨d',s1,s2,s3⟩:=hq
  refine aW (M0) ?_
  exact⟨.tup [],rfl,by rw[← fin d' s1 s2]; exact s3⟩
 ·refine aX (aP 4 (Mi1 wu) rfl (Zi1 wu) (Mi1 wu) (tP (u:=d.size) om om) λv h1 hq=>?_)
  obtain⟨rfl,rfl⟩:=hq
  have hlg:Nat.log2 d.size<38:=(Ej om).2 hs
  have hpd:=BX d.size (c:=c) (a:=0) (m:=d.size) (l:=Nat.log2 d.size+1) om hg hr (dL _) (ae _) hs om (.inl rfl)
  refine kU (Zi0) (Mi0) (hpd) λv h2 hq=>?_
  obtain⟨d',s1,s2,s3⟩:=hq
  refine aW (M0) ?_
  exact⟨.tup [],rfl,by rw[← fin d' s1 s2]; exact s3⟩
open Go.Am Go.Sort
theorem FB {h:AH}:C prg 188 [.nils,.int .i64 0,.int .i64 0] h λ_ h'=>h'=h:=by
 refine HH pf188 ?_
 refine ab (ah (by simp only[am,aD,↓reduceIte,Nat.reduceEqDiff,Int.reduceEq,Nat.reduceAdd,Nat.reduceLeDiff,reduceCtorEq,bL,bE (z:=0+1) (by decide) (by decide)]<;>rfl) ?_)
 refine aU (cf (λn ts h1=>h1=h∧aB ts 2=.int .i64 0∧aB ts 6=.int .i64 (0+1)) ?_ (n:=0) ⟨rfl,Ii0,Ii0⟩)
 rintro n ts h1 ⟨rfl,e2,e6⟩
 refine ab (ab (ah (M2 e2 e6) ?_))
 refine cU (by simp only[am,aD,simprocAttr]; rfl) ?_
 exact bM ⟨λ_=>⟨.tup [],rfl,rfl⟩,λe=>absurd rfl e⟩
theorem Fg {h:AH}{l:Int}:C prg 146 [.nils,.int .i64 0,.int .i64 0,.int .i64 l] h λ_ h'=>h'=h:=by
 refine HH pf146 ?_
 refine ab (ah (Mi0) ?_)
 refine ab (ah (Mi0) ?_)
 refine aU (cf (λn ts h1=>h1=h∧aB ts 0=.nils∧aB ts 1=.int .i64 0∧aB ts 2=.int .i64 0) ?_ (n:=0) ⟨rfl,Zi0,Zi0,Zi0⟩)
 rintro n ts h1 ⟨rfl,e0,e1,e2⟩
 refine aU (ab (ah (by simp only[am,aD,simprocAttr,e1,e2,bE (z:=0-0) (by decide) (by decide)]<;>rfl) ?_))
 refine ab (ab (ah (M0) ?_))
 refine dv (by simp only[am,aD,simprocAttr]; rfl) ?_
 refine ab (aX (aP 3 (M3 e0 e1 e2) rfl (Z3 e0 e1 e2) (M3 e0 e1 e2) (FB) λv h2 u=>?_))
 subst u
 refine aW (M0) ?_
 exact bt ⟨.tup [],rfl,rfl⟩
theorem Bf {h:AH}:C prg 99 [.nils] h λ_ h'=>h'=h:=by
 refine HH pf99 ?_
 refine ab (ah (Mi1 @mB) ?_)
 have wu:IntKind.u64.wrap 0=0:=by decide
 refine aX (aP 4 (Mi1 wu) rfl (Zi1 wu) (Mi1 wu) (nY) λv h1 hq=>?_)
 obtain⟨rfl,rfl⟩:=hq
 refine kU (Zi0) (Mi0) (Fg) λv h2 hq=>?_
 subst hq
 refine aW (M0) ?_
 exact⟨.tup [],rfl,rfl⟩
theorem yW {h:AH}{v:AV} (hv:v.cells=[v]):C prg 150 [v] h λr h'=>r=.fn 196 [.ptr h.next 0]∧h'=h.new (.cells [v] 1 false):=by
 refine HH pf150 ?_
 refine ab (ah (Mi1 hv) ?_)
 refine ab (ah (M0) ?_)
 exact bt ⟨_,(by simp only[rs,rf150,am,aD,simprocAttr]<;>rfl),rfl,rfl⟩
theorem ww {h:AH}{lb L:Nat}{v:AV}{xs:List Int} (J:Nat→AH→Prop) (hJ:∀ i h,J i h→ar h lb 0 1=some [v]∧SlI h v xs) (hl:xs.length<2 ^ 40)
 (hY:∀ i (hi:i<xs.length) h,J i h→Y prg L [.int .i64 xs[i]] h λr h'=>r=.bool true∧J (i+1) h') (h0:J 0 h) :
 C prg 196 [.yld L,.ptr lb 0] h λ_ h'=>J xs.length h':=by
 refine HH pf196 ?_
 obtain⟨r0,s0⟩:=hJ 0 h h0
 have e1:=s0.len
 rw[au] at e1
 refine ab (ah (Mi2 r0 e1) ?_)
 refine hU (α:=Unit) (N:=xs.length) (λ_ _=>[(0,.yld L),(5,v)]) (λk _ h1=>J k h1) () (λ_ _=>rfl) om (Oi0) h0 ?_ ?_
 ·rintro k _ ts h1 hk hj ⟨ei,en,e0,e5,-⟩
  simp only at ei en e0 e5
  obtain⟨b1,p1,a1,r1,_⟩:=(hJ k h1 hj).2.at1 (cF (f:=eI) hk)
  refine ab (ah (M4 e5 ei a1 r1) ?_)
  refine ab (aX (G.gyield 2 (M1 e0) rfl (Z1 e0) (M1 e0) (M1 e0) (hY k hk h1 hj) λr h2 hq=>?_))
  obtain⟨rfl,hj2⟩:=hq
  refine aW (M0) ?_
  refine cU (Z0) ?_
  exact aN ⟨(),hj2,O4 ei en e0 e5⟩
 ·rintro _ ts h1 hj _
  exact⟨.tup [],rfl,hj⟩
theorem AR {h:AH}{lb:Nat}{v:AV}{xs:List Int} (hr:ar h lb 0 1=some [v]) (hv:SlI h v xs) (hb:lb<h.next) (hl:xs.length<2 ^ 34) :
 C prg 169 [.nils,.fn 196 [.ptr lb 0]] h λr h'=>IsSl h' 1 h.next r (xs.flatMap eI)∧Ext h.next h h':=by
 refine HH pf169 ?_
 refine ab (ah (Mi0) ?_)
 have g0:(h.new (.cells [.nils] 1 false)).get h.next=some (.cells [.nils] 1 false):=by rw[AH.get_new,if_pos rfl]
 have x0:Ext h.next h (h.new (.cells [.nils] 1 false)):=HD (ae _)
 have n0:(h.new (.cells [.nils] 1 false)).next=h.next+1:=rfl
 generalize h.new (.cells [.nils] 1 false)=h0 at *
 refine ab (ab (fJ (λts h1=>h1=h0∧aB ts 2=.ptr h.next 0∧aB ts 6=.fn 196 [.ptr lb 0]) (by simp only[am,aD,simprocAttr,bL]) λts h1 hq=>?_))
 obtain⟨rfl,e2,e6⟩:=hq
 refine aU (W.rangeF (Q:=λ_ h'=>h'.get h1.next=some (.lp 169 [true,false,true,false] ts [7] .ready none)∧(∃ s,h'.get h.next=some (.cells [s] 1 false)∧IsSl h' 1 (h.next+2) s (xs.flatMap eI))∧Ext h.next h h'∧h.next+2≤h'.next) (by simp only[am,aD,simprocAttr,e6]; rfl) ?_ ?_)
 ·refine (ww (xs:=xs) (v:=v) (λi h'=>h'.get h1.next=some (.lp 169 [true,false,true,false] ts [7] .ready none)∧(∃ s,h'.get h.next=some (.cells [s] 1 false)∧IsSl h' 1 (h.next+2) s ((xs.take i).flatMap eI))∧Ext h.next h h'∧h.next+2≤h'.next) ?_ om ?_ ?_).mono λr h' q=>by simpa using q
  ·rintro i h' ⟨_,_,hx,_⟩
   exact⟨by rw[← hr]; exact cy (hx.gt _ hb),hv.ext hx (ae _)⟩
  ·rintro i hi h' ⟨hL,⟨s,hs,hsl⟩,hx,hn⟩
   refine Y.round hL rfl pf169 rfl ?_
   refine ah (by simp only[am,aD,simprocAttr,jI]<;>rfl) ?_
   refine⟨rfl,?_⟩
   have uB:=HF (o:=.lp 169 [true,false,true,false] ts [7] .busy none) hL
   generalize h'.put h1.next (.lp 169 [true,false,true,false] ts [7] .busy none)=hb at *
   have hsl':IsSl hb 1 (h.next+2) s ((xs.take i).flatMap eI):=hsl.upd uB om
   have gs:hb.get h.next=some (.cells [s] 1 false):=by rw[uB.ne om]; exact hs
   have rs:ar hb h.next 0 1=some [s]:=by rw[aS gs]; rfl
   have hlen:((xs.take i).flatMap eI).length=i:=by
    rw[dS (f:=eI) (e:=1) (λ_=>rfl),aZ]; omega
   obtain⟨s',h2,a1,i1,x1,n1⟩:=hsl'.push (bytes:=8) (eI xs[i]) (by rw[uB.nx]; omega) om rfl rfl (by rw[hlen]; unfold bd; omega) (by rw[hlen]; unfold bd; omega)
   rw[show eI xs[i]=[.int .i64 xs[i]] from rfl] at a1 i1
   have gs2:h2.get h.next=some (.cells [s] 1 false):=by rw[x1.gt _ om]; exact gs
   obtain⟨sc,so⟩:=i1.cells
   have w1:bV h2 h.next 0 [s']=some (h2.put h.next (.cells [s'] 1 false)):=by rw[dI gs2]; rfl
   have uS:=HF (o:=.cells [s'] 1 false) gs2
   refine aU ?_
   refine ah (by simp only[am,aD,simprocAttr,e2,rs,a1,sc,so,w1]<;>rfl) ?_
   have gL:(h2.put h.next (.cells [s'] 1 false)).get h1.next=some (.lp 169 [true,false,true,false] ts [7] .busy none):=by rw[uS.ne om,x1.gt _ om,uB.get]
   have uR:=HF (o:=.lp 169 [true,false,true,false] ts [7] .ready none) gL
   refine⟨gL,rfl,uR.get,⟨s',by rw[uR.ne om]; exact uS.get,?_⟩,?_,?_⟩
   ·have e:(xs.take (i+1)).flatMap eI=(xs.take i).flatMap eI++[.int .i64 xs[i]]:=by
     rw[aK hi,bQ]; rfl
    rw[e]
    exact (i1.upd uS om).upd uR om
   ·exact hx.trans ((uB.ext om).trans ((x1.mono om).trans ((uS.ext (ae _)).trans (uR.ext om))))
   ·rw[uR.nx,uS.nx]
    have:=uB.nx
    omega
  ·have gN:(h1.new (.lp 169 [true,false,true,false] ts [7] .ready none)).get h1.next=some (.lp 169 [true,false,true,false] ts [7] .ready none):=by rw[AH.get_new,if_pos rfl]
   refine⟨gN,⟨.nils,?_,.inl ⟨rfl,rfl⟩⟩,x0.trans (HD om),by rw[AH.next_new]; omega⟩
   rw[AH.get_new,if_neg om]
   exact g0
 ·rintro _ h' ⟨hL,⟨s,hs,hsl⟩,hx,hn⟩
  refine⟨⟨_,_,_,_,hL⟩,λf1 p1 t1 q1=>?_⟩
  have uO:=HF (o:=.lp f1 p1 t1 q1 .over none) hL
  have rs:ar (h'.put h1.next (.lp f1 p1 t1 q1 .over none)) h.next 0 1=some [s]:=by rw[aS (by rw[uO.ne om]; exact hs)]; rfl
  refine ab (ah (by simp only[am,aD,simprocAttr,e2,rs]<;>rfl) ?_)
  exact bt ⟨s,(by simp only[Am.results,iC,lu,rf169,am,aD,↓reduceIte,Nat.reduceEqDiff,Int.reduceEq,Nat.reduceAdd,Nat.reduceLeDiff,reduceCtorEq]<;>rfl),(hsl.upd uO om).mono om,hx.trans (uO.ext om)⟩
theorem jU:∀ xs:List Int,xs.flatMap eI=gc xs.toArray
 | []=>rfl
 | x::r=>by
   have:=jU r
   unfold gc at *
   rw[iu] at *
   rw[eP,this]
   rfl
def kW (xs:List Int):List Int:=xs.mergeSort (λx y=>decide (x≤y))
theorem iL (xs:List Int):(kW xs).length=xs.length:=List.length_mergeSort _
theorem zd {h:AH}{lb:Nat}{v:AV}{xs:List Int} (hr:ar h lb 0 1=some [v]) (hv:SlI h v xs) (hb:lb<h.next) (hl:xs.length<2 ^ 34) :
 C prg 80 [.fn 196 [.ptr lb 0]] h λr h'=>IsSl h' 1 h.next r ((kW xs).flatMap eI)∧Ext h.next h h':=by
 have hcol:C prg 134 [.fn 196 [.ptr lb 0]] h λr h'=>IsSl h' 1 h.next r (xs.flatMap eI)∧Ext h.next h h':=by
  refine HH pf134 ?_
  refine ab (ah (Mi0) ?_)
  refine ab (aX (aP 1 (Mi0) rfl (Zi0) (Mi0) (AR hr hv hb hl) λr h2 hq=>?_))
  refine aW (M0) ?_
  exact bt ⟨r,(by simp only[rs,rf134,am,aD,simprocAttr]<;>rfl),hq⟩
 refine HH pf80 ?_
 refine ab (ah (Mi0) ?_)
 refine ab (aX (aP 1 (Mi0) rfl (Zi0) (Mi0) (hcol) λr h2 hq=>?_))
 obtain⟨i1,x1⟩:=hq
 refine aW (M0) ?_
 rcases i1 with ⟨rfl,hz⟩|⟨b,n,hbn,rfl,hg,hln⟩
 ·have:xs=[]:=by
   cases xs with
   | nil=>rfl
   | cons x r=>simp [eI] at hz
  subst this
  refine ab (aX (aP 1 (M0) rfl (Z0) (M0) (Bf) λv h3 hq=>?_))
  subst hq
  refine aW (M0) ?_
  refine ab (ah (M0) ?_)
  exact bt ⟨.nils,(by simp only[rs,rf80,am,aD,simprocAttr]<;>rfl),.inl ⟨rfl,by simp [kW]⟩,x1⟩
 ·have hn:n=xs.length:=by rw[dS (f:=eI) (e:=1) (λ_=>rfl)] at hln; omega
  subst hn
  have e1:xs.flatMap eI=gc xs.toArray:=jU xs
  have hg':h2.get b=some (cT (xs.flatMap eI) 0 xs.toArray):=by
   rw[hg]
   unfold cT
   rw[e1]
   congr 2
   exact (jt (by simp) (by rw[cM,bp])).symm
  have hs:=yf (c:=xs.length) hg' (by rw[cx,hln]; omega) (by rw[cx]; omega)
  rw[cx] at hs
  refine ab (aX (aP 1 (M0) rfl (Z0) (M0) (hs) λv h3 hq=>?_))
  refine aW (M0) ?_
  refine ab (ah (M0) ?_)
  refine bt ⟨_,(by simp only[rs,rf80,am,aD,simprocAttr]<;>rfl),.inr ⟨b,xs.length,hbn,rfl,?_,?_⟩,x1.trans ((hq.mono x1.nx).toExt hbn)⟩
  ·rw[hq.get]
   unfold cT
   have e2:gc (kW xs).toArray=(kW xs).flatMap eI:=(jU _).symm
   rw[show (xs.toArray.toList.mergeSort λx y=>decide (x≤y))=kW xs from rfl,e2]
   simp only[cW,gV,df,bO]
   rw[dS (f:=eI) (e:=1) (λ_=>rfl),iL,du (by rw[hln]; omega),bU]
  ·rw[dS (f:=eI) (e:=1) (λ_=>rfl),iL]
end Go.Proofs.YtahepnbflofndaaGreatDoor
