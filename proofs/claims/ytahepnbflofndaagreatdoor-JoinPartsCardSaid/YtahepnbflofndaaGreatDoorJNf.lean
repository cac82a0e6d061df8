/- slices.SortFunc -/
import Derived.Test.YtahepnbflofndaaGreatDoorJNe
set_option linter.all false
namespace Go.Proofs.YtahepnbflofndaaGreatDoor
open Go.Am
open Go.Sort (swp ltInt scanSorted shiftDown shiftUp partialIns partialInsertionSort fixDown fixUp partialIns_succ)
theorem DC {enc:Int→AV}{κ:Int→Int}{f:FuncId}{caps:List AV}{h:AH}{b o c a m:Nat}{cs:List AV}{d:Array Int} (hc:Cm enc κ f caps b h) (hg:h.get b=some (dA enc cs o d)) (hr:o+d.size≤cs.length) (ham:a<m) (hm:m≤d.size) (hs:d.size<2 ^ 40) :
 C prg 183 [.sl b o d.size c,.int .i64 (a:Nat),.int .i64 (m:Nat),.fn f caps] h λv h'=>v=.bool (partialInsertionSort (ltK κ) d a m).2∧Upd h h' b (dA enc cs o (partialInsertionSort (ltK κ) d a m).1):=by
 refine HH pf183 ?_
 refine ab (ah (Mi0) ?_)
 have w0:IntKind.i64.wrap (((a:Nat):Int)+1)=((a+1:Nat):Int):=bE om om
 refine ab (ah (Mi1 w0) ?_)
 refine ab (ab (ah (Mi0) ?_))
 refine aU (cf (λn ts h1=>∃ s i d1,s=n∧s≤5∧a+1≤i∧i≤m∧Upd h h1 b (dA enc cs o d1)∧d1.size=d.size∧partialIns (ltK κ) a m s i d1=partialInsertionSort (ltK κ) d a m∧(aB ts 0=.sl b o d.size c∧aB ts 3=.fn f caps)∧aB ts 1=.int .i64 (a:Nat)∧aB ts 2=.int .i64 (m:Nat)∧aB ts 10=.int .i64 ((5-s:Nat):Int)∧aB ts 9=.int .i64 (i:Nat)) ?_ (n:=5) ⟨5,a+1,d,rfl,om,om,om,HG hg,rfl,rfl,Ii0,Ii0,Ii0,Ji0,Ii1 w0⟩)
 rintro n ts h1 ⟨s,i,d1,rfl,hs5,hai,him,hu,hz,hD,e0,e1,e2,e8,e7⟩
 refine ab (ab (ah (M1 e8) ?_))
 refine bg (t:=decide (0<s)) (by simp only[am,aD,simprocAttr]; exact congrArg AV.bool (by simp only[decide_eq_decide]; omega)) (λq=>?_) λq=>?_
 ·have q:0<s:=aF q
  obtain⟨s,rfl⟩:∃ k,s=k+1:=⟨s-1,om⟩
  refine aN (ab (aU (ab (cZ (λts h2=>h1=h2∧(aB ts 0=.sl b o d.size c∧aB ts 3=.fn f caps)∧aB ts 1=.int .i64 (a:Nat)∧aB ts 2=.int .i64 (m:Nat)∧aB ts 10=.int .i64 ((5-(s+1):Nat):Int)∧aB ts 9=.int .i64 ((scanSorted (ltK κ) d1 m i:Nat):Int))
   (aU (cf (λn ts h2=>h2=h1∧∃ k,n=m-k∧i≤k∧k≤m∧scanSorted (ltK κ) d1 m k=scanSorted (ltK κ) d1 m i∧(aB ts 0=.sl b o d.size c∧aB ts 3=.fn f caps)∧aB ts 1=.int .i64 (a:Nat)∧aB ts 2=.int .i64 (m:Nat)∧aB ts 10=.int .i64 ((5-(s+1):Nat):Int)∧aB ts 9=.int .i64 (k:Nat)) ?_ (n:=m-i) ⟨rfl,i,rfl,om,om,rfl,Z1 e0,Z1 e1,Z1 e2,Z1 e8,Z1 e7⟩)) ?_))))
  ·clear e0 e1 e2 e7 e8
   rintro n ts h2 ⟨rfl,k,rfl,hk,hk2,hS,e0,e1,e2,e8,e7⟩
   have w4:IntKind.i64.wrap (((k:Nat):Int)-1)=((k-1:Nat):Int):=by rw[bE om om]; omega
   by_cases q:k<m
   ·have c1:decide (((k:Nat):Int)<((m:Nat):Int))=true:=by simp only[aj]; omega
    have x1:bN ((k:Nat):Int) d.size=some (k):=aO om
    have x2:bN ((k-1:Nat):Int) d.size=some (k-1):=aO om
    have r1:=rdE (i:=k) hu.get om om
    have r2:=rdE (i:=k-1) hu.get om om
    refine ab (ab (aX (dT 14 (M10 e0 e2 e7 c1 w4 x1 x2 r1 r2 @ai) rfl (Z10 e0 e2 e7 c1 w4 x1 x2 r1 r2 @ai) (M10 e0 e2 e7 c1 w4 x1 x2 r1 r2 @ai) (M10 e0 e2 e7 c1 w4 x1 x2 r1 r2 @ai) ((hc.u hu).at) λv h3 hq=>?_)))
    obtain⟨rfl,rfl⟩:=hq
    refine aW (M2 hc.lk c1) ?_
    refine bg (t:=!(ltK κ) d1[k]! d1[k-1]!) (Z0) (λq2=>?_) λq2=>?_
    ·have w1:IntKind.i64.wrap (((k:Nat):Int)+1)=((k+1:Nat):Int):=bE om om
     refine aN (aU (ah (M2 e7 w1) ?_))
     refine⟨m-(k+1),om,rfl,k+1,rfl,om,om,?_,Z1 e0,Z1 e1,Z1 e2,Z1 e8,Z2 e7 w1⟩
     rw[← hS]
     conv=>rhs; rw[scanSorted,if_pos (by simp only[aq,aj]; exact⟨q,q2⟩)]
    ·refine bM ⟨λ_=>⟨rfl,Z1 e0,Z1 e1,Z1 e2,Z1 e8,?_⟩,λe=>absurd rfl e⟩
     rw[← hS,scanSorted,if_neg (by simp only[aq,aj]; rintro⟨_,x⟩; exact absurd (q2.symm.trans x) (by decide))]
     simp only[am,aD,simprocAttr,e7]
   ·have c1:decide (((k:Nat):Int)<((m:Nat):Int))=false:=by simp only[aR]; omega
    refine ab (ab (aX (fh 14 (M3 e2 e7 c1) rfl (Z1 c1) ?_)))
    refine aW (M1 c1) ?_
    refine cU (Z0) (bM ⟨λ_=>⟨rfl,Z1 e0,Z1 e1,Z1 e2,Z1 e8,?_⟩,λe=>absurd rfl e⟩)
    rw[← hS,scanSorted,if_neg (by simp only[aq,aj]; rintro⟨x,_⟩; exact q x)]
    simp only[am,aD,simprocAttr,e7]
  clear e0 e1 e2 e7 e8
  rintro ts h2 ⟨rfl,e0,e1,e2,e8,e7⟩
  rw[partialIns_succ] at hD
  have hsc:=oJ (lt:=ltK κ) d1 m _ i rfl him
  generalize hi2:scanSorted (ltK κ) d1 m i=i2 at *
  have hai2:a+1≤i2:=om
  have him2:=hsc.2
  clear hsc hi2 hai him
  rename_i i0
  clear i0
  obtain⟨i,rfl⟩:∃ i,i=i2:=⟨i2,rfl⟩
  have hai:=hai2
  have him:=him2
  clear hai2 him2
  refine ab (ab (ah (M2 e7 e2) ?_))
  refine bg (t:=decide (i=m)) (by simp only[am,aD,simprocAttr]; exact congrArg AV.bool (by simp only[decide_eq_decide]; omega)) (λq=>?_) λq=>?_
  ·have q:i=m:=aF q
   rw[if_pos q] at hD
   refine ab (ah (M0) ?_)
   exact bt ⟨.bool true,(by simp only[rs,rf183,am,aD,simprocAttr]<;>rfl),by rw[← hD],by rw[← hD]; exact hu⟩
  have q:¬ i=m:=aE q
  rw[if_neg q] at hD
  have w5:IntKind.i64.wrap (((m:Nat):Int)-((a:Nat):Int))=((m-a:Nat):Int):=by rw[bE om om]; omega
  refine aN (ab (ab (ah (M3 e1 e2 w5) ?_)))
  refine bg (t:=decide (m-a<50)) (by simp only[am,aD,simprocAttr]; exact congrArg AV.bool (by simp only[decide_eq_decide]; omega)) (λq2=>?_) λq2=>?_
  ·have q2:m-a<50:=aF q2
   rw[if_pos q2] at hD
   refine ab (ah (M0) ?_)
   exact bt ⟨.bool false,(by simp only[rs,rf183,am,aD,simprocAttr]<;>rfl),by rw[← hD],by rw[← hD]; exact hu⟩
  have q2:¬ m-a<50:=aE q2
  rw[if_neg q2] at hD
  have w4:IntKind.i64.wrap (((i:Nat):Int)-1)=((i-1:Nat):Int):=by rw[bE om om]; omega
  have x1:bN ((i:Nat):Int) d.size=some (i):=aO om
  have x2:bN ((i-1:Nat):Int) d.size=some (i-1):=aO om
  have r1:=rdE (i:=i) hu.get om om
  have r2:=rdE (i:=i-1) hu.get om om
  obtain⟨m1,m2,s1,s2,u2⟩:=mt (i:=i) (j:=i-1) hu.get om om om
  refine aN (ab (ah (M12 e0 e7 w4 x1 x2 r1 r2 s1 s2 hc.ec hc.eo @ai) ?_))
  have hu3:=hu.trans u2
  have hz3:(swp d1 i (i-1)).size=d.size:=by rw[cA,hz]
  clear u2 s1 s2 r1 r2 x1 x2 hu hz hg
  generalize swp d1 i (i-1)=d3 at *
  refine ab (cZ (λts h2=>∃ h3 d2,Upd h h3 b (dA enc cs o d2)∧d2.size=d.size∧fixDown (ltK κ) a i d3=d2∧h2=h3∧(aB ts 0=.sl b o d.size c∧aB ts 3=.fn f caps)∧aB ts 1=.int .i64 (a:Nat)∧aB ts 2=.int .i64 (m:Nat)∧aB ts 10=.int .i64 ((5-(s+1):Nat):Int)∧aB ts 9=.int .i64 (i:Nat)) ?_ ?_)
  ·have w5:IntKind.i64.wrap (((i:Nat):Int)-((a:Nat):Int))=((i-a:Nat):Int):=by rw[bE om om]; omega
   refine ab (ah (M3 e1 e7 w5) ?_)
   refine bg (t:=decide (2≤i-a)) (by simp only[am,aD,simprocAttr]; exact congrArg AV.bool (by simp only[decide_eq_decide]; omega)) (λq=>?_) λq=>?_
   ·have q:2≤i-a:=aF q
    rw[show fixDown (ltK κ) a i d3=shiftDown (ltK κ) (i-1) d3 from if_pos q]
    have w3:=w4
    refine ab (ah (M2 e7 w3) ?_)
    refine aU (cf (λn ts h2=>∃ j d2,j=n∧j<m∧Upd h h2 b (dA enc cs o d2)∧d2.size=d.size∧shiftDown (ltK κ) j d2=shiftDown (ltK κ) (i-1) d3∧(aB ts 0=.sl b o d.size c∧aB ts 3=.fn f caps)∧aB ts 1=.int .i64 (a:Nat)∧aB ts 2=.int .i64 (m:Nat)∧aB ts 10=.int .i64 ((5-(s+1):Nat):Int)∧aB ts 9=.int .i64 (i:Nat)∧aB ts 11=.int .i64 (j:Nat)) ?_ (n:=i-1) ⟨i-1,d3,rfl,om,hu3,hz3,rfl,Z1 e0,Z1 e1,Z1 e2,Z1 e8,Z1 e7,Z2 e7 w3⟩)
    clear e0 e1 e2 e7 e8
    rintro n ts h2 ⟨j,d2,rfl,hj,hu2,hz2,hD2,e0,e1,e2,e8,e7,e9⟩
    refine ab (ab (ah (M2 e9 e2) ?_))
    refine bg (t:=decide (1≤j)) (by simp only[am,aD,simprocAttr]; exact congrArg AV.bool (by simp only[decide_eq_decide]; omega)) (λq=>?_) λq=>?_
    ·have q:1≤j:=aF q
     obtain⟨j,rfl⟩:∃ k,j=k+1:=⟨j-1,om⟩
     have w4:IntKind.i64.wrap (((j+1:Nat):Int)-1)=((j:Nat):Int):=by rw[bE om om]; omega
     have x1:bN ((j+1:Nat):Int) d.size=some (j+1):=aO om
     have x2:bN ((j:Nat):Int) d.size=some (j):=aO om
     have r1:=rdE (i:=j+1) hu2.get om om
     have r2:=rdE (i:=j) hu2.get om om
     refine aN (ab (aU (ab (ab (aX (dT 10 (M8 e0 e9 w4 x1 x2 r1 r2 @ai) rfl (Z8 e0 e9 w4 x1 x2 r1 r2 @ai) (M8 e0 e9 w4 x1 x2 r1 r2 @ai) (M8 e0 e9 w4 x1 x2 r1 r2 @ai) ((hc.u hu2).at) λv h3 hq=>?_))))))
     obtain⟨rfl,rfl⟩:=hq
     refine aW (M1 hc.lk) ?_
     refine bg (t:=!(ltK κ) d2[j+1]! d2[j]!) (Z0) (λq2=>?_) λq2=>?_
     ·have q2:(ltK κ) d2[j+1]! d2[j]! = false:=by simpa using q2
      refine bM ⟨λe=>absurd e (by decide),λ_=>⟨λ_=>?_,λe=>absurd rfl e⟩⟩
      refine⟨h3,d2,hu2,hz2,?_,rfl,Z1 e0,Z1 e1,Z1 e2,Z1 e8,Z1 e7⟩
      rw[← hD2,shiftDown,if_pos (by rw[q2]; rfl)]
     ·have q2:(ltK κ) d2[j+1]! d2[j]! = true:=by simpa using q2
      obtain⟨m1,m2,s1,s2,u2⟩:=mt (i:=j+1) (j:=j) hu2.get om om om
      refine aN (ah (M12 e0 e9 w4 x1 x2 r1 r2 s1 s2 hc.ec hc.eo @ai) ?_)
      refine ah (M2 e9 w4) ?_
      refine⟨j,om,j,swp d2 (j+1) j,rfl,om,hu2.trans u2,by rw[cA,hz2],?_,Z1 e0,Z1 e1,Z1 e2,Z1 e8,Z1 e7,Z2 e9 w4⟩
      rw[← hD2]
      conv=>rhs; rw[shiftDown,if_neg (by rw[q2]; decide)]
    ·have q:¬ 1≤j:=aE q
     refine bM ⟨λ_=>?_,λe=>absurd rfl e⟩
     refine⟨h2,d2,hu2,hz2,?_,rfl,I1 e0,I1 e1,I1 e2,I1 e8,I1 e7⟩
     obtain rfl:j=0:=om
     rw[← hD2]
     rfl
   ·have q:¬ 2≤i-a:=aE q
    exact aN ⟨m2,d3,hu3,hz3,if_neg q,rfl,Z1 e0,Z1 e1,Z1 e2,Z1 e8,Z1 e7⟩
  clear e0 e1 e2 e7 e8
  rintro ts h1 ⟨h3,d4,hu4,hz4,hF,rfl,e0,e1,e2,e8,e7⟩
  rw[hF] at hD
  clear hF hu3 hz3
  refine cZ (λts h2=>∃ h3 d2,Upd h h3 b (dA enc cs o d2)∧d2.size=d.size∧fixUp (ltK κ) m i d4=d2∧h2=h3∧(aB ts 0=.sl b o d.size c∧aB ts 3=.fn f caps)∧aB ts 1=.int .i64 (a:Nat)∧aB ts 2=.int .i64 (m:Nat)∧aB ts 10=.int .i64 ((5-(s+1):Nat):Int)∧aB ts 9=.int .i64 (i:Nat)) ?_ ?_
  ·have w5:IntKind.i64.wrap (((m:Nat):Int)-((i:Nat):Int))=((m-i:Nat):Int):=by rw[bE om om]; omega
   refine ab (ah (M3 e2 e7 w5) ?_)
   refine bg (t:=decide (2≤m-i)) (by simp only[am,aD,simprocAttr]; exact congrArg AV.bool (by simp only[decide_eq_decide]; omega)) (λq=>?_) λq=>?_
   ·have q:2≤m-i:=aF q
    rw[show fixUp (ltK κ) m i d4=shiftUp (ltK κ) m (i+1) d4 from if_pos q]
    have w3:IntKind.i64.wrap (((i:Nat):Int)+1)=((i+1:Nat):Int):=bE om om
    refine ab (ah (M2 e7 w3) ?_)
    refine aU (cf (λn ts h2=>∃ j d2,n=m-j∧i+1≤j∧Upd h h2 b (dA enc cs o d2)∧d2.size=d.size∧shiftUp (ltK κ) m j d2=shiftUp (ltK κ) m (i+1) d4∧(aB ts 0=.sl b o d.size c∧aB ts 3=.fn f caps)∧aB ts 1=.int .i64 (a:Nat)∧aB ts 2=.int .i64 (m:Nat)∧aB ts 10=.int .i64 ((5-(s+1):Nat):Int)∧aB ts 9=.int .i64 (i:Nat)∧aB ts 12=.int .i64 (j:Nat)) ?_ (n:=m-(i+1)) ⟨i+1,d4,rfl,om,hu4,hz4,rfl,Z1 e0,Z1 e1,Z1 e2,Z1 e8,Z1 e7,Z2 e7 w3⟩)
    clear e0 e1 e2 e7 e8
    rintro n ts h2 ⟨j,d2,rfl,hj,hu2,hz2,hD2,e0,e1,e2,e8,e7,e9⟩
    refine ab (ab (ah (M2 e9 e2) ?_))
    refine bg (t:=decide (j<m)) (by simp only[am,aD,simprocAttr]; exact congrArg AV.bool (by simp only[decide_eq_decide]; omega)) (λq=>?_) λq=>?_
    ·have q:j<m:=aF q
     have w4:IntKind.i64.wrap (((j:Nat):Int)-1)=((j-1:Nat):Int):=by rw[bE om om]; omega
     have x1:bN ((j:Nat):Int) d.size=some (j):=aO om
     have x2:bN ((j-1:Nat):Int) d.size=some (j-1):=aO om
     have r1:=rdE (i:=j) hu2.get om om
     have r2:=rdE (i:=j-1) hu2.get om om
     refine aN (ab (aU (ab (ab (aX (dT 10 (M8 e0 e9 w4 x1 x2 r1 r2 @ai) rfl (Z8 e0 e9 w4 x1 x2 r1 r2 @ai) (M8 e0 e9 w4 x1 x2 r1 r2 @ai) (M8 e0 e9 w4 x1 x2 r1 r2 @ai) ((hc.u hu2).at) λv h3 hq=>?_))))))
     obtain⟨rfl,rfl⟩:=hq
     refine aW (M1 hc.lk) ?_
     refine bg (t:=!(ltK κ) d2[j]! d2[j-1]!) (Z0) (λq2=>?_) λq2=>?_
     ·have q2:(ltK κ) d2[j]! d2[j-1]! = false:=by simpa using q2
      refine bM ⟨λe=>absurd e (by decide),λ_=>⟨λ_=>?_,λe=>absurd rfl e⟩⟩
      refine⟨h3,d2,hu2,hz2,?_,rfl,Z1 e0,Z1 e1,Z1 e2,Z1 e8,Z1 e7⟩
      rw[← hD2,shiftUp,if_pos q,if_pos (by rw[q2]; rfl)]
     ·have q2:(ltK κ) d2[j]! d2[j-1]! = true:=by simpa using q2
      obtain⟨m1,m2,s1,s2,u2⟩:=mt (i:=j) (j:=j-1) hu2.get om om om
      refine aN (ah (M12 e0 e9 w4 x1 x2 r1 r2 s1 s2 hc.ec hc.eo @ai) ?_)
      have w5:IntKind.i64.wrap (((j:Nat):Int)+1)=((j+1:Nat):Int):=bE om om
      refine ah (M2 e9 w5) ?_
      refine⟨m-(j+1),om,j+1,swp d2 j (j-1),rfl,om,hu2.trans u2,by rw[cA,hz2],?_,Z1 e0,Z1 e1,Z1 e2,Z1 e8,Z1 e7,Z2 e9 w5⟩
      rw[← hD2]
      conv=>rhs; rw[shiftUp,if_pos q,if_neg (by rw[q2]; decide)]
    ·have q:¬ j<m:=aE q
     refine bM ⟨λ_=>?_,λe=>absurd rfl e⟩
     refine⟨h2,d2,hu2,hz2,?_,rfl,I1 e0,I1 e1,I1 e2,I1 e8,I1 e7⟩
     rw[← hD2,shiftUp,if_neg q]
   ·have q:¬ 2≤m-i:=aE q
    exact aN ⟨_,d4,hu4,hz4,if_neg q,rfl,I1 e0,I1 e1,I1 e2,I1 e8,I1 e7⟩
  clear e0 e1 e2 e7 e8
  rintro ts h1 ⟨h3,d2,hu5,hz5,hF,rfl,e0,e1,e2,e8,e7⟩
  rw[hF] at hD
  have w3:IntKind.i64.wrap (((5-(s+1):Nat):Int)+1)=((5-s:Nat):Int):=by rw[bE om om]; omega
  refine ah (J2 e8 w3) ?_
  exact⟨s,om,s,i,d2,rfl,om,hai,him,hu5,hz5,hD,I1 e0,I1 e1,I1 e2,I2 e8 w3,I1 e7⟩
 ·have q:s=0:=by have:=aE q; omega
  subst q
  refine bM ⟨λ_=>?_,λe=>absurd rfl e⟩
  refine ab (ah (M0) ?_)
  exact bt ⟨.bool false,(by simp only[rs,rf183,am,aD,simprocAttr]<;>rfl),by rw[← hD]; rfl,by rw[← hD]; exact hu⟩
open Go.Am
open Go.Sort (swp ltInt PermIn)
open Go.Sort (swp ltInt PermIn swp_permIn permIn_refl permIn_trans)
theorem qB {enc:Int→AV}{κ:Int→Int}{f:FuncId}{caps:List AV}{h:AH}{b o c s x y:Nat}{z:Int}{cs:List AV}{d:Array Int} (hc:Cs enc κ f caps b s h) (hg:h.get b=some (dA enc cs o d)) (hr:o+d.size≤cs.length) (hx:x<d.size) (hy:y<d.size) (hs:h.get s=some (eM .i64 z)) :
 C prg 228 [.sl b o d.size c,.int .i64 (x:Nat),.int .i64 (y:Nat),.ptr s 0,.fn f caps] h λv h'=>∃ (x' y':Nat) (z':Int),v=.tup [.int .i64 (x':Nat),.int .i64 (y':Nat)]∧(x'=x∧y'=y∨x'=y∧y'=x)∧Upd h h' s (eM .i64 z'):=by
 refine HH pf228 ?_
 have i1:bN ((y:Nat):Int) d.size=some y:=aO hy
 have i2:bN ((x:Nat):Int) d.size=some x:=aO hx
 have r1:=rdE (i:=y) hg hr hy
 have r2:=rdE (i:=x) hg hr hx
 refine ab (ah (Mi0) ?_)
 refine ab (ab (aX (dT 9 (Mi5 i1 i2 r1 r2 @ai) rfl (Zi5 i1 i2 r1 r2 @ai) (Mi5 i1 i2 r1 r2 @ai) (Mi5 i1 i2 r1 r2 @ai) (hc.at) λv h3 hq=>?_)))
 obtain⟨rfl,rfl⟩:=hq
 refine aW (M1 hc.lk) ?_
 refine bg (t:=(ltK κ) d[y]! d[x]!) (Z0) (λq=>?_) λq=>?_
 ·have r3:=jz hs
  obtain⟨h4,s4,u4⟩:=kj (y:=IntKind.i64.wrap (z+1)) hs
  refine ab (ah (Mi2 r3 s4) ?_)
  refine ab (ah (Mi0) ?_)
  exact bt ⟨_,(by simp only[rs,rf228,am,aD,simprocAttr,bL]<;>rfl),y,x,_,rfl,.inr ⟨rfl,rfl⟩,u4⟩
 ·refine aN (ab (ah (Mi0) ?_))
  exact bt ⟨_,(by simp only[rs,rf228,am,aD,simprocAttr,bL]<;>rfl),x,y,_,rfl,.inl ⟨rfl,rfl⟩,HG hs⟩
theorem yI {enc:Int→AV}{κ:Int→Int}{f:FuncId}{caps:List AV}{h:AH}{b o c s x y w:Nat}{z:Int}{cs:List AV}{d:Array Int} (hc:Cs enc κ f caps b s h) (hg:h.get b=some (dA enc cs o d)) (hbs:b≠s) (hr:o+d.size≤cs.length) (hx:x<d.size) (hy:y<d.size) (hw:w<d.size) (hs:h.get s=some (eM .i64 z)) :
 C prg 215 [.sl b o d.size c,.int .i64 (x:Nat),.int .i64 (y:Nat),.int .i64 (w:Nat),.ptr s 0,.fn f caps] h λv h'=>∃ (r:Nat) (z':Int),v=.int .i64 (r:Nat)∧(r=x∨r=y∨r=w)∧Upd h h' s (eM .i64 z'):=by
 refine HH pf215 ?_
 refine ab (ah (Mi0) ?_)
 refine ab (aX (aP 5 (Mi0) rfl (Zi0) (Mi0) (qB hc hg hr hx hy hs) λv h1 hq=>?_))
 obtain⟨x1,y1,z1,rfl,hxy,u1⟩:=hq
 refine aW (M0) ?_
 have g1:h1.get b=some (dA enc cs o d):=by rw[u1.ne hbs]; exact hg
 refine ab (aX (aP 5 (Mi0) rfl (Zi0) (Mi0) (qB (hc.us u1) g1 hr (x:=y1) (y:=w) om hw u1.get) λv h2 hq=>?_))
 obtain⟨y2,w2,z2,rfl,hyw,u2⟩:=hq
 refine aW (M0) ?_
 have u2':=u1.trans u2
 have g2:h2.get b=some (dA enc cs o d):=by rw[u2'.ne hbs]; exact hg
 refine ab (aX (aP 5 (Mi0) rfl (Zi0) (Mi0) (qB ((hc.us u1).us u2) g2 hr (x:=x1) (y:=y2) om om u2.get) λv h3 hq=>?_))
 obtain⟨x3,y3,z3,rfl,hxy3,u3⟩:=hq
 refine aW (M0) ?_
 refine ab (ah (M0) ?_)
 exact bt ⟨_,(by simp only[rs,rf215,am,aD,simprocAttr]<;>rfl),y3,z3,rfl,om,u2'.trans u3⟩
theorem qC {enc:Int→AV}{κ:Int→Int}{f:FuncId}{caps:List AV}{h:AH}{b o c s x:Nat}{z:Int}{cs:List AV}{d:Array Int} (hc:Cs enc κ f caps b s h) (hg:h.get b=some (dA enc cs o d)) (hbs:b≠s) (hr:o+d.size≤cs.length) (hx0:0<x) (hx:x+1<d.size) (hz:d.size<2 ^ 40) (hs:h.get s=some (eM .i64 z)) :
 C prg 214 [.sl b o d.size c,.int .i64 (x:Nat),.ptr s 0,.fn f caps] h λv h'=>∃ (r:Nat) (z':Int),v=.int .i64 (r:Nat)∧(x≤r+1∧r≤x+1)∧Upd h h' s (eM .i64 z'):=by
 refine HH pf214 ?_
 have w1:IntKind.i64.wrap (((x:Nat):Int)-1)=((x-1:Nat):Int):=by rw[bE om om]; omega
 have w2:IntKind.i64.wrap (((x:Nat):Int)+1)=((x+1:Nat):Int):=bE om om
 refine ab (ah (Mi0) ?_)
 refine ab (aX (aP 8 (Mi2 w1 w2) rfl (Zi2 w1 w2) (Mi2 w1 w2) (yI hc hg hbs hr (x:=x-1) (y:=x) (w:=x+1) om om om hs) λv h1 hq=>?_))
 obtain⟨r,z1,rfl,hxy,u1⟩:=hq
 refine aW (M0) ?_
 exact bt ⟨_,(by simp only[rs,rf214,am,aD,simprocAttr]<;>rfl),r,z1,rfl,om,u1⟩
theorem FP {enc:Int→AV}{κ:Int→Int}{f:FuncId}{caps:List AV}{h:AH}{b o c a m:Nat}{cs:List AV}{d:Array Int} (hc:Cm enc κ f caps b h) (hg:h.get b=some (dA enc cs o d)) (hr:o+d.size≤cs.length) (hl:a+8≤m) (hm:m≤d.size) (hs:d.size<2 ^ 40) :
 C prg 181 [.sl b o d.size c,.int .i64 (a:Nat),.int .i64 (m:Nat),.fn f caps] h λv h'=>∃ (r:Nat) (k:Int),v=.tup [.int .i64 (r:Nat),.int .i64 k]∧a≤r∧r<m∧Ext h.next h h':=by
 refine HH pf181 ?_
 have hb:=AH.lt_of_get hg
 have w0:IntKind.i64.wrap (((m:Nat):Int)-((a:Nat):Int))=((m-a:Nat):Int):=by rw[bE om om]; omega
 refine ab (ah (Mi0) ?_)
 refine ab (ah (Mi1 w0) ?_)
 refine ab (ah (Mi0) ?_)
 have z4:¬ (4:Int)=0:=by decide
 have q4:IntKind.i64.wrap (((m-a:Nat):Int).tdiv 4)=(((m-a) / 4:Nat):Int):=mS (k:=4) om
 obtain⟨L,hL⟩:∃ L,L=(m-a) / 4:=⟨_,rfl⟩
 rw[← hL] at q4
 have hL2:2≤L:=om
 have hL4:4*L≤m-a:=om
 have w1:IntKind.i64.wrap (((L:Nat):Int)*1)=((L:Nat):Int):=by rw[bE om om]; omega
 have w2:IntKind.i64.wrap (((L:Nat):Int)*2)=((2*L:Nat):Int):=by rw[bE om om]; omega
 have w3:IntKind.i64.wrap (((L:Nat):Int)*3)=((3*L:Nat):Int):=by rw[bE om om]; omega
 have w4:IntKind.i64.wrap (((a:Nat):Int)+((L:Nat):Int))=((a+L:Nat):Int):=by rw[bE om om]; omega
 have w5:IntKind.i64.wrap (((a:Nat):Int)+((2*L:Nat):Int))=((a+2*L:Nat):Int):=by rw[bE om om]; omega
 have w6:IntKind.i64.wrap (((a:Nat):Int)+((3*L:Nat):Int))=((a+3*L:Nat):Int):=by rw[bE om om]; omega
 refine ab (ah (Mi4 z4 q4 w1 w4) ?_)
 refine ab (ah (Mi4 z4 q4 w2 w5) ?_)
 refine ab (ah (Mi4 z4 q4 w3 w6) ?_)
 have c1:decide ((8:Int)≤((m-a:Nat):Int))=true:=by simp only[aj]; omega
 have hnew:(h.new (.cells [.int .i64 0] 1 false)).get h.next=some (eM .i64 0):=by rw[AH.get_new,if_pos rfl]; rfl
 have gnew:(h.new (.cells [.int .i64 0] 1 false)).get b=some (dA enc cs o d):=by rw[AH.get_new,if_neg om]; exact hg
 have hbs:b≠h.next:=om
 have ex0:Ext h.next h (h.new (.cells [.int .i64 0] 1 false)):=HD (ae _)
 have hs0:=hc.cs ex0
 generalize h.new (.cells [.int .i64 0] 1 false)=h0 at *
 refine ab (cZ (λts h1=>∃ (r:Nat) (z:Int),a≤r∧r<m∧Ext h.next h h1∧h1.get h.next=some (eM .i64 z)∧aB ts 11=.ptr h.next 0∧aB ts 13=.int .i64 (r:Nat)) ?_ ?_)
 ·refine ab (ah (Mi1 c1) ?_)
  refine dv (Z1 c1) (ab (cZ (λts h1=>∃ (x y w:Nat) (z:Int),a≤x∧x<m∧a≤y∧y<m∧a≤w∧w<m∧Upd h0 h1 h.next (eM .i64 z)∧(aB ts 0=.sl b o d.size c∧aB ts 3=.fn f caps)∧aB ts 11=.ptr h.next 0∧aB ts 12=.int .i64 (x:Nat)∧aB ts 13=.int .i64 (y:Nat)∧aB ts 14=.int .i64 (w:Nat)) ?_ ?_))
  ·refine ab (ah (Mi0) ?_)
   refine bg (t:=decide ((50:Int)≤((m-a:Nat):Int))) (Z0) (λq=>?_) λq=>?_
   ·refine ab (aX (aP 3 (Mi0) rfl (Zi0) (Mi0) (qC hs0 gnew hbs hr (x:=a+L) om om om hnew) λv h1 hq=>?_))
    obtain⟨x,z1,rfl,hx,u1⟩:=hq
    refine aW (M0) ?_
    have g1:h1.get b=some (dA enc cs o d):=by rw[u1.ne hbs]; exact gnew
    refine ab (aX (aP 3 (Mi0) rfl (Zi0) (Mi0) (qC (hs0.us u1) g1 hbs hr (x:=a+2*L) om om om u1.get) λv h2 hq=>?_))
    obtain⟨y,z2,rfl,hy,u2⟩:=hq
    refine aW (M0) ?_
    have u2':=u1.trans u2
    have g2:h2.get b=some (dA enc cs o d):=by rw[u2'.ne hbs]; exact gnew
    refine aX (aP 3 (Mi0) rfl (Zi0) (Mi0) (qC ((hs0.us u1).us u2) g2 hbs hr (x:=a+3*L) om om om u2.get) λv h3 hq=>?_)
    obtain⟨w,z3,rfl,hw,u3⟩:=hq
    refine aW (M0) ?_
    exact⟨x,y,w,z3,om,om,om,om,om,om,u2'.trans u3,Zi0,Zi0,Z0,Z0,Z0⟩
   ·exact aN ⟨a+L,a+2*L,a+3*L,0,om,om,om,om,om,om,HG hnew,Zi0,Zi0,Z0,Z0,Z0⟩
  ·rintro ts h1 ⟨x,y,w,z,hx1,hx2,hy1,hy2,hw1,hw2,u1,e0,e9,e10,e11,e12⟩
   have g1:h1.get b=some (dA enc cs o d):=by rw[u1.ne hbs]; exact gnew
   refine aX (aP 5 (M5 e0 e9 e10 e11 e12) rfl (Z5 e0 e9 e10 e11 e12) (M5 e0 e9 e10 e11 e12) (yI (hs0.us u1) g1 hbs hr (x:=x) (y:=y) (w:=w) om om om u1.get) λv h2 hq=>?_)
   obtain⟨r,z2,rfl,hr3,u2⟩:=hq
   refine aW (M0) ?_
   exact⟨r,z2,om,om,ex0.trans ((u1.trans u2).ext (ae _)),u2.get,Z1 e9,Z0⟩
 rintro ts h1 ⟨r,z,hr1,hr2,ex,g,e9,e11⟩
 have r1:=jz g
 refine ab (ah (M2 e9 r1) ?_)
 refine aU (ab (ah (M0) ?_))
 refine bg (t:=decide (z=0)) (Z0) (λq=>?_) λq=>?_
 ·refine ab (ah (M1 e11) ?_)
  exact bt ⟨_,(by simp only[rs,rf181,am,aD,simprocAttr]<;>rfl),r,1,rfl,hr1,hr2,ex⟩
 ·refine ab (ah (M0) ?_)
  refine bg (t:=decide (z=12)) (Z0) (λq=>?_) λq=>?_
  ·refine ab (ah (M1 e11) ?_)
   exact bt ⟨_,(by simp only[rs,rf181,am,aD,simprocAttr]<;>rfl),r,2,rfl,hr1,hr2,ex⟩
  ·refine ab (ah (M1 e11) ?_)
   exact bt ⟨_,(by simp only[rs,rf181,am,aD,simprocAttr]<;>rfl),r,0,rfl,hr1,hr2,ex⟩
open Go.Am
open Go.Sort (swp ltInt PermIn swp_permIn permIn_refl permIn_trans)
theorem FW {enc:Int→AV}{κ:Int→Int}{f:FuncId}{caps:List AV}{h:AH}{b o c a m:Nat}{cs:List AV}{d:Array Int} (hc:Cm enc κ f caps b h) (hg:h.get b=some (dA enc cs o d)) (hr:o+d.size≤cs.length) (hl:a+8≤m) (hm:m≤d.size) (hs:d.size<2 ^ 38) :
 C prg 180 [.sl b o d.size c,.int .i64 (a:Nat),.int .i64 (m:Nat),.fn f caps] h λv h'=>∃ d',PermIn a m d d'∧Mod h.next h h' b (dA enc cs o d'):=by
 refine HH pf180 ?_
 have hb:=AH.lt_of_get hg
 have w0:IntKind.i64.wrap (((m:Nat):Int)-((a:Nat):Int))=((m-a:Nat):Int):=by rw[bE om om]; omega
 obtain⟨N,hN⟩:∃ N,N=m-a:=⟨_,rfl⟩
 rw[← hN] at w0
 have c1:decide ((8:Int)≤((N:Nat):Int))=true:=by simp only[aj]; omega
 refine ab (ah (Mi1 w0) ?_)
 refine ab (ah (Mi1 c1) ?_)
 refine dv (Z1 c1) ?_
 have wu:IntKind.u64.wrap ((N:Nat):Int)=((N:Nat):Int):=kw om
 have hnew:(h.new (.cells [.int .u64 0] 1 false)).get h.next=some (eM .u64 0):=by rw[AH.get_new,if_pos rfl]; rfl
 have gnew:(h.new (.cells [.int .u64 0] 1 false)).get b=some (dA enc cs o d):=by rw[AH.get_new,if_neg om]; exact hg
 have ex0:Ext h.next h (h.new (.cells [.int .u64 0] 1 false)):=HD (ae _)
 have m0:Mod h.next h (h.new (.cells [.int .u64 0] 1 false)) b (dA enc cs o d):=ex0.mod (Mod.refl gnew)
 obtain⟨h1,t1,u1⟩:=kj (y:=((N:Nat):Int)) hnew
 refine ab (ah (Mi2 wu t1) ?_)
 have m1:Mod h.next h h1 b (dA enc cs o d):=m0.ext hb (u1.ext (ae _))
 have g1:=u1.get
 clear u1 t1 m0 ex0 hnew gnew
 refine ab (aX (aP 1 (Mi0) rfl (Zi0) (Mi0) (yx (n:=N) om om) λv h2 hq=>?_))
 obtain⟨p,rfl,rfl,hp1,hp2⟩:=hq
 refine aW (M0) ?_
 have z4:¬ (4:Int)=0:=by decide
 have q4:IntKind.i64.wrap (((N:Nat):Int).tdiv 4)=((N / 4:Nat):Int):=mS (k:=4) om
 obtain⟨L,hL⟩:∃ L,L=N / 4:=⟨_,rfl⟩
 rw[← hL] at q4
 have hL2:2≤L:=om
 have hL4:4*L≤N:=om
 have w1:IntKind.i64.wrap (((L:Nat):Int)*2)=((2*L:Nat):Int):=by rw[bE om om]; omega
 have w2:IntKind.i64.wrap (((a:Nat):Int)+((2*L:Nat):Int))=((a+2*L:Nat):Int):=by rw[bE om om]; omega
 have w3:IntKind.i64.wrap (((a+2*L:Nat):Int)-1)=((a+2*L-1:Nat):Int):=by rw[bE om om]; omega
 have w4:IntKind.i64.wrap (((a+2*L:Nat):Int)+1)=((a+2*L+1:Nat):Int):=by rw[bE om om]; omega
 refine ab (ah (Mi5 z4 q4 w1 w2 w3) ?_)
 refine aU (cf (λn ts h1=>∃ (i:Nat) (d1:Array Int) (z:Int),n=a+2*L+2-i∧a+2*L-1≤i∧i≤a+2*L+2∧PermIn a m d d1∧Mod h.next h h1 b (dA enc cs o d1)∧h1.get h.next=some (eM .u64 z)∧(aB ts 0=.sl b o d.size c∧aB ts 3=.fn f caps)∧aB ts 1=.int .i64 (a:Nat)∧aB ts 8=.int .i64 (N:Nat)∧aB ts 9=.ptr h.next 0∧aB ts 10=.int .u64 (p:Nat)∧aB ts 11=.int .i64 (i:Nat)) ?_ (n:=3)
  ⟨a+2*L-1,d,_,om,om,om,permIn_refl d a m,m1,g1,Zi0,Zi0,Zi0,Zi0,Zi0,Zi0⟩)
 clear m1 g1
 rintro n ts h1 ⟨i,d1,z,rfl,hi1,hi2,hP,hM,hZ,e0,e1,e6,e7,e8,e9⟩
 have hz:d1.size=d.size:=hP.1
 refine ab (ab (ah (M8 e1 e6 e9 z4 q4 w1 w2 w4) ?_))
 refine bg (t:=decide (i≤a+2*L+1)) (Z1 @me) (λq=>?_) λq=>?_
 ·have q:i≤a+2*L+1:=aF q
  refine aN (ab (aU (ab (aX (kU (Z1 e7) (M1 e7) (uf hZ) λv h2 hq=>?_)))))
  obtain⟨z2,rfl,u2⟩:=hq
  have wp:IntKind.u64.wrap (((p:Nat):Int)-1)=((p-1:Nat):Int):=by
   have:((p:Nat):Int)-1=((p-1:Nat):Int):=om
   rw[this]
   exact kw om
  obtain⟨r,hr1,hr2⟩:=Ec (z:=z2) hp1 om
  have wr:IntKind.i64.wrap ((r:Nat):Int)=((r:Nat):Int):=bE om om
  refine aW (M10 e0 e1 e6 e7 e8 e9 wp hr1 wr wr) ?_
  have m2:Mod h.next h h2 b (dA enc cs o d1):=hM.ext hb (u2.ext (ae _))
  refine ab (cZ (λts h2=>∃ (r:Nat) (z:Int),r<N∧Mod h.next h h2 b (dA enc cs o d1)∧h2.get h.next=some (eM .u64 z)∧(aB ts 0=.sl b o d.size c∧aB ts 3=.fn f caps)∧aB ts 1=.int .i64 (a:Nat)∧aB ts 8=.int .i64 (N:Nat)∧aB ts 9=.ptr h.next 0∧aB ts 10=.int .u64 (p:Nat)∧aB ts 11=.int .i64 (i:Nat)∧aB ts 12=.int .i64 (r:Nat)) ?_ ?_)
  ·refine ab (ah (M1 e6) ?_)
   refine bg (t:=decide (N≤r)) (Z1 @me) (λq3=>?_) λq3=>?_
   ·have q3:N≤r:=aF q3
    have wd:IntKind.i64.wrap (((r:Nat):Int)-((N:Nat):Int))=((r-N:Nat):Int):=by rw[bE om om]; omega
    refine ah (M2 e6 wd) ?_
    exact⟨r-N,z2,om,m2,u2.get,Z1 e0,Z1 e1,Z1 e6,Z1 e7,Z1 e8,Z1 e9,Z1 wd⟩
   ·have q3:¬ N≤r:=aE q3
    exact aN ⟨r,z2,om,m2,u2.get,Z1 e0,Z1 e1,Z1 e6,Z1 e7,Z1 e8,Z1 e9,Z0⟩
  clear e0 e1 e6 e7 e8 e9 hM hZ u2 m2 hr1 hr2 wr r h2
  rintro ts h2 ⟨r,z,hrN,hM,hZ,e0,e1,e6,e7,e8,e9,e10⟩
  have wa:IntKind.i64.wrap (((a:Nat):Int)+((r:Nat):Int))=((a+r:Nat):Int):=by rw[bE om om]; omega
  have x1:bN ((i:Nat):Int) d.size=some i:=aO om
  have x2:bN ((a+r:Nat):Int) d.size=some (a+r):=aO om
  have r1:=rdE (i:=i) hM.get om om
  have r2:=rdE (i:=a+r) hM.get om om
  obtain⟨m1,m2,s1,s2,u2⟩:=mt (i:=i) (j:=a+r) hM.get om om om
  refine ah (M14 e0 e1 e9 e10 wa x1 x2 r1 r2 s1 s2 hc.ec hc.eo @ai) ?_
  have w5:IntKind.i64.wrap (((i:Nat):Int)+1)=((i+1:Nat):Int):=bE om om
  refine ah (M2 e9 w5) ?_
  exact⟨a+2*L+2-(i+1),om,i+1,swp d1 i (a+r),z,rfl,om,om,permIn_trans _ _ _ a m hP (swp_permIn d1 a m i (a+r) om om om om om),hM.upd u2,by rw[u2.ne om]; exact hZ,Z1 e0,Z1 e1,Z1 e6,Z1 e7,Z1 e8,Z2 e9 w5⟩
 ·exact bM ⟨λ_=>⟨.tup [],rfl,d1,hP,hM⟩,λe=>absurd rfl e⟩
open Go.Am
open Go.Sort (swp ltInt PermIn SortedIn Below permIn_refl permIn_trans insertionSort_holds heapSort_holds partialInsertionSort_holds partition_holds partitionEqual_holds reverseRange_holds swo_ltInt round_eq round_part)
theorem FQ:∀ (N:Nat) {enc:Int→AV}{κ:Int→Int}{f:FuncId}{caps:List AV}{h:AH}{b o c a m l:Nat}{cs:List AV}{d:Array Int},m-a≤N→Cm enc κ f caps b h→h.get b=some (dA enc cs o d)→o+d.size≤cs.length→a≤m→m≤d.size→d.size<2 ^ 38→l<2 ^ 40→Below (ltK κ) a m d →
 C prg 144 [.sl b o d.size c,.int .i64 (a:Nat),.int .i64 (m:Nat),.int .i64 (l:Nat),.fn f caps] h λv h'=>∃ d',PermIn a m d d'∧SortedIn (ltK κ) a m d'∧Mod h.next h h' b (dA enc cs o d'):=by
 intro N
 induction N using Nat.strongRecOn with
 | _ N ih =>
 intro enc κ f caps h b o c a m l cs d hN hc hg hr ham hm hs hl hB
 have hb:=AH.lt_of_get hg
 refine HH pf144 ?_
 refine ab (ah (Mi0) ?_)
 refine ab (ah (Mi0) ?_)
 refine aU (cf (λk ts h1=>∃ (p n l1:Nat) (d1:Array Int) (wb wp:Bool),k=n-p∧a≤p∧p≤n∧n≤m∧l1≤l∧Below (ltK κ) p n d1∧Mod h.next h h1 b (dA enc cs o d1)∧d1.size=d.size∧(∀ R,PermIn p n d1 R→SortedIn (ltK κ) p n R→PermIn a m d R∧SortedIn (ltK κ) a m R)∧(aB ts 0=.sl b o d.size c∧aB ts 4=.fn f caps)∧aB ts 1=.int .i64 (p:Nat)∧aB ts 2=.int .i64 (n:Nat)∧aB ts 3=.int .i64 (l1:Nat)∧aB ts 10=.bool wb∧aB ts 11=.bool wp) ?_ (n:=m-a)
  ⟨a,m,l,d,true,true,rfl,ae _,ham,ae _,ae _,hB,Mod.refl hg,rfl,λR h1 h2=>⟨h1,h2⟩,Zi0,Zi0,Zi0,Zi0,Zi0,Zi0⟩)
 rintro k ts h1 ⟨p,n,l1,d1,wb,wp,rfl,hap,hpn,hnm,hl1,hB1,hM,hz,hC,e0,e1,e2,e3,e8,e9⟩
 have w0:IntKind.i64.wrap (((n:Nat):Int)-((p:Nat):Int))=((n-p:Nat):Int):=by rw[bE om om]; omega
 refine aU (ab (ah (M3 e1 e2 w0) ?_))
 refine ab (ab (ah (M0) ?_))
 refine bg (t:=decide (n-p≤12)) (by simp only[am,aD,simprocAttr]; exact congrArg AV.bool (by simp only[decide_eq_decide]; omega)) (λq=>?_) λq=>?_
 ·have hins:=FS (c:=c) (a:=p) (m:=n) (hc.m hM) hM.get om om om om
  rw[hz] at hins
  refine ab (aX (aP 4 (M3 e0 e1 e2) rfl (Z3 e0 e1 e2) (M3 e0 e1 e2) (hins) λv h2 u=>?_))
  refine aW (M0) ?_
  obtain⟨s1,s2⟩:=insertionSort_holds mP d1 p n hpn om
  obtain⟨s3,s4⟩:=hC _ s1 s2
  exact bt ⟨.tup [],rfl,_,s3,s4,hM.upd u⟩
 have q:¬ n-p≤12:=aE q
 refine aN (ab (ab (ah (M1 e3) ?_)))
 refine bg (t:=decide (l1=0)) (by simp only[am,aD,simprocAttr]; exact congrArg AV.bool (by simp only[decide_eq_decide]; omega)) (λq2=>?_) λq2=>?_
 ·have hheap:=DN (c:=c) (a:=p) (m:=n) (hc.m hM) hM.get om om om om
  rw[hz] at hheap
  refine ab (aX (aP 4 (M3 e0 e1 e2) rfl (Z3 e0 e1 e2) (M3 e0 e1 e2) (hheap) λv h2 u=>?_))
  refine aW (M0) ?_
  obtain⟨s1,s2⟩:=heapSort_holds mP d1 p n hpn om
  obtain⟨s3,s4⟩:=hC _ s1 s2
  exact bt ⟨.tup [],rfl,_,s3,s4,hM.upd u⟩
 have q2:¬ l1=0:=aE q2
 refine aN (ab (cZ (λts h2=>∃ (d2:Array Int) (l2:Nat),l2≤l∧PermIn p n d1 d2∧Mod h.next h h2 b (dA enc cs o d2)∧aB ts 12=.int .i64 ((n-p:Nat):Int)∧(aB ts 0=.sl b o d.size c∧aB ts 4=.fn f caps)∧aB ts 1=.int .i64 (p:Nat)∧aB ts 2=.int .i64 (n:Nat)∧aB ts 3=.int .i64 (l2:Nat)∧aB ts 10=.bool wb∧aB ts 11=.bool wp) ?_ ?_))
 ·refine ab (ah (M1 e8) ?_)
  refine bg (t:=!wb) (Z0) (λq3=>?_) λq3=>?_
  ·have hbrk:=FW (c:=c) (a:=p) (m:=n) (hc.m hM) hM.get om om om om
   rw[hz] at hbrk
   refine ab (aX (aP 4 (M3 e0 e1 e2) rfl (Z3 e0 e1 e2) (M3 e0 e1 e2) (hbrk) λv h2 hq=>?_))
   obtain⟨d2,hp2,hm2⟩:=hq
   refine aW (M0) ?_
   have w1:IntKind.i64.wrap (((l1:Nat):Int)-1)=((l1-1:Nat):Int):=by rw[bE om om]; omega
   refine ah (M2 e3 w1) ?_
   exact⟨d2,l1-1,om,hp2,hM.trans (hm2.mono hM.nx),Z0,Z1 e0,Z1 e1,Z1 e2,Z2 e3 w1,Z1 e8,Z1 e9⟩
  ·exact aN ⟨d1,l1,hl1,permIn_refl _ _ _,hM,Z0,Z1 e0,Z1 e1,Z1 e2,Z1 e3,Z1 e8,Z1 e9⟩
 clear e0 e1 e2 e3 e8 e9 hl1
 rintro ts h2 ⟨d2,l2,hl2,hP2,hM2,e10,e0,e1,e2,e3,e8,e9⟩
 have hz2:d2.size=d.size:=hP2.1.trans hz
 have hpiv:=FP (c:=c) (a:=p) (m:=n) (hc.m hM2) hM2.get om om om om
 rw[hz2] at hpiv
 refine ab (aX (aP 4 (M3 e0 e1 e2) rfl (Z3 e0 e1 e2) (M3 e0 e1 e2) (hpiv) λv h3 hq=>?_))
 obtain⟨r,kk,rfl,hr1,hr2,ex⟩:=hq
 refine aW (M0) ?_
 have hM3:Mod h.next h h3 b (dA enc cs o d2):=hM2.ext hb (ex.mono hM2.nx)
 refine ab (cZ (λts h3=>∃ (d3:Array Int) (r:Nat) (kk:Int),p≤r∧r<n∧PermIn p n d1 d3∧Mod h.next h h3 b (dA enc cs o d3)∧aB ts 12=.int .i64 ((n-p:Nat):Int)∧aB ts 13=.int .i64 (r:Nat)∧aB ts 14=.int .i64 kk∧(aB ts 0=.sl b o d.size c∧aB ts 4=.fn f caps)∧aB ts 1=.int .i64 (p:Nat)∧aB ts 2=.int .i64 (n:Nat)∧aB ts 3=.int .i64 (l2:Nat)∧aB ts 10=.bool wb∧aB ts 11=.bool wp) ?_ ?_)
 ·refine ab (ah (M0) ?_)
  refine bg (t:=decide (kk=2)) (Z0) (λq3=>?_) λq3=>?_
  ·have hrev:=FO (c:=c) (a:=p) (m:=n) (hc.m hM3) hM3.get om om om om
   rw[hz2] at hrev
   refine ab (aX (aP 4 (M3 e0 e1 e2) rfl (Z3 e0 e1 e2) (M3 e0 e1 e2) (hrev) λv h4 u=>?_))
   refine aW (M0) ?_
   have w1:IntKind.i64.wrap (((n:Nat):Int)-1)=((n-1:Nat):Int):=by rw[bE om om]; omega
   have w2:IntKind.i64.wrap (((r:Nat):Int)-((p:Nat):Int))=((r-p:Nat):Int):=by rw[bE om om]; omega
   have w3:IntKind.i64.wrap (((n-1:Nat):Int)-((r-p:Nat):Int))=((n-1-(r-p):Nat):Int):=by rw[bE om om]; omega
   refine ab (ah (M5 e1 e2 w1 w2 w3) ?_)
   refine ah (M0) ?_
   exact⟨_,n-1-(r-p),1,om,om,permIn_trans _ _ _ p n hP2 (reverseRange_holds d2 p n hpn om),hM3.upd u,Z1 e10,Z0,Z0,Z1 e0,Z1 e1,Z1 e2,Z1 e3,Z1 e8,Z1 e9⟩
  ·exact aN ⟨d2,r,kk,hr1,hr2,hP2,hM3,Z1 e10,Z0,Z0,Z1 e0,Z1 e1,Z1 e2,Z1 e3,Z1 e8,Z1 e9⟩
 clear e0 e1 e2 e3 e8 e9 e10 hP2 hM2 hM3 hr1 hr2 ex hpiv hz2
 rintro ts h4 ⟨d3,r,kk,hr1,hr2,hP3,hM3,e10,e11,e12,e0,e1,e2,e3,e8,e9⟩
 have hz3:d3.size=d.size:=hP3.1.trans hz
 have hB3:Below (ltK κ) p n d3:=hB1.perm om hP3
 refine ab (cZ (λts h5=>∃ (d4:Array Int),PermIn p n d1 d4∧Mod h.next h h5 b (dA enc cs o d4)∧aB ts 12=.int .i64 ((n-p:Nat):Int)∧aB ts 13=.int .i64 (r:Nat)∧(aB ts 0=.sl b o d.size c∧aB ts 4=.fn f caps)∧aB ts 1=.int .i64 (p:Nat)∧aB ts 2=.int .i64 (n:Nat)∧aB ts 3=.int .i64 (l2:Nat)∧aB ts 10=.bool wb∧aB ts 11=.bool wp) ?_ ?_)
 ·cases wb with
  | false =>
    refine ab (ah (M3 e8 e9 e12) ?_)
    refine cU (Z0) ?_
    exact aN ⟨d3,hP3,hM3,Z1 e10,Z1 e11,Z1 e0,Z1 e1,Z1 e2,Z1 e3,Z1 e8,Z1 e9⟩
  | true =>
  cases wp with
  | false =>
    refine ab (ah (M3 e8 e9 e12) ?_)
    refine cU (Z0) ?_
    exact aN ⟨d3,hP3,hM3,Z1 e10,Z1 e11,Z1 e0,Z1 e1,Z1 e2,Z1 e3,Z1 e8,Z1 e9⟩
  | true =>
    refine ab (ah (M3 e8 e9 e12) ?_)
    refine bg (t:=decide (kk=1)) (Z0) (λq3=>?_) λq3=>?_
    ·have hpins:=DC (c:=c) (a:=p) (m:=n) (hc.m hM3) hM3.get om om om om
     rw[hz3] at hpins
     refine ab (aX (aP 4 (M3 e0 e1 e2) rfl (Z3 e0 e1 e2) (M3 e0 e1 e2) (hpins) λv h5 hq=>?_))
     obtain⟨rfl,u⟩:=hq
     refine aW (M0) ?_
     obtain⟨s1,s2⟩:=partialInsertionSort_holds mP d3 p n om om hB3
     refine bg (t:=(Go.Sort.partialInsertionSort (ltK κ) d3 p n).2) (Z0) (λq4=>?_) λq4=>?_
     ·obtain⟨s3,s4⟩:=hC _ (permIn_trans _ _ _ p n hP3 s1) (s2 q4)
      exact bt ⟨.tup [],rfl,_,s3,s4,hM3.upd u⟩
     ·exact aN ⟨_,permIn_trans _ _ _ p n hP3 s1,hM3.upd u,Z1 e10,Z1 e11,Z1 e0,Z1 e1,Z1 e2,Z1 e3,Z1 e8,Z1 e9⟩
    ·exact aN ⟨d3,hP3,hM3,Z1 e10,Z1 e11,Z1 e0,Z1 e1,Z1 e2,Z1 e3,Z1 e8,Z1 e9⟩
 clear e0 e1 e2 e3 e8 e9 e10 e11 e12 hP3 hM3 hz3 hB3
 rintro ts h5 ⟨d4,hP4,hM4,e10,e11,e0,e1,e2,e3,e8,e9⟩
 have hz4:d4.size=d.size:=hP4.1.trans hz
 have hB4:Below (ltK κ) p n d4:=hB1.perm om hP4
 have hC4:∀ R,PermIn p n d4 R→SortedIn (ltK κ) p n R→PermIn a m d R∧SortedIn (ltK κ) a m R:=λR s1 s2=>hC R (permIn_trans _ _ _ p n hP4 s1) s2
 clear hC hP4 hB1 hM
 refine ab (cZ (λts h6=>h5=h6∧aB ts 12=.int .i64 ((n-p:Nat):Int)∧aB ts 13=.int .i64 (r:Nat)∧(aB ts 0=.sl b o d.size c∧aB ts 4=.fn f caps)∧aB ts 1=.int .i64 (p:Nat)∧aB ts 2=.int .i64 (n:Nat)∧aB ts 3=.int .i64 (l2:Nat)∧aB ts 10=.bool wb∧aB ts 11=.bool wp) ?_ ?_)
 ·by_cases q3:0<p
  ·have c1:decide ((0:Int)<((p:Nat):Int))=true:=by simp only[aj]; omega
   have w1:IntKind.i64.wrap (((p:Nat):Int)-1)=((p-1:Nat):Int):=by rw[bE om om]; omega
   have x1:bN ((p-1:Nat):Int) d.size=some (p-1):=aO om
   have x2:bN ((r:Nat):Int) d.size=some r:=aO om
   have r1:=rdE (i:=p-1) hM4.get om om
   have r2:=rdE (i:=r) hM4.get om om
   refine ab (aX (dT 13 (M10 e0 e1 e11 c1 w1 x1 x2 r1 r2 @ai) rfl (Z10 e0 e1 e11 c1 w1 x1 x2 r1 r2 @ai) (M10 e0 e1 e11 c1 w1 x1 x2 r1 r2 @ai) (M10 e0 e1 e11 c1 w1 x1 x2 r1 r2 @ai) ((hc.m hM4).at) λv h6 hq=>?_))
   obtain⟨rfl,rfl⟩:=hq
   refine aW (M2 hc.lk c1) ?_
   refine bg (t:=!(ltK κ) d4[p-1]! d4[r]!) (Z0) (λq4=>?_) λq4=>?_
   ·have q4:(ltK κ) d4[p-1]! d4[r]! = false:=by simpa using q4
    have hpe:=xv (c:=c) (a:=p) (m:=n) (piv:=r) (hc.m hM4) hM4.get om hr1 hr2 om om
    rw[hz4] at hpe
    refine ab (aX (aP 5 (M4 e0 e1 e2 e11) rfl (Z4 e0 e1 e2 e11) (M4 e0 e1 e2 e11) (hpe) λv h7 hq=>?_))
    obtain⟨rfl,u⟩:=hq
    obtain⟨y1,y2,y3,y4,y5⟩:=round_eq mP (partitionEqual_holds (ltK κ)) q3 hr1 hr2 om hB4 q4 (Prod.eta (Go.Sort.partitionEqual (ltK κ) d4 p n r)).symm
    refine aW (M0) ?_
    refine ab (ah (M0) ?_)
    exact bM ⟨λ_=>⟨n-(Go.Sort.partitionEqual (ltK κ) d4 p n r).1,om,_,n,l2,_,wb,wp,rfl,om,y2,hnm,hl2,y4,hM4.upd u,by rw[y3,hz4],λR s1 s2=>hC4 R (y5 R s1 s2).1 (y5 R s1 s2).2,Z1 e0,Z0,Z1 e2,Z1 e3,Z1 e8,Z1 e9⟩,λe=>absurd rfl e⟩
   ·exact aN ⟨rfl,Z1 e10,Z1 e11,Z1 e0,Z1 e1,Z1 e2,Z1 e3,Z1 e8,Z1 e9⟩
  ·have c1:decide ((0:Int)<((p:Nat):Int))=false:=by simp only[aR]; omega
   refine ab (aX (fh 13 (M4 e0 e1 e11 c1) rfl (Z1 c1) ?_))
   refine aW (M1 c1) ?_
   exact cU (Z0) (aN ⟨rfl,Z1 e10,Z1 e11,Z1 e0,Z1 e1,Z1 e2,Z1 e3,Z1 e8,Z1 e9⟩)
 clear e0 e1 e2 e3 e8 e9 e10 e11
 rintro ts h6 ⟨rfl,e10,e11,e0,e1,e2,e3,e8,e9⟩
 have hpt:=DE (c:=c) (a:=p) (m:=n) (piv:=r) (hc.m hM4) hM4.get om hr1 hr2 om om
 rw[hz4] at hpt
 refine ab (aX (aP 5 (M4 e0 e1 e2 e11) rfl (Z4 e0 e1 e2 e11) (M4 e0 e1 e2 e11) (hpt) λv h7 hq=>?_))
 obtain⟨rfl,u⟩:=hq
 obtain⟨y1,y2,y3,y4,y5,y6,y7⟩:=round_part mP (partition_holds (ltK κ)) hr1 hr2 om hB4 (show Go.Sort.partition (ltK κ) d4 p n r=((Go.Sort.partition (ltK κ) d4 p n r).1,(Go.Sort.partition (ltK κ) d4 p n r).2.1,(Go.Sort.partition (ltK κ) d4 p n r).2.2) from rfl)
 have hM5:=hM4.upd u
 generalize (Go.Sort.partition (ltK κ) d4 p n r).1=mid at *
 generalize (Go.Sort.partition (ltK κ) d4 p n r).2.1=ap at *
 generalize (Go.Sort.partition (ltK κ) d4 p n r).2.2=d5 at *
 refine aW (M0) ?_
 refine ab (ah (M0) ?_)
 have w1:IntKind.i64.wrap (((mid:Nat):Int)-((p:Nat):Int))=((mid-p:Nat):Int):=by rw[bE om om]; omega
 have w2:IntKind.i64.wrap (((n:Nat):Int)-((mid:Nat):Int))=((n-mid:Nat):Int):=by rw[bE om om]; omega
 have w3:IntKind.i64.wrap (((mid:Nat):Int)+1)=((mid+1:Nat):Int):=bE om om
 refine ab (ah (M4 e1 e2 w1 w2) ?_)
 have z8:¬ (8:Int)=0:=by decide
 have q8:=quo8 (n:=n-p) om
 refine ab (ah (M3 e10 z8 q8) ?_)
 refine ab (ah (M0) ?_)
 have hz5:d5.size=d.size:=y3.trans hz4
 refine bg (t:=decide (mid-p<n-mid)) (Z1 @bi) (λq4=>?_) λq4=>?_
 ·refine ab (ah (M0) ?_)
  have hrec:=@ih (mid-p) om enc κ f caps h7 b o c p mid l2 cs d5 om (hc.m hM5) hM5.get om y1 om om om y4
  rw[hz5] at hrec
  refine ab (aX (aP 5 (M3 e0 e1 e3) rfl (Z3 e0 e1 e3) (M3 e0 e1 e3) (hrec) λv h8 hq=>?_))
  obtain⟨L,l1',l2',m8⟩:=hq
  refine aW (M0) ?_
  refine ah (M1 w3) ?_
  obtain⟨y8,y9⟩:=y6 L l1' l2'
  exact⟨n-(mid+1),om,mid+1,n,l2,L,_,ap,rfl,om,om,hnm,hl2,y8,hM5.trans (m8.mono hM5.nx),by rw[l1'.1,hz5],λR s1 s2=>hC4 R (y9 R s1 s2).1 (y9 R s1 s2).2,Z1 e0,Z1 w3,Z1 e2,Z1 e3,(M0),Z0⟩
 ·refine ab (ah (M0) ?_)
  have hrec:=@ih (n-(mid+1)) om enc κ f caps h7 b o c (mid+1) n l2 cs d5 om (hc.m hM5) hM5.get om om om om om y5
  rw[hz5] at hrec
  refine ab (aX (aP 6 (M4 e0 e2 e3 w3) rfl (Z4 e0 e2 e3 w3) (M4 e0 e2 e3 w3) (hrec) λv h8 hq=>?_))
  obtain⟨L,l1',l2',m8⟩:=hq
  refine aW (M0) ?_
  refine ah (M0) ?_
  obtain⟨y8,y9⟩:=y7 L l1' l2'
  exact⟨mid-p,om,p,mid,l2,L,_,ap,rfl,om,om,om,hl2,y8,hM5.trans (m8.mono hM5.nx),by rw[l1'.1,hz5],λR s1 s2=>hC4 R (y9 R s1 s2).1 (y9 R s1 s2).2,Z1 e0,Z1 e1,Z0,Z1 e3,(M0),Z0⟩
theorem DA {enc:Int→AV}{κ:Int→Int}{f:FuncId}{caps:List AV}{h:AH}{b o c:Nat}{cs:List AV}{d:Array Int} (hc:Cm enc κ f caps b h) (hg:h.get b=some (dA enc cs o d)) (hr:o+d.size≤cs.length) (hs:d.size<2 ^ 38) (h0:d.size≠0) :
 C prg 97 [.sl b o d.size c,.fn f caps] h λv h'=>∃ d',PermIn 0 d.size d d'∧SortedIn (ltK κ) 0 d.size d'∧Mod h.next h h' b (dA enc cs o d'):=by
 refine HH pf97 ?_
 refine ab (ah (Mi0) ?_)
 have wu:IntKind.u64.wrap ((d.size:Nat):Int)=((d.size:Nat):Int):=kw om
 refine aX (aP 4 (Mi1 wu) rfl (Zi1 wu) (Mi1 wu) (tP (u:=d.size) om om) λv h1 hq=>?_)
 obtain⟨rfl,rfl⟩:=hq
 have hlg:Nat.log2 d.size<38:=(Ej om).2 hs
 have hpd:=FQ d.size (c:=c) (a:=0) (m:=d.size) (l:=Nat.log2 d.size+1) om hc hg hr (dL _) (ae _) hs om (.inl rfl)
 refine aP 1 (Mi0) rfl (Zi0) (Mi0) (hpd) λv h2 hq=>?_
 refine aW (M0) ?_
 exact⟨.tup [],rfl,hq⟩
end Go.Proofs.YtahepnbflofndaaGreatDoor
