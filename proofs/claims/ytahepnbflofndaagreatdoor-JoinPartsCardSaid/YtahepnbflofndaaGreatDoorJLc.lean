/- slices.Sort of ints -/
import Derived.Test.YtahepnbflofndaaGreatDoorJRf
import Derived.Test.YtahepnbflofndaaGreatDoorJAmA
import Derived.Test.YtahepnbflofndaaGreatDoorJLa
import Derived.Test.YtahepnbflofndaaGreatDoorJLb
set_option linter.all false
namespace Go.Proofs.YtahepnbflofndaaGreatDoor
open Go.Am
open Go.Sort (swp ltInt)
theorem cnan_ok {h:AH}{x:Int}:C prg 200 [.int .i64 x] h λv h'=>v=.bool false∧h'=h:=by
 refine HH pf200 ?_
 refine ab (ah (Mi0) ?_)
 have e:(!decide (x=x))=false:=by simp
 refine ab (ah (Mi1 e) ?_)
 exact bt ⟨.bool false,(by simp only[rs,rf200,am,aD,simprocAttr,bL,decide_true]<;>rfl),rfl,rfl⟩
theorem fk {h:AH}{x y:Int}:C prg 158 [.int .i64 x,.int .i64 y] h λv h'=>v=.bool (ltInt x y)∧h'=h:=by
 refine HH pf158 ?_
 refine ab (ah (Mi0) ?_)
 refine ab (aX (Gy ?_))
 simp only[am,aD,simprocAttr,bL]
 refine G.call ?_
 simp only[am,aD,simprocAttr,bL]
 refine cnan_ok.mono λv h' ⟨ev,eh⟩=>?_
 subst ev eh
 refine aW (by simp only[am,aD,simprocAttr,bL]; rfl) ?_
 exact bt ⟨.bool (ltInt x y),(by simp only[rs,rf158,am,aD,simprocAttr,bL,ltInt]<;>rfl),rfl,rfl⟩
open Go.Sort (insInner insOuter insertionSort)
theorem Hj {h:AH}{b o c a m:Nat}{cs:List AV}{d:Array Int} (hg:h.get b=some (cT cs o d)) (hr:o+d.size≤cs.length) (hm:m≤d.size) (hs:d.size<2 ^ 40) (ha:a<2 ^ 40) :
 C prg 188 [.sl b o d.size c,.int .i64 (a:Nat),.int .i64 (m:Nat)] h λv h'=>Upd h h' b (cT cs o (insertionSort ltInt d a m)):=by
 refine HH pf188 ?_
 have w1:IntKind.i64.wrap (((a:Nat):Int)+1)=((a+1:Nat):Int):=bE om om
 refine ab (ah (Mi1 w1) ?_)
 refine aU (cf (λn ts h1=>∃ (i:Nat) (d1:Array Int),n=m-i∧a+1≤i∧Upd h h1 b (cT cs o d1)∧d1.size=d.size∧insOuter ltInt a m i d1=insertionSort ltInt d a m ∧
  aB ts 0=.sl b o d.size c∧aB ts 1=.int .i64 (a:Nat)∧aB ts 2=.int .i64 (m:Nat)∧aB ts 6=.int .i64 (i:Nat)) ?_ (n:=m-(a+1)) ⟨a+1,d,rfl,ae _,HG hg,rfl,rfl,Zi0,Zi0,Zi0,Zi0⟩)
 rintro n ts h1 ⟨i,d1,rfl,hai,hu,hz,hD,e0,e1,e2,e6⟩
 refine ab (ab (ah (M4 e0 e1 e2 e6) ?_))
 refine bg (t:=decide (i<m)) (Z1 @bi) (λq=>?_) λq=>?_
 ·have q:i<m:=aF q
  refine aN (ab (aU (ab (ah (M4 e0 e1 e2 e6) ?_))))
  refine aU (cf (λn ts h2=>∃ (j:Nat) (d2:Array Int),n=j∧j≤i∧Upd h h2 b (cT cs o d2)∧d2.size=d.size∧insInner ltInt a j d2=insInner ltInt a i d1 ∧
   aB ts 0=.sl b o d.size c∧aB ts 1=.int .i64 (a:Nat)∧aB ts 2=.int .i64 (m:Nat)∧aB ts 6=.int .i64 (i:Nat)∧aB ts 7=.int .i64 (j:Nat)) ?_ (n:=i) ⟨i,d1,rfl,ae _,hu,hz,rfl,Z1 e0,Z1 e1,Z1 e2,Z1 e6,Z1 e6⟩)
  clear e0 e1 e2 e6
  rintro n ts h2 ⟨j,d2,rfl,hji,hu2,hz2,hD2,e0,e1,e2,e6,e7⟩
  by_cases hja:a<n
  ·obtain⟨j,rfl⟩:∃ k,n=k+1:=⟨n-1,om⟩
   have c1:decide (((a:Nat):Int)<((j+1:Nat):Int))=true:=by simp; omega
   have w2:IntKind.i64.wrap (((j+1:Nat):Int)-1)=((j:Nat):Int):=by rw[bE om om]; omega
   have i1:bN ((j+1:Nat):Int) d.size=some (j+1):=aO om
   have i2:bN ((j:Nat):Int) d.size=some j:=aO om
   have r1:=cq (i:=j+1) hu2.get om om
   have r2:=cq (i:=j) hu2.get om om
   refine ab (ab (aX (aP 13 (M12 e0 e1 e2 e6 e7 c1 w2 i1 i2 r1 r2 @ai) rfl (Z12 e0 e1 e2 e6 e7 c1 w2 i1 i2 r1 r2 @ai) (M12 e0 e1 e2 e6 e7 c1 w2 i1 i2 r1 r2 @ai) (fk) λv h' hq=>?_)))
   obtain⟨rfl,rfl⟩:=hq
   refine aW (by simp only[am,aD,simprocAttr,c1]; rfl) ?_
   refine bg (t:=ltInt d2[j+1]! d2[j]!) (Z0) (λq2=>?_) λq2=>?_
   ·obtain⟨m1,m2,s1,s2,u2⟩:=eX (i:=j+1) (j:=j) hu2.get om om om
    refine aN (ab (aU (ah (M14 e0 e1 e2 e6 e7 w2 i1 i2 r1 r2 s1 s2 @ai @ai) ?_)))
    refine ah (M14 e0 e1 e2 e6 e7 w2 i1 i2 r1 r2 s1 s2 @ai @ai) ?_
    refine⟨j,om,j,swp d2 (j+1) j,rfl,om,hu2.trans u2,by rw[cA,hz2],?_,Z1 e0,Z1 e1,Z1 e2,Z1 e6,Z2 e7 w2⟩
    rw[← hD2,insInner,if_pos (by simp [q2]; omega)]
   ·refine bM ⟨λ_=>?_,λe=>absurd rfl e⟩
    have w3:IntKind.i64.wrap (((i:Nat):Int)+1)=((i+1:Nat):Int):=bE om om
    refine ah (M5 e0 e1 e2 e6 w3) ?_
    refine⟨m-(i+1),om,i+1,d2,rfl,om,hu2,hz2,?_,Z1 e0,Z1 e1,Z1 e2,Z2 e6 w3⟩
    have e:d2=insInner ltInt a i d1:=by rw[← hD2,insInner,if_neg (by simp [q2])]
    rw[e,← hD]
    conv=>rhs; rw[insOuter,if_pos q]
  ·have c1:decide (((a:Nat):Int)<((n:Nat):Int))=false:=by simp; omega
   refine ab (ab (aX (dF 13 (M6 e0 e1 e2 e6 e7 c1) rfl (Z1 c1) ?_)))
   refine aW (by simp only[am,aD,simprocAttr,c1]; rfl) ?_
   refine cU (Z0) (bM ⟨λ_=>?_,λe=>absurd rfl e⟩)
   have w3:IntKind.i64.wrap (((i:Nat):Int)+1)=((i+1:Nat):Int):=bE om om
   refine ah (M5 e0 e1 e2 e6 w3) ?_
   refine⟨m-(i+1),om,i+1,d2,rfl,om,hu2,hz2,?_,Z1 e0,Z1 e1,Z1 e2,Z2 e6 w3⟩
   have e:d2=insInner ltInt a i d1:=by
    rw[← hD2]
    cases n with
    | zero=>rfl
    | succ n=>rw[insInner,if_neg (by simp; omega)]
   rw[e,← hD]
   conv=>rhs; rw[insOuter,if_pos q]
 ·have q:¬ i<m:=aE q
  refine bM ⟨λ_=>⟨.tup [],rfl,?_⟩,λe=>absurd rfl e⟩
  have e:d1=insertionSort ltInt d a m:=by rw[← hD,insOuter,if_neg q]
  rw[← e]
  exact hu
open Go.Am
open Go.Sort (swp ltInt siftDown heapBuild heapPop heapSort)
theorem yh {h:AH}{b o c lo hi first:Nat}{cs:List AV}{d:Array Int} (hg:h.get b=some (cT cs o d)) (hr:o+d.size≤cs.length) (hm:first+hi≤d.size) (hs:d.size<2 ^ 40) (hlo:lo<2 ^ 40) :
 C prg 216 [.sl b o d.size c,.int .i64 (lo:Nat),.int .i64 (hi:Nat),.int .i64 (first:Nat)] h λv h'=>Upd h h' b (cT cs o (siftDown ltInt hi first lo d)):=by
 refine HH pf216 ?_
 refine ab (ah (Mi0) ?_)
 refine aU (cf (λn ts h1=>∃ (r:Nat) (d1:Array Int),n=hi-r∧r<2 ^ 40∧Upd h h1 b (cT cs o d1)∧d1.size=d.size∧siftDown ltInt hi first r d1=siftDown ltInt hi first lo d ∧
  aB ts 0=.sl b o d.size c∧aB ts 2=.int .i64 (hi:Nat)∧aB ts 3=.int .i64 (first:Nat)∧aB ts 8=.int .i64 (r:Nat)) ?_ (n:=hi-lo) ⟨lo,d,rfl,hlo,HG hg,rfl,rfl,Zi0,Zi0,Zi0,Zi0⟩)
 rintro n ts h1 ⟨r,d1,rfl,hrl,hu,hz,hD,e0,e2,e3,e8⟩
 have w0:IntKind.i64.wrap (2*((r:Nat):Int))=((2*r:Nat):Int):=by rw[bE om om]; omega
 have w1:IntKind.i64.wrap (((2*r:Nat):Int)+1)=((2*r+1:Nat):Int):=by rw[bE om om]; omega
 refine aU (ab (ah (M6 e0 e2 e3 e8 w0 w1) ?_))
 refine ab (ab (ah (M6 e0 e2 e3 e8 w0 w1) ?_))
 refine bg (t:=decide (hi≤2*r+1)) (Z1 @me) (λq=>?_) λq=>?_
 ·have q:hi≤2*r+1:=aF q
  refine bM ⟨λe=>absurd e (by decide),λ_=>⟨λ_=>⟨.tup [],rfl,?_⟩,λe=>absurd rfl e⟩⟩
  have e:d1=siftDown ltInt hi first lo d:=by rw[← hD]; conv=>rhs; rw[siftDown,dif_pos q]
  rw[← e]
  exact hu
 have q:¬ hi≤2*r+1:=aE q
 refine aN (ab (cZ (λts h2=>∃ k,(k=2*r+1∨k=2*r+2)∧k<hi∧Upd h h2 b (cT cs o d1)∧aB ts 0=.sl b o d.size c∧aB ts 2=.int .i64 (hi:Nat)∧aB ts 3=.int .i64 (first:Nat)∧aB ts 8=.int .i64 (r:Nat)∧aB ts 9=.int .i64 (k:Nat) ∧
  siftDown ltInt hi first r d1=if ltInt d1[first+r]! d1[first+k]! = true then siftDown ltInt hi first k (swp d1 (first+r) (first+k)) else d1) ?_ ?_))
 ·have w2:IntKind.i64.wrap (((2*r+1:Nat):Int)+1)=((2*r+2:Nat):Int):=by rw[bE om om]; omega
  have w3:IntKind.i64.wrap (((first:Nat):Int)+((2*r+1:Nat):Int))=((first+(2*r+1):Nat):Int):=by rw[bE om om]; omega
  have w4:IntKind.i64.wrap (((first+(2*r+1):Nat):Int)+1)=((first+(2*r+2):Nat):Int):=by rw[bE om om]; omega
  by_cases q2:2*r+2<hi
  ·have c1:decide (((2*r+2:Nat):Int)<((hi:Nat):Int))=true:=by simp; omega
   have i1:bN ((first+(2*r+1):Nat):Int) d.size=some (first+(2*r+1)):=aO om
   have i2:bN ((first+(2*r+2):Nat):Int) d.size=some (first+(2*r+2)):=aO om
   have r1:=cq (i:=first+(2*r+1)) hu.get om om
   have r2:=cq (i:=first+(2*r+2)) hu.get om om
   refine ab (aX (aP 18 (by simp only[am,aD,simprocAttr,e0,e2,e3,e8,c1,w0,w1,w2,w3,w4,i1,i2,r1,r2,ai]<;>rfl) rfl (by simp only[am,aD,simprocAttr,e0,e2,e3,e8,c1,w0,w1,w2,w3,w4,i1,i2,r1,r2,ai]) (by simp only[am,aD,simprocAttr,e0,e2,e3,e8,c1,w0,w1,w2,w3,w4,i1,i2,r1,r2,ai]<;>rfl) (fk) λv h' hq=>?_))
   obtain⟨rfl,rfl⟩:=hq
   refine aW (by simp only[am,aD,simprocAttr,c1]; rfl) ?_
   refine bg (t:=ltInt d1[first+(2*r+1)]! d1[first+(2*r+2)]!) (Z0) (λq3=>?_) λq3=>?_
   ·refine ah (M1 w2) ?_
    refine⟨2*r+2,.inr rfl,q2,hu,Z1 e0,Z1 e2,Z1 e3,Z1 e8,Z0,?_⟩
    conv=>lhs; rw[siftDown,dif_neg q,if_pos (by simp only[aq,aj]; exact⟨q2,q3⟩)]
    cases ltInt d1[first+r]! d1[first+(2*r+2)]! with
    | true=>simp [q2]
    | false=>simp
   ·refine aN ⟨2*r+1,.inl rfl,om,hu,Z1 e0,Z1 e2,Z1 e3,Z1 e8,Z0,?_⟩
    conv=>lhs; rw[siftDown,dif_neg q,if_neg (by simp only[aq,aj]; intro x; rw[show first+(2*r+1)+1=first+(2*r+2) by omega,q3] at x; exact absurd x.2 (by decide))]
    cases ltInt d1[first+r]! d1[first+(2*r+1)]! with
    | true=>simp
    | false=>simp
  ·have c1:decide (((2*r+2:Nat):Int)<((hi:Nat):Int))=false:=by simp; omega
   refine ab (aX (dF 18 (by simp only[am,aD,simprocAttr,e0,e2,e3,e8,c1,w0,w1,w2]; rfl) rfl (Z1 c1) ?_))
   refine aW (by simp only[am,aD,simprocAttr,c1]; rfl) ?_
   refine cU (Z0) ?_
   refine aN ⟨2*r+1,.inl rfl,om,hu,Z1 e0,Z1 e2,Z1 e3,Z1 e8,Z0,?_⟩
   conv=>lhs; rw[siftDown,dif_neg q,if_neg (by simp only[aq,aj]; omega)]
   cases ltInt d1[first+r]! d1[first+(2*r+1)]! with
   | true=>simp
   | false=>simp
 clear e0 e2 e3 e8
 rintro ts h2 ⟨k,hk,hkh,hu2,e0,e2,e3,e8,e9,hE⟩
 have w3:IntKind.i64.wrap (((first:Nat):Int)+((r:Nat):Int))=((first+r:Nat):Int):=by rw[bE om om]; omega
 have w4:IntKind.i64.wrap (((first:Nat):Int)+((k:Nat):Int))=((first+k:Nat):Int):=by rw[bE om om]; omega
 have i1:bN ((first+r:Nat):Int) d.size=some (first+r):=aO om
 have i2:bN ((first+k:Nat):Int) d.size=some (first+k):=aO om
 have r1:=cq (i:=first+r) hu2.get om om
 have r2:=cq (i:=first+k) hu2.get om om
 refine ab (ab (aX (aP 12 (M12 e0 e2 e3 e8 e9 w3 w4 i1 i2 r1 r2 @ai) rfl (Z12 e0 e2 e3 e8 e9 w3 w4 i1 i2 r1 r2 @ai) (M12 e0 e2 e3 e8 e9 w3 w4 i1 i2 r1 r2 @ai) (fk) λv h' hq=>?_)))
 obtain⟨rfl,rfl⟩:=hq
 refine aW (by simp only[am,aD,simprocAttr]; rfl) ?_
 refine bg (t:=!ltInt d1[first+r]! d1[first+k]!) (Z0) (λq3=>?_) λq3=>?_
 ·have q3:ltInt d1[first+r]! d1[first+k]! = false:=by simpa using q3
  refine bt ⟨.tup [],rfl,?_⟩
  have e:d1=siftDown ltInt hi first lo d:=by rw[← hD,hE,if_neg (by rw[q3]; decide)]
  rw[← e]
  exact hu2
 ·have q3:ltInt d1[first+r]! d1[first+k]! = true:=by simpa using q3
  obtain⟨m1,m2,s1,s2,u2⟩:=eX (i:=first+r) (j:=first+k) hu2.get om om om
  refine aN (ab (ah (M14 e0 e2 e3 e8 e9 w3 w4 i1 i2 r1 r2 s1 s2 @ai) ?_))
  refine ah (M1 e9) ?_
  exact⟨hi-k,om,k,swp d1 (first+r) (first+k),rfl,om,hu2.trans u2,by rw[cA,hz],by rw[← hD,hE,if_pos q3],Z1 e0,Z1 e2,Z1 e3,Z1 e9⟩
theorem gH (lt:Int→Int→Bool) (hi first:Nat):∀ (n r:Nat) (d:Array Int),hi-r≤n→(siftDown lt hi first r d).size=d.size
 | n,r,d,hn=>by
   unfold siftDown
   repeat' split
   ·rfl
   ·rfl
   ·cases n with
    | zero=>omega
    | succ n=>rw[gH lt hi first n _ _ om,cA]
   ·rfl
   ·rfl
   ·cases n with
    | zero=>omega
    | succ n=>rw[gH lt hi first n _ _ om,cA]
theorem mH (lt:Int→Int→Bool) (hi first:Nat):∀ (k:Nat) (d:Array Int),(heapBuild lt hi first k d).size=d.size
 | 0,_=>rfl
 | k+1,d=>by rw[heapBuild,mH lt hi first k,gH lt hi first _ _ _ (ae _)]
theorem GA {n:Nat}:(((n:Nat):Int)-1).tdiv 2=if n=0 then 0 else (((n-1) / 2:Nat):Int):=by
 cases n with
 | zero=>rfl
 | succ n =>
   have e:((n+1:Nat):Int)-1=(n:Nat):=om
   rw[if_neg om,e,Int.tdiv_eq_ediv_of_nonneg om]
   rfl
theorem FF {h:AH}{b o c a m:Nat}{cs:List AV}{d:Array Int} (hg:h.get b=some (cT cs o d)) (hr:o+d.size≤cs.length) (ham:a≤m) (hm:m≤d.size) (hs:d.size<2 ^ 40) :
 C prg 189 [.sl b o d.size c,.int .i64 (a:Nat),.int .i64 (m:Nat)] h λv h'=>Upd h h' b (cT cs o (heapSort ltInt d a m)):=by
 refine HH pf189 ?_
 refine ab (ah (Mi0) ?_)
 refine ab (ah (Mi0) ?_)
 have w0:IntKind.i64.wrap (((m:Nat):Int)-((a:Nat):Int))=((m-a:Nat):Int):=by rw[bE om om]; omega
 refine ab (ah (Mi1 w0) ?_)
 have w1:IntKind.i64.wrap (((m-a:Nat):Int)-1)=((m-a:Nat):Int)-1:=bE om om
 have w2:IntKind.i64.wrap ((((m-a:Nat):Int)-1).tdiv 2)=(((m-a-1) / 2+1:Nat):Int)-1:=by
  rw[GA]
  split
  ·rename_i e; rw[e]; rfl
  ·rw[bE om om]; omega
 have z2:¬ (2:Int)=0:=by decide
 refine ab (ab (ah (Mi4 w0 w1 w2 z2) ?_))
 refine cZ (λts h1=>Upd h h1 b (cT cs o (heapBuild ltInt (m-a) a ((m-a-1) / 2+1) d))∧aB ts 0=.sl b o d.size c∧aB ts 6=.int .i64 (a:Nat)∧aB ts 7=.int .i64 0∧aB ts 8=.int .i64 ((m-a:Nat):Int))
  (aU (cf (λn ts h1=>∃ d1,Upd h h1 b (cT cs o d1)∧d1.size=d.size∧n≤(m-a-1) / 2+1∧heapBuild ltInt (m-a) a n d1=heapBuild ltInt (m-a) a ((m-a-1) / 2+1) d∧aB ts 0=.sl b o d.size c∧aB ts 6=.int .i64 (a:Nat)∧aB ts 7=.int .i64 0∧aB ts 8=.int .i64 ((m-a:Nat):Int)∧aB ts 9=.int .i64 (((n:Nat):Int)-1)) ?_ (n:=(m-a-1) / 2+1)
   ⟨d,HG hg,rfl,ae _,rfl,Zi0,Zi0,Zi0,Zi0,Zi0⟩)) ?_
 ·rintro n ts h1 ⟨d1,hu,hz,hn,hD,e0,e6,e7,e8,e9⟩
  refine ab (ab (ah (M1 e9) ?_))
  refine bg (t:=decide (0<n)) (by simp only[am,aD,simprocAttr]; exact congrArg AV.bool (by simp only[decide_eq_decide]; omega)) (λq=>?_) λq=>?_
  ·have q:0<n:=aF q
   obtain⟨n,rfl⟩:∃ k,n=k+1:=⟨n-1,om⟩
   have e1:((n+1:Nat):Int)-1=((n:Nat):Int):=om
   rw[e1] at e9
   have w3:IntKind.i64.wrap (((n:Nat):Int)-1)=((n:Nat):Int)-1:=bE om om
   have hsift:=yh (c:=c) (lo:=n) (hi:=m-a) (first:=a) hu.get om om om om
   rw[hz] at hsift
   refine aN (ab (aU (aX (aP 4 (M5 e0 e6 e7 e8 e9) rfl (Z5 e0 e6 e7 e8 e9) (M5 e0 e6 e7 e8 e9) (hsift) λv h2 hu2=>?_))))
   refine aW (by simp only[am,aD,simprocAttr]; rfl) ?_
   refine ah (M2 e9 w3) ?_
   exact⟨n,om,siftDown ltInt (m-a) a n d1,hu.trans hu2,by rw[gH _ _ _ _ _ _ (ae _),hz],om,by rw[← hD,heapBuild],Z1 e0,Z1 e6,Z1 e7,Z1 e8,Z2 e9 w3⟩
  ·have q:n=0:=by have:=aE q; omega
   subst q
   refine bM ⟨λ_=>⟨?_,Z1 e0,Z1 e6,Z1 e7,Z1 e8⟩,λe=>absurd rfl e⟩
   rw[← hD,heapBuild]
   exact hu
 rintro ts h1 ⟨hu,e0,e6,e7,e8⟩
 generalize hB:heapBuild ltInt (m-a) a ((m-a-1) / 2+1) d=dB at hu
 have hzB:dB.size=d.size:=by rw[← hB,mH]
 have hfin:heapSort ltInt d a m=heapPop ltInt a (m-a) dB:=by rw[heapSort,hB]
 rw[hfin]
 refine ab (ah (M2 e8 w1) ?_)
 refine aU (cf (λn ts h1=>∃ d1,Upd h h1 b (cT cs o d1)∧d1.size=d.size∧n≤m-a∧heapPop ltInt a n d1=heapPop ltInt a (m-a) dB∧aB ts 0=.sl b o d.size c∧aB ts 6=.int .i64 (a:Nat)∧aB ts 7=.int .i64 0∧aB ts 8=.int .i64 ((m-a:Nat):Int)∧aB ts 10=.int .i64 (((n:Nat):Int)-1)) ?_ (n:=m-a)
  ⟨dB,hu,hzB,ae _,rfl,Z1 e0,Z1 e6,Z1 e7,Z1 e8,Z2 e8 w1⟩)
 clear e0 e6 e7 e8
 rintro n ts h1 ⟨d1,hu,hz,hn,hD,e0,e6,e7,e8,e10⟩
 refine ab (ab (ah (M1 e10) ?_))
 refine bg (t:=decide (0<n)) (by simp only[am,aD,simprocAttr]; exact congrArg AV.bool (by simp only[decide_eq_decide]; omega)) (λq=>?_) λq=>?_
 ·have q:0<n:=aF q
  obtain⟨n,rfl⟩:∃ k,n=k+1:=⟨n-1,om⟩
  have e1:((n+1:Nat):Int)-1=((n:Nat):Int):=om
  rw[e1] at e10
  have w3:IntKind.i64.wrap (((n:Nat):Int)-1)=((n:Nat):Int)-1:=bE om om
  have w4:IntKind.i64.wrap (((a:Nat):Int)+((n:Nat):Int))=((a+n:Nat):Int):=by rw[bE om om]; omega
  have i1:bN ((a+n:Nat):Int) d.size=some (a+n):=aO om
  have i2:bN ((a:Nat):Int) d.size=some a:=aO om
  have r1:=cq (i:=a+n) hu.get om om
  have r2:=cq (i:=a) hu.get om om
  obtain⟨m1,m2,s1,s2,u2⟩:=eX (i:=a) (j:=a+n) hu.get om om om
  have hsz:(swp d1 a (a+n)).size=d.size:=by rw[cA,hz]
  have hsift:=yh (c:=c) (lo:=0) (hi:=n) (first:=a) u2.get om om om om
  rw[hsz] at hsift
  refine aN (ab (aU (ab (ah (M14 e0 e6 e7 e8 e10 w4 i1 i2 r1 r2 s1 s2 @ai @ai) ?_))))
  refine aX (aP 4 (M5 e0 e6 e7 e8 e10) rfl (Z5 e0 e6 e7 e8 e10) (M5 e0 e6 e7 e8 e10) (hsift) λv h2 hu2=>?_)
  refine aW (by simp only[am,aD,simprocAttr]; rfl) ?_
  refine ah (M2 e10 w3) ?_
  exact⟨n,om,siftDown ltInt n a 0 (swp d1 a (a+n)),(hu.trans u2).trans hu2,by rw[gH _ _ _ _ _ _ (ae _),hsz],om,by rw[← hD,heapPop],Z1 e0,Z1 e6,Z1 e7,Z1 e8,Z2 e10 w3⟩
 ·have q:n=0:=by have:=aE q; omega
  subst q
  refine bM ⟨λ_=>⟨.tup [],rfl,?_⟩,λe=>absurd rfl e⟩
  rw[← hD,heapPop]
  exact hu
open Go.Am
open Go.Sort (swp ltInt reverseLoop reverseRange scanUp scanDown partLoop partition partEqLoop partitionEqual scanUp_spec scanDown_spec scanUp_ge scanDown_le partLoop_eq partEqLoop_eq)
theorem lQ (p q:Int→Bool) (hq:∀ x,q x=!p x) (d:Array Int) {i j:Nat} (h0:0<i) (hij:i≤j+1) (h:¬ scanDown q d (scanUp p d j i) j<scanUp p d j i):scanUp p d j i<scanDown q d (scanUp p d j i) j :=
 ((Go.Sort.round_facts p q hq d (i-1) (j+1) i j om hij (λt h1 h2=>by omega) (λt h1 h2=>by omega)).2.2.2.2.2.2 h).2.2
theorem iU (p:Int→Bool) (d:Array Int) (i:Nat):∀ j:Nat,i≤j+1→i≤scanDown p d i j+1
 | 0,h=>h
 | j+1,h=>by
   unfold scanDown
   split
   ·rename_i q
    simp only[aq,aj] at q
    exact iU p d i j q.1
   ·exact h
theorem GT {h:AH}{b o c a m:Nat}{cs:List AV}{d:Array Int} (hg:h.get b=some (cT cs o d)) (hr:o+d.size≤cs.length) (ham:a<m) (hm:m≤d.size) (hs:d.size<2 ^ 40) :
 C prg 192 [.sl b o d.size c,.int .i64 (a:Nat),.int .i64 (m:Nat)] h λv h'=>Upd h h' b (cT cs o (reverseRange d a m)):=by
 refine HH pf192 ?_
 have w0:IntKind.i64.wrap (((m:Nat):Int)-1)=((m-1:Nat):Int):=by rw[bE om om]; omega
 refine ab (ah (Mi0) ?_)
 refine ab (ah (Mi1 w0) ?_)
 refine aU (cf (λn ts h1=>∃ (i j:Nat) (d1:Array Int),n=j-i∧a≤i∧j<m∧Upd h h1 b (cT cs o d1)∧d1.size=d.size∧reverseLoop i j d1=reverseRange d a m∧aB ts 0=.sl b o d.size c∧aB ts 6=.int .i64 (i:Nat)∧aB ts 7=.int .i64 (j:Nat)) ?_ (n:=m-1-a)
  ⟨a,m-1,d,rfl,ae _,om,HG hg,rfl,rfl,Zi0,Zi0,Zi1 w0⟩)
 rintro n ts h1 ⟨i,j,d1,rfl,hi,hj,hu,hz,hD,e0,e6,e7⟩
 refine ab (ab (ah (M3 e0 e6 e7) ?_))
 refine bg (t:=decide (i<j)) (Z1 @bi) (λq=>?_) λq=>?_
 ·have q:i<j:=aF q
  have x1:bN ((i:Nat):Int) d.size=some i:=aO om
  have x2:bN ((j:Nat):Int) d.size=some j:=aO om
  have r1:=cq (i:=i) hu.get om om
  have r2:=cq (i:=j) hu.get om om
  obtain⟨m1,m2,s1,s2,u2⟩:=eX (i:=i) (j:=j) hu.get om om om
  refine aN (aU (ab (ah (M10 e0 e6 e7 x1 x2 r1 r2 s1 s2 @ai) ?_)))
  have w1:IntKind.i64.wrap (((i:Nat):Int)+1)=((i+1:Nat):Int):=bE om om
  have w2:IntKind.i64.wrap (((j:Nat):Int)-1)=((j-1:Nat):Int):=by rw[bE om om]; omega
  refine ab (ah (M4 e0 e6 e7 w1) ?_)
  refine ah (M4 e0 e6 e7 w2) ?_
  refine⟨j-1-(i+1),om,i+1,j-1,swp d1 i j,rfl,om,om,hu.trans u2,by rw[cA,hz],?_,Z1 e0,Z2 e6 w1,Z2 e7 w2⟩
  rw[← hD]
  conv=>rhs; rw[reverseLoop,if_pos q]
 ·have q:¬ i<j:=aE q
  refine bM ⟨λ_=>⟨.tup [],rfl,?_⟩,λe=>absurd rfl e⟩
  have e:d1=reverseRange d a m:=by rw[← hD,reverseLoop,if_neg q]
  rw[← e]
  exact hu
theorem Fh {h:AH}{b o c a m piv:Nat}{cs:List AV}{d:Array Int} (hg:h.get b=some (cT cs o d)) (hr:o+d.size≤cs.length) (hp:a≤piv) (hpm:piv<m) (hm:m≤d.size) (hs:d.size<2 ^ 40) :
 C prg 195 [.sl b o d.size c,.int .i64 (a:Nat),.int .i64 (m:Nat),.int .i64 (piv:Nat)] h λv h'=>v=.tup [.int .i64 ((partition ltInt d a m piv).1:Nat),.bool (partition ltInt d a m piv).2.1]∧Upd h h' b (cT cs o (partition ltInt d a m piv).2.2):=by
 refine HH pf195 ?_
 refine ab (ah (Mi0) ?_)
 have w0:IntKind.i64.wrap (((m:Nat):Int)-1)=((m-1:Nat):Int):=by rw[bE om om]; omega
 have w1:IntKind.i64.wrap (((a:Nat):Int)+1)=((a+1:Nat):Int):=bE om om
 have hu0:=HG hg
 have x1:bN ((a:Nat):Int) d.size=some a:=aO om
 have x2:bN ((piv:Nat):Int) d.size=some piv:=aO om
 have r1:=cq (i:=a) hu0.get om om
 have r2:=cq (i:=piv) hu0.get om om
 obtain⟨m1,m2,s1,s2,u2⟩:=eX (i:=a) (j:=piv) hu0.get om om om
 refine ab (ah (Mi7 x1 x2 r1 r2 s1 s2 @ai) ?_)
 refine ab (fJ (λts h1=>h1=m2∧aB ts 0=.sl b o d.size c∧aB ts 1=.int .i64 (a:Nat)∧aB ts 10=.int .i64 ((a+1:Nat):Int)∧aB ts 11=.int .i64 ((m-1:Nat):Int)) (by simp only[am,aD,simprocAttr,bL,w0,w1]) ?_)
 have hu:=u2
 have hz:(swp d a piv).size=d.size:=cA ..
 have hP1:partition ltInt d a m piv=if (scanDown (λx=>!ltInt x (swp d a piv)[a]!) (swp d a piv) (scanUp (λx=>ltInt x (swp d a piv)[a]!) (swp d a piv) (m-1) (a+1)) (m-1))<(scanUp (λx=>ltInt x (swp d a piv)[a]!) (swp d a piv) (m-1) (a+1)) then ((scanDown (λx=>!ltInt x (swp d a piv)[a]!) (swp d a piv) (scanUp (λx=>ltInt x (swp d a piv)[a]!) (swp d a piv) (m-1) (a+1)) (m-1)),true,swp (swp d a piv) (scanDown (λx=>!ltInt x (swp d a piv)[a]!) (swp d a piv) (scanUp (λx=>ltInt x (swp d a piv)[a]!) (swp d a piv) (m-1) (a+1)) (m-1)) a) else ((partLoop ltInt a ((scanUp (λx=>ltInt x (swp d a piv)[a]!) (swp d a piv) (m-1) (a+1))+1) ((scanDown (λx=>!ltInt x (swp d a piv)[a]!) (swp d a piv) (scanUp (λx=>ltInt x (swp d a piv)[a]!) (swp d a piv) (m-1) (a+1)) (m-1))-1) (swp (swp d a piv) (scanUp (λx=>ltInt x (swp d a piv)[a]!) (swp d a piv) (m-1) (a+1)) (scanDown (λx=>!ltInt x (swp d a piv)[a]!) (swp d a piv) (scanUp (λx=>ltInt x (swp d a piv)[a]!) (swp d a piv) (m-1) (a+1)) (m-1)))).1,false,swp (partLoop ltInt a ((scanUp (λx=>ltInt x (swp d a piv)[a]!) (swp d a piv) (m-1) (a+1))+1) ((scanDown (λx=>!ltInt x (swp d a piv)[a]!) (swp d a piv) (scanUp (λx=>ltInt x (swp d a piv)[a]!) (swp d a piv) (m-1) (a+1)) (m-1))-1) (swp (swp d a piv) (scanUp (λx=>ltInt x (swp d a piv)[a]!) (swp d a piv) (m-1) (a+1)) (scanDown (λx=>!ltInt x (swp d a piv)[a]!) (swp d a piv) (scanUp (λx=>ltInt x (swp d a piv)[a]!) (swp d a piv) (m-1) (a+1)) (m-1)))).2 (partLoop ltInt a ((scanUp (λx=>ltInt x (swp d a piv)[a]!) (swp d a piv) (m-1) (a+1))+1) ((scanDown (λx=>!ltInt x (swp d a piv)[a]!) (swp d a piv) (scanUp (λx=>ltInt x (swp d a piv)[a]!) (swp d a piv) (m-1) (a+1)) (m-1))-1) (swp (swp d a piv) (scanUp (λx=>ltInt x (swp d a piv)[a]!) (swp d a piv) (m-1) (a+1)) (scanDown (λx=>!ltInt x (swp d a piv)[a]!) (swp d a piv) (scanUp (λx=>ltInt x (swp d a piv)[a]!) (swp d a piv) (m-1) (a+1)) (m-1)))).1 a):=rfl
 rw[hP1]
 clear hP1 u2 s1 s2 r1 r2 x1 x2 hu0 hg
 generalize swp d a piv=d1 at *
 rintro ts h1 ⟨rfl,e0,e1,em,ef⟩
 have hj0:m-1<m:=om
 generalize hj:m-1=j at *
 have ha1:a+1≤j+1:=om
 generalize hi:a+1=i at *
 refine ab (cZ (λts h2=>h1=h2∧aB ts 0=.sl b o d.size c∧aB ts 1=.int .i64 (a:Nat)∧aB ts 10=.int .i64 (scanUp (λx=>ltInt x d1[a]!) d1 j i:Nat)∧aB ts 11=.int .i64 (j:Nat))
  (aU (cf (λn ts h2=>h2=h1∧∃ k,n=j+1-k∧i≤k∧k≤j+1∧scanUp (λx=>ltInt x d1[a]!) d1 j k=scanUp (λx=>ltInt x d1[a]!) d1 j i∧aB ts 0=.sl b o d.size c∧aB ts 1=.int .i64 (a:Nat)∧aB ts 10=.int .i64 (k:Nat)∧aB ts 11=.int .i64 (j:Nat)) ?_ (n:=j+1-i) ⟨rfl,i,rfl,om,om,rfl,Z4 e0 e1 em ef,Z4 e0 e1 em ef,Z4 e0 e1 em ef,Z4 e0 e1 em ef⟩)) ?_)
 ·clear e0 e1 em ef
  rintro n ts h2 ⟨rfl,k,rfl,hk,hk2,hS,e0,e1,em,ef⟩
  by_cases q:k≤j
  ·have c1:decide (((k:Nat):Int)≤((j:Nat):Int))=true:=by simp only[aj]; omega
   have x1:bN ((k:Nat):Int) d.size=some k:=aO om
   have x2:bN ((a:Nat):Int) d.size=some a:=aO om
   have r1:=cq (i:=k) hu.get om om
   have r2:=cq (i:=a) hu.get om om
   refine ab (ab (aX (aP 12 (M10 e0 e1 em ef c1 x1 x2 r1 r2 @ai) rfl (Z10 e0 e1 em ef c1 x1 x2 r1 r2 @ai) (M10 e0 e1 em ef c1 x1 x2 r1 r2 @ai) (fk) λv h3 hq=>?_)))
   obtain⟨rfl,rfl⟩:=hq
   refine aW (M1 c1) ?_
   refine bg (t:=ltInt d1[k]! d1[a]!) (Z0) (λq2=>?_) λq2=>?_
   ·have w1:IntKind.i64.wrap (((k:Nat):Int)+1)=((k+1:Nat):Int):=bE om om
    refine aN (aU (ah (M5 e0 e1 em ef w1) ?_))
    refine⟨j+1-(k+1),om,rfl,k+1,rfl,om,om,?_,Z4 e0 e1 em ef,Z4 e0 e1 em ef,Z5 e0 e1 em ef w1,Z4 e0 e1 em ef⟩
    rw[← hS]
    conv=>rhs; rw[scanUp,if_pos (by simp only[aq,aj]; exact⟨q,q2⟩)]
   ·refine bM ⟨λ_=>⟨rfl,Z4 e0 e1 em ef,Z4 e0 e1 em ef,?_,Z4 e0 e1 em ef⟩,λe=>absurd rfl e⟩
    rw[← hS,scanUp,if_neg (by simp only[aq,aj]; rintro⟨_,x⟩; exact absurd (q2.symm.trans x) (by decide))]
    simp only[am,aD,simprocAttr,e0,e1,em,ef]
  ·have c1:decide (((k:Nat):Int)≤((j:Nat):Int))=false:=by simp only[aR]; omega
   refine ab (ab (aX (dF 12 (M5 e0 e1 em ef c1) rfl (Z1 c1) ?_)))
   refine aW (M1 c1) ?_
   refine cU (Z0) (bM ⟨λ_=>⟨rfl,Z4 e0 e1 em ef,Z4 e0 e1 em ef,?_,Z4 e0 e1 em ef⟩,λe=>absurd rfl e⟩)
   rw[← hS,scanUp,if_neg (by simp only[aq,aj]; rintro⟨x,_⟩; exact q x)]
   simp only[am,aD,simprocAttr,e0,e1,em,ef]
 clear e0 e1 em ef
 rintro ts h2 ⟨rfl,e0,e1,em,ef⟩
 have s1:=scanUp_spec (λx=>ltInt x d1[a]!) d1 j _ i rfl
 have s4:=lQ (λx=>ltInt x d1[a]!) (λx=>!ltInt x d1[a]!) (λ_=>rfl) d1 (i:=i) (j:=j) om om
 generalize scanUp (λx=>ltInt x d1[a]!) d1 j i=i2 at *
 have ef':=ef
 have em':=em
 clear em ef
 have em:=ef'
 have ef:=em'
 clear ef' em'
 refine ab (cZ (λts h2=>h1=h2∧aB ts 0=.sl b o d.size c∧aB ts 1=.int .i64 (a:Nat)∧aB ts 11=.int .i64 (scanDown (λx=>!ltInt x d1[a]!) d1 i2 j:Nat)∧aB ts 10=.int .i64 (i2:Nat))
  (aU (cf (λn ts h2=>h2=h1∧∃ k,k=n∧k≤j∧i2≤k+1∧scanDown (λx=>!ltInt x d1[a]!) d1 i2 k=scanDown (λx=>!ltInt x d1[a]!) d1 i2 j∧aB ts 0=.sl b o d.size c∧aB ts 1=.int .i64 (a:Nat)∧aB ts 11=.int .i64 (k:Nat)∧aB ts 10=.int .i64 (i2:Nat)) ?_ (n:=j) ⟨rfl,j,rfl,om,om,rfl,Z4 e0 e1 em ef,Z4 e0 e1 em ef,Z4 e0 e1 em ef,Z4 e0 e1 em ef⟩)) ?_)
 ·clear e0 e1 em ef
  rintro n ts h2 ⟨rfl,k,rfl,hk,hk2,hS,e0,e1,em,ef⟩
  by_cases q:i2≤k
  ·have c1:decide (((i2:Nat):Int)≤((k:Nat):Int))=true:=by simp only[aj]; omega
   have x1:bN ((k:Nat):Int) d.size=some k:=aO om
   have x2:bN ((a:Nat):Int) d.size=some a:=aO om
   have r1:=cq (i:=k) hu.get om om
   have r2:=cq (i:=a) hu.get om om
   refine ab (ab (aX (aP 12 (M10 e0 e1 em ef c1 x1 x2 r1 r2 @ai) rfl (Z10 e0 e1 em ef c1 x1 x2 r1 r2 @ai) (M10 e0 e1 em ef c1 x1 x2 r1 r2 @ai) (fk) λv h3 hq=>?_)))
   obtain⟨rfl,rfl⟩:=hq
   refine aW (M1 c1) ?_
   refine bg (t:=!ltInt d1[k]! d1[a]!) (Z0) (λq2=>?_) λq2=>?_
   ·obtain⟨k,rfl⟩:∃ m,k=m+1:=⟨k-1,om⟩
    have w1:IntKind.i64.wrap (((k+1:Nat):Int)-1)=((k:Nat):Int):=by rw[bE om om]; omega
    refine aN (aU (ah (M5 e0 e1 em ef w1) ?_))
    refine⟨k,om,rfl,k,rfl,om,om,?_,Z4 e0 e1 em ef,Z4 e0 e1 em ef,Z5 e0 e1 em ef w1,Z4 e0 e1 em ef⟩
    rw[← hS]
    conv=>rhs; rw[scanDown,if_pos (by simp only[aq,aj]; exact⟨q,q2⟩)]
   ·refine bM ⟨λ_=>⟨rfl,Z4 e0 e1 em ef,Z4 e0 e1 em ef,?_,Z4 e0 e1 em ef⟩,λe=>absurd rfl e⟩
    obtain⟨k,rfl⟩:∃ m,k=m+1:=⟨k-1,om⟩
    rw[← hS,scanDown,if_neg (by simp only[aq,aj]; rintro⟨_,x⟩; exact absurd (q2.symm.trans x) (by decide))]
    simp only[am,aD,simprocAttr,e0,e1,em,ef]
  ·have c1:decide (((i2:Nat):Int)≤((k:Nat):Int))=false:=by simp only[aR]; omega
   refine ab (ab (aX (dF 12 (M5 e0 e1 em ef c1) rfl (Z1 c1) ?_)))
   refine aW (M1 c1) ?_
   refine cU (Z0) (bM ⟨λ_=>⟨rfl,Z4 e0 e1 em ef,Z4 e0 e1 em ef,?_,Z4 e0 e1 em ef⟩,λe=>absurd rfl e⟩)
   have:scanDown (λx=>!ltInt x d1[a]!) d1 i2 k=k:=by
    cases k with
    | zero=>rfl
    | succ k=>rw[scanDown,if_neg (by simp only[aq,aj]; rintro⟨x,_⟩; exact q x)]
   rw[← hS,this]
   simp only[am,aD,simprocAttr,e0,e1,em,ef]
 clear e0 e1 em ef
 rintro ts h2 ⟨rfl,e0,e1,em,ef⟩
 have s2:=scanDown_le (λx=>!ltInt x d1[a]!) d1 i2 j
 have s3:i2≤scanDown (λx=>!ltInt x d1[a]!) d1 i2 j+1:=iU _ _ _ _ om
 generalize scanDown (λx=>!ltInt x d1[a]!) d1 i2 j=j2 at *
 refine ab (ab (ah (M4 e0 e1 em ef) ?_))
 refine bg (t:=decide (j2<i2)) (Z1 @bi) (λq=>?_) λq=>?_
 ·have q:j2<i2:=aF q
  rw[if_pos q]
  have x1:bN ((j2:Nat):Int) d.size=some j2:=aO om
  have x2:bN ((a:Nat):Int) d.size=some a:=aO om
  have r1:=cq (i:=j2) hu.get om om
  have r2:=cq (i:=a) hu.get om om
  obtain⟨m1,m2,s1,s2,u2⟩:=eX (i:=j2) (j:=a) hu.get om om om
  refine ab (ah (M12 e0 e1 em ef x1 x2 r1 r2 s1 s2 @ai @ai) ?_)
  refine ab (ah (M4 e0 e1 em ef) ?_)
  exact bt ⟨_,(by simp only[rs,rf195,am,aD,simprocAttr,e0,e1,em,ef]<;>rfl),rfl,hu.trans u2⟩
 ·have q:¬ j2<i2:=aE q
  have s5:=s4 q
  rw[if_neg q]
  have x1:bN ((i2:Nat):Int) d.size=some i2:=aO om
  have x2:bN ((j2:Nat):Int) d.size=some j2:=aO om
  have r1:=cq (i:=i2) hu.get om om
  have r2:=cq (i:=j2) hu.get om om
  obtain⟨m1,m2,s1,s2,u2⟩:=eX (i:=i2) (j:=j2) hu.get om om om
  have w2:IntKind.i64.wrap (((i2:Nat):Int)+1)=((i2+1:Nat):Int):=bE om om
  have w3:IntKind.i64.wrap (((j2:Nat):Int)-1)=((j2-1:Nat):Int):=by rw[bE om om]; omega
  refine aN (ab (ah (M12 e0 e1 em ef x1 x2 r1 r2 s1 s2 @ai @ai) ?_))
  refine ab (ah (M5 e0 e1 em ef w2) ?_)
  refine ab (ah (M5 e0 e1 em ef w3) ?_)
  have hu':=hu.trans u2
  have hz':(swp d1 i2 j2).size=d.size:=by rw[cA,hz]
  have hi3:a<i2+1:=om
  have hij:i2+1≤j2-1+1:=om
  have hjm:j2-1<m:=om
  generalize swp d1 i2 j2=d0 at *
  refine ab (cZ (λts h3=>∃ d3 k,Upd h h3 b (cT cs o d3)∧d3.size=d.size∧k<m∧partLoop ltInt a (i2+1) (j2-1) d0=(k,d3)∧aB ts 0=.sl b o d.size c∧aB ts 1=.int .i64 (a:Nat)∧aB ts 11=.int .i64 (k:Nat))
   (aU (cf (λn ts h3=>∃ i j d1,n=j+1-i∧a<i∧i≤j+1∧j<m∧Upd h h3 b (cT cs o d1)∧d1.size=d.size∧partLoop ltInt a i j d1=partLoop ltInt a (i2+1) (j2-1) d0∧aB ts 0=.sl b o d.size c∧aB ts 1=.int .i64 (a:Nat)∧aB ts 10=.int .i64 (i:Nat)∧aB ts 11=.int .i64 (j:Nat)) ?_ (n:=j2-1+1-(i2+1)) ⟨i2+1,j2-1,d0,rfl,om,om,om,hu',hz',rfl,Z1 e0,Z1 e1,Z2 em w2,Z2 ef w3⟩)) ?_)
  ·clear e0 e1 em ef hu hz hu' hz' u2 s1 s2 r1 r2 x1 x2
   rintro n ts h1 ⟨i,j,d1,rfl,hai,hij,hjm,hu,hz,hD,e0,e1,em,ef⟩
   rw[partLoop_eq] at hD
   refine aU ?_
   refine ab (cZ (λts h2=>h1=h2∧aB ts 0=.sl b o d.size c∧aB ts 1=.int .i64 (a:Nat)∧aB ts 10=.int .i64 (scanUp (λx=>ltInt x d1[a]!) d1 j i:Nat)∧aB ts 11=.int .i64 (j:Nat))
    (aU (cf (λn ts h2=>h2=h1∧∃ k,n=j+1-k∧i≤k∧k≤j+1∧scanUp (λx=>ltInt x d1[a]!) d1 j k=scanUp (λx=>ltInt x d1[a]!) d1 j i∧aB ts 0=.sl b o d.size c∧aB ts 1=.int .i64 (a:Nat)∧aB ts 10=.int .i64 (k:Nat)∧aB ts 11=.int .i64 (j:Nat)) ?_ (n:=j+1-i) ⟨rfl,i,rfl,om,om,rfl,Z4 e0 e1 em ef,Z4 e0 e1 em ef,Z4 e0 e1 em ef,Z4 e0 e1 em ef⟩)) ?_)
   ·clear e0 e1 em ef
    rintro n ts h2 ⟨rfl,k,rfl,hk,hk2,hS,e0,e1,em,ef⟩
    by_cases q:k≤j
    ·have c1:decide (((k:Nat):Int)≤((j:Nat):Int))=true:=by simp only[aj]; omega
     have x1:bN ((k:Nat):Int) d.size=some k:=aO om
     have x2:bN ((a:Nat):Int) d.size=some a:=aO om
     have r1:=cq (i:=k) hu.get om om
     have r2:=cq (i:=a) hu.get om om
     refine ab (ab (aX (aP 12 (M10 e0 e1 em ef c1 x1 x2 r1 r2 @ai) rfl (Z10 e0 e1 em ef c1 x1 x2 r1 r2 @ai) (M10 e0 e1 em ef c1 x1 x2 r1 r2 @ai) (fk) λv h3 hq=>?_)))
     obtain⟨rfl,rfl⟩:=hq
     refine aW (M1 c1) ?_
     refine bg (t:=ltInt d1[k]! d1[a]!) (Z0) (λq2=>?_) λq2=>?_
     ·have w1:IntKind.i64.wrap (((k:Nat):Int)+1)=((k+1:Nat):Int):=bE om om
      refine aN (aU (ah (M5 e0 e1 em ef w1) ?_))
      refine⟨j+1-(k+1),om,rfl,k+1,rfl,om,om,?_,Z4 e0 e1 em ef,Z4 e0 e1 em ef,Z5 e0 e1 em ef w1,Z4 e0 e1 em ef⟩
      rw[← hS]
      conv=>rhs; rw[scanUp,if_pos (by simp only[aq,aj]; exact⟨q,q2⟩)]
     ·refine bM ⟨λ_=>⟨rfl,Z4 e0 e1 em ef,Z4 e0 e1 em ef,?_,Z4 e0 e1 em ef⟩,λe=>absurd rfl e⟩
      rw[← hS,scanUp,if_neg (by simp only[aq,aj]; rintro⟨_,x⟩; exact absurd (q2.symm.trans x) (by decide))]
      simp only[am,aD,simprocAttr,e0,e1,em,ef]
    ·have c1:decide (((k:Nat):Int)≤((j:Nat):Int))=false:=by simp only[aR]; omega
     refine ab (ab (aX (dF 12 (M5 e0 e1 em ef c1) rfl (Z1 c1) ?_)))
     refine aW (M1 c1) ?_
     refine cU (Z0) (bM ⟨λ_=>⟨rfl,Z4 e0 e1 em ef,Z4 e0 e1 em ef,?_,Z4 e0 e1 em ef⟩,λe=>absurd rfl e⟩)
     rw[← hS,scanUp,if_neg (by simp only[aq,aj]; rintro⟨x,_⟩; exact q x)]
     simp only[am,aD,simprocAttr,e0,e1,em,ef]
   clear e0 e1 em ef
   rintro ts h2 ⟨rfl,e0,e1,em,ef⟩
   have s1:=scanUp_ge (λx=>ltInt x d1[a]!) d1 j i
   have s4:=lQ (λx=>ltInt x d1[a]!) (λx=>!ltInt x d1[a]!) (λ_=>rfl) d1 (i:=i) (j:=j) om om
   have s1b:=(scanUp_spec (λx=>ltInt x d1[a]!) d1 j _ i rfl).2.1
   generalize scanUp (λx=>ltInt x d1[a]!) d1 j i=i2 at *
   have ef':=ef
   have em':=em
   clear em ef
   have em:=ef'
   have ef:=em'
   clear ef' em'
   refine ab (cZ (λts h2=>h1=h2∧aB ts 0=.sl b o d.size c∧aB ts 1=.int .i64 (a:Nat)∧aB ts 11=.int .i64 (scanDown (λx=>!ltInt x d1[a]!) d1 i2 j:Nat)∧aB ts 10=.int .i64 (i2:Nat))
    (aU (cf (λn ts h2=>h2=h1∧∃ k,k=n∧k≤j∧i2≤k+1∧scanDown (λx=>!ltInt x d1[a]!) d1 i2 k=scanDown (λx=>!ltInt x d1[a]!) d1 i2 j∧aB ts 0=.sl b o d.size c∧aB ts 1=.int .i64 (a:Nat)∧aB ts 11=.int .i64 (k:Nat)∧aB ts 10=.int .i64 (i2:Nat)) ?_ (n:=j) ⟨rfl,j,rfl,om,om,rfl,Z4 e0 e1 em ef,Z4 e0 e1 em ef,Z4 e0 e1 em ef,Z4 e0 e1 em ef⟩)) ?_)
   ·clear e0 e1 em ef
    rintro n ts h2 ⟨rfl,k,rfl,hk,hk2,hS,e0,e1,em,ef⟩
    by_cases q:i2≤k
    ·have c1:decide (((i2:Nat):Int)≤((k:Nat):Int))=true:=by simp only[aj]; omega
     have x1:bN ((k:Nat):Int) d.size=some k:=aO om
     have x2:bN ((a:Nat):Int) d.size=some a:=aO om
     have r1:=cq (i:=k) hu.get om om
     have r2:=cq (i:=a) hu.get om om
     refine ab (ab (aX (aP 12 (M10 e0 e1 em ef c1 x1 x2 r1 r2 @ai) rfl (Z10 e0 e1 em ef c1 x1 x2 r1 r2 @ai) (M10 e0 e1 em ef c1 x1 x2 r1 r2 @ai) (fk) λv h3 hq=>?_)))
     obtain⟨rfl,rfl⟩:=hq
     refine aW (M1 c1) ?_
     refine bg (t:=!ltInt d1[k]! d1[a]!) (Z0) (λq2=>?_) λq2=>?_
     ·obtain⟨k,rfl⟩:∃ m,k=m+1:=⟨k-1,om⟩
      have w1:IntKind.i64.wrap (((k+1:Nat):Int)-1)=((k:Nat):Int):=by rw[bE om om]; omega
      refine aN (aU (ah (M5 e0 e1 em ef w1) ?_))
      refine⟨k,om,rfl,k,rfl,om,om,?_,Z4 e0 e1 em ef,Z4 e0 e1 em ef,Z5 e0 e1 em ef w1,Z4 e0 e1 em ef⟩
      rw[← hS]
      conv=>rhs; rw[scanDown,if_pos (by simp only[aq,aj]; exact⟨q,q2⟩)]
     ·refine bM ⟨λ_=>⟨rfl,Z4 e0 e1 em ef,Z4 e0 e1 em ef,?_,Z4 e0 e1 em ef⟩,λe=>absurd rfl e⟩
      obtain⟨k,rfl⟩:∃ m,k=m+1:=⟨k-1,om⟩
      rw[← hS,scanDown,if_neg (by simp only[aq,aj]; rintro⟨_,x⟩; exact absurd (q2.symm.trans x) (by decide))]
      simp only[am,aD,simprocAttr,e0,e1,em,ef]
    ·have c1:decide (((i2:Nat):Int)≤((k:Nat):Int))=false:=by simp only[aR]; omega
     refine ab (ab (aX (dF 12 (M5 e0 e1 em ef c1) rfl (Z1 c1) ?_)))
     refine aW (M1 c1) ?_
     refine cU (Z0) (bM ⟨λ_=>⟨rfl,Z4 e0 e1 em ef,Z4 e0 e1 em ef,?_,Z4 e0 e1 em ef⟩,λe=>absurd rfl e⟩)
     have:scanDown (λx=>!ltInt x d1[a]!) d1 i2 k=k:=by
      cases k with
      | zero=>rfl
      | succ k=>rw[scanDown,if_neg (by simp only[aq,aj]; rintro⟨x,_⟩; exact q x)]
     rw[← hS,this]
     simp only[am,aD,simprocAttr,e0,e1,em,ef]
   clear e0 e1 em ef
   rintro ts h2 ⟨rfl,e0,e1,em,ef⟩
   have s2:=scanDown_le (λx=>!ltInt x d1[a]!) d1 i2 j
   have s3:i2≤scanDown (λx=>!ltInt x d1[a]!) d1 i2 j+1:=iU _ _ _ _ om
   generalize scanDown (λx=>!ltInt x d1[a]!) d1 i2 j=j2 at *
   refine ab (ab (ah (M4 e0 e1 em ef) ?_))
   refine bg (t:=decide (j2<i2)) (Z1 @bi) (λq=>?_) λq=>?_
   ·have q:j2<i2:=aF q
    rw[if_pos q] at hD
    exact bM ⟨λe=>absurd e (by decide),λ_=>⟨λ_=>⟨d1,j2,hu,hz,om,hD.symm,Z1 e0,Z1 e1,Z1 em⟩,λe=>absurd rfl e⟩⟩
   ·have q:¬ j2<i2:=aE q
    have s5:=s4 q
    rw[if_neg q] at hD
    have x1:bN ((i2:Nat):Int) d.size=some i2:=aO om
    have x2:bN ((j2:Nat):Int) d.size=some j2:=aO om
    have r1:=cq (i:=i2) hu.get om om
    have r2:=cq (i:=j2) hu.get om om
    obtain⟨m1,m2,s1,s2,u2⟩:=eX (i:=i2) (j:=j2) hu.get om om om
    have w2:IntKind.i64.wrap (((i2:Nat):Int)+1)=((i2+1:Nat):Int):=bE om om
    have w3:IntKind.i64.wrap (((j2:Nat):Int)-1)=((j2-1:Nat):Int):=by rw[bE om om]; omega
    refine aN (ab (ah (M12 e0 e1 em ef x1 x2 r1 r2 s1 s2 @ai @ai) ?_))
    refine ab (ah (M5 e0 e1 em ef w2) ?_)
    refine ah (M5 e0 e1 em ef w3) ?_
    exact⟨_,om,i2+1,j2-1,swp d1 i2 j2,rfl,om,om,om,hu.trans u2,by rw[cA,hz],hD,Z1 e0,Z1 e1,Z2 ef w2,Z2 em w3⟩
  ·clear e0 e1 em ef hu hz hu' hz' u2 s1 s2 r1 r2 x1 x2
   rintro ts h1 ⟨d1,k,hu,hz,hk,hL,e0,e1,ek⟩
   rw[hL]
   have x1:bN ((k:Nat):Int) d.size=some k:=aO om
   have x2:bN ((a:Nat):Int) d.size=some a:=aO om
   have r1:=cq (i:=k) hu.get om om
   have r2:=cq (i:=a) hu.get om om
   obtain⟨m1,m2,s1,s2,u2⟩:=eX (i:=k) (j:=a) hu.get om om om
   refine ab (ah (M10 e0 e1 ek x1 x2 r1 r2 s1 s2 @ai) ?_)
   refine ab (ah (M3 e0 e1 ek) ?_)
   exact bt ⟨_,(by simp only[rs,rf195,am,aD,simprocAttr,e0,e1,ek]<;>rfl),rfl,hu.trans u2⟩
theorem zM {h:AH}{b o c a m piv:Nat}{cs:List AV}{d:Array Int} (hg:h.get b=some (cT cs o d)) (hr:o+d.size≤cs.length) (hp:a≤piv) (hpm:piv<m) (hm:m≤d.size) (hs:d.size<2 ^ 40) :
 C prg 194 [.sl b o d.size c,.int .i64 (a:Nat),.int .i64 (m:Nat),.int .i64 (piv:Nat)] h λv h'=>v=.int .i64 ((partitionEqual ltInt d a m piv).1:Nat)∧Upd h h' b (cT cs o (partitionEqual ltInt d a m piv).2):=by
 refine HH pf194 ?_
 refine ab (ah (Mi0) ?_)
 have w0:IntKind.i64.wrap (((m:Nat):Int)-1)=((m-1:Nat):Int):=by rw[bE om om]; omega
 have w1:IntKind.i64.wrap (((a:Nat):Int)+1)=((a+1:Nat):Int):=bE om om
 have hu0:=HG hg
 have x1:bN ((a:Nat):Int) d.size=some a:=aO om
 have x2:bN ((piv:Nat):Int) d.size=some piv:=aO om
 have r1:=cq (i:=a) hu0.get om om
 have r2:=cq (i:=piv) hu0.get om om
 obtain⟨m1,m2,s1,s2,u2⟩:=eX (i:=a) (j:=piv) hu0.get om om om
 refine ab (ah (Mi7 x1 x2 r1 r2 s1 s2 @ai) ?_)
 refine ab (ah (Mi2 w0 w1) ?_)
 have hz':(swp d a piv).size=d.size:=cA ..
 rw[show partitionEqual ltInt d a m piv=partEqLoop ltInt a (a+1) (m-1) (swp d a piv) from rfl]
 generalize swp d a piv=d0 at *
 refine ab (cZ (λts h3=>∃ d3 k,Upd h h3 b (cT cs o d3)∧partEqLoop ltInt a (a+1) (m-1) d0=(k,d3)∧aB ts 9=.int .i64 (k:Nat))
  (aU (cf (λn ts h3=>∃ i j d1,n=j+1-i∧a<i∧i≤j+1∧j<m∧Upd h h3 b (cT cs o d1)∧d1.size=d.size∧partEqLoop ltInt a i j d1=partEqLoop ltInt a (a+1) (m-1) d0∧aB ts 0=.sl b o d.size c∧aB ts 1=.int .i64 (a:Nat)∧aB ts 9=.int .i64 (i:Nat)∧aB ts 10=.int .i64 (j:Nat)) ?_ (n:=m-1+1-(a+1)) ⟨a+1,m-1,d0,rfl,om,om,om,u2,hz',rfl,Zi0,Zi0,Zi0,Zi0⟩)) ?_)
 ·clear hz' u2 s1 s2 r1 r2 x1 x2
  rintro n ts h1 ⟨i,j,d1,rfl,hai,hij,hjm,hu,hz,hD,e0,e1,em,ef⟩
  rw[partEqLoop_eq] at hD
  refine aU ?_
  refine ab (cZ (λts h2=>h1=h2∧aB ts 0=.sl b o d.size c∧aB ts 1=.int .i64 (a:Nat)∧aB ts 9=.int .i64 (scanUp (λx=>!ltInt d1[a]! x) d1 j i:Nat)∧aB ts 10=.int .i64 (j:Nat))
   (aU (cf (λn ts h2=>h2=h1∧∃ k,n=j+1-k∧i≤k∧k≤j+1∧scanUp (λx=>!ltInt d1[a]! x) d1 j k=scanUp (λx=>!ltInt d1[a]! x) d1 j i∧aB ts 0=.sl b o d.size c∧aB ts 1=.int .i64 (a:Nat)∧aB ts 9=.int .i64 (k:Nat)∧aB ts 10=.int .i64 (j:Nat)) ?_ (n:=j+1-i) ⟨rfl,i,rfl,om,om,rfl,Z4 e0 e1 em ef,Z4 e0 e1 em ef,Z4 e0 e1 em ef,Z4 e0 e1 em ef⟩)) ?_)
  ·clear e0 e1 em ef
   rintro n ts h2 ⟨rfl,k,rfl,hk,hk2,hS,e0,e1,em,ef⟩
   by_cases q:k≤j
   ·have c1:decide (((k:Nat):Int)≤((j:Nat):Int))=true:=by simp only[aj]; omega
    have x1:bN ((k:Nat):Int) d.size=some k:=aO om
    have x2:bN ((a:Nat):Int) d.size=some a:=aO om
    have r1:=cq (i:=k) hu.get om om
    have r2:=cq (i:=a) hu.get om om
    refine ab (ab (aX (aP 12 (M10 e0 e1 em ef c1 x1 x2 r1 r2 @ai) rfl (Z10 e0 e1 em ef c1 x1 x2 r1 r2 @ai) (M10 e0 e1 em ef c1 x1 x2 r1 r2 @ai) (fk) λv h3 hq=>?_)))
    obtain⟨rfl,rfl⟩:=hq
    refine aW (M1 c1) ?_
    refine bg (t:=!ltInt d1[a]! d1[k]!) (Z0) (λq2=>?_) λq2=>?_
    ·have w1:IntKind.i64.wrap (((k:Nat):Int)+1)=((k+1:Nat):Int):=bE om om
     refine aN (aU (ah (M5 e0 e1 em ef w1) ?_))
     refine⟨j+1-(k+1),om,rfl,k+1,rfl,om,om,?_,Z4 e0 e1 em ef,Z4 e0 e1 em ef,Z5 e0 e1 em ef w1,Z4 e0 e1 em ef⟩
     rw[← hS]
     conv=>rhs; rw[scanUp,if_pos (by simp only[aq,aj]; exact⟨q,q2⟩)]
    ·refine bM ⟨λ_=>⟨rfl,Z4 e0 e1 em ef,Z4 e0 e1 em ef,?_,Z4 e0 e1 em ef⟩,λe=>absurd rfl e⟩
     rw[← hS,scanUp,if_neg (by simp only[aq,aj]; rintro⟨_,x⟩; exact absurd (q2.symm.trans x) (by decide))]
     simp only[am,aD,simprocAttr,e0,e1,em,ef]
   ·have c1:decide (((k:Nat):Int)≤((j:Nat):Int))=false:=by simp only[aR]; omega
    refine ab (ab (aX (dF 12 (M5 e0 e1 em ef c1) rfl (Z1 c1) ?_)))
    refine aW (M1 c1) ?_
    refine cU (Z0) (bM ⟨λ_=>⟨rfl,Z4 e0 e1 em ef,Z4 e0 e1 em ef,?_,Z4 e0 e1 em ef⟩,λe=>absurd rfl e⟩)
    rw[← hS,scanUp,if_neg (by simp only[aq,aj]; rintro⟨x,_⟩; exact q x)]
    simp only[am,aD,simprocAttr,e0,e1,em,ef]
  clear e0 e1 em ef
  rintro ts h2 ⟨rfl,e0,e1,em,ef⟩
  have s1:=scanUp_ge (λx=>!ltInt d1[a]! x) d1 j i
  have s4:=lQ (λx=>!ltInt d1[a]! x) (λx=>ltInt d1[a]! x) (λ_=>by simp) d1 (i:=i) (j:=j) om om
  have s1b:=(scanUp_spec (λx=>!ltInt d1[a]! x) d1 j _ i rfl).2.1
  generalize scanUp (λx=>!ltInt d1[a]! x) d1 j i=i2 at *
  have ef':=ef
  have em':=em
  clear em ef
  have em:=ef'
  have ef:=em'
  clear ef' em'
  refine ab (cZ (λts h2=>h1=h2∧aB ts 0=.sl b o d.size c∧aB ts 1=.int .i64 (a:Nat)∧aB ts 10=.int .i64 (scanDown (λx=>ltInt d1[a]! x) d1 i2 j:Nat)∧aB ts 9=.int .i64 (i2:Nat))
   (aU (cf (λn ts h2=>h2=h1∧∃ k,k=n∧k≤j∧i2≤k+1∧scanDown (λx=>ltInt d1[a]! x) d1 i2 k=scanDown (λx=>ltInt d1[a]! x) d1 i2 j∧aB ts 0=.sl b o d.size c∧aB ts 1=.int .i64 (a:Nat)∧aB ts 10=.int .i64 (k:Nat)∧aB ts 9=.int .i64 (i2:Nat)) ?_ (n:=j) ⟨rfl,j,rfl,om,om,rfl,Z4 e0 e1 em ef,Z4 e0 e1 em ef,Z4 e0 e1 em ef,Z4 e0 e1 em ef⟩)) ?_)
  ·clear e0 e1 em ef
   rintro n ts h2 ⟨rfl,k,rfl,hk,hk2,hS,e0,e1,em,ef⟩
   by_cases q:i2≤k
   ·have c1:decide (((i2:Nat):Int)≤((k:Nat):Int))=true:=by simp only[aj]; omega
    have x1:bN ((k:Nat):Int) d.size=some k:=aO om
    have x2:bN ((a:Nat):Int) d.size=some a:=aO om
    have r1:=cq (i:=k) hu.get om om
    have r2:=cq (i:=a) hu.get om om
    refine ab (ab (aX (aP 12 (M10 e0 e1 em ef c1 x1 x2 r1 r2 @ai) rfl (Z10 e0 e1 em ef c1 x1 x2 r1 r2 @ai) (M10 e0 e1 em ef c1 x1 x2 r1 r2 @ai) (fk) λv h3 hq=>?_)))
    obtain⟨rfl,rfl⟩:=hq
    refine aW (M1 c1) ?_
    refine bg (t:=ltInt d1[a]! d1[k]!) (Z0) (λq2=>?_) λq2=>?_
    ·obtain⟨k,rfl⟩:∃ m,k=m+1:=⟨k-1,om⟩
     have w1:IntKind.i64.wrap (((k+1:Nat):Int)-1)=((k:Nat):Int):=by rw[bE om om]; omega
     refine aN (aU (ah (M5 e0 e1 em ef w1) ?_))
     refine⟨k,om,rfl,k,rfl,om,om,?_,Z4 e0 e1 em ef,Z4 e0 e1 em ef,Z5 e0 e1 em ef w1,Z4 e0 e1 em ef⟩
     rw[← hS]
     conv=>rhs; rw[scanDown,if_pos (by simp only[aq,aj]; exact⟨q,q2⟩)]
    ·refine bM ⟨λ_=>⟨rfl,Z4 e0 e1 em ef,Z4 e0 e1 em ef,?_,Z4 e0 e1 em ef⟩,λe=>absurd rfl e⟩
     obtain⟨k,rfl⟩:∃ m,k=m+1:=⟨k-1,om⟩
     rw[← hS,scanDown,if_neg (by simp only[aq,aj]; rintro⟨_,x⟩; exact absurd (q2.symm.trans x) (by decide))]
     simp only[am,aD,simprocAttr,e0,e1,em,ef]
   ·have c1:decide (((i2:Nat):Int)≤((k:Nat):Int))=false:=by simp only[aR]; omega
    refine ab (ab (aX (dF 12 (M5 e0 e1 em ef c1) rfl (Z1 c1) ?_)))
    refine aW (M1 c1) ?_
    refine cU (Z0) (bM ⟨λ_=>⟨rfl,Z4 e0 e1 em ef,Z4 e0 e1 em ef,?_,Z4 e0 e1 em ef⟩,λe=>absurd rfl e⟩)
    have:scanDown (λx=>ltInt d1[a]! x) d1 i2 k=k:=by
     cases k with
     | zero=>rfl
     | succ k=>rw[scanDown,if_neg (by simp only[aq,aj]; rintro⟨x,_⟩; exact q x)]
    rw[← hS,this]
    simp only[am,aD,simprocAttr,e0,e1,em,ef]
  clear e0 e1 em ef
  rintro ts h2 ⟨rfl,e0,e1,em,ef⟩
  have s2:=scanDown_le (λx=>ltInt d1[a]! x) d1 i2 j
  have s3:i2≤scanDown (λx=>ltInt d1[a]! x) d1 i2 j+1:=iU _ _ _ _ om
  generalize scanDown (λx=>ltInt d1[a]! x) d1 i2 j=j2 at *
  refine ab (ab (ah (M4 e0 e1 em ef) ?_))
  refine bg (t:=decide (j2<i2)) (Z1 @bi) (λq=>?_) λq=>?_
  ·have q:j2<i2:=aF q
   rw[if_pos q] at hD
   exact bM ⟨λe=>absurd e (by decide),λ_=>⟨λ_=>⟨d1,i2,hu,hD.symm,Z1 ef⟩,λe=>absurd rfl e⟩⟩
  ·have q:¬ j2<i2:=aE q
   have s5:=s4 q
   rw[if_neg q] at hD
   have x1:bN ((i2:Nat):Int) d.size=some i2:=aO om
   have x2:bN ((j2:Nat):Int) d.size=some j2:=aO om
   have r1:=cq (i:=i2) hu.get om om
   have r2:=cq (i:=j2) hu.get om om
   obtain⟨m1,m2,s1,s2,u2⟩:=eX (i:=i2) (j:=j2) hu.get om om om
   have w2:IntKind.i64.wrap (((i2:Nat):Int)+1)=((i2+1:Nat):Int):=bE om om
   have w3:IntKind.i64.wrap (((j2:Nat):Int)-1)=((j2-1:Nat):Int):=by rw[bE om om]; omega
   refine aN (ab (ah (M12 e0 e1 em ef x1 x2 r1 r2 s1 s2 @ai @ai) ?_))
   refine ab (ah (M5 e0 e1 em ef w2) ?_)
   refine ah (M5 e0 e1 em ef w3) ?_
   exact⟨_,om,i2+1,j2-1,swp d1 i2 j2,rfl,om,om,om,hu.trans u2,by rw[cA,hz],hD,Z1 e0,Z1 e1,Z2 ef w2,Z2 em w3⟩
 ·rintro ts h1 ⟨d1,k,hu,hL,ek⟩
  rw[hL]
  refine ab (ah (M1 ek) ?_)
  exact bt ⟨_,(by simp only[rs,rf194,am,aD,simprocAttr,ek]<;>rfl),rfl,hu⟩
open Go.Am Go.Sort
theorem mn2 {k:IntKind}{x y:Int}:jT mnA [.int k x,.int k y]=some (.int k (if y<x then y else x)):=by simp [jT,mnA]
theorem Fp {h:AH}{v:AV}{xs:List Int} (hv:SlI h v xs) (hl:xs.length<2 ^ 40) (hne:0<xs.length):C prg 114 [v] h λr h'=>∃ m,r=.int .i64 m∧m∈xs∧(∀ y∈xs,m≤y)∧h'=h:=by
 have el:=hv.len
 rw[au] at el
 refine HH pf114 ?_
 have c1:decide (((xs.length:Nat):Int)<1)=false:=aG om
 refine ab (ah (Mi0) ?_)
 refine ab (ab (ah (Mi1 el) ?_))
 refine cU (Z1 c1) (aN ?_)
 obtain⟨b0,p0,a0,r0,_⟩:=hv.at1 (cF (f:=eI) hne)
 have a0:jf 1 v (.int .i64 0)=some (.ptr b0 p0):=a0
 refine ab (ah (Mi2 a0 r0) ?_)
 refine ab (ab (ah (M0) ?_))
 refine eg (α:=Int) (N:=xs.length-1) (λk a=>[(0,v),(4,.int .i64 ((k+1:Nat):Int)),(3,.int .i64 a)]) (λk a h'=>h'=h∧a∈xs.take (k+1)∧∀ y∈xs.take (k+1),a≤y) xs[0] (by simp only[eK,fx,am,aD,↓reduceIte,Nat.reduceEqDiff,Int.reduceEq,Nat.reduceAdd,Nat.reduceLeDiff,reduceCtorEq,bL,bO,Gx]) ⟨rfl,by rw[aK hne]; simp,by rw[aK hne]; simp⟩ ?_ ?_ ?_
 ·rintro k a ts h1 hk ⟨rfl,j1,j2⟩ ⟨e0,e4,e3,-⟩
  simp only at e0 e4 e3
  have c2:decide (((k+1:Nat):Int)<((xs.length:Nat):Int))=decide (k<xs.length-1):=by simp only[decide_eq_decide]; omega
  exact⟨_,(J4 e0 e4 el c2),I0,O3 e0 e4 e3⟩
 ·rintro k a ts h1 hk ⟨rfl,j1,j2⟩ ⟨e0,e4,e3,-⟩
  simp only at e0 e4 e3
  obtain⟨b1,p1,a1,r1,_⟩:=hv.at1 (cF (f:=eI) (show k+1<xs.length by omega))
  have w1:IntKind.i64.wrap (((k+1:Nat):Int)+1)=((k+1+1:Nat):Int):=bE om om
  refine ah (M6 e0 e4 e3 a1 r1 @mn2) ?_
  refine⟨if xs[k+1]<a then xs[k+1] else a,⟨rfl,?_,?_⟩,_,(J2 e4 w1),O2 e0 e4⟩
  ·rw[aK (show k+1<xs.length by omega)]
   split
   ·exact aQ.2 (.inr (aY ..))
   ·exact aQ.2 (.inl j1)
  ·intro y hy
   rw[aK (show k+1<xs.length by omega),aQ] at hy
   rcases hy with hy|hy
   ·have:=j2 y hy
    split<;>omega
   ·simp only[aC,bj,or_false] at hy
    subst hy
    split<;>omega
 ·rintro a ts h1 ⟨rfl,j1,j2⟩ ⟨e0,e4,e3,-⟩
  simp only at e0 e4 e3
  rw[show xs.length-1+1=xs.length by omega,bp] at j1 j2
  refine ab (ah (M1 e3) ?_)
  exact bt ⟨_,(by simp only[rs,rf114,am,aD,simprocAttr]<;>rfl),a,rfl,j1,j2,rfl⟩
theorem wJ {h:AH}{b o c:Nat}{cs:List AV}{d:Array Int} (hg:h.get b=some (cT cs o d)) (hr:o+d.size≤cs.length) (hs:d.size<2 ^ 40) :
 C prg 113 [.sl b o d.size c] h λ_ h'=>Upd h h' b (cT cs o d.reverse):=by
 refine HH pf113 ?_
 have w0:IntKind.i64.wrap (((d.size:Nat):Int)-1)=((d.size:Nat):Int)-1-((0:Nat):Int):=by rw[bE om om]; omega
 refine ab (ah (Mi1 w0) ?_)
 refine eg (α:=Array Int) (N:=d.size / 2) (λk a=>[(0,.sl b o d.size c),(2,.int .i64 (k:Nat)),(3,.int .i64 (((d.size:Nat):Int)-1-((k:Nat):Int)))])
  (λk a h'=>Upd h h' b (cT cs o a)∧a.size=d.size∧∀ x,x<d.size→a[x]! = if x<k∨d.size-1-x<k then d[d.size-1-x]! else d[x]!) d (Hi1 @bm) ⟨HG hg,rfl,λx _=>by rw[if_neg om]⟩ ?_ ?_ ?_
 ·rintro k a ts h1 hk ⟨j1,j2,j3⟩ ⟨e0,e2,e3,-⟩
  simp only at e0 e2 e3
  have c2:decide (((k:Nat):Int)<((d.size:Nat):Int)-1-((k:Nat):Int))=decide (k<d.size / 2):=by simp only[decide_eq_decide]; omega
  exact⟨_,(M3 e2 e3 c2),Z0,H3 e0 e2 e3⟩
 ·rintro k a ts h1 hk ⟨j1,j2,j3⟩ ⟨e0,e2,e3,-⟩
  simp only at e0 e2 e3
  have hm:((d.size:Nat):Int)-1-((k:Nat):Int)=((d.size-1-k:Nat):Int):=om
  have i1:bN ((k:Nat):Int) d.size=some k:=aO om
  have i2:bN ((d.size-1-k:Nat):Int) d.size=some (d.size-1-k):=aO om
  have r1:=cq (i:=k) j1.get om om
  have r2:=cq (i:=d.size-1-k) j1.get om om
  obtain⟨m1,m2,s1,s2,u2⟩:=eX (i:=k) (j:=d.size-1-k) j1.get om om om
  have w1:IntKind.i64.wrap (((k:Nat):Int)+1)=((k+1:Nat):Int):=bE om om
  have w2:IntKind.i64.wrap (((d.size-1-k:Nat):Int)-1)=((d.size:Nat):Int)-1-((k+1:Nat):Int):=by rw[bE om om]; omega
  refine ah (M12 e0 e2 e3 hm i1 i2 r1 r2 s1 s2 @ai @ai) ?_
  refine⟨_,⟨j1.trans u2,by rw[cA,j2],?_⟩,_,(M5 e2 e3 hm w1 w2),H1 e0⟩
  intro x hx
  by_cases x1:x=k
  ·subst x1
   rw[swp_left _ _ _ om om,j3 _ om,if_neg om,if_pos om]
  ·by_cases x2:x=d.size-1-k
   ·rw[x2,swp_right _ _ _ om,j3 _ om,if_neg om,if_pos om]
    congr 1
    omega
   ·rw[swp_other _ _ _ _ x1 x2,j3 _ hx]
    by_cases q:x<k∨d.size-1-x<k
    ·rw[if_pos q,if_pos om]
    ·rw[if_neg q,if_neg om]
 ·rintro a ts h1 ⟨j1,j2,j3⟩ _
  refine⟨.tup [],rfl,?_⟩
  have:a=d.reverse:=by
   refine Array.ext (by simpa using j2) λi h1 h2=>?_
   have:=j3 i om
   rw[getElem!_pos a i h1] at this
   rw[this,Array.getElem_reverse]
   rw[getElem!_pos d _ om]
   split
   ·rfl
   ·rw[getElem!_pos d _ om]
    congr 1
    omega
  rw[← this]
  exact j1
end Go.Proofs.YtahepnbflofndaaGreatDoor
