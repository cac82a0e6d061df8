/- Rows of values that a function compares. -/
import Derived.Test.YtahepnbflofndaaGreatDoorJLd
import Derived.Test.YtahepnbflofndaaGreatDoorJAmR
set_option linter.all false
namespace Go.Proofs.YtahepnbflofndaaGreatDoor
open Go.Am
open Go.Sort (swp SWO)
def lc (enc:Int→AV) (d:Array Int):List AV:=d.toList.map enc
def dA (enc:Int→AV) (cs:List AV) (o:Nat) (d:Array Int):AO:=.cells (cW cs o (lc enc d)) 1 false
section
variable {enc:Int→AV}
theorem jm (d:Array Int):(lc enc d).length=d.size:=by simp [lc]
theorem FN {d:Array Int}{i:Nat} (hi:i<d.size):(lc enc d)[i]?=some (enc d[i]!):=by
 unfold lc
 rw[be,db,dr hi]
 simp only[aH,getElem!_pos,hi]
theorem Ds {d:Array Int}{i:Nat}{x:Int}:(lc enc d).set i (enc x)=lc enc (d.setIfInBounds i x):=by
 unfold lc
 rw[mK,AU]
theorem rdE {h:AH}{b o i:Nat}{cs:List AV}{d:Array Int} (hg:h.get b=some (dA enc cs o d)) (hr:o+d.size≤cs.length) (hi:i<d.size):ar h b (o+i) 1=some [enc d[i]!]:=by
 have hr':o+(lc enc d).length≤cs.length:=by rw[jm]; exact hr
 have hk:(cW cs o (lc enc d))[o+i]?=some (enc d[i]!):=by
  rw[eY hr',if_pos ⟨om,by rw[jm]; omega⟩]
  have e2:o+i-o=i:=om
  rw[e2,FN hi]
 obtain⟨hlt,hk⟩:=aJ.1 hk
 rw[aS hg,if_pos om,bW hlt,hk]
 rfl
theorem wrE {h:AH}{b o i:Nat}{cs:List AV}{d:Array Int}{x:Int} (hg:h.get b=some (dA enc cs o d)) (hr:o+d.size≤cs.length) (hi:i<d.size) :
 ∃ h',bV h b (o+i) [enc x]=some h'∧Upd h h' b (dA enc cs o (d.setIfInBounds i x)):=by
 have hr':o+(lc enc d).length≤cs.length:=by rw[jm]; exact hr
 have e:cW (cW cs o (lc enc d)) (o+i) [enc x]=cW cs o (lc enc (d.setIfInBounds i x)):=by rw[mh hr' (by rw[jm]; exact hi),Ds]
 refine⟨_,?_,HF hg⟩
 rw[dI hg,if_pos (by rw[fQ hr']; simp only[aV,bh]; omega),e]
 rfl
theorem mt {h:AH}{b o i j:Nat}{cs:List AV}{d:Array Int} (hg:h.get b=some (dA enc cs o d)) (hr:o+d.size≤cs.length) (hi:i<d.size) (hj:j<d.size) :
 ∃ h1 h2,bV h b (o+i) [enc d[j]!]=some h1∧bV h1 b (o+j) [enc d[i]!]=some h2∧Upd h h2 b (dA enc cs o (swp d i j)):=by
 obtain⟨h1,w1,u1⟩:=wrE (x:=d[j]!) hg hr hi
 obtain⟨h2,w2,u2⟩:=wrE (x:=d[i]!) (i:=j) u1.get (by simpa using hr) (by simpa using hj)
 exact⟨h1,h2,w1,w2,u1.trans u2⟩
end
def ltK (κ:Int→Int) (x y:Int):Bool:=decide (κ x<κ y)
theorem mP {κ:Int→Int}:SWO (ltK κ) where
 irrefl:=λx=>by simp [ltK]
 trans:=λx y z h1 h2=>by simp only[ltK,aj] at *; omega
 ntrans:=λx y z h1 h2=>by simp only[ltK,aR] at *; omega
structure Cm (enc:Int→AV) (κ:Int→Int) (f:FuncId) (caps:List AV) (b:Nat) (h:AH):Prop where
 ec:∀ x,(enc x).cells=[enc x]
 eo:∀ x,(enc x).one=true
 go:∀ h',h.next≤h'.next→(∀ c,c<h.next→c≠b→h'.get c=h.get c)→∀ x y,C prg f ([enc x,enc y]++caps) h' λv h''=>v=.int .i64 (κ x-κ y)∧h''=h'
section
variable {enc:Int→AV}{κ:Int→Int}{f:FuncId}{caps:List AV}{b:Nat}{h h':AH}
theorem Cm.lk (_:Cm enc κ f caps b h) (x y:Int):decide (κ x-κ y<0)=ltK κ x y:=by
 unfold ltK
 rw[decide_eq_decide]
 omega
theorem Cm.step (hc:Cm enc κ f caps b h) (nx:h.next≤h'.next) (gt:∀ c,c<h.next→c≠b→h'.get c=h.get c):Cm enc κ f caps b h' :=
 ⟨hc.ec,hc.eo,λh2 n2 g2 x y=>hc.go h2 (bS nx n2) (λc q1 q2=>(g2 c om q2).trans (gt c q1 q2)) x y⟩
theorem Cm.u (hc:Cm enc κ f caps b h) {o:AO} (hu:Upd h h' b o):Cm enc κ f caps b h':=hc.step (by rw[hu.nx]; exact ae _) λ_ _ q=>hu.ne q
theorem Cm.m (hc:Cm enc κ f caps b h) {o:AO} (hu:Mod h.next h h' b o):Cm enc κ f caps b h':=hc.step hu.nx λc q1 q=>hu.gt c q q1
theorem Cm.at (hc:Cm enc κ f caps b h) {x y:Int}:C prg f ([enc x,enc y]++caps) h λv h''=>v=.int .i64 (κ x-κ y)∧h''=h:=hc.go h (ae _) (λ_ _ _=>rfl) x y
end
structure Cs (enc:Int→AV) (κ:Int→Int) (f:FuncId) (caps:List AV) (b s:Nat) (h:AH):Prop where
 ec:∀ x,(enc x).cells=[enc x]
 eo:∀ x,(enc x).one=true
 go:∀ h',h.next≤h'.next→(∀ c,c<h.next→c≠b→c≠s→h'.get c=h.get c)→∀ x y,C prg f ([enc x,enc y]++caps) h' λv h''=>v=.int .i64 (κ x-κ y)∧h''=h'
section
variable {enc:Int→AV}{κ:Int→Int}{f:FuncId}{caps:List AV}{b s:Nat}{h h':AH}
theorem Cs.lk (_:Cs enc κ f caps b s h) (x y:Int):decide (κ x-κ y<0)=ltK κ x y:=by
 unfold ltK
 rw[decide_eq_decide]
 omega
theorem Cs.us (hc:Cs enc κ f caps b s h) {o:AO} (hu:Upd h h' s o):Cs enc κ f caps b s h' :=
 ⟨hc.ec,hc.eo,λh2 n2 g2 x y=>hc.go h2 (by rw[← hu.nx]; exact n2) (λc q1 q2 q3=>(g2 c (by rw[hu.nx]; exact q1) q2 q3).trans (hu.ne q3)) x y⟩
theorem Cs.at (hc:Cs enc κ f caps b s h) {x y:Int}:C prg f ([enc x,enc y]++caps) h λv h''=>v=.int .i64 (κ x-κ y)∧h''=h:=hc.go h (ae _) (λ_ _ _ _=>rfl) x y
theorem Cm.cs (hc:Cm enc κ f caps b h) (hx:Ext h.next h h'):Cs enc κ f caps b h.next h' :=
 ⟨hc.ec,hc.eo,λh2 n2 g2 x y=>hc.go h2 (bS hx.nx n2) (λc q1 q2=>(g2 c (dt q1 hx.nx) q2 om).trans (hx.gt c q1)) x y⟩
end
theorem oJ {lt:Int→Int→Bool} (d:Array Int) (m:Nat):∀ (n i:Nat),m-i=n→i≤m→i≤Go.Sort.scanSorted lt d m i∧Go.Sort.scanSorted lt d m i≤m
 | n,i,hn,hi=>by
   unfold Go.Sort.scanSorted
   split
   ·rename_i q
    simp only[aq,aj] at q
    cases n with
    | zero=>omega
    | succ n =>
      have:=oJ (lt:=lt) d m n (i+1) om om
      exact⟨om,this.2⟩
   ·exact⟨ae _,hi⟩
open Go.Am
open Go.Sort (swp ltInt)
open Go.Sort (insInner insOuter insertionSort)
open Go.Sort (siftDown heapBuild heapPop heapSort)
theorem FS {enc:Int→AV}{κ:Int→Int}{f:FuncId}{caps:List AV}{h:AH}{b o c a m:Nat}{cs:List AV}{d:Array Int} (hc:Cm enc κ f caps b h) (hg:h.get b=some (dA enc cs o d)) (hr:o+d.size≤cs.length) (hm:m≤d.size) (hs:d.size<2 ^ 40) (ha:a<2 ^ 40) :
 C prg 178 [.sl b o d.size c,.int .i64 (a:Nat),.int .i64 (m:Nat),.fn f caps] h λv h'=>Upd h h' b (dA enc cs o (insertionSort (ltK κ) d a m)):=by
 refine HH pf178 ?_
 have w1:IntKind.i64.wrap (((a:Nat):Int)+1)=((a+1:Nat):Int):=bE om om
 refine ab (ah (Mi1 w1) ?_)
 refine aU (cf (λn ts h1=>∃ (i:Nat) (d1:Array Int),n=m-i∧a+1≤i∧Upd h h1 b (dA enc cs o d1)∧d1.size=d.size∧insOuter (ltK κ) a m i d1=insertionSort (ltK κ) d a m ∧
  (aB ts 0=.sl b o d.size c∧aB ts 3=.fn f caps)∧aB ts 1=.int .i64 (a:Nat)∧aB ts 2=.int .i64 (m:Nat)∧aB ts 8=.int .i64 (i:Nat)) ?_ (n:=m-(a+1)) ⟨a+1,d,rfl,ae _,HG hg,rfl,rfl,Zi0,Zi0,Zi0,Zi0⟩)
 rintro n ts h1 ⟨i,d1,rfl,hai,hu,hz,hD,e0,e1,e2,e6⟩
 refine ab (ab (ah (M4 e0 e1 e2 e6) ?_))
 refine bg (t:=decide (i<m)) (Z1 @bi) (λq=>?_) λq=>?_
 ·have q:i<m:=aF q
  refine aN (ab (aU (ab (ah (M4 e0 e1 e2 e6) ?_))))
  refine aU (cf (λn ts h2=>∃ (j:Nat) (d2:Array Int),n=j∧j≤i∧Upd h h2 b (dA enc cs o d2)∧d2.size=d.size∧insInner (ltK κ) a j d2=insInner (ltK κ) a i d1 ∧
   (aB ts 0=.sl b o d.size c∧aB ts 3=.fn f caps)∧aB ts 1=.int .i64 (a:Nat)∧aB ts 2=.int .i64 (m:Nat)∧aB ts 8=.int .i64 (i:Nat)∧aB ts 9=.int .i64 (j:Nat)) ?_ (n:=i) ⟨i,d1,rfl,ae _,hu,hz,rfl,Z1 e0,Z1 e1,Z1 e2,Z1 e6,Z1 e6⟩)
  clear e0 e1 e2 e6
  rintro n ts h2 ⟨j,d2,rfl,hji,hu2,hz2,hD2,e0,e1,e2,e6,e7⟩
  by_cases hja:a<n
  ·obtain⟨j,rfl⟩:∃ k,n=k+1:=⟨n-1,om⟩
   have c1:decide (((a:Nat):Int)<((j+1:Nat):Int))=true:=by simp; omega
   have w2:IntKind.i64.wrap (((j+1:Nat):Int)-1)=((j:Nat):Int):=by rw[bE om om]; omega
   have i1:bN ((j+1:Nat):Int) d.size=some (j+1):=aO om
   have i2:bN ((j:Nat):Int) d.size=some j:=aO om
   have r1:=rdE (i:=j+1) hu2.get om om
   have r2:=rdE (i:=j) hu2.get om om
   refine ab (ab (aX (dT 14 (M12 e0 e1 e2 e6 e7 c1 w2 i1 i2 r1 r2 @ai) rfl (Z12 e0 e1 e2 e6 e7 c1 w2 i1 i2 r1 r2 @ai) (M12 e0 e1 e2 e6 e7 c1 w2 i1 i2 r1 r2 @ai) (M12 e0 e1 e2 e6 e7 c1 w2 i1 i2 r1 r2 @ai) ((hc.u hu2).at) λv h' hq=>?_)))
   obtain⟨rfl,rfl⟩:=hq
   refine aW (by simp only[am,aD,simprocAttr,hc.lk,c1]; rfl) ?_
   refine bg (t:=(ltK κ) d2[j+1]! d2[j]!) (Z0) (λq2=>?_) λq2=>?_
   ·obtain⟨m1,m2,s1,s2,u2⟩:=mt (i:=j+1) (j:=j) hu2.get om om om
    refine aN (ab (aU (ah (by simp only[am,aD,simprocAttr,e0,e1,e2,e6,e7,w2,i1,i2,r1,r2,s1,s2,hc.ec,hc.eo,ai]<;>rfl) ?_)))
    refine ah (by simp only[am,aD,simprocAttr,e0,e1,e2,e6,e7,w2,i1,i2,r1,r2,s1,s2,hc.ec,hc.eo,ai]<;>rfl) ?_
    refine⟨j,om,j,swp d2 (j+1) j,rfl,om,hu2.trans u2,by rw[cA,hz2],?_,Z1 e0,Z1 e1,Z1 e2,Z1 e6,Z2 e7 w2⟩
    rw[← hD2,insInner,if_pos (by simp [q2]; omega)]
   ·refine bM ⟨λ_=>?_,λe=>absurd rfl e⟩
    have w3:IntKind.i64.wrap (((i:Nat):Int)+1)=((i+1:Nat):Int):=bE om om
    refine ah (M5 e0 e1 e2 e6 w3) ?_
    refine⟨m-(i+1),om,i+1,d2,rfl,om,hu2,hz2,?_,Z1 e0,Z1 e1,Z1 e2,Z2 e6 w3⟩
    have e:d2=insInner (ltK κ) a i d1:=by rw[← hD2,insInner,if_neg (by simp [q2])]
    rw[e,← hD]
    conv=>rhs; rw[insOuter,if_pos q]
  ·have c1:decide (((a:Nat):Int)<((n:Nat):Int))=false:=by simp; omega
   refine ab (ab (aX (fh 14 (M6 e0 e1 e2 e6 e7 c1) rfl (Z1 c1) ?_)))
   refine aW (by simp only[am,aD,simprocAttr,c1]; rfl) ?_
   refine cU (Z0) (bM ⟨λ_=>?_,λe=>absurd rfl e⟩)
   have w3:IntKind.i64.wrap (((i:Nat):Int)+1)=((i+1:Nat):Int):=bE om om
   refine ah (M5 e0 e1 e2 e6 w3) ?_
   refine⟨m-(i+1),om,i+1,d2,rfl,om,hu2,hz2,?_,Z1 e0,Z1 e1,Z1 e2,Z2 e6 w3⟩
   have e:d2=insInner (ltK κ) a i d1:=by
    rw[← hD2]
    cases n with
    | zero=>rfl
    | succ n=>rw[insInner,if_neg (by simp; omega)]
   rw[e,← hD]
   conv=>rhs; rw[insOuter,if_pos q]
 ·have q:¬ i<m:=aE q
  refine bM ⟨λ_=>⟨.tup [],rfl,?_⟩,λe=>absurd rfl e⟩
  have e:d1=insertionSort (ltK κ) d a m:=by rw[← hD,insOuter,if_neg q]
  rw[← e]
  exact hu
theorem vR {enc:Int→AV}{κ:Int→Int}{f:FuncId}{caps:List AV}{h:AH}{b o c lo hi first:Nat}{cs:List AV}{d:Array Int} (hc:Cm enc κ f caps b h) (hg:h.get b=some (dA enc cs o d)) (hr:o+d.size≤cs.length) (hm:first+hi≤d.size) (hs:d.size<2 ^ 40) (hlo:lo<2 ^ 40) :
 C prg 211 [.sl b o d.size c,.int .i64 (lo:Nat),.int .i64 (hi:Nat),.int .i64 (first:Nat),.fn f caps] h λv h'=>Upd h h' b (dA enc cs o (siftDown (ltK κ) hi first lo d)):=by
 refine HH pf211 ?_
 refine ab (ah (Mi0) ?_)
 refine aU (cf (λn ts h1=>∃ (r:Nat) (d1:Array Int),n=hi-r∧r<2 ^ 40∧Upd h h1 b (dA enc cs o d1)∧d1.size=d.size∧siftDown (ltK κ) hi first r d1=siftDown (ltK κ) hi first lo d ∧
  (aB ts 0=.sl b o d.size c∧aB ts 4=.fn f caps)∧aB ts 2=.int .i64 (hi:Nat)∧aB ts 3=.int .i64 (first:Nat)∧aB ts 10=.int .i64 (r:Nat)) ?_ (n:=hi-lo) ⟨lo,d,rfl,hlo,HG hg,rfl,rfl,Zi0,Zi0,Zi0,Zi0⟩)
 rintro n ts h1 ⟨r,d1,rfl,hrl,hu,hz,hD,e0,e2,e3,e8⟩
 have w0:IntKind.i64.wrap (2*((r:Nat):Int))=((2*r:Nat):Int):=by rw[bE om om]; omega
 have w1:IntKind.i64.wrap (((2*r:Nat):Int)+1)=((2*r+1:Nat):Int):=by rw[bE om om]; omega
 refine aU (ab (ah (M6 e0 e2 e3 e8 w0 w1) ?_))
 refine ab (ab (ah (M6 e0 e2 e3 e8 w0 w1) ?_))
 refine bg (t:=decide (hi≤2*r+1)) (Z1 @me) (λq=>?_) λq=>?_
 ·have q:hi≤2*r+1:=aF q
  refine bM ⟨λe=>absurd e (by decide),λ_=>⟨λ_=>⟨.tup [],rfl,?_⟩,λe=>absurd rfl e⟩⟩
  have e:d1=siftDown (ltK κ) hi first lo d:=by rw[← hD]; conv=>rhs; rw[siftDown,dif_pos q]
  rw[← e]
  exact hu
 have q:¬ hi≤2*r+1:=aE q
 refine aN (ab (cZ (λts h2=>∃ k,(k=2*r+1∨k=2*r+2)∧k<hi∧Upd h h2 b (dA enc cs o d1)∧(aB ts 0=.sl b o d.size c∧aB ts 4=.fn f caps)∧aB ts 2=.int .i64 (hi:Nat)∧aB ts 3=.int .i64 (first:Nat)∧aB ts 10=.int .i64 (r:Nat)∧aB ts 11=.int .i64 (k:Nat) ∧
  siftDown (ltK κ) hi first r d1=if (ltK κ) d1[first+r]! d1[first+k]! = true then siftDown (ltK κ) hi first k (swp d1 (first+r) (first+k)) else d1) ?_ ?_))
 ·have w2:IntKind.i64.wrap (((2*r+1:Nat):Int)+1)=((2*r+2:Nat):Int):=by rw[bE om om]; omega
  have w3:IntKind.i64.wrap (((first:Nat):Int)+((2*r+1:Nat):Int))=((first+(2*r+1):Nat):Int):=by rw[bE om om]; omega
  have w4:IntKind.i64.wrap (((first+(2*r+1):Nat):Int)+1)=((first+(2*r+2):Nat):Int):=by rw[bE om om]; omega
  by_cases q2:2*r+2<hi
  ·have c1:decide (((2*r+2:Nat):Int)<((hi:Nat):Int))=true:=by simp; omega
   have i1:bN ((first+(2*r+1):Nat):Int) d.size=some (first+(2*r+1)):=aO om
   have i2:bN ((first+(2*r+2):Nat):Int) d.size=some (first+(2*r+2)):=aO om
   have r1:=rdE (i:=first+(2*r+1)) hu.get om om
   have r2:=rdE (i:=first+(2*r+2)) hu.get om om
   refine ab (aX (dT 19 (by simp only[am,aD,simprocAttr,e0,e2,e3,e8,c1,w0,w1,w2,w3,w4,i1,i2,r1,r2,ai]<;>rfl) rfl (by simp only[am,aD,simprocAttr,e0,e2,e3,e8,c1,w0,w1,w2,w3,w4,i1,i2,r1,r2,ai]) (by simp only[am,aD,simprocAttr,e0,e2,e3,e8,c1,w0,w1,w2,w3,w4,i1,i2,r1,r2,ai]<;>rfl) (by simp only[am,aD,simprocAttr,e0,e2,e3,e8,c1,w0,w1,w2,w3,w4,i1,i2,r1,r2,ai]<;>rfl) ((hc.u hu).at) λv h' hq=>?_))
   obtain⟨rfl,rfl⟩:=hq
   refine aW (by simp only[am,aD,simprocAttr,hc.lk,c1]; rfl) ?_
   refine bg (t:=(ltK κ) d1[first+(2*r+1)]! d1[first+(2*r+2)]!) (Z0) (λq3=>?_) λq3=>?_
   ·refine ah (M1 w2) ?_
    refine⟨2*r+2,.inr rfl,q2,hu,Z1 e0,Z1 e2,Z1 e3,Z1 e8,Z0,?_⟩
    conv=>lhs; rw[siftDown,dif_neg q,if_pos (by simp only[aq,aj]; exact⟨q2,q3⟩)]
    cases (ltK κ) d1[first+r]! d1[first+(2*r+2)]! with
    | true=>simp [q2]
    | false=>simp
   ·refine aN ⟨2*r+1,.inl rfl,om,hu,Z1 e0,Z1 e2,Z1 e3,Z1 e8,Z0,?_⟩
    conv=>lhs; rw[siftDown,dif_neg q,if_neg (by simp only[aq,aj]; intro x; rw[show first+(2*r+1)+1=first+(2*r+2) by omega,q3] at x; exact absurd x.2 (by decide))]
    cases (ltK κ) d1[first+r]! d1[first+(2*r+1)]! with
    | true=>simp
    | false=>simp
  ·have c1:decide (((2*r+2:Nat):Int)<((hi:Nat):Int))=false:=by simp; omega
   refine ab (aX (fh 19 (by simp only[am,aD,simprocAttr,e0,e2,e3,e8,c1,w0,w1,w2]; rfl) rfl (Z1 c1) ?_))
   refine aW (by simp only[am,aD,simprocAttr,c1]; rfl) ?_
   refine cU (Z0) ?_
   refine aN ⟨2*r+1,.inl rfl,om,hu,Z1 e0,Z1 e2,Z1 e3,Z1 e8,Z0,?_⟩
   conv=>lhs; rw[siftDown,dif_neg q,if_neg (by simp only[aq,aj]; omega)]
   cases (ltK κ) d1[first+r]! d1[first+(2*r+1)]! with
   | true=>simp
   | false=>simp
 clear e0 e2 e3 e8
 rintro ts h2 ⟨k,hk,hkh,hu2,e0,e2,e3,e8,e9,hE⟩
 have w3:IntKind.i64.wrap (((first:Nat):Int)+((r:Nat):Int))=((first+r:Nat):Int):=by rw[bE om om]; omega
 have w4:IntKind.i64.wrap (((first:Nat):Int)+((k:Nat):Int))=((first+k:Nat):Int):=by rw[bE om om]; omega
 have i1:bN ((first+r:Nat):Int) d.size=some (first+r):=aO om
 have i2:bN ((first+k:Nat):Int) d.size=some (first+k):=aO om
 have r1:=rdE (i:=first+r) hu2.get om om
 have r2:=rdE (i:=first+k) hu2.get om om
 refine ab (ab (aX (dT 13 (M12 e0 e2 e3 e8 e9 w3 w4 i1 i2 r1 r2 @ai) rfl (Z12 e0 e2 e3 e8 e9 w3 w4 i1 i2 r1 r2 @ai) (M12 e0 e2 e3 e8 e9 w3 w4 i1 i2 r1 r2 @ai) (M12 e0 e2 e3 e8 e9 w3 w4 i1 i2 r1 r2 @ai) ((hc.u hu2).at) λv h' hq=>?_)))
 obtain⟨rfl,rfl⟩:=hq
 refine aW (by simp only[am,aD,simprocAttr,hc.lk]; rfl) ?_
 refine bg (t:=!(ltK κ) d1[first+r]! d1[first+k]!) (Z0) (λq3=>?_) λq3=>?_
 ·have q3:(ltK κ) d1[first+r]! d1[first+k]! = false:=by simpa using q3
  refine bt ⟨.tup [],rfl,?_⟩
  have e:d1=siftDown (ltK κ) hi first lo d:=by rw[← hD,hE,if_neg (by rw[q3]; decide)]
  rw[← e]
  exact hu2
 ·have q3:(ltK κ) d1[first+r]! d1[first+k]! = true:=by simpa using q3
  obtain⟨m1,m2,s1,s2,u2⟩:=mt (i:=first+r) (j:=first+k) hu2.get om om om
  refine aN (ab (ah (by simp only[am,aD,simprocAttr,e0,e2,e3,e8,e9,w3,w4,i1,i2,r1,r2,s1,s2,hc.ec,hc.eo,ai]<;>rfl) ?_))
  refine ah (M1 e9) ?_
  exact⟨hi-k,om,k,swp d1 (first+r) (first+k),rfl,om,hu2.trans u2,by rw[cA,hz],by rw[← hD,hE,if_pos q3],Z1 e0,Z1 e2,Z1 e3,Z1 e9⟩
theorem DN {enc:Int→AV}{κ:Int→Int}{f:FuncId}{caps:List AV}{h:AH}{b o c a m:Nat}{cs:List AV}{d:Array Int} (hc:Cm enc κ f caps b h) (hg:h.get b=some (dA enc cs o d)) (hr:o+d.size≤cs.length) (ham:a≤m) (hm:m≤d.size) (hs:d.size<2 ^ 40) :
 C prg 179 [.sl b o d.size c,.int .i64 (a:Nat),.int .i64 (m:Nat),.fn f caps] h λv h'=>Upd h h' b (dA enc cs o (heapSort (ltK κ) d a m)):=by
 refine HH pf179 ?_
 refine ab (ah (Mi0) ?_)
 refine ab (ah (Mi0) ?_)
 have w0:IntKind.i64.wrap (((m:Nat):Int)-((a:Nat):Int))=((m-a:Nat):Int):=by rw[bE om om]; omega
 refine ab (ah (Mi1 w0) ?_)
 have w1:IntKind.i64.wrap (((m-a:Nat):Int)-1)=((m-a:Nat):Int)-1:=bE om om
 have w2:IntKind.i64.wrap ((((m-a:Nat):Int)-1).tdiv 2)=(((m-a-1) / 2+1:Nat):Int)-1:=by
  rw[GA]
  split
  ·rename_i e; rw[e]; rfl
  ·rw[bE om om]; omega
 have z2:¬ (2:Int)=0:=by decide
 refine ab (ab (ah (Mi4 w0 w1 w2 z2) ?_))
 refine cZ (λts h1=>Upd h h1 b (dA enc cs o (heapBuild (ltK κ) (m-a) a ((m-a-1) / 2+1) d))∧(aB ts 0=.sl b o d.size c∧aB ts 3=.fn f caps)∧aB ts 8=.int .i64 (a:Nat)∧aB ts 9=.int .i64 0∧aB ts 10=.int .i64 ((m-a:Nat):Int))
  (aU (cf (λn ts h1=>∃ d1,Upd h h1 b (dA enc cs o d1)∧d1.size=d.size∧n≤(m-a-1) / 2+1∧heapBuild (ltK κ) (m-a) a n d1=heapBuild (ltK κ) (m-a) a ((m-a-1) / 2+1) d∧(aB ts 0=.sl b o d.size c∧aB ts 3=.fn f caps)∧aB ts 8=.int .i64 (a:Nat)∧aB ts 9=.int .i64 0∧aB ts 10=.int .i64 ((m-a:Nat):Int)∧aB ts 11=.int .i64 (((n:Nat):Int)-1)) ?_ (n:=(m-a-1) / 2+1)
   ⟨d,HG hg,rfl,ae _,rfl,Zi0,Zi0,Zi0,Zi0,Zi0⟩)) ?_
 ·rintro n ts h1 ⟨d1,hu,hz,hn,hD,e0,e6,e7,e8,e9⟩
  refine ab (ab (ah (M1 e9) ?_))
  refine bg (t:=decide (0<n)) (by simp only[am,aD,simprocAttr]; exact congrArg AV.bool (by simp only[decide_eq_decide]; omega)) (λq=>?_) λq=>?_
  ·have q:0<n:=aF q
   obtain⟨n,rfl⟩:∃ k,n=k+1:=⟨n-1,om⟩
   have e1:((n+1:Nat):Int)-1=((n:Nat):Int):=om
   rw[e1] at e9
   have w3:IntKind.i64.wrap (((n:Nat):Int)-1)=((n:Nat):Int)-1:=bE om om
   have hsift:=vR (c:=c) (lo:=n) (hi:=m-a) (first:=a) (hc.u hu) hu.get om om om om
   rw[hz] at hsift
   refine aN (ab (aU (aX (aP 5 (M5 e0 e6 e7 e8 e9) rfl (Z5 e0 e6 e7 e8 e9) (M5 e0 e6 e7 e8 e9) (hsift) λv h2 hu2=>?_))))
   refine aW (by simp only[am,aD,simprocAttr]; rfl) ?_
   refine ah (M2 e9 w3) ?_
   exact⟨n,om,siftDown (ltK κ) (m-a) a n d1,hu.trans hu2,by rw[gH _ _ _ _ _ _ (ae _),hz],om,by rw[← hD,heapBuild],Z1 e0,Z1 e6,Z1 e7,Z1 e8,Z2 e9 w3⟩
  ·have q:n=0:=by have:=aE q; omega
   subst q
   refine bM ⟨λ_=>⟨?_,Z1 e0,Z1 e6,Z1 e7,Z1 e8⟩,λe=>absurd rfl e⟩
   rw[← hD,heapBuild]
   exact hu
 rintro ts h1 ⟨hu,e0,e6,e7,e8⟩
 generalize hB:heapBuild (ltK κ) (m-a) a ((m-a-1) / 2+1) d=dB at hu
 have hzB:dB.size=d.size:=by rw[← hB,mH]
 have hfin:heapSort (ltK κ) d a m=heapPop (ltK κ) a (m-a) dB:=by rw[heapSort,hB]
 rw[hfin]
 refine ab (ah (M2 e8 w1) ?_)
 refine aU (cf (λn ts h1=>∃ d1,Upd h h1 b (dA enc cs o d1)∧d1.size=d.size∧n≤m-a∧heapPop (ltK κ) a n d1=heapPop (ltK κ) a (m-a) dB∧(aB ts 0=.sl b o d.size c∧aB ts 3=.fn f caps)∧aB ts 8=.int .i64 (a:Nat)∧aB ts 9=.int .i64 0∧aB ts 10=.int .i64 ((m-a:Nat):Int)∧aB ts 12=.int .i64 (((n:Nat):Int)-1)) ?_ (n:=m-a)
  ⟨dB,hu,hzB,ae _,rfl,Z1 e0,Z1 e6,Z1 e7,Z1 e8,Z2 e8 w1⟩)
 clear e0 e6 e7 e8
 rintro n ts h1 ⟨d1,hu,hz,hn,hD,e0,e6,e7,e8,e10⟩
 refine ab (ab (ah (M1 e10) ?_))
 refine bg (t:=decide (0<n)) (by simp only[am,aD,simprocAttr]; exact congrArg AV.bool (by simp only[decide_eq_decide]; omega)) (λq=>?_) λq=>?_
 ·have q:0<n:=aF q
  obtain⟨n,rfl⟩:∃ k,n=k+1:=⟨n-1,om⟩
  have e1:((n+1:Nat):Int)-1=((n:Nat):Int):=om
  rw[e1] at e10
  have w3:IntKind.i64.wrap (((n:Nat):Int)-1)=((n:Nat):Int)-1:=bE om om
  have w4:IntKind.i64.wrap (((a:Nat):Int)+((n:Nat):Int))=((a+n:Nat):Int):=by rw[bE om om]; omega
  have i1:bN ((a+n:Nat):Int) d.size=some (a+n):=aO om
  have i2:bN ((a:Nat):Int) d.size=some a:=aO om
  have r1:=rdE (i:=a+n) hu.get om om
  have r2:=rdE (i:=a) hu.get om om
  obtain⟨m1,m2,s1,s2,u2⟩:=mt (i:=a) (j:=a+n) hu.get om om om
  have hsz:(swp d1 a (a+n)).size=d.size:=by rw[cA,hz]
  have hsift:=vR (c:=c) (lo:=0) (hi:=n) (first:=a) ((hc.u hu).u u2) u2.get om om om om
  rw[hsz] at hsift
  refine aN (ab (aU (ab (ah (by simp only[am,aD,simprocAttr,e0,e6,e7,e8,e10,w4,i1,i2,r1,r2,s1,s2,hc.ec,hc.eo,ai]<;>rfl) ?_))))
  refine aX (aP 5 (M5 e0 e6 e7 e8 e10) rfl (Z5 e0 e6 e7 e8 e10) (M5 e0 e6 e7 e8 e10) (hsift) λv h2 hu2=>?_)
  refine aW (by simp only[am,aD,simprocAttr]; rfl) ?_
  refine ah (M2 e10 w3) ?_
  exact⟨n,om,siftDown (ltK κ) n a 0 (swp d1 a (a+n)),(hu.trans u2).trans hu2,by rw[gH _ _ _ _ _ _ (ae _),hsz],om,by rw[← hD,heapPop],Z1 e0,Z1 e6,Z1 e7,Z1 e8,Z2 e10 w3⟩
 ·have q:n=0:=by have:=aE q; omega
  subst q
  refine bM ⟨λ_=>⟨.tup [],rfl,?_⟩,λe=>absurd rfl e⟩
  rw[← hD,heapPop]
  exact hu
open Go.Am
open Go.Sort (swp ltInt reverseLoop reverseRange scanUp scanDown partLoop partition partEqLoop partitionEqual scanUp_spec scanDown_spec scanUp_ge scanDown_le partLoop_eq partEqLoop_eq)
theorem FO {enc:Int→AV}{κ:Int→Int}{f:FuncId}{caps:List AV}{h:AH}{b o c a m:Nat}{cs:List AV}{d:Array Int} (hc:Cm enc κ f caps b h) (hg:h.get b=some (dA enc cs o d)) (hr:o+d.size≤cs.length) (ham:a<m) (hm:m≤d.size) (hs:d.size<2 ^ 40) :
 C prg 182 [.sl b o d.size c,.int .i64 (a:Nat),.int .i64 (m:Nat),.fn f caps] h λv h'=>Upd h h' b (dA enc cs o (reverseRange d a m)):=by
 refine HH pf182 ?_
 have w0:IntKind.i64.wrap (((m:Nat):Int)-1)=((m-1:Nat):Int):=by rw[bE om om]; omega
 refine ab (ah (Mi0) ?_)
 refine ab (ah (Mi1 w0) ?_)
 refine aU (cf (λn ts h1=>∃ (i j:Nat) (d1:Array Int),n=j-i∧a≤i∧j<m∧Upd h h1 b (dA enc cs o d1)∧d1.size=d.size∧reverseLoop i j d1=reverseRange d a m∧(aB ts 0=.sl b o d.size c∧aB ts 3=.fn f caps)∧aB ts 8=.int .i64 (i:Nat)∧aB ts 9=.int .i64 (j:Nat)) ?_ (n:=m-1-a)
  ⟨a,m-1,d,rfl,ae _,om,HG hg,rfl,rfl,Zi0,Zi0,Zi1 w0⟩)
 rintro n ts h1 ⟨i,j,d1,rfl,hi,hj,hu,hz,hD,e0,e6,e7⟩
 refine ab (ab (ah (M3 e0 e6 e7) ?_))
 refine bg (t:=decide (i<j)) (Z1 @bi) (λq=>?_) λq=>?_
 ·have q:i<j:=aF q
  have x1:bN ((i:Nat):Int) d.size=some i:=aO om
  have x2:bN ((j:Nat):Int) d.size=some j:=aO om
  have r1:=rdE (i:=i) hu.get om om
  have r2:=rdE (i:=j) hu.get om om
  obtain⟨m1,m2,s1,s2,u2⟩:=mt (i:=i) (j:=j) hu.get om om om
  refine aN (aU (ab (ah (M12 e0 e6 e7 x1 x2 r1 r2 s1 s2 hc.ec hc.eo @ai) ?_)))
  have w1:IntKind.i64.wrap (((i:Nat):Int)+1)=((i+1:Nat):Int):=bE om om
  have w2:IntKind.i64.wrap (((j:Nat):Int)-1)=((j-1:Nat):Int):=by rw[bE om om]; omega
  refine ab (ah (M4 e0 e6 e7 w1) ?_)
  refine ah (M4 e0 e6 e7 w2) ?_
  refine⟨j-1-(i+1),om,i+1,j-1,swp d1 i j,rfl,om,om,hu.trans u2,by rw[cA,hz],?_,Z1 e0,Z2 e6 w1,Z2 e7 w2⟩
  rw[← hD]
  conv=>rhs; rw[reverseLoop,if_pos q]
 ·have q:¬ i<j:=aE q
  refine bM ⟨λ_=>⟨.tup [],rfl,?_⟩,λe=>absurd rfl e⟩
  have e:d1=reverseRange d a m:=by rw[← hD,reverseLoop,if_neg q]
  rw[← e]
  exact hu
theorem DE {enc:Int→AV}{κ:Int→Int}{f:FuncId}{caps:List AV}{h:AH}{b o c a m piv:Nat}{cs:List AV}{d:Array Int} (hc:Cm enc κ f caps b h) (hg:h.get b=some (dA enc cs o d)) (hr:o+d.size≤cs.length) (hp:a≤piv) (hpm:piv<m) (hm:m≤d.size) (hs:d.size<2 ^ 40) :
 C prg 185 [.sl b o d.size c,.int .i64 (a:Nat),.int .i64 (m:Nat),.int .i64 (piv:Nat),.fn f caps] h λv h'=>v=.tup [.int .i64 ((partition (ltK κ) d a m piv).1:Nat),.bool (partition (ltK κ) d a m piv).2.1]∧Upd h h' b (dA enc cs o (partition (ltK κ) d a m piv).2.2):=by
 refine HH pf185 ?_
 refine ab (ah (Mi0) ?_)
 have w0:IntKind.i64.wrap (((m:Nat):Int)-1)=((m-1:Nat):Int):=by rw[bE om om]; omega
 have w1:IntKind.i64.wrap (((a:Nat):Int)+1)=((a+1:Nat):Int):=bE om om
 have hu0:=HG hg
 have x1:bN ((a:Nat):Int) d.size=some a:=aO om
 have x2:bN ((piv:Nat):Int) d.size=some piv:=aO om
 have r1:=rdE (i:=a) hu0.get om om
 have r2:=rdE (i:=piv) hu0.get om om
 obtain⟨m1,m2,s1,s2,u2⟩:=mt (i:=a) (j:=piv) hu0.get om om om
 refine ab (ah (Mi10 x1 x2 r1 r2 s1 s2 hc.ec hc.eo @ai @ai) ?_)
 refine ab (fJ (λts h1=>h1=m2∧(aB ts 0=.sl b o d.size c∧aB ts 4=.fn f caps)∧aB ts 1=.int .i64 (a:Nat)∧aB ts 12=.int .i64 ((a+1:Nat):Int)∧aB ts 13=.int .i64 ((m-1:Nat):Int)) (by simp only[am,aD,simprocAttr,bL,w0,w1]) ?_)
 have hu:=u2
 have hz:(swp d a piv).size=d.size:=cA ..
 have hP1:partition (ltK κ) d a m piv=if (scanDown (λx=>!(ltK κ) x (swp d a piv)[a]!) (swp d a piv) (scanUp (λx=>(ltK κ) x (swp d a piv)[a]!) (swp d a piv) (m-1) (a+1)) (m-1))<(scanUp (λx=>(ltK κ) x (swp d a piv)[a]!) (swp d a piv) (m-1) (a+1)) then ((scanDown (λx=>!(ltK κ) x (swp d a piv)[a]!) (swp d a piv) (scanUp (λx=>(ltK κ) x (swp d a piv)[a]!) (swp d a piv) (m-1) (a+1)) (m-1)),true,swp (swp d a piv) (scanDown (λx=>!(ltK κ) x (swp d a piv)[a]!) (swp d a piv) (scanUp (λx=>(ltK κ) x (swp d a piv)[a]!) (swp d a piv) (m-1) (a+1)) (m-1)) a) else ((partLoop (ltK κ) a ((scanUp (λx=>(ltK κ) x (swp d a piv)[a]!) (swp d a piv) (m-1) (a+1))+1) ((scanDown (λx=>!(ltK κ) x (swp d a piv)[a]!) (swp d a piv) (scanUp (λx=>(ltK κ) x (swp d a piv)[a]!) (swp d a piv) (m-1) (a+1)) (m-1))-1) (swp (swp d a piv) (scanUp (λx=>(ltK κ) x (swp d a piv)[a]!) (swp d a piv) (m-1) (a+1)) (scanDown (λx=>!(ltK κ) x (swp d a piv)[a]!) (swp d a piv) (scanUp (λx=>(ltK κ) x (swp d a piv)[a]!) (swp d a piv) (m-1) (a+1)) (m-1)))).1,false,swp (partLoop (ltK κ) a ((scanUp (λx=>(ltK κ) x (swp d a piv)[a]!) (swp d a piv) (m-1) (a+1))+1) ((scanDown (λx=>!(ltK κ) x (swp d a piv)[a]!) (swp d a piv) (scanUp (λx=>(ltK κ) x (swp d a piv)[a]!) (swp d a piv) (m-1) (a+1)) (m-1))-1) (swp (swp d a piv) (scanUp (λx=>(ltK κ) x (swp d a piv)[a]!) (swp d a piv) (m-1) (a+1)) (scanDown (λx=>!(ltK κ) x (swp d a piv)[a]!) (swp d a piv) (scanUp (λx=>(ltK κ) x (swp d a piv)[a]!) (swp d a piv) (m-1) (a+1)) (m-1)))).2 (partLoop (ltK κ) a ((scanUp (λx=>(ltK κ) x (swp d a piv)[a]!) (swp d a piv) (m-1) (a+1))+1) ((scanDown (λx=>!(ltK κ) x (swp d a piv)[a]!) (swp d a piv) (scanUp (λx=>(ltK κ) x (swp d a piv)[a]!) (swp d a piv) (m-1) (a+1)) (m-1))-1) (swp (swp d a piv) (scanUp (λx=>(ltK κ) x (swp d a piv)[a]!) (swp d a piv) (m-1) (a+1)) (scanDown (λx=>!(ltK κ) x (swp d a piv)[a]!) (swp d a piv) (scanUp (λx=>(ltK κ) x (swp d a piv)[a]!) (swp d a piv) (m-1) (a+1)) (m-1)))).1 a):=rfl
 rw[hP1]
 clear hP1 u2 s1 s2 r1 r2 x1 x2 hu0 hg
 generalize swp d a piv=d1 at *
 rintro ts h1 ⟨rfl,e0,e1,em,ef⟩
 have hj0:m-1<m:=om
 generalize hj:m-1=j at *
 have ha1:a+1≤j+1:=om
 generalize hi:a+1=i at *
 refine ab (cZ (λts h2=>h1=h2∧(aB ts 0=.sl b o d.size c∧aB ts 4=.fn f caps)∧aB ts 1=.int .i64 (a:Nat)∧aB ts 12=.int .i64 (scanUp (λx=>(ltK κ) x d1[a]!) d1 j i:Nat)∧aB ts 13=.int .i64 (j:Nat))
  (aU (cf (λn ts h2=>h2=h1∧∃ k,n=j+1-k∧i≤k∧k≤j+1∧scanUp (λx=>(ltK κ) x d1[a]!) d1 j k=scanUp (λx=>(ltK κ) x d1[a]!) d1 j i∧(aB ts 0=.sl b o d.size c∧aB ts 4=.fn f caps)∧aB ts 1=.int .i64 (a:Nat)∧aB ts 12=.int .i64 (k:Nat)∧aB ts 13=.int .i64 (j:Nat)) ?_ (n:=j+1-i) ⟨rfl,i,rfl,om,om,rfl,Z4 e0 e1 em ef,Z4 e0 e1 em ef,Z4 e0 e1 em ef,Z4 e0 e1 em ef⟩)) ?_)
 ·clear e0 e1 em ef
  rintro n ts h2 ⟨rfl,k,rfl,hk,hk2,hS,e0,e1,em,ef⟩
  by_cases q:k≤j
  ·have c1:decide (((k:Nat):Int)≤((j:Nat):Int))=true:=by simp only[aj]; omega
   have x1:bN ((k:Nat):Int) d.size=some k:=aO om
   have x2:bN ((a:Nat):Int) d.size=some a:=aO om
   have r1:=rdE (i:=k) hu.get om om
   have r2:=rdE (i:=a) hu.get om om
   refine ab (ab (aX (dT 13 (M10 e0 e1 em ef c1 x1 x2 r1 r2 @ai) rfl (Z10 e0 e1 em ef c1 x1 x2 r1 r2 @ai) (M10 e0 e1 em ef c1 x1 x2 r1 r2 @ai) (M10 e0 e1 em ef c1 x1 x2 r1 r2 @ai) ((hc.u hu).at) λv h3 hq=>?_)))
   obtain⟨rfl,rfl⟩:=hq
   refine aW (M2 hc.lk c1) ?_
   refine bg (t:=(ltK κ) d1[k]! d1[a]!) (Z0) (λq2=>?_) λq2=>?_
   ·have w1:IntKind.i64.wrap (((k:Nat):Int)+1)=((k+1:Nat):Int):=bE om om
    refine aN (aU (ah (M5 e0 e1 em ef w1) ?_))
    refine⟨j+1-(k+1),om,rfl,k+1,rfl,om,om,?_,Z4 e0 e1 em ef,Z4 e0 e1 em ef,Z5 e0 e1 em ef w1,Z4 e0 e1 em ef⟩
    rw[← hS]
    conv=>rhs; rw[scanUp,if_pos (by simp only[aq,aj]; exact⟨q,q2⟩)]
   ·refine bM ⟨λ_=>⟨rfl,Z4 e0 e1 em ef,Z4 e0 e1 em ef,?_,Z4 e0 e1 em ef⟩,λe=>absurd rfl e⟩
    rw[← hS,scanUp,if_neg (by simp only[aq,aj]; rintro⟨_,x⟩; exact absurd (q2.symm.trans x) (by decide))]
    simp only[am,aD,simprocAttr,e0,e1,em,ef]
  ·have c1:decide (((k:Nat):Int)≤((j:Nat):Int))=false:=by simp only[aR]; omega
   refine ab (ab (aX (fh 13 (M5 e0 e1 em ef c1) rfl (Z1 c1) ?_)))
   refine aW (M1 c1) ?_
   refine cU (Z0) (bM ⟨λ_=>⟨rfl,Z4 e0 e1 em ef,Z4 e0 e1 em ef,?_,Z4 e0 e1 em ef⟩,λe=>absurd rfl e⟩)
   rw[← hS,scanUp,if_neg (by simp only[aq,aj]; rintro⟨x,_⟩; exact q x)]
   simp only[am,aD,simprocAttr,e0,e1,em,ef]
 clear e0 e1 em ef
 rintro ts h2 ⟨rfl,e0,e1,em,ef⟩
 have s1:=scanUp_spec (λx=>(ltK κ) x d1[a]!) d1 j _ i rfl
 have s4:=lQ (λx=>(ltK κ) x d1[a]!) (λx=>!(ltK κ) x d1[a]!) (λ_=>rfl) d1 (i:=i) (j:=j) om om
 generalize scanUp (λx=>(ltK κ) x d1[a]!) d1 j i=i2 at *
 have ef':=ef
 have em':=em
 clear em ef
 have em:=ef'
 have ef:=em'
 clear ef' em'
 refine ab (cZ (λts h2=>h1=h2∧(aB ts 0=.sl b o d.size c∧aB ts 4=.fn f caps)∧aB ts 1=.int .i64 (a:Nat)∧aB ts 13=.int .i64 (scanDown (λx=>!(ltK κ) x d1[a]!) d1 i2 j:Nat)∧aB ts 12=.int .i64 (i2:Nat))
  (aU (cf (λn ts h2=>h2=h1∧∃ k,k=n∧k≤j∧i2≤k+1∧scanDown (λx=>!(ltK κ) x d1[a]!) d1 i2 k=scanDown (λx=>!(ltK κ) x d1[a]!) d1 i2 j∧(aB ts 0=.sl b o d.size c∧aB ts 4=.fn f caps)∧aB ts 1=.int .i64 (a:Nat)∧aB ts 13=.int .i64 (k:Nat)∧aB ts 12=.int .i64 (i2:Nat)) ?_ (n:=j) ⟨rfl,j,rfl,om,om,rfl,Z4 e0 e1 em ef,Z4 e0 e1 em ef,Z4 e0 e1 em ef,Z4 e0 e1 em ef⟩)) ?_)
 ·clear e0 e1 em ef
  rintro n ts h2 ⟨rfl,k,rfl,hk,hk2,hS,e0,e1,em,ef⟩
  by_cases q:i2≤k
  ·have c1:decide (((i2:Nat):Int)≤((k:Nat):Int))=true:=by simp only[aj]; omega
   have x1:bN ((k:Nat):Int) d.size=some k:=aO om
   have x2:bN ((a:Nat):Int) d.size=some a:=aO om
   have r1:=rdE (i:=k) hu.get om om
   have r2:=rdE (i:=a) hu.get om om
   refine ab (ab (aX (dT 13 (M10 e0 e1 em ef c1 x1 x2 r1 r2 @ai) rfl (Z10 e0 e1 em ef c1 x1 x2 r1 r2 @ai) (M10 e0 e1 em ef c1 x1 x2 r1 r2 @ai) (M10 e0 e1 em ef c1 x1 x2 r1 r2 @ai) ((hc.u hu).at) λv h3 hq=>?_)))
   obtain⟨rfl,rfl⟩:=hq
   refine aW (M2 hc.lk c1) ?_
   refine bg (t:=!(ltK κ) d1[k]! d1[a]!) (Z0) (λq2=>?_) λq2=>?_
   ·obtain⟨k,rfl⟩:∃ m,k=m+1:=⟨k-1,om⟩
    have w1:IntKind.i64.wrap (((k+1:Nat):Int)-1)=((k:Nat):Int):=by rw[bE om om]; omega
    refine aN (aU (ah (M5 e0 e1 em ef w1) ?_))
    refine⟨k,om,rfl,k,rfl,om,om,?_,Z4 e0 e1 em ef,Z4 e0 e1 em ef,Z5 e0 e1 em ef w1,Z4 e0 e1 em ef⟩
    rw[← hS]
    conv=>rhs; rw[scanDown,if_pos (by simp only[aq,aj]; exact⟨q,q2⟩)]
   ·refine bM ⟨λ_=>⟨rfl,Z4 e0 e1 em ef,Z4 e0 e1 em ef,?_,Z4 e0 e1 em ef⟩,λe=>absurd rfl e⟩
    obtain⟨k,rfl⟩:∃ m,k=m+1:=⟨k-1,om⟩
    rw[← hS,scanDown,if_neg (by simp only[aq,aj]; rintro⟨_,x⟩; exact absurd (q2.symm.trans x) (by decide))]
    simp only[am,aD,simprocAttr,e0,e1,em,ef]
  ·have c1:decide (((i2:Nat):Int)≤((k:Nat):Int))=false:=by simp only[aR]; omega
   refine ab (ab (aX (fh 13 (M5 e0 e1 em ef c1) rfl (Z1 c1) ?_)))
   refine aW (M1 c1) ?_
   refine cU (Z0) (bM ⟨λ_=>⟨rfl,Z4 e0 e1 em ef,Z4 e0 e1 em ef,?_,Z4 e0 e1 em ef⟩,λe=>absurd rfl e⟩)
   have:scanDown (λx=>!(ltK κ) x d1[a]!) d1 i2 k=k:=by
    cases k with
    | zero=>rfl
    | succ k=>rw[scanDown,if_neg (by simp only[aq,aj]; rintro⟨x,_⟩; exact q x)]
   rw[← hS,this]
   simp only[am,aD,simprocAttr,e0,e1,em,ef]
 clear e0 e1 em ef
 rintro ts h2 ⟨rfl,e0,e1,em,ef⟩
 have s2:=scanDown_le (λx=>!(ltK κ) x d1[a]!) d1 i2 j
 have s3:i2≤scanDown (λx=>!(ltK κ) x d1[a]!) d1 i2 j+1:=iU _ _ _ _ om
 generalize scanDown (λx=>!(ltK κ) x d1[a]!) d1 i2 j=j2 at *
 refine ab (ab (ah (M4 e0 e1 em ef) ?_))
 refine bg (t:=decide (j2<i2)) (Z1 @bi) (λq=>?_) λq=>?_
 ·have q:j2<i2:=aF q
  rw[if_pos q]
  have x1:bN ((j2:Nat):Int) d.size=some j2:=aO om
  have x2:bN ((a:Nat):Int) d.size=some a:=aO om
  have r1:=rdE (i:=j2) hu.get om om
  have r2:=rdE (i:=a) hu.get om om
  obtain⟨m1,m2,s1,s2,u2⟩:=mt (i:=j2) (j:=a) hu.get om om om
  refine ab (ah (M14 e0 e1 em ef x1 x2 r1 r2 s1 s2 hc.ec hc.eo @ai @ai) ?_)
  refine ab (ah (M4 e0 e1 em ef) ?_)
  exact bt ⟨_,(by simp only[rs,rf185,am,aD,simprocAttr,e0,e1,em,ef]<;>rfl),rfl,hu.trans u2⟩
 ·have q:¬ j2<i2:=aE q
  have s5:=s4 q
  rw[if_neg q]
  have x1:bN ((i2:Nat):Int) d.size=some i2:=aO om
  have x2:bN ((j2:Nat):Int) d.size=some j2:=aO om
  have r1:=rdE (i:=i2) hu.get om om
  have r2:=rdE (i:=j2) hu.get om om
  obtain⟨m1,m2,s1,s2,u2⟩:=mt (i:=i2) (j:=j2) hu.get om om om
  have w2:IntKind.i64.wrap (((i2:Nat):Int)+1)=((i2+1:Nat):Int):=bE om om
  have w3:IntKind.i64.wrap (((j2:Nat):Int)-1)=((j2-1:Nat):Int):=by rw[bE om om]; omega
  refine aN (ab (ah (M14 e0 e1 em ef x1 x2 r1 r2 s1 s2 hc.ec hc.eo @ai @ai) ?_))
  refine ab (ah (M5 e0 e1 em ef w2) ?_)
  refine ab (ah (M5 e0 e1 em ef w3) ?_)
  have hu':=hu.trans u2
  have hz':(swp d1 i2 j2).size=d.size:=by rw[cA,hz]
  have hi3:a<i2+1:=om
  have hij:i2+1≤j2-1+1:=om
  have hjm:j2-1<m:=om
  generalize swp d1 i2 j2=d0 at *
  refine ab (cZ (λts h3=>∃ d3 k,Upd h h3 b (dA enc cs o d3)∧d3.size=d.size∧k<m∧partLoop (ltK κ) a (i2+1) (j2-1) d0=(k,d3)∧(aB ts 0=.sl b o d.size c∧aB ts 4=.fn f caps)∧aB ts 1=.int .i64 (a:Nat)∧aB ts 13=.int .i64 (k:Nat))
   (aU (cf (λn ts h3=>∃ i j d1,n=j+1-i∧a<i∧i≤j+1∧j<m∧Upd h h3 b (dA enc cs o d1)∧d1.size=d.size∧partLoop (ltK κ) a i j d1=partLoop (ltK κ) a (i2+1) (j2-1) d0∧(aB ts 0=.sl b o d.size c∧aB ts 4=.fn f caps)∧aB ts 1=.int .i64 (a:Nat)∧aB ts 12=.int .i64 (i:Nat)∧aB ts 13=.int .i64 (j:Nat)) ?_ (n:=j2-1+1-(i2+1)) ⟨i2+1,j2-1,d0,rfl,om,om,om,hu',hz',rfl,Z1 e0,Z1 e1,Z2 em w2,Z2 ef w3⟩)) ?_)
  ·clear e0 e1 em ef hu hz hu' hz' u2 s1 s2 r1 r2 x1 x2
   rintro n ts h1 ⟨i,j,d1,rfl,hai,hij,hjm,hu,hz,hD,e0,e1,em,ef⟩
   rw[partLoop_eq] at hD
   refine aU ?_
   refine ab (cZ (λts h2=>h1=h2∧(aB ts 0=.sl b o d.size c∧aB ts 4=.fn f caps)∧aB ts 1=.int .i64 (a:Nat)∧aB ts 12=.int .i64 (scanUp (λx=>(ltK κ) x d1[a]!) d1 j i:Nat)∧aB ts 13=.int .i64 (j:Nat))
    (aU (cf (λn ts h2=>h2=h1∧∃ k,n=j+1-k∧i≤k∧k≤j+1∧scanUp (λx=>(ltK κ) x d1[a]!) d1 j k=scanUp (λx=>(ltK κ) x d1[a]!) d1 j i∧(aB ts 0=.sl b o d.size c∧aB ts 4=.fn f caps)∧aB ts 1=.int .i64 (a:Nat)∧aB ts 12=.int .i64 (k:Nat)∧aB ts 13=.int .i64 (j:Nat)) ?_ (n:=j+1-i) ⟨rfl,i,rfl,om,om,rfl,Z4 e0 e1 em ef,Z4 e0 e1 em ef,Z4 e0 e1 em ef,Z4 e0 e1 em ef⟩)) ?_)
   ·clear e0 e1 em ef
    rintro n ts h2 ⟨rfl,k,rfl,hk,hk2,hS,e0,e1,em,ef⟩
    by_cases q:k≤j
    ·have c1:decide (((k:Nat):Int)≤((j:Nat):Int))=true:=by simp only[aj]; omega
     have x1:bN ((k:Nat):Int) d.size=some k:=aO om
     have x2:bN ((a:Nat):Int) d.size=some a:=aO om
     have r1:=rdE (i:=k) hu.get om om
     have r2:=rdE (i:=a) hu.get om om
     refine ab (ab (aX (dT 13 (M10 e0 e1 em ef c1 x1 x2 r1 r2 @ai) rfl (Z10 e0 e1 em ef c1 x1 x2 r1 r2 @ai) (M10 e0 e1 em ef c1 x1 x2 r1 r2 @ai) (M10 e0 e1 em ef c1 x1 x2 r1 r2 @ai) ((hc.u hu).at) λv h3 hq=>?_)))
     obtain⟨rfl,rfl⟩:=hq
     refine aW (M2 hc.lk c1) ?_
     refine bg (t:=(ltK κ) d1[k]! d1[a]!) (Z0) (λq2=>?_) λq2=>?_
     ·have w1:IntKind.i64.wrap (((k:Nat):Int)+1)=((k+1:Nat):Int):=bE om om
      refine aN (aU (ah (M5 e0 e1 em ef w1) ?_))
      refine⟨j+1-(k+1),om,rfl,k+1,rfl,om,om,?_,Z4 e0 e1 em ef,Z4 e0 e1 em ef,Z5 e0 e1 em ef w1,Z4 e0 e1 em ef⟩
      rw[← hS]
      conv=>rhs; rw[scanUp,if_pos (by simp only[aq,aj]; exact⟨q,q2⟩)]
     ·refine bM ⟨λ_=>⟨rfl,Z4 e0 e1 em ef,Z4 e0 e1 em ef,?_,Z4 e0 e1 em ef⟩,λe=>absurd rfl e⟩
      rw[← hS,scanUp,if_neg (by simp only[aq,aj]; rintro⟨_,x⟩; exact absurd (q2.symm.trans x) (by decide))]
      simp only[am,aD,simprocAttr,e0,e1,em,ef]
    ·have c1:decide (((k:Nat):Int)≤((j:Nat):Int))=false:=by simp only[aR]; omega
     refine ab (ab (aX (fh 13 (M5 e0 e1 em ef c1) rfl (Z1 c1) ?_)))
     refine aW (M1 c1) ?_
     refine cU (Z0) (bM ⟨λ_=>⟨rfl,Z4 e0 e1 em ef,Z4 e0 e1 em ef,?_,Z4 e0 e1 em ef⟩,λe=>absurd rfl e⟩)
     rw[← hS,scanUp,if_neg (by simp only[aq,aj]; rintro⟨x,_⟩; exact q x)]
     simp only[am,aD,simprocAttr,e0,e1,em,ef]
   clear e0 e1 em ef
   rintro ts h2 ⟨rfl,e0,e1,em,ef⟩
   have s1:=scanUp_ge (λx=>(ltK κ) x d1[a]!) d1 j i
   have s4:=lQ (λx=>(ltK κ) x d1[a]!) (λx=>!(ltK κ) x d1[a]!) (λ_=>rfl) d1 (i:=i) (j:=j) om om
   have s1b:=(scanUp_spec (λx=>(ltK κ) x d1[a]!) d1 j _ i rfl).2.1
   generalize scanUp (λx=>(ltK κ) x d1[a]!) d1 j i=i2 at *
   have ef':=ef
   have em':=em
   clear em ef
   have em:=ef'
   have ef:=em'
   clear ef' em'
   refine ab (cZ (λts h2=>h1=h2∧(aB ts 0=.sl b o d.size c∧aB ts 4=.fn f caps)∧aB ts 1=.int .i64 (a:Nat)∧aB ts 13=.int .i64 (scanDown (λx=>!(ltK κ) x d1[a]!) d1 i2 j:Nat)∧aB ts 12=.int .i64 (i2:Nat))
    (aU (cf (λn ts h2=>h2=h1∧∃ k,k=n∧k≤j∧i2≤k+1∧scanDown (λx=>!(ltK κ) x d1[a]!) d1 i2 k=scanDown (λx=>!(ltK κ) x d1[a]!) d1 i2 j∧(aB ts 0=.sl b o d.size c∧aB ts 4=.fn f caps)∧aB ts 1=.int .i64 (a:Nat)∧aB ts 13=.int .i64 (k:Nat)∧aB ts 12=.int .i64 (i2:Nat)) ?_ (n:=j) ⟨rfl,j,rfl,om,om,rfl,Z4 e0 e1 em ef,Z4 e0 e1 em ef,Z4 e0 e1 em ef,Z4 e0 e1 em ef⟩)) ?_)
   ·clear e0 e1 em ef
    rintro n ts h2 ⟨rfl,k,rfl,hk,hk2,hS,e0,e1,em,ef⟩
    by_cases q:i2≤k
    ·have c1:decide (((i2:Nat):Int)≤((k:Nat):Int))=true:=by simp only[aj]; omega
     have x1:bN ((k:Nat):Int) d.size=some k:=aO om
     have x2:bN ((a:Nat):Int) d.size=some a:=aO om
     have r1:=rdE (i:=k) hu.get om om
     have r2:=rdE (i:=a) hu.get om om
     refine ab (ab (aX (dT 13 (M10 e0 e1 em ef c1 x1 x2 r1 r2 @ai) rfl (Z10 e0 e1 em ef c1 x1 x2 r1 r2 @ai) (M10 e0 e1 em ef c1 x1 x2 r1 r2 @ai) (M10 e0 e1 em ef c1 x1 x2 r1 r2 @ai) ((hc.u hu).at) λv h3 hq=>?_)))
     obtain⟨rfl,rfl⟩:=hq
     refine aW (M2 hc.lk c1) ?_
     refine bg (t:=!(ltK κ) d1[k]! d1[a]!) (Z0) (λq2=>?_) λq2=>?_
     ·obtain⟨k,rfl⟩:∃ m,k=m+1:=⟨k-1,om⟩
      have w1:IntKind.i64.wrap (((k+1:Nat):Int)-1)=((k:Nat):Int):=by rw[bE om om]; omega
      refine aN (aU (ah (M5 e0 e1 em ef w1) ?_))
      refine⟨k,om,rfl,k,rfl,om,om,?_,Z4 e0 e1 em ef,Z4 e0 e1 em ef,Z5 e0 e1 em ef w1,Z4 e0 e1 em ef⟩
      rw[← hS]
      conv=>rhs; rw[scanDown,if_pos (by simp only[aq,aj]; exact⟨q,q2⟩)]
     ·refine bM ⟨λ_=>⟨rfl,Z4 e0 e1 em ef,Z4 e0 e1 em ef,?_,Z4 e0 e1 em ef⟩,λe=>absurd rfl e⟩
      obtain⟨k,rfl⟩:∃ m,k=m+1:=⟨k-1,om⟩
      rw[← hS,scanDown,if_neg (by simp only[aq,aj]; rintro⟨_,x⟩; exact absurd (q2.symm.trans x) (by decide))]
      simp only[am,aD,simprocAttr,e0,e1,em,ef]
    ·have c1:decide (((i2:Nat):Int)≤((k:Nat):Int))=false:=by simp only[aR]; omega
     refine ab (ab (aX (fh 13 (M5 e0 e1 em ef c1) rfl (Z1 c1) ?_)))
     refine aW (M1 c1) ?_
     refine cU (Z0) (bM ⟨λ_=>⟨rfl,Z4 e0 e1 em ef,Z4 e0 e1 em ef,?_,Z4 e0 e1 em ef⟩,λe=>absurd rfl e⟩)
     have:scanDown (λx=>!(ltK κ) x d1[a]!) d1 i2 k=k:=by
      cases k with
      | zero=>rfl
      | succ k=>rw[scanDown,if_neg (by simp only[aq,aj]; rintro⟨x,_⟩; exact q x)]
     rw[← hS,this]
     simp only[am,aD,simprocAttr,e0,e1,em,ef]
   clear e0 e1 em ef
   rintro ts h2 ⟨rfl,e0,e1,em,ef⟩
   have s2:=scanDown_le (λx=>!(ltK κ) x d1[a]!) d1 i2 j
   have s3:i2≤scanDown (λx=>!(ltK κ) x d1[a]!) d1 i2 j+1:=iU _ _ _ _ om
   generalize scanDown (λx=>!(ltK κ) x d1[a]!) d1 i2 j=j2 at *
   refine ab (ab (ah (M4 e0 e1 em ef) ?_))
   refine bg (t:=decide (j2<i2)) (Z1 @bi) (λq=>?_) λq=>?_
   ·have q:j2<i2:=aF q
    rw[if_pos q] at hD
    exact bM ⟨λe=>absurd e (by decide),λ_=>⟨λ_=>⟨d1,j2,hu,hz,om,hD.symm,Z1 e0,Z1 e1,Z1 em⟩,λe=>absurd rfl e⟩⟩
   ·have q:¬ j2<i2:=aE q
    have s5:=s4 q
    rw[if_neg q] at hD
    have x1:bN ((i2:Nat):Int) d.size=some i2:=aO om
    have x2:bN ((j2:Nat):Int) d.size=some j2:=aO om
    have r1:=rdE (i:=i2) hu.get om om
    have r2:=rdE (i:=j2) hu.get om om
    obtain⟨m1,m2,s1,s2,u2⟩:=mt (i:=i2) (j:=j2) hu.get om om om
    have w2:IntKind.i64.wrap (((i2:Nat):Int)+1)=((i2+1:Nat):Int):=bE om om
    have w3:IntKind.i64.wrap (((j2:Nat):Int)-1)=((j2-1:Nat):Int):=by rw[bE om om]; omega
    refine aN (ab (ah (M14 e0 e1 em ef x1 x2 r1 r2 s1 s2 hc.ec hc.eo @ai @ai) ?_))
    refine ab (ah (M5 e0 e1 em ef w2) ?_)
    refine ah (M5 e0 e1 em ef w3) ?_
    exact⟨_,om,i2+1,j2-1,swp d1 i2 j2,rfl,om,om,om,hu.trans u2,by rw[cA,hz],hD,Z1 e0,Z1 e1,Z2 ef w2,Z2 em w3⟩
  ·clear e0 e1 em ef hu hz hu' hz' u2 s1 s2 r1 r2 x1 x2
   rintro ts h1 ⟨d1,k,hu,hz,hk,hL,e0,e1,ek⟩
   rw[hL]
   have x1:bN ((k:Nat):Int) d.size=some k:=aO om
   have x2:bN ((a:Nat):Int) d.size=some a:=aO om
   have r1:=rdE (i:=k) hu.get om om
   have r2:=rdE (i:=a) hu.get om om
   obtain⟨m1,m2,s1,s2,u2⟩:=mt (i:=k) (j:=a) hu.get om om om
   refine ab (ah (M12 e0 e1 ek x1 x2 r1 r2 s1 s2 hc.ec hc.eo @ai) ?_)
   refine ab (ah (M3 e0 e1 ek) ?_)
   exact bt ⟨_,(by simp only[rs,rf185,am,aD,simprocAttr,e0,e1,ek]<;>rfl),rfl,hu.trans u2⟩
theorem xv {enc:Int→AV}{κ:Int→Int}{f:FuncId}{caps:List AV}{h:AH}{b o c a m piv:Nat}{cs:List AV}{d:Array Int} (hc:Cm enc κ f caps b h) (hg:h.get b=some (dA enc cs o d)) (hr:o+d.size≤cs.length) (hp:a≤piv) (hpm:piv<m) (hm:m≤d.size) (hs:d.size<2 ^ 40) :
 C prg 184 [.sl b o d.size c,.int .i64 (a:Nat),.int .i64 (m:Nat),.int .i64 (piv:Nat),.fn f caps] h λv h'=>v=.int .i64 ((partitionEqual (ltK κ) d a m piv).1:Nat)∧Upd h h' b (dA enc cs o (partitionEqual (ltK κ) d a m piv).2):=by
 refine HH pf184 ?_
 refine ab (ah (Mi0) ?_)
 have w0:IntKind.i64.wrap (((m:Nat):Int)-1)=((m-1:Nat):Int):=by rw[bE om om]; omega
 have w1:IntKind.i64.wrap (((a:Nat):Int)+1)=((a+1:Nat):Int):=bE om om
 have hu0:=HG hg
 have x1:bN ((a:Nat):Int) d.size=some a:=aO om
 have x2:bN ((piv:Nat):Int) d.size=some piv:=aO om
 have r1:=rdE (i:=a) hu0.get om om
 have r2:=rdE (i:=piv) hu0.get om om
 obtain⟨m1,m2,s1,s2,u2⟩:=mt (i:=a) (j:=piv) hu0.get om om om
 refine ab (ah (Mi10 x1 x2 r1 r2 s1 s2 hc.ec hc.eo @ai @ai) ?_)
 refine ab (ah (Mi2 w0 w1) ?_)
 have hz':(swp d a piv).size=d.size:=cA ..
 rw[show partitionEqual (ltK κ) d a m piv=partEqLoop (ltK κ) a (a+1) (m-1) (swp d a piv) from rfl]
 generalize swp d a piv=d0 at *
 refine ab (cZ (λts h3=>∃ d3 k,Upd h h3 b (dA enc cs o d3)∧partEqLoop (ltK κ) a (a+1) (m-1) d0=(k,d3)∧aB ts 11=.int .i64 (k:Nat))
  (aU (cf (λn ts h3=>∃ i j d1,n=j+1-i∧a<i∧i≤j+1∧j<m∧Upd h h3 b (dA enc cs o d1)∧d1.size=d.size∧partEqLoop (ltK κ) a i j d1=partEqLoop (ltK κ) a (a+1) (m-1) d0∧(aB ts 0=.sl b o d.size c∧aB ts 4=.fn f caps)∧aB ts 1=.int .i64 (a:Nat)∧aB ts 11=.int .i64 (i:Nat)∧aB ts 12=.int .i64 (j:Nat)) ?_ (n:=m-1+1-(a+1)) ⟨a+1,m-1,d0,rfl,om,om,om,u2,hz',rfl,Zi0,Zi0,Zi0,Zi0⟩)) ?_)
 ·clear hz' u2 s1 s2 r1 r2 x1 x2
  rintro n ts h1 ⟨i,j,d1,rfl,hai,hij,hjm,hu,hz,hD,e0,e1,em,ef⟩
  rw[partEqLoop_eq] at hD
  refine aU ?_
  refine ab (cZ (λts h2=>h1=h2∧(aB ts 0=.sl b o d.size c∧aB ts 4=.fn f caps)∧aB ts 1=.int .i64 (a:Nat)∧aB ts 11=.int .i64 (scanUp (λx=>!(ltK κ) d1[a]! x) d1 j i:Nat)∧aB ts 12=.int .i64 (j:Nat))
   (aU (cf (λn ts h2=>h2=h1∧∃ k,n=j+1-k∧i≤k∧k≤j+1∧scanUp (λx=>!(ltK κ) d1[a]! x) d1 j k=scanUp (λx=>!(ltK κ) d1[a]! x) d1 j i∧(aB ts 0=.sl b o d.size c∧aB ts 4=.fn f caps)∧aB ts 1=.int .i64 (a:Nat)∧aB ts 11=.int .i64 (k:Nat)∧aB ts 12=.int .i64 (j:Nat)) ?_ (n:=j+1-i) ⟨rfl,i,rfl,om,om,rfl,Z4 e0 e1 em ef,Z4 e0 e1 em ef,Z4 e0 e1 em ef,Z4 e0 e1 em ef⟩)) ?_)
  ·clear e0 e1 em ef
   rintro n ts h2 ⟨rfl,k,rfl,hk,hk2,hS,e0,e1,em,ef⟩
   by_cases q:k≤j
   ·have c1:decide (((k:Nat):Int)≤((j:Nat):Int))=true:=by simp only[aj]; omega
    have x1:bN ((k:Nat):Int) d.size=some k:=aO om
    have x2:bN ((a:Nat):Int) d.size=some a:=aO om
    have r1:=rdE (i:=k) hu.get om om
    have r2:=rdE (i:=a) hu.get om om
    refine ab (ab (aX (dT 13 (M10 e0 e1 em ef c1 x1 x2 r1 r2 @ai) rfl (Z10 e0 e1 em ef c1 x1 x2 r1 r2 @ai) (M10 e0 e1 em ef c1 x1 x2 r1 r2 @ai) (M10 e0 e1 em ef c1 x1 x2 r1 r2 @ai) ((hc.u hu).at) λv h3 hq=>?_)))
    obtain⟨rfl,rfl⟩:=hq
    refine aW (M2 hc.lk c1) ?_
    refine bg (t:=!(ltK κ) d1[a]! d1[k]!) (Z0) (λq2=>?_) λq2=>?_
    ·have w1:IntKind.i64.wrap (((k:Nat):Int)+1)=((k+1:Nat):Int):=bE om om
     refine aN (aU (ah (M5 e0 e1 em ef w1) ?_))
     refine⟨j+1-(k+1),om,rfl,k+1,rfl,om,om,?_,Z4 e0 e1 em ef,Z4 e0 e1 em ef,Z5 e0 e1 em ef w1,Z4 e0 e1 em ef⟩
     rw[← hS]
     conv=>rhs; rw[scanUp,if_pos (by simp only[aq,aj]; exact⟨q,q2⟩)]
    ·refine bM ⟨λ_=>⟨rfl,Z4 e0 e1 em ef,Z4 e0 e1 em ef,?_,Z4 e0 e1 em ef⟩,λe=>absurd rfl e⟩
     rw[← hS,scanUp,if_neg (by simp only[aq,aj]; rintro⟨_,x⟩; exact absurd (q2.symm.trans x) (by decide))]
     simp only[am,aD,simprocAttr,e0,e1,em,ef]
   ·have c1:decide (((k:Nat):Int)≤((j:Nat):Int))=false:=by simp only[aR]; omega
    refine ab (ab (aX (fh 13 (M5 e0 e1 em ef c1) rfl (Z1 c1) ?_)))
    refine aW (M1 c1) ?_
    refine cU (Z0) (bM ⟨λ_=>⟨rfl,Z4 e0 e1 em ef,Z4 e0 e1 em ef,?_,Z4 e0 e1 em ef⟩,λe=>absurd rfl e⟩)
    rw[← hS,scanUp,if_neg (by simp only[aq,aj]; rintro⟨x,_⟩; exact q x)]
    simp only[am,aD,simprocAttr,e0,e1,em,ef]
  clear e0 e1 em ef
  rintro ts h2 ⟨rfl,e0,e1,em,ef⟩
  have s1:=scanUp_ge (λx=>!(ltK κ) d1[a]! x) d1 j i
  have s4:=lQ (λx=>!(ltK κ) d1[a]! x) (λx=>(ltK κ) d1[a]! x) (λ_=>by simp) d1 (i:=i) (j:=j) om om
  have s1b:=(scanUp_spec (λx=>!(ltK κ) d1[a]! x) d1 j _ i rfl).2.1
  generalize scanUp (λx=>!(ltK κ) d1[a]! x) d1 j i=i2 at *
  have ef':=ef
  have em':=em
  clear em ef
  have em:=ef'
  have ef:=em'
  clear ef' em'
  refine ab (cZ (λts h2=>h1=h2∧(aB ts 0=.sl b o d.size c∧aB ts 4=.fn f caps)∧aB ts 1=.int .i64 (a:Nat)∧aB ts 12=.int .i64 (scanDown (λx=>(ltK κ) d1[a]! x) d1 i2 j:Nat)∧aB ts 11=.int .i64 (i2:Nat))
   (aU (cf (λn ts h2=>h2=h1∧∃ k,k=n∧k≤j∧i2≤k+1∧scanDown (λx=>(ltK κ) d1[a]! x) d1 i2 k=scanDown (λx=>(ltK κ) d1[a]! x) d1 i2 j∧(aB ts 0=.sl b o d.size c∧aB ts 4=.fn f caps)∧aB ts 1=.int .i64 (a:Nat)∧aB ts 12=.int .i64 (k:Nat)∧aB ts 11=.int .i64 (i2:Nat)) ?_ (n:=j) ⟨rfl,j,rfl,om,om,rfl,Z4 e0 e1 em ef,Z4 e0 e1 em ef,Z4 e0 e1 em ef,Z4 e0 e1 em ef⟩)) ?_)
  ·clear e0 e1 em ef
   rintro n ts h2 ⟨rfl,k,rfl,hk,hk2,hS,e0,e1,em,ef⟩
   by_cases q:i2≤k
   ·have c1:decide (((i2:Nat):Int)≤((k:Nat):Int))=true:=by simp only[aj]; omega
    have x1:bN ((k:Nat):Int) d.size=some k:=aO om
    have x2:bN ((a:Nat):Int) d.size=some a:=aO om
    have r1:=rdE (i:=k) hu.get om om
    have r2:=rdE (i:=a) hu.get om om
    refine ab (ab (aX (dT 13 (M10 e0 e1 em ef c1 x1 x2 r1 r2 @ai) rfl (Z10 e0 e1 em ef c1 x1 x2 r1 r2 @ai) (M10 e0 e1 em ef c1 x1 x2 r1 r2 @ai) (M10 e0 e1 em ef c1 x1 x2 r1 r2 @ai) ((hc.u hu).at) λv h3 hq=>?_)))
    obtain⟨rfl,rfl⟩:=hq
    refine aW (M2 hc.lk c1) ?_
    refine bg (t:=(ltK κ) d1[a]! d1[k]!) (Z0) (λq2=>?_) λq2=>?_
    ·obtain⟨k,rfl⟩:∃ m,k=m+1:=⟨k-1,om⟩
     have w1:IntKind.i64.wrap (((k+1:Nat):Int)-1)=((k:Nat):Int):=by rw[bE om om]; omega
     refine aN (aU (ah (M5 e0 e1 em ef w1) ?_))
     refine⟨k,om,rfl,k,rfl,om,om,?_,Z4 e0 e1 em ef,Z4 e0 e1 em ef,Z5 e0 e1 em ef w1,Z4 e0 e1 em ef⟩
     rw[← hS]
     conv=>rhs; rw[scanDown,if_pos (by simp only[aq,aj]; exact⟨q,q2⟩)]
    ·refine bM ⟨λ_=>⟨rfl,Z4 e0 e1 em ef,Z4 e0 e1 em ef,?_,Z4 e0 e1 em ef⟩,λe=>absurd rfl e⟩
     obtain⟨k,rfl⟩:∃ m,k=m+1:=⟨k-1,om⟩
     rw[← hS,scanDown,if_neg (by simp only[aq,aj]; rintro⟨_,x⟩; exact absurd (q2.symm.trans x) (by decide))]
     simp only[am,aD,simprocAttr,e0,e1,em,ef]
   ·have c1:decide (((i2:Nat):Int)≤((k:Nat):Int))=false:=by simp only[aR]; omega
    refine ab (ab (aX (fh 13 (M5 e0 e1 em ef c1) rfl (Z1 c1) ?_)))
    refine aW (M1 c1) ?_
    refine cU (Z0) (bM ⟨λ_=>⟨rfl,Z4 e0 e1 em ef,Z4 e0 e1 em ef,?_,Z4 e0 e1 em ef⟩,λe=>absurd rfl e⟩)
    have:scanDown (λx=>(ltK κ) d1[a]! x) d1 i2 k=k:=by
     cases k with
     | zero=>rfl
     | succ k=>rw[scanDown,if_neg (by simp only[aq,aj]; rintro⟨x,_⟩; exact q x)]
    rw[← hS,this]
    simp only[am,aD,simprocAttr,e0,e1,em,ef]
  clear e0 e1 em ef
  rintro ts h2 ⟨rfl,e0,e1,em,ef⟩
  have s2:=scanDown_le (λx=>(ltK κ) d1[a]! x) d1 i2 j
  have s3:i2≤scanDown (λx=>(ltK κ) d1[a]! x) d1 i2 j+1:=iU _ _ _ _ om
  generalize scanDown (λx=>(ltK κ) d1[a]! x) d1 i2 j=j2 at *
  refine ab (ab (ah (M4 e0 e1 em ef) ?_))
  refine bg (t:=decide (j2<i2)) (Z1 @bi) (λq=>?_) λq=>?_
  ·have q:j2<i2:=aF q
   rw[if_pos q] at hD
   exact bM ⟨λe=>absurd e (by decide),λ_=>⟨λ_=>⟨d1,i2,hu,hD.symm,Z1 ef⟩,λe=>absurd rfl e⟩⟩
  ·have q:¬ j2<i2:=aE q
   have s5:=s4 q
   rw[if_neg q] at hD
   have x1:bN ((i2:Nat):Int) d.size=some i2:=aO om
   have x2:bN ((j2:Nat):Int) d.size=some j2:=aO om
   have r1:=rdE (i:=i2) hu.get om om
   have r2:=rdE (i:=j2) hu.get om om
   obtain⟨m1,m2,s1,s2,u2⟩:=mt (i:=i2) (j:=j2) hu.get om om om
   have w2:IntKind.i64.wrap (((i2:Nat):Int)+1)=((i2+1:Nat):Int):=bE om om
   have w3:IntKind.i64.wrap (((j2:Nat):Int)-1)=((j2-1:Nat):Int):=by rw[bE om om]; omega
   refine aN (ab (ah (M14 e0 e1 em ef x1 x2 r1 r2 s1 s2 hc.ec hc.eo @ai @ai) ?_))
   refine ab (ah (M5 e0 e1 em ef w2) ?_)
   refine ah (M5 e0 e1 em ef w3) ?_
   exact⟨_,om,i2+1,j2-1,swp d1 i2 j2,rfl,om,om,om,hu.trans u2,by rw[cA,hz],hD,Z1 e0,Z1 e1,Z2 ef w2,Z2 em w3⟩
 ·rintro ts h1 ⟨d1,k,hu,hL,ek⟩
  rw[hL]
  refine ab (ah (M1 ek) ?_)
  exact bt ⟨_,(by simp only[rs,rf184,am,aD,simprocAttr,ek]<;>rfl),rfl,hu⟩
end Go.Proofs.YtahepnbflofndaaGreatDoor
