/- slices.Compact of ints. -/
import Derived.Test.YtahepnbflofndaaGreatDoorKLc
import Derived.Test.YtahepnbflofndaaGreatDoorKAmR
import Derived.Test.YtahepnbflofndaaGreatDoorKLd
import Derived.Test.YtahepnbflofndaaGreatDoorKLf
import Derived.Test.YtahepnbflofndaaGreatDoorKLa
import Derived.Test.YtahepnbflofndaaGreatDoorKRf
set_option linter.all false
namespace Go.Proofs.YtahepnbflofndaaGreatDoor
open Go.Am
def dd (x:Int):List Int→List Int
 | []=>[]
 | y::r=>if y=x then dd x r else y::dd y r
def mW:List Int→List Int
 | []=>[]
 | x::r=>x::dd x r
theorem xL (y:Int):∀ (x:Int) (l:List Int),dd x (l++[y])=dd x l++if (x::l).getLast (by simp)=y then [] else [y]
 | x,[]=>by
   show (if y=x then dd x [] else y::dd y [])=[]++if x=y then [] else [y]
   by_cases q:y=x
   ·subst q; simp [dd]
   ·have q2:¬ x=y:=λe=>q e.symm;simp [q,q2,dd]
 | x,z::l=>by
   simp only[bU,dd];rw[List.getLast_cons (by simp)];split
   ·rename_i e
    subst e;exact xL y z l
   ·rw[xL y z l];rfl
theorem EF {l:List Int}{y:Int} (hl:l≠[]):mW (l++[y])=mW l++if l.getLast hl=y then [] else [y]:=by
 cases l with
 | nil=>exact absurd rfl hl
 | cons x r =>
   simp only[bU,mW];rw[xL]
theorem wo {d:Array Int}{k:Nat} (h0:0<k) (hk:k<d.size):mW (d.toList.take (k+1))=mW (d.toList.take k)++if d[k]! = d[k-1]! then [] else [d[k]!]:=by
 have hk':k<d.toList.length:=by rw[bP]; exact hk
 have hne:d.toList.take k≠[]:=by
  intro e;have:=congrArg List.length e;rw[aS,bP,bt] at this;omega
 rw[aG hk',EF hne];have e1:(d.toList.take k).getLast hne=d[k-1]!:=by
  rw[List.getLast_eq_getElem,List.getElem_take,getElem!_pos d _ om];simp only[aS,bP,cy (uF hk)];rfl
 have e2:d.toList[k]=d[k]!:=by rw[getElem!_pos d _ hk]; rfl
 rw[e1,e2];by_cases q:d[k]! = d[k-1]!
 ·rw[if_pos q.symm,if_pos q]
 ·rw[if_neg (λe=>q e.symm),if_neg q]
theorem Ft {h:AH}{b o n c k:Nat}{cs:List AV}{d:Array Int} (hg:h.get b=some (iX cs o d)) (hk:k<n) (hn:n≤c):slV h 1 (.sl b o n c) (some (.int .i64 (k:Nat))) none none=some (.sl b (o+k) (n-k) (c-k)):=by
 have h2:=hU (k:=.i64) (uF hk);unfold iX at hg;simp only[slV,hg,if_true,rq,h2,aQ,iH,bL,if_false];rw[if_neg om,aO]
theorem LA {h:AH}{b o n c k:Nat}{cs:List AV}{d:Array Int} (hg:h.get b=some (iX cs o d)) (hk:k≤c):slV h 1 (.sl b o n c) none (some (.int .i64 (k:Nat))) none=some (.sl b o k c):=by
 have h2:=hU (k:=.i64) hk;unfold iX at hg;simp only[slV,hg,if_true,rq,h2,aQ,oO,dX,Fb,ite_self]
theorem JB {h:AH}{b o k c:Nat}{cs:List AV}{d:Array Int} (hg:h.get b=some (iX cs o d)) (hr:o+d.size≤cs.length) (hk:k<d.size) :
 ∃ h' d',AF h [.int .i64 0] (.sl b (o+k) (d.size-k) c)=some (.un,h')∧Upd h h' b (iX cs o d')∧d'.size=d.size∧d'.toList.take k=d.toList.take k:=by
 have hr':o+(hI d).length≤cs.length:=by rw[gh]; exact hr
 have e0:cm [AV.int .i64 0] (d.size-k)=List.replicate (d.size-k) (.int .i64 0):=fq _;have ez:(cm [AV.int .i64 0] (d.size-k)).all AV.one=true:=by
  rw[e0,bD];intro x hx;rw[List.eq_of_mem_replicate hx];rfl
 refine⟨_,(d.toList.take k++List.replicate (d.size-k) 0).toArray,?_,Mv hg,?_,?_⟩
 ·unfold AF;simp only;rw[if_neg om,if_pos ez,dp hg,if_pos (by rw[gT hr',e0,cF]; omega)];simp only[aQ,aa,ar,true_and];congr 2;refine cW λi=>?_;have l1:(hI d).length=d.size:=gh d;have l2:o+k+(cm [AV.int .i64 0] (d.size-k)).length≤(dB cs o (hI d)).length:=by rw[gT hr',e0,cF]; omega
  have l4:(hI (d.toList.take k++List.replicate (d.size-k) 0).toArray).length=d.size:=by
   rw[gh];simp only[cP,aN,aS,bP,cF];omega
  rw[fi l2,fi hr',fi (by rw[l4]; omega),l1,l4,e0,cF];unfold hI;simp only[cj,List.map_replicate,List.getElem?_append,ai,aS,bP,cA];rw[cy (uF hk)];by_cases q1:o≤i∧i<o+d.size
  ·rw[if_pos q1,if_pos q1];by_cases q2:i-o<k
   ·rw[if_pos q2,if_neg om,fS,cQ,if_pos q2]
   ·rw[if_neg q2,if_pos om,if_pos om,if_pos om]
  ·rw[if_neg q1,if_neg q1,if_neg om]
 ·simp only[cP,aN,aS,bP,cF];omega
 ·simp only[Al];rw[List.take_append_of_le_length (by rw[aS,bP]; omega),List.take_take,Nat.min_self]
theorem Bw {h:AH}{b o c:Nat}{cs:List AV}{d:Array Int} (hg:h.get b=some (iX cs o d)) (hr:o+d.size≤cs.length) (hc:d.size≤c) (hs:d.size<2 ^ 38) :
 C prg 100 [.sl b o d.size c] h λr h'=>∃ (d':Array Int) (m:Nat),r=.sl b o m c∧m≤d.size∧d'.size=d.size∧Upd h h' b (iX cs o d')∧d'.toList.take m=mW d.toList:=by
 refine Mw pf100 ?_;refine ae (aj (Mi0) ?_);refine ae (ae (aj (Mi0) ?_));refine cr (t:=decide (d.size<2)) (by simp only[am,aK,simprocAttr]; exact congrArg AV.bool (by simp only[decide_eq_decide]; omega)) (λq=>?_) λq=>?_
 ·have q:d.size<2:=aR q;refine ae (aj (Mi0) ?_);refine br ⟨_,(by simp only[rs,rf100,am,aK,simprocAttr]<;>rfl),d,d.size,rfl,ab _,rfl,Upd.refl hg,?_⟩;rw[← bP,bp];rw[← bP] at q
  match d.toList,q with
  | [],_=>rfl
  | [x],_=>rfl
  | x::y::r,q=>simp only[bf] at q; omega
 have q:¬ d.size<2:=aZ q;refine bu (ae (ae (aj (M0) ?_)))
 refine cY (fX (λn ts h1=>∃ k:Nat,n=d.size-k∧1≤k∧k≤d.size∧h1=h∧mW (d.toList.take k)=d.toList.take k∧cU ts 0=.sl b o d.size c∧cU ts 3=.int .i64 (k:Nat)) ?_ (n:=d.size-1)
  ⟨1,rfl,ab _,om,rfl,?_,Zi0,Z1 @Lg⟩)
 ·rintro n ts h1 ⟨k,rfl,k1,k2,rfl,hk,e0,e3⟩;refine ae (ae (aj (M2 e0 e3) ?_));refine cr (t:=decide (k<d.size)) (Z1 @bz) (λp=>?_) λp=>?_
  ·have p:k<d.size:=aR p;have w1:IntKind.i64.wrap (((k:Nat):Int)-1)=((k-1:Nat):Int):=by rw[fD om om]; omega
   have i1:eR ((k:Nat):Int) d.size=some k:=cJ p;have i2:eR ((k-1:Nat):Int) d.size=some (k-1):=cJ om;have r1:=qD (i:=k) hg hr p;have r2:=qD (i:=k-1) hg hr om;refine bu (ae (cY (ae (aj (M8 e0 e3 w1 i1 i2 r1 r2 @aO) ?_))));have hkt:=wo (d:=d) k1 p;refine cr (t:=decide (d[k]! = d[k-1]!)) (Z0) (λz=>?_) λz=>?_
   ·have z:d[k]! = d[k-1]!:=aR z;rw[if_pos z,bO,hk] at hkt;have s1:=Ft hg p hc;refine ae (aj (by simp only[am,aK,simprocAttr,e0,e3,dH,bT,s1]<;>rfl) ?_);refine ae (ae (aj (M0) ?_))
    refine cY (fX (λn ts h2=>∃ (m x:Nat) (d2:Array Int),n=d.size-k-x∧1≤x∧x≤d.size-k∧k≤m∧m<k+x∧Upd h1 h2 b (iX cs o d2)∧d2.size=d.size∧d2.toList.take m=mW (d.toList.take (k+x))∧(∀ y,k+x≤y+1→y<d.size→d2[y]! = d[y]!) ∧
     cU ts 0=.sl b o d.size c∧cU ts 3=.int .i64 (m:Nat)∧cU ts 4=.sl b (o+k) (d.size-k) (c-k)∧cU ts 5=.int .i64 (x:Nat)) ?_ (n:=d.size-k-1)
     ⟨k,1,d,rfl,ab _,om,ab _,om,Upd.refl hg,rfl,hkt.symm,λ_ _ _=>rfl,Z1 e0,Z1 e3,Z0,Z1 @Lg⟩)
    clear e0 e3;rintro n ts h2 ⟨m,x,d2,rfl,x1,x2,m1,m2,hu,hz,hd,hsame,e0,e3,e4,e5⟩;refine ae (ae (aj (M2 e4 e5) ?_));refine cr (t:=decide (x<d.size-k)) (Z1 @bz) (λy=>?_) λy=>?_
    ·have y:x<d.size-k:=aR y;have w2:IntKind.i64.wrap (((x:Nat):Int)-1)=((x-1:Nat):Int):=by rw[fD om om]; omega
     have w3:IntKind.i64.wrap (((x:Nat):Int)+1)=((x+1:Nat):Int):=fD om om;have i3:eR ((x:Nat):Int) (d.size-k)=some x:=cJ y;have i4:eR ((x-1:Nat):Int) (d.size-k)=some (x-1):=cJ om;have r3:ak h2 b (o+k+x) 1=some [.int .i64 d2[k+x]!]:=by rw[fj]; exact qD (i:=k+x) hu.get om om
     have r4:ak h2 b (o+k+(x-1)) 1=some [.int .i64 d2[k+(x-1)]!]:=by rw[fj]; exact qD (i:=k+(x-1)) hu.get om om
     rw[hsame _ om om] at r3 r4;have hct:=wo (d:=d) (k:=k+x) om om;rw[show k+x-1=k+(x-1) by omega] at hct;refine bu (ae (cY (ae (aj (M8 e4 e5 w2 i3 i4 r3 r4 @aO) ?_))));refine cr (t:=!decide (d[k+x]! = d[k+(x-1)]!)) (Z0) (λu=>?_) λu=>?_
     ·have u:¬ d[k+x]! = d[k+(x-1)]!:=by simpa using u
      rw[if_neg u] at hct;have i5:eR ((m:Nat):Int) d.size=some m:=cJ om;obtain⟨h3,wr,u3⟩:=Ar (i:=m) (x:=d[k+x]!) hu.get om om;have w4:IntKind.i64.wrap (((m:Nat):Int)+1)=((m+1:Nat):Int):=fD om om;refine ae (aj (M10 e0 e3 e4 e5 i3 i5 r3 wr @aO @aO) ?_);refine aj (M2 e3 w4) ?_;refine aj (M2 e5 w3) ?_;refine⟨d.size-k-(x+1),om,m+1,x+1,d2.setIfInBounds m d[k+x]!,rfl,om,om,om,om,hu.trans u3,by simpa using hz,?_,λy hy1 hy2=>?_,Z1 e0,Z2 e3 w4,Z1 e4,Z2 e5 w3⟩
      ·rw[← fj,hct,← hd,Array.toList_setIfInBounds];rw[List.take_set,aG (by rw[bP]; omega)];rw[uW _ _ (by rw[aS,bP]; omega)];have em:m-(d2.toList.take m).length=0:=by rw[aS,bP]; omega
       rw[em];rfl
      ·rw[← hsame y om hy2];rw[getElem!_pos _ _ (by simpa using (by omega:y<d2.size)),getElem!_pos d2 _ om,Array.getElem_setIfInBounds,if_neg om]
     ·have u:d[k+x]! = d[k+(x-1)]!:=by simpa using u
      rw[if_pos u,bO] at hct;refine bu ?_;refine aj (M2 e5 w3) ?_;exact⟨d.size-k-(x+1),om,m,x+1,d2,rfl,om,om,m1,om,hu,hz,by rw[← fj,hct,hd],λy hy1 hy2=>hsame y om hy2,Z1 e0,Z1 e3,Z1 e4,Z2 e5 w3⟩
    ·have y:¬ x<d.size-k:=aZ y;have ex:k+x=d.size:=om;rw[ex,← bP,bp] at hd;refine fB ⟨λ_=>?_,λe=>absurd rfl e⟩;have s2:=Ft (n:=d.size) (k:=m) hu.get om hc;obtain⟨h3,d3,c3,u3,z3,t3⟩:=JB (k:=m) (c:=c-m) hu.get om om;rw[hz] at c3;have s3:=LA (n:=d.size) (k:=m) (c:=c) u3.get om;refine ae (aj (by simp only[am,aK,simprocAttr,e0,e3,dH,bT,s2,c3]<;>rfl) ?_);refine ae (aj (by simp only[am,aK,simprocAttr,e0,e3,dH,bT,s3]<;>rfl) ?_);exact br ⟨_,(by simp only[rs,rf100,am,aK,simprocAttr]<;>rfl),d3,m,rfl,om,om,hu.trans u3,by rw[t3,hd]⟩
   ·have z:¬ d[k]! = d[k-1]!:=aZ z;rw[if_neg z,hk] at hkt;have w3:IntKind.i64.wrap (((k:Nat):Int)+1)=((k+1:Nat):Int):=fD om om;refine bu ?_;refine aj (M2 e3 w3) ?_;refine⟨d.size-(k+1),om,k+1,rfl,om,om,rfl,?_,Z1 e0,Z2 e3 w3⟩;rw[hkt,aG (by rw[bP]; exact p),getElem!_pos d _ p];rfl
  ·have p:¬ k<d.size:=aZ p;refine fB ⟨λ_=>?_,λe=>absurd rfl e⟩;refine ae (aj (M1 e0) ?_);have ek:k=d.size:=om;refine br ⟨_,(by simp only[rs,rf100,am,aK,simprocAttr]<;>rfl),d,d.size,rfl,ab _,rfl,Upd.refl hg,?_⟩;rw[ek,← bP,bp] at hk;rw[← bP,bp,hk]
 ·match hl:d.toList,(by rw[bP]; omega:2≤d.toList.length) with
  | x::r,_=>rfl
open Go.Am
def edM (E:List (Int×Int)) (i:Int):Int×Int:=E.getD i.toNat (0,0)
def gI (E:List (Int×Int)) (es:List Int):List Int:=es.flatMap λi=>[(edM E i).1,(edM E i).2]
def vsM (n:Nat) (E:List (Int×Int)) (es:List Int):List Int:=(ju n).filter λv=>decide (v∈gI E es)
def cV (n:Nat) (E:List (Int×Int)) (es:List Int) (v:Int):Nat:=(vsM n E es).countP λu=>decide (u<v)
def fO (n:Nat) (E:List (Int×Int)) (es:List Int):List (Int×Int):=es.map λi=>(((cV n E es (edM E i).1:Nat):Int),((cV n E es (edM E i).2:Nat):Int))
theorem Kv {n:Int}{E:List (Int×Int)}{es:List Int} (hm:fy n E=true) (hs:∀ i∈es,0≤i∧i<(E.length:Nat)):∀ v∈gI E es,0≤v∧v<n:=by
 intro v hv;unfold gI at hv;rw[er] at hv;obtain⟨i,hi,hv⟩:=hv;obtain⟨h1,h2⟩:=hs i hi;unfold fy at hm;simp only[aM,bD] at hm;have hk:i.toNat<E.length:=om;have he:edM E i=E[i.toNat]:=by unfold edM; rw[aL,aq hk]; rfl
 have:=hm.2 _ (aP hk);rw[← he] at this;simp only[okE,wV,aM,dR,Bool.or_eq_false_iff,bZ,aJ] at this;simp only[aA,bq,or_false] at hv;rcases hv with rfl|rfl<;>omega
theorem Br (z:Int):∀ (x:Int) (l:List Int),(z=x∨z∈dd x l)↔(z=x∨z∈l)
 | x,[]=>by simp [dd]
 | x,y::r=>by
   unfold dd;split
   ·rename_i e
    subst e;rw[Br z y r,aA];constructor
    ·rintro (h|h)
     ·exact .inl h
     ·exact .inr (.inr h)
    ·rintro (h|h|h)
     ·exact .inl h
     ·exact .inl h
     ·exact .inr h
   ·rw[aA,aA,Br z y r]
theorem HQ {z:Int}{l:List Int}:z∈mW l↔z∈l:=by
 cases l with
 | nil=>rfl
 | cons x r=>simp only[mW,aA]; exact Br z x r
theorem HE:∀ (x:Int) (l:List Int),(x::l).Pairwise (·≤·)→(x::dd x l).Pairwise (·<·)
 | x,[],_=>by simp [dd]
 | x,y::r,h=>by
   unfold dd;split
   ·rename_i e
    subst e;exact HE y r (List.Pairwise.of_cons h)
   ·rename_i e
    have h1:=HE y r (List.Pairwise.of_cons h);have h2:x≤y:=(cX.1 h).1 y (bd ..);have h3:x<y:=om;refine cX.2 ⟨λz hz=>?_,h1⟩;rcases aA.1 hz with rfl|hz
    ·exact h3
    ·have:=(cX.1 h1).1 z hz;omega
theorem Kz {l:List Int} (h:l.Pairwise (·≤·)):(mW l).Pairwise (·<·):=by
 cases l with
 | nil=>exact List.Pairwise.nil
 | cons x r=>exact HE x r h
theorem tb:∀ {l m:List Int},l.Pairwise (·<·)→m.Pairwise (·<·)→(∀ x,x∈l↔x∈m)→l=m
 | [],[],_,_,_=>rfl
 | [],y::m,_,_,h=>by have:=(h y).2 (bd ..); cases this
 | x::l,[],_,_,h=>by have:=(h x).1 (bd ..); cases this
 | x::l,y::m,h1,h2,h=>by
   obtain⟨a1,a2⟩:=cX.1 h1;obtain⟨b1,b2⟩:=cX.1 h2;have e:x=y:=by
    have hx:=(h x).1 (bd ..);have hy:=(h y).2 (bd ..);rcases aA.1 hx with q|q
    ·exact q
    ·rcases aA.1 hy with p|p
     ·exact p.symm
     ·have:=a1 y p; have:=b1 x q; omega
   subst e;rw[tb a2 b2 λz=>?_];have hz:=h z;rw[aA,aA] at hz;constructor
   ·intro q;rcases hz.1 (.inr q) with p|p
    ·have:=a1 z q; omega
    ·exact p
   ·intro q;rcases hz.2 (.inr q) with p|p
    ·have:=b1 z q; omega
    ·exact p
theorem xp (xs:List Int):(fz xs).Pairwise (·≤·):=by
 have:=ip (le:=λx y=>decide (x≤y)) (λa b c h1 h2=>by simp only[aJ] at *; omega) (λa b=>by simp only[cZ,aJ]; omega) xs;exact this.imp λh=>aR h
theorem Ek {z:Int}{xs:List Int}:z∈fz xs↔z∈xs:=(jJ xs _).mem_iff
theorem pJ (n:Nat) (E:List (Int×Int)) (es:List Int):(vsM n E es).Pairwise (·<·):=by
 unfold vsM;refine List.Pairwise.filter _ ?_;unfold ju;rw[eP];exact List.pairwise_lt_range.imp λh=>by omega
theorem Gv {n:Int}{E:List (Int×Int)}{es:List Int} (hm:fy n E=true) (hs:∀ i∈es,0≤i∧i<(E.length:Nat)):mW (fz (gI E es))=vsM n.toNat E es:=by
 refine tb (Kz (xp _)) (pJ _ _ _) λx=>?_;rw[HQ,Ek];unfold vsM;rw[bj,gf];constructor
 ·intro hx;have:=Kv hm hs x hx;exact⟨⟨this.1,om⟩,aH hx⟩
 ·exact λhx=>aR hx.2
theorem CZ (n:Nat):ju (n+1)=ju n++[((n:Nat):Int)]:=by
 unfold ju;rw[du,cj];rfl
theorem Ca (n:Nat) (E:List (Int×Int)) (es:List Int):vsM (n+1) E es=vsM n E es++if ((n:Nat):Int)∈gI E es then [((n:Nat):Int)] else []:=by
 unfold vsM;rw[CZ,bI];congr 1;by_cases q:((n:Nat):Int)∈gI E es
 ·simp [q]
 ·simp [q]
open Go.Am
theorem Ew {E:List (Int×Int)}{es:List Int}{k:Nat} (hk:k<es.length):gI E (es.take (k+1))=gI E (es.take k)++[(edM E es[k]).1,(edM E es[k]).2]:=by
 unfold gI;rw[aG hk,bC];rfl
theorem uf (E:List (Int×Int)):∀ es:List Int,(gI E es).length=2*es.length
 | []=>rfl
 | i::r=>by
   have:=uf E r;unfold gI at *
   rw[fo,aN,this];simp only[bf,bt];omega
theorem yx {n:Nat}{E:List (Int×Int)}{es F:List Int}{k:Nat} (hk:k<es.length):((es.take (k+1)).map λi=>(((cV n E F (edM E i).1:Nat):Int),((cV n E F (edM E i).2:Nat):Int)))=((es.take k).map λi=>(((cV n E F (edM E i).1:Nat):Int),((cV n E F (edM E i).2:Nat):Int)))++[(((cV n E F (edM E es[k]).1:Nat):Int),((cV n E F (edM E es[k]).2:Nat):Int))]:=by
 rw[aG hk,cj];rfl
theorem HA {E:List (Int×Int)}{i:Int}{m:Nat} (hm:i=(m:Nat)) (h:m<E.length):edM E i=E[m]:=by
 subst hm;unfold edM;rw[aY,aL,aq h];rfl
theorem KR {h:AH}{b c m:Nat}{cs:List AV}{d:Array Int} (hg:h.get b=some (iX cs 0 d)) (hr:0+d.size≤cs.length) (hm:m≤d.size) (hc:m≤c):SlI h (.sl b 0 m c) (d.toList.take m):=by
 have hr':0+(hI d).length≤cs.length:=by rw[gh]; exact hr
 have hl:=gT hr';have hlt:(d.toList.take m).length=m:=by rw[aS,bP]; omega
 refine .inr ⟨b,0,c,_,false,by rw[ai,hlt],hg,by rw[ai,hlt]; exact hc,by rw[ai,hl,hlt]; omega,λi x hi=>?_⟩;rw[aX] at hi;obtain⟨y,hy,rfl⟩:=aF.1 hi;have him:i<m:=by have:=(aI.1 hy).1; omega
 rw[cQ,if_pos him] at hy;have hk:(dB cs 0 (hI d))[0+i]?=some (.int .i64 y):=by
  rw[fi hr',if_pos ⟨om,by rw[gh]; omega⟩,show 0+i-0=i by omega];unfold hI;rw[aX,hy];rfl
 obtain⟨hlt2,hk2⟩:=aI.1 hk;refine⟨om,?_⟩;rw[aO,bX hlt2,hk2];rfl
open Go.Am
theorem IX {h:AH}{x:Int}:C prg 159 [.int .i64 x] h λv h'=>v=.bool false∧h'=h:=by
 refine Mw pf159 ?_;refine ae (aj (Mi0) ?_);have e:(!decide (x=x))=false:=by simp
 refine ae (aj (Mi1 e) ?_);exact br ⟨.bool false,(by simp only[rs,rf159,am,aK,simprocAttr,bS,decide_true]<;>rfl),rfl,rfl⟩
theorem xP {xs:List Int}{t:Int}{i:Nat} (hi:i≤xs.length) (h1:∀ k (hk:k<xs.length),k<i→xs[k]<t) (h2:∀ k (hk:k<xs.length),i≤k→¬ xs[k]<t):(xs.countP λu=>decide (u<t))=i:=by
 have e:=BW (p:=λu=>decide (u<t)) (l₁:=xs.take i) (l₂:=xs.drop i);rw[cD] at e;rw[e];have a:(xs.take i).countP (λu=>decide (u<t))=(xs.take i).length:=by
  rw[List.countP_eq_length];intro u hu;obtain⟨k,hk,rfl⟩:=nj.1 hu;rw[aS] at hk;rw[List.getElem_take];exact aH (h1 k om om)
 have b:(xs.drop i).countP (λu=>decide (u<t))=0:=by
  rw[jM];intro u hu;obtain⟨k,hk,rfl⟩:=nj.1 hu;rw[cz] at hk;rw[List.getElem_drop];simpa using h2 (i+k) om om
 rw[a,b,aS];omega
theorem pB {h:AH}{v:AV}{xs:List Int}{t:Int} (hv:SlI h v xs) (hs:xs.Pairwise (·≤·)) (hl:xs.length<2 ^ 40) :
 C prg 121 [v,.int .i64 t] h λr h'=>r=.tup [.int .i64 ((xs.countP (λu=>decide (u<t)):Nat):Int),.bool (decide (t∈xs))]∧h'=h:=by
 have el:=hv.len;rw[ai] at el;have hle:∀ i j (hi:i<xs.length) (hj:j<xs.length),i≤j→xs[i]≤xs[j]:=λi j hi hj hij=>by
  rcases eJ i j with q|q
  ·exact gC.1 hs i j hi hj q
  ·have:i=j:=om;subst this;exact Int.le_refl _
 refine Mw pf121 ?_;refine ae (aj (Mi0) ?_);refine ae (aj (Mi1 el) ?_);refine ae (aj (Mi0) ?_)
 refine ae (cY (fX (λn ts h1=>∃ i j:Nat,n=j-i∧i≤j∧j≤xs.length∧h1=h∧(∀ k (hk:k<xs.length),k<i→xs[k]<t)∧(∀ k (hk:k<xs.length),j≤k→¬ xs[k]<t) ∧
  cU ts 0=v∧cU ts 1=.int .i64 t∧cU ts 6=.int .i64 (xs.length:Nat)∧cU ts 7=.int .i64 (i:Nat)∧cU ts 8=.int .i64 (j:Nat)) ?_ (n:=xs.length)
  ⟨0,xs.length,rfl,dM _,ab _,rfl,λk hk q=>absurd q (uJ _),λk hk q=>by omega,Zi0,Zi0,Zi0,Zi1 @bh,Zi0⟩))
 rintro n ts h1 ⟨i,j,rfl,hij,hj,rfl,q1,q2,e0,e1,e6,e7,e8⟩;refine ae (ae (aj (M2 e7 e8) ?_));refine cr (t:=decide (i<j)) (Z1 @bz) (λq=>?_) λq=>?_
 ·have q:i<j:=aR q;have w1:IntKind.i64.wrap (((i:Nat):Int)+((j:Nat):Int))=((i+j:Nat):Int):=by rw[fD om om]; omega
  have w2:IntKind.u64.wrap ((i+j:Nat):Int)=((i+j:Nat):Int):=Ly om;have w3:eU .shr .no (.int .u64 ((i+j:Nat):Int)) (.int .u64 1)=some (.int .u64 (((i+j) / 2:Nat):Int)):=Jz (k:=1) om;have w4:IntKind.i64.wrap (((i+j) / 2:Nat):Int)=(((i+j) / 2:Nat):Int):=fD om om;refine bu (cY (ae (aj (M6 e7 e8 w1 w2 w3 w4) ?_)));have hm:(i+j) / 2<xs.length:=om;have hm1:i≤(i+j) / 2:=om;have hm2:(i+j) / 2<j:=om;generalize (i+j) / 2=m at *
  obtain⟨b1,p1,a1,r1,_⟩:=hv.at1 (cq (f:=eI) hm);refine ae (bN (bo 5 (M4 e0 e1 a1 r1) rfl (Z4 e0 e1 a1 r1) (M4 e0 e1 a1 r1) (JX) λv h' hq=>?_));obtain⟨rfl,rfl⟩:=hq;refine bH (by simp only[am,aK,simprocAttr]; rfl) ?_;refine cr (t:=Go.Sort.ltInt xs[m] t) (Z0) (λp=>?_) λp=>?_
  ·have p:xs[m]<t:=aR p;have w5:IntKind.i64.wrap (((m:Nat):Int)+1)=((m+1:Nat):Int):=fD om om;refine aj (M1 w5) ?_;refine⟨j-(m+1),om,m+1,j,rfl,om,hj,rfl,λk hk hk2=>?_,q2,Z1 e0,Z1 e1,Z1 e6,Z1 w5,Z1 e8⟩;have:=hle k m hk hm om;omega
  ·have p:¬ xs[m]<t:=aZ p;refine aj (M0) ?_;refine⟨m-i,om,i,m,rfl,om,om,rfl,q1,λk hk hk2=>?_,Z1 e0,Z1 e1,Z1 e6,Z1 e7,Z0⟩;have:=hle m k hm hk om;omega
 ·have q:¬ i<j:=aZ q;have:j=i:=om;subst this;have ec:=xP hj q1 q2;refine fB ⟨λ_=>?_,λe=>absurd rfl e⟩;by_cases c1:j<xs.length
  ·have d1:decide (((j:Nat):Int)<((xs.length:Nat):Int))=true:=aH om;obtain⟨b1,p1,a1,r1,_⟩:=hv.at1 (cq (f:=eI) c1);by_cases c2:xs[j]=t
   ·have d2:decide (xs[j]=t)=true:=aH c2;refine ae (bN (eW 16 (M8 e0 e1 e6 e7 d1 a1 r1 d2) rfl (Z2 d1 d2) (eW 2 (M2 d1 d2) rfl (Z2 d1 d2) ?_)));refine bH (M2 d1 d2) ?_;refine br ⟨_,(by simp only[rs,rf121,am,aK,simprocAttr]<;>rfl),?_,rfl⟩;rw[ec,aH (c2▸aP c1)]
   ·have d2:decide (xs[j]=t)=false:=aw c2;refine ae (bN (bo 16 (M8 e0 e1 e6 e7 d1 a1 r1 d2) rfl (Z8 e0 e1 e6 e7 d1 a1 r1 d2) (M8 e0 e1 e6 e7 d1 a1 r1 d2) (IX) λv h' hq=>?_));obtain⟨rfl,rfl⟩:=hq;refine eW 2 (M2 d1 d2) rfl (Z2 d1 d2) ?_;refine bH (M2 d1 d2) ?_;refine br ⟨_,(by simp only[rs,rf121,am,aK,simprocAttr]<;>rfl),?_,rfl⟩;rw[ec,aw];intro hm;obtain⟨k,hk,ek⟩:=nj.1 hm;have f1:=q2 j c1 (ab _);by_cases hkj:k<j
    ·have:=q1 k hk hkj; omega
    ·have:=hle j k c1 hk om; omega
  ·have d1:decide (((j:Nat):Int)<((xs.length:Nat):Int))=false:=aw om;refine ae (bN (eW 16 (M5 e0 e1 e6 e7 d1) rfl (Z1 d1) (eW 2 (M1 d1) rfl (Z1 d1) ?_)));refine bH (M1 d1) ?_;refine br ⟨_,(by simp only[rs,rf121,am,aK,simprocAttr]<;>rfl),?_,rfl⟩;rw[ec,aw];intro hm;obtain⟨k,hk,ek⟩:=nj.1 hm;have:=q1 k hk om;omega
open Go.Am
theorem appN {h:AH}{esz lo bytes m:Nat}{v:AV}{cs new:List AV}{x:Nat} (hv:IsSl h esz lo v cs) (hlo:lo≤h.next) (he:0<esz) (hm:0<m) (hx:h.get x=some (.cells new esz false)) (hn:new.length=m*esz) (ho:new.all AV.one=true)
 (hb:(cs.length / esz+m)*bytes<aW) (hc:cs.length / esz+m<aW):∃ v' h',gp h esz bytes v (.sl x 0 m m)=some (v',h')∧IsSl h' esz lo v' (cs++new)∧Ext lo h h'∧v'=.sl h.next 0 (cs.length / esz+m) (cs.length / esz+m)∧h'.next=h.next+1:=by
 have hr:ak h x 0 (m*esz)=some new:=by
  rw[aU hx,if_pos om,de,← hn,bp]
 have hm0:¬ m=0:=om;rcases hv with ⟨rfl,rfl⟩|⟨b,n,h1,rfl,h3,h4⟩
 ·refine⟨.sl h.next 0 m m,h.new (.cells new esz false),?_,.inr ⟨h.next,m,hlo,rfl,by rw[AH.get_new]; simp,by simpa using hn⟩,Mt hlo,by simp,by simp⟩;simp only[gp,ff,hr,aQ,ho,if_true,hm0,if_false];simp only[bt,Fa,bM] at hb hc;rw[if_pos ⟨hb,hc⟩]
 ·have hnn:cs.length / esz=n:=by rw[h4,cN _ he]
  rw[hnn] at hb hc;have hr2:ak h b 0 (n*esz)=some cs:=by
   rw[aU h3,if_pos om,de,← h4,bp]
  refine⟨.sl h.next 0 (n+m) (n+m),(h.put b .dead).new (.cells (cs++new) esz false),?_,.inr ⟨h.next,n+m,hlo,rfl,by rw[AH.get_new,AH.next_put]; simp,by rw[aN,hn,h4,dN]⟩,?_,by rw[hnn],by simp⟩
  ·simp only[gp,ff,hr,aQ,ho,if_true,hm0,if_false];rw[if_neg om,if_pos ⟨hb,hc⟩,h3,hr2];simp only[if_true]
  ·exact (Ext.put h1).trans (Mt (by simpa using hlo))
end Go.Proofs.YtahepnbflofndaaGreatDoor
