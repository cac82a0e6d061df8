/- slices.Compact of ints. -/
import Derived.Test.YtahepnbflofndaaGreatDoorJLc
import Derived.Test.YtahepnbflofndaaGreatDoorJAmR
import Derived.Test.YtahepnbflofndaaGreatDoorJLd
import Derived.Test.YtahepnbflofndaaGreatDoorJLf
import Derived.Test.YtahepnbflofndaaGreatDoorJLa
import Derived.Test.YtahepnbflofndaaGreatDoorJRf
set_option linter.all false
namespace Go.Proofs.YtahepnbflofndaaGreatDoor
open Go.Am
def dd (x:Int):List Int→List Int
 | []=>[]
 | y::r=>if y=x then dd x r else y::dd y r
def kX:List Int→List Int
 | []=>[]
 | x::r=>x::dd x r
theorem tH (y:Int):∀ (x:Int) (l:List Int),dd x (l++[y])=dd x l++if (x::l).getLast (by simp)=y then [] else [y]
 | x,[]=>by
   show (if y=x then dd x [] else y::dd y [])=[]++if x=y then [] else [y]
   by_cases q:y=x
   ·subst q; simp [dd]
   ·have q2:¬ x=y:=λe=>q e.symm
    simp [q,q2,dd]
 | x,z::l=>by
   simp only[ct,dd]
   rw[List.getLast_cons (by simp)]
   split
   ·rename_i e
    subst e
    exact tH y z l
   ·rw[tH y z l]
    rfl
theorem Ax {l:List Int}{y:Int} (hl:l≠[]):kX (l++[y])=kX l++if l.getLast hl=y then [] else [y]:=by
 cases l with
 | nil=>exact absurd rfl hl
 | cons x r =>
   simp only[ct,kX]
   rw[tH]
theorem sG {d:Array Int}{k:Nat} (h0:0<k) (hk:k<d.size):kX (d.toList.take (k+1))=kX (d.toList.take k)++if d[k]! = d[k-1]! then [] else [d[k]!]:=by
 have hk':k<d.toList.length:=by rw[bD]; exact hk
 have hne:d.toList.take k≠[]:=by
  intro e
  have:=congrArg List.length e
  rw[aZ,bD,bh] at this
  omega
 rw[aK hk',Ax hne]
 have e1:(d.toList.take k).getLast hne=d[k-1]!:=by
  rw[List.getLast_eq_getElem,List.getElem_take,getElem!_pos d _ om]
  simp only[aZ,bD,cw (qJ hk)]
  rfl
 have e2:d.toList[k]=d[k]!:=by rw[getElem!_pos d _ hk]; rfl
 rw[e1,e2]
 by_cases q:d[k]! = d[k-1]!
 ·rw[if_pos q.symm,if_pos q]
 ·rw[if_neg (λe=>q e.symm),if_neg q]
theorem Bj {h:AH}{b o n c k:Nat}{cs:List AV}{d:Array Int} (hg:h.get b=some (cT cs o d)) (hk:k<n) (hn:n≤c):slV h 1 (.sl b o n c) (some (.int .i64 (k:Nat))) none none=some (.sl b (o+k) (n-k) (c-k)):=by
 have h2:=fP (k:=.i64) (qJ hk)
 unfold cT at hg
 simp only[slV,hg,if_true,oW,h2,aH,fS,bF,if_false]
 rw[if_neg om,ai]
theorem GJ {h:AH}{b o n c k:Nat}{cs:List AV}{d:Array Int} (hg:h.get b=some (cT cs o d)) (hk:k≤c):slV h 1 (.sl b o n c) none (some (.int .i64 (k:Nat))) none=some (.sl b o k c):=by
 have h2:=fP (k:=.i64) hk
 unfold cT at hg
 simp only[slV,hg,if_true,oW,h2,aH,md,dC,AS,ite_self]
theorem EX {h:AH}{b o k c:Nat}{cs:List AV}{d:Array Int} (hg:h.get b=some (cT cs o d)) (hr:o+d.size≤cs.length) (hk:k<d.size) :
 ∃ h' d',wG h [.int .i64 0] (.sl b (o+k) (d.size-k) c)=some (.un,h')∧Upd h h' b (cT cs o d')∧d'.size=d.size∧d'.toList.take k=d.toList.take k:=by
 have hr':o+(gc d).length≤cs.length:=by rw[fw]; exact hr
 have e0:cm [AV.int .i64 0] (d.size-k)=List.replicate (d.size-k) (.int .i64 0):=gf _
 have ez:(cm [AV.int .i64 0] (d.size-k)).all AV.one=true:=by
  rw[e0,bA]
  intro x hx
  rw[List.eq_of_mem_replicate hx]
  rfl
 refine⟨_,(d.toList.take k++List.replicate (d.size-k) 0).toArray,?_,HF hg,?_,?_⟩
 ·unfold wG
  simp only
  rw[if_neg om,if_pos ez,dI hg,if_pos (by rw[fQ hr',e0,cD]; omega)]
  simp only[aH,aa,ak,true_and]
  congr 2
  refine dD λi=>?_
  have l1:(gc d).length=d.size:=fw d
  have l2:o+k+(cm [AV.int .i64 0] (d.size-k)).length≤(cW cs o (gc d)).length:=by rw[fQ hr',e0,cD]; omega
  have l4:(gc (d.toList.take k++List.replicate (d.size-k) 0).toArray).length=d.size:=by
   rw[fw]
   simp only[cx,aM,aZ,bD,cD]
   omega
  rw[eY l2,eY hr',eY (by rw[l4]; omega),l1,l4,e0,cD]
  unfold gc
  simp only[cV,List.map_replicate,List.getElem?_append,au,aZ,bD,cP]
  rw[cw (qJ hk)]
  by_cases q1:o≤i∧i<o+d.size
  ·rw[if_pos q1,if_pos q1]
   by_cases q2:i-o<k
   ·rw[if_pos q2,if_neg om,od,cL,if_pos q2]
   ·rw[if_neg q2,if_pos om,if_pos om,if_pos om]
  ·rw[if_neg q1,if_neg q1,if_neg om]
 ·simp only[cx,aM,aZ,bD,cD]
  omega
 ·simp only[iu]
  rw[List.take_append_of_le_length (by rw[aZ,bD]; omega),Hw,Nat.min_self]
theorem xx {h:AH}{b o c:Nat}{cs:List AV}{d:Array Int} (hg:h.get b=some (cT cs o d)) (hr:o+d.size≤cs.length) (hc:d.size≤c) (hs:d.size<2 ^ 38) :
 C prg 100 [.sl b o d.size c] h λr h'=>∃ (d':Array Int) (m:Nat),r=.sl b o m c∧m≤d.size∧d'.size=d.size∧Upd h h' b (cT cs o d')∧d'.toList.take m=kX d.toList:=by
 refine HH pf100 ?_
 refine ab (ah (Mi0) ?_)
 refine ab (ab (ah (Mi0) ?_))
 refine bg (t:=decide (d.size<2)) (by simp only[am,aD,simprocAttr]; exact congrArg AV.bool (by simp only[decide_eq_decide]; omega)) (λq=>?_) λq=>?_
 ·have q:d.size<2:=aF q
  refine ab (ah (Mi0) ?_)
  refine bt ⟨_,(by simp only[rs,rf100,am,aD,simprocAttr]<;>rfl),d,d.size,rfl,ae _,rfl,HG hg,?_⟩
  rw[← bD,bp]
  rw[← bD] at q
  match d.toList,q with
  | [],_=>rfl
  | [x],_=>rfl
  | x::y::r,q=>simp only[aV] at q; omega
 have q:¬ d.size<2:=aE q
 refine aN (ab (ab (ah (M0) ?_)))
 refine aU (cf (λn ts h1=>∃ k:Nat,n=d.size-k∧1≤k∧k≤d.size∧h1=h∧kX (d.toList.take k)=d.toList.take k∧aB ts 0=.sl b o d.size c∧aB ts 3=.int .i64 (k:Nat)) ?_ (n:=d.size-1)
  ⟨1,rfl,ae _,om,rfl,?_,Zi0,Z1 @Gx⟩)
 ·rintro n ts h1 ⟨k,rfl,k1,k2,rfl,hk,e0,e3⟩
  refine ab (ab (ah (M2 e0 e3) ?_))
  refine bg (t:=decide (k<d.size)) (Z1 @bi) (λp=>?_) λp=>?_
  ·have p:k<d.size:=aF p
   have w1:IntKind.i64.wrap (((k:Nat):Int)-1)=((k-1:Nat):Int):=by rw[bE om om]; omega
   have i1:bN ((k:Nat):Int) d.size=some k:=aO p
   have i2:bN ((k-1:Nat):Int) d.size=some (k-1):=aO om
   have r1:=cq (i:=k) hg hr p
   have r2:=cq (i:=k-1) hg hr om
   refine aN (ab (aU (ab (ah (M8 e0 e3 w1 i1 i2 r1 r2 @ai) ?_))))
   have hkt:=sG (d:=d) k1 p
   refine bg (t:=decide (d[k]! = d[k-1]!)) (Z0) (λz=>?_) λz=>?_
   ·have z:d[k]! = d[k-1]!:=aF z
    rw[if_pos z,bU,hk] at hkt
    have s1:=Bj hg p hc
    refine ab (ah (by simp only[am,aD,simprocAttr,e0,e3,eJ,cu,s1]<;>rfl) ?_)
    refine ab (ab (ah (M0) ?_))
    refine aU (cf (λn ts h2=>∃ (m x:Nat) (d2:Array Int),n=d.size-k-x∧1≤x∧x≤d.size-k∧k≤m∧m<k+x∧Upd h1 h2 b (cT cs o d2)∧d2.size=d.size∧d2.toList.take m=kX (d.toList.take (k+x))∧(∀ y,k+x≤y+1→y<d.size→d2[y]! = d[y]!) ∧
     aB ts 0=.sl b o d.size c∧aB ts 3=.int .i64 (m:Nat)∧aB ts 4=.sl b (o+k) (d.size-k) (c-k)∧aB ts 5=.int .i64 (x:Nat)) ?_ (n:=d.size-k-1)
     ⟨k,1,d,rfl,ae _,om,ae _,om,HG hg,rfl,hkt.symm,λ_ _ _=>rfl,Z1 e0,Z1 e3,Z0,Z1 @Gx⟩)
    clear e0 e3
    rintro n ts h2 ⟨m,x,d2,rfl,x1,x2,m1,m2,hu,hz,hd,hsame,e0,e3,e4,e5⟩
    refine ab (ab (ah (M2 e4 e5) ?_))
    refine bg (t:=decide (x<d.size-k)) (Z1 @bi) (λy=>?_) λy=>?_
    ·have y:x<d.size-k:=aF y
     have w2:IntKind.i64.wrap (((x:Nat):Int)-1)=((x-1:Nat):Int):=by rw[bE om om]; omega
     have w3:IntKind.i64.wrap (((x:Nat):Int)+1)=((x+1:Nat):Int):=bE om om
     have i3:bN ((x:Nat):Int) (d.size-k)=some x:=aO y
     have i4:bN ((x-1:Nat):Int) (d.size-k)=some (x-1):=aO om
     have r3:ar h2 b (o+k+x) 1=some [.int .i64 d2[k+x]!]:=by rw[er]; exact cq (i:=k+x) hu.get om om
     have r4:ar h2 b (o+k+(x-1)) 1=some [.int .i64 d2[k+(x-1)]!]:=by rw[er]; exact cq (i:=k+(x-1)) hu.get om om
     rw[hsame _ om om] at r3 r4
     have hct:=sG (d:=d) (k:=k+x) om om
     rw[show k+x-1=k+(x-1) by omega] at hct
     refine aN (ab (aU (ab (ah (M8 e4 e5 w2 i3 i4 r3 r4 @ai) ?_))))
     refine bg (t:=!decide (d[k+x]! = d[k+(x-1)]!)) (Z0) (λu=>?_) λu=>?_
     ·have u:¬ d[k+x]! = d[k+(x-1)]!:=by simpa using u
      rw[if_neg u] at hct
      have i5:bN ((m:Nat):Int) d.size=some m:=aO om
      obtain⟨h3,wr,u3⟩:=wq (i:=m) (x:=d[k+x]!) hu.get om om
      have w4:IntKind.i64.wrap (((m:Nat):Int)+1)=((m+1:Nat):Int):=bE om om
      refine ab (ah (M10 e0 e3 e4 e5 i3 i5 r3 wr @ai @ai) ?_)
      refine ah (M2 e3 w4) ?_
      refine ah (M2 e5 w3) ?_
      refine⟨d.size-k-(x+1),om,m+1,x+1,d2.setIfInBounds m d[k+x]!,rfl,om,om,om,om,hu.trans u3,by simpa using hz,?_,λy hy1 hy2=>?_,Z1 e0,Z2 e3 w4,Z1 e4,Z2 e5 w3⟩
      ·rw[← er,hct,← hd,mK]
       rw[List.take_set,aK (by rw[bD]; omega)]
       rw[qR _ _ (by rw[aZ,bD]; omega)]
       have em:m-(d2.toList.take m).length=0:=by rw[aZ,bD]; omega
       rw[em]
       rfl
      ·rw[← hsame y om hy2]
       rw[getElem!_pos _ _ (by simpa using (by omega:y<d2.size)),getElem!_pos d2 _ om,Array.getElem_setIfInBounds,if_neg om]
     ·have u:d[k+x]! = d[k+(x-1)]!:=by simpa using u
      rw[if_pos u,bU] at hct
      refine aN ?_
      refine ah (M2 e5 w3) ?_
      exact⟨d.size-k-(x+1),om,m,x+1,d2,rfl,om,om,m1,om,hu,hz,by rw[← er,hct,hd],λy hy1 hy2=>hsame y om hy2,Z1 e0,Z1 e3,Z1 e4,Z2 e5 w3⟩
    ·have y:¬ x<d.size-k:=aE y
     have ex:k+x=d.size:=om
     rw[ex,← bD,bp] at hd
     refine bM ⟨λ_=>?_,λe=>absurd rfl e⟩
     have s2:=Bj (n:=d.size) (k:=m) hu.get om hc
     obtain⟨h3,d3,c3,u3,z3,t3⟩:=EX (k:=m) (c:=c-m) hu.get om om
     rw[hz] at c3
     have s3:=GJ (n:=d.size) (k:=m) (c:=c) u3.get om
     refine ab (ah (by simp only[am,aD,simprocAttr,e0,e3,eJ,cu,s2,c3]<;>rfl) ?_)
     refine ab (ah (by simp only[am,aD,simprocAttr,e0,e3,eJ,cu,s3]<;>rfl) ?_)
     exact bt ⟨_,(by simp only[rs,rf100,am,aD,simprocAttr]<;>rfl),d3,m,rfl,om,om,hu.trans u3,by rw[t3,hd]⟩
   ·have z:¬ d[k]! = d[k-1]!:=aE z
    rw[if_neg z,hk] at hkt
    have w3:IntKind.i64.wrap (((k:Nat):Int)+1)=((k+1:Nat):Int):=bE om om
    refine aN ?_
    refine ah (M2 e3 w3) ?_
    refine⟨d.size-(k+1),om,k+1,rfl,om,om,rfl,?_,Z1 e0,Z2 e3 w3⟩
    rw[hkt,aK (by rw[bD]; exact p),getElem!_pos d _ p]
    rfl
  ·have p:¬ k<d.size:=aE p
   refine bM ⟨λ_=>?_,λe=>absurd rfl e⟩
   refine ab (ah (M1 e0) ?_)
   have ek:k=d.size:=om
   refine bt ⟨_,(by simp only[rs,rf100,am,aD,simprocAttr]<;>rfl),d,d.size,rfl,ae _,rfl,HG hg,?_⟩
   rw[ek,← bD,bp] at hk
   rw[← bD,bp,hk]
 ·match hl:d.toList,(by rw[bD]; omega:2≤d.toList.length) with
  | x::r,_=>rfl
open Go.Am
def edM (E:List (Int×Int)) (i:Int):Int×Int:=E.getD i.toNat (0,0)
def fB (E:List (Int×Int)) (es:List Int):List Int:=es.flatMap λi=>[(edM E i).1,(edM E i).2]
def vsM (n:Nat) (E:List (Int×Int)) (es:List Int):List Int:=(oN n).filter λv=>decide (v∈fB E es)
def dE (n:Nat) (E:List (Int×Int)) (es:List Int) (v:Int):Nat:=(vsM n E es).countP λu=>decide (u<v)
def oP (n:Nat) (E:List (Int×Int)) (es:List Int):List (Int×Int):=es.map λi=>(((dE n E es (edM E i).1:Nat):Int),((dE n E es (edM E i).2:Nat):Int))
theorem FM {n:Int}{E:List (Int×Int)}{es:List Int} (hm:eV n E=true) (hs:∀ i∈es,0≤i∧i<(E.length:Nat)):∀ v∈fB E es,0≤v∧v<n:=by
 intro v hv
 unfold fB at hv
 rw[dH] at hv
 obtain⟨i,hi,hv⟩:=hv
 obtain⟨h1,h2⟩:=hs i hi
 unfold eV at hm
 simp only[aq,bA] at hm
 have hk:i.toNat<E.length:=om
 have he:edM E i=E[i.toNat]:=by unfold edM; rw[aL,aw hk]; rfl
 have:=hm.2 _ (bq hk)
 rw[← he] at this
 simp only[okE,ta,aq,eB,Bool.or_eq_false_iff,aR,aj] at this
 simp only[aC,bj,or_false] at hv
 rcases hv with rfl|rfl<;>omega
theorem xq (z:Int):∀ (x:Int) (l:List Int),(z=x∨z∈dd x l)↔(z=x∨z∈l)
 | x,[]=>by simp [dd]
 | x,y::r=>by
   unfold dd
   split
   ·rename_i e
    subst e
    rw[xq z y r,aC]
    constructor
    ·rintro (h|h)
     ·exact .inl h
     ·exact .inr (.inr h)
    ·rintro (h|h|h)
     ·exact .inl h
     ·exact .inl h
     ·exact .inr h
   ·rw[aC,aC,xq z y r]
theorem DI {z:Int}{l:List Int}:z∈kX l↔z∈l:=by
 cases l with
 | nil=>rfl
 | cons x r=>simp only[kX,aC]; exact xq z x r
theorem Dw:∀ (x:Int) (l:List Int),(x::l).Pairwise (·≤·)→(x::dd x l).Pairwise (·<·)
 | x,[],_=>by simp [dd]
 | x,y::r,h=>by
   unfold dd
   split
   ·rename_i e
    subst e
    exact Dw y r (List.Pairwise.of_cons h)
   ·rename_i e
    have h1:=Dw y r (List.Pairwise.of_cons h)
    have h2:x≤y:=(cG.1 h).1 y (aY ..)
    have h3:x<y:=om
    refine cG.2 ⟨λz hz=>?_,h1⟩
    rcases aC.1 hz with rfl|hz
    ·exact h3
    ·have:=(cG.1 h1).1 z hz
     omega
theorem FR {l:List Int} (h:l.Pairwise (·≤·)):(kX l).Pairwise (·<·):=by
 cases l with
 | nil=>exact List.Pairwise.nil
 | cons x r=>exact Dw x r h
theorem pB:∀ {l m:List Int},l.Pairwise (·<·)→m.Pairwise (·<·)→(∀ x,x∈l↔x∈m)→l=m
 | [],[],_,_,_=>rfl
 | [],y::m,_,_,h=>by have:=(h y).2 (aY ..); cases this
 | x::l,[],_,_,h=>by have:=(h x).1 (aY ..); cases this
 | x::l,y::m,h1,h2,h=>by
   obtain⟨a1,a2⟩:=cG.1 h1
   obtain⟨b1,b2⟩:=cG.1 h2
   have e:x=y:=by
    have hx:=(h x).1 (aY ..)
    have hy:=(h y).2 (aY ..)
    rcases aC.1 hx with q|q
    ·exact q
    ·rcases aC.1 hy with p|p
     ·exact p.symm
     ·have:=a1 y p; have:=b1 x q; omega
   subst e
   rw[pB a2 b2 λz=>?_]
   have hz:=h z
   rw[aC,aC] at hz
   constructor
   ·intro q
    rcases hz.1 (.inr q) with p|p
    ·have:=a1 z q; omega
    ·exact p
   ·intro q
    rcases hz.2 (.inr q) with p|p
    ·have:=b1 z q; omega
    ·exact p
theorem tr (xs:List Int):(kW xs).Pairwise (·≤·):=by
 have:=List.pairwise_mergeSort (le:=λx y=>decide (x≤y)) (λa b c h1 h2=>by simp only[aj] at *; omega) (λa b=>by simp only[dy,aj]; omega) xs
 exact this.imp λh=>aF h
theorem Af {z:Int}{xs:List Int}:z∈kW xs↔z∈xs:=(List.mergeSort_perm xs _).mem_iff
theorem qT (n:Nat) (E:List (Int×Int)) (es:List Int):(vsM n E es).Pairwise (·<·):=by
 unfold vsM
 refine List.Pairwise.filter _ ?_
 unfold oN
 rw[jL]
 exact List.pairwise_lt_range.imp λh=>by omega
theorem Cn {n:Int}{E:List (Int×Int)}{es:List Int} (hm:eV n E=true) (hs:∀ i∈es,0≤i∧i<(E.length:Nat)):kX (kW (fB E es))=vsM n.toNat E es:=by
 refine pB (FR (tr _)) (qT _ _ _) λx=>?_
 rw[DI,Af]
 unfold vsM
 rw[bH,lz]
 constructor
 ·intro hx
  have:=FM hm hs x hx
  exact⟨⟨this.1,om⟩,aI hx⟩
 ·exact λhx=>aF hx.2
theorem yY (n:Nat):oN (n+1)=oN n++[((n:Nat):Int)]:=by
 unfold oN
 rw[cJ,cV]
 rfl
theorem xZ (n:Nat) (E:List (Int×Int)) (es:List Int):vsM (n+1) E es=vsM n E es++if ((n:Nat):Int)∈fB E es then [((n:Nat):Int)] else []:=by
 unfold vsM
 rw[yY,ft]
 congr 1
 by_cases q:((n:Nat):Int)∈fB E es
 ·simp [q]
 ·simp [q]
open Go.Am
theorem Ao {E:List (Int×Int)}{es:List Int}{k:Nat} (hk:k<es.length):fB E (es.take (k+1))=fB E (es.take k)++[(edM E es[k]).1,(edM E es[k]).2]:=by
 unfold fB
 rw[aK hk,bQ]
 rfl
theorem qq (E:List (Int×Int)):∀ es:List Int,(fB E es).length=2*es.length
 | []=>rfl
 | i::r=>by
   have:=qq E r
   unfold fB at *
   rw[eP,aM,this]
   simp only[aV,bh]
   omega
theorem uk {n:Nat}{E:List (Int×Int)}{es F:List Int}{k:Nat} (hk:k<es.length):((es.take (k+1)).map λi=>(((dE n E F (edM E i).1:Nat):Int),((dE n E F (edM E i).2:Nat):Int)))=((es.take k).map λi=>(((dE n E F (edM E i).1:Nat):Int),((dE n E F (edM E i).2:Nat):Int)))++[(((dE n E F (edM E es[k]).1:Nat):Int),((dE n E F (edM E es[k]).2:Nat):Int))]:=by
 rw[aK hk,cV]
 rfl
theorem Dt {E:List (Int×Int)}{i:Int}{m:Nat} (hm:i=(m:Nat)) (h:m<E.length):edM E i=E[m]:=by
 subst hm
 unfold edM
 rw[bK,aL,aw h]
 rfl
theorem Gg {h:AH}{b c m:Nat}{cs:List AV}{d:Array Int} (hg:h.get b=some (cT cs 0 d)) (hr:0+d.size≤cs.length) (hm:m≤d.size) (hc:m≤c):SlI h (.sl b 0 m c) (d.toList.take m):=by
 have hr':0+(gc d).length≤cs.length:=by rw[fw]; exact hr
 have hl:=fQ hr'
 have hlt:(d.toList.take m).length=m:=by rw[aZ,bD]; omega
 refine .inr ⟨b,0,c,_,false,by rw[au,hlt],hg,by rw[au,hlt]; exact hc,by rw[au,hl,hlt]; omega,λi x hi=>?_⟩
 rw[be] at hi
 obtain⟨y,hy,rfl⟩:=aA.1 hi
 have him:i<m:=by have:=(aJ.1 hy).1; omega
 rw[cL,if_pos him] at hy
 have hk:(cW cs 0 (gc d))[0+i]?=some (.int .i64 y):=by
  rw[eY hr',if_pos ⟨om,by rw[fw]; omega⟩,show 0+i-0=i by omega]
  unfold gc
  rw[be,hy]
  rfl
 obtain⟨hlt2,hk2⟩:=aJ.1 hk
 refine⟨om,?_⟩
 rw[ai,bW hlt2,hk2]
 rfl
open Go.Am
theorem Er {h:AH}{x:Int}:C prg 159 [.int .i64 x] h λv h'=>v=.bool false∧h'=h:=by
 refine HH pf159 ?_
 refine ab (ah (Mi0) ?_)
 have e:(!decide (x=x))=false:=by simp
 refine ab (ah (Mi1 e) ?_)
 exact bt ⟨.bool false,(by simp only[rs,rf159,am,aD,simprocAttr,bL,decide_true]<;>rfl),rfl,rfl⟩
theorem tK {xs:List Int}{t:Int}{i:Nat} (hi:i≤xs.length) (h1:∀ k (hk:k<xs.length),k<i→xs[k]<t) (h2:∀ k (hk:k<xs.length),i≤k→¬ xs[k]<t):(xs.countP λu=>decide (u<t))=i:=by
 have e:=List.countP_append (p:=λu=>decide (u<t)) (l₁:=xs.take i) (l₂:=xs.drop i)
 rw[cn] at e
 rw[e]
 have a:(xs.take i).countP (λu=>decide (u<t))=(xs.take i).length:=by
  rw[List.countP_eq_length]
  intro u hu
  obtain⟨k,hk,rfl⟩:=lg.1 hu
  rw[aZ] at hk
  rw[List.getElem_take]
  exact aI (h1 k om om)
 have b:(xs.drop i).countP (λu=>decide (u<t))=0:=by
  rw[lY]
  intro u hu
  obtain⟨k,hk,rfl⟩:=lg.1 hu
  rw[dj] at hk
  rw[List.getElem_drop]
  simpa using h2 (i+k) om om
 rw[a,b,aZ]
 omega
theorem xM {h:AH}{v:AV}{xs:List Int}{t:Int} (hv:SlI h v xs) (hs:xs.Pairwise (·≤·)) (hl:xs.length<2 ^ 40) :
 C prg 121 [v,.int .i64 t] h λr h'=>r=.tup [.int .i64 ((xs.countP (λu=>decide (u<t)):Nat):Int),.bool (decide (t∈xs))]∧h'=h:=by
 have el:=hv.len
 rw[au] at el
 have hle:∀ i j (hi:i<xs.length) (hj:j<xs.length),i≤j→xs[i]≤xs[j]:=λi j hi hj hij=>by
  rcases dG i j with q|q
  ·exact ig.1 hs i j hi hj q
  ·have:i=j:=om
   subst this
   exact Int.le_refl _
 refine HH pf121 ?_
 refine ab (ah (Mi0) ?_)
 refine ab (ah (Mi1 el) ?_)
 refine ab (ah (Mi0) ?_)
 refine ab (aU (cf (λn ts h1=>∃ i j:Nat,n=j-i∧i≤j∧j≤xs.length∧h1=h∧(∀ k (hk:k<xs.length),k<i→xs[k]<t)∧(∀ k (hk:k<xs.length),j≤k→¬ xs[k]<t) ∧
  aB ts 0=v∧aB ts 1=.int .i64 t∧aB ts 6=.int .i64 (xs.length:Nat)∧aB ts 7=.int .i64 (i:Nat)∧aB ts 8=.int .i64 (j:Nat)) ?_ (n:=xs.length)
  ⟨0,xs.length,rfl,dL _,ae _,rfl,λk hk q=>absurd q (Gw _),λk hk q=>by omega,Zi0,Zi0,Zi0,Zi1 @bm,Zi0⟩))
 rintro n ts h1 ⟨i,j,rfl,hij,hj,rfl,q1,q2,e0,e1,e6,e7,e8⟩
 refine ab (ab (ah (M2 e7 e8) ?_))
 refine bg (t:=decide (i<j)) (Z1 @bi) (λq=>?_) λq=>?_
 ·have q:i<j:=aF q
  have w1:IntKind.i64.wrap (((i:Nat):Int)+((j:Nat):Int))=((i+j:Nat):Int):=by rw[bE om om]; omega
  have w2:IntKind.u64.wrap ((i+j:Nat):Int)=((i+j:Nat):Int):=kw om
  have w3:dm .shr .no (.int .u64 ((i+j:Nat):Int)) (.int .u64 1)=some (.int .u64 (((i+j) / 2:Nat):Int)):=pj (k:=1) om
  have w4:IntKind.i64.wrap (((i+j) / 2:Nat):Int)=(((i+j) / 2:Nat):Int):=bE om om
  refine aN (aU (ab (ah (M6 e7 e8 w1 w2 w3 w4) ?_)))
  have hm:(i+j) / 2<xs.length:=om
  have hm1:i≤(i+j) / 2:=om
  have hm2:(i+j) / 2<j:=om
  generalize (i+j) / 2=m at *
  obtain⟨b1,p1,a1,r1,_⟩:=hv.at1 (cF (f:=eI) hm)
  refine ab (aX (aP 5 (M4 e0 e1 a1 r1) rfl (Z4 e0 e1 a1 r1) (M4 e0 e1 a1 r1) (fk) λv h' hq=>?_))
  obtain⟨rfl,rfl⟩:=hq
  refine aW (by simp only[am,aD,simprocAttr]; rfl) ?_
  refine bg (t:=Go.Sort.ltInt xs[m] t) (Z0) (λp=>?_) λp=>?_
  ·have p:xs[m]<t:=aF p
   have w5:IntKind.i64.wrap (((m:Nat):Int)+1)=((m+1:Nat):Int):=bE om om
   refine ah (M1 w5) ?_
   refine⟨j-(m+1),om,m+1,j,rfl,om,hj,rfl,λk hk hk2=>?_,q2,Z1 e0,Z1 e1,Z1 e6,Z1 w5,Z1 e8⟩
   have:=hle k m hk hm om
   omega
  ·have p:¬ xs[m]<t:=aE p
   refine ah (M0) ?_
   refine⟨m-i,om,i,m,rfl,om,om,rfl,q1,λk hk hk2=>?_,Z1 e0,Z1 e1,Z1 e6,Z1 e7,Z0⟩
   have:=hle m k hm hk om
   omega
 ·have q:¬ i<j:=aE q
  have:j=i:=om
  subst this
  have ec:=tK hj q1 q2
  refine bM ⟨λ_=>?_,λe=>absurd rfl e⟩
  by_cases c1:j<xs.length
  ·have d1:decide (((j:Nat):Int)<((xs.length:Nat):Int))=true:=aI om
   obtain⟨b1,p1,a1,r1,_⟩:=hv.at1 (cF (f:=eI) c1)
   by_cases c2:xs[j]=t
   ·have d2:decide (xs[j]=t)=true:=aI c2
    refine ab (aX (dF 16 (M8 e0 e1 e6 e7 d1 a1 r1 d2) rfl (Z2 d1 d2) (dF 2 (M2 d1 d2) rfl (Z2 d1 d2) ?_)))
    refine aW (M2 d1 d2) ?_
    refine bt ⟨_,(by simp only[rs,rf121,am,aD,simprocAttr]<;>rfl),?_,rfl⟩
    rw[ec,aI (c2▸bq c1)]
   ·have d2:decide (xs[j]=t)=false:=aG c2
    refine ab (aX (aP 16 (M8 e0 e1 e6 e7 d1 a1 r1 d2) rfl (Z8 e0 e1 e6 e7 d1 a1 r1 d2) (M8 e0 e1 e6 e7 d1 a1 r1 d2) (Er) λv h' hq=>?_))
    obtain⟨rfl,rfl⟩:=hq
    refine dF 2 (M2 d1 d2) rfl (Z2 d1 d2) ?_
    refine aW (M2 d1 d2) ?_
    refine bt ⟨_,(by simp only[rs,rf121,am,aD,simprocAttr]<;>rfl),?_,rfl⟩
    rw[ec,aG]
    intro hm
    obtain⟨k,hk,ek⟩:=lg.1 hm
    have f1:=q2 j c1 (ae _)
    by_cases hkj:k<j
    ·have:=q1 k hk hkj; omega
    ·have:=hle j k c1 hk om; omega
  ·have d1:decide (((j:Nat):Int)<((xs.length:Nat):Int))=false:=aG om
   refine ab (aX (dF 16 (M5 e0 e1 e6 e7 d1) rfl (Z1 d1) (dF 2 (M1 d1) rfl (Z1 d1) ?_)))
   refine aW (M1 d1) ?_
   refine bt ⟨_,(by simp only[rs,rf121,am,aD,simprocAttr]<;>rfl),?_,rfl⟩
   rw[ec,aG]
   intro hm
   obtain⟨k,hk,ek⟩:=lg.1 hm
   have:=q1 k hk om
   omega
open Go.Am
theorem appN {h:AH}{esz lo bytes m:Nat}{v:AV}{cs new:List AV}{x:Nat} (hv:IsSl h esz lo v cs) (hlo:lo≤h.next) (he:0<esz) (hm:0<m) (hx:h.get x=some (.cells new esz false)) (hn:new.length=m*esz) (ho:new.all AV.one=true)
 (hb:(cs.length / esz+m)*bytes<bd) (hc:cs.length / esz+m<bd):∃ v' h',gz h esz bytes v (.sl x 0 m m)=some (v',h')∧IsSl h' esz lo v' (cs++new)∧Ext lo h h'∧v'=.sl h.next 0 (cs.length / esz+m) (cs.length / esz+m)∧h'.next=h.next+1:=by
 have hr:ar h x 0 (m*esz)=some new:=by
  rw[aS hx,if_pos om,cM,← hn,bp]
 have hm0:¬ m=0:=om
 rcases hv with ⟨rfl,rfl⟩|⟨b,n,h1,rfl,h3,h4⟩
 ·refine⟨.sl h.next 0 m m,h.new (.cells new esz false),?_,.inr ⟨h.next,m,hlo,rfl,by rw[AH.get_new]; simp,by simpa using hn⟩,HD hlo,by simp,by simp⟩
  simp only[gz,dY,hr,aH,ho,if_true,hm0,if_false]
  simp only[bh,Nat.zero_div,bO] at hb hc
  rw[if_pos ⟨hb,hc⟩]
 ·have hnn:cs.length / esz=n:=by rw[h4,fp _ he]
  rw[hnn] at hb hc
  have hr2:ar h b 0 (n*esz)=some cs:=by
   rw[aS h3,if_pos om,cM,← h4,bp]
  refine⟨.sl h.next 0 (n+m) (n+m),(h.put b .dead).new (.cells (cs++new) esz false),?_,.inr ⟨h.next,n+m,hlo,rfl,by rw[AH.get_new,AH.next_put]; simp,by rw[aM,hn,h4,dn]⟩,?_,by rw[hnn],by simp⟩
  ·simp only[gz,dY,hr,aH,ho,if_true,hm0,if_false]
   rw[if_neg om,if_pos ⟨hb,hc⟩,h3,hr2]
   simp only[if_true]
  ·exact (Ext.put h1).trans (HD (by simpa using hlo))
end Go.Proofs.YtahepnbflofndaaGreatDoor
