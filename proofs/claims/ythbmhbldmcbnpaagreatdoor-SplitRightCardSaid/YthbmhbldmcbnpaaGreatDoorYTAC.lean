/- Maps with keys of any kind -/
import Derived.Test.YthbmhbldmcbnpaaGreatDoorYAmR
import Derived.Test.YthbmhbldmcbnpaaGreatDoorYTAB
import Derived.Test.YthbmhbldmcbnpaaGreatDoorYAmL
import Derived.Test.YthbmhbldmcbnpaaGreatDoorYAmA
set_option linter.all false
namespace Go.Proofs.YthbmhbldmcbnpaaGreatDoor
open Go.Am
def upG {α:Type} [DecidableEq α]:List (α×AV)→α→AV→List (α×AV)
 | [],k,v=>[(k,v)]
 | p::r,k,v=>if p.1=k then (k,v)::r else p::upG r k v
def lkG {α:Type} [DecidableEq α]:List (α×AV)→α→Option AV
 | [],_=>none
 | p::r,k=>if p.1=k then some p.2 else lkG r k
def KeyE {α:Type} [DecidableEq α] (e:RE) (κ:α→AV):Prop:=∀ a b,fT e (κ a) (κ b)=some (decide (a=b))
theorem keyP:KeyE (.flat [.i64,.i64]) (λk:Int×Int=>AV.agg [.int .i64 k.1,.int .i64 k.2]):=λa b=>by
 obtain⟨a1,a2⟩:=a
 obtain⟨b1,b2⟩:=b
 by_cases e:a1=b1
 ·subst e
  by_cases e:a2=b2
  ·subst e
   simp [fT,eqF,dJ]
  ·have:(a2==b2)=false:=by rw[beq_eq_false_iff_ne]; exact e
   simp [fT,eqF,dJ,this,e]
 ·have:(a1==b1)=false:=by rw[beq_eq_false_iff_ne]; exact e
  simp [fT,eqF,dJ,this,e]
theorem KeyE.ok {α:Type} [DecidableEq α] {e:RE}{κ:α→AV} (hk:KeyE e κ) (a:α):nr e (κ a)=true:=by
 unfold nr
 rw[hk a a]
 rfl
section
variable {α:Type} [DecidableEq α] {e:RE}{κ:α→AV}
theorem qL:∀ {l:List (α×AV)}{k:α}{v:AV},(upG l k v).map (·.1)=if k∈l.map (·.1) then l.map (·.1) else l.map (·.1)++[k]
 | [],k,v=>by simp [upG]
 | p::r,k,v=>by
   unfold upG
   by_cases q:p.1=k
   ·rw[if_pos q,aS,aS,if_pos (by simp [q]),q]
   ·rw[if_neg q,aS,qL,aS]
    by_cases m:k∈r.map (·.1)
    ·rw[if_pos m,if_pos (aM _ m)]
    ·rw[if_neg m,if_neg (by rw[aA]; rintro (h|h); exact q h.symm; exact m h)]
     rfl
theorem tC {l:List (α×AV)}{k:α}{v:AV} (h:(l.map (·.1)).Nodup):((upG l k v).map (·.1)).Nodup:=by
 rw[qL]
 split
 ·exact h
 ·rename_i hk
  rw[bN]
  refine⟨h,by simp,λa ha b hb=>?_⟩
  rw[bd] at hb
  subst hb
  rintro rfl
  exact hk ha
theorem kh:∀ {l:List (α×AV)}{k k':α}{v:AV},lkG (upG l k v) k'=if k'=k then some v else lkG l k'
 | [],k,k',v=>by
   simp only[upG,lkG]
   by_cases q:k=k'
   ·rw[if_pos q,if_pos q.symm]
   ·rw[if_neg q,if_neg λe=>q e.symm]
 | p::r,k,k',v=>by
   unfold upG
   by_cases q:p.1=k
   ·rw[if_pos q]
    simp only[lkG]
    by_cases m:k'=k
    ·rw[if_pos m,if_pos m.symm]
    ·rw[if_neg m,if_neg (λe=>m e.symm),if_neg (λe=>m (e.symm.trans q))]
   ·rw[if_neg q]
    simp only[lkG]
    rw[kh]
    by_cases m:p.1=k'
    ·rw[if_pos m,if_pos m,if_neg (λe=>q (m.trans e))]
    ·rw[if_neg m,if_neg m]
theorem xG {l:List (α×AV)}{k:α}:lkG l k=none↔k∉l.map (·.1):=by
 induction l with
 | nil=>simp [lkG]
 | cons p r ih =>
   simp only[lkG,aS,aA]
   by_cases q:p.1=k
   ·rw[if_pos q]
    simp [q.symm]
   ·rw[if_neg q,ih]
    constructor
    ·rintro h (e|e)
     ·exact q e.symm
     ·exact h e
    ·exact λh e=>h (.inr e)
theorem AR:∀ {l:List (α×AV)},(l.map (·.1)).Nodup→∀ p∈l,lkG l p.1=some p.2
 | q::r,hn,p,hp=>by
   rw[aS] at hn
   obtain⟨h1,h2⟩:=bU.1 hn
   simp only[lkG]
   rcases aA.1 hp with rfl|hp
   ·rw[if_pos rfl]
   ·rw[if_neg λe=>h1 (by rw[e]; exact dq hp)]
    exact AR h2 p hp
theorem vD:∀ {l:List (α×AV)}{k:α}{v:AV},lkG l k=some v→(k,v)∈l
 | p::r,k,v,h=>by
   simp only[lkG] at h
   split at h
   ·rename_i q
    cases h
    subst q
    exact aK ..
   ·exact aM _ (vD h)
def EntG (κ:α→AV) (es:List (AV×AV×Nat)) (l:List (α×AV)):Prop:=es.map (λx=>(x.1,x.2.1))=l.map λp=>(κ p.1,p.2)
theorem EntG.len {es:List (AV×AV×Nat)}{l:List (α×AV)} (h:EntG κ es l):es.length=l.length:=by
 have:=congrArg List.length h
 simpa using this
theorem sf (hk:KeyE e κ):∀ {es:List (AV×AV×Nat)}{l:List (α×AV)},EntG κ es l→∀ k:α,(lkG l k=none∧fw e (κ k) es=some none∧∀ v,upG l k v=l++[(k,v)]) ∨
 ∃ i v n,fw e (κ k) es=some (some (i,v,n))∧es[i]?=some (κ k,v,n)∧lkG l k=some v∧∀ u,upG l k u=l.set i (k,u)
 | [],l,h,k=>by
   have:l=[]:=by
    have:=congrArg List.length h
    simp at this
    exact bk.1 this.symm
   subst this
   exact .inl ⟨rfl,rfl,λ_=>rfl⟩
 | x::r,[],h,k=>by simp [EntG] at h
 | (a,b,n)::r,p::l,h,k=>by
   have h':=h
   simp only[EntG,aS,cF,ap] at h'
   obtain⟨⟨rfl,rfl⟩,h2⟩:=h'
   have hq:=hk k p.1
   by_cases q:p.1=k
   ·rw[aq q.symm] at hq
    refine .inr ⟨0,p.2,n,?_,by rw[q]; rfl,?_,λu=>?_⟩
    ·simp only[fw,hq]
    ·simp only[lkG,if_pos q]
    ·simp only[upG,if_pos q,Ag]
   ·rw[ai (λe=>q e.symm)] at hq
    rcases sf hk (es:=r) (l:=l) h2 k with ⟨h3,h4,h5⟩|⟨i,v,m,h3,h4,h5,h6⟩
    ·refine .inl ⟨?_,?_,λv=>?_⟩
     ·simp only[lkG,if_neg q,h3]
     ·simp only[fw,hq,h4]
      rfl
     ·simp only[upG,if_neg q,h5]
      rfl
    ·refine .inr ⟨i+1,v,m,?_,h4,?_,λu=>?_⟩
     ·simp only[fw,hq,h3]
      rfl
     ·simp only[lkG,if_neg q,h5]
     ·simp only[upG,if_neg q,h6,nU]
structure EsG (κ:α→AV) (es:List (AV×AV×Nat)) (c:Nat) (l:List (α×AV)):Prop where
 ent:EntG κ es l
 nod:(l.map (·.1)).Nodup
 st1:(es.map (·.2.2)).Pairwise (·<·)
 st2:∀ x∈es,x.2.2<c
def MapG (κ:α→AV) (h:AH) (mb:Nat) (l:List (α×AV)):Prop:=∃ es c,h.get mb=some (.mapo es c)∧EsG κ es c l
theorem MapG.nil {h:AH}{mb c:Nat} (hg:h.get mb=some (.mapo [] c)):MapG κ h mb []:=⟨[],c,hg,rfl,.nil,.nil,λx hx=>by cases hx⟩
theorem MapG.cong {h h':AH}{mb:Nat}{l:List (α×AV)} (m:MapG κ h mb l) (hg:h'.get mb=h.get mb):MapG κ h' mb l:=by
 obtain⟨es,c,h1,h2⟩:=m
 exact⟨es,c,by rw[hg]; exact h1,h2⟩
theorem MapG.lt {h:AH}{mb:Nat}{l:List (α×AV)} (m:MapG κ h mb l):mb<h.next:=by
 obtain⟨es,c,h1,_⟩:=m
 exact AH.lt_of_get h1
theorem MapG.len {h:AH}{mb:Nat}{l:List (α×AV)} (m:MapG κ h mb l):kJ h (.mp mb)=some (.int .i64 (l.length:Nat)):=by
 obtain⟨es,c,h1,h2⟩:=m
 have:=h2.ent.len
 simp only[kJ,h1,this]
theorem MapG.nod {h:AH}{mb:Nat}{l:List (α×AV)} (m:MapG κ h mb l):(l.map (·.1)).Nodup:=by
 obtain⟨es,c,h1,h2⟩:=m
 exact h2.nod
theorem MapG.look (hk:KeyE e κ) {h:AH}{mb:Nat}{l:List (α×AV)} (m:MapG κ h mb l) (z:AV) (k:α):fZ h e false z (.mp mb) (κ k)=some ((lkG l k).getD z):=by
 obtain⟨es,c,h1,h2⟩:=m
 rcases sf hk h2.ent k with ⟨q1,q2,_⟩|⟨i,v,n,q1,q2,q3,_⟩
 ·simp only[fZ,h1,hk.ok,q2,if_true,q1]; rfl
 ·simp only[fZ,h1,hk.ok,q1,if_true,q3]; rfl
theorem MapG.look2 (hk:KeyE e κ) {h:AH}{mb:Nat}{l:List (α×AV)} (m:MapG κ h mb l) (z:AV) (k:α):fZ h e true z (.mp mb) (κ k)=some (.tup [(lkG l k).getD z,.bool (lkG l k).isSome]):=by
 obtain⟨es,c,h1,h2⟩:=m
 rcases sf hk h2.ent k with ⟨q1,q2,_⟩|⟨i,v,n,q1,q2,q3,_⟩
 ·simp only[fZ,h1,hk.ok,q2,if_true,q1]; rfl
 ·simp only[fZ,h1,hk.ok,q1,if_true,q3]; rfl
theorem EsG.set {es:List (AV×AV×Nat)}{c i n:Nat}{l:List (α×AV)}{k:α}{v u:AV} (h:EsG κ es c l) (hi:es[i]?=some (κ k,v,n)) (hu:upG l k u=l.set i (k,u)):EsG κ (es.set i (κ k,u,n)) c (upG l k u):=by
 refine⟨?_,tC h.nod,?_,λx hx=>?_⟩
 ·unfold EntG
  rw[hu,mX,mX,h.ent]
 ·have:(es.set i (κ k,u,n)).map (·.2.2)=es.map (·.2.2):=by
   rw[mX]
   refine dg λj=>?_
   rw[cn]
   split
   ·rename_i e
    subst e
    have hl:=(aB.1 hi).1
    rw[aE,hi,ar,if_pos hl]
    rfl
   ·rfl
  rw[this]
  exact h.st1
 ·rcases oK hx with hx|rfl
  ·exact h.st2 x hx
  ·have:=h.st2 _ (fz hi)
   exact this
theorem EsG.add {es:List (AV×AV×Nat)}{c:Nat}{l:List (α×AV)}{k:α}{v:AV} (h:EsG κ es c l) (hu:upG l k v=l++[(k,v)]):EsG κ (es++[(κ k,v,c)]) (c+1) (upG l k v):=by
 refine⟨?_,tC h.nod,?_,λx hx=>?_⟩
 ·unfold EntG
  rw[hu,br,br,h.ent]
  rfl
 ·rw[br,lQ]
  refine⟨h.st1,by simp,λa ha b hb=>?_⟩
  simp only[aS,mY,bd] at hb
  subst hb
  obtain⟨x,hx,rfl⟩:=bi.1 ha
  exact h.st2 x hx
 ·rcases aI.1 hx with hx|hx
  ·have:=h.st2 x hx; omega
  ·rw[bd] at hx
   subst hx
   show c<c+1
   omega
theorem MapG.up (hk:KeyE e κ) {h:AH}{mb:Nat}{l:List (α×AV)} (m:MapG κ h mb l) (k:α) (v:AV):∃ h',mj h e (.mp mb) (κ k) v=some (.un,h')∧MapG κ h' mb (upG l k v)∧∃ o,Upd h h' mb o:=by
 obtain⟨es,c,h1,h2⟩:=m
 rcases sf hk h2.ent k with ⟨q1,q2,q3⟩|⟨i,w,n,q1,q2,q3,q4⟩
 ·have u:=NW (o:=.mapo (es++[(κ k,v,c)]) (c+1)) h1
  exact⟨_,by simp only[mj,h1,hk.ok,q2,if_true],⟨_,_,u.get,h2.add (q3 v)⟩,_,u⟩
 ·have u:=NW (o:=.mapo (es.set i (κ k,v,n)) c) h1
  exact⟨_,by simp only[mj,h1,hk.ok,q1,if_true],⟨_,_,u.get,h2.set q2 (q4 v)⟩,_,u⟩
theorem yV:∀ {es:List (AV×AV×Nat)}{i n:Nat}{k v:AV},(es.map (·.2.2)).Pairwise (·<·)→es[i]?=some (k,v,n)→pV ((n:Nat):Int) es=some (i,k,n)
 | (a,b,m)::r,0,n,k,v,hp,hi=>by
   simp only[bh,aa,ap] at hi
   obtain⟨rfl,rfl,rfl⟩:=hi
   simp only[pV,if_true]
 | (a,b,m)::r,i+1,n,k,v,hp,hi=>by
   rw[dy] at hi
   rw[aS,cN] at hp
   have:=hp.1 n (bi.2 ⟨_,fz hi,rfl⟩)
   have hne:¬ ((m:Nat):Int)=((n:Nat):Int):=by have this:m<n:=this; omega
   simp only[pV,if_neg hne,yV hp.2 hi,aG]
theorem MapG.men (hk:KeyE e κ) {h:AH}{mb:Nat}{l:List (α×AV)} (m:MapG κ h mb l) (z:AV) (k:α):∃ h1 n,tj h e z (.mp mb) (κ k)=some (.tup [(lkG l k).getD z,.int .i64 ((n:Nat):Int)],h1)∧(∃ o,Upd h h1 mb o)∧fZ h1 e false z (.mp mb) (κ k)=some ((lkG l k).getD z) ∧
 ∀ v,∃ h2,vC h1 (.mp mb) (.int .i64 ((n:Nat):Int)) v=some (.un,h2)∧MapG κ h2 mb (upG l k v)∧∃ o,Upd h1 h2 mb o:=by
 obtain⟨es,c,h1,h2⟩:=m
 rcases sf hk h2.ent k with ⟨q1,q2,q3⟩|⟨i,w,n,q1,q2,q3,q4⟩
 ·have u:=NW (o:=.mapo (es++[(κ k,z,c)]) (c+1)) h1
  have E:=h2.add (q3 z)
  have m2:MapG κ (h.put mb (.mapo (es++[(κ k,z,c)]) (c+1))) mb (upG l k z):=⟨_,_,u.get,E⟩
  refine⟨_,c,by simp only[tj,h1,hk.ok,q2,if_true,q1]; rfl,⟨_,u⟩,by rw[m2.look hk,kh,if_pos rfl,q1]; rfl,λv=>?_⟩
  have hi:(es++[(κ k,z,c)])[es.length]?=some (κ k,z,c):=by rw[aY (ae _),eA]; rfl
  have u2:=NW (o:=.mapo ((es++[(κ k,z,c)]).set es.length (κ k,v,c)) (c+1)) u.get
  refine⟨_,by simp only[vC,u.get,yV E.st1 hi],⟨_,_,u2.get,?_⟩,_,u2⟩
  have hs:=h2.add (q3 v)
  have:(es++[(κ k,z,c)]).set es.length (κ k,v,c)=es++[(κ k,v,c)]:=by
   rw[List.set_append_right _ _ (ae _),eA]
   rfl
  rw[this]
  exact hs
 ·have u:=NW (o:=.mapo (es.set i (κ k,w,n)) c) h1
  have E:=h2.set q2 (q4 w)
  have m2:MapG κ (h.put mb (.mapo (es.set i (κ k,w,n)) c)) mb (upG l k w):=⟨_,_,u.get,E⟩
  refine⟨_,n,by simp only[tj,h1,hk.ok,q1,if_true,q3,iz],⟨_,u⟩,by rw[m2.look hk,kh,if_pos rfl,q3],λv=>?_⟩
  have hl:=(aB.1 q2).1
  have hi:(es.set i (κ k,w,n))[i]?=some (κ k,w,n):=fe hl
  have u2:=NW (o:=.mapo ((es.set i (κ k,w,n)).set i (κ k,v,n)) c) u.get
  refine⟨_,by simp only[vC,u.get,yV E.st1 hi],⟨_,_,u2.get,?_⟩,_,u2⟩
  rw[List.set_set]
  exact h2.set q2 (q4 v)
end
open Go.Am
theorem FO {h:AH}{v:AV}{xs:List (Int×Int)}{P:Int×Int→Bool}{k:FuncId}{caps:List AV} (hv:SlE h v xs) (hl:xs.length<2 ^ 40)
 (hf:∀ x∈xs,∀ h',Ext h.next h h'→C prg k ([.agg (eE x)]++caps) h' λr h''=>r=.bool (P x)∧Ext h'.next h' h'') :
 C prg 75 [v,.fn k caps] h λr h'=>r=.int .i64 (jz P xs 0)∧Ext h.next h h':=by
 refine NX pf75 ?_
 have hlen:=hv.len
 rw[ar] at hlen
 refine ah (ak (Mi0) ?_)
 refine ah (ah (ak (Mi1 hlen) ?_))
 refine ah (oI (λts h1=>jz P xs 0=-1∧Ext h.next h h1) (bL (fI (λn ts h1=>∃ i,n=xs.length-i∧i≤xs.length∧Ext h.next h h1∧jz P (xs.drop i) i=jz P xs 0∧cG ts 0=v∧cG ts 1=.fn k caps∧cG ts 7=.int .i64 (xs.length:Nat)∧cG ts 8=.int .i64 (i:Nat)) ?_ (n:=xs.length) ⟨0,rfl,ff _,NV,by rw[dz],Ii0,Ii0,Ii0,by simp only[am,aC,↓reduceIte,Nat.reduceEqDiff,Int.reduceEq,Nat.reduceAdd,Nat.reduceLeDiff,reduceCtorEq,bI]; rfl⟩)) ?_)
 ·rintro n ts h1 ⟨i,rfl,hi,ex,hF,e0,e1,e7,e8⟩
  refine ah (ak (M2 e7 e8) ?_)
  refine ah (jE (t:=decide (i<xs.length)) (Z1 @bw) (λq=>?_) λq=>?_)
  ·have q:i<xs.length:=cm q
   obtain⟨b,p,a1,r1,_,_⟩:=(hv.ext ex (ae _)).at (dp (f:=eE) q)
   refine be (ah (bL (ah (ak (M1 e8) ?_))))
   have hc:=hf _ (aO q) h1 ex
   refine ah (bF (mL 5 (M6 e0 e1 e7 e8 a1 r1) rfl (Z6 e0 e1 e7 e8 a1 r1) (M6 e0 e1 e7 e8 a1 r1) (M6 e0 e1 e7 e8 a1 r1) (hc) λr h2 hq=>?_))
   obtain⟨rfl,ex2⟩:=hq
   have ex3:=ex.trans (ex2.mono ex.nx)
   refine bp (M0) ?_
   refine jE (t:=P xs[i]) (Z0) (λq2=>?_) λq2=>?_
   ·refine ah (ak (M0) ?_)
    refine aV ⟨.int .i64 (i:Nat),(by simp only[rs,rf75,am,aC,simprocAttr]<;>rfl),?_,ex3⟩
    rw[← hF,jd P q,if_pos q2]
   ·have w1:IntKind.i64.wrap (((i:Nat):Int)+1)=((i+1:Nat):Int):=fp om om
    refine be (ak (M2 e8 w1) ?_)
    refine⟨xs.length-(i+1),om,i+1,rfl,om,ex3,?_,Z1 e0,Z1 e1,Z1 e7,Z2 e8 w1⟩
    rw[← hF,jd P q,if_neg (by simp [q2])]
  ·have q:¬ i<xs.length:=eO q
   refine eX ⟨λ_=>⟨?_,ex⟩,λe=>absurd rfl e⟩
   rw[← hF,dE om]
   rfl
 ·rintro ts h1 ⟨hF,ex⟩
  refine ah (ak (M0) ?_)
  exact aV ⟨.int .i64 (-1),(by simp only[rs,rf75,am,aC,simprocAttr]<;>rfl),by rw[hF],ex⟩
theorem uN {h:AH}{v:AV}{xs:List (Int×Int)}{P:Int×Int→Bool}{k:FuncId}{caps:List AV} (hv:SlE h v xs) (hl:xs.length<2 ^ 40)
 (hf:∀ x∈xs,∀ h',Ext h.next h h'→C prg k ([.agg (eE x)]++caps) h' λr h''=>r=.bool (P x)∧Ext h'.next h' h'') :
 C prg 50 [v,.fn k caps] h λr h'=>r=.bool (xs.any P)∧Ext h.next h h':=by
 refine NX pf50 ?_
 refine ah (ak (Mi0) ?_)
 refine ah (bF (bg 2 (Mi0) rfl (Zi0) (Mi0) (FO hv hl hf) λr h2 hq=>?_))
 obtain⟨rfl,ex⟩:=hq
 have hb:decide ((0:Int)≤jz P xs 0)=xs.any P:=by
  have:=(oz P xs 0).2
  cases hq:xs.any P with
  | true=>rw[az]; rw[hq] at this; simp at this; omega
  | false=>rw[cQ]; have:=this.2 hq; omega
 refine bp (M1 hb) ?_
 exact aV ⟨_,(by simp only[rs,rf50,am,aC,simprocAttr]<;>rfl),rfl,ex⟩
theorem Ju {h:AH}{v:AV}{xs:List (Int)}{y:Int} (hv:SlI h v xs) (hl:xs.length<2 ^ 40) :
 C prg 84 [v,.int .i64 y] h λr h'=>r=.int .i64 (jz (y==·) xs 0)∧Ext h.next h h':=by
 refine NX pf84 ?_
 have hlen:=hv.len
 rw[ar] at hlen
 have ex0:Ext h.next h h:=NV
 refine ah (ak (Mi0) ?_)
 refine ah (ah (ak (Mi1 hlen) ?_))
 refine ah (oI (λts h1=>jz (y==·) xs 0=-1∧h1=h) (bL (fI (λn ts h1=>∃ i,n=xs.length-i∧i≤xs.length∧h1=h∧jz (y==·) (xs.drop i) i=jz (y==·) xs 0∧cG ts 0=v∧cG ts 1=.int .i64 y∧cG ts 7=.int .i64 (xs.length:Nat)∧cG ts 8=.int .i64 (i:Nat)) ?_ (n:=xs.length) ⟨0,rfl,ff _,rfl,by rw[dz],Ii0,Ii0,Ii0,by simp only[am,aC,↓reduceIte,Nat.reduceEqDiff,Int.reduceEq,Nat.reduceAdd,Nat.reduceLeDiff,reduceCtorEq,bI]; rfl⟩)) ?_)
 ·rintro n ts h1 ⟨i,rfl,hi,rfl,hF,e0,ek,e7,e8⟩
  refine ah (ak (M2 e7 e8) ?_)
  refine ah (jE (t:=decide (i<xs.length)) (Z1 @bw) (λq=>?_) λq=>?_)
  ·have q:i<xs.length:=cm q
   obtain⟨b,p,a1,r1,_,_⟩:=(hv.ext ex0 (ae _)).at (dp (f:=eI) q)
   refine be (ah (bL (ah (ak (M1 e8) ?_))))
   have ceq:decide (y=xs[i])=(y==xs[i]):=rfl
   refine ah (ak (by simp only[am,aC,simprocAttr,e0,ek,e7,e8,a1,r1,ceq,eI]<;>rfl) ?_)
   refine jE (t:=y==xs[i]) (Z0) (λq2=>?_) λq2=>?_
   ·refine ah (ak (M0) ?_)
    refine aV ⟨.int .i64 (i:Nat),(by simp only[rs,rf84,am,aC,simprocAttr]<;>rfl),?_,ex0⟩
    rw[← hF,jd _ q,if_pos q2]
   ·have w1:IntKind.i64.wrap (((i:Nat):Int)+1)=((i+1:Nat):Int):=fp om om
    refine be (ak (M2 e8 w1) ?_)
    refine⟨xs.length-(i+1),om,i+1,rfl,om,rfl,?_,Z1 e0,Z1 ek,Z1 e7,Z2 e8 w1⟩
    rw[← hF,jd _ q,if_neg (by simp [q2])]
  ·have q:¬ i<xs.length:=eO q
   refine eX ⟨λ_=>⟨?_,rfl⟩,λe=>absurd rfl e⟩
   rw[← hF,dE om]
   rfl
 ·rintro ts h1 ⟨hF,rfl⟩
  refine ah (ak (M0) ?_)
  exact aV ⟨.int .i64 (-1),(by simp only[rs,rf84,am,aC,simprocAttr]<;>rfl),by rw[hF],ex0⟩
open Go.Am
open Go.Am
abbrev SlN (h:AH) (v:AV) (l:List Nat):Prop:=SlI h v (l.map λn=>((n:Nat):Int))
def nC (l:List Nat):List AV:=(l.map λn=>((n:Nat):Int)).flatMap eI
theorem fj (l:List Nat):(nC l).length=l.length:=by
 unfold nC
 rw[dZ (f:=eI) (e:=1) (λ_=>rfl),ar]; omega
theorem pj (a b:List Nat):nC (a++b)=nC a++nC b:=by
 unfold nC
 rw[br,cI]
theorem kH {h:AH}{lo:Nat}{v:AV}{l:List Nat} (hv:IsSl h 1 lo v (nC l)):SlN h v l:=NT om (λ_=>rfl) hv
def LL (h:AH) (lo:Nat) (a:AV) (xss:List (List Nat)):Prop :=
 ∃ vs:List AV,IsSl h 1 lo a vs∧vs.length=xss.length∧∀ (i:Nat) (v:AV) (xs:List Nat),vs[i]?=some v→xss[i]?=some xs→IsSl h 1 lo v (nC xs)∧∀ b n b' n',v=.sl b 0 n n→a=.sl b' 0 n' n'→b≠b'
theorem LL.ext {h h':AH}{lo hi:Nat}{a:AV}{xss:List (List Nat)} (hl:LL h lo a xss) (hx:Ext hi h h') (hn:h.next≤hi):LL h' lo a xss:=by
 obtain⟨vs,h1,h2,h3⟩:=hl
 exact⟨vs,h1.ext hx hn,h2,λi v xs q1 q2=>⟨(h3 i v xs q1 q2).1.ext hx hn,(h3 i v xs q1 q2).2⟩⟩
theorem LL.mono {h:AH}{lo lo':Nat}{a:AV}{xss:List (List Nat)} (hl:LL h lo a xss) (hn:lo'≤lo):LL h lo' a xss:=by
 obtain⟨vs,h1,h2,h3⟩:=hl
 exact⟨vs,h1.mono hn,h2,λi v xs q1 q2=>⟨(h3 i v xs q1 q2).1.mono hn,(h3 i v xs q1 q2).2⟩⟩
theorem LL.push {h:AH}{lo x:Nat}{a v:AV}{xss:List (List Nat)}{xs:List Nat} (hl:LL h lo a xss) (hlo:lo≤h.next) (hv:IsSl h 1 lo v (nC xs)) (hx:h.get x=some (.cells [v] 1 false)) (hxl:lo≤x) (hxa:∀ b n,a=.sl b 0 n n→b≠x)
 (hva:∀ b n b' n',v=.sl b 0 n n→a=.sl b' 0 n' n'→b≠b') (hb:(xss.length+1)*24<aQ) :
 ∃ a' h',lP h 1 24 a (.sl x 0 1 1)=some (a',h')∧LL h' lo a' (xss++[xs])∧Ext lo h h'∧h'.next=h.next+1∧(∀ c,c<h.next→(∀ b n,a=.sl b 0 n n→c≠b)→h'.get c=h.get c)∧∀ c n,a'=.sl c 0 n n→c=h.next:=by
 obtain⟨vs,h1,h2,h3⟩:=hl
 obtain⟨a',h',q1,q2,q3,q4,q5,q6,_⟩:=h1.app (bytes:=24) hlo om hx hxl hxa rfl (by simp [hv.cells.2]) (by rw[jH,h2]; exact hb) (by rw[jH,h2]; unfold aQ at *; omega)
 have keep:∀ (w:AV) (cs:List AV),IsSl h 1 lo w cs→(∀ b n b' n',w=.sl b 0 n n→a=.sl b' 0 n' n'→b≠b')→IsSl h' 1 lo w cs∧∀ b n b' n',w=.sl b 0 n n→a'=.sl b' 0 n' n'→b≠b':=λw cs hw hn=>by
  refine⟨hw.cong λb n e _=>q6 b (hw.lt e) λb' n' e'=>hn b n b' n' e e',λb n b' n' e e'=>?_⟩
  have:=hw.lt e
  rw[q4] at e'
  cases e'
  omega
 refine⟨a',h',q1,⟨vs++[v],q2,by rw[aN,aN,h2]; rfl,λi w ys e1 e2=>?_⟩,q3,q5,q6,λc n e=>by rw[q4] at e; cases e; rfl⟩
 by_cases hi:i<vs.length
 ·rw[bf hi] at e1
  rw[bf om] at e2
  obtain⟨k1,k2⟩:=h3 i w ys e1 e2
  exact keep w _ k1 k2
 ·have hil:i<(vs++[v]).length:=(aB.1 e1).1
  rw[aN,aR,bo] at hil
  have hi':i=vs.length:=om
  subst hi'
  rw[aY om,eA] at e1
  rw[h2,aY om,eA] at e2
  cases e1
  cases e2
  exact keep v _ hv hva
theorem LL.len {h:AH}{lo:Nat}{a:AV}{xss:List (List Nat)} (hl:LL h lo a xss):gD a=some (.int .i64 (xss.length:Nat)):=by
 obtain⟨vs,h1,h2,h3⟩:=hl
 rcases h1 with ⟨rfl,rfl⟩|⟨b,n,_,rfl,hg,hn⟩
 ·rw[← h2]; rfl
 ·rw[← h2,hn,aD]; rfl
theorem LL.lt {h:AH}{lo:Nat}{a:AV}{xss:List (List Nat)} (hl:LL h lo a xss) {b n:Nat} (e:a=.sl b 0 n n):b<h.next:=by
 obtain⟨vs,h1,_⟩:=hl
 exact h1.lt e
open Go.Am
theorem Aw {a k:Nat} (hk:k<64):du .shr .no (.int .u64 (a:Nat)) (.int .u64 (k:Nat))=some (.int .u64 ((a / 2 ^ k:Nat):Int)):=by
 have h1:min ((k:Nat):Int).toNat IntKind.u64.bits=k:=by
  have:IntKind.u64.bits=64:=rfl
  rw[this,eC]
  omega
 have h2:((a:Nat):Int).fdiv (2 ^ k)=((a / 2 ^ k:Nat):Int):=by
  rw[Int.fdiv_eq_ediv_of_nonneg _ (Int.le_of_lt (Int.pow_pos (by decide)))]
  simp
 have:du .shr .no (.int .u64 (a:Nat)) (.int .u64 (k:Nat))=vj .shr .u64 (a:Nat) (k:Nat):=by simp [du,eL]
 rw[this]
 have hk0:¬ ((k:Nat):Int)<0:=om
 simp only[vj,h1,h2,hk0,if_false]
set_option maxRecDepth 8000 in
theorem zr {h:AH}:C prg 95 [.int .u64 0] h λv h'=>v=.int .i64 0∧h'=h:=by
 refine NX pf95 ?_
 refine ah (ak (Ji0) ?_)
 have c1:decide ((4294967296:Int)≤0)=false:=by decide
 have c2:decide ((65536:Int)≤0)=false:=by decide
 have c3:decide ((256:Int)≤0)=false:=by decide
 refine ah (ah (ak (Ji1 c1) ?_))
 refine cj (I1 c1) (be ?_)
 refine ah (ah (ak (Ji1 c2) ?_))
 refine cj (I1 c2) (be ?_)
 refine ah (ah (ak (Ji1 c3) ?_))
 refine cj (I1 c3) (be ?_)
 have w1:IntKind.u8.wrap 0=0:=by decide
 have w2:IntKind.i64.wrap 0=0:=by decide
 have w3:IntKind.i64.wrap (0+0)=0:=by decide
 have hi:uz (.str [0,1,2,2,3,3,3,3,4,4,4,4,4,4,4,4,5,5,5,5,5,5,5,5,5,5,5,5,5,5,5,5,6,6,6,6,6,6,6,6,6,6,6,6,6,6,6,6,6,6,6,6,6,6,6,6,6,6,6,6,6,6,6,6,7,7,7,7,7,7,7,7,7,7,7,7,7,7,7,7,7,7,7,7,7,7,7,7,7,7,7,7,7,7,7,7,7,7,7,7,7,7,7,7,7,7,7,7,7,7,7,7,7,7,7,7,7,7,7,7,7,7,7,7,7,7,7,7,8,8,8,8,8,8,8,8,8,8,8,8,8,8,8,8,8,8,8,8,8,8,8,8,8,8,8,8,8,8,8,8,8,8,8,8,8,8,8,8,8,8,8,8,8,8,8,8,8,8,8,8,8,8,8,8,8,8,8,8,8,8,8,8,8,8,8,8,8,8,8,8,8,8,8,8,8,8,8,8,8,8,8,8,8,8,8,8,8,8,8,8,8,8,8,8,8,8,8,8,8,8,8,8,8,8,8,8,8,8,8,8,8,8,8,8,8,8,8,8,8,8,8,8,8,8,8,8]) (.int .u8 0)=some (.int .u8 0):=rfl
 refine ah (sV (λts h5=>h5=h∧cG ts 2=.int .i64 0) ?_ λts h5 ⟨eh,e2⟩=>aV ⟨.int .i64 0,(by simp only[rs,rf95,am,aC,simprocAttr,e2]<;>rfl),rfl,eh⟩)
 simp only[am,aC,simprocAttr,bI,w1,hi,w2,w3]
theorem pJ {h:AH}:C prg 79 [.int .u64 0] h λv h'=>v=.int .i64 0∧h'=h:=by
 refine NX pf79 ?_
 refine ah (ak (Ji0) ?_)
 refine ah (cj rfl (be ?_))
 refine ah (bF (bg 1 (Mi0) rfl (Zi0) (Mi0) (zr) λv h' hq=>?_))
 obtain⟨rfl,rfl⟩:=hq
 refine bp (M0) ?_
 exact aV ⟨_,(by simp only[rs,rf79,am,aC,simprocAttr]<;>rfl),rfl,rfl⟩
open Go.Am
theorem pR {α:Type}{f:α→List AV}{e:Nat} (hf:∀ x,(f x).length=e):∀ (xs:List α) (i:Nat) (x:α),i<xs.length→dj (xs.flatMap f) (i*e) (f x)=(xs.set i x).flatMap f
 | [],i,x,h=>absurd h (bm _)
 | y::r,0,x,h=>by
   simp only[dj,Dy,fl,cV,bM,cX,Ag,hf]
   rw[List.drop_left' (hf y)]
 | y::r,i+1,x,h=>by
   have ih:=pR hf r i x (tc h)
   simp only[dj,hf] at ih
   simp only[dj,cX,nU,hf]
   rw[← ih]
   have e1:(i+1)*e=(f y).length+i*e:=by rw[hf,dK]; omega
   rw[e1,List.take_length_add_append,fJ,List.drop_length_add_append]
   simp only[cr]
theorem GT {α:Type}{f:α→List AV}{e:Nat} (hf:∀ x,(f x).length=e) {h:AH}{b i:Nat}{xs:List α}{x:α} (hg:h.get b=some (.cells (xs.flatMap f) e false)) (hi:i<xs.length) :
 bD h b (i*e) (f x)=some (h.put b (.cells ((xs.set i x).flatMap f) e false)):=by
 have hl:=dZ hf xs
 rw[et hg,if_pos (by
  rw[hf,hl]
  have:(i+1)*e≤xs.length*e:=dX e om
  rw[dK,oO] at this
  exact this),pR hf xs i x hi]
theorem FK {h:AH}:C prg 96 [.nils,.int .i64 0,.int .i64 0] h λ_ h'=>h'=h:=by
 refine NX pf96 ?_
 refine ah (ak (by simp only[am,aC,↓reduceIte,Nat.reduceEqDiff,Int.reduceEq,Nat.reduceAdd,Nat.reduceLeDiff,reduceCtorEq,bI,fp (z:=0+1) (by decide) (by decide)]<;>rfl) ?_)
 refine bL (fI (λn ts h1=>h1=h∧cG ts 2=.int .i64 0∧cG ts 6=.int .i64 (0+1)) ?_ (n:=0) ⟨rfl,Ii0,Ii0⟩)
 rintro n ts h1 ⟨rfl,e2,e6⟩
 refine ah (ah (ak (M2 e2 e6) ?_))
 refine cj (by simp only[am,aC,simprocAttr]; rfl) ?_
 exact eX ⟨λ_=>⟨.tup [],rfl,rfl⟩,λe=>absurd rfl e⟩
theorem ES {h:AH}{l:Int}:C prg 81 [.nils,.int .i64 0,.int .i64 0,.int .i64 l] h λ_ h'=>h'=h:=by
 refine NX pf81 ?_
 refine ah (ak (Mi0) ?_)
 refine ah (ak (Mi0) ?_)
 refine bL (fI (λn ts h1=>h1=h∧cG ts 0=.nils∧cG ts 1=.int .i64 0∧cG ts 2=.int .i64 0) ?_ (n:=0) ⟨rfl,Zi0,Zi0,Zi0⟩)
 rintro n ts h1 ⟨rfl,e0,e1,e2⟩
 refine bL (ah (ak (by simp only[am,aC,simprocAttr,e1,e2,fp (z:=0-0) (by decide) (by decide)]<;>rfl) ?_))
 refine ah (ah (ak (M0) ?_))
 refine bq (by simp only[am,aC,simprocAttr]; rfl) ?_
 refine ah (bF (bg 3 (M3 e0 e1 e2) rfl (Z3 e0 e1 e2) (M3 e0 e1 e2) (FK) λv h2 u=>?_))
 subst u
 refine bp (M0) ?_
 exact aV ⟨.tup [],rfl,rfl⟩
theorem BD {h:AH}:C prg 58 [.nils] h λ_ h'=>h'=h:=by
 refine NX pf58 ?_
 refine ah (ak (Mi1 @nH) ?_)
 have wu:IntKind.u64.wrap 0=0:=by decide
 refine bF (bg 4 (Mi1 wu) rfl (Zi1 wu) (Mi1 wu) (pJ) λv h1 hq=>?_)
 obtain⟨rfl,rfl⟩:=hq
 refine mU (Zi0) (Mi0) (ES) λv h2 hq=>?_
 subst hq
 refine bp (M0) ?_
 exact⟨.tup [],rfl,rfl⟩
def iE (l:List Nat):List Nat:=l.mergeSort λa b=>decide (a≤b)
theorem lW (l:List Nat):(iE l).Perm l:=mT l _
theorem BE (l:List Nat):(iE l).Pairwise (·≤·):=by
 have:=jI (le:=λa b:Nat=>decide (a≤b)) (λa b c h1 h2=>by simp only[az] at *; omega) (λa b=>by simp only[bV,az]; omega) l
 exact this.imp λh=>cm h
theorem Fj (l:List Nat):nC l=(l.map λn=>((n:Nat):Int)).map (AV.int .i64):=by
 unfold nC
 generalize l.map (λn=>((n:Nat):Int))=zs
 induction zs with
 | nil=>rfl
 | cons z r ih=>rw[cX,aS,ih]; rfl
theorem Hg (l:List Nat):th (l.map λn=>((n:Nat):Int))=nC (iE l):=by
 rw[Fj]
 unfold th iE
 congr 1
 exact (List.map_mergeSort λa _ b _=>by rw[decide_eq_decide]; omega).symm
theorem DV {h:AH}{lo:Nat}{v:AV}{l:List Nat} (hv:IsSl h 1 lo v (nC l)) (hl:l.length<2 ^ 40) :
 C prg 58 [v] h λ_ h'=>IsSl h' 1 lo v (nC (iE l))∧(∀ c,(∀ n,v≠.sl c 0 n n)→h'.get c=h.get c)∧h'.next=h.next∧∀ c,h'.tyOf c=h.tyOf c:=by
 rcases hv with ⟨rfl,hz⟩|⟨b,n,h1,rfl,hg,hn⟩
 ·refine (BD (h:=h)).mono λ_ h' hq=>?_
  subst hq
  have hl0:l=[]:=by
   have:=congrArg List.length hz
   rw[fj] at this
   exact bk.1 this
  subst hl0
  exact⟨.inl ⟨rfl,by simp [iE,nC]⟩,λ_ _=>rfl,rfl,λ_=>rfl⟩
 ·rw[fj,aD] at hn
  have hs:(iE l).length=n:=by rw[(lW l).length_eq,hn]
  have hrd:aj h b 0 n=some ((l.map λn=>((n:Nat):Int)).map (AV.int .i64)):=by
   rw[aP hg,Fj,if_pos (by simp; omega),dz,eB (by simp; omega)]
  have hwr:bD h b 0 (th (l.map λn=>((n:Nat):Int)))=some (h.put b (.cells (nC (iE l)) 1 false)):=by
   rw[Hg,et hg,if_pos (by rw[fj,fj]; omega)]
   congr 3
   unfold dj
   rw[fl,cV,bM,dE (by rw[fj,fj]; omega),bZ]
  have u:=NW (o:=.cells (nC (iE l)) 1 false) hg
  exact BS.srt ps58 hrd hwr om ⟨_,_,rfl,.inr ⟨b,n,h1,rfl,u.get,by rw[fj]; omega⟩,λc hc=>u.ne λe=>hc n (by rw[e]),u.nx,u.ty⟩
theorem FN {h:AH}{v:AV}{xs:List Int}{P:Int→Bool}{k:FuncId}{caps:List AV} (J:Nat→AH→Prop) (K:Nat→AH→Prop) (hv:gD v=some (.int .i64 (xs.length:Nat))) (hl:xs.length<2 ^ 40) (h0:J 0 h) (hJ:∀ i h',J i h'→SlI h' v xs)
 (hf:∀ (i:Nat) (hi:i<xs.length) h',J i h'→C prg k ([.int .i64 xs[i]]++caps) h' λr h''=>r=.bool (P xs[i])∧(if P xs[i] then K i h'' else J (i+1) h'')) :
 C prg 65 [v,.fn k caps] h λr h'=>r=.int .i64 (jz P xs 0)∧((xs.any P=false∧J xs.length h')∨(xs.any P=true∧∃ i,K i h')):=by
 refine NX pf65 ?_
 refine ah (ak (Mi0) ?_)
 refine ah (ah (ak (Mi1 hv) ?_))
 refine ah (oI (λts h1=>jz P xs 0=-1∧J xs.length h1) (bL (fI (λn ts h1=>∃ i,n=xs.length-i∧i≤xs.length∧J i h1∧jz P (xs.drop i) i=jz P xs 0∧cG ts 0=v∧cG ts 1=.fn k caps∧cG ts 7=.int .i64 (xs.length:Nat)∧cG ts 8=.int .i64 (i:Nat)) ?_ (n:=xs.length) ⟨0,rfl,ff _,h0,by rw[dz],Zi0,Zi0,Zi1 @aW⟩)) ?_)
 ·rintro n ts h1 ⟨i,rfl,hi,ex,hF,e0,e1,e7,e8⟩
  refine ah (ak (M2 e7 e8) ?_)
  refine ah (jE (t:=decide (i<xs.length)) (Z1 @bw) (λq=>?_) λq=>?_)
  ·have q:i<xs.length:=cm q
   obtain⟨b,p,a1,r1,_,_⟩:=(hJ i h1 ex).at (dp (f:=eI) q)
   refine be (ah (bL (ah (ak (M1 e8) ?_))))
   have hc:=hf i q h1 ex
   refine ah (bF (mL 5 (by simp only[am,aC,simprocAttr,e0,e1,e7,e8,a1,r1,kG,eI]<;>rfl) rfl (by simp only[am,aC,simprocAttr,e0,e1,e7,e8,a1,r1,kG,eI]) (by simp only[am,aC,simprocAttr,e0,e1,e7,e8,a1,r1,kG,eI]<;>rfl) (by simp only[am,aC,simprocAttr,e0,e1,e7,e8,a1,r1,kG,eI]<;>rfl) (hc) λr h2 hq=>?_))
   obtain⟨rfl,ex2⟩:=hq
   refine bp (M0) ?_
   have hlo:=oz P xs 0
   refine jE (t:=P xs[i]) (Z0) (λq2=>?_) λq2=>?_
   ·rw[if_pos q2] at ex2
    refine ah (ak (M0) ?_)
    refine aV ⟨.int .i64 (i:Nat),(by simp only[rs,rf65,am,aC,simprocAttr]<;>rfl),?_,.inr ⟨List.any_eq_true.2 ⟨_,aO q,q2⟩,i,ex2⟩⟩
    rw[← hF,jd P q,if_pos q2]
   ·rw[if_neg (by simp [q2])] at ex2
    have w1:IntKind.i64.wrap (((i:Nat):Int)+1)=((i+1:Nat):Int):=fp om om
    refine be (ak (M2 e8 w1) ?_)
    refine⟨xs.length-(i+1),om,i+1,rfl,om,ex2,?_,Z1 e0,Z1 e1,Z1 e7,Z2 e8 w1⟩
    rw[← hF,jd P q,if_neg (by simp [q2])]
  ·have q:¬ i<xs.length:=eO q
   have e:i=xs.length:=om
   subst e
   refine eX ⟨λ_=>⟨?_,ex⟩,λe=>absurd rfl e⟩
   rw[← hF,dE om]
   rfl
 ·rintro ts h1 ⟨hF,ex⟩
  refine ah (ak (M0) ?_)
  refine aV ⟨.int .i64 (-1),(by simp only[rs,rf65,am,aC,simprocAttr]<;>rfl),by rw[hF],.inl ⟨?_,ex⟩⟩
  exact (oz P xs 0).2.1 om
theorem CZ {h:AH}{v:AV}{xs:List Int}{P:Int→Bool}{k:FuncId}{caps:List AV} (J:Nat→AH→Prop) (K:Nat→AH→Prop) (hv:gD v=some (.int .i64 (xs.length:Nat))) (hl:xs.length<2 ^ 40) (h0:J 0 h) (hJ:∀ i h',J i h'→SlI h' v xs)
 (hf:∀ (i:Nat) (hi:i<xs.length) h',J i h'→C prg k ([.int .i64 xs[i]]++caps) h' λr h''=>r=.bool (P xs[i])∧(if P xs[i] then K i h'' else J (i+1) h'')) :
 C prg 32 [v,.fn k caps] h λr h'=>r=.bool (xs.any P)∧((xs.any P=false∧J xs.length h')∨(xs.any P=true∧∃ i,K i h')):=by
 refine NX pf32 ?_
 refine ah (ak (Mi0) ?_)
 refine ah (bF (bg 2 (Mi0) rfl (Zi0) (Mi0) (FN J K hv hl h0 hJ hf) λr h2 hq=>?_))
 obtain⟨rfl,ex⟩:=hq
 have hb:decide ((0:Int)≤jz P xs 0)=xs.any P:=by
  have:=(oz P xs 0).2
  cases hq:xs.any P with
  | true=>rw[az]; rw[hq] at this; simp at this; omega
  | false=>rw[cQ]; have:=this.2 hq; omega
 refine bp (M1 hb) ?_
 exact aV ⟨_,(by simp only[rs,rf32,am,aC,simprocAttr]<;>rfl),rfl,ex⟩
end Go.Proofs.YthbmhbldmcbnpaaGreatDoor
namespace Go.Kur
theorem perm_of_sub {α:Type} [DecidableEq α]:∀ {l m:List α},l.Nodup→(∀ x∈l,x∈m)→m.length≤l.length→l.Perm m
 | [],m,_,_,h=>by
   have:m=[]:=bk.1 (by simpa using h)
   subst this
   exact .nil
 | a::l,m,hn,hs,h=>by
   have ha:=hs a (aK ..)
   obtain⟨h1,h2⟩:=bU.1 hn
   have hp:=List.perm_cons_erase ha
   refine (List.Perm.cons a (perm_of_sub h2 (λx hx=>?_) ?_)).trans hp.symm
   ·exact (List.mem_erase_of_ne (λ(e:x=a)=>h1 (by rw[← e]; exact hx))).2 (hs x (aM _ hx))
   ·rw[List.length_erase_of_mem ha]
    simp only[aR] at h
    omega
theorem len_le_of_sub {α:Type} [DecidableEq α]:∀ {l m:List α},l.Nodup→(∀ x∈l,x∈m)→l.length≤m.length
 | [],_,_,_=>ff _
 | a::l,m,hn,hs=>by
   have ha:=hs a (aK ..)
   obtain⟨h1,h2⟩:=bU.1 hn
   have:=len_le_of_sub (l:=l) (m:=m.erase a) h2 λx hx=>(List.mem_erase_of_ne (λ(e:x=a)=>h1 (by rw[← e]; exact hx))).2 (hs x (aM _ hx))
   rw[List.length_erase_of_mem ha] at this
   have hp:=List.length_pos_of_mem ha
   simp only[aR]
   omega
structure Gr where
 tl:Nat→Nat
 hd:Nat→Nat
 E:List Nat
 nd:E.Nodup
variable (g:Gr)
variable {g}
end Go.Kur
