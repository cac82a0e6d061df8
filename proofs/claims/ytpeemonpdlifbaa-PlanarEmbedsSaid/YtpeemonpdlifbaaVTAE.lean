/- The definition's side -/
import Derived.Test.YtpeemonpdlifbaaVTAD
set_option linter.all false
namespace Go.Proofs.Ytpeemonpdlifbaa
open Go.Am
theorem wU {h:AH}{n:Int}{ev:AV}{es:List (Int×Int)} (he:SlE h ev es):C prg 18 [.agg [.int .i64 n,ev]] h λr h'=>r=.bool (iP n es)∧Ext h.next h h':=by
 have el:=he.len
 rw[ae] at el
 obtain⟨ec,eo⟩:=he.cells
 refine KK pf18 ?_
 have x0:Ext h.next h (h.new (.cells [.int .i64 n,ev] 2 false)):=KH (ab _)
 have g0:(h.new (.cells [.int .i64 n,ev] 2 false)).get h.next=some (.cells [.int .i64 n,ev] 2 false):=by rw[AH.get_new,if_pos rfl]
 have n0:(h.new (.cells [.int .i64 n,ev] 2 false)).next=h.next+1:=rfl
 refine ai (au (Mi0) ?_)
 generalize h.new (.cells [.int .i64 n,ev] 2 false)=h0 at *
 have rn:ak h0 h.next 0 1=some [.int .i64 n]:=br g0 rfl
 have re:ak h0 h.next 1 1=some [ev]:=br g0 rfl
 by_cases q1:n<1
 ·have c1:decide (n<1)=true:=aM q1
  have hB:iP n es=false:=by
   have:decide (1≤n)=false:=aK om
   simp only[iP,this,fE]
  refine ai (ai (au (Mi2 rn c1) ?_))
  refine cE (Z0) (ai (au (M0) ?_))
  exact bM ⟨.bool false,(by simp only[rs,rf18,am,aH,simprocAttr]<;>rfl),by rw[hB],x0⟩
 have c1:decide (n<1)=false:=aK q1
 by_cases q2:64<n
 ·have c2:decide (64<n)=true:=aM q2
  have hB:iP n es=false:=by
   have:decide (n≤64)=false:=aK om
   simp only[iP,this,fk,fE]
  refine ai (ai (au (Mi3 rn c1 c2) ?_))
  refine cE (Z0) (ai (au (M0) ?_))
  exact bM ⟨.bool false,(by simp only[rs,rf18,am,aH,simprocAttr]<;>rfl),by rw[hB],x0⟩
 have c2:decide (64<n)=false:=aK q2
 by_cases q3:128<es.length
 ·have c3:decide ((128:Int)<((es.length:Nat):Int))=true:=aM om
  have hB:iP n es=false:=by
   have:decide (es.length≤128)=false:=aK om
   simp only[iP,this,fk,fE]
  refine ai (ai (au (Mi6 rn re el c1 c2 c3) ?_))
  refine cE (Z0) (ai (au (M0) ?_))
  exact bM ⟨.bool false,(by simp only[rs,rf18,am,aH,simprocAttr]<;>rfl),by rw[hB],x0⟩
 have c3:decide ((128:Int)<((es.length:Nat):Int))=false:=aK om
 have hB:iP n es=es.all (okE n):=by
  have d1:decide (1≤n)=true:=aM om
  have d2:decide (n≤64)=true:=aM om
  have d3:decide (es.length≤128)=true:=aM om
  simp only[iP,d1,d2,d3,yz]
 refine ai (ai (au (Mi6 rn re el c1 c2 c3) ?_))
 refine dn (Z0) (bH ?_)
 refine ai (ai (au (M0) ?_))
 refine fN (α:=Unit) (N:=es.length) (λk _=>[(1,.ptr h.next 0),(3,.int .i64 (k:Nat))]) (λk _ h'=>Ext (h.next+1) h0 h'∧(es.take k).all (okE n)=true) () (Oi1 @bg) ⟨KI,rfl⟩ ?_ ?_ ?_
 ·rintro k _ ts h1 hk ⟨jx,j1⟩ ⟨e1,e3,-⟩
  simp only at e1 e3
  have re1:ak h1 h.next 1 1=some [ev]:=by rw[cF (jx.gt _ om)]; exact re
  exact⟨_,(J5 e1 e3 re1 el @cx),I0,O2 e1 e3⟩
 ·rintro k _ ts h1 hk ⟨jx,j1⟩ ⟨e1,e3,-⟩
  simp only at e1 e3
  have re1:ak h1 h.next 1 1=some [ev]:=by rw[cF (jx.gt _ om)]; exact re
  have jn:=jx.nx
  have X1:Ext h.next h h1:=x0.trans (jx.mono om)
  obtain⟨b1,p1,a1,r4,_⟩:=(he.ext X1 (ab _)).at (fR (f:=eE) hk)
  obtain⟨h2,w2,x2,g2,n2⟩:=gH (h:=h1) (z:=[.int .i64 0,.int .i64 0]) (cs:=[.int .i64 es[k].1,.int .i64 es[k].2]) (e:=2) rfl
  refine ai (au (by simp only[am,aH,simprocAttr,e1,e3,re1,a1,r4,eE,w2]<;>rfl) ?_)
  have ra:ak h2 h1.next 0 1=some [.int .i64 es[k].1]:=br g2 rfl
  have rb:ak h2 h1.next 1 1=some [.int .i64 es[k].2]:=br g2 rfl
  have rn2:ak h2 h.next 0 1=some [.int .i64 n]:=by rw[cF (x2.gt _ om),cF (jx.gt _ om)]; exact rn
  have w1:=nZ (k:=k) om
  have Y2:Ext (h.next+1) h0 h2:=jx.trans (x2.mono om)
  have X2:Ext h.next h h2:=X1.trans (x2.mono X1.nx)
  have bad:okE n es[k]=false→iP n es=false:=λhb=>by
   rw[hB]
   cases hh:es.all (okE n) with
   | false=>rfl
   | true=>rw[cr.1 hh _ (bj hk)] at hb; cases hb
  by_cases p1:es[k].1<0
  ·have d1:decide (es[k].1<0)=true:=aM p1
   have hb:=bad (by have:decide (0≤es[k].1)=false:=aK om
                    simp only[okE,this,fE])
   refine ai (au (M2 ra d1) ?_)
   refine cE (Z0) (ai (au (M0) ?_))
   exact bM ⟨.bool false,(by simp only[rs,rf18,am,aH,simprocAttr]<;>rfl),by rw[hb],X2⟩
  have d1:decide (es[k].1<0)=false:=aK p1
  by_cases p2:es[k].2<0
  ·have d2:decide (es[k].2<0)=true:=aM p2
   have hb:=bad (by have:decide (0≤es[k].2)=false:=aK om
                    simp only[okE,this,fE,fk])
   refine ai (au (M4 ra rb d1 d2) ?_)
   refine cE (Z0) (ai (au (M0) ?_))
   exact bM ⟨.bool false,(by simp only[rs,rf18,am,aH,simprocAttr]<;>rfl),by rw[hb],X2⟩
  have d2:decide (es[k].2<0)=false:=aK p2
  by_cases p3:n≤es[k].1
  ·have d3:decide (n≤es[k].1)=true:=aM p3
   have hb:=bad (by have:decide (es[k].1<n)=false:=aK om
                    simp only[okE,this,fE,fk])
   refine ai (au (M7 ra rb rn2 e1 d1 d2 d3) ?_)
   refine cE (Z0) (ai (au (M0) ?_))
   exact bM ⟨.bool false,(by simp only[rs,rf18,am,aH,simprocAttr]<;>rfl),by rw[hb],X2⟩
  have d3:decide (n≤es[k].1)=false:=aK p3
  by_cases p4:n≤es[k].2
  ·have d4:decide (n≤es[k].2)=true:=aM p4
   have hb:=bad (by have:decide (es[k].2<n)=false:=aK om
                    simp only[okE,this,fk])
   refine ai (au (M8 ra rb rn2 e1 d1 d2 d3 d4) ?_)
   refine cE (Z0) (ai (au (M0) ?_))
   exact bM ⟨.bool false,(by simp only[rs,rf18,am,aH,simprocAttr]<;>rfl),by rw[hb],X2⟩
  have d4:decide (n≤es[k].2)=false:=aK p4
  refine ai (au (M8 ra rb rn2 e1 d1 d2 d3 d4) ?_)
  refine dn (I0) (bH ⟨(),⟨Y2,?_⟩,_,(J2 e3 w1),O1 e1⟩)
  rw[dN hk,List.all_append,j1]
  have f1:decide (0≤es[k].1)=true:=aM om
  have f2:decide (0≤es[k].2)=true:=aM om
  have f3:decide (es[k].1<n)=true:=aM om
  have f4:decide (es[k].2<n)=true:=aM om
  simp only[jE,List.all_nil,okE,f1,f2,f3,f4,Bool.and_self]
 ·rintro _ ts h1 ⟨jx,j1⟩ ⟨e1,e3,-⟩
  rw[dI] at j1
  refine ai (au (M0) ?_)
  exact bM ⟨.bool true,(by simp only[rs,rf18,am,aH,simprocAttr]<;>rfl),by rw[hB,j1],x0.trans (jx.mono (by have:=x0.nx; omega))⟩
open Go.Am
def bl (n:Nat) (p:Nat→Bool):List AV:=(List.range n).map λi=>.bool (p i)
def il (n:Nat) (f:Nat→Int):List AV:=(List.range n).map λi=>.int .i64 (f i)
theorem jm (n:Nat) (p:Nat→Bool):(bl n p).length=n:=by simp [bl]
theorem pn (n:Nat) (f:Nat→Int):(il n f).length=n:=by simp [il]
theorem gZ {n i:Nat}{p:Nat→Bool} (h:i<n):(bl n p)[i]?=some (.bool (p i)):=by
 unfold bl
 rw[aF,fq h]
 rfl
theorem kU {n i:Nat}{f:Nat→Int} (h:i<n):(il n f)[i]?=some (.int .i64 (f i)):=by
 unfold il
 rw[aF,fq h]
 rfl
theorem kD {n i:Nat}{p:Nat→Bool}{b:Bool}:(bl n p).set i (.bool b)=bl n λj=>if j=i then b else p j:=by
 refine eC λj=>?_
 rw[dW,jm]
 by_cases hj:j<n
 ·rw[gZ hj,gZ hj]
  by_cases e:i=j
  ·subst e; simp [hj]
  ·rw[if_neg e,if_neg (λq=>e q.symm)]
 ·rw[cn (l:=bl n p) (by rw[jm]; omega),cn (by rw[jm]; omega)]
  split
  ·rw[if_neg om]
  ·rfl
theorem Fu {n i:Nat}{f:Nat→Int}{b:Int}:(il n f).set i (.int .i64 b)=il n λj=>if j=i then b else f j:=by
 refine eC λj=>?_
 rw[dW,pn]
 by_cases hj:j<n
 ·rw[kU hj,kU hj]
  by_cases e:i=j
  ·subst e; simp [hj]
  ·rw[if_neg e,if_neg (λq=>e q.symm)]
 ·rw[cn (l:=il n f) (by rw[pn]; omega),cn (by rw[pn]; omega)]
  split
  ·rw[if_neg om]
  ·rfl
theorem mX (n:Nat):cI [AV.bool false] n=bl n λ_=>false:=by
 rw[jR]
 unfold bl
 rw[List.map_const',bV]
theorem vJ (n:Nat):cI [AV.int .i64 0] n=il n λ_=>0:=by
 rw[jR]
 unfold il
 rw[List.map_const',bV]
theorem mM {n:Nat}{p q:Nat→Bool} (h:∀ i,i<n→p i=q i):bl n p=bl n q:=by
 unfold bl
 exact df λi hi=>by rw[h i (aE.1 hi)]
theorem xM {n:Nat}{p q:Nat→Int} (h:∀ i,i<n→p i=q i):il n p=il n q:=by
 unfold il
 exact df λi hi=>by rw[h i (aE.1 hi)]
end Go.Proofs.Ytpeemonpdlifbaa
namespace Go.Blk
structure Gr where
 m:Nat
 n:Nat
 tl:Nat→Nat
 hd:Nat→Nat
 ok:∀ i,i<m→tl i<n∧hd i<n∧tl i≠hd i
variable {g:Gr}
def Gr.oth (g:Gr) (i x:Nat):Nat:=g.tl i+g.hd i-x
def Gr.inc (g:Gr) (i x:Nat):Prop:=i<g.m∧(g.tl i=x∨g.hd i=x)
instance (i x:Nat):Decidable (g.inc i x):=by unfold Gr.inc; infer_instance
theorem inc_lt {i x:Nat} (h:g.inc i x):x<g.n:=by
 obtain⟨h1,h2⟩:=h
 have:=g.ok i h1
 rcases h2 with rfl|rfl
 ·exact this.1
 ·exact this.2.1
theorem inc_oth {i x:Nat} (h:g.inc i x):g.inc i (g.oth i x)∧g.oth i x≠x∧g.oth i (g.oth i x)=x:=by
 obtain⟨h1,h2⟩:=h
 have:=g.ok i h1
 unfold Gr.inc Gr.oth
 rcases h2 with rfl|rfl
 ·exact⟨⟨h1,.inr om⟩,om,om⟩
 ·exact⟨⟨h1,.inl om⟩,om,om⟩
theorem fH {i x y:Nat} (hx:g.inc i x) (hy:g.inc i y) (hne:y≠x):y=g.oth i x:=by
 obtain⟨h1,h2⟩:=hx
 obtain⟨_,h3⟩:=hy
 have:=g.ok i h1
 unfold Gr.oth
 omega
inductive Conn (g:Gr) (S:Nat→Prop):Nat→Nat→Prop
 | refl {u:Nat}:S u→Conn g S u u
 | step {u v i:Nat}:Conn g S u v→g.inc i v→S (g.oth i v)→Conn g S u (g.oth i v)
theorem Conn.right {S:Nat→Prop}{u v:Nat} (h:Conn g S u v):S v:=by
 cases h with
 | refl h=>exact h
 | step _ _ h=>exact h
theorem Conn.trans {S:Nat→Prop}{u v w:Nat} (h1:Conn g S u v) (h2:Conn g S v w):Conn g S u w:=by
 induction h2 with
 | refl _=>exact h1
 | step _ a b ih=>exact .step ih a b
theorem Conn.edge {S:Nat→Prop}{u i:Nat} (hu:S u) (hi:g.inc i u) (hv:S (g.oth i u)):Conn g S u (g.oth i u):=.step (.refl hu) hi hv
theorem Conn.symm {S:Nat→Prop}{u v:Nat} (h:Conn g S u v):Conn g S v u:=by
 induction h with
 | refl h=>exact .refl h
 | @step v i h1 h2 h3 ih =>
   obtain⟨a,b,c⟩:=inc_oth h2
   have:=Conn.edge (S:=S) h3 a (by rw[c]; exact h1.right)
   rw[c] at this
   exact this.trans ih
theorem Conn.mono {S S':Nat→Prop}{u v:Nat} (h:Conn g S u v) (hs:∀ z,S z→S' z):Conn g S' u v:=by
 induction h with
 | refl h=>exact .refl (hs _ h)
 | step _ a b ih=>exact .step ih a (hs _ b)
theorem Conn.stays {S T:Nat→Prop}{u v:Nat} (h:Conn g S u v) (ht:∀ u i,T u→g.inc i u→S (g.oth i u)→T (g.oth i u)) (hu:T u):T v:=by
 induction h with
 | refl _=>exact hu
 | step _ a b ih=>exact ht _ _ ih a b
def Rel (g:Gr) (i k:Nat):Prop:=∃ x,g.inc i x∧g.inc k x∧Conn g (·≠x) (g.oth i x) (g.oth k x)
theorem Rel.symm {i k:Nat} (h:Rel g i k):Rel g k i:=by
 obtain⟨x,a,b,c⟩:=h
 exact⟨x,b,a,c.symm⟩
inductive Cls (g:Gr):Nat→Nat→Prop
 | refl {i:Nat}:Cls g i i
 | step {i j k:Nat}:Cls g i j→Rel g j k→Cls g i k
theorem Cls.trans {i j k:Nat} (h1:Cls g i j) (h2:Cls g j k):Cls g i k:=by
 induction h2 with
 | refl=>exact h1
 | step _ b ih=>exact .step ih b
theorem Cls.one {i k:Nat} (h:Rel g i k):Cls g i k:=.step .refl h
theorem Cls.symm {i k:Nat} (h:Cls g i k):Cls g k i:=by
 induction h with
 | refl=>exact .refl
 | step _ b ih=>exact (Cls.one b.symm).trans ih
def IsBlock (g:Gr) (b:List Nat):Prop:=b≠[]∧(∀ i∈b,∀ k∈b,Cls g i k)∧∀ i∈b,∀ k,Rel g i k→k∈b
theorem IsBlock.cls {b:List Nat} (h:IsBlock g b) {i k:Nat} (hi:i∈b) (hk:Cls g i k):k∈b:=by
 induction hk with
 | refl=>exact hi
 | step _ r ih=>exact h.2.2 _ ih _ r
structure DS where
 num:Nat→Nat
 low:Nat→Nat
 cnt:Nat
 stk:List Nat
 blk:List (List Nat)
def upd (f:Nat→Nat) (x v:Nat):Nat→Nat:=λz=>if z=x then v else f z
theorem upd_same {f:Nat→Nat}{x v:Nat}:upd f x v x=v:=if_pos rfl
theorem upd_ne {f:Nat→Nat}{x v z:Nat} (h:z≠x):upd f x v z=f z:=if_neg h
def DS.close (sort:List Nat→List Nat) (s:DS) (i:Nat):DS:={ s with blk:=s.blk++[sort (s.stk.drop (s.stk.idxOf i))],stk:=s.stk.take (s.stk.idxOf i)}
def enter (x:Nat) (s:DS):DS:={ s with cnt:=s.cnt+1,num:=upd s.num x (s.cnt+1),low:=upd s.low x (s.cnt+1)}
def edgeS (g:Gr) (sort:List Nat→List Nat) (vis:Nat→Nat→DS→DS) (x:Nat) (by_:Option Nat) (s:DS) (i:Nat):DS :=
 if by_=some i then s
 else if s.num (g.oth i x)=0 then
  let s2:=vis (g.oth i x) i { s with stk:=s.stk++[i]}
  let s3:DS:={ s2 with low:=upd s2.low x (min (s2.low x) (s2.low (g.oth i x)))}
  if s3.num x≤s3.low (g.oth i x) then s3.close sort i else s3
 else if s.num (g.oth i x)<s.num x then { s with stk:=s.stk++[i],low:=upd s.low x (min (s.low x) (s.num (g.oth i x)))}
 else s
def visit (g:Gr) (ends:Nat→List Nat) (sort:List Nat→List Nat):Nat→Nat→Option Nat→DS→DS
 | 0,_,_,s=>s
 | f+1,x,by_,s=>(ends x).foldl (edgeS g sort (λy i s=>visit g ends sort f y (some i) s) x by_) (enter x s)
def unm (g:Gr) (s:DS):Nat:=(List.range g.n).countP λv=>s.num v==0
theorem jw {α:Type}{p q:α→Bool}:∀ {l:List α},(∀ x∈l,p x=true→q x=true)→l.countP p≤l.countP q
 | [],_=>ab _
 | a::l,h=>by
   have ih:=jw (l:=l) λx hx=>h x (bt _ hx)
   rw[cL,cL]
   have ha:=h a (bA ..)
   cases hp:p a with
   | true=>rw[ha hp]; simp; exact ih
   | false=>cases q a<;>simp<;>omega
theorem lL {α:Type}{p q:α→Bool}:∀ {l:List α}{a:α},(∀ x∈l,p x=true→q x=true)→a∈l→p a=false→q a=true→l.countP p<l.countP q
 | [],a,_,hm,_,_=>by cases hm
 | b::l,a,h,hm,hp,hq=>by
   rw[cL,cL]
   rcases aw.1 hm with rfl|hm
   ·have:=jw (l:=l) λx hx=>h x (bt _ hx)
    rw[hp,hq]
    simp
    omega
   ·have ih:=lL (l:=l) (λx hx=>h x (bt _ hx)) hm hp hq
    have hb:=h b (bA ..)
    cases hp':p b with
    | true=>rw[hb hp']; simp; omega
    | false=>cases q b<;>simp<;>omega
theorem JD {s s':DS} (h:∀ v,s.num v≠0→s'.num v≠0):unm g s'≤unm g s:=by
 refine jw λv _ hv=>?_
 have hv:s'.num v=0:=by simpa using hv
 have:s.num v=0:=Decidable.byContradiction λhc=>h v hc hv
 simp [this]
theorem yC {s s':DS} (h:∀ v,s.num v≠0→s'.num v≠0) {x:Nat} (hx:x<g.n) (h0:s.num x=0) (h1:s'.num x≠0):unm g s'<unm g s:=by
 refine lL (a:=x) (λv _ hv=>?_) (aE.2 hx) (by simpa using h1) (by simpa using h0)
 have hv:s'.num v=0:=by simpa using hv
 have:s.num v=0:=Decidable.byContradiction λhc=>h v hc hv
 simp [this]
section
variable (m n:Nat) (tl hd:Nat→Nat) (c:Nat→Bool)
def goE (s:Nat→Bool) (i:Nat):Nat→Bool:=if c i=true∧(s (tl i)=true∨s (hd i)=true) then λv=>decide (v=tl i)||(decide (v=hd i)||s v) else s
def goP (s:Nat→Bool):Nat→Bool:=(List.range m).foldl (goE tl hd c) s
def goN:Nat→(Nat→Bool)→Nat→Bool
 | 0,s=>s
 | k+1,s=>goP m tl hd c (goN k s)
inductive RC:Nat→Nat→Prop
 | refl {u:Nat}:RC u u
 | one {u v i:Nat}:RC u v→i<m→c i=true→tl i=v→RC u (hd i)
 | two {u v i:Nat}:RC u v→i<m→c i=true→hd i=v→RC u (tl i)
end
section
variable {m n:Nat}{tl hd:Nat→Nat}{c:Nat→Bool}
theorem FA {s:Nat→Bool}{i v:Nat} (h:s v=true):goE tl hd c s i v=true:=by
 unfold goE
 split
 ·simp [h]
 ·exact h
theorem vL:∀ (l:List Nat) {s:Nat→Bool}{v:Nat},s v=true→l.foldl (goE tl hd c) s v=true
 | [],_,_,h=>h
 | _::l,_,_,h=>vL l (FA h)
theorem zu {s:Nat→Bool}{v:Nat} (h:s v=true):goP m tl hd c s v=true:=vL _ h
theorem AW {f:Nat}:∀ (l:List Nat) {s:Nat→Bool},(∀ i∈l,i<m)→(∀ v,s v=true→RC m tl hd c f v)→∀ v,l.foldl (goE tl hd c) s v=true→RC m tl hd c f v
 | [],_,_,h=>h
 | i::l,s,hl,h=>by
   refine AW l (λk hk=>hl k (bt _ hk)) λv hv=>?_
   unfold goE at hv
   split at hv
   ·rename_i hc
    simp only[cD,aJ] at hv
    rcases hv with rfl|rfl|hv
    ·rcases hc.2 with q|q
     ·exact h _ q
     ·exact .two (h _ q) (hl i (bA ..)) hc.1 rfl
    ·rcases hc.2 with q|q
     ·exact .one (h _ q) (hl i (bA ..)) hc.1 rfl
     ·exact h _ q
    ·exact h v hv
   ·exact h v hv
theorem zw {f:Nat}{s:Nat→Bool} (h:∀ v,s v=true→RC m tl hd c f v):∀ k v,goN m tl hd c k s v=true→RC m tl hd c f v
 | 0=>h
 | k+1=>AW _ (λi hi=>aE.1 hi) (zw h k)
def Shut (m:Nat) (tl hd:Nat→Nat) (c:Nat→Bool) (s:Nat→Bool):Prop:=∀ i,i<m→c i=true→s (tl i)=s (hd i)
theorem tZ:∀ (l:List Nat) {s:Nat→Bool},(∀ v,l.foldl (goE tl hd c) s v=true→s v=true)→∀ i∈l,c i=true→s (tl i)=s (hd i)
 | [],_,_,i,hi,_=>by cases hi
 | k::l,s,h,i,hi,hc=>by
   have e1:∀ v,goE tl hd c s k v=s v:=λv=>by
    rw[dA]
    exact⟨λhv=>h v (vL l hv),FA⟩
   rcases aw.1 hi with rfl|hi
   ·rw[dA]
    constructor
    ·intro q
     rw[← e1 (hd i)]
     unfold goE
     rw[if_pos ⟨hc,.inl q⟩]
     simp
    ·intro q
     rw[← e1 (tl i)]
     unfold goE
     rw[if_pos ⟨hc,.inr q⟩]
     simp
   ·have e2:goE tl hd c s k=s:=funext e1
    refine tZ l (s:=s) (λv hv=>h v ?_) i hi hc
    show l.foldl (goE tl hd c) (goE tl hd c s k) v=true
    rw[e2]; exact hv
def cnt (n:Nat) (s:Nat→Bool):Nat:=(List.range n).countP s
theorem Kk {s:Nat→Bool}:cnt n s≤n:=cM fT (by simp)
theorem Shut.rc {s:Nat→Bool} (hs:Shut m tl hd c s) {u v:Nat} (h:RC m tl hd c u v) (hu:s u=true):s v=true:=by
 induction h with
 | refl=>exact hu
 | one _ a b e ih=>rw[← hs _ a b,e]; exact ih
 | two _ a b e ih=>rw[hs _ a b,e]; exact ih
theorem xQ (ht:∀ i,i<m→tl i<n∧hd i<n) {s:Nat→Bool} (hs:∀ v,s v=true→v<n):∀ k,Shut m tl hd c (goN m tl hd c k s)∨cnt n s+k≤cnt n (goN m tl hd c k s)
 | 0=>.inr (ab _)
 | k+1=>by
   have hin:∀ k v,goN m tl hd c k s v=true→v<n:=by
    intro k
    induction k with
    | zero=>exact hs
    | succ k ih =>
      have:∀ (l:List Nat) (s:Nat→Bool),(∀ i∈l,i<m)→(∀ v,s v=true→v<n)→∀ v,l.foldl (goE tl hd c) s v=true→v<n:=by
       intro l
       induction l with
       | nil=>intro s _ h; exact h
       | cons i l ihl =>
         intro s hl h
         refine ihl _ (λk hk=>hl k (bt _ hk)) λv hv=>?_
         unfold goE at hv
         have:=ht i (hl i (bA ..))
         split at hv
         ·simp only[cD,aJ] at hv
          rcases hv with rfl|rfl|hv
          ·exact this.1
          ·exact this.2
          ·exact h v hv
         ·exact h v hv
      exact this _ _ (λi hi=>aE.1 hi) ih
   by_cases q:∀ v,goP m tl hd c (goN m tl hd c k s) v=true→goN m tl hd c k s v=true
   ·left
    have e:goP m tl hd c (goN m tl hd c k s)=goN m tl hd c k s:=funext λv=>by
     rw[dA]
     exact⟨q v,zu⟩
    show Shut m tl hd c (goP m tl hd c (goN m tl hd c k s))
    rw[e]
    exact λi hi hc=>tZ _ q i (aE.2 hi) hc
   ·right
    have ⟨v,hv⟩:=Classical.not_forall.1 q
    have ⟨h1,h2⟩:=Classical.not_imp.1 hv
    have hlt:cnt n (goN m tl hd c k s)<cnt n (goN m tl hd c (k+1) s) :=
     lL (a:=v) (λx _ hx=>zu hx) (aE.2 (hin (k+1) v h1)) (by simpa using h2) h1
    rcases xQ ht hs k with h|h
    ·exfalso
     apply h2
     have:=zw (m:=m) (tl:=tl) (hd:=hd) (c:=c) (f:=v) (s:=goN m tl hd c k s)
     have e:∀ (l:List Nat),(∀ i∈l,i<m)→l.foldl (goE tl hd c) (goN m tl hd c k s)=goN m tl hd c k s:=by
      intro l
      induction l with
      | nil=>intro _; rfl
      | cons i l ihl =>
        intro hl
        have e1:goE tl hd c (goN m tl hd c k s) i=goN m tl hd c k s:=by
         unfold goE
         split
         ·rename_i hc
          have hh:=h i (hl i (bA ..)) hc.1
          funext w
          rw[dA]
          simp only[cD,aJ]
          constructor
          ·rintro (rfl|rfl|q)
           ·rcases hc.2 with q|q
            ·exact q
            ·rw[hh]; exact q
           ·rcases hc.2 with q|q
            ·rw[← hh]; exact q
            ·exact q
           ·exact q
          ·exact λq=>.inr (.inr q)
         ·rfl
        rw[fw,e1]
        exact ihl λk hk=>hl k (bt _ hk)
     have:=e (List.range m) λi hi=>aE.1 hi
     rw[← this]
     exact h1
    ·omega
theorem go_ok (ht:∀ i,i<m→tl i<n∧hd i<n) {f:Nat} (hf:f<n) (v:Nat):goN m tl hd c n (λv=>decide (v=f)) v=true↔RC m tl hd c f v:=by
 constructor
 ·exact zw (λv hv=>by rw[du hv]; exact .refl) n v
 ·intro h
  have hs:Shut m tl hd c (goN m tl hd c n λv=>decide (v=f)):=by
   rcases xQ (c:=c) ht (s:=λv=>decide (v=f)) (λv hv=>by rw[du hv]; exact hf) n with h|h
   ·exact h
   ·have h1:0<cnt n (λv=>decide (v=f)):=by
     unfold cnt
     rw[yw]
     exact⟨f,aE.2 hf,by simp⟩
    have h2:=Kk (n:=n) (s:=goN m tl hd c n λv=>decide (v=f))
    omega
  refine hs.rc h ?_
  have:∀ k,goN m tl hd c k (λv=>decide (v=f)) f=true:=by
   intro k
   induction k with
   | zero=>simp [goN]
   | succ k ih=>exact zu ih
  exact this n
end
variable {g:Gr}
structure Lst (g:Gr) (l:Nat→Nat):Prop where
 cls:∀ i,i<g.m→Cls g i (l i)
 le:∀ i,i<g.m→l i≤i
 same:∀ i k,i<g.m→k<g.m→Rel g i k→l i=l k
theorem zG {i k:Nat} (h:Cls g i k) (hi:i<g.m):k<g.m:=by
 induction h with
 | refl=>exact hi
 | step _ r _=>obtain⟨x,_,b,_⟩:=r; exact b.1
theorem Lst.eqc {l:Nat→Nat} (h:Lst g l) {i k:Nat} (hi:i<g.m) (hc:Cls g i k):l i=l k:=by
 induction hc with
 | refl=>rfl
 | step a r ih=>exact ih.trans (h.same _ _ (zG a hi) (by obtain⟨x,_,b,_⟩:=r; exact b.1) r)
theorem Lst.uniq {l l':Nat→Nat} (h:Lst g l) (h':Lst g l') {i:Nat} (hi:i<g.m):l i=l' i:=by
 have a:l i≤l' i:=by
  rw[h.eqc hi (h'.cls i hi)]
  exact h.le _ (zG (h'.cls i hi) hi)
 have b:l' i≤l i:=by
  rw[h'.eqc hi (h.cls i hi)]
  exact h'.le _ (zG (h.cls i hi) hi)
 omega
theorem Lst.iff {l:Nat→Nat} (h:Lst g l) {i k:Nat} (hi:i<g.m) (hk:k<g.m):l i=l k↔Cls g i k:=by
 refine⟨λe=>?_,h.eqc hi⟩
 have:=(h.cls k hk).symm
 rw[← e] at this
 exact (h.cls i hi).trans this
def canon (m:Nat) (l:Nat→Nat):List (List Nat):=((List.range m).filter λi=>l i==i).map λi=>(List.range m).filter λk=>l k==i
theorem canon_congr {m:Nat}{l l':Nat→Nat} (h:∀ i,i<m→l i=l' i):canon m l=canon m l':=by
 unfold canon
 have e1:((List.range m).filter λi=>l i==i)=(List.range m).filter λi=>l' i==i:=List.filter_congr λi hi=>by rw[h i (aE.1 hi)]
 rw[e1]
 refine df λi _=>?_
 exact List.filter_congr λk hk=>by rw[h k (aE.1 hk)]
end Go.Blk
namespace Go.Proofs.Ytpeemonpdlifbaa
open Go.Am
def gW (n:Nat) (ev:AV):List AV:=[.int .i64 (n:Nat),ev]
set_option maxHeartbeats 1000000 in
theorem Ca {h:AH}{n:Nat}{ev:AV}{E:List (Int×Int)} (he:SlE h ev E) (hxl:E.length<2 ^ 40) :
 C prg 44 [.agg (gW n ev)] h λr h'=>∃ b,r=.sl b 0 E.length E.length∧h.next≤b∧Ext h.next h h'∧h'.get b=some (.cells (bl E.length λ_=>true) 1 false):=by
 have el:=he.len
 rw[ae] at el
 obtain⟨ec,eo⟩:=he.cells
 unfold gW
 refine KK pf44 ?_
 refine ai (au (Mi0) ?_)
 have ga:∀ c,(h.new (.cells [.int .i64 (n:Nat),ev] 2 false)).get c=if c=h.next then some (.cells [.int .i64 (n:Nat),ev] 2 false) else h.get c:=λc=>by
  rw[AH.get_new]
 have x0:Ext h.next h (h.new (.cells [.int .i64 (n:Nat),ev] 2 false)):=KH (ab _)
 have n0:(h.new (.cells [.int .i64 (n:Nat),ev] 2 false)).next=h.next+1:=rfl
 generalize (h.new (.cells [.int .i64 (n:Nat),ev] 2 false))=h1 at *
 have gA:h1.get h.next=some (.cells [.int .i64 (n:Nat),ev] 2 false):=by rw[ga,if_pos rfl]
 have rA:ak h1 h.next 1 1=some [ev]:=br gA rfl
 have mu:=mC (h:=h1) (z:=[.bool false]) (e:=1) (bytes:=1) (n:=E.length) (by unfold aU; omega) (by unfold aU; omega)
 have x3:Ext h1.next h1 (h1.new (.cells (cI [.bool false] E.length) 1 false)):=KH (ab _)
 have g3:(h1.new (.cells (cI [.bool false] E.length) 1 false)).get h1.next=some (.cells (cI [.bool false] E.length) 1 false):=by rw[AH.get_new,if_pos rfl]
 have n3:(h1.new (.cells (cI [.bool false] E.length) 1 false)).next=h1.next+1:=rfl
 refine ai (au (Mi3 rA el mu) ?_)
 generalize (h1.new (.cells (cI [.bool false] E.length) 1 false))=h2 at *
 rw[mX,n0] at g3
 rw[n0] at x3 n3
 clear mu
 have X2:Ext h.next h h2:=x0.trans (x3.mono om)
 refine ai (ai (au (Mi1 n0) ?_))
 refine fN (α:=Unit) (N:=E.length) (λk _=>[(3,.sl (h.next+1) 0 E.length E.length),(4,.int .i64 (k:Nat))])
  (λk _ h'=>Ext h.next h h'∧h'.get (h.next+1)=some (.cells (bl E.length λi=>decide (i<k)) 1 false)) () (Hi2 n0 @bg)
  ⟨X2,by rw[g3]; simp⟩ ?_ ?_ ?_
 ·rintro k _ ts h5 hk ⟨jx,j⟩ ⟨e3,e4,-⟩
  simp only at e3 e4
  exact⟨_,(M3 e3 e4 @cx),Z0,H2 e3 e4⟩
 ·rintro k _ ts h5 hk ⟨jx,j⟩ ⟨e3,e4,-⟩
  simp only at e3 e4
  have i1:fL ((k:Nat):Int) E.length=some k:=dE hk
  have w1:=nZ (k:=k) om
  have wu:=gj (v:=.bool true) j (i:=k) (by rw[jm]; exact hk)
  have uu:=KJ (o:=.cells ((bl E.length λi=>decide (i<k)).set k (.bool true)) 1 false) j
  refine au (M5 e3 e4 i1 @aP wu) ?_
  refine⟨(),⟨jx.trans (uu.ext om),?_⟩,_,(M2 e4 w1),H1 e3⟩
  rw[uu.get,kD]
  congr 2
  refine mM λi _=>?_
  by_cases e:i=k
  ·subst e; simp
  ·rw[if_neg e]
   exact decide_eq_decide.2 om
 ·rintro _ ts h5 ⟨jx,j⟩ ⟨e3,e4,-⟩
  simp only at e3
  refine ai (au (M1 e3) ?_)
  refine bM ⟨_,(by simp only[rs,rf44,am,aH,simprocAttr]<;>rfl),_,rfl,om,jx,?_⟩
  rw[j]
  congr 2
  exact mM λi hi=>aM hi
def tlE (E:List (Int×Int)) (i:Nat):Nat:=((E.getD i (0,0)).1).toNat
def hdE (E:List (Int×Int)) (i:Nat):Nat:=((E.getD i (0,0)).2).toNat
def InG (n:Nat) (E:List (Int×Int)):Prop:=∀ i (hi:i<E.length),E[i]=(((tlE E i:Nat):Int),((hdE E i:Nat):Int))∧tlE E i<n∧hdE E i<n
theorem nA {β:Type} (f:β→Nat→β) (s:β) (k:Nat):(List.range (k+1)).foldl f s=f ((List.range k).foldl f s) k:=by
 rw[bW,fI]
 rfl
open Go.Blk (goE goP goN) in
set_option maxHeartbeats 2000000 in
theorem JN {h:AH}{n f cb:Nat}{ev:AV}{E:List (Int×Int)}{c:Nat→Bool} (he:SlE h ev E) (hE:InG n E) (hxl:E.length<2 ^ 40) (hnl:n<2 ^ 40) (hf:f<n)
 (hc:h.get cb=some (.cells (bl E.length c) 1 false)) :
 C prg 45 [.agg (gW n ev),.int .i64 (f:Nat),.bool true,.sl cb 0 E.length E.length] h λr h'=>∃ b,r=.sl b 0 n n∧h.next≤b∧Ext h.next h h'∧h'.get b=some (.cells (bl n (goN E.length (tlE E) (hdE E) c n λv=>decide (v=f))) 1 false):=by
 have el:=he.len
 rw[ae] at el
 obtain⟨ec,eo⟩:=he.cells
 have hcl:=AH.lt_of_get hc
 unfold gW
 refine KK pf45 ?_
 refine ai (au (Mi0) ?_)
 have ga:∀ c,(h.new (.cells [.int .i64 (n:Nat),ev] 2 false)).get c=if c=h.next then some (.cells [.int .i64 (n:Nat),ev] 2 false) else h.get c:=λc=>by
  rw[AH.get_new]
 have x0:Ext h.next h (h.new (.cells [.int .i64 (n:Nat),ev] 2 false)):=KH (ab _)
 have n0:(h.new (.cells [.int .i64 (n:Nat),ev] 2 false)).next=h.next+1:=rfl
 generalize (h.new (.cells [.int .i64 (n:Nat),ev] 2 false))=h1 at *
 have gA:h1.get h.next=some (.cells [.int .i64 (n:Nat),ev] 2 false):=by rw[ga,if_pos rfl]
 have rN:ak h1 h.next 0 1=some [.int .i64 (n:Nat)]:=br gA rfl
 have mu:=mC (h:=h1) (z:=[.bool false]) (e:=1) (bytes:=1) (n:=n) (by unfold aU; omega) (by unfold aU; omega)
 have x3:Ext h1.next h1 (h1.new (.cells (cI [.bool false] n) 1 false)):=KH (ab _)
 have g3:(h1.new (.cells (cI [.bool false] n) 1 false)).get h1.next=some (.cells (cI [.bool false] n) 1 false):=by rw[AH.get_new,if_pos rfl]
 have n3:(h1.new (.cells (cI [.bool false] n) 1 false)).next=h1.next+1:=rfl
 refine ai (au (Mi2 rN mu) ?_)
 generalize (h1.new (.cells (cI [.bool false] n) 1 false))=h2 at *
 rw[mX,n0] at g3
 rw[n0] at x3 n3
 clear mu
 have X2:Ext h.next h h2:=x0.trans (x3.mono om)
 have gA2:h2.get h.next=some (.cells [.int .i64 (n:Nat),ev] 2 false):=by rw[x3.gt _ om]; exact gA
 have i0:fL ((f:Nat):Int) n=some f:=dE hf
 have w0:=gj (v:=.bool true) g3 (i:=f) (by rw[jm]; exact hf)
 have u0:=KJ (o:=.cells ((bl n λ_=>false).set f (.bool true)) 1 false) g3
 refine ai (au (Mi4 n0 i0 @aP w0) ?_)
 generalize (h2.put (h.next+1) (.cells ((bl n λ_=>false).set f (.bool true)) 1 false))=h3 at *
 have X3:Ext h.next h h3:=X2.trans (u0.ext om)
 have gA3:h3.get h.next=some (.cells [.int .i64 (n:Nat),ev] 2 false):=by rw[u0.ne om]; exact gA2
 have n3':h3.next=h.next+2:=by rw[u0.nx,n3]
 have g3':h3.get (h.next+1)=some (.cells (bl n λv=>decide (v=f)) 1 false):=by
  rw[u0.get,kD]
  congr 2
 refine ai (ai (au (Mi1 n0) ?_))
 refine fN (α:=Unit) (N:=n) (λk _=>[(2,.bool true),(3,.sl cb 0 E.length E.length),(4,.ptr h.next 0),(9,.sl (h.next+1) 0 n n),(10,.int .i64 (k:Nat))])
  (λk _ h'=>Ext h.next h h'∧h.next+2≤h'.next∧h'.get h.next=some (.cells [.int .i64 (n:Nat),ev] 2 false)∧h'.get (h.next+1)=some (.cells (bl n (goN E.length (tlE E) (hdE E) c k λv=>decide (v=f))) 1 false)) () (Hi2 n0 @bg)
  ⟨X3,om,gA3,g3'⟩ ?_ ?_ ?_
 ·rintro k _ ts h5 hk ⟨jx,jn,jA,j⟩ ⟨e2,e3,e4,e9,e10,-⟩
  simp only at e2 e3 e4 e9 e10
  have rN5:ak h5 h.next 0 1=some [.int .i64 (n:Nat)]:=br jA rfl
  exact⟨_,(M4 e4 e10 rN5 @cx),Z0,H5 e2 e3 e4 e9 e10⟩
 ·rintro k _ ts h5 hk ⟨jx,jn,jA,j⟩ ⟨e2,e3,e4,e9,e10,-⟩
  simp only at e2 e3 e4 e9 e10
  have w1:=nZ (k:=k) om
  refine ai (au (M0) ?_)
  generalize hs0:goN E.length (tlE E) (hdE E) c k (λv=>decide (v=f))=s0 at j
  refine fN (α:=Unit) (N:=E.length) (λi _=>[(2,.bool true),(3,.sl cb 0 E.length E.length),(4,.ptr h.next 0),(9,.sl (h.next+1) 0 n n),(10,.int .i64 (k:Nat)),(11,.int .i64 (i:Nat))])
   (λi _ h'=>Ext h.next h h'∧h.next+2≤h'.next∧h'.get h.next=some (.cells [.int .i64 (n:Nat),ev] 2 false)∧h'.get (h.next+1)=some (.cells (bl n ((List.range i).foldl (goE (tlE E) (hdE E) c) s0)) 1 false)) () (H6 e2 e3 e4 e9 e10 @bg)
   ⟨jx,jn,jA,j⟩ ?_ ?_ ?_
  ·rintro i _ ts h6 hi ⟨jx,jn,jA,j⟩ ⟨e2,e3,e4,e9,e10,e11,-⟩
   simp only at e2 e3 e4 e9 e10 e11
   have rE:ak h6 h.next 1 1=some [ev]:=br jA rfl
   exact⟨_,(M5 e4 e11 rE el @cx),Z0,H6 e2 e3 e4 e9 e10 e11⟩
  ·rintro i _ ts h6 hi ⟨jx,jn,jA,j⟩ ⟨e2,e3,e4,e9,e10,e11,-⟩
   simp only at e2 e3 e4 e9 e10 e11
   have w2:=nZ (k:=i) om
   obtain⟨q1,q2,q3⟩:=hE i hi
   have rE:ak h6 h.next 1 1=some [ev]:=br jA rfl
   obtain⟨eb,ep,a7,r7,_,_⟩:=(he.ext jx (ab _)).at (fR (f:=eE) hi)
   rw[q1] at r7
   obtain⟨h7,w7,x7,g7,n7⟩:=gH (h:=h6) (z:=[.int .i64 0,.int .i64 0]) (cs:=[.int .i64 (tlE E i:Nat),.int .i64 (hdE E i:Nat)]) (e:=2) rfl
   refine ai (au (by simp only[am,aH,simprocAttr,e4,e11,rE,a7,r7,eE,w7]<;>rfl) ?_)
   generalize hs:(List.range i).foldl (goE (tlE E) (hdE E) c) s0=s at j
   have X7:Ext h.next h h7:=jx.trans (x7.mono om)
   have gA7:h7.get h.next=some (.cells [.int .i64 (n:Nat),ev] 2 false):=by rw[x7.gt _ om]; exact jA
   have j7:h7.get (h.next+1)=some (.cells (bl n s) 1 false):=by rw[x7.gt _ om]; exact j
   have gc7:h7.get cb=some (.cells (bl E.length c) 1 false):=by rw[X7.gt _ hcl]; exact hc
   have rc:ak h7 cb i 1=some [.bool (c i)]:=br gc7 (gZ hi)
   have ii:fL ((i:Nat):Int) E.length=some i:=dE hi
   have it:fL ((tlE E i:Nat):Int) n=some (tlE E i):=dE q2
   have ih:fL ((hdE E i:Nat):Int) n=some (hdE E i):=dE q3
   have rt:ak h7 (h.next+1) (tlE E i) 1=some [.bool (s (tlE E i))]:=br j7 (gZ q2)
   have rh:ak h7 (h.next+1) (hdE E i) 1=some [.bool (s (hdE E i))]:=br j7 (gZ q3)
   have r0:ak h7 h6.next 0 1=some [.int .i64 (tlE E i:Nat)]:=br g7 rfl
   have r1:ak h7 h6.next 1 1=some [.int .i64 (hdE E i:Nat)]:=br g7 rfl
   cases kc:c i with
   | false =>
     rw[kc] at rc
     refine ai (au (M5 e3 e11 ii @aP rc) ?_)
     refine dn (Z0) (bH ?_)
     refine⟨(),⟨X7,om,gA7,?_⟩,_,(M2 e11 w2),H5 e2 e3 e4 e9 e10⟩
     rw[j7,nA,hs]
     congr 2
     unfold goE
     rw[if_neg (by rw[kc]; simp)]
   | true =>
   rw[kc] at rc
   by_cases ks:s (tlE E i)=true∨s (hdE E i)=true
   ·have wa:=gj (v:=.bool true) j7 (i:=hdE E i) (by rw[jm]; exact q3)
    have ua:=KJ (o:=.cells ((bl n s).set (hdE E i) (.bool true)) 1 false) j7
    have rt':ak (h7.put (h.next+1) (.cells ((bl n s).set (hdE E i) (.bool true)) 1 false)) (h.next+1) (tlE E i) 1=some [.bool (if tlE E i=hdE E i then true else s (tlE E i))]:=by
     rw[kD] at ua ⊢
     exact br ua.get (gZ q2)
    have r0':ak (h7.put (h.next+1) (.cells ((bl n s).set (hdE E i) (.bool true)) 1 false)) h6.next 0 1=some [.int .i64 (tlE E i:Nat)]:=by rw[← r0]; exact cF (ua.ne om)
    have wb:=gj (v:=.bool true) ua.get (i:=tlE E i) (by rw[cV,jm]; exact q2)
    have ub:=KJ (o:=.cells (((bl n s).set (hdE E i) (.bool true)).set (tlE E i) (.bool true)) 1 false) ua.get
    have eq:bl n ((List.range (i+1)).foldl (goE (tlE E) (hdE E) c) s0)=((bl n s).set (hdE E i) (.bool true)).set (tlE E i) (.bool true):=by
     rw[nA,hs,kD,kD]
     refine mM λv _=>?_
     unfold goE
     rw[if_pos ⟨kc,ks⟩]
     by_cases e1:v=tlE E i
     ·rw[if_pos e1,aM e1]; rfl
     ·rw[if_neg e1,aK e1]
      by_cases e2:v=hdE E i
      ·rw[if_pos e2,aM e2]; rfl
      ·rw[if_neg e2,aK e2]; rfl
    rcases (show s (tlE E i)=true∨(s (tlE E i)=false∧s (hdE E i)=true) by cases q:s (tlE E i)<;>simp_all) with k1|⟨k1,k2⟩
    ·rw[k1] at rt rt'
     rw[show (if tlE E i=hdE E i then true else true)=true by split<;>rfl] at rt'
     refine ai (au (by simp only[am,aH,simprocAttr,e2,e3,e9,e11,ii,aP,rc,it,rt,r0,r1]<;>rfl) ?_)
     refine cE (Z0) (ai (au (M5 e9 r1 ih @aP wa) ?_))
     refine au (by simp only[am,aH,simprocAttr,e2,e9,r0',it,rt',aP,wb]<;>rfl) ?_
     exact⟨(),⟨X7.trans ((ua.ext om).trans (ub.ext om)),by rw[ub.nx,ua.nx]; omega,by rw[ub.ne om,ua.ne om]; exact gA7,by rw[ub.get,eq]⟩,_,(M2 e11 w2),H5 e2 e3 e4 e9 e10⟩
    ·rw[k1] at rt rt'
     rw[k2] at rh
     have k3:tlE E i≠hdE E i:=λe=>by rw[e,k2] at k1; cases k1
     rw[if_neg k3] at rt'
     refine ai (au (by simp only[am,aH,simprocAttr,e2,e3,e9,e11,ii,aP,rc,it,ih,rt,rh,r0,r1]<;>rfl) ?_)
     refine cE (Z0) (ai (au (M5 e9 r1 ih @aP wa) ?_))
     refine au (by simp only[am,aH,simprocAttr,e2,e9,r0',it,rt',aP,wb]<;>rfl) ?_
     exact⟨(),⟨X7.trans ((ua.ext om).trans (ub.ext om)),by rw[ub.nx,ua.nx]; omega,by rw[ub.ne om,ua.ne om]; exact gA7,by rw[ub.get,eq]⟩,_,(M2 e11 w2),H5 e2 e3 e4 e9 e10⟩
   ·have k1:s (tlE E i)=false:=by simpa using λe=>ks (.inl e)
    have k2:s (hdE E i)=false:=by simpa using λe=>ks (.inr e)
    rw[k1] at rt
    rw[k2] at rh
    refine ai (au (by simp only[am,aH,simprocAttr,e2,e3,e9,e11,ii,aP,rc,it,ih,rt,rh,r0,r1]<;>rfl) ?_)
    refine dn (Z0) (bH ?_)
    refine⟨(),⟨X7,om,gA7,?_⟩,_,(M2 e11 w2),H5 e2 e3 e4 e9 e10⟩
    rw[j7,nA,hs]
    congr 2
    unfold goE
    rw[if_neg (λe=>ks e.2)]
  ·rintro _ ts h6 ⟨jx,jn,jA,j⟩ ⟨e2,e3,e4,e9,e10,e11,-⟩
   simp only at e2 e3 e4 e9 e10
   refine⟨(),⟨jx,jn,jA,?_⟩,_,(M2 e10 w1),H4 e2 e3 e4 e9⟩
   rw[j,← hs0]
   rfl
 ·rintro _ ts h5 ⟨jx,jn,jA,j⟩ ⟨e2,e3,e4,e9,e10,-⟩
  simp only at e9
  refine ai (au (M1 e9) ?_)
  exact bM ⟨_,(by simp only[rs,rf45,am,aH,simprocAttr]<;>rfl),_,rfl,om,jx,j⟩
end Go.Proofs.Ytpeemonpdlifbaa
