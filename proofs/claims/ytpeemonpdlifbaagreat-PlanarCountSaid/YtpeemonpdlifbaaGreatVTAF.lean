/- The definition's side -/
import Derived.Test.YtpeemonpdlifbaaGreatVTAE
set_option linter.all false
namespace Go.Proofs.YtpeemonpdlifbaaGreat
open Go.Am
theorem EO {h:AH}{n:Int}{ev:AV}{es:List (Int×Int)} (he:SlE h ev es):C prg 10 [.agg [.int .i64 n,ev]] h λr h'=>r=.bool (gG n es)∧Ext h.next h h':=by
 have el:=he.len
 rw[ak] at el
 obtain⟨ec,eo⟩:=he.cells
 refine LB pf10 ?_
 have x0:Ext h.next h (h.new (.cells [.int .i64 n,ev] 2 false)):=Ly (ae _)
 have g0:(h.new (.cells [.int .i64 n,ev] 2 false)).get h.next=some (.cells [.int .i64 n,ev] 2 false):=by rw[AH.get_new,if_pos rfl]
 have n0:(h.new (.cells [.int .i64 n,ev] 2 false)).next=h.next+1:=rfl
 refine aj (aB (Mi0) ?_)
 generalize h.new (.cells [.int .i64 n,ev] 2 false)=h0 at *
 have rn:ar h0 h.next 0 1=some [.int .i64 n]:=bq g0 rfl
 have re:ar h0 h.next 1 1=some [ev]:=bq g0 rfl
 by_cases q1:n<1
 ·have c1:decide (n<1)=true:=aL q1
  have hB:gG n es=false:=by
   have:decide (1≤n)=false:=aJ om
   simp only[gG,this,ee]
  refine aj (aj (aB (Mi2 rn c1) ?_))
  refine cX (Z0) (aj (aB (M0) ?_))
  exact bG ⟨.bool false,(by simp only[rs,rf10,am,aF,simprocAttr]<;>rfl),by rw[hB],x0⟩
 have c1:decide (n<1)=false:=aJ q1
 by_cases q2:64<n
 ·have c2:decide (64<n)=true:=aL q2
  have hB:gG n es=false:=by
   have:decide (n≤64)=false:=aJ om
   simp only[gG,this,dK,ee]
  refine aj (aj (aB (Mi3 rn c1 c2) ?_))
  refine cX (Z0) (aj (aB (M0) ?_))
  exact bG ⟨.bool false,(by simp only[rs,rf10,am,aF,simprocAttr]<;>rfl),by rw[hB],x0⟩
 have c2:decide (64<n)=false:=aJ q2
 by_cases q3:128<es.length
 ·have c3:decide ((128:Int)<((es.length:Nat):Int))=true:=aL om
  have hB:gG n es=false:=by
   have:decide (es.length≤128)=false:=aJ om
   simp only[gG,this,dK,ee]
  refine aj (aj (aB (Mi6 rn re el c1 c2 c3) ?_))
  refine cX (Z0) (aj (aB (M0) ?_))
  exact bG ⟨.bool false,(by simp only[rs,rf10,am,aF,simprocAttr]<;>rfl),by rw[hB],x0⟩
 have c3:decide ((128:Int)<((es.length:Nat):Int))=false:=aJ om
 have hB:gG n es=es.all (okE n):=by
  have d1:decide (1≤n)=true:=aL om
  have d2:decide (n≤64)=true:=aL om
  have d3:decide (es.length≤128)=true:=aL om
  simp only[gG,d1,d2,d3,fD]
 refine aj (aj (aB (Mi6 rn re el c1 c2 c3) ?_))
 refine dL (Z0) (bK ?_)
 refine aj (aj (aB (M0) ?_))
 refine vq (α:=Unit) (N:=es.length) (λk _=>[(1,.ptr h.next 0),(3,.int .i64 (k:Nat))]) (λk _ h'=>Ext (h.next+1) h0 h'∧(es.take k).all (okE n)=true) () (Oi1 @cH) ⟨Lz,rfl⟩ ?_ ?_ ?_
 ·rintro k _ ts h1 hk ⟨jx,j1⟩ ⟨e1,e3,-⟩
  simp only at e1 e3
  have re1:ar h1 h.next 1 1=some [ev]:=by rw[cM (jx.gt _ om)]; exact re
  exact⟨_,(J5 e1 e3 re1 el @jl),I0,O2 e1 e3⟩
 ·rintro k _ ts h1 hk ⟨jx,j1⟩ ⟨e1,e3,-⟩
  simp only at e1 e3
  have re1:ar h1 h.next 1 1=some [ev]:=by rw[cM (jx.gt _ om)]; exact re
  have jn:=jx.nx
  have X1:Ext h.next h h1:=x0.trans (jx.mono om)
  obtain⟨b1,p1,a1,r4,_⟩:=(he.ext X1 (ae _)).at (fE (f:=eE) hk)
  obtain⟨h2,w2,x2,g2,n2⟩:=gm (h:=h1) (z:=[.int .i64 0,.int .i64 0]) (cs:=[.int .i64 es[k].1,.int .i64 es[k].2]) (e:=2) rfl
  refine aj (aB (by simp only[am,aF,simprocAttr,e1,e3,re1,a1,r4,eE,w2]<;>rfl) ?_)
  have ra:ar h2 h1.next 0 1=some [.int .i64 es[k].1]:=bq g2 rfl
  have rb:ar h2 h1.next 1 1=some [.int .i64 es[k].2]:=bq g2 rfl
  have rn2:ar h2 h.next 0 1=some [.int .i64 n]:=by rw[cM (x2.gt _ om),cM (jx.gt _ om)]; exact rn
  have w1:=Aw (k:=k) om
  have Y2:Ext (h.next+1) h0 h2:=jx.trans (x2.mono om)
  have X2:Ext h.next h h2:=X1.trans (x2.mono X1.nx)
  have bad:okE n es[k]=false→gG n es=false:=λhb=>by
   rw[hB]
   cases hh:es.all (okE n) with
   | false=>rfl
   | true=>rw[cj.1 hh _ (aR hk)] at hb; cases hb
  by_cases p1:es[k].1<0
  ·have d1:decide (es[k].1<0)=true:=aL p1
   have hb:=bad (by have:decide (0≤es[k].1)=false:=aJ om
                    simp only[okE,this,ee])
   refine aj (aB (M2 ra d1) ?_)
   refine cX (Z0) (aj (aB (M0) ?_))
   exact bG ⟨.bool false,(by simp only[rs,rf10,am,aF,simprocAttr]<;>rfl),by rw[hb],X2⟩
  have d1:decide (es[k].1<0)=false:=aJ p1
  by_cases p2:es[k].2<0
  ·have d2:decide (es[k].2<0)=true:=aL p2
   have hb:=bad (by have:decide (0≤es[k].2)=false:=aJ om
                    simp only[okE,this,ee,dK])
   refine aj (aB (M4 ra rb d1 d2) ?_)
   refine cX (Z0) (aj (aB (M0) ?_))
   exact bG ⟨.bool false,(by simp only[rs,rf10,am,aF,simprocAttr]<;>rfl),by rw[hb],X2⟩
  have d2:decide (es[k].2<0)=false:=aJ p2
  by_cases p3:n≤es[k].1
  ·have d3:decide (n≤es[k].1)=true:=aL p3
   have hb:=bad (by have:decide (es[k].1<n)=false:=aJ om
                    simp only[okE,this,ee,dK])
   refine aj (aB (M7 ra rb rn2 e1 d1 d2 d3) ?_)
   refine cX (Z0) (aj (aB (M0) ?_))
   exact bG ⟨.bool false,(by simp only[rs,rf10,am,aF,simprocAttr]<;>rfl),by rw[hb],X2⟩
  have d3:decide (n≤es[k].1)=false:=aJ p3
  by_cases p4:n≤es[k].2
  ·have d4:decide (n≤es[k].2)=true:=aL p4
   have hb:=bad (by have:decide (es[k].2<n)=false:=aJ om
                    simp only[okE,this,dK])
   refine aj (aB (M8 ra rb rn2 e1 d1 d2 d3 d4) ?_)
   refine cX (Z0) (aj (aB (M0) ?_))
   exact bG ⟨.bool false,(by simp only[rs,rf10,am,aF,simprocAttr]<;>rfl),by rw[hb],X2⟩
  have d4:decide (n≤es[k].2)=false:=aJ p4
  refine aj (aB (M8 ra rb rn2 e1 d1 d2 d3 d4) ?_)
  refine dL (I0) (bK ⟨(),⟨Y2,?_⟩,_,(J2 e3 w1),O1 e1⟩)
  rw[bV hk,List.all_append,j1]
  have f1:decide (0≤es[k].1)=true:=aL om
  have f2:decide (0≤es[k].2)=true:=aL om
  have f3:decide (es[k].1<n)=true:=aL om
  have f4:decide (es[k].2<n)=true:=aL om
  simp only[lZ,List.all_nil,okE,f1,f2,f3,f4,Bool.and_self]
 ·rintro _ ts h1 ⟨jx,j1⟩ ⟨e1,e3,-⟩
  rw[dF] at j1
  refine aj (aB (M0) ?_)
  exact bG ⟨.bool true,(by simp only[rs,rf10,am,aF,simprocAttr]<;>rfl),by rw[hB,j1],x0.trans (jx.mono (by have:=x0.nx; omega))⟩
open Go.Am
def bl (n:Nat) (p:Nat→Bool):List AV:=(List.range n).map λi=>.bool (p i)
def il (n:Nat) (f:Nat→Int):List AV:=(List.range n).map λi=>.int .i64 (f i)
theorem nX (n:Nat) (p:Nat→Bool):(bl n p).length=n:=by simp [bl]
theorem sg (n:Nat) (f:Nat→Int):(il n f).length=n:=by simp [il]
theorem lY {n i:Nat}{p:Nat→Bool} (h:i<n):(bl n p)[i]?=some (.bool (p i)):=by
 unfold bl
 rw[aG,fk h]
 rfl
theorem mH {n i:Nat}{f:Nat→Int} (h:i<n):(il n f)[i]?=some (.int .i64 (f i)):=by
 unfold il
 rw[aG,fk h]
 rfl
theorem wG {n i:Nat}{p:Nat→Bool}{b:Bool}:(bl n p).set i (.bool b)=bl n λj=>if j=i then b else p j:=by
 refine et λj=>?_
 rw[cZ,nX]
 by_cases hj:j<n
 ·rw[lY hj,lY hj]
  by_cases e:i=j
  ·subst e; simp [hj]
  ·rw[if_neg e,if_neg (λq=>e q.symm)]
 ·rw[cx (l:=bl n p) (by rw[nX]; omega),cx (by rw[nX]; omega)]
  split
  ·rw[if_neg om]
  ·rfl
theorem Lc {n i:Nat}{f:Nat→Int}{b:Int}:(il n f).set i (.int .i64 b)=il n λj=>if j=i then b else f j:=by
 refine et λj=>?_
 rw[cZ,sg]
 by_cases hj:j<n
 ·rw[mH hj,mH hj]
  by_cases e:i=j
  ·subst e; simp [hj]
  ·rw[if_neg e,if_neg (λq=>e q.symm)]
 ·rw[cx (l:=il n f) (by rw[sg]; omega),cx (by rw[sg]; omega)]
  split
  ·rw[if_neg om]
  ·rfl
theorem wH (n:Nat):dg [AV.bool false] n=bl n λ_=>false:=by
 rw[jf]
 unfold bl
 rw[List.map_const',bF]
theorem Bm (n:Nat):dg [AV.int .i64 0] n=il n λ_=>0:=by
 rw[jf]
 unfold il
 rw[List.map_const',bF]
theorem FS {n:Nat}{p q:Nat→Int} (h:∀ i,i<n→p i=q i):il n p=il n q:=by
 unfold il
 exact dC λi hi=>by rw[h i (ao.1 hi)]
end Go.Proofs.YtpeemonpdlifbaaGreat
namespace Go.Blk
structure Gr where
 m:Nat
 n:Nat
 tl:Nat→Nat
 hd:Nat→Nat
 ok:∀ i,i<m→tl i<n∧hd i<n∧tl i≠hd i
variable {g:Gr}
def Gr.oth (g:Gr) (i x:Nat):Nat:=g.tl i+g.hd i-x
def Gr.inc (g:Gr) (i x:Nat):Prop:=i<g.m∧(g.tl i=x∨g.hd i=x)
instance (i x:Nat):Decidable (g.inc i x):=by unfold Gr.inc; infer_instance
theorem inc_lt {i x:Nat} (h:g.inc i x):x<g.n:=by
 obtain⟨h1,h2⟩:=h
 have:=g.ok i h1
 rcases h2 with rfl|rfl
 ·exact this.1
 ·exact this.2.1
theorem inc_oth {i x:Nat} (h:g.inc i x):g.inc i (g.oth i x)∧g.oth i x≠x∧g.oth i (g.oth i x)=x:=by
 obtain⟨h1,h2⟩:=h
 have:=g.ok i h1
 unfold Gr.inc Gr.oth
 rcases h2 with rfl|rfl
 ·exact⟨⟨h1,.inr om⟩,om,om⟩
 ·exact⟨⟨h1,.inl om⟩,om,om⟩
theorem fH {i x y:Nat} (hx:g.inc i x) (hy:g.inc i y) (hne:y≠x):y=g.oth i x:=by
 obtain⟨h1,h2⟩:=hx
 obtain⟨_,h3⟩:=hy
 have:=g.ok i h1
 unfold Gr.oth
 omega
inductive Conn (g:Gr) (S:Nat→Prop):Nat→Nat→Prop
 | refl {u:Nat}:S u→Conn g S u u
 | step {u v i:Nat}:Conn g S u v→g.inc i v→S (g.oth i v)→Conn g S u (g.oth i v)
theorem Conn.right {S:Nat→Prop}{u v:Nat} (h:Conn g S u v):S v:=by
 cases h with
 | refl h=>exact h
 | step _ _ h=>exact h
theorem Conn.trans {S:Nat→Prop}{u v w:Nat} (h1:Conn g S u v) (h2:Conn g S v w):Conn g S u w:=by
 induction h2 with
 | refl _=>exact h1
 | step _ a b ih=>exact .step ih a b
theorem Conn.edge {S:Nat→Prop}{u i:Nat} (hu:S u) (hi:g.inc i u) (hv:S (g.oth i u)):Conn g S u (g.oth i u):=.step (.refl hu) hi hv
theorem Conn.symm {S:Nat→Prop}{u v:Nat} (h:Conn g S u v):Conn g S v u:=by
 induction h with
 | refl h=>exact .refl h
 | @step v i h1 h2 h3 ih =>
   obtain⟨a,b,c⟩:=inc_oth h2
   have:=Conn.edge (S:=S) h3 a (by rw[c]; exact h1.right)
   rw[c] at this
   exact this.trans ih
theorem Conn.mono {S S':Nat→Prop}{u v:Nat} (h:Conn g S u v) (hs:∀ z,S z→S' z):Conn g S' u v:=by
 induction h with
 | refl h=>exact .refl (hs _ h)
 | step _ a b ih=>exact .step ih a (hs _ b)
theorem Conn.stays {S T:Nat→Prop}{u v:Nat} (h:Conn g S u v) (ht:∀ u i,T u→g.inc i u→S (g.oth i u)→T (g.oth i u)) (hu:T u):T v:=by
 induction h with
 | refl _=>exact hu
 | step _ a b ih=>exact ht _ _ ih a b
def Rel (g:Gr) (i k:Nat):Prop:=∃ x,g.inc i x∧g.inc k x∧Conn g (·≠x) (g.oth i x) (g.oth k x)
theorem Rel.symm {i k:Nat} (h:Rel g i k):Rel g k i:=by
 obtain⟨x,a,b,c⟩:=h
 exact⟨x,b,a,c.symm⟩
inductive Cls (g:Gr):Nat→Nat→Prop
 | refl {i:Nat}:Cls g i i
 | step {i j k:Nat}:Cls g i j→Rel g j k→Cls g i k
theorem Cls.trans {i j k:Nat} (h1:Cls g i j) (h2:Cls g j k):Cls g i k:=by
 induction h2 with
 | refl=>exact h1
 | step _ b ih=>exact .step ih b
theorem Cls.one {i k:Nat} (h:Rel g i k):Cls g i k:=.step .refl h
theorem Cls.symm {i k:Nat} (h:Cls g i k):Cls g k i:=by
 induction h with
 | refl=>exact .refl
 | step _ b ih=>exact (Cls.one b.symm).trans ih
def IsBlock (g:Gr) (b:List Nat):Prop:=b≠[]∧(∀ i∈b,∀ k∈b,Cls g i k)∧∀ i∈b,∀ k,Rel g i k→k∈b
theorem IsBlock.cls {b:List Nat} (h:IsBlock g b) {i k:Nat} (hi:i∈b) (hk:Cls g i k):k∈b:=by
 induction hk with
 | refl=>exact hi
 | step _ r ih=>exact h.2.2 _ ih _ r
structure DS where
 num:Nat→Nat
 low:Nat→Nat
 cnt:Nat
 stk:List Nat
 blk:List (List Nat)
def upd (f:Nat→Nat) (x v:Nat):Nat→Nat:=λz=>if z=x then v else f z
theorem upd_same {f:Nat→Nat}{x v:Nat}:upd f x v x=v:=if_pos rfl
theorem upd_ne {f:Nat→Nat}{x v z:Nat} (h:z≠x):upd f x v z=f z:=if_neg h
def DS.close (sort:List Nat→List Nat) (s:DS) (i:Nat):DS:={ s with blk:=s.blk++[sort (s.stk.drop (s.stk.idxOf i))],stk:=s.stk.take (s.stk.idxOf i)}
def enter (x:Nat) (s:DS):DS:={ s with cnt:=s.cnt+1,num:=upd s.num x (s.cnt+1),low:=upd s.low x (s.cnt+1)}
def edgeS (g:Gr) (sort:List Nat→List Nat) (vis:Nat→Nat→DS→DS) (x:Nat) (by_:Option Nat) (s:DS) (i:Nat):DS :=
 if by_=some i then s
 else if s.num (g.oth i x)=0 then
  let s2:=vis (g.oth i x) i { s with stk:=s.stk++[i]}
  let s3:DS:={ s2 with low:=upd s2.low x (min (s2.low x) (s2.low (g.oth i x)))}
  if s3.num x≤s3.low (g.oth i x) then s3.close sort i else s3
 else if s.num (g.oth i x)<s.num x then { s with stk:=s.stk++[i],low:=upd s.low x (min (s.low x) (s.num (g.oth i x)))}
 else s
def visit (g:Gr) (ends:Nat→List Nat) (sort:List Nat→List Nat):Nat→Nat→Option Nat→DS→DS
 | 0,_,_,s=>s
 | f+1,x,by_,s=>(ends x).foldl (edgeS g sort (λy i s=>visit g ends sort f y (some i) s) x by_) (enter x s)
def unm (g:Gr) (s:DS):Nat:=(List.range g.n).countP λv=>s.num v==0
theorem jy {α:Type}{p q:α→Bool}:∀ {l:List α},(∀ x∈l,p x=true→q x=true)→l.countP p≤l.countP q
 | [],_=>ae _
 | a::l,h=>by
   have ih:=jy (l:=l) λx hx=>h x (br _ hx)
   rw[cU,cU]
   have ha:=h a (bB ..)
   cases hp:p a with
   | true=>rw[ha hp]; simp; exact ih
   | false=>cases q a<;>simp<;>omega
theorem oU {α:Type}{p q:α→Bool}:∀ {l:List α}{a:α},(∀ x∈l,p x=true→q x=true)→a∈l→p a=false→q a=true→l.countP p<l.countP q
 | [],a,_,hm,_,_=>by cases hm
 | b::l,a,h,hm,hp,hq=>by
   rw[cU,cU]
   rcases au.1 hm with rfl|hm
   ·have:=jy (l:=l) λx hx=>h x (br _ hx)
    rw[hp,hq]
    simp
    omega
   ·have ih:=oU (l:=l) (λx hx=>h x (br _ hx)) hm hp hq
    have hb:=h b (bB ..)
    cases hp':p b with
    | true=>rw[hb hp']; simp; omega
    | false=>cases q b<;>simp<;>omega
theorem Kv {s s':DS} (h:∀ v,s.num v≠0→s'.num v≠0):unm g s'≤unm g s:=by
 refine jy λv _ hv=>?_
 have hv:s'.num v=0:=by simpa using hv
 have:s.num v=0:=Decidable.byContradiction λhc=>h v hc hv
 simp [this]
theorem yQ {s s':DS} (h:∀ v,s.num v≠0→s'.num v≠0) {x:Nat} (hx:x<g.n) (h0:s.num x=0) (h1:s'.num x≠0):unm g s'<unm g s:=by
 refine oU (a:=x) (λv _ hv=>?_) (ao.2 hx) (by simpa using h1) (by simpa using h0)
 have hv:s'.num v=0:=by simpa using hv
 have:s.num v=0:=Decidable.byContradiction λhc=>h v hc hv
 simp [this]
section
variable (m n:Nat) (tl hd:Nat→Nat) (c:Nat→Bool)
inductive RC:Nat→Nat→Prop
 | refl {u:Nat}:RC u u
 | one {u v i:Nat}:RC u v→i<m→c i=true→tl i=v→RC u (hd i)
 | two {u v i:Nat}:RC u v→i<m→c i=true→hd i=v→RC u (tl i)
end
section
variable {m n:Nat}{tl hd:Nat→Nat}{c:Nat→Bool}
end
variable {g:Gr}
structure Lst (g:Gr) (l:Nat→Nat):Prop where
 cls:∀ i,i<g.m→Cls g i (l i)
 le:∀ i,i<g.m→l i≤i
 same:∀ i k,i<g.m→k<g.m→Rel g i k→l i=l k
theorem zR {i k:Nat} (h:Cls g i k) (hi:i<g.m):k<g.m:=by
 induction h with
 | refl=>exact hi
 | step _ r _=>obtain⟨x,_,b,_⟩:=r; exact b.1
theorem Lst.eqc {l:Nat→Nat} (h:Lst g l) {i k:Nat} (hi:i<g.m) (hc:Cls g i k):l i=l k:=by
 induction hc with
 | refl=>rfl
 | step a r ih=>exact ih.trans (h.same _ _ (zR a hi) (by obtain⟨x,_,b,_⟩:=r; exact b.1) r)
theorem Lst.uniq {l l':Nat→Nat} (h:Lst g l) (h':Lst g l') {i:Nat} (hi:i<g.m):l i=l' i:=by
 have a:l i≤l' i:=by
  rw[h.eqc hi (h'.cls i hi)]
  exact h.le _ (zR (h'.cls i hi) hi)
 have b:l' i≤l i:=by
  rw[h'.eqc hi (h.cls i hi)]
  exact h'.le _ (zR (h.cls i hi) hi)
 omega
theorem Lst.iff {l:Nat→Nat} (h:Lst g l) {i k:Nat} (hi:i<g.m) (hk:k<g.m):l i=l k↔Cls g i k:=by
 refine⟨λe=>?_,h.eqc hi⟩
 have:=(h.cls k hk).symm
 rw[← e] at this
 exact (h.cls i hi).trans this
def canon (m:Nat) (l:Nat→Nat):List (List Nat):=((List.range m).filter λi=>l i==i).map λi=>(List.range m).filter λk=>l k==i
theorem canon_congr {m:Nat}{l l':Nat→Nat} (h:∀ i,i<m→l i=l' i):canon m l=canon m l':=by
 unfold canon
 have e1:((List.range m).filter λi=>l i==i)=(List.range m).filter λi=>l' i==i:=List.filter_congr λi hi=>by rw[h i (ao.1 hi)]
 rw[e1]
 refine dC λi _=>?_
 exact List.filter_congr λk hk=>by rw[h k (ao.1 hk)]
end Go.Blk
namespace Go.Proofs.YtpeemonpdlifbaaGreat
open Go.Am
def gW (n:Nat) (ev:AV):List AV:=[.int .i64 (n:Nat),ev]
def tlE (E:List (Int×Int)) (i:Nat):Nat:=((E.getD i (0,0)).1).toNat
def hdE (E:List (Int×Int)) (i:Nat):Nat:=((E.getD i (0,0)).2).toNat
def InG (n:Nat) (E:List (Int×Int)):Prop:=∀ i (hi:i<E.length),E[i]=(((tlE E i:Nat):Int),((hdE E i:Nat):Int))∧tlE E i<n∧hdE E i<n
open Go.Am
def Gj (E:List (Int×Int)) (d:Nat):Int:=if d % 2=0 then (E.getD (d / 2) (0,0)).1 else (E.getD (d / 2) (0,0)).2
theorem quo2 {k:Nat} (h:k<2 ^ 60):IntKind.i64.wrap (((k:Nat):Int).tdiv 2)=((k / 2:Nat):Int):=by
 have e:((k:Nat):Int).tdiv 2=((k / 2:Nat):Int):=rfl
 rw[e]
 exact fz om om
theorem tmod2 (h:Nat):(((h:Nat):Int)).tmod 2=((h % 2:Nat):Int):=rfl
theorem two_no0:¬ (2:Int)=0:=by decide
def okH (E:List (Int×Int)) (x:Nat) (z:Int):Prop:=0≤z∧z<((2*E.length:Nat):Int)∧Gj E z.toNat=((x:Nat):Int)
structure RwsI (n:Nat) (E:List (Int×Int)) (T:List (List Int)):Prop where
 len:T.length=n
 at_:∀ x,x<n→∀ z∈T.getD x [],okH E x z
 one:∀ i,i<2*E.length→T.flatten.count ((i:Nat):Int)=1
theorem iA {T:List (List Int)}{k:Nat} (hk:k<T.length):T.getD k []=T[k]:=by
 rw[ai,ah hk]; rfl
open Go.Am
open Go.Blk
def grE (n:Nat) (E:List (Int×Int)) (hE:InG n E) (hl:∀ i,i<E.length→tlE E i≠hdE E i):Gr:=⟨E.length,n,tlE E,hdE E,λi hi=>⟨(hE i hi).2.1,(hE i hi).2.2,hl i hi⟩⟩
section
variable {n:Nat}{E:List (Int×Int)} (hE:InG n E) (hl:∀ i,i<E.length→tlE E i≠hdE E i)
end
end Go.Proofs.YtpeemonpdlifbaaGreat
namespace Go.Pla
open Go.Blk
def par {α:Type}:List α→(α→Bool)→Bool
 | [],_=>false
 | e::l,p=>p e ^^ par l p
theorem par_congr {α:Type}:∀ {l:List α}{p q:α→Bool},(∀ e∈l,p e=q e)→par l p=par l q
 | [],_,_,_=>rfl
 | e::l,p,q,h=>by
   simp only[par]; rw[h e (by simp),par_congr (l:=l) λk hk=>h k (by simp [hk])]
theorem df {α:Type}{p q:α→Bool}:∀ {l:List α},par l (λe=>p e ^^ q e)=(par l p ^^ par l q)
 | []=>rfl
 | e::l=>by
   simp only[par]; rw[df (l:=l)]
   cases p e<;>cases q e<;>cases par l p<;>cases par l q<;>rfl
theorem dW {α:Type}{p:α→Bool}:∀ {l:List α},(∀ e∈l,p e=false)→par l p=false
 | [],_=>rfl
 | e::l,h=>by simp only[par]; rw[h e (by simp),dW λk hk=>h k (by simp [hk])]; rfl
theorem fS {α:Type}{c:Bool}{p:α→Bool}:∀ {l:List α},par l (λe=>c&&p e)=(c&&par l p)
 | []=>by cases c<;>rfl
 | e::l=>by
   simp only[par]; rw[fS (l:=l)]
   cases c<;>cases p e<;>cases par l p<;>rfl
theorem jv {α:Type}{p:α→Bool}:∀ {l m:List α},par (l++m) p=(par l p ^^ par m p)
 | [],m=>by simp [par]
 | e::l,m=>by
   simp only[aE,par]; rw[jv (l:=l)]
   cases p e<;>cases par l p<;>cases par m p<;>rfl
theorem rP {α:Type}{p:α→Bool}{l m:List α} (h:l.Perm m):par l p=par m p:=by
 induction h with
 | nil=>rfl
 | cons x _ ih=>simp only[par]; rw[ih]
 | swap x y l=>simp only[par]; cases p x<;>cases p y<;>cases par l p<;>rfl
 | trans _ _ h1 h2=>rw[h1,h2]
theorem gQ {α β:Type}{p:α→β→Bool}{m:List β}:∀ {l:List α},par l (λe=>par m (λf=>p e f))=par m (λf=>par l (λe=>p e f))
 | []=>by simp only[par]; exact (dW λ_ _=>rfl).symm
 | e::l=>by
   simp only[par]; rw[gQ (l:=l),← df]
theorem cY {k:Nat}{p:Nat→Bool}:∀ {l:List Nat},l.Nodup→k∈l→par l (λe=>(e==k)&&p e)=p k
 | [],_,h=>by simp at h
 | e::l,nd,h=>by
   simp only[par]
   rw[aW] at nd
   by_cases he:e=k
   ·subst he
    rw[dW (l:=l) λj hj=>by
     have:j≠e:=λx=>nd.1 (x▸hj)
     simp [this]]
    simp
   ·rw[cY (l:=l) nd.2 (by simpa [Ne.symm he] using h)]
    have:(e==k)=false:=by simp [he]
    rw[this]; cases p k<;>rfl
theorem EZ {k:Nat}{p:Nat→Bool}{l:List Nat} (h:k∉l):par l (λe=>(e==k)&&p e)=false :=
 dW λe he=>by
  have:e≠k:=λx=>h (x▸he)
  simp [this]
variable {g:Gr}{B:List Nat}{Φ:Type}
def at_ (g:Gr) (e v:Nat):Bool:=(g.tl e==v) ^^ (g.hd e==v)
def Even (g:Gr) (B:List Nat) (X:Nat→Bool):Prop:=∀ v,par B (λe=>X e&&at_ g e v)=false
theorem Even.congr {X Y:Nat→Bool} (h:Even g B X) (hx:∀ e∈B,X e=Y e):Even g B Y:=λv=>by
 rw[← h v]; exact par_congr λe he=>by rw[hx e he]
theorem Even.xor {X Y:Nat→Bool} (h:Even g B X) (h':Even g B Y):Even g B (λe=>X e ^^ Y e):=λv=>by
 rw[par_congr (q:=λe=>(X e&&at_ g e v) ^^ (Y e&&at_ g e v)) (λe _=>by dsimp only; cases X e<;>cases Y e<;>cases at_ g e v<;>rfl),df,h v,h' v]; rfl
theorem even_no:Even g B (λ_=>false):=λ_=>dW λ_ _=>rfl
theorem Even.sum {α:Type}{X:α→Nat→Bool}:∀ {l:List α},(∀ f∈l,Even g B (X f))→Even g B (λe=>par l (λf=>X f e))
 | [],_=>even_no
 | f::l,h=>(h f (by simp)).xor (Even.sum (l:=l) λk hk=>h k (by simp [hk]))
structure Dual (g:Gr) (B:List Nat) (l r:Nat→Φ):Prop where
 two:∀ S:Φ→Bool,Even g B (λe=>S (l e) ^^ S (r e))
 one:∀ X,Even g B X→∃ S:Φ→Bool,∀ e∈B,X e=(S (l e) ^^ S (r e))
def Bond (g:Gr) (B:List Nat):Prop:=∀ v e k,e∈B→k∈B→at_ g e v=true→at_ g k v=true→e≠k→∃ Z,Even g B Z∧∀ j∈B,at_ g j v=true→Z j=((j==e)||(j==k))
def Link (g:Gr) (B:List Nat):Prop:=∀ P:Nat→Bool,(∀ v e k,e∈B→k∈B→at_ g e v=true→at_ g k v=true→P e=P k)→∀ e∈B,∀ k∈B,P e=P k
theorem mN (nd:B.Nodup) (hb:Bond g B) {Y:Nat→Bool}{v:Nat} (h:∀ X,Even g B X→par B (λe=>X e&&(Y e&&at_ g e v))=false) {e k:Nat} (he:e∈B) (hk:k∈B) (hev:at_ g e v=true) (hkv:at_ g k v=true):Y e=Y k:=by
 by_cases hne:e=k
 ·rw[hne]
 obtain⟨Z,hZ,hz⟩:=hb v e k he hk hev hkv hne
 have h1:=h Z hZ
 rw[par_congr (q:=λj=>((j==e)&&Y j) ^^ ((j==k)&&Y j)) (λj hj=>by
  by_cases hjv:at_ g j v=true
  ·rw[hz j hj hjv,hjv]
   by_cases h1:j=e
   ·subst h1
    have:(j==k)=false:=by simp [hne]
    simp [this]
   ·have:(j==e)=false:=by simp [h1]
    simp [this]
  ·have a:j≠e:=λx=>hjv (x▸hev)
   have b:j≠k:=λx=>hjv (x▸hkv)
   have a':(j==e)=false:=by simp [a]
   have b':(j==k)=false:=by simp [b]
   have c:at_ g j v=false:=by simpa using hjv
   rw[a',b',c]; cases Z j<;>cases Y j<;>rfl),df,cY nd he,cY nd hk] at h1
 cases hy:Y e<;>cases hy':Y k<;>simp [hy,hy'] at h1 ⊢
variable {l r:Nat→Φ}
theorem Dual.conn (nd:B.Nodup) (d:Dual g B l r) (hb:Bond g B) (hl:Link g B) {T:Φ→Bool} (h:∀ e∈B,T (l e)=T (r e)) {e k:Nat} (he:e∈B) (hk:k∈B):T (l e)=T (l k):=by
 refine hl (λj=>T (l j)) (λv e k he hk hev hkv=>mN nd hb (Y:=λj=>T (l j)) (λX hX=>?_) he hk hev hkv) e he k hk
 obtain⟨S,hS⟩:=d.one X hX
 have h1:=d.two (λa=>S a&&T a) v
 rw[← h1]
 refine par_congr λj hj=>?_
 dsimp only
 rw[hS j hj,← h j hj]
 cases S (l j)<;>cases S (r j)<;>cases T (l j)<;>cases at_ g j v<;>rfl
def Circ (g:Gr) (B:List Nat) (Z:Nat→Bool):Prop:=Even g B Z∧∀ Y,Even g B Y→(∀ e∈B,Y e=true→Z e=true)→(∀ e∈B,Y e=false)∨(∀ e∈B,Y e=Z e)
structure Ext (g:Gr) (B:List Nat) (l r:Nat→Φ) (H:Nat→Bool) (nf:Nat) (Z:Nat→Nat→Bool) (pf:Φ→Nat):Prop where
 side:∀ f,f<nf→∀ e∈B,Z f e=((pf (l e)==f) ^^ (pf (r e)==f))
 lt:∀ e∈B,pf (l e)<nf∧pf (r e)<nf
 lay:∀ e∈B,H e=(pf (l e) != pf (r e))
variable {H:Nat→Bool}{nf:Nat}{Z:Nat→Nat→Bool}{pf:Φ→Nat}
theorem Ext.step (nd:B.Nodup) (d:Dual g B l r) (hb:Bond g B) (hl:Link g B) (x:Ext g B l r H nf Z pf) {f:Nat} (hf:f<nf) (hc:Circ g B (Z f)) {e0:Nat} (h0:e0∈B) (hz0:Z f e0=true) {w Z1 Z2:Nat→Bool}
 (hw:∀ e∈B,w e=true→pf (l e)=f∧pf (r e)=f) (he1:Even g B Z1) (h1:∀ e∈B,Z1 e=true→Z f e=true∨w e=true) (h1w:∀ e∈B,w e=true→Z1 e=true)
 (h2:∀ e∈B,(Z1 e ^^ Z2 e)=Z f e):∃ pf':Φ→Nat,Ext g B l r (λe=>H e||w e) (nf+1) (λk e=>if k=f then Z1 e else if k=nf then Z2 e else Z k e) pf'∧(∀ a,pf a≠f→pf' a=pf a)∧(∀ a,pf a=f→pf' a=f∨pf' a=nf):=by
 obtain⟨S,hS⟩:=d.one Z1 he1
 have hT:=d.two (λa=>S a&&!(pf a==f))
 have sub:∀ e∈B,((S (l e)&&!(pf (l e)==f)) ^^ (S (r e)&&!(pf (r e)==f)))=true→Z f e=true:=by
  intro e he h
  rw[x.side f hf e he]
  have hs:=hS e he
  have hwe:=hw e he
  have h1e:=h1 e he
  rw[x.side f hf e he] at h1e
  by_cases a:pf (l e)=f<;>by_cases b:pf (r e)=f
  ·simp [a,b] at h
  ·simp [a,b]
  ·simp [a,b]
  ·simp only[a,b,beq_eq_false_iff_ne.2 a,beq_eq_false_iff_ne.2 b,bQ,eN,cI] at h h1e ⊢
   rw[h] at hs
   rcases h1e hs with q|q
   ·exact q
   ·exact absurd (hwe q).1 a
 have key:∃ S':Φ→Bool,(∀ e∈B,Z1 e=(S' (l e) ^^ S' (r e)))∧(∀ e∈B,(S' (l e)=true→pf (l e)=f)∧(S' (r e)=true→pf (r e)=f)):=by
  have hz0':=x.side f hf e0 h0
  rw[hz0] at hz0'
  rcases hc.2 _ hT sub with hn|ha
  ·refine⟨S,hS,?_⟩
   have hcon:∀ e∈B,(S (l e)&&!(pf (l e)==f))=false∧(S (r e)&&!(pf (r e)==f))=false:=by
    have hq:∀ e∈B,(S (l e)&&!(pf (l e)==f))=(S (r e)&&!(pf (r e)==f)):=λe he=>by
     have:=hn e he
     revert this
     cases (S (l e)&&!(pf (l e)==f))<;>cases (S (r e)&&!(pf (r e)==f))<;>simp
    have h00:(S (l e0)&&!(pf (l e0)==f))=false:=by
     by_cases a:pf (l e0)=f
     ·simp [a]
     ·have b:pf (r e0)=f:=by
       by_cases b:pf (r e0)=f
       ·exact b
       ·rw[beq_eq_false_iff_ne.2 a,beq_eq_false_iff_ne.2 b] at hz0'; cases hz0'
      rw[hq e0 h0]; simp [b]
    intro e he
    have h3:=d.conn nd hb hl (T:=λa=>S a&&!(pf a==f)) hq he h0
    exact⟨by rw[h3,h00],by rw[← hq e he,h3,h00]⟩
   intro e he
   obtain⟨a,b⟩:=hcon e he
   constructor
   ·intro h; rw[h] at a; simpa using a
   ·intro h; rw[h] at b; simpa using b
  ·refine⟨λa=>!(S a),λe he=>?_,?_⟩
   ·rw[hS e he]; dsimp only; cases S (l e)<;>cases S (r e)<;>rfl
   have hq:∀ e∈B,((S (l e)&&!(pf (l e)==f)) ^^ !(pf (l e)==f))=((S (r e)&&!(pf (r e)==f)) ^^ !(pf (r e)==f)):=λe he=>by
    have:=ha e he
    rw[x.side f hf e he] at this
    revert this
    cases S (l e)<;>cases S (r e)<;>cases pf (l e)==f<;>cases pf (r e)==f<;>simp
   have h00:((S (l e0)&&!(pf (l e0)==f)) ^^ !(pf (l e0)==f))=false:=by
    by_cases a:pf (l e0)=f
    ·simp [a]
    ·have b:pf (r e0)=f:=by
      by_cases b:pf (r e0)=f
      ·exact b
      ·rw[beq_eq_false_iff_ne.2 a,beq_eq_false_iff_ne.2 b] at hz0'; cases hz0'
     rw[hq e0 h0]; simp [b]
   intro e he
   have h3:=d.conn nd hb hl (T:=λa=>(S a&&!(pf a==f)) ^^ !(pf a==f)) hq he h0
   have a:((S (l e)&&!(pf (l e)==f)) ^^ !(pf (l e)==f))=false:=by rw[h3,h00]
   have b:((S (r e)&&!(pf (r e)==f)) ^^ !(pf (r e)==f))=false:=by rw[← hq e he,h3,h00]
   constructor
   ·intro h
    by_cases q:pf (l e)=f
    ·exact q
    ·have:S (l e)=false:=by simpa using h
     simp [q,this] at a
   ·intro h
    by_cases q:pf (r e)=f
    ·exact q
    ·have:S (r e)=false:=by simpa using h
     simp [q,this] at b
 obtain⟨S',hS',hin⟩:=key
 refine⟨λa=>if pf a=f then (if S' a=true then f else nf) else pf a,⟨?_,?_,?_⟩,λa h=>by simp [h],λa h=>by simp only[h,if_true]; split<;>simp⟩
 ·intro k hk e he
  have hlt:=x.lt e he
  have hse:=hS' e he
  have hie:=hin e he
  have h2e:=h2 e he
  have hside:=x.side f hf e he
  by_cases hkf:k=f
  ·subst hkf
   simp only[if_true]
   rw[hse]
   have q1:((if pf (l e)=k then (if S' (l e)=true then k else nf) else pf (l e))==k)=S' (l e):=by
    by_cases a:pf (l e)=k
    ·cases hs:S' (l e)
     ·simp [a]; omega
     ·simp [a]
    ·have:S' (l e)=false:=by
      cases hs:S' (l e)
      ·rfl
      ·exact absurd (hie.1 hs) a
     simp [a,this]
   have q2:((if pf (r e)=k then (if S' (r e)=true then k else nf) else pf (r e))==k)=S' (r e):=by
    by_cases a:pf (r e)=k
    ·cases hs:S' (r e)
     ·simp [a]; omega
     ·simp [a]
    ·have:S' (r e)=false:=by
      cases hs:S' (r e)
      ·rfl
      ·exact absurd (hie.2 hs) a
     simp [a,this]
   rw[q1,q2]
  ·by_cases hkn:k=nf
   ·subst hkn
    simp only[hkf,if_false,if_true]
    have q1:((if pf (l e)=f then (if S' (l e)=true then f else k) else pf (l e))==k)=((pf (l e)==f) ^^ S' (l e)):=by
     by_cases a:pf (l e)=f
     ·cases hs:S' (l e)
      ·simp [a]
      ·simp [a]; omega
     ·have:S' (l e)=false:=by
       cases hs:S' (l e)
       ·rfl
       ·exact absurd (hie.1 hs) a
      rw[this,if_neg a,beq_eq_false_iff_ne.2 a]; simp; omega
    have q2:((if pf (r e)=f then (if S' (r e)=true then f else k) else pf (r e))==k)=((pf (r e)==f) ^^ S' (r e)):=by
     by_cases a:pf (r e)=f
     ·cases hs:S' (r e)
      ·simp [a]
      ·simp [a]; omega
     ·have:S' (r e)=false:=by
       cases hs:S' (r e)
       ·rfl
       ·exact absurd (hie.2 hs) a
      rw[this,if_neg a,beq_eq_false_iff_ne.2 a]; simp; omega
    rw[q1,q2]
    rw[hside,hse] at h2e
    revert h2e
    cases Z2 e<;>cases S' (l e)<;>cases S' (r e)<;>cases pf (l e)==f<;>cases pf (r e)==f<;>simp
   ·have hk':k<nf:=om
    simp only[hkf,hkn,if_false]
    rw[x.side k hk' e he]
    have q:∀ a,((if pf a=f then (if S' a=true then f else nf) else pf a)==k)=(pf a==k):=λa=>by
     by_cases b:pf a=f
     ·have:(pf a==k)=false:=by rw[b]; simp; omega
      rw[this]; simp only[b,if_true]
      split<;>simp<;>omega
     ·simp [b]
    rw[q,q]
 ·intro e he
  have hlt:=x.lt e he
  constructor<;>(split<;>(try split)<;>omega)
 ·intro e he
  have hlt:=x.lt e he
  have hse:=hS' e he
  have hie:=hin e he
  have hH:=x.lay e he
  have hwe:=hw e he
  have h1e:=h1 e he
  have h1we:=h1w e he
  rw[hH]
  by_cases a:pf (l e)=f<;>by_cases b:pf (r e)=f
  ·have hz:Z f e=false:=by rw[x.side f hf e he]; simp [a,b]
   have:w e=Z1 e:=by
    cases hw1:w e
    ·cases hz1:Z1 e
     ·rfl
     ·rcases h1e hz1 with q|q
      ·rw[hz] at q; simp at q
      ·rw[hw1] at q; simp at q
    ·exact (h1we hw1).symm
   rw[this,hse]
   simp only[a,b,if_true]
   cases S' (l e)<;>cases S' (r e)<;>simp<;>omega
  ·have hw0:w e=false:=by
    cases hw1:w e
    ·rfl
    ·exact absurd (hwe hw1).2 b
   rw[hw0,if_pos a,if_neg b,a,fR]
   have b':=Ne.symm b
   split
   ·rfl
   ·rw[bne_iff_ne.2 b',bne_iff_ne.2 (show nf≠pf (r e) by omega)]
  ·have hw0:w e=false:=by
    cases hw1:w e
    ·rfl
    ·exact absurd (hwe hw1).1 a
   rw[hw0,if_neg a,if_pos b,b,fR]
   split
   ·rfl
   ·rw[bne_iff_ne.2 a,bne_iff_ne.2 (show pf (l e)≠nf by omega)]
  ·have hw0:w e=false:=by
    cases hw1:w e
    ·rfl
    ·exact absurd (hwe hw1).1 a
   simp [a,b,hw0]
end Go.Pla
