/- Blocks, in plain words -/
import Derived.Test.YtmibmlioidpogaaGreatDoorVTAI
set_option linter.all false
namespace Go.Blk
variable {S:Nat->Prop}{f l':Nat->Nat}{i k u v x:Nat}
structure Gr where
 m:Nat
 n:Nat
 tl:Nat->Nat
 hd:Nat->Nat
 ok:∀i,i<m->tl i<n/\hd i<n/\tl i≠hd i
variable {g:Gr}
def Gr.oth(g:Gr)(i x:Nat):Nat:=g.tl i+g.hd i-x
def Gr.inc(g:Gr)(i x:Nat):Prop:=i<g.m/\(g.tl i=x\/g.hd i=x)
instance (i x:Nat):Decidable (g.inc i x):=by unfold Gr.inc;infer_instance
theorem inc_lt(h:g.inc i x):x<g.n:=by
 obtain⟨h1,h2⟩:=h;have:=g.ok i h1;rcases h2 with rfl|rfl
 .exact this.1
 .exact this.2.1
theorem inc_oth(h:g.inc i x):g.inc i (g.oth i x)/\g.oth i x≠x/\g.oth i (g.oth i x)=x:=by
 obtain⟨h1,h2⟩:=h;have:=g.ok i h1;unfold Gr.inc Gr.oth;rcases h2 with rfl|rfl
 .exact⟨⟨h1,.inr om⟩,om,om⟩
 .exact⟨⟨h1,.inl om⟩,om,om⟩
theorem fP{y:Nat}(hx:g.inc i x)(hy:g.inc i y)(hne:y≠x):y=g.oth i x:=by
 obtain⟨h1,h2⟩:=hx;obtain⟨_,h3⟩:=hy;have:=g.ok i h1;unfold Gr.oth;omega
inductive Conn(g:Gr)(S:Nat->Prop):Nat->Nat->Prop
 |refl {u:Nat}:S u->Conn g S u u
 |step {u v i:Nat}:Conn g S u v->g.inc i v->S (g.oth i v)->Conn g S u (g.oth i v)
theorem Conn.right(h:Conn g S u v):S v:=by
 cases h with
 |refl h=>exact h
 |step _ _ h=>exact h
theorem Conn.trans{w:Nat}(h1:Conn g S u v)(h2:Conn g S v w):Conn g S u w:=by
 induction h2 with
 |refl _=>exact h1
 |step _ a b ih=>exact .step ih a b
theorem Conn.edge(hu:S u)(hi:g.inc i u)(hv:S (g.oth i u)):Conn g S u (g.oth i u):=.step (.refl hu) hi hv
theorem Conn.symm(h:Conn g S u v):Conn g S v u:=by
 induction h with
 |refl h=>exact .refl h
 |@step v i h1 h2 h3 ih =>
   obtain⟨a,b,c⟩:=inc_oth h2;have:=Conn.edge (S:=S) h3 a (by rw[c];exact h1.right);rw[c]at this;exact this.trans ih
theorem Conn.mono{S':Nat->Prop}(h:Conn g S u v)(hs:∀z,S z->S' z):Conn g S' u v:=by
 induction h with
 |refl h=>exact .refl (hs _ h)
 |step _ a b ih=>exact .step ih a (hs _ b)
theorem Conn.stays{T:Nat->Prop}(h:Conn g S u v)(ht:∀u i,T u->g.inc i u->S (g.oth i u)->T (g.oth i u))(hu:T u):T v:=by
 induction h with
 |refl _=>exact hu
 |step _ a b ih=>exact ht _ _ ih a b
def Rel(g:Gr)(i k:Nat):Prop:=∃x,g.inc i x/\g.inc k x/\Conn g (·≠x) (g.oth i x) (g.oth k x)
theorem Rel.symm{i k:Nat}(h:Rel g i k):Rel g k i:=by
 obtain⟨x,a,b,c⟩:=h;exact⟨x,b,a,c.symm⟩
inductive Cls(g:Gr):Nat->Nat->Prop
 |refl {i:Nat}:Cls g i i
 |step {i j k:Nat}:Cls g i j->Rel g j k->Cls g i k
theorem Cls.trans{j:Nat}(h1:Cls g i j)(h2:Cls g j k):Cls g i k:=by
 induction h2 with
 |refl=>exact h1
 |step _ b ih=>exact .step ih b
theorem Cls.one(h:Rel g i k):Cls g i k:=.step .refl h
theorem Cls.symm{i k:Nat}(h:Cls g i k):Cls g k i:=by
 induction h with
 |refl=>exact .refl
 |step _ b ih=>exact(Cls.one b.symm).trans ih
def IsBlock(g:Gr)(b:List Nat):Prop:=b≠[]/\(∀i∈b,∀k∈b,Cls g i k)/\∀i∈b,∀k,Rel g i k->k∈b
theorem IsBlock.cls{b:List Nat}(h:IsBlock g b)(hi:i∈b)(hk:Cls g i k):k∈b:=by
 induction hk with
 |refl=>exact hi
 |step _ r ih=>exact h.2.2 _ ih _ r
structure DS where
 num:Nat->Nat
 low:Nat->Nat
 cnt:Nat
 stk:List Nat
 blk:List (List Nat)
def upd(f:Nat->Nat)(x v:Nat):Nat->Nat:=λz=>if z=x then v else f z
theorem upd_same:upd f x v x=v:=if_pos rfl
theorem upd_ne{z:Nat}(h:z≠x):upd f x v z=f z:=if_neg h
def DS.close(sort:List Nat->List Nat)(s:DS)(i:Nat):DS:={ s with blk:=s.blk++[sort (s.stk.drop (s.stk.idxOf i))],stk:=s.stk.take (s.stk.idxOf i)}
def enter(x:Nat)(s:DS):DS:={ s with cnt:=s.cnt+1,num:=upd s.num x (s.cnt+1),low:=upd s.low x (s.cnt+1)}
def edgeS(g:Gr)(sort:List Nat->List Nat)(vis:Nat->Nat->DS->DS)(x:Nat)(by_:Option Nat)(s:DS)(i:Nat):DS :=
 if by_=some i then s
 else if s.num (g.oth i x)=0 then
  let s2:=vis (g.oth i x) i { s with stk:=s.stk++[i]}
  let s3:DS:={ s2 with low:=upd s2.low x (min (s2.low x) (s2.low (g.oth i x)))}
  if s3.num x<=s3.low (g.oth i x)then s3.close sort i else s3
 else if s.num (g.oth i x)<s.num x then { s with stk:=s.stk++[i],low:=upd s.low x (min (s.low x) (s.num (g.oth i x)))}
 else s
def visit(g:Gr)(ends:Nat->List Nat)(sort:List Nat->List Nat):Nat->Nat->Option Nat->DS->DS
 |0,_,_,s=>s
 |f+1,x,by_,s=>(ends x).foldl (edgeS g sort (λy i s=>visit g ends sort f y (some i) s) x by_) (enter x s)
def unm(g:Gr)(s:DS):Nat:=(List.range g.n).countP λv=>s.num v==0
theorem jU{α:Type}{p q:α->Bool}:∀{l:List α},(∀x∈l,p x=true->q x=true)->l.countP p<=l.countP q
 |[],_=>ab _
 |a::l,h=>by
   have ih:=jU (l:=l) λx hx=>h x (aQ _ hx);rw[fp,fp];have ha:=h a (bt ..);cases hp:p a with
   |true=>rw[ha hp];simp;exact ih
   |false=>cases q a<;>simp<;>omega
theorem pw{α:Type}{p q:α->Bool}:∀{l:List α}{a:α},(∀x∈l,p x=true->q x=true)->a∈l->p a=false->q a=true->l.countP p<l.countP q
 |[],a,_,hm,_,_=>by cases hm
 |b::l,a,h,hm,hp,hq=>by
   rw[fp,fp];rcases au.1 hm with rfl|hm
   .have:=jU (l:=l) λx hx=>h x (aQ _ hx);rw[hp,hq];simp;omega
   .have ih:=pw (l:=l) (λx hx=>h x (aQ _ hx)) hm hp hq;have hb:=h b (bt ..);cases hp':p b with
    |true=>rw[hb hp'];simp;omega
    |false=>cases q b<;>simp<;>omega
variable {s s':DS}
theorem KY(h:∀v,s.num v≠0->s'.num v≠0):unm g s'<=unm g s:=by
 refine jU λv _ hv=>?_;have hv:s'.num v=0:=by simpa using hv
 have:s.num v=0:=Decidable.byContradiction λhc=>h v hc hv;simp[this]
theorem zz(h:∀v,s.num v≠0->s'.num v≠0)(hx:x<g.n)(h0:s.num x=0)(h1:s'.num x≠0):unm g s'<unm g s:=by
 refine pw (a:=x) (λv _ hv=>?_) (bm.2 hx) (by simpa using h1) (by simpa using h0);have hv:s'.num v=0:=by simpa using hv
 have:s.num v=0:=Decidable.byContradiction λhc=>h v hc hv;simp[this]
variable {g:Gr}
structure Lst(g:Gr)(l:Nat->Nat):Prop where
 cls:∀i,i<g.m->Cls g i (l i)
 le:∀i,i<g.m->l i<=i
 same:∀i k,i<g.m->k<g.m->Rel g i k->l i=l k
theorem Ay(h:Cls g i k)(hi:i<g.m):k<g.m:=by
 induction h with
 |refl=>exact hi
 |step _ r _=>obtain⟨x,_,b,_⟩:=r;exact b.1
theorem Lst.eqc{l:Nat->Nat}(h:Lst g l)(hi:i<g.m)(hc:Cls g i k):l i=l k:=by
 induction hc with
 |refl=>rfl
 |step a r ih=>exact ih.trans (h.same _ _ (Ay a hi) (by obtain⟨x,_,b,_⟩:=r;exact b.1) r)
theorem Lst.uniq{l:Nat->Nat}(h:Lst g l)(h':Lst g l')(hi:i<g.m):l i=l' i:=by
 have a:l i<=l' i:=by
  rw[h.eqc hi (h'.cls i hi)];exact h.le _ (Ay (h'.cls i hi) hi)
 have b:l' i<=l i:=by
  rw[h'.eqc hi (h.cls i hi)];exact h'.le _ (Ay (h.cls i hi) hi)
 omega
theorem Lst.iff{l:Nat->Nat}(h:Lst g l)(hi:i<g.m)(hk:k<g.m):l i=l k↔Cls g i k:=by
 refine⟨λe=>?_,h.eqc hi⟩;have:=(h.cls k hk).symm;rw[<-e]at this;exact(h.cls i hi).trans this
def canon(m:Nat)(l:Nat->Nat):List (List Nat):=((List.range m).filter λi=>l i==i).map λi=>(List.range m).filter λk=>l k==i
theorem canon_congr{m:Nat}{l:Nat->Nat}(h:∀i,i<m->l i=l' i):canon m l=canon m l':=by
 unfold canon;have e1:((List.range m).filter λi=>l i==i)=(List.range m).filter λi=>l' i==i:=Ei λi hi=>by rw[h i (bm.1 hi)]
 rw[e1];refine eA λi _=>?_;exact Ei λk hk=>by rw[h k (bm.1 hk)]
end Go.Blk
namespace Go.Proofs.YtmibmlioidpogaaGreatDoor
open Go.Am
def gW(n:Nat)(ev:AV):List AV:=[.int .i64 (n:Nat),ev]
def tlE(E:List (Int×Int))(i:Nat):Nat:=((E.getD i (0,0)).1).toNat
def hdE(E:List (Int×Int))(i:Nat):Nat:=((E.getD i (0,0)).2).toNat
def InG(n:Nat)(E:List (Int×Int)):Prop:=∀i (hi:i<E.length),E[i]=(((tlE E i:Nat):Int),((hdE E i:Nat):Int))/\tlE E i<n/\hdE E i<n
open Go.Am
open Go.Blk
def grE(n:Nat)(E:List (Int×Int))(hE:InG n E)(hl:∀i,i<E.length->tlE E i≠hdE E i):Gr:=⟨E.length,n,tlE E,hdE E,λi hi=>⟨(hE i hi).2.1,(hE i hi).2.2,hl i hi⟩⟩
end Go.Proofs.YtmibmlioidpogaaGreatDoor
namespace Go.Pla
open Go.Blk
variable {X:Nat->Bool}{a b c:List Nat}{e k v x y:Nat}
def par{α:Type}:List α->(α->Bool)->Bool
 |[],_=>false
 |e::l,p=>p e^^par l p
theorem bH{α:Type}:∀{l:List α}{p q:α->Bool},(∀e∈l,p e=q e)->par l p=par l q
 |[],_,_,_=>rfl
 |e::l,p,q,h=>by
   simp only[par];rw[h e (by simp),bH (l:=l) λk hk=>h k (by simp[hk])]
theorem eQ{α:Type}{p q:α->Bool}:∀{l:List α},par l (λe=>p e^^q e)=(par l p^^par l q)
 |[]=>rfl
 |e::l=>by
   simp only[par];rw[eQ (l:=l)];cases p e<;>cases q e<;>cases par l p<;>cases par l q<;>rfl
theorem ft{α:Type}{p:α->Bool}:∀{l:List α},(∀e∈l,p e=false)->par l p=false
 |[],_=>rfl
 |e::l,h=>by simp only[par];rw[h e (by simp),ft λk hk=>h k (by simp[hk])];rfl
theorem iu{α:Type}{c:Bool}{p:α->Bool}:∀{l:List α},par l (λe=>c&&p e)=(c&&par l p)
 |[]=>by cases c<;>rfl
 |e::l=>by
   simp only[par];rw[iu (l:=l)];cases c<;>cases p e<;>cases par l p<;>rfl
theorem jT{α:Type}{p:α->Bool}:∀{l m:List α},par (l++m) p=(par l p^^par m p)
 |[],m=>by simp[par]
 |e::l,m=>by
   simp only[aB,par];rw[jT (l:=l)];cases p e<;>cases par l p<;>cases par m p<;>rfl
theorem yg{α:Type}{p:α->Bool}{l m:List α}(h:l.Perm m):par l p=par m p:=by
 induction h with
 |nil=>rfl
 |cons x _ ih=>simp only[par];rw[ih]
 |swap x y l=>simp only[par];cases p x<;>cases p y<;>cases par l p<;>rfl
 |trans _ _ h1 h2=>rw[h1,h2]
theorem kA{α β:Type}{p:α->β->Bool}{m:List β}:∀{l:List α},par l (λe=>par m (λf=>p e f))=par m (λf=>par l (λe=>p e f))
 |[]=>by simp only[par];exact(ft λ_ _=>rfl).symm
 |e::l=>by
   simp only[par];rw[kA (l:=l),<-eQ]
theorem dU{k:Nat}{p:Nat->Bool}:∀{l:List Nat},l.Nodup->k∈l->par l (λe=>(e==k)&&p e)=p k
 |[],_,h=>by simp at h
 |e::l,nd,h=>by
   simp only[par];rw[aS]at nd;by_cases he:e=k
   .subst he;rw[ft (l:=l) λj hj=>by
     have:j≠e:=λx=>nd.1 (x▸hj);simp[this]]
    simp
   .rw[dU (l:=l) nd.2 (by simpa[Ne.symm he]using h)];have:(e==k)=false:=by simp[he]
    rw[this];cases p k<;>rfl
theorem Fp{p:Nat->Bool}{l:List Nat}(h:k∉l):par l (λe=>(e==k)&&p e)=false :=
 ft λe he=>by
  have:e≠k:=λx=>h (x▸he);simp[this]
variable {g:Gr}{B:List Nat}{Φ:Type}
def at_(g:Gr)(e v:Nat):Bool:=(g.tl e==v)^^(g.hd e==v)
def Even(g:Gr)(B:List Nat)(X:Nat->Bool):Prop:=∀v,par B (λe=>X e&&at_ g e v)=false
theorem Even.congr{Y:Nat->Bool}(h:Even g B X)(hx:∀e∈B,X e=Y e):Even g B Y:=λv=>by
 rw[<-h v];exact bH λe he=>by rw[hx e he]
theorem Even.xor{Y:Nat->Bool}(h:Even g B X)(h':Even g B Y):Even g B (λe=>X e^^Y e):=λv=>by
 rw[bH (q:=λe=>(X e&&at_ g e v)^^(Y e&&at_ g e v)) (λe _=>by dsimp only;cases X e<;>cases Y e<;>cases at_ g e v<;>rfl),eQ,h v,h' v];rfl
theorem wB:Even g B (λ_=>false):=λ_=>ft λ_ _=>rfl
theorem Even.sum{α:Type}{X:α->Nat->Bool}:∀{l:List α},(∀f∈l,Even g B (X f))->Even g B (λe=>par l (λf=>X f e))
 |[],_=>wB
 |f::l,h=>(h f (by simp)).xor (Even.sum (l:=l) λk hk=>h k (by simp[hk]))
structure Dual(g:Gr)(B:List Nat)(l r:Nat->Φ):Prop where
 two:∀S:Φ->Bool,Even g B (λe=>S (l e)^^S (r e))
 one:∀X,Even g B X->∃S:Φ->Bool,∀e∈B,X e=(S (l e)^^S (r e))
def Bond(g:Gr)(B:List Nat):Prop:=∀v e k,e∈B->k∈B->at_ g e v=true->at_ g k v=true->e≠k->∃Z,Even g B Z/\∀j∈B,at_ g j v=true->Z j=((j==e)||(j==k))
def Link(g:Gr)(B:List Nat):Prop:=∀P:Nat->Bool,(∀v e k,e∈B->k∈B->at_ g e v=true->at_ g k v=true->P e=P k)->∀e∈B,∀k∈B,P e=P k
theorem py(nd:B.Nodup)(hb:Bond g B){Y:Nat->Bool}(h:∀X,Even g B X->par B (λe=>X e&&(Y e&&at_ g e v))=false)(he:e∈B)(hk:k∈B)(hev:at_ g e v=true)(hkv:at_ g k v=true):Y e=Y k:=by
 by_cases hne:e=k
 .rw[hne]
 obtain⟨Z,hZ,hz⟩:=hb v e k he hk hev hkv hne;have h1:=h Z hZ;rw[bH (q:=λj=>((j==e)&&Y j)^^((j==k)&&Y j)) (λj hj=>by
  by_cases hjv:at_ g j v=true
  .rw[hz j hj hjv,hjv];by_cases h1:j=e
   .subst h1;have:(j==k)=false:=by simp[hne]
    simp[this]
   .have:(j==e)=false:=by simp[h1]
    simp[this]
  .have a:j≠e:=λx=>hjv (x▸hev);have b:j≠k:=λx=>hjv (x▸hkv);have a':(j==e)=false:=by simp[a]
   have b':(j==k)=false:=by simp[b]
   have c:at_ g j v=false:=by simpa using hjv
   rw[a',b',c];cases Z j<;>cases Y j<;>rfl),eQ,dU nd he,dU nd hk]at h1
 cases hy:Y e<;>cases hy':Y k<;>simp[hy,hy']at h1 |-
variable {l r:Nat->Φ}
theorem Dual.conn(nd:B.Nodup)(d:Dual g B l r)(hb:Bond g B)(hl:Link g B){T:Φ->Bool}(h:∀e∈B,T (l e)=T (r e))(he:e∈B)(hk:k∈B):T (l e)=T (l k):=by
 refine hl (λj=>T (l j)) (λv e k he hk hev hkv=>py nd hb (Y:=λj=>T (l j)) (λX hX=>?_) he hk hev hkv) e he k hk;obtain⟨S,hS⟩:=d.one X hX;have h1:=d.two (λa=>S a&&T a) v;rw[<-h1];refine bH λj hj=>?_;dsimp only;rw[hS j hj,<-h j hj];cases S (l j)<;>cases S (r j)<;>cases T (l j)<;>cases at_ g j v<;>rfl
def Circ(g:Gr)(B:List Nat)(Z:Nat->Bool):Prop:=Even g B Z/\∀Y,Even g B Y->(∀e∈B,Y e=true->Z e=true)->(∀e∈B,Y e=false)\/(∀e∈B,Y e=Z e)
structure Ext(g:Gr)(B:List Nat)(l r:Nat->Φ)(H:Nat->Bool)(nf:Nat)(Z:Nat->Nat->Bool)(pf:Φ->Nat):Prop where
 side:∀f,f<nf->∀e∈B,Z f e=((pf (l e)==f)^^(pf (r e)==f))
 lt:∀e∈B,pf (l e)<nf/\pf (r e)<nf
 lay:∀e∈B,H e=(pf (l e) != pf (r e))
variable {H:Nat->Bool}{nf:Nat}{Z:Nat->Nat->Bool}{pf:Φ->Nat}
theorem Ext.step(nd:B.Nodup)(d:Dual g B l r)(hb:Bond g B)(hl:Link g B)(x:Ext g B l r H nf Z pf){f:Nat}(hf:f<nf)(hc:Circ g B (Z f)){e0:Nat}(h0:e0∈B)(hz0:Z f e0=true){w Z1 Z2:Nat->Bool}
 (hw:∀e∈B,w e=true->pf (l e)=f/\pf (r e)=f) (he1:Even g B Z1) (h1:∀e∈B,Z1 e=true->Z f e=true\/w e=true) (h1w:∀e∈B,w e=true->Z1 e=true)
 (h2:∀e∈B,(Z1 e^^Z2 e)=Z f e):∃pf':Φ->Nat,Ext g B l r (λe=>H e||w e) (nf+1) (λk e=>if k=f then Z1 e else if k=nf then Z2 e else Z k e) pf'/\(∀a,pf a≠f->pf' a=pf a)/\(∀a,pf a=f->pf' a=f\/pf' a=nf):=by
 obtain⟨S,hS⟩:=d.one Z1 he1;have hT:=d.two (λa=>S a&&!(pf a==f));have sub:∀e∈B,((S (l e)&&!(pf (l e)==f))^^(S (r e)&&!(pf (r e)==f)))=true->Z f e=true:=by
  intro e he h;rw[x.side f hf e he];have hs:=hS e he;have hwe:=hw e he;have h1e:=h1 e he;rw[x.side f hf e he]at h1e;by_cases a:pf (l e)=f<;>by_cases b:pf (r e)=f
  .simp[a,b]at h
  .simp[a,b]
  .simp[a,b]
  .simp only[a,b,beq_eq_false_iff_ne.2 a,beq_eq_false_iff_ne.2 b,cj,gY,dr]at h h1e |-;rw[h]at hs;rcases h1e hs with q|q
   .exact q
   .exact absurd (hwe q).1 a
 have key:∃S':Φ->Bool,(∀e∈B,Z1 e=(S' (l e)^^S' (r e)))/\(∀e∈B,(S' (l e)=true->pf (l e)=f)/\(S' (r e)=true->pf (r e)=f)):=by
  have hz0':=x.side f hf e0 h0;rw[hz0]at hz0';rcases hc.2 _ hT sub with hn|ha
  .refine⟨S,hS,?_⟩;have hcon:∀e∈B,(S (l e)&&!(pf (l e)==f))=false/\(S (r e)&&!(pf (r e)==f))=false:=by
    have hq:∀e∈B,(S (l e)&&!(pf (l e)==f))=(S (r e)&&!(pf (r e)==f)):=λe he=>by
     have:=hn e he;revert this;cases (S (l e)&&!(pf (l e)==f))<;>cases (S (r e)&&!(pf (r e)==f))<;>simp
    have h00:(S (l e0)&&!(pf (l e0)==f))=false:=by
     by_cases a:pf (l e0)=f
     .simp[a]
     .have b:pf (r e0)=f:=by
       by_cases b:pf (r e0)=f
       .exact b
       .rw[beq_eq_false_iff_ne.2 a,beq_eq_false_iff_ne.2 b]at hz0';cases hz0'
      rw[hq e0 h0];simp[b]
    intro e he;have h3:=d.conn nd hb hl (T:=λa=>S a&&!(pf a==f)) hq he h0;exact⟨by rw[h3,h00],by rw[<-hq e he,h3,h00]⟩
   intro e he;obtain⟨a,b⟩:=hcon e he;constructor
   .intro h;rw[h]at a;simpa using a
   .intro h;rw[h]at b;simpa using b
  .refine⟨λa=>!(S a),λe he=>?_,?_⟩
   .rw[hS e he];dsimp only;cases S (l e)<;>cases S (r e)<;>rfl
   have hq:∀e∈B,((S (l e)&&!(pf (l e)==f))^^!(pf (l e)==f))=((S (r e)&&!(pf (r e)==f))^^!(pf (r e)==f)):=λe he=>by
    have:=ha e he;rw[x.side f hf e he]at this;revert this;cases S (l e)<;>cases S (r e)<;>cases pf (l e)==f<;>cases pf (r e)==f<;>simp
   have h00:((S (l e0)&&!(pf (l e0)==f))^^!(pf (l e0)==f))=false:=by
    by_cases a:pf (l e0)=f
    .simp[a]
    .have b:pf (r e0)=f:=by
      by_cases b:pf (r e0)=f
      .exact b
      .rw[beq_eq_false_iff_ne.2 a,beq_eq_false_iff_ne.2 b]at hz0';cases hz0'
     rw[hq e0 h0];simp[b]
   intro e he;have h3:=d.conn nd hb hl (T:=λa=>(S a&&!(pf a==f))^^!(pf a==f)) hq he h0;have a:((S (l e)&&!(pf (l e)==f))^^!(pf (l e)==f))=false:=by rw[h3,h00]
   have b:((S (r e)&&!(pf (r e)==f))^^!(pf (r e)==f))=false:=by rw[<-hq e he,h3,h00]
   constructor
   .intro h;by_cases q:pf (l e)=f
    .exact q
    .have:S (l e)=false:=by simpa using h
     simp[q,this]at a
   .intro h;by_cases q:pf (r e)=f
    .exact q
    .have:S (r e)=false:=by simpa using h
     simp[q,this]at b
 obtain⟨S',hS',hin⟩:=key;refine⟨λa=>if pf a=f then(if S' a=true then f else nf)else pf a,⟨?_,?_,?_⟩,λa h=>by simp[h],λa h=>by simp only[h,if_true];split<;>simp⟩
 .intro k hk e he;have hlt:=x.lt e he;have hse:=hS' e he;have hie:=hin e he;have h2e:=h2 e he;have hside:=x.side f hf e he;by_cases hkf:k=f
  .subst hkf;simp only[if_true];rw[hse];have q1:((if pf (l e)=k then(if S' (l e)=true then k else nf)else pf (l e))==k)=S' (l e):=by
    by_cases a:pf (l e)=k
    .cases hs:S' (l e)
     .simp[a];omega
     .simp[a]
    .have:S' (l e)=false:=by
      cases hs:S' (l e)
      .rfl
      .exact absurd (hie.1 hs) a
     simp[a,this]
   have q2:((if pf (r e)=k then(if S' (r e)=true then k else nf)else pf (r e))==k)=S' (r e):=by
    by_cases a:pf (r e)=k
    .cases hs:S' (r e)
     .simp[a];omega
     .simp[a]
    .have:S' (r e)=false:=by
      cases hs:S' (r e)
      .rfl
      .exact absurd (hie.2 hs) a
     simp[a,this]
   rw[q1,q2]
  .by_cases hkn:k=nf
   .subst hkn;simp only[hkf,if_false,if_true];have q1:((if pf (l e)=f then(if S' (l e)=true then f else k)else pf (l e))==k)=((pf (l e)==f)^^S' (l e)):=by
     by_cases a:pf (l e)=f
     .cases hs:S' (l e)
      .simp[a]
      .simp[a];omega
     .have:S' (l e)=false:=by
       cases hs:S' (l e)
       .rfl
       .exact absurd (hie.1 hs) a
      rw[this,if_neg a,beq_eq_false_iff_ne.2 a];simp;omega
    have q2:((if pf (r e)=f then(if S' (r e)=true then f else k)else pf (r e))==k)=((pf (r e)==f)^^S' (r e)):=by
     by_cases a:pf (r e)=f
     .cases hs:S' (r e)
      .simp[a]
      .simp[a];omega
     .have:S' (r e)=false:=by
       cases hs:S' (r e)
       .rfl
       .exact absurd (hie.2 hs) a
      rw[this,if_neg a,beq_eq_false_iff_ne.2 a];simp;omega
    rw[q1,q2];rw[hside,hse]at h2e;revert h2e;cases Z2 e<;>cases S' (l e)<;>cases S' (r e)<;>cases pf (l e)==f<;>cases pf (r e)==f<;>simp
   .have hk':k<nf:=om;simp only[hkf,hkn,if_false];rw[x.side k hk' e he];have q:∀a,((if pf a=f then(if S' a=true then f else nf)else pf a)==k)=(pf a==k):=λa=>by
     by_cases b:pf a=f
     .have:(pf a==k)=false:=by rw[b];simp;omega
      rw[this];simp only[b,if_true];split<;>simp<;>omega
     .simp[b]
    rw[q,q]
 .intro e he;have hlt:=x.lt e he;constructor<;>(split<;>(try split)<;>omega)
 .intro e he;have hlt:=x.lt e he;have hse:=hS' e he;have hie:=hin e he;have hH:=x.lay e he;have hwe:=hw e he;have h1e:=h1 e he;have h1we:=h1w e he;rw[hH];by_cases a:pf (l e)=f<;>by_cases b:pf (r e)=f
  .have hz:Z f e=false:=by rw[x.side f hf e he];simp[a,b]
   have:w e=Z1 e:=by
    cases hw1:w e
    .cases hz1:Z1 e
     .rfl
     .rcases h1e hz1 with q|q
      .rw[hz]at q;simp at q
      .rw[hw1]at q;simp at q
    .exact(h1we hw1).symm
   rw[this,hse];simp only[a,b,if_true];cases S' (l e)<;>cases S' (r e)<;>simp<;>omega
  .have hw0:w e=false:=by
    cases hw1:w e
    .rfl
    .exact absurd (hwe hw1).2 b
   rw[hw0,if_pos a,if_neg b,a,iL];have b':=Ne.symm b;split
   .rfl
   .rw[bne_iff_ne.2 b',bne_iff_ne.2 (show nf≠pf (r e) by omega)]
  .have hw0:w e=false:=by
    cases hw1:w e
    .rfl
    .exact absurd (hwe hw1).1 a
   rw[hw0,if_neg a,if_pos b,b,iL];split
   .rfl
   .rw[bne_iff_ne.2 a,bne_iff_ne.2 (show pf (l e)≠nf by omega)]
  .have hw0:w e=false:=by
    cases hw1:w e
    .rfl
    .exact absurd (hwe hw1).1 a
   simp[a,b,hw0]
open Go.Blk
variable {g:Gr}{B:List Nat}{Φ:Type}{l r:Nat->Φ}{H:Nat->Bool}{nf:Nat}{Z:Nat->Nat->Bool}{pf:Φ->Nat}
theorem Ext.same(nd:B.Nodup)(d:Dual g B l r)(hb:Bond g B)(x:Ext g B l r H nf Z pf)(hv:∀e∈B,at_ g e v=true->H e=false)(he:e∈B)(hk:k∈B)(hev:at_ g e v=true)(hkv:at_ g k v=true):pf (l e)=pf (l k):=by
 have:=py nd hb (Y:=λj=>pf (l j)==pf (l e)) (v:=v) (λX hX=>?_) he hk hev hkv
 .simp only[beq_self_eq_true]at this;exact(beq_iff_eq.1 this.symm).symm
 obtain⟨S,hS⟩:=d.one X hX;have h1:=d.two (λa=>S a&&pf a==pf (l e)) v;rw[<-h1];refine bH λj hj=>?_;dsimp only;by_cases hjv:at_ g j v=true
 .have hl:=x.lay j hj;rw[hv j hj hjv]at hl;have hl':pf (l j)=pf (r j):=by simpa using hl.symm
  rw[hS j hj,<-hl'];cases S (l j)<;>cases S (r j)<;>cases pf (l j)==pf (l e)<;>cases at_ g j v<;>rfl
 .have:at_ g j v=false:=by simpa using hjv
  rw[this];simp
theorem Ext.hangs(nd:B.Nodup)(d:Dual g B l r)(hb:Bond g B)(x:Ext g B l r H nf Z pf)(he:e∈B)(hk:k∈B)(hev:at_ g e v=true)(hkv:at_ g k v=true)(hne:H e=false)(hkh:H k=true):∃j∈B,at_ g j v=true/\Z (pf (l e)) j=true:=by
 refine Classical.byContradiction λhno=>?_;have hno':∀j∈B,at_ g j v=true->Z (pf (l e)) j=false:=λj hj hjv=>by
  cases h:Z (pf (l e)) j
  .rfl
  .exact absurd ⟨j,hj,hjv,h⟩ hno
 have hlt:=(x.lt e he).1;have hiff:∀j∈B,at_ g j v=true->(pf (l j)==pf (l e))=(pf (r j)==pf (l e)):=λj hj hjv=>by
  have h1:=hno' j hj hjv;rw[x.side _ hlt j hj]at h1;revert h1;cases pf (l j)==pf (l e)<;>cases pf (r j)==pf (l e)<;>simp
 have:=py nd hb (Y:=λj=>pf (l j)==pf (l e)) (v:=v) (λX hX=>?_) he hk hev hkv
 .have a:pf (l k)=pf (l e):=by simpa using this.symm
  have b:=hiff k hk hkv;rw[a]at b;have b':pf (r k)=pf (l e):=by simpa using b.symm
  rw[x.lay k hk,a,b']at hkh;simp at hkh
 obtain⟨S,hS⟩:=d.one X hX;have h1:=d.two (λa=>S a&&pf a==pf (l e)) v;rw[<-h1];refine bH λj hj=>?_;dsimp only;by_cases hjv:at_ g j v=true
 .rw[hS j hj,<-hiff j hj hjv];cases S (l j)<;>cases S (r j)<;>cases pf (l j)==pf (l e)<;>cases at_ g j v<;>rfl
 .have:at_ g j v=false:=by simpa using hjv
  rw[this];simp
def jn(g:Gr)(e x y:Nat):Bool:=(g.tl e==x&&g.hd e==y)||(g.tl e==y&&g.hd e==x)
theorem jn_symm:jn g e x y=jn g e y x:=by
 unfold jn;exact Bool.or_comm _ _
theorem jn_iff:jn g e x y=true↔(g.tl e=x/\g.hd e=y)\/(g.tl e=y/\g.hd e=x):=by
 simp[jn]
structure Pln(g:Gr)(B:List Nat):Prop where
 nd:B.Nodup
 lt:∀e∈B,e<g.m
 one:∀e∈B,∀k∈B,∀x y,jn g e x y=true->jn g k x y=true->e=k
theorem Pln.ne(p:Pln g B)(he:e∈B):g.tl e≠g.hd e:=(g.ok e (p.lt e he)).2.2
theorem Pln.jne(p:Pln g B)(he:e∈B)(h:jn g e x y=true):x≠y:=by
 have:=p.ne he;rcases jn_iff.1 h with⟨a,b⟩|⟨a,b⟩<;>omega
theorem Pln.jat(p:Pln g B)(he:e∈B)(h:jn g e x y=true):at_ g e v=((x==v)^^(y==v)):=by
 unfold at_;rcases jn_iff.1 h with⟨a,b⟩|⟨a,b⟩
 .rw[a,b]
 .rw[a,b,Bool.xor_comm]
def wk(g:Gr):List Nat->Nat->Bool
 |[],_=>false
 |[_],_=>false
 |x::y::t,e=>jn g e x y^^wk g (y::t) e
def Ch(g:Gr)(B:List Nat):List Nat->Prop
 |[]=>True
 |[_]=>True
 |x::y::t=>(∃e∈B,jn g e x y=true)/\Ch g B (y::t)
def lst:Nat->List Nat->Nat
 |x,[]=>x
 |_,y::t=>lst y t
theorem vT{x y:Nat}:∀{t s:List Nat},lst x (t++y::s)=lst y s
 |[],_=>rfl
 |z::t,s=>by rw[aB,lst];exact vT
theorem rX(p:Pln g B){v:Nat}:∀{x:Nat}{t:List Nat},Ch g B (x::t)->par B (λe=>wk g (x::t) e&&at_ g e v)=((x==v)^^(lst x t==v))
 |x,[],_=>by
   rw[ft λ_ _=>by simp[wk]];simp[lst]
 |x,y::t,h=>by
   obtain⟨⟨e,he,hj⟩,h2⟩:=h;have ih:=rX p (v:=v) h2;rw[bH (q:=λk=>(jn g k x y&&at_ g k v)^^(wk g (y::t) k&&at_ g k v)) (λk _=>by
    simp only[wk];cases jn g k x y<;>cases wk g (y::t) k<;>cases at_ g k v<;>rfl),eQ,ih,
    bH (q:=λk=>(k==e)&&at_ g k v) (λk hk=>by
     by_cases hke:k=e
     .subst hke;simp[hj]
     .have:jn g k x y=false:=by
       cases h:jn g k x y
       .rfl
       .exact absurd (p.one k hk e he x y h hj) hke
      simp[this,hke]),dU p.nd he,p.jat he hj]
   simp only[lst];cases x==v<;>cases y==v<;>cases lst y t==v<;>rfl
theorem hU{x e:Nat}:∀{a b:List Nat},wk g (a++x::b) e=(wk g (a++[x]) e^^wk g (x::b) e)
 |[],b=>by simp[wk]
 |[y],b=>by simp[wk]
 |y::z::a,b=>by
   have ih:=hU (x:=x) (e:=e) (a:=z::a) (b:=b);simp only[aB,wk]at ih |-;rw[ih];cases jn g e y z<;>cases wk g (z::(a++[x])) e<;>cases wk g (x::b) e<;>rfl
theorem im{x:Nat}:∀{a b:List Nat},Ch g B (a++x::b)↔Ch g B (a++[x])/\Ch g B (x::b)
 |[],b=>by simp[Ch]
 |[y],b=>by simp[Ch]
 |y::z::a,b=>by
   have ih:=im (x:=x) (a:=z::a) (b:=b);simp only[aB,Ch]at ih |-;rw[ih,and_assoc]
theorem vu{e:Nat}:∀{a:List Nat},wk g a.reverse e=wk g a e
 |[]=>rfl
 |[_]=>rfl
 |x::y::t=>by
   have ih:=vu (e:=e) (a:=y::t);simp only[lC,bD,aB,aW]at ih |-;rw[hU,ih,wk,jn_symm];simp[wk,Bool.xor_comm]
theorem wO:∀{a:List Nat},Ch g B a.reverse↔Ch g B a
 |[]=>by simp[Ch]
 |[_]=>by simp[Ch]
 |x::y::t=>by
   have ih:=wO (a:=y::t);simp only[lC,bD,aB,aW]at ih |-;rw[im,ih];simp only[Ch,and_true];rw[and_comm];constructor
   .rintro⟨⟨e,he,h⟩,h2⟩;exact⟨⟨e,he,jn_symm.trans h⟩,h2⟩
   .rintro⟨⟨e,he,h⟩,h2⟩;exact⟨⟨e,he,jn_symm.trans h⟩,h2⟩
theorem lR{e:Nat}:∀{a:List Nat},wk g a e=true->∃p x y q,a=p++x::y::q/\jn g e x y=true
 |[],h=>by simp[wk]at h
 |[_],h=>by simp[wk]at h
 |x::y::t,h=>by
   by_cases hj:jn g e x y=true
   .exact⟨[],x,y,t,rfl,hj⟩
   .have hj':jn g e x y=false:=by simpa using hj
    rw[wk,hj',et]at h;obtain⟨p,a,b,q,h1,h2⟩:=lR h;exact⟨x::p,a,b,q,by rw[h1];rfl,h2⟩
theorem xr(p:Pln g B)(he:e∈B)(h:wk g a e=true)(hv:at_ g e v=true):v∈a:=by
 obtain⟨s,x,y,q,rfl,hj⟩:=lR h;rw[p.jat he hj]at hv;by_cases a:x=v
 .subst a;simp
 by_cases b:y=v
 .subst b;simp
 rw[beq_eq_false_iff_ne.2 a,beq_eq_false_iff_ne.2 b]at hv;cases hv
theorem kj(p:Pln g B)(he:e∈B)(hv:at_ g e v=true)(h:v∉a):wk g a e=false:=by
 cases hw:wk g a e
 .rfl
 .exact absurd (xr p he hw hv) h
def cy(g:Gr):List Nat->Nat->Bool
 |[],_=>false
 |x::t,e=>wk g (x::t++[x]) e
def Cc(g:Gr)(B:List Nat):List Nat->Prop
 |[]=>False
 |x::t=>Ch g B (x::t++[x])/\(x::t).Nodup/\3<=(x::t).length
theorem qa:cy g (a++b) e=cy g (b++a) e:=by
 cases a with
 |nil=>simp
 |cons x a =>
   cases b with
   |nil=>simp
   |cons y b =>
     show wk g (x::(a++y::b)++[x]) e=wk g (y::(b++x::a)++[y]) e;have h1:x::(a++y::b)++[x]=(x::a)++y::(b++[x]):=by simp
     have h2:y::(b++x::a)++[y]=(y::b)++x::(a++[y]):=by simp
     rw[h1,h2,hU,hU (x:=x),Bool.xor_comm];rfl
theorem oN(h:Cc g B (a++b)):Cc g B (b++a):=by
 cases a with
 |nil=>simpa using h
 |cons x a =>
   cases b with
   |nil=>simpa using h
   |cons y b =>
     obtain⟨h1,h2,h3⟩:=h;have e1:x::(a++y::b)++[x]=(x::a)++y::(b++[x]):=by simp
     have e2:y::(b++x::a)++[y]=(y::b)++x::(a++[y]):=by simp
     refine⟨?_,?_,?_⟩
     .show Ch g B (y::(b++x::a)++[y]);change Ch g B (x::(a++y::b)++[x])at h1;rw[e1,im]at h1;rw[e2,im];exact⟨h1.2,h1.1⟩
     .exact(tL (l₁:=x::a) (l₂:=y::b)).nodup h2
     .simp at h3;show 3<=(y::(b++x::a)).length;simp;omega
theorem iU(p:Pln g B)(h:Cc g B c):Even g B (cy g c):=by
 cases c with
 |nil=>exact h.elim
 |cons x t =>
   intro v;have:=rX p (v:=v) (x:=x) (t:=t++[x]) h.1;rw[vT]at this;simp only[lst,qp]at this;exact this
theorem uT(p:Pln g B){z:Nat}{s:List Nat}(hc:Cc g B (y::z::(s++[x]))){Y:Nat->Bool}(hY:par B (λe=>Y e&&at_ g e y)=false)(hs:∀e∈B,Y e=true->cy g (y::z::(s++[x])) e=true)(he:e∈B)(hk:k∈B)(hje:jn g e x y=true)(hjk:jn g k y z=true):Y e=Y k:=by
 obtain⟨_,hn,_⟩:=hc;have hxz:x≠z:=by
  intro h;subst h;simp[aS]at hn
 have hek:e≠k:=by
  intro h;subst h;have:=p.ne he;rcases jn_iff.1 hje with⟨a,b⟩|⟨a,b⟩<;>rcases jn_iff.1 hjk with⟨c,d⟩|⟨c,d⟩<;>omega
 have h1:=hY;rw[bH (q:=λj=>((j==e)&&Y j)^^((j==k)&&Y j)) (λj hj=>by
  by_cases hjv:at_ g j y=true
  .rw[hjv,gY];by_cases a:j=e
   .subst a;have:(j==k)=false:=by simp[hek]
    simp[this]
   .by_cases b:j=k
    .subst b;have:(j==e)=false:=by simp[a]
     simp[this]
    .have:Y j=false:=by
      cases hy:Y j
      .rfl
      .have hz:=hs j hj hy;have e1:y::z::(s++[x])++[y]=y::z::(s++[x,y]):=by simp
       change wk g (y::z::(s++[x])++[y]) j=true at hz;rw[e1,wk]at hz;have e2:z::(s++[x,y])=(z::s)++x::[y]:=by simp
       rw[e2,hU]at hz;have n1:jn g j y z=false:=by
        cases h:jn g j y z
        .rfl
        .exact absurd (p.one j hj k hk y z h hjk) b
       have n2:jn g j x y=false:=by
        cases h:jn g j x y
        .rfl
        .exact absurd (p.one j hj e he x y h hje) a
       have n3:wk g (z::s++[x]) j=false:=kj p hj hjv (by
        simp only[aS]at hn;simpa using hn.1)
       rw[n1,n3]at hz;simp[wk,n2]at hz
     simp[this]
  .have a:j≠e:=λq=>hjv (by rw[q,p.jat he hje];simp[p.jne he hje]);have b:j≠k:=λq=>hjv (by rw[q,p.jat hk hjk];simp[Ne.symm (p.jne hk hjk)]);have c:at_ g j y=false:=by simpa using hjv
   rw[c,beq_eq_false_iff_ne.2 a,beq_eq_false_iff_ne.2 b];simp),eQ,dU p.nd he,dU p.nd hk]at h1
 cases hy:Y e<;>cases hy':Y k<;>simp[hy,hy']at h1 |-
def ro:List Nat->List Nat
 |[]=>[]
 |x::t=>t++[x]
theorem zK:∀{p q:List Nat},Nat.repeat ro p.length (p++q)=q++p
 |[],q=>by simp[Nat.repeat]
 |x::p,q=>by
   have:∀n (c:List Nat),Nat.repeat ro (n+1) c=Nat.repeat ro n (ro c):=by
    intro n;induction n with
    |zero=>intro c;rfl
    |succ n ih=>intro c;rw[Nat.repeat,ih];rfl
   rw[aq,this];show Nat.repeat ro p.length (p++q++[x])=_;rw[bD,zK];simp
theorem cc_ro(h:Cc g B c):Cc g B (ro c):=by
 cases c with
 |nil=>exact h
 |cons x t=>exact oN (a:=[x]) h
theorem KP:cy g (ro c) e=cy g c e:=by
 cases c with
 |nil=>rfl
 |cons x t=>exact(qa (a:=[x]) (b:=t)).symm
theorem BQ(p:Pln g B)(hc:Cc g B c):Circ g B (cy g c):=by
 refine⟨iU p hc,λY hY hs=>?_⟩;have first:∀n,∃y z s,Nat.repeat ro n c=y::z::s/\s≠[]/\Cc g B (y::z::s)/\(∀e∈B,cy g (y::z::s) e=cy g c e):=by
  intro n;have h1:Cc g B (Nat.repeat ro n c)/\∀e,cy g (Nat.repeat ro n c) e=cy g c e:=by
   induction n with
   |zero=>exact⟨hc,λ_=>rfl⟩
   |succ n ih=>exact⟨cc_ro ih.1,λe=>(KP).trans (ih.2 e)⟩
  revert h1;generalize Nat.repeat ro n c=d;intro h1
  match d,h1 with
  |[],h1=>exact h1.1.elim
  |[_],h1=>have:=h1.1.2.2;simp at this
  |[_,_],h1=>have:=h1.1.2.2;simp at this
  |y::z::w::s,h1=>exact⟨y,z,w::s,rfl,by simp,h1.1,λe _=>h1.2 e⟩
 have same:∀n,∀y z s,Nat.repeat ro n c=y::z::s->∀e∈B,jn g e y z=true->∀y0 z0 s0,c=y0::z0::s0->∀e0∈B,jn g e0 y0 z0=true->Y e=Y e0:=by
  intro n;induction n with
  |zero =>
    intro y z s h e he hj y0 z0 s0 h0 e0 he0 hj0;change c=_ at h;rw[h0]at h;injection h with a b;injection b with b c;subst a b;rw[p.one e he e0 he0 _ _ hj hj0]
  |succ n ih =>
    intro y z s h e he hj y0 z0 s0 h0 e0 he0 hj0;obtain⟨x,w,t,h1,h2,h3,h4⟩:=first n
    rw[Nat.repeat,h1]at h;change w::t++[x]=_ at h;rw[aB]at h;injection h with a b;subst a;obtain⟨⟨e1,he1,hj1⟩,_⟩:=h3.1;rw[<-ih x w t h1 e1 he1 hj1 y0 z0 s0 h0 e0 he0 hj0];cases t with
    |nil=>exact absurd rfl h2
    |cons q t =>
      rw[aB]at b;injection b with b b';subst b;have hcc:Cc g B (w::q::(t++[x])):=oN (a:=[x]) (b:=w::q::t) h3;refine(uT p hcc (hY _) (λk hk hy=>?_) he1 he hj1 hj).symm;rw[show w::q::(t++[x])=ro (x::w::q::t) from rfl,KP,h4 k hk];exact hs k hk hy
 obtain⟨y0,z0,s0,h0,h0',h0c,_⟩:=first 0
 change c=_ at h0;obtain⟨⟨e0,he0,hj0⟩,_⟩:=h0c.1;have all:∀e∈B,cy g c e=true->Y e=Y e0:=by
  intro e he hz;subst h0;obtain⟨a,u,w,b,hab,hj⟩:=lR (show wk g (y0::z0::s0++[y0]) e=true from hz);rcases cU b with rfl|⟨b',q,rfl⟩
  .have h2:(y0::z0::s0)++[y0]=(a++[u])++[w]:=by rw[hab];simp
   obtain⟨h3,h4⟩:=di h2 rfl;injection h4 with h4;subst h4;cases a with
   |nil=>simp at h3
   |cons v a =>
     rw[aB]at h3;injection h3 with h5 h6;subst h5;have h7:=zK (p:=y0::a) (q:=[u]);rw[aB,<-h6]at h7;exact same _ u y0 a h7 e he hj y0 z0 s0 rfl e0 he0 hj0
  .have h2:(y0::z0::s0)++[y0]=(a++u::w::b')++[q]:=by rw[hab];simp
   obtain⟨h3,_⟩:=di h2 rfl;have h7:=zK (p:=a) (q:=u::w::b');rw[<-h3]at h7;exact same _ u w (b'++a) (by rw[h7];simp) e he hj y0 z0 s0 rfl e0 he0 hj0
 cases hy:Y e0
 .refine .inl λe he=>?_;cases h:Y e
  .rfl
  .rw[<-h,all e he (hs e he h),hy]
 .refine .inr λe he=>?_;cases h:cy g c e
  .cases h':Y e
   .rfl
   .rw[hs e he h']at h;exact absurd h (by simp)
  .rw[all e he h,hy]
end Go.Pla
