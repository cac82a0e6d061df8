/- Rows of bools, rows of numbers, by what stands at each place -/
import Derived.Test.YtklpoimdclflmaaGreatDoorTTAJ
set_option linter.all false
namespace Go.Proofs.YtklpoimdclflmaaGreatDoor
open Go.Am
variable {f:Nat->Int}{i:Nat}{p:Nat->Bool}
def bl(n:Nat)(p:Nat->Bool):List AV:=(List.range n).map λi=>.bool (p i)
def il(n:Nat)(f:Nat->Int):List AV:=(List.range n).map λi=>.int .i64 (f i)
def nZ(n:Nat)(p:Nat->Bool):(bl n p).length=n:=by simp[bl]
def jM(n:Nat)(f:Nat->Int):(il n f).length=n:=by simp[il]
def qh{n:Nat}(h:i<n):(bl n p)[i]?=some (.bool (p i)):=by
 unfold bl;rw[aV,da h];rfl
def lP{n:Nat}(h:i<n):(il n f)[i]?=some (.int .i64 (f i)):=by
 unfold il;rw[aV,da h];rfl
def qO{n:Nat}{b:Bool}:(bl n p).set i (.bool b)=bl n λj=>if j=i then b else p j:=by
 refine cV λj=>?_;rw[cU,nZ];by_cases hj:j<n
 .rw[qh hj,qh hj];by_cases e:i=j
  .subst e;simp[hj]
  .rw[if_neg e,if_neg (λq=>e q.symm)]
 .rw[bJ (l:=bl n p) (by rw[nZ];omega),bJ (by rw[nZ];omega)];split
  .rw[if_neg om]
  .rfl
def mE{n:Nat}{b:Int}:(il n f).set i (.int .i64 b)=il n λj=>if j=i then b else f j:=by
 refine cV λj=>?_;rw[cU,jM];by_cases hj:j<n
 .rw[lP hj,lP hj];by_cases e:i=j
  .subst e;simp[hj]
  .rw[if_neg e,if_neg (λq=>e q.symm)]
 .rw[bJ (l:=il n f) (by rw[jM];omega),bJ (by rw[jM];omega)];split
  .rw[if_neg om]
  .rfl
def zi(n:Nat):cq [AV.bool false] n=bl n λ_=>false:=by
 rw[eQ];unfold bl;rw[List.map_const',cw]
def yL(n:Nat):cq [AV.int .i64 0] n=il n λ_=>0:=by
 rw[eQ];unfold il;rw[List.map_const',cw]
def pr{n:Nat}{q:Nat->Bool}(h:∀i,i<n->p i=q i):bl n p=bl n q:=by
 unfold bl;exact cT λi hi=>by rw[h i (aX.1 hi)]
def lO{n:Nat}{p q:Nat->Int}(h:∀i,i<n->p i=q i):il n p=il n q:=by
 unfold il;exact cT λi hi=>by rw[h i (aX.1 hi)]
end Go.Proofs.YtklpoimdclflmaaGreatDoor
namespace Go.Blk
variable {S:Nat->Prop}{f:Nat->Nat}{i k u v x:Nat}
structure Gr where
 m:Nat
 n:Nat
 tl:Nat->Nat
 hd:Nat->Nat
 ok:∀i,i<m->tl i<n/\hd i<n/\tl i≠hd i
variable {g:Gr}
def Gr.oth(g:Gr)(i x:Nat):Nat:=g.tl i+g.hd i-x
def Gr.inc(g:Gr)(i x:Nat):Prop:=i<g.m/\(g.tl i=x\/g.hd i=x)
instance (i x:Nat):Decidable (g.inc i x):=by unfold Gr.inc;infer_instance
def inc_lt(h:g.inc i x):x<g.n:=by
 obtain⟨h1,h2⟩:=h;have:=g.ok i h1;rcases h2 with rfl|rfl
 .exact this.1
 .exact this.2.1
def inc_oth(h:g.inc i x):g.inc i (g.oth i x)/\g.oth i x≠x/\g.oth i (g.oth i x)=x:=by
 obtain⟨h1,h2⟩:=h;have:=g.ok i h1;unfold Gr.inc Gr.oth;rcases h2 with rfl|rfl
 .exact⟨⟨h1,.inr om⟩,om,om⟩
 .exact⟨⟨h1,.inl om⟩,om,om⟩
def iA{y:Nat}(hx:g.inc i x)(hy:g.inc i y)(hne:y≠x):y=g.oth i x:=by
 obtain⟨h1,h2⟩:=hx;obtain⟨_,h3⟩:=hy;have:=g.ok i h1;unfold Gr.oth;omega
inductive Conn(g:Gr)(S:Nat->Prop):Nat->Nat->Prop
 |refl {u:Nat}:S u->Conn g S u u
 |step {u v i:Nat}:Conn g S u v->g.inc i v->S (g.oth i v)->Conn g S u (g.oth i v)
def Conn.right(h:Conn g S u v):S v:=by
 cases h with
 |refl h=>exact h
 |step _ _ h=>exact h
def Conn.trans{w:Nat}(h1:Conn g S u v)(h2:Conn g S v w):Conn g S u w:=by
 induction h2 with
 |refl _=>exact h1
 |step _ a b ih=>exact .step ih a b
def Conn.edge(hu:S u)(hi:g.inc i u)(hv:S (g.oth i u)):Conn g S u (g.oth i u):=.step (.refl hu) hi hv
def Conn.symm(h:Conn g S u v):Conn g S v u:=by
 induction h with
 |refl h=>exact .refl h
 |@step v i h1 h2 h3 ih =>
   obtain⟨a,b,c⟩:=inc_oth h2;have:=Conn.edge (S:=S) h3 a (by rw[c];exact h1.right);rw[c]at this;exact this.trans ih
def Conn.mono{S':Nat->Prop}(h:Conn g S u v)(hs:∀z,S z->S' z):Conn g S' u v:=by
 induction h with
 |refl h=>exact .refl (hs _ h)
 |step _ a b ih=>exact .step ih a (hs _ b)
def Conn.stays{T:Nat->Prop}(h:Conn g S u v)(ht:∀u i,T u->g.inc i u->S (g.oth i u)->T (g.oth i u))(hu:T u):T v:=by
 induction h with
 |refl _=>exact hu
 |step _ a b ih=>exact ht _ _ ih a b
def Rel(g:Gr)(i k:Nat):Prop:=∃x,g.inc i x/\g.inc k x/\Conn g (·≠x) (g.oth i x) (g.oth k x)
def Rel.symm{i k:Nat}(h:Rel g i k):Rel g k i:=by
 obtain⟨x,a,b,c⟩:=h;exact⟨x,b,a,c.symm⟩
inductive Cls(g:Gr):Nat->Nat->Prop
 |refl {i:Nat}:Cls g i i
 |step {i j k:Nat}:Cls g i j->Rel g j k->Cls g i k
def Cls.trans{j:Nat}(h1:Cls g i j)(h2:Cls g j k):Cls g i k:=by
 induction h2 with
 |refl=>exact h1
 |step _ b ih=>exact .step ih b
def Cls.one(h:Rel g i k):Cls g i k:=.step .refl h
def Cls.symm{i k:Nat}(h:Cls g i k):Cls g k i:=by
 induction h with
 |refl=>exact .refl
 |step _ b ih=>exact(Cls.one b.symm).trans ih
def IsBlock(g:Gr)(b:List Nat):Prop:=b≠[]/\(∀i∈b,∀k∈b,Cls g i k)/\∀i∈b,∀k,Rel g i k->k∈b
def IsBlock.cls{b:List Nat}(h:IsBlock g b)(hi:i∈b)(hk:Cls g i k):k∈b:=by
 induction hk with
 |refl=>exact hi
 |step _ r ih=>exact h.2.2 _ ih _ r
structure DS where
 num:Nat->Nat
 low:Nat->Nat
 cnt:Nat
 stk:List Nat
 blk:List (List Nat)
def upd(f:Nat->Nat)(x v:Nat):Nat->Nat:=λz=>if z=x then v else f z
def upd_same:upd f x v x=v:=if_pos rfl
def upd_ne{z:Nat}(h:z≠x):upd f x v z=f z:=if_neg h
def DS.close(sort:List Nat->List Nat)(s:DS)(i:Nat):DS:={ s with blk:=s.blk++[sort (s.stk.drop (s.stk.idxOf i))],stk:=s.stk.take (s.stk.idxOf i)}
def enter(x:Nat)(s:DS):DS:={ s with cnt:=s.cnt+1,num:=upd s.num x (s.cnt+1),low:=upd s.low x (s.cnt+1)}
def edgeS(g:Gr)(sort:List Nat->List Nat)(vis:Nat->Nat->DS->DS)(x:Nat)(by_:Option Nat)(s:DS)(i:Nat):DS :=
 if by_=some i then s
 else if s.num (g.oth i x)=0 then
  let s2:=vis (g.oth i x) i { s with stk:=s.stk++[i]}
  let s3:DS:={ s2 with low:=upd s2.low x (min (s2.low x) (s2.low (g.oth i x)))}
  if s3.num x<=s3.low (g.oth i x)then s3.close sort i else s3
 else if s.num (g.oth i x)<s.num x then { s with stk:=s.stk++[i],low:=upd s.low x (min (s.low x) (s.num (g.oth i x)))}
 else s
def visit(g:Gr)(ends:Nat->List Nat)(sort:List Nat->List Nat):Nat->Nat->Option Nat->DS->DS
 |0,_,_,s=>s
 |f+1,x,by_,s=>(ends x).foldl (edgeS g sort (λy i s=>visit g ends sort f y (some i) s) x by_) (enter x s)
def unm(g:Gr)(s:DS):Nat:=(List.range g.n).countP λv=>s.num v==0
def nR{α:Type}{p q:α->Bool}:∀{l:List α},(∀x∈l,p x=true->q x=true)->l.countP p<=l.countP q
 |[],_=>ab _
 |a::l,h=>by
   have ih:=nR (l:=l) λx hx=>h x (aN _ hx);rw[dL,dL];have ha:=h a (aM ..);cases hp:p a with
   |true=>rw[ha hp];simp;exact ih
   |false=>cases q a<;>simp<;>omega
def nQ{α:Type}{p q:α->Bool}:∀{l:List α}{a:α},(∀x∈l,p x=true->q x=true)->a∈l->p a=false->q a=true->l.countP p<l.countP q
 |[],a,_,hm,_,_=>by cases hm
 |b::l,a,h,hm,hp,hq=>by
   rw[dL,dL];rcases aF.1 hm with rfl|hm
   .have:=nR (l:=l) λx hx=>h x (aN _ hx);rw[hp,hq];simp;omega
   .have ih:=nQ (l:=l) (λx hx=>h x (aN _ hx)) hm hp hq;have hb:=h b (aM ..);cases hp':p b with
    |true=>rw[hb hp'];simp;omega
    |false=>cases q b<;>simp<;>omega
variable {s s':DS}
def Ni(h:∀v,s.num v≠0->s'.num v≠0):unm g s'<=unm g s:=by
 refine nR λv _ hv=>?_;have hv:s'.num v=0:=by simpa using hv
 have:s.num v=0:=Decidable.byContradiction λhc=>h v hc hv;simp[this]
def BQ(h:∀v,s.num v≠0->s'.num v≠0)(hx:x<g.n)(h0:s.num x=0)(h1:s'.num x≠0):unm g s'<unm g s:=by
 refine nQ (a:=x) (λv _ hv=>?_) (aX.2 hx) (by simpa using h1) (by simpa using h0);have hv:s'.num v=0:=by simpa using hv
 have:s.num v=0:=Decidable.byContradiction λhc=>h v hc hv;simp[this]
section
variable (m n:Nat) (tl hd:Nat->Nat) (c:Nat->Bool)
def goE(s:Nat->Bool)(i:Nat):Nat->Bool:=if c i=true/\(s (tl i)=true\/s (hd i)=true)then λv=>decide (v=tl i)||(decide (v=hd i)||s v)else s
def goP(s:Nat->Bool):Nat->Bool:=(List.range m).foldl (goE tl hd c) s
def goN:Nat->(Nat->Bool)->Nat->Bool
 |0,s=>s
 |k+1,s=>goP m tl hd c (goN k s)
inductive RC:Nat->Nat->Prop
 |refl {u:Nat}:RC u u
 |one {u v i:Nat}:RC u v->i<m->c i=true->tl i=v->RC u (hd i)
 |two {u v i:Nat}:RC u v->i<m->c i=true->hd i=v->RC u (tl i)
end
section
variable {s:Nat->Bool}{v:Nat}
variable {m n:Nat}{tl hd:Nat->Nat}{c:Nat->Bool}
def IZ{i:Nat}(h:s v=true):goE tl hd c s i v=true:=by
 unfold goE;split
 .simp[h]
 .exact h
def yR:∀(l:List Nat) {s:Nat->Bool}{v:Nat},s v=true->l.foldl (goE tl hd c) s v=true
 |[],_,_,h=>h
 |_::l,_,_,h=>yR l (IZ h)
def CE(h:s v=true):goP m tl hd c s v=true:=yR _ h
def Ee{f:Nat}:∀(l:List Nat) {s:Nat->Bool},(∀i∈l,i<m)->(∀v,s v=true->RC m tl hd c f v)->∀v,l.foldl (goE tl hd c) s v=true->RC m tl hd c f v
 |[],_,_,h=>h
 |i::l,s,hl,h=>by
   refine Ee l (λk hk=>hl k (aN _ hk)) λv hv=>?_;unfold goE at hv;split at hv
   .rename_i hc
    simp only[dm,aK]at hv;rcases hv with rfl|rfl|hv
    .rcases hc.2 with q|q
     .exact h _ q
     .exact .two (h _ q) (hl i (aM ..)) hc.1 rfl
    .rcases hc.2 with q|q
     .exact .one (h _ q) (hl i (aM ..)) hc.1 rfl
     .exact h _ q
    .exact h v hv
   .exact h v hv
def CF{f:Nat}{s:Nat->Bool}(h:∀v,s v=true->RC m tl hd c f v):∀k v,goN m tl hd c k s v=true->RC m tl hd c f v
 |0=>h
 |k+1=>Ee _ (λi hi=>aX.1 hi) (CF h k)
def Shut(m:Nat)(tl hd:Nat->Nat)(c:Nat->Bool)(s:Nat->Bool):Prop:=∀i,i<m->c i=true->s (tl i)=s (hd i)
def xw:∀(l:List Nat) {s:Nat->Bool},(∀v,l.foldl (goE tl hd c) s v=true->s v=true)->∀i∈l,c i=true->s (tl i)=s (hd i)
 |[],_,_,i,hi,_=>by cases hi
 |k::l,s,h,i,hi,hc=>by
   have e1:∀v,goE tl hd c s k v=s v:=λv=>by
    rw[dM];exact⟨λhv=>h v (yR l hv),IZ⟩
   rcases aF.1 hi with rfl|hi
   .rw[dM];constructor
    .intro q;rw[<-e1 (hd i)];unfold goE;rw[if_pos ⟨hc,.inl q⟩];simp
    .intro q;rw[<-e1 (tl i)];unfold goE;rw[if_pos ⟨hc,.inr q⟩];simp
   .have e2:goE tl hd c s k=s:=funext e1;refine xw l (s:=s) (λv hv=>h v ?_) i hi hc;show l.foldl (goE tl hd c) (goE tl hd c s k) v=true;rw[e2];exact hv
def cnt(n:Nat)(s:Nat->Bool):Nat:=(List.range n).countP s
def cnt_le:cnt n s<=n:=cu ni (by simp)
def Shut.rc(hs:Shut m tl hd c s){u:Nat}(h:RC m tl hd c u v)(hu:s u=true):s v=true:=by
 induction h with
 |refl=>exact hu
 |one _ a b e ih=>rw[<-hs _ a b,e];exact ih
 |two _ a b e ih=>rw[hs _ a b,e];exact ih
def AX(ht:∀i,i<m->tl i<n/\hd i<n){s:Nat->Bool}(hs:∀v,s v=true->v<n):∀k,Shut m tl hd c (goN m tl hd c k s)\/cnt n s+k<=cnt n (goN m tl hd c k s)
 |0=>.inr (ab _)
 |k+1=>by
   have hin:∀k v,goN m tl hd c k s v=true->v<n:=by
    intro k;induction k with
    |zero=>exact hs
    |succ k ih =>
      have:∀(l:List Nat) (s:Nat->Bool),(∀i∈l,i<m)->(∀v,s v=true->v<n)->∀v,l.foldl (goE tl hd c) s v=true->v<n:=by
       intro l;induction l with
       |nil=>intro s _ h;exact h
       |cons i l ihl =>
         intro s hl h;refine ihl _ (λk hk=>hl k (aN _ hk)) λv hv=>?_;unfold goE at hv;have:=ht i (hl i (aM ..));split at hv
         .simp only[dm,aK]at hv;rcases hv with rfl|rfl|hv
          .exact this.1
          .exact this.2
          .exact h v hv
         .exact h v hv
      exact this _ _ (λi hi=>aX.1 hi) ih
   by_cases q:∀v,goP m tl hd c (goN m tl hd c k s) v=true->goN m tl hd c k s v=true
   .left;have e:goP m tl hd c (goN m tl hd c k s)=goN m tl hd c k s:=funext λv=>by
     rw[dM];exact⟨q v,CE⟩
    show Shut m tl hd c (goP m tl hd c (goN m tl hd c k s));rw[e];exact λi hi hc=>xw _ q i (aX.2 hi) hc
   .right;have ⟨v,hv⟩:=Classical.not_forall.1 q;have ⟨h1,h2⟩:=Classical.not_imp.1 hv
    have hlt:cnt n (goN m tl hd c k s)<cnt n (goN m tl hd c (k+1) s) :=
     nQ (a:=v) (λx _ hx=>CE hx) (aX.2 (hin (k+1) v h1)) (by simpa using h2) h1
    rcases AX ht hs k with h|h
    .exfalso;apply h2;have:=CF (m:=m) (tl:=tl) (hd:=hd) (c:=c) (f:=v) (s:=goN m tl hd c k s);have e:∀(l:List Nat),(∀i∈l,i<m)->l.foldl (goE tl hd c) (goN m tl hd c k s)=goN m tl hd c k s:=by
      intro l;induction l with
      |nil=>intro _;rfl
      |cons i l ihl =>
        intro hl;have e1:goE tl hd c (goN m tl hd c k s) i=goN m tl hd c k s:=by
         unfold goE;split
         .rename_i hc
          have hh:=h i (hl i (aM ..)) hc.1;funext w;rw[dM];simp only[dm,aK];constructor
          .rintro (rfl|rfl|q)
           .rcases hc.2 with q|q
            .exact q
            .rw[hh];exact q
           .rcases hc.2 with q|q
            .rw[<-hh];exact q
            .exact q
           .exact q
          .exact λq=>.inr (.inr q)
         .rfl
        rw[iH,e1];exact ihl λk hk=>hl k (aN _ hk)
     have:=e (List.range m) λi hi=>aX.1 hi;rw[<-this];exact h1
    .omega
def go_ok(ht:∀i,i<m->tl i<n/\hd i<n){f:Nat}(hf:f<n)(v:Nat):goN m tl hd c n (λv=>decide (v=f)) v=true↔RC m tl hd c f v:=by
 constructor
 .exact CF (λv hv=>by rw[aY hv];exact .refl) n v
 .intro h;have hs:Shut m tl hd c (goN m tl hd c n λv=>decide (v=f)):=by
   rcases AX (c:=c) ht (s:=λv=>decide (v=f)) (λv hv=>by rw[aY hv];exact hf) n with h|h
   .exact h
   .have h1:0<cnt n (λv=>decide (v=f)):=by
     unfold cnt;rw[kV];exact⟨f,aX.2 hf,by simp⟩
    have h2:=cnt_le (n:=n) (s:=goN m tl hd c n λv=>decide (v=f));omega
  refine hs.rc h ?_;have:∀k,goN m tl hd c k (λv=>decide (v=f)) f=true:=by
   intro k;induction k with
   |zero=>simp[goN]
   |succ k ih=>exact CE ih
  exact this n
end
variable {i k x:Nat}{l l':Nat->Nat}
variable {g:Gr}
def offB(g:Gr)(x:Nat)(i:Nat):Bool:=!(decide (g.tl i=x))&&!(decide (g.hd i=x))
def rK:offB g x i=true↔g.tl i≠x/\g.hd i≠x:=by
 unfold offB;simp
def JD{u v:Nat}(hu:u≠x):RC g.m g.tl g.hd (offB g x) u v↔Conn g (·≠x) u v:=by
 constructor
 .intro h;induction h with
  |refl=>exact .refl hu
  |@one v i h1 h2 h3 h4 ih =>
    obtain⟨a,b⟩:=rK.1 h3;have hi:g.inc i v:=⟨h2,.inl h4⟩
    have e:g.oth i v=g.hd i:=by unfold Gr.oth;omega
    have:=Conn.step ih hi (by rw[e];exact b);rwa [e]at this
  |@two v i h1 h2 h3 h4 ih =>
    obtain⟨a,b⟩:=rK.1 h3;have hi:g.inc i v:=⟨h2,.inr h4⟩
    have e:g.oth i v=g.tl i:=by unfold Gr.oth;omega
    have:=Conn.step ih hi (by rw[e];exact a);rwa [e]at this
 .intro h;induction h with
  |refl _=>exact .refl
  |@step v i h1 h2 h3 ih =>
    have hv:=h1.right;rcases h2.2 with q|q
    .have e:g.oth i v=g.hd i:=by unfold Gr.oth;omega
     rw[e]at h3 |-;exact .one ih h2.1 (rK.2 ⟨by rw[q];exact hv,h3⟩) q
    .have e:g.oth i v=g.tl i:=by unfold Gr.oth;omega
     rw[e]at h3 |-;exact .two ih h2.1 (rK.2 ⟨h3,by rw[q];exact hv⟩) q
structure Lst(g:Gr)(l:Nat->Nat):Prop where
 cls:∀i,i<g.m->Cls g i (l i)
 le:∀i,i<g.m->l i<=i
 same:∀i k,i<g.m->k<g.m->Rel g i k->l i=l k
def CS(h:Cls g i k)(hi:i<g.m):k<g.m:=by
 induction h with
 |refl=>exact hi
 |step _ r _=>obtain⟨x,_,b,_⟩:=r;exact b.1
def Lst.eqc(h:Lst g l)(hi:i<g.m)(hc:Cls g i k):l i=l k:=by
 induction hc with
 |refl=>rfl
 |step a r ih=>exact ih.trans (h.same _ _ (CS a hi) (by obtain⟨x,_,b,_⟩:=r;exact b.1) r)
def Lst.uniq(h:Lst g l)(h':Lst g l')(hi:i<g.m):l i=l' i:=by
 have a:l i<=l' i:=by
  rw[h.eqc hi (h'.cls i hi)];exact h.le _ (CS (h'.cls i hi) hi)
 have b:l' i<=l i:=by
  rw[h'.eqc hi (h.cls i hi)];exact h'.le _ (CS (h.cls i hi) hi)
 omega
def Lst.iff(h:Lst g l)(hi:i<g.m)(hk:k<g.m):l i=l k↔Cls g i k:=by
 refine⟨λe=>?_,h.eqc hi⟩;have:=(h.cls k hk).symm;rw[<-e]at this;exact(h.cls i hi).trans this
def canon(m:Nat)(l:Nat->Nat):List (List Nat):=((List.range m).filter λi=>l i==i).map λi=>(List.range m).filter λk=>l k==i
def canon_congr{m:Nat}(h:∀i,i<m->l i=l' i):canon m l=canon m l':=by
 unfold canon;have e1:((List.range m).filter λi=>l i==i)=(List.range m).filter λi=>l' i==i:=mJ λi hi=>by rw[h i (aX.1 hi)]
 rw[e1];refine cT λi _=>?_;exact mJ λk hk=>by rw[h k (aX.1 hk)]
end Go.Blk
namespace Go.Proofs.YtklpoimdclflmaaGreatDoor
open Go.Am
variable {E:List (Int×Int)}{ev:AV}{h:AH}{k:Nat}{o:Nat->Bool}
def gW(n:Nat)(ev:AV):List AV:=[.int .i64 (n:Nat),ev]
set_option maxHeartbeats 1000000 in
def Fg{n:Nat}(he:SlE h ev E)(hxl:E.length<2^40) :
 C prg 147 [.agg (gW n ev)] h λr h'=>∃b,r=.sl b 0 E.length E.length/\h.next<=b/\Ext h.next h h'/\h'.get b=some (.cells (bl E.length λ_=>true) 1 false):=by
 have el:=he.len;rw[ah]at el;obtain⟨ec,eo⟩:=he.cells;unfold gW;refine Oj rfl ?_;refine ae (ak (Mi0) ?_);have ga:∀c,(h.new (.cells [.int .i64 (n:Nat),ev] 2 false)).get c=if c=h.next then some (.cells [.int .i64 (n:Nat),ev] 2 false)else h.get c:=λc=>by
  rw[AH.get_new]
 have x0:Ext h.next h (h.new (.cells [.int .i64 (n:Nat),ev] 2 false)):=Oe (ab _);have n0:(h.new (.cells [.int .i64 (n:Nat),ev] 2 false)).next=h.next+1:=rfl;generalize (h.new (.cells [.int .i64 (n:Nat),ev] 2 false))=h1 at *
 have gA:h1.get h.next=some (.cells [.int .i64 (n:Nat),ev] 2 false):=by rw[ga,if_pos rfl]
 have rA:ai h1 h.next 1 1=some [ev]:=bq gA rfl;have mu:=lN (h:=h1) (z:=[.bool false]) (e:=1) (bytes:=1) (n:=E.length) (by unfold bf;omega) (by unfold bf;omega);have x3:Ext h1.next h1 (h1.new (.cells (cq [.bool false] E.length) 1 false)):=Oe (ab _);have g3:(h1.new (.cells (cq [.bool false] E.length) 1 false)).get h1.next=some (.cells (cq [.bool false] E.length) 1 false):=by rw[AH.get_new,if_pos rfl]
 have n3:(h1.new (.cells (cq [.bool false] E.length) 1 false)).next=h1.next+1:=rfl;refine ae (ak (Mi3 rA el mu) ?_);generalize (h1.new (.cells (cq [.bool false] E.length) 1 false))=h2 at *
 rw[zi,n0]at g3;rw[n0]at x3 n3;clear mu;have X2:Ext h.next h h2:=x0.trans (x3.mono om);refine ae (ae (ak (Mi1 n0) ?_))
 refine dX (α:=Unit) (N:=E.length) (λk _=>[(3,.sl (h.next+1) 0 E.length E.length),(4,.int .i64 (k:Nat))])
  (λk _ h'=>Ext h.next h h'/\h'.get (h.next+1)=some (.cells (bl E.length λi=>decide (i<k)) 1 false)) () (Hi2 n0 @bh)
  ⟨X2,by rw[g3];simp⟩ ?_ ?_ ?_
 .rintro k _ ts h5 hk ⟨jx,j⟩ ⟨e3,e4,-⟩;simp only at e3 e4;exact⟨_,(M3 e3 e4 @bE),Z0,H2 e3 e4⟩
 .rintro k _ ts h5 hk ⟨jx,j⟩ ⟨e3,e4,-⟩;simp only at e3 e4;have i1:fe ((k:Nat):Int) E.length=some k:=cK hk;have w1:=dW (k:=k) om;have wu:=ew (v:=.bool true) j (i:=k) (by rw[nZ];exact hk);have uu:=Oi (o:=.cells ((bl E.length λi=>decide (i<k)).set k (.bool true)) 1 false) j;refine ak (M5 e3 e4 i1 @aP wu) ?_;refine⟨(),⟨jx.trans (uu.ext om),?_⟩,_,(M2 e4 w1),H1 e3⟩;rw[uu.get,qO];congr 2;refine pr λi _=>?_;by_cases e:i=k
  .subst e;simp
  .rw[if_neg e];exact decide_eq_decide.2 om
 .rintro _ ts h5 ⟨jx,j⟩ ⟨e3,e4,-⟩;simp only at e3;refine ae (ak (M1 e3) ?_);refine bu ⟨_,(by simp only[rs,rf147,am,aL,simprocAttr]<;>rfl),_,rfl,om,jx,?_⟩;rw[j];congr 2;exact pr λi hi=>aH hi
def tlE(E:List (Int×Int))(i:Nat):Nat:=((E.getD i (0,0)).1).toNat
def hdE(E:List (Int×Int))(i:Nat):Nat:=((E.getD i (0,0)).2).toNat
def InG(n:Nat)(E:List (Int×Int)):Prop:=∀i (hi:i<E.length),E[i]=(((tlE E i:Nat):Int),((hdE E i:Nat):Int))/\tlE E i<n/\hdE E i<n
def qu{β:Type}(f:β->Nat->β)(s:β)(k:Nat):(List.range (k+1)).foldl f s=f ((List.range k).foldl f s) k:=by
 rw[cP,gp];rfl
open Go.Blk (goE goP goN) in
set_option maxHeartbeats 2000000 in
def Nv{n f cb:Nat}{c:Nat->Bool}(he:SlE h ev E)(hE:InG n E)(hxl:E.length<2^40)(hnl:n<2^40)(hf:f<n)
 (hc:h.get cb=some (.cells (bl E.length c) 1 false)) :
 C prg 148 [.agg (gW n ev),.int .i64 (f:Nat),.bool true,.sl cb 0 E.length E.length] h λr h'=>∃b,r=.sl b 0 n n/\h.next<=b/\Ext h.next h h'/\h'.get b=some (.cells (bl n (goN E.length (tlE E) (hdE E) c n λv=>decide (v=f))) 1 false):=by
 have el:=he.len;rw[ah]at el;obtain⟨ec,eo⟩:=he.cells;have hcl:=AH.lt_of_get hc;unfold gW;refine Oj rfl ?_;refine ae (ak (Mi0) ?_);have ga:∀c,(h.new (.cells [.int .i64 (n:Nat),ev] 2 false)).get c=if c=h.next then some (.cells [.int .i64 (n:Nat),ev] 2 false)else h.get c:=λc=>by
  rw[AH.get_new]
 have x0:Ext h.next h (h.new (.cells [.int .i64 (n:Nat),ev] 2 false)):=Oe (ab _);have n0:(h.new (.cells [.int .i64 (n:Nat),ev] 2 false)).next=h.next+1:=rfl;generalize (h.new (.cells [.int .i64 (n:Nat),ev] 2 false))=h1 at *
 have gA:h1.get h.next=some (.cells [.int .i64 (n:Nat),ev] 2 false):=by rw[ga,if_pos rfl]
 have rN:ai h1 h.next 0 1=some [.int .i64 (n:Nat)]:=bq gA rfl;have mu:=lN (h:=h1) (z:=[.bool false]) (e:=1) (bytes:=1) (n:=n) (by unfold bf;omega) (by unfold bf;omega);have x3:Ext h1.next h1 (h1.new (.cells (cq [.bool false] n) 1 false)):=Oe (ab _);have g3:(h1.new (.cells (cq [.bool false] n) 1 false)).get h1.next=some (.cells (cq [.bool false] n) 1 false):=by rw[AH.get_new,if_pos rfl]
 have n3:(h1.new (.cells (cq [.bool false] n) 1 false)).next=h1.next+1:=rfl;refine ae (ak (Mi2 rN mu) ?_);generalize (h1.new (.cells (cq [.bool false] n) 1 false))=h2 at *
 rw[zi,n0]at g3;rw[n0]at x3 n3;clear mu;have X2:Ext h.next h h2:=x0.trans (x3.mono om);have gA2:h2.get h.next=some (.cells [.int .i64 (n:Nat),ev] 2 false):=by rw[x3.gt _ om];exact gA
 have i0:fe ((f:Nat):Int) n=some f:=cK hf;have w0:=ew (v:=.bool true) g3 (i:=f) (by rw[nZ];exact hf);have u0:=Oi (o:=.cells ((bl n λ_=>false).set f (.bool true)) 1 false) g3;refine ae (ak (Mi4 n0 i0 @aP w0) ?_);generalize (h2.put (h.next+1) (.cells ((bl n λ_=>false).set f (.bool true)) 1 false))=h3 at *
 have X3:Ext h.next h h3:=X2.trans (u0.ext om);have gA3:h3.get h.next=some (.cells [.int .i64 (n:Nat),ev] 2 false):=by rw[u0.ne om];exact gA2
 have n3':h3.next=h.next+2:=by rw[u0.nx,n3]
 have g3':h3.get (h.next+1)=some (.cells (bl n λv=>decide (v=f)) 1 false):=by
  rw[u0.get,qO];congr 2
 refine ae (ae (ak (Mi1 n0) ?_))
 refine dX (α:=Unit) (N:=n) (λk _=>[(2,.bool true),(3,.sl cb 0 E.length E.length),(4,.ptr h.next 0),(9,.sl (h.next+1) 0 n n),(10,.int .i64 (k:Nat))])
  (λk _ h'=>Ext h.next h h'/\h.next+2<=h'.next/\h'.get h.next=some (.cells [.int .i64 (n:Nat),ev] 2 false)/\h'.get (h.next+1)=some (.cells (bl n (goN E.length (tlE E) (hdE E) c k λv=>decide (v=f))) 1 false)) () (Hi2 n0 @bh)
  ⟨X3,om,gA3,g3'⟩ ?_ ?_ ?_
 .rintro k _ ts h5 hk ⟨jx,jn,jA,j⟩ ⟨e2,e3,e4,e9,e10,-⟩;simp only at e2 e3 e4 e9 e10;have rN5:ai h5 h.next 0 1=some [.int .i64 (n:Nat)]:=bq jA rfl;exact⟨_,(M4 e4 e10 rN5 @bE),Z0,H5 e2 e3 e4 e9 e10⟩
 .rintro k _ ts h5 hk ⟨jx,jn,jA,j⟩ ⟨e2,e3,e4,e9,e10,-⟩;simp only at e2 e3 e4 e9 e10;have w1:=dW (k:=k) om;refine ae (ak (M0) ?_);generalize hs0:goN E.length (tlE E) (hdE E) c k (λv=>decide (v=f))=s0 at j
  refine dX (α:=Unit) (N:=E.length) (λi _=>[(2,.bool true),(3,.sl cb 0 E.length E.length),(4,.ptr h.next 0),(9,.sl (h.next+1) 0 n n),(10,.int .i64 (k:Nat)),(11,.int .i64 (i:Nat))])
   (λi _ h'=>Ext h.next h h'/\h.next+2<=h'.next/\h'.get h.next=some (.cells [.int .i64 (n:Nat),ev] 2 false)/\h'.get (h.next+1)=some (.cells (bl n ((List.range i).foldl (goE (tlE E) (hdE E) c) s0)) 1 false)) () (H6 e2 e3 e4 e9 e10 @bh)
   ⟨jx,jn,jA,j⟩ ?_ ?_ ?_
  .rintro i _ ts h6 hi ⟨jx,jn,jA,j⟩ ⟨e2,e3,e4,e9,e10,e11,-⟩;simp only at e2 e3 e4 e9 e10 e11;have rE:ai h6 h.next 1 1=some [ev]:=bq jA rfl;exact⟨_,(M5 e4 e11 rE el @bE),Z0,H6 e2 e3 e4 e9 e10 e11⟩
  .rintro i _ ts h6 hi ⟨jx,jn,jA,j⟩ ⟨e2,e3,e4,e9,e10,e11,-⟩;simp only at e2 e3 e4 e9 e10 e11;have w2:=dW (k:=i) om;obtain⟨q1,q2,q3⟩:=hE i hi;have rE:ai h6 h.next 1 1=some [ev]:=bq jA rfl;obtain⟨eb,ep,a7,r7,_,_⟩:=(he.ext jx (ab _)).at (cm (f:=eE) hi);rw[q1]at r7;obtain⟨h7,w7,x7,g7,n7⟩:=gD (h:=h6) (z:=[.int .i64 0,.int .i64 0]) (cs:=[.int .i64 (tlE E i:Nat),.int .i64 (hdE E i:Nat)]) (e:=2) rfl;refine ae (ak (by simp only[am,aL,simprocAttr,e4,e11,rE,a7,r7,eE,w7]<;>rfl) ?_);generalize hs:(List.range i).foldl (goE (tlE E) (hdE E) c) s0=s at j;have X7:Ext h.next h h7:=jx.trans (x7.mono om);have gA7:h7.get h.next=some (.cells [.int .i64 (n:Nat),ev] 2 false):=by rw[x7.gt _ om];exact jA
   have j7:h7.get (h.next+1)=some (.cells (bl n s) 1 false):=by rw[x7.gt _ om];exact j
   have gc7:h7.get cb=some (.cells (bl E.length c) 1 false):=by rw[X7.gt _ hcl];exact hc
   have rc:ai h7 cb i 1=some [.bool (c i)]:=bq gc7 (qh hi);have ii:fe ((i:Nat):Int) E.length=some i:=cK hi;have it:fe ((tlE E i:Nat):Int) n=some (tlE E i):=cK q2;have ih:fe ((hdE E i:Nat):Int) n=some (hdE E i):=cK q3;have rt:ai h7 (h.next+1) (tlE E i) 1=some [.bool (s (tlE E i))]:=bq j7 (qh q2);have rh:ai h7 (h.next+1) (hdE E i) 1=some [.bool (s (hdE E i))]:=bq j7 (qh q3);have r0:ai h7 h6.next 0 1=some [.int .i64 (tlE E i:Nat)]:=bq g7 rfl;have r1:ai h7 h6.next 1 1=some [.int .i64 (hdE E i:Nat)]:=bq g7 rfl;cases kc:c i with
   |false =>
     rw[kc]at rc;refine ae (ak (M5 e3 e11 ii @aP rc) ?_);refine dC (Z0) (bz ?_);refine⟨(),⟨X7,om,gA7,?_⟩,_,(M2 e11 w2),H5 e2 e3 e4 e9 e10⟩;rw[j7,qu,hs];congr 2;unfold goE;rw[if_neg (by rw[kc];simp)]
   |true =>
   rw[kc]at rc;by_cases ks:s (tlE E i)=true\/s (hdE E i)=true
   .have wa:=ew (v:=.bool true) j7 (i:=hdE E i) (by rw[nZ];exact q3);have ua:=Oi (o:=.cells ((bl n s).set (hdE E i) (.bool true)) 1 false) j7;have rt':ai (h7.put (h.next+1) (.cells ((bl n s).set (hdE E i) (.bool true)) 1 false)) (h.next+1) (tlE E i) 1=some [.bool (if tlE E i=hdE E i then true else s (tlE E i))]:=by
     rw[qO]at ua |-;exact bq ua.get (qh q2)
    have r0':ai (h7.put (h.next+1) (.cells ((bl n s).set (hdE E i) (.bool true)) 1 false)) h6.next 0 1=some [.int .i64 (tlE E i:Nat)]:=by rw[<-r0];exact bi (ua.ne om)
    have wb:=ew (v:=.bool true) ua.get (i:=tlE E i) (by rw[cx,nZ];exact q2);have ub:=Oi (o:=.cells (((bl n s).set (hdE E i) (.bool true)).set (tlE E i) (.bool true)) 1 false) ua.get;have eq:bl n ((List.range (i+1)).foldl (goE (tlE E) (hdE E) c) s0)=((bl n s).set (hdE E i) (.bool true)).set (tlE E i) (.bool true):=by
     rw[qu,hs,qO,qO];refine pr λv _=>?_;unfold goE;rw[if_pos ⟨kc,ks⟩];by_cases e1:v=tlE E i
     .rw[if_pos e1,aH e1];rfl
     .rw[if_neg e1,aw e1];by_cases e2:v=hdE E i
      .rw[if_pos e2,aH e2];rfl
      .rw[if_neg e2,aw e2];rfl
    rcases(show s (tlE E i)=true\/(s (tlE E i)=false/\s (hdE E i)=true) by cases q:s (tlE E i)<;>simp_all)with k1|⟨k1,k2⟩
    .rw[k1]at rt rt';rw[show(if tlE E i=hdE E i then true else true)=true by split<;>rfl]at rt';refine ae (ak (M12 e2 e3 e9 e11 ii @aP rc it rt r0 r1 r1) ?_);refine cZ (Z0) (ae (ak (M5 e9 r1 ih @aP wa) ?_));refine ak (M7 e2 e9 r0' it rt' @aP wb) ?_;exact⟨(),⟨X7.trans ((ua.ext om).trans (ub.ext om)),by rw[ub.nx,ua.nx];omega,by rw[ub.ne om,ua.ne om];exact gA7,by rw[ub.get,eq]⟩,_,(M2 e11 w2),H5 e2 e3 e4 e9 e10⟩
    .rw[k1]at rt rt';rw[k2]at rh;have k3:tlE E i≠hdE E i:=λe=>by rw[e,k2]at k1;cases k1
     rw[if_neg k3]at rt';refine ae (ak (M14 e2 e3 e9 e11 ii @aP rc it ih rt rh r0 r1 r1) ?_);refine cZ (Z0) (ae (ak (M5 e9 r1 ih @aP wa) ?_));refine ak (M7 e2 e9 r0' it rt' @aP wb) ?_;exact⟨(),⟨X7.trans ((ua.ext om).trans (ub.ext om)),by rw[ub.nx,ua.nx];omega,by rw[ub.ne om,ua.ne om];exact gA7,by rw[ub.get,eq]⟩,_,(M2 e11 w2),H5 e2 e3 e4 e9 e10⟩
   .have k1:s (tlE E i)=false:=by simpa using λe=>ks (.inl e)
    have k2:s (hdE E i)=false:=by simpa using λe=>ks (.inr e)
    rw[k1]at rt;rw[k2]at rh;refine ae (ak (M14 e2 e3 e9 e11 ii @aP rc it ih rt rh r0 r1 r1) ?_);refine dC (Z0) (bz ?_);refine⟨(),⟨X7,om,gA7,?_⟩,_,(M2 e11 w2),H5 e2 e3 e4 e9 e10⟩;rw[j7,qu,hs];congr 2;unfold goE;rw[if_neg (λe=>ks e.2)]
  .rintro _ ts h6 ⟨jx,jn,jA,j⟩ ⟨e2,e3,e4,e9,e10,e11,-⟩;simp only at e2 e3 e4 e9 e10;refine⟨(),⟨jx,jn,jA,?_⟩,_,(M2 e10 w1),H4 e2 e3 e4 e9⟩;rw[j,<-hs0];rfl
 .rintro _ ts h5 ⟨jx,jn,jA,j⟩ ⟨e2,e3,e4,e9,e10,-⟩;simp only at e9;refine ae (ak (M1 e9) ?_);exact bu ⟨_,(by simp only[rs,rf148,am,aL,simprocAttr]<;>rfl),_,rfl,om,jx,j⟩
open Go.Am
def pU(n:Nat)(p:Nat->Bool):Nat->Int
 |0=>-1
 |k+1=>if p (n-1-k)then((n-1-k:Nat):Int)else pU n p k
def sJ{n:Nat}{p:Nat->Bool}:∀k,k<=n->(∃y,n-k<=y/\y<n/\p y=true)->∃y:Nat,pU n p k=y/\n-k<=y/\y<n/\p y=true/\∀z,n-k<=z->z<y->p z=false
 |0,_,⟨y,h1,h2,_⟩=>by omega
 |k+1,h,⟨y,h1,h2,h3⟩=>by
   unfold pU;cases q:p (n-1-k)with
   |true=>exact⟨n-1-k,by simp,om,om,q,λz _ _=>by omega⟩
   |false =>
     have hy:n-k<=y:=by
      rcases eW y (n-k)with hlt|hge
      .have:y=n-1-k:=om;rw[this,q]at h3;cases h3
      .exact hge
     obtain⟨y',e1,e2,e3,e4,e5⟩:=sJ k om ⟨y,hy,h2,h3⟩;refine⟨y',by simpa using e1,om,e3,e4,λz z1 z2=>?_⟩;rcases eW z (n-k)with hlt|hge
     .have:z=n-1-k:=om;rw[this,q]
     .exact e5 z hge z2
def uU{n:Nat}{p q:Nat->Bool}(h:∀i,i<n->p i=q i):∀k,k<=n->pU n p k=pU n q k
 |0,_=>rfl
 |k+1,hk=>by
   unfold pU;rw[h _ om,uU h k om]
open Go.Blk (goN) in
def fK(n:Nat)(E:List (Int×Int))(o:Nat->Bool)(x:Nat):Int :=
 pU n (λy=>goN E.length (tlE E) (hdE E) (λi=>!(o (tlE E i))&&!(o (hdE E i))) n (λv=>decide (v=x)) y&&!(o x)) n
def rH(n:Nat)(E:List (Int×Int))(o:Nat->Bool)(k:Nat):List AV:=((List.range k).map (fK n E o)).flatMap eI
def Cl{n:Nat}:rH n E o (k+1)=rH n E o k++[.int .i64 (fK n E o k)]:=by
 unfold rH;rw[cP,bS,br];rfl
def wO{n:Nat}:(rH n E o k).length=k:=by
 unfold rH;rw[dE (f:=eI) (e:=1) (λ_=>rfl),ah,cw,aP]
set_option maxHeartbeats 2000000 in
def Fa{n ob:Nat}(he:SlE h ev E)(hE:InG n E)(hxl:E.length<2^40)(hnl:n<2^30)
 (ho:h.get ob=some (.cells (bl n o) 1 false)) :
 C prg 111 [.agg (gW n ev),.sl ob 0 n n] h λr h'=>Ext h.next h h'/\IsSl h' 1 h.next r (rH n E o n):=by
 have el:=he.len;rw[ah]at el;obtain⟨ec,eo⟩:=he.cells;have hol:=AH.lt_of_get ho;refine Oj rfl ?_;have hEv:∀{h':AH},SlE h' ev E->_:=fun {h'} q=>Fg (n:=n) q hxl;have hGo:∀{h':AH}{f cb:Nat}{c:Nat->Bool},SlE h' ev E->f<n->h'.get cb=some (.cells (bl E.length c) 1 false)->_:=fun {h' f cb c} q1 q2 q3=>Nv (n:=n) (c:=c) q1 hE hxl om q2 q3;unfold gW at hEv hGo |-;refine ae (ak (Mi0) ?_);have ga:∀c,(h.new (.cells [.int .i64 (n:Nat),ev] 2 false)).get c=if c=h.next then some (.cells [.int .i64 (n:Nat),ev] 2 false)else h.get c:=λc=>by
  rw[AH.get_new]
 have x0:Ext h.next h (h.new (.cells [.int .i64 (n:Nat),ev] 2 false)):=Oe (ab _);have n0:(h.new (.cells [.int .i64 (n:Nat),ev] 2 false)).next=h.next+1:=rfl;generalize (h.new (.cells [.int .i64 (n:Nat),ev] 2 false))=h1 at *
 have gA:h1.get h.next=some (.cells [.int .i64 (n:Nat),ev] 2 false):=by rw[ga,if_pos rfl]
 have rA:ai h1 h.next 0 2=some [.int .i64 (n:Nat),ev]:=by rw[aR gA];rfl
 refine ae (bM (bj 1 (Mi1 rA) rfl (Zi1 rA) (Mi1 rA) (hEv (he.ext x0 (ab _))) λr h2 hq=>?_));obtain⟨cb,rfl,hcb,x2,g2⟩:=hq;rw[n0]at hcb x2;refine bI (M0) ?_;have X2:Ext h.next h h2:=x0.trans (x2.mono om);have gA2:h2.get h.next=some (.cells [.int .i64 (n:Nat),ev] 2 false):=by rw[x2.gt _ om];exact gA
 have n2:=x2.nx;refine ae (ae (ak (M0) ?_))
 refine dX (α:=Unit) (N:=E.length) (λk _=>[(1,.sl ob 0 n n),(2,.ptr h.next 0),(5,.sl cb 0 E.length E.length),(6,.int .i64 (k:Nat))])
  (λk _ h'=>Ext h.next h h'/\h.next+1<=h'.next/\h'.get h.next=some (.cells [.int .i64 (n:Nat),ev] 2 false)/\h'.get cb=some (.cells (bl E.length λi=>if i<k then !(o (tlE E i))&&!(o (hdE E i))else true) 1 false)) () (Hi1 @bh)
  ⟨X2,om,gA2,by rw[g2];simp⟩ ?_ ?_ ?_
 .rintro k _ ts h5 hk ⟨jx,jn,jA,j⟩ ⟨e1,e2,e5,e6,-⟩;simp only at e1 e2 e5 e6;have rE:ai h5 h.next 1 1=some [ev]:=bq jA rfl;exact⟨_,(M5 e2 e6 rE el @bE),Z0,H4 e1 e2 e5 e6⟩
 .rintro k _ ts h5 hk ⟨jx,jn,jA,j⟩ ⟨e1,e2,e5,e6,-⟩;simp only at e1 e2 e5 e6;have w1:=dW (k:=k) om;obtain⟨q1,q2,q3⟩:=hE k hk;have rE:ai h5 h.next 1 1=some [ev]:=bq jA rfl;obtain⟨eb,ep,a7,_,r7,_⟩:=(he.ext jx (ab _)).at (cm (f:=eE) hk);rw[q1]at r7;have r70:=r7 0 (.int .i64 (tlE E k:Nat)) rfl;have r71:=r7 1 (.int .i64 (hdE E k:Nat)) rfl;rw[eB]at r70;have go5:h5.get ob=some (.cells (bl n o) 1 false):=by rw[jx.gt _ hol];exact ho
  have rt:ai h5 ob (tlE E k) 1=some [.bool (o (tlE E k))]:=bq go5 (qh q2);have rh:ai h5 ob (hdE E k) 1=some [.bool (o (hdE E k))]:=bq go5 (qh q3);have ii:fe ((k:Nat):Int) E.length=some k:=cK hk;have it:fe ((tlE E k:Nat):Int) n=some (tlE E k):=cK q2;have ih:fe ((hdE E k:Nat):Int) n=some (hdE E k):=cK q3;have wu:=λb=>ew (v:=.bool b) j (i:=k) (by rw[nZ];exact hk);have uu:=λb=>Oi (o:=.cells ((bl E.length λi=>if i<k then !(o (tlE E i))&&!(o (hdE E i))else true).set k (.bool b)) 1 false) j;have eq:∀b,b=(!(o (tlE E k))&&!(o (hdE E k)))->(bl E.length λi=>if i<k then !(o (tlE E i))&&!(o (hdE E i))else true).set k (.bool b)=bl E.length λi=>if i<k+1 then !(o (tlE E i))&&!(o (hdE E i))else true:=λb hb=>by
   rw[qO,hb];refine pr λi _=>?_;by_cases e:i=k
   .subst e;rw[if_pos rfl,if_pos om]
   .rw[if_neg e];by_cases e2:i<k
    .rw[if_pos e2,if_pos om]
    .rw[if_neg e2,if_neg om]
  cases ot:o (tlE E k)with
  |true =>
    rw[ot]at rt;refine ak (M12 e1 e2 e5 e6 rE a7 r70 it ii @aP rt (wu false)) ?_;exact⟨(),⟨jx.trans ((uu false).ext om),by rw[(uu false).nx];omega,by rw[(uu false).ne om];exact jA,by rw[(uu false).get,eq false (by rw[ot];rfl)]⟩,_,(M2 e6 w1),H3 e1 e2 e5⟩
  |false =>
    rw[ot]at rt;refine ak (by simp only[am,aL,simprocAttr,e1,e2,e5,e6,rE,a7,r70,r71,it,ih,ii,aP,rt,rh,wu (!(o (hdE E k)))]<;>rfl) ?_;exact⟨(),⟨jx.trans ((uu _).ext om),by rw[(uu _).nx];omega,by rw[(uu _).ne om];exact jA,by rw[(uu _).get,eq _ (by rw[ot];rfl)]⟩,_,(M2 e6 w1),H3 e1 e2 e5⟩
 rintro _ ts h5 ⟨jx,jn,jA,j⟩ ⟨e1,e2,e5,e6,-⟩;simp only at e1 e2 e5;have j':h5.get cb=some (.cells (bl E.length λi=>!(o (tlE E i))&&!(o (hdE E i))) 1 false):=by
  rw[j];congr 2;exact pr λi hi=>by rw[if_pos hi]
 have hcb5:=AH.lt_of_get j';clear j g2 gA2;have x3:Ext h5.next h5 (h5.new (.cells [] 1 false)):=Oe (ab _);have g3:(h5.new (.cells [] 1 false)).get h5.next=some (.cells [] 1 false):=by rw[AH.get_new,if_pos rfl]
 have n3:(h5.new (.cells [] 1 false)).next=h5.next+1:=rfl;refine ae (ak (M1 e1) ?_);generalize (h5.new (.cells [] 1 false))=h6 at *
 refine ae (ae (ak (M0) ?_))
 refine dX (α:=AV) (N:=n) (λk a=>[(1,.sl ob 0 n n),(2,.ptr h.next 0),(5,.sl cb 0 E.length E.length),(7,a),(8,.int .i64 (k:Nat))])
  (λk a h'=>Ext h5.next h5 h'/\IsSl h' 1 h5.next a (rH n E o k)) (.sl h5.next 0 0 0) (H4 e1 e2 e5 @bh)
  ⟨x3,.inr ⟨h5.next,0,ab _,rfl,g3,rfl⟩⟩ ?_ ?_ ?_
 .clear e1 e2 e5;rintro k a ts h7 hk ⟨kx,k1⟩ ⟨e1,e2,e5,e7,e8,-⟩;simp only at e1 e2 e5 e7 e8;have rN:ai h7 h.next 0 1=some [.int .i64 (n:Nat)]:=bq (by rw[kx.gt _ om];exact jA) rfl;exact⟨_,(M4 e2 e8 rN @bE),Z0,H5 e1 e2 e5 e7 e8⟩
 .clear e1 e2 e5;rintro k a ts h7 hk ⟨kx,k1⟩ ⟨e1,e2,e5,e7,e8,-⟩;simp only at e1 e2 e5 e7 e8;have w1:=dW (k:=k) om;have gA7:h7.get h.next=some (.cells [.int .i64 (n:Nat),ev] 2 false):=by rw[kx.gt _ om];exact jA
  have rA7:ai h7 h.next 0 2=some [.int .i64 (n:Nat),ev]:=by rw[aR gA7];rfl
  have gc7:h7.get cb=some (.cells (bl E.length λi=>!(o (tlE E i))&&!(o (hdE E i))) 1 false):=by rw[kx.gt _ hcb5];exact j'
  have X7:Ext h.next h h7:=jx.trans (kx.mono jx.nx);refine ae (ak (M1 e1) ?_);refine ae (bM (bj 3 (M4 e2 e5 e8 rA7) rfl (Z4 e2 e5 e8 rA7) (M4 e2 e5 e8 rA7) (hGo (he.ext X7 (ab _)) hk gc7) λr h8 hq=>?_));obtain⟨sb,rfl,hsb,x8,g8⟩:=hq;refine bI (M0) ?_;have kn:=kx.nx;have gA8:h8.get h.next=some (.cells [.int .i64 (n:Nat),ev] 2 false):=by rw[x8.gt _ om];exact gA7
  have rN8:ai h8 h.next 0 1=some [.int .i64 (n:Nat)]:=bq gA8 rfl;have X8:Ext h.next h h8:=X7.trans (x8.mono X7.nx);have go8:h8.get ob=some (.cells (bl n o) 1 false):=by rw[X8.gt _ hol];exact ho
  have ro8:ai h8 ob k 1=some [.bool (o k)]:=bq go8 (qh hk);have ik:fe ((k:Nat):Int) n=some k:=cK hk;have wn:IntKind.i64.wrap (((n:Nat):Int)-1)=((n:Nat):Int)-1:=fU om om;generalize hp:Go.Blk.goN E.length (tlE E) (hdE E) (λi=>!(o (tlE E i))&&!(o (hdE E i))) n (λv=>decide (v=k))=s at g8;refine ae (ae (ak (M3 e2 rN8 wn) ?_))
  refine dX (α:=Unit) (N:=n) (λy _=>[(1,.sl ob 0 n n),(2,.ptr h.next 0),(5,.sl cb 0 E.length E.length),(7,a),(8,.int .i64 (k:Nat)),(9,.int .i64 (pU n (λy=>s y&&!(o k)) y)),(10,.sl sb 0 n n),(11,.int .i64 (((n:Nat):Int)-1-((y:Nat):Int)))])
   (λy _ h'=>h8=h') () (by simp only[hl,am,aL,simprocAttr,e1,e2,e5,e7,e8,pU,bh,Int.sub_zero]) rfl ?_ ?_ ?_
  .clear e1 e2 e5 e7 e8;rintro y _ ts _ hy rfl ⟨e1,e2,e5,e7,e8,e9,e10,e11,-⟩;simp only at e1 e2 e5 e7 e8 e9 e10 e11;have c1:decide ((0:Int)<=((n:Nat):Int)-1-((y:Nat):Int))=decide (y<n):=by simp only[decide_eq_decide];omega
   exact⟨_,(by simp only[am,aL,simprocAttr,e11,ge_iff_le,c1]<;>rfl),Z0,H8 e1 e2 e5 e7 e8 e9 e10 e11⟩
  .clear e1 e2 e5 e7 e8;rintro y _ ts _ hy rfl ⟨e1,e2,e5,e7,e8,e9,e10,e11,-⟩;simp only at e1 e2 e5 e7 e8 e9 e10 e11;have ey:((n:Nat):Int)-1-((y:Nat):Int)=((n-1-y:Nat):Int):=om;rw[ey]at e11;have wy:IntKind.i64.wrap (((n-1-y:Nat):Int)-1)=((n:Nat):Int)-1-((y+1:Nat):Int):=by rw[fU om om];omega
   have iy:fe ((n-1-y:Nat):Int) n=some (n-1-y):=cK om;have rs:ai h8 sb (n-1-y) 1=some [.bool (s (n-1-y))]:=bq g8 (qh om);cases ks:s (n-1-y)with
   |false =>
     rw[ks]at rs;have hl0:pU n (λy=>s y&&!(o k)) (y+1)=pU n (λy=>s y&&!(o k)) y:=by
      show(if (s (n-1-y)&&!(o k))=true then _ else _)=_;rw[ks];rfl
     refine ae (ak (by simp only[am,aL,simprocAttr,e10,e11,iy,aP,rs]<;>rfl) ?_);refine dC (Z0) (bz ?_);exact⟨(),rfl,_,(M2 e11 wy),H8 e1 e2 e5 e7 e8 e9 e10 hl0⟩
   |true =>
     rw[ks]at rs;rcases Bool.eq_false_or_eq_true (o k)with ko|ko
     .rw[ko]at ro8;have hl0:pU n (λy=>s y&&!(o k)) (y+1)=pU n (λy=>s y&&!(o k)) y:=by
       show(if (s (n-1-y)&&!(o k))=true then _ else _)=_;rw[ks,ko];rfl
      refine ae (ak (by simp only[am,aL,simprocAttr,e1,e8,e10,e11,iy,ik,aP,rs,ro8]<;>rfl) ?_);refine dC (Z0) (bz ?_);exact⟨(),rfl,_,(M2 e11 wy),H8 e1 e2 e5 e7 e8 e9 e10 hl0⟩
     .rw[ko]at ro8;have hl0:pU n (λy=>s y&&!(o k)) (y+1)=((n-1-y:Nat):Int):=by
       show(if (s (n-1-y)&&!(o k))=true then _ else _)=_;rw[ks,ko];rfl
      refine ae (ak (by simp only[am,aL,simprocAttr,e1,e8,e10,e11,iy,ik,aP,rs,ro8]<;>rfl) ?_);refine cZ (Z0) (ak (M1 e11) ?_);exact⟨(),rfl,_,(M2 e11 wy),H7 e1 e2 e5 e7 e8 e10 hl0⟩
  .clear e1 e2 e5 e7 e8;rintro _ ts _ rfl ⟨e1,e2,e5,e7,e8,e9,e10,e11,-⟩;simp only at e1 e2 e5 e7 e8 e9;have k8:=k1.ext (x8.mono (ab _)) (ab _);obtain⟨s',h9,a9,i9,x9,n9⟩:=k8.push (bytes:=8) [.int .i64 (pU n (λy=>s y&&!(o k)) n)] (by have:=x8.nx;omega) om rfl rfl (by rw[wO,dN];unfold bf;omega) (by rw[wO,dN];unfold bf;omega);refine ak (M3 e7 e9 a9) ?_;refine⟨s',⟨kx.trans ((x8.mono kn).trans x9),?_⟩,_,(M2 e8 w1),H3 e1 e2 e5⟩;rw[Cl,show fK n E o k=pU n (λy=>s y&&!(o k)) n by unfold fK;rw[hp]];exact i9
 .clear e1 e2 e5;rintro a ts h7 ⟨kx,k1⟩ ⟨e1,e2,e5,e7,e8,-⟩;simp only at e7;have c7:=k1.cells;refine ae (ak (M1 e7) ?_);exact bu ⟨a,(by simp only[rs,rf111,am,aL,simprocAttr,c7.1]<;>rfl),jx.trans (kx.mono jx.nx),k1.mono jx.nx⟩
end Go.Proofs.YtklpoimdclflmaaGreatDoor
