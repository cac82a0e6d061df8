/- Duals of a graph, and of its blocks. -/
import Derived.Test.YtpeemonpdlifbaaUTAJ
import Derived.Test.YtpeemonpdlifbaaUTAF
set_option linter.all false
namespace Go.Pla
open Go.Blk
variable {g:Gr}{A B:List Nat}{Φ:Type}
theorem nB {p:Nat→Bool}{q:Nat→Bool}:∀ {l:List Nat},par (l.filter q) p=par l (λe=>q e&&p e)
 | []=>rfl
 | e::l=>by
   simp only[par,jp]
   cases h:q e
   ·simp [nB (l:=l)]
   ·simp [par,nB (l:=l)]
theorem Ht (na:A.Nodup) (nb:B.Nodup) (hs:∀ e∈B,e∈A) {p:Nat→Bool} (hp:∀ e∈A,e∉B→p e=false):par A p=par B p:=by
 have h1:(A.filter λe=>decide (e∈B)).Perm B:=(jh (na.filter _) nb).2 λe=>by
  simp only[bD,aH]
  exact⟨λh=>h.2,λh=>⟨hs e h,h⟩⟩
 rw[← wT h1,nB]
 refine aW λe he=>?_
 by_cases h:e∈B
 ·simp [h]
 ·rw[hp e he h]; simp
theorem mF (na:A.Nodup) (nb:B.Nodup) (hs:∀ e∈B,e∈A) {X:Nat→Bool} (hp:∀ e∈A,e∉B→X e=false):Even g A X↔Even g B X:=by
 have:∀ v,par A (λe=>X e&&at_ g e v)=par B (λe=>X e&&at_ g e v):=λv=>Ht na nb hs λe he h=>by rw[hp e he h]; rfl
 constructor
 ·intro h v; rw[← this]; exact h v
 ·intro h v; rw[this]; exact h v
theorem sub_dual (na:A.Nodup) (nb:B.Nodup) (hs:∀ e∈B,e∈A) {l r:Nat→Φ} (d:Dual g A l r):∃ l' r':Nat→Φ,Dual g B l' r':=by
 obtain⟨c,h1,h2⟩:=qx (λa b:Φ=>∃ e∈A,e∉B∧l e=a∧r e=b)
 refine⟨λe=>c (l e),λe=>c (r e),λS=>?_,λX hX=>?_⟩
 ·refine (mF na nb hs (X:=λe=>S (c (l e)) ^^ S (c (r e))) λe he hb=>?_).1 (d.two (λa=>S (c a)))
  rw[h1 _ _ ⟨e,he,hb,rfl,rfl⟩]; simp
 ·classical
  have hX':Even g A (λe=>decide (e∈B)&&X e):=(mF na nb hs λe _ h=>by simp [h]).2 (hX.congr λe he=>by simp [he])
  obtain⟨S,hS⟩:=d.one _ hX'
  have hc:=h2 S (λa b ⟨e,he,hb,h3,h4⟩=>by
   have:=hS e he
   rw[h3,h4] at this
   simp only[hb,decide_false,fA] at this
   revert this
   cases S a<;>cases S b<;>simp)
  refine⟨S,λe he=>?_⟩
  have:=hS e (hs e he)
  simp only[he,decide_true,yl] at this
  rw[this,hc,hc]
theorem at_inc {e v:Nat} (he:e<g.m):at_ g e v=true↔g.inc e v:=by
 have:=g.ok e he
 unfold at_ Gr.inc
 by_cases a:g.tl e=v
 ·have b:g.hd e≠v:=λh=>this.2.2 (a.trans h.symm)
  rw[beq_iff_eq.2 a,beq_eq_false_iff_ne.2 b]; simp [a,he]
 ·rw[beq_eq_false_iff_ne.2 a]; simp [a,he]
theorem FT {b:List Nat} (hb:IsBlock g b) {v e:Nat} (he:e∈b) (hev:g.inc e v) {k:Nat} (hk:k∈b) {w:Nat} (hw:g.inc k w) (hwv:w≠v):Conn g (·≠v) (g.oth e v) w:=by
 have:=hb.2.1 e he k hk
 clear hk
 induction this generalizing w with
 | refl =>
   rw[fE hev hw hwv]
   exact .refl (inc_oth hev).2.1
 | @step j k hc hr ih =>
   obtain⟨x,hjx,hkx,hcon⟩:=hr
   by_cases hxv:x=v
   ·subst hxv
    have h1:=ih (inc_oth hjx).1 (inc_oth hjx).2.1
    rw[fE hkx hw hwv]
    exact h1.trans hcon
   ·have h1:=ih hjx hxv
    by_cases hwx:w=x
    ·subst hwx; exact h1
    ·rw[fE hkx hw hwx]
     exact .step h1 hkx (by rw[← fE hkx hw hwx]; exact hwv)
theorem xX {X:Nat→Bool} (hX:Even g (List.range g.m) X) {b:List Nat} (hb:IsBlock g b):Even g (List.range g.m) (λe=>X e&&decide (e∈b)):=by
 intro v
 by_cases hex:∃ e∈b,e<g.m∧at_ g e v=true
 case neg =>
  refine ez λe he=>?_
  cases ha:at_ g e v
  ·simp
  ·have:e∉b:=λh=>hex ⟨e,h,by simpa using he,ha⟩
   simp [this]
 obtain⟨e,he,hem,hev⟩:=hex
 have hev':=(at_inc hem).1 hev
 classical
 have h1:par (List.range g.n) (λu=>decide (Conn g (·≠v) (g.oth e v) u)&&par (List.range g.m) (λj=>X j&&at_ g j u))=false:=ez λu _=>by rw[hX u]; simp
 rw[aW (q:=λu=>par (List.range g.m) (λj=>X j&&(decide (Conn g (·≠v) (g.oth e v) u)&&at_ g j u))) (λu _=>by
  rw[← fZ]
  exact aW λj _=>by cases X j<;>cases decide (Conn g (·≠v) (g.oth e v) u)<;>rfl),ji] at h1
 rw[← h1]
 refine aW λj hj=>?_
 have hjm:j<g.m:=by simpa using hj
 rw[fZ,Bool.and_assoc]
 congr 1
 have hends:par (List.range g.n) (λu=>decide (Conn g (·≠v) (g.oth e v) u)&&at_ g j u)=(decide (Conn g (·≠v) (g.oth e v) (g.tl j)) ^^ decide (Conn g (·≠v) (g.oth e v) (g.hd j))):=by
  have hok:=g.ok j hjm
  rw[aW (q:=λu=>((u==g.tl j)&&decide (Conn g (·≠v) (g.oth e v) u)) ^^ ((u==g.hd j)&&decide (Conn g (·≠v) (g.oth e v) u))) (λu _=>by
   unfold at_
   rw[fw (a:=g.tl j),fw (a:=g.hd j)]
   cases u==g.tl j<;>cases u==g.hd j<;>cases decide (Conn g (·≠v) (g.oth e v) u)<;>rfl),dN,dx bp (by simpa using hok.1),dx bp (by simpa using hok.2.1)]
 rw[hends]
 have hno:¬ Conn g (·≠v) (g.oth e v) v:=λh=>h.right rfl
 have step:∀ a,g.inc j a→a≠v→g.oth j a≠v→(Conn g (·≠v) (g.oth e v) a↔Conn g (·≠v) (g.oth e v) (g.oth j a)):=λa ha h1 h2=>by
  constructor
  ·intro h; exact .step h ha h2
  ·intro h
   have h3:=inc_oth ha
   have:=Conn.step h h3.1 (by rw[h3.2.2]; exact h1)
   rwa [h3.2.2] at this
 have iff:∀ a,g.inc j v→a=g.oth j v→(Conn g (·≠v) (g.oth e v) a↔j∈b):=λa hj ha=>by
  subst ha
  constructor
  ·intro h; exact hb.2.2 e he j ⟨v,hev',hj,h⟩
  ·intro h; exact FT hb he hev' h (inc_oth hj).1 (inc_oth hj).2.1
 have it:g.inc j (g.tl j):=⟨hjm,.inl rfl⟩
 have ih:g.inc j (g.hd j):=⟨hjm,.inr rfl⟩
 have ot:g.oth j (g.tl j)=g.hd j:=by unfold Gr.oth; omega
 have oh:g.oth j (g.hd j)=g.tl j:=by unfold Gr.oth; omega
 have hne:=(g.ok j hjm).2.2
 by_cases a:g.tl j=v
 ·have hjv:g.inc j v:=a▸it
  have hat:at_ g j v=true:=(at_inc hjm).2 hjv
  have q:=iff (g.hd j) hjv (by rw[← a]; exact ot.symm)
  rw[hat,a]
  simp only[hno,decide_false,dS,et]
  rw[decide_eq_decide]; exact q.symm
 ·by_cases c:g.hd j=v
  ·have hjv:g.inc j v:=c▸ih
   have hat:at_ g j v=true:=(at_inc hjm).2 hjv
   have q:=iff (g.tl j) hjv (by rw[← c]; exact oh.symm)
   rw[hat,c]
   simp only[hno,decide_false,cZ,et]
   rw[decide_eq_decide]; exact q.symm
  ·have hat:at_ g j v=false:=by
    cases h:at_ g j v
    ·rfl
    ·rcases (at_inc hjm).1 h with ⟨_,h|h⟩
     ·exact absurd h a
     ·exact absurd h c
   have q:=step (g.tl j) it a (by rw[ot]; exact c)
   rw[ot] at q
   rw[hat,fB,decide_eq_decide.2 q,pK]
theorem FB {v u w:Nat} (h:Conn g (·≠v) u w):∃ t,Ch g (List.range g.m) (u::t)∧lst u t=w∧v∉u::t:=by
 induction h with
 | refl h=>exact⟨[],trivial,rfl,by simpa using Ne.symm h⟩
 | @step a i hc hi hn ih =>
   obtain⟨t,h1,h2,h3⟩:=ih
   have key:∀ (t:List Nat) (u:Nat),Ch g (List.range g.m) (u::t)→lst u t=a→Ch g (List.range g.m) (u::(t++[g.oth i a]))∧lst u (t++[g.oth i a])=g.oth i a:=by
    intro t
    induction t with
    | nil =>
      intro u _ hl
      have hl':u=a:=hl
      subst hl'
      refine⟨⟨⟨i,by simpa using hi.1,?_⟩,trivial⟩,rfl⟩
      rw[jn_iff]
      unfold Gr.oth
      rcases hi.2 with h|h
      ·exact .inl ⟨h,om⟩
      ·exact .inr ⟨om,h⟩
    | cons z t iht =>
      intro u hc hl
      obtain⟨hc1,hc2⟩:=hc
      obtain⟨q1,q2⟩:=iht z hc2 hl
      exact⟨⟨hc1,q1⟩,q2⟩
   obtain⟨q1,q2⟩:=key t u h1 h2
   refine⟨t++[g.oth i a],q1,q2,?_⟩
   intro hm
   rw[← aE,aA] at hm
   rcases hm with hm|hm
   ·exact h3 hm
   ·have:v=g.oth i a:=by simpa using hm
    exact hn this.symm
theorem blk_bond (p:Pln g (List.range g.m)) {b:List Nat} (hb:IsBlock g b) (nb:b.Nodup) (hlt:∀ e∈b,e<g.m):Bond g b:=by
 intro v e k he hk hev hkv hne
 have hev':=(at_inc (hlt e he)).1 hev
 have hkv':=(at_inc (hlt k hk)).1 hkv
 have hcon:=FT hb he hev' hk (inc_oth hkv').1 (inc_oth hkv').2.1
 obtain⟨t,h1,h2,h3⟩:=FB hcon
 have je:jn g e v (g.oth e v)=true:=by
  rw[jn_iff]; unfold Gr.oth
  rcases hev'.2 with h|h
  ·exact .inl ⟨h,om⟩
  ·exact .inr ⟨om,h⟩
 have jk:jn g k v (g.oth k v)=true:=by
  rw[jn_iff]; unfold Gr.oth
  rcases hkv'.2 with h|h
  ·exact .inl ⟨h,om⟩
  ·exact .inr ⟨om,h⟩
 have hem:e∈List.range g.m:=by simpa using hlt e he
 have hkm:k∈List.range g.m:=by simpa using hlt k hk
 have hX:Even g (List.range g.m) (λj=>wk g (g.oth e v::t) j ^^ ((j==e) ^^ (j==k))):=λu=>by
  rw[aW (q:=λj=>(wk g (g.oth e v::t) j&&at_ g j u) ^^ (((j==e)&&at_ g j u) ^^ ((j==k)&&at_ g j u))) (λj _=>by
   dsimp only; cases wk g (g.oth e v::t) j<;>cases j==e<;>cases j==k<;>cases at_ g j u<;>rfl),dN,dN,dx bp hem,dx bp hkm,rj p h1,h2,p.jat hem je,p.jat hkm jk]
  cases v==u<;>cases g.oth e v==u<;>cases g.oth k v==u<;>rfl
 refine⟨_,(mF bp nb (λe he=>by simpa using hlt e he) (λe _ h=>by simp [h])).1 (xX hX hb),λj hj hjv=>?_⟩
 rw[jK p (by simpa using hlt j hj) hjv h3]
 by_cases q:j=e
 ·subst q; simp [hj,hne]
 ·rw[beq_eq_false_iff_ne.2 q]; simp [hj]
theorem blk_link {b:List Nat} (hb:IsBlock g b) (hlt:∀ e∈b,e<g.m):Link g b:=by
 intro P hP e he k hk
 have:=hb.2.1 e he k hk
 clear hk
 induction this with
 | refl=>rfl
 | @step j k hc hr ih =>
   have hj:=hb.cls he hc
   have hk:=hb.2.2 j hj k hr
   rw[ih]
   obtain⟨x,h1,h2,_⟩:=hr
   exact hP x j k hj hk ((at_inc (hlt j hj)).2 h1) ((at_inc (hlt k hk)).2 h2)
theorem whole_dual {bs:List (List Nat)} (nd:bs.flatten.Nodup) (hb:∀ b∈bs,IsBlock g b) (part:∀ i,i<g.m↔∃ b∈bs,i∈b) (hd:∀ b∈bs,∃ (Φ:Type) (l r:Nat→Φ),Dual g b l r):∃ (Φ:Type) (l r:Nat→Φ),Dual g (List.range g.m) l r:=by
 classical
 have hch:∀ i:Nat,∃ P:FP,∀ b,bs[i]?=some b→Dual g b P.lq P.rq:=λi=>by
  cases h:bs[i]? with
  | none=>exact⟨⟨Unit,λ_=>(),λ_=>(),λ_=>()⟩,λb hb=>by cases hb⟩
  | some b =>
    obtain⟨Φ,l,r,d⟩:=hd b (dD h)
    exact⟨⟨Φ,l,r,l⟩,λb' hb'=>by cases hb'; exact d⟩
 obtain⟨P,hP⟩:∃ P:Nat→FP,∀ i b,bs[i]?=some b→Dual g b (P i).lq (P i).rq:=⟨λi=>Classical.choose (hch i),λi=>Classical.choose_spec (hch i)⟩
 have hix:∀ e,∃ i,e<g.m→i<bs.length∧∃ b,bs[i]?=some b∧e∈b:=λe=>by
  by_cases h:e<g.m
  ·obtain⟨b,hb',heb⟩:=(part e).1 h
   obtain⟨i,hi⟩:=List.mem_iff_getElem?.1 hb'
   exact⟨i,λ_=>⟨(aI.1 hi).1,b,hi,heb⟩⟩
  ·exact⟨0,λh'=>absurd h' h⟩
 obtain⟨ix,hix⟩:∃ ix:Nat→Nat,∀ e,e<g.m→ix e<bs.length∧∃ b,bs[ix e]?=some b∧e∈b:=⟨λe=>Classical.choose (hix e),λe=>Classical.choose_spec (hix e)⟩
 have uniq:∀ {bs:List (List Nat)},bs.flatten.Nodup→∀ {i j:Nat}{b c:List Nat}{e:Nat},bs[i]?=some b→bs[j]?=some c→e∈b→e∈c→i=j:=by
  intro bs
  induction bs with
  | nil=>intro _ i j b c e h; simp at h
  | cons a bs ih =>
    intro nd i j b c e hi hj hb hc
    rw[iO,aP] at nd
    cases i with
    | zero =>
      cases j with
      | zero=>rfl
      | succ j =>
        simp only[aZ,aa,cr] at hi hj
        subst hi
        exact absurd rfl (nd.2.2 e hb e (eA.2 ⟨c,dD hj,hc⟩))
    | succ i =>
      cases j with
      | zero =>
        simp only[aZ,aa,cr] at hi hj
        subst hj
        exact absurd rfl (nd.2.2 e hc e (eA.2 ⟨b,dD hi,hb⟩))
      | succ j =>
        simp only[cr] at hi hj
        rw[ih nd.2.1 hi hj hb hc]
 have hnd:∀ (i:Nat) (b:List Nat),bs[i]?=some b→b.Nodup:=λi b h=>(sM.1 nd).1 b (dD h)
 have hsub:∀ i b,bs[i]?=some b→∀ e∈b,e∈List.range g.m:=λi b h e he=>by
  have:=(part e).2 ⟨b,dD h,he⟩
  simpa using this
 refine⟨(i:Nat)×(P i).Ψ,λe=>⟨ix e,(P (ix e)).lq e⟩,λe=>⟨ix e,(P (ix e)).rq e⟩,λS=>?_,λX hX=>?_⟩
 ·refine (Even.sum (l:=List.range bs.length) (X:=λi e=>decide (∃ b,bs[i]?=some b∧e∈b)&&(S ⟨i,(P i).lq e⟩ ^^ S ⟨i,(P i).rq e⟩)) λi hi=>?_).congr λe he=>?_
  ·have hi':i<bs.length:=by simpa using hi
   have hb':bs[i]?=some bs[i]:=ai hi'
   refine (mF bp (hnd i _ hb') (hsub i _ hb') λe _ h=>?_).2 (((hP i _ hb').two λa=>S ⟨i,a⟩).congr λe he=>?_)
   ·have:¬ ∃ b,bs[i]?=some b∧e∈b:=λ⟨b,h1,h2⟩=>by rw[hb'] at h1; cases h1; exact h h2
    simp [this]
   ·have:∃ b,bs[i]?=some b∧e∈b:=⟨_,hb',he⟩
    simp [this]
  ·have hem:e<g.m:=by simpa using he
   obtain⟨h1,b,h2,h3⟩:=hix e hem
   rw[aW (q:=λi=>(i==ix e)&&(S ⟨i,(P i).lq e⟩ ^^ S ⟨i,(P i).rq e⟩)) (λi _=>by
    by_cases q:i=ix e
    ·subst q
     have:∃ b,bs[ix e]?=some b∧e∈b:=⟨b,h2,h3⟩
     simp [this]
    ·have:¬ ∃ b,bs[i]?=some b∧e∈b:=λ⟨c,h4,h5⟩=>q (uniq nd h4 h2 h5 h3)
     simp [this,q]),dx (p:=λi=>(S ⟨i,(P i).lq e⟩ ^^ S ⟨i,(P i).rq e⟩)) bp (by simpa using h1)]
 ·have hS:∀ i,∃ S:(P i).Ψ→Bool,∀ b,bs[i]?=some b→∀ e∈b,X e=(S ((P i).lq e) ^^ S ((P i).rq e)):=λi=>by
   cases h:bs[i]? with
   | none=>exact⟨λ_=>false,λb hb=>by cases hb⟩
   | some b =>
     have h1:=xX hX (hb b (dD h))
     have h2:=(mF bp (hnd i b h) (hsub i b h) (λe _ h=>by simp [h])).1 h1
     obtain⟨S,hS⟩:=(hP i b h).one X (h2.congr λe he=>by simp [he])
     exact⟨S,λb' hb'=>by cases hb'; exact hS⟩
  obtain⟨S,hS⟩:∃ S:∀ i,(P i).Ψ→Bool,∀ i b,bs[i]?=some b→∀ e∈b,X e=(S i ((P i).lq e) ^^ S i ((P i).rq e)):=⟨λi=>Classical.choose (hS i),λi=>Classical.choose_spec (hS i)⟩
  refine⟨λa=>S a.1 a.2,λe he=>?_⟩
  obtain⟨_,b,h2,h3⟩:=hix e (by simpa using he)
  exact hS (ix e) b h2 e h3
open Go.Blk
variable (g:Gr) (Bl:List Nat) (laid thr:Nat→Bool)
abbrev LQ:=List (Nat×Nat)×List Nat
def ks (L:List (Nat×Nat)):List Nat:=L.map (·.1)
def goes (x:Nat) (L:List (Nat×Nat)) (i:Nat):Bool:=at_ g i x&&(!((ks L).contains (g.oth i x))&&!(laid i))
def stepE (x:Nat) (s:LQ) (i:Nat):LQ:=if goes g laid x s.1 i=true then (s.1++[(g.oth i x,x)],if thr (g.oth i x)=true then s.2++[g.oth i x] else s.2) else s
def full:Nat→LQ→List (Nat×Nat)
 | 0,s=>s.1
 | f+1,s=>match s.2 with
   | []=>s.1
   | x::Q=>full f (Bl.foldl (stepE g laid thr x) (s.1,Q))
variable {g Bl laid thr}
structure Met (g:Gr) (Bl:List Nat) (laid thr:Nat→Bool) (r:Nat) (L:List (Nat×Nat)):Prop where
 root:∃ T,L=(r,r)::T
 nd:(ks L).Nodup
 par:∀ A y x C,L=A++(y,x)::C→A≠[]→x∈ks A∧(x=r∨thr x=true)∧∃ i∈Bl,jn g i x y=true∧laid i=false
theorem ks_app {A B:List (Nat×Nat)}:ks (A++B)=ks A++ks B:=dK
theorem Met.push {r:Nat}{L:List (Nat×Nat)} (m:Met g Bl laid thr r L) {x i:Nat} (hB:∀ i∈Bl,i<g.m) (hi:i∈Bl) (hx:x∈ks L) (hxr:x=r∨thr x=true) (hg:goes g laid x L i=true):Met g Bl laid thr r (L++[(g.oth i x,x)]):=by
 unfold goes at hg
 simp only[aO,dF,eU,aY] at hg
 obtain⟨h1,h2,h3⟩:=hg
 have hinc:=(at_inc (hB i hi)).1 h1
 obtain⟨T,hT⟩:=m.root
 refine⟨⟨T++[(g.oth i x,x)],by rw[hT]; rfl⟩,?_,λA y z C h hA=>?_⟩
 ·rw[ks_app,aP]
  refine⟨m.nd,by simp [ks],λa ha b hb=>?_⟩
  have:b=g.oth i x:=by simpa [ks] using hb
  subst this
  exact λe=>h2 (e▸ha)
 ·rcases cK C with rfl|⟨C,q,rfl⟩
  ·obtain⟨e1,e2⟩:=dv h rfl
   injection e2 with e2
   injection e2 with e2 e3
   subst e1 e2 e3
   refine⟨hx,hxr,i,hi,?_,h3⟩
   rw[jn_iff]; unfold Gr.oth
   rcases hinc.2 with q|q
   ·exact .inl ⟨q,om⟩
   ·exact .inr ⟨om,q⟩
  ·rw[da] at h
   have h':L++[(g.oth i x,x)]=(A++(y,z)::C)++[q]:=by rw[h]; simp
   obtain⟨e1,_⟩:=dv h' rfl
   exact m.par A y z C e1 hA
structure Srch (g:Gr) (Bl:List Nat) (laid thr:Nat→Bool) (r:Nat) (s:LQ) (cu:Option (Nat×List Nat)):Prop where
 met:Met g Bl laid thr r s.1
 que:∀ z∈s.2,z∈ks s.1∧(z=r∨thr z=true)
 cur:∀ x is,cu=some (x,is)→x∈ks s.1∧(x=r∨thr x=true)∧∀ i∈Bl,i∉is→at_ g i x=true→laid i=false→g.oth i x∈ks s.1
 done:∀ z∈ks s.1,(z=r∨thr z=true)→z∈s.2∨(∃ is,cu=some (z,is))∨∀ i∈Bl,at_ g i z=true→laid i=false→g.oth i z∈ks s.1
theorem Srch.start {r:Nat}:Srch g Bl laid thr r ([(r,r)],[r]) none where
 met:=⟨⟨[],rfl⟩,by simp [ks],λA y x C h hA=>by
  cases A with
  | nil=>exact absurd rfl hA
  | cons a A =>
    have:=congrArg List.length h
    simp at this⟩
 que:=λz hz=>by
  have:z=r:=by simpa using hz
  subst this; simp [ks]
 cur:=λx is h=>by cases h
 done:=λz hz _=>.inl (by simpa [ks] using hz)
theorem Srch.pop {r x:Nat}{L:List (Nat×Nat)}{Q:List Nat} (s:Srch g Bl laid thr r (L,x::Q) none):Srch g Bl laid thr r (L,Q) (some (x,Bl)) where
 met:=s.met
 que:=λz hz=>s.que z (be _ hz)
 cur:=λy is h=>by
  injection h with h; injection h with h1 h2; subst h1 h2
  have:=s.que x (by simp)
  exact⟨this.1,this.2,λi hi hn=>absurd hi hn⟩
 done:=λz hz hr=>by
  rcases s.done z hz hr with h|⟨is,h⟩|h
  ·rcases aq.1 h with rfl|h
   ·exact .inr (.inl ⟨Bl,rfl⟩)
   ·exact .inl h
  ·cases h
  ·exact .inr (.inr h)
theorem Srch.step {r x i:Nat}{is:List Nat}{s:LQ} (h:Srch g Bl laid thr r s (some (x,i::is))) (hB:∀ i∈Bl,i<g.m) (hi:i∈Bl):Srch g Bl laid thr r (stepE g laid thr x s i) (some (x,is)):=by
 obtain⟨c1,c2,c3⟩:=h.cur x _ rfl
 by_cases hg:goes g laid x s.1 i=true
 ·rw[stepE,if_pos hg]
  have mp:=h.met.push hB hi c1 c2 hg
  have hk:∀ z,z∈ks s.1→z∈ks (s.1++[(g.oth i x,x)]):=λz hz=>by rw[ks_app]; exact bA _ hz
  have hn:g.oth i x∈ks (s.1++[(g.oth i x,x)]):=by rw[ks_app]; simp [ks]
  have hq2:∀ z,z∈s.2→z∈(if thr (g.oth i x)=true then s.2++[g.oth i x] else s.2):=λz hz=>by
   split
   ·exact bA _ hz
   ·exact hz
  refine⟨mp,λz hz=>?_,λy js e=>?_,λz hz hr=>?_⟩
  ·dsimp only at hz ⊢
   by_cases ht:thr (g.oth i x)=true
   ·rw[if_pos ht] at hz
    rcases aA.1 hz with hz|hz
    ·exact⟨hk z (h.que z hz).1,(h.que z hz).2⟩
    ·have:z=g.oth i x:=by simpa using hz
     subst this; exact⟨hn,.inr ht⟩
   ·rw[if_neg ht] at hz
    exact⟨hk z (h.que z hz).1,(h.que z hz).2⟩
  ·injection e with e; injection e with e1 e2; subst e1 e2
   refine⟨hk _ c1,c2,λj hj hjn ha hl=>?_⟩
   by_cases hji:j=i
   ·subst hji; exact hn
   ·exact hk _ (c3 j hj (by simp [hji,hjn]) ha hl)
  ·dsimp only at hz ⊢
   rw[ks_app] at hz
   rcases aA.1 hz with hz|hz
   ·rcases h.done z hz hr with h1|⟨js,h1⟩|h1
    ·exact .inl (hq2 z h1)
    ·injection h1 with h1; injection h1 with h1 _; subst h1
     exact .inr (.inl ⟨is,rfl⟩)
    ·exact .inr (.inr λj hj ha hl=>hk _ (h1 j hj ha hl))
   ·have:z=g.oth i x:=by simpa [ks] using hz
    subst this
    rcases hr with hr|hr
    ·obtain⟨T,hT⟩:=h.met.root
     unfold goes at hg
     simp only[aO,dF,eU,aY] at hg
     exact absurd (by rw[hr,hT]; simp [ks]) hg.2.1
    ·exact .inl (by rw[if_pos hr]; simp)
 ·rw[stepE,if_neg hg]
  refine⟨h.met,h.que,λy js e=>?_,λz hz hr=>?_⟩
  ·injection e with e; injection e with e1 e2; subst e1 e2
   refine⟨c1,c2,λj hj hjn ha hl=>?_⟩
   by_cases hji:j=i
   ·subst hji
    unfold goes at hg
    rw[ha,hl] at hg
    simpa using hg
   ·exact c3 j hj (by simp [hji,hjn]) ha hl
  ·rcases h.done z hz hr with h1|⟨js,h1⟩|h1
   ·exact .inl h1
   ·injection h1 with h1; injection h1 with h1 _; subst h1
    exact .inr (.inl ⟨is,rfl⟩)
   ·exact .inr (.inr h1)
theorem Srch.end {r x:Nat}{s:LQ} (h:Srch g Bl laid thr r s (some (x,[]))):Srch g Bl laid thr r s none where
 met:=h.met
 que:=h.que
 cur:=λ_ _ e=>by cases e
 done:=λz hz hr=>by
  rcases h.done z hz hr with h1|⟨js,h1⟩|h1
  ·exact .inl h1
  ·injection h1 with h1; injection h1 with h1 h2; subst h1 h2
   exact .inr (.inr λi hi=>(h.cur x [] rfl).2.2 i hi (by simp))
  ·exact .inr (.inr h1)
def trr:List (Nat×Nat)→Nat→List Nat
 | [],_=>[]
 | (z,x)::A,y=>if z=y then (if A=[] then [y] else trr A x++[y]) else trr A y
def tr (L:List (Nat×Nat)) (y:Nat):List Nat:=trr L.reverse y
theorem zU {y:Nat}:∀ {B A:List (Nat×Nat)},y∉ks B→trr (B++A) y=trr A y
 | [],_,_=>rfl
 | (z,x)::B,A,h=>by
   have h1:z≠y:=λe=>h (by simp [ks,e])
   have h2:y∉ks B:=λe=>h (by simp only[ks,bB,aq] at e ⊢; exact .inr e)
   rw[aE,trr,if_neg h1,zU h2]
theorem tr_app {A B:List (Nat×Nat)} (nd:(ks (A++B)).Nodup) {y:Nat} (h:y∈ks A):tr (A++B) y=tr A y:=by
 unfold tr
 rw[List.reverse_append]
 refine zU λhb=>?_
 rw[ks_app,aP] at nd
 have:y∈ks B:=by simpa [ks] using hb
 exact nd.2.2 y h y this rfl
theorem Met.pre {r:Nat}{A C:List (Nat×Nat)} (m:Met g Bl laid thr r (A++C)) (hA:A≠[]):Met g Bl laid thr r A:=by
 obtain⟨T,hT⟩:=m.root
 refine⟨?_,?_,λX y x Y h hX=>m.par X y x (Y++C) (by rw[h]; simp) hX⟩
 ·cases A with
  | nil=>exact absurd rfl hA
  | cons a A=>rw[aE] at hT; injection hT with h1 _; exact⟨A,by rw[h1]⟩
 ·have:=m.nd
  rw[ks_app,aP] at this
  exact this.1
theorem tr_root {r:Nat}{L:List (Nat×Nat)} (m:Met g Bl laid thr r L):tr L r=[r]:=by
 obtain⟨T,hT⟩:=m.root
 rw[hT,show (r,r)::T=[(r,r)]++T by rfl,tr_app (by rw[← show (r,r)::T=[(r,r)]++T from rfl,← hT]; exact m.nd) (by simp [ks])]
 simp [tr,trr]
theorem tr_last {A:List (Nat×Nat)}{y x:Nat} (hA:A≠[]):tr (A++[(y,x)]) y=tr A x++[y]:=by
 unfold tr
 rw[List.reverse_append]
 simp [trr,hA]
theorem uA:∀ (L:List (Nat×Nat)) (y:Nat),(trr L y).length≤L.length
 | [],_=>by simp [trr]
 | (z,x)::A,y=>by
   have h1:=uA A x
   have h2:=uA A y
   rw[trr]
   split
   ·split
    ·simp
    ·simp; omega
   ·simp; omega
theorem tr_len (L:List (Nat×Nat)) (y:Nat):(tr L y).length≤L.length:=by
 have:=uA L.reverse y
 simpa [tr] using this
theorem tr_ok {r:Nat}:∀ (n:Nat) {L:List (Nat×Nat)},L.length≤n→Met g Bl laid thr r L→∀ y∈ks L,∃ t,tr L y=r::t∧lst r t=y∧(r::t).Nodup∧Ch g (Bl.filter λi=>!(laid i)) (r::t)∧∀ z∈r::t,z∈ks L∧(z=r∨thr z=true∨z=y)
 | 0,L,hn,m=>by
   obtain⟨T,hT⟩:=m.root
   rw[hT] at hn; simp at hn
 | n+1,L,hn,m=>by
   intro y hy
   rcases cK L with h|⟨A,⟨z,x⟩,h⟩
   ·rw[h] at hy; simp [ks] at hy
   rw[da] at h
   subst h
   by_cases hA:A=[]
   ·subst hA
    obtain⟨T,hT⟩:=m.root
    have hyr:y=r:=by
     rw[hT] at hy
     rw[bg] at hT
     injection hT with h1 h2
     subst h2
     simpa [ks] using hy
    subst hyr
    refine⟨[],tr_root m,rfl,by simp,trivial,λz hz=>?_⟩
    have:z=y:=by simpa using hz
    subst this; exact⟨hy,.inl rfl⟩
   ·have mA:=m.pre hA
    by_cases hyA:y∈ks A
    ·obtain⟨t,h1,h2,h3,h4,h5⟩:=tr_ok n (by simp at hn; omega) mA y hyA
     refine⟨t,(tr_app m.nd hyA).trans h1,h2,h3,h4,λz hz=>?_⟩
     exact⟨by rw[ks_app]; exact bA _ (h5 z hz).1,(h5 z hz).2⟩
    ·have hyz:y=z:=by
      rw[ks_app,aA] at hy
      rcases hy with hy|hy
      ·exact absurd hy hyA
      ·simpa [ks] using hy
     subst hyz
     obtain⟨hx,hxr,i,hi,hj,hli⟩:=m.par A y x [] rfl hA
     obtain⟨t,h1,h2,h3,h4,h5⟩:=tr_ok n (by simp at hn; omega) mA x hx
     have hyt:y∉r::t:=λh=>hyA (h5 y h).1
     have key:∀ (t:List Nat) (u:Nat),Ch g (Bl.filter λi=>!(laid i)) (u::t)→lst u t=x→Ch g (Bl.filter λi=>!(laid i)) (u::(t++[y]))∧lst u (t++[y])=y:=by
      intro t
      induction t with
      | nil =>
        intro u _ hl
        have hl':u=x:=hl
        subst hl'
        exact⟨⟨⟨i,by simp [hi,hli],hj⟩,trivial⟩,rfl⟩
      | cons w t iht =>
        intro u hc hl
        obtain⟨q1,q2⟩:=iht w hc.2 hl
        exact⟨⟨hc.1,q1⟩,q2⟩
     obtain⟨k1,k2⟩:=key t r h4 h2
     refine⟨t++[y],by rw[tr_last hA,h1]; rfl,k2,?_,k1,λw hw=>?_⟩
     ·rw[← aE,aP]
      exact⟨h3,by simp,λa ha b hb=>by
       have:b=y:=by simpa using hb
       subst this; exact λe=>hyt (e▸ha)⟩
     ·rw[← aE,aA] at hw
      rcases hw with hw|hw
      ·obtain⟨q1,q2⟩:=h5 w hw
       refine⟨by rw[ks_app]; exact bA _ q1,?_⟩
       rcases q2 with q|q|q
       ·exact .inl q
       ·exact .inr (.inl q)
       ·subst q; rcases hxr with q|q
        ·exact .inl q
        ·exact .inr (.inl q)
      ·have:w=y:=by simpa using hw
       subst this
       exact⟨hy,.inr (.inr rfl)⟩
end Go.Pla
namespace Go.Proofs.Ytpeemonpdlifbaa
open Go.Am
structure Bu (h:AH) (bb n:Nat) (ev edv:AV) (E:List (Int×Int)) (Bl:List Nat) (la pa:Nat) (H V:Nat→Bool) (fav:AV):Prop where
 o:h.get bb=some (.cells [.int .i64 (n:Nat),ev,edv,.sl la 0 E.length E.length,.sl pa 0 n n,fav] 6 false)
 e:SlE h ev E
 b:SlN h edv Bl
 l:h.get la=some (.cells (bl E.length H) 1 false)
 v:h.get pa=some (.cells (bl n V) 1 false)
 d:bb≠la∧bb≠pa∧la≠pa
 oe:Off (λc=>c=la∨c=pa∨c=bb) ev
 ob:Off (λc=>c=la∨c=pa∨c=bb) edv
theorem Bu.ext {h h':AH}{bb n k:Nat}{ev edv:AV}{E:List (Int×Int)}{Bl:List Nat}{la pa:Nat}{H V:Nat→Bool}{fav:AV} (u:Bu h bb n ev edv E Bl la pa H V fav) (x:Ext k h h') (hk:h.next≤k):Bu h' bb n ev edv E Bl la pa H V fav where
 o:=by rw[x.gt _ (cA (AH.lt_of_get u.o) hk)]; exact u.o
 e:=u.e.ext x hk
 b:=u.b.ext x hk
 l:=by rw[x.gt _ (cA (AH.lt_of_get u.l) hk)]; exact u.l
 v:=by rw[x.gt _ (cA (AH.lt_of_get u.v) hk)]; exact u.v
 d:=u.d
 oe:=u.oe
 ob:=u.ob
theorem Bu.kp {h h':AH}{bb n:Nat}{ev edv:AV}{E:List (Int×Int)}{Bl:List Nat}{la pa:Nat}{H V:Nat→Bool}{fav:AV} (u:Bu h bb n ev edv E Bl la pa H V fav) {S:Nat→Prop} (k:Kp S h h') (hb:¬ S bb) (hl:¬ S la) (hp:¬ S pa) (he:Off S ev) (hd:Off S edv):Bu h' bb n ev edv E Bl la pa H V fav where
 o:=by rw[k.gt _ (AH.lt_of_get u.o) hb]; exact u.o
 e:=u.e.kp k he
 b:=u.b.kp k hd
 l:=by rw[k.gt _ (AH.lt_of_get u.l) hl]; exact u.l
 v:=by rw[k.gt _ (AH.lt_of_get u.v) hp]; exact u.v
 d:=u.d
 oe:=u.oe
 ob:=u.ob
theorem fR {S T:Nat→Prop}{v:AV} (h:Off S v) (hs:∀ c,T c→S c):Off T v:=by
 cases v<;>first|trivial|exact λq=>h (hs _ q)
theorem Bu.putV {h:AH}{bb n:Nat}{ev edv:AV}{E:List (Int×Int)}{Bl:List Nat}{la pa:Nat}{H V:Nat→Bool}{fav:AV} (u:Bu h bb n ev edv E Bl la pa H V fav) {x:Nat} (hx:x<n) :
 ∃ h',bU h pa x [.bool true]=some h'∧Bu h' bb n ev edv E Bl la pa H (λj=>if j=x then true else V j) fav∧Upd h h' pa (.cells (bl n λj=>if j=x then true else V j) 1 false):=by
 have w:=fV (v:=.bool true) u.v (i:=x) (by rw[jt]; exact hx)
 rw[kC] at w
 have uu:=Kk (o:=.cells (bl n λj=>if j=x then true else V j) 1 false) u.v
 have k:=uu.kp (S:=λc=>c=pa) rfl
 refine⟨_,w,⟨?_,u.e.kp k (fR u.oe λc h=>.inr (.inl h)),u.b.kp k (fR u.ob λc h=>.inr (.inl h)),?_,uu.get,u.d,u.oe,u.ob⟩,uu⟩
 ·rw[uu.ne (u.d.2.1)]; exact u.o
 ·rw[uu.ne (u.d.2.2)]; exact u.l
theorem Bu.putH {h:AH}{bb n:Nat}{ev edv:AV}{E:List (Int×Int)}{Bl:List Nat}{la pa:Nat}{H V:Nat→Bool}{fav:AV} (u:Bu h bb n ev edv E Bl la pa H V fav) {x:Nat} (hx:x<E.length) :
 ∃ h',bU h la x [.bool true]=some h'∧Bu h' bb n ev edv E Bl la pa (λj=>if j=x then true else H j) V fav∧Upd h h' la (.cells (bl E.length λj=>if j=x then true else H j) 1 false):=by
 have w:=fV (v:=.bool true) u.l (i:=x) (by rw[jt]; exact hx)
 rw[kC] at w
 have uu:=Kk (o:=.cells (bl E.length λj=>if j=x then true else H j) 1 false) u.l
 have k:=uu.kp (S:=λc=>c=la) rfl
 refine⟨_,w,⟨?_,u.e.kp k (fR u.oe λc h=>.inl h),u.b.kp k (fR u.ob λc h=>.inl h),uu.get,?_,u.d,u.oe,u.ob⟩,uu⟩
 ·rw[uu.ne (u.d.1)]; exact u.o
 ·rw[uu.ne (Ne.symm u.d.2.2)]; exact u.v
def kz (E:List (Int×Int)) (i x:Nat):Bool:=decide (tlE E i=x)||decide (hdE E i=x)
def lY (E:List (Int×Int)) (i x:Nat):Int:=((tlE E i:Nat):Int)+((hdE E i:Nat):Int)-((x:Nat):Int)
theorem ly {h:AH}{bb n:Nat}{ev edv:AV}{E:List (Int×Int)}{Bl:List Nat}{la pa:Nat}{H V:Nat→Bool}{fav:AV} (u:Bu h bb n ev edv E Bl la pa H V fav) (hE:InG n E) (hn:n<2 ^ 40) {i x:Nat} (hi:i<E.length) (hx:x<n) :
 C prg 62 [.ptr bb 0,.int .i64 (i:Nat),.int .i64 (x:Nat)] h λv h'=>v=.tup [.int .i64 (lY E i x),.bool (kz E i x)]∧Ext h.next h h':=by
 refine Kl pf62 ?_
 obtain⟨q1,q2,q3⟩:=hE i hi
 obtain⟨b,p,a,rr,_,_⟩:=u.e.at (fy (f:=eE) hi)
 rw[q1] at rr
 have rse:ak h bb 1 1=some [ev]:=bd u.o rfl
 have w1:IntKind.i64.wrap (((tlE E i:Nat):Int)+((hdE E i:Nat):Int))=((tlE E i:Nat):Int)+((hdE E i:Nat):Int):=eL om om
 have w2:IntKind.i64.wrap (((tlE E i:Nat):Int)+((hdE E i:Nat):Int)-((x:Nat):Int))=lY E i x:=eL om om
 obtain⟨h3,w3,x3,g3,n3⟩:=fL (h:=h) (z:=[.int .i64 0,.int .i64 0]) (cs:=[.int .i64 (tlE E i:Nat),.int .i64 (hdE E i:Nat)]) (e:=2) rfl
 refine ae (ar (Mi0) ?_)
 refine ae (ar (by simp only[am,aC,simprocAttr,bI,rse,a,rr,eE,w3]<;>rfl) ?_)
 have ra:ak h3 h.next 0 1=some [.int .i64 (tlE E i:Nat)]:=bd g3 rfl
 have rb:ak h3 h.next 1 1=some [.int .i64 (hdE E i:Nat)]:=bd g3 rfl
 have d1:decide (((tlE E i:Nat):Int)=((x:Nat):Int))=decide (tlE E i=x):=by rw[decide_eq_decide]; omega
 have d2:decide (((hdE E i:Nat):Int)=((x:Nat):Int))=decide (hdE E i=x):=by rw[decide_eq_decide]; omega
 have ib:kz E i x=(decide (tlE E i=x)||decide (hdE E i=x)):=rfl
 by_cases ht:tlE E i=x
 ·rw[aN ht] at d1 ib
  refine ae (bL (λts h'=>h'=h3∧aL ts 6=.int .i64 (lY E i x)∧aL ts 7=.bool (kz E i x)) (by simp only[am,aC,simprocAttr,bI,ra,rb,w1,w2,d1,ib,Bool.true_or]) ?_)
  rintro ts h4 ⟨rfl,e6,e7⟩
  exact bH ⟨.tup [.int .i64 (lY E i x),.bool (kz E i x)],(by simp only[rs,rf62,am,aC,simprocAttr,e6,e7]<;>rfl),rfl,x3⟩
 ·rw[aK ht] at d1 ib
  refine ae (bL (λts h'=>h'=h3∧aL ts 6=.int .i64 (lY E i x)∧aL ts 7=.bool (kz E i x)) (by simp only[am,aC,simprocAttr,bI,ra,rb,w1,w2,d1,d2,ib,fQ]) ?_)
  rintro ts h4 ⟨rfl,e6,e7⟩
  exact bH ⟨.tup [.int .i64 (lY E i x),.bool (kz E i x)],(by simp only[rs,rf62,am,aC,simprocAttr,e6,e7]<;>rfl),rfl,x3⟩
end Go.Proofs.Ytpeemonpdlifbaa
