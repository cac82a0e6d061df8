/- Two faces' common vertices in one order -/
import Derived.Test.YtlolkmcdimgplaaGreatVTAJ
set_option linter.all false
namespace Go.Pla
open Go.Blk
variable {c d s t:List Nat}{e f f' u x y:Nat}
variable {g:Gr}{B:List Nat}{H:Nat->Bool}{nf:Nat}{fc:Nat->List Nat}
theorem Rot.trans{e:List Nat}(h:Rot c d)(h2:Rot d e):Rot c e:=by
 obtain⟨a,b,rfl,rfl⟩:=h;obtain⟨x,y,h3,rfl⟩:=h2;rcases List.append_eq_append_iff.1 h3 with⟨q,h5,h6⟩|⟨q,h5,h6⟩
 .exact⟨q,y++b,by rw[h6];simp,by rw[h5];simp⟩
 .exact⟨a++x,q,by rw[h5];simp,by rw[h6];simp⟩
theorem Rot.rfl':Rot c c:=⟨[],c,rfl,by simp⟩
theorem BR:cy g c.reverse e=cy g c e:=by
 cases c with
 |nil=>rfl
 |cons x t =>
   rw[jH,rQ];show wk g (x::t.reverse++[x]) e=wk g (x::t++[x]) e;rw[show x::t.reverse++[x]=(x::t++[x]).reverse by simp,xn]
theorem yr(h:Cc g B c):Cc g B c.reverse:=by
 cases c with
 |nil=>exact h
 |cons x t =>
   rw[jH];refine pQ (a:=[x]) (b:=t.reverse) ?_;show Cc g B (x::t.reverse);refine⟨?_,?_,?_⟩
   .rw[show x::t.reverse++[x]=(x::t++[x]).reverse by simp,yp];exact h.1
   .have:=h.2.1;simp only[aY,Jn]at this |-;exact⟨this.1,(gf t).nodup_iff.2 this.2⟩
   .have:=h.2.2;simpa using this
theorem Lay.change(L:Lay g B H nf fc){fc2:Nat->List Nat}(h:∀f,f<nf->Cc g B (fc2 f)/\∀e,cy g (fc2 f) e=cy g (fc f) e):Lay g B H nf fc2 where
 circ:=λf hf=>(h f hf).1
 two:=λe he hH=>by
  obtain⟨a,b,h1,h2,h3,h4⟩:=L.two e he hH;exact⟨a,b,h1,h2,h3,λf hf=>by rw[(h f hf).2,h4 f hf]⟩
 none:=λe he hH f hf=>by rw[(h f hf).2,L.none e he hH f hf]
 span:=λX hX hs=>by
  obtain⟨T,hT⟩:=L.span X hX hs;exact⟨T,λe he=>by rw[hT e he];exact bD λf hf=>by rw[(h f (by simpa using hf)).2]⟩
 bond:=L.bond
theorem Cc.nodup(h:Cc g B c):c.Nodup:=by
 cases c with
 |nil=>exact h.elim
 |cons x t=>exact h.2.1
theorem nb(p:Pln g B)(L:Lay g B H nf fc)(hf:f<nf)(hf':f'<nf)(hne:f≠f'){s' t':List Nat}(hr:Rot (fc f) (x::s++y::t))(hr':Rot (fc f') (x::s'++y::t'))(hs:∀v∈s,v∉fc f'):(∀v∈s',v∉fc f)\/(∀v∈t',v∉fc f):=by
 by_cases h1:∀v∈s',v∉fc f
 .exact .inl h1
 refine .inr λw hw hwf=>h1 λu hu huf=>?_;have hnd':=(hr'.cc (L.circ f' hf')).nodup;have hnd:=(hr.cc (L.circ f hf)).nodup;obtain⟨s1,s2,rfl⟩:=cw hu;obtain⟨t1,t2,rfl⟩:=cw hw;have huf':u∈fc f':=hr'.mem.1 (by simp);have hwf':w∈fc f':=hr'.mem.1 (by simp);have hxf:x∈fc f:=hr.mem.1 (by simp);have hyf:y∈fc f:=hr.mem.1 (by simp);rw[show x::(s1++u::s2)++y::(t1++w::t2)=x::s1++u::s2++y::t1++w::t2 by simp]at hr' hnd';have d1:u≠w/\x≠u/\x≠w/\y≠u/\y≠w:=by
  simp only[aH,bO,aY,aN,ao,aw]at hnd';refine⟨?_,?_,?_,?_,?_⟩<;>intro h<;>subst h<;>simp_all
 obtain⟨d0,d2,d3,d4,d5⟩:=d1;have hu2:u∈t:=by
  have:=hr.mem.2 huf;simp only[aH,ao,aw]at this;rcases this with h|h|h|h
  .exact absurd h.symm d2
  .exact absurd huf' (hs u h)
  .exact absurd h.symm d4
  .exact h
 have hw2:w∈t:=by
  have:=hr.mem.2 hwf;simp only[aH,ao,aw]at this;rcases this with h|h|h|h
  .exact absurd h.symm d3
  .exact absurd hwf' (hs w h)
  .exact absurd h.symm d5
  .exact h
 obtain⟨a,q,rfl⟩:=cw hu2;have hw3:w∈a\/w∈q:=by
  simp only[aw,ao]at hw2;rcases hw2 with h|h|h
  .exact .inl h
  .exact absurd h.symm d0
  .exact .inr h
 have hxn:x∉s++y::(a++u::q):=by
  have:=hnd;rw[aH,aY]at this;exact this.1
 have hyn:y∉a++u::q:=by
  have:=hnd;exact(aY.1 (aN.1 this).2.1).1
 rcases hw3 with hw3|hw3
 .obtain⟨a1,a2,rfl⟩:=cw hw3;have hra:Rot (fc f) (w::a2++u::(q++x::s++y::a1)):=hr.trans ⟨x::s++y::a1,w::a2++u::q,by simp,by simp⟩;have hrb:Rot (fc f') (y::t1++w::t2++x::s1++u::s2):=hr'.trans ⟨x::s1++u::s2,y::t1++w::t2,by simp,by simp⟩;refine tK p L hf' hf (Ne.symm hne) hyf hxf hrb hra (λh=>hyn ?_) (λh=>hxn ?_)
  .simp only[aH,ao,aw,bd,or_false]at h |-;rcases h with h|h|h<;>simp[h]
  .simp only[aH,ao,aw,bd,or_false]at h |-;rcases h with h|h|h<;>simp[h]
 .obtain⟨q1,q2,rfl⟩:=cw hw3;have hra:Rot (fc f) (u::q1++w::(q2++x::s++y::a)):=hr.trans ⟨x::s++y::a,u::q1++w::q2,by simp,by simp⟩;refine tK p L hf' hf (Ne.symm hne) hxf hyf hr' hra (λh=>hxn ?_) (λh=>hyn ?_)
  .simp only[aH,ao,aw,bd,or_false]at h |-;rcases h with h|h|h<;>simp[h]
  .simp only[aH,ao,aw,bd,or_false]at h |-;rcases h with h|h|h<;>simp[h]
abbrev Sg:=Nat×List Nat×List Nat
def fl1(R:List Sg):List Nat:=R.flatMap λq=>q.1::q.2.1
def fl2(R:List Sg):List Nat:=R.flatMap λq=>q.1::q.2.2
theorem ux{P:Nat->Prop}:∀{T:List Nat},(∃y∈T,P y)->∃s y t,T=s++y::t/\P y/\∀v∈s,¬P v
 |[],h=>by obtain⟨y,hy,_⟩:=h;simp at hy
 |a::T,h=>by
   by_cases ha:P a
   .exact⟨[],a,T,rfl,ha,by simp⟩
   .obtain⟨y,hy,hp⟩:=h;have:y∈T:=by
     rcases ao.1 hy with rfl|h
     .exact absurd hp ha
     .exact h
    obtain⟨s,z,t,rfl,h1,h2⟩:=ux (T:=T) ⟨y,this,hp⟩;exact⟨a::s,z,t,rfl,h1,λv hv=>by
     rcases ao.1 hv with rfl|h
     .exact ha
     .exact h2 v h⟩
theorem segs(p:Pln g B)(L:Lay g B H nf fc)(hf:f<nf)(hf':f'<nf)(hne:f≠f'):∀n (R:List Sg) (x:Nat) (T T':List Nat),T.length<=n->R≠[]->Rot (fc f) (fl1 R++x::T)->Rot (fc f') (fl2 R++x::T')->(∀q∈R,(∀v∈q.2.1,v∉fc f')/\∀v∈q.2.2,v∉fc f) ->
 ∃R2:List Sg,Rot (fc f) (fl1 R2)/\Rot (fc f') (fl2 R2)/\2<=R2.length/\∀q∈R2,(∀v∈q.2.1,v∉fc f')/\∀v∈q.2.2,v∉fc f:=by
 intro n;induction n with
 |zero=>?_
 |succ n ih=>?_
 all_goals
  intro R x T T' hn hR hr hr' hp;have hnd:=(hr.cc (L.circ f hf)).nodup;have hnd':=(hr'.cc (L.circ f' hf')).nodup;have one:∀v,v∈fl2 R->v∈fc f->v∈fl1 R:=λv hv hvf=>by
   simp only[fl2,fl1,bH]at hv |-;obtain⟨q,hq,hv⟩:=hv;rcases ao.1 hv with rfl|h
   .exact⟨q,hq,by simp⟩
   .exact absurd hvf ((hp q hq).2 v h)
  have two:∀v,v∈fl1 R->v∈fc f'->v∈fl2 R:=λv hv hvf=>by
   simp only[fl2,fl1,bH]at hv |-;obtain⟨q,hq,hv⟩:=hv;rcases ao.1 hv with rfl|h
   .exact⟨q,hq,by simp⟩
   .exact absurd hvf ((hp q hq).1 v h)
  have fin:(∀y∈T,y∉fc f')->∃R2:List Sg,Rot (fc f) (fl1 R2)/\Rot (fc f') (fl2 R2)/\2<=R2.length/\∀q∈R2,(∀v∈q.2.1,v∉fc f')/\∀v∈q.2.2,v∉fc f:=by
   intro hT;have hT':∀v∈T',v∉fc f:=λv hv hvf=>by
    have h1:=hr.mem.2 hvf;have h2:v∈fc f':=hr'.mem.1 (by simp[hv]);rw[aN,aY]at hnd';rcases aw.1 h1 with h|h
    .exact hnd'.2.2 v (two v h h2) v (by simp[hv]) rfl
    .rcases ao.1 h with rfl|h
     .exact hnd'.2.1.1 hv
     .exact hT v h h2
   refine⟨R++[(x,T,T')],by simpa[fl1]using hr,by simpa[fl2]using hr',?_,λq hq=>?_⟩
   .have:=iG.2 hR;simp;omega
   .rcases aw.1 hq with h|h
    .exact hp q h
    .have:q=(x,T,T'):=by simpa using h
     subst this;exact⟨hT,hT'⟩
  by_cases hex:∃y∈T,y∈fc f'
  case neg=>exact fin λy hy h=>hex ⟨y,hy,h⟩
  obtain⟨s,y,T2,rfl,hy,hs⟩:=ux hex
 .simp at hn
 .have hyf:y∈fc f:=hr.mem.1 (by simp);have hyT:y∈T':=by
   rw[aN]at hnd;have h1:=hr'.mem.2 hy;rcases aw.1 h1 with h|h
   .exact absurd rfl (hnd.2.2 y (one y h hyf) y (by simp))
   .rcases ao.1 h with rfl|h
    .have:=(aY.1 hnd.2.1).1;simp at this
    .exact h
  obtain⟨s',T2',rfl⟩:=cw hyT;have hra:Rot (fc f) (x::s++y::(T2++fl1 R)):=hr.trans ⟨fl1 R,x::(s++y::T2),rfl,by simp⟩;have hrb:Rot (fc f') (x::s'++y::(T2'++fl2 R)):=hr'.trans ⟨fl2 R,x::(s'++y::T2'),rfl,by simp⟩;have hs':∀v∈s',v∉fc f:=by
   rcases nb p L hf hf' hne hra hrb hs with h|h
   .exact h
   .obtain⟨q,R',rfl⟩:=dL hR;exact absurd (hr.mem.1 (show q.1∈fl1 (q::R')++x::(s++y::T2) by simp[fl1])) (h q.1 (by simp[fl2]))
  refine ih (R++[(x,s,s')]) y T2 T2' (by simp at hn;omega) (by simp) (by simpa[fl1]using hr) (by simpa[fl2]using hr') λq hq=>?_;rcases aw.1 hq with h|h
  .exact hp q h
  .have:q=(x,s,s'):=by simpa using h
   subst this;exact⟨hs,hs'⟩
theorem Kl(p:Pln g B)(L:Lay g B H nf fc)(hf:f<nf)(hf':f'<nf)(hne:f≠f')(hx:x∈fc f)(hx':x∈fc f')(hy:y∈fc f)(hy':y∈fc f')(hxy:x≠y) :
 ∃R:List Sg,2<=R.length/\Cc g B (fl1 R)/\Cc g B (fl2 R)/\(∀e,cy g (fl1 R) e=cy g (fc f) e)/\(∀e,cy g (fl2 R) e=cy g (fc f') e)/\(∀v,v∈fl1 R↔v∈fc f)/\(∀v,v∈fl2 R↔v∈fc f')/\∀q∈R,(∀v∈q.2.1,v∉fc f')/\∀v∈q.2.2,v∉fc f:=by
 obtain⟨T,hr⟩:=xw hx;have hyT:y∈T:=by
  have:=hr.mem.2 hy;simpa[Ne.symm hxy]using this
 obtain⟨s,z,T2,rfl,hz,hs⟩:=ux (P:=λv=>v∈fc f') ⟨y,hyT,hy'⟩;have hzf:z∈fc f:=hr.mem.1 (by simp);have hxz:x≠z:=by
  have:=(hr.cc (L.circ f hf)).nodup;intro h;subst h;simp at this
 obtain⟨s',T2',hr'⟩:=CI hx' hz hxz;rcases nb p L hf hf' hne hr hr' hs with h|h
 .obtain⟨R,h1,h2,h3,h4⟩:=segs p L hf hf' hne T2.length [(x,s,s')] z T2 T2' (ab _) (by simp) (by simpa[fl1]using hr) (by simpa[fl2]using hr') (λq hq=>by
   have:q=(x,s,s'):=by simpa using hq
   subst this;exact⟨hs,h⟩)
  exact⟨R,h3,h1.cc (L.circ f hf),h2.cc (L.circ f' hf'),λe=>h1.cy e,λe=>h2.cy e,λv=>h1.mem,λv=>h2.mem,h4⟩
 ·
  let fc2:Nat->List Nat:=λh=>if h=f' then(fc f').reverse else fc h
  have e1:fc2 f=fc f:=by simp[fc2,hne]
  have e2:fc2 f'=(fc f').reverse:=by simp[fc2]
  have L2:Lay g B H nf fc2:=L.change λh hh=>by
   by_cases q:h=f'
   .subst q;rw[e2];exact⟨yr (L.circ h hh),λe=>BR⟩
   .have e3:fc2 h=fc h:=by simp[fc2,q]
    rw[e3];exact⟨L.circ h hh,λ_=>rfl⟩
  have hr2:Rot (fc f').reverse (x::T2'.reverse++z::s'.reverse):=by
   obtain⟨a,b,h1,h2⟩:=hr';have:Rot (fc f').reverse (x::s'++z::T2').reverse:=⟨b.reverse,a.reverse,by rw[h1];simp,by rw[h2];simp⟩
   exact this.trans ⟨T2'.reverse++z::s'.reverse,[x],by simp,by simp⟩
  obtain⟨R,h1,h2,h3,h4⟩:=segs p L2 hf hf' hne T2.length [(x,s,T2'.reverse)] z T2 s'.reverse (ab _) (by simp) (by rw[e1];simpa[fl1]using hr) (by rw[e2];simpa[fl2]using hr2) (λq hq=>by
   have:q=(x,s,T2'.reverse):=by simpa using hq
   subst this;rw[e1,e2];exact⟨λv hv=>by simpa using hs v hv,λv hv=>h v (by simpa using hv)⟩)
  rw[e1]at h1;rw[e2]at h2;refine⟨R,h3,h1.cc (L.circ f hf),h2.cc (yr (L.circ f' hf')),λe=>h1.cy e,λe=>(h2.cy e).trans BR,λv=>h1.mem,λv=>h2.mem.trans (by simp),λq hq=>?_⟩;obtain⟨a,b⟩:=h4 q hq;rw[e1]at b;rw[e2]at a;exact⟨λv hv=>by simpa using a v hv,b⟩
open Go.Blk
variable {g:Gr}{B:List Nat}{H:Nat->Bool}{nf:Nat}{fc:Nat->List Nat}{Φ Ψ:Type}
def On(g:Gr)(L:List Nat)(e:Nat):Prop:=∃a x y b,L=a++x::y::b/\jn g e x y=true
theorem xG{v:Nat}{T:List Nat}(h:On g (u::v::T) e):jn g e u v=true\/On g (v::T) e:=by
 obtain⟨a,x,y,b,h1,h2⟩:=h;cases a with
 |nil =>
   simp only[bt]at h1;injection h1 with h3 h4;injection h4 with h4 _;subst h3 h4;exact .inl h2
 |cons z a =>
   rw[aH]at h1;injection h1 with _ h3;exact .inr ⟨a,x,y,b,h3,h2⟩
theorem pH(p:Pln g B){val:Nat->Ψ}:∀{L:List Nat},Ch g B L->(∀a u v w b,L=a++u::v::w::b->∀e∈B,∀k∈B,jn g e u v=true->jn g k v w=true->val e=val k)->∀e∈B,∀k∈B,On g L e->On g L k->val e=val k
 |[],_,_,_,_,_,_,h,_=>by
   obtain⟨a,x,y,b,h,_⟩:=h;simp at h
 |[u],_,_,_,_,_,_,h,_=>by
   obtain⟨a,x,y,b,h,_⟩:=h;have:=congrArg List.length h;simp at this;omega
 |[u,v],_,_,e,he,k,hk,h,h'=>by
   have n:∀e,On g [v] e->False:=λe ⟨a,x,y,b,h,_⟩=>by
    have:=congrArg List.length h;simp at this;omega
   rcases xG h with h|h
   .rcases xG h' with h'|h'
    .rw[p.one e he k hk u v h h']
    .exact(n k h').elim
   .exact(n e h).elim
 |u::v::w::T,hc,hh,e,he,k,hk,h,h'=>by
   obtain⟨⟨e0,he0,hj0⟩,hc2⟩:=hc;have ih:=pH p (L:=v::w::T) hc2 (λa u' v' w' b hab=>hh (u::a) u' v' w' b (by rw[hab];rfl));obtain⟨⟨e1,he1,hj1⟩,_⟩:=hc2;have h01:=hh [] u v w T rfl e0 he0 e1 he1 hj0 hj1;have o1:On g (v::w::T) e1:=⟨[],v,w,T,rfl,hj1⟩
   have all:∀e∈B,On g (u::v::w::T) e->val e=val e0:=by
    intro e he h;rcases xG h with h|h
    .rw[p.one e he e0 he0 u v h hj0]
    .rw[h01];exact ih e he e1 he1 h o1
   rw[all e he h,all k hk h']
theorem pF{L:List Nat}(h:wk g L e=true):On g L e:=by
 obtain⟨a,x,y,b,h1,h2⟩:=mM h;exact⟨a,x,y,b,h1,h2⟩
theorem rV(p:Pln g B)(hc:Cc g B (x::s++y::t)){val:Nat->Ψ}(hv:∀v∈s,∀S:Ψ->Bool,par B (λe=>(cy g (x::s++y::t) e&&S (val e))&&at_ g e v)=false){k:Nat}(he:e∈B)(hk:k∈B)(h:wk g (x::s++[y]) e=true)(h':wk g (x::s++[y]) k=true):val e=val k:=by
 refine pH p hc.arc (λa u v w b hab e he k hk hj hj'=>?_) e he k hk (pF h) (pF h');have hvs:v∈s:=by
  have h1:(x::s++[y]).tail.dropLast=s:=by simp
  rw[<-h1,hab];cases a with
  |nil=>simp[List.dropLast_cons_of_ne_nil]
  |cons z a =>
    rw[aH,qf,show a++u::v::w::b=(a++[u,v])++(w::b) by simp,eR (by simp)];simp
 have hcc:Cc g B (v::w::((b++t++a)++[u])):=by
  have h1:x::s++y::t=(a++[u])++(v::w::b++t):=by
   rw[show x::s++y::t=(x::s++[y])++t by simp,hab];simp
  rw[h1]at hc;have:=pQ hc;simpa using this
 have hcy:∀e,cy g (v::w::((b++t++a)++[u])) e=cy g (x::s++y::t) e:=λe=>by
  have h1:x::s++y::t=(a++[u])++(v::w::b++t):=by
   rw[show x::s++y::t=(x::s++[y])++t by simp,hab];simp
  rw[h1,rQ];simp
 classical
 have h1:=wW p hcc (Y:=λj=>cy g (x::s++y::t) j&&decide (val j=val e)) (hv v hvs (λz=>decide (z=val e))) (λj hj hy=>by
  rw[hcy];simp only[aL]at hy;exact hy.1) he hk hj hj'
 have e1:cy g (x::s++y::t) e=true:=by
  have h2:=pQ (a:=v::w::(b++t++a)) (b:=[u]) (by simpa using hcc);have h3:=jv p (x:=u) (y:=v) (s:=w::(b++t++a)) (by simpa using h2) he hj;rw[<-hcy,<-h3];have:=rQ (g:=g) (a:=v::w::(b++t++a)) (b:=[u]) (e:=e);simpa using this
 have e2:cy g (x::s++y::t) k=true:=by
  rw[<-hcy];exact jv p hcc hk hj'
 rw[e1,e2]at h1;exact(by simpa using h1.symm:val k=val e).symm
variable {κ:Sg->List Nat}
def flk(κ:Sg->List Nat)(R:List Sg):List Nat:=R.flatMap λq=>q.1::κ q
def hd1(z:Nat):List Sg->Nat
 |[]=>z
 |q::_=>q.1
def pc:List Sg->Nat->List (Sg×Nat)
 |[],_=>[]
 |q::R,z=>(q,hd1 z R)::pc R z
def ark(g:Gr)(κ:Sg->List Nat)(q:Sg×Nat):Nat->Bool:=wk g (q.1.1::κ q.1++[q.2])
variable {R:List Sg}
theorem MW{z:Nat}:∃t,flk κ R++[z]=hd1 z R::t:=by
 cases R with
 |nil=>exact⟨[],rfl⟩
 |cons q R=>exact⟨κ q++flk κ R++[z],by simp[flk,hd1]⟩
theorem xT(p:Pln g B){y:Nat}(nd:(x::s++y::t).Nodup)(he:e∈B)(h:wk g (x::s++[y]) e=true):wk g (y::t) e=false:=by
 obtain⟨a,u,v,b,h1,hj⟩:=mM h;have hu:u∈x::s:=by
  have h2:(x::s++[y]).dropLast=x::s:=yM (l₁:=x::s);rw[<-h2,h1,show a++u::v::b=(a++[u])++(v::b) by simp,eR (by simp)];simp
 have hat:at_ g e u=true:=by rw[p.jat he hj];simp[Ne.symm (p.jne he hj)]
 refine kU p he hat λhm=>?_;rw[aN]at nd;exact nd.2.2 u hu u hm rfl
theorem Bn{q:Sg}{y:Nat}:∀{R:List Sg}{z:Nat},(q,y)∈pc R z->∃R1 R2,R=R1++q::R2/\y=hd1 z R2
 |[],_,h=>by simp[pc]at h
 |a::R,z,h=>by
   rcases ao.1 h with h|h
   .injection h with h1 h2;exact⟨[],R,by rw[h1];rfl,h2⟩
   .obtain⟨R1,R2,h1,h2⟩:=Bn h;exact⟨a::R1,R2,by rw[h1];rfl,h2⟩
theorem Hz{q:Sg}:∀{R:List Sg}{z:Nat},q∈R->∃y,(q,y)∈pc R z
 |[],_,h=>by simp at h
 |a::R,z,h=>by
   rcases ao.1 h with h|h
   .exact⟨hd1 z R,by rw[h];simp[pc]⟩
   .obtain⟨y,h1⟩:=Hz (z:=z) h;exact⟨y,by simp[pc,h1]⟩
theorem lin(p:Pln g B):∀{R:List Sg}{z:Nat},(flk κ R++[z]).Nodup->(∀e∈B,∀q∈pc R z,ark g κ q e=true->wk g (flk κ R++[z]) e=true)/\(pc R z).Pairwise (λa b=>∀e∈B,¬(ark g κ a e=true/\ark g κ b e=true))/\(∀e,wk g (flk κ R++[z]) e=true->∃q∈pc R z,ark g κ q e=true)
 |[],z,_=>⟨λ_ _ _ h=>by simp[pc]at h,by simp[pc],λe h=>by simp[flk,wk]at h⟩
 |q::R,z,nd=>by
   obtain⟨t,ht⟩:=MW (κ:=κ) (R:=R) (z:=z);have e1:flk κ (q::R)++[z]=q.1::κ q++hd1 z R::t:=by rw[<-ht];simp[flk]
   rw[e1]at nd;have nd2:(flk κ R++[z]).Nodup:=by rw[ht];exact(aN.1 nd).2.1
   obtain⟨i1,i2,i3⟩:=lin p nd2;rw[ht]at i1 i3;have sp:∀e,wk g (flk κ (q::R)++[z]) e=(ark g κ (q,hd1 z R) e^^wk g (hd1 z R::t) e):=λe=>by
    rw[e1,iI];rfl
   refine⟨λe he a ha h=>?_,cW.2 ⟨λa ha e he h=>?_,i2⟩,λe h=>?_⟩
   .rw[sp];rcases ao.1 ha with rfl|ha
    .rw[h,xT p nd he h];rfl
    .have h2:=i1 e he a ha h;rw[h2];cases h3:ark g κ (q,hd1 z R) e
     .rfl
     .rw[xT p nd he h3]at h2;cases h2
   .have h2:=i1 e he a ha h.2;rw[xT p nd he h.1]at h2;cases h2
   .rw[sp]at h;by_cases h3:ark g κ (q,hd1 z R) e=true
    .exact⟨_,by simp[pc],h3⟩
    .have h3':ark g κ (q,hd1 z R) e=false:=by simpa using h3
     rw[h3',dF]at h;obtain⟨a,ha,h4⟩:=i3 e h;exact⟨a,by simp[pc,ha],h4⟩
theorem LO(p:Pln g B){w:Nat}{t1 t2:List Nat}(hc:Cc g B (u::t1++w::t2))(he:e∈B)(h:wk g (u::t1++[w]) e=true):wk g (w::t2++[u]) e=false:=by
 have h1:=lF p hc he h;change wk g (u::(t1++w::t2)++[u]) e=true at h1;rw[show u::(t1++w::t2)++[u]=(u::t1)++w::(t2++[u]) by simp,iI,h]at h1;simpa using h1
theorem pcs(p:Pln g B){q0:Sg}(hR:R≠[])(hc:Cc g B (flk κ (q0::R))):(∀e∈B,∀q∈pc (q0::R) q0.1,ark g κ q e=true->cy g (flk κ (q0::R)) e=true)/\(pc (q0::R) q0.1).Pairwise (λa b=>∀e∈B,¬(ark g κ a e=true/\ark g κ b e=true))/\(∀e,cy g (flk κ (q0::R)) e=true->∃q∈pc (q0::R) q0.1,ark g κ q e=true):=by
 obtain⟨q1,R1,rfl⟩:=dL hR;have e1:flk κ (q0::q1::R1)=q0.1::κ q0++q1.1::(κ q1++flk κ R1):=by simp[flk]
 have nd:=hc.nodup;have nd2:(flk κ (q1::R1)++[q0.1]).Nodup:=by
  have h2:flk κ (q0::q1::R1)=[q0.1]++(κ q0++flk κ (q1::R1)):=by simp[flk]
  rw[h2]at nd;have h3:=aN.1 nd;have h4:=aN.1 h3.2.1;refine aN.2 ⟨h4.2.1,by simp,λa ha b hb=>?_⟩;have:b=q0.1:=by simpa using hb
  subst this;exact λh=>h3.2.2 q0.1 (by simp) a (by simp[ha]) h.symm
 obtain⟨i1,i2,i3⟩:=lin p nd2;have e2:flk κ (q1::R1)++[q0.1]=q1.1::(κ q1++flk κ R1)++[q0.1]:=by simp[flk]
 rw[e1]at hc;have sp:∀e,cy g (flk κ (q0::q1::R1)) e=(ark g κ (q0,q1.1) e^^wk g (flk κ (q1::R1)++[q0.1]) e):=λe=>by
  rw[e1];show wk g (q0.1::(κ q0++q1.1::(κ q1++flk κ R1))++[q0.1]) e=_;rw[show q0.1::(κ q0++q1.1::(κ q1++flk κ R1))++[q0.1]=(q0.1::κ q0)++q1.1::((κ q1++flk κ R1)++[q0.1]) by simp,iI,e2];rfl
 have off:∀e∈B,ark g κ (q0,q1.1) e=true->wk g (flk κ (q1::R1)++[q0.1]) e=false:=λe he h=>by
  rw[e2];exact LO p hc he h
 refine⟨λe he a ha h=>?_,cW.2 ⟨λa ha e he h=>?_,i2⟩,λe h=>?_⟩
 .rw[sp];rcases ao.1 ha with rfl|ha
  .have h':ark g κ (q0,q1.1) e=true:=h;rw[h',off e he h'];rfl
  .have h2:=i1 e he a ha h;rw[h2];cases h3:ark g κ (q0,q1.1) e
   .rfl
   .rw[off e he h3]at h2;cases h2
 .have h2:=i1 e he a ha h.2;rw[off e he h.1]at h2;cases h2
 .rw[sp]at h;by_cases h3:ark g κ (q0,q1.1) e=true
  .exact⟨(q0,q1.1),aM ..,h3⟩
  .have h3':ark g κ (q0,q1.1) e=false:=by simpa using h3
   rw[h3',dF]at h;obtain⟨a,ha,h4⟩:=i3 e h;exact⟨a,aQ _ ha,h4⟩
variable {q:Sg}
theorem xD{q0:Sg}(hR:R≠[])(h:(q,y)∈pc (q0::R) q0.1):∃t,Rot (flk κ (q0::R)) (q.1::κ q++y::t):=by
 obtain⟨R1,R2,h1,rfl⟩:=Bn h;have e1:flk κ (q0::R)=flk κ R1++flk κ (q::R2):=by rw[h1];simp[flk]
 have e2:∃t,flk κ R2++flk κ R1=hd1 q0.1 R2::t:=by
  cases R2 with
  |cons a R2=>exact⟨κ a++flk κ R2++flk κ R1,by simp[flk,hd1]⟩
  |nil =>
    cases R1 with
    |nil =>
      rw[bt]at h1;injection h1 with _ h1;exact absurd h1 hR
    |cons a R1 =>
      rw[aH]at h1;injection h1 with h1 _;subst h1;exact⟨κ q0++flk κ R1,by simp[flk,hd1]⟩
 obtain⟨t,ht⟩:=e2;refine⟨t,flk κ R1,flk κ (q::R2),e1,?_⟩;rw[<-ht];simp[flk]
theorem Bv{α:Type}{A w:α->Bool}:∀{l:List α},l.Pairwise (λa b=>¬(A a=true/\A b=true))->∀{a:α},a∈l->A a=true->par l (λb=>w b&&A b)=w a
 |[],_,_,h,_=>by simp at h
 |b::l,hp,a,h,ha=>by
   rw[cW]at hp;simp only[par];rcases ao.1 h with rfl|h
   .rw[eH (l:=l) λc hc=>by
     have:A c=false:=by
      cases hac:A c
      .rfl
      .exact absurd ⟨ha,hac⟩ (hp.1 c hc)
     rw[this];simp,ha];simp
   .have:A b=false:=by
     cases hab:A b
     .rfl
     .exact absurd ⟨hab,ha⟩ (hp.1 a h)
    rw[this,Bv hp.2 h ha];simp
theorem CN{α:Type}{A:α->Prop}:∀{l:List α},l.Pairwise (λa b=>¬(A a/\A b))->∀{a b:α},a∈l->b∈l->A a->A b->a=b
 |[],_,_,_,h,_,_,_=>by simp at h
 |c::l,hp,a,b,ha,hb,h,h'=>by
   rw[cW]at hp;rcases ao.1 ha with h1|h1
   .rcases ao.1 hb with h2|h2
    .rw[h1,h2]
    .exact absurd ⟨h1▸h,h'⟩ (hp.1 b h2)
   .rcases ao.1 hb with h2|h2
    .exact absurd ⟨h2▸h',h⟩ (hp.1 a h1)
    .exact CN hp.2 h1 h2 h h'
open Go.Blk
variable {g:Gr}{B:List Nat}{H:Nat->Bool}{nf:Nat}{fc:Nat->List Nat}{Φ Ψ:Type}
abbrev k1:Sg->List Nat:=λq=>q.2.1
abbrev k2:Sg->List Nat:=λq=>q.2.2
def Hg(g:Gr)(B:List Nat)(H:Nat->Bool)(pt:Nat->Nat)(k v:Nat):Prop:=∃e∈B,H e=false/\pt e=k/\at_ g e v=true/\∃j∈B,at_ g j v=true/\H j=true
theorem Fill.congr{Z Q Q':Nat->Bool}{lq rq β:Nat->Ψ}(h:Fill g B Z Q lq rq β)(hq:∀e∈B,Q e=Q' e):Fill g B Z Q' lq rq β where
 two:=λS=>(h.two S).congr λe he=>by rw[hq e he]
 one:=λX hX=>by
  obtain⟨S,hS⟩:=h.one X hX;exact⟨S,λe he hq'=>hS e he (by rw[hq e he];exact hq')⟩
variable {q0:Sg}
theorem GU(h:(q,y)∈pc (q0::R) q0.1):q∈q0::R/\∃q'∈q0::R,y=q'.1:=by
 obtain⟨R1,R2,h1,h2⟩:=Bn h;refine⟨by rw[h1];simp,?_⟩;cases R2 with
 |nil=>exact⟨q0,by simp,h2⟩
 |cons a R2=>exact⟨a,by rw[h1];simp,h2⟩
variable {l r:Nat->Φ}{pf:Φ->Nat}
open Classical in
theorem half(p:Pln g B)(d:Dual g B l r)(hb:Bond g B)(L:Lay g B H nf fc)(x:Ext g B l r H nf (λf=>cy g (fc f)) pf)(hf:f<nf)(hf':f'<nf)(hne:f≠f')(hR:R≠[])(e1:fc f=flk k1 (q0::R))(e2:fc f'=flk k2 (q0::R))(hsep:∀q∈q0::R,(∀v∈k1 q,v∉fc f')/\∀v∈k2 q,v∉fc f)
 {pt:Nat->Nat} (hpt:∀v,(∀e∈B,at_ g e v=true->H e=false)->∀e∈B,∀k∈B,at_ g e v=true->at_ g k v=true->pt e=pt k)
 (hpf:∀e∈B,∀k∈B,H e=false->H k=false->pt e=pt k->pf (l e)=pf (l k))
 (h2f:∀e∈B,H e=false->∃h,h<nf/\h≠pf (l e)/\∀v,Hg g B H pt (pt e) v->v∈fc h)
 {Sm:Nat->Bool} (hSm:∀e,Sm e=true↔H e=false/\(pf (l e)=f\/pf (l e)=f')/\∀v,Hg g B H pt (pt e) v->v∈fc f/\v∈fc f') :
 ∃(Ψ:Type) (lq rq β:Nat->Ψ),Fill g B (cy g (fc f)) (λe=>!(H e)&&((Sm e&&(pf (l e)==f'))||(!(Sm e)&&(pf (l e)==f)))) lq rq β:=by
 have hc1:=L.circ f hf;have hc2:=L.circ f' hf';have cl:∀v,(∀e∈B,at_ g e v=true->H e=false)->∀e∈B,∀k∈B,at_ g e v=true->at_ g k v=true->H e=false/\H k=false/\pt e=pt k/\pf (l e)=pf (l k)/\Sm e=Sm k:=by
  intro v hv e he k hk hev hkv;have a:=hpt v hv e he k hk hev hkv;have b:=hpf e he k hk (hv e he hev) (hv k hk hkv) a;refine⟨hv e he hev,hv k hk hkv,a,b,?_⟩;have:Sm e=true↔Sm k=true:=by rw[hSm,hSm,hv e he hev,hv k hk hkv,a,b]
  cases h1:Sm e<;>cases h2:Sm k<;>simp[h1,h2]at this |-
 have laid:∀h,h<nf->∀v∈fc h,∃j∈B,at_ g j v=true/\H j=true:=λh hh v hv=>by
  obtain⟨j,hj,ha,hc⟩:=cy_at p (L.circ h hh) hv;exact⟨j,hj,ha,L.hcy hh hj hc⟩
 have hang:∀e∈B,H e=false->∀v,Hg g B H pt (pt e) v->v∈fc (pf (l e)):=by
  rintro e he hH v ⟨k,hk,hkH,hkp,hkv,j,hj,hjv,hjH⟩;obtain⟨i,hi,hiv,hz⟩:=x.hangs p.nd d hb hk hj hkv hjv hkH hjH;rw[hpf k hk e he hkH hH hkp]at hz;exact Aw p hi hz hiv
 have com:∀q∈q0::R,q.1∈fc f/\q.1∈fc f':=λq hq=>by
  rw[e1,e2];simp only[flk,bH];exact⟨⟨q,hq,by simp⟩,q,hq,by simp⟩
 obtain⟨lq0,rq0,β0,F0⟩:=Cj p d hb L x hf' (Q:=λe=>!(H e)&&(Sm e&&(pf (l e)==f'))) (λe he h=>by
  simp only[aL,dJ,beq_iff_eq]at h;exact⟨h.1,h.2.2⟩) (λv hv e he k hk hev hkv=>by
  obtain⟨a,b,c,d',e'⟩:=cl v hv e he k hk hev hkv;rw[a,b,d',e'])
 have P1:=pcs p (κ:=k1) hR (e1▸hc1);have P2:=pcs p (κ:=k2) hR (e2▸hc2);have const0:∀a∈pc (q0::R) q0.1,∀e∈B,∀k∈B,ark g k2 a e=true->ark g k2 a k=true->β0 e=β0 k:=by
  rintro⟨q,y⟩ ha e he k hk h h';obtain⟨t,hr⟩:=xD (κ:=k2) hR ha;rw[<-e2]at hr;refine rV p (hr.cc hc2) (λv hv S=>?_) he hk h h';rw[<-F0.two S v];refine bD λj hj=>?_;rw[hr.cy];by_cases hjv:at_ g j v=true
  .have:(!(H j)&&(Sm j&&(pf (l j)==f')))=false:=by
    cases hq:(!(H j)&&(Sm j&&(pf (l j)==f')))
    .rfl
    .simp only[aL,dJ,beq_iff_eq]at hq;have hvf':v∈fc f':=hr.mem.1 (by simp[hv]);obtain⟨i,hi,hiv,hiH⟩:=laid f' hf' v hvf';exact absurd (((hSm j).1 hq.2.1).2.2 v ⟨j,hj,hq.1,rfl,hjv,i,hi,hiv,hiH⟩).1 ((hsep q (GU ha).1).2 v hv)
   dsimp only;rw[this];simp
  .have:at_ g j v=false:=by simpa using hjv
   rw[this];simp
 have hbv:∀a:Sg×Nat,∃b:Φ,a∈pc (q0::R) q0.1->∀e∈B,ark g k2 a e=true->β0 e=b:=λa=>by
  by_cases h:∃k∈B,ark g k2 a k=true
  .obtain⟨k,hk,hka⟩:=h;exact⟨β0 k,λha e he hea=>const0 a ha e he k hk hea hka⟩
  .exact⟨β0 0,λ_ e he hea=>absurd ⟨e,he,hea⟩ h⟩
 obtain⟨bv,hbv⟩:∃bv:Sg×Nat->Φ,∀a,a∈pc (q0::R) q0.1->∀e∈B,ark g k2 a e=true->β0 e=bv a:=⟨λa=>Classical.choose (hbv a),λa=>Classical.choose_spec (hbv a)⟩
 obtain⟨β,hβ⟩:∃β:Nat->Φ,∀a∈pc (q0::R) q0.1,∀e∈B,ark g k1 a e=true->β e=bv a:=by
  refine⟨λe=>if h:∃a∈pc (q0::R) q0.1,ark g k1 a e=true then bv (Classical.choose h)else β0 0,λa ha e he hea=>?_⟩;have h:∃a∈pc (q0::R) q0.1,ark g k1 a e=true:=⟨a,ha,hea⟩
  dsimp only;rw[dif_pos h];have hs:=Classical.choose_spec h;rw[CN (A:=λa=>ark g k1 a e=true) (P1.2.1.imp λh=>h e he) hs.1 ha hs.2 hea]
 have sum1:∀(S:Φ->Bool),∀e∈B,par (pc (q0::R) q0.1) (λa=>S (bv a)&&ark g k1 a e)=(cy g (fc f) e&&S (β e)):=by
  intro S e he;cases hz:cy g (fc f) e
  .rw[eH λa ha=>?_];· rfl
   cases h:ark g k1 a e
   .simp
   .have:=P1.1 e he a ha h;rw[<-e1,hz]at this;cases this
  .rw[e1]at hz;obtain⟨a,ha,h⟩:=P1.2.2 e hz;rw[Bv (A:=λa=>ark g k1 a e) (w:=λa=>S (bv a)) (P1.2.1.imp λh=>h e he) ha h,hβ a ha e he h];rfl
 have sum2:∀(S:Φ->Bool),∀e∈B,par (pc (q0::R) q0.1) (λa=>S (bv a)&&ark g k2 a e)=(cy g (fc f') e&&S (β0 e)):=by
  intro S e he;cases hz:cy g (fc f') e
  .rw[eH λa ha=>?_];· rfl
   cases h:ark g k2 a e
   .simp
   .have:=P2.1 e he a ha h;rw[<-e2,hz]at this;cases this
  .rw[e2]at hz;obtain⟨a,ha,h⟩:=P2.2.2 e hz;rw[Bv (A:=λa=>ark g k2 a e) (w:=λa=>S (bv a)) (P2.2.1.imp λh=>h e he) ha h,hbv a ha e he h];rfl
 have F1:=F0.other (β':=β) (Z':=cy g (fc f)) (λS=>by
  refine(Even.sum (l:=pc (q0::R) q0.1) (X:=λa e=>S (bv a)&&(ark g k1 a e^^ark g k2 a e)) λa ha=>?_).congr λe he=>?_
  .obtain⟨q,y⟩:=a;obtain⟨t,hr⟩:=xD (κ:=k1) hR ha;obtain⟨t',hr'⟩:=xD (κ:=k2) hR ha;rw[<-e1]at hr;rw[<-e2]at hr';have:=xl p (hr.cc hc1).arc (hr'.cc hc2).arc;cases S (bv (q,y))
   .exact ye
   .exact this
  .rw[<-sum1 S e he,<-sum2 S e he,<-ew];exact bD λa _=>by cases S (bv a)<;>cases ark g k1 a e<;>cases ark g k2 a e<;>rfl)
 let Eb:Sg×Nat->Nat->Bool:=λa e=>decide (H e=false/\Sm e=false/\pf (l e)=f/\∃v∈k1 a.1,Hg g B H pt (pt e) v)
 have Eb_iff:∀a e,Eb a e=true↔H e=false/\Sm e=false/\pf (l e)=f/\∃v∈k1 a.1,Hg g B H pt (pt e) v:=λa e=>by simp[Eb]
 have ins:∀(ps:List (Sg×Nat)),(∀a∈ps,a∈pc (q0::R) q0.1)->ps.Pairwise (λa b=>∀e∈B,¬(ark g k1 a e=true/\ark g k1 b e=true))->∀(Ψ:Type) (Q:Nat->Bool) (lq rq β:Nat->Ψ),Fill g B (cy g (fc f)) Q lq rq β->(∀v,(∀e∈B,at_ g e v=true->H e=false)->∀e∈B,∀k∈B,at_ g e v=true->at_ g k v=true->Q e=Q k)->(∀a∈ps,∃b,∀e∈B,ark g k1 a e=true->β e=b)->∃(Ψ':Type) (lq' rq' β':Nat->Ψ'),Fill g B (cy g (fc f)) (λe=>Q e||ps.any (λa=>Eb a e)) lq' rq' β':=by
  intro ps;induction ps with
  |nil=>exact λ_ _ Ψ Q lq rq β F _ _=>⟨Ψ,lq,rq,β,F.congr λe _=>by simp⟩
  |cons a ps ih =>
    intro hsub hpw Ψ Q lq rq β F hQ hcon;rw[cW]at hpw;have ha:=hsub a (by simp);have hEb:∀v,(∀e∈B,at_ g e v=true->H e=false)->∀e∈B,∀k∈B,at_ g e v=true->at_ g k v=true->Eb a e=Eb a k:=by
     intro v hv e he k hk hev hkv;obtain⟨a1,a2,a3,a4,a5⟩:=cl v hv e he k hk hev hkv;have:Eb a e=true↔Eb a k=true:=by rw[Eb_iff,Eb_iff,a1,a2,a3,a4,a5]
     cases h1:Eb a e<;>cases h2:Eb a k<;>simp[h1,h2]at this |-
    obtain⟨lq2,rq2,β2,F2⟩:=Cj p d hb L x hf (Q:=λe=>Eb a e&&!(Q e)) (λe he h=>by
     simp only[aL]at h;have:=(Eb_iff a e).1 h.1;exact⟨this.1,this.2.2.1⟩) (λv hv e he k hk hev hkv=>by
     rw[hEb v hv e he k hk hev hkv,hQ v hv e he k hk hev hkv])
    obtain⟨q,y⟩:=a;obtain⟨t,hr⟩:=xD (κ:=k1) hR ha;rw[<-e1]at hr;have hr2:Rot (fc f) (y::t++q.1::k1 q):=hr.trans ⟨q.1::k1 q,y::t,rfl,rfl⟩;obtain⟨hqR,q',hq',hy'⟩:=GU ha;have coff:∀e∈B,∀k∈B,wk g (y::t++[q.1]) e=true->wk g (y::t++[q.1]) k=true->β2 e=β2 k:=by
     intro e he k hk h h';refine rV p (hr2.cc hc1) (λv hv S=>?_) he hk h h';rw[<-F2.two S v];refine bD λj hj=>?_;rw[hr2.cy];by_cases hjv:at_ g j v=true
     .have:(Eb (q,y) j&&!(Q j))=false:=by
       cases hE:Eb (q,y) j
       .rfl
       exfalso;obtain⟨b1,b2,b3,u,hu,hgu⟩:=(Eb_iff _ j).1 hE;have hvf:v∈fc f:=hr2.mem.1 (by simp[hv]);obtain⟨i,hi,hiv,hiH⟩:=laid f hf v hvf;have hgv:Hg g B H pt (pt j) v:=⟨j,hj,b1,rfl,hjv,i,hi,hiv,hiH⟩
       obtain⟨o,ho,hone,hoh⟩:=h2f j hj b1;rw[b3]at hone;obtain⟨s1,s2,hs⟩:=cw hu;obtain⟨t1,t2,ht⟩:=cw hv;have hof':o≠f':=λh=>(hsep q hqR).1 u hu (h▸hoh u hgu);refine Hp p L hf hf' ho hne hone hof' (com q hqR).2 (hy'▸(com q' hq').2) (hoh u hgu) (hoh v hgv) (s1:=s1) (s2:=s2) (s3:=t1) (s4:=t2) ?_;rw[ht]at hr;change Rot (fc f) (q.1::k1 q++y::(t1++v::t2))at hr;rw[hs]at hr;simpa using hr
      dsimp only;rw[this];simp
     .have:at_ g j v=false:=by simpa using hjv
      rw[this];simp
    obtain⟨b,hbA⟩:=hcon (q,y) (by simp);have hb':∃b',∀e∈B,cy g (fc f) e=true->ark g k1 (q,y) e=false->β2 e=b':=by
     have off:∀e∈B,cy g (fc f) e=true->ark g k1 (q,y) e=false->wk g (y::t++[q.1]) e=true:=λe he hz hn=>by
      rw[<-hr.cy]at hz;change wk g (q.1::(k1 q++y::t)++[q.1]) e=true at hz;rw[show q.1::(k1 q++y::t)++[q.1]=(q.1::k1 q)++y::(t++[q.1]) by simp,iI]at hz;change wk g (q.1::k1 q++[y]) e=false at hn;rw[hn]at hz;simpa using hz
     by_cases h:∃k∈B,wk g (y::t++[q.1]) k=true
     .obtain⟨k,hk,hkw⟩:=h;exact⟨β2 k,λe he hz hn=>coff e he k hk (off e he hz hn) hkw⟩
     .exact⟨β2 0,λe he hz hn=>absurd ⟨e,he,off e he hz hn⟩ h⟩
    obtain⟨b',hb'⟩:=hb';obtain⟨lq3,rq3,β3,F3,h3⟩:=F.insert F2 (A:=ark g k1 (q,y)) (b:=b) (b':=b') (λe _ h=>by simp[h]) (λe he _ h=>hbA e he h) hb';obtain⟨Ψ',lq4,rq4,β4,F4⟩:=ih (λa ha=>hsub a (by simp[ha])) hpw.2 _ _ lq3 rq3 β3 F3 (λv hv e he k hk hev hkv=>by
     rw[hEb v hv e he k hk hev hkv,hQ v hv e he k hk hev hkv]) (λa' ha'=>by
     obtain⟨b2,hb2⟩:=hcon a' (by simp[ha']);refine⟨.inl b2,λe he h=>?_⟩;have:ark g k1 (q,y) e=false:=by
      cases h1:ark g k1 (q,y) e
      .rfl
      .exact absurd ⟨h1,h⟩ (hpw.1 a' ha' e he)
     rw[h3 e this,hb2 e he h])
    refine⟨Ψ',lq4,rq4,β4,F4.congr λe _=>?_⟩;simp only[List.any_cons];cases Q e<;>cases Eb (q,y) e<;>simp
 obtain⟨Ψ',lq',rq',β',F⟩:=ins _ (λ_ h=>h) P1.2.1 Φ _ lq0 rq0 β F1 (λv hv e he k hk hev hkv=>by
  obtain⟨a,b,c,d',e'⟩:=cl v hv e he k hk hev hkv;rw[a,b,d',e']) (λa ha=>⟨bv a,λe he h=>hβ a ha e he h⟩)
 refine⟨Ψ',lq',rq',β',F.congr λe he=>?_⟩;have key:(pc (q0::R) q0.1).any (λa=>Eb a e)=(!(H e)&&(!(Sm e)&&(pf (l e)==f))):=by
  rw[eq,fU];constructor
  .rintro⟨a,_,h⟩;obtain⟨b1,b2,b3,_⟩:=(Eb_iff a e).1 h;simp[b1,b2,b3]
  .intro h;simp only[aL,dJ,beq_iff_eq]at h;obtain⟨b1,b2,b3⟩:=h;have:∃v,Hg g B H pt (pt e) v/\v∉fc f':=by
    refine Classical.byContradiction λhno=>?_;have:Sm e=true:=(hSm e).2 ⟨b1,.inl b3,λv hv=>⟨b3▸hang e he b1 v hv,Classical.byContradiction λh=>hno ⟨v,hv,h⟩⟩⟩;rw[b2]at this;cases this
   obtain⟨v,hv,hvn⟩:=this;have hvf:=hang e he b1 v hv;rw[b3,e1]at hvf;simp only[flk,bH]at hvf;obtain⟨q,hq,hvq⟩:=hvf;rcases ao.1 hvq with rfl|hvq
   .exact absurd (com q hq).2 hvn
   obtain⟨y,hy⟩:=Hz (z:=q0.1) hq;exact⟨(q,y),hy,(Eb_iff _ e).2 ⟨b1,b2,b3,v,hvq,hv⟩⟩
 rw[key];cases H e<;>cases Sm e<;>simp
open Go.Blk
variable {g:Gr}{B:List Nat}{H:Nat->Bool}{nf:Nat}{fc:Nat->List Nat}{Φ:Type}{l r:Nat->Φ}{pf:Φ->Nat}
theorem Ext.congr{Z Z':Nat->Nat->Bool}(x:Ext g B l r H nf Z pf)(h:∀f,f<nf->∀e∈B,Z f e=Z' f e):Ext g B l r H nf Z' pf where
 side:=λf hf e he=>by rw[<-h f hf e he,x.side f hf e he]
 lt:=x.lt
 lay:=x.lay
structure FP where
 Ψ:Type
 lq:Nat->Ψ
 rq:Nat->Ψ
 β:Nat->Ψ
def sw:Sg->Sg:=λq=>(q.1,q.2.2,q.2.1)
open Classical in
theorem swap(p:Pln g B)(d:Dual g B l r)(hb:Bond g B)(L:Lay g B H nf fc)(x:Ext g B l r H nf (λf=>cy g (fc f)) pf)(hf:f<nf)(hf':f'<nf)(hne:f≠f'){w:Nat}(hu:u∈fc f)(hu':u∈fc f')(hw:w∈fc f)(hw':w∈fc f')(huw:u≠w)
 {pt:Nat->Nat} (hpt:∀v,(∀e∈B,at_ g e v=true->H e=false)->∀e∈B,∀k∈B,at_ g e v=true->at_ g k v=true->pt e=pt k)
 (hpf:∀e∈B,∀k∈B,H e=false->H k=false->pt e=pt k->pf (l e)=pf (l k))
 (h2f:∀e∈B,H e=false->∃h,h<nf/\h≠pf (l e)/\∀v,Hg g B H pt (pt e) v->v∈fc h) :
 ∃(Φ':Type) (l' r':Nat->Φ') (pf':Φ'->Nat),Dual g B l' r'/\Ext g B l' r' H nf (λf=>cy g (fc f)) pf'/\∀e∈B,H e=false->pf (l e)=f'->(∀v,Hg g B H pt (pt e) v->v∈fc f/\v∈fc f')->pf' (l' e)=f:=by
 obtain⟨R,hR,c1,c2,y1,y2,m1,m2,hsep⟩:=Kl p L hf hf' hne hu hu' hw hw' huw;cases R with
 |nil=>simp at hR
 |cons q0 R =>
 have hRn:R≠[]:=by
  intro h;subst h;simp at hR
 obtain⟨fc2,hfc2⟩:∃fc2:Nat->List Nat,∀h,fc2 h=if h=f then fl1 (q0::R)else if h=f' then fl2 (q0::R)else fc h:=⟨_,λ_=>rfl⟩
 have a1:fc2 f=fl1 (q0::R):=by rw[hfc2];simp
 have a2:fc2 f'=fl2 (q0::R):=by rw[hfc2];simp[Ne.symm hne]
 have a3:∀h,h≠f->h≠f'->fc2 h=fc h:=λh q1 q2=>by rw[hfc2];simp[q1,q2]
 have hcy:∀h e,cy g (fc2 h) e=cy g (fc h) e:=λh e=>by
  by_cases q1:h=f
  .subst q1;rw[a1,y1]
  .by_cases q2:h=f'
   .subst q2;rw[a2,y2]
   .rw[a3 h q1 q2]
 have hmem:∀h v,v∈fc2 h↔v∈fc h:=λh v=>by
  by_cases q1:h=f
  .subst q1;rw[a1,m1]
  .by_cases q2:h=f'
   .subst q2;rw[a2,m2]
   .rw[a3 h q1 q2]
 have L2:Lay g B H nf fc2:=L.change λh hh=>⟨by
  by_cases q1:h=f
  .subst q1;rw[a1];exact c1
  .by_cases q2:h=f'
   .subst q2;rw[a2];exact c2
   .rw[a3 h q1 q2];exact L.circ h hh,λe=>hcy h e⟩
 have x2:Ext g B l r H nf (λf=>cy g (fc2 f)) pf:=x.congr λh _ e _=>(hcy h e).symm;have h2f2:∀e∈B,H e=false->∃h,h<nf/\h≠pf (l e)/\∀v,Hg g B H pt (pt e) v->v∈fc2 h:=λe he hH=>by
  obtain⟨h,q1,q2,q3⟩:=h2f e he hH;exact⟨h,q1,q2,λv hv=>(hmem h v).2 (q3 v hv)⟩
 obtain⟨Sm,hSm⟩:∃Sm:Nat->Bool,∀e,Sm e=true↔H e=false/\(pf (l e)=f\/pf (l e)=f')/\∀v,Hg g B H pt (pt e) v->v∈fc2 f/\v∈fc2 f' :=
  ⟨λe=>decide (H e=false/\(pf (l e)=f\/pf (l e)=f')/\∀v,Hg g B H pt (pt e) v->v∈fc2 f/\v∈fc2 f'),λe=>by simp⟩
 have F1:=half p d hb L2 x2 hf hf' hne hRn a1 a2 (λq hq=>⟨λv hv h=>(hsep q hq).1 v hv ((hmem _ _).1 h),λv hv h=>(hsep q hq).2 v hv ((hmem _ _).1 h)⟩) hpt hpf h2f2 hSm;have e1:fc2 f'=flk k1 (sw q0::R.map sw):=by
  rw[a2];simp[fl2,flk,sw,k1,ko]
 have e2:fc2 f=flk k2 (sw q0::R.map sw):=by
  rw[a1];simp[fl1,flk,sw,k2,ko]
 have F2:=half p d hb L2 x2 hf' hf (Ne.symm hne) (q0:=sw q0) (R:=R.map sw) (by simpa using hRn) e1 e2 (λq hq=>by
  rw[<-aS,bG]at hq;obtain⟨q',hq',rfl⟩:=hq;exact⟨λv hv h=>(hsep q' hq').2 v hv ((hmem _ _).1 h),λv hv h=>(hsep q' hq').1 v hv ((hmem _ _).1 h)⟩) hpt hpf h2f2 (Sm:=Sm) (λe=>by
  rw[hSm];constructor
  .rintro⟨q1,q2,q3⟩;exact⟨q1,q2.symm,λv hv=>(q3 v hv).symm⟩
  .rintro⟨q1,q2,q3⟩;exact⟨q1,q2.symm,λv hv=>(q3 v hv).symm⟩)
 obtain⟨a,ha⟩:∃a:Nat->Nat,∀e,a e=if Sm e=true then(if pf (l e)=f then f' else f)else pf (l e):=⟨_,λ_=>rfl⟩
 have fills:∀h,∃P:FP,h<nf->Fill g B (cy g (fc2 h)) (λe=>!(H e)&&(a e==h)) P.lq P.rq P.β:=by
  intro h;by_cases hh:h<nf
  .by_cases q1:h=f
   .subst q1;obtain⟨Ψ,lq,rq,β,F⟩:=F1;refine⟨⟨Ψ,lq,rq,β⟩,λ_=>F.congr λe he=>?_⟩;rw[ha];cases hS:Sm e
    .simp
    .have:=((hSm e).1 hS).2.1;by_cases q2:pf (l e)=h
     .have q3:pf (l e)≠f':=λq=>hne (q2.symm.trans q);simp only[q2,if_true,beq_eq_false_iff_ne.2 (Ne.symm hne),beq_eq_false_iff_ne.2 hne];simp
     .have q3:pf (l e)=f':=this.resolve_left q2;simp[q3,Ne.symm hne]
   .by_cases q2:h=f'
    .subst q2;obtain⟨Ψ,lq,rq,β,F⟩:=F2;refine⟨⟨Ψ,lq,rq,β⟩,λ_=>F.congr λe he=>?_⟩;rw[ha];cases hS:Sm e
     .simp
     .have:=((hSm e).1 hS).2.1;by_cases q2:pf (l e)=f
      .simp[q2]
      .have q3:pf (l e)=h:=this.resolve_left q2;simp only[q3,beq_eq_false_iff_ne.2 (Ne.symm hne),beq_eq_false_iff_ne.2 q1,q1,if_false];simp[hne]
    .have hpf2:∀e∈B,H e=false->pf (r e)=pf (l e):=λe he hH=>by
      have:=x.lay e he;rw[hH]at this;exact(by simpa using this.symm:pf (l e)=pf (r e)).symm
     obtain⟨lq,rq,β,F⟩:=Cj p d hb L2 x2 hh (Q:=λe=>!(H e)&&(pf (l e)==h)) (λe he hq=>by simpa using hq) (λv hv e he k hk hev hkv=>by
      rw[hv e he hev,hv k hk hkv,hpf e he k hk (hv e he hev) (hv k hk hkv) (hpt v hv e he k hk hev hkv)])
     refine⟨⟨Φ,lq,rq,β⟩,λ_=>F.congr λe he=>?_⟩;rw[ha];cases hS:Sm e
     .simp
     .have h3:=((hSm e).1 hS).2.1;have q3:pf (l e)≠h:=λq=>by
       rcases h3 with h3|h3
       .exact q1 (q.symm.trans h3)
       .exact q2 (q.symm.trans h3)
      have q4:(if pf (l e)=f then f' else f)≠h:=by
       split
       .exact λq=>q2 q.symm
       .exact λq=>q1 q.symm
      rw[if_pos rfl,beq_eq_false_iff_ne.2 q3,beq_eq_false_iff_ne.2 q4]
  .exact⟨⟨Φ,l,r,l⟩,λh'=>absurd h' hh⟩
 obtain⟨P,hP⟩:∃P:Nat->FP,∀h,h<nf->Fill g B (cy g (fc2 h)) (λe=>!(H e)&&(a e==h)) (P h).lq (P h).rq (P h).β:=⟨λh=>Classical.choose (fills h),λh=>Classical.choose_spec (fills h)⟩
 obtain⟨l',r',d',x',h'⟩:=Je p L2 (a:=a) (λe he hH=>by
  rw[ha];split
  .split
   .exact hf'
   .exact hf
  .exact(x.lt e he).1) (Ps:=λh=>(P h).Ψ) (lq:=λh=>(P h).lq) (rq:=λh=>(P h).rq) (β:=λh=>(P h).β) hP
 refine⟨_,l',r',Sigma.fst,d',x'.congr λh _ e _=>hcy h e,λe he hH he' hv=>?_⟩;rw[(h' e he hH).1,ha];have:Sm e=true:=(hSm e).2 ⟨hH,.inr he',λv hgv=>⟨(hmem _ _).2 (hv v hgv).1,(hmem _ _).2 (hv v hgv).2⟩⟩;rw[this,if_pos rfl,if_neg (by rw[he'];exact Ne.symm hne)]
open Go.Blk
variable {g:Gr}{B:List Nat}{H:Nat->Bool}{nf:Nat}{fc:Nat->List Nat}{Φ:Type}{l r:Nat->Φ}{pf:Φ->Nat}
theorem BQ(p:Pln g B)(hc:Cc g B c){v:Nat}(he:e∈B)(hev:at_ g e v=true)(hce:cy g c e=true):∃a∈B,a≠e/\at_ g a v=true/\cy g c a=true/\∀j∈B,at_ g j v=true->cy g c j=true->j=e\/j=a:=by
 obtain⟨t,hr⟩:=xw (Aw p he hce hev);have hcc:=hr.cc hc
 match t,hr,hcc with
 |[],_,hcc=>have:=hcc.2.2;simp at this
 |[_],_,hcc=>have:=hcc.2.2;simp at this
 |z::q::s',hr,hcc =>
   obtain⟨s,x,hs⟩:∃s x,q::s'=s++[x]:=by
    rcases cS (q::s')with h|⟨s,x,h⟩
    .cases h
    .exact⟨s,x,by rw[<-dC];exact h⟩
   rw[hs]at hr hcc;have hn:=hcc.2.1;have cyj:∀j∈B,at_ g j v=true->cy g c j=true->jn g j v z=true\/jn g j x v=true:=by
    intro j hj hjv h;rw[<-hr.cy]at h;change wk g (v::z::(s++[x])++[v]) j=true at h;rw[show v::z::(s++[x])++[v]=v::z::(s++[x,v]) by simp,wk,show z::(s++[x,v])=(z::s)++x::[v] by simp,iI]at h;have n3:wk g (z::s++[x]) j=false:=kU p hj hjv (by
     simp only[aY]at hn;simpa using hn.1)
    rw[n3]at h;simp only[wk,dF,cX]at h;by_cases a:jn g j v z=true
    .exact .inl a
    .have a':jn g j v z=false:=by simpa using a
     rw[a',dF]at h;exact .inr h
   obtain⟨⟨e1,he1,hj1⟩,_⟩:=hcc.1;have hlast:∃e2∈B,jn g e2 x v=true:=by
    have h1:=hcc.1;change Ch g B (v::z::(s++[x])++[v])at h1;rw[show v::z::(s++[x])++[v]=(v::z::s)++x::[v] by simp,iK]at h1;exact h1.2.1
   obtain⟨e2,he2,hj2⟩:=hlast;have hxz:x≠z:=by
    intro h;subst h;simp[aY]at hn
   have h12:e1≠e2:=by
    intro h;subst h;have:=p.ne he1;rcases jn_iff.1 hj1 with⟨a,b⟩|⟨a,b⟩<;>rcases jn_iff.1 hj2 with⟨c,d⟩|⟨c,d⟩<;>omega
   have c1:cy g c e1=true:=by rw[<-hr.cy];exact jv p hcc he1 hj1
   have c2:cy g c e2=true:=by
    rw[<-hr.cy,<-(show Rot (v::z::(s++[x])) (x::v::z::s) from ⟨v::z::s,[x],by simp,by simp⟩).cy];exact jv p ((show Rot (v::z::(s++[x])) (x::v::z::s) from ⟨v::z::s,[x],by simp,by simp⟩).cc hcc) he2 hj2
   have a1:at_ g e1 v=true:=by rw[p.jat he1 hj1];simp[Ne.symm (p.jne he1 hj1)]
   have a2:at_ g e2 v=true:=by rw[p.jat he2 hj2];simp[p.jne he2 hj2]
   have all:∀j∈B,at_ g j v=true->cy g c j=true->j=e1\/j=e2:=λj hj hjv h=>by
    rcases cyj j hj hjv h with h|h
    .exact .inl (p.one j hj e1 he1 _ _ h hj1)
    .exact .inr (p.one j hj e2 he2 _ _ h hj2)
   rcases all e he hev hce with rfl|rfl
   .exact⟨e2,he2,Ne.symm h12,a2,c2,all⟩
   .exact⟨e1,he1,h12,a1,c1,λj hj hjv h=>(all j hj hjv h).symm⟩
def Nx(c:List Nat)(x y:Nat):Prop:=∃t,Rot c (x::y::t)
def Ori(g:Gr)(B:List Nat)(H:Nat->Bool)(nf:Nat)(fc:Nat->List Nat):Prop:=∀e∈B,H e=true->∀x y,jn g e x y=true->∃f,f<nf/\Nx (fc f) x y
theorem Nx.rot(h:Rot c d)(hn:Nx d x y):Nx c x y:=by
 obtain⟨t,ht⟩:=hn;exact⟨t,h.trans ht⟩
theorem nx_in{a b:List Nat}(h:c=a++x::y::b):Nx c x y:=⟨b++a,a,x::y::b,h,by simp⟩
theorem Rot.symm(h:Rot c d):Rot d c:=by
 obtain⟨a,b,h1,h2⟩:=h;exact⟨b,a,h2,h1⟩
theorem pK{z:Nat}(hc:c=z::s):Nx c x y↔∃a b,(z::s)++[z]=a++x::y::b/\2<=c.length:=by
 subst hc;constructor
 .rintro⟨t,a,b,h1,h2⟩;have hl:2<=(z::s).length:=by
   have q1:(z::s).length=a.length+b.length:=by rw[h1,aB]
   have q2:(x::y::t).length=b.length+a.length:=by rw[h2,aB]
   simp only[ar]at q1 q2 |-;omega
  match b,h1,h2 with
  |[],h1,h2=>simp at h1 h2;rw[<-h2]at h1;injection h1 with h3 h4;subst h3 h4;exact⟨[],t++[z],rfl,hl⟩
  |[u],h1,h2 =>
    simp at h2;obtain⟨rfl,rfl⟩:=h2;rw[aH]at h1;injection h1 with h3 h4;subst h3 h4;exact⟨z::t,[],by simp,hl⟩
  |u::v::b,h1,h2 =>
    simp at h2;obtain⟨rfl,rfl,h3⟩:=h2;exact⟨a,b++[z],by rw[h1];simp,hl⟩
 .rintro⟨a,b,h,hl⟩;rcases cS b with rfl|⟨b,q,rfl⟩
  .have h2:(z::s)++[z]=(a++[x])++[y]:=by rw[h];simp
   obtain⟨h3,h4⟩:=dW h2 rfl;injection h4 with h4;subst h4;cases a with
   |nil =>
     have:=congrArg List.length h3;simp only[ar,aB,aU]at this hl;omega
   |cons v a =>
     rw[aH]at h3;injection h3 with h5 h6;subst h5;exact⟨a,z::a,[x],by rw[h6];rfl,by simp⟩
  .rw[dC]at h;have h2:(z::s)++[z]=(a++x::y::b)++[q]:=by rw[h];simp
   obtain⟨h3,_⟩:=dW h2 rfl;exact nx_in h3
theorem HH(p:Pln g B){w:List Nat}(hc:Cc g B w):Lay g B (cy g w) 2 (λf=>if f=0 then w else w.reverse)/\Ori g B (cy g w) 2 (λf=>if f=0 then w else w.reverse)/\∀{Φ:Type}{l r:Nat->Φ},Dual g B l r->∃pf:Φ->Nat,Ext g B l r (cy g w) 2 (λf=>cy g (if f=0 then w else w.reverse)) pf:=by
 have hcy:∀f e,cy g (if f=0 then w else w.reverse) e=cy g w e:=λf e=>by
  split
  .rfl
  .exact BR
 refine⟨⟨λf _=>?_,λe he h=>⟨0,1,om,om,om,λf hf=>?_⟩,λe he h f _=>?_,λX hX hs=>?_,λv e k he hk hH hK hev hkv hne=>?_⟩,λe he h x y hj=>?_,fun {Φ l r} d=>?_⟩
 .split
  .exact hc
  .exact yr hc
 .rw[hcy,h];have:f=0\/f=1:=om;rcases this with rfl|rfl<;>rfl
 .rw[hcy,h]
 .rcases(Dt p hc).2 X hX hs with h|h
  .exact⟨λ_=>false,λe he=>by rw[h e he];exact(eH λ_ _=>rfl).symm⟩
  .refine⟨λf=>f==0,λe he=>?_⟩;rw[dG be (by simp),h e he];simp
 .refine⟨cy g w,jw p hc,λ_ _ h=>h,λj hj hjH hjv=>?_⟩;obtain⟨a,ha,hae,hav,hac,hall⟩:=BQ p hc he hev hH;have hka:k=a:=(hall k hk hkv hK).resolve_left (Ne.symm hne);subst hka;rw[hjH];rcases hall j hj hjv hjH with rfl|rfl<;>simp
 .cases w with
  |nil=>exact hc.elim
  |cons z s =>
    have key:On g (z::s++[z]) e:=pF h;obtain⟨a,u,v,b,h1,h2⟩:=key;have hl:2<=(z::s).length:=by have:=hc.2.2;omega
    have n1:Nx (z::s) u v:=(pK rfl).2 ⟨a,b,h1,hl⟩;have n2:Nx (z::s).reverse v u:=by
     obtain⟨t,c,d,h3,h4⟩:=n1;rw[h3];have e1:Rot (c++d).reverse (d++c).reverse:=⟨d.reverse,c.reverse,by simp,by simp⟩
     rw[<-h4]at e1;exact⟨t.reverse,e1.trans ⟨t.reverse,[v,u],by simp,by simp⟩⟩
    have hq:(x=u/\y=v)\/(x=v/\y=u):=by
     rcases jn_iff.1 hj with⟨a1,a2⟩|⟨a1,a2⟩<;>rcases jn_iff.1 h2 with⟨b1,b2⟩|⟨b1,b2⟩<;>omega
    rcases hq with⟨rfl,rfl⟩|⟨rfl,rfl⟩
    .exact⟨0,om,by simpa using n1⟩
    .exact⟨1,om,by simpa using n2⟩
 .obtain⟨S,hS⟩:=d.one _ (jw p hc);refine⟨λa=>if S a=true then 0 else 1,λf hf e he=>?_,λe he=>?_,λe he=>?_⟩
  .rw[hcy,hS e he];have:f=0\/f=1:=om;rcases this with rfl|rfl<;>cases S (l e)<;>cases S (r e)<;>rfl
  .constructor<;>split<;>omega
  .rw[hS e he];cases S (l e)<;>cases S (r e)<;>rfl
end Go.Pla
