/- A dual put together from what fills each face. -/
import Derived.Test.YtcfncejilmimpaaGreatVTAE
set_option linter.all false
namespace Go.Pla
open Go.Blk
variable {D Q Z:Nat->Bool}{c s t:List Nat}{e f f' u v x y:Nat}
variable {g:Gr}{B:List Nat}{H:Nat->Bool}{nf:Nat}{fc:Nat->List Nat}{Φ Ψ Ψ':Type}
structure Fill(g:Gr)(B:List Nat)(Z Q:Nat->Bool)(lq rq β:Nat->Ψ):Prop where
 two:∀S:Ψ->Bool,Even g B (λe=>(Q e&&(S (lq e)^^S (rq e)))^^(Z e&&S (β e)))
 one:∀X,Even g B X->∃S:Ψ->Bool,∀e∈B,Q e=true->X e=(S (lq e)^^S (rq e))
theorem Jr(p:Pln g B)(L:Lay g B H nf fc){a:Nat->Nat}(ha:∀e∈B,H e=false->a e<nf){Ps:Nat->Type}{lq rq β:∀h,Nat->Ps h}(hF:∀h,h<nf->Fill g B (cy g (fc h)) (λe=>!(H e)&&(a e==h)) (lq h) (rq h) (β h)) :
 ∃l r:Nat->Sigma Ps,Dual g B l r/\Ext g B l r H nf (λf=>cy g (fc f)) Sigma.fst/\∀e∈B,H e=false->(l e).1=a e/\(r e).1=a e:=by
 have hch:∀e,∃q:Nat×Nat,e∈B->H e=true->q.1<nf/\q.2<nf/\q.1≠q.2/\∀f,f<nf->cy g (fc f) e=((f==q.1)||(f==q.2)):=λe=>by
  by_cases h:e∈B/\H e=true
  .obtain⟨a,b,c⟩:=L.two e h.1 h.2;exact⟨(a,b),λ_ _=>c⟩
  .exact⟨(0,0),λh1 h2=>absurd ⟨h1,h2⟩ h⟩
 obtain⟨q,hq⟩:∃q:Nat->Nat×Nat,∀e,e∈B->H e=true->(q e).1<nf/\(q e).2<nf/\(q e).1≠(q e).2/\∀f,f<nf->cy g (fc f) e=((f==(q e).1)||(f==(q e).2)):=⟨λe=>Classical.choose (hch e),λe=>Classical.choose_spec (hch e)⟩
 have side:∀S:∀h,Ps h->Bool,∀e∈B,par (List.range nf) (λh=>((!(H e)&&(a e==h))&&(S h (lq h e)^^S h (rq h e)))^^(cy g (fc h) e&&S h (β h e)))=if H e=true then S (q e).1 (β (q e).1 e)^^S (q e).2 (β (q e).2 e)else S (a e) (lq (a e) e)^^S (a e) (rq (a e) e):=by
  intro S e he;cases hH:H e
  .rw[bq (q:=λh=>(h==a e)&&(S h (lq h e)^^S h (rq h e))) (λh hh=>by
    rw[L.none e he hH h (by simpa using hh),fN];simp),dx aY (by simpa using ha e he hH)]
   simp
  .obtain⟨h1,h2,h3,h4⟩:=hq e he hH;rw[bq (q:=λh=>S h (β h e)&&((h==(q e).1)||(h==(q e).2))) (λh hh=>by
    rw[h4 h (by simpa using hh)];simp[Bool.and_comm]),pO h1 h2 h3]
   simp
 refine⟨λe=>if H e=true then⟨(q e).1,β (q e).1 e⟩else⟨a e,lq (a e) e⟩,λe=>if H e=true then⟨(q e).2,β (q e).2 e⟩else⟨a e,rq (a e) e⟩,⟨λS=>?_,λX hX=>?_⟩,⟨λf hf e he=>?_,λe he=>?_,λe he=>?_⟩,λe he hH=>?_⟩
 .refine(Even.sum (l:=List.range nf) (X:=λh e=>((!(H e)&&(a e==h))&&(S ⟨h,lq h e⟩^^S ⟨h,rq h e⟩))^^(cy g (fc h) e&&S ⟨h,β h e⟩)) λh hh=>(hF h (by simpa using hh)).two (fun ψ=>S ⟨h,ψ⟩)).congr λe he=>?_;rw[side (λh ψ=>S ⟨h,ψ⟩) e he];cases hH:H e<;>simp
 .have hS:∀h,∃S:Ps h->Bool,h<nf->∀e∈B,(!(H e)&&(a e==h))=true->X e=(S (lq h e)^^S (rq h e)):=λh=>by
   by_cases hh:h<nf
   .obtain⟨S,hS⟩:=(hF h hh).one X hX;exact⟨S,λ_=>hS⟩
   .exact⟨λ_=>false,λh'=>absurd h' hh⟩
  obtain⟨S,hS⟩:∃S:∀h,Ps h->Bool,∀h,h<nf->∀e∈B,(!(H e)&&(a e==h))=true->X e=(S h (lq h e)^^S h (rq h e)):=⟨λh=>Classical.choose (hS h),λh=>Classical.choose_spec (hS h)⟩
  have hsum:=Even.sum (l:=List.range nf) (X:=λh e=>((!(H e)&&(a e==h))&&(S h (lq h e)^^S h (rq h e)))^^(cy g (fc h) e&&S h (β h e))) λh hh=>(hF h (by simpa using hh)).two (S h);obtain⟨T,hT⟩:=L.span _ (hX.xor hsum) (λe he h=>by
   cases hH:H e
   .rw[side S e he,hH]at h;rw[hS (a e) (ha e he hH) e he (by simp[hH])]at h;simp at h
   .rfl)
  refine⟨λx=>S x.1 x.2^^T x.1,λe he=>?_⟩;have h1:=hT e he;rw[side S e he]at h1;cases hH:H e
  .have:=hS (a e) (ha e he hH) e he (by simp[hH]);change X e=((S (a e) (lq (a e) e)^^T (a e))^^(S (a e) (rq (a e) e)^^T (a e)))
   rw[this];cases S (a e) (lq (a e) e)<;>cases S (a e) (rq (a e) e)<;>cases T (a e)<;>rfl
  .obtain⟨h2,h3,h4,h5⟩:=hq e he hH;rw[bq (q:=λh=>T h&&((h==(q e).1)||(h==(q e).2))) (λh hh=>by rw[h5 h (by simpa using hh)]),pO h2 h3 h4,hH]at h1;simp only[if_true]at h1;change X e=((S (q e).1 (β (q e).1 e)^^T (q e).1)^^(S (q e).2 (β (q e).2 e)^^T (q e).2))
   revert h1;cases X e<;>cases S (q e).1 (β (q e).1 e)<;>cases S (q e).2 (β (q e).2 e)<;>cases T (q e).1<;>cases T (q e).2<;>simp
 .cases hH:H e
  .rw[L.none e he hH f hf];simp
  .obtain⟨h1,h2,h3,h4⟩:=hq e he hH;rw[h4 f hf];simp only[if_true];by_cases h:f=(q e).1
   .subst h;rw[beq_self_eq_true,beq_eq_false_iff_ne.2 (Ne.symm h3)];rfl
   .rw[beq_eq_false_iff_ne.2 h,beq_eq_false_iff_ne.2 (Ne.symm h),hG,dv,fN]
 .cases hH:H e
  .simp only[bu,if_false];exact⟨ha e he hH,ha e he hH⟩
  .simp only[if_true];exact⟨(hq e he hH).1,(hq e he hH).2.1⟩
 .cases hH:H e
  .simp
  .simp only[if_true];exact(bne_iff_ne.2 (hq e he hH).2.2.1).symm
 .simp[hH]
def jo(g:Gr)(D:Nat->Bool):Bool->List Nat->Nat->Bool
 |_,[],_=>false
 |_,[_],_=>false
 |b,x::y::t,e=>((b^^D x)&&jn g e x y)^^jo g D (b^^D x) (y::t) e
theorem NA(p:Pln g B)(h:∃e∈B,jn g e x y=true):par B (λe=>jn g e x y&&at_ g e v)=((x==v)^^(y==v)):=by
 have:=tq p (v:=v) (x:=x) (t:=[y]) ⟨h,trivial⟩;simpa[wk,lst]using this
theorem He(p:Pln g B){D:Nat->Bool}{v:Nat}:∀{x:Nat}{t:List Nat}{b:Bool},Ch g B (x::t)->par B (λe=>jo g D b (x::t) e&&at_ g e v)=((b&&(x==v))^^(par (x::t) (λu=>(u==v)&&D u)^^((b^^par (x::t) D)&&(lst x t==v))))
 |x,[],b,_=>by
   rw[eD λ_ _=>by simp[jo]];simp only[par,lst];cases b<;>cases x==v<;>cases D x<;>rfl
 |x,y::t,b,h=>by
   have ih:=He p (v:=v) (D:=D) (b:=b^^D x) h.2;rw[bq (q:=λe=>((b^^D x)&&(jn g e x y&&at_ g e v))^^(jo g D (b^^D x) (y::t) e&&at_ g e v)) (λe _=>by
    simp only[jo];cases b^^D x<;>cases jn g e x y<;>cases jo g D _ (y::t) e<;>cases at_ g e v<;>rfl),dY,ih,hU,NA p h.1]
   simp only[par,lst];cases b<;>cases D x<;>cases x==v<;>cases y==v<;>cases D y<;>cases par t (λu=>(u==v)&&D u)<;>cases par t D<;>cases lst y t==v<;>rfl
theorem Ia{D:Nat->Bool}{e:Nat}:∀{a:List Nat}{b:Bool},jo g D b a e=true->∃p x y q,a=p++x::y::q/\jn g e x y=true
 |[],_,h=>by simp[jo]at h
 |[_],_,h=>by simp[jo]at h
 |x::y::t,b,h=>by
   by_cases hj:jn g e x y=true
   .exact⟨[],x,y,t,rfl,hj⟩
   .have hj':jn g e x y=false:=by simpa using hj
    rw[jo,hj',eV,dv]at h;obtain⟨p,a,b,q,h1,h2⟩:=Ia h;exact⟨x::p,a,b,q,by rw[h1];rfl,h2⟩
theorem CO(nd:c.Nodup)(h:D v=true->v∈c):par c (λu=>(u==v)&&D u)=D v:=by
 by_cases hv:v∈c
 .exact dx nd hv
 .rw[Hd hv];cases hd:D v
  .rfl
  .exact absurd (h hd) hv
theorem Lj(p:Pln g B)(hc:Cc g B c)(hD:∀v,D v=true->v∈c)(hp:par c D=false):∃A:Nat->Bool,(∀e∈B,A e=true->cy g c e=true)/\∀v,par B (λe=>A e&&at_ g e v)=D v:=by
 cases c with
 |nil=>exact hc.elim
 |cons x t =>
   have hch:Ch g B (x::t):=by
    have h:=hc.1;rcases cT (x::t)with h'|⟨s,z,h'⟩
    .cases h'
    .rw[di]at h';rw[h']at h |-;rw[cn]at h;exact(iw.1 h).1
   refine⟨jo g D false (x::t),λe he h=>?_,λv=>?_⟩
   .obtain⟨s,a,b,q,h1,hj⟩:=Ia h;rw[h1]at hc |-;rw[qV];exact ji p (px hc) he hj
   .rw[He p hch,hp,CO hc.2.1 (hD v)];simp
theorem at_lt(he:e<g.m)(h:at_ g e v=true):v<g.n:=by
 have:=g.ok e he;unfold at_ at h;by_cases a:g.tl e=v
 .omega
 .by_cases b:g.hd e=v
  .omega
  .rw[beq_eq_false_iff_ne.2 a,beq_eq_false_iff_ne.2 b]at h;cases h
theorem Ni(he:e<g.m):par (List.range g.n) (λv=>at_ g e v)=false:=by
 have:=g.ok e he;rw[bq (q:=λv=>((v==g.tl e)&&true)^^((v==g.hd e)&&true)) (λv _=>by
  unfold at_;rw[fA,fA,fN (a:=v),fN (a:=v)]),dY,dx aY (by simpa using this.1),dx aY (by simpa using this.2.1)]
 rfl
theorem Hv(p:Pln g B){X:Nat->Bool}(nd:c.Nodup)(hc:∀v∈c,v<g.n)(hD:∀v,D v=par B (λe=>X e&&at_ g e v))(hin:∀v,D v=true->v∈c):par c D=false:=by
 have h1:par (List.range g.n) D=false:=by
  rw[bq λv _=>hD v,jO];exact eD λe he=>by rw[hU,Ni (p.lt e he)];simp
 rw[bq (q:=λv=>par c (λu=>(u==v)&&D u)) (λv _=>(CO nd (hin v)).symm),jO]at h1;rw[<-h1];refine bq λu hu=>?_;rw[bq (q:=λv=>(v==u)&&D u) (λv _=>by rw[fN]),dx (p:=λ_=>D u) aY (by simpa using hc u hu)]
open Classical in
theorem xw(R:Φ->Φ->Prop):∃c:Φ->Φ,(∀a b,R a b->c a=c b)/\∀{α:Type} (S:Φ->α),(∀a b,R a b->S a=S b)->∀a,S (c a)=S a:=by
 refine⟨λa=>Classical.choose (Quot.exists_rep (Quot.mk R a)),λa b h=>?_,λS hS a=>?_⟩
 .dsimp only;rw[Quot.sound h]
 .have:=Classical.choose_spec (Quot.exists_rep (Quot.mk R a));have h2:=congrArg (Quot.lift S hS) this;exact h2
theorem Cf(p:Pln g B){l r:Nat->Φ}{pf:Φ->Nat}(d:Dual g B l r)(hb:Bond g B)(L:Lay g B H nf fc)(x:Ext g B l r H nf (λf=>cy g (fc f)) pf)(hf:f<nf)(hQ:∀e∈B,Q e=true->H e=false/\pf (l e)=f)(hcl:∀v,(∀e∈B,at_ g e v=true->H e=false)->∀e∈B,∀k∈B,at_ g e v=true->at_ g k v=true->Q e=Q k) :
 ∃lq rq β:Nat->Φ,Fill g B (cy g (fc f)) Q lq rq β:=by
 obtain⟨c,hc1,hc2⟩:=xw (λa b:Φ=>∃e∈B,H e=false/\Q e=false/\pf (l e)=f/\l e=a/\r e=b);have hpf:∀e∈B,H e=false->pf (r e)=pf (l e):=λe he h=>by
  have:=x.lay e he;rw[h]at this;exact(by simpa using this.symm:pf (l e)=pf (r e)).symm
 refine⟨λe=>c (l e),λe=>c (r e),λe=>c (if pf (l e)=f then l e else r e),⟨λS=>?_,λX hX=>?_⟩⟩
 .refine(d.two (λa=>S (c a)&&pf a==f)).congr λe he=>?_;have hs:=x.side f hf e he;cases hH:H e
  .rw[L.none e he hH f hf,hpf e he hH];cases hq:Q e
   .by_cases hpe:pf (l e)=f
    .rw[hc1 (l e) (r e) ⟨e,he,hH,hq,hpe,rfl,rfl⟩];simp
    .rw[beq_eq_false_iff_ne.2 hpe];simp
   .rw[beq_iff_eq.2 (hQ e he hq).2];simp
  .have hq:Q e=false:=by
    cases hq:Q e
    .rfl
    .rw[(hQ e he hq).1]at hH;cases hH
   have hl:=x.lay e he;rw[hH]at hl;have hne:pf (l e)≠pf (r e):=by simpa using hl.symm
   rw[hs,hq];by_cases a:pf (l e)=f
   .have b:pf (r e)≠f:=λh=>hne (a.trans h.symm);rw[beq_iff_eq.2 a,beq_eq_false_iff_ne.2 b,if_pos a];simp
   .rw[beq_eq_false_iff_ne.2 a,if_neg a];cases S (c (l e))<;>cases S (c (r e))<;>cases pf (r e)==f<;>rfl
 ·
  have hin:∀v,par B (λe=>(X e&&Q e)&&at_ g e v)=true->v∈fc f:=by
   intro v hv;by_cases hvh:∃k∈B,at_ g k v=true/\H k=true
   .obtain⟨k,hk,hkv,hkh⟩:=hvh;have:∃e∈B,Q e=true/\at_ g e v=true:=by
     refine Classical.byContradiction λhno=>?_;rw[eD λe he=>?_]at hv
     .cases hv
     .cases hq:Q e
      .simp
      .cases ha:at_ g e v
       .simp
       .exact absurd ⟨e,he,hq,ha⟩ hno
    obtain⟨e,he,hq,hev⟩:=this;obtain⟨hne,hpe⟩:=hQ e he hq;obtain⟨j,hj,hjv,hz⟩:=x.hangs p.nd d hb he hk hev hkv hne hkh;rw[hpe]at hz;exact An p hj hz hjv
   .have hall:∀e∈B,at_ g e v=true->H e=false:=λe he ha=>by
     cases hh:H e
     .rfl
     .exact absurd ⟨e,he,ha,hh⟩ hvh
    have h0:=hX v;by_cases hq:∃k∈B,at_ g k v=true/\Q k=true
    .obtain⟨k,hk,hkv,hkq⟩:=hq;exfalso;have:par B (λe=>(X e&&Q e)&&at_ g e v)=par B (λe=>X e&&at_ g e v):=bq λe he=>by
      cases ha:at_ g e v
      .simp
      .rw[hcl v hall e he k hk ha hkv,hkq];simp
     rw[this,h0]at hv;cases hv
    .rw[eD λe he=>?_]at hv
     .cases hv
     .cases ha:at_ g e v
      .simp
      .cases hq':Q e
       .simp
       .exact absurd ⟨e,he,ha,hq'⟩ hq
  have hcc:=L.circ f hf;have hnd:(fc f).Nodup:=by
   revert hcc;cases fc f with
   |nil=>exact λh=>h.elim
   |cons y t=>exact λh=>h.2.1
  have hlt:∀v∈fc f,v<g.n:=λv hv=>by
   obtain⟨e,he,ha,_⟩:=cy_at p hcc hv;exact at_lt (p.lt e he) ha
  obtain⟨A,hA1,hA2⟩:=Lj p hcc (D:=λv=>par B (λe=>(X e&&Q e)&&at_ g e v)) hin (Hv p (X:=λe=>X e&&Q e) hnd hlt (λ_=>rfl) hin);have hW:Even g B (λe=>(X e&&Q e)^^A e):=λv=>by
   rw[bq (q:=λe=>((X e&&Q e)&&at_ g e v)^^(A e&&at_ g e v)) (λe _=>by
    dsimp only;cases X e&&Q e<;>cases A e<;>cases at_ g e v<;>rfl),dY,hA2 v,kD]
  have hA0:∀e∈B,H e=false->A e=false:=λe he hh=>by
   cases ha:A e
   .rfl
   .have:=hA1 e he ha;rw[L.none e he hh f hf]at this;cases this
  obtain⟨S,hS⟩:=d.one _ hW;refine⟨S,λe he hq=>?_⟩;have hSc:=hc2 S (λa b ⟨k,hk,h1,h2,_,h4,h5⟩=>by
   have:=hS k hk;rw[h2,hA0 k hk h1,eV,dv,h4,h5]at this;revert this;cases S a<;>cases S b<;>simp)
  have:=hS e he;rw[hq,hA0 e he (hQ e he hq).1,fA,cV]at this;rw[hSc,hSc,this]
theorem Fill.other{Z':Nat->Bool}{lq rq β β':Nat->Ψ}(h:Fill g B Z Q lq rq β)(hk:∀S:Ψ->Bool,Even g B (λe=>(Z e&&S (β e))^^(Z' e&&S (β' e)))):Fill g B Z' Q lq rq β' where
 two:=λS=>((h.two S).xor (hk S)).congr λe _=>by
  cases Q e&&(S (lq e)^^S (rq e))<;>cases Z e&&S (β e)<;>cases Z' e&&S (β' e)<;>rfl
 one:=h.one
open Classical in
theorem Fill.insert{E A:Nat->Bool}{lq rq β:Nat->Ψ}{lq' rq' β':Nat->Ψ'}(h:Fill g B Z Q lq rq β)(h':Fill g B Z E lq' rq' β'){b:Ψ}{b':Ψ'}(hd:∀e∈B,Q e=true->E e=false)(hb:∀e∈B,Z e=true->A e=true->β e=b)(hb':∀e∈B,Z e=true->A e=false->β' e=b') :
 ∃lq2 rq2 β2:Nat->Ψ ⊕ Ψ',Fill g B Z (λe=>Q e||E e) lq2 rq2 β2/\∀e,A e=false->β2 e=.inl (β e):=by
 let em:Ψ'->Ψ ⊕ Ψ':=λy=>if y=b' then .inl b else .inr y
 refine⟨λe=>if Q e=true then .inl (lq e)else em (lq' e),λe=>if Q e=true then .inl (rq e)else em (rq' e),λe=>if A e=true then em (β' e)else .inl (β e),⟨λS=>?_,λX hX=>?_⟩,λe he=>by simp[he]⟩
 .refine((h.two (λy=>S (.inl y))).xor (h'.two (λy=>S (em y)^^S (.inl b)))).congr λe he=>?_;have hE:=hd e he;have h1:=hb e he;have h2:=hb' e he;have hem:em b'=.inl b:=by simp[em]
  cases hq:Q e
  .cases hz:Z e
   .cases hee:E e
    .simp
    .simp;cases S (em (lq' e))<;>cases S (em (rq' e))<;>cases S (.inl b)<;>rfl
   .cases ha:A e
    .rw[h2 hz ha,hem];cases hee:E e
     .simp
     .simp;cases S (em (lq' e))<;>cases S (em (rq' e))<;>cases S (.inl b)<;>cases S (.inl (β e))<;>rfl
    .rw[h1 hz ha];cases hee:E e
     .simp;cases S (em (β' e))<;>cases S (.inl b)<;>rfl
     .simp;cases S (em (lq' e))<;>cases S (em (rq' e))<;>cases S (.inl b)<;>cases S (em (β' e))<;>rfl
  .rw[hE hq];cases hz:Z e
   .simp
   .cases ha:A e
    .rw[h2 hz ha,hem];simp
    .rw[h1 hz ha];simp;cases S (.inl (lq e))<;>cases S (.inl (rq e))<;>cases S (.inl b)<;>cases S (em (β' e))<;>rfl
 .obtain⟨S,hS⟩:=h.one X hX;obtain⟨S',hS'⟩:=h'.one X hX;refine⟨λy=>match y with|.inl y=>S y|.inr y=>S' y^^(S' b'^^S b),λe he hq=>?_⟩;have hem:∀y,(match em y with|.inl y=>S y|.inr y=>S' y^^(S' b'^^S b))=(S' y^^(S' b'^^S b)):=λy=>by
   by_cases hy:y=b'
   .subst hy;simp[em]
   .simp[em,hy]
  cases hqe:Q e
  .have hee:E e=true:=by simpa[hqe]using hq
   simp only[bu,if_false];rw[hem,hem,hS' e he hee];cases S' (lq' e)<;>cases S' (rq' e)<;>cases S' b'<;>cases S b<;>rfl
  .simp only[if_true];exact hS e he hqe
open Go.Blk
variable {g:Gr}{B:List Nat}{H:Nat->Bool}{nf:Nat}{fc:Nat->List Nat}
theorem Rot.trans{d e:List Nat}(h:Rot c d)(h2:Rot d e):Rot c e:=by
 obtain⟨a,b,rfl,rfl⟩:=h;obtain⟨x,y,h3,rfl⟩:=h2;rcases List.append_eq_append_iff.1 h3 with⟨q,h5,h6⟩|⟨q,h5,h6⟩
 .exact⟨q,y++b,by rw[h6];simp,by rw[h5];simp⟩
 .exact⟨a++x,q,by rw[h5];simp,by rw[h6];simp⟩
theorem Rot.rfl':Rot c c:=⟨[],c,rfl,by simp⟩
theorem BM:cy g c.reverse e=cy g c e:=by
 cases c with
 |nil=>rfl
 |cons x t =>
   rw[gO,qV];show wk g (x::t.reverse++[x]) e=wk g (x::t++[x]) e;rw[show x::t.reverse++[x]=(x::t++[x]).reverse by simp,xh]
theorem yo(h:Cc g B c):Cc g B c.reverse:=by
 cases c with
 |nil=>exact h
 |cons x t =>
   rw[gO];refine px (a:=[x]) (b:=t.reverse) ?_;show Cc g B (x::t.reverse);refine⟨?_,?_,?_⟩
   .rw[show x::t.reverse++[x]=(x::t++[x]).reverse by simp,ym];exact h.1
   .have:=h.2.1;simp only[aX,Jx]at this |-;exact⟨this.1,(gM t).nodup_iff.2 this.2⟩
   .have:=h.2.2;simpa using this
theorem Lay.change(L:Lay g B H nf fc){fc2:Nat->List Nat}(h:∀f,f<nf->Cc g B (fc2 f)/\∀e,cy g (fc2 f) e=cy g (fc f) e):Lay g B H nf fc2 where
 circ:=λf hf=>(h f hf).1
 two:=λe he hH=>by
  obtain⟨a,b,h1,h2,h3,h4⟩:=L.two e he hH;exact⟨a,b,h1,h2,h3,λf hf=>by rw[(h f hf).2,h4 f hf]⟩
 none:=λe he hH f hf=>by rw[(h f hf).2,L.none e he hH f hf]
 span:=λX hX hs=>by
  obtain⟨T,hT⟩:=L.span X hX hs;exact⟨T,λe he=>by rw[hT e he];exact bq λf hf=>by rw[(h f (by simpa using hf)).2]⟩
 bond:=L.bond
theorem Cc.nodup(h:Cc g B c):c.Nodup:=by
 cases c with
 |nil=>exact h.elim
 |cons x t=>exact h.2.1
theorem nb(p:Pln g B)(L:Lay g B H nf fc)(hf:f<nf)(hf':f'<nf)(hne:f≠f'){s' t':List Nat}(hr:Rot (fc f) (x::s++y::t))(hr':Rot (fc f') (x::s'++y::t'))(hs:∀v∈s,v∉fc f'):(∀v∈s',v∉fc f)\/(∀v∈t',v∉fc f):=by
 by_cases h1:∀v∈s',v∉fc f
 .exact .inl h1
 refine .inr λw hw hwf=>h1 λu hu huf=>?_;have hnd':=(hr'.cc (L.circ f' hf')).nodup;have hnd:=(hr.cc (L.circ f hf)).nodup;obtain⟨s1,s2,rfl⟩:=bT hu;obtain⟨t1,t2,rfl⟩:=bT hw;have huf':u∈fc f':=hr'.mem.1 (by simp);have hwf':w∈fc f':=hr'.mem.1 (by simp);have hxf:x∈fc f:=hr.mem.1 (by simp);have hyf:y∈fc f:=hr.mem.1 (by simp);rw[show x::(s1++u::s2)++y::(t1++w::t2)=x::s1++u::s2++y::t1++w::t2 by simp]at hr' hnd';have d1:u≠w/\x≠u/\x≠w/\y≠u/\y≠w:=by
  simp only[aH,cn,aX,aS,aw,aC]at hnd';refine⟨?_,?_,?_,?_,?_⟩<;>intro h<;>subst h<;>simp_all
 obtain⟨d0,d2,d3,d4,d5⟩:=d1;have hu2:u∈t:=by
  have:=hr.mem.2 huf;simp only[aH,aw,aC]at this;rcases this with h|h|h|h
  .exact absurd h.symm d2
  .exact absurd huf' (hs u h)
  .exact absurd h.symm d4
  .exact h
 have hw2:w∈t:=by
  have:=hr.mem.2 hwf;simp only[aH,aw,aC]at this;rcases this with h|h|h|h
  .exact absurd h.symm d3
  .exact absurd hwf' (hs w h)
  .exact absurd h.symm d5
  .exact h
 obtain⟨a,q,rfl⟩:=bT hu2;have hw3:w∈a\/w∈q:=by
  simp only[aC,aw]at hw2;rcases hw2 with h|h|h
  .exact .inl h
  .exact absurd h.symm d0
  .exact .inr h
 have hxn:x∉s++y::(a++u::q):=by
  have:=hnd;rw[aH,aX]at this;exact this.1
 have hyn:y∉a++u::q:=by
  have:=hnd;exact(aX.1 (aS.1 this).2.1).1
 rcases hw3 with hw3|hw3
 .obtain⟨a1,a2,rfl⟩:=bT hw3;have hra:Rot (fc f) (w::a2++u::(q++x::s++y::a1)):=hr.trans ⟨x::s++y::a1,w::a2++u::q,by simp,by simp⟩;have hrb:Rot (fc f') (y::t1++w::t2++x::s1++u::s2):=hr'.trans ⟨x::s1++u::s2,y::t1++w::t2,by simp,by simp⟩;refine tf p L hf' hf (Ne.symm hne) hyf hxf hrb hra (λh=>hyn ?_) (λh=>hxn ?_)
  .simp only[aH,aw,aC,aZ,or_false]at h |-;rcases h with h|h|h<;>simp[h]
  .simp only[aH,aw,aC,aZ,or_false]at h |-;rcases h with h|h|h<;>simp[h]
 .obtain⟨q1,q2,rfl⟩:=bT hw3;have hra:Rot (fc f) (u::q1++w::(q2++x::s++y::a)):=hr.trans ⟨x::s++y::a,u::q1++w::q2,by simp,by simp⟩;refine tf p L hf' hf (Ne.symm hne) hxf hyf hr' hra (λh=>hxn ?_) (λh=>hyn ?_)
  .simp only[aH,aw,aC,aZ,or_false]at h |-;rcases h with h|h|h<;>simp[h]
  .simp only[aH,aw,aC,aZ,or_false]at h |-;rcases h with h|h|h<;>simp[h]
abbrev Sg:=Nat×List Nat×List Nat
def fl1(R:List Sg):List Nat:=R.flatMap λq=>q.1::q.2.1
def fl2(R:List Sg):List Nat:=R.flatMap λq=>q.1::q.2.2
theorem tW{P:Nat->Prop}:∀{T:List Nat},(∃y∈T,P y)->∃s y t,T=s++y::t/\P y/\∀v∈s,¬P v
 |[],h=>by obtain⟨y,hy,_⟩:=h;simp at hy
 |a::T,h=>by
   by_cases ha:P a
   .exact⟨[],a,T,rfl,ha,by simp⟩
   .obtain⟨y,hy,hp⟩:=h;have:y∈T:=by
     rcases aw.1 hy with rfl|h
     .exact absurd hp ha
     .exact h
    obtain⟨s,z,t,rfl,h1,h2⟩:=tW (T:=T) ⟨y,this,hp⟩;exact⟨a::s,z,t,rfl,h1,λv hv=>by
     rcases aw.1 hv with rfl|h
     .exact ha
     .exact h2 v h⟩
theorem segs(p:Pln g B)(L:Lay g B H nf fc)(hf:f<nf)(hf':f'<nf)(hne:f≠f'):∀n (R:List Sg) (x:Nat) (T T':List Nat),T.length<=n->R≠[]->Rot (fc f) (fl1 R++x::T)->Rot (fc f') (fl2 R++x::T')->(∀q∈R,(∀v∈q.2.1,v∉fc f')/\∀v∈q.2.2,v∉fc f) ->
 ∃R2:List Sg,Rot (fc f) (fl1 R2)/\Rot (fc f') (fl2 R2)/\2<=R2.length/\∀q∈R2,(∀v∈q.2.1,v∉fc f')/\∀v∈q.2.2,v∉fc f:=by
 intro n;induction n with
 |zero=>?_
 |succ n ih=>?_
 all_goals
  intro R x T T' hn hR hr hr' hp;have hnd:=(hr.cc (L.circ f hf)).nodup;have hnd':=(hr'.cc (L.circ f' hf')).nodup;have one:∀v,v∈fl2 R->v∈fc f->v∈fl1 R:=λv hv hvf=>by
   simp only[fl2,fl1,dM]at hv |-;obtain⟨q,hq,hv⟩:=hv;rcases aw.1 hv with rfl|h
   .exact⟨q,hq,by simp⟩
   .exact absurd hvf ((hp q hq).2 v h)
  have two:∀v,v∈fl1 R->v∈fc f'->v∈fl2 R:=λv hv hvf=>by
   simp only[fl2,fl1,dM]at hv |-;obtain⟨q,hq,hv⟩:=hv;rcases aw.1 hv with rfl|h
   .exact⟨q,hq,by simp⟩
   .exact absurd hvf ((hp q hq).1 v h)
  have fin:(∀y∈T,y∉fc f')->∃R2:List Sg,Rot (fc f) (fl1 R2)/\Rot (fc f') (fl2 R2)/\2<=R2.length/\∀q∈R2,(∀v∈q.2.1,v∉fc f')/\∀v∈q.2.2,v∉fc f:=by
   intro hT;have hT':∀v∈T',v∉fc f:=λv hv hvf=>by
    have h1:=hr.mem.2 hvf;have h2:v∈fc f':=hr'.mem.1 (by simp[hv]);rw[aS,aX]at hnd';rcases aC.1 h1 with h|h
    .exact hnd'.2.2 v (two v h h2) v (by simp[hv]) rfl
    .rcases aw.1 h with rfl|h
     .exact hnd'.2.1.1 hv
     .exact hT v h h2
   refine⟨R++[(x,T,T')],by simpa[fl1]using hr,by simpa[fl2]using hr',?_,λq hq=>?_⟩
   .have:=kb.2 hR;simp;omega
   .rcases aC.1 hq with h|h
    .exact hp q h
    .have:q=(x,T,T'):=by simpa using h
     subst this;exact⟨hT,hT'⟩
  by_cases hex:∃y∈T,y∈fc f'
  case neg=>exact fin λy hy h=>hex ⟨y,hy,h⟩
  obtain⟨s,y,T2,rfl,hy,hs⟩:=tW hex
 .simp at hn
 .have hyf:y∈fc f:=hr.mem.1 (by simp);have hyT:y∈T':=by
   rw[aS]at hnd;have h1:=hr'.mem.2 hy;rcases aC.1 h1 with h|h
   .exact absurd rfl (hnd.2.2 y (one y h hyf) y (by simp))
   .rcases aw.1 h with rfl|h
    .have:=(aX.1 hnd.2.1).1;simp at this
    .exact h
  obtain⟨s',T2',rfl⟩:=bT hyT;have hra:Rot (fc f) (x::s++y::(T2++fl1 R)):=hr.trans ⟨fl1 R,x::(s++y::T2),rfl,by simp⟩;have hrb:Rot (fc f') (x::s'++y::(T2'++fl2 R)):=hr'.trans ⟨fl2 R,x::(s'++y::T2'),rfl,by simp⟩;have hs':∀v∈s',v∉fc f:=by
   rcases nb p L hf hf' hne hra hrb hs with h|h
   .exact h
   .obtain⟨q,R',rfl⟩:=dF hR;exact absurd (hr.mem.1 (show q.1∈fl1 (q::R')++x::(s++y::T2) by simp[fl1])) (h q.1 (by simp[fl2]))
  refine ih (R++[(x,s,s')]) y T2 T2' (by simp at hn;omega) (by simp) (by simpa[fl1]using hr) (by simpa[fl2]using hr') λq hq=>?_;rcases aC.1 hq with h|h
  .exact hp q h
  .have:q=(x,s,s'):=by simpa using h
   subst this;exact⟨hs,hs'⟩
theorem KB(p:Pln g B)(L:Lay g B H nf fc)(hf:f<nf)(hf':f'<nf)(hne:f≠f')(hx:x∈fc f)(hx':x∈fc f')(hy:y∈fc f)(hy':y∈fc f')(hxy:x≠y) :
 ∃R:List Sg,2<=R.length/\Cc g B (fl1 R)/\Cc g B (fl2 R)/\(∀e,cy g (fl1 R) e=cy g (fc f) e)/\(∀e,cy g (fl2 R) e=cy g (fc f') e)/\(∀v,v∈fl1 R↔v∈fc f)/\(∀v,v∈fl2 R↔v∈fc f')/\∀q∈R,(∀v∈q.2.1,v∉fc f')/\∀v∈q.2.2,v∉fc f:=by
 obtain⟨T,hr⟩:=xq hx;have hyT:y∈T:=by
  have:=hr.mem.2 hy;simpa[Ne.symm hxy]using this
 obtain⟨s,z,T2,rfl,hz,hs⟩:=tW (P:=λv=>v∈fc f') ⟨y,hyT,hy'⟩;have hzf:z∈fc f:=hr.mem.1 (by simp);have hxz:x≠z:=by
  have:=(hr.cc (L.circ f hf)).nodup;intro h;subst h;simp at this
 obtain⟨s',T2',hr'⟩:=CE hx' hz hxz;rcases nb p L hf hf' hne hr hr' hs with h|h
 .obtain⟨R,h1,h2,h3,h4⟩:=segs p L hf hf' hne T2.length [(x,s,s')] z T2 T2' (ab _) (by simp) (by simpa[fl1]using hr) (by simpa[fl2]using hr') (λq hq=>by
   have:q=(x,s,s'):=by simpa using hq
   subst this;exact⟨hs,h⟩)
  exact⟨R,h3,h1.cc (L.circ f hf),h2.cc (L.circ f' hf'),λe=>h1.cy e,λe=>h2.cy e,λv=>h1.mem,λv=>h2.mem,h4⟩
 ·
  let fc2:Nat->List Nat:=λh=>if h=f' then(fc f').reverse else fc h
  have e1:fc2 f=fc f:=by simp[fc2,hne]
  have e2:fc2 f'=(fc f').reverse:=by simp[fc2]
  have L2:Lay g B H nf fc2:=L.change λh hh=>by
   by_cases q:h=f'
   .subst q;rw[e2];exact⟨yo (L.circ h hh),λe=>BM⟩
   .have e3:fc2 h=fc h:=by simp[fc2,q]
    rw[e3];exact⟨L.circ h hh,λ_=>rfl⟩
  have hr2:Rot (fc f').reverse (x::T2'.reverse++z::s'.reverse):=by
   obtain⟨a,b,h1,h2⟩:=hr';have:Rot (fc f').reverse (x::s'++z::T2').reverse:=⟨b.reverse,a.reverse,by rw[h1];simp,by rw[h2];simp⟩
   exact this.trans ⟨T2'.reverse++z::s'.reverse,[x],by simp,by simp⟩
  obtain⟨R,h1,h2,h3,h4⟩:=segs p L2 hf hf' hne T2.length [(x,s,T2'.reverse)] z T2 s'.reverse (ab _) (by simp) (by rw[e1];simpa[fl1]using hr) (by rw[e2];simpa[fl2]using hr2) (λq hq=>by
   have:q=(x,s,T2'.reverse):=by simpa using hq
   subst this;rw[e1,e2];exact⟨λv hv=>by simpa using hs v hv,λv hv=>h v (by simpa using hv)⟩)
  rw[e1]at h1;rw[e2]at h2;refine⟨R,h3,h1.cc (L.circ f hf),h2.cc (yo (L.circ f' hf')),λe=>h1.cy e,λe=>(h2.cy e).trans BM,λv=>h1.mem,λv=>h2.mem.trans (by simp),λq hq=>?_⟩;obtain⟨a,b⟩:=h4 q hq;rw[e1]at b;rw[e2]at a;exact⟨λv hv=>by simpa using a v hv,b⟩
open Go.Blk
variable {g:Gr}{B:List Nat}{H:Nat->Bool}{nf:Nat}{fc:Nat->List Nat}{Φ Ψ:Type}
def On(g:Gr)(L:List Nat)(e:Nat):Prop:=∃a x y b,L=a++x::y::b/\jn g e x y=true
theorem xC{v:Nat}{T:List Nat}(h:On g (u::v::T) e):jn g e u v=true\/On g (v::T) e:=by
 obtain⟨a,x,y,b,h1,h2⟩:=h;cases a with
 |nil =>
   simp only[bz]at h1;injection h1 with h3 h4;injection h4 with h4 _;subst h3 h4;exact .inl h2
 |cons z a =>
   rw[aH]at h1;injection h1 with _ h3;exact .inr ⟨a,x,y,b,h3,h2⟩
theorem pe(p:Pln g B){val:Nat->Ψ}:∀{L:List Nat},Ch g B L->(∀a u v w b,L=a++u::v::w::b->∀e∈B,∀k∈B,jn g e u v=true->jn g k v w=true->val e=val k)->∀e∈B,∀k∈B,On g L e->On g L k->val e=val k
 |[],_,_,_,_,_,_,h,_=>by
   obtain⟨a,x,y,b,h,_⟩:=h;simp at h
 |[u],_,_,_,_,_,_,h,_=>by
   obtain⟨a,x,y,b,h,_⟩:=h;have:=congrArg List.length h;simp at this;omega
 |[u,v],_,_,e,he,k,hk,h,h'=>by
   have n:∀e,On g [v] e->False:=λe ⟨a,x,y,b,h,_⟩=>by
    have:=congrArg List.length h;simp at this;omega
   rcases xC h with h|h
   .rcases xC h' with h'|h'
    .rw[p.one e he k hk u v h h']
    .exact(n k h').elim
   .exact(n e h).elim
 |u::v::w::T,hc,hh,e,he,k,hk,h,h'=>by
   obtain⟨⟨e0,he0,hj0⟩,hc2⟩:=hc;have ih:=pe p (L:=v::w::T) hc2 (λa u' v' w' b hab=>hh (u::a) u' v' w' b (by rw[hab];rfl));obtain⟨⟨e1,he1,hj1⟩,_⟩:=hc2;have h01:=hh [] u v w T rfl e0 he0 e1 he1 hj0 hj1;have o1:On g (v::w::T) e1:=⟨[],v,w,T,rfl,hj1⟩
   have all:∀e∈B,On g (u::v::w::T) e->val e=val e0:=by
    intro e he h;rcases xC h with h|h
    .rw[p.one e he e0 he0 u v h hj0]
    .rw[h01];exact ih e he e1 he1 h o1
   rw[all e he h,all k hk h']
theorem oX{L:List Nat}(h:wk g L e=true):On g L e:=by
 obtain⟨a,x,y,b,h1,h2⟩:=mH h;exact⟨a,x,y,b,h1,h2⟩
theorem qZ(p:Pln g B)(hc:Cc g B (x::s++y::t)){val:Nat->Ψ}(hv:∀v∈s,∀S:Ψ->Bool,par B (λe=>(cy g (x::s++y::t) e&&S (val e))&&at_ g e v)=false){k:Nat}(he:e∈B)(hk:k∈B)(h:wk g (x::s++[y]) e=true)(h':wk g (x::s++[y]) k=true):val e=val k:=by
 refine pe p hc.arc (λa u v w b hab e he k hk hj hj'=>?_) e he k hk (oX h) (oX h');have hvs:v∈s:=by
  have h1:(x::s++[y]).tail.dropLast=s:=by simp
  rw[<-h1,hab];cases a with
  |nil=>simp[List.dropLast_cons_of_ne_nil]
  |cons z a =>
    rw[aH,pH,show a++u::v::w::b=(a++[u,v])++(w::b) by simp,eM (by simp)];simp
 have hcc:Cc g B (v::w::((b++t++a)++[u])):=by
  have h1:x::s++y::t=(a++[u])++(v::w::b++t):=by
   rw[show x::s++y::t=(x::s++[y])++t by simp,hab];simp
  rw[h1]at hc;have:=px hc;simpa using this
 have hcy:∀e,cy g (v::w::((b++t++a)++[u])) e=cy g (x::s++y::t) e:=λe=>by
  have h1:x::s++y::t=(a++[u])++(v::w::b++t):=by
   rw[show x::s++y::t=(x::s++[y])++t by simp,hab];simp
  rw[h1,qV];simp
 classical
 have h1:=wP p hcc (Y:=λj=>cy g (x::s++y::t) j&&decide (val j=val e)) (hv v hvs (λz=>decide (z=val e))) (λj hj hy=>by
  rw[hcy];simp only[aK]at hy;exact hy.1) he hk hj hj'
 have e1:cy g (x::s++y::t) e=true:=by
  have h2:=px (a:=v::w::(b++t++a)) (b:=[u]) (by simpa using hcc);have h3:=ji p (x:=u) (y:=v) (s:=w::(b++t++a)) (by simpa using h2) he hj;rw[<-hcy,<-h3];have:=qV (g:=g) (a:=v::w::(b++t++a)) (b:=[u]) (e:=e);simpa using this
 have e2:cy g (x::s++y::t) k=true:=by
  rw[<-hcy];exact ji p hcc hk hj'
 rw[e1,e2]at h1;exact(by simpa using h1.symm:val k=val e).symm
variable {κ:Sg->List Nat}
def flk(κ:Sg->List Nat)(R:List Sg):List Nat:=R.flatMap λq=>q.1::κ q
def hd1(z:Nat):List Sg->Nat
 |[]=>z
 |q::_=>q.1
def pc:List Sg->Nat->List (Sg×Nat)
 |[],_=>[]
 |q::R,z=>(q,hd1 z R)::pc R z
def ark(g:Gr)(κ:Sg->List Nat)(q:Sg×Nat):Nat->Bool:=wk g (q.1.1::κ q.1++[q.2])
variable {R:List Sg}
theorem NL{z:Nat}:∃t,flk κ R++[z]=hd1 z R::t:=by
 cases R with
 |nil=>exact⟨[],rfl⟩
 |cons q R=>exact⟨κ q++flk κ R++[z],by simp[flk,hd1]⟩
theorem xJ(p:Pln g B){y:Nat}(nd:(x::s++y::t).Nodup)(he:e∈B)(h:wk g (x::s++[y]) e=true):wk g (y::t) e=false:=by
 obtain⟨a,u,v,b,h1,hj⟩:=mH h;have hu:u∈x::s:=by
  have h2:(x::s++[y]).dropLast=x::s:=yD (l₁:=x::s);rw[<-h2,h1,show a++u::v::b=(a++[u])++(v::b) by simp,eM (by simp)];simp
 have hat:at_ g e u=true:=by rw[p.jat he hj];simp[Ne.symm (p.jne he hj)]
 refine kN p he hat λhm=>?_;rw[aS]at nd;exact nd.2.2 u hu u hm rfl
theorem Bh{q:Sg}{y:Nat}:∀{R:List Sg}{z:Nat},(q,y)∈pc R z->∃R1 R2,R=R1++q::R2/\y=hd1 z R2
 |[],_,h=>by simp[pc]at h
 |a::R,z,h=>by
   rcases aw.1 h with h|h
   .injection h with h1 h2;exact⟨[],R,by rw[h1];rfl,h2⟩
   .obtain⟨R1,R2,h1,h2⟩:=Bh h;exact⟨a::R1,R2,by rw[h1];rfl,h2⟩
theorem HI{q:Sg}:∀{R:List Sg}{z:Nat},q∈R->∃y,(q,y)∈pc R z
 |[],_,h=>by simp at h
 |a::R,z,h=>by
   rcases aw.1 h with h|h
   .exact⟨hd1 z R,by rw[h];simp[pc]⟩
   .obtain⟨y,h1⟩:=HI (z:=z) h;exact⟨y,by simp[pc,h1]⟩
theorem lin(p:Pln g B):∀{R:List Sg}{z:Nat},(flk κ R++[z]).Nodup->(∀e∈B,∀q∈pc R z,ark g κ q e=true->wk g (flk κ R++[z]) e=true)/\(pc R z).Pairwise (λa b=>∀e∈B,¬(ark g κ a e=true/\ark g κ b e=true))/\(∀e,wk g (flk κ R++[z]) e=true->∃q∈pc R z,ark g κ q e=true)
 |[],z,_=>⟨λ_ _ _ h=>by simp[pc]at h,by simp[pc],λe h=>by simp[flk,wk]at h⟩
 |q::R,z,nd=>by
   obtain⟨t,ht⟩:=NL (κ:=κ) (R:=R) (z:=z);have e1:flk κ (q::R)++[z]=q.1::κ q++hd1 z R::t:=by rw[<-ht];simp[flk]
   rw[e1]at nd;have nd2:(flk κ R++[z]).Nodup:=by rw[ht];exact(aS.1 nd).2.1
   obtain⟨i1,i2,i3⟩:=lin p nd2;rw[ht]at i1 i3;have sp:∀e,wk g (flk κ (q::R)++[z]) e=(ark g κ (q,hd1 z R) e^^wk g (hd1 z R::t) e):=λe=>by
    rw[e1,im];rfl
   refine⟨λe he a ha h=>?_,dE.2 ⟨λa ha e he h=>?_,i2⟩,λe h=>?_⟩
   .rw[sp];rcases aw.1 ha with rfl|ha
    .rw[h,xJ p nd he h];rfl
    .have h2:=i1 e he a ha h;rw[h2];cases h3:ark g κ (q,hd1 z R) e
     .rfl
     .rw[xJ p nd he h3]at h2;cases h2
   .have h2:=i1 e he a ha h.2;rw[xJ p nd he h.1]at h2;cases h2
   .rw[sp]at h;by_cases h3:ark g κ (q,hd1 z R) e=true
    .exact⟨_,by simp[pc],h3⟩
    .have h3':ark g κ (q,hd1 z R) e=false:=by simpa using h3
     rw[h3',dv]at h;obtain⟨a,ha,h4⟩:=i3 e h;exact⟨a,by simp[pc,ha],h4⟩
theorem Mi(p:Pln g B){w:Nat}{t1 t2:List Nat}(hc:Cc g B (u::t1++w::t2))(he:e∈B)(h:wk g (u::t1++[w]) e=true):wk g (w::t2++[u]) e=false:=by
 have h1:=lu p hc he h;change wk g (u::(t1++w::t2)++[u]) e=true at h1;rw[show u::(t1++w::t2)++[u]=(u::t1)++w::(t2++[u]) by simp,im,h]at h1;simpa using h1
theorem pcs(p:Pln g B){q0:Sg}(hR:R≠[])(hc:Cc g B (flk κ (q0::R))):(∀e∈B,∀q∈pc (q0::R) q0.1,ark g κ q e=true->cy g (flk κ (q0::R)) e=true)/\(pc (q0::R) q0.1).Pairwise (λa b=>∀e∈B,¬(ark g κ a e=true/\ark g κ b e=true))/\(∀e,cy g (flk κ (q0::R)) e=true->∃q∈pc (q0::R) q0.1,ark g κ q e=true):=by
 obtain⟨q1,R1,rfl⟩:=dF hR;have e1:flk κ (q0::q1::R1)=q0.1::κ q0++q1.1::(κ q1++flk κ R1):=by simp[flk]
 have nd:=hc.nodup;have nd2:(flk κ (q1::R1)++[q0.1]).Nodup:=by
  have h2:flk κ (q0::q1::R1)=[q0.1]++(κ q0++flk κ (q1::R1)):=by simp[flk]
  rw[h2]at nd;have h3:=aS.1 nd;have h4:=aS.1 h3.2.1;refine aS.2 ⟨h4.2.1,by simp,λa ha b hb=>?_⟩;have:b=q0.1:=by simpa using hb
  subst this;exact λh=>h3.2.2 q0.1 (by simp) a (by simp[ha]) h.symm
 obtain⟨i1,i2,i3⟩:=lin p nd2;have e2:flk κ (q1::R1)++[q0.1]=q1.1::(κ q1++flk κ R1)++[q0.1]:=by simp[flk]
 rw[e1]at hc;have sp:∀e,cy g (flk κ (q0::q1::R1)) e=(ark g κ (q0,q1.1) e^^wk g (flk κ (q1::R1)++[q0.1]) e):=λe=>by
  rw[e1];show wk g (q0.1::(κ q0++q1.1::(κ q1++flk κ R1))++[q0.1]) e=_;rw[show q0.1::(κ q0++q1.1::(κ q1++flk κ R1))++[q0.1]=(q0.1::κ q0)++q1.1::((κ q1++flk κ R1)++[q0.1]) by simp,im,e2];rfl
 have off:∀e∈B,ark g κ (q0,q1.1) e=true->wk g (flk κ (q1::R1)++[q0.1]) e=false:=λe he h=>by
  rw[e2];exact Mi p hc he h
 refine⟨λe he a ha h=>?_,dE.2 ⟨λa ha e he h=>?_,i2⟩,λe h=>?_⟩
 .rw[sp];rcases aw.1 ha with rfl|ha
  .have h':ark g κ (q0,q1.1) e=true:=h;rw[h',off e he h'];rfl
  .have h2:=i1 e he a ha h;rw[h2];cases h3:ark g κ (q0,q1.1) e
   .rfl
   .rw[off e he h3]at h2;cases h2
 .have h2:=i1 e he a ha h.2;rw[off e he h.1]at h2;cases h2
 .rw[sp]at h;by_cases h3:ark g κ (q0,q1.1) e=true
  .exact⟨(q0,q1.1),bD ..,h3⟩
  .have h3':ark g κ (q0,q1.1) e=false:=by simpa using h3
   rw[h3',dv]at h;obtain⟨a,ha,h4⟩:=i3 e h;exact⟨a,aV _ ha,h4⟩
variable {q:Sg}
theorem xz{q0:Sg}(hR:R≠[])(h:(q,y)∈pc (q0::R) q0.1):∃t,Rot (flk κ (q0::R)) (q.1::κ q++y::t):=by
 obtain⟨R1,R2,h1,rfl⟩:=Bh h;have e1:flk κ (q0::R)=flk κ R1++flk κ (q::R2):=by rw[h1];simp[flk]
 have e2:∃t,flk κ R2++flk κ R1=hd1 q0.1 R2::t:=by
  cases R2 with
  |cons a R2=>exact⟨κ a++flk κ R2++flk κ R1,by simp[flk,hd1]⟩
  |nil =>
    cases R1 with
    |nil =>
      rw[bz]at h1;injection h1 with _ h1;exact absurd h1 hR
    |cons a R1 =>
      rw[aH]at h1;injection h1 with h1 _;subst h1;exact⟨κ q0++flk κ R1,by simp[flk,hd1]⟩
 obtain⟨t,ht⟩:=e2;refine⟨t,flk κ R1,flk κ (q::R2),e1,?_⟩;rw[<-ht];simp[flk]
theorem Bo{α:Type}{A w:α->Bool}:∀{l:List α},l.Pairwise (λa b=>¬(A a=true/\A b=true))->∀{a:α},a∈l->A a=true->par l (λb=>w b&&A b)=w a
 |[],_,_,h,_=>by simp at h
 |b::l,hp,a,h,ha=>by
   rw[dE]at hp;simp only[par];rcases aw.1 h with rfl|h
   .rw[eD (l:=l) λc hc=>by
     have:A c=false:=by
      cases hac:A c
      .rfl
      .exact absurd ⟨ha,hac⟩ (hp.1 c hc)
     rw[this];simp,ha];simp
   .have:A b=false:=by
     cases hab:A b
     .rfl
     .exact absurd ⟨hab,ha⟩ (hp.1 a h)
    rw[this,Bo hp.2 h ha];simp
theorem CH{α:Type}{A:α->Prop}:∀{l:List α},l.Pairwise (λa b=>¬(A a/\A b))->∀{a b:α},a∈l->b∈l->A a->A b->a=b
 |[],_,_,_,h,_,_,_=>by simp at h
 |c::l,hp,a,b,ha,hb,h,h'=>by
   rw[dE]at hp;rcases aw.1 ha with h1|h1
   .rcases aw.1 hb with h2|h2
    .rw[h1,h2]
    .exact absurd ⟨h1▸h,h'⟩ (hp.1 b h2)
   .rcases aw.1 hb with h2|h2
    .exact absurd ⟨h2▸h',h⟩ (hp.1 a h1)
    .exact CH hp.2 h1 h2 h h'
open Go.Blk
variable {g:Gr}{B:List Nat}{H:Nat->Bool}{nf:Nat}{fc:Nat->List Nat}{Φ Ψ:Type}
abbrev k1:Sg->List Nat:=λq=>q.2.1
abbrev k2:Sg->List Nat:=λq=>q.2.2
def Hg(g:Gr)(B:List Nat)(H:Nat->Bool)(pt:Nat->Nat)(k v:Nat):Prop:=∃e∈B,H e=false/\pt e=k/\at_ g e v=true/\∃j∈B,at_ g j v=true/\H j=true
theorem Fill.congr{Z Q Q':Nat->Bool}{lq rq β:Nat->Ψ}(h:Fill g B Z Q lq rq β)(hq:∀e∈B,Q e=Q' e):Fill g B Z Q' lq rq β where
 two:=λS=>(h.two S).congr λe he=>by rw[hq e he]
 one:=λX hX=>by
  obtain⟨S,hS⟩:=h.one X hX;exact⟨S,λe he hq'=>hS e he (by rw[hq e he];exact hq')⟩
variable {q0:Sg}
theorem GZ(h:(q,y)∈pc (q0::R) q0.1):q∈q0::R/\∃q'∈q0::R,y=q'.1:=by
 obtain⟨R1,R2,h1,h2⟩:=Bh h;refine⟨by rw[h1];simp,?_⟩;cases R2 with
 |nil=>exact⟨q0,by simp,h2⟩
 |cons a R2=>exact⟨a,by rw[h1];simp,h2⟩
variable {l r:Nat->Φ}{pf:Φ->Nat}
open Classical in
theorem half(p:Pln g B)(d:Dual g B l r)(hb:Bond g B)(L:Lay g B H nf fc)(x:Ext g B l r H nf (λf=>cy g (fc f)) pf)(hf:f<nf)(hf':f'<nf)(hne:f≠f')(hR:R≠[])(e1:fc f=flk k1 (q0::R))(e2:fc f'=flk k2 (q0::R))(hsep:∀q∈q0::R,(∀v∈k1 q,v∉fc f')/\∀v∈k2 q,v∉fc f)
 {pt:Nat->Nat} (hpt:∀v,(∀e∈B,at_ g e v=true->H e=false)->∀e∈B,∀k∈B,at_ g e v=true->at_ g k v=true->pt e=pt k)
 (hpf:∀e∈B,∀k∈B,H e=false->H k=false->pt e=pt k->pf (l e)=pf (l k))
 (h2f:∀e∈B,H e=false->∃h,h<nf/\h≠pf (l e)/\∀v,Hg g B H pt (pt e) v->v∈fc h)
 {Sm:Nat->Bool} (hSm:∀e,Sm e=true↔H e=false/\(pf (l e)=f\/pf (l e)=f')/\∀v,Hg g B H pt (pt e) v->v∈fc f/\v∈fc f') :
 ∃(Ψ:Type) (lq rq β:Nat->Ψ),Fill g B (cy g (fc f)) (λe=>!(H e)&&((Sm e&&(pf (l e)==f'))||(!(Sm e)&&(pf (l e)==f)))) lq rq β:=by
 have hc1:=L.circ f hf;have hc2:=L.circ f' hf';have cl:∀v,(∀e∈B,at_ g e v=true->H e=false)->∀e∈B,∀k∈B,at_ g e v=true->at_ g k v=true->H e=false/\H k=false/\pt e=pt k/\pf (l e)=pf (l k)/\Sm e=Sm k:=by
  intro v hv e he k hk hev hkv;have a:=hpt v hv e he k hk hev hkv;have b:=hpf e he k hk (hv e he hev) (hv k hk hkv) a;refine⟨hv e he hev,hv k hk hkv,a,b,?_⟩;have:Sm e=true↔Sm k=true:=by rw[hSm,hSm,hv e he hev,hv k hk hkv,a,b]
  cases h1:Sm e<;>cases h2:Sm k<;>simp[h1,h2]at this |-
 have laid:∀h,h<nf->∀v∈fc h,∃j∈B,at_ g j v=true/\H j=true:=λh hh v hv=>by
  obtain⟨j,hj,ha,hc⟩:=cy_at p (L.circ h hh) hv;exact⟨j,hj,ha,L.hcy hh hj hc⟩
 have hang:∀e∈B,H e=false->∀v,Hg g B H pt (pt e) v->v∈fc (pf (l e)):=by
  rintro e he hH v ⟨k,hk,hkH,hkp,hkv,j,hj,hjv,hjH⟩;obtain⟨i,hi,hiv,hz⟩:=x.hangs p.nd d hb hk hj hkv hjv hkH hjH;rw[hpf k hk e he hkH hH hkp]at hz;exact An p hi hz hiv
 have com:∀q∈q0::R,q.1∈fc f/\q.1∈fc f':=λq hq=>by
  rw[e1,e2];simp only[flk,dM];exact⟨⟨q,hq,by simp⟩,q,hq,by simp⟩
 obtain⟨lq0,rq0,β0,F0⟩:=Cf p d hb L x hf' (Q:=λe=>!(H e)&&(Sm e&&(pf (l e)==f'))) (λe he h=>by
  simp only[aK,dT,beq_iff_eq]at h;exact⟨h.1,h.2.2⟩) (λv hv e he k hk hev hkv=>by
  obtain⟨a,b,c,d',e'⟩:=cl v hv e he k hk hev hkv;rw[a,b,d',e'])
 have P1:=pcs p (κ:=k1) hR (e1▸hc1);have P2:=pcs p (κ:=k2) hR (e2▸hc2);have const0:∀a∈pc (q0::R) q0.1,∀e∈B,∀k∈B,ark g k2 a e=true->ark g k2 a k=true->β0 e=β0 k:=by
  rintro⟨q,y⟩ ha e he k hk h h';obtain⟨t,hr⟩:=xz (κ:=k2) hR ha;rw[<-e2]at hr;refine qZ p (hr.cc hc2) (λv hv S=>?_) he hk h h';rw[<-F0.two S v];refine bq λj hj=>?_;rw[hr.cy];by_cases hjv:at_ g j v=true
  .have:(!(H j)&&(Sm j&&(pf (l j)==f')))=false:=by
    cases hq:(!(H j)&&(Sm j&&(pf (l j)==f')))
    .rfl
    .simp only[aK,dT,beq_iff_eq]at hq;have hvf':v∈fc f':=hr.mem.1 (by simp[hv]);obtain⟨i,hi,hiv,hiH⟩:=laid f' hf' v hvf';exact absurd (((hSm j).1 hq.2.1).2.2 v ⟨j,hj,hq.1,rfl,hjv,i,hi,hiv,hiH⟩).1 ((hsep q (GZ ha).1).2 v hv)
   dsimp only;rw[this];simp
  .have:at_ g j v=false:=by simpa using hjv
   rw[this];simp
 have hbv:∀a:Sg×Nat,∃b:Φ,a∈pc (q0::R) q0.1->∀e∈B,ark g k2 a e=true->β0 e=b:=λa=>by
  by_cases h:∃k∈B,ark g k2 a k=true
  .obtain⟨k,hk,hka⟩:=h;exact⟨β0 k,λha e he hea=>const0 a ha e he k hk hea hka⟩
  .exact⟨β0 0,λ_ e he hea=>absurd ⟨e,he,hea⟩ h⟩
 obtain⟨bv,hbv⟩:∃bv:Sg×Nat->Φ,∀a,a∈pc (q0::R) q0.1->∀e∈B,ark g k2 a e=true->β0 e=bv a:=⟨λa=>Classical.choose (hbv a),λa=>Classical.choose_spec (hbv a)⟩
 obtain⟨β,hβ⟩:∃β:Nat->Φ,∀a∈pc (q0::R) q0.1,∀e∈B,ark g k1 a e=true->β e=bv a:=by
  refine⟨λe=>if h:∃a∈pc (q0::R) q0.1,ark g k1 a e=true then bv (Classical.choose h)else β0 0,λa ha e he hea=>?_⟩;have h:∃a∈pc (q0::R) q0.1,ark g k1 a e=true:=⟨a,ha,hea⟩
  dsimp only;rw[dif_pos h];have hs:=Classical.choose_spec h;rw[CH (A:=λa=>ark g k1 a e=true) (P1.2.1.imp λh=>h e he) hs.1 ha hs.2 hea]
 have sum1:∀(S:Φ->Bool),∀e∈B,par (pc (q0::R) q0.1) (λa=>S (bv a)&&ark g k1 a e)=(cy g (fc f) e&&S (β e)):=by
  intro S e he;cases hz:cy g (fc f) e
  .rw[eD λa ha=>?_];· rfl
   cases h:ark g k1 a e
   .simp
   .have:=P1.1 e he a ha h;rw[<-e1,hz]at this;cases this
  .rw[e1]at hz;obtain⟨a,ha,h⟩:=P1.2.2 e hz;rw[Bo (A:=λa=>ark g k1 a e) (w:=λa=>S (bv a)) (P1.2.1.imp λh=>h e he) ha h,hβ a ha e he h];rfl
 have sum2:∀(S:Φ->Bool),∀e∈B,par (pc (q0::R) q0.1) (λa=>S (bv a)&&ark g k2 a e)=(cy g (fc f') e&&S (β0 e)):=by
  intro S e he;cases hz:cy g (fc f') e
  .rw[eD λa ha=>?_];· rfl
   cases h:ark g k2 a e
   .simp
   .have:=P2.1 e he a ha h;rw[<-e2,hz]at this;cases this
  .rw[e2]at hz;obtain⟨a,ha,h⟩:=P2.2.2 e hz;rw[Bo (A:=λa=>ark g k2 a e) (w:=λa=>S (bv a)) (P2.2.1.imp λh=>h e he) ha h,hbv a ha e he h];rfl
 have F1:=F0.other (β':=β) (Z':=cy g (fc f)) (λS=>by
  refine(Even.sum (l:=pc (q0::R) q0.1) (X:=λa e=>S (bv a)&&(ark g k1 a e^^ark g k2 a e)) λa ha=>?_).congr λe he=>?_
  .obtain⟨q,y⟩:=a;obtain⟨t,hr⟩:=xz (κ:=k1) hR ha;obtain⟨t',hr'⟩:=xz (κ:=k2) hR ha;rw[<-e1]at hr;rw[<-e2]at hr';have:=xe p (hr.cc hc1).arc (hr'.cc hc2).arc;cases S (bv (q,y))
   .exact yc
   .exact this
  .rw[<-sum1 S e he,<-sum2 S e he,<-dY];exact bq λa _=>by cases S (bv a)<;>cases ark g k1 a e<;>cases ark g k2 a e<;>rfl)
 let Eb:Sg×Nat->Nat->Bool:=λa e=>decide (H e=false/\Sm e=false/\pf (l e)=f/\∃v∈k1 a.1,Hg g B H pt (pt e) v)
 have Eb_iff:∀a e,Eb a e=true↔H e=false/\Sm e=false/\pf (l e)=f/\∃v∈k1 a.1,Hg g B H pt (pt e) v:=λa e=>by simp[Eb]
 have ins:∀(ps:List (Sg×Nat)),(∀a∈ps,a∈pc (q0::R) q0.1)->ps.Pairwise (λa b=>∀e∈B,¬(ark g k1 a e=true/\ark g k1 b e=true))->∀(Ψ:Type) (Q:Nat->Bool) (lq rq β:Nat->Ψ),Fill g B (cy g (fc f)) Q lq rq β->(∀v,(∀e∈B,at_ g e v=true->H e=false)->∀e∈B,∀k∈B,at_ g e v=true->at_ g k v=true->Q e=Q k)->(∀a∈ps,∃b,∀e∈B,ark g k1 a e=true->β e=b)->∃(Ψ':Type) (lq' rq' β':Nat->Ψ'),Fill g B (cy g (fc f)) (λe=>Q e||ps.any (λa=>Eb a e)) lq' rq' β':=by
  intro ps;induction ps with
  |nil=>exact λ_ _ Ψ Q lq rq β F _ _=>⟨Ψ,lq,rq,β,F.congr λe _=>by simp⟩
  |cons a ps ih =>
    intro hsub hpw Ψ Q lq rq β F hQ hcon;rw[dE]at hpw;have ha:=hsub a (by simp);have hEb:∀v,(∀e∈B,at_ g e v=true->H e=false)->∀e∈B,∀k∈B,at_ g e v=true->at_ g k v=true->Eb a e=Eb a k:=by
     intro v hv e he k hk hev hkv;obtain⟨a1,a2,a3,a4,a5⟩:=cl v hv e he k hk hev hkv;have:Eb a e=true↔Eb a k=true:=by rw[Eb_iff,Eb_iff,a1,a2,a3,a4,a5]
     cases h1:Eb a e<;>cases h2:Eb a k<;>simp[h1,h2]at this |-
    obtain⟨lq2,rq2,β2,F2⟩:=Cf p d hb L x hf (Q:=λe=>Eb a e&&!(Q e)) (λe he h=>by
     simp only[aK]at h;have:=(Eb_iff a e).1 h.1;exact⟨this.1,this.2.2.1⟩) (λv hv e he k hk hev hkv=>by
     rw[hEb v hv e he k hk hev hkv,hQ v hv e he k hk hev hkv])
    obtain⟨q,y⟩:=a;obtain⟨t,hr⟩:=xz (κ:=k1) hR ha;rw[<-e1]at hr;have hr2:Rot (fc f) (y::t++q.1::k1 q):=hr.trans ⟨q.1::k1 q,y::t,rfl,rfl⟩;obtain⟨hqR,q',hq',hy'⟩:=GZ ha;have coff:∀e∈B,∀k∈B,wk g (y::t++[q.1]) e=true->wk g (y::t++[q.1]) k=true->β2 e=β2 k:=by
     intro e he k hk h h';refine qZ p (hr2.cc hc1) (λv hv S=>?_) he hk h h';rw[<-F2.two S v];refine bq λj hj=>?_;rw[hr2.cy];by_cases hjv:at_ g j v=true
     .have:(Eb (q,y) j&&!(Q j))=false:=by
       cases hE:Eb (q,y) j
       .rfl
       exfalso;obtain⟨b1,b2,b3,u,hu,hgu⟩:=(Eb_iff _ j).1 hE;have hvf:v∈fc f:=hr2.mem.1 (by simp[hv]);obtain⟨i,hi,hiv,hiH⟩:=laid f hf v hvf;have hgv:Hg g B H pt (pt j) v:=⟨j,hj,b1,rfl,hjv,i,hi,hiv,hiH⟩
       obtain⟨o,ho,hone,hoh⟩:=h2f j hj b1;rw[b3]at hone;obtain⟨s1,s2,hs⟩:=bT hu;obtain⟨t1,t2,ht⟩:=bT hv;have hof':o≠f':=λh=>(hsep q hqR).1 u hu (h▸hoh u hgu);refine Hx p L hf hf' ho hne hone hof' (com q hqR).2 (hy'▸(com q' hq').2) (hoh u hgu) (hoh v hgv) (s1:=s1) (s2:=s2) (s3:=t1) (s4:=t2) ?_;rw[ht]at hr;change Rot (fc f) (q.1::k1 q++y::(t1++v::t2))at hr;rw[hs]at hr;simpa using hr
      dsimp only;rw[this];simp
     .have:at_ g j v=false:=by simpa using hjv
      rw[this];simp
    obtain⟨b,hbA⟩:=hcon (q,y) (by simp);have hb':∃b',∀e∈B,cy g (fc f) e=true->ark g k1 (q,y) e=false->β2 e=b':=by
     have off:∀e∈B,cy g (fc f) e=true->ark g k1 (q,y) e=false->wk g (y::t++[q.1]) e=true:=λe he hz hn=>by
      rw[<-hr.cy]at hz;change wk g (q.1::(k1 q++y::t)++[q.1]) e=true at hz;rw[show q.1::(k1 q++y::t)++[q.1]=(q.1::k1 q)++y::(t++[q.1]) by simp,im]at hz;change wk g (q.1::k1 q++[y]) e=false at hn;rw[hn]at hz;simpa using hz
     by_cases h:∃k∈B,wk g (y::t++[q.1]) k=true
     .obtain⟨k,hk,hkw⟩:=h;exact⟨β2 k,λe he hz hn=>coff e he k hk (off e he hz hn) hkw⟩
     .exact⟨β2 0,λe he hz hn=>absurd ⟨e,he,off e he hz hn⟩ h⟩
    obtain⟨b',hb'⟩:=hb';obtain⟨lq3,rq3,β3,F3,h3⟩:=F.insert F2 (A:=ark g k1 (q,y)) (b:=b) (b':=b') (λe _ h=>by simp[h]) (λe he _ h=>hbA e he h) hb';obtain⟨Ψ',lq4,rq4,β4,F4⟩:=ih (λa ha=>hsub a (by simp[ha])) hpw.2 _ _ lq3 rq3 β3 F3 (λv hv e he k hk hev hkv=>by
     rw[hEb v hv e he k hk hev hkv,hQ v hv e he k hk hev hkv]) (λa' ha'=>by
     obtain⟨b2,hb2⟩:=hcon a' (by simp[ha']);refine⟨.inl b2,λe he h=>?_⟩;have:ark g k1 (q,y) e=false:=by
      cases h1:ark g k1 (q,y) e
      .rfl
      .exact absurd ⟨h1,h⟩ (hpw.1 a' ha' e he)
     rw[h3 e this,hb2 e he h])
    refine⟨Ψ',lq4,rq4,β4,F4.congr λe _=>?_⟩;simp only[List.any_cons];cases Q e<;>cases Eb (q,y) e<;>simp
 obtain⟨Ψ',lq',rq',β',F⟩:=ins _ (λ_ h=>h) P1.2.1 Φ _ lq0 rq0 β F1 (λv hv e he k hk hev hkv=>by
  obtain⟨a,b,c,d',e'⟩:=cl v hv e he k hk hev hkv;rw[a,b,d',e']) (λa ha=>⟨bv a,λe he h=>hβ a ha e he h⟩)
 refine⟨Ψ',lq',rq',β',F.congr λe he=>?_⟩;have key:(pc (q0::R) q0.1).any (λa=>Eb a e)=(!(H e)&&(!(Sm e)&&(pf (l e)==f))):=by
  rw[dp,jW];constructor
  .rintro⟨a,_,h⟩;obtain⟨b1,b2,b3,_⟩:=(Eb_iff a e).1 h;simp[b1,b2,b3]
  .intro h;simp only[aK,dT,beq_iff_eq]at h;obtain⟨b1,b2,b3⟩:=h;have:∃v,Hg g B H pt (pt e) v/\v∉fc f':=by
    refine Classical.byContradiction λhno=>?_;have:Sm e=true:=(hSm e).2 ⟨b1,.inl b3,λv hv=>⟨b3▸hang e he b1 v hv,Classical.byContradiction λh=>hno ⟨v,hv,h⟩⟩⟩;rw[b2]at this;cases this
   obtain⟨v,hv,hvn⟩:=this;have hvf:=hang e he b1 v hv;rw[b3,e1]at hvf;simp only[flk,dM]at hvf;obtain⟨q,hq,hvq⟩:=hvf;rcases aw.1 hvq with rfl|hvq
   .exact absurd (com q hq).2 hvn
   obtain⟨y,hy⟩:=HI (z:=q0.1) hq;exact⟨(q,y),hy,(Eb_iff _ e).2 ⟨b1,b2,b3,v,hvq,hv⟩⟩
 rw[key];cases H e<;>cases Sm e<;>simp
open Go.Blk
variable {g:Gr}{B:List Nat}{H:Nat->Bool}{nf:Nat}{fc:Nat->List Nat}{Φ:Type}{l r:Nat->Φ}{pf:Φ->Nat}
theorem Ext.congr{Z Z':Nat->Nat->Bool}(x:Ext g B l r H nf Z pf)(h:∀f,f<nf->∀e∈B,Z f e=Z' f e):Ext g B l r H nf Z' pf where
 side:=λf hf e he=>by rw[<-h f hf e he,x.side f hf e he]
 lt:=x.lt
 lay:=x.lay
structure FP where
 Ψ:Type
 lq:Nat->Ψ
 rq:Nat->Ψ
 β:Nat->Ψ
def sw:Sg->Sg:=λq=>(q.1,q.2.2,q.2.1)
open Classical in
theorem swap(p:Pln g B)(d:Dual g B l r)(hb:Bond g B)(L:Lay g B H nf fc)(x:Ext g B l r H nf (λf=>cy g (fc f)) pf)(hf:f<nf)(hf':f'<nf)(hne:f≠f'){w:Nat}(hu:u∈fc f)(hu':u∈fc f')(hw:w∈fc f)(hw':w∈fc f')(huw:u≠w)
 {pt:Nat->Nat} (hpt:∀v,(∀e∈B,at_ g e v=true->H e=false)->∀e∈B,∀k∈B,at_ g e v=true->at_ g k v=true->pt e=pt k)
 (hpf:∀e∈B,∀k∈B,H e=false->H k=false->pt e=pt k->pf (l e)=pf (l k))
 (h2f:∀e∈B,H e=false->∃h,h<nf/\h≠pf (l e)/\∀v,Hg g B H pt (pt e) v->v∈fc h) :
 ∃(Φ':Type) (l' r':Nat->Φ') (pf':Φ'->Nat),Dual g B l' r'/\Ext g B l' r' H nf (λf=>cy g (fc f)) pf'/\∀e∈B,H e=false->pf (l e)=f'->(∀v,Hg g B H pt (pt e) v->v∈fc f/\v∈fc f')->pf' (l' e)=f:=by
 obtain⟨R,hR,c1,c2,y1,y2,m1,m2,hsep⟩:=KB p L hf hf' hne hu hu' hw hw' huw;cases R with
 |nil=>simp at hR
 |cons q0 R =>
 have hRn:R≠[]:=by
  intro h;subst h;simp at hR
 obtain⟨fc2,hfc2⟩:∃fc2:Nat->List Nat,∀h,fc2 h=if h=f then fl1 (q0::R)else if h=f' then fl2 (q0::R)else fc h:=⟨_,λ_=>rfl⟩
 have a1:fc2 f=fl1 (q0::R):=by rw[hfc2];simp
 have a2:fc2 f'=fl2 (q0::R):=by rw[hfc2];simp[Ne.symm hne]
 have a3:∀h,h≠f->h≠f'->fc2 h=fc h:=λh q1 q2=>by rw[hfc2];simp[q1,q2]
 have hcy:∀h e,cy g (fc2 h) e=cy g (fc h) e:=λh e=>by
  by_cases q1:h=f
  .subst q1;rw[a1,y1]
  .by_cases q2:h=f'
   .subst q2;rw[a2,y2]
   .rw[a3 h q1 q2]
 have hmem:∀h v,v∈fc2 h↔v∈fc h:=λh v=>by
  by_cases q1:h=f
  .subst q1;rw[a1,m1]
  .by_cases q2:h=f'
   .subst q2;rw[a2,m2]
   .rw[a3 h q1 q2]
 have L2:Lay g B H nf fc2:=L.change λh hh=>⟨by
  by_cases q1:h=f
  .subst q1;rw[a1];exact c1
  .by_cases q2:h=f'
   .subst q2;rw[a2];exact c2
   .rw[a3 h q1 q2];exact L.circ h hh,λe=>hcy h e⟩
 have x2:Ext g B l r H nf (λf=>cy g (fc2 f)) pf:=x.congr λh _ e _=>(hcy h e).symm;have h2f2:∀e∈B,H e=false->∃h,h<nf/\h≠pf (l e)/\∀v,Hg g B H pt (pt e) v->v∈fc2 h:=λe he hH=>by
  obtain⟨h,q1,q2,q3⟩:=h2f e he hH;exact⟨h,q1,q2,λv hv=>(hmem h v).2 (q3 v hv)⟩
 obtain⟨Sm,hSm⟩:∃Sm:Nat->Bool,∀e,Sm e=true↔H e=false/\(pf (l e)=f\/pf (l e)=f')/\∀v,Hg g B H pt (pt e) v->v∈fc2 f/\v∈fc2 f' :=
  ⟨λe=>decide (H e=false/\(pf (l e)=f\/pf (l e)=f')/\∀v,Hg g B H pt (pt e) v->v∈fc2 f/\v∈fc2 f'),λe=>by simp⟩
 have F1:=half p d hb L2 x2 hf hf' hne hRn a1 a2 (λq hq=>⟨λv hv h=>(hsep q hq).1 v hv ((hmem _ _).1 h),λv hv h=>(hsep q hq).2 v hv ((hmem _ _).1 h)⟩) hpt hpf h2f2 hSm;have e1:fc2 f'=flk k1 (sw q0::R.map sw):=by
  rw[a2];simp[fl2,flk,sw,k1,sz]
 have e2:fc2 f=flk k2 (sw q0::R.map sw):=by
  rw[a1];simp[fl1,flk,sw,k2,sz]
 have F2:=half p d hb L2 x2 hf' hf (Ne.symm hne) (q0:=sw q0) (R:=R.map sw) (by simpa using hRn) e1 e2 (λq hq=>by
  rw[<-bm,bh]at hq;obtain⟨q',hq',rfl⟩:=hq;exact⟨λv hv h=>(hsep q' hq').2 v hv ((hmem _ _).1 h),λv hv h=>(hsep q' hq').1 v hv ((hmem _ _).1 h)⟩) hpt hpf h2f2 (Sm:=Sm) (λe=>by
  rw[hSm];constructor
  .rintro⟨q1,q2,q3⟩;exact⟨q1,q2.symm,λv hv=>(q3 v hv).symm⟩
  .rintro⟨q1,q2,q3⟩;exact⟨q1,q2.symm,λv hv=>(q3 v hv).symm⟩)
 obtain⟨a,ha⟩:∃a:Nat->Nat,∀e,a e=if Sm e=true then(if pf (l e)=f then f' else f)else pf (l e):=⟨_,λ_=>rfl⟩
 have fills:∀h,∃P:FP,h<nf->Fill g B (cy g (fc2 h)) (λe=>!(H e)&&(a e==h)) P.lq P.rq P.β:=by
  intro h;by_cases hh:h<nf
  .by_cases q1:h=f
   .subst q1;obtain⟨Ψ,lq,rq,β,F⟩:=F1;refine⟨⟨Ψ,lq,rq,β⟩,λ_=>F.congr λe he=>?_⟩;rw[ha];cases hS:Sm e
    .simp
    .have:=((hSm e).1 hS).2.1;by_cases q2:pf (l e)=h
     .have q3:pf (l e)≠f':=λq=>hne (q2.symm.trans q);simp only[q2,if_true,beq_eq_false_iff_ne.2 (Ne.symm hne),beq_eq_false_iff_ne.2 hne];simp
     .have q3:pf (l e)=f':=this.resolve_left q2;simp[q3,Ne.symm hne]
   .by_cases q2:h=f'
    .subst q2;obtain⟨Ψ,lq,rq,β,F⟩:=F2;refine⟨⟨Ψ,lq,rq,β⟩,λ_=>F.congr λe he=>?_⟩;rw[ha];cases hS:Sm e
     .simp
     .have:=((hSm e).1 hS).2.1;by_cases q2:pf (l e)=f
      .simp[q2]
      .have q3:pf (l e)=h:=this.resolve_left q2;simp only[q3,beq_eq_false_iff_ne.2 (Ne.symm hne),beq_eq_false_iff_ne.2 q1,q1,if_false];simp[hne]
    .have hpf2:∀e∈B,H e=false->pf (r e)=pf (l e):=λe he hH=>by
      have:=x.lay e he;rw[hH]at this;exact(by simpa using this.symm:pf (l e)=pf (r e)).symm
     obtain⟨lq,rq,β,F⟩:=Cf p d hb L2 x2 hh (Q:=λe=>!(H e)&&(pf (l e)==h)) (λe he hq=>by simpa using hq) (λv hv e he k hk hev hkv=>by
      rw[hv e he hev,hv k hk hkv,hpf e he k hk (hv e he hev) (hv k hk hkv) (hpt v hv e he k hk hev hkv)])
     refine⟨⟨Φ,lq,rq,β⟩,λ_=>F.congr λe he=>?_⟩;rw[ha];cases hS:Sm e
     .simp
     .have h3:=((hSm e).1 hS).2.1;have q3:pf (l e)≠h:=λq=>by
       rcases h3 with h3|h3
       .exact q1 (q.symm.trans h3)
       .exact q2 (q.symm.trans h3)
      have q4:(if pf (l e)=f then f' else f)≠h:=by
       split
       .exact λq=>q2 q.symm
       .exact λq=>q1 q.symm
      rw[if_pos rfl,beq_eq_false_iff_ne.2 q3,beq_eq_false_iff_ne.2 q4]
  .exact⟨⟨Φ,l,r,l⟩,λh'=>absurd h' hh⟩
 obtain⟨P,hP⟩:∃P:Nat->FP,∀h,h<nf->Fill g B (cy g (fc2 h)) (λe=>!(H e)&&(a e==h)) (P h).lq (P h).rq (P h).β:=⟨λh=>Classical.choose (fills h),λh=>Classical.choose_spec (fills h)⟩
 obtain⟨l',r',d',x',h'⟩:=Jr p L2 (a:=a) (λe he hH=>by
  rw[ha];split
  .split
   .exact hf'
   .exact hf
  .exact(x.lt e he).1) (Ps:=λh=>(P h).Ψ) (lq:=λh=>(P h).lq) (rq:=λh=>(P h).rq) (β:=λh=>(P h).β) hP
 refine⟨_,l',r',Sigma.fst,d',x'.congr λh _ e _=>hcy h e,λe he hH he' hv=>?_⟩;rw[(h' e he hH).1,ha];have:Sm e=true:=(hSm e).2 ⟨hH,.inr he',λv hgv=>⟨(hmem _ _).2 (hv v hgv).1,(hmem _ _).2 (hv v hgv).2⟩⟩;rw[this,if_pos rfl,if_neg (by rw[he'];exact Ne.symm hne)]
end Go.Pla
