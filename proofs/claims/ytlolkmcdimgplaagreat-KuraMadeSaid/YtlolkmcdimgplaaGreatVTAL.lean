/- One more way through a face -/
import Derived.Test.YtlolkmcdimgplaaGreatVTAK
set_option linter.all false
namespace Go.Pla
open Go.Blk
variable {X:Nat->Bool}{Z:Nat->Nat->Bool}{b:List Nat}{e k v w:Nat}
variable {g:Gr}{B:List Nat}{H:Nat->Bool}{nf:Nat}{fc:Nat->List Nat}{Φ:Type}{l r:Nat->Φ}{pf:Φ->Nat}
theorem Ori.change{fc2:Nat->List Nat}(o:Ori g B H nf fc)(h:∀f,f<nf->Rot (fc f) (fc2 f)):Ori g B H nf fc2:=λe he hH x y hj=>by
 obtain⟨f,hf,hn⟩:=o e he hH x y hj;exact⟨f,hf,hn.rot (h f hf).symm⟩
theorem AP(p:Pln g B){x y:Nat}{a:List Nat}(nd:(a++x::y::b).Nodup)(he:e∈B)(hj:jn g e x y=true):wk g (a++x::y::b) e=true:=by
 have hx:at_ g e x=true:=by rw[p.jat he hj];simp[Ne.symm (p.jne he hj)]
 have hy:at_ g e y=true:=by rw[p.jat he hj];simp[p.jne he hj]
 have n1:y∉a++[x]:=by
  intro hm;rw[aN]at nd;rcases aw.1 hm with h|h
  .exact nd.2.2 y h y (by simp) rfl
  .have:y=x:=by simpa using h
   exact p.jne he hj this.symm
 have n2:x∉y::b:=by
  rw[aN,aY]at nd;exact nd.2.1.1
 rw[iI,kU p he hy n1,wk,hj,kU p he hx n2];rfl
theorem FW(p:Pln g B){x:Nat}{t:List Nat}(nd:(x::t).Nodup)(he:e∈B)(hk:k∈B)(h:wk g (x::t) e=true)(h':wk g (x::t) k=true)(hx:at_ g e x=true)(hx':at_ g k x=true):e=k:=by
 have key:∀e∈B,wk g (x::t) e=true->at_ g e x=true->∃y s,t=y::s/\jn g e x y=true:=by
  intro e he h hx;obtain⟨a,u,v,b,h1,hj⟩:=mM h;cases a with
  |nil =>
    simp only[bt]at h1;injection h1 with h2 h3;subst h2;exact⟨v,b,h3,hj⟩
  |cons z a =>
    exfalso;rw[aH]at h1;injection h1 with h2 h3;subst h2;rw[aY]at nd;have:x=u\/x=v:=by
     rw[p.jat he hj]at hx;by_cases a:u=x
     .exact .inl a.symm
     .by_cases b:v=x
      .exact .inr b.symm
      .rw[beq_eq_false_iff_ne.2 a,beq_eq_false_iff_ne.2 b]at hx;cases hx
    apply nd.1;rw[h3];rcases this with rfl|rfl<;>simp
 obtain⟨y,s,h1,h2⟩:=key e he h hx;obtain⟨y',s',h3,h4⟩:=key k hk h' hx';rw[h1]at h3;injection h3 with h5 _;subst h5;exact p.one e he k hk _ _ h2 h4
def cut(fc:Nat->List Nat)(f nf x y:Nat)(s i t:List Nat):Nat->List Nat:=λk=>if k=f then x::s++y::i.reverse else if k=nf then y::t++x::i else fc k
structure Way(g:Gr)(B:List Nat)(H:Nat->Bool)(fc:Nat->List Nat)(f x y:Nat)(s i t:List Nat):Prop where
 face:fc f=x::s++y::t
 ch:Ch g B (x::i++[y])
 nd:(x::i++[y]).Nodup
 fresh:∀v∈i,∀e∈B,at_ g e v=true->H e=false
 new:∀e∈B,wk g (x::i++[y]) e=true->H e=false
variable {f x y:Nat}{s i t:List Nat}
theorem wk_rv:wk g (y::i.reverse++[x]) e=wk g (x::i++[y]) e:=by
 rw[show y::i.reverse++[x]=(x::i++[y]).reverse by simp,xn]
theorem cy1:cy g (x::s++y::i.reverse) e=(wk g (x::s++[y]) e^^wk g (x::i++[y]) e):=by
 show wk g (x::(s++y::i.reverse)++[x]) e=_;rw[show x::(s++y::i.reverse)++[x]=(x::s)++y::(i.reverse++[x]) by simp,iI];exact congrArg (λb=>wk g (x::s++[y]) e^^b) wk_rv
theorem cy2:cy g (y::t++x::i) e=(wk g (y::t++[x]) e^^wk g (x::i++[y]) e):=by
 show wk g (y::(t++x::i)++[y]) e=_;rw[show y::(t++x::i)++[y]=(y::t)++x::(i++[y]) by simp,iI];rfl
theorem cy0:cy g (x::s++y::t) e=(wk g (x::s++[y]) e^^wk g (y::t++[x]) e):=by
 show wk g (x::(s++y::t)++[x]) e=_;rw[show x::(s++y::t)++[x]=(x::s)++y::(t++[x]) by simp,iI];rfl
theorem CF(p:Pln g B)(L:Lay g B H nf fc)(hf:f<nf)(w:Way g B H fc f x y s i t):Cc g B (x::s++y::i.reverse)/\Cc g B (y::t++x::i):=by
 have hc:=L.circ f hf;rw[w.face]at hc;have hn:=hc.nodup;have hfr:∀v∈i,v∉x::s++y::t:=λv hv hm=>by
  obtain⟨j,hj,hjv,hcj⟩:=cy_at p hc hm;have:=L.hcy hf hj (by rw[w.face];exact hcj);rw[w.fresh v hv j hj hjv]at this;cases this
 have ha1:=hc.arc;have ha2:Ch g B (y::t++[x]):=by
  have h:=hc.1;change Ch g B (x::(s++y::t)++[x])at h;rw[show x::(s++y::t)++[x]=(x::s)++y::(t++[x]) by simp,iK]at h;exact h.2
 have hni:i.Nodup:=by
  have:=w.nd;rw[aN]at this;exact(aY.1 this.1).2
 rw[aN]at hn;have one:∀u,(u=s\/u=t)->u=[]->i=[]->False:=by
  rintro u hu rfl rfl;obtain⟨⟨e,he,hj⟩,_⟩:=w.ch;have hw:wk g (x::[]++[y]) e=true:=by simp[wk,hj]
  have h1:=w.new e he hw;rcases hu with rfl|rfl
  .have:=L.hcy (e:=e) hf he (by rw[w.face];exact lF p hc he hw);rw[h1]at this;cases this
  .have hr:Rot (x::s++[y]) (y::x::s):=⟨x::s,[y],rfl,by simp⟩
   have h3:cy g (y::x::s) e=true:=jv p (hr.cc hc) he (jn_symm.trans hj);rw[hr.cy,<-w.face]at h3;have:=L.hcy hf he h3;rw[h1]at this;cases this
 constructor
 .refine⟨?_,?_,?_⟩
  .show Ch g B (x::(s++y::i.reverse)++[x]);rw[show x::(s++y::i.reverse)++[x]=(x::s)++y::(i.reverse++[x]) by simp,iK];refine⟨ha1,?_⟩;rw[show y::(i.reverse++[x])=(x::i++[y]).reverse by simp,yp];exact w.ch
  .show(x::s++y::i.reverse).Nodup;rw[aN];refine⟨hn.1,aY.2 ⟨λh=>hfr y (by simpa using h) (by simp),(gf i).nodup_iff.2 hni⟩,λa ha b hb=>?_⟩;rcases ao.1 hb with rfl|hb
   .exact hn.2.2 a ha _ (by simp)
   .intro h;subst h;exact hfr a (by simpa using hb) (bg _ ha)
  .show 3<=(x::s++y::i.reverse).length;have:s≠[]\/i≠[]:=by
    by_cases h1:s=[]
    .exact .inr λh2=>one s (.inl rfl) h1 h2
    .exact .inl h1
   rcases this with h|h
   .have:=iG.2 h;simp;omega
   .have:=iG.2 h;simp;omega
 .refine⟨?_,?_,?_⟩
  .show Ch g B (y::(t++x::i)++[y]);rw[show y::(t++x::i)++[y]=(y::t)++x::(i++[y]) by simp,iK];exact⟨ha2,w.ch⟩
  .show(y::t++x::i).Nodup;rw[aN];refine⟨hn.2.1,aY.2 ⟨λh=>hfr x h (by simp),hni⟩,λa ha b hb=>?_⟩;rcases ao.1 hb with rfl|hb
   .exact λh=>hn.2.2 _ (by simp) a ha h.symm
   .intro h;subst h;exact hfr a hb (ep _ ha)
  .show 3<=(y::t++x::i).length;have:t≠[]\/i≠[]:=by
    by_cases h1:t=[]
    .exact .inr λh2=>one t (.inr rfl) h1 h2
    .exact .inl h1
   rcases this with h|h
   .have:=iG.2 h;simp;omega
   .have:=iG.2 h;simp;omega
theorem IV(S:Bool->Bool)(b:Bool):S b=(S false^^(b&&(S true^^S false))):=by
 cases b<;>cases S true<;>cases S false<;>rfl
theorem KR(p:Pln g B)(L:Lay g B H nf fc)(hf:f<nf)(w:Way g B H fc f x y s i t):Lay g B (λe=>H e||wk g (x::i++[y]) e) (nf+1) (cut fc f nf x y s i t):=by
 obtain⟨hc1,hc2⟩:=CF p L hf w;have hc:=L.circ f hf;have hcf:∀e,cy g (fc f) e=(wk g (x::s++[y]) e^^wk g (y::t++[x]) e):=λe=>by rw[w.face,cy0]
 rw[w.face]at hc;have hfc1:cut fc f nf x y s i t f=x::s++y::i.reverse:=by simp[cut]
 have hfc2:cut fc f nf x y s i t nf=y::t++x::i:=by simp[cut,show nf≠f by omega]
 have hfc3:∀k,k≠f->k≠nf->cut fc f nf x y s i t k=fc k:=λk a b=>by simp[cut,a,b]
 have arc1:∀e∈B,wk g (x::s++[y]) e=true->H e=true:=λe he h=>L.hcy hf he (by rw[w.face];exact lF p hc he h);have arc2:∀e∈B,wk g (y::t++[x]) e=true->H e=true:=λe he h=>L.hcy hf he (by
  have hr:Rot (x::s++y::t) (y::t++x::s):=⟨x::s,y::t,rfl,rfl⟩
  rw[w.face,<-hr.cy];exact lF p (hr.cc hc) he h)
 have not1:∀e∈B,H e=false->wk g (x::s++[y]) e=false:=λe he h=>by
  cases h1:wk g (x::s++[y]) e
  .rfl
  .rw[arc1 e he h1]at h;cases h
 have not2:∀e∈B,H e=false->wk g (y::t++[x]) e=false:=λe he h=>by
  cases h1:wk g (y::t++[x]) e
  .rfl
  .rw[arc2 e he h1]at h;cases h
 have notw:∀e∈B,H e=true->wk g (x::i++[y]) e=false:=λe he h=>by
  cases h1:wk g (x::i++[y]) e
  .rfl
  .rw[w.new e he h1]at h;cases h
 have sum:∀(T:Nat->Bool) (e:Nat),par (List.range (nf+1)) (λk=>T k&&cy g (cut fc f nf x y s i t k) e)=(par (List.range nf) (λk=>T k&&cy g (fc k) e)^^((T f&&(cy g (x::s++y::i.reverse) e^^cy g (fc f) e))^^(T nf&&cy g (y::t++x::i) e))):=by
  intro T e;rw[cJ,sW];simp only[par,hfc2,cX];rw[bD (l:=List.range nf) (q:=λk=>(T k&&cy g (fc k) e)^^((k==f)&&(T k&&(cy g (x::s++y::i.reverse) e^^cy g (fc f) e)))) (λk hk=>by
   have hk':k<nf:=by simpa using hk
   by_cases h:k=f
   .subst h;rw[hfc1,beq_self_eq_true];cases T k<;>cases cy g (x::s++y::i.reverse) e<;>cases cy g (fc k) e<;>rfl
   .rw[hfc3 k h om,beq_eq_false_iff_ne.2 h,mf,cX]),ew,dG be (by simpa using hf),Bool.xor_assoc]
 have same:∀X,Even g B X->(∀e∈B,X e=true->(H e||wk g (x::i++[y]) e)=true)->∀e∈B,∀k∈B,wk g (x::i++[y]) e=true->wk g (x::i++[y]) k=true->X e=X k:=by
  intro X hX hs e he k hk h h';have hr:Rot (y::t++x::i) (x::i++y::t):=⟨y::t,x::i,rfl,rfl⟩
  refine rV p (hr.cc hc2) (λv hv S=>?_) he hk h h';have hat:∀j∈B,at_ g j v=true->cy g (x::i++y::t) j=wk g (x::i++[y]) j:=λj hj hjv=>by
   rw[hr.cy,cy2,not2 j hj (w.fresh v hv j hj hjv),dF]
  have e1:=jw p (hr.cc hc2) v;have e2:=hX v;rw[bD (q:=λj=>(S false&&(cy g (x::i++y::t) j&&at_ g j v))^^((S true^^S false)&&(X j&&at_ g j v))) (λj hj=>by
   rw[IV S (X j)];by_cases hjv:at_ g j v=true
   .by_cases hx:X j=true
    .have h1:=hs j hj hx;rw[w.fresh v hv j hj hjv,ir]at h1;rw[hat j hj hjv,h1,hx,hjv];cases S false<;>cases S true<;>rfl
    .have hx':X j=false:=by simpa using hx
     rw[hx',hjv];cases cy g (x::i++y::t) j<;>cases S false<;>cases S true<;>rfl
   .have:at_ g j v=false:=by simpa using hjv
    rw[this];simp),ew,iu,iu,e1,e2]
  simp
 refine⟨λk hk=>?_,λe he hH=>?_,λe he hH k hk=>?_,λX hX hs=>?_,λv e k he hk hH hK hev hkv hne=>?_⟩
 .by_cases h:k=f
  .subst h;rw[hfc1];exact hc1
  .by_cases h':k=nf
   .subst h';rw[hfc2];exact hc2
   .rw[hfc3 k h h'];exact L.circ k om
 .cases hw:wk g (x::i++[y]) e
  .rw[hw,jl]at hH;obtain⟨a,b,ha,hb,hab,hq⟩:=L.two e he hH;have c1:cy g (x::s++y::i.reverse) e=wk g (x::s++[y]) e:=by rw[cy1,hw,cX]
   have c2:cy g (y::t++x::i) e=wk g (y::t++[x]) e:=by rw[cy2,hw,cX]
   have hq0:=hq f hf;rw[hcf]at hq0;have gen:∀a b,a<nf->b<nf->a≠b->(∀k,k<nf->cy g (fc k) e=((k==a)||(k==b)))->a=f->∃a' b',a'<nf+1/\b'<nf+1/\a'≠b'/\∀k,k<nf+1->cy g (cut fc f nf x y s i t k) e=((k==a')||(k==b')):=by
    rintro a b ha hb hab hq rfl;have h0:=hq a ha;rw[hcf,beq_self_eq_true,Bool.true_or]at h0;cases h1:wk g (x::s++[y]) e
    .rw[h1,dF]at h0;refine⟨nf,b,om,om,om,λk hk=>?_⟩;by_cases q1:k=a
     .subst q1;rw[hfc1,c1,h1,beq_eq_false_iff_ne.2 (show k≠nf by omega),beq_eq_false_iff_ne.2 hab];rfl
     .by_cases q2:k=nf
      .subst q2;rw[hfc2,c2,h0];simp
      .rw[hfc3 k q1 q2,hq k om,beq_eq_false_iff_ne.2 q1,beq_eq_false_iff_ne.2 q2]
    .rw[h1]at h0;have h0':wk g (y::t++[x]) e=false:=by simpa using h0
     refine⟨a,b,om,om,hab,λk hk=>?_⟩;by_cases q1:k=a
     .subst q1;rw[hfc1,c1,h1];simp
     .by_cases q2:k=nf
      .subst q2;rw[hfc2,c2,h0',beq_eq_false_iff_ne.2 (show k≠a by omega),beq_eq_false_iff_ne.2 (show k≠b by omega)];rfl
      .rw[hfc3 k q1 q2,hq k om]
   by_cases h1:a=f
   .exact gen a b ha hb hab hq h1
   .by_cases h2:b=f
    .exact gen b a hb ha (Ne.symm hab) (λk hk=>by rw[hq k hk,Bool.or_comm]) h2
    .rw[beq_eq_false_iff_ne.2 (Ne.symm h1),beq_eq_false_iff_ne.2 (Ne.symm h2)]at hq0;have hz:cy g (x::s++y::t) e=false:=by rw[cy0];exact hq0
     have z1:wk g (x::s++[y]) e=false:=by
      cases h3:wk g (x::s++[y]) e
      .rfl
      .rw[lF p hc he h3]at hz;cases hz
     have z2:wk g (y::t++[x]) e=false:=by
      rw[z1,dF]at hq0;exact hq0
     refine⟨a,b,om,om,hab,λk hk=>?_⟩;by_cases q1:k=f
     .subst q1;rw[hfc1,c1,z1,beq_eq_false_iff_ne.2 (Ne.symm h1),beq_eq_false_iff_ne.2 (Ne.symm h2)];rfl
     .by_cases q2:k=nf
      .subst q2;rw[hfc2,c2,z2,beq_eq_false_iff_ne.2 (show k≠a by omega),beq_eq_false_iff_ne.2 (show k≠b by omega)];rfl
      .rw[hfc3 k q1 q2,hq k om]
  .have hH0:=w.new e he hw;refine⟨f,nf,om,om,om,λk hk=>?_⟩;by_cases q1:k=f
   .subst q1;rw[hfc1,cy1,hw,not1 e he hH0];simp
   .by_cases q2:k=nf
    .subst q2;rw[hfc2,cy2,hw,not2 e he hH0];simp
    .rw[hfc3 k q1 q2,L.none e he hH0 k om,beq_eq_false_iff_ne.2 q1,beq_eq_false_iff_ne.2 q2];rfl
 .simp only[Bool.or_eq_false_iff]at hH;by_cases q1:k=f
  .subst q1;rw[hfc1,cy1,hH.2,not1 e he hH.1];rfl
  .by_cases q2:k=nf
   .subst q2;rw[hfc2,cy2,hH.2,not2 e he hH.1];rfl
   .rw[hfc3 k q1 q2,L.none e he hH.1 k om]
 ·
  have fin:∀X,Even g B X->(∀e∈B,X e=true->H e=true)->∃T:Nat->Bool,∀e∈B,X e=par (List.range (nf+1)) (λk=>T k&&cy g (cut fc f nf x y s i t k) e):=by
   intro X hX hs;obtain⟨T,hT⟩:=L.span X hX hs;refine⟨λk=>if k=nf then T f else T k,λe he=>?_⟩;rw[sum,hT e he,bD (l:=List.range nf) (p:=λk=>(if k=nf then T f else T k)&&cy g (fc k) e) (q:=λk=>T k&&cy g (fc k) e) (λk hk=>by
    have:k<nf:=by simpa using hk
    rw[if_neg om]),if_neg (show f≠nf by omega),if_pos rfl,hcf,cy1,cy2]
   cases par (List.range nf) (λk=>T k&&cy g (fc k) e)<;>cases T f<;>cases wk g (x::s++[y]) e<;>cases wk g (x::i++[y]) e<;>cases wk g (y::t++[x]) e<;>rfl
  by_cases hex:∃e∈B,wk g (x::i++[y]) e=true/\X e=true
  .obtain⟨e0,he0,hw0,hx0⟩:=hex;obtain⟨T,hT⟩:=fin (λe=>X e^^cy g (x::s++y::i.reverse) e) (hX.xor (jw p hc1)) (λe he h=>by
    cases hH:H e
    .exfalso;rw[cy1,not1 e he hH,dF]at h;by_cases hw:wk g (x::i++[y]) e=true
     .rw[same X hX hs e he e0 he0 hw hw0,hx0,hw]at h;cases h
     .have hw':wk g (x::i++[y]) e=false:=by simpa using hw
      rw[hw',cX]at h;have:=hs e he h;rw[hH,hw']at this;cases this
    .rfl)
   refine⟨λk=>T k^^(k==f),λe he=>?_⟩;have h1:=hT e he;rw[bD (q:=λk=>(T k&&cy g (cut fc f nf x y s i t k) e)^^((k==f)&&cy g (cut fc f nf x y s i t k) e)) (λk _=>by dsimp only;cases T k<;>cases k==f<;>cases cy g (cut fc f nf x y s i t k) e<;>rfl),ew,<-h1,dG be (by simp;omega),hfc1];cases X e<;>cases cy g (x::s++y::i.reverse) e<;>rfl
  .refine fin X hX λe he h=>?_;have:=hs e he h;cases hH:H e
   .rw[hH,ir]at this;exact absurd ⟨e,he,this,h⟩ hex
   .rfl
 ·
  have hxy:∀v,(∃j∈B,at_ g j v=true/\wk g (x::i++[y]) j=true)->v∈i\/v=x\/v=y:=λv ⟨j,hj,hjv,hw⟩=>by
   have:=yP p hj hw hjv;simp only[aH,ao,aw,bd,or_false]at this;rcases this with h|h|h
   .exact .inr (.inl h)
   .exact .inl h
   .exact .inr (.inr h)
  have ends:∀v,(v=x\/v=y)->∀j∈B,∀j'∈B,at_ g j v=true->at_ g j' v=true->wk g (x::i++[y]) j=true->wk g (x::i++[y]) j'=true->j=j':=by
   rintro v (rfl|rfl) j hj j' hj' ha ha' hw hw'
   .exact FW p w.nd hj hj' hw hw' ha ha'
   .have nd2:(v::(x::i).reverse).Nodup:=by
     have:=(gf (x::i++[v])).nodup_iff.2 w.nd;simpa using this
    have q:∀j,wk g (v::(x::i).reverse) j=wk g (x::i++[v]) j:=λj=>by
     rw[<-xn (a:=x::i++[v])];simp
    exact FW p nd2 hj hj' (by rw[q];exact hw) (by rw[q];exact hw') ha ha'
  have mixed:∀e∈B,∀k∈B,wk g (x::i++[y]) e=true->H k=true->at_ g e v=true->at_ g k v=true->e≠k->∃X,Even g B X/\(∀j∈B,X j=true->(H j||wk g (x::i++[y]) j)=true)/\∀j∈B,(H j||wk g (x::i++[y]) j)=true->at_ g j v=true->X j=((j==e)||(j==k)):=by
   intro e he k hk hw hK hev hkv hne;have hvi:v=x\/v=y:=by
    rcases hxy v ⟨e,he,hev,hw⟩with h|h
    .rw[w.fresh v h k hk hkv]at hK;cases hK
    .exact h
   have h0:=w.new e he hw;have hce:cy g (x::s++y::i.reverse) e=true:=by rw[cy1,hw,not1 e he h0];rfl
   obtain⟨a,ha,hae,hav,hca,hall⟩:=BQ p hc1 he hev hce;have hwa:wk g (x::i++[y]) a=false:=by
    cases h:wk g (x::i++[y]) a
    .rfl
    .exact absurd (ends v hvi a ha e he hav hev h hw) hae
   have hHa:H a=true:=by
    rw[cy1,hwa,cX]at hca;exact arc1 a ha hca
   have hsub:∀j∈B,cy g (x::s++y::i.reverse) j=true->(H j||wk g (x::i++[y]) j)=true:=λj hj h=>by
    rw[cy1]at h;cases h1:wk g (x::i++[y]) j
    .rw[h1,cX]at h;rw[arc1 j hj h];rfl
    .simp
   by_cases hak:a=k
   .subst hak;refine⟨_,jw p hc1,hsub,λj hj _ hjv=>?_⟩;cases hcj:cy g (x::s++y::i.reverse) j
    .have q1:j≠e:=λq=>by rw[q,hce]at hcj;cases hcj
     have q2:j≠a:=λq=>by rw[q,hca]at hcj;cases hcj
     rw[beq_eq_false_iff_ne.2 q1,beq_eq_false_iff_ne.2 q2];rfl
    .rcases hall j hj hjv hcj with rfl|rfl<;>simp
   .obtain⟨X,hX,hXH,hXj⟩:=L.bond v a k ha hk hHa hK hav hkv hak;refine⟨_,hX.xor (jw p hc1),λj hj h=>?_,λj hj hjH hjv=>?_⟩
    .cases hx:X j
     .rw[hx,dF]at h;exact hsub j hj h
     .rw[hXH j hj hx];rfl
    .by_cases q1:j=e
     .subst q1;have hx:X j=false:=by
       cases hx:X j
       .rfl
       .rw[hXH j hj hx]at h0;cases h0
      rw[hx,hce];simp
     .rw[beq_eq_false_iff_ne.2 q1,ir];by_cases hjw:wk g (x::i++[y]) j=true
      .exact absurd (ends v hvi j hj e he hjv hev hjw hw) q1
      have hjw':wk g (x::i++[y]) j=false:=by simpa using hjw
      rw[hjw',jl]at hjH;rw[hXj j hj hjH hjv];by_cases q2:j=a
      .subst q2;rw[hca,beq_self_eq_true,beq_eq_false_iff_ne.2 hak];rfl
      .have:cy g (x::s++y::i.reverse) j=false:=by
        cases hcj:cy g (x::s++y::i.reverse) j
        .rfl
        .rcases hall j hj hjv hcj with h|h
         .exact absurd h q1
         .exact absurd h q2
       rw[this,beq_eq_false_iff_ne.2 q2,cX,ir]
  cases hwe:wk g (x::i++[y]) e
  .rw[hwe,jl]at hH;cases hwk:wk g (x::i++[y]) k
   .rw[hwk,jl]at hK;obtain⟨X,hX,hXH,hXj⟩:=L.bond v e k he hk hH hK hev hkv hne;refine⟨X,hX,λj hj h=>by rw[hXH j hj h];rfl,λj hj hjH hjv=>?_⟩;cases hj1:H j
    .have q0:X j=false:=by
      cases hx:X j
      .rfl
      .rw[hXH j hj hx]at hj1;cases hj1
     have q1:j≠e:=λq=>by rw[q,hH]at hj1;cases hj1
     have q2:j≠k:=λq=>by rw[q,hK]at hj1;cases hj1
     rw[q0,beq_eq_false_iff_ne.2 q1,beq_eq_false_iff_ne.2 q2];rfl
    .exact hXj j hj hj1 hjv
   .obtain⟨X,a,b,c⟩:=mixed k hk e he hwk hH hkv hev (Ne.symm hne);exact⟨X,a,b,λj hj h1 h2=>by rw[c j hj h1 h2,Bool.or_comm]⟩
  .cases hwk:wk g (x::i++[y]) k
   .rw[hwk,jl]at hK;exact mixed e he k hk hwe hK hev hkv hne
   ·
    have hvi:v∈i:=by
     rcases hxy v ⟨e,he,hev,hwe⟩with h|h
     .exact h
     .exact absurd (ends v h e he k hk hev hkv hwe hwk) hne
    have hce:cy g (x::s++y::i.reverse) e=true:=by rw[cy1,hwe,not1 e he (w.new e he hwe)];rfl
    have hck:cy g (x::s++y::i.reverse) k=true:=by rw[cy1,hwk,not1 k hk (w.new k hk hwk)];rfl
    obtain⟨a,ha,hae,hav,hca,hall⟩:=BQ p hc1 he hev hce;have hka:k=a:=(hall k hk hkv hck).resolve_left (Ne.symm hne);subst hka;refine⟨_,jw p hc1,λj hj h=>?_,λj hj hjH hjv=>?_⟩
    .rw[cy1]at h;cases h1:wk g (x::i++[y]) j
     .rw[h1,cX]at h;rw[arc1 j hj h];rfl
     .simp
    .rw[w.fresh v hvi j hj hjv,ir]at hjH;have hcj:cy g (x::s++y::i.reverse) j=true:=by rw[cy1,hjH,not1 j hj (w.new j hj hjH)];rfl
     rw[hcj];rcases hall j hj hjv hcj with rfl|rfl<;>simp
open Go.Blk
variable {g:Gr}{B:List Nat}{H:Nat->Bool}{nf:Nat}{fc:Nat->List Nat}{Φ:Type}{l r:Nat->Φ}{pf:Φ->Nat}{f x y:Nat}{s i t:List Nat}
theorem xd{m a b:Nat}:∀{L1 L2 p q:List Nat},L1++m::L2=p++a::b::q->(∃p' q',L1++[m]=p'++a::b::q')\/∃p' q',m::L2=p'++a::b::q'
 |[],L2,p,q,h=>.inr ⟨p,q,h⟩
 |[c],L2,[],q,h=>by
   simp only[aH,bt]at h;injection h with h1 h2;injection h2 with h2 h3;subst h1 h2;exact .inl ⟨[],[],rfl⟩
 |c::d::L1,L2,[],q,h=>by
   simp only[aH,bt]at h;injection h with h1 h2;injection h2 with h2 h3;subst h1 h2;exact .inl ⟨[],L1++[m],rfl⟩
 |c::L1,L2,e::p,q,h=>by
   rw[aH,aH]at h;injection h with h1 h2;rcases xd h2 with⟨p',q',h3⟩|h3
   .exact .inl ⟨c::p',q',by rw[aH,h3];rfl⟩
   .exact .inr h3
theorem Ky(L:Lay g B H nf fc)(hf:f<nf)(w:Way g B H fc f x y s i t)(o:Ori g B H nf fc):Ori g B (λe=>H e||wk g (x::i++[y]) e) (nf+1) (cut fc f nf x y s i t):=by
 have hfc1:cut fc f nf x y s i t f=x::s++y::i.reverse:=by simp[cut]
 have hfc2:cut fc f nf x y s i t nf=y::t++x::i:=by simp[cut,show nf≠f by omega]
 have in1:∀a b,(∃p q,x::s++[y]=p++a::b::q)->Nx (x::s++y::i.reverse) a b:=λa b ⟨p,q,h⟩ =>
  (pK (z:=x) (s:=s++y::i.reverse) rfl).2 ⟨p,q++i.reverse++[x],by
   rw[show(x::(s++y::i.reverse))++[x]=(x::s++[y])++(i.reverse++[x]) by simp,h];simp,by simp only[ar,aB];omega⟩
 have in2:∀a b,(∃p q,y::t++[x]=p++a::b::q)->Nx (y::t++x::i) a b:=λa b ⟨p,q,h⟩ =>
  (pK (z:=y) (s:=t++x::i) rfl).2 ⟨p,q++i++[y],by
   rw[show(y::(t++x::i))++[y]=(y::t++[x])++(i++[y]) by simp,h];simp,by simp only[ar,aB];omega⟩
 have in3:∀a b,(∃p q,y::i.reverse++[x]=p++a::b::q)->Nx (x::s++y::i.reverse) a b:=λa b ⟨p,q,h⟩ =>
  (pK (z:=x) (s:=s++y::i.reverse) rfl).2 ⟨x::s++p,q,by
   rw[show(x::(s++y::i.reverse))++[x]=(x::s)++(y::i.reverse++[x]) by simp,h];simp,by simp only[ar,aB];omega⟩
 have in4:∀a b,(∃p q,x::i++[y]=p++a::b::q)->Nx (y::t++x::i) a b:=λa b ⟨p,q,h⟩ =>
  (pK (z:=y) (s:=t++x::i) rfl).2 ⟨y::t++p,q,by
   rw[show(y::(t++x::i))++[y]=(y::t)++(x::i++[y]) by simp,h];simp,by simp only[ar,aB];omega⟩
 intro e he hH a b hj;dsimp only at hH;cases hw:wk g (x::i++[y]) e
 .rw[hw,jl]at hH;obtain⟨f0,hf0,hn⟩:=o e he hH a b hj;by_cases q:f0=f
  .subst q;rw[w.face]at hn;obtain⟨p,q,h1,_⟩:=(pK (z:=x) (s:=s++y::t) rfl).1 hn;rw[show(x::(s++y::t))++[x]=(x::s)++y::(t++[x]) by simp]at h1;rcases xd h1 with⟨p',q',h2⟩|⟨p',q',h2⟩
   .exact⟨f0,om,by rw[hfc1];exact in1 a b ⟨p',q',h2⟩⟩
   .exact⟨nf,om,by rw[hfc2];exact in2 a b ⟨p',q',h2⟩⟩
  .exact⟨f0,om,by
    have:cut fc f nf x y s i t f0=fc f0:=by simp[cut,q,show f0≠nf by omega]
    rw[this];exact hn⟩
 .obtain⟨p,u,v,q,h1,h2⟩:=mM hw;have hq:(a=u/\b=v)\/(a=v/\b=u):=by
   rcases jn_iff.1 hj with⟨a1,a2⟩|⟨a1,a2⟩<;>rcases jn_iff.1 h2 with⟨b1,b2⟩|⟨b1,b2⟩<;>omega
  rcases hq with⟨rfl,rfl⟩|⟨rfl,rfl⟩
  .exact⟨nf,om,by rw[hfc2];exact in4 a b ⟨p,q,h1⟩⟩
  .have h5:y::i.reverse++[x]=q.reverse++a::b::p.reverse:=by
    rw[show y::i.reverse++[x]=(x::i++[y]).reverse by simp,h1];simp
   exact⟨f,om,by rw[hfc1];exact in3 a b ⟨q.reverse,p.reverse,h5⟩⟩
theorem hno{H:Nat->Bool}(x:Ext g B l r H nf Z pf)(he:e∈B)(hH:H e=false):pf (r e)=pf (l e):=by
 have:=x.lay e he;rw[hH]at this;exact(by simpa using this.symm:pf (l e)=pf (r e)).symm
theorem Dz(p:Pln g B)(d:Dual g B l r)(hb:Bond g B)(hl:Link g B)(L:Lay g B H nf fc)(hf:f<nf)(w:Way g B H fc f x y s i t)(xt:Ext g B l r H nf (λk=>cy g (fc k)) pf)(hw:∀e∈B,wk g (x::i++[y]) e=true->pf (l e)=f):∃pf':Φ->Nat,Ext g B l r (λe=>H e||wk g (x::i++[y]) e) (nf+1) (λk=>cy g (cut fc f nf x y s i t k)) pf':=by
 obtain⟨hc1,hc2⟩:=CF p L hf w;have hc:=L.circ f hf;obtain⟨e0,he0,_,hz0⟩:=cy_at p hc (x:=x) (by rw[w.face];simp);have not1:∀e∈B,H e=false->wk g (x::s++[y]) e=false:=λe he h=>by
  cases h1:wk g (x::s++[y]) e
  .rfl
  .have:=L.hcy hf he (by rw[w.face];exact lF p (by rw[<-w.face];exact hc) he h1);rw[this]at h;cases h
 obtain⟨pf',x',_⟩:=xt.step p.nd d hb hl hf (Dt p hc) he0 hz0 (w:=wk g (x::i++[y])) (Z1:=cy g (x::s++y::i.reverse)) (Z2:=cy g (y::t++x::i)) (λe he h=>⟨hw e he h,(hno xt he (w.new e he h)).trans (hw e he h)⟩) (jw p hc1) (λe he h=>by
  cases h1:wk g (x::i++[y]) e
  .rw[cy1,h1,cX]at h;refine .inl ?_;show cy g (fc f) e=true;rw[w.face];exact lF p (by rw[<-w.face];exact hc) he h
  .exact .inr rfl) (λe he h=>by rw[cy1,h,not1 e he (w.new e he h)];rfl) (λe _=>by
  show _=cy g (fc f) e;rw[cy1,cy2,w.face,cy0];cases wk g (x::s++[y]) e<;>cases wk g (x::i++[y]) e<;>cases wk g (y::t++[x]) e<;>rfl)
 refine⟨pf',x'.congr λk _ e _=>?_⟩;by_cases q1:k=f
 .simp[q1,cut]
 .by_cases q2:k=nf
  .simp[q2,cut,show nf≠f by omega]
  .simp[q1,q2,cut]
structure Part(g:Gr)(B:List Nat)(H:Nat->Bool)(pt:Nat->Nat):Prop where
 same:∀v,(∀e∈B,at_ g e v=true->H e=false)->∀e∈B,∀k∈B,at_ g e v=true->at_ g k v=true->pt e=pt k
 univ:∀{α:Type} (S:Nat->α),(∀v,(∀e∈B,at_ g e v=true->H e=false)->∀e∈B,∀k∈B,at_ g e v=true->at_ g k v=true->S e=S k)->∀e,S (pt e)=S e
theorem part_ex(g:Gr)(B:List Nat)(H:Nat->Bool):∃pt,Part g B H pt:=by
 obtain⟨c,h1,h2⟩:=xA (λe k:Nat=>∃v,(∀e∈B,at_ g e v=true->H e=false)/\e∈B/\k∈B/\at_ g e v=true/\at_ g k v=true);exact⟨c,λv hv e he k hk hev hkv=>h1 e k ⟨v,hv,he,hk,hev,hkv⟩,λS hS e=>h2 S (λa b ⟨v,hv,ha,hb,hav,hbv⟩=>hS v hv a ha b hb hav hbv) e⟩
variable {pt:Nat->Nat}
theorem Part.face(nd:B.Nodup)(P:Part g B H pt)(d:Dual g B l r)(hb:Bond g B)(xt:Ext g B l r H nf Z pf)(h:pt e=pt k):pf (l e)=pf (l k):=by
 have u:=P.univ (λj=>pf (l j)) (λv hv e he k hk hev hkv=>xt.same nd d hb hv he hk hev hkv);rw[<-u e,<-u k,h]
theorem Part.hang(p:Pln g B)(P:Part g B H pt)(d:Dual g B l r)(hb:Bond g B)(xt:Ext g B l r H nf (λk=>cy g (fc k)) pf)(h:Hg g B H pt (pt e) v):v∈fc (pf (l e)):=by
 obtain⟨k,hk,hkH,hkp,hkv,j,hj,hjv,hjH⟩:=h;obtain⟨m,hm,hmv,hz⟩:=xt.hangs p.nd d hb hk hj hkv hjv hkH hjH;rw[P.face p.nd d hb xt hkp]at hz;exact Aw p hm hz hmv
theorem Way.one(p:Pln g B)(P:Part g B H pt)(w:Way g B H fc f x y s i t):∀e∈B,∀k∈B,wk g (x::i++[y]) e=true->wk g (x::i++[y]) k=true->pt e=pt k:=by
 intro e he k hk h h';refine pH p w.ch (λa u v z b hab e he k hk hj hj'=>?_) e he k hk (pF h) (pF h');have hv:v∈i:=by
  have h1:(x::i++[y]).tail.dropLast=i:=by simp
  rw[<-h1,hab];cases a with
  |nil=>simp[List.dropLast_cons_of_ne_nil]
  |cons z a =>
    rw[aH,qf,show a++u::v::_::b=(a++[u,v])++(_::b) by simp;rfl,eR (by simp)];simp
 exact P.same v (w.fresh v hv) e he k hk (by rw[p.jat he hj];simp[p.jne he hj]) (by rw[p.jat hk hj'];simp[Ne.symm (p.jne hk hj')])
theorem IQ(p:Pln g B)(hb:Bond g B)(hl:Link g B)(L:Lay g B H nf fc)(P:Part g B H pt)(hf:f<nf)(w:Way g B H fc f x y s i t)
 (hin:∀e∈B,wk g (x::i++[y]) e=true->∀v,Hg g B H pt (pt e) v->v∈fc f)
 (hor:(∀e∈B,wk g (x::i++[y]) e=true->∀h,h<nf->(∀v,Hg g B H pt (pt e) v->v∈fc h)->h=f)\/(∀e∈B,H e=false->∃h1 h2,h1<nf/\h2<nf/\h1≠h2/\∀v,Hg g B H pt (pt e) v->v∈fc h1/\v∈fc h2))
 (hcan:∃(Φ:Type) (l r:Nat->Φ) (pf:Φ->Nat),Dual g B l r/\Ext g B l r H nf (λk=>cy g (fc k)) pf) :
 ∃(Φ:Type) (l r:Nat->Φ) (pf:Φ->Nat),Dual g B l r/\Ext g B l r (λe=>H e||wk g (x::i++[y]) e) (nf+1) (λk=>cy g (cut fc f nf x y s i t k)) pf:=by
 obtain⟨Φ,l,r,pf,d,xt⟩:=hcan;obtain⟨e0,he0,hw0,hx0⟩:∃e∈B,wk g (x::i++[y]) e=true/\at_ g e x=true:=by
  have hch:=w.ch;have hnd:=w.nd;cases i with
  |nil =>
    obtain⟨⟨e,he,hj⟩,_⟩:=hch;exact⟨e,he,by simp[wk,hj],by rw[p.jat he hj];simp[Ne.symm (p.jne he hj)]⟩
  |cons u i =>
    obtain⟨⟨e,he,hj⟩,_⟩:=hch;exact⟨e,he,AP p (a:=[]) hnd he hj,by rw[p.jat he hj];simp[Ne.symm (p.jne he hj)]⟩
 obtain⟨e1,he1,hw1,hy1⟩:∃e∈B,wk g (x::i++[y]) e=true/\at_ g e y=true:=by
  have hch:=w.ch;have hnd:=w.nd;rcases cS i with h|⟨i',u,h⟩
  .subst h;obtain⟨⟨e,he,hj⟩,_⟩:=hch;exact⟨e,he,by simp[wk,hj],by rw[p.jat he hj];simp[p.jne he hj]⟩
  .rw[dC]at h;subst h;rw[show x::(i'++[u])++[y]=(x::i')++u::[y] by simp]at hch hnd |-;rw[iK]at hch;obtain⟨e,he,hj⟩:=hch.2.1;exact⟨e,he,AP p hnd he hj,by rw[p.jat he hj];simp[p.jne he hj]⟩
 have hall:=w.one p P;have lx:∀v,v∈fc f->∃j∈B,at_ g j v=true/\H j=true:=λv hv=>by
  obtain⟨j,hj,ha,hc⟩:=cy_at p (L.circ f hf) hv;exact⟨j,hj,ha,L.hcy hf hj hc⟩
 have hxf:x∈fc f:=by rw[w.face];simp
 have hyf:y∈fc f:=by rw[w.face];simp
 have gx:Hg g B H pt (pt e0) x:=⟨e0,he0,w.new e0 he0 hw0,rfl,hx0,lx x hxf⟩
 have gy:Hg g B H pt (pt e0) y:=⟨e1,he1,w.new e1 he1 hw1,hall e1 he1 e0 he0 hw1 hw0,hy1,lx y hyf⟩
 have hF:=(xt.lt e0 he0).1;by_cases hq:pf (l e0)=f
 .obtain⟨pf',x'⟩:=Dz p d hb hl L hf w xt (λe he h=>by rw[<-hq];exact P.face p.nd d hb xt (hall e he e0 he0 h hw0));exact⟨Φ,l,r,pf',d,x'⟩
 rcases hor with h1|h2
 .exact absurd (h1 e0 he0 hw0 _ hF λv hv=>P.hang p d hb xt hv) hq
 .have hxy:x≠y:=by
   intro h;have:=w.nd;rw[aN]at this;exact this.2.2 x (by simp) y (by simp) h
  obtain⟨Φ',l',r',pf',d',x',h'⟩:=swap p d hb L xt hf hF (Ne.symm hq) hxf (P.hang p d hb xt gx) hyf (P.hang p d hb xt gy) hxy (pt:=pt) P.same (λe _ k _ _ _ h=>P.face p.nd d hb xt h) (λe he hH=>by
   obtain⟨a,b,ha,hb',hab,hv⟩:=h2 e he hH;by_cases q:a=pf (l e)
   .exact⟨b,hb',λh=>hab (q.trans h.symm),λv hgv=>(hv v hgv).2⟩
   .exact⟨a,ha,q,λv hgv=>(hv v hgv).1⟩)
  obtain⟨pf2,x2⟩:=Dz p d' hb hl L hf w x' (λe he h=>h' e he (w.new e he h) (P.face p.nd d hb xt (hall e he e0 he0 h hw0)) λv hv=>⟨hin e he h v hv,by
   have:=P.hang p d hb xt hv;rwa [P.face p.nd d hb xt (hall e he e0 he0 h hw0)]at this⟩)
  exact⟨Φ',l',r',pf2,d',x2⟩
theorem part_fits(p:Pln g B)(hb:Bond g B)(P:Part g B H pt)(hcan:∃(Φ:Type) (l r:Nat->Φ) (pf:Φ->Nat),Dual g B l r/\Ext g B l r H nf (λk=>cy g (fc k)) pf)(he:e∈B):∃h,h<nf/\∀v,Hg g B H pt (pt e) v->v∈fc h:=by
 obtain⟨Φ,l,r,pf,d,xt⟩:=hcan;exact⟨pf (l e),(xt.lt e he).1,λv hv=>P.hang p d hb xt hv⟩
theorem lay_dual(L:Lay g B H nf fc)(hall:∀e∈B,H e=true)(nd:B.Nodup)(p:Pln g B):∃l r:Nat->Nat,Dual g B l r:=by
 have hch:∀e,∃q:Nat×Nat,e∈B->q.1<nf/\q.2<nf/\q.1≠q.2/\∀f,f<nf->cy g (fc f) e=((f==q.1)||(f==q.2)):=λe=>by
  by_cases h:e∈B
  .obtain⟨a,b,c⟩:=L.two e h (hall e h);exact⟨(a,b),λ_=>c⟩
  .exact⟨(0,0),λh'=>absurd h' h⟩
 refine⟨λe=>(Classical.choose (hch e)).1,λe=>(Classical.choose (hch e)).2,λS=>?_,λX hX=>?_⟩
 .refine(Even.sum (l:=List.range nf) (X:=λf e=>S f&&cy g (fc f) e) λf hf=>?_).congr λe he=>?_
  .cases S f
   .exact ye
   .exact jw p (L.circ f (by simpa using hf))
  .obtain⟨h1,h2,h3,h4⟩:=Classical.choose_spec (hch e) he;rw[bD (λf hf=>by rw[h4 f (by simpa using hf)]),qq h1 h2 h3]
 .obtain⟨T,hT⟩:=L.span X hX λe he _=>hall e he;refine⟨T,λe he=>?_⟩;obtain⟨h1,h2,h3,h4⟩:=Classical.choose_spec (hch e) he;rw[hT e he,bD (λf hf=>by rw[h4 f (by simpa using hf)]),qq h1 h2 h3]
open Go.Blk
variable {g:Gr}{A B:List Nat}{Φ:Type}
theorem pI{p:Nat->Bool}{q:Nat->Bool}:∀{l:List Nat},par (l.filter q) p=par l (λe=>q e&&p e)
 |[]=>rfl
 |e::l=>by
   simp only[par,eQ];cases h:q e
   .simp[pI (l:=l)]
   .simp[par,pI (l:=l)]
theorem Kv(na:A.Nodup)(nb:B.Nodup)(hs:∀e∈B,e∈A){p:Nat->Bool}(hp:∀e∈A,e∉B->p e=false):par A p=par B p:=by
 have h1:(A.filter λe=>decide (e∈B)).Perm B:=(gO (na.filter _) nb).2 λe=>by
  simp only[aJ,aK];exact⟨λh=>h.2,λh=>⟨hs e h,h⟩⟩
 rw[<-GX h1,pI];refine bD λe he=>?_;by_cases h:e∈B
 .simp[h]
 .rw[hp e he h];simp
theorem jZ(na:A.Nodup)(nb:B.Nodup)(hs:∀e∈B,e∈A)(hp:∀e∈A,e∉B->X e=false):Even g A X↔Even g B X:=by
 have:∀v,par A (λe=>X e&&at_ g e v)=par B (λe=>X e&&at_ g e v):=λv=>Kv na nb hs λe he h=>by rw[hp e he h];rfl
 constructor
 .intro h v;rw[<-this];exact h v
 .intro h v;rw[this];exact h v
theorem sub_dual(na:A.Nodup)(nb:B.Nodup)(hs:∀e∈B,e∈A){l r:Nat->Φ}(d:Dual g A l r):∃l' r':Nat->Φ,Dual g B l' r':=by
 obtain⟨c,h1,h2⟩:=xA (λa b:Φ=>∃e∈A,e∉B/\l e=a/\r e=b);refine⟨λe=>c (l e),λe=>c (r e),λS=>?_,λX hX=>?_⟩
 .refine(jZ na nb hs (X:=λe=>S (c (l e))^^S (c (r e))) λe he hb=>?_).1 (d.two (λa=>S (c a)));rw[h1 _ _ ⟨e,he,hb,rfl,rfl⟩];simp
 .classical
  have hX':Even g A (λe=>decide (e∈B)&&X e):=(jZ na nb hs λe _ h=>by simp[h]).2 (hX.congr λe he=>by simp[he]);obtain⟨S,hS⟩:=d.one _ hX';have hc:=h2 S (λa b ⟨e,he,hb,h3,h4⟩=>by
   have:=hS e he;rw[h3,h4]at this;simp only[hb,decide_false,mf]at this;revert this;cases S a<;>cases S b<;>simp)
  refine⟨S,λe he=>?_⟩;have:=hS e (hs e he);simp only[he,decide_true,nK]at this;rw[this,hc,hc]
theorem at_inc(he:e<g.m):at_ g e v=true↔g.inc e v:=by
 have:=g.ok e he;unfold at_ Gr.inc;by_cases a:g.tl e=v
 .have b:g.hd e≠v:=λh=>this.2.2 (a.trans h.symm);rw[beq_iff_eq.2 a,beq_eq_false_iff_ne.2 b];simp[a,he]
 .rw[beq_eq_false_iff_ne.2 a];simp[a,he]
theorem IW(hb:IsBlock g b)(he:e∈b)(hev:g.inc e v)(hk:k∈b)(hw:g.inc k w)(hwv:w≠v):Conn g (·≠v) (g.oth e v) w:=by
 have:=hb.2.1 e he k hk;clear hk;induction this generalizing w with
 |refl =>
   rw[ga hev hw hwv];exact .refl (inc_oth hev).2.1
 |@step j k hc hr ih =>
   obtain⟨x,hjx,hkx,hcon⟩:=hr;by_cases hxv:x=v
   .subst hxv;have h1:=ih (inc_oth hjx).1 (inc_oth hjx).2.1;rw[ga hkx hw hwv];exact h1.trans hcon
   .have h1:=ih hjx hxv;by_cases hwx:w=x
    .subst hwx;exact h1
    .rw[ga hkx hw hwx];exact .step h1 hkx (by rw[<-ga hkx hw hwx];exact hwv)
theorem AD(hX:Even g (List.range g.m) X)(hb:IsBlock g b):Even g (List.range g.m) (λe=>X e&&decide (e∈b)):=by
 intro v;by_cases hex:∃e∈b,e<g.m/\at_ g e v=true
 case neg =>
  refine eH λe he=>?_;cases ha:at_ g e v
  .simp
  .have:e∉b:=λh=>hex ⟨e,h,by simpa using he,ha⟩;simp[this]
 obtain⟨e,he,hem,hev⟩:=hex;have hev':=(at_inc hem).1 hev
 classical
 have h1:par (List.range g.n) (λu=>decide (Conn g (·≠v) (g.oth e v) u)&&par (List.range g.m) (λj=>X j&&at_ g j u))=false:=eH λu _=>by rw[hX u];simp
 rw[bD (q:=λu=>par (List.range g.m) (λj=>X j&&(decide (Conn g (·≠v) (g.oth e v) u)&&at_ g j u))) (λu _=>by
  rw[<-iu];exact bD λj _=>by cases X j<;>cases decide (Conn g (·≠v) (g.oth e v) u)<;>rfl),jV]at h1
 rw[<-h1];refine bD λj hj=>?_;have hjm:j<g.m:=by simpa using hj
 rw[iu,Bool.and_assoc];congr 1;have hends:par (List.range g.n) (λu=>decide (Conn g (·≠v) (g.oth e v) u)&&at_ g j u)=(decide (Conn g (·≠v) (g.oth e v) (g.tl j))^^decide (Conn g (·≠v) (g.oth e v) (g.hd j))):=by
  have hok:=g.ok j hjm;rw[bD (q:=λu=>((u==g.tl j)&&decide (Conn g (·≠v) (g.oth e v) u))^^((u==g.hd j)&&decide (Conn g (·≠v) (g.oth e v) u))) (λu _=>by
   unfold at_;rw[fV (a:=g.tl j),fV (a:=g.hd j)];cases u==g.tl j<;>cases u==g.hd j<;>cases decide (Conn g (·≠v) (g.oth e v) u)<;>rfl),ew,dG be (by simpa using hok.1),dG be (by simpa using hok.2.1)]
 rw[hends];have hno:¬Conn g (·≠v) (g.oth e v) v:=λh=>h.right rfl;have step:∀a,g.inc j a->a≠v->g.oth j a≠v->(Conn g (·≠v) (g.oth e v) a↔Conn g (·≠v) (g.oth e v) (g.oth j a)):=λa ha h1 h2=>by
  constructor
  .intro h;exact .step h ha h2
  .intro h;have h3:=inc_oth ha;have:=Conn.step h h3.1 (by rw[h3.2.2];exact h1);rwa [h3.2.2]at this
 have iff:∀a,g.inc j v->a=g.oth j v->(Conn g (·≠v) (g.oth e v) a↔j∈b):=λa hj ha=>by
  subst ha;constructor
  .intro h;exact hb.2.2 e he j ⟨v,hev',hj,h⟩
  .intro h;exact IW hb he hev' h (inc_oth hj).1 (inc_oth hj).2.1
 have it:g.inc j (g.tl j):=⟨hjm,.inl rfl⟩
 have ih:g.inc j (g.hd j):=⟨hjm,.inr rfl⟩
 have ot:g.oth j (g.tl j)=g.hd j:=by unfold Gr.oth;omega
 have oh:g.oth j (g.hd j)=g.tl j:=by unfold Gr.oth;omega
 have hne:=(g.ok j hjm).2.2;by_cases a:g.tl j=v
 .have hjv:g.inc j v:=a▸it;have hat:at_ g j v=true:=(at_inc hjm).2 hjv;have q:=iff (g.hd j) hjv (by rw[<-a];exact ot.symm);rw[hat,a];simp only[hno,decide_false,dF,fW];rw[decide_eq_decide];exact q.symm
 .by_cases c:g.hd j=v
  .have hjv:g.inc j v:=c▸ih;have hat:at_ g j v=true:=(at_inc hjm).2 hjv;have q:=iff (g.tl j) hjv (by rw[<-c];exact oh.symm);rw[hat,c];simp only[hno,decide_false,cX,fW];rw[decide_eq_decide];exact q.symm
  .have hat:at_ g j v=false:=by
    cases h:at_ g j v
    .rfl
    .rcases(at_inc hjm).1 h with⟨_,h|h⟩
     .exact absurd h a
     .exact absurd h c
   have q:=step (g.tl j) it a (by rw[ot];exact c);rw[ot]at q;rw[hat,jR,decide_eq_decide.2 q,kM]
theorem IB{u:Nat}(h:Conn g (·≠v) u w):∃t,Ch g (List.range g.m) (u::t)/\lst u t=w/\v∉u::t:=by
 induction h with
 |refl h=>exact⟨[],trivial,rfl,by simpa using Ne.symm h⟩
 |@step a i hc hi hn ih =>
   obtain⟨t,h1,h2,h3⟩:=ih;have key:∀(t:List Nat) (u:Nat),Ch g (List.range g.m) (u::t)->lst u t=a->Ch g (List.range g.m) (u::(t++[g.oth i a]))/\lst u (t++[g.oth i a])=g.oth i a:=by
    intro t;induction t with
    |nil =>
      intro u _ hl;have hl':u=a:=hl;subst hl';refine⟨⟨⟨i,by simpa using hi.1,?_⟩,trivial⟩,rfl⟩;rw[jn_iff];unfold Gr.oth;rcases hi.2 with h|h
      .exact .inl ⟨h,om⟩
      .exact .inr ⟨om,h⟩
    |cons z t iht =>
      intro u hc hl;obtain⟨hc1,hc2⟩:=hc;obtain⟨q1,q2⟩:=iht z hc2 hl;exact⟨⟨hc1,q1⟩,q2⟩
   obtain⟨q1,q2⟩:=key t u h1 h2;refine⟨t++[g.oth i a],q1,q2,?_⟩;intro hm;rw[<-aH,aw]at hm;rcases hm with hm|hm
   .exact h3 hm
   .have:v=g.oth i a:=by simpa using hm
    exact hn this.symm
theorem blk_bond(p:Pln g (List.range g.m))(hb:IsBlock g b)(nb:b.Nodup)(hlt:∀e∈b,e<g.m):Bond g b:=by
 intro v e k he hk hev hkv hne;have hev':=(at_inc (hlt e he)).1 hev;have hkv':=(at_inc (hlt k hk)).1 hkv;have hcon:=IW hb he hev' hk (inc_oth hkv').1 (inc_oth hkv').2.1;obtain⟨t,h1,h2,h3⟩:=IB hcon;have je:jn g e v (g.oth e v)=true:=by
  rw[jn_iff];unfold Gr.oth;rcases hev'.2 with h|h
  .exact .inl ⟨h,om⟩
  .exact .inr ⟨om,h⟩
 have jk:jn g k v (g.oth k v)=true:=by
  rw[jn_iff];unfold Gr.oth;rcases hkv'.2 with h|h
  .exact .inl ⟨h,om⟩
  .exact .inr ⟨om,h⟩
 have hem:e∈List.range g.m:=by simpa using hlt e he
 have hkm:k∈List.range g.m:=by simpa using hlt k hk
 have hX:Even g (List.range g.m) (λj=>wk g (g.oth e v::t) j^^((j==e)^^(j==k))):=λu=>by
  rw[bD (q:=λj=>(wk g (g.oth e v::t) j&&at_ g j u)^^(((j==e)&&at_ g j u)^^((j==k)&&at_ g j u))) (λj _=>by
   dsimp only;cases wk g (g.oth e v::t) j<;>cases j==e<;>cases j==k<;>cases at_ g j u<;>rfl),ew,ew,dG be hem,dG be hkm,tP p h1,h2,p.jat hem je,p.jat hkm jk]
  cases v==u<;>cases g.oth e v==u<;>cases g.oth k v==u<;>rfl
 refine⟨_,(jZ be nb (λe he=>by simpa using hlt e he) (λe _ h=>by simp[h])).1 (AD hX hb),λj hj hjv=>?_⟩;rw[kU p (by simpa using hlt j hj) hjv h3];by_cases q:j=e
 .subst q;simp[hj,hne]
 .rw[beq_eq_false_iff_ne.2 q];simp[hj]
theorem blk_link(hb:IsBlock g b)(hlt:∀e∈b,e<g.m):Link g b:=by
 intro P hP e he k hk;have:=hb.2.1 e he k hk;clear hk;induction this with
 |refl=>rfl
 |@step j k hc hr ih =>
   have hj:=hb.cls he hc;have hk:=hb.2.2 j hj k hr;rw[ih];obtain⟨x,h1,h2,_⟩:=hr;exact hP x j k hj hk ((at_inc (hlt j hj)).2 h1) ((at_inc (hlt k hk)).2 h2)
theorem whole_dual{bs:List (List Nat)}(nd:bs.flatten.Nodup)(hb:∀b∈bs,IsBlock g b)(part:∀i,i<g.m↔∃b∈bs,i∈b)(hd:∀b∈bs,∃(Φ:Type) (l r:Nat->Φ),Dual g b l r):∃(Φ:Type) (l r:Nat->Φ),Dual g (List.range g.m) l r:=by
 classical
 have hch:∀i:Nat,∃P:FP,∀b,bs[i]?=some b->Dual g b P.lq P.rq:=λi=>by
  cases h:bs[i]? with
  |none=>exact⟨⟨Unit,λ_=>(),λ_=>(),λ_=>()⟩,λb hb=>by cases hb⟩
  |some b =>
    obtain⟨Φ,l,r,d⟩:=hd b (df h);exact⟨⟨Φ,l,r,l⟩,λb' hb'=>by cases hb';exact d⟩
 obtain⟨P,hP⟩:∃P:Nat->FP,∀i b,bs[i]?=some b->Dual g b (P i).lq (P i).rq:=⟨λi=>Classical.choose (hch i),λi=>Classical.choose_spec (hch i)⟩
 have hix:∀e,∃i,e<g.m->i<bs.length/\∃b,bs[i]?=some b/\e∈b:=λe=>by
  by_cases h:e<g.m
  .obtain⟨b,hb',heb⟩:=(part e).1 h;obtain⟨i,hi⟩:=List.mem_iff_getElem?.1 hb';exact⟨i,λ_=>⟨(aF.1 hi).1,b,hi,heb⟩⟩
  .exact⟨0,λh'=>absurd h' h⟩
 obtain⟨ix,hix⟩:∃ix:Nat->Nat,∀e,e<g.m->ix e<bs.length/\∃b,bs[ix e]?=some b/\e∈b:=⟨λe=>Classical.choose (hix e),λe=>Classical.choose_spec (hix e)⟩
 have uniq:∀{bs:List (List Nat)},bs.flatten.Nodup->∀{i j:Nat}{b c:List Nat}{e:Nat},bs[i]?=some b->bs[j]?=some c->e∈b->e∈c->i=j:=by
  intro bs;induction bs with
  |nil=>intro _ i j b c e h;simp at h
  |cons a bs ih =>
    intro nd i j b c e hi hj hb hc;rw[jI,aN]at nd;cases i with
    |zero =>
      cases j with
      |zero=>rfl
      |succ j =>
        simp only[aW,aa,cR]at hi hj;subst hi;exact absurd rfl (nd.2.2 e hb e (fT.2 ⟨c,df hj,hc⟩))
    |succ i =>
      cases j with
      |zero =>
        simp only[aW,aa,cR]at hi hj;subst hj;exact absurd rfl (nd.2.2 e hc e (fT.2 ⟨b,df hi,hb⟩))
      |succ j =>
        simp only[cR]at hi hj;rw[ih nd.2.1 hi hj hb hc]
 have hnd:∀(i:Nat) (b:List Nat),bs[i]?=some b->b.Nodup:=λi b h=>(vz.1 nd).1 b (df h);have hsub:∀i b,bs[i]?=some b->∀e∈b,e∈List.range g.m:=λi b h e he=>by
  have:=(part e).2 ⟨b,df h,he⟩;simpa using this
 refine⟨(i:Nat)×(P i).Ψ,λe=>⟨ix e,(P (ix e)).lq e⟩,λe=>⟨ix e,(P (ix e)).rq e⟩,λS=>?_,λX hX=>?_⟩
 .refine(Even.sum (l:=List.range bs.length) (X:=λi e=>decide (∃b,bs[i]?=some b/\e∈b)&&(S ⟨i,(P i).lq e⟩^^S ⟨i,(P i).rq e⟩)) λi hi=>?_).congr λe he=>?_
  .have hi':i<bs.length:=by simpa using hi
   have hb':bs[i]?=some bs[i]:=ae hi';refine(jZ be (hnd i _ hb') (hsub i _ hb') λe _ h=>?_).2 (((hP i _ hb').two λa=>S ⟨i,a⟩).congr λe he=>?_)
   .have:¬ ∃b,bs[i]?=some b/\e∈b:=λ⟨b,h1,h2⟩=>by rw[hb']at h1;cases h1;exact h h2
    simp[this]
   .have:∃b,bs[i]?=some b/\e∈b:=⟨_,hb',he⟩
    simp[this]
  .have hem:e<g.m:=by simpa using he
   obtain⟨h1,b,h2,h3⟩:=hix e hem;rw[bD (q:=λi=>(i==ix e)&&(S ⟨i,(P i).lq e⟩^^S ⟨i,(P i).rq e⟩)) (λi _=>by
    by_cases q:i=ix e
    .subst q;have:∃b,bs[ix e]?=some b/\e∈b:=⟨b,h2,h3⟩
     simp[this]
    .have:¬ ∃b,bs[i]?=some b/\e∈b:=λ⟨c,h4,h5⟩=>q (uniq nd h4 h2 h5 h3);simp[this,q]),dG (p:=λi=>(S ⟨i,(P i).lq e⟩^^S ⟨i,(P i).rq e⟩)) be (by simpa using h1)]
 .have hS:∀i,∃S:(P i).Ψ->Bool,∀b,bs[i]?=some b->∀e∈b,X e=(S ((P i).lq e)^^S ((P i).rq e)):=λi=>by
   cases h:bs[i]? with
   |none=>exact⟨λ_=>false,λb hb=>by cases hb⟩
   |some b =>
     have h1:=AD hX (hb b (df h));have h2:=(jZ be (hnd i b h) (hsub i b h) (λe _ h=>by simp[h])).1 h1;obtain⟨S,hS⟩:=(hP i b h).one X (h2.congr λe he=>by simp[he]);exact⟨S,λb' hb'=>by cases hb';exact hS⟩
  obtain⟨S,hS⟩:∃S:∀i,(P i).Ψ->Bool,∀i b,bs[i]?=some b->∀e∈b,X e=(S i ((P i).lq e)^^S i ((P i).rq e)):=⟨λi=>Classical.choose (hS i),λi=>Classical.choose_spec (hS i)⟩
  refine⟨λa=>S a.1 a.2,λe he=>?_⟩;obtain⟨_,b,h2,h3⟩:=hix e (by simpa using he);exact hS (ix e) b h2 e h3
end Go.Pla
