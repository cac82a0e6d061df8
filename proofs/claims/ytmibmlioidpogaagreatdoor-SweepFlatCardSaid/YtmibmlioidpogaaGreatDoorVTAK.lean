/- What is laid, with its faces -/
import Derived.Test.YtmibmlioidpogaaGreatDoorVTAJ
set_option linter.all false
namespace Go.Pla
open Go.Blk
variable {A D K Q X Z:Nat->Bool}{c d s s1 s2 s3 s4 t t1 t2:List Nat}{e f f' o u v w x y:Nat}
variable {g:Gr}{B:List Nat}
theorem KD(p:Pln g B)(he:e∈B)(h:wk g (u::t++[w]) e=true)(ht:t≠[]):∃v∈t,at_ g e v=true:=by
 obtain⟨s,a,b,q,h1,hj⟩:=lR h;have ha:at_ g e a=true:=by rw[p.jat he hj];simp[Ne.symm (p.jne he hj)]
 have hb:at_ g e b=true:=by rw[p.jat he hj];simp[p.jne he hj]
 cases s with
 |nil =>
   cases t with
   |nil=>exact absurd rfl ht
   |cons z t =>
     simp only[aW,aB]at h1;injection h1 with _ h1;injection h1 with h1 _;exact⟨z,by simp,h1▸hb⟩
 |cons z s =>
   simp only[aB]at h1;injection h1 with _ h1;refine⟨a,?_,ha⟩;have:(s++a::b::q).dropLast=t:=by rw[<-h1];simp
   rw[<-this];rw[show s++a::b::q=(s++[a])++(b::q) by simp,eV (by simp)];simp
theorem kH(p:Pln g B){u:Nat}(hc:Cc g B (u::t1++w::t2))(he:e∈B)(h:wk g (u::t1++[w]) e=true):cy g (u::t1++w::t2) e=true:=by
 obtain⟨_,hn,hl⟩:=hc;change (u::(t1++w::t2)).Nodup at hn;show wk g (u::(t1++w::t2)++[u]) e=true;rw[show u::(t1++w::t2)++[u]=(u::t1)++w::(t2++[u]) by simp,hU];rw[h];have:wk g (w::(t2++[u])) e=false:=by
  by_cases ht:t1=[]
  .cases h2:wk g (w::(t2++[u])) e
   .rfl
   subst ht;have ht2:t2≠[]:=by
    intro h3;subst h3;simp at hl
   obtain⟨v,hv,hev⟩:=KD p (u:=w) (t:=t2) (w:=u) he h2 ht2;have:=xr p he h hev;simp only[aS,aW]at hn;simp only[aB,aW,au,aR,or_false]at this;rcases this with rfl|rfl
   .exact absurd (aQ _ hv) hn.1
   .exact absurd hv hn.2.1
  .obtain⟨v,hv,hev⟩:=KD p he h ht;refine kj p he hev ?_;intro hm;simp only[au,aw,aR,or_false]at hm;rw[aS,aJ]at hn;rcases hm with rfl|hm|rfl
   .exact hn.2.2.2 _ hv _ (by simp) rfl
   .exact hn.2.2.2 _ hv _ (aQ _ hm) rfl
   .exact hn.1 (by simp[hv])
 rw[this];rfl
def Rot(c d:List Nat):Prop:=∃a b,c=a++b/\d=b++a
theorem Rot.cy(h:Rot c d)(e:Nat):cy g d e=cy g c e:=by
 obtain⟨a,b,rfl,rfl⟩:=h;exact qa
theorem Rot.cc(h:Rot c d)(hc:Cc g B c):Cc g B d:=by
 obtain⟨a,b,rfl,rfl⟩:=h;exact oN hc
theorem Rot.mem(h:Rot c d):x∈d↔x∈c:=by
 obtain⟨a,b,rfl,rfl⟩:=h;simp[or_comm]
theorem vF{x:Nat}(h:x∈c):∃t,Rot c (x::t):=by
 obtain⟨a,b,rfl⟩:=bZ h;exact⟨b++a,a,x::b,rfl,rfl⟩
theorem Bm{x:Nat}(hx:x∈c)(hy:y∈c)(hne:x≠y):∃s t,Rot c (x::s++y::t):=by
 obtain⟨t,h⟩:=vF hx;have:y∈t:=by
  have:=h.mem.2 hy;simpa[Ne.symm hne]using this
 obtain⟨s,t',rfl⟩:=bZ this;exact⟨s,t',h⟩
theorem iT(p:Pln g B){x:Nat}(hc:Cc g B (x::y::s))(he:e∈B)(hj:jn g e x y=true):cy g (x::y::s) e=true:=by
 have:=kH p (u:=x) (t1:=[]) (w:=y) (t2:=s) hc he (by simp[wk,hj]);exact this
theorem cy_at(p:Pln g B)(hc:Cc g B c)(hx:x∈c):∃e∈B,at_ g e x=true/\cy g c e=true:=by
 obtain⟨t,h⟩:=vF hx;have hcc:=h.cc hc;cases t with
 |nil=>have:=hcc.2.2;simp at this
 |cons y s =>
   obtain⟨⟨e,he,hj⟩,_⟩:=hcc.1;exact⟨e,he,by rw[p.jat he hj];simp[Ne.symm (p.jne he hj)],by rw[<-h.cy,iT p hcc he hj]⟩
theorem yX(p:Pln g B)(he:e∈B)(h:cy g c e=true)(hx:at_ g e x=true):x∈c:=by
 cases c with
 |nil=>simp[cy]at h
 |cons y t =>
   have:=xr p he h hx;simp only[aB,au,aw,aR,or_false]at this;rcases this with rfl|h|rfl<;>simp[*]
structure Lay(g:Gr)(B:List Nat)(H:Nat->Bool)(nf:Nat)(fc:Nat->List Nat):Prop where
 circ:∀f,f<nf->Cc g B (fc f)
 two:∀e∈B,H e=true->∃a b,a<nf/\b<nf/\a≠b/\∀f,f<nf->cy g (fc f) e=((f==a)||(f==b))
 none:∀e∈B,H e=false->∀f,f<nf->cy g (fc f) e=false
 span:∀X,Even g B X->(∀e∈B,X e=true->H e=true)->∃T:Nat->Bool,∀e∈B,X e=par (List.range nf) (λf=>T f&&cy g (fc f) e)
 bond:∀v e k,e∈B->k∈B->H e=true->H k=true->at_ g e v=true->at_ g k v=true->e≠k->∃X,Even g B X/\(∀j∈B,X j=true->H j=true)/\∀j∈B,H j=true->at_ g j v=true->X j=((j==e)||(j==k))
variable {H:Nat->Bool}{nf:Nat}{fc:Nat->List Nat}
theorem oZ{a b:Nat}(ha:a<nf)(hb:b<nf)(hne:a≠b)(T:Nat->Bool):par (List.range nf) (λf=>T f&&((f==a)||(f==b)))=(T a^^T b):=by
 rw[bH (q:=λf=>((f==a)&&T f)^^((f==b)&&T f)) (λf _=>by
  by_cases h:f=a
  .subst h;rw[beq_eq_false_iff_ne.2 hne];simp
  .rw[beq_eq_false_iff_ne.2 h];cases T f<;>cases f==b<;>rfl),eQ,dU bX (by simpa using ha),dU bX (by simpa using hb)]
theorem Lay.orth(L:Lay g B H nf fc)(hK:∀f,f<nf->par B (λe=>K e&&cy g (fc f) e)=false)(hX:Even g B X)(hs:∀e∈B,X e=true->H e=true):par B (λe=>K e&&X e)=false:=by
 obtain⟨T,hT⟩:=L.span X hX hs;rw[bH (q:=λe=>par (List.range nf) (λf=>T f&&(K e&&cy g (fc f) e))) (λe he=>by
  rw[hT e he,<-iu];exact bH λf _=>by cases K e<;>cases T f<;>rfl),kA]
 exact ft λf hf=>by
  rw[iu,hK f (by simpa using hf)];simp
theorem Lay.hcy(L:Lay g B H nf fc)(hf:f<nf)(he:e∈B)(h:cy g (fc f) e=true):H e=true:=by
 cases hh:H e
 .rw[L.none e he hh f hf]at h;cases h
 .rfl
def Rch(g:Gr)(B:List Nat)(H:Nat->Bool)(nf:Nat)(fc:Nat->List Nat)(x f o h:Nat):Prop :=
 ∃α:Nat->Bool,(∀e∈B,α e=true->H e=true/\at_ g e x=true)/\(∀e∈B,α e=true->o<nf->cy g (fc o) e=false)/\∀k,k<nf->par B (λe=>α e&&cy g (fc k) e)=((k==f)^^(k==h))
theorem xU(p:Pln g B)(L:Lay g B H nf fc){h h2:Nat}(hr:Rch g B H nf fc x f o h)(hh:h<nf)(hh2:h2<nf)(hne:h≠h2)(ho:o≠h)(ho2:o≠h2)(he:e∈B)(hex:at_ g e x=true)(h1:cy g (fc h) e=true)(h3:cy g (fc h2) e=true):Rch g B H nf fc x f o h2:=by
 obtain⟨α,a,b,c⟩:=hr;have heH:=L.hcy hh he h1;obtain⟨u,w,hu,hw,huw,hq⟩:=L.two e he heH;rw[hq h hh]at h1;rw[hq h2 hh2]at h3;simp only[df,beq_iff_eq]at h1 h3;have hq':∀k,k<nf->cy g (fc k) e=((k==h)^^(k==h2)):=λk hk=>by
  rw[hq k hk];have:(u=h/\w=h2)\/(u=h2/\w=h):=om;rcases this with⟨rfl,rfl⟩|⟨rfl,rfl⟩
  .by_cases q:k=u
   .subst q;simp[huw]
   .rw[beq_eq_false_iff_ne.2 q];cases k==w<;>rfl
  .by_cases q:k=u
   .subst q;simp[huw]
   .rw[beq_eq_false_iff_ne.2 q];cases k==w<;>rfl
 refine⟨λj=>α j^^(j==e),λj hj hα=>?_,λj hj hα hon=>?_,λk hk=>?_⟩<;>dsimp only at *
 .by_cases hje:j=e
  .subst hje;exact⟨heH,hex⟩
  .rw[beq_eq_false_iff_ne.2 hje,dr]at hα;exact a j hj hα
 .by_cases hje:j=e
  .subst hje;rw[hq' o hon,beq_eq_false_iff_ne.2 ho,beq_eq_false_iff_ne.2 ho2];rfl
  .rw[beq_eq_false_iff_ne.2 hje,dr]at hα;exact b j hj hα hon
 .rw[bH (q:=λj=>(α j&&cy g (fc k) j)^^((j==e)&&cy g (fc k) j)) (λj _=>by
   cases α j<;>cases j==e<;>cases cy g (fc k) j<;>rfl),eQ,c k hk,dU p.nd he,hq' k hk]
  cases k==f<;>cases k==h<;>cases k==h2<;>rfl
open Classical in
theorem KU(p:Pln g B)(L:Lay g B H nf fc)(hf:f<nf)(hf':f'<nf)(hne:f≠f')(ho:o≠f)(ho':o≠f')(hx:x∈fc f)(hx':x∈fc f'):Rch g B H nf fc x f o f':=by
 refine Classical.byContradiction λhno=>?_;have r0:Rch g B H nf fc x f o f:=⟨λ_=>false,λ_ _ h=>(by cases h),λ_ _ h=>(by cases h),λk _=>(ft λ_ _=>rfl).trans (by simp)⟩
 obtain⟨Y,hY⟩:∃Y:Nat->Bool,∀e,Y e=true↔at_ g e x=true/\∃h,h<nf/\h≠o/\Rch g B H nf fc x f o h/\cy g (fc h) e=true :=
  ⟨λe=>decide (at_ g e x=true/\∃h,h<nf/\h≠o/\Rch g B H nf fc x f o h/\cy g (fc h) e=true),λe=>by simp⟩
 have main:∀k,k<nf->k≠o->par B (λe=>Y e&&cy g (fc k) e)=false:=by
  intro k hk hko;by_cases hr:Rch g B H nf fc x f o k
  .rw[<-iU p (L.circ k hk) x];refine bH λe he=>?_;by_cases hc:cy g (fc k) e=true
   .by_cases ha:at_ g e x=true
    .rw[hc,ha,(hY e).2 ⟨ha,k,hk,hko,hr,hc⟩]
    .have:Y e=false:=by
      cases hy:Y e
      .rfl
      .exact absurd ((hY e).1 hy).1 ha
     have ha':at_ g e x=false:=by simpa using ha
     rw[this,ha',hc];rfl
   .have:cy g (fc k) e=false:=by simpa using hc
    rw[this];simp
  .refine ft λe he=>?_;cases hy:Y e
   .rfl
   cases hc:cy g (fc k) e
   .rfl
   obtain⟨ha,h,hh,hho,hr',hc'⟩:=(hY e).1 hy;exact absurd (xU p L hr' hh hk (λq=>hr (q▸hr')) (Ne.symm hho) (Ne.symm hko) he ha hc' hc) hr
 have mainO:∀k,k<nf->par B (λe=>Y e&&cy g (fc k) e)=false:=by
  intro k hk;by_cases hko:k=o
  .subst hko;have h1:par (List.range nf) (λh=>par B (λe=>Y e&&cy g (fc h) e))=false:=by
    rw[kA];refine ft λe he=>?_;rw[iu];have:par (List.range nf) (λh=>cy g (fc h) e)=false:=by
     cases hH:H e
     .exact ft λh hh=>L.none e he hH h (by simpa using hh)
     .obtain⟨u,w,hu,hw,huw,hq⟩:=L.two e he hH;rw[bH (q:=λh=>true&&((h==u)||(h==w))) (λh hh=>by rw[hq h (by simpa using hh)];rfl),oZ hu hw huw];rfl
    rw[this];simp
   rw[bH (q:=λh=>(h==k)&&par B (λe=>Y e&&cy g (fc h) e)) (λh hh=>by
    by_cases hk':h=k
    .subst hk';simp
    .rw[main h (by simpa using hh) hk'];simp),dU bX (by simpa using hk)]at h1
   exact h1
  .exact main k hk hko
 obtain⟨e,he,hex,hce⟩:=cy_at p (L.circ f hf) hx;obtain⟨k,hk,hkx,hck⟩:=cy_at p (L.circ f' hf') hx';have hYe:Y e=true:=(hY e).2 ⟨hex,f,hf,Ne.symm ho,r0,hce⟩;have hYk:Y k=true:=by
  by_cases hek:e=k
  .rw[<-hek];exact hYe
  obtain⟨X,hX,hXH,hXj⟩:=L.bond x e k he hk (L.hcy hf he hce) (L.hcy hf' hk hck) hex hkx hek;have h1:=L.orth mainO hX hXH;rw[bH (q:=λj=>((j==e)&&Y j)^^((j==k)&&Y j)) (λj hj=>by
   cases hy:Y j
   .simp
   obtain⟨ha,h,hh,_,_,hc⟩:=(hY j).1 hy;rw[hXj j hj (L.hcy hh hj hc) ha];by_cases q:j=e
   .subst q;simp[hek]
   .rw[beq_eq_false_iff_ne.2 q];cases j==k<;>rfl),eQ,dU p.nd he,dU p.nd hk,hYe]at h1
  simpa using h1
 obtain⟨_,h,hh,hho,hr,hc⟩:=(hY k).1 hYk;by_cases q:h=f'
 .exact hno (q▸hr)
 .exact hno (xU p L hr hh hf' q (Ne.symm hho) ho' hk hkx hc hck)
theorem HT{C:Nat->Bool}:par B (λe=>K e&&(A e^^C e))=(par B (λe=>K e&&A e)^^par B (λe=>K e&&C e)):=by
 rw[<-eQ];exact bH λe _=>by cases K e<;>cases A e<;>cases C e<;>rfl
theorem rF{C:Nat->Bool}:par B (λe=>(A e^^C e)&&K e)=(par B (λe=>A e&&K e)^^par B (λe=>C e&&K e)):=by
 rw[<-eQ];exact bH λe _=>by cases K e<;>cases A e<;>cases C e<;>rfl
theorem zg(p:Pln g B){u:Nat}(h:Ch g B (u::t++[w])):par B (λe=>wk g (u::t++[w]) e&&at_ g e v)=((u==v)^^(w==v)):=by
 have:=rX p (v:=v) (x:=u) (t:=t++[w]) h;rw[vT]at this;exact this
theorem vn(p:Pln g B){u:Nat}(h:Ch g B (u::t++[w]))(h':Ch g B (u::s++[w])):Even g B (λe=>wk g (u::t++[w]) e^^wk g (u::s++[w]) e):=λv=>by
 rw[bH (q:=λe=>(wk g (u::t++[w]) e&&at_ g e v)^^(wk g (u::s++[w]) e&&at_ g e v)) (λe _=>by
  dsimp only;cases wk g (u::t++[w]) e<;>cases wk g (u::s++[w]) e<;>cases at_ g e v<;>rfl),eQ,zg p h,zg p h',qp]
theorem Cc.arc{u:Nat}(hc:Cc g B (u::t1++w::t2)):Ch g B (u::t1++[w]):=by
 have h:=hc.1;change Ch g B (u::(t1++w::t2)++[u])at h;rw[show u::(t1++w::t2)++[u]=(u::t1)++w::(t2++[u]) by simp,im]at h;exact h.1
theorem KQ(p:Pln g B)(L:Lay g B H nf fc){u:Nat}(hf:f<nf)(hf':f'<nf)(hne:f≠f')(ho:o≠f)(ho':o≠f')(hx:x∈fc f')(hy:y∈fc f')(hr:Rot (fc f) (x::s1++u::s2++y::s3++w::s4)){C:List Nat}(hC:Ch g B (u::C++[w]))(hCH:∀e∈B,wk g (u::C++[w]) e=true->H e=true)
 (hav:∀e∈B,(at_ g e x=true\/at_ g e y=true)->wk g (u::C++[w]) e=true->o<nf/\cy g (fc o) e=true):False:=by
 have hcc:=hr.cc (L.circ f hf);have hnd:(x::s1++u::s2++y::s3++w::s4).Nodup:=hcc.2.1;have hr':Rot (fc f) (u::(s2++y::s3)++w::(s4++x::s1)):=by
  obtain⟨a,b,h1,h2⟩:=hr;have:Rot (x::s1++u::s2++y::s3++w::s4) (u::(s2++y::s3)++w::(s4++x::s1)):=⟨x::s1,u::s2++y::s3++w::s4,by simp,by simp⟩
  obtain⟨c,d,h3,h4⟩:=this;rw[h2]at h3;rcases jM.1 h3 with⟨q,h5,h6⟩|⟨q,h5,h6⟩
  .exact⟨q,d++b,by rw[h1,h6];simp[h5,h6]<;>skip,by rw[h4,h5];simp⟩
  .exact⟨a++c,q,by rw[h1,h5];simp,by rw[h4,h6];simp⟩
 have hcc':=hr'.cc (L.circ f hf);have hxf:x∈fc f:=hr.mem.1 (by simp);have hyf:y∈fc f:=hr.mem.1 (by simp);obtain⟨α,a1,a2,a3⟩:=KU p L hf hf' hne ho ho' hxf hx;obtain⟨β,b1,b2,b3⟩:=KU p L hf hf' hne ho ho' hyf hy;have hA:=hcc'.arc;have hev:=vn p hA hC;have hsub:∀e∈B,(wk g (u::(s2++y::s3)++[w]) e^^wk g (u::C++[w]) e)=true->H e=true:=by
  intro e he h;by_cases q:wk g (u::C++[w]) e=true
  .exact hCH e he q
  .have q':wk g (u::C++[w]) e=false:=by simpa using q
   rw[q',dr]at h;exact L.hcy hf he (by rw[<-hr'.cy];exact kH p hcc' he h)
 have h0:=L.orth (K:=λe=>α e^^β e) (λk hk=>by
  rw[rF,a3 k hk,b3 k hk,qp]) hev hsub
 have hxn:x∉u::(s2++y::s3)++[w]:=by
  intro hm;rw[show x::s1++u::s2++y::s3++w::s4=(x::s1)++((u::(s2++y::s3)++[w])++s4) by simp,aJ]at hnd;exact hnd.2.2 x (by simp) x (bp _ hm) rfl
 have c1:par B (λe=>α e&&wk g (u::(s2++y::s3)++[w]) e)=false:=ft λe he=>by
  cases h:α e
  .rfl
  .rw[kj p he (a1 e he h).2 hxn];rfl
 have c2:par B (λe=>α e&&wk g (u::C++[w]) e)=false:=ft λe he=>by
  cases h:α e
  .rfl
  cases h':wk g (u::C++[w]) e
  .rfl
  obtain⟨q1,q2⟩:=hav e he (.inl (a1 e he h).2) h';rw[a2 e he h q1]at q2;cases q2
 have c3:par B (λe=>β e&&wk g (u::C++[w]) e)=false:=ft λe he=>by
  cases h:β e
  .rfl
  cases h':wk g (u::C++[w]) e
  .rfl
  obtain⟨q1,q2⟩:=hav e he (.inr (b1 e he h).2) h';rw[b2 e he h q1]at q2;cases q2
 have c4:par B (λe=>β e&&wk g (u::(s2++y::s3)++[w]) e)=true:=by
  have h1:=b3 f hf;rw[beq_self_eq_true,beq_eq_false_iff_ne.2 hne]at h1;rw[<-show _=true from h1];refine bH λe he=>?_;cases h:β e
  .rfl
  have hey:=(b1 e he h).2;rw[<-hr'.cy];show(true&&_)=(true&&wk g (u::((s2++y::s3)++w::(s4++x::s1))++[u]) e)
  rw[show u::((s2++y::s3)++w::(s4++x::s1))++[u]=(u::(s2++y::s3))++w::(s4++x::s1++[u]) by simp,hU (b:=s4++x::s1++[u]),kj (a:=w::(s4++x::s1++[u])) p he hey,dr];intro hm;have hp:(y::(u::s2++s3++w::s4++x::s1)).Nodup:=by
   refine(List.Perm.nodup (l:=x::s1++u::s2++y::s3++w::s4) ?_ hnd);have e1:x::s1++u::s2++y::s3++w::s4=(x::s1++u::s2)++y::(s3++w::s4):=by simp
   rw[e1];refine List.perm_middle.trans (List.Perm.cons _ ?_);have e2:u::s2++s3++w::s4++x::s1=(u::s2++(s3++w::s4))++x::s1:=by simp
   rw[e2];refine List.Perm.trans ?_ tL;simp
  rw[aS]at hp;apply hp.1;simp only[au,aw,aR,or_false,aB,bD]at hm |-;rcases hm with h|h|h|h|h<;>simp[h]
 rw[bH (q:=λe=>(α e^^β e)&&(wk g (u::(s2++y::s3)++[w]) e^^wk g (u::C++[w]) e)) (λ_ _=>rfl),HT,rF,rF,c1,c2,c3,c4]at h0;cases h0
theorem FH(p:Pln g B)(L:Lay g B H nf fc)(hf:f<nf)(hf':f'<nf)(ho:o<nf)(hne:f≠f')(hof:o≠f)(hof':o≠f')(hx:x∈fc f')(hy:y∈fc f')(hu:u∈fc o)(hw:w∈fc o)(hr:Rot (fc f) (x::s1++u::s2++y::s3++w::s4)):False:=by
 have hnd:(x::s1++u::s2++y::s3++w::s4).Nodup:=(hr.cc (L.circ f hf)).2.1;have huw:u≠w:=by
  intro h;subst h;rw[show x::s1++u::s2++y::s3++u::s4=(x::s1)++((u::s2++y::s3)++u::s4) by simp,aJ,aJ]at hnd;exact hnd.2.1.2.2 u (by simp) u (by simp) rfl
 obtain⟨t1,t2,hr2⟩:=Bm hu hw huw;have hcc2:=hr2.cc (L.circ o ho);have hin:∀e∈B,wk g (u::t1++[w]) e=true->cy g (fc o) e=true:=λe he h=>by
  rw[<-hr2.cy];exact kH p hcc2 he h
 exact KQ p L hf hf' hne hof hof' hx hy hr hcc2.arc (λe he h=>L.hcy ho he (hin e he h)) (λe he _ h=>⟨ho,hin e he h⟩)
theorem rS(p:Pln g B)(L:Lay g B H nf fc)(hf:f<nf)(hf':f'<nf)(hne:f≠f')(hx:x∈fc f')(hy:y∈fc f')(hr:Rot (fc f) (x::s1++u::s2++y::s3++w::s4))(hr':Rot (fc f') (u::t1++w::t2))(hx1:x∉u::t1++[w])(hy1:y∉u::t1++[w]):False:=by
 have hcc2:=hr'.cc (L.circ f' hf');refine KQ p L (o:=nf) hf hf' hne om om hx hy hr hcc2.arc (λe he h=>L.hcy hf' he (by rw[<-hr'.cy];exact kH p hcc2 he h)) (λe he ha h=>?_);rcases ha with ha|ha
 .rw[kj p he ha hx1]at h;cases h
 .rw[kj p he ha hy1]at h;cases h
open Go.Blk
variable {g:Gr}{B:List Nat}{H:Nat->Bool}{nf:Nat}{fc:Nat->List Nat}{Φ Ψ Ψ':Type}
structure Fill(g:Gr)(B:List Nat)(Z Q:Nat->Bool)(lq rq β:Nat->Ψ):Prop where
 two:∀S:Ψ->Bool,Even g B (λe=>(Q e&&(S (lq e)^^S (rq e)))^^(Z e&&S (β e)))
 one:∀X,Even g B X->∃S:Ψ->Bool,∀e∈B,Q e=true->X e=(S (lq e)^^S (rq e))
theorem HE(p:Pln g B)(L:Lay g B H nf fc){a:Nat->Nat}(ha:∀e∈B,H e=false->a e<nf){Ps:Nat->Type}{lq rq β:∀h,Nat->Ps h}(hF:∀h,h<nf->Fill g B (cy g (fc h)) (λe=>!(H e)&&(a e==h)) (lq h) (rq h) (β h)) :
 ∃l r:Nat->Sigma Ps,Dual g B l r/\Ext g B l r H nf (λf=>cy g (fc f)) Sigma.fst/\∀e∈B,H e=false->(l e).1=a e/\(r e).1=a e:=by
 have hch:∀e,∃q:Nat×Nat,e∈B->H e=true->q.1<nf/\q.2<nf/\q.1≠q.2/\∀f,f<nf->cy g (fc f) e=((f==q.1)||(f==q.2)):=λe=>by
  by_cases h:e∈B/\H e=true
  .obtain⟨a,b,c⟩:=L.two e h.1 h.2;exact⟨(a,b),λ_ _=>c⟩
  .exact⟨(0,0),λh1 h2=>absurd ⟨h1,h2⟩ h⟩
 obtain⟨q,hq⟩:∃q:Nat->Nat×Nat,∀e,e∈B->H e=true->(q e).1<nf/\(q e).2<nf/\(q e).1≠(q e).2/\∀f,f<nf->cy g (fc f) e=((f==(q e).1)||(f==(q e).2)):=⟨λe=>Classical.choose (hch e),λe=>Classical.choose_spec (hch e)⟩
 have side:∀S:∀h,Ps h->Bool,∀e∈B,par (List.range nf) (λh=>((!(H e)&&(a e==h))&&(S h (lq h e)^^S h (rq h e)))^^(cy g (fc h) e&&S h (β h e)))=if H e=true then S (q e).1 (β (q e).1 e)^^S (q e).2 (β (q e).2 e)else S (a e) (lq (a e) e)^^S (a e) (rq (a e) e):=by
  intro S e he;cases hH:H e
  .rw[bH (q:=λh=>(h==a e)&&(S h (lq h e)^^S h (rq h e))) (λh hh=>by
    rw[L.none e he hH h (by simpa using hh),gX];simp),dU bX (by simpa using ha e he hH)]
   simp
  .obtain⟨h1,h2,h3,h4⟩:=hq e he hH;rw[bH (q:=λh=>S h (β h e)&&((h==(q e).1)||(h==(q e).2))) (λh hh=>by
    rw[h4 h (by simpa using hh)];simp[Bool.and_comm]),oZ h1 h2 h3]
   simp
 refine⟨λe=>if H e=true then⟨(q e).1,β (q e).1 e⟩else⟨a e,lq (a e) e⟩,λe=>if H e=true then⟨(q e).2,β (q e).2 e⟩else⟨a e,rq (a e) e⟩,⟨λS=>?_,λX hX=>?_⟩,⟨λf hf e he=>?_,λe he=>?_,λe he=>?_⟩,λe he hH=>?_⟩
 .refine(Even.sum (l:=List.range nf) (X:=λh e=>((!(H e)&&(a e==h))&&(S ⟨h,lq h e⟩^^S ⟨h,rq h e⟩))^^(cy g (fc h) e&&S ⟨h,β h e⟩)) λh hh=>(hF h (by simpa using hh)).two (fun ψ=>S ⟨h,ψ⟩)).congr λe he=>?_;rw[side (λh ψ=>S ⟨h,ψ⟩) e he];cases hH:H e<;>simp
 .have hS:∀h,∃S:Ps h->Bool,h<nf->∀e∈B,(!(H e)&&(a e==h))=true->X e=(S (lq h e)^^S (rq h e)):=λh=>by
   by_cases hh:h<nf
   .obtain⟨S,hS⟩:=(hF h hh).one X hX;exact⟨S,λ_=>hS⟩
   .exact⟨λ_=>false,λh'=>absurd h' hh⟩
  obtain⟨S,hS⟩:∃S:∀h,Ps h->Bool,∀h,h<nf->∀e∈B,(!(H e)&&(a e==h))=true->X e=(S h (lq h e)^^S h (rq h e)):=⟨λh=>Classical.choose (hS h),λh=>Classical.choose_spec (hS h)⟩
  have hsum:=Even.sum (l:=List.range nf) (X:=λh e=>((!(H e)&&(a e==h))&&(S h (lq h e)^^S h (rq h e)))^^(cy g (fc h) e&&S h (β h e))) λh hh=>(hF h (by simpa using hh)).two (S h);obtain⟨T,hT⟩:=L.span _ (hX.xor hsum) (λe he h=>by
   cases hH:H e
   .rw[side S e he,hH]at h;rw[hS (a e) (ha e he hH) e he (by simp[hH])]at h;simp at h
   .rfl)
  refine⟨λx=>S x.1 x.2^^T x.1,λe he=>?_⟩;have h1:=hT e he;rw[side S e he]at h1;cases hH:H e
  .have:=hS (a e) (ha e he hH) e he (by simp[hH]);change X e=((S (a e) (lq (a e) e)^^T (a e))^^(S (a e) (rq (a e) e)^^T (a e)))
   rw[this];cases S (a e) (lq (a e) e)<;>cases S (a e) (rq (a e) e)<;>cases T (a e)<;>rfl
  .obtain⟨h2,h3,h4,h5⟩:=hq e he hH;rw[bH (q:=λh=>T h&&((h==(q e).1)||(h==(q e).2))) (λh hh=>by rw[h5 h (by simpa using hh)]),oZ h2 h3 h4,hH]at h1;simp only[if_true]at h1;change X e=((S (q e).1 (β (q e).1 e)^^T (q e).1)^^(S (q e).2 (β (q e).2 e)^^T (q e).2))
   revert h1;cases X e<;>cases S (q e).1 (β (q e).1 e)<;>cases S (q e).2 (β (q e).2 e)<;>cases T (q e).1<;>cases T (q e).2<;>simp
 .cases hH:H e
  .rw[L.none e he hH f hf];simp
  .obtain⟨h1,h2,h3,h4⟩:=hq e he hH;rw[h4 f hf];simp only[if_true];by_cases h:f=(q e).1
   .subst h;rw[beq_self_eq_true,beq_eq_false_iff_ne.2 (Ne.symm h3)];rfl
   .rw[beq_eq_false_iff_ne.2 h,beq_eq_false_iff_ne.2 (Ne.symm h),gU,et,gX]
 .cases hH:H e
  .simp only[bu,if_false];exact⟨ha e he hH,ha e he hH⟩
  .simp only[if_true];exact⟨(hq e he hH).1,(hq e he hH).2.1⟩
 .cases hH:H e
  .simp
  .simp only[if_true];exact(bne_iff_ne.2 (hq e he hH).2.2.1).symm
 .simp[hH]
def jo(g:Gr)(D:Nat->Bool):Bool->List Nat->Nat->Bool
 |_,[],_=>false
 |_,[_],_=>false
 |b,x::y::t,e=>((b^^D x)&&jn g e x y)^^jo g D (b^^D x) (y::t) e
theorem Lz(p:Pln g B)(h:∃e∈B,jn g e x y=true):par B (λe=>jn g e x y&&at_ g e v)=((x==v)^^(y==v)):=by
 have:=rX p (v:=v) (x:=x) (t:=[y]) ⟨h,trivial⟩;simpa[wk,lst]using this
theorem Fq(p:Pln g B){D:Nat->Bool}{v:Nat}:∀{x:Nat}{t:List Nat}{b:Bool},Ch g B (x::t)->par B (λe=>jo g D b (x::t) e&&at_ g e v)=((b&&(x==v))^^(par (x::t) (λu=>(u==v)&&D u)^^((b^^par (x::t) D)&&(lst x t==v))))
 |x,[],b,_=>by
   rw[ft λ_ _=>by simp[jo]];simp only[par,lst];cases b<;>cases x==v<;>cases D x<;>rfl
 |x,y::t,b,h=>by
   have ih:=Fq p (v:=v) (D:=D) (b:=b^^D x) h.2;rw[bH (q:=λe=>((b^^D x)&&(jn g e x y&&at_ g e v))^^(jo g D (b^^D x) (y::t) e&&at_ g e v)) (λe _=>by
    simp only[jo];cases b^^D x<;>cases jn g e x y<;>cases jo g D _ (y::t) e<;>cases at_ g e v<;>rfl),eQ,ih,iu,Lz p h.1]
   simp only[par,lst];cases b<;>cases D x<;>cases x==v<;>cases y==v<;>cases D y<;>cases par t (λu=>(u==v)&&D u)<;>cases par t D<;>cases lst y t==v<;>rfl
theorem Gi{D:Nat->Bool}{e:Nat}:∀{a:List Nat}{b:Bool},jo g D b a e=true->∃p x y q,a=p++x::y::q/\jn g e x y=true
 |[],_,h=>by simp[jo]at h
 |[_],_,h=>by simp[jo]at h
 |x::y::t,b,h=>by
   by_cases hj:jn g e x y=true
   .exact⟨[],x,y,t,rfl,hj⟩
   .have hj':jn g e x y=false:=by simpa using hj
    rw[jo,hj',xn,et]at h;obtain⟨p,a,b,q,h1,h2⟩:=Gi h;exact⟨x::p,a,b,q,by rw[h1];rfl,h2⟩
theorem Bw(nd:c.Nodup)(h:D v=true->v∈c):par c (λu=>(u==v)&&D u)=D v:=by
 by_cases hv:v∈c
 .exact dU nd hv
 .rw[Fp hv];cases hd:D v
  .rfl
  .exact absurd (h hd) hv
theorem JB(p:Pln g B)(hc:Cc g B c)(hD:∀v,D v=true->v∈c)(hp:par c D=false):∃A:Nat->Bool,(∀e∈B,A e=true->cy g c e=true)/\∀v,par B (λe=>A e&&at_ g e v)=D v:=by
 cases c with
 |nil=>exact hc.elim
 |cons x t =>
   have hch:Ch g B (x::t):=by
    have h:=hc.1;rcases cU (x::t)with h'|⟨s,z,h'⟩
    .cases h'
    .rw[dl]at h';rw[h']at h |-;rw[bD]at h;exact(im.1 h).1
   refine⟨jo g D false (x::t),λe he h=>?_,λv=>?_⟩
   .obtain⟨s,a,b,q,h1,hj⟩:=Gi h;rw[h1]at hc |-;rw[qa];exact iT p (oN hc) he hj
   .rw[Fq p hch,hp,Bw hc.2.1 (hD v)];simp
theorem at_lt(he:e<g.m)(h:at_ g e v=true):v<g.n:=by
 have:=g.ok e he;unfold at_ at h;by_cases a:g.tl e=v
 .omega
 .by_cases b:g.hd e=v
  .omega
  .rw[beq_eq_false_iff_ne.2 a,beq_eq_false_iff_ne.2 b]at h;cases h
theorem Li(he:e<g.m):par (List.range g.n) (λv=>at_ g e v)=false:=by
 have:=g.ok e he;rw[bH (q:=λv=>((v==g.tl e)&&true)^^((v==g.hd e)&&true)) (λv _=>by
  unfold at_;rw[gY,gY,gX (a:=v),gX (a:=v)]),eQ,dU bX (by simpa using this.1),dU bX (by simpa using this.2.1)]
 rfl
theorem FF(p:Pln g B)(nd:c.Nodup)(hc:∀v∈c,v<g.n)(hD:∀v,D v=par B (λe=>X e&&at_ g e v))(hin:∀v,D v=true->v∈c):par c D=false:=by
 have h1:par (List.range g.n) D=false:=by
  rw[bH λv _=>hD v,kA];exact ft λe he=>by rw[iu,Li (p.lt e he)];simp
 rw[bH (q:=λv=>par c (λu=>(u==v)&&D u)) (λv _=>(Bw nd (hin v)).symm),kA]at h1;rw[<-h1];refine bH λu hu=>?_;rw[bH (q:=λv=>(v==u)&&D u) (λv _=>by rw[gX]),dU (p:=λ_=>D u) bX (by simpa using hc u hu)]
open Classical in
theorem vI(R:Φ->Φ->Prop):∃c:Φ->Φ,(∀a b,R a b->c a=c b)/\∀{α:Type} (S:Φ->α),(∀a b,R a b->S a=S b)->∀a,S (c a)=S a:=by
 refine⟨λa=>Classical.choose (Quot.exists_rep (Quot.mk R a)),λa b h=>?_,λS hS a=>?_⟩
 .dsimp only;rw[Quot.sound h]
 .have:=Classical.choose_spec (Quot.exists_rep (Quot.mk R a));have h2:=congrArg (Quot.lift S hS) this;exact h2
theorem AM(p:Pln g B){l r:Nat->Φ}{pf:Φ->Nat}(d:Dual g B l r)(hb:Bond g B)(L:Lay g B H nf fc)(x:Ext g B l r H nf (λf=>cy g (fc f)) pf)(hf:f<nf)(hQ:∀e∈B,Q e=true->H e=false/\pf (l e)=f)(hcl:∀v,(∀e∈B,at_ g e v=true->H e=false)->∀e∈B,∀k∈B,at_ g e v=true->at_ g k v=true->Q e=Q k) :
 ∃lq rq β:Nat->Φ,Fill g B (cy g (fc f)) Q lq rq β:=by
 obtain⟨c,hc1,hc2⟩:=vI (λa b:Φ=>∃e∈B,H e=false/\Q e=false/\pf (l e)=f/\l e=a/\r e=b);have hpf:∀e∈B,H e=false->pf (r e)=pf (l e):=λe he h=>by
  have:=x.lay e he;rw[h]at this;exact(by simpa using this.symm:pf (l e)=pf (r e)).symm
 refine⟨λe=>c (l e),λe=>c (r e),λe=>c (if pf (l e)=f then l e else r e),⟨λS=>?_,λX hX=>?_⟩⟩
 .refine(d.two (λa=>S (c a)&&pf a==f)).congr λe he=>?_;have hs:=x.side f hf e he;cases hH:H e
  .rw[L.none e he hH f hf,hpf e he hH];cases hq:Q e
   .by_cases hpe:pf (l e)=f
    .rw[hc1 (l e) (r e) ⟨e,he,hH,hq,hpe,rfl,rfl⟩];simp
    .rw[beq_eq_false_iff_ne.2 hpe];simp
   .rw[beq_iff_eq.2 (hQ e he hq).2];simp
  .have hq:Q e=false:=by
    cases hq:Q e
    .rfl
    .rw[(hQ e he hq).1]at hH;cases hH
   have hl:=x.lay e he;rw[hH]at hl;have hne:pf (l e)≠pf (r e):=by simpa using hl.symm
   rw[hs,hq];by_cases a:pf (l e)=f
   .have b:pf (r e)≠f:=λh=>hne (a.trans h.symm);rw[beq_iff_eq.2 a,beq_eq_false_iff_ne.2 b,if_pos a];simp
   .rw[beq_eq_false_iff_ne.2 a,if_neg a];cases S (c (l e))<;>cases S (c (r e))<;>cases pf (r e)==f<;>rfl
 ·
  have hin:∀v,par B (λe=>(X e&&Q e)&&at_ g e v)=true->v∈fc f:=by
   intro v hv;by_cases hvh:∃k∈B,at_ g k v=true/\H k=true
   .obtain⟨k,hk,hkv,hkh⟩:=hvh;have:∃e∈B,Q e=true/\at_ g e v=true:=by
     refine Classical.byContradiction λhno=>?_;rw[ft λe he=>?_]at hv
     .cases hv
     .cases hq:Q e
      .simp
      .cases ha:at_ g e v
       .simp
       .exact absurd ⟨e,he,hq,ha⟩ hno
    obtain⟨e,he,hq,hev⟩:=this;obtain⟨hne,hpe⟩:=hQ e he hq;obtain⟨j,hj,hjv,hz⟩:=x.hangs p.nd d hb he hk hev hkv hne hkh;rw[hpe]at hz;exact yX p hj hz hjv
   .have hall:∀e∈B,at_ g e v=true->H e=false:=λe he ha=>by
     cases hh:H e
     .rfl
     .exact absurd ⟨e,he,ha,hh⟩ hvh
    have h0:=hX v;by_cases hq:∃k∈B,at_ g k v=true/\Q k=true
    .obtain⟨k,hk,hkv,hkq⟩:=hq;exfalso;have:par B (λe=>(X e&&Q e)&&at_ g e v)=par B (λe=>X e&&at_ g e v):=bH λe he=>by
      cases ha:at_ g e v
      .simp
      .rw[hcl v hall e he k hk ha hkv,hkq];simp
     rw[this,h0]at hv;cases hv
    .rw[ft λe he=>?_]at hv
     .cases hv
     .cases ha:at_ g e v
      .simp
      .cases hq':Q e
       .simp
       .exact absurd ⟨e,he,ha,hq'⟩ hq
  have hcc:=L.circ f hf;have hnd:(fc f).Nodup:=by
   revert hcc;cases fc f with
   |nil=>exact λh=>h.elim
   |cons y t=>exact λh=>h.2.1
  have hlt:∀v∈fc f,v<g.n:=λv hv=>by
   obtain⟨e,he,ha,_⟩:=cy_at p hcc hv;exact at_lt (p.lt e he) ha
  obtain⟨A,hA1,hA2⟩:=JB p hcc (D:=λv=>par B (λe=>(X e&&Q e)&&at_ g e v)) hin (FF p (X:=λe=>X e&&Q e) hnd hlt (λ_=>rfl) hin);have hW:Even g B (λe=>(X e&&Q e)^^A e):=λv=>by
   rw[bH (q:=λe=>((X e&&Q e)&&at_ g e v)^^(A e&&at_ g e v)) (λe _=>by
    dsimp only;cases X e&&Q e<;>cases A e<;>cases at_ g e v<;>rfl),eQ,hA2 v,qp]
  have hA0:∀e∈B,H e=false->A e=false:=λe he hh=>by
   cases ha:A e
   .rfl
   .have:=hA1 e he ha;rw[L.none e he hh f hf]at this;cases this
  obtain⟨S,hS⟩:=d.one _ hW;refine⟨S,λe he hq=>?_⟩;have hSc:=hc2 S (λa b ⟨k,hk,h1,h2,_,h4,h5⟩=>by
   have:=hS k hk;rw[h2,hA0 k hk h1,xn,et,h4,h5]at this;revert this;cases S a<;>cases S b<;>simp)
  have:=hS e he;rw[hq,hA0 e he (hQ e he hq).1,gY,dr]at this;rw[hSc,hSc,this]
theorem Fill.other{Z':Nat->Bool}{lq rq β β':Nat->Ψ}(h:Fill g B Z Q lq rq β)(hk:∀S:Ψ->Bool,Even g B (λe=>(Z e&&S (β e))^^(Z' e&&S (β' e)))):Fill g B Z' Q lq rq β' where
 two:=λS=>((h.two S).xor (hk S)).congr λe _=>by
  cases Q e&&(S (lq e)^^S (rq e))<;>cases Z e&&S (β e)<;>cases Z' e&&S (β' e)<;>rfl
 one:=h.one
open Classical in
theorem Fill.insert{E:Nat->Bool}{lq rq β:Nat->Ψ}{lq' rq' β':Nat->Ψ'}(h:Fill g B Z Q lq rq β)(h':Fill g B Z E lq' rq' β'){b:Ψ}{b':Ψ'}(hd:∀e∈B,Q e=true->E e=false)(hb:∀e∈B,Z e=true->A e=true->β e=b)(hb':∀e∈B,Z e=true->A e=false->β' e=b') :
 ∃lq2 rq2 β2:Nat->Ψ ⊕ Ψ',Fill g B Z (λe=>Q e||E e) lq2 rq2 β2/\∀e,A e=false->β2 e=.inl (β e):=by
 let em:Ψ'->Ψ ⊕ Ψ':=λy=>if y=b' then .inl b else .inr y
 refine⟨λe=>if Q e=true then .inl (lq e)else em (lq' e),λe=>if Q e=true then .inl (rq e)else em (rq' e),λe=>if A e=true then em (β' e)else .inl (β e),⟨λS=>?_,λX hX=>?_⟩,λe he=>by simp[he]⟩
 .refine((h.two (λy=>S (.inl y))).xor (h'.two (λy=>S (em y)^^S (.inl b)))).congr λe he=>?_;have hE:=hd e he;have h1:=hb e he;have h2:=hb' e he;have hem:em b'=.inl b:=by simp[em]
  cases hq:Q e
  .cases hz:Z e
   .cases hee:E e
    .simp
    .simp;cases S (em (lq' e))<;>cases S (em (rq' e))<;>cases S (.inl b)<;>rfl
   .cases ha:A e
    .rw[h2 hz ha,hem];cases hee:E e
     .simp
     .simp;cases S (em (lq' e))<;>cases S (em (rq' e))<;>cases S (.inl b)<;>cases S (.inl (β e))<;>rfl
    .rw[h1 hz ha];cases hee:E e
     .simp;cases S (em (β' e))<;>cases S (.inl b)<;>rfl
     .simp;cases S (em (lq' e))<;>cases S (em (rq' e))<;>cases S (.inl b)<;>cases S (em (β' e))<;>rfl
  .rw[hE hq];cases hz:Z e
   .simp
   .cases ha:A e
    .rw[h2 hz ha,hem];simp
    .rw[h1 hz ha];simp;cases S (.inl (lq e))<;>cases S (.inl (rq e))<;>cases S (.inl b)<;>cases S (em (β' e))<;>rfl
 .obtain⟨S,hS⟩:=h.one X hX;obtain⟨S',hS'⟩:=h'.one X hX;refine⟨λy=>match y with|.inl y=>S y|.inr y=>S' y^^(S' b'^^S b),λe he hq=>?_⟩;have hem:∀y,(match em y with|.inl y=>S y|.inr y=>S' y^^(S' b'^^S b))=(S' y^^(S' b'^^S b)):=λy=>by
   by_cases hy:y=b'
   .subst hy;simp[em]
   .simp[em,hy]
  cases hqe:Q e
  .have hee:E e=true:=by simpa[hqe]using hq
   simp only[bu,if_false];rw[hem,hem,hS' e he hee];cases S' (lq' e)<;>cases S' (rq' e)<;>cases S' b'<;>cases S b<;>rfl
  .simp only[if_true];exact hS e he hqe
open Go.Blk
variable {g:Gr}{B:List Nat}{H:Nat->Bool}{nf:Nat}{fc:Nat->List Nat}
theorem Rot.trans{e:List Nat}(h:Rot c d)(h2:Rot d e):Rot c e:=by
 obtain⟨a,b,rfl,rfl⟩:=h;obtain⟨x,y,h3,rfl⟩:=h2;rcases jM.1 h3 with⟨q,h5,h6⟩|⟨q,h5,h6⟩
 .exact⟨q,y++b,by rw[h6];simp,by rw[h5];simp⟩
 .exact⟨a++x,q,by rw[h5];simp,by rw[h6];simp⟩
theorem Rot.rfl':Rot c c:=⟨[],c,rfl,by simp⟩
theorem Av:cy g c.reverse e=cy g c e:=by
 cases c with
 |nil=>rfl
 |cons x t =>
   rw[lC,qa];show wk g (x::t.reverse++[x]) e=wk g (x::t++[x]) e;rw[show x::t.reverse++[x]=(x::t++[x]).reverse by simp,vu]
theorem wP(h:Cc g B c):Cc g B c.reverse:=by
 cases c with
 |nil=>exact h
 |cons x t =>
   rw[lC];refine oN (a:=[x]) (b:=t.reverse) ?_;show Cc g B (x::t.reverse);refine⟨?_,?_,?_⟩
   .rw[show x::t.reverse++[x]=(x::t++[x]).reverse by simp,wO];exact h.1
   .have:=h.2.1;simp only[aS,List.mem_reverse]at this |-;exact⟨this.1,(pE t).nodup_iff.2 this.2⟩
   .have:=h.2.2;simpa using this
theorem Lay.change(L:Lay g B H nf fc){fc2:Nat->List Nat}(h:∀f,f<nf->Cc g B (fc2 f)/\∀e,cy g (fc2 f) e=cy g (fc f) e):Lay g B H nf fc2 where
 circ:=λf hf=>(h f hf).1
 two:=λe he hH=>by
  obtain⟨a,b,h1,h2,h3,h4⟩:=L.two e he hH;exact⟨a,b,h1,h2,h3,λf hf=>by rw[(h f hf).2,h4 f hf]⟩
 none:=λe he hH f hf=>by rw[(h f hf).2,L.none e he hH f hf]
 span:=λX hX hs=>by
  obtain⟨T,hT⟩:=L.span X hX hs;exact⟨T,λe he=>by rw[hT e he];exact bH λf hf=>by rw[(h f (by simpa using hf)).2]⟩
 bond:=L.bond
theorem Cc.nodup(h:Cc g B c):c.Nodup:=by
 cases c with
 |nil=>exact h.elim
 |cons x t=>exact h.2.1
theorem nb(p:Pln g B)(L:Lay g B H nf fc)(hf:f<nf)(hf':f'<nf)(hne:f≠f'){s' t':List Nat}(hr:Rot (fc f) (x::s++y::t))(hr':Rot (fc f') (x::s'++y::t'))(hs:∀v∈s,v∉fc f'):(∀v∈s',v∉fc f)\/(∀v∈t',v∉fc f):=by
 by_cases h1:∀v∈s',v∉fc f
 .exact .inl h1
 refine .inr λw hw hwf=>h1 λu hu huf=>?_;have hnd':=(hr'.cc (L.circ f' hf')).nodup;have hnd:=(hr.cc (L.circ f hf)).nodup;obtain⟨s1,s2,rfl⟩:=bZ hu;obtain⟨t1,t2,rfl⟩:=bZ hw;have huf':u∈fc f':=hr'.mem.1 (by simp);have hwf':w∈fc f':=hr'.mem.1 (by simp);have hxf:x∈fc f:=hr.mem.1 (by simp);have hyf:y∈fc f:=hr.mem.1 (by simp);rw[show x::(s1++u::s2)++y::(t1++w::t2)=x::s1++u::s2++y::t1++w::t2 by simp]at hr' hnd';have d1:u≠w/\x≠u/\x≠w/\y≠u/\y≠w:=by
  simp only[aB,bD,aS,aJ,au,aw]at hnd';refine⟨?_,?_,?_,?_,?_⟩<;>intro h<;>subst h<;>simp_all
 obtain⟨d0,d2,d3,d4,d5⟩:=d1;have hu2:u∈t:=by
  have:=hr.mem.2 huf;simp only[aB,au,aw]at this;rcases this with h|h|h|h
  .exact absurd h.symm d2
  .exact absurd huf' (hs u h)
  .exact absurd h.symm d4
  .exact h
 have hw2:w∈t:=by
  have:=hr.mem.2 hwf;simp only[aB,au,aw]at this;rcases this with h|h|h|h
  .exact absurd h.symm d3
  .exact absurd hwf' (hs w h)
  .exact absurd h.symm d5
  .exact h
 obtain⟨a,q,rfl⟩:=bZ hu2;have hw3:w∈a\/w∈q:=by
  simp only[aw,au]at hw2;rcases hw2 with h|h|h
  .exact .inl h
  .exact absurd h.symm d0
  .exact .inr h
 have hxn:x∉s++y::(a++u::q):=by
  have:=hnd;rw[aB,aS]at this;exact this.1
 have hyn:y∉a++u::q:=by
  have:=hnd;exact(aS.1 (aJ.1 this).2.1).1
 rcases hw3 with hw3|hw3
 .obtain⟨a1,a2,rfl⟩:=bZ hw3;have hra:Rot (fc f) (w::a2++u::(q++x::s++y::a1)):=hr.trans ⟨x::s++y::a1,w::a2++u::q,by simp,by simp⟩;have hrb:Rot (fc f') (y::t1++w::t2++x::s1++u::s2):=hr'.trans ⟨x::s1++u::s2,y::t1++w::t2,by simp,by simp⟩;refine rS p L hf' hf (Ne.symm hne) hyf hxf hrb hra (λh=>hyn ?_) (λh=>hxn ?_)
  .simp only[aB,au,aw,aR,or_false]at h |-;rcases h with h|h|h<;>simp[h]
  .simp only[aB,au,aw,aR,or_false]at h |-;rcases h with h|h|h<;>simp[h]
 .obtain⟨q1,q2,rfl⟩:=bZ hw3;have hra:Rot (fc f) (u::q1++w::(q2++x::s++y::a)):=hr.trans ⟨x::s++y::a,u::q1++w::q2,by simp,by simp⟩;refine rS p L hf' hf (Ne.symm hne) hxf hyf hr' hra (λh=>hxn ?_) (λh=>hyn ?_)
  .simp only[aB,au,aw,aR,or_false]at h |-;rcases h with h|h|h<;>simp[h]
  .simp only[aB,au,aw,aR,or_false]at h |-;rcases h with h|h|h<;>simp[h]
abbrev Sg:=Nat×List Nat×List Nat
def fl1(R:List Sg):List Nat:=R.flatMap λq=>q.1::q.2.1
def fl2(R:List Sg):List Nat:=R.flatMap λq=>q.1::q.2.2
theorem sP{P:Nat->Prop}:∀{T:List Nat},(∃y∈T,P y)->∃s y t,T=s++y::t/\P y/\∀v∈s,¬P v
 |[],h=>by obtain⟨y,hy,_⟩:=h;simp at hy
 |a::T,h=>by
   by_cases ha:P a
   .exact⟨[],a,T,rfl,ha,by simp⟩
   .obtain⟨y,hy,hp⟩:=h;have:y∈T:=by
     rcases au.1 hy with rfl|h
     .exact absurd hp ha
     .exact h
    obtain⟨s,z,t,rfl,h1,h2⟩:=sP (T:=T) ⟨y,this,hp⟩;exact⟨a::s,z,t,rfl,h1,λv hv=>by
     rcases au.1 hv with rfl|h
     .exact ha
     .exact h2 v h⟩
theorem segs(p:Pln g B)(L:Lay g B H nf fc)(hf:f<nf)(hf':f'<nf)(hne:f≠f'):∀n (R:List Sg) (x:Nat) (T T':List Nat),T.length<=n->R≠[]->Rot (fc f) (fl1 R++x::T)->Rot (fc f') (fl2 R++x::T')->(∀q∈R,(∀v∈q.2.1,v∉fc f')/\∀v∈q.2.2,v∉fc f) ->
 ∃R2:List Sg,Rot (fc f) (fl1 R2)/\Rot (fc f') (fl2 R2)/\2<=R2.length/\∀q∈R2,(∀v∈q.2.1,v∉fc f')/\∀v∈q.2.2,v∉fc f:=by
 intro n;induction n with
 |zero=>?_
 |succ n ih=>?_
 all_goals
  intro R x T T' hn hR hr hr' hp;have hnd:=(hr.cc (L.circ f hf)).nodup;have hnd':=(hr'.cc (L.circ f' hf')).nodup;have one:∀v,v∈fl2 R->v∈fc f->v∈fl1 R:=λv hv hvf=>by
   simp only[fl2,fl1,dR]at hv |-;obtain⟨q,hq,hv⟩:=hv;rcases au.1 hv with rfl|h
   .exact⟨q,hq,by simp⟩
   .exact absurd hvf ((hp q hq).2 v h)
  have two:∀v,v∈fl1 R->v∈fc f'->v∈fl2 R:=λv hv hvf=>by
   simp only[fl2,fl1,dR]at hv |-;obtain⟨q,hq,hv⟩:=hv;rcases au.1 hv with rfl|h
   .exact⟨q,hq,by simp⟩
   .exact absurd hvf ((hp q hq).1 v h)
  have fin:(∀y∈T,y∉fc f')->∃R2:List Sg,Rot (fc f) (fl1 R2)/\Rot (fc f') (fl2 R2)/\2<=R2.length/\∀q∈R2,(∀v∈q.2.1,v∉fc f')/\∀v∈q.2.2,v∉fc f:=by
   intro hT;have hT':∀v∈T',v∉fc f:=λv hv hvf=>by
    have h1:=hr.mem.2 hvf;have h2:v∈fc f':=hr'.mem.1 (by simp[hv]);rw[aJ,aS]at hnd';rcases aw.1 h1 with h|h
    .exact hnd'.2.2 v (two v h h2) v (by simp[hv]) rfl
    .rcases au.1 h with rfl|h
     .exact hnd'.2.1.1 hv
     .exact hT v h h2
   refine⟨R++[(x,T,T')],by simpa[fl1]using hr,by simpa[fl2]using hr',?_,λq hq=>?_⟩
   .have:=jQ.2 hR;simp;omega
   .rcases aw.1 hq with h|h
    .exact hp q h
    .have:q=(x,T,T'):=by simpa using h
     subst this;exact⟨hT,hT'⟩
  by_cases hex:∃y∈T,y∈fc f'
  case neg=>exact fin λy hy h=>hex ⟨y,hy,h⟩
  obtain⟨s,y,T2,rfl,hy,hs⟩:=sP hex
 .simp at hn
 .have hyf:y∈fc f:=hr.mem.1 (by simp);have hyT:y∈T':=by
   rw[aJ]at hnd;have h1:=hr'.mem.2 hy;rcases aw.1 h1 with h|h
   .exact absurd rfl (hnd.2.2 y (one y h hyf) y (by simp))
   .rcases au.1 h with rfl|h
    .have:=(aS.1 hnd.2.1).1;simp at this
    .exact h
  obtain⟨s',T2',rfl⟩:=bZ hyT;have hra:Rot (fc f) (x::s++y::(T2++fl1 R)):=hr.trans ⟨fl1 R,x::(s++y::T2),rfl,by simp⟩;have hrb:Rot (fc f') (x::s'++y::(T2'++fl2 R)):=hr'.trans ⟨fl2 R,x::(s'++y::T2'),rfl,by simp⟩;have hs':∀v∈s',v∉fc f:=by
   rcases nb p L hf hf' hne hra hrb hs with h|h
   .exact h
   .obtain⟨q,R',rfl⟩:=eO hR;exact absurd (hr.mem.1 (show q.1∈fl1 (q::R')++x::(s++y::T2) by simp[fl1])) (h q.1 (by simp[fl2]))
  refine ih (R++[(x,s,s')]) y T2 T2' (by simp at hn;omega) (by simp) (by simpa[fl1]using hr) (by simpa[fl2]using hr') λq hq=>?_;rcases aw.1 hq with h|h
  .exact hp q h
  .have:q=(x,s,s'):=by simpa using h
   subst this;exact⟨hs,hs'⟩
theorem IV(p:Pln g B)(L:Lay g B H nf fc)(hf:f<nf)(hf':f'<nf)(hne:f≠f')(hx:x∈fc f)(hx':x∈fc f')(hy:y∈fc f)(hy':y∈fc f')(hxy:x≠y) :
 ∃R:List Sg,2<=R.length/\Cc g B (fl1 R)/\Cc g B (fl2 R)/\(∀e,cy g (fl1 R) e=cy g (fc f) e)/\(∀e,cy g (fl2 R) e=cy g (fc f') e)/\(∀v,v∈fl1 R↔v∈fc f)/\(∀v,v∈fl2 R↔v∈fc f')/\∀q∈R,(∀v∈q.2.1,v∉fc f')/\∀v∈q.2.2,v∉fc f:=by
 obtain⟨T,hr⟩:=vF hx;have hyT:y∈T:=by
  have:=hr.mem.2 hy;simpa[Ne.symm hxy]using this
 obtain⟨s,z,T2,rfl,hz,hs⟩:=sP (P:=λv=>v∈fc f') ⟨y,hyT,hy'⟩;have hzf:z∈fc f:=hr.mem.1 (by simp);have hxz:x≠z:=by
  have:=(hr.cc (L.circ f hf)).nodup;intro h;subst h;simp at this
 obtain⟨s',T2',hr'⟩:=Bm hx' hz hxz;rcases nb p L hf hf' hne hr hr' hs with h|h
 .obtain⟨R,h1,h2,h3,h4⟩:=segs p L hf hf' hne T2.length [(x,s,s')] z T2 T2' (ab _) (by simp) (by simpa[fl1]using hr) (by simpa[fl2]using hr') (λq hq=>by
   have:q=(x,s,s'):=by simpa using hq
   subst this;exact⟨hs,h⟩)
  exact⟨R,h3,h1.cc (L.circ f hf),h2.cc (L.circ f' hf'),λe=>h1.cy e,λe=>h2.cy e,λv=>h1.mem,λv=>h2.mem,h4⟩
 ·
  let fc2:Nat->List Nat:=λh=>if h=f' then(fc f').reverse else fc h
  have e1:fc2 f=fc f:=by simp[fc2,hne]
  have e2:fc2 f'=(fc f').reverse:=by simp[fc2]
  have L2:Lay g B H nf fc2:=L.change λh hh=>by
   by_cases q:h=f'
   .subst q;rw[e2];exact⟨wP (L.circ h hh),λe=>Av⟩
   .have e3:fc2 h=fc h:=by simp[fc2,q]
    rw[e3];exact⟨L.circ h hh,λ_=>rfl⟩
  have hr2:Rot (fc f').reverse (x::T2'.reverse++z::s'.reverse):=by
   obtain⟨a,b,h1,h2⟩:=hr';have:Rot (fc f').reverse (x::s'++z::T2').reverse:=⟨b.reverse,a.reverse,by rw[h1];simp,by rw[h2];simp⟩
   exact this.trans ⟨T2'.reverse++z::s'.reverse,[x],by simp,by simp⟩
  obtain⟨R,h1,h2,h3,h4⟩:=segs p L2 hf hf' hne T2.length [(x,s,T2'.reverse)] z T2 s'.reverse (ab _) (by simp) (by rw[e1];simpa[fl1]using hr) (by rw[e2];simpa[fl2]using hr2) (λq hq=>by
   have:q=(x,s,T2'.reverse):=by simpa using hq
   subst this;rw[e1,e2];exact⟨λv hv=>by simpa using hs v hv,λv hv=>h v (by simpa using hv)⟩)
  rw[e1]at h1;rw[e2]at h2;refine⟨R,h3,h1.cc (L.circ f hf),h2.cc (wP (L.circ f' hf')),λe=>h1.cy e,λe=>(h2.cy e).trans Av,λv=>h1.mem,λv=>h2.mem.trans (by simp),λq hq=>?_⟩;obtain⟨a,b⟩:=h4 q hq;rw[e1]at b;rw[e2]at a;exact⟨λv hv=>by simpa using a v hv,b⟩
end Go.Pla
