/- What is laid, with its faces -/
import Derived.Test.YtpeemonpdlifbaaVTAH
set_option linter.all false
namespace Go.Pla
open Go.Blk
variable {g:Gr}{B:List Nat}
theorem Jp (p:Pln g B) {e u w:Nat}{t:List Nat} (he:e∈B) (h:wk g (u::t++[w]) e=true) (ht:t≠[]):∃ v∈t,at_ g e v=true:=by
 obtain⟨s,a,b,q,h1,hj⟩:=lr h
 have ha:at_ g e a=true:=by rw[p.jat he hj]; simp [Ne.symm (p.jne he hj)]
 have hb:at_ g e b=true:=by rw[p.jat he hj]; simp [p.jne he hj]
 cases s with
 | nil =>
   cases t with
   | nil=>exact absurd rfl ht
   | cons z t =>
     simp only[bp,aI] at h1
     injection h1 with _ h1
     injection h1 with h1 _
     exact⟨z,by simp,h1▸hb⟩
 | cons z s =>
   simp only[aI] at h1
   injection h1 with _ h1
   refine⟨a,?_,ha⟩
   have:(s++a::b::q).dropLast=t:=by rw[← h1]; simp
   rw[← this]
   rw[show s++a::b::q=(s++[a])++(b::q) by simp,eK (by simp)]
   simp
theorem jX (p:Pln g B) {u w e:Nat}{t1 t2:List Nat} (hc:Cc g B (u::t1++w::t2)) (he:e∈B) (h:wk g (u::t1++[w]) e=true):cy g (u::t1++w::t2) e=true:=by
 obtain⟨_,hn,hl⟩:=hc
 change (u::(t1++w::t2)).Nodup at hn
 show wk g (u::(t1++w::t2)++[u]) e=true
 rw[show u::(t1++w::t2)++[u]=(u::t1)++w::(t2++[u]) by simp,gG]
 rw[h]
 have:wk g (w::(t2++[u])) e=false:=by
  by_cases ht:t1=[]
  ·cases h2:wk g (w::(t2++[u])) e
   ·rfl
   subst ht
   have ht2:t2≠[]:=by
    intro h3; subst h3; simp at hl
   obtain⟨v,hv,hev⟩:=Jp p (u:=w) (t:=t2) (w:=u) he h2 ht2
   have:=wG p he h hev
   simp only[aZ,bp] at hn
   simp only[aI,bp,aw,bz,or_false] at this
   rcases this with rfl|rfl
   ·exact absurd (bt _ hv) hn.1
   ·exact absurd hv hn.2.1
  ·obtain⟨v,hv,hev⟩:=Jp p he h ht
   refine jL p he hev ?_
   intro hm
   simp only[aw,ar,bz,or_false] at hm
   rw[aZ,aS] at hn
   rcases hm with rfl|hm|rfl
   ·exact hn.2.2.2 _ hv _ (by simp) rfl
   ·exact hn.2.2.2 _ hv _ (bt _ hm) rfl
   ·exact hn.1 (by simp [hv])
 rw[this]; rfl
def Rot (c d:List Nat):Prop:=∃ a b,c=a++b∧d=b++a
theorem Rot.cy {c d:List Nat} (h:Rot c d) (e:Nat):cy g d e=cy g c e:=by
 obtain⟨a,b,rfl,rfl⟩:=h; exact py
theorem Rot.cc {c d:List Nat} (h:Rot c d) (hc:Cc g B c):Cc g B d:=by
 obtain⟨a,b,rfl,rfl⟩:=h; exact nN hc
theorem Rot.mem {c d:List Nat} (h:Rot c d) {x:Nat}:x∈d↔x∈c:=by
 obtain⟨a,b,rfl,rfl⟩:=h; simp [or_comm]
theorem uW {c:List Nat}{x:Nat} (h:x∈c):∃ t,Rot c (x::t):=by
 obtain⟨a,b,rfl⟩:=bT h
 exact⟨b++a,a,x::b,rfl,rfl⟩
theorem Aq {c:List Nat}{x y:Nat} (hx:x∈c) (hy:y∈c) (hne:x≠y):∃ s t,Rot c (x::s++y::t):=by
 obtain⟨t,h⟩:=uW hx
 have:y∈t:=by
  have:=h.mem.2 hy
  simpa [Ne.symm hne] using this
 obtain⟨s,t',rfl⟩:=bT this
 exact⟨s,t',h⟩
theorem cy_first (p:Pln g B) {x y e:Nat}{s:List Nat} (hc:Cc g B (x::y::s)) (he:e∈B) (hj:jn g e x y=true):cy g (x::y::s) e=true:=by
 have:=jX p (u:=x) (t1:=[]) (w:=y) (t2:=s) hc he (by simp [wk,hj])
 exact this
theorem cy_at (p:Pln g B) {c:List Nat} (hc:Cc g B c) {x:Nat} (hx:x∈c):∃ e∈B,at_ g e x=true∧cy g c e=true:=by
 obtain⟨t,h⟩:=uW hx
 have hcc:=h.cc hc
 cases t with
 | nil=>have:=hcc.2.2; simp at this
 | cons y s =>
   obtain⟨⟨e,he,hj⟩,_⟩:=hcc.1
   exact⟨e,he,by rw[p.jat he hj]; simp [Ne.symm (p.jne he hj)],by rw[← h.cy,cy_first p hcc he hj]⟩
theorem ye (p:Pln g B) {c:List Nat}{x e:Nat} (he:e∈B) (h:cy g c e=true) (hx:at_ g e x=true):x∈c:=by
 cases c with
 | nil=>simp [cy] at h
 | cons y t =>
   have:=wG p he h hx
   simp only[aI,aw,ar,bz,or_false] at this
   rcases this with rfl|h|rfl<;>simp [*]
structure Lay (g:Gr) (B:List Nat) (H:Nat→Bool) (nf:Nat) (fc:Nat→List Nat):Prop where
 circ:∀ f,f<nf→Cc g B (fc f)
 two:∀ e∈B,H e=true→∃ a b,a<nf∧b<nf∧a≠b∧∀ f,f<nf→cy g (fc f) e=((f==a)||(f==b))
 none:∀ e∈B,H e=false→∀ f,f<nf→cy g (fc f) e=false
 span:∀ X,Even g B X→(∀ e∈B,X e=true→H e=true)→∃ T:Nat→Bool,∀ e∈B,X e=par (List.range nf) (λf=>T f&&cy g (fc f) e)
 bond:∀ v e k,e∈B→k∈B→H e=true→H k=true→at_ g e v=true→at_ g k v=true→e≠k→∃ X,Even g B X∧(∀ j∈B,X j=true→H j=true)∧∀ j∈B,H j=true→at_ g j v=true→X j=((j==e)||(j==k))
variable {H:Nat→Bool}{nf:Nat}{fc:Nat→List Nat}
theorem par_two {a b:Nat} (ha:a<nf) (hb:b<nf) (hne:a≠b) (T:Nat→Bool):par (List.range nf) (λf=>T f&&((f==a)||(f==b)))=(T a ^^ T b):=by
 rw[par_congr (q:=λf=>((f==a)&&T f) ^^ ((f==b)&&T f)) (λf _=>by
  by_cases h:f=a
  ·subst h; rw[beq_eq_false_iff_ne.2 hne]; simp
  ·rw[beq_eq_false_iff_ne.2 h]; cases T f<;>cases f==b<;>rfl),dD,dp bq (by simpa using ha),dp bq (by simpa using hb)]
theorem Lay.orth (L:Lay g B H nf fc) {K X:Nat→Bool} (hK:∀ f,f<nf→par B (λe=>K e&&cy g (fc f) e)=false) (hX:Even g B X) (hs:∀ e∈B,X e=true→H e=true):par B (λe=>K e&&X e)=false:=by
 obtain⟨T,hT⟩:=L.span X hX hs
 rw[par_congr (q:=λe=>par (List.range nf) (λf=>T f&&(K e&&cy g (fc f) e))) (λe he=>by
  rw[hT e he,← fY]
  exact par_congr λf _=>by cases K e<;>cases T f<;>rfl),io]
 exact eN λf hf=>by
  rw[fY,hK f (by simpa using hf)]; simp
theorem Lay.hcy (L:Lay g B H nf fc) {f e:Nat} (hf:f<nf) (he:e∈B) (h:cy g (fc f) e=true):H e=true:=by
 cases hh:H e
 ·rw[L.none e he hh f hf] at h; cases h
 ·rfl
def Rch (g:Gr) (B:List Nat) (H:Nat→Bool) (nf:Nat) (fc:Nat→List Nat) (x f o h:Nat):Prop :=
 ∃ α:Nat→Bool,(∀ e∈B,α e=true→H e=true∧at_ g e x=true)∧(∀ e∈B,α e=true→o<nf→cy g (fc o) e=false)∧∀ k,k<nf→par B (λe=>α e&&cy g (fc k) e)=((k==f) ^^ (k==h))
theorem wZ (p:Pln g B) (L:Lay g B H nf fc) {x f o h h2 e:Nat} (hr:Rch g B H nf fc x f o h) (hh:h<nf) (hh2:h2<nf) (hne:h≠h2) (ho:o≠h) (ho2:o≠h2) (he:e∈B) (hex:at_ g e x=true) (h1:cy g (fc h) e=true) (h3:cy g (fc h2) e=true):Rch g B H nf fc x f o h2:=by
 obtain⟨α,a,b,c⟩:=hr
 have heH:=L.hcy hh he h1
 obtain⟨u,w,hu,hw,huw,hq⟩:=L.two e he heH
 rw[hq h hh] at h1
 rw[hq h2 hh2] at h3
 simp only[cD,beq_iff_eq] at h1 h3
 have hq':∀ k,k<nf→cy g (fc k) e=((k==h) ^^ (k==h2)):=λk hk=>by
  rw[hq k hk]
  have:(u=h∧w=h2)∨(u=h2∧w=h):=om
  rcases this with ⟨rfl,rfl⟩|⟨rfl,rfl⟩
  ·by_cases q:k=u
   ·subst q; simp [huw]
   ·rw[beq_eq_false_iff_ne.2 q]; cases k==w<;>rfl
  ·by_cases q:k=u
   ·subst q; simp [huw]
   ·rw[beq_eq_false_iff_ne.2 q]; cases k==w<;>rfl
 refine⟨λj=>α j ^^ (j==e),λj hj hα=>?_,λj hj hα hon=>?_,λk hk=>?_⟩<;>dsimp only at *
 ·by_cases hje:j=e
  ·subst hje; exact⟨heH,hex⟩
  ·rw[beq_eq_false_iff_ne.2 hje,di] at hα; exact a j hj hα
 ·by_cases hje:j=e
  ·subst hje; rw[hq' o hon,beq_eq_false_iff_ne.2 ho,beq_eq_false_iff_ne.2 ho2]; rfl
  ·rw[beq_eq_false_iff_ne.2 hje,di] at hα; exact b j hj hα hon
 ·rw[par_congr (q:=λj=>(α j&&cy g (fc k) j) ^^ ((j==e)&&cy g (fc k) j)) (λj _=>by
   cases α j<;>cases j==e<;>cases cy g (fc k) j<;>rfl),dD,c k hk,dp p.nd he,hq' k hk]
  cases k==f<;>cases k==h<;>cases k==h2<;>rfl
open Classical in
theorem JB (p:Pln g B) (L:Lay g B H nf fc) {x f f' o:Nat} (hf:f<nf) (hf':f'<nf) (hne:f≠f') (ho:o≠f) (ho':o≠f') (hx:x∈fc f) (hx':x∈fc f'):Rch g B H nf fc x f o f':=by
 refine Classical.byContradiction λhno=>?_
 have r0:Rch g B H nf fc x f o f:=⟨λ_=>false,λ_ _ h=>(by cases h),λ_ _ h=>(by cases h),λk _=>(eN λ_ _=>rfl).trans (by simp)⟩
 obtain⟨Y,hY⟩:∃ Y:Nat→Bool,∀ e,Y e=true↔at_ g e x=true∧∃ h,h<nf∧h≠o∧Rch g B H nf fc x f o h∧cy g (fc h) e=true :=
  ⟨λe=>decide (at_ g e x=true∧∃ h,h<nf∧h≠o∧Rch g B H nf fc x f o h∧cy g (fc h) e=true),λe=>by simp⟩
 have main:∀ k,k<nf→k≠o→par B (λe=>Y e&&cy g (fc k) e)=false:=by
  intro k hk hko
  by_cases hr:Rch g B H nf fc x f o k
  ·rw[← iw p (L.circ k hk) x]
   refine par_congr λe he=>?_
   by_cases hc:cy g (fc k) e=true
   ·by_cases ha:at_ g e x=true
    ·rw[hc,ha,(hY e).2 ⟨ha,k,hk,hko,hr,hc⟩]
    ·have:Y e=false:=by
      cases hy:Y e
      ·rfl
      ·exact absurd ((hY e).1 hy).1 ha
     have ha':at_ g e x=false:=by simpa using ha
     rw[this,ha',hc]; rfl
   ·have:cy g (fc k) e=false:=by simpa using hc
    rw[this]; simp
  ·refine eN λe he=>?_
   cases hy:Y e
   ·rfl
   cases hc:cy g (fc k) e
   ·rfl
   obtain⟨ha,h,hh,hho,hr',hc'⟩:=(hY e).1 hy
   exact absurd (wZ p L hr' hh hk (λq=>hr (q▸hr')) (Ne.symm hho) (Ne.symm hko) he ha hc' hc) hr
 have mainO:∀ k,k<nf→par B (λe=>Y e&&cy g (fc k) e)=false:=by
  intro k hk
  by_cases hko:k=o
  ·subst hko
   have h1:par (List.range nf) (λh=>par B (λe=>Y e&&cy g (fc h) e))=false:=by
    rw[io]
    refine eN λe he=>?_
    rw[fY]
    have:par (List.range nf) (λh=>cy g (fc h) e)=false:=by
     cases hH:H e
     ·exact eN λh hh=>L.none e he hH h (by simpa using hh)
     ·obtain⟨u,w,hu,hw,huw,hq⟩:=L.two e he hH
      rw[par_congr (q:=λh=>true&&((h==u)||(h==w))) (λh hh=>by rw[hq h (by simpa using hh)]; rfl),par_two hu hw huw]; rfl
    rw[this]; simp
   rw[par_congr (q:=λh=>(h==k)&&par B (λe=>Y e&&cy g (fc h) e)) (λh hh=>by
    by_cases hk':h=k
    ·subst hk'; simp
    ·rw[main h (by simpa using hh) hk']; simp),dp bq (by simpa using hk)] at h1
   exact h1
  ·exact main k hk hko
 obtain⟨e,he,hex,hce⟩:=cy_at p (L.circ f hf) hx
 obtain⟨k,hk,hkx,hck⟩:=cy_at p (L.circ f' hf') hx'
 have hYe:Y e=true:=(hY e).2 ⟨hex,f,hf,Ne.symm ho,r0,hce⟩
 have hYk:Y k=true:=by
  by_cases hek:e=k
  ·rw[← hek]; exact hYe
  obtain⟨X,hX,hXH,hXj⟩:=L.bond x e k he hk (L.hcy hf he hce) (L.hcy hf' hk hck) hex hkx hek
  have h1:=L.orth mainO hX hXH
  rw[par_congr (q:=λj=>((j==e)&&Y j) ^^ ((j==k)&&Y j)) (λj hj=>by
   cases hy:Y j
   ·simp
   obtain⟨ha,h,hh,_,_,hc⟩:=(hY j).1 hy
   rw[hXj j hj (L.hcy hh hj hc) ha]
   by_cases q:j=e
   ·subst q; simp [hek]
   ·rw[beq_eq_false_iff_ne.2 q]; cases j==k<;>rfl),dD,dp p.nd he,dp p.nd hk,hYe] at h1
  simpa using h1
 obtain⟨_,h,hh,hho,hr,hc⟩:=(hY k).1 hYk
 by_cases q:h=f'
 ·exact hno (q▸hr)
 ·exact hno (wZ p L hr hh hf' q (Ne.symm hho) ho' hk hkx hc hck)
theorem GI {A C K:Nat→Bool}:par B (λe=>K e&&(A e ^^ C e))=(par B (λe=>K e&&A e) ^^ par B (λe=>K e&&C e)):=by
 rw[← dD]
 exact par_congr λe _=>by cases K e<;>cases A e<;>cases C e<;>rfl
theorem qD {A C K:Nat→Bool}:par B (λe=>(A e ^^ C e)&&K e)=(par B (λe=>A e&&K e) ^^ par B (λe=>C e&&K e)):=by
 rw[← dD]
 exact par_congr λe _=>by cases K e<;>cases A e<;>cases C e<;>rfl
theorem yn (p:Pln g B) {u w v:Nat}{t:List Nat} (h:Ch g B (u::t++[w])):par B (λe=>wk g (u::t++[w]) e&&at_ g e v)=((u==v) ^^ (w==v)):=by
 have:=qY p (v:=v) (x:=u) (t:=t++[w]) h
 rw[vz] at this
 exact this
theorem uL (p:Pln g B) {u w:Nat}{t s:List Nat} (h:Ch g B (u::t++[w])) (h':Ch g B (u::s++[w])):Even g B (λe=>wk g (u::t++[w]) e ^^ wk g (u::s++[w]) e):=λv=>by
 rw[par_congr (q:=λe=>(wk g (u::t++[w]) e&&at_ g e v) ^^ (wk g (u::s++[w]) e&&at_ g e v)) (λe _=>by
  dsimp only
  cases wk g (u::t++[w]) e<;>cases wk g (u::s++[w]) e<;>cases at_ g e v<;>rfl),dD,yn p h,yn p h',pG]
theorem Cc.arc {u w:Nat}{t1 t2:List Nat} (hc:Cc g B (u::t1++w::t2)):Ch g B (u::t1++[w]):=by
 have h:=hc.1
 change Ch g B (u::(t1++w::t2)++[u]) at h
 rw[show u::(t1++w::t2)++[u]=(u::t1)++w::(t2++[u]) by simp,gJ] at h
 exact h.1
theorem Jz (p:Pln g B) (L:Lay g B H nf fc) {f f' o x y u w:Nat} (hf:f<nf) (hf':f'<nf) (hne:f≠f') (ho:o≠f) (ho':o≠f') (hx:x∈fc f') (hy:y∈fc f') {s1 s2 s3 s4:List Nat} (hr:Rot (fc f) (x::s1++u::s2++y::s3++w::s4)) {C:List Nat} (hC:Ch g B (u::C++[w])) (hCH:∀ e∈B,wk g (u::C++[w]) e=true→H e=true)
 (hav:∀ e∈B,(at_ g e x=true∨at_ g e y=true)→wk g (u::C++[w]) e=true→o<nf∧cy g (fc o) e=true):False:=by
 have hcc:=hr.cc (L.circ f hf)
 have hnd:(x::s1++u::s2++y::s3++w::s4).Nodup:=hcc.2.1
 have hr':Rot (fc f) (u::(s2++y::s3)++w::(s4++x::s1)):=by
  obtain⟨a,b,h1,h2⟩:=hr
  have:Rot (x::s1++u::s2++y::s3++w::s4) (u::(s2++y::s3)++w::(s4++x::s1)):=⟨x::s1,u::s2++y::s3++w::s4,by simp,by simp⟩
  obtain⟨c,d,h3,h4⟩:=this
  rw[h2] at h3
  rcases List.append_eq_append_iff.1 h3 with ⟨q,h5,h6⟩|⟨q,h5,h6⟩
  ·exact⟨q,d++b,by rw[h1,h6]; simp [h5,h6]<;>skip,by rw[h4,h5]; simp⟩
  ·exact⟨a++c,q,by rw[h1,h5]; simp,by rw[h4,h6]; simp⟩
 have hcc':=hr'.cc (L.circ f hf)
 have hxf:x∈fc f:=hr.mem.1 (by simp)
 have hyf:y∈fc f:=hr.mem.1 (by simp)
 obtain⟨α,a1,a2,a3⟩:=JB p L hf hf' hne ho ho' hxf hx
 obtain⟨β,b1,b2,b3⟩:=JB p L hf hf' hne ho ho' hyf hy
 have hA:=hcc'.arc
 have hev:=uL p hA hC
 have hsub:∀ e∈B,(wk g (u::(s2++y::s3)++[w]) e ^^ wk g (u::C++[w]) e)=true→H e=true:=by
  intro e he h
  by_cases q:wk g (u::C++[w]) e=true
  ·exact hCH e he q
  ·have q':wk g (u::C++[w]) e=false:=by simpa using q
   rw[q',di] at h
   exact L.hcy hf he (by rw[← hr'.cy]; exact jX p hcc' he h)
 have h0:=L.orth (K:=λe=>α e ^^ β e) (λk hk=>by
  rw[qD,a3 k hk,b3 k hk,pG]) hev hsub
 have hxn:x∉u::(s2++y::s3)++[w]:=by
  intro hm
  rw[show x::s1++u::s2++y::s3++w::s4=(x::s1)++((u::(s2++y::s3)++[w])++s4) by simp,aS] at hnd
  exact hnd.2.2 x (by simp) x (bD _ hm) rfl
 have c1:par B (λe=>α e&&wk g (u::(s2++y::s3)++[w]) e)=false:=eN λe he=>by
  cases h:α e
  ·rfl
  ·rw[jL p he (a1 e he h).2 hxn]; rfl
 have c2:par B (λe=>α e&&wk g (u::C++[w]) e)=false:=eN λe he=>by
  cases h:α e
  ·rfl
  cases h':wk g (u::C++[w]) e
  ·rfl
  obtain⟨q1,q2⟩:=hav e he (.inl (a1 e he h).2) h'
  rw[a2 e he h q1] at q2; cases q2
 have c3:par B (λe=>β e&&wk g (u::C++[w]) e)=false:=eN λe he=>by
  cases h:β e
  ·rfl
  cases h':wk g (u::C++[w]) e
  ·rfl
  obtain⟨q1,q2⟩:=hav e he (.inr (b1 e he h).2) h'
  rw[b2 e he h q1] at q2; cases q2
 have c4:par B (λe=>β e&&wk g (u::(s2++y::s3)++[w]) e)=true:=by
  have h1:=b3 f hf
  rw[beq_self_eq_true,beq_eq_false_iff_ne.2 hne] at h1
  rw[← show _=true from h1]
  refine par_congr λe he=>?_
  cases h:β e
  ·rfl
  have hey:=(b1 e he h).2
  rw[← hr'.cy]
  show (true&&_)=(true&&wk g (u::((s2++y::s3)++w::(s4++x::s1))++[u]) e)
  rw[show u::((s2++y::s3)++w::(s4++x::s1))++[u]=(u::(s2++y::s3))++w::(s4++x::s1++[u]) by simp,gG (b:=s4++x::s1++[u]),jL (a:=w::(s4++x::s1++[u])) p he hey,di]
  intro hm
  have hp:(y::(u::s2++s3++w::s4++x::s1)).Nodup:=by
   refine (List.Perm.nodup (l:=x::s1++u::s2++y::s3++w::s4) ?_ hnd)
   have e1:x::s1++u::s2++y::s3++w::s4=(x::s1++u::s2)++y::(s3++w::s4):=by simp
   rw[e1]
   refine List.perm_middle.trans (List.Perm.cons _ ?_)
   have e2:u::s2++s3++w::s4++x::s1=(u::s2++(s3++w::s4))++x::s1:=by simp
   rw[e2]
   refine List.Perm.trans ?_ sU
   simp
  rw[aZ] at hp
  apply hp.1
  simp only[aw,ar,bz,or_false,aI,bQ] at hm ⊢
  rcases hm with h|h|h|h|h<;>simp [h]
 rw[par_congr (q:=λe=>(α e ^^ β e)&&(wk g (u::(s2++y::s3)++[w]) e ^^ wk g (u::C++[w]) e)) (λ_ _=>rfl),GI,qD,qD,c1,c2,c3,c4] at h0
 cases h0
theorem ER (p:Pln g B) (L:Lay g B H nf fc) {f f' o x y u w:Nat} (hf:f<nf) (hf':f'<nf) (ho:o<nf) (hne:f≠f') (hof:o≠f) (hof':o≠f') (hx:x∈fc f') (hy:y∈fc f') (hu:u∈fc o) (hw:w∈fc o) {s1 s2 s3 s4:List Nat} (hr:Rot (fc f) (x::s1++u::s2++y::s3++w::s4)):False:=by
 have hnd:(x::s1++u::s2++y::s3++w::s4).Nodup:=(hr.cc (L.circ f hf)).2.1
 have huw:u≠w:=by
  intro h; subst h
  rw[show x::s1++u::s2++y::s3++u::s4=(x::s1)++((u::s2++y::s3)++u::s4) by simp,aS,aS] at hnd
  exact hnd.2.1.2.2 u (by simp) u (by simp) rfl
 obtain⟨t1,t2,hr2⟩:=Aq hu hw huw
 have hcc2:=hr2.cc (L.circ o ho)
 have hin:∀ e∈B,wk g (u::t1++[w]) e=true→cy g (fc o) e=true:=λe he h=>by
  rw[← hr2.cy]; exact jX p hcc2 he h
 exact Jz p L hf hf' hne hof hof' hx hy hr hcc2.arc (λe he h=>L.hcy ho he (hin e he h)) (λe he _ h=>⟨ho,hin e he h⟩)
theorem qO (p:Pln g B) (L:Lay g B H nf fc) {f f' x y u w:Nat} (hf:f<nf) (hf':f'<nf) (hne:f≠f') (hx:x∈fc f') (hy:y∈fc f') {s1 s2 s3 s4:List Nat} (hr:Rot (fc f) (x::s1++u::s2++y::s3++w::s4)) {t1 t2:List Nat} (hr':Rot (fc f') (u::t1++w::t2)) (hx1:x∉u::t1++[w]) (hy1:y∉u::t1++[w]):False:=by
 have hcc2:=hr'.cc (L.circ f' hf')
 refine Jz p L (o:=nf) hf hf' hne om om hx hy hr hcc2.arc (λe he h=>L.hcy hf' he (by rw[← hr'.cy]; exact jX p hcc2 he h)) (λe he ha h=>?_)
 rcases ha with ha|ha
 ·rw[jL p he ha hx1] at h; cases h
 ·rw[jL p he ha hy1] at h; cases h
open Go.Blk
variable {g:Gr}{B:List Nat}{H:Nat→Bool}{nf:Nat}{fc:Nat→List Nat}{Φ Ψ Ψ':Type}
structure Fill (g:Gr) (B:List Nat) (Z Q:Nat→Bool) (lq rq β:Nat→Ψ):Prop where
 two:∀ S:Ψ→Bool,Even g B (λe=>(Q e&&(S (lq e) ^^ S (rq e))) ^^ (Z e&&S (β e)))
 one:∀ X,Even g B X→∃ S:Ψ→Bool,∀ e∈B,Q e=true→X e=(S (lq e) ^^ S (rq e))
theorem Gv (p:Pln g B) (L:Lay g B H nf fc) {a:Nat→Nat} (ha:∀ e∈B,H e=false→a e<nf) {Ps:Nat→Type}{lq rq β:∀ h,Nat→Ps h} (hF:∀ h,h<nf→Fill g B (cy g (fc h)) (λe=>!(H e)&&(a e==h)) (lq h) (rq h) (β h)) :
 ∃ l r:Nat→Sigma Ps,Dual g B l r∧Ext g B l r H nf (λf=>cy g (fc f)) Sigma.fst∧∀ e∈B,H e=false→(l e).1=a e∧(r e).1=a e:=by
 have hch:∀ e,∃ q:Nat×Nat,e∈B→H e=true→q.1<nf∧q.2<nf∧q.1≠q.2∧∀ f,f<nf→cy g (fc f) e=((f==q.1)||(f==q.2)):=λe=>by
  by_cases h:e∈B∧H e=true
  ·obtain⟨a,b,c⟩:=L.two e h.1 h.2
   exact⟨(a,b),λ_ _=>c⟩
  ·exact⟨(0,0),λh1 h2=>absurd ⟨h1,h2⟩ h⟩
 obtain⟨q,hq⟩:∃ q:Nat→Nat×Nat,∀ e,e∈B→H e=true→(q e).1<nf∧(q e).2<nf∧(q e).1≠(q e).2∧∀ f,f<nf→cy g (fc f) e=((f==(q e).1)||(f==(q e).2)):=⟨λe=>Classical.choose (hch e),λe=>Classical.choose_spec (hch e)⟩
 have side:∀ S:∀ h,Ps h→Bool,∀ e∈B,par (List.range nf) (λh=>((!(H e)&&(a e==h))&&(S h (lq h e) ^^ S h (rq h e))) ^^ (cy g (fc h) e&&S h (β h e)))=if H e=true then S (q e).1 (β (q e).1 e) ^^ S (q e).2 (β (q e).2 e) else S (a e) (lq (a e) e) ^^ S (a e) (rq (a e) e):=by
  intro S e he
  cases hH:H e
  ·rw[par_congr (q:=λh=>(h==a e)&&(S h (lq h e) ^^ S h (rq h e))) (λh hh=>by
    rw[L.none e he hH h (by simpa using hh),fA]; simp),dp bq (by simpa using ha e he hH)]
   simp
  ·obtain⟨h1,h2,h3,h4⟩:=hq e he hH
   rw[par_congr (q:=λh=>S h (β h e)&&((h==(q e).1)||(h==(q e).2))) (λh hh=>by
    rw[h4 h (by simpa using hh)]; simp [Bool.and_comm]),par_two h1 h2 h3]
   simp
 refine⟨λe=>if H e=true then ⟨(q e).1,β (q e).1 e⟩ else ⟨a e,lq (a e) e⟩,λe=>if H e=true then ⟨(q e).2,β (q e).2 e⟩ else ⟨a e,rq (a e) e⟩,⟨λS=>?_,λX hX=>?_⟩,⟨λf hf e he=>?_,λe he=>?_,λe he=>?_⟩,λe he hH=>?_⟩
 ·refine (Even.sum (l:=List.range nf) (X:=λh e=>((!(H e)&&(a e==h))&&(S ⟨h,lq h e⟩ ^^ S ⟨h,rq h e⟩)) ^^ (cy g (fc h) e&&S ⟨h,β h e⟩)) λh hh=>(hF h (by simpa using hh)).two (fun ψ=>S ⟨h,ψ⟩)).congr λe he=>?_
  rw[side (λh ψ=>S ⟨h,ψ⟩) e he]
  cases hH:H e<;>simp
 ·have hS:∀ h,∃ S:Ps h→Bool,h<nf→∀ e∈B,(!(H e)&&(a e==h))=true→X e=(S (lq h e) ^^ S (rq h e)):=λh=>by
   by_cases hh:h<nf
   ·obtain⟨S,hS⟩:=(hF h hh).one X hX
    exact⟨S,λ_=>hS⟩
   ·exact⟨λ_=>false,λh'=>absurd h' hh⟩
  obtain⟨S,hS⟩:∃ S:∀ h,Ps h→Bool,∀ h,h<nf→∀ e∈B,(!(H e)&&(a e==h))=true→X e=(S h (lq h e) ^^ S h (rq h e)):=⟨λh=>Classical.choose (hS h),λh=>Classical.choose_spec (hS h)⟩
  have hsum:=Even.sum (l:=List.range nf) (X:=λh e=>((!(H e)&&(a e==h))&&(S h (lq h e) ^^ S h (rq h e))) ^^ (cy g (fc h) e&&S h (β h e))) λh hh=>(hF h (by simpa using hh)).two (S h)
  obtain⟨T,hT⟩:=L.span _ (hX.xor hsum) (λe he h=>by
   cases hH:H e
   ·rw[side S e he,hH] at h
    rw[hS (a e) (ha e he hH) e he (by simp [hH])] at h
    simp at h
   ·rfl)
  refine⟨λx=>S x.1 x.2 ^^ T x.1,λe he=>?_⟩
  have h1:=hT e he
  rw[side S e he] at h1
  cases hH:H e
  ·have:=hS (a e) (ha e he hH) e he (by simp [hH])
   change X e=((S (a e) (lq (a e) e) ^^ T (a e)) ^^ (S (a e) (rq (a e) e) ^^ T (a e)))
   rw[this]
   cases S (a e) (lq (a e) e)<;>cases S (a e) (rq (a e) e)<;>cases T (a e)<;>rfl
  ·obtain⟨h2,h3,h4,h5⟩:=hq e he hH
   rw[par_congr (q:=λh=>T h&&((h==(q e).1)||(h==(q e).2))) (λh hh=>by rw[h5 h (by simpa using hh)]),par_two h2 h3 h4,hH] at h1
   simp only[if_true] at h1
   change X e=((S (q e).1 (β (q e).1 e) ^^ T (q e).1) ^^ (S (q e).2 (β (q e).2 e) ^^ T (q e).2))
   revert h1
   cases X e<;>cases S (q e).1 (β (q e).1 e)<;>cases S (q e).2 (β (q e).2 e)<;>cases T (q e).1<;>cases T (q e).2<;>simp
 ·cases hH:H e
  ·rw[L.none e he hH f hf]; simp
  ·obtain⟨h1,h2,h3,h4⟩:=hq e he hH
   rw[h4 f hf]
   simp only[if_true]
   by_cases h:f=(q e).1
   ·subst h; rw[beq_self_eq_true,beq_eq_false_iff_ne.2 (Ne.symm h3)]; rfl
   ·rw[beq_eq_false_iff_ne.2 h,beq_eq_false_iff_ne.2 (Ne.symm h),gw,er,fA]
 ·cases hH:H e
  ·simp only[bB,if_false]; exact⟨ha e he hH,ha e he hH⟩
  ·simp only[if_true]; exact⟨(hq e he hH).1,(hq e he hH).2.1⟩
 ·cases hH:H e
  ·simp
  ·simp only[if_true]; exact (bne_iff_ne.2 (hq e he hH).2.2.1).symm
 ·simp [hH]
def jo (g:Gr) (D:Nat→Bool):Bool→List Nat→Nat→Bool
 | _,[],_=>false
 | _,[_],_=>false
 | b,x::y::t,e=>((b ^^ D x)&&jn g e x y) ^^ jo g D (b ^^ D x) (y::t) e
theorem Ke (p:Pln g B) {x y v:Nat} (h:∃ e∈B,jn g e x y=true):par B (λe=>jn g e x y&&at_ g e v)=((x==v) ^^ (y==v)):=by
 have:=qY p (v:=v) (x:=x) (t:=[y]) ⟨h,trivial⟩
 simpa [wk,lst] using this
theorem EE (p:Pln g B) {D:Nat→Bool}{v:Nat}:∀ {x:Nat}{t:List Nat}{b:Bool},Ch g B (x::t)→par B (λe=>jo g D b (x::t) e&&at_ g e v)=((b&&(x==v)) ^^ (par (x::t) (λu=>(u==v)&&D u) ^^ ((b ^^ par (x::t) D)&&(lst x t==v))))
 | x,[],b,_=>by
   rw[eN λ_ _=>by simp [jo]]
   simp only[par,lst]
   cases b<;>cases x==v<;>cases D x<;>rfl
 | x,y::t,b,h=>by
   have ih:=EE p (v:=v) (D:=D) (b:=b ^^ D x) h.2
   rw[par_congr (q:=λe=>((b ^^ D x)&&(jn g e x y&&at_ g e v)) ^^ (jo g D (b ^^ D x) (y::t) e&&at_ g e v)) (λe _=>by
    simp only[jo]
    cases b ^^ D x<;>cases jn g e x y<;>cases jo g D _ (y::t) e<;>cases at_ g e v<;>rfl),dD,ih,fY,Ke p h.1]
   simp only[par,lst]
   cases b<;>cases D x<;>cases x==v<;>cases y==v<;>cases D y<;>cases par t (λu=>(u==v)&&D u)<;>cases par t D<;>cases lst y t==v<;>rfl
theorem Fi {D:Nat→Bool}{e:Nat}:∀ {a:List Nat}{b:Bool},jo g D b a e=true→∃ p x y q,a=p++x::y::q∧jn g e x y=true
 | [],_,h=>by simp [jo] at h
 | [_],_,h=>by simp [jo] at h
 | x::y::t,b,h=>by
   by_cases hj:jn g e x y=true
   ·exact⟨[],x,y,t,rfl,hj⟩
   ·have hj':jn g e x y=false:=by simpa using hj
    rw[jo,hj',fk,er] at h
    obtain⟨p,a,b,q,h1,h2⟩:=Fi h
    exact⟨x::p,a,b,q,by rw[h1]; rfl,h2⟩
theorem Az {D:Nat→Bool}{v:Nat}{c:List Nat} (nd:c.Nodup) (h:D v=true→v∈c):par c (λu=>(u==v)&&D u)=D v:=by
 by_cases hv:v∈c
 ·exact dp nd hv
 ·rw[ED hv]
  cases hd:D v
  ·rfl
  ·exact absurd (h hd) hv
theorem Ik (p:Pln g B) {c:List Nat} (hc:Cc g B c) {D:Nat→Bool} (hD:∀ v,D v=true→v∈c) (hp:par c D=false):∃ A:Nat→Bool,(∀ e∈B,A e=true→cy g c e=true)∧∀ v,par B (λe=>A e&&at_ g e v)=D v:=by
 cases c with
 | nil=>exact hc.elim
 | cons x t =>
   have hch:Ch g B (x::t):=by
    have h:=hc.1
    rcases cN (x::t) with h'|⟨s,z,h'⟩
    ·cases h'
    ·rw[dl] at h'
     rw[h'] at h ⊢
     rw[bQ] at h
     exact (gJ.1 h).1
   refine⟨jo g D false (x::t),λe he h=>?_,λv=>?_⟩
   ·obtain⟨s,a,b,q,h1,hj⟩:=Fi h
    rw[h1] at hc ⊢
    rw[py]
    exact cy_first p (nN hc) he hj
   ·rw[EE p hch,hp,Az hc.2.1 (hD v)]
    simp
theorem at_lt {e v:Nat} (he:e<g.m) (h:at_ g e v=true):v<g.n:=by
 have:=g.ok e he
 unfold at_ at h
 by_cases a:g.tl e=v
 ·omega
 ·by_cases b:g.hd e=v
  ·omega
  ·rw[beq_eq_false_iff_ne.2 a,beq_eq_false_iff_ne.2 b] at h; cases h
theorem JP {e:Nat} (he:e<g.m):par (List.range g.n) (λv=>at_ g e v)=false:=by
 have:=g.ok e he
 rw[par_congr (q:=λv=>((v==g.tl e)&&true) ^^ ((v==g.hd e)&&true)) (λv _=>by
  unfold at_; rw[eu,eu,fA (a:=v),fA (a:=v)]),dD,dp bq (by simpa using this.1),dp bq (by simpa using this.2.1)]
 rfl
theorem EO (p:Pln g B) {X D:Nat→Bool}{c:List Nat} (nd:c.Nodup) (hc:∀ v∈c,v<g.n) (hD:∀ v,D v=par B (λe=>X e&&at_ g e v)) (hin:∀ v,D v=true→v∈c):par c D=false:=by
 have h1:par (List.range g.n) D=false:=by
  rw[par_congr λv _=>hD v,io]
  exact eN λe he=>by rw[fY,JP (p.lt e he)]; simp
 rw[par_congr (q:=λv=>par c (λu=>(u==v)&&D u)) (λv _=>(Az nd (hin v)).symm),io] at h1
 rw[← h1]
 refine par_congr λu hu=>?_
 rw[par_congr (q:=λv=>(v==u)&&D u) (λv _=>by rw[fA]),dp (p:=λ_=>D u) bq (by simpa using hc u hu)]
open Classical in
theorem qq (R:Φ→Φ→Prop):∃ c:Φ→Φ,(∀ a b,R a b→c a=c b)∧∀ {α:Type} (S:Φ→α),(∀ a b,R a b→S a=S b)→∀ a,S (c a)=S a:=by
 refine⟨λa=>Classical.choose (Quot.exists_rep (Quot.mk R a)),λa b h=>?_,λS hS a=>?_⟩
 ·dsimp only
  rw[Quot.sound h]
 ·have:=Classical.choose_spec (Quot.exists_rep (Quot.mk R a))
  have h2:=congrArg (Quot.lift S hS) this
  exact h2
theorem zT (p:Pln g B) {l r:Nat→Φ}{pf:Φ→Nat} (d:Dual g B l r) (hb:Bond g B) (L:Lay g B H nf fc) (x:Ext g B l r H nf (λf=>cy g (fc f)) pf) {f:Nat} (hf:f<nf) {Q:Nat→Bool} (hQ:∀ e∈B,Q e=true→H e=false∧pf (l e)=f) (hcl:∀ v,(∀ e∈B,at_ g e v=true→H e=false)→∀ e∈B,∀ k∈B,at_ g e v=true→at_ g k v=true→Q e=Q k) :
 ∃ lq rq β:Nat→Φ,Fill g B (cy g (fc f)) Q lq rq β:=by
 obtain⟨c,hc1,hc2⟩:=qq (λa b:Φ=>∃ e∈B,H e=false∧Q e=false∧pf (l e)=f∧l e=a∧r e=b)
 have hpf:∀ e∈B,H e=false→pf (r e)=pf (l e):=λe he h=>by
  have:=x.lay e he
  rw[h] at this
  exact (by simpa using this.symm:pf (l e)=pf (r e)).symm
 refine⟨λe=>c (l e),λe=>c (r e),λe=>c (if pf (l e)=f then l e else r e),⟨λS=>?_,λX hX=>?_⟩⟩
 ·refine (d.two (λa=>S (c a)&&pf a==f)).congr λe he=>?_
  have hs:=x.side f hf e he
  cases hH:H e
  ·rw[L.none e he hH f hf,hpf e he hH]
   cases hq:Q e
   ·by_cases hpe:pf (l e)=f
    ·rw[hc1 (l e) (r e) ⟨e,he,hH,hq,hpe,rfl,rfl⟩]; simp
    ·rw[beq_eq_false_iff_ne.2 hpe]; simp
   ·rw[beq_iff_eq.2 (hQ e he hq).2]; simp
  ·have hq:Q e=false:=by
    cases hq:Q e
    ·rfl
    ·rw[(hQ e he hq).1] at hH; cases hH
   have hl:=x.lay e he
   rw[hH] at hl
   have hne:pf (l e)≠pf (r e):=by simpa using hl.symm
   rw[hs,hq]
   by_cases a:pf (l e)=f
   ·have b:pf (r e)≠f:=λh=>hne (a.trans h.symm)
    rw[beq_iff_eq.2 a,beq_eq_false_iff_ne.2 b,if_pos a]; simp
   ·rw[beq_eq_false_iff_ne.2 a,if_neg a]
    cases S (c (l e))<;>cases S (c (r e))<;>cases pf (r e)==f<;>rfl
 ·
  have hin:∀ v,par B (λe=>(X e&&Q e)&&at_ g e v)=true→v∈fc f:=by
   intro v hv
   by_cases hvh:∃ k∈B,at_ g k v=true∧H k=true
   ·obtain⟨k,hk,hkv,hkh⟩:=hvh
    have:∃ e∈B,Q e=true∧at_ g e v=true:=by
     refine Classical.byContradiction λhno=>?_
     rw[eN λe he=>?_] at hv
     ·cases hv
     ·cases hq:Q e
      ·simp
      ·cases ha:at_ g e v
       ·simp
       ·exact absurd ⟨e,he,hq,ha⟩ hno
    obtain⟨e,he,hq,hev⟩:=this
    obtain⟨hne,hpe⟩:=hQ e he hq
    obtain⟨j,hj,hjv,hz⟩:=x.hangs p.nd d hb he hk hev hkv hne hkh
    rw[hpe] at hz
    exact ye p hj hz hjv
   ·have hall:∀ e∈B,at_ g e v=true→H e=false:=λe he ha=>by
     cases hh:H e
     ·rfl
     ·exact absurd ⟨e,he,ha,hh⟩ hvh
    have h0:=hX v
    by_cases hq:∃ k∈B,at_ g k v=true∧Q k=true
    ·obtain⟨k,hk,hkv,hkq⟩:=hq
     exfalso
     have:par B (λe=>(X e&&Q e)&&at_ g e v)=par B (λe=>X e&&at_ g e v):=par_congr λe he=>by
      cases ha:at_ g e v
      ·simp
      ·rw[hcl v hall e he k hk ha hkv,hkq]; simp
     rw[this,h0] at hv
     cases hv
    ·rw[eN λe he=>?_] at hv
     ·cases hv
     ·cases ha:at_ g e v
      ·simp
      ·cases hq':Q e
       ·simp
       ·exact absurd ⟨e,he,ha,hq'⟩ hq
  have hcc:=L.circ f hf
  have hnd:(fc f).Nodup:=by
   revert hcc
   cases fc f with
   | nil=>exact λh=>h.elim
   | cons y t=>exact λh=>h.2.1
  have hlt:∀ v∈fc f,v<g.n:=λv hv=>by
   obtain⟨e,he,ha,_⟩:=cy_at p hcc hv
   exact at_lt (p.lt e he) ha
  obtain⟨A,hA1,hA2⟩:=Ik p hcc (D:=λv=>par B (λe=>(X e&&Q e)&&at_ g e v)) hin (EO p (X:=λe=>X e&&Q e) hnd hlt (λ_=>rfl) hin)
  have hW:Even g B (λe=>(X e&&Q e) ^^ A e):=λv=>by
   rw[par_congr (q:=λe=>((X e&&Q e)&&at_ g e v) ^^ (A e&&at_ g e v)) (λe _=>by
    dsimp only
    cases X e&&Q e<;>cases A e<;>cases at_ g e v<;>rfl),dD,hA2 v,pG]
  have hA0:∀ e∈B,H e=false→A e=false:=λe he hh=>by
   cases ha:A e
   ·rfl
   ·have:=hA1 e he ha
    rw[L.none e he hh f hf] at this
    cases this
  obtain⟨S,hS⟩:=d.one _ hW
  refine⟨S,λe he hq=>?_⟩
  have hSc:=hc2 S (λa b ⟨k,hk,h1,h2,_,h4,h5⟩=>by
   have:=hS k hk
   rw[h2,hA0 k hk h1,fk,er,h4,h5] at this
   revert this
   cases S a<;>cases S b<;>simp)
  have:=hS e he
  rw[hq,hA0 e he (hQ e he hq).1,eu,di] at this
  rw[hSc,hSc,this]
theorem Fill.other {Z Z' Q:Nat→Bool}{lq rq β β':Nat→Ψ} (h:Fill g B Z Q lq rq β) (hk:∀ S:Ψ→Bool,Even g B (λe=>(Z e&&S (β e)) ^^ (Z' e&&S (β' e)))):Fill g B Z' Q lq rq β' where
 two:=λS=>((h.two S).xor (hk S)).congr λe _=>by
  cases Q e&&(S (lq e) ^^ S (rq e))<;>cases Z e&&S (β e)<;>cases Z' e&&S (β' e)<;>rfl
 one:=h.one
open Classical in
theorem Fill.insert {Z Q E A:Nat→Bool}{lq rq β:Nat→Ψ}{lq' rq' β':Nat→Ψ'} (h:Fill g B Z Q lq rq β) (h':Fill g B Z E lq' rq' β') {b:Ψ}{b':Ψ'} (hd:∀ e∈B,Q e=true→E e=false) (hb:∀ e∈B,Z e=true→A e=true→β e=b) (hb':∀ e∈B,Z e=true→A e=false→β' e=b') :
 ∃ lq2 rq2 β2:Nat→Ψ ⊕ Ψ',Fill g B Z (λe=>Q e||E e) lq2 rq2 β2∧∀ e,A e=false→β2 e=.inl (β e):=by
 let em:Ψ'→Ψ ⊕ Ψ':=λy=>if y=b' then .inl b else .inr y
 refine⟨λe=>if Q e=true then .inl (lq e) else em (lq' e),λe=>if Q e=true then .inl (rq e) else em (rq' e),λe=>if A e=true then em (β' e) else .inl (β e),⟨λS=>?_,λX hX=>?_⟩,λe he=>by simp [he]⟩
 ·refine ((h.two (λy=>S (.inl y))).xor (h'.two (λy=>S (em y) ^^ S (.inl b)))).congr λe he=>?_
  have hE:=hd e he
  have h1:=hb e he
  have h2:=hb' e he
  have hem:em b'=.inl b:=by simp [em]
  cases hq:Q e
  ·cases hz:Z e
   ·cases hee:E e
    ·simp
    ·simp
     cases S (em (lq' e))<;>cases S (em (rq' e))<;>cases S (.inl b)<;>rfl
   ·cases ha:A e
    ·rw[h2 hz ha,hem]
     cases hee:E e
     ·simp
     ·simp
      cases S (em (lq' e))<;>cases S (em (rq' e))<;>cases S (.inl b)<;>cases S (.inl (β e))<;>rfl
    ·rw[h1 hz ha]
     cases hee:E e
     ·simp
      cases S (em (β' e))<;>cases S (.inl b)<;>rfl
     ·simp
      cases S (em (lq' e))<;>cases S (em (rq' e))<;>cases S (.inl b)<;>cases S (em (β' e))<;>rfl
  ·rw[hE hq]
   cases hz:Z e
   ·simp
   ·cases ha:A e
    ·rw[h2 hz ha,hem]; simp
    ·rw[h1 hz ha]; simp
     cases S (.inl (lq e))<;>cases S (.inl (rq e))<;>cases S (.inl b)<;>cases S (em (β' e))<;>rfl
 ·obtain⟨S,hS⟩:=h.one X hX
  obtain⟨S',hS'⟩:=h'.one X hX
  refine⟨λy=>match y with|.inl y=>S y|.inr y=>S' y ^^ (S' b' ^^ S b),λe he hq=>?_⟩
  have hem:∀ y,(match em y with|.inl y=>S y|.inr y=>S' y ^^ (S' b' ^^ S b))=(S' y ^^ (S' b' ^^ S b)):=λy=>by
   by_cases hy:y=b'
   ·subst hy
    simp [em]
   ·simp [em,hy]
  cases hqe:Q e
  ·have hee:E e=true:=by simpa [hqe] using hq
   simp only[bB,if_false]
   rw[hem,hem,hS' e he hee]
   cases S' (lq' e)<;>cases S' (rq' e)<;>cases S' b'<;>cases S b<;>rfl
  ·simp only[if_true]
   exact hS e he hqe
end Go.Pla
