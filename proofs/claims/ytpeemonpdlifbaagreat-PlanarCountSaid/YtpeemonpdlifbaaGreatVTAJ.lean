/- Laying a circle, and one more way through a face -/
import Derived.Test.YtpeemonpdlifbaaGreatVTAI
set_option linter.all false
namespace Go.Pla
open Go.Blk
variable {g:Gr}{B:List Nat}{H:Nat→Bool}{nf:Nat}{fc:Nat→List Nat}{Φ:Type}{l r:Nat→Φ}{pf:Φ→Nat}
theorem zN (p:Pln g B) {c:List Nat} (hc:Cc g B c) {v e:Nat} (he:e∈B) (hev:at_ g e v=true) (hce:cy g c e=true):∃ a∈B,a≠e∧at_ g a v=true∧cy g c a=true∧∀ j∈B,at_ g j v=true→cy g c j=true→j=e∨j=a:=by
 obtain⟨t,hr⟩:=vE (yy p he hce hev)
 have hcc:=hr.cc hc
 match t,hr,hcc with
 | [],_,hcc=>have:=hcc.2.2; simp at this
 | [_],_,hcc=>have:=hcc.2.2; simp at this
 | z::q::s',hr,hcc =>
   obtain⟨s,x,hs⟩:∃ s x,q::s'=s++[x]:=by
    rcases cJ (q::s') with h|⟨s,x,h⟩
    ·cases h
    ·exact⟨s,x,by rw[← dj]; exact h⟩
   rw[hs] at hr hcc
   have hn:=hcc.2.1
   have cyj:∀ j∈B,at_ g j v=true→cy g c j=true→jn g j v z=true∨jn g j x v=true:=by
    intro j hj hjv h
    rw[← hr.cy] at h
    change wk g (v::z::(s++[x])++[v]) j=true at h
    rw[show v::z::(s++[x])++[v]=v::z::(s++[x,v]) by simp,wk,show z::(s++[x,v])=(z::s)++x::[v] by simp,gF] at h
    have n3:wk g (z::s++[x]) j=false:=jI p hj hjv (by
     simp only[aW] at hn
     simpa using hn.1)
    rw[n3] at h
    simp only[wk,dJ,cI] at h
    by_cases a:jn g j v z=true
    ·exact .inl a
    ·have a':jn g j v z=false:=by simpa using a
     rw[a',dJ] at h
     exact .inr h
   obtain⟨⟨e1,he1,hj1⟩,_⟩:=hcc.1
   have hlast:∃ e2∈B,jn g e2 x v=true:=by
    have h1:=hcc.1
    change Ch g B (v::z::(s++[x])++[v]) at h1
    rw[show v::z::(s++[x])++[v]=(v::z::s)++x::[v] by simp,gI] at h1
    exact h1.2.1
   obtain⟨e2,he2,hj2⟩:=hlast
   have hxz:x≠z:=by
    intro h; subst h
    simp [aW] at hn
   have h12:e1≠e2:=by
    intro h; subst h
    have:=p.ne he1
    rcases jn_iff.1 hj1 with ⟨a,b⟩|⟨a,b⟩<;>rcases jn_iff.1 hj2 with ⟨c,d⟩|⟨c,d⟩<;>omega
   have c1:cy g c e1=true:=by rw[← hr.cy]; exact cy_first p hcc he1 hj1
   have c2:cy g c e2=true:=by
    rw[← hr.cy,← (show Rot (v::z::(s++[x])) (x::v::z::s) from ⟨v::z::s,[x],by simp,by simp⟩).cy]
    exact cy_first p ((show Rot (v::z::(s++[x])) (x::v::z::s) from ⟨v::z::s,[x],by simp,by simp⟩).cc hcc) he2 hj2
   have a1:at_ g e1 v=true:=by rw[p.jat he1 hj1]; simp [Ne.symm (p.jne he1 hj1)]
   have a2:at_ g e2 v=true:=by rw[p.jat he2 hj2]; simp [p.jne he2 hj2]
   have all:∀ j∈B,at_ g j v=true→cy g c j=true→j=e1∨j=e2:=λj hj hjv h=>by
    rcases cyj j hj hjv h with h|h
    ·exact .inl (p.one j hj e1 he1 _ _ h hj1)
    ·exact .inr (p.one j hj e2 he2 _ _ h hj2)
   rcases all e he hev hce with rfl|rfl
   ·exact⟨e2,he2,Ne.symm h12,a2,c2,all⟩
   ·exact⟨e1,he1,h12,a1,c1,λj hj hjv h=>(all j hj hjv h).symm⟩
def Nx (c:List Nat) (x y:Nat):Prop:=∃ t,Rot c (x::y::t)
def Ori (g:Gr) (B:List Nat) (H:Nat→Bool) (nf:Nat) (fc:Nat→List Nat):Prop:=∀ e∈B,H e=true→∀ x y,jn g e x y=true→∃ f,f<nf∧Nx (fc f) x y
theorem Nx.rot {c d:List Nat} (h:Rot c d) {x y:Nat} (hn:Nx d x y):Nx c x y:=by
 obtain⟨t,ht⟩:=hn; exact⟨t,h.trans ht⟩
theorem nx_in {c:List Nat}{x y:Nat}{a b:List Nat} (h:c=a++x::y::b):Nx c x y:=⟨b++a,a,x::y::b,h,by simp⟩
theorem Rot.symm {c d:List Nat} (h:Rot c d):Rot d c:=by
 obtain⟨a,b,h1,h2⟩:=h; exact⟨b,a,h2,h1⟩
theorem nM {c:List Nat}{x y z:Nat}{s:List Nat} (hc:c=z::s):Nx c x y↔∃ a b,(z::s)++[z]=a++x::y::b∧2≤c.length:=by
 subst hc
 constructor
 ·rintro⟨t,a,b,h1,h2⟩
  have hl:2≤(z::s).length:=by
   have q1:(z::s).length=a.length+b.length:=by rw[h1,aI]
   have q2:(x::y::t).length=b.length+a.length:=by rw[h2,aI]
   simp only[aw] at q1 q2 ⊢; omega
  match b,h1,h2 with
  | [],h1,h2=>simp at h1 h2; rw[← h2] at h1; injection h1 with h3 h4; subst h3 h4; exact⟨[],t++[z],rfl,hl⟩
  | [u],h1,h2 =>
    simp at h2
    obtain⟨rfl,rfl⟩:=h2
    rw[aE] at h1
    injection h1 with h3 h4
    subst h3 h4
    exact⟨z::t,[],by simp,hl⟩
  | u::v::b,h1,h2 =>
    simp at h2
    obtain⟨rfl,rfl,h3⟩:=h2
    exact⟨a,b++[z],by rw[h1]; simp,hl⟩
 ·rintro⟨a,b,h,hl⟩
  rcases cJ b with rfl|⟨b,q,rfl⟩
  ·have h2:(z::s)++[z]=(a++[x])++[y]:=by rw[h]; simp
   obtain⟨h3,h4⟩:=dH h2 rfl
   injection h4 with h4
   subst h4
   cases a with
   | nil =>
     have:=congrArg List.length h3
     simp only[aw,aI,aP] at this hl; omega
   | cons v a =>
     rw[aE] at h3
     injection h3 with h5 h6
     subst h5
     exact⟨a,z::a,[x],by rw[h6]; rfl,by simp⟩
  ·rw[dj] at h
   have h2:(z::s)++[z]=(a++x::y::b)++[q]:=by rw[h]; simp
   obtain⟨h3,_⟩:=dH h2 rfl
   exact nx_in h3
theorem FH (p:Pln g B) {w:List Nat} (hc:Cc g B w):Lay g B (cy g w) 2 (λf=>if f=0 then w else w.reverse)∧Ori g B (cy g w) 2 (λf=>if f=0 then w else w.reverse)∧∀ {Φ:Type}{l r:Nat→Φ},Dual g B l r→∃ pf:Φ→Nat,Ext g B l r (cy g w) 2 (λf=>cy g (if f=0 then w else w.reverse)) pf:=by
 have hcy:∀ f e,cy g (if f=0 then w else w.reverse) e=cy g w e:=λf e=>by
  split
  ·rfl
  ·exact zO
 refine⟨⟨λf _=>?_,λe he h=>⟨0,1,om,om,om,λf hf=>?_⟩,λe he h f _=>?_,λX hX hs=>?_,λv e k he hk hH hK hev hkv hne=>?_⟩,λe he h x y hj=>?_,fun {Φ l r} d=>?_⟩
 ·split
  ·exact hc
  ·exact wD hc
 ·rw[hcy,h]
  have:f=0∨f=1:=om
  rcases this with rfl|rfl<;>rfl
 ·rw[hcy,h]
 ·rcases (Bt p hc).2 X hX hs with h|h
  ·exact⟨λ_=>false,λe he=>by rw[h e he]; exact (dW λ_ _=>rfl).symm⟩
  ·refine⟨λf=>f==0,λe he=>?_⟩
   rw[cY aQ (by simp),h e he]
   simp
 ·refine⟨cy g w,iC p hc,λ_ _ h=>h,λj hj hjH hjv=>?_⟩
  obtain⟨a,ha,hae,hav,hac,hall⟩:=zN p hc he hev hH
  have hka:k=a:=(hall k hk hkv hK).resolve_left (Ne.symm hne)
  subst hka
  rw[hjH]
  rcases hall j hj hjv hjH with rfl|rfl<;>simp
 ·cases w with
  | nil=>exact hc.elim
  | cons z s =>
    have key:On g (z::s++[z]) e:=nF h
    obtain⟨a,u,v,b,h1,h2⟩:=key
    have hl:2≤(z::s).length:=by have:=hc.2.2; omega
    have n1:Nx (z::s) u v:=(nM rfl).2 ⟨a,b,h1,hl⟩
    have n2:Nx (z::s).reverse v u:=by
     obtain⟨t,c,d,h3,h4⟩:=n1
     rw[h3]
     have e1:Rot (c++d).reverse (d++c).reverse:=⟨d.reverse,c.reverse,by simp,by simp⟩
     rw[← h4] at e1
     exact⟨t.reverse,e1.trans ⟨t.reverse,[v,u],by simp,by simp⟩⟩
    have hq:(x=u∧y=v)∨(x=v∧y=u):=by
     rcases jn_iff.1 hj with ⟨a1,a2⟩|⟨a1,a2⟩<;>rcases jn_iff.1 h2 with ⟨b1,b2⟩|⟨b1,b2⟩<;>omega
    rcases hq with ⟨rfl,rfl⟩|⟨rfl,rfl⟩
    ·exact⟨0,om,by simpa using n1⟩
    ·exact⟨1,om,by simpa using n2⟩
 ·obtain⟨S,hS⟩:=d.one _ (iC p hc)
  refine⟨λa=>if S a=true then 0 else 1,λf hf e he=>?_,λe he=>?_,λe he=>?_⟩
  ·rw[hcy,hS e he]
   have:f=0∨f=1:=om
   rcases this with rfl|rfl<;>cases S (l e)<;>cases S (r e)<;>rfl
  ·constructor<;>split<;>omega
  ·rw[hS e he]
   cases S (l e)<;>cases S (r e)<;>rfl
open Go.Blk
variable {g:Gr}{B:List Nat}{H:Nat→Bool}{nf:Nat}{fc:Nat→List Nat}{Φ:Type}{l r:Nat→Φ}{pf:Φ→Nat}
theorem Ori.change {fc2:Nat→List Nat} (o:Ori g B H nf fc) (h:∀ f,f<nf→Rot (fc f) (fc2 f)):Ori g B H nf fc2:=λe he hH x y hj=>by
 obtain⟨f,hf,hn⟩:=o e he hH x y hj
 exact⟨f,hf,hn.rot (h f hf).symm⟩
theorem yO (p:Pln g B) {e x y:Nat}{a b:List Nat} (nd:(a++x::y::b).Nodup) (he:e∈B) (hj:jn g e x y=true):wk g (a++x::y::b) e=true:=by
 have hx:at_ g e x=true:=by rw[p.jat he hj]; simp [Ne.symm (p.jne he hj)]
 have hy:at_ g e y=true:=by rw[p.jat he hj]; simp [p.jne he hj]
 have n1:y∉a++[x]:=by
  intro hm
  rw[aN] at nd
  rcases aC.1 hm with h|h
  ·exact nd.2.2 y h y (by simp) rfl
  ·have:y=x:=by simpa using h
   exact p.jne he hj this.symm
 have n2:x∉y::b:=by
  rw[aN,aW] at nd
  exact nd.2.1.1
 rw[gF,jI p he hy n1,wk,hj,jI p he hx n2]; rfl
theorem DV (p:Pln g B) {x:Nat}{t:List Nat} (nd:(x::t).Nodup) {e k:Nat} (he:e∈B) (hk:k∈B) (h:wk g (x::t) e=true) (h':wk g (x::t) k=true) (hx:at_ g e x=true) (hx':at_ g k x=true):e=k:=by
 have key:∀ e∈B,wk g (x::t) e=true→at_ g e x=true→∃ y s,t=y::s∧jn g e x y=true:=by
  intro e he h hx
  obtain⟨a,u,v,b,h1,hj⟩:=ll h
  cases a with
  | nil =>
    simp only[bj] at h1
    injection h1 with h2 h3
    subst h2
    exact⟨v,b,h3,hj⟩
  | cons z a =>
    exfalso
    rw[aE] at h1
    injection h1 with h2 h3
    subst h2
    rw[aW] at nd
    have:x=u∨x=v:=by
     rw[p.jat he hj] at hx
     by_cases a:u=x
     ·exact .inl a.symm
     ·by_cases b:v=x
      ·exact .inr b.symm
      ·rw[beq_eq_false_iff_ne.2 a,beq_eq_false_iff_ne.2 b] at hx; cases hx
    apply nd.1
    rw[h3]
    rcases this with rfl|rfl<;>simp
 obtain⟨y,s,h1,h2⟩:=key e he h hx
 obtain⟨y',s',h3,h4⟩:=key k hk h' hx'
 rw[h1] at h3
 injection h3 with h5 _
 subst h5
 exact p.one e he k hk _ _ h2 h4
def cut (fc:Nat→List Nat) (f nf x y:Nat) (s i t:List Nat):Nat→List Nat:=λk=>if k=f then x::s++y::i.reverse else if k=nf then y::t++x::i else fc k
structure Way (g:Gr) (B:List Nat) (H:Nat→Bool) (fc:Nat→List Nat) (f x y:Nat) (s i t:List Nat):Prop where
 face:fc f=x::s++y::t
 ch:Ch g B (x::i++[y])
 nd:(x::i++[y]).Nodup
 fresh:∀ v∈i,∀ e∈B,at_ g e v=true→H e=false
 new:∀ e∈B,wk g (x::i++[y]) e=true→H e=false
variable {f x y:Nat}{s i t:List Nat}
theorem wk_rv {e:Nat}:wk g (y::i.reverse++[x]) e=wk g (x::i++[y]) e:=by
 rw[show y::i.reverse++[x]=(x::i++[y]).reverse by simp,vr]
theorem cy1 {e:Nat}:cy g (x::s++y::i.reverse) e=(wk g (x::s++[y]) e ^^ wk g (x::i++[y]) e):=by
 show wk g (x::(s++y::i.reverse)++[x]) e=_
 rw[show x::(s++y::i.reverse)++[x]=(x::s)++y::(i.reverse++[x]) by simp,gF]
 exact congrArg (λb=>wk g (x::s++[y]) e ^^ b) wk_rv
theorem cy2 {e:Nat}:cy g (y::t++x::i) e=(wk g (y::t++[x]) e ^^ wk g (x::i++[y]) e):=by
 show wk g (y::(t++x::i)++[y]) e=_
 rw[show y::(t++x::i)++[y]=(y::t)++x::(i++[y]) by simp,gF]
 rfl
theorem cy0 {e:Nat}:cy g (x::s++y::t) e=(wk g (x::s++[y]) e ^^ wk g (y::t++[x]) e):=by
 show wk g (x::(s++y::t)++[x]) e=_
 rw[show x::(s++y::t)++[x]=(x::s)++y::(t++[x]) by simp,gF]
 rfl
theorem AC (p:Pln g B) (L:Lay g B H nf fc) (hf:f<nf) (w:Way g B H fc f x y s i t):Cc g B (x::s++y::i.reverse)∧Cc g B (y::t++x::i):=by
 have hc:=L.circ f hf
 rw[w.face] at hc
 have hn:=hc.nodup
 have hfr:∀ v∈i,v∉x::s++y::t:=λv hv hm=>by
  obtain⟨j,hj,hjv,hcj⟩:=cy_at p hc hm
  have:=L.hcy hf hj (by rw[w.face]; exact hcj)
  rw[w.fresh v hv j hj hjv] at this; cases this
 have ha1:=hc.arc
 have ha2:Ch g B (y::t++[x]):=by
  have h:=hc.1
  change Ch g B (x::(s++y::t)++[x]) at h
  rw[show x::(s++y::t)++[x]=(x::s)++y::(t++[x]) by simp,gI] at h
  exact h.2
 have hni:i.Nodup:=by
  have:=w.nd
  rw[aN] at this
  exact (aW.1 this.1).2
 rw[aN] at hn
 have one:∀ u,(u=s∨u=t)→u=[]→i=[]→False:=by
  rintro u hu rfl rfl
  obtain⟨⟨e,he,hj⟩,_⟩:=w.ch
  have hw:wk g (x::[]++[y]) e=true:=by simp [wk,hj]
  have h1:=w.new e he hw
  rcases hu with rfl|rfl
  ·have:=L.hcy (e:=e) hf he (by rw[w.face]; exact jX p hc he hw)
   rw[h1] at this; cases this
  ·have hr:Rot (x::s++[y]) (y::x::s):=⟨x::s,[y],rfl,by simp⟩
   have h3:cy g (y::x::s) e=true:=cy_first p (hr.cc hc) he (jn_symm.trans hj)
   rw[hr.cy,← w.face] at h3
   have:=L.hcy hf he h3
   rw[h1] at this; cases this
 constructor
 ·refine⟨?_,?_,?_⟩
  ·show Ch g B (x::(s++y::i.reverse)++[x])
   rw[show x::(s++y::i.reverse)++[x]=(x::s)++y::(i.reverse++[x]) by simp,gI]
   refine⟨ha1,?_⟩
   rw[show y::(i.reverse++[x])=(x::i++[y]).reverse by simp,wC]
   exact w.ch
  ·show (x::s++y::i.reverse).Nodup
   rw[aN]
   refine⟨hn.1,aW.2 ⟨λh=>hfr y (by simpa using h) (by simp),(pi i).nodup_iff.2 hni⟩,λa ha b hb=>?_⟩
   rcases au.1 hb with rfl|hb
   ·exact hn.2.2 a ha _ (by simp)
   ·intro h; subst h
    exact hfr a (by simpa using hb) (aZ _ ha)
  ·show 3≤(x::s++y::i.reverse).length
   have:s≠[]∨i≠[]:=by
    by_cases h1:s=[]
    ·exact .inr λh2=>one s (.inl rfl) h1 h2
    ·exact .inl h1
   rcases this with h|h
   ·have:=gw.2 h; simp; omega
   ·have:=gw.2 h; simp; omega
 ·refine⟨?_,?_,?_⟩
  ·show Ch g B (y::(t++x::i)++[y])
   rw[show y::(t++x::i)++[y]=(y::t)++x::(i++[y]) by simp,gI]
   exact⟨ha2,w.ch⟩
  ·show (y::t++x::i).Nodup
   rw[aN]
   refine⟨hn.2.1,aW.2 ⟨λh=>hfr x h (by simp),hni⟩,λa ha b hb=>?_⟩
   rcases au.1 hb with rfl|hb
   ·exact λh=>hn.2.2 _ (by simp) a ha h.symm
   ·intro h; subst h
    exact hfr a hb (fX _ ha)
  ·show 3≤(y::t++x::i).length
   have:t≠[]∨i≠[]:=by
    by_cases h1:t=[]
    ·exact .inr λh2=>one t (.inr rfl) h1 h2
    ·exact .inl h1
   rcases this with h|h
   ·have:=gw.2 h; simp; omega
   ·have:=gw.2 h; simp; omega
theorem GN (S:Bool→Bool) (b:Bool):S b=(S false ^^ (b&&(S true ^^ S false))):=by
 cases b<;>cases S true<;>cases S false<;>rfl
theorem IY (p:Pln g B) (L:Lay g B H nf fc) (hf:f<nf) (w:Way g B H fc f x y s i t):Lay g B (λe=>H e||wk g (x::i++[y]) e) (nf+1) (cut fc f nf x y s i t):=by
 obtain⟨hc1,hc2⟩:=AC p L hf w
 have hc:=L.circ f hf
 have hcf:∀ e,cy g (fc f) e=(wk g (x::s++[y]) e ^^ wk g (y::t++[x]) e):=λe=>by rw[w.face,cy0]
 rw[w.face] at hc
 have hfc1:cut fc f nf x y s i t f=x::s++y::i.reverse:=by simp [cut]
 have hfc2:cut fc f nf x y s i t nf=y::t++x::i:=by simp [cut,show nf≠f by omega]
 have hfc3:∀ k,k≠f→k≠nf→cut fc f nf x y s i t k=fc k:=λk a b=>by simp [cut,a,b]
 have arc1:∀ e∈B,wk g (x::s++[y]) e=true→H e=true:=λe he h=>L.hcy hf he (by rw[w.face]; exact jX p hc he h)
 have arc2:∀ e∈B,wk g (y::t++[x]) e=true→H e=true:=λe he h=>L.hcy hf he (by
  have hr:Rot (x::s++y::t) (y::t++x::s):=⟨x::s,y::t,rfl,rfl⟩
  rw[w.face,← hr.cy]
  exact jX p (hr.cc hc) he h)
 have not1:∀ e∈B,H e=false→wk g (x::s++[y]) e=false:=λe he h=>by
  cases h1:wk g (x::s++[y]) e
  ·rfl
  ·rw[arc1 e he h1] at h; cases h
 have not2:∀ e∈B,H e=false→wk g (y::t++[x]) e=false:=λe he h=>by
  cases h1:wk g (y::t++[x]) e
  ·rfl
  ·rw[arc2 e he h1] at h; cases h
 have notw:∀ e∈B,H e=true→wk g (x::i++[y]) e=false:=λe he h=>by
  cases h1:wk g (x::i++[y]) e
  ·rfl
  ·rw[w.new e he h1] at h; cases h
 have sum:∀ (T:Nat→Bool) (e:Nat),par (List.range (nf+1)) (λk=>T k&&cy g (cut fc f nf x y s i t k) e)=(par (List.range nf) (λk=>T k&&cy g (fc k) e) ^^ ((T f&&(cy g (x::s++y::i.reverse) e ^^ cy g (fc f) e)) ^^ (T nf&&cy g (y::t++x::i) e))):=by
  intro T e
  rw[bD,jv]
  simp only[par,hfc2,cI]
  rw[par_congr (l:=List.range nf) (q:=λk=>(T k&&cy g (fc k) e) ^^ ((k==f)&&(T k&&(cy g (x::s++y::i.reverse) e ^^ cy g (fc f) e)))) (λk hk=>by
   have hk':k<nf:=by simpa using hk
   by_cases h:k=f
   ·subst h
    rw[hfc1,beq_self_eq_true]
    cases T k<;>cases cy g (x::s++y::i.reverse) e<;>cases cy g (fc k) e<;>rfl
   ·rw[hfc3 k h om,beq_eq_false_iff_ne.2 h,ee,cI]),df,cY aQ (by simpa using hf),Bool.xor_assoc]
 have same:∀ X,Even g B X→(∀ e∈B,X e=true→(H e||wk g (x::i++[y]) e)=true)→∀ e∈B,∀ k∈B,wk g (x::i++[y]) e=true→wk g (x::i++[y]) k=true→X e=X k:=by
  intro X hX hs e he k hk h h'
  have hr:Rot (y::t++x::i) (x::i++y::t):=⟨y::t,x::i,rfl,rfl⟩
  refine pK p (hr.cc hc2) (λv hv S=>?_) he hk h h'
  have hat:∀ j∈B,at_ g j v=true→cy g (x::i++y::t) j=wk g (x::i++[y]) j:=λj hj hjv=>by
   rw[hr.cy,cy2,not2 j hj (w.fresh v hv j hj hjv),dJ]
  have e1:=iC p (hr.cc hc2) v
  have e2:=hX v
  rw[par_congr (q:=λj=>(S false&&(cy g (x::i++y::t) j&&at_ g j v)) ^^ ((S true ^^ S false)&&(X j&&at_ g j v))) (λj hj=>by
   rw[GN S (X j)]
   by_cases hjv:at_ g j v=true
   ·by_cases hx:X j=true
    ·have h1:=hs j hj hx
     rw[w.fresh v hv j hj hjv,eA] at h1
     rw[hat j hj hjv,h1,hx,hjv]
     cases S false<;>cases S true<;>rfl
    ·have hx':X j=false:=by simpa using hx
     rw[hx',hjv]
     cases cy g (x::i++y::t) j<;>cases S false<;>cases S true<;>rfl
   ·have:at_ g j v=false:=by simpa using hjv
    rw[this]; simp),df,fS,fS,e1,e2]
  simp
 refine⟨λk hk=>?_,λe he hH=>?_,λe he hH k hk=>?_,λX hX hs=>?_,λv e k he hk hH hK hev hkv hne=>?_⟩
 ·by_cases h:k=f
  ·subst h; rw[hfc1]; exact hc1
  ·by_cases h':k=nf
   ·subst h'; rw[hfc2]; exact hc2
   ·rw[hfc3 k h h']; exact L.circ k om
 ·cases hw:wk g (x::i++[y]) e
  ·rw[hw,fR] at hH
   obtain⟨a,b,ha,hb,hab,hq⟩:=L.two e he hH
   have c1:cy g (x::s++y::i.reverse) e=wk g (x::s++[y]) e:=by rw[cy1,hw,cI]
   have c2:cy g (y::t++x::i) e=wk g (y::t++[x]) e:=by rw[cy2,hw,cI]
   have hq0:=hq f hf
   rw[hcf] at hq0
   have gen:∀ a b,a<nf→b<nf→a≠b→(∀ k,k<nf→cy g (fc k) e=((k==a)||(k==b)))→a=f→∃ a' b',a'<nf+1∧b'<nf+1∧a'≠b'∧∀ k,k<nf+1→cy g (cut fc f nf x y s i t k) e=((k==a')||(k==b')):=by
    rintro a b ha hb hab hq rfl
    have h0:=hq a ha
    rw[hcf,beq_self_eq_true,DQ] at h0
    cases h1:wk g (x::s++[y]) e
    ·rw[h1,dJ] at h0
     refine⟨nf,b,om,om,om,λk hk=>?_⟩
     by_cases q1:k=a
     ·subst q1; rw[hfc1,c1,h1,beq_eq_false_iff_ne.2 (show k≠nf by omega),beq_eq_false_iff_ne.2 hab]; rfl
     ·by_cases q2:k=nf
      ·subst q2; rw[hfc2,c2,h0]; simp
      ·rw[hfc3 k q1 q2,hq k om,beq_eq_false_iff_ne.2 q1,beq_eq_false_iff_ne.2 q2]
    ·rw[h1] at h0
     have h0':wk g (y::t++[x]) e=false:=by simpa using h0
     refine⟨a,b,om,om,hab,λk hk=>?_⟩
     by_cases q1:k=a
     ·subst q1; rw[hfc1,c1,h1]; simp
     ·by_cases q2:k=nf
      ·subst q2; rw[hfc2,c2,h0',beq_eq_false_iff_ne.2 (show k≠a by omega),beq_eq_false_iff_ne.2 (show k≠b by omega)]; rfl
      ·rw[hfc3 k q1 q2,hq k om]
   by_cases h1:a=f
   ·exact gen a b ha hb hab hq h1
   ·by_cases h2:b=f
    ·exact gen b a hb ha (Ne.symm hab) (λk hk=>by rw[hq k hk,Bool.or_comm]) h2
    ·rw[beq_eq_false_iff_ne.2 (Ne.symm h1),beq_eq_false_iff_ne.2 (Ne.symm h2)] at hq0
     have hz:cy g (x::s++y::t) e=false:=by rw[cy0]; exact hq0
     have z1:wk g (x::s++[y]) e=false:=by
      cases h3:wk g (x::s++[y]) e
      ·rfl
      ·rw[jX p hc he h3] at hz; cases hz
     have z2:wk g (y::t++[x]) e=false:=by
      rw[z1,dJ] at hq0; exact hq0
     refine⟨a,b,om,om,hab,λk hk=>?_⟩
     by_cases q1:k=f
     ·subst q1; rw[hfc1,c1,z1,beq_eq_false_iff_ne.2 (Ne.symm h1),beq_eq_false_iff_ne.2 (Ne.symm h2)]; rfl
     ·by_cases q2:k=nf
      ·subst q2; rw[hfc2,c2,z2,beq_eq_false_iff_ne.2 (show k≠a by omega),beq_eq_false_iff_ne.2 (show k≠b by omega)]; rfl
      ·rw[hfc3 k q1 q2,hq k om]
  ·have hH0:=w.new e he hw
   refine⟨f,nf,om,om,om,λk hk=>?_⟩
   by_cases q1:k=f
   ·subst q1; rw[hfc1,cy1,hw,not1 e he hH0]; simp
   ·by_cases q2:k=nf
    ·subst q2; rw[hfc2,cy2,hw,not2 e he hH0]; simp
    ·rw[hfc3 k q1 q2,L.none e he hH0 k om,beq_eq_false_iff_ne.2 q1,beq_eq_false_iff_ne.2 q2]; rfl
 ·simp only[Bool.or_eq_false_iff] at hH
  by_cases q1:k=f
  ·subst q1; rw[hfc1,cy1,hH.2,not1 e he hH.1]; rfl
  ·by_cases q2:k=nf
   ·subst q2; rw[hfc2,cy2,hH.2,not2 e he hH.1]; rfl
   ·rw[hfc3 k q1 q2,L.none e he hH.1 k om]
 ·
  have fin:∀ X,Even g B X→(∀ e∈B,X e=true→H e=true)→∃ T:Nat→Bool,∀ e∈B,X e=par (List.range (nf+1)) (λk=>T k&&cy g (cut fc f nf x y s i t k) e):=by
   intro X hX hs
   obtain⟨T,hT⟩:=L.span X hX hs
   refine⟨λk=>if k=nf then T f else T k,λe he=>?_⟩
   rw[sum,hT e he,par_congr (l:=List.range nf) (p:=λk=>(if k=nf then T f else T k)&&cy g (fc k) e) (q:=λk=>T k&&cy g (fc k) e) (λk hk=>by
    have:k<nf:=by simpa using hk
    rw[if_neg om]),if_neg (show f≠nf by omega),if_pos rfl,hcf,cy1,cy2]
   cases par (List.range nf) (λk=>T k&&cy g (fc k) e)<;>cases T f<;>cases wk g (x::s++[y]) e<;>cases wk g (x::i++[y]) e<;>cases wk g (y::t++[x]) e<;>rfl
  by_cases hex:∃ e∈B,wk g (x::i++[y]) e=true∧X e=true
  ·obtain⟨e0,he0,hw0,hx0⟩:=hex
   obtain⟨T,hT⟩:=fin (λe=>X e ^^ cy g (x::s++y::i.reverse) e) (hX.xor (iC p hc1)) (λe he h=>by
    cases hH:H e
    ·exfalso
     rw[cy1,not1 e he hH,dJ] at h
     by_cases hw:wk g (x::i++[y]) e=true
     ·rw[same X hX hs e he e0 he0 hw hw0,hx0,hw] at h; cases h
     ·have hw':wk g (x::i++[y]) e=false:=by simpa using hw
      rw[hw',cI] at h
      have:=hs e he h
      rw[hH,hw'] at this; cases this
    ·rfl)
   refine⟨λk=>T k ^^ (k==f),λe he=>?_⟩
   have h1:=hT e he
   rw[par_congr (q:=λk=>(T k&&cy g (cut fc f nf x y s i t k) e) ^^ ((k==f)&&cy g (cut fc f nf x y s i t k) e)) (λk _=>by dsimp only; cases T k<;>cases k==f<;>cases cy g (cut fc f nf x y s i t k) e<;>rfl),df,← h1,cY aQ (by simp; omega),hfc1]
   cases X e<;>cases cy g (x::s++y::i.reverse) e<;>rfl
  ·refine fin X hX λe he h=>?_
   have:=hs e he h
   cases hH:H e
   ·rw[hH,eA] at this
    exact absurd ⟨e,he,this,h⟩ hex
   ·rfl
 ·
  have hxy:∀ v,(∃ j∈B,at_ g j v=true∧wk g (x::i++[y]) j=true)→v∈i∨v=x∨v=y:=λv ⟨j,hj,hjv,hw⟩=>by
   have:=wW p hj hw hjv
   simp only[aE,au,aC,bp,or_false] at this
   rcases this with h|h|h
   ·exact .inr (.inl h)
   ·exact .inl h
   ·exact .inr (.inr h)
  have ends:∀ v,(v=x∨v=y)→∀ j∈B,∀ j'∈B,at_ g j v=true→at_ g j' v=true→wk g (x::i++[y]) j=true→wk g (x::i++[y]) j'=true→j=j':=by
   rintro v (rfl|rfl) j hj j' hj' ha ha' hw hw'
   ·exact DV p w.nd hj hj' hw hw' ha ha'
   ·have nd2:(v::(x::i).reverse).Nodup:=by
     have:=(pi (x::i++[v])).nodup_iff.2 w.nd
     simpa using this
    have q:∀ j,wk g (v::(x::i).reverse) j=wk g (x::i++[v]) j:=λj=>by
     rw[← vr (a:=x::i++[v])]; simp
    exact DV p nd2 hj hj' (by rw[q]; exact hw) (by rw[q]; exact hw') ha ha'
  have mixed:∀ e∈B,∀ k∈B,wk g (x::i++[y]) e=true→H k=true→at_ g e v=true→at_ g k v=true→e≠k→∃ X,Even g B X∧(∀ j∈B,X j=true→(H j||wk g (x::i++[y]) j)=true)∧∀ j∈B,(H j||wk g (x::i++[y]) j)=true→at_ g j v=true→X j=((j==e)||(j==k)):=by
   intro e he k hk hw hK hev hkv hne
   have hvi:v=x∨v=y:=by
    rcases hxy v ⟨e,he,hev,hw⟩ with h|h
    ·rw[w.fresh v h k hk hkv] at hK; cases hK
    ·exact h
   have h0:=w.new e he hw
   have hce:cy g (x::s++y::i.reverse) e=true:=by rw[cy1,hw,not1 e he h0]; rfl
   obtain⟨a,ha,hae,hav,hca,hall⟩:=zN p hc1 he hev hce
   have hwa:wk g (x::i++[y]) a=false:=by
    cases h:wk g (x::i++[y]) a
    ·rfl
    ·exact absurd (ends v hvi a ha e he hav hev h hw) hae
   have hHa:H a=true:=by
    rw[cy1,hwa,cI] at hca
    exact arc1 a ha hca
   have hsub:∀ j∈B,cy g (x::s++y::i.reverse) j=true→(H j||wk g (x::i++[y]) j)=true:=λj hj h=>by
    rw[cy1] at h
    cases h1:wk g (x::i++[y]) j
    ·rw[h1,cI] at h; rw[arc1 j hj h]; rfl
    ·simp
   by_cases hak:a=k
   ·subst hak
    refine⟨_,iC p hc1,hsub,λj hj _ hjv=>?_⟩
    cases hcj:cy g (x::s++y::i.reverse) j
    ·have q1:j≠e:=λq=>by rw[q,hce] at hcj; cases hcj
     have q2:j≠a:=λq=>by rw[q,hca] at hcj; cases hcj
     rw[beq_eq_false_iff_ne.2 q1,beq_eq_false_iff_ne.2 q2]; rfl
    ·rcases hall j hj hjv hcj with rfl|rfl<;>simp
   ·obtain⟨X,hX,hXH,hXj⟩:=L.bond v a k ha hk hHa hK hav hkv hak
    refine⟨_,hX.xor (iC p hc1),λj hj h=>?_,λj hj hjH hjv=>?_⟩
    ·cases hx:X j
     ·rw[hx,dJ] at h; exact hsub j hj h
     ·rw[hXH j hj hx]; rfl
    ·by_cases q1:j=e
     ·subst q1
      have hx:X j=false:=by
       cases hx:X j
       ·rfl
       ·rw[hXH j hj hx] at h0; cases h0
      rw[hx,hce]; simp
     ·rw[beq_eq_false_iff_ne.2 q1,eA]
      by_cases hjw:wk g (x::i++[y]) j=true
      ·exact absurd (ends v hvi j hj e he hjv hev hjw hw) q1
      have hjw':wk g (x::i++[y]) j=false:=by simpa using hjw
      rw[hjw',fR] at hjH
      rw[hXj j hj hjH hjv]
      by_cases q2:j=a
      ·subst q2; rw[hca,beq_self_eq_true,beq_eq_false_iff_ne.2 hak]; rfl
      ·have:cy g (x::s++y::i.reverse) j=false:=by
        cases hcj:cy g (x::s++y::i.reverse) j
        ·rfl
        ·rcases hall j hj hjv hcj with h|h
         ·exact absurd h q1
         ·exact absurd h q2
       rw[this,beq_eq_false_iff_ne.2 q2,cI,eA]
  cases hwe:wk g (x::i++[y]) e
  ·rw[hwe,fR] at hH
   cases hwk:wk g (x::i++[y]) k
   ·rw[hwk,fR] at hK
    obtain⟨X,hX,hXH,hXj⟩:=L.bond v e k he hk hH hK hev hkv hne
    refine⟨X,hX,λj hj h=>by rw[hXH j hj h]; rfl,λj hj hjH hjv=>?_⟩
    cases hj1:H j
    ·have q0:X j=false:=by
      cases hx:X j
      ·rfl
      ·rw[hXH j hj hx] at hj1; cases hj1
     have q1:j≠e:=λq=>by rw[q,hH] at hj1; cases hj1
     have q2:j≠k:=λq=>by rw[q,hK] at hj1; cases hj1
     rw[q0,beq_eq_false_iff_ne.2 q1,beq_eq_false_iff_ne.2 q2]; rfl
    ·exact hXj j hj hj1 hjv
   ·obtain⟨X,a,b,c⟩:=mixed k hk e he hwk hH hkv hev (Ne.symm hne)
    exact⟨X,a,b,λj hj h1 h2=>by rw[c j hj h1 h2,Bool.or_comm]⟩
  ·cases hwk:wk g (x::i++[y]) k
   ·rw[hwk,fR] at hK
    exact mixed e he k hk hwe hK hev hkv hne
   ·
    have hvi:v∈i:=by
     rcases hxy v ⟨e,he,hev,hwe⟩ with h|h
     ·exact h
     ·exact absurd (ends v h e he k hk hev hkv hwe hwk) hne
    have hce:cy g (x::s++y::i.reverse) e=true:=by rw[cy1,hwe,not1 e he (w.new e he hwe)]; rfl
    have hck:cy g (x::s++y::i.reverse) k=true:=by rw[cy1,hwk,not1 k hk (w.new k hk hwk)]; rfl
    obtain⟨a,ha,hae,hav,hca,hall⟩:=zN p hc1 he hev hce
    have hka:k=a:=(hall k hk hkv hck).resolve_left (Ne.symm hne)
    subst hka
    refine⟨_,iC p hc1,λj hj h=>?_,λj hj hjH hjv=>?_⟩
    ·rw[cy1] at h
     cases h1:wk g (x::i++[y]) j
     ·rw[h1,cI] at h; rw[arc1 j hj h]; rfl
     ·simp
    ·rw[w.fresh v hvi j hj hjv,eA] at hjH
     have hcj:cy g (x::s++y::i.reverse) j=true:=by rw[cy1,hjH,not1 j hj (w.new j hj hjH)]; rfl
     rw[hcj]
     rcases hall j hj hjv hcj with rfl|rfl<;>simp
end Go.Pla
