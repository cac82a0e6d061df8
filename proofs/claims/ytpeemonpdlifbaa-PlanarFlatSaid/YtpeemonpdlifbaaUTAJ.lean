/- One more way through a face -/
import Derived.Test.YtpeemonpdlifbaaUTAI
set_option linter.all false
namespace Go.Pla
open Go.Blk
variable {g:Gr}{B:List Nat}{H:Nat→Bool}{nf:Nat}{fc:Nat→List Nat}{Φ:Type}{l r:Nat→Φ}{pf:Φ→Nat}
theorem Ori.change {fc2:Nat→List Nat} (o:Ori g B H nf fc) (h:∀ f,f<nf→Rot (fc f) (fc2 f)):Ori g B H nf fc2:=λe he hH x y hj=>by
 obtain⟨f,hf,hn⟩:=o e he hH x y hj
 exact⟨f,hf,hn.rot (h f hf).symm⟩
theorem ym (p:Pln g B) {e x y:Nat}{a b:List Nat} (nd:(a++x::y::b).Nodup) (he:e∈B) (hj:jn g e x y=true):wk g (a++x::y::b) e=true:=by
 have hx:at_ g e x=true:=by rw[p.jat he hj]; simp [Ne.symm (p.jne he hj)]
 have hy:at_ g e y=true:=by rw[p.jat he hj]; simp [p.jne he hj]
 have n1:y∉a++[x]:=by
  intro hm
  rw[aP] at nd
  rcases aA.1 hm with h|h
  ·exact nd.2.2 y h y (by simp) rfl
  ·have:y=x:=by simpa using h
   exact p.jne he hj this.symm
 have n2:x∉y::b:=by
  rw[aP,aS] at nd
  exact nd.2.1.1
 rw[gH,jK p he hy n1,wk,hj,jK p he hx n2]; rfl
theorem Dh (p:Pln g B) {x:Nat}{t:List Nat} (nd:(x::t).Nodup) {e k:Nat} (he:e∈B) (hk:k∈B) (h:wk g (x::t) e=true) (h':wk g (x::t) k=true) (hx:at_ g e x=true) (hx':at_ g k x=true):e=k:=by
 have key:∀ e∈B,wk g (x::t) e=true→at_ g e x=true→∃ y s,t=y::s∧jn g e x y=true:=by
  intro e he h hx
  obtain⟨a,u,v,b,h1,hj⟩:=lg h
  cases a with
  | nil =>
    simp only[bg] at h1
    injection h1 with h2 h3
    subst h2
    exact⟨v,b,h3,hj⟩
  | cons z a =>
    exfalso
    rw[aE] at h1
    injection h1 with h2 h3
    subst h2
    rw[aS] at nd
    have:x=u∨x=v:=by
     rw[p.jat he hj] at hx
     by_cases a:u=x
     ·exact .inl a.symm
     ·by_cases b:v=x
      ·exact .inr b.symm
      ·rw[beq_eq_false_iff_ne.2 a,beq_eq_false_iff_ne.2 b] at hx; cases hx
    apply nd.1
    rw[h3]
    rcases this with rfl|rfl<;>simp
 obtain⟨y,s,h1,h2⟩:=key e he h hx
 obtain⟨y',s',h3,h4⟩:=key k hk h' hx'
 rw[h1] at h3
 injection h3 with h5 _
 subst h5
 exact p.one e he k hk _ _ h2 h4
def cut (fc:Nat→List Nat) (f nf x y:Nat) (s i t:List Nat):Nat→List Nat:=λk=>if k=f then x::s++y::i.reverse else if k=nf then y::t++x::i else fc k
structure Way (g:Gr) (B:List Nat) (H:Nat→Bool) (fc:Nat→List Nat) (f x y:Nat) (s i t:List Nat):Prop where
 face:fc f=x::s++y::t
 ch:Ch g B (x::i++[y])
 nd:(x::i++[y]).Nodup
 fresh:∀ v∈i,∀ e∈B,at_ g e v=true→H e=false
 new:∀ e∈B,wk g (x::i++[y]) e=true→H e=false
variable {f x y:Nat}{s i t:List Nat}
theorem wk_rv {e:Nat}:wk g (y::i.reverse++[x]) e=wk g (x::i++[y]) e:=by
 rw[show y::i.reverse++[x]=(x::i++[y]).reverse by simp,uz]
theorem cy1 {e:Nat}:cy g (x::s++y::i.reverse) e=(wk g (x::s++[y]) e ^^ wk g (x::i++[y]) e):=by
 show wk g (x::(s++y::i.reverse)++[x]) e=_
 rw[show x::(s++y::i.reverse)++[x]=(x::s)++y::(i.reverse++[x]) by simp,gH]
 exact congrArg (λb=>wk g (x::s++[y]) e ^^ b) wk_rv
theorem cy2 {e:Nat}:cy g (y::t++x::i) e=(wk g (y::t++[x]) e ^^ wk g (x::i++[y]) e):=by
 show wk g (y::(t++x::i)++[y]) e=_
 rw[show y::(t++x::i)++[y]=(y::t)++x::(i++[y]) by simp,gH]
 rfl
theorem cy0 {e:Nat}:cy g (x::s++y::t) e=(wk g (x::s++[y]) e ^^ wk g (y::t++[x]) e):=by
 show wk g (x::(s++y::t)++[x]) e=_
 rw[show x::(s++y::t)++[x]=(x::s)++y::(t++[x]) by simp,gH]
 rfl
theorem zY (p:Pln g B) (L:Lay g B H nf fc) (hf:f<nf) (w:Way g B H fc f x y s i t):Cc g B (x::s++y::i.reverse)∧Cc g B (y::t++x::i):=by
 have hc:=L.circ f hf
 rw[w.face] at hc
 have hn:=hc.nodup
 have hfr:∀ v∈i,v∉x::s++y::t:=λv hv hm=>by
  obtain⟨j,hj,hjv,hcj⟩:=cy_at p hc hm
  have:=L.hcy hf hj (by rw[w.face]; exact hcj)
  rw[w.fresh v hv j hj hjv] at this; cases this
 have ha1:=hc.arc
 have ha2:Ch g B (y::t++[x]):=by
  have h:=hc.1
  change Ch g B (x::(s++y::t)++[x]) at h
  rw[show x::(s++y::t)++[x]=(x::s)++y::(t++[x]) by simp,gI] at h
  exact h.2
 have hni:i.Nodup:=by
  have:=w.nd
  rw[aP] at this
  exact (aS.1 this.1).2
 rw[aP] at hn
 have one:∀ u,(u=s∨u=t)→u=[]→i=[]→False:=by
  rintro u hu rfl rfl
  obtain⟨⟨e,he,hj⟩,_⟩:=w.ch
  have hw:wk g (x::[]++[y]) e=true:=by simp [wk,hj]
  have h1:=w.new e he hw
  rcases hu with rfl|rfl
  ·have:=L.hcy (e:=e) hf he (by rw[w.face]; exact jX p hc he hw)
   rw[h1] at this; cases this
  ·have hr:Rot (x::s++[y]) (y::x::s):=⟨x::s,[y],rfl,by simp⟩
   have h3:cy g (y::x::s) e=true:=iG p (hr.cc hc) he (jn_symm.trans hj)
   rw[hr.cy,← w.face] at h3
   have:=L.hcy hf he h3
   rw[h1] at this; cases this
 constructor
 ·refine⟨?_,?_,?_⟩
  ·show Ch g B (x::(s++y::i.reverse)++[x])
   rw[show x::(s++y::i.reverse)++[x]=(x::s)++y::(i.reverse++[x]) by simp,gI]
   refine⟨ha1,?_⟩
   rw[show y::(i.reverse++[x])=(x::i++[y]).reverse by simp,vF]
   exact w.ch
  ·show (x::s++y::i.reverse).Nodup
   rw[aP]
   refine⟨hn.1,aS.2 ⟨λh=>hfr y (by simpa using h) (by simp),(oS i).nodup_iff.2 hni⟩,λa ha b hb=>?_⟩
   rcases aq.1 hb with rfl|hb
   ·exact hn.2.2 a ha _ (by simp)
   ·intro h; subst h
    exact hfr a (by simpa using hb) (bA _ ha)
  ·show 3≤(x::s++y::i.reverse).length
   have:s≠[]∨i≠[]:=by
    by_cases h1:s=[]
    ·exact .inr λh2=>one s (.inl rfl) h1 h2
    ·exact .inl h1
   rcases this with h|h
   ·have:=ju.2 h; simp; omega
   ·have:=ju.2 h; simp; omega
 ·refine⟨?_,?_,?_⟩
  ·show Ch g B (y::(t++x::i)++[y])
   rw[show y::(t++x::i)++[y]=(y::t)++x::(i++[y]) by simp,gI]
   exact⟨ha2,w.ch⟩
  ·show (y::t++x::i).Nodup
   rw[aP]
   refine⟨hn.2.1,aS.2 ⟨λh=>hfr x h (by simp),hni⟩,λa ha b hb=>?_⟩
   rcases aq.1 hb with rfl|hb
   ·exact λh=>hn.2.2 _ (by simp) a ha h.symm
   ·intro h; subst h
    exact hfr a hb (iM _ ha)
  ·show 3≤(y::t++x::i).length
   have:t≠[]∨i≠[]:=by
    by_cases h1:t=[]
    ·exact .inr λh2=>one t (.inr rfl) h1 h2
    ·exact .inl h1
   rcases this with h|h
   ·have:=ju.2 h; simp; omega
   ·have:=ju.2 h; simp; omega
theorem FS (S:Bool→Bool) (b:Bool):S b=(S false ^^ (b&&(S true ^^ S false))):=by
 cases b<;>cases S true<;>cases S false<;>rfl
theorem HO (p:Pln g B) (L:Lay g B H nf fc) (hf:f<nf) (w:Way g B H fc f x y s i t):Lay g B (λe=>H e||wk g (x::i++[y]) e) (nf+1) (cut fc f nf x y s i t):=by
 obtain⟨hc1,hc2⟩:=zY p L hf w
 have hc:=L.circ f hf
 have hcf:∀ e,cy g (fc f) e=(wk g (x::s++[y]) e ^^ wk g (y::t++[x]) e):=λe=>by rw[w.face,cy0]
 rw[w.face] at hc
 have hfc1:cut fc f nf x y s i t f=x::s++y::i.reverse:=by simp [cut]
 have hfc2:cut fc f nf x y s i t nf=y::t++x::i:=by simp [cut,show nf≠f by omega]
 have hfc3:∀ k,k≠f→k≠nf→cut fc f nf x y s i t k=fc k:=λk a b=>by simp [cut,a,b]
 have arc1:∀ e∈B,wk g (x::s++[y]) e=true→H e=true:=λe he h=>L.hcy hf he (by rw[w.face]; exact jX p hc he h)
 have arc2:∀ e∈B,wk g (y::t++[x]) e=true→H e=true:=λe he h=>L.hcy hf he (by
  have hr:Rot (x::s++y::t) (y::t++x::s):=⟨x::s,y::t,rfl,rfl⟩
  rw[w.face,← hr.cy]
  exact jX p (hr.cc hc) he h)
 have not1:∀ e∈B,H e=false→wk g (x::s++[y]) e=false:=λe he h=>by
  cases h1:wk g (x::s++[y]) e
  ·rfl
  ·rw[arc1 e he h1] at h; cases h
 have not2:∀ e∈B,H e=false→wk g (y::t++[x]) e=false:=λe he h=>by
  cases h1:wk g (y::t++[x]) e
  ·rfl
  ·rw[arc2 e he h1] at h; cases h
 have notw:∀ e∈B,H e=true→wk g (x::i++[y]) e=false:=λe he h=>by
  cases h1:wk g (x::i++[y]) e
  ·rfl
  ·rw[w.new e he h1] at h; cases h
 have sum:∀ (T:Nat→Bool) (e:Nat),par (List.range (nf+1)) (λk=>T k&&cy g (cut fc f nf x y s i t k) e)=(par (List.range nf) (λk=>T k&&cy g (fc k) e) ^^ ((T f&&(cy g (x::s++y::i.reverse) e ^^ cy g (fc f) e)) ^^ (T nf&&cy g (y::t++x::i) e))):=by
  intro T e
  rw[bS,lz]
  simp only[par,hfc2,cZ]
  rw[aW (l:=List.range nf) (q:=λk=>(T k&&cy g (fc k) e) ^^ ((k==f)&&(T k&&(cy g (x::s++y::i.reverse) e ^^ cy g (fc f) e)))) (λk hk=>by
   have hk':k<nf:=by simpa using hk
   by_cases h:k=f
   ·subst h
    rw[hfc1,beq_self_eq_true]
    cases T k<;>cases cy g (x::s++y::i.reverse) e<;>cases cy g (fc k) e<;>rfl
   ·rw[hfc3 k h om,beq_eq_false_iff_ne.2 h,fA,cZ]),dN,dx bp (by simpa using hf),Bool.xor_assoc]
 have same:∀ X,Even g B X→(∀ e∈B,X e=true→(H e||wk g (x::i++[y]) e)=true)→∀ e∈B,∀ k∈B,wk g (x::i++[y]) e=true→wk g (x::i++[y]) k=true→X e=X k:=by
  intro X hX hs e he k hk h h'
  have hr:Rot (y::t++x::i) (x::i++y::t):=⟨y::t,x::i,rfl,rfl⟩
  refine pH p (hr.cc hc2) (λv hv S=>?_) he hk h h'
  have hat:∀ j∈B,at_ g j v=true→cy g (x::i++y::t) j=wk g (x::i++[y]) j:=λj hj hjv=>by
   rw[hr.cy,cy2,not2 j hj (w.fresh v hv j hj hjv),dS]
  have e1:=iH p (hr.cc hc2) v
  have e2:=hX v
  rw[aW (q:=λj=>(S false&&(cy g (x::i++y::t) j&&at_ g j v)) ^^ ((S true ^^ S false)&&(X j&&at_ g j v))) (λj hj=>by
   rw[FS S (X j)]
   by_cases hjv:at_ g j v=true
   ·by_cases hx:X j=true
    ·have h1:=hs j hj hx
     rw[w.fresh v hv j hj hjv,fQ] at h1
     rw[hat j hj hjv,h1,hx,hjv]
     cases S false<;>cases S true<;>rfl
    ·have hx':X j=false:=by simpa using hx
     rw[hx',hjv]
     cases cy g (x::i++y::t) j<;>cases S false<;>cases S true<;>rfl
   ·have:at_ g j v=false:=by simpa using hjv
    rw[this]; simp),dN,fZ,fZ,e1,e2]
  simp
 refine⟨λk hk=>?_,λe he hH=>?_,λe he hH k hk=>?_,λX hX hs=>?_,λv e k he hk hH hK hev hkv hne=>?_⟩
 ·by_cases h:k=f
  ·subst h; rw[hfc1]; exact hc1
  ·by_cases h':k=nf
   ·subst h'; rw[hfc2]; exact hc2
   ·rw[hfc3 k h h']; exact L.circ k om
 ·cases hw:wk g (x::i++[y]) e
  ·rw[hw,gz] at hH
   obtain⟨a,b,ha,hb,hab,hq⟩:=L.two e he hH
   have c1:cy g (x::s++y::i.reverse) e=wk g (x::s++[y]) e:=by rw[cy1,hw,cZ]
   have c2:cy g (y::t++x::i) e=wk g (y::t++[x]) e:=by rw[cy2,hw,cZ]
   have hq0:=hq f hf
   rw[hcf] at hq0
   have gen:∀ a b,a<nf→b<nf→a≠b→(∀ k,k<nf→cy g (fc k) e=((k==a)||(k==b)))→a=f→∃ a' b',a'<nf+1∧b'<nf+1∧a'≠b'∧∀ k,k<nf+1→cy g (cut fc f nf x y s i t k) e=((k==a')||(k==b')):=by
    rintro a b ha hb hab hq rfl
    have h0:=hq a ha
    rw[hcf,beq_self_eq_true,Bool.true_or] at h0
    cases h1:wk g (x::s++[y]) e
    ·rw[h1,dS] at h0
     refine⟨nf,b,om,om,om,λk hk=>?_⟩
     by_cases q1:k=a
     ·subst q1; rw[hfc1,c1,h1,beq_eq_false_iff_ne.2 (show k≠nf by omega),beq_eq_false_iff_ne.2 hab]; rfl
     ·by_cases q2:k=nf
      ·subst q2; rw[hfc2,c2,h0]; simp
      ·rw[hfc3 k q1 q2,hq k om,beq_eq_false_iff_ne.2 q1,beq_eq_false_iff_ne.2 q2]
    ·rw[h1] at h0
     have h0':wk g (y::t++[x]) e=false:=by simpa using h0
     refine⟨a,b,om,om,hab,λk hk=>?_⟩
     by_cases q1:k=a
     ·subst q1; rw[hfc1,c1,h1]; simp
     ·by_cases q2:k=nf
      ·subst q2; rw[hfc2,c2,h0',beq_eq_false_iff_ne.2 (show k≠a by omega),beq_eq_false_iff_ne.2 (show k≠b by omega)]; rfl
      ·rw[hfc3 k q1 q2,hq k om]
   by_cases h1:a=f
   ·exact gen a b ha hb hab hq h1
   ·by_cases h2:b=f
    ·exact gen b a hb ha (Ne.symm hab) (λk hk=>by rw[hq k hk,Bool.or_comm]) h2
    ·rw[beq_eq_false_iff_ne.2 (Ne.symm h1),beq_eq_false_iff_ne.2 (Ne.symm h2)] at hq0
     have hz:cy g (x::s++y::t) e=false:=by rw[cy0]; exact hq0
     have z1:wk g (x::s++[y]) e=false:=by
      cases h3:wk g (x::s++[y]) e
      ·rfl
      ·rw[jX p hc he h3] at hz; cases hz
     have z2:wk g (y::t++[x]) e=false:=by
      rw[z1,dS] at hq0; exact hq0
     refine⟨a,b,om,om,hab,λk hk=>?_⟩
     by_cases q1:k=f
     ·subst q1; rw[hfc1,c1,z1,beq_eq_false_iff_ne.2 (Ne.symm h1),beq_eq_false_iff_ne.2 (Ne.symm h2)]; rfl
     ·by_cases q2:k=nf
      ·subst q2; rw[hfc2,c2,z2,beq_eq_false_iff_ne.2 (show k≠a by omega),beq_eq_false_iff_ne.2 (show k≠b by omega)]; rfl
      ·rw[hfc3 k q1 q2,hq k om]
  ·have hH0:=w.new e he hw
   refine⟨f,nf,om,om,om,λk hk=>?_⟩
   by_cases q1:k=f
   ·subst q1; rw[hfc1,cy1,hw,not1 e he hH0]; simp
   ·by_cases q2:k=nf
    ·subst q2; rw[hfc2,cy2,hw,not2 e he hH0]; simp
    ·rw[hfc3 k q1 q2,L.none e he hH0 k om,beq_eq_false_iff_ne.2 q1,beq_eq_false_iff_ne.2 q2]; rfl
 ·simp only[Bool.or_eq_false_iff] at hH
  by_cases q1:k=f
  ·subst q1; rw[hfc1,cy1,hH.2,not1 e he hH.1]; rfl
  ·by_cases q2:k=nf
   ·subst q2; rw[hfc2,cy2,hH.2,not2 e he hH.1]; rfl
   ·rw[hfc3 k q1 q2,L.none e he hH.1 k om]
 ·
  have fin:∀ X,Even g B X→(∀ e∈B,X e=true→H e=true)→∃ T:Nat→Bool,∀ e∈B,X e=par (List.range (nf+1)) (λk=>T k&&cy g (cut fc f nf x y s i t k) e):=by
   intro X hX hs
   obtain⟨T,hT⟩:=L.span X hX hs
   refine⟨λk=>if k=nf then T f else T k,λe he=>?_⟩
   rw[sum,hT e he,aW (l:=List.range nf) (p:=λk=>(if k=nf then T f else T k)&&cy g (fc k) e) (q:=λk=>T k&&cy g (fc k) e) (λk hk=>by
    have:k<nf:=by simpa using hk
    rw[if_neg om]),if_neg (show f≠nf by omega),if_pos rfl,hcf,cy1,cy2]
   cases par (List.range nf) (λk=>T k&&cy g (fc k) e)<;>cases T f<;>cases wk g (x::s++[y]) e<;>cases wk g (x::i++[y]) e<;>cases wk g (y::t++[x]) e<;>rfl
  by_cases hex:∃ e∈B,wk g (x::i++[y]) e=true∧X e=true
  ·obtain⟨e0,he0,hw0,hx0⟩:=hex
   obtain⟨T,hT⟩:=fin (λe=>X e ^^ cy g (x::s++y::i.reverse) e) (hX.xor (iH p hc1)) (λe he h=>by
    cases hH:H e
    ·exfalso
     rw[cy1,not1 e he hH,dS] at h
     by_cases hw:wk g (x::i++[y]) e=true
     ·rw[same X hX hs e he e0 he0 hw hw0,hx0,hw] at h; cases h
     ·have hw':wk g (x::i++[y]) e=false:=by simpa using hw
      rw[hw',cZ] at h
      have:=hs e he h
      rw[hH,hw'] at this; cases this
    ·rfl)
   refine⟨λk=>T k ^^ (k==f),λe he=>?_⟩
   have h1:=hT e he
   rw[aW (q:=λk=>(T k&&cy g (cut fc f nf x y s i t k) e) ^^ ((k==f)&&cy g (cut fc f nf x y s i t k) e)) (λk _=>by dsimp only; cases T k<;>cases k==f<;>cases cy g (cut fc f nf x y s i t k) e<;>rfl),dN,← h1,dx bp (by simp; omega),hfc1]
   cases X e<;>cases cy g (x::s++y::i.reverse) e<;>rfl
  ·refine fin X hX λe he h=>?_
   have:=hs e he h
   cases hH:H e
   ·rw[hH,fQ] at this
    exact absurd ⟨e,he,this,h⟩ hex
   ·rfl
 ·
  have hxy:∀ v,(∃ j∈B,at_ g j v=true∧wk g (x::i++[y]) j=true)→v∈i∨v=x∨v=y:=λv ⟨j,hj,hjv,hw⟩=>by
   have:=vV p hj hw hjv
   simp only[aE,aq,aA,bz,or_false] at this
   rcases this with h|h|h
   ·exact .inr (.inl h)
   ·exact .inl h
   ·exact .inr (.inr h)
  have ends:∀ v,(v=x∨v=y)→∀ j∈B,∀ j'∈B,at_ g j v=true→at_ g j' v=true→wk g (x::i++[y]) j=true→wk g (x::i++[y]) j'=true→j=j':=by
   rintro v (rfl|rfl) j hj j' hj' ha ha' hw hw'
   ·exact Dh p w.nd hj hj' hw hw' ha ha'
   ·have nd2:(v::(x::i).reverse).Nodup:=by
     have:=(oS (x::i++[v])).nodup_iff.2 w.nd
     simpa using this
    have q:∀ j,wk g (v::(x::i).reverse) j=wk g (x::i++[v]) j:=λj=>by
     rw[← uz (a:=x::i++[v])]; simp
    exact Dh p nd2 hj hj' (by rw[q]; exact hw) (by rw[q]; exact hw') ha ha'
  have mixed:∀ e∈B,∀ k∈B,wk g (x::i++[y]) e=true→H k=true→at_ g e v=true→at_ g k v=true→e≠k→∃ X,Even g B X∧(∀ j∈B,X j=true→(H j||wk g (x::i++[y]) j)=true)∧∀ j∈B,(H j||wk g (x::i++[y]) j)=true→at_ g j v=true→X j=((j==e)||(j==k)):=by
   intro e he k hk hw hK hev hkv hne
   have hvi:v=x∨v=y:=by
    rcases hxy v ⟨e,he,hev,hw⟩ with h|h
    ·rw[w.fresh v h k hk hkv] at hK; cases hK
    ·exact h
   have h0:=w.new e he hw
   have hce:cy g (x::s++y::i.reverse) e=true:=by rw[cy1,hw,not1 e he h0]; rfl
   obtain⟨a,ha,hae,hav,hca,hall⟩:=zm p hc1 he hev hce
   have hwa:wk g (x::i++[y]) a=false:=by
    cases h:wk g (x::i++[y]) a
    ·rfl
    ·exact absurd (ends v hvi a ha e he hav hev h hw) hae
   have hHa:H a=true:=by
    rw[cy1,hwa,cZ] at hca
    exact arc1 a ha hca
   have hsub:∀ j∈B,cy g (x::s++y::i.reverse) j=true→(H j||wk g (x::i++[y]) j)=true:=λj hj h=>by
    rw[cy1] at h
    cases h1:wk g (x::i++[y]) j
    ·rw[h1,cZ] at h; rw[arc1 j hj h]; rfl
    ·simp
   by_cases hak:a=k
   ·subst hak
    refine⟨_,iH p hc1,hsub,λj hj _ hjv=>?_⟩
    cases hcj:cy g (x::s++y::i.reverse) j
    ·have q1:j≠e:=λq=>by rw[q,hce] at hcj; cases hcj
     have q2:j≠a:=λq=>by rw[q,hca] at hcj; cases hcj
     rw[beq_eq_false_iff_ne.2 q1,beq_eq_false_iff_ne.2 q2]; rfl
    ·rcases hall j hj hjv hcj with rfl|rfl<;>simp
   ·obtain⟨X,hX,hXH,hXj⟩:=L.bond v a k ha hk hHa hK hav hkv hak
    refine⟨_,hX.xor (iH p hc1),λj hj h=>?_,λj hj hjH hjv=>?_⟩
    ·cases hx:X j
     ·rw[hx,dS] at h; exact hsub j hj h
     ·rw[hXH j hj hx]; rfl
    ·by_cases q1:j=e
     ·subst q1
      have hx:X j=false:=by
       cases hx:X j
       ·rfl
       ·rw[hXH j hj hx] at h0; cases h0
      rw[hx,hce]; simp
     ·rw[beq_eq_false_iff_ne.2 q1,fQ]
      by_cases hjw:wk g (x::i++[y]) j=true
      ·exact absurd (ends v hvi j hj e he hjv hev hjw hw) q1
      have hjw':wk g (x::i++[y]) j=false:=by simpa using hjw
      rw[hjw',gz] at hjH
      rw[hXj j hj hjH hjv]
      by_cases q2:j=a
      ·subst q2; rw[hca,beq_self_eq_true,beq_eq_false_iff_ne.2 hak]; rfl
      ·have:cy g (x::s++y::i.reverse) j=false:=by
        cases hcj:cy g (x::s++y::i.reverse) j
        ·rfl
        ·rcases hall j hj hjv hcj with h|h
         ·exact absurd h q1
         ·exact absurd h q2
       rw[this,beq_eq_false_iff_ne.2 q2,cZ,fQ]
  cases hwe:wk g (x::i++[y]) e
  ·rw[hwe,gz] at hH
   cases hwk:wk g (x::i++[y]) k
   ·rw[hwk,gz] at hK
    obtain⟨X,hX,hXH,hXj⟩:=L.bond v e k he hk hH hK hev hkv hne
    refine⟨X,hX,λj hj h=>by rw[hXH j hj h]; rfl,λj hj hjH hjv=>?_⟩
    cases hj1:H j
    ·have q0:X j=false:=by
      cases hx:X j
      ·rfl
      ·rw[hXH j hj hx] at hj1; cases hj1
     have q1:j≠e:=λq=>by rw[q,hH] at hj1; cases hj1
     have q2:j≠k:=λq=>by rw[q,hK] at hj1; cases hj1
     rw[q0,beq_eq_false_iff_ne.2 q1,beq_eq_false_iff_ne.2 q2]; rfl
    ·exact hXj j hj hj1 hjv
   ·obtain⟨X,a,b,c⟩:=mixed k hk e he hwk hH hkv hev (Ne.symm hne)
    exact⟨X,a,b,λj hj h1 h2=>by rw[c j hj h1 h2,Bool.or_comm]⟩
  ·cases hwk:wk g (x::i++[y]) k
   ·rw[hwk,gz] at hK
    exact mixed e he k hk hwe hK hev hkv hne
   ·
    have hvi:v∈i:=by
     rcases hxy v ⟨e,he,hev,hwe⟩ with h|h
     ·exact h
     ·exact absurd (ends v h e he k hk hev hkv hwe hwk) hne
    have hce:cy g (x::s++y::i.reverse) e=true:=by rw[cy1,hwe,not1 e he (w.new e he hwe)]; rfl
    have hck:cy g (x::s++y::i.reverse) k=true:=by rw[cy1,hwk,not1 k hk (w.new k hk hwk)]; rfl
    obtain⟨a,ha,hae,hav,hca,hall⟩:=zm p hc1 he hev hce
    have hka:k=a:=(hall k hk hkv hck).resolve_left (Ne.symm hne)
    subst hka
    refine⟨_,iH p hc1,λj hj h=>?_,λj hj hjH hjv=>?_⟩
    ·rw[cy1] at h
     cases h1:wk g (x::i++[y]) j
     ·rw[h1,cZ] at h; rw[arc1 j hj h]; rfl
     ·simp
    ·rw[w.fresh v hvi j hj hjv,fQ] at hjH
     have hcj:cy g (x::s++y::i.reverse) j=true:=by rw[cy1,hjH,not1 j hj (w.new j hj hjH)]; rfl
     rw[hcj]
     rcases hall j hj hjv hcj with rfl|rfl<;>simp
open Go.Blk
variable {g:Gr}{B:List Nat}{H:Nat→Bool}{nf:Nat}{fc:Nat→List Nat}{Φ:Type}{l r:Nat→Φ}{pf:Φ→Nat}{f x y:Nat}{s i t:List Nat}
theorem uj {m a b:Nat}:∀ {L1 L2 p q:List Nat},L1++m::L2=p++a::b::q→(∃ p' q',L1++[m]=p'++a::b::q')∨∃ p' q',m::L2=p'++a::b::q'
 | [],L2,p,q,h=>.inr ⟨p,q,h⟩
 | [c],L2,[],q,h=>by
   simp only[aE,bg] at h
   injection h with h1 h2
   injection h2 with h2 h3
   subst h1 h2
   exact .inl ⟨[],[],rfl⟩
 | c::d::L1,L2,[],q,h=>by
   simp only[aE,bg] at h
   injection h with h1 h2
   injection h2 with h2 h3
   subst h1 h2
   exact .inl ⟨[],L1++[m],rfl⟩
 | c::L1,L2,e::p,q,h=>by
   rw[aE,aE] at h
   injection h with h1 h2
   rcases uj h2 with ⟨p',q',h3⟩|h3
   ·exact .inl ⟨c::p',q',by rw[aE,h3]; rfl⟩
   ·exact .inr h3
theorem Hu (L:Lay g B H nf fc) (hf:f<nf) (w:Way g B H fc f x y s i t) (o:Ori g B H nf fc):Ori g B (λe=>H e||wk g (x::i++[y]) e) (nf+1) (cut fc f nf x y s i t):=by
 have hfc1:cut fc f nf x y s i t f=x::s++y::i.reverse:=by simp [cut]
 have hfc2:cut fc f nf x y s i t nf=y::t++x::i:=by simp [cut,show nf≠f by omega]
 have in1:∀ a b,(∃ p q,x::s++[y]=p++a::b::q)→Nx (x::s++y::i.reverse) a b:=λa b ⟨p,q,h⟩ =>
  (nF (z:=x) (s:=s++y::i.reverse) rfl).2 ⟨p,q++i.reverse++[x],by
   rw[show (x::(s++y::i.reverse))++[x]=(x::s++[y])++(i.reverse++[x]) by simp,h]; simp,by simp only[au,aJ]; omega⟩
 have in2:∀ a b,(∃ p q,y::t++[x]=p++a::b::q)→Nx (y::t++x::i) a b:=λa b ⟨p,q,h⟩ =>
  (nF (z:=y) (s:=t++x::i) rfl).2 ⟨p,q++i++[y],by
   rw[show (y::(t++x::i))++[y]=(y::t++[x])++(i++[y]) by simp,h]; simp,by simp only[au,aJ]; omega⟩
 have in3:∀ a b,(∃ p q,y::i.reverse++[x]=p++a::b::q)→Nx (x::s++y::i.reverse) a b:=λa b ⟨p,q,h⟩ =>
  (nF (z:=x) (s:=s++y::i.reverse) rfl).2 ⟨x::s++p,q,by
   rw[show (x::(s++y::i.reverse))++[x]=(x::s)++(y::i.reverse++[x]) by simp,h]; simp,by simp only[au,aJ]; omega⟩
 have in4:∀ a b,(∃ p q,x::i++[y]=p++a::b::q)→Nx (y::t++x::i) a b:=λa b ⟨p,q,h⟩ =>
  (nF (z:=y) (s:=t++x::i) rfl).2 ⟨y::t++p,q,by
   rw[show (y::(t++x::i))++[y]=(y::t)++(x::i++[y]) by simp,h]; simp,by simp only[au,aJ]; omega⟩
 intro e he hH a b hj
 dsimp only at hH
 cases hw:wk g (x::i++[y]) e
 ·rw[hw,gz] at hH
  obtain⟨f0,hf0,hn⟩:=o e he hH a b hj
  by_cases q:f0=f
  ·subst q
   rw[w.face] at hn
   obtain⟨p,q,h1,_⟩:=(nF (z:=x) (s:=s++y::t) rfl).1 hn
   rw[show (x::(s++y::t))++[x]=(x::s)++y::(t++[x]) by simp] at h1
   rcases uj h1 with ⟨p',q',h2⟩|⟨p',q',h2⟩
   ·exact⟨f0,om,by rw[hfc1]; exact in1 a b ⟨p',q',h2⟩⟩
   ·exact⟨nf,om,by rw[hfc2]; exact in2 a b ⟨p',q',h2⟩⟩
  ·exact⟨f0,om,by
    have:cut fc f nf x y s i t f0=fc f0:=by simp [cut,q,show f0≠nf by omega]
    rw[this]; exact hn⟩
 ·obtain⟨p,u,v,q,h1,h2⟩:=lg hw
  have hq:(a=u∧b=v)∨(a=v∧b=u):=by
   rcases jn_iff.1 hj with ⟨a1,a2⟩|⟨a1,a2⟩<;>rcases jn_iff.1 h2 with ⟨b1,b2⟩|⟨b1,b2⟩<;>omega
  rcases hq with ⟨rfl,rfl⟩|⟨rfl,rfl⟩
  ·exact⟨nf,om,by rw[hfc2]; exact in4 a b ⟨p,q,h1⟩⟩
  ·have h5:y::i.reverse++[x]=q.reverse++a::b::p.reverse:=by
    rw[show y::i.reverse++[x]=(x::i++[y]).reverse by simp,h1]; simp
   exact⟨f,om,by rw[hfc1]; exact in3 a b ⟨q.reverse,p.reverse,h5⟩⟩
theorem hno {H:Nat→Bool}{Z:Nat→Nat→Bool} (x:Ext g B l r H nf Z pf) {e:Nat} (he:e∈B) (hH:H e=false):pf (r e)=pf (l e):=by
 have:=x.lay e he
 rw[hH] at this
 exact (by simpa using this.symm:pf (l e)=pf (r e)).symm
theorem AN (p:Pln g B) (d:Dual g B l r) (hb:Bond g B) (hl:Link g B) (L:Lay g B H nf fc) (hf:f<nf) (w:Way g B H fc f x y s i t) (xt:Ext g B l r H nf (λk=>cy g (fc k)) pf) (hw:∀ e∈B,wk g (x::i++[y]) e=true→pf (l e)=f):∃ pf':Φ→Nat,Ext g B l r (λe=>H e||wk g (x::i++[y]) e) (nf+1) (λk=>cy g (cut fc f nf x y s i t k)) pf':=by
 obtain⟨hc1,hc2⟩:=zY p L hf w
 have hc:=L.circ f hf
 obtain⟨e0,he0,_,hz0⟩:=cy_at p hc (x:=x) (by rw[w.face]; simp)
 have not1:∀ e∈B,H e=false→wk g (x::s++[y]) e=false:=λe he h=>by
  cases h1:wk g (x::s++[y]) e
  ·rfl
  ·have:=L.hcy hf he (by rw[w.face]; exact jX p (by rw[← w.face]; exact hc) he h1)
   rw[this] at h; cases h
 obtain⟨pf',x',_⟩:=xt.step p.nd d hb hl hf (AF p hc) he0 hz0 (w:=wk g (x::i++[y])) (Z1:=cy g (x::s++y::i.reverse)) (Z2:=cy g (y::t++x::i)) (λe he h=>⟨hw e he h,(hno xt he (w.new e he h)).trans (hw e he h)⟩) (iH p hc1) (λe he h=>by
  cases h1:wk g (x::i++[y]) e
  ·rw[cy1,h1,cZ] at h
   refine .inl ?_
   show cy g (fc f) e=true
   rw[w.face]; exact jX p (by rw[← w.face]; exact hc) he h
  ·exact .inr rfl) (λe he h=>by rw[cy1,h,not1 e he (w.new e he h)]; rfl) (λe _=>by
  show _=cy g (fc f) e
  rw[cy1,cy2,w.face,cy0]
  cases wk g (x::s++[y]) e<;>cases wk g (x::i++[y]) e<;>cases wk g (y::t++[x]) e<;>rfl)
 refine⟨pf',x'.congr λk _ e _=>?_⟩
 by_cases q1:k=f
 ·simp [q1,cut]
 ·by_cases q2:k=nf
  ·simp [q2,cut,show nf≠f by omega]
  ·simp [q1,q2,cut]
structure Part (g:Gr) (B:List Nat) (H:Nat→Bool) (pt:Nat→Nat):Prop where
 same:∀ v,(∀ e∈B,at_ g e v=true→H e=false)→∀ e∈B,∀ k∈B,at_ g e v=true→at_ g k v=true→pt e=pt k
 univ:∀ {α:Type} (S:Nat→α),(∀ v,(∀ e∈B,at_ g e v=true→H e=false)→∀ e∈B,∀ k∈B,at_ g e v=true→at_ g k v=true→S e=S k)→∀ e,S (pt e)=S e
theorem part_ex (g:Gr) (B:List Nat) (H:Nat→Bool):∃ pt,Part g B H pt:=by
 obtain⟨c,h1,h2⟩:=qx (λe k:Nat=>∃ v,(∀ e∈B,at_ g e v=true→H e=false)∧e∈B∧k∈B∧at_ g e v=true∧at_ g k v=true)
 exact⟨c,λv hv e he k hk hev hkv=>h1 e k ⟨v,hv,he,hk,hev,hkv⟩,λS hS e=>h2 S (λa b ⟨v,hv,ha,hb,hav,hbv⟩=>hS v hv a ha b hb hav hbv) e⟩
variable {pt:Nat→Nat}
theorem Part.face (nd:B.Nodup) (P:Part g B H pt) (d:Dual g B l r) (hb:Bond g B) {Z:Nat→Nat→Bool} (xt:Ext g B l r H nf Z pf) {e k:Nat} (h:pt e=pt k):pf (l e)=pf (l k):=by
 have u:=P.univ (λj=>pf (l j)) (λv hv e he k hk hev hkv=>xt.same nd d hb hv he hk hev hkv)
 rw[← u e,← u k,h]
theorem Part.hang (p:Pln g B) (P:Part g B H pt) (d:Dual g B l r) (hb:Bond g B) (xt:Ext g B l r H nf (λk=>cy g (fc k)) pf) {e:Nat}{v:Nat} (h:Hg g B H pt (pt e) v):v∈fc (pf (l e)):=by
 obtain⟨k,hk,hkH,hkp,hkv,j,hj,hjv,hjH⟩:=h
 obtain⟨m,hm,hmv,hz⟩:=xt.hangs p.nd d hb hk hj hkv hjv hkH hjH
 rw[P.face p.nd d hb xt hkp] at hz
 exact xO p hm hz hmv
theorem Way.one (p:Pln g B) (P:Part g B H pt) (w:Way g B H fc f x y s i t):∀ e∈B,∀ k∈B,wk g (x::i++[y]) e=true→wk g (x::i++[y]) k=true→pt e=pt k:=by
 intro e he k hk h h'
 refine nA p w.ch (λa u v z b hab e he k hk hj hj'=>?_) e he k hk (nu h) (nu h')
 have hv:v∈i:=by
  have h1:(x::i++[y]).tail.dropLast=i:=by simp
  rw[← h1,hab]
  cases a with
  | nil=>simp [List.dropLast_cons_of_ne_nil]
  | cons z a =>
    rw[aE,nT,show a++u::v::_::b=(a++[u,v])++(_::b) by simp; rfl,eC (by simp)]
    simp
 exact P.same v (w.fresh v hv) e he k hk (by rw[p.jat he hj]; simp [p.jne he hj]) (by rw[p.jat hk hj']; simp [Ne.symm (p.jne hk hj')])
theorem FM (p:Pln g B) (hb:Bond g B) (hl:Link g B) (L:Lay g B H nf fc) (P:Part g B H pt) (hf:f<nf) (w:Way g B H fc f x y s i t)
 (hin:∀ e∈B,wk g (x::i++[y]) e=true→∀ v,Hg g B H pt (pt e) v→v∈fc f)
 (hor:(∀ e∈B,wk g (x::i++[y]) e=true→∀ h,h<nf→(∀ v,Hg g B H pt (pt e) v→v∈fc h)→h=f)∨(∀ e∈B,H e=false→∃ h1 h2,h1<nf∧h2<nf∧h1≠h2∧∀ v,Hg g B H pt (pt e) v→v∈fc h1∧v∈fc h2))
 (hcan:∃ (Φ:Type) (l r:Nat→Φ) (pf:Φ→Nat),Dual g B l r∧Ext g B l r H nf (λk=>cy g (fc k)) pf) :
 ∃ (Φ:Type) (l r:Nat→Φ) (pf:Φ→Nat),Dual g B l r∧Ext g B l r (λe=>H e||wk g (x::i++[y]) e) (nf+1) (λk=>cy g (cut fc f nf x y s i t k)) pf:=by
 obtain⟨Φ,l,r,pf,d,xt⟩:=hcan
 obtain⟨e0,he0,hw0,hx0⟩:∃ e∈B,wk g (x::i++[y]) e=true∧at_ g e x=true:=by
  have hch:=w.ch
  have hnd:=w.nd
  cases i with
  | nil =>
    obtain⟨⟨e,he,hj⟩,_⟩:=hch
    exact⟨e,he,by simp [wk,hj],by rw[p.jat he hj]; simp [Ne.symm (p.jne he hj)]⟩
  | cons u i =>
    obtain⟨⟨e,he,hj⟩,_⟩:=hch
    exact⟨e,he,ym p (a:=[]) hnd he hj,by rw[p.jat he hj]; simp [Ne.symm (p.jne he hj)]⟩
 obtain⟨e1,he1,hw1,hy1⟩:∃ e∈B,wk g (x::i++[y]) e=true∧at_ g e y=true:=by
  have hch:=w.ch
  have hnd:=w.nd
  rcases cK i with h|⟨i',u,h⟩
  ·subst h
   obtain⟨⟨e,he,hj⟩,_⟩:=hch
   exact⟨e,he,by simp [wk,hj],by rw[p.jat he hj]; simp [p.jne he hj]⟩
  ·rw[da] at h
   subst h
   rw[show x::(i'++[u])++[y]=(x::i')++u::[y] by simp] at hch hnd ⊢
   rw[gI] at hch
   obtain⟨e,he,hj⟩:=hch.2.1
   exact⟨e,he,ym p hnd he hj,by rw[p.jat he hj]; simp [p.jne he hj]⟩
 have hall:=w.one p P
 have lx:∀ v,v∈fc f→∃ j∈B,at_ g j v=true∧H j=true:=λv hv=>by
  obtain⟨j,hj,ha,hc⟩:=cy_at p (L.circ f hf) hv
  exact⟨j,hj,ha,L.hcy hf hj hc⟩
 have hxf:x∈fc f:=by rw[w.face]; simp
 have hyf:y∈fc f:=by rw[w.face]; simp
 have gx:Hg g B H pt (pt e0) x:=⟨e0,he0,w.new e0 he0 hw0,rfl,hx0,lx x hxf⟩
 have gy:Hg g B H pt (pt e0) y:=⟨e1,he1,w.new e1 he1 hw1,hall e1 he1 e0 he0 hw1 hw0,hy1,lx y hyf⟩
 have hF:=(xt.lt e0 he0).1
 by_cases hq:pf (l e0)=f
 ·obtain⟨pf',x'⟩:=AN p d hb hl L hf w xt (λe he h=>by rw[← hq]; exact P.face p.nd d hb xt (hall e he e0 he0 h hw0))
  exact⟨Φ,l,r,pf',d,x'⟩
 rcases hor with h1|h2
 ·exact absurd (h1 e0 he0 hw0 _ hF λv hv=>P.hang p d hb xt hv) hq
 ·have hxy:x≠y:=by
   intro h
   have:=w.nd
   rw[aP] at this
   exact this.2.2 x (by simp) y (by simp) h
  obtain⟨Φ',l',r',pf',d',x',h'⟩:=swap p d hb L xt hf hF (Ne.symm hq) hxf (P.hang p d hb xt gx) hyf (P.hang p d hb xt gy) hxy (pt:=pt) P.same (λe _ k _ _ _ h=>P.face p.nd d hb xt h) (λe he hH=>by
   obtain⟨a,b,ha,hb',hab,hv⟩:=h2 e he hH
   by_cases q:a=pf (l e)
   ·exact⟨b,hb',λh=>hab (q.trans h.symm),λv hgv=>(hv v hgv).2⟩
   ·exact⟨a,ha,q,λv hgv=>(hv v hgv).1⟩)
  obtain⟨pf2,x2⟩:=AN p d' hb hl L hf w x' (λe he h=>h' e he (w.new e he h) (P.face p.nd d hb xt (hall e he e0 he0 h hw0)) λv hv=>⟨hin e he h v hv,by
   have:=P.hang p d hb xt hv
   rwa [P.face p.nd d hb xt (hall e he e0 he0 h hw0)] at this⟩)
  exact⟨Φ',l',r',pf2,d',x2⟩
theorem part_fits (p:Pln g B) (hb:Bond g B) (P:Part g B H pt) (hcan:∃ (Φ:Type) (l r:Nat→Φ) (pf:Φ→Nat),Dual g B l r∧Ext g B l r H nf (λk=>cy g (fc k)) pf) {e:Nat} (he:e∈B):∃ h,h<nf∧∀ v,Hg g B H pt (pt e) v→v∈fc h:=by
 obtain⟨Φ,l,r,pf,d,xt⟩:=hcan
 exact⟨pf (l e),(xt.lt e he).1,λv hv=>P.hang p d hb xt hv⟩
theorem lay_dual (L:Lay g B H nf fc) (hall:∀ e∈B,H e=true) (nd:B.Nodup) (p:Pln g B):∃ l r:Nat→Nat,Dual g B l r:=by
 have hch:∀ e,∃ q:Nat×Nat,e∈B→q.1<nf∧q.2<nf∧q.1≠q.2∧∀ f,f<nf→cy g (fc f) e=((f==q.1)||(f==q.2)):=λe=>by
  by_cases h:e∈B
  ·obtain⟨a,b,c⟩:=L.two e h (hall e h)
   exact⟨(a,b),λ_=>c⟩
  ·exact⟨(0,0),λh'=>absurd h' h⟩
 refine⟨λe=>(Classical.choose (hch e)).1,λe=>(Classical.choose (hch e)).2,λS=>?_,λX hX=>?_⟩
 ·refine (Even.sum (l:=List.range nf) (X:=λf e=>S f&&cy g (fc f) e) λf hf=>?_).congr λe he=>?_
  ·cases S f
   ·exact vr
   ·exact iH p (L.circ f (by simpa using hf))
  ·obtain⟨h1,h2,h3,h4⟩:=Classical.choose_spec (hch e) he
   rw[aW (λf hf=>by rw[h4 f (by simpa using hf)]),nZ h1 h2 h3]
 ·obtain⟨T,hT⟩:=L.span X hX λe he _=>hall e he
  refine⟨T,λe he=>?_⟩
  obtain⟨h1,h2,h3,h4⟩:=Classical.choose_spec (hch e) he
  rw[hT e he,aW (λf hf=>by rw[h4 f (by simpa using hf)]),nZ h1 h2 h3]
end Go.Pla
