/- A step of the search -/
import Derived.Test.YtpeemonpdlifbaaGreatVTAJ
set_option linter.all false
namespace Go.Pla
open Go.Blk
variable {g:Gr}{B:List Nat}{H:Nat→Bool}{nf:Nat}{fc:Nat→List Nat}{Φ:Type}{l r:Nat→Φ}{pf:Φ→Nat}{f x y:Nat}{s i t:List Nat}
theorem uV {m a b:Nat}:∀ {L1 L2 p q:List Nat},L1++m::L2=p++a::b::q→(∃ p' q',L1++[m]=p'++a::b::q')∨∃ p' q',m::L2=p'++a::b::q'
 | [],L2,p,q,h=>.inr ⟨p,q,h⟩
 | [c],L2,[],q,h=>by
   simp only[aE,bj] at h
   injection h with h1 h2
   injection h2 with h2 h3
   subst h1 h2
   exact .inl ⟨[],[],rfl⟩
 | c::d::L1,L2,[],q,h=>by
   simp only[aE,bj] at h
   injection h with h1 h2
   injection h2 with h2 h3
   subst h1 h2
   exact .inl ⟨[],L1++[m],rfl⟩
 | c::L1,L2,e::p,q,h=>by
   rw[aE,aE] at h
   injection h with h1 h2
   rcases uV h2 with ⟨p',q',h3⟩|h3
   ·exact .inl ⟨c::p',q',by rw[aE,h3]; rfl⟩
   ·exact .inr h3
theorem IA (L:Lay g B H nf fc) (hf:f<nf) (w:Way g B H fc f x y s i t) (o:Ori g B H nf fc):Ori g B (λe=>H e||wk g (x::i++[y]) e) (nf+1) (cut fc f nf x y s i t):=by
 have hfc1:cut fc f nf x y s i t f=x::s++y::i.reverse:=by simp [cut]
 have hfc2:cut fc f nf x y s i t nf=y::t++x::i:=by simp [cut,show nf≠f by omega]
 have in1:∀ a b,(∃ p q,x::s++[y]=p++a::b::q)→Nx (x::s++y::i.reverse) a b:=λa b ⟨p,q,h⟩ =>
  (nM (z:=x) (s:=s++y::i.reverse) rfl).2 ⟨p,q++i.reverse++[x],by
   rw[show (x::(s++y::i.reverse))++[x]=(x::s++[y])++(i.reverse++[x]) by simp,h]; simp,by simp only[aw,aI]; omega⟩
 have in2:∀ a b,(∃ p q,y::t++[x]=p++a::b::q)→Nx (y::t++x::i) a b:=λa b ⟨p,q,h⟩ =>
  (nM (z:=y) (s:=t++x::i) rfl).2 ⟨p,q++i++[y],by
   rw[show (y::(t++x::i))++[y]=(y::t++[x])++(i++[y]) by simp,h]; simp,by simp only[aw,aI]; omega⟩
 have in3:∀ a b,(∃ p q,y::i.reverse++[x]=p++a::b::q)→Nx (x::s++y::i.reverse) a b:=λa b ⟨p,q,h⟩ =>
  (nM (z:=x) (s:=s++y::i.reverse) rfl).2 ⟨x::s++p,q,by
   rw[show (x::(s++y::i.reverse))++[x]=(x::s)++(y::i.reverse++[x]) by simp,h]; simp,by simp only[aw,aI]; omega⟩
 have in4:∀ a b,(∃ p q,x::i++[y]=p++a::b::q)→Nx (y::t++x::i) a b:=λa b ⟨p,q,h⟩ =>
  (nM (z:=y) (s:=t++x::i) rfl).2 ⟨y::t++p,q,by
   rw[show (y::(t++x::i))++[y]=(y::t)++(x::i++[y]) by simp,h]; simp,by simp only[aw,aI]; omega⟩
 intro e he hH a b hj
 dsimp only at hH
 cases hw:wk g (x::i++[y]) e
 ·rw[hw,fR] at hH
  obtain⟨f0,hf0,hn⟩:=o e he hH a b hj
  by_cases q:f0=f
  ·subst q
   rw[w.face] at hn
   obtain⟨p,q,h1,_⟩:=(nM (z:=x) (s:=s++y::t) rfl).1 hn
   rw[show (x::(s++y::t))++[x]=(x::s)++y::(t++[x]) by simp] at h1
   rcases uV h1 with ⟨p',q',h2⟩|⟨p',q',h2⟩
   ·exact⟨f0,om,by rw[hfc1]; exact in1 a b ⟨p',q',h2⟩⟩
   ·exact⟨nf,om,by rw[hfc2]; exact in2 a b ⟨p',q',h2⟩⟩
  ·exact⟨f0,om,by
    have:cut fc f nf x y s i t f0=fc f0:=by simp [cut,q,show f0≠nf by omega]
    rw[this]; exact hn⟩
 ·obtain⟨p,u,v,q,h1,h2⟩:=ll hw
  have hq:(a=u∧b=v)∨(a=v∧b=u):=by
   rcases jn_iff.1 hj with ⟨a1,a2⟩|⟨a1,a2⟩<;>rcases jn_iff.1 h2 with ⟨b1,b2⟩|⟨b1,b2⟩<;>omega
  rcases hq with ⟨rfl,rfl⟩|⟨rfl,rfl⟩
  ·exact⟨nf,om,by rw[hfc2]; exact in4 a b ⟨p,q,h1⟩⟩
  ·have h5:y::i.reverse++[x]=q.reverse++a::b::p.reverse:=by
    rw[show y::i.reverse++[x]=(x::i++[y]).reverse by simp,h1]; simp
   exact⟨f,om,by rw[hfc1]; exact in3 a b ⟨q.reverse,p.reverse,h5⟩⟩
theorem hno {H:Nat→Bool}{Z:Nat→Nat→Bool} (x:Ext g B l r H nf Z pf) {e:Nat} (he:e∈B) (hH:H e=false):pf (r e)=pf (l e):=by
 have:=x.lay e he
 rw[hH] at this
 exact (by simpa using this.symm:pf (l e)=pf (r e)).symm
theorem BB (p:Pln g B) (d:Dual g B l r) (hb:Bond g B) (hl:Link g B) (L:Lay g B H nf fc) (hf:f<nf) (w:Way g B H fc f x y s i t) (xt:Ext g B l r H nf (λk=>cy g (fc k)) pf) (hw:∀ e∈B,wk g (x::i++[y]) e=true→pf (l e)=f):∃ pf':Φ→Nat,Ext g B l r (λe=>H e||wk g (x::i++[y]) e) (nf+1) (λk=>cy g (cut fc f nf x y s i t k)) pf':=by
 obtain⟨hc1,hc2⟩:=AC p L hf w
 have hc:=L.circ f hf
 obtain⟨e0,he0,_,hz0⟩:=cy_at p hc (x:=x) (by rw[w.face]; simp)
 have not1:∀ e∈B,H e=false→wk g (x::s++[y]) e=false:=λe he h=>by
  cases h1:wk g (x::s++[y]) e
  ·rfl
  ·have:=L.hcy hf he (by rw[w.face]; exact jX p (by rw[← w.face]; exact hc) he h1)
   rw[this] at h; cases h
 obtain⟨pf',x',_⟩:=xt.step p.nd d hb hl hf (Bt p hc) he0 hz0 (w:=wk g (x::i++[y])) (Z1:=cy g (x::s++y::i.reverse)) (Z2:=cy g (y::t++x::i)) (λe he h=>⟨hw e he h,(hno xt he (w.new e he h)).trans (hw e he h)⟩) (iC p hc1) (λe he h=>by
  cases h1:wk g (x::i++[y]) e
  ·rw[cy1,h1,cI] at h
   refine .inl ?_
   show cy g (fc f) e=true
   rw[w.face]; exact jX p (by rw[← w.face]; exact hc) he h
  ·exact .inr rfl) (λe he h=>by rw[cy1,h,not1 e he (w.new e he h)]; rfl) (λe _=>by
  show _=cy g (fc f) e
  rw[cy1,cy2,w.face,cy0]
  cases wk g (x::s++[y]) e<;>cases wk g (x::i++[y]) e<;>cases wk g (y::t++[x]) e<;>rfl)
 refine⟨pf',x'.congr λk _ e _=>?_⟩
 by_cases q1:k=f
 ·simp [q1,cut]
 ·by_cases q2:k=nf
  ·simp [q2,cut,show nf≠f by omega]
  ·simp [q1,q2,cut]
structure Part (g:Gr) (B:List Nat) (H:Nat→Bool) (pt:Nat→Nat):Prop where
 same:∀ v,(∀ e∈B,at_ g e v=true→H e=false)→∀ e∈B,∀ k∈B,at_ g e v=true→at_ g k v=true→pt e=pt k
 univ:∀ {α:Type} (S:Nat→α),(∀ v,(∀ e∈B,at_ g e v=true→H e=false)→∀ e∈B,∀ k∈B,at_ g e v=true→at_ g k v=true→S e=S k)→∀ e,S (pt e)=S e
theorem part_ex (g:Gr) (B:List Nat) (H:Nat→Bool):∃ pt,Part g B H pt:=by
 obtain⟨c,h1,h2⟩:=vH (λe k:Nat=>∃ v,(∀ e∈B,at_ g e v=true→H e=false)∧e∈B∧k∈B∧at_ g e v=true∧at_ g k v=true)
 exact⟨c,λv hv e he k hk hev hkv=>h1 e k ⟨v,hv,he,hk,hev,hkv⟩,λS hS e=>h2 S (λa b ⟨v,hv,ha,hb,hav,hbv⟩=>hS v hv a ha b hb hav hbv) e⟩
variable {pt:Nat→Nat}
theorem Part.face (nd:B.Nodup) (P:Part g B H pt) (d:Dual g B l r) (hb:Bond g B) {Z:Nat→Nat→Bool} (xt:Ext g B l r H nf Z pf) {e k:Nat} (h:pt e=pt k):pf (l e)=pf (l k):=by
 have u:=P.univ (λj=>pf (l j)) (λv hv e he k hk hev hkv=>xt.same nd d hb hv he hk hev hkv)
 rw[← u e,← u k,h]
theorem Part.hang (p:Pln g B) (P:Part g B H pt) (d:Dual g B l r) (hb:Bond g B) (xt:Ext g B l r H nf (λk=>cy g (fc k)) pf) {e:Nat}{v:Nat} (h:Hg g B H pt (pt e) v):v∈fc (pf (l e)):=by
 obtain⟨k,hk,hkH,hkp,hkv,j,hj,hjv,hjH⟩:=h
 obtain⟨m,hm,hmv,hz⟩:=xt.hangs p.nd d hb hk hj hkv hjv hkH hjH
 rw[P.face p.nd d hb xt hkp] at hz
 exact yy p hm hz hmv
theorem Way.one (p:Pln g B) (P:Part g B H pt) (w:Way g B H fc f x y s i t):∀ e∈B,∀ k∈B,wk g (x::i++[y]) e=true→wk g (x::i++[y]) k=true→pt e=pt k:=by
 intro e he k hk h h'
 refine nH p w.ch (λa u v z b hab e he k hk hj hj'=>?_) e he k hk (nF h) (nF h')
 have hv:v∈i:=by
  have h1:(x::i++[y]).tail.dropLast=i:=by simp
  rw[← h1,hab]
  cases a with
  | nil=>simp [List.dropLast_cons_of_ne_nil]
  | cons z a =>
    rw[aE,ol,show a++u::v::_::b=(a++[u,v])++(_::b) by simp; rfl,eC (by simp)]
    simp
 exact P.same v (w.fresh v hv) e he k hk (by rw[p.jat he hj]; simp [p.jne he hj]) (by rw[p.jat hk hj']; simp [Ne.symm (p.jne hk hj')])
theorem GI (p:Pln g B) (hb:Bond g B) (hl:Link g B) (L:Lay g B H nf fc) (P:Part g B H pt) (hf:f<nf) (w:Way g B H fc f x y s i t)
 (hin:∀ e∈B,wk g (x::i++[y]) e=true→∀ v,Hg g B H pt (pt e) v→v∈fc f)
 (hor:(∀ e∈B,wk g (x::i++[y]) e=true→∀ h,h<nf→(∀ v,Hg g B H pt (pt e) v→v∈fc h)→h=f)∨(∀ e∈B,H e=false→∃ h1 h2,h1<nf∧h2<nf∧h1≠h2∧∀ v,Hg g B H pt (pt e) v→v∈fc h1∧v∈fc h2))
 (hcan:∃ (Φ:Type) (l r:Nat→Φ) (pf:Φ→Nat),Dual g B l r∧Ext g B l r H nf (λk=>cy g (fc k)) pf) :
 ∃ (Φ:Type) (l r:Nat→Φ) (pf:Φ→Nat),Dual g B l r∧Ext g B l r (λe=>H e||wk g (x::i++[y]) e) (nf+1) (λk=>cy g (cut fc f nf x y s i t k)) pf:=by
 obtain⟨Φ,l,r,pf,d,xt⟩:=hcan
 obtain⟨e0,he0,hw0,hx0⟩:∃ e∈B,wk g (x::i++[y]) e=true∧at_ g e x=true:=by
  have hch:=w.ch
  have hnd:=w.nd
  cases i with
  | nil =>
    obtain⟨⟨e,he,hj⟩,_⟩:=hch
    exact⟨e,he,by simp [wk,hj],by rw[p.jat he hj]; simp [Ne.symm (p.jne he hj)]⟩
  | cons u i =>
    obtain⟨⟨e,he,hj⟩,_⟩:=hch
    exact⟨e,he,yO p (a:=[]) hnd he hj,by rw[p.jat he hj]; simp [Ne.symm (p.jne he hj)]⟩
 obtain⟨e1,he1,hw1,hy1⟩:∃ e∈B,wk g (x::i++[y]) e=true∧at_ g e y=true:=by
  have hch:=w.ch
  have hnd:=w.nd
  rcases cJ i with h|⟨i',u,h⟩
  ·subst h
   obtain⟨⟨e,he,hj⟩,_⟩:=hch
   exact⟨e,he,by simp [wk,hj],by rw[p.jat he hj]; simp [p.jne he hj]⟩
  ·rw[dj] at h
   subst h
   rw[show x::(i'++[u])++[y]=(x::i')++u::[y] by simp] at hch hnd ⊢
   rw[gI] at hch
   obtain⟨e,he,hj⟩:=hch.2.1
   exact⟨e,he,yO p hnd he hj,by rw[p.jat he hj]; simp [p.jne he hj]⟩
 have hall:=w.one p P
 have lx:∀ v,v∈fc f→∃ j∈B,at_ g j v=true∧H j=true:=λv hv=>by
  obtain⟨j,hj,ha,hc⟩:=cy_at p (L.circ f hf) hv
  exact⟨j,hj,ha,L.hcy hf hj hc⟩
 have hxf:x∈fc f:=by rw[w.face]; simp
 have hyf:y∈fc f:=by rw[w.face]; simp
 have gx:Hg g B H pt (pt e0) x:=⟨e0,he0,w.new e0 he0 hw0,rfl,hx0,lx x hxf⟩
 have gy:Hg g B H pt (pt e0) y:=⟨e1,he1,w.new e1 he1 hw1,hall e1 he1 e0 he0 hw1 hw0,hy1,lx y hyf⟩
 have hF:=(xt.lt e0 he0).1
 by_cases hq:pf (l e0)=f
 ·obtain⟨pf',x'⟩:=BB p d hb hl L hf w xt (λe he h=>by rw[← hq]; exact P.face p.nd d hb xt (hall e he e0 he0 h hw0))
  exact⟨Φ,l,r,pf',d,x'⟩
 rcases hor with h1|h2
 ·exact absurd (h1 e0 he0 hw0 _ hF λv hv=>P.hang p d hb xt hv) hq
 ·have hxy:x≠y:=by
   intro h
   have:=w.nd
   rw[aN] at this
   exact this.2.2 x (by simp) y (by simp) h
  obtain⟨Φ',l',r',pf',d',x',h'⟩:=swap p d hb L xt hf hF (Ne.symm hq) hxf (P.hang p d hb xt gx) hyf (P.hang p d hb xt gy) hxy (pt:=pt) P.same (λe _ k _ _ _ h=>P.face p.nd d hb xt h) (λe he hH=>by
   obtain⟨a,b,ha,hb',hab,hv⟩:=h2 e he hH
   by_cases q:a=pf (l e)
   ·exact⟨b,hb',λh=>hab (q.trans h.symm),λv hgv=>(hv v hgv).2⟩
   ·exact⟨a,ha,q,λv hgv=>(hv v hgv).1⟩)
  obtain⟨pf2,x2⟩:=BB p d' hb hl L hf w x' (λe he h=>h' e he (w.new e he h) (P.face p.nd d hb xt (hall e he e0 he0 h hw0)) λv hv=>⟨hin e he h v hv,by
   have:=P.hang p d hb xt hv
   rwa [P.face p.nd d hb xt (hall e he e0 he0 h hw0)] at this⟩)
  exact⟨Φ',l',r',pf2,d',x2⟩
theorem part_fits (p:Pln g B) (hb:Bond g B) (P:Part g B H pt) (hcan:∃ (Φ:Type) (l r:Nat→Φ) (pf:Φ→Nat),Dual g B l r∧Ext g B l r H nf (λk=>cy g (fc k)) pf) {e:Nat} (he:e∈B):∃ h,h<nf∧∀ v,Hg g B H pt (pt e) v→v∈fc h:=by
 obtain⟨Φ,l,r,pf,d,xt⟩:=hcan
 exact⟨pf (l e),(xt.lt e he).1,λv hv=>P.hang p d hb xt hv⟩
theorem lay_dual (L:Lay g B H nf fc) (hall:∀ e∈B,H e=true) (nd:B.Nodup) (p:Pln g B):∃ l r:Nat→Nat,Dual g B l r:=by
 have hch:∀ e,∃ q:Nat×Nat,e∈B→q.1<nf∧q.2<nf∧q.1≠q.2∧∀ f,f<nf→cy g (fc f) e=((f==q.1)||(f==q.2)):=λe=>by
  by_cases h:e∈B
  ·obtain⟨a,b,c⟩:=L.two e h (hall e h)
   exact⟨(a,b),λ_=>c⟩
  ·exact⟨(0,0),λh'=>absurd h' h⟩
 refine⟨λe=>(Classical.choose (hch e)).1,λe=>(Classical.choose (hch e)).2,λS=>?_,λX hX=>?_⟩
 ·refine (Even.sum (l:=List.range nf) (X:=λf e=>S f&&cy g (fc f) e) λf hf=>?_).congr λe he=>?_
  ·cases S f
   ·exact even_no
   ·exact iC p (L.circ f (by simpa using hf))
  ·obtain⟨h1,h2,h3,h4⟩:=Classical.choose_spec (hch e) he
   rw[par_congr (λf hf=>by rw[h4 f (by simpa using hf)]),par_two h1 h2 h3]
 ·obtain⟨T,hT⟩:=L.span X hX λe he _=>hall e he
  refine⟨T,λe he=>?_⟩
  obtain⟨h1,h2,h3,h4⟩:=Classical.choose_spec (hch e) he
  rw[hT e he,par_congr (λf hf=>by rw[h4 f (by simpa using hf)]),par_two h1 h2 h3]
open Go.Blk
variable {g:Gr}{A B:List Nat}{Φ:Type}
theorem lA {p:Nat→Bool}{q:Nat→Bool}:∀ {l:List Nat},par (l.filter q) p=par l (λe=>q e&&p e)
 | []=>rfl
 | e::l=>by
   simp only[par,lU]
   cases h:q e
   ·simp [lA (l:=l)]
   ·simp [par,lA (l:=l)]
theorem Iz (na:A.Nodup) (nb:B.Nodup) (hs:∀ e∈B,e∈A) {p:Nat→Bool} (hp:∀ e∈A,e∉B→p e=false):par A p=par B p:=by
 have h1:(A.filter λe=>decide (e∈B)).Perm B:=(jb (na.filter _) nb).2 λe=>by
  simp only[aS,aA]
  exact⟨λh=>h.2,λh=>⟨hs e h,h⟩⟩
 rw[← rP h1,lA]
 refine par_congr λe he=>?_
 by_cases h:e∈B
 ·simp [h]
 ·rw[hp e he h]; simp
theorem even_sub (na:A.Nodup) (nb:B.Nodup) (hs:∀ e∈B,e∈A) {X:Nat→Bool} (hp:∀ e∈A,e∉B→X e=false):Even g A X↔Even g B X:=by
 have:∀ v,par A (λe=>X e&&at_ g e v)=par B (λe=>X e&&at_ g e v):=λv=>Iz na nb hs λe he h=>by rw[hp e he h]; rfl
 constructor
 ·intro h v; rw[← this]; exact h v
 ·intro h v; rw[this]; exact h v
theorem sub_dual (na:A.Nodup) (nb:B.Nodup) (hs:∀ e∈B,e∈A) {l r:Nat→Φ} (d:Dual g A l r):∃ l' r':Nat→Φ,Dual g B l' r':=by
 obtain⟨c,h1,h2⟩:=vH (λa b:Φ=>∃ e∈A,e∉B∧l e=a∧r e=b)
 refine⟨λe=>c (l e),λe=>c (r e),λS=>?_,λX hX=>?_⟩
 ·refine (even_sub na nb hs (X:=λe=>S (c (l e)) ^^ S (c (r e))) λe he hb=>?_).1 (d.two (λa=>S (c a)))
  rw[h1 _ _ ⟨e,he,hb,rfl,rfl⟩]; simp
 ·classical
  have hX':Even g A (λe=>decide (e∈B)&&X e):=(even_sub na nb hs λe _ h=>by simp [h]).2 (hX.congr λe he=>by simp [he])
  obtain⟨S,hS⟩:=d.one _ hX'
  have hc:=h2 S (λa b ⟨e,he,hb,h3,h4⟩=>by
   have:=hS e he
   rw[h3,h4] at this
   simp only[hb,decide_false,ee] at this
   revert this
   cases S a<;>cases S b<;>simp)
  refine⟨S,λe he=>?_⟩
  have:=hS e (hs e he)
  simp only[he,decide_true,fD] at this
  rw[this,hc,hc]
theorem at_inc {e v:Nat} (he:e<g.m):at_ g e v=true↔g.inc e v:=by
 have:=g.ok e he
 unfold at_ Gr.inc
 by_cases a:g.tl e=v
 ·have b:g.hd e≠v:=λh=>this.2.2 (a.trans h.symm)
  rw[beq_iff_eq.2 a,beq_eq_false_iff_ne.2 b]; simp [a,he]
 ·rw[beq_eq_false_iff_ne.2 a]; simp [a,he]
theorem GO {b:List Nat} (hb:IsBlock g b) {v e:Nat} (he:e∈b) (hev:g.inc e v) {k:Nat} (hk:k∈b) {w:Nat} (hw:g.inc k w) (hwv:w≠v):Conn g (·≠v) (g.oth e v) w:=by
 have:=hb.2.1 e he k hk
 clear hk
 induction this generalizing w with
 | refl =>
   rw[fH hev hw hwv]
   exact .refl (inc_oth hev).2.1
 | @step j k hc hr ih =>
   obtain⟨x,hjx,hkx,hcon⟩:=hr
   by_cases hxv:x=v
   ·subst hxv
    have h1:=ih (inc_oth hjx).1 (inc_oth hjx).2.1
    rw[fH hkx hw hwv]
    exact h1.trans hcon
   ·have h1:=ih hjx hxv
    by_cases hwx:w=x
    ·subst hwx; exact h1
    ·rw[fH hkx hw hwx]
     exact .step h1 hkx (by rw[← fH hkx hw hwx]; exact hwv)
theorem blk_even {X:Nat→Bool} (hX:Even g (List.range g.m) X) {b:List Nat} (hb:IsBlock g b):Even g (List.range g.m) (λe=>X e&&decide (e∈b)):=by
 intro v
 by_cases hex:∃ e∈b,e<g.m∧at_ g e v=true
 case neg =>
  refine dW λe he=>?_
  cases ha:at_ g e v
  ·simp
  ·have:e∉b:=λh=>hex ⟨e,h,by simpa using he,ha⟩
   simp [this]
 obtain⟨e,he,hem,hev⟩:=hex
 have hev':=(at_inc hem).1 hev
 classical
 have h1:par (List.range g.n) (λu=>decide (Conn g (·≠v) (g.oth e v) u)&&par (List.range g.m) (λj=>X j&&at_ g j u))=false:=dW λu _=>by rw[hX u]; simp
 rw[par_congr (q:=λu=>par (List.range g.m) (λj=>X j&&(decide (Conn g (·≠v) (g.oth e v) u)&&at_ g j u))) (λu _=>by
  rw[← fS]
  exact par_congr λj _=>by cases X j<;>cases decide (Conn g (·≠v) (g.oth e v) u)<;>rfl),gQ] at h1
 rw[← h1]
 refine par_congr λj hj=>?_
 have hjm:j<g.m:=by simpa using hj
 rw[fS,Bool.and_assoc]
 congr 1
 have hends:par (List.range g.n) (λu=>decide (Conn g (·≠v) (g.oth e v) u)&&at_ g j u)=(decide (Conn g (·≠v) (g.oth e v) (g.tl j)) ^^ decide (Conn g (·≠v) (g.oth e v) (g.hd j))):=by
  have hok:=g.ok j hjm
  rw[par_congr (q:=λu=>((u==g.tl j)&&decide (Conn g (·≠v) (g.oth e v) u)) ^^ ((u==g.hd j)&&decide (Conn g (·≠v) (g.oth e v) u))) (λu _=>by
   unfold at_
   rw[eM (a:=g.tl j),eM (a:=g.hd j)]
   cases u==g.tl j<;>cases u==g.hd j<;>cases decide (Conn g (·≠v) (g.oth e v) u)<;>rfl),df,cY aQ (by simpa using hok.1),cY aQ (by simpa using hok.2.1)]
 rw[hends]
 have hno:¬ Conn g (·≠v) (g.oth e v) v:=λh=>h.right rfl
 have step:∀ a,g.inc j a→a≠v→g.oth j a≠v→(Conn g (·≠v) (g.oth e v) a↔Conn g (·≠v) (g.oth e v) (g.oth j a)):=λa ha h1 h2=>by
  constructor
  ·intro h; exact .step h ha h2
  ·intro h
   have h3:=inc_oth ha
   have:=Conn.step h h3.1 (by rw[h3.2.2]; exact h1)
   rwa [h3.2.2] at this
 have iff:∀ a,g.inc j v→a=g.oth j v→(Conn g (·≠v) (g.oth e v) a↔j∈b):=λa hj ha=>by
  subst ha
  constructor
  ·intro h; exact hb.2.2 e he j ⟨v,hev',hj,h⟩
  ·intro h; exact GO hb he hev' h (inc_oth hj).1 (inc_oth hj).2.1
 have it:g.inc j (g.tl j):=⟨hjm,.inl rfl⟩
 have ih:g.inc j (g.hd j):=⟨hjm,.inr rfl⟩
 have ot:g.oth j (g.tl j)=g.hd j:=by unfold Gr.oth; omega
 have oh:g.oth j (g.hd j)=g.tl j:=by unfold Gr.oth; omega
 have hne:=(g.ok j hjm).2.2
 by_cases a:g.tl j=v
 ·have hjv:g.inc j v:=a▸it
  have hat:at_ g j v=true:=(at_inc hjm).2 hjv
  have q:=iff (g.hd j) hjv (by rw[← a]; exact ot.symm)
  rw[hat,a]
  simp only[hno,decide_false,dJ,eN]
  rw[decide_eq_decide]; exact q.symm
 ·by_cases c:g.hd j=v
  ·have hjv:g.inc j v:=c▸ih
   have hat:at_ g j v=true:=(at_inc hjm).2 hjv
   have q:=iff (g.tl j) hjv (by rw[← c]; exact oh.symm)
   rw[hat,c]
   simp only[hno,decide_false,cI,eN]
   rw[decide_eq_decide]; exact q.symm
  ·have hat:at_ g j v=false:=by
    cases h:at_ g j v
    ·rfl
    ·rcases (at_inc hjm).1 h with ⟨_,h|h⟩
     ·exact absurd h a
     ·exact absurd h c
   have q:=step (g.tl j) it a (by rw[ot]; exact c)
   rw[ot] at q
   rw[hat,dK,decide_eq_decide.2 q,mc]
theorem Gz {v u w:Nat} (h:Conn g (·≠v) u w):∃ t,Ch g (List.range g.m) (u::t)∧lst u t=w∧v∉u::t:=by
 induction h with
 | refl h=>exact⟨[],trivial,rfl,by simpa using Ne.symm h⟩
 | @step a i hc hi hn ih =>
   obtain⟨t,h1,h2,h3⟩:=ih
   have key:∀ (t:List Nat) (u:Nat),Ch g (List.range g.m) (u::t)→lst u t=a→Ch g (List.range g.m) (u::(t++[g.oth i a]))∧lst u (t++[g.oth i a])=g.oth i a:=by
    intro t
    induction t with
    | nil =>
      intro u _ hl
      have hl':u=a:=hl
      subst hl'
      refine⟨⟨⟨i,by simpa using hi.1,?_⟩,trivial⟩,rfl⟩
      rw[jn_iff]
      unfold Gr.oth
      rcases hi.2 with h|h
      ·exact .inl ⟨h,om⟩
      ·exact .inr ⟨om,h⟩
    | cons z t iht =>
      intro u hc hl
      obtain⟨hc1,hc2⟩:=hc
      obtain⟨q1,q2⟩:=iht z hc2 hl
      exact⟨⟨hc1,q1⟩,q2⟩
   obtain⟨q1,q2⟩:=key t u h1 h2
   refine⟨t++[g.oth i a],q1,q2,?_⟩
   intro hm
   rw[← aE,aC] at hm
   rcases hm with hm|hm
   ·exact h3 hm
   ·have:v=g.oth i a:=by simpa using hm
    exact hn this.symm
theorem blk_bond (p:Pln g (List.range g.m)) {b:List Nat} (hb:IsBlock g b) (nb:b.Nodup) (hlt:∀ e∈b,e<g.m):Bond g b:=by
 intro v e k he hk hev hkv hne
 have hev':=(at_inc (hlt e he)).1 hev
 have hkv':=(at_inc (hlt k hk)).1 hkv
 have hcon:=GO hb he hev' hk (inc_oth hkv').1 (inc_oth hkv').2.1
 obtain⟨t,h1,h2,h3⟩:=Gz hcon
 have je:jn g e v (g.oth e v)=true:=by
  rw[jn_iff]; unfold Gr.oth
  rcases hev'.2 with h|h
  ·exact .inl ⟨h,om⟩
  ·exact .inr ⟨om,h⟩
 have jk:jn g k v (g.oth k v)=true:=by
  rw[jn_iff]; unfold Gr.oth
  rcases hkv'.2 with h|h
  ·exact .inl ⟨h,om⟩
  ·exact .inr ⟨om,h⟩
 have hem:e∈List.range g.m:=by simpa using hlt e he
 have hkm:k∈List.range g.m:=by simpa using hlt k hk
 have hX:Even g (List.range g.m) (λj=>wk g (g.oth e v::t) j ^^ ((j==e) ^^ (j==k))):=λu=>by
  rw[par_congr (q:=λj=>(wk g (g.oth e v::t) j&&at_ g j u) ^^ (((j==e)&&at_ g j u) ^^ ((j==k)&&at_ g j u))) (λj _=>by
   dsimp only; cases wk g (g.oth e v::t) j<;>cases j==e<;>cases j==k<;>cases at_ g j u<;>rfl),df,df,cY aQ hem,cY aQ hkm,rO p h1,h2,p.jat hem je,p.jat hkm jk]
  cases v==u<;>cases g.oth e v==u<;>cases g.oth k v==u<;>rfl
 refine⟨_,(even_sub aQ nb (λe he=>by simpa using hlt e he) (λe _ h=>by simp [h])).1 (blk_even hX hb),λj hj hjv=>?_⟩
 rw[jI p (by simpa using hlt j hj) hjv h3]
 by_cases q:j=e
 ·subst q; simp [hj,hne]
 ·rw[beq_eq_false_iff_ne.2 q]; simp [hj]
theorem blk_link {b:List Nat} (hb:IsBlock g b) (hlt:∀ e∈b,e<g.m):Link g b:=by
 intro P hP e he k hk
 have:=hb.2.1 e he k hk
 clear hk
 induction this with
 | refl=>rfl
 | @step j k hc hr ih =>
   have hj:=hb.cls he hc
   have hk:=hb.2.2 j hj k hr
   rw[ih]
   obtain⟨x,h1,h2,_⟩:=hr
   exact hP x j k hj hk ((at_inc (hlt j hj)).2 h1) ((at_inc (hlt k hk)).2 h2)
theorem whole_dual {bs:List (List Nat)} (nd:bs.flatten.Nodup) (hb:∀ b∈bs,IsBlock g b) (part:∀ i,i<g.m↔∃ b∈bs,i∈b) (hd:∀ b∈bs,∃ (Φ:Type) (l r:Nat→Φ),Dual g b l r):∃ (Φ:Type) (l r:Nat→Φ),Dual g (List.range g.m) l r:=by
 classical
 have hch:∀ i:Nat,∃ P:FP,∀ b,bs[i]?=some b→Dual g b P.lq P.rq:=λi=>by
  cases h:bs[i]? with
  | none=>exact⟨⟨Unit,λ_=>(),λ_=>(),λ_=>()⟩,λb hb=>by cases hb⟩
  | some b =>
    obtain⟨Φ,l,r,d⟩:=hd b (dX h)
    exact⟨⟨Φ,l,r,l⟩,λb' hb'=>by cases hb'; exact d⟩
 obtain⟨P,hP⟩:∃ P:Nat→FP,∀ i b,bs[i]?=some b→Dual g b (P i).lq (P i).rq:=⟨λi=>Classical.choose (hch i),λi=>Classical.choose_spec (hch i)⟩
 have hix:∀ e,∃ i,e<g.m→i<bs.length∧∃ b,bs[i]?=some b∧e∈b:=λe=>by
  by_cases h:e<g.m
  ·obtain⟨b,hb',heb⟩:=(part e).1 h
   obtain⟨i,hi⟩:=List.mem_iff_getElem?.1 hb'
   exact⟨i,λ_=>⟨(aK.1 hi).1,b,hi,heb⟩⟩
  ·exact⟨0,λh'=>absurd h' h⟩
 obtain⟨ix,hix⟩:∃ ix:Nat→Nat,∀ e,e<g.m→ix e<bs.length∧∃ b,bs[ix e]?=some b∧e∈b:=⟨λe=>Classical.choose (hix e),λe=>Classical.choose_spec (hix e)⟩
 have uniq:∀ {bs:List (List Nat)},bs.flatten.Nodup→∀ {i j:Nat}{b c:List Nat}{e:Nat},bs[i]?=some b→bs[j]?=some c→e∈b→e∈c→i=j:=by
  intro bs
  induction bs with
  | nil=>intro _ i j b c e h; simp at h
  | cons a bs ih =>
    intro nd i j b c e hi hj hb hc
    rw[eK,aN] at nd
    cases i with
    | zero =>
      cases j with
      | zero=>rfl
      | succ j =>
        simp only[bd,aa,cG] at hi hj
        subst hi
        exact absurd rfl (nd.2.2 e hb e (dQ.2 ⟨c,dX hj,hc⟩))
    | succ i =>
      cases j with
      | zero =>
        simp only[bd,aa,cG] at hi hj
        subst hj
        exact absurd rfl (nd.2.2 e hc e (dQ.2 ⟨b,dX hi,hb⟩))
      | succ j =>
        simp only[cG] at hi hj
        rw[ih nd.2.1 hi hj hb hc]
 have hnd:∀ (i:Nat) (b:List Nat),bs[i]?=some b→b.Nodup:=λi b h=>(iJ.1 nd).1 b (dX h)
 have hsub:∀ i b,bs[i]?=some b→∀ e∈b,e∈List.range g.m:=λi b h e he=>by
  have:=(part e).2 ⟨b,dX h,he⟩
  simpa using this
 refine⟨(i:Nat)×(P i).Ψ,λe=>⟨ix e,(P (ix e)).lq e⟩,λe=>⟨ix e,(P (ix e)).rq e⟩,λS=>?_,λX hX=>?_⟩
 ·refine (Even.sum (l:=List.range bs.length) (X:=λi e=>decide (∃ b,bs[i]?=some b∧e∈b)&&(S ⟨i,(P i).lq e⟩ ^^ S ⟨i,(P i).rq e⟩)) λi hi=>?_).congr λe he=>?_
  ·have hi':i<bs.length:=by simpa using hi
   have hb':bs[i]?=some bs[i]:=ah hi'
   refine (even_sub aQ (hnd i _ hb') (hsub i _ hb') λe _ h=>?_).2 (((hP i _ hb').two λa=>S ⟨i,a⟩).congr λe he=>?_)
   ·have:¬ ∃ b,bs[i]?=some b∧e∈b:=λ⟨b,h1,h2⟩=>by rw[hb'] at h1; cases h1; exact h h2
    simp [this]
   ·have:∃ b,bs[i]?=some b∧e∈b:=⟨_,hb',he⟩
    simp [this]
  ·have hem:e<g.m:=by simpa using he
   obtain⟨h1,b,h2,h3⟩:=hix e hem
   rw[par_congr (q:=λi=>(i==ix e)&&(S ⟨i,(P i).lq e⟩ ^^ S ⟨i,(P i).rq e⟩)) (λi _=>by
    by_cases q:i=ix e
    ·subst q
     have:∃ b,bs[ix e]?=some b∧e∈b:=⟨b,h2,h3⟩
     simp [this]
    ·have:¬ ∃ b,bs[i]?=some b∧e∈b:=λ⟨c,h4,h5⟩=>q (uniq nd h4 h2 h5 h3)
     simp [this,q]),cY (p:=λi=>(S ⟨i,(P i).lq e⟩ ^^ S ⟨i,(P i).rq e⟩)) aQ (by simpa using h1)]
 ·have hS:∀ i,∃ S:(P i).Ψ→Bool,∀ b,bs[i]?=some b→∀ e∈b,X e=(S ((P i).lq e) ^^ S ((P i).rq e)):=λi=>by
   cases h:bs[i]? with
   | none=>exact⟨λ_=>false,λb hb=>by cases hb⟩
   | some b =>
     have h1:=blk_even hX (hb b (dX h))
     have h2:=(even_sub aQ (hnd i b h) (hsub i b h) (λe _ h=>by simp [h])).1 h1
     obtain⟨S,hS⟩:=(hP i b h).one X (h2.congr λe he=>by simp [he])
     exact⟨S,λb' hb'=>by cases hb'; exact hS⟩
  obtain⟨S,hS⟩:∃ S:∀ i,(P i).Ψ→Bool,∀ i b,bs[i]?=some b→∀ e∈b,X e=(S i ((P i).lq e) ^^ S i ((P i).rq e)):=⟨λi=>Classical.choose (hS i),λi=>Classical.choose_spec (hS i)⟩
  refine⟨λa=>S a.1 a.2,λe he=>?_⟩
  obtain⟨_,b,h2,h3⟩:=hix e (by simpa using he)
  exact hS (ix e) b h2 e h3
open Go.Blk
variable (g:Gr) (Bl:List Nat) (laid thr:Nat→Bool)
abbrev LQ:=List (Nat×Nat)×List Nat
def ks (L:List (Nat×Nat)):List Nat:=L.map (·.1)
def goes (x:Nat) (L:List (Nat×Nat)) (i:Nat):Bool:=at_ g i x&&(!((ks L).contains (g.oth i x))&&!(laid i))
def stepE (x:Nat) (s:LQ) (i:Nat):LQ:=if goes g laid x s.1 i=true then (s.1++[(g.oth i x,x)],if thr (g.oth i x)=true then s.2++[g.oth i x] else s.2) else s
def full:Nat→LQ→List (Nat×Nat)
 | 0,s=>s.1
 | f+1,s=>match s.2 with
   | []=>s.1
   | x::Q=>full f (Bl.foldl (stepE g laid thr x) (s.1,Q))
variable {g Bl laid thr}
structure Met (g:Gr) (Bl:List Nat) (laid thr:Nat→Bool) (r:Nat) (L:List (Nat×Nat)):Prop where
 root:∃ T,L=(r,r)::T
 nd:(ks L).Nodup
 par:∀ A y x C,L=A++(y,x)::C→A≠[]→x∈ks A∧(x=r∨thr x=true)∧∃ i∈Bl,jn g i x y=true∧laid i=false
theorem ks_app {A B:List (Nat×Nat)}:ks (A++B)=ks A++ks B:=ez
theorem Met.push {r:Nat}{L:List (Nat×Nat)} (m:Met g Bl laid thr r L) {x i:Nat} (hB:∀ i∈Bl,i<g.m) (hi:i∈Bl) (hx:x∈ks L) (hxr:x=r∨thr x=true) (hg:goes g laid x L i=true):Met g Bl laid thr r (L++[(g.oth i x,x)]):=by
 unfold goes at hg
 simp only[aM,da,eV,aV] at hg
 obtain⟨h1,h2,h3⟩:=hg
 have hinc:=(at_inc (hB i hi)).1 h1
 obtain⟨T,hT⟩:=m.root
 refine⟨⟨T++[(g.oth i x,x)],by rw[hT]; rfl⟩,?_,λA y z C h hA=>?_⟩
 ·rw[ks_app,aN]
  refine⟨m.nd,by simp [ks],λa ha b hb=>?_⟩
  have:b=g.oth i x:=by simpa [ks] using hb
  subst this
  exact λe=>h2 (e▸ha)
 ·rcases cJ C with rfl|⟨C,q,rfl⟩
  ·obtain⟨e1,e2⟩:=dH h rfl
   injection e2 with e2
   injection e2 with e2 e3
   subst e1 e2 e3
   refine⟨hx,hxr,i,hi,?_,h3⟩
   rw[jn_iff]; unfold Gr.oth
   rcases hinc.2 with q|q
   ·exact .inl ⟨q,om⟩
   ·exact .inr ⟨om,q⟩
  ·rw[dj] at h
   have h':L++[(g.oth i x,x)]=(A++(y,z)::C)++[q]:=by rw[h]; simp
   obtain⟨e1,_⟩:=dH h' rfl
   exact m.par A y z C e1 hA
structure Srch (g:Gr) (Bl:List Nat) (laid thr:Nat→Bool) (r:Nat) (s:LQ) (cu:Option (Nat×List Nat)):Prop where
 met:Met g Bl laid thr r s.1
 que:∀ z∈s.2,z∈ks s.1∧(z=r∨thr z=true)
 cur:∀ x is,cu=some (x,is)→x∈ks s.1∧(x=r∨thr x=true)∧∀ i∈Bl,i∉is→at_ g i x=true→laid i=false→g.oth i x∈ks s.1
 done:∀ z∈ks s.1,(z=r∨thr z=true)→z∈s.2∨(∃ is,cu=some (z,is))∨∀ i∈Bl,at_ g i z=true→laid i=false→g.oth i z∈ks s.1
theorem Srch.start {r:Nat}:Srch g Bl laid thr r ([(r,r)],[r]) none where
 met:=⟨⟨[],rfl⟩,by simp [ks],λA y x C h hA=>by
  cases A with
  | nil=>exact absurd rfl hA
  | cons a A =>
    have:=congrArg List.length h
    simp at this⟩
 que:=λz hz=>by
  have:z=r:=by simpa using hz
  subst this; simp [ks]
 cur:=λx is h=>by cases h
 done:=λz hz _=>.inl (by simpa [ks] using hz)
theorem Srch.pop {r x:Nat}{L:List (Nat×Nat)}{Q:List Nat} (s:Srch g Bl laid thr r (L,x::Q) none):Srch g Bl laid thr r (L,Q) (some (x,Bl)) where
 met:=s.met
 que:=λz hz=>s.que z (br _ hz)
 cur:=λy is h=>by
  injection h with h; injection h with h1 h2; subst h1 h2
  have:=s.que x (by simp)
  exact⟨this.1,this.2,λi hi hn=>absurd hi hn⟩
 done:=λz hz hr=>by
  rcases s.done z hz hr with h|⟨is,h⟩|h
  ·rcases au.1 h with rfl|h
   ·exact .inr (.inl ⟨Bl,rfl⟩)
   ·exact .inl h
  ·cases h
  ·exact .inr (.inr h)
theorem Srch.step {r x i:Nat}{is:List Nat}{s:LQ} (h:Srch g Bl laid thr r s (some (x,i::is))) (hB:∀ i∈Bl,i<g.m) (hi:i∈Bl):Srch g Bl laid thr r (stepE g laid thr x s i) (some (x,is)):=by
 obtain⟨c1,c2,c3⟩:=h.cur x _ rfl
 by_cases hg:goes g laid x s.1 i=true
 ·rw[stepE,if_pos hg]
  have mp:=h.met.push hB hi c1 c2 hg
  have hk:∀ z,z∈ks s.1→z∈ks (s.1++[(g.oth i x,x)]):=λz hz=>by rw[ks_app]; exact aZ _ hz
  have hn:g.oth i x∈ks (s.1++[(g.oth i x,x)]):=by rw[ks_app]; simp [ks]
  have hq2:∀ z,z∈s.2→z∈(if thr (g.oth i x)=true then s.2++[g.oth i x] else s.2):=λz hz=>by
   split
   ·exact aZ _ hz
   ·exact hz
  refine⟨mp,λz hz=>?_,λy js e=>?_,λz hz hr=>?_⟩
  ·dsimp only at hz ⊢
   by_cases ht:thr (g.oth i x)=true
   ·rw[if_pos ht] at hz
    rcases aC.1 hz with hz|hz
    ·exact⟨hk z (h.que z hz).1,(h.que z hz).2⟩
    ·have:z=g.oth i x:=by simpa using hz
     subst this; exact⟨hn,.inr ht⟩
   ·rw[if_neg ht] at hz
    exact⟨hk z (h.que z hz).1,(h.que z hz).2⟩
  ·injection e with e; injection e with e1 e2; subst e1 e2
   refine⟨hk _ c1,c2,λj hj hjn ha hl=>?_⟩
   by_cases hji:j=i
   ·subst hji; exact hn
   ·exact hk _ (c3 j hj (by simp [hji,hjn]) ha hl)
  ·dsimp only at hz ⊢
   rw[ks_app] at hz
   rcases aC.1 hz with hz|hz
   ·rcases h.done z hz hr with h1|⟨js,h1⟩|h1
    ·exact .inl (hq2 z h1)
    ·injection h1 with h1; injection h1 with h1 _; subst h1
     exact .inr (.inl ⟨is,rfl⟩)
    ·exact .inr (.inr λj hj ha hl=>hk _ (h1 j hj ha hl))
   ·have:z=g.oth i x:=by simpa [ks] using hz
    subst this
    rcases hr with hr|hr
    ·obtain⟨T,hT⟩:=h.met.root
     unfold goes at hg
     simp only[aM,da,eV,aV] at hg
     exact absurd (by rw[hr,hT]; simp [ks]) hg.2.1
    ·exact .inl (by rw[if_pos hr]; simp)
 ·rw[stepE,if_neg hg]
  refine⟨h.met,h.que,λy js e=>?_,λz hz hr=>?_⟩
  ·injection e with e; injection e with e1 e2; subst e1 e2
   refine⟨c1,c2,λj hj hjn ha hl=>?_⟩
   by_cases hji:j=i
   ·subst hji
    unfold goes at hg
    rw[ha,hl] at hg
    simpa using hg
   ·exact c3 j hj (by simp [hji,hjn]) ha hl
  ·rcases h.done z hz hr with h1|⟨js,h1⟩|h1
   ·exact .inl h1
   ·injection h1 with h1; injection h1 with h1 _; subst h1
    exact .inr (.inl ⟨is,rfl⟩)
   ·exact .inr (.inr h1)
theorem Srch.end {r x:Nat}{s:LQ} (h:Srch g Bl laid thr r s (some (x,[]))):Srch g Bl laid thr r s none where
 met:=h.met
 que:=h.que
 cur:=λ_ _ e=>by cases e
 done:=λz hz hr=>by
  rcases h.done z hz hr with h1|⟨js,h1⟩|h1
  ·exact .inl h1
  ·injection h1 with h1; injection h1 with h1 h2; subst h1 h2
   exact .inr (.inr λi hi=>(h.cur x [] rfl).2.2 i hi (by simp))
  ·exact .inr (.inr h1)
def trr:List (Nat×Nat)→Nat→List Nat
 | [],_=>[]
 | (z,x)::A,y=>if z=y then (if A=[] then [y] else trr A x++[y]) else trr A y
def tr (L:List (Nat×Nat)) (y:Nat):List Nat:=trr L.reverse y
theorem Az {y:Nat}:∀ {B A:List (Nat×Nat)},y∉ks B→trr (B++A) y=trr A y
 | [],_,_=>rfl
 | (z,x)::B,A,h=>by
   have h1:z≠y:=λe=>h (by simp [ks,e])
   have h2:y∉ks B:=λe=>h (by simp only[ks,bA,au] at e ⊢; exact .inr e)
   rw[aE,trr,if_neg h1,Az h2]
theorem tr_app {A B:List (Nat×Nat)} (nd:(ks (A++B)).Nodup) {y:Nat} (h:y∈ks A):tr (A++B) y=tr A y:=by
 unfold tr
 rw[List.reverse_append]
 refine Az λhb=>?_
 rw[ks_app,aN] at nd
 have:y∈ks B:=by simpa [ks] using hb
 exact nd.2.2 y h y this rfl
theorem Met.pre {r:Nat}{A C:List (Nat×Nat)} (m:Met g Bl laid thr r (A++C)) (hA:A≠[]):Met g Bl laid thr r A:=by
 obtain⟨T,hT⟩:=m.root
 refine⟨?_,?_,λX y x Y h hX=>m.par X y x (Y++C) (by rw[h]; simp) hX⟩
 ·cases A with
  | nil=>exact absurd rfl hA
  | cons a A=>rw[aE] at hT; injection hT with h1 _; exact⟨A,by rw[h1]⟩
 ·have:=m.nd
  rw[ks_app,aN] at this
  exact this.1
theorem tr_root {r:Nat}{L:List (Nat×Nat)} (m:Met g Bl laid thr r L):tr L r=[r]:=by
 obtain⟨T,hT⟩:=m.root
 rw[hT,show (r,r)::T=[(r,r)]++T by rfl,tr_app (by rw[← show (r,r)::T=[(r,r)]++T from rfl,← hT]; exact m.nd) (by simp [ks])]
 simp [tr,trr]
theorem tr_last {A:List (Nat×Nat)}{y x:Nat} (hA:A≠[]):tr (A++[(y,x)]) y=tr A x++[y]:=by
 unfold tr
 rw[List.reverse_append]
 simp [trr,hA]
theorem vu:∀ (L:List (Nat×Nat)) (y:Nat),(trr L y).length≤L.length
 | [],_=>by simp [trr]
 | (z,x)::A,y=>by
   have h1:=vu A x
   have h2:=vu A y
   rw[trr]
   split
   ·split
    ·simp
    ·simp; omega
   ·simp; omega
theorem tr_len (L:List (Nat×Nat)) (y:Nat):(tr L y).length≤L.length:=by
 have:=vu L.reverse y
 simpa [tr] using this
theorem tr_ok {r:Nat}:∀ (n:Nat) {L:List (Nat×Nat)},L.length≤n→Met g Bl laid thr r L→∀ y∈ks L,∃ t,tr L y=r::t∧lst r t=y∧(r::t).Nodup∧Ch g (Bl.filter λi=>!(laid i)) (r::t)∧∀ z∈r::t,z∈ks L∧(z=r∨thr z=true∨z=y)
 | 0,L,hn,m=>by
   obtain⟨T,hT⟩:=m.root
   rw[hT] at hn; simp at hn
 | n+1,L,hn,m=>by
   intro y hy
   rcases cJ L with h|⟨A,⟨z,x⟩,h⟩
   ·rw[h] at hy; simp [ks] at hy
   rw[dj] at h
   subst h
   by_cases hA:A=[]
   ·subst hA
    obtain⟨T,hT⟩:=m.root
    have hyr:y=r:=by
     rw[hT] at hy
     rw[bj] at hT
     injection hT with h1 h2
     subst h2
     simpa [ks] using hy
    subst hyr
    refine⟨[],tr_root m,rfl,by simp,trivial,λz hz=>?_⟩
    have:z=y:=by simpa using hz
    subst this; exact⟨hy,.inl rfl⟩
   ·have mA:=m.pre hA
    by_cases hyA:y∈ks A
    ·obtain⟨t,h1,h2,h3,h4,h5⟩:=tr_ok n (by simp at hn; omega) mA y hyA
     refine⟨t,(tr_app m.nd hyA).trans h1,h2,h3,h4,λz hz=>?_⟩
     exact⟨by rw[ks_app]; exact aZ _ (h5 z hz).1,(h5 z hz).2⟩
    ·have hyz:y=z:=by
      rw[ks_app,aC] at hy
      rcases hy with hy|hy
      ·exact absurd hy hyA
      ·simpa [ks] using hy
     subst hyz
     obtain⟨hx,hxr,i,hi,hj,hli⟩:=m.par A y x [] rfl hA
     obtain⟨t,h1,h2,h3,h4,h5⟩:=tr_ok n (by simp at hn; omega) mA x hx
     have hyt:y∉r::t:=λh=>hyA (h5 y h).1
     have key:∀ (t:List Nat) (u:Nat),Ch g (Bl.filter λi=>!(laid i)) (u::t)→lst u t=x→Ch g (Bl.filter λi=>!(laid i)) (u::(t++[y]))∧lst u (t++[y])=y:=by
      intro t
      induction t with
      | nil =>
        intro u _ hl
        have hl':u=x:=hl
        subst hl'
        exact⟨⟨⟨i,by simp [hi,hli],hj⟩,trivial⟩,rfl⟩
      | cons w t iht =>
        intro u hc hl
        obtain⟨q1,q2⟩:=iht w hc.2 hl
        exact⟨⟨hc.1,q1⟩,q2⟩
     obtain⟨k1,k2⟩:=key t r h4 h2
     refine⟨t++[y],by rw[tr_last hA,h1]; rfl,k2,?_,k1,λw hw=>?_⟩
     ·rw[← aE,aN]
      exact⟨h3,by simp,λa ha b hb=>by
       have:b=y:=by simpa using hb
       subst this; exact λe=>hyt (e▸ha)⟩
     ·rw[← aE,aC] at hw
      rcases hw with hw|hw
      ·obtain⟨q1,q2⟩:=h5 w hw
       refine⟨by rw[ks_app]; exact aZ _ q1,?_⟩
       rcases q2 with q|q|q
       ·exact .inl q
       ·exact .inr (.inl q)
       ·subst q; rcases hxr with q|q
        ·exact .inl q
        ·exact .inr (.inl q)
      ·have:w=y:=by simpa using hw
       subst this
       exact⟨hy,.inr (.inr rfl)⟩
end Go.Pla
