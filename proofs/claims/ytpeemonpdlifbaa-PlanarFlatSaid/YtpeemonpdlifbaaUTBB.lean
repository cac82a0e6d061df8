/- A graph with a vertex hung on, and one with an edge as a way -/
import Derived.Test.YtpeemonpdlifbaaUTBA
import Derived.Test.YtpeemonpdlifbaaUTAY
import Derived.Test.YtpeemonpdlifbaaUTAH
import Derived.Test.YtpeemonpdlifbaaUTAC
import Derived.Test.YtpeemonpdlifbaaUAmR
set_option linter.all false
namespace Go.Proofs.Ytpeemonpdlifbaa
open Go.Am
open Go.Pla (Dual at_)
theorem vi {n:Nat}{E:List (Int×Int)} (hP:ig n E) (hE:InG n E) (hL:∀ i,i<E.length→tlE E i≠hdE E i):IsP n E↔∃ (Φ:Type) (l r:Nat→Φ),Dual (grE n E hE hL) (List.range E.length) l r :=
 ⟨λh=>h.2 hE hL,λh=>⟨hP,λ_ _=>h⟩⟩
theorem JM {n:Nat}{E:List (Int×Int)} (h:∀ e∈E,∃ a b:Nat,e=(((a:Nat):Int),((b:Nat):Int))∧a<n∧b<n):InG n E:=λi hi=>by
 obtain⟨a,b,e,ha,hb⟩:=h E[i] (aR hi)
 have:=tlE_getD' hi e
 rw[this.1,this.2]
 exact⟨e,ha,hb⟩
where
 tlE_getD' {E:List (Int×Int)}{a b:Nat}{i:Nat} (hi:i<E.length) (h:E[i]=(((a:Nat):Int),((b:Nat):Int))):tlE E i=a∧hdE E i=b:=by
  unfold tlE hdE
  rw[aG,ai hi,h]
  simp
theorem JN {n:Nat}{E:List (Int×Int)} (h:InG n E):∀ e∈E,∃ a b:Nat,e=(((a:Nat):Int),((b:Nat):Int))∧a<n∧b<n:=λe he=>by
 obtain⟨i,hi,rfl⟩:=eT.1 he
 exact⟨_,_,(h i hi).1,(h i hi).2.1,(h i hi).2.2⟩
theorem Ef {n:Nat}{E:List (Int×Int)} (h1:1≤n) (h2:n≤64) (h3:E.length≤128) (hE:InG n E) (hL:∀ i,i<E.length→tlE E i≠hdE E i)
 (hD:∀ i j,i<j→j<E.length→¬ ((tlE E i=tlE E j∧hdE E i=hdE E j)∨(tlE E i=hdE E j∧hdE E i=tlE E j))):ig (n:Nat) E:=by
 refine⟨?_,λe he=>?_,?_⟩
 ·unfold iP
  have:E.all (okE (n:Nat))=true:=by
   rw[cH]
   intro e he
   obtain⟨a,b,rfl,ha,hb⟩:=JN hE e he
   unfold okE
   simp only[aO,aH]
   omega
  rw[this]
  simp only[et,aO,aH]
  omega
 ·obtain⟨i,hi,rfl⟩:=eT.1 he
  have:=hL i hi
  rw[(hE i hi).1]
  simp only
  omega
 ·rw[List.nodup_iff_pairwise_ne,dh,dg]
  intro i j hi hj hij e
  rw[oA] at e
  refine hD i j hij hj ?_
  rw[(hE i hi).1,(hE j hj).1] at e
  simp only[aj] at e
  omega
theorem wJ {n:Nat}{E:List (Int×Int)} (hP:ig (n:Nat) E):∀ i j,i<j→j<E.length→¬ ((tlE E i=tlE E j∧hdE E i=hdE E j)∨(tlE E i=hdE E j∧hdE E i=tlE E j)):=λi j hij hj hc=>by
 have hE:InG n E:=by simpa using nH hP.1
 have:=hP.2.2
 rw[List.nodup_iff_pairwise_ne,dh,dg] at this
 refine this i j om hj hij (oA.2 ?_)
 rw[(hE i om).1,(hE j hj).1]
 simp only[aj]
 omega
end Go.Proofs.Ytpeemonpdlifbaa
namespace Go.Pla
section
open Classical in
noncomputable def cls (N:Nat) (R:Nat→Nat→Prop):Nat:=(List.range N).countP λx=>decide (∀ y,y<x→¬ R y x)
structure Eqv (N:Nat) (R:Nat→Nat→Prop):Prop where
 rf:∀ a,a<N→R a a
 sm:∀ a b,a<N→b<N→R a b→R b a
 tr:∀ a b c,a<N→b<N→c<N→R a b→R b c→R a c
def Mrg (R:Nat→Nat→Prop) (a b:Nat):Nat→Nat→Prop:=λx y=>R x y∨(R x a∧R b y)∨(R x b∧R a y)
variable {N a b:Nat}{R R':Nat→Nat→Prop}
theorem Eqv.mrg (h:Eqv N R) (ha:a<N) (hb:b<N):Eqv N (Mrg R a b) where
 rf:=λx hx=>.inl (h.rf x hx)
 sm:=λx y hx hy q=>by
  rcases q with q|⟨q1,q2⟩|⟨q1,q2⟩
  ·exact .inl (h.sm x y hx hy q)
  ·exact .inr (.inr ⟨h.sm b y hb hy q2,h.sm x a hx ha q1⟩)
  ·exact .inr (.inl ⟨h.sm a y ha hy q2,h.sm x b hx hb q1⟩)
 tr:=λx y z hx hy hz q1 q2=>by
  rcases q1 with q1|⟨u1,u2⟩|⟨u1,u2⟩<;>rcases q2 with q2|⟨v1,v2⟩|⟨v1,v2⟩
  ·exact .inl (h.tr x y z hx hy hz q1 q2)
  ·exact .inr (.inl ⟨h.tr x y a hx hy ha q1 v1,v2⟩)
  ·exact .inr (.inr ⟨h.tr x y b hx hy hb q1 v1,v2⟩)
  ·exact .inr (.inl ⟨u1,h.tr b y z hb hy hz u2 q2⟩)
  ·exact .inr (.inl ⟨u1,v2⟩)
  ·exact .inl (h.tr x a z hx ha hz u1 v2)
  ·exact .inr (.inr ⟨u1,h.tr a y z ha hy hz u2 q2⟩)
  ·exact .inl (h.tr x b z hx hb hz u1 v2)
  ·exact .inr (.inr ⟨u1,v2⟩)
theorem jH (h:∀ x y,x<N→y<N→(R x y↔R' x y)):cls N R=cls N R':=by
 unfold cls
 refine gp λx hx=>?_
 have hx:=aF.1 hx
 simp only[aH]
 exact⟨λq y hy r=>q y hy ((h y x om hx).2 r),λq y hy r=>q y hy ((h y x om hx).1 r)⟩
theorem xS (h:Eqv N R) (ha:a<N) (hb:b<N) (hab:R a b):cls N (Mrg R a b)=cls N R:=by
 refine jH λx y hx hy=>⟨λq=>?_,.inl⟩
 rcases q with q|⟨u,v⟩|⟨u,v⟩
 ·exact q
 ·exact h.tr x a y hx ha hy u (h.tr a b y ha hb hy hab v)
 ·exact h.tr x b y hx hb hy u (h.tr b a y hb ha hy (h.sm a b ha hb hab) v)
theorem pD {p q:Nat→Bool}{c:Nat}:∀ {l:List Nat},l.Nodup→c∈l→p c=true→(∀ x∈l,q x=(p x&&!(x==c)))→l.countP p=l.countP q+1
 | [],_,hc,_,_=>by simp at hc
 | x::l,nd,hc,hp,hq=>by
   obtain⟨n1,n2⟩:=aS.1 nd
   rw[cG,cG]
   by_cases e:x=c
   ·subst e
    have h1:q x=false:=by rw[hq x (by simp)]; simp
    have h2:l.countP p=l.countP q:=gp λy hy=>by
     have:y≠x:=λe=>n1 (e▸hy)
     rw[hq y (by simp [hy])]
     simp [this]
    rw[h1,hp,h2]; simp
   ·have hcl:c∈l:=by
     rcases aq.1 hc with h|h
     ·exact absurd h.symm e
     ·exact h
    have ih:=pD n2 hcl hp λy hy=>hq y (by simp [hy])
    have h1:q x=p x:=by rw[hq x (by simp)]; simp [e]
    rw[ih,h1]; omega
open Classical in
theorem AL (h:Eqv N R) (ha:a<N) (hb:b<N) (hab:¬ R a b):cls N R=cls N (Mrg R a b)+1:=by
 obtain⟨a0,la,ra,ma⟩:=Aw (P:=λy=>R y a) (q:=a) (h.rf a ha)
 obtain⟨b0,lb,rb,mb⟩:=Aw (P:=λy=>R y b) (q:=b) (h.rf b hb)
 have hne:a0≠b0:=λe=>by
  subst e
  exact hab (h.tr a a0 b ha om hb (h.sm a0 a om ha ra) rb)
 have hm:=h.mrg ha hb
 unfold cls
 refine pD (c:=max a0 b0) bp (by rw[aF]; omega) ?_ λx hx=>?_
 ·rw[aH]
  intro y hy hr
  rcases Nat.le_total a0 b0 with q|q
  ·rw[Gg q] at hy hr
   exact mb y hy (h.tr y b0 b om om hb hr rb)
  ·rw[IY q] at hy hr
   exact ma y hy (h.tr y a0 a om om ha hr ra)
 ·have hx:=aF.1 hx
  rw[de,aO,aH,aH,dF,beq_eq_false_iff_ne]
  constructor
  ·intro q
   refine⟨λy hy r=>q y hy (.inl r),λe=>?_⟩
   rcases Nat.le_total a0 b0 with w|w
   ·rw[Gg w] at e
    subst e
    exact q a0 om (.inr (.inl ⟨ra,h.sm x b hx hb rb⟩))
   ·rw[IY w] at e
    subst e
    exact q b0 om (.inr (.inr ⟨rb,h.sm x a hx ha ra⟩))
  ·rintro⟨q,hne2⟩ y hy r
   rcases r with r|⟨u,v⟩|⟨u,v⟩
   ·exact q y hy r
   ·have h1:a0≤y:=gJ λl=>ma y l u
    have h2:x≤b0:=gJ λl=>q b0 l (h.tr b0 b x om hb hx rb v)
    have h3:b0≤x:=gJ λl=>mb x l (h.sm b x hb hx v)
    refine hne2 ?_
    rw[Gg om]; omega
   ·have h1:b0≤y:=gJ λl=>mb y l u
    have h2:x≤a0:=gJ λl=>q a0 l (h.tr a0 a x om ha hx ra v)
    have h3:a0≤x:=gJ λl=>ma x l (h.sm a x ha hx v)
    refine hne2 ?_
    rw[IY om]; omega
def Ob (nx:Nat→Nat) (a b:Nat):Prop:=∃ k,it nx k a=b
theorem Je {nx:Nat→Nat} (k d:Nat):it nx (k+1) d=it nx k (nx d):=by
 rw[pu k 1 d]; rfl
theorem Ob.step {nx:Nat→Nat}{d:Nat}:Ob nx d (nx d):=⟨1,rfl⟩
theorem Ob.refl {nx:Nat→Nat}{d:Nat}:Ob nx d d:=⟨0,rfl⟩
theorem Ob.trans {nx:Nat→Nat}{x y z:Nat} (h:Ob nx x y) (h':Ob nx y z):Ob nx x z:=by
 obtain⟨k,rfl⟩:=h
 obtain⟨j,rfl⟩:=h'
 exact⟨j+k,pu j k x⟩
theorem Ob.keep {nx:Nat→Nat}{P:Nat→Prop} (hc:∀ d,d<N→nx d<N) (hP:∀ d,d<N→P d→P (nx d)) {x y:Nat} (hx:x<N) (h:Ob nx x y) (hp:P x):P y:=by
 obtain⟨k,rfl⟩:=h
 induction k with
 | zero=>exact hp
 | succ k ih=>exact hP _ (it_lt hc hx k) ih
variable {nx:Nat→Nat} (hc:∀ d,d<N→nx d<N) (hi:∀ a b,a<N→b<N→nx a=nx b→a=b)
include hc hi
theorem Ob.back {d:Nat} (hd:d<N):Ob nx (nx d) d:=by
 obtain⟨r,_,h1,h2,_⟩:=back_of hc hi hd
 refine⟨r-1,?_⟩
 rw[← Je,zQ h1,h2]
theorem ob_eqv:Eqv N (Ob nx) where
 rf:=λ_ _=>Ob.refl
 tr:=λ_ _ _ _ _ _ h h'=>h.trans h'
 sm:=λx y hx _ h=>Ob.keep (P:=λy=>Ob nx y x) hc (λd hd q=>(Ob.back hc hi hd).trans q) hx h Ob.refl
omit hc hi
def swp (nx:Nat→Nat) (a b:Nat):Nat→Nat:=λd=>nx (if d=a then b else if d=b then a else d)
theorem pM:swp nx a b a=nx b:=by simp [swp]
theorem sW:swp nx a b b=nx a:=by
 unfold swp
 by_cases e:b=a
 ·simp [e]
 ·simp [e]
theorem pL {d:Nat} (h1:d≠a) (h2:d≠b):swp nx a b d=nx d:=by simp [swp,h1,h2]
theorem Jo {d:Nat}:swp (swp nx a b) a b d=nx d:=by
 by_cases h1:d=a
 ·subst h1; rw[pM,sW]
 ·by_cases h2:d=b
  ·subst h2; rw[sW,pM]
  ·rw[pL h1 h2,pL h1 h2]
include hc
theorem Dr (ha:a<N) (hb:b<N):∀ d,d<N→swp nx a b d<N:=λd hd=>by
 unfold swp
 refine hc _ ?_
 split
 ·exact hb
 ·split
  ·exact ha
  ·exact hd
omit hc
include hi
theorem Ja (ha:a<N) (hb:b<N):∀ c d,c<N→d<N→swp nx a b c=swp nx a b d→c=d:=λc d hcN hd h=>by
 unfold swp at h
 have hl:∀ z,z<N→(if z=a then b else if z=b then a else z)<N:=λz hz=>by
  split
  ·exact hb
  ·split
   ·exact ha
   ·exact hz
 have:=hi _ _ (hl c hcN) (hl d hd) h
 repeat' split at this
 all_goals omega
include hc
theorem An (ha:a<N) (hb:b<N) (h:¬ Ob nx a b):Ob (swp nx a b) a b:=by
 obtain⟨s,_,h1,h2,h3⟩:=back_of hc hi hb
 have hE:=ob_eqv hc hi
 have key:∀ j,j<s→it (swp nx a b) (j+1) a=it nx (j+1) b:=λj=>by
  induction j with
  | zero=>intro _; show swp nx a b a=nx b; exact pM
  | succ j ih =>
    intro hj
    have:=ih om
    show swp nx a b (it (swp nx a b) (j+1) a)=nx (it nx (j+1) b)
    rw[this]
    refine pL (λe=>h ?_) (h3 (j+1) om om)
    exact hE.sm b a hb ha ⟨j+1,e⟩
 refine⟨s,?_⟩
 have:=key (s-1) om
 rw[zQ h1] at this
 rw[this,h2]
theorem JC (ha:a<N) (hb:b<N) (h:¬ Ob nx a b) {x y:Nat} (hx:x<N) (hy:y<N):Ob (swp nx a b) x y↔Mrg (Ob nx) a b x y:=by
 have hE:=ob_eqv hc hi
 have hM:=hE.mrg ha hb
 have hc':=Dr hc ha hb
 have hi':=Ja hi ha hb
 have hE':=ob_eqv hc' hi'
 have hj:=An hc hi ha hb h
 constructor
 ·intro q
  refine Ob.keep (P:=λz=>z<N∧Mrg (Ob nx) a b x z) hc' (λd hd ⟨_,r⟩=>⟨hc' d hd,hM.tr x d _ hx hd (hc' d hd) r ?_⟩) hx q ⟨hx,hM.rf x hx⟩ |>.2
  by_cases e1:d=a
  ·subst e1; rw[pM]; exact .inr (.inl ⟨Ob.refl,Ob.step⟩)
  ·by_cases e2:d=b
   ·subst e2; rw[sW]; exact .inr (.inr ⟨Ob.refl,Ob.step⟩)
   ·rw[pL e1 e2]; exact .inl Ob.step
 ·have sub:∀ {x y},x<N→Ob nx x y→Ob (swp nx a b) x y:=fun {x y} hx q=>by
   refine Ob.keep (P:=λz=>Ob (swp nx a b) x z) hc (λd hd r=>r.trans ?_) hx q Ob.refl
   by_cases e1:d=a
   ·subst e1
    exact hj.trans ⟨1,by show swp nx d b b=nx d; exact sW⟩
   ·by_cases e2:d=b
    ·subst e2
     exact (hE'.sm a d ha hd hj).trans ⟨1,by show swp nx a d a=nx d; exact pM⟩
    ·exact⟨1,by show swp nx a b d=nx d; exact pL e1 e2⟩
  rintro (q|⟨u,v⟩|⟨u,v⟩)
  ·exact sub hx q
  ·exact (sub hx u).trans (hj.trans (sub hb v))
  ·exact (sub hx u).trans ((hE'.sm a b ha hb hj).trans (sub ha v))
theorem Al (ha:a<N) (hb:b<N) (hne:a≠b) (h:Ob nx a b):¬ Ob (swp nx a b) a b:=by
 obtain⟨r,_,h1,h2,h3⟩:=back_of hc hi ha
 obtain⟨p,hp1,hp2,hp3⟩:∃ p,0<p∧p<r∧it nx p a=b:=by
  obtain⟨k,hk⟩:=h
  obtain⟨p,_,q1,q2⟩:=Aw (P:=λk=>it nx k a=b) hk
  refine⟨p,nQ λe=>hne (by rw[e] at q1; exact q1),?_,q1⟩
  refine Nat.lt_of_not_le λhle=>q2 (p-r) om ?_
  have:=pu (nx:=nx) (p-r) r a
  rw[zQ hle,h2] at this
  rw[← this]; exact q1
 intro hob
 have:(λz=>∃ j,p<j∧j≤r∧z=it nx j a) b:=by
  refine Ob.keep (P:=λz=>∃ j,p<j∧j≤r∧z=it nx j a) (Dr hc ha hb) (λd hd hq=>?_) ha hob ⟨r,hp2,ab _,h2.symm⟩
  obtain⟨j,j1,j2,rfl⟩:=hq
  rcases bO j r with q|q
  ·have e1:it nx j a≠a:=h3 j om q
   have e2:it nx j a≠b:=λe=>by
    rw[← hp3] at e
    have:=pu (nx:=nx) p (j-p) a
    rw[show p+(j-p)=j by omega,e] at this
    exact h3 (j-p) om om (mR hc hi ha (it_lt hc ha _) p this).symm
   rw[pL e1 e2]
   exact⟨j+1,om,q,rfl⟩
  ·obtain rfl:j=r:=om
   rw[h2,pM,← hp3]
   exact⟨p+1,om,om,rfl⟩
 obtain⟨j,j1,j2,e⟩:=this
 rw[← hp3] at e
 have:=pu (nx:=nx) p (j-p) a
 rw[show p+(j-p)=j by omega,← e] at this
 have:=mR hc hi ha (it_lt hc ha _) p this
 exact h3 (j-p) om om this.symm
theorem xT (ha:a<N) (hb:b<N) (h:¬ Ob nx a b):cls N (Ob nx)=cls N (Ob (swp nx a b))+1:=by
 rw[AL (ob_eqv hc hi) ha hb h,jH λx y hx hy=>JC hc hi ha hb h hx hy]
omit hc hi in
theorem xr {f f':Nat→Nat} (h:∀ d,f d=f' d) (k d:Nat):it f k d=it f' k d:=by
 induction k with
 | zero=>rfl
 | succ k ih=>show f _=f' _; rw[ih,h]
theorem FE (ha:a<N) (hb:b<N) (hne:a≠b) (h:Ob nx a b):cls N (Ob (swp nx a b))=cls N (Ob nx)+1:=by
 have:=xT (Dr hc ha hb) (Ja hi ha hb) ha hb (Al hc hi ha hb hne h)
 rw[this]
 congr 1
 refine jH λx y hx hy=>?_
 unfold Ob
 simp only[xr (λd=>Jo (nx:=nx) (a:=a) (b:=b) (d:=d))]
end
section
open Go.Blk
def en (g:Gr) (d:Nat):Nat:=if d % 2=0 then g.tl (d / 2) else g.hd (d / 2)
def fl (d:Nat):Nat:=if d % 2=0 then d+1 else d-1
def th (k d:Nat):Nat:=if d / 2<k then fl d else d
theorem Fj {d:Nat}:fl d / 2=d / 2:=by unfold fl; split<;>omega
theorem fl_fl {d:Nat}:fl (fl d)=d:=by
 unfold fl
 split
 ·rw[if_neg om]; omega
 ·rw[if_pos om]; omega
theorem Jn {k d:Nat}:th k d / 2=d / 2:=by
 unfold th; split
 ·exact Fj
 ·rfl
theorem Dq {k d:Nat}:th k (th k d)=d:=by
 unfold th
 by_cases h:d / 2<k
 ·rw[if_pos h,if_pos (by rw[Fj]; exact h),fl_fl]
 ·rw[if_neg h,if_neg h]
theorem th_lt {m k d:Nat} (hd:d<2*m):th k d<2*m:=by
 have:=@Jn k d
 omega
theorem sV {e k:Nat} (h:e<k):th k (2*e)=2*e+1∧th k (2*e+1)=2*e:=by
 unfold th fl
 rw[if_pos om,if_pos om,if_pos om,if_neg om]
 omega
theorem sU {k d:Nat} (h:¬ d / 2<k):th k d=d:=by unfold th; rw[if_neg h]
theorem lW {g:Gr}{e:Nat}:en g (2*e)=g.tl e∧en g (2*e+1)=g.hd e:=by
 unfold en
 rw[if_pos om,if_neg om,show 2*e / 2=e by omega,show (2*e+1) / 2=e by omega]
 exact⟨rfl,rfl⟩
structure Rotn (g:Gr) (σ:Nat→Nat):Prop where
 lt:∀ d,d<2*g.m→σ d<2*g.m
 inj:∀ a b,a<2*g.m→b<2*g.m→σ a=σ b→a=b
 en:∀ d,d<2*g.m→en g (σ d)=en g d
 one:∀ a b,a<2*g.m→b<2*g.m→Go.Pla.en g a=Go.Pla.en g b→Ob σ a b
def ph (σ:Nat→Nat) (k:Nat):Nat→Nat:=λd=>σ (th k d)
def comp (g:Gr):Nat→Nat→Nat→Prop
 | 0=>λu v=>u=v
 | k+1=>Mrg (comp g k) (g.tl k) (g.hd k)
variable {g:Gr}{σ:Nat→Nat}{k:Nat}
theorem comp_eqv:∀ {k:Nat},k≤g.m→Eqv g.n (comp g k)
 | 0,_=>⟨λ_ _=>rfl,λ_ _ _ _ h=>h.symm,λ_ _ _ _ _ _ h h'=>h.trans h'⟩
 | k+1,h=>(comp_eqv (k:=k) om).mrg (g.ok k h).1 (g.ok k h).2.1
theorem kU:∀ {k e:Nat},k≤g.m→e<k→comp g k (g.tl e) (g.hd e)
 | k+1,e,h,he=>by
   by_cases q:e=k
   ·subst q
    have E:=comp_eqv (g:=g) (k:=e) om
    exact .inr (.inl ⟨E.rf _ (g.ok e h).1,E.rf _ (g.ok e h).2.1⟩)
   ·exact .inl (kU om om)
theorem ph_lt (hR:Rotn g σ) {d:Nat} (hd:d<2*g.m):ph σ k d<2*g.m:=hR.lt _ (th_lt hd)
theorem ph_inj (hR:Rotn g σ):∀ a b,a<2*g.m→b<2*g.m→ph σ k a=ph σ k b→a=b:=λa b ha hb h=>by
 have:=hR.inj _ _ (th_lt ha) (th_lt hb) h
 rw[← @Dq k a,this,Dq]
theorem ll (d:Nat):ph σ (k+1) d=swp (ph σ k) (2*k) (2*k+1) d:=by
 unfold ph swp
 congr 1
 by_cases h1:d=2*k
 ·subst h1
  rw[if_pos rfl,(sV om).1,sU om]
 ·rw[if_neg h1]
  by_cases h2:d=2*k+1
  ·subst h2
   rw[if_pos rfl,(sV om).2,sU om]
  ·rw[if_neg h2]
   unfold th
   by_cases h3:d / 2<k
   ·rw[if_pos h3,if_pos om]
   ·rw[if_neg h3,if_neg om]
theorem oz {f f':Nat→Nat} (h:∀ d,f d=f' d) {x y:Nat}:Ob f x y↔Ob f' x y:=by
 unfold Ob
 simp only[xr h]
theorem Ao (hR:Rotn g σ) (hk:k≤g.m) {x y:Nat} (hx:x<2*g.m) (h:Ob (ph σ k) x y):comp g k (en g x) (en g y):=by
 have E:=comp_eqv hk
 have hen:∀ d,d<2*g.m→en g d<g.n:=λd hd=>by
  have:=g.ok (d / 2) om
  unfold en; split
  ·exact this.1
  ·exact this.2.1
 have st:∀ d,d<2*g.m→comp g k (en g d) (en g (ph σ k d)):=λd hd=>by
  unfold ph
  rw[hR.en _ (th_lt hd)]
  by_cases q:d / 2<k
  ·have he:=kU (g:=g) hk q
   rcases Nat.mod_two_eq_zero_or_one d with z|z
   ·obtain⟨e,rfl⟩:∃ e,d=2*e:=⟨d / 2,om⟩
    rw[show 2*e / 2=e by omega] at he
    rw[(sV om).1,lW.1,lW.2]; exact he
   ·obtain⟨e,rfl⟩:∃ e,d=2*e+1:=⟨d / 2,om⟩
    rw[show (2*e+1) / 2=e by omega] at he
    have hok:=g.ok e om
    rw[(sV om).2,lW.1,lW.2]; exact E.sm _ _ hok.1 hok.2.1 he
  ·rw[sU q]; exact E.rf _ (hen d hd)
 have:=Ob.keep (N:=2*g.m) (nx:=ph σ k) (P:=λz=>z<2*g.m∧comp g k (en g x) (en g z)) (λd hd=>ph_lt hR hd) (λd hd ⟨_,q⟩=>⟨ph_lt hR hd,E.tr _ _ _ (hen x hx) (hen d hd) (hen _ (ph_lt hR hd)) q (st d hd)⟩) hx h ⟨hx,E.rf _ (hen x hx)⟩
 exact this.2
theorem wU {F:Nat→Bool}:∀ {m:Nat},par (List.range (2*m)) F=par (List.range m) (λe=>F (2*e) ^^ F (2*e+1))
 | 0=>rfl
 | m+1=>by
   rw[show 2*(m+1)=2*m+1+1 by omega,bS,bS,bS,lz,lz,lz,wU (m:=m)]
   simp only[par,cZ]
   cases par (List.range m) (λe=>F (2*e) ^^ F (2*e+1))<;>cases F (2*m)<;>cases F (2*m+1)<;>rfl
theorem od {G:Nat→Bool}{k:Nat}:∀ {m:Nat},k≤m→(∀ e,k≤e→e<m→G e=false)→par (List.range m) G=par (List.range k) G
 | 0,h,_=>by rw[show k=0 by omega]
 | m+1,h,hG=>by
   by_cases q:k=m+1
   ·rw[q]
   ·rw[bS,lz,od (m:=m) om λe h1 h2=>hG e h1 om]
    simp [par,hG m om om]
theorem qy {α β:Type}{f:α→β}{q:β→Bool}:∀ {l:List α},par (l.map f) q=par l λx=>q (f x)
 | []=>rfl
 | x::l=>by simp only[bB,par]; rw[qy]
theorem Hr {N:Nat}{f:Nat→Nat} (hc:∀ d,d<N→f d<N) (hi:∀ a b,a<N→b<N→f a=f b→a=b):((List.range N).map f).Perm (List.range N):=by
 refine (jh ?_ bp).2 λd=>⟨λh=>?_,λh=>?_⟩
 ·rw[List.Nodup,dh]
  refine List.Pairwise.imp_of_mem ?_ (bp (n:=N))
  intro a b ha hb hab he
  exact hab (hi a b (aF.1 ha) (aF.1 hb) he)
 ·obtain⟨x,hx,rfl⟩:=bE.1 h
  exact aF.2 (hc x (aF.1 hx))
 ·have hd:=aF.1 h
  obtain⟨j,hj⟩:=Ob.back hc hi hd
  refine bE.2 ⟨it f j d,aF.2 (it_lt hc hd j),?_⟩
  rw[← Je] at hj
  exact hj
theorem tR (hR:Rotn g σ) (hk:k≤g.m) {S:Nat→Bool} (hS:∀ d,d<2*g.m→S (ph σ k d)=S d):Even g (List.range k) (λe=>S (2*e) ^^ S (2*e+1)):=λv=>by
 have h1:par (List.range (2*g.m)) (λd=>(en g d==v)&&(S d ^^ S (th k d)))=par (List.range k) (λe=>(S (2*e) ^^ S (2*e+1))&&at_ g e v):=by
  rw[wU,od hk λe h1 h2=>by rw[sU om,sU om]; simp]
  refine aW λe he=>?_
  have he:=aF.1 he
  rw[(sV he).1,(sV he).2,lW.1,lW.2]
  unfold at_
  cases g.tl e==v<;>cases g.hd e==v<;>cases S (2*e)<;>cases S (2*e+1)<;>rfl
 rw[← h1]
 have h2:∀ d∈List.range (2*g.m),((en g d==v)&&(S d ^^ S (th k d)))=(((en g d==v)&&S d) ^^ ((en g (σ d)==v)&&S (σ d))):=λd hd=>by
  have hd:=aF.1 hd
  have:=hS (th k d) (th_lt hd)
  unfold ph at this
  rw[Dq] at this
  rw[hR.en d hd,this]
  cases en g d==v<;>cases S d<;>cases S (th k d)<;>rfl
 rw[aW h2,dN,← qy (f:=σ) (q:=λd=>(en g d==v)&&S d),wT (Hr hR.lt hR.inj)]
 simp
theorem JR {B:List Nat} (hB:∀ e∈B,e<g.m) {X:Nat→Bool} (hX:Even g B X) (K:Nat→Bool):par B (λe=>X e&&(K (g.tl e) ^^ K (g.hd e)))=false:=by
 have h1:par (List.range g.n) (λv=>K v&&par B (λe=>X e&&at_ g e v))=false:=ez λv _=>by rw[hX v]; simp
 rw[aW (q:=λv=>par B (λe=>X e&&(K v&&at_ g e v))) (λv _=>by
  rw[← fZ]
  exact aW λe _=>by cases X e<;>cases K v<;>rfl),ji] at h1
 rw[← h1]
 refine aW λe he=>?_
 rw[fZ]
 congr 1
 have hok:=g.ok e (hB e he)
 rw[aW (q:=λv=>((v==g.tl e)&&K v) ^^ ((v==g.hd e)&&K v)) (λv _=>by
  unfold at_
  rw[fw (a:=g.tl e),fw (a:=g.hd e)]
  cases v==g.tl e<;>cases v==g.hd e<;>cases K v<;>rfl),dN,dx bp (by simpa using hok.1),dx bp (by simpa using hok.2.1)]
def Cuts (g:Gr) (σ:Nat→Nat) (k:Nat):Prop:=∀ X,Even g (List.range k) X→∃ S:Nat→Bool,(∀ d,d<2*g.m→S (ph σ k d)=S d)∧∀ e,e<k→X e=(S (2*e) ^^ S (2*e+1))
theorem oa {G:Nat→Bool}:par (List.range (k+1)) G=(par (List.range k) G ^^ G k):=by
 rw[bS,lz]; simp [par]
theorem tS {X:Nat→Bool} (hX:Even g (List.range (k+1)) X) (h:X k=false):Even g (List.range k) X:=λv=>by
 have:=hX v
 rw[oa,h] at this
 simpa using this
theorem Fo {X:Nat→Bool} (hX:Even g (List.range k) X):Even g (List.range (k+1)) (λe=>X e&&decide (e<k)):=λv=>by
 rw[oa,aW (q:=λe=>X e&&at_ g e v) (λe he=>by simp [aF.1 he]),hX v]
 simp
theorem Ob.bool {N:Nat}{nx:Nat→Nat}{S:Nat→Bool} (hc:∀ d,d<N→nx d<N) (hS:∀ d,d<N→S (nx d)=S d) {x y:Nat} (hx:x<N) (h:Ob nx x y):S y=S x :=
 Ob.keep (P:=λz=>S z=S x) hc (λd hd q=>(hS d hd).trans q) hx h rfl
theorem uf (hR:Rotn g σ) (hk:k<g.m) (h:Cuts g σ (k+1)):Cuts g σ k:=λX hX=>by
 obtain⟨S,h1,h2⟩:=h _ (Fo hX)
 have hab:S (2*k)=S (2*k+1):=by
  have:=h2 k om
  simp only[Nat.lt_irrefl,decide_false,fB] at this
  cases e1:S (2*k)<;>cases e2:S (2*k+1)<;>rw[e1,e2] at this<;>first|rfl|cases this
 refine⟨S,λd hd=>?_,λe he=>?_⟩
 ·by_cases q1:d=2*k
  ·subst q1
   have:=h1 (2*k+1) om
   rw[ll,sW] at this
   rw[this,hab]
  ·by_cases q2:d=2*k+1
   ·subst q2
    have:=h1 (2*k) om
    rw[ll,pM] at this
    rw[this,hab]
   ·have:=h1 d hd
    rwa [ll,pL q1 q2] at this
 ·have:=h2 e om
  rwa [aN he,et] at this
theorem inv_next (hk:k<g.m) {S:Nat→Bool} (hS:∀ d,d<2*g.m→S (ph σ k d)=S d) (hab:S (2*k)=S (2*k+1)):∀ d,d<2*g.m→S (ph σ (k+1) d)=S d:=λd hd=>by
 rw[ll]
 by_cases q1:d=2*k
 ·subst q1; rw[pM,hS _ om,hab]
 ·by_cases q2:d=2*k+1
  ·subst q2; rw[sW,hS _ om,hab]
  ·rw[pL q1 q2,hS d hd]
open Classical in
theorem CD (hR:Rotn g σ) (hk:k<g.m) (hO:Ob (ph σ k) (2*k) (2*k+1)) (h:Cuts g σ k):Cuts g σ (k+1):=λX hX=>by
 have hc:∀ d,d<2*g.m→ph σ k d<2*g.m:=λd hd=>ph_lt hR hd
 have hc':∀ d,d<2*g.m→ph σ (k+1) d<2*g.m:=λd hd=>ph_lt hR hd
 have base:∀ X,Even g (List.range (k+1)) X→X k=false→∃ S:Nat→Bool,(∀ d,d<2*g.m→S (ph σ (k+1) d)=S d)∧∀ e,e<k+1→X e=(S (2*e) ^^ S (2*e+1)):=λX hX hXk=>by
  obtain⟨S,h1,h2⟩:=h X (tS hX hXk)
  have hab:=Ob.bool hc h1 om hO
  refine⟨S,inv_next hk h1 hab.symm,λe he=>?_⟩
  by_cases q:e=k
  ·subst q; rw[hXk,hab]; simp
  ·exact h2 e om
 cases hXk:X k with
 | false=>exact base X hX hXk
 | true =>
   have E:=ob_eqv hc' (ph_inj (k:=k+1) hR)
   have no:¬ Ob (ph σ (k+1)) (2*k) (2*k+1):=by
    rw[oz ll]
    exact Al hc (ph_inj hR) om om om hO
   let T:Nat→Bool:=λd=>decide (Ob (ph σ (k+1)) (2*k) d)
   have hT:∀ d,d<2*g.m→T (ph σ (k+1) d)=T d:=λd hd=>by
    show decide _=decide _
    rw[decide_eq_decide]
    exact⟨λq=>q.trans (Ob.back hc' (ph_inj hR) hd),λq=>q.trans Ob.step⟩
   have hTe:=tR hR (k:=k+1) hk hT
   have ta:T (2*k)=true:=aN Ob.refl
   have tb:T (2*k+1)=false:=aK no
   obtain⟨S,h1,h2⟩:=base _ (hX.xor hTe) (by rw[hXk,ta,tb]; rfl)
   refine⟨λd=>S d ^^ T d,λd hd=>by show (S _ ^^ T _)=(S _ ^^ T _); rw[h1 d hd,hT d hd],λe he=>?_⟩
   have:(X e ^^ (T (2*e) ^^ T (2*e+1)))=(S (2*e) ^^ S (2*e+1)):=h2 e he
   show X e=((S (2*e) ^^ T (2*e)) ^^ (S (2*e+1) ^^ T (2*e+1)))
   generalize T (2*e)=t1 at *
   generalize T (2*e+1)=t2 at *
   revert this
   cases X e<;>cases S (2*e)<;>cases S (2*e+1)<;>cases t1<;>cases t2<;>simp
open Classical in
theorem CE (hR:Rotn g σ) (hk:k<g.m) (hC:¬ comp g k (g.tl k) (g.hd k)) (h:Cuts g σ k):Cuts g σ (k+1):=λX hX=>by
 have E:=comp_eqv (g:=g) (k:=k) om
 have hok:=g.ok k hk
 let K:Nat→Bool:=λv=>decide (comp g k (g.tl k) v)
 have hKe:∀ e,e<k→K (g.tl e)=K (g.hd e):=λe he=>by
  have hoe:=g.ok e om
  have hce:=kU (g:=g) (k:=k) om he
  show decide _=decide _
  rw[decide_eq_decide]
  exact⟨λq=>E.tr _ _ _ hok.1 hoe.1 hoe.2.1 q hce,λq=>E.tr _ _ _ hok.1 hoe.2.1 hoe.1 q (E.sm _ _ hoe.1 hoe.2.1 hce)⟩
 have k1:K (g.tl k)=true:=aN (E.rf _ hok.1)
 have k2:K (g.hd k)=false:=aK hC
 have hXk:X k=false:=by
  have:=JR (B:=List.range (k+1)) (λe he=>by have:=aF.1 he; omega) hX K
  rw[oa,ez λe he=>by rw[hKe e (aF.1 he)]; simp,k1,k2] at this
  simpa using this
 obtain⟨S,h1,h2⟩:=h X (tS hX hXk)
 have hKs:∀ d,d<2*g.m→K (en g (ph σ k d))=K (en g d):=λd hd=>by
  have hen:∀ d,d<2*g.m→en g d<g.n:=λd hd=>by
   have:=g.ok (d / 2) om
   unfold en; split
   ·exact this.1
   ·exact this.2.1
  have hce:=Ao hR (k:=k) om hd Ob.step
  show decide _=decide _
  rw[decide_eq_decide]
  exact⟨λq=>E.tr _ _ _ hok.1 (hen _ (ph_lt hR hd)) (hen _ hd) q (E.sm _ _ (hen _ hd) (hen _ (ph_lt hR hd)) hce),λq=>E.tr _ _ _ hok.1 (hen _ hd) (hen _ (ph_lt hR hd)) q hce⟩
 by_cases hab:S (2*k)=S (2*k+1)
 ·refine⟨S,inv_next hk h1 hab,λe he=>?_⟩
  by_cases q:e=k
  ·subst q; rw[hXk,hab]; simp
  ·exact h2 e om
 ·refine⟨λd=>S d ^^ K (en g d),inv_next (S:=λd=>S d ^^ K (en g d)) hk (λd hd=>by rw[h1 d hd,hKs d hd]) ?_,λe he=>?_⟩
  ·show (S _ ^^ K _)=(S _ ^^ K _)
   rw[lW.1,lW.2,k1,k2]
   cases e1:S (2*k)<;>cases e2:S (2*k+1)<;>rw[e1,e2] at hab<;>simp_all
  ·show _=((S _ ^^ K _) ^^ (S _ ^^ K _))
   rw[lW.1,lW.2]
   by_cases q:e=k
   ·subst q
    rw[hXk,k1,k2]
    cases e1:S (2*e)<;>cases e2:S (2*e+1)<;>rw[e1,e2] at hab<;>simp_all
   ·have hek:e<k:=om
    rw[hKe e hek,h2 e hek]
    cases S (2*e)<;>cases S (2*e+1)<;>cases K (g.hd e)<;>rfl
theorem xR:∀ {k:Nat},k≤g.m→∀ {u v:Nat},comp g k u v→∃ Y:Nat→Bool,∀ w,par (List.range k) (λe=>Y e&&at_ g e w)=((u==w) ^^ (v==w))
 | 0,_,u,v,h=>⟨λ_=>false,λw=>by rw[show u=v from h]; simp [par]⟩
 | k+1,hk,u,v,h=>by
   have up:∀ {u v:Nat},comp g k u v→∃ Y:Nat→Bool,Y k=false∧∀ w,par (List.range (k+1)) (λe=>Y e&&at_ g e w)=((u==w) ^^ (v==w)):=fun {u v} h=>by
    obtain⟨Y,hY⟩:=xR om h
    refine⟨λe=>Y e&&decide (e<k),by simp,λw=>?_⟩
    rw[oa,aW (q:=λe=>Y e&&at_ g e w) (λe he=>by simp [aF.1 he]),hY w]
    simp
   have one:∀ w,par (List.range (k+1)) (λe=>(e==k)&&at_ g e w)=((g.tl k==w) ^^ (g.hd k==w)):=λw=>by
    rw[dx bp (by simp)]; rfl
   rcases h with h|⟨h1,h2⟩|⟨h1,h2⟩
   ·obtain⟨Y,_,hY⟩:=up h
    exact⟨Y,hY⟩
   ·obtain⟨Y1,_,hY1⟩:=up h1
    obtain⟨Y2,_,hY2⟩:=up h2
    refine⟨λe=>(Y1 e ^^ Y2 e) ^^ (e==k),λw=>?_⟩
    rw[aW (q:=λe=>((Y1 e&&at_ g e w) ^^ (Y2 e&&at_ g e w)) ^^ ((e==k)&&at_ g e w)) (λe _=>by show (((Y1 e ^^ Y2 e) ^^ (e==k))&&at_ g e w)=_; cases Y1 e<;>cases Y2 e<;>cases e==k<;>cases at_ g e w<;>rfl),dN,dN,hY1,hY2,one]
    cases u==w<;>cases g.tl k==w<;>cases g.hd k==w<;>cases v==w<;>rfl
   ·obtain⟨Y1,_,hY1⟩:=up h1
    obtain⟨Y2,_,hY2⟩:=up h2
    refine⟨λe=>(Y1 e ^^ Y2 e) ^^ (e==k),λw=>?_⟩
    rw[aW (q:=λe=>((Y1 e&&at_ g e w) ^^ (Y2 e&&at_ g e w)) ^^ ((e==k)&&at_ g e w)) (λe _=>by show (((Y1 e ^^ Y2 e) ^^ (e==k))&&at_ g e w)=_; cases Y1 e<;>cases Y2 e<;>cases e==k<;>cases at_ g e w<;>rfl),dN,dN,hY1,hY2,one]
    cases u==w<;>cases g.tl k==w<;>cases g.hd k==w<;>cases v==w<;>rfl
theorem Fy (hR:Rotn g σ) (hk:k<g.m) (hO:¬ Ob (ph σ k) (2*k) (2*k+1)) (hC:comp g k (g.tl k) (g.hd k)):¬ Cuts g σ (k+1):=λh=>by
 obtain⟨Y,hY⟩:=xR (g:=g) (k:=k) om hC
 obtain⟨S,h1,h2⟩:=h (λe=>if e=k then true else Y e) λw=>by
  rw[oa,aW (q:=λe=>Y e&&at_ g e w) (λe he=>by
   have:e≠k:=by have:=aF.1 he; omega
   simp [this]),hY w]
  simp [at_]
 have hj:Ob (ph σ (k+1)) (2*k) (2*k+1):=by
  rw[oz ll]
  exact An (N:=2*g.m) (λd hd=>ph_lt hR hd) (ph_inj hR) om om hO
 have:=Ob.bool (λd hd=>ph_lt hR hd) h1 om hj
 have h3:=h2 k om
 rw[this] at h3
 simp at h3
noncomputable def eul (g:Gr) (σ:Nat→Nat) (iso k:Nat):Int:=2*(cls g.n (comp g k):Nat)+(k:Nat)-(g.n:Nat)-((cls (2*g.m) (Ob (ph σ k)):Nat)+(iso:Nat))
theorem JW:∀ {n:Nat},cls n (λu v=>u=v)=n:=fun {n}=>by
 unfold cls
 rw[List.countP_eq_length.2 (λx _=>by
  simp only[aH]
  intro y hy e; omega),bR]
theorem euler (hR:Rotn g σ) {iso:Nat} (hiso:cls (2*g.m) (Ob σ)+iso=g.n):∀ {k:Nat},k≤g.m→∃ j:Nat,eul g σ iso k=2*(j:Int)∧(j=0↔Cuts g σ k)
 | 0,_=>by
   refine⟨0,?_,λ_ X _=>⟨λ_=>false,λ_ _=>rfl,λe he=>absurd he (fJ e)⟩,λ_=>rfl⟩
   have h0:cls (2*g.m) (Ob (ph σ 0))=cls (2*g.m) (Ob σ):=jH λx y _ _=>oz λd=>by
    unfold ph
    rw[sU om]
   have h1:cls g.n (comp g 0)=g.n:=JW
   unfold eul
   rw[h0,h1]
   omega
 | k+1,hk=>by
   obtain⟨j,hj,hC⟩:=euler hR hiso (k:=k) om
   have hc:∀ d,d<2*g.m→ph σ k d<2*g.m:=λd hd=>ph_lt hR hd
   have E:=comp_eqv (g:=g) (k:=k) om
   have hok:=g.ok k hk
   have hcl:cls (2*g.m) (Ob (ph σ (k+1)))=cls (2*g.m) (Ob (swp (ph σ k) (2*k) (2*k+1))):=jH λx y _ _=>oz ll
   have hen:comp g (k+1)=Mrg (comp g k) (g.tl k) (g.hd k):=rfl
   by_cases hO:Ob (ph σ k) (2*k) (2*k+1)
   ·have hcomp:comp g k (g.tl k) (g.hd k):=by
     have:=Ao hR (k:=k) om (x:=2*k) om hO
     rwa [lW.1,lW.2] at this
    have h1:=FE hc (ph_inj hR) (a:=2*k) (b:=2*k+1) om om om hO
    have h2:=xS E hok.1 hok.2.1 hcomp
    refine⟨j,?_,hC.trans ⟨CD hR hk hO,uf hR hk⟩⟩
    rw[← hj]
    unfold eul
    rw[hcl,h1,hen,h2]
    omega
   ·have h1:=xT hc (ph_inj hR) (a:=2*k) (b:=2*k+1) om om hO
    by_cases hcomp:comp g k (g.tl k) (g.hd k)
    ·have h2:=xS E hok.1 hok.2.1 hcomp
     refine⟨j+1,?_,λh=>by omega,λh=>absurd h (Fy hR hk hO hcomp)⟩
     have:eul g σ iso (k+1)=eul g σ iso k+2:=by
      unfold eul
      rw[hcl,h1,hen,h2]
      omega
     rw[this,hj]
     omega
    ·have h2:=AL E hok.1 hok.2.1 hcomp
     refine⟨j,?_,hC.trans ⟨CE hR hk hcomp,uf hR hk⟩⟩
     rw[← hj]
     unfold eul
     rw[hcl,h1,hen,h2]
     omega
theorem CF (hR:Rotn g σ) (h:Cuts g σ g.m):∃ (Φ:Type) (l r:Nat→Φ),Dual g (List.range g.m) l r:=by
 obtain⟨c,h1,h2⟩:=qx (λa b:Nat=>a<2*g.m∧b=ph σ g.m a)
 refine⟨Nat,λe=>c (2*e),λe=>c (2*e+1),λS=>?_,λX hX=>?_⟩
 ·exact tR hR (ab _) (S:=λd=>S (c d)) λd hd=>by rw[h1 d _ ⟨hd,rfl⟩]
 ·obtain⟨S,q1,q2⟩:=h X hX
  refine⟨S,λe he=>?_⟩
  have inv:=h2 S λa b ⟨ha,hb⟩=>by rw[hb,q1 a ha]
  rw[inv,inv]
  exact q2 e (aF.1 he)
end
open Go.Blk
theorem dual_pick {g g':Gr}{f ν:Nat→Nat} (hf:∀ j,j<g'.m→f j<g.m) (fi:∀ i j,i<g'.m→j<g'.m→f i=f j→i=j) (νi:∀ u v,u<g.n→v<g.n→ν u=ν v→u=v)
 (ht:∀ j,j<g'.m→g'.tl j=ν (g.tl (f j))∧g'.hd j=ν (g.hd (f j))) (h:∃ (Φ:Type) (l r:Nat→Φ),Dual g (List.range g.m) l r):∃ (Φ:Type) (l r:Nat→Φ),Dual g' (List.range g'.m) l r:=by
 obtain⟨Φ,l0,r0,d0⟩:=h
 have nd:((List.range g'.m).map f).Nodup:=by
  rw[List.Nodup,dh]
  refine List.Pairwise.imp_of_mem ?_ (bp (n:=g'.m))
  intro a b ha hb hab he
  exact hab (fi a b (aF.1 ha) (aF.1 hb) he)
 obtain⟨l,r,d⟩:=sub_dual (A:=List.range g.m) bp nd (λe he=>by
  obtain⟨j,hj,rfl⟩:=bE.1 he
  exact aF.2 (hf j (aF.1 hj))) d0
 have at1:∀ j,j<g'.m→∀ u,u<g.n→at_ g' j (ν u)=at_ g (f j) u:=λj hj u hu=>by
  have hok:=g.ok _ (hf j hj)
  have e1:(ν (g.tl (f j))==ν u)=(g.tl (f j)==u):=by
   rw[de,beq_iff_eq,beq_iff_eq]
   exact⟨λe=>νi _ _ hok.1 hu e,λe=>by rw[e]⟩
  have e2:(ν (g.hd (f j))==ν u)=(g.hd (f j)==u):=by
   rw[de,beq_iff_eq,beq_iff_eq]
   exact⟨λe=>νi _ _ hok.2.1 hu e,λe=>by rw[e]⟩
  unfold at_
  rw[(ht j hj).1,(ht j hj).2,e1,e2]
 have at2:∀ v,(∀ u,u<g.n→ν u≠v)→∀ j,j<g'.m→at_ g' j v=false:=λv hv j hj=>by
  have hok:=g.ok _ (hf j hj)
  have e1:(ν (g.tl (f j))==v)=false:=by rw[beq_eq_false_iff_ne]; exact hv _ hok.1
  have e2:(ν (g.hd (f j))==v)=false:=by rw[beq_eq_false_iff_ne]; exact hv _ hok.2.1
  unfold at_
  rw[(ht j hj).1,(ht j hj).2,e1,e2]; rfl
 refine⟨Φ,λj=>l (f j),λj=>r (f j),λS v=>?_,λX hX=>?_⟩
 ·by_cases hv:∃ u,u<g.n∧ν u=v
  ·obtain⟨u,hu,rfl⟩:=hv
   have:=d.two S u
   rw[qy] at this
   rw[← this]
   exact aW λj hj=>by rw[at1 j (aF.1 hj) u hu]
  ·refine ez λj hj=>?_
   rw[at2 v (λu hu e=>hv ⟨u,hu,e⟩) j (aF.1 hj),fB]
 ·obtain⟨Y,hY⟩:∃ Y:Nat→Bool,∀ j,j<g'.m→Y (f j)=X j:=by
   classical
   refine⟨λe=>decide (∃ j,j<g'.m∧f j=e∧X j=true),λj hj=>?_⟩
   rw[de,aH]
   constructor
   ·rintro⟨i,hi,he,hx⟩
    rw[← fi i j hi hj he]; exact hx
   ·intro hx; exact⟨j,hj,rfl,hx⟩
  obtain⟨S,hS⟩:=d.one Y λu=>by
   rw[qy]
   by_cases hu:u<g.n
   ·rw[aW (q:=λj=>X j&&at_ g' j (ν u)) λj hj=>by rw[hY j (aF.1 hj),at1 j (aF.1 hj) u hu]]
    exact hX (ν u)
   ·refine ez λj hj=>?_
    have hok:=g.ok _ (hf j (aF.1 hj))
    have e1:(g.tl (f j)==u)=false:=by rw[beq_eq_false_iff_ne]; omega
    have e2:(g.hd (f j)==u)=false:=by rw[beq_eq_false_iff_ne]; omega
    unfold at_
    rw[e1,e2]; simp
  refine⟨S,λj hj=>?_⟩
  rw[← hY j (aF.1 hj)]
  exact hS (f j) (bE.2 ⟨j,hj,rfl⟩)
end Go.Pla
namespace Go.Proofs.Ytpeemonpdlifbaa
open Go.Am
open Go.Pla (Dual at_)
def fx (E:List (Int×Int)) (ν:Nat→Nat) (L:List Nat):List (Int×Int):=L.map λi=>(((ν (tlE E i):Nat):Int),((ν (hdE E i):Nat):Int))
theorem fK {E:List (Int×Int)}{ν:Nat→Nat}{L:List Nat}:(fx E ν L).length=L.length:=by simp [fx]
theorem jS {E:List (Int×Int)}{ν:Nat→Nat}{L:List Nat}{j:Nat} (hj:j<L.length):tlE (fx E ν L) j=ν (tlE E L[j])∧hdE (fx E ν L) j=ν (hdE E L[j]):=by
 have:(fx E ν L).getD j (0,0)=(((ν (tlE E L[j]):Nat):Int),((ν (hdE E L[j]):Nat):Int)):=by
  unfold fx
  rw[aG,aw,ai hj]
  rfl
 show ((fx E ν L).getD j (0,0)).1.toNat=_∧((fx E ν L).getD j (0,0)).2.toNat=_
 rw[this]
 exact⟨di _,di _⟩
theorem xu {n:Nat}{E:List (Int×Int)} (h:IsP (n:Nat) E) {L:List Nat} (nd:L.Nodup) (hLt:∀ i∈L,i<E.length) {ν:Nat→Nat} (hν:∀ v,v<n→ν v<n) (νi:∀ u v,u<n→v<n→ν u=ν v→u=v):IsP (n:Nat) (fx E ν L):=by
 have hP:=h.1
 have hE:InG n E:=by simpa using nH hP.1
 have hL:=xc hP.1 hP.2.1
 have hE':InG n (fx E ν L):=JM λe he=>by
  obtain⟨i,hi,rfl⟩:=bE.1 he
  have:=hE i (hLt i hi)
  exact⟨_,_,rfl,hν _ this.2.1,hν _ this.2.2⟩
 have hlen:L.length≤E.length:=Go.Pla.nd_lt nd hLt
 have hL':∀ j,j<(fx E ν L).length→tlE (fx E ν L) j≠hdE (fx E ν L) j:=λj hj=>by
  rw[fK] at hj
  rw[(jS hj).1,(jS hj).2]
  have hi:=hLt _ (aR hj)
  exact λe=>hL _ hi (νi _ _ (hE _ hi).2.1 (hE _ hi).2.2 e)
 obtain⟨m1,m2,m3,m4⟩:=pi hP.1
 have hP':ig (n:Nat) (fx E ν L):=Ef m1 m2 (by rw[fK]; omega) hE' hL' λi j hij hj hc=>by
  rw[fK] at hj
  have hi:i<L.length:=om
  rw[(jS hi).1,(jS hi).2,(jS hj).1,(jS hj).2] at hc
  have bi:=hE _ (hLt _ (aR hi))
  have bj:=hE _ (hLt _ (aR hj))
  have hne:L[i]≠L[j]:=λe=>by
   have:=(dg.1 nd) i j hi hj hij
   exact this e
  have key:(tlE E L[i]=tlE E L[j]∧hdE E L[i]=hdE E L[j])∨(tlE E L[i]=hdE E L[j]∧hdE E L[i]=tlE E L[j]):=by
   rcases hc with ⟨c1,c2⟩|⟨c1,c2⟩
   ·exact .inl ⟨νi _ _ bi.2.1 bj.2.1 c1,νi _ _ bi.2.2 bj.2.2 c2⟩
   ·exact .inr ⟨νi _ _ bi.2.1 bj.2.2 c1,νi _ _ bi.2.2 bj.2.1 c2⟩
  rcases Nat.lt_or_gt_of_ne hne with q|q
  ·exact wJ hP _ _ q (hLt _ (aR hj)) key
  ·refine wJ hP _ _ q (hLt _ (aR hi)) ?_
   rcases key with ⟨c1,c2⟩|⟨c1,c2⟩
   ·exact .inl ⟨c1.symm,c2.symm⟩
   ·exact .inr ⟨c2.symm,c1.symm⟩
 rw[vi hP' hE' hL']
 rw[vi hP hE hL] at h
 have hd:=Go.Pla.dual_pick (g:=grE n E hE hL) (g':=grE n (fx E ν L) hE' hL') (f:=λj=>L.getD j 0) (ν:=ν) (λj hj=>?_) (λi j hi hj e=>?_) νi (λj hj=>?_) h
 ·exact hd
 ·have hj:j<L.length:=by rw[← fK (E:=E) (ν:=ν)]; exact hj
  show L.getD j 0<E.length
  rw[aG,ai hj]
  exact hLt _ (aR hj)
 ·have hi:i<L.length:=by rw[← fK (E:=E) (ν:=ν)]; exact hi
  have hj:j<L.length:=by rw[← fK (E:=E) (ν:=ν)]; exact hj
  simp only[aG,ai hj,ai hi,dT] at e
  rcases oQ i j with q|q|q
  ·exact absurd e ((dg.1 nd) i j hi hj q)
  ·exact q
  ·exact absurd e.symm ((dg.1 nd) j i hj hi q)
 ·have hj:j<L.length:=by rw[← fK (E:=E) (ν:=ν)]; exact hj
  have:=jS (E:=E) (ν:=ν) hj
  simp only[aG,ai hj,dT]
  exact this
open Go.Am
end Go.Proofs.Ytpeemonpdlifbaa
