/- The search in breadth -/
import Derived.Test.YtpeemonpdlifbaaGreatVTAK
import Derived.Test.YtpeemonpdlifbaaGreatVTAH
set_option linter.all false
namespace Go.Pla
open Go.Blk
variable {g:Gr}{Bl:List Nat}{laid thr:Nat→Bool}
theorem nd_lt {n:Nat}{l:List Nat} (nd:l.Nodup) (h:∀ x∈l,x<n):l.length≤n:=by
 have h1:((List.range n).filter λe=>decide (e∈l)).Perm l:=(jb (List.nodup_range.filter _) nd).2 λe=>by
  simp only[aS,aA,ao]
  exact⟨λh=>h.2,λq=>⟨h e q,q⟩⟩
 have h2:=h1.length_eq
 have h3:=ep (λe=>decide (e∈l)) (List.range n)
 rw[bF] at h3
 omega
theorem BX {x:Nat}{s:LQ}{i:Nat}:∃ C,(stepE g laid thr x s i).1=s.1++C:=by
 unfold stepE
 split
 ·exact⟨_,rfl⟩
 ·exact⟨[],by simp⟩
theorem fold_pre {x:Nat}:∀ (is:List Nat) (s:LQ),∃ C,(is.foldl (stepE g laid thr x) s).1=s.1++C
 | [],s=>⟨[],by simp⟩
 | i::is,s=>by
   obtain⟨C,h1⟩:=fold_pre is (stepE g laid thr x s i)
   obtain⟨D,h2⟩:=BX (g:=g) (laid:=laid) (thr:=thr) (x:=x) (s:=s) (i:=i)
   exact⟨D++C,by rw[dP,h1,h2,bP]⟩
theorem full_pre:∀ (f:Nat) (s:LQ),∃ C,full g Bl laid thr f s=s.1++C
 | 0,s=>⟨[],by simp [full]⟩
 | f+1,(L,[])=>⟨[],by simp [full]⟩
 | f+1,(L,x::Q)=>by
   obtain⟨C,h1⟩:=full_pre f (Bl.foldl (stepE g laid thr x) (L,Q))
   obtain⟨D,h2⟩:=fold_pre (g:=g) (laid:=laid) (thr:=thr) (x:=x) Bl (L,Q)
   exact⟨D++C,by
    show full g Bl laid thr f (Bl.foldl (stepE g laid thr x) (L,Q))=_
    rw[h1,h2,bP]⟩
theorem Met.lt {r:Nat}{L:List (Nat×Nat)} (m:Met g Bl laid thr r L) (hB:∀ i∈Bl,i<g.m) (hr:r<g.n):∀ z∈ks L,z<g.n:=by
 intro z hz
 obtain⟨p,hp,rfl⟩:=bu.1 hz
 obtain⟨A,C,rfl⟩:=bL hp
 by_cases hA:A=[]
 ·subst hA
  obtain⟨T,hT⟩:=m.root
  rw[bj] at hT
  injection hT with h _
  rw[h]; exact hr
 ·obtain⟨_,_,i,hi,hj,_⟩:=m.par A p.1 p.2 C rfl hA
  have:=g.ok i (hB i hi)
  rcases jn_iff.1 hj with ⟨a,b⟩|⟨a,b⟩<;>omega
def todo (n:Nat) (s:LQ):Nat:=n-(ks s.1).length+s.2.length
theorem todo_step {r x i:Nat}{is:List Nat}{s:LQ} (h:Srch g Bl laid thr r s (some (x,i::is))) (hB:∀ i∈Bl,i<g.m) (hr:r<g.n) (hi:i∈Bl):todo g.n (stepE g laid thr x s i)≤todo g.n s:=by
 have h2:=h.step hB hi
 have hl:=nd_lt h2.met.nd (h2.met.lt hB hr)
 revert hl
 unfold stepE todo
 split
 ·intro hl
  have e1:(ks (s.1++[(g.oth i x,x)])).length=(ks s.1).length+1:=by simp [ks]
  dsimp only at hl ⊢
  rw[e1] at hl ⊢
  split
  ·simp; omega
  ·omega
 ·intro _; exact ae _
theorem Srch.fold {r x:Nat} (hB:∀ i∈Bl,i<g.m) (hr:r<g.n):∀ {is:List Nat}{s:LQ},(∀ i∈is,i∈Bl)→Srch g Bl laid thr r s (some (x,is))→Srch g Bl laid thr r (is.foldl (stepE g laid thr x) s) none∧todo g.n (is.foldl (stepE g laid thr x) s)≤todo g.n s
 | [],s,_,h=>⟨h.end,ae _⟩
 | i::is,s,hi,h=>by
   have h1:=h.step hB (hi i (by simp))
   have h2:=todo_step h hB hr (hi i (by simp))
   obtain⟨h3,h4⟩:=Srch.fold hB hr (λj hj=>hi j (by simp [hj])) h1
   exact⟨h3,cN h4 h2⟩
theorem full_srch {r:Nat} (hB:∀ i∈Bl,i<g.m) (hr:r<g.n):∀ (f:Nat) {s:LQ},Srch g Bl laid thr r s none→todo g.n s≤f→Srch g Bl laid thr r (full g Bl laid thr f s,[]) none
 | 0,(L,[]),h,_=>h
 | 0,(L,x::Q),_,ht=>by simp [todo] at ht
 | f+1,(L,[]),h,_=>h
 | f+1,(L,x::Q),h,ht=>by
   obtain⟨h1,h2⟩:=h.pop.fold hB hr (λ_ h=>h)
   exact full_srch hB hr f h1 (by simp only[todo,aw] at ht h2 ⊢; omega)
theorem tail_app {A C:List (Nat×Nat)} (h:A≠[]):ks (A++C).tail=ks A.tail++ks C:=by
 cases A with
 | nil=>exact absurd rfl h
 | cons a A=>simp [ks]
def Hit (F:List (Nat×Nat)) (fin:Nat→Bool) (o:Option Nat):Prop :=
 match o with
 | some y=>∃ A x C,F=A++(y,x)::C∧A≠[]∧(∀ z∈ks A.tail,fin z=false)∧fin y=true
 | none=>∀ z∈ks F.tail,fin z=false
def it (nx:Nat→Nat):Nat→Nat→Nat
 | 0,d=>d
 | k+1,d=>nx (it nx k d)
variable {nx:Nat→Nat}{N:Nat}
theorem it_lt (hc:∀ d,d<N→nx d<N) {d:Nat} (hd:d<N):∀ k,it nx k d<N
 | 0=>hd
 | k+1=>hc _ (it_lt hc hd k)
theorem mG (a b d:Nat):it nx (a+b) d=it nx a (it nx b d):=by
 induction a with
 | zero=>rw[bM]; rfl
 | succ a ih=>rw[show a+1+b=(a+b)+1 by omega]; show nx _=nx _; rw[ih]
theorem kP (hc:∀ d,d<N→nx d<N) (hi:∀ a b,a<N→b<N→nx a=nx b→a=b) {a b:Nat} (ha:a<N) (hb:b<N):∀ k,it nx k a=it nx k b→a=b
 | 0,h=>h
 | k+1,h=>kP hc hi ha hb k (hi _ _ (it_lt hc ha k) (it_lt hc hb k) h)
theorem xZ {P:Nat→Prop}{q:Nat} (h:P q):∃ r,r≤q∧P r∧∀ k,k<r→¬ P k:=by
 induction q using Nat.strongRecOn with
 | _ q ih =>
   by_cases hk:∃ k,k<q∧P k
   ·obtain⟨k,h1,h2⟩:=hk
    obtain⟨r,a,b,c⟩:=ih k h1 h2
    exact⟨r,om,b,c⟩
   ·exact⟨q,ae _,h,λk hk' hp=>hk ⟨k,hk',hp⟩⟩
def Back (nx:Nat→Nat) (d r:Nat):Prop:=0<r∧it nx r d=d∧∀ k,0<k→k<r→it nx k d≠d
theorem back_of (hc:∀ d,d<N→nx d<N) (hi:∀ a b,a<N→b<N→nx a=nx b→a=b) {d:Nat} (hd:d<N):∃ r,r≤N∧Back nx d r:=by
 have h1:∃ q,0<q∧q≤N∧it nx q d=d:=by
  refine Classical.byContradiction λhno=>?_
  have nd:((List.range (N+1)).map λk=>it nx k d).Nodup:=by
   rw[List.Nodup,di]
   refine List.Pairwise.imp_of_mem ?_ (List.pairwise_lt_range (n:=N+1))
   intro a b ha hb hab he
   rw[ao] at ha hb
   obtain⟨k,rfl⟩:∃ k,b=k+a:=⟨b-a,om⟩
   rw[show k+a=a+k by omega,mG] at he
   have:=kP hc hi hd (it_lt hc hd k) a he
   exact hno ⟨k,om,om,this.symm⟩
  have:=nd_lt nd (n:=N) λx hx=>by
   obtain⟨k,_,rfl⟩:=bu.1 hx
   exact it_lt hc hd k
  rw[ak,bF] at this
  omega
 obtain⟨q,h2,h3,h4⟩:=h1
 obtain⟨r,a,b,c⟩:=xZ (P:=λq=>0<q∧it nx q d=d) ⟨h2,h4⟩
 exact⟨r,om,b.1,b.2,λk hk hkr he=>c k hkr ⟨hk,he⟩⟩
def orb (nx:Nat→Nat) (d r:Nat):List Nat:=(List.range r).map λk=>it nx k d
theorem KJ (hc:∀ d,d<N→nx d<N) (hi:∀ a b,a<N→b<N→nx a=nx b→a=b) {d r:Nat} (hd:d<N) (hb:Back nx d r):(orb nx d r).Nodup:=by
 rw[orb,List.Nodup,di]
 refine List.Pairwise.imp_of_mem ?_ (List.pairwise_lt_range (n:=r))
 intro a b ha hb' hab he
 rw[ao] at ha hb'
 obtain⟨k,rfl⟩:∃ k,b=k+a:=⟨b-a,om⟩
 rw[show k+a=a+k by omega,mG] at he
 have:=kP hc hi hd (it_lt hc hd k) a he
 exact hb.2.2 k om om this.symm
theorem orb_len {d r:Nat}:(orb nx d r).length=r:=by simp [orb]
theorem orb_succ {d k:Nat}:orb nx d (k+1)=orb nx d k++[it nx k d]:=by
 rw[orb,bD,ez]; rfl
theorem orb_mem {d r x:Nat}:x∈orb nx d r↔∃ k,k<r∧it nx k d=x:=by
 simp [orb]
theorem orb_nx {d r x:Nat} (hb:Back nx d r) (h:x∈orb nx d r):nx x∈orb nx d r:=by
 obtain⟨k,hk,rfl⟩:=orb_mem.1 h
 rcases bU (k+1) r with h1|h1
 ·exact orb_mem.2 ⟨k+1,h1,rfl⟩
 ·have:k+1=r:=om
  exact orb_mem.2 ⟨0,hb.1,by show d=nx (it nx k d); rw[show nx (it nx k d)=it nx (k+1) d from rfl,this,hb.2.1]⟩
section
open Classical in
noncomputable def cls (N:Nat) (R:Nat→Nat→Prop):Nat:=(List.range N).countP λx=>decide (∀ y,y<x→¬ R y x)
structure Eqv (N:Nat) (R:Nat→Nat→Prop):Prop where
 rf:∀ a,a<N→R a a
 sm:∀ a b,a<N→b<N→R a b→R b a
 tr:∀ a b c,a<N→b<N→c<N→R a b→R b c→R a c
def Mrg (R:Nat→Nat→Prop) (a b:Nat):Nat→Nat→Prop:=λx y=>R x y∨(R x a∧R b y)∨(R x b∧R a y)
variable {N a b:Nat}{R R':Nat→Nat→Prop}
theorem Eqv.mrg (h:Eqv N R) (ha:a<N) (hb:b<N):Eqv N (Mrg R a b) where
 rf:=λx hx=>.inl (h.rf x hx)
 sm:=λx y hx hy q=>by
  rcases q with q|⟨q1,q2⟩|⟨q1,q2⟩
  ·exact .inl (h.sm x y hx hy q)
  ·exact .inr (.inr ⟨h.sm b y hb hy q2,h.sm x a hx ha q1⟩)
  ·exact .inr (.inl ⟨h.sm a y ha hy q2,h.sm x b hx hb q1⟩)
 tr:=λx y z hx hy hz q1 q2=>by
  rcases q1 with q1|⟨u1,u2⟩|⟨u1,u2⟩<;>rcases q2 with q2|⟨v1,v2⟩|⟨v1,v2⟩
  ·exact .inl (h.tr x y z hx hy hz q1 q2)
  ·exact .inr (.inl ⟨h.tr x y a hx hy ha q1 v1,v2⟩)
  ·exact .inr (.inr ⟨h.tr x y b hx hy hb q1 v1,v2⟩)
  ·exact .inr (.inl ⟨u1,h.tr b y z hb hy hz u2 q2⟩)
  ·exact .inr (.inl ⟨u1,v2⟩)
  ·exact .inl (h.tr x a z hx ha hz u1 v2)
  ·exact .inr (.inr ⟨u1,h.tr a y z ha hy hz u2 q2⟩)
  ·exact .inl (h.tr x b z hx hb hz u1 v2)
  ·exact .inr (.inr ⟨u1,v2⟩)
theorem jF (h:∀ x y,x<N→y<N→(R x y↔R' x y)):cls N R=cls N R':=by
 unfold cls
 refine fI λx hx=>?_
 have hx:=ao.1 hx
 simp only[aA]
 exact⟨λq y hy r=>q y hy ((h y x om hx).2 r),λq y hy r=>q y hy ((h y x om hx).1 r)⟩
theorem yA (h:Eqv N R) (ha:a<N) (hb:b<N) (hab:R a b):cls N (Mrg R a b)=cls N R:=by
 refine jF λx y hx hy=>⟨λq=>?_,.inl⟩
 rcases q with q|⟨u,v⟩|⟨u,v⟩
 ·exact q
 ·exact h.tr x a y hx ha hy u (h.tr a b y ha hb hy hab v)
 ·exact h.tr x b y hx hb hy u (h.tr b a y hb ha hy (h.sm a b ha hb hab) v)
theorem pG {p q:Nat→Bool}{c:Nat}:∀ {l:List Nat},l.Nodup→c∈l→p c=true→(∀ x∈l,q x=(p x&&!(x==c)))→l.countP p=l.countP q+1
 | [],_,hc,_,_=>by simp at hc
 | x::l,nd,hc,hp,hq=>by
   obtain⟨n1,n2⟩:=aW.1 nd
   rw[cU,cU]
   by_cases e:x=c
   ·subst e
    have h1:q x=false:=by rw[hq x (by simp)]; simp
    have h2:l.countP p=l.countP q:=fI λy hy=>by
     have:y≠x:=λe=>n1 (e▸hy)
     rw[hq y (by simp [hy])]
     simp [this]
    rw[h1,hp,h2]; simp
   ·have hcl:c∈l:=by
     rcases au.1 hc with h|h
     ·exact absurd h.symm e
     ·exact h
    have ih:=pG n2 hcl hp λy hy=>hq y (by simp [hy])
    have h1:q x=p x:=by rw[hq x (by simp)]; simp [e]
    rw[ih,h1]; omega
open Classical in
theorem Bz (h:Eqv N R) (ha:a<N) (hb:b<N) (hab:¬ R a b):cls N R=cls N (Mrg R a b)+1:=by
 obtain⟨a0,la,ra,ma⟩:=xZ (P:=λy=>R y a) (q:=a) (h.rf a ha)
 obtain⟨b0,lb,rb,mb⟩:=xZ (P:=λy=>R y b) (q:=b) (h.rf b hb)
 have hne:a0≠b0:=λe=>by
  subst e
  exact hab (h.tr a a0 b ha om hb (h.sm a0 a om ha ra) rb)
 have hm:=h.mrg ha hb
 unfold cls
 refine pG (c:=max a0 b0) aQ (by rw[ao]; omega) ?_ λx hx=>?_
 ·rw[aA]
  intro y hy hr
  rcases Nat.le_total a0 b0 with q|q
  ·rw[Hd q] at hy hr
   exact mb y hy (h.tr y b0 b om om hb hr rb)
  ·rw[Kb q] at hy hr
   exact ma y hy (h.tr y a0 a om om ha hr ra)
 ·have hx:=ao.1 hx
  rw[cW,aM,aA,aA,da,beq_eq_false_iff_ne]
  constructor
  ·intro q
   refine⟨λy hy r=>q y hy (.inl r),λe=>?_⟩
   rcases Nat.le_total a0 b0 with w|w
   ·rw[Hd w] at e
    subst e
    exact q a0 om (.inr (.inl ⟨ra,h.sm x b hx hb rb⟩))
   ·rw[Kb w] at e
    subst e
    exact q b0 om (.inr (.inr ⟨rb,h.sm x a hx ha ra⟩))
  ·rintro⟨q,hne2⟩ y hy r
   rcases r with r|⟨u,v⟩|⟨u,v⟩
   ·exact q y hy r
   ·have h1:a0≤y:=gM λl=>ma y l u
    have h2:x≤b0:=gM λl=>q b0 l (h.tr b0 b x om hb hx rb v)
    have h3:b0≤x:=gM λl=>mb x l (h.sm b x hb hx v)
    refine hne2 ?_
    rw[Hd om]; omega
   ·have h1:b0≤y:=gM λl=>mb y l u
    have h2:x≤a0:=gM λl=>q a0 l (h.tr a0 a x om ha hx ra v)
    have h3:a0≤x:=gM λl=>ma x l (h.sm a x ha hx v)
    refine hne2 ?_
    rw[Kb om]; omega
def Ob (nx:Nat→Nat) (a b:Nat):Prop:=∃ k,it nx k a=b
theorem Kj {nx:Nat→Nat} (k d:Nat):it nx (k+1) d=it nx k (nx d):=by
 rw[mG k 1 d]; rfl
theorem Ob.step {nx:Nat→Nat}{d:Nat}:Ob nx d (nx d):=⟨1,rfl⟩
theorem Ob.refl {nx:Nat→Nat}{d:Nat}:Ob nx d d:=⟨0,rfl⟩
theorem Ob.trans {nx:Nat→Nat}{x y z:Nat} (h:Ob nx x y) (h':Ob nx y z):Ob nx x z:=by
 obtain⟨k,rfl⟩:=h
 obtain⟨j,rfl⟩:=h'
 exact⟨j+k,mG j k x⟩
theorem Ob.keep {nx:Nat→Nat}{P:Nat→Prop} (hc:∀ d,d<N→nx d<N) (hP:∀ d,d<N→P d→P (nx d)) {x y:Nat} (hx:x<N) (h:Ob nx x y) (hp:P x):P y:=by
 obtain⟨k,rfl⟩:=h
 induction k with
 | zero=>exact hp
 | succ k ih=>exact hP _ (it_lt hc hx k) ih
variable {nx:Nat→Nat} (hc:∀ d,d<N→nx d<N) (hi:∀ a b,a<N→b<N→nx a=nx b→a=b)
include hc hi
theorem Ob.back {d:Nat} (hd:d<N):Ob nx (nx d) d:=by
 obtain⟨r,_,h1,h2,_⟩:=back_of hc hi hd
 refine⟨r-1,?_⟩
 rw[← Kj,Aq h1,h2]
theorem ob_eqv:Eqv N (Ob nx) where
 rf:=λ_ _=>Ob.refl
 tr:=λ_ _ _ _ _ _ h h'=>h.trans h'
 sm:=λx y hx _ h=>Ob.keep (P:=λy=>Ob nx y x) hc (λd hd q=>(Ob.back hc hi hd).trans q) hx h Ob.refl
omit hc hi
def swp (nx:Nat→Nat) (a b:Nat):Nat→Nat:=λd=>nx (if d=a then b else if d=b then a else d)
theorem pQ:swp nx a b a=nx b:=by simp [swp]
theorem tL:swp nx a b b=nx a:=by
 unfold swp
 by_cases e:b=a
 ·simp [e]
 ·simp [e]
theorem pP {d:Nat} (h1:d≠a) (h2:d≠b):swp nx a b d=nx d:=by simp [swp,h1,h2]
theorem Ky {d:Nat}:swp (swp nx a b) a b d=nx d:=by
 by_cases h1:d=a
 ·subst h1; rw[pQ,tL]
 ·by_cases h2:d=b
  ·subst h2; rw[tL,pQ]
  ·rw[pP h1 h2,pP h1 h2]
include hc
theorem Ee (ha:a<N) (hb:b<N):∀ d,d<N→swp nx a b d<N:=λd hd=>by
 unfold swp
 refine hc _ ?_
 split
 ·exact hb
 ·split
  ·exact ha
  ·exact hd
omit hc
include hi
theorem Kf (ha:a<N) (hb:b<N):∀ c d,c<N→d<N→swp nx a b c=swp nx a b d→c=d:=λc d hcN hd h=>by
 unfold swp at h
 have hl:∀ z,z<N→(if z=a then b else if z=b then a else z)<N:=λz hz=>by
  split
  ·exact hb
  ·split
   ·exact ha
   ·exact hz
 have:=hi _ _ (hl c hcN) (hl d hd) h
 repeat' split at this
 all_goals omega
include hc
theorem Ba (ha:a<N) (hb:b<N) (h:¬ Ob nx a b):Ob (swp nx a b) a b:=by
 obtain⟨s,_,h1,h2,h3⟩:=back_of hc hi hb
 have hE:=ob_eqv hc hi
 have key:∀ j,j<s→it (swp nx a b) (j+1) a=it nx (j+1) b:=λj=>by
  induction j with
  | zero=>intro _; show swp nx a b a=nx b; exact pQ
  | succ j ih =>
    intro hj
    have:=ih om
    show swp nx a b (it (swp nx a b) (j+1) a)=nx (it nx (j+1) b)
    rw[this]
    refine pP (λe=>h ?_) (h3 (j+1) om om)
    exact hE.sm b a hb ha ⟨j+1,e⟩
 refine⟨s,?_⟩
 have:=key (s-1) om
 rw[Aq h1] at this
 rw[this,h2]
theorem KQ (ha:a<N) (hb:b<N) (h:¬ Ob nx a b) {x y:Nat} (hx:x<N) (hy:y<N):Ob (swp nx a b) x y↔Mrg (Ob nx) a b x y:=by
 have hE:=ob_eqv hc hi
 have hM:=hE.mrg ha hb
 have hc':=Ee hc ha hb
 have hi':=Kf hi ha hb
 have hE':=ob_eqv hc' hi'
 have hj:=Ba hc hi ha hb h
 constructor
 ·intro q
  refine Ob.keep (P:=λz=>z<N∧Mrg (Ob nx) a b x z) hc' (λd hd ⟨_,r⟩=>⟨hc' d hd,hM.tr x d _ hx hd (hc' d hd) r ?_⟩) hx q ⟨hx,hM.rf x hx⟩ |>.2
  by_cases e1:d=a
  ·subst e1; rw[pQ]; exact .inr (.inl ⟨Ob.refl,Ob.step⟩)
  ·by_cases e2:d=b
   ·subst e2; rw[tL]; exact .inr (.inr ⟨Ob.refl,Ob.step⟩)
   ·rw[pP e1 e2]; exact .inl Ob.step
 ·have sub:∀ {x y},x<N→Ob nx x y→Ob (swp nx a b) x y:=fun {x y} hx q=>by
   refine Ob.keep (P:=λz=>Ob (swp nx a b) x z) hc (λd hd r=>r.trans ?_) hx q Ob.refl
   by_cases e1:d=a
   ·subst e1
    exact hj.trans ⟨1,by show swp nx d b b=nx d; exact tL⟩
   ·by_cases e2:d=b
    ·subst e2
     exact (hE'.sm a d ha hd hj).trans ⟨1,by show swp nx a d a=nx d; exact pQ⟩
    ·exact⟨1,by show swp nx a b d=nx d; exact pP e1 e2⟩
  rintro (q|⟨u,v⟩|⟨u,v⟩)
  ·exact sub hx q
  ·exact (sub hx u).trans (hj.trans (sub hb v))
  ·exact (sub hx u).trans ((hE'.sm a b ha hb hj).trans (sub ha v))
theorem AZ (ha:a<N) (hb:b<N) (hne:a≠b) (h:Ob nx a b):¬ Ob (swp nx a b) a b:=by
 obtain⟨r,_,h1,h2,h3⟩:=back_of hc hi ha
 obtain⟨p,hp1,hp2,hp3⟩:∃ p,0<p∧p<r∧it nx p a=b:=by
  obtain⟨k,hk⟩:=h
  obtain⟨p,_,q1,q2⟩:=xZ (P:=λk=>it nx k a=b) hk
  refine⟨p,Ar λe=>hne (by rw[e] at q1; exact q1),?_,q1⟩
  refine Nat.lt_of_not_le λhle=>q2 (p-r) om ?_
  have:=mG (nx:=nx) (p-r) r a
  rw[Aq hle,h2] at this
  rw[← this]; exact q1
 intro hob
 have:(λz=>∃ j,p<j∧j≤r∧z=it nx j a) b:=by
  refine Ob.keep (P:=λz=>∃ j,p<j∧j≤r∧z=it nx j a) (Ee hc ha hb) (λd hd hq=>?_) ha hob ⟨r,hp2,ae _,h2.symm⟩
  obtain⟨j,j1,j2,rfl⟩:=hq
  rcases bU j r with q|q
  ·have e1:it nx j a≠a:=h3 j om q
   have e2:it nx j a≠b:=λe=>by
    rw[← hp3] at e
    have:=mG (nx:=nx) p (j-p) a
    rw[show p+(j-p)=j by omega,e] at this
    exact h3 (j-p) om om (kP hc hi ha (it_lt hc ha _) p this).symm
   rw[pP e1 e2]
   exact⟨j+1,om,q,rfl⟩
  ·obtain rfl:j=r:=om
   rw[h2,pQ,← hp3]
   exact⟨p+1,om,om,rfl⟩
 obtain⟨j,j1,j2,e⟩:=this
 rw[← hp3] at e
 have:=mG (nx:=nx) p (j-p) a
 rw[show p+(j-p)=j by omega,← e] at this
 have:=kP hc hi ha (it_lt hc ha _) p this
 exact h3 (j-p) om om this.symm
theorem yB (ha:a<N) (hb:b<N) (h:¬ Ob nx a b):cls N (Ob nx)=cls N (Ob (swp nx a b))+1:=by
 rw[Bz (ob_eqv hc hi) ha hb h,jF λx y hx hy=>KQ hc hi ha hb h hx hy]
omit hc hi in
theorem yf {f f':Nat→Nat} (h:∀ d,f d=f' d) (k d:Nat):it f k d=it f' k d:=by
 induction k with
 | zero=>rfl
 | succ k ih=>show f _=f' _; rw[ih,h]
theorem GA (ha:a<N) (hb:b<N) (hne:a≠b) (h:Ob nx a b):cls N (Ob (swp nx a b))=cls N (Ob nx)+1:=by
 have:=yB (Ee hc ha hb) (Kf hi ha hb) ha hb (AZ hc hi ha hb hne h)
 rw[this]
 congr 1
 refine jF λx y hx hy=>?_
 unfold Ob
 simp only[yf (λd=>Ky (nx:=nx) (a:=a) (b:=b) (d:=d))]
end
section
open Go.Blk
def en (g:Gr) (d:Nat):Nat:=if d % 2=0 then g.tl (d / 2) else g.hd (d / 2)
def fl (d:Nat):Nat:=if d % 2=0 then d+1 else d-1
def th (k d:Nat):Nat:=if d / 2<k then fl d else d
theorem fl_div {d:Nat}:fl d / 2=d / 2:=by unfold fl; split<;>omega
theorem fl_fl {d:Nat}:fl (fl d)=d:=by
 unfold fl
 split
 ·rw[if_neg om]; omega
 ·rw[if_pos om]; omega
theorem Kw {k d:Nat}:th k d / 2=d / 2:=by
 unfold th; split
 ·exact fl_div
 ·rfl
theorem Ed {k d:Nat}:th k (th k d)=d:=by
 unfold th
 by_cases h:d / 2<k
 ·rw[if_pos h,if_pos (by rw[fl_div]; exact h),fl_fl]
 ·rw[if_neg h,if_neg h]
theorem th_lt {m k d:Nat} (hd:d<2*m):th k d<2*m:=by
 have:=@Kw k d
 omega
theorem tK {e k:Nat} (h:e<k):th k (2*e)=2*e+1∧th k (2*e+1)=2*e:=by
 unfold th fl
 rw[if_pos om,if_pos om,if_pos om,if_neg om]
 omega
theorem tJ {k d:Nat} (h:¬ d / 2<k):th k d=d:=by unfold th; rw[if_neg h]
theorem en_ev {g:Gr}{e:Nat}:en g (2*e)=g.tl e∧en g (2*e+1)=g.hd e:=by
 unfold en
 rw[if_pos om,if_neg om,show 2*e / 2=e by omega,show (2*e+1) / 2=e by omega]
 exact⟨rfl,rfl⟩
structure Rotn (g:Gr) (σ:Nat→Nat):Prop where
 lt:∀ d,d<2*g.m→σ d<2*g.m
 inj:∀ a b,a<2*g.m→b<2*g.m→σ a=σ b→a=b
 en:∀ d,d<2*g.m→en g (σ d)=en g d
 one:∀ a b,a<2*g.m→b<2*g.m→Go.Pla.en g a=Go.Pla.en g b→Ob σ a b
def ph (σ:Nat→Nat) (k:Nat):Nat→Nat:=λd=>σ (th k d)
def comp (g:Gr):Nat→Nat→Nat→Prop
 | 0=>λu v=>u=v
 | k+1=>Mrg (comp g k) (g.tl k) (g.hd k)
variable {g:Gr}{σ:Nat→Nat}{k:Nat}
theorem jV:∀ {k:Nat},k≤g.m→Eqv g.n (comp g k)
 | 0,_=>⟨λ_ _=>rfl,λ_ _ _ _ h=>h.symm,λ_ _ _ _ _ _ h h'=>h.trans h'⟩
 | k+1,h=>(jV (k:=k) om).mrg (g.ok k h).1 (g.ok k h).2.1
theorem jE:∀ {k e:Nat},k≤g.m→e<k→comp g k (g.tl e) (g.hd e)
 | k+1,e,h,he=>by
   by_cases q:e=k
   ·subst q
    have E:=jV (g:=g) (k:=e) om
    exact .inr (.inl ⟨E.rf _ (g.ok e h).1,E.rf _ (g.ok e h).2.1⟩)
   ·exact .inl (jE om om)
theorem ph_lt (hR:Rotn g σ) {d:Nat} (hd:d<2*g.m):ph σ k d<2*g.m:=hR.lt _ (th_lt hd)
theorem ph_inj (hR:Rotn g σ):∀ a b,a<2*g.m→b<2*g.m→ph σ k a=ph σ k b→a=b:=λa b ha hb h=>by
 have:=hR.inj _ _ (th_lt ha) (th_lt hb) h
 rw[← @Ed k a,this,Ed]
theorem ly (d:Nat):ph σ (k+1) d=swp (ph σ k) (2*k) (2*k+1) d:=by
 unfold ph swp
 congr 1
 by_cases h1:d=2*k
 ·subst h1
  rw[if_pos rfl,(tK om).1,tJ om]
 ·rw[if_neg h1]
  by_cases h2:d=2*k+1
  ·subst h2
   rw[if_pos rfl,(tK om).2,tJ om]
  ·rw[if_neg h2]
   unfold th
   by_cases h3:d / 2<k
   ·rw[if_pos h3,if_pos om]
   ·rw[if_neg h3,if_neg om]
theorem oH {f f':Nat→Nat} (h:∀ d,f d=f' d) {x y:Nat}:Ob f x y↔Ob f' x y:=by
 unfold Ob
 simp only[yf h]
theorem Bb (hR:Rotn g σ) (hk:k≤g.m) {x y:Nat} (hx:x<2*g.m) (h:Ob (ph σ k) x y):comp g k (en g x) (en g y):=by
 have E:=jV hk
 have hen:∀ d,d<2*g.m→en g d<g.n:=λd hd=>by
  have:=g.ok (d / 2) om
  unfold en; split
  ·exact this.1
  ·exact this.2.1
 have st:∀ d,d<2*g.m→comp g k (en g d) (en g (ph σ k d)):=λd hd=>by
  unfold ph
  rw[hR.en _ (th_lt hd)]
  by_cases q:d / 2<k
  ·have he:=jE (g:=g) hk q
   rcases nZ d with z|z
   ·obtain⟨e,rfl⟩:∃ e,d=2*e:=⟨d / 2,om⟩
    rw[show 2*e / 2=e by omega] at he
    rw[(tK om).1,en_ev.1,en_ev.2]; exact he
   ·obtain⟨e,rfl⟩:∃ e,d=2*e+1:=⟨d / 2,om⟩
    rw[show (2*e+1) / 2=e by omega] at he
    have hok:=g.ok e om
    rw[(tK om).2,en_ev.1,en_ev.2]; exact E.sm _ _ hok.1 hok.2.1 he
  ·rw[tJ q]; exact E.rf _ (hen d hd)
 have:=Ob.keep (N:=2*g.m) (nx:=ph σ k) (P:=λz=>z<2*g.m∧comp g k (en g x) (en g z)) (λd hd=>ph_lt hR hd) (λd hd ⟨_,q⟩=>⟨ph_lt hR hd,E.tr _ _ _ (hen x hx) (hen d hd) (hen _ (ph_lt hR hd)) q (st d hd)⟩) hx h ⟨hx,E.rf _ (hen x hx)⟩
 exact this.2
theorem rQ {F:Nat→Bool}:∀ {m:Nat},par (List.range (2*m)) F=par (List.range m) (λe=>F (2*e) ^^ F (2*e+1))
 | 0=>rfl
 | m+1=>by
   rw[show 2*(m+1)=2*m+1+1 by omega,bD,bD,bD,jv,jv,jv,rQ (m:=m)]
   simp only[par,cI]
   cases par (List.range m) (λe=>F (2*e) ^^ F (2*e+1))<;>cases F (2*m)<;>cases F (2*m+1)<;>rfl
theorem oE {G:Nat→Bool}{k:Nat}:∀ {m:Nat},k≤m→(∀ e,k≤e→e<m→G e=false)→par (List.range m) G=par (List.range k) G
 | 0,h,_=>by rw[show k=0 by omega]
 | m+1,h,hG=>by
   by_cases q:k=m+1
   ·rw[q]
   ·rw[bD,jv,oE (m:=m) om λe h1 h2=>hG e h1 om]
    simp [par,hG m om om]
theorem oC {α β:Type}{f:α→β}{q:β→Bool}:∀ {l:List α},par (l.map f) q=par l λx=>q (f x)
 | []=>rfl
 | x::l=>by simp only[bA,par]; rw[oC]
theorem AQ {N:Nat}{f:Nat→Nat} (hc:∀ d,d<N→f d<N) (hi:∀ a b,a<N→b<N→f a=f b→a=b):((List.range N).map f).Perm (List.range N):=by
 refine (jb ?_ aQ).2 λd=>⟨λh=>?_,λh=>?_⟩
 ·rw[List.Nodup,di]
  refine List.Pairwise.imp_of_mem ?_ (aQ (n:=N))
  intro a b ha hb hab he
  exact hab (hi a b (ao.1 ha) (ao.1 hb) he)
 ·obtain⟨x,hx,rfl⟩:=bu.1 h
  exact ao.2 (hc x (ao.1 hx))
 ·have hd:=ao.1 h
  obtain⟨j,hj⟩:=Ob.back hc hi hd
  refine bu.2 ⟨it f j d,ao.2 (it_lt hc hd j),?_⟩
  rw[← Kj] at hj
  exact hj
theorem Dc (hR:Rotn g σ) (hk:k≤g.m) {S:Nat→Bool} (hS:∀ d,d<2*g.m→S (ph σ k d)=S d):Even g (List.range k) (λe=>S (2*e) ^^ S (2*e+1)):=λv=>by
 have h1:par (List.range (2*g.m)) (λd=>(en g d==v)&&(S d ^^ S (th k d)))=par (List.range k) (λe=>(S (2*e) ^^ S (2*e+1))&&at_ g e v):=by
  rw[rQ,oE hk λe h1 h2=>by rw[tJ om,tJ om]; simp]
  refine par_congr λe he=>?_
  have he:=ao.1 he
  rw[(tK he).1,(tK he).2,en_ev.1,en_ev.2]
  unfold at_
  cases g.tl e==v<;>cases g.hd e==v<;>cases S (2*e)<;>cases S (2*e+1)<;>rfl
 rw[← h1]
 have h2:∀ d∈List.range (2*g.m),((en g d==v)&&(S d ^^ S (th k d)))=(((en g d==v)&&S d) ^^ ((en g (σ d)==v)&&S (σ d))):=λd hd=>by
  have hd:=ao.1 hd
  have:=hS (th k d) (th_lt hd)
  unfold ph at this
  rw[Ed] at this
  rw[hR.en d hd,this]
  cases en g d==v<;>cases S d<;>cases S (th k d)<;>rfl
 rw[par_congr h2,df,← oC (f:=σ) (q:=λd=>(en g d==v)&&S d),rP (AQ hR.lt hR.inj)]
 simp
theorem Gv {B:List Nat} (hB:∀ e∈B,e<g.m) {X:Nat→Bool} (hX:Even g B X) (K:Nat→Bool):par B (λe=>X e&&(K (g.tl e) ^^ K (g.hd e)))=false:=by
 have h1:par (List.range g.n) (λv=>K v&&par B (λe=>X e&&at_ g e v))=false:=dW λv _=>by rw[hX v]; simp
 rw[par_congr (q:=λv=>par B (λe=>X e&&(K v&&at_ g e v))) (λv _=>by
  rw[← fS]
  exact par_congr λe _=>by cases X e<;>cases K v<;>rfl),gQ] at h1
 rw[← h1]
 refine par_congr λe he=>?_
 rw[fS]
 congr 1
 have hok:=g.ok e (hB e he)
 rw[par_congr (q:=λv=>((v==g.tl e)&&K v) ^^ ((v==g.hd e)&&K v)) (λv _=>by
  unfold at_
  rw[eM (a:=g.tl e),eM (a:=g.hd e)]
  cases v==g.tl e<;>cases v==g.hd e<;>cases K v<;>rfl),df,cY aQ (by simpa using hok.1),cY aQ (by simpa using hok.2.1)]
def Cuts (g:Gr) (σ:Nat→Nat) (k:Nat):Prop:=∀ X,Even g (List.range k) X→∃ S:Nat→Bool,(∀ d,d<2*g.m→S (ph σ k d)=S d)∧∀ e,e<k→X e=(S (2*e) ^^ S (2*e+1))
theorem oD {G:Nat→Bool}:par (List.range (k+1)) G=(par (List.range k) G ^^ G k):=by
 rw[bD,jv]; simp [par]
theorem uA {X:Nat→Bool} (hX:Even g (List.range (k+1)) X) (h:X k=false):Even g (List.range k) X:=λv=>by
 have:=hX v
 rw[oD,h] at this
 simpa using this
theorem Gg {X:Nat→Bool} (hX:Even g (List.range k) X):Even g (List.range (k+1)) (λe=>X e&&decide (e<k)):=λv=>by
 rw[oD,par_congr (q:=λe=>X e&&at_ g e v) (λe he=>by simp [ao.1 he]),hX v]
 simp
theorem Ob.bool {N:Nat}{nx:Nat→Nat}{S:Nat→Bool} (hc:∀ d,d<N→nx d<N) (hS:∀ d,d<N→S (nx d)=S d) {x y:Nat} (hx:x<N) (h:Ob nx x y):S y=S x :=
 Ob.keep (P:=λz=>S z=S x) hc (λd hd q=>(hS d hd).trans q) hx h rfl
theorem uN (hR:Rotn g σ) (hk:k<g.m) (h:Cuts g σ (k+1)):Cuts g σ k:=λX hX=>by
 obtain⟨S,h1,h2⟩:=h _ (Gg hX)
 have hab:S (2*k)=S (2*k+1):=by
  have:=h2 k om
  simp only[Nat.lt_irrefl,decide_false,dK] at this
  cases e1:S (2*k)<;>cases e2:S (2*k+1)<;>rw[e1,e2] at this<;>first|rfl|cases this
 refine⟨S,λd hd=>?_,λe he=>?_⟩
 ·by_cases q1:d=2*k
  ·subst q1
   have:=h1 (2*k+1) om
   rw[ly,tL] at this
   rw[this,hab]
  ·by_cases q2:d=2*k+1
   ·subst q2
    have:=h1 (2*k) om
    rw[ly,pQ] at this
    rw[this,hab]
   ·have:=h1 d hd
    rwa [ly,pP q1 q2] at this
 ·have:=h2 e om
  rwa [aL he,eN] at this
theorem inv_next (hk:k<g.m) {S:Nat→Bool} (hS:∀ d,d<2*g.m→S (ph σ k d)=S d) (hab:S (2*k)=S (2*k+1)):∀ d,d<2*g.m→S (ph σ (k+1) d)=S d:=λd hd=>by
 rw[ly]
 by_cases q1:d=2*k
 ·subst q1; rw[pQ,hS _ om,hab]
 ·by_cases q2:d=2*k+1
  ·subst q2; rw[tL,hS _ om,hab]
  ·rw[pP q1 q2,hS d hd]
open Classical in
theorem Dl (hR:Rotn g σ) (hk:k<g.m) (hO:Ob (ph σ k) (2*k) (2*k+1)) (h:Cuts g σ k):Cuts g σ (k+1):=λX hX=>by
 have hc:∀ d,d<2*g.m→ph σ k d<2*g.m:=λd hd=>ph_lt hR hd
 have hc':∀ d,d<2*g.m→ph σ (k+1) d<2*g.m:=λd hd=>ph_lt hR hd
 have base:∀ X,Even g (List.range (k+1)) X→X k=false→∃ S:Nat→Bool,(∀ d,d<2*g.m→S (ph σ (k+1) d)=S d)∧∀ e,e<k+1→X e=(S (2*e) ^^ S (2*e+1)):=λX hX hXk=>by
  obtain⟨S,h1,h2⟩:=h X (uA hX hXk)
  have hab:=Ob.bool hc h1 om hO
  refine⟨S,inv_next hk h1 hab.symm,λe he=>?_⟩
  by_cases q:e=k
  ·subst q; rw[hXk,hab]; simp
  ·exact h2 e om
 cases hXk:X k with
 | false=>exact base X hX hXk
 | true =>
   have E:=ob_eqv hc' (ph_inj (k:=k+1) hR)
   have no:¬ Ob (ph σ (k+1)) (2*k) (2*k+1):=by
    rw[oH ly]
    exact AZ hc (ph_inj hR) om om om hO
   let T:Nat→Bool:=λd=>decide (Ob (ph σ (k+1)) (2*k) d)
   have hT:∀ d,d<2*g.m→T (ph σ (k+1) d)=T d:=λd hd=>by
    show decide _=decide _
    rw[decide_eq_decide]
    exact⟨λq=>q.trans (Ob.back hc' (ph_inj hR) hd),λq=>q.trans Ob.step⟩
   have hTe:=Dc hR (k:=k+1) hk hT
   have ta:T (2*k)=true:=aL Ob.refl
   have tb:T (2*k+1)=false:=aJ no
   obtain⟨S,h1,h2⟩:=base _ (hX.xor hTe) (by rw[hXk,ta,tb]; rfl)
   refine⟨λd=>S d ^^ T d,λd hd=>by show (S _ ^^ T _)=(S _ ^^ T _); rw[h1 d hd,hT d hd],λe he=>?_⟩
   have:(X e ^^ (T (2*e) ^^ T (2*e+1)))=(S (2*e) ^^ S (2*e+1)):=h2 e he
   show X e=((S (2*e) ^^ T (2*e)) ^^ (S (2*e+1) ^^ T (2*e+1)))
   generalize T (2*e)=t1 at *
   generalize T (2*e+1)=t2 at *
   revert this
   cases X e<;>cases S (2*e)<;>cases S (2*e+1)<;>cases t1<;>cases t2<;>simp
open Classical in
theorem Dp (hR:Rotn g σ) (hk:k<g.m) (hC:¬ comp g k (g.tl k) (g.hd k)) (h:Cuts g σ k):Cuts g σ (k+1):=λX hX=>by
 have E:=jV (g:=g) (k:=k) om
 have hok:=g.ok k hk
 let K:Nat→Bool:=λv=>decide (comp g k (g.tl k) v)
 have hKe:∀ e,e<k→K (g.tl e)=K (g.hd e):=λe he=>by
  have hoe:=g.ok e om
  have hce:=jE (g:=g) (k:=k) om he
  show decide _=decide _
  rw[decide_eq_decide]
  exact⟨λq=>E.tr _ _ _ hok.1 hoe.1 hoe.2.1 q hce,λq=>E.tr _ _ _ hok.1 hoe.2.1 hoe.1 q (E.sm _ _ hoe.1 hoe.2.1 hce)⟩
 have k1:K (g.tl k)=true:=aL (E.rf _ hok.1)
 have k2:K (g.hd k)=false:=aJ hC
 have hXk:X k=false:=by
  have:=Gv (B:=List.range (k+1)) (λe he=>by have:=ao.1 he; omega) hX K
  rw[oD,dW λe he=>by rw[hKe e (ao.1 he)]; simp,k1,k2] at this
  simpa using this
 obtain⟨S,h1,h2⟩:=h X (uA hX hXk)
 have hKs:∀ d,d<2*g.m→K (en g (ph σ k d))=K (en g d):=λd hd=>by
  have hen:∀ d,d<2*g.m→en g d<g.n:=λd hd=>by
   have:=g.ok (d / 2) om
   unfold en; split
   ·exact this.1
   ·exact this.2.1
  have hce:=Bb hR (k:=k) om hd Ob.step
  show decide _=decide _
  rw[decide_eq_decide]
  exact⟨λq=>E.tr _ _ _ hok.1 (hen _ (ph_lt hR hd)) (hen _ hd) q (E.sm _ _ (hen _ hd) (hen _ (ph_lt hR hd)) hce),λq=>E.tr _ _ _ hok.1 (hen _ hd) (hen _ (ph_lt hR hd)) q hce⟩
 by_cases hab:S (2*k)=S (2*k+1)
 ·refine⟨S,inv_next hk h1 hab,λe he=>?_⟩
  by_cases q:e=k
  ·subst q; rw[hXk,hab]; simp
  ·exact h2 e om
 ·refine⟨λd=>S d ^^ K (en g d),inv_next (S:=λd=>S d ^^ K (en g d)) hk (λd hd=>by rw[h1 d hd,hKs d hd]) ?_,λe he=>?_⟩
  ·show (S _ ^^ K _)=(S _ ^^ K _)
   rw[en_ev.1,en_ev.2,k1,k2]
   cases e1:S (2*k)<;>cases e2:S (2*k+1)<;>rw[e1,e2] at hab<;>simp_all
  ·show _=((S _ ^^ K _) ^^ (S _ ^^ K _))
   rw[en_ev.1,en_ev.2]
   by_cases q:e=k
   ·subst q
    rw[hXk,k1,k2]
    cases e1:S (2*e)<;>cases e2:S (2*e+1)<;>rw[e1,e2] at hab<;>simp_all
   ·have hek:e<k:=om
    rw[hKe e hek,h2 e hek]
    cases S (2*e)<;>cases S (2*e+1)<;>cases K (g.hd e)<;>rfl
theorem sI:∀ {k:Nat},k≤g.m→∀ {u v:Nat},comp g k u v→∃ Y:Nat→Bool,∀ w,par (List.range k) (λe=>Y e&&at_ g e w)=((u==w) ^^ (v==w))
 | 0,_,u,v,h=>⟨λ_=>false,λw=>by rw[show u=v from h]; simp [par]⟩
 | k+1,hk,u,v,h=>by
   have up:∀ {u v:Nat},comp g k u v→∃ Y:Nat→Bool,Y k=false∧∀ w,par (List.range (k+1)) (λe=>Y e&&at_ g e w)=((u==w) ^^ (v==w)):=fun {u v} h=>by
    obtain⟨Y,hY⟩:=sI om h
    refine⟨λe=>Y e&&decide (e<k),by simp,λw=>?_⟩
    rw[oD,par_congr (q:=λe=>Y e&&at_ g e w) (λe he=>by simp [ao.1 he]),hY w]
    simp
   have one:∀ w,par (List.range (k+1)) (λe=>(e==k)&&at_ g e w)=((g.tl k==w) ^^ (g.hd k==w)):=λw=>by
    rw[cY aQ (by simp)]; rfl
   rcases h with h|⟨h1,h2⟩|⟨h1,h2⟩
   ·obtain⟨Y,_,hY⟩:=up h
    exact⟨Y,hY⟩
   ·obtain⟨Y1,_,hY1⟩:=up h1
    obtain⟨Y2,_,hY2⟩:=up h2
    refine⟨λe=>(Y1 e ^^ Y2 e) ^^ (e==k),λw=>?_⟩
    rw[par_congr (q:=λe=>((Y1 e&&at_ g e w) ^^ (Y2 e&&at_ g e w)) ^^ ((e==k)&&at_ g e w)) (λe _=>by show (((Y1 e ^^ Y2 e) ^^ (e==k))&&at_ g e w)=_; cases Y1 e<;>cases Y2 e<;>cases e==k<;>cases at_ g e w<;>rfl),df,df,hY1,hY2,one]
    cases u==w<;>cases g.tl k==w<;>cases g.hd k==w<;>cases v==w<;>rfl
   ·obtain⟨Y1,_,hY1⟩:=up h1
    obtain⟨Y2,_,hY2⟩:=up h2
    refine⟨λe=>(Y1 e ^^ Y2 e) ^^ (e==k),λw=>?_⟩
    rw[par_congr (q:=λe=>((Y1 e&&at_ g e w) ^^ (Y2 e&&at_ g e w)) ^^ ((e==k)&&at_ g e w)) (λe _=>by show (((Y1 e ^^ Y2 e) ^^ (e==k))&&at_ g e w)=_; cases Y1 e<;>cases Y2 e<;>cases e==k<;>cases at_ g e w<;>rfl),df,df,hY1,hY2,one]
    cases u==w<;>cases g.tl k==w<;>cases g.hd k==w<;>cases v==w<;>rfl
theorem Gu (hR:Rotn g σ) (hk:k<g.m) (hO:¬ Ob (ph σ k) (2*k) (2*k+1)) (hC:comp g k (g.tl k) (g.hd k)):¬ Cuts g σ (k+1):=λh=>by
 obtain⟨Y,hY⟩:=sI (g:=g) (k:=k) om hC
 obtain⟨S,h1,h2⟩:=h (λe=>if e=k then true else Y e) λw=>by
  rw[oD,par_congr (q:=λe=>Y e&&at_ g e w) (λe he=>by
   have:e≠k:=by have:=ao.1 he; omega
   simp [this]),hY w]
  simp [at_]
 have hj:Ob (ph σ (k+1)) (2*k) (2*k+1):=by
  rw[oH ly]
  exact Ba (N:=2*g.m) (λd hd=>ph_lt hR hd) (ph_inj hR) om om hO
 have:=Ob.bool (λd hd=>ph_lt hR hd) h1 om hj
 have h3:=h2 k om
 rw[this] at h3
 simp at h3
noncomputable def eul (g:Gr) (σ:Nat→Nat) (iso k:Nat):Int:=2*(cls g.n (comp g k):Nat)+(k:Nat)-(g.n:Nat)-((cls (2*g.m) (Ob (ph σ k)):Nat)+(iso:Nat))
theorem Lj:∀ {n:Nat},cls n (λu v=>u=v)=n:=fun {n}=>by
 unfold cls
 rw[List.countP_eq_length.2 (λx _=>by
  simp only[aA]
  intro y hy e; omega),bF]
theorem euler (hR:Rotn g σ) {iso:Nat} (hiso:cls (2*g.m) (Ob σ)+iso=g.n):∀ {k:Nat},k≤g.m→∃ j:Nat,eul g σ iso k=2*(j:Int)∧(j=0↔Cuts g σ k)
 | 0,_=>by
   refine⟨0,?_,λ_ X _=>⟨λ_=>false,λ_ _=>rfl,λe he=>absurd he (eP e)⟩,λ_=>rfl⟩
   have h0:cls (2*g.m) (Ob (ph σ 0))=cls (2*g.m) (Ob σ):=jF λx y _ _=>oH λd=>by
    unfold ph
    rw[tJ om]
   have h1:cls g.n (comp g 0)=g.n:=Lj
   unfold eul
   rw[h0,h1]
   omega
 | k+1,hk=>by
   obtain⟨j,hj,hC⟩:=euler hR hiso (k:=k) om
   have hc:∀ d,d<2*g.m→ph σ k d<2*g.m:=λd hd=>ph_lt hR hd
   have E:=jV (g:=g) (k:=k) om
   have hok:=g.ok k hk
   have hcl:cls (2*g.m) (Ob (ph σ (k+1)))=cls (2*g.m) (Ob (swp (ph σ k) (2*k) (2*k+1))):=jF λx y _ _=>oH ly
   have hen:comp g (k+1)=Mrg (comp g k) (g.tl k) (g.hd k):=rfl
   by_cases hO:Ob (ph σ k) (2*k) (2*k+1)
   ·have hcomp:comp g k (g.tl k) (g.hd k):=by
     have:=Bb hR (k:=k) om (x:=2*k) om hO
     rwa [en_ev.1,en_ev.2] at this
    have h1:=GA hc (ph_inj hR) (a:=2*k) (b:=2*k+1) om om om hO
    have h2:=yA E hok.1 hok.2.1 hcomp
    refine⟨j,?_,hC.trans ⟨Dl hR hk hO,uN hR hk⟩⟩
    rw[← hj]
    unfold eul
    rw[hcl,h1,hen,h2]
    omega
   ·have h1:=yB hc (ph_inj hR) (a:=2*k) (b:=2*k+1) om om hO
    by_cases hcomp:comp g k (g.tl k) (g.hd k)
    ·have h2:=yA E hok.1 hok.2.1 hcomp
     refine⟨j+1,?_,λh=>by omega,λh=>absurd h (Gu hR hk hO hcomp)⟩
     have:eul g σ iso (k+1)=eul g σ iso k+2:=by
      unfold eul
      rw[hcl,h1,hen,h2]
      omega
     rw[this,hj]
     omega
    ·have h2:=Bz E hok.1 hok.2.1 hcomp
     refine⟨j,?_,hC.trans ⟨Dp hR hk hcomp,uN hR hk⟩⟩
     rw[← hj]
     unfold eul
     rw[hcl,h1,hen,h2]
     omega
end
end Go.Pla
