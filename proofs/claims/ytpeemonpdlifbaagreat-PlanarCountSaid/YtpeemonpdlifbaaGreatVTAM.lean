/- A rotation's rows; its empty ones, its faces, the parts that -/
import Derived.Test.YtpeemonpdlifbaaGreatVTAL
import Derived.Test.YtpeemonpdlifbaaGreatVTAF
import Derived.Test.YtpeemonpdlifbaaGreatVTAD
set_option linter.all false
namespace Go.Pla
section
open Go.Blk
def ixo:List Nat→Nat→Nat
 | [],_=>0
 | x::l,d=>if x=d then 0 else ixo l d+1
theorem ixo_at:∀ {l:List Nat}{d:Nat},d∈l→ixo l d<l.length∧l.getD (ixo l d) 0=d
 | [],d,h=>by simp at h
 | x::l,d,h=>by
   unfold ixo
   by_cases e:x=d
   ·rw[if_pos e]; subst e; simp
   ·rw[if_neg e]
    have:=ixo_at (l:=l) (d:=d) (by
     rcases au.1 h with h|h
     ·exact absurd h.symm e
     ·exact h)
    exact⟨by rw[aw]; omega,by rw[ng]; exact this.2⟩
theorem mU:∀ {l:List Nat}{i:Nat},l.Nodup→i<l.length→ixo l (l.getD i 0)=i
 | x::l,0,_,_=>by simp [ixo]
 | x::l,i+1,nd,hi=>by
   obtain⟨n1,n2⟩:=aW.1 nd
   have hi':i<l.length:=by simpa using hi
   rw[ng]
   unfold ixo
   have hm:l.getD i 0∈l:=by rw[ai,ah hi']; exact aR hi'
   rw[if_neg (λ(e:x=l.getD i 0)=>n1 (e▸hm)),mU n2 hi']
theorem getD_mem {l:List Nat}{i:Nat} (h:i<l.length):l.getD i 0∈l:=by
 rw[ai,ah h]; exact aR h
def nxl (l:List Nat) (d:Nat):Nat:=l.getD ((ixo l d+1) % l.length) 0
theorem qC {l:List Nat}{d:Nat} (h:d∈l):nxl l d∈l:=getD_mem (fL _ (tf h))
theorem IJ {l:List Nat} (nd:l.Nodup) {a b:Nat} (ha:a∈l) (hb:b∈l) (h:nxl l a=nxl l b):a=b:=by
 obtain⟨a1,a2⟩:=ixo_at ha
 obtain⟨b1,b2⟩:=ixo_at hb
 have hp:=tf ha
 have:=congrArg (ixo l) h
 unfold nxl at this
 rw[mU nd (fL _ hp),mU nd (fL _ hp)] at this
 have e:ixo l a=ixo l b:=by
  rcases bU (ixo l a+1) l.length with q1|q1<;>rcases bU (ixo l b+1) l.length with q2|q2
  ·rw[bR q1,bR q2] at this; omega
  ·rw[bR q1,show ixo l b+1=l.length by omega,sY] at this; omega
  ·rw[bR q2,show ixo l a+1=l.length by omega,sY] at this; omega
  ·omega
 rw[← a2,← b2,e]
theorem FJ {l:List Nat} (nd:l.Nodup) {f:Nat→Nat} (hf:∀ d∈l,f d=nxl l d) {i:Nat} (hi:i<l.length):∀ k,it f k (l.getD i 0)=l.getD ((i+k) % l.length) 0
 | 0=>by rw[dh,bR hi]; rfl
 | k+1=>by
   have hlt:(i+k) % l.length<l.length:=fL _ om
   show f (it f k _)=_
   rw[FJ nd hf hi k,hf _ (getD_mem hlt)]
   unfold nxl
   rw[mU nd hlt,← fN,Nat.mod_add_mod]
theorem KO {l:List Nat} (nd:l.Nodup) {f:Nat→Nat} (hf:∀ d∈l,f d=nxl l d) {a b:Nat} (ha:a∈l) (hb:b∈l):Ob f a b:=by
 obtain⟨a1,a2⟩:=ixo_at ha
 obtain⟨b1,b2⟩:=ixo_at hb
 refine⟨ixo l b+l.length-ixo l a,?_⟩
 have:=FJ nd hf a1 (ixo l b+l.length-ixo l a)
 rw[a2,show ixo l a+(ixo l b+l.length-ixo l a)=ixo l b+l.length by omega,DP,bR b1,b2] at this
 exact this
structure Rws (g:Gr) (T:List (List Nat)):Prop where
 len:T.length=g.n
 at_:∀ x,x<g.n→∀ d∈T.getD x [],d<2*g.m∧en g d=x
 nd:∀ x,x<g.n→(T.getD x []).Nodup
 all:∀ d,d<2*g.m→d∈T.getD (en g d) []
def rnx (g:Gr) (T:List (List Nat)) (d:Nat):Nat:=nxl (T.getD (en g d) []) d
variable {g:Gr}{T:List (List Nat)}
theorem en_lt {d:Nat} (hd:d<2*g.m):en g d<g.n:=by
 have:=g.ok (d / 2) om
 unfold en; split
 ·exact this.1
 ·exact this.2.1
theorem Rws.rotn (R:Rws g T):Rotn g (rnx g T) where
 lt:=λd hd=>(R.at_ _ (en_lt hd) _ (qC (R.all d hd))).1
 en:=λd hd=>(R.at_ _ (en_lt hd) _ (qC (R.all d hd))).2
 inj:=λa b ha hb h=>by
  have e1:=(R.at_ _ (en_lt ha) _ (qC (R.all a ha))).2
  have e2:=(R.at_ _ (en_lt hb) _ (qC (R.all b hb))).2
  have e:en g a=en g b:=by
   unfold rnx at h
   rw[← e1,← e2,h]
  unfold rnx at h
  rw[e] at h
  exact IJ (R.nd _ (en_lt hb)) (e▸R.all a ha) (R.all b hb) h
 one:=λa b ha hb e=>KO (l:=T.getD (en g a) []) (R.nd _ (en_lt ha)) (λd hd=>by
  have:=(R.at_ _ (en_lt ha) d hd).2
  unfold rnx; rw[this]) (R.all a ha) (e▸R.all b hb)
open Classical in
theorem BA {e:Nat→Nat}{n:Nat}:∀ {N:Nat},(∀ d,d<N→e d<n)→cls N (λa b=>e a=e b)=(List.range n).countP λv=>decide (∃ d,d<N∧e d=v)
 | 0,_=>by
   unfold cls
   rw[List.range_zero,tk]
   refine (List.countP_eq_zero.2 λv _=>?_).symm
   rw[aA]
   rintro⟨d,h,_⟩; omega
 | N+1,h=>by
   have ih:=BA (e:=e) (n:=n) (N:=N) λd hd=>h d om
   have hs:cls (N+1) (λa b=>e a=e b)=cls N (λa b=>e a=e b)+(if ∀ y,y<N→¬ e y=e N then 1 else 0):=by
    unfold cls
    rw[bD,oA]
    simp only[cU,tk,bM]
    congr 1
    by_cases q:∀ y,y<N→¬ e y=e N
    ·simp only[aA]
    ·simp only[aA]
   rw[hs,ih]
   by_cases q:∀ y,y<N→¬ e y=e N
   ·rw[if_pos q]
    refine (pG (c:=e N) aQ (ao.2 (h N om)) (aL ⟨N,om,rfl⟩) λv _=>?_).symm
    rw[cW,aM,aA,aA,da,beq_eq_false_iff_ne]
    constructor
    ·rintro⟨d,h1,h2⟩
     exact⟨⟨d,om,h2⟩,λe1=>q d h1 (by rw[h2,e1])⟩
    ·rintro⟨⟨d,h1,h2⟩,hne⟩
     refine⟨d,?_,h2⟩
     rcases bU d N with z|z
     ·exact z
     ·obtain rfl:d=N:=om
      exact absurd h2.symm hne
   ·rw[if_neg q,dh]
    obtain⟨y,hy,he⟩:∃ y,y<N∧e y=e N:=Classical.byContradiction λhno=>q λy hy he=>hno ⟨y,hy,he⟩
    refine fI λv _=>?_
    rw[aA,aA]
    constructor
    ·rintro⟨d,h1,h2⟩; exact⟨d,om,h2⟩
    ·rintro⟨d,h1,h2⟩
     rcases bU d N with z|z
     ·exact⟨d,z,h2⟩
     ·obtain rfl:d=N:=om
      exact⟨y,hy,he.trans h2⟩
def emp (T:List (List Nat)):Nat:=T.countP λl=>l.isEmpty
theorem uT {α:Type}{p:α→Bool}{z:α}:∀ {l:List α},l.countP p=(List.range l.length).countP λi=>p (l.getD i z)
 | []=>rfl
 | x::l=>by
   rw[aw,List.range_succ_eq_map,cU,cU,uT (l:=l) (z:=z),List.countP_map]
   rfl
theorem Rws.iso (R:Rws g T):cls (2*g.m) (Ob (rnx g T))+emp T=g.n:=by
 have hR:=R.rotn
 have h1:cls (2*g.m) (Ob (rnx g T))=cls (2*g.m) (λa b=>en g a=en g b):=jF λx y hx hy =>
  ⟨λh=>Ob.keep (P:=λz=>en g x=en g z) hR.lt (λd hd q=>by rw[hR.en d hd]; exact q) hx h rfl,λh=>hR.one x y hx hy h⟩
 rw[h1,BA (n:=g.n) λd hd=>en_lt hd]
 unfold emp
 rw[uT (z:=[]),R.len]
 have:=List.length_eq_countP_add_countP (l:=List.range g.n) (λx=>(T.getD x []).isEmpty)
 rw[bF] at this
 refine Eq.trans (?_:_=(List.range g.n).countP (λa=>decide ¬(T.getD a []).isEmpty=true)+_) (by rw[sZ]; exact this.symm)
 congr 1
 refine fI λv hv=>?_
 have hv:=ao.1 hv
 simp only[aA,lR]
 constructor
 ·rintro⟨d,hd,rfl⟩ h
  have:=R.all d hd
  rw[h] at this
  cases this
 ·intro h
  obtain⟨d,hd⟩:=pe _ h
  exact⟨d,R.at_ v hv d hd⟩
theorem rc_comp {u v:Nat} (hu:u<g.n):RC g.m g.tl g.hd (λ_=>true) u v↔v<g.n∧comp g g.m u v:=by
 have E:=jV (g:=g) (k:=g.m) (ae _)
 constructor
 ·intro h
  induction h with
  | refl=>exact⟨hu,E.rf _ hu⟩
  | one _ hi _ hv ih =>
    have hok:=g.ok _ hi
    exact⟨hok.2.1,E.tr _ _ _ hu ih.1 hok.2.1 ih.2 (hv▸jE (ae _) hi)⟩
  | two _ hi _ hv ih =>
    have hok:=g.ok _ hi
    exact⟨hok.1,E.tr _ _ _ hu ih.1 hok.1 ih.2 (hv▸E.sm _ _ hok.1 hok.2.1 (jE (ae _) hi))⟩
 ·rintro⟨hv,h⟩
  have tr:∀ {x y z:Nat},RC g.m g.tl g.hd (λ_=>true) x y→RC g.m g.tl g.hd (λ_=>true) y z→RC g.m g.tl g.hd (λ_=>true) x z:=fun {x y z} h1 h2=>by
   induction h2 with
   | refl=>exact h1
   | one _ hi hc hv ih=>exact .one ih hi hc hv
   | two _ hi hc hv ih=>exact .two ih hi hc hv
  have key:∀ {k:Nat},k≤g.m→∀ {u v:Nat},comp g k u v→RC g.m g.tl g.hd (λ_=>true) u v:=fun {k}=>by
   induction k with
   | zero=>intro _ u v h; rw[show u=v from h]; exact .refl
   | succ k ih =>
     intro hk u v h
     rcases h with h|⟨h1,h2⟩|⟨h1,h2⟩
     ·exact ih om h
     ·exact tr (ih om h1) (tr (.one .refl om rfl rfl) (ih om h2))
     ·exact tr (ih om h1) (tr (.two .refl om rfl rfl) (ih om h2))
  exact key (ae _) h
theorem Rws.euler (R:Rws g T):∃ j:Nat,2*(cls g.n (comp g g.m):Int)+g.m-g.n-(cls (2*g.m) (Ob (ph (rnx g T) g.m))+emp T)=2*(j:Int)∧(j=0↔Cuts g (rnx g T) g.m) :=
 Go.Pla.euler R.rotn R.iso (ae _)
end
end Go.Pla
namespace Go.Proofs.YtpeemonpdlifbaaGreat
open Go.Am
open Go.Pla (Rws en fl)
def nN (T:List (List Int)):List (List Nat):=T.map λl=>l.map Int.toNat
def kQ (T:List (List Nat)):List (List Int):=T.map λl=>l.map λn=>((n:Nat):Int)
theorem oI {T:List (List Int)}{x:Nat}:(nN T).getD x []=(T.getD x []).map Int.toNat:=by
 unfold nN
 rw[ai,aG,ai]
 cases T[x]?<;>rfl
theorem qF {T:List (List Nat)}{x:Nat}:(kQ T).getD x []=(T.getD x []).map λn=>((n:Nat):Int):=by
 unfold kQ
 rw[ai,aG,ai]
 cases T[x]?<;>rfl
section
variable {n:Nat}{E:List (Int×Int)}{hE:InG n E}{hL:∀ i,i<E.length→tlE E i≠hdE E i}{T:List (List Int)}
theorem Bq {d:Nat} (hd:d<2*E.length):Gj E d=((en (grE n E hE hL) d:Nat):Int):=by
 have hi:d / 2<E.length:=om
 have e:=(hE _ hi).1
 have e2:E.getD (d / 2) (0,0)=E[d / 2]:=by rw[ai,ah hi]; rfl
 unfold Gj en
 rw[e2,e]
 split<;>rfl
theorem mT {x:Nat}{z:Int}:okH E x z↔∃ d:Nat,z=((d:Nat):Int)∧d<2*E.length∧en (grE n E hE hL) d=x:=by
 constructor
 ·rintro⟨h1,h2,h3⟩
  refine⟨z.toNat,om,om,?_⟩
  rw[Bq (hE:=hE) (hL:=hL) om] at h3
  omega
 ·rintro⟨d,rfl,h1,h2⟩
  exact⟨om,om,by rw[cB,Bq (hE:=hE) (hL:=hL) h1,h2]⟩
theorem vB (R:RwsI n E T):Rws (grE n E hE hL) (nN T) where
 len:=by unfold nN; rw[ak]; exact R.len
 at_:=λx hx d hd=>by
  rw[oI] at hd
  obtain⟨z,hz,rfl⟩:=bu.1 hd
  obtain⟨d,rfl,h1,h2⟩:=(mT (hE:=hE) (hL:=hL)).1 (R.at_ x hx z hz)
  rw[cB]
  exact⟨h1,h2⟩
 nd:=λx hx=>by
  rw[oI,List.Nodup,di]
  have hx:x<n:=hx
  have hT:T.getD x []∈T:=by
   have:x<T.length:=by have:=R.len; omega
   rw[iA this]; exact aR this
  have nd:(T.getD x []).Nodup:=by
   rw[List.nodup_iff_count]
   intro z
   by_cases hz:z∈T.getD x []
   ·obtain⟨d,rfl,h1,_⟩:=(mT (hE:=hE) (hL:=hL)).1 (R.at_ x hx z hz)
    rw[← R.one d h1]
    exact (List.sublist_flatten_of_mem hT).count_le _
   ·rw[List.count_eq_zero.2 hz]; omega
  refine List.Pairwise.imp_of_mem (fun {a b} ha hb hab=>?_) nd
  obtain⟨d,rfl,_⟩:=(mT (hE:=hE) (hL:=hL)).1 (R.at_ x hx a ha)
  obtain⟨d',rfl,_⟩:=(mT (hE:=hE) (hL:=hL)).1 (R.at_ x hx b hb)
  rw[cB,cB]
  exact λe=>hab (by rw[e])
 all:=λd hd=>by
  have hd:d<2*E.length:=hd
  have h1:=R.one d hd
  have hm:((d:Nat):Int)∈T.flatten:=List.count_pos_iff.1 om
  obtain⟨l,hl,hm⟩:=dQ.1 hm
  obtain⟨x,hx,rfl⟩:=dp.1 hl
  have hx':x<n:=by have:=R.len; omega
  obtain⟨d',e,_,h2⟩:=(mT (hE:=hE) (hL:=hL)).1 (R.at_ x hx' _ (by rw[iA hx]; exact hm))
  obtain rfl:d=d':=om
  rw[oI,h2,iA hx]
  exact bu.2 ⟨_,hm,by simp⟩
theorem Io {T:List (List Nat)} (R:Rws (grE n E hE hL) T):RwsI n E (kQ T) where
 len:=by unfold kQ; rw[ak]; exact R.len
 at_:=λx hx z hz=>by
  rw[qF] at hz
  obtain⟨d,hd,rfl⟩:=bu.1 hz
  obtain⟨h1,h2⟩:=R.at_ x hx d hd
  exact (mT (hE:=hE) (hL:=hL)).2 ⟨d,rfl,h1,h2⟩
 one:=λi hi=>by
  have nd:(kQ T).flatten.Nodup:=by
   have hlen:T.length=n:=R.len
   rw[List.Nodup,iJ]
   constructor
   ·intro l hl
    obtain⟨l',hl',rfl⟩:=bu.1 hl
    obtain⟨x,hx,rfl⟩:=dp.1 hl'
    have:=R.nd x (by rw[← R.len]; exact hx)
    rw[ai,ah hx] at this
    rw[di]
    exact List.Pairwise.imp (λh e=>h om) this
   ·rw[fx]
    intro x y hx hy hxy a ha b hb e
    subst e
    have hx':x<T.length:=by unfold kQ at hx; rwa [ak] at hx
    have hy':y<T.length:=by unfold kQ at hy; rwa [ak] at hy
    have e1:(kQ T)[x]=(kQ T).getD x []:=by rw[ai,ah hx]; rfl
    have e2:(kQ T)[y]=(kQ T).getD y []:=by rw[ai,ah hy]; rfl
    rw[e1,qF] at ha
    rw[e2,qF] at hb
    obtain⟨d,hd,rfl⟩:=bu.1 ha
    obtain⟨d',hd',e⟩:=bu.1 hb
    obtain rfl:d'=d:=om
    have q1:=(R.at_ x (by rw[← R.len]; exact hx') _ hd).2
    have q2:=(R.at_ y (by rw[← R.len]; exact hy') _ hd').2
    omega
  rw[nd.count,if_pos]
  have:=R.all i hi
  have hx:en (grE n E hE hL) i<T.length:=by rw[R.len]; exact Go.Pla.en_lt hi
  refine dQ.2 ⟨(kQ T).getD (en (grE n E hE hL) i) [],?_,?_⟩
  ·have hx':en (grE n E hE hL) i<(kQ T).length:=by unfold kQ; rwa [ak]
   rw[ai,ah hx']
   exact aR hx'
  ·rw[qF]
   exact bu.2 ⟨i,this,rfl⟩
end
open Go.Am
open Go.Pla (Rws en fl rnx ph nxl ixo cls Ob comp Back it)
section
variable {n:Nat}{E:List (Int×Int)}{hE:InG n E}{hL:∀ i,i<E.length→tlE E i≠hdE E i}{T:List (List Int)}
theorem Iq (R:RwsI n E T) (hE:InG n E) (hL:∀ i,i<E.length→tlE E i≠hdE E i) {x:Nat} (hx:x<n):(T.getD x []).length≤2*E.length:=by
 have RW:=vB (hE:=hE) (hL:=hL) R
 have:=Go.Pla.nd_lt (RW.nd x hx) (n:=2*E.length) λd hd=>(RW.at_ x hx d hd).1
 rw[oI,ak] at this
 exact this
open Classical in
noncomputable def CN (φ:Nat→Nat) (k:Nat):Nat:=(List.range k).countP λx=>decide (∀ y,y<x→¬ Ob φ y x)
theorem FC {φ:Nat→Nat}{N:Nat}:CN φ N=cls N (Ob φ):=by
 unfold CN cls
 exact fI λx _=>by simp only[aA]
open Classical in
theorem CM {φ:Nat→Nat}{k:Nat}:CN φ (k+1)=CN φ k+if ∀ y,y<k→¬ Ob φ y k then 1 else 0:=by
 unfold CN
 rw[bD,oA]
 simp only[cU,tk,bM,aA]
open Classical in
noncomputable def IV (Q:Nat→Nat→Prop) (k:Nat):Nat:=(List.range k).countP λx=>decide (∀ y,y<x→¬ Q y x)
theorem FB {Q:Nat→Nat→Prop}{N:Nat}:IV Q N=cls N Q:=by
 unfold IV cls
 exact fI λx _=>by simp only[aA]
open Classical in
theorem IU {Q:Nat→Nat→Prop}{k:Nat}:IV Q k≤k:=by
 unfold IV
 refine cN fY ?_
 rw[bF]
 exact ae _
end
end Go.Proofs.YtpeemonpdlifbaaGreat
namespace Go.Spl
open Go.Blk (RC)
section
variable {m:Nat}{tl hd:Nat→Nat}{c:Nat→Bool}
theorem rc_trans {u v z:Nat} (h1:RC m tl hd c u v) (h2:RC m tl hd c v z):RC m tl hd c u z:=by
 induction h2 with
 | refl=>exact h1
 | one _ a b e ih=>exact .one ih a b e
 | two _ a b e ih=>exact .two ih a b e
theorem rc_lt {n:Nat} (ht:∀ i,i<m→tl i<n∧hd i<n) {u v:Nat} (h:RC m tl hd c u v) (hu:u<n):v<n:=by
 induction h with
 | refl=>exact hu
 | one _ a _ _ _=>exact (ht _ a).2
 | two _ a _ _ _=>exact (ht _ a).1
end
def cw (tl hd:Nat→Nat) (w:Nat→Bool) (i:Nat):Bool:=!(w (tl i))&&!(w (hd i))
def RepP (m:Nat) (tl hd:Nat→Nat) (w:Nat→Bool) (x:Nat):Prop:=w x=false∧∀ y,y<x→¬ RC m tl hd (cw tl hd w) y x
open Classical in
noncomputable def nParts (n m:Nat) (tl hd:Nat→Nat) (w:Nat→Bool):Nat:=(List.range n).countP λx=>decide (RepP m tl hd w x)
section
variable {m:Nat}{tl hd:Nat→Nat}{w:Nat→Bool}
theorem rc_w {u v:Nat} (h:RC m tl hd (cw tl hd w) u v):u=v∨(w u=false∧w v=false):=by
 induction h with
 | refl=>exact .inl rfl
 | one h1 a b e ih =>
   simp only[cw,aM,da] at b
   rcases ih with rfl|ih
   ·subst e; exact .inr b
   ·exact .inr ⟨ih.1,b.2⟩
 | two h1 a b e ih =>
   simp only[cw,aM,da] at b
   rcases ih with rfl|ih
   ·subst e; exact .inr ⟨b.2,b.1⟩
   ·exact .inr ⟨ih.1,b.1⟩
theorem rep_ex:∀ (y:Nat),w y=false→∃ x,x≤y∧RepP m tl hd w x∧RC m tl hd (cw tl hd w) x y:=by
 intro y
 induction y using Nat.strongRecOn with
 | _ y ih =>
   intro hy
   by_cases h:RepP m tl hd w y
   ·exact⟨y,ae _,h,.refl⟩
   ·have:∃ z,z<y∧RC m tl hd (cw tl hd w) z y:=Classical.byContradiction λhc=>h ⟨hy,λz hz hr=>hc ⟨z,hz,hr⟩⟩
    obtain⟨z,hz,hr⟩:=this
    have hw:w z=false:=by
     rcases rc_w hr with e|e
     ·omega
     ·exact e.1
    obtain⟨x,h1,h2,h3⟩:=ih z hz hw
    exact⟨x,om,h2,rc_trans h3 hr⟩
end
end Go.Spl
namespace Go.Proofs.YtpeemonpdlifbaaGreat
open Go.Am
open Go.Pla (Rws en fl rnx ph nxl ixo cls Ob comp Back it)
theorem nR {s:List Bool}{i j:Nat} (hi:i<s.length):(s.set i true).getD j true=(s.getD j true||decide (i=j)):=by
 rw[ai,cZ,ai]
 by_cases q:i=j
 ·subst q; rw[if_pos rfl,if_pos hi,aL rfl,Bool.or_true]; rfl
 ·rw[if_neg q,aJ q,fR]
theorem tT {E:List (Int×Int)}{m x:Nat}:∀ {l:List Int}{s:List Bool},s.length=m→(∀ z∈l,0≤z∧z<((m:Nat):Int)∧Gj E z.toNat=((x:Nat):Int))→l.Nodup→(∀ z∈l,s.getD z.toNat true=false) →
 ∃ s',me E ((x:Nat):Int) l s=some s'∧s'.length=m∧∀ i:Nat,i<m→s'.getD i true=(s.getD i true||decide (((i:Nat):Int)∈l))
 | [],s,hs,_,_,_=>⟨s,rfl,hs,λi _=>by simp⟩
 | z::t,s,hs,h1,nd,h2=>by
   obtain⟨n1,n2⟩:=aW.1 nd
   obtain⟨a1,a2,a3⟩:=h1 z (by simp)
   have a4:=h2 z (by simp)
   have hz:z.toNat<s.length:=om
   obtain⟨s',e1,e2,e3⟩:=tT (m:=m) (x:=x) (l:=t) (s:=s.set z.toNat true) (by rw[bE]; exact hs) (λy hy=>h1 y (by simp [hy])) n2 λy hy=>by
    rw[nR hz,h2 y (by simp [hy]),eA,aJ]
    intro q
    have:=(h1 y (by simp [hy])).1
    exact n1 ((show z=y by omega)▸hy)
   refine⟨s',?_,e2,λi hi=>?_⟩
   ·simp only[me]
    rw[if_pos ⟨a1,om,a4,a3⟩]
    exact e1
   ·rw[e3 i hi,nR hz,Bool.or_assoc]
    congr 1
    rw[cW,bN,aA,aA,aA,au]
    constructor
    ·rintro (q|q)
     ·exact .inl om
     ·exact .inr q
    ·rintro (q|q)
     ·exact .inl om
     ·exact .inr q
theorem vp {E:List (Int×Int)}{m:Nat}:∀ {T:List (List Int)}{x:Nat}{s:List Bool},s.length=m→(∀ k (hk:k<T.length),∀ z∈T[k],0≤z∧z<((m:Nat):Int)∧Gj E z.toNat=((x+k:Nat):Int))→T.flatten.Nodup→(∀ z∈T.flatten,s.getD z.toNat true=false) →
 ∃ s',np E x T s=some s'∧s'.length=m∧∀ i:Nat,i<m→s'.getD i true=(s.getD i true||decide (((i:Nat):Int)∈T.flatten))
 | [],x,s,hs,_,_,_=>⟨s,rfl,hs,λi _=>by simp⟩
 | l::T,x,s,hs,h1,nd,h2=>by
   rw[eK,aN] at nd
   obtain⟨n1,n2,n3⟩:=nd
   rw[eK] at h2
   have hl:=h1 0 (by simp)
   simp only[List.getElem_cons_zero,dh] at hl
   obtain⟨s1,e1,e2,e3⟩:=tT (m:=m) (x:=x) (l:=l) (s:=s) hs hl n1 λz hz=>h2 z (aZ _ hz)
   have pos:∀ z∈T.flatten,0≤z∧z<((m:Nat):Int):=λz hz=>by
    obtain⟨l',hl',hz⟩:=dQ.1 hz
    obtain⟨k,hk,rfl⟩:=dp.1 hl'
    have:=h1 (k+1) (by simp; omega) z (by simpa using hz)
    exact⟨this.1,this.2.1⟩
   obtain⟨s2,f1,f2,f3⟩:=vp (E:=E) (m:=m) (T:=T) (x:=x+1) (s:=s1) e2 (λk hk z hz=>by
    have:=h1 (k+1) (by simp; omega) z (by simpa using hz)
    rw[show x+1+k=x+(k+1) by omega]
    exact this) n2 λz hz=>by
     obtain⟨p1,p2⟩:=pos z hz
     rw[e3 _ om,h2 z (fX _ hz),eA,aJ]
     intro q
     rw[jr p1] at q
     exact n3 z q z hz rfl
   refine⟨s2,?_,f2,λi hi=>?_⟩
   ·simp only[np,e1,eU]
    exact f1
   ·rw[f3 i hi,e3 i hi,Bool.or_assoc,eK]
    congr 1
    rw[cW,bN,aA,aA,aA,aC]
section
variable {n:Nat}{E:List (Int×Int)}{T:List (List Int)}
theorem xi (R:RwsI n E T):T.flatten.Nodup∧∀ z∈T.flatten,0≤z∧z<((2*E.length:Nat):Int):=by
 have h2:∀ z∈T.flatten,0≤z∧z<((2*E.length:Nat):Int):=λz hz=>by
  obtain⟨l',hl',hz⟩:=dQ.1 hz
  obtain⟨k,hk,rfl⟩:=dp.1 hl'
  have:=R.at_ k (by rw[← R.len]; exact hk) z (by rw[iA hk]; exact hz)
  exact⟨this.1,this.2.1⟩
 refine⟨List.nodup_iff_count.2 λz=>?_,h2⟩
 by_cases q:z∈T.flatten
 ·obtain⟨a,b⟩:=h2 z q
  have:=R.one z.toNat om
  rw[jr a] at this
  omega
 ·rw[List.count_eq_zero.2 q]; exact fq _
theorem tS (R:RwsI n E T):jO n E T=true:=by
 obtain⟨n1,n2⟩:=xi R
 obtain⟨s',e1,e2,e3⟩:=vp (E:=E) (m:=2*E.length) (T:=T) (x:=0) (s:=List.replicate (2*E.length) false) (by simp) (λk hk z hz=>by
  have:=R.at_ k (by rw[← R.len]; exact hk) z (by rw[iA hk]; exact hz)
  rw[bM]
  exact this) n1 λz hz=>by
   have:=n2 z hz
   rw[ai,dS,if_pos om]
   rfl
 unfold jO
 rw[e1,aL R.len,fD]
 simp only
 cases hc:s'.contains false with
 | false=>rfl
 | true =>
   rw[List.contains_iff_mem] at hc
   obtain⟨i,hi,he⟩:=dp.1 hc
   have h1:=e3 i om
   have h2:=R.one i om
   have h3:((i:Nat):Int)∈T.flatten:=List.count_pos_iff.1 om
   rw[aL h3,Bool.or_true,ai,ah hi,he] at h1
   cases h1
theorem Ku (h:Nat):h ^^^ 1=fl h:=by
 have e:=wU h
 have o:=Nat.xor_mod_two_eq_one (a:=h) (b:=1)
 unfold fl
 split<;>omega
theorem KS {l:List Int}{T:List (List Int)} (h:T.flatten.Nodup) (hl:l∈T):l.Nodup:=by
 obtain⟨A,B,rfl⟩:=bL hl
 rw[gz,eK,aN,aN] at h
 exact h.2.1.1
theorem AI {N:Nat}{l nx:List Int} (hN:N<2 ^ 40) (he:∀ d,d<N→fl d<N) (nd:l.Nodup) (hl:∀ z∈l,0≤z∧z<((N:Nat):Int)) (hx:nx.length=N):∀ k,k≤l.length →
 ((List.range k).foldl (lV l) nx).length=N∧∀ d,d<N→(∀ i,i<k→l.getD i 0=((fl d:Nat):Int)→((List.range k).foldl (lV l) nx).getD d 0=l.getD ((i+1) % l.length) 0)∧((∀ i,i<k→l.getD i 0≠((fl d:Nat):Int))→((List.range k).foldl (lV l) nx).getD d 0=nx.getD d 0)
 | 0,_=>⟨hx,λd _=>⟨λi hi=>absurd hi (eP _),λ_=>rfl⟩⟩
 | k+1,hk=>by
   obtain⟨h1,h2⟩:=AI hN he nd hl hx k om
   rw[bD,cS]
   generalize (List.range k).foldl (lV l) nx=a at *
   simp only[dP,ou,lV]
   have hkl:k<l.length:=om
   have gk:l.getD k 0=l[k]:=by rw[ai,ah hkl]; rfl
   obtain⟨p1,p2⟩:=hl _ (aR hkl)
   obtain⟨o,ho⟩:∃ o:Nat,l[k]=((o:Nat):Int):=⟨l[k].toNat,om⟩
   have hoN:o<N:=om
   have hx1:(DR (l.getD k 0) 1).toNat=fl o:=by rw[gk,ho,(wV om).1,cB,Ku]
   have hflo:=he o hoN
   rw[hx1]
   have gs:∀ d,(a.set (fl o) (l.getD ((k+1) % l.length) 0)).getD d 0=if fl o=d then l.getD ((k+1) % l.length) 0 else a.getD d 0:=λd=>by
    rw[ai,cZ,ai (l:=a)]
    by_cases q:fl o=d
    ·rw[if_pos q,if_pos q,if_pos om]; rfl
    ·rw[if_neg q,if_neg q]
   refine⟨by rw[bE]; exact h1,λd hd=>?_⟩
   rw[gs]
   have inj:∀ i,i<l.length→l.getD i 0=l[k]→i=k:=λi hi q=>by
    rw[ai,ah hi] at q
    exact (Hf nd).1 q
   by_cases q:fl o=d
   ·have q2:fl d=o:=by rw[← q,Go.Pla.fl_fl]
    rw[if_pos q]
    refine⟨λi hi hz=>?_,λhz=>absurd (by rw[gk,ho,q2]) (hz k om)⟩
    rw[q2,← ho] at hz
    rw[inj i om hz]
   ·rw[if_neg q]
    refine⟨λi hi hz=>?_,λhz=>(h2 d hd).2 λi hi=>hz i om⟩
    rcases bU i k with q2|q2
    ·exact (h2 d hd).1 i q2 hz
    ·obtain rfl:i=k:=om
     rw[gk,ho] at hz
     exact absurd (by rw[show o=fl d by omega,Go.Pla.fl_fl]) q
theorem xQ (R:RwsI n E T) (hm:E.length≤128):∀ k,k≤T.length→((T.take k).foldl vD (List.replicate (2*E.length) 0)).length=2*E.length ∧
 ∀ d,d<2*E.length→∀ x (hx:x<T.length),x<k→∀ i,i<T[x].length→T[x].getD i 0=((fl d:Nat):Int)→((T.take k).foldl vD (List.replicate (2*E.length) 0)).getD d 0=T[x].getD ((i+1) % T[x].length) 0
 | 0,_=>⟨by simp,λd _ x _ hx=>absurd hx (eP _)⟩
 | k+1,hk=>by
   obtain⟨h1,h2⟩:=xQ R hm k om
   have hkT:k<T.length:=om
   rw[eJ,ah hkT,Option.toList_some,cS]
   generalize (T.take k).foldl vD (List.replicate (2*E.length) 0)=a at *
   simp only[dP,ou,vD]
   have hz:∀ x (hx:x<T.length),∀ z∈T[x],okH E x z:=λx hx z hz=>R.at_ x (by rw[← R.len]; exact hx) z (by rw[iA hx]; exact hz)
   have ndk:T[k].Nodup:=KS (xi R).1 (aR hkT)
   have hfl:∀ d,d<2*E.length→fl d<2*E.length:=λd hd=>by unfold fl; split<;>omega
   obtain⟨r1,r2⟩:=AI (N:=2*E.length) (l:=T[k]) (nx:=a) om hfl ndk (λz q=>⟨(hz k hkT z q).1,(hz k hkT z q).2.1⟩) h1 T[k].length (ae _)
   refine⟨r1,λd hd x hx hxk i hi q=>?_⟩
   rcases bU x k with q2|q2
   ·rw[(r2 d hd).2 λj hj e=>?_]
    ·exact h2 d hd x hx q2 i hi q
    ·have m1:T[x].getD i 0∈T[x]:=by rw[ai,ah hi]; exact aR _
     have m2:T[k].getD j 0∈T[k]:=by rw[ai,ah hj]; exact aR _
     have o1:=(hz x hx _ m1).2.2
     have o2:=(hz k hkT _ m2).2.2
     rw[q] at o1
     rw[e,o1] at o2
     omega
   ·obtain rfl:x=k:=om
    exact (r2 d hd).1 i hi q
theorem Ft {hE:InG n E}{hL:∀ i,i<E.length→tlE E i≠hdE E i} (R:RwsI n E T) (hm:E.length≤128) {d:Nat} (hd:d<2*E.length):(mD T E.length).getD d 0=((ph (rnx (grE n E hE hL) (nN T)) E.length d:Nat):Int):=by
 have RW:=vB (hE:=hE) (hL:=hL) R
 have hth:Go.Pla.th E.length d=fl d:=by unfold Go.Pla.th; rw[if_pos om]
 have hfl:fl d<2*E.length:=by rw[← hth]; exact Go.Pla.th_lt hd
 have hxn:en (grE n E hE hL) (fl d)<n:=Go.Pla.en_lt hfl
 have hxT:en (grE n E hE hL) (fl d)<T.length:=by rw[R.len]; exact hxn
 have hmem:=RW.all (fl d) hfl
 obtain⟨x,hx⟩:∃ x,x=en (grE n E hE hL) (fl d):=⟨_,rfl⟩
 have hans:ph (rnx (grE n E hE hL) (nN T)) E.length d=nxl ((nN T).getD x []) (fl d):=by
  unfold ph rnx
  rw[hth,← hx]
 rw[← hx] at hxn hxT hmem
 have hnat:(nN T).getD x []=T[x].map Int.toNat:=by rw[oI,iA hxT]
 have hpos:∀ z∈T[x],0≤z:=λz hz=>(R.at_ x hxn z (by rw[iA hxT]; exact hz)).1
 rw[hnat] at hans hmem
 obtain⟨i1,i2⟩:=Go.Pla.ixo_at hmem
 rw[ak] at i1
 obtain⟨i,hi⟩:∃ i,i=ixo (T[x].map Int.toNat) (fl d):=⟨_,rfl⟩
 rw[← hi] at i1 i2
 have mg:∀ {j},j<T[x].length→(((T[x].map Int.toNat).getD j 0:Nat):Int)=T[x].getD j 0:=fun {j} hj=>by
  rw[ai,aG,ah hj,ai,ah hj]
  simp only[aH,fC]
  have:=hpos _ (aR hj)
  omega
 have e1:T[x].getD i 0=((fl d:Nat):Int):=by rw[← mg i1,i2]
 have:=(xQ R hm T.length (ae _)).2 d hd x hxT hxT i i1 e1
 rw[dF] at this
 unfold mD
 rw[this,hans]
 unfold nxl
 rw[← hi,ak,mg (fL _ om)]
section
variable {N:Nat}{nx:List Int}{φ:Nat→Nat}
open Classical in
theorem trF_go (hc:∀ d,d<N→φ d<N) (hi:∀ a b,a<N→b<N→φ a=φ b→a=b) (hn:∀ d,d<N→nx.getD d 0=((φ d:Nat):Int)) {f r:Nat} (hf:f<N) (hb:Back φ f r) {s0:Nat→Bool} (h0:∀ j,s0 (it φ j f)=false) :
 ∀ t i,i+t=r→∀ k,t≤k→∀ s:List Bool,s.length=N→(∀ d,d<N→s.getD d true=(s0 d||decide (∃ j,j<i∧it φ j f=d))) →
   (trF nx k s (it φ i f)).2.length=N∧∀ d,d<N→(trF nx k s (it φ i f)).2.getD d true=(s0 d||decide (∃ j,j<r∧it φ j f=d))
 | 0,i,e,k,_,s,hs,hm=>by
   obtain rfl:i=r:=om
   have:s.getD (it φ i f) true=true:=by
    rw[hm _ (Go.Pla.it_lt hc hf i),hb.2.1,aL ⟨0,hb.1,rfl⟩,Bool.or_true]
   rw[trF_stop this]
   exact⟨hs,hm⟩
 | t+1,i,e,k,hk,s,hs,hm=>by
   obtain⟨k,rfl⟩:∃ k',k=k'+1:=⟨k-1,om⟩
   have hlt:=Go.Pla.it_lt hc hf i
   have hne:∀ j,j<i→it φ j f≠it φ i f:=λj hj q=>by
    have:=hb.2.2 (i-j) om om
    refine this ?_
    have key:∀ a b,it φ a f=it φ (a+b) f→it φ b f=f:=λa=>by
     induction a with
     | zero=>intro b h; rw[bM] at h; exact h.symm
     | succ a ih =>
       intro b h
       refine ih b (hi _ _ (Go.Pla.it_lt hc hf _) (Go.Pla.it_lt hc hf _) ?_)
       have:a+1+b=(a+b)+1:=om
       rw[this] at h
       exact h
    exact key j (i-j) (by rw[show j+(i-j)=i by omega]; exact q)
   have hsi:s.getD (it φ i f) true=false:=by
    rw[hm _ hlt,h0,eA,aJ]
    rintro⟨j,hj,q⟩
    exact hne j hj q
   have hn1:(nx.getD (it φ i f) 0).toNat=it φ (i+1) f:=by rw[hn _ hlt,cB]; rfl
   have:=trF_go hc hi hn hf hb h0 t (i+1) om k om (s.set (it φ i f) true) (by rw[bE]; exact hs) λd hd=>by
    rw[nR om,hm d hd,Bool.or_assoc]
    congr 1
    rw[cW,bN,aA,aA,aA]
    constructor
    ·rintro (⟨j,hj,q⟩|q)
     ·exact⟨j,om,q⟩
     ·exact⟨i,om,q⟩
    ·rintro⟨j,hj,q⟩
     rcases bU j i with z|z
     ·exact .inl ⟨j,z,q⟩
     ·exact .inr (by rw[← q]; congr 1; omega)
   simp only[trF,hsi,bh,if_false,hn1]
   exact this
open Classical in
theorem Db (hc:∀ d,d<N→φ d<N) (hi:∀ a b,a<N→b<N→φ a=φ b→a=b) (hn:∀ d,d<N→nx.getD d 0=((φ d:Nat):Int)):(pC nx N).length=cls N (Ob φ):=by
 have Eq:=Go.Pla.ob_eqv hc hi
 have key:∀ k,k≤N→((List.range k).foldl (fp nx N) ([],List.replicate N false)).1.length=CN φ k∧((List.range k).foldl (fp nx N) ([],List.replicate N false)).2.length=N ∧
  ∀ d,d<N→((List.range k).foldl (fp nx N) ([],List.replicate N false)).2.getD d true=decide (∃ y,y<k∧Ob φ y d):=λk=>by
  induction k with
  | zero =>
    intro _
    refine⟨rfl,by simp,λd hd=>?_⟩
    rw[aJ (by rintro⟨y,hy,_⟩; omega)]
    show (List.replicate N false).getD d true=false
    rw[ai,dS,if_pos hd]
    rfl
  | succ k ih =>
    intro hk
    obtain⟨h1,h2,h3⟩:=ih om
    rw[bD,cS]
    generalize (List.range k).foldl (fp nx N) ([],List.replicate N false)=a at *
    simp only[dP,ou,fp]
    have hkN:k<N:=om
    rw[CM]
    by_cases q:∃ y,y<k∧Ob φ y k
    ·have hs:a.2.getD k true=true:=by rw[h3 k hkN,aL q]
     rw[trF_stop hs,if_pos (show (([]:List Nat),a.2).1=[] from rfl),if_neg (λh=>by obtain⟨y,hy,ho⟩:=q; exact h y hy ho)]
     refine⟨om,h2,λd hd=>?_⟩
     rw[h3 d hd,decide_eq_decide]
     constructor
     ·rintro⟨y,hy,ho⟩; exact⟨y,om,ho⟩
     ·rintro⟨y,hy,ho⟩
      rcases bU y k with z|z
      ·exact⟨y,z,ho⟩
      ·obtain rfl:y=k:=om
       obtain⟨y',hy',ho'⟩:=q
       exact⟨y',hy',ho'.trans ho⟩
    ·have hs:a.2.getD k true=false:=by rw[h3 k hkN,aJ q]
     obtain⟨r,hrN,hb⟩:=Go.Pla.back_of hc hi hkN
     have hq:∀ y,y<k→¬ Ob φ y k:=λy hy ho=>q ⟨y,hy,ho⟩
     have hg:=trF_go (nx:=nx) hc hi hn hkN hb (s0:=λd=>decide (∃ y,y<k∧Ob φ y d)) (λj=>by
      rw[aJ]
      rintro⟨y,hy,ho⟩
      exact hq y hy (ho.trans (Eq.sm _ _ hkN (Go.Pla.it_lt hc hkN j) ⟨j,rfl⟩))) r 0 om N hrN a.2 h2 (λd hd=>by
       have h0:¬ ∃ j,j<0∧it φ j k=d:=by rintro⟨j,hj,_⟩; omega
       rw[h3 d hd]
       simp only[h0,decide_false,fR])
     have he:(trF nx N a.2 k).1≠[]:=by
      obtain⟨N',rfl⟩:∃ N',N=N'+1:=⟨N-1,om⟩
      simp only[trF,hs,bh,if_false]
      exact List.cons_ne_nil _ _
     rw[if_neg he,if_pos hq]
     refine⟨by rw[aI,h1]; rfl,hg.1,λd hd=>?_⟩
     have e2:=hg.2 d hd
     rw[show it φ 0 k=k from rfl] at e2
     rw[e2,cW,bN,aA,aA,aA]
     constructor
     ·rintro (⟨y,hy,ho⟩|⟨j,hj,e⟩)
      ·exact⟨y,om,ho⟩
      ·exact⟨k,om,j,e⟩
     ·rintro⟨y,hy,ho⟩
      rcases bU y k with z|z
      ·exact .inl ⟨y,z,ho⟩
      ·obtain rfl:y=k:=om
       have hm:d∈Go.Pla.orb φ y r:=Ob.keep (N:=N) (P:=λz=>z∈Go.Pla.orb φ y r) hc (λd _ q=>Go.Pla.orb_nx hb q) hkN ho (Go.Pla.orb_mem.2 ⟨0,hb.1,rfl⟩)
       obtain⟨j,hj,e⟩:=Go.Pla.orb_mem.1 hm
       exact .inr ⟨j,hj,e⟩
 unfold pC
 rw[(key N (ae _)).1,FC]
end
theorem zJ {hE:InG n E}{hL:∀ i,i<E.length→tlE E i≠hdE E i} (R:RwsI n E T) (hm:E.length≤128):(iV n E T).length=cls (2*E.length) (Ob (ph (rnx (grE n E hE hL) (nN T)) E.length)):=by
 have hR:=(vB (hE:=hE) (hL:=hL) R).rotn
 unfold iV
 rw[if_pos (tS R)]
 exact Db (λd hd=>Go.Pla.ph_lt hR hd) (Go.Pla.ph_inj hR) λd hd=>Ft R hm hd
open Go.Spl (nParts RepP cw) in
theorem CF {hE:InG n E}{hL:∀ i,i<E.length→tlE E i≠hdE E i}:nParts n E.length (tlE E) (hdE E) (λ_=>false)=cls n (comp (grE n E hE hL) E.length):=by
 classical
 unfold nParts cls
 refine fI λx hx=>?_
 have hx:=ao.1 hx
 simp only[aA]
 unfold RepP
 have hc:cw (tlE E) (hdE E) (λ_=>false)=λ_=>true:=rfl
 rw[hc]
 have h2:∀ y,y<x→(Go.Blk.RC E.length (tlE E) (hdE E) (λ_=>true) y x↔comp (grE n E hE hL) E.length y x):=λy hy=>by
  have:=Go.Pla.rc_comp (g:=grE n E hE hL) (u:=y) (v:=x) (by show y<n; omega)
  exact this.trans ⟨λq=>q.2,λq=>⟨hx,q⟩⟩
 constructor
 ·rintro⟨_,h⟩ y hy q
  exact h y hy ((h2 y hy).2 q)
 ·intro h
  exact⟨rfl,λy hy q=>h y hy ((h2 y hy).1 q)⟩
end
end Go.Proofs.YtpeemonpdlifbaaGreat
