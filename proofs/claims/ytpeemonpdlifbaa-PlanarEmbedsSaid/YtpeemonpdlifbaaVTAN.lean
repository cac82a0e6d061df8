/- A rotation's rows; its empty ones, its faces, the parts that -/
import Derived.Test.YtpeemonpdlifbaaVTAM
import Derived.Test.YtpeemonpdlifbaaVTAE
import Derived.Test.YtpeemonpdlifbaaVTAF
import Derived.Test.YtpeemonpdlifbaaVTAH
set_option linter.all false
namespace Go.Pla
section
open Go.Blk
def ixo:List Nat→Nat→Nat
 | [],_=>0
 | x::l,d=>if x=d then 0 else ixo l d+1
theorem rO:∀ {l:List Nat}{d:Nat},d∈l→ixo l d<l.length∧l.getD (ixo l d) 0=d
 | [],d,h=>by simp at h
 | x::l,d,h=>by
   unfold ixo
   by_cases e:x=d
   ·rw[if_pos e]; subst e; simp
   ·rw[if_neg e]
    have:=rO (l:=l) (d:=d) (by
     rcases aw.1 h with h|h
     ·exact absurd h.symm e
     ·exact h)
    exact⟨by rw[aB]; omega,by rw[List.getD_cons_succ]; exact this.2⟩
theorem ixo_get:∀ {l:List Nat}{i:Nat},l.Nodup→i<l.length→ixo l (l.getD i 0)=i
 | x::l,0,_,_=>by simp [ixo]
 | x::l,i+1,nd,hi=>by
   obtain⟨n1,n2⟩:=aZ.1 nd
   have hi':i<l.length:=by simpa using hi
   rw[List.getD_cons_succ]
   unfold ixo
   have hm:l.getD i 0∈l:=by rw[aA,ah hi']; exact bj hi'
   rw[if_neg (λ(e:x=l.getD i 0)=>n1 (e▸hm)),ixo_get n2 hi']
theorem xS {l:List Nat}{i:Nat} (h:i<l.length):l.getD i 0∈l:=by
 rw[aA,ah h]; exact bj h
def nxl (l:List Nat) (d:Nat):Nat:=l.getD ((ixo l d+1) % l.length) 0
theorem qt {l:List Nat}{d:Nat} (h:d∈l):nxl l d∈l:=xS (gu _ (sJ h))
theorem HV {l:List Nat} (nd:l.Nodup) {a b:Nat} (ha:a∈l) (hb:b∈l) (h:nxl l a=nxl l b):a=b:=by
 obtain⟨a1,a2⟩:=rO ha
 obtain⟨b1,b2⟩:=rO hb
 have hp:=sJ ha
 have:=congrArg (ixo l) h
 unfold nxl at this
 rw[ixo_get nd (gu _ hp),ixo_get nd (gu _ hp)] at this
 have e:ixo l a=ixo l b:=by
  rcases bF (ixo l a+1) l.length with q1|q1<;>rcases bF (ixo l b+1) l.length with q2|q2
  ·rw[cU q1,cU q2] at this; omega
  ·rw[cU q1,show ixo l b+1=l.length by omega,sH] at this; omega
  ·rw[cU q2,show ixo l a+1=l.length by omega,sH] at this; omega
  ·omega
 rw[← a2,← b2,e]
theorem Fj {l:List Nat} (nd:l.Nodup) {f:Nat→Nat} (hf:∀ d∈l,f d=nxl l d) {i:Nat} (hi:i<l.length):∀ k,it f k (l.getD i 0)=l.getD ((i+k) % l.length) 0
 | 0=>by rw[cZ,cU hi]; rfl
 | k+1=>by
   have hlt:(i+k) % l.length<l.length:=gu _ om
   show f (it f k _)=_
   rw[Fj nd hf hi k,hf _ (xS hlt)]
   unfold nxl
   rw[ixo_get nd hlt,← fO,Nat.mod_add_mod]
theorem JU {l:List Nat} (nd:l.Nodup) {f:Nat→Nat} (hf:∀ d∈l,f d=nxl l d) {a b:Nat} (ha:a∈l) (hb:b∈l):Ob f a b:=by
 obtain⟨a1,a2⟩:=rO ha
 obtain⟨b1,b2⟩:=rO hb
 refine⟨ixo l b+l.length-ixo l a,?_⟩
 have:=Fj nd hf a1 (ixo l b+l.length-ixo l a)
 rw[a2,show ixo l a+(ixo l b+l.length-ixo l a)=ixo l b+l.length by omega,Dv,cU b1,b2] at this
 exact this
structure Rws (g:Gr) (T:List (List Nat)):Prop where
 len:T.length=g.n
 at_:∀ x,x<g.n→∀ d∈T.getD x [],d<2*g.m∧en g d=x
 nd:∀ x,x<g.n→(T.getD x []).Nodup
 all:∀ d,d<2*g.m→d∈T.getD (en g d) []
def rnx (g:Gr) (T:List (List Nat)) (d:Nat):Nat:=nxl (T.getD (en g d) []) d
variable {g:Gr}{T:List (List Nat)}
theorem en_lt {d:Nat} (hd:d<2*g.m):en g d<g.n:=by
 have:=g.ok (d / 2) om
 unfold en; split
 ·exact this.1
 ·exact this.2.1
theorem Rws.rotn (R:Rws g T):Rotn g (rnx g T) where
 lt:=λd hd=>(R.at_ _ (en_lt hd) _ (qt (R.all d hd))).1
 en:=λd hd=>(R.at_ _ (en_lt hd) _ (qt (R.all d hd))).2
 inj:=λa b ha hb h=>by
  have e1:=(R.at_ _ (en_lt ha) _ (qt (R.all a ha))).2
  have e2:=(R.at_ _ (en_lt hb) _ (qt (R.all b hb))).2
  have e:en g a=en g b:=by
   unfold rnx at h
   rw[← e1,← e2,h]
  unfold rnx at h
  rw[e] at h
  exact HV (R.nd _ (en_lt hb)) (e▸R.all a ha) (R.all b hb) h
 one:=λa b ha hb e=>JU (l:=T.getD (en g a) []) (R.nd _ (en_lt ha)) (λd hd=>by
  have:=(R.at_ _ (en_lt ha) d hd).2
  unfold rnx; rw[this]) (R.all a ha) (e▸R.all b hb)
open Classical in
theorem Bh {e:Nat→Nat}{n:Nat}:∀ {N:Nat},(∀ d,d<N→e d<n)→cls N (λa b=>e a=e b)=(List.range n).countP λv=>decide (∃ d,d<N∧e d=v)
 | 0,_=>by
   unfold cls
   rw[List.range_zero,mP]
   refine (List.countP_eq_zero.2 λv _=>?_).symm
   rw[aJ]
   rintro⟨d,h,_⟩; omega
 | N+1,h=>by
   have ih:=Bh (e:=e) (n:=n) (N:=N) λd hd=>h d om
   have hs:cls (N+1) (λa b=>e a=e b)=cls N (λa b=>e a=e b)+(if ∀ y,y<N→¬ e y=e N then 1 else 0):=by
    unfold cls
    rw[bW,nY]
    simp only[cL,mP,bS]
    congr 1
    by_cases q:∀ y,y<N→¬ e y=e N
    ·simp only[aJ]
    ·simp only[aJ]
   rw[hs,ih]
   by_cases q:∀ y,y<N→¬ e y=e N
   ·rw[if_pos q]
    refine (pz (c:=e N) bq (aE.2 (h N om)) (aM ⟨N,om,rfl⟩) λv _=>?_).symm
    rw[dA,aQ,aJ,aJ,dQ,beq_eq_false_iff_ne]
    constructor
    ·rintro⟨d,h1,h2⟩
     exact⟨⟨d,om,h2⟩,λe1=>q d h1 (by rw[h2,e1])⟩
    ·rintro⟨⟨d,h1,h2⟩,hne⟩
     refine⟨d,?_,h2⟩
     rcases bF d N with z|z
     ·exact z
     ·obtain rfl:d=N:=om
      exact absurd h2.symm hne
   ·rw[if_neg q,cZ]
    obtain⟨y,hy,he⟩:∃ y,y<N∧e y=e N:=Classical.byContradiction λhno=>q λy hy he=>hno ⟨y,hy,he⟩
    refine gi λv _=>?_
    rw[aJ,aJ]
    constructor
    ·rintro⟨d,h1,h2⟩; exact⟨d,om,h2⟩
    ·rintro⟨d,h1,h2⟩
     rcases bF d N with z|z
     ·exact⟨d,z,h2⟩
     ·obtain rfl:d=N:=om
      exact⟨y,hy,he.trans h2⟩
def emp (T:List (List Nat)):Nat:=T.countP λl=>l.isEmpty
theorem countP_ix {α:Type}{p:α→Bool}{z:α}:∀ {l:List α},l.countP p=(List.range l.length).countP λi=>p (l.getD i z)
 | []=>rfl
 | x::l=>by
   rw[aB,List.range_succ_eq_map,cL,cL,countP_ix (l:=l) (z:=z),List.countP_map]
   rfl
theorem Rws.iso (R:Rws g T):cls (2*g.m) (Ob (rnx g T))+emp T=g.n:=by
 have hR:=R.rotn
 have h1:cls (2*g.m) (Ob (rnx g T))=cls (2*g.m) (λa b=>en g a=en g b):=jI λx y hx hy =>
  ⟨λh=>Ob.keep (P:=λz=>en g x=en g z) hR.lt (λd hd q=>by rw[hR.en d hd]; exact q) hx h rfl,λh=>hR.one x y hx hy h⟩
 rw[h1,Bh (n:=g.n) λd hd=>en_lt hd]
 unfold emp
 rw[countP_ix (z:=[]),R.len]
 have:=List.length_eq_countP_add_countP (l:=List.range g.n) (λx=>(T.getD x []).isEmpty)
 rw[bV] at this
 refine Eq.trans (?_:_=(List.range g.n).countP (λa=>decide ¬(T.getD a []).isEmpty=true)+_) (by rw[sI]; exact this.symm)
 congr 1
 refine gi λv hv=>?_
 have hv:=aE.1 hv
 simp only[aJ,gM]
 constructor
 ·rintro⟨d,hd,rfl⟩ h
  have:=R.all d hd
  rw[h] at this
  cases this
 ·intro h
  obtain⟨d,hd⟩:=oP _ h
  exact⟨d,R.at_ v hv d hd⟩
theorem rc_comp {u v:Nat} (hu:u<g.n):RC g.m g.tl g.hd (λ_=>true) u v↔v<g.n∧comp g g.m u v:=by
 have E:=comp_eqv (g:=g) (k:=g.m) (ab _)
 constructor
 ·intro h
  induction h with
  | refl=>exact⟨hu,E.rf _ hu⟩
  | one _ hi _ hv ih =>
    have hok:=g.ok _ hi
    exact⟨hok.2.1,E.tr _ _ _ hu ih.1 hok.2.1 ih.2 (hv▸jH (ab _) hi)⟩
  | two _ hi _ hv ih =>
    have hok:=g.ok _ hi
    exact⟨hok.1,E.tr _ _ _ hu ih.1 hok.1 ih.2 (hv▸E.sm _ _ hok.1 hok.2.1 (jH (ab _) hi))⟩
 ·rintro⟨hv,h⟩
  have tr:∀ {x y z:Nat},RC g.m g.tl g.hd (λ_=>true) x y→RC g.m g.tl g.hd (λ_=>true) y z→RC g.m g.tl g.hd (λ_=>true) x z:=fun {x y z} h1 h2=>by
   induction h2 with
   | refl=>exact h1
   | one _ hi hc hv ih=>exact .one ih hi hc hv
   | two _ hi hc hv ih=>exact .two ih hi hc hv
  have key:∀ {k:Nat},k≤g.m→∀ {u v:Nat},comp g k u v→RC g.m g.tl g.hd (λ_=>true) u v:=fun {k}=>by
   induction k with
   | zero=>intro _ u v h; rw[show u=v from h]; exact .refl
   | succ k ih =>
     intro hk u v h
     rcases h with h|⟨h1,h2⟩|⟨h1,h2⟩
     ·exact ih om h
     ·exact tr (ih om h1) (tr (.one .refl om rfl rfl) (ih om h2))
     ·exact tr (ih om h1) (tr (.two .refl om rfl rfl) (ih om h2))
  exact key (ab _) h
theorem Rws.euler (R:Rws g T):∃ j:Nat,2*(cls g.n (comp g g.m):Int)+g.m-g.n-(cls (2*g.m) (Ob (ph (rnx g T) g.m))+emp T)=2*(j:Int)∧(j=0↔Cuts g (rnx g T) g.m) :=
 Go.Pla.euler R.rotn R.iso (ab _)
theorem Rws.dual (R:Rws g T) (h:Cuts g (rnx g T) g.m):∃ (Φ:Type) (l r:Nat→Φ),Dual g (List.range g.m) l r:=CW R.rotn h
end
end Go.Pla
namespace Go.Proofs.Ytpeemonpdlifbaa
open Go.Am
open Go.Pla (Rws en fl)
def ji (T:List (List Int)):List (List Nat):=T.map λl=>l.map Int.toNat
def jf (T:List (List Nat)):List (List Int):=T.map λl=>l.map λn=>((n:Nat):Int)
theorem iZ {T:List (List Int)}{x:Nat}:(ji T).getD x []=(T.getD x []).map Int.toNat:=by
 unfold ji
 rw[aA,aF,aA]
 cases T[x]?<;>rfl
theorem oD {T:List (List Nat)}{x:Nat}:(jf T).getD x []=(T.getD x []).map λn=>((n:Nat):Int):=by
 unfold jf
 rw[aA,aF,aA]
 cases T[x]?<;>rfl
section
variable {n:Nat}{E:List (Int×Int)}{hE:InG n E}{hL:∀ i,i<E.length→tlE E i≠hdE E i}{T:List (List Int)}
theorem vR {d:Nat} (hd:d<2*E.length):kC E d=((en (grE n E hE hL) d:Nat):Int):=by
 have hi:d / 2<E.length:=om
 have e:=(hE _ hi).1
 have e2:E.getD (d / 2) (0,0)=E[d / 2]:=by rw[aA,ah hi]; rfl
 unfold kC en
 rw[e2,e]
 split<;>rfl
theorem kj {x:Nat}{z:Int}:okH E x z↔∃ d:Nat,z=((d:Nat):Int)∧d<2*E.length∧en (grE n E hE hL) d=x:=by
 constructor
 ·rintro⟨h1,h2,h3⟩
  refine⟨z.toNat,om,om,?_⟩
  rw[vR (hE:=hE) (hL:=hL) om] at h3
  omega
 ·rintro⟨d,rfl,h1,h2⟩
  exact⟨om,om,by rw[dj,vR (hE:=hE) (hL:=hL) h1,h2]⟩
theorem qP (R:RwsI n E T):Rws (grE n E hE hL) (ji T) where
 len:=by unfold ji; rw[ae]; exact R.len
 at_:=λx hx d hd=>by
  rw[iZ] at hd
  obtain⟨z,hz,rfl⟩:=bC.1 hd
  obtain⟨d,rfl,h1,h2⟩:=(kj (hE:=hE) (hL:=hL)).1 (R.at_ x hx z hz)
  rw[dj]
  exact⟨h1,h2⟩
 nd:=λx hx=>by
  rw[iZ,List.Nodup,dx]
  have hx:x<n:=hx
  have hT:T.getD x []∈T:=by
   have:x<T.length:=by have:=R.len; omega
   rw[fM this]; exact bj this
  have nd:(T.getD x []).Nodup:=by
   rw[List.nodup_iff_count]
   intro z
   by_cases hz:z∈T.getD x []
   ·obtain⟨d,rfl,h1,_⟩:=(kj (hE:=hE) (hL:=hL)).1 (R.at_ x hx z hz)
    rw[← R.one d h1]
    exact (List.sublist_flatten_of_mem hT).count_le _
   ·rw[List.count_eq_zero.2 hz]; omega
  refine List.Pairwise.imp_of_mem (fun {a b} ha hb hab=>?_) nd
  obtain⟨d,rfl,_⟩:=(kj (hE:=hE) (hL:=hL)).1 (R.at_ x hx a ha)
  obtain⟨d',rfl,_⟩:=(kj (hE:=hE) (hL:=hL)).1 (R.at_ x hx b hb)
  rw[dj,dj]
  exact λe=>hab (by rw[e])
 all:=λd hd=>by
  have hd:d<2*E.length:=hd
  have h1:=R.one d hd
  have hm:((d:Nat):Int)∈T.flatten:=List.count_pos_iff.1 om
  obtain⟨l,hl,hm⟩:=dJ.1 hm
  obtain⟨x,hx,rfl⟩:=cJ.1 hl
  have hx':x<n:=by have:=R.len; omega
  obtain⟨d',e,_,h2⟩:=(kj (hE:=hE) (hL:=hL)).1 (R.at_ x hx' _ (by rw[fM hx]; exact hm))
  obtain rfl:d=d':=om
  rw[iZ,h2,fM hx]
  exact bC.2 ⟨_,hm,by simp⟩
theorem Ao {T:List (List Nat)} (R:Rws (grE n E hE hL) T):RwsI n E (jf T) where
 len:=by unfold jf; rw[ae]; exact R.len
 at_:=λx hx z hz=>by
  rw[oD] at hz
  obtain⟨d,hd,rfl⟩:=bC.1 hz
  obtain⟨h1,h2⟩:=R.at_ x hx d hd
  exact (kj (hE:=hE) (hL:=hL)).2 ⟨d,rfl,h1,h2⟩
 one:=λi hi=>by
  have nd:(jf T).flatten.Nodup:=by
   have hlen:T.length=n:=R.len
   rw[List.Nodup,iG]
   constructor
   ·intro l hl
    obtain⟨l',hl',rfl⟩:=bC.1 hl
    obtain⟨x,hx,rfl⟩:=cJ.1 hl'
    have:=R.nd x (by rw[← R.len]; exact hx)
    rw[aA,ah hx] at this
    rw[dx]
    exact List.Pairwise.imp (λh e=>h om) this
   ·rw[fy]
    intro x y hx hy hxy a ha b hb e
    subst e
    have hx':x<T.length:=by unfold jf at hx; rwa [ae] at hx
    have hy':y<T.length:=by unfold jf at hy; rwa [ae] at hy
    have e1:(jf T)[x]=(jf T).getD x []:=by rw[aA,ah hx]; rfl
    have e2:(jf T)[y]=(jf T).getD y []:=by rw[aA,ah hy]; rfl
    rw[e1,oD] at ha
    rw[e2,oD] at hb
    obtain⟨d,hd,rfl⟩:=bC.1 ha
    obtain⟨d',hd',e⟩:=bC.1 hb
    obtain rfl:d'=d:=om
    have q1:=(R.at_ x (by rw[← R.len]; exact hx') _ hd).2
    have q2:=(R.at_ y (by rw[← R.len]; exact hy') _ hd').2
    omega
  rw[nd.count,if_pos]
  have:=R.all i hi
  have hx:en (grE n E hE hL) i<T.length:=by rw[R.len]; exact Go.Pla.en_lt hi
  refine dJ.2 ⟨(jf T).getD (en (grE n E hE hL) i) [],?_,?_⟩
  ·have hx':en (grE n E hE hL) i<(jf T).length:=by unfold jf; rwa [ae]
   rw[aA,ah hx']
   exact bj hx'
  ·rw[oD]
   exact bC.2 ⟨i,this,rfl⟩
end
end Go.Proofs.Ytpeemonpdlifbaa
