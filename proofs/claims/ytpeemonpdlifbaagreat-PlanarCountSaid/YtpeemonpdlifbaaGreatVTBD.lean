/- Who stands behind whom on a face; each edge has one face on -/
import Derived.Test.YtpeemonpdlifbaaGreatVTAX
import Derived.Test.YtpeemonpdlifbaaGreatVTBC
import Derived.Test.YtpeemonpdlifbaaGreatVTAL
import Derived.Test.YtpeemonpdlifbaaGreatVTAV
import Derived.Test.YtpeemonpdlifbaaGreatVTAK
set_option linter.all false
namespace Go.Pla
open Go.Blk
variable {g:Gr}{B:List Nat}{H:Nat→Bool}{nf:Nat}{fc:Nat→List Nat}
def Tri (c:List Nat) (y x z:Nat):Prop:=∃ t,Rot c (y::x::z::t)
theorem Tri.nx1 {c:List Nat}{y x z:Nat} (h:Tri c y x z):Nx c y x:=by
 obtain⟨t,h⟩:=h; exact⟨z::t,h⟩
theorem Tri.nx2 {c:List Nat}{y x z:Nat} (h:Tri c y x z):Nx c x z:=by
 obtain⟨t,h⟩:=h; exact⟨t++[y],h.trans ⟨[y],x::z::t,rfl,rfl⟩⟩
theorem tri_of_nx {c:List Nat}{y x:Nat} (h:Nx c y x) (h3:3≤c.length):∃ z,Tri c y x z:=by
 obtain⟨t,h⟩:=h
 cases t with
 | nil =>
   obtain⟨a,b,h1,h2⟩:=h
   have e1:=congrArg List.length h1
   have e2:=congrArg List.length h2
   simp at e1 e2
   omega
 | cons z t=>exact⟨z,t,h⟩
theorem AK {c:List Nat}{p:Nat} (hp:p<c.length) {j:Nat} (hj:j<c.length):(c.drop p++c.take p)[j]?=c[(p+j) % c.length]?:=by
 by_cases h:j<c.length-p
 ·rw[bC (by rw[dR]; exact h),ew,bR om]
 ·rw[aU (by rw[dR]; omega),dR,cQ,if_pos om]
  have:(p+j) % c.length=p+j-c.length:=by
   rw[Nat.mod_eq_sub_mod om,bR om]
  rw[this]
  congr 1
  omega
theorem KF {c d:List Nat} (h:Rot c d) (hc:0<c.length):∃ p,p<c.length∧d=c.drop p++c.take p:=by
 obtain⟨a,b,rfl,rfl⟩:=h
 cases b with
 | nil=>exact⟨0,hc,by simp⟩
 | cons x b=>exact⟨a.length,by simp,by rw[oz,wP]⟩
theorem EN {c:List Nat}{p:Nat}:Rot c (c.drop p++c.take p):=⟨c.take p,c.drop p,by rw[cD],rfl⟩
theorem xR {n k:Nat} (hk:k<n):((k+n-1) % n+1) % n=k:=by
 by_cases h:k=0
 ·subst h
  have h1:(0+n-1) % n=n-1:=by rw[show 0+n-1=n-1 by omega]; exact bR om
  rw[h1,show n-1+1=n by omega,sY]
 ·have h1:(k+n-1) % n=k-1:=by
   rw[show k+n-1=(k-1)+n by omega,DP,bR om]
  rw[h1,show k-1+1=k by omega,bR hk]
theorem Bf {n k:Nat} (hk:k<n):((k+n-1) % n+2) % n=(k+1) % n:=by
 have h:=xR hk
 rw[show (k+n-1) % n+2=((k+n-1) % n+1)+1 by omega,Nat.add_mod,h]
 simp
theorem tri_at {c:List Nat}{k:Nat} (hk:k<c.length) (h3:3≤c.length):Tri c (c.getD ((k+c.length-1) % c.length) 0) (c.getD k 0) (c.getD ((k+1) % c.length) 0):=by
 obtain⟨p,hp⟩:∃ p,p=(k+c.length-1) % c.length:=⟨_,rfl⟩
 have hpl:p<c.length:=by rw[hp]; exact fL _ om
 obtain⟨d,hd⟩:∃ d,d=c.drop p++c.take p:=⟨_,rfl⟩
 have hr:Rot c d:=hd▸EN
 have hdl:d.length=c.length:=by rw[hd]; simp; omega
 match d,hd,hr,hdl with
 | [],_,_,h=>exact absurd h (by simp; omega)
 | [_],_,_,h=>exact absurd h (by simp; omega)
 | [_,_],_,_,h=>exact absurd h (by simp; omega)
 | y::x::z::t,hd,hr,_ =>
   have g:∀ j,j<c.length→(y::x::z::t)[j]?=c[(p+j) % c.length]?:=λj hj=>by rw[hd]; exact AK hpl hj
   have g0:=g 0 om
   have g1:=g 1 om
   have g2:=g 2 om
   rw[dh,bR hpl] at g0
   rw[hp,xR hk] at g1
   rw[hp,Bf hk] at g2
   refine⟨t,?_⟩
   have e0:c.getD p 0=y:=by simp only[ai,← g0]; rfl
   have e1:c.getD k 0=x:=by simp only[ai,← g1]; rfl
   have e2:c.getD ((k+1) % c.length) 0=z:=by simp only[ai,← g2]; rfl
   rw[← hp,e0,e1,e2]; exact hr
theorem tri_ix {c:List Nat}{y x z:Nat} (h:Tri c y x z):∃ k,k<c.length∧y=c.getD ((k+c.length-1) % c.length) 0∧x=c.getD k 0∧z=c.getD ((k+1) % c.length) 0:=by
 obtain⟨t,h⟩:=h
 have hl:c.length=(y::x::z::t).length:=by
  obtain⟨a,b,rfl,h2⟩:=h
  rw[h2]; simp [sZ]
 have h3:3≤c.length:=by rw[hl]; simp
 obtain⟨p,hp,hd⟩:=KF h om
 have g:∀ j,j<c.length→(y::x::z::t)[j]?=c[(p+j) % c.length]?:=λj hj=>by rw[hd]; exact AK hp hj
 have g0:=g 0 om
 have g1:=g 1 om
 have g2:=g 2 om
 rw[dh,bR hp] at g0
 obtain⟨k,hk⟩:∃ k,k=(p+1) % c.length:=⟨_,rfl⟩
 have hkl:k<c.length:=by rw[hk]; exact fL _ om
 have hpk:(k+c.length-1) % c.length=p:=by
  by_cases h:p+1<c.length
  ·rw[bR h] at hk
   subst hk
   rw[show p+1+c.length-1=p+c.length by omega,DP,bR hp]
  ·have:p+1=c.length:=om
   rw[this,sY] at hk
   subst hk
   rw[bM,bR om]; omega
 have hk2:(p+2) % c.length=(k+1) % c.length:=by
  rw[← Bf hkl,hpk]
 refine⟨k,hkl,?_,?_,?_⟩
 ·rw[hpk,ai,← g0]; rfl
 ·rw[hk,ai,← g1]; rfl
 ·rw[← hk2,ai,← g2]; rfl
theorem zc {c d:List Nat} (h:Rot c d) (hc:c.Nodup):d.Nodup:=by
 obtain⟨a,b,rfl,rfl⟩:=h
 exact List.perm_append_comm.nodup_iff.1 hc
theorem xr {x:Nat}{s t:List Nat} (h:Rot (x::s) (x::t)) (nd:(x::s).Nodup):s=t:=by
 obtain⟨a,b,h1,h2⟩:=h
 cases a with
 | nil =>
   simp only[bj,dG] at h1 h2
   rw[← h1] at h2
   injection h2 with _ h2
   exact h2.symm
 | cons q a =>
   simp only[aE] at h1
   injection h1 with h3 h4
   subst h3
   cases b with
   | nil =>
     simp only[bj,dG] at h2 h4
     injection h2 with _ h2
     rw[h4,h2]
   | cons r b =>
     simp only[aE] at h2
     injection h2 with h5 _
     subst h5
     exfalso
     rw[h4] at nd
     exact (aW.1 nd).1 (by simp)
theorem KR {c:List Nat}{x z z':Nat} (nd:c.Nodup) (h1:Nx c x z) (h2:Nx c x z'):z=z':=by
 obtain⟨t,h1⟩:=h1
 obtain⟨t',h2⟩:=h2
 have:=xr (h1.symm.trans h2) (zc h1 nd)
 injection this
theorem Ec {c:List Nat}{y y' x z z':Nat} (nd:c.Nodup) (h1:Tri c y x z) (h2:Tri c y' x z'):y=y':=by
 obtain⟨t,h1⟩:=h1
 obtain⟨t',h2⟩:=h2
 have a1:Rot c (x::(z::t++[y])):=h1.trans ⟨[y],x::z::t,rfl,rfl⟩
 have a2:Rot c (x::(z'::t'++[y'])):=h2.trans ⟨[y'],x::z'::t',rfl,rfl⟩
 have:=xr (a1.symm.trans a2) (zc a1 nd)
 obtain⟨_,h⟩:=dH this rfl
 injection h
theorem nx_once {c:List Nat}{x z:Nat} (nd:c.Nodup) (h3:3≤c.length) (h1:Nx c x z) (h2:Nx c z x):False:=by
 obtain⟨w,hw⟩:=tri_of_nx h2 h3
 have e1:=KR nd h1 hw.nx2
 subst e1
 obtain⟨t,ht⟩:=hw
 have:=zc ht nd
 simp at this
theorem nx_face (p:Pln g B) (L:Lay g B H nf fc) (O:Ori g B H nf fc) {e x z f1 f2:Nat} (he:e∈B) (hH:H e=true) (hj:jn g e x z=true) (h1:f1<nf) (h2:f2<nf) (n1:Nx (fc f1) x z) (n2:Nx (fc f2) x z):f1=f2:=by
 have hj':jn g e z x=true:=by rw[jn_iff] at hj ⊢; rcases hj with h|h; exact .inr h; exact .inl h
 obtain⟨f3,h3,n3⟩:=O e he hH z x hj'
 have on:∀ {f u v},f<nf→jn g e u v=true→Nx (fc f) u v→cy g (fc f) e=true:=fun {f u v} hf hj hn=>by
  obtain⟨t,hr⟩:=hn
  rw[← hr.cy]
  exact cy_first p (hr.cc (L.circ f hf)) he hj
 obtain⟨a,b,_,_,_,hab⟩:=L.two e he hH
 have c1:=on h1 hj n1
 have c2:=on h2 hj n2
 have c3:=on h3 hj' n3
 rw[hab f1 h1] at c1
 rw[hab f2 h2] at c2
 rw[hab f3 h3] at c3
 simp only[bN,beq_iff_eq] at c1 c2 c3
 have len:∀ f,f<nf→3≤(fc f).length:=λf hf=>by
  have:=L.circ f hf
  cases hfc:fc f with
  | nil=>rw[hfc] at this; exact this.elim
  | cons q s=>rw[hfc] at this; exact this.2.2
 refine Classical.byContradiction λhne=>?_
 have:f3=f1∨f3=f2:=om
 rcases this with rfl|rfl
 ·exact nx_once (L.circ _ h1).nodup (len _ h1) n1 n3
 ·exact nx_once (L.circ _ h2).nodup (len _ h2) n2 n3
theorem tri_inj (p:Pln g B) (L:Lay g B H nf fc) (O:Ori g B H nf fc) {e x y1 y2 z f1 f2:Nat} (he:e∈B) (hH:H e=true) (hj:jn g e x z=true) (h1:f1<nf) (h2:f2<nf) (t1:Tri (fc f1) y1 x z) (t2:Tri (fc f2) y2 x z):y1=y2:=by
 have:=nx_face p L O he hH hj h1 h2 t1.nx2 t2.nx2
 subst this
 exact Ec (L.circ _ h1).nodup t1 t2
theorem cc_len {c:List Nat} (h:Cc g B c):3≤c.length:=by
 cases c with
 | nil=>exact h.elim
 | cons q s=>exact h.2.2
theorem nx_edge {c:List Nat}{x z:Nat} (hc:Cc g B c) (h:Nx c x z):∃ e∈B,jn g e x z=true:=by
 obtain⟨t,hr⟩:=h
 have:=hr.cc hc
 obtain⟨⟨e,he,hj⟩,_⟩:=this.1
 exact⟨e,he,hj⟩
end Go.Pla
namespace Go.Proofs.YtpeemonpdlifbaaGreat
open Go.Am
open Go.Pla (at_ jn On Rot Pln Bond Link Part Plc Hg Bld Dual Thr Tri Cc)
abbrev oa (h:AH) (mb:Nat) (l:List (Int×AV)):Prop:=MapG (λk:Int=>AV.int .i64 k) h mb l
def BN (g:Go.Blk.Gr) (E:List (Int×Int)) (Bl:List Nat) (F:List (List Nat)) (d v:Nat):Prop:=∃ f y x z i j,f<F.length∧Tri (Go.Pla.fcs F f) y x z∧i∈Bl∧j∈Bl∧jn g i x y=true∧jn g j x z=true∧d=hfE E i x∧v=hfE E j x
structure Trn (g:Go.Blk.Gr) (E:List (Int×Int)) (Bl:List Nat) (F:List (List Nat)) (l l':List (Int×AV)) (f k:Nat):Prop where
 old:∀ q,lkG l' q=lkG l q∨∃ d v:Nat,q=((d:Nat):Int)∧lkG l' q=some (.int .i64 (v:Nat))∧BN g E Bl F d v
 new:∀ f' k',f'<F.length→k'<(Go.Pla.fcs F f').length→(f'<f∨f'=f∧k'<k)→∀ i∈Bl,jn g i ((Go.Pla.fcs F f').getD k' 0) ((Go.Pla.fcs F f').getD ((k'+(Go.Pla.fcs F f').length-1) % (Go.Pla.fcs F f').length) 0)=true→∃ v:Nat,lkG l' ((hfE E i ((Go.Pla.fcs F f').getD k' 0):Nat):Int)=some (.int .i64 (v:Nat))∧BN g E Bl F (hfE E i ((Go.Pla.fcs F f').getD k' 0)) v
theorem Trn.step {g:Go.Blk.Gr}{E:List (Int×Int)}{Bl:List Nat}{F:List (List Nat)}{l l':List (Int×AV)}{f k:Nat} (t:Trn g E Bl F l l' f k) (p:Pln g Bl) {d v i:Nat} (hT:BN g E Bl F d v) (hi:i∈Bl) (hj:jn g i ((Go.Pla.fcs F f).getD k 0) ((Go.Pla.fcs F f).getD ((k+(Go.Pla.fcs F f).length-1) % (Go.Pla.fcs F f).length) 0)=true) (hd:d=hfE E i ((Go.Pla.fcs F f).getD k 0)):Trn g E Bl F l (upG l' ((d:Nat):Int) (.int .i64 (v:Nat))) f (k+1):=by
 refine⟨λq=>?_,λf' k' hf' hk' ho j hj' hjj=>?_⟩
 ·rw[jR]
  by_cases h:q=((d:Nat):Int)
  ·rw[if_pos h]; exact .inr ⟨d,v,h,rfl,hT⟩
  ·rw[if_neg h]; exact t.old q
 ·rw[jR]
  by_cases h:((hfE E j ((Go.Pla.fcs F f').getD k' 0):Nat):Int)=((d:Nat):Int)
  ·rw[if_pos h]
   have h:hfE E j ((Go.Pla.fcs F f').getD k' 0)=d:=om
   exact⟨v,rfl,by rw[h]; exact hT⟩
  ·rw[if_neg h]
   have ho':f'<f∨f'=f∧k'<k:=by
    rcases ho with ho|⟨rfl,ho⟩
    ·exact .inl ho
    ·rcases bU k' k with h1|h1
     ·exact .inr ⟨rfl,h1⟩
     ·exfalso
      have:k'=k:=om
      subst this
      have:=p.one i hi j hj' _ _ hj hjj
      subst this
      exact h (by rw[hd])
   exact t.new f' k' hf' hk' ho' j hj' hjj
theorem Trn.next {g:Go.Blk.Gr}{E:List (Int×Int)}{Bl:List Nat}{F:List (List Nat)}{l l':List (Int×AV)}{f:Nat} (t:Trn g E Bl F l l' f (Go.Pla.fcs F f).length):Trn g E Bl F l l' (f+1) 0:=by
 refine⟨t.old,λf' k' hf' hk' ho=>t.new f' k' hf' hk' ?_⟩
 rcases ho with ho|⟨_,ho⟩
 ·rcases bU f' f with h|h
  ·exact .inl h
  ·have:f'=f:=om
   subst this
   exact .inr ⟨rfl,hk'⟩
 ·omega
set_option maxHeartbeats 4000000 in
theorem zo {h:AH}{bb n lo mb:Nat}{ev edv:AV}{E:List (Int×Int)}{Bl:List Nat}{la pa:Nat}{H V:Nat→Bool}{fav:AV}{F:List (List Nat)}{l:List (Int×AV)} (u:Bu h bb n ev edv E Bl la pa H V fav) (hE:InG n E) (hL:∀ i,i<E.length→tlE E i≠hdE E i) (hn:n<2 ^ 29) (hm:E.length<2 ^ 29) (hB:∀ i∈Bl,i<E.length) (hBn:Bl.length<2 ^ 29) (hp:Pln (grE n E hE hL) Bl) (hF:LL h lo fav F) (hFl:F.length<2 ^ 29) (hcc:∀ f,f<F.length→Cc (grE n E hE hL) Bl (Go.Pla.fcs F f)) (hmp:oa h mb l) (hne:mb≠bb∧mb≠la∧mb≠pa∧mb<lo) (ome:Off (λc=>c=mb) ev) (omd:Off (λc=>c=mb) edv) :
 C prg 14 [.ptr bb 0,.mp mb] h λ_ h'=>∃ l',oa h' mb l'∧Kp (λc=>c=mb) h h'∧Trn (grE n E hE hL) E Bl F l l' F.length 0:=by
 have kE:KeyE .ki (λk:Int=>AV.int .i64 k):=wg
 refine LB pf14 ?_
 have r5:ar h bb 5 1=some [fav]:=bq u.o rfl
 have lf:=hF.len
 refine aj (aB (Mi2 r5 lf) ?_)
 refine fB (α:=List (Int×AV)) (N:=F.length) (λ_ _=>[(12,fav),(0,.ptr bb 0),(1,.mp mb)])
  (λf l' h'=>oa h' mb l'∧Kp (λc=>c=mb) h h'∧Trn (grE n E hE hL) E Bl F l l' f 0) l (λ_ _=>rfl) om (Hi0) ⟨hmp,Kp.refl,λq=>.inl rfl,λf' k' _ _ ho=>by omega⟩ ?_ ?_
 ·rintro f l1 ts h1 hf ⟨m1,k1,t1⟩ ⟨ei,en,e12,e0,e1,-⟩
  simp only at ei en e12 e0 e1
  have F1:=hF.cong λc h1 h2=>k1.gt c h2 om
  obtain⟨b2,o2,fv,a2,r2,i2,_⟩:=F1.at hf
  have hFf:Go.Pla.fcs F f=F[f]:=by simp [Go.Pla.fcs,List.getD,hf]
  have hcf:=hcc f hf
  rw[← hFf] at i2
  have hc3:=Go.Pla.cc_len hcf
  have hcn:(Go.Pla.fcs F f).length≤n:=Go.Pla.nd_lt hcf.nodup λz hz=>by
   obtain⟨e,he,ha,_⟩:=Go.Pla.cy_at hp hcf hz
   exact Go.Pla.at_lt (hp.lt e he) ha
  have hvn:∀ x∈Go.Pla.fcs F f,x<n:=λx hx=>by
   obtain⟨e,he,ha,_⟩:=Go.Pla.cy_at hp hcf hx
   exact Go.Pla.at_lt (hp.lt e he) ha
  have lc:=(eu i2).len
  rw[ak,ak] at lc
  refine aj (aB (M4 e12 ei a2 r2) ?_)
  refine aj (aB (M1 lc) ?_)
  refine aj (bT (λts h'=>h'=h1∧Held [(22,.int .i64 0),(21,.int .i64 ((Go.Pla.fcs F f).length:Nat)),(20,fv),(14,.int .i64 (f:Nat)),(13,.int .i64 (F.length:Nat)),(12,fav),(0,.ptr bb 0),(1,.mp mb),(5,fv),(6,.int .i64 ((Go.Pla.fcs F f).length:Nat))] ts) (by simp only[am,aF,simprocAttr,ei,en,e12,e0,e1,lc,cz,cK]) ?_)
  rintro ts h1' ⟨rfl,hh⟩
  obtain⟨c,hcd⟩:∃ c,c=Go.Pla.fcs F f:=⟨_,rfl⟩
  rw[← hcd] at i2 hcf hc3 hcn hvn lc hh
  refine fB (α:=List (Int×AV)) (N:=c.length) (λ_ _=>[(20,fv),(14,.int .i64 (f:Nat)),(13,.int .i64 (F.length:Nat)),(12,fav),(0,.ptr bb 0),(1,.mp mb),(5,fv),(6,.int .i64 (c.length:Nat))])
   (λk l' h'=>oa h' mb l'∧Kp (λc=>c=mb) h h'∧Kp (λc=>c=mb) h1' h'∧Trn (grE n E hE hL) E Bl F l l' f k) l1 (λ_ _=>rfl) om hh ⟨m1,k1,Kp.refl,t1⟩ ?_ ?_
  ·clear hh
   rintro k l2 ts h2 hk ⟨m2,k2,k12,t2⟩ ⟨e22,e21,e20,ei,en,e12,e0,e1,e5,e6,-⟩
   simp only at e22 e21 e20 ei en e12 e0 e1 e5 e6
   have n1:=k1.nx
   have n2:=k2.nx
   have ltm:=m1.lt
   have iS:∀ {h':AH},Kp (λc=>c=mb) h1' h'→IsSl h' 1 lo fv (nC c):=fun {h'} q=>i2.cong λb m _ hb=>q.gt b (i2.lt ‹_›) om
   have iF:=iS k12
   obtain⟨b3,o3,a3,r3,_⟩:=(eu iF).at1 (i:=k) (y:=.int .i64 (c[k]:Nat)) (by rw[aG,aG,ah hk]; rfl)
   have hxm:=aR hk
   have hxg:c.getD k 0=c[k]:=by simp [List.getD,hk]
   obtain⟨kp,hkp⟩:∃ kp,kp=(k+c.length-1) % c.length:=⟨_,rfl⟩
   obtain⟨kn,hkn⟩:∃ kn,kn=(k+1) % c.length:=⟨_,rfl⟩
   have hkpl:kp<c.length:=by rw[hkp]; exact fL _ om
   have hknl:kn<c.length:=by rw[hkn]; exact fL _ om
   have hpg:c.getD kp 0=c[kp]:=by simp [List.getD,hkpl]
   have hng:c.getD kn 0=c[kn]:=by simp [List.getD,hknl]
   have tri:=Go.Pla.tri_at hk hc3
   rw[← hkp,← hkn,hxg,hpg,hng] at tri
   obtain⟨i,hi,hji⟩:=Go.Pla.nx_edge hcf tri.nx1
   obtain⟨j,hj,hjj⟩:=Go.Pla.nx_edge hcf tri.nx2
   have hji':jn (grE n E hE hL) i c[k] c[kp]=true:=by rw[Go.Pla.jn_iff] at hji ⊢; rcases hji with h|h; exact .inr h; exact .inl h
   have hxn:=hvn _ hxm
   have hpn:=hvn _ (aR hkpl)
   have hnn:=hvn _ (aR hknl)
   obtain⟨b4,o4,a4,r4,_⟩:=(eu iF).at1 (i:=kp) (y:=.int .i64 (c[kp]:Nat)) (by rw[aG,aG,ah hkpl]; rfl)
   obtain⟨b6,o6,a6,r6,lb6⟩:=(eu iF).at1 (i:=kn) (y:=.int .i64 (c[kn]:Nat)) (by rw[aG,aG,ah hknl]; rfl)
   have wa:IntKind.i64.wrap (((k:Nat):Int)+((c.length:Nat):Int))=((k+c.length:Nat):Int):=by rw[fz om om]; omega
   have wb:IntKind.i64.wrap (((k+c.length:Nat):Int)-1)=((k+c.length-1:Nat):Int):=by rw[fz om om]; omega
   have wc:((k+c.length-1:Nat):Int).tmod ((c.length:Nat):Int)=((kp:Nat):Int):=by rw[hkp]; rfl
   have we:IntKind.i64.wrap (((k:Nat):Int)+1)=((k+1:Nat):Int):=fz om om
   have wf:((k+1:Nat):Int).tmod ((c.length:Nat):Int)=((kn:Nat):Int):=by rw[hkn]; rfl
   have hne0:((c.length:Nat):Int)≠0:=om
   have u2:=u.kp k2 om om om ome omd
   refine aj (aB (M4 e20 e22 a3 r3) ?_)
   have hf1:=tY u2 hE hL om om hB om hp hxn hpn hi hji'
   refine bO (lh 21 (by simp only[am,aF,simprocAttr,e0,e1,e5,e6,wa,wb,wc,if_neg hne0,we,wf,a4,r4,a6,r6]<;>rfl) rfl (by simp only[am,aF,simprocAttr,e0,e1,e5,e6,wa,wb,wc,if_neg hne0,we,wf,a4,r4,a6,r6]) (by simp only[am,aF,simprocAttr,e0,e1,e5,e6,wa,wb,wc,if_neg hne0,we,wf,a4,r4,a6,r6]<;>rfl) (hf1) λv3 h3 hq=>?_)
   obtain⟨rfl,x3⟩:=hq
   have r63:ar h3 b6 o6 1=some [.int .i64 (c[kn]:Nat)]:=by rw[cM (x3.gt b6 lb6)]; exact r6
   refine⟨Z1 r63,?_⟩
   have u3:=u2.ext x3 (ae _)
   have hf2:=tY u3 hE hL om om hB om hp hxn hnn hj hjj
   refine nh (Z4 e0 e1 e5 e6) (M4 e0 e1 e5 e6) (hf2) λv4 h4 hq=>?_
   obtain⟨rfl,x4⟩:=hq
   have n3:=x3.nx
   have x24:Ext h2.next h2 h4:=x3.trans (x4.mono n3)
   have ltm2:=m2.lt
   have m4:oa h4 mb l2:=m2.cong (x24.gt _ ltm2)
   obtain⟨h5,w5,m5,o5,u5⟩:=m4.up kE ((hfE E i c[k]:Nat):Int) (.int .i64 (hfE E j c[k]:Nat))
   refine bI (M1 w5) ?_
   have k25:Kp (λc=>c=mb) h2 h5:=(x24.kp (S:=λc=>c=mb) (ae _)).trans (u5.kp (S:=λc=>c=mb) rfl) (λ_ _ q=>q)
   refine⟨_,⟨m5,k2.trans k25 (λ_ _ q=>q),k12.trans k25 (λ_ _ q=>q),?_⟩,by simp only[hl,am,aF,simprocAttr,e22,e21,e20,ei,en,e12,e0,e1,e5,e6]⟩
   refine t2.step hp (i:=i) ⟨f,c[kp],c[k],c[kn],i,j,hf,by rw[← hcd]; exact tri,hi,hj,hji',hjj,rfl,rfl⟩ hi ?_ ?_
   ·rw[← hcd,hxg,← hkp,hpg]; exact hji'
   ·rw[← hcd,hxg]
  ·rintro l2 ts h2 ⟨m2,k2,k12,t2⟩ ⟨e20,ei,en,e12,e0,e1,e5,e6,-⟩
   simp only at ei en e12 e0 e1
   rw[hcd] at t2
   exact⟨l2,⟨m2,k2,t2.next⟩,by simp only[hl,am,aF,simprocAttr,ei,en,e12,e0,e1]⟩
 ·rintro l1 ts h1 ⟨m1,k1,t1⟩ _
  exact⟨.tup [],rfl,l1,m1,k1,t1⟩
open Go.Am
open Go.Pla (it orb Back orb_succ orb_len)
set_option maxHeartbeats 2000000 in
theorem zu {h:AH}{lo mb N r d:Nat}{lv:AV}{xs:List Nat}{l:List (Int×AV)}{nx:Nat→Nat} (hl:IsSl h 1 lo lv (nC xs)) (hlo:lo≤h.next) (hm:oa h mb l) (hc:∀ d,d<N→nx d<N) (hk:∀ d,d<N→lkG l ((d:Nat):Int)=some (.int .i64 (nx d:Nat))) (hd:d<N) (hb:Back nx d r) (hx:xs.length+r<2 ^ 34) :
 C prg 16 [lv,.int .i64 (d:Nat),.mp mb] h λv h'=>IsSl h' 1 lo v (nC (xs++orb nx d r))∧Ext lo h h'∧h.next≤h'.next∧(∀ c,c<h.next→(∀ b n,lv=.sl b 0 n n→c≠b)→h'.get c=h.get c)∧∀ b n,v=.sl b 0 n n→h.next≤b:=by
 have kE:KeyE .ki (λk:Int=>AV.int .i64 k):=wg
 have hmb:∀ b n,lv=.sl b 0 n n→mb≠b:=λb n e=>by
  rintro rfl
  obtain⟨es,c,g,_⟩:=hm
  rcases hl with ⟨h1,_⟩|⟨b',m,_,h1,h2,_⟩
  ·rw[h1] at e; cases e
  ·rw[h1] at e
   cases e
   rw[g] at h2; cases h2
 refine LB pf16 ?_
 refine aj (aB (Mi0) ?_)
 refine aj (aB (Mi0) ?_)
 refine cL (fW (λm ts h'=>∃ k v,m=r-k∧k<r∧aY ts 0=v∧aY ts 1=.int .i64 (d:Nat)∧aY ts 2=.mp mb∧aY ts 7=.int .i64 (it nx k d:Nat)∧IsSl h' 1 lo v (nC (xs++orb nx d k))∧Ext lo h h'∧h.next≤h'.next∧(∀ c,c<h.next→(∀ b n,lv=.sl b 0 n n→c≠b)→h'.get c=h.get c)∧∀ b n,v=.sl b 0 n n→(v=lv∨h.next≤b)) ?_ (n:=r) ⟨0,lv,rfl,hb.1,Zi0,Zi0,Zi0,by simp only[am,aF,simprocAttr,bH]; rfl,by simpa [orb] using hl,Lz,ae _,λ_ _ _=>rfl,λ_ _ _=>.inl rfl⟩)
 rintro m ts h1 ⟨k,v,rfl,hkr,e0,e1,e2,e7,i1,x1,n1,fr,nw⟩
 refine cL ?_
 obtain⟨v',h2,a2,i2,x2,n2,fr2,nw2⟩:=IsSl.grow i1 om (by rw[aI,orb_len]; omega) (it nx k d)
 refine aj (bT (λts h'=>h'=h2∧aY ts 0=v'∧aY ts 1=.int .i64 (d:Nat)∧aY ts 2=.mp mb∧aY ts 7=.int .i64 (it nx k d:Nat)) (by simp only[am,aF,simprocAttr,e0,e1,e2,e7,a2]) ?_)
 rintro ts h2' ⟨rfl,e0,e1,e2,e7⟩
 have hkN:=Go.Pla.it_lt hc hd k
 have frT:∀ c,c<h.next→(∀ b n,lv=.sl b 0 n n→c≠b)→h2'.get c=h.get c:=λc hcl hno=>by
  rw[fr2 c om λb n e=>?_,fr c hcl hno]
  rcases nw b n e with q|q
  ·exact hno b n (q▸e)
  ·omega
 have m2:oa h2' mb l:=hm.cong (frT mb hm.lt hmb)
 have lk:=m2.look kE (.int .i64 0) ((it nx k d:Nat):Int)
 rw[hk _ hkN,fC] at lk
 refine aj (bT (λts h'=>h'=h2'∧aY ts 0=v'∧aY ts 1=.int .i64 (d:Nat)∧aY ts 2=.mp mb∧aY ts 7=.int .i64 (it nx (k+1) d:Nat)) (by simp only[am,aF,simprocAttr,e0,e1,e2,e7,lk]; rfl) ?_)
 rintro ts h3 ⟨rfl,e0,e1,e2,e7⟩
 rw[bP,← orb_succ] at i2
 by_cases q:it nx (k+1) d=d
 ·have dq:decide (((it nx (k+1) d:Nat):Int)=((d:Nat):Int))=true:=by rw[decide_eq_true_iff,q]
  refine aj (aB (M3 e1 e7 dq) ?_)
  refine cX (Z1 dq) ?_
  refine aj (aB (M1 e0) ?_)
  have:k+1=r:=by
   rcases bU (k+1) r with h1|h1
   ·exact absurd q (hb.2.2 _ om h1)
   ·omega
  subst this
  exact bG ⟨v',(by simp only[rs,rf16,am,aF,simprocAttr,e0]<;>rfl),i2,x1.trans x2,om,frT,λb n e=>by have:=nw2 b n e; omega⟩
 ·have dq:decide (((it nx (k+1) d:Nat):Int)=((d:Nat):Int))=false:=by rw[aV]; omega
  refine aj (bT (λts h'=>h'=h3∧aY ts 0=v'∧aY ts 1=.int .i64 (d:Nat)∧aY ts 2=.mp mb∧aY ts 7=.int .i64 (it nx (k+1) d:Nat)∧aY ts 18=.bool false) (by simp only[am,aF,simprocAttr,e0,e1,e2,e7,dq]) ?_)
  rintro ts h4 ⟨rfl,e0,e1,e2,e7,e18⟩
  refine dL (Z1 e18) (bK ?_)
  have hlt:k+1<r:=by
   rcases bU (k+1) r with h1|h1
   ·exact h1
   ·exfalso
    have:k+1=r:=om
    rw[this] at q
    exact q hb.2.1
  exact⟨r-(k+1),om,k+1,v',rfl,hlt,e0,e1,e2,e7,i2,x1.trans x2,om,frT,λb n e=>.inr (by have:=nw2 b n e; omega)⟩
open Go.Am
open Go.Blk (Gr Lst canon IsBlock Cls Rel)
theorem oV {g:Gr}{l:Nat→Nat} (hl:Lst g l) {b:List Nat} (hb:b∈canon g.m l):IsBlock g b:=by
 unfold canon at hb
 obtain⟨i,hi,rfl⟩:=bu.1 hb
 rw[aS,ao,beq_iff_eq] at hi
 refine⟨λe=>?_,λj hj k hk=>?_,λj hj k r=>?_⟩
 ·have:i∈(List.range g.m).filter λk=>l k==i:=by rw[aS,ao,beq_iff_eq]; exact hi
  rw[e] at this
  cases this
 ·rw[aS,ao,beq_iff_eq] at hj hk
  exact (hl.iff hj.1 hk.1).1 (hj.2.trans hk.2.symm)
 ·rw[aS,ao,beq_iff_eq] at hj ⊢
  have hk:k<g.m:=by obtain⟨x,_,q,_⟩:=r; exact q.1
  exact⟨hk,(hl.same j k hj.1 hk r).symm.trans hj.2⟩
theorem sJ {m:Nat}{l:Nat→Nat}{b:List Nat} (hb:b∈canon m l):b≠[]∧(∀ i∈b,i<m)∧b.length≤m∧b.Nodup:=by
 unfold canon at hb
 obtain⟨i,hi,rfl⟩:=bu.1 hb
 rw[aS,ao] at hi
 refine⟨λe=>?_,λk hk=>?_,?_,List.nodup_range.filter _⟩
 ·have:i∈(List.range m).filter λk=>l k==i:=by rw[aS,ao]; exact hi
  rw[e] at this
  cases this
 ·rw[aS,ao] at hk
  exact hk.1
 ·have:=ep (λk=>l k==i) (List.range m)
  rwa [bF] at this
theorem Lg {m:Nat}{l:Nat→Nat}:(canon m l).length≤m:=by
 unfold canon
 rw[ak]
 have:=ep (λi=>l i==i) (List.range m)
 rwa [bF] at this
theorem Li {m:Nat}{l:Nat→Nat} (h2:∀ i,i<m→l i<m) (h3:∀ i,i<m→l (l i)=l i) {i:Nat} (hi:i<m):∃ b∈canon m l,i∈b:=by
 refine⟨(List.range m).filter λk=>l k==l i,?_,?_⟩
 ·unfold canon
  exact bu.2 ⟨l i,by rw[aS,ao,beq_iff_eq]; exact⟨h2 i hi,h3 i hi⟩,rfl⟩
 ·rw[aS,ao,beq_iff_eq]; exact⟨hi,rfl⟩
theorem Lh {m:Nat}{l:Nat→Nat}{b c:List Nat} (hb:b∈canon m l) (hc:c∈canon m l) {i:Nat} (h1:i∈b) (h2:i∈c):b=c:=by
 unfold canon at hb hc
 obtain⟨p,_,rfl⟩:=bu.1 hb
 obtain⟨q,_,rfl⟩:=bu.1 hc
 rw[aS,ao,beq_iff_eq] at h1 h2
 rw[← h1.2,← h2.2]
theorem Bx {m:Nat}{l:Nat→Nat}:(canon m l).flatten.Nodup:=by
 unfold canon
 rw[List.Nodup,iJ]
 refine⟨λb hb=>?_,?_⟩
 ·obtain⟨i,_,rfl⟩:=bu.1 hb
  exact List.nodup_range.filter _
 ·rw[di]
  refine List.Pairwise.imp ?_ (List.nodup_range.filter _)
  intro p q hpq x hx y hy e
  subst e
  rw[aS,beq_iff_eq] at hx hy
  exact hpq (hx.2.symm.trans hy.2)
theorem Bg {g:Gr}{l:Nat→Nat} (hl:Lst g l):(∀ i,i<g.m→l i<g.m)∧∀ i,i<g.m→l (l i)=l i :=
 ⟨λi hi=>Nat.lt_of_le_of_lt (hl.le i hi) hi,λi hi=>(hl.eqc hi (hl.cls i hi)).symm⟩
open Go.Am
open Go.Pla (at_ jn On Rot Pln Bond Link Part Plc Hg Bld Dual Thr Tri Cc)
open Go.Blk (Lst canon)
def BlkT (g:Go.Blk.Gr) (E:List (Int×Int)) (b:List Nat) (l:List (Int×AV)):Prop :=
 (∃ e,b=[e]∧lkG l ((2*e:Nat):Int)=some (.int .i64 (2*e:Nat))∧lkG l ((2*e+1:Nat):Int)=some (.int .i64 (2*e+1:Nat))) ∨
 ∃ H V F,Bld g b H V F∧(∀ e∈b,H e=true)∧∀ f,f<F.length→∀ y x z,Tri (Go.Pla.fcs F f) y x z→∀ i∈b,jn g i x y=true→∃ v:Nat,lkG l ((hfE E i x:Nat):Int)=some (.int .i64 (v:Nat))∧BN g E b F (hfE E i x) v
theorem jd {E:List (Int×Int)}{i x:Nat}:hfE E i x / 2=i:=by
 unfold hfE; split<;>omega
def jw (E:List (Int×Int)) (d:Nat):Nat:=if d % 2=0 then tlE E (d / 2) else hdE E (d / 2)
section
variable {n:Nat}{E:List (Int×Int)}{hE:InG n E}{hL:∀ i,i<E.length→tlE E i≠hdE E i}
theorem mV (hL:∀ i,i<E.length→tlE E i≠hdE E i) {d:Nat} (hd:d / 2<E.length):hfE E (d / 2) (jw E d)=d:=by
 unfold hfE jw
 have:=hL _ hd
 by_cases h:d % 2=0
 ·rw[if_pos h,if_pos rfl]; omega
 ·rw[if_neg h,if_neg this]; omega
theorem gq {i x:Nat} (hi:i<E.length) (h:at_ (grE n E hE hL) i x=true):jw E (hfE E i x)=x:=by
 rw[iI hi] at h
 simp only[kB,bN,aA] at h
 unfold jw hfE
 by_cases q:tlE E i=x
 ·rw[if_pos q,if_pos om,show 2*i / 2=i by omega,q]
 ·rw[if_neg q,if_neg om,show (2*i+1) / 2=i by omega]
  rcases h with h|h
  ·exact absurd h q
  ·exact h
theorem oW {d:Nat} (hd:d / 2<E.length):at_ (grE n E hE hL) (d / 2) (jw E d)=true:=by
 rw[iI hd]
 unfold jw
 split<;>simp [kB]
theorem nQ {i x y:Nat} (hi:i<E.length) (h:jn (grE n E hE hL) i x y=true):at_ (grE n E hE hL) i x=true:=by
 rw[iI hi]
 rw[Go.Pla.jn_iff] at h
 have h:(tlE E i=x∧hdE E i=y)∨(tlE E i=y∧hdE E i=x):=h
 simp only[kB,bN,aA]
 omega
theorem yc {i x:Nat} (hi:i<E.length) (h:at_ (grE n E hE hL) i x=true):∃ y,jn (grE n E hE hL) i x y=true:=by
 rw[iI hi] at h
 simp only[kB,bN,aA] at h
 rcases h with h|h
 ·exact⟨hdE E i,by rw[Go.Pla.jn_iff]; exact .inl ⟨h,rfl⟩⟩
 ·exact⟨tlE E i,by rw[Go.Pla.jn_iff]; exact .inr ⟨rfl,h⟩⟩
theorem wh {i x y z:Nat} (hi:i<E.length) (h:jn (grE n E hE hL) i x y=true) (h2:jn (grE n E hE hL) i x z=true):y=z:=by
 rw[Go.Pla.jn_iff] at h h2
 have h:(tlE E i=x∧hdE E i=y)∨(tlE E i=y∧hdE E i=x):=h
 have h2:(tlE E i=x∧hdE E i=z)∨(tlE E i=z∧hdE E i=x):=h2
 have:=hL i hi
 omega
theorem sQ {b:List Nat}{l:List (Int×AV)} (t:BlkT (grE n E hE hL) E b l) (p:Pln (grE n E hE hL) b) {i x:Nat} (hi:i∈b) (hx:at_ (grE n E hE hL) i x=true):∃ v j:Nat,lkG l ((hfE E i x:Nat):Int)=some (.int .i64 (v:Nat))∧j∈b∧v=hfE E j x∧at_ (grE n E hE hL) j x=true:=by
 have hiE:i<E.length:=p.lt i hi
 rcases t with ⟨e,rfl,h1,h2⟩|⟨H,V,F,I,hall,ht⟩
 ·have:i=e:=by simpa using hi
  subst this
  refine⟨hfE E i x,i,?_,by simp,rfl,hx⟩
  unfold hfE
  split
  ·exact h1
  ·exact h2
 ·obtain⟨y,hj⟩:=yc hiE hx
  obtain⟨f,hf,hn⟩:=I.ori i hi (hall i hi) y x (by rw[Go.Pla.jn_symm]; exact hj)
  obtain⟨z,htri⟩:=Go.Pla.tri_of_nx hn (Go.Pla.cc_len (I.lay.circ f hf))
  obtain⟨v,h1,f',y',x',z',i',j,hf',tri',hi',hj',hji,hjj,hd,hv⟩:=ht f hf y x z htri i hi hj
  have hii:i=i':=by
   have:=congrArg (· / 2) hd
   simp only[jd] at this
   exact this
  subst hii
  have hxx:x=x':=by
   rw[← gq hiE hx,hd,gq hiE (nQ hiE hji)]
  subst hxx
  exact⟨v,j,h1,hj',hv,nQ (p.lt j hj') hjj⟩
theorem GP {b:List Nat}{l:List (Int×AV)} (t:BlkT (grE n E hE hL) E b l) (p:Pln (grE n E hE hL) b) {i x i' x':Nat} (hi:i∈b) (hx:at_ (grE n E hE hL) i x=true) (hi':i'∈b) (hx':at_ (grE n E hE hL) i' x'=true) (he:lkG l ((hfE E i x:Nat):Int)=lkG l ((hfE E i' x':Nat):Int)):i=i'∧x=x':=by
 have hiE:i<E.length:=p.lt i hi
 have hiE':i'<E.length:=p.lt i' hi'
 rcases t with ⟨e,rfl,h1,h2⟩|⟨H,V,F,I,hall,ht⟩
 ·have:i=e:=by simpa using hi
  subst this
  have:i'=i:=by simpa using hi'
  subst this
  refine⟨rfl,?_⟩
  have key:hfE E i' x=hfE E i' x':=by
   have hv:∀ {w},lkG l ((hfE E i' w:Nat):Int)=some (.int .i64 ((hfE E i' w:Nat):Int)):=fun {w}=>by
    unfold hfE
    split
    ·exact h1
    ·exact h2
   rw[hv,hv] at he
   simp only[aa,AV.int.injEq,true_and] at he
   omega
  rw[← gq hiE hx,key,gq hiE hx']
 ·have get:∀ {i x:Nat},i∈b→at_ (grE n E hE hL) i x=true→∃ (v f y z j:Nat),lkG l ((hfE E i x:Nat):Int)=some (.int .i64 (v:Nat))∧f<F.length∧Tri (Go.Pla.fcs F f) y x z∧j∈b∧jn (grE n E hE hL) i x y=true∧jn (grE n E hE hL) j x z=true∧v=hfE E j x:=fun {i x} hi hx=>by
   have hiE:i<E.length:=p.lt i hi
   obtain⟨y,hj⟩:=yc hiE hx
   obtain⟨f,hf,hn⟩:=I.ori i hi (hall i hi) y x (by rw[Go.Pla.jn_symm]; exact hj)
   obtain⟨z,htri⟩:=Go.Pla.tri_of_nx hn (Go.Pla.cc_len (I.lay.circ f hf))
   obtain⟨v,h1,f',y',x',z',i',j,hf',tri',hi',hj',hji,hjj,hd,hv⟩:=ht f hf y x z htri i hi hj
   have hii:i=i':=by
    have:=congrArg (· / 2) hd
    simp only[jd] at this
    exact this
   subst hii
   have hxx:x=x':=by
    rw[← gq hiE hx,hd,gq hiE (nQ hiE hji)]
   subst hxx
   exact⟨v,f',y',z',j,h1,hf',tri',hj',hji,hjj,hv⟩
  obtain⟨v,f,y,z,j,a1,a2,a3,a4,a5,a6,a7⟩:=get hi hx
  obtain⟨v',f',y',z',j',b1,b2,b3,b4,b5,b6,b7⟩:=get hi' hx'
  rw[a1,b1] at he
  simp only[aa,AV.int.injEq,true_and] at he
  have hvv:v=v':=om
  rw[a7,b7] at hvv
  have hjj:j=j':=by
   have:=congrArg (· / 2) hvv
   simp only[jd] at this
   exact this
  subst hjj
  have hjE:j<E.length:=p.lt j a4
  have hxx:x=x':=by
   rw[← gq hjE (nQ hjE a6),hvv,gq hjE (nQ hjE b6)]
  subst hxx
  have hzz:=wh hjE a6 b6
  subst hzz
  have hyy:=Go.Pla.tri_inj p I.lay I.ori a4 (hall j a4) a6 a2 b2 a3 b3
  subst hyy
  exact⟨p.one i hi i' hi' _ _ a5 b5,rfl⟩
theorem BlkT.keep {g:Go.Blk.Gr}{b:List Nat}{l l':List (Int×AV)} (t:BlkT g E b l) (h:∀ d:Nat,d / 2∈b→lkG l' ((d:Nat):Int)=lkG l ((d:Nat):Int)):BlkT g E b l':=by
 rcases t with ⟨e,rfl,h1,h2⟩|⟨H,V,F,I,hall,ht⟩
 ·exact .inl ⟨e,rfl,by rw[h _ (by simp)]; exact h1,by rw[h _ (by rw[show (2*e+1) / 2=e by omega]; simp)]; exact h2⟩
 ·refine .inr ⟨H,V,F,I,hall,λf hf y x z tri i hi hj=>?_⟩
  rw[h _ (by rw[jd]; exact hi)]
  exact ht f hf y x z tri i hi hj
theorem Ea {g:Go.Blk.Gr}{b:List Nat}{F:List (List Nat)}{l l':List (Int×AV)}{k:Nat} (t:Trn g E b F l l' k 0) {d:Nat} (hd:d / 2∉b):lkG l' ((d:Nat):Int)=lkG l ((d:Nat):Int):=by
 rcases t.old ((d:Nat):Int) with h|⟨d',v,h1,_,f,y,x,z,i,j,_,_,hi,_,_,_,h2,_⟩
 ·exact h
 ·have:d=d':=om
  subst this
  rw[h2,jd] at hd
  exact absurd hi hd
theorem Hw {g:Go.Blk.Gr}{b:List Nat}{H V:Nat→Bool}{F:List (List Nat)}{l l':List (Int×AV)} (t:Trn g E b F l l' F.length 0) (I:Bld g b H V F) (hall:∀ e∈b,H e=true):BlkT g E b l':=by
 refine .inr ⟨H,V,F,I,hall,λf hf y x z tri i hi hj=>?_⟩
 obtain⟨k,hk,h1,h2,h3⟩:=Go.Pla.tri_ix tri
 rw[h1,h2] at hj
 have:=t.new f k hf hk (.inl hf) i hi hj
 rw[← h2] at this
 exact this
theorem Fp {bs:List (List Nat)}{l:List (Int×AV)} (ht:∀ b∈bs,BlkT (grE n E hE hL) E b l) (hp:∀ b∈bs,Pln (grE n E hE hL) b) (cov:∀ i,i<E.length→∃ b∈bs,i∈b) (dis:∀ b∈bs,∀ c∈bs,∀ i,i∈b→i∈c→b=c) :
 ∃ nx:Nat→Nat,(∀ d,d<2*E.length→nx d<2*E.length)∧(∀ d,d<2*E.length→lkG l ((d:Nat):Int)=some (.int .i64 (nx d:Nat)))∧(∀ a b,a<2*E.length→b<2*E.length→nx a=nx b→a=b)∧∀ d,d<2*E.length→jw E (nx d)=jw E d:=by
 have get:∀ d,d<2*E.length→∃ v:Nat,lkG l ((d:Nat):Int)=some (.int .i64 (v:Nat))∧v<2*E.length∧jw E v=jw E d∧∃ b∈bs,d / 2∈b∧v / 2∈b:=λd hd=>by
  have hd2:d / 2<E.length:=om
  obtain⟨b,hb,hib⟩:=cov _ hd2
  obtain⟨v,j,h1,h2,h3,h4⟩:=sQ (ht b hb) (hp b hb) hib (oW hd2)
  rw[mV hL hd2] at h1
  have hjE:j<E.length:=(hp b hb).lt j h2
  refine⟨v,h1,?_,by rw[h3,gq hjE h4],b,hb,hib,by rw[h3,jd]; exact h2⟩
  rw[h3]
  unfold hfE
  split<;>omega
 refine⟨λd=>if h:d<2*E.length then Classical.choose (get d h) else 0,λd hd=>?_,λd hd=>?_,λa b ha hb he=>?_,λd hd=>?_⟩
 ·simp only[dif_pos hd]; exact (Classical.choose_spec (get d hd)).2.1
 ·simp only[dif_pos hd]; exact (Classical.choose_spec (get d hd)).1
 ·simp only[dif_pos ha,dif_pos hb] at he
  obtain⟨a1,a2,a3,c,hc,a4,a5⟩:=Classical.choose_spec (get a ha)
  obtain⟨b1,b2,b3,c',hc',b4,b5⟩:=Classical.choose_spec (get b hb)
  rw[he] at a5
  have:=dis c hc c' hc' _ a5 b5
  subst this
  rw[he,← b1] at a1
  have ha2:a / 2<E.length:=om
  have hb2:b / 2<E.length:=om
  have e1:=mV (E:=E) hL ha2
  have e2:=mV (E:=E) hL hb2
  have:=GP (ht c hc) (hp c hc) a4 (oW ha2) b4 (oW hb2) (by rw[e1,e2]; exact a1)
  rw[← e1,← e2,this.1,this.2]
 ·simp only[dif_pos hd]; exact (Classical.choose_spec (get d hd)).2.2.1
end
end Go.Proofs.YtpeemonpdlifbaaGreat
namespace Go.Spl
def addG {α:Type} [DecidableEq α] (ks:List α) (k:α):List α:=if k∈ks then ks else ks++[k]
section
variable {α:Type} [DecidableEq α]
theorem GZ {ks:List α}{k x:α}:x∈addG ks k↔x∈ks∨x=k:=by
 unfold addG
 split
 ·rename_i h
  constructor
  ·exact .inl
  ·rintro (h'|rfl)
   ·exact h'
   ·exact h
 ·simp
theorem Ao {ks:List α}{k:α} (h:ks.Nodup):(addG ks k).Nodup:=by
 unfold addG
 split
 ·exact h
 ·rename_i hk
  rw[aN]
  refine⟨h,by simp,λa ha b hb=>?_⟩
  rw[cq] at hb
  subst hb
  rintro rfl
  exact hk ha
theorem addAllG_mem:∀ {l ks:List α}{x:α},x∈l.foldl addG ks↔x∈ks∨x∈l
 | [],ks,x=>by simp
 | a::r,ks,x=>by rw[dP,addAllG_mem,GZ,au,or_assoc]
theorem addAllG_nodup:∀ {l ks:List α},ks.Nodup→(l.foldl addG ks).Nodup
 | [],_,h=>h
 | _::r,_,h=>addAllG_nodup (l:=r) (Ao h)
theorem addAllG_len:∀ (l ks:List α),(l.foldl addG ks).length≤ks.length+l.length∧((l.foldl addG ks).length=ks.length+l.length↔l.Nodup∧∀ x∈l,x∉ks)
 | [],ks=>by simp
 | a::r,ks=>by
   obtain⟨h1,h2⟩:=addAllG_len r (addG ks a)
   rw[dP,aw]
   by_cases q:a∈ks
   ·have e:addG ks a=ks:=if_pos q
    rw[e] at h1 h2
    rw[e]
    refine⟨om,⟨λh=>by omega,λh=>absurd q (h.2 a (bB ..))⟩⟩
   ·have e:addG ks a=ks++[a]:=if_neg q
    rw[e] at h1 h2
    rw[e]
    rw[aI,aw,aP] at h1 h2
    refine⟨om,?_⟩
    have:((r.foldl addG (ks++[a])).length=ks.length+(r.length+1))↔((r.foldl addG (ks++[a])).length=ks.length+(0+1)+r.length):=om
    rw[this,h2,aW]
    constructor
    ·rintro⟨n1,n2⟩
     refine⟨⟨λh=>n2 a h (by simp),n1⟩,λx hx=>?_⟩
     rcases au.1 hx with rfl|hx
     ·exact q
     ·exact λh=>n2 x hx (aZ _ h)
    ·rintro⟨⟨n1,n2⟩,n3⟩
     refine⟨n2,λx hx hm=>?_⟩
     rcases aC.1 hm with h|h
     ·exact n3 x (br _ hx) h
     ·rw[cq] at h
      subst h
      exact n1 hx
end
end Go.Spl
