/- Five vertices, all joined -/
import Derived.Test.YtpeemonpdlifbaaGreatVTAL
import Derived.Test.YtpeemonpdlifbaaGreatVTAF
import Derived.Test.YtpeemonpdlifbaaGreatVTBG
import Derived.Test.YtpeemonpdlifbaaGreatVTAC
import Derived.Test.YtpeemonpdlifbaaGreatVAmR
import Derived.Test.YtpeemonpdlifbaaGreatVTAK
set_option linter.all false
namespace Go.Pla
open Go.Blk
variable {g g':Gr}{B:List Nat}{Φ:Type}{l r:Nat→Φ}
theorem Even.gr {X:Nat→Bool} (h:Even g B X) (ha:∀ e∈B,∀ v,at_ g e v=at_ g' e v):Even g' B X:=λv=>by
 rw[← h v]; exact par_congr λe he=>by rw[ha e he v]
theorem Dual.gr (d:Dual g B l r) (ha:∀ e∈B,∀ v,at_ g e v=at_ g' e v):Dual g' B l r where
 two:=λS=>(d.two S).gr ha
 one:=λX hX=>d.one X (hX.gr λe he v=>(ha e he v).symm)
theorem Gm:Dual g [] (λ_=>()) (λ_=>()) where
 two:=λ_ _=>rfl
 one:=λ_ _=>⟨λ_=>false,by simp⟩
theorem ir {m:Nat}{p:Nat→Bool}:par (List.range (m+1)) p=(par (List.range m) p ^^ p m):=by
 rw[bD,jv]; simp [par]
theorem ut {m x:Nat} (hx:∀ e,e<m→at_ g e x=false) (hm:at_ g m x=true) {X:Nat→Bool} (h:Even g (List.range (m+1)) X):X m=false:=by
 have:=h x
 rw[ir,dW λe he=>by rw[hx e (ao.1 he),dK],hm] at this
 simpa using this
theorem FW {m x:Nat} (hx:∀ e,e<m→at_ g e x=false) (hm:at_ g m x=true):(∃ (Φ:Type) (l r:Nat→Φ),Dual g (List.range (m+1)) l r)↔∃ (Φ:Type) (l r:Nat→Φ),Dual g (List.range m) l r:=by
 constructor
 ·rintro⟨Φ,l,r,d⟩
  refine⟨Φ,l,r,λS v=>?_,λX hX=>?_⟩
  ·have h1:=d.two S v
   have h2:(S (l m) ^^ S (r m))=false:=ut hx hm (d.two S)
   rw[ir] at h1
   dsimp only at h1
   rw[h2] at h1
   simpa using h1
  ·obtain⟨S,hS⟩:=d.one (λe=>X e&&decide (e<m)) λv=>by
    rw[ir,par_congr (q:=λe=>X e&&at_ g e v) (λe he=>by simp [ao.1 he]),hX v]
    simp
   refine⟨S,λe he=>?_⟩
   have hem:=ao.1 he
   have:=hS e (ao.2 om)
   simpa [hem] using this
 ·rintro⟨Φ,l,r,d⟩
  refine⟨Φ,λe=>if e=m then l m else l e,λe=>if e=m then l m else r e,λS v=>?_,λX hX=>?_⟩
  ·rw[ir,par_congr (q:=λe=>(S (l e) ^^ S (r e))&&at_ g e v) (λe he=>by
    have:e≠m:=by have:=ao.1 he; omega
    simp [this]),d.two S v]
   simp
  ·have h0:=ut hx hm hX
   obtain⟨S,hS⟩:=d.one X λv=>by
    have:=hX v
    rw[ir,h0] at this
    simpa using this
   refine⟨S,λe he=>?_⟩
   by_cases hem:e=m
   ·subst hem; simp [h0]
   ·have hlt:e<m:=by have:=ao.1 he; omega
    simp only[if_neg hem]
    exact hS e (ao.2 hlt)
theorem Hq {m k x:Nat} (hk:k<m) (h1:∀ e,e<m→e≠k→∀ v,at_ g' e v=at_ g e v) (h2:∀ v,v≠x→at_ g k v=(at_ g' k v ^^ at_ g' m v)) (h3:∀ e,e<m→at_ g e x=false) (h4:at_ g' k x=true) (h5:at_ g' m x=true) :
 (∃ (Φ:Type) (l r:Nat→Φ),Dual g' (List.range (m+1)) l r)↔∃ (Φ:Type) (l r:Nat→Φ),Dual g (List.range m) l r:=by
 have hkm:k∈List.range m:=ao.2 hk
 have both:∀ {X},Even g' (List.range (m+1)) X→X m=X k:=fun {X} hX=>by
  have:=hX x
  rw[ir,par_congr (q:=λe=>(e==k)&&X e) (λe he=>by
   by_cases q:e=k
   ·subst q; rw[h4]; simp
   ·rw[h1 e (ao.1 he) q x,h3 e (ao.1 he)]; simp [q]),cY aQ hkm,h5] at this
  cases hm:X m<;>cases hk':X k<;>simp [hm,hk'] at this ⊢
 have shift:∀ {X:Nat→Bool}{v:Nat},X m=X k→v≠x→par (List.range (m+1)) (λe=>X e&&at_ g' e v)=par (List.range m) (λe=>X e&&at_ g e v):=fun {X v} hm hv=>by
  rw[ir,hm,par_congr (l:=List.range m) (p:=λe=>X e&&at_ g e v) (q:=λe=>(X e&&at_ g' e v) ^^ ((e==k)&&(X e&&at_ g' m v))) (λe he=>by
   by_cases q:e=k
   ·subst q; rw[h2 v hv]; simp only[beq_self_eq_true,fD]; cases X e<;>simp
   ·have q':(e==k)=false:=by rw[beq_eq_false_iff_ne]; exact q
    rw[h1 e (ao.1 he) q v,q',ee,cI]),df,cY aQ hkm]
 have ev1:∀ {X:Nat→Bool},Even g' (List.range (m+1)) X→Even g (List.range m) X:=fun {X} hX v=>by
  by_cases hv:v=x
  ·subst hv; exact dW λe he=>by rw[h3 e (ao.1 he),dK]
  ·rw[← shift (both hX) hv]; exact hX v
 have ev2:∀ {X:Nat→Bool},Even g (List.range m) X→X m=X k→Even g' (List.range (m+1)) X:=fun {X} hX hm v=>by
  by_cases hv:v=x
  ·subst hv
   rw[ir,par_congr (q:=λe=>(e==k)&&X e) (λe he=>by
    by_cases q:e=k
    ·subst q; rw[h4]; simp
    ·rw[h1 e (ao.1 he) q v,h3 e (ao.1 he)]; simp [q]),cY aQ hkm,h5,hm]
   simp
  ·rw[shift hm hv]; exact hX v
 constructor
 ·rintro⟨Φ,l,r,d⟩
  refine⟨Φ,l,r,λS=>ev1 (d.two S),λX hX=>?_⟩
  obtain⟨S,hS⟩:=d.one (λe=>if e=m then X k else X e) (ev2 (hX.congr λe he=>by
   have:e≠m:=by have:=ao.1 he; omega
   simp [this]) (by have:k≠m:=om
                    simp [this]))
  refine⟨S,λe he=>?_⟩
  have hem:=ao.1 he
  have:=hS e (ao.2 om)
  rwa [if_neg om] at this
 ·rintro⟨Φ,l,r,d⟩
  refine⟨Φ,λe=>if e=m then l k else l e,λe=>if e=m then r k else r e,λS=>ev2 ((d.two S).congr λe he=>by
   have:e≠m:=by have:=ao.1 he; omega
   simp [this]) (by have:k≠m:=om
                    simp [this]),λX hX=>?_⟩
  obtain⟨S,hS⟩:=d.one X (ev1 hX)
  refine⟨S,λe he=>?_⟩
  by_cases hem:e=m
  ·subst hem
   simp only[if_true]
   rw[both hX]; exact hS k hkm
  ·simp only[if_neg hem]
   exact hS e (ao.2 (by have:=ao.1 he; omega))
end Go.Pla
namespace Go.Proofs.YtpeemonpdlifbaaGreat
open Go.Am
open Go.Pla (Dual at_)
open Go.Am
end Go.Proofs.YtpeemonpdlifbaaGreat
namespace Go.Pla
open Go.Blk
variable {g:Gr}{B:List Nat}{Φ:Type}
theorem xI {p:Nat→Bool} (nd:B.Nodup) (h:par B p=false) {e:Nat} (he:e∈B) (hp:p e=true):∃ k∈B,k≠e∧p k=true:=by
 refine Classical.byContradiction λhno=>?_
 rw[par_congr (q:=λj=>(j==e)&&true) (λj hj=>by
  by_cases q:j=e
  ·subst q; simp [hp]
  ·have q':(j==e)=false:=by rw[beq_eq_false_iff_ne]; exact q
   rw[q',ee]
   cases hpj:p j with
   | false=>rfl
   | true=>exact absurd ⟨j,hj,q,hpj⟩ hno),cY (p:=λ_=>true) nd he] at h
 cases h
theorem qA:∀ {a b:List Nat},a.Nodup→(∀ x∈a,x∈b)→a.length≤b.length
 | [],_,_,_=>fq _
 | x::a,b,nd,h=>by
   obtain⟨h1,h2⟩:=aW.1 nd
   have hx:=h x (by simp)
   have:=qA (b:=b.erase x) h2 λy hy=>(mj λ(q:y=x)=>h1 (q▸hy)).2 (h y (by simp [hy]))
   rw[pN hx] at this
   have:=tf hx
   rw[aw]
   omega
theorem zK (p:Pln g B) {X:Nat→Bool} (hX:Even g B X) {e:Nat} (he:e∈B) (hXe:X e=true):3≤B.countP X:=by
 have hne:=p.ne he
 have a1:at_ g e (g.tl e)=true:=by unfold at_; simp [Ne.symm hne]
 have a2:at_ g e (g.hd e)=true:=by unfold at_; simp [hne]
 obtain⟨k1,hk1,n1,x1⟩:=xI p.nd (hX (g.tl e)) he (by simp [hXe,a1])
 obtain⟨k2,hk2,n2,x2⟩:=xI p.nd (hX (g.hd e)) he (by simp [hXe,a2])
 simp only[aM] at x1 x2
 have h12:k1≠k2:=λq=>by
  subst q
  refine n1 (p.one k1 hk1 e he (g.tl e) (g.hd e) ?_ (jn_iff.2 (.inl ⟨rfl,rfl⟩)))
  have:=p.ne hk1
  have y1:=((at_inc (p.lt k1 hk1)).1 x1.2).2
  have y2:=((at_inc (p.lt k1 hk1)).1 x2.2).2
  rw[jn_iff]
  omega
 have nd3:[e,k1,k2].Nodup:=by simp [Ne.symm n1,Ne.symm n2,h12]
 have hsub:∀ x∈[e,k1,k2],x∈B.filter X:=λx hx=>by
  simp only[au,bp,or_false] at hx
  rw[aS]
  rcases hx with rfl|rfl|rfl
  ·exact⟨he,hXe⟩
  ·exact⟨hk1,x1.1⟩
  ·exact⟨hk2,x2.1⟩
 rw[eQ]
 exact qA nd3 hsub
theorem xO:∀ (L:List Φ),∃ D:List Φ,D.Nodup∧∀ x,x∈D↔x∈L
 | []=>⟨[],Lr,λ_=>Iff.rfl⟩
 | y::L=>by
   obtain⟨D,h1,h2⟩:=xO L
   by_cases h:y∈D
   ·exact⟨D,h1,λx=>by
     rw[au,h2]
     constructor
     ·exact .inr
     ·rintro (rfl|q)
      ·exact (h2 _).1 h
      ·exact q⟩
   ·exact⟨y::D,aW.2 ⟨h,h1⟩,λx=>by rw[au,au,h2]⟩
theorem mr {α β:Type}{p:α→β→Bool}{L:List β}:∀ {D:List α},(D.map λa=>L.countP (p a)).sum=(L.map λb=>D.countP λa=>p a b).sum
 | []=>by induction L with
   | nil=>rfl
   | cons b L ih=>simpa using ih
 | a::D=>by
   rw[bA,fO,mr (D:=D)]
   clear mr
   induction L with
   | nil=>rfl
   | cons b L ih =>
     simp only[bA,fO,cU] at ih ⊢
     omega
theorem sum_le {α:Type}{f:α→Nat}{c:Nat}:∀ {L:List α},(∀ a∈L,f a≤c)→(L.map f).sum≤L.length*c
 | [],_=>by simp
 | a::L,h=>by
   rw[bA,fO,aw,dl]
   have:=h a (by simp)
   have:=sum_le (L:=L) λb hb=>h b (by simp [hb])
   omega
theorem vX {α:Type}{f:α→Nat}{c:Nat}:∀ {L:List α},(∀ a∈L,c≤f a)→L.length*c≤(L.map f).sum
 | [],_=>by simp
 | a::L,h=>by
   rw[bA,fO,aw,dl]
   have:=h a (by simp)
   have:=vX (L:=L) λb hb=>h b (by simp [hb])
   omega
open Classical in
theorem uP {D:List Φ} (nd:D.Nodup) {x:Φ}:D.countP (λa=>decide (x=a))≤1:=by
 induction D with
 | nil=>simp
 | cons y D ih =>
   obtain⟨h1,h2⟩:=aW.1 nd
   rw[cU]
   by_cases q:x=y
   ·subst q
    have:D.countP (λa=>decide (x=a))=0:=by
     rw[List.countP_eq_zero]
     intro a ha
     simp only[aA]
     rintro rfl
     exact h1 ha
    rw[this]; simp
   ·have:=ih h2
    simp [q]; simpa using this
def cod (S:Φ→Bool):List Φ→Nat
 | []=>0
 | a::D=>2*cod S D+if S a then 1 else 0
theorem zQ {S:Φ→Bool}:∀ {D:List Φ},cod S D<2 ^ D.length
 | []=>by simp [cod]
 | a::D=>by
   have:=zQ (S:=S) (D:=D)
   rw[cod,aw,Nat.pow_succ]
   split<;>omega
theorem wy {S S':Φ→Bool}:∀ {D:List Φ},cod S D=cod S' D→∀ a∈D,S a=S' a
 | [],_,a,ha=>by simp at ha
 | b::D,h,a,ha=>by
   rw[cod,cod] at h
   have h1:cod S D=cod S' D∧S b=S' b:=by
    cases hb:S b<;>cases hb':S' b<;>simp [hb,hb'] at h ⊢<;>omega
   rcases au.1 ha with rfl|ha
   ·exact h1.2
   ·exact wy h1.1 a ha
theorem rT {l r:Nat→Φ} (p:Pln g B) (d:Dual g B l r) {k:Nat}{X:Nat→Nat→Bool} (hX:∀ c,c<2 ^ k→Even g B (X c)) (hi:∀ c c',c<2 ^ k→c'<2 ^ k→(∀ e∈B,X c e=X c' e)→c=c') (hc:∀ e∈B,∃ c,c<2 ^ k∧X c e=true) (hB:B≠[]):3*(k+1)≤2*B.length:=by
 classical
 have hlr:∀ e∈B,l e≠r e:=λe he q=>by
  obtain⟨c,h1,h2⟩:=hc e he
  obtain⟨S,hS⟩:=d.one _ (hX c h1)
  have:=hS e he
  rw[h2,q] at this
  simp at this
 obtain⟨D,nd,hD⟩:=xO (B.flatMap λe=>[l e,r e])
 have hDm:∀ x,x∈D↔∃ e∈B,x=l e∨x=r e:=λx=>by rw[hD]; simp
 have h3:∀ x∈D,3≤B.countP λe=>(decide (l e=x) ^^ decide (r e=x)):=λx hx=>by
  obtain⟨e,he,hxe⟩:=(hDm x).1 hx
  refine zK p (X:=λe=>(decide (l e=x) ^^ decide (r e=x))) (d.two λa=>decide (a=x)) he ?_
  have:=hlr e he
  rcases hxe with rfl|rfl
  ·simp [Ne.symm this]
  ·simp [this]
 have hsum:=vX h3
 rw[mr] at hsum
 have hup:=sum_le (L:=B) (f:=λe=>D.countP λx=>(decide (l e=x) ^^ decide (r e=x))) (c:=2) λe he=>by
  have h1:=uP nd (x:=l e)
  have h2:=uP nd (x:=r e)
  have:∀ (D:List Φ),D.countP (λx=>(decide (l e=x) ^^ decide (r e=x)))≤D.countP (λx=>decide (l e=x))+D.countP λx=>decide (r e=x):=by
   intro D
   induction D with
   | nil=>simp
   | cons y D ih =>
     rw[cU,cU,cU]
     generalize decide (l e=y)=u
     generalize decide (r e=y)=v
     cases u<;>cases v<;>simp<;>omega
  have:=this D
  omega
 obtain⟨e0,he0⟩:=pe B hB
 obtain⟨x0,D',hDD⟩:∃ x0 D',D=x0::D':=dT λq=>by
  have:=(hDm (l e0)).2 ⟨e0,he0,.inl rfl⟩
  rw[q] at this; simp at this
 have hS:∀ c,∃ S:Φ→Bool,c<2 ^ k→S x0=false∧∀ e∈B,X c e=(S (l e) ^^ S (r e)):=λc=>by
  by_cases h:c<2 ^ k
  ·obtain⟨S,hS⟩:=d.one _ (hX c h)
   refine⟨λa=>S a ^^ S x0,λ_=>⟨by simp,λe he=>?_⟩⟩
   rw[hS e he]
   dsimp only
   cases S (l e)<;>cases S (r e)<;>cases S x0<;>rfl
  ·exact⟨λ_=>false,λh'=>absurd h' h⟩
 obtain⟨S,hS⟩:∃ S:Nat→Φ→Bool,∀ c,c<2 ^ k→S c x0=false∧∀ e∈B,X c e=(S c (l e) ^^ S c (r e)):=⟨λc=>Classical.choose (hS c),λc=>Classical.choose_spec (hS c)⟩
 have ndc:((List.range (2 ^ k)).map λc=>cod (S c) D').Nodup:=by
  rw[List.Nodup,di]
  refine List.Pairwise.imp_of_mem ?_ (aQ (n:=2 ^ k))
  intro a b ha hb hab he
  rw[ao] at ha hb
  have heq:=wy he
  refine hab (hi a b ha hb λe he=>?_)
  have hon:∀ x∈D,S a x=S b x:=λx hx=>by
   rw[hDD] at hx
   rcases au.1 hx with rfl|hx
   ·rw[(hS a ha).1,(hS b hb).1]
   ·exact heq x hx
  rw[(hS a ha).2 e he,(hS b hb).2 e he,hon _ ((hDm _).2 ⟨e,he,.inl rfl⟩),hon _ ((hDm _).2 ⟨e,he,.inr rfl⟩)]
 have hle:=nd_lt ndc (n:=2 ^ D'.length) λx hx=>by
  obtain⟨c,_,rfl⟩:=bu.1 hx
  exact zQ
 rw[ak,bF] at hle
 have hkd:k≤D'.length:=(Nat.pow_le_pow_iff_right om).1 hle
 have hDl:D.length=D'.length+1:=by rw[hDD]; rfl
 omega
open Go.Blk
def t5 (e:Nat):Nat:=[0,0,0,0,1,1,1,2,2,3].getD e 0
def h5 (e:Nat):Nat:=[1,2,3,4,2,3,4,3,4,4].getD e 0
def x5 (c e:Nat):Bool:=if 4≤e then c.testBit (e-4) else par [4,5,6,7,8,9] λk=>c.testBit (k-4)&&((t5 k==e+1) ^^ (h5 k==e+1))
def chk5:Bool:=(List.range 64).all λc=>(List.range 5).all λv=>!(par (List.range 10) λe=>x5 c e&&((t5 e==v) ^^ (h5 e==v)))
def chkI:Bool:=(List.range 64).all λc=>(List.range 64).all λd=>(c==d)||!((List.range 10).all λe=>x5 c e==x5 d e)
def chkC:Bool:=(List.range 10).all λe=>(List.range 64).any λc=>x5 c e
def chkL:Bool:=(List.range 10).all λe=>decide (t5 e<5∧h5 e<5)
set_option maxRecDepth 100000 in
theorem Jz:chk5=true:=by decide +kernel
set_option maxRecDepth 100000 in
theorem Jx:chkI=true:=by decide +kernel
set_option maxRecDepth 100000 in
theorem Jy:chkC=true:=by decide +kernel
theorem Jw:chkL=true:=by decide +kernel
theorem five_no {g:Gr} (p:Pln g (List.range 10)) (ht:∀ e,e<10→g.tl e=t5 e∧g.hd e=h5 e):¬ ∃ (Φ:Type) (l r:Nat→Φ),Dual g (List.range 10) l r:=by
 rintro⟨Φ,l,r,d⟩
 have hat:∀ e,e<10→∀ v,at_ g e v=((t5 e==v) ^^ (h5 e==v)):=λe he v=>by unfold at_; rw[(ht e he).1,(ht e he).2]
 have:=rT p d (k:=6) (X:=x5) (λc hc v=>?_) (λc c' hc hc' h=>?_) (λe he=>?_) (by simp)
 ·simp at this
 ·by_cases hv:v<5
  ·have h1:=Jz
   unfold chk5 at h1
   rw[cj] at h1
   have h2:=h1 c (ao.2 hc)
   rw[cj] at h2
   have h3:=h2 v (ao.2 hv)
   rw[par_congr (q:=λe=>x5 c e&&((t5 e==v) ^^ (h5 e==v))) λe he=>by rw[hat e (ao.1 he) v]]
   simpa using h3
  ·refine dW λe he=>?_
   have h1:=Jw
   unfold chkL at h1
   rw[cj] at h1
   have h2:=h1 e he
   simp only[aA] at h2
   rw[hat e (ao.1 he) v]
   have a:(t5 e==v)=false:=by rw[beq_eq_false_iff_ne]; omega
   have b:(h5 e==v)=false:=by rw[beq_eq_false_iff_ne]; omega
   rw[a,b]; simp
 ·have h1:=Jx
  unfold chkI at h1
  rw[cj] at h1
  have h2:=h1 c (ao.2 hc)
  rw[cj] at h2
  have h3:=h2 c' (ao.2 hc')
  have h4:((List.range 10).all λe=>x5 c e==x5 c' e)=true:=by
   rw[cj]
   intro e he
   rw[h e he]; simp
  rw[h4] at h3
  simpa using h3
 ·have h1:=Jy
  unfold chkC at h1
  rw[cj] at h1
  have h2:=h1 e he
  rw[jj] at h2
  obtain⟨c,hc,hx⟩:=h2
  exact⟨c,ao.1 hc,hx⟩
def t4 (e:Nat):Nat:=[0,0,0,1,1,2].getD e 0
def h4 (e:Nat):Nat:=[1,2,3,2,3,3].getD e 0
theorem four_yes {g:Gr} (ht:∀ e,e<6→g.tl e=t4 e∧g.hd e=h4 e):∃ (Φ:Type) (l r:Nat→Φ),Dual g (List.range 6) l r:=by
 have hat:∀ e,e<6→∀ v,at_ g e v=((t4 e==v) ^^ (h4 e==v)):=λe he v=>by unfold at_; rw[(ht e he).1,(ht e he).2]
 have hp:∀ (X:Nat→Bool) (v:Nat),par (List.range 6) (λe=>X e&&at_ g e v)=((X 0&&((0==v) ^^ (1==v))) ^^ (X 1&&((0==v) ^^ (2==v))) ^^ (X 2&&((0==v) ^^ (3==v))) ^^ (X 3&&((1==v) ^^ (2==v))) ^^ (X 4&&((1==v) ^^ (3==v))) ^^ (X 5&&((2==v) ^^ (3==v)))):=λX v=>by
  rw[par_congr (q:=λe=>X e&&((t4 e==v) ^^ (h4 e==v))) λe he=>by rw[hat e (ao.1 he) v]]
  have:List.range 6=[0,1,2,3,4,5]:=rfl
  rw[this]
  simp [par,t4,h4]
 refine⟨Nat,λe=>[0,0,1,0,1,2].getD e 0,λe=>[1,2,2,3,3,3].getD e 0,λS v=>?_,λX hX=>?_⟩
 ·rw[hp]
  have e0:v=0∨v=1∨v=2∨v=3∨4≤v:=om
  have f:∀ (a b c d:Bool),True:=λ_ _ _ _=>trivial
  rcases e0 with rfl|rfl|rfl|rfl|h
  ·simp; cases S 0<;>cases S 1<;>cases S 2<;>rfl
  ·simp; cases S 0<;>cases S 1<;>cases S 3<;>rfl
  ·simp; cases S 0<;>cases S 2<;>cases S 3<;>rfl
  ·simp; cases S 1<;>cases S 2<;>cases S 3<;>rfl
  ·have h0:(0==v)=false:=by rw[beq_eq_false_iff_ne]; omega
   have h1:(1==v)=false:=by rw[beq_eq_false_iff_ne]; omega
   have h2:(2==v)=false:=by rw[beq_eq_false_iff_ne]; omega
   have h3:(3==v)=false:=by rw[beq_eq_false_iff_ne]; omega
   simp [h0,h1,h2,h3]
 ·have a0:=hX 0
  have a1:=hX 1
  have a2:=hX 2
  rw[hp] at a0 a1 a2
  simp at a0 a1 a2
  refine⟨λf=>if f=1 then X 0 else if f=2 then X 1 else if f=3 then X 3 else false,λe he=>?_⟩
  have he:=ao.1 he
  have:e=0∨e=1∨e=2∨e=3∨e=4∨e=5:=om
  rcases this with rfl|rfl|rfl|rfl|rfl|rfl
  ·simp
  ·simp
  ·revert a0; cases X 0<;>cases X 1<;>cases X 2<;>simp
  ·simp
  ·revert a1; cases X 0<;>cases X 3<;>cases X 4<;>simp
  ·revert a2; cases X 1<;>cases X 3<;>cases X 5<;>simp
end Go.Pla
namespace Go.Proofs.YtpeemonpdlifbaaGreat
open Go.Am
open Go.Pla (Dual at_ t5 h5 t4 h4)
def tq (a k:Nat):List (Int×Int):=(List.range k).map λb=>(((a:Nat):Int),((a+1+b:Nat):Int))
def ju (n a:Nat):List (Int×Int):=(List.range a).flatMap λa=>tq a (n-(a+1))
theorem Ct {a k:Nat}:tq a (k+1)=tq a k++[(((a:Nat):Int),((a+1+k:Nat):Int))]:=by
 unfold tq
 rw[bD,ez]
 rfl
theorem si {n a:Nat}:ju n (a+1)=ju n a++tq a (n-(a+1)):=by
 unfold ju
 rw[bD,eH]
 simp
theorem xq {a k:Nat}:(tq a k).length=k:=by simp [tq]
theorem uw {n:Nat}:∀ {a:Nat},(ju n a).length≤a*n
 | 0=>by simp [ju]
 | a+1=>by
   have:=@uw n a
   rw[si,aI,xq,dl]
   omega
theorem Gl (e:Int×Int):(eE e).length=2:=rfl
theorem Ln (E:List (Int×Int)):(E.flatMap eE).length=E.length*2:=gc Gl E
set_option maxHeartbeats 1000000 in
theorem ux {h:AH}{n:Nat} (hn:n≤100):C prg 9 [.int .i64 (n:Nat)] h λv h'=>∃ ev,v=.agg [.int .i64 (n:Nat),ev]∧SlE h' ev (ju n n)∧Ext h.next h h':=by
 refine LB pf9 ?_
 refine aj (aB (Mi0) ?_)
 have x0:Ext h.next h (h.new (.cells [.int .i64 0,.nils] 2 false)):=Ly (ae _)
 have g0:(h.new (.cells [.int .i64 0,.nils] 2 false)).get h.next=some (.cells [.int .i64 0,.nils] 2 false):=by rw[AH.get_new,if_pos rfl]
 have n0:(h.new (.cells [.int .i64 0,.nils] 2 false)).next=h.next+1:=rfl
 generalize (h.new (.cells [.int .i64 0,.nils] 2 false))=h1 at *
 obtain⟨h2,w2,x2,g2,n2⟩:=gm (h:=h1) (z:=[.int .i64 0,.nils]) (cs:=[.int .i64 (n:Nat),.nils]) (e:=2) rfl
 refine aj (bT (λts h'=>h'=h2∧aY ts 0=.int .i64 (n:Nat)∧aY ts 2=.ptr h.next 0∧aY ts 3=.ptr h1.next 0) (by simp only[am,aF,simprocAttr,bH,w2]) ?_)
 rintro ts h2' ⟨rfl,e0,e2,e3⟩
 have g02:h2'.get h.next=some (.cells [.int .i64 0,.nils] 2 false):=by rw[x2.gt _ om]; exact g0
 have X2:Ext h.next h h2':=x0.trans (x2.mono om)
 rw[n0] at e3 g2 n2
 refine aj (sV (λts h'=>∃ ev,aY ts 2=.ptr h.next 0∧aY ts 3=.ptr (h.next+1) 0∧IsSl h' 2 (h.next+2) ev ((ju n n).flatMap eE)∧h'.get (h.next+1)=some (.cells [.int .i64 (n:Nat),ev] 2 false)∧h'.get h.next=some (.cells [.int .i64 0,.nils] 2 false)∧Ext h.next h h') ?_ ?_)
 ·refine aj (aB (M0) ?_)
  refine vq (α:=AV) (N:=n) (λa ev=>[(0,.int .i64 (n:Nat)),(2,.ptr h.next 0),(3,.ptr (h.next+1) 0),(4,.int .i64 (a:Nat))])
   (λa ev h'=>IsSl h' 2 (h.next+2) ev ((ju n a).flatMap eE)∧h'.get (h.next+1)=some (.cells [.int .i64 (n:Nat),ev] 2 false)∧h'.get h.next=some (.cells [.int .i64 0,.nils] 2 false)∧Ext h.next h h'∧h.next+2≤h'.next) .nils (H4 e0 e2 e3 @cH) ⟨.inl ⟨rfl,rfl⟩,g2,g02,X2,om⟩ ?_ ?_ ?_
  ·clear e0 e2 e3
   rintro a ev ts h3 ha _ ⟨e0,e2,e3,e4,-⟩
   simp only at e0 e2 e3 e4
   exact⟨_,(M3 e0 e4 @jl),Z0,H4 e0 e2 e3 e4⟩
  ·clear e0 e2 e3
   rintro a ev ts h3 ha ⟨i3,g3,r3,X3,n3⟩ ⟨e0,e2,e3,e4,-⟩
   simp only at e0 e2 e3 e4
   have wa:IntKind.i64.wrap (((a:Nat):Int)+1)=((a+1:Nat):Int):=fz om om
   have fl:=@uw n a
   have fl2:a*n≤100*100:=wN om hn
   refine aj (aB (M2 e4 wa) ?_)
   refine vq (α:=AV) (N:=n-(a+1)) (λk ev=>[(0,.int .i64 (n:Nat)),(2,.ptr h.next 0),(3,.ptr (h.next+1) 0),(4,.int .i64 (a:Nat)),(5,.int .i64 (a+1+k:Nat))])
    (λk ev h'=>IsSl h' 2 (h.next+2) ev ((ju n a++tq a k).flatMap eE)∧h'.get (h.next+1)=some (.cells [.int .i64 (n:Nat),ev] 2 false)∧h'.get h.next=some (.cells [.int .i64 0,.nils] 2 false)∧Ext h.next h h'∧h.next+2≤h'.next) ev (by simp only[hl,am,aF,simprocAttr,e0,e2,e3,e4,dh]) ⟨by simpa [tq] using i3,g3,r3,X3,n3⟩ ?_ ?_ ?_
   ·clear e0 e2 e3 e4 i3 g3 r3 X3 n3
    rintro k ev ts h4 hk _ ⟨e0,e2,e3,e4,e5,-⟩
    simp only at e0 e2 e3 e4 e5
    have c1:decide (((a+1+k:Nat):Int)<((n:Nat):Int))=decide (k<n-(a+1)):=by rw[decide_eq_decide]; omega
    exact⟨_,(M3 e0 e5 c1),Z0,H5 e0 e2 e3 e4 e5⟩
   ·clear e0 e2 e3 e4 i3 g3 r3 X3 n3
    rintro k ev ts h4 hk ⟨i4,g4,r4,X4,n4⟩ ⟨e0,e2,e3,e4,e5,-⟩
    simp only at e0 e2 e3 e4 e5
    have wk:IntKind.i64.wrap (((a+1+k:Nat):Int)+1)=((a+1+(k+1):Nat):Int):=fz om om
    have rg:ar h4 (h.next+1) 1 1=some [ev]:=bq g4 rfl
    have hlen:((ju n a++tq a k).flatMap eE).length / 2≤100*100+100:=by
     rw[Ln,aI,xq]
     omega
    obtain⟨ev',h5,a5,i5,x5,n5⟩:=i4.push (bytes:=16) [.int .i64 (a:Nat),.int .i64 (a+1+k:Nat)] n4 om rfl rfl (by unfold be; omega) (by unfold be; omega)
    have g5:h5.get (h.next+1)=some (.cells [.int .i64 (n:Nat),ev] 2 false):=by rw[x5.gt _ om]; exact g4
    have r5:h5.get h.next=some (.cells [.int .i64 0,.nils] 2 false):=by rw[x5.gt _ om]; exact r4
    have w5:=gv (v:=ev') g5 (i:=1) (by simp)
    have u5:=LA (o:=.cells ([AV.int .i64 (n:Nat),ev].set 1 ev') 2 false) g5
    refine aB (by simp only[am,aF,simprocAttr,e3,e4,e5,rg,a5,i5.cells.1,i5.cells.2,w5]<;>rfl) ?_
    generalize h5.put (h.next+1) (.cells ([AV.int .i64 (n:Nat),ev].set 1 ev') 2 false)=h6 at *
    refine⟨ev',⟨?_,u5.get,by rw[u5.ne om]; exact r5,X4.trans ((x5.mono om).trans (u5.ext om)),by have:=u5.nx; omega⟩,_,(by simp only[am,aF,simprocAttr,e5,wk]<;>rfl),H4 e0 e2 e3 e4⟩
    rw[Ct,← bP,eH]
    exact i5.upd u5 om
   ·clear e0 e2 e3 e4 i3 g3 r3 X3 n3
    rintro ev ts h4 ⟨i4,g4,r4,X4,n4⟩ ⟨e0,e2,e3,e4,e5,-⟩
    simp only at e0 e2 e3 e4
    exact⟨ev,⟨by rw[si]; exact i4,g4,r4,X4,n4⟩,_,(M2 e4 wa),H3 e0 e2 e3⟩
  ·clear e0 e2 e3
   rintro ev ts h3 ⟨i3,g3,r3,X3,n3⟩ ⟨e0,e2,e3,e4,-⟩
   exact⟨ev,e2,e3,i3,g3,r3,X3⟩
 clear e0 e2 e3
 rintro ts h3 ⟨ev,e2,e3,i3,g3,r3,X3⟩
 have rg:ar h3 (h.next+1) 0 2=some [.int .i64 (n:Nat),ev]:=by rw[bg g3]; rfl
 have w4:bZ h3 h.next 0 [.int .i64 (n:Nat),ev]=some (h3.put h.next (.cells [.int .i64 (n:Nat),ev] 2 false)):=by rw[fy r3]; rfl
 have u4:=LA (o:=.cells [.int .i64 (n:Nat),ev] 2 false) r3
 refine aj (aB (by simp only[am,aF,simprocAttr,e2,e3,rg,w4,i3.cells.2]<;>rfl) ?_)
 generalize h3.put h.next (.cells [.int .i64 (n:Nat),ev] 2 false)=h4 at *
 have r4:ar h4 h.next 0 2=some [.int .i64 (n:Nat),ev]:=by rw[bg u4.get]; rfl
 exact bG ⟨.agg [.int .i64 (n:Nat),ev],(by simp only[rs,rf9,am,aF,simprocAttr,e2,r4]<;>rfl),ev,rfl,IsSl.sl om Gl (i3.upd u4 om),X3.trans (u4.ext (ae _))⟩
theorem KG:jY 4 (ju 4 4):=⟨by decide,by decide,by decide⟩
theorem IK:¬ IsP 5 (ju 5 5):=λ⟨hP,h⟩=>by
 have hE:=ing_of hP.1
 have hL:=Be hP.1 hP.2.1
 have hl:(ju 5 5).length=10:=by decide
 have hp:Go.Pla.Pln (grE (5:Int).toNat (ju 5 5) hE hL) (List.range 10):=by
  have:=rJ (hE:=hE) (hL:=hL) hP.2.2
  rwa [hl] at this
 refine Go.Pla.five_no hp (λe he=>?_) (by have:=h hE hL; rwa [hl] at this)
 have:e=0∨e=1∨e=2∨e=3∨e=4∨e=5∨e=6∨e=7∨e=8∨e=9:=om
 rcases this with rfl|rfl|rfl|rfl|rfl|rfl|rfl|rfl|rfl|rfl<;>exact⟨rfl,rfl⟩
theorem is4:IsP 4 (ju 4 4):=⟨KG,λhE hL=>by
 have hl:(ju 4 4).length=6:=by decide
 rw[hl]
 refine Go.Pla.four_yes (λe he=>?_)
 have:e=0∨e=1∨e=2∨e=3∨e=4∨e=5:=om
 rcases this with rfl|rfl|rfl|rfl|rfl|rfl<;>exact⟨rfl,rfl⟩⟩
theorem xd {h:AH}:C prg 4 [] h λv h'=>v=.bool true∧Ext h.next h h':=by
 refine LB pf4 ?_
 refine aj (aB (Mi0) ?_)
 refine aj (bO (nh (Z0) (M0) (ux (n:=5) om) λr h1 hq=>?_))
 obtain⟨ev,rfl,s1,x1⟩:=hq
 refine nh (Z0) (M0) (EU (n:=5) s1 (by decide)) λr h2 hq=>?_
 obtain⟨b,rfl,hb,x2⟩:=hq
 have b0:b=false:=by
  cases b with
  | false=>rfl
  | true=>exact absurd (hb.1 rfl) IK
 subst b0
 have n1:=x1.nx
 have n2:=x2.nx
 refine bt 2 (M0) rfl (Z0) (M0) (ux (n:=4) om) λr h3 hq=>?_
 obtain⟨ev4,rfl,s3,x3⟩:=hq
 have n3:=x3.nx
 refine nh (Z0) (M0) (EU (n:=4) s3 (by decide)) λr h4 hq=>?_
 obtain⟨b,rfl,hb4,x4⟩:=hq
 obtain rfl:b=true:=hb4.2 is4
 refine bI (M0) ?_
 exact bG ⟨.bool true,(by simp only[rs,rf4,am,aF,simprocAttr]<;>rfl),rfl,x1.trans ((x2.mono n1).trans ((x3.mono om).trans (x4.mono om)))⟩
end Go.Proofs.YtpeemonpdlifbaaGreat
