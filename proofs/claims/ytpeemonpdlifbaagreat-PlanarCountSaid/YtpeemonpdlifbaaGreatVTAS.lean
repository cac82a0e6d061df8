/- The search in depth, whole -/
import Derived.Test.YtpeemonpdlifbaaGreatVTAR
import Derived.Test.YtpeemonpdlifbaaGreatVTAF
import Derived.Test.YtpeemonpdlifbaaGreatVTAC
set_option linter.all false
namespace Go.Blk
variable {g:Gr}
theorem unm_pos {s:DS}{x:Nat} (hx:x<g.n) (h:s.num x=0):0<unm g s:=by
 unfold unm
 rw[List.countP_pos_iff]
 exact⟨x,ao.2 hx,by simp [h]⟩
theorem visit_good {ends:Nat→List Nat}{sort:List Nat→List Nat} (hends:∀ x,x<g.n→(ends x).Nodup∧∀ i,i∈ends x↔g.inc i x) (hsort:∀ l,(sort l).Perm l):∀ f,Good g (visit g ends sort f) f
 | 0=>λan x by_ s p hf=>by
   have:=unm_pos p.hx p.x0
   omega
 | f+1=>λan x by_ s p hf=>by
   have ih:=visit_good hends hsort f
   obtain⟨e1,e2⟩:=hends x p.hx
   have fold:∀ (l L:List Nat) (s1:DS) (new:List Nat) (bs:List (List Nat)),Mid g x by_ s L s1 new bs→L++l=ends x →
    ∃ new' bs',Mid g x by_ s (L++l) (l.foldl (edgeS g sort (λy i s=>visit g ends sort f y (some i) s) x by_) s1) new' bs':=by
    intro l
    induction l with
    | nil=>intro L s1 new bs m _; exact⟨new,bs,by rw[dG]; exact m⟩
    | cons i l ihl =>
      intro L s1 new bs m hL
      have hi:g.inc i x:=(e2 i).1 (by rw[← hL]; simp)
      have hiL:i∉L:=by
       rw[← hL,aN] at e1
       exact λh=>e1.2.2 i h i (bB ..) rfl
      obtain⟨oi,one,oo⟩:=inc_oth hi
      have step:∃ new' bs',Mid g x by_ s (L++[i]) (edgeS g sort (λy i s=>visit g ends sort f y (some i) s) x by_ s1 i) new' bs':=by
       unfold edgeS
       by_cases hb:by_=some i
       ·rw[if_pos hb]
        refine⟨new,bs,oM m hi ?_ (.inl hb)⟩
        exact m.toCom.met (p.gray _ (p.by1 i hb).2)
       ·rw[if_neg hb]
        by_cases hy:s1.num (g.oth i x)=0
        ·rw[if_pos hy]
         have ps:=sub_pre p m hi hy
         have hlt:unm g { s1 with stk:=s1.stk++[i]}<unm g s:=yQ (λv hv=>m.toCom.met hv) p.hx p.x0 (show s1.num x≠0 by rw[m.numx]; omega)
         obtain⟨new2,bs2,c2⟩:=ih _ _ _ _ ps om
         exact xT hsort p m hi hiL hb hy c2 rfl
        ·rw[if_neg hy]
         by_cases hlt:s1.num (g.oth i x)<s1.num x
         ·rw[if_pos hlt]
          exact⟨_,_,xU p m hi hiL hb hy hlt⟩
         ·rw[if_neg hlt]
          refine⟨new,bs,oM m hi hy (.inr ⟨Decidable.byContradiction λhc=>?_,hy⟩)⟩
          have h1:=p.le (g.oth i x)
          rw[m.keep _ hc,m.numx] at hlt
          omega
      obtain⟨new1,bs1,m1⟩:=step
      have:=ihl (L++[i]) _ new1 bs1 m1 (by rw[← hL]; simp)
      rw[bP] at this
      exact this
   obtain⟨new,bs,m⟩:=fold (ends x) [] (enter x s) [] [] (mid0 p) (bj _)
   exact⟨new,bs,m.post p.x0 e2⟩
def start:DS:=⟨λ_=>0,λ_=>0,0,[],[]⟩
def from1 (g:Gr) (ends:Nat→List Nat) (sort:List Nat→List Nat) (f:Nat) (s:DS) (x:Nat):DS:=if s.num x=0 then visit g ends sort f x none s else s
def runB (g:Gr) (ends:Nat→List Nat) (sort:List Nat→List Nat) (f:Nat):DS:=(List.range g.n).foldl (from1 g ends sort f) start
structure Btw (g:Gr) (s:DS):Prop where
 black:∀ v,s.num v≠0→∀ i,g.inc i v→s.num (g.oth i v)≠0
 le:∀ v,s.num v≤s.cnt
 inj:∀ u v,s.num u=s.num v→s.num u≠0→u=v
 stk:s.stk=[]
 nd:s.blk.flatten.Nodup
 blks:∀ b∈s.blk,IsBlock g b
 part:∀ i,(∃ b∈s.blk,i∈b)↔∃ u,s.num u≠0∧g.inc i u
theorem vg:Btw g start:=by
 refine⟨λv h=>absurd rfl h,λv=>ae _,λu v _ h=>absurd rfl h,rfl,by simp [start],λb hb=>(by cases hb),λi=>?_⟩
 constructor
 ·rintro⟨b,hb,_⟩; cases hb
 ·rintro⟨u,h,_⟩; exact absurd rfl h
theorem yE {ends:Nat→List Nat}{sort:List Nat→List Nat} (hends:∀ x,x<g.n→(ends x).Nodup∧∀ i,i∈ends x↔g.inc i x) (hsort:∀ l,(sort l).Perm l) {f:Nat}{s:DS}{x:Nat} (b:Btw g s) (hx:x<g.n) (hf:unm g s≤f) :
 Btw g (from1 g ends sort f s x)∧(from1 g ends sort f s x).num x≠0∧(∀ v,s.num v≠0→(from1 g ends sort f s x).num v≠0)∧unm g (from1 g ends sort f s x)≤f:=by
 unfold from1
 by_cases h:s.num x=0
 ·rw[if_pos h]
  have p:Pre g [] x none s:=⟨hx,h,λa ha=>(by cases ha),λv hv _=>b.black v hv,b.le,b.inj,λz _ a ha=>(by cases ha),λc hc=>(by cases hc),λ_=>rfl,λj hj=>by rw[b.stk] at hj; cases hj⟩
  obtain⟨new,bs,c⟩:=visit_good hends hsort f [] x none s p hf
  generalize visit g ends sort f x none s=s' at *
  have hnew:new=[]:=by
   cases new with
   | nil=>rfl
   | cons a r=>obtain⟨_,e,_⟩:=c.cls a (bB ..); cases e
  subst hnew
  have hmet:∀ v,s.num v≠0→s'.num v≠0:=λv hv=>c.toCom.met hv
  refine⟨⟨λv hv i hi=>?_,c.le,c.inj,by rw[c.stk,b.stk]; rfl,?_,λbb hb=>?_,λi=>?_⟩,by rw[c.numx]; omega,hmet,cN (Kv hmet) hf⟩
  ·by_cases ho:s.num v=0
   ·exact c.black v ⟨ho,hv⟩ i hi
   ·exact hmet _ (b.black v ho i hi)
  ·rw[c.blk,gz,aN]
   refine⟨b.nd,by simpa using c.nd,λa ha d hd e=>?_⟩
   subst e
   rw[dQ] at ha hd
   obtain⟨u,hu,hiu⟩:=(b.part a).1 ha
   obtain⟨_,u2,h2,hi2⟩:=(c.part a).1 (.inr hd)
   by_cases e:u2=u
   ·exact hu (e▸h2.1)
   ·have:=fH hiu hi2 e
    exact b.black u hu a hiu (this▸h2.1)
  ·rw[c.blk] at hb
   rcases aC.1 hb with hb|hb
   ·exact b.blks bb hb
   ·exact c.blks bb hb
  ·rw[c.blk]
   constructor
   ·rintro⟨bb,hb,hi⟩
    rcases aC.1 hb with hb|hb
    ·obtain⟨u,h1,h2⟩:=(b.part i).1 ⟨bb,hb,hi⟩
     exact⟨u,hmet u h1,h2⟩
    ·obtain⟨_,u,h1,h2⟩:=(c.part i).1 (.inr ⟨bb,hb,hi⟩)
     exact⟨u,h1.2,h2⟩
   ·rintro⟨u,h1,h2⟩
    by_cases ho:s.num u=0
    ·rcases (c.part i).2 ⟨by simp,u,⟨ho,h1⟩,h2⟩ with q|⟨bb,q1,q2⟩
     ·cases q
     ·exact⟨bb,fX _ q1,q2⟩
    ·obtain⟨bb,q1,q2⟩:=(b.part i).2 ⟨u,ho,h2⟩
     exact⟨bb,aZ _ q1,q2⟩
 ·rw[if_neg h]
  exact⟨b,h,λv hv=>hv,hf⟩
theorem wY {s:DS}:unm g s≤g.n:=by
 unfold unm
 exact cN fY (by simp)
theorem runB_ok {ends:Nat→List Nat}{sort:List Nat→List Nat} (hends:∀ x,x<g.n→(ends x).Nodup∧∀ i,i∈ends x↔g.inc i x) (hsort:∀ l,(sort l).Perm l) {f:Nat} (hf:g.n≤f) :
 (runB g ends sort f).blk.flatten.Nodup∧(∀ b∈(runB g ends sort f).blk,IsBlock g b)∧∀ i,i<g.m↔∃ b∈(runB g ends sort f).blk,i∈b:=by
 have key:∀ k,k≤g.n→Btw g ((List.range k).foldl (from1 g ends sort f) start)∧(∀ v,v<k→((List.range k).foldl (from1 g ends sort f) start).num v≠0)∧unm g ((List.range k).foldl (from1 g ends sort f) start)≤f:=by
  intro k
  induction k with
  | zero=>intro _; exact⟨vg,λv hv=>absurd hv (eP _),cN wY hf⟩
  | succ k ih =>
    intro hk
    obtain⟨h1,h2,h3⟩:=ih om
    rw[bD,cS]
    obtain⟨a,b,c,d⟩:=yE hends hsort h1 (show k<g.n by omega) h3
    refine⟨a,λv hv=>?_,d⟩
    by_cases e:v=k
    ·subst e; exact b
    ·exact c v (h2 v om)
 obtain⟨h1,h2,_⟩:=key g.n (ae _)
 refine⟨h1.nd,h1.blks,λi=>?_⟩
 show _↔∃ b∈((List.range g.n).foldl (from1 g ends sort f) start).blk,i∈b
 rw[h1.part i]
 constructor
 ·intro hi
  exact⟨g.tl i,h2 _ (g.ok i hi).1,hi,.inl rfl⟩
 ·rintro⟨u,_,h⟩; exact h.1
variable {g:Gr}{ends:Nat→List Nat}{sort:List Nat→List Nat}
theorem tM {f f':Nat→Nat}:∀ {l:List Nat},(∀ v∈l,f' v≤f v)→(l.map f').sum≤(l.map f).sum
 | [],_=>ae _
 | a::l,h=>by
   simp only[bA,fO]
   have h1:=tM (l:=l) λv hv=>h v (br _ hv)
   have h2:=h a (bB ..)
   omega
theorem qR {f f':Nat→Nat}{d x:Nat}:∀ {l:List Nat},(∀ v∈l,f' v≤f v)→x∈l→f' x+d≤f x→(l.map f').sum+d≤(l.map f).sum
 | [],_,hx,_=>by cases hx
 | a::l,h,hx,hd=>by
   simp only[bA,fO]
   rcases au.1 hx with rfl|hx
   ·have:=tM (l:=l) λv hv=>h v (br _ hv)
    omega
   ·have h1:=qR (l:=l) (λv hv=>h v (br _ hv)) hx hd
    have h2:=h a (bB ..)
    omega
def wt (g:Gr) (ends:Nat→List Nat) (s:DS):Nat:=((List.range g.n).map λv=>if s.num v=0 then 1+2*(ends v).length else 0).sum
def pot (g:Gr) (ends:Nat→List Nat) (s:DS):Nat:=s.cnt+s.stk.length+s.blk.length+wt g ends s
theorem uF {x:Nat}{s:DS}:∀ v,s.num v≠0→(enter x s).num v≠0:=λv hv=>by
 show upd s.num x (s.cnt+1) v≠0
 by_cases e:v=x
 ·subst e; rw[upd_same]; omega
 ·rw[upd_ne e]; exact hv
theorem pot_enter {x:Nat}{s:DS} (hx:x<g.n) (h0:s.num x=0):pot g ends (enter x s)+2*(ends x).length≤pot g ends s:=by
 have h1:wt g ends (enter x s)+(1+2*(ends x).length)≤wt g ends s:=by
  refine qR (x:=x) (λv _=>?_) (ao.2 hx) ?_
  ·by_cases e:s.num v=0
   ·rw[if_pos e]
    split<;>omega
   ·rw[if_neg e,if_neg (uF v e)]
    exact ae _
  ·have e:(enter x s).num x≠0:=by show upd s.num x (s.cnt+1) x≠0; rw[upd_same]; omega
   rw[if_neg e,if_pos h0]
   omega
 unfold pot
 have h2:(enter x s).cnt=s.cnt+1:=rfl
 have h3:(enter x s).stk=s.stk:=rfl
 have h4:(enter x s).blk=s.blk:=rfl
 rw[h2,h3,h4]
 omega
theorem Cz {s:DS}{i:Nat}:pot g ends (s.close sort i)≤pot g ends s+1:=by
 have h1:(s.close sort i).stk.length≤s.stk.length:=by
  show (s.stk.take _).length≤_
  rw[bS]; omega
 have h2:(s.close sort i).blk.length=s.blk.length+1:=by
  show (s.blk++[_]).length=_
  simp
 have h3:wt g ends (s.close sort i)=wt g ends s:=rfl
 have h4:(s.close sort i).cnt=s.cnt:=rfl
 unfold pot
 omega
theorem pot_push {s:DS}{i:Nat}:pot g ends { s with stk:=s.stk++[i]}=pot g ends s+1:=by
 unfold pot
 have:wt g ends { s with stk:=s.stk++[i]}=wt g ends s:=rfl
 simp only[this,aI,aw,aP]
 omega
theorem ET {vis:Nat→Nat→DS→DS}{x:Nat}{by_:Option Nat}{i:Nat} (hi:g.inc i x) (hv:∀ (y i:Nat) (s:DS),y<g.n→s.num y=0→(∀ v,s.num v≠0→(vis y i s).num v≠0)∧pot g ends (vis y i s)≤pot g ends s) (s:DS) :
 (∀ v,s.num v≠0→(edgeS g sort vis x by_ s i).num v≠0)∧pot g ends (edgeS g sort vis x by_ s i)≤pot g ends s+2:=by
 unfold edgeS
 by_cases hb:by_=some i
 ·rw[if_pos hb]; exact⟨λv h=>h,om⟩
 rw[if_neg hb]
 by_cases hy:s.num (g.oth i x)=0
 ·rw[if_pos hy]
  obtain⟨a,b⟩:=hv (g.oth i x) i { s with stk:=s.stk++[i]} (inc_lt (inc_oth hi).1) hy
  rw[pot_push] at b
  generalize vis (g.oth i x) i { s with stk:=s.stk++[i]}=s2 at *
  simp only
  split
  ·refine⟨λv h=>a v h,?_⟩
   have:=Cz (g:=g) (ends:=ends) (sort:=sort) (s:={ s2 with low:=upd s2.low x (min (s2.low x) (s2.low (g.oth i x)))}) (i:=i)
   have e:pot g ends ({ s2 with low:=upd s2.low x (min (s2.low x) (s2.low (g.oth i x)))}:DS)=pot g ends s2:=rfl
   rw[e] at this
   exact cN this om
  ·refine⟨λv h=>a v h,?_⟩
   exact cN b om
 ·rw[if_neg hy]
  split
  ·refine⟨λv h=>h,?_⟩
   have:pot g ends { s with stk:=s.stk++[i],low:=upd s.low x (min (s.low x) (s.num (g.oth i x)))}=pot g ends s+1:=pot_push (s:={ s with low:=upd s.low x (min (s.low x) (s.num (g.oth i x)))})
   exact cN (Nat.le_of_eq this) om
  ·exact⟨λv h=>h,om⟩
theorem pot_fold {vis:Nat→Nat→DS→DS}{x:Nat}{by_:Option Nat} (hv:∀ (y i:Nat) (s:DS),y<g.n→s.num y=0→(∀ v,s.num v≠0→(vis y i s).num v≠0)∧pot g ends (vis y i s)≤pot g ends s) :
 ∀ (l:List Nat) (s:DS),(∀ i∈l,g.inc i x)→(∀ v,s.num v≠0→(l.foldl (edgeS g sort vis x by_) s).num v≠0)∧pot g ends (l.foldl (edgeS g sort vis x by_) s)≤pot g ends s+2*l.length
 | [],s,_=>⟨λv h=>h,by simp⟩
 | i::l,s,hl=>by
   obtain⟨a1,a2⟩:=ET (sort:=sort) (by_:=by_) (hl i (bB ..)) hv s
   obtain⟨b1,b2⟩:=pot_fold hv l (edgeS g sort vis x by_ s i) λk hk=>hl k (br _ hk)
   refine⟨λv h=>b1 v (a1 v h),?_⟩
   rw[aw,dP]
   omega
theorem pot_visit (hends:∀ x,x<g.n→∀ i∈ends x,g.inc i x):∀ (f x:Nat) (by_:Option Nat) (s:DS),x<g.n→s.num x=0→(∀ v,s.num v≠0→(visit g ends sort f x by_ s).num v≠0)∧pot g ends (visit g ends sort f x by_ s)≤pot g ends s
 | 0,_,_,_,_,_=>⟨λv h=>h,ae _⟩
 | f+1,x,by_,s,hx,h0=>by
   obtain⟨a,b⟩:=pot_fold (sort:=sort) (by_:=by_) (vis:=λy i s=>visit g ends sort f y (some i) s) (λy i s hy hs=>pot_visit hends f y (some i) s hy hs) (ends x) (enter x s) (hends x hx)
   have c:=pot_enter (ends:=ends) hx h0
   refine⟨λv h=>a v (uF v h),?_⟩
   show pot g ends ((ends x).foldl (edgeS g sort (λy i s=>visit g ends sort f y (some i) s) x by_) (enter x s))≤_
   omega
theorem mid_step (hends:∀ x,x<g.n→(ends x).Nodup∧∀ i,i∈ends x↔g.inc i x) (hsort:∀ l,(sort l).Perm l) {f:Nat}{an:List Nat}{x:Nat}{by_:Option Nat}{s:DS} (p:Pre g an x by_ s) (hf:unm g s≤f+1) {L new:List Nat}{s1:DS}{bs:List (List Nat)}{i:Nat}
 (m:Mid g x by_ s L s1 new bs) (hi:g.inc i x) (hiL:i∉L):∃ new' bs',Mid g x by_ s (L++[i]) (edgeS g sort (λy i s=>visit g ends sort f y (some i) s) x by_ s1 i) new' bs':=by
 have ih:=visit_good hends hsort f
 obtain⟨oi,one,oo⟩:=inc_oth hi
 unfold edgeS
 by_cases hb:by_=some i
 ·rw[if_pos hb]
  refine⟨new,bs,oM m hi ?_ (.inl hb)⟩
  exact m.toCom.met (p.gray _ (p.by1 i hb).2)
 ·rw[if_neg hb]
  by_cases hy:s1.num (g.oth i x)=0
  ·rw[if_pos hy]
   have ps:=sub_pre p m hi hy
   have hlt:unm g { s1 with stk:=s1.stk++[i]}<unm g s:=yQ (λv hv=>m.toCom.met hv) p.hx p.x0 (show s1.num x≠0 by rw[m.numx]; omega)
   obtain⟨new2,bs2,c2⟩:=ih _ _ _ _ ps om
   exact xT hsort p m hi hiL hb hy c2 rfl
  ·rw[if_neg hy]
   by_cases hlt:s1.num (g.oth i x)<s1.num x
   ·rw[if_pos hlt]
    exact⟨_,_,xU p m hi hiL hb hy hlt⟩
   ·rw[if_neg hlt]
    refine⟨new,bs,oM m hi hy (.inr ⟨Decidable.byContradiction λhc=>?_,hy⟩)⟩
    have h1:=p.le (g.oth i x)
    rw[m.keep _ hc,m.numx] at hlt
    omega
theorem sub_unm {an:List Nat}{x:Nat}{by_:Option Nat}{s s1:DS}{L new:List Nat}{bs:List (List Nat)}{i:Nat} (p:Pre g an x by_ s) (m:Mid g x by_ s L s1 new bs):unm g { s1 with stk:=s1.stk++[i]}<unm g s :=
 yQ (λv hv=>m.toCom.met hv) p.hx p.x0 (show s1.num x≠0 by rw[m.numx]; omega)
end Go.Blk
namespace Go.Proofs.YtpeemonpdlifbaaGreat
open Go.Am
open Go.Blk (Gr DS upd)
def nI (l:List Nat):List Int:=l.map λi=>((i:Nat):Int)
def nL (l:List Nat):List AV:=l.map λi=>.int .i64 (i:Nat)
theorem jm (l:List Nat):(nI l).length=l.length:=by simp [nI]
theorem Kg (l:List Nat):(nI l).flatMap eI=nL l:=by
 induction l with
 | nil=>rfl
 | cons a l ih=>simp only[nI,nL,bA,fh] at *; rw[ih]; rfl
theorem Fu (l m:List Nat):nL (l++m)=nL l++nL m:=by simp [nL]
def Sep (v w:AV):Prop:=∀ b o n c o' n' c',v=.sl b o n c→w≠.sl b o' n' c'
theorem Sep.nill {v:AV}:Sep .nils v:=λ_ _ _ _ _ _ _ e=>by cases e
def Stk (h:AH) (lo:Nat) (v:AV) (l:List Nat):Prop :=
 (v=.nils∧l=[])∨∃ b c cs,lo≤b∧v=.sl b 0 l.length c∧h.get b=some (.cells cs 1 false)∧cs.length=c∧l.length≤c∧cs.take l.length=nL l
theorem Stk.cong {h h':AH}{lo:Nat}{v:AV}{l:List Nat} (hs:Stk h lo v l) (hk:∀ c,lo≤c→(∃ o n k,v=.sl c o n k)→h'.get c=h.get c):Stk h' lo v l:=by
 rcases hs with hs|⟨b,c,cs,h1,h2,h3,h4⟩
 ·exact .inl hs
 ·exact .inr ⟨b,c,cs,h1,h2,by rw[hk b h1 ⟨_,_,_,h2⟩]; exact h3,h4⟩
theorem Stk.lt {h:AH}{lo:Nat}{v:AV}{l:List Nat} (hs:Stk h lo v l) {b o n c:Nat} (e:v=.sl b o n c):b<h.next∧lo≤b:=by
 rcases hs with ⟨rfl,_⟩|⟨b',c',cs,h1,rfl,h3,_⟩
 ·cases e
 ·cases e; exact⟨AH.lt_of_get h3,h1⟩
theorem Stk.cells {h:AH}{lo:Nat}{v:AV}{l:List Nat} (hs:Stk h lo v l):v.cells=[v]∧v.one=true:=by
 rcases hs with ⟨rfl,_⟩|⟨b',c',cs,h1,rfl,h3,_⟩<;>exact⟨rfl,rfl⟩
theorem Stk.sl {h:AH}{lo:Nat}{v:AV}{l:List Nat} (hs:Stk h lo v l):SlI h v (nI l):=by
 rcases hs with ⟨rfl,rfl⟩|⟨b,c,cs,h1,rfl,h3,h4,h5,h6⟩
 ·exact .inl ⟨rfl,.inl rfl⟩
 ·refine .inr ⟨b,0,c,cs,false,by rw[ak,jm],h3,by rw[ak,jm]; exact h5,by rw[ak,jm]; omega,λi x hi=>?_⟩
  rw[aG] at hi
  obtain⟨y,hy,rfl⟩:=aD.1 hi
  have hil:i<l.length:=by have:=(aK.1 hy).1; rwa [jm] at this
  have e1:(cs.take l.length)[i]?=some (.int .i64 y):=by
   rw[h6]
   unfold nL
   unfold nI at hy
   rw[aG] at hy ⊢
   obtain⟨z,hz,rfl⟩:=aD.1 hy
   rw[hz]
   rfl
  rw[cQ,if_pos hil] at e1
  obtain⟨h7,h8⟩:=aK.1 e1
  refine⟨om,?_⟩
  rw[bM,aO,bX h7,h8]
  rfl
theorem Stk.push {h:AH}{lo:Nat}{v:AV}{l:List Nat} (hs:Stk h lo v l) (i:Nat) (hlo:lo≤h.next) (hl:l.length<2 ^ 34) :
 ∃ v' h',ja (h.new (.cells [.int .i64 (i:Nat)] 1 false)) 1 8 v (.sl h.next 0 1 1)=some (v',h')∧Stk h' lo v' (l++[i])∧h.next≤h'.next∧(∀ c,c<h.next→(∀ o n k,v≠.sl c o n k)→h'.get c=h.get c)∧(∀ c,h'.tyOf c=h.tyOf c) ∧
   ∀ w,(∀ b o n c,w=.sl b o n c→b<h.next)→Sep w v→Sep w v':=by
 have hx:(h.new (.cells [.int .i64 (i:Nat)] 1 false)).get h.next=some (.cells [.int .i64 (i:Nat)] 1 false):=by rw[AH.get_new,if_pos rfl]
 have hg:∀ c,c<h.next→(h.new (.cells [.int .i64 (i:Nat)] 1 false)).get c=h.get c:=λc hc=>by rw[AH.get_new,if_neg om]
 have hn:(h.new (.cells [.int .i64 (i:Nat)] 1 false)).next=h.next+1:=rfl
 have ht:∀ c,(h.new (.cells [.int .i64 (i:Nat)] 1 false)).tyOf c=h.tyOf c:=λ_=>rfl
 generalize h.new (.cells [.int .i64 (i:Nat)] 1 false)=h1 at *
 have hr:ar h1 h.next 0 (1*1)=some [.int .i64 (i:Nat)]:=by rw[bg hx]; rfl
 have ho:([.int .i64 (i:Nat)]:List AV).all AV.one=true:=rfl
 rcases hs with ⟨rfl,rfl⟩|⟨b,c,cs,k1,rfl,k3,k4,k5,k6⟩
 ·refine⟨.sl h1.next 0 1 1,h1.new (.cells [.int .i64 (i:Nat)] 1 false),?_,.inr ⟨h1.next,1,_,om,rfl,by rw[AH.get_new,if_pos rfl],rfl,ae _,rfl⟩,by rw[AH.next_new]; omega,λc hc _=>by rw[AH.get_new,if_neg om,hg c hc],λc=>ht c,λw hw _ b o n c o' n' c' e1 e2=>?_⟩
  ·simp only[ja,eW,hr,aH,ho,if_true,jG,if_false]
   rw[if_pos ⟨by unfold be; omega,by unfold be; omega⟩]
  ·have:=hw b o n c e1
   cases e2
   omega
 ·have hb:=AH.lt_of_get k3
  have k3':h1.get b=some (.cells cs 1 false):=by rw[hg b hb]; exact k3
  by_cases hc:l.length+1≤c
  ·have hw:=gv (v:=.int .i64 (i:Nat)) k3' (i:=l.length) om
   have u:=LA (o:=.cells (cs.set l.length (.int .i64 (i:Nat))) 1 false) k3'
   refine⟨.sl b 0 (l.length+1) c,h1.put b (.cells (cs.set l.length (.int .i64 (i:Nat))) 1 false),?_,.inr ⟨b,c,_,k1,by rw[aI]; rfl,u.get,by rw[bE]; exact k4,by rw[aI]; exact hc,?_⟩,by rw[u.nx]; omega,λc' hc' hne=>?_,λc'=>(u.ty c').trans (ht c'),λw _ hs b1 o n c1 o' n' c' e1 e2=>?_⟩
   ·simp only[ja,eW,hr,aH,ho,if_true,jG,if_false,if_pos hc,bM,aO,hw]
   ·rw[aI,aw,aP,Fu,← k6]
    refine et λj=>?_
    rw[cQ,cZ,List.getElem?_append,bS,dZ om,cQ]
    by_cases q:j<l.length
    ·rw[if_pos om,if_neg om,if_pos q,if_pos q]
    ·by_cases q2:j=l.length
     ·subst q2
      rw[if_pos om,if_pos rfl,if_pos om,if_neg om,eO]
      rfl
     ·rw[if_neg om,if_neg q,cx (by simp [nL]; omega)]
   ·rw[u.ne (λe=>hne 0 l.length c (by rw[e])),hg _ hc']
   ·cases e2
    exact hs b o n c1 _ _ _ e1 rfl
  ·have hcl:c=l.length:=om
   have hcs:cs=nL l:=by rw[← k6,de om]
   have hr2:ar h1 b 0 (l.length*1)=some cs:=by
    rw[bg k3',if_pos om,bJ,de om]
   refine⟨.sl h1.next 0 (l.length+1) (l.length+1),(h1.put b .dead).new (.cells (cs++[.int .i64 (i:Nat)]) 1 false),?_,.inr ⟨h1.next,l.length+1,_,om,by rw[aI]; rfl,by rw[AH.get_new,AH.next_put,if_pos rfl],by rw[aI,k4,hcl]; rfl,by rw[aI]; exact ae _,?_⟩,by rw[AH.next_new,AH.next_put]; omega,λc' hc' hne=>?_,λc'=>ht c',λw hw _ b1 o n c1 o' n' c' e1 e2=>?_⟩
   ·simp only[ja,eW,hr,aH,ho,if_true,jG,if_false]
    rw[if_neg hc,if_pos ⟨by unfold be; omega,by unfold be; omega⟩,k3',hr2]
    simp only[if_true]
   ·rw[Fu,← hcs,de (by rw[aI,aI,k4,hcl]; exact ae _)]
    rfl
   ·rw[AH.get_new,AH.next_put,if_neg om,AH.get_put _ _ _ _ om,if_neg (λe=>hne 0 l.length c (by rw[e])),hg _ hc']
   ·have:=hw b1 o n c1 e1
    cases e2
    omega
theorem Stk.cut {h:AH}{lo:Nat}{v:AV}{l:List Nat} (hs:Stk h lo v l) {k:Nat} (hk:k≤l.length) :
 ∃ v',slV h 1 v none (some (.int .i64 (k:Nat))) none=some v'∧Stk h lo v' (l.take k)∧(∀ w,Sep w v→Sep w v')∧∀ c,(∃ o n k,v'=.sl c o n k)→∃ o n k,v=.sl c o n k:=by
 rcases hs with ⟨rfl,rfl⟩|⟨b,c,cs,k1,rfl,k3,k4,k5,k6⟩
 ·have:k=0:=by simpa using hk
  subst this
  exact⟨.nils,rfl,.inl ⟨rfl,rfl⟩,λ_ q=>q,λ_ q=>q⟩
 ·have hb:=jA (k:=.i64) (show k≤c by omega)
  refine⟨.sl b 0 k c,?_,.inr ⟨b,c,cs,k1,by rw[bS,dZ hk],k3,k4,by rw[bS]; omega,?_⟩,λw hs b1 o n c1 o' n' c' e1 e2=>?_,λc' ⟨o,n,k',e⟩=>?_⟩
  ·simp only[slV,k3,if_true,tB,hb,aH,nq,dh,Nat.sub_zero,ite_self]
  ·rw[bS,dZ hk]
   have:cs.take k=(cs.take l.length).take k:=by rw[wO,dZ hk]
   rw[this,k6]
   unfold nL
   rw[fP]
  ·cases e2
   exact hs b o n c1 _ _ _ e1 rfl
  ·cases e
   exact⟨_,_,_,rfl⟩
def dB (E:List (Int×Int)) (x:Nat):List Nat:=(List.range E.length).filter λi=>decide (tlE E i=x)||decide (hdE E i=x)
theorem yu {n:Nat}{E:List (Int×Int)} (hE:InG n E) (hl:∀ i,i<E.length→tlE E i≠hdE E i):∀ x,x<(grE n E hE hl).n→(dB E x).Nodup∧∀ i,i∈dB E x↔(grE n E hE hl).inc i x:=λx _=>by
 refine⟨List.nodup_range.filter _,λi=>?_⟩
 unfold dB
 rw[aS,ao,bN,aA,aA]
 rfl
def SS (sp nb lb:Nat) (c:Nat):Prop:=c=sp∨c=nb∨c=lb
structure Sta (h0:AH) (sp eb nb lb n:Nat) (ev:AV) (E:List (Int×Int)):Prop where
 he:SlE h0 ev E
 oe:Off (SS sp nb lb) ev
 ge:∃ es,h0.get eb=some (.cells es 1 false)∧es.length=n∧∀ (x:Nat) (v:AV),es[x]?=some v→SlI h0 v (nI (dB E x))∧Off (SS sp nb lb) v
 ne:eb≠sp∧eb≠nb∧eb≠lb∧nb≠sp∧nb≠lb∧lb≠sp
 lt:sp<h0.next∧nb<h0.next∧lb<h0.next
structure Ser (h0 h:AH) (sp eb nb lb n:Nat) (ev:AV) (s:DS) (stv blv:AV) (bs:List AV):Prop where
 kp:Kp (SS sp nb lb) h0 h
 cell:h.get sp=some (.cells [.int .i64 (n:Nat),ev,.sl eb 0 n n,.sl nb 0 n n,.sl lb 0 n n,.int .i64 (s.cnt:Nat),stv,blv] 8 false)
 gn:h.get nb=some (.cells (il n λv=>((s.num v:Nat):Int)) 1 false)
 gl:h.get lb=some (.cells (il n λv=>((s.low v:Nat):Int)) 1 false)
 st:Stk h h0.next stv s.stk
 bl:IsSl h 1 h0.next blv bs
 rl:bs.length=s.blk.length
 rw:∀ (j:Nat) (v:AV) (l:List Nat),bs[j]?=some v→s.blk[j]?=some l→IsSl h 1 h0.next v (nL l)∧Sep v stv∧Sep v blv
 sb:Sep blv stv
section
variable {h0 h:AH}{sp eb nb lb n:Nat}{ev:AV}{E:List (Int×Int)}{s:DS}{stv blv:AV}{bs:List AV}
theorem Sta.edges (t:Sta h0 sp eb nb lb n ev E) (kp:Kp (SS sp nb lb) h0 h):SlE h ev E:=t.he.kp kp t.oe
theorem Sta.row (t:Sta h0 sp eb nb lb n ev E) (kp:Kp (SS sp nb lb) h0 h) {x:Nat} (hx:x<n):∃ v,ar h eb x 1=some [v]∧SlI h v (nI (dB E x))∧Off (SS sp nb lb) v∧SlI h0 v (nI (dB E x)):=by
 obtain⟨es,g,l,r⟩:=t.ge
 obtain⟨n1,n2,n3,_⟩:=t.ne
 have hv:es[x]?=some es[x]:=ah om
 obtain⟨r1,r2⟩:=r x _ hv
 have g':h.get eb=some (.cells es 1 false):=by
  rw[kp.gt eb (AH.lt_of_get g) (by rintro (e|e|e); exact n1 e; exact n2 e; exact n3 e)]; exact g
 exact⟨_,bq g' hv,r1.kp kp r2,r2,r1⟩
theorem Ser.wr (r:Ser h0 h sp eb nb lb n ev s stv blv bs) {h':AH}{c:Nat}{o:AO} (u:Upd h h' c o) (hc:SS sp nb lb c) (hl:c<h0.next):Kp (SS sp nb lb) h0 h'∧Stk h' h0.next stv s.stk∧IsSl h' 1 h0.next blv bs ∧
 ∀ (j:Nat) (v:AV) (l:List Nat),bs[j]?=some v→s.blk[j]?=some l→IsSl h' 1 h0.next v (nL l)∧Sep v stv∧Sep v blv :=
 ⟨r.kp.trans (u.kp hc) λ_ _ q=>q,r.st.cong λc' hc' _=>u.ne om,r.bl.upd u om,λj v l a b=>⟨(r.rw j v l a b).1.upd u om,(r.rw j v l a b).2⟩⟩
theorem Ser.setCnt (t:Sta h0 sp eb nb lb n ev E) (r:Ser h0 h sp eb nb lb n ev s stv blv bs) (k:Nat):∃ h',bZ h sp 5 [.int .i64 (k:Nat)]=some h'∧Ser h0 h' sp eb nb lb n ev { s with cnt:=k} stv blv bs:=by
 obtain⟨n1,n2,n3,n4,n5,n6⟩:=t.ne
 have w:=gv (v:=.int .i64 (k:Nat)) r.cell (i:=5) (by simp)
 change bZ h sp 5 [.int .i64 (k:Nat)]=some (h.put sp (.cells [.int .i64 (n:Nat),ev,.sl eb 0 n n,.sl nb 0 n n,.sl lb 0 n n,.int .i64 (k:Nat),stv,blv] 8 false)) at w
 have u:=LA (o:=.cells [.int .i64 (n:Nat),ev,.sl eb 0 n n,.sl nb 0 n n,.sl lb 0 n n,.int .i64 (k:Nat),stv,blv] 8 false) r.cell
 obtain⟨a1,a2,a3,a4⟩:=r.wr u (.inl rfl) t.lt.1
 exact⟨_,w,{ kp:=a1,cell:=u.get,gn:=by rw[u.ne n4]; exact r.gn,gl:=by rw[u.ne n6]; exact r.gl,st:=a2,bl:=a3,rl:=r.rl,rw:=a4,sb:=r.sb}⟩
theorem FR {f:Nat→Nat}{x k:Nat}:(il n λv=>((f v:Nat):Int)).set x (.int .i64 (k:Nat))=il n λv=>((upd f x k v:Nat):Int):=by
 rw[Lc]
 refine FS λi _=>?_
 by_cases e:i=x
 ·subst e; rw[if_pos rfl,Go.Blk.upd_same]
 ·rw[if_neg e,Go.Blk.upd_ne e]
theorem Ser.setNum (t:Sta h0 sp eb nb lb n ev E) (r:Ser h0 h sp eb nb lb n ev s stv blv bs) {x:Nat} (hx:x<n) (k:Nat):∃ h',bZ h nb x [.int .i64 (k:Nat)]=some h'∧Ser h0 h' sp eb nb lb n ev { s with num:=upd s.num x k} stv blv bs:=by
 obtain⟨n1,n2,n3,n4,n5,n6⟩:=t.ne
 have w:=gv (v:=.int .i64 (k:Nat)) r.gn (i:=x) (by rw[sg]; exact hx)
 rw[FR] at w
 have u:=LA (o:=.cells (il n λv=>((upd s.num x k v:Nat):Int)) 1 false) r.gn
 obtain⟨a1,a2,a3,a4⟩:=r.wr u (.inr (.inl rfl)) t.lt.2.1
 exact⟨_,w,{ kp:=a1,cell:=by rw[u.ne (Ne.symm n4)]; exact r.cell,gn:=u.get,gl:=by rw[u.ne (Ne.symm n5)]; exact r.gl,st:=a2,bl:=a3,rl:=r.rl,rw:=a4,sb:=r.sb}⟩
theorem Ser.setLow (t:Sta h0 sp eb nb lb n ev E) (r:Ser h0 h sp eb nb lb n ev s stv blv bs) {x:Nat} (hx:x<n) (k:Nat):∃ h',bZ h lb x [.int .i64 (k:Nat)]=some h'∧Ser h0 h' sp eb nb lb n ev { s with low:=upd s.low x k} stv blv bs:=by
 obtain⟨n1,n2,n3,n4,n5,n6⟩:=t.ne
 have w:=gv (v:=.int .i64 (k:Nat)) r.gl (i:=x) (by rw[sg]; exact hx)
 rw[FR] at w
 have u:=LA (o:=.cells (il n λv=>((upd s.low x k v:Nat):Int)) 1 false) r.gl
 obtain⟨a1,a2,a3,a4⟩:=r.wr u (.inr (.inr rfl)) t.lt.2.2
 exact⟨_,w,{ kp:=a1,cell:=by rw[u.ne (Ne.symm n6)]; exact r.cell,gn:=by rw[u.ne n5]; exact r.gn,gl:=u.get,st:=a2,bl:=a3,rl:=r.rl,rw:=a4,sb:=r.sb}⟩
theorem Ser.setStk (t:Sta h0 sp eb nb lb n ev E) (r:Ser h0 h sp eb nb lb n ev s stv blv bs) {h1:AH}{v':AV}{l:List Nat} (hn:h.next≤h1.next) (hk:∀ c,c<h.next→(∀ o n k,stv≠.sl c o n k)→h1.get c=h.get c) (ht:∀ c,h1.tyOf c=h.tyOf c) (hs:Stk h1 h0.next v' l)
 (hsep:∀ w,(∀ b o n c,w=.sl b o n c→b<h.next)→Sep w stv→Sep w v'):∃ h2,bZ h1 sp 6 [v']=some h2∧Ser h0 h2 sp eb nb lb n ev { s with stk:=l} v' blv bs:=by
 obtain⟨n1,n2,n3,n4,n5,n6⟩:=t.ne
 obtain⟨l1,l2,l3⟩:=t.lt
 have hnx:=r.kp.nx
 have low:∀ c,c<h0.next→h1.get c=h.get c:=λc hc=>hk c om λo n k e=>by have:=(r.st.lt e).2; omega
 have c1:h1.get sp=some (.cells [.int .i64 (n:Nat),ev,.sl eb 0 n n,.sl nb 0 n n,.sl lb 0 n n,.int .i64 (s.cnt:Nat),stv,blv] 8 false):=by rw[low sp l1]; exact r.cell
 have w:=gv (v:=v') c1 (i:=6) (by simp)
 change bZ h1 sp 6 [v']=some (h1.put sp (.cells [.int .i64 (n:Nat),ev,.sl eb 0 n n,.sl nb 0 n n,.sl lb 0 n n,.int .i64 (s.cnt:Nat),v',blv] 8 false)) at w
 have u:=LA (o:=.cells [.int .i64 (n:Nat),ev,.sl eb 0 n n,.sl nb 0 n n,.sl lb 0 n n,.int .i64 (s.cnt:Nat),v',blv] 8 false) c1
 have kp1:Kp (SS sp nb lb) h0 h1:=⟨om,λc hc hn'=>by rw[low c hc]; exact r.kp.gt c hc hn',λc hc=>(ht c).trans (r.kp.ty c hc)⟩
 have keep:∀ {w cs},IsSl h 1 h0.next w cs→Sep w stv→IsSl h1 1 h0.next w cs:=fun {w cs} q hsw=>q.cong λb m e hb=>hk b (q.lt e) λo n' k e2=>hsw b 0 m m o n' k e e2
 refine⟨_,w,{ kp:=kp1.trans (u.kp (.inl rfl)) λ_ _ q=>q,cell:=u.get,gn:=by rw[u.ne n4,low nb l2]; exact r.gn,gl:=by rw[u.ne n6,low lb l3]; exact r.gl,st:=hs.cong λc hc _=>u.ne om,bl:=(keep r.bl r.sb).upd u om,rl:=r.rl,rw:=λj v q a b=>?_,sb:=hsep _ (λb o n' c e=>r.bl.lt e) r.sb}⟩
 obtain⟨a1,a2,a3⟩:=r.rw j v q a b
 exact⟨(keep a1 a2).upd u om,hsep _ (λb o n' c e=>a1.lt e) a2,a3⟩
theorem Ser.push (t:Sta h0 sp eb nb lb n ev E) (r:Ser h0 h sp eb nb lb n ev s stv blv bs) (i:Nat) (hl:s.stk.length<2 ^ 34) :
 ∃ v' h1 h2,ja (h.new (.cells [.int .i64 (i:Nat)] 1 false)) 1 8 stv (.sl h.next 0 1 1)=some (v',h1)∧v'.cells=[v']∧v'.one=true∧bZ h1 sp 6 [v']=some h2∧Ser h0 h2 sp eb nb lb n ev { s with stk:=s.stk++[i]} v' blv bs:=by
 obtain⟨v',h1,a1,a2,a3,a4,a5,a6⟩:=r.st.push i r.kp.nx hl
 obtain⟨h2,b1,b2⟩:=r.setStk t a3 a4 a5 a2 a6
 exact⟨v',h1,h2,a1,a2.cells.1,a2.cells.2,b1,b2⟩
end
end Go.Proofs.YtpeemonpdlifbaaGreat
