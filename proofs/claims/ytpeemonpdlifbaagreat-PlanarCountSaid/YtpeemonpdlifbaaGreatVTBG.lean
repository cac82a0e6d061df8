/- The turns of all blocks, put behind one another around each -/
import Derived.Test.YtpeemonpdlifbaaGreatVTAM
import Derived.Test.YtpeemonpdlifbaaGreatVTAK
import Derived.Test.YtpeemonpdlifbaaGreatVTBF
set_option linter.all false
namespace Go.Pla
section
open Go.Blk
structure Trs (g:Gr) (nx bl:Nat→Nat):Prop where
 lt:∀ d,d<2*g.m→nx d<2*g.m
 inj:∀ a b,a<2*g.m→b<2*g.m→nx a=nx b→a=b
 nen:∀ d,d<2*g.m→en g (nx d)=en g d
 bm:∀ e,e<g.m→bl e<g.m
 blk:∀ d,d<2*g.m→bl (nx d / 2)=bl (d / 2)
 ev:∀ X,Even g (List.range g.m) X→∀ i,Even g (List.range g.m) (λe=>X e&&(bl e==i))
 bond:∀ i,Bond g ((List.range g.m).filter λe=>bl e==i)
 cut:∀ X,Even g (List.range g.m) X→∃ S:Nat→Bool,(∀ e,e<g.m→X e=(S (2*e) ^^ S (2*e+1)))∧∀ d,d<2*g.m→S (nx d)=S (fl d)
variable {g:Gr}{nx bl:Nat→Nat}
def dv (g:Gr) (v e:Nat):Nat:=if g.tl e=v then 2*e else 2*e+1
theorem Kl {d:Nat} (hd:d<2*g.m):dv g (en g d) (d / 2)=d:=by
 have hok:=g.ok (d / 2) om
 unfold dv en
 by_cases h:d % 2=0
 ·rw[if_pos h,if_pos rfl]; omega
 ·rw[if_neg h,if_neg hok.2.2]; omega
theorem Trs.keepEn (t:Trs g nx bl) {a b:Nat} (ha:a<2*g.m) (h:Ob nx a b):en g b=en g a∧bl (b / 2)=bl (a / 2) :=
 Ob.keep (N:=2*g.m) (P:=λz=>en g z=en g a∧bl (z / 2)=bl (a / 2)) t.lt (λd hd q=>⟨(t.nen d hd).trans q.1,(t.blk d hd).trans q.2⟩) ha h ⟨rfl,rfl⟩
open Classical in
theorem Trs.one (t:Trs g nx bl) {a b:Nat} (ha:a<2*g.m) (hb:b<2*g.m) (he:en g a=en g b) (hbl:bl (a / 2)=bl (b / 2)):Ob nx a b:=by
 obtain⟨p,hp⟩:∃ p:Nat→Bool,∀ d,p d=true↔Ob nx a d:=⟨λd=>decide (Ob nx a d),λd=>decide_eq_true_iff⟩
 have hpn:∀ d,d<2*g.m→p (nx d)=p d:=λd hd=>by
  rw[cW,hp,hp]
  exact⟨λq=>q.trans (Ob.back t.lt t.inj hd),λq=>q.trans Ob.step⟩
 have key:=mN (B:=(List.range g.m).filter λe=>bl e==bl (a / 2)) (Y:=λe=>p (dv g (en g a) e)) (v:=en g a) (List.nodup_range.filter _) (t.bond _) (λX hX=>?_) (e:=a / 2) (k:=b / 2)
  (by rw[aS,ao]; exact⟨om,by simp⟩) (by rw[aS,ao]; exact⟨om,by simp [hbl]⟩) ?_ ?_
 ·have h1:p (dv g (en g a) (a / 2))=true:=by rw[Kl ha,hp]; exact Ob.refl
  have h2:dv g (en g a) (b / 2)=b:=by rw[he]; exact Kl hb
  have key:p (dv g (en g a) (a / 2))=p (dv g (en g a) (b / 2)):=key
  rw[h1,h2] at key
  exact (hp b).1 key.symm
 ·
  have hX':Even g (List.range g.m) (λe=>X e&&(bl e==bl (a / 2))):=by
   refine (even_sub (A:=List.range g.m) aQ (List.nodup_range.filter _) (λe he=>(aS.1 he).1) (λe he hn=>?_)).2 (hX.congr λe he=>?_)
   ·rw[aS] at hn
    cases hq:bl e==bl (a / 2)
    ·simp
    ·exact absurd ⟨he,hq⟩ hn
   ·rw[(aS.1 he).2,eN]
  obtain⟨S,s1,s2⟩:=t.cut _ hX'
  rw[lA]
  have e1:par (List.range g.m) (λe=>(bl e==bl (a / 2))&&(X e&&(p (dv g (en g a) e)&&at_ g e (en g a))))=par (List.range (2*g.m)) (λd=>(en g d==en g a)&&(p d&&(S d ^^ S (fl d)))):=by
   rw[rQ]
   refine par_congr λe he=>?_
   have he:=ao.1 he
   have hok:=g.ok e he
   have hx:=s1 e he
   have f1:fl (2*e)=2*e+1:=by unfold fl; rw[if_pos om]
   have f2:fl (2*e+1)=2*e:=by unfold fl; rw[if_neg om]; omega
   rw[f1,f2,en_ev.1,en_ev.2]
   unfold at_ dv
   by_cases q1:g.tl e=en g a
   ·have q2:(g.hd e==en g a)=false:=by rw[beq_eq_false_iff_ne]; exact λh=>hok.2.2 (q1.trans h.symm)
    have q3:(g.tl e==en g a)=true:=by rw[beq_iff_eq]; exact q1
    rw[if_pos q1,q2,q3]
    revert hx
    cases X e<;>cases bl e==bl (a / 2)<;>cases S (2*e)<;>cases S (2*e+1)<;>cases p (2*e)<;>simp
   ·have q3:(g.tl e==en g a)=false:=by rw[beq_eq_false_iff_ne]; exact q1
    rw[if_neg q1,q3]
    revert hx
    cases X e<;>cases bl e==bl (a / 2)<;>cases S (2*e)<;>cases S (2*e+1)<;>cases p (2*e+1)<;>cases g.hd e==en g a<;>simp
  rw[e1]
  have e2:∀ d∈List.range (2*g.m),((en g d==en g a)&&(p d&&(S d ^^ S (fl d))))=(((en g d==en g a)&&(p d&&S d)) ^^ ((en g (nx d)==en g a)&&(p (nx d)&&S (nx d)))):=λd hd=>by
   have hd:=ao.1 hd
   rw[t.nen d hd,hpn d hd,s2 d hd]
   cases en g d==en g a<;>cases p d<;>cases S d<;>cases S (fl d)<;>rfl
  rw[par_congr e2,df,← oC (f:=nx) (q:=λd=>(en g d==en g a)&&(p d&&S d)),rP (AQ t.lt t.inj)]
  simp
 ·have hok:=g.ok (a / 2) om
  rw[at_inc om]
  refine⟨om,?_⟩
  unfold en
  by_cases h:a % 2=0
  ·rw[if_pos h]; exact .inl rfl
  ·rw[if_neg h]; exact .inr rfl
 ·rw[he,at_inc om]
  refine⟨om,?_⟩
  unfold en
  by_cases h:b % 2=0
  ·rw[if_pos h]; exact .inl rfl
  ·rw[if_neg h]; exact .inr rfl
theorem cob {s:Nat→Bool} (h:∀ X,Even g (List.range g.m) X→par (List.range g.m) (λe=>X e&&s e)=false):∃ c:Nat→Bool,∀ e,e<g.m→s e=(c (g.tl e) ^^ c (g.hd e)):=by
 have E:=jV (g:=g) (k:=g.m) (ae _)
 have hr:∀ v,∃ r,v<g.n→r≤v∧comp g g.m r v∧∀ k,k<r→¬ comp g g.m k v:=λv=>by
  by_cases hv:v<g.n
  ·obtain⟨r,h1,h2,h3⟩:=xZ (P:=λy=>comp g g.m y v) (q:=v) (E.rf v hv)
   exact⟨r,λ_=>⟨h1,h2,h3⟩⟩
  ·exact⟨0,λh=>absurd h hv⟩
 obtain⟨r,hr⟩:=Classical.axiomOfChoice hr
 have hY:∀ v,∃ Y:Nat→Bool,v<g.n→∀ w,par (List.range g.m) (λe=>Y e&&at_ g e w)=((r v==w) ^^ (v==w)):=λv=>by
  by_cases hv:v<g.n
  ·obtain⟨Y,hY⟩:=sI (g:=g) (k:=g.m) (ae _) (hr v hv).2.1
   exact⟨Y,λ_=>hY⟩
  ·exact⟨λ_=>false,λh=>absurd h hv⟩
 obtain⟨Y,hY⟩:=Classical.axiomOfChoice hY
 refine⟨λv=>par (List.range g.m) (λe=>Y v e&&s e),λe0 he0=>?_⟩
 have hok:=g.ok e0 he0
 have hc:=jE (g:=g) (ae _) he0
 have hrr:r (g.tl e0)=r (g.hd e0):=by
  obtain⟨a1,a2,a3⟩:=hr _ hok.1
  obtain⟨b1,b2,b3⟩:=hr _ hok.2.1
  have h1:¬ r (g.hd e0)<r (g.tl e0):=λq=>a3 _ q (E.tr _ _ _ om hok.2.1 hok.1 b2 (E.sm _ _ hok.1 hok.2.1 hc))
  have h2:¬ r (g.tl e0)<r (g.hd e0):=λq=>b3 _ q (E.tr _ _ _ om hok.1 hok.2.1 a2 hc)
  omega
 have hX:Even g (List.range g.m) (λe=>(Y (g.tl e0) e ^^ Y (g.hd e0) e) ^^ (e==e0)):=λw=>by
  rw[par_congr (q:=λe=>((Y (g.tl e0) e&&at_ g e w) ^^ (Y (g.hd e0) e&&at_ g e w)) ^^ ((e==e0)&&at_ g e w)) (λe _=>by show (((Y (g.tl e0) e ^^ Y (g.hd e0) e) ^^ (e==e0))&&at_ g e w)=_; cases Y (g.tl e0) e<;>cases Y (g.hd e0) e<;>cases e==e0<;>cases at_ g e w<;>rfl),df,df,hY _ hok.1,hY _ hok.2.1,cY aQ (ao.2 he0),hrr]
  unfold at_
  cases r (g.hd e0)==w<;>cases g.tl e0==w<;>cases g.hd e0==w<;>rfl
 have:=h _ hX
 rw[par_congr (q:=λe=>((Y (g.tl e0) e&&s e) ^^ (Y (g.hd e0) e&&s e)) ^^ ((e==e0)&&s e)) (λe _=>by show (((Y (g.tl e0) e ^^ Y (g.hd e0) e) ^^ (e==e0))&&s e)=_; cases Y (g.tl e0) e<;>cases Y (g.hd e0) e<;>cases e==e0<;>cases s e<;>rfl),df,df,cY aQ (ao.2 he0)] at this
 show s e0=(par _ _ ^^ par _ _)
 revert this
 cases par (List.range g.m) (λe=>Y (g.tl e0) e&&s e)<;>cases par (List.range g.m) (λe=>Y (g.hd e0) e&&s e)<;>cases s e0<;>simp
theorem Gk (t:Trs g nx bl) {σ:Nat→Nat} (hσ:∀ d,d<2*g.m→σ d<2*g.m∧en g (σ d)=en g d) {Fs:Nat→Prop} (hF:∀ d,d<2*g.m→σ d=nx d∨(Fs (nx d)∧Fs (σ d)))
 (hU:∀ f f',f<2*g.m→f'<2*g.m→Fs f→Fs f'→en g f=en g f'→Ob nx f f'→f=f') (hE:∀ d,d<2*g.m→∃ f,f<2*g.m∧Fs f∧Ob nx f d):Cuts g σ g.m:=λX hX=>by
 obtain⟨S,s1,s2⟩:=t.cut X hX
 have hfe:∀ d,∃ f,d<2*g.m→f<2*g.m∧Fs f∧Ob nx f d:=λd=>by
  by_cases hd:d<2*g.m
  ·obtain⟨f,h⟩:=hE d hd
   exact⟨f,λ_=>h⟩
  ·exact⟨0,λh=>absurd h hd⟩
 obtain⟨fo,hfo⟩:=Classical.axiomOfChoice hfe
 have hfu:∀ d d',d<2*g.m→d'<2*g.m→en g d=en g d'→bl (d / 2)=bl (d' / 2)→fo d=fo d':=λd d' hd hd' h1 h2=>by
  obtain⟨a1,a2,a3⟩:=hfo d hd
  obtain⟨b1,b2,b3⟩:=hfo d' hd'
  have k1:=t.keepEn a1 a3
  have k2:=t.keepEn b1 b3
  have he:en g (fo d)=en g (fo d'):=by rw[← k1.1,← k2.1,h1]
  exact hU _ _ a1 b1 a2 b2 he (t.one a1 b1 he (by rw[← k1.2,← k2.2,h2]))
 have hff:∀ f,f<2*g.m→Fs f→fo f=f:=λf hf hfs=>by
  obtain⟨a1,a2,a3⟩:=hfo f hf
  exact hU _ _ a1 hf a2 hfs (t.keepEn a1 a3).1.symm a3
 obtain⟨q,hq⟩:∃ q:Nat→Bool,∀ d,q d=S (fo d):=⟨λd=>S (fo d),λ_=>rfl⟩
 have hqu:∀ d d',d<2*g.m→d'<2*g.m→en g d=en g d'→bl (d / 2)=bl (d' / 2)→q d=q d':=λd d' hd hd' h1 h2=>by rw[hq,hq,hfu d d' hd hd' h1 h2]
 have hK:∀ i:Nat,∃ K:Nat→Bool,∀ d,d<2*g.m→bl (d / 2)=i→q d=K (en g d):=λi=>by
  classical
  refine⟨λv=>decide (∃ d,d<2*g.m∧bl (d / 2)=i∧en g d=v∧q d=true),λd hd hb=>?_⟩
  rw[cW,aA]
  constructor
  ·intro h; exact⟨d,hd,hb,rfl,h⟩
  ·rintro⟨d',h1,h2,h3,h4⟩
   rw[hqu d d' hd h1 h3.symm (hb.trans h2.symm)]; exact h4
 obtain⟨K,hK⟩:=Classical.axiomOfChoice hK
 have hKe:∀ e,e<g.m→(q (2*e) ^^ q (2*e+1))=(K (bl e) (g.tl e) ^^ K (bl e) (g.hd e)):=λe he=>by
  rw[hK (bl e) (2*e) om (by rw[show 2*e / 2=e by omega]),hK (bl e) (2*e+1) om (by rw[show (2*e+1) / 2=e by omega]),en_ev.1,en_ev.2]
 obtain⟨c,hc⟩:=cob (g:=g) (s:=λe=>q (2*e) ^^ q (2*e+1)) λZ hZ=>by
  have e1:par (List.range g.m) (λe=>Z e&&(q (2*e) ^^ q (2*e+1)))=par (List.range g.m) (λe=>par (List.range g.m) (λi=>(i==bl e)&&((Z e&&(bl e==i))&&(K i (g.tl e) ^^ K i (g.hd e))))):=par_congr λe he=>by
   have he:=ao.1 he
   rw[cY (p:=λi=>(Z e&&(bl e==i))&&(K i (g.tl e) ^^ K i (g.hd e))) aQ (ao.2 (t.bm e he)),hKe e he]
   simp
  rw[e1,gQ]
  refine dW λi _=>?_
  have:=Gv (B:=List.range g.m) (λe he=>ao.1 he) (t.ev Z hZ i) (K i)
  rw[← this]
  refine par_congr λe _=>?_
  by_cases h:bl e=i
  ·subst h; simp
  ·have h1:(bl e==i)=false:=by rw[beq_eq_false_iff_ne]; exact h
   rw[h1]; simp
 have hc':∀ e,e<g.m→(c (g.tl e) ^^ c (g.hd e))=(q (2*e) ^^ q (2*e+1)):=λe he=>(hc e he).symm
 refine⟨λd=>S d ^^ (c (en g d) ^^ q d),λd hd=>?_,λe he=>?_⟩
 ·have hd':fl d<2*g.m:=by have:=@fl_div d; omega
  have hph:ph σ g.m d=σ (fl d):=by unfold ph th; rw[if_pos om]
  rw[hph]
  have hcd:(c (en g d) ^^ q d)=(c (en g (fl d)) ^^ q (fl d)):=by
   have hh:=hc' (d / 2) om
   rcases nZ d with z|z
   ·obtain⟨e,rfl⟩:∃ e,d=2*e:=⟨d / 2,om⟩
    have f1:fl (2*e)=2*e+1:=by unfold fl; rw[if_pos om]
    rw[show 2*e / 2=e by omega] at hh
    rw[f1,en_ev.1,en_ev.2]
    revert hh
    cases c (g.tl e)<;>cases c (g.hd e)<;>cases q (2*e)<;>cases q (2*e+1)<;>simp
   ·obtain⟨e,rfl⟩:∃ e,d=2*e+1:=⟨d / 2,om⟩
    have f2:fl (2*e+1)=2*e:=by unfold fl; rw[if_neg om]; omega
    rw[show (2*e+1) / 2=e by omega] at hh
    rw[f2,en_ev.1,en_ev.2]
    revert hh
    cases c (g.tl e)<;>cases c (g.hd e)<;>cases q (2*e)<;>cases q (2*e+1)<;>simp
  have hSd:S d=S (nx (fl d)):=by
   rw[s2 (fl d) hd',fl_fl]
  obtain⟨hs1,hs2⟩:=hσ (fl d) hd'
  show (S (σ (fl d)) ^^ (c (en g (σ (fl d))) ^^ q (σ (fl d))))=(S d ^^ (c (en g d) ^^ q d))
  rw[hs2,hcd,hSd]
  have hqn:q (nx (fl d))=q (fl d):=hqu _ _ (t.lt _ hd') hd' (t.nen _ hd') (t.blk _ hd')
  rcases hF (fl d) hd' with h|⟨h1,h2⟩
  ·rw[h,hqn]
  ·have e1:q (nx (fl d))=S (nx (fl d)):=by rw[hq,hff _ (t.lt _ hd') h1]
   have e2:q (σ (fl d))=S (σ (fl d)):=by rw[hq,hff _ hs1 h2]
   rw[e2,← hqn,e1]
   cases S (σ (fl d))<;>cases S (nx (fl d))<;>cases c (en g (fl d))<;>rfl
 ·have hh:=hc' e he
  have hx:=s1 e he
  show X e=((S (2*e) ^^ (c (en g (2*e)) ^^ q (2*e))) ^^ (S (2*e+1) ^^ (c (en g (2*e+1)) ^^ q (2*e+1))))
  rw[en_ev.1,en_ev.2,hx]
  revert hh
  cases c (g.tl e)<;>cases c (g.hd e)<;>cases q (2*e)<;>cases q (2*e+1)<;>cases S (2*e)<;>cases S (2*e+1)<;>simp
end
section
open Go.Blk
theorem AU {nx:Nat→Nat}{f a b:Nat}:orb nx f (a+b)=orb nx f a++orb nx (it nx a f) b:=by
 induction b with
 | zero=>simp [orb]
 | succ b ih=>rw[← fN,orb_succ,orb_succ,ih,bP,sZ a b,mG]
theorem mC {nx:Nat→Nat}{d j:Nat}:orb nx d (j+1)=d::orb nx (nx d) j:=by
 rw[sZ,AU]
 rfl
theorem Bc {p s:List Nat}{d y:Nat} (nd:(p++d::y::s).Nodup):nxl (p++d::y::s) d=y:=by
 have hd:(p++d::y::s).getD p.length 0=d:=by rw[ai,aU (ae _)]; simp
 have hi:=mU nd (i:=p.length) (by simp)
 rw[hd] at hi
 unfold nxl
 rw[hi,bR (by simp),ai,aU om]
 simp
theorem Fo {p:List Nat}{d:Nat} (nd:(p++[d]).Nodup):nxl (p++[d]) d=(p++[d]).getD 0 0:=by
 have hd:(p++[d]).getD p.length 0=d:=by rw[ai,aU (ae _)]; simp
 have hi:=mU nd (i:=p.length) (by simp)
 rw[hd] at hi
 unfold nxl
 rw[hi,show (p++[d]).length=p.length+1 by simp,sY]
variable {g:Gr}{nx:Nat→Nat}{bk:Nat→Nat}
def rds (nx bk:Nat→Nat) (fs:List Nat):List Nat:=fs.flatMap λf=>orb nx f (bk f)
theorem vI {a b:List Nat}:rds nx bk (a++b)=rds nx bk a++rds nx bk b:=by simp [rds]
theorem kM {f:Nat}{b:List Nat}:rds nx bk (f::b)=orb nx f (bk f)++rds nx bk b:=by simp [rds]
theorem Iu {fs:List Nat} (hb:∀ f∈fs,Back nx f (bk f)) (nd:(rds nx bk fs).Nodup) {d:Nat} (hd:d∈rds nx bk fs):nxl (rds nx bk fs) d=nx d∨(nx d∈fs∧nxl (rds nx bk fs) d∈fs):=by
 obtain⟨f,hf,hd⟩:=dr.1 hd
 obtain⟨k,hk,rfl⟩:=orb_mem.1 hd
 obtain⟨a,b,rfl⟩:=bL hf
 have hbf:=hb f hf
 have e1:orb nx f (bk f)=orb nx f k++it nx k f::orb nx (nx (it nx k f)) (bk f-k-1):=by
  rw[← mC,← AU]; congr 1; omega
 rcases bU (k+1) (bk f) with q|q
 ·left
  have e2:bk f-k-1=(bk f-k-2)+1:=om
  have e3:rds nx bk (a++f::b)=(rds nx bk a++orb nx f k)++it nx k f::nx (it nx k f)::(orb nx (nx (nx (it nx k f))) (bk f-k-2)++rds nx bk b):=by
   rw[vI,kM,e1,e2,mC]
   simp
  rw[e3] at nd ⊢
  exact Bc nd
 ·right
  have hk1:k+1=bk f:=om
  have hn:nx (it nx k f)=f:=by
   have:it nx (k+1) f=f:=by rw[hk1]; exact hbf.2.1
   exact this
  have e2:bk f-k-1=0:=om
  have e3:rds nx bk (a++f::b)=(rds nx bk a++orb nx f k)++it nx k f::rds nx bk b:=by
   rw[vI,kM,e1,e2]
   simp [orb]
  refine⟨by rw[hn]; exact hf,?_⟩
  cases b with
  | nil =>
    have e4:rds nx bk (a++[f])=(rds nx bk a++orb nx f k)++[it nx k f]:=by rw[e3]; rfl
    rw[e4] at nd ⊢
    rw[Fo nd,← e4]
    cases a with
    | nil =>
      show (rds nx bk (f::[])).getD 0 0∈_
      rw[kM,show bk f=(bk f-1)+1 by have:=hbf.1; omega,mC]
      simp
    | cons f0 a =>
      have:=(hb f0 (by simp)).1
      rw[aE,kM,show bk f0=(bk f0-1)+1 by omega,mC]
      simp
  | cons f2 b =>
    have:=(hb f2 (by simp)).1
    have e4:rds nx bk (a++f::f2::b)=(rds nx bk a++orb nx f k)++it nx k f::f2::(orb nx (nx f2) (bk f2-1)++rds nx bk b):=by
     rw[e3,kM,show bk f2=(bk f2-1)+1 by omega,mC]
     simp
    rw[e4] at nd ⊢
    rw[Bc nd]
    simp
structure Rin (g:Gr) (nx bk:Nat→Nat) (out:List (List Nat)) (fs:Nat→List Nat):Prop where
 len:out.length=g.n
 row:∀ x,x<g.n→out.getD x []=rds nx bk (fs x)
 ok:∀ x,x<g.n→∀ f∈fs x,f<2*g.m∧en g f=x
 un:∀ x,x<g.n→(fs x).Pairwise λf f'=>¬ Ob nx f f'
theorem KP {N f d r:Nat} (hc:∀ d,d<N→nx d<N) (hf:f<N) (hb:Back nx f r) (h:Ob nx f d):d∈orb nx f r :=
 Ob.keep (N:=N) (P:=λz=>z∈orb nx f r) hc (λd _ q=>orb_nx hb q) hf h (orb_mem.2 ⟨0,hb.1,rfl⟩)
theorem Rin.step {out:List (List Nat)}{fs:Nat→List Nat} (R:Rin g nx bk out fs) (hc:∀ d,d<2*g.m→nx d<2*g.m) (hb:∀ d,d<2*g.m→Back nx d (bk d)) {d:Nat} (hd:d<2*g.m) :
 ∃ fs',Rin g nx bk (if d∈out.getD (en g d) [] then out else out.set (en g d) (out.getD (en g d) []++orb nx d (bk d))) fs'∧(∀ z,z<2*g.m→z∈out.getD (en g z) []→z∈(if d∈out.getD (en g d) [] then out else out.set (en g d) (out.getD (en g d) []++orb nx d (bk d))).getD (en g z) []) ∧
   d∈(if d∈out.getD (en g d) [] then out else out.set (en g d) (out.getD (en g d) []++orb nx d (bk d))).getD (en g d) []:=by
 have hx:=en_lt hd
 by_cases q:d∈out.getD (en g d) []
 ·rw[if_pos q]
  exact⟨fs,R,λz _ h=>h,q⟩
 ·rw[if_neg q]
  have hg:∀ y,(out.set (en g d) (out.getD (en g d) []++orb nx d (bk d))).getD y []=if y=en g d then out.getD (en g d) []++orb nx d (bk d) else out.getD y []:=λy=>by
   rw[ai,cZ]
   by_cases e:en g d=y
   ·rw[if_pos e,if_pos (by rw[R.len]; exact hx),if_pos e.symm]; rfl
   ·rw[if_neg e,if_neg (Ne.symm e),ai]
  refine⟨λy=>if y=en g d then fs y++[d] else fs y,⟨by rw[bE]; exact R.len,λy hy=>?_,λy hy f hf=>?_,λy hy=>?_⟩,λz hz hzm=>?_,?_⟩
  ·rw[hg]
   by_cases e:y=en g d
   ·subst e
    rw[if_pos rfl,if_pos rfl,R.row _ hx,vI,kM]
    simp [rds]
   ·rw[if_neg e,if_neg e,R.row y hy]
  ·by_cases e:y=en g d
   ·rw[if_pos e,aC,cq] at hf
    rcases hf with hf|rfl
    ·exact R.ok y hy f hf
    ·exact⟨hd,e.symm⟩
   ·rw[if_neg e] at hf
    exact R.ok y hy f hf
  ·by_cases e:y=en g d
   ·rw[if_pos e]
    refine mh.2 ⟨R.un y hy,List.pairwise_singleton _ _,λf hf f' hf' ho=>?_⟩
    rw[cq] at hf'
    subst hf' e
    refine q ?_
    rw[R.row _ hx]
    have hfl:=(R.ok _ hx f hf).1
    exact dr.2 ⟨f,hf,KP hc hfl (hb f hfl) ho⟩
   ·rw[if_neg e]; exact R.un y hy
  ·rw[hg]
   by_cases e:en g z=en g d
   ·rw[if_pos e,aC,← e]; exact .inl hzm
   ·rw[if_neg e]; exact hzm
  ·rw[hg,if_pos rfl,aC]
   exact .inr (orb_mem.2 ⟨0,(hb d hd).1,rfl⟩)
theorem pw_at {P:Nat→Nat→Prop}{l:List Nat} (h:l.Pairwise P) {a b:Nat} (ha:a∈l) (hb:b∈l) (hne:a≠b):P a b∨P b a:=by
 obtain⟨i,hi,rfl⟩:=dp.1 ha
 obtain⟨j,hj,rfl⟩:=dp.1 hb
 rcases DN i j with q|q|q
 ·exact .inl (fx.1 h i j hi hj q)
 ·subst q; exact absurd rfl hne
 ·exact .inr (fx.1 h j i hj hi q)
theorem Rin.rws {bl:Nat→Nat}{out:List (List Nat)}{fs:Nat→List Nat} (t:Trs g nx bl) (hb:∀ d,d<2*g.m→Back nx d (bk d)) (R:Rin g nx bk out fs) (hall:∀ d,d<2*g.m→d∈out.getD (en g d) []):Rws g out∧Cuts g (rnx g out) g.m:=by
 have E:=ob_eqv t.lt t.inj
 have W:Rws g out:=by
  refine⟨R.len,λx hx d hd=>?_,λx hx=>?_,hall⟩
  ·rw[R.row x hx] at hd
   obtain⟨f,hf,hd⟩:=dr.1 hd
   obtain⟨k,_,rfl⟩:=orb_mem.1 hd
   obtain⟨h1,h2⟩:=R.ok x hx f hf
   exact⟨it_lt t.lt h1 k,(t.keepEn h1 ⟨k,rfl⟩).1.trans h2⟩
  ·rw[R.row x hx]
   unfold rds
   rw[List.Nodup,Hh,iJ]
   constructor
   ·intro l hl
    obtain⟨f,hf,rfl⟩:=bu.1 hl
    have h1:=(R.ok x hx f hf).1
    exact KJ t.lt t.inj h1 (hb f h1)
   ·rw[di]
    refine List.Pairwise.imp_of_mem ?_ (R.un x hx)
    intro f f' hf hf' hno a ha b hb' e
    subst e
    obtain⟨k,_,rfl⟩:=orb_mem.1 ha
    obtain⟨k',_,e⟩:=orb_mem.1 hb'
    have h1:=(R.ok x hx f hf).1
    have h2:=(R.ok x hx f' hf').1
    have ho:Ob nx f' (it nx k f):=⟨k',e⟩
    exact hno (Ob.trans ⟨k,rfl⟩ (E.sm _ _ h2 (it_lt t.lt h1 k) ho))
 refine⟨W,Gk t (λd hd=>⟨W.rotn.lt d hd,W.rotn.en d hd⟩) (Fs:=λf=>f∈fs (en g f)) (λd hd=>?_) (λf f' hf hf' h1 h2 h3 ho=>?_) λd hd=>?_⟩
 ·have hx:=en_lt hd
  have hm:=hall d hd
  have hnd:=W.nd _ hx
  have hnx:=t.lt d hd
  rw[R.row _ hx] at hm hnd
  have:=Iu (λf hf=>hb f (R.ok _ hx f hf).1) hnd hm
  have e1:rnx g out d=nxl (rds nx bk (fs (en g d))) d:=by unfold rnx; rw[R.row _ hx]
  rw[← e1] at this
  rcases this with h|⟨h1,h2⟩
  ·exact .inl h
  ·exact .inr ⟨by show nx d∈fs (en g (nx d)); rw[t.nen d hd]; exact h1,by show rnx g out d∈fs (en g (rnx g out d)); rw[W.rotn.en d hd]; exact h2⟩
 ·refine Classical.byContradiction λhne=>?_
  have h2:f'∈fs (en g f):=by rw[h3]; exact h2
  rcases pw_at (R.un _ (en_lt hf)) h1 h2 hne with q|q
  ·exact q ho
  ·exact q (E.sm _ _ hf hf' ho)
 ·have hx:=en_lt hd
  have hm:=hall d hd
  rw[R.row _ hx] at hm
  obtain⟨f,hf,hm⟩:=dr.1 hm
  obtain⟨k,_,e⟩:=orb_mem.1 hm
  obtain⟨h1,h2⟩:=R.ok _ hx f hf
  exact⟨f,h1,by show f∈fs (en g f); rw[h2]; exact hf,⟨k,e⟩⟩
end
end Go.Pla
namespace Go.Proofs.YtpeemonpdlifbaaGreat
open Go.Am
open Go.Pla (at_ jn Pln Bld Dual Tri Even par en fl Trs Rin Nx Lay Ori fcs cy orb Back Bond)
open Go.Blk (Lst canon lst_ex)
section
variable {n:Nat}{E:List (Int×Int)}{hE:InG n E}{hL:∀ i,i<E.length→tlE E i≠hdE E i}
theorem ye {d:Nat} (hd:d<2*E.length):jn (grE n E hE hL) (d / 2) (jw E d) (jw E (fl d))=true:=by
 rw[Go.Pla.jn_iff]
 have h2:=@Go.Pla.fl_div d
 unfold jw
 rw[h2]
 by_cases h:d % 2=0
 ·have h3:fl d % 2=1:=by unfold fl; rw[if_pos h]; omega
  rw[if_pos h,if_neg om]
  exact .inl ⟨rfl,rfl⟩
 ·have h3:fl d % 2=0:=by unfold fl; rw[if_neg h]; omega
  rw[if_neg h,if_pos h3]
  exact .inr ⟨rfl,rfl⟩
theorem JN {b:List Nat}{lm:List (Int×AV)}{nx:Nat→Nat} (t:BlkT (grE n E hE hL) E b lm) (p:Pln (grE n E hE hL) b) (hk:∀ d,d<2*E.length→lkG lm ((d:Nat):Int)=some (.int .i64 (nx d:Nat))) {X:Nat→Bool} (hX:Even (grE n E hE hL) b X) :
 ∃ S:Nat→Bool,(∀ e∈b,X e=(S (2*e) ^^ S (2*e+1)))∧∀ d,d / 2∈b→S (nx d)=S (fl d):=by
 rcases t with ⟨e,rfl,h1,h2⟩|⟨H,V,F,I,hall,ht⟩
 ·refine⟨λ_=>false,λk hk'=>?_,λ_ _=>rfl⟩
  have:k=e:=by simpa using hk'
  subst this
  have hke:k<E.length:=p.lt k (by simp)
  have h3:=hX ((grE n E hE hL).tl k)
  have h4:at_ (grE n E hE hL) k ((grE n E hE hL).tl k)=true:=(Go.Pla.at_inc (p.lt k (by simp))).2 ⟨p.lt k (by simp),.inl rfl⟩
  simpa [par,h4] using h3
 ·obtain⟨T,hT⟩:=I.lay.span X hX λe he _=>hall e he
  have hface:∀ d,∃ f,d / 2∈b→f<F.length∧Nx (fcs F f) (jw E d) (jw E (fl d)):=λd=>by
   by_cases hd:d / 2∈b
   ·have hlt:d / 2<E.length:=p.lt _ hd
    obtain⟨f,h1,h2⟩:=I.ori (d / 2) hd (hall _ hd) _ _ (ye (hE:=hE) (hL:=hL) om)
    exact⟨f,λ_=>⟨h1,h2⟩⟩
   ·exact⟨0,λh=>absurd h hd⟩
  obtain⟨fo,hfo⟩:=Classical.axiomOfChoice hface
  have on:∀ {e f x y:Nat},e∈b→f<F.length→Nx (fcs F f) x y→jn (grE n E hE hL) e x y=true→cy (grE n E hE hL) (fcs F f) e=true:=fun {e f x y} he hf hn hj=>by
   obtain⟨s,hr⟩:=hn
   have:=Go.Pla.cy_first p (hr.cc (I.lay.circ f hf)) he hj
   rwa [hr.cy] at this
  refine⟨λd=>T (fo d),λe he=>?_,λd hd=>?_⟩
  ·have hlt:e<E.length:=p.lt e he
   have f1:fl (2*e)=2*e+1:=by unfold fl; rw[if_pos om]
   have f2:fl (2*e+1)=2*e:=by unfold fl; rw[if_neg om]; omega
   have d1:2*e / 2=e:=om
   have d2:(2*e+1) / 2=e:=om
   obtain⟨a1,a2⟩:=hfo (2*e) (by rw[d1]; exact he)
   obtain⟨b1,b2⟩:=hfo (2*e+1) (by rw[d2]; exact he)
   have j1:=ye (hE:=hE) (hL:=hL) (d:=2*e) om
   have j2:=ye (hE:=hE) (hL:=hL) (d:=2*e+1) om
   rw[d1] at j1
   rw[d2] at j2
   have hne:fo (2*e)≠fo (2*e+1):=λq=>by
    rw[f1] at a2
    rw[f2,← q] at b2
    have hc:=I.lay.circ _ a1
    exact Go.Pla.nx_once hc.nodup (Go.Pla.cc_len hc) a2 b2
   obtain⟨a,c,ha,hc,hac,h3⟩:=I.lay.two e he (hall e he)
   have ea:=on he a1 a2 j1
   have eb:=on he b1 b2 j2
   rw[h3 _ a1,bN,beq_iff_eq,beq_iff_eq] at ea
   rw[h3 _ b1,bN,beq_iff_eq,beq_iff_eq] at eb
   rw[hT e he,Go.Pla.par_congr (λf hf=>by rw[h3 f (ao.1 hf)]),Go.Pla.par_two ha hc hac]
   show (T a ^^ T c)=(T (fo (2*e)) ^^ T (fo (2*e+1)))
   rcases ea with ea|ea<;>rcases eb with eb|eb
   ·exact absurd (ea.trans eb.symm) hne
   ·rw[ea,eb]
   ·rw[ea,eb]; cases T a<;>cases T c<;>rfl
   ·exact absurd (ea.trans eb.symm) hne
  ·
   have hlt:d / 2<E.length:=p.lt _ hd
   have hdm:d<2*E.length:=om
   have hfd:fl d / 2∈b:=by rw[Go.Pla.fl_div]; exact hd
   have hj:=ye (hE:=hE) (hL:=hL) hdm
   obtain⟨c1,c2⟩:=hfo (fl d) hfd
   rw[Go.Pla.fl_fl] at c2
   obtain⟨z,htri⟩:=Go.Pla.tri_of_nx c2 (Go.Pla.cc_len (I.lay.circ _ c1))
   obtain⟨v,h1,f',y',x',z',i',j,hf',tri',hi',hj',hji,hjj,hd',hv⟩:=ht _ c1 _ _ z htri (d / 2) hd hj
   rw[mV hL hlt] at h1 hd'
   have hvn:v=nx d:=by
    have:=hk d hdm
    rw[h1] at this
    simp only[aa,AV.int.injEq,true_and] at this
    omega
   have hii:d / 2=i':=by rw[hd',jd]
   subst hii
   have hxx:jw E d=x':=by
    rw[hd']; exact gq hlt (nQ hlt hji)
   subst hxx
   have hyy:jw E (fl d)=y':=wh hlt hj hji
   subst hyy
   have hjE:j<E.length:=p.lt j hj'
   have hnx2:nx d / 2=j:=by rw[← hvn,hv,jd]
   have hnxe:jw E (nx d)=jw E d:=by rw[← hvn,hv]; exact gq hjE (nQ hjE hjj)
   have hnxm:nx d<2*E.length:=om
   have hjn2:=ye (hE:=hE) (hL:=hL) hnxm
   rw[hnx2,hnxe] at hjn2
   have hzz:jw E (fl (nx d))=z':=wh hjE hjn2 hjj
   obtain⟨e1,e2⟩:=hfo (nx d) (by rw[hnx2]; exact hj')
   rw[hnxe,hzz] at e2
   have q1:fo (nx d)=f':=Go.Pla.nx_face p I.lay I.ori hj' (hall j hj') hjj e1 hf' e2 tri'.nx2
   have q2:fo (fl d)=f':=Go.Pla.nx_face p I.lay I.ori hd (hall _ hd) (by rw[Go.Pla.jn_symm]; exact hj) c1 hf' c2 tri'.nx1
   show T (fo (nx d))=T (fo (fl d))
   rw[q1,q2]
theorem Jq (hW:Pln (grE n E hE hL) (List.range E.length)) {lm:List (Int×AV)}{nx:Nat→Nat} (hB:∀ l,Lst (grE n E hE hL) l→∀ b∈canon E.length l,BlkT (grE n E hE hL) E b lm) (h1:∀ d,d<2*E.length→nx d<2*E.length)
 (hk:∀ d,d<2*E.length→lkG lm ((d:Nat):Int)=some (.int .i64 (nx d:Nat))) (hi:∀ a b,a<2*E.length→b<2*E.length→nx a=nx b→a=b) (he:∀ d,d<2*E.length→jw E (nx d)=jw E d):∃ bl,Trs (grE n E hE hL) nx bl:=by
 obtain⟨l,hl⟩:=lst_ex (grE n E hE hL)
 obtain⟨l1,l2⟩:=Bg hl
 have l1:∀ i,i<E.length→l i<E.length:=l1
 have l2:∀ i,i<E.length→l (l i)=l i:=l2
 have mem:∀ e,e<E.length→((List.range E.length).filter λk=>l k==l e)∈canon E.length l:=λe he=>by
  unfold canon
  exact bu.2 ⟨l e,by rw[aS,ao,beq_iff_eq]; exact⟨l1 e he,l2 e he⟩,rfl⟩
 have inb:∀ e,e<E.length→e∈(List.range E.length).filter λk=>l k==l e:=λe he=>by
  rw[aS,ao]; exact⟨he,by simp⟩
 have pl:∀ b∈canon E.length l,Pln (grE n E hE hL) b:=λb hb=>AN hW (sJ hb).2.2.2 λe he=>ao.2 ((sJ hb).2.1 e he)
 have dich:∀ i,(∀ e,e<E.length→l e≠i)∨((List.range E.length).filter λk=>l k==i)∈canon E.length l:=λi=>by
  by_cases h:∃ e,e<E.length∧l e=i
  ·obtain⟨e,he,rfl⟩:=h
   exact .inr (mem e he)
  ·exact .inl λe he q=>h ⟨e,he,q⟩
 refine⟨l,h1,hi,he,l1,λd hd=>?_,λX hX i=>?_,λi=>?_,λX hX=>?_⟩
 ·have hd:d<2*E.length:=hd
  have hd2:d / 2<E.length:=om
  have hb:=mem _ hd2
  obtain⟨v,j,q1,q2,q3,q4⟩:=sQ (hB l hl _ hb) (pl _ hb) (inb _ hd2) (oW hd2)
  rw[mV hL hd2,hk d hd] at q1
  simp only[aa,AV.int.injEq,true_and] at q1
  have:nx d=v:=om
  rw[this,q3,jd]
  rw[aS,beq_iff_eq] at q2
  exact q2.2
 ·rcases dich i with h|h
  ·refine Even.congr Go.Pla.even_no λe he=>?_
   have:(l e==i)=false:=by rw[beq_eq_false_iff_ne]; exact h e (ao.1 he)
   rw[this,dK]
  ·refine (Go.Pla.blk_even hX (oV hl h)).congr λe he=>?_
   congr 1
   rw[cW,aA,aS]
   exact⟨λq=>q.2,λq=>⟨he,q⟩⟩
 ·rcases dich i with h|h
  ·have:((List.range E.length).filter λe=>l e==i)=[]:=by
    rw[List.filter_eq_nil_iff]
    intro e he
    have:=h e (ao.1 he)
    simpa using this
   show Bond _ ((List.range E.length).filter λe=>l e==i)
   rw[this]
   intro v e k he
   cases he
  ·exact Go.Pla.blk_bond hW (oV hl h) (sJ h).2.2.2 (sJ h).2.1
 ·
  have hS:∀ i,∃ S:Nat→Bool,(∀ e,e<E.length→l e=i→X e=(S (2*e) ^^ S (2*e+1)))∧∀ d,d<2*E.length→l (d / 2)=i→S (nx d)=S (fl d):=λi=>by
   rcases dich i with h|h
   ·exact⟨λ_=>false,λe he q=>absurd q (h e he),λd hd q=>absurd q (h _ om)⟩
   ·have hXb:Even (grE n E hE hL) ((List.range E.length).filter λk=>l k==i) X:=by
     have:=Go.Pla.blk_even hX (oV hl h)
     refine ((Go.Pla.even_sub (A:=List.range E.length) aQ (sJ h).2.2.2 (λe he=>ao.2 ((sJ h).2.1 e he)) (λe he hn=>?_)).1 this).congr λe he=>?_
     ·show (X e&&decide _)=false
      rw[aJ hn,dK]
     ·show (X e&&decide _)=X e
      rw[aL he,eN]
    obtain⟨S,s1,s2⟩:=JN (hB l hl _ h) (pl _ h) hk hXb
    refine⟨S,λe he q=>s1 e ?_,λd hd q=>s2 d ?_⟩
    ·rw[aS,ao,beq_iff_eq]; exact⟨he,q⟩
    ·rw[aS,ao,beq_iff_eq]; exact⟨om,q⟩
  obtain⟨S,hS⟩:=Classical.axiomOfChoice hS
  refine⟨λd=>S (l (d / 2)) d,λe he=>?_,λd hd=>?_⟩
  ·show X e=(S (l (2*e / 2)) (2*e) ^^ S (l ((2*e+1) / 2)) (2*e+1))
   rw[show 2*e / 2=e by omega,show (2*e+1) / 2=e by omega]
   exact (hS (l e)).1 e he rfl
  ·have hd:d<2*E.length:=hd
   have hd2:d / 2<E.length:=om
   have hb:=mem _ hd2
   obtain⟨v,j,q1,q2,q3,q4⟩:=sQ (hB l hl _ hb) (pl _ hb) (inb _ hd2) (oW hd2)
   rw[mV hL hd2,hk d hd] at q1
   simp only[aa,AV.int.injEq,true_and] at q1
   have e1:l (nx d / 2)=l (d / 2):=by
    have:nx d=v:=om
    rw[this,q3,jd]
    rw[aS,beq_iff_eq] at q2
    exact q2.2
   show S (l (nx d / 2)) (nx d)=S (l (fl d / 2)) (fl d)
   rw[e1,Go.Pla.fl_div]
   exact (hS (l (d / 2))).2 d hd rfl
theorem Br {nx:Nat→Nat}{bl:Nat→Nat} (t:Trs (grE n E hE hL) nx bl):∀ {k:Nat},k≤E.length→∃ fs,Rin (grE n E hE hL) nx (bk nx) (kZ nx E n k) fs∧∀ d,d<2*k→d∈(kZ nx E n k).getD (en (grE n E hE hL) d) []
 | 0,_=>⟨λ_=>[],⟨by show (List.replicate n []).length=n; simp,λx hx=>by
  show (List.replicate n ([]:List Nat)).getD x []=_
  rw[ai,dS]
  split<;>rfl,λx hx f hf=>(by cases hf),λx hx=>List.Pairwise.nil⟩,λd hd=>absurd hd om⟩
 | k+1,hk=>by
   obtain⟨fs,R,hc⟩:=Br t (k:=k) om
   have hb:∀ d,d<2*(grE n E hE hL).m→Back nx d (bk nx d):=λd hd=>(BG t.lt t.inj hd).1
   have st:=R.step t.lt hb (d:=2*k) (by show 2*k<2*E.length; omega)
   have e1:en (grE n E hE hL) (2*k)=tlE E k:=Go.Pla.en_ev.1
   have e2:en (grE n E hE hL) (2*k+1)=hdE E k:=Go.Pla.en_ev.2
   rw[e1] at st
   obtain⟨fs1,R1,hm1,hn1⟩:=st
   have st2:=R1.step t.lt hb (d:=2*k+1) (by show 2*k+1<2*E.length; omega)
   rw[e2] at st2
   obtain⟨fs2,R2,hm2,hn2⟩:=st2
   rw[pD]
   refine⟨fs2,R2,λd hd=>?_⟩
   have hdm:d<2*(grE n E hE hL).m:=by show d<2*E.length; omega
   rcases bU d (2*k) with q|q
   ·exact hm2 d hdm (hm1 d hdm (hc d q))
   ·rcases bU d (2*k+1) with q2|q2
    ·obtain rfl:d=2*k:=om
     rw[e1]
     have:=hm2 (2*k) hdm (by rw[e1]; exact hn1)
     rwa [e1] at this
    ·obtain rfl:d=2*k+1:=om
     rw[e2]; exact hn2
theorem Le (hW:Pln (grE n E hE hL) (List.range E.length)) {rows:List (List Nat)} (I:EmbI n E hE hL rows):RwsI n E (kQ rows)∧Go.Pla.Cuts (grE n E hE hL) (Go.Pla.rnx (grE n E hE hL) rows) E.length:=by
 obtain⟨lm,nx,hB,h1,hk,hi,he,rfl⟩:=I.ex
 obtain⟨bl,t⟩:=Jq hW hB h1 hk hi he
 obtain⟨fs,R,hc⟩:=Br t (k:=E.length) (ae _)
 obtain⟨W,C⟩:=R.rws t (λd hd=>(BG t.lt t.inj hd).1) hc
 exact⟨Io W,C⟩
end
open Go.Am
open Go.Pla (Dual)
def IsP (n:Int) (E:List (Int×Int)):Prop:=jY n E∧∀ (hE:InG n.toNat E) (hL:∀ i,i<E.length→tlE E i≠hdE E i),∃ (Φ:Type) (l r:Nat→Φ),Dual (grE n.toNat E hE hL) (List.range E.length) l r
theorem EU {h:AH}{n:Int}{ev:AV}{E:List (Int×Int)} (he:SlE h ev E) (hxl:E.length<2 ^ 40):C prg 8 [.agg [.int .i64 n,ev]] h λr h'=>∃ b,r=.bool b∧(b=true↔IsP n E)∧Ext h.next h h':=by
 obtain⟨ec,eo⟩:=he.cells
 refine LB pf8 ?_
 refine aj (aB (Mi0) ?_)
 have x0:Ext h.next h (h.new (.cells [.int .i64 n,ev] 2 false)):=Ly (ae _)
 have g0:(h.new (.cells [.int .i64 n,ev] 2 false)).get h.next=some (.cells [.int .i64 n,ev] 2 false):=by rw[AH.get_new,if_pos rfl]
 have n0:(h.new (.cells [.int .i64 n,ev] 2 false)).next=h.next+1:=rfl
 generalize (h.new (.cells [.int .i64 n,ev] 2 false))=h1 at *
 have rA:ar h1 h.next 0 2=some [.int .i64 n,ev]:=by rw[bg g0]; rfl
 refine aj (bO (bt 1 (Mi1 rA) rfl (Zi1 rA) (Mi1 rA) (tW (he.ext x0 (ae _)) hxl) λr h2 hq=>?_))
 obtain⟨x2,hq⟩:=hq
 have X2:Ext h.next h h2:=x0.trans (x2.mono om)
 rcases hq with ⟨rfl,hno⟩|⟨hP,ob,vs,rows,rfl,_,_,_,_,hEmb⟩
 ·refine bI (M0) ?_
  refine aj (aB (M0) ?_)
  refine bG ⟨.bool false,(by simp only[rs,rf8,am,aF,simprocAttr]<;>rfl),false,rfl,⟨λh=>(by cases h),λ⟨hP,hd⟩=>?_⟩,X2⟩
  obtain⟨k,rfl⟩:=pm hP
  have hE:=ing_of hP.1
  have hL:=Be hP.1 hP.2.1
  exact absurd (hd hE hL) (hno hP hE hL)
 ·refine bI (M0) ?_
  refine aj (aB (M0) ?_)
  exact bG ⟨.bool true,(by simp only[rs,rf8,am,aF,simprocAttr]<;>rfl),true,rfl,⟨λ_=>⟨hP,λhE hL=>(hEmb hE hL).dual⟩,λ_=>rfl⟩,X2⟩
end Go.Proofs.YtpeemonpdlifbaaGreat
