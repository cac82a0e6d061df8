/- A graph and a plan that came in. -/
import Derived.Test.YtahepnbflofndaaGreatDoorKLw
import Derived.Test.YtahepnbflofndaaGreatDoorKLf
import Derived.Test.YtahepnbflofndaaGreatDoorKLr
import Derived.Test.YtahepnbflofndaaGreatDoorKNh
import Derived.Test.YtahepnbflofndaaGreatDoorKLj
set_option linter.all false
namespace Go.Proofs.YtahepnbflofndaaGreatDoor
open Go.Am
theorem SlL.stay {h h':AH}{v:AV}{xss:List (List Int)} (hk:∀ b o,h.get b=some o→h'.get b=some o) (hs:SlL h v xss):SlL h' v xss:=by
 obtain⟨ws,a,b,c⟩:=hs;exact⟨ws,Mx hk a,b,λi w xs h1 h2=>Mx hk (c i w xs h1 h2)⟩
structure Came (h:AH) (ev ordv outv:AV) (ne no nu:Nat) (es:List (Int×Int)) (order:List Int) (outs:List (List Int)):Prop where
 le:gD ev=some (.int .i64 (ne:Nat))
 lo:gD ordv=some (.int .i64 (no:Nat))
 lu:gD outv=some (.int .i64 (nu:Nat))
 e:SlE h ev es
 o:SlI h ordv order
 u:nu≤100→SlL h outv outs
theorem Came.stay {h h':AH}{ev ordv outv:AV}{ne no nu:Nat}{es:List (Int×Int)}{order:List Int}{outs:List (List Int)} (c:Came h ev ordv outv ne no nu es order outs) (hk:∀ b o,h.get b=some o→h'.get b=some o):Came h' ev ordv outv ne no nu es order outs :=
 ⟨c.le,c.lo,c.lu,Mx hk c.e,Mx hk c.o,λq=>SlL.stay hk (c.u q)⟩
theorem Came.ext {h h':AH}{ev ordv outv:AV}{ne no nu:Nat}{es:List (Int×Int)}{order:List Int}{outs:List (List Int)} (c:Came h ev ordv outv ne no nu es order outs) (x:Ext h.next h h'):Came h' ev ordv outv ne no nu es order outs :=
 ⟨c.le,c.lo,c.lu,c.e.ext x (ab _),c.o.ext x (ab _),λq=>(c.u q).ext x⟩
theorem Came.lens {h:AH}{ev ordv outv:AV}{ne no nu:Nat}{es:List (Int×Int)}{order:List Int}{outs:List (List Int)} (c:Came h ev ordv outv ne no nu es order outs):es.length=ne∧order.length=no∧(nu≤100→outs.length=nu):=by
 refine⟨?_,?_,λq=>?_⟩
 ·have:=c.e.len;rw[c.le,ai] at this;simp only[aa,AV.int.injEq,true_and] at this;omega
 ·have:=c.o.len;rw[c.lo,ai] at this;simp only[aa,AV.int.injEq,true_and] at this;omega
 ·have:=(c.u q).len;rw[c.lu] at this;simp only[aa,AV.int.injEq,true_and] at this;omega
open Go.Am
open Go.Blk (Gr Lst canon)
def OKP (n:Int) (E:List (Int×Int)) (order:List Int) (outs:List (List Int)):Prop :=
 (gJ n E∧PlanP n.toNat E order outs)∧∃ r,oM n.toNat E outs order [] [] (List.replicate n.toNat []) 0=.inl r
theorem yK {h:AH}{r:AV}{n:Int}{es:List (Int×Int)}{order:List Int}{outs:List (List Int)}{tl:Int→Int→List AV}
 (hr:(¬ (gJ n es∧PlanP n.toNat es order outs)∧r=.tup ([.nils,.nils]++tl 1 0))∨((gJ n es∧PlanP n.toNat es order outs)∧RunR h r n.toNat es order outs tl)) :
 ∃ x y c a,r=.tup ([x,y]++tl c a)∧(c=0↔OKP n es order outs):=by
 rcases hr with ⟨hn,rfl⟩|⟨hp,hr⟩
 ·exact⟨_,_,1,0,rfl,⟨λh=>absurd h (by decide),λh=>absurd h.1 hn⟩⟩
 ·rcases hr with ⟨i,h1,rfl⟩|⟨ends,row,a,b,h1,rfl,_⟩
  ·refine⟨_,_,3,_,rfl,⟨λh=>absurd h (by decide),λh=>?_⟩⟩;obtain⟨r,hr⟩:=h.2;rw[h1] at hr;cases hr
  ·exact⟨_,_,0,0,rfl,⟨λ_=>⟨hp,_,h1⟩,λ_=>rfl⟩⟩
theorem Hv {h:AH}{k:Nat}:Ext h.next h (h.keep k):=⟨by rw[AH.keep_next]; omega,λc hc=>by rw[AH.keep_get,if_neg om],λc _=>Mr k h⟩
theorem BH {m:Nat}{l:Nat→Nat}{b:List Nat} (hb:b∈canon m l):(nI b).Pairwise (·<·):=by
 unfold canon at hb;obtain⟨i,hi,rfl⟩:=bB.1 hb;unfold nI;rw[eP];exact (List.pairwise_lt_range.filter _).imp λh=>by omega
def f2 (t:AV×AV):List AV:=[t.1,t.2]
abbrev Pl2:=List Int×List (List Int)
def QC (h:AH) (a:AV) (x:AV×AV) (p:Pl2):Prop :=
 ((x.1.cells=[x.1]∧x.1.one=true)∧x.2.cells=[x.2]∧x.2.one=true)∧∀ h'':AH,(∀ c,c<h.next→(∀ b n,a=.sl b 0 n n→c≠b)→h''.get c=h.get c)→SlI h'' x.1 p.1∧SlL h'' x.2 p.2
def QL (h:AH) (lo:Nat) (a:AV) (L:List Pl2):Prop :=
 ∃ xs:List (AV×AV),IsSl h 2 lo a (xs.flatMap f2)∧xs.length=L.length∧∀ (i:Nat) (x:AV×AV) (p:Pl2),xs[i]?=some x→L[i]?=some p→QC h a x p
theorem QC.of {lo:Nat}{h h':AH}{a:AV}{x:AV×AV}{p:Pl2} (hp:PF lo h x p) (h1:x.1.cells=[x.1]∧x.1.one=true) (h2:x.2.cells=[x.2]∧x.2.one=true) (hk:∀ c,lo≤c→c<h.next→h'.get c=h.get c) (hn:h.next≤h'.next) (ha:∀ b n,a=.sl b 0 n n→b<lo):QC h' a x p :=
 ⟨⟨h1,h2⟩,λh'' hq=>hp h'' λc q1 q2=>by rw[hq c om (λb n e=>by have:=ha b n e; omega),hk c q1 q2]⟩
theorem QL.ext {h h':AH}{lo hi:Nat}{a:AV}{L:List Pl2} (hl:QL h lo a L) (hx:Ext hi h h') (hn:h.next≤hi):QL h' lo a L:=by
 obtain⟨xs,h1,h2,h3⟩:=hl;refine⟨xs,h1.ext hx hn,h2,λi x p q1 q2=>?_⟩;obtain⟨k1,k2⟩:=h3 i x p q1 q2;have:=hx.nx;exact⟨k1,λh'' hq=>k2 h'' λc hc hne=>by rw[hq c om hne,hx.gt _ om]⟩
theorem QL.mono {h:AH}{lo lo':Nat}{a:AV}{L:List Pl2} (hl:QL h lo a L) (hn:lo'≤lo):QL h lo' a L:=by
 obtain⟨xs,h1,h2⟩:=hl;exact⟨xs,h1.mono hn,h2⟩
theorem Md (xs:List (AV×AV)):(xs.flatMap f2).length=xs.length*2:=dC (f:=f2) (e:=2) (λ_=>rfl) xs
theorem QL.len {h:AH}{lo:Nat}{a:AV}{L:List Pl2} (hl:QL h lo a L):gD a=some (.int .i64 (L.length:Nat)):=by
 obtain⟨xs,h1,h2,h3⟩:=hl;have:=(Mq (f:=f2) om (λ_=>rfl) h1).len;rwa [ai,h2] at this
theorem QL.cells {h:AH}{lo:Nat}{a:AV}{L:List Pl2} (hl:QL h lo a L):a.cells=[a]∧a.one=true:=by
 obtain⟨xs,h1,h2,h3⟩:=hl;exact h1.cells
theorem QL.lt {h:AH}{lo:Nat}{a:AV}{L:List Pl2} (hl:QL h lo a L) {b o n c:Nat} (e:a=.sl b o n c):b<h.next:=by
 obtain⟨xs,h1,h2,h3⟩:=hl;exact h1.lt e
theorem QL.at {h:AH}{lo:Nat}{a:AV}{L:List Pl2} (hl:QL h lo a L) {i:Nat} (hi:i<L.length):∃ b o x,jO 2 a (.int .i64 (i:Nat))=some (.ptr b o)∧ak h b o 2=some (f2 x)∧((x.1.cells=[x.1]∧x.1.one=true)∧x.2.cells=[x.2]∧x.2.one=true)∧SlI h x.1 L[i].1∧SlL h x.2 L[i].2∧b<h.next∧∀ j y,(f2 x)[j]?=some y→ak h b (o+j) 1=some [y]:=by
 obtain⟨xs,h1,h2,h3⟩:=hl;have hs:=Mq (f:=f2) om (λ_=>rfl) h1;obtain⟨b,o,q1,q2,q3,q4⟩:=hs.at (cq (f:=f2) (i:=i) om);obtain⟨k1,k2⟩:=h3 i _ _ (aq om) (aq hi);obtain⟨k3,k4⟩:=k2 h λ_ _ _=>rfl;exact⟨b,o,_,q1,q2,k1,k3,k4,q4,q3⟩
theorem QL.push {h:AH}{lo q:Nat}{a:AV}{L:List Pl2}{x:AV×AV}{p:Pl2} (hl:QL h lo a L) (hlo:lo≤h.next) (hp:QC h a x p) (hx:h.get q=some (.cells (f2 x) 2 false)) (hxl:lo≤q) (hxa:∀ b n,a=.sl b 0 n n→b≠q) (hb:L.length<2 ^ 30) :
 ∃ a' h',gp h 2 48 a (.sl q 0 1 1)=some (a',h')∧QL h' lo a' (L++[p])∧Ext lo h h'∧h'.next=h.next+1:=by
 obtain⟨xs,h1,h2,h3⟩:=hl;have ho:(f2 x).all AV.one=true:=by
  obtain⟨⟨k1,k2⟩,_⟩:=hp;simp only[f2,fU,uI,k1.2,k2.2,mY]
 have hd:(xs.flatMap f2).length / 2=L.length:=by rw[Md,cN _ om,h2]
 obtain⟨a',h',q1,q2,q3,q4,q5,q6,q7⟩:=h1.app (bytes:=48) hlo om hx hxl hxa rfl ho (by rw[hd]; unfold aW; omega) (by rw[hd]; unfold aW; omega);have keep:∀ {x p},QC h a x p→QC h' a' x p:=fun {x p} hp=>⟨hp.1,λh'' hq=>hp.2 h'' λc hc hne=>by
  rw[hq c om (λb n e=>by rw[q4] at e; cases e; omega),q6 c hc hne]⟩
 refine⟨a',h',q1,⟨xs++[x],?_,by rw[aN,aN,h2]; rfl,λi y r e1 e2=>?_⟩,q3,q5⟩
 ·rw[bC];simpa using q2
 ·by_cases hi:i<xs.length
  ·rw[bJ hi] at e1;rw[bJ om] at e2;exact keep (h3 i y r e1 e2)
  ·have hil:i<(xs++[x]).length:=(aI.1 e1).1;rw[aN,bf,bt] at hil;have hi':i=xs.length:=om;subst hi';rw[bE om,eV] at e1;rw[h2,bE om,eV] at e2;cases e1;cases e2;exact keep hp
set_option maxHeartbeats 2000000 in
theorem Kd {h:AH}{n:Int}{ev ordv outv:AV}{E:List (Int×Int)}{order:List Int}{outs:List (List Int)} (he:SlE h ev E) (hxl:E.length<2 ^ 30) (ho:SlI h ordv order) (hu:SlL h outv outs) (hol:order.length≤200) (hlu:outs.length≤200) (hl3:∀ l∈outs,l.length≤200) :
 C prg 26 [.agg [.int .i64 n,ev],.agg [ordv,outv]] h λr h'=>Ext h.next h h'∧(¬ OKP n E order outs→r=.tup [.nils,.int .i64 1]) ∧
   (OKP n E order outs→∃ a,r=.tup [a,.int .i64 0]∧∀ (hE:InG n.toNat E) (hL:∀ i,i<E.length→tlE E i≠hdE E i) l,Lst (grE n.toNat E hE hL) l→QL h' h.next a ((canon E.length l).map λb=>(gj n.toNat E b order,jS n.toNat E b outs))):=by
 obtain⟨ec,eo⟩:=he.cells;obtain⟨oc,oo⟩:=ho.cells;obtain⟨uc,uo⟩:=hu.cells;refine Mw pf26 ?_;refine ae (aj (Mi0) ?_);have ga:∀ c,((h.new (.cells [.int .i64 n,ev] 2 false)).new (.cells [ordv,outv] 2 false)).get c=if c=h.next+1 then some (.cells [ordv,outv] 2 false) else if c=h.next then some (.cells [.int .i64 n,ev] 2 false) else h.get c:=λc=>by
  rw[AH.get_new,AH.get_new];rfl
 have x0:Ext h.next h ((h.new (.cells [.int .i64 n,ev] 2 false)).new (.cells [ordv,outv] 2 false)):=(Mt (ab _)).trans (Mt (by simp));have n0:((h.new (.cells [.int .i64 n,ev] 2 false)).new (.cells [ordv,outv] 2 false)).next=h.next+2:=rfl;generalize ((h.new (.cells [.int .i64 n,ev] 2 false)).new (.cells [ordv,outv] 2 false))=h1 at *
 have gG:h1.get h.next=some (.cells [.int .i64 n,ev] 2 false):=by rw[ga,if_neg om,if_pos rfl]
 have gP:h1.get (h.next+1)=some (.cells [ordv,outv] 2 false):=by rw[ga,if_pos rfl]
 have rG:ak h1 h.next 0 2=some [.int .i64 n,ev]:=by rw[aU gG]; rfl
 have rP:ak h1 (h.next+1) 0 2=some [ordv,outv]:=by rw[aU gP]; rfl
 refine ae (ae (bN (bo 2 (Mi2 rG rP) rfl (Zi2 rG rP) (Mi2 rG rP) (IT (n:=n) (he.ext x0 (ab _)) hxl (ho.ext x0 (ab _)) (hu.ext x0) hol hlu hl3) λr h2 hq=>?_)));obtain⟨x2,hr⟩:=hq;obtain⟨v1,v2,c,a0,rfl,hc⟩:=yK hr;obtain⟨h3,w3,x3,g3,n3⟩:=im (h:=h2) (z:=[.int .i64 0,.int .i64 0,.nils]) (cs:=[.int .i64 c,.int .i64 a0,.nils]) (e:=3) rfl;refine bH (by simp only[am,aK,simprocAttr,tlF,w3]<;>rfl) ?_;have n2:=x2.nx;have X3:Ext h.next h h3:=x0.trans ((x2.mono om).trans (x3.mono om));have r3:ak h3 h2.next 0 1=some [.int .i64 c]:=bm g3 rfl;by_cases hk:¬ OKP n E order outs
 ·have c1:(c != 0)=true:=by rw[bne_iff_ne]; exact λe=>hk (hc.1 e)
  have c2:(!decide (c=0))=true:=by rw[aw (λe=>hk (hc.1 e))]; rfl
  refine ae (aj (M3 r3 c1 c2) ?_);refine db (Z2 c1 c2) (ae (aj (M0) ?_));exact br ⟨_,(by simp only[rs,rf26,am,aK,simprocAttr]<;>rfl),X3,λ_=>rfl,λq=>absurd q hk⟩
 have hk:OKP n E order outs:=Classical.byContradiction hk;have c0:=hc.2 hk;subst c0;refine ae (aj (M2 r3 @decide_true) ?_);refine dL (Z1 @decide_true) (bu ?_);have hg:=hk.1.1;have hP:=hk.1.2;have hm:=hg.1;have hn:n=((n.toNat:Nat):Int):=by
  have:=hm;unfold fy at this;simp only[aM,aJ] at this;omega
 have hL0:=qJ hg;generalize n.toNat=nn at *
 subst hn;have hE0:=tO hm;obtain⟨m1,m2,m3,m4⟩:=iQ hm;have gG3:h3.get h.next=some (.cells [.int .i64 (nn:Nat),ev] 2 false):=by rw[x3.gt _ om,x2.gt _ om]; exact gG
 have gP3:h3.get (h.next+1)=some (.cells [ordv,outv] 2 false):=by rw[x3.gt _ om,x2.gt _ om]; exact gP
 have rG3:ak h3 h.next 0 2=some [.int .i64 (nn:Nat),ev]:=by rw[aU gG3]; rfl
 refine ae (bN (bo 1 (Mi1 rG3) rfl (Zi1 rG3) (Mi1 rG3) (Ej (n:=((nn:Nat):Int)) (he.ext X3 (ab _)) hxl) λr h4 hq=>?_));obtain⟨x4,_,hgood⟩:=hq;obtain⟨pv,rfl,hpl⟩:=hgood hg;simp only[aY] at hpl;obtain⟨l0,hl0⟩:=Go.Blk.lst_ex (grE nn E hE0 hL0);have pl:=hpl hE0 hL0 l0 hl0;have hB:∀ (hE:InG nn E) (hL:∀ i,i<E.length→tlE E i≠hdE E i) l,Lst (grE nn E hE hL) l→canon E.length l0=canon E.length l:=λhE hL l hl=>Go.Blk.canon_congr λi hi=>hl0.uniq hl hi;have hBm:=λb hb=>jD (m:=E.length) (l:=l0) (b:=b) hb;have hBr:=λb hb=>BH (m:=E.length) (l:=l0) (b:=b) hb;have hBlen:=oG (m:=E.length) (l:=l0);generalize canon E.length l0=B at *
 have pln:=pl.len;rw[ai] at pln;refine bH (M1 pln) ?_;have n4:=x4.nx;have X4:Ext h.next h h4:=X3.trans (x4.mono om);have gP4:h4.get (h.next+1)=some (.cells [ordv,outv] 2 false):=by rw[x4.gt _ om]; exact gP3
 refine ae (ae (aj (M1 pln) ?_))
 refine fA (α:=AV) (N:=B.length) (λ_ a=>[(2,.ptr h.next 0),(3,.ptr (h.next+1) 0),(4,a),(5,.int .i64 0),(9,pv)])
  (λk a h'=>Ext h4.next h4 h'∧QL h' h4.next a ((B.take k).map λb=>(gj nn E b order,jS nn E b outs))) .nils (λ_ _=>rfl) om (Hi0)
  ⟨Mu,[],.inl ⟨rfl,rfl⟩,rfl,λi x p e=>by simp at e⟩ ?_ ?_
 ·rintro k a ts h5 hkB ⟨jx,ja⟩ ⟨e29,e28,e2,e3,e4,e5,e9,-⟩;simp only at e29 e28 e2 e3 e4 e5 e9;have n5:=jx.nx;refine ae (aj (M1 e29) ?_);have xk:Ext h5.next h5 (h5.keep 1):=Hv;have kn:(h5.keep 1).next=h5.next+1:=AH.keep_next 1 h5;have q5:(h5.keep 1).get h5.next=some .resv:=fG;have X5:Ext h.next h (h5.keep 1):=X4.trans ((jx.mono om).trans (xk.mono om));have plk:PL (h5.keep 1) h3.next pv (B.map (rS nn E)):=pl.ext (jx.trans (xk.mono om)) (ab _);obtain⟨b1,o1,x,a1,r1,c1,lb1,ry⟩:=plk.at (i:=k) (by rw[ai]; exact hkB);obtain⟨p1,p2,p3,p4,_⟩:=c1;rw[mT] at p1 p2 p3 p4;obtain⟨y1,ye,yn,yu⟩:=x;simp only at p1 p2 p3 p4;subst p1;have gPk:(h5.keep 1).get (h.next+1)=some (.cells [ordv,outv] 2 false):=by rw[xk.gt _ om,jx.gt _ om]; exact gP4
  have rPk:ak (h5.keep 1) (h.next+1) 0 2=some [ordv,outv]:=by rw[aU gPk]; rfl
  obtain⟨k1,k2,k3,k4⟩:=hBm _ (aP hkB);have hrise:=hBr _ (aP hkB);have ry0:=ry 0 _ rfl;rw[dX] at ry0;have htk:(B.take (k+1)).map (λb=>(gj nn E b order,jS nn E b outs))=(B.take k).map (λb=>(gj nn E b order,jS nn E b outs))++[(gj nn E B[k] order,jS nn E B[k] outs)]:=by
   rw[aG hkB,cj];rfl
  generalize B[k]=bk at *
  have hpc:=GW (n:=nn) (bk:=bk) (order:=order) (outs:=outs) rfl ry0 (ry 2 _ rfl) (ry 3 _ rfl) lb1 p3 p4 hrise (ho.ext X5 (ab _)) (hu.ext X5) hP.2.1 om m2 hol hl3;refine pD (bo 5 (M5 e4 e9 e3 a1 rPk) rfl (Z5 e4 e9 e3 a1 rPk) (M5 e4 e9 e3 a1 rPk) (hpc) λr h6 hq=>?_);obtain⟨x6,av,uv,rfl,⟨ac,ao⟩,⟨vc,vo⟩,hpf⟩:=hq;have n6:=x6.nx;have q6:h6.get h5.next=some .resv:=by rw[x6.gt _ om]; exact q5
  have rp2:cm [AV.nils,AV.nils] 1=[.nils,.nils]:=rfl;have g7:(h6.put h5.next (.cells [av,uv] 2 false)).get h5.next=some (.cells [av,uv] 2 false):=by rw[AH.get_put _ _ _ _ om,if_pos rfl]
  have x7:Ext h5.next h6 (h6.put h5.next (.cells [av,uv] 2 false)):=Ext.put (ab _);have k7:∀ c,c≠h5.next→(h6.put h5.next (.cells [av,uv] 2 false)).get c=h6.get c:=λc hc=>by rw[AH.get_put _ _ _ _ om,if_neg om]
  have n7:(h6.put h5.next (.cells [av,uv] 2 false)).next=h6.next:=AH.next_put ..;have X7:Ext h5.next h5 (h6.put h5.next (.cells [av,uv] 2 false)):=xk.trans ((x6.mono om).trans x7);have hqc:QC (h6.put h5.next (.cells [av,uv] 2 false)) a (av,uv) (gj nn E bk order,jS nn E bk outs):=QC.of hpf ⟨ac,ao⟩ ⟨vc,vo⟩ (λc q1 _=>k7 c om) om λb m e=>by have:=ja.lt e; omega
  obtain⟨a',h8,a8,i8,x8,n8⟩:=(ja.ext X7 (ab _)).push (q:=h5.next) om hqc g7 om (λb m e=>by have:=ja.lt e; omega) (by rw[ai,aS]; omega);obtain⟨sc,so⟩:=i8.cells;refine bH (by simp only[am,aK,simprocAttr,e4,eN,et q6,rp2,ao,vo,ac,vc,dP,a8]<;>rfl) ?_;refine⟨a',⟨jx.trans ((X7.mono om).trans x8),?_⟩,H6 e29 e28 e2 e3 e5 e9⟩;rw[htk];exact i8
 ·rintro a ts h5 ⟨jx,ja⟩ ⟨e2,e3,e4,e5,e9,-⟩;simp only at e4;rw[bp] at ja;have ac:=ja.cells;refine ae (aj (M1 e4) ?_);refine br ⟨_,(by simp only[rs,rf26,am,aK,simprocAttr,ac.1]<;>rfl),X4.trans (jx.mono om),λq=>absurd hk q,λ_=>⟨a,rfl,λhE hL l hl=>?_⟩⟩;rw[← hB hE hL l hl];exact ja.mono om
open Go.Am
theorem yL {h:AH}{n:Int}{ev ordv outv:AV}{es:List (Int×Int)}{order:List Int}{outs:List (List Int)} (he:SlE h ev es) (hl0:es.length<2 ^ 30) (hp:SlI h ordv order) (hq:SlL h outv outs) (hol:order.length≤200) (hlu:outs.length≤200) (hl3:∀ l∈outs,l.length≤200) :
 C prg 27 [.agg [.int .i64 n,ev],.agg [ordv,outv]] h λr h'=>(∃ b,r=.bool b∧(b=true↔OKP n es order outs))∧Ext h.next h h':=by
 refine Mw pf27 ?_;refine ae (aj (Mi0) ?_);have ga:∀ c,((h.new (.cells [.int .i64 n,ev] 2 false)).new (.cells [ordv,outv] 2 false)).get c=if c=h.next+1 then some (.cells [ordv,outv] 2 false) else if c=h.next then some (.cells [.int .i64 n,ev] 2 false) else h.get c:=λc=>by
  rw[AH.get_new,AH.get_new];rfl
 have x0:Ext h.next h ((h.new (.cells [.int .i64 n,ev] 2 false)).new (.cells [ordv,outv] 2 false)):=(Mt (ab _)).trans (Mt (by simp));have n0:((h.new (.cells [.int .i64 n,ev] 2 false)).new (.cells [ordv,outv] 2 false)).next=h.next+2:=rfl;generalize ((h.new (.cells [.int .i64 n,ev] 2 false)).new (.cells [ordv,outv] 2 false))=h1 at *
 have gG:h1.get h.next=some (.cells [.int .i64 n,ev] 2 false):=by rw[ga,if_neg om,if_pos rfl]
 have gP:h1.get (h.next+1)=some (.cells [ordv,outv] 2 false):=by rw[ga,if_pos rfl]
 have rG:ak h1 h.next 0 2=some [.int .i64 n,ev]:=by rw[aU gG]; rfl
 have rP:ak h1 (h.next+1) 0 2=some [ordv,outv]:=by rw[aU gP]; rfl
 refine ae (bN (bo 2 (Mi2 rG rP) rfl (Zi2 rG rP) (Mi2 rG rP) (JE (n:=n) (he.ext x0 (ab _)) hl0 (hp.ext x0 (ab _)) (hq.ext x0) hol hlu hl3) λr h2 hq=>?_));obtain⟨x2,hr⟩:=hq;obtain⟨v1,v2,c,a0,rfl,hc⟩:=yK hr;refine bH (by simp only[am,aK,simprocAttr,tlR]<;>rfl) ?_;by_cases q:c=0
 ·subst q;refine ae (aj (M1 @decide_true) ?_);exact br ⟨.bool true,(by simp only[rs,rf27,am,aK,simprocAttr]<;>rfl),⟨true,rfl,⟨λ_=>hc.1 rfl,λ_=>rfl⟩⟩,x0.trans (x2.mono om)⟩
 ·have c1:(c==0)=false:=by rw[beq_eq_false_iff_ne]; exact q
  have c2:decide (c=0)=false:=aw q;refine ae (aj (M2 c1 c2) ?_);exact br ⟨.bool false,(by simp only[rs,rf27,am,aK,simprocAttr]<;>rfl),⟨false,rfl,⟨λh=>(by cases h),λh=>absurd (hc.2 h) q⟩⟩,x0.trans (x2.mono om)⟩
theorem yG {h:AH}{a1 u1 a2 u2:AV}{order:List Int}{outs:List (List Int)} (s1:SlI h a1 order) (t1:SlL h u1 outs) (s2:SlI h a2 order) (t2:SlL h u2 outs) (hol:order.length<2 ^ 30) (hlu:outs.length<2 ^ 30) (hl3:∀ l∈outs,l.length<2 ^ 30) :
 C prg 28 [.agg [a1,u1],.agg [a2,u2]] h λr h'=>r=.bool true∧Ext h.next h h':=by
 have la1:=s1.len;have la2:=s2.len;rw[ai] at la1 la2;have lu1:=t1.len;have lu2:=t2.len;refine Mw pf28 ?_;refine ae (aj (Mi0) ?_);have ga:∀ c,((h.new (.cells [a1,u1] 2 false)).new (.cells [a2,u2] 2 false)).get c=if c=h.next+1 then some (.cells [a2,u2] 2 false) else if c=h.next then some (.cells [a1,u1] 2 false) else h.get c:=λc=>by
  rw[AH.get_new,AH.get_new];rfl
 have x0:Ext h.next h ((h.new (.cells [a1,u1] 2 false)).new (.cells [a2,u2] 2 false)):=(Mt (ab _)).trans (Mt (by simp));generalize ((h.new (.cells [a1,u1] 2 false)).new (.cells [a2,u2] 2 false))=h1 at *
 have gA:h1.get h.next=some (.cells [a1,u1] 2 false):=by rw[ga,if_neg om,if_pos rfl]
 have gB:h1.get (h.next+1)=some (.cells [a2,u2] 2 false):=by rw[ga,if_pos rfl]
 have ra0:ak h1 h.next 0 1=some [a1]:=bm gA rfl;have ra1:ak h1 h.next 1 1=some [u1]:=bm gA rfl;have rb0:ak h1 (h.next+1) 0 1=some [a2]:=bm gB rfl;have rb1:ak h1 (h.next+1) 1 1=some [u2]:=bm gB rfl;have s1:=s1.ext x0 (ab _);have s2:=s2.ext x0 (ab _);have t1:=t1.ext x0;have t2:=t2.ext x0;refine ae (ae (aj (Mi10 ra0 ra1 rb0 rb1 la1 la2 lu1 lu2 @decide_true @decide_true) ?_));refine dL (Z1 @decide_true) (bu ?_);refine ae (ae (aj (Mi0) ?_));refine dV (α:=Unit) (N:=order.length) (λk _=>[(2,.ptr h.next 0),(3,.ptr (h.next+1) 0),(5,.int .i64 (k:Nat))]) (λ_ _ h'=>h'=h1) () (Hi1 @bh) rfl ?_ ?_ ?_
 ·rintro k _ ts h2 hk rfl ⟨e2,e3,e5,-⟩;simp only at e2 e3 e5;exact⟨_,(M5 e2 e5 ra0 la1 @bz),Z0,H3 e2 e3 e5⟩
 ·rintro k _ ts h2 hk rfl ⟨e2,e3,e5,-⟩;simp only at e2 e3 e5;have w5:=dT (k:=k) om;obtain⟨b1,p1,i1,r1,_⟩:=s1.at1 (cq (f:=eI) hk);obtain⟨b2,p2,i2,r2,_⟩:=s2.at1 (cq (f:=eI) hk);refine ae (aj (M10 e2 e3 e5 ra0 rb0 i1 i2 r1 r2 @decide_true) ?_);exact dL (Z2 @decide_true @iO) (bu ⟨(),rfl,_,(M2 e5 w5),H2 e2 e3⟩)
 rintro _ ts h2 rfl ⟨e2,e3,e5,-⟩;simp only at e2 e3;refine ae (ae (aj (M0) ?_));refine dV (α:=Unit) (N:=outs.length) (λk _=>[(2,.ptr h.next 0),(3,.ptr (h.next+1) 0),(6,.int .i64 (k:Nat))]) (λ_ _ h'=>h'=h2) () (H3 e2 e3 @bh) rfl ?_ ?_ ?_
 ·clear e2 e3 e5;rintro k _ ts h3 hk rfl ⟨e2,e3,e6,-⟩;simp only at e2 e3 e6;exact⟨_,(M5 e2 e6 ra1 lu1 @bz),Z0,H3 e2 e3 e6⟩
 ·clear e2 e3 e5;rintro k _ ts h3 hk rfl ⟨e2,e3,e6,-⟩;simp only at e2 e3 e6;have w6:=dT (k:=k) om;obtain⟨b1,p1,v1,i1,r1,q1,_⟩:=t1.at hk;obtain⟨b2,p2,v2,i2,r2,q2,_⟩:=t2.at hk;have hrl:=hl3 _ (aP hk);generalize outs[k]=row at *
  have lr1:=q1.len;have lr2:=q2.len;rw[ai] at lr1 lr2;refine ae (ae (aj (M12 e2 e3 e6 ra1 rb1 i1 i2 r1 r2 lr1 lr2 @decide_true) ?_));refine dL (Z2 @decide_true @iO) (bu ?_);refine ae (aj (M0) ?_);refine dV (α:=Unit) (N:=row.length) (λi _=>[(2,.ptr h.next 0),(3,.ptr (h.next+1) 0),(6,.int .i64 (k:Nat)),(7,.int .i64 (i:Nat))]) (λ_ _ h'=>h'=h3) () (H4 e2 e3 e6 @bh) rfl ?_ ?_ ?_
  ·clear e2 e3 e6;rintro i _ ts h4 hi rfl ⟨e2,e3,e6,e7,-⟩;simp only at e2 e3 e6 e7;exact⟨_,(M8 e2 e6 e7 ra1 i1 r1 lr1 @bz),Z0,H4 e2 e3 e6 e7⟩
  ·clear e2 e3 e6;rintro i _ ts h4 hi rfl ⟨e2,e3,e6,e7,-⟩;simp only at e2 e3 e6 e7;have w7:=dT (k:=i) om;obtain⟨b3,p3,i3,r3,_⟩:=q1.at1 (cq (f:=eI) hi);obtain⟨b4,p4,i4,r4,_⟩:=q2.at1 (cq (f:=eI) hi);refine ae (aj (by simp only[am,aK,simprocAttr,e2,e3,e6,e7,ra1,rb1,i1,i2,r1,r2,i3,i4,r3,r4,decide_true]<;>rfl) ?_);exact dL (Z2 @decide_true @iO) (bu ⟨(),rfl,_,(M2 e7 w7),H3 e2 e3 e6⟩)
  ·clear e2 e3 e6;rintro _ ts h4 rfl ⟨e2,e3,e6,e7,-⟩;simp only at e2 e3 e6;exact⟨(),rfl,_,(M2 e6 w6),H2 e2 e3⟩
 ·rintro _ ts h3 rfl _;refine ae (aj (M0) ?_);exact br ⟨.bool true,(by simp only[rs,rf28,am,aK,simprocAttr]<;>rfl),rfl,x0⟩
end Go.Proofs.YtahepnbflofndaaGreatDoor
