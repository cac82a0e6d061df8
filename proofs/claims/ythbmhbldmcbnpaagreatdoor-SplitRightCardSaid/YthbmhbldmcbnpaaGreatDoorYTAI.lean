/- planar.Plain, arborref07.Plain -/
import Derived.Test.YthbmhbldmcbnpaaGreatDoorYTAC
import Derived.Test.YthbmhbldmcbnpaaGreatDoorYTAF
import Derived.Test.YthbmhbldmcbnpaaGreatDoorYTAE
import Derived.Test.YthbmhbldmcbnpaaGreatDoorYTAH
set_option linter.all false
namespace Go.Proofs.YthbmhbldmcbnpaaGreatDoor
open Go.Am
open Go.Spl (addG addAllG_len addAllG_mem addAllG_nodup)
def mnI (a b:Int):Int:=if b<a then b else a
def mxI (a b:Int):Int:=if b>a then b else a
def mnx (e:Int×Int):Int×Int:=(mnI e.1 e.2,mxI e.1 e.2)
theorem pk {k:IntKind}{a b:Int}:kM mxA [.int k a,.int k b]=some (.int k (if b>a then b else a)):=by
 simp [kM,mxA]
theorem AQ {a b:Int×Int}:mnx a=mnx b↔a=b∨(a.1=b.2∧a.2=b.1):=by
 obtain⟨a1,a2⟩:=a
 obtain⟨b1,b2⟩:=b
 simp only[mnx,mnI,mxI,ap]
 constructor
 ·rintro⟨h1,h2⟩
  split at h1<;>split at h1<;>split at h2<;>split at h2<;>omega
 ·rintro (⟨rfl,rfl⟩|⟨rfl,rfl⟩)
  ·exact⟨rfl,rfl⟩
  ·constructor<;>split<;>split<;>omega
def lF (n:Int) (E:List (Int×Int)):Prop:=fE n E=true∧(∀ e∈E,e.1≠e.2)∧(E.map mnx).Nodup
set_option maxHeartbeats 1000000 in
theorem tU {h:AH}{n:Int}{ev:AV}{E:List (Int×Int)} (he:SlE h ev E) (hxl:E.length<2 ^ 40):C prg 25 [.agg [.int .i64 n,ev]] h λr h'=>∃ b,r=.bool b∧(b=true↔lF n E)∧Ext h.next h h':=by
 obtain⟨ec,eo⟩:=he.cells
 have el:=he.len
 rw[ar] at el
 refine NX pf25 ?_
 refine ah (ak (Mi0) ?_)
 have x0:Ext h.next h (h.new (.cells [.int .i64 n,ev] 2 false)):=NU (ae _)
 have g0:(h.new (.cells [.int .i64 n,ev] 2 false)).get h.next=some (.cells [.int .i64 n,ev] 2 false):=by rw[AH.get_new,if_pos rfl]
 have n0:(h.new (.cells [.int .i64 n,ev] 2 false)).next=h.next+1:=rfl
 generalize (h.new (.cells [.int .i64 n,ev] 2 false))=h1 at *
 have rA:aj h1 h.next 0 2=some [.int .i64 n,ev]:=by rw[aP g0]; rfl
 refine ah (ah (bF (bg 1 (Mi1 rA) rfl (Zi1 rA) (Mi1 rA) (vO (n:=n) (he.ext x0 (ae _)) hxl) λr h2 hq=>?_)))
 obtain⟨rfl,x2⟩:=hq
 have X2:Ext h.next h h2:=x0.trans (x2.mono om)
 refine bp (M0) ?_
 cases hm:fE n E with
 | false =>
   refine bq (Z0) (ah (ak (M0) ?_))
   exact aV ⟨.bool false,(by simp only[rs,rf25,am,aC,simprocAttr]<;>rfl),false,rfl,⟨(λq=>by cases q),λq=>by rw[q.1] at hm; cases hm⟩,X2⟩
 | true =>
 refine cj (Z0) (be ?_)
 have n2:=x2.nx
 have g2:h2.get h.next=some (.cells [.int .i64 n,ev] 2 false):=by rw[x2.gt _ om]; exact g0
 have rE:aj h2 h.next 1 1=some [ev]:=aJ g2 rfl
 have x3:Ext h2.next h2 (h2.new (.mapo [] 0)):=NU (ae _)
 have g3:(h2.new (.mapo [] 0)).get h2.next=some (.mapo [] 0):=by rw[AH.get_new,if_pos rfl]
 have n3:(h2.new (.mapo [] 0)).next=h2.next+1:=rfl
 refine ah (ak (M0) ?_)
 generalize (h2.new (.mapo [] 0))=h3 at *
 have rE3:aj h3 h.next 1 1=some [ev]:=by rw[bG (x3.gt _ om)]; exact rE
 have X3:Ext h.next h h3:=X2.trans (x3.mono om)
 refine ah (ah (ak (Mi2 rE3 el) ?_))
 refine fW (α:=List ((Int×Int)×AV)) (N:=E.length) (λ_ _=>[(1,.ptr h.next 0),(3,.mp h2.next),(11,ev)])
  (λk l h'=>MapG (λk:Int×Int=>AV.agg [.int .i64 k.1,.int .i64 k.2]) h' h2.next l∧l.map (·.1)=((E.take k).map mnx).foldl addG []∧(∀ p∈l,∃ z,p.2=.int .i64 z)∧(∀ i (hi:i<E.length),i<k→E[i].1≠E[i].2)∧h'.get h.next=some (.cells [.int .i64 n,ev] 2 false)∧Ext h.next h h'∧h3.next≤h'.next) [] (λ_ _=>rfl) om (Hi0)
  ⟨MapG.nil g3,rfl,(λp hp=>by cases hp),(λi hi q=>absurd q (bm _)),by rw[x3.gt _ om]; exact g2,X3,ae _⟩ ?_ ?_
 ·rintro k l ts h4 hk ⟨j1,j2,j3,j4,j5,j6,j7⟩ ⟨ei,en,e1,e3,e11,-⟩
  simp only at ei en e1 e3 e11
  obtain⟨b1,p1,a1,r1,_⟩:=(he.ext j6 (ae _)).at (dp (f:=eE) hk)
  have hst:(((E.take (k+1)).map mnx).foldl addG [])=addG (((E.take k).map mnx).foldl addG []) (mnx E[k]):=by
   rw[aX hk,br,dv]; rfl
  have hEk:E[k]∈E:=aO hk
  have hj4:E[k].1≠E[k].2→∀ i (hi:i<E.length),i<k+1→E[i].1≠E[i].2:=λq i hi hik=>by
   by_cases e:i=k
   ·subst e; exact q
   ·exact j4 i hi om
  generalize E[k]=e at *
  obtain⟨a,b⟩:=e
  have r1:aj h4 b1 p1 2=some [.int .i64 a,.int .i64 b]:=r1
  obtain⟨h5,w5,x5,g5,n5⟩:=dI (h:=h4) (z:=[.int .i64 0,.int .i64 0]) (cs:=[.int .i64 a,.int .i64 b]) (e:=2) rfl
  refine bL (ah (ak (M5 e11 ei a1 r1 w5) ?_))
  have ra:aj h5 h4.next 0 1=some [.int .i64 a]:=aJ g5 rfl
  have rb:aj h5 h4.next 1 1=some [.int .i64 b]:=aJ g5 rfl
  have m5:=j1.cong (x5.gt _ j1.lt)
  have hlk:∃ z,(lkG l (mnx (a,b))).getD (AV.int .i64 0)=.int .i64 z:=by
   cases q:lkG l (mnx (a,b)) with
   | none=>exact⟨0,rfl⟩
   | some v =>
     obtain⟨z,hz⟩:=j3 _ (vD q)
     exact⟨z,hz⟩
  obtain⟨z,hz⟩:=hlk
  have lk:=m5.look keyP (.int .i64 0) (mnx (a,b))
  obtain⟨h6,sn,m6,⟨o6,u6⟩,lk6,hm6⟩:=m5.men keyP (.int .i64 0) (mnx (a,b))
  rw[hz] at lk m6 lk6
  obtain⟨h7,s7,m7,o7,u7⟩:=hm6 (.int .i64 (IntKind.i64.wrap (z+1)))
  have lk:fZ h5 (.flat [.i64,.i64]) false (.int .i64 0) (.mp h2.next) (.agg [.int .i64 (if b<a then b else a),.int .i64 (if b>a then b else a)])=some (.int .i64 z):=lk
  have m6:tj h5 (.flat [.i64,.i64]) (.int .i64 0) (.mp h2.next) (.agg [.int .i64 (if b<a then b else a),.int .i64 (if b>a then b else a)])=some (.tup [.int .i64 z,.int .i64 ((sn:Nat):Int)],h6):=m6
  have lk6:fZ h6 (.flat [.i64,.i64]) false (.int .i64 0) (.mp h2.next) (.agg [.int .i64 (if b<a then b else a),.int .i64 (if b>a then b else a)])=some (.int .i64 z):=lk6
  refine ah (ak (M10 e3 ra rb @iH @pk lk m6 lk6 s7 s7) ?_)
  have hmb:=j1.lt
  have ra7:aj h7 h4.next 0 1=some [.int .i64 a]:=by rw[bG (u7.ne om),bG (u6.ne om)]; exact ra
  have rb7:aj h7 h4.next 1 1=some [.int .i64 b]:=by rw[bG (u7.ne om),bG (u6.ne om)]; exact rb
  have X7:Ext h.next h h7:=((j6.trans (x5.mono (by have:=j6.nx; omega))).trans (u6.ext om)).trans (u7.ext om)
  by_cases q:a=b
  ·have c1:decide (a=b)=true:=aq q
   refine ah (ak (M3 ra7 rb7 c1) ?_)
   refine bq (Z0) (ah (ak (M0) ?_))
   exact aV ⟨.bool false,(by simp only[rs,rf25,am,aC,simprocAttr]<;>rfl),false,rfl,⟨(λq=>by cases q),λp=>absurd q (p.2.1 _ hEk)⟩,X7⟩
  ·have c1:decide (a=b)=false:=ai q
   refine ah (ak (M3 ra7 rb7 c1) ?_)
   refine cj (Z0) (be ?_)
   refine⟨upG l (mnx (a,b)) (.int .i64 (IntKind.i64.wrap (z+1))),⟨m7,?_,λp hp=>?_,hj4 q,?_,X7,?_⟩,H5 ei en e1 e3 e11⟩
   ·rw[qL,hst,← j2]
    rfl
   ·have hn:=m7.nod
    have hl:=AR hn p hp
    rw[kh] at hl
    split at hl
    ·injection hl with hl; exact⟨_,hl.symm⟩
    ·exact j3 _ (vD hl)
   ·have:=AH.lt_of_get j5
    rw[u7.ne om,u6.ne om,x5.gt _ this]
    exact j5
   ·rw[u7.nx,u6.nx,n5]; omega
 ·rintro l ts h4 ⟨j1,j2,j3,j4,j5,j6,j7⟩ ⟨e1,e3,e11,-⟩
  simp only at e1 e3 e11
  have rE4:aj h4 h.next 1 1=some [ev]:=aJ j5 rfl
  have ml:=j1.len
  refine ah (ak (M5 e1 e3 ml rE4 el) ?_)
  refine aV ⟨.bool (decide (((l.length:Nat):Int)=((E.length:Nat):Int))),(by simp only[rs,rf25,am,aC,simprocAttr]<;>rfl),_,rfl,?_,j6⟩
  have hl:=congrArg List.length j2
  rw[ar,bO] at hl
  have hk:=(addAllG_len (E.map mnx) []).2
  rw[← hl,ar,bo,bM] at hk
  rw[az]
  have:(((l.length:Nat):Int)=((E.length:Nat):Int))↔l.length=E.length:=om
  rw[this,hk]
  constructor
  ·rintro⟨q,_⟩
   exact⟨hm,λe he=>by
    obtain⟨i,hi,rfl⟩:=db he
    exact j4 i hi hi,q⟩
  ·exact λq=>⟨q.2.2,λx _ hx=>by cases hx⟩
open Go.Am
def fY (a b:Int):Int:=IntKind.u64.wrap ((BitVec.ofInt 64 a ||| BitVec.ofInt 64 b).toNat)
def vd (a b:Int):Int:=IntKind.u64.wrap ((BitVec.ofInt 64 a &&& BitVec.ofInt 64 b).toNat)
def qR (a x:Int):Int:=a.fdiv (2 ^ (min x.toNat IntKind.u64.bits))
def lX (a x:Int):Int:=IntKind.u64.wrap (a*2 ^ (min x.toNat IntKind.u64.bits))
def fG (s x:Int):Bool:=decide (0≤x)&&(decide (x<64)&&decide (vd (qR s x) 1=1))
def ofU (x:Int):Int:=if 0≤x∧x<64 then fY 0 (lX 1 x) else 0
theorem mF {a b:Int}:du .or .no (.int .u64 a) (.int .u64 b)=some (.int .u64 (fY a b)):=rfl
theorem Ds {a b:Int}:du .and .no (.int .u64 a) (.int .u64 b)=some (.int .u64 (vd a b)):=rfl
theorem zX {a x:Int} (h:0≤x):du .shr .no (.int .u64 a) (.int .i64 x)=some (.int .u64 (qR a x)):=by
 have e:du .shr .no (.int .u64 a) (.int .i64 x)=vj .shr .u64 a x:=by simp [du]
 have hk0:¬ x<0:=om
 rw[e]
 simp only[vj,hk0,if_false,qR]
theorem nR {a x:Int} (h:0≤x):du .shl .no (.int .u64 a) (.int .i64 x)=some (.int .u64 (lX a x)):=by
 have e:du .shl .no (.int .u64 a) (.int .i64 x)=vj .shl .u64 a x:=by simp [du]
 have hk0:¬ x<0:=om
 rw[e]
 simp only[vj,hk0,if_false,lX]
theorem qN (z:Int):0≤IntKind.u64.wrap z∧IntKind.u64.wrap z<2 ^ 64:=by
 simp only[IntKind.wrap,IntKind.bits,IntKind.signed,eD,bj,if_false]
 omega
theorem rF {a b:Nat} (ha:a<2 ^ 64) (hb:b<2 ^ 64):fY (a:Nat) (b:Nat)=((a ||| b:Nat):Int):=by
 have h:a ||| b<2 ^ 64:=Dz ha hb
 unfold fY
 have e:(BitVec.ofInt 64 ((a:Nat):Int) ||| BitVec.ofInt 64 ((b:Nat):Int)).toNat=a ||| b:=by
  rw[BitVec.toNat_or,BitVec.ofInt_natCast,BitVec.ofInt_natCast,BitVec.toNat_ofNat,BitVec.toNat_ofNat,lH ha,lH hb]
 rw[e]
 exact IntWalk.u64_in _ ⟨om,om⟩
def inU (z:Int):Prop:=0≤z∧z<2 ^ 64
theorem lf {a b:Int} (ha:inU a) (hb:inU b):a≤fY a b∧b≤fY a b∧inU (fY a b):=by
 obtain⟨a1,a2⟩:=ha
 obtain⟨b1,b2⟩:=hb
 obtain⟨x,rfl⟩:=cS a1
 obtain⟨y,rfl⟩:=cS b1
 have hx:x<2 ^ 64:=om
 have hy:y<2 ^ 64:=om
 rw[rF hx hy]
 have h1:x≤x ||| y:=Nat.left_le_or
 have h2:y≤x ||| y:=Nat.right_le_or
 have h3:x ||| y<2 ^ 64:=Dz hx hy
 unfold inU
 omega
theorem rq {h:AH}{s x:Int}:C prg 64 [.int .u64 s,.int .i64 x] h λr h'=>r=.bool (fG s x)∧h'=h:=by
 refine NX pf64 ?_
 refine ah (ak (Mi0) ?_)
 by_cases q1:0≤x
 ·have c1:decide (0≤x)=true:=aq q1
  by_cases q2:x<64
  ·have c2:decide (x<64)=true:=aq q2
   refine ah (ak (by simp only[am,aC,simprocAttr,bI,c1,c2,zX q1,Ds]<;>rfl) ?_)
   exact aV ⟨_,(by simp only[rs,rf64,am,aC,simprocAttr]<;>rfl),by rw[fG,c1,c2]; rfl,rfl⟩
  ·have c2:decide (x<64)=false:=ai q2
   refine ah (ak (Mi2 c1 c2) ?_)
   exact aV ⟨_,(by simp only[rs,rf64,am,aC,simprocAttr]<;>rfl),by rw[fG,c1,c2]; rfl,rfl⟩
 ·have c1:decide (0≤x)=false:=ai q1
  refine ah (ak (Mi1 c1) ?_)
  exact aV ⟨_,(by simp only[rs,rf64,am,aC,simprocAttr]<;>rfl),by rw[fG,c1]; rfl,rfl⟩
theorem ow (x:Int):fG 0 x=false:=by
 unfold fG
 have:vd (qR 0 x) 1=0:=by
  unfold qR
  rw[Int.zero_fdiv]
  decide
 rw[this]
 simp
theorem IP {h:AH}{lb:Nat}{x:Int} (hg:h.get lb=some (.cells [.int .i64 x] 1 false)):C prg 24 [.sl lb 0 1 1] h λr h'=>r=.int .u64 (ofU x)∧h'=h:=by
 refine NX pf24 ?_
 refine ah (ak (Mi0) ?_)
 refine ah (ah (ak (Mi0) ?_))
 have i0:eQ 0 1=some 0:=rfl
 refine fW (α:=Int) (N:=1) (λ_ s=>[(2,.int .u64 s),(5,.sl lb 0 1 1)]) (λk s h'=>h'=h∧s=if k=0 then 0 else ofU x) 0 (λ_ _=>rfl) om (Hi0) ⟨rfl,rfl⟩ ?_ ?_
 ·rintro k s ts h1 hk ⟨rfl,j2⟩ ⟨ei,en,e2,e5,-⟩
  simp only at ei en e2 e5
  obtain rfl:k=0:=om
  rw[if_pos rfl] at j2
  subst j2
  have r0:aj h1 lb 0 1=some [.int .i64 x]:=aJ hg rfl
  refine ah (ak (M4 e5 ei i0 r0) ?_)
  by_cases q1:0≤x
  ·have c1:decide (0≤x)=true:=aq q1
   by_cases q2:x<64
   ·have c2:decide (x<64)=true:=aq q2
    refine ah (ak (M3 e2 c1 c2) ?_)
    refine bq (Z0) ?_
    refine ak (by simp only[am,aC,simprocAttr,e2,nR q1,mF]<;>rfl) ?_
    exact⟨fY 0 (lX 1 x),⟨rfl,by rw[if_neg om,ofU,if_pos ⟨q1,q2⟩]⟩,H3 ei en e5⟩
   ·have c2:decide (x<64)=false:=ai q2
    refine ah (ak (M3 e2 c1 c2) ?_)
    refine cj (Z0) ?_
    exact be ⟨0,⟨rfl,by rw[if_neg om,ofU,if_neg λq=>q2 q.2]⟩,H4 ei en e2 e5⟩
  ·have c1:decide (0≤x)=false:=ai q1
   refine ah (ak (M2 e2 c1) ?_)
   refine cj (Z0) ?_
   exact be ⟨0,⟨rfl,by rw[if_neg om,ofU,if_neg λq=>q1 q.1]⟩,H4 ei en e2 e5⟩
 ·rintro s ts h1 ⟨rfl,j2⟩ ⟨e2,e5,-⟩
  simp only at e2 e5
  rw[if_neg om] at j2
  subst j2
  refine ah (ak (M1 e2) ?_)
  exact aV ⟨_,(by simp only[rs,rf24,am,aC,simprocAttr]<;>rfl),rfl,rfl⟩
theorem AL (x:Int):inU (ofU x):=by
 unfold ofU
 split
 ·exact (lf (by unfold inU; omega) (qN _)).2.2
 ·unfold inU; omega
def uI (z:Int):List AV:=[.int .u64 z]
theorem qH (xs:List Int):xs.flatMap uI=xs.map (AV.int .u64):=by
 induction xs with
 | nil=>rfl
 | cons x r ih=>rw[cX,ih]; rfl
theorem nG (xs:List Int):(xs.flatMap uI).length=xs.length:=by rw[qH,ar]
theorem GA {xs:List Int}{i:Nat} (hi:i<xs.length):(xs.flatMap uI)[i]?=some (.int .u64 (xs.getD i 0)):=by
 rw[qH,aE,au hi,aF,au hi]
 rfl
theorem Ey {xs:List Int}{i:Nat}{z:Int}:(xs.flatMap uI).set i (.int .u64 z)=(xs.set i z).flatMap uI:=by
 rw[qH,qH,mX]
def sT (n:Nat):List Int:=(List.range n).map λx=>ofU ((x:Nat):Int)
theorem Cd {h:AH}{n:Nat}{ev:AV}{E:List (Int×Int)} (he:SlE h ev E) (hm:fE (n:Nat) E=true) :
 C prg 61 [.agg [.int .i64 (n:Nat),ev]] h λr h'=>IsSl h' 1 h.next r ((sT n).flatMap uI)∧Ext h.next h h':=by
 obtain⟨ec,eo⟩:=he.cells
 obtain⟨m1,m2,m3,m4⟩:=pn hm
 refine NX pf61 ?_
 refine ah (ak (Mi0) ?_)
 have x0:Ext h.next h (h.new (.cells [.int .i64 (n:Nat),ev] 2 false)):=NU (ae _)
 have g0:(h.new (.cells [.int .i64 (n:Nat),ev] 2 false)).get h.next=some (.cells [.int .i64 (n:Nat),ev] 2 false):=by rw[AH.get_new,if_pos rfl]
 have n0:(h.new (.cells [.int .i64 (n:Nat),ev] 2 false)).next=h.next+1:=rfl
 generalize (h.new (.cells [.int .i64 (n:Nat),ev] 2 false))=h1 at *
 have rA:aj h1 h.next 0 2=some [.int .i64 (n:Nat),ev]:=by rw[aP g0]; rfl
 refine ah (ah (bF (bg 1 (Mi1 rA) rfl (Zi1 rA) (Mi1 rA) (vO (n:=((n:Nat):Int)) (he.ext x0 (ae _)) om) λr h2 hq=>?_)))
 obtain⟨rfl,x2⟩:=hq
 rw[hm]
 refine bp (M0) ?_
 refine cj (Z0) (be ?_)
 have n2:=x2.nx
 have X2:Ext h.next h h2:=x0.trans (x2.mono om)
 have g2:h2.get h.next=some (.cells [.int .i64 (n:Nat),ev] 2 false):=by rw[x2.gt _ om]; exact g0
 have rN:aj h2 h.next 0 1=some [.int .i64 (n:Nat)]:=aJ g2 rfl
 refine ah (ah (ak (Mi1 rN) ?_))
 refine fW (α:=AV) (N:=n) (λ_ a=>[(2,a)]) (λk a h'=>IsSl h' 1 h.next a (((List.range k).map λx=>ofU ((x:Nat):Int)).flatMap uI)∧Ext h.next h h') .nils (λ_ _=>rfl) om (Hi0) ⟨.inl ⟨rfl,rfl⟩,X2⟩ ?_ ?_
 ·rintro k a ts h3 hk ⟨j1,j2⟩ ⟨ei,en,e2,-⟩
  simp only at ei en e2
  refine ah (ak (M1 ei) ?_)
  have gx:(h3.new (.cells [.int .i64 ((k:Nat):Int)] 1 false)).get h3.next=some (.cells [.int .i64 ((k:Nat):Int)] 1 false):=by rw[AH.get_new,if_pos rfl]
  have nx3:(h3.new (.cells [.int .i64 ((k:Nat):Int)] 1 false)).next=h3.next+1:=rfl
  have xx3:Ext h.next h3 (h3.new (.cells [.int .i64 ((k:Nat):Int)] 1 false)):=NU j2.nx
  refine bF (bg 3 (M2 e2 ei) rfl (Z2 e2 ei) (M2 e2 ei) (IP gx) λr h4 hq=>?_)
  obtain⟨rfl,rfl⟩:=hq
  have hlen:(((List.range k).map λx=>ofU ((x:Nat):Int)).flatMap uI).length=k:=by rw[nG]; simp
  have j1':=j1.ext (NU (o:=.cells [.int .i64 ((k:Nat):Int)] 1 false) (ae h3.next)) (ae _)
  generalize (h3.new (.cells [.int .i64 ((k:Nat):Int)] 1 false))=h4 at *
  have j2n:=j2.nx
  obtain⟨s',h5,a1,i1,x1,n1⟩:=j1'.push (bytes:=8) (uI (ofU ((k:Nat):Int))) om om rfl rfl (by rw[hlen]; unfold aQ; omega) (by rw[hlen]; unfold aQ; omega)
  rw[show uI (ofU ((k:Nat):Int))=[.int .u64 (ofU ((k:Nat):Int))] from rfl] at a1 i1
  refine bp (M2 e2 a1) ?_
  refine⟨s',⟨?_,j2.trans (xx3.trans x1)⟩,H2 ei en⟩
  rw[bT,br,cI]
  exact i1
 ·rintro a ts h3 ⟨j1,j2⟩ ⟨e2,-⟩
  simp only at e2
  refine ah (ak (M1 e2) ?_)
  exact aV ⟨a,(by simp only[rs,rf61,am,aC,simprocAttr,j1.cells.1]<;>rfl),j1,j2⟩
def gw (ss:List Int) (e:Int×Int):List Int:=(ss.set e.1.toNat (fY (ss.getD e.1.toNat 0) (ss.getD e.2.toNat 0))).set e.2.toNat (fY (ss.getD e.1.toNat 0) (ss.getD e.2.toNat 0))
open Classical in
theorem vg:∀ (ss:List Int) (i:Nat) (v:Int),i<ss.length→(ss.set i v).sum=ss.sum-ss.getD i 0+v
 | [],i,v,h=>absurd h (bm _)
 | x::r,0,v,h=>by simp only[Ag,lK,List.getD_cons_zero]; omega
 | x::r,i+1,v,h=>by
   simp only[nU,lK,List.getD_cons_succ]
   rw[vg r i v (tc h)]
   omega
theorem DJ:∀ {ss:List Int},(∀ z∈ss,inU z)→ss.sum≤(ss.length:Nat)*2 ^ 64
 | [],_=>by simp
 | x::r,h=>by
   have h1:=DJ λz hz=>h z (aM _ hz)
   have h2:=(h x (aK ..)).2
   simp only[lK,aR]
   omega
theorem xV {ss:List Int}{i:Nat} (h:i<ss.length):ss.getD i 0∈ss:=by
 rw[aF,au h]
 exact aO h
theorem Ax {ss:List Int}{i:Nat}{v:Int} (h:∀ z∈ss,inU z) (hv:inU v):∀ z∈ss.set i v,inU z:=λz hz=>by
 rcases oK hz with h1|rfl
 ·exact h z h1
 ·exact hv
theorem DK {ss:List Int}{a b:Nat} (h:∀ z∈ss,inU z) (ha:a<ss.length) (hb:b<ss.length) :
 (gw ss (((a:Nat):Int),((b:Nat):Int))).length=ss.length∧(∀ z∈gw ss (((a:Nat):Int),((b:Nat):Int)),inU z)∧ss.sum≤(gw ss (((a:Nat):Int),((b:Nat):Int))).sum ∧
 (fY (ss.getD a 0) (ss.getD b 0)=ss.getD a 0→fY (ss.getD a 0) (ss.getD b 0)=ss.getD b 0→gw ss (((a:Nat):Int),((b:Nat):Int))=ss) ∧
 (¬ (fY (ss.getD a 0) (ss.getD b 0)=ss.getD a 0∧fY (ss.getD a 0) (ss.getD b 0)=ss.getD b 0)→ss.sum<(gw ss (((a:Nat):Int),((b:Nat):Int))).sum):=by
 unfold gw
 simp only[eC]
 obtain⟨o1,o2,o3⟩:=lf (h _ (xV ha)) (h _ (xV hb))
 generalize fY (ss.getD a 0) (ss.getD b 0)=v at *
 have hs:((ss.set a v).set b v).sum=ss.sum-ss.getD a 0+v-(ss.set a v).getD b 0+v:=by
  rw[vg _ _ _ (by rw[dc]; exact hb),vg _ _ _ ha]
 have hg:(ss.set a v).getD b 0=if a=b then v else ss.getD b 0:=by
  rw[aF,cn,aF]
  by_cases q:a=b
  ·subst q; rw[if_pos rfl,if_pos rfl,if_pos ha]; rfl
  ·rw[if_neg q,if_neg q]
 refine⟨by simp,Ax (Ax h o3) o3,?_,λe1 e2=>?_,λhn=>?_⟩
 ·rw[hs,hg]; split<;>omega
 ·have es:∀ i,i<ss.length→v=ss.getD i 0→ss.set i v=ss:=λi hi e=>by
   rw[e,aF,au hi]
   exact List.set_getElem_self ..
  rw[es a ha e1,es b hb e2]
 ·rw[hs,hg]
  split
  ·rename_i q; subst q; omega
  ·omega
def jZ (ss:List Int) (a:List Int×Int) (k:Nat):List Int×Int:=if fG a.2 ((k:Nat):Int) then a else (a.1++[ss.getD k 0],fY a.2 (ss.getD k 0))
open Go.Am
inductive ClU (E:List (Int×Int)) (P:Nat→Bool) (s0:List Int):List Int→Prop
 | base:ClU E P s0 s0
 | step {s:List Int}{i:Nat} (h:ClU E P s0 s) (hi:i<E.length) (hp:P i=true):ClU E P s0 (gw s E[i])
set_option maxHeartbeats 1000000 in
theorem zd {h:AH}{n ab:Nat}{ev:AV}{E:List (Int×Int)}{f:FuncId}{caps:List AV}{s0:List Int}{P:Nat→Bool} (he:SlE h ev E) (hm:fE (n:Nat) E=true) (hoff:∀ b o m c,ev=.sl b o m c→b≠ab)
 (hg:h.get ab=some (.cells (s0.flatMap uI) 1 false)) (hs0:s0.length=n) (hu:∀ z∈s0,inU z)
 (hcl:∀ h',h.next≤h'.next→(∀ c,c<h.next→c≠ab→h'.get c=h.get c)→∀ i:Nat,i<E.length→C prg f ([.int .i64 (i:Nat)]++caps) h' λr h''=>r=.bool (P i)∧Ext h'.next h' h'') :
 C prg 62 [.agg [.int .i64 (n:Nat),ev],.sl ab 0 n n,.bool true,.fn f caps] h λ_ h'=>∃ s,ClU E P s0 s∧(∀ i (hi:i<E.length),P i=true→gw s E[i]=s)∧s.length=n∧(∀ z∈s,inU z)∧Mod h.next h h' ab (.cells (s.flatMap uI) 1 false):=by
 obtain⟨ec,eo⟩:=he.cells
 obtain⟨m1,m2,m3,m4⟩:=pn hm
 have hab:=AH.lt_of_get hg
 have hlim:∀ {s:List Int},s.length=n→(∀ z∈s,inU z)→s.sum≤(n:Nat)*2 ^ 64:=fun {s} h1 h2=>by rw[← h1]; exact DJ h2
 have el:=he.len
 rw[ar] at el
 refine NX pf62 ?_
 refine ah (ak (Mi0) ?_)
 have x0:Ext h.next h (h.new (.cells [.int .i64 (n:Nat),ev] 2 false)):=NU (ae _)
 have g0:(h.new (.cells [.int .i64 (n:Nat),ev] 2 false)).get h.next=some (.cells [.int .i64 (n:Nat),ev] 2 false):=by rw[AH.get_new,if_pos rfl]
 have n0:(h.new (.cells [.int .i64 (n:Nat),ev] 2 false)).next=h.next+1:=rfl
 generalize (h.new (.cells [.int .i64 (n:Nat),ev] 2 false))=h1 at *
 have M1:Mod h.next h h1 ab (.cells (s0.flatMap uI) 1 false):=x0.mod (Mod.refl (by rw[x0.gt _ hab]; exact hg))
 refine ah (ak (Mi0) ?_)
 refine bL (fI (λm ts h'=>∃ (s:List Int) (b:Bool),ClU E P s0 s∧s.length=n∧(∀ z∈s,inU z)∧(b=false→∀ i (hi:i<E.length),P i=true→gw s E[i]=s)∧m=(if b then (((n:Nat):Int)*2 ^ 64-s.sum).toNat+1 else 0)∧Mod h.next h h' ab (.cells (s.flatMap uI) 1 false) ∧
  h'.get h.next=some (.cells [.int .i64 (n:Nat),ev] 2 false)∧Held [(1,.sl ab 0 n n),(2,.bool true),(3,.fn f caps),(4,.ptr h.next 0),(8,.bool b)] ts) ?_ (n:=(((n:Nat):Int)*2 ^ 64-s0.sum).toNat+1)
  ⟨s0,true,.base,hs0,hu,(λe=>by cases e),rfl,M1,g0,Hi0⟩)
 clear g0 M1 x0 n0
 rintro m ts h2 ⟨s,b,hk,hsl,hsu,hst,rfl,M2,g2,e1,e2,e3,e4,e8,-⟩
 simp only at e1 e2 e3 e4 e8
 refine ah (ah (ak (M1 e8) ?_))
 cases b with
 | false =>
   refine cj (Z0) ?_
   exact eX ⟨λ_=>⟨.tup [],rfl,s,hk,hst rfl,hsl,hsu,M2⟩,λe=>absurd rfl e⟩
 | true =>
 refine bq (Z0) (be ?_)
 refine bL (ah (ak (M0) ?_))
 have rE:aj h2 h.next 1 1=some [ev]:=aJ g2 rfl
 refine ah (ak (M3 e4 rE el) ?_)
 have hnb:h.next≠ab:=om
 refine fW (α:=List Int×Bool) (N:=E.length) (λ_ a=>[(15,ev),(1,.sl ab 0 n n),(2,.bool true),(3,.fn f caps),(4,.ptr h.next 0),(8,.bool a.2)])
  (λk a h'=>ClU E P s0 a.1∧a.1.length=n∧(∀ z∈a.1,inU z)∧s.sum≤a.1.sum∧(a.2=false→a.1=s∧∀ i (hi:i<E.length),i<k→P i=true→gw s E[i]=s)∧(a.2=true→s.sum<a.1.sum)∧Mod h.next h h' ab (.cells (a.1.flatMap uI) 1 false)∧h'.get h.next=some (.cells [.int .i64 (n:Nat),ev] 2 false))
  (s,false) (λ_ _=>rfl) om (H4 e1 e2 e3 e4) ⟨hk,hsl,hsu,Int.le_refl _,λ_=>⟨rfl,λi hi h=>absurd h (bm _)⟩,(λe=>by cases e),M2,g2⟩ ?_ ?_
 ·clear e1 e2 e3 e4 e8 rE
  rintro k ⟨t,b⟩ ts h3 hk2 ⟨j1,j2,j3,j4,j5,j6,j7,j8⟩ ⟨ei,en,e15,e1,e2,e3,e4,e8,-⟩
  simp only at ei en e15 e1 e2 e3 e4 e8 j1 j2 j3 j4 j5 j6 j7 j8
  obtain⟨a,bb,eab,ha,hb⟩:=AJ (bS.1 m4 _ (aO hk2))
  have n3:=j7.nx
  have he3:SlE h3 ev E:=he.cong λb o m c e=>j7.gt b (hoff b o m c e) (he.lt e)
  obtain⟨qb,qp,a1,r1,_⟩:=he3.at (dp (f:=eE) hk2)
  rw[eab] at r1
  have r1:aj h3 qb qp 2=some [.int .i64 (a:Nat),.int .i64 (bb:Nat)]:=r1
  obtain⟨h4,w4,x4,g4,n4⟩:=dI (h:=h3) (z:=[.int .i64 0,.int .i64 0]) (cs:=[.int .i64 (a:Nat),.int .i64 (bb:Nat)]) (e:=2) rfl
  refine ah (ak (M5 e15 ei a1 r1 w4) ?_)
  have M4:=j7.ext hab (x4.mono n3)
  have hc:=hcl h4 M4.nx (λc c1 c2=>M4.gt c c2 c1) k hk2
  refine ah (ah (bF (mL 2 (M1 e3) rfl (Z1 e3) (M1 e3) (M1 e3) (hc) λr h5 hq=>?_)))
  obtain⟨rfl,x5⟩:=hq
  refine bp (M0) ?_
  have n5:=x5.nx
  have M5:=M4.ext hab (x5.mono M4.nx)
  cases hP:P k with
  | false =>
    refine bq (Z0) (eX ⟨λ_=>⟨(t,b),⟨j1,j2,j3,j4,λhf=>⟨(j5 hf).1,λi hi hik hp=>?_⟩,j6,M5,?_⟩,H8 ei en e15 e1 e2 e3 e4 e8⟩,λe=>absurd rfl e⟩)
    ·by_cases hik':i=k
     ·subst hik'
      rw[hP] at hp
      cases hp
     ·exact (j5 hf).2 i hi om hp
    ·have:=AH.lt_of_get j8
     rw[x5.gt _ om,x4.gt _ this]
     exact j8
  | true =>
  refine cj (Z0) (be ?_)
  have g5:h5.get h3.next=some (.cells [.int .i64 (a:Nat),.int .i64 (bb:Nat)] 2 false):=by rw[x5.gt _ om]; exact g4
  have gA:=M5.get
  have gB:h5.get h.next=some (.cells [.int .i64 (n:Nat),ev] 2 false):=by
   have:=AH.lt_of_get j8
   rw[x5.gt _ om,x4.gt _ this]
   exact j8
  have rx:aj h5 h3.next 0 1=some [.int .i64 (a:Nat)]:=aJ g5 rfl
  have ry:aj h5 h3.next 1 1=some [.int .i64 (bb:Nat)]:=aJ g5 rfl
  have ia:eQ ((a:Nat):Int) n=some a:=cJ ha
  have ib:eQ ((bb:Nat):Int) n=some bb:=cJ hb
  have ra:aj h5 ab a 1=some [.int .u64 (t.getD a 0)]:=aJ gA (GA om)
  have rb:aj h5 ab bb 1=some [.int .u64 (t.getD bb 0)]:=aJ gA (GA om)
  refine ah (ak (by simp only[am,aC,simprocAttr,e1,rx,ry,ia,ib,aD,ra,rb,mF]<;>rfl) ?_)
  refine ah (ah (ak (M1 e2) ?_))
  refine bq (Z0) ?_
  refine ak (M0) ?_
  obtain⟨s1,s2,s3,s4,s5⟩:=DK (b:=bb) j3 (show a<t.length by omega) om
  have hst:gw t (((a:Nat):Int),((bb:Nat):Int))=(t.set a (fY (t.getD a 0) (t.getD bb 0))).set bb (fY (t.getD a 0) (t.getD bb 0)):=rfl
  have hcl':ClU E P s0 (gw t (((a:Nat):Int),((bb:Nat):Int))):=by
   have:=ClU.step (i:=k) j1 hk2 hP
   rw[eab] at this
   exact this
  generalize hv:fY (t.getD a 0) (t.getD bb 0)=v at *
  refine ah (oI (λts h'=>h5=h'∧Held [(17,.int .i64 (k:Nat)),(16,.int .i64 (E.length:Nat)),(15,ev),(1,.sl ab 0 n n),(2,.bool true),(3,.fn f caps),(4,.ptr h.next 0),(10,.ptr h3.next 0),(11,.int .u64 v),(12,.int .u64 v),(8,.bool (b||!decide (v=t.getD a 0)||!decide (v=t.getD bb 0)))] ts) ?_ ?_)
  ·cases b with
   | true =>
     refine ak (M1 e8) ?_
     exact⟨rfl,by simp only[hl,am,aC,simprocAttr,ei,en,e15,e1,e2,e3,e4,Bool.true_or]⟩
   | false =>
     by_cases q1:v=t.getD a 0
     ·have c1:decide (v=t.getD a 0)=true:=aq q1
      refine ak (by simp only[am,aC,simprocAttr,e8,e1,rx,ry,ia,ib,aD,ra,rb,c1]<;>rfl) ?_
      exact⟨rfl,by simp only[hl,am,aC,simprocAttr,ei,en,e15,e1,e2,e3,e4,c1,pP,yE]⟩
     ·have c1:decide (v=t.getD a 0)=false:=ai q1
      refine ak (by simp only[am,aC,simprocAttr,e8,e1,rx,ry,ia,ib,aD,ra,rb,c1]<;>rfl) ?_
      exact⟨rfl,by simp only[hl,am,aC,simprocAttr,ei,en,e15,e1,e2,e3,e4,c1,pP,wD,Bool.true_or]⟩
  ·clear ei en e15 e1 e2 e3 e4 e8
   rintro ts h' ⟨rfl,ei,en,e15,e1,e2,e3,e4,e10,e11,e12,e8,-⟩
   simp only at ei en e15 e1 e2 e3 e4 e10 e11 e12 e8
   have w6:=dN (v:=.int .u64 v) gA (show a<(t.flatMap uI).length by rw[nG]; omega)
   rw[Ey] at w6
   have u6:=NW (o:=.cells ((t.set a v).flatMap uI) 1 false) gA
   have rx6:aj (h5.put ab (.cells ((t.set a v).flatMap uI) 1 false)) h3.next 0 1=some [.int .i64 (a:Nat)]:=by rw[bG (u6.ne om)]; exact rx
   have ry6:aj (h5.put ab (.cells ((t.set a v).flatMap uI) 1 false)) h3.next 1 1=some [.int .i64 (bb:Nat)]:=by rw[bG (u6.ne om)]; exact ry
   generalize h5.put ab (.cells ((t.set a v).flatMap uI) 1 false)=h6 at *
   have w7:=dN (v:=.int .u64 v) u6.get (show bb<((t.set a v).flatMap uI).length by rw[nG,dc]; omega)
   rw[Ey] at w7
   have u7:=NW (o:=.cells (((t.set a v).set bb v).flatMap uI) 1 false) u6.get
   refine ak (by simp only[am,aC,simprocAttr,e1,e10,e11,e12,rx,ry,ia,ib,aD,w6,rx6,ry6,w7]<;>rfl) ?_
   generalize h6.put ab (.cells (((t.set a v).set bb v).flatMap uI) 1 false)=h7 at *
   rw[← hst] at u7
   refine⟨(gw t (((a:Nat):Int),((bb:Nat):Int)),b||!decide (v=t.getD a 0)||!decide (v=t.getD bb 0)),⟨hcl',by rw[s1]; exact j2,s2,Int.le_trans j4 s3,λhf=>?_,λht=>?_,(M5.upd u6).upd u7,by rw[u7.ne om,u6.ne om]; exact gB⟩,H8 ei en e15 e1 e2 e3 e4 e8⟩
   ·simp only[Bool.or_eq_false_iff,Bool.not_eq_false',az] at hf
    obtain⟨⟨hf1,hf2⟩,hf3⟩:=hf
    have hs:=s4 hf2 hf3
    obtain⟨q1,q2⟩:=j5 hf1
    refine⟨hs.trans q1,λi hi hik hp=>?_⟩
    by_cases hik':i=k
    ·subst hik'
     rw[eab,← q1]
     exact hs
    ·exact q2 i hi om hp
   ·simp only[bV,dL,cQ] at ht
    show s.sum<(gw t (((a:Nat):Int),((bb:Nat):Int))).sum
    rcases ht with (ht|ht)|ht
    ·exact Int.lt_of_lt_of_le (j6 ht) s3
    ·exact Int.lt_of_le_of_lt j4 (s5 λq=>ht q.1)
    ·exact Int.lt_of_le_of_lt j4 (s5 λq=>ht q.2)
 ·rintro⟨t,b⟩ ts h3 ⟨j1,j2,j3,j4,j5,j6,j7,j8⟩ ⟨e15,e1,e2,e3,e4,e8,-⟩
  simp only at e15 e1 e2 e3 e4 e8 j1 j2 j3 j4 j5 j6 j7 j8
  have hl1:=hlim hsl hsu
  have hl2:=hlim j2 j3
  refine⟨_,?_,t,b,j1,j2,j3,λhb=>?_,rfl,j7,j8,H5 e1 e2 e3 e4 e8⟩
  ·cases b with
   | false=>simp
   | true =>
     have:=j6 rfl
     simp only[if_true]
     omega
  ·obtain⟨q1,q2⟩:=j5 hb
   intro i hi hp
   rw[q1]
   exact q2 i hi hi hp
end Go.Proofs.YthbmhbldmcbnpaaGreatDoor
