/- planar.Plain, arborref07.Plain -/
import Derived.Test.YtpeemonpdlifbaaGreatVTAQ
import Derived.Test.YtpeemonpdlifbaaGreatVTBD
import Derived.Test.YtpeemonpdlifbaaGreatVTAC
import Derived.Test.YtpeemonpdlifbaaGreatVTAF
import Derived.Test.YtpeemonpdlifbaaGreatVTBB
set_option linter.all false
namespace Go.Proofs.YtpeemonpdlifbaaGreat
open Go.Am
open Go.Spl (addG addAllG_len addAllG_mem addAllG_nodup)
def mnI (a b:Int):Int:=if b<a then b else a
def mxI (a b:Int):Int:=if b>a then b else a
def mnx (e:Int×Int):Int×Int:=(mnI e.1 e.2,mxI e.1 e.2)
theorem KU {k:IntKind}{a b:Int}:mI mxA [.int k a,.int k b]=some (.int k (if b>a then b else a)):=by
 simp [mI,mxA]
theorem vS {a b:Int×Int}:mnx a=mnx b↔a=b∨(a.1=b.2∧a.2=b.1):=by
 obtain⟨a1,a2⟩:=a
 obtain⟨b1,b2⟩:=b
 simp only[mnx,mnI,mxI,aq]
 constructor
 ·rintro⟨h1,h2⟩
  split at h1<;>split at h1<;>split at h2<;>split at h2<;>omega
 ·rintro (⟨rfl,rfl⟩|⟨rfl,rfl⟩)
  ·exact⟨rfl,rfl⟩
  ·constructor<;>split<;>split<;>omega
def jY (n:Int) (E:List (Int×Int)):Prop:=gG n E=true∧(∀ e∈E,e.1≠e.2)∧(E.map mnx).Nodup
set_option maxHeartbeats 1000000 in
theorem Cy {h:AH}{n:Int}{ev:AV}{E:List (Int×Int)} (he:SlE h ev E) (hxl:E.length<2 ^ 40):C prg 11 [.agg [.int .i64 n,ev]] h λr h'=>∃ b,r=.bool b∧(b=true↔jY n E)∧Ext h.next h h':=by
 obtain⟨ec,eo⟩:=he.cells
 have el:=he.len
 rw[ak] at el
 refine LB pf11 ?_
 refine aj (aB (Mi0) ?_)
 have x0:Ext h.next h (h.new (.cells [.int .i64 n,ev] 2 false)):=Ly (ae _)
 have g0:(h.new (.cells [.int .i64 n,ev] 2 false)).get h.next=some (.cells [.int .i64 n,ev] 2 false):=by rw[AH.get_new,if_pos rfl]
 have n0:(h.new (.cells [.int .i64 n,ev] 2 false)).next=h.next+1:=rfl
 generalize (h.new (.cells [.int .i64 n,ev] 2 false))=h1 at *
 have rA:ar h1 h.next 0 2=some [.int .i64 n,ev]:=by rw[bg g0]; rfl
 refine aj (aj (bO (bt 1 (Mi1 rA) rfl (Zi1 rA) (Mi1 rA) (qI (n:=n) (he.ext x0 (ae _)) hxl) λr h2 hq=>?_)))
 obtain⟨rfl,x2⟩:=hq
 have X2:Ext h.next h h2:=x0.trans (x2.mono om)
 refine bI (M0) ?_
 cases hm:gG n E with
 | false =>
   refine cX (Z0) (aj (aB (M0) ?_))
   exact bG ⟨.bool false,(by simp only[rs,rf11,am,aF,simprocAttr]<;>rfl),false,rfl,⟨(λq=>by cases q),λq=>by rw[q.1] at hm; cases hm⟩,X2⟩
 | true =>
 refine dL (Z0) (bK ?_)
 have n2:=x2.nx
 have g2:h2.get h.next=some (.cells [.int .i64 n,ev] 2 false):=by rw[x2.gt _ om]; exact g0
 have rE:ar h2 h.next 1 1=some [ev]:=bq g2 rfl
 have x3:Ext h2.next h2 (h2.new (.mapo [] 0)):=Ly (ae _)
 have g3:(h2.new (.mapo [] 0)).get h2.next=some (.mapo [] 0):=by rw[AH.get_new,if_pos rfl]
 have n3:(h2.new (.mapo [] 0)).next=h2.next+1:=rfl
 refine aj (aB (M0) ?_)
 generalize (h2.new (.mapo [] 0))=h3 at *
 have rE3:ar h3 h.next 1 1=some [ev]:=by rw[cM (x3.gt _ om)]; exact rE
 have X3:Ext h.next h h3:=X2.trans (x3.mono om)
 refine aj (aj (aB (Mi2 rE3 el) ?_))
 refine fB (α:=List ((Int×Int)×AV)) (N:=E.length) (λ_ _=>[(1,.ptr h.next 0),(3,.mp h2.next),(11,ev)])
  (λk l h'=>MapG (λk:Int×Int=>AV.agg [.int .i64 k.1,.int .i64 k.2]) h' h2.next l∧l.map (·.1)=((E.take k).map mnx).foldl addG []∧(∀ p∈l,∃ z,p.2=.int .i64 z)∧(∀ i (hi:i<E.length),i<k→E[i].1≠E[i].2)∧h'.get h.next=some (.cells [.int .i64 n,ev] 2 false)∧Ext h.next h h'∧h3.next≤h'.next) [] (λ_ _=>rfl) om (Hi0)
  ⟨MapG.nil g3,rfl,(λp hp=>by cases hp),(λi hi q=>absurd q (eP _)),by rw[x3.gt _ om]; exact g2,X3,ae _⟩ ?_ ?_
 ·rintro k l ts h4 hk ⟨j1,j2,j3,j4,j5,j6,j7⟩ ⟨ei,en,e1,e3,e11,-⟩
  simp only at ei en e1 e3 e11
  obtain⟨b1,p1,a1,r1,_⟩:=(he.ext j6 (ae _)).at (fE (f:=eE) hk)
  have hst:(((E.take (k+1)).map mnx).foldl addG [])=addG (((E.take k).map mnx).foldl addG []) (mnx E[k]):=by
   rw[bV hk,ez,cS]; rfl
  have hEk:E[k]∈E:=aR hk
  have hj4:E[k].1≠E[k].2→∀ i (hi:i<E.length),i<k+1→E[i].1≠E[i].2:=λq i hi hik=>by
   by_cases e:i=k
   ·subst e; exact q
   ·exact j4 i hi om
  generalize E[k]=e at *
  obtain⟨a,b⟩:=e
  have r1:ar h4 b1 p1 2=some [.int .i64 a,.int .i64 b]:=r1
  obtain⟨h5,w5,x5,g5,n5⟩:=gm (h:=h4) (z:=[.int .i64 0,.int .i64 0]) (cs:=[.int .i64 a,.int .i64 b]) (e:=2) rfl
  refine cL (aj (aB (M5 e11 ei a1 r1 w5) ?_))
  have ra:ar h5 h4.next 0 1=some [.int .i64 a]:=bq g5 rfl
  have rb:ar h5 h4.next 1 1=some [.int .i64 b]:=bq g5 rfl
  have m5:=j1.cong (x5.gt _ j1.lt)
  have hlk:∃ z,(lkG l (mnx (a,b))).getD (AV.int .i64 0)=.int .i64 z:=by
   cases q:lkG l (mnx (a,b)) with
   | none=>exact⟨0,rfl⟩
   | some v =>
     obtain⟨z,hz⟩:=j3 _ (vT q)
     exact⟨z,hz⟩
  obtain⟨z,hz⟩:=hlk
  have lk:=m5.look keyP (.int .i64 0) (mnx (a,b))
  obtain⟨h6,sn,m6,⟨o6,u6⟩,lk6,hm6⟩:=m5.men keyP (.int .i64 0) (mnx (a,b))
  rw[hz] at lk m6 lk6
  obtain⟨h7,s7,m7,o7,u7⟩:=hm6 (.int .i64 (IntKind.i64.wrap (z+1)))
  have lk:oJ h5 (.flat [.i64,.i64]) false (.int .i64 0) (.mp h2.next) (.agg [.int .i64 (if b<a then b else a),.int .i64 (if b>a then b else a)])=some (.int .i64 z):=lk
  have m6:xV h5 (.flat [.i64,.i64]) (.int .i64 0) (.mp h2.next) (.agg [.int .i64 (if b<a then b else a),.int .i64 (if b>a then b else a)])=some (.tup [.int .i64 z,.int .i64 ((sn:Nat):Int)],h6):=m6
  have lk6:oJ h6 (.flat [.i64,.i64]) false (.int .i64 0) (.mp h2.next) (.agg [.int .i64 (if b<a then b else a),.int .i64 (if b>a then b else a)])=some (.int .i64 z):=lk6
  refine aj (aB (M10 e3 ra rb @KV @KU lk m6 lk6 s7 s7) ?_)
  have hmb:=j1.lt
  have ra7:ar h7 h4.next 0 1=some [.int .i64 a]:=by rw[cM (u7.ne om),cM (u6.ne om)]; exact ra
  have rb7:ar h7 h4.next 1 1=some [.int .i64 b]:=by rw[cM (u7.ne om),cM (u6.ne om)]; exact rb
  have X7:Ext h.next h h7:=((j6.trans (x5.mono (by have:=j6.nx; omega))).trans (u6.ext om)).trans (u7.ext om)
  by_cases q:a=b
  ·have c1:decide (a=b)=true:=aL q
   refine aj (aB (M3 ra7 rb7 c1) ?_)
   refine cX (Z0) (aj (aB (M0) ?_))
   exact bG ⟨.bool false,(by simp only[rs,rf11,am,aF,simprocAttr]<;>rfl),false,rfl,⟨(λq=>by cases q),λp=>absurd q (p.2.1 _ hEk)⟩,X7⟩
  ·have c1:decide (a=b)=false:=aJ q
   refine aj (aB (M3 ra7 rb7 c1) ?_)
   refine dL (Z0) (bK ?_)
   refine⟨upG l (mnx (a,b)) (.int .i64 (IntKind.i64.wrap (z+1))),⟨m7,?_,λp hp=>?_,hj4 q,?_,X7,?_⟩,by simp only[hl,am,aF,simprocAttr,ei,en,e1,e3,e11]⟩
   ·rw[qN,hst,← j2]
    rfl
   ·have hn:=m7.nod
    have hl:=Bh hn p hp
    rw[jR] at hl
    split at hl
    ·injection hl with hl; exact⟨_,hl.symm⟩
    ·exact j3 _ (vT hl)
   ·have:=AH.lt_of_get j5
    rw[u7.ne om,u6.ne om,x5.gt _ this]
    exact j5
   ·rw[u7.nx,u6.nx,n5]; omega
 ·rintro l ts h4 ⟨j1,j2,j3,j4,j5,j6,j7⟩ ⟨e1,e3,e11,-⟩
  simp only at e1 e3 e11
  have rE4:ar h4 h.next 1 1=some [ev]:=bq j5 rfl
  have ml:=j1.len
  refine aj (aB (M5 e1 e3 ml rE4 el) ?_)
  refine bG ⟨.bool (decide (((l.length:Nat):Int)=((E.length:Nat):Int))),(by simp only[rs,rf11,am,aF,simprocAttr]<;>rfl),_,rfl,?_,j6⟩
  have hl:=congrArg List.length j2
  rw[ak,dF] at hl
  have hk:=(addAllG_len (E.map mnx) []).2
  rw[← hl,ak,aP,bM] at hk
  rw[aA]
  have:(((l.length:Nat):Int)=((E.length:Nat):Int))↔l.length=E.length:=om
  rw[this,hk]
  constructor
  ·rintro⟨q,_⟩
   exact⟨hm,λe he=>by
    obtain⟨i,hi,rfl⟩:=yK he
    exact j4 i hi hi,q⟩
  ·exact λq=>⟨q.2.2,λx _ hx=>by cases hx⟩
end Go.Proofs.YtpeemonpdlifbaaGreat
