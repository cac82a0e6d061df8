/- arborref05.At, Right. -/
import Derived.Test.YtpeemonpdlifbaaVTAE
import Derived.Test.YtpeemonpdlifbaaVTAD
import Derived.Test.YtpeemonpdlifbaaVTAC
import Derived.Test.YtpeemonpdlifbaaVAmR
set_option linter.all false
namespace Go.Proofs.Ytpeemonpdlifbaa
open Go.Am
def kC (E:List (Int×Int)) (d:Nat):Int:=if d % 2=0 then (E.getD (d / 2) (0,0)).1 else (E.getD (d / 2) (0,0)).2
theorem quo2 {k:Nat} (h:k<2 ^ 60):IntKind.i64.wrap (((k:Nat):Int).tdiv 2)=((k / 2:Nat):Int):=by
 have e:((k:Nat):Int).tdiv 2=((k / 2:Nat):Int):=rfl
 rw[e]
 exact et om om
theorem Ai (h:Nat):(((h:Nat):Int)).tmod 2=((h % 2:Nat):Int):=rfl
theorem lA:¬ (2:Int)=0:=by decide
theorem qr {h:AH}{n:Int}{ev:AV}{E:List (Int×Int)}{k:Nat} (he:SlE h ev E) (hk:k<2*E.length) (hl:E.length<2 ^ 30) :
 C prg 25 [.agg [.int .i64 n,ev],.int .i64 (k:Nat)] h λr h'=>r=.int .i64 (kC E k)∧Ext h.next h h':=by
 obtain⟨ec,eo⟩:=he.cells
 refine KK pf25 ?_
 refine ai (au (Mi0) ?_)
 have x0:Ext h.next h (h.new (.cells [.int .i64 n,ev] 2 false)):=KH (ab _)
 have g0:(h.new (.cells [.int .i64 n,ev] 2 false)).get h.next=some (.cells [.int .i64 n,ev] 2 false):=by rw[AH.get_new,if_pos rfl]
 generalize (h.new (.cells [.int .i64 n,ev] 2 false))=h1 at *
 have rE:ak h1 h.next 1 1=some [ev]:=br g0 rfl
 have q2:=quo2 (k:=k) om
 have hi:k / 2<E.length:=om
 obtain⟨qb,qp,a1,_,r1,_⟩:=(he.ext x0 (ab _)).at (fR (f:=eE) hi)
 have hE:E.getD (k / 2) (0,0)=E[k / 2]:=by rw[aA,ah hi]; rfl
 have r10:=r1 0 (.int .i64 E[k / 2].1) rfl
 have r11:=r1 1 (.int .i64 E[k / 2].2) rfl
 rw[cZ] at r10
 by_cases q:k % 2=0
 ·have c1:decide (((k % 2:Nat):Int)=0)=true:=aM om
  refine ai (ai (au (Mi3 @lA @Ai c1) ?_))
  refine cE (Z0) (ai (au (Mi5 rE @lA q2 a1 r10) ?_))
  exact bM ⟨_,(by simp only[rs,rf25,am,aH,simprocAttr]<;>rfl),by rw[kC,if_pos q,hE],x0⟩
 ·have c1:decide (((k % 2:Nat):Int)=0)=false:=aK om
  refine ai (ai (au (Mi3 @lA @Ai c1) ?_))
  refine dn (Z0) (bH (ai (au (Mi5 rE @lA q2 a1 r11) ?_)))
  exact bM ⟨_,(by simp only[rs,rf25,am,aH,simprocAttr]<;>rfl),by rw[kC,if_neg q,hE],x0⟩
def okH (E:List (Int×Int)) (x:Nat) (z:Int):Prop:=0≤z∧z<((2*E.length:Nat):Int)∧kC E z.toNat=((x:Nat):Int)
structure RwsI (n:Nat) (E:List (Int×Int)) (T:List (List Int)):Prop where
 len:T.length=n
 at_:∀ x,x<n→∀ z∈T.getD x [],okH E x z
 one:∀ i,i<2*E.length→T.flatten.count ((i:Nat):Int)=1
theorem BB {T:List (List Int)}{k:Nat} (hk:k<T.length):(T.take (k+1)).flatten=(T.take k).flatten++T[k]:=by
 rw[eB,ah hk,gC]
 simp
theorem fM {T:List (List Int)}{k:Nat} (hk:k<T.length):T.getD k []=T[k]:=by
 rw[aA,ah hk]; rfl
theorem yD {l:List Int}{j:Nat} (hj:j<l.length):l.take (j+1)=l.take j++[l[j]]:=by
 rw[eB,ah hj]; rfl
theorem yg {E:List (Int×Int)}{T:List (List Int)}{k:Nat} (hk:k≤T.length) (h:∀ x,x<k→∀ z∈T.getD x [],okH E x z) {i:Nat} (hi:kC E i=((k:Nat):Int)):(T.take k).flatten.count ((i:Nat):Int)=0:=by
 rw[List.count_eq_zero]
 intro hm
 obtain⟨l,hl,hm⟩:=dJ.1 hm
 obtain⟨x,hx,rfl⟩:=cJ.1 hl
 rw[bK] at hx
 rw[List.getElem_take] at hm
 have:=h x om ((i:Nat):Int) (by rw[fM om]; exact hm)
 have e:=this.2.2
 rw[dj,hi] at e
 omega
set_option maxHeartbeats 2000000 in
theorem yR {h:AH}{n:Nat}{ev tv:AV}{E:List (Int×Int)}{T:List (List Int)} (he:SlE h ev E) (hm:iP (n:Nat) E=true) (hT:SlL h tv T) (hT1:T.length<2 ^ 40) (hT2:∀ l∈T,l.length≤2 ^ 63-1) :
 C prg 11 [.agg [.int .i64 (n:Nat),ev],tv] h λr h'=>∃ b,r=.bool b∧(b=true↔RwsI n E T)∧Ext h.next h h':=by
 obtain⟨ec,eo⟩:=he.cells
 obtain⟨tc,to⟩:=hT.cells
 obtain⟨m1,m2,m3,m4⟩:=rF hm
 have el:=he.len
 rw[ae] at el
 have tl:=hT.len
 refine KK pf11 ?_
 refine ai (au (Mi0) ?_)
 have x0:Ext h.next h (h.new (.cells [.int .i64 (n:Nat),ev] 2 false)):=KH (ab _)
 have g0:(h.new (.cells [.int .i64 (n:Nat),ev] 2 false)).get h.next=some (.cells [.int .i64 (n:Nat),ev] 2 false):=by rw[AH.get_new,if_pos rfl]
 have n0:(h.new (.cells [.int .i64 (n:Nat),ev] 2 false)).next=h.next+1:=rfl
 generalize (h.new (.cells [.int .i64 (n:Nat),ev] 2 false))=h1 at *
 have rA:ak h1 h.next 0 2=some [.int .i64 (n:Nat),ev]:=by rw[aW g0]; rfl
 refine ai (ai (bU (bu 1 (Mi1 rA) rfl (Zi1 rA) (Mi1 rA) (wU (n:=((n:Nat):Int)) (he.ext x0 (ab _))) λr h2 hq=>?_)))
 obtain⟨rfl,x2⟩:=hq
 rw[hm]
 have n2:=x2.nx
 have X2:Ext h.next h h2:=x0.trans (x2.mono om)
 have g2:h2.get h.next=some (.cells [.int .i64 (n:Nat),ev] 2 false):=by rw[x2.gt _ om]; exact g0
 have rN:ak h2 h.next 0 1=some [.int .i64 (n:Nat)]:=br g2 rfl
 have rE:ak h2 h.next 1 1=some [ev]:=br g2 rfl
 have e1:decide (((T.length:Nat):Int)=((n:Nat):Int))=decide (T.length=n):=by rw[decide_eq_decide]; omega
 refine bP (Mi3 tl rN e1) ?_
 by_cases q0:¬ T.length=n
 ·have c1:decide (T.length=n)=false:=aK q0
  refine cE (Z1 c1) (ai (au (M0) ?_))
  exact bM ⟨.bool false,(by simp only[rs,rf11,am,aH,simprocAttr]<;>rfl),false,rfl,⟨(λq=>by cases q),λq=>absurd q.len q0⟩,X2⟩
 have q0:=Classical.not_not.1 q0
 have c1:decide (T.length=n)=true:=aM q0
 refine dn (Z1 c1) (bH ?_)
 have wd:IntKind.i64.wrap (2*((E.length:Nat):Int))=((2*E.length:Nat):Int):=by rw[et om om]; omega
 obtain⟨m,hm2⟩:∃ m,m=2*E.length:=⟨_,rfl⟩
 rw[← hm2] at wd
 have hok:∀ {x:Nat}{z:Int},okH E x z↔0≤z∧z<((m:Nat):Int)∧kC E z.toNat=((x:Nat):Int):=fun {x z}=>by rw[hm2]; exact Iff.rfl
 have mk:=mC (h:=h2) (z:=[.int .i64 0]) (e:=1) (bytes:=8) (n:=m) (by unfold aU; omega) (by unfold aU; omega)
 have x3:Ext h2.next h2 (h2.new (.cells (cI [.int .i64 0] m) 1 false)):=KH (ab _)
 have g3:(h2.new (.cells (cI [.int .i64 0] m) 1 false)).get h2.next=some (.cells (il m λ_=>0) 1 false):=by rw[AH.get_new,if_pos rfl,vJ]
 have n3:(h2.new (.cells (cI [.int .i64 0] m) 1 false)).next=h2.next+1:=rfl
 refine ai (bR (λts h'=>h'=h2.new (.cells (cI [.int .i64 0] m) 1 false)∧aN ts 1=tv∧aN ts 2=.ptr h.next 0∧aN ts 5=.sl h2.next 0 m m) (by simp only[am,aH,simprocAttr,bN,rE,el,wd,mk]) ?_)
 rintro ts h3 ⟨hh3,e1,e2,e5⟩
 rw[← hh3] at x3 g3 n3
 clear hh3 mk
 have X3:Ext h.next h h3:=X2.trans (x3.mono om)
 have g3b:h3.get h.next=some (.cells [.int .i64 (n:Nat),ev] 2 false):=by rw[x3.gt _ om]; exact g2
 obtain⟨A,hA⟩:∃ A,A=h2.next:=⟨_,rfl⟩
 rw[← hA] at g3 e5 n3
 have hAh:h.next<A:=om
 have cz:∀ i:Nat,((0:Nat):Int)=(([]:List (List Int)).flatten.count ((i:Nat):Int):Nat):=λi=>by simp
 refine ai (ju (λts h'=>aN ts 5=.sl A 0 m m∧(∀ x,x<n→∀ z∈T.getD x [],okH E x z)∧h'.get A=some (.cells (il m λi=>((T.flatten.count ((i:Nat):Int):Nat):Int)) 1 false)∧Ext h.next h h') ?_ ?_)
 ·refine ai (au (M0) ?_)
  refine fN (α:=Unit) (N:=n) (λk _=>[(1,tv),(2,.ptr h.next 0),(5,.sl A 0 m m),(6,.int .i64 (k:Nat))])
   (λk _ h'=>(∀ x,x<k→∀ z∈T.getD x [],okH E x z)∧h'.get A=some (.cells (il m λi=>(((T.take k).flatten.count ((i:Nat):Int):Nat):Int)) 1 false)∧h'.get h.next=some (.cells [.int .i64 (n:Nat),ev] 2 false)∧Ext h.next h h'∧A<h'.next) () (H4 e1 e2 e5 @bg)
   ⟨λx hx=>absurd hx (eR _),by rw[eD]; simpa using g3,g3b,X3,om⟩ ?_ ?_ ?_
  ·clear e1 e2 e5
   rintro k _ ts h4 hk ⟨_,_,_,X4,_⟩ ⟨e1,e2,e5,e6,-⟩
   simp only at e1 e2 e5 e6
   exact⟨_,(M5 e1 e6 tl q0 @cx),Z0,H4 e1 e2 e5 e6⟩
  ·clear e1 e2 e5
   rintro k _ ts h4 hk ⟨j1,g4,b4,X4,n4⟩ ⟨e1,e2,e5,e6,-⟩
   simp only at e1 e2 e5 e6
   have hkT:k<T.length:=om
   have w1:IntKind.i64.wrap (((k:Nat):Int)+1)=((k+1:Nat):Int):=et om om
   have hl2:=hT2 T[k] (bj hkT)
   refine ai (au (M0) ?_)
   refine fN (α:=Unit) (N:=T[k].length) (λj _=>[(1,tv),(2,.ptr h.next 0),(5,.sl A 0 m m),(6,.int .i64 (k:Nat)),(7,.int .i64 (j:Nat))])
    (λj _ h'=>(∀ z∈T[k].take j,okH E k z)∧h'.get A=some (.cells (il m λi=>((((T.take k).flatten++T[k].take j).count ((i:Nat):Int):Nat):Int)) 1 false)∧h'.get h.next=some (.cells [.int .i64 (n:Nat),ev] 2 false)∧Ext h.next h h'∧A<h'.next) () (H5 e1 e2 e5 e6 @bg)
    ⟨by simp,by rw[eD,cX]; exact g4,b4,X4,n4⟩ ?_ ?_ ?_
   ·clear e1 e2 e5 e6
    rintro j _ ts h5 hj ⟨_,_,_,X5,_⟩ ⟨e1,e2,e5,e6,e7,-⟩
    simp only at e1 e2 e5 e6 e7
    obtain⟨tb,tp,rw_,a5,r5,i5,_⟩:=(hT.ext X5).at hkT
    have l5:=i5.len
    rw[ae] at l5
    exact⟨_,(M7 e1 e6 e7 a5 r5 l5 @cx),Z0,H5 e1 e2 e5 e6 e7⟩
   ·clear e1 e2 e5 e6
    rintro j _ ts h5 hj ⟨k1,g5,b5,X5,n5⟩ ⟨e1,e2,e5,e6,e7,-⟩
    simp only at e1 e2 e5 e6 e7
    have wj:IntKind.i64.wrap (((j:Nat):Int)+1)=((j+1:Nat):Int):=et om om
    obtain⟨tb,tp,rw_,a5,r5,i5,_⟩:=(hT.ext X5).at hkT
    obtain⟨zb,zp,a6,r6,_⟩:=i5.at1 (i:=j) (y:=.int .i64 T[k][j]) (by rw[aF,ah hj]; rfl)
    have hzm:T[k][j]∈T.getD k []:=by rw[fM hkT]; exact bj hj
    obtain⟨z,hz⟩:∃ z,z=T[k][j]:=⟨_,rfl⟩
    have hst:T[k].take (j+1)=T[k].take j++[z]:=by rw[yD hj,hz]
    rw[← hz] at r6 hzm
    refine ai (au (M7 e1 e6 e7 a5 r5 a6 r6) ?_)
    have bad:¬ okH E k z→¬ RwsI n E T:=λh q=>h (q.at_ k hk z hzm)
    by_cases q1:z<0
    ·have d1:decide (z<0)=true:=aM q1
     refine ai (ai (au (M1 d1) ?_))
     refine cE (Z0) (ai (au (M0) ?_))
     exact bM ⟨.bool false,(by simp only[rs,rf11,am,aH,simprocAttr]<;>rfl),false,rfl,⟨(λq=>by cases q),λq=>absurd q (bad λh=>by have:=h.1; omega)⟩,X5⟩
    have d1:decide (z<0)=false:=aK q1
    by_cases q2:((m:Nat):Int)≤z
    ·have d2:decide (((m:Nat):Int)≤z)=true:=aM q2
     refine ai (ai (au (M3 d1 e5 d2) ?_))
     refine cE (Z0) (ai (au (M0) ?_))
     exact bM ⟨.bool false,(by simp only[rs,rf11,am,aH,simprocAttr]<;>rfl),false,rfl,⟨(λq=>by cases q),λq=>absurd q (bad λh=>by have:=(hok.1 h).2.1; omega)⟩,X5⟩
    have d2:decide (((m:Nat):Int)≤z)=false:=aK q2
    obtain⟨d,rfl⟩:∃ d:Nat,z=((d:Nat):Int):=⟨z.toNat,om⟩
    have hdm:d<m:=om
    have rA5:ak h5 h.next 0 2=some [.int .i64 (n:Nat),ev]:=by rw[aW b5]; rfl
    refine ai (ai (bU (bu 11 (M5 d1 e2 e5 d2 rA5) rfl (Z5 d1 e2 e5 d2 rA5) (M5 d1 e2 e5 d2 rA5) (qr (n:=((n:Nat):Int)) (he.ext X5 (ab _)) om om) λr h6 hq=>?_)))
    obtain⟨rfl,x6⟩:=hq
    have X6:Ext h.next h h6:=X5.trans (x6.mono X5.nx)
    by_cases q3:kC E d=((k:Nat):Int)
    ·have hokz:okH E k ((d:Nat):Int):=hok.2 ⟨om,om,by rw[dj]; exact q3⟩
     have d3:decide (kC E d=((k:Nat):Int))=true:=aM q3
     refine bP (M2 e6 d3) ?_
     refine dn (Z0) (bH ?_)
     have g6:h6.get A=some (.cells (il m λi=>((((T.take k).flatten++T[k].take j).count ((i:Nat):Int):Nat):Int)) 1 false):=by rw[x6.gt _ n5]; exact g5
     have b6:h6.get h.next=some (.cells [.int .i64 (n:Nat),ev] 2 false):=by rw[x6.gt _ om]; exact b5
     have id:=dE hdm
     have rd:ak h6 A d 1=some [.int .i64 ((((T.take k).flatten++T[k].take j).count ((d:Nat):Int):Nat):Int)]:=br g6 (kU hdm)
     have hc0:=yg om j1 q3
     have hcj:((T.take k).flatten++T[k].take j).count ((d:Nat):Int)≤j:=by
      rw[oS,hc0]
      have:=List.count_le_length (a:=((d:Nat):Int)) (l:=T[k].take j)
      rw[bK] at this
      omega
     have wc:IntKind.i64.wrap ((((T.take k).flatten++T[k].take j).count ((d:Nat):Int):Nat)+1:Int)=((((T.take k).flatten++T[k].take j).count ((d:Nat):Int)+1:Nat):Int):=et om om
     have w6:=gj (v:=.int .i64 ((((T.take k).flatten++T[k].take j).count ((d:Nat):Int)+1:Nat):Int)) g6 (i:=d) (by rw[pn]; exact hdm)
     have u6:=KJ (o:=.cells ((il m λi=>((((T.take k).flatten++T[k].take j).count ((i:Nat):Int):Nat):Int)).set d (.int .i64 ((((T.take k).flatten++T[k].take j).count ((d:Nat):Int)+1:Nat):Int))) 1 false) g6
     have eqc:(il m λi=>((((T.take k).flatten++T[k].take j).count ((i:Nat):Int):Nat):Int)).set d (.int .i64 ((((T.take k).flatten++T[k].take j).count ((d:Nat):Int)+1:Nat):Int))=il m λi=>((((T.take k).flatten++T[k].take (j+1)).count ((i:Nat):Int):Nat):Int):=by
      rw[Fu]
      refine xM λi _=>?_
      rw[hst,← bQ,oS (l₁:=(T.take k).flatten++T[k].take j)]
      by_cases e:i=d
      ·subst e
       rw[if_pos rfl]
       simp
      ·rw[if_neg e,List.count_singleton]
       have:(((d:Nat):Int)==((i:Nat):Int))=false:=by rw[beq_eq_false_iff_ne]; omega
       rw[this]
       simp
     rw[eqc] at w6 u6
     refine au (M6 e5 id @aP rd wc w6) ?_
     exact⟨(),⟨λz hz=>by
      rw[hst,ar,bG] at hz
      rcases hz with hz|rfl
      ·exact k1 z hz
      ·exact hokz,u6.get,by rw[u6.ne om]; exact b6,X6.trans (u6.ext om),by rw[u6.nx]; have:=x6.nx; omega⟩,_,(M2 e7 wj),H4 e1 e2 e5 e6⟩
    ·have d3:decide (kC E d=((k:Nat):Int))=false:=aK q3
     refine bP (M2 e6 d3) ?_
     refine cE (Z0) (ai (au (M0) ?_))
     exact bM ⟨.bool false,(by simp only[rs,rf11,am,aH,simprocAttr]<;>rfl),false,rfl,⟨(λq=>by cases q),λq=>absurd q (bad λh=>q3 (by have:=h.2.2; rwa [dj] at this))⟩,X6⟩
   ·clear e1 e2 e5 e6
    rintro _ ts h5 ⟨k1,g5,b5,X5,n5⟩ ⟨e1,e2,e5,e6,e7,-⟩
    simp only at e1 e2 e5 e6
    rw[dI] at k1 g5
    refine⟨(),⟨λx hx=>?_,by rw[BB hkT]; exact g5,b5,X5,n5⟩,_,(M2 e6 w1),H3 e1 e2 e5⟩
    rcases bF x k with q|q
    ·exact j1 x q
    ·obtain rfl:x=k:=om
     rw[fM hkT]; exact k1
  ·clear e1 e2 e5
   rintro _ ts h4 ⟨j1,g4,b4,X4,n4⟩ ⟨e1,e2,e5,e6,-⟩
   rw[← q0,dI] at g4
   exact⟨e5,j1,g4,X4⟩
 clear e1 e2 e5
 rintro ts h4 ⟨e5,j1,g4,X4⟩
 refine ai (ai (au (M0) ?_))
 refine fN (α:=Unit) (N:=m) (λi _=>[(5,.sl A 0 m m),(9,.int .i64 (i:Nat))])
  (λi _ h'=>(∀ j,j<i→T.flatten.count ((j:Nat):Int)=1)∧h'.get A=some (.cells (il m λi=>((T.flatten.count ((i:Nat):Int):Nat):Int)) 1 false)∧Ext h.next h h') () (H2 e5 @bg)
  ⟨λj hj=>absurd hj (eR _),g4,X4⟩ ?_ ?_ ?_
 ·clear e5
  rintro i _ ts h5 hi _ ⟨e5,e9,-⟩
  simp only at e5 e9
  exact⟨_,(M3 e5 e9 @cx),Z0,H2 e5 e9⟩
 ·clear e5
  rintro i _ ts h5 hi ⟨k1,g5,X5⟩ ⟨e5,e9,-⟩
  simp only at e5 e9
  have w1:IntKind.i64.wrap (((i:Nat):Int)+1)=((i+1:Nat):Int):=et om om
  have id:=dE hi
  have rd:ak h5 A i 1=some [.int .i64 ((T.flatten.count ((i:Nat):Int):Nat):Int)]:=br g5 (kU hi)
  by_cases q:T.flatten.count ((i:Nat):Int)=1
  ·have d1:decide (((T.flatten.count ((i:Nat):Int):Nat):Int)=1)=true:=aM om
   refine ai (au (by simp only[am,aH,simprocAttr,e5,e9,id,bS,aP,rd,d1]<;>rfl) ?_)
   refine dn (Z0) (bH ?_)
   refine⟨(),⟨λj hj=>?_,g5,X5⟩,_,(M2 e9 w1),H1 e5⟩
   rcases bF j i with z|z
   ·exact k1 j z
   ·obtain rfl:j=i:=om
    exact q
  ·have d1:decide (((T.flatten.count ((i:Nat):Int):Nat):Int)=1)=false:=aK om
   refine ai (au (by simp only[am,aH,simprocAttr,e5,e9,id,bS,aP,rd,d1]<;>rfl) ?_)
   refine cE (Z0) (ai (au (M0) ?_))
   exact bM ⟨.bool false,(by simp only[rs,rf11,am,aH,simprocAttr]<;>rfl),false,rfl,⟨(λq=>by cases q),λp=>absurd (p.one i om) q⟩,X5⟩
 ·clear e5
  rintro _ ts h5 ⟨k1,g5,X5⟩ ⟨e5,e9,-⟩
  refine ai (au (M0) ?_)
  exact bM ⟨.bool true,(by simp only[rs,rf11,am,aH,simprocAttr]<;>rfl),true,rfl,⟨λ_=>⟨q0,j1,λi hi=>k1 i om⟩,λ_=>rfl⟩,X5⟩
open Go.Am
theorem apps {h:AH}{esz lo bytes:Nat}{v w:AV}{cs:List AV}{xs:List (List AV)} (hv:IsSl h esz lo v cs) (hlo:lo≤h.next) (he:0<esz) (hw:Sl h esz w xs) (ho:xs.flatten.all AV.one=true)
 (hb:(cs.length / esz+xs.length)*bytes<aU) (hc:cs.length / esz+xs.length<aU):∃ v' h',fB h esz bytes v w=some (v',h')∧IsSl h' esz lo v' (cs++xs.flatten)∧Ext lo h h'∧h.next≤h'.next∧(∀ c,c<h.next→(∀ b n,v=.sl b 0 n n→c≠b)→h'.get c=h.get c):=by
 obtain⟨hs,hfl⟩:=hw.src
 by_cases h0:xs.length=0
 ·have hx0:xs=[]:=bd.1 h0
  subst hx0
  refine⟨v,h,?_,by simpa using hv,KI,ab _,λ_ _ _=>rfl⟩
  rcases hv with ⟨rfl,rfl⟩|⟨b,n,h1,rfl,h3,h4⟩
  ·simp only[fB,hs,ho,if_true,aO]
  ·simp only[fB,hs,ho,if_true,aO]
 ·rcases hv with ⟨rfl,rfl⟩|⟨b,n,h1,rfl,h3,h4⟩
  ·refine⟨.sl h.next 0 xs.length xs.length,h.new (.cells xs.flatten esz false),?_,.inr ⟨h.next,xs.length,hlo,rfl,by rw[AH.get_new]; simp,by simpa using hfl⟩,KH hlo,by simp,λc hc _=>by rw[AH.get_new,if_neg om]⟩
   simp only[fB,hs,ho,if_true,h0,if_false]
   simp only[aO,Nat.zero_div,bS] at hb hc
   rw[if_pos ⟨hb,hc⟩]
  ·have hnn:cs.length / esz=n:=by rw[h4,Nat.mul_div_cancel _ he]
   rw[hnn] at hb hc
   have hr2:ak h b 0 (n*esz)=some cs:=by
    rw[aW h3,if_pos om,bI,← h4,dI]
   refine⟨.sl h.next 0 (n+xs.length) (n+xs.length),(h.put b .dead).new (.cells (cs++xs.flatten) esz false),?_,.inr ⟨h.next,n+xs.length,hlo,rfl,by rw[AH.get_new,AH.next_put]; simp,by rw[aC,hfl,h4,da]⟩,?_,by simp,?_⟩
   ·simp only[fB,hs,ho,if_true,h0,if_false]
    rw[if_neg om,if_pos ⟨hb,hc⟩,h3,hr2]
    simp only[if_true]
   ·exact (Ext.put h1).trans (KH (by simpa using hlo))
   ·intro c hc hne
    rw[AH.get_new,AH.next_put,if_neg om,AH.get_put _ _ _ _ (AH.lt_of_get h3),if_neg (Ne.symm (hne b n rfl))]
open Go.Am
theorem slc {h h':AH}{e:Nat}{v:AV}{lo hi mx:Option AV} (hk:∀ b o n c,v=.sl b o n c→h'.get b=h.get b):slV h' e v lo hi mx=slV h e v lo hi mx:=by
 cases v with
 | sl b o n c=>simp only[slV,hk b o n c rfl]
 | _=>rfl
theorem uT {h:AH}{e:Nat}{v:AV}{xs:List (List AV)} (hs:Sl h e v xs):AV.same v v=true:=by
 rcases hs with ⟨_,rfl|rfl⟩|⟨b,o,c,cs,ro,rfl,_⟩
 ·rfl
 ·rfl
 ·exact uU
theorem oU {h:AH}{e:Nat}{v:AV}{xs:List (List AV)} (hs:Sl h e v xs):InB (λb=>b<h.next) v:=by
 rcases hs with ⟨_,rfl|rfl⟩|⟨b,o,c,cs,ro,rfl,hg,_⟩
 ·trivial
 ·trivial
 ·exact AH.lt_of_get hg
theorem xL (l:List Int):((l.map eI).flatten).all AV.one=true:=by
 rw[cr]
 intro x hx
 obtain⟨y,hy,hx⟩:=dJ.1 hx
 obtain⟨z,_,rfl⟩:=bC.1 hy
 simp only[eI,aw,bz,or_false] at hx
 subst hx; rfl
theorem tV (l:List Int):(l.map eI).flatten=l.flatMap eI:=by rw[qj]
abbrev NotB (b:Nat) (w:AV):Prop:=InB (λc=>c≠b) w
theorem qy {S T:Nat→Prop}{w:AV} (h:InB S w) (hs:∀ c,S c→T c):InB T w:=by
 cases w<;>first|trivial|exact hs _ h
structure LS (R:AH→AV→List Int→Prop) (h:AH) (lo:Nat) (v:AV) (ws:List AV) (P:List (List Int)):Prop where
 own:IsSl h 1 lo v ws
 len:ws.length=P.length
 row:∀ (i:Nat) (w:AV) (p:List Int),ws[i]?=some w→P[i]?=some p→R h w p
 apart:∀ b n,v=.sl b 0 n n→∀ w∈ws,NotB b w
theorem rU (us:List AV):(us.map λw=>[w]).flatten=us:=by
 induction us with
 | nil=>rfl
 | cons a r ih=>rw[bE,gf,ih]; rfl
theorem EZ {h:AH}{lo:Nat}{v:AV}{ws:List AV} (hv:IsSl h 1 lo v ws):Sl h 1 v (ws.map λw=>[w]):=KE (f:=λw=>[w]) om (λ_=>rfl) (by
 have:(ws.flatMap λw=>[w])=ws:=by induction ws<;>simp_all
 rw[this]; exact hv)
theorem LS.ext {h h':AH}{lo hi:Nat}{v:AV}{ws:List AV}{P:List (List Int)} (l:LS SlI h lo v ws P) (x:Ext hi h h') (hn:h.next≤hi):LS SlI h' lo v ws P :=
 ⟨l.own.ext x hn,l.len,λi w p h1 h2=>Sl.ext (l.row i w p h1 h2) x hn,l.apart⟩
theorem LS.apps {h:AH}{lo bytes:Nat}{v u:AV}{ws us:List AV}{P Q:List (List Int)} (l:LS SlI h lo v ws P) (hlo:lo≤h.next) (hu:Sl h 1 u (us.map λw=>[w])) (hul:us.length=Q.length) (hur:∀ (i:Nat) (w:AV) (p:List Int),us[i]?=some w→Q[i]?=some p→SlI h w p) (hua:∀ b n,v=.sl b 0 n n→∀ w∈us,NotB b w)
 (hb:(ws.length+us.length)*bytes<aU) (hc:ws.length+us.length<aU):∃ v' h',fB h 1 bytes v u=some (v',h')∧LS SlI h' lo v' (ws++us) (P++Q)∧Ext lo h h'∧h.next≤h'.next∧(∀ c,c<h.next→(∀ b n,v=.sl b 0 n n→c≠b)→h'.get c=h.get c)∧(∀ b n,v'=.sl b 0 n n→v'=v∨h.next≤b):=by
 have inu:∀ w∈us,InB (λb=>b<h.next) w:=λw hw=>by
  obtain⟨i,hi,rfl⟩:=cJ.1 hw
  exact oU (hur i _ Q[i] (ah hi) (ah om))
 have inw:∀ w∈ws,InB (λb=>b<h.next) w:=λw hw=>by
  obtain⟨i,hi,rfl⟩:=cJ.1 hw
  have:=l.len
  exact oU (l.row i _ P[i] (ah hi) (ah om))
 have hones:(us.map λw=>[w]).flatten.all AV.one=true:=by
  rw[cr]
  intro x hx
  obtain⟨y,hy,hx⟩:=dJ.1 hx
  obtain⟨w,hw,rfl⟩:=bC.1 hy
  rw[bG] at hx
  subst hx
  obtain⟨i,hi,rfl⟩:=cJ.1 hw
  exact (Sl.cells (hur i _ Q[i] (ah hi) (ah om))).2
 have hfl:=rU us
 obtain⟨v',h',a1,a2,a3,a4,a5⟩:=Go.Proofs.Ytpeemonpdlifbaa.apps (bytes:=bytes) l.own hlo om hu hones (by rw[ew,ae]; exact hb) (by rw[ew,ae]; exact hc)
 rw[hfl] at a2
 have hv':∀ b n,v'=.sl b 0 n n→v'=v∨h.next≤b:=λb n e=>by
  by_cases h0:us=[]
  ·subst h0
   rw[cX] at a2
   have hs:eM h 1 u=some (0,[]):=by
    rcases hu with ⟨_,rfl|rfl⟩|⟨b,o,c,cs,ro,rfl,h2,_,h4,_⟩
    ·rfl
    ·rfl
    ·simp only[Dx,aO] at *
     have:ak h b o (0*1)=some []:=by
      rw[aW h2,if_pos om]; rfl
     simp only[eM,this,aG]
   have:fB h 1 bytes v u=some (v,h):=by
    rcases l.own with ⟨rfl,_⟩|⟨b,n,_,rfl,_⟩
    ·simp [fB,hs]
    ·simp [fB,hs]
   rw[this] at a1
   simp only[aa,aj] at a1
   exact .inl a1.1.symm
  ·right
   rcases a2 with ⟨e2,_⟩|⟨b',n',_,e2,g2,l2⟩
   ·rw[e2] at e; cases e
   ·rw[e2] at e
    cases e
    refine fP λhlt=>?_
    by_cases hvb:∃ n0,v=.sl b 0 n0 n0
    ·obtain⟨n0,rfl⟩:=hvb
     have hul0:us.length≠0:=λz=>h0 (bd.1 z)
     obtain⟨hs,_⟩:=hu.src
     rcases l.own with ⟨q,_⟩|⟨b1,n1,_,q,hg,hl⟩
     ·cases q
     ·cases q
      have hr2:ak h b 0 (n0*1)=some ws:=by
       rw[aW hg,if_pos om,bI,← hl,dI]
      rw[ae] at hs
      have e5:ws.length=n0:=om
      rw[e5] at hb hc
      simp only[fB,hs,hones,if_true,hul0,if_false] at a1
      rw[if_neg om,if_pos ⟨hb,hc⟩,hg,hr2] at a1
      simp only[if_true,aa,aj] at a1
      have:=a1.1.trans e2
      cases this
      omega
    ·have hg:=a5 b hlt λb2 n2 e3 e4=>hvb ⟨n2,by rw[e3,e4]⟩
     rw[g2] at hg
     have hul0:us.length≠0:=λz=>h0 (bd.1 z)
     obtain⟨hs,_⟩:=hu.src
     rw[ae] at hs
     rcases l.own with ⟨rfl,q⟩|⟨b1,n1,_,rfl,hg1,hl⟩
     ·subst q
      simp only[aO,bS] at hb hc
      simp only[fB,hs,hones,if_true,hul0,if_false] at a1
      rw[if_pos ⟨hb,hc⟩] at a1
      simp only[aa,aj] at a1
      have:=a1.1.trans e2
      cases this
      omega
     ·have hr2:ak h b1 0 (n1*1)=some ws:=by
       rw[aW hg1,if_pos om,bI,← hl,dI]
      have e5:ws.length=n1:=om
      rw[e5] at hb hc
      simp only[fB,hs,hones,if_true,hul0,if_false] at a1
      rw[if_neg om,if_pos ⟨hb,hc⟩,hg1,hr2] at a1
      simp only[if_true,aa,aj] at a1
      have:=a1.1.trans e2
      cases this
      omega
 have keep:∀ w∈ws++us,∀ b o n c,w=.sl b o n c→h'.get b=h.get b:=λw hw b o n c e=>by
  have hlt:InB (λb=>b<h.next) w:=by
   rcases ar.1 hw with q|q
   ·exact inw w q
   ·exact inu w q
  subst e
  refine a5 b hlt λb2 n2 e2 e3=>?_
  subst e3
  rcases ar.1 hw with q|q
  ·exact l.apart b n2 e2 _ q rfl
  ·exact hua b n2 e2 _ q rfl
 refine⟨v',h',a1,⟨a2,by rw[aC,aC,l.len,hul],λi w p h1 h2=>?_,λb n e w hw=>?_⟩,a3,a4,a5,hv'⟩
 ·have hm:=dh h1
  refine Sl.cong (h:=h) ?_ (keep w hm)
  rcases bF i ws.length with q|q
  ·rw[aX q] at h1
   rw[aX (by rw[← l.len]; exact q)] at h2
   exact l.row i w p h1 h2
  ·rw[aR q] at h1
   rw[aR (by rw[← l.len]; exact q),← l.len] at h2
   exact hur _ w p h1 h2
 ·have hlt:InB (λb=>b<h.next) w:=by
   rcases ar.1 hw with q|q
   ·exact inw w q
   ·exact inu w q
  rcases hv' b n e with q|q
  ·rw[q] at e
   rcases ar.1 hw with z|z
   ·exact l.apart b n e w z
   ·exact hua b n e w z
  ·exact qy hlt λc hc=>by omega
theorem catA {h:AH}{x:AV}{a:List Int}{K:Nat} (hx:SlI h x a) (hl:a.length<2 ^ 30) (hK:1≤K) :
 ∃ m1 v' m2,m1=(h.keep K).put h.next (.cells [] 1 false)∧(h.keep K).get h.next=some .resv∧fB m1 1 8 (.sl h.next 0 0 0) x=some (v',m2)∧IsSl m2 1 h.next v' (a.flatMap eI)∧Ext h.next h m2∧(∀ c,h.next<c→c<h.next+K→m2.get c=some .resv)∧h.next+K≤m2.next:=by
 have kn:(h.keep K).next=h.next+K:=AH.keep_next K h
 have kg:∀ c,(h.keep K).get c=if h.next≤c∧c<h.next+K then some .resv else h.get c:=λc=>AH.keep_get K h
 have q0:(h.keep K).get h.next=some .resv:=by rw[kg,if_pos ⟨om,om⟩]
 have v1:=KJ (o:=.cells [] 1 false) q0
 obtain⟨m1,hm1⟩:∃ m,m=(h.keep K).put h.next (.cells [] 1 false):=⟨_,rfl⟩
 rw[← hm1] at v1
 have hi:IsSl m1 1 h.next (.sl h.next 0 0 0) []:=.inr ⟨h.next,0,ab _,rfl,v1.get,rfl⟩
 have hx1:SlI m1 x a:=hx.cong λb o n c e=>by
  have:=hx.lt e
  rw[v1.ne om,kg,if_neg om]
 have n1:m1.next=h.next+K:=by rw[v1.nx,kn]
 obtain⟨v',m2,a2,i2,x2,n2,s2⟩:=apps (bytes:=8) hi om om hx1 (xL a) (by simp only[aO,ae]; unfold aU; omega) (by simp only[aO,ae]; unfold aU; omega)
 refine⟨m1,v',m2,hm1,q0,a2,?_,⟨om,λc hc=>?_,λc hc=>?_⟩,λc h1 h2=>?_,om⟩
 ·rwa [bp,tV] at i2
 ·rw[x2.gt _ hc,v1.ne om,kg,if_neg om]
 ·rw[x2.ty _ hc,v1.ty]; exact KF K h
 ·rw[s2 c om (λb n e=>by cases e; omega),v1.ne om,kg,if_pos ⟨om,h2⟩]
theorem catB {m:AH}{v:AV}{a:List Int}{lo q:Nat}{z:Int} (hv:IsSl m 1 lo v (a.flatMap eI)) (hlo:lo≤m.next) (hq:m.get q=some .resv) (hql:lo≤q) (hl:a.length<2 ^ 30) :
 ∃ m3 v' m4,m3=m.put q (.cells [.int .i64 z] 1 false)∧fB m3 1 8 v (.sl q 0 1 1)=some (v',m4)∧IsSl m4 1 lo v' ((a++[z]).flatMap eI)∧Ext lo m m4∧m.next≤m4.next:=by
 have v1:=KJ (o:=.cells [.int .i64 z] 1 false) hq
 obtain⟨m3,hm3⟩:∃ x,x=m.put q (.cells [.int .i64 z] 1 false):=⟨_,rfl⟩
 rw[← hm3] at v1
 have hne:∀ b n,v=.sl b 0 n n→b≠q:=λb n e=>by
  rcases hv with ⟨e2,_⟩|⟨b',n',_,e2,g,_⟩
  ·rw[e2] at e; cases e
  ·rw[e2] at e; cases e
   intro e3; subst e3
   rw[hq] at g; cases g
 have h3:IsSl m3 1 lo v (a.flatMap eI):=hv.cong λb n e _=>v1.ne (hne b n e)
 have hd:(a.flatMap eI).length / 1=a.length:=by rw[eY (f:=eI) (e:=1) (λ_=>rfl)]; omega
 obtain⟨v',m4,a4,i4,x4,_,n4,s4,_⟩:=h3.app (bytes:=8) (x:=q) (new:=[.int .i64 z]) (by rw[v1.nx]; exact hlo) om v1.get hql hne rfl rfl (by rw[hd]; unfold aU; omega) (by rw[hd]; unfold aU; omega)
 exact⟨m3,v',m4,hm3,a4,by rw[dU]; exact i4,(v1.ext hql).trans x4,by rw[n4,v1.nx]; omega⟩
theorem JG {h:AH}{lo:Nat}{v:AV}{cs:List AV} (hv:IsSl h 1 lo v cs):InB (λb=>lo≤b) v:=by
 rcases hv with ⟨rfl,_⟩|⟨b,n,hb,rfl,_⟩
 ·trivial
 ·exact hb
theorem yH {h:AH}{lo:Nat}{v:AV}{a:List Int} (hv:IsSl h 1 lo v (a.flatMap eI)):SlI h v a:=KE (f:=eI) om (λ_=>rfl) hv
set_option maxHeartbeats 2000000 in
theorem qT:∀ (r:Nat),r≤6→∀ {h:AH}{hv rv:AV}{head rest:List Int},SlI h hv head→SlI h rv rest→rest.length=r→head.length+r≤1000 →
 C prg 46 [hv,rv] h λv h'=>∃ (us:List AV) (P:List (List Int)),Sl h' 1 v (us.map λw=>[w])∧us.length=P.length∧(∀ (i:Nat) (w:AV) (p:List Int),us[i]?=some w→P[i]?=some p→SlI h' w p)∧(∀ p∈P,p.Perm (head++rest))∧P.length≤6 ^ r∧Ext h.next h h'∧(∀ w∈us,w=hv∨InB (λb=>h.next≤b) w)
 | 0,_,h,hv,rv,head,rest,hh,hr,hrl,_=>by
   obtain⟨hc,ho⟩:=hh.cells
   have rl:=hr.len
   rw[ae,hrl] at rl
   obtain rfl:rest=[]:=bd.1 hrl
   have d1:decide (((0:Nat):Int)=0)=true:=rfl
   refine KK pf46 ?_
   refine ai (au (Mi0) ?_)
   refine ai (ai (au (Mi2 rl d1) ?_))
   have rp1:cI [AV.nils] 1=[.nils]:=rfl
   have x1:Ext h.next h (h.new (.cells [hv] 1 false)):=KH (ab _)
   have g1:(h.new (.cells [hv] 1 false)).get h.next=some (.cells [hv] 1 false):=by rw[AH.get_new,if_pos rfl]
   refine cE (Z1 @decide_true) (ai (au (Mi3 rp1 hc ho) ?_))
   refine bM ⟨.sl h.next 0 1 1,(by simp only[rs,rf46,am,aH,simprocAttr]<;>rfl),[hv],[head],KG g1 rfl om,rfl,λi w p e1 e2=>?_,λp hp=>?_,by simp,x1,λw hw=>.inl (by simpa using hw)⟩
   ·cases i with
    | zero =>
      simp only[aV,aa] at e1 e2
      subst e1 e2
      exact hh.ext x1 (ab _)
    | succ i=>simp at e1
   ·rw[bG] at hp
    subst hp
    rw[cX]
 | r+1,hr6,h,hv,rv,head,rest,hh,hr,hrl,hs=>by
   obtain⟨hc,ho⟩:=hh.cells
   have rl:=hr.len
   rw[ae] at rl
   have d1:decide (((rest.length:Nat):Int)=0)=false:=aK om
   have d2:decide ((6:Int)<((rest.length:Nat):Int))=false:=aK om
   have hpow:6 ^ r≤6 ^ 5:=Nat.pow_le_pow_right om om
   have hp5:(6:Nat) ^ 5=7776:=by decide
   refine KK pf46 ?_
   refine ai (au (Mi0) ?_)
   refine ai (ai (au (Mi2 rl d1) ?_))
   refine dn (Z0) (bH ?_)
   refine ai (ai (au (Mi2 rl d2) ?_))
   refine dn (Z0) (bH ?_)
   have x1:Ext h.next h (h.new (.cells [] 1 false)):=KH (ab _)
   have g1:(h.new (.cells [] 1 false)).get h.next=some (.cells [] 1 false):=by rw[AH.get_new,if_pos rfl]
   have n1:(h.new (.cells [] 1 false)).next=h.next+1:=rfl
   refine ai (bR (λts h'=>h'=h.new (.cells [] 1 false)∧aN ts 0=hv∧aN ts 1=rv∧aN ts 5=.sl h.next 0 0 0) (by simp only[am,aH,simprocAttr,bN]) ?_)
   rintro ts h1 ⟨hh1,e0,e1,e5⟩
   rw[← hh1] at x1 g1 n1
   clear hh1
   refine ai (ai (au (M0) ?_))
   refine fN (α:=AV) (N:=rest.length) (λi ov=>[(0,hv),(1,rv),(5,ov),(6,.int .i64 (i:Nat))])
    (λi ov h'=>∃ (ws:List AV) (P:List (List Int)),LS SlI h' h.next ov ws P∧(∀ p∈P,p.Perm (head++rest))∧P.length≤i*6 ^ r∧Ext h.next h h'∧h.next≤h'.next∧∀ w∈ws,InB (λb=>h.next≤b) w) (.sl h.next 0 0 0) (H4 e0 e1 e5 @bg)
    ⟨[],[],⟨.inr ⟨h.next,0,ab _,rfl,g1,rfl⟩,rfl,(λi w p q=>by simp at q),(λb n _ w hw=>by cases hw)⟩,(λp hp=>by cases hp),by simp,x1,x1.nx,(λw hw=>by cases hw)⟩ ?_ ?_ ?_
   ·clear e0 e1 e5
    rintro i ov ts h2 hi _ ⟨e0,e1,e5,e6,-⟩
    simp only at e0 e1 e5 e6
    exact⟨_,(M4 e1 e6 rl @cx),Z0,H4 e0 e1 e5 e6⟩
   ·clear e0 e1 e5
    rintro i ov ts h2 hi ⟨ws,P,l2,pp,pl,X2,n2,pb⟩ ⟨e0,e1,e5,e6,-⟩
    simp only at e0 e1 e5 e6
    have wi:IntKind.i64.wrap (((i:Nat):Int)+1)=((i+1:Nat):Int):=et om om
    have hr2:=hr.ext X2 (ab _)
    have kg:∀ c,c<h2.next→(h2.keep 1).get c=h2.get c:=λc hc=>by rw[AH.keep_get,if_neg om]
    have hrk:SlI (h2.keep 1) rv rest:=hr2.cong λb o n c e=>kg _ (hr2.lt e)
    obtain⟨va,fa,ta,ia,_⟩:=hrk.upto (hi:=i) (by rw[ae]; omega)
    obtain⟨vb,fb,tb,ib,_⟩:=hrk.from (lo:=i+1) (by rw[ae]; omega)
    rw[← fh] at ta
    rw[← fi] at tb
    have ba:=ia _ (oU hr2)
    have bb:=ib _ (oU hr2)
    have ta2:SlI h2 va (rest.take i):=ta.cong λb o n c e=>by subst e; exact (kg _ ba).symm
    have tb2:SlI h2 vb (rest.drop (i+1)):=tb.cong λb o n c e=>by subst e; exact (kg _ bb).symm
    obtain⟨m1,lv1,m2,hm1,q1,a1,i1,y1,_,t1⟩:=catA (K:=1) ta2 (by rw[bK]; omega) om
    have fb2:slV m2 1 rv (some (.int .i64 ((i+1:Nat):Int))) none none=some vb:=by
     rw[slc (h:=h2.keep 1) λb o n c e=>?_]
     ·exact fb
     ·have:=hr2.lt e
      rw[kg _ this,y1.gt _ this]
    have sb:=uT tb
    have tbm:SlI m2 vb (rest.drop (i+1)):=tb2.ext y1 (ab _)
    obtain⟨lv,m3,a3,i3,y3,t3,_⟩:=apps (bytes:=8) i1 om om tbm (xL _) (by rw[eY (f:=eI) (e:=1) (λ_=>rfl),bK,ae,de]; unfold aU; omega) (by rw[eY (f:=eI) (e:=1) (λ_=>rfl),bK,ae,de]; unfold aU; omega)
    rw[tV,← dU] at i3
    refine ai (wz (λts h'=>h'=m3∧aN ts 0=hv∧aN ts 1=rv∧aN ts 5=ov∧aN ts 6=.int .i64 (i:Nat)∧aN ts 7=lv) (by simp only[am,aH,simprocAttr,e0,e1,e5,e6,dZ,bO,aG,fa,fb,fb2,sb,wi,dX,dm q1,fW,← hm1,a1,a3]) ?_)
    clear e0 e1 e5 e6
    rintro ts m3' ⟨rfl,e0,e1,e5,e6,e7⟩
    have Y3:Ext h2.next h2 m3':=y1.trans y3
    have XX3:Ext h.next h m3':=X2.trans (Y3.mono om)
    have n3:=Y3.nx
    have hr3:=hr2.ext Y3 (ab _)
    have hh3:=hh.ext XX3 (ab _)
    obtain⟨k1,hv1,k2,hk1,q2,a4,i4,y4,s4,t4⟩:=catA (K:=2) hh3 om om
    obtain⟨zb,zp,az,rz,lz⟩:=hr3.at1 (i:=i) (y:=.int .i64 rest[i]) (by rw[aF,ah hi]; rfl)
    have rzk:ak (m3'.keep 2) zb zp 1=some [.int .i64 rest[i]]:=by rw[cF (h:=m3')]; exact rz; rw[AH.keep_get,if_neg om]
    have rz2:ak k2 zb zp 1=some [.int .i64 rest[i]]:=by rw[cF (y4.gt _ lz)]; exact rz
    obtain⟨k3,hv2,k4,hk3,a5,i5,y5,t5⟩:=catB (z:=rest[i]) i4 om (s4 (m3'.next+1) om om) om om
    have Y5:Ext m3'.next m3' k4:=y4.trans y5
    have n5:=Y5.nx
    have shv:SlI k4 hv2 (head++[rest[i]]):=yH i5
    have slv:SlI k4 lv (rest.take i++rest.drop (i+1)):=(yH i3).ext Y5 (ab _)
    have hll:(rest.take i++rest.drop (i+1)).length=r:=by rw[aC,bK,de]; omega
    have rp1:cI [AV.int .i64 0] 1=[.int .i64 0]:=rfl
    have hrec:=qT r om shv slv hll (by rw[aC]; simp; omega)
    refine lV (bu 11 (by simp only[am,aH,simprocAttr,e0,e1,e5,e6,e7,az,rzk,dX,dm q2,fW,← hk1,a4,rz2,dm (s4 (m3'.next+1) om om),rp1,← hk3,a5]<;>rfl) rfl (by simp only[am,aH,simprocAttr,e0,e1,e5,e6,e7,az,rzk,dX,dm q2,fW,← hk1,a4,rz2,dm (s4 (m3'.next+1) om om),rp1,← hk3,a5]) (by simp only[am,aH,simprocAttr,e0,e1,e5,e6,e7,az,rzk,dX,dm q2,fW,← hk1,a4,rz2,dm (s4 (m3'.next+1) om om),rp1,← hk3,a5]<;>rfl) (hrec) λv h5 hq=>?_)
    obtain⟨us,Q,su,ul,ur,pq,ql,x5,ub⟩:=hq
    have XX5:Ext h.next h h5:=XX3.trans ((Y5.mono om).trans (x5.mono om))
    have n6:=x5.nx
    have l5:=((l2.ext Y3 (ab _)).ext Y5 (ab _)).ext x5 (ab _)
    have hub:∀ w∈us,InB (λb=>m3'.next≤b) w:=λw hw=>by
     rcases ub w hw with rfl|q
     ·exact JG i5
     ·exact qy q λc hc=>by omega
    have hwsl:ws.length≤6*7776:=by
     rw[l2.len]
     refine cM pl ?_
     exact kH om om
    obtain⟨ov',h6,a6,l6,x6,n7,_,_⟩:=l5.apps (bytes:=24) om su ul ur (λb n e w hw=>qy (hub w hw) λc hc=>by
     have:=l2.own.lt e
     omega) (by rw[ul]; unfold aU; omega) (by rw[ul]; unfold aU; omega)
    refine bP (M5 e0 e1 e5 e6 a6) ?_
    refine⟨ov',⟨ws++us,P++Q,l6,λp hp=>?_,?_,XX5.trans x6,om,λw hw=>?_⟩,_,(M2 e6 wi),H2 e0 e1⟩
    ·rcases ar.1 hp with hp|hp
     ·exact pp p hp
     ·refine (pq p hp).trans ?_
      rw[bQ]
      refine List.Perm.append_left head ?_
      have h1:rest=rest.take i++rest[i]::rest.drop (i+1):=by rw[← cw hi,cA]
      refine List.Perm.trans ?_ (List.Perm.of_eq h1.symm)
      rw[List.singleton_append]
      exact List.perm_middle.symm
    ·rw[aC,da,mh]
     omega
    ·rcases ar.1 hw with q|q
     ·exact pb w q
     ·exact qy (hub w q) λc hc=>by omega
   ·clear e0 e1 e5
    rintro ov ts h2 ⟨ws,P,l2,pp,pl,X2,n2,pb⟩ ⟨e0,e1,e5,e6,-⟩
    simp only at e5
    have lc:=l2.own.cells
    refine ai (au (M1 e5) ?_)
    refine bM ⟨_,(by simp only[rs,rf46,am,aH,simprocAttr,lc.1]<;>rfl),ws,P,EZ l2.own,l2.len,l2.row,pp,?_,X2,λw hw=>.inr (pb w hw)⟩
    rw[hrl] at pl
    calc P.length≤(r+1)*6 ^ r:=pl
     _≤6*6 ^ r:=fD _ om
     _=6 ^ (r+1):=by rw[Nat.pow_succ,Nat.mul_comm]
end Go.Proofs.Ytpeemonpdlifbaa
