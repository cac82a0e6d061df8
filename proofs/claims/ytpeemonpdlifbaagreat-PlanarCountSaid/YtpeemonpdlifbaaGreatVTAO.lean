/- rotation.Right, nexts, Faces. -/
import Derived.Test.YtpeemonpdlifbaaGreatVTAD
import Derived.Test.YtpeemonpdlifbaaGreatVTAE
import Derived.Test.YtpeemonpdlifbaaGreatVTAN
set_option linter.all false
namespace Go.Proofs.YtpeemonpdlifbaaGreat
open Go.Am
theorem rem2 (h:Nat):(((h:Nat):Int)).tmod 2=((h % 2:Nat):Int):=rfl
theorem Hu:¬ (2:Int)=0:=by decide
theorem xn {h:AH}{n:Nat}{ev:AV}{E:List (Int×Int)}{k:Nat} (he:SlE h ev E) (hk:k<2*E.length) (hl40:E.length<2 ^ 30) :
 C prg 32 [.agg [.int .i64 (n:Nat),ev],.int .i64 (k:Nat)] h λr h'=>r=.int .i64 (tz E ((k:Nat):Int))∧Ext h.next h h':=by
 obtain⟨ec,eo⟩:=he.cells
 refine LB pf32 ?_
 refine aj (aB (Mi0) ?_)
 have x0:Ext h.next h (h.new (.cells [.int .i64 (n:Nat),ev] 2 false)):=Ly (ae _)
 have g0:(h.new (.cells [.int .i64 (n:Nat),ev] 2 false)).get h.next=some (.cells [.int .i64 (n:Nat),ev] 2 false):=by rw[AH.get_new,if_pos rfl]
 have n0:(h.new (.cells [.int .i64 (n:Nat),ev] 2 false)).next=h.next+1:=rfl
 generalize (h.new (.cells [.int .i64 (n:Nat),ev] 2 false))=h1 at *
 have rE:ar h1 h.next 1 1=some [ev]:=bq g0 rfl
 have q2:IntKind.i64.wrap (((k:Nat):Int).tdiv 2)=((k / 2:Nat):Int):=Ix (k:=2) om
 have hi:k / 2<E.length:=om
 obtain⟨qb,qp,a1,r1,_⟩:=(he.ext x0 (ae _)).at (fE (f:=eE) hi)
 have r1:ar h1 qb qp 2=some [.int .i64 E[k / 2].1,.int .i64 E[k / 2].2]:=r1
 obtain⟨h2,w2,x2,g2,n2⟩:=gm (h:=h1) (z:=[.int .i64 0,.int .i64 0]) (cs:=[.int .i64 E[k / 2].1,.int .i64 E[k / 2].2]) (e:=2) rfl
 have hE:E.getD (k / 2) (0,0)=E[k / 2]:=by rw[ai,ah hi]; rfl
 refine aj (aB (Mi6 rE @Hu q2 a1 r1 w2) ?_)
 have r20:ar h2 h1.next 0 1=some [.int .i64 E[k / 2].1]:=bq g2 rfl
 have r21:ar h2 h1.next 1 1=some [.int .i64 E[k / 2].2]:=bq g2 rfl
 have X2:Ext h.next h h2:=x0.trans (x2.mono om)
 by_cases q:k % 2=0
 ·have c1:decide (((k % 2:Nat):Int)=0)=true:=aL om
  refine aj (aj (aB (Mi3 @Hu @rem2 c1) ?_))
  refine cX (Z0) (aj (aB (M1 r20) ?_))
  exact bG ⟨_,(by simp only[rs,rf32,am,aF,simprocAttr]<;>rfl),by rw[tz,cB,if_pos q,hE],X2⟩
 ·have c1:decide (((k % 2:Nat):Int)=0)=false:=aJ om
  refine aj (aj (aB (Mi3 @Hu @rem2 c1) ?_))
  refine dL (Z0) (bK (aj (aB (M1 r21) ?_)))
  exact bG ⟨_,(by simp only[rs,rf32,am,aF,simprocAttr]<;>rfl),by rw[tz,cB,if_neg q,hE],X2⟩
theorem Ji {h:AH}{b n:Nat}{s:List Bool}{y:Bool} (hg:h.get b=some (.cells (bls s) 1 false)) (hn:s.length=n) (hl40:n<2 ^ 40) :
 C prg 57 [.sl b 0 n n,.bool y] h λr h'=>r=.int .i64 (gU (y==·) s 0)∧h'=h:=by
 refine LB pf57 ?_
 refine aj (aB (Mi0) ?_)
 refine aj (aj (aB (Mi0) ?_))
 refine fB (α:=Unit) (N:=n) (λ_ _=>[(0,.sl b 0 n n),(1,.bool y)]) (λk _ h'=>h'=h∧gU (y==·) (s.drop k) k=gU (y==·) s 0) () (λ_ _=>rfl) om (Hi0) ⟨rfl,by rw[bJ]⟩ ?_ ?_
 ·rintro k _ ts h1 hk ⟨rfl,hF⟩ ⟨ei,en,e0,e1,-⟩
  simp only at ei en e0 e1
  have ik:fU ((k:Nat):Int) n=some k:=dU hk
  have hks:k<s.length:=om
  have rk:ar h1 b k 1=some [.bool (s.getD k false)]:=bq hg (Af hks)
  have hsk:s.getD k false=s[k]:=by rw[ai,ah hks]; rfl
  rw[hsk] at rk
  refine aj (aB (M1 ei) ?_)
  refine aj (aB (M6 e0 e1 ei ik @aO rk) ?_)
  refine jq (t:=y==s[k]) (Z0) (λq=>?_) λq=>?_
  ·refine aj (aB (M0) ?_)
   refine bG ⟨.int .i64 (k:Nat),(by simp only[rs,rf57,am,aF,simprocAttr]<;>rfl),?_,rfl⟩
   rw[← hF,im _ hks,if_pos q]
  ·refine bK ⟨(),⟨rfl,?_⟩,by simp only[hl,am,aF,simprocAttr,ei,en,e0,e1]⟩
   rw[← hF,im _ hks,if_neg (by simp [q])]
 ·rintro _ ts h1 ⟨rfl,hF⟩ ⟨e0,e1,-⟩
  refine aj (aB (M0) ?_)
  refine bG ⟨.int .i64 (-1),(by simp only[rs,rf57,am,aF,simprocAttr]<;>rfl),?_,rfl⟩
  rw[← hF,dm om]
  rfl
theorem Gy {h:AH}{b n:Nat}{s:List Bool}{y:Bool} (hg:h.get b=some (.cells (bls s) 1 false)) (hn:s.length=n) (hl40:n<2 ^ 40) :
 C prg 33 [.sl b 0 n n,.bool y] h λr h'=>r=.bool (s.any (y==·))∧h'=h:=by
 refine LB pf33 ?_
 refine aj (aB (Mi0) ?_)
 have hc:=Ji (y:=y) hg hn hl40
 refine aj (bO (bt 2 (Mi0) rfl (Zi0) (Mi0) (hc) λr h2 hq=>?_))
 obtain⟨rfl,rfl⟩:=hq
 have hb:decide ((0:Int)≤gU (y==·) s 0)=s.any (y==·):=by
  have:=(lF (y==·) s 0).2
  cases hq:s.any (y==·) with
  | true=>rw[aA]; rw[hq] at this; simp at this; omega
  | false=>rw[aV]; have:=this.2 hq; omega
 refine bI (M1 hb) ?_
 exact bG ⟨_,(by simp only[rs,rf33,am,aF,simprocAttr]<;>rfl),rfl,rfl⟩
theorem dbl {m:Nat} (h:m<2 ^ 40):IntKind.i64.wrap (2*((m:Nat):Int))=((2*m:Nat):Int):=by rw[fz om om]; omega
theorem uf {h:AH}{n:Nat} (hn:n<2 ^ 40):xS h [.bool false] 1 1 (.int .i64 (n:Nat)) (.int .i64 (n:Nat))=some (.sl h.next 0 n n,h.new (.cells (bls (List.replicate n false)) 1 false)):=by
 rw[oL (by unfold be; omega) (by unfold be; omega),JM]
theorem Ir {E:List (Int×Int)}{T:List (List Int)}{k j:Nat}{s0 a a':List Bool} (hk:k<T.length) (hj:j<T[k].length) (h1:np E 0 (T.take k) s0=some a) (h2:me E ((k:Nat):Int) (T[k].take j) a=some a')
 (hn:¬ (0≤T[k][j]∧T[k][j]<(a'.length:Nat)∧a'.getD T[k][j].toNat true=false∧tz E T[k][j]=((k:Nat):Int))):np E 0 T s0=none:=by
 have e1:me E ((k:Nat):Int) T[k] a=none:=by
  rw[← cD j T[k],ru,h2,eU,bX hj]
  simp only[me]
  rw[if_neg hn]
 rw[← cD k T,sT,h1,eU,bX hk]
 simp only[np]
 rw[bS,dZ om,bM,e1]
 rfl
set_option maxHeartbeats 1000000 in
theorem rj {h:AH}{n:Nat}{ev tv:AV}{E:List (Int×Int)}{T:List (List Int)} (he:SlE h ev E) (hm:gG (n:Nat) E=true) (hT:SlL h tv T) (hT1:T.length<2 ^ 40) (hT2:∀ l∈T,l.length<2 ^ 40) :
 C prg 17 [.agg [.int .i64 (n:Nat),ev],tv] h λr h'=>r=.bool (jO n E T)∧Ext h.next h h':=by
 obtain⟨ec,eo⟩:=he.cells
 obtain⟨tc,to⟩:=hT.cells
 obtain⟨m1,m2,m3,m4⟩:=jQ hm
 have el:=he.len
 rw[ak] at el
 have tl:=hT.len
 refine LB pf17 ?_
 refine aj (aB (Mi0) ?_)
 have x0:Ext h.next h (h.new (.cells [.int .i64 (n:Nat),ev] 2 false)):=Ly (ae _)
 have g0:(h.new (.cells [.int .i64 (n:Nat),ev] 2 false)).get h.next=some (.cells [.int .i64 (n:Nat),ev] 2 false):=by rw[AH.get_new,if_pos rfl]
 have n0:(h.new (.cells [.int .i64 (n:Nat),ev] 2 false)).next=h.next+1:=rfl
 generalize (h.new (.cells [.int .i64 (n:Nat),ev] 2 false))=h1 at *
 have rA:ar h1 h.next 0 2=some [.int .i64 (n:Nat),ev]:=by rw[bg g0]; rfl
 refine aj (aj (bO (bt 1 (Mi1 rA) rfl (Zi1 rA) (Mi1 rA) (qI (n:=((n:Nat):Int)) (he.ext x0 (ae _)) om) λr h2 hq=>?_)))
 obtain⟨rfl,x2⟩:=hq
 rw[hm]
 have n2:=x2.nx
 have X2:Ext h.next h h2:=x0.trans (x2.mono om)
 have g2:h2.get h.next=some (.cells [.int .i64 (n:Nat),ev] 2 false):=by rw[x2.gt _ om]; exact g0
 have rN:ar h2 h.next 0 1=some [.int .i64 (n:Nat)]:=bq g2 rfl
 have rE:ar h2 h.next 1 1=some [ev]:=bq g2 rfl
 have e1:decide (((T.length:Nat):Int)=((n:Nat):Int))=decide (T.length=n):=by rw[decide_eq_decide]; omega
 refine bI (Mi3 tl rN e1) ?_
 by_cases q0:¬ T.length=n
 ·have c1:decide (T.length=n)=false:=aJ q0
  refine cX (Z1 c1) (aj (aB (M0) ?_))
  exact bG ⟨.bool false,(by simp only[rs,rf17,am,aF,simprocAttr]<;>rfl),by rw[jO,c1,ee],X2⟩
 have q0:=Classical.not_not.1 q0
 have c1:decide (T.length=n)=true:=aL q0
 refine dL (Z1 c1) (bK ?_)
 have wd:=dbl (m:=E.length) om
 have mk:=uf (h:=h2) (n:=2*E.length) om
 refine aj (aB (Mi4 rE el wd mk) ?_)
 have x3:Ext h2.next h2 (h2.new (.cells (bls (List.replicate (2*E.length) false)) 1 false)):=Ly (ae _)
 have g3:(h2.new (.cells (bls (List.replicate (2*E.length) false)) 1 false)).get h2.next=some (.cells (bls (List.replicate (2*E.length) false)) 1 false):=by rw[AH.get_new,if_pos rfl]
 generalize h2.new (.cells (bls (List.replicate (2*E.length) false)) 1 false)=h3 at *
 refine aj (aj (aB (Mi1 tl) ?_))
 refine fB (α:=List Bool) (N:=T.length) (λ_ _=>[(25,tv),(2,.ptr h.next 0),(5,.sl h2.next 0 (2*E.length) (2*E.length))])
  (λk a h'=>np E 0 (T.take k) (List.replicate (2*E.length) false)=some a∧a.length=2*E.length∧h'.get h2.next=some (.cells (bls a) 1 false)∧Ext h2.next h2 h') (List.replicate (2*E.length) false) (λ_ _=>rfl) om (Hi2 tc to) ⟨rfl,by simp,g3,x3⟩ ?_ ?_
 ·rintro k a ts h4 hk ⟨j1,j2,j3,j4⟩ ⟨ei,en,e25,e2,e5,-⟩
  simp only at ei en e25 e2 e5
  have n4:=j4.nx
  have X4:Ext h.next h h4:=X2.trans (j4.mono om)
  obtain⟨rb,rp,w,a1,r1,rw1,lb⟩:=hT.at hk
  rw[← cM (X4.gt _ lb)] at r1
  obtain⟨wc,wo⟩:=rw1.cells
  have wl:=rw1.len
  rw[ak] at wl
  have hll:=hT2 _ (aR hk)
  refine aj (aB (M4 e25 ei a1 r1) ?_)
  refine aj (aB (M1 wl) ?_)
  refine fB (α:=List Bool) (N:=T[k].length) (λ_ _=>[(27,.int .i64 (k:Nat)),(26,.int .i64 (T.length:Nat)),(25,tv),(2,.ptr h.next 0),(5,.sl h2.next 0 (2*E.length) (2*E.length)),(6,.int .i64 (k:Nat)),(32,w)])
   (λj a' h'=>me E ((k:Nat):Int) (T[k].take j) a=some a'∧a'.length=2*E.length∧h'.get h2.next=some (.cells (bls a') 1 false)∧Ext h2.next h2 h') a (λ_ _=>rfl) om (by simp only[hl,am,aF,simprocAttr,ei,en,e25,e2,e5]) ⟨rfl,j2,j3,j4⟩ ?_ ?_
  ·clear ei en e25 e2 e5 a1 r1
   rintro j a' ts h5 hj ⟨i1,i2,i3,i4⟩ ⟨e34,e33,e27,e26,e25,e2,e5,e6,e32,-⟩
   simp only at e34 e33 e27 e26 e25 e2 e5 e6 e32
   have n5:=i4.nx
   have X5:Ext h.next h h5:=X2.trans (i4.mono om)
   have rw5:SlI h5 w T[k]:=rw1.ext X5 (ae _)
   obtain⟨zb,zp,a2,r2,_⟩:=rw5.at1 (fE (f:=eI) hj)
   refine aj (aB (M4 e32 e34 a2 r2) ?_)
   have bad:=Ir (s0:=List.replicate (2*E.length) false) hk hj j1 i1
   have hbad:∀ (_:¬ (0≤T[k][j]∧T[k][j]<(a'.length:Nat)∧a'.getD T[k][j].toNat true=false∧tz E T[k][j]=((k:Nat):Int))),AV.bool false=.bool (jO n E T):=λq=>by
    rw[jO,bad q,dK]
   have hnext:(0≤T[k][j]∧T[k][j]<(a'.length:Nat)∧a'.getD T[k][j].toNat true=false∧tz E T[k][j]=((k:Nat):Int))→me E ((k:Nat):Int) (T[k].take (j+1)) a=some (a'.set T[k][j].toNat true):=λq=>by
    rw[bV hj,ru,i1,eU]
    simp only[me]
    rw[if_pos q]
   generalize T[k][j]=z at *
   by_cases q1:z<0
   ·have c1:decide (z<0)=true:=aL q1
    refine aj (aj (bO (jZ 17 (M1 c1) rfl (Z1 c1) ?_)))
    refine bI (M1 c1) ?_
    refine cX (Z0) (aj (aB (M0) ?_))
    exact bG ⟨.bool false,(by simp only[rs,rf17,am,aF,simprocAttr]<;>rfl),hbad λq=>by omega,X5⟩
   have c1:decide (z<0)=false:=aJ q1
   obtain⟨zn,rfl⟩:=fJ (Int.not_lt.1 q1)
   by_cases q2:2*E.length≤zn
   ·have c2:decide (((2*E.length:Nat):Int)≤((zn:Nat):Int))=true:=aL om
    refine aj (aj (bO (jZ 17 (M3 c1 c2 e5) rfl (Z2 c1 c2) ?_)))
    refine bI (M1 c1) ?_
    refine cX (Z0) (aj (aB (M0) ?_))
    exact bG ⟨.bool false,(by simp only[rs,rf17,am,aF,simprocAttr]<;>rfl),hbad λq=>by omega,X5⟩
   have c2:decide (((2*E.length:Nat):Int)≤((zn:Nat):Int))=false:=aJ om
   have iz:fU ((zn:Nat):Int) (2*E.length)=some zn:=dU om
   have hza:zn<a'.length:=om
   have ra:ar h5 h2.next zn 1=some [.bool (a'.getD zn false)]:=bq i3 (Af hza)
   have hgd:a'.getD zn true=a'.getD zn false:=by
    rw[ai,ai,ah hza]
    rfl
   rw[cB,hgd] at hbad hnext
   cases q3:a'.getD zn false with
   | true =>
     rw[q3] at ra hbad
     refine aj (aj (bO (jZ 17 (M6 c1 c2 e5 iz @aO ra) rfl (Z2 c1 c2) ?_)))
     refine bI (M1 c1) ?_
     refine cX (Z0) (aj (aB (M0) ?_))
     exact bG ⟨.bool false,(by simp only[rs,rf17,am,aF,simprocAttr]<;>rfl),hbad (λq=>by cases q.2.2.1),X5⟩
   | false =>
     rw[q3] at ra hbad hnext
     have g5:h5.get h.next=some (.cells [.int .i64 (n:Nat),ev] 2 false):=by rw[i4.gt _ om]; exact g2
     have rA5:ar h5 h.next 0 2=some [.int .i64 (n:Nat),ev]:=by rw[bg g5]; rfl
     have hv:=xn (n:=n) (k:=zn) (he.ext X5 (ae _)) om om
     refine aj (aj (bO (bt 17 (M8 c1 c2 e2 e5 iz @aO ra rA5) rfl (Z8 c1 c2 e2 e5 iz @aO ra rA5) (M8 c1 c2 e2 e5 iz @aO ra rA5) (hv) λr h6 hq=>?_)))
     obtain⟨rfl,x6⟩:=hq
     have n6:=x6.nx
     have i46:Ext h2.next h2 h6:=i4.trans (x6.mono n5)
     refine bI (M1 e6) ?_
     by_cases q4:tz E ((zn:Nat):Int)=((k:Nat):Int)
     ·have c4:decide (tz E ((zn:Nat):Int)=((k:Nat):Int))=true:=aL q4
      refine dL (Z1 c4) (bK ?_)
      have gs6:h6.get h2.next=some (.cells (bls a') 1 false):=by rw[x6.gt _ (AH.lt_of_get i3)]; exact i3
      have w7:=gv (v:=.bool true) gs6 (show zn<(bls a').length by rw[BF]; exact hza)
      rw[BE] at w7
      have u7:=LA (o:=.cells (bls (a'.set zn true)) 1 false) gs6
      refine aB (M4 e5 iz @aO w7) ?_
      exact⟨a'.set zn true,⟨hnext ⟨om,om,rfl,q4⟩,by rw[bE]; exact i2,u7.get,i46.trans (u7.ext (ae _))⟩,H10 e34 e33 e27 e26 e25 e2 e5 e6 e32 e32⟩
     ·have c4:decide (tz E ((zn:Nat):Int)=((k:Nat):Int))=false:=aJ q4
      refine cX (Z1 c4) (aj (aB (M0) ?_))
      exact bG ⟨.bool false,(by simp only[rs,rf17,am,aF,simprocAttr]<;>rfl),hbad λq=>q4 q.2.2.2,X2.trans (i46.mono om)⟩
  ·rintro a' ts h5 ⟨i1,i2,i3,i4⟩ ⟨e27,e26,e25,e2,e5,e6,e32,-⟩
   simp only at e27 e26 e25 e2 e5
   rw[dF] at i1
   refine⟨a',⟨?_,i2,i3,i4⟩,H5 e27 e26 e25 e2 e5⟩
   rw[bV hk,sT,j1,eU]
   simp only[np]
   rw[bS,dZ om,bM,i1]
   rfl
 ·rintro a ts h4 ⟨j1,j2,j3,j4⟩ ⟨e25,e2,e5,-⟩
  simp only at e25 e2 e5
  rw[dF] at j1
  have n4:=j4.nx
  refine aj (bO (bt 1 (M1 e5) rfl (Z1 e5) (M1 e5) (Gy (y:=false) j3 j2 om) λr h5 hq=>?_))
  obtain⟨rfl,rfl⟩:=hq
  refine bI (M0) ?_
  refine bG ⟨_,(by simp only[rs,rf17,am,aF,simprocAttr]<;>rfl),?_,X2.trans (j4.mono om)⟩
  rw[jO,c1,j1,fD]
  congr 2
  exact List.any_beq
theorem Fy {h:AH}{n:Nat} (hn:n<2 ^ 34):xS h [.int .i64 0] 1 8 (.int .i64 (n:Nat)) (.int .i64 (n:Nat))=some (.sl h.next 0 n n,h.new (.cells ((List.replicate n (0:Int)).flatMap eI) 1 false)):=by
 rw[oL (by unfold be; omega) (by unfold be; omega)]
 congr 4
 induction n with
 | zero=>rfl
 | succ n ih=>rw[List.replicate_succ,fh,← ih om]; rfl
theorem Bo {l:List Int}{i:Nat} (h:i<l.length):l.getD i 0=l[i]:=by
 rw[ai,ah h]
 rfl
set_option maxHeartbeats 1000000 in
theorem yY {h:AH}{n:Nat}{ev tv:AV}{E:List (Int×Int)}{T:List (List Int)} (he:SlE h ev E) (hE:E.length<2 ^ 30) (hT:SlL h tv T) (hT1:T.length<2 ^ 40) (hT2:∀ l∈T,l.length<2 ^ 40) (hin:∀ l∈T,∀ z∈l,0≤z∧z<((2*E.length:Nat):Int)) :
 C prg 34 [.agg [.int .i64 (n:Nat),ev],tv] h λr h'=>∃ nb,h.next≤nb∧r=.sl nb 0 (2*E.length) (2*E.length)∧h'.get nb=some (.cells ((mD T E.length).flatMap eI) 1 false)∧Ext h.next h h':=by
 obtain⟨ec,eo⟩:=he.cells
 obtain⟨tc,to⟩:=hT.cells
 have el:=he.len
 rw[ak] at el
 have tl:=hT.len
 refine LB pf34 ?_
 refine aj (aB (Mi0) ?_)
 have x0:Ext h.next h (h.new (.cells [.int .i64 (n:Nat),ev] 2 false)):=Ly (ae _)
 have g0:(h.new (.cells [.int .i64 (n:Nat),ev] 2 false)).get h.next=some (.cells [.int .i64 (n:Nat),ev] 2 false):=by rw[AH.get_new,if_pos rfl]
 have n0:(h.new (.cells [.int .i64 (n:Nat),ev] 2 false)).next=h.next+1:=rfl
 generalize (h.new (.cells [.int .i64 (n:Nat),ev] 2 false))=h2 at *
 have rE:ar h2 h.next 1 1=some [ev]:=bq g0 rfl
 have wd:=dbl (m:=E.length) om
 have mk:=Fy (h:=h2) (n:=2*E.length) om
 refine aj (aB (Mi4 rE el wd mk) ?_)
 have x3:Ext h2.next h2 (h2.new (.cells ((List.replicate (2*E.length) (0:Int)).flatMap eI) 1 false)):=Ly (ae _)
 have g3:(h2.new (.cells ((List.replicate (2*E.length) (0:Int)).flatMap eI) 1 false)).get h2.next=some (.cells ((List.replicate (2*E.length) (0:Int)).flatMap eI) 1 false):=by rw[AH.get_new,if_pos rfl]
 generalize h2.new (.cells ((List.replicate (2*E.length) (0:Int)).flatMap eI) 1 false)=h3 at *
 refine aj (aj (aB (Mi1 tl) ?_))
 refine fB (α:=List Int) (N:=T.length) (λ_ _=>[(15,tv),(5,.sl h2.next 0 (2*E.length) (2*E.length))])
  (λk a h'=>a=(T.take k).foldl vD (List.replicate (2*E.length) 0)∧Inr (2*E.length) a∧h'.get h2.next=some (.cells (a.flatMap eI) 1 false)∧Ext h2.next h2 h') (List.replicate (2*E.length) 0) (λ_ _=>rfl) om (Hi2 tc to) ⟨rfl,Inr.zero _,g3,x3⟩ ?_ ?_
 ·rintro k a ts h4 hk ⟨j1,j2,j3,j4⟩ ⟨ei,en,e15,e5,-⟩
  simp only at ei en e15 e5
  have n4:=j4.nx
  have X4:Ext h.next h h4:=x0.trans (j4.mono om)
  obtain⟨rb,rp,w,a1,r1,rw1,lb⟩:=hT.at hk
  rw[← cM (X4.gt _ lb)] at r1
  obtain⟨wc,wo⟩:=rw1.cells
  have wl:=rw1.len
  rw[ak] at wl
  have hll:=hT2 _ (aR hk)
  have hzin:=hin _ (aR hk)
  refine aj (aB (M4 e15 ei a1 r1) ?_)
  refine aj (aB (M1 wl) ?_)
  have hst:(T.take (k+1)).foldl vD (List.replicate (2*E.length) 0)=vD a T[k]:=by
   rw[bV hk,cS,← j1]
   rfl
  generalize T[k]=l at *
  refine fB (α:=List Int) (N:=l.length) (λ_ _=>[(17,.int .i64 (k:Nat)),(16,.int .i64 (T.length:Nat)),(15,tv),(5,.sl h2.next 0 (2*E.length) (2*E.length)),(7,w),(21,w)])
   (λj a' h'=>a'=(List.range j).foldl (lV l) a∧Inr (2*E.length) a'∧h'.get h2.next=some (.cells (a'.flatMap eI) 1 false)∧Ext h2.next h2 h') a (λ_ _=>rfl) om (by simp only[hl,am,aF,simprocAttr,ei,en,e15,e5]) ⟨rfl,j2,j3,j4⟩ ?_ ?_
  ·clear ei en e15 e5 a1 r1
   rintro j a' ts h5 hj ⟨i1,i2,i3,i4⟩ ⟨e23,e22,e17,e16,e15,e5,e7,e21,-⟩
   simp only at e23 e22 e17 e16 e15 e5 e7 e21
   have X5:Ext h.next h h5:=x0.trans (i4.mono om)
   have rw5:SlI h5 w l:=rw1.ext X5 (ae _)
   obtain⟨zb,zp,a2,r2,_⟩:=rw5.at1 (fE (f:=eI) hj)
   have hj2:(j+1) % l.length<l.length:=fL _ om
   obtain⟨yb,yp,a3,r3,_⟩:=rw5.at1 (fE (f:=eI) hj2)
   refine aj (aB (M4 e21 e23 a2 r2) ?_)
   have hz:=hzin _ (aR hj)
   have hy:=hzin _ (aR hj2)
   have hsucc:(List.range (j+1)).foldl (lV l) a=lV l a' j:=by
    rw[bD,cS,← i1]
    rfl
   have hsv:lV l a' j=a'.set (DR l[j] 1).toNat l[(j+1) % l.length]:=by
    unfold lV
    rw[Bo hj,Bo hj2]
   generalize l[j]=z at *
   generalize l[(j+1) % l.length]=y at *
   obtain⟨zn,rfl⟩:=fJ hz.1
   obtain⟨xe,xl⟩:=wV (h:=zn) om
   have xl:=xl E.length om
   rw[xe,cB] at hsv
   have ix:fU ((zn ^^^ 1:Nat):Int) (2*E.length)=some (zn ^^^ 1):=dU xl
   have w1:IntKind.i64.wrap (((j:Nat):Int)+1)=((j+1:Nat):Int):=fz om om
   have hnz:¬ ((l.length:Nat):Int)=0:=om
   have hr:(((j+1:Nat):Int)).tmod ((l.length:Nat):Int)=(((j+1) % l.length:Nat):Int):=rfl
   have w7:=gv (v:=.int .i64 y) i3 (show zn ^^^ 1<(a'.flatMap eI).length by rw[KY,i2.1]; exact xl)
   rw[KD] at w7
   have u7:=LA (o:=.cells ((a'.set (zn ^^^ 1) y).flatMap eI) 1 false) i3
   refine aB (M14 e5 e7 @bin_xorI xe w1 wl hnz hr a3 r3 ix @aO w7 w7) ?_
   exact⟨a'.set (zn ^^^ 1) y,⟨by rw[hsucc,hsv],i2.set hy,u7.get,i4.trans (u7.ext (ae _))⟩,H8 e23 e22 e17 e16 e15 e5 e7 e21⟩
  ·rintro a' ts h5 ⟨i1,i2,i3,i4⟩ ⟨e17,e16,e15,e5,e7,e21,-⟩
   simp only at e17 e16 e15 e5
   exact⟨a',⟨by rw[hst,i1]; rfl,i2,i3,i4⟩,H4 e17 e16 e15 e5⟩
 ·rintro a ts h4 ⟨j1,j2,j3,j4⟩ ⟨e15,e5,-⟩
  simp only at e15 e5
  rw[dF] at j1
  refine aj (aB (M1 e5) ?_)
  exact bG ⟨_,(by simp only[rs,rf34,am,aF,simprocAttr]<;>rfl),h2.next,om,rfl,by rw[← show a=mD T E.length from j1]; exact j3,x0.trans (j4.mono om)⟩
theorem LL.none {h:AH}{lo:Nat}:LL h lo .nils []:=⟨[],.inl ⟨rfl,rfl⟩,rfl,λi v xs h1=>by simp at h1⟩
theorem Lo {s:List Bool}{i:Nat} (h:i<s.length):s.getD i true=s.getD i false:=by
 rw[ai,ai,ah h]
 rfl
set_option maxHeartbeats 2000000 in
theorem yZ {h:AH}{n:Nat}{ev tv:AV}{E:List (Int×Int)}{T:List (List Int)} (he:SlE h ev E) (hm:gG (n:Nat) E=true) (hT:SlL h tv T) (hT1:T.length<2 ^ 40) (hT2:∀ l∈T,l.length<2 ^ 40) :
 C prg 18 [.agg [.int .i64 (n:Nat),ev],tv] h λr h'=>LL h' h.next r (iV n E T)∧Ext h.next h h':=by
 obtain⟨ec,eo⟩:=he.cells
 obtain⟨tc,to⟩:=hT.cells
 obtain⟨m1,m2,m3,m4⟩:=jQ hm
 refine LB pf18 ?_
 refine aj (aB (Mi0) ?_)
 have x0:Ext h.next h (h.new (.cells [.int .i64 (n:Nat),ev] 2 false)):=Ly (ae _)
 have g0:(h.new (.cells [.int .i64 (n:Nat),ev] 2 false)).get h.next=some (.cells [.int .i64 (n:Nat),ev] 2 false):=by rw[AH.get_new,if_pos rfl]
 have n0:(h.new (.cells [.int .i64 (n:Nat),ev] 2 false)).next=h.next+1:=rfl
 generalize (h.new (.cells [.int .i64 (n:Nat),ev] 2 false))=h1 at *
 have rA:ar h1 h.next 0 2=some [.int .i64 (n:Nat),ev]:=by rw[bg g0]; rfl
 refine aj (aj (bO (bt 2 (Mi1 rA) rfl (Zi1 rA) (Mi1 rA) (rj (n:=n) (he.ext x0 (ae _)) hm (hT.ext x0) hT1 hT2) λr h2 hq=>?_)))
 obtain⟨rfl,x2⟩:=hq
 refine bI (M0) ?_
 have n2:=x2.nx
 have X2:Ext h.next h h2:=x0.trans (x2.mono om)
 cases hR:jO n E T with
 | false =>
   refine cX (Z0) (aj (aB (M0) ?_))
   refine bG ⟨.nils,(by simp only[rs,rf18,am,aF,simprocAttr]<;>rfl),?_,X2⟩
   rw[iV,hR]
   exact LL.none
 | true =>
 obtain⟨_,hin⟩:=rC hR
 refine dL (Z0) (bK ?_)
 have g2:h2.get h.next=some (.cells [.int .i64 (n:Nat),ev] 2 false):=by rw[x2.gt _ om]; exact g0
 have rA2:ar h2 h.next 0 2=some [.int .i64 (n:Nat),ev]:=by rw[bg g2]; rfl
 refine aj (bO (bt 2 (Mi1 rA2) rfl (Zi1 rA2) (Mi1 rA2) (yY (n:=n) (he.ext X2 (ae _)) om (hT.ext X2) hT1 hT2 hin) λr h3 hq=>?_))
 obtain⟨nb,hnb,rfl,gn,x3⟩:=hq
 refine bI (M0) ?_
 have n3:=x3.nx
 have X3:Ext h.next h h3:=X2.trans (x3.mono om)
 have hIn:Inr (2*E.length) (mD T E.length):=xP hin (Inr.zero _)
 have hFR:iV n E T=pC (mD T E.length) (2*E.length):=by rw[iV,if_pos hR]
 rw[hFR]
 have hN:2*E.length≤256:=om
 generalize mD T E.length=nx at *
 generalize 2*E.length=N at *
 have mk:=uf (h:=h3) (n:=N) om
 refine aj (aB (Mi1 mk) ?_)
 have x4:Ext h3.next h3 (h3.new (.cells (bls (List.replicate N false)) 1 false)):=Ly (ae _)
 have g4:(h3.new (.cells (bls (List.replicate N false)) 1 false)).get h3.next=some (.cells (bls (List.replicate N false)) 1 false):=by rw[AH.get_new,if_pos rfl]
 generalize h3.new (.cells (bls (List.replicate N false)) 1 false)=h4 at *
 refine aj (aj (aB (M0) ?_))
 have hnb3:=AH.lt_of_get gn
 refine fB (α:=AV×List (List Nat)×List Bool) (N:=N) (λ_ a=>[(20,.sl nb 0 N N),(5,.sl nb 0 N N),(6,.sl h3.next 0 N N),(4,a.1)])
  (λk a h'=>a.2=(List.range k).foldl (fp nx N) ([],List.replicate N false)∧h'.get h3.next=some (.cells (bls a.2.2) 1 false)∧LL h' (h3.next+1) a.1 a.2.1∧Ext h3.next h3 h') (.nils,[],List.replicate N false) (λ_ _=>rfl) om (Hi0) ⟨rfl,g4,LL.none,x4⟩ ?_ ?_
 ·rintro k ⟨a,out,s⟩ ts h5 hk ⟨j1,j2,j3,j4⟩ ⟨ei,en,e20,e5,e6,e4,-⟩
  simp only at ei en e20 e5 e6 e4 j1 j2 j3 j4
  have n5:=j4.nx
  have hs5:=AH.lt_of_get j2
  obtain⟨k1,k2,k3⟩:=sx hIn k om
  rw[← j1] at k1 k2 k3
  simp only at k1 k2 k3
  have hsucc:(List.range (k+1)).foldl (fp nx N) ([],List.replicate N false)=fp nx N (out,s) k:=by
   rw[bD,cS,← j1]
   rfl
  refine aj (aB (M1 ei) ?_)
  refine aj (aB (M0) ?_)
  refine aj (aj (aB (M0) ?_))
  refine sV (λts h'=>∃ fv,IsSl h' 1 h5.next fv (nC (trF nx N s k).1)∧Mod h5.next h5 h' h3.next (.cells (bls (trF nx N s k).2) 1 false)∧Held [(22,.int .i64 (k:Nat)),(21,.int .i64 (N:Nat)),(20,.sl nb 0 N N),(5,.sl nb 0 N N),(6,.sl h3.next 0 N N),(4,a),(8,fv)] ts) ?_ ?_
  ·refine cL (fW (λm ts h'=>∃ (dn:List Nat) (s':List Bool) (hd fuel:Nat) (fv:AV),m=s'.count false∧trF nx N s k=(dn++(trF nx fuel s' hd).1,(trF nx fuel s' hd).2)∧s'.count false≤fuel∧hd<N∧s'.length=N∧dn.length+s'.count false≤N ∧
    IsSl h' 1 h5.next fv (nC dn)∧Mod h5.next h5 h' h3.next (.cells (bls s') 1 false)∧Held [(22,.int .i64 (k:Nat)),(21,.int .i64 (N:Nat)),(20,.sl nb 0 N N),(5,.sl nb 0 N N),(6,.sl h3.next 0 N N),(4,a),(8,fv),(9,.int .i64 (hd:Nat))] ts) ?_ (n:=s.count false)
    ⟨[],s,k,N,.nils,rfl,rfl,by rw[← k2]; exact List.count_le_length,hk,k2,by rw[aP,bM,← k2]; exact List.count_le_length,.inl ⟨rfl,rfl⟩,Mod.refl j2,by simp only[hl,am,aF,simprocAttr,ei,en,e20,e5,e6,e4]⟩)
   clear ei en e20 e5 e6 e4
   rintro m ts h6 ⟨dn,s',hd,fuel,fv,rfl,p1,p2,p3,p4,p5,p6,p7,e22,e21,e20,e5,e6,e4,e8,e9,-⟩
   simp only at e22 e21 e20 e5 e6 e4 e8 e9
   have n6:=p7.nx
   have ih:fU ((hd:Nat):Int) N=some hd:=dU p3
   have rs:ar h6 h3.next hd 1=some [.bool (s'.getD hd false)]:=bq p7.get (Af om)
   refine aj (aj (aB (by simp only[am,aF,simprocAttr,e6,e9,ih,aO,rs]<;>rfl) ?_))
   have qt:s'.getD hd true=s'.getD hd false:=Lo om
   cases q:s'.getD hd false with
   | true =>
     refine dL (Z1 q) ?_
     have ht:=trF_stop (nx:=nx) (k:=fuel) (qt.trans q)
     rw[ht,dG] at p1
     refine ft ⟨λ_=>⟨fv,by rw[p1]; exact p6,by rw[p1]; exact p7,H7 e22 e21 e20 e5 e6 e4 e8⟩,λe=>absurd rfl e⟩
   | false =>
     refine cX (Z1 q) (bK ?_)
     have hc:=Dr (s:=s') (h:=hd) (qt.trans q)
     have w7:=gv (v:=.bool true) p7.get (show hd<(bls s').length by rw[BF]; omega)
     rw[BE] at w7
     have u7:=LA (o:=.cells (bls (s'.set hd true)) 1 false) p7.get
     refine aj (cL (aj (aB (M5 e6 e9 ih @aO w7) ?_)))
     generalize h6.put h3.next (.cells (bls (s'.set hd true)) 1 false)=h7 at *
     have n7:=u7.nx
     have f7:=p6.upd u7 om
     obtain⟨fv',h8,a1,i1,x8,n8⟩:=f7.push (bytes:=8) (eI ((hd:Nat):Int)) om om rfl rfl (by rw[gT]; unfold be; omega) (by rw[gT]; unfold be; omega)
     rw[show eI ((hd:Nat):Int)=[.int .i64 ((hd:Nat):Int)] from rfl] at a1 i1
     refine aB (M3 e8 e9 a1) ?_
     have M8:=(p7.upd u7).ext hs5 x8
     have gn8:h8.get nb=some (.cells (nx.flatMap eI) 1 false):=by
      rw[M8.gt _ om om,j4.gt _ om]
      exact gn
     have rn:=bq gn8 (at_cI (xs:=nx) (i:=hd) (by rw[hIn.1]; exact p3))
     obtain⟨v1,v2⟩:=hIn.at p3
     refine aB (M5 e5 e9 ih @aO rn) ?_
     refine⟨(s'.set hd true).count false,om,dn++[hd],s'.set hd true,(nx.getD hd 0).toNat,fuel-1,fv',rfl,?_,om,om,by rw[bE]; exact p4,by simp only[aI,aw,aP]; omega,?_,M8,by simp only[hl,am,aF,simprocAttr,e22,e21,e20,e5,e6,e4,jr v1]⟩
     ·obtain⟨f',rfl⟩:∃ f',fuel=f'+1:=⟨fuel-1,om⟩
      rw[p1]
      simp only[trF]
      rw[if_neg (by rw[qt,q]; simp)]
      simp
     ·rw[rV]
      exact i1
  ·clear ei en e20 e5 e6 e4
   rintro ts h6 ⟨fv,p6,p7,e22,e21,e20,e5,e6,e4,e8,-⟩
   simp only at e22 e21 e20 e5 e6 e4 e8
   have n6:=p7.nx
   have fl:=(eu p6).len
   rw[ak,ak] at fl
   have hlen:=(trF_len nx N s k).1
   have a6:LL h6 (h3.next+1) a out:=j3.cong λc q1 q2=>p7.gt c om q2
   have X6:Ext h3.next h3 h6:=j4.trans ((p7.mono (m:=h3.next) om).toExt (ae _))
   by_cases q:(trF nx N s k).1=[]
   ·have c0:decide ((0:Int)<(((trF nx N s k).1.length:Nat):Int))=false:=aJ (by rw[q]; simp)
    refine aj (aB (by simp only[am,aF,simprocAttr,e8,fl,c0]<;>rfl) ?_)
    refine dL (Z0) (bK ?_)
    exact⟨(a,out,(trF nx N s k).2),⟨by rw[hsucc,fp,if_pos q],p7.get,a6,X6⟩,H6 e22 e21 e20 e5 e6 e4⟩
   ·have hpos:0<(trF nx N s k).1.length:=gw.2 q
    have c0:decide ((0:Int)<(((trF nx N s k).1.length:Nat):Int))=true:=aL om
    refine aj (aB (by simp only[am,aF,simprocAttr,e8,fl,c0]<;>rfl) ?_)
    refine cX (Z0) ?_
    have x7:Ext h6.next h6 (h6.new (.cells [fv] 1 false)):=Ly (ae _)
    have g7:(h6.new (.cells [fv] 1 false)).get h6.next=some (.cells [fv] 1 false):=by rw[AH.get_new,if_pos rfl]
    have n7:(h6.new (.cells [fv] 1 false)).next=h6.next+1:=rfl
    obtain⟨fc,fo⟩:=p6.cells
    obtain⟨a',h8,b1,b2,b3,b4,b5,b6⟩:=(a6.ext x7 (ae _)).push (x:=h6.next) (v:=fv) (xs:=(trF nx N s k).1) om ((p6.ext x7 (ae _)).mono om) g7 om (λb m e=>by have:=a6.lt e; omega)
     (λb m b' m' e1 e2=>by
      have l1:=j3.lt e2
      rcases p6 with ⟨h1,_⟩|⟨fb,fm,h1,h2,_⟩
      ·rw[h1] at e1; cases e1
      ·rw[h2] at e1; cases e1; omega) (by unfold be; omega)
    refine aB (M5 e4 e8 fc fo b1) ?_
    refine⟨(a',out++[(trF nx N s k).1],(trF nx N s k).2),⟨by rw[hsucc,fp,if_neg q],?_,b2,X6.trans ((x7.mono om).trans (b3.mono om))⟩,H5 e22 e21 e20 e5 e6⟩
    rw[b3.gt _ om,x7.gt _ om]
    exact p7.get
 ·rintro⟨a,out,s⟩ ts h5 ⟨j1,j2,j3,j4⟩ ⟨e20,e5,e6,e4,-⟩
  simp only at e20 e5 e6 e4 j1 j2 j3 j4
  have ac:a.cells=[a]:=by
   obtain⟨vs,h1,_⟩:=j3
   exact h1.cells.1
  refine aj (aB (M1 e4) ?_)
  refine bG ⟨a,(by simp only[rs,rf18,am,aF,simprocAttr,ac]<;>rfl),?_,X3.trans (j4.mono om)⟩
  have e:out=pC nx N:=by
   unfold pC
   rw[← j1]
  rw[← e]
  exact j3.mono om
end Go.Proofs.YtpeemonpdlifbaaGreat
