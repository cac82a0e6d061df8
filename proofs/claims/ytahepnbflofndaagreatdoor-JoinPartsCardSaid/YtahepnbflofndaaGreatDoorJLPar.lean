/- JoinParts' law in the clean machine. -/
import Derived.Test.YtahepnbflofndaaGreatDoorJNi
import Derived.Test.YtahepnbflofndaaGreatDoorJLi
import Derived.Test.YtahepnbflofndaaGreatDoorJLm
import Derived.Test.YtahepnbflofndaaGreatDoorJNws
import Derived.Test.YtahepnbflofndaaGreatDoorJSx
import Derived.KernelRfl
set_option linter.all false
namespace Go.Proofs.YtahepnbflofndaaGreatDoor
open Go.Am
open Go.Blk (Gr Lst canon)
theorem Eu:sjH0=AH.zero.keep 2:=by kernel_rfl
theorem xh {h:AH}{n:Int}{ev:AV}{E:List (Int×Int)} (he:SlE h ev E) :
 C prg 18 [.agg [.int .i64 n,ev]] h λr h'=>r=.bool ((decide (20<n)&&eV n E)||decide (30<E.length))∧Ext h.next h h':=by
 have el:=he.len
 rw[au] at el
 obtain⟨ec,eo⟩:=he.cells
 have e30:decide ((30:Int)<((E.length:Nat):Int))=decide (30<E.length):=by rw[decide_eq_decide]; omega
 refine HH pf18 ?_
 refine ab (ah (Mi0) ?_)
 have x0:Ext h.next h (h.new (.cells [.int .i64 n,ev] 2 false)):=HD (ae _)
 have g0:(h.new (.cells [.int .i64 n,ev] 2 false)).get h.next=some (.cells [.int .i64 n,ev] 2 false):=by rw[AH.get_new,if_pos rfl]
 have n0:(h.new (.cells [.int .i64 n,ev] 2 false)).next=h.next+1:=rfl
 generalize (h.new (.cells [.int .i64 n,ev] 2 false))=h1 at *
 have rN:ar h1 h.next 0 1=some [.int .i64 n]:=bB g0 rfl
 have rE:ar h1 h.next 1 1=some [ev]:=bB g0 rfl
 have rA:ar h1 h.next 0 2=some [.int .i64 n,ev]:=by rw[aS g0]; rfl
 by_cases q:20<n
 ·have c1:decide (20<n)=true:=aI q
  refine ab (aX (aP 5 (Mi3 rN rA c1) rfl (Zi3 rN rA c1) (Mi3 rN rA c1) (uE (n:=n) (he.ext x0 (ae _))) λr h2 hq=>?_))
  obtain⟨rfl,x2⟩:=hq
  have g2:h2.get h.next=some (.cells [.int .i64 n,ev] 2 false):=by rw[x2.gt _ om]; exact g0
  have rE2:ar h2 h.next 1 1=some [ev]:=bB g2 rfl
  rw[c1,wk]
  cases hm:eV n E with
  | true =>
    refine aW (M0) ?_
    exact bt ⟨.bool true,(by simp only[rs,rf18,am,aD,simprocAttr]<;>rfl),rfl,x0.trans (x2.mono om)⟩
  | false =>
    refine aW (M3 rE2 el e30) ?_
    exact bt ⟨.bool (decide (30<E.length)),(by simp only[rs,rf18,am,aD,simprocAttr]<;>rfl),rfl,x0.trans (x2.mono om)⟩
 ·have c1:decide (20<n)=false:=aG q
  refine ab (aX (dF 5 (Mi2 rN c1) rfl (Z0) ?_))
  refine aW (M3 rE el e30) ?_
  exact bt ⟨.bool (decide (30<E.length)),(by simp only[rs,rf18,am,aD,simprocAttr]<;>rfl),by rw[c1,gX,wm],x0⟩
theorem fld0 {x:AV}{r:List AV}:Dl false 0 1 (.agg (x::r))=some x:=rfl
theorem GV {h:AH}{b o m n:Nat}{cs:List AV} (hr:ar h b o m=some cs) (hn:n≤m):ar h b o n=some (cs.take n):=by
 unfold ar at *
 split at hr
 ·split at hr
  ·rename_i hlt
   cases hr
   rw[if_pos om,Hw,cw hn]
  ·cases hr
 ·cases hr
set_option maxHeartbeats 400000 in
theorem zL {os:List AO}{n:Int}{ev:AV}{E:List (Int×Int)} (hos:os.length=1) (he:SlE (news os AH.zero) ev E) :
 C prg 5 [.agg [.int .i64 n,ev]] (news os AH.zero) λv _=>v=.bool true:=by
 obtain⟨ec,eo⟩:=he.cells
 have hnx:(news os AH.zero).next=9:=by rw[rO,hos]; rfl
 refine HH pf5 ?_
 refine ab (ah (Mi0) ?_)
 have hsp:=zc (f:=17) Et Eu (os:=os++[.cells [.int .i64 n,ev] 2 false]) (by rw[aM,hos]; rfl) (by decide)
 rw[← Cj] at hsp
 have ga:∀ c,((news os AH.zero).new (.cells [.int .i64 n,ev] 2 false)).get c=if c=(news os AH.zero).next then some (.cells [.int .i64 n,ev] 2 false) else (news os AH.zero).get c:=λc=>by
  rw[AH.get_new]
 have hk0:∀ b o,(news os AH.zero).get b=some o→((news os AH.zero).new (.cells [.int .i64 n,ev] 2 false)).get b=some o:=λb o hb=>by
  have:=AH.lt_of_get hb
  rw[ga,if_neg om]
  exact hb
 generalize ((news os AH.zero).new (.cells [.int .i64 n,ev] 2 false))=h1 at *
 have gG:h1.get (news os AH.zero).next=some (.cells [.int .i64 n,ev] 2 false):=by rw[ga,if_pos rfl]
 generalize (news os AH.zero).next=nx at *
 subst hnx
 refine ab (ab (aX (kU (Z0) (M0) (hsp) λr h2 hq=>?_)))
 obtain⟨rfl,hn2,hk2⟩:=hq
 refine aW (M0) ?_
 refine cU (Z0) (aN ?_)
 have he2:SlE h2 ev E:=Sl.stay (λb o hb=>hk2 b o (hk0 b o hb)) he
 have el:=he2.len
 rw[au] at el
 have gG2:=hk2 _ _ gG
 have rG:ar h2 9 0 2=some [.int .i64 n,ev]:=by rw[aS gG2]; rfl
 refine ab (ab (aX (aP 1 (Mi1 rG) rfl (Zi1 rG) (Mi1 rG) (xh (n:=n) he2) λr h3 hq=>?_)))
 obtain⟨rfl,x3⟩:=hq
 refine aW (M0) ?_
 refine bg (t:=(decide (20<n)&&eV n E)||decide (30<E.length)) (Z0) (λq=>ab (ah (M0) ?_)) λq=>?_
 ·exact bt ⟨.bool true,(by simp only[rs,rf5,am,aD,simprocAttr]<;>rfl),rfl⟩
 rw[Bool.or_eq_false_iff] at q
 have q2:=aE q.2
 refine aN ?_
 have n3:=x3.nx
 have he3:=he2.ext x3 (ae _)
 have gG3:h3.get 9=some (.cells [.int .i64 n,ev] 2 false):=by rw[x3.gt _ om]; exact gG2
 have rG3:ar h3 9 0 2=some [.int .i64 n,ev]:=by rw[aS gG3]; rfl
 refine ab (aX (aP 1 (Mi1 rG3) rfl (Zi1 rG3) (Mi1 rG3) (Ae (n:=n) he3 om) λr h4 hq=>?_))
 obtain⟨x4,hbad,hgood⟩:=hq
 have n4:=x4.nx
 have he4:=he3.ext x4 (ae _)
 have gG4:h4.get 9=some (.cells [.int .i64 n,ev] 2 false):=by rw[x4.gt _ om]; exact gG3
 have rG4:ar h4 9 0 2=some [.int .i64 n,ev]:=by rw[aS gG4]; rfl
 by_cases hg:¬ jr n E
 ·have hr:=hbad hg
  subst hr
  refine aW (M0) ?_
  refine ab (ab (aX (aP 1 (Mi1 rG4) rfl (Zi1 rG4) (Mi1 rG4) (uG (n:=n) he4 om) λr h5 hq=>?_)))
  obtain⟨⟨b,rfl,hb⟩,x5⟩:=hq
  have hbf:b=false:=by
   cases b with
   | false=>rfl
   | true=>exact absurd (hb.1 rfl) hg
  subst hbf
  refine aW (M0) ?_
  refine dv (Z0) (ab (ah (M2 @mB @decide_true) ?_))
  exact bt ⟨.bool true,(by simp only[rs,rf5,am,aD,simprocAttr]<;>rfl),rfl⟩
 have hg:jr n E:=Classical.byContradiction hg
 obtain⟨a,rfl,hpl⟩:=hgood hg
 have hm:=hg.1
 have hn:n=((n.toNat:Nat):Int):=by
  have:=hm
  unfold eV at this
  simp only[aq,aj] at this
  omega
 have hL:=rK hg
 generalize n.toNat=nn at *
 subst hn
 have hE:=xg hm
 obtain⟨m1,m2,m3,m4⟩:=kz hm
 obtain⟨l0,hl0⟩:=Go.Blk.lst_ex (grE nn E hE hL)
 have pa:=hpl hE hL l0 hl0
 obtain⟨ac,ao⟩:=pa.cells
 refine aW (M0) ?_
 refine ab (ab (aX (aP 1 (Mi1 rG4) rfl (Zi1 rG4) (Mi1 rG4) (uG (n:=((nn:Nat):Int)) he4 om) λr h5 hq=>?_)))
 obtain⟨⟨b,rfl,hb⟩,x5⟩:=hq
 have hbt:b=true:=hb.2 hg
 subst hbt
 refine aW (M0) ?_
 refine cU (Z0) (aN ?_)
 have n5:=x5.nx
 have he5:=he4.ext x5 (ae _)
 have gG5:h5.get 9=some (.cells [.int .i64 (nn:Nat),ev] 2 false):=by rw[x5.gt _ om]; exact gG4
 have rG5:ar h5 9 0 2=some [.int .i64 (nn:Nat),ev]:=by rw[aS gG5]; rfl
 have hrp:=zz (n:=nn) he5 hE hL m3 m2
 unfold gW at hrp
 refine ab (aX (aP 1 (Mi1 rG5) rfl (Zi1 rG5) (Mi1 rG5) (hrp) λw h6 hq=>?_))
 obtain⟨x6,l,hlst,pw⟩:=hq
 refine aW (M0) ?_
 have n6:=x6.nx
 have pa5:=pa.ext x5 (ae _)
 have pa6:=pa5.ext x6 (ae _)
 have ecan:canon E.length l0=canon E.length l:=Go.Blk.canon_congr λi hi=>hl0.uniq hlst hi
 rw[ecan] at pa6
 have hgp:∀ p∈(canon E.length l).map (mT nn E),jr ((p.1.length:Nat):Int) p.2.1∧p.1.length≤64∧p.2.1.length≤128∧p.2.2.length≤128:=λp hp=>by
  obtain⟨bb,hbb,rfl⟩:=bJ.1 hp
  obtain⟨k1,k2,k3,k4⟩:=jZ hbb
  have h1:=sR nn E (nI bb)
  refine⟨zN hg hE hL hlst hbb,by show (vsM nn E (nI bb)).length≤64; omega,?_,by show (nI bb).length≤128; rw[eZ]; omega⟩
  show (oP nn E (nI bb)).length≤128
  unfold oP
  rw[au,eZ]
  omega
 have hlen:((canon E.length l).map (mT nn E)).length≤128:=by
  rw[au]
  exact bS nV m3
 generalize (canon E.length l).map (mT nn E)=L at *
 have la:=pa6.len
 have lw:=pw.len
 obtain⟨wc,wo⟩:=pw.cells
 refine ab (ab (ah (by simp only[am,aD,simprocAttr,la,lw,decide_true]<;>rfl) ?_))
 refine cU (Z0) (aN ?_)
 refine ab ?_
 refine ab (ah (by simp only[am,aD,simprocAttr,la]<;>rfl) ?_)
 refine hU (α:=Unit) (N:=L.length) (λ_ _=>[(5,w),(38,a)]) (λk _ h'=>Ext h6.next h6 h') () (λ_ _=>rfl) om (Hi0) HE ?_ ?_
 ·rintro k _ ts h7 hk jx ⟨e40,e39,e5,e38,-⟩
  simp only at e40 e39 e5 e38
  have n7:=jx.nx
  have pa7:=pa6.ext jx (ae _)
  have pw7:=pw.ext jx (ae _)
  obtain⟨hg1,hg2,hg3,hg4⟩:=hgp _ (bq hk)
  obtain⟨b1,o1,x,a1,r1,c1,lb1,_⟩:=pa7.at hk
  obtain⟨x1,xe,xn,xu⟩:=x
  obtain⟨p1,p2,p3,p4,_⟩:=c1
  simp only at p1 p2 p3 p4
  subst p1
  obtain⟨xec,xeo⟩:=p2.cells
  obtain⟨xnc,xno⟩:=p3.cells
  obtain⟨xuc,xuo⟩:=p4.cells
  obtain⟨h8,w8,x8,g8,n8⟩:=ij (h:=h7) (z:=[.int .i64 0,.nils,.nils,.nils]) (cs:=[.int .i64 (L[k].1.length:Nat),xe,xn,xu]) (e:=4) rfl
  refine ab (ah (by simp only[am,aD,simprocAttr,e38,e40,a1,r1,f4,xeo,xno,xuo,w8]<;>rfl) ?_)
  have pw8:=pw7.ext x8 (ae _)
  obtain⟨b2,o2,y,a2,r2,c2,lb2,ry⟩:=pw8.at hk
  obtain⟨y1,ye,yn,yu⟩:=y
  obtain⟨s1,s2,s3,s4,_⟩:=c2
  simp only at s1 s2 s3 s4
  subst s1
  have rx:ar h8 h7.next 0 2=some [.int .i64 (L[k].1.length:Nat),xe]:=by rw[aS g8]; rfl
  have ry2:ar h8 b2 o2 2=some [.int .i64 (L[k].1.length:Nat),ye]:=GV r2 (n:=2) om
  have p28:=p2.ext x8 (ae _)
  have p38:=p3.ext x8 (ae _)
  have p48:=p4.ext x8 (ae _)
  refine ab (aX (aP 7 (M4 e5 rx a2 ry2) rfl (Z4 e5 rx a2 ry2) (M4 e5 rx a2 ry2) (BO (n:=((L[k].1.length:Nat):Int)) (m:=((L[k].1.length:Nat):Int)) p28 s2 om om) λr h9 hq=>?_))
  obtain⟨rfl,x9⟩:=hq
  rw[aI (rfl:((L[k].1.length:Nat):Int)=_),aI (rfl:L[k].2.1=_)]
  have n9:=x9.nx
  have g9:h9.get h7.next=some (.cells [.int .i64 (L[k].1.length:Nat),xe,xn,xu] 4 false):=by rw[x9.gt _ om]; exact g8
  have rx2:ar h9 h7.next 2 1=some [xn]:=bB g9 rfl
  have ryn:ar h9 b2 (o2+2) 1=some [yn]:=by rw[cy (x9.gt _ lb2)]; exact ry 2 yn rfl
  refine aP 9 (M4 e5 rx2 a2 ryn) rfl (Z4 e5 rx2 a2 ryn) (M4 e5 rx2 a2 ryn) (uv (p38.ext x9 (ae _)) (s3.ext x9 (ae _)) om om) λr h10 hq=>?_
  obtain⟨rfl,rfl⟩:=hq
  rw[aI (rfl:L[k].1=_)]
  have rx3:ar h10 h7.next 3 1=some [xu]:=bB g9 rfl
  have ryu:ar h10 b2 (o2+3) 1=some [yu]:=by rw[cy (x9.gt _ lb2)]; exact ry 3 yu rfl
  refine aP 10 (M4 e5 rx3 a2 ryu) rfl (Z4 e5 rx3 a2 ryu) (M4 e5 rx3 a2 ryu) (uv (p48.ext x9 (ae _)) (s4.ext x9 (ae _)) om om) λr h11 hq=>?_
  obtain⟨rfl,rfl⟩:=hq
  rw[aI (rfl:L[k].2.2=_)]
  have rx0:ar h11 h7.next 0 2=some [.int .i64 (L[k].1.length:Nat),xe]:=by rw[aS g9]; rfl
  refine aP 5 (M1 rx0) rfl (Z1 rx0) (M1 rx0) (vV (n:=((L[k].1.length:Nat):Int)) (p28.ext x9 (ae _)) om) λr h12 hq=>?_
  obtain⟨⟨c,at_,vv,rfl,hc⟩,x12⟩:=hq
  have hc0:c=0:=hc.2 hg1
  subst hc0
  refine aW (M1 @fld0) ?_
  refine cU (Z2 @decide_true @wl) (aN ?_)
  exact⟨(),jx.trans ((x8.mono n7).trans ((x9.mono om).trans (x12.mono om))),H4 e40 e39 e5 e38⟩
 ·rintro _ ts h7 jx _
  refine ab (ah (M0) ?_)
  exact bt ⟨.bool true,(by simp only[rs,rf5,am,aD,simprocAttr]<;>rfl),rfl⟩
end Go.Proofs.YtahepnbflofndaaGreatDoor
