/- arborref07.Plain. -/
import Derived.Test.YtpeemonpdlifbaaGreatVTBE
import Derived.Test.YtpeemonpdlifbaaGreatVTAF
import Derived.Test.YtpeemonpdlifbaaGreatVTBH
import Derived.Test.YtpeemonpdlifbaaGreatVTAL
import Derived.Test.YtpeemonpdlifbaaGreatVTAM
import Derived.Test.YtpeemonpdlifbaaGreatVTAQ
import Derived.Test.YtpeemonpdlifbaaGreatVTBG
import Derived.Test.YtpeemonpdlifbaaGreatVTAC
import Derived.Test.YtpeemonpdlifbaaGreatVAmSrt
import Derived.Shelf.Slices.In.SortAlone
import Derived.KernelRfl
import Derived.Deep.QuietTactic
import Derived.BigQuiet
import Derived.Shelf.SlSortCmp.Whole1
set_option linter.all false
namespace Go.Proofs.YtpeemonpdlifbaaGreat
open Go.Am
theorem qK {ks:List IntKind}{xs ys:List AV}:fM .eql (.flat ks) (.agg xs) (.agg ys)=(eG ks xs ys).map .bool:=by
 simp only[fM,iX,eqF]
theorem oO {a b c d:Int}:eG [.i64,.i64] [.int .i64 a,.int .i64 b] [.int .i64 c,.int .i64 d]=some (decide ((a,b)=(c,d))):=by
 by_cases e:a=c
 ·subst e
  by_cases e:b=d
  ·subst e; simp [eG]
  ·have:(b==d)=false:=by rw[beq_eq_false_iff_ne]; exact e
   simp [eG,this,e]
 ·have:(a==c)=false:=by rw[beq_eq_false_iff_ne]; exact e
  simp [eG,this,e]
theorem CI {α:Type}{l:List α}:l.Nodup↔∀ i (hi:i<l.length),∀ k (hk:k<l.length),k<i→l[i]≠l[k]:=by
 rw[List.Nodup,fx]
 constructor
 ·intro h i hi k hk hki e
  exact h k i hk hi hki e.symm
 ·intro h i j hi hj hij e
  exact h j hj i hi hij e.symm
theorem CA {n:Int}{E:List (Int×Int)}:jY n E↔gG n E=true∧∀ i (hi:i<E.length),E[i].1≠E[i].2∧∀ k (hk:k<E.length),k<i→¬ (E[i]=E[k]∨(E[i].1=E[k].2∧E[i].2=E[k].1)):=by
 unfold jY
 rw[CI]
 constructor
 ·rintro⟨h1,h2,h3⟩
  refine⟨h1,λi hi=>⟨h2 _ (aR hi),λk hk hki q=>?_⟩⟩
  have:=h3 i (by simpa using hi) k (by simpa using hk) hki
  rw[lS,lS] at this
  exact this (vS.2 q)
 ·rintro⟨h1,h2⟩
  refine⟨h1,λe he=>?_,λi hi k hk hki q=>?_⟩
  ·obtain⟨i,hi,rfl⟩:=yK he
   exact (h2 i hi).1
  ·rw[lS,lS] at q
   exact (h2 i (by simpa using hi)).2 k (by simpa using hk) hki (vS.1 q)
set_option maxHeartbeats 1000000 in
theorem za {h:AH}{n:Int}{ev:AV}{E:List (Int×Int)} (he:SlE h ev E):C prg 5 [.agg [.int .i64 n,ev]] h λr h'=>∃ b,r=.bool b∧(b=true↔jY n E)∧Ext h.next h h':=by
 obtain⟨ec,eo⟩:=he.cells
 have el:=he.len
 rw[ak] at el
 refine LB pf5 ?_
 refine aj (aB (Mi0) ?_)
 have x0:Ext h.next h (h.new (.cells [.int .i64 n,ev] 2 false)):=Ly (ae _)
 have g0:(h.new (.cells [.int .i64 n,ev] 2 false)).get h.next=some (.cells [.int .i64 n,ev] 2 false):=by rw[AH.get_new,if_pos rfl]
 have n0:(h.new (.cells [.int .i64 n,ev] 2 false)).next=h.next+1:=rfl
 generalize (h.new (.cells [.int .i64 n,ev] 2 false))=h1 at *
 have rA:ar h1 h.next 0 2=some [.int .i64 n,ev]:=by rw[bg g0]; rfl
 refine aj (aj (bO (bt 1 (Mi1 rA) rfl (Zi1 rA) (Mi1 rA) (EO (n:=n) (he.ext x0 (ae _))) λr h2 hq=>?_)))
 obtain⟨rfl,x2⟩:=hq
 have X2:Ext h.next h h2:=x0.trans (x2.mono om)
 refine bI (M0) ?_
 cases hm:gG n E with
 | false =>
   refine cX (Z0) (aj (aB (M0) ?_))
   exact bG ⟨.bool false,(by simp only[rs,rf5,am,aF,simprocAttr]<;>rfl),false,rfl,⟨(λq=>by cases q),λq=>by rw[q.1] at hm; cases hm⟩,X2⟩
 | true =>
 have hxl:E.length<2 ^ 40:=by
  have q:=hm
  unfold gG at q
  simp only[aM,aA] at q
  omega
 refine dL (Z0) (bK ?_)
 have n2:=x2.nx
 have g2:h2.get h.next=some (.cells [.int .i64 n,ev] 2 false):=by rw[x2.gt _ om]; exact g0
 have hP:=CA (n:=n) (E:=E)
 refine aj (aj (aB (Mi0) ?_))
 refine vq (α:=Unit) (N:=E.length) (λi _=>[(1,.ptr h.next 0),(3,.int .i64 (i:Nat))])
  (λi _ h'=>(∀ j (hj:j<E.length),j<i→E[j].1≠E[j].2∧∀ k (hk:k<E.length),k<j→¬ (E[j]=E[k]∨(E[j].1=E[k].2∧E[j].2=E[k].1)))∧h'.get h.next=some (.cells [.int .i64 n,ev] 2 false)∧Ext h.next h h') () (Hi1 @cH)
  ⟨λj hj q=>absurd q (eP _),g2,X2⟩ ?_ ?_ ?_
 ·rintro i _ ts h4 hi ⟨j1,j2,j3⟩ ⟨e1,e3,-⟩
  simp only at e1 e3
  have rE:ar h4 h.next 1 1=some [ev]:=bq j2 rfl
  exact⟨_,(M5 e1 e3 rE el @jl),Z0,H2 e1 e3⟩
 ·rintro i _ ts h4 hi ⟨j1,j2,j3⟩ ⟨e1,e3,-⟩
  simp only at e1 e3
  have w3:=Aw (k:=i) om
  have rE:ar h4 h.next 1 1=some [ev]:=bq j2 rfl
  obtain⟨b1,p1,a1,r1,_⟩:=(he.ext j3 (ae _)).at (fE (f:=eE) hi)
  have n4:=j3.nx
  have hnl:=AH.lt_of_get j2
  obtain⟨h5,w5,x5,g5,n5⟩:=gm (h:=h4) (z:=[.int .i64 0,.int .i64 0]) (cs:=[.int .i64 E[i].1,.int .i64 E[i].2]) (e:=2) rfl
  have r1:ar h4 b1 p1 2=some [.int .i64 E[i].1,.int .i64 E[i].2]:=r1
  refine aj (aB (M6 e1 e3 rE a1 r1 w5) ?_)
  have g5':h5.get h.next=some (.cells [.int .i64 n,ev] 2 false):=by rw[x5.gt _ hnl]; exact j2
  have X5:Ext h.next h h5:=j3.trans (x5.mono n4)
  refine aj (aj (aB (M0) ?_))
  refine vq (α:=Unit) (N:=i) (λk _=>[(1,.ptr h.next 0),(3,.int .i64 (i:Nat)),(4,.ptr h4.next 0),(5,.int .i64 (k:Nat))])
   (λk _ h'=>(∀ k' (hk:k'<E.length),k'<k→¬ (E[i]=E[k']∨(E[i].1=E[k'].2∧E[i].2=E[k'].1)))∧h'.get h.next=some (.cells [.int .i64 n,ev] 2 false)∧h'.get h4.next=some (.cells [.int .i64 E[i].1,.int .i64 E[i].2] 2 false)∧Ext h.next h h') () (H3 e1 e3 @cH)
   ⟨λk' hk q=>absurd q (eP _),g5',g5,X5⟩ ?_ ?_ ?_
  ·clear e1 e3
   rintro k _ ts h6 hk ⟨k1,k2,k3,k4⟩ ⟨e1,e3,e4,e5,-⟩
   simp only at e1 e3 e4 e5
   exact⟨_,(M3 e3 e5 @jl),Z0,H4 e1 e3 e4 e5⟩
  ·clear e1 e3
   rintro k _ ts h6 hk ⟨k1,k2,k3,k4⟩ ⟨e1,e3,e4,e5,-⟩
   simp only at e1 e3 e4 e5
   have hk':k<E.length:=om
   have w5:=Aw (k:=k) om
   have rE:ar h6 h.next 1 1=some [ev]:=bq k2 rfl
   obtain⟨b2,p2,a2,r2,_⟩:=(he.ext k4 (ae _)).at (fE (f:=eE) hk')
   have hnl6:=AH.lt_of_get k2
   have hnl7:=AH.lt_of_get k3
   obtain⟨h7,w7,x7,g7,n7⟩:=gm (h:=h6) (z:=[.int .i64 0,.int .i64 0]) (cs:=[.int .i64 E[k].1,.int .i64 E[k].2]) (e:=2) rfl
   have r2:ar h6 b2 p2 2=some [.int .i64 E[k].1,.int .i64 E[k].2]:=r2
   refine aj (aB (M6 e1 e5 rE a2 r2 w7) ?_)
   have X7:Ext h.next h h7:=k4.trans (x7.mono k4.nx)
   have g72:h7.get h4.next=some (.cells [.int .i64 E[i].1,.int .i64 E[i].2] 2 false):=by rw[x7.gt _ hnl7]; exact k3
   have rI:ar h7 h4.next 0 2=some [.int .i64 E[i].1,.int .i64 E[i].2]:=by rw[bg g72]; rfl
   have rK:ar h7 h6.next 0 2=some [.int .i64 E[k].1,.int .i64 E[k].2]:=by rw[bg g7]; rfl
   have rI0:ar h7 h4.next 0 1=some [.int .i64 E[i].1]:=bq g72 rfl
   have rI1:ar h7 h4.next 1 1=some [.int .i64 E[i].2]:=bq g72 rfl
   have rK0:ar h7 h6.next 0 1=some [.int .i64 E[k].1]:=bq g7 rfl
   have rK1:ar h7 h6.next 1 1=some [.int .i64 E[k].2]:=bq g7 rfl
   have hbad:(E[i]=E[k]∨(E[i].1=E[k].2∧E[i].2=E[k].1))→∃ v,jt ((nl (nl ts 2 (.bool false)) 2 (.bool false))) h7 []=some v:=λ_=>⟨_,rfl⟩
   have hnext:¬ (E[i]=E[k]∨(E[i].1=E[k].2∧E[i].2=E[k].1))→∀ k' (hk:k'<E.length),k'<k+1→¬ (E[i]=E[k']∨(E[i].1=E[k'].2∧E[i].2=E[k'].1)):=λq k' hk2 hlt=>by
    by_cases e:k'=k
    ·subst e; exact q
    ·exact k1 k' hk2 om
   have hno:(E[i]=E[k]∨(E[i].1=E[k].2∧E[i].2=E[k].1))→¬ jY n E:=λq p=>(hP.1 p).2 i hi |>.2 k hk' hk q
   have g71:h7.get h.next=some (.cells [.int .i64 n,ev] 2 false):=by rw[x7.gt _ hnl6]; exact k2
   by_cases q1:E[i]=E[k]
   ·have c1:decide ((E[i].1,E[i].2)=(E[k].1,E[k].2))=true:=aL (by rw[q1])
    refine aj (aB (M6 e4 rI rK @qK @oO c1) ?_)
    refine cX (Z0) (aj (aB (M0) ?_))
    exact bG ⟨.bool false,(by simp only[rs,rf5,am,aF,simprocAttr]<;>rfl),false,rfl,⟨(λq=>by cases q),λq=>absurd q (hno (.inl q1))⟩,X7⟩
   have c1:decide ((E[i].1,E[i].2)=(E[k].1,E[k].2))=false:=aJ λq=>q1 (Prod.ext (congrArg Prod.fst q) (congrArg Prod.snd q))
   by_cases q2:E[i].1=E[k].2
   ·have c2:decide (E[i].1=E[k].2)=true:=aL q2
    by_cases q3:E[i].2=E[k].1
    ·have c3:decide (E[i].2=E[k].1)=true:=aL q3
     refine aj (aB (M12 e4 rI rK rI0 rI1 rK0 rK1 @qK @oO c1 c2 c3) ?_)
     refine cX (Z0) (aj (aB (M0) ?_))
     exact bG ⟨.bool false,(by simp only[rs,rf5,am,aF,simprocAttr]<;>rfl),false,rfl,⟨(λq=>by cases q),λq=>absurd q (hno (.inr ⟨q2,q3⟩))⟩,X7⟩
    ·have c3:decide (E[i].2=E[k].1)=false:=aJ q3
     refine aj (aB (M12 e4 rI rK rI0 rI1 rK0 rK1 @qK @oO c1 c2 c3) ?_)
     refine dL (Z0) (bK ?_)
     exact⟨(),⟨hnext λq=>q.elim q1 λq=>q3 q.2,g71,g72,X7⟩,_,(M2 e5 w5),H3 e1 e3 e4⟩
   ·have c2:decide (E[i].1=E[k].2)=false:=aJ q2
    refine aj (aB (M12 e4 rI rK rI0 rI1 rK0 rK1 @qK @oO c1 c2 c2) ?_)
    refine dL (Z0) (bK ?_)
    exact⟨(),⟨hnext λq=>q.elim q1 λq=>q2 q.1,g71,g72,X7⟩,_,(M2 e5 w5),H3 e1 e3 e4⟩
  ·clear e1 e3
   rintro _ ts h6 ⟨k1,k2,k3,k4⟩ ⟨e1,e3,e4,e5,-⟩
   simp only at e1 e3 e4 e5
   have rI0:ar h6 h4.next 0 1=some [.int .i64 E[i].1]:=bq k3 rfl
   have rI1:ar h6 h4.next 1 1=some [.int .i64 E[i].2]:=bq k3 rfl
   by_cases q:E[i].1=E[i].2
   ·have c1:decide (E[i].1=E[i].2)=true:=aL q
    refine aj (aB (M4 e4 rI0 rI1 c1) ?_)
    refine cX (Z0) (aj (aB (M0) ?_))
    exact bG ⟨.bool false,(by simp only[rs,rf5,am,aF,simprocAttr]<;>rfl),false,rfl,⟨(λq=>by cases q),λp=>absurd q ((hP.1 p).2 i hi).1⟩,k4⟩
   ·have c1:decide (E[i].1=E[i].2)=false:=aJ q
    refine aj (aB (M4 e4 rI0 rI1 c1) ?_)
    refine dL (Z0) (bK ?_)
    refine⟨(),⟨λj hj hji=>?_,k2,k4⟩,_,(M2 e3 w3),H1 e1⟩
    by_cases e:j=i
    ·subst e; exact⟨q,λk hk hkj=>k1 k hk hkj⟩
    ·exact j1 j hj om
 ·rintro _ ts h4 ⟨j1,j2,j3⟩ ⟨e1,e3,-⟩
  refine aj (aB (M0) ?_)
  exact bG ⟨.bool true,(by simp only[rs,rf5,am,aF,simprocAttr]<;>rfl),true,rfl,⟨λ_=>hP.2 ⟨hm,λi hi=>j1 i hi hi⟩,λ_=>rfl⟩,j3⟩
end Go.Proofs.YtpeemonpdlifbaaGreat
namespace Go.Pla
open Go.Blk
theorem uH {g g':Gr}{f ν:Nat→Nat} (hf:∀ j,j<g'.m→f j<g.m) (fi:∀ i j,i<g'.m→j<g'.m→f i=f j→i=j) (νi:∀ u v,u<g.n→v<g.n→ν u=ν v→u=v)
 (ht:∀ j,j<g'.m→g'.tl j=ν (g.tl (f j))∧g'.hd j=ν (g.hd (f j))) (h:∃ (Φ:Type) (l r:Nat→Φ),Dual g (List.range g.m) l r):∃ (Φ:Type) (l r:Nat→Φ),Dual g' (List.range g'.m) l r:=by
 obtain⟨Φ,l0,r0,d0⟩:=h
 have nd:((List.range g'.m).map f).Nodup:=by
  rw[List.Nodup,di]
  refine List.Pairwise.imp_of_mem ?_ (aQ (n:=g'.m))
  intro a b ha hb hab he
  exact hab (fi a b (ao.1 ha) (ao.1 hb) he)
 obtain⟨l,r,d⟩:=sub_dual (A:=List.range g.m) aQ nd (λe he=>by
  obtain⟨j,hj,rfl⟩:=bu.1 he
  exact ao.2 (hf j (ao.1 hj))) d0
 have at1:∀ j,j<g'.m→∀ u,u<g.n→at_ g' j (ν u)=at_ g (f j) u:=λj hj u hu=>by
  have hok:=g.ok _ (hf j hj)
  have e1:(ν (g.tl (f j))==ν u)=(g.tl (f j)==u):=by
   rw[cW,beq_iff_eq,beq_iff_eq]
   exact⟨λe=>νi _ _ hok.1 hu e,λe=>by rw[e]⟩
  have e2:(ν (g.hd (f j))==ν u)=(g.hd (f j)==u):=by
   rw[cW,beq_iff_eq,beq_iff_eq]
   exact⟨λe=>νi _ _ hok.2.1 hu e,λe=>by rw[e]⟩
  unfold at_
  rw[(ht j hj).1,(ht j hj).2,e1,e2]
 have at2:∀ v,(∀ u,u<g.n→ν u≠v)→∀ j,j<g'.m→at_ g' j v=false:=λv hv j hj=>by
  have hok:=g.ok _ (hf j hj)
  have e1:(ν (g.tl (f j))==v)=false:=by rw[beq_eq_false_iff_ne]; exact hv _ hok.1
  have e2:(ν (g.hd (f j))==v)=false:=by rw[beq_eq_false_iff_ne]; exact hv _ hok.2.1
  unfold at_
  rw[(ht j hj).1,(ht j hj).2,e1,e2]; rfl
 refine⟨Φ,λj=>l (f j),λj=>r (f j),λS v=>?_,λX hX=>?_⟩
 ·by_cases hv:∃ u,u<g.n∧ν u=v
  ·obtain⟨u,hu,rfl⟩:=hv
   have:=d.two S u
   rw[oC] at this
   rw[← this]
   exact par_congr λj hj=>by rw[at1 j (ao.1 hj) u hu]
  ·refine dW λj hj=>?_
   rw[at2 v (λu hu e=>hv ⟨u,hu,e⟩) j (ao.1 hj),dK]
 ·obtain⟨Y,hY⟩:∃ Y:Nat→Bool,∀ j,j<g'.m→Y (f j)=X j:=by
   classical
   refine⟨λe=>decide (∃ j,j<g'.m∧f j=e∧X j=true),λj hj=>?_⟩
   rw[cW,aA]
   constructor
   ·rintro⟨i,hi,he,hx⟩
    rw[← fi i j hi hj he]; exact hx
   ·intro hx; exact⟨j,hj,rfl,hx⟩
  obtain⟨S,hS⟩:=d.one Y λu=>by
   rw[oC]
   by_cases hu:u<g.n
   ·rw[par_congr (q:=λj=>X j&&at_ g' j (ν u)) λj hj=>by rw[hY j (ao.1 hj),at1 j (ao.1 hj) u hu]]
    exact hX (ν u)
   ·refine dW λj hj=>?_
    have hok:=g.ok _ (hf j (ao.1 hj))
    have e1:(g.tl (f j)==u)=false:=by rw[beq_eq_false_iff_ne]; omega
    have e2:(g.hd (f j)==u)=false:=by rw[beq_eq_false_iff_ne]; omega
    unfold at_
    rw[e1,e2]; simp
  refine⟨S,λj hj=>?_⟩
  rw[← hY j (ao.1 hj)]
  exact hS (f j) (bu.2 ⟨j,hj,rfl⟩)
end Go.Pla
namespace Go.Proofs.YtpeemonpdlifbaaGreat
open Go.Am
open Go.Pla (Dual at_)
end Go.Proofs.YtpeemonpdlifbaaGreat
namespace Go.Pla
open Go.Blk
def g59:Gr where
 m:=9
 n:=5
 tl:=t5
 hd:=h5
 ok:=by decide
theorem p59 (X:Nat→Bool) (v:Nat):par (List.range 9) (λe=>X e&&at_ g59 e v)=((X 0&&((0==v) ^^ (1==v))) ^^ (X 1&&((0==v) ^^ (2==v))) ^^ (X 2&&((0==v) ^^ (3==v))) ^^ (X 3&&((0==v) ^^ (4==v))) ^^ (X 4&&((1==v) ^^ (2==v))) ^^ (X 5&&((1==v) ^^ (3==v))) ^^ (X 6&&((1==v) ^^ (4==v))) ^^ (X 7&&((2==v) ^^ (3==v))) ^^ (X 8&&((2==v) ^^ (4==v)))):=by
 have:List.range 9=[0,1,2,3,4,5,6,7,8]:=rfl
 rw[this]
 simp [par,at_,g59,t5,h5]
theorem b59a:∀ a b c d e f:Bool,((a ^^ d) ^^ (b ^^ e) ^^ (a ^^ b) ^^ (d ^^ e))=false∧((a ^^ d) ^^ (c ^^ f) ^^ (a ^^ c) ^^ (d ^^ f))=false∧((b ^^ e) ^^ (c ^^ f) ^^ (b ^^ c) ^^ (e ^^ f))=false∧((a ^^ b) ^^ (a ^^ c) ^^ (b ^^ c))=false∧((d ^^ e) ^^ (d ^^ f) ^^ (e ^^ f))=false:=by decide
theorem b59b:∀ x0 x1 x2 x3 x4 x5 x6 x7 x8:Bool,(x0 ^^ x1 ^^ x2 ^^ x3)=false→(x0 ^^ x4 ^^ x5 ^^ x6)=false→(x1 ^^ x4 ^^ x7 ^^ x8)=false→(x3 ^^ x6 ^^ x8)=false →
 x2=((x0 ^^ x6) ^^ (x1 ^^ x8))∧x3=(x6 ^^ x8)∧x5=((x0 ^^ x6) ^^ x4)∧x7=((x1 ^^ x8) ^^ x4):=by decide
theorem Fr:∃ (Φ:Type) (l r:Nat→Φ),Dual g59 (List.range 9) l r:=by
 refine⟨Nat,λe=>[0,1,0,3,2,0,3,1,4].getD e 0,λe=>[3,4,1,4,5,2,5,2,5].getD e 0,λS v=>?_,λX hX=>?_⟩
 ·rw[p59]
  obtain⟨h0,h1,h2,h3,h4⟩:=b59a (S 0) (S 1) (S 2) (S 3) (S 4) (S 5)
  have e0:v=0∨v=1∨v=2∨v=3∨v=4∨5≤v:=om
  rcases e0 with rfl|rfl|rfl|rfl|rfl|h
  ·rw[← h0]; simp
  ·rw[← h1]; simp
  ·rw[← h2]; simp
  ·rw[← h3]; simp
  ·rw[← h4]; simp
  ·have h0:(0==v)=false:=by rw[beq_eq_false_iff_ne]; omega
   have h1:(1==v)=false:=by rw[beq_eq_false_iff_ne]; omega
   have h2:(2==v)=false:=by rw[beq_eq_false_iff_ne]; omega
   have h3:(3==v)=false:=by rw[beq_eq_false_iff_ne]; omega
   have h4:(4==v)=false:=by rw[beq_eq_false_iff_ne]; omega
   simp [h0,h1,h2,h3,h4]
 ·have a0:=hX 0
  have a1:=hX 1
  have a2:=hX 2
  have a4:=hX 4
  rw[p59] at a0 a1 a2 a4
  obtain⟨y2,y3,y5,y7⟩:=b59b (X 0) (X 1) (X 2) (X 3) (X 4) (X 5) (X 6) (X 7) (X 8) (by rw[← a0]; simp) (by rw[← a1]; simp) (by rw[← a2]; simp) (by rw[← a4]; simp)
  refine⟨λf=>if f=0 then X 0 ^^ X 6 else if f=1 then X 1 ^^ X 8 else if f=2 then X 4 else if f=3 then X 6 else if f=4 then X 8 else false,λe he=>?_⟩
  have he:=ao.1 he
  have:e=0∨e=1∨e=2∨e=3∨e=4∨e=5∨e=6∨e=7∨e=8:=om
  rcases this with rfl|rfl|rfl|rfl|rfl|rfl|rfl|rfl|rfl
  ·simp
  ·simp
  ·rw[y2]; simp
  ·rw[y3]; simp
  ·simp
  ·rw[y5]; simp
  ·simp
  ·rw[y7]; simp
  ·simp
def sw2 (i j e:Nat):Nat:=if e=i then j else if e=j then i else e
theorem qQ {i j e m:Nat} (hi:i<m) (hj:j<m) (he:e<m):sw2 i j e<m:=by
 unfold sw2
 split
 ·exact hj
 ·split<;>assumption
theorem jc {i j e:Nat}:sw2 i j (sw2 i j e)=e:=by
 unfold sw2
 by_cases h1:e=i
 ·subst h1; simp only[if_true]; by_cases h2:j=e<;>simp [h2]
 ·rw[if_neg h1]; by_cases h2:e=j
  ·subst h2; simp
  ·rw[if_neg h2,if_neg h1,if_neg h2]
def swG (g:Gr) (i j:Nat) (hi:i<g.m) (hj:j<g.m):Gr where
 m:=g.m
 n:=g.n
 tl:=λe=>g.tl (sw2 i j e)
 hd:=λe=>g.hd (sw2 i j e)
 ok:=λe he=>g.ok _ (qQ hi hj he)
theorem qP {g:Gr}{i j:Nat} (hi:i<g.m) (hj:j<g.m) (h:∃ (Φ:Type) (l r:Nat→Φ),Dual (swG g i j hi hj) (List.range g.m) l r):∃ (Φ:Type) (l r:Nat→Φ),Dual g (List.range g.m) l r :=
 uH (g:=swG g i j hi hj) (g':=g) (f:=sw2 i j) (ν:=λv=>v) (λe he=>qQ hi hj he) (λa b _ _ h=>by rw[← @jc i j a,h,jc]) (λ_ _ _ _ h=>h)
  (λe _=>⟨by show g.tl e=g.tl (sw2 i j (sw2 i j e)); rw[jc],by show g.hd e=g.hd (sw2 i j (sw2 i j e)); rw[jc]⟩) h
theorem lu {g:Gr}{i j:Nat} (hi:i<g.m) (hj:j<g.m) {e v:Nat}:at_ (swG g i j hi hj) e v=at_ g (sw2 i j e) v:=rfl
theorem KH {g:Gr}{m k:Nat} (hk:k<m) (h:∀ v,at_ g m v=at_ g k v) (hd:∃ (Φ:Type) (l r:Nat→Φ),Dual g (List.range m) l r):∃ (Φ:Type) (l r:Nat→Φ),Dual g (List.range (m+1)) l r:=by
 obtain⟨Φ,l,r,d⟩:=hd
 have hkm:k∈List.range m:=ao.2 hk
 have key:∀ (X:Nat→Bool) v,par (List.range (m+1)) (λe=>X e&&at_ g e v)=par (List.range m) (λe=>(X e ^^ ((e==k)&&X m))&&at_ g e v):=λX v=>by
  rw[ir,h v,par_congr (l:=List.range m) (p:=λe=>(X e ^^ ((e==k)&&X m))&&at_ g e v) (q:=λe=>(X e&&at_ g e v) ^^ ((e==k)&&(X m&&at_ g e v))) (λe _=>by
   cases X e<;>cases X m<;>cases at_ g e v<;>cases (e==k)<;>rfl),df,cY (p:=λe=>X m&&at_ g e v) aQ hkm]
 refine⟨Option Φ,λe=>if e=m then none else some (l e),λe=>if e=m then some (r k) else if e=k then none else some (r e),λS v=>?_,λX hX=>?_⟩
 ·rw[key,← d.two (λa=>S (some a)) v]
  refine par_congr λe he=>?_
  have hem:e≠m:=by have:=ao.1 he; omega
  simp only[if_neg hem,if_true]
  by_cases q:e=k
  ·subst q
   simp only[if_true,beq_self_eq_true,fD]
   cases S (some (l e))<;>cases S none<;>cases S (some (r e))<;>rfl
  ·have q':(e==k)=false:=by rw[beq_eq_false_iff_ne]; exact q
   simp only[if_neg q,q',ee,cI]
 ·obtain⟨S,hS⟩:=d.one (λe=>X e ^^ ((e==k)&&X m)) λv=>by rw[← key]; exact hX v
  have hSk:=hS k hkm
  simp only[beq_self_eq_true,fD] at hSk
  refine⟨λa=>match a with|none=>S (l k) ^^ X k|some b=>S b,λe he=>?_⟩
  by_cases hem:e=m
  ·subst hem
   simp only[if_true]
   revert hSk
   cases S (l k)<;>cases S (r k)<;>cases X k<;>cases X e<;>simp
  ·have hlt:e<m:=by have:=ao.1 he; omega
   simp only[if_neg hem]
   by_cases q:e=k
   ·subst q
    simp only[if_true]
    cases S (l e)<;>cases X e<;>rfl
   ·have q':(e==k)=false:=by rw[beq_eq_false_iff_ne]; exact q
    have:=hS e (ao.2 hlt)
    simp only[q',ee,cI] at this
    simp only[if_neg q]
    exact this
def Kd (x y:Nat):Bool:=x==y||(x==3&&y==4)||(x==4&&y==3)||(List.range 9).any λc=>(t5 c==x&&h5 c==y)||(t5 c==y&&h5 c==x)
theorem Hx:((List.range 5).all λx=>(List.range 5).all λy=>Kd x y)=true:=by decide
theorem tri59 (x:Nat) (hx:x<5) (y:Nat) (hy:y<5) (h1:x≠y) (h2:¬(x=3∧y=4)) (h3:¬(x=4∧y=3)):∃ c,c<9∧((t5 c=x∧h5 c=y)∨(t5 c=y∧h5 c=x)):=by
 have h:=cj.1 (cj.1 Hx x (ao.2 hx)) y (ao.2 hy)
 unfold Kd at h
 simp only[bN,aM,beq_iff_eq,jj,ao] at h
 rcases h with ((h|h)|h)|h
 ·exact absurd h h1
 ·exact absurd h h2
 ·exact absurd h h3
 ·exact h
theorem dif5:∀ c,c<10→∀ d,d<10→((t5 c=t5 d∧h5 c=h5 d)∨(t5 c=h5 d∧h5 c=t5 d))→c=d:=by decide
theorem lt5x:∀ c,c<10→t5 c<5∧h5 c<5∧t5 c≠h5 c:=by decide
def Ends (g:Gr) (e a b:Nat):Prop:=(g.tl e=a∧g.hd e=b)∨(g.tl e=b∧g.hd e=a)
theorem Ends.at {g:Gr}{e a b:Nat} (h:Ends g e a b) (v:Nat):at_ g e v=((a==v) ^^ (b==v)):=by
 unfold at_
 rcases h with ⟨h1,h2⟩|⟨h1,h2⟩
 ·rw[h1,h2]
 ·rw[h1,h2,yN]
theorem kU {W:List Nat} (nd:W.Nodup) {i j:Nat} (hi:i<W.length) (hj:j<W.length) (h:W.getD i 0=W.getD j 0):i=j:=by
 rw[ai,ai,ah hi,ah hj] at h
 exact (Hf nd).1 h
theorem CY {g:Gr}{m:Nat} (hm:m≤g.m) (h8:m<10) (hs:∀ i j,i<m→j<m→(∀ v,at_ g i v=at_ g j v)→i=j) {W:List Nat} (nd:W.Nodup) (hW:W.length=5) (hin:∀ e,e<m→g.tl e∈W∧g.hd e∈W) :
 ∃ (Φ:Type) (l r:Nat→Φ),Dual g (List.range m) l r:=by
 classical
 obtain⟨p,q,hp,hq,hpq,hno⟩:∃ p q,p∈W∧q∈W∧p≠q∧∀ e,e<m→¬ Ends g e p q:=by
  refine Classical.byContradiction λhall=>?_
  have h1:∀ c,∃ e,c<10→e<m∧Ends g e (W.getD (t5 c) 0) (W.getD (h5 c) 0):=λc=>by
   by_cases hc:c<10
   ·obtain⟨a1,a2,a3⟩:=lt5x c hc
    refine Classical.byContradiction λhne=>hall ⟨W.getD (t5 c) 0,W.getD (h5 c) 0,getD_mem om,getD_mem om,λh=>a3 (kU nd om om h),λe he hE=>hne ⟨e,λ_=>⟨he,hE⟩⟩⟩
   ·exact⟨0,λh=>absurd h hc⟩
  obtain⟨f,hf⟩:∃ f:Nat→Nat,∀ c,c<10→f c<m∧Ends g (f c) (W.getD (t5 c) 0) (W.getD (h5 c) 0):=⟨λc=>Classical.choose (h1 c),λc=>Classical.choose_spec (h1 c)⟩
  have ndf:((List.range 10).map f).Nodup:=by
   rw[List.Nodup,di]
   refine List.Pairwise.imp_of_mem ?_ (aQ (n:=10))
   intro a b ha hb hab he
   rw[ao] at ha hb
   refine hab (dif5 a ha b hb ?_)
   have xa:=(hf a ha).2
   have xb:=(hf b hb).2
   rw[he] at xa
   obtain⟨a1,a2,a3⟩:=lt5x a ha
   obtain⟨b1,b2,b3⟩:=lt5x b hb
   have key:(W.getD (t5 a) 0=W.getD (t5 b) 0∧W.getD (h5 a) 0=W.getD (h5 b) 0)∨(W.getD (t5 a) 0=W.getD (h5 b) 0∧W.getD (h5 a) 0=W.getD (t5 b) 0):=by
    rcases xa with ⟨u1,u2⟩|⟨u1,u2⟩<;>rcases xb with ⟨w1,w2⟩|⟨w1,w2⟩<;>omega
   rcases key with ⟨k1,k2⟩|⟨k1,k2⟩
   ·exact .inl ⟨kU nd om om k1,kU nd om om k2⟩
   ·exact .inr ⟨kU nd om om k1,kU nd om om k2⟩
  have:=nd_lt ndf (n:=m) λx hx=>by
   obtain⟨c,hc,rfl⟩:=bu.1 hx
   exact (hf c (ao.1 hc)).1
  rw[ak,bF] at this
  omega
 obtain⟨ν,hν,νi,n3,n4⟩:∃ ν:Nat→Nat,(∀ x,x∈W→∃ i,i<5∧ν i=x)∧(∀ i j,i<5→j<5→ν i=ν j→i=j)∧ν 3=p∧ν 4=q:=by
  have hq':q∈W.erase p:=(mj (Ne.symm hpq)).2 hq
  have l1:((W.erase p).erase q).length=3:=by
   rw[pN hq',pN hp,hW]
  have nd1:(W.erase p).Nodup:=nd.erase p
  have nd2:((W.erase p).erase q).Nodup:=nd1.erase q
  have n1:p∉(W.erase p).erase q:=λh=>(List.Nodup.mem_erase_iff nd).1 (List.mem_of_mem_erase h) |>.1 rfl
  have n2:q∉(W.erase p).erase q:=λh=>((List.Nodup.mem_erase_iff nd1).1 h).1 rfl
  have ndW:((W.erase p).erase q++[p,q]).Nodup:=by
   rw[aN]
   refine⟨nd2,by simp [hpq],λa ha b hb hab=>?_⟩
   subst hab
   simp only[au,bp,or_false] at hb
   rcases hb with rfl|rfl
   ·exact n1 ha
   ·exact n2 ha
  have lW:((W.erase p).erase q++[p,q]).length=5:=by simp [l1]
  have i3:((W.erase p).erase q++[p,q]).getD 3 0=p:=by
   rw[ai,aU om,l1]; rfl
  have i4:((W.erase p).erase q++[p,q]).getD 4 0=q:=by
   rw[ai,aU om,l1]; rfl
  have iW:∀ x,x∈W→x∈(W.erase p).erase q++[p,q]:=λx hx=>by
   by_cases h1:x=p
   ·subst h1; simp
   ·by_cases h2:x=q
    ·subst h2; simp
    ·exact aZ _ ((mj h2).2 ((mj h1).2 hx))
  generalize (W.erase p).erase q++[p,q]=W' at *
  refine⟨λi=>W'.getD i 0,λx hx=>?_,λi j hi hj h=>kU ndW om om h,i3,i4⟩
  obtain⟨i,hi,rfl⟩:=dp.1 (iW x hx)
  exact⟨i,om,by show W'.getD i 0=_; rw[ai,ah hi]; rfl⟩
 have hf:∀ e,∃ c,e<m→c<9∧Ends g e (ν (t5 c)) (ν (h5 c)):=λe=>by
  by_cases he:e<m
  ·obtain⟨x,hx,ex⟩:=hν _ (hin e he).1
   obtain⟨y,hy,ey⟩:=hν _ (hin e he).2
   have hne:=(g.ok e om).2.2
   obtain⟨c,hc,h⟩:=tri59 x hx y hy (λq=>hne (by rw[← ex,← ey,q])) (λ⟨a,b⟩=>hno e he (.inl ⟨by rw[← ex,a,n3],by rw[← ey,b,n4]⟩)) (λ⟨a,b⟩=>hno e he (.inr ⟨by rw[← ex,a,n4],by rw[← ey,b,n3]⟩))
   refine⟨c,λ_=>⟨hc,?_⟩⟩
   rcases h with ⟨a,b⟩|⟨a,b⟩
   ·exact .inl ⟨by rw[a,ex],by rw[b,ey]⟩
   ·exact .inr ⟨by rw[b,ex],by rw[a,ey]⟩
  ·exact⟨0,λh=>absurd h he⟩
 obtain⟨f,hf⟩:∃ f:Nat→Nat,∀ e,e<m→f e<9∧Ends g e (ν (t5 (f e))) (ν (h5 (f e))):=⟨λe=>Classical.choose (hf e),λe=>Classical.choose_spec (hf e)⟩
 have okk:∀ e,e<m→ν (t5 (f e))<g.n∧ν (h5 (f e))<g.n∧ν (t5 (f e))≠ν (h5 (f e)):=λe he=>by
  have:=(hf e he).2
  have hok:=g.ok e om
  rcases this with ⟨a,b⟩|⟨a,b⟩
  ·rw[← a,← b]; exact hok
  ·rw[← a,← b]; exact⟨hok.2.1,hok.1,Ne.symm hok.2.2⟩
 let g':Gr:={ m:=m,n:=g.n,tl:=λe=>ν (t5 (f e)),hd:=λe=>ν (h5 (f e)),ok:=okk}
 obtain⟨Φ,l,r,d⟩:=uH (g:=g59) (g':=g') (f:=f) (ν:=ν) (λj hj=>(hf j hj).1) (λi j hi hj he=>hs i j hi hj λv=>by
  rw[(hf i hi).2.at v,(hf j hj).2.at v,he]) (λu v hu hv h=>νi u v hu hv h) (λj _=>⟨rfl,rfl⟩) Fr
 exact⟨Φ,l,r,d.gr λe he v=>by rw[(hf e (ao.1 he)).2.at v]; rfl⟩
theorem few_dual:∀ (m:Nat) (g:Gr),g.m=m→m≤8→∃ (Φ:Type) (l r:Nat→Φ),Dual g (List.range m) l r
 | 0,_,_,_=>⟨Unit,_,_,Gm⟩
 | m+1,g,hg,h8=>by
   classical
   by_cases hp:∃ i j,i<m+1∧j<m+1∧i≠j∧∀ v,at_ g i v=at_ g j v
   ·obtain⟨i,j,hi,hj,hij,hv⟩:=hp
    have hi':i<g.m:=om
    have hm':m<g.m:=om
    rw[← hg]
    refine qP hi' hm' ?_
    rw[hg]
    refine KH (k:=sw2 i m j) (m:=m) ?_ (λv=>?_) ?_
    ·unfold sw2; rw[if_neg (Ne.symm hij)]; split<;>omega
    ·rw[lu,lu,jc,← hv v]
     have:sw2 i m m=i:=by unfold sw2; split<;>simp_all
     rw[this]
    ·obtain⟨Φ,l,r,d⟩:=few_dual m { swG g i m hi' hm' with m:=m,ok:=λe he=>(swG g i m hi' hm').ok e (by show e<g.m; omega)} rfl om
     exact⟨Φ,l,r,d.gr λ_ _ _=>rfl⟩
   by_cases h1:∃ v i,i<m+1∧at_ g i v=true∧∀ e,e<m+1→e≠i→at_ g e v=false
   ·obtain⟨v,i,hi,hv,ho⟩:=h1
    have hi':i<g.m:=om
    have hm':m<g.m:=om
    rw[← hg]
    refine qP hi' hm' ?_
    rw[hg]
    refine (FW (x:=v) (λe he=>?_) ?_).2 ?_
    ·rw[lu]
     refine ho _ (by rw[← hg]; exact qQ hi' hm' om) λh=>?_
     have:e=sw2 i m i:=by rw[← @jc i m e,h]
     unfold sw2 at this
     rw[if_pos rfl] at this
     omega
    ·rw[lu]
     have:sw2 i m m=i:=by unfold sw2; split<;>simp_all
     rw[this]; exact hv
    ·obtain⟨Φ,l,r,d⟩:=few_dual m { swG g i m hi' hm' with m:=m,ok:=λe he=>(swG g i m hi' hm').ok e (by show e<g.m; omega)} rfl om
     exact⟨Φ,l,r,d.gr λ_ _ _=>rfl⟩
   have hs:∀ i j,i<m+1→j<m+1→(∀ v,at_ g i v=at_ g j v)→i=j:=λi j hi hj hv=>Classical.byContradiction λhne=>hp ⟨i,j,hi,hj,hne,hv⟩
   have ate:∀ {e v},at_ g e v=true→g.tl e=v∨g.hd e=v:=fun {e v} h=>by
    unfold at_ at h
    by_cases q:g.tl e=v
    ·exact .inl q
    ·by_cases q':g.hd e=v
     ·exact .inr q'
     ·have a1:(g.tl e==v)=false:=by rw[beq_eq_false_iff_ne]; exact q
      have a2:(g.hd e==v)=false:=by rw[beq_eq_false_iff_ne]; exact q'
      rw[a1,a2] at h
      cases h
   by_cases h2:∃ v i j,i<m+1∧j<m+1∧i≠j∧at_ g i v=true∧at_ g j v=true∧∀ e,e<m+1→e≠i→e≠j→at_ g e v=false
   ·obtain⟨v,i,j,hi,hj,hij,hvi,hvj,ho⟩:=h2
    have hi':i<g.m:=om
    have hm':m<g.m:=om
    rw[← hg]
    refine qP hi' hm' ?_
    rw[hg]
    have sm:sw2 i m m=i:=by unfold sw2; split<;>simp_all
    have hk:sw2 i m j<m:=by unfold sw2; rw[if_neg (Ne.symm hij)]; split<;>omega
    have sk:sw2 i m (sw2 i m j)=j:=jc
    generalize sw2 i m j=k at hk sk
    obtain⟨a,ea⟩:∃ a,Ends g j v a:=by
     rcases ate hvj with h|h
     ·exact⟨_,.inl ⟨h,rfl⟩⟩
     ·exact⟨_,.inr ⟨rfl,h⟩⟩
    obtain⟨b,eb⟩:∃ b,Ends g i v b:=by
     rcases ate hvi with h|h
     ·exact⟨_,.inl ⟨h,rfl⟩⟩
     ·exact⟨_,.inr ⟨rfl,h⟩⟩
    have hab:a≠b:=λq=>hij (hs i j hi hj λw=>by rw[ea.at,eb.at,q])
    have oi:=g.ok i om
    have oj:=g.ok j om
    have an:a<g.n∧a≠v:=by rcases ea with ⟨x,y⟩|⟨x,y⟩<;>omega
    have bn:b<g.n∧b≠v:=by rcases eb with ⟨x,y⟩|⟨x,y⟩<;>omega
    have okk:∀ e,e<m→(if e=k then a else g.tl (sw2 i m e))<g.n∧(if e=k then b else g.hd (sw2 i m e))<g.n∧(if e=k then a else g.tl (sw2 i m e))≠(if e=k then b else g.hd (sw2 i m e)):=λe he=>by
     by_cases q:e=k
     ·rw[if_pos q,if_pos q]; exact⟨an.1,bn.1,hab⟩
     ·rw[if_neg q,if_neg q]; exact g.ok _ (qQ hi' hm' om)
    let g0:Gr:={ m:=m,n:=g.n,tl:=λe=>if e=k then a else g.tl (sw2 i m e),hd:=λe=>if e=k then b else g.hd (sw2 i m e),ok:=okk}
    have k0:∀ w,at_ g0 k w=((a==w) ^^ (b==w)):=λw=>by
     show (((if k=k then a else _)==w) ^^ ((if k=k then b else _)==w))=_
     rw[if_pos rfl,if_pos rfl]
    have e0:∀ e,e≠k→∀ w,at_ g0 e w=at_ g (sw2 i m e) w:=λe q w=>by
     show (((if e=k then a else _)==w) ^^ ((if e=k then b else _)==w))=_
     rw[if_neg q,if_neg q]; rfl
    refine (Hq (g:=g0) (k:=k) (x:=v) hk (λe _ q w=>?_) (λw hw=>?_) (λe he=>?_) ?_ ?_).2 (few_dual m g0 rfl om)
    ·rw[e0 e q w,lu]
    ·rw[k0,lu,lu,sk,sm,ea.at,eb.at]
     have:(v==w)=false:=by rw[beq_eq_false_iff_ne]; exact Ne.symm hw
     rw[this,dJ,dJ]
    ·by_cases q:e=k
     ·subst q
      rw[k0]
      have a1:(a==v)=false:=by rw[beq_eq_false_iff_ne]; exact an.2
      have b1:(b==v)=false:=by rw[beq_eq_false_iff_ne]; exact bn.2
      rw[a1,b1]; rfl
     ·rw[e0 e q]
      refine ho _ (by rw[← hg]; exact qQ hi' hm' om) (λh=>?_) λh=>?_
      ·have:e=sw2 i m i:=by rw[← @jc i m e,h]
       unfold sw2 at this
       rw[if_pos rfl] at this
       omega
      ·exact q (by rw[← @jc i m e,h,← sk,jc])
    ·rw[lu,sk]; exact hvj
    ·rw[lu,sm]; exact hvi
   have h3:∀ v e,e<m+1→at_ g e v=true→3≤(List.range (m+1)).countP λe=>at_ g e v:=λv e he hv=>by
    obtain⟨i,hi,hie,hiv⟩:∃ i,i<m+1∧i≠e∧at_ g i v=true:=Classical.byContradiction λhne=>h1 ⟨v,e,he,hv,λi hi hie=>by
     cases q:at_ g i v with
     | false=>rfl
     | true=>exact absurd ⟨i,hi,hie,q⟩ hne⟩
    obtain⟨j,hj,hje,hji,hjv⟩:∃ j,j<m+1∧j≠e∧j≠i∧at_ g j v=true:=Classical.byContradiction λhne=>h2 ⟨v,e,i,he,hi,Ne.symm hie,hv,hiv,λj hj hje hji=>by
     cases q:at_ g j v with
     | false=>rfl
     | true=>exact absurd ⟨j,hj,hje,hji,q⟩ hne⟩
    rw[eQ]
    refine qA (a:=[e,i,j]) (by simp [Ne.symm hie,Ne.symm hje,Ne.symm hji]) λx hx=>?_
    simp only[au,bp,or_false] at hx
    rw[aS,ao]
    rcases hx with rfl|rfl|rfl
    ·exact⟨he,hv⟩
    ·exact⟨hi,hiv⟩
    ·exact⟨hj,hjv⟩
   have hV:∀ v,v∈(List.range g.n).filter (λv=>decide (∃ e,e<m+1∧at_ g e v=true))↔v<g.n∧∃ e,e<m+1∧at_ g e v=true:=λv=>by rw[aS,ao,aA]
   have ndV:((List.range g.n).filter (λv=>decide (∃ e,e<m+1∧at_ g e v=true))).Nodup:=List.nodup_range.filter _
   generalize (List.range g.n).filter (λv=>decide (∃ e,e<m+1∧at_ g e v=true))=V at hV ndV
   have s1:=vX (L:=V) (f:=λv=>(List.range (m+1)).countP λe=>at_ g e v) (c:=3) λv hv=>by
    obtain⟨_,e,he,hev⟩:=(hV v).1 hv
    exact h3 v e he hev
   rw[mr (p:=λv e=>at_ g e v)] at s1
   have s2:=sum_le (L:=List.range (m+1)) (f:=λe=>V.countP λv=>at_ g e v) (c:=2) λe _=>by
    rw[eQ]
    refine qA (b:=[g.tl e,g.hd e]) (ndV.filter _) λx hx=>?_
    have:=ate (aS.1 hx).2
    simp only[au,bp,or_false]
    rcases this with h|h
    ·exact .inl h.symm
    ·exact .inr h.symm
   rw[bF] at s2
   have hl:V.length≤5:=om
   have ndW:(V++(List.range (5-V.length)).map (·+g.n)).Nodup:=by
    rw[aN]
    refine⟨ndV,?_,λa ha b hb hab=>?_⟩
    ·rw[List.Nodup,di]
     exact (aQ (n:=5-V.length)).imp λh q=>h om
    ·obtain⟨c,_,rfl⟩:=bu.1 hb
     have:=((hV a).1 ha).1
     omega
   refine CY (g:=g) om om hs ndW (by simp; omega) λe he=>?_
   have hok:=g.ok e om
   have t1:at_ g e (g.tl e)=true:=by
    have:(g.hd e==g.tl e)=false:=by rw[beq_eq_false_iff_ne]; omega
    unfold at_; rw[this]; simp
   have t2:at_ g e (g.hd e)=true:=by
    have:(g.tl e==g.hd e)=false:=by rw[beq_eq_false_iff_ne]; omega
    unfold at_; rw[this]; simp
   exact⟨aZ _ ((hV _).2 ⟨hok.1,e,he,t1⟩),aZ _ ((hV _).2 ⟨hok.2.1,e,he,t2⟩)⟩
open Go.Blk
theorem GW {g:Gr}{e:Nat} (he:e<g.m):par (List.range g.n) (λv=>at_ g e v)=false:=by
 have ho:=g.ok e he
 have h1:=cY (k:=g.tl e) (p:=λ_=>true) (aQ (n:=g.n)) (ao.2 ho.1)
 have h2:=cY (k:=g.hd e) (p:=λ_=>true) (aQ (n:=g.n)) (ao.2 ho.2.1)
 unfold at_
 rw[df,par_congr (p:=λv=>g.tl e==v) (q:=λv=>(v==g.tl e)&&true) (λv _=>by rw[eN,eM]),par_congr (p:=λv=>g.hd e==v) (q:=λv=>(v==g.hd e)&&true) (λv _=>by rw[eN,eM]),h1,h2]
 rfl
theorem Gf {g:Gr}{X:Nat→Bool} (h:∀ v,v<g.n-1→par (List.range g.m) (λe=>X e&&at_ g e v)=false):Even g (List.range g.m) X:=by
 have hall:par (List.range g.n) (λv=>par (List.range g.m) λe=>X e&&at_ g e v)=false:=by
  rw[gQ]
  refine dW λe he=>?_
  rw[fS,GW (ao.1 he),dK]
 intro v
 by_cases hv:v<g.n
 ·by_cases hl:v<g.n-1
  ·exact h v hl
  ·obtain⟨n,hn⟩:∃ n,g.n=n+1:=⟨g.n-1,om⟩
   obtain rfl:v=n:=om
   rw[hn,bD,jv,dW λw hw=>h w (by have:=ao.1 hw; omega)] at hall
   simpa [par] using hall
 ·refine dW λe he=>?_
  have ho:=g.ok e (ao.1 he)
  have a1:(g.tl e==v)=false:=by rw[beq_eq_false_iff_ne]; omega
  have a2:(g.hd e==v)=false:=by rw[beq_eq_false_iff_ne]; omega
  unfold at_
  rw[a1,a2]; simp
theorem holes {N K M:Nat}{f:Nat→Nat} (hf:∀ c,c<N→f c<K) (h:K*M≤N) (h1:0<M) (hK:0<K):∃ w,M≤(List.range N).countP λc=>f c==w:=by
 refine Classical.byContradiction λhne=>?_
 have hlt:∀ w,(List.range N).countP (λc=>f c==w)≤M-1:=λw=>by
  have:¬ M≤(List.range N).countP λc=>f c==w:=λq=>hne ⟨w,q⟩
  omega
 have s1:=sum_le (L:=List.range K) (f:=λw=>(List.range N).countP λc=>f c==w) (c:=M-1) λw _=>hlt w
 rw[mr (p:=λw c=>f c==w)] at s1
 have s2:=vX (L:=List.range N) (f:=λc=>(List.range K).countP λw=>f c==w) (c:=1) λc hc=>by
  rw[List.one_le_countP_iff]
  exact⟨f c,ao.2 (hf c (ao.1 hc)),beq_self_eq_true _⟩
 rw[bF] at s1 s2
 have:K*(M-1)+K=K*M:=by rw[← Nat.mul_succ]; congr 1; omega
 omega
theorem many_no {g:Gr} (p:Pln g (List.range g.m)) (hn:2<g.n) (hm:3*g.n-6<g.m):¬ ∃ (Φ:Type) (l r:Nat→Φ),Dual g (List.range g.m) l r:=by
 rintro⟨Φ,l,r,d⟩
 have hkk:∃ k,k+(g.n-1)=g.m∧2≤k:=⟨g.m-(g.n-1),om,om⟩
 obtain⟨k,hk,hk2⟩:=hkk
 obtain⟨w,hw⟩:=holes (N:=2 ^ g.m) (K:=2 ^ (g.n-1)) (M:=2 ^ k) (f:=λc=>cod (λv=>par (List.range g.m) λe=>c.testBit e&&at_ g e v) (List.range (g.n-1)))
  (λc _=>by have:=zQ (S:=λv=>par (List.range g.m) λe=>c.testBit e&&at_ g e v) (D:=List.range (g.n-1)); rwa [bF] at this)
  (by rw[← Nat.pow_add,← hk]; exact Nat.le_of_eq (by congr 1; omega)) (Ka _) (Ka _)
 rw[eQ] at hw
 have hF:∀ c,c∈(List.range (2 ^ g.m)).filter (λc=>cod (λv=>par (List.range g.m) λe=>c.testBit e&&at_ g e v) (List.range (g.n-1))==w)→c<2 ^ g.m∧cod (λv=>par (List.range g.m) λe=>c.testBit e&&at_ g e v) (List.range (g.n-1))=w:=λc hc=>by
  rw[aS,ao,beq_iff_eq] at hc
  exact hc
 have ndF:((List.range (2 ^ g.m)).filter (λc=>cod (λv=>par (List.range g.m) λe=>c.testBit e&&at_ g e v) (List.range (g.n-1))==w)).Nodup:=List.nodup_range.filter _
 generalize (List.range (2 ^ g.m)).filter (λc=>cod (λv=>par (List.range g.m) λe=>c.testBit e&&at_ g e v) (List.range (g.n-1))==w)=F at hw hF ndF
 have two:2≤2 ^ k:=by
  have:=Nat.pow_le_pow_right (n:=2) om (show 1≤k by omega)
  simpa using this
 have inF:∀ i,i<2 ^ k→F.getD i 0∈F:=λi hi=>by
  rw[ai,ah om]
  exact aR _
 have ev:∀ i,i<2 ^ k→Even g (List.range g.m) λe=>(F.getD i 0).testBit e ^^ (F.getD 0 0).testBit e:=λi hi=>Gf λv hv=>by
  have e1:=(hF _ (inF i hi)).2
  have e2:=(hF _ (inF 0 om)).2
  have:=wy (e1.trans e2.symm) v (ao.2 hv)
  rw[par_congr (q:=λe=>((F.getD i 0).testBit e&&at_ g e v) ^^ ((F.getD 0 0).testBit e&&at_ g e v)) (λe _=>by
   cases (F.getD i 0).testBit e<;>cases (F.getD 0 0).testBit e<;>cases at_ g e v<;>rfl),df,this,mc]
 have inj:∀ i j,i<2 ^ k→j<2 ^ k→(∀ e,e<g.m→(F.getD i 0).testBit e=(F.getD j 0).testBit e)→i=j:=λi j hi hj he=>by
  have hlt:∀ c,c<2 ^ k→∀ e,g.m≤e→(F.getD c 0).testBit e=false:=λc hc e hem=>Nat.testBit_lt_two_pow (cA (hF _ (inF c hc)).1 (Nat.pow_le_pow_right om hem))
  have:F.getD i 0=F.getD j 0:=Nat.eq_of_testBit_eq λe=>by
   by_cases q:e<g.m
   ·exact he e q
   ·rw[hlt i hi e om,hlt j hj e om]
  rw[ai,ai,ah om,ah om] at this
  exact (Hf ndF).1 this
 have hB:∀ e,e∈(List.range g.m).filter (λe=>(List.range (2 ^ k)).any λi=>(F.getD i 0).testBit e ^^ (F.getD 0 0).testBit e)↔e<g.m∧∃ i,i<2 ^ k∧((F.getD i 0).testBit e ^^ (F.getD 0 0).testBit e)=true:=λe=>by
  rw[aS,ao,jj]
  simp only[ao]
 have ndB:((List.range g.m).filter (λe=>(List.range (2 ^ k)).any λi=>(F.getD i 0).testBit e ^^ (F.getD 0 0).testBit e)).Nodup:=List.nodup_range.filter _
 have lB:=ep (λe=>(List.range (2 ^ k)).any λi=>(F.getD i 0).testBit e ^^ (F.getD 0 0).testBit e) (List.range g.m)
 rw[bF] at lB
 generalize (List.range g.m).filter (λe=>(List.range (2 ^ k)).any λi=>(F.getD i 0).testBit e ^^ (F.getD 0 0).testBit e)=B at hB ndB lB
 have sB:∀ e∈B,e∈List.range g.m:=λe he=>ao.2 ((hB e).1 he).1
 have out:∀ i,i<2 ^ k→∀ e,e<g.m→e∉B→((F.getD i 0).testBit e ^^ (F.getD 0 0).testBit e)=false:=λi hi e he hn=>by
  cases q:((F.getD i 0).testBit e ^^ (F.getD 0 0).testBit e) with
  | false=>rfl
  | true=>exact absurd ((hB e).2 ⟨he,i,hi,q⟩) hn
 obtain⟨l',r',d'⟩:=sub_dual aQ ndB sB d
 have pB:Pln g B:=⟨ndB,λe he=>((hB e).1 he).1,λe he j hj=>p.one e (sB e he) j (sB j hj)⟩
 have same:∀ i j,i<2 ^ k→j<2 ^ k→(∀ e∈B,((F.getD i 0).testBit e ^^ (F.getD 0 0).testBit e)=((F.getD j 0).testBit e ^^ (F.getD 0 0).testBit e))→i=j:=λi j hi hj he=>inj i j hi hj λe hem=>by
  by_cases q:e∈B
  ·have:=he e q
   revert this
   cases (F.getD i 0).testBit e<;>cases (F.getD j 0).testBit e<;>cases (F.getD 0 0).testBit e<;>simp
  ·have a:=out i hi e hem q
   have b:=out j hj e hem q
   revert a b
   cases (F.getD i 0).testBit e<;>cases (F.getD j 0).testBit e<;>cases (F.getD 0 0).testBit e<;>simp
 have fin:=rT pB d' (k:=k) (X:=λi e=>(F.getD i 0).testBit e ^^ (F.getD 0 0).testBit e) (λi hi=>(even_sub aQ ndB sB (λe he hn=>out i hi e (ao.1 he) hn)).1 (ev i hi)) same
  (λe he=>((hB e).1 he).2) (λhnil=>by
   have:=same 0 1 om om λe he=>by rw[hnil] at he; simp at he
   omega)
 omega
end Go.Pla
namespace Go.Proofs.YtpeemonpdlifbaaGreat
open Go.Am
open Go.Pla (Dual)
theorem KE {h:AH}{ob:Nat}{vs:List AV}{rows:List (List Nat)}{lo n:Nat} (g:h.get ob=some (.cells vs 1 false)) (hl:vs.length=n) (R:Rw h lo vs (xN rows)):SlL h (.sl ob 0 n n) (kQ rows)∧(kQ rows).length=n:=by
 have e:xN rows=kQ rows:=rfl
 rw[e] at R
 have h1:=R.1
 exact⟨⟨vs,Sl.row g hl (ae _),R.1,λi w xs a b=>IsSl.sl (f:=eI) om (λ_=>rfl) (R.2.1 i w xs a b)⟩,om⟩
theorem IM {rows:List (List Nat)}:nN (kQ rows)=rows:=by
 unfold nN kQ
 rw[nr]
 conv=>rhs; rw[← List.map_id rows]
 refine dC λl _=>?_
 simp only[Function.comp,id,nr]
 conv=>rhs; rw[← List.map_id l]
 exact dC λz _=>by simp
theorem thr_k {k m:Nat} (h2:2<k) (h:k≤64):IntKind.i64.wrap (3*((k:Nat):Int))=((3*k:Nat):Int)∧IntKind.i64.wrap (((3*k:Nat):Int)-6)=((3*k-6:Nat):Int)∧decide ((2:Int)<((k:Nat):Int))=true∧decide (((3*k-6:Nat):Int)<((m:Nat):Int))=decide (3*k-6<m) :=
 ⟨by rw[fz om om]; omega,by rw[fz om om]; omega,aL om,by rw[decide_eq_decide]; omega⟩
set_option maxHeartbeats 4000000 in
theorem Ds {h:AH}{n:Int}{ev:AV}{E:List (Int×Int)} (he:SlE h ev E):C prg 3 [.agg [.int .i64 n,ev]] h λv _=>v=.bool true:=by
 obtain⟨ec,eo⟩:=he.cells
 refine LB pf3 ?_
 refine aj (aB (Mi0) ?_)
 have x0:Ext h.next h (h.new (.cells [.int .i64 n,ev] 2 false)):=Ly (ae _)
 have g0:(h.new (.cells [.int .i64 n,ev] 2 false)).get h.next=some (.cells [.int .i64 n,ev] 2 false):=by rw[AH.get_new,if_pos rfl]
 have n0:(h.new (.cells [.int .i64 n,ev] 2 false)).next=h.next+1:=rfl
 generalize (h.new (.cells [.int .i64 n,ev] 2 false))=h1 at *
 refine aj (aj (bO (nh (Z0) (M0) (xd) λr h2 hq=>?_)))
 obtain⟨rfl,x2⟩:=hq
 refine bI (M0) ?_
 refine dL (Z0) (bK ?_)
 have X2:Ext h.next h h2:=x0.trans (x2.mono om)
 have n2:=x2.nx
 have g2:h2.get h.next=some (.cells [.int .i64 n,ev] 2 false):=by rw[x2.gt _ om]; exact g0
 have rA:ar h2 h.next 0 2=some [.int .i64 n,ev]:=by rw[bg g2]; rfl
 have he2:=he.ext X2 (ae _)
 refine aj (aj (bO (bt 1 (Mi1 rA) rfl (Zi1 rA) (Mi1 rA) (za (n:=n) he2) λr h3 hq=>?_)))
 obtain⟨b,rfl,hb,x3⟩:=hq
 have X3:Ext h.next h h3:=X2.trans (x3.mono om)
 have n3:=x3.nx
 have g3:h3.get h.next=some (.cells [.int .i64 n,ev] 2 false):=by rw[x3.gt _ om]; exact g2
 have r30:ar h3 h.next 0 1=some [.int .i64 n]:=bq g3 rfl
 have r31:ar h3 h.next 1 1=some [ev]:=bq g3 rfl
 have rA3:ar h3 h.next 0 2=some [.int .i64 n,ev]:=by rw[bg g3]; rfl
 have he3:=he.ext X3 (ae _)
 have el:=he3.len
 rw[ak] at el
 refine G.mono (K:=λts h'=>h'=h3∧aY ts 1=.ptr h.next 0∧∃ t,aY ts 22=.bool t∧(t=false→b=true∧n≤20∧E.length≤60)) ?_ ?_
 ·cases b with
  | false =>
    refine mR (λts h'=>h'=h3∧aY ts 1=.ptr h.next 0∧aY ts 22=.bool true) (Zi0) ?_
    rintro ts h' ⟨rfl,e1,e22⟩
    exact⟨rfl,e1,true,e22,λq=>by cases q⟩
  | true =>
    by_cases q2:20<n
    ·have d1:decide ((20:Int)<n)=true:=aL q2
     refine mR (λts h'=>h'=h3∧aY ts 1=.ptr h.next 0∧aY ts 22=.bool true) (Zi2 r30 d1) ?_
     rintro ts h' ⟨rfl,e1,e22⟩
     exact⟨rfl,e1,true,e22,λq=>by cases q⟩
    have d1:decide ((20:Int)<n)=false:=aJ q2
    by_cases q3:60<E.length
    ·have d2:decide ((60:Int)<((E.length:Nat):Int))=true:=aL om
     refine mR (λts h'=>h'=h3∧aY ts 1=.ptr h.next 0∧aY ts 22=.bool true) (Zi5 r30 d1 r31 el d2) ?_
     rintro ts h' ⟨rfl,e1,e22⟩
     exact⟨rfl,e1,true,e22,λq=>by cases q⟩
    have d2:decide ((60:Int)<((E.length:Nat):Int))=false:=aJ om
    refine mR (λts h'=>h'=h3∧aY ts 1=.ptr h.next 0∧aY ts 22=.bool false) (Zi5 r30 d1 r31 el d2) ?_
    rintro ts h' ⟨rfl,e1,e22⟩
    exact⟨rfl,e1,false,e22,λ_=>⟨rfl,om,om⟩⟩
 rintro ts h3' ⟨rfl,e1,t,e22,ht⟩
 cases t with
 | true =>
   refine cX (Z1 e22) (aj (aB (M0) ?_))
   exact bG ⟨_,(by simp only[rs,rf3,am,aF,simprocAttr]<;>rfl),rfl⟩
 | false =>
 obtain⟨rfl,hn20,hm60⟩:=ht rfl
 have hP:jY n E:=hb.1 rfl
 refine dL (Z1 e22) (bK ?_)
 clear x0 x2 x3 X2 g0 g2 rA he2
 refine aj (bO (bt 1 (M2 e1 rA3) rfl (Z2 e1 rA3) (M2 e1 rA3) (tW (n:=n) he3 om) λr h4 hq=>?_))
 obtain⟨x4,hq⟩:=hq
 have X4:Ext h.next h h4:=X3.trans (x4.mono om)
 have n4:=x4.nx
 have g4:h4.get h.next=some (.cells [.int .i64 n,ev] 2 false):=by rw[x4.gt _ om]; exact g3
 obtain⟨rv,ok,rfl⟩:∃ rv ok,r=.tup [rv,.bool ok]:=by
  rcases hq with ⟨rfl,_⟩|⟨_,ob,vs,rows,rfl,_⟩
  ·exact⟨_,_,rfl⟩
  ·exact⟨_,_,rfl⟩
 have xt0:yn (.tup [rv,.bool ok]) 0=some rv:=rfl
 have xt1:yn (.tup [rv,.bool ok]) 1=some (.bool ok):=rfl
 refine mR (λts h'=>h'=h4∧aY ts 1=.ptr h.next 0∧aY ts 3=rv∧aY ts 4=.bool ok) (Z3 e1 xt0 xt1) ?_
 clear e1 e22
 rintro ts h4' ⟨rfl,e1,e3,e4⟩
 have he4:=he.ext X4 (ae _)
 obtain⟨k,rfl⟩:=pm hP
 have hE:InG k E:=by simpa using ing_of hP.1
 have hL:=Be hP.1 hP.2.1
 obtain⟨m1,m2,m3,m4⟩:=jQ hP.1
 have hW:Go.Pla.Pln (grE k E hE hL) (List.range E.length):=rJ hP.2.2
 have rA4:ar h4' h.next 0 2=some [.int .i64 (k:Nat),ev]:=by rw[bg g4]; rfl
 have r40:ar h4' h.next 0 1=some [.int .i64 (k:Nat)]:=bq g4 rfl
 have r41:ar h4' h.next 1 1=some [ev]:=bq g4 rfl
 have hkk:((k:Nat):Int).toNat=k:=cB k
 by_cases qa:2<k∧3*k-6<E.length
 ·have hnd:¬ ∃ (Φ:Type) (l r:Nat→Φ),Dual (grE k E hE hL) (List.range E.length) l r:=Go.Pla.many_no (g:=grE k E hE hL) hW qa.1 qa.2
  obtain⟨rfl,rfl⟩:rv=.nils∧ok=false:=by
   rcases hq with ⟨e,_⟩|⟨_,ob,vs,rows,e,hob,hgv,hvl,hR,hI⟩
   ·simp only[AV.tup.injEq,eR,AV.bool.injEq,and_true] at e
    exact e
   ·rw[hkk] at hI
    exact absurd (hI hE hL).dual hnd
  obtain⟨w1,w2,d1,d2⟩:=thr_k (m:=E.length) qa.1 m2
  rw[aL qa.2] at d2
  refine aj (aj (aB (M8 e1 r40 r41 el d1 w1 w2 d2) ?_))
  refine cX (Z0) (aj (aB (M3 e3 e4 @decide_true) ?_))
  exact bG ⟨_,(by simp only[rs,rf3,am,aF,simprocAttr]<;>rfl),rfl⟩
 refine aj (aj (bT (λts h'=>h'=h4'∧aY ts 1=.ptr h.next 0∧aY ts 3=rv∧aY ts 4=.bool ok∧aY ts 40=.bool false) ?_ ?_))
 ·by_cases q1:2<k
  ·have d1:decide ((2:Int)<((k:Nat):Int))=true:=aL om
   have w1:IntKind.i64.wrap (3*((k:Nat):Int))=((3*k:Nat):Int):=by rw[fz om om]; omega
   have w2:IntKind.i64.wrap (((3*k:Nat):Int)-6)=((3*k-6:Nat):Int):=by rw[fz om om]; omega
   have d2:decide (((3*k-6:Nat):Int)<((E.length:Nat):Int))=false:=aJ om
   simp only[am,aF,simprocAttr,e1,e3,e4,r40,r41,el,d1,w1,w2,d2]
  ·have d1:decide ((2:Int)<((k:Nat):Int))=false:=aJ om
   simp only[am,aF,simprocAttr,e1,e3,e4,r40,d1]
 clear e1 e3 e4
 rintro ts h5 ⟨rfl,e1,e3,e4,e40⟩
 refine dL (Z1 e40) (bK ?_)
 by_cases q9:9≤E.length
 ·have d9:decide ((9:Int)≤((E.length:Nat):Int))=true:=aL om
  refine aj (aj (aB (M4 e1 r41 el d9) ?_))
  refine cX (Z0) (aj (aB (M0) ?_))
  exact bG ⟨_,(by simp only[rs,rf3,am,aF,simprocAttr]<;>rfl),rfl⟩
 have d9:decide ((9:Int)≤((E.length:Nat):Int))=false:=aJ om
 have hyd:∃ (Φ:Type) (l r:Nat→Φ),Dual (grE k E hE hL) (List.range E.length) l r:=Go.Pla.few_dual E.length (grE k E hE hL) rfl om
 rcases hq with ⟨_,hno⟩|⟨_,ob,vs,rows,hq,hob,hgv,hvl,hR,hI⟩
 ·exact absurd hyd (hno hP hE hL)
 simp only[AV.tup.injEq,eR,AV.bool.injEq,and_true] at hq
 obtain⟨rfl,rfl⟩:=hq
 rw[hkk] at hvl hI e3
 obtain⟨RT,CT⟩:=Le hW (hI hE hL)
 obtain⟨hT,hTl⟩:=KE hgv hvl hR
 refine aj (aj (bT (λts h'=>h'=h5∧aY ts 1=.ptr h.next 0∧aY ts 3=.sl ob 0 k k∧aY ts 4=.bool true∧aY ts 51=.bool false) (by simp only[am,aF,simprocAttr,e1,e3,e4,r41,el,d9]) ?_))
 clear e1 e3 e4 e40
 rintro ts h5' ⟨rfl,e1,e3,e4,e51⟩
 refine dL (Z1 e51) (bK ?_)
 refine aj (bO (bt 2 (M3 e1 e3 rA4) rfl (Z3 e1 e3 rA4) (M3 e1 e3 rA4) (xp he4 hP.1 hT hE hL RT (by rw[IM]; exact CT)) λr h6 hq=>?_))
 obtain⟨rfl,x6⟩:=hq
 have y0:yn (.tup [.int .i64 0,.int .i64 0]) 0=some (.int .i64 0):=rfl
 have y1:yn (.tup [.int .i64 0,.int .i64 0]) 1=some (.int .i64 0):=rfl
 refine mR (λts h'=>aY ts 4=.bool true∧aY ts 5=.int .i64 0∧aY ts 6=.int .i64 0) (Z3 e4 y0 y1) ?_
 clear e1 e3 e4 e51
 rintro ts h7 ⟨e4,e5,e6⟩
 refine aj (aB (M4 e4 e5 e6 @decide_true) ?_)
 exact bG ⟨_,(by simp only[rs,rf3,am,aF,simprocAttr]<;>rfl),rfl⟩
open Go.Am Go.Shelf
def sren:Ren:=⟨λx=>match x with|189=>79|125=>45|257=>89|128=>69|129=>70|294=>91|295=>92|296=>93|297=>94|298=>95|299=>96|216=>97|300=>98|301=>99|328=>100|329=>82|330=>83|331=>101|332=>102|215=>103|343=>104|n=>n,λx=>match x with|28=>39|46=>79|51=>104|53=>52|183=>98|182=>97|131=>88|218=>109|222=>113|228=>119|229=>120|n=>n,λn=>n⟩
def sre2:Ren:=⟨λx=>match x with|6=>25|15=>45|14=>44|28=>69|29=>70|20=>61|21=>62|22=>63|23=>64|24=>65|25=>66|26=>67|27=>68|46=>81|47=>82|48=>83|49=>84|50=>85|57=>90|n=>n,λx=>match x with|22=>27|24=>39|25=>63|39=>79|53=>104|55=>52|46=>98|45=>97|50=>88|66=>109|70=>113|76=>119|77=>120|n=>n,λn=>n⟩
theorem brs {f:FuncId}{B:Func} (h1:((Tryz.prog.funcs[f]?.getD Tryz.f25).name== "runtime.NumGoroutine")=false) (h2:Tryz.prog.funcs[f]?=some { B with name:=(Tryz.prog.funcs[f]?.getD Tryz.f25).name}):Bears Tryz.prog f B:=⟨_,h1,h2⟩
theorem slay:Lays.n189 Tryz.prog sren:=by
 constructor<;>first|kernel_rfl|(intro; kernel_rfl)
theorem sla2:SlLaysF.n6 Tryz.prog sre2:=by
 constructor<;>first|kernel_rfl|exact brs (by kernel_rfl) (by kernel_rfl)|(intro; kernel_rfl)
theorem cmp26:Hl Tryz.prog 26:=by
 intro W b1 o1 n1 c1 b2 o2 n2 c2 k1 k2 h1 h2 a1 a2 a3 a4
 go_enter Tryz.func26,Tryz.ntmps26
 go_wp2
 go_quiet (fail)
 go_wp2
 go_ret
 exact⟨rfl,_,rfl⟩
theorem ssrt:Hb Tryz.prog 79:=λblk off cap zs w hH hb hz=>calls_of_every_depth λD=>AnyS.slices_Sort_int_alone slay D blk off cap zs w hH hb hz
theorem srts:He Tryz.prog mks:=by
 have c:∀ {k:Nat}{r:RF},(cn Tryz.prog k).bind dE=some r→∃ rf,cn Tryz.prog k=some rf:=λh=>let ⟨rf,h,_⟩:=gJ.1 h; ⟨rf,h⟩
 exact wR.2 ⟨.inl ⟨rfl,HA ssrt (c cf79)⟩,wR.2 ⟨.inr ⟨26,rfl,HB sla2 rfl (enters_of Tryz.func26 (by kernel_rfl) rfl) cmp26 (c cf25)⟩,λ_ h=>by cases h⟩⟩
end Go.Proofs.YtpeemonpdlifbaaGreat
