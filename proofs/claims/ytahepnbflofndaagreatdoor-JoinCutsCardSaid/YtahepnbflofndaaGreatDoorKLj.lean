/- The definition's side -/
import Derived.Test.YtahepnbflofndaaGreatDoorKLi
set_option linter.all false
namespace Go.Proofs.YtahepnbflofndaaGreatDoor
open Go.Am
structure IsRef (h:AH) (fb n:Nat) (es:List (Int×Int)) (row:List It) (pl:List Int) (ev rv pv:AV):Prop where
 g:h.get fb=some (.cells [.int .i64 (n:Nat),ev,rv,pv] 4 false)
 e:SlE h ev es
 r:SlT h rv row
 p:SlI h pv pl
 oe:∀ b o m c,ev=.sl b o m c→b≠fb
 or:∀ b o m c,rv=.sl b o m c→b≠fb
 op:∀ b o m c,pv=.sl b o m c→b≠fb
 hm:fy (n:Nat) es=true
theorem IsRef.ext {h h':AH}{fb n:Nat}{es:List (Int×Int)}{row:List It}{pl:List Int}{ev rv pv:AV} (hr:IsRef h fb n es row pl ev rv pv) (hx:Ext h.next h h'):IsRef h' fb n es row pl ev rv pv :=
 ⟨by rw[hx.gt _ (AH.lt_of_get hr.g)]; exact hr.g,hr.e.ext hx (ab _),hr.r.ext hx (ab _),hr.p.ext hx (ab _),hr.oe,hr.or,hr.op,hr.hm⟩
theorem Dv {h:AH}{fb n:Nat}{es:List (Int×Int)}{row:List It}{pl:List Int}{ev rv pv:AV}{x:Int} (hr:IsRef h fb n es row pl ev rv pv) (hl:row.length<2 ^ 30) (hl2:pl.length<2 ^ 30) :
 C prg 161 [.ptr fb 0,.int .i64 x] h λr h'=>r=.bool (iG n es row pl x)∧Ext h.next h h':=by
 obtain⟨m1,m2,m3,m4⟩:=iQ hr.hm;have rn:ak h fb 0 1=some [.int .i64 (n:Nat)]:=bm hr.g rfl;have rp:ak h fb 3 1=some [pv]:=bm hr.g rfl;refine Mw pf161 ?_;refine ae (aj (Ji0) ?_);by_cases q1:x<0
 ·have c1:decide (x<0)=true:=aH q1;refine ae (ae (bN (eW 17 (Ji1 c1) rfl (I0) ?_)));refine bH (J0) ?_;refine db (I0) (ae (aj (J0) ?_));refine br ⟨.bool false,(by simp only[Am.results,iu,jN,rf161,am,aK,↓reduceIte,Nat.reduceEqDiff,Int.reduceEq,Nat.reduceAdd,Nat.reduceLeDiff,reduceCtorEq]<;>rfl),?_,Mu⟩;have:decide (0≤x∧x<(n:Int))=false:=aw om;simp only[iG,this,ee]
 have c1:decide (x<0)=false:=aw q1;by_cases q2:((n:Nat):Int)≤x
 ·have c2:decide (((n:Nat):Int)≤x)=true:=aH q2;refine ae (ae (bN (eW 17 (Ji3 c1 c2 rn) rfl (I0) ?_)));refine bH (J0) ?_;refine db (I0) (ae (aj (J0) ?_));refine br ⟨.bool false,(by simp only[Am.results,iu,jN,rf161,am,aK,↓reduceIte,Nat.reduceEqDiff,Int.reduceEq,Nat.reduceAdd,Nat.reduceLeDiff,reduceCtorEq]<;>rfl),?_,Mu⟩;have:decide (0≤x∧x<(n:Int))=false:=aw om;simp only[iG,this,ee]
 have c2:decide (((n:Nat):Int)≤x)=false:=aw q2;have c3:decide (0≤x∧x<(n:Int))=true:=aH om;refine ae (ae (bN (bo 17 (Ji4 c1 c2 rn rp) rfl (Ii4 c1 c2 rn rp) (Ji4 c1 c2 rn rp) (yR (x:=x) hr.p om) λr h1 hq=>?_)));obtain⟨rfl,rfl⟩:=hq;refine bH (J0) ?_;refine cr (t:=decide (x∈pl)) (I0) (λq=>?_) λq=>?_
 ·refine ae (aj (J0) ?_);refine br ⟨.bool false,(by simp only[Am.results,iu,jN,rf161,am,aK,↓reduceIte,Nat.reduceEqDiff,Int.reduceEq,Nat.reduceAdd,Nat.reduceLeDiff,reduceCtorEq]<;>rfl),?_,Mu⟩;simp only[iG,q,iO,js,ee]
 refine bu ?_;have hred:iG n es row pl x=(decide ((dg es x).length=0)||lJ x (dg es x).length row 0):=by
  simp only[iG,c3,q,ym,mX]
 rw[hred];have rg:ak h1 fb 0 2=some [.int .i64 (n:Nat),ev]:=by rw[aU hr.g]; rfl
 refine ae (bN (bo 5 (Ji1 rg) rfl (Ii1 rg) (Ji1 rg) (tf (x:=x) (fr:=false) hr.e om) λr h2 hq=>?_));obtain⟨i2,x2⟩:=hq;have s2:SlI h2 r (dg es x):=Mq om (λ_=>rfl) i2;have l2:=s2.len;rw[ai] at l2;refine bH (J1 l2) ?_;have hr2:=hr.ext x2;refine ae (ae (aj (J0) ?_));refine cr (t:=decide ((dg es x).length=0)) (by simp only[am,aK,↓reduceIte,Nat.reduceEqDiff,Int.reduceEq,Nat.reduceAdd,Nat.reduceLeDiff,reduceCtorEq]; exact congrArg AV.bool (by simp only[decide_eq_decide]; omega)) (λq3=>?_) λq3=>?_
 ·refine ae (aj (J0) ?_);exact br ⟨.bool true,(by simp only[Am.results,iu,jN,rf161,am,aK,↓reduceIte,Nat.reduceEqDiff,Int.reduceEq,Nat.reduceAdd,Nat.reduceLeDiff,reduceCtorEq]<;>rfl),by rw[q3]; rfl,x2⟩
 rw[q3,Aq];refine bu ?_;have hil:(dg es x).length≤128:=cn (fk _ _ _) m3;generalize (dg es x).length=need at *
 have rr:ak h2 fb 2 1=some [rv]:=bm hr2.g rfl;have lr:=hr2.r.len;rw[ai] at lr;refine ae (aj (J0) ?_);refine ae (ae (aj (J0) ?_));refine dV (α:=Nat) (N:=row.length) (λk a=>[(0,.ptr fb 0),(1,.int .i64 x),(5,.int .i64 (need:Nat)),(6,.int .i64 (a:Nat)),(7,.int .i64 (k:Nat))]) (λk a h'=>h'=h2∧a≤k∧lJ x need (row.drop k) a=lJ x need row 0) 0 (Oi1 @bh) ⟨rfl,ab _,rfl⟩ ?_ ?_ ?_
 ·rintro k a ts h3 hk ⟨rfl,ja,j1⟩ ⟨e0,e1,e5,e6,e7,-⟩;simp only at e0 e1 e5 e6 e7;exact⟨_,(J5 e0 e7 rr lr @bz),I0,O5 e0 e1 e5 e6 e7⟩
 ·rintro k a ts h3 hk ⟨rfl,ja,j1⟩ ⟨e0,e1,e5,e6,e7,-⟩;simp only at e0 e1 e5 e6 e7;obtain⟨b1,p1,a1,_,rs,_⟩:=hr2.r.at (cq (f:=eT) hk);have ra:ak h3 b1 p1 1=some [.int .i64 row[k].1]:=rs 0 _ rfl;have rc:ak h3 b1 (p1+2) 1=some [.int .i64 row[k].2.2]:=rs 2 _ rfl;have w1:=dT (k:=k) om;have w2:=dT (k:=a) om;rw[bX hk,lJ] at j1;refine ae (aj (J6 e0 e1 e7 rr a1 rc) ?_);refine cr (t:=decide (row[k].2.2=x)) (I0) (λp=>?_) λp=>?_
  ·have p:row[k].2.2=x:=aR p;rw[if_pos p] at j1;refine aj (J2 e6 w2) ?_;exact⟨a+1,⟨rfl,om,j1⟩,_,(J2 e7 w1),O3 e0 e1 e5⟩
  ·have p:¬ row[k].2.2=x:=aZ p;rw[if_neg p] at j1;have next:¬ (0≤row[k].1∧0<a∧a<need)→lJ x need (row.drop (k+1)) a=lJ x need row 0:=λhne=>by rw[if_neg hne] at j1; exact j1
   by_cases t1:0≤row[k].1
   ·have d1:decide (0≤row[k].1)=true:=aH t1;by_cases t2:0<a
    ·have d2:decide ((0:Int)<((a:Nat):Int))=true:=aH om;refine ae (aj (J10 e0 e5 e6 e7 rr a1 ra d1 d2 d2) ?_);refine cr (t:=decide (a<need)) (I1 @bz) (λt3=>?_) λt3=>?_
     ·have t3:a<need:=aR t3;rw[if_pos ⟨t1,t2,t3⟩] at j1;refine ae (aj (J0) ?_);exact br ⟨.bool false,(by simp only[Am.results,iu,jN,rf161,am,aK,↓reduceIte,Nat.reduceEqDiff,Int.reduceEq,Nat.reduceAdd,Nat.reduceLeDiff,reduceCtorEq]<;>rfl),by rw[j1],x2⟩
     ·have t3:¬ a<need:=aZ t3;exact bu ⟨a,⟨rfl,om,next (λhh=>t3 hh.2.2)⟩,_,(J2 e7 w1),O4 e0 e1 e5 e6⟩
    ·have d2:decide ((0:Int)<((a:Nat):Int))=false:=aw om;refine ae (aj (J10 e0 e5 e6 e7 rr a1 ra d1 d2 d2) ?_);refine dL (I0) (bu ⟨a,⟨rfl,om,next (λhh=>t2 hh.2.1)⟩,_,(J2 e7 w1),O4 e0 e1 e5 e6⟩)
   ·have d1:decide (0≤row[k].1)=false:=aw t1;refine ae (aj (J8 e0 e5 e6 e7 rr a1 ra d1) ?_);refine dL (I0) (bu ⟨a,⟨rfl,om,next (λhh=>t1 hh.1)⟩,_,(J2 e7 w1),O4 e0 e1 e5 e6⟩)
 ·rintro a ts h3 ⟨rfl,ja,j1⟩ ⟨e0,e1,e5,e6,e7,-⟩;simp only at e5 e6;rw[mU] at j1;refine ae (aj (J2 e5 e6) ?_);refine br ⟨_,(by simp only[Am.results,iu,jN,rf161,am,aK,↓reduceIte,Nat.reduceEqDiff,Int.reduceEq,Nat.reduceAdd,Nat.reduceLeDiff,reduceCtorEq]<;>rfl),?_,x2⟩;rw[← j1];exact congrArg AV.bool (by simp only[lJ,decide_eq_decide]; omega)
open Go.Am
theorem xX {h:AH}{esz lo bytes:Nat}{v w:AV}{cs:List AV}{xs:List (List AV)} (hv:IsSl h esz lo v cs) (hlo:lo≤h.next) (he:0<esz) (hw:Sl h esz w xs) (ho:xs.flatten.all AV.one=true)
 (hb:(cs.length / esz+xs.length)*bytes<aW) (hc:cs.length / esz+xs.length<aW):∃ v' h',gp h esz bytes v w=some (v',h')∧IsSl h' esz lo v' (cs++xs.flatten)∧Ext lo h h'∧h.next≤h'.next∧(∀ c,c<h.next→(∀ b n,v=.sl b 0 n n→c≠b)→h'.get c=h.get c)∧(∀ c,h'.tyOf c=h.tyOf c):=by
 obtain⟨s1,s2⟩:=hw.src;rcases hv with ⟨rfl,rfl⟩|⟨b,n,h1,rfl,h3,h4⟩
 ·simp only[bt,Fa,bM] at hb hc;by_cases hz:xs.length=0
  ·refine⟨.nils,h,?_,.inl ⟨rfl,by rw[bi.1 hz]; rfl⟩,Mu,ab _,λ_ _ _=>rfl,λ_=>rfl⟩;simp only[gp,s1,ho,if_true,hz]
  ·refine⟨.sl h.next 0 xs.length xs.length,h.new (.cells xs.flatten esz false),?_,.inr ⟨h.next,xs.length,hlo,rfl,by rw[AH.get_new,if_pos rfl]; rfl,by simpa using s2⟩,Mt hlo,by simp,λc hc' _=>by rw[AH.get_new,if_neg om],λ_=>rfl⟩;simp only[gp,s1,ho,if_true,if_neg hz];rw[if_pos ⟨hb,hc⟩]
 ·have hnn:cs.length / esz=n:=by rw[h4,cN _ he]
  rw[hnn] at hb hc;have hr2:ak h b 0 (n*esz)=some cs:=by
   rw[aU h3,if_pos om,de,← h4,bp]
  by_cases hz:xs.length=0
  ·refine⟨.sl b 0 n n,h,?_,.inr ⟨b,n,h1,rfl,by rw[bi.1 hz,eK,bO]; exact h3,by rw[bi.1 hz,eK,bO]; exact h4⟩,Mu,ab _,λ_ _ _=>rfl,λ_=>rfl⟩;simp only[gp,s1,ho,if_true,hz]
  ·refine⟨.sl h.next 0 (n+xs.length) (n+xs.length),(h.put b .dead).new (.cells (cs++xs.flatten) esz false),?_,.inr ⟨h.next,n+xs.length,hlo,rfl,by rw[AH.get_new,AH.next_put]; simp,by rw[aN,s2,h4,dN]⟩,?_,by simp,?_,λ_=>rfl⟩
   ·simp only[gp,s1,ho,if_true,if_neg hz];rw[if_neg om,if_pos ⟨hb,hc⟩,h3,hr2];simp only[if_true]
   ·exact (Ext.put h1).trans (Mt (by simpa using hlo))
   ·intro c hc' hne;rw[AH.get_new,AH.next_put,if_neg om,AH.get_put _ _ _ _ (AH.lt_of_get h3),if_neg (Ne.symm (hne b n rfl))]
theorem sG {h:AH}{e:Nat}{v:AV}{xs:List (List AV)} (hs:Sl h e v xs):AV.same v v=true:=by
 rcases hs with ⟨_,rfl|rfl⟩|⟨b,o,c,cs,ro,rfl,_⟩
 ·exact qA
 ·rfl
 ·exact mq
theorem oX (xs:List It):(xs.map eT).flatten=xs.flatMap eT:=rfl
theorem Ls (xs:List Int):(xs.map eI).flatten=xs.flatMap eI:=rfl
theorem Df {x:Int}{row:List It}{k:Nat} (hk:k<row.length):eB x (row.take (k+1)) 0 (-1,0,0)=if row[k].2.2=x then (if (eB x (row.take k) 0 (-1,0,0)).1=-1 then ((k:Nat):Int) else (eB x (row.take k) 0 (-1,0,0)).1,((k+1:Nat):Int),(eB x (row.take k) 0 (-1,0,0)).2.2+1) else eB x (row.take k) 0 (-1,0,0):=by
 rw[aG hk,lQ,eB,eB,aS,cy om,bM]
theorem Dx {h:AH}{fb n:Nat}{es:List (Int×Int)}{row:List It}{pl outs:List Int}{ev rv pv ov:AV}{x:Int} (hr:IsRef h fb n es row pl ev rv pv) (hv:SlI h ov outs) (hov:∀ b o m c,ov=.sl b o m c→b≠fb) (ho:OutsOk es x outs) (hl:row.length<2 ^ 29) (hl2:pl.length<2 ^ 29) (hl3:outs.length<2 ^ 29) :
 C prg 123 [.ptr fb 0,.int .i64 x,ov] h λr h' =>
   if iG n es row pl x=true then ∃ g rv' pv',r=.tup [g,.int .i64 0]∧SlT h' g (kO x row)∧(∀ b o m c,g=.sl b o m c→h.next≤b)∧IsRef h' fb n es (ij es x outs row) (pl++[x]) ev rv' pv'∧(∀ b o m c,rv'=.sl b o m c→h.next≤b)∧(∀ b o m c,pv'=.sl b o m c→h.next≤b)∧Kp (·=fb) h h'
   else r=.tup [.nils,.int .i64 3]∧Ext h.next h h':=by
 obtain⟨m1,m2,m3,m4⟩:=iQ hr.hm;have hfb:=AH.lt_of_get hr.g;refine Mw pf123 ?_;refine ae (aj (Mi0) ?_);refine ae (ae (bN (bo 2 (Mi0) rfl (Zi0) (Mi0) (Dv (x:=x) hr om om) λr h1 hq=>?_)));obtain⟨rfl,x1⟩:=hq;refine bH (M0) ?_;refine cr (t:=!iG n es row pl x) (Z0) (λq=>?_) λq=>?_
 ·have q:iG n es row pl x=false:=by simpa using q
  refine ae (aj (M0) ?_);refine br ⟨.tup [.nils,.int .i64 3],(by simp only[rs,rf123,am,aK,simprocAttr]<;>rfl),?_⟩;rw[if_neg (by simp [q])];exact⟨rfl,x1⟩
 have q:iG n es row pl x=true:=by simpa using q
 refine bu ?_;have hr1:=hr.ext x1;have n1:=x1.nx;have rg:ak h1 fb 0 2=some [.int .i64 (n:Nat),ev]:=by rw[aU hr1.g]; rfl
 refine ae (bN (bo 5 (Mi1 rg) rfl (Zi1 rg) (Mi1 rg) (tf (x:=x) (fr:=true) hr1.e om) λr h2 hq=>?_));obtain⟨i2,x2⟩:=hq;have s2:SlI h2 r (dz es x):=Mq om (λ_=>rfl) i2;have l2:=s2.len;rw[ai] at l2;refine bH (M0) ?_;have X2:=x1.trans (x2.mono n1);have n2:=x2.nx;have hr2:=hr1.ext x2;have hv2:=hv.ext X2 (ab _);have lv:=hv.len;rw[ai] at lv;have hlen:outs.length=(dz es x).length:=ho.length_eq;have hnl:((outs.length:Nat):Int)=(((dz es x).length:Nat):Int):=by rw[hlen]
 have c0:decide (((outs.length:Nat):Int)=(((dz es x).length:Nat):Int))=true:=aH hnl;refine ae (ae (aj (Mi3 lv l2 c0) ?_));refine dL (Z0) (bu ?_);refine ae (ae (aj (Mi0) ?_));have hol:(dz es x).length≤128:=cn (fk _ _ _) m3;refine dV (α:=Unit) (N:=(dz es x).length) (λk _=>[(0,.ptr fb 0),(1,.int .i64 x),(2,ov),(8,r),(9,.int .i64 (k:Nat))]) (λ_ _ h'=>h'=h2) () (Oi1 @bh) rfl ?_ ?_ ?_
 ·rintro k _ ts h3 hk rfl ⟨e0,e1,e2,e8,e9,-⟩;simp only at e0 e1 e2 e8 e9;exact⟨_,(J4 e8 e9 l2 @bz),I0,O5 e0 e1 e2 e8 e9⟩
 ·rintro k _ ts h3 hk rfl ⟨e0,e1,e2,e8,e9,-⟩;simp only at e0 e1 e2 e8 e9;obtain⟨b1,p1,a1,r1,_⟩:=s2.at1 (cq (f:=eI) hk);have w1:=dT (k:=k) om;refine ae (bN (bo 5 (M5 e2 e8 e9 a1 r1) rfl (Z5 e2 e8 e9 a1 r1) (M5 e2 e8 e9 a1 r1) (yR (x:=(dz es x)[k]) hv2 om) λr4 h4 hq=>?_));obtain⟨rfl,rfl⟩:=hq;have c1:decide ((dz es x)[k]∈outs)=true:=aH (ho.mem.2 (aP hk));rw[c1];refine bH (M0) ?_;exact dL (I0) (bu ⟨(),rfl,_,(J2 e9 w1),O4 e0 e1 e2 e8⟩)
 rintro _ ts h3 rfl ⟨e0,e1,e2,e8,e9,-⟩;simp only at e0 e1 e2;refine ae (aj (M0) ?_);have x4:Ext h3.next h3 (h3.new (.cells [] 3 false)):=Mt (ab _);have g4:(h3.new (.cells [] 3 false)).get h3.next=some (.cells [] 3 false):=by rw[AH.get_new,if_pos rfl]
 have n4:(h3.new (.cells [] 3 false)).next=h3.next+1:=rfl;generalize h3.new (.cells [] 3 false)=h4 at *
 refine ae (ae (aj (M0) ?_));have hrr:∀ i∈outs,0≤i∧i<es.length:=λi hi=>by
  obtain⟨k,rfl,t,ht⟩:=fw.1 (ho.mem.1 hi);have:=(aI.1 ht).1;omega
 refine dV (α:=AV) (N:=outs.length) (λk a=>[(0,.ptr fb 0),(1,.int .i64 x),(2,ov),(10,a),(11,.int .i64 (k:Nat))]) (λk a h'=>IsSl h' 3 h3.next a (((outs.map λi=>(i,x,((es[i.toNat]?).getD (0,0)).2)).take k).flatMap eT)∧Ext h3.next h3 h') (.sl h3.next 0 0 0) (O4 e0 e1 e2 @bh)
  ⟨.inr ⟨h3.next,0,ab _,rfl,g4,rfl⟩,x4⟩ ?_ ?_ ?_
 ·rintro k a ts h5 hk ⟨j1,jx⟩ ⟨e0,e1,e2,e10,e11,-⟩;simp only at e0 e1 e2 e10 e11;exact⟨_,(J4 e2 e11 lv @bz),I0,O5 e0 e1 e2 e10 e11⟩
 ·rintro k a ts h5 hk ⟨j1,jx⟩ ⟨e0,e1,e2,e10,e11,-⟩;simp only at e0 e1 e2 e10 e11;have jn:=jx.nx;have hk5:∀ c,c<h5.next→(h5.keep 1).get c=h5.get c:=λc hc=>by rw[AH.keep_get,if_neg om]
  have q7:(h5.keep 1).get h5.next=some .resv:=fG;have hv5:SlI (h5.keep 1) ov outs:=by
   have s:=hv2.ext jx (ab _);exact s.cong λb o m c hb=>hk5 _ (s.lt hb)
  have he5:SlE (h5.keep 1) ev es:=by
   have s:=hr2.e.ext jx (ab _);exact s.cong λb o m c hb=>hk5 _ (s.lt hb)
  have hr5:=hr2.ext jx;obtain⟨b1,p1,a1,r4,_⟩:=hv5.at1 (cq (f:=eI) hk);obtain⟨hi1,hi2⟩:=hrr _ (aP hk);obtain⟨i,hi⟩:∃ i:Nat,outs[k]=i:=⟨outs[k].toNat,om⟩
  rw[hi] at r4 hi2;have hil:i<es.length:=om;obtain⟨eb1,ep,a7,_,r7,_⟩:=he5.at (cq (f:=eE) hil);have r7:=r7 1 (.int .i64 es[i].2) rfl;have re:ak (h5.keep 1) fb 1 1=some [ev]:=bm (by rw[hk5 _ om]; exact hr5.g) rfl;obtain⟨p1',p2,p3,p4⟩:=gr (h:=h5) (o:=.cells [.int .i64 ((i:Nat):Int),.int .i64 x,.int .i64 es[i].2] 3 false);have hlenk:(((outs.map λi=>(i,x,((es[i.toNat]?).getD (0,0)).2)).take k).flatMap eT).length=k*3:=by
   rw[dC (f:=eT) (e:=3) (λ_=>rfl),aS,ai,cy om]
  obtain⟨s',h6,a6,i6,x6,hs6,n6,k6,t6⟩:=(j1.ext p1' (ab _)).app (bytes:=24) (x:=h5.next) (new:=[.int .i64 ((i:Nat):Int),.int .i64 x,.int .i64 es[i].2]) (by rw[p3]; omega) om p2 om (λb m hb=>by have:=j1.lt hb; omega) rfl rfl
   (by rw[hlenk,cN _ om]; unfold aW; omega) (by rw[hlenk,cN _ om]; unfold aW; omega)
  have w1:=dT (k:=k) om;refine oa (by simp only[am,aK,simprocAttr,e0,e1,e2,e10,e11,a1,r4,re,a7,r7,eN,et q7,a6]<;>rfl) ?_;refine⟨s',⟨?_,jx.trans ((p1'.mono jn).trans x6)⟩,_,(J2 e11 w1),O3 e0 e1 e2⟩;have e1':(outs.map λi=>(i,x,((es[i.toNat]?).getD (0,0)).2)).take (k+1)=(outs.map λi=>(i,x,((es[i.toNat]?).getD (0,0)).2)).take k++[(((i:Nat):Int),x,es[i].2)]:=by
   rw[aG (by rw[ai]; exact hk),mT,hi,aY,aq hil,dh]
  rw[e1',bC];exact i6
 rintro a ts h5 ⟨j1,jx⟩ ⟨e0,e1,e2,e10,e11,-⟩;simp only at e0 e1 e2 e10;rw[da (by rw[ai]; exact ab _)] at j1;have n5:=jx.nx;refine ae (oZ (λts h6=>∃ a,IsSl h6 3 h3.next a ((eF es x outs).flatMap eT)∧Ext h3.next h3 h6∧Held [(0,.ptr fb 0),(1,.int .i64 x),(2,ov),(10,a)] ts) ?_ ?_)
 ·refine ae (aj (M2 e2 lv) ?_);refine cr (t:=decide (outs.length=0)) (by simp only[am,aK,simprocAttr]; exact congrArg AV.bool (by simp only[decide_eq_decide]; omega)) (λp=>?_) λp=>?_
  ·have p:outs=[]:=bi.1 (aR p);subst p;obtain⟨s',h6,a6,i6,x6,n6⟩:=j1.push (bytes:=24) [.int .i64 (-1),.int .i64 x,.int .i64 (-1)] n5 om rfl rfl (by simp only[List.map_nil,List.flatMap_nil,bt]; unfold aW; omega) (by simp only[List.map_nil,List.flatMap_nil,bt]; unfold aW; omega);refine aj (M3 e1 e10 a6) ?_;exact⟨s',i6,jx.trans x6,O3 e0 e1 e2⟩
  ·have p:¬ outs=[]:=λe=>aZ p (by rw[e]; rfl);refine bu ⟨a,?_,jx,O4 e0 e1 e2 e10⟩;unfold eF;rw[if_neg p];exact j1
 clear j1 jx e0 e1 e2 e10 n5;rintro ts h6 ⟨av,ia,jx,e0,e1,e2,e10,-⟩;simp only at e0 e1 e2 e10;have n6:=jx.nx;have hr6:=hr2.ext jx;have rr6:ak h6 fb 2 1=some [rv]:=bm hr6.g rfl;have lr:=hr6.r.len;rw[ai] at lr;refine ae (aj (M0) ?_);refine ae (ae (aj (M0) ?_));refine dV (α:=Unit) (N:=row.length) (λk _=>[(0,.ptr fb 0),(1,.int .i64 x),(10,av),(12,.int .i64 (eB x (row.take k) 0 (-1,0,0)).1),(13,.int .i64 ((eB x (row.take k) 0 (-1,0,0)).2.1-1)),(14,.int .i64 (k:Nat))]) (λ_ _ h'=>h'=h6) () (by simp only[dU,eH,am,aK,↓reduceIte,Nat.reduceEqDiff,Int.reduceEq,Nat.reduceAdd,Nat.reduceLeDiff,reduceCtorEq,e0,e1,e10,bh,fF,eB,Int.reduceSub,Int.zero_sub]) rfl ?_ ?_ ?_
 ·rintro k _ ts h7 hk rfl ⟨e0,e1,e10,e12,e13,e14,-⟩;simp only at e0 e1 e10 e12 e13 e14;exact⟨_,(J5 e0 e14 rr6 lr @bz),I0,O6 e0 e1 e10 e12 e13 e14⟩
 ·rintro k _ ts h7 hk rfl ⟨e0,e1,e10,e12,e13,e14,-⟩;simp only at e0 e1 e10 e12 e13 e14;obtain⟨b1,p1,a1,_,rs,_⟩:=hr6.r.at (cq (f:=eT) hk);have rc:ak h7 b1 (p1+2) 1=some [.int .i64 row[k].2.2]:=rs 2 _ rfl;have w1:=dT (k:=k) om;have hst:=Df (x:=x) hk;have hsok:=pM x (row.take k);have hs0:dI x (row.take k)=eB x (row.take k) 0 (-1,0,0):=rfl;rw[hs0] at hsok;generalize eB x (row.take k) 0 (-1,0,0)=S at *
  refine ae (aj (M6 e0 e1 e14 rr6 a1 rc) ?_);refine cr (t:=decide (row[k].2.2=x)) (Z0) (λp=>?_) λp=>?_
  ·have p:row[k].2.2=x:=aR p;rw[if_pos p] at hst;rw[hst];have hk1:((k+1:Nat):Int)-1=((k:Nat):Int):=om;refine ae (ae (aj (M1 e12) ?_));refine cr (t:=decide (S.1<0)) (Z0) (λp2=>?_) λp2=>?_
   ·have p2:S.1=-1:=by have:=aR p2; omega
    refine aj (M1 e14) ?_;refine aj (M1 e14) ?_;exact⟨(),rfl,_,(J2 e14 w1),O6 e0 e1 e10 e14 p2 hk1⟩
   ·have p2:¬ S.1=-1:=by have:=aZ p2; omega
    refine bu (aj (M1 e14) ?_);exact⟨(),rfl,_,(J2 e14 w1),by simp only[dU,eH,am,aK,↓reduceIte,Nat.reduceEqDiff,Int.reduceEq,Nat.reduceAdd,Nat.reduceLeDiff,reduceCtorEq,e0,e1,e10,e12,e14,if_neg p2,hk1]⟩
  ·have p:¬ row[k].2.2=x:=aZ p;rw[if_neg p] at hst;rw[hst];exact bu ⟨(),rfl,_,(J2 e14 w1),O5 e0 e1 e10 e12 e13⟩
 rintro _ ts h7 rfl ⟨e0,e1,e10,e12,e13,e14,-⟩;simp only at e0 e1 e10 e12 e13;rw[bp] at e12 e13;have hs0:eB x row 0 (-1,0,0)=dI x row:=rfl;rw[hs0] at e12 e13;have sok:=pM x row;have rp7:ak h7 fb 3 1=some [pv]:=bm hr6.g rfl;have rp8:ak (h7.new (.cells [] 1 false)) fb 3 1=some [pv]:=by rw[bK ((Mt (ab _):Ext h7.next h7 _).gt _ (AH.lt_of_get hr6.g))]; exact rp7
 obtain⟨p1,h8,a8,i8,x8,_⟩:=oJ (bytes:=8) hr6.p (by rw[Ls]; exact Ba) (by rw[ai]; unfold aW; omega) (by rw[ai]; unfold aW; omega);rw[Ls] at i8;have n8:=x8.nx;obtain⟨p2,h9,a9,i9,x9,n9⟩:=i8.push (bytes:=8) [.int .i64 x] n8 om rfl rfl (by rw[dS]; unfold aW; omega) (by rw[dS]; unfold aW; omega);have X9:=x8.trans x9;have hr9:=hr6.ext X9;have u:=Mv (o:=.cells [.int .i64 (n:Nat),ev,rv,p2] 4 false) hr9.g;have w9:bQ h9 fb 3 [p2]=some (h9.put fb (.cells [.int .i64 (n:Nat),ev,rv,p2] 4 false)):=by rw[dp hr9.g]; rfl
 obtain⟨pc,po⟩:=i9.cells;refine ae (aj (M8 e0 e1 rp8 a8 a9 w9 pc po) ?_);have hnx:(h9.put fb (.cells [.int .i64 (n:Nat),ev,rv,p2] 4 false)).next=h9.next:=rfl;generalize h9.put fb (.cells [.int .i64 (n:Nat),ev,rv,p2] 4 false)=hA at *
 have rowA:SlT hA rv row:=hr9.r.cong λb o m c hb=>u.ne (hr9.or b o m c hb);have evA:SlE hA ev es:=hr9.e.cong λb o m c hb=>u.ne (hr9.oe b o m c hb);have pI:IsSl hA 1 h7.next p2 ((pl++[x]).flatMap eI):=by
  rw[bC];exact i9.cong λb m hb hlo=>u.ne om
 have iaA:IsSl hA 3 h3.next av ((eF es x outs).flatMap eT):=by
  have s:=ia.ext X9 (ab _);exact s.cong λb m hb hlo=>u.ne om
 have KA:Kp (·=fb) h hA:=(X2.kp (S:=(·=fb)) (ab _)).trans ((jx.kp (ab _)).trans ((X9.kp (ab _)).trans (u.kp (S:=(·=fb)) rfl) (λ_ _ e=>e)) (λ_ _ e=>e)) (λ_ _ e=>e);have nA:=KA.nx;have hal:(eF es x outs).length≤outs.length+1:=by
  unfold eF;split
  ·simp
  ·simp
 have hla:((eF es x outs).flatMap eT).length / 3=(eF es x outs).length:=by
  rw[dC (f:=eT) (e:=3) (λ_=>rfl),cN _ om]
 have rA:ak hA fb 2 1=some [rv]:=bm u.get rfl;have Xm:Ext h3.next h3 h9:=jx.trans (X9.mono n6);refine ae (ae (aj (M1 e12) ?_));refine cr (t:=decide ((dI x row).1<0)) (Z0) (λp=>?_) λp=>?_
 ·have p:(dI x row).1<0:=aR p;obtain⟨r',hB,aB,iB,xB,nB,kB,tB⟩:=xX iaA (bytes:=24) om om rowA (by rw[oX]; exact pj) (by rw[hla,ai]; unfold aW; omega) (by rw[hla,ai]; unfold aW; omega);rw[oX,← bC] at iB;have gB:hB.get fb=some (.cells [.int .i64 (n:Nat),ev,rv,p2] 4 false):=by rw[xB.gt _ om]; exact u.get
  have wB:bQ hB fb 2 [r']=some (hB.put fb (.cells [.int .i64 (n:Nat),ev,r',p2] 4 false)):=by rw[dp gB]; rfl
  have uB:=Mv (o:=.cells [.int .i64 (n:Nat),ev,r',p2] 4 false) gB;obtain⟨rc,ro⟩:=iB.cells;refine ae (aj (M7 e0 e10 rA aB wB rc ro) ?_);refine ae (aj (M0) ?_);have hnB:(hB.put fb (.cells [.int .i64 (n:Nat),ev,r',p2] 4 false)).next=hB.next:=rfl;generalize hB.put fb (.cells [.int .i64 (n:Nat),ev,r',p2] 4 false)=hC at *
  refine br ⟨.tup [.nils,.int .i64 0],(by simp only[rs,rf123,am,aK,simprocAttr]<;>rfl),?_⟩;rw[if_pos q];have hnone:∀ i∈row,i.2.2≠x:=by
   rcases px x row with hh|⟨A,X,C,c⟩
   ·exact hh
   ·rw[c.span] at p;simp only at p;omega
  refine⟨.nils,r',p2,rfl,.inl ⟨by rw[vT hnone]; rfl,.inl rfl⟩,λb o m c e=>(by cases e),⟨uB.get,?_,?_,?_,hr.oe,λb o m c hb=>?_,λb o m c hb=>?_,hr.hm⟩,λb o m c hb=>?_,λb o m c hb=>?_,(⟨om,λc hc hn=>by rw[xB.gt c om]; exact KA.gt c hc hn,λc hc=>by rw[xB.ty c om]; exact KA.ty c hc⟩:Kp (·=fb) h hB).trans (uB.kp (S:=(·=fb)) rfl) λ_ _ e=>e⟩
  ·refine evA.cong λb o m c hb=>?_;have hbl:b<h3.next:=by have:=hr2.e.lt hb; omega
   rw[uB.ne (hr.oe b o m c hb),xB.gt _ hbl]
  ·rw[lU hnone];exact (Mq om (λ_=>rfl) iB:SlT hB r' _).cong λb o m c hb=>by
    refine uB.ne ?_;rcases iB with ⟨rfl,_⟩|⟨b',m',hb',rfl,_,_⟩
    ·cases hb
    ·cases hb; omega
  ·refine (Mq om (λ_=>rfl) pI:SlI hA p2 _).cong λb o m c hb=>?_;have hpb:h7.next≤b∧b<hA.next:=by
    refine⟨?_,pI.lt hb⟩;rcases pI with ⟨rfl,_⟩|⟨b',m',hb',rfl,_,_⟩
    ·cases hb
    ·cases hb; exact hb'
   rw[uB.ne om];refine kB b om λb' m' hb' e=>?_;have:=ia.lt hb';omega
  ·rcases iB with ⟨rfl,_⟩|⟨b',m',hb',rfl,_,_⟩
   ·cases hb
   ·cases hb; omega
  ·rcases pI with ⟨rfl,_⟩|⟨b',m',hb',rfl,_,_⟩
   ·cases hb
   ·cases hb; omega
  ·rcases iB with ⟨rfl,_⟩|⟨b',m',hb',rfl,_,_⟩
   ·cases hb
   ·cases hb; omega
  ·rcases pI with ⟨rfl,_⟩|⟨b',m',hb',rfl,_,_⟩
   ·cases hb
   ·cases hb; omega
 have p:¬ (dI x row).1<0:=aZ p;refine bu ?_;obtain⟨lo,hlo⟩:∃ lo:Nat,(dI x row).1=lo:=⟨(dI x row).1.toNat,om⟩
 obtain⟨hi,hhi⟩:∃ hi:Nat,(dI x row).2.1=hi:=⟨(dI x row).2.1.toNat,om⟩
 rw[hlo] at e12;rw[hhi] at e13;have wl:IntKind.i64.wrap (((hi:Nat):Int)-1+1)=((hi:Nat):Int):=by rw[fD om om]; omega
 have hlm:loM x row=lo:=by unfold loM; omega
 have hgone:kO x row=(row.drop lo).take (hi-lo):=by unfold kO; rw[hlm,hhi]; rfl
 have hnext:ij es x outs row=row.take lo++eF es x outs++row.drop hi:=by unfold ij; rw[hlm,hhi]; rfl
 have x10:Ext hA.next hA (hA.new (.cells [] 3 false)):=Mt (ab _);obtain⟨v1,s1,t1,_⟩:=(rowA.ext x10 (ab _)).part (lo:=lo) (hi:=hi) om (by rw[ai]; omega);obtain⟨v1',s1',t1',_⟩:=rowA.part (lo:=lo) (hi:=hi) om (by rw[ai]; omega);have hvv:v1=v1':=by
  have e1:slV (hA.new (.cells [] 3 false)) 3 rv (some (.int .i64 (lo:Nat))) (some (.int .i64 (hi:Nat))) none=slV hA 3 rv (some (.int .i64 (lo:Nat))) (some (.int .i64 (hi:Nat))) none:=by
   rcases rowA with ⟨_,rfl|rfl⟩|⟨b,o,c,cs,ro,rfl,hg,_⟩
   ·rfl
   ·rfl
   ·simp only[slV,x10.gt _ (AH.lt_of_get hg)]
  rw[e1,s1'] at s1;exact (Option.some.inj s1).symm
 subst hvv;rw[← fT,← fS] at t1';obtain⟨gv,hB,aB,iB,xB,_⟩:=oJ (bytes:=24) t1' (by rw[oX]; exact pj) (by rw[ai,aS,cz]; unfold aW; omega) (by rw[ai,aS,cz]; unfold aW; omega);rw[oX,← hgone] at iB;have rA':ak (hA.new (.cells [] 3 false)) fb 2 1=some [rv]:=by rw[bK (x10.gt _ om)]; exact rA
 refine ae (aj (by simp only[am,aK,simprocAttr,e0,e12,e13,rA',wl,dH,bT,s1,aB]<;>rfl) ?_);have nB:=xB.nx;have rowB:=rowA.ext xB (ab _);have x11:Ext hB.next hB (hB.new (.cells [] 3 false)):=Mt (ab _);obtain⟨v2,s2',t2,_⟩:=rowB.upto (hi:=lo) (by rw[ai]; omega);have s2'':slV (hB.new (.cells [] 3 false)) 3 rv none (some (.int .i64 (lo:Nat))) none=some v2:=by
  rw[← s2'];rcases rowB with ⟨_,rfl|rfl⟩|⟨b,o,c,cs,ro,rfl,hg,_⟩
  ·rfl
  ·rfl
  ·simp only[slV,x11.gt _ (AH.lt_of_get hg)]
 rw[← fS] at t2;obtain⟨nv,hC,aC,iC,xC,_⟩:=oJ (bytes:=24) t2 (by rw[oX]; exact pj) (by rw[ai,aS]; unfold aW; omega) (by rw[ai,aS]; unfold aW; omega);rw[oX] at iC;have rB':ak (hB.new (.cells [] 3 false)) fb 2 1=some [rv]:=by rw[bK (x11.gt _ om),bK (xB.gt _ om)]; exact rA
 refine ae (aj (by simp only[am,aK,simprocAttr,e0,e12,rB',dH,bT,s2'',aC]<;>rfl) ?_);have nC:=xC.nx;have XC:=xB.trans (xC.mono nB);have rowC:=rowB.ext xC (ab _);have iaC:=iaA.ext XC (ab _);have saC:SlT hC av (eF es x outs):=Mq om (λ_=>rfl) iaC;have hln:((row.take lo).flatMap eT).length / 3=lo:=by
  rw[dC (f:=eT) (e:=3) (λ_=>rfl),cN _ om,aS,cy om]
 obtain⟨nv2,hD,aD,iD,xD,nD,kD,tD⟩:=xX iC (bytes:=24) nC om saC (by rw[oX]; exact pj) (by rw[hln,ai]; unfold aW; omega) (by rw[hln,ai]; unfold aW; omega);rw[oX,← bC] at iD;have rC:ak hC fb 2 1=some [rv]:=by rw[bK (XC.gt _ om)]; exact rA
 have rD:ak hD fb 2 1=some [rv]:=by rw[bK (xD.gt _ om)]; exact rC
 obtain⟨v3,s3,t3,_⟩:=rowC.from (lo:=hi) (by rw[ai]; omega);have hrl:∀ b o m c,rv=.sl b o m c→b<hB.next:=λb o m c hb=>by have:=rowA.lt hb; omega
 have s3':slV hD 3 rv (some (.int .i64 (hi:Nat))) none none=some v3:=by
  rw[← s3];rcases rowC with ⟨_,rfl|rfl⟩|⟨b,o,c,cs,ro,rfl,hg,_⟩
  ·rfl
  ·rfl
  ·simp only[slV,xD.gt _ (hrl _ _ _ _ rfl)]
 have rowD:SlT hD rv row:=rowC.cong λb o m c hb=>xD.gt b (hrl b o m c hb);obtain⟨v3',s3'',t3',_⟩:=rowD.from (lo:=hi) (by rw[ai]; omega);rw[s3'] at s3'';cases s3'';have same3:=sG t3';have samer:=sG rowD;rw[← fT] at t3';have hl4:((row.take lo++eF es x outs).flatMap eT).length / 3=lo+(eF es x outs).length:=by
  rw[dC (f:=eT) (e:=3) (λ_=>rfl),cN _ om,aN,aS,cy om]
 obtain⟨rv',hE,aE,iE,xE,nE,kE,tE⟩:=xX iD (bytes:=24) om om t3' (by rw[oX]; exact pj) (by rw[hl4,ai,cz]; unfold aW; omega) (by rw[hl4,ai,cz]; unfold aW; omega);rw[oX,← bC,← hnext] at iE;have xCE:Ext hB.next hC hE:=xD.trans xE;have gE:hE.get fb=some (.cells [.int .i64 (n:Nat),ev,rv,p2] 4 false):=by rw[xCE.gt _ om,XC.gt _ om]; exact u.get
 have wE:bQ hE fb 2 [rv']=some (hE.put fb (.cells [.int .i64 (n:Nat),ev,rv',p2] 4 false)):=by rw[dp gE]; rfl
 have uE:=Mv (o:=.cells [.int .i64 (n:Nat),ev,rv',p2] 4 false) gE;obtain⟨rc,ro⟩:=iE.cells;refine ae (aj (by simp only[am,aK,simprocAttr,e0,e10,e13,rC,rD,wl,dH,bT,s3,s3',same3,samer,aD,aE,wE,rc,ro]<;>rfl) ?_);refine ae (aj (M0) ?_);have hnE:(hE.put fb (.cells [.int .i64 (n:Nat),ev,rv',p2] 4 false)).next=hE.next:=rfl;generalize hE.put fb (.cells [.int .i64 (n:Nat),ev,rv',p2] 4 false)=hF at *
 have low:∀ c,c<hB.next→c≠fb→hF.get c=hB.get c:=λc hc hn=>by rw[uE.ne hn,xCE.gt _ hc,xC.gt _ hc]
 refine br ⟨.tup [gv,.int .i64 0],(by simp only[rs,rf123,am,aK,simprocAttr]<;>rfl),?_⟩;rw[if_pos q];refine⟨gv,rv',p2,rfl,?_,λb o m c hb=>?_,⟨uE.get,?_,?_,?_,hr.oe,λb o m c hb=>?_,λb o m c hb=>?_,hr.hm⟩,λb o m c hb=>?_,λb o m c hb=>?_,?_⟩
 ·refine (Mq om (λ_=>rfl) iB:SlT hB gv _).cong λb o m c hb=>low b (iB.lt hb) ?_;rcases iB with ⟨rfl,_⟩|⟨b',m',hb',rfl,_,_⟩
  ·cases hb
  ·cases hb; omega
 ·rcases iB with ⟨rfl,_⟩|⟨b',m',hb',rfl,_,_⟩
  ·cases hb
  ·cases hb; omega
 ·exact evA.cong λb o m c hb=>by rw[low b (by have:=evA.lt hb; omega) (hr.oe b o m c hb),xB.gt _ (evA.lt hb)]
 ·refine (Mq om (λ_=>rfl) iE:SlT hE rv' _).cong λb o m c hb=>uE.ne ?_;rcases iE with ⟨rfl,_⟩|⟨b',m',hb',rfl,_,_⟩
  ·cases hb
  ·cases hb; omega
 ·refine (Mq om (λ_=>rfl) pI:SlI hA p2 _).cong λb o m c hb=>?_;have hpb:=pI.lt hb;rw[low b om ?_,xB.gt _ hpb];rcases pI with ⟨rfl,_⟩|⟨b',m',hb',rfl,_,_⟩
  ·cases hb
  ·cases hb; omega
 ·rcases iE with ⟨rfl,_⟩|⟨b',m',hb',rfl,_,_⟩
  ·cases hb
  ·cases hb; omega
 ·rcases pI with ⟨rfl,_⟩|⟨b',m',hb',rfl,_,_⟩
  ·cases hb
  ·cases hb; omega
 ·rcases iE with ⟨rfl,_⟩|⟨b',m',hb',rfl,_,_⟩
  ·cases hb
  ·cases hb; omega
 ·rcases pI with ⟨rfl,_⟩|⟨b',m',hb',rfl,_,_⟩
  ·cases hb
  ·cases hb; omega
 ·refine⟨by have:=xCE.nx; omega,λc hc hn=>?_,λc hc=>?_⟩
  ·rw[low c om hn,xB.gt _ om];exact KA.gt c hc hn
  ·rw[uE.ty,xCE.ty _ om,XC.ty _ om];exact KA.ty c hc
open Go.Am
def oh (outs:List (List Int)) (x k:Nat) (i:Int):Prop:=(∃ y,y<x∧i∈outs.getD y [])∨i∈(outs.getD x []).take k
structure CntI (es:List (Int×Int)) (outs:List (List Int)) (x k:Nat) (cs:List Int):Prop where
 len:cs.length=es.length
 one:∀ i:Nat,i<es.length→oh outs x k ((i:Nat):Int)→cs.getD i 0=1
 zero:∀ i:Nat,i<es.length→¬ oh outs x k ((i:Nat):Int)→cs.getD i 0=0
 old:∀ y,y<x→(outs.getD y []).Nodup∧∀ i∈outs.getD y [],i∈dz es ((y:Nat):Int)
 now:((outs.getD x []).take k).Nodup∧∀ i∈(outs.getD x []).take k,i∈dz es ((x:Nat):Int)
theorem CntI.start {es:List (Int×Int)}{outs:List (List Int)}:CntI es outs 0 0 (List.replicate es.length 0) where
 len:=by simp
 one:=λi hi hd=>by
  rcases hd with ⟨y,hy,_⟩|hd
  ·omega
  ·simp at hd
 zero:=λi hi _=>by rw[aL,cA,if_pos hi]; rfl
 old:=λy hy=>by omega
 now:=by simp
theorem CntI.row {es:List (Int×Int)}{outs:List (List Int)}{x:Nat}{cs:List Int} (c:CntI es outs x (outs.getD x []).length cs):CntI es outs (x+1) 0 cs:=by
 have hd:∀ i,oh outs (x+1) 0 i↔oh outs x (outs.getD x []).length i:=λi=>by
  unfold oh;rw[bp];constructor
  ·rintro (⟨y,hy,hi⟩|hi)
   ·by_cases e:y=x
    ·subst e; exact .inr hi
    ·exact .inl ⟨y,om,hi⟩
   ·simp at hi
  ·rintro (⟨y,hy,hi⟩|hi)
   ·exact .inl ⟨y,om,hi⟩
   ·exact .inl ⟨x,om,hi⟩
 refine⟨c.len,λi hi h=>c.one i hi ((hd _).1 h),λi hi h=>c.zero i hi λh'=>h ((hd _).2 h'),λy hy=>?_,by simp⟩;by_cases e:y=x
 ·subst e;have:=c.now;rwa [bp] at this
 ·exact c.old y om
theorem vd {es:List (Int×Int)}{i y z:Int} (h1:i∈dz es y) (h2:i∈dz es z):y=z:=by
 obtain⟨k,rfl,t,ht⟩:=fw.1 h1;obtain⟨k',hk,t',ht'⟩:=fw.1 h2;have:k'=k:=om;subst this;rw[ht] at ht';simp only[aa,ar] at ht';exact ht'.1
theorem CntI.step {es:List (Int×Int)}{outs:List (List Int)}{x k v:Nat}{cs:List Int} (c:CntI es outs x k cs) (hk:k<(outs.getD x []).length) (hv:(outs.getD x [])[k]=((v:Nat):Int)) (hvl:v<es.length) (ht:es[v].1=((x:Nat):Int)) (h0:cs.getD v 0=0):CntI es outs x (k+1) (cs.set v 1):=by
 have hm:((v:Nat):Int)∈dz es ((x:Nat):Int):=fw.2 ⟨v,rfl,es[v].2,by rw[aq hvl,← ht]⟩;have htk:(outs.getD x []).take (k+1)=(outs.getD x []).take k++[((v:Nat):Int)]:=by rw[aG hk,hv]
 have hnew:¬ oh outs x k ((v:Nat):Int):=λhd=>by have:=c.one v hvl hd; omega
 have hd:∀ i,oh outs x (k+1) i↔oh outs x k i∨i=((v:Nat):Int):=λi=>by
  unfold oh;rw[htk,aV];simp only[aA,bq,or_false,or_assoc]
 have hset:∀ i:Nat,(cs.set v 1).getD i 0=if v=i then 1 else cs.getD i 0:=λi=>pY (by rw[c.len]; exact hvl)
 refine⟨by rw[ct,c.len],λi hi h=>?_,λi hi h=>?_,c.old,?_⟩
 ·rw[hset];split
  ·rfl
  ·rename_i hne
   rcases (hd _).1 h with h|h
   ·exact c.one i hi h
   ·omega
 ·rw[hset,if_neg (λe=>h ((hd _).2 (.inr om)))];exact c.zero i hi λh'=>h ((hd _).2 (.inl h'))
 ·rw[htk];refine⟨?_,λi hi=>?_⟩
  ·rw[bV];refine⟨c.now.1,by simp,λa ha b hb e=>?_⟩;simp only[aA,bq,or_false] at hb;subst hb;exact hnew (.inr (e▸ha))
  ·rcases aV.1 hi with hi|hi
   ·exact c.now.2 i hi
   ·simp only[aA,bq,or_false] at hi;subst hi;exact hm
theorem CntI.done {n:Nat}{es:List (Int×Int)}{outs:List (List Int)}{cs:List Int} (c:CntI es outs n 0 cs) (hall:∀ i:Nat,i<es.length→cs.getD i 0≠0):∀ x:Nat,x<n→OutsOk es x (outs.getD x []):=by
 intro x hx;obtain⟨nd,sub⟩:=c.old x hx;have sup:∀ i∈dz es ((x:Nat):Int),i∈outs.getD x []:=λi hi=>by
  obtain⟨k,rfl,t,ht⟩:=fw.1 hi;have hk:=(aI.1 ht).1;by_cases hd:oh outs n 0 ((k:Nat):Int)
  ·rcases hd with ⟨y,hy,hm⟩|hd
   ·have:=vd hi ((c.old y hy).2 _ hm);have:x=y:=om;subst this;exact hm
   ·simp at hd
  ·exact absurd (c.zero k hk hd) (hall k hk)
 refine kH nd sub ?_;have h1:=nH nd sub;have h2:=nH (hM (λe=>decide (e.1=((x:Nat):Int))) es 0) sup;exact Nat.le_antisymm h2 h1
theorem PlanP.tail {n:Nat}{es:List (Int×Int)}{order:List Int}{outs:List (List Int)} (hP:PlanP n es order outs) (he:es.all (okE n)=true) {i:Nat} (hi:i<es.length):∃ y:Nat,y<n∧((i:Nat):Int)∈outs.getD y []:=by
 obtain⟨a,b,hab,ha,_⟩:=mw (bD.1 he _ (aP hi));exact⟨a,ha,(hP.2.2 a ha).mem.2 (fw.2 ⟨i,rfl,_,by rw[aq hi,hab]⟩)⟩
theorem GD {h:AH}{n:Nat} (hn:n≤200):uQ h [.int .i64 0] 1 8 (.int .i64 (n:Nat)) (.int .i64 (n:Nat))=some (.sl h.next 0 n n,h.new (.cells ((List.replicate n (0:Int)).flatMap eI) 1 false)):=by
 rw[kK (by unfold aW; omega) (by unfold aW; omega),fq,mD,List.map_replicate]
theorem LK {h:AH}{n:Int}{ev ordv outv:AV}{es:List (Int×Int)}{order:List Int}{outs:List (List Int)} (he:SlE h ev es) (hl0:es.length<2 ^ 30) (hp:SlI h ordv order) (hq:SlL h outv outs) (hl:order.length≤200) (hl2:outs.length≤200) (hl3:∀ l∈outs,l.length≤200) :
 C prg 122 [.agg [.int .i64 n,ev],.agg [ordv,outv]] h λr h'=>(∃ b,r=.bool b∧(b=true↔gJ n es∧PlanP n.toNat es order outs))∧Ext h.next h h':=by
 obtain⟨ec,eo⟩:=he.cells;obtain⟨oc,oo⟩:=hp.cells;obtain⟨qc,qo⟩:=hq.cells;have el:=he.len;rw[ai] at el;have lq:=hq.len;refine Mw pf122 ?_;refine ae (aj (Mi0) ?_);have ga:∀ c,((h.new (.cells [.int .i64 n,ev] 2 false)).new (.cells [ordv,outv] 2 false)).get c=if c=h.next+1 then some (.cells [ordv,outv] 2 false) else if c=h.next then some (.cells [.int .i64 n,ev] 2 false) else h.get c:=λc=>by
  rw[AH.get_new,AH.get_new];rfl
 have x0:Ext h.next h ((h.new (.cells [.int .i64 n,ev] 2 false)).new (.cells [ordv,outv] 2 false)):=(Mt (ab _)).trans (Mt (by simp));have n0:((h.new (.cells [.int .i64 n,ev] 2 false)).new (.cells [ordv,outv] 2 false)).next=h.next+2:=rfl;generalize ((h.new (.cells [.int .i64 n,ev] 2 false)).new (.cells [ordv,outv] 2 false))=h1 at *
 have gG:h1.get h.next=some (.cells [.int .i64 n,ev] 2 false):=by rw[ga,if_neg om,if_pos rfl]
 have gP:h1.get (h.next+1)=some (.cells [ordv,outv] 2 false):=by rw[ga,if_pos rfl]
 have rG:ak h1 h.next 0 2=some [.int .i64 n,ev]:=by rw[aU gG]; rfl
 refine ae (ae (bN (bo 1 (Mi1 rG) rfl (Zi1 rG) (Mi1 rG) (Ga (he.ext x0 (ab _)) hl0) λr h2 hq'=>?_)));obtain⟨⟨bg,rfl,hbg⟩,x2⟩:=hq';have X2:=x0.trans (x2.mono x0.nx);have n2:=x2.nx;cases bg with
 | false =>
   refine eW 6 (M0) rfl (Z0) ?_;refine bH (M0) ?_;refine db (Z0) (ae (aj (M0) ?_));exact br ⟨.bool false,(by simp only[rs,rf122,am,aK,simprocAttr]<;>rfl),⟨false,rfl,⟨λh=>(by cases h),λhh=>by have:=hbg.2 hh.1; cases this⟩⟩,X2⟩
 | true =>
 have hgood:=hbg.1 rfl;have hm:=hgood.1;obtain⟨nn,rfl⟩:∃ nn:Nat,n=nn:=⟨n.toNat,by
  simp only[fy,aM,aJ] at hm; omega⟩
 obtain⟨m1,m2,m3,m4⟩:=iQ hm;rw[aY];have gG2:h2.get h.next=some (.cells [.int .i64 (nn:Nat),ev] 2 false):=by rw[x2.gt _ om]; exact gG
 have gP2:h2.get (h.next+1)=some (.cells [ordv,outv] 2 false):=by rw[x2.gt _ om]; exact gP
 have rn:ak h2 h.next 0 1=some [.int .i64 (nn:Nat)]:=bm gG2 rfl;have re:ak h2 h.next 1 1=some [ev]:=bm gG2 rfl;have ra:ak h2 (h.next+1) 0 1=some [ordv]:=bm gP2 rfl;have rb:ak h2 (h.next+1) 1 1=some [outv]:=bm gP2 rfl;refine bo 6 (Mi2 rn ra) rfl (Zi2 rn ra) (Mi2 rn ra) (Ge (hp.ext X2 (ab _)) om (by omega:nn<2 ^ 40)) λr h3 hq'=>?_;obtain⟨⟨be,rfl,hbe⟩,rfl⟩:=hq';cases be with
 | false =>
   refine bH (M0) ?_;refine db (Z0) (ae (aj (M0) ?_));exact br ⟨.bool false,(by simp only[rs,rf122,am,aK,simprocAttr]<;>rfl),⟨false,rfl,⟨λh=>(by cases h),λhh=>by have:=hbe.2 hh.2.1; cases this⟩⟩,X2⟩
 | true =>
 have hperm:=hbe.1 rfl;refine bH (Mi3 rb rn lq) ?_;refine cr (t:=!decide (outs.length=nn)) (by simp only[am,aK,simprocAttr]; exact congrArg AV.bool (by congr 1; simp only[decide_eq_decide]; omega)) (λq=>?_) λq=>?_
 ·have q:¬ outs.length=nn:=by simpa using q
  refine ae (aj (M0) ?_);exact br ⟨.bool false,(by simp only[rs,rf122,am,aK,simprocAttr]<;>rfl),⟨false,rfl,⟨λh=>(by cases h),λhh=>absurd hh.2.2.1 q⟩⟩,X2⟩
 have q:outs.length=nn:=by simpa using q
 refine bu ?_;refine ae (aj (by simp only[am,aK,simprocAttr,bS,re,el,GD (show es.length≤200 by omega)]<;>rfl) ?_);have x4:Ext h3.next h3 (h3.new (.cells ((List.replicate es.length (0:Int)).flatMap eI) 1 false)):=Mt (ab _);have g4:(h3.new (.cells ((List.replicate es.length (0:Int)).flatMap eI) 1 false)).get h3.next=some (.cells ((List.replicate es.length (0:Int)).flatMap eI) 1 false):=by rw[AH.get_new,if_pos rfl]
 have n4:(h3.new (.cells ((List.replicate es.length (0:Int)).flatMap eI) 1 false)).next=h3.next+1:=rfl;generalize h3.new (.cells ((List.replicate es.length (0:Int)).flatMap eI) 1 false)=h4 at *
 have hq2:=hq.ext X2;have he2:=he.ext X2 (ab _);have keepP:∀ {h':AH},Ext h3.next h3 h'→ak h' (h.next+1) 1 1=some [outv]:=λhx=>by rw[bK (hx.gt _ om)]; exact rb
 have keepE:∀ {h':AH},Ext h3.next h3 h'→ak h' h.next 1 1=some [ev]:=λhx=>by rw[bK (hx.gt _ om)]; exact re
 refine ae (ae (aj (Mi0) ?_))
 refine dV (α:=List Int) (N:=outs.length) (λk _=>[(2,.ptr h.next 0),(3,.ptr (h.next+1) 0),(5,.sl h3.next 0 es.length es.length),(6,.int .i64 (k:Nat))]) (λk a h'=>CntI es outs k 0 a∧h'.get h3.next=some (.cells (a.flatMap eI) 1 false)∧Ext h3.next h3 h') (List.replicate es.length 0) (Oi1 @bh)
  ⟨CntI.start,g4,x4⟩ ?_ ?_ ?_
 ·rintro k a ts h5 hk ⟨j1,j2,jx⟩ ⟨e2,e3,e5,e6,-⟩;simp only at e2 e3 e5 e6;exact⟨_,(J5 e3 e6 (keepP jx) lq @bz),I0,O4 e2 e3 e5 e6⟩
 ·rintro k a ts h5 hk ⟨j1,j2,jx⟩ ⟨e2,e3,e5,e6,-⟩;simp only at e2 e3 e5 e6;have w1:=dT (k:=k) om;have hgd:outs.getD k []=outs[k]:=sM hk;have hlk:=hl3 _ (aP hk);refine ae (aj (M0) ?_)
  refine dV (α:=List Int) (N:=outs[k].length) (λj _=>[(2,.ptr h.next 0),(3,.ptr (h.next+1) 0),(5,.sl h3.next 0 es.length es.length),(6,.int .i64 (k:Nat)),(7,.int .i64 (j:Nat))]) (λj a h'=>CntI es outs k j a∧h'.get h3.next=some (.cells (a.flatMap eI) 1 false)∧Ext h3.next h3 h') a (O5 e2 e3 e5 e6 @bh)
   ⟨j1,j2,jx⟩ ?_ ?_ ?_
  ·rintro j a ts h6 hj ⟨i1,i2,ix⟩ ⟨e2,e3,e5,e6,e7,-⟩;simp only at e2 e3 e5 e6 e7;obtain⟨b1,p1,w,a1,r1,sw,_⟩:=(hq2.ext ix).at hk;have lw:=sw.len;rw[ai] at lw;exact⟨_,(J8 e3 e6 e7 (keepP ix) a1 r1 lw @bz),I0,O5 e2 e3 e5 e6 e7⟩
  ·rintro j a ts h6 hj ⟨i1,i2,ix⟩ ⟨e2,e3,e5,e6,e7,-⟩;simp only at e2 e3 e5 e6 e7;have X6:Ext h.next h h6:=X2.trans (ix.mono om);obtain⟨b1,p1,w,a1,r1,sw,_⟩:=(hq2.ext ix).at hk;obtain⟨b2,p2,a2,r2,_⟩:=sw.at1 (cq (f:=eI) hj);have w2:=dT (k:=j) om;have hmem:outs[k][j]∈outs.getD k []:=by rw[hgd]; exact aP hj
   refine ae (aj (M8 e3 e6 e7 (keepP ix) a1 r1 a2 r2) ?_);have bad:(PlanP nn es order outs→False)→C prg 122 [] h6 (λ_ _=>True)∨True:=λ_=>.inr trivial;by_cases q1:outs[k][j]<0
   ·have c1:decide (outs[k][j]<0)=true:=aH q1;refine ae (ae (aj (M1 c1) ?_));refine db (Z0) (ae (aj (M0) ?_));refine br ⟨.bool false,(by simp only[rs,rf122,am,aK,simprocAttr]<;>rfl),⟨false,rfl,⟨λh=>(by cases h),λhh=>?_⟩⟩,X6⟩;exfalso;obtain⟨kk,hkk,_⟩:=fw.1 ((hh.2.2.2 k om).mem.1 hmem);omega
   have c1:decide (outs[k][j]<0)=false:=aw q1;obtain⟨v,hv⟩:∃ v:Nat,outs[k][j]=v:=⟨outs[k][j].toNat,om⟩
   rw[hv] at c1 hmem ⊢;by_cases q2:((es.length:Nat):Int)≤((v:Nat):Int)
   ·have c2:decide (((es.length:Nat):Int)≤((v:Nat):Int))=true:=aH q2;refine ae (ae (aj (M3 e5 c1 c2) ?_));refine db (Z0) (ae (aj (M0) ?_));refine br ⟨.bool false,(by simp only[rs,rf122,am,aK,simprocAttr]<;>rfl),⟨false,rfl,⟨λh=>(by cases h),λhh=>?_⟩⟩,X6⟩;exfalso;obtain⟨kk,hkk,t,ht⟩:=fw.1 ((hh.2.2.2 k om).mem.1 hmem);have:=(aI.1 ht).1;omega
   have c2:decide (((es.length:Nat):Int)≤((v:Nat):Int))=false:=aw q2;have hvl:v<es.length:=om;obtain⟨b3,p3,a3,_,rr3,_⟩:=(he2.ext ix (ab _)).at (cq (f:=eE) hvl);have r3:ak h6 b3 p3 1=some [.int .i64 es[v].1]:=rr3 0 _ rfl;by_cases q3:es[v].1=((k:Nat):Int)
   case neg =>
    have c3:decide (es[v].1=((k:Nat):Int))=false:=aw q3;refine ae (ae (aj (M10 e2 e5 e6 (keepE ix) a3 r3 c1 c2 c3 c3) ?_));refine db (Z0) (ae (aj (M0) ?_));refine br ⟨.bool false,(by simp only[rs,rf122,am,aK,simprocAttr]<;>rfl),⟨false,rfl,⟨λh=>(by cases h),λhh=>?_⟩⟩,X6⟩;exfalso;obtain⟨kk,hkk,t,ht⟩:=fw.1 ((hh.2.2.2 k om).mem.1 hmem);have:kk=v:=om;subst this;rw[aq hvl] at ht;simp only[aa] at ht;exact q3 (by rw[ht])
   have c3:decide (es[v].1=((k:Nat):Int))=true:=aH q3;have iv:eR ((v:Nat):Int) es.length=some v:=cJ hvl;have r4:ak h6 h3.next v 1=some [.int .i64 (a.getD v 0)]:=bm i2 (Im (by rw[i1.len]; exact hvl));by_cases q4:oh outs k j ((v:Nat):Int)
   ·have h1:=i1.one v hvl q4;have c4:decide ((0:Int)<a.getD v 0)=true:=aH om;refine ae (ae (aj (by simp only[am,aK,simprocAttr,e2,e5,e6,keepE ix,a3,r3,iv,r4,aO,c1,c2,c3,c4]<;>rfl) ?_));refine db (Z0) (ae (aj (M0) ?_));refine br ⟨.bool false,(by simp only[rs,rf122,am,aK,simprocAttr]<;>rfl),⟨false,rfl,⟨λh=>(by cases h),λhh=>?_⟩⟩,X6⟩;exfalso;have hok:=hh.2.2.2 k om;rcases q4 with ⟨y,hy,hm'⟩|hm'
    ·have:=vd ((i1.old y hy).2 _ hm') (hok.mem.1 hmem);omega
    ·have hnd:=hok.nodup;rw[hgd] at hnd hm';rw[← cD j outs[k],bX hj,bV] at hnd;exact hnd.2.2 _ hm' _ (bd ..) hv.symm
   ·have h1:=i1.zero v hvl q4;have c4:decide ((0:Int)<a.getD v 0)=false:=aw om;have w6:bQ h6 h3.next v [.int .i64 1]=some (h6.put h3.next (.cells ((a.set v 1).flatMap eI) 1 false)):=by rw[eA i2 (by rw[dS,i1.len]; exact hvl),AD]
    have u:=Mv (o:=.cells ((a.set v 1).flatMap eI) 1 false) i2;refine ae (ae (aj (by simp only[am,aK,simprocAttr,e2,e5,e6,keepE ix,a3,r3,iv,r4,aO,c1,c2,c3,c4]<;>rfl) ?_));refine dL (Z0) (bu (aj (by simp only[am,aK,simprocAttr,e5,iv,aO,w6]<;>rfl) ?_));refine⟨a.set v 1,⟨i1.step (by rw[hgd]; exact hj) (by simp only[hgd,hv]) hvl q3 h1,u.get,ix.trans (u.ext (ab _))⟩,_,(J2 e7 w2),O4 e2 e3 e5 e6⟩
  ·rintro a ts h6 ⟨i1,i2,ix⟩ ⟨e2,e3,e5,e6,e7,-⟩;simp only at e2 e3 e5 e6;refine⟨a,⟨CntI.row (by rw[hgd]; exact i1),i2,ix⟩,_,(J2 e6 w1),O3 e2 e3 e5⟩
 rintro a ts h5 ⟨j1,j2,jx⟩ ⟨e2,e3,e5,e6,-⟩;simp only at e5;rw[q] at j1;have X5:Ext h.next h h5:=X2.trans (jx.mono om);refine ae (ae (aj (M0) ?_));refine dV (α:=Unit) (N:=es.length) (λk _=>[(5,.sl h3.next 0 es.length es.length),(9,.int .i64 (k:Nat))]) (λk _ h'=>h'=h5∧∀ i:Nat,i<k→a.getD i 0≠0) () (O2 e5 @bh) ⟨rfl,λi hi=>absurd hi om⟩ ?_ ?_ ?_
 ·rintro k _ ts h6 hk ⟨rfl,i1⟩ ⟨e5,e9,-⟩;simp only at e5 e9;exact⟨_,(J3 e5 e9 @bz),I0,O2 e5 e9⟩
 ·rintro k _ ts h6 hk ⟨rfl,i1⟩ ⟨e5,e9,-⟩;simp only at e5 e9;have ik:eR ((k:Nat):Int) es.length=some k:=cJ hk;have r4:ak h6 h3.next k 1=some [.int .i64 (a.getD k 0)]:=bm j2 (Im (by rw[j1.len]; exact hk));have w1:=dT (k:=k) om;refine ae (aj (M5 e5 e9 ik r4 @aO) ?_);refine cr (t:=decide (a.getD k 0=0)) (Z0) (λp=>?_) λp=>?_
  ·have p:a.getD k 0=0:=aR p;refine ae (aj (M0) ?_);refine br ⟨.bool false,(by simp only[rs,rf122,am,aK,simprocAttr]<;>rfl),⟨false,rfl,⟨λh=>(by cases h),λhh=>?_⟩⟩,X5⟩;exfalso;obtain⟨y,hy,hm'⟩:=hh.2.tail m4 hk;have:=j1.one k hk (.inl ⟨y,hy,hm'⟩);omega
  ·have p:¬ a.getD k 0=0:=aZ p;refine bu ⟨(),⟨rfl,λi hi=>?_⟩,_,(J2 e9 w1),O1 e5⟩;by_cases e:i=k
   ·subst e; exact p
   ·exact i1 i om
 ·rintro _ ts h6 ⟨rfl,i1⟩ ⟨e5,e9,-⟩;refine ae (aj (M0) ?_);exact br ⟨.bool true,(by simp only[rs,rf122,am,aK,simprocAttr]<;>rfl),⟨true,rfl,⟨λ_=>⟨hgood,hperm,q,j1.done i1⟩,λ_=>rfl⟩⟩,X5⟩
open Go.Am
theorem wX {n:Nat}{es:List (Int×Int)} (hl:(je n es).length≤1):∀ a b:Nat,a<n→b<n→(dg es a).length=0→(dg es b).length=0→a=b:=by
 intro a b ha hb h1 h2;refine Decidable.byContradiction λhne=>?_;have mem:∀ c:Nat,c<n→(dg es c).length=0→((c:Nat):Int)∈je n es:=λc hc h=>by
  unfold je;exact bB.2 ⟨c,bj.2 ⟨bF.2 hc,by simpa using h⟩,rfl⟩
 have:=nH (l:=[((a:Nat):Int),((b:Nat):Int)]) (m:=je n es) (by simp; omega) (λx hx=>by
  simp only[aA,bq,or_false] at hx;rcases hx with rfl|rfl
  ·exact mem a ha h1
  ·exact mem b hb h2)
 simp only[bf,bt] at this;omega
theorem JE {h:AH}{n:Int}{ev ordv outv:AV}{es:List (Int×Int)}{order:List Int}{outs:List (List Int)} (he:SlE h ev es) (hl0:es.length<2 ^ 30) (hp:SlI h ordv order) (hq:SlL h outv outs) (hl:order.length≤200) (hl2:outs.length≤200) (hl3:∀ l∈outs,l.length≤200) :
 C prg 66 [.agg [.int .i64 n,ev],.agg [ordv,outv]] h λr h'=>Ext h.next h h' ∧
   ((¬ (gJ n es∧PlanP n.toNat es order outs)∧r=.tup ([.nils,.nils]++tlR 1 0))∨((gJ n es∧PlanP n.toNat es order outs)∧RunR h' r n.toNat es order outs tlR)):=by
 obtain⟨ec,eo⟩:=he.cells;obtain⟨oc,oo⟩:=hp.cells;obtain⟨qc,qo⟩:=hq.cells;have lp:=hp.len;rw[ai] at lp;refine Mw pf66 ?_;refine ae (aj (Mi0) ?_);have ga:∀ c,((h.new (.cells [.int .i64 n,ev] 2 false)).new (.cells [ordv,outv] 2 false)).get c=if c=h.next+1 then some (.cells [ordv,outv] 2 false) else if c=h.next then some (.cells [.int .i64 n,ev] 2 false) else h.get c:=λc=>by
  rw[AH.get_new,AH.get_new];rfl
 have x0:Ext h.next h ((h.new (.cells [.int .i64 n,ev] 2 false)).new (.cells [ordv,outv] 2 false)):=(Mt (ab _)).trans (Mt (by simp));have n0:((h.new (.cells [.int .i64 n,ev] 2 false)).new (.cells [ordv,outv] 2 false)).next=h.next+2:=rfl;generalize ((h.new (.cells [.int .i64 n,ev] 2 false)).new (.cells [ordv,outv] 2 false))=h1 at *
 have gG:h1.get h.next=some (.cells [.int .i64 n,ev] 2 false):=by rw[ga,if_neg om,if_pos rfl]
 have gP:h1.get (h.next+1)=some (.cells [ordv,outv] 2 false):=by rw[ga,if_pos rfl]
 have rG:ak h1 h.next 0 2=some [.int .i64 n,ev]:=by rw[aU gG]; rfl
 have rP:ak h1 (h.next+1) 0 2=some [ordv,outv]:=by rw[aU gP]; rfl
 refine ae (ae (bN (bo 2 (Mi2 rG rP) rfl (Zi2 rG rP) (Mi2 rG rP) (LK (he.ext x0 (ab _)) hl0 (hp.ext x0 (ab _)) (hq.ext x0) hl hl2 hl3) λr h2 hq'=>?_)));obtain⟨⟨bb,rfl,hbb⟩,x2⟩:=hq';have X2:=x0.trans (x2.mono x0.nx);have n2:=x2.nx;refine bH (M0) ?_;cases bb with
 | false =>
   refine db (Z0) (ae (aj (M0) ?_));exact br ⟨.tup [.nils,.nils,.int .i64 1,.int .i64 0],(by simp only[rs,rf66,am,aK,simprocAttr]<;>rfl),X2,.inl ⟨λhh=>(by have:=hbb.2 hh; cases this),rfl⟩⟩
 | true =>
 obtain⟨hgood,hP⟩:=hbb.1 rfl;have hm:=hgood.1;obtain⟨nn,rfl⟩:∃ nn:Nat,n=nn:=⟨n.toNat,by
  simp only[fy,aM,aJ] at hm; omega⟩
 obtain⟨m1,m2,m3,m4⟩:=iQ hm;have hone:=wX hgood.2.2.2.2;rw[aY] at hP hone ⊢;refine dL (Z0) (bu ?_);have gG2:h2.get h.next=some (.cells [.int .i64 (nn:Nat),ev] 2 false):=by rw[x2.gt _ om]; exact gG
 have gP2:h2.get (h.next+1)=some (.cells [ordv,outv] 2 false):=by rw[x2.gt _ om]; exact gP
 have rG2:ak h2 h.next 0 2=some [.int .i64 (nn:Nat),ev]:=by rw[aU gG2]; rfl
 refine ae (aj (Mi1 rG2) ?_);have x3:Ext h2.next h2 (h2.new (.cells [.int .i64 (nn:Nat),ev,.nils,.nils] 4 false)):=Mt (ab _);have g3:(h2.new (.cells [.int .i64 (nn:Nat),ev,.nils,.nils] 4 false)).get h2.next=some (.cells [.int .i64 (nn:Nat),ev,.nils,.nils] 4 false):=by rw[AH.get_new,if_pos rfl]
 have n3:(h2.new (.cells [.int .i64 (nn:Nat),ev,.nils,.nils] 4 false)).next=h2.next+1:=rfl;generalize h2.new (.cells [.int .i64 (nn:Nat),ev,.nils,.nils] 4 false)=h3 at *
 have rn3:ak h3 h.next 0 1=some [.int .i64 (nn:Nat)]:=bm (by rw[x3.gt _ om]; exact gG2) rfl;refine ae (aj (by simp only[am,aK,simprocAttr,bS,rn3,tA m2]<;>rfl) ?_);have x4:Ext h3.next h3 (h3.new (.cells (cm [.nils] nn) 1 false)):=Mt (ab _);have g4:(h3.new (.cells (cm [.nils] nn) 1 false)).get h3.next=some (.cells (cm [.nils] nn) 1 false):=by rw[AH.get_new,if_pos rfl]
 have n4:(h3.new (.cells (cm [.nils] nn) 1 false)).next=h3.next+1:=rfl;generalize h3.new (.cells (cm [.nils] nn) 1 false)=h4 at *
 have Y4:Ext h2.next h2 h4:=x3.trans (x4.mono om);have X4:=X2.trans (Y4.mono X2.nx);have hf4:IsRef h4 h2.next nn es [] [] ev .nils .nils:=by
  have e2:=he.ext X2 (ab _);refine⟨by rw[x4.gt _ om]; exact g3,he.ext X4 (ab _),.inl ⟨rfl,.inl rfl⟩,.inl ⟨rfl,.inl rfl⟩,λb o m c hb=>?_,λb o m c hb=>(by cases hb),λb o m c hb=>(by cases hb),hm⟩;have:=e2.lt hb;omega
 obtain⟨hperm,hol,hout⟩:=hP;have hrl:(cm [AV.nils] nn).length=nn:=by rw[fq,cF]
 have keepP:∀ {h':AH},Ext h2.next h2 h'→h'.get (h.next+1)=some (.cells [ordv,outv] 2 false):=λhx=>by rw[hx.gt _ om]; exact gP2
 refine ae (ae (aj (Mi0) ?_))
 refine dV (α:=List It×List (List It)×List AV×AV×AV) (N:=order.length) (λk _=>[(3,.ptr (h.next+1) 0),(8,.ptr h2.next 0),(9,.sl h3.next 0 nn nn),(10,.int .i64 (k:Nat))])
  (λk a h'=>oM nn es outs (order.drop k) (order.take k) a.1 a.2.1 k=oM nn es outs order [] [] (List.replicate nn []) 0∧Inv nn es a.1 (order.take k)∧IsRef h' h2.next nn es a.1 (order.take k) ev a.2.2.2.1 a.2.2.2.2∧(∀ b o m c,a.2.2.2.1=.sl b o m c→h3.next<b)∧(∀ b o m c,a.2.2.2.2=.sl b o m c→h3.next<b) ∧
   h'.get h3.next=some (.cells a.2.2.1 1 false)∧a.2.2.1.length=nn∧a.2.1.length=nn ∧
   (∀ (i:Nat) (v:AV) (l:List It),a.2.2.1[i]?=some v→a.2.1[i]?=some l→SlT h' v l∧∀ b o m c,v=.sl b o m c→h3.next<b)∧Ext h2.next h2 h'∧h4.next≤h'.next∧a.1.length≤300*k)
  ([],List.replicate nn [],cm [.nils] nn,.nils,.nils) (Oi1 @bh)
  ⟨by simp,by simpa using Inv.start,by simpa using hf4,λb o m c hb=>(by cases hb),λb o m c hb=>(by cases hb),g4,hrl,by simp,λi v l h1 h2=>?_,Y4,ab _,by simp⟩ ?_ ?_ ?_
 ·simp only[fq] at h1;rw[cA] at h1 h2;split at h1
  ·rename_i hi
   rw[if_pos hi] at h2;simp only[aa] at h1 h2;subst h1 h2;exact⟨.inl ⟨rfl,.inl rfl⟩,λb o m c e=>by cases e⟩
  ·cases h1
 ·rintro k ⟨row,ends,ls,rv,pv⟩ ts h5 hk ⟨j1,jv,j2,jr,jp,j3,j4,j5,j6,jx,jn,jl⟩ ⟨e3,e8,e9,e10,-⟩;simp only at e3 e8 e9 e10;have ra:ak h5 (h.next+1) 0 1=some [ordv]:=bm (keepP jx) rfl;exact⟨_,(J5 e3 e10 ra lp @bz),I0,O4 e3 e8 e9 e10⟩
 ·rintro k ⟨row,ends,ls,rv,pv⟩ ts h5 hk ⟨j1,jv,j2,jr,jp,j3,j4,j5,j6,jx,jn,jl⟩ ⟨e3,e8,e9,e10,-⟩;simp only at e3 e8 e9 e10 j1 jv j2 jr jp j3 j4 j5 j6 jl;have X5:Ext h.next h h5:=X2.trans (jx.mono X2.nx);have w1:=dT (k:=k) om;have ra:ak h5 (h.next+1) 0 1=some [ordv]:=bm (keepP jx) rfl;have rb:ak h5 (h.next+1) 1 1=some [outv]:=bm (keepP jx) rfl;obtain⟨b1,p1,a1,r1,_⟩:=(hp.ext X5 (ab _)).at1 (cq (f:=eI) hk);have hxm:order[k]∈ju nn:=hperm.mem_iff.1 (aP hk);obtain⟨hx0,hx1⟩:=gf.1 hxm;obtain⟨x,hx⟩:∃ x:Nat,order[k]=x:=⟨order[k].toNat,om⟩
  rw[bX hk,vl] at j1;rw[hx] at r1 j1;have hxn:x<nn:=om;refine ae (aj (M5 e3 e10 ra a1 r1) ?_);obtain⟨b2,p2,w,a2,r2,sw,_⟩:=(hq.ext X5).at (k:=x) om;have hswl:∀ b o m c,w=.sl b o m c→b≠h2.next:=by
   intro b o m c hb;obtain⟨b2',p2',w',a2',r2',sw',_⟩:=(hq.ext X2).at (k:=x) om;rw[a2] at a2';cases a2';rw[bK (jx.gt _ (by assumption)),r2'] at r2;simp only[aa,cI,and_true] at r2;subst r2;have:=sw'.lt hb;omega
  have htl:(order.take k).length=k:=by rw[aS]; omega
  have hlk:=hl3 _ (aP (show x<outs.length by omega));have hgd:outs.getD x []=outs[x]'om:=sM om;have ho:=hout x hxn;rw[hgd] at ho;refine ae (bN (bo 7 (M5 e3 e8 rb a2 r2) rfl (Z5 e3 e8 rb a2 r2) (M5 e3 e8 rb a2 r2) (Dx (x:=((x:Nat):Int)) j2 sw hswl ho om om om) λr h6 hq'=>?_));rw[aY,hgd] at j1;have ix:eR ((x:Nat):Int) nn=some x:=cJ hxn;rw[Dw m4 jv] at hq';by_cases hrd:gu nn es row (order.take k) ((x:Nat):Int)=true
  ·rw[if_pos hrd] at hq' j1;obtain⟨gv,rv',pv',rfl,sg,hgb,hf6,hrb,hpb,K6⟩:=hq';have n6:=K6.nx;refine bH (M0) ?_;refine ae (ae (aj (M0) ?_));refine dL (by simp only[am,aK,simprocAttr,decide_true,decide_false]) (bu ?_);have hfb5:=AH.lt_of_get j2.g;have gE6:h6.get h3.next=some (.cells ls 1 false):=by rw[K6.gt _ om om]; exact j3
   obtain⟨gc,go⟩:=sg.cells;have wE:bQ h6 h3.next x [gv]=some (h6.put h3.next (.cells (ls.set x gv) 1 false)):=eA gE6 om;refine aj (M6 e9 ix @aO wE gc go) ?_;have u:=Mv (o:=.cells (ls.set x gv) 1 false) gE6;have n7:(h6.put h3.next (.cells (ls.set x gv) 1 false)).next=h6.next:=rfl;generalize h6.put h3.next (.cells (ls.set x gv) 1 false)=h7 at *
   have X7:Ext h2.next h2 h7:=by
    refine jx.trans ⟨om,λc hc=>?_,λc hc=>?_⟩
    ·rw[u.ne om,K6.gt c om om]
    ·rw[u.ty,K6.ty c om]
   obtain⟨h1',h2',h3'⟩:=oz.1 hrd;have htk:order.take (k+1)=order.take k++[((x:Nat):Int)]:=by rw[aG hk,hx]
   have hf7:IsRef h7 h2.next nn es (ij es ((x:Nat):Int) (outs[x]'om) row) (order.take k++[((x:Nat):Int)]) ev rv' pv':=by
    refine⟨by rw[u.ne om]; exact hf6.g,?_,?_,?_,hf6.oe,hf6.or,hf6.op,hm⟩
    ·refine he.ext X2 (ab _) |>.cong λb o m c hb=>X7.gt b ?_;exact (he.ext X2 (ab _)).lt hb
    ·exact hf6.r.cong λb o m c hb=>u.ne (by have:=hrb b o m c hb; omega)
    ·exact hf6.p.cong λb o m c hb=>u.ne (by have:=hpb b o m c hb; omega)
   refine⟨(ij es ((x:Nat):Int) (outs[x]'om) row,ends.set x (kO ((x:Nat):Int) row),ls.set x gv,rv',pv'),⟨by rw[htk]; exact j1,by rw[htk]; exact jv.next ho h2' h3' hone h1',by rw[htk]; exact hf7,λb o m c hb=>(by have:=hrb b o m c hb; omega),λb o m c hb=>(by have:=hpb b o m c hb; omega),u.get,by simpa using j4,by simpa using j5,λi v l g1 g2=>?_,X7,om,?_⟩,_,(J2 e10 w1),O3 e3 e8 e9⟩
   ·simp only at g1 g2;by_cases e:x=i
    ·subst e;rw[dY om,aa] at g1 g2;subst g1 g2;exact⟨sg.cong λb o m c hb=>u.ne (by have:=hgb b o m c hb; omega),λb o m c hb=>by have:=hgb b o m c hb; omega⟩
    ·rw[dq e] at g1 g2;obtain⟨s1,s2⟩:=j6 i v l g1 g2;refine⟨s1.cong λb o m c hb=>?_,s2⟩;have:=s2 b o m c hb;rw[u.ne om,K6.gt b (s1.lt hb) om]
   ·have:=ze (es:=es) (x:=((x:Nat):Int)) (outs:=outs[x]'om) (row:=row);simp only;omega
  ·rw[if_neg hrd] at hq' j1;obtain⟨rfl,x6⟩:=hq';refine bH (M0) ?_;refine ae (ae (aj (M0) ?_));refine db (by simp only[am,aK,simprocAttr,decide_true,decide_false]) (ae (aj (M1 e10) ?_));exact br ⟨.tup [.nils,.nils,.int .i64 3,.int .i64 (k:Nat)],(by simp only[rs,rf66,am,aK,simprocAttr,e10]<;>rfl),X5.trans (x6.mono X5.nx),.inr ⟨⟨hgood,hperm,hol,hout⟩,.inl ⟨k,j1.symm,rfl⟩⟩⟩
 ·rintro⟨row,ends,ls,rv,pv⟩ ts h5 ⟨j1,jv,j2,jr,jp,j3,j4,j5,j6,jx,jn,jl⟩ ⟨e3,e8,e9,e10,-⟩;simp only at e8 e9 j1 jv j2 jr jp j3 j4 j5 j6 jl;rw[mU] at j1;have rr:ak h5 h2.next 2 1=some [rv]:=bm j2.g rfl;refine ae (aj (M3 e8 e9 rr) ?_);exact br ⟨.tup [.sl h3.next 0 nn nn,rv,.int .i64 0,.int .i64 0],(by simp only[rs,rf66,am,aK,simprocAttr]<;>rfl),X2.trans (jx.mono X2.nx),.inr ⟨⟨hgood,hperm,hol,hout⟩,.inr ⟨ends,row,_,_,j1.symm,rfl,⟨ls,Ms j3 j4 (ab _),by rw[j4,j5],λi v l h1 h2=>(j6 i v l h1 h2).1⟩,j2.r⟩⟩⟩
end Go.Proofs.YtahepnbflofndaaGreatDoor
