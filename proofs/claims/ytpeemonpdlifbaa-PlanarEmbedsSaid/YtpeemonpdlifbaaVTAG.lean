/- arborref05.All -/
import Derived.Test.YtpeemonpdlifbaaVTAF
set_option linter.all false
namespace Go.Proofs.Ytpeemonpdlifbaa
open Go.Am
def lI (E:List (Int×Int)) (x k:Nat):List Int:=((List.range k).filter λd=>decide (kC E d=((x:Nat):Int))).map λd=>((d:Nat):Int)
theorem vF {E:List (Int×Int)}{x k:Nat}:lI E x (k+1)=lI E x k++if kC E k=((x:Nat):Int) then [((k:Nat):Int)] else []:=by
 unfold lI
 rw[bW,nW,ee]
 congr 1
 rw[jh,List.filter_nil]
 by_cases h:kC E k=((x:Nat):Int)
 ·rw[if_pos h,aM h]; rfl
 ·rw[if_neg h,aK h]; rfl
theorem vG {E:List (Int×Int)}{x:Nat}:∀ {k:Nat},(lI E x k).length≤k
 | 0=>by simp [lI]
 | k+1=>by
   have:=@vG E x k
   rw[vF,aC]
   split<;>simp<;>omega
theorem yV {h:AH}{esz lo:Nat}{v:AV}{cs new:List AV} (hv:IsSl h esz lo v (cs++new)) (hn:new≠[]):∃ b n,v=.sl b 0 n n∧lo≤b∧h.get b=some (.cells (cs++new) esz false):=by
 rcases hv with ⟨_,q⟩|⟨b,n,h1,h2,h3,_⟩
 ·exact absurd (List.append_eq_nil_iff.1 q).2 hn
 ·exact⟨b,n,h2,h1,h3⟩
theorem Jr {m:AH}{v:AV}{cs new:List AV}{lo q bytes:Nat} (hv:IsSl m 1 lo v cs) (hlo:lo≤m.next) (hq:m.get q=some .resv) (hql:lo≤q) (hn:new.length=1) (ho:new.all AV.one=true) (hb:(cs.length+1)*bytes<aU) (hc:cs.length+1<aU) :
 ∃ m3 v' m4,m3=m.put q (.cells new 1 false)∧fB m3 1 bytes v (.sl q 0 1 1)=some (v',m4)∧IsSl m4 1 lo v' (cs++new)∧Ext lo m m4∧(∀ c,m.get c=some .resv→c≠q→m4.get c=some .resv)∧m.next≤m4.next∧(∀ c,c<m.next→c≠q→(∀ b n,v=.sl b 0 n n→c≠b)→m4.get c=m.get c)∧(∀ b n,v'=.sl b 0 n n→m.next≤b):=by
 have v1:=KJ (o:=.cells new 1 false) hq
 obtain⟨m3,hm3⟩:∃ x,x=m.put q (.cells new 1 false):=⟨_,rfl⟩
 rw[← hm3] at v1
 have hne:∀ b n,v=.sl b 0 n n→b≠q:=λb n e=>by
  rcases hv with ⟨e2,_⟩|⟨b',n',_,e2,g,_⟩
  ·rw[e2] at e; cases e
  ·rw[e2] at e; cases e
   intro e3; subst e3
   rw[hq] at g; cases g
 have h3:IsSl m3 1 lo v cs:=hv.cong λb n e _=>v1.ne (hne b n e)
 obtain⟨v',m4,a4,i4,x4,e4,n4,s4,_⟩:=h3.app (bytes:=bytes) (x:=q) (new:=new) (by rw[v1.nx]; exact hlo) om v1.get hql hne hn ho (by rw[ew]; exact hb) (by rw[ew]; exact hc)
 refine⟨m3,v',m4,hm3,a4,i4,(v1.ext hql).trans x4,λc hc hne2=>?_,by rw[n4,v1.nx]; omega,λc hc hne2 hv2=>by rw[s4 c (by rw[v1.nx]; exact hc) hv2,v1.ne hne2],λb n e=>by rw[e4] at e; cases e; rw[v1.nx]; exact ab _⟩
 have hlt:c<m3.next:=by rw[v1.nx]; exact AH.lt_of_get hc
 rw[s4 c hlt (λb n e=>?_),v1.ne hne2]
 ·exact hc
 ·intro e2; subst e2
  rcases hv with ⟨e2,_⟩|⟨b',n',_,e2,g,_⟩
  ·rw[e2] at e; cases e
  ·rw[e2] at e; cases e
   rw[hc] at g; cases g
def RotAt (h:AH) (L:Nat) (w:AV) (R:List (List Int)):Prop:=∃ us:List AV,IsSl h 1 L w us∧us.length=R.length∧∀ (i:Nat) (u:AV) (p:List Int),us[i]?=some u→R[i]?=some p→SlI h u p∧InB (λb=>b<L) u
structure NX (h:AH) (L:Nat) (v:AV) (ws:List AV) (Q:List (List (List Int))):Prop where
 own:IsSl h 1 L v ws
 len:ws.length=Q.length
 row:∀ (i:Nat) (w:AV) (R:List (List Int)),ws[i]?=some w→Q[i]?=some R→RotAt h L w R
 apart:∀ b n,v=.sl b 0 n n→∀ w∈ws,NotB b w
def Rots (h:AH) (v:AV) (Q:List (List (List Int))):Prop:=∃ ws:List AV,Sl h 1 v (ws.map λw=>[w])∧ws.length=Q.length∧∀ (i:Nat) (w:AV) (R:List (List Int)),ws[i]?=some w→Q[i]?=some R→SlL h w R
theorem NX.rots {h:AH}{L:Nat}{v:AV}{ws:List AV}{Q:List (List (List Int))} (x:NX h L v ws Q):Rots h v Q:=⟨ws,EZ x.own,x.len,λi w R h1 h2=>by
 obtain⟨us,a,b,c⟩:=x.row i w R h1 h2
 exact⟨us,EZ a,b,λi u p e1 e2=>(c i u p e1 e2).1⟩⟩
theorem Rots.ext {h h':AH}{v:AV}{Q:List (List (List Int))} (r:Rots h v Q) (x:Ext h.next h h'):Rots h' v Q:=by
 obtain⟨ws,a,b,c⟩:=r
 exact⟨ws,a.ext x (ab _),b,λi w R h1 h2=>(c i w R h1 h2).ext x⟩
theorem HM {h:AH}{ws:List AV}{P:List (List Int)} (hl:ws.length=P.length) (hr:∀ (i:Nat) (w:AV) (p:List Int),ws[i]?=some w→P[i]?=some p→SlI h w p):((ws.map λw=>[w]).flatten.all AV.one=true)∧∀ w∈ws,InB (λb=>b<h.next) w:=by
 have key:∀ w∈ws,∃ p,SlI h w p:=λw hw=>by
  obtain⟨i,hi,rfl⟩:=cJ.1 hw
  exact⟨P[i],hr i _ P[i] (ah hi) (ah om)⟩
 refine⟨?_,λw hw=>?_⟩
 ·rw[rU,cr]
  intro w hw
  obtain⟨p,hp⟩:=key w hw
  exact (Sl.cells hp).2
 ·obtain⟨p,hp⟩:=key w hw
  exact oU hp
set_option maxHeartbeats 1000000 in
theorem Er {hL h:AH}{v w u:AV}{ws:List AV}{Q:List (List (List Int))}{R:List (List Int)}{p:List Int} (x:Ext hL.next hL h) (nx:NX h hL.next v ws Q) (hR:SlL hL w R) (hu:SlI hL u p) (hRl:R.length<1000) (hQ:Q.length<2 ^ 20) :
 ∃ m1 v68 m2 m3 v74 m4 m5 v76 m6,m1=(h.keep 3).put h.next (.cells [] 1 false)∧(h.keep 3).get h.next=some .resv∧fB m1 1 24 (.sl h.next 0 0 0) w=some (v68,m2)∧m2.get (h.next+1)=some .resv∧m3=m2.put (h.next+1) (.cells [u] 1 false)∧fB m3 1 24 v68 (.sl (h.next+1) 0 1 1)=some (v74,m4)∧m4.get (h.next+2)=some .resv∧m5=m4.put (h.next+2) (.cells [v74] 1 false)∧fB m5 1 24 v (.sl (h.next+2) 0 1 1)=some (v76,m6) ∧
   v68.cells=[v68]∧v74.cells=[v74]∧v74.one=true∧NX m6 hL.next v76 (ws++[v74]) (Q++[R++[p]])∧Ext hL.next hL m6∧h.next≤m6.next∧Ext h.next h m2:=by
 have nL:=x.nx
 obtain⟨us,sw,ul,ur⟩:=hR
 obtain⟨uone,uin⟩:=HM ul ur
 have sw3:Sl h 1 w (us.map λw=>[w]):=sw.ext x (ab _)
 have kn:(h.keep 3).next=h.next+3:=AH.keep_next 3 h
 have kg:∀ c,(h.keep 3).get c=if h.next≤c∧c<h.next+3 then some .resv else h.get c:=λc=>AH.keep_get 3 h
 have q0:(h.keep 3).get h.next=some .resv:=by rw[kg,if_pos ⟨om,om⟩]
 have u1:=KJ (o:=.cells [] 1 false) q0
 obtain⟨m1,hm1⟩:∃ m,m=(h.keep 3).put h.next (.cells [] 1 false):=⟨_,rfl⟩
 rw[← hm1] at u1
 have n1:m1.next=h.next+3:=by rw[u1.nx,kn]
 have i0:IsSl m1 1 h.next (.sl h.next 0 0 0) []:=.inr ⟨h.next,0,ab _,rfl,u1.get,rfl⟩
 have sw1:Sl m1 1 w (us.map λw=>[w]):=sw3.cong λb o n c e=>by
  have:=sw3.lt e
  rw[u1.ne om,kg,if_neg om]
 obtain⟨v68,m2,a2,i2,x2,n2,s2⟩:=apps (bytes:=24) i0 om om sw1 uone (by simp only[aO,ae]; unfold aU; omega) (by simp only[aO,ae]; unfold aU; omega)
 rw[bp,rU] at i2
 have g2:∀ c,h.next<c→c<h.next+3→m2.get c=some .resv:=λc h1 h2=>by
  rw[s2 c om (λb n e=>by cases e; omega),u1.ne om,kg,if_pos ⟨om,h2⟩]
 have y2:Ext h.next h m2:=⟨om,λc hc=>by rw[x2.gt _ hc,u1.ne om,kg,if_neg om],λc hc=>by rw[x2.ty _ hc,u1.ty]; exact KF 3 h⟩
 obtain⟨uc,uo⟩:=Sl.cells hu
 obtain⟨m3,v74,m4,hm3,a4,i4,y4,r4,n4,s4,w4⟩:=Jr (bytes:=24) (new:=[u]) i2 om (g2 (h.next+1) om om) om rfl (by simp [uo]) (by unfold aU; omega) (by unfold aU; omega)
 have q4:m4.get (h.next+2)=some .resv:=r4 _ (g2 _ om om) om
 have Y4:Ext h.next h m4:=y2.trans y4
 have own4:IsSl m4 1 hL.next v ws:=nx.own.cong λb n e _=>Y4.gt b (nx.own.lt e)
 obtain⟨c74,o74⟩:=i4.cells
 obtain⟨m5,v76,m6,hm5,a6,i6,y6,r6,n6,s6,w6⟩:=Jr (bytes:=24) (new:=[v74]) own4 om q4 om rfl (by simp [o74]) (by rw[nx.len]; unfold aU; omega) (by rw[nx.len]; unfold aU; omega)
 have Xh:Ext hL.next hL m6:=x.trans ((Y4.mono nL).trans y6)
 have vlt:∀ b n,v=.sl b 0 n n→b<h.next:=λb n e=>nx.own.lt e
 have kp:∀ c,c<h.next→(∀ b n,v=.sl b 0 n n→c≠b)→m6.get c=h.get c:=λc hc hne=>by
  rw[s6 c om om hne]; exact Y4.gt c hc
 refine⟨m1,v68,m2,m3,v74,m4,m5,v76,m6,hm1,q0,a2,g2 _ om om,hm3,a4,q4,hm5,a6,i2.cells.1,c74,o74,⟨i6,by rw[aC,aC,nx.len]; rfl,λi z R' e1 e2=>?_,λb n e z hz=>?_⟩,Xh,om,y2⟩
 ·rcases bF i ws.length with q|q
  ·rw[aX q] at e1
   rw[aX (by rw[← nx.len]; exact q)] at e2
   obtain⟨us',b1,b2,b3⟩:=nx.row i z R' e1 e2
   have hz:z∈ws:=dh e1
   refine⟨us',b1.cong λb n e _=>?_,b2,λj u' p' d1 d2=>?_⟩
   ·have:=b1.lt e
    refine kp b this λb' n' e'=>?_
    have:=nx.apart b' n' e' z hz
    rw[e] at this
    exact this
   ·obtain⟨d3,d4⟩:=b3 j u' p' d1 d2
    refine⟨d3.cong λb o n c e=>?_,d4⟩
    subst e
    have d4:b<hL.next:=d4
    rw[Xh.gt b d4,x.gt b d4]
  ·have hi:i=ws.length:=by
    have:=(aL.1 e1).1
    simp at this; omega
   subst hi
   rw[aR (ab _),dT] at e1
   rw[nx.len,aR (ab _),dT] at e2
   simp only[aV,aa] at e1 e2
   subst e1 e2
   refine⟨us++[u],(i4.cong λb n e _=>?_).mono nL,by rw[aC,aC,ul]; rfl,λj u' p' d1 d2=>?_⟩
   ·have hb:=w4 b n e
    have:=i4.lt e
    refine s6 b this (λq=>?_) λb' n' e'=>by have:=vlt b' n' e'; omega
    subst q
    obtain⟨b2,n2',e3,_,g3⟩:=yV i4 (by simp)
    rw[e] at e3; cases e3
    rw[q4] at g3; cases g3
   ·rcases bF j us.length with q2|q2
    ·rw[aX q2] at d1
     rw[aX (by rw[← ul]; exact q2)] at d2
     exact⟨(ur j u' p' d1 d2).ext Xh (ab _),uin u' (dh d1)⟩
    ·have hj:j=us.length:=by
      have:=(aL.1 d1).1
      simp at this; omega
     subst hj
     rw[aR (ab _),dT] at d1
     rw[ul,aR (ab _),dT] at d2
     simp only[aV,aa] at d1 d2
     subst d1 d2
     exact⟨hu.ext Xh (ab _),oU hu⟩
 ·have hb:=w6 b n e
  rcases ar.1 hz with q|q
  ·obtain⟨i,hi,rfl⟩:=cJ.1 q
   have hi2:i<Q.length:=by rw[← nx.len]; exact hi
   obtain⟨us',b1,_⟩:=nx.row i _ Q[i] (ah hi) (ah hi2)
   rcases b1 with ⟨e1,_⟩|⟨b',n',_,e1,e2,_⟩
   ·rw[e1]; trivial
   ·rw[e1]
    have:=AH.lt_of_get e2
    show b'≠b
    omega
  ·rw[bG] at q
   subst q
   rcases i4 with ⟨e1,_⟩|⟨b',n',_,e1,e2,_⟩
   ·rw[e1]; trivial
   ·rw[e1]
    have:=AH.lt_of_get e2
    show b'≠b
    omega
theorem zt {h:AH}{lo:Nat}{v:AV}{cs:List AV} (hv:IsSl h 1 lo v cs):jc v=some (.int .i64 (cs.length:Nat)):=by
 rcases hv with ⟨rfl,rfl⟩|⟨b,k,_,rfl,_,h4⟩
 ·rfl
 ·rw[h4,aP]; rfl
def Dy (E:List (Int×Int)) (m k:Nat) (Q:List (List (List Int))):Prop:=∀ R∈Q,R.length=k∧∀ y,y<k→(R.getD y []).Perm (lI E y m)
theorem Dt {E:List (Int×Int)}{m k:Nat}{R:List (List Int)}{p:List Int} (h:R.length=k∧∀ y,y<k→(R.getD y []).Perm (lI E y m)) (hp:p.Perm (lI E k m)):(R++[p]).length=k+1∧∀ y,y<k+1→((R++[p]).getD y []).Perm (lI E y m):=by
 refine⟨by rw[aC,h.1]; rfl,λy hy=>?_⟩
 rw[aA]
 rcases bF y k with q|q
 ·rw[aX om,← aA]
  exact h.2 y q
 ·obtain rfl:y=k:=om
  have h1:=h.1
  have e:(R++[p])[y]?=some p:=by rw[aR om,show y-R.length=0 by omega]; rfl
  rw[e]
  exact hp
set_option maxHeartbeats 4000000 in
theorem Ey {h:AH}{n:Nat}{ev:AV}{E:List (Int×Int)} (he:SlE h ev E) (hm:E.length≤128) (hn:n≤64) (hfew:∀ x,x<n→(lI E x (2*E.length)).length≤7) :
 C prg 28 [.agg [.int .i64 (n:Nat),ev],.int .i64 3000] h λv h'=>∃ Q,Rots h' v Q∧Dy E (2*E.length) n Q∧Q.length≤3000∧Ext h.next h h':=by
 obtain⟨ec,eo⟩:=he.cells
 have el:=he.len
 rw[ae] at el
 have wd:IntKind.i64.wrap (2*((E.length:Nat):Int))=((2*E.length:Nat):Int):=by rw[et om om]; omega
 obtain⟨M,hM⟩:∃ M,M=2*E.length:=⟨_,rfl⟩
 rw[← hM] at wd hfew ⊢
 refine KK pf28 ?_
 refine ai (au (Mi0) ?_)
 have x0:Ext h.next h (h.new (.cells [.int .i64 (n:Nat),ev] 2 false)):=KH (ab _)
 have g0:(h.new (.cells [.int .i64 (n:Nat),ev] 2 false)).get h.next=some (.cells [.int .i64 (n:Nat),ev] 2 false):=by rw[AH.get_new,if_pos rfl]
 have n0:(h.new (.cells [.int .i64 (n:Nat),ev] 2 false)).next=h.next+1:=rfl
 generalize (h.new (.cells [.int .i64 (n:Nat),ev] 2 false))=h1 at *
 have rpn:cI [AV.nils] 1=[.nils]:=rfl
 have x1:Ext h1.next h1 (h1.new (.cells [] 1 false)):=KH (ab _)
 have g1:(h1.new (.cells [] 1 false)).get h1.next=some (.cells [] 1 false):=by rw[AH.get_new,if_pos rfl]
 have n1:(h1.new (.cells [] 1 false)).next=h1.next+1:=rfl
 obtain⟨h2,hh2⟩:∃ h2,h2=h1.new (.cells [] 1 false):=⟨_,rfl⟩
 rw[← hh2] at x1 g1 n1
 have x2:Ext h2.next h2 (h2.new (.cells [.sl h1.next 0 0 0] 1 false)):=KH (ab _)
 have g2:(h2.new (.cells [.sl h1.next 0 0 0] 1 false)).get h2.next=some (.cells [.sl h1.next 0 0 0] 1 false):=by rw[AH.get_new,if_pos rfl]
 obtain⟨h3,hh3⟩:∃ h3,h3=h2.new (.cells [.sl h1.next 0 0 0] 1 false):=⟨_,rfl⟩
 rw[← hh3] at x2 g2
 refine ai (bR (λts h'=>h'=h3∧aN ts 1=.int .i64 3000∧aN ts 2=.ptr h.next 0∧aN ts 5=.sl h2.next 0 1 1) (by simp only[am,aH,simprocAttr,bN,fW,← hh2,rpn,fK,eD,← hh3]) ?_)
 rintro ts h3' ⟨rfl,e1,e2,e5⟩
 have X3:Ext h.next h h3':=x0.trans ((x1.mono om).trans (x2.mono om))
 have b3:h3'.get h.next=some (.cells [.int .i64 (n:Nat),ev] 2 false):=by rw[x2.gt _ om,x1.gt _ om]; exact g0
 have r3:Rots h3' (.sl h2.next 0 1 1) [[]]:=⟨[.sl h1.next 0 0 0],KG g2 rfl om,rfl,λi w R q1 q2=>by
  cases i with
  | zero =>
    simp only[aV,aa] at q1 q2
    subst q1 q2
    exact⟨[],KG (by rw[x2.gt _ om]; exact g1) rfl (ab _),rfl,λi w p z=>by simp at z⟩
  | succ i=>simp at q1⟩
 have nh3:h.next<h3'.next:=by have:=x2.nx; omega
 clear hh2 hh3 g1 g2 x1 x2 n1
 refine ai (ai (au (M0) ?_))
 refine fN (α:=AV) (N:=n) (λx ov=>[(1,.int .i64 3000),(2,.ptr h.next 0),(5,ov),(6,.int .i64 (x:Nat))])
  (λx ov h'=>(∃ Q,Rots h' ov Q∧Dy E M x Q∧Q.length≤3000)∧h'.get h.next=some (.cells [.int .i64 (n:Nat),ev] 2 false)∧Ext h.next h h'∧h.next<h'.next) (.sl h2.next 0 1 1) (H4 e1 e2 e5 @bg)
  ⟨⟨[[]],r3,λR hR=>by rw[bG] at hR; subst hR; exact⟨rfl,λy hy=>absurd hy (eR _)⟩,by simp⟩,b3,X3,nh3⟩ ?_ ?_ ?_
 ·clear e1 e2 e5
  rintro x ov ts h4 hx ⟨_,b4,_,_⟩ ⟨e1,e2,e5,e6,-⟩
  simp only at e1 e2 e5 e6
  have rN:ak h4 h.next 0 1=some [.int .i64 (n:Nat)]:=br b4 rfl
  exact⟨_,(M4 e2 e6 rN @cx),Z0,H4 e1 e2 e5 e6⟩
 ·clear e1 e2 e5
  rintro x ov ts h4 hx ⟨⟨Q,rq,aq,lq⟩,b4,X4,n4⟩ ⟨e1,e2,e5,e6,-⟩
  simp only at e1 e2 e5 e6
  have wx:IntKind.i64.wrap (((x:Nat):Int)+1)=((x+1:Nat):Int):=et om om
  have x5:Ext h4.next h4 (h4.new (.cells [] 1 false)):=KH (ab _)
  have g5:(h4.new (.cells [] 1 false)).get h4.next=some (.cells [] 1 false):=by rw[AH.get_new,if_pos rfl]
  have n5:(h4.new (.cells [] 1 false)).next=h4.next+1:=rfl
  refine ai (bR (λts h'=>h'=h4.new (.cells [] 1 false)∧aN ts 1=.int .i64 3000∧aN ts 2=.ptr h.next 0∧aN ts 5=ov∧aN ts 6=.int .i64 (x:Nat)∧aN ts 7=.sl h4.next 0 0 0) (by simp only[am,aH,simprocAttr,e1,e2,e5,e6,fW]) ?_)
  clear e1 e2 e5 e6
  rintro ts h5 ⟨hh5,e1,e2,e5,e6,e7⟩
  rw[← hh5] at x5 g5 n5
  clear hh5
  refine ai (ju (λts h'=>∃ lv,aN ts 1=.int .i64 3000∧aN ts 2=.ptr h.next 0∧aN ts 5=ov∧aN ts 6=.int .i64 (x:Nat)∧aN ts 7=lv∧IsSl h' 1 h4.next lv ((lI E x M).flatMap eI)∧Ext h4.next h4 h') ?_ ?_)
  ·refine ai (au (M0) ?_)
   refine fN (α:=AV) (N:=M) (λd lv=>[(1,.int .i64 3000),(2,.ptr h.next 0),(5,ov),(6,.int .i64 (x:Nat)),(7,lv),(8,.int .i64 (d:Nat))])
    (λd lv h'=>IsSl h' 1 h4.next lv ((lI E x d).flatMap eI)∧Ext h4.next h4 h'∧h4.next≤h'.next) (.sl h4.next 0 0 0) (H6 e1 e2 e5 e6 e7 @bg)
    ⟨.inr ⟨h4.next,0,ab _,rfl,g5,rfl⟩,x5,x5.nx⟩ ?_ ?_ ?_
   ·clear e1 e2 e5 e6 e7
    rintro d lv ts h6 hd ⟨_,X6,_⟩ ⟨e1,e2,e5,e6,e7,e8,-⟩
    simp only at e1 e2 e5 e6 e7 e8
    have rE:ak h6 h.next 1 1=some [ev]:=br (by rw[X6.gt _ n4]; exact b4) rfl
    exact⟨_,(M6 e2 e8 rE el wd @cx),Z0,H6 e1 e2 e5 e6 e7 e8⟩
   ·clear e1 e2 e5 e6 e7
    rintro d lv ts h6 hd ⟨i6,X6,n6⟩ ⟨e1,e2,e5,e6,e7,e8,-⟩
    simp only at e1 e2 e5 e6 e7 e8
    have wdd:IntKind.i64.wrap (((d:Nat):Int)+1)=((d+1:Nat):Int):=et om om
    have b6:h6.get h.next=some (.cells [.int .i64 (n:Nat),ev] 2 false):=by rw[X6.gt _ n4]; exact b4
    have rA6:ak h6 h.next 0 2=some [.int .i64 (n:Nat),ev]:=by rw[aW b6]; rfl
    have XX6:Ext h.next h h6:=X4.trans (X6.mono om)
    have hst:=@vF E x d
    have hll:=@vG E x d
    refine ai (bU (bu 2 (M3 e2 e8 rA6) rfl (Z3 e2 e8 rA6) (M3 e2 e8 rA6) (qr (n:=((n:Nat):Int)) (he.ext XX6 (ab _)) om om) λr h7 hq=>?_))
    obtain⟨rfl,x7⟩:=hq
    have i7:=i6.ext x7 (ab _)
    have X7:Ext h4.next h4 h7:=X6.trans (x7.mono n6)
    by_cases q:kC E d=((x:Nat):Int)
    ·rw[if_pos q] at hst
     have d1:decide (kC E d=((x:Nat):Int))=true:=aM q
     have hdl:((lI E x d).flatMap eI).length / 1≤256:=by rw[eY (f:=eI) (e:=1) (λ_=>rfl)]; omega
     obtain⟨lv',h8,a8,i8,x8,n8⟩:=i7.push (bytes:=8) [.int .i64 (d:Nat)] (by have:=x7.nx; omega) om rfl rfl (by unfold aU; omega) (by unfold aU; omega)
     have rp1:cI [AV.int .i64 0] 1=[.int .i64 0]:=rfl
     refine bP (M2 e6 d1) ?_
     refine cE (Z0) (au (M4 e7 e8 rp1 a8) ?_)
     exact⟨lv',⟨by rw[hst,dU]; exact i8,X7.trans x8,by have:=x7.nx; omega⟩,_,(M2 e8 wdd),H4 e1 e2 e5 e6⟩
    ·rw[if_neg q,cX] at hst
     have d1:decide (kC E d=((x:Nat):Int))=false:=aK q
     refine bP (M2 e6 d1) ?_
     refine dn (Z0) (bH ?_)
     exact⟨lv,⟨by rw[hst]; exact i7,X7,by have:=x7.nx; omega⟩,_,(M2 e8 wdd),H5 e1 e2 e5 e6 e7⟩
   ·clear e1 e2 e5 e6 e7
    rintro lv ts h6 ⟨i6,X6,n6⟩ ⟨e1,e2,e5,e6,e7,e8,-⟩
    exact⟨lv,e1,e2,e5,e6,e7,i6,X6⟩
  clear e1 e2 e5 e6 e7
  rintro ts h6 ⟨lv,e1,e2,e5,e6,e7,i6,X6⟩
  have hlen7:=hfew x hx
  have sl6:=yH i6
  have ll6:=sl6.len
  rw[ae] at ll6
  have n6:=X6.nx
  have X6h:Ext h.next h h6:=X4.trans (X6.mono om)
  have x7:Ext h6.next h6 (h6.new (.cells [] 1 false)):=KH (ab _)
  have g7:(h6.new (.cells [] 1 false)).get h6.next=some (.cells [] 1 false):=by rw[AH.get_new,if_pos rfl]
  have n7:(h6.new (.cells [] 1 false)).next=h6.next+1:=rfl
  obtain⟨h7,hh7⟩:∃ h7,h7=h6.new (.cells [] 1 false):=⟨_,rfl⟩
  rw[← hh7] at x7 g7 n7
  have x8:Ext h7.next h7 (h7.new (.cells [.sl h6.next 0 0 0] 1 false)):=KH (ab _)
  have g8:(h7.new (.cells [.sl h6.next 0 0 0] 1 false)).get h7.next=some (.cells [.sl h6.next 0 0 0] 1 false):=by rw[AH.get_new,if_pos rfl]
  obtain⟨h8,hh8⟩:∃ h8,h8=h7.new (.cells [.sl h6.next 0 0 0] 1 false):=⟨_,rfl⟩
  rw[← hh8] at x8 g8
  refine ai (bR (λts h'=>h'=h8∧aN ts 1=.int .i64 3000∧aN ts 2=.ptr h.next 0∧aN ts 5=ov∧aN ts 6=.int .i64 (x:Nat)∧aN ts 7=lv∧aN ts 9=.sl h7.next 0 1 1) (by simp only[am,aH,simprocAttr,e1,e2,e5,e6,e7,fW,← hh7,rpn,fK,eD,← hh8]) ?_)
  clear e1 e2 e5 e6 e7
  rintro ts h8' ⟨rfl,e1,e2,e5,e6,e7,e9⟩
  have Y8:Ext h6.next h6 h8':=x7.trans (x8.mono om)
  have X8:Ext h.next h h8':=X6h.trans (Y8.mono (by have:=X6h.nx; omega))
  clear hh7 hh8
  have g78:h8'.get h6.next=some (.cells [] 1 false):=by rw[x8.gt _ om]; exact g7
  refine ai (ju (λts h'=>∃ (yv:AV) (us:List AV) (P:List (List Int)),aN ts 1=.int .i64 3000∧aN ts 2=.ptr h.next 0∧aN ts 5=ov∧aN ts 6=.int .i64 (x:Nat)∧aN ts 9=yv∧Sl h' 1 yv (us.map λw=>[w])∧us.length=P.length∧(∀ (i:Nat) (w:AV) (p:List Int),us[i]?=some w→P[i]?=some p→SlI h' w p)∧(∀ p∈P,p.Perm (lI E x M))∧P.length≤46656∧Ext h4.next h4 h') ?_ ?_)
  ·by_cases q:0<(lI E x M).length
   ·have d1:decide ((0:Int)<(((lI E x M).length:Nat):Int))=true:=aM om
    refine ai (au (M3 e7 ll6 d1) ?_)
    refine cE (Z0) ?_
    have sl8:=sl6.ext Y8 (ab _)
    obtain⟨va,fa,ta,_,_⟩:=sl8.upto (hi:=1) (by rw[ae]; omega)
    obtain⟨vb,fb,tb,_,_⟩:=sl8.from (lo:=1) (by rw[ae]; omega)
    rw[← fh] at ta
    rw[← fi] at tb
    have fa':slV h8' 1 lv none (some (.int .i64 1)) none=some va:=fa
    have fb':slV h8' 1 lv (some (.int .i64 1)) none none=some vb:=fb
    refine bU (bu 4 (by simp only[am,aH,simprocAttr,e7,dZ,bO,aG,fa',fb']<;>rfl) rfl (by simp only[am,aH,simprocAttr,e7,dZ,bO,aG,fa',fb']) (by simp only[am,aH,simprocAttr,e7,dZ,bO,aG,fa',fb']<;>rfl) (qT ((lI E x M).length-1) om ta tb (by rw[de]) (by rw[bK]; omega)) λv h9 hq=>?_)
    obtain⟨us,P,su,ul,ur,pp,pl,x9,_⟩:=hq
    refine bP (M0) ?_
    refine⟨v,us,P,Z1 e1,Z1 e2,Z1 e5,Z1 e6,Z0,su,ul,ur,λp hp=>?_,?_,(X6.trans (Y8.mono n6)).trans (x9.mono (by have:=Y8.nx; omega))⟩
    ·have:=pp p hp
     rwa [cA] at this
    ·refine cM pl ?_
     exact Nat.pow_le_pow_right (n:=6) om (show (lI E x M).length-1≤6 by omega)
   ·have d1:decide ((0:Int)<(((lI E x M).length:Nat):Int))=false:=aK om
    have hnil:lI E x M=[]:=bd.1 om
    refine ai (au (M3 e7 ll6 d1) ?_)
    refine dn (Z0) (bH ?_)
    refine⟨.sl h7.next 0 1 1,[.sl h6.next 0 0 0],[[]],Z1 e1,Z1 e2,Z1 e5,Z1 e6,Z1 e9,KG g8 rfl om,rfl,λi w p q1 q2=>?_,λp hp=>?_,by simp,X6.trans (Y8.mono n6)⟩
    ·cases i with
     | zero =>
       simp only[aV,aa] at q1 q2
       subst q1 q2
       exact KG g78 rfl (ab _)
     | succ i=>simp at q1
    ·rw[bG] at hp
     subst hp
     rw[hnil]
  clear e1 e2 e5 e6 e7 e9
  rintro ts hL ⟨yv,us,P,e1,e2,e5,e6,e9,su,ul,ur,pp,pl,XL⟩
  have XLh:Ext h.next h hL:=X4.trans (XL.mono om)
  have rqL:Rots hL ov Q:=rq.ext XL
  have bL:hL.get h.next=some (.cells [.int .i64 (n:Nat),ev] 2 false):=by rw[XL.gt _ n4]; exact b4
  have nL:=XL.nx
  obtain⟨ws0,so,ol,orr⟩:=rqL
  have olen:=so.len
  rw[ae,ol] at olen
  have ylen:=su.len
  rw[ae,ul] at ylen
  have xa:Ext hL.next hL (hL.new (.cells [] 1 false)):=KH (ab _)
  have ga:(hL.new (.cells [] 1 false)).get hL.next=some (.cells [] 1 false):=by rw[AH.get_new,if_pos rfl]
  refine ai (bR (λts h'=>h'=hL.new (.cells [] 1 false)∧aN ts 1=.int .i64 3000∧aN ts 2=.ptr h.next 0∧aN ts 5=ov∧aN ts 6=.int .i64 (x:Nat)∧aN ts 9=yv∧aN ts 10=.sl hL.next 0 0 0) (by simp only[am,aH,simprocAttr,e1,e2,e5,e6,e9,fW]) ?_)
  clear e1 e2 e5 e6 e9
  rintro ts ha ⟨hha,e1,e2,e5,e6,e9,e10⟩
  rw[← hha] at xa ga
  clear hha
  refine ai (ju (λts h'=>∃ (nv:AV) (ws:List AV) (Q':List (List (List Int))),aN ts 1=.int .i64 3000∧aN ts 2=.ptr h.next 0∧aN ts 6=.int .i64 (x:Nat)∧aN ts 10=nv∧NX h' hL.next nv ws Q'∧Dy E M (x+1) Q'∧Q'.length≤3000∧Ext hL.next hL h') ?_ ?_)
  ·refine ai (au (M0) ?_)
   refine fN (α:=AV) (N:=Q.length) (λi nv=>[(1,.int .i64 3000),(2,.ptr h.next 0),(5,ov),(6,.int .i64 (x:Nat)),(9,yv),(10,nv),(11,.int .i64 (i:Nat))])
    (λi nv h'=>∃ (ws:List AV) (Q':List (List (List Int))),NX h' hL.next nv ws Q'∧Dy E M (x+1) Q'∧Q'.length≤3000∧Ext hL.next hL h') (.sl hL.next 0 0 0) (H7 e1 e2 e5 e6 e9 e10 @bg)
    ⟨[],[],⟨.inr ⟨hL.next,0,ab _,rfl,ga,rfl⟩,rfl,(λi w R q=>by simp at q),(λb n _ w hw=>by cases hw)⟩,(λR hR=>by cases hR),by simp,xa⟩ ?_ ?_ ?_
   ·clear e1 e2 e5 e6 e9 e10
    rintro i nv ts hb hi _ ⟨e1,e2,e5,e6,e9,e10,e11,-⟩
    simp only at e1 e2 e5 e6 e9 e10 e11
    exact⟨_,(M4 e5 e11 olen @cx),Z0,H7 e1 e2 e5 e6 e9 e10 e11⟩
   ·clear e1 e2 e5 e6 e9 e10
    rintro i nv ts hb hi ⟨ws,Q',nx0,aq0,lq0,xb⟩ ⟨e1,e2,e5,e6,e9,e10,e11,-⟩
    simp only at e1 e2 e5 e6 e9 e10 e11
    have wi:IntKind.i64.wrap (((i:Nat):Int)+1)=((i+1:Nat):Int):=et om om
    have hiw:i<ws0.length:=om
    have hRi:=orr i ws0[i] Q[i] (ah hiw) (ah hi)
    have haQ:=aq Q[i] (bj hi)
    refine ai (ju (λts h'=>∃ (nv:AV) (ws:List AV) (Q':List (List (List Int))),aN ts 1=.int .i64 3000∧aN ts 2=.ptr h.next 0∧aN ts 5=ov∧aN ts 6=.int .i64 (x:Nat)∧aN ts 9=yv∧aN ts 10=nv∧aN ts 11=.int .i64 (i:Nat)∧NX h' hL.next nv ws Q'∧Dy E M (x+1) Q'∧Q'.length≤3000+P.length∧Ext hL.next hL h') ?_ ?_)
    ·refine ai (au (M0) ?_)
     refine fN (α:=AV) (N:=P.length) (λk nv=>[(1,.int .i64 3000),(2,.ptr h.next 0),(5,ov),(6,.int .i64 (x:Nat)),(9,yv),(10,nv),(11,.int .i64 (i:Nat)),(12,.int .i64 (k:Nat))])
      (λk nv h'=>∃ (ws:List AV) (Q':List (List (List Int))),NX h' hL.next nv ws Q'∧Dy E M (x+1) Q'∧Q'.length≤3000+k∧Ext hL.next hL h') nv (H8 e1 e2 e5 e6 e9 e10 e11 @bg)
      ⟨ws,Q',nx0,aq0,lq0,xb⟩ ?_ ?_ ?_
     ·clear e1 e2 e5 e6 e9 e10 e11
      rintro k nv ts hc hk _ ⟨e1,e2,e5,e6,e9,e10,e11,e12,-⟩
      simp only at e1 e2 e5 e6 e9 e10 e11 e12
      exact⟨_,(M4 e9 e12 ylen @cx),Z0,H8 e1 e2 e5 e6 e9 e10 e11 e12⟩
     ·clear e1 e2 e5 e6 e9 e10 e11
      rintro k nv ts hc hk ⟨ws1,Q1,nx1,aq1,lq1,xc⟩ ⟨e1,e2,e5,e6,e9,e10,e11,e12,-⟩
      simp only at e1 e2 e5 e6 e9 e10 e11 e12
      have wk:IntKind.i64.wrap (((k:Nat):Int)+1)=((k+1:Nat):Int):=et om om
      have hku:k<us.length:=om
      have huk:=ur k us[k] P[k] (ah hku) (ah hk)
      obtain⟨m1,v68,m2,m3,v74,m4,m5,v76,m6,hm1,q1,a2,q2,hm3,a4,q4,hm5,a6,c68,c74,o74,nx6,x6,n6',y2⟩:=Er xc nx1 hRi huk (by have:=haQ.1; omega) om
      have kgc:∀ c,c<hc.next→(hc.keep 3).get c=hc.get c:=λc hcl=>by rw[AH.keep_get,if_neg om]
      obtain⟨ob,op,ao,ro,lo_⟩:=(so.ext xc (ab _)).at1 (i:=i) (y:=ws0[i]) (by rw[aF,ah hiw]; rfl)
      obtain⟨yb,yp,ay,ry,ly⟩:=(su.ext xc (ab _)).at1 (i:=k) (y:=us[k]) (by rw[aF,ah hku]; rfl)
      have rok:ak (hc.keep 3) ob op 1=some [ws0[i]]:=by rw[cF (kgc ob lo_)]; exact ro
      have ryk:ak (hc.keep 3) yb yp 1=some [us[k]]:=by rw[cF (kgc yb ly)]; exact ry
      have ry2:ak m2 yb yp 1=some [us[k]]:=by rw[cF (y2.gt yb ly)]; exact ry
      obtain⟨uc,uo⟩:=Sl.cells huk
      have us_:=uT huk
      refine Aa (by simp only[am,aH,simprocAttr,e5,e9,e10,e11,e12,ao,rok,ay,ryk,dX,dm q1,fW,← hm1,a2,ry2,us_,dm q2,rpn,uc,uo,fK,eD,← hm3,a4,dm q4,c74,o74,← hm5,a6]<;>rfl) ?_
      refine⟨v76,⟨ws1++[v74],Q1++[Q[i]++[P[k]]],nx6,λR hR=>?_,by rw[aC]; simp; omega,x6⟩,_,(by simp only[am,aH,simprocAttr,e12,wk]<;>rfl),H6 e1 e2 e5 e6 e9 e11⟩
      rcases ar.1 hR with hR|hR
      ·exact aq1 R hR
      ·rw[bG] at hR
       subst hR
       exact Dt haQ (pp _ (bj hk))
     ·clear e1 e2 e5 e6 e9 e10 e11
      rintro nv ts hc ⟨ws1,Q1,nx1,aq1,lq1,xc⟩ ⟨e1,e2,e5,e6,e9,e10,e11,e12,-⟩
      exact⟨nv,ws1,Q1,e1,e2,e5,e6,e9,e10,e11,nx1,aq1,lq1,xc⟩
    clear e1 e2 e5 e6 e9 e10 e11
    rintro ts hc ⟨nv,ws1,Q1,e1,e2,e5,e6,e9,e10,e11,nx1,aq1,lq1,xc⟩
    have nlen:=zt nx1.own
    rw[nx1.len] at nlen
    by_cases q:3000<Q1.length
    ·have d1:decide ((3000:Int)<((Q1.length:Nat):Int))=true:=aM om
     refine ai (au (M4 e1 e10 nlen d1) ?_)
     refine cE (Z0) (ai (au (M0) ?_))
     exact bM ⟨.nils,(by simp only[rs,rf28,am,aH,simprocAttr]<;>rfl),[],⟨[],.inl ⟨rfl,.inl rfl⟩,rfl,λi w R z=>by simp at z⟩,(λR hR=>by cases hR),by simp,XLh.trans (xc.mono XLh.nx)⟩
    ·have d1:decide ((3000:Int)<((Q1.length:Nat):Int))=false:=aK om
     refine ai (au (M4 e1 e10 nlen d1) ?_)
     refine dn (Z0) (bH ?_)
     exact⟨nv,⟨ws1,Q1,nx1,aq1,om,xc⟩,_,(M2 e11 wi),H6 e1 e2 e5 e6 e9 e10⟩
   ·clear e1 e2 e5 e6 e9 e10
    rintro nv ts hb ⟨ws,Q',nx0,aq0,lq0,xb⟩ ⟨e1,e2,e5,e6,e9,e10,e11,-⟩
    exact⟨nv,ws,Q',e1,e2,e6,e10,nx0,aq0,lq0,xb⟩
  clear e1 e2 e5 e6 e9 e10
  rintro ts hb ⟨nv,ws,Q',e1,e2,e6,e10,nx0,aq0,lq0,xb⟩
  refine au (M1 e10) ?_
  exact⟨nv,⟨⟨Q',nx0.rots,aq0,lq0⟩,by rw[xb.gt _ om]; exact bL,XLh.trans (xb.mono XLh.nx),by have:=xb.nx; omega⟩,_,(M2 e6 wx),H2 e1 e2⟩
 ·clear e1 e2 e5
  rintro ov ts h4 ⟨⟨Q,rq,aq,lq⟩,b4,X4,n4⟩ ⟨e1,e2,e5,e6,-⟩
  simp only at e5
  refine ai (au (M1 e5) ?_)
  exact bM ⟨_,(by simp only[rs,rf28,am,aH,simprocAttr]<;>rfl),Q,rq,aq,lq,X4⟩
end Go.Proofs.Ytpeemonpdlifbaa
