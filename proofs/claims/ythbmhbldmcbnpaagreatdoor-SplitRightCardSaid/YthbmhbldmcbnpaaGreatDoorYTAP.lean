/- checker.tie -/
import Derived.Test.YthbmhbldmcbnpaaGreatDoorYTAF
import Derived.Test.YthbmhbldmcbnpaaGreatDoorYTAN
import Derived.Test.YthbmhbldmcbnpaaGreatDoorYTAO
import Derived.Test.YthbmhbldmcbnpaaGreatDoorYTAG
set_option linter.all false
namespace Go.Proofs.YthbmhbldmcbnpaaGreatDoor
open Go.Am
open Go.Spl (T4 tE tL FT cntF plc cntF_app plc_app cntF_le plc_le mem_plc)
def EdgM (F:FT) (m:List (Nat×AV)):Prop:=∀ i,lkG m i=if cntF F i=0 then none else some (.int .i64 ((cntF F i:Nat):Int))
def EndM (F:FT) (m:List (Nat×AV)):Prop:=∀ k:Nat,((∀ p∈F,tL p.2≠((k:Nat):Int))→lkG m k=none)∧∀ p∈F,tL p.2=((k:Nat):Int)→lkG m k=some (.agg [.int .i64 p.2.1,.int .i64 p.2.2.1])
def mI (n:Int) (E:List (Int×Int)) (F:FT) (t:T4):Prop:=(0≤t.1∧t.1<t.2.1∧t.2.1<n) ∧
 ((tL t=-1∧∃ k:Nat,∃ hk:k<E.length,tE t=((k:Nat):Int)∧mnx E[k]=(t.1,t.2.1))∨(tE t=-1∧0≤tL t∧∀ p∈F,tL p.2=tL t→p.2.1=t.1∧p.2.2.1=t.2.1))
structure Chk (h:AH) (lo cb eb lb nb av:Nat) (n:Int) (ev:AV) (F:FT) (cnt:Int):Prop where
 cell:h.get cb=some (.cells [.int .i64 n,ev,.mp eb,.mp lb,.mp nb,.int .i64 cnt] 6 false)
 em:∃ m,MapG kN h eb m∧EdgM F m
 nm:∃ m,MapG kN h nb m∧EndM F m
 lm:∃ es c ml,h.get lb=some (.mapo es c)∧MapL h lo es c ml∧(∀ k,lkL ml k=plc F k)∧(ml.map (·.1)).Nodup∧(∀ p∈ml,p.2≠[])∧∀ (j:Nat) (e:AV×AV×Nat),es[j]?=some e→∀ b k,e.2.1=.sl b 0 k k→b≠av
 ord:cb<lo∧eb<lo∧lb<lo∧nb<lo∧lo≤h.next∧av<h.next∧cb≠eb∧cb≠lb∧cb≠nb∧eb≠lb∧eb≠nb∧lb≠nb
def ChS (lo eb lb nb av c:Nat):Prop:=c=eb∨c=nb∨c=lb∨(lo≤c∧c≠av)
theorem Chk.ext {h h':AH}{lo cb eb lb nb av:Nat}{n:Int}{ev:AV}{F:FT}{cnt:Int} (c:Chk h lo cb eb lb nb av n ev F cnt) (hx:Ext h.next h h'):Chk h' lo cb eb lb nb av n ev F cnt:=by
 obtain⟨c1,⟨m1,c2,c3⟩,⟨m2,c4,c5⟩,⟨es,cc,ml,l1,l2,l3,l4,l5,l6⟩,o⟩:=c
 have hn:=hx.nx
 exact⟨by rw[hx.gt _ (AH.lt_of_get c1)]; exact c1,⟨m1,c2.cong (hx.gt _ c2.lt),c3⟩,⟨m2,c4.cong (hx.gt _ c4.lt),c5⟩,
  ⟨es,cc,ml,by rw[hx.gt _ (AH.lt_of_get l1)]; exact l1,l2.cong λc _ hc=>hx.gt c hc,l3,l4,l5,l6⟩,om⟩
theorem yG {ml:ML}{x i:Nat} (h:(ml.map (·.1)).Nodup):((kB ml x i).map (·.1)).Nodup:=by
 rw[oU]
 exact Ad h
theorem Chk.edge {h h2:AH}{lo cb eb lb nb av k s:Nat}{n:Int}{ev:AV}{F:FT}{cnt:Int}{t:T4}{m:List (Nat×AV)}{o:AO} (c:Chk h lo cb eb lb nb av n ev F cnt) (hm:MapG kN h eb m) (hd:EdgM F m) (m2:MapG kN h2 eb (upG m k (.int .i64 ((cntF F k+1:Nat):Int)))) (U2:Upd h h2 eb o) (t1:tL t=-1) (t2:tE t=((k:Nat):Int)) :
 Chk h2 lo cb eb lb nb av n ev (F++[(s,t)]) cnt:=by
 obtain⟨o1,o2,o3,o4,o5,o6,o7,o8,o9,o10,o11,o12⟩:=c.ord
 have hn:=U2.nx
 refine⟨by rw[U2.ne o7]; exact c.cell,⟨_,m2,λi=>?_⟩,?_,?_,⟨o1,o2,o3,o4,om,om,o7,o8,o9,o10,o11,o12⟩⟩
 ·rw[kh,cntF_app]
  by_cases e:i=k
  ·subst e
   have:(if tL t=-1∧tE t=((i:Nat):Int) then 1 else 0)=1:=if_pos ⟨t1,t2⟩
   rw[if_pos rfl,this,if_neg om]
  ·have:(if tL t=-1∧tE t=((i:Nat):Int) then 1 else 0)=0:=if_neg λq=>e (by have:=t2.symm.trans q.2; omega)
   rw[if_neg e,this,ce]
   exact hd i
 ·obtain⟨m',hm',hd'⟩:=c.nm
  refine⟨m',hm'.cong (U2.ne (λe=>o11 e.symm)),λj=>⟨λq=>(hd' j).1 λp hp=>q p (bA _ hp),λp hp e=>?_⟩⟩
  rcases aI.1 hp with hp|hp
  ·exact (hd' j).2 p hp e
  ·rw[bd] at hp
   subst hp
   have:tL t=((j:Nat):Int):=e
   omega
 ·obtain⟨es,cc,ml,l1,l2,l3,l4,l5,l6⟩:=c.lm
  refine⟨es,cc,ml,by rw[U2.ne (λe=>o10 e.symm)]; exact l1,l2.cong λb hb hc=>U2.ne om,λj=>?_,l4,l5,l6⟩
  rw[plc_app,l3 j,if_neg om,bZ]
theorem Chk.link {h h3 h9:AH}{lo cb eb lb nb av k s c':Nat}{n:Int}{ev:AV}{F:FT}{cnt:Int}{t:T4}{m:List (Nat×AV)}{o:AO}{ml:ML}{es':List (AV×AV×Nat)} (c:Chk h lo cb eb lb nb av n ev F cnt) (hm:MapG kN h nb m) (hd:EndM F m) (m3:MapG kN h3 nb (upG m k (.agg [.int .i64 t.1,.int .i64 t.2.1]))) (U3:Upd h h3 nb o)
 (l3:∀ k,lkL ml k=plc F k) (l4:(ml.map (·.1)).Nodup) (l5:∀ p∈ml,p.2≠[]) (u5:h9.get lb=some (.mapo es' c')) (u6:MapL h9 lo es' c' (kB ml k s)) (n9:h9.next=h3.next+2) (keep:∀ b,b<lo→b≠lb→h9.get b=h3.get b)
 (u10:∀ (j:Nat) (e:AV×AV×Nat),es'[j]?=some e→∀ b n,e.2.1=.sl b 0 n n→b≠av) (t1:tL t=((k:Nat):Int)) (hall:∀ p∈F,tL p.2=((k:Nat):Int)→p.2.1=t.1∧p.2.2.1=t.2.1) :
 Chk h9 lo cb eb lb nb av n ev (F++[(s,t)]) cnt:=by
 obtain⟨o1,o2,o3,o4,o5,o6,o7,o8,o9,o10,o11,o12⟩:=c.ord
 have hn:=U3.nx
 refine⟨by rw[keep cb o1 o8,U3.ne o9]; exact c.cell,?_,⟨_,m3.cong (keep nb o4 (λe=>o12 e.symm)),λj=>⟨λq=>?_,λp hp e=>?_⟩⟩,⟨es',c',kB ml k s,u5,u6,λj=>?_,yG l4,GW l5 k s,u10⟩,⟨o1,o2,o3,o4,om,om,o7,o8,o9,o10,o11,o12⟩⟩
 ·obtain⟨m',hm',hd'⟩:=c.em
  refine⟨m',hm'.cong (by rw[keep eb o2 o10,U3.ne o11]),λi=>?_⟩
  have:(if tL t=-1∧tE t=((i:Nat):Int) then 1 else 0)=0:=if_neg λq=>by have:=q.1; omega
  rw[cntF_app,this,ce]
  exact hd' i
 ·rw[kh]
  have hne:j≠k:=λe=>q (s,t) (dr _ (bd.2 rfl)) (by subst e; exact t1)
  rw[if_neg hne]
  exact (hd j).1 λp hp=>q p (bA _ hp)
 ·rw[kh]
  rcases aI.1 hp with hp|hp
  ·by_cases e':j=k
   ·subst e'
    obtain⟨q1,q2⟩:=hall p hp e
    rw[if_pos rfl,q1,q2]
   ·rw[if_neg e']
    exact (hd j).2 p hp e
  ·rw[bd] at hp
   subst hp
   have:tL t=((j:Nat):Int):=e
   rw[if_pos om]
 ·rw[plc_app,Ft,l3 j]
  by_cases e:j=k
  ·subst e
   rw[if_pos rfl,if_pos t1]
  ·rw[if_neg (λq=>e q.symm),if_neg (λq=>e om),bZ]
theorem Jj {h:AH}{lo lb k s cc:Nat}{es:List (AV×AV×Nat)}{ml:ML} (l1:h.get lb=some (.mapo es cc)) (l2:MapL h lo es cc ml) (ho:lb<lo) (ho2:lo≤h.next) (hl:(lkL ml k).length<2 ^ 30) :
 ∃ v v' h8 h9 es' c',fZ (h.keep 1) .ki false .nils (.mp lb) (.int .i64 ((k:Nat):Int))=some v∧lP ((h.keep 1).put h.next (.cells [.int .i64 ((s:Nat):Int)] 1 false)) 1 8 v (.sl h.next 0 1 1)=some (v',h8) ∧
   mj h8 .ki (.mp lb) (.int .i64 ((k:Nat):Int)) v'=some (.un,h9)∧h9.get lb=some (.mapo es' c')∧MapL h9 lo es' c' (kB ml k s)∧h9.next=h.next+2 ∧
   (∀ b,b<h.next→(∀ (j:Nat) (e:AV×AV×Nat),es[j]?=some e→∀ n,e.2.1≠.sl b 0 n n)→b≠lb→h8.get b=h.get b∧h9.get b=h.get b)∧(∀ b,b<h.next→h9.tyOf b=h.tyOf b) ∧
   ∀ (j:Nat) (e:AV×AV×Nat),es'[j]?=some e→∀ b n,e.2.1=.sl b 0 n n→b=h.next+1∨∃ (j:Nat) (e:AV×AV×Nat) (n:Nat),es[j]?=some e∧e.2.1=.sl b 0 n n:=by
 have hlb:=AH.lt_of_get l1
 obtain⟨x7,p7,n7,y7⟩:=gq (h:=h) (o:=.cells [.int .i64 ((s:Nat):Int)] 1 false)
 have kg:∀ c,c<h.next→(h.keep 1).get c=h.get c:=λc hc=>by rw[AH.keep_get,if_neg om]
 have m7:MapL ((h.keep 1).put h.next (.cells [.int .i64 ((s:Nat):Int)] 1 false)) lo es cc ml:=l2.cong λc _ hc=>y7 _ hc
 have gm7:((h.keep 1).put h.next (.cells [.int .i64 ((s:Nat):Int)] 1 false)).get lb=some (.mapo es cc):=by rw[y7 _ hlb]; exact l1
 have hsl:∀ (j:Nat) (e:AV×AV×Nat),es[j]?=some e→∀ b n,e.2.1=.sl b 0 n n→b<h.next:=λj e e1 b n e3=>by
  have hj:=(aB.1 e1).1
  exact (l2.at_ j e _ e1 (au (by have:=l2.len; omega))).lt e3
 obtain⟨v,v',h8,h9,es',c',u1,u2,u3,u4,u5,u6,u7,u8,u9,u10,u11⟩:=m7.up gm7 ho om k s p7 om (λj e e1 b n e3=>by have:=hsl j e e1 b n e3; omega) hl
 refine⟨v,v',h8,h9,es',c',?_,u2,u4,u5,u6,om,λb hb hn hne=>?_,λb hb=>?_,λj e e1 b n e3=>?_⟩
 ·rw[← u1]; exact Jg (by rw[kg _ hlb,y7 _ hlb])
 ·obtain⟨q1,q2⟩:=u9 b om hn
  exact⟨by rw[q1,y7 _ hb],by rw[q2 hne,y7 _ hb]⟩
 ·rw[u8.ty b om,x7.ty b hb]
 ·rcases u10 j e e1 b n e3 with q|q
  ·exact .inl om
  ·exact .inr q
set_option maxHeartbeats 1000000 in
theorem yM {h:AH}{lo cb eb lb nb av s:Nat}{n:Int}{ev:AV}{E:List (Int×Int)}{F:FT}{cnt:Int}{t:T4} (c:Chk h lo cb eb lb nb av n ev F cnt) (he:SlE h ev E) (heo:∀ b o m k,ev=.sl b o m k→b<lo∧b≠eb∧b≠nb∧b≠lb) (hF:F.length<2 ^ 29) (hEl:E.length<2 ^ 40) (p4:tL t=-1) :
 C prg 13 [.ptr cb 0,.agg (eT4 t),.int .i64 ((s:Nat):Int)] h λr h'=>∃ b,r=.bool b∧(b=true↔mI n E F t)∧(b=true→Chk h' lo cb eb lb nb av n ev (F++[(s,t)]) cnt)∧Kp (ChS lo eb lb nb av) h h':=by
 obtain⟨A,B,Ed,Lk⟩:=t
 obtain⟨ec,eo⟩:=he.cells
 have el:=he.len
 rw[ar] at el
 obtain⟨o1,o2,o3,o4,o5,o6,o7,o8,o9,o10,o11,o12⟩:=c.ord
 have p4:Lk=-1:=p4
 refine NX pf13 ?_
 show W _ _ (bI 0 [.ptr cb 0,.agg [.int .i64 A,.int .i64 B,.int .i64 Ed,.int .i64 Lk],.int .i64 ((s:Nat):Int)]) _ _ _ _
 refine ah (ak (Mi0) ?_)
 have x0:Ext h.next h (h.new (.cells [.int .i64 A,.int .i64 B,.int .i64 Ed,.int .i64 Lk] 4 false)):=NU (ae _)
 have g0:(h.new (.cells [.int .i64 A,.int .i64 B,.int .i64 Ed,.int .i64 Lk] 4 false)).get h.next=some (.cells [.int .i64 A,.int .i64 B,.int .i64 Ed,.int .i64 Lk] 4 false):=by rw[AH.get_new,if_pos rfl]
 have n0:(h.new (.cells [.int .i64 A,.int .i64 B,.int .i64 Ed,.int .i64 Lk] 4 false)).next=h.next+1:=rfl
 have c1:=c.ext x0
 have he1:=he.ext x0 (ae _)
 have K1:Kp (ChS lo eb lb nb av) h (h.new (.cells [.int .i64 A,.int .i64 B,.int .i64 Ed,.int .i64 Lk] 4 false)):=x0.kp (ae _)
 generalize (h.new (.cells [.int .i64 A,.int .i64 B,.int .i64 Ed,.int .i64 Lk] 4 false))=h1 at *
 have rA:aj h1 h.next 0 1=some [.int .i64 A]:=aJ g0 rfl
 have rB:aj h1 h.next 1 1=some [.int .i64 B]:=aJ g0 rfl
 have rEd:aj h1 h.next 2 1=some [.int .i64 Ed]:=aJ g0 rfl
 have rLk:aj h1 h.next 3 1=some [.int .i64 Lk]:=aJ g0 rfl
 have rN:aj h1 cb 0 1=some [.int .i64 n]:=aJ c1.cell rfl
 have rE:aj h1 cb 1 1=some [ev]:=aJ c1.cell rfl
 have rEb:aj h1 cb 2 1=some [.mp eb]:=aJ c1.cell rfl
 have rNb:aj h1 cb 4 1=some [.mp nb]:=aJ c1.cell rfl
 refine ah (bL ?_)
 by_cases p1:A<0
 ·have d1:decide (A<0)=true:=aq p1
  refine ah (ak (Mi2 rA d1) ?_)
  refine bq (Z0) (ah (ak (M0) ?_))
  exact aV ⟨.bool false,(by simp only[rs,rf13,am,aC,simprocAttr]<;>rfl),false,rfl,⟨(λq=>by cases q),λq=>by have:(0:Int)≤A:=q.1.1; omega⟩,(λq=>by cases q),K1⟩
 have d1:decide (A<0)=false:=ai p1
 by_cases p2:B≤A
 ·have d2:decide (B≤A)=true:=aq p2
  refine ah (ak (Mi4 rA rB d1 d2) ?_)
  refine bq (Z0) (ah (ak (M0) ?_))
  exact aV ⟨.bool false,(by simp only[rs,rf13,am,aC,simprocAttr]<;>rfl),false,rfl,⟨(λq=>by cases q),λq=>by have:A<B:=q.1.2.1; omega⟩,(λq=>by cases q),K1⟩
 have d2:decide (B≤A)=false:=ai p2
 by_cases p3:n≤B
 ·have d3:decide (n≤B)=true:=aq p3
  refine ah (ak (Mi6 rA rB rN d1 d2 d3) ?_)
  refine bq (Z0) (ah (ak (M0) ?_))
  exact aV ⟨.bool false,(by simp only[rs,rf13,am,aC,simprocAttr]<;>rfl),false,rfl,⟨(λq=>by cases q),λq=>by have:B<n:=q.1.2.2; omega⟩,(λq=>by cases q),K1⟩
 have d3:decide (n≤B)=false:=ai p3
 have hAB:0≤A∧A<B∧B<n:=om
 refine ah (ak (Mi6 rA rB rN d1 d2 d3) ?_)
 refine cj (Z0) ?_
 have d4:decide (Lk=-1)=true:=aq p4
 refine ah (ak (Mi2 rLk d4) ?_)
 refine bq (Z0) ?_
 have hiff:mI n E F (A,B,Ed,Lk)↔∃ k:Nat,∃ hk:k<E.length,Ed=((k:Nat):Int)∧mnx E[k]=(A,B):=by
  constructor
  ·rintro⟨_,⟨_,q⟩|⟨_,q,_⟩⟩
   ·exact q
   ·have:(0:Int)≤Lk:=q
    omega
  ·exact λq=>⟨hAB,.inl ⟨p4,q⟩⟩
 by_cases p5:Ed<0
 ·have d5:decide (Ed<0)=true:=aq p5
  refine ah (ah (ak (Mi2 rEd d5) ?_))
  refine bq (Z0) (ah (ak (M0) ?_))
  exact aV ⟨.bool false,(by simp only[rs,rf13,am,aC,simprocAttr]<;>rfl),false,rfl,⟨(λq=>by cases q),λq=>by obtain⟨k,_,e,_⟩:=hiff.1 q; omega⟩,(λq=>by cases q),K1⟩
 have d5:decide (Ed<0)=false:=ai p5
 by_cases p6:((E.length:Nat):Int)≤Ed
 ·have d6:decide (((E.length:Nat):Int)≤Ed)=true:=aq p6
  refine ah (ah (ak (Mi5 rEd rE el d5 d6) ?_))
  refine bq (Z0) (ah (ak (M0) ?_))
  exact aV ⟨.bool false,(by simp only[rs,rf13,am,aC,simprocAttr]<;>rfl),false,rfl,⟨(λq=>by cases q),λq=>by obtain⟨k,_,e,_⟩:=hiff.1 q; omega⟩,(λq=>by cases q),K1⟩
 have d6:decide (((E.length:Nat):Int)≤Ed)=false:=ai p6
 obtain⟨k,rfl⟩:=cS (by omega:(0:Int)≤Ed)
 have hk:k<E.length:=om
 refine ah (ah (ak (Mi5 rEd rE el d5 d6) ?_))
 refine cj (Z0) (be ?_)
 obtain⟨m,hm,hd⟩:=c1.em
 have lk:=hm.look to (.int .i64 0) k
 have hdk:(lkG m k).getD (.int .i64 0)=.int .i64 ((cntF F k:Nat):Int):=by
  rw[hd k]
  split
  ·rename_i e; rw[e]; rfl
  ·rfl
 rw[hdk] at lk
 have hcl:=cntF_le F k
 have w5:=dF (k:=cntF F k) om
 obtain⟨h2,u2,m2,oo,U2⟩:=hm.up to k (.int .i64 ((cntF F k+1:Nat):Int))
 have lk:fZ h1 .ki false (.int .i64 0) (.mp eb) (.int .i64 ((k:Nat):Int))=some (.int .i64 ((cntF F k:Nat):Int)):=lk
 have u2:mj h1 .ki (.mp eb) (.int .i64 ((k:Nat):Int)) (.int .i64 ((cntF F k+1:Nat):Int))=some (.un,h2):=u2
 refine ah (ak (Mi5 rEd rEb lk w5 u2) ?_)
 have K2:Kp (ChS lo eb lb nb av) h h2:=K1.trans (U2.kp (S:=ChS lo eb lb nb av) (.inl rfl)) λ_ _ q=>q
 have ne1:h.next≠eb:=om
 have n2:=U2.nx
 have g2:h2.get h.next=some (.cells [.int .i64 A,.int .i64 B,.int .i64 ((k:Nat):Int),.int .i64 Lk] 4 false):=by rw[U2.ne ne1]; exact g0
 have rA2:aj h2 h.next 0 1=some [.int .i64 A]:=aJ g2 rfl
 have rB2:aj h2 h.next 1 1=some [.int .i64 B]:=aJ g2 rfl
 have rEd2:aj h2 h.next 2 1=some [.int .i64 ((k:Nat):Int)]:=aJ g2 rfl
 have cell2:h2.get cb=some (.cells [.int .i64 n,ev,.mp eb,.mp lb,.mp nb,.int .i64 cnt] 6 false):=by rw[U2.ne o7]; exact c1.cell
 have rE2:aj h2 cb 1 1=some [ev]:=aJ cell2 rfl
 have he2:SlE h2 ev E:=he1.cong λb o m' k' e=>U2.ne (heo b o m' k' e).2.1
 obtain⟨eb1,ep,a7,r7,_⟩:=he2.at (dp (f:=eE) hk)
 have r7:aj h2 eb1 ep 2=some [.int .i64 E[k].1,.int .i64 E[k].2]:=r7
 obtain⟨h3,w3,x3,g3,n3⟩:=dI (h:=h2) (z:=[.int .i64 0,.int .i64 0]) (cs:=[.int .i64 E[k].1,.int .i64 E[k].2]) (e:=2) rfl
 refine ah (ak (M5 rE2 rEd2 a7 r7 w3) ?_)
 have ra3:aj h3 h2.next 0 1=some [.int .i64 E[k].1]:=aJ g3 rfl
 have rb3:aj h3 h2.next 1 1=some [.int .i64 E[k].2]:=aJ g3 rfl
 have g30:h3.get h.next=some (.cells [.int .i64 A,.int .i64 B,.int .i64 ((k:Nat):Int),.int .i64 Lk] 4 false):=by rw[x3.gt _ om]; exact g2
 have rA3:aj h3 h.next 0 1=some [.int .i64 A]:=aJ g30 rfl
 have rB3:aj h3 h.next 1 1=some [.int .i64 B]:=aJ g30 rfl
 have K3:Kp (ChS lo eb lb nb av) h h3:=K2.trans (x3.kp (S:=ChS lo eb lb nb av) (ae _)) λ_ _ q=>q
 have hiff2:mI n E F (A,B,((k:Nat):Int),Lk)↔mnx E[k]=(A,B):=by
  rw[hiff]
  constructor
  ·rintro⟨k',hk',e,q⟩
   have:k'=k:=om
   subst this
   exact q
  ·exact λq=>⟨k,hk,rfl,q⟩
 by_cases p7:mnI E[k].1 E[k].2=A
 ·have d7:decide ((if E[k].2<E[k].1 then E[k].2 else E[k].1)=A)=true:=aq p7
  refine ah (ak (M7 ra3 rb3 rA3 rB3 @iH @pk d7) ?_)
  refine aV ⟨.bool (decide ((if E[k].2>E[k].1 then E[k].2 else E[k].1)=B)),(by simp only[rs,rf13,am,aC,simprocAttr]<;>rfl),_,rfl,?_,λq=>?_,K3⟩
  ·rw[az,hiff2]
   unfold mnx
   rw[p7]
   constructor
   ·intro q; rw[show mxI E[k].1 E[k].2=B from q]
   ·intro q; exact (Prod.mk.inj q).2
  ·exact (c1.edge hm hd m2 U2 p4 rfl).ext x3
 ·have d7:decide ((if E[k].2<E[k].1 then E[k].2 else E[k].1)=A)=false:=ai p7
  refine ah (ak (M7 ra3 rb3 rA3 rB3 @iH @pk d7) ?_)
  refine aV ⟨.bool false,(by simp only[rs,rf13,am,aC,simprocAttr]<;>rfl),false,rfl,⟨(λq=>by cases q),λq=>?_⟩,(λq=>by cases q),K3⟩
  have:=hiff2.1 q
  exact absurd (Prod.mk.inj this).1 p7
set_option maxHeartbeats 1000000 in
theorem yL {h:AH}{lo cb eb lb nb av s:Nat}{n:Int}{ev:AV}{E:List (Int×Int)}{F:FT}{cnt:Int}{t:T4} (c:Chk h lo cb eb lb nb av n ev F cnt) (he:SlE h ev E) (heo:∀ b o m k,ev=.sl b o m k→b<lo∧b≠eb∧b≠nb∧b≠lb) (hF:F.length<2 ^ 29) (hEl:E.length<2 ^ 40) (p4:¬ tL t=-1) :
 C prg 13 [.ptr cb 0,.agg (eT4 t),.int .i64 ((s:Nat):Int)] h λr h'=>∃ b,r=.bool b∧(b=true↔mI n E F t)∧(b=true→Chk h' lo cb eb lb nb av n ev (F++[(s,t)]) cnt)∧Kp (ChS lo eb lb nb av) h h':=by
 obtain⟨A,B,Ed,Lk⟩:=t
 obtain⟨ec,eo⟩:=he.cells
 have el:=he.len
 rw[ar] at el
 obtain⟨o1,o2,o3,o4,o5,o6,o7,o8,o9,o10,o11,o12⟩:=c.ord
 have p4:¬ Lk=-1:=p4
 refine NX pf13 ?_
 show W _ _ (bI 0 [.ptr cb 0,.agg [.int .i64 A,.int .i64 B,.int .i64 Ed,.int .i64 Lk],.int .i64 ((s:Nat):Int)]) _ _ _ _
 refine ah (ak (Mi0) ?_)
 have x0:Ext h.next h (h.new (.cells [.int .i64 A,.int .i64 B,.int .i64 Ed,.int .i64 Lk] 4 false)):=NU (ae _)
 have g0:(h.new (.cells [.int .i64 A,.int .i64 B,.int .i64 Ed,.int .i64 Lk] 4 false)).get h.next=some (.cells [.int .i64 A,.int .i64 B,.int .i64 Ed,.int .i64 Lk] 4 false):=by rw[AH.get_new,if_pos rfl]
 have n0:(h.new (.cells [.int .i64 A,.int .i64 B,.int .i64 Ed,.int .i64 Lk] 4 false)).next=h.next+1:=rfl
 have c1:=c.ext x0
 have he1:=he.ext x0 (ae _)
 have K1:Kp (ChS lo eb lb nb av) h (h.new (.cells [.int .i64 A,.int .i64 B,.int .i64 Ed,.int .i64 Lk] 4 false)):=x0.kp (ae _)
 generalize (h.new (.cells [.int .i64 A,.int .i64 B,.int .i64 Ed,.int .i64 Lk] 4 false))=h1 at *
 have rA:aj h1 h.next 0 1=some [.int .i64 A]:=aJ g0 rfl
 have rB:aj h1 h.next 1 1=some [.int .i64 B]:=aJ g0 rfl
 have rEd:aj h1 h.next 2 1=some [.int .i64 Ed]:=aJ g0 rfl
 have rLk:aj h1 h.next 3 1=some [.int .i64 Lk]:=aJ g0 rfl
 have rN:aj h1 cb 0 1=some [.int .i64 n]:=aJ c1.cell rfl
 have rE:aj h1 cb 1 1=some [ev]:=aJ c1.cell rfl
 have rEb:aj h1 cb 2 1=some [.mp eb]:=aJ c1.cell rfl
 have rNb:aj h1 cb 4 1=some [.mp nb]:=aJ c1.cell rfl
 refine ah (bL ?_)
 by_cases p1:A<0
 ·have d1:decide (A<0)=true:=aq p1
  refine ah (ak (Mi2 rA d1) ?_)
  refine bq (Z0) (ah (ak (M0) ?_))
  exact aV ⟨.bool false,(by simp only[rs,rf13,am,aC,simprocAttr]<;>rfl),false,rfl,⟨(λq=>by cases q),λq=>by have:(0:Int)≤A:=q.1.1; omega⟩,(λq=>by cases q),K1⟩
 have d1:decide (A<0)=false:=ai p1
 by_cases p2:B≤A
 ·have d2:decide (B≤A)=true:=aq p2
  refine ah (ak (Mi4 rA rB d1 d2) ?_)
  refine bq (Z0) (ah (ak (M0) ?_))
  exact aV ⟨.bool false,(by simp only[rs,rf13,am,aC,simprocAttr]<;>rfl),false,rfl,⟨(λq=>by cases q),λq=>by have:A<B:=q.1.2.1; omega⟩,(λq=>by cases q),K1⟩
 have d2:decide (B≤A)=false:=ai p2
 by_cases p3:n≤B
 ·have d3:decide (n≤B)=true:=aq p3
  refine ah (ak (Mi6 rA rB rN d1 d2 d3) ?_)
  refine bq (Z0) (ah (ak (M0) ?_))
  exact aV ⟨.bool false,(by simp only[rs,rf13,am,aC,simprocAttr]<;>rfl),false,rfl,⟨(λq=>by cases q),λq=>by have:B<n:=q.1.2.2; omega⟩,(λq=>by cases q),K1⟩
 have d3:decide (n≤B)=false:=ai p3
 have hAB:0≤A∧A<B∧B<n:=om
 refine ah (ak (Mi6 rA rB rN d1 d2 d3) ?_)
 refine cj (Z0) ?_
 have d4:decide (Lk=-1)=false:=ai p4
 refine ah (ak (Mi2 rLk d4) ?_)
 refine cj (Z0) ?_
 by_cases p5:Ed=-1
 ·have d5:decide (Ed=-1)=true:=aq p5
  by_cases p6:Lk<0
  ·have d6:decide (Lk<0)=true:=aq p6
   refine ah (ak (Mi4 rEd rLk d5 d6) ?_)
   refine bq (Z0) (ah (ak (M0) ?_))
   refine aV ⟨.bool false,(by simp only[rs,rf13,am,aC,simprocAttr]<;>rfl),false,rfl,⟨(λq=>by cases q),?_⟩,(λq=>by cases q),K1⟩
   rintro⟨_,⟨q,_⟩|⟨_,q,_⟩⟩
   ·exact absurd q p4
   ·have:(0:Int)≤Lk:=q
    omega
  have d6:decide (Lk<0)=false:=ai p6
  obtain⟨k,rfl⟩:=cS (by omega:(0:Int)≤Lk)
  refine ah (ak (Mi4 rEd rLk d5 d6) ?_)
  refine cj (Z0) (be ?_)
  obtain⟨m,hm,hd⟩:=c1.nm
  have lk2:=hm.look2 to (.agg [.int .i64 0,.int .i64 0]) k
  have lk2:fZ h1 .ki true (.agg [.int .i64 0,.int .i64 0]) (.mp nb) (.int .i64 ((k:Nat):Int))=some (.tup [(lkG m k).getD (.agg [.int .i64 0,.int .i64 0]),.bool (lkG m k).isSome]):=lk2
  obtain⟨ox,oy,ok,hold,hok,hokF⟩:∃ (x y:Int) (b:Bool),(lkG m k).getD (.agg [.int .i64 0,.int .i64 0])=.agg [.int .i64 x,.int .i64 y]∧(lkG m k).isSome=b∧((b=false∧∀ p∈F,tL p.2≠((k:Nat):Int))∨(b=true∧(∃ p∈F,tL p.2=((k:Nat):Int))∧∀ p∈F,tL p.2=((k:Nat):Int)→p.2.1=x∧p.2.2.1=y)):=by
   by_cases q:∃ p∈F,tL p.2=((k:Nat):Int)
   ·obtain⟨p,hp,e⟩:=q
    have h1:=(hd k).2 p hp e
    refine⟨p.2.1,p.2.2.1,true,by rw[h1]; rfl,by rw[h1]; rfl,.inr ⟨rfl,⟨p,hp,e⟩,λp' hp' e'=>?_⟩⟩
    have h2:=(hd k).2 p' hp' e'
    rw[h1] at h2
    simp only[aa,AV.agg.injEq,cF,AV.int.injEq,true_and,and_true] at h2
    exact⟨h2.1.symm,h2.2.symm⟩
   ·have q':∀ p∈F,tL p.2≠((k:Nat):Int):=λp hp e=>q ⟨p,hp,e⟩
    have h1:=(hd k).1 q'
    exact⟨0,0,false,by rw[h1]; rfl,by rw[h1]; rfl,.inl ⟨rfl,q'⟩⟩
  rw[hold,hok] at lk2
  obtain⟨h2,w2,x2,g2,n2⟩:=dI (h:=h1) (z:=[.int .i64 0,.int .i64 0]) (cs:=[.int .i64 ox,.int .i64 oy]) (e:=1) rfl
  refine ah (ak (Mi4 rNb rLk lk2 w2) ?_)
  have c2:=c1.ext x2
  have K2:Kp (ChS lo eb lb nb av) h h2:=K1.trans (x2.kp (S:=ChS lo eb lb nb av) (ae _)) λ_ _ q=>q
  have g20:h2.get h.next=some (.cells [.int .i64 A,.int .i64 B,.int .i64 Ed,.int .i64 ((k:Nat):Int)] 4 false):=by rw[x2.gt _ om]; exact g0
  have rA2:aj h2 h.next 0 1=some [.int .i64 A]:=aJ g20 rfl
  have rB2:aj h2 h.next 1 1=some [.int .i64 B]:=aJ g20 rfl
  have rL2:aj h2 h.next 3 1=some [.int .i64 ((k:Nat):Int)]:=aJ g20 rfl
  have rN2:aj h2 cb 4 1=some [.mp nb]:=aJ c2.cell rfl
  have hm2:=hm.cong (x2.gt _ hm.lt)
  obtain⟨h3,u3,m3,oo,U3⟩:=hm2.up to k (.agg [.int .i64 A,.int .i64 B])
  have u3:mj h2 .ki (.mp nb) (.int .i64 ((k:Nat):Int)) (.agg [.int .i64 A,.int .i64 B])=some (.un,h3):=u3
  refine ah (ak (Mi5 rN2 rL2 rA2 rB2 u3) ?_)
  have n3:=U3.nx
  have K3:Kp (ChS lo eb lb nb av) h h3:=K2.trans (U3.kp (S:=ChS lo eb lb nb av) (.inr (.inl rfl))) λ_ _ q=>q
  obtain⟨es,cc,ml,l1,l2,l3,l4,l5,l6⟩:=c2.lm
  have hslh:∀ (j:Nat) (e:AV×AV×Nat),es[j]?=some e→∀ b n,e.2.1=.sl b 0 n n→lo≤b∧b<h.next:=λj e e1 b n e3=>by
   obtain⟨es',cc',ml',l1b,l2b,_⟩:=c.lm
   have e12:es'=es:=by
    have:=l1
    rw[x2.gt _ om,x0.gt _ om,l1b] at this
    cases this
    rfl
   subst e12
   have hj:=(aB.1 e1).1
   have a1:=(l2b.at_ j e _ e1 (au (by have:=l2b.len; omega)))
   have a2:=a1.lt e3
   rcases a1 with ⟨q,_⟩|⟨b',m',hb',q,_⟩
   ·rw[q] at e3; cases e3
   ·rw[q] at e3; cases e3; exact⟨hb',a2⟩
  have l1':h3.get lb=some (.mapo es cc):=by rw[U3.ne o12]; exact l1
  have l2':MapL h3 lo es cc ml:=l2.cong λb hb hc=>U3.ne om
  have q7:(h3.keep 1).get h3.next=some .resv:=fN
  have hpl:=plc_le F k
  obtain⟨v,v',h8,h9,es',c',v3,u2,u4,u5,u6,n9,u9,u8,u10⟩:=Jj (s:=s) (k:=k) l1' l2' o3 om (by rw[l3]; omega)
  have kg:∀ c,c<h3.next→(h3.keep 1).get c=h3.get c:=λc hc=>by rw[AH.keep_get,if_neg om]
  have keep:∀ b,b<h3.next→(lo≤b→h.next≤b∨b=av)→b≠lb→h8.get b=h3.get b∧h9.get b=h3.get b:=λb hb hlo hne=>by
   refine u9 b hb (λj e e1 n e3=>?_) hne
   obtain⟨a2,a1⟩:=hslh j e e1 b n e3
   rcases hlo a2 with q|q
   ·omega
   ·exact l6 j e e1 b n e3 q
  have cell3:h3.get cb=some (.cells [.int .i64 n,ev,.mp eb,.mp lb,.mp nb,.int .i64 cnt] 6 false):=by rw[U3.ne o9]; exact c2.cell
  have g30:h3.get h.next=some (.cells [.int .i64 A,.int .i64 B,.int .i64 Ed,.int .i64 ((k:Nat):Int)] 4 false):=by rw[U3.ne om]; exact g20
  have g3o:h3.get h1.next=some (.cells [.int .i64 ox,.int .i64 oy] 1 false):=by rw[U3.ne om]; exact g2
  have v1:aj (h3.keep 1) cb 3 1=some [.mp lb]:=aJ (by rw[kg _ om]; exact cell3) rfl
  have v2:aj (h3.keep 1) h.next 3 1=some [.int .i64 ((k:Nat):Int)]:=aJ (by rw[kg _ om]; exact g30) rfl
  have hcb:cb<h3.next∧(lo≤cb→h.next≤cb∨cb=av):=⟨om,λq=>by omega⟩
  have w1:aj h8 cb 3 1=some [.mp lb]:=aJ (by rw[(keep cb hcb.1 hcb.2 om).1]; exact cell3) rfl
  have w2:aj h8 h.next 3 1=some [.int .i64 ((k:Nat):Int)]:=aJ (by rw[(keep h.next om (λ_=>.inl (ae _)) om).1]; exact g30) rfl
  refine ah (nS (by simp only[am,aC,simprocAttr,bI,v1,v2,v3,eP,eV q7,u2,w1,w2,u4]<;>rfl) ?_)
  have g90:h9.get h.next=some (.cells [.int .i64 A,.int .i64 B,.int .i64 Ed,.int .i64 ((k:Nat):Int)] 4 false):=by rw[(keep h.next om (λ_=>.inl (ae _)) om).2]; exact g30
  have g9o:h9.get h1.next=some (.cells [.int .i64 ox,.int .i64 oy] 1 false):=by rw[(keep h1.next om (λ_=>.inl om) om).2]; exact g3o
  have rA9:aj h9 h.next 0 1=some [.int .i64 A]:=aJ g90 rfl
  have rB9:aj h9 h.next 1 1=some [.int .i64 B]:=aJ g90 rfl
  have rO9:aj h9 h1.next 0 2=some [.int .i64 ox,.int .i64 oy]:=by rw[aP g9o]; rfl
  have K9:Kp (ChS lo eb lb nb av) h h9:=by
   refine K3.trans (T:=λb=>b=lb∨(lo≤b∧b≠av)) ⟨om,λb hb hnS=>?_,λb hb=>?_⟩ λb _ q=>?_
   ·refine (keep b hb (λq=>?_) λq=>hnS (.inl q)).2
    by_cases e:b=av
    ·exact .inr e
    ·exact absurd (.inr ⟨q,e⟩) hnS
   ·exact u8 b hb
   ·exact q.elim (λe=>.inr (.inr (.inl e))) λe=>.inr (.inr (.inr e))
  have hiff:mI n E F (A,B,Ed,((k:Nat):Int))↔∀ p∈F,tL p.2=((k:Nat):Int)→p.2.1=A∧p.2.2.1=B:=by
   constructor
   ·rintro⟨_,⟨q,_⟩|⟨_,_,q⟩⟩
    ·have:((k:Nat):Int)=-1:=q
     omega
    ·exact q
   ·exact λq=>⟨hAB,.inr ⟨p5,by show (0:Int)≤((k:Nat):Int); omega,q⟩⟩
  have hchk:(∀ p∈F,tL p.2=((k:Nat):Int)→p.2.1=A∧p.2.2.1=B)→Chk h9 lo cb eb lb nb av n ev (F++[(s,(A,B,Ed,((k:Nat):Int)))]) cnt:=λhall=>by
   refine c2.link hm2 hd m3 U3 l3 l4 l5 u5 u6 n9 (λb hb hne=>(keep b om (λq=>by omega) hne).2) (λj e e1 b n' e3=>?_) rfl hall
   rcases u10 j e e1 b n' e3 with q|⟨j',e',n'',q1,q2⟩
   ·omega
   ·exact l6 j' e' q1 b n'' q2
  rcases hokF with ⟨rfl,hno⟩|⟨rfl,hyes,hall⟩
  ·refine ah (ak (Mi0) ?_)
   refine aV ⟨.bool true,(by simp only[rs,rf13,am,aC,simprocAttr]<;>rfl),true,rfl,⟨λ_=>hiff.2 λp hp e=>absurd e (hno p hp),λ_=>rfl⟩,λ_=>hchk λp hp e=>absurd e (hno p hp),K9⟩
  ·refine ah (ak (Mi5 rA9 rB9 rO9 @oC @my) ?_)
   refine aV ⟨.bool (decide ((ox,oy)=(A,B))),(by simp only[rs,rf13,am,aC,simprocAttr]<;>rfl),_,rfl,?_,λq=>?_,K9⟩
   ·rw[az,hiff,ap]
    constructor
    ·rintro⟨rfl,rfl⟩
     exact hall
    ·intro q
     obtain⟨p,hp,e⟩:=hyes
     obtain⟨a1,a2⟩:=q p hp e
     obtain⟨b1,b2⟩:=hall p hp e
     exact⟨b1.symm.trans a1,b2.symm.trans a2⟩
   ·rw[az,ap] at q
    obtain⟨rfl,rfl⟩:=q
    exact hchk hall
 ·have d5:decide (Ed=-1)=false:=ai p5
  refine ah (ak (Mi2 rEd d5) ?_)
  refine bq (Z0) (ah (ak (M0) ?_))
  refine aV ⟨.bool false,(by simp only[rs,rf13,am,aC,simprocAttr]<;>rfl),false,rfl,⟨(λq=>by cases q),?_⟩,(λq=>by cases q),K1⟩
  rintro⟨_,⟨q,_⟩|⟨q,_⟩⟩
  ·exact absurd q p4
  ·exact absurd q p5
theorem DR {h:AH}{lo cb eb lb nb av s:Nat}{n:Int}{ev:AV}{E:List (Int×Int)}{F:FT}{cnt:Int}{t:T4} (c:Chk h lo cb eb lb nb av n ev F cnt) (he:SlE h ev E) (heo:∀ b o m k,ev=.sl b o m k→b<lo∧b≠eb∧b≠nb∧b≠lb) (hF:F.length<2 ^ 29) (hEl:E.length<2 ^ 40) :
 C prg 13 [.ptr cb 0,.agg (eT4 t),.int .i64 ((s:Nat):Int)] h λr h'=>∃ b,r=.bool b∧(b=true↔mI n E F t)∧(b=true→Chk h' lo cb eb lb nb av n ev (F++[(s,t)]) cnt)∧Kp (ChS lo eb lb nb av) h h':=by
 by_cases p4:tL t=-1
 ·exact yM c he heo hF hEl p4
 ·exact yL c he heo hF hEl p4
open Go.Am
open Go.Spl (T4 OkT tA tB deg vs rk rkE mem_vs vs_len vs_rise end_vs rk_mem rkE_len)
theorem xa (T:List T4) (x:Nat):((vs T).map λn=>((n:Nat):Int)).countP (λu=>decide (u<((x:Nat):Int)))=rk T x:=by
 rw[List.countP_map]
 unfold rk
 refine oS λy _=>?_
 simp only[Function.comp_apply,az]
 omega
theorem xc {T:List T4}{k:Nat} (hk:k<T.length):(rkE T).take (k+1)=(rkE T).take k++[(((rk T (tA T[k]):Nat):Int),((rk T (tB T[k]):Nat):Int))]:=by
 rw[aX (by rw[rkE_len]; exact hk)]
 simp [rkE]
theorem yZ {T:List T4} (hok:∀ t∈T,OkT t):InG (vs T).length (rkE T):=λi hi=>by
 have hi':i<T.length:=by rw[rkE_len] at hi; exact hi
 obtain⟨m1,m2⟩:=end_vs hok (aO hi')
 obtain⟨l1,_⟩:=rk_mem m1
 obtain⟨l2,_⟩:=rk_mem m2
 have e:(rkE T)[i]=(((rk T (tA T[i]):Nat):Int),((rk T (tB T[i]):Nat):Int)):=by simp [rkE]
 have e2:(rkE T).getD i (0,0)=(rkE T)[i]:=by rw[aF,au hi]; rfl
 unfold tlE hdE
 rw[e2,e]
 simp only[eC]
 exact⟨trivial,l1,l2⟩
set_option maxHeartbeats 1000000 in
theorem qV {h:AH}{v:AV}{T:List T4} (hv:qA h v T) (hok:∀ t∈T,OkT t) (hxl:T.length<2 ^ 30) :
 C prg 30 [v] h λr h'=>∃ lv ev,r=.tup [.agg [.int .i64 ((vs T).length:Nat),ev],lv]∧IsSl h' 1 h.next lv (nC (vs T))∧SlE h' ev (rkE T)∧Ext h.next h h':=by
 have el:=hv.len
 rw[ar] at el
 refine NX pf30 ?_
 refine ah (ak (Mi0) ?_)
 have x0:Ext h.next h (h.new (.cells [.int .i64 0,.nils] 2 false)):=NU (ae _)
 have g0:(h.new (.cells [.int .i64 0,.nils] 2 false)).get h.next=some (.cells [.int .i64 0,.nils] 2 false):=by rw[AH.get_new,if_pos rfl]
 have n0:(h.new (.cells [.int .i64 0,.nils] 2 false)).next=h.next+1:=rfl
 generalize (h.new (.cells [.int .i64 0,.nils] 2 false))=h1 at *
 refine ah (bF (bg 1 (Mi0) rfl (Zi0) (Mi0) (oX (hv.ext x0 (ae _)) hok om) λr h2 hq=>?_))
 obtain⟨lv,mb,m,rfl,i2,_,_,_,x2⟩:=hq
 refine bp (M0) ?_
 have n2:=x2.nx
 have X2:Ext h.next h h2:=x0.trans (x2.mono om)
 have g2:h2.get h.next=some (.cells [.int .i64 0,.nils] 2 false):=by rw[x2.gt _ om]; exact g0
 have s2:=kH i2
 have l2:=s2.len
 rw[ar,ar] at l2
 have hvl:=vs_len T
 obtain⟨h3,w3,x3,g3,n3⟩:=dI (h:=h2) (z:=[.int .i64 0,.nils]) (cs:=[.int .i64 (((vs T).length:Nat):Int),.nils]) (e:=2) rfl
 refine ah (ak (M2 l2 w3) ?_)
 have g30:h3.get h.next=some (.cells [.int .i64 0,.nils] 2 false):=by rw[x3.gt _ om]; exact g2
 refine ah (ah (ak (Mi1 el) ?_))
 have hps:((vs T).map λn=>((n:Nat):Int)).Pairwise (·≤·):=List.Pairwise.map _ (λa b (h:a<b)=>by omega) (vs_rise T)
 refine fW (α:=AV) (N:=T.length) (λ_ _=>[(2,.ptr h.next 0),(4,lv),(6,.ptr h2.next 0),(21,v)])
  (λk a h'=>h'.get h2.next=some (.cells [.int .i64 (((vs T).length:Nat):Int),a] 2 false)∧IsSl h' 2 (h2.next+1) a (((rkE T).take k).flatMap eE)∧h'.get h.next=some (.cells [.int .i64 0,.nils] 2 false)∧IsSl h' 1 h1.next lv (nC (vs T))∧Ext h.next h h'∧h2.next+1≤h'.next) .nils (λ_ _=>rfl) om (Hi0)
  ⟨g3,.inl ⟨rfl,rfl⟩,g30,i2.ext x3 (ae _),X2.trans (x3.mono om),om⟩ ?_ ?_
 ·rintro k a ts h4 hk ⟨j1,j2,j3,j4,j5,j6⟩ ⟨ei,en,e2,e4,e6,e21,-⟩
  simp only at ei en e2 e4 e6 e21
  obtain⟨b1,p1,a1,r1,_⟩:=(hv.ext j5 (ae _)).at (dp (f:=eT4) hk)
  obtain⟨q1,q2,q3,q4⟩:=(hok _ (aO hk)).nat
  have htk:=xc hk
  have r1:aj h4 b1 p1 4=some [.int .i64 T[k].1,.int .i64 T[k].2.1,.int .i64 T[k].2.2.1,.int .i64 T[k].2.2.2]:=r1
  rw[q1,q2] at r1
  generalize T[k].2.2.1=c1 at *
  generalize T[k].2.2.2=c2 at *
  generalize tA T[k]=ka at *
  generalize tB T[k]=kb at *
  obtain⟨h5,w5,x5,g5,n5⟩:=dI (h:=h4) (z:=[.int .i64 0,.int .i64 0,.int .i64 0,.int .i64 0]) (cs:=[.int .i64 ((ka:Nat):Int),.int .i64 ((kb:Nat):Int),.int .i64 c1,.int .i64 c2]) (e:=4) rfl
  refine bL (ah (ak (M5 e21 ei a1 r1 w5) ?_))
  have ra:aj h5 h4.next 0 1=some [.int .i64 ((ka:Nat):Int)]:=aJ g5 rfl
  have rb:aj h5 h4.next 1 1=some [.int .i64 ((kb:Nat):Int)]:=aJ g5 rfl
  have s5:=(kH j4).ext x5 (ae _)
  have hlm:((vs T).map λn=>((n:Nat):Int)).length<2 ^ 40:=by rw[ar]; omega
  have cA:=xa T ka
  have cB:=xa T kb
  refine ah (bF (bg 3 (M2 e4 ra) rfl (Z2 e4 ra) (M2 e4 ra) (sQ (t:=((ka:Nat):Int)) s5 hps hlm) λr h6 hq=>?_))
  obtain⟨rfl,rfl⟩:=hq
  rw[cA]
  refine bp (M0) ?_
  refine ah (bF (bg 3 (M2 e4 rb) rfl (Z2 e4 rb) (M2 e4 rb) (sQ (t:=((kb:Nat):Int)) s5 hps hlm) λr h6 hq=>?_))
  obtain⟨rfl,rfl⟩:=hq
  rw[cB]
  refine bp (M0) ?_
  have hnl:=AH.lt_of_get j1
  have hnl2:=AH.lt_of_get j3
  have g56:h6.get h2.next=some (.cells [.int .i64 (((vs T).length:Nat):Int),a] 2 false):=by rw[x5.gt _ hnl]; exact j1
  have rE:aj h6 h2.next 1 1=some [a]:=aJ g56 rfl
  have hlen:(((rkE T).take k).flatMap eE).length=k*2:=by rw[dZ (f:=eE) (e:=2) (λ_=>rfl),bz,rkE_len]; congr 1; omega
  obtain⟨a',h7,p1,p2,p3,p4⟩:=(j2.ext x5 (ae _)).push (bytes:=16) [.int .i64 ((rk T ka:Nat):Int),.int .i64 ((rk T kb:Nat):Int)] om om rfl rfl (by rw[hlen,cM _ om]; unfold aQ; omega) (by rw[hlen,cM _ om]; unfold aQ; omega)
  have g7:h7.get h2.next=some (.cells [.int .i64 (((vs T).length:Nat):Int),a] 2 false):=by rw[p3.gt _ om]; exact g56
  have w7:=dN (v:=a') g7 (show 1<2 by omega)
  have u7:=NW (o:=.cells [.int .i64 (((vs T).length:Nat):Int),a'] 2 false) g7
  have w7:bD h7 h2.next 1 [a']=some (h7.put h2.next (.cells [.int .i64 (((vs T).length:Nat):Int),a'] 2 false)):=w7
  have ac:=p2.cells
  refine ak (by simp only[am,aC,simprocAttr,e6,rE,p1,ac.1,ac.2,w7]<;>rfl) ?_
  have hx5:=x5.nx
  have hx7:=p3.nx
  refine⟨a',⟨u7.get,?_,?_,?_,?_,?_⟩,H6 ei en e2 e4 e6 e21⟩
  ·rw[htk,cI]
   exact p2.upd u7 om
  ·rw[u7.ne om,p3.gt _ om,x5.gt _ hnl2]
   exact j3
  ·refine IsSl.cong (lo:=h1.next) j4 λb n e hb=>?_
   have hb4:=j4.lt e
   have hb2:=i2.lt e
   rw[u7.ne om,p3.gt _ om,x5.gt _ hb4]
  ·exact ((j5.trans (x5.mono (by have:=j5.nx; omega))).trans (p3.mono om)).trans (u7.ext om)
  ·rw[u7.nx]; omega
 ·rintro a ts h4 ⟨j1,j2,j3,j4,j5,j6⟩ ⟨e2,e4,e6,e21,-⟩
  simp only at e2 e4 e6 e21
  have rG:aj h4 h2.next 0 2=some [.int .i64 (((vs T).length:Nat):Int),a]:=by rw[aP j1]; rfl
  have ac:=j2.cells
  have w4:bD h4 h.next 0 [.int .i64 (((vs T).length:Nat):Int),a]=some (h4.put h.next (.cells [.int .i64 (((vs T).length:Nat):Int),a] 2 false)):=by
   rw[et j3]
   rfl
  have u4:=NW (o:=.cells [.int .i64 (((vs T).length:Nat):Int),a] 2 false) j3
  refine ah (ak (by simp only[am,aC,simprocAttr,e2,e4,e6,rG,w4,ac.1,ac.2]<;>rfl) ?_)
  generalize h4.put h.next (.cells [.int .i64 (((vs T).length:Nat):Int),a] 2 false)=h5 at *
  have rR:aj h5 h.next 0 2=some [.int .i64 (((vs T).length:Nat):Int),a]:=by rw[aP u4.get]; rfl
  have j2':SlE h4 a (rkE T):=by
   rw[← rkE_len T,bO] at j2
   exact NT om (λ_=>rfl) j2
  refine aV ⟨_,(by simp only[rs,rf30,am,aC,simprocAttr,rR,e2,j4.cells.1]<;>rfl),lv,a,rfl,?_,?_,j5.trans (u4.ext (ae _))⟩
  ·exact (j4.upd u4 om).mono om
  ·exact j2'.cong λb o n c e=>u4.ne λq=>by
    subst q
    rcases j2 with ⟨rfl,_⟩|⟨b',n',hb,rfl,_⟩
    ·cases e
    ·cases e; omega
end Go.Proofs.YthbmhbldmcbnpaaGreatDoor
