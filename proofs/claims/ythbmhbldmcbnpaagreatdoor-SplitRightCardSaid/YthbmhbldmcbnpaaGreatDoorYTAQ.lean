/- split.rigid, Skeleton.right -/
import Derived.Test.YthbmhbldmcbnpaaGreatDoorYTAP
import Derived.Test.YthbmhbldmcbnpaaGreatDoorYTAI
import Derived.Test.YthbmhbldmcbnpaaGreatDoorYTAJ
set_option linter.all false
namespace Go.Proofs.YthbmhbldmcbnpaaGreatDoor
open Go.Am
open Go.Spl (T4 OkT tA tB deg vs rk rkE mem_vs vs_len vs_rise vs_nodup end_vs rk_mem rk_lt rk_inj rkE_len nParts)
def wNo (_:Nat):Bool:=false
def iQ (a b x:Nat):Bool:=decide (x=a)||decide (x=b)
def iC (T:List T4) (w:Nat→Bool):Prop:=nParts (vs T).length (rkE T).length (tlE (rkE T)) (hdE (rkE T)) w=1
def GH (T:List T4):Prop:=∀ i (hi:i<T.length) k (hk:k<T.length),k<i→¬ (tA T[i]=tA T[k]∧tB T[i]=tB T[k])
def RigK (T:List T4):Prop:=4≤(vs T).length∧GH T∧∀ a b,b<a→a<(vs T).length→iC T (iQ a b)
def RingK (T:List T4):Prop:=(vs T).length=T.length∧iC T wNo∧∀ x∈vs T,deg T x=2
def IsK (kind:Int) (T:List T4):Prop:=3≤T.length∧((kind=2∧(vs T).length=2)∨(kind=1∧RingK T)∨(kind=3∧RigK T))
theorem yY {T:List T4} (hok:∀ t∈T,OkT t) (h0:0<(vs T).length):fE (((vs T).length:Nat):Int) (rkE T)=decide (T.length≤128):=by
 have hin:=yZ hok
 have h1:=vs_len T
 have e:(rkE T).all (okE (((vs T).length:Nat):Int))=true:=bS.2 λe he=>by
  obtain⟨i,hi,rfl⟩:=db he
  obtain⟨q1,q2,q3⟩:=hin i hi
  rw[q1]
  unfold okE
  simp only[aH,az]
  omega
 unfold fE
 rw[e,rkE_len,aq (by omega:(1:Int)≤(((vs T).length:Nat):Int)),aq (by omega:(((vs T).length:Nat):Int)≤64)]
 simp
theorem nZ {T:List T4}{i:Nat} (hi:i<T.length) (h:i<(rkE T).length):(rkE T)[i]=(((rk T (tA T[i]):Nat):Int),((rk T (tB T[i]):Nat):Int)):=by simp [rkE]
theorem EQ {T:List T4} (hok:∀ t∈T,OkT t) (h0:0<(vs T).length):lF (((vs T).length:Nat):Int) (rkE T)↔T.length≤128∧GH T:=by
 have key:∀ i (hi:i<T.length),rk T (tA T[i])<rk T (tB T[i]):=λi hi=>by
  obtain⟨m1,m2⟩:=end_vs hok (aO hi)
  exact rk_lt m1 m2 (hok _ (aO hi)).nat.2.2.1
 have hmn:∀ i (hi:i<T.length),mnx (((rk T (tA T[i]):Nat):Int),((rk T (tB T[i]):Nat):Int))=(((rk T (tA T[i]):Nat):Int),((rk T (tB T[i]):Nat):Int)):=λi hi=>by
  have:=key i hi
  unfold mnx mnI mxI
  rw[if_neg om,if_pos om]
 unfold lF
 rw[yY hok h0,az]
 constructor
 ·rintro⟨h1,_,h3⟩
  refine⟨h1,λi hi k hk hki ⟨e1,e2⟩=>?_⟩
  have:=(GK (h₀:=by simpa [rkE] using hi) (h₁:=by simpa [rkE] using hk) h3 (i:=i) (j:=k)).1 (by
   rw[bt,bt,nZ hi,nZ hk,e1,e2])
  omega
 ·rintro⟨h1,h2⟩
  refine⟨h1,λe he=>?_,?_⟩
  ·obtain⟨i,hi,rfl⟩:=db he
   have hi':i<T.length:=by rw[rkE_len] at hi; exact hi
   rw[nZ hi']
   have:=key i hi'
   simp only
   omega
  ·rw[List.Nodup,dh]
   intro i j hi hj hij e
   have hi':i<T.length:=by simpa [rkE] using hi
   have hj':j<T.length:=by simpa [rkE] using hj
   rw[bt,bt,nZ hi',nZ hj',hmn i hi',hmn j hj',ap] at e
   obtain⟨a1,a2⟩:=end_vs hok (aO hi')
   obtain⟨b1,b2⟩:=end_vs hok (aO hj')
   exact h2 j hj' i hi' hij ⟨rk_inj b1 a1 om,rk_inj b2 a2 om⟩
theorem Sl.selfV {h:AH}{e:Nat}{v:AV}{xs:List (List AV)} (hs:Sl h e v xs):v.same v=true:=by
 rcases hs with ⟨rfl,rfl|rfl⟩|⟨b,o,c,cs,ro,rfl,h2,h3⟩
 ·rfl
 ·rfl
 ·simp [AV.same]
theorem EE {n:Int}{ev:AV} (h:ev.same ev=true):AV.same (.agg [.int .i64 n,ev]) (.agg [.int .i64 n,ev])=true:=by
 simp [AV.same,AV.sames,h]
set_option maxHeartbeats 2000000 in
theorem yN {h:AH}{v:AV}{T:List T4} (hv:qA h v T) (hok:∀ t∈T,OkT t) (hxl:T.length<2 ^ 30) :
 C prg 34 [v] h λr h'=>∃ b,r=.bool b∧(b=true↔RigK T∧T.length≤128)∧Ext h.next h h':=by
 have hvl:=vs_len T
 refine NX pf34 ?_
 refine ah (ak (Mi0) ?_)
 refine ah (bF (bg 1 (Mi0) rfl (Zi0) (Mi0) (qV hv hok hxl) λr h2 hq=>?_))
 obtain⟨lv,ev,rfl,i2,he2,x2⟩:=hq
 have n2:=x2.nx
 have s2:=kH i2
 have l2:=s2.len
 rw[ar,ar] at l2
 obtain⟨ec,eo⟩:=he2.cells
 obtain⟨h3,w3,x3,g3,n3⟩:=dI (h:=h2) (z:=[.int .i64 0,.nils]) (cs:=[.int .i64 (((vs T).length:Nat):Int),ev]) (e:=2) rfl
 refine bp (M2 w3 eo) ?_
 have he3:=he2.ext x3 (ae _)
 have X3:Ext h.next h h3:=x2.trans (x3.mono n2)
 by_cases q4:4≤(vs T).length
 ·have c4:decide ((((vs T).length:Nat):Int)<4)=false:=ai om
  have rG:aj h3 h2.next 0 2=some [.int .i64 (((vs T).length:Nat):Int),ev]:=by rw[aP g3]; rfl
  refine ah (ah (bF (bg 5 (Mi3 l2 c4 rG) rfl (Zi3 l2 c4 rG) (Mi3 l2 c4 rG) (tU he3 (by rw[rkE_len]; omega)) λr h4 hq=>?_)))
  obtain⟨b,rfl,hb,x4⟩:=hq
  rw[EQ hok om] at hb
  refine bp (M0) ?_
  have X4:Ext h.next h h4:=X3.trans (x4.mono X3.nx)
  cases b with
  | false =>
    refine bq (Z0) (ah (ak (M0) ?_))
    exact aV ⟨.bool false,(by simp only[rs,rf34,am,aC,simprocAttr]<;>rfl),false,rfl,⟨(λq=>by cases q),λq=>hb.2 ⟨q.2,q.1.2.1⟩⟩,X4⟩
  | true =>
  obtain⟨b1,b2⟩:=hb.1 rfl
  refine cj (Z0) (be ?_)
  have hm:fE (((vs T).length:Nat):Int) (rkE T)=true:=by rw[yY hok om]; exact aq b1
  have n4:=x4.nx
  have g4:h4.get h2.next=some (.cells [.int .i64 (((vs T).length:Nat):Int),ev] 2 false):=by rw[x4.gt _ om]; exact g3
  have rN4:aj h4 h2.next 0 1=some [.int .i64 (((vs T).length:Nat):Int)]:=aJ g4 rfl
  refine ah (ah (ak (M1 rN4) ?_))
  refine fW (α:=Unit) (N:=(vs T).length) (λ_ _=>[(3,.ptr h2.next 0)])
   (λk _ h'=>(∀ a b,b<a→a<k→iC T (iQ a b))∧Ext h4.next h4 h') () (λ_ _=>rfl) om (H0) ⟨λa b _ q=>absurd q (bm _),NV⟩ ?_ ?_
  ·rintro a _ ts h5 ha ⟨j1,j2⟩ ⟨ei,en,e3,-⟩
   simp only at ei en e3
   refine ah (ak (M1 ei) ?_)
   refine ah (ah (ak (M0) ?_))
   refine fW (α:=Unit) (N:=a) (λ_ _=>[(3,.ptr h2.next 0),(5,.int .i64 ((a:Nat):Int)),(22,.int .i64 ((a:Nat):Int)),(21,.int .i64 (((vs T).length:Nat):Int))])
    (λk _ h'=>(∀ b,b<k→iC T (iQ a b))∧Ext h4.next h4 h') () (λ_ _=>rfl) om (H3 ei en e3) ⟨λb q=>absurd q (bm _),j2⟩ ?_ ?_
   ·clear ei en e3
    rintro b _ ts h6 hb' ⟨k1,k2⟩ ⟨ei,en,e3,e5,e22,e21,-⟩
    simp only at ei en e3 e5 e22 e21
    refine ah (ak (M1 ei) ?_)
    have hx6:=k2.nx
    obtain⟨xp,pp,np,yp⟩:=gq (h:=h6) (o:=.cells [.int .i64 ((a:Nat):Int),.int .i64 ((b:Nat):Int)] 1 false)
    have q7:(h6.keep 1).get h6.next=some .resv:=fN
    have kg:∀ c,c<h6.next→(h6.keep 1).get c=h6.get c:=λc hc=>by rw[AH.keep_get,if_neg om]
    have g6:h6.get h2.next=some (.cells [.int .i64 (((vs T).length:Nat):Int),ev] 2 false):=by rw[k2.gt _ om]; exact g4
    have rG6:aj (h6.keep 1) h2.next 0 2=some [.int .i64 (((vs T).length:Nat):Int),ev]:=by rw[bG (kg _ om),aP g6]; rfl
    have rp2:bX [AV.int .i64 0] 2=[.int .i64 0,.int .i64 0]:=rfl
    have sx:SlI ((h6.keep 1).put h6.next (.cells [.int .i64 ((a:Nat):Int),.int .i64 ((b:Nat):Int)] 1 false)) (.sl h6.next 0 2 2) [((a:Nat):Int),((b:Nat):Int)]:=Sl.row (vs:=[.int .i64 ((a:Nat):Int),.int .i64 ((b:Nat):Int)]) pp rfl (ae _)
    have sE:=he3.ext (x4.trans ((k2.mono om).trans (xp.mono om))) (ae h3.next)
    have gp:((h6.keep 1).put h6.next (.cells [.int .i64 ((a:Nat):Int),.int .i64 ((b:Nat):Int)] 1 false)).get h2.next=some (.cells [.int .i64 (((vs T).length:Nat):Int),ev] 2 false):=by rw[yp _ om]; exact g6
    have rGp:aj ((h6.keep 1).put h6.next (.cells [.int .i64 ((a:Nat):Int),.int .i64 ((b:Nat):Int)] 1 false)) h2.next 0 2=some [.int .i64 (((vs T).length:Nat):Int),ev]:=by rw[aP gp]; rfl
    refine ah (sW (kU 4 (by simp only[am,aC,simprocAttr,ei,e3,e5,rG6,eP,eV q7,rp2]<;>rfl) rfl (by simp only[am,aC,simprocAttr,ei,e3,e5,rG6,eP,eV q7,rp2]) (by simp only[am,aC,simprocAttr,ei,e3,e5,rG6,eP,eV q7,rp2]<;>rfl) (xi sx (by simp)) λr h7 hq=>?_))
    obtain⟨rfl,rfl⟩:=hq
    generalize (h6.keep 1).put h6.next (.cells [.int .i64 ((a:Nat):Int),.int .i64 ((b:Nat):Int)] 1 false)=h7 at *
    refine⟨by simp only[am,aC,simprocAttr,e3,rGp,EE (Sl.selfV sE)],?_⟩
    have hh:∀ y:Nat,y<(vs T).length→fG (ofL [((a:Nat):Int),((b:Nat):Int)]) ((y:Nat):Int)=iQ a b y:=λy hy=>by
     rw[cW,AZ]
     unfold iQ
     simp only[aA,bH,or_false,bV,az]
     omega
    refine mU (Z1 e3) (M1 e3) (mf (n:=(vs T).length) sE hm (vz _) hh) λr h8 hq=>?_
    obtain⟨lr,x8⟩:=hq
    have X8:Ext h4.next h4 h8:=(k2.trans (xp.mono om)).trans (x8.mono om)
    by_cases qc:iC T (iQ a b)
    ·have cc:decide (((nParts (vs T).length (rkE T).length (tlE (rkE T)) (hdE (rkE T)) (iQ a b):Nat):Int)=1)=true:=aq (by unfold iC at qc; omega)
     refine bp (M2 lr cc) ?_
     refine cj (Z0) (be ?_)
     refine⟨(),⟨λb' hb=>?_,X8⟩,H6 ei en e3 e5 e22 e21⟩
     by_cases e:b'=b
     ·subst e; exact qc
     ·exact k1 b' om
    ·have cc:decide (((nParts (vs T).length (rkE T).length (tlE (rkE T)) (hdE (rkE T)) (iQ a b):Nat):Int)=1)=false:=ai (by unfold iC at qc; omega)
     refine bp (M2 lr cc) ?_
     refine bq (Z0) (ah (ak (M0) ?_))
     exact aV ⟨.bool false,(by simp only[rs,rf34,am,aC,simprocAttr]<;>rfl),false,rfl,⟨(λq=>by cases q),λq=>absurd (q.1.2.2 a b hb' ha) qc⟩,X4.trans (X8.mono X4.nx)⟩
   ·clear ei en e3
    rintro _ ts h6 ⟨k1,k2⟩ ⟨e3,e5,e22,e21,-⟩
    simp only at e3 e5 e22 e21
    refine⟨(),⟨λa' b hb ha'=>?_,k2⟩,H3 e3 e22 e21⟩
    by_cases e:a'=a
    ·subst e; exact k1 b hb
    ·exact j1 a' b hb om
  ·rintro _ ts h5 ⟨j1,j2⟩ ⟨e3,-⟩
   refine ah (ak (M0) ?_)
   exact aV ⟨.bool true,(by simp only[rs,rf34,am,aC,simprocAttr]<;>rfl),true,rfl,⟨λ_=>⟨⟨q4,b2,λa b hb ha=>j1 a b hb ha⟩,b1⟩,λ_=>rfl⟩,X4.trans (j2.mono X4.nx)⟩
 ·have c4:decide ((((vs T).length:Nat):Int)<4)=true:=aq om
  refine ah (ah (bF (ee 5 (Mi2 l2 c4) rfl (Z0) ?_)))
  refine bp (M0) ?_
  refine bq (Z0) (ah (ak (M0) ?_))
  exact aV ⟨.bool false,(by simp only[rs,rf34,am,aC,simprocAttr]<;>rfl),false,rfl,⟨(λq=>by cases q),λq=>absurd q.1.1 q4⟩,X3⟩
open Go.Am
open Go.Blk (RC)
open Go.Spl (T4 tE tL FT cntF plc mem_plc nParts one_part cw rc_sub)
abbrev SK:=Int×List T4
def SkL (h:AH) (v:AV) (S:List SK):Prop:=∃ ws:List AV,ws.length=S.length∧Sl h 2 v ((List.zipWith (λ(p:SK) (w:AV)=>([.int .i64 p.1,w]:List AV)) S ws))∧∀ (i:Nat) (p:SK) (w:AV),S[i]?=some p→ws[i]?=some w→qA h w p.2
theorem SkL.ext {h h':AH}{n:Nat}{v:AV}{S:List SK} (hs:SkL h v S) (hx:Ext n h h') (hn:h.next≤n):SkL h' v S:=by
 obtain⟨ws,h1,h2,h3⟩:=hs
 exact⟨ws,h1,h2.ext hx hn,λi p w q1 q2=>(h3 i p w q1 q2).ext hx hn⟩
theorem SkL.len {h:AH}{v:AV}{S:List SK} (hs:SkL h v S):gD v=some (.int .i64 (S.length:Nat)):=by
 obtain⟨ws,h1,h2,h3⟩:=hs
 have:=h2.len
 rwa [List.length_zipWith,h1,Nat.min_self] at this
theorem SkL.at {h:AH}{v:AV}{S:List SK} (hs:SkL h v S) {i:Nat} (hi:i<S.length):∃ b p w,jV 2 v (.int .i64 (i:Nat))=some (.ptr b p)∧aj h b p 2=some [.int .i64 S[i].1,w]∧aj h b p 1=some [.int .i64 S[i].1]∧qA h w S[i].2∧b<h.next:=by
 obtain⟨ws,h1,h2,h3⟩:=hs
 have hw:i<ws.length:=om
 obtain⟨b,p,a1,r1,r2,hb⟩:=h2.at (i:=i) (x:=[.int .i64 S[i].1,ws[i]]) (by
  rw[List.getElem?_zipWith,au hi,au hw])
 have r3:=r2 0 (.int .i64 S[i].1) rfl
 rw[ce] at r3
 exact⟨b,p,ws[i],a1,r1,r3,h3 i _ _ (au hi) (au hw),hb⟩
def dP (S:List SK) (p:Nat):Int:=(S.getD p (0,[])).1
def tP (F:FT) (k:Nat):Nat:=(plc F k).getD 0 0
def tQ (F:FT) (k:Nat):Nat:=(plc F k).getD 1 0
def qu (F:FT) (S:List SK) (k:Nat):Prop:=∃ p q,plc F k=[p,q]∧p≠q∧(dP S p=dP S q→dP S p=3)
def qv (F:FT) (S:List SK):Prop:=1≤S.length∧(∀ k:Nat,plc F k≠[]↔k<S.length-1)∧(∀ k,k<S.length-1→qu F S k)∧∀ x y,x<S.length→y<S.length→RC (S.length-1) (tP F) (tQ F) (λ_=>true) x y
theorem ov {S:List SK}{i:Nat} (hi:i<S.length):dP S i=S[i].1:=by
 unfold dP
 rw[aF,au hi]
 rfl
theorem wK {E:List (Int×Int)}{a b:Nat}{i:Nat} (h:E[i]?=some (((a:Nat):Int),((b:Nat):Int))):tlE E i=a∧hdE E i=b:=by
 unfold tlE hdE
 rw[aF,h]
 simp
theorem FC {l:List Nat} (hn:l.Nodup) (hb:∀ k∈l,k<l.length) (k:Nat):k∈l↔k<l.length:=by
 have hp:l.Perm (List.range l.length):=Kur.perm_of_sub hn (λk hk=>aL.2 (hb k hk)) (by rw[aZ]; exact ae _)
 rw[hp.mem_iff,aL]
theorem MapL.ents {h:AH}{lo c:Nat}{es:List (AV×AV×Nat)}{ml:ML} (m:MapL h lo es c ml) (hn:(ml.map (·.1)).Nodup):∃ l:List (Nat×AV),EsG kN es c l∧l.length=ml.length∧(∀ i (hi:i<l.length) (hm:i<ml.length),l[i].1=ml[i].1∧IsSl h 1 lo l[i].2 (nC ml[i].2)):=by
 have hel:=m.len
 have hk:∀ i (hi:i<es.length) (hm:i<ml.length),es[i].1=kN ml[i].1:=λi hi hm=>by
  have q:(es.map (·.1))[i]?=_:=congrArg (·[i]?) m.keys
  rw[aE,aE,aE,au hi,au hm] at q
  exact Option.some.inj q
 refine⟨List.zipWith (λ(p:Nat×List Nat) (e:AV×AV×Nat)=>(p.1,e.2.1)) ml es,⟨?_,?_,m.st.1,m.st.2⟩,by rw[List.length_zipWith]; omega,λi hi hm=>?_⟩
 ·refine fR (by simp; omega) λi q1 q2=>?_
  have h1:i<es.length:=by simpa using q1
  have h2:i<ml.length:=om
  rw[bt,bt,lR,hk i h1 h2]
 ·have:(List.zipWith (λ(p:Nat×List Nat) (e:AV×AV×Nat)=>(p.1,e.2.1)) ml es).map (·.1)=ml.map (·.1):=by
   refine fR (by simp; omega) λi q1 q2=>?_
   rw[bt,bt,lR]
  rw[this]
  exact hn
 ·have h1:i<es.length:=om
  rw[lR]
  exact⟨rfl,m.at_ i _ _ (au h1) (au hm)⟩
def tE2 (F:FT) (k:Nat):Int×Int:=(((tP F k:Nat):Int),((tQ F k:Nat):Int))
theorem FP {F:FT}{S:List SK}{ks:List Nat} (hS:1≤S.length) (hn:ks.Nodup) (hl:ks.length=S.length-1) (hk:∀ k,k∈ks↔plc F k≠[]) (h1:∀ k∈ks,k<ks.length) (h2:∀ k∈ks,qu F S k) (hp:∀ p∈F,p.1<S.length) :
 qv F S↔nParts S.length (ks.map (tE2 F)).length (tlE (ks.map (tE2 F))) (hdE (ks.map (tE2 F))) wNo=1:=by
 have hall:=FC hn h1
 have hbd:∀ k∈ks,tP F k<S.length∧tQ F k<S.length:=λk hk'=>by
  obtain⟨p,q,e,_,_⟩:=h2 k hk'
  have a1:p∈plc F k:=by rw[e]; simp
  have a2:q∈plc F k:=by rw[e]; simp
  obtain⟨t1,m1,_⟩:=mem_plc.1 a1
  obtain⟨t2,m2,_⟩:=mem_plc.1 a2
  unfold tP tQ
  rw[e]
  exact⟨hp _ m1,hp _ m2⟩
 have hat:∀ i (hi:i<ks.length),tlE (ks.map (tE2 F)) i=tP F ks[i]∧hdE (ks.map (tE2 F)) i=tQ F ks[i]:=λi hi=>wK (by rw[aE,au hi]; rfl)
 rw[one_part ⟨0,om,rfl⟩ λi hi=>by
  have hi':i<ks.length:=by simpa using hi
  obtain⟨e1,e2⟩:=hat i hi'
  rw[e1,e2]
  exact hbd _ (aO hi')]
 have key:(∀ x y,x<S.length→y<S.length→RC (S.length-1) (tP F) (tQ F) (λ_=>true) x y)↔∀ x y,x<S.length→y<S.length→wNo x=false→wNo y=false→RC (ks.map (tE2 F)).length (tlE (ks.map (tE2 F))) (hdE (ks.map (tE2 F))) (cw (tlE (ks.map (tE2 F))) (hdE (ks.map (tE2 F))) wNo) x y:=by
  constructor
  ·intro h x y hx hy _ _
   refine rc_sub (λk hk1 _=>?_) (h x y hx hy)
   obtain⟨i,hi,e⟩:=db ((hall k).2 om)
   obtain⟨e1,e2⟩:=hat i hi
   exact⟨i,by simpa using hi,rfl,.inl ⟨by rw[e1,e],by rw[e2,e]⟩⟩
  ·intro h x y hx hy
   refine rc_sub (λi hi _=>?_) (h x y hx hy rfl rfl)
   have hi':i<ks.length:=by simpa using hi
   obtain⟨e1,e2⟩:=hat i hi'
   exact⟨ks[i],by have:=h1 _ (aO hi'); omega,rfl,.inl ⟨e1.symm,e2.symm⟩⟩
 unfold qv
 rw[← key]
 constructor
 ·exact λq=>q.2.2.2
 ·exact λq=>⟨hS,λk=>by rw[← hk,hall,hl],λk hk'=>h2 k ((hall k).2 om),q⟩
set_option maxHeartbeats 2000000 in
theorem BB {h:AH}{lo cb eb lb nb av:Nat}{n:Int}{ev v:AV}{F:FT}{S:List SK}{cnt:Int} (c:Chk h lo cb eb lb nb av n ev F cnt) (hs:SkL h v S) (hS64:S.length≤64) (hp:∀ p∈F,p.1<S.length) (hF:F.length<2 ^ 29) :
 C prg 16 [.ptr cb 0,v] h λr h'=>∃ b,r=.bool b∧(b=true↔qv F S)∧Ext h.next h h':=by
 obtain⟨es,cc,ml,l1,l2,l3,l4,l5,_⟩:=c.lm
 obtain⟨o1,o2,o3,o4,o5,o6,o7,o8,o9,o10,o11,o12⟩:=c.ord
 obtain⟨l,hE,hll,hla⟩:=l2.ents l4
 have sl:=hs.len
 have hcb:=AH.lt_of_get c.cell
 have hlb:=AH.lt_of_get l1
 have r3:aj h cb 3 1=some [.mp lb]:=aJ c.cell rfl
 have hlen:kJ h (.mp lb)=some (.int .i64 ((l.length:Nat):Int)):=by
  have:=hE.ent.len
  simp only[kJ,l1,this]
 have hkeys:∀ k,k∈ml.map (·.1)↔plc F k≠[]:=λk=>by
  rw[← l3 k]
  constructor
  ·intro q
   obtain⟨p,hp,rfl⟩:=bi.1 q
   rw[vF l4 hp]
   exact l5 p hp
  ·intro q
   refine Classical.byContradiction λhc=>q (oq hc)
 have hplc:∀ i (hi:i<ml.length),plc F ml[i].1=ml[i].2:=λi hi=>by
  rw[← l3,vF l4 (aO hi)]
 have w1:IntKind.i64.wrap (((S.length:Nat):Int)-1)=((S.length:Nat):Int)-1:=fp om om
 refine NX pf16 ?_
 refine ah (ak (Mi0) ?_)
 by_cases hN:((l.length:Nat):Int)=((S.length:Nat):Int)-1
 ·have d1:decide (((l.length:Nat):Int)=((S.length:Nat):Int)-1)=true:=aq hN
  refine ah (ah (ak (Mi5 r3 hlen sl w1 d1) ?_))
  refine cj (Z0) (be ?_)
  have hS1:1≤S.length:=om
  have hlS:l.length=S.length-1:=om
  obtain⟨h2,w2,x2,g2,n2⟩:=dI (h:=h) (z:=[.int .i64 0,.nils]) (cs:=[.int .i64 ((S.length:Nat):Int),.nils]) (e:=2) rfl
  refine ah (ak (Mi2 sl w2) ?_)
  have r32:aj h2 cb 3 1=some [.mp lb]:=by rw[bG (x2.gt _ hcb)]; exact r3
  have l12:h2.get lb=some (.mapo es cc):=by rw[x2.gt _ hlb]; exact l1
  have hrg:vp h2 (.mp lb)=some (.ptr h2.next 0,h2.new (.mit (some lb) cc [] cc)):=by simp only[vp,l12]
  have x3:Ext h2.next h2 (h2.new (.mit (some lb) cc [] cc)):=NU (ae _)
  have gi:(h2.new (.mit (some lb) cc [] cc)).get h2.next=some (.mit (some lb) cc [] cc):=by rw[AH.get_new,if_pos rfl]
  have n3:(h2.new (.mit (some lb) cc [] cc)).next=h2.next+1:=rfl
  refine ah (ah (ak (Mi2 r32 hrg) ?_))
  generalize h2.new (.mit (some lb) cc [] cc)=h3 at *
  have g23:h3.get h.next=some (.cells [.int .i64 ((S.length:Nat):Int),.nils] 2 false):=by rw[x3.gt _ om]; exact g2
  have X3:Ext h.next h h3:=x2.trans (x3.mono om)
  let key:Nat→Nat:=λi=>(ml.getD i (0,[])).1
  have hkey:∀ i (hi:i<ml.length),key i=ml[i].1:=λi hi=>by
   show (ml.getD i (0,[])).1=_
   rw[aF,au hi]
   rfl
  refine oI (λts h'=>∃ (a:AV) (ix:List Nat),ix.Perm (List.range l.length)∧(∀ i∈ix,key i<l.length∧qu F S (key i))∧h'.get h.next=some (.cells [.int .i64 ((S.length:Nat):Int),a] 2 false)∧IsSl h' 2 h3.next a ((ix.map λi=>tE2 F (key i)).flatMap eE)∧Ext h.next h h'∧Held [(5,.ptr h.next 0)] ts) ?_ ?_
  ·refine bL (fI (λm ts h'=>∃ (a:AV) (ix:List Nat),m=l.length-ix.length∧ix.Nodup∧(∀ i∈ix,i<l.length)∧(∀ i∈ix,key i<l.length∧qu F S (key i))∧h'.get h.next=some (.cells [.int .i64 ((S.length:Nat):Int),a] 2 false)∧IsSl h' 2 h3.next a ((ix.map λi=>tE2 F (key i)).flatMap eE)∧Ext h.next h h'∧h3.next≤h'.next ∧
    h'.get h2.next=some (.mit (some lb) cc (ix.map λi=>(es.getD i (.nilp,.nilp,0)).2.2) cc)∧Held [(0,.ptr cb 0),(1,v),(5,.ptr h.next 0),(24,.ptr h2.next 0)] ts) ?_ (n:=l.length)
    ⟨.nils,[],by simp,nV,(λi hi=>by cases hi),(λi hi=>by cases hi),g23,.inl ⟨rfl,rfl⟩,X3,ae _,gi,Hi0⟩)
   rintro m ts hB ⟨a,ix,rfl,i1,i2,i3,i4,i5,i6,i7,i8,e0,e1,e5,e24,-⟩
   simp only at e0 e1 e5 e24
   have b3:hB.get lb=some (.mapo es cc):=by rw[i6.gt _ hlb]; exact l1
   obtain⟨al,q1,q2⟩:=Ao hE b3 i1 i2 i8
   refine ah (bF (MY rfl (by rw[zE,e24]; exact q1) λv' h' hv=>⟨rfl,?_⟩))
   rcases q2 v' h' hv with ⟨p1,rfl,rfl⟩|⟨i,hi,⟨p1,p2,p3,p4,rfl,rfl,p5⟩|hf⟩
   ·refine bp (M0) ?_
    refine ah (cj (Z0) ?_)
    exact eX ⟨λ_=>⟨a,ix,p1,i3,i4,i5,i6,H1 e5⟩,λe=>absurd rfl e⟩
   ·have hmi:i<ml.length:=om
    obtain⟨a1,a2⟩:=hla i hi hmi
    have u:=NW (o:=.mit (some lb) cc ((ix++[i]).map λi=>(es.getD i (.nilp,.nilp,0)).2.2) cc) i8
    generalize hB.put h2.next (.mit (some lb) cc ((ix++[i]).map λi=>(es.getD i (.nilp,.nilp,0)).2.2) cc)=hC at *
    have X6:Ext h.next h hC:=i6.trans (u.ext om)
    have nC':=u.nx
    rw[a1] at p5
    have sv:IsSl hC 1 lo l[i].2 (nC ml[i].2):=a2.ext X6 (ae _)
    have svl:=(kH sv).len
    rw[ar,ar] at svl
    have hpk:=hplc i hmi
    have hki:=hkey i hmi
    have gt:hC.get h.next=some (.cells [.int .i64 ((S.length:Nat):Int),a] 2 false):=by rw[u.ne om]; exact i4
    have cellC:hC.get cb=some (.cells [.int .i64 n,ev,.mp eb,.mp lb,.mp nb,.int .i64 cnt] 6 false):=by rw[X6.gt _ hcb]; exact c.cell
    have r3C:aj hC cb 3 1=some [.mp lb]:=aJ cellC rfl
    have hlenC:kJ hC (.mp lb)=some (.int .i64 ((l.length:Nat):Int)):=by
     have h1:hC.get lb=some (.mapo es cc):=by rw[X6.gt _ hlb]; exact l1
     have:=hE.ent.len
     simp only[kJ,h1,this]
    refine bp (M1 a1) ?_
    refine ah (bq (Z0) (be ?_))
    refine bL (ah (ak (M2 e24 p5) ?_))
    have hmem:ml[i].1∈ml.map (·.1):=dq (aO hmi)
    have hbad:¬ qu F S ml[i].1→¬ qv F S:=λhno hq=>hno (hq.2.2.1 _ ((hq.2.1 _).1 ((hkeys _).1 hmem)))
    have hret:¬ qv F S→∃ b,(AV.bool false)=.bool b∧(b=true↔qv F S)∧Ext h.next h hC:=λq=>⟨false,rfl,⟨(λe=>by cases e),λe=>absurd e q⟩,X6⟩
    refine ah (oI (λts' h'=>hC=h'∧(∃ p q,ml[i].2=[p,q]∧qu F S ml[i].1)∧ml[i].1<l.length∧Held [(0,.ptr cb 0),(1,v),(5,.ptr h.next 0),(24,.ptr h2.next 0),(7,l[i].2)] ts') ?_ ?_)
    ·by_cases c1:((l.length:Nat):Int)≤((ml[i].1:Nat):Int)
     ·have d1:decide (((l.length:Nat):Int)≤((ml[i].1:Nat):Int))=true:=aq c1
      refine ah (ak (M4 e0 r3C hlenC d1) ?_)
      refine bq (Z0) (ah (ak (M0) ?_))
      refine aV ⟨.bool false,(by simp only[rs,rf16,am,aC,simprocAttr]<;>rfl),hret λq=>?_⟩
      have:=(q.2.1 _).1 ((hkeys _).1 hmem)
      omega
     have d1:decide (((l.length:Nat):Int)≤((ml[i].1:Nat):Int))=false:=ai c1
     by_cases c2:(ml[i].2).length=2
     ·obtain⟨p,q,hpq⟩:∃ p q,ml[i].2=[p,q]:=by
       match h:ml[i].2,c2 with
       | [p,q],_=>exact⟨p,q,rfl⟩
      have d2:decide ((((ml[i].2).length:Nat):Int)=2)=true:=aq om
      rw[hpq] at sv hpk
      have svN:=kH sv
      obtain⟨s0b,s0p,s0a,s0r,_⟩:=svN.at1 (i:=0) (y:=.int .i64 ((p:Nat):Int)) rfl
      obtain⟨s1b,s1p,s1a,s1r,_⟩:=svN.at1 (i:=1) (y:=.int .i64 ((q:Nat):Int)) rfl
      have s0a:jV 1 l[i].2 (.int .i64 0)=some (.ptr s0b s0p):=s0a
      have s1a:jV 1 l[i].2 (.int .i64 1)=some (.ptr s1b s1p):=s1a
      have hpS:p<S.length∧q<S.length:=by
       have a1:p∈plc F ml[i].1:=by rw[hpk]; simp
       have a2:q∈plc F ml[i].1:=by rw[hpk]; simp
       obtain⟨t1,m1,_⟩:=mem_plc.1 a1
       obtain⟨t2,m2,_⟩:=mem_plc.1 a2
       exact⟨hp _ m1,hp _ m2⟩
      have hlk:qu F S ml[i].1↔p≠q∧(dP S p=dP S q→dP S p=3):=by
       constructor
       ·rintro⟨p',q',e,h1,h2⟩
        rw[hpk] at e
        simp only[cF,and_true] at e
        obtain⟨rfl,rfl⟩:=e
        exact⟨h1,h2⟩
       ·exact λ⟨h1,h2⟩=>⟨p,q,hpk,h1,h2⟩
      by_cases c3:p=q
      ·have d3:decide (((p:Nat):Int)=((q:Nat):Int))=true:=aq om
       refine ah (ak (M12 e0 r3C hlenC d1 svl d2 s0a s0r s1a s1r d3 d3) ?_)
       refine bq (Z0) (ah (ak (M0) ?_))
       exact aV ⟨.bool false,(by simp only[rs,rf16,am,aC,simprocAttr]<;>rfl),hret (hbad λq2=>(hlk.1 q2).1 c3)⟩
      have d3:decide (((p:Nat):Int)=((q:Nat):Int))=false:=ai om
      have hsC:=hs.ext X6 (ae _)
      obtain⟨k0b,k0p,w0,k0a,k0r2,k0r,_⟩:=hsC.at hpS.1
      obtain⟨k1b,k1p,w1',k1a,k1r2,k1r,_⟩:=hsC.at hpS.2
      rw[← ov hpS.1] at k0r
      rw[← ov hpS.2] at k1r
      by_cases c4:dP S p=dP S q
      ·have d4:decide (dP S p=dP S q)=true:=aq c4
       by_cases c5:dP S p=3
       ·have d5:decide (dP S p=3)=true:=aq c5
        refine ah (ak (by simp only[am,aC,simprocAttr,e0,e1,r3C,hlenC,d1,svl,d2,s0a,s0r,s1a,s1r,d3,k0a,k0r,k1a,k1r,d4,d5]<;>rfl) ?_)
        refine cj (Z0) (be ?_)
        exact⟨rfl,⟨p,q,hpq,hlk.2 ⟨c3,λ_=>c5⟩⟩,om,H4 e0 e1 e5 e24⟩
       ·have d5:decide (dP S p=3)=false:=ai c5
        refine ah (ak (by simp only[am,aC,simprocAttr,e0,e1,r3C,hlenC,d1,svl,d2,s0a,s0r,s1a,s1r,d3,k0a,k0r,k1a,k1r,d4,d5]<;>rfl) ?_)
        refine bq (Z0) (ah (ak (M0) ?_))
        exact aV ⟨.bool false,(by simp only[rs,rf16,am,aC,simprocAttr]<;>rfl),hret (hbad λq2=>c5 ((hlk.1 q2).2 c4))⟩
      ·have d4:decide (dP S p=dP S q)=false:=ai c4
       refine ah (ak (by simp only[am,aC,simprocAttr,e0,e1,r3C,hlenC,d1,svl,d2,s0a,s0r,s1a,s1r,d3,k0a,k0r,k1a,k1r,d4]<;>rfl) ?_)
       refine cj (Z0) (be ?_)
       exact⟨rfl,⟨p,q,hpq,hlk.2 ⟨c3,λe=>absurd e c4⟩⟩,om,H4 e0 e1 e5 e24⟩
     ·have d2:decide ((((ml[i].2).length:Nat):Int)=2)=false:=ai om
      refine ah (ak (M6 e0 r3C hlenC d1 svl d2) ?_)
      refine bq (Z0) (ah (ak (M0) ?_))
      refine aV ⟨.bool false,(by simp only[rs,rf16,am,aC,simprocAttr]<;>rfl),hret (hbad ?_)⟩
      rintro⟨p',q',e,_⟩
      rw[hpk] at e
      rw[e] at c2
      exact c2 rfl
    ·clear e0 e1 e5 e24
     rintro ts2 h' ⟨rfl,⟨p,q,hpq,hlink⟩,hlt,e0,e1,e5,e24,e7,-⟩
     simp only at e0 e1 e5 e24 e7
     rw[hpq] at sv hpk
     have hxk:=i7
     have q7:(hC.keep 1).get hC.next=some .resv:=fN
     have kg:∀ c,c<hC.next→(hC.keep 1).get c=hC.get c:=λc hc=>by rw[AH.keep_get,if_neg om]
     obtain⟨x7,p7,n7,y7⟩:=gq (h:=hC) (o:=.cells [.int .i64 ((p:Nat):Int),.int .i64 ((q:Nat):Int)] 2 false)
     have svk:IsSl (hC.keep 1) 1 lo l[i].2 (nC [p,q]):=sv.cong λb n e _=>kg b (sv.lt e)
     have svN:=kH svk
     obtain⟨s0b,s0p,s0a,s0r,_⟩:=svN.at1 (i:=0) (y:=.int .i64 ((p:Nat):Int)) rfl
     obtain⟨s1b,s1p,s1a,s1r,_⟩:=svN.at1 (i:=1) (y:=.int .i64 ((q:Nat):Int)) rfl
     have s0a:jV 1 l[i].2 (.int .i64 0)=some (.ptr s0b s0p):=s0a
     have s1a:jV 1 l[i].2 (.int .i64 1)=some (.ptr s1b s1p):=s1a
     have hnl:=AH.lt_of_get gt
     have rt:aj (hC.keep 1) h.next 1 1=some [a]:=aJ (by rw[kg _ hnl]; exact gt) rfl
     have hix:ix.length<64:=om
     have hlen2:((ix.map λi=>tE2 F (key i)).flatMap eE).length=ix.length*2:=by rw[dZ (f:=eE) (e:=2) (λ_=>rfl),ar]
     have i5C:IsSl hC 2 h3.next a ((ix.map λi=>tE2 F (key i)).flatMap eE):=i5.upd u om
     obtain⟨a',h9,t1,t2,t3,t4,t5,t6,_⟩:=(i5C.ext x7 (ae _)).app (bytes:=16) om om p7 om (λb n e=>by have:=i5C.lt e; omega) rfl rfl (by rw[hlen2,cM _ om]; unfold aQ; omega) (by rw[hlen2,cM _ om]; unfold aQ; omega)
     have ac:=t2.cells
     have g9:h9.get h.next=some (.cells [.int .i64 ((S.length:Nat):Int),a] 2 false):=by rw[t3.gt _ om,y7 _ hnl]; exact gt
     have w9:bD h9 h.next 1 [a']=some (h9.put h.next (.cells [.int .i64 ((S.length:Nat):Int),a'] 2 false)):=dN (v:=a') g9 (show 1<2 by omega)
     have u9:=NW (o:=.cells [.int .i64 ((S.length:Nat):Int),a'] 2 false) g9
     refine nS (by simp only[am,aC,simprocAttr,e5,e7,rt,s0a,s0r,s1a,s1r,eP,eV q7,t1,ac.1,ac.2,w9]<;>rfl) ?_
     refine⟨l.length-(ix++[i]).length,by rw[aN,aR,bo]; omega,a',ix++[i],rfl,p2,p3,λj hj=>?_,u9.get,?_,?_,by rw[u9.nx]; omega,?_,H4 e0 e1 e5 e24⟩
     ·rcases aI.1 hj with hj|hj
      ·exact i3 j hj
      ·rw[bd] at hj
       subst hj
       rw[hki]
       exact⟨hlt,hlink⟩
     ·rw[br,cI]
      have:[i].map (λi=>tE2 F (key i))=[(((p:Nat):Int),((q:Nat):Int))]:=by
       simp only[aS,mY,hki,tE2,tP,tQ,hpk]
       rfl
      rw[this]
      exact t2.upd u9 om
     ·exact ((X6.trans (x7.mono om)).trans (t3.mono om)).trans (u9.ext (ae _))
     ·rw[u9.ne om,t3.gt _ om,y7 _ (by have:=AH.lt_of_get u.get; omega)]
      exact u.get
   ·exact hf.elim
  ·rintro ts hB ⟨a,ix,p1,i3,i4,i5,i6,e5,-⟩
   simp only at e5
   have rG:aj hB h.next 0 2=some [.int .i64 ((S.length:Nat):Int),a]:=by rw[aP i4]; rfl
   have sE:SlE hB a (ix.map λi=>tE2 F (key i)):=NT om (λ_=>rfl) i5
   have hml:∀ i∈ix,i<ml.length:=λi hi=>by
    have:=(p1.mem_iff).1 hi
    rw[aL] at this
    omega
   have hksl:(ix.map key).length=S.length-1:=by rw[ar,p1.length_eq,aZ]; omega
   have hkp:(ix.map key).Perm (ml.map (·.1)):=by
    refine (p1.map key).trans ?_
    have he:(List.range l.length).map key=ml.map (·.1):=by
     refine fR (by simp; omega) λi q1 q2=>?_
     rw[bt,jF,hkey i (by simpa using q2),bt]
    rw[he]
   have hmm:ix.map (λi=>tE2 F (key i))=(ix.map key).map (tE2 F):=by rw[te]; rfl
   have hks2:∀ k∈ix.map key,k<(ix.map key).length∧qu F S k:=λk hk=>by
    obtain⟨i,hi,rfl⟩:=bi.1 hk
    have:=i3 i hi
    exact⟨om,this.2⟩
   have hiff:=FP (ks:=ix.map key) hS1 ((hkp.nodup_iff).2 l4) hksl (λk=>by rw[hkp.mem_iff]; exact hkeys k) (λk hk=>(hks2 k hk).1) (λk hk=>(hks2 k hk).2) hp
   rw[hmm] at sE
   have hm:fE ((S.length:Nat):Int) ((ix.map key).map (tE2 F))=true:=by
    unfold fE
    rw[ar,hksl]
    simp only[aH,az,bS]
    refine⟨⟨⟨om,om⟩,om⟩,λe he=>?_⟩
    obtain⟨k,hk,rfl⟩:=bi.1 he
    obtain⟨p,q,e,_,_⟩:=(hks2 k hk).2
    have a1:p∈plc F k:=by rw[e]; simp
    have a2:q∈plc F k:=by rw[e]; simp
    obtain⟨t1,m1,_⟩:=mem_plc.1 a1
    obtain⟨t2,m2,_⟩:=mem_plc.1 a2
    have b1:=hp _ m1
    have b2:=hp _ m2
    unfold okE tE2 tP tQ
    rw[e]
    simp only[List.getD_cons_zero,List.getD_cons_succ,aH,az]
    simp only at b1 b2
    omega
   refine ah (bF (bg 1 (M2 e5 rG) rfl (Z2 e5 rG) (M2 e5 rG) (mf (w:=wNo) (Wz:=0) (n:=S.length) sE hm ⟨om,om⟩ (λy _=>ow _)) λr h4 hq=>?_))
   obtain⟨lr,x4⟩:=hq
   refine bp (M1 lr) ?_
   refine aV ⟨.bool (decide (((nParts S.length ((ix.map key).map (tE2 F)).length (tlE ((ix.map key).map (tE2 F))) (hdE ((ix.map key).map (tE2 F))) wNo:Nat):Int)=1)),(by simp only[rs,rf16,am,aC,simprocAttr]<;>rfl),_,rfl,?_,i6.trans (x4.mono i6.nx)⟩
   rw[az,hiff]
   omega
 ·have d1:decide (((l.length:Nat):Int)=((S.length:Nat):Int)-1)=false:=ai hN
  refine ah (ah (ak (Mi5 r3 hlen sl w1 d1) ?_))
  refine bq (Z0) (ah (ak (M0) ?_))
  refine aV ⟨.bool false,(by simp only[rs,rf16,am,aC,simprocAttr]<;>rfl),false,rfl,⟨(λq=>by cases q),λq=>?_⟩,NV⟩
  refine absurd ?_ hN
  have hkk:∀ k,k∈ml.map (·.1)↔k<S.length-1:=λk=>(hkeys k).trans (q.2.1 k)
  have h1:=Kur.len_le_of_sub l4 (m:=List.range (S.length-1)) λk hk=>aL.2 ((hkk k).1 hk)
  have h2:=Kur.len_le_of_sub (l:=List.range (S.length-1)) iB (m:=ml.map (·.1)) λk hk=>(hkk k).2 (aL.1 hk)
  rw[ar,aZ] at h1 h2
  have:=q.1
  omega
end Go.Proofs.YthbmhbldmcbnpaaGreatDoor
