/- Skeleton.right -/
import Derived.Test.YthbmhbldmcbnpaaGreatDoorYTAQ
import Derived.Test.YthbmhbldmcbnpaaGreatDoorYTAN
import Derived.Test.YthbmhbldmcbnpaaGreatDoorYTAD
set_option linter.all false
namespace Go.Proofs.YthbmhbldmcbnpaaGreatDoor
open Go.Am
open Go.Spl (T4 OkT tA tB deg vs rk rkE mem_vs vs_len vs_rise vs_nodup end_vs rk_mem rkE_len nParts)
theorem wN {h:AH}{cb mb:Nat}{T:List T4}{m:List (Nat×AV)} (hc:h.get cb=some (.cells [.mp mb] 1 false)) (hm:MapG kN h mb m) (hd:DegM T m) (x:Nat) :
 C prg 33 ([.int .i64 ((x:Nat):Int)]++[.ptr cb 0]) h λr h'=>r=.bool (!decide (deg T x=2))∧h'=h:=by
 refine NX pf33 ?_
 have rc:aj h cb 0 1=some [.mp mb]:=aJ hc rfl
 have lk:fZ h .ki false (.int .i64 0) (.mp mb) (.int .i64 ((x:Nat):Int))=some (.int .i64 ((deg T x:Nat):Int)):=by
  have:=hm.look to (.int .i64 0) x
  rw[hd.get] at this
  exact this
 have cc:decide (((deg T x:Nat):Int)=2)=decide (deg T x=2):=by
  rw[decide_eq_decide]; omega
 refine ah (ak (Mi0) ?_)
 refine ah (ak (Mi3 rc lk cc) ?_)
 exact aV ⟨_,(by simp only[rs,rf33,am,aC,simprocAttr]<;>rfl),rfl,rfl⟩
set_option maxHeartbeats 2000000 in
theorem yO {h:AH}{v:AV}{kind:Int}{T:List T4} (hv:qA h v T) (hok:∀ t∈T,OkT t) (hxl:T.length<2 ^ 30) :
 C prg 15 [.agg [.int .i64 kind,v]] h λr h'=>∃ b,r=.bool b∧(b=true↔IsK kind T∧(kind=3→T.length≤128))∧Ext h.next h h':=by
 have hvl:=vs_len T
 obtain⟨vc,vo⟩:=hv.cells
 have tl:=hv.len
 rw[ar] at tl
 refine NX pf15 ?_
 refine ah (ak (Mi0) ?_)
 have x0:Ext h.next h (h.new (.cells [.int .i64 kind,v] 2 false)):=NU (ae _)
 have g0:(h.new (.cells [.int .i64 kind,v] 2 false)).get h.next=some (.cells [.int .i64 kind,v] 2 false):=by rw[AH.get_new,if_pos rfl]
 have n0:(h.new (.cells [.int .i64 kind,v] 2 false)).next=h.next+1:=rfl
 generalize (h.new (.cells [.int .i64 kind,v] 2 false))=h1 at *
 have rV:aj h1 h.next 1 1=some [v]:=aJ g0 rfl
 refine ah (bF (bg 2 (Mi1 rV) rfl (Zi1 rV) (Mi1 rV) (oX (hv.ext x0 (ae _)) hok om) λr h2 hq=>?_))
 obtain⟨lv,mb,m,rfl,i2,hm2,hd2,hmb,x2⟩:=hq
 have n2:=x2.nx
 have X2:Ext h.next h h2:=x0.trans (x2.mono om)
 have s2:=kH i2
 have l2:=s2.len
 rw[ar,ar] at l2
 obtain⟨h3,w3,x3,g3,n3⟩:=dI (h:=h2) (z:=[.nilm]) (cs:=[.mp mb]) (e:=1) rfl
 refine bp (M1 w3) ?_
 have X3:Ext h.next h h3:=X2.trans (x3.mono X2.nx)
 have g30:h3.get h.next=some (.cells [.int .i64 kind,v] 2 false):=by rw[x3.gt _ om,x2.gt _ om]; exact g0
 have rV3:aj h3 h.next 1 1=some [v]:=aJ g30 rfl
 have rK3:aj h3 h.next 0 1=some [.int .i64 kind]:=aJ g30 rfl
 have hm3:=hm2.cong (x3.gt _ hm2.lt)
 have s3:=s2.ext x3 (ae _)
 by_cases q3:3≤T.length
 ·have c3:decide (((T.length:Nat):Int)<3)=false:=ai om
  refine ah (ah (ak (Mi3 rV3 tl c3) ?_))
  refine cj (Z0) (be ?_)
  refine ah (ah (ak (Mi1 rK3) ?_))
  by_cases k1:kind=1
  ·have c1:decide (kind=1)=true:=aq k1
   refine bL (ah (ak (M1 c1) ?_))
   refine bq (Z0) ?_
   refine ah (bF (bg 2 (Mi1 rV3) rfl (Zi1 rV3) (Mi1 rV3) (qV (hv.ext X3 (ae _)) hok hxl) λr h4 hq=>?_))
   obtain⟨lv4,ev,rfl,i4,he4,x4⟩:=hq
   obtain⟨ec,eo⟩:=he4.cells
   obtain⟨h5,w5,x5,g5,n5⟩:=dI (h:=h4) (z:=[.int .i64 0,.nils]) (cs:=[.int .i64 (((vs T).length:Nat):Int),ev]) (e:=2) rfl
   refine bp (M2 w5 eo) ?_
   have n4:=x4.nx
   have X5:Ext h.next h h5:=X3.trans ((x4.mono X3.nx).trans (x5.mono (by have:=X3.nx; omega)))
   have x35:Ext h3.next h3 h5:=x4.trans (x5.mono n4)
   have g50:h5.get h.next=some (.cells [.int .i64 kind,v] 2 false):=by rw[x35.gt _ (by have:=X3.nx; omega)]; exact g30
   have rV5:aj h5 h.next 1 1=some [v]:=aJ g50 rfl
   by_cases q:(vs T).length=T.length
   ·have c2:decide ((((vs T).length:Nat):Int)=((T.length:Nat):Int))=true:=aq om
    have rG5:aj h5 h4.next 0 2=some [.int .i64 (((vs T).length:Nat):Int),ev]:=by rw[aP g5]; rfl
    have hm:fE (((vs T).length:Nat):Int) (rkE T)=true:=by rw[yY hok om]; exact aq om
    refine ah (bF (bg 8 (Mi5 l2 rV5 tl c2 rG5) rfl (Zi5 l2 rV5 tl c2 rG5) (Mi5 l2 rV5 tl c2 rG5) (mf (w:=wNo) (Wz:=0) (n:=(vs T).length) (he4.ext x5 (ae _)) hm ⟨om,om⟩ (λy _=>ow _)) λr h6 hq=>?_))
    obtain⟨lr,x6⟩:=hq
    have X6:Ext h.next h h6:=X5.trans (x6.mono X5.nx)
    have x36:Ext h3.next h3 h6:=x35.trans (x6.mono x35.nx)
    by_cases qc:iC T wNo
    ·have cc:decide (((nParts (vs T).length (rkE T).length (tlE (rkE T)) (hdE (rkE T)) wNo:Nat):Int)=1)=true:=aq (by unfold iC at qc; omega)
     have s6:=s3.ext x36 (ae _)
     have hm6:=hm3.cong (x36.gt _ hm3.lt)
     have g36:h6.get h2.next=some (.cells [.mp mb] 1 false):=by rw[x36.gt _ om]; exact g3
     have hcf:=CZ (h:=h6) (v:=lv) (xs:=(vs T).map λn=>((n:Nat):Int)) (P:=λz=>!decide (deg T z.toNat=2)) (k:=33) (caps:=[.ptr h2.next 0]) (λ_ h'=>h'=h6) (λ_ h'=>h'=h6)
      (by rw[ar]; exact l2) (by rw[ar]; omega) rfl (λi h' e=>by subst e; exact s6) (λi hi h' e=>by
       subst e
       have hi':i<(vs T).length:=by simpa using hi
       have e:((vs T).map λn=>((n:Nat):Int))[i]=(((vs T)[i]:Nat):Int):=by simp
       rw[e]
       refine (wN g36 hm6 hd2 (vs T)[i]).mono λr h'' ⟨e1,e2⟩=>⟨e1,?_⟩
       split<;>exact e2)
     refine bg 6 (M2 lr cc) rfl (Z2 lr cc) (M2 lr cc) (hcf) λr h7 hq=>?_
     obtain⟨rfl,hq⟩:=hq
     have e7:h7=h6:=by
      rcases hq with ⟨_,e⟩|⟨_,_,e⟩<;>exact e
     subst e7
     refine bp (M0) ?_
     refine aV ⟨.bool (!(((vs T).map λn=>((n:Nat):Int)).any λz=>!decide (deg T z.toNat=2))),(by simp only[rs,rf15,am,aC,simprocAttr]<;>rfl),_,rfl,?_,X6⟩
     rw[dL,DB]
     constructor
     ·refine λp=>⟨⟨q3,.inr (.inl ⟨k1,q,qc,λx hx=>?_⟩)⟩,λe=>by omega⟩
      have:=p _ (dq hx)
      simpa using this
     ·rintro⟨⟨_,⟨e,_⟩|⟨_,_,_,p⟩|⟨e,_⟩⟩,_⟩
      ·omega
      ·intro z hz
       obtain⟨x,hx,rfl⟩:=bi.1 hz
       simpa using p x hx
      ·omega
    ·have cc:decide (((nParts (vs T).length (rkE T).length (tlE (rkE T)) (hdE (rkE T)) wNo:Nat):Int)=1)=false:=ai (by unfold iC at qc; omega)
     refine ee 6 (M2 lr cc) rfl (Z0) ?_
     refine bp (M0) ?_
     refine aV ⟨.bool false,(by simp only[rs,rf15,am,aC,simprocAttr]<;>rfl),false,rfl,⟨(λq=>by cases q),?_⟩,X6⟩
     rintro⟨⟨_,⟨e,_⟩|⟨_,_,p,_⟩|⟨e,_⟩⟩,_⟩
     ·omega
     ·exact absurd p qc
     ·omega
   ·have c2:decide ((((vs T).length:Nat):Int)=((T.length:Nat):Int))=false:=ai om
    refine ah (bF (ee 8 (Mi4 l2 rV5 tl c2) rfl (Z0) ?_))
    refine ee 6 (M0) rfl (Z0) ?_
    refine bp (M0) ?_
    refine aV ⟨.bool false,(by simp only[rs,rf15,am,aC,simprocAttr]<;>rfl),false,rfl,⟨(λq=>by cases q),?_⟩,X5⟩
    rintro⟨⟨_,⟨e,_⟩|⟨_,p,_⟩|⟨e,_⟩⟩,_⟩
    ·omega
    ·exact absurd p q
    ·omega
  have c1:decide (kind=1)=false:=ai k1
  refine bL (ah (ak (M1 c1) ?_))
  refine cj (Z0) ?_
  by_cases k2:kind=2
  ·have c2:decide (kind=2)=true:=aq k2
   refine ah (ak (M1 c2) ?_)
   refine bq (Z0) ?_
   refine ah (ak (Mi1 l2) ?_)
   refine aV ⟨.bool (decide ((((vs T).length:Nat):Int)=2)),(by simp only[rs,rf15,am,aC,simprocAttr]<;>rfl),_,rfl,?_,X3⟩
   rw[az]
   constructor
   ·exact λp=>⟨⟨q3,.inl ⟨k2,om⟩⟩,λe=>by omega⟩
   ·rintro⟨⟨_,⟨_,p⟩|⟨e,_⟩|⟨e,_⟩⟩,_⟩
    ·omega
    ·omega
    ·omega
  have c2:decide (kind=2)=false:=ai k2
  refine ah (ak (M1 c2) ?_)
  refine cj (Z0) ?_
  by_cases k3:kind=3
  ·have c3:decide (kind=3)=true:=aq k3
   refine ah (ak (M1 c3) ?_)
   refine bq (Z0) ?_
   refine ah (bF (bg 2 (Mi1 rV3) rfl (Zi1 rV3) (Mi1 rV3) (yN (hv.ext X3 (ae _)) hok hxl) λr h4 hq=>?_))
   obtain⟨b,rfl,hb,x4⟩:=hq
   refine bp (M0) ?_
   refine aV ⟨.bool b,(by simp only[rs,rf15,am,aC,simprocAttr]<;>rfl),b,rfl,hb.trans ⟨λp=>⟨⟨q3,.inr (.inr ⟨k3,p.1⟩)⟩,λ_=>p.2⟩,?_⟩,X3.trans (x4.mono X3.nx)⟩
   rintro⟨⟨_,⟨e,_⟩|⟨e,_⟩|⟨_,p⟩⟩,p2⟩
   ·omega
   ·omega
   ·exact⟨p,p2 k3⟩
  have c3:decide (kind=3)=false:=ai k3
  refine ah (ak (M1 c3) ?_)
  refine cj (Z0) (be ?_)
  refine ah (ak (M0) ?_)
  refine aV ⟨.bool false,(by simp only[rs,rf15,am,aC,simprocAttr]<;>rfl),false,rfl,⟨(λq=>by cases q),?_⟩,X3⟩
  rintro⟨⟨_,⟨e,_⟩|⟨e,_⟩|⟨e,_⟩⟩,_⟩
  ·exact absurd e k2
  ·exact absurd e k1
  ·exact absurd e k3
 ·have c3:decide (((T.length:Nat):Int)<3)=true:=aq om
  refine ah (ah (ak (Mi3 rV3 tl c3) ?_))
  refine bq (Z0) (ah (ak (M0) ?_))
  exact aV ⟨.bool false,(by simp only[rs,rf15,am,aC,simprocAttr]<;>rfl),false,rfl,⟨(λq=>by cases q),λq=>absurd q.1.1 q3⟩,X3⟩
open Go.Am
open Go.Blk (Gr Lst canon)
open Go.Spl (nBits)
theorem pO {P:RP}{b:Nat}{l l2:List ROper}{s:Option (Tm×AH)}{K:Tm→AH→Prop}{ts:Tm}{h:AH}{d:Option Nat}{f:FuncId}{args:List RO}{g:Option (Nat×Bool)}{nm:Option Nat}{cs:List (Nat×ROp×Option (Nat×Bool))} (n:Nat)
 (hs:jk b (l.take n) s=some (ts,h)) (hd:l.drop n=⟨d,.call f args,g,nm,cs⟩::l2) (hw:wanted ts g=some false) (hc:eW (cD ts d .un) h cs=true)
 (hk:G P b l2 (some (cD ts d .un,h)) K):G P b l s K:=by
 rw[← bP n l]
 refine oM ?_
 rw[hs,hd]
 refine GN ?_
 rw[kC,hw]
 have:ckR cs (some (cD ts d .un,h))=some (cD ts d .un,h):=by
  cases cs with
  | nil=>rfl
  | cons c r=>simp only[ckR,hc,if_true]
 exact this▸hk
def GQ (n:Nat) (E:List (Int×Int)):Prop:=∃ (hE:InG n E) (hL:∀ i,i<E.length→tlE E i≠hdE E i) (l:Nat→Nat),Lst (grE n E hE hL) l∧(canon E.length l).length=1
def DA (n:Int) (E:List (Int×Int)):Prop:=lF n E∧3≤E.length∧(∀ x:Nat,x<n.toNat→∃ i,i<E.length∧(tlE E i=x∨hdE E i=x))∧GQ n.toNat E
theorem sR {n:Nat}{E:List (Int×Int)} (hE:InG n E) (hL:∀ i,i<E.length→tlE E i≠hdE E i) {l:Nat→Nat} (hl:Lst (grE n E hE hL) l):GQ n E↔(canon E.length l).length=1:=by
 constructor
 ·rintro⟨h1,h2,l',hl',e⟩
  rw[← e]
  exact congrArg List.length (Go.Blk.canon_congr λi hi=>hl.uniq hl' hi)
 ·exact λe=>⟨hE,hL,l,hl,e⟩
theorem mO {n:Int}{E:List (Int×Int)} (h:lF n E):∃ nn:Nat,n=((nn:Nat):Int)∧InG nn E∧(∀ i,i<E.length→tlE E i≠hdE E i)∧1≤nn∧nn≤64∧E.length≤128∧fE ((nn:Nat):Int) E=true:=by
 have hm:=h.1
 have hn:n=((n.toNat:Nat):Int):=by
  unfold fE at hm
  simp only[aH,az] at hm
  omega
 generalize n.toNat=nn at *
 subst hn
 obtain⟨m1,m2,m3,m4⟩:=pn hm
 have hE:=FL hm
 refine⟨nn,rfl,hE,λi hi e=>?_,m1,m2,m3,hm⟩
 obtain⟨q1,q2,q3⟩:=hE i hi
 have:=h.2.1 _ (aO hi)
 rw[q1] at this
 simp only at this
 omega
def tq (E:List (Int×Int)):Int:=E.foldl (λs e=>fY s (ofL [e.1,e.2])) 0
theorem Bc (E:List (Int×Int)):inU (tq E)∧∀ y:Nat,(fG (tq E) ((y:Nat):Int)=true↔y<64∧∃ e∈E,((y:Nat):Int)=e.1∨((y:Nat):Int)=e.2):=by
 have key:∀ (l:List (Int×Int)) (s:Int),inU s→inU (l.foldl (λs e=>fY s (ofL [e.1,e.2])) s)∧∀ y:Nat,(fG (l.foldl (λs e=>fY s (ofL [e.1,e.2])) s) ((y:Nat):Int)=true↔fG s ((y:Nat):Int)=true∨(y<64∧∃ e∈l,((y:Nat):Int)=e.1∨((y:Nat):Int)=e.2)):=by
  intro l
  induction l with
  | nil=>exact λs hs=>⟨hs,λy=>by simp⟩
  | cons e r ih =>
    intro s hs
    obtain⟨h1,h2⟩:=ih (fY s (ofL [e.1,e.2])) (lf hs (vz _)).2.2
    refine⟨h1,λy=>?_⟩
    rw[dB,h2 y,si hs (vz _),bV,AZ]
    simp only[aA,bH,or_false]
    constructor
    ·rintro ((q|⟨q1,q2⟩)|⟨q1,x,q2,q3⟩)
     ·exact .inl q
     ·exact .inr ⟨q1,e,.inl rfl,q2⟩
     ·exact .inr ⟨q1,x,.inr q2,q3⟩
    ·rintro (q|⟨q1,x,rfl|q2,q3⟩)
     ·exact .inl (.inl q)
     ·exact .inl (.inr ⟨q1,q3⟩)
     ·exact .inr ⟨q1,x,q2,q3⟩
 obtain⟨h1,h2⟩:=key E 0 ⟨om,om⟩
 exact⟨h1,λy=>by rw[tq,h2,ow]; simp⟩
theorem uL {p:Nat→Bool}{n:Nat} (hp:∀ y,p y=true→y<n):∀ k,n≤k→(List.range k).countP p=(List.range n).countP p
 | 0,h=>by
   have:n=0:=om
   subst this
   rfl
 | k+1,h=>by
   by_cases e:n=k+1
   ·subst e; rfl
   ·rw[bT,dW,uL hp k om,df,jh]
    have:p k=false:=by
     cases q:p k with
     | false=>rfl
     | true=>have:=hp k q; omega
    rw[this]
    rfl
theorem FZ {nn:Nat}{E:List (Int×Int)} (hE:InG nn E) (hn:nn≤64) {x:Nat} (hx:tq E=((x:Nat):Int)) (hx2:x<2 ^ 64):nBits x=nn↔∀ y,y<nn→∃ i,i<E.length∧(tlE E i=y∨hdE E i=y):=by
 obtain⟨h1,h2⟩:=Bc E
 have hb:∀ y,x.testBit y=true↔y<64∧∃ i,i<E.length∧(tlE E i=y∨hdE E i=y):=λy=>by
  have:=h2 y
  rw[hx,mP hx2,aH,az] at this
  constructor
  ·intro q
   have hy:y<64:=by
    refine Classical.byContradiction λhc=>?_
    have:=sZ (x:=x) (i:=y) (cY hx2 (wq om om))
    rw[q] at this
    cases this
   obtain⟨_,e,he,q2⟩:=this.1 ⟨hy,q⟩
   obtain⟨i,hi,rfl⟩:=db he
   rw[(hE i hi).1] at q2
   simp only at q2
   exact⟨hy,i,hi,om⟩
  ·rintro⟨hy,i,hi,q⟩
   refine (this.2 ⟨hy,E[i],aO hi,?_⟩).2
   rw[(hE i hi).1]
   simp only
   omega
 have hlt:∀ y,x.testBit y=true→y<nn:=λy q=>by
  obtain⟨_,i,hi,q⟩:=(hb y).1 q
  have:=(hE i hi).2
  omega
 unfold nBits
 rw[uL hlt 64 hn]
 have hl:(List.range nn).length=nn:=aZ
 constructor
 ·intro q y hy
  have:=tv.1 (q.trans hl.symm) y (aL.2 hy)
  exact ((hb y).1 this).2
 ·intro q
  have:(List.range nn).countP (λi=>x.testBit i)=(List.range nn).length:=tv.2 λy hy=>(hb y).2 ⟨by have:=aL.1 hy; omega,q y (aL.1 hy)⟩
  rw[this,hl]
set_option maxHeartbeats 1000000 in
theorem DT {h:AH}{n:Int}{ev:AV}{E:List (Int×Int)} (he:SlE h ev E) (hxl:E.length<2 ^ 40) (ht:Tab h) (hnx:0<h.next):C prg 12 [.agg [.int .i64 n,ev]] h λr h'=>∃ b,r=.bool b∧(b=true↔DA n E)∧Ext h.next h h':=by
 obtain⟨ec,eo⟩:=he.cells
 have el:=he.len
 rw[ar] at el
 refine NX pf12 ?_
 refine ah (ak (Mi0) ?_)
 have x0:Ext h.next h (h.new (.cells [.int .i64 n,ev] 2 false)):=NU (ae _)
 have g0:(h.new (.cells [.int .i64 n,ev] 2 false)).get h.next=some (.cells [.int .i64 n,ev] 2 false):=by rw[AH.get_new,if_pos rfl]
 have n0:(h.new (.cells [.int .i64 n,ev] 2 false)).next=h.next+1:=rfl
 generalize (h.new (.cells [.int .i64 n,ev] 2 false))=h1 at *
 have rE:aj h1 h.next 1 1=some [ev]:=aJ g0 rfl
 refine ah (ak (Mi0) ?_)
 refine ah (ah (ak (Mi2 rE el) ?_))
 refine fW (α:=Int) (N:=E.length) (λ_ s=>[(1,.ptr h.next 0),(3,.int .u64 s),(7,ev)])
  (λk s h'=>s=tq (E.take k)∧h'.get h.next=some (.cells [.int .i64 n,ev] 2 false)∧Ext h.next h h') 0 (λ_ _=>rfl) om (Hi0) ⟨rfl,g0,x0⟩ ?_ ?_
 ·rintro k s ts h4 hk ⟨rfl,j2,j3⟩ ⟨ei,en,e1,e3,e7,-⟩
  simp only at ei en e1 e3 e7
  obtain⟨b1,p1,a1,r1,_⟩:=(he.ext j3 (ae _)).at (dp (f:=eE) hk)
  have hst:tq (E.take (k+1))=fY (tq (E.take k)) (ofL [E[k].1,E[k].2]):=by
   unfold tq
   rw[aX hk,dv]; rfl
  have r1:aj h4 b1 p1 2=some [.int .i64 E[k].1,.int .i64 E[k].2]:=r1
  generalize E[k].1=a at *
  generalize E[k].2=b at *
  obtain⟨h5,w5,x5,g5,n5⟩:=dI (h:=h4) (z:=[.int .i64 0,.int .i64 0]) (cs:=[.int .i64 a,.int .i64 b]) (e:=2) rfl
  refine bL (ah (ak (M5 e7 ei a1 r1 w5) ?_))
  have ra:aj h5 h4.next 0 1=some [.int .i64 a]:=aJ g5 rfl
  have rb:aj h5 h4.next 1 1=some [.int .i64 b]:=aJ g5 rfl
  have gx:(h5.new (.cells [.int .i64 a,.int .i64 b] 1 false)).get h5.next=some (.cells [.int .i64 a,.int .i64 b] 1 false):=by rw[AH.get_new,if_pos rfl]
  have sx:SlI (h5.new (.cells [.int .i64 a,.int .i64 b] 1 false)) (.sl h5.next 0 2 2) [a,b]:=Sl.row (vs:=[.int .i64 a,.int .i64 b]) gx rfl (ae _)
  have X6:Ext h.next h (h5.new (.cells [.int .i64 a,.int .i64 b] 1 false)):=(j3.trans (x5.mono j3.nx)).trans (NU (by rw[n5]; have:=j3.nx; omega))
  refine bF (bg 6 (M3 e3 ra rb) rfl (Z3 e3 ra rb) (M3 e3 ra rb) (xi sx (by simp)) λr h6 hq=>?_)
  obtain⟨rfl,rfl⟩:=hq
  refine bp (M2 e3 @mF) ?_
  have hnl:=AH.lt_of_get j2
  refine⟨fY (tq (E.take k)) (ofL [a,b]),⟨hst.symm,?_,X6⟩,H4 ei en e1 e7⟩
  rw[AH.get_new,if_neg (by rw[n5]; omega),x5.gt _ hnl]
  exact j2
 ·rintro s ts h4 ⟨rfl,j2,j3⟩ ⟨e1,e3,e7,-⟩
  simp only at e1 e3 e7
  rw[bO] at *
  have n4:=j3.nx
  have rA:aj h4 h.next 0 2=some [.int .i64 n,ev]:=by rw[aP j2]; rfl
  refine ah (bF (bg 1 (M2 e1 rA) rfl (Z2 e1 rA) (M2 e1 rA) (tU (n:=n) (he.ext j3 (ae _)) hxl) λr h5 hq=>?_))
  obtain⟨b,rfl,hb,x5⟩:=hq
  have X5:Ext h.next h h5:=j3.trans (x5.mono n4)
  have hnl:=AH.lt_of_get j2
  have g5:h5.get h.next=some (.cells [.int .i64 n,ev] 2 false):=by rw[x5.gt _ hnl]; exact j2
  have rE5:aj h5 h.next 1 1=some [ev]:=aJ g5 rfl
  cases b with
  | false =>
    have hno:¬ DA n E:=λq=>by have:=hb.2 q.1; cases this
    refine ee 8 (M0) rfl (Z0) ?_
    refine pO 7 (M0) rfl (Z0) (by simp only[am,aC,simprocAttr,nN]) ?_
    refine bp (M0) ?_
    exact aV ⟨.bool false,(by simp only[rs,rf12,am,aC,simprocAttr]<;>rfl),false,rfl,⟨(λq=>by cases q),λq=>absurd q hno⟩,X5⟩
  | true =>
  have hpl:=hb.1 rfl
  obtain⟨nn,rfl,hE,hL,m1,m2,m3,hm⟩:=mO hpl
  by_cases hl3:3≤E.length
  ·have c3:decide ((3:Int)≤((E.length:Nat):Int))=true:=aq om
   have rA5:aj h5 h.next 0 2=some [.int .i64 ((nn:Nat):Int),ev]:=by rw[aP g5]; rfl
   have hB:=Dq (n:=nn) (he.ext X5 (ae _)) hm hE hL
   unfold gW at hB
   obtain⟨l,hl⟩:=Go.Blk.lst_ex (grE nn E hE hL)
   refine bg 8 (M5 e1 rE5 el c3 rA5) rfl (Z5 e1 rE5 el c3 rA5) (M5 e1 rE5 el c3 rA5) (hB) λbv h6 hq=>?_
   obtain⟨hll,x6⟩:=hq
   have bl:=(hll l hl).len
   have hone:=sR hE hL hl
   have X6:Ext h.next h h6:=X5.trans (x6.mono X5.nx)
   have hnl5:=AH.lt_of_get g5
   have g6:h6.get h.next=some (.cells [.int .i64 ((nn:Nat):Int),ev] 2 false):=by rw[x6.gt _ hnl5]; exact g5
   by_cases q1:(canon E.length l).length=1
   ·have c1:decide ((((canon E.length l).length:Nat):Int)=1)=true:=aq om
    obtain⟨u1,u2⟩:=(Bc E).1
    obtain⟨x,hx⟩:=cS u1
    have hx2:x<2 ^ 64:=om
    have hx:tq E=((x:Nat):Int):=hx
    have hall:=FZ hE m2 hx hx2
    have rN6:aj h6 h.next 0 1=some [.int .i64 ((nn:Nat):Int)]:=aJ g6 rfl
    refine kU 7 (by simp only[am,aC,simprocAttr,e1,e3,hx,bl,c1,rN6]<;>rfl) rfl (by simp only[am,aC,simprocAttr,e1,e3,hx,bl,c1,rN6]) (by simp only[am,aC,simprocAttr,e1,e3,hx,bl,c1,rN6]<;>rfl) (NO (x:=x) (ht.ext X6 hnx) (by have:=X6.nx; omega) hx2) λav h7 hq=>?_
    obtain⟨al,x7⟩:=hq
    have hnl6:=AH.lt_of_get g6
    have g7:h7.get h.next=some (.cells [.int .i64 ((nn:Nat):Int),ev] 2 false):=by rw[x7.gt _ hnl6]; exact g6
    have rN7:aj h7 h.next 0 1=some [.int .i64 ((nn:Nat):Int)]:=aJ g7 rfl
    refine⟨by simp only[am,aC,simprocAttr,e1,rN7,nN],?_⟩
    refine bp (M1 al) ?_
    refine aV ⟨.bool (decide (((nBits x:Nat):Int)=((nn:Nat):Int))),(by simp only[rs,rf12,am,aC,simprocAttr]<;>rfl),_,rfl,?_,X6.trans (x7.mono X6.nx)⟩
    rw[az]
    have:(((nBits x:Nat):Int)=((nn:Nat):Int))↔nBits x=nn:=om
    rw[this,hall]
    constructor
    ·exact λq=>⟨hpl,hl3,q,hone.2 q1⟩
    ·exact λq=>q.2.2.1
   ·have c1:decide ((((canon E.length l).length:Nat):Int)=1)=false:=ai om
    refine pO 7 (by simp only[am,aC,simprocAttr,e1,e3,bl,c1]<;>rfl) rfl (Z0) (by simp only[am,aC,simprocAttr,nN]) ?_
    refine bp (M0) ?_
    exact aV ⟨.bool false,(by simp only[rs,rf12,am,aC,simprocAttr]<;>rfl),false,rfl,⟨(λq=>by cases q),λq=>absurd (hone.1 q.2.2.2) q1⟩,X6⟩
  ·have c3:decide ((3:Int)≤((E.length:Nat):Int))=false:=ai om
   refine ee 8 (M4 e1 rE5 el c3) rfl (Z0) ?_
   refine pO 7 (M0) rfl (Z0) (by simp only[am,aC,simprocAttr,nN]) ?_
   refine bp (M0) ?_
   exact aV ⟨.bool false,(by simp only[rs,rf12,am,aC,simprocAttr]<;>rfl),false,rfl,⟨(λq=>by cases q),λq=>absurd q.2.1 hl3⟩,X5⟩
set_option maxHeartbeats 1000000 in
theorem Cf {h:AH}{n:Int}{ev:AV}{E:List (Int×Int)} (he:SlE h ev E) (hxl:E.length<2 ^ 40):C prg 17 [.agg [.int .i64 n,ev]] h λr h'=>∃ b,r=.bool b∧(b=true↔DA n E)∧Ext h.next h h':=by
 obtain⟨ec,eo⟩:=he.cells
 have el:=he.len
 rw[ar] at el
 refine NX pf17 ?_
 refine ah (ak (Mi0) ?_)
 have x0:Ext h.next h (h.new (.cells [.int .i64 n,ev] 2 false)):=NU (ae _)
 have g0:(h.new (.cells [.int .i64 n,ev] 2 false)).get h.next=some (.cells [.int .i64 n,ev] 2 false):=by rw[AH.get_new,if_pos rfl]
 have n0:(h.new (.cells [.int .i64 n,ev] 2 false)).next=h.next+1:=rfl
 generalize (h.new (.cells [.int .i64 n,ev] 2 false))=h1 at *
 have rA:aj h1 h.next 0 2=some [.int .i64 n,ev]:=by rw[aP g0]; rfl
 refine ah (ah (bF (bg 1 (Mi1 rA) rfl (Zi1 rA) (Mi1 rA) (BW (n:=n) (he.ext x0 (ae _)) hxl) λr h2 hq=>?_)))
 obtain⟨b,rfl,hb,x2⟩:=hq
 have X2:Ext h.next h h2:=x0.trans (x2.mono om)
 have n2:=x2.nx
 have g2:h2.get h.next=some (.cells [.int .i64 n,ev] 2 false):=by rw[x2.gt _ om]; exact g0
 have rE2:aj h2 h.next 1 1=some [ev]:=aJ g2 rfl
 cases b with
 | false =>
   have hno:¬ DA n E:=λq=>by have:=hb.2 q.1; cases this
   refine bp (M0) ?_
   refine bq (Z0) (ah (ak (M0) ?_))
   exact aV ⟨.bool false,(by simp only[rs,rf17,am,aC,simprocAttr]<;>rfl),false,rfl,⟨(λq=>by cases q),λq=>absurd q hno⟩,X2⟩
 | true =>
 have hpl:=hb.1 rfl
 obtain⟨nn,rfl,hE,hL,m1,m2,m3,hm⟩:=mO hpl
 by_cases hl3:3≤E.length
 ·have c3:decide (((E.length:Nat):Int)<3)=false:=ai om
  refine bp (Mi3 rE2 el c3) ?_
  refine cj (Z0) (be ?_)
  have x3:Ext h2.next h2 (h2.new (.cells [] 1 false)):=NU (ae _)
  have g3:(h2.new (.cells [] 1 false)).get h2.next=some (.cells [] 1 false):=by rw[AH.get_new,if_pos rfl]
  have n3:(h2.new (.cells [] 1 false)).next=h2.next+1:=rfl
  have g32:(h2.new (.cells [] 1 false)).get h.next=some (.cells [.int .i64 ((nn:Nat):Int),ev] 2 false):=by rw[x3.gt _ om]; exact g2
  refine ah (ak (Mi0) ?_)
  show W _ _ _ (h2.new (.cells [] 1 false)) _ _ _
  generalize (h2.new (.cells [] 1 false))=h3 at *
  have X3:Ext h.next h h3:=X2.trans (x3.mono om)
  refine ah (ah (ak (Mi0) ?_))
  refine er (α:=AV) (N:=E.length) (λi a=>[(1,.ptr h.next 0),(3,a),(4,.int .i64 (i:Nat))])
   (λi a h'=>IsSl h' 1 h2.next a (nC (List.range i))∧h'.get h.next=some (.cells [.int .i64 ((nn:Nat):Int),ev] 2 false)∧Ext h.next h h'∧h2.next≤h'.next) (.sl h2.next 0 0 0) (Hi1 @aW)
   ⟨.inr ⟨h2.next,0,ae _,rfl,g3,rfl⟩,g32,X3,om⟩ ?_ ?_ ?_
  ·rintro i a ts h4 hi ⟨j1,j2,j3,j4⟩ ⟨e1,e3,e4,-⟩
   simp only at e1 e3 e4
   have rE:aj h4 h.next 1 1=some [ev]:=aJ j2 rfl
   exact⟨_,(M5 e1 e4 rE el @bw),Z0,H3 e1 e3 e4⟩
  ·rintro i a ts h4 hi ⟨j1,j2,j3,j4⟩ ⟨e1,e3,e4,-⟩
   simp only at e1 e3 e4
   have w4:=dF (k:=i) om
   obtain⟨a',h5,p1,p2,p3,p4⟩:=j1.push (bytes:=8) [.int .i64 ((i:Nat):Int)] om om rfl rfl (by rw[fj,aZ]; unfold aQ; omega) (by rw[fj,aZ]; unfold aQ; omega)
   refine ak (M3 e3 e4 p1) ?_
   refine⟨a',⟨?_,by rw[p3.gt _ om]; exact j2,j3.trans (p3.mono om),by have:=p3.nx; omega⟩,_,(M2 e4 w4),H1 e1⟩
   rw[bT,pj]
   exact p2
  ·rintro a ts h4 ⟨j1,j2,j3,j4⟩ ⟨e1,e3,e4,-⟩
   simp only at e1 e3 e4
   have sa:=kH j1
   refine ah (ah (ak (M0) ?_))
   refine er (α:=Unit) (N:=nn) (λi _=>[(1,.ptr h.next 0),(3,a),(5,.int .i64 (i:Nat))])
    (λi _ h'=>(∀ x,x<i→∃ k,k<E.length∧(tlE E k=x∨hdE E k=x))∧h'.get h.next=some (.cells [.int .i64 ((nn:Nat):Int),ev] 2 false)∧Ext h4.next h4 h') () (H3 e1 e3 @aW)
    ⟨λx hx=>absurd hx (bm _),j2,NV⟩ ?_ ?_ ?_
   ·rintro i _ ts h5 hi ⟨k1,k2,k3⟩ ⟨e1,e3,e5,-⟩
    simp only at e1 e3 e5
    have rN:aj h5 h.next 0 1=some [.int .i64 ((nn:Nat):Int)]:=aJ k2 rfl
    exact⟨_,(M4 e1 e5 rN @bw),Z0,H3 e1 e3 e5⟩
   ·rintro i _ ts h5 hi ⟨k1,k2,k3⟩ ⟨e1,e3,e5,-⟩
    simp only at e1 e3 e5
    have w5:=dF (k:=i) om
    have rA5:aj h5 h.next 0 2=some [.int .i64 ((nn:Nat):Int),ev]:=by rw[aP k2]; rfl
    have X5:Ext h.next h h5:=j3.trans (k3.mono j3.nx)
    have hat:=IQ (x:=i) (n:=nn) (he.ext X5 (ae _)) (sa.ext k3 (ae _)) hE (λk hk=>aL.1 hk) (by rw[aZ]; omega)
    unfold gW at hat
    refine ah (bF (bg 3 (M4 e1 e3 e5 rA5) rfl (Z4 e1 e3 e5 rA5) (M4 e1 e3 e5 rA5) (hat) λr h6 hq=>?_))
    obtain⟨rfl,x6⟩:=hq
    have hnl:=AH.lt_of_get k2
    refine bp (M0) ?_
    cases q:((List.range E.length).any λk=>decide (tlE E k=i)||decide (hdE E k=i)) with
    | false =>
      refine bq (Z0) (ah (ak (M0) ?_))
      refine aV ⟨.bool false,(by simp only[rs,rf17,am,aC,simprocAttr]<;>rfl),false,rfl,⟨(λq=>by cases q),λp=>?_⟩,X5.trans (x6.mono X5.nx)⟩
      obtain⟨k,hk,q2⟩:=p.2.2.1 i (by simpa using hi)
      rw[DB] at q
      exact absurd (by simpa using q2) (q k (aL.2 hk))
    | true =>
      refine cj (Z0) (be ?_)
      refine⟨(),⟨λx hx=>?_,by rw[x6.gt _ hnl]; exact k2,k3.trans (x6.mono k3.nx)⟩,_,(M2 e5 w5),H2 e1 e3⟩
      by_cases e:x=i
      ·subst e
       rw[List.any_eq_true] at q
       obtain⟨k,hk,q2⟩:=q
       exact⟨k,aL.1 hk,by simpa using q2⟩
      ·exact k1 x om
   ·rintro _ ts h5 ⟨k1,k2,k3⟩ ⟨e1,e3,e5,-⟩
    simp only at e1 e3 e5
    have rA5:aj h5 h.next 0 2=some [.int .i64 ((nn:Nat):Int),ev]:=by rw[aP k2]; rfl
    have X5:Ext h.next h h5:=j3.trans (k3.mono j3.nx)
    have hB:=ze (n:=nn) (he.ext X5 (ae _)) hE hL om om
    unfold gW at hB
    refine ah (bF (bg 1 (M2 e1 rA5) rfl (Z2 e1 rA5) (M2 e1 rA5) (hB) λr h6 hq=>?_))
    obtain⟨l,hl,x6,ll⟩:=hq
    have bl:=ll.len
    refine bp (by simp only[am,aC,simprocAttr,bl]<;>rfl) ?_
    refine aV ⟨.bool (decide ((((canon E.length l).length:Nat):Int)=1)),(by simp only[rs,rf17,am,aC,simprocAttr]<;>rfl),_,rfl,?_,X5.trans (x6.mono X5.nx)⟩
    rw[az]
    have:((((canon E.length l).length:Nat):Int)=1)↔(canon E.length l).length=1:=om
    rw[this,← sR hE hL hl]
    exact⟨λq=>⟨hpl,hl3,by simpa using k1,q⟩,λq=>q.2.2.2⟩
 ·have c3:decide (((E.length:Nat):Int)<3)=true:=aq om
  refine bp (Mi3 rE2 el c3) ?_
  refine bq (Z0) (ah (ak (M0) ?_))
  exact aV ⟨.bool false,(by simp only[rs,rf17,am,aC,simprocAttr]<;>rfl),false,rfl,⟨(λq=>by cases q),λq=>absurd q.2.1 hl3⟩,X2⟩
end Go.Proofs.YthbmhbldmcbnpaaGreatDoor
