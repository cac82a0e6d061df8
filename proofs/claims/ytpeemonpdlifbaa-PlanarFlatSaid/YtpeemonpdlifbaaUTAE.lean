/- A graph, rows of numbers, numbers -/
import Derived.Test.YtpeemonpdlifbaaUTAC
import Derived.Test.YtpeemonpdlifbaaUTAD
import Derived.Test.YtpeemonpdlifbaaUTAA
set_option linter.all false
namespace Go.Proofs.Ytpeemonpdlifbaa
open Go.Am
open Go.RowKit
structure RowsM (w:World) (a:Option Addr) (len cap:Nat) (rows:List NRow):Prop where
 spot:∀ x,a=some x→x.spot=none
 none_:a=none→len=0∧cap=0
 le:len≤cap
 length:rows.length=cap
 cells:∀ x,a=some x→∀ (i:Nat) (r:NRow),rows[i]?=some r→w.cell? (x.add i)=some (.slice r.a r.len r.cap)
 ok:∀ r∈rows,r.ok w .i64
 small:∀ r∈rows,r.cap≤maxLen
def mh (rows:List NRow) (len:Nat):List (List Int):=(rows.take len).map λr=>r.zs.take r.len
theorem rowsM {w:World}{a:Option Addr}{len cap:Nat}{rows:List NRow} (hc:RowsM w a len cap rows) {K:Bs}{σ:Sg}{h:AH} (r:Rep K σ h w) (hB:K.B=w.heap.size) :
 ∃ (σ':Sg) (os:List AO) (oc:AO) (cv:AV),os.length=200∧σ.le σ'∧Rep K σ' ((news os h).new oc) w∧VR σ' cv (.slice a len cap)∧ip cv=some (.int .i64 (len:Nat)) ∧
   (len≤200→SlL ((news os h).new oc) cv (mh rows len)):=by
 cases a with
 | none =>
   obtain⟨rfl,rfl⟩:=hc.none_ rfl
   obtain⟨σ1,os,vs,a1,a2,a3,a4,a5⟩:=Rep.rows (k:=.i64) hB 200 [] r (ee _) (λr hr=>by cases hr)
   obtain⟨σ2,b1,b2⟩:=a4.dummy
   exact⟨σ2,os,_,.nils,a1,Sg.le_trans a3 b1,b2,by simp [VR],rfl,λ_=>⟨[],.inl ⟨rfl,.inl rfl⟩,by simp [mh],λi w xs h1=>by simp at h1⟩⟩
 | some x =>
   have hsp:=hc.spot x rfl
   by_cases hl:len≤200
   ·have hle:=hc.le
    have hlen:=hc.length
    have htl:(rows.take len).length=len:=by rw[bF]; omega
    obtain⟨σ1,os,vs,a1,a2,a3,a4,a5⟩:=Rep.rows (k:=.i64) hB 200 (rows.take len) r om (λr hr=>hc.ok r (gj hr))
    have hcell:∀ i,i<cap→w.cell? (x.add i)=some (match rows[i]? with|some r=>.slice r.a r.len r.cap|none=>.bool true):=by
     intro i hi
     have:rows[i]?=some rows[i]:=ai om
     rw[this]
     exact hc.cells x rfl i _ this
    obtain⟨σ2,b1,b2,b3⟩:=a4.outer hB (vs:=vs) (len:=len) hsp hle om hcell (λi v hv=>by
     have hil:=(aI.1 hv).1
     have h1:i<(rows.take len).length:=om
     have h2:(rows.take len)[i]?=some (rows.take len)[i]:=ai h1
     have h3:=(a5 i v _ hv h2).1
     have h4:rows[i]?=some (rows.take len)[i]:=by
      rw[← h2,cw,if_pos om]
     rw[h4]
     exact h3)
    refine⟨σ2,os,_,_,a1,Sg.le_trans a3 b1,b2,b3,rfl,λ_=>⟨vs,Sl.row (by rw[AH.get_new,if_pos rfl]) om (ab _),by rw[mh,ah]; omega,λi v xs hv hx=>?_⟩⟩
    unfold mh at hx
    rw[aw] at hx
    cases hq:(rows.take len)[i]? with
    | none=>rw[hq] at hx; cases hx
    | some row =>
      rw[hq] at hx
      simp only[aD,aa] at hx
      subst hx
      have hm:=gj (dD hq)
      obtain⟨k1,k2,_⟩:=hc.ok row hm
      rcases (a5 i v row hv hq).2 with ⟨h1|h1,h2⟩|⟨b,h1,h2⟩
      ·exact .inl ⟨by rw[h2]; simp,.inl h1⟩
      ·exact .inl ⟨by rw[h2]; simp,.inr h1⟩
      ·subst h1
       refine uD (f:=eI) (ro:=true) (λ_=>rfl) ?_ (by rw[bF]; omega)
       rw[AH.get_new,if_neg (by have:=AH.lt_of_get h2; omega),AB]
       exact h2
   ·obtain⟨σ1,os,vs,a1,a2,a3,a4,a5⟩:=Rep.rows (k:=.i64) hB 200 [] r (ee _) (λr hr=>by cases hr)
    obtain⟨σ2,b1,b2,b3⟩:=a4.outer0 (len:=len) hsp hc.le
    exact⟨σ2,os,_,_,a1,Sg.le_trans a3 b1,b2,b3,rfl,λq=>absurd q hl⟩
theorem uF {w:World}{a:Option Addr}{len cap:Nat}{rows:List NRow} (hc:RowsM w a len cap rows):(∀ l∈mh rows len,l.length≤2 ^ 63-1)∧(mh rows len).length=len:=by
 constructor
 ·intro l hl
  obtain⟨r,hr,rfl⟩:=bE.1 hl
  have hm:=gj hr
  have h1:=hc.small r hm
  have h2:=(hc.ok r hm).2.1
  have h3:maxLen=2 ^ 63-1:=rfl
  rw[bF]
  omega
 ·have h1:=hc.le
  have h2:=hc.length
  unfold mh
  rw[ah,bF]
  omega
theorem FN {w:World}{P:Program}{a0 a1 a2 a3 a4:Option Addr}{l0 c0 l1 c1 l2 c2 l3 c3 l4 c4:Nat}{z0 z2 z3 z4:List Int}{rows:List NRow} (w0:IsRowE .i64 2 w a0 l0 c0 z0) (s0:∀ x,a0=some x→x.spot=none) (w1:RowsM w a1 l1 c1 rows) (w2:IsRowE .i64 1 w a2 l2 c2 z2) (w3:IsRowE .i64 1 w a3 l3 c3 z3) (w4:IsRowE .i64 1 w a4 l4 c4 z4) :
 ∃ (σ:Sg) (os:List AO) (v0 v1 v2 v3 v4:AV) (E:List (Int×Int)),GL σ∧Rep ⟨w.heap.size,w,P,[]⟩ σ (news os AH.zero) w∧VR σ v0 (.slice a0 l0 c0)∧VR σ v1 (.slice a1 l1 c1)∧VR σ v2 (.slice a2 l2 c2)∧VR σ v3 (.slice a3 l3 c3)∧VR σ v4 (.slice a4 l4 c4) ∧
   SlE (news os AH.zero) v0 E∧ip v1=some (.int .i64 (l1:Nat))∧(l1≤60→SlL (news os AH.zero) v1 (mh rows l1))∧SlI (news os AH.zero) v2 (z2.take l2)∧SlI (news os AH.zero) v3 (z3.take l3)∧SlI (news os AH.zero) v4 (z4.take l4):=by
 have st:=St0.zero P w
 obtain⟨σ1,os1,oc,v1,q1,q2,q3,q4,q5,q6⟩:=rowsM w1 st.rep rfl
 obtain⟨σ2,o0,v0,r1,r2,r3,r4⟩:=rowE1 q3 rfl (by decide) w0 s0
 obtain⟨σ3,o2,v2,t1,t2,t3,t4,t5⟩:=ET r2 rfl w2
 obtain⟨σ4,o3,v3,y1,y2,y3,y4,y5⟩:=ET t2 rfl w3
 obtain⟨σ5,o4,v4,p1,p2,p3,p4,p5⟩:=ET y2 rfl w4
 have e:(((((news os1 AH.zero).new oc).new o0).new o2).new o3).new o4=news (os1++[oc,o0,o2,o3,o4]) AH.zero:=by
  rw[xd,xd,Ey]
  simp only[bP,aE,bg]
 refine⟨σ5,os1++[oc,o0,o2,o3,o4],v0,v1,v2,v3,v4,nD (z0.take (l0*2)),((((st.gl.mono q2).mono r1).mono t1).mono y1).mono p1,by rw[← e]; exact p2,VR.mono p1 _ _ (VR.mono y1 _ _ (VR.mono t1 _ _ r3)),VR.mono p1 _ _ (VR.mono y1 _ _ (VR.mono t1 _ _ (VR.mono r1 _ _ q4))),VR.mono p1 _ _ (VR.mono y1 _ _ t3),VR.mono p1 _ _ y3,p3,?_,q5,λhl=>?_,?_,?_,?_⟩
 ·rw[← e]
  refine Km gO (Km gO (Km gO ?_))
  rcases r4 with ⟨h1,h2⟩|⟨h1,h2,h3⟩
  ·subst h1 h2
   exact .inl ⟨by simp [nD],.inl rfl⟩
  ·subst h1 h2
   obtain⟨f1,f2⟩:=rT l0 _ h3
   refine uD (f:=eE) (ro:=true) (λ_=>rfl) ?_ f2.symm
   rw[AH.get_new,if_pos rfl,f1]
 ·rw[← e]
  exact SlL.stay gO (SlL.stay gO (SlL.stay gO (SlL.stay gO (q6 om))))
 ·rw[← e]; exact Km gO (Km gO t5)
 ·rw[← e]; exact Km gO y5
 ·rw[← e]; exact p5
open Go.ChangeShapes Go.WideShapes Go.ChangeAt Go.RowKit
open Go.Am (IsRowE NRow)
set_option maxRecDepth 100000
theorem Iu:Try.prog.cellsOf 34=1:=by kernel_rfl
theorem Jt {H:Type}{enc:TypeId×Value→H}{W:World}{fuel:Nat}{c:Value}{x:DataW H×List MemPlace} (h:DataW.trod enc Try.prog W 0 (λ_=>true) true fuel 34 [c]=some x) :
 ∃ a len cap zs,c=.slice a len cap∧IsRowE .i64 1 W a len cap zs:=by
 rcases open_ints Try.underlying34 Try.underlying3 sk h with ⟨hcs,_⟩|⟨x,l,c,zs,hcs,_,hl,hm,hz,_,hcell,hwz⟩
 ·simp only[dR,and_true] at hcs
  exact⟨none,0,0,[],hcs,.inl ⟨rfl,rfl,rfl,rfl⟩⟩
 ·simp only[dR,and_true] at hcs
  exact⟨some x,l,c,zs,hcs,.inr ⟨_,rfl,hl,hm,by simpa using hz,hcell,hwz⟩⟩
theorem Hl {H:Type}{enc:TypeId×Value→H}{W:World}{fuel base:Nat}{c:Value}{x:DataW H×List MemPlace} (hval:Cell.okWide Try.prog W .any base 27 c) (h:DataW.trod enc Try.prog W 0 (λ_=>true) true fuel 27 [c]=some x) :
 ∃ a len cap rows,c=.slice a len cap∧RowsM W a len cap rows:=by
 rcases Deep.open_int_rows Try.underlying27 Try.underlying34 Try.underlying3 Iu sk h with ⟨hcs,_⟩|⟨x,l,cp,A,Ln,Cp,Z,hcs,_,hl,hm,_,hcell⟩
 ·simp only[dR,and_true] at hcs
  exact⟨none,0,0,[],hcs,λx hx=>(by cases hx),λ_=>⟨rfl,rfl⟩,ab _,rfl,λx hx=>(by cases hx),λr hr=>(by cases hr),λr hr=>(by cases hr)⟩
 ·simp only[dR,and_true] at hcs
  subst hcs
  have hsp:x.spot=none:=by
   simp only[Cell.okWide,Try.underlying27,Cell.ok] at hval
   exact hval.2.2.2.1
  refine⟨some x,l,cp,(List.range cp).map λr=>⟨A r,Ln r,Cp r,Z r⟩,rfl,λy hy=>(by cases hy; exact hsp),λh=>(by cases h),hl,by simp,λy hy i r hr=>?_,λr hr=>?_,λr hr=>?_⟩
  ·cases hy
   rw[aw] at hr
   cases hq:(List.range cp)[i]? with
   | none=>rw[hq] at hr; cases hr
   | some j =>
     rw[hq] at hr
     have hi:=(aI.1 hq).1
     have hj:j=i:=by
      have:=(aI.1 hq).2
      simpa using this.symm
     subst hj
     simp only[aD,aa] at hr
     subst hr
     exact (hcell j (by simpa using hi)).1
  ·obtain⟨j,hj,rfl⟩:=bE.1 hr
   obtain⟨e1,e2,e3,e4,e5,e6,e7⟩:=hcell j (aF.1 hj)
   exact⟨e2,e4,e6,λy hy i hi=>(e7 y hy).2 i hi⟩
  ·obtain⟨j,hj,rfl⟩:=bE.1 hr
   exact (hcell j (aF.1 hj)).2.2.1
open Go.Am
open Go.Am
theorem me {k:Nat} (h:k<2 ^ 62):IntKind.i64.wrap (((k:Nat):Int)+1)=((k+1:Nat):Int):=eL om om
theorem mm {α:Type} [DecidableEq α]:∀ {l m:List α},l.Nodup→(∀ x∈l,x∈m)→m.length=l.length→l.Perm m
 | [],m,_,_,h=>by
   rw[bm.1 h]
 | a::l,m,hn,hs,hl=>by
   have hm:=hs a (bq ..)
   have hn':=aS.1 hn
   have ih:=mm (l:=l) (m:=m.erase a) hn'.2 (λx hx=>(List.mem_erase_of_ne (λe:x=a=>hn'.1 (e▸hx))).2 (hs x (be _ hx))) (by
    rw[List.length_erase_of_mem hm,hl]; simp)
   exact (List.Perm.cons a ih).trans (List.perm_cons_erase hm).symm
theorem Hn {h:AH}{v:AV}{xs:List Int}{x:Int} (hv:SlI h v xs) (hl:xs.length<2 ^ 40):C prg 29 [v,.int .i64 x] h λr h'=>r=.int .i64 (gX (x==·) xs 0)∧h'=h:=by
 have el:=hv.len
 rw[ah] at el
 refine Kl pf29 ?_
 refine ae (ar (Mi0) ?_)
 refine ae (ae (ar (Mi0) ?_))
 refine gU (α:=Unit) (N:=xs.length) (λk _=>[(0,v),(1,.int .i64 x),(5,.int .i64 (k:Nat))]) (λk _ h'=>h'=h∧gX (x==·) (xs.drop k) k=gX (x==·) xs 0) () (Oi1 @bh) ⟨rfl,rfl⟩ ?_ ?_ ?_
 ·rintro k _ ts h1 hk ⟨rfl,j1⟩ ⟨e0,e1,e5,-⟩
  simp only at e0 e1 e5
  exact⟨_,(J4 e0 e5 el @cX),I0,O3 e0 e1 e5⟩
 ·rintro k _ ts h1 hk ⟨rfl,j1⟩ ⟨e0,e1,e5,-⟩
  simp only at e0 e1 e5
  obtain⟨b1,p1,a1,r1,_⟩:=hv.at1 (fy (f:=eI) hk)
  rw[jb _ hk] at j1
  have w1:=me (k:=k) om
  refine ae (ar (M5 e0 e1 e5 a1 r1) ?_)
  refine jg (t:=decide (xs[k]=x)) (Z0) (λq=>?_) λq=>?_
  ·have q:xs[k]=x:=cn q
   rw[if_pos (by simp [q])] at j1
   refine ae (ar (M1 e5) ?_)
   exact bH ⟨.int .i64 (k:Nat),(by simp only[rs,rf29,am,aC,simprocAttr]<;>rfl),by rw[j1],rfl⟩
  ·have q:¬ xs[k]=x:=eQ q
   rw[if_neg (by simpa using λe=>q (Eq.symm e))] at j1
   refine bJ ⟨(),⟨rfl,j1⟩,_,(J2 e5 w1),O2 e0 e1⟩
 ·rintro _ ts h1 ⟨rfl,j1⟩ ⟨e0,e1,e5,-⟩
  rw[List.drop_length] at j1
  refine ae (ar (M0) ?_)
  exact bH ⟨.int .i64 (-1),(by simp only[rs,rf29,am,aC,simprocAttr]<;>rfl),by rw[← j1]; rfl,rfl⟩
theorem tq {h:AH}{v:AV}{xs:List Int}{n:Nat} (hv:SlI h v xs) (hn:n<2 ^ 40):C prg 15 [v,.int .i64 (n:Nat)] h λr h'=>(∃ b,r=.bool b∧(b=true↔xs.Perm (oU n)))∧h'=h:=by
 have el:=hv.len
 rw[ah] at el
 refine Kl pf15 ?_
 refine ae (ar (Mi0) ?_)
 refine ae (ae (ar (Mi1 el) ?_))
 refine jg (t:=!decide (xs.length=n)) (by simp only[am,aC,simprocAttr]; exact congrArg AV.bool (by congr 1; simp only[decide_eq_decide]; omega)) (λq=>?_) λq=>?_
 ·have q:¬ xs.length=n:=by simpa using q
  refine ae (ar (M0) ?_)
  exact bH ⟨.bool false,(by simp only[rs,rf15,am,aC,simprocAttr]<;>rfl),⟨false,rfl,⟨λh=>(by cases h),λhP=>absurd (by rw[hP.length_eq,nX]) q⟩⟩,rfl⟩
 have q:xs.length=n:=by simpa using q
 have hl:xs.length<2 ^ 40:=om
 refine bJ ?_
 refine ae (ae (ar (M0) ?_))
 refine gU (α:=Unit) (N:=n) (λk _=>[(0,v),(1,.int .i64 (n:Nat)),(5,.int .i64 (k:Nat))]) (λk _ h'=>h'=h∧∀ j:Nat,j<k→((j:Nat):Int)∈xs) () (Oi1 @bh) ⟨rfl,λj hj=>absurd hj om⟩ ?_ ?_ ?_
 ·rintro k _ ts h1 hk ⟨rfl,j1⟩ ⟨e0,e1,e5,-⟩
  simp only at e0 e1 e5
  exact⟨_,(J3 e1 e5 @cX),I0,O3 e0 e1 e5⟩
 ·rintro k _ ts h1 hk ⟨rfl,j1⟩ ⟨e0,e1,e5,-⟩
  simp only at e0 e1 e5
  have w1:=me (k:=k) om
  refine ae (bW (bt 2 (M2 e0 e5) rfl (Z2 e0 e5) (M2 e0 e5) (Hn (x:=((k:Nat):Int)) hv hl) λr h2 hq=>?_))
  obtain⟨rfl,rfl⟩:=hq
  refine bK (M0) ?_
  have hlo:=(lD (((k:Nat):Int)==·) xs 0).2
  rw[IX] at hlo
  refine jg (t:=decide (gX (((k:Nat):Int)==·) xs 0<0)) (Z0) (λq2=>?_) λq2=>?_
  ·have q2:=hlo.1 (cn q2)
   have q2:¬ ((k:Nat):Int)∈xs:=eQ q2
   refine ae (ar (M0) ?_)
   exact bH ⟨.bool false,(by simp only[rs,rf15,am,aC,simprocAttr]<;>rfl),⟨false,rfl,⟨λh=>(by cases h),λhP=>absurd (hP.mem_iff.2 (rF.2 ⟨om,om⟩)) q2⟩⟩,rfl⟩
  ·have q2:((k:Nat):Int)∈xs:=by
    refine Decidable.byContradiction λhc=>?_
    have:=hlo.2 (aK hc)
    exact eQ q2 this
   refine bJ ⟨(),⟨rfl,λj hj=>?_⟩,_,(J2 e5 w1),O2 e0 e1⟩
   by_cases e:j=k
   ·subst e; exact q2
   ·exact j1 j om
 ·rintro _ ts h1 ⟨rfl,j1⟩ ⟨e0,e1,e5,-⟩
  refine ae (ar (M0) ?_)
  refine bH ⟨.bool true,(by simp only[rs,rf15,am,aC,simprocAttr]<;>rfl),⟨true,rfl,⟨λ_=>?_,λ_=>rfl⟩⟩,rfl⟩
  have hsub:∀ x∈oU n,x∈xs:=λx hx=>by
   obtain⟨h1,h2⟩:=rF.1 hx
   have:=j1 x.toNat om
   rwa [yh h1] at this
  exact (mm (qH n) hsub (by rw[nX,q])).symm
open Go.Am
open Go.Am
theorem wD {h:AH}{n:Int}{ev:AV}{es:List (Int×Int)} (he:SlE h ev es):C prg 18 [.agg [.int .i64 n,ev]] h λr h'=>r=.bool (iP n es)∧Ext h.next h h':=by
 have el:=he.len
 rw[ah] at el
 obtain⟨ec,eo⟩:=he.cells
 refine Kl pf18 ?_
 have x0:Ext h.next h (h.new (.cells [.int .i64 n,ev] 2 false)):=Ki (ab _)
 have g0:(h.new (.cells [.int .i64 n,ev] 2 false)).get h.next=some (.cells [.int .i64 n,ev] 2 false):=by rw[AH.get_new,if_pos rfl]
 have n0:(h.new (.cells [.int .i64 n,ev] 2 false)).next=h.next+1:=rfl
 refine ae (ar (Mi0) ?_)
 generalize h.new (.cells [.int .i64 n,ev] 2 false)=h0 at *
 have rn:ak h0 h.next 0 1=some [.int .i64 n]:=bd g0 rfl
 have re:ak h0 h.next 1 1=some [ev]:=bd g0 rfl
 by_cases q1:n<1
 ·have c1:decide (n<1)=true:=aN q1
  have hB:iP n es=false:=by
   have:decide (1≤n)=false:=aK om
   simp only[iP,this,fA]
  refine ae (ae (ar (Mi2 rn c1) ?_))
  refine cE (Z0) (ae (ar (M0) ?_))
  exact bH ⟨.bool false,(by simp only[rs,rf18,am,aC,simprocAttr]<;>rfl),by rw[hB],x0⟩
 have c1:decide (n<1)=false:=aK q1
 by_cases q2:64<n
 ·have c2:decide (64<n)=true:=aN q2
  have hB:iP n es=false:=by
   have:decide (n≤64)=false:=aK om
   simp only[iP,this,fB,fA]
  refine ae (ae (ar (Mi3 rn c1 c2) ?_))
  refine cE (Z0) (ae (ar (M0) ?_))
  exact bH ⟨.bool false,(by simp only[rs,rf18,am,aC,simprocAttr]<;>rfl),by rw[hB],x0⟩
 have c2:decide (64<n)=false:=aK q2
 by_cases q3:128<es.length
 ·have c3:decide ((128:Int)<((es.length:Nat):Int))=true:=aN om
  have hB:iP n es=false:=by
   have:decide (es.length≤128)=false:=aK om
   simp only[iP,this,fB,fA]
  refine ae (ae (ar (Mi6 rn re el c1 c2 c3) ?_))
  refine cE (Z0) (ae (ar (M0) ?_))
  exact bH ⟨.bool false,(by simp only[rs,rf18,am,aC,simprocAttr]<;>rfl),by rw[hB],x0⟩
 have c3:decide ((128:Int)<((es.length:Nat):Int))=false:=aK om
 have hB:iP n es=es.all (okE n):=by
  have d1:decide (1≤n)=true:=aN om
  have d2:decide (n≤64)=true:=aN om
  have d3:decide (es.length≤128)=true:=aN om
  simp only[iP,d1,d2,d3,yl]
 refine ae (ae (ar (Mi6 rn re el c1 c2 c3) ?_))
 refine dB (Z0) (bJ ?_)
 refine ae (ae (ar (M0) ?_))
 refine gU (α:=Unit) (N:=es.length) (λk _=>[(1,.ptr h.next 0),(3,.int .i64 (k:Nat))]) (λk _ h'=>Ext (h.next+1) h0 h'∧(es.take k).all (okE n)=true) () (Oi1 @bh) ⟨Kj,rfl⟩ ?_ ?_ ?_
 ·rintro k _ ts h1 hk ⟨jx,j1⟩ ⟨e1,e3,-⟩
  simp only at e1 e3
  have re1:ak h1 h.next 1 1=some [ev]:=by rw[cY (jx.gt _ om)]; exact re
  exact⟨_,(J5 e1 e3 re1 el @cX),I0,O2 e1 e3⟩
 ·rintro k _ ts h1 hk ⟨jx,j1⟩ ⟨e1,e3,-⟩
  simp only at e1 e3
  have re1:ak h1 h.next 1 1=some [ev]:=by rw[cY (jx.gt _ om)]; exact re
  have jn:=jx.nx
  have X1:Ext h.next h h1:=x0.trans (jx.mono om)
  obtain⟨b1,p1,a1,r4,_⟩:=(he.ext X1 (ab _)).at (fy (f:=eE) hk)
  obtain⟨h2,w2,x2,g2,n2⟩:=fL (h:=h1) (z:=[.int .i64 0,.int .i64 0]) (cs:=[.int .i64 es[k].1,.int .i64 es[k].2]) (e:=2) rfl
  refine ae (ar (by simp only[am,aC,simprocAttr,e1,e3,re1,a1,r4,eE,w2]<;>rfl) ?_)
  have ra:ak h2 h1.next 0 1=some [.int .i64 es[k].1]:=bd g2 rfl
  have rb:ak h2 h1.next 1 1=some [.int .i64 es[k].2]:=bd g2 rfl
  have rn2:ak h2 h.next 0 1=some [.int .i64 n]:=by rw[cY (x2.gt _ om),cY (jx.gt _ om)]; exact rn
  have w1:=me (k:=k) om
  have Y2:Ext (h.next+1) h0 h2:=jx.trans (x2.mono om)
  have X2:Ext h.next h h2:=X1.trans (x2.mono X1.nx)
  have bad:okE n es[k]=false→iP n es=false:=λhb=>by
   rw[hB]
   cases hh:es.all (okE n) with
   | false=>rfl
   | true=>rw[cH.1 hh _ (aR hk)] at hb; cases hb
  by_cases p1:es[k].1<0
  ·have d1:decide (es[k].1<0)=true:=aN p1
   have hb:=bad (by have:decide (0≤es[k].1)=false:=aK om
                    simp only[okE,this,fA])
   refine ae (ar (M2 ra d1) ?_)
   refine cE (Z0) (ae (ar (M0) ?_))
   exact bH ⟨.bool false,(by simp only[rs,rf18,am,aC,simprocAttr]<;>rfl),by rw[hb],X2⟩
  have d1:decide (es[k].1<0)=false:=aK p1
  by_cases p2:es[k].2<0
  ·have d2:decide (es[k].2<0)=true:=aN p2
   have hb:=bad (by have:decide (0≤es[k].2)=false:=aK om
                    simp only[okE,this,fA,fB])
   refine ae (ar (M4 ra rb d1 d2) ?_)
   refine cE (Z0) (ae (ar (M0) ?_))
   exact bH ⟨.bool false,(by simp only[rs,rf18,am,aC,simprocAttr]<;>rfl),by rw[hb],X2⟩
  have d2:decide (es[k].2<0)=false:=aK p2
  by_cases p3:n≤es[k].1
  ·have d3:decide (n≤es[k].1)=true:=aN p3
   have hb:=bad (by have:decide (es[k].1<n)=false:=aK om
                    simp only[okE,this,fA,fB])
   refine ae (ar (M7 ra rb rn2 e1 d1 d2 d3) ?_)
   refine cE (Z0) (ae (ar (M0) ?_))
   exact bH ⟨.bool false,(by simp only[rs,rf18,am,aC,simprocAttr]<;>rfl),by rw[hb],X2⟩
  have d3:decide (n≤es[k].1)=false:=aK p3
  by_cases p4:n≤es[k].2
  ·have d4:decide (n≤es[k].2)=true:=aN p4
   have hb:=bad (by have:decide (es[k].2<n)=false:=aK om
                    simp only[okE,this,fB])
   refine ae (ar (M8 ra rb rn2 e1 d1 d2 d3 d4) ?_)
   refine cE (Z0) (ae (ar (M0) ?_))
   exact bH ⟨.bool false,(by simp only[rs,rf18,am,aC,simprocAttr]<;>rfl),by rw[hb],X2⟩
  have d4:decide (n≤es[k].2)=false:=aK p4
  refine ae (ar (M8 ra rb rn2 e1 d1 d2 d3 d4) ?_)
  refine dB (I0) (bJ ⟨(),⟨Y2,?_⟩,_,(J2 e3 w1),O1 e1⟩)
  rw[dC hk,List.all_append,j1]
  have f1:decide (0≤es[k].1)=true:=aN om
  have f2:decide (0≤es[k].2)=true:=aN om
  have f3:decide (es[k].1<n)=true:=aN om
  have f4:decide (es[k].2<n)=true:=aN om
  simp only[jF,List.all_nil,okE,f1,f2,f3,f4,Bool.and_self]
 ·rintro _ ts h1 ⟨jx,j1⟩ ⟨e1,e3,-⟩
  rw[dU] at j1
  refine ae (ar (M0) ?_)
  exact bH ⟨.bool true,(by simp only[rs,rf18,am,aC,simprocAttr]<;>rfl),by rw[hB,j1],x0.trans (jx.mono (by have:=x0.nx; omega))⟩
open Go.Am
def bl (n:Nat) (p:Nat→Bool):List AV:=(List.range n).map λi=>.bool (p i)
def il (n:Nat) (f:Nat→Int):List AV:=(List.range n).map λi=>.int .i64 (f i)
theorem jt (n:Nat) (p:Nat→Bool):(bl n p).length=n:=by simp [bl]
theorem px (n:Nat) (f:Nat→Int):(il n f).length=n:=by simp [il]
theorem iu {n i:Nat}{p:Nat→Bool} (h:i<n):(bl n p)[i]?=some (.bool (p i)):=by
 unfold bl
 rw[aw,fj h]
 rfl
theorem kO {n i:Nat}{f:Nat→Int} (h:i<n):(il n f)[i]?=some (.int .i64 (f i)):=by
 unfold il
 rw[aw,fj h]
 rfl
theorem kC {n i:Nat}{p:Nat→Bool}{b:Bool}:(bl n p).set i (.bool b)=bl n λj=>if j=i then b else p j:=by
 refine dZ λj=>?_
 rw[dY,jt]
 by_cases hj:j<n
 ·rw[iu hj,iu hj]
  by_cases e:i=j
  ·subst e; simp [hj]
  ·rw[if_neg e,if_neg (λq=>e q.symm)]
 ·rw[cq (l:=bl n p) (by rw[jt]; omega),cq (by rw[jt]; omega)]
  split
  ·rw[if_neg om]
  ·rfl
theorem EW {n i:Nat}{f:Nat→Int}{b:Int}:(il n f).set i (.int .i64 b)=il n λj=>if j=i then b else f j:=by
 refine dZ λj=>?_
 rw[dY,px]
 by_cases hj:j<n
 ·rw[kO hj,kO hj]
  by_cases e:i=j
  ·subst e; simp [hj]
  ·rw[if_neg e,if_neg (λq=>e q.symm)]
 ·rw[cq (l:=il n f) (by rw[px]; omega),cq (by rw[px]; omega)]
  split
  ·rw[if_neg om]
  ·rfl
theorem mV (n:Nat):cJ [AV.bool false] n=bl n λ_=>false:=by
 rw[jQ]
 unfold bl
 rw[List.map_const',bR]
theorem vj (n:Nat):cJ [AV.int .i64 0] n=il n λ_=>0:=by
 rw[jQ]
 unfold il
 rw[List.map_const',bR]
theorem mI {n:Nat}{p q:Nat→Bool} (h:∀ i,i<n→p i=q i):bl n p=bl n q:=by
 unfold bl
 exact dJ λi hi=>by rw[h i (aF.1 hi)]
theorem xy {n:Nat}{p q:Nat→Int} (h:∀ i,i<n→p i=q i):il n p=il n q:=by
 unfold il
 exact dJ λi hi=>by rw[h i (aF.1 hi)]
end Go.Proofs.Ytpeemonpdlifbaa
namespace Go.Blk
structure Gr where
 m:Nat
 n:Nat
 tl:Nat→Nat
 hd:Nat→Nat
 ok:∀ i,i<m→tl i<n∧hd i<n∧tl i≠hd i
variable {g:Gr}
def Gr.oth (g:Gr) (i x:Nat):Nat:=g.tl i+g.hd i-x
def Gr.inc (g:Gr) (i x:Nat):Prop:=i<g.m∧(g.tl i=x∨g.hd i=x)
instance (i x:Nat):Decidable (g.inc i x):=by unfold Gr.inc; infer_instance
theorem inc_lt {i x:Nat} (h:g.inc i x):x<g.n:=by
 obtain⟨h1,h2⟩:=h
 have:=g.ok i h1
 rcases h2 with rfl|rfl
 ·exact this.1
 ·exact this.2.1
theorem inc_oth {i x:Nat} (h:g.inc i x):g.inc i (g.oth i x)∧g.oth i x≠x∧g.oth i (g.oth i x)=x:=by
 obtain⟨h1,h2⟩:=h
 have:=g.ok i h1
 unfold Gr.inc Gr.oth
 rcases h2 with rfl|rfl
 ·exact⟨⟨h1,.inr om⟩,om,om⟩
 ·exact⟨⟨h1,.inl om⟩,om,om⟩
theorem fE {i x y:Nat} (hx:g.inc i x) (hy:g.inc i y) (hne:y≠x):y=g.oth i x:=by
 obtain⟨h1,h2⟩:=hx
 obtain⟨_,h3⟩:=hy
 have:=g.ok i h1
 unfold Gr.oth
 omega
inductive Conn (g:Gr) (S:Nat→Prop):Nat→Nat→Prop
 | refl {u:Nat}:S u→Conn g S u u
 | step {u v i:Nat}:Conn g S u v→g.inc i v→S (g.oth i v)→Conn g S u (g.oth i v)
theorem Conn.right {S:Nat→Prop}{u v:Nat} (h:Conn g S u v):S v:=by
 cases h with
 | refl h=>exact h
 | step _ _ h=>exact h
theorem Conn.trans {S:Nat→Prop}{u v w:Nat} (h1:Conn g S u v) (h2:Conn g S v w):Conn g S u w:=by
 induction h2 with
 | refl _=>exact h1
 | step _ a b ih=>exact .step ih a b
theorem Conn.edge {S:Nat→Prop}{u i:Nat} (hu:S u) (hi:g.inc i u) (hv:S (g.oth i u)):Conn g S u (g.oth i u):=.step (.refl hu) hi hv
theorem Conn.symm {S:Nat→Prop}{u v:Nat} (h:Conn g S u v):Conn g S v u:=by
 induction h with
 | refl h=>exact .refl h
 | @step v i h1 h2 h3 ih =>
   obtain⟨a,b,c⟩:=inc_oth h2
   have:=Conn.edge (S:=S) h3 a (by rw[c]; exact h1.right)
   rw[c] at this
   exact this.trans ih
theorem Conn.mono {S S':Nat→Prop}{u v:Nat} (h:Conn g S u v) (hs:∀ z,S z→S' z):Conn g S' u v:=by
 induction h with
 | refl h=>exact .refl (hs _ h)
 | step _ a b ih=>exact .step ih a (hs _ b)
theorem Conn.stays {S T:Nat→Prop}{u v:Nat} (h:Conn g S u v) (ht:∀ u i,T u→g.inc i u→S (g.oth i u)→T (g.oth i u)) (hu:T u):T v:=by
 induction h with
 | refl _=>exact hu
 | step _ a b ih=>exact ht _ _ ih a b
def Rel (g:Gr) (i k:Nat):Prop:=∃ x,g.inc i x∧g.inc k x∧Conn g (·≠x) (g.oth i x) (g.oth k x)
theorem Rel.symm {i k:Nat} (h:Rel g i k):Rel g k i:=by
 obtain⟨x,a,b,c⟩:=h
 exact⟨x,b,a,c.symm⟩
inductive Cls (g:Gr):Nat→Nat→Prop
 | refl {i:Nat}:Cls g i i
 | step {i j k:Nat}:Cls g i j→Rel g j k→Cls g i k
theorem Cls.trans {i j k:Nat} (h1:Cls g i j) (h2:Cls g j k):Cls g i k:=by
 induction h2 with
 | refl=>exact h1
 | step _ b ih=>exact .step ih b
theorem Cls.one {i k:Nat} (h:Rel g i k):Cls g i k:=.step .refl h
theorem Cls.symm {i k:Nat} (h:Cls g i k):Cls g k i:=by
 induction h with
 | refl=>exact .refl
 | step _ b ih=>exact (Cls.one b.symm).trans ih
def IsBlock (g:Gr) (b:List Nat):Prop:=b≠[]∧(∀ i∈b,∀ k∈b,Cls g i k)∧∀ i∈b,∀ k,Rel g i k→k∈b
theorem IsBlock.cls {b:List Nat} (h:IsBlock g b) {i k:Nat} (hi:i∈b) (hk:Cls g i k):k∈b:=by
 induction hk with
 | refl=>exact hi
 | step _ r ih=>exact h.2.2 _ ih _ r
structure DS where
 num:Nat→Nat
 low:Nat→Nat
 cnt:Nat
 stk:List Nat
 blk:List (List Nat)
def upd (f:Nat→Nat) (x v:Nat):Nat→Nat:=λz=>if z=x then v else f z
theorem upd_same {f:Nat→Nat}{x v:Nat}:upd f x v x=v:=if_pos rfl
theorem upd_ne {f:Nat→Nat}{x v z:Nat} (h:z≠x):upd f x v z=f z:=if_neg h
def DS.close (sort:List Nat→List Nat) (s:DS) (i:Nat):DS:={ s with blk:=s.blk++[sort (s.stk.drop (s.stk.idxOf i))],stk:=s.stk.take (s.stk.idxOf i)}
def enter (x:Nat) (s:DS):DS:={ s with cnt:=s.cnt+1,num:=upd s.num x (s.cnt+1),low:=upd s.low x (s.cnt+1)}
def edgeS (g:Gr) (sort:List Nat→List Nat) (vis:Nat→Nat→DS→DS) (x:Nat) (by_:Option Nat) (s:DS) (i:Nat):DS :=
 if by_=some i then s
 else if s.num (g.oth i x)=0 then
  let s2:=vis (g.oth i x) i { s with stk:=s.stk++[i]}
  let s3:DS:={ s2 with low:=upd s2.low x (min (s2.low x) (s2.low (g.oth i x)))}
  if s3.num x≤s3.low (g.oth i x) then s3.close sort i else s3
 else if s.num (g.oth i x)<s.num x then { s with stk:=s.stk++[i],low:=upd s.low x (min (s.low x) (s.num (g.oth i x)))}
 else s
def visit (g:Gr) (ends:Nat→List Nat) (sort:List Nat→List Nat):Nat→Nat→Option Nat→DS→DS
 | 0,_,_,s=>s
 | f+1,x,by_,s=>(ends x).foldl (edgeS g sort (λy i s=>visit g ends sort f y (some i) s) x by_) (enter x s)
def unm (g:Gr) (s:DS):Nat:=(List.range g.n).countP λv=>s.num v==0
theorem jy {α:Type}{p q:α→Bool}:∀ {l:List α},(∀ x∈l,p x=true→q x=true)→l.countP p≤l.countP q
 | [],_=>ab _
 | a::l,h=>by
   have ih:=jy (l:=l) λx hx=>h x (be _ hx)
   rw[cG,cG]
   have ha:=h a (bq ..)
   cases hp:p a with
   | true=>rw[ha hp]; simp; exact ih
   | false=>cases q a<;>simp<;>omega
theorem lF {α:Type}{p q:α→Bool}:∀ {l:List α}{a:α},(∀ x∈l,p x=true→q x=true)→a∈l→p a=false→q a=true→l.countP p<l.countP q
 | [],a,_,hm,_,_=>by cases hm
 | b::l,a,h,hm,hp,hq=>by
   rw[cG,cG]
   rcases aq.1 hm with rfl|hm
   ·have:=jy (l:=l) λx hx=>h x (be _ hx)
    rw[hp,hq]
    simp
    omega
   ·have ih:=lF (l:=l) (λx hx=>h x (be _ hx)) hm hp hq
    have hb:=h b (bq ..)
    cases hp':p b with
    | true=>rw[hb hp']; simp; omega
    | false=>cases q b<;>simp<;>omega
theorem Jm {s s':DS} (h:∀ v,s.num v≠0→s'.num v≠0):unm g s'≤unm g s:=by
 refine jy λv _ hv=>?_
 have hv:s'.num v=0:=by simpa using hv
 have:s.num v=0:=Decidable.byContradiction λhc=>h v hc hv
 simp [this]
theorem yo {s s':DS} (h:∀ v,s.num v≠0→s'.num v≠0) {x:Nat} (hx:x<g.n) (h0:s.num x=0) (h1:s'.num x≠0):unm g s'<unm g s:=by
 refine lF (a:=x) (λv _ hv=>?_) (aF.2 hx) (by simpa using h1) (by simpa using h0)
 have hv:s'.num v=0:=by simpa using hv
 have:s.num v=0:=Decidable.byContradiction λhc=>h v hc hv
 simp [this]
end Go.Blk
