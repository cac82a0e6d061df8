/- A graph and a plan, as they lie in the clean machine's memor -/
import Derived.Test.YtahepnbflofndaaGreatDoorKOpen
import Derived.Test.YtahepnbflofndaaGreatDoorKLw
import Derived.Test.YtahepnbflofndaaGreatDoorKLs
set_option linter.all false
namespace Go.Proofs.YtahepnbflofndaaGreatDoor
open Go.Am
open Go.RowKit
def to (rows:List NRow) (len:Nat):List (List Int):=(rows.take len).map λr=>r.zs.take r.len
theorem JG {w:World}{a:Option Addr}{len cap:Nat}{rows:List NRow} (hc:RowsIn w a len cap rows) {K:Bs}{σ:Sg}{h:AH} (r:Rep K σ h w) (hB:K.B=w.heap.size) :
 ∃ (σ':Sg) (os:List AO) (oc:AO) (cv:AV),os.length=100∧σ.le σ'∧Rep K σ' ((news os h).new oc) w∧VR σ' cv (.slice a len cap)∧gD cv=some (.int .i64 (len:Nat)) ∧
   (len≤100→SlL ((news os h).new oc) cv (to rows len)):=by
 cases a with
 | none =>
   obtain⟨rfl,rfl⟩:=hc.none_ rfl;obtain⟨σ1,os,vs,a1,a2,a3,a4,a5⟩:=Rep.rows (k:=.i64) hB 100 [] r (dM _) (λr hr=>by cases hr);obtain⟨σ2,b1,b2⟩:=a4.dummy;exact⟨σ2,os,_,.nils,a1,Sg.le_trans a3 b1,b2,by simp [VR],rfl,λ_=>⟨[],.inl ⟨rfl,.inl rfl⟩,by simp [to],λi w xs h1=>by simp at h1⟩⟩
 | some x =>
   have hsp:=hc.spot x rfl;by_cases hl:len≤100
   ·have hle:=hc.le;have hlen:=hc.length;have htl:(rows.take len).length=len:=by rw[aS]; omega
    obtain⟨σ1,os,vs,a1,a2,a3,a4,a5⟩:=Rep.rows (k:=.i64) hB 100 (rows.take len) r om (λr hr=>hc.ok r (nh hr));have hcell:∀ i,i<cap→w.cell? (x.add i)=some (match rows[i]? with|some r=>.slice r.a r.len r.cap|none=>.bool true):=by
     intro i hi;have:rows[i]?=some rows[i]:=aq om;rw[this];exact hc.cells x rfl i _ this
    obtain⟨σ2,b1,b2,b3⟩:=a4.outer hB (vs:=vs) (len:=len) hsp hle om hcell (λi v hv=>by
     have hil:=(aI.1 hv).1;have h1:i<(rows.take len).length:=om;have h2:(rows.take len)[i]?=some (rows.take len)[i]:=aq h1;have h3:=(a5 i v _ hv h2).1;have h4:rows[i]?=some (rows.take len)[i]:=by
      rw[← h2,cQ,if_pos om]
     rw[h4];exact h3)
    refine⟨σ2,os,_,_,a1,Sg.le_trans a3 b1,b2,b3,rfl,λ_=>⟨vs,Ms (by rw[AH.get_new,if_pos rfl]) om (ab _),by rw[to,ai]; omega,λi v xs hv hx=>?_⟩⟩;unfold to at hx;rw[aX] at hx;cases hq:(rows.take len)[i]? with
    | none=>rw[hq] at hx; cases hx
    | some row =>
      rw[hq] at hx;simp only[aQ,aa] at hx;subst hx;have hm:=nh (ni hq);obtain⟨k1,k2,_⟩:=hc.ok row hm;rcases (a5 i v row hv hq).2 with ⟨h1|h1,h2⟩|⟨b,h1,h2⟩
      ·exact .inl ⟨by rw[h2]; simp,.inl h1⟩
      ·exact .inl ⟨by rw[h2]; simp,.inr h1⟩
      ·subst h1;refine wM (f:=eI) (ro:=true) (λ_=>rfl) ?_ (by rw[aS]; omega);rw[AH.get_new,if_neg (by have:=AH.lt_of_get h2; omega),CE];exact h2
   ·obtain⟨σ1,os,vs,a1,a2,a3,a4,a5⟩:=Rep.rows (k:=.i64) hB 100 [] r (dM _) (λr hr=>by cases hr);obtain⟨σ2,b1,b2,b3⟩:=a4.outer0 (len:=len) hsp hc.le;exact⟨σ2,os,_,_,a1,Sg.le_trans a3 b1,b2,b3,rfl,λq=>absurd q hl⟩
theorem KH {w:World}{P:Program}{n:Int}{a0 a1 a2 a3:Option Addr}{l0 c0 l1 c1 l2 c2 l3 c3:Nat}{z0 z1 z3:List Int}{rows:List NRow} (w0:IsRowE .i64 2 w a0 l0 c0 z0) (s0:∀ x,a0=some x→x.spot=none) (w1:IsRowE .i64 1 w a1 l1 c1 z1) (w2:RowsIn w a2 l2 c2 rows) (w3:IsRowE .i64 1 w a3 l3 c3 z3) :
 ∃ (σ:Sg) (os:List AO) (v0 v1 v2 v3:AV),os.length=104∧GL σ∧Rep ⟨w.heap.size,w,P,[]⟩ σ (news os AH.zero) w∧VR σ v0 (.slice a0 l0 c0)∧VR σ v1 (.slice a1 l1 c1)∧VR σ v2 (.slice a2 l2 c2)∧VR σ v3 (.slice a3 l3 c3) ∧
   Came (news os AH.zero) v0 v1 v2 l0 l1 l2 (ph (z0.take (l0*2))) (z1.take l1) (to rows l2)∧gD v3=some (.int .i64 (l3:Nat))∧SlI (news os AH.zero) v3 (z3.take l3):=by
 have st:=St0.zero P w;obtain⟨σ1,os1,oc,v2,q1,q2,q3,q4,q5,q6⟩:=JG w2 st.rep rfl;obtain⟨σ2,o0,v0,r1,r2,r3,r4⟩:=rowE1 q3 rfl (by decide) w0 s0;obtain⟨σ3,o1,v1,t1,t2,t3,t4,t5⟩:=Lr r2 rfl w1;obtain⟨σ4,o3,v3,u1,u2,u3,u4,u5⟩:=Lr t2 rfl w3;have e:((((news os1 AH.zero).new oc).new o0).new o1).new o3=news (os1++[oc,o0]++[o1,o3]) AH.zero:=by
  rw[← tv,← tv]
 rw[e] at u2 u5;refine⟨σ4,os1++[oc,o0]++[o1,o3],v0,v1,v2,v3,by simp [q1],(((st.gl.mono q2).mono r1).mono t1).mono u1,u2,VR.mono u1 _ _ (VR.mono t1 _ _ r3),VR.mono u1 _ _ t3,VR.mono u1 _ _ (VR.mono t1 _ _ (VR.mono r1 _ _ q4)),u3,⟨?_,t4,q5,?_,?_,λhl=>?_⟩,u4,u5⟩
 ·rcases r4 with ⟨h1,h2⟩|⟨h1,_⟩
  ·subst h1 h2; rfl
  ·subst h1; rfl
 ·rw[← e];refine Mx lP (Mx lP ?_);rcases r4 with ⟨h1,h2⟩|⟨h1,h2,h3⟩
  ·subst h1 h2;exact .inl ⟨by simp [ph],.inl rfl⟩
  ·subst h1 h2;obtain⟨f1,f2⟩:=tS l0 _ h3;refine wM (f:=eE) (ro:=true) (λ_=>rfl) ?_ f2.symm;rw[AH.get_new,if_pos rfl,f1]
 ·rw[← e];exact Mx lP t5
 ·rw[← e];exact SlL.stay lP (SlL.stay lP (SlL.stay lP (q6 hl)))
end Go.Proofs.YtahepnbflofndaaGreatDoor
