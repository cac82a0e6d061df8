/-
  A graph and a plan, as they lie in the clean machine's memory at the law's beginning.
-/
import Derived.Test.YticaalcbgikjjaaGreatDoorKOpen
import Derived.Test.YticaalcbgikjjaaGreatDoorKLw
import Derived.Test.YticaalcbgikjjaaGreatDoorKLs
import Derived.Test.YticaalcbgikjjaaGreatDoorKOf
set_option linter.all false
namespace Go.Proofs.YticaalcbgikjjaaGreatDoor
open Go.Am
open Go.RowKit
def outsOf (rows:List NRow) (len:Nat):List (List Int):=(rows.take len).map fun r=>r.zs.take r.len
theorem rows200 {w:World}{a:Option Addr}{len cap:Nat}{rows:List NRow} (hc:RowsIn w a len cap rows) {K:Bs}{σ:Sg}{h:AH} (r:Rep K σ h w) (hB:K.B=w.heap.size) :
 ∃ (σ':Sg) (os:List AO) (oc:AO) (cv:AV),os.length=200∧σ.le σ'∧Rep K σ' ((news os h).new oc) w∧VR σ' cv (.slice a len cap)∧lenLA cv=some (.int .i64 (len:Nat)) ∧
   (len≤200→SlL ((news os h).new oc) cv (outsOf rows len)):=by
 cases a with
 | none =>
   obtain⟨rfl,rfl⟩:=hc.none_ rfl
   obtain⟨σ1,os,vs,a1,a2,a3,a4,a5⟩:=Rep.rows (k:=.i64) hB 200 [] r (Nat.zero_le _) (fun r hr=>by cases hr)
   obtain⟨σ2,b1,b2⟩:=a4.dummy
   exact⟨σ2,os,_,.nils,a1,Sg.le_trans a3 b1,b2,by simp [VR],rfl,fun _=>⟨[],.inl ⟨rfl,.inl rfl⟩,by simp [outsOf],fun i w xs h1=>by simp at h1⟩⟩
 | some x =>
   have hsp:=hc.spot x rfl
   by_cases hl:len≤200
   ·have hle:=hc.le
    have hlen:=hc.length
    have htl:(rows.take len).length=len:=by rw[List.length_take]; omega
    obtain⟨σ1,os,vs,a1,a2,a3,a4,a5⟩:=Rep.rows (k:=.i64) hB 200 (rows.take len) r (by omega) (fun r hr=>hc.ok r (List.mem_of_mem_take hr))
    have hcell:∀ i,i<cap→w.cell? (x.add i)=some (match rows[i]? with|some r=>.slice r.a r.len r.cap|none=>.bool true):=by
     intro i hi
     have:rows[i]?=some rows[i]:=List.getElem?_eq_getElem (by omega)
     rw[this]
     exact hc.cells x rfl i _ this
    obtain⟨σ2,b1,b2,b3⟩:=a4.outer hB (vs:=vs) (len:=len) hsp hle (by omega) hcell (fun i v hv=>by
     have hil:=(List.getElem?_eq_some_iff.1 hv).1
     have h1:i<(rows.take len).length:=by omega
     have h2:(rows.take len)[i]?=some (rows.take len)[i]:=List.getElem?_eq_getElem h1
     have h3:=(a5 i v _ hv h2).1
     have h4:rows[i]?=some (rows.take len)[i]:=by
      rw[← h2,List.getElem?_take,if_pos (by omega)]
     rw[h4]
     exact h3)
    refine⟨σ2,os,_,_,a1,Sg.le_trans a3 b1,b2,b3,rfl,fun _=>⟨vs,Sl.row (by rw[AH.get_new,if_pos rfl]) (by omega) (Nat.le_refl _),by rw[outsOf,List.length_map]; omega,fun i v xs hv hx=>?_⟩⟩
    unfold outsOf at hx
    rw[List.getElem?_map] at hx
    cases hq:(rows.take len)[i]? with
    | none=>rw[hq] at hx; cases hx
    | some row =>
      rw[hq] at hx
      simp only[Option.map_some,Option.some.injEq] at hx
      subst hx
      have hm:=List.mem_of_mem_take (List.mem_of_getElem? hq)
      obtain⟨k1,k2,_⟩:=hc.ok row hm
      rcases (a5 i v row hv hq).2 with ⟨h1|h1,h2⟩|⟨b,h1,h2⟩
      ·exact .inl ⟨by rw[h2]; simp,.inl h1⟩
      ·exact .inl ⟨by rw[h2]; simp,.inr h1⟩
      ·subst h1
       refine sl_flat (f:=eI) (ro:=true) (fun _=>rfl) ?_ (by rw[List.length_take]; omega)
       rw[AH.get_new,if_neg (by have:=AH.lt_of_get h2; omega),flat_ci]
       exact h2
   ·obtain⟨σ1,os,vs,a1,a2,a3,a4,a5⟩:=Rep.rows (k:=.i64) hB 200 [] r (Nat.zero_le _) (fun r hr=>by cases hr)
    obtain⟨σ2,b1,b2,b3⟩:=a4.outer0 (len:=len) hsp hc.le
    exact⟨σ2,os,_,_,a1,Sg.le_trans a3 b1,b2,b3,rfl,fun q=>absurd q hl⟩
theorem came_in {w:World}{P:Program}{a0 a2:Option Addr}{l0 c0 l2 c2:Nat}{z0:List Int}{rows:List NRow} (w0:IsRowE .i64 2 w a0 l0 c0 z0) (s0:∀ x,a0=some x→x.spot=none) (w2:RowsIn w a2 l2 c2 rows) :
 ∃ (σ:Sg) (os:List AO) (v0 v2:AV) (E:List (Int×Int)) (T:List (List Int)),os.length=202∧GL σ∧Rep ⟨w.heap.size,w,P,[]⟩ σ (news os AH.zero) w∧VR σ v0 (.slice a0 l0 c0)∧VR σ v2 (.slice a2 l2 c2)∧SlE (news os AH.zero) v0 E∧Turn (news os AH.zero) v2 l2 T:=by
 have st:=St0.zero P w
 obtain⟨σ1,os1,oc,v2,q1,q2,q3,q4,q5,q6⟩:=rows200 w2 st.rep rfl
 obtain⟨σ2,o0,v0,r1,r2,r3,r4⟩:=rowE1 q3 rfl (by decide) w0 s0
 have e:((news os1 AH.zero).new oc).new o0=news (os1++[oc,o0]) AH.zero:=by rw[← news_two]
 refine⟨σ2,os1++[oc,o0],v0,v2,pairsI (z0.take (l0*2)),outsOf rows l2,by simp [q1],(st.gl.mono q2).mono r1,by rw[← e]; exact r2,r3,VR.mono r1 _ _ q4,?_,⟨q5,?_,fun hl=>⟨?_,?_⟩⟩⟩
 ·rw[← e]
  rcases r4 with ⟨h1,h2⟩|⟨h1,h2,h3⟩
  ·subst h1 h2
   exact .inl ⟨by simp [pairsI],.inl rfl⟩
  ·subst h1 h2
   obtain⟨f1,f2⟩:=flat_pairs l0 _ h3
   refine sl_flat (f:=eE) (ro:=true) (fun _=>rfl) ?_ f2.symm
   rw[AH.get_new,if_pos rfl,f1]
 ·revert q5
  cases v2<;>intro q5<;>first|exact⟨rfl,rfl⟩|cases q5
 ·rw[← e]
  exact SlL.stay stay_new (q6 hl)
 ·have h1:=w2.le
  have h2:=w2.length
  unfold outsOf
  rw[List.length_map,List.length_take]
  omega
end Go.Proofs.YticaalcbgikjjaaGreatDoor
