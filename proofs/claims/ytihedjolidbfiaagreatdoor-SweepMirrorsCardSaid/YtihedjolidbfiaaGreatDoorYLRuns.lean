/-
  SweepRuns' law in the clean machine.
-/
import Derived.Test.YtihedjolidbfiaaGreatDoorYStn
set_option linter.all false
namespace Go.Proofs.YtihedjolidbfiaaGreatDoor
open Go.Am
def resM (n:Nat) (es:List (Int×Int)) (order:List Int) (outs:List (List Int)):Int×Int×List (List It)×List It :=
 match runM n es outs order [] [] (List.replicate n []) 0 with
 | .inl (ends,row)=>(0,0,ends,row)
 | .inr i=>(3,(i:Nat),[],[])
open Classical in
noncomputable def outM (n:Int) (es:List (Int×Int)) (order:List Int) (outs:List (List Int)):Int×Int×List (List It)×List It :=
 if GoodP n es∧PlanP n.toNat es order outs then resM n.toNat es order outs else (1,0,[],[])
theorem SlTL.nils {h:AH}:SlTL h .nils []:=⟨[],.inl ⟨rfl,.inl rfl⟩,rfl,fun i w xs h1=>by simp at h1⟩
theorem run_out {h:AH}{r:AV}{n:Int}{es:List (Int×Int)}{order:List Int}{outs:List (List Int)}{tl:Int→Int→List AV}
 (hr:(¬ (GoodP n es∧PlanP n.toNat es order outs)∧r=.tup ([.nils,.nils]++tl 1 0))∨((GoodP n es∧PlanP n.toNat es order outs)∧RunR h r n.toNat es order outs tl)) :
 ∃ a b,r=.tup ([a,b]++tl (outM n es order outs).1 (outM n es order outs).2.1)∧SlTL h a (outM n es order outs).2.2.1∧SlT h b (outM n es order outs).2.2.2:=by
 rcases hr with ⟨hn,rfl⟩|⟨hp,hr⟩
 ·unfold outM
  rw[if_neg hn]
  exact⟨_,_,rfl,SlTL.nils,.inl ⟨rfl,.inl rfl⟩⟩
 ·unfold outM
  rw[if_pos hp]
  unfold resM
  rcases hr with ⟨i,h1,rfl⟩|⟨ends,row,a,b,h1,rfl,h2,h3⟩
  ·rw[h1]
   exact⟨_,_,rfl,SlTL.nils,.inl ⟨rfl,.inl rfl⟩⟩
  ·rw[h1]
   exact⟨a,b,rfl,h2,h3⟩
theorem gone_len (x:Int) (row:List It):(goneM x row).length≤row.length:=by
 unfold goneM
 rw[List.length_take,List.length_drop]
 omega
theorem runM_len {n:Nat}{es:List (Int×Int)}{outs:List (List Int)}{M:Nat} (ho:∀ l∈outs,l.length≤200):∀ (q pl:List Int) (row:List It) (ends ends':List (List It)) (row':List It) (i:Nat),row.length+201*q.length≤M→(∀ l∈ends,l.length≤M)→runM n es outs q pl row ends i=.inl (ends',row') →
 (∀ l∈ends',l.length≤M)∧row'.length≤M
 | [],pl,row,ends,ends',row',i,hm,he,h=>by
   simp only[runM,Sum.inl.injEq,Prod.mk.injEq] at h
   obtain⟨rfl,rfl⟩:=h
   exact⟨he,by omega⟩
 | x::q,pl,row,ends,ends',row',i,hm,he,h=>by
   unfold runM at h
   split at h
   ·have hg:(outs.getD x.toNat []).length≤200:=by
     by_cases hx:x.toNat<outs.length
     ·rw[getD_at hx]; exact ho _ (List.getElem_mem hx)
     ·rw[List.getD_eq_getElem?_getD,List.getElem?_eq_none (by omega)]; simp
    have:=next_len (es:=es) (x:=x) (outs:=outs.getD x.toNat []) (row:=row)
    simp only[List.length_cons] at hm
    refine runM_len ho q _ _ _ _ _ _ (by omega) (fun l hl=>?_) h
    rcases List.mem_or_eq_of_mem_set hl with hl|hl
    ·exact he l hl
    ·rw[hl]
     have:=gone_len x row
     omega
   ·cases h
theorem runM_elen {n:Nat}{es:List (Int×Int)}{outs:List (List Int)}:∀ (q pl:List Int) (row:List It) (ends ends':List (List It)) (row':List It) (i:Nat),runM n es outs q pl row ends i=.inl (ends',row')→ends'.length=ends.length
 | [],pl,row,ends,ends',row',i,h=>by
   simp only[runM,Sum.inl.injEq,Prod.mk.injEq] at h
   rw[← h.1]
 | x::q,pl,row,ends,ends',row',i,h=>by
   unfold runM at h
   split at h
   ·rw[runM_elen q _ _ _ _ _ _ h,List.length_set]
   ·cases h
theorem out_len {n:Int}{es:List (Int×Int)}{order:List Int}{outs:List (List Int)} (hl:order.length≤100) (ho:∀ l∈outs,l.length≤200) :
 (outM n es order outs).2.2.1.length<2 ^ 30∧(∀ l∈(outM n es order outs).2.2.1,l.length<2 ^ 30)∧(outM n es order outs).2.2.2.length<2 ^ 30:=by
 unfold outM
 split
 ·rename_i hp
  unfold resM
  split
  ·rename_i ends row h1
   obtain⟨h2,h3⟩:=runM_len (M:=201*100) ho _ _ _ _ _ _ _ (by simp only[List.length_nil]; omega) (fun l hl=>by
    have:=List.eq_of_mem_replicate hl
    subst this
    simp) h1
   have h4:=runM_elen _ _ _ _ _ _ _ h1
   rw[List.length_replicate] at h4
   have h5:n.toNat=order.length:=by rw[hp.2.1.length_eq,upTo_len]
   exact⟨by simp only; omega,fun l hl=>by have:=h2 l hl; omega,by simp only; omega⟩
  ·exact⟨by simp,by simp,by simp⟩
 ·exact⟨by simp,by simp,by simp⟩
end Go.Proofs.YtihedjolidbfiaaGreatDoor
