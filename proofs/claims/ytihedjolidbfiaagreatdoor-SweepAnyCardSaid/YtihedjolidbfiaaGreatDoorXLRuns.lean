/-
  SweepRuns' law in the clean machine.
-/
import Derived.Test.YtihedjolidbfiaaGreatDoorXStn
set_option linter.all false
namespace Go.Proofs.YtihedjolidbfiaaGreatDoor
open Go.Am
def resM (n:Nat) (es:List (Int×Int)) (order:List Int) (outs:List (List Int)):Int×Int×List (List It)×List It :=
 match runM n es outs order [] [] (List.replicate n []) 0 with
 | .inl (ends,row)=>(0,0,ends,row)
 | .inr i=>(3,(i:Nat),[],[])
open Classical in
noncomputable def outM (n:Int) (es:List (Int×Int)) (order:List Int) (outs:List (List Int)):Int×Int×List (List It)×List It :=
 if GoodP n es∧PlanP n.toNat es order outs then resM n.toNat es order outs else (1,0,[],[])
theorem SlTL.nils {h:AH}:SlTL h .nils []:=⟨[],.inl ⟨rfl,.inl rfl⟩,rfl,fun i w xs h1=>by simp at h1⟩
theorem run_out {h:AH}{r:AV}{n:Int}{es:List (Int×Int)}{order:List Int}{outs:List (List Int)}{tl:Int→Int→List AV}
 (hr:(¬ (GoodP n es∧PlanP n.toNat es order outs)∧r=.tup ([.nils,.nils]++tl 1 0))∨((GoodP n es∧PlanP n.toNat es order outs)∧RunR h r n.toNat es order outs tl)) :
 ∃ a b,r=.tup ([a,b]++tl (outM n es order outs).1 (outM n es order outs).2.1)∧SlTL h a (outM n es order outs).2.2.1∧SlT h b (outM n es order outs).2.2.2:=by
 rcases hr with ⟨hn,rfl⟩|⟨hp,hr⟩
 ·unfold outM
  rw[if_neg hn]
  exact⟨_,_,rfl,SlTL.nils,.inl ⟨rfl,.inl rfl⟩⟩
 ·unfold outM
  rw[if_pos hp]
  unfold resM
  rcases hr with ⟨i,h1,rfl⟩|⟨ends,row,a,b,h1,rfl,h2,h3⟩
  ·rw[h1]
   exact⟨_,_,rfl,SlTL.nils,.inl ⟨rfl,.inl rfl⟩⟩
  ·rw[h1]
   exact⟨a,b,rfl,h2,h3⟩
theorem gone_len (x:Int) (row:List It):(goneM x row).length≤row.length:=by
 unfold goneM
 rw[List.length_take,List.length_drop]
 omega
end Go.Proofs.YtihedjolidbfiaaGreatDoor
