/-
  slices.Min, Reverse of numbers. slices.Sort of ints: cmp.Less, the insertion sort. slices.Sort of ints: the heap. slices.Sort of ints: the partitions (printed by tools/mksrt3.py).
-/
import Derived.Test.YticaalcbgikjjaaGreatDoorKLa
import Derived.Test.YticaalcbgikjjaaGreatDoorKLb
import Derived.Test.YticaalcbgikjjaaGreatDoorKRf
import Derived.Test.YticaalcbgikjjaaGreatDoorKAmA
set_option linter.all false
namespace Go.Proofs.YticaalcbgikjjaaGreatDoor
open Go.Am Go.Sort
theorem mn2 {k:IntKind}{x y:Int}:foldA mnA [.int k x,.int k y]=some (.int k (if y<x then y else x)):=by simp [foldA,mnA]
theorem mini_ok {h:AH}{v:AV}{xs:List Int} (hv:SlI h v xs) (hl:xs.length<2 ^ 40) (hne:0<xs.length):C prg 79 [v] h fun r h'=>∃ m,r=.int .i64 m∧m∈xs∧(∀ y∈xs,m≤y)∧h'=h:=by
 have el:=hv.len
 rw[List.length_map] at el
 refine C.func pf79 ?_
 have c1:decide (((xs.length:Nat):Int)<1)=false:=decide_eq_false (by omega)
 refine W.seq (W.run (by simp only[am,evOp,simprocAttr,initTm]<;>rfl) ?_)
 refine W.seq (W.seq (W.run (by simp only[am,evOp,simprocAttr,initTm,el]<;>rfl) ?_))
 refine W.no (by simp only[am,evOp,simprocAttr,c1]) (W.skip ?_)
 obtain⟨b0,p0,a0,r0,_⟩:=hv.at1 (map_at (f:=eI) hne)
 have a0:iadrL 1 v (.int .i64 0)=some (.ptr b0 p0):=a0
 refine W.seq (W.run (by simp only[am,evOp,simprocAttr,initTm,a0,r0]<;>rfl) ?_)
 refine W.seq (W.seq (W.run (by simp only[am,evOp,simprocAttr]<;>rfl) ?_))
 refine W.whl (α:=Int) (N:=xs.length-1) (fun k a=>[(0,v),(4,.int .i64 ((k+1:Nat):Int)),(3,.int .i64 a)]) (fun k a h'=>h'=h∧a∈xs.take (k+1)∧∀ y∈xs.take (k+1),a≤y) xs[0] (by simp only[held_cons,held_nil,am,evOp,↓reduceIte,Nat.reduceEqDiff,Int.reduceEq,Nat.reduceAdd,Nat.reduceLeDiff,reduceCtorEq,initTm,Nat.zero_add,Int.natCast_one]) ⟨rfl,by rw[List.take_succ_eq_append_getElem hne]; simp,by rw[List.take_succ_eq_append_getElem hne]; simp⟩ ?_ ?_ ?_
 ·rintro k a ts h1 hk ⟨rfl,j1,j2⟩ ⟨e0,e4,e3,-⟩
  simp only at e0 e4 e3
  have c2:decide (((k+1:Nat):Int)<((xs.length:Nat):Int))=decide (k<xs.length-1):=by simp only[decide_eq_decide]; omega
  exact⟨_,(by simp only[am,evOp,↓reduceIte,Nat.reduceEqDiff,Int.reduceEq,Nat.reduceAdd,Nat.reduceLeDiff,reduceCtorEq,e0,e4,el,c2]<;>rfl),by simp only[am,evOp,↓reduceIte,Nat.reduceEqDiff,Int.reduceEq,Nat.reduceAdd,Nat.reduceLeDiff,reduceCtorEq],by simp only[held_cons,held_nil,am,evOp,↓reduceIte,Nat.reduceEqDiff,Int.reduceEq,Nat.reduceAdd,Nat.reduceLeDiff,reduceCtorEq,e0,e4,e3]⟩
 ·rintro k a ts h1 hk ⟨rfl,j1,j2⟩ ⟨e0,e4,e3,-⟩
  simp only at e0 e4 e3
  obtain⟨b1,p1,a1,r1,_⟩:=hv.at1 (map_at (f:=eI) (show k+1<xs.length by omega))
  have w1:IntKind.i64.wrap (((k+1:Nat):Int)+1)=((k+1+1:Nat):Int):=wr64 (by omega) (by omega)
  refine W.run (by simp only[am,evOp,simprocAttr,e0,e4,e3,a1,r1,mn2]<;>rfl) ?_
  refine⟨if xs[k+1]<a then xs[k+1] else a,⟨rfl,?_,?_⟩,_,(by simp only[am,evOp,↓reduceIte,Nat.reduceEqDiff,Int.reduceEq,Nat.reduceAdd,Nat.reduceLeDiff,reduceCtorEq,e4,w1]<;>rfl),by simp only[held_cons,held_nil,am,evOp,↓reduceIte,Nat.reduceEqDiff,Int.reduceEq,Nat.reduceAdd,Nat.reduceLeDiff,reduceCtorEq,e0,e4]⟩
  ·rw[List.take_succ_eq_append_getElem (show k+1<xs.length by omega)]
   split
   ·exact List.mem_append.2 (.inr (List.mem_cons_self ..))
   ·exact List.mem_append.2 (.inl j1)
  ·intro y hy
   rw[List.take_succ_eq_append_getElem (show k+1<xs.length by omega),List.mem_append] at hy
   rcases hy with hy|hy
   ·have:=j2 y hy
    split<;>omega
   ·simp only[List.mem_cons,List.not_mem_nil,or_false] at hy
    subst hy
    split<;>omega
 ·rintro a ts h1 ⟨rfl,j1,j2⟩ ⟨e0,e4,e3,-⟩
  simp only at e0 e4 e3
  rw[show xs.length-1+1=xs.length by omega,List.take_length] at j1 j2
  refine W.seq (W.run (by simp only[am,evOp,simprocAttr,e3]<;>rfl) ?_)
  exact W.ret ⟨_,(by simp only[rs,rf79,am,evOp,simprocAttr]<;>rfl),a,rfl,j1,j2,rfl⟩
theorem reverse_ok {h:AH}{b o c:Nat}{cs:List AV}{d:Array Int} (hg:h.get b=some (blkI cs o d)) (hr:o+d.size≤cs.length) (hs:d.size<2 ^ 40) :
 C prg 78 [.sl b o d.size c] h fun _ h'=>Upd h h' b (blkI cs o d.reverse):=by
 refine C.func pf78 ?_
 have w0:IntKind.i64.wrap (((d.size:Nat):Int)-1)=((d.size:Nat):Int)-1-((0:Nat):Int):=by rw[wr64 (by omega) (by omega)]; omega
 refine W.seq (W.run (by simp only[am,evOp,simprocAttr,initTm,w0]<;>rfl) ?_)
 refine W.whl (α:=Array Int) (N:=d.size / 2) (fun k a=>[(0,.sl b o d.size c),(2,.int .i64 (k:Nat)),(3,.int .i64 (((d.size:Nat):Int)-1-((k:Nat):Int)))])
  (fun k a h'=>Upd h h' b (blkI cs o a)∧a.size=d.size∧∀ x,x<d.size→a[x]! = if x<k∨d.size-1-x<k then d[d.size-1-x]! else d[x]!) d (by simp only[hl,am,evOp,simprocAttr,initTm,Int.natCast_zero]) ⟨Upd.refl hg,rfl,fun x _=>by rw[if_neg (by omega)]⟩ ?_ ?_ ?_
 ·rintro k a ts h1 hk ⟨j1,j2,j3⟩ ⟨e0,e2,e3,-⟩
  simp only at e0 e2 e3
  have c2:decide (((k:Nat):Int)<((d.size:Nat):Int)-1-((k:Nat):Int))=decide (k<d.size / 2):=by simp only[decide_eq_decide]; omega
  exact⟨_,(by simp only[am,evOp,simprocAttr,e2,e3,c2]<;>rfl),by simp only[am,evOp,simprocAttr],by simp only[hl,am,evOp,simprocAttr,e0,e2,e3]⟩
 ·rintro k a ts h1 hk ⟨j1,j2,j3⟩ ⟨e0,e2,e3,-⟩
  simp only at e0 e2 e3
  have hm:((d.size:Nat):Int)-1-((k:Nat):Int)=((d.size-1-k:Nat):Int):=by omega
  have i1:idx? ((k:Nat):Int) d.size=some k:=idx_nat (by omega)
  have i2:idx? ((d.size-1-k:Nat):Int) d.size=some (d.size-1-k):=idx_nat (by omega)
  have r1:=rd_blk (i:=k) j1.get (by omega) (by omega)
  have r2:=rd_blk (i:=d.size-1-k) j1.get (by omega) (by omega)
  obtain⟨m1,m2,s1,s2,u2⟩:=swp_blk (i:=k) (j:=d.size-1-k) j1.get (by omega) (by omega) (by omega)
  have w1:IntKind.i64.wrap (((k:Nat):Int)+1)=((k+1:Nat):Int):=wr64 (by omega) (by omega)
  have w2:IntKind.i64.wrap (((d.size-1-k:Nat):Int)-1)=((d.size:Nat):Int)-1-((k+1:Nat):Int):=by rw[wr64 (by omega) (by omega)]; omega
  refine W.run (by simp only[am,evOp,simprocAttr,e0,e2,e3,hm,i1,i2,r1,r2,s1,s2,Nat.mul_one]<;>rfl) ?_
  refine⟨_,⟨j1.trans u2,by rw[swp_size',j2],?_⟩,_,(by simp only[am,evOp,simprocAttr,e2,e3,hm,w1,w2]<;>rfl),by simp only[hl,am,evOp,simprocAttr,e0]⟩
  intro x hx
  by_cases x1:x=k
  ·subst x1
   rw[swp_left _ _ _ (by omega) (by omega),j3 _ (by omega),if_neg (by omega),if_pos (by omega)]
  ·by_cases x2:x=d.size-1-k
   ·rw[x2,swp_right _ _ _ (by omega),j3 _ (by omega),if_neg (by omega),if_pos (by omega)]
    congr 1
    omega
   ·rw[swp_other _ _ _ _ x1 x2,j3 _ hx]
    by_cases q:x<k∨d.size-1-x<k
    ·rw[if_pos q,if_pos (by omega)]
    ·rw[if_neg q,if_neg (by omega)]
 ·rintro a ts h1 ⟨j1,j2,j3⟩ _
  refine⟨.tup [],rfl,?_⟩
  have:a=d.reverse:=by
   refine Array.ext (by simpa using j2) fun i h1 h2=>?_
   have:=j3 i (by omega)
   rw[getElem!_pos a i h1] at this
   rw[this,Array.getElem_reverse]
   rw[getElem!_pos d _ (by omega)]
   split
   ·rfl
   ·rw[getElem!_pos d _ (by omega)]
    congr 1
    omega
  rw[← this]
  exact j1
end Go.Proofs.YticaalcbgikjjaaGreatDoor
namespace Go.Proofs.YticaalcbgikjjaaGreatDoor
open Go.Am
open Go.Sort (swp ltInt)
open Go.Sort (insInner insOuter insertionSort)
end Go.Proofs.YticaalcbgikjjaaGreatDoor
namespace Go.Proofs.YticaalcbgikjjaaGreatDoor
open Go.Am
open Go.Sort (swp ltInt siftDown heapBuild heapPop heapSort)
end Go.Proofs.YticaalcbgikjjaaGreatDoor
namespace Go.Proofs.YticaalcbgikjjaaGreatDoor
open Go.Am
open Go.Sort (swp ltInt reverseLoop reverseRange scanUp scanDown partLoop partition partEqLoop partitionEqual scanUp_spec scanDown_spec scanUp_ge scanDown_le partLoop_eq partEqLoop_eq)
end Go.Proofs.YticaalcbgikjjaaGreatDoor
