/-
  slices.Sort of ints: the partial insertion sort, the pivot (printed by tools/mksrt4.py). How many bits a number has. slices.Sort of ints: the pivot; patterns. slices.Sort of ints: where the pivot is; breaking patterns. slices.Sort of ints (printed by tools/mksrt7.py). slices.Values, Collect, Sorted of numbers.
-/
import Derived.Test.YticaalcbgikjjaaGreatDoorKLc
import Derived.Test.YticaalcbgikjjaaGreatDoorKRf
import Derived.Test.YticaalcbgikjjaaGreatDoorKAmA
import Derived.Test.YticaalcbgikjjaaGreatDoorKLa
set_option linter.all false
namespace Go.Proofs.YticaalcbgikjjaaGreatDoor
open Go.Am
open Go.Sort (swp ltInt scanSorted shiftDown shiftUp partialIns partialInsertionSort fixDown fixUp partialIns_succ)
end Go.Proofs.YticaalcbgikjjaaGreatDoor
namespace Go.Proofs.YticaalcbgikjjaaGreatDoor
open Go.Am
set_option maxRecDepth 8000 in
theorem len64_zero {h:AH}:C prg 112 [.int .u64 0] h fun v h'=>v=.int .i64 0∧h'=h:=by
 refine C.func pf112 ?_
 refine W.seq (W.run (by simp only[am,evOp,↓reduceIte,Nat.reduceEqDiff,Int.reduceEq,Nat.reduceAdd,Nat.reduceLeDiff,reduceCtorEq,initTm]<;>rfl) ?_)
 have c1:decide ((4294967296:Int)≤0)=false:=by decide
 have c2:decide ((65536:Int)≤0)=false:=by decide
 have c3:decide ((256:Int)≤0)=false:=by decide
 refine W.seq (W.seq (W.run (by simp only[am,evOp,↓reduceIte,Nat.reduceEqDiff,Int.reduceEq,Nat.reduceAdd,Nat.reduceLeDiff,reduceCtorEq,initTm,c1]<;>rfl) ?_))
 refine W.no (by simp only[am,evOp,↓reduceIte,Nat.reduceEqDiff,Int.reduceEq,Nat.reduceAdd,Nat.reduceLeDiff,reduceCtorEq,c1]) (W.skip ?_)
 refine W.seq (W.seq (W.run (by simp only[am,evOp,↓reduceIte,Nat.reduceEqDiff,Int.reduceEq,Nat.reduceAdd,Nat.reduceLeDiff,reduceCtorEq,initTm,c2]<;>rfl) ?_))
 refine W.no (by simp only[am,evOp,↓reduceIte,Nat.reduceEqDiff,Int.reduceEq,Nat.reduceAdd,Nat.reduceLeDiff,reduceCtorEq,c2]) (W.skip ?_)
 refine W.seq (W.seq (W.run (by simp only[am,evOp,↓reduceIte,Nat.reduceEqDiff,Int.reduceEq,Nat.reduceAdd,Nat.reduceLeDiff,reduceCtorEq,initTm,c3]<;>rfl) ?_))
 refine W.no (by simp only[am,evOp,↓reduceIte,Nat.reduceEqDiff,Int.reduceEq,Nat.reduceAdd,Nat.reduceLeDiff,reduceCtorEq,c3]) (W.skip ?_)
 have w1:IntKind.u8.wrap 0=0:=by decide
 have w2:IntKind.i64.wrap 0=0:=by decide
 have w3:IntKind.i64.wrap (0+0)=0:=by decide
 have hi:idxSA (.str [0,1,2,2,3,3,3,3,4,4,4,4,4,4,4,4,5,5,5,5,5,5,5,5,5,5,5,5,5,5,5,5,6,6,6,6,6,6,6,6,6,6,6,6,6,6,6,6,6,6,6,6,6,6,6,6,6,6,6,6,6,6,6,6,7,7,7,7,7,7,7,7,7,7,7,7,7,7,7,7,7,7,7,7,7,7,7,7,7,7,7,7,7,7,7,7,7,7,7,7,7,7,7,7,7,7,7,7,7,7,7,7,7,7,7,7,7,7,7,7,7,7,7,7,7,7,7,7,8,8,8,8,8,8,8,8,8,8,8,8,8,8,8,8,8,8,8,8,8,8,8,8,8,8,8,8,8,8,8,8,8,8,8,8,8,8,8,8,8,8,8,8,8,8,8,8,8,8,8,8,8,8,8,8,8,8,8,8,8,8,8,8,8,8,8,8,8,8,8,8,8,8,8,8,8,8,8,8,8,8,8,8,8,8,8,8,8,8,8,8,8,8,8,8,8,8,8,8,8,8,8,8,8,8,8,8,8,8,8,8,8,8,8,8,8,8,8,8,8,8,8,8,8,8,8,8]) (.int .u8 0)=some (.int .u8 0):=rfl
 refine W.seq (W.runs (fun ts h5=>h5=h∧tget ts 2=.int .i64 0) ?_ fun ts h5 ⟨eh,e2⟩=>W.ret ⟨.int .i64 0,(by simp only[rs,rf112,am,evOp,simprocAttr,e2]<;>rfl),rfl,eh⟩)
 simp only[am,evOp,simprocAttr,initTm,w1,hi,w2,w3]
theorem blen_zero {h:AH}:C prg 61 [.int .u64 0] h fun v h'=>v=.int .i64 0∧h'=h:=by
 refine C.func pf61 ?_
 refine W.seq (W.run (by simp only[am,evOp,↓reduceIte,Nat.reduceEqDiff,Int.reduceEq,Nat.reduceAdd,Nat.reduceLeDiff,reduceCtorEq,initTm]<;>rfl) ?_)
 refine W.seq (W.no rfl (W.skip ?_))
 refine W.seq (W.reg (G.gcall 1 (by simp only[am,evOp,simprocAttr,initTm]<;>rfl) rfl (by simp only[am,evOp,simprocAttr,initTm]) (by simp only[am,evOp,simprocAttr,initTm]<;>rfl) (len64_zero) fun v h' hq=>?_))
 obtain⟨rfl,rfl⟩:=hq
 refine G.run (by simp only[am,evOp,simprocAttr]<;>rfl) ?_
 exact W.ret ⟨_,(by simp only[rs,rf61,am,evOp,simprocAttr]<;>rfl),rfl,rfl⟩
end Go.Proofs.YticaalcbgikjjaaGreatDoor
namespace Go.Proofs.YticaalcbgikjjaaGreatDoor
open Go.Am
open Go.Sort (swp ltInt PermIn)
end Go.Proofs.YticaalcbgikjjaaGreatDoor
namespace Go.Proofs.YticaalcbgikjjaaGreatDoor
open Go.Am
open Go.Sort (swp ltInt PermIn swp_permIn permIn_refl permIn_trans)
theorem quo_nat {n k:Nat} (hn:n<2 ^ 62):IntKind.i64.wrap (((n:Nat):Int).tdiv ((k:Nat):Int))=((n / k:Nat):Int):=by
 rw[Int.tdiv_eq_ediv_of_nonneg (by omega),← Int.natCast_ediv]
 have h2:n / k≤n:=Nat.div_le_self n k
 generalize n / k=q at *
 exact wr64 (by omega) (by omega)
end Go.Proofs.YticaalcbgikjjaaGreatDoor
namespace Go.Proofs.YticaalcbgikjjaaGreatDoor
open Go.Am
open Go.Sort (swp ltInt PermIn SortedIn Below permIn_refl permIn_trans insertionSort_holds heapSort_holds partialInsertionSort_holds partition_holds partitionEqual_holds reverseRange_holds swo_ltInt round_eq round_part)
theorem splice_over {cs a v:List AV}{o:Nat} (hr:o+a.length≤cs.length) (hl:v.length=a.length):splice (splice cs o a) o v=splice cs o v:=by
 refine List.ext_getElem? fun i=>?_
 have hs:=splice_len hr
 rw[splice_at (cs:=splice cs o a) (by rw[hs]; omega),splice_at (cs:=cs) (vs:=a) hr,splice_at (cs:=cs) (vs:=v) (by omega)]
 by_cases q:o≤i∧i<o+v.length
 ·rw[if_pos q,if_pos q]
 ·rw[if_neg q,if_neg q,if_neg (by omega)]
theorem sort_ok {h:AH}{b o c:Nat}{cs:List AV}{d:Array Int} (hg:h.get b=some (blkI cs o d)) (hr:o+d.size≤cs.length) (hs:d.size<2 ^ 38) :
 C prg 28 [.sl b o d.size c] h fun v h'=>Mod h.next h h' b (blkI cs o (d.toList.mergeSort (fun x y=>decide (x≤y))).toArray):=by
 have hi:(ints d).length=d.size:=by simp [ints]
 have hsp:(splice cs o (ints d)).length=cs.length:=splice_len (by omega)
 have hsl:(d.toList.mergeSort fun x y=>decide (x≤y)).length=d.size:=by rw[List.length_mergeSort,Array.length_toList]
 have hg':h.get b=some (.cells (splice cs o (ints d)) 1 false):=hg
 have hrd:rdCells h b o d.size=some (d.toList.map (AV.int .i64)):=by
  rw[rdCells_of hg',if_pos (by omega)]
  congr 1
  refine List.ext_getElem? fun i=>?_
  rw[List.getElem?_take,List.getElem?_drop,splice_at (by omega)]
  by_cases q:i<d.size
  ·rw[if_pos q,if_pos (by omega),Nat.add_sub_cancel_left]
   rfl
  ·rw[if_neg q,List.getElem?_eq_none (by simp; omega)]
 have hwr:wrCells h b o (srtI d.toList)=some (h.put b (blkI cs o (d.toList.mergeSort (fun x y=>decide (x≤y))).toArray)):=by
  have hl:(srtI d.toList).length=d.size:=by unfold srtI; rw[List.length_map,hsl]
  rw[wrCells_of hg',if_pos (by omega),splice_over (by omega) (by omega)]
  rfl
 exact BS.srt ps28 hrd hwr (by omega) ⟨_,_,rfl,(Upd.put hg).mod⟩
end Go.Proofs.YticaalcbgikjjaaGreatDoor
namespace Go.Proofs.YticaalcbgikjjaaGreatDoor
open Go.Am Go.Sort
theorem ins_nil {h:AH}:C prg 102 [.nils,.int .i64 0,.int .i64 0] h fun _ h'=>h'=h:=by
 refine C.func pf102 ?_
 refine W.seq (W.run (by simp only[am,evOp,↓reduceIte,Nat.reduceEqDiff,Int.reduceEq,Nat.reduceAdd,Nat.reduceLeDiff,reduceCtorEq,initTm,wr64 (z:=0+1) (by decide) (by decide)]<;>rfl) ?_)
 refine W.block (W.loop (fun n ts h1=>h1=h∧tget ts 2=.int .i64 0∧tget ts 6=.int .i64 (0+1)) ?_ (n:=0) ⟨rfl,by simp only[am,evOp,↓reduceIte,Nat.reduceEqDiff,Int.reduceEq,Nat.reduceAdd,Nat.reduceLeDiff,reduceCtorEq,initTm],by simp only[am,evOp,↓reduceIte,Nat.reduceEqDiff,Int.reduceEq,Nat.reduceAdd,Nat.reduceLeDiff,reduceCtorEq,initTm]⟩)
 rintro n ts h1 ⟨rfl,e2,e6⟩
 refine W.seq (W.seq (W.run (by simp only[am,evOp,simprocAttr,e2,e6]<;>rfl) ?_))
 refine W.no (by simp only[am,evOp,simprocAttr]; rfl) ?_
 exact W.exit ⟨fun _=>⟨.tup [],rfl,rfl⟩,fun e=>absurd rfl e⟩
theorem pdq_nil {h:AH}{l:Int}:C prg 60 [.nils,.int .i64 0,.int .i64 0,.int .i64 l] h fun _ h'=>h'=h:=by
 refine C.func pf60 ?_
 refine W.seq (W.run (by simp only[am,evOp,simprocAttr,initTm]<;>rfl) ?_)
 refine W.seq (W.run (by simp only[am,evOp,simprocAttr,initTm]<;>rfl) ?_)
 refine W.block (W.loop (fun n ts h1=>h1=h∧tget ts 0=.nils∧tget ts 1=.int .i64 0∧tget ts 2=.int .i64 0) ?_ (n:=0) ⟨rfl,by simp only[am,evOp,simprocAttr,initTm],by simp only[am,evOp,simprocAttr,initTm],by simp only[am,evOp,simprocAttr,initTm]⟩)
 rintro n ts h1 ⟨rfl,e0,e1,e2⟩
 refine W.block (W.seq (W.run (by simp only[am,evOp,simprocAttr,e1,e2,wr64 (z:=0-0) (by decide) (by decide)]<;>rfl) ?_))
 refine W.seq (W.seq (W.run (by simp only[am,evOp,simprocAttr]<;>rfl) ?_))
 refine W.yes (by simp only[am,evOp,simprocAttr]; rfl) ?_
 refine W.seq (W.reg (G.gcall 3 (by simp only[am,evOp,simprocAttr,e0,e1,e2]<;>rfl) rfl (by simp only[am,evOp,simprocAttr,e0,e1,e2]) (by simp only[am,evOp,simprocAttr,e0,e1,e2]<;>rfl) (ins_nil) fun v h2 u=>?_))
 subst u
 refine G.run (by simp only[am,evOp,simprocAttr]<;>rfl) ?_
 exact W.ret ⟨.tup [],rfl,rfl⟩
theorem sort_nil {h:AH}:C prg 28 [.nils] h fun _ h'=>h'=h:=by
 refine C.func pf28 ?_
 refine W.seq (W.run (by simp only[am,evOp,simprocAttr,initTm,lenLA_nils]<;>rfl) ?_)
 have wu:IntKind.u64.wrap 0=0:=by decide
 refine W.reg (G.gcall 4 (by simp only[am,evOp,simprocAttr,initTm,wu]<;>rfl) rfl (by simp only[am,evOp,simprocAttr,initTm,wu]) (by simp only[am,evOp,simprocAttr,initTm,wu]<;>rfl) (blen_zero) fun v h1 hq=>?_)
 obtain⟨rfl,rfl⟩:=hq
 refine G.callq (by simp only[am,evOp,simprocAttr,initTm]) (by simp only[am,evOp,simprocAttr,initTm]<;>rfl) (pdq_nil) fun v h2 hq=>?_
 subst hq
 refine G.run (by simp only[am,evOp,simprocAttr]<;>rfl) ?_
 exact⟨.tup [],rfl,rfl⟩
theorem flat_ints:∀ xs:List Int,xs.flatMap eI=ints xs.toArray
 | []=>rfl
 | x::r=>by
   have:=flat_ints r
   unfold ints at *
   rw[List.toList_toArray] at *
   rw[List.flatMap_cons,this]
   rfl
def isort (xs:List Int):List Int:=xs.mergeSort (fun x y=>decide (x≤y))
theorem isort_len (xs:List Int):(isort xs).length=xs.length:=List.length_mergeSort _
end Go.Proofs.YticaalcbgikjjaaGreatDoor
