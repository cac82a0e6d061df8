/-
  slices.Sort of ints: the partial insertion sort, the pivot (printed by tools/mksrt4.py). How many bits a number has. slices.Sort of ints: the pivot; patterns. slices.Sort of ints: where the pivot is; breaking patterns. slices.Sort of ints (printed by tools/mksrt7.py). slices.Values, Collect, Sorted of numbers.
-/
import Derived.Test.YtihedjolidbfiaaGreatDoorYLc
import Derived.Test.YtihedjolidbfiaaGreatDoorYRf
import Derived.Test.YtihedjolidbfiaaGreatDoorYAmA
import Derived.Test.YtihedjolidbfiaaGreatDoorYLa
set_option linter.all false
namespace Go.Proofs.YtihedjolidbfiaaGreatDoor
open Go.Am
open Go.Sort (swp ltInt scanSorted shiftDown shiftUp partialIns partialInsertionSort fixDown fixUp partialIns_succ)
theorem ssort_range (d:Array Int) (m:Nat):∀ (n i:Nat),m-i=n→i≤m→i≤scanSorted ltInt d m i∧scanSorted ltInt d m i≤m
 | n,i,hn,hi=>by
   unfold scanSorted
   split
   ·rename_i q
    simp only[Bool.and_eq_true,decide_eq_true_eq] at q
    cases n with
    | zero=>omega
    | succ n =>
      have:=ssort_range d m n (i+1) (by omega) (by omega)
      exact⟨by omega,this.2⟩
   ·exact⟨Nat.le_refl _,hi⟩
theorem pins_ok {h:AH}{b o c a m:Nat}{cs:List AV}{d:Array Int} (hg:h.get b=some (blkI cs o d)) (hr:o+d.size≤cs.length) (ham:a<m) (hm:m≤d.size) (hs:d.size<2 ^ 40) :
 C prg 123 [.sl b o d.size c,.int .i64 (a:Nat),.int .i64 (m:Nat)] h fun v h'=>v=.bool (partialInsertionSort ltInt d a m).2∧Upd h h' b (blkI cs o (partialInsertionSort ltInt d a m).1):=by
 refine C.func pf123 ?_
 refine W.seq (W.run (by simp only[am,evOp,simprocAttr,initTm]<;>rfl) ?_)
 have w0:IntKind.i64.wrap (((a:Nat):Int)+1)=((a+1:Nat):Int):=wr64 (by omega) (by omega)
 refine W.seq (W.run (by simp only[am,evOp,simprocAttr,initTm,w0]<;>rfl) ?_)
 refine W.seq (W.seq (W.run (by simp only[am,evOp,simprocAttr,initTm]<;>rfl) ?_))
 refine W.block (W.loop (fun n ts h1=>∃ s i d1,s=n∧s≤5∧a+1≤i∧i≤m∧Upd h h1 b (blkI cs o d1)∧d1.size=d.size∧partialIns ltInt a m s i d1=partialInsertionSort ltInt d a m∧tget ts 0=.sl b o d.size c∧tget ts 1=.int .i64 (a:Nat)∧tget ts 2=.int .i64 (m:Nat)∧tget ts 8=.int .i64 ((5-s:Nat):Int)∧tget ts 7=.int .i64 (i:Nat)) ?_ (n:=5) ⟨5,a+1,d,rfl,by omega,by omega,by omega,Upd.refl hg,rfl,rfl,by simp only[am,evOp,↓reduceIte,Nat.reduceEqDiff,Int.reduceEq,Nat.reduceAdd,Nat.reduceLeDiff,reduceCtorEq,initTm],by simp only[am,evOp,↓reduceIte,Nat.reduceEqDiff,Int.reduceEq,Nat.reduceAdd,Nat.reduceLeDiff,reduceCtorEq,initTm],by simp only[am,evOp,↓reduceIte,Nat.reduceEqDiff,Int.reduceEq,Nat.reduceAdd,Nat.reduceLeDiff,reduceCtorEq,initTm],by simp only[am,evOp,↓reduceIte,Nat.reduceEqDiff,Int.reduceEq,Nat.reduceAdd,Nat.reduceLeDiff,reduceCtorEq,initTm]; rfl,by simp only[am,evOp,↓reduceIte,Nat.reduceEqDiff,Int.reduceEq,Nat.reduceAdd,Nat.reduceLeDiff,reduceCtorEq,initTm,w0]⟩)
 rintro n ts h1 ⟨s,i,d1,rfl,hs5,hai,him,hu,hz,hD,e0,e1,e2,e8,e7⟩
 refine W.seq (W.seq (W.run (by simp only[am,evOp,simprocAttr,e8]<;>rfl) ?_))
 refine W.cond (t:=decide (0<s)) (by simp only[am,evOp,simprocAttr]; exact congrArg AV.bool (by simp only[decide_eq_decide]; omega)) (fun q=>?_) fun q=>?_
 ·have q:0<s:=of_decide_eq_true q
  obtain⟨s,rfl⟩:∃ k,s=k+1:=⟨s-1,by omega⟩
  refine W.skip (W.seq (W.block (W.seq (W.cut (fun ts h2=>h1=h2∧tget ts 0=.sl b o d.size c∧tget ts 1=.int .i64 (a:Nat)∧tget ts 2=.int .i64 (m:Nat)∧tget ts 8=.int .i64 ((5-(s+1):Nat):Int)∧tget ts 7=.int .i64 ((scanSorted ltInt d1 m i:Nat):Int))
   (W.block (W.loop (fun n ts h2=>h2=h1∧∃ k,n=m-k∧i≤k∧k≤m∧scanSorted ltInt d1 m k=scanSorted ltInt d1 m i∧tget ts 0=.sl b o d.size c∧tget ts 1=.int .i64 (a:Nat)∧tget ts 2=.int .i64 (m:Nat)∧tget ts 8=.int .i64 ((5-(s+1):Nat):Int)∧tget ts 7=.int .i64 (k:Nat)) ?_ (n:=m-i) ⟨rfl,i,rfl,by omega,by omega,rfl,by simp only[am,evOp,simprocAttr,e0],by simp only[am,evOp,simprocAttr,e1],by simp only[am,evOp,simprocAttr,e2],by simp only[am,evOp,simprocAttr,e8],by simp only[am,evOp,simprocAttr,e7]⟩)) ?_))))
  ·clear e0 e1 e2 e7 e8
   rintro n ts h2 ⟨rfl,k,rfl,hk,hk2,hS,e0,e1,e2,e8,e7⟩
   have w4:IntKind.i64.wrap (((k:Nat):Int)-1)=((k-1:Nat):Int):=by rw[wr64 (by omega) (by omega)]; omega
   by_cases q:k<m
   ·have c1:decide (((k:Nat):Int)<((m:Nat):Int))=true:=by simp only[decide_eq_true_eq]; omega
    have x1:idx? ((k:Nat):Int) d.size=some (k):=idx_nat (by omega)
    have x2:idx? ((k-1:Nat):Int) d.size=some (k-1):=idx_nat (by omega)
    have r1:=rd_blk (i:=k) hu.get (by omega) (by omega)
    have r2:=rd_blk (i:=k-1) hu.get (by omega) (by omega)
    refine W.seq (W.seq (W.reg (G.gcall 13 (by simp only[am,evOp,simprocAttr,e0,e2,e7,c1,w4,x1,x2,r1,r2,Nat.mul_one]<;>rfl) rfl (by simp only[am,evOp,simprocAttr,e0,e2,e7,c1,w4,x1,x2,r1,r2,Nat.mul_one]) (by simp only[am,evOp,simprocAttr,e0,e2,e7,c1,w4,x1,x2,r1,r2,Nat.mul_one]<;>rfl) (less_ok) fun v h3 hq=>?_)))
    obtain⟨rfl,rfl⟩:=hq
    refine G.run (by simp only[am,evOp,simprocAttr,c1]<;>rfl) ?_
    refine W.cond (t:=!ltInt d1[k]! d1[k-1]!) (by simp only[am,evOp,simprocAttr]) (fun q2=>?_) fun q2=>?_
    ·have w1:IntKind.i64.wrap (((k:Nat):Int)+1)=((k+1:Nat):Int):=wr64 (by omega) (by omega)
     refine W.skip (W.block (W.run (by simp only[am,evOp,simprocAttr,e7,w1]<;>rfl) ?_))
     refine⟨m-(k+1),by omega,rfl,k+1,rfl,by omega,by omega,?_,by simp only[am,evOp,simprocAttr,e0],by simp only[am,evOp,simprocAttr,e1],by simp only[am,evOp,simprocAttr,e2],by simp only[am,evOp,simprocAttr,e8],by simp only[am,evOp,simprocAttr,e7,w1]⟩
     rw[← hS]
     conv=>rhs; rw[scanSorted,if_pos (by simp only[Bool.and_eq_true,decide_eq_true_eq]; exact⟨q,q2⟩)]
    ·refine W.exit ⟨fun _=>⟨rfl,by simp only[am,evOp,simprocAttr,e0],by simp only[am,evOp,simprocAttr,e1],by simp only[am,evOp,simprocAttr,e2],by simp only[am,evOp,simprocAttr,e8],?_⟩,fun e=>absurd rfl e⟩
     rw[← hS,scanSorted,if_neg (by simp only[Bool.and_eq_true,decide_eq_true_eq]; rintro⟨_,x⟩; exact absurd (q2.symm.trans x) (by decide))]
     simp only[am,evOp,simprocAttr,e7]
   ·have c1:decide (((k:Nat):Int)<((m:Nat):Int))=false:=by simp only[decide_eq_false_iff_not]; omega
    refine W.seq (W.seq (W.reg (G.nocall 13 (by simp only[am,evOp,simprocAttr,e2,e7,c1]<;>rfl) rfl (by simp only[am,evOp,simprocAttr,c1]) ?_)))
    refine G.run (by simp only[am,evOp,simprocAttr,c1]<;>rfl) ?_
    refine W.no (by simp only[am,evOp,simprocAttr]) (W.exit ⟨fun _=>⟨rfl,by simp only[am,evOp,simprocAttr,e0],by simp only[am,evOp,simprocAttr,e1],by simp only[am,evOp,simprocAttr,e2],by simp only[am,evOp,simprocAttr,e8],?_⟩,fun e=>absurd rfl e⟩)
    rw[← hS,scanSorted,if_neg (by simp only[Bool.and_eq_true,decide_eq_true_eq]; rintro⟨x,_⟩; exact q x)]
    simp only[am,evOp,simprocAttr,e7]
  clear e0 e1 e2 e7 e8
  rintro ts h2 ⟨rfl,e0,e1,e2,e8,e7⟩
  rw[partialIns_succ] at hD
  have hsc:=ssort_range d1 m _ i rfl him
  generalize hi2:scanSorted ltInt d1 m i=i2 at *
  have hai2:a+1≤i2:=by omega
  have him2:=hsc.2
  clear hsc hi2 hai him
  rename_i i0
  clear i0
  obtain⟨i,rfl⟩:∃ i,i=i2:=⟨i2,rfl⟩
  have hai:=hai2
  have him:=him2
  clear hai2 him2
  refine W.seq (W.seq (W.run (by simp only[am,evOp,simprocAttr,e7,e2]<;>rfl) ?_))
  refine W.cond (t:=decide (i=m)) (by simp only[am,evOp,simprocAttr]; exact congrArg AV.bool (by simp only[decide_eq_decide]; omega)) (fun q=>?_) fun q=>?_
  ·have q:i=m:=of_decide_eq_true q
   rw[if_pos q] at hD
   refine W.seq (W.run (by simp only[am,evOp,simprocAttr]<;>rfl) ?_)
   exact W.ret ⟨.bool true,(by simp only[rs,rf123,am,evOp,simprocAttr]<;>rfl),by rw[← hD],by rw[← hD]; exact hu⟩
  have q:¬ i=m:=of_decide_eq_false q
  rw[if_neg q] at hD
  have w5:IntKind.i64.wrap (((m:Nat):Int)-((a:Nat):Int))=((m-a:Nat):Int):=by rw[wr64 (by omega) (by omega)]; omega
  refine W.skip (W.seq (W.seq (W.run (by simp only[am,evOp,simprocAttr,e1,e2,w5]<;>rfl) ?_)))
  refine W.cond (t:=decide (m-a<50)) (by simp only[am,evOp,simprocAttr]; exact congrArg AV.bool (by simp only[decide_eq_decide]; omega)) (fun q2=>?_) fun q2=>?_
  ·have q2:m-a<50:=of_decide_eq_true q2
   rw[if_pos q2] at hD
   refine W.seq (W.run (by simp only[am,evOp,simprocAttr]<;>rfl) ?_)
   exact W.ret ⟨.bool false,(by simp only[rs,rf123,am,evOp,simprocAttr]<;>rfl),by rw[← hD],by rw[← hD]; exact hu⟩
  have q2:¬ m-a<50:=of_decide_eq_false q2
  rw[if_neg q2] at hD
  have w4:IntKind.i64.wrap (((i:Nat):Int)-1)=((i-1:Nat):Int):=by rw[wr64 (by omega) (by omega)]; omega
  have x1:idx? ((i:Nat):Int) d.size=some (i):=idx_nat (by omega)
  have x2:idx? ((i-1:Nat):Int) d.size=some (i-1):=idx_nat (by omega)
  have r1:=rd_blk (i:=i) hu.get (by omega) (by omega)
  have r2:=rd_blk (i:=i-1) hu.get (by omega) (by omega)
  obtain⟨m1,m2,s1,s2,u2⟩:=swp_blk (i:=i) (j:=i-1) hu.get (by omega) (by omega) (by omega)
  refine W.skip (W.seq (W.run (by simp only[am,evOp,simprocAttr,e0,e7,w4,x1,x2,r1,r2,s1,s2,Nat.mul_one]<;>rfl) ?_))
  have hu3:=hu.trans u2
  have hz3:(swp d1 i (i-1)).size=d.size:=by rw[swp_size',hz]
  clear u2 s1 s2 r1 r2 x1 x2 hu hz hg
  generalize swp d1 i (i-1)=d3 at *
  refine W.seq (W.cut (fun ts h2=>∃ h3 d2,Upd h h3 b (blkI cs o d2)∧d2.size=d.size∧fixDown ltInt a i d3=d2∧h2=h3∧tget ts 0=.sl b o d.size c∧tget ts 1=.int .i64 (a:Nat)∧tget ts 2=.int .i64 (m:Nat)∧tget ts 8=.int .i64 ((5-(s+1):Nat):Int)∧tget ts 7=.int .i64 (i:Nat)) ?_ ?_)
  ·have w5:IntKind.i64.wrap (((i:Nat):Int)-((a:Nat):Int))=((i-a:Nat):Int):=by rw[wr64 (by omega) (by omega)]; omega
   refine W.seq (W.run (by simp only[am,evOp,simprocAttr,e1,e7,w5]<;>rfl) ?_)
   refine W.cond (t:=decide (2≤i-a)) (by simp only[am,evOp,simprocAttr]; exact congrArg AV.bool (by simp only[decide_eq_decide]; omega)) (fun q=>?_) fun q=>?_
   ·have q:2≤i-a:=of_decide_eq_true q
    rw[show fixDown ltInt a i d3=shiftDown ltInt (i-1) d3 from if_pos q]
    have w3:=w4
    refine W.seq (W.run (by simp only[am,evOp,simprocAttr,e7,w3]<;>rfl) ?_)
    refine W.block (W.loop (fun n ts h2=>∃ j d2,j=n∧j<m∧Upd h h2 b (blkI cs o d2)∧d2.size=d.size∧shiftDown ltInt j d2=shiftDown ltInt (i-1) d3∧tget ts 0=.sl b o d.size c∧tget ts 1=.int .i64 (a:Nat)∧tget ts 2=.int .i64 (m:Nat)∧tget ts 8=.int .i64 ((5-(s+1):Nat):Int)∧tget ts 7=.int .i64 (i:Nat)∧tget ts 9=.int .i64 (j:Nat)) ?_ (n:=i-1) ⟨i-1,d3,rfl,by omega,hu3,hz3,rfl,by simp only[am,evOp,simprocAttr,e0],by simp only[am,evOp,simprocAttr,e1],by simp only[am,evOp,simprocAttr,e2],by simp only[am,evOp,simprocAttr,e8],by simp only[am,evOp,simprocAttr,e7],by simp only[am,evOp,simprocAttr,e7,w3]⟩)
    clear e0 e1 e2 e7 e8
    rintro n ts h2 ⟨j,d2,rfl,hj,hu2,hz2,hD2,e0,e1,e2,e8,e7,e9⟩
    refine W.seq (W.seq (W.run (by simp only[am,evOp,simprocAttr,e9,e2]<;>rfl) ?_))
    refine W.cond (t:=decide (1≤j)) (by simp only[am,evOp,simprocAttr]; exact congrArg AV.bool (by simp only[decide_eq_decide]; omega)) (fun q=>?_) fun q=>?_
    ·have q:1≤j:=of_decide_eq_true q
     obtain⟨j,rfl⟩:∃ k,j=k+1:=⟨j-1,by omega⟩
     have w4:IntKind.i64.wrap (((j+1:Nat):Int)-1)=((j:Nat):Int):=by rw[wr64 (by omega) (by omega)]; omega
     have x1:idx? ((j+1:Nat):Int) d.size=some (j+1):=idx_nat (by omega)
     have x2:idx? ((j:Nat):Int) d.size=some (j):=idx_nat (by omega)
     have r1:=rd_blk (i:=j+1) hu2.get (by omega) (by omega)
     have r2:=rd_blk (i:=j) hu2.get (by omega) (by omega)
     refine W.skip (W.seq (W.block (W.seq (W.seq (W.reg (G.gcall 9 (by simp only[am,evOp,simprocAttr,e0,e9,w4,x1,x2,r1,r2,Nat.mul_one]<;>rfl) rfl (by simp only[am,evOp,simprocAttr,e0,e9,w4,x1,x2,r1,r2,Nat.mul_one]) (by simp only[am,evOp,simprocAttr,e0,e9,w4,x1,x2,r1,r2,Nat.mul_one]<;>rfl) (less_ok) fun v h3 hq=>?_))))))
     obtain⟨rfl,rfl⟩:=hq
     refine G.run (by simp only[am,evOp,simprocAttr]<;>rfl) ?_
     refine W.cond (t:=!ltInt d2[j+1]! d2[j]!) (by simp only[am,evOp,simprocAttr]) (fun q2=>?_) fun q2=>?_
     ·have q2:ltInt d2[j+1]! d2[j]! = false:=by simpa using q2
      refine W.exit ⟨fun e=>absurd e (by decide),fun _=>⟨fun _=>?_,fun e=>absurd rfl e⟩⟩
      refine⟨h3,d2,hu2,hz2,?_,rfl,by simp only[am,evOp,simprocAttr,e0],by simp only[am,evOp,simprocAttr,e1],by simp only[am,evOp,simprocAttr,e2],by simp only[am,evOp,simprocAttr,e8],by simp only[am,evOp,simprocAttr,e7]⟩
      rw[← hD2,shiftDown,if_pos (by rw[q2]; rfl)]
     ·have q2:ltInt d2[j+1]! d2[j]! = true:=by simpa using q2
      obtain⟨m1,m2,s1,s2,u2⟩:=swp_blk (i:=j+1) (j:=j) hu2.get (by omega) (by omega) (by omega)
      refine W.skip (W.run (by simp only[am,evOp,simprocAttr,e0,e9,w4,x1,x2,r1,r2,s1,s2,Nat.mul_one]<;>rfl) ?_)
      refine W.run (by simp only[am,evOp,simprocAttr,e9,w4]<;>rfl) ?_
      refine⟨j,by omega,j,swp d2 (j+1) j,rfl,by omega,hu2.trans u2,by rw[swp_size',hz2],?_,by simp only[am,evOp,simprocAttr,e0],by simp only[am,evOp,simprocAttr,e1],by simp only[am,evOp,simprocAttr,e2],by simp only[am,evOp,simprocAttr,e8],by simp only[am,evOp,simprocAttr,e7],by simp only[am,evOp,simprocAttr,e9,w4]⟩
      rw[← hD2]
      conv=>rhs; rw[shiftDown,if_neg (by rw[q2]; decide)]
    ·have q:¬ 1≤j:=of_decide_eq_false q
     refine W.exit ⟨fun _=>?_,fun e=>absurd rfl e⟩
     refine⟨h2,d2,hu2,hz2,?_,rfl,by simp only[am,evOp,↓reduceIte,Nat.reduceEqDiff,Int.reduceEq,Nat.reduceAdd,Nat.reduceLeDiff,reduceCtorEq,e0],by simp only[am,evOp,↓reduceIte,Nat.reduceEqDiff,Int.reduceEq,Nat.reduceAdd,Nat.reduceLeDiff,reduceCtorEq,e1],by simp only[am,evOp,↓reduceIte,Nat.reduceEqDiff,Int.reduceEq,Nat.reduceAdd,Nat.reduceLeDiff,reduceCtorEq,e2],by simp only[am,evOp,↓reduceIte,Nat.reduceEqDiff,Int.reduceEq,Nat.reduceAdd,Nat.reduceLeDiff,reduceCtorEq,e8],by simp only[am,evOp,↓reduceIte,Nat.reduceEqDiff,Int.reduceEq,Nat.reduceAdd,Nat.reduceLeDiff,reduceCtorEq,e7]⟩
     obtain rfl:j=0:=by omega
     rw[← hD2]
     rfl
   ·have q:¬ 2≤i-a:=of_decide_eq_false q
    exact W.skip ⟨m2,d3,hu3,hz3,if_neg q,rfl,by simp only[am,evOp,simprocAttr,e0],by simp only[am,evOp,simprocAttr,e1],by simp only[am,evOp,simprocAttr,e2],by simp only[am,evOp,simprocAttr,e8],by simp only[am,evOp,simprocAttr,e7]⟩
  clear e0 e1 e2 e7 e8
  rintro ts h1 ⟨h3,d4,hu4,hz4,hF,rfl,e0,e1,e2,e8,e7⟩
  rw[hF] at hD
  clear hF hu3 hz3
  refine W.cut (fun ts h2=>∃ h3 d2,Upd h h3 b (blkI cs o d2)∧d2.size=d.size∧fixUp ltInt m i d4=d2∧h2=h3∧tget ts 0=.sl b o d.size c∧tget ts 1=.int .i64 (a:Nat)∧tget ts 2=.int .i64 (m:Nat)∧tget ts 8=.int .i64 ((5-(s+1):Nat):Int)∧tget ts 7=.int .i64 (i:Nat)) ?_ ?_
  ·have w5:IntKind.i64.wrap (((m:Nat):Int)-((i:Nat):Int))=((m-i:Nat):Int):=by rw[wr64 (by omega) (by omega)]; omega
   refine W.seq (W.run (by simp only[am,evOp,simprocAttr,e2,e7,w5]<;>rfl) ?_)
   refine W.cond (t:=decide (2≤m-i)) (by simp only[am,evOp,simprocAttr]; exact congrArg AV.bool (by simp only[decide_eq_decide]; omega)) (fun q=>?_) fun q=>?_
   ·have q:2≤m-i:=of_decide_eq_true q
    rw[show fixUp ltInt m i d4=shiftUp ltInt m (i+1) d4 from if_pos q]
    have w3:IntKind.i64.wrap (((i:Nat):Int)+1)=((i+1:Nat):Int):=wr64 (by omega) (by omega)
    refine W.seq (W.run (by simp only[am,evOp,simprocAttr,e7,w3]<;>rfl) ?_)
    refine W.block (W.loop (fun n ts h2=>∃ j d2,n=m-j∧i+1≤j∧Upd h h2 b (blkI cs o d2)∧d2.size=d.size∧shiftUp ltInt m j d2=shiftUp ltInt m (i+1) d4∧tget ts 0=.sl b o d.size c∧tget ts 1=.int .i64 (a:Nat)∧tget ts 2=.int .i64 (m:Nat)∧tget ts 8=.int .i64 ((5-(s+1):Nat):Int)∧tget ts 7=.int .i64 (i:Nat)∧tget ts 10=.int .i64 (j:Nat)) ?_ (n:=m-(i+1)) ⟨i+1,d4,rfl,by omega,hu4,hz4,rfl,by simp only[am,evOp,simprocAttr,e0],by simp only[am,evOp,simprocAttr,e1],by simp only[am,evOp,simprocAttr,e2],by simp only[am,evOp,simprocAttr,e8],by simp only[am,evOp,simprocAttr,e7],by simp only[am,evOp,simprocAttr,e7,w3]⟩)
    clear e0 e1 e2 e7 e8
    rintro n ts h2 ⟨j,d2,rfl,hj,hu2,hz2,hD2,e0,e1,e2,e8,e7,e9⟩
    refine W.seq (W.seq (W.run (by simp only[am,evOp,simprocAttr,e9,e2]<;>rfl) ?_))
    refine W.cond (t:=decide (j<m)) (by simp only[am,evOp,simprocAttr]; exact congrArg AV.bool (by simp only[decide_eq_decide]; omega)) (fun q=>?_) fun q=>?_
    ·have q:j<m:=of_decide_eq_true q
     have w4:IntKind.i64.wrap (((j:Nat):Int)-1)=((j-1:Nat):Int):=by rw[wr64 (by omega) (by omega)]; omega
     have x1:idx? ((j:Nat):Int) d.size=some (j):=idx_nat (by omega)
     have x2:idx? ((j-1:Nat):Int) d.size=some (j-1):=idx_nat (by omega)
     have r1:=rd_blk (i:=j) hu2.get (by omega) (by omega)
     have r2:=rd_blk (i:=j-1) hu2.get (by omega) (by omega)
     refine W.skip (W.seq (W.block (W.seq (W.seq (W.reg (G.gcall 9 (by simp only[am,evOp,simprocAttr,e0,e9,w4,x1,x2,r1,r2,Nat.mul_one]<;>rfl) rfl (by simp only[am,evOp,simprocAttr,e0,e9,w4,x1,x2,r1,r2,Nat.mul_one]) (by simp only[am,evOp,simprocAttr,e0,e9,w4,x1,x2,r1,r2,Nat.mul_one]<;>rfl) (less_ok) fun v h3 hq=>?_))))))
     obtain⟨rfl,rfl⟩:=hq
     refine G.run (by simp only[am,evOp,simprocAttr]<;>rfl) ?_
     refine W.cond (t:=!ltInt d2[j]! d2[j-1]!) (by simp only[am,evOp,simprocAttr]) (fun q2=>?_) fun q2=>?_
     ·have q2:ltInt d2[j]! d2[j-1]! = false:=by simpa using q2
      refine W.exit ⟨fun e=>absurd e (by decide),fun _=>⟨fun _=>?_,fun e=>absurd rfl e⟩⟩
      refine⟨h3,d2,hu2,hz2,?_,rfl,by simp only[am,evOp,simprocAttr,e0],by simp only[am,evOp,simprocAttr,e1],by simp only[am,evOp,simprocAttr,e2],by simp only[am,evOp,simprocAttr,e8],by simp only[am,evOp,simprocAttr,e7]⟩
      rw[← hD2,shiftUp,if_pos q,if_pos (by rw[q2]; rfl)]
     ·have q2:ltInt d2[j]! d2[j-1]! = true:=by simpa using q2
      obtain⟨m1,m2,s1,s2,u2⟩:=swp_blk (i:=j) (j:=j-1) hu2.get (by omega) (by omega) (by omega)
      refine W.skip (W.run (by simp only[am,evOp,simprocAttr,e0,e9,w4,x1,x2,r1,r2,s1,s2,Nat.mul_one]<;>rfl) ?_)
      have w5:IntKind.i64.wrap (((j:Nat):Int)+1)=((j+1:Nat):Int):=wr64 (by omega) (by omega)
      refine W.run (by simp only[am,evOp,simprocAttr,e9,w5]<;>rfl) ?_
      refine⟨m-(j+1),by omega,j+1,swp d2 j (j-1),rfl,by omega,hu2.trans u2,by rw[swp_size',hz2],?_,by simp only[am,evOp,simprocAttr,e0],by simp only[am,evOp,simprocAttr,e1],by simp only[am,evOp,simprocAttr,e2],by simp only[am,evOp,simprocAttr,e8],by simp only[am,evOp,simprocAttr,e7],by simp only[am,evOp,simprocAttr,e9,w5]⟩
      rw[← hD2]
      conv=>rhs; rw[shiftUp,if_pos q,if_neg (by rw[q2]; decide)]
    ·have q:¬ j<m:=of_decide_eq_false q
     refine W.exit ⟨fun _=>?_,fun e=>absurd rfl e⟩
     refine⟨h2,d2,hu2,hz2,?_,rfl,by simp only[am,evOp,↓reduceIte,Nat.reduceEqDiff,Int.reduceEq,Nat.reduceAdd,Nat.reduceLeDiff,reduceCtorEq,e0],by simp only[am,evOp,↓reduceIte,Nat.reduceEqDiff,Int.reduceEq,Nat.reduceAdd,Nat.reduceLeDiff,reduceCtorEq,e1],by simp only[am,evOp,↓reduceIte,Nat.reduceEqDiff,Int.reduceEq,Nat.reduceAdd,Nat.reduceLeDiff,reduceCtorEq,e2],by simp only[am,evOp,↓reduceIte,Nat.reduceEqDiff,Int.reduceEq,Nat.reduceAdd,Nat.reduceLeDiff,reduceCtorEq,e8],by simp only[am,evOp,↓reduceIte,Nat.reduceEqDiff,Int.reduceEq,Nat.reduceAdd,Nat.reduceLeDiff,reduceCtorEq,e7]⟩
     rw[← hD2,shiftUp,if_neg q]
   ·have q:¬ 2≤m-i:=of_decide_eq_false q
    exact W.skip ⟨_,d4,hu4,hz4,if_neg q,rfl,by simp only[am,evOp,↓reduceIte,Nat.reduceEqDiff,Int.reduceEq,Nat.reduceAdd,Nat.reduceLeDiff,reduceCtorEq,e0],by simp only[am,evOp,↓reduceIte,Nat.reduceEqDiff,Int.reduceEq,Nat.reduceAdd,Nat.reduceLeDiff,reduceCtorEq,e1],by simp only[am,evOp,↓reduceIte,Nat.reduceEqDiff,Int.reduceEq,Nat.reduceAdd,Nat.reduceLeDiff,reduceCtorEq,e2],by simp only[am,evOp,↓reduceIte,Nat.reduceEqDiff,Int.reduceEq,Nat.reduceAdd,Nat.reduceLeDiff,reduceCtorEq,e8],by simp only[am,evOp,↓reduceIte,Nat.reduceEqDiff,Int.reduceEq,Nat.reduceAdd,Nat.reduceLeDiff,reduceCtorEq,e7]⟩
  clear e0 e1 e2 e7 e8
  rintro ts h1 ⟨h3,d2,hu5,hz5,hF,rfl,e0,e1,e2,e8,e7⟩
  rw[hF] at hD
  have w3:IntKind.i64.wrap (((5-(s+1):Nat):Int)+1)=((5-s:Nat):Int):=by rw[wr64 (by omega) (by omega)]; omega
  refine W.run (by simp only[am,evOp,↓reduceIte,Nat.reduceEqDiff,Int.reduceEq,Nat.reduceAdd,Nat.reduceLeDiff,reduceCtorEq,e8,w3]<;>rfl) ?_
  exact⟨s,by omega,s,i,d2,rfl,by omega,hai,him,hu5,hz5,hD,by simp only[am,evOp,↓reduceIte,Nat.reduceEqDiff,Int.reduceEq,Nat.reduceAdd,Nat.reduceLeDiff,reduceCtorEq,e0],by simp only[am,evOp,↓reduceIte,Nat.reduceEqDiff,Int.reduceEq,Nat.reduceAdd,Nat.reduceLeDiff,reduceCtorEq,e1],by simp only[am,evOp,↓reduceIte,Nat.reduceEqDiff,Int.reduceEq,Nat.reduceAdd,Nat.reduceLeDiff,reduceCtorEq,e2],by simp only[am,evOp,↓reduceIte,Nat.reduceEqDiff,Int.reduceEq,Nat.reduceAdd,Nat.reduceLeDiff,reduceCtorEq,e8,w3],by simp only[am,evOp,↓reduceIte,Nat.reduceEqDiff,Int.reduceEq,Nat.reduceAdd,Nat.reduceLeDiff,reduceCtorEq,e7]⟩
 ·have q:s=0:=by have:=of_decide_eq_false q; omega
  subst q
  refine W.exit ⟨fun _=>?_,fun e=>absurd rfl e⟩
  refine W.seq (W.run (by simp only[am,evOp,simprocAttr]<;>rfl) ?_)
  exact W.ret ⟨.bool false,(by simp only[rs,rf123,am,evOp,simprocAttr]<;>rfl),by rw[← hD]; rfl,by rw[← hD]; exact hu⟩
end Go.Proofs.YtihedjolidbfiaaGreatDoor
namespace Go.Proofs.YtihedjolidbfiaaGreatDoor
open Go.Am
theorem tb1:((List.range 256).all fun n=>n==0||([0,1,2,2,3,3,3,3,4,4,4,4,4,4,4,4,5,5,5,5,5,5,5,5,5,5,5,5,5,5,5,5,6,6,6,6,6,6,6,6,6,6,6,6,6,6,6,6,6,6,6,6,6,6,6,6,6,6,6,6,6,6,6,6,7,7,7,7,7,7,7,7,7,7,7,7,7,7,7,7,7,7,7,7,7,7,7,7,7,7,7,7,7,7,7,7,7,7,7,7,7,7,7,7,7,7,7,7,7,7,7,7,7,7,7,7,7,7,7,7,7,7,7,7,7,7,7,7,8,8,8,8,8,8,8,8,8,8,8,8,8,8,8,8,8,8,8,8,8,8,8,8,8,8,8,8,8,8,8,8,8,8,8,8,8,8,8,8,8,8,8,8,8,8,8,8,8,8,8,8,8,8,8,8,8,8,8,8,8,8,8,8,8,8,8,8,8,8,8,8,8,8,8,8,8,8,8,8,8,8,8,8,8,8,8,8,8,8,8,8,8,8,8,8,8,8,8,8,8,8,8,8,8,8,8,8,8,8,8,8,8,8,8,8,8,8,8,8,8,8,8,8,8,8,8,8]:List UInt8)[n]?==some (UInt8.ofNat (Nat.log2 n+1)))=true:=by decide +kernel
theorem log2_lt8 {n:Nat} (h:n<256):Nat.log2 n<8:=by
 by_cases h0:n=0
 ·subst h0; decide
 ·exact (Nat.log2_lt h0).2 h
set_option maxRecDepth 4000 in
theorem idx_len8 {n:Nat} (h1:1≤n) (h2:n<256):idxSA (.str [0,1,2,2,3,3,3,3,4,4,4,4,4,4,4,4,5,5,5,5,5,5,5,5,5,5,5,5,5,5,5,5,6,6,6,6,6,6,6,6,6,6,6,6,6,6,6,6,6,6,6,6,6,6,6,6,6,6,6,6,6,6,6,6,7,7,7,7,7,7,7,7,7,7,7,7,7,7,7,7,7,7,7,7,7,7,7,7,7,7,7,7,7,7,7,7,7,7,7,7,7,7,7,7,7,7,7,7,7,7,7,7,7,7,7,7,7,7,7,7,7,7,7,7,7,7,7,7,8,8,8,8,8,8,8,8,8,8,8,8,8,8,8,8,8,8,8,8,8,8,8,8,8,8,8,8,8,8,8,8,8,8,8,8,8,8,8,8,8,8,8,8,8,8,8,8,8,8,8,8,8,8,8,8,8,8,8,8,8,8,8,8,8,8,8,8,8,8,8,8,8,8,8,8,8,8,8,8,8,8,8,8,8,8,8,8,8,8,8,8,8,8,8,8,8,8,8,8,8,8,8,8,8,8,8,8,8,8,8,8,8,8,8,8,8,8,8,8,8,8,8,8,8,8,8,8]) (.int .u8 (n:Nat))=some (.int .u8 ((Nat.log2 n+1:Nat):Int)):=by
 have hs:=List.all_eq_true.1 tb1 n (List.mem_range.2 h2)
 have hn:(n==0)=false:=by simp; omega
 rw[hn,Bool.false_or,beq_iff_eq] at hs
 have c:(0:Int)≤(n:Nat):=by omega
 have hl:=log2_lt8 h2
 have u:(UInt8.ofNat (Nat.log2 n+1)).toNat=Nat.log2 n+1:=by rw[UInt8.toNat_ofNat']; omega
 simp only[idxSA_str,c,if_true,Int.toNat_natCast,hs,Option.map_some,u]
theorem shr_u64 {a k:Nat} (hk:k<64):binA .shr .no (.int .u64 (a:Nat)) (.int .u64 (k:Nat))=some (.int .u64 ((a / 2 ^ k:Nat):Int)):=by
 have h1:min ((k:Nat):Int).toNat IntKind.u64.bits=k:=by
  have:IntKind.u64.bits=64:=rfl
  rw[this,Int.toNat_natCast]
  omega
 have h2:((a:Nat):Int).fdiv (2 ^ k)=((a / 2 ^ k:Nat):Int):=by
  rw[Int.fdiv_eq_ediv_of_nonneg _ (Int.le_of_lt (Int.pow_pos (by decide)))]
  simp
 have:binA .shr .no (.int .u64 (a:Nat)) (.int .u64 (k:Nat))=shft .shr .u64 (a:Nat) (k:Nat):=by simp [binA,binInt]
 rw[this]
 have hk0:¬ ((k:Nat):Int)<0:=by omega
 simp only[shft,h1,h2,hk0,if_false]
theorem log2_div {a k:Nat} (h:2 ^ k≤a):Nat.log2 (a / 2 ^ k)+k=Nat.log2 a:=by
 induction k generalizing a with
 | zero=>simp
 | succ k ih =>
   have h2:2 ^ (k+1)=2 ^ k*2:=Nat.pow_succ ..
   have hp:=Nat.two_pow_pos k
   have ha:2≤a:=by omega
   rw[h2,← Nat.div_div_eq_div_mul]
   have h3:2≤a / 2 ^ k:=by rw[Nat.le_div_iff_mul_le hp]; omega
   have h4:=ih (a:=a) (by omega)
   have h5:Nat.log2 (a / 2 ^ k)=Nat.log2 (a / 2 ^ k / 2)+1:=by
    conv=>lhs; rw[Nat.log2_def]
    rw[if_pos h3]
   omega
theorem res127:rf127.results=[(.t 2)]:=rfl
set_option maxRecDepth 8000 in
theorem len64_ok {h:AH}{u:Nat} (k1:1≤u) (k2:u<2 ^ 64):C prg 127 [.int .u64 (u:Nat)] h fun v h'=>v=.int .i64 ((Nat.log2 u+1:Nat):Int)∧h'=h:=by
 refine C.func pf127 ?_
 refine W.seq (W.runs (fun ts h1=>h1=h∧tget ts 0=.int .u64 (u:Nat)∧tget ts 2=.int .i64 ((0:Nat):Int)) ?_ fun ts h1 ⟨eh,e0,e2⟩=>?_)
 ·simp only[am,evOp,↓reduceIte,Nat.reduceEqDiff,Int.reduceEq,Nat.reduceAdd,Nat.reduceLeDiff,reduceCtorEq,initTm]
  simp
 subst eh
 have s32:=shr_u64 (a:=u) (k:=32) (by decide)
 refine W.seq (W.cut (fun ts h2=>h2=h1∧∃ a n,1≤a∧a<2 ^ 32∧Nat.log2 a+n=Nat.log2 u∧n≤32∧tget ts 0=.int .u64 (a:Nat)∧tget ts 2=.int .i64 (n:Nat)) (W.seq (W.runs (fun ts h2=>h2=h1∧tget ts 0=.int .u64 (u:Nat)∧tget ts 2=.int .i64 ((0:Nat):Int)∧tget ts 4=.bool (decide (4294967296≤u))) ?_ fun ts h2 ⟨eh,e0,e2,e4⟩=>W.cond e4 (fun hc=>?_) fun hc=>W.skip ?_)) fun ts h2 ⟨eh,a,n,a1,a2,a3,a4,e0,e2⟩=>?_)
 ·have:decide ((4294967296:Int)≤(u:Nat))=decide (4294967296≤u):=by simp only[decide_eq_decide]; omega
  simp only[am,evOp,↓reduceIte,Nat.reduceEqDiff,Int.reduceEq,Nat.reduceAdd,Nat.reduceLeDiff,reduceCtorEq,e0,e2,this]
 ·simp only[decide_eq_true_eq] at hc
  subst eh
  have s32':binA .shr .no (.int .u64 (u:Nat)) (.int .u64 32)=some (.int .u64 ((u / 2 ^ 32:Nat):Int)):=s32
  refine W.seq (W.runs (fun ts h3=>h3=h2∧tget ts 0=.int .u64 ((u / 2 ^ 32:Nat):Int)) ?_ fun ts h3 ⟨eh,e0⟩=>?_)
  ·generalize ((u / 2 ^ 32:Nat):Int)=q at *
   simp only[am,evOp,↓reduceIte,Nat.reduceEqDiff,Int.reduceEq,Nat.reduceAdd,Nat.reduceLeDiff,reduceCtorEq,e0,s32']
  subst eh
  refine W.runs (fun ts h4=>h4=h3∧tget ts 0=.int .u64 ((u / 2 ^ 32:Nat):Int)∧tget ts 2=.int .i64 ((32:Nat):Int)) ?_ fun ts h4 ⟨eh,e0,e2⟩=>⟨eh,u / 2 ^ 32,32,by omega,by omega,log2_div (k:=32) (by omega),by omega,e0,e2⟩
  generalize ((u / 2 ^ 32:Nat):Int)=q at *
  simp only[am,evOp,↓reduceIte,Nat.reduceEqDiff,Int.reduceEq,Nat.reduceAdd,Nat.reduceLeDiff,reduceCtorEq,e0]
  simp
 ·simp only[decide_eq_false_iff_not] at hc
  exact⟨eh,u,0,k1,by omega,rfl,by omega,e0,e2⟩
 subst eh
 have s16:=shr_u64 (a:=a) (k:=16) (by decide)
 refine W.seq (W.cut (fun ts h3=>h3=h2∧∃ a n,1≤a∧a<2 ^ 16∧Nat.log2 a+n=Nat.log2 u∧n≤48∧tget ts 0=.int .u64 (a:Nat)∧tget ts 2=.int .i64 (n:Nat)) (W.seq (W.runs (fun ts h3=>h3=h2∧tget ts 0=.int .u64 (a:Nat)∧tget ts 2=.int .i64 (n:Nat)∧tget ts 8=.bool (decide (65536≤a))) ?_ fun ts h3 ⟨eh,e0,e2,e4⟩=>W.cond e4 (fun hc=>?_) fun hc=>W.skip ?_)) fun ts h3 ⟨eh,b,m,b1,b2,b3,b4,e0,e2⟩=>?_)
 ·have:decide ((65536:Int)≤(a:Nat))=decide (65536≤a):=by simp only[decide_eq_decide]; omega
  simp only[am,evOp,↓reduceIte,Nat.reduceEqDiff,Int.reduceEq,Nat.reduceAdd,Nat.reduceLeDiff,reduceCtorEq,e0,e2,this]
 ·simp only[decide_eq_true_eq] at hc
  subst eh
  have s16':binA .shr .no (.int .u64 (a:Nat)) (.int .u64 16)=some (.int .u64 ((a / 2 ^ 16:Nat):Int)):=s16
  refine W.seq (W.runs (fun ts h4=>h4=h3∧tget ts 0=.int .u64 ((a / 2 ^ 16:Nat):Int)∧tget ts 2=.int .i64 (n:Nat)) ?_ fun ts h4 ⟨eh,e0,e2⟩=>?_)
  ·generalize ((a / 2 ^ 16:Nat):Int)=q at *
   simp only[am,evOp,simprocAttr,e0,e2,s16']
  subst eh
  have w:IntKind.i64.wrap (((n:Nat):Int)+16)=((n+16:Nat):Int):=IntWalk.i64_in _ (by omega)
  have hd:=log2_div (a:=a) (k:=16) (by omega)
  refine W.runs (fun ts h5=>h5=h4∧tget ts 0=.int .u64 ((a / 2 ^ 16:Nat):Int)∧tget ts 2=.int .i64 ((n+16:Nat):Int)) ?_ fun ts h5 ⟨eh,e0,e2⟩=>⟨eh,a / 2 ^ 16,n+16,by omega,by omega,by omega,by omega,e0,e2⟩
  generalize ((a / 2 ^ 16:Nat):Int)=q at *
  simp only[am,evOp,simprocAttr,e0,e2,w]
 ·simp only[decide_eq_false_iff_not] at hc
  exact⟨eh,a,n,a1,by omega,a3,by omega,e0,e2⟩
 subst eh
 have s8:=shr_u64 (a:=b) (k:=8) (by decide)
 refine W.seq (W.cut (fun ts h4=>h4=h3∧∃ a n,1≤a∧a<2 ^ 8∧Nat.log2 a+n=Nat.log2 u∧n≤56∧tget ts 0=.int .u64 (a:Nat)∧tget ts 2=.int .i64 (n:Nat)) (W.seq (W.runs (fun ts h4=>h4=h3∧tget ts 0=.int .u64 (b:Nat)∧tget ts 2=.int .i64 (m:Nat)∧tget ts 14=.bool (decide (256≤b))) ?_ fun ts h4 ⟨eh,e0,e2,e4⟩=>W.cond e4 (fun hc=>?_) fun hc=>W.skip ?_)) fun ts h4 ⟨eh,c,k,c1,c2,c3,c4,e0,e2⟩=>?_)
 ·have:decide ((256:Int)≤(b:Nat))=decide (256≤b):=by simp only[decide_eq_decide]; omega
  simp only[am,evOp,↓reduceIte,Nat.reduceEqDiff,Int.reduceEq,Nat.reduceAdd,Nat.reduceLeDiff,reduceCtorEq,e0,e2,this]
 ·simp only[decide_eq_true_eq] at hc
  subst eh
  have s8':binA .shr .no (.int .u64 (b:Nat)) (.int .u64 8)=some (.int .u64 ((b / 2 ^ 8:Nat):Int)):=s8
  refine W.seq (W.runs (fun ts h5=>h5=h4∧tget ts 0=.int .u64 ((b / 2 ^ 8:Nat):Int)∧tget ts 2=.int .i64 (m:Nat)) ?_ fun ts h5 ⟨eh,e0,e2⟩=>?_)
  ·generalize ((b / 2 ^ 8:Nat):Int)=q at *
   simp only[am,evOp,simprocAttr,e0,e2,s8']
  subst eh
  have w:IntKind.i64.wrap (((m:Nat):Int)+8)=((m+8:Nat):Int):=IntWalk.i64_in _ (by omega)
  have hd:=log2_div (a:=b) (k:=8) (by omega)
  refine W.runs (fun ts h6=>h6=h5∧tget ts 0=.int .u64 ((b / 2 ^ 8:Nat):Int)∧tget ts 2=.int .i64 ((m+8:Nat):Int)) ?_ fun ts h6 ⟨eh,e0,e2⟩=>⟨eh,b / 2 ^ 8,m+8,by omega,by omega,by omega,by omega,e0,e2⟩
  generalize ((b / 2 ^ 8:Nat):Int)=q at *
  simp only[am,evOp,simprocAttr,e0,e2,w]
 ·simp only[decide_eq_false_iff_not] at hc
  exact⟨eh,b,m,b1,by omega,b3,by omega,e0,e2⟩
 subst eh
 have w1:IntKind.u8.wrap ((c:Nat):Int)=(c:Nat):=IntWalk.u8_in _ (by omega)
 have hx:=idx_len8 c1 (by omega)
 have hl:=log2_lt8 (show c<256 by omega)
 have w2:IntKind.i64.wrap ((Nat.log2 c+1:Nat):Int)=((Nat.log2 c+1:Nat):Int):=IntWalk.i64_in _ (by omega)
 have w3:IntKind.i64.wrap (((k:Nat):Int)+((Nat.log2 c+1:Nat):Int))=((Nat.log2 u+1:Nat):Int):=by rw[IntWalk.i64_in _ (by omega)]; omega
 refine W.seq (W.runs (fun ts h5=>h5=h4∧tget ts 2=.int .i64 ((Nat.log2 u+1:Nat):Int)) ?_ fun ts h5 ⟨eh,e2⟩=>W.ret ⟨_,by simp only[Am.results,rdAll,res127,rdRes,e2],rfl,eh⟩)
 generalize ((Nat.log2 c+1:Nat):Int)=q at *
 generalize ((Nat.log2 u+1:Nat):Int)=q2 at *
 simp only[am,evOp,simprocAttr,e0,e2,w1,hx,w2,w3]
set_option maxRecDepth 8000 in
theorem len64_zero {h:AH}:C prg 127 [.int .u64 0] h fun v h'=>v=.int .i64 0∧h'=h:=by
 refine C.func pf127 ?_
 refine W.seq (W.run (by simp only[am,evOp,↓reduceIte,Nat.reduceEqDiff,Int.reduceEq,Nat.reduceAdd,Nat.reduceLeDiff,reduceCtorEq,initTm]<;>rfl) ?_)
 have c1:decide ((4294967296:Int)≤0)=false:=by decide
 have c2:decide ((65536:Int)≤0)=false:=by decide
 have c3:decide ((256:Int)≤0)=false:=by decide
 refine W.seq (W.seq (W.run (by simp only[am,evOp,↓reduceIte,Nat.reduceEqDiff,Int.reduceEq,Nat.reduceAdd,Nat.reduceLeDiff,reduceCtorEq,initTm,c1]<;>rfl) ?_))
 refine W.no (by simp only[am,evOp,↓reduceIte,Nat.reduceEqDiff,Int.reduceEq,Nat.reduceAdd,Nat.reduceLeDiff,reduceCtorEq,c1]) (W.skip ?_)
 refine W.seq (W.seq (W.run (by simp only[am,evOp,↓reduceIte,Nat.reduceEqDiff,Int.reduceEq,Nat.reduceAdd,Nat.reduceLeDiff,reduceCtorEq,initTm,c2]<;>rfl) ?_))
 refine W.no (by simp only[am,evOp,↓reduceIte,Nat.reduceEqDiff,Int.reduceEq,Nat.reduceAdd,Nat.reduceLeDiff,reduceCtorEq,c2]) (W.skip ?_)
 refine W.seq (W.seq (W.run (by simp only[am,evOp,↓reduceIte,Nat.reduceEqDiff,Int.reduceEq,Nat.reduceAdd,Nat.reduceLeDiff,reduceCtorEq,initTm,c3]<;>rfl) ?_))
 refine W.no (by simp only[am,evOp,↓reduceIte,Nat.reduceEqDiff,Int.reduceEq,Nat.reduceAdd,Nat.reduceLeDiff,reduceCtorEq,c3]) (W.skip ?_)
 have w1:IntKind.u8.wrap 0=0:=by decide
 have w2:IntKind.i64.wrap 0=0:=by decide
 have w3:IntKind.i64.wrap (0+0)=0:=by decide
 have hi:idxSA (.str [0,1,2,2,3,3,3,3,4,4,4,4,4,4,4,4,5,5,5,5,5,5,5,5,5,5,5,5,5,5,5,5,6,6,6,6,6,6,6,6,6,6,6,6,6,6,6,6,6,6,6,6,6,6,6,6,6,6,6,6,6,6,6,6,7,7,7,7,7,7,7,7,7,7,7,7,7,7,7,7,7,7,7,7,7,7,7,7,7,7,7,7,7,7,7,7,7,7,7,7,7,7,7,7,7,7,7,7,7,7,7,7,7,7,7,7,7,7,7,7,7,7,7,7,7,7,7,7,8,8,8,8,8,8,8,8,8,8,8,8,8,8,8,8,8,8,8,8,8,8,8,8,8,8,8,8,8,8,8,8,8,8,8,8,8,8,8,8,8,8,8,8,8,8,8,8,8,8,8,8,8,8,8,8,8,8,8,8,8,8,8,8,8,8,8,8,8,8,8,8,8,8,8,8,8,8,8,8,8,8,8,8,8,8,8,8,8,8,8,8,8,8,8,8,8,8,8,8,8,8,8,8,8,8,8,8,8,8,8,8,8,8,8,8,8,8,8,8,8,8,8,8,8,8,8,8]) (.int .u8 0)=some (.int .u8 0):=rfl
 refine W.seq (W.runs (fun ts h5=>h5=h∧tget ts 2=.int .i64 0) ?_ fun ts h5 ⟨eh,e2⟩=>W.ret ⟨.int .i64 0,(by simp only[rs,rf127,am,evOp,simprocAttr,e2]<;>rfl),rfl,eh⟩)
 simp only[am,evOp,simprocAttr,initTm,w1,hi,w2,w3]
theorem blen_ok {h:AH}{u:Nat} (k1:1≤u) (k2:u<2 ^ 64):C prg 84 [.int .u64 (u:Nat)] h fun v h'=>v=.int .i64 ((Nat.log2 u+1:Nat):Int)∧h'=h:=by
 refine C.func pf84 ?_
 refine W.seq (W.run (by simp only[am,evOp,↓reduceIte,Nat.reduceEqDiff,Int.reduceEq,Nat.reduceAdd,Nat.reduceLeDiff,reduceCtorEq,initTm]<;>rfl) ?_)
 refine W.seq (W.no rfl (W.skip ?_))
 refine W.seq (W.reg (G.gcall 1 (by simp only[am,evOp,simprocAttr,initTm]<;>rfl) rfl (by simp only[am,evOp,simprocAttr,initTm]) (by simp only[am,evOp,simprocAttr,initTm]<;>rfl) (len64_ok k1 k2) fun v h' hq=>?_))
 obtain⟨rfl,rfl⟩:=hq
 refine G.run (by simp only[am,evOp,simprocAttr]<;>rfl) ?_
 exact W.ret ⟨_,(by simp only[rs,rf84,am,evOp,simprocAttr]<;>rfl),rfl,rfl⟩
theorem blen_zero {h:AH}:C prg 84 [.int .u64 0] h fun v h'=>v=.int .i64 0∧h'=h:=by
 refine C.func pf84 ?_
 refine W.seq (W.run (by simp only[am,evOp,↓reduceIte,Nat.reduceEqDiff,Int.reduceEq,Nat.reduceAdd,Nat.reduceLeDiff,reduceCtorEq,initTm]<;>rfl) ?_)
 refine W.seq (W.no rfl (W.skip ?_))
 refine W.seq (W.reg (G.gcall 1 (by simp only[am,evOp,simprocAttr,initTm]<;>rfl) rfl (by simp only[am,evOp,simprocAttr,initTm]) (by simp only[am,evOp,simprocAttr,initTm]<;>rfl) (len64_zero) fun v h' hq=>?_))
 obtain⟨rfl,rfl⟩:=hq
 refine G.run (by simp only[am,evOp,simprocAttr]<;>rfl) ?_
 exact W.ret ⟨_,(by simp only[rs,rf84,am,evOp,simprocAttr]<;>rfl),rfl,rfl⟩
end Go.Proofs.YtihedjolidbfiaaGreatDoor
namespace Go.Proofs.YtihedjolidbfiaaGreatDoor
open Go.Am
open Go.Sort (swp ltInt PermIn)
def cell1 (k:IntKind) (z:Int):AO:=.cells [.int k z] 1 false
theorem rd_cell {h:AH}{s:Nat}{k:IntKind}{z:Int} (hg:h.get s=some (cell1 k z)):rdCells h s 0 1=some [.int k z]:=by rw[rdCells_of hg]; rfl
theorem wr_cell {h:AH}{s:Nat}{k:IntKind}{z y:Int} (hg:h.get s=some (cell1 k z)):∃ h',wrCells h s 0 [.int k y]=some h'∧Upd h h' s (cell1 k y) :=
 ⟨_,by rw[wrCells_of hg]; rfl,Upd.put hg⟩
theorem ord2_ok {h:AH}{b o c s x y:Nat}{z:Int}{cs:List AV}{d:Array Int} (hg:h.get b=some (blkI cs o d)) (hr:o+d.size≤cs.length) (hx:x<d.size) (hy:y<d.size) (hs:h.get s=some (cell1 .i64 z)) :
 C prg 175 [.sl b o d.size c,.int .i64 (x:Nat),.int .i64 (y:Nat),.ptr s 0] h fun v h'=>∃ (x' y':Nat) (z':Int),v=.tup [.int .i64 (x':Nat),.int .i64 (y':Nat)]∧(x'=x∧y'=y∨x'=y∧y'=x)∧Upd h h' s (cell1 .i64 z'):=by
 refine C.func pf175 ?_
 have i1:idx? ((y:Nat):Int) d.size=some y:=idx_nat hy
 have i2:idx? ((x:Nat):Int) d.size=some x:=idx_nat hx
 have r1:=rd_blk (i:=y) hg hr hy
 have r2:=rd_blk (i:=x) hg hr hx
 refine W.seq (W.run (by simp only[am,evOp,simprocAttr,initTm]<;>rfl) ?_)
 refine W.seq (W.seq (W.reg (G.gcall 8 (by simp only[am,evOp,simprocAttr,initTm,i1,i2,r1,r2,Nat.mul_one]<;>rfl) rfl (by simp only[am,evOp,simprocAttr,initTm,i1,i2,r1,r2,Nat.mul_one]) (by simp only[am,evOp,simprocAttr,initTm,i1,i2,r1,r2,Nat.mul_one]<;>rfl) (less_ok) fun v h3 hq=>?_)))
 obtain⟨rfl,rfl⟩:=hq
 refine G.run (by simp only[am,evOp,simprocAttr]<;>rfl) ?_
 refine W.cond (t:=ltInt d[y]! d[x]!) (by simp only[am,evOp,simprocAttr]) (fun q=>?_) fun q=>?_
 ·have r3:=rd_cell hs
  obtain⟨h4,s4,u4⟩:=wr_cell (y:=IntKind.i64.wrap (z+1)) hs
  refine W.seq (W.run (by simp only[am,evOp,simprocAttr,initTm,r3,s4]<;>rfl) ?_)
  refine W.seq (W.run (by simp only[am,evOp,simprocAttr,initTm]<;>rfl) ?_)
  exact W.ret ⟨_,(by simp only[rs,rf175,am,evOp,simprocAttr,initTm]<;>rfl),y,x,_,rfl,.inr ⟨rfl,rfl⟩,u4⟩
 ·refine W.skip (W.seq (W.run (by simp only[am,evOp,simprocAttr,initTm]<;>rfl) ?_))
  exact W.ret ⟨_,(by simp only[rs,rf175,am,evOp,simprocAttr,initTm]<;>rfl),x,y,_,rfl,.inl ⟨rfl,rfl⟩,Upd.refl hs⟩
theorem med_ok {h:AH}{b o c s x y w:Nat}{z:Int}{cs:List AV}{d:Array Int} (hg:h.get b=some (blkI cs o d)) (hbs:b≠s) (hr:o+d.size≤cs.length) (hx:x<d.size) (hy:y<d.size) (hw:w<d.size) (hs:h.get s=some (cell1 .i64 z)) :
 C prg 160 [.sl b o d.size c,.int .i64 (x:Nat),.int .i64 (y:Nat),.int .i64 (w:Nat),.ptr s 0] h fun v h'=>∃ (r:Nat) (z':Int),v=.int .i64 (r:Nat)∧(r=x∨r=y∨r=w)∧Upd h h' s (cell1 .i64 z'):=by
 refine C.func pf160 ?_
 refine W.seq (W.run (by simp only[am,evOp,simprocAttr,initTm]<;>rfl) ?_)
 refine W.seq (W.reg (G.gcall 4 (by simp only[am,evOp,simprocAttr,initTm]<;>rfl) rfl (by simp only[am,evOp,simprocAttr,initTm]) (by simp only[am,evOp,simprocAttr,initTm]<;>rfl) (ord2_ok hg hr hx hy hs) fun v h1 hq=>?_))
 obtain⟨x1,y1,z1,rfl,hxy,u1⟩:=hq
 refine G.run (by simp only[am,evOp,simprocAttr]<;>rfl) ?_
 have g1:h1.get b=some (blkI cs o d):=by rw[u1.ne hbs]; exact hg
 refine W.seq (W.reg (G.gcall 4 (by simp only[am,evOp,simprocAttr,initTm]<;>rfl) rfl (by simp only[am,evOp,simprocAttr,initTm]) (by simp only[am,evOp,simprocAttr,initTm]<;>rfl) (ord2_ok g1 hr (x:=y1) (y:=w) (by omega) hw u1.get) fun v h2 hq=>?_))
 obtain⟨y2,w2,z2,rfl,hyw,u2⟩:=hq
 refine G.run (by simp only[am,evOp,simprocAttr]<;>rfl) ?_
 have u2':=u1.trans u2
 have g2:h2.get b=some (blkI cs o d):=by rw[u2'.ne hbs]; exact hg
 refine W.seq (W.reg (G.gcall 4 (by simp only[am,evOp,simprocAttr,initTm]<;>rfl) rfl (by simp only[am,evOp,simprocAttr,initTm]) (by simp only[am,evOp,simprocAttr,initTm]<;>rfl) (ord2_ok g2 hr (x:=x1) (y:=y2) (by omega) (by omega) u2.get) fun v h3 hq=>?_))
 obtain⟨x3,y3,z3,rfl,hxy3,u3⟩:=hq
 refine G.run (by simp only[am,evOp,simprocAttr]<;>rfl) ?_
 refine W.seq (W.run (by simp only[am,evOp,simprocAttr]<;>rfl) ?_)
 exact W.ret ⟨_,(by simp only[rs,rf160,am,evOp,simprocAttr]<;>rfl),y3,z3,rfl,by omega,u2'.trans u3⟩
theorem madj_ok {h:AH}{b o c s x:Nat}{z:Int}{cs:List AV}{d:Array Int} (hg:h.get b=some (blkI cs o d)) (hbs:b≠s) (hr:o+d.size≤cs.length) (hx0:0<x) (hx:x+1<d.size) (hz:d.size<2 ^ 40) (hs:h.get s=some (cell1 .i64 z)) :
 C prg 159 [.sl b o d.size c,.int .i64 (x:Nat),.ptr s 0] h fun v h'=>∃ (r:Nat) (z':Int),v=.int .i64 (r:Nat)∧(x≤r+1∧r≤x+1)∧Upd h h' s (cell1 .i64 z'):=by
 refine C.func pf159 ?_
 have w1:IntKind.i64.wrap (((x:Nat):Int)-1)=((x-1:Nat):Int):=by rw[wr64 (by omega) (by omega)]; omega
 have w2:IntKind.i64.wrap (((x:Nat):Int)+1)=((x+1:Nat):Int):=wr64 (by omega) (by omega)
 refine W.seq (W.run (by simp only[am,evOp,simprocAttr,initTm]<;>rfl) ?_)
 refine W.seq (W.reg (G.gcall 7 (by simp only[am,evOp,simprocAttr,initTm,w1,w2]<;>rfl) rfl (by simp only[am,evOp,simprocAttr,initTm,w1,w2]) (by simp only[am,evOp,simprocAttr,initTm,w1,w2]<;>rfl) (med_ok hg hbs hr (x:=x-1) (y:=x) (w:=x+1) (by omega) (by omega) (by omega) hs) fun v h1 hq=>?_))
 obtain⟨r,z1,rfl,hxy,u1⟩:=hq
 refine G.run (by simp only[am,evOp,simprocAttr]<;>rfl) ?_
 exact W.ret ⟨_,(by simp only[rs,rf159,am,evOp,simprocAttr]<;>rfl),r,z1,rfl,by omega,u1⟩
end Go.Proofs.YtihedjolidbfiaaGreatDoor
namespace Go.Proofs.YtihedjolidbfiaaGreatDoor
open Go.Am
open Go.Sort (swp ltInt PermIn swp_permIn permIn_refl permIn_trans)
theorem quo_nat {n k:Nat} (hn:n<2 ^ 62):IntKind.i64.wrap (((n:Nat):Int).tdiv ((k:Nat):Int))=((n / k:Nat):Int):=by
 rw[Int.tdiv_eq_ediv_of_nonneg (by omega),← Int.natCast_ediv]
 have h2:n / k≤n:=Nat.div_le_self n k
 generalize n / k=q at *
 exact wr64 (by omega) (by omega)
theorem piv_ok {h:AH}{b o c a m:Nat}{cs:List AV}{d:Array Int} (hg:h.get b=some (blkI cs o d)) (hr:o+d.size≤cs.length) (hl:a+8≤m) (hm:m≤d.size) (hs:d.size<2 ^ 40) :
 C prg 121 [.sl b o d.size c,.int .i64 (a:Nat),.int .i64 (m:Nat)] h fun v h'=>∃ (r:Nat) (k:Int),v=.tup [.int .i64 (r:Nat),.int .i64 k]∧a≤r∧r<m∧Ext h.next h h':=by
 refine C.func pf121 ?_
 have hb:=AH.lt_of_get hg
 have w0:IntKind.i64.wrap (((m:Nat):Int)-((a:Nat):Int))=((m-a:Nat):Int):=by rw[wr64 (by omega) (by omega)]; omega
 refine W.seq (W.run (by simp only[am,evOp,simprocAttr,initTm]<;>rfl) ?_)
 refine W.seq (W.run (by simp only[am,evOp,simprocAttr,initTm,w0]<;>rfl) ?_)
 refine W.seq (W.run (by simp only[am,evOp,simprocAttr,initTm]<;>rfl) ?_)
 have z4:¬ (4:Int)=0:=by decide
 have q4:IntKind.i64.wrap (((m-a:Nat):Int).tdiv 4)=(((m-a) / 4:Nat):Int):=quo_nat (k:=4) (by omega)
 obtain⟨L,hL⟩:∃ L,L=(m-a) / 4:=⟨_,rfl⟩
 rw[← hL] at q4
 have hL2:2≤L:=by omega
 have hL4:4*L≤m-a:=by omega
 have w1:IntKind.i64.wrap (((L:Nat):Int)*1)=((L:Nat):Int):=by rw[wr64 (by omega) (by omega)]; omega
 have w2:IntKind.i64.wrap (((L:Nat):Int)*2)=((2*L:Nat):Int):=by rw[wr64 (by omega) (by omega)]; omega
 have w3:IntKind.i64.wrap (((L:Nat):Int)*3)=((3*L:Nat):Int):=by rw[wr64 (by omega) (by omega)]; omega
 have w4:IntKind.i64.wrap (((a:Nat):Int)+((L:Nat):Int))=((a+L:Nat):Int):=by rw[wr64 (by omega) (by omega)]; omega
 have w5:IntKind.i64.wrap (((a:Nat):Int)+((2*L:Nat):Int))=((a+2*L:Nat):Int):=by rw[wr64 (by omega) (by omega)]; omega
 have w6:IntKind.i64.wrap (((a:Nat):Int)+((3*L:Nat):Int))=((a+3*L:Nat):Int):=by rw[wr64 (by omega) (by omega)]; omega
 refine W.seq (W.run (by simp only[am,evOp,simprocAttr,initTm,z4,q4,w1,w4]<;>rfl) ?_)
 refine W.seq (W.run (by simp only[am,evOp,simprocAttr,initTm,z4,q4,w2,w5]<;>rfl) ?_)
 refine W.seq (W.run (by simp only[am,evOp,simprocAttr,initTm,z4,q4,w3,w6]<;>rfl) ?_)
 have c1:decide ((8:Int)≤((m-a:Nat):Int))=true:=by simp only[decide_eq_true_eq]; omega
 have hnew:(h.new (.cells [.int .i64 0] 1 false)).get h.next=some (cell1 .i64 0):=by rw[AH.get_new,if_pos rfl]; rfl
 have gnew:(h.new (.cells [.int .i64 0] 1 false)).get b=some (blkI cs o d):=by rw[AH.get_new,if_neg (by omega)]; exact hg
 have hbs:b≠h.next:=by omega
 have ex0:Ext h.next h (h.new (.cells [.int .i64 0] 1 false)):=Ext.new (Nat.le_refl _)
 generalize h.new (.cells [.int .i64 0] 1 false)=h0 at *
 refine W.seq (W.cut (fun ts h1=>∃ (r:Nat) (z:Int),a≤r∧r<m∧Ext h.next h h1∧h1.get h.next=some (cell1 .i64 z)∧tget ts 9=.ptr h.next 0∧tget ts 11=.int .i64 (r:Nat)) ?_ ?_)
 ·refine W.seq (W.run (by simp only[am,evOp,simprocAttr,initTm,c1]<;>rfl) ?_)
  refine W.yes (by simp only[am,evOp,simprocAttr,c1]) (W.seq (W.cut (fun ts h1=>∃ (x y w:Nat) (z:Int),a≤x∧x<m∧a≤y∧y<m∧a≤w∧w<m∧Upd h0 h1 h.next (cell1 .i64 z)∧tget ts 0=.sl b o d.size c∧tget ts 9=.ptr h.next 0∧tget ts 10=.int .i64 (x:Nat)∧tget ts 11=.int .i64 (y:Nat)∧tget ts 12=.int .i64 (w:Nat)) ?_ ?_))
  ·refine W.seq (W.run (by simp only[am,evOp,simprocAttr,initTm]<;>rfl) ?_)
   refine W.cond (t:=decide ((50:Int)≤((m-a:Nat):Int))) (by simp only[am,evOp,simprocAttr]) (fun q=>?_) fun q=>?_
   ·refine W.seq (W.reg (G.gcall 2 (by simp only[am,evOp,simprocAttr,initTm]<;>rfl) rfl (by simp only[am,evOp,simprocAttr,initTm]) (by simp only[am,evOp,simprocAttr,initTm]<;>rfl) (madj_ok gnew hbs hr (x:=a+L) (by omega) (by omega) (by omega) hnew) fun v h1 hq=>?_))
    obtain⟨x,z1,rfl,hx,u1⟩:=hq
    refine G.run (by simp only[am,evOp,simprocAttr]<;>rfl) ?_
    have g1:h1.get b=some (blkI cs o d):=by rw[u1.ne hbs]; exact gnew
    refine W.seq (W.reg (G.gcall 2 (by simp only[am,evOp,simprocAttr,initTm]<;>rfl) rfl (by simp only[am,evOp,simprocAttr,initTm]) (by simp only[am,evOp,simprocAttr,initTm]<;>rfl) (madj_ok g1 hbs hr (x:=a+2*L) (by omega) (by omega) (by omega) u1.get) fun v h2 hq=>?_))
    obtain⟨y,z2,rfl,hy,u2⟩:=hq
    refine G.run (by simp only[am,evOp,simprocAttr]<;>rfl) ?_
    have u2':=u1.trans u2
    have g2:h2.get b=some (blkI cs o d):=by rw[u2'.ne hbs]; exact gnew
    refine W.reg (G.gcall 2 (by simp only[am,evOp,simprocAttr,initTm]<;>rfl) rfl (by simp only[am,evOp,simprocAttr,initTm]) (by simp only[am,evOp,simprocAttr,initTm]<;>rfl) (madj_ok g2 hbs hr (x:=a+3*L) (by omega) (by omega) (by omega) u2.get) fun v h3 hq=>?_)
    obtain⟨w,z3,rfl,hw,u3⟩:=hq
    refine G.run (by simp only[am,evOp,simprocAttr]<;>rfl) ?_
    exact⟨x,y,w,z3,by omega,by omega,by omega,by omega,by omega,by omega,u2'.trans u3,by simp only[am,evOp,simprocAttr,initTm],by simp only[am,evOp,simprocAttr,initTm],by simp only[am,evOp,simprocAttr],by simp only[am,evOp,simprocAttr],by simp only[am,evOp,simprocAttr]⟩
   ·exact W.skip ⟨a+L,a+2*L,a+3*L,0,by omega,by omega,by omega,by omega,by omega,by omega,Upd.refl hnew,by simp only[am,evOp,simprocAttr,initTm],by simp only[am,evOp,simprocAttr,initTm],by simp only[am,evOp,simprocAttr],by simp only[am,evOp,simprocAttr],by simp only[am,evOp,simprocAttr]⟩
  ·rintro ts h1 ⟨x,y,w,z,hx1,hx2,hy1,hy2,hw1,hw2,u1,e0,e9,e10,e11,e12⟩
   have g1:h1.get b=some (blkI cs o d):=by rw[u1.ne hbs]; exact gnew
   refine W.reg (G.gcall 4 (by simp only[am,evOp,simprocAttr,e0,e9,e10,e11,e12]<;>rfl) rfl (by simp only[am,evOp,simprocAttr,e0,e9,e10,e11,e12]) (by simp only[am,evOp,simprocAttr,e0,e9,e10,e11,e12]<;>rfl) (med_ok g1 hbs hr (x:=x) (y:=y) (w:=w) (by omega) (by omega) (by omega) u1.get) fun v h2 hq=>?_)
   obtain⟨r,z2,rfl,hr3,u2⟩:=hq
   refine G.run (by simp only[am,evOp,simprocAttr]<;>rfl) ?_
   exact⟨r,z2,by omega,by omega,ex0.trans ((u1.trans u2).ext (Nat.le_refl _)),u2.get,by simp only[am,evOp,simprocAttr,e9],by simp only[am,evOp,simprocAttr]⟩
 rintro ts h1 ⟨r,z,hr1,hr2,ex,g,e9,e11⟩
 have r1:=rd_cell g
 refine W.seq (W.run (by simp only[am,evOp,simprocAttr,e9,r1]<;>rfl) ?_)
 refine W.block (W.seq (W.run (by simp only[am,evOp,simprocAttr]<;>rfl) ?_))
 refine W.cond (t:=decide (z=0)) (by simp only[am,evOp,simprocAttr]) (fun q=>?_) fun q=>?_
 ·refine W.seq (W.run (by simp only[am,evOp,simprocAttr,e11]<;>rfl) ?_)
  exact W.ret ⟨_,(by simp only[rs,rf121,am,evOp,simprocAttr]<;>rfl),r,1,rfl,hr1,hr2,ex⟩
 ·refine W.seq (W.run (by simp only[am,evOp,simprocAttr]<;>rfl) ?_)
  refine W.cond (t:=decide (z=12)) (by simp only[am,evOp,simprocAttr]) (fun q=>?_) fun q=>?_
  ·refine W.seq (W.run (by simp only[am,evOp,simprocAttr,e11]<;>rfl) ?_)
   exact W.ret ⟨_,(by simp only[rs,rf121,am,evOp,simprocAttr]<;>rfl),r,2,rfl,hr1,hr2,ex⟩
  ·refine W.seq (W.run (by simp only[am,evOp,simprocAttr,e11]<;>rfl) ?_)
   exact W.ret ⟨_,(by simp only[rs,rf121,am,evOp,simprocAttr]<;>rfl),r,0,rfl,hr1,hr2,ex⟩
theorem shl_one {k:Nat} (hk:k<64):binA .shl .no (.int .u64 1) (.int .i64 (k:Nat))=some (.int .u64 ((2 ^ k:Nat):Int)):=by
 have h1:min ((k:Nat):Int).toNat IntKind.u64.bits=k:=by
  have:IntKind.u64.bits=64:=rfl
  rw[this,Int.toNat_natCast]
  omega
 have e:binA .shl .no (.int .u64 1) (.int .i64 (k:Nat))=shft .shl .u64 1 (k:Nat):=by simp [binA]
 have hk0:¬ ((k:Nat):Int)<0:=by omega
 have h2:(1:Int)*2 ^ k=((2 ^ k:Nat):Int):=by rw[Int.one_mul]; exact (Int.natCast_pow 2 k).symm
 have h3:2 ^ k<2 ^ 64:=Nat.pow_lt_pow_right (by decide) hk
 have h4:IntKind.u64.wrap ((2 ^ k:Nat):Int)=((2 ^ k:Nat):Int):=by
  generalize 2 ^ k=p at *
  exact IntWalk.u64_in _ ⟨by omega,by omega⟩
 rw[e]
 simp only[shft,h1,hk0,if_false,h2,h4]
theorem u64_of {n:Nat} (h:n<2 ^ 64):IntKind.u64.wrap ((n:Nat):Int)=((n:Nat):Int):=IntWalk.u64_in _ ⟨by omega,by omega⟩
theorem npow_ok {h:AH}{n:Nat} (h1:1≤n) (h2:n<2 ^ 40):C prg 157 [.int .i64 (n:Nat)] h fun v h'=>∃ p:Nat,v=.int .u64 (p:Nat)∧h'=h∧1≤p∧p≤2*n:=by
 refine C.func pf157 ?_
 have hlg:Nat.log2 n<40:=(Nat.log2_lt (by omega)).2 h2
 have hlo:2 ^ Nat.log2 n≤n:=Nat.log2_self_le (by omega)
 have w1:IntKind.u64.wrap ((n:Nat):Int)=((n:Nat):Int):=u64_of (by omega)
 have sh:=shl_one (k:=Nat.log2 n+1) (by omega)
 refine W.seq (W.run (by simp only[am,evOp,simprocAttr,initTm]<;>rfl) ?_)
 refine W.seq (W.reg (G.gcall 2 (by simp only[am,evOp,simprocAttr,initTm,w1]<;>rfl) rfl (by simp only[am,evOp,simprocAttr,initTm,w1]) (by simp only[am,evOp,simprocAttr,initTm,w1]<;>rfl) (blen_ok h1 (by omega)) fun v h1 hq=>?_))
 obtain⟨rfl,rfl⟩:=hq
 have hp:2 ^ (Nat.log2 n+1)=2*2 ^ Nat.log2 n:=by rw[Nat.pow_succ]; omega
 have hp1:1≤2 ^ Nat.log2 n:=Nat.one_le_two_pow
 generalize hP:2 ^ (Nat.log2 n+1)=P at *
 refine G.run (by simp only[am,evOp,simprocAttr,sh]<;>rfl) ?_
 exact W.ret ⟨_,(by simp only[rs,rf157,am,evOp,simprocAttr]<;>rfl),P,rfl,rfl,by omega,by omega⟩
def xr (a b:Int):Int:=IntKind.u64.wrap ((BitVec.ofInt 64 a ^^^ BitVec.ofInt 64 b).toNat)
def sl64 (a:Int) (k:Nat):Int:=IntKind.u64.wrap (a*2 ^ (min ((k:Nat):Int).toNat IntKind.u64.bits))
def sr64 (a:Int) (k:Nat):Int:=a.fdiv (2 ^ (min ((k:Nat):Int).toNat IntKind.u64.bits))
theorem bin_xor64 {a b:Int}:binA .xor .no (.int .u64 a) (.int .u64 b)=some (.int .u64 (xr a b)):=rfl
theorem bin_shl64 {a:Int}{k:Nat}:binA .shl .no (.int .u64 a) (.int .u64 (k:Nat))=some (.int .u64 (sl64 a k)):=by
 have e:binA .shl .no (.int .u64 a) (.int .u64 (k:Nat))=shft .shl .u64 a (k:Nat):=by simp [binA]
 have hk0:¬ ((k:Nat):Int)<0:=by omega
 rw[e]
 simp only[shft,hk0,if_false,sl64]
theorem bin_shr64 {a:Int}{k:Nat}:binA .shr .no (.int .u64 a) (.int .u64 (k:Nat))=some (.int .u64 (sr64 a k)):=by
 have e:binA .shr .no (.int .u64 a) (.int .u64 (k:Nat))=shft .shr .u64 a (k:Nat):=by simp [binA]
 have hk0:¬ ((k:Nat):Int)<0:=by omega
 rw[e]
 simp only[shft,hk0,if_false,sr64]
theorem xnext_ok {h:AH}{s:Nat}{z:Int} (hs:h.get s=some (cell1 .u64 z)):C prg 158 [.ptr s 0] h fun v h'=>∃ z':Int,v=.int .u64 z'∧Upd h h' s (cell1 .u64 z'):=by
 refine C.func pf158 ?_
 have s1:∀ a:Int,binA .shl .no (.int .u64 a) (.int .u64 13)=some (.int .u64 (sl64 a 13)):=fun a=>bin_shl64 (k:=13)
 have s2:∀ a:Int,binA .shr .no (.int .u64 a) (.int .u64 7)=some (.int .u64 (sr64 a 7)):=fun a=>bin_shr64 (k:=7)
 have s3:∀ a:Int,binA .shl .no (.int .u64 a) (.int .u64 17)=some (.int .u64 (sl64 a 17)):=fun a=>bin_shl64 (k:=17)
 have r0:=rd_cell hs
 refine W.seq (W.run (by simp only[am,evOp,simprocAttr,initTm]<;>rfl) ?_)
 obtain⟨h1,t1,u1⟩:=wr_cell (y:=xr z (sl64 z 13)) hs
 refine W.seq (W.run (by simp only[am,evOp,simprocAttr,initTm,r0,s1,bin_xor64,t1]<;>rfl) ?_)
 generalize xr z (sl64 z 13)=z1 at *
 have r1:=rd_cell u1.get
 obtain⟨h2,t2,u2⟩:=wr_cell (y:=xr z1 (sr64 z1 7)) u1.get
 refine W.seq (W.run (by simp only[am,evOp,simprocAttr,initTm,r1,s2,bin_xor64,t2]<;>rfl) ?_)
 generalize xr z1 (sr64 z1 7)=z2 at *
 have r2:=rd_cell u2.get
 obtain⟨h3,t3,u3⟩:=wr_cell (y:=xr z2 (sl64 z2 17)) u2.get
 refine W.seq (W.run (by simp only[am,evOp,simprocAttr,initTm,r2,s3,bin_xor64,t3]<;>rfl) ?_)
 generalize xr z2 (sl64 z2 17)=z3 at *
 have r3:=rd_cell u3.get
 refine W.seq (W.run (by simp only[am,evOp,simprocAttr,initTm,r3]<;>rfl) ?_)
 exact W.ret ⟨_,(by simp only[rs,rf158,am,evOp,simprocAttr]<;>rfl),z3,rfl,(u1.trans u2).trans u3⟩
theorem and_le {z:Int}{p:Nat} (hp:1≤p) (hp2:p<2 ^ 62):∃ r:Nat,Am.bits .and .u64 z (((p-1:Nat):Int))=some ((r:Nat):Int)∧r≤p-1:=by
 refine⟨(BitVec.ofInt 64 z &&& BitVec.ofInt 64 ((p-1:Nat):Int)).toNat,?_,?_⟩
 ·have h:Am.bits .and .u64 z (((p-1:Nat):Int))=some (IntKind.u64.wrap ((BitVec.ofInt 64 z &&& BitVec.ofInt 64 ((p-1:Nat):Int)).toNat:Nat)):=rfl
  rw[h]
  have hl:=(BitVec.ofInt 64 z &&& BitVec.ofInt 64 ((p-1:Nat):Int)).isLt
  generalize (BitVec.ofInt 64 z &&& BitVec.ofInt 64 ((p-1:Nat):Int)).toNat=q at *
  rw[u64_of hl]
 ·rw[BitVec.toNat_and]
  have:(BitVec.ofInt 64 ((p-1:Nat):Int)).toNat=p-1:=by
   rw[BitVec.toNat_ofInt]
   omega
  rw[this]
  exact Nat.and_le_right
theorem brk_ok {h:AH}{b o c a m:Nat}{cs:List AV}{d:Array Int} (hg:h.get b=some (blkI cs o d)) (hr:o+d.size≤cs.length) (hl:a+8≤m) (hm:m≤d.size) (hs:d.size<2 ^ 38) :
 C prg 120 [.sl b o d.size c,.int .i64 (a:Nat),.int .i64 (m:Nat)] h fun v h'=>∃ d',PermIn a m d d'∧Mod h.next h h' b (blkI cs o d'):=by
 refine C.func pf120 ?_
 have hb:=AH.lt_of_get hg
 have w0:IntKind.i64.wrap (((m:Nat):Int)-((a:Nat):Int))=((m-a:Nat):Int):=by rw[wr64 (by omega) (by omega)]; omega
 obtain⟨N,hN⟩:∃ N,N=m-a:=⟨_,rfl⟩
 rw[← hN] at w0
 have c1:decide ((8:Int)≤((N:Nat):Int))=true:=by simp only[decide_eq_true_eq]; omega
 refine W.seq (W.run (by simp only[am,evOp,simprocAttr,initTm,w0]<;>rfl) ?_)
 refine W.seq (W.run (by simp only[am,evOp,simprocAttr,initTm,c1]<;>rfl) ?_)
 refine W.yes (by simp only[am,evOp,simprocAttr,c1]) ?_
 have wu:IntKind.u64.wrap ((N:Nat):Int)=((N:Nat):Int):=u64_of (by omega)
 have hnew:(h.new (.cells [.int .u64 0] 1 false)).get h.next=some (cell1 .u64 0):=by rw[AH.get_new,if_pos rfl]; rfl
 have gnew:(h.new (.cells [.int .u64 0] 1 false)).get b=some (blkI cs o d):=by rw[AH.get_new,if_neg (by omega)]; exact hg
 have ex0:Ext h.next h (h.new (.cells [.int .u64 0] 1 false)):=Ext.new (Nat.le_refl _)
 have m0:Mod h.next h (h.new (.cells [.int .u64 0] 1 false)) b (blkI cs o d):=ex0.mod (Mod.refl gnew)
 obtain⟨h1,t1,u1⟩:=wr_cell (y:=((N:Nat):Int)) hnew
 refine W.seq (W.run (by simp only[am,evOp,simprocAttr,initTm,wu,t1]<;>rfl) ?_)
 have m1:Mod h.next h h1 b (blkI cs o d):=m0.ext hb (u1.ext (Nat.le_refl _))
 have g1:=u1.get
 clear u1 t1 m0 ex0 hnew gnew
 refine W.seq (W.reg (G.gcall 1 (by simp only[am,evOp,simprocAttr,initTm]<;>rfl) rfl (by simp only[am,evOp,simprocAttr,initTm]) (by simp only[am,evOp,simprocAttr,initTm]<;>rfl) (npow_ok (n:=N) (by omega) (by omega)) fun v h2 hq=>?_))
 obtain⟨p,rfl,rfl,hp1,hp2⟩:=hq
 refine G.run (by simp only[am,evOp,simprocAttr]<;>rfl) ?_
 have z4:¬ (4:Int)=0:=by decide
 have q4:IntKind.i64.wrap (((N:Nat):Int).tdiv 4)=((N / 4:Nat):Int):=quo_nat (k:=4) (by omega)
 obtain⟨L,hL⟩:∃ L,L=N / 4:=⟨_,rfl⟩
 rw[← hL] at q4
 have hL2:2≤L:=by omega
 have hL4:4*L≤N:=by omega
 have w1:IntKind.i64.wrap (((L:Nat):Int)*2)=((2*L:Nat):Int):=by rw[wr64 (by omega) (by omega)]; omega
 have w2:IntKind.i64.wrap (((a:Nat):Int)+((2*L:Nat):Int))=((a+2*L:Nat):Int):=by rw[wr64 (by omega) (by omega)]; omega
 have w3:IntKind.i64.wrap (((a+2*L:Nat):Int)-1)=((a+2*L-1:Nat):Int):=by rw[wr64 (by omega) (by omega)]; omega
 have w4:IntKind.i64.wrap (((a+2*L:Nat):Int)+1)=((a+2*L+1:Nat):Int):=by rw[wr64 (by omega) (by omega)]; omega
 refine W.seq (W.run (by simp only[am,evOp,simprocAttr,initTm,z4,q4,w1,w2,w3]<;>rfl) ?_)
 refine W.block (W.loop (fun n ts h1=>∃ (i:Nat) (d1:Array Int) (z:Int),n=a+2*L+2-i∧a+2*L-1≤i∧i≤a+2*L+2∧PermIn a m d d1∧Mod h.next h h1 b (blkI cs o d1)∧h1.get h.next=some (cell1 .u64 z)∧tget ts 0=.sl b o d.size c∧tget ts 1=.int .i64 (a:Nat)∧tget ts 6=.int .i64 (N:Nat)∧tget ts 7=.ptr h.next 0∧tget ts 8=.int .u64 (p:Nat)∧tget ts 9=.int .i64 (i:Nat)) ?_ (n:=3)
  ⟨a+2*L-1,d,_,by omega,by omega,by omega,permIn_refl d a m,m1,g1,by simp only[am,evOp,simprocAttr,initTm],by simp only[am,evOp,simprocAttr,initTm],by simp only[am,evOp,simprocAttr,initTm],by simp only[am,evOp,simprocAttr,initTm],by simp only[am,evOp,simprocAttr,initTm],by simp only[am,evOp,simprocAttr,initTm]⟩)
 clear m1 g1
 rintro n ts h1 ⟨i,d1,z,rfl,hi1,hi2,hP,hM,hZ,e0,e1,e6,e7,e8,e9⟩
 have hz:d1.size=d.size:=hP.1
 refine W.seq (W.seq (W.run (by simp only[am,evOp,simprocAttr,e1,e6,e9,z4,q4,w1,w2,w4]<;>rfl) ?_))
 refine W.cond (t:=decide (i≤a+2*L+1)) (by simp only[am,evOp,simprocAttr,Int.ofNat_le]) (fun q=>?_) fun q=>?_
 ·have q:i≤a+2*L+1:=of_decide_eq_true q
  refine W.skip (W.seq (W.block (W.seq (W.reg (G.callq (by simp only[am,evOp,simprocAttr,e7]) (by simp only[am,evOp,simprocAttr,e7]<;>rfl) (xnext_ok hZ) fun v h2 hq=>?_)))))
  obtain⟨z2,rfl,u2⟩:=hq
  have wp:IntKind.u64.wrap (((p:Nat):Int)-1)=((p-1:Nat):Int):=by
   have:((p:Nat):Int)-1=((p-1:Nat):Int):=by omega
   rw[this]
   exact u64_of (by omega)
  obtain⟨r,hr1,hr2⟩:=and_le (z:=z2) hp1 (by omega)
  have wr:IntKind.i64.wrap ((r:Nat):Int)=((r:Nat):Int):=wr64 (by omega) (by omega)
  refine G.run (by simp only[am,evOp,simprocAttr,e0,e1,e6,e7,e8,e9,wp,hr1,wr]<;>rfl) ?_
  have m2:Mod h.next h h2 b (blkI cs o d1):=hM.ext hb (u2.ext (Nat.le_refl _))
  refine W.seq (W.cut (fun ts h2=>∃ (r:Nat) (z:Int),r<N∧Mod h.next h h2 b (blkI cs o d1)∧h2.get h.next=some (cell1 .u64 z)∧tget ts 0=.sl b o d.size c∧tget ts 1=.int .i64 (a:Nat)∧tget ts 6=.int .i64 (N:Nat)∧tget ts 7=.ptr h.next 0∧tget ts 8=.int .u64 (p:Nat)∧tget ts 9=.int .i64 (i:Nat)∧tget ts 10=.int .i64 (r:Nat)) ?_ ?_)
  ·refine W.seq (W.run (by simp only[am,evOp,simprocAttr,e6]<;>rfl) ?_)
   refine W.cond (t:=decide (N≤r)) (by simp only[am,evOp,simprocAttr,Int.ofNat_le]) (fun q3=>?_) fun q3=>?_
   ·have q3:N≤r:=of_decide_eq_true q3
    have wd:IntKind.i64.wrap (((r:Nat):Int)-((N:Nat):Int))=((r-N:Nat):Int):=by rw[wr64 (by omega) (by omega)]; omega
    refine W.run (by simp only[am,evOp,simprocAttr,e6,wd]<;>rfl) ?_
    exact⟨r-N,z2,by omega,m2,u2.get,by simp only[am,evOp,simprocAttr,e0],by simp only[am,evOp,simprocAttr,e1],by simp only[am,evOp,simprocAttr,e6],by simp only[am,evOp,simprocAttr,e7],by simp only[am,evOp,simprocAttr,e8],by simp only[am,evOp,simprocAttr,e9],by simp only[am,evOp,simprocAttr,wd]⟩
   ·have q3:¬ N≤r:=of_decide_eq_false q3
    exact W.skip ⟨r,z2,by omega,m2,u2.get,by simp only[am,evOp,simprocAttr,e0],by simp only[am,evOp,simprocAttr,e1],by simp only[am,evOp,simprocAttr,e6],by simp only[am,evOp,simprocAttr,e7],by simp only[am,evOp,simprocAttr,e8],by simp only[am,evOp,simprocAttr,e9],by simp only[am,evOp,simprocAttr]⟩
  clear e0 e1 e6 e7 e8 e9 hM hZ u2 m2 hr1 hr2 wr r h2
  rintro ts h2 ⟨r,z,hrN,hM,hZ,e0,e1,e6,e7,e8,e9,e10⟩
  have wa:IntKind.i64.wrap (((a:Nat):Int)+((r:Nat):Int))=((a+r:Nat):Int):=by rw[wr64 (by omega) (by omega)]; omega
  have x1:idx? ((i:Nat):Int) d.size=some i:=idx_nat (by omega)
  have x2:idx? ((a+r:Nat):Int) d.size=some (a+r):=idx_nat (by omega)
  have r1:=rd_blk (i:=i) hM.get (by omega) (by omega)
  have r2:=rd_blk (i:=a+r) hM.get (by omega) (by omega)
  obtain⟨m1,m2,s1,s2,u2⟩:=swp_blk (i:=i) (j:=a+r) hM.get (by omega) (by omega) (by omega)
  refine W.run (by simp only[am,evOp,simprocAttr,e0,e1,e9,e10,wa,x1,x2,r1,r2,s1,s2,Nat.mul_one]<;>rfl) ?_
  have w5:IntKind.i64.wrap (((i:Nat):Int)+1)=((i+1:Nat):Int):=wr64 (by omega) (by omega)
  refine W.run (by simp only[am,evOp,simprocAttr,e9,w5]<;>rfl) ?_
  exact⟨a+2*L+2-(i+1),by omega,i+1,swp d1 i (a+r),z,rfl,by omega,by omega,permIn_trans _ _ _ a m hP (swp_permIn d1 a m i (a+r) (by omega) (by omega) (by omega) (by omega) (by omega)),hM.upd u2,by rw[u2.ne (by omega)]; exact hZ,by simp only[am,evOp,simprocAttr,e0],by simp only[am,evOp,simprocAttr,e1],by simp only[am,evOp,simprocAttr,e6],by simp only[am,evOp,simprocAttr,e7],by simp only[am,evOp,simprocAttr,e8],by simp only[am,evOp,simprocAttr,e9,w5]⟩
 ·exact W.exit ⟨fun _=>⟨.tup [],rfl,d1,hP,hM⟩,fun e=>absurd rfl e⟩
end Go.Proofs.YtihedjolidbfiaaGreatDoor
namespace Go.Proofs.YtihedjolidbfiaaGreatDoor
open Go.Am
open Go.Sort (swp ltInt PermIn SortedIn Below permIn_refl permIn_trans insertionSort_holds heapSort_holds partialInsertionSort_holds partition_holds partitionEqual_holds reverseRange_holds swo_ltInt round_eq round_part)
theorem quo8 {n:Nat} (hn:n<2 ^ 62):IntKind.i64.wrap (((n:Nat):Int).tdiv 8)=((n / 8:Nat):Int):=quo_nat (k:=8) hn
set_option maxHeartbeats 2000000 in
theorem pdq_ok:∀ (N:Nat) {h:AH}{b o c a m l:Nat}{cs:List AV}{d:Array Int},m-a≤N→h.get b=some (blkI cs o d)→o+d.size≤cs.length→a≤m→m≤d.size→d.size<2 ^ 38→l<2 ^ 40→Below ltInt a m d →
 C prg 83 [.sl b o d.size c,.int .i64 (a:Nat),.int .i64 (m:Nat),.int .i64 (l:Nat)] h fun v h'=>∃ d',PermIn a m d d'∧SortedIn ltInt a m d'∧Mod h.next h h' b (blkI cs o d'):=by
 intro N
 induction N using Nat.strongRecOn with
 | _ N ih =>
 intro h b o c a m l cs d hN hg hr ham hm hs hl hB
 have hb:=AH.lt_of_get hg
 refine C.func pf83 ?_
 refine W.seq (W.run (by simp only[am,evOp,simprocAttr,initTm]<;>rfl) ?_)
 refine W.seq (W.run (by simp only[am,evOp,simprocAttr,initTm]<;>rfl) ?_)
 refine W.block (W.loop (fun k ts h1=>∃ (p n l1:Nat) (d1:Array Int) (wb wp:Bool),k=n-p∧a≤p∧p≤n∧n≤m∧l1≤l∧Below ltInt p n d1∧Mod h.next h h1 b (blkI cs o d1)∧d1.size=d.size∧(∀ R,PermIn p n d1 R→SortedIn ltInt p n R→PermIn a m d R∧SortedIn ltInt a m R)∧tget ts 0=.sl b o d.size c∧tget ts 1=.int .i64 (p:Nat)∧tget ts 2=.int .i64 (n:Nat)∧tget ts 3=.int .i64 (l1:Nat)∧tget ts 8=.bool wb∧tget ts 9=.bool wp) ?_ (n:=m-a)
  ⟨a,m,l,d,true,true,rfl,Nat.le_refl _,ham,Nat.le_refl _,Nat.le_refl _,hB,Mod.refl hg,rfl,fun R h1 h2=>⟨h1,h2⟩,by simp only[am,evOp,simprocAttr,initTm],by simp only[am,evOp,simprocAttr,initTm],by simp only[am,evOp,simprocAttr,initTm],by simp only[am,evOp,simprocAttr,initTm],by simp only[am,evOp,simprocAttr,initTm],by simp only[am,evOp,simprocAttr,initTm]⟩)
 rintro k ts h1 ⟨p,n,l1,d1,wb,wp,rfl,hap,hpn,hnm,hl1,hB1,hM,hz,hC,e0,e1,e2,e3,e8,e9⟩
 have w0:IntKind.i64.wrap (((n:Nat):Int)-((p:Nat):Int))=((n-p:Nat):Int):=by rw[wr64 (by omega) (by omega)]; omega
 refine W.block (W.seq (W.run (by simp only[am,evOp,simprocAttr,e1,e2,w0]<;>rfl) ?_))
 refine W.seq (W.seq (W.run (by simp only[am,evOp,simprocAttr]<;>rfl) ?_))
 refine W.cond (t:=decide (n-p≤12)) (by simp only[am,evOp,simprocAttr]; exact congrArg AV.bool (by simp only[decide_eq_decide]; omega)) (fun q=>?_) fun q=>?_
 ·have hins:=ins_ok (c:=c) (a:=p) (m:=n) hM.get (by omega) (by omega) (by omega) (by omega)
  rw[hz] at hins
  refine W.seq (W.reg (G.gcall 3 (by simp only[am,evOp,simprocAttr,e0,e1,e2]<;>rfl) rfl (by simp only[am,evOp,simprocAttr,e0,e1,e2]) (by simp only[am,evOp,simprocAttr,e0,e1,e2]<;>rfl) (hins) fun v h2 u=>?_))
  refine G.run (by simp only[am,evOp,simprocAttr]<;>rfl) ?_
  obtain⟨s1,s2⟩:=insertionSort_holds swo_ltInt d1 p n hpn (by omega)
  obtain⟨s3,s4⟩:=hC _ s1 s2
  exact W.ret ⟨.tup [],rfl,_,s3,s4,hM.upd u⟩
 have q:¬ n-p≤12:=of_decide_eq_false q
 refine W.skip (W.seq (W.seq (W.run (by simp only[am,evOp,simprocAttr,e3]<;>rfl) ?_)))
 refine W.cond (t:=decide (l1=0)) (by simp only[am,evOp,simprocAttr]; exact congrArg AV.bool (by simp only[decide_eq_decide]; omega)) (fun q2=>?_) fun q2=>?_
 ·have hheap:=heap_ok (c:=c) (a:=p) (m:=n) hM.get (by omega) (by omega) (by omega) (by omega)
  rw[hz] at hheap
  refine W.seq (W.reg (G.gcall 3 (by simp only[am,evOp,simprocAttr,e0,e1,e2]<;>rfl) rfl (by simp only[am,evOp,simprocAttr,e0,e1,e2]) (by simp only[am,evOp,simprocAttr,e0,e1,e2]<;>rfl) (hheap) fun v h2 u=>?_))
  refine G.run (by simp only[am,evOp,simprocAttr]<;>rfl) ?_
  obtain⟨s1,s2⟩:=heapSort_holds swo_ltInt d1 p n hpn (by omega)
  obtain⟨s3,s4⟩:=hC _ s1 s2
  exact W.ret ⟨.tup [],rfl,_,s3,s4,hM.upd u⟩
 have q2:¬ l1=0:=of_decide_eq_false q2
 refine W.skip (W.seq (W.cut (fun ts h2=>∃ (d2:Array Int) (l2:Nat),l2≤l∧PermIn p n d1 d2∧Mod h.next h h2 b (blkI cs o d2)∧tget ts 10=.int .i64 ((n-p:Nat):Int)∧tget ts 0=.sl b o d.size c∧tget ts 1=.int .i64 (p:Nat)∧tget ts 2=.int .i64 (n:Nat)∧tget ts 3=.int .i64 (l2:Nat)∧tget ts 8=.bool wb∧tget ts 9=.bool wp) ?_ ?_))
 ·refine W.seq (W.run (by simp only[am,evOp,simprocAttr,e8]<;>rfl) ?_)
  refine W.cond (t:=!wb) (by simp only[am,evOp,simprocAttr]) (fun q3=>?_) fun q3=>?_
  ·have hbrk:=brk_ok (c:=c) (a:=p) (m:=n) hM.get (by omega) (by omega) (by omega) (by omega)
   rw[hz] at hbrk
   refine W.seq (W.reg (G.gcall 3 (by simp only[am,evOp,simprocAttr,e0,e1,e2]<;>rfl) rfl (by simp only[am,evOp,simprocAttr,e0,e1,e2]) (by simp only[am,evOp,simprocAttr,e0,e1,e2]<;>rfl) (hbrk) fun v h2 hq=>?_))
   obtain⟨d2,hp2,hm2⟩:=hq
   refine G.run (by simp only[am,evOp,simprocAttr]<;>rfl) ?_
   have w1:IntKind.i64.wrap (((l1:Nat):Int)-1)=((l1-1:Nat):Int):=by rw[wr64 (by omega) (by omega)]; omega
   refine W.run (by simp only[am,evOp,simprocAttr,e3,w1]<;>rfl) ?_
   exact⟨d2,l1-1,by omega,hp2,hM.trans (hm2.mono hM.nx),by simp only[am,evOp,simprocAttr],by simp only[am,evOp,simprocAttr,e0],by simp only[am,evOp,simprocAttr,e1],by simp only[am,evOp,simprocAttr,e2],by simp only[am,evOp,simprocAttr,e3,w1],by simp only[am,evOp,simprocAttr,e8],by simp only[am,evOp,simprocAttr,e9]⟩
  ·exact W.skip ⟨d1,l1,hl1,permIn_refl _ _ _,hM,by simp only[am,evOp,simprocAttr],by simp only[am,evOp,simprocAttr,e0],by simp only[am,evOp,simprocAttr,e1],by simp only[am,evOp,simprocAttr,e2],by simp only[am,evOp,simprocAttr,e3],by simp only[am,evOp,simprocAttr,e8],by simp only[am,evOp,simprocAttr,e9]⟩
 clear e0 e1 e2 e3 e8 e9 hl1
 rintro ts h2 ⟨d2,l2,hl2,hP2,hM2,e10,e0,e1,e2,e3,e8,e9⟩
 have hz2:d2.size=d.size:=hP2.1.trans hz
 have hpiv:=piv_ok (c:=c) (a:=p) (m:=n) hM2.get (by omega) (by omega) (by omega) (by omega)
 rw[hz2] at hpiv
 refine W.seq (W.reg (G.gcall 3 (by simp only[am,evOp,simprocAttr,e0,e1,e2]<;>rfl) rfl (by simp only[am,evOp,simprocAttr,e0,e1,e2]) (by simp only[am,evOp,simprocAttr,e0,e1,e2]<;>rfl) (hpiv) fun v h3 hq=>?_))
 obtain⟨r,kk,rfl,hr1,hr2,ex⟩:=hq
 refine G.run (by simp only[am,evOp,simprocAttr]<;>rfl) ?_
 have hM3:Mod h.next h h3 b (blkI cs o d2):=hM2.ext hb (ex.mono hM2.nx)
 refine W.seq (W.cut (fun ts h3=>∃ (d3:Array Int) (r:Nat) (kk:Int),p≤r∧r<n∧PermIn p n d1 d3∧Mod h.next h h3 b (blkI cs o d3)∧tget ts 10=.int .i64 ((n-p:Nat):Int)∧tget ts 11=.int .i64 (r:Nat)∧tget ts 12=.int .i64 kk∧tget ts 0=.sl b o d.size c∧tget ts 1=.int .i64 (p:Nat)∧tget ts 2=.int .i64 (n:Nat)∧tget ts 3=.int .i64 (l2:Nat)∧tget ts 8=.bool wb∧tget ts 9=.bool wp) ?_ ?_)
 ·refine W.seq (W.run (by simp only[am,evOp,simprocAttr]<;>rfl) ?_)
  refine W.cond (t:=decide (kk=2)) (by simp only[am,evOp,simprocAttr]) (fun q3=>?_) fun q3=>?_
  ·have hrev:=rev_ok (c:=c) (a:=p) (m:=n) hM3.get (by omega) (by omega) (by omega) (by omega)
   rw[hz2] at hrev
   refine W.seq (W.reg (G.gcall 3 (by simp only[am,evOp,simprocAttr,e0,e1,e2]<;>rfl) rfl (by simp only[am,evOp,simprocAttr,e0,e1,e2]) (by simp only[am,evOp,simprocAttr,e0,e1,e2]<;>rfl) (hrev) fun v h4 u=>?_))
   refine G.run (by simp only[am,evOp,simprocAttr]<;>rfl) ?_
   have w1:IntKind.i64.wrap (((n:Nat):Int)-1)=((n-1:Nat):Int):=by rw[wr64 (by omega) (by omega)]; omega
   have w2:IntKind.i64.wrap (((r:Nat):Int)-((p:Nat):Int))=((r-p:Nat):Int):=by rw[wr64 (by omega) (by omega)]; omega
   have w3:IntKind.i64.wrap (((n-1:Nat):Int)-((r-p:Nat):Int))=((n-1-(r-p):Nat):Int):=by rw[wr64 (by omega) (by omega)]; omega
   refine W.seq (W.run (by simp only[am,evOp,simprocAttr,e1,e2,w1,w2,w3]<;>rfl) ?_)
   refine W.run (by simp only[am,evOp,simprocAttr]<;>rfl) ?_
   exact⟨_,n-1-(r-p),1,by omega,by omega,permIn_trans _ _ _ p n hP2 (reverseRange_holds d2 p n hpn (by omega)),hM3.upd u,by simp only[am,evOp,simprocAttr,e10],by simp only[am,evOp,simprocAttr],by simp only[am,evOp,simprocAttr],by simp only[am,evOp,simprocAttr,e0],by simp only[am,evOp,simprocAttr,e1],by simp only[am,evOp,simprocAttr,e2],by simp only[am,evOp,simprocAttr,e3],by simp only[am,evOp,simprocAttr,e8],by simp only[am,evOp,simprocAttr,e9]⟩
  ·exact W.skip ⟨d2,r,kk,hr1,hr2,hP2,hM3,by simp only[am,evOp,simprocAttr,e10],by simp only[am,evOp,simprocAttr],by simp only[am,evOp,simprocAttr],by simp only[am,evOp,simprocAttr,e0],by simp only[am,evOp,simprocAttr,e1],by simp only[am,evOp,simprocAttr,e2],by simp only[am,evOp,simprocAttr,e3],by simp only[am,evOp,simprocAttr,e8],by simp only[am,evOp,simprocAttr,e9]⟩
 clear e0 e1 e2 e3 e8 e9 e10 hP2 hM2 hM3 hr1 hr2 ex hpiv hz2
 rintro ts h4 ⟨d3,r,kk,hr1,hr2,hP3,hM3,e10,e11,e12,e0,e1,e2,e3,e8,e9⟩
 have hz3:d3.size=d.size:=hP3.1.trans hz
 have hB3:Below ltInt p n d3:=hB1.perm (by omega) hP3
 refine W.seq (W.cut (fun ts h5=>∃ (d4:Array Int),PermIn p n d1 d4∧Mod h.next h h5 b (blkI cs o d4)∧tget ts 10=.int .i64 ((n-p:Nat):Int)∧tget ts 11=.int .i64 (r:Nat)∧tget ts 0=.sl b o d.size c∧tget ts 1=.int .i64 (p:Nat)∧tget ts 2=.int .i64 (n:Nat)∧tget ts 3=.int .i64 (l2:Nat)∧tget ts 8=.bool wb∧tget ts 9=.bool wp) ?_ ?_)
 ·cases wb with
  | false =>
    refine W.seq (W.run (by simp only[am,evOp,simprocAttr,e8,e9,e12]<;>rfl) ?_)
    refine W.no (by simp only[am,evOp,simprocAttr]) ?_
    exact W.skip ⟨d3,hP3,hM3,by simp only[am,evOp,simprocAttr,e10],by simp only[am,evOp,simprocAttr,e11],by simp only[am,evOp,simprocAttr,e0],by simp only[am,evOp,simprocAttr,e1],by simp only[am,evOp,simprocAttr,e2],by simp only[am,evOp,simprocAttr,e3],by simp only[am,evOp,simprocAttr,e8],by simp only[am,evOp,simprocAttr,e9]⟩
  | true =>
  cases wp with
  | false =>
    refine W.seq (W.run (by simp only[am,evOp,simprocAttr,e8,e9,e12]<;>rfl) ?_)
    refine W.no (by simp only[am,evOp,simprocAttr]) ?_
    exact W.skip ⟨d3,hP3,hM3,by simp only[am,evOp,simprocAttr,e10],by simp only[am,evOp,simprocAttr,e11],by simp only[am,evOp,simprocAttr,e0],by simp only[am,evOp,simprocAttr,e1],by simp only[am,evOp,simprocAttr,e2],by simp only[am,evOp,simprocAttr,e3],by simp only[am,evOp,simprocAttr,e8],by simp only[am,evOp,simprocAttr,e9]⟩
  | true =>
    refine W.seq (W.run (by simp only[am,evOp,simprocAttr,e8,e9,e12]<;>rfl) ?_)
    refine W.cond (t:=decide (kk=1)) (by simp only[am,evOp,simprocAttr]) (fun q3=>?_) fun q3=>?_
    ·have hpins:=pins_ok (c:=c) (a:=p) (m:=n) hM3.get (by omega) (by omega) (by omega) (by omega)
     rw[hz3] at hpins
     refine W.seq (W.reg (G.gcall 3 (by simp only[am,evOp,simprocAttr,e0,e1,e2]<;>rfl) rfl (by simp only[am,evOp,simprocAttr,e0,e1,e2]) (by simp only[am,evOp,simprocAttr,e0,e1,e2]<;>rfl) (hpins) fun v h5 hq=>?_))
     obtain⟨rfl,u⟩:=hq
     refine G.run (by simp only[am,evOp,simprocAttr]<;>rfl) ?_
     obtain⟨s1,s2⟩:=partialInsertionSort_holds swo_ltInt d3 p n (by omega) (by omega) hB3
     refine W.cond (t:=(Go.Sort.partialInsertionSort ltInt d3 p n).2) (by simp only[am,evOp,simprocAttr]) (fun q4=>?_) fun q4=>?_
     ·obtain⟨s3,s4⟩:=hC _ (permIn_trans _ _ _ p n hP3 s1) (s2 q4)
      exact W.ret ⟨.tup [],rfl,_,s3,s4,hM3.upd u⟩
     ·exact W.skip ⟨_,permIn_trans _ _ _ p n hP3 s1,hM3.upd u,by simp only[am,evOp,simprocAttr,e10],by simp only[am,evOp,simprocAttr,e11],by simp only[am,evOp,simprocAttr,e0],by simp only[am,evOp,simprocAttr,e1],by simp only[am,evOp,simprocAttr,e2],by simp only[am,evOp,simprocAttr,e3],by simp only[am,evOp,simprocAttr,e8],by simp only[am,evOp,simprocAttr,e9]⟩
    ·exact W.skip ⟨d3,hP3,hM3,by simp only[am,evOp,simprocAttr,e10],by simp only[am,evOp,simprocAttr,e11],by simp only[am,evOp,simprocAttr,e0],by simp only[am,evOp,simprocAttr,e1],by simp only[am,evOp,simprocAttr,e2],by simp only[am,evOp,simprocAttr,e3],by simp only[am,evOp,simprocAttr,e8],by simp only[am,evOp,simprocAttr,e9]⟩
 clear e0 e1 e2 e3 e8 e9 e10 e11 e12 hP3 hM3 hz3 hB3
 rintro ts h5 ⟨d4,hP4,hM4,e10,e11,e0,e1,e2,e3,e8,e9⟩
 have hz4:d4.size=d.size:=hP4.1.trans hz
 have hB4:Below ltInt p n d4:=hB1.perm (by omega) hP4
 have hC4:∀ R,PermIn p n d4 R→SortedIn ltInt p n R→PermIn a m d R∧SortedIn ltInt a m R:=fun R s1 s2=>hC R (permIn_trans _ _ _ p n hP4 s1) s2
 clear hC hP4 hB1 hM
 refine W.seq (W.cut (fun ts h6=>h5=h6∧tget ts 10=.int .i64 ((n-p:Nat):Int)∧tget ts 11=.int .i64 (r:Nat)∧tget ts 0=.sl b o d.size c∧tget ts 1=.int .i64 (p:Nat)∧tget ts 2=.int .i64 (n:Nat)∧tget ts 3=.int .i64 (l2:Nat)∧tget ts 8=.bool wb∧tget ts 9=.bool wp) ?_ ?_)
 ·by_cases q3:0<p
  ·have c1:decide ((0:Int)<((p:Nat):Int))=true:=by simp only[decide_eq_true_eq]; omega
   have w1:IntKind.i64.wrap (((p:Nat):Int)-1)=((p-1:Nat):Int):=by rw[wr64 (by omega) (by omega)]; omega
   have x1:idx? ((p-1:Nat):Int) d.size=some (p-1):=idx_nat (by omega)
   have x2:idx? ((r:Nat):Int) d.size=some r:=idx_nat (by omega)
   have r1:=rd_blk (i:=p-1) hM4.get (by omega) (by omega)
   have r2:=rd_blk (i:=r) hM4.get (by omega) (by omega)
   refine W.seq (W.reg (G.gcall 12 (by simp only[am,evOp,simprocAttr,e0,e1,e11,c1,w1,x1,x2,r1,r2,Nat.mul_one]<;>rfl) rfl (by simp only[am,evOp,simprocAttr,e0,e1,e11,c1,w1,x1,x2,r1,r2,Nat.mul_one]) (by simp only[am,evOp,simprocAttr,e0,e1,e11,c1,w1,x1,x2,r1,r2,Nat.mul_one]<;>rfl) (less_ok) fun v h6 hq=>?_))
   obtain⟨rfl,rfl⟩:=hq
   refine G.run (by simp only[am,evOp,simprocAttr,c1]<;>rfl) ?_
   refine W.cond (t:=!ltInt d4[p-1]! d4[r]!) (by simp only[am,evOp,simprocAttr]) (fun q4=>?_) fun q4=>?_
   ·have q4:ltInt d4[p-1]! d4[r]! = false:=by simpa using q4
    have hpe:=parteq_ok (c:=c) (a:=p) (m:=n) (piv:=r) hM4.get (by omega) hr1 hr2 (by omega) (by omega)
    rw[hz4] at hpe
    refine W.seq (W.reg (G.gcall 4 (by simp only[am,evOp,simprocAttr,e0,e1,e2,e11]<;>rfl) rfl (by simp only[am,evOp,simprocAttr,e0,e1,e2,e11]) (by simp only[am,evOp,simprocAttr,e0,e1,e2,e11]<;>rfl) (hpe) fun v h7 hq=>?_))
    obtain⟨rfl,u⟩:=hq
    obtain⟨y1,y2,y3,y4,y5⟩:=round_eq swo_ltInt (partitionEqual_holds ltInt) q3 hr1 hr2 (by omega) hB4 q4 (Prod.eta (Go.Sort.partitionEqual ltInt d4 p n r)).symm
    refine G.run (by simp only[am,evOp,simprocAttr]<;>rfl) ?_
    refine W.seq (W.run (by simp only[am,evOp,simprocAttr]<;>rfl) ?_)
    exact W.exit ⟨fun _=>⟨n-(Go.Sort.partitionEqual ltInt d4 p n r).1,by omega,_,n,l2,_,wb,wp,rfl,by omega,y2,hnm,hl2,y4,hM4.upd u,by rw[y3,hz4],fun R s1 s2=>hC4 R (y5 R s1 s2).1 (y5 R s1 s2).2,by simp only[am,evOp,simprocAttr,e0],by simp only[am,evOp,simprocAttr],by simp only[am,evOp,simprocAttr,e2],by simp only[am,evOp,simprocAttr,e3],by simp only[am,evOp,simprocAttr,e8],by simp only[am,evOp,simprocAttr,e9]⟩,fun e=>absurd rfl e⟩
   ·exact W.skip ⟨rfl,by simp only[am,evOp,simprocAttr,e10],by simp only[am,evOp,simprocAttr,e11],by simp only[am,evOp,simprocAttr,e0],by simp only[am,evOp,simprocAttr,e1],by simp only[am,evOp,simprocAttr,e2],by simp only[am,evOp,simprocAttr,e3],by simp only[am,evOp,simprocAttr,e8],by simp only[am,evOp,simprocAttr,e9]⟩
  ·have c1:decide ((0:Int)<((p:Nat):Int))=false:=by simp only[decide_eq_false_iff_not]; omega
   refine W.seq (W.reg (G.nocall 12 (by simp only[am,evOp,simprocAttr,e0,e1,e11,c1]<;>rfl) rfl (by simp only[am,evOp,simprocAttr,c1]) ?_))
   refine G.run (by simp only[am,evOp,simprocAttr,c1]<;>rfl) ?_
   exact W.no (by simp only[am,evOp,simprocAttr]) (W.skip ⟨rfl,by simp only[am,evOp,simprocAttr,e10],by simp only[am,evOp,simprocAttr,e11],by simp only[am,evOp,simprocAttr,e0],by simp only[am,evOp,simprocAttr,e1],by simp only[am,evOp,simprocAttr,e2],by simp only[am,evOp,simprocAttr,e3],by simp only[am,evOp,simprocAttr,e8],by simp only[am,evOp,simprocAttr,e9]⟩)
 clear e0 e1 e2 e3 e8 e9 e10 e11
 rintro ts h6 ⟨rfl,e10,e11,e0,e1,e2,e3,e8,e9⟩
 have hpt:=part_ok (c:=c) (a:=p) (m:=n) (piv:=r) hM4.get (by omega) hr1 hr2 (by omega) (by omega)
 rw[hz4] at hpt
 refine W.seq (W.reg (G.gcall 4 (by simp only[am,evOp,simprocAttr,e0,e1,e2,e11]<;>rfl) rfl (by simp only[am,evOp,simprocAttr,e0,e1,e2,e11]) (by simp only[am,evOp,simprocAttr,e0,e1,e2,e11]<;>rfl) (hpt) fun v h7 hq=>?_))
 obtain⟨rfl,u⟩:=hq
 obtain⟨y1,y2,y3,y4,y5,y6,y7⟩:=round_part swo_ltInt (partition_holds ltInt) hr1 hr2 (by omega) hB4 (show Go.Sort.partition ltInt d4 p n r=((Go.Sort.partition ltInt d4 p n r).1,(Go.Sort.partition ltInt d4 p n r).2.1,(Go.Sort.partition ltInt d4 p n r).2.2) from rfl)
 have hM5:=hM4.upd u
 generalize (Go.Sort.partition ltInt d4 p n r).1=mid at *
 generalize (Go.Sort.partition ltInt d4 p n r).2.1=ap at *
 generalize (Go.Sort.partition ltInt d4 p n r).2.2=d5 at *
 refine G.run (by simp only[am,evOp,simprocAttr]<;>rfl) ?_
 refine W.seq (W.run (by simp only[am,evOp,simprocAttr]<;>rfl) ?_)
 have w1:IntKind.i64.wrap (((mid:Nat):Int)-((p:Nat):Int))=((mid-p:Nat):Int):=by rw[wr64 (by omega) (by omega)]; omega
 have w2:IntKind.i64.wrap (((n:Nat):Int)-((mid:Nat):Int))=((n-mid:Nat):Int):=by rw[wr64 (by omega) (by omega)]; omega
 have w3:IntKind.i64.wrap (((mid:Nat):Int)+1)=((mid+1:Nat):Int):=wr64 (by omega) (by omega)
 refine W.seq (W.run (by simp only[am,evOp,simprocAttr,e1,e2,w1,w2]<;>rfl) ?_)
 have z8:¬ (8:Int)=0:=by decide
 have q8:=quo8 (n:=n-p) (by omega)
 refine W.seq (W.run (by simp only[am,evOp,simprocAttr,e10,z8,q8]<;>rfl) ?_)
 refine W.seq (W.run (by simp only[am,evOp,simprocAttr]<;>rfl) ?_)
 have hz5:d5.size=d.size:=y3.trans hz4
 refine W.cond (t:=decide (mid-p<n-mid)) (by simp only[am,evOp,simprocAttr,Int.ofNat_lt]) (fun q4=>?_) fun q4=>?_
 ·refine W.seq (W.run (by simp only[am,evOp,simprocAttr]<;>rfl) ?_)
  have hrec:=@ih (mid-p) (by omega) h7 b o c p mid l2 cs d5 (by omega) hM5.get (by omega) y1 (by omega) (by omega) (by omega) y4
  rw[hz5] at hrec
  refine W.seq (W.reg (G.gcall 4 (by simp only[am,evOp,simprocAttr,e0,e1,e3]<;>rfl) rfl (by simp only[am,evOp,simprocAttr,e0,e1,e3]) (by simp only[am,evOp,simprocAttr,e0,e1,e3]<;>rfl) (hrec) fun v h8 hq=>?_))
  obtain⟨L,l1',l2',m8⟩:=hq
  refine G.run (by simp only[am,evOp,simprocAttr]<;>rfl) ?_
  refine W.run (by simp only[am,evOp,simprocAttr,w3]<;>rfl) ?_
  obtain⟨y8,y9⟩:=y6 L l1' l2'
  exact⟨n-(mid+1),by omega,mid+1,n,l2,L,_,ap,rfl,by omega,by omega,hnm,hl2,y8,hM5.trans (m8.mono hM5.nx),by rw[l1'.1,hz5],fun R s1 s2=>hC4 R (y9 R s1 s2).1 (y9 R s1 s2).2,by simp only[am,evOp,simprocAttr,e0],by simp only[am,evOp,simprocAttr,w3],by simp only[am,evOp,simprocAttr,e2],by simp only[am,evOp,simprocAttr,e3],(by simp only[am,evOp,simprocAttr]<;>rfl),by simp only[am,evOp,simprocAttr]⟩
 ·refine W.seq (W.run (by simp only[am,evOp,simprocAttr]<;>rfl) ?_)
  have hrec:=@ih (n-(mid+1)) (by omega) h7 b o c (mid+1) n l2 cs d5 (by omega) hM5.get (by omega) (by omega) (by omega) (by omega) (by omega) y5
  rw[hz5] at hrec
  refine W.seq (W.reg (G.gcall 5 (by simp only[am,evOp,simprocAttr,e0,e2,e3,w3]<;>rfl) rfl (by simp only[am,evOp,simprocAttr,e0,e2,e3,w3]) (by simp only[am,evOp,simprocAttr,e0,e2,e3,w3]<;>rfl) (hrec) fun v h8 hq=>?_))
  obtain⟨L,l1',l2',m8⟩:=hq
  refine G.run (by simp only[am,evOp,simprocAttr]<;>rfl) ?_
  refine W.run (by simp only[am,evOp,simprocAttr]<;>rfl) ?_
  obtain⟨y8,y9⟩:=y7 L l1' l2'
  exact⟨mid-p,by omega,p,mid,l2,L,_,ap,rfl,by omega,by omega,by omega,hl2,y8,hM5.trans (m8.mono hM5.nx),by rw[l1'.1,hz5],fun R s1 s2=>hC4 R (y9 R s1 s2).1 (y9 R s1 s2).2,by simp only[am,evOp,simprocAttr,e0],by simp only[am,evOp,simprocAttr,e1],by simp only[am,evOp,simprocAttr],by simp only[am,evOp,simprocAttr,e3],(by simp only[am,evOp,simprocAttr]<;>rfl),by simp only[am,evOp,simprocAttr]⟩
theorem sort_ok {h:AH}{b o c:Nat}{cs:List AV}{d:Array Int} (hg:h.get b=some (blkI cs o d)) (hr:o+d.size≤cs.length) (hs:d.size<2 ^ 38) :
 C prg 48 [.sl b o d.size c] h fun v h'=>Mod h.next h h' b (blkI cs o (d.toList.mergeSort (fun x y=>decide (x≤y))).toArray):=by
 have fin:∀ d',PermIn 0 d.size d d'→SortedIn ltInt 0 d.size d'→d'=(d.toList.mergeSort (fun x y=>decide (x≤y))).toArray:=fun d' h1 h2=>by
  have e:=Go.Sort.sorted_unique_holds swo_ltInt (fun x y h1 h2=>by simp only[ltInt,decide_eq_false_iff_not] at h1 h2; omega) d d' h1 h2
  have e2:(fun x y=>!ltInt y x)=fun x y=>decide (x≤y):=by
   funext x y
   simp only[ltInt]
   by_cases q:x≤y
   ·have:¬ y<x:=by omega
    simp [q,this]
   ·have:y<x:=by omega
    simp [q,this]
  rw[e2] at e
  rw[← e]
 refine C.func pf48 ?_
 refine W.seq (W.run (by simp only[am,evOp,simprocAttr,initTm]<;>rfl) ?_)
 have wu:IntKind.u64.wrap ((d.size:Nat):Int)=((d.size:Nat):Int):=u64_of (by omega)
 by_cases h0:d.size=0
 ·have e0:((d.size:Nat):Int)=0:=by omega
  refine W.reg (G.gcall 4 (by simp only[am,evOp,simprocAttr,initTm,wu,e0]<;>rfl) rfl (by simp only[am,evOp,simprocAttr,initTm,wu,e0]) (by simp only[am,evOp,simprocAttr,initTm,wu,e0]<;>rfl) (blen_zero) fun v h1 hq=>?_)
  obtain⟨rfl,rfl⟩:=hq
  have hpd:=pdq_ok 0 (c:=c) (a:=0) (m:=d.size) (l:=0) (by omega) hg hr (Nat.zero_le _) (Nat.le_refl _) hs (by decide) (.inl rfl)
  refine G.callq (by simp only[am,evOp,simprocAttr,initTm,e0]) (by simp only[am,evOp,simprocAttr,initTm,e0]<;>rfl) (hpd) fun v h2 hq=>?_
  obtain⟨d',s1,s2,s3⟩:=hq
  refine G.run (by simp only[am,evOp,simprocAttr]<;>rfl) ?_
  exact⟨.tup [],rfl,by rw[← fin d' s1 s2]; exact s3⟩
 ·refine W.reg (G.gcall 4 (by simp only[am,evOp,simprocAttr,initTm,wu]<;>rfl) rfl (by simp only[am,evOp,simprocAttr,initTm,wu]) (by simp only[am,evOp,simprocAttr,initTm,wu]<;>rfl) (blen_ok (u:=d.size) (by omega) (by omega)) fun v h1 hq=>?_)
  obtain⟨rfl,rfl⟩:=hq
  have hlg:Nat.log2 d.size<38:=(Nat.log2_lt (by omega)).2 hs
  have hpd:=pdq_ok d.size (c:=c) (a:=0) (m:=d.size) (l:=Nat.log2 d.size+1) (by omega) hg hr (Nat.zero_le _) (Nat.le_refl _) hs (by omega) (.inl rfl)
  refine G.callq (by simp only[am,evOp,simprocAttr,initTm]) (by simp only[am,evOp,simprocAttr,initTm]<;>rfl) (hpd) fun v h2 hq=>?_
  obtain⟨d',s1,s2,s3⟩:=hq
  refine G.run (by simp only[am,evOp,simprocAttr]<;>rfl) ?_
  exact⟨.tup [],rfl,by rw[← fin d' s1 s2]; exact s3⟩
end Go.Proofs.YtihedjolidbfiaaGreatDoor
namespace Go.Proofs.YtihedjolidbfiaaGreatDoor
open Go.Am Go.Sort
theorem flat_ints:∀ xs:List Int,xs.flatMap eI=ints xs.toArray
 | []=>rfl
 | x::r=>by
   have:=flat_ints r
   unfold ints at *
   rw[List.toList_toArray] at *
   rw[List.flatMap_cons,this]
   rfl
def isort (xs:List Int):List Int:=xs.mergeSort (fun x y=>decide (x≤y))
theorem isort_len (xs:List Int):(isort xs).length=xs.length:=List.length_mergeSort _
end Go.Proofs.YtihedjolidbfiaaGreatDoor
