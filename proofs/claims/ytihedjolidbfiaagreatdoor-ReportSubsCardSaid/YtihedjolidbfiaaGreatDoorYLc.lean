/-
  slices.Sort of ints: cmp.Less, the insertion sort. slices.Sort of ints: the heap. slices.Sort of ints: the partitions (printed by tools/mksrt3.py). slices.Min, Reverse of numbers.
-/
import Derived.Test.YtihedjolidbfiaaGreatDoorYRf
import Derived.Test.YtihedjolidbfiaaGreatDoorYAmA
import Derived.Test.YtihedjolidbfiaaGreatDoorYLa
import Derived.Test.YtihedjolidbfiaaGreatDoorYLb
set_option linter.all false
namespace Go.Proofs.YtihedjolidbfiaaGreatDoor
open Go.Am
open Go.Sort (swp ltInt)
theorem cnan_ok {h:AH}{x:Int}:C prg 128 [.int .i64 x] h fun v h'=>v=.bool false∧h'=h:=by
 refine C.func pf128 ?_
 refine W.seq (W.run (by simp only[am,evOp,simprocAttr,initTm]<;>rfl) ?_)
 have e:(!decide (x=x))=false:=by simp
 refine W.seq (W.run (by simp only[am,evOp,simprocAttr,initTm,e]<;>rfl) ?_)
 exact W.ret ⟨.bool false,(by simp only[rs,rf128,am,evOp,simprocAttr,initTm,decide_true]<;>rfl),rfl,rfl⟩
theorem less_ok {h:AH}{x y:Int}:C prg 85 [.int .i64 x,.int .i64 y] h fun v h'=>v=.bool (ltInt x y)∧h'=h:=by
 refine C.func pf85 ?_
 refine W.seq (W.run (by simp only[am,evOp,simprocAttr,initTm]<;>rfl) ?_)
 refine W.seq (W.reg (G.op ?_))
 simp only[am,evOp,simprocAttr,initTm]
 refine G.call ?_
 simp only[am,evOp,simprocAttr,initTm]
 refine cnan_ok.mono fun v h' ⟨ev,eh⟩=>?_
 subst ev eh
 refine G.run (by simp only[am,evOp,simprocAttr,initTm]; rfl) ?_
 exact W.ret ⟨.bool (ltInt x y),(by simp only[rs,rf85,am,evOp,simprocAttr,initTm,ltInt]<;>rfl),rfl,rfl⟩
open Go.Sort (insInner insOuter insertionSort)
theorem ins_ok {h:AH}{b o c a m:Nat}{cs:List AV}{d:Array Int} (hg:h.get b=some (blkI cs o d)) (hr:o+d.size≤cs.length) (hm:m≤d.size) (hs:d.size<2 ^ 40) (ha:a<2 ^ 40) :
 C prg 118 [.sl b o d.size c,.int .i64 (a:Nat),.int .i64 (m:Nat)] h fun v h'=>Upd h h' b (blkI cs o (insertionSort ltInt d a m)):=by
 refine C.func pf118 ?_
 have w1:IntKind.i64.wrap (((a:Nat):Int)+1)=((a+1:Nat):Int):=wr64 (by omega) (by omega)
 refine W.seq (W.run (by simp only[am,evOp,simprocAttr,initTm,w1]<;>rfl) ?_)
 refine W.block (W.loop (fun n ts h1=>∃ (i:Nat) (d1:Array Int),n=m-i∧a+1≤i∧Upd h h1 b (blkI cs o d1)∧d1.size=d.size∧insOuter ltInt a m i d1=insertionSort ltInt d a m ∧
  tget ts 0=.sl b o d.size c∧tget ts 1=.int .i64 (a:Nat)∧tget ts 2=.int .i64 (m:Nat)∧tget ts 6=.int .i64 (i:Nat)) ?_ (n:=m-(a+1)) ⟨a+1,d,rfl,Nat.le_refl _,Upd.refl hg,rfl,rfl,by simp only[am,evOp,simprocAttr,initTm],by simp only[am,evOp,simprocAttr,initTm],by simp only[am,evOp,simprocAttr,initTm],by simp only[am,evOp,simprocAttr,initTm]⟩)
 rintro n ts h1 ⟨i,d1,rfl,hai,hu,hz,hD,e0,e1,e2,e6⟩
 refine W.seq (W.seq (W.run (by simp only[am,evOp,simprocAttr,e0,e1,e2,e6]<;>rfl) ?_))
 refine W.cond (t:=decide (i<m)) (by simp only[am,evOp,simprocAttr,Int.ofNat_lt]) (fun q=>?_) fun q=>?_
 ·have q:i<m:=of_decide_eq_true q
  refine W.skip (W.seq (W.block (W.seq (W.run (by simp only[am,evOp,simprocAttr,e0,e1,e2,e6]<;>rfl) ?_))))
  refine W.block (W.loop (fun n ts h2=>∃ (j:Nat) (d2:Array Int),n=j∧j≤i∧Upd h h2 b (blkI cs o d2)∧d2.size=d.size∧insInner ltInt a j d2=insInner ltInt a i d1 ∧
   tget ts 0=.sl b o d.size c∧tget ts 1=.int .i64 (a:Nat)∧tget ts 2=.int .i64 (m:Nat)∧tget ts 6=.int .i64 (i:Nat)∧tget ts 7=.int .i64 (j:Nat)) ?_ (n:=i) ⟨i,d1,rfl,Nat.le_refl _,hu,hz,rfl,by simp only[am,evOp,simprocAttr,e0],by simp only[am,evOp,simprocAttr,e1],by simp only[am,evOp,simprocAttr,e2],by simp only[am,evOp,simprocAttr,e6],by simp only[am,evOp,simprocAttr,e6]⟩)
  clear e0 e1 e2 e6
  rintro n ts h2 ⟨j,d2,rfl,hji,hu2,hz2,hD2,e0,e1,e2,e6,e7⟩
  by_cases hja:a<n
  ·obtain⟨j,rfl⟩:∃ k,n=k+1:=⟨n-1,by omega⟩
   have c1:decide (((a:Nat):Int)<((j+1:Nat):Int))=true:=by simp; omega
   have w2:IntKind.i64.wrap (((j+1:Nat):Int)-1)=((j:Nat):Int):=by rw[wr64 (by omega) (by omega)]; omega
   have i1:idx? ((j+1:Nat):Int) d.size=some (j+1):=idx_nat (by omega)
   have i2:idx? ((j:Nat):Int) d.size=some j:=idx_nat (by omega)
   have r1:=rd_blk (i:=j+1) hu2.get (by omega) (by omega)
   have r2:=rd_blk (i:=j) hu2.get (by omega) (by omega)
   refine W.seq (W.seq (W.reg (G.gcall 13 (by simp only[am,evOp,simprocAttr,e0,e1,e2,e6,e7,c1,w2,i1,i2,r1,r2,Nat.mul_one]<;>rfl) rfl (by simp only[am,evOp,simprocAttr,e0,e1,e2,e6,e7,c1,w2,i1,i2,r1,r2,Nat.mul_one]) (by simp only[am,evOp,simprocAttr,e0,e1,e2,e6,e7,c1,w2,i1,i2,r1,r2,Nat.mul_one]<;>rfl) (less_ok) fun v h' hq=>?_)))
   obtain⟨rfl,rfl⟩:=hq
   refine G.run (by simp only[am,evOp,simprocAttr,c1]; rfl) ?_
   refine W.cond (t:=ltInt d2[j+1]! d2[j]!) (by simp only[am,evOp,simprocAttr]) (fun q2=>?_) fun q2=>?_
   ·obtain⟨m1,m2,s1,s2,u2⟩:=swp_blk (i:=j+1) (j:=j) hu2.get (by omega) (by omega) (by omega)
    refine W.skip (W.seq (W.block (W.run (by simp only[am,evOp,simprocAttr,e0,e1,e2,e6,e7,w2,i1,i2,r1,r2,s1,s2,Nat.mul_one]<;>rfl) ?_)))
    refine W.run (by simp only[am,evOp,simprocAttr,e0,e1,e2,e6,e7,w2,i1,i2,r1,r2,s1,s2,Nat.mul_one]<;>rfl) ?_
    refine⟨j,by omega,j,swp d2 (j+1) j,rfl,by omega,hu2.trans u2,by rw[swp_size',hz2],?_,by simp only[am,evOp,simprocAttr,e0],by simp only[am,evOp,simprocAttr,e1],by simp only[am,evOp,simprocAttr,e2],by simp only[am,evOp,simprocAttr,e6],by simp only[am,evOp,simprocAttr,e7,w2]⟩
    rw[← hD2,insInner,if_pos (by simp [q2]; omega)]
   ·refine W.exit ⟨fun _=>?_,fun e=>absurd rfl e⟩
    have w3:IntKind.i64.wrap (((i:Nat):Int)+1)=((i+1:Nat):Int):=wr64 (by omega) (by omega)
    refine W.run (by simp only[am,evOp,simprocAttr,e0,e1,e2,e6,w3]<;>rfl) ?_
    refine⟨m-(i+1),by omega,i+1,d2,rfl,by omega,hu2,hz2,?_,by simp only[am,evOp,simprocAttr,e0],by simp only[am,evOp,simprocAttr,e1],by simp only[am,evOp,simprocAttr,e2],by simp only[am,evOp,simprocAttr,e6,w3]⟩
    have e:d2=insInner ltInt a i d1:=by rw[← hD2,insInner,if_neg (by simp [q2])]
    rw[e,← hD]
    conv=>rhs; rw[insOuter,if_pos q]
  ·have c1:decide (((a:Nat):Int)<((n:Nat):Int))=false:=by simp; omega
   refine W.seq (W.seq (W.reg (G.nocall 13 (by simp only[am,evOp,simprocAttr,e0,e1,e2,e6,e7,c1]<;>rfl) rfl (by simp only[am,evOp,simprocAttr,c1]) ?_)))
   refine G.run (by simp only[am,evOp,simprocAttr,c1]; rfl) ?_
   refine W.no (by simp only[am,evOp,simprocAttr]) (W.exit ⟨fun _=>?_,fun e=>absurd rfl e⟩)
   have w3:IntKind.i64.wrap (((i:Nat):Int)+1)=((i+1:Nat):Int):=wr64 (by omega) (by omega)
   refine W.run (by simp only[am,evOp,simprocAttr,e0,e1,e2,e6,w3]<;>rfl) ?_
   refine⟨m-(i+1),by omega,i+1,d2,rfl,by omega,hu2,hz2,?_,by simp only[am,evOp,simprocAttr,e0],by simp only[am,evOp,simprocAttr,e1],by simp only[am,evOp,simprocAttr,e2],by simp only[am,evOp,simprocAttr,e6,w3]⟩
   have e:d2=insInner ltInt a i d1:=by
    rw[← hD2]
    cases n with
    | zero=>rfl
    | succ n=>rw[insInner,if_neg (by simp; omega)]
   rw[e,← hD]
   conv=>rhs; rw[insOuter,if_pos q]
 ·have q:¬ i<m:=of_decide_eq_false q
  refine W.exit ⟨fun _=>⟨.tup [],rfl,?_⟩,fun e=>absurd rfl e⟩
  have e:d1=insertionSort ltInt d a m:=by rw[← hD,insOuter,if_neg q]
  rw[← e]
  exact hu
end Go.Proofs.YtihedjolidbfiaaGreatDoor
namespace Go.Proofs.YtihedjolidbfiaaGreatDoor
open Go.Am
open Go.Sort (swp ltInt siftDown heapBuild heapPop heapSort)
theorem sift_ok {h:AH}{b o c lo hi first:Nat}{cs:List AV}{d:Array Int} (hg:h.get b=some (blkI cs o d)) (hr:o+d.size≤cs.length) (hm:first+hi≤d.size) (hs:d.size<2 ^ 40) (hlo:lo<2 ^ 40) :
 C prg 156 [.sl b o d.size c,.int .i64 (lo:Nat),.int .i64 (hi:Nat),.int .i64 (first:Nat)] h fun v h'=>Upd h h' b (blkI cs o (siftDown ltInt hi first lo d)):=by
 refine C.func pf156 ?_
 refine W.seq (W.run (by simp only[am,evOp,simprocAttr,initTm]<;>rfl) ?_)
 refine W.block (W.loop (fun n ts h1=>∃ (r:Nat) (d1:Array Int),n=hi-r∧r<2 ^ 40∧Upd h h1 b (blkI cs o d1)∧d1.size=d.size∧siftDown ltInt hi first r d1=siftDown ltInt hi first lo d ∧
  tget ts 0=.sl b o d.size c∧tget ts 2=.int .i64 (hi:Nat)∧tget ts 3=.int .i64 (first:Nat)∧tget ts 8=.int .i64 (r:Nat)) ?_ (n:=hi-lo) ⟨lo,d,rfl,hlo,Upd.refl hg,rfl,rfl,by simp only[am,evOp,simprocAttr,initTm],by simp only[am,evOp,simprocAttr,initTm],by simp only[am,evOp,simprocAttr,initTm],by simp only[am,evOp,simprocAttr,initTm]⟩)
 rintro n ts h1 ⟨r,d1,rfl,hrl,hu,hz,hD,e0,e2,e3,e8⟩
 have w0:IntKind.i64.wrap (2*((r:Nat):Int))=((2*r:Nat):Int):=by rw[wr64 (by omega) (by omega)]; omega
 have w1:IntKind.i64.wrap (((2*r:Nat):Int)+1)=((2*r+1:Nat):Int):=by rw[wr64 (by omega) (by omega)]; omega
 refine W.block (W.seq (W.run (by simp only[am,evOp,simprocAttr,e0,e2,e3,e8,w0,w1]<;>rfl) ?_))
 refine W.seq (W.seq (W.run (by simp only[am,evOp,simprocAttr,e0,e2,e3,e8,w0,w1]<;>rfl) ?_))
 refine W.cond (t:=decide (hi≤2*r+1)) (by simp only[am,evOp,simprocAttr,Int.ofNat_le]) (fun q=>?_) fun q=>?_
 ·have q:hi≤2*r+1:=of_decide_eq_true q
  refine W.exit ⟨fun e=>absurd e (by decide),fun _=>⟨fun _=>⟨.tup [],rfl,?_⟩,fun e=>absurd rfl e⟩⟩
  have e:d1=siftDown ltInt hi first lo d:=by rw[← hD]; conv=>rhs; rw[siftDown,dif_pos q]
  rw[← e]
  exact hu
 have q:¬ hi≤2*r+1:=of_decide_eq_false q
 refine W.skip (W.seq (W.cut (fun ts h2=>∃ k,(k=2*r+1∨k=2*r+2)∧k<hi∧Upd h h2 b (blkI cs o d1)∧tget ts 0=.sl b o d.size c∧tget ts 2=.int .i64 (hi:Nat)∧tget ts 3=.int .i64 (first:Nat)∧tget ts 8=.int .i64 (r:Nat)∧tget ts 9=.int .i64 (k:Nat) ∧
  siftDown ltInt hi first r d1=if ltInt d1[first+r]! d1[first+k]! = true then siftDown ltInt hi first k (swp d1 (first+r) (first+k)) else d1) ?_ ?_))
 ·have w2:IntKind.i64.wrap (((2*r+1:Nat):Int)+1)=((2*r+2:Nat):Int):=by rw[wr64 (by omega) (by omega)]; omega
  have w3:IntKind.i64.wrap (((first:Nat):Int)+((2*r+1:Nat):Int))=((first+(2*r+1):Nat):Int):=by rw[wr64 (by omega) (by omega)]; omega
  have w4:IntKind.i64.wrap (((first+(2*r+1):Nat):Int)+1)=((first+(2*r+2):Nat):Int):=by rw[wr64 (by omega) (by omega)]; omega
  by_cases q2:2*r+2<hi
  ·have c1:decide (((2*r+2:Nat):Int)<((hi:Nat):Int))=true:=by simp; omega
   have i1:idx? ((first+(2*r+1):Nat):Int) d.size=some (first+(2*r+1)):=idx_nat (by omega)
   have i2:idx? ((first+(2*r+2):Nat):Int) d.size=some (first+(2*r+2)):=idx_nat (by omega)
   have r1:=rd_blk (i:=first+(2*r+1)) hu.get (by omega) (by omega)
   have r2:=rd_blk (i:=first+(2*r+2)) hu.get (by omega) (by omega)
   refine W.seq (W.reg (G.gcall 18 (by simp only[am,evOp,simprocAttr,e0,e2,e3,e8,c1,w0,w1,w2,w3,w4,i1,i2,r1,r2,Nat.mul_one]<;>rfl) rfl (by simp only[am,evOp,simprocAttr,e0,e2,e3,e8,c1,w0,w1,w2,w3,w4,i1,i2,r1,r2,Nat.mul_one]) (by simp only[am,evOp,simprocAttr,e0,e2,e3,e8,c1,w0,w1,w2,w3,w4,i1,i2,r1,r2,Nat.mul_one]<;>rfl) (less_ok) fun v h' hq=>?_))
   obtain⟨rfl,rfl⟩:=hq
   refine G.run (by simp only[am,evOp,simprocAttr,c1]; rfl) ?_
   refine W.cond (t:=ltInt d1[first+(2*r+1)]! d1[first+(2*r+2)]!) (by simp only[am,evOp,simprocAttr]) (fun q3=>?_) fun q3=>?_
   ·refine W.run (by simp only[am,evOp,simprocAttr,w2]<;>rfl) ?_
    refine⟨2*r+2,.inr rfl,q2,hu,by simp only[am,evOp,simprocAttr,e0],by simp only[am,evOp,simprocAttr,e2],by simp only[am,evOp,simprocAttr,e3],by simp only[am,evOp,simprocAttr,e8],by simp only[am,evOp,simprocAttr],?_⟩
    conv=>lhs; rw[siftDown,dif_neg q,if_pos (by simp only[Bool.and_eq_true,decide_eq_true_eq]; exact⟨q2,q3⟩)]
    cases ltInt d1[first+r]! d1[first+(2*r+2)]! with
    | true=>simp [q2]
    | false=>simp
   ·refine W.skip ⟨2*r+1,.inl rfl,by omega,hu,by simp only[am,evOp,simprocAttr,e0],by simp only[am,evOp,simprocAttr,e2],by simp only[am,evOp,simprocAttr,e3],by simp only[am,evOp,simprocAttr,e8],by simp only[am,evOp,simprocAttr],?_⟩
    conv=>lhs; rw[siftDown,dif_neg q,if_neg (by simp only[Bool.and_eq_true,decide_eq_true_eq]; intro x; rw[show first+(2*r+1)+1=first+(2*r+2) by omega,q3] at x; exact absurd x.2 (by decide))]
    cases ltInt d1[first+r]! d1[first+(2*r+1)]! with
    | true=>simp
    | false=>simp
  ·have c1:decide (((2*r+2:Nat):Int)<((hi:Nat):Int))=false:=by simp; omega
   refine W.seq (W.reg (G.nocall 18 (by simp only[am,evOp,simprocAttr,e0,e2,e3,e8,c1,w0,w1,w2]; rfl) rfl (by simp only[am,evOp,simprocAttr,c1]) ?_))
   refine G.run (by simp only[am,evOp,simprocAttr,c1]; rfl) ?_
   refine W.no (by simp only[am,evOp,simprocAttr]) ?_
   refine W.skip ⟨2*r+1,.inl rfl,by omega,hu,by simp only[am,evOp,simprocAttr,e0],by simp only[am,evOp,simprocAttr,e2],by simp only[am,evOp,simprocAttr,e3],by simp only[am,evOp,simprocAttr,e8],by simp only[am,evOp,simprocAttr],?_⟩
   conv=>lhs; rw[siftDown,dif_neg q,if_neg (by simp only[Bool.and_eq_true,decide_eq_true_eq]; omega)]
   cases ltInt d1[first+r]! d1[first+(2*r+1)]! with
   | true=>simp
   | false=>simp
 clear e0 e2 e3 e8
 rintro ts h2 ⟨k,hk,hkh,hu2,e0,e2,e3,e8,e9,hE⟩
 have w3:IntKind.i64.wrap (((first:Nat):Int)+((r:Nat):Int))=((first+r:Nat):Int):=by rw[wr64 (by omega) (by omega)]; omega
 have w4:IntKind.i64.wrap (((first:Nat):Int)+((k:Nat):Int))=((first+k:Nat):Int):=by rw[wr64 (by omega) (by omega)]; omega
 have i1:idx? ((first+r:Nat):Int) d.size=some (first+r):=idx_nat (by omega)
 have i2:idx? ((first+k:Nat):Int) d.size=some (first+k):=idx_nat (by omega)
 have r1:=rd_blk (i:=first+r) hu2.get (by omega) (by omega)
 have r2:=rd_blk (i:=first+k) hu2.get (by omega) (by omega)
 refine W.seq (W.seq (W.reg (G.gcall 12 (by simp only[am,evOp,simprocAttr,e0,e2,e3,e8,e9,w3,w4,i1,i2,r1,r2,Nat.mul_one]<;>rfl) rfl (by simp only[am,evOp,simprocAttr,e0,e2,e3,e8,e9,w3,w4,i1,i2,r1,r2,Nat.mul_one]) (by simp only[am,evOp,simprocAttr,e0,e2,e3,e8,e9,w3,w4,i1,i2,r1,r2,Nat.mul_one]<;>rfl) (less_ok) fun v h' hq=>?_)))
 obtain⟨rfl,rfl⟩:=hq
 refine G.run (by simp only[am,evOp,simprocAttr]; rfl) ?_
 refine W.cond (t:=!ltInt d1[first+r]! d1[first+k]!) (by simp only[am,evOp,simprocAttr]) (fun q3=>?_) fun q3=>?_
 ·have q3:ltInt d1[first+r]! d1[first+k]! = false:=by simpa using q3
  refine W.ret ⟨.tup [],rfl,?_⟩
  have e:d1=siftDown ltInt hi first lo d:=by rw[← hD,hE,if_neg (by rw[q3]; decide)]
  rw[← e]
  exact hu2
 ·have q3:ltInt d1[first+r]! d1[first+k]! = true:=by simpa using q3
  obtain⟨m1,m2,s1,s2,u2⟩:=swp_blk (i:=first+r) (j:=first+k) hu2.get (by omega) (by omega) (by omega)
  refine W.skip (W.seq (W.run (by simp only[am,evOp,simprocAttr,e0,e2,e3,e8,e9,w3,w4,i1,i2,r1,r2,s1,s2,Nat.mul_one]<;>rfl) ?_))
  refine W.run (by simp only[am,evOp,simprocAttr,e9]<;>rfl) ?_
  exact⟨hi-k,by omega,k,swp d1 (first+r) (first+k),rfl,by omega,hu2.trans u2,by rw[swp_size',hz],by rw[← hD,hE,if_pos q3],by simp only[am,evOp,simprocAttr,e0],by simp only[am,evOp,simprocAttr,e2],by simp only[am,evOp,simprocAttr,e3],by simp only[am,evOp,simprocAttr,e9]⟩
theorem sift_size (lt:Int→Int→Bool) (hi first:Nat):∀ (n r:Nat) (d:Array Int),hi-r≤n→(siftDown lt hi first r d).size=d.size
 | n,r,d,hn=>by
   unfold siftDown
   repeat' split
   ·rfl
   ·rfl
   ·cases n with
    | zero=>omega
    | succ n=>rw[sift_size lt hi first n _ _ (by omega),swp_size']
   ·rfl
   ·rfl
   ·cases n with
    | zero=>omega
    | succ n=>rw[sift_size lt hi first n _ _ (by omega),swp_size']
theorem build_size (lt:Int→Int→Bool) (hi first:Nat):∀ (k:Nat) (d:Array Int),(heapBuild lt hi first k d).size=d.size
 | 0,_=>rfl
 | k+1,d=>by rw[heapBuild,build_size lt hi first k,sift_size lt hi first _ _ _ (Nat.le_refl _)]
theorem tdiv2 {n:Nat}:(((n:Nat):Int)-1).tdiv 2=if n=0 then 0 else (((n-1) / 2:Nat):Int):=by
 cases n with
 | zero=>rfl
 | succ n =>
   have e:((n+1:Nat):Int)-1=(n:Nat):=by omega
   rw[if_neg (by omega),e,Int.tdiv_eq_ediv_of_nonneg (by omega)]
   rfl
theorem heap_ok {h:AH}{b o c a m:Nat}{cs:List AV}{d:Array Int} (hg:h.get b=some (blkI cs o d)) (hr:o+d.size≤cs.length) (ham:a≤m) (hm:m≤d.size) (hs:d.size<2 ^ 40) :
 C prg 119 [.sl b o d.size c,.int .i64 (a:Nat),.int .i64 (m:Nat)] h fun v h'=>Upd h h' b (blkI cs o (heapSort ltInt d a m)):=by
 refine C.func pf119 ?_
 refine W.seq (W.run (by simp only[am,evOp,simprocAttr,initTm]<;>rfl) ?_)
 refine W.seq (W.run (by simp only[am,evOp,simprocAttr,initTm]<;>rfl) ?_)
 have w0:IntKind.i64.wrap (((m:Nat):Int)-((a:Nat):Int))=((m-a:Nat):Int):=by rw[wr64 (by omega) (by omega)]; omega
 refine W.seq (W.run (by simp only[am,evOp,simprocAttr,initTm,w0]<;>rfl) ?_)
 have w1:IntKind.i64.wrap (((m-a:Nat):Int)-1)=((m-a:Nat):Int)-1:=wr64 (by omega) (by omega)
 have w2:IntKind.i64.wrap ((((m-a:Nat):Int)-1).tdiv 2)=(((m-a-1) / 2+1:Nat):Int)-1:=by
  rw[tdiv2]
  split
  ·rename_i e; rw[e]; rfl
  ·rw[wr64 (by omega) (by omega)]; omega
 have z2:¬ (2:Int)=0:=by decide
 refine W.seq (W.seq (W.run (by simp only[am,evOp,simprocAttr,initTm,w0,w1,w2,z2]<;>rfl) ?_))
 refine W.cut (fun ts h1=>Upd h h1 b (blkI cs o (heapBuild ltInt (m-a) a ((m-a-1) / 2+1) d))∧tget ts 0=.sl b o d.size c∧tget ts 6=.int .i64 (a:Nat)∧tget ts 7=.int .i64 0∧tget ts 8=.int .i64 ((m-a:Nat):Int))
  (W.block (W.loop (fun n ts h1=>∃ d1,Upd h h1 b (blkI cs o d1)∧d1.size=d.size∧n≤(m-a-1) / 2+1∧heapBuild ltInt (m-a) a n d1=heapBuild ltInt (m-a) a ((m-a-1) / 2+1) d∧tget ts 0=.sl b o d.size c∧tget ts 6=.int .i64 (a:Nat)∧tget ts 7=.int .i64 0∧tget ts 8=.int .i64 ((m-a:Nat):Int)∧tget ts 9=.int .i64 (((n:Nat):Int)-1)) ?_ (n:=(m-a-1) / 2+1)
   ⟨d,Upd.refl hg,rfl,Nat.le_refl _,rfl,by simp only[am,evOp,simprocAttr,initTm],by simp only[am,evOp,simprocAttr,initTm],by simp only[am,evOp,simprocAttr,initTm],by simp only[am,evOp,simprocAttr,initTm],by simp only[am,evOp,simprocAttr,initTm]⟩)) ?_
 ·rintro n ts h1 ⟨d1,hu,hz,hn,hD,e0,e6,e7,e8,e9⟩
  refine W.seq (W.seq (W.run (by simp only[am,evOp,simprocAttr,e9]<;>rfl) ?_))
  refine W.cond (t:=decide (0<n)) (by simp only[am,evOp,simprocAttr]; exact congrArg AV.bool (by simp only[decide_eq_decide]; omega)) (fun q=>?_) fun q=>?_
  ·have q:0<n:=of_decide_eq_true q
   obtain⟨n,rfl⟩:∃ k,n=k+1:=⟨n-1,by omega⟩
   have e1:((n+1:Nat):Int)-1=((n:Nat):Int):=by omega
   rw[e1] at e9
   have w3:IntKind.i64.wrap (((n:Nat):Int)-1)=((n:Nat):Int)-1:=wr64 (by omega) (by omega)
   have hsift:=sift_ok (c:=c) (lo:=n) (hi:=m-a) (first:=a) hu.get (by omega) (by omega) (by omega) (by omega)
   rw[hz] at hsift
   refine W.skip (W.seq (W.block (W.reg (G.gcall 4 (by simp only[am,evOp,simprocAttr,e0,e6,e7,e8,e9]<;>rfl) rfl (by simp only[am,evOp,simprocAttr,e0,e6,e7,e8,e9]) (by simp only[am,evOp,simprocAttr,e0,e6,e7,e8,e9]<;>rfl) (hsift) fun v h2 hu2=>?_))))
   refine G.run (by simp only[am,evOp,simprocAttr]; rfl) ?_
   refine W.run (by simp only[am,evOp,simprocAttr,e9,w3]<;>rfl) ?_
   exact⟨n,by omega,siftDown ltInt (m-a) a n d1,hu.trans hu2,by rw[sift_size _ _ _ _ _ _ (Nat.le_refl _),hz],by omega,by rw[← hD,heapBuild],by simp only[am,evOp,simprocAttr,e0],by simp only[am,evOp,simprocAttr,e6],by simp only[am,evOp,simprocAttr,e7],by simp only[am,evOp,simprocAttr,e8],by simp only[am,evOp,simprocAttr,e9,w3]⟩
  ·have q:n=0:=by have:=of_decide_eq_false q; omega
   subst q
   refine W.exit ⟨fun _=>⟨?_,by simp only[am,evOp,simprocAttr,e0],by simp only[am,evOp,simprocAttr,e6],by simp only[am,evOp,simprocAttr,e7],by simp only[am,evOp,simprocAttr,e8]⟩,fun e=>absurd rfl e⟩
   rw[← hD,heapBuild]
   exact hu
 rintro ts h1 ⟨hu,e0,e6,e7,e8⟩
 generalize hB:heapBuild ltInt (m-a) a ((m-a-1) / 2+1) d=dB at hu
 have hzB:dB.size=d.size:=by rw[← hB,build_size]
 have hfin:heapSort ltInt d a m=heapPop ltInt a (m-a) dB:=by rw[heapSort,hB]
 rw[hfin]
 refine W.seq (W.run (by simp only[am,evOp,simprocAttr,e8,w1]<;>rfl) ?_)
 refine W.block (W.loop (fun n ts h1=>∃ d1,Upd h h1 b (blkI cs o d1)∧d1.size=d.size∧n≤m-a∧heapPop ltInt a n d1=heapPop ltInt a (m-a) dB∧tget ts 0=.sl b o d.size c∧tget ts 6=.int .i64 (a:Nat)∧tget ts 7=.int .i64 0∧tget ts 8=.int .i64 ((m-a:Nat):Int)∧tget ts 10=.int .i64 (((n:Nat):Int)-1)) ?_ (n:=m-a)
  ⟨dB,hu,hzB,Nat.le_refl _,rfl,by simp only[am,evOp,simprocAttr,e0],by simp only[am,evOp,simprocAttr,e6],by simp only[am,evOp,simprocAttr,e7],by simp only[am,evOp,simprocAttr,e8],by simp only[am,evOp,simprocAttr,e8,w1]⟩)
 clear e0 e6 e7 e8
 rintro n ts h1 ⟨d1,hu,hz,hn,hD,e0,e6,e7,e8,e10⟩
 refine W.seq (W.seq (W.run (by simp only[am,evOp,simprocAttr,e10]<;>rfl) ?_))
 refine W.cond (t:=decide (0<n)) (by simp only[am,evOp,simprocAttr]; exact congrArg AV.bool (by simp only[decide_eq_decide]; omega)) (fun q=>?_) fun q=>?_
 ·have q:0<n:=of_decide_eq_true q
  obtain⟨n,rfl⟩:∃ k,n=k+1:=⟨n-1,by omega⟩
  have e1:((n+1:Nat):Int)-1=((n:Nat):Int):=by omega
  rw[e1] at e10
  have w3:IntKind.i64.wrap (((n:Nat):Int)-1)=((n:Nat):Int)-1:=wr64 (by omega) (by omega)
  have w4:IntKind.i64.wrap (((a:Nat):Int)+((n:Nat):Int))=((a+n:Nat):Int):=by rw[wr64 (by omega) (by omega)]; omega
  have i1:idx? ((a+n:Nat):Int) d.size=some (a+n):=idx_nat (by omega)
  have i2:idx? ((a:Nat):Int) d.size=some a:=idx_nat (by omega)
  have r1:=rd_blk (i:=a+n) hu.get (by omega) (by omega)
  have r2:=rd_blk (i:=a) hu.get (by omega) (by omega)
  obtain⟨m1,m2,s1,s2,u2⟩:=swp_blk (i:=a) (j:=a+n) hu.get (by omega) (by omega) (by omega)
  have hsz:(swp d1 a (a+n)).size=d.size:=by rw[swp_size',hz]
  have hsift:=sift_ok (c:=c) (lo:=0) (hi:=n) (first:=a) u2.get (by omega) (by omega) (by omega) (by omega)
  rw[hsz] at hsift
  refine W.skip (W.seq (W.block (W.seq (W.run (by simp only[am,evOp,simprocAttr,e0,e6,e7,e8,e10,w4,i1,i2,r1,r2,s1,s2,Nat.mul_one]<;>rfl) ?_))))
  refine W.reg (G.gcall 4 (by simp only[am,evOp,simprocAttr,e0,e6,e7,e8,e10]<;>rfl) rfl (by simp only[am,evOp,simprocAttr,e0,e6,e7,e8,e10]) (by simp only[am,evOp,simprocAttr,e0,e6,e7,e8,e10]<;>rfl) (hsift) fun v h2 hu2=>?_)
  refine G.run (by simp only[am,evOp,simprocAttr]; rfl) ?_
  refine W.run (by simp only[am,evOp,simprocAttr,e10,w3]<;>rfl) ?_
  exact⟨n,by omega,siftDown ltInt n a 0 (swp d1 a (a+n)),(hu.trans u2).trans hu2,by rw[sift_size _ _ _ _ _ _ (Nat.le_refl _),hsz],by omega,by rw[← hD,heapPop],by simp only[am,evOp,simprocAttr,e0],by simp only[am,evOp,simprocAttr,e6],by simp only[am,evOp,simprocAttr,e7],by simp only[am,evOp,simprocAttr,e8],by simp only[am,evOp,simprocAttr,e10,w3]⟩
 ·have q:n=0:=by have:=of_decide_eq_false q; omega
  subst q
  refine W.exit ⟨fun _=>⟨.tup [],rfl,?_⟩,fun e=>absurd rfl e⟩
  rw[← hD,heapPop]
  exact hu
end Go.Proofs.YtihedjolidbfiaaGreatDoor
namespace Go.Proofs.YtihedjolidbfiaaGreatDoor
open Go.Am
open Go.Sort (swp ltInt reverseLoop reverseRange scanUp scanDown partLoop partition partEqLoop partitionEqual scanUp_spec scanDown_spec scanUp_ge scanDown_le partLoop_eq partEqLoop_eq)
theorem scan_lt (p q:Int→Bool) (hq:∀ x,q x=!p x) (d:Array Int) {i j:Nat} (h0:0<i) (hij:i≤j+1) (h:¬ scanDown q d (scanUp p d j i) j<scanUp p d j i):scanUp p d j i<scanDown q d (scanUp p d j i) j :=
 ((Go.Sort.round_facts p q hq d (i-1) (j+1) i j (by omega) hij (fun t h1 h2=>by omega) (fun t h1 h2=>by omega)).2.2.2.2.2.2 h).2.2
theorem sdown_ge (p:Int→Bool) (d:Array Int) (i:Nat):∀ j:Nat,i≤j+1→i≤scanDown p d i j+1
 | 0,h=>h
 | j+1,h=>by
   unfold scanDown
   split
   ·rename_i q
    simp only[Bool.and_eq_true,decide_eq_true_eq] at q
    exact sdown_ge p d i j q.1
   ·exact h
theorem rev_ok {h:AH}{b o c a m:Nat}{cs:List AV}{d:Array Int} (hg:h.get b=some (blkI cs o d)) (hr:o+d.size≤cs.length) (ham:a<m) (hm:m≤d.size) (hs:d.size<2 ^ 40) :
 C prg 122 [.sl b o d.size c,.int .i64 (a:Nat),.int .i64 (m:Nat)] h fun v h'=>Upd h h' b (blkI cs o (reverseRange d a m)):=by
 refine C.func pf122 ?_
 have w0:IntKind.i64.wrap (((m:Nat):Int)-1)=((m-1:Nat):Int):=by rw[wr64 (by omega) (by omega)]; omega
 refine W.seq (W.run (by simp only[am,evOp,simprocAttr,initTm]<;>rfl) ?_)
 refine W.seq (W.run (by simp only[am,evOp,simprocAttr,initTm,w0]<;>rfl) ?_)
 refine W.block (W.loop (fun n ts h1=>∃ (i j:Nat) (d1:Array Int),n=j-i∧a≤i∧j<m∧Upd h h1 b (blkI cs o d1)∧d1.size=d.size∧reverseLoop i j d1=reverseRange d a m∧tget ts 0=.sl b o d.size c∧tget ts 6=.int .i64 (i:Nat)∧tget ts 7=.int .i64 (j:Nat)) ?_ (n:=m-1-a)
  ⟨a,m-1,d,rfl,Nat.le_refl _,by omega,Upd.refl hg,rfl,rfl,by simp only[am,evOp,simprocAttr,initTm],by simp only[am,evOp,simprocAttr,initTm],by simp only[am,evOp,simprocAttr,initTm,w0]⟩)
 rintro n ts h1 ⟨i,j,d1,rfl,hi,hj,hu,hz,hD,e0,e6,e7⟩
 refine W.seq (W.seq (W.run (by simp only[am,evOp,simprocAttr,e0,e6,e7]<;>rfl) ?_))
 refine W.cond (t:=decide (i<j)) (by simp only[am,evOp,simprocAttr,Int.ofNat_lt]) (fun q=>?_) fun q=>?_
 ·have q:i<j:=of_decide_eq_true q
  have x1:idx? ((i:Nat):Int) d.size=some i:=idx_nat (by omega)
  have x2:idx? ((j:Nat):Int) d.size=some j:=idx_nat (by omega)
  have r1:=rd_blk (i:=i) hu.get (by omega) (by omega)
  have r2:=rd_blk (i:=j) hu.get (by omega) (by omega)
  obtain⟨m1,m2,s1,s2,u2⟩:=swp_blk (i:=i) (j:=j) hu.get (by omega) (by omega) (by omega)
  refine W.skip (W.block (W.seq (W.run (by simp only[am,evOp,simprocAttr,e0,e6,e7,x1,x2,r1,r2,s1,s2,Nat.mul_one]<;>rfl) ?_)))
  have w1:IntKind.i64.wrap (((i:Nat):Int)+1)=((i+1:Nat):Int):=wr64 (by omega) (by omega)
  have w2:IntKind.i64.wrap (((j:Nat):Int)-1)=((j-1:Nat):Int):=by rw[wr64 (by omega) (by omega)]; omega
  refine W.seq (W.run (by simp only[am,evOp,simprocAttr,e0,e6,e7,w1]<;>rfl) ?_)
  refine W.run (by simp only[am,evOp,simprocAttr,e0,e6,e7,w2]<;>rfl) ?_
  refine⟨j-1-(i+1),by omega,i+1,j-1,swp d1 i j,rfl,by omega,by omega,hu.trans u2,by rw[swp_size',hz],?_,by simp only[am,evOp,simprocAttr,e0],by simp only[am,evOp,simprocAttr,e6,w1],by simp only[am,evOp,simprocAttr,e7,w2]⟩
  rw[← hD]
  conv=>rhs; rw[reverseLoop,if_pos q]
 ·have q:¬ i<j:=of_decide_eq_false q
  refine W.exit ⟨fun _=>⟨.tup [],rfl,?_⟩,fun e=>absurd rfl e⟩
  have e:d1=reverseRange d a m:=by rw[← hD,reverseLoop,if_neg q]
  rw[← e]
  exact hu
theorem part_ok {h:AH}{b o c a m piv:Nat}{cs:List AV}{d:Array Int} (hg:h.get b=some (blkI cs o d)) (hr:o+d.size≤cs.length) (hp:a≤piv) (hpm:piv<m) (hm:m≤d.size) (hs:d.size<2 ^ 40) :
 C prg 125 [.sl b o d.size c,.int .i64 (a:Nat),.int .i64 (m:Nat),.int .i64 (piv:Nat)] h fun v h'=>v=.tup [.int .i64 ((partition ltInt d a m piv).1:Nat),.bool (partition ltInt d a m piv).2.1]∧Upd h h' b (blkI cs o (partition ltInt d a m piv).2.2):=by
 refine C.func pf125 ?_
 refine W.seq (W.run (by simp only[am,evOp,simprocAttr,initTm]<;>rfl) ?_)
 have w0:IntKind.i64.wrap (((m:Nat):Int)-1)=((m-1:Nat):Int):=by rw[wr64 (by omega) (by omega)]; omega
 have w1:IntKind.i64.wrap (((a:Nat):Int)+1)=((a+1:Nat):Int):=wr64 (by omega) (by omega)
 have hu0:=Upd.refl hg
 have x1:idx? ((a:Nat):Int) d.size=some a:=idx_nat (by omega)
 have x2:idx? ((piv:Nat):Int) d.size=some piv:=idx_nat (by omega)
 have r1:=rd_blk (i:=a) hu0.get (by omega) (by omega)
 have r2:=rd_blk (i:=piv) hu0.get (by omega) (by omega)
 obtain⟨m1,m2,s1,s2,u2⟩:=swp_blk (i:=a) (j:=piv) hu0.get (by omega) (by omega) (by omega)
 refine W.seq (W.run (by simp only[am,evOp,simprocAttr,initTm,x1,x2,r1,r2,s1,s2,Nat.mul_one]<;>rfl) ?_)
 refine W.seq (W.runs (fun ts h1=>h1=m2∧tget ts 0=.sl b o d.size c∧tget ts 1=.int .i64 (a:Nat)∧tget ts 10=.int .i64 ((a+1:Nat):Int)∧tget ts 11=.int .i64 ((m-1:Nat):Int)) (by simp only[am,evOp,simprocAttr,initTm,w0,w1]) ?_)
 have hu:=u2
 have hz:(swp d a piv).size=d.size:=swp_size' ..
 have hP1:partition ltInt d a m piv=if (scanDown (fun x=>!ltInt x (swp d a piv)[a]!) (swp d a piv) (scanUp (fun x=>ltInt x (swp d a piv)[a]!) (swp d a piv) (m-1) (a+1)) (m-1))<(scanUp (fun x=>ltInt x (swp d a piv)[a]!) (swp d a piv) (m-1) (a+1)) then ((scanDown (fun x=>!ltInt x (swp d a piv)[a]!) (swp d a piv) (scanUp (fun x=>ltInt x (swp d a piv)[a]!) (swp d a piv) (m-1) (a+1)) (m-1)),true,swp (swp d a piv) (scanDown (fun x=>!ltInt x (swp d a piv)[a]!) (swp d a piv) (scanUp (fun x=>ltInt x (swp d a piv)[a]!) (swp d a piv) (m-1) (a+1)) (m-1)) a) else ((partLoop ltInt a ((scanUp (fun x=>ltInt x (swp d a piv)[a]!) (swp d a piv) (m-1) (a+1))+1) ((scanDown (fun x=>!ltInt x (swp d a piv)[a]!) (swp d a piv) (scanUp (fun x=>ltInt x (swp d a piv)[a]!) (swp d a piv) (m-1) (a+1)) (m-1))-1) (swp (swp d a piv) (scanUp (fun x=>ltInt x (swp d a piv)[a]!) (swp d a piv) (m-1) (a+1)) (scanDown (fun x=>!ltInt x (swp d a piv)[a]!) (swp d a piv) (scanUp (fun x=>ltInt x (swp d a piv)[a]!) (swp d a piv) (m-1) (a+1)) (m-1)))).1,false,swp (partLoop ltInt a ((scanUp (fun x=>ltInt x (swp d a piv)[a]!) (swp d a piv) (m-1) (a+1))+1) ((scanDown (fun x=>!ltInt x (swp d a piv)[a]!) (swp d a piv) (scanUp (fun x=>ltInt x (swp d a piv)[a]!) (swp d a piv) (m-1) (a+1)) (m-1))-1) (swp (swp d a piv) (scanUp (fun x=>ltInt x (swp d a piv)[a]!) (swp d a piv) (m-1) (a+1)) (scanDown (fun x=>!ltInt x (swp d a piv)[a]!) (swp d a piv) (scanUp (fun x=>ltInt x (swp d a piv)[a]!) (swp d a piv) (m-1) (a+1)) (m-1)))).2 (partLoop ltInt a ((scanUp (fun x=>ltInt x (swp d a piv)[a]!) (swp d a piv) (m-1) (a+1))+1) ((scanDown (fun x=>!ltInt x (swp d a piv)[a]!) (swp d a piv) (scanUp (fun x=>ltInt x (swp d a piv)[a]!) (swp d a piv) (m-1) (a+1)) (m-1))-1) (swp (swp d a piv) (scanUp (fun x=>ltInt x (swp d a piv)[a]!) (swp d a piv) (m-1) (a+1)) (scanDown (fun x=>!ltInt x (swp d a piv)[a]!) (swp d a piv) (scanUp (fun x=>ltInt x (swp d a piv)[a]!) (swp d a piv) (m-1) (a+1)) (m-1)))).1 a):=rfl
 rw[hP1]
 clear hP1 u2 s1 s2 r1 r2 x1 x2 hu0 hg
 generalize swp d a piv=d1 at *
 rintro ts h1 ⟨rfl,e0,e1,em,ef⟩
 have hj0:m-1<m:=by omega
 generalize hj:m-1=j at *
 have ha1:a+1≤j+1:=by omega
 generalize hi:a+1=i at *
 refine W.seq (W.cut (fun ts h2=>h1=h2∧tget ts 0=.sl b o d.size c∧tget ts 1=.int .i64 (a:Nat)∧tget ts 10=.int .i64 (scanUp (fun x=>ltInt x d1[a]!) d1 j i:Nat)∧tget ts 11=.int .i64 (j:Nat))
  (W.block (W.loop (fun n ts h2=>h2=h1∧∃ k,n=j+1-k∧i≤k∧k≤j+1∧scanUp (fun x=>ltInt x d1[a]!) d1 j k=scanUp (fun x=>ltInt x d1[a]!) d1 j i∧tget ts 0=.sl b o d.size c∧tget ts 1=.int .i64 (a:Nat)∧tget ts 10=.int .i64 (k:Nat)∧tget ts 11=.int .i64 (j:Nat)) ?_ (n:=j+1-i) ⟨rfl,i,rfl,by omega,by omega,rfl,by simp only[am,evOp,simprocAttr,e0,e1,em,ef],by simp only[am,evOp,simprocAttr,e0,e1,em,ef],by simp only[am,evOp,simprocAttr,e0,e1,em,ef],by simp only[am,evOp,simprocAttr,e0,e1,em,ef]⟩)) ?_)
 ·clear e0 e1 em ef
  rintro n ts h2 ⟨rfl,k,rfl,hk,hk2,hS,e0,e1,em,ef⟩
  by_cases q:k≤j
  ·have c1:decide (((k:Nat):Int)≤((j:Nat):Int))=true:=by simp only[decide_eq_true_eq]; omega
   have x1:idx? ((k:Nat):Int) d.size=some k:=idx_nat (by omega)
   have x2:idx? ((a:Nat):Int) d.size=some a:=idx_nat (by omega)
   have r1:=rd_blk (i:=k) hu.get (by omega) (by omega)
   have r2:=rd_blk (i:=a) hu.get (by omega) (by omega)
   refine W.seq (W.seq (W.reg (G.gcall 12 (by simp only[am,evOp,simprocAttr,e0,e1,em,ef,c1,x1,x2,r1,r2,Nat.mul_one]<;>rfl) rfl (by simp only[am,evOp,simprocAttr,e0,e1,em,ef,c1,x1,x2,r1,r2,Nat.mul_one]) (by simp only[am,evOp,simprocAttr,e0,e1,em,ef,c1,x1,x2,r1,r2,Nat.mul_one]<;>rfl) (less_ok) fun v h3 hq=>?_)))
   obtain⟨rfl,rfl⟩:=hq
   refine G.run (by simp only[am,evOp,simprocAttr,c1]<;>rfl) ?_
   refine W.cond (t:=ltInt d1[k]! d1[a]!) (by simp only[am,evOp,simprocAttr]) (fun q2=>?_) fun q2=>?_
   ·have w1:IntKind.i64.wrap (((k:Nat):Int)+1)=((k+1:Nat):Int):=wr64 (by omega) (by omega)
    refine W.skip (W.block (W.run (by simp only[am,evOp,simprocAttr,e0,e1,em,ef,w1]<;>rfl) ?_))
    refine⟨j+1-(k+1),by omega,rfl,k+1,rfl,by omega,by omega,?_,by simp only[am,evOp,simprocAttr,e0,e1,em,ef],by simp only[am,evOp,simprocAttr,e0,e1,em,ef],by simp only[am,evOp,simprocAttr,e0,e1,em,ef,w1],by simp only[am,evOp,simprocAttr,e0,e1,em,ef]⟩
    rw[← hS]
    conv=>rhs; rw[scanUp,if_pos (by simp only[Bool.and_eq_true,decide_eq_true_eq]; exact⟨q,q2⟩)]
   ·refine W.exit ⟨fun _=>⟨rfl,by simp only[am,evOp,simprocAttr,e0,e1,em,ef],by simp only[am,evOp,simprocAttr,e0,e1,em,ef],?_,by simp only[am,evOp,simprocAttr,e0,e1,em,ef]⟩,fun e=>absurd rfl e⟩
    rw[← hS,scanUp,if_neg (by simp only[Bool.and_eq_true,decide_eq_true_eq]; rintro⟨_,x⟩; exact absurd (q2.symm.trans x) (by decide))]
    simp only[am,evOp,simprocAttr,e0,e1,em,ef]
  ·have c1:decide (((k:Nat):Int)≤((j:Nat):Int))=false:=by simp only[decide_eq_false_iff_not]; omega
   refine W.seq (W.seq (W.reg (G.nocall 12 (by simp only[am,evOp,simprocAttr,e0,e1,em,ef,c1]<;>rfl) rfl (by simp only[am,evOp,simprocAttr,c1]) ?_)))
   refine G.run (by simp only[am,evOp,simprocAttr,c1]<;>rfl) ?_
   refine W.no (by simp only[am,evOp,simprocAttr]) (W.exit ⟨fun _=>⟨rfl,by simp only[am,evOp,simprocAttr,e0,e1,em,ef],by simp only[am,evOp,simprocAttr,e0,e1,em,ef],?_,by simp only[am,evOp,simprocAttr,e0,e1,em,ef]⟩,fun e=>absurd rfl e⟩)
   rw[← hS,scanUp,if_neg (by simp only[Bool.and_eq_true,decide_eq_true_eq]; rintro⟨x,_⟩; exact q x)]
   simp only[am,evOp,simprocAttr,e0,e1,em,ef]
 clear e0 e1 em ef
 rintro ts h2 ⟨rfl,e0,e1,em,ef⟩
 have s1:=scanUp_spec (fun x=>ltInt x d1[a]!) d1 j _ i rfl
 have s4:=scan_lt (fun x=>ltInt x d1[a]!) (fun x=>!ltInt x d1[a]!) (fun _=>rfl) d1 (i:=i) (j:=j) (by omega) (by omega)
 generalize scanUp (fun x=>ltInt x d1[a]!) d1 j i=i2 at *
 have ef':=ef
 have em':=em
 clear em ef
 have em:=ef'
 have ef:=em'
 clear ef' em'
 refine W.seq (W.cut (fun ts h2=>h1=h2∧tget ts 0=.sl b o d.size c∧tget ts 1=.int .i64 (a:Nat)∧tget ts 11=.int .i64 (scanDown (fun x=>!ltInt x d1[a]!) d1 i2 j:Nat)∧tget ts 10=.int .i64 (i2:Nat))
  (W.block (W.loop (fun n ts h2=>h2=h1∧∃ k,k=n∧k≤j∧i2≤k+1∧scanDown (fun x=>!ltInt x d1[a]!) d1 i2 k=scanDown (fun x=>!ltInt x d1[a]!) d1 i2 j∧tget ts 0=.sl b o d.size c∧tget ts 1=.int .i64 (a:Nat)∧tget ts 11=.int .i64 (k:Nat)∧tget ts 10=.int .i64 (i2:Nat)) ?_ (n:=j) ⟨rfl,j,rfl,by omega,by omega,rfl,by simp only[am,evOp,simprocAttr,e0,e1,em,ef],by simp only[am,evOp,simprocAttr,e0,e1,em,ef],by simp only[am,evOp,simprocAttr,e0,e1,em,ef],by simp only[am,evOp,simprocAttr,e0,e1,em,ef]⟩)) ?_)
 ·clear e0 e1 em ef
  rintro n ts h2 ⟨rfl,k,rfl,hk,hk2,hS,e0,e1,em,ef⟩
  by_cases q:i2≤k
  ·have c1:decide (((i2:Nat):Int)≤((k:Nat):Int))=true:=by simp only[decide_eq_true_eq]; omega
   have x1:idx? ((k:Nat):Int) d.size=some k:=idx_nat (by omega)
   have x2:idx? ((a:Nat):Int) d.size=some a:=idx_nat (by omega)
   have r1:=rd_blk (i:=k) hu.get (by omega) (by omega)
   have r2:=rd_blk (i:=a) hu.get (by omega) (by omega)
   refine W.seq (W.seq (W.reg (G.gcall 12 (by simp only[am,evOp,simprocAttr,e0,e1,em,ef,c1,x1,x2,r1,r2,Nat.mul_one]<;>rfl) rfl (by simp only[am,evOp,simprocAttr,e0,e1,em,ef,c1,x1,x2,r1,r2,Nat.mul_one]) (by simp only[am,evOp,simprocAttr,e0,e1,em,ef,c1,x1,x2,r1,r2,Nat.mul_one]<;>rfl) (less_ok) fun v h3 hq=>?_)))
   obtain⟨rfl,rfl⟩:=hq
   refine G.run (by simp only[am,evOp,simprocAttr,c1]<;>rfl) ?_
   refine W.cond (t:=!ltInt d1[k]! d1[a]!) (by simp only[am,evOp,simprocAttr]) (fun q2=>?_) fun q2=>?_
   ·obtain⟨k,rfl⟩:∃ m,k=m+1:=⟨k-1,by omega⟩
    have w1:IntKind.i64.wrap (((k+1:Nat):Int)-1)=((k:Nat):Int):=by rw[wr64 (by omega) (by omega)]; omega
    refine W.skip (W.block (W.run (by simp only[am,evOp,simprocAttr,e0,e1,em,ef,w1]<;>rfl) ?_))
    refine⟨k,by omega,rfl,k,rfl,by omega,by omega,?_,by simp only[am,evOp,simprocAttr,e0,e1,em,ef],by simp only[am,evOp,simprocAttr,e0,e1,em,ef],by simp only[am,evOp,simprocAttr,e0,e1,em,ef,w1],by simp only[am,evOp,simprocAttr,e0,e1,em,ef]⟩
    rw[← hS]
    conv=>rhs; rw[scanDown,if_pos (by simp only[Bool.and_eq_true,decide_eq_true_eq]; exact⟨q,q2⟩)]
   ·refine W.exit ⟨fun _=>⟨rfl,by simp only[am,evOp,simprocAttr,e0,e1,em,ef],by simp only[am,evOp,simprocAttr,e0,e1,em,ef],?_,by simp only[am,evOp,simprocAttr,e0,e1,em,ef]⟩,fun e=>absurd rfl e⟩
    obtain⟨k,rfl⟩:∃ m,k=m+1:=⟨k-1,by omega⟩
    rw[← hS,scanDown,if_neg (by simp only[Bool.and_eq_true,decide_eq_true_eq]; rintro⟨_,x⟩; exact absurd (q2.symm.trans x) (by decide))]
    simp only[am,evOp,simprocAttr,e0,e1,em,ef]
  ·have c1:decide (((i2:Nat):Int)≤((k:Nat):Int))=false:=by simp only[decide_eq_false_iff_not]; omega
   refine W.seq (W.seq (W.reg (G.nocall 12 (by simp only[am,evOp,simprocAttr,e0,e1,em,ef,c1]<;>rfl) rfl (by simp only[am,evOp,simprocAttr,c1]) ?_)))
   refine G.run (by simp only[am,evOp,simprocAttr,c1]<;>rfl) ?_
   refine W.no (by simp only[am,evOp,simprocAttr]) (W.exit ⟨fun _=>⟨rfl,by simp only[am,evOp,simprocAttr,e0,e1,em,ef],by simp only[am,evOp,simprocAttr,e0,e1,em,ef],?_,by simp only[am,evOp,simprocAttr,e0,e1,em,ef]⟩,fun e=>absurd rfl e⟩)
   have:scanDown (fun x=>!ltInt x d1[a]!) d1 i2 k=k:=by
    cases k with
    | zero=>rfl
    | succ k=>rw[scanDown,if_neg (by simp only[Bool.and_eq_true,decide_eq_true_eq]; rintro⟨x,_⟩; exact q x)]
   rw[← hS,this]
   simp only[am,evOp,simprocAttr,e0,e1,em,ef]
 clear e0 e1 em ef
 rintro ts h2 ⟨rfl,e0,e1,em,ef⟩
 have s2:=scanDown_le (fun x=>!ltInt x d1[a]!) d1 i2 j
 have s3:i2≤scanDown (fun x=>!ltInt x d1[a]!) d1 i2 j+1:=sdown_ge _ _ _ _ (by omega)
 generalize scanDown (fun x=>!ltInt x d1[a]!) d1 i2 j=j2 at *
 refine W.seq (W.seq (W.run (by simp only[am,evOp,simprocAttr,e0,e1,em,ef]<;>rfl) ?_))
 refine W.cond (t:=decide (j2<i2)) (by simp only[am,evOp,simprocAttr,Int.ofNat_lt]) (fun q=>?_) fun q=>?_
 ·have q:j2<i2:=of_decide_eq_true q
  rw[if_pos q]
  have x1:idx? ((j2:Nat):Int) d.size=some j2:=idx_nat (by omega)
  have x2:idx? ((a:Nat):Int) d.size=some a:=idx_nat (by omega)
  have r1:=rd_blk (i:=j2) hu.get (by omega) (by omega)
  have r2:=rd_blk (i:=a) hu.get (by omega) (by omega)
  obtain⟨m1,m2,s1,s2,u2⟩:=swp_blk (i:=j2) (j:=a) hu.get (by omega) (by omega) (by omega)
  refine W.seq (W.run (by simp only[am,evOp,simprocAttr,e0,e1,em,ef,x1,x2,r1,r2,s1,s2,Nat.mul_one]<;>rfl) ?_)
  refine W.seq (W.run (by simp only[am,evOp,simprocAttr,e0,e1,em,ef]<;>rfl) ?_)
  exact W.ret ⟨_,(by simp only[rs,rf125,am,evOp,simprocAttr,e0,e1,em,ef]<;>rfl),rfl,hu.trans u2⟩
 ·have q:¬ j2<i2:=of_decide_eq_false q
  have s5:=s4 q
  rw[if_neg q]
  have x1:idx? ((i2:Nat):Int) d.size=some i2:=idx_nat (by omega)
  have x2:idx? ((j2:Nat):Int) d.size=some j2:=idx_nat (by omega)
  have r1:=rd_blk (i:=i2) hu.get (by omega) (by omega)
  have r2:=rd_blk (i:=j2) hu.get (by omega) (by omega)
  obtain⟨m1,m2,s1,s2,u2⟩:=swp_blk (i:=i2) (j:=j2) hu.get (by omega) (by omega) (by omega)
  have w2:IntKind.i64.wrap (((i2:Nat):Int)+1)=((i2+1:Nat):Int):=wr64 (by omega) (by omega)
  have w3:IntKind.i64.wrap (((j2:Nat):Int)-1)=((j2-1:Nat):Int):=by rw[wr64 (by omega) (by omega)]; omega
  refine W.skip (W.seq (W.run (by simp only[am,evOp,simprocAttr,e0,e1,em,ef,x1,x2,r1,r2,s1,s2,Nat.mul_one]<;>rfl) ?_))
  refine W.seq (W.run (by simp only[am,evOp,simprocAttr,e0,e1,em,ef,w2]<;>rfl) ?_)
  refine W.seq (W.run (by simp only[am,evOp,simprocAttr,e0,e1,em,ef,w3]<;>rfl) ?_)
  have hu':=hu.trans u2
  have hz':(swp d1 i2 j2).size=d.size:=by rw[swp_size',hz]
  have hi3:a<i2+1:=by omega
  have hij:i2+1≤j2-1+1:=by omega
  have hjm:j2-1<m:=by omega
  generalize swp d1 i2 j2=d0 at *
  refine W.seq (W.cut (fun ts h3=>∃ d3 k,Upd h h3 b (blkI cs o d3)∧d3.size=d.size∧k<m∧partLoop ltInt a (i2+1) (j2-1) d0=(k,d3)∧tget ts 0=.sl b o d.size c∧tget ts 1=.int .i64 (a:Nat)∧tget ts 11=.int .i64 (k:Nat))
   (W.block (W.loop (fun n ts h3=>∃ i j d1,n=j+1-i∧a<i∧i≤j+1∧j<m∧Upd h h3 b (blkI cs o d1)∧d1.size=d.size∧partLoop ltInt a i j d1=partLoop ltInt a (i2+1) (j2-1) d0∧tget ts 0=.sl b o d.size c∧tget ts 1=.int .i64 (a:Nat)∧tget ts 10=.int .i64 (i:Nat)∧tget ts 11=.int .i64 (j:Nat)) ?_ (n:=j2-1+1-(i2+1)) ⟨i2+1,j2-1,d0,rfl,by omega,by omega,by omega,hu',hz',rfl,by simp only[am,evOp,simprocAttr,e0],by simp only[am,evOp,simprocAttr,e1],by simp only[am,evOp,simprocAttr,em,w2],by simp only[am,evOp,simprocAttr,ef,w3]⟩)) ?_)
  ·clear e0 e1 em ef hu hz hu' hz' u2 s1 s2 r1 r2 x1 x2
   rintro n ts h1 ⟨i,j,d1,rfl,hai,hij,hjm,hu,hz,hD,e0,e1,em,ef⟩
   rw[partLoop_eq] at hD
   refine W.block ?_
   refine W.seq (W.cut (fun ts h2=>h1=h2∧tget ts 0=.sl b o d.size c∧tget ts 1=.int .i64 (a:Nat)∧tget ts 10=.int .i64 (scanUp (fun x=>ltInt x d1[a]!) d1 j i:Nat)∧tget ts 11=.int .i64 (j:Nat))
    (W.block (W.loop (fun n ts h2=>h2=h1∧∃ k,n=j+1-k∧i≤k∧k≤j+1∧scanUp (fun x=>ltInt x d1[a]!) d1 j k=scanUp (fun x=>ltInt x d1[a]!) d1 j i∧tget ts 0=.sl b o d.size c∧tget ts 1=.int .i64 (a:Nat)∧tget ts 10=.int .i64 (k:Nat)∧tget ts 11=.int .i64 (j:Nat)) ?_ (n:=j+1-i) ⟨rfl,i,rfl,by omega,by omega,rfl,by simp only[am,evOp,simprocAttr,e0,e1,em,ef],by simp only[am,evOp,simprocAttr,e0,e1,em,ef],by simp only[am,evOp,simprocAttr,e0,e1,em,ef],by simp only[am,evOp,simprocAttr,e0,e1,em,ef]⟩)) ?_)
   ·clear e0 e1 em ef
    rintro n ts h2 ⟨rfl,k,rfl,hk,hk2,hS,e0,e1,em,ef⟩
    by_cases q:k≤j
    ·have c1:decide (((k:Nat):Int)≤((j:Nat):Int))=true:=by simp only[decide_eq_true_eq]; omega
     have x1:idx? ((k:Nat):Int) d.size=some k:=idx_nat (by omega)
     have x2:idx? ((a:Nat):Int) d.size=some a:=idx_nat (by omega)
     have r1:=rd_blk (i:=k) hu.get (by omega) (by omega)
     have r2:=rd_blk (i:=a) hu.get (by omega) (by omega)
     refine W.seq (W.seq (W.reg (G.gcall 12 (by simp only[am,evOp,simprocAttr,e0,e1,em,ef,c1,x1,x2,r1,r2,Nat.mul_one]<;>rfl) rfl (by simp only[am,evOp,simprocAttr,e0,e1,em,ef,c1,x1,x2,r1,r2,Nat.mul_one]) (by simp only[am,evOp,simprocAttr,e0,e1,em,ef,c1,x1,x2,r1,r2,Nat.mul_one]<;>rfl) (less_ok) fun v h3 hq=>?_)))
     obtain⟨rfl,rfl⟩:=hq
     refine G.run (by simp only[am,evOp,simprocAttr,c1]<;>rfl) ?_
     refine W.cond (t:=ltInt d1[k]! d1[a]!) (by simp only[am,evOp,simprocAttr]) (fun q2=>?_) fun q2=>?_
     ·have w1:IntKind.i64.wrap (((k:Nat):Int)+1)=((k+1:Nat):Int):=wr64 (by omega) (by omega)
      refine W.skip (W.block (W.run (by simp only[am,evOp,simprocAttr,e0,e1,em,ef,w1]<;>rfl) ?_))
      refine⟨j+1-(k+1),by omega,rfl,k+1,rfl,by omega,by omega,?_,by simp only[am,evOp,simprocAttr,e0,e1,em,ef],by simp only[am,evOp,simprocAttr,e0,e1,em,ef],by simp only[am,evOp,simprocAttr,e0,e1,em,ef,w1],by simp only[am,evOp,simprocAttr,e0,e1,em,ef]⟩
      rw[← hS]
      conv=>rhs; rw[scanUp,if_pos (by simp only[Bool.and_eq_true,decide_eq_true_eq]; exact⟨q,q2⟩)]
     ·refine W.exit ⟨fun _=>⟨rfl,by simp only[am,evOp,simprocAttr,e0,e1,em,ef],by simp only[am,evOp,simprocAttr,e0,e1,em,ef],?_,by simp only[am,evOp,simprocAttr,e0,e1,em,ef]⟩,fun e=>absurd rfl e⟩
      rw[← hS,scanUp,if_neg (by simp only[Bool.and_eq_true,decide_eq_true_eq]; rintro⟨_,x⟩; exact absurd (q2.symm.trans x) (by decide))]
      simp only[am,evOp,simprocAttr,e0,e1,em,ef]
    ·have c1:decide (((k:Nat):Int)≤((j:Nat):Int))=false:=by simp only[decide_eq_false_iff_not]; omega
     refine W.seq (W.seq (W.reg (G.nocall 12 (by simp only[am,evOp,simprocAttr,e0,e1,em,ef,c1]<;>rfl) rfl (by simp only[am,evOp,simprocAttr,c1]) ?_)))
     refine G.run (by simp only[am,evOp,simprocAttr,c1]<;>rfl) ?_
     refine W.no (by simp only[am,evOp,simprocAttr]) (W.exit ⟨fun _=>⟨rfl,by simp only[am,evOp,simprocAttr,e0,e1,em,ef],by simp only[am,evOp,simprocAttr,e0,e1,em,ef],?_,by simp only[am,evOp,simprocAttr,e0,e1,em,ef]⟩,fun e=>absurd rfl e⟩)
     rw[← hS,scanUp,if_neg (by simp only[Bool.and_eq_true,decide_eq_true_eq]; rintro⟨x,_⟩; exact q x)]
     simp only[am,evOp,simprocAttr,e0,e1,em,ef]
   clear e0 e1 em ef
   rintro ts h2 ⟨rfl,e0,e1,em,ef⟩
   have s1:=scanUp_ge (fun x=>ltInt x d1[a]!) d1 j i
   have s4:=scan_lt (fun x=>ltInt x d1[a]!) (fun x=>!ltInt x d1[a]!) (fun _=>rfl) d1 (i:=i) (j:=j) (by omega) (by omega)
   have s1b:=(scanUp_spec (fun x=>ltInt x d1[a]!) d1 j _ i rfl).2.1
   generalize scanUp (fun x=>ltInt x d1[a]!) d1 j i=i2 at *
   have ef':=ef
   have em':=em
   clear em ef
   have em:=ef'
   have ef:=em'
   clear ef' em'
   refine W.seq (W.cut (fun ts h2=>h1=h2∧tget ts 0=.sl b o d.size c∧tget ts 1=.int .i64 (a:Nat)∧tget ts 11=.int .i64 (scanDown (fun x=>!ltInt x d1[a]!) d1 i2 j:Nat)∧tget ts 10=.int .i64 (i2:Nat))
    (W.block (W.loop (fun n ts h2=>h2=h1∧∃ k,k=n∧k≤j∧i2≤k+1∧scanDown (fun x=>!ltInt x d1[a]!) d1 i2 k=scanDown (fun x=>!ltInt x d1[a]!) d1 i2 j∧tget ts 0=.sl b o d.size c∧tget ts 1=.int .i64 (a:Nat)∧tget ts 11=.int .i64 (k:Nat)∧tget ts 10=.int .i64 (i2:Nat)) ?_ (n:=j) ⟨rfl,j,rfl,by omega,by omega,rfl,by simp only[am,evOp,simprocAttr,e0,e1,em,ef],by simp only[am,evOp,simprocAttr,e0,e1,em,ef],by simp only[am,evOp,simprocAttr,e0,e1,em,ef],by simp only[am,evOp,simprocAttr,e0,e1,em,ef]⟩)) ?_)
   ·clear e0 e1 em ef
    rintro n ts h2 ⟨rfl,k,rfl,hk,hk2,hS,e0,e1,em,ef⟩
    by_cases q:i2≤k
    ·have c1:decide (((i2:Nat):Int)≤((k:Nat):Int))=true:=by simp only[decide_eq_true_eq]; omega
     have x1:idx? ((k:Nat):Int) d.size=some k:=idx_nat (by omega)
     have x2:idx? ((a:Nat):Int) d.size=some a:=idx_nat (by omega)
     have r1:=rd_blk (i:=k) hu.get (by omega) (by omega)
     have r2:=rd_blk (i:=a) hu.get (by omega) (by omega)
     refine W.seq (W.seq (W.reg (G.gcall 12 (by simp only[am,evOp,simprocAttr,e0,e1,em,ef,c1,x1,x2,r1,r2,Nat.mul_one]<;>rfl) rfl (by simp only[am,evOp,simprocAttr,e0,e1,em,ef,c1,x1,x2,r1,r2,Nat.mul_one]) (by simp only[am,evOp,simprocAttr,e0,e1,em,ef,c1,x1,x2,r1,r2,Nat.mul_one]<;>rfl) (less_ok) fun v h3 hq=>?_)))
     obtain⟨rfl,rfl⟩:=hq
     refine G.run (by simp only[am,evOp,simprocAttr,c1]<;>rfl) ?_
     refine W.cond (t:=!ltInt d1[k]! d1[a]!) (by simp only[am,evOp,simprocAttr]) (fun q2=>?_) fun q2=>?_
     ·obtain⟨k,rfl⟩:∃ m,k=m+1:=⟨k-1,by omega⟩
      have w1:IntKind.i64.wrap (((k+1:Nat):Int)-1)=((k:Nat):Int):=by rw[wr64 (by omega) (by omega)]; omega
      refine W.skip (W.block (W.run (by simp only[am,evOp,simprocAttr,e0,e1,em,ef,w1]<;>rfl) ?_))
      refine⟨k,by omega,rfl,k,rfl,by omega,by omega,?_,by simp only[am,evOp,simprocAttr,e0,e1,em,ef],by simp only[am,evOp,simprocAttr,e0,e1,em,ef],by simp only[am,evOp,simprocAttr,e0,e1,em,ef,w1],by simp only[am,evOp,simprocAttr,e0,e1,em,ef]⟩
      rw[← hS]
      conv=>rhs; rw[scanDown,if_pos (by simp only[Bool.and_eq_true,decide_eq_true_eq]; exact⟨q,q2⟩)]
     ·refine W.exit ⟨fun _=>⟨rfl,by simp only[am,evOp,simprocAttr,e0,e1,em,ef],by simp only[am,evOp,simprocAttr,e0,e1,em,ef],?_,by simp only[am,evOp,simprocAttr,e0,e1,em,ef]⟩,fun e=>absurd rfl e⟩
      obtain⟨k,rfl⟩:∃ m,k=m+1:=⟨k-1,by omega⟩
      rw[← hS,scanDown,if_neg (by simp only[Bool.and_eq_true,decide_eq_true_eq]; rintro⟨_,x⟩; exact absurd (q2.symm.trans x) (by decide))]
      simp only[am,evOp,simprocAttr,e0,e1,em,ef]
    ·have c1:decide (((i2:Nat):Int)≤((k:Nat):Int))=false:=by simp only[decide_eq_false_iff_not]; omega
     refine W.seq (W.seq (W.reg (G.nocall 12 (by simp only[am,evOp,simprocAttr,e0,e1,em,ef,c1]<;>rfl) rfl (by simp only[am,evOp,simprocAttr,c1]) ?_)))
     refine G.run (by simp only[am,evOp,simprocAttr,c1]<;>rfl) ?_
     refine W.no (by simp only[am,evOp,simprocAttr]) (W.exit ⟨fun _=>⟨rfl,by simp only[am,evOp,simprocAttr,e0,e1,em,ef],by simp only[am,evOp,simprocAttr,e0,e1,em,ef],?_,by simp only[am,evOp,simprocAttr,e0,e1,em,ef]⟩,fun e=>absurd rfl e⟩)
     have:scanDown (fun x=>!ltInt x d1[a]!) d1 i2 k=k:=by
      cases k with
      | zero=>rfl
      | succ k=>rw[scanDown,if_neg (by simp only[Bool.and_eq_true,decide_eq_true_eq]; rintro⟨x,_⟩; exact q x)]
     rw[← hS,this]
     simp only[am,evOp,simprocAttr,e0,e1,em,ef]
   clear e0 e1 em ef
   rintro ts h2 ⟨rfl,e0,e1,em,ef⟩
   have s2:=scanDown_le (fun x=>!ltInt x d1[a]!) d1 i2 j
   have s3:i2≤scanDown (fun x=>!ltInt x d1[a]!) d1 i2 j+1:=sdown_ge _ _ _ _ (by omega)
   generalize scanDown (fun x=>!ltInt x d1[a]!) d1 i2 j=j2 at *
   refine W.seq (W.seq (W.run (by simp only[am,evOp,simprocAttr,e0,e1,em,ef]<;>rfl) ?_))
   refine W.cond (t:=decide (j2<i2)) (by simp only[am,evOp,simprocAttr,Int.ofNat_lt]) (fun q=>?_) fun q=>?_
   ·have q:j2<i2:=of_decide_eq_true q
    rw[if_pos q] at hD
    exact W.exit ⟨fun e=>absurd e (by decide),fun _=>⟨fun _=>⟨d1,j2,hu,hz,by omega,hD.symm,by simp only[am,evOp,simprocAttr,e0],by simp only[am,evOp,simprocAttr,e1],by simp only[am,evOp,simprocAttr,em]⟩,fun e=>absurd rfl e⟩⟩
   ·have q:¬ j2<i2:=of_decide_eq_false q
    have s5:=s4 q
    rw[if_neg q] at hD
    have x1:idx? ((i2:Nat):Int) d.size=some i2:=idx_nat (by omega)
    have x2:idx? ((j2:Nat):Int) d.size=some j2:=idx_nat (by omega)
    have r1:=rd_blk (i:=i2) hu.get (by omega) (by omega)
    have r2:=rd_blk (i:=j2) hu.get (by omega) (by omega)
    obtain⟨m1,m2,s1,s2,u2⟩:=swp_blk (i:=i2) (j:=j2) hu.get (by omega) (by omega) (by omega)
    have w2:IntKind.i64.wrap (((i2:Nat):Int)+1)=((i2+1:Nat):Int):=wr64 (by omega) (by omega)
    have w3:IntKind.i64.wrap (((j2:Nat):Int)-1)=((j2-1:Nat):Int):=by rw[wr64 (by omega) (by omega)]; omega
    refine W.skip (W.seq (W.run (by simp only[am,evOp,simprocAttr,e0,e1,em,ef,x1,x2,r1,r2,s1,s2,Nat.mul_one]<;>rfl) ?_))
    refine W.seq (W.run (by simp only[am,evOp,simprocAttr,e0,e1,em,ef,w2]<;>rfl) ?_)
    refine W.run (by simp only[am,evOp,simprocAttr,e0,e1,em,ef,w3]<;>rfl) ?_
    exact⟨_,by omega,i2+1,j2-1,swp d1 i2 j2,rfl,by omega,by omega,by omega,hu.trans u2,by rw[swp_size',hz],hD,by simp only[am,evOp,simprocAttr,e0],by simp only[am,evOp,simprocAttr,e1],by simp only[am,evOp,simprocAttr,ef,w2],by simp only[am,evOp,simprocAttr,em,w3]⟩
  ·clear e0 e1 em ef hu hz hu' hz' u2 s1 s2 r1 r2 x1 x2
   rintro ts h1 ⟨d1,k,hu,hz,hk,hL,e0,e1,ek⟩
   rw[hL]
   have x1:idx? ((k:Nat):Int) d.size=some k:=idx_nat (by omega)
   have x2:idx? ((a:Nat):Int) d.size=some a:=idx_nat (by omega)
   have r1:=rd_blk (i:=k) hu.get (by omega) (by omega)
   have r2:=rd_blk (i:=a) hu.get (by omega) (by omega)
   obtain⟨m1,m2,s1,s2,u2⟩:=swp_blk (i:=k) (j:=a) hu.get (by omega) (by omega) (by omega)
   refine W.seq (W.run (by simp only[am,evOp,simprocAttr,e0,e1,ek,x1,x2,r1,r2,s1,s2,Nat.mul_one]<;>rfl) ?_)
   refine W.seq (W.run (by simp only[am,evOp,simprocAttr,e0,e1,ek]<;>rfl) ?_)
   exact W.ret ⟨_,(by simp only[rs,rf125,am,evOp,simprocAttr,e0,e1,ek]<;>rfl),rfl,hu.trans u2⟩
theorem parteq_ok {h:AH}{b o c a m piv:Nat}{cs:List AV}{d:Array Int} (hg:h.get b=some (blkI cs o d)) (hr:o+d.size≤cs.length) (hp:a≤piv) (hpm:piv<m) (hm:m≤d.size) (hs:d.size<2 ^ 40) :
 C prg 124 [.sl b o d.size c,.int .i64 (a:Nat),.int .i64 (m:Nat),.int .i64 (piv:Nat)] h fun v h'=>v=.int .i64 ((partitionEqual ltInt d a m piv).1:Nat)∧Upd h h' b (blkI cs o (partitionEqual ltInt d a m piv).2):=by
 refine C.func pf124 ?_
 refine W.seq (W.run (by simp only[am,evOp,simprocAttr,initTm]<;>rfl) ?_)
 have w0:IntKind.i64.wrap (((m:Nat):Int)-1)=((m-1:Nat):Int):=by rw[wr64 (by omega) (by omega)]; omega
 have w1:IntKind.i64.wrap (((a:Nat):Int)+1)=((a+1:Nat):Int):=wr64 (by omega) (by omega)
 have hu0:=Upd.refl hg
 have x1:idx? ((a:Nat):Int) d.size=some a:=idx_nat (by omega)
 have x2:idx? ((piv:Nat):Int) d.size=some piv:=idx_nat (by omega)
 have r1:=rd_blk (i:=a) hu0.get (by omega) (by omega)
 have r2:=rd_blk (i:=piv) hu0.get (by omega) (by omega)
 obtain⟨m1,m2,s1,s2,u2⟩:=swp_blk (i:=a) (j:=piv) hu0.get (by omega) (by omega) (by omega)
 refine W.seq (W.run (by simp only[am,evOp,simprocAttr,initTm,x1,x2,r1,r2,s1,s2,Nat.mul_one]<;>rfl) ?_)
 refine W.seq (W.run (by simp only[am,evOp,simprocAttr,initTm,w0,w1]<;>rfl) ?_)
 have hz':(swp d a piv).size=d.size:=swp_size' ..
 rw[show partitionEqual ltInt d a m piv=partEqLoop ltInt a (a+1) (m-1) (swp d a piv) from rfl]
 generalize swp d a piv=d0 at *
 refine W.seq (W.cut (fun ts h3=>∃ d3 k,Upd h h3 b (blkI cs o d3)∧partEqLoop ltInt a (a+1) (m-1) d0=(k,d3)∧tget ts 9=.int .i64 (k:Nat))
  (W.block (W.loop (fun n ts h3=>∃ i j d1,n=j+1-i∧a<i∧i≤j+1∧j<m∧Upd h h3 b (blkI cs o d1)∧d1.size=d.size∧partEqLoop ltInt a i j d1=partEqLoop ltInt a (a+1) (m-1) d0∧tget ts 0=.sl b o d.size c∧tget ts 1=.int .i64 (a:Nat)∧tget ts 9=.int .i64 (i:Nat)∧tget ts 10=.int .i64 (j:Nat)) ?_ (n:=m-1+1-(a+1)) ⟨a+1,m-1,d0,rfl,by omega,by omega,by omega,u2,hz',rfl,by simp only[am,evOp,simprocAttr,initTm],by simp only[am,evOp,simprocAttr,initTm],by simp only[am,evOp,simprocAttr,initTm],by simp only[am,evOp,simprocAttr,initTm]⟩)) ?_)
 ·clear hz' u2 s1 s2 r1 r2 x1 x2
  rintro n ts h1 ⟨i,j,d1,rfl,hai,hij,hjm,hu,hz,hD,e0,e1,em,ef⟩
  rw[partEqLoop_eq] at hD
  refine W.block ?_
  refine W.seq (W.cut (fun ts h2=>h1=h2∧tget ts 0=.sl b o d.size c∧tget ts 1=.int .i64 (a:Nat)∧tget ts 9=.int .i64 (scanUp (fun x=>!ltInt d1[a]! x) d1 j i:Nat)∧tget ts 10=.int .i64 (j:Nat))
   (W.block (W.loop (fun n ts h2=>h2=h1∧∃ k,n=j+1-k∧i≤k∧k≤j+1∧scanUp (fun x=>!ltInt d1[a]! x) d1 j k=scanUp (fun x=>!ltInt d1[a]! x) d1 j i∧tget ts 0=.sl b o d.size c∧tget ts 1=.int .i64 (a:Nat)∧tget ts 9=.int .i64 (k:Nat)∧tget ts 10=.int .i64 (j:Nat)) ?_ (n:=j+1-i) ⟨rfl,i,rfl,by omega,by omega,rfl,by simp only[am,evOp,simprocAttr,e0,e1,em,ef],by simp only[am,evOp,simprocAttr,e0,e1,em,ef],by simp only[am,evOp,simprocAttr,e0,e1,em,ef],by simp only[am,evOp,simprocAttr,e0,e1,em,ef]⟩)) ?_)
  ·clear e0 e1 em ef
   rintro n ts h2 ⟨rfl,k,rfl,hk,hk2,hS,e0,e1,em,ef⟩
   by_cases q:k≤j
   ·have c1:decide (((k:Nat):Int)≤((j:Nat):Int))=true:=by simp only[decide_eq_true_eq]; omega
    have x1:idx? ((k:Nat):Int) d.size=some k:=idx_nat (by omega)
    have x2:idx? ((a:Nat):Int) d.size=some a:=idx_nat (by omega)
    have r1:=rd_blk (i:=k) hu.get (by omega) (by omega)
    have r2:=rd_blk (i:=a) hu.get (by omega) (by omega)
    refine W.seq (W.seq (W.reg (G.gcall 12 (by simp only[am,evOp,simprocAttr,e0,e1,em,ef,c1,x1,x2,r1,r2,Nat.mul_one]<;>rfl) rfl (by simp only[am,evOp,simprocAttr,e0,e1,em,ef,c1,x1,x2,r1,r2,Nat.mul_one]) (by simp only[am,evOp,simprocAttr,e0,e1,em,ef,c1,x1,x2,r1,r2,Nat.mul_one]<;>rfl) (less_ok) fun v h3 hq=>?_)))
    obtain⟨rfl,rfl⟩:=hq
    refine G.run (by simp only[am,evOp,simprocAttr,c1]<;>rfl) ?_
    refine W.cond (t:=!ltInt d1[a]! d1[k]!) (by simp only[am,evOp,simprocAttr]) (fun q2=>?_) fun q2=>?_
    ·have w1:IntKind.i64.wrap (((k:Nat):Int)+1)=((k+1:Nat):Int):=wr64 (by omega) (by omega)
     refine W.skip (W.block (W.run (by simp only[am,evOp,simprocAttr,e0,e1,em,ef,w1]<;>rfl) ?_))
     refine⟨j+1-(k+1),by omega,rfl,k+1,rfl,by omega,by omega,?_,by simp only[am,evOp,simprocAttr,e0,e1,em,ef],by simp only[am,evOp,simprocAttr,e0,e1,em,ef],by simp only[am,evOp,simprocAttr,e0,e1,em,ef,w1],by simp only[am,evOp,simprocAttr,e0,e1,em,ef]⟩
     rw[← hS]
     conv=>rhs; rw[scanUp,if_pos (by simp only[Bool.and_eq_true,decide_eq_true_eq]; exact⟨q,q2⟩)]
    ·refine W.exit ⟨fun _=>⟨rfl,by simp only[am,evOp,simprocAttr,e0,e1,em,ef],by simp only[am,evOp,simprocAttr,e0,e1,em,ef],?_,by simp only[am,evOp,simprocAttr,e0,e1,em,ef]⟩,fun e=>absurd rfl e⟩
     rw[← hS,scanUp,if_neg (by simp only[Bool.and_eq_true,decide_eq_true_eq]; rintro⟨_,x⟩; exact absurd (q2.symm.trans x) (by decide))]
     simp only[am,evOp,simprocAttr,e0,e1,em,ef]
   ·have c1:decide (((k:Nat):Int)≤((j:Nat):Int))=false:=by simp only[decide_eq_false_iff_not]; omega
    refine W.seq (W.seq (W.reg (G.nocall 12 (by simp only[am,evOp,simprocAttr,e0,e1,em,ef,c1]<;>rfl) rfl (by simp only[am,evOp,simprocAttr,c1]) ?_)))
    refine G.run (by simp only[am,evOp,simprocAttr,c1]<;>rfl) ?_
    refine W.no (by simp only[am,evOp,simprocAttr]) (W.exit ⟨fun _=>⟨rfl,by simp only[am,evOp,simprocAttr,e0,e1,em,ef],by simp only[am,evOp,simprocAttr,e0,e1,em,ef],?_,by simp only[am,evOp,simprocAttr,e0,e1,em,ef]⟩,fun e=>absurd rfl e⟩)
    rw[← hS,scanUp,if_neg (by simp only[Bool.and_eq_true,decide_eq_true_eq]; rintro⟨x,_⟩; exact q x)]
    simp only[am,evOp,simprocAttr,e0,e1,em,ef]
  clear e0 e1 em ef
  rintro ts h2 ⟨rfl,e0,e1,em,ef⟩
  have s1:=scanUp_ge (fun x=>!ltInt d1[a]! x) d1 j i
  have s4:=scan_lt (fun x=>!ltInt d1[a]! x) (fun x=>ltInt d1[a]! x) (fun _=>by simp) d1 (i:=i) (j:=j) (by omega) (by omega)
  have s1b:=(scanUp_spec (fun x=>!ltInt d1[a]! x) d1 j _ i rfl).2.1
  generalize scanUp (fun x=>!ltInt d1[a]! x) d1 j i=i2 at *
  have ef':=ef
  have em':=em
  clear em ef
  have em:=ef'
  have ef:=em'
  clear ef' em'
  refine W.seq (W.cut (fun ts h2=>h1=h2∧tget ts 0=.sl b o d.size c∧tget ts 1=.int .i64 (a:Nat)∧tget ts 10=.int .i64 (scanDown (fun x=>ltInt d1[a]! x) d1 i2 j:Nat)∧tget ts 9=.int .i64 (i2:Nat))
   (W.block (W.loop (fun n ts h2=>h2=h1∧∃ k,k=n∧k≤j∧i2≤k+1∧scanDown (fun x=>ltInt d1[a]! x) d1 i2 k=scanDown (fun x=>ltInt d1[a]! x) d1 i2 j∧tget ts 0=.sl b o d.size c∧tget ts 1=.int .i64 (a:Nat)∧tget ts 10=.int .i64 (k:Nat)∧tget ts 9=.int .i64 (i2:Nat)) ?_ (n:=j) ⟨rfl,j,rfl,by omega,by omega,rfl,by simp only[am,evOp,simprocAttr,e0,e1,em,ef],by simp only[am,evOp,simprocAttr,e0,e1,em,ef],by simp only[am,evOp,simprocAttr,e0,e1,em,ef],by simp only[am,evOp,simprocAttr,e0,e1,em,ef]⟩)) ?_)
  ·clear e0 e1 em ef
   rintro n ts h2 ⟨rfl,k,rfl,hk,hk2,hS,e0,e1,em,ef⟩
   by_cases q:i2≤k
   ·have c1:decide (((i2:Nat):Int)≤((k:Nat):Int))=true:=by simp only[decide_eq_true_eq]; omega
    have x1:idx? ((k:Nat):Int) d.size=some k:=idx_nat (by omega)
    have x2:idx? ((a:Nat):Int) d.size=some a:=idx_nat (by omega)
    have r1:=rd_blk (i:=k) hu.get (by omega) (by omega)
    have r2:=rd_blk (i:=a) hu.get (by omega) (by omega)
    refine W.seq (W.seq (W.reg (G.gcall 12 (by simp only[am,evOp,simprocAttr,e0,e1,em,ef,c1,x1,x2,r1,r2,Nat.mul_one]<;>rfl) rfl (by simp only[am,evOp,simprocAttr,e0,e1,em,ef,c1,x1,x2,r1,r2,Nat.mul_one]) (by simp only[am,evOp,simprocAttr,e0,e1,em,ef,c1,x1,x2,r1,r2,Nat.mul_one]<;>rfl) (less_ok) fun v h3 hq=>?_)))
    obtain⟨rfl,rfl⟩:=hq
    refine G.run (by simp only[am,evOp,simprocAttr,c1]<;>rfl) ?_
    refine W.cond (t:=ltInt d1[a]! d1[k]!) (by simp only[am,evOp,simprocAttr]) (fun q2=>?_) fun q2=>?_
    ·obtain⟨k,rfl⟩:∃ m,k=m+1:=⟨k-1,by omega⟩
     have w1:IntKind.i64.wrap (((k+1:Nat):Int)-1)=((k:Nat):Int):=by rw[wr64 (by omega) (by omega)]; omega
     refine W.skip (W.block (W.run (by simp only[am,evOp,simprocAttr,e0,e1,em,ef,w1]<;>rfl) ?_))
     refine⟨k,by omega,rfl,k,rfl,by omega,by omega,?_,by simp only[am,evOp,simprocAttr,e0,e1,em,ef],by simp only[am,evOp,simprocAttr,e0,e1,em,ef],by simp only[am,evOp,simprocAttr,e0,e1,em,ef,w1],by simp only[am,evOp,simprocAttr,e0,e1,em,ef]⟩
     rw[← hS]
     conv=>rhs; rw[scanDown,if_pos (by simp only[Bool.and_eq_true,decide_eq_true_eq]; exact⟨q,q2⟩)]
    ·refine W.exit ⟨fun _=>⟨rfl,by simp only[am,evOp,simprocAttr,e0,e1,em,ef],by simp only[am,evOp,simprocAttr,e0,e1,em,ef],?_,by simp only[am,evOp,simprocAttr,e0,e1,em,ef]⟩,fun e=>absurd rfl e⟩
     obtain⟨k,rfl⟩:∃ m,k=m+1:=⟨k-1,by omega⟩
     rw[← hS,scanDown,if_neg (by simp only[Bool.and_eq_true,decide_eq_true_eq]; rintro⟨_,x⟩; exact absurd (q2.symm.trans x) (by decide))]
     simp only[am,evOp,simprocAttr,e0,e1,em,ef]
   ·have c1:decide (((i2:Nat):Int)≤((k:Nat):Int))=false:=by simp only[decide_eq_false_iff_not]; omega
    refine W.seq (W.seq (W.reg (G.nocall 12 (by simp only[am,evOp,simprocAttr,e0,e1,em,ef,c1]<;>rfl) rfl (by simp only[am,evOp,simprocAttr,c1]) ?_)))
    refine G.run (by simp only[am,evOp,simprocAttr,c1]<;>rfl) ?_
    refine W.no (by simp only[am,evOp,simprocAttr]) (W.exit ⟨fun _=>⟨rfl,by simp only[am,evOp,simprocAttr,e0,e1,em,ef],by simp only[am,evOp,simprocAttr,e0,e1,em,ef],?_,by simp only[am,evOp,simprocAttr,e0,e1,em,ef]⟩,fun e=>absurd rfl e⟩)
    have:scanDown (fun x=>ltInt d1[a]! x) d1 i2 k=k:=by
     cases k with
     | zero=>rfl
     | succ k=>rw[scanDown,if_neg (by simp only[Bool.and_eq_true,decide_eq_true_eq]; rintro⟨x,_⟩; exact q x)]
    rw[← hS,this]
    simp only[am,evOp,simprocAttr,e0,e1,em,ef]
  clear e0 e1 em ef
  rintro ts h2 ⟨rfl,e0,e1,em,ef⟩
  have s2:=scanDown_le (fun x=>ltInt d1[a]! x) d1 i2 j
  have s3:i2≤scanDown (fun x=>ltInt d1[a]! x) d1 i2 j+1:=sdown_ge _ _ _ _ (by omega)
  generalize scanDown (fun x=>ltInt d1[a]! x) d1 i2 j=j2 at *
  refine W.seq (W.seq (W.run (by simp only[am,evOp,simprocAttr,e0,e1,em,ef]<;>rfl) ?_))
  refine W.cond (t:=decide (j2<i2)) (by simp only[am,evOp,simprocAttr,Int.ofNat_lt]) (fun q=>?_) fun q=>?_
  ·have q:j2<i2:=of_decide_eq_true q
   rw[if_pos q] at hD
   exact W.exit ⟨fun e=>absurd e (by decide),fun _=>⟨fun _=>⟨d1,i2,hu,hD.symm,by simp only[am,evOp,simprocAttr,ef]⟩,fun e=>absurd rfl e⟩⟩
  ·have q:¬ j2<i2:=of_decide_eq_false q
   have s5:=s4 q
   rw[if_neg q] at hD
   have x1:idx? ((i2:Nat):Int) d.size=some i2:=idx_nat (by omega)
   have x2:idx? ((j2:Nat):Int) d.size=some j2:=idx_nat (by omega)
   have r1:=rd_blk (i:=i2) hu.get (by omega) (by omega)
   have r2:=rd_blk (i:=j2) hu.get (by omega) (by omega)
   obtain⟨m1,m2,s1,s2,u2⟩:=swp_blk (i:=i2) (j:=j2) hu.get (by omega) (by omega) (by omega)
   have w2:IntKind.i64.wrap (((i2:Nat):Int)+1)=((i2+1:Nat):Int):=wr64 (by omega) (by omega)
   have w3:IntKind.i64.wrap (((j2:Nat):Int)-1)=((j2-1:Nat):Int):=by rw[wr64 (by omega) (by omega)]; omega
   refine W.skip (W.seq (W.run (by simp only[am,evOp,simprocAttr,e0,e1,em,ef,x1,x2,r1,r2,s1,s2,Nat.mul_one]<;>rfl) ?_))
   refine W.seq (W.run (by simp only[am,evOp,simprocAttr,e0,e1,em,ef,w2]<;>rfl) ?_)
   refine W.run (by simp only[am,evOp,simprocAttr,e0,e1,em,ef,w3]<;>rfl) ?_
   exact⟨_,by omega,i2+1,j2-1,swp d1 i2 j2,rfl,by omega,by omega,by omega,hu.trans u2,by rw[swp_size',hz],hD,by simp only[am,evOp,simprocAttr,e0],by simp only[am,evOp,simprocAttr,e1],by simp only[am,evOp,simprocAttr,ef,w2],by simp only[am,evOp,simprocAttr,em,w3]⟩
 ·rintro ts h1 ⟨d1,k,hu,hL,ek⟩
  rw[hL]
  refine W.seq (W.run (by simp only[am,evOp,simprocAttr,ek]<;>rfl) ?_)
  exact W.ret ⟨_,(by simp only[rs,rf124,am,evOp,simprocAttr,ek]<;>rfl),rfl,hu⟩
end Go.Proofs.YtihedjolidbfiaaGreatDoor
namespace Go.Proofs.YtihedjolidbfiaaGreatDoor
open Go.Am Go.Sort
end Go.Proofs.YtihedjolidbfiaaGreatDoor
