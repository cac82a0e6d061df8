/-
  slices.Compact of ints.
-/
import Derived.Test.YticaalcbgikjjaaGreatDoorKLc
import Derived.Test.YticaalcbgikjjaaGreatDoorKAmR
set_option linter.all false
namespace Go.Proofs.YticaalcbgikjjaaGreatDoor
open Go.Am
def dd (x:Int):List Int→List Int
 | []=>[]
 | y::r=>if y=x then dd x r else y::dd y r
def compM:List Int→List Int
 | []=>[]
 | x::r=>x::dd x r
theorem dd_snoc (y:Int):∀ (x:Int) (l:List Int),dd x (l++[y])=dd x l++if (x::l).getLast (by simp)=y then [] else [y]
 | x,[]=>by
   show (if y=x then dd x [] else y::dd y [])=[]++if x=y then [] else [y]
   by_cases q:y=x
   ·subst q; simp [dd]
   ·have q2:¬ x=y:=fun e=>q e.symm
    simp [q,q2,dd]
 | x,z::l=>by
   simp only[List.cons_append,dd]
   rw[List.getLast_cons (by simp)]
   split
   ·rename_i e
    subst e
    exact dd_snoc y z l
   ·rw[dd_snoc y z l]
    rfl
theorem comp_snoc {l:List Int}{y:Int} (hl:l≠[]):compM (l++[y])=compM l++if l.getLast hl=y then [] else [y]:=by
 cases l with
 | nil=>exact absurd rfl hl
 | cons x r =>
   simp only[List.cons_append,compM]
   rw[dd_snoc]
theorem dd_len:∀ (x:Int) (l:List Int),(dd x l).length≤l.length
 | _,[]=>Nat.le_refl _
 | x,y::r=>by
   unfold dd
   split
   ·have:=dd_len x r; simp only[List.length_cons]; omega
   ·have:=dd_len y r; simp only[List.length_cons]; omega
theorem comp_len (l:List Int):(compM l).length≤l.length:=by
 cases l with
 | nil=>exact Nat.le_refl _
 | cons x r=>have:=dd_len x r; simp only[compM,List.length_cons]; omega
theorem comp_take {d:Array Int}{k:Nat} (h0:0<k) (hk:k<d.size):compM (d.toList.take (k+1))=compM (d.toList.take k)++if d[k]! = d[k-1]! then [] else [d[k]!]:=by
 have hk':k<d.toList.length:=by rw[Array.length_toList]; exact hk
 have hne:d.toList.take k≠[]:=by
  intro e
  have:=congrArg List.length e
  rw[List.length_take,Array.length_toList,List.length_nil] at this
  omega
 rw[List.take_succ_eq_append_getElem hk',comp_snoc hne]
 have e1:(d.toList.take k).getLast hne=d[k-1]!:=by
  rw[List.getLast_eq_getElem,List.getElem_take,getElem!_pos d _ (by omega)]
  simp only[List.length_take,Array.length_toList,Nat.min_eq_left (Nat.le_of_lt hk)]
  rfl
 have e2:d.toList[k]=d[k]!:=by rw[getElem!_pos d _ hk]; rfl
 rw[e1,e2]
 by_cases q:d[k]! = d[k-1]!
 ·rw[if_pos q.symm,if_pos q]
 ·rw[if_neg (fun e=>q e.symm),if_neg q]
theorem slV_lo {h:AH}{b o n c k:Nat}{cs:List AV}{d:Array Int} (hg:h.get b=some (blkI cs o d)) (hk:k<n) (hn:n≤c):slV h 1 (.sl b o n c) (some (.int .i64 (k:Nat))) none none=some (.sl b (o+k) (n-k) (c-k)):=by
 have h2:=bnd_nat (k:=.i64) (Nat.le_of_lt hk)
 unfold blkI at hg
 simp only[slV,hg,if_true,bnds,h2,Option.map_some,Option.isSome_none,Bool.false_eq_true,if_false]
 rw[if_neg (by omega),Nat.mul_one]
theorem slV_hi {h:AH}{b o n c k:Nat}{cs:List AV}{d:Array Int} (hg:h.get b=some (blkI cs o d)) (hk:k≤c):slV h 1 (.sl b o n c) none (some (.int .i64 (k:Nat))) none=some (.sl b o k c):=by
 have h2:=bnd_nat (k:=.i64) hk
 unfold blkI at hg
 simp only[slV,hg,if_true,bnds,h2,Option.map_some,Nat.zero_mul,Nat.add_zero,Nat.sub_zero,ite_self]
theorem scl_blk {h:AH}{b o k c:Nat}{cs:List AV}{d:Array Int} (hg:h.get b=some (blkI cs o d)) (hr:o+d.size≤cs.length) (hk:k<d.size) :
 ∃ h' d',sclA h [.int .i64 0] (.sl b (o+k) (d.size-k) c)=some (.un,h')∧Upd h h' b (blkI cs o d')∧d'.size=d.size∧d'.toList.take k=d.toList.take k:=by
 have hr':o+(ints d).length≤cs.length:=by rw[ints_len]; exact hr
 have e0:repl [AV.int .i64 0] (d.size-k)=List.replicate (d.size-k) (.int .i64 0):=repl_rep _
 have ez:(repl [AV.int .i64 0] (d.size-k)).all AV.one=true:=by
  rw[e0,List.all_eq_true]
  intro x hx
  rw[List.eq_of_mem_replicate hx]
  rfl
 refine⟨_,(d.toList.take k++List.replicate (d.size-k) 0).toArray,?_,Upd.put hg,?_,?_⟩
 ·unfold sclA
  simp only
  rw[if_neg (by omega),if_pos ez,wrCells_of hg,if_pos (by rw[splice_len hr',e0,List.length_replicate]; omega)]
  simp only[Option.map_some,Option.some.injEq,Prod.mk.injEq,true_and]
  congr 2
  refine List.ext_getElem? fun i=>?_
  have l1:(ints d).length=d.size:=ints_len d
  have l2:o+k+(repl [AV.int .i64 0] (d.size-k)).length≤(splice cs o (ints d)).length:=by rw[splice_len hr',e0,List.length_replicate]; omega
  have l4:(ints (d.toList.take k++List.replicate (d.size-k) 0).toArray).length=d.size:=by
   rw[ints_len]
   simp only[List.size_toArray,List.length_append,List.length_take,Array.length_toList,List.length_replicate]
   omega
  rw[splice_at l2,splice_at hr',splice_at (by rw[l4]; omega),l1,l4,e0,List.length_replicate]
  unfold ints
  simp only[List.map_append,List.map_replicate,List.getElem?_append,List.length_map,List.length_take,Array.length_toList,List.getElem?_replicate]
  rw[Nat.min_eq_left (Nat.le_of_lt hk)]
  by_cases q1:o≤i∧i<o+d.size
  ·rw[if_pos q1,if_pos q1]
   by_cases q2:i-o<k
   ·rw[if_pos q2,if_neg (by omega),List.map_take,List.getElem?_take,if_pos q2]
   ·rw[if_neg q2,if_pos (by omega),if_pos (by omega),if_pos (by omega)]
  ·rw[if_neg q1,if_neg q1,if_neg (by omega)]
 ·simp only[List.size_toArray,List.length_append,List.length_take,Array.length_toList,List.length_replicate]
  omega
 ·simp only[List.toList_toArray]
  rw[List.take_append_of_le_length (by rw[List.length_take,Array.length_toList]; omega),List.take_take,Nat.min_self]
theorem compact_nil {h:AH}:C prg 29 [.nils] h fun r h'=>r=.nils∧h'=h:=by
 refine C.func pf29 ?_
 refine W.seq (W.run (by simp only[am,evOp,simprocAttr,initTm]<;>rfl) ?_)
 refine W.seq (W.seq (W.run (by simp only[am,evOp,simprocAttr,initTm,lenLA_nils]<;>rfl) ?_))
 refine W.yes (by simp only[am,evOp,simprocAttr]; rfl) ?_
 refine W.seq (W.run (by simp only[am,evOp,simprocAttr,initTm]<;>rfl) ?_)
 exact W.ret ⟨.nils,(by simp only[rs,rf29,am,evOp,simprocAttr]<;>rfl),rfl,rfl⟩
theorem compact_ok {h:AH}{b o c:Nat}{cs:List AV}{d:Array Int} (hg:h.get b=some (blkI cs o d)) (hr:o+d.size≤cs.length) (hc:d.size≤c) (hs:d.size<2 ^ 38) :
 C prg 29 [.sl b o d.size c] h fun r h'=>∃ (d':Array Int) (m:Nat),r=.sl b o m c∧m≤d.size∧d'.size=d.size∧Upd h h' b (blkI cs o d')∧d'.toList.take m=compM d.toList:=by
 refine C.func pf29 ?_
 refine W.seq (W.run (by simp only[am,evOp,simprocAttr,initTm]<;>rfl) ?_)
 refine W.seq (W.seq (W.run (by simp only[am,evOp,simprocAttr,initTm]<;>rfl) ?_))
 refine W.cond (t:=decide (d.size<2)) (by simp only[am,evOp,simprocAttr]; exact congrArg AV.bool (by simp only[decide_eq_decide]; omega)) (fun q=>?_) fun q=>?_
 ·have q:d.size<2:=of_decide_eq_true q
  refine W.seq (W.run (by simp only[am,evOp,simprocAttr,initTm]<;>rfl) ?_)
  refine W.ret ⟨_,(by simp only[rs,rf29,am,evOp,simprocAttr]<;>rfl),d,d.size,rfl,Nat.le_refl _,rfl,Upd.refl hg,?_⟩
  rw[← Array.length_toList,List.take_length]
  rw[← Array.length_toList] at q
  match d.toList,q with
  | [],_=>rfl
  | [x],_=>rfl
  | x::y::r,q=>simp only[List.length_cons] at q; omega
 have q:¬ d.size<2:=of_decide_eq_false q
 refine W.skip (W.seq (W.seq (W.run (by simp only[am,evOp,simprocAttr]<;>rfl) ?_)))
 refine W.block (W.loop (fun n ts h1=>∃ k:Nat,n=d.size-k∧1≤k∧k≤d.size∧h1=h∧compM (d.toList.take k)=d.toList.take k∧tget ts 0=.sl b o d.size c∧tget ts 3=.int .i64 (k:Nat)) ?_ (n:=d.size-1)
  ⟨1,rfl,Nat.le_refl _,by omega,rfl,?_,by simp only[am,evOp,simprocAttr,initTm],by simp only[am,evOp,simprocAttr,Int.natCast_one]⟩)
 ·rintro n ts h1 ⟨k,rfl,k1,k2,rfl,hk,e0,e3⟩
  refine W.seq (W.seq (W.run (by simp only[am,evOp,simprocAttr,e0,e3]<;>rfl) ?_))
  refine W.cond (t:=decide (k<d.size)) (by simp only[am,evOp,simprocAttr,Int.ofNat_lt]) (fun p=>?_) fun p=>?_
  ·have p:k<d.size:=of_decide_eq_true p
   have w1:IntKind.i64.wrap (((k:Nat):Int)-1)=((k-1:Nat):Int):=by rw[wr64 (by omega) (by omega)]; omega
   have i1:idx? ((k:Nat):Int) d.size=some k:=idx_nat p
   have i2:idx? ((k-1:Nat):Int) d.size=some (k-1):=idx_nat (by omega)
   have r1:=rd_blk (i:=k) hg hr p
   have r2:=rd_blk (i:=k-1) hg hr (by omega)
   refine W.skip (W.seq (W.block (W.seq (W.run (by simp only[am,evOp,simprocAttr,e0,e3,w1,i1,i2,r1,r2,Nat.mul_one]<;>rfl) ?_))))
   have hkt:=comp_take (d:=d) k1 p
   refine W.cond (t:=decide (d[k]! = d[k-1]!)) (by simp only[am,evOp,simprocAttr]) (fun z=>?_) fun z=>?_
   ·have z:d[k]! = d[k-1]!:=of_decide_eq_true z
    rw[if_pos z,List.append_nil,hk] at hkt
    have s1:=slV_lo hg p hc
    refine W.seq (W.run (by simp only[am,evOp,simprocAttr,e0,e3,slLA_eq,Option.map_none,s1]<;>rfl) ?_)
    refine W.seq (W.seq (W.run (by simp only[am,evOp,simprocAttr]<;>rfl) ?_))
    refine W.block (W.loop (fun n ts h2=>∃ (m x:Nat) (d2:Array Int),n=d.size-k-x∧1≤x∧x≤d.size-k∧k≤m∧m<k+x∧Upd h1 h2 b (blkI cs o d2)∧d2.size=d.size∧d2.toList.take m=compM (d.toList.take (k+x))∧(∀ y,k+x≤y+1→y<d.size→d2[y]! = d[y]!) ∧
     tget ts 0=.sl b o d.size c∧tget ts 3=.int .i64 (m:Nat)∧tget ts 4=.sl b (o+k) (d.size-k) (c-k)∧tget ts 5=.int .i64 (x:Nat)) ?_ (n:=d.size-k-1)
     ⟨k,1,d,rfl,Nat.le_refl _,by omega,Nat.le_refl _,by omega,Upd.refl hg,rfl,hkt.symm,fun _ _ _=>rfl,by simp only[am,evOp,simprocAttr,e0],by simp only[am,evOp,simprocAttr,e3],by simp only[am,evOp,simprocAttr],by simp only[am,evOp,simprocAttr,Int.natCast_one]⟩)
    clear e0 e3
    rintro n ts h2 ⟨m,x,d2,rfl,x1,x2,m1,m2,hu,hz,hd,hsame,e0,e3,e4,e5⟩
    refine W.seq (W.seq (W.run (by simp only[am,evOp,simprocAttr,e4,e5]<;>rfl) ?_))
    refine W.cond (t:=decide (x<d.size-k)) (by simp only[am,evOp,simprocAttr,Int.ofNat_lt]) (fun y=>?_) fun y=>?_
    ·have y:x<d.size-k:=of_decide_eq_true y
     have w2:IntKind.i64.wrap (((x:Nat):Int)-1)=((x-1:Nat):Int):=by rw[wr64 (by omega) (by omega)]; omega
     have w3:IntKind.i64.wrap (((x:Nat):Int)+1)=((x+1:Nat):Int):=wr64 (by omega) (by omega)
     have i3:idx? ((x:Nat):Int) (d.size-k)=some x:=idx_nat y
     have i4:idx? ((x-1:Nat):Int) (d.size-k)=some (x-1):=idx_nat (by omega)
     have r3:rdCells h2 b (o+k+x) 1=some [.int .i64 d2[k+x]!]:=by rw[Nat.add_assoc]; exact rd_blk (i:=k+x) hu.get (by omega) (by omega)
     have r4:rdCells h2 b (o+k+(x-1)) 1=some [.int .i64 d2[k+(x-1)]!]:=by rw[Nat.add_assoc]; exact rd_blk (i:=k+(x-1)) hu.get (by omega) (by omega)
     rw[hsame _ (by omega) (by omega)] at r3 r4
     have hct:=comp_take (d:=d) (k:=k+x) (by omega) (by omega)
     rw[show k+x-1=k+(x-1) by omega] at hct
     refine W.skip (W.seq (W.block (W.seq (W.run (by simp only[am,evOp,simprocAttr,e4,e5,w2,i3,i4,r3,r4,Nat.mul_one]<;>rfl) ?_))))
     refine W.cond (t:=!decide (d[k+x]! = d[k+(x-1)]!)) (by simp only[am,evOp,simprocAttr]) (fun u=>?_) fun u=>?_
     ·have u:¬ d[k+x]! = d[k+(x-1)]!:=by simpa using u
      rw[if_neg u] at hct
      have i5:idx? ((m:Nat):Int) d.size=some m:=idx_nat (by omega)
      obtain⟨h3,wr,u3⟩:=wr_blk (i:=m) (x:=d[k+x]!) hu.get (by omega) (by omega)
      have w4:IntKind.i64.wrap (((m:Nat):Int)+1)=((m+1:Nat):Int):=wr64 (by omega) (by omega)
      refine W.seq (W.run (by simp only[am,evOp,simprocAttr,e0,e3,e4,e5,i3,i5,r3,wr,Nat.mul_one]<;>rfl) ?_)
      refine W.run (by simp only[am,evOp,simprocAttr,e3,w4]<;>rfl) ?_
      refine W.run (by simp only[am,evOp,simprocAttr,e5,w3]<;>rfl) ?_
      refine⟨d.size-k-(x+1),by omega,m+1,x+1,d2.setIfInBounds m d[k+x]!,rfl,by omega,by omega,by omega,by omega,hu.trans u3,by simpa using hz,?_,fun y hy1 hy2=>?_,by simp only[am,evOp,simprocAttr,e0],by simp only[am,evOp,simprocAttr,e3,w4],by simp only[am,evOp,simprocAttr,e4],by simp only[am,evOp,simprocAttr,e5,w3]⟩
      ·rw[← Nat.add_assoc,hct,← hd,Array.toList_setIfInBounds]
       rw[List.take_set,List.take_succ_eq_append_getElem (by rw[Array.length_toList]; omega)]
       rw[List.set_append_right _ _ (by rw[List.length_take,Array.length_toList]; omega)]
       have em:m-(d2.toList.take m).length=0:=by rw[List.length_take,Array.length_toList]; omega
       rw[em]
       rfl
      ·rw[← hsame y (by omega) hy2]
       rw[getElem!_pos _ _ (by simpa using (by omega:y<d2.size)),getElem!_pos d2 _ (by omega),Array.getElem_setIfInBounds,if_neg (by omega)]
     ·have u:d[k+x]! = d[k+(x-1)]!:=by simpa using u
      rw[if_pos u,List.append_nil] at hct
      refine W.skip ?_
      refine W.run (by simp only[am,evOp,simprocAttr,e5,w3]<;>rfl) ?_
      exact⟨d.size-k-(x+1),by omega,m,x+1,d2,rfl,by omega,by omega,m1,by omega,hu,hz,by rw[← Nat.add_assoc,hct,hd],fun y hy1 hy2=>hsame y (by omega) hy2,by simp only[am,evOp,simprocAttr,e0],by simp only[am,evOp,simprocAttr,e3],by simp only[am,evOp,simprocAttr,e4],by simp only[am,evOp,simprocAttr,e5,w3]⟩
    ·have y:¬ x<d.size-k:=of_decide_eq_false y
     have ex:k+x=d.size:=by omega
     rw[ex,← Array.length_toList,List.take_length] at hd
     refine W.exit ⟨fun _=>?_,fun e=>absurd rfl e⟩
     have s2:=slV_lo (n:=d.size) (k:=m) hu.get (by omega) hc
     obtain⟨h3,d3,c3,u3,z3,t3⟩:=scl_blk (k:=m) (c:=c-m) hu.get (by omega) (by omega)
     rw[hz] at c3
     have s3:=slV_hi (n:=d.size) (k:=m) (c:=c) u3.get (by omega)
     refine W.seq (W.run (by simp only[am,evOp,simprocAttr,e0,e3,slLA_eq,Option.map_none,s2,c3]<;>rfl) ?_)
     refine W.seq (W.run (by simp only[am,evOp,simprocAttr,e0,e3,slLA_eq,Option.map_none,s3]<;>rfl) ?_)
     exact W.ret ⟨_,(by simp only[rs,rf29,am,evOp,simprocAttr]<;>rfl),d3,m,rfl,by omega,by omega,hu.trans u3,by rw[t3,hd]⟩
   ·have z:¬ d[k]! = d[k-1]!:=of_decide_eq_false z
    rw[if_neg z,hk] at hkt
    have w3:IntKind.i64.wrap (((k:Nat):Int)+1)=((k+1:Nat):Int):=wr64 (by omega) (by omega)
    refine W.skip ?_
    refine W.run (by simp only[am,evOp,simprocAttr,e3,w3]<;>rfl) ?_
    refine⟨d.size-(k+1),by omega,k+1,rfl,by omega,by omega,rfl,?_,by simp only[am,evOp,simprocAttr,e0],by simp only[am,evOp,simprocAttr,e3,w3]⟩
    rw[hkt,List.take_succ_eq_append_getElem (by rw[Array.length_toList]; exact p),getElem!_pos d _ p]
    rfl
  ·have p:¬ k<d.size:=of_decide_eq_false p
   refine W.exit ⟨fun _=>?_,fun e=>absurd rfl e⟩
   refine W.seq (W.run (by simp only[am,evOp,simprocAttr,e0]<;>rfl) ?_)
   have ek:k=d.size:=by omega
   refine W.ret ⟨_,(by simp only[rs,rf29,am,evOp,simprocAttr]<;>rfl),d,d.size,rfl,Nat.le_refl _,rfl,Upd.refl hg,?_⟩
   rw[ek,← Array.length_toList,List.take_length] at hk
   rw[← Array.length_toList,List.take_length,hk]
 ·match hl:d.toList,(by rw[Array.length_toList]; omega:2≤d.toList.length) with
  | x::r,_=>rfl
end Go.Proofs.YticaalcbgikjjaaGreatDoor
