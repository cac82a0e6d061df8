/-
  slices.Compact of ints. The graph of some edges, in plain words. slices.BinarySearch of ints in order. More than one element appended at once.
-/
import Derived.Test.YtihedjolidbfiaaGreatDoorYLc
import Derived.Test.YtihedjolidbfiaaGreatDoorYAmR
import Derived.Test.YtihedjolidbfiaaGreatDoorYLd
import Derived.Test.YtihedjolidbfiaaGreatDoorYLg
import Derived.Test.YtihedjolidbfiaaGreatDoorYLa
import Derived.Test.YtihedjolidbfiaaGreatDoorYRf
set_option linter.all false
namespace Go.Proofs.YtihedjolidbfiaaGreatDoor
open Go.Am
def dd (x:Int):List Int→List Int
 | []=>[]
 | y::r=>if y=x then dd x r else y::dd y r
def compM:List Int→List Int
 | []=>[]
 | x::r=>x::dd x r
theorem dd_snoc (y:Int):∀ (x:Int) (l:List Int),dd x (l++[y])=dd x l++if (x::l).getLast (by simp)=y then [] else [y]
 | x,[]=>by
   show (if y=x then dd x [] else y::dd y [])=[]++if x=y then [] else [y]
   by_cases q:y=x
   ·subst q; simp [dd]
   ·have q2:¬ x=y:=fun e=>q e.symm
    simp [q,q2,dd]
 | x,z::l=>by
   simp only[List.cons_append,dd]
   rw[List.getLast_cons (by simp)]
   split
   ·rename_i e
    subst e
    exact dd_snoc y z l
   ·rw[dd_snoc y z l]
    rfl
theorem comp_snoc {l:List Int}{y:Int} (hl:l≠[]):compM (l++[y])=compM l++if l.getLast hl=y then [] else [y]:=by
 cases l with
 | nil=>exact absurd rfl hl
 | cons x r =>
   simp only[List.cons_append,compM]
   rw[dd_snoc]
theorem comp_take {d:Array Int}{k:Nat} (h0:0<k) (hk:k<d.size):compM (d.toList.take (k+1))=compM (d.toList.take k)++if d[k]! = d[k-1]! then [] else [d[k]!]:=by
 have hk':k<d.toList.length:=by rw[Array.length_toList]; exact hk
 have hne:d.toList.take k≠[]:=by
  intro e
  have:=congrArg List.length e
  rw[List.length_take,Array.length_toList,List.length_nil] at this
  omega
 rw[List.take_succ_eq_append_getElem hk',comp_snoc hne]
 have e1:(d.toList.take k).getLast hne=d[k-1]!:=by
  rw[List.getLast_eq_getElem,List.getElem_take,getElem!_pos d _ (by omega)]
  simp only[List.length_take,Array.length_toList,Nat.min_eq_left (Nat.le_of_lt hk)]
  rfl
 have e2:d.toList[k]=d[k]!:=by rw[getElem!_pos d _ hk]; rfl
 rw[e1,e2]
 by_cases q:d[k]! = d[k-1]!
 ·rw[if_pos q.symm,if_pos q]
 ·rw[if_neg (fun e=>q e.symm),if_neg q]
theorem slV_lo {h:AH}{b o n c k:Nat}{cs:List AV}{d:Array Int} (hg:h.get b=some (blkI cs o d)) (hk:k<n) (hn:n≤c):slV h 1 (.sl b o n c) (some (.int .i64 (k:Nat))) none none=some (.sl b (o+k) (n-k) (c-k)):=by
 have h2:=bnd_nat (k:=.i64) (Nat.le_of_lt hk)
 unfold blkI at hg
 simp only[slV,hg,if_true,bnds,h2,Option.map_some,Option.isSome_none,Bool.false_eq_true,if_false]
 rw[if_neg (by omega),Nat.mul_one]
theorem slV_hi {h:AH}{b o n c k:Nat}{cs:List AV}{d:Array Int} (hg:h.get b=some (blkI cs o d)) (hk:k≤c):slV h 1 (.sl b o n c) none (some (.int .i64 (k:Nat))) none=some (.sl b o k c):=by
 have h2:=bnd_nat (k:=.i64) hk
 unfold blkI at hg
 simp only[slV,hg,if_true,bnds,h2,Option.map_some,Nat.zero_mul,Nat.add_zero,Nat.sub_zero,ite_self]
theorem scl_blk {h:AH}{b o k c:Nat}{cs:List AV}{d:Array Int} (hg:h.get b=some (blkI cs o d)) (hr:o+d.size≤cs.length) (hk:k<d.size) :
 ∃ h' d',sclA h [.int .i64 0] (.sl b (o+k) (d.size-k) c)=some (.un,h')∧Upd h h' b (blkI cs o d')∧d'.size=d.size∧d'.toList.take k=d.toList.take k:=by
 have hr':o+(ints d).length≤cs.length:=by rw[ints_len]; exact hr
 have e0:repl [AV.int .i64 0] (d.size-k)=List.replicate (d.size-k) (.int .i64 0):=repl_rep _
 have ez:(repl [AV.int .i64 0] (d.size-k)).all AV.one=true:=by
  rw[e0,List.all_eq_true]
  intro x hx
  rw[List.eq_of_mem_replicate hx]
  rfl
 refine⟨_,(d.toList.take k++List.replicate (d.size-k) 0).toArray,?_,Upd.put hg,?_,?_⟩
 ·unfold sclA
  simp only
  rw[if_neg (by omega),if_pos ez,wrCells_of hg,if_pos (by rw[splice_len hr',e0,List.length_replicate]; omega)]
  simp only[Option.map_some,Option.some.injEq,Prod.mk.injEq,true_and]
  congr 2
  refine List.ext_getElem? fun i=>?_
  have l1:(ints d).length=d.size:=ints_len d
  have l2:o+k+(repl [AV.int .i64 0] (d.size-k)).length≤(splice cs o (ints d)).length:=by rw[splice_len hr',e0,List.length_replicate]; omega
  have l4:(ints (d.toList.take k++List.replicate (d.size-k) 0).toArray).length=d.size:=by
   rw[ints_len]
   simp only[List.size_toArray,List.length_append,List.length_take,Array.length_toList,List.length_replicate]
   omega
  rw[splice_at l2,splice_at hr',splice_at (by rw[l4]; omega),l1,l4,e0,List.length_replicate]
  unfold ints
  simp only[List.map_append,List.map_replicate,List.getElem?_append,List.length_map,List.length_take,Array.length_toList,List.getElem?_replicate]
  rw[Nat.min_eq_left (Nat.le_of_lt hk)]
  by_cases q1:o≤i∧i<o+d.size
  ·rw[if_pos q1,if_pos q1]
   by_cases q2:i-o<k
   ·rw[if_pos q2,if_neg (by omega),List.map_take,List.getElem?_take,if_pos q2]
   ·rw[if_neg q2,if_pos (by omega),if_pos (by omega),if_pos (by omega)]
  ·rw[if_neg q1,if_neg q1,if_neg (by omega)]
 ·simp only[List.size_toArray,List.length_append,List.length_take,Array.length_toList,List.length_replicate]
  omega
 ·simp only[List.toList_toArray]
  rw[List.take_append_of_le_length (by rw[List.length_take,Array.length_toList]; omega),List.take_take,Nat.min_self]
theorem compact_ok {h:AH}{b o c:Nat}{cs:List AV}{d:Array Int} (hg:h.get b=some (blkI cs o d)) (hr:o+d.size≤cs.length) (hc:d.size≤c) (hs:d.size<2 ^ 38) :
 C prg 49 [.sl b o d.size c] h fun r h'=>∃ (d':Array Int) (m:Nat),r=.sl b o m c∧m≤d.size∧d'.size=d.size∧Upd h h' b (blkI cs o d')∧d'.toList.take m=compM d.toList:=by
 refine C.func pf49 ?_
 refine W.seq (W.run (by simp only[am,evOp,simprocAttr,initTm]<;>rfl) ?_)
 refine W.seq (W.seq (W.run (by simp only[am,evOp,simprocAttr,initTm]<;>rfl) ?_))
 refine W.cond (t:=decide (d.size<2)) (by simp only[am,evOp,simprocAttr]; exact congrArg AV.bool (by simp only[decide_eq_decide]; omega)) (fun q=>?_) fun q=>?_
 ·have q:d.size<2:=of_decide_eq_true q
  refine W.seq (W.run (by simp only[am,evOp,simprocAttr,initTm]<;>rfl) ?_)
  refine W.ret ⟨_,(by simp only[rs,rf49,am,evOp,simprocAttr]<;>rfl),d,d.size,rfl,Nat.le_refl _,rfl,Upd.refl hg,?_⟩
  rw[← Array.length_toList,List.take_length]
  rw[← Array.length_toList] at q
  match d.toList,q with
  | [],_=>rfl
  | [x],_=>rfl
  | x::y::r,q=>simp only[List.length_cons] at q; omega
 have q:¬ d.size<2:=of_decide_eq_false q
 refine W.skip (W.seq (W.seq (W.run (by simp only[am,evOp,simprocAttr]<;>rfl) ?_)))
 refine W.block (W.loop (fun n ts h1=>∃ k:Nat,n=d.size-k∧1≤k∧k≤d.size∧h1=h∧compM (d.toList.take k)=d.toList.take k∧tget ts 0=.sl b o d.size c∧tget ts 3=.int .i64 (k:Nat)) ?_ (n:=d.size-1)
  ⟨1,rfl,Nat.le_refl _,by omega,rfl,?_,by simp only[am,evOp,simprocAttr,initTm],by simp only[am,evOp,simprocAttr,Int.natCast_one]⟩)
 ·rintro n ts h1 ⟨k,rfl,k1,k2,rfl,hk,e0,e3⟩
  refine W.seq (W.seq (W.run (by simp only[am,evOp,simprocAttr,e0,e3]<;>rfl) ?_))
  refine W.cond (t:=decide (k<d.size)) (by simp only[am,evOp,simprocAttr,Int.ofNat_lt]) (fun p=>?_) fun p=>?_
  ·have p:k<d.size:=of_decide_eq_true p
   have w1:IntKind.i64.wrap (((k:Nat):Int)-1)=((k-1:Nat):Int):=by rw[wr64 (by omega) (by omega)]; omega
   have i1:idx? ((k:Nat):Int) d.size=some k:=idx_nat p
   have i2:idx? ((k-1:Nat):Int) d.size=some (k-1):=idx_nat (by omega)
   have r1:=rd_blk (i:=k) hg hr p
   have r2:=rd_blk (i:=k-1) hg hr (by omega)
   refine W.skip (W.seq (W.block (W.seq (W.run (by simp only[am,evOp,simprocAttr,e0,e3,w1,i1,i2,r1,r2,Nat.mul_one]<;>rfl) ?_))))
   have hkt:=comp_take (d:=d) k1 p
   refine W.cond (t:=decide (d[k]! = d[k-1]!)) (by simp only[am,evOp,simprocAttr]) (fun z=>?_) fun z=>?_
   ·have z:d[k]! = d[k-1]!:=of_decide_eq_true z
    rw[if_pos z,List.append_nil,hk] at hkt
    have s1:=slV_lo hg p hc
    refine W.seq (W.run (by simp only[am,evOp,simprocAttr,e0,e3,slLA_eq,Option.map_none,s1]<;>rfl) ?_)
    refine W.seq (W.seq (W.run (by simp only[am,evOp,simprocAttr]<;>rfl) ?_))
    refine W.block (W.loop (fun n ts h2=>∃ (m x:Nat) (d2:Array Int),n=d.size-k-x∧1≤x∧x≤d.size-k∧k≤m∧m<k+x∧Upd h1 h2 b (blkI cs o d2)∧d2.size=d.size∧d2.toList.take m=compM (d.toList.take (k+x))∧(∀ y,k+x≤y+1→y<d.size→d2[y]! = d[y]!) ∧
     tget ts 0=.sl b o d.size c∧tget ts 3=.int .i64 (m:Nat)∧tget ts 4=.sl b (o+k) (d.size-k) (c-k)∧tget ts 5=.int .i64 (x:Nat)) ?_ (n:=d.size-k-1)
     ⟨k,1,d,rfl,Nat.le_refl _,by omega,Nat.le_refl _,by omega,Upd.refl hg,rfl,hkt.symm,fun _ _ _=>rfl,by simp only[am,evOp,simprocAttr,e0],by simp only[am,evOp,simprocAttr,e3],by simp only[am,evOp,simprocAttr],by simp only[am,evOp,simprocAttr,Int.natCast_one]⟩)
    clear e0 e3
    rintro n ts h2 ⟨m,x,d2,rfl,x1,x2,m1,m2,hu,hz,hd,hsame,e0,e3,e4,e5⟩
    refine W.seq (W.seq (W.run (by simp only[am,evOp,simprocAttr,e4,e5]<;>rfl) ?_))
    refine W.cond (t:=decide (x<d.size-k)) (by simp only[am,evOp,simprocAttr,Int.ofNat_lt]) (fun y=>?_) fun y=>?_
    ·have y:x<d.size-k:=of_decide_eq_true y
     have w2:IntKind.i64.wrap (((x:Nat):Int)-1)=((x-1:Nat):Int):=by rw[wr64 (by omega) (by omega)]; omega
     have w3:IntKind.i64.wrap (((x:Nat):Int)+1)=((x+1:Nat):Int):=wr64 (by omega) (by omega)
     have i3:idx? ((x:Nat):Int) (d.size-k)=some x:=idx_nat y
     have i4:idx? ((x-1:Nat):Int) (d.size-k)=some (x-1):=idx_nat (by omega)
     have r3:rdCells h2 b (o+k+x) 1=some [.int .i64 d2[k+x]!]:=by rw[Nat.add_assoc]; exact rd_blk (i:=k+x) hu.get (by omega) (by omega)
     have r4:rdCells h2 b (o+k+(x-1)) 1=some [.int .i64 d2[k+(x-1)]!]:=by rw[Nat.add_assoc]; exact rd_blk (i:=k+(x-1)) hu.get (by omega) (by omega)
     rw[hsame _ (by omega) (by omega)] at r3 r4
     have hct:=comp_take (d:=d) (k:=k+x) (by omega) (by omega)
     rw[show k+x-1=k+(x-1) by omega] at hct
     refine W.skip (W.seq (W.block (W.seq (W.run (by simp only[am,evOp,simprocAttr,e4,e5,w2,i3,i4,r3,r4,Nat.mul_one]<;>rfl) ?_))))
     refine W.cond (t:=!decide (d[k+x]! = d[k+(x-1)]!)) (by simp only[am,evOp,simprocAttr]) (fun u=>?_) fun u=>?_
     ·have u:¬ d[k+x]! = d[k+(x-1)]!:=by simpa using u
      rw[if_neg u] at hct
      have i5:idx? ((m:Nat):Int) d.size=some m:=idx_nat (by omega)
      obtain⟨h3,wr,u3⟩:=wr_blk (i:=m) (x:=d[k+x]!) hu.get (by omega) (by omega)
      have w4:IntKind.i64.wrap (((m:Nat):Int)+1)=((m+1:Nat):Int):=wr64 (by omega) (by omega)
      refine W.seq (W.run (by simp only[am,evOp,simprocAttr,e0,e3,e4,e5,i3,i5,r3,wr,Nat.mul_one]<;>rfl) ?_)
      refine W.run (by simp only[am,evOp,simprocAttr,e3,w4]<;>rfl) ?_
      refine W.run (by simp only[am,evOp,simprocAttr,e5,w3]<;>rfl) ?_
      refine⟨d.size-k-(x+1),by omega,m+1,x+1,d2.setIfInBounds m d[k+x]!,rfl,by omega,by omega,by omega,by omega,hu.trans u3,by simpa using hz,?_,fun y hy1 hy2=>?_,by simp only[am,evOp,simprocAttr,e0],by simp only[am,evOp,simprocAttr,e3,w4],by simp only[am,evOp,simprocAttr,e4],by simp only[am,evOp,simprocAttr,e5,w3]⟩
      ·rw[← Nat.add_assoc,hct,← hd,Array.toList_setIfInBounds]
       rw[List.take_set,List.take_succ_eq_append_getElem (by rw[Array.length_toList]; omega)]
       rw[List.set_append_right _ _ (by rw[List.length_take,Array.length_toList]; omega)]
       have em:m-(d2.toList.take m).length=0:=by rw[List.length_take,Array.length_toList]; omega
       rw[em]
       rfl
      ·rw[← hsame y (by omega) hy2]
       rw[getElem!_pos _ _ (by simpa using (by omega:y<d2.size)),getElem!_pos d2 _ (by omega),Array.getElem_setIfInBounds,if_neg (by omega)]
     ·have u:d[k+x]! = d[k+(x-1)]!:=by simpa using u
      rw[if_pos u,List.append_nil] at hct
      refine W.skip ?_
      refine W.run (by simp only[am,evOp,simprocAttr,e5,w3]<;>rfl) ?_
      exact⟨d.size-k-(x+1),by omega,m,x+1,d2,rfl,by omega,by omega,m1,by omega,hu,hz,by rw[← Nat.add_assoc,hct,hd],fun y hy1 hy2=>hsame y (by omega) hy2,by simp only[am,evOp,simprocAttr,e0],by simp only[am,evOp,simprocAttr,e3],by simp only[am,evOp,simprocAttr,e4],by simp only[am,evOp,simprocAttr,e5,w3]⟩
    ·have y:¬ x<d.size-k:=of_decide_eq_false y
     have ex:k+x=d.size:=by omega
     rw[ex,← Array.length_toList,List.take_length] at hd
     refine W.exit ⟨fun _=>?_,fun e=>absurd rfl e⟩
     have s2:=slV_lo (n:=d.size) (k:=m) hu.get (by omega) hc
     obtain⟨h3,d3,c3,u3,z3,t3⟩:=scl_blk (k:=m) (c:=c-m) hu.get (by omega) (by omega)
     rw[hz] at c3
     have s3:=slV_hi (n:=d.size) (k:=m) (c:=c) u3.get (by omega)
     refine W.seq (W.run (by simp only[am,evOp,simprocAttr,e0,e3,slLA_eq,Option.map_none,s2,c3]<;>rfl) ?_)
     refine W.seq (W.run (by simp only[am,evOp,simprocAttr,e0,e3,slLA_eq,Option.map_none,s3]<;>rfl) ?_)
     exact W.ret ⟨_,(by simp only[rs,rf49,am,evOp,simprocAttr]<;>rfl),d3,m,rfl,by omega,by omega,hu.trans u3,by rw[t3,hd]⟩
   ·have z:¬ d[k]! = d[k-1]!:=of_decide_eq_false z
    rw[if_neg z,hk] at hkt
    have w3:IntKind.i64.wrap (((k:Nat):Int)+1)=((k+1:Nat):Int):=wr64 (by omega) (by omega)
    refine W.skip ?_
    refine W.run (by simp only[am,evOp,simprocAttr,e3,w3]<;>rfl) ?_
    refine⟨d.size-(k+1),by omega,k+1,rfl,by omega,by omega,rfl,?_,by simp only[am,evOp,simprocAttr,e0],by simp only[am,evOp,simprocAttr,e3,w3]⟩
    rw[hkt,List.take_succ_eq_append_getElem (by rw[Array.length_toList]; exact p),getElem!_pos d _ p]
    rfl
  ·have p:¬ k<d.size:=of_decide_eq_false p
   refine W.exit ⟨fun _=>?_,fun e=>absurd rfl e⟩
   refine W.seq (W.run (by simp only[am,evOp,simprocAttr,e0]<;>rfl) ?_)
   have ek:k=d.size:=by omega
   refine W.ret ⟨_,(by simp only[rs,rf49,am,evOp,simprocAttr]<;>rfl),d,d.size,rfl,Nat.le_refl _,rfl,Upd.refl hg,?_⟩
   rw[ek,← Array.length_toList,List.take_length] at hk
   rw[← Array.length_toList,List.take_length,hk]
 ·match hl:d.toList,(by rw[Array.length_toList]; omega:2≤d.toList.length) with
  | x::r,_=>rfl
end Go.Proofs.YtihedjolidbfiaaGreatDoor
namespace Go.Proofs.YtihedjolidbfiaaGreatDoor
open Go.Am
def edM (E:List (Int×Int)) (i:Int):Int×Int:=E.getD i.toNat (0,0)
def SomeP (E:List (Int×Int)) (es:List Int):Prop:=(∀ i∈es,0≤i∧i<(E.length:Nat))∧es.Nodup
def endsS (E:List (Int×Int)) (es:List Int):List Int:=es.flatMap fun i=>[(edM E i).1,(edM E i).2]
def vsM (n:Nat) (E:List (Int×Int)) (es:List Int):List Int:=(upTo n).filter fun v=>decide (v∈endsS E es)
def rankM (n:Nat) (E:List (Int×Int)) (es:List Int) (v:Int):Nat:=(vsM n E es).countP fun u=>decide (u<v)
def subM (n:Nat) (E:List (Int×Int)) (es:List Int):List (Int×Int):=es.map fun i=>(((rankM n E es (edM E i).1:Nat):Int),((rankM n E es (edM E i).2:Nat):Int))
theorem nd_le:∀ {l m:List Int},l.Nodup→(∀ x∈l,x∈m)→l.length≤m.length
 | [],_,_,_=>Nat.zero_le _
 | a::l,m,hn,hs=>by
   have hn':=List.nodup_cons.1 hn
   have hm:=hs a (List.mem_cons_self ..)
   have ih:=nd_le (l:=l) (m:=m.erase a) hn'.2 fun x hx=>(List.mem_erase_of_ne (fun e:x=a=>hn'.1 (e▸hx))).2 (hs x (List.mem_cons_of_mem _ hx))
   rw[List.length_erase_of_mem hm] at ih
   have:=List.length_pos_of_mem hm
   simp only[List.length_cons]
   omega
theorem some_len {E:List (Int×Int)}{es:List Int} (h:SomeP E es):es.length≤E.length:=by
 have h1:es.length≤(upTo E.length).length:=by
  refine nd_le h.2 fun i hi=>?_
  rw[mem_upTo]
  exact h.1 i hi
 rwa [upTo_len] at h1
theorem ends_in {n:Int}{E:List (Int×Int)}{es:List Int} (hm:mayB n E=true) (hs:∀ i∈es,0≤i∧i<(E.length:Nat)):∀ v∈endsS E es,0≤v∧v<n:=by
 intro v hv
 unfold endsS at hv
 rw[List.mem_flatMap] at hv
 obtain⟨i,hi,hv⟩:=hv
 obtain⟨h1,h2⟩:=hs i hi
 unfold mayB at hm
 simp only[Bool.and_eq_true,List.all_eq_true] at hm
 have hk:i.toNat<E.length:=by omega
 have he:edM E i=E[i.toNat]:=by unfold edM; rw[List.getD_eq_getElem?_getD,List.getElem?_eq_getElem hk]; rfl
 have:=hm.2 _ (List.getElem_mem hk)
 rw[← he] at this
 simp only[okE,outB,Bool.and_eq_true,Bool.not_eq_true',Bool.or_eq_false_iff,decide_eq_false_iff_not,decide_eq_true_eq] at this
 simp only[List.mem_cons,List.not_mem_nil,or_false] at hv
 rcases hv with rfl|rfl<;>omega
theorem dd_mem (z:Int):∀ (x:Int) (l:List Int),(z=x∨z∈dd x l)↔(z=x∨z∈l)
 | x,[]=>by simp [dd]
 | x,y::r=>by
   unfold dd
   split
   ·rename_i e
    subst e
    rw[dd_mem z y r,List.mem_cons]
    constructor
    ·rintro (h|h)
     ·exact .inl h
     ·exact .inr (.inr h)
    ·rintro (h|h|h)
     ·exact .inl h
     ·exact .inl h
     ·exact .inr h
   ·rw[List.mem_cons,List.mem_cons,dd_mem z y r]
theorem comp_mem {z:Int}{l:List Int}:z∈compM l↔z∈l:=by
 cases l with
 | nil=>rfl
 | cons x r=>simp only[compM,List.mem_cons]; exact dd_mem z x r
theorem dd_lt:∀ (x:Int) (l:List Int),(x::l).Pairwise (·≤·)→(x::dd x l).Pairwise (·<·)
 | x,[],_=>by simp [dd]
 | x,y::r,h=>by
   unfold dd
   split
   ·rename_i e
    subst e
    exact dd_lt y r (List.Pairwise.of_cons h)
   ·rename_i e
    have h1:=dd_lt y r (List.Pairwise.of_cons h)
    have h2:x≤y:=(List.pairwise_cons.1 h).1 y (List.mem_cons_self ..)
    have h3:x<y:=by omega
    refine List.pairwise_cons.2 ⟨fun z hz=>?_,h1⟩
    rcases List.mem_cons.1 hz with rfl|hz
    ·exact h3
    ·have:=(List.pairwise_cons.1 h1).1 z hz
     omega
theorem comp_lt {l:List Int} (h:l.Pairwise (·≤·)):(compM l).Pairwise (·<·):=by
 cases l with
 | nil=>exact List.Pairwise.nil
 | cons x r=>exact dd_lt x r h
theorem rising_ext:∀ {l m:List Int},l.Pairwise (·<·)→m.Pairwise (·<·)→(∀ x,x∈l↔x∈m)→l=m
 | [],[],_,_,_=>rfl
 | [],y::m,_,_,h=>by have:=(h y).2 (List.mem_cons_self ..); cases this
 | x::l,[],_,_,h=>by have:=(h x).1 (List.mem_cons_self ..); cases this
 | x::l,y::m,h1,h2,h=>by
   obtain⟨a1,a2⟩:=List.pairwise_cons.1 h1
   obtain⟨b1,b2⟩:=List.pairwise_cons.1 h2
   have e:x=y:=by
    have hx:=(h x).1 (List.mem_cons_self ..)
    have hy:=(h y).2 (List.mem_cons_self ..)
    rcases List.mem_cons.1 hx with q|q
    ·exact q
    ·rcases List.mem_cons.1 hy with p|p
     ·exact p.symm
     ·have:=a1 y p; have:=b1 x q; omega
   subst e
   rw[rising_ext a2 b2 fun z=>?_]
   have hz:=h z
   rw[List.mem_cons,List.mem_cons] at hz
   constructor
   ·intro q
    rcases hz.1 (.inr q) with p|p
    ·have:=a1 z q; omega
    ·exact p
   ·intro q
    rcases hz.2 (.inr q) with p|p
    ·have:=b1 z q; omega
    ·exact p
theorem isort_sorted (xs:List Int):(isort xs).Pairwise (·≤·):=by
 have:=List.pairwise_mergeSort (le:=fun x y=>decide (x≤y)) (fun a b c h1 h2=>by simp only[decide_eq_true_eq] at *; omega) (fun a b=>by simp only[Bool.or_eq_true,decide_eq_true_eq]; omega) xs
 exact this.imp fun h=>of_decide_eq_true h
theorem isort_mem {z:Int}{xs:List Int}:z∈isort xs↔z∈xs:=(List.mergeSort_perm xs _).mem_iff
theorem vs_lt (n:Nat) (E:List (Int×Int)) (es:List Int):(vsM n E es).Pairwise (·<·):=by
 unfold vsM
 refine List.Pairwise.filter _ ?_
 unfold upTo
 rw[List.pairwise_map]
 exact List.pairwise_lt_range.imp fun h=>by omega
theorem names_eq {n:Int}{E:List (Int×Int)}{es:List Int} (hm:mayB n E=true) (hs:∀ i∈es,0≤i∧i<(E.length:Nat)):compM (isort (endsS E es))=vsM n.toNat E es:=by
 refine rising_ext (comp_lt (isort_sorted _)) (vs_lt _ _ _) fun x=>?_
 rw[comp_mem,isort_mem]
 unfold vsM
 rw[List.mem_filter,mem_upTo]
 constructor
 ·intro hx
  have:=ends_in hm hs x hx
  exact⟨⟨this.1,by omega⟩,decide_eq_true hx⟩
 ·exact fun hx=>of_decide_eq_true hx.2
theorem upTo_succ (n:Nat):upTo (n+1)=upTo n++[((n:Nat):Int)]:=by
 unfold upTo
 rw[List.range_succ,List.map_append]
 rfl
theorem vs_succ (n:Nat) (E:List (Int×Int)) (es:List Int):vsM (n+1) E es=vsM n E es++if ((n:Nat):Int)∈endsS E es then [((n:Nat):Int)] else []:=by
 unfold vsM
 rw[upTo_succ,List.filter_append]
 congr 1
 by_cases q:((n:Nat):Int)∈endsS E es
 ·simp [q]
 ·simp [q]
theorem rank_below {E:List (Int×Int)}{es:List Int}{v:Nat}:∀ k,rankM (v+k) E es (v:Nat)=(vsM v E es).length
 | 0=>by
   unfold rankM
   rw[Nat.add_zero,List.countP_eq_length]
   intro u hu
   unfold vsM at hu
   rw[List.mem_filter,mem_upTo] at hu
   exact decide_eq_true hu.1.2
 | k+1=>by
   rw[← rank_below k]
   unfold rankM
   rw[← Nat.add_assoc,vs_succ,List.countP_append]
   have:(if ((v+k:Nat):Int)∈endsS E es then [((v+k:Nat):Int)] else []).countP (fun u=>decide (u<((v:Nat):Int)))=0:=by
    split
    ·rw[List.countP_cons_of_neg (by simp only[decide_eq_true_eq]; omega)]; rfl
    ·rfl
   rw[this]
   rfl
end Go.Proofs.YtihedjolidbfiaaGreatDoor
namespace Go.Proofs.YtihedjolidbfiaaGreatDoor
open Go.Am
theorem snan_ok {h:AH}{x:Int}:C prg 86 [.int .i64 x] h fun v h'=>v=.bool false∧h'=h:=by
 refine C.func pf86 ?_
 refine W.seq (W.run (by simp only[am,evOp,simprocAttr,initTm]<;>rfl) ?_)
 have e:(!decide (x=x))=false:=by simp
 refine W.seq (W.run (by simp only[am,evOp,simprocAttr,initTm,e]<;>rfl) ?_)
 exact W.ret ⟨.bool false,(by simp only[rs,rf86,am,evOp,simprocAttr,initTm,decide_true]<;>rfl),rfl,rfl⟩
theorem countP_split {xs:List Int}{t:Int}{i:Nat} (hi:i≤xs.length) (h1:∀ k (hk:k<xs.length),k<i→xs[k]<t) (h2:∀ k (hk:k<xs.length),i≤k→¬ xs[k]<t):(xs.countP fun u=>decide (u<t))=i:=by
 have e:=List.countP_append (p:=fun u=>decide (u<t)) (l₁:=xs.take i) (l₂:=xs.drop i)
 rw[List.take_append_drop] at e
 rw[e]
 have a:(xs.take i).countP (fun u=>decide (u<t))=(xs.take i).length:=by
  rw[List.countP_eq_length]
  intro u hu
  obtain⟨k,hk,rfl⟩:=List.mem_iff_getElem.1 hu
  rw[List.length_take] at hk
  rw[List.getElem_take]
  exact decide_eq_true (h1 k (by omega) (by omega))
 have b:(xs.drop i).countP (fun u=>decide (u<t))=0:=by
  rw[List.countP_eq_zero]
  intro u hu
  obtain⟨k,hk,rfl⟩:=List.mem_iff_getElem.1 hu
  rw[List.length_drop] at hk
  rw[List.getElem_drop]
  simpa using h2 (i+k) (by omega) (by omega)
 rw[a,b,List.length_take]
 omega
theorem bsearch_ok {h:AH}{v:AV}{xs:List Int}{t:Int} (hv:SlI h v xs) (hs:xs.Pairwise (·≤·)) (hl:xs.length<2 ^ 40) :
 C prg 50 [v,.int .i64 t] h fun r h'=>r=.tup [.int .i64 ((xs.countP (fun u=>decide (u<t)):Nat):Int),.bool (decide (t∈xs))]∧h'=h:=by
 have el:=hv.len
 rw[List.length_map] at el
 have hle:∀ i j (hi:i<xs.length) (hj:j<xs.length),i≤j→xs[i]≤xs[j]:=fun i j hi hj hij=>by
  rcases Nat.lt_or_ge i j with q|q
  ·exact List.pairwise_iff_getElem.1 hs i j hi hj q
  ·have:i=j:=by omega
   subst this
   exact Int.le_refl _
 refine C.func pf50 ?_
 refine W.seq (W.run (by simp only[am,evOp,simprocAttr,initTm]<;>rfl) ?_)
 refine W.seq (W.run (by simp only[am,evOp,simprocAttr,initTm,el]<;>rfl) ?_)
 refine W.seq (W.run (by simp only[am,evOp,simprocAttr,initTm]<;>rfl) ?_)
 refine W.seq (W.block (W.loop (fun n ts h1=>∃ i j:Nat,n=j-i∧i≤j∧j≤xs.length∧h1=h∧(∀ k (hk:k<xs.length),k<i→xs[k]<t)∧(∀ k (hk:k<xs.length),j≤k→¬ xs[k]<t) ∧
  tget ts 0=v∧tget ts 1=.int .i64 t∧tget ts 6=.int .i64 (xs.length:Nat)∧tget ts 7=.int .i64 (i:Nat)∧tget ts 8=.int .i64 (j:Nat)) ?_ (n:=xs.length)
  ⟨0,xs.length,rfl,Nat.zero_le _,Nat.le_refl _,rfl,fun k hk q=>absurd q (Nat.not_lt_zero _),fun k hk q=>by omega,by simp only[am,evOp,simprocAttr,initTm],by simp only[am,evOp,simprocAttr,initTm],by simp only[am,evOp,simprocAttr,initTm],by simp only[am,evOp,simprocAttr,initTm,Int.natCast_zero],by simp only[am,evOp,simprocAttr,initTm]⟩))
 rintro n ts h1 ⟨i,j,rfl,hij,hj,rfl,q1,q2,e0,e1,e6,e7,e8⟩
 refine W.seq (W.seq (W.run (by simp only[am,evOp,simprocAttr,e7,e8]<;>rfl) ?_))
 refine W.cond (t:=decide (i<j)) (by simp only[am,evOp,simprocAttr,Int.ofNat_lt]) (fun q=>?_) fun q=>?_
 ·have q:i<j:=of_decide_eq_true q
  have w1:IntKind.i64.wrap (((i:Nat):Int)+((j:Nat):Int))=((i+j:Nat):Int):=by rw[wr64 (by omega) (by omega)]; omega
  have w2:IntKind.u64.wrap ((i+j:Nat):Int)=((i+j:Nat):Int):=u64_of (by omega)
  have w3:binA .shr .no (.int .u64 ((i+j:Nat):Int)) (.int .u64 1)=some (.int .u64 (((i+j) / 2:Nat):Int)):=shr_u64 (k:=1) (by omega)
  have w4:IntKind.i64.wrap (((i+j) / 2:Nat):Int)=(((i+j) / 2:Nat):Int):=wr64 (by omega) (by omega)
  refine W.skip (W.block (W.seq (W.run (by simp only[am,evOp,simprocAttr,e7,e8,w1,w2,w3,w4]<;>rfl) ?_)))
  have hm:(i+j) / 2<xs.length:=by omega
  have hm1:i≤(i+j) / 2:=by omega
  have hm2:(i+j) / 2<j:=by omega
  generalize (i+j) / 2=m at *
  obtain⟨b1,p1,a1,r1,_⟩:=hv.at1 (map_at (f:=eI) hm)
  refine W.seq (W.reg (G.gcall 5 (by simp only[am,evOp,simprocAttr,e0,e1,a1,r1]<;>rfl) rfl (by simp only[am,evOp,simprocAttr,e0,e1,a1,r1]) (by simp only[am,evOp,simprocAttr,e0,e1,a1,r1]<;>rfl) (less_ok) fun v h' hq=>?_))
  obtain⟨rfl,rfl⟩:=hq
  refine G.run (by simp only[am,evOp,simprocAttr]; rfl) ?_
  refine W.cond (t:=Go.Sort.ltInt xs[m] t) (by simp only[am,evOp,simprocAttr]) (fun p=>?_) fun p=>?_
  ·have p:xs[m]<t:=of_decide_eq_true p
   have w5:IntKind.i64.wrap (((m:Nat):Int)+1)=((m+1:Nat):Int):=wr64 (by omega) (by omega)
   refine W.run (by simp only[am,evOp,simprocAttr,w5]<;>rfl) ?_
   refine⟨j-(m+1),by omega,m+1,j,rfl,by omega,hj,rfl,fun k hk hk2=>?_,q2,by simp only[am,evOp,simprocAttr,e0],by simp only[am,evOp,simprocAttr,e1],by simp only[am,evOp,simprocAttr,e6],by simp only[am,evOp,simprocAttr,w5],by simp only[am,evOp,simprocAttr,e8]⟩
   have:=hle k m hk hm (by omega)
   omega
  ·have p:¬ xs[m]<t:=of_decide_eq_false p
   refine W.run (by simp only[am,evOp,simprocAttr]<;>rfl) ?_
   refine⟨m-i,by omega,i,m,rfl,by omega,by omega,rfl,q1,fun k hk hk2=>?_,by simp only[am,evOp,simprocAttr,e0],by simp only[am,evOp,simprocAttr,e1],by simp only[am,evOp,simprocAttr,e6],by simp only[am,evOp,simprocAttr,e7],by simp only[am,evOp,simprocAttr]⟩
   have:=hle m k hm hk (by omega)
   omega
 ·have q:¬ i<j:=of_decide_eq_false q
  have:j=i:=by omega
  subst this
  have ec:=countP_split hj q1 q2
  refine W.exit ⟨fun _=>?_,fun e=>absurd rfl e⟩
  by_cases c1:j<xs.length
  ·have d1:decide (((j:Nat):Int)<((xs.length:Nat):Int))=true:=decide_eq_true (by omega)
   obtain⟨b1,p1,a1,r1,_⟩:=hv.at1 (map_at (f:=eI) c1)
   by_cases c2:xs[j]=t
   ·have d2:decide (xs[j]=t)=true:=decide_eq_true c2
    refine W.seq (W.reg (G.nocall 16 (by simp only[am,evOp,simprocAttr,e0,e1,e6,e7,d1,a1,r1,d2]<;>rfl) rfl (by simp only[am,evOp,simprocAttr,d1,d2]) (G.nocall 2 (by simp only[am,evOp,simprocAttr,d1,d2]<;>rfl) rfl (by simp only[am,evOp,simprocAttr,d1,d2]) ?_)))
    refine G.run (by simp only[am,evOp,simprocAttr,d1,d2]<;>rfl) ?_
    refine W.ret ⟨_,(by simp only[rs,rf50,am,evOp,simprocAttr]<;>rfl),?_,rfl⟩
    rw[ec,decide_eq_true (c2▸List.getElem_mem c1)]
   ·have d2:decide (xs[j]=t)=false:=decide_eq_false c2
    refine W.seq (W.reg (G.gcall 16 (by simp only[am,evOp,simprocAttr,e0,e1,e6,e7,d1,a1,r1,d2]<;>rfl) rfl (by simp only[am,evOp,simprocAttr,e0,e1,e6,e7,d1,a1,r1,d2]) (by simp only[am,evOp,simprocAttr,e0,e1,e6,e7,d1,a1,r1,d2]<;>rfl) (snan_ok) fun v h' hq=>?_))
    obtain⟨rfl,rfl⟩:=hq
    refine G.nocall 2 (by simp only[am,evOp,simprocAttr,d1,d2]<;>rfl) rfl (by simp only[am,evOp,simprocAttr,d1,d2]) ?_
    refine G.run (by simp only[am,evOp,simprocAttr,d1,d2]<;>rfl) ?_
    refine W.ret ⟨_,(by simp only[rs,rf50,am,evOp,simprocAttr]<;>rfl),?_,rfl⟩
    rw[ec,decide_eq_false]
    intro hm
    obtain⟨k,hk,ek⟩:=List.mem_iff_getElem.1 hm
    have f1:=q2 j c1 (Nat.le_refl _)
    by_cases hkj:k<j
    ·have:=q1 k hk hkj; omega
    ·have:=hle j k c1 hk (by omega); omega
  ·have d1:decide (((j:Nat):Int)<((xs.length:Nat):Int))=false:=decide_eq_false (by omega)
   refine W.seq (W.reg (G.nocall 16 (by simp only[am,evOp,simprocAttr,e0,e1,e6,e7,d1]<;>rfl) rfl (by simp only[am,evOp,simprocAttr,d1]) (G.nocall 2 (by simp only[am,evOp,simprocAttr,d1]<;>rfl) rfl (by simp only[am,evOp,simprocAttr,d1]) ?_)))
   refine G.run (by simp only[am,evOp,simprocAttr,d1]<;>rfl) ?_
   refine W.ret ⟨_,(by simp only[rs,rf50,am,evOp,simprocAttr]<;>rfl),?_,rfl⟩
   rw[ec,decide_eq_false]
   intro hm
   obtain⟨k,hk,ek⟩:=List.mem_iff_getElem.1 hm
   have:=q1 k hk (by omega)
   omega
end Go.Proofs.YtihedjolidbfiaaGreatDoor
namespace Go.Proofs.YtihedjolidbfiaaGreatDoor
open Go.Am
theorem appN {h:AH}{esz lo bytes m:Nat}{v:AV}{cs new:List AV}{x:Nat} (hv:IsSl h esz lo v cs) (hlo:lo≤h.next) (he:0<esz) (hm:0<m) (hx:h.get x=some (.cells new esz false)) (hn:new.length=m*esz) (ho:new.all AV.one=true)
 (hb:(cs.length / esz+m)*bytes<tooMany) (hc:cs.length / esz+m<tooMany):∃ v' h',appA h esz bytes v (.sl x 0 m m)=some (v',h')∧IsSl h' esz lo v' (cs++new)∧Ext lo h h'∧v'=.sl h.next 0 (cs.length / esz+m) (cs.length / esz+m)∧h'.next=h.next+1:=by
 have hr:rdCells h x 0 (m*esz)=some new:=by
  rw[rdCells_of hx,if_pos (by omega),List.drop_zero,← hn,List.take_length]
 have hm0:¬ m=0:=by omega
 rcases hv with ⟨rfl,rfl⟩|⟨b,n,h1,rfl,h3,h4⟩
 ·refine⟨.sl h.next 0 m m,h.new (.cells new esz false),?_,.inr ⟨h.next,m,hlo,rfl,by rw[AH.get_new]; simp,by simpa using hn⟩,Ext.new hlo,by simp,by simp⟩
  simp only[appA,srcCells,hr,Option.map_some,ho,if_true,hm0,if_false]
  simp only[List.length_nil,Nat.zero_div,Nat.zero_add] at hb hc
  rw[if_pos ⟨hb,hc⟩]
 ·have hnn:cs.length / esz=n:=by rw[h4,Nat.mul_div_cancel _ he]
  rw[hnn] at hb hc
  have hr2:rdCells h b 0 (n*esz)=some cs:=by
   rw[rdCells_of h3,if_pos (by omega),List.drop_zero,← h4,List.take_length]
  refine⟨.sl h.next 0 (n+m) (n+m),(h.put b .dead).new (.cells (cs++new) esz false),?_,.inr ⟨h.next,n+m,hlo,rfl,by rw[AH.get_new,AH.next_put]; simp,by rw[List.length_append,hn,h4,Nat.add_mul]⟩,?_,by rw[hnn],by simp⟩
  ·simp only[appA,srcCells,hr,Option.map_some,ho,if_true,hm0,if_false]
   rw[if_neg (by omega),if_pos ⟨hb,hc⟩,h3,hr2]
   simp only[if_true]
  ·exact (Ext.put h1).trans (Ext.new (by simpa using hlo))
end Go.Proofs.YtihedjolidbfiaaGreatDoor
