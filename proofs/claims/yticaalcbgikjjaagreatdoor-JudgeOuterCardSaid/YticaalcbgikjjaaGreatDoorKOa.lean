/-
  reach.Of, Has, each, grow, Parts (of a whole graph). Rotations and their faces, as plain lists. rotation.Right, nexts, Faces. rotation.Genus, angle.kind. graph.View.Order, angle.asked, forest.asked (of a good graph).
-/
import Derived.Test.YticaalcbgikjjaaGreatDoorKLb
import Derived.Test.YticaalcbgikjjaaGreatDoorKLa
import Derived.Test.YticaalcbgikjjaaGreatDoorKLh
import Derived.Test.YticaalcbgikjjaaGreatDoorKNh
import Derived.Test.YticaalcbgikjjaaGreatDoorKLe
set_option linter.all false
namespace Go.Proofs.YticaalcbgikjjaaGreatDoor
open Go.Am
def or64 (a b:Int):Int:=IntKind.u64.wrap ((BitVec.ofInt 64 a ||| BitVec.ofInt 64 b).toNat)
def and64 (a b:Int):Int:=IntKind.u64.wrap ((BitVec.ofInt 64 a &&& BitVec.ofInt 64 b).toNat)
def sr64i (a x:Int):Int:=a.fdiv (2 ^ (min x.toNat IntKind.u64.bits))
def sl64i (a x:Int):Int:=IntKind.u64.wrap (a*2 ^ (min x.toNat IntKind.u64.bits))
def hasU (s x:Int):Bool:=decide (0≤x)&&(decide (x<64)&&decide (and64 (sr64i s x) 1=1))
def ofU (x:Int):Int:=if 0≤x∧x<64 then or64 0 (sl64i 1 x) else 0
theorem bin_or64 {a b:Int}:binA .or .no (.int .u64 a) (.int .u64 b)=some (.int .u64 (or64 a b)):=rfl
theorem bin_and64 {a b:Int}:binA .and .no (.int .u64 a) (.int .u64 b)=some (.int .u64 (and64 a b)):=rfl
theorem bin_shr64i {a x:Int} (h:0≤x):binA .shr .no (.int .u64 a) (.int .i64 x)=some (.int .u64 (sr64i a x)):=by
 have e:binA .shr .no (.int .u64 a) (.int .i64 x)=shft .shr .u64 a x:=by simp [binA]
 have hk0:¬ x<0:=by omega
 rw[e]
 simp only[shft,hk0,if_false,sr64i]
theorem bin_shl64i {a x:Int} (h:0≤x):binA .shl .no (.int .u64 a) (.int .i64 x)=some (.int .u64 (sl64i a x)):=by
 have e:binA .shl .no (.int .u64 a) (.int .i64 x)=shft .shl .u64 a x:=by simp [binA]
 have hk0:¬ x<0:=by omega
 rw[e]
 simp only[shft,hk0,if_false,sl64i]
theorem u64_rngI (z:Int):0≤IntKind.u64.wrap z∧IntKind.u64.wrap z<2 ^ 64:=by
 simp only[IntKind.wrap,IntKind.bits,IntKind.signed,Bool.false_and,Bool.false_eq_true,if_false]
 omega
theorem or64_nat {a b:Nat} (ha:a<2 ^ 64) (hb:b<2 ^ 64):or64 (a:Nat) (b:Nat)=((a ||| b:Nat):Int):=by
 have h:a ||| b<2 ^ 64:=Nat.or_lt_two_pow ha hb
 unfold or64
 have e:(BitVec.ofInt 64 ((a:Nat):Int) ||| BitVec.ofInt 64 ((b:Nat):Int)).toNat=a ||| b:=by
  rw[BitVec.toNat_or,BitVec.ofInt_natCast,BitVec.ofInt_natCast,BitVec.toNat_ofNat,BitVec.toNat_ofNat,Nat.mod_eq_of_lt ha,Nat.mod_eq_of_lt hb]
 rw[e]
 exact IntWalk.u64_in _ ⟨by omega,by omega⟩
def inU (z:Int):Prop:=0≤z∧z<2 ^ 64
theorem or64_le {a b:Int} (ha:inU a) (hb:inU b):a≤or64 a b∧b≤or64 a b∧inU (or64 a b):=by
 obtain⟨a1,a2⟩:=ha
 obtain⟨b1,b2⟩:=hb
 obtain⟨x,rfl⟩:=Int.eq_ofNat_of_zero_le a1
 obtain⟨y,rfl⟩:=Int.eq_ofNat_of_zero_le b1
 have hx:x<2 ^ 64:=by omega
 have hy:y<2 ^ 64:=by omega
 rw[or64_nat hx hy]
 have h1:x≤x ||| y:=Nat.left_le_or
 have h2:y≤x ||| y:=Nat.right_le_or
 have h3:x ||| y<2 ^ 64:=Nat.or_lt_two_pow hx hy
 unfold inU
 omega
theorem rchas_ok {h:AH}{s x:Int}:C prg 153 [.int .u64 s,.int .i64 x] h fun r h'=>r=.bool (hasU s x)∧h'=h:=by
 refine C.func pf153 ?_
 refine W.seq (W.run (by simp only[am,evOp,simprocAttr,initTm]<;>rfl) ?_)
 by_cases q1:0≤x
 ·have c1:decide (0≤x)=true:=decide_eq_true q1
  by_cases q2:x<64
  ·have c2:decide (x<64)=true:=decide_eq_true q2
   refine W.seq (W.run (by simp only[am,evOp,simprocAttr,initTm,c1,c2,bin_shr64i q1,bin_and64]<;>rfl) ?_)
   exact W.ret ⟨_,(by simp only[rs,rf153,am,evOp,simprocAttr]<;>rfl),by rw[hasU,c1,c2]; rfl,rfl⟩
  ·have c2:decide (x<64)=false:=decide_eq_false q2
   refine W.seq (W.run (by simp only[am,evOp,simprocAttr,initTm,c1,c2]<;>rfl) ?_)
   exact W.ret ⟨_,(by simp only[rs,rf153,am,evOp,simprocAttr]<;>rfl),by rw[hasU,c1,c2]; rfl,rfl⟩
 ·have c1:decide (0≤x)=false:=decide_eq_false q1
  refine W.seq (W.run (by simp only[am,evOp,simprocAttr,initTm,c1]<;>rfl) ?_)
  exact W.ret ⟨_,(by simp only[rs,rf153,am,evOp,simprocAttr]<;>rfl),by rw[hasU,c1]; rfl,rfl⟩
theorem has_zero (x:Int):hasU 0 x=false:=by
 unfold hasU
 have:and64 (sr64i 0 x) 1=0:=by
  unfold sr64i
  rw[Int.zero_fdiv]
  decide
 rw[this]
 simp
theorem rcof_ok {h:AH}{lb:Nat}{x:Int} (hg:h.get lb=some (.cells [.int .i64 x] 1 false)):C prg 183 [.sl lb 0 1 1] h fun r h'=>r=.int .u64 (ofU x)∧h'=h:=by
 refine C.func pf183 ?_
 refine W.seq (W.run (by simp only[am,evOp,simprocAttr,initTm]<;>rfl) ?_)
 refine W.seq (W.seq (W.run (by simp only[am,evOp,simprocAttr,initTm]<;>rfl) ?_))
 have i0:idx? 0 1=some 0:=rfl
 refine W.rng (α:=Int) (N:=1) (fun _ s=>[(2,.int .u64 s),(5,.sl lb 0 1 1)]) (fun k s h'=>h'=h∧s=if k=0 then 0 else ofU x) 0 (fun _ _=>rfl) (by omega) (by simp only[hl,am,evOp,simprocAttr,initTm]) ⟨rfl,rfl⟩ ?_ ?_
 ·rintro k s ts h1 hk ⟨rfl,j2⟩ ⟨ei,en,e2,e5,-⟩
  simp only at ei en e2 e5
  obtain rfl:k=0:=by omega
  rw[if_pos rfl] at j2
  subst j2
  have r0:rdCells h1 lb 0 1=some [.int .i64 x]:=rd_at hg rfl
  refine W.seq (W.run (by simp only[am,evOp,simprocAttr,e5,ei,i0,r0]<;>rfl) ?_)
  by_cases q1:0≤x
  ·have c1:decide (0≤x)=true:=decide_eq_true q1
   by_cases q2:x<64
   ·have c2:decide (x<64)=true:=decide_eq_true q2
    refine W.seq (W.run (by simp only[am,evOp,simprocAttr,e2,c1,c2]<;>rfl) ?_)
    refine W.yes (by simp only[am,evOp,simprocAttr]) ?_
    refine W.run (by simp only[am,evOp,simprocAttr,e2,bin_shl64i q1,bin_or64]<;>rfl) ?_
    exact⟨or64 0 (sl64i 1 x),⟨rfl,by rw[if_neg (by omega),ofU,if_pos ⟨q1,q2⟩]⟩,by simp only[hl,am,evOp,simprocAttr,ei,en,e5]⟩
   ·have c2:decide (x<64)=false:=decide_eq_false q2
    refine W.seq (W.run (by simp only[am,evOp,simprocAttr,e2,c1,c2]<;>rfl) ?_)
    refine W.no (by simp only[am,evOp,simprocAttr]) ?_
    exact W.skip ⟨0,⟨rfl,by rw[if_neg (by omega),ofU,if_neg fun q=>q2 q.2]⟩,by simp only[hl,am,evOp,simprocAttr,ei,en,e2,e5]⟩
  ·have c1:decide (0≤x)=false:=decide_eq_false q1
   refine W.seq (W.run (by simp only[am,evOp,simprocAttr,e2,c1]<;>rfl) ?_)
   refine W.no (by simp only[am,evOp,simprocAttr]) ?_
   exact W.skip ⟨0,⟨rfl,by rw[if_neg (by omega),ofU,if_neg fun q=>q1 q.1]⟩,by simp only[hl,am,evOp,simprocAttr,ei,en,e2,e5]⟩
 ·rintro s ts h1 ⟨rfl,j2⟩ ⟨e2,e5,-⟩
  simp only at e2 e5
  rw[if_neg (by omega)] at j2
  subst j2
  refine W.seq (W.run (by simp only[am,evOp,simprocAttr,e2]<;>rfl) ?_)
  exact W.ret ⟨_,(by simp only[rs,rf183,am,evOp,simprocAttr]<;>rfl),rfl,rfl⟩
theorem ofU_rng (x:Int):inU (ofU x):=by
 unfold ofU
 split
 ·exact (or64_le (by unfold inU; omega) (u64_rngI _)).2.2
 ·unfold inU; omega
def uI (z:Int):List AV:=[.int .u64 z]
theorem flat_uI (xs:List Int):xs.flatMap uI=xs.map (AV.int .u64):=by
 induction xs with
 | nil=>rfl
 | cons x r ih=>rw[List.flatMap_cons,ih]; rfl
theorem len_uI (xs:List Int):(xs.flatMap uI).length=xs.length:=by rw[flat_uI,List.length_map]
theorem at_uI {xs:List Int}{i:Nat} (hi:i<xs.length):(xs.flatMap uI)[i]?=some (.int .u64 (xs.getD i 0)):=by
 rw[flat_uI,List.getElem?_map,List.getElem?_eq_getElem hi,List.getD_eq_getElem?_getD,List.getElem?_eq_getElem hi]
 rfl
theorem set_uI {xs:List Int}{i:Nat}{z:Int}:(xs.flatMap uI).set i (.int .u64 z)=(xs.set i z).flatMap uI:=by
 rw[flat_uI,flat_uI,List.map_set]
def allU (n:Nat):List Int:=(List.range n).map fun x=>ofU ((x:Nat):Int)
theorem rceach_ok {h:AH}{n:Nat}{ev:AV}{E:List (Int×Int)} (he:SlE h ev E) (hm:mayB (n:Nat) E=true) :
 C prg 150 [.agg [.int .i64 (n:Nat),ev]] h fun r h'=>IsSl h' 1 h.next r ((allU n).flatMap uI)∧Ext h.next h h':=by
 obtain⟨ec,eo⟩:=he.cells
 obtain⟨m1,m2,m3,m4⟩:=may_of hm
 refine C.func pf150 ?_
 refine W.seq (W.run (by simp only[am,evOp,simprocAttr,initTm]<;>rfl) ?_)
 have x0:Ext h.next h (h.new (.cells [.int .i64 (n:Nat),ev] 2 false)):=Ext.new (Nat.le_refl _)
 have g0:(h.new (.cells [.int .i64 (n:Nat),ev] 2 false)).get h.next=some (.cells [.int .i64 (n:Nat),ev] 2 false):=by rw[AH.get_new,if_pos rfl]
 have n0:(h.new (.cells [.int .i64 (n:Nat),ev] 2 false)).next=h.next+1:=rfl
 generalize (h.new (.cells [.int .i64 (n:Nat),ev] 2 false))=h1 at *
 have rA:rdCells h1 h.next 0 2=some [.int .i64 (n:Nat),ev]:=by rw[rdCells_of g0]; rfl
 refine W.seq (W.seq (W.reg (G.gcall 1 (by simp only[am,evOp,simprocAttr,initTm,rA]<;>rfl) rfl (by simp only[am,evOp,simprocAttr,initTm,rA]) (by simp only[am,evOp,simprocAttr,initTm,rA]<;>rfl) (gmay_ok (n:=((n:Nat):Int)) (he.ext x0 (Nat.le_refl _)) (by omega)) fun r h2 hq=>?_)))
 obtain⟨rfl,x2⟩:=hq
 rw[hm]
 refine G.run (by simp only[am,evOp,simprocAttr]<;>rfl) ?_
 refine W.no (by simp only[am,evOp,simprocAttr]) (W.skip ?_)
 have n2:=x2.nx
 have X2:Ext h.next h h2:=x0.trans (x2.mono (by omega))
 have g2:h2.get h.next=some (.cells [.int .i64 (n:Nat),ev] 2 false):=by rw[x2.gt _ (by omega)]; exact g0
 have rN:rdCells h2 h.next 0 1=some [.int .i64 (n:Nat)]:=rd_at g2 rfl
 refine W.seq (W.seq (W.run (by simp only[am,evOp,simprocAttr,initTm,rN]<;>rfl) ?_))
 refine W.rng (α:=AV) (N:=n) (fun _ a=>[(2,a)]) (fun k a h'=>IsSl h' 1 h.next a (((List.range k).map fun x=>ofU ((x:Nat):Int)).flatMap uI)∧Ext h.next h h') .nils (fun _ _=>rfl) (by omega) (by simp only[hl,am,evOp,simprocAttr,initTm]) ⟨.inl ⟨rfl,rfl⟩,X2⟩ ?_ ?_
 ·rintro k a ts h3 hk ⟨j1,j2⟩ ⟨ei,en,e2,-⟩
  simp only at ei en e2
  refine W.seq (W.run (by simp only[am,evOp,simprocAttr,ei]<;>rfl) ?_)
  have gx:(h3.new (.cells [.int .i64 ((k:Nat):Int)] 1 false)).get h3.next=some (.cells [.int .i64 ((k:Nat):Int)] 1 false):=by rw[AH.get_new,if_pos rfl]
  have nx3:(h3.new (.cells [.int .i64 ((k:Nat):Int)] 1 false)).next=h3.next+1:=rfl
  have xx3:Ext h.next h3 (h3.new (.cells [.int .i64 ((k:Nat):Int)] 1 false)):=Ext.new j2.nx
  refine W.reg (G.gcall 3 (by simp only[am,evOp,simprocAttr,e2,ei]<;>rfl) rfl (by simp only[am,evOp,simprocAttr,e2,ei]) (by simp only[am,evOp,simprocAttr,e2,ei]<;>rfl) (rcof_ok gx) fun r h4 hq=>?_)
  obtain⟨rfl,rfl⟩:=hq
  have hlen:(((List.range k).map fun x=>ofU ((x:Nat):Int)).flatMap uI).length=k:=by rw[len_uI]; simp
  have j1':=j1.ext (Ext.new (o:=.cells [.int .i64 ((k:Nat):Int)] 1 false) (Nat.le_refl h3.next)) (Nat.le_refl _)
  generalize (h3.new (.cells [.int .i64 ((k:Nat):Int)] 1 false))=h4 at *
  have j2n:=j2.nx
  obtain⟨s',h5,a1,i1,x1,n1⟩:=j1'.push (bytes:=8) (uI (ofU ((k:Nat):Int))) (by omega) (by omega) rfl rfl (by rw[hlen]; unfold tooMany; omega) (by rw[hlen]; unfold tooMany; omega)
  rw[show uI (ofU ((k:Nat):Int))=[.int .u64 (ofU ((k:Nat):Int))] from rfl] at a1 i1
  refine G.run (by simp only[am,evOp,simprocAttr,e2,a1]<;>rfl) ?_
  refine⟨s',⟨?_,j2.trans (xx3.trans x1)⟩,by simp only[hl,am,evOp,simprocAttr,ei,en]⟩
  rw[List.range_succ,List.map_append,List.flatMap_append]
  exact i1
 ·rintro a ts h3 ⟨j1,j2⟩ ⟨e2,-⟩
  simp only at e2
  refine W.seq (W.run (by simp only[am,evOp,simprocAttr,e2]<;>rfl) ?_)
  exact W.ret ⟨a,(by simp only[rs,rf150,am,evOp,simprocAttr,j1.cells.1]<;>rfl),j1,j2⟩
def stepU (ss:List Int) (e:Int×Int):List Int:=(ss.set e.1.toNat (or64 (ss.getD e.1.toNat 0) (ss.getD e.2.toNat 0))).set e.2.toNat (or64 (ss.getD e.1.toNat 0) (ss.getD e.2.toNat 0))
def roundU (E:List (Int×Int)) (ss:List Int):List Int:=E.foldl stepU ss
def iterU (E:List (Int×Int)):Nat→List Int→List Int
 | 0,s=>s
 | k+1,s=>roundU E (iterU E k s)
def FixU (E:List (Int×Int)) (s0 s:List Int):Prop:=(∃ k,s=iterU E k s0)∧roundU E s=s
theorem FixU.uniq {E:List (Int×Int)}{s0 s t:List Int} (hs:FixU E s0 s) (ht:FixU E s0 t):s=t:=by
 obtain⟨⟨j,rfl⟩,h1⟩:=hs
 obtain⟨⟨k,rfl⟩,h2⟩:=ht
 have key:∀ j,roundU E (iterU E j s0)=iterU E j s0→∀ d,iterU E (j+d) s0=iterU E j s0:=fun j hj d=>by
  induction d with
  | zero=>rfl
  | succ d ih =>
    show roundU E (iterU E (j+d) s0)=_
    rw[ih,hj]
 rcases Nat.le_total j k with h|h
 ·rw[← key j h1 (k-j)]; congr 1; omega
 ·rw[← key k h2 (j-k)]; congr 1; omega
open Classical in
noncomputable def fixU (E:List (Int×Int)) (s0:List Int):List Int:=if h:∃ s,FixU E s0 s then Classical.choose h else s0
theorem FixU.eq {E:List (Int×Int)}{s0 s:List Int} (hs:FixU E s0 s):s=fixU E s0:=by
 have h:∃ s,FixU E s0 s:=⟨s,hs⟩
 unfold fixU
 rw[dif_pos h]
 exact hs.uniq (Classical.choose_spec h)
theorem sum_set:∀ (ss:List Int) (i:Nat) (v:Int),i<ss.length→(ss.set i v).sum=ss.sum-ss.getD i 0+v
 | [],i,v,h=>absurd h (Nat.not_lt_zero _)
 | x::r,0,v,h=>by simp only[List.set_cons_zero,List.sum_cons,List.getD_cons_zero]; omega
 | x::r,i+1,v,h=>by
   simp only[List.set_cons_succ,List.sum_cons,List.getD_cons_succ]
   rw[sum_set r i v (Nat.lt_of_succ_lt_succ h)]
   omega
theorem sum_le:∀ {ss:List Int},(∀ z∈ss,inU z)→ss.sum≤(ss.length:Nat)*2 ^ 64
 | [],_=>by simp
 | x::r,h=>by
   have h1:=sum_le fun z hz=>h z (List.mem_cons_of_mem _ hz)
   have h2:=(h x (List.mem_cons_self ..)).2
   simp only[List.sum_cons,List.length_cons]
   omega
theorem getD_mem {ss:List Int}{i:Nat} (h:i<ss.length):ss.getD i 0∈ss:=by
 rw[List.getD_eq_getElem?_getD,List.getElem?_eq_getElem h]
 exact List.getElem_mem h
theorem set_inU {ss:List Int}{i:Nat}{v:Int} (h:∀ z∈ss,inU z) (hv:inU v):∀ z∈ss.set i v,inU z:=fun z hz=>by
 rcases List.mem_or_eq_of_mem_set hz with h1|rfl
 ·exact h z h1
 ·exact hv
theorem stepU_ok {ss:List Int}{a b:Nat} (h:∀ z∈ss,inU z) (ha:a<ss.length) (hb:b<ss.length) :
 (stepU ss (((a:Nat):Int),((b:Nat):Int))).length=ss.length∧(∀ z∈stepU ss (((a:Nat):Int),((b:Nat):Int)),inU z)∧ss.sum≤(stepU ss (((a:Nat):Int),((b:Nat):Int))).sum ∧
 (or64 (ss.getD a 0) (ss.getD b 0)=ss.getD a 0→or64 (ss.getD a 0) (ss.getD b 0)=ss.getD b 0→stepU ss (((a:Nat):Int),((b:Nat):Int))=ss) ∧
 (¬ (or64 (ss.getD a 0) (ss.getD b 0)=ss.getD a 0∧or64 (ss.getD a 0) (ss.getD b 0)=ss.getD b 0)→ss.sum<(stepU ss (((a:Nat):Int),((b:Nat):Int))).sum):=by
 unfold stepU
 simp only[Int.toNat_natCast]
 obtain⟨o1,o2,o3⟩:=or64_le (h _ (getD_mem ha)) (h _ (getD_mem hb))
 generalize or64 (ss.getD a 0) (ss.getD b 0)=v at *
 have hs:((ss.set a v).set b v).sum=ss.sum-ss.getD a 0+v-(ss.set a v).getD b 0+v:=by
  rw[sum_set _ _ _ (by rw[List.length_set]; exact hb),sum_set _ _ _ ha]
 have hg:(ss.set a v).getD b 0=if a=b then v else ss.getD b 0:=by
  rw[List.getD_eq_getElem?_getD,List.getElem?_set,List.getD_eq_getElem?_getD]
  by_cases q:a=b
  ·subst q; rw[if_pos rfl,if_pos rfl,if_pos ha]; rfl
  ·rw[if_neg q,if_neg q]
 refine⟨by simp,set_inU (set_inU h o3) o3,?_,fun e1 e2=>?_,fun hn=>?_⟩
 ·rw[hs,hg]; split<;>omega
 ·have es:∀ i,i<ss.length→v=ss.getD i 0→ss.set i v=ss:=fun i hi e=>by
   rw[e,List.getD_eq_getElem?_getD,List.getElem?_eq_getElem hi]
   exact List.set_getElem_self ..
  rw[es a ha e1,es b hb e2]
 ·rw[hs,hg]
  split
  ·rename_i q; subst q; omega
  ·omega
set_option maxHeartbeats 1000000 in
theorem rcgrow_ok {h:AH}{n ab:Nat}{ev:AV}{E:List (Int×Int)}{f:FuncId}{caps:List AV}{s0:List Int} (he:SlE h ev E) (hm:mayB (n:Nat) E=true) (hoff:∀ b o m c,ev=.sl b o m c→b≠ab)
 (hg:h.get ab=some (.cells (s0.flatMap uI) 1 false)) (hs0:s0.length=n) (hu:∀ z∈s0,inU z)
 (hcl:∀ h',h.next≤h'.next→(∀ c,c<h.next→c≠ab→h'.get c=h.get c)→∀ i:Nat,i<E.length→C prg f ([.int .i64 (i:Nat)]++caps) h' fun r h''=>r=.bool true∧Ext h'.next h' h'') :
 C prg 151 [.agg [.int .i64 (n:Nat),ev],.sl ab 0 n n,.bool true,.fn f caps] h fun _ h'=>∃ s,FixU E s0 s∧s.length=n∧(∀ z∈s,inU z)∧Mod h.next h h' ab (.cells (s.flatMap uI) 1 false):=by
 obtain⟨ec,eo⟩:=he.cells
 obtain⟨m1,m2,m3,m4⟩:=may_of hm
 have hab:=AH.lt_of_get hg
 have hlim:∀ {s:List Int},s.length=n→(∀ z∈s,inU z)→s.sum≤(n:Nat)*2 ^ 64:=fun {s} h1 h2=>by rw[← h1]; exact sum_le h2
 have el:=he.len
 rw[List.length_map] at el
 refine C.func pf151 ?_
 refine W.seq (W.run (by simp only[am,evOp,simprocAttr,initTm]<;>rfl) ?_)
 have x0:Ext h.next h (h.new (.cells [.int .i64 (n:Nat),ev] 2 false)):=Ext.new (Nat.le_refl _)
 have g0:(h.new (.cells [.int .i64 (n:Nat),ev] 2 false)).get h.next=some (.cells [.int .i64 (n:Nat),ev] 2 false):=by rw[AH.get_new,if_pos rfl]
 have n0:(h.new (.cells [.int .i64 (n:Nat),ev] 2 false)).next=h.next+1:=rfl
 generalize (h.new (.cells [.int .i64 (n:Nat),ev] 2 false))=h1 at *
 have M1:Mod h.next h h1 ab (.cells (s0.flatMap uI) 1 false):=x0.mod (Mod.refl (by rw[x0.gt _ hab]; exact hg))
 refine W.seq (W.run (by simp only[am,evOp,simprocAttr,initTm]<;>rfl) ?_)
 refine W.block (W.loop (fun m ts h'=>∃ (s:List Int) (b:Bool),(∃ k,s=iterU E k s0)∧s.length=n∧(∀ z∈s,inU z)∧(b=false→roundU E s=s)∧m=(if b then (((n:Nat):Int)*2 ^ 64-s.sum).toNat+1 else 0)∧Mod h.next h h' ab (.cells (s.flatMap uI) 1 false) ∧
  h'.get h.next=some (.cells [.int .i64 (n:Nat),ev] 2 false)∧Held [(1,.sl ab 0 n n),(2,.bool true),(3,.fn f caps),(4,.ptr h.next 0),(8,.bool b)] ts) ?_ (n:=(((n:Nat):Int)*2 ^ 64-s0.sum).toNat+1)
  ⟨s0,true,⟨0,rfl⟩,hs0,hu,(fun e=>by cases e),rfl,M1,g0,by simp only[hl,am,evOp,simprocAttr,initTm]⟩)
 clear g0 M1 x0 n0
 rintro m ts h2 ⟨s,b,hk,hsl,hsu,hst,rfl,M2,g2,e1,e2,e3,e4,e8,-⟩
 simp only at e1 e2 e3 e4 e8
 refine W.seq (W.seq (W.run (by simp only[am,evOp,simprocAttr,e8]<;>rfl) ?_))
 cases b with
 | false =>
   refine W.no (by simp only[am,evOp,simprocAttr]) ?_
   exact W.exit ⟨fun _=>⟨.tup [],rfl,s,⟨hk,hst rfl⟩,hsl,hsu,M2⟩,fun e=>absurd rfl e⟩
 | true =>
 refine W.yes (by simp only[am,evOp,simprocAttr]) (W.skip ?_)
 refine W.block (W.seq (W.run (by simp only[am,evOp,simprocAttr]<;>rfl) ?_))
 have rE:rdCells h2 h.next 1 1=some [ev]:=rd_at g2 rfl
 refine W.seq (W.run (by simp only[am,evOp,simprocAttr,e4,rE,el]<;>rfl) ?_)
 have hnb:h.next≠ab:=by omega
 refine W.rng (α:=List Int×Bool) (N:=E.length) (fun _ a=>[(15,ev),(1,.sl ab 0 n n),(2,.bool true),(3,.fn f caps),(4,.ptr h.next 0),(8,.bool a.2)])
  (fun k a h'=>a.1=(E.take k).foldl stepU s∧a.1.length=n∧(∀ z∈a.1,inU z)∧s.sum≤a.1.sum∧(a.2=false→a.1=s∧∀ e∈E.take k,stepU s e=s)∧(a.2=true→s.sum<a.1.sum)∧Mod h.next h h' ab (.cells (a.1.flatMap uI) 1 false)∧h'.get h.next=some (.cells [.int .i64 (n:Nat),ev] 2 false))
  (s,false) (fun _ _=>rfl) (by omega) (by simp only[hl,am,evOp,simprocAttr,e1,e2,e3,e4]) ⟨rfl,hsl,hsu,Int.le_refl _,fun _=>⟨rfl,fun e h=>by simp at h⟩,(fun e=>by cases e),M2,g2⟩ ?_ ?_
 ·clear e1 e2 e3 e4 e8 rE
  rintro k ⟨t,b⟩ ts h3 hk2 ⟨j1,j2,j3,j4,j5,j6,j7,j8⟩ ⟨ei,en,e15,e1,e2,e3,e4,e8,-⟩
  simp only at ei en e15 e1 e2 e3 e4 e8 j1 j2 j3 j4 j5 j6 j7 j8
  obtain⟨a,bb,eab,ha,hb⟩:=okE_nat (List.all_eq_true.1 m4 _ (List.getElem_mem hk2))
  have n3:=j7.nx
  have he3:SlE h3 ev E:=he.cong fun b o m c e=>j7.gt b (hoff b o m c e) (he.lt e)
  obtain⟨qb,qp,a1,r1,_⟩:=he3.at (map_at (f:=eE) hk2)
  rw[eab] at r1
  have r1:rdCells h3 qb qp 2=some [.int .i64 (a:Nat),.int .i64 (bb:Nat)]:=r1
  obtain⟨h4,w4,x4,g4,n4⟩:=mk_loc (h:=h3) (z:=[.int .i64 0,.int .i64 0]) (cs:=[.int .i64 (a:Nat),.int .i64 (bb:Nat)]) (e:=2) rfl
  refine W.seq (W.run (by simp only[am,evOp,simprocAttr,e15,ei,a1,r1,w4]<;>rfl) ?_)
  have M4:=j7.ext hab (x4.mono n3)
  have hc:=hcl h4 M4.nx (fun c c1 c2=>M4.gt c c2 c1) k hk2
  refine W.seq (W.seq (W.reg (G.gcallv 2 (by simp only[am,evOp,simprocAttr,e3]<;>rfl) rfl (by simp only[am,evOp,simprocAttr,e3]) (by simp only[am,evOp,simprocAttr,e3]<;>rfl) (by simp only[am,evOp,simprocAttr,e3]<;>rfl) (hc) fun r h5 hq=>?_)))
  obtain⟨rfl,x5⟩:=hq
  refine G.run (by simp only[am,evOp,simprocAttr]<;>rfl) ?_
  refine W.no (by simp only[am,evOp,simprocAttr]) (W.skip ?_)
  have n5:=x5.nx
  have M5:=M4.ext hab (x5.mono M4.nx)
  have g5:h5.get h3.next=some (.cells [.int .i64 (a:Nat),.int .i64 (bb:Nat)] 2 false):=by rw[x5.gt _ (by omega)]; exact g4
  have gA:=M5.get
  have gB:h5.get h.next=some (.cells [.int .i64 (n:Nat),ev] 2 false):=by
   have:=AH.lt_of_get j8
   rw[x5.gt _ (by omega),x4.gt _ this]
   exact j8
  have rx:rdCells h5 h3.next 0 1=some [.int .i64 (a:Nat)]:=rd_at g5 rfl
  have ry:rdCells h5 h3.next 1 1=some [.int .i64 (bb:Nat)]:=rd_at g5 rfl
  have ia:idx? ((a:Nat):Int) n=some a:=idx_nat ha
  have ib:idx? ((bb:Nat):Int) n=some bb:=idx_nat hb
  have ra:rdCells h5 ab a 1=some [.int .u64 (t.getD a 0)]:=rd_at gA (at_uI (by omega))
  have rb:rdCells h5 ab bb 1=some [.int .u64 (t.getD bb 0)]:=rd_at gA (at_uI (by omega))
  refine W.seq (W.run (by simp only[am,evOp,simprocAttr,e1,rx,ry,ia,ib,Nat.mul_one,ra,rb,bin_or64]<;>rfl) ?_)
  refine W.seq (W.seq (W.run (by simp only[am,evOp,simprocAttr,e2]<;>rfl) ?_))
  refine W.yes (by simp only[am,evOp,simprocAttr]) ?_
  refine W.run (by simp only[am,evOp,simprocAttr]<;>rfl) ?_
  obtain⟨s1,s2,s3,s4,s5⟩:=stepU_ok (b:=bb) j3 (show a<t.length by omega) (by omega)
  have hst:stepU t (((a:Nat):Int),((bb:Nat):Int))=(t.set a (or64 (t.getD a 0) (t.getD bb 0))).set bb (or64 (t.getD a 0) (t.getD bb 0)):=rfl
  have hfold:(E.take (k+1)).foldl stepU s=stepU t (((a:Nat):Int),((bb:Nat):Int)):=by
   rw[List.take_succ_eq_append_getElem hk2,List.foldl_append,← j1,eab]
   rfl
  generalize hv:or64 (t.getD a 0) (t.getD bb 0)=v at *
  refine W.seq (W.cut (fun ts h'=>h5=h'∧Held [(17,.int .i64 (k:Nat)),(16,.int .i64 (E.length:Nat)),(15,ev),(1,.sl ab 0 n n),(2,.bool true),(3,.fn f caps),(4,.ptr h.next 0),(10,.ptr h3.next 0),(11,.int .u64 v),(12,.int .u64 v),(8,.bool (b||!decide (v=t.getD a 0)||!decide (v=t.getD bb 0)))] ts) ?_ ?_)
  ·cases b with
   | true =>
     refine W.run (by simp only[am,evOp,simprocAttr,e8]<;>rfl) ?_
     exact⟨rfl,by simp only[hl,am,evOp,simprocAttr,ei,en,e15,e1,e2,e3,e4,Bool.true_or]⟩
   | false =>
     by_cases q1:v=t.getD a 0
     ·have c1:decide (v=t.getD a 0)=true:=decide_eq_true q1
      refine W.run (by simp only[am,evOp,simprocAttr,e8,e1,rx,ry,ia,ib,Nat.mul_one,ra,rb,c1]<;>rfl) ?_
      exact⟨rfl,by simp only[hl,am,evOp,simprocAttr,ei,en,e15,e1,e2,e3,e4,c1,Bool.false_or,Bool.not_true]⟩
     ·have c1:decide (v=t.getD a 0)=false:=decide_eq_false q1
      refine W.run (by simp only[am,evOp,simprocAttr,e8,e1,rx,ry,ia,ib,Nat.mul_one,ra,rb,c1]<;>rfl) ?_
      exact⟨rfl,by simp only[hl,am,evOp,simprocAttr,ei,en,e15,e1,e2,e3,e4,c1,Bool.false_or,Bool.not_false,Bool.true_or]⟩
  ·clear ei en e15 e1 e2 e3 e4 e8
   rintro ts h' ⟨rfl,ei,en,e15,e1,e2,e3,e4,e10,e11,e12,e8,-⟩
   simp only at ei en e15 e1 e2 e3 e4 e10 e11 e12 e8
   have w6:=wr_at (v:=.int .u64 v) gA (show a<(t.flatMap uI).length by rw[len_uI]; omega)
   rw[set_uI] at w6
   have u6:=Upd.put (o:=.cells ((t.set a v).flatMap uI) 1 false) gA
   have rx6:rdCells (h5.put ab (.cells ((t.set a v).flatMap uI) 1 false)) h3.next 0 1=some [.int .i64 (a:Nat)]:=by rw[rdCells_eq (u6.ne (by omega))]; exact rx
   have ry6:rdCells (h5.put ab (.cells ((t.set a v).flatMap uI) 1 false)) h3.next 1 1=some [.int .i64 (bb:Nat)]:=by rw[rdCells_eq (u6.ne (by omega))]; exact ry
   generalize h5.put ab (.cells ((t.set a v).flatMap uI) 1 false)=h6 at *
   have w7:=wr_at (v:=.int .u64 v) u6.get (show bb<((t.set a v).flatMap uI).length by rw[len_uI,List.length_set]; omega)
   rw[set_uI] at w7
   have u7:=Upd.put (o:=.cells (((t.set a v).set bb v).flatMap uI) 1 false) u6.get
   refine W.run (by simp only[am,evOp,simprocAttr,e1,e10,e11,e12,rx,ry,ia,ib,Nat.mul_one,w6,rx6,ry6,w7]<;>rfl) ?_
   generalize h6.put ab (.cells (((t.set a v).set bb v).flatMap uI) 1 false)=h7 at *
   rw[← hst] at u7
   have hfold':=hfold.symm
   refine⟨(stepU t (((a:Nat):Int),((bb:Nat):Int)),b||!decide (v=t.getD a 0)||!decide (v=t.getD bb 0)),⟨hfold',by rw[s1]; exact j2,s2,Int.le_trans j4 s3,fun hf=>?_,fun ht=>?_,(M5.upd u6).upd u7,by rw[u7.ne (by omega),u6.ne (by omega)]; exact gB⟩,by simp only[hl,am,evOp,simprocAttr,ei,en,e15,e1,e2,e3,e4,e8]⟩
   ·simp only[Bool.or_eq_false_iff,Bool.not_eq_false',decide_eq_true_eq] at hf
    obtain⟨⟨hf1,hf2⟩,hf3⟩:=hf
    have hs:=s4 hf2 hf3
    obtain⟨q1,q2⟩:=j5 hf1
    refine⟨hs.trans q1,fun e he=>?_⟩
    rw[List.take_succ_eq_append_getElem hk2,List.mem_append,List.mem_singleton] at he
    rcases he with he|rfl
    ·exact q2 e he
    ·rw[eab,← q1]
     exact hs
   ·simp only[Bool.or_eq_true,Bool.not_eq_true',decide_eq_false_iff_not] at ht
    show s.sum<(stepU t (((a:Nat):Int),((bb:Nat):Int))).sum
    rcases ht with (ht|ht)|ht
    ·exact Int.lt_of_lt_of_le (j6 ht) s3
    ·exact Int.lt_of_le_of_lt j4 (s5 fun q=>ht q.1)
    ·exact Int.lt_of_le_of_lt j4 (s5 fun q=>ht q.2)
 ·rintro⟨t,b⟩ ts h3 ⟨j1,j2,j3,j4,j5,j6,j7,j8⟩ ⟨e15,e1,e2,e3,e4,e8,-⟩
  simp only at e15 e1 e2 e3 e4 e8 j1 j2 j3 j4 j5 j6 j7 j8
  rw[List.take_length] at j1 j5
  obtain⟨k,rfl⟩:=hk
  have hl1:=hlim hsl hsu
  have hl2:=hlim j2 j3
  refine⟨_,?_,t,b,⟨k+1,j1⟩,j2,j3,fun hb=>?_,rfl,j7,j8,by simp only[hl,am,evOp,simprocAttr,e1,e2,e3,e4,e8]⟩
  ·cases b with
   | false=>simp
   | true =>
     have:=j6 rfl
     simp only[if_true]
     omega
  ·obtain⟨q1,q2⟩:=j5 hb
   have key:∀ (l:List (Int×Int)),(∀ e∈l,stepU t e=t)→l.foldl stepU t=t:=by
    intro l
    induction l with
    | nil=>intro _; rfl
    | cons e r ih =>
      intro h
      rw[List.foldl_cons,h e (List.mem_cons_self ..)]
      exact ih fun x hx=>h x (List.mem_cons_of_mem _ hx)
   refine key E fun e hE=>?_
   rw[q1]
   exact q2 e hE
theorem rcparts1_ok {h:AH}{wb gb n i:Nat}{ev:AV}{E:List (Int×Int)} (hw:h.get wb=some (.cells [.int .u64 0] 1 false)) (hg:h.get gb=some (.cells [.int .i64 (n:Nat),ev] 2 false)) (he:SlE h ev E) (hi:i<E.length) :
 C prg 152 ([.int .i64 (i:Nat)]++[.ptr wb 0,.ptr gb 0]) h fun r h'=>r=.bool true∧Ext h.next h h':=by
 refine C.func pf152 ?_
 have rw0:rdCells h wb 0 1=some [.int .u64 0]:=rd_at hw rfl
 have rE:rdCells h gb 1 1=some [ev]:=rd_at hg rfl
 obtain⟨qb,qp,a1,_,r1,_⟩:=he.at (map_at (f:=eE) hi)
 have r0:=r1 0 _ rfl
 have r1:=r1 1 _ rfl
 rw[Nat.add_zero] at r0
 refine W.seq (W.run (by simp only[am,evOp,simprocAttr,initTm]<;>rfl) ?_)
 refine W.seq (W.reg (G.gcall 7 (by simp only[am,evOp,simprocAttr,initTm,rw0,rE,a1,r0]<;>rfl) rfl (by simp only[am,evOp,simprocAttr,initTm,rw0,rE,a1,r0]) (by simp only[am,evOp,simprocAttr,initTm,rw0,rE,a1,r0]<;>rfl) (rchas_ok) fun r h1 hq=>?_))
 obtain⟨rfl,rfl⟩:=hq
 rw[has_zero]
 refine G.gcall 9 (by simp only[am,evOp,simprocAttr,initTm,rw0,rE,a1,r1]<;>rfl) rfl (by simp only[am,evOp,simprocAttr,initTm,rw0,rE,a1,r1]) (by simp only[am,evOp,simprocAttr,initTm,rw0,rE,a1,r1]<;>rfl) (rchas_ok) fun r h2 hq=>?_
 obtain⟨rfl,rfl⟩:=hq
 rw[has_zero]
 refine G.run (by simp only[am,evOp,simprocAttr]<;>rfl) ?_
 exact W.ret ⟨.bool true,(by simp only[rs,rf152,am,evOp,simprocAttr]<;>rfl),rfl,Ext.refl⟩
def pstepU (ss:List Int) (a:List Int×Int) (k:Nat):List Int×Int:=if hasU a.2 ((k:Nat):Int) then a else (a.1++[ss.getD k 0],or64 a.2 (ss.getD k 0))
def partsU (ss:List Int):List Int:=((List.range ss.length).foldl (pstepU ss) ([],0)).1
theorem pstep_len (ss:List Int) (k:Nat):((List.range k).foldl (pstepU ss) ([],0)).1.length≤k:=by
 induction k with
 | zero=>simp
 | succ k ih =>
   rw[List.range_succ,List.foldl_append]
   generalize (List.range k).foldl (pstepU ss) ([],0)=a at *
   simp only[List.foldl_cons,List.foldl_nil,pstepU]
   split
   ·omega
   ·simp only[List.length_append,List.length_cons,List.length_nil]; omega
noncomputable def partsN (n:Nat) (E:List (Int×Int)):List Int:=partsU (fixU E (allU n))
set_option maxHeartbeats 1000000 in
theorem rcparts_ok {h:AH}{n:Nat}{ev:AV}{E:List (Int×Int)} (he:SlE h ev E) (hm:mayB (n:Nat) E=true) :
 C prg 101 [.agg [.int .i64 (n:Nat),ev],.int .u64 0] h fun r h'=>IsSl h' 1 h.next r ((partsN n E).flatMap uI)∧Ext h.next h h':=by
 obtain⟨ec,eo⟩:=he.cells
 obtain⟨m1,m2,m3,m4⟩:=may_of hm
 refine C.func pf101 ?_
 refine W.seq (W.run (by simp only[am,evOp,simprocAttr,initTm]<;>rfl) ?_)
 have x0:Ext h.next h ((h.new (.cells [.int .i64 (n:Nat),ev] 2 false)).new (.cells [.int .u64 0] 1 false)):=(Ext.new (Nat.le_refl _)).trans (Ext.new (by simp))
 have g0:((h.new (.cells [.int .i64 (n:Nat),ev] 2 false)).new (.cells [.int .u64 0] 1 false)).get h.next=some (.cells [.int .i64 (n:Nat),ev] 2 false):=by rw[AH.get_new,if_neg (by simp),AH.get_new,if_pos rfl]
 have w0:((h.new (.cells [.int .i64 (n:Nat),ev] 2 false)).new (.cells [.int .u64 0] 1 false)).get (h.next+1)=some (.cells [.int .u64 0] 1 false):=by rw[AH.get_new]; exact if_pos rfl
 have n0:((h.new (.cells [.int .i64 (n:Nat),ev] 2 false)).new (.cells [.int .u64 0] 1 false)).next=h.next+2:=rfl
 generalize ((h.new (.cells [.int .i64 (n:Nat),ev] 2 false)).new (.cells [.int .u64 0] 1 false))=h1 at *
 have rA:rdCells h1 h.next 0 2=some [.int .i64 (n:Nat),ev]:=by rw[rdCells_of g0]; rfl
 refine W.seq (W.reg (G.gcall 1 (by simp only[am,evOp,simprocAttr,initTm,rA]<;>rfl) rfl (by simp only[am,evOp,simprocAttr,initTm,rA]) (by simp only[am,evOp,simprocAttr,initTm,rA]<;>rfl) (rceach_ok (n:=n) (he.ext x0 (Nat.le_refl _)) hm) fun r h2 hq=>?_))
 obtain⟨i2,x2⟩:=hq
 refine G.run (by simp only[am,evOp,simprocAttr]<;>rfl) ?_
 have n2:=x2.nx
 rcases i2 with ⟨_,hz⟩|⟨ab,nn,hab,rfl,ga,hal⟩
 ·exfalso
  have:=congrArg List.length hz
  rw[len_uI] at this
  simp [allU] at this
  omega
 have hnn:nn=n:=by rw[len_uI] at hal; simp [allU] at hal; omega
 subst hnn
 have c0:decide (((nn:Nat):Int)=0)=false:=decide_eq_false (by omega)
 refine W.seq (W.seq (W.run (by simp only[am,evOp,simprocAttr,c0]<;>rfl) ?_))
 refine W.no (by simp only[am,evOp,simprocAttr]) (W.skip ?_)
 have X2:Ext h.next h h2:=x0.trans (x2.mono (by omega))
 have g2:h2.get h.next=some (.cells [.int .i64 (nn:Nat),ev] 2 false):=by rw[x2.gt _ (by omega)]; exact g0
 have w2:h2.get (h.next+1)=some (.cells [.int .u64 0] 1 false):=by rw[x2.gt _ (by omega)]; exact w0
 have rA2:rdCells h2 h.next 0 2=some [.int .i64 (nn:Nat),ev]:=by rw[rdCells_of g2]; rfl
 have he2:=he.ext X2 (Nat.le_refl _)
 have hu:∀ z∈allU nn,inU z:=fun z hz=>by
  obtain⟨x,_,rfl⟩:=List.mem_map.1 hz
  exact ofU_rng _
 have hoff:∀ b o m c,ev=.sl b o m c→b≠ab:=fun b o m c e=>by have:=he.lt e; omega
 have hgr:=rcgrow_ok (n:=nn) (f:=152) (caps:=[.ptr (h.next+1) 0,.ptr h.next 0]) he2 hm hoff ga (by simp [allU]) hu fun h' q1 q2 i hi =>
  rcparts1_ok (n:=nn) (by rw[q2 _ (by omega) (by omega)]; exact w2) (by rw[q2 _ (by omega) (by omega)]; exact g2) (he2.cong fun b o m c e=>q2 b (he2.lt e) (hoff b o m c e)) hi
 refine W.seq (W.reg (G.gcall 3 (by simp only[am,evOp,simprocAttr,initTm,rA2]<;>rfl) rfl (by simp only[am,evOp,simprocAttr,initTm,rA2]) (by simp only[am,evOp,simprocAttr,initTm,rA2]<;>rfl) (hgr) fun r h3 hq=>?_))
 obtain⟨s,hfix,hsl,hsu,M3⟩:=hq
 refine G.run (by simp only[am,evOp,simprocAttr]<;>rfl) ?_
 have hs:=hfix.eq
 have w3:h3.get (h.next+1)=some (.cells [.int .u64 0] 1 false):=by rw[M3.gt _ (by omega) (by omega)]; exact w2
 have rw3:rdCells h3 (h.next+1) 0 1=some [.int .u64 0]:=rd_at w3 rfl
 have X3:Ext h.next h h3:=X2.trans ((M3.mono (m:=ab) (by have:=AH.lt_of_get ga; omega)).toExt (Nat.le_refl _) |>.mono (by omega))
 refine W.seq (W.run (by simp only[am,evOp,simprocAttr,initTm,rw3]<;>rfl) ?_)
 refine W.seq (W.seq (W.run (by simp only[am,evOp,simprocAttr]<;>rfl) ?_))
 refine W.rng (α:=AV×List Int×Int) (N:=nn) (fun _ a=>[(19,.sl ab 0 nn nn),(4,a.1),(6,.int .u64 a.2.2)])
  (fun k a h'=>a.2=(List.range k).foldl (pstepU s) ([],0)∧IsSl h' 1 (ab+1) a.1 (a.2.1.flatMap uI)∧h'.get ab=some (.cells (s.flatMap uI) 1 false)∧Ext h.next h h') (.nils,[],0) (fun _ _=>rfl) (by omega) (by simp only[hl,am,evOp,simprocAttr,initTm]) ⟨rfl,.inl ⟨rfl,rfl⟩,M3.get,X3⟩ ?_ ?_
 ·rintro k ⟨a,out,dn⟩ ts h4 hk ⟨j1,j2,j3,j4⟩ ⟨ei,en,e19,e4,e6,-⟩
  simp only at ei en e19 e4 e6 j1 j2 j3 j4
  have ik:idx? ((k:Nat):Int) nn=some k:=idx_nat hk
  have rk:rdCells h4 ab k 1=some [.int .u64 (s.getD k 0)]:=rd_at j3 (at_uI (by omega))
  refine W.seq (W.run (by simp only[am,evOp,simprocAttr,e19,ei,ik,Nat.mul_one,rk]<;>rfl) ?_)
  refine W.seq (W.reg (G.gcall 2 (by simp only[am,evOp,simprocAttr,e6]<;>rfl) rfl (by simp only[am,evOp,simprocAttr,e6]) (by simp only[am,evOp,simprocAttr,e6]<;>rfl) (rchas_ok) fun r h5 hq=>?_))
  obtain⟨rfl,rfl⟩:=hq
  refine G.run (by simp only[am,evOp,simprocAttr]<;>rfl) ?_
  have hsucc:(List.range (k+1)).foldl (pstepU s) ([],0)=pstepU s (out,dn) k:=by
   rw[List.range_succ,List.foldl_append,← j1]
   rfl
  have hol:out.length≤k:=by
   have:=pstep_len s k
   rw[← j1] at this
   exact this
  refine W.cond (t:=!hasU dn ((k:Nat):Int)) (by simp only[am,evOp,simprocAttr]) (fun q=>?_) fun q=>?_
  ·have q:hasU dn ((k:Nat):Int)=false:=by simpa using q
   have hab4:=AH.lt_of_get j3
   obtain⟨s',h6,a1,i1,x1,n1⟩:=j2.push (bytes:=8) (uI (s.getD k 0)) (by omega) (by omega) rfl rfl (by rw[len_uI]; unfold tooMany; omega) (by rw[len_uI]; unfold tooMany; omega)
   rw[show uI (s.getD k 0)=[.int .u64 (s.getD k 0)] from rfl] at a1 i1
   refine W.seq (W.run (by simp only[am,evOp,simprocAttr,e4,a1]<;>rfl) ?_)
   refine W.run (by simp only[am,evOp,simprocAttr,e6,bin_or64]<;>rfl) ?_
   refine⟨(s',out++[s.getD k 0],or64 dn (s.getD k 0)),⟨?_,?_,by rw[x1.gt _ (by omega)]; exact j3,j4.trans (x1.mono (by omega))⟩,by simp only[hl,am,evOp,simprocAttr,ei,en,e19,e4,e6]⟩
   ·rw[hsucc,pstepU,if_neg (by simp [q])]
   ·rw[List.flatMap_append]
    exact i1
  ·have q:hasU dn ((k:Nat):Int)=true:=by simpa using q
   refine W.skip ⟨(a,out,dn),⟨?_,j2,j3,j4⟩,by simp only[hl,am,evOp,simprocAttr,ei,en,e19,e4,e6]⟩
   rw[hsucc,pstepU,if_pos q]
 ·rintro⟨a,out,dn⟩ ts h4 ⟨j1,j2,j3,j4⟩ ⟨e19,e4,e6,-⟩
  simp only at e19 e4 e6 j1 j2 j3 j4
  refine W.seq (W.run (by simp only[am,evOp,simprocAttr,e4]<;>rfl) ?_)
  refine W.ret ⟨a,(by simp only[rs,rf101,am,evOp,simprocAttr,j2.cells.1]<;>rfl),?_,j4⟩
  have e:out=partsN nn E:=by
   unfold partsN partsU
   rw[← hs,hsl,← j1]
  rw[← e]
  exact j2.mono (by omega)
end Go.Proofs.YticaalcbgikjjaaGreatDoor
namespace Go.Proofs.YticaalcbgikjjaaGreatDoor
open Go.Am
def endF (E:List (Int×Int)) (h:Int):Int:=if h.toNat % 2=0 then (E.getD (h.toNat / 2) (0,0)).1 else (E.getD (h.toNat / 2) (0,0)).2
def rowR (E:List (Int×Int)) (x:Int):List Int→List Bool→Option (List Bool)
 | [],s=>some s
 | h::t,s=>if 0≤h∧h<(s.length:Nat)∧s.getD h.toNat true=false∧endF E h=x then rowR E x t (s.set h.toNat true) else none
def allR (E:List (Int×Int)):Nat→List (List Int)→List Bool→Option (List Bool)
 | _,[],s=>some s
 | x,l::t,s=>(rowR E (x:Nat) l s).bind (allR E (x+1) t)
theorem rowR_app {E:List (Int×Int)}{x:Int}:∀ (a b:List Int) (s:List Bool),rowR E x (a++b) s=(rowR E x a s).bind (rowR E x b)
 | [],b,s=>rfl
 | h::t,b,s=>by
   simp only[List.cons_append,rowR]
   split
   ·exact rowR_app t b _
   ·rfl
theorem allR_app {E:List (Int×Int)}:∀ (a b:List (List Int)) (x:Nat) (s:List Bool),allR E x (a++b) s=(allR E x a s).bind (allR E (x+a.length) b)
 | [],b,x,s=>rfl
 | l::t,b,x,s=>by
   simp only[List.cons_append,allR,List.length_cons]
   cases rowR E (x:Nat) l s with
   | none=>rfl
   | some s' =>
     simp only[Option.bind_some]
     rw[allR_app t b (x+1) s']
     congr 2
     omega
theorem rowR_ok {E:List (Int×Int)}{x:Int}:∀ {l:List Int}{s s':List Bool},rowR E x l s=some s'→s'.length=s.length∧∀ h∈l,0≤h∧h<(s.length:Nat)
 | [],s,s',h=>by simp only[rowR,Option.some.injEq] at h; subst h; exact⟨rfl,fun h hh=>by cases hh⟩
 | h::t,s,s',he=>by
   simp only[rowR] at he
   split at he
   ·rename_i q
    obtain⟨h1,h2⟩:=rowR_ok he
    rw[List.length_set] at h1 h2
    exact⟨h1,fun y hy=>by
     rcases List.mem_cons.1 hy with rfl|hy
     ·exact⟨q.1,q.2.1⟩
     ·exact h2 y hy⟩
   ·cases he
theorem allR_ok {E:List (Int×Int)}:∀ {T:List (List Int)}{x:Nat}{s s':List Bool},allR E x T s=some s'→s'.length=s.length∧∀ l∈T,∀ h∈l,0≤h∧h<(s.length:Nat)
 | [],x,s,s',h=>by simp only[allR,Option.some.injEq] at h; subst h; exact⟨rfl,fun l hl=>by cases hl⟩
 | l::t,x,s,s',h=>by
   simp only[allR] at h
   obtain⟨s1,h1,h2⟩:=Option.bind_eq_some_iff.1 h
   obtain⟨a1,a2⟩:=rowR_ok h1
   obtain⟨b1,b2⟩:=allR_ok h2
   refine⟨b1.trans a1,fun y hy=>?_⟩
   rcases List.mem_cons.1 hy with rfl|hy
   ·exact a2
   ·rw[a1] at b2
    exact b2 y hy
def rightB (n:Nat) (E:List (Int×Int)) (T:List (List Int)):Bool :=
 decide (T.length=n)&&(match allR E 0 T (List.replicate (2*E.length) false) with
  | some s=>!s.contains false
  | none=>false)
theorem right_in {n:Nat}{E:List (Int×Int)}{T:List (List Int)} (h:rightB n E T=true):T.length=n∧∀ l∈T,∀ h∈l,0≤h∧h<((2*E.length:Nat):Int):=by
 unfold rightB at h
 rw[Bool.and_eq_true,decide_eq_true_eq] at h
 obtain⟨h1,h2⟩:=h
 refine⟨h1,?_⟩
 split at h2
 ·rename_i s e
  have:=(allR_ok e).2
  rwa [List.length_replicate] at this
 ·cases h2
def xorI (a b:Int):Int:=IntKind.i64.wrap ((BitVec.ofInt 64 a ^^^ BitVec.ofInt 64 b).toNat)
theorem bin_xorI {a b:Int}:binA .xor .no (.int .i64 a) (.int .i64 b)=some (.int .i64 (xorI a b)):=rfl
theorem xor_half (h:Nat):(h ^^^ 1) / 2=h / 2:=by
 have:=Nat.xor_div_two_pow (a:=h) (b:=1) (n:=1)
 simpa using this
theorem xorI_nat {h:Nat} (hh:h<2 ^ 40):xorI ((h:Nat):Int) 1=((h ^^^ 1:Nat):Int)∧∀ m,h<2*m→h ^^^ 1<2*m:=by
 have e:=xor_half h
 refine⟨?_,fun m hm=>by omega⟩
 unfold xorI
 have e1:(BitVec.ofInt 64 ((h:Nat):Int) ^^^ BitVec.ofInt 64 1).toNat=h ^^^ 1:=by
  rw[BitVec.toNat_xor,BitVec.ofInt_natCast,BitVec.toNat_ofNat,Nat.mod_eq_of_lt (by omega)]
  rfl
 rw[e1]
 exact wr64 (by omega) (by omega)
def stepN (l:List Int) (nx:List Int) (i:Nat):List Int:=nx.set (xorI (l.getD i 0) 1).toNat (l.getD ((i+1) % l.length) 0)
def rowN (nx:List Int) (l:List Int):List Int:=(List.range l.length).foldl (stepN l) nx
def nextsF (T:List (List Int)) (m:Nat):List Int:=T.foldl rowN (List.replicate (2*m) 0)
def Inr (N:Nat) (nx:List Int):Prop:=nx.length=N∧∀ z∈nx,0≤z∧z<(N:Nat)
theorem Inr.set {N:Nat}{nx:List Int}{i:Nat}{v:Int} (h:Inr N nx) (hv:0≤v∧v<(N:Nat)):Inr N (nx.set i v) :=
 ⟨by rw[List.length_set]; exact h.1,fun z hz=>by
  rcases List.mem_or_eq_of_mem_set hz with h1|rfl
  ·exact h.2 z h1
  ·exact hv⟩
theorem Inr.zero (N:Nat):Inr N (List.replicate N 0):=⟨by simp,fun z hz=>by
 obtain⟨h1,rfl⟩:=List.mem_replicate.1 hz
 omega⟩
theorem Inr.at {N:Nat}{nx:List Int} (h:Inr N nx) {i:Nat} (hi:i<N):0≤nx.getD i 0∧nx.getD i 0<(N:Nat):=by
 have hl:=h.1
 rw[List.getD_eq_getElem?_getD,List.getElem?_eq_getElem (by omega)]
 exact h.2 _ (List.getElem_mem _)
theorem getD_in {l:List Int}{P:Int→Prop} (h:∀ z∈l,P z) {i:Nat} (hi:i<l.length):P (l.getD i 0):=by
 rw[List.getD_eq_getElem?_getD,List.getElem?_eq_getElem hi]
 exact h _ (List.getElem_mem hi)
theorem rowN_in {N:Nat}{nx l:List Int} (h:Inr N nx) (hl:∀ z∈l,0≤z∧z<(N:Nat)):∀ k,k≤l.length→Inr N ((List.range k).foldl (stepN l) nx)
 | 0,_=>h
 | k+1,hk=>by
   rw[List.range_succ,List.foldl_append]
   exact (rowN_in h hl k (by omega)).set (getD_in hl (Nat.mod_lt _ (by omega)))
theorem nexts_in {N:Nat}{T:List (List Int)} (hT:∀ l∈T,∀ z∈l,0≤z∧z<(N:Nat)):∀ {nx:List Int},Inr N nx→Inr N (T.foldl rowN nx):=by
 induction T with
 | nil=>exact fun h=>h
 | cons l t ih=>exact fun {nx} h=>ih (fun l' hl'=>hT l' (List.mem_cons_of_mem _ hl')) (rowN_in h (hT l (List.mem_cons_self ..)) _ (Nat.le_refl _))
def tr (nx:List Int):Nat→List Bool→Nat→List Nat×List Bool
 | 0,s,_=>([],s)
 | k+1,s,h=>if s.getD h true=true then ([],s) else (h::(tr nx k (s.set h true) (nx.getD h 0).toNat).1,(tr nx k (s.set h true) (nx.getD h 0).toNat).2)
theorem tr_stop {nx:List Int}{k:Nat}{s:List Bool}{h:Nat} (hs:s.getD h true=true):tr nx k s h=([],s):=by
 cases k with
 | zero=>rfl
 | succ k=>simp only[tr,if_pos hs]
theorem count_set {s:List Bool}{h:Nat} (hs:s.getD h true=false):(s.set h true).count false+1=s.count false:=by
 induction s generalizing h with
 | nil=>simp at hs
 | cons b r ih =>
   cases h with
   | zero=>simp at hs; subst hs; simp
   | succ h =>
     simp only[List.getD_cons_succ] at hs
     have:=ih hs
     rw[List.set_cons_succ,List.count_cons,List.count_cons]
     omega
theorem tr_len (nx:List Int):∀ (k:Nat) (s:List Bool) (h:Nat),(tr nx k s h).1.length≤k∧(tr nx k s h).2.length=s.length
 | 0,s,h=>by simp [tr]
 | k+1,s,h=>by
   simp only[tr]
   split
   ·simp
   ·have:=tr_len nx k (s.set h true) (nx.getD h 0).toNat
    rw[List.length_set] at this
    simp only[List.length_cons]
    omega
theorem tr_in {N:Nat}{nx:List Int} (hn:Inr N nx):∀ (k:Nat) (s:List Bool) (h:Nat),h<N→∀ y∈(tr nx k s h).1,y<N
 | 0,s,h,_,y,hy=>by simp [tr] at hy
 | k+1,s,h,hh,y,hy=>by
   simp only[tr] at hy
   split at hy
   ·cases hy
   ·rcases List.mem_cons.1 hy with rfl|hy
    ·exact hh
    ·have:=hn.at hh
     exact tr_in hn k _ _ (by omega) y hy
def faceStep (nx:List Int) (N:Nat) (a:List (List Nat)×List Bool) (first:Nat):List (List Nat)×List Bool :=
 (if (tr nx N a.2 first).1=[] then a.1 else a.1++[(tr nx N a.2 first).1],(tr nx N a.2 first).2)
def facesF (nx:List Int) (N:Nat):List (List Nat):=((List.range N).foldl (faceStep nx N) ([],List.replicate N false)).1
theorem faces_ok {N:Nat}{nx:List Int} (hn:Inr N nx):∀ k,k≤N→((List.range k).foldl (faceStep nx N) ([],List.replicate N false)).1.length≤k∧((List.range k).foldl (faceStep nx N) ([],List.replicate N false)).2.length=N ∧
 ∀ l∈((List.range k).foldl (faceStep nx N) ([],List.replicate N false)).1,l.length≤N∧∀ y∈l,y<N
 | 0,_=>⟨by simp,by simp,fun l hl=>by cases hl⟩
 | k+1,hk=>by
   obtain⟨h1,h2,h3⟩:=faces_ok hn k (by omega)
   rw[List.range_succ,List.foldl_append]
   generalize (List.range k).foldl (faceStep nx N) ([],List.replicate N false)=a at *
   simp only[List.foldl_cons,List.foldl_nil,faceStep]
   have hl:=tr_len nx N a.2 k
   refine⟨?_,by omega,fun l hl'=>?_⟩
   ·split
    ·omega
    ·rw[List.length_append,List.length_cons,List.length_nil]; omega
   ·split at hl'
    ·exact h3 l hl'
    ·rcases List.mem_append.1 hl' with hl'|hl'
     ·exact h3 l hl'
     ·rw[List.mem_singleton] at hl'
      subst hl'
      exact⟨hl.1,tr_in hn N _ _ (by omega)⟩
def facesR (n:Nat) (E:List (Int×Int)) (T:List (List Int)):List (List Nat):=if rightB n E T then facesF (nextsF T E.length) (2*E.length) else []
theorem facesR_ok {n:Nat}{E:List (Int×Int)}{T:List (List Int)}:(facesR n E T).length≤2*E.length∧∀ l∈facesR n E T,l.length≤2*E.length∧∀ y∈l,y<2*E.length:=by
 unfold facesR
 split
 ·rename_i q
  have h:=faces_ok (nexts_in (right_in q).2 (Inr.zero _)) (2*E.length) (Nat.le_refl _)
  exact⟨h.1,h.2.2⟩
 ·exact⟨by simp,fun l hl=>by cases hl⟩
end Go.Proofs.YticaalcbgikjjaaGreatDoor
namespace Go.Proofs.YticaalcbgikjjaaGreatDoor
open Go.Am
theorem rem2 (h:Nat):(((h:Nat):Int)).tmod 2=((h % 2:Nat):Int):=rfl
theorem two0:¬ (2:Int)=0:=by decide
theorem rtvertex_ok {h:AH}{n:Nat}{ev:AV}{E:List (Int×Int)}{k:Nat} (he:SlE h ev E) (hk:k<2*E.length) (hl40:E.length<2 ^ 30) :
 C prg 128 [.agg [.int .i64 (n:Nat),ev],.int .i64 (k:Nat)] h fun r h'=>r=.int .i64 (endF E ((k:Nat):Int))∧Ext h.next h h':=by
 obtain⟨ec,eo⟩:=he.cells
 refine C.func pf128 ?_
 refine W.seq (W.run (by simp only[am,evOp,simprocAttr,initTm]<;>rfl) ?_)
 have x0:Ext h.next h (h.new (.cells [.int .i64 (n:Nat),ev] 2 false)):=Ext.new (Nat.le_refl _)
 have g0:(h.new (.cells [.int .i64 (n:Nat),ev] 2 false)).get h.next=some (.cells [.int .i64 (n:Nat),ev] 2 false):=by rw[AH.get_new,if_pos rfl]
 have n0:(h.new (.cells [.int .i64 (n:Nat),ev] 2 false)).next=h.next+1:=rfl
 generalize (h.new (.cells [.int .i64 (n:Nat),ev] 2 false))=h1 at *
 have rE:rdCells h1 h.next 1 1=some [ev]:=rd_at g0 rfl
 have q2:IntKind.i64.wrap (((k:Nat):Int).tdiv 2)=((k / 2:Nat):Int):=quo_nat (k:=2) (by omega)
 have hi:k / 2<E.length:=by omega
 obtain⟨qb,qp,a1,r1,_⟩:=(he.ext x0 (Nat.le_refl _)).at (map_at (f:=eE) hi)
 have r1:rdCells h1 qb qp 2=some [.int .i64 E[k / 2].1,.int .i64 E[k / 2].2]:=r1
 obtain⟨h2,w2,x2,g2,n2⟩:=mk_loc (h:=h1) (z:=[.int .i64 0,.int .i64 0]) (cs:=[.int .i64 E[k / 2].1,.int .i64 E[k / 2].2]) (e:=2) rfl
 have hE:E.getD (k / 2) (0,0)=E[k / 2]:=by rw[List.getD_eq_getElem?_getD,List.getElem?_eq_getElem hi]; rfl
 refine W.seq (W.run (by simp only[am,evOp,simprocAttr,initTm,rE,two0,q2,a1,r1,w2]<;>rfl) ?_)
 have r20:rdCells h2 h1.next 0 1=some [.int .i64 E[k / 2].1]:=rd_at g2 rfl
 have r21:rdCells h2 h1.next 1 1=some [.int .i64 E[k / 2].2]:=rd_at g2 rfl
 have X2:Ext h.next h h2:=x0.trans (x2.mono (by omega))
 by_cases q:k % 2=0
 ·have c1:decide (((k % 2:Nat):Int)=0)=true:=decide_eq_true (by omega)
  refine W.seq (W.seq (W.run (by simp only[am,evOp,simprocAttr,initTm,two0,rem2,c1]<;>rfl) ?_))
  refine W.yes (by simp only[am,evOp,simprocAttr]) (W.seq (W.run (by simp only[am,evOp,simprocAttr,r20]<;>rfl) ?_))
  exact W.ret ⟨_,(by simp only[rs,rf128,am,evOp,simprocAttr]<;>rfl),by rw[endF,Int.toNat_natCast,if_pos q,hE],X2⟩
 ·have c1:decide (((k % 2:Nat):Int)=0)=false:=decide_eq_false (by omega)
  refine W.seq (W.seq (W.run (by simp only[am,evOp,simprocAttr,initTm,two0,rem2,c1]<;>rfl) ?_))
  refine W.no (by simp only[am,evOp,simprocAttr]) (W.skip (W.seq (W.run (by simp only[am,evOp,simprocAttr,r21]<;>rfl) ?_)))
  exact W.ret ⟨_,(by simp only[rs,rf128,am,evOp,simprocAttr]<;>rfl),by rw[endF,Int.toNat_natCast,if_neg q,hE],X2⟩
theorem idxB_ok {h:AH}{b n:Nat}{s:List Bool}{y:Bool} (hg:h.get b=some (.cells (bls s) 1 false)) (hn:s.length=n) (hl40:n<2 ^ 40) :
 C prg 165 [.sl b 0 n n,.bool y] h fun r h'=>r=.int .i64 (fidx (y==·) s 0)∧h'=h:=by
 refine C.func pf165 ?_
 refine W.seq (W.run (by simp only[am,evOp,simprocAttr,initTm]<;>rfl) ?_)
 refine W.seq (W.seq (W.run (by simp only[am,evOp,simprocAttr,initTm]<;>rfl) ?_))
 refine W.rng (α:=Unit) (N:=n) (fun _ _=>[(0,.sl b 0 n n),(1,.bool y)]) (fun k _ h'=>h'=h∧fidx (y==·) (s.drop k) k=fidx (y==·) s 0) () (fun _ _=>rfl) (by omega) (by simp only[hl,am,evOp,simprocAttr,initTm]) ⟨rfl,by rw[List.drop_zero]⟩ ?_ ?_
 ·rintro k _ ts h1 hk ⟨rfl,hF⟩ ⟨ei,en,e0,e1,-⟩
  simp only at ei en e0 e1
  have ik:idx? ((k:Nat):Int) n=some k:=idx_nat hk
  have hks:k<s.length:=by omega
  have rk:rdCells h1 b k 1=some [.bool (s.getD k false)]:=rd_at hg (bls_at hks)
  have hsk:s.getD k false=s[k]:=by rw[List.getD_eq_getElem?_getD,List.getElem?_eq_getElem hks]; rfl
  rw[hsk] at rk
  refine W.seq (W.run (by simp only[am,evOp,simprocAttr,ei]<;>rfl) ?_)
  refine W.seq (W.run (by simp only[am,evOp,simprocAttr,e0,e1,ei,ik,Nat.mul_one,rk]<;>rfl) ?_)
  refine W.cond (t:=y==s[k]) (by simp only[am,evOp,simprocAttr]) (fun q=>?_) fun q=>?_
  ·refine W.seq (W.run (by simp only[am,evOp,simprocAttr]<;>rfl) ?_)
   refine W.ret ⟨.int .i64 (k:Nat),(by simp only[rs,rf165,am,evOp,simprocAttr]<;>rfl),?_,rfl⟩
   rw[← hF,fidx_drop _ hks,if_pos q]
  ·refine W.skip ⟨(),⟨rfl,?_⟩,by simp only[hl,am,evOp,simprocAttr,ei,en,e0,e1]⟩
   rw[← hF,fidx_drop _ hks,if_neg (by simp [q])]
 ·rintro _ ts h1 ⟨rfl,hF⟩ ⟨e0,e1,-⟩
  refine W.seq (W.run (by simp only[am,evOp,simprocAttr]<;>rfl) ?_)
  refine W.ret ⟨.int .i64 (-1),(by simp only[rs,rf165,am,evOp,simprocAttr]<;>rfl),?_,rfl⟩
  rw[← hF,List.drop_eq_nil_of_le (by omega)]
  rfl
theorem contB_ok {h:AH}{b n:Nat}{s:List Bool}{y:Bool} (hg:h.get b=some (.cells (bls s) 1 false)) (hn:s.length=n) (hl40:n<2 ^ 40) :
 C prg 129 [.sl b 0 n n,.bool y] h fun r h'=>r=.bool (s.any (y==·))∧h'=h:=by
 refine C.func pf129 ?_
 refine W.seq (W.run (by simp only[am,evOp,simprocAttr,initTm]<;>rfl) ?_)
 have hc:=idxB_ok (y:=y) hg hn hl40
 refine W.seq (W.reg (G.gcall 2 (by simp only[am,evOp,simprocAttr,initTm]<;>rfl) rfl (by simp only[am,evOp,simprocAttr,initTm]) (by simp only[am,evOp,simprocAttr,initTm]<;>rfl) (hc) fun r h2 hq=>?_))
 obtain⟨rfl,rfl⟩:=hq
 have hb:decide ((0:Int)≤fidx (y==·) s 0)=s.any (y==·):=by
  have:=(fidx_lo (y==·) s 0).2
  cases hq:s.any (y==·) with
  | true=>rw[decide_eq_true_eq]; rw[hq] at this; simp at this; omega
  | false=>rw[decide_eq_false_iff_not]; have:=this.2 hq; omega
 refine G.run (by simp only[am,evOp,simprocAttr,hb]<;>rfl) ?_
 exact W.ret ⟨_,(by simp only[rs,rf129,am,evOp,simprocAttr]<;>rfl),rfl,rfl⟩
theorem dbl {m:Nat} (h:m<2 ^ 40):IntKind.i64.wrap (2*((m:Nat):Int))=((2*m:Nat):Int):=by rw[wr64 (by omega) (by omega)]; omega
theorem mks_boolN {h:AH}{n:Nat} (hn:n<2 ^ 40):mksA h [.bool false] 1 1 (.int .i64 (n:Nat)) (.int .i64 (n:Nat))=some (.sl h.next 0 n n,h.new (.cells (bls (List.replicate n false)) 1 false)):=by
 rw[mksA_nat (by unfold tooMany; omega) (by unfold tooMany; omega),bls_rep]
theorem row_bad {E:List (Int×Int)}{T:List (List Int)}{k j:Nat}{s0 a a':List Bool} (hk:k<T.length) (hj:j<T[k].length) (h1:allR E 0 (T.take k) s0=some a) (h2:rowR E ((k:Nat):Int) (T[k].take j) a=some a')
 (hn:¬ (0≤T[k][j]∧T[k][j]<(a'.length:Nat)∧a'.getD T[k][j].toNat true=false∧endF E T[k][j]=((k:Nat):Int))):allR E 0 T s0=none:=by
 have e1:rowR E ((k:Nat):Int) T[k] a=none:=by
  rw[← List.take_append_drop j T[k],rowR_app,h2,Option.bind_some,List.drop_eq_getElem_cons hj]
  simp only[rowR]
  rw[if_neg hn]
 rw[← List.take_append_drop k T,allR_app,h1,Option.bind_some,List.drop_eq_getElem_cons hk]
 simp only[allR]
 rw[List.length_take,Nat.min_eq_left (by omega),Nat.zero_add,e1]
 rfl
set_option maxHeartbeats 1000000 in
theorem rtright_ok {h:AH}{n:Nat}{ev tv:AV}{E:List (Int×Int)}{T:List (List Int)} (he:SlE h ev E) (hm:mayB (n:Nat) E=true) (hT:SlL h tv T) (hT1:T.length<2 ^ 40) (hT2:∀ l∈T,l.length<2 ^ 40) :
 C prg 84 [.agg [.int .i64 (n:Nat),ev],tv] h fun r h'=>r=.bool (rightB n E T)∧Ext h.next h h':=by
 obtain⟨ec,eo⟩:=he.cells
 obtain⟨tc,to⟩:=hT.cells
 obtain⟨m1,m2,m3,m4⟩:=may_of hm
 have el:=he.len
 rw[List.length_map] at el
 have tl:=hT.len
 refine C.func pf84 ?_
 refine W.seq (W.run (by simp only[am,evOp,simprocAttr,initTm]<;>rfl) ?_)
 have x0:Ext h.next h (h.new (.cells [.int .i64 (n:Nat),ev] 2 false)):=Ext.new (Nat.le_refl _)
 have g0:(h.new (.cells [.int .i64 (n:Nat),ev] 2 false)).get h.next=some (.cells [.int .i64 (n:Nat),ev] 2 false):=by rw[AH.get_new,if_pos rfl]
 have n0:(h.new (.cells [.int .i64 (n:Nat),ev] 2 false)).next=h.next+1:=rfl
 generalize (h.new (.cells [.int .i64 (n:Nat),ev] 2 false))=h1 at *
 have rA:rdCells h1 h.next 0 2=some [.int .i64 (n:Nat),ev]:=by rw[rdCells_of g0]; rfl
 refine W.seq (W.seq (W.reg (G.gcall 1 (by simp only[am,evOp,simprocAttr,initTm,rA]<;>rfl) rfl (by simp only[am,evOp,simprocAttr,initTm,rA]) (by simp only[am,evOp,simprocAttr,initTm,rA]<;>rfl) (gmay_ok (n:=((n:Nat):Int)) (he.ext x0 (Nat.le_refl _)) (by omega)) fun r h2 hq=>?_)))
 obtain⟨rfl,x2⟩:=hq
 rw[hm]
 have n2:=x2.nx
 have X2:Ext h.next h h2:=x0.trans (x2.mono (by omega))
 have g2:h2.get h.next=some (.cells [.int .i64 (n:Nat),ev] 2 false):=by rw[x2.gt _ (by omega)]; exact g0
 have rN:rdCells h2 h.next 0 1=some [.int .i64 (n:Nat)]:=rd_at g2 rfl
 have rE:rdCells h2 h.next 1 1=some [ev]:=rd_at g2 rfl
 have e1:decide (((T.length:Nat):Int)=((n:Nat):Int))=decide (T.length=n):=by rw[decide_eq_decide]; omega
 refine G.run (by simp only[am,evOp,simprocAttr,initTm,tl,rN,e1]<;>rfl) ?_
 by_cases q0:¬ T.length=n
 ·have c1:decide (T.length=n)=false:=decide_eq_false q0
  refine W.yes (by simp only[am,evOp,simprocAttr,c1]) (W.seq (W.run (by simp only[am,evOp,simprocAttr]<;>rfl) ?_))
  exact W.ret ⟨.bool false,(by simp only[rs,rf84,am,evOp,simprocAttr]<;>rfl),by rw[rightB,c1,Bool.false_and],X2⟩
 have q0:=Classical.not_not.1 q0
 have c1:decide (T.length=n)=true:=decide_eq_true q0
 refine W.no (by simp only[am,evOp,simprocAttr,c1]) (W.skip ?_)
 have wd:=dbl (m:=E.length) (by omega)
 have mk:=mks_boolN (h:=h2) (n:=2*E.length) (by omega)
 refine W.seq (W.run (by simp only[am,evOp,simprocAttr,initTm,rE,el,wd,mk]<;>rfl) ?_)
 have x3:Ext h2.next h2 (h2.new (.cells (bls (List.replicate (2*E.length) false)) 1 false)):=Ext.new (Nat.le_refl _)
 have g3:(h2.new (.cells (bls (List.replicate (2*E.length) false)) 1 false)).get h2.next=some (.cells (bls (List.replicate (2*E.length) false)) 1 false):=by rw[AH.get_new,if_pos rfl]
 generalize h2.new (.cells (bls (List.replicate (2*E.length) false)) 1 false)=h3 at *
 refine W.seq (W.seq (W.run (by simp only[am,evOp,simprocAttr,initTm,tl]<;>rfl) ?_))
 refine W.rng (α:=List Bool) (N:=T.length) (fun _ _=>[(25,tv),(2,.ptr h.next 0),(5,.sl h2.next 0 (2*E.length) (2*E.length))])
  (fun k a h'=>allR E 0 (T.take k) (List.replicate (2*E.length) false)=some a∧a.length=2*E.length∧h'.get h2.next=some (.cells (bls a) 1 false)∧Ext h2.next h2 h') (List.replicate (2*E.length) false) (fun _ _=>rfl) (by omega) (by simp only[hl,am,evOp,simprocAttr,initTm,tc,to]) ⟨rfl,by simp,g3,x3⟩ ?_ ?_
 ·rintro k a ts h4 hk ⟨j1,j2,j3,j4⟩ ⟨ei,en,e25,e2,e5,-⟩
  simp only at ei en e25 e2 e5
  have n4:=j4.nx
  have X4:Ext h.next h h4:=X2.trans (j4.mono (by omega))
  obtain⟨rb,rp,w,a1,r1,rw1,lb⟩:=hT.at hk
  rw[← rdCells_eq (X4.gt _ lb)] at r1
  obtain⟨wc,wo⟩:=rw1.cells
  have wl:=rw1.len
  rw[List.length_map] at wl
  have hll:=hT2 _ (List.getElem_mem hk)
  refine W.seq (W.run (by simp only[am,evOp,simprocAttr,e25,ei,a1,r1]<;>rfl) ?_)
  refine W.seq (W.run (by simp only[am,evOp,simprocAttr,wl]<;>rfl) ?_)
  refine W.rng (α:=List Bool) (N:=T[k].length) (fun _ _=>[(27,.int .i64 (k:Nat)),(26,.int .i64 (T.length:Nat)),(25,tv),(2,.ptr h.next 0),(5,.sl h2.next 0 (2*E.length) (2*E.length)),(6,.int .i64 (k:Nat)),(32,w)])
   (fun j a' h'=>rowR E ((k:Nat):Int) (T[k].take j) a=some a'∧a'.length=2*E.length∧h'.get h2.next=some (.cells (bls a') 1 false)∧Ext h2.next h2 h') a (fun _ _=>rfl) (by omega) (by simp only[hl,am,evOp,simprocAttr,ei,en,e25,e2,e5]) ⟨rfl,j2,j3,j4⟩ ?_ ?_
  ·clear ei en e25 e2 e5 a1 r1
   rintro j a' ts h5 hj ⟨i1,i2,i3,i4⟩ ⟨e34,e33,e27,e26,e25,e2,e5,e6,e32,-⟩
   simp only at e34 e33 e27 e26 e25 e2 e5 e6 e32
   have n5:=i4.nx
   have X5:Ext h.next h h5:=X2.trans (i4.mono (by omega))
   have rw5:SlI h5 w T[k]:=rw1.ext X5 (Nat.le_refl _)
   obtain⟨zb,zp,a2,r2,_⟩:=rw5.at1 (map_at (f:=eI) hj)
   refine W.seq (W.run (by simp only[am,evOp,simprocAttr,e32,e34,a2,r2]<;>rfl) ?_)
   have bad:=row_bad (s0:=List.replicate (2*E.length) false) hk hj j1 i1
   have hbad:∀ (_:¬ (0≤T[k][j]∧T[k][j]<(a'.length:Nat)∧a'.getD T[k][j].toNat true=false∧endF E T[k][j]=((k:Nat):Int))),AV.bool false=.bool (rightB n E T):=fun q=>by
    rw[rightB,bad q,Bool.and_false]
   have hnext:(0≤T[k][j]∧T[k][j]<(a'.length:Nat)∧a'.getD T[k][j].toNat true=false∧endF E T[k][j]=((k:Nat):Int))→rowR E ((k:Nat):Int) (T[k].take (j+1)) a=some (a'.set T[k][j].toNat true):=fun q=>by
    rw[List.take_succ_eq_append_getElem hj,rowR_app,i1,Option.bind_some]
    simp only[rowR]
    rw[if_pos q]
   generalize T[k][j]=z at *
   by_cases q1:z<0
   ·have c1:decide (z<0)=true:=decide_eq_true q1
    refine W.seq (W.seq (W.reg (G.nocall 17 (by simp only[am,evOp,simprocAttr,c1]<;>rfl) rfl (by simp only[am,evOp,simprocAttr,c1]) ?_)))
    refine G.run (by simp only[am,evOp,simprocAttr,c1]<;>rfl) ?_
    refine W.yes (by simp only[am,evOp,simprocAttr]) (W.seq (W.run (by simp only[am,evOp,simprocAttr]<;>rfl) ?_))
    exact W.ret ⟨.bool false,(by simp only[rs,rf84,am,evOp,simprocAttr]<;>rfl),hbad fun q=>by omega,X5⟩
   have c1:decide (z<0)=false:=decide_eq_false q1
   obtain⟨zn,rfl⟩:=Int.eq_ofNat_of_zero_le (Int.not_lt.1 q1)
   by_cases q2:2*E.length≤zn
   ·have c2:decide (((2*E.length:Nat):Int)≤((zn:Nat):Int))=true:=decide_eq_true (by omega)
    refine W.seq (W.seq (W.reg (G.nocall 17 (by simp only[am,evOp,simprocAttr,c1,c2,e5]<;>rfl) rfl (by simp only[am,evOp,simprocAttr,c1,c2]) ?_)))
    refine G.run (by simp only[am,evOp,simprocAttr,c1]<;>rfl) ?_
    refine W.yes (by simp only[am,evOp,simprocAttr]) (W.seq (W.run (by simp only[am,evOp,simprocAttr]<;>rfl) ?_))
    exact W.ret ⟨.bool false,(by simp only[rs,rf84,am,evOp,simprocAttr]<;>rfl),hbad fun q=>by omega,X5⟩
   have c2:decide (((2*E.length:Nat):Int)≤((zn:Nat):Int))=false:=decide_eq_false (by omega)
   have iz:idx? ((zn:Nat):Int) (2*E.length)=some zn:=idx_nat (by omega)
   have hza:zn<a'.length:=by omega
   have ra:rdCells h5 h2.next zn 1=some [.bool (a'.getD zn false)]:=rd_at i3 (bls_at hza)
   have hgd:a'.getD zn true=a'.getD zn false:=by
    rw[List.getD_eq_getElem?_getD,List.getD_eq_getElem?_getD,List.getElem?_eq_getElem hza]
    rfl
   rw[Int.toNat_natCast,hgd] at hbad hnext
   cases q3:a'.getD zn false with
   | true =>
     rw[q3] at ra hbad
     refine W.seq (W.seq (W.reg (G.nocall 17 (by simp only[am,evOp,simprocAttr,c1,c2,e5,iz,Nat.mul_one,ra]<;>rfl) rfl (by simp only[am,evOp,simprocAttr,c1,c2]) ?_)))
     refine G.run (by simp only[am,evOp,simprocAttr,c1]<;>rfl) ?_
     refine W.yes (by simp only[am,evOp,simprocAttr]) (W.seq (W.run (by simp only[am,evOp,simprocAttr]<;>rfl) ?_))
     exact W.ret ⟨.bool false,(by simp only[rs,rf84,am,evOp,simprocAttr]<;>rfl),hbad (fun q=>by cases q.2.2.1),X5⟩
   | false =>
     rw[q3] at ra hbad hnext
     have g5:h5.get h.next=some (.cells [.int .i64 (n:Nat),ev] 2 false):=by rw[i4.gt _ (by omega)]; exact g2
     have rA5:rdCells h5 h.next 0 2=some [.int .i64 (n:Nat),ev]:=by rw[rdCells_of g5]; rfl
     have hv:=rtvertex_ok (n:=n) (k:=zn) (he.ext X5 (Nat.le_refl _)) (by omega) (by omega)
     refine W.seq (W.seq (W.reg (G.gcall 17 (by simp only[am,evOp,simprocAttr,c1,c2,e2,e5,iz,Nat.mul_one,ra,rA5]<;>rfl) rfl (by simp only[am,evOp,simprocAttr,c1,c2,e2,e5,iz,Nat.mul_one,ra,rA5]) (by simp only[am,evOp,simprocAttr,c1,c2,e2,e5,iz,Nat.mul_one,ra,rA5]<;>rfl) (hv) fun r h6 hq=>?_)))
     obtain⟨rfl,x6⟩:=hq
     have n6:=x6.nx
     have i46:Ext h2.next h2 h6:=i4.trans (x6.mono n5)
     refine G.run (by simp only[am,evOp,simprocAttr,e6]<;>rfl) ?_
     by_cases q4:endF E ((zn:Nat):Int)=((k:Nat):Int)
     ·have c4:decide (endF E ((zn:Nat):Int)=((k:Nat):Int))=true:=decide_eq_true q4
      refine W.no (by simp only[am,evOp,simprocAttr,c4]) (W.skip ?_)
      have gs6:h6.get h2.next=some (.cells (bls a') 1 false):=by rw[x6.gt _ (AH.lt_of_get i3)]; exact i3
      have w7:=wr_at (v:=.bool true) gs6 (show zn<(bls a').length by rw[bls_len]; exact hza)
      rw[bls_set] at w7
      have u7:=Upd.put (o:=.cells (bls (a'.set zn true)) 1 false) gs6
      refine W.run (by simp only[am,evOp,simprocAttr,e5,iz,Nat.mul_one,w7]<;>rfl) ?_
      exact⟨a'.set zn true,⟨hnext ⟨by omega,by omega,rfl,q4⟩,by rw[List.length_set]; exact i2,u7.get,i46.trans (u7.ext (Nat.le_refl _))⟩,by simp only[hl,am,evOp,simprocAttr,e34,e33,e27,e26,e25,e2,e5,e6,e32]⟩
     ·have c4:decide (endF E ((zn:Nat):Int)=((k:Nat):Int))=false:=decide_eq_false q4
      refine W.yes (by simp only[am,evOp,simprocAttr,c4]) (W.seq (W.run (by simp only[am,evOp,simprocAttr]<;>rfl) ?_))
      exact W.ret ⟨.bool false,(by simp only[rs,rf84,am,evOp,simprocAttr]<;>rfl),hbad fun q=>q4 q.2.2.2,X2.trans (i46.mono (by omega))⟩
  ·rintro a' ts h5 ⟨i1,i2,i3,i4⟩ ⟨e27,e26,e25,e2,e5,e6,e32,-⟩
   simp only at e27 e26 e25 e2 e5
   rw[List.take_length] at i1
   refine⟨a',⟨?_,i2,i3,i4⟩,by simp only[hl,am,evOp,simprocAttr,e27,e26,e25,e2,e5]⟩
   rw[List.take_succ_eq_append_getElem hk,allR_app,j1,Option.bind_some]
   simp only[allR]
   rw[List.length_take,Nat.min_eq_left (by omega),Nat.zero_add,i1]
   rfl
 ·rintro a ts h4 ⟨j1,j2,j3,j4⟩ ⟨e25,e2,e5,-⟩
  simp only at e25 e2 e5
  rw[List.take_length] at j1
  have n4:=j4.nx
  refine W.seq (W.reg (G.gcall 1 (by simp only[am,evOp,simprocAttr,e5]<;>rfl) rfl (by simp only[am,evOp,simprocAttr,e5]) (by simp only[am,evOp,simprocAttr,e5]<;>rfl) (contB_ok (y:=false) j3 j2 (by omega)) fun r h5 hq=>?_))
  obtain⟨rfl,rfl⟩:=hq
  refine G.run (by simp only[am,evOp,simprocAttr]<;>rfl) ?_
  refine W.ret ⟨_,(by simp only[rs,rf84,am,evOp,simprocAttr]<;>rfl),?_,X2.trans (j4.mono (by omega))⟩
  rw[rightB,c1,j1,Bool.true_and]
  congr 2
  exact List.any_beq
theorem mks_intN {h:AH}{n:Nat} (hn:n<2 ^ 34):mksA h [.int .i64 0] 1 8 (.int .i64 (n:Nat)) (.int .i64 (n:Nat))=some (.sl h.next 0 n n,h.new (.cells ((List.replicate n (0:Int)).flatMap eI) 1 false)):=by
 rw[mksA_nat (by unfold tooMany; omega) (by unfold tooMany; omega)]
 congr 4
 induction n with
 | zero=>rfl
 | succ n ih=>rw[List.replicate_succ,List.flatMap_cons,← ih (by omega)]; rfl
theorem getD_el {l:List Int}{i:Nat} (h:i<l.length):l.getD i 0=l[i]:=by
 rw[List.getD_eq_getElem?_getD,List.getElem?_eq_getElem h]
 rfl
set_option maxHeartbeats 1000000 in
theorem rtnexts_ok {h:AH}{n:Nat}{ev tv:AV}{E:List (Int×Int)}{T:List (List Int)} (he:SlE h ev E) (hE:E.length<2 ^ 30) (hT:SlL h tv T) (hT1:T.length<2 ^ 40) (hT2:∀ l∈T,l.length<2 ^ 40) (hin:∀ l∈T,∀ z∈l,0≤z∧z<((2*E.length:Nat):Int)) :
 C prg 98 [.agg [.int .i64 (n:Nat),ev],tv] h fun r h'=>∃ nb,h.next≤nb∧r=.sl nb 0 (2*E.length) (2*E.length)∧h'.get nb=some (.cells ((nextsF T E.length).flatMap eI) 1 false)∧Ext h.next h h':=by
 obtain⟨ec,eo⟩:=he.cells
 obtain⟨tc,to⟩:=hT.cells
 have el:=he.len
 rw[List.length_map] at el
 have tl:=hT.len
 refine C.func pf98 ?_
 refine W.seq (W.run (by simp only[am,evOp,simprocAttr,initTm]<;>rfl) ?_)
 have x0:Ext h.next h (h.new (.cells [.int .i64 (n:Nat),ev] 2 false)):=Ext.new (Nat.le_refl _)
 have g0:(h.new (.cells [.int .i64 (n:Nat),ev] 2 false)).get h.next=some (.cells [.int .i64 (n:Nat),ev] 2 false):=by rw[AH.get_new,if_pos rfl]
 have n0:(h.new (.cells [.int .i64 (n:Nat),ev] 2 false)).next=h.next+1:=rfl
 generalize (h.new (.cells [.int .i64 (n:Nat),ev] 2 false))=h2 at *
 have rE:rdCells h2 h.next 1 1=some [ev]:=rd_at g0 rfl
 have wd:=dbl (m:=E.length) (by omega)
 have mk:=mks_intN (h:=h2) (n:=2*E.length) (by omega)
 refine W.seq (W.run (by simp only[am,evOp,simprocAttr,initTm,rE,el,wd,mk]<;>rfl) ?_)
 have x3:Ext h2.next h2 (h2.new (.cells ((List.replicate (2*E.length) (0:Int)).flatMap eI) 1 false)):=Ext.new (Nat.le_refl _)
 have g3:(h2.new (.cells ((List.replicate (2*E.length) (0:Int)).flatMap eI) 1 false)).get h2.next=some (.cells ((List.replicate (2*E.length) (0:Int)).flatMap eI) 1 false):=by rw[AH.get_new,if_pos rfl]
 generalize h2.new (.cells ((List.replicate (2*E.length) (0:Int)).flatMap eI) 1 false)=h3 at *
 refine W.seq (W.seq (W.run (by simp only[am,evOp,simprocAttr,initTm,tl]<;>rfl) ?_))
 refine W.rng (α:=List Int) (N:=T.length) (fun _ _=>[(15,tv),(5,.sl h2.next 0 (2*E.length) (2*E.length))])
  (fun k a h'=>a=(T.take k).foldl rowN (List.replicate (2*E.length) 0)∧Inr (2*E.length) a∧h'.get h2.next=some (.cells (a.flatMap eI) 1 false)∧Ext h2.next h2 h') (List.replicate (2*E.length) 0) (fun _ _=>rfl) (by omega) (by simp only[hl,am,evOp,simprocAttr,initTm,tc,to]) ⟨rfl,Inr.zero _,g3,x3⟩ ?_ ?_
 ·rintro k a ts h4 hk ⟨j1,j2,j3,j4⟩ ⟨ei,en,e15,e5,-⟩
  simp only at ei en e15 e5
  have n4:=j4.nx
  have X4:Ext h.next h h4:=x0.trans (j4.mono (by omega))
  obtain⟨rb,rp,w,a1,r1,rw1,lb⟩:=hT.at hk
  rw[← rdCells_eq (X4.gt _ lb)] at r1
  obtain⟨wc,wo⟩:=rw1.cells
  have wl:=rw1.len
  rw[List.length_map] at wl
  have hll:=hT2 _ (List.getElem_mem hk)
  have hzin:=hin _ (List.getElem_mem hk)
  refine W.seq (W.run (by simp only[am,evOp,simprocAttr,e15,ei,a1,r1]<;>rfl) ?_)
  refine W.seq (W.run (by simp only[am,evOp,simprocAttr,wl]<;>rfl) ?_)
  have hst:(T.take (k+1)).foldl rowN (List.replicate (2*E.length) 0)=rowN a T[k]:=by
   rw[List.take_succ_eq_append_getElem hk,List.foldl_append,← j1]
   rfl
  generalize T[k]=l at *
  refine W.rng (α:=List Int) (N:=l.length) (fun _ _=>[(17,.int .i64 (k:Nat)),(16,.int .i64 (T.length:Nat)),(15,tv),(5,.sl h2.next 0 (2*E.length) (2*E.length)),(7,w),(21,w)])
   (fun j a' h'=>a'=(List.range j).foldl (stepN l) a∧Inr (2*E.length) a'∧h'.get h2.next=some (.cells (a'.flatMap eI) 1 false)∧Ext h2.next h2 h') a (fun _ _=>rfl) (by omega) (by simp only[hl,am,evOp,simprocAttr,ei,en,e15,e5]) ⟨rfl,j2,j3,j4⟩ ?_ ?_
  ·clear ei en e15 e5 a1 r1
   rintro j a' ts h5 hj ⟨i1,i2,i3,i4⟩ ⟨e23,e22,e17,e16,e15,e5,e7,e21,-⟩
   simp only at e23 e22 e17 e16 e15 e5 e7 e21
   have X5:Ext h.next h h5:=x0.trans (i4.mono (by omega))
   have rw5:SlI h5 w l:=rw1.ext X5 (Nat.le_refl _)
   obtain⟨zb,zp,a2,r2,_⟩:=rw5.at1 (map_at (f:=eI) hj)
   have hj2:(j+1) % l.length<l.length:=Nat.mod_lt _ (by omega)
   obtain⟨yb,yp,a3,r3,_⟩:=rw5.at1 (map_at (f:=eI) hj2)
   refine W.seq (W.run (by simp only[am,evOp,simprocAttr,e21,e23,a2,r2]<;>rfl) ?_)
   have hz:=hzin _ (List.getElem_mem hj)
   have hy:=hzin _ (List.getElem_mem hj2)
   have hsucc:(List.range (j+1)).foldl (stepN l) a=stepN l a' j:=by
    rw[List.range_succ,List.foldl_append,← i1]
    rfl
   have hsv:stepN l a' j=a'.set (xorI l[j] 1).toNat l[(j+1) % l.length]:=by
    unfold stepN
    rw[getD_el hj,getD_el hj2]
   generalize l[j]=z at *
   generalize l[(j+1) % l.length]=y at *
   obtain⟨zn,rfl⟩:=Int.eq_ofNat_of_zero_le hz.1
   obtain⟨xe,xl⟩:=xorI_nat (h:=zn) (by omega)
   have xl:=xl E.length (by omega)
   rw[xe,Int.toNat_natCast] at hsv
   have ix:idx? ((zn ^^^ 1:Nat):Int) (2*E.length)=some (zn ^^^ 1):=idx_nat xl
   have w1:IntKind.i64.wrap (((j:Nat):Int)+1)=((j+1:Nat):Int):=wr64 (by omega) (by omega)
   have hnz:¬ ((l.length:Nat):Int)=0:=by omega
   have hr:(((j+1:Nat):Int)).tmod ((l.length:Nat):Int)=(((j+1) % l.length:Nat):Int):=rfl
   have w7:=wr_at (v:=.int .i64 y) i3 (show zn ^^^ 1<(a'.flatMap eI).length by rw[len_cI,i2.1]; exact xl)
   rw[set_cI] at w7
   have u7:=Upd.put (o:=.cells ((a'.set (zn ^^^ 1) y).flatMap eI) 1 false) i3
   refine W.run (by simp only[am,evOp,simprocAttr,e5,e7,bin_xorI,xe,w1,wl,hnz,hr,a3,r3,ix,Nat.mul_one,w7]<;>rfl) ?_
   exact⟨a'.set (zn ^^^ 1) y,⟨by rw[hsucc,hsv],i2.set hy,u7.get,i4.trans (u7.ext (Nat.le_refl _))⟩,by simp only[hl,am,evOp,simprocAttr,e23,e22,e17,e16,e15,e5,e7,e21]⟩
  ·rintro a' ts h5 ⟨i1,i2,i3,i4⟩ ⟨e17,e16,e15,e5,e7,e21,-⟩
   simp only at e17 e16 e15 e5
   exact⟨a',⟨by rw[hst,i1]; rfl,i2,i3,i4⟩,by simp only[hl,am,evOp,simprocAttr,e17,e16,e15,e5]⟩
 ·rintro a ts h4 ⟨j1,j2,j3,j4⟩ ⟨e15,e5,-⟩
  simp only at e15 e5
  rw[List.take_length] at j1
  refine W.seq (W.run (by simp only[am,evOp,simprocAttr,e5]<;>rfl) ?_)
  exact W.ret ⟨_,(by simp only[rs,rf98,am,evOp,simprocAttr]<;>rfl),h2.next,by omega,rfl,by rw[← show a=nextsF T E.length from j1]; exact j3,x0.trans (j4.mono (by omega))⟩
theorem LL.none {h:AH}{lo:Nat}:LL h lo .nils []:=⟨[],.inl ⟨rfl,rfl⟩,rfl,fun i v xs h1=>by simp at h1⟩
theorem bls_gd {s:List Bool}{i:Nat} (h:i<s.length):s.getD i true=s.getD i false:=by
 rw[List.getD_eq_getElem?_getD,List.getD_eq_getElem?_getD,List.getElem?_eq_getElem h]
 rfl
set_option maxHeartbeats 2000000 in
theorem rtfaces_ok {h:AH}{n:Nat}{ev tv:AV}{E:List (Int×Int)}{T:List (List Int)} (he:SlE h ev E) (hm:mayB (n:Nat) E=true) (hT:SlL h tv T) (hT1:T.length<2 ^ 40) (hT2:∀ l∈T,l.length<2 ^ 40) :
 C prg 48 [.agg [.int .i64 (n:Nat),ev],tv] h fun r h'=>LL h' h.next r (facesR n E T)∧Ext h.next h h':=by
 obtain⟨ec,eo⟩:=he.cells
 obtain⟨tc,to⟩:=hT.cells
 obtain⟨m1,m2,m3,m4⟩:=may_of hm
 refine C.func pf48 ?_
 refine W.seq (W.run (by simp only[am,evOp,simprocAttr,initTm]<;>rfl) ?_)
 have x0:Ext h.next h (h.new (.cells [.int .i64 (n:Nat),ev] 2 false)):=Ext.new (Nat.le_refl _)
 have g0:(h.new (.cells [.int .i64 (n:Nat),ev] 2 false)).get h.next=some (.cells [.int .i64 (n:Nat),ev] 2 false):=by rw[AH.get_new,if_pos rfl]
 have n0:(h.new (.cells [.int .i64 (n:Nat),ev] 2 false)).next=h.next+1:=rfl
 generalize (h.new (.cells [.int .i64 (n:Nat),ev] 2 false))=h1 at *
 have rA:rdCells h1 h.next 0 2=some [.int .i64 (n:Nat),ev]:=by rw[rdCells_of g0]; rfl
 refine W.seq (W.seq (W.reg (G.gcall 2 (by simp only[am,evOp,simprocAttr,initTm,rA]<;>rfl) rfl (by simp only[am,evOp,simprocAttr,initTm,rA]) (by simp only[am,evOp,simprocAttr,initTm,rA]<;>rfl) (rtright_ok (n:=n) (he.ext x0 (Nat.le_refl _)) hm (hT.ext x0) hT1 hT2) fun r h2 hq=>?_)))
 obtain⟨rfl,x2⟩:=hq
 refine G.run (by simp only[am,evOp,simprocAttr]<;>rfl) ?_
 have n2:=x2.nx
 have X2:Ext h.next h h2:=x0.trans (x2.mono (by omega))
 cases hR:rightB n E T with
 | false =>
   refine W.yes (by simp only[am,evOp,simprocAttr]) (W.seq (W.run (by simp only[am,evOp,simprocAttr]<;>rfl) ?_))
   refine W.ret ⟨.nils,(by simp only[rs,rf48,am,evOp,simprocAttr]<;>rfl),?_,X2⟩
   rw[facesR,hR]
   exact LL.none
 | true =>
 obtain⟨_,hin⟩:=right_in hR
 refine W.no (by simp only[am,evOp,simprocAttr]) (W.skip ?_)
 have g2:h2.get h.next=some (.cells [.int .i64 (n:Nat),ev] 2 false):=by rw[x2.gt _ (by omega)]; exact g0
 have rA2:rdCells h2 h.next 0 2=some [.int .i64 (n:Nat),ev]:=by rw[rdCells_of g2]; rfl
 refine W.seq (W.reg (G.gcall 2 (by simp only[am,evOp,simprocAttr,initTm,rA2]<;>rfl) rfl (by simp only[am,evOp,simprocAttr,initTm,rA2]) (by simp only[am,evOp,simprocAttr,initTm,rA2]<;>rfl) (rtnexts_ok (n:=n) (he.ext X2 (Nat.le_refl _)) (by omega) (hT.ext X2) hT1 hT2 hin) fun r h3 hq=>?_))
 obtain⟨nb,hnb,rfl,gn,x3⟩:=hq
 refine G.run (by simp only[am,evOp,simprocAttr]<;>rfl) ?_
 have n3:=x3.nx
 have X3:Ext h.next h h3:=X2.trans (x3.mono (by omega))
 have hIn:Inr (2*E.length) (nextsF T E.length):=nexts_in hin (Inr.zero _)
 have hFR:facesR n E T=facesF (nextsF T E.length) (2*E.length):=by rw[facesR,if_pos hR]
 rw[hFR]
 have hN:2*E.length≤256:=by omega
 generalize nextsF T E.length=nx at *
 generalize 2*E.length=N at *
 have mk:=mks_boolN (h:=h3) (n:=N) (by omega)
 refine W.seq (W.run (by simp only[am,evOp,simprocAttr,initTm,mk]<;>rfl) ?_)
 have x4:Ext h3.next h3 (h3.new (.cells (bls (List.replicate N false)) 1 false)):=Ext.new (Nat.le_refl _)
 have g4:(h3.new (.cells (bls (List.replicate N false)) 1 false)).get h3.next=some (.cells (bls (List.replicate N false)) 1 false):=by rw[AH.get_new,if_pos rfl]
 generalize h3.new (.cells (bls (List.replicate N false)) 1 false)=h4 at *
 refine W.seq (W.seq (W.run (by simp only[am,evOp,simprocAttr]<;>rfl) ?_))
 have hnb3:=AH.lt_of_get gn
 refine W.rng (α:=AV×List (List Nat)×List Bool) (N:=N) (fun _ a=>[(20,.sl nb 0 N N),(5,.sl nb 0 N N),(6,.sl h3.next 0 N N),(4,a.1)])
  (fun k a h'=>a.2=(List.range k).foldl (faceStep nx N) ([],List.replicate N false)∧h'.get h3.next=some (.cells (bls a.2.2) 1 false)∧LL h' (h3.next+1) a.1 a.2.1∧Ext h3.next h3 h') (.nils,[],List.replicate N false) (fun _ _=>rfl) (by omega) (by simp only[hl,am,evOp,simprocAttr,initTm]) ⟨rfl,g4,LL.none,x4⟩ ?_ ?_
 ·rintro k ⟨a,out,s⟩ ts h5 hk ⟨j1,j2,j3,j4⟩ ⟨ei,en,e20,e5,e6,e4,-⟩
  simp only at ei en e20 e5 e6 e4 j1 j2 j3 j4
  have n5:=j4.nx
  have hs5:=AH.lt_of_get j2
  obtain⟨k1,k2,k3⟩:=faces_ok hIn k (by omega)
  rw[← j1] at k1 k2 k3
  simp only at k1 k2 k3
  have hsucc:(List.range (k+1)).foldl (faceStep nx N) ([],List.replicate N false)=faceStep nx N (out,s) k:=by
   rw[List.range_succ,List.foldl_append,← j1]
   rfl
  refine W.seq (W.run (by simp only[am,evOp,simprocAttr,ei]<;>rfl) ?_)
  refine W.seq (W.run (by simp only[am,evOp,simprocAttr]<;>rfl) ?_)
  refine W.seq (W.seq (W.run (by simp only[am,evOp,simprocAttr]<;>rfl) ?_))
  refine W.cut (fun ts h'=>∃ fv,IsSl h' 1 h5.next fv (nC (tr nx N s k).1)∧Mod h5.next h5 h' h3.next (.cells (bls (tr nx N s k).2) 1 false)∧Held [(22,.int .i64 (k:Nat)),(21,.int .i64 (N:Nat)),(20,.sl nb 0 N N),(5,.sl nb 0 N N),(6,.sl h3.next 0 N N),(4,a),(8,fv)] ts) ?_ ?_
  ·refine W.block (W.loop (fun m ts h'=>∃ (dn:List Nat) (s':List Bool) (hd fuel:Nat) (fv:AV),m=s'.count false∧tr nx N s k=(dn++(tr nx fuel s' hd).1,(tr nx fuel s' hd).2)∧s'.count false≤fuel∧hd<N∧s'.length=N∧dn.length+s'.count false≤N ∧
    IsSl h' 1 h5.next fv (nC dn)∧Mod h5.next h5 h' h3.next (.cells (bls s') 1 false)∧Held [(22,.int .i64 (k:Nat)),(21,.int .i64 (N:Nat)),(20,.sl nb 0 N N),(5,.sl nb 0 N N),(6,.sl h3.next 0 N N),(4,a),(8,fv),(9,.int .i64 (hd:Nat))] ts) ?_ (n:=s.count false)
    ⟨[],s,k,N,.nils,rfl,rfl,by rw[← k2]; exact List.count_le_length,hk,k2,by rw[List.length_nil,Nat.zero_add,← k2]; exact List.count_le_length,.inl ⟨rfl,rfl⟩,Mod.refl j2,by simp only[hl,am,evOp,simprocAttr,ei,en,e20,e5,e6,e4]⟩)
   clear ei en e20 e5 e6 e4
   rintro m ts h6 ⟨dn,s',hd,fuel,fv,rfl,p1,p2,p3,p4,p5,p6,p7,e22,e21,e20,e5,e6,e4,e8,e9,-⟩
   simp only at e22 e21 e20 e5 e6 e4 e8 e9
   have n6:=p7.nx
   have ih:idx? ((hd:Nat):Int) N=some hd:=idx_nat p3
   have rs:rdCells h6 h3.next hd 1=some [.bool (s'.getD hd false)]:=rd_at p7.get (bls_at (by omega))
   refine W.seq (W.seq (W.run (by simp only[am,evOp,simprocAttr,e6,e9,ih,Nat.mul_one,rs]<;>rfl) ?_))
   have qt:s'.getD hd true=s'.getD hd false:=bls_gd (by omega)
   cases q:s'.getD hd false with
   | true =>
     refine W.no (by simp only[am,evOp,simprocAttr,q]) ?_
     have ht:=tr_stop (nx:=nx) (k:=fuel) (qt.trans q)
     rw[ht,List.append_nil] at p1
     refine W.exit ⟨fun _=>⟨fv,by rw[p1]; exact p6,by rw[p1]; exact p7,by simp only[hl,am,evOp,simprocAttr,e22,e21,e20,e5,e6,e4,e8]⟩,fun e=>absurd rfl e⟩
   | false =>
     refine W.yes (by simp only[am,evOp,simprocAttr,q]) (W.skip ?_)
     have hc:=count_set (s:=s') (h:=hd) (qt.trans q)
     have w7:=wr_at (v:=.bool true) p7.get (show hd<(bls s').length by rw[bls_len]; omega)
     rw[bls_set] at w7
     have u7:=Upd.put (o:=.cells (bls (s'.set hd true)) 1 false) p7.get
     refine W.seq (W.block (W.seq (W.run (by simp only[am,evOp,simprocAttr,e6,e9,ih,Nat.mul_one,w7]<;>rfl) ?_)))
     generalize h6.put h3.next (.cells (bls (s'.set hd true)) 1 false)=h7 at *
     have n7:=u7.nx
     have f7:=p6.upd u7 (by omega)
     obtain⟨fv',h8,a1,i1,x8,n8⟩:=f7.push (bytes:=8) (eI ((hd:Nat):Int)) (by omega) (by omega) rfl rfl (by rw[nC_len]; unfold tooMany; omega) (by rw[nC_len]; unfold tooMany; omega)
     rw[show eI ((hd:Nat):Int)=[.int .i64 ((hd:Nat):Int)] from rfl] at a1 i1
     refine W.run (by simp only[am,evOp,simprocAttr,e8,e9,a1]<;>rfl) ?_
     have M8:=(p7.upd u7).ext hs5 x8
     have gn8:h8.get nb=some (.cells (nx.flatMap eI) 1 false):=by
      rw[M8.gt _ (by omega) (by omega),j4.gt _ (by omega)]
      exact gn
     have rn:=rd_at gn8 (at_cI (xs:=nx) (i:=hd) (by rw[hIn.1]; exact p3))
     obtain⟨v1,v2⟩:=hIn.at p3
     refine W.run (by simp only[am,evOp,simprocAttr,e5,e9,ih,Nat.mul_one,rn]<;>rfl) ?_
     refine⟨(s'.set hd true).count false,by omega,dn++[hd],s'.set hd true,(nx.getD hd 0).toNat,fuel-1,fv',rfl,?_,by omega,by omega,by rw[List.length_set]; exact p4,by simp only[List.length_append,List.length_cons,List.length_nil]; omega,?_,M8,by simp only[hl,am,evOp,simprocAttr,e22,e21,e20,e5,e6,e4,Int.toNat_of_nonneg v1]⟩
     ·obtain⟨f',rfl⟩:∃ f',fuel=f'+1:=⟨fuel-1,by omega⟩
      rw[p1]
      simp only[tr]
      rw[if_neg (by rw[qt,q]; simp)]
      simp
     ·rw[nC_app]
      exact i1
  ·clear ei en e20 e5 e6 e4
   rintro ts h6 ⟨fv,p6,p7,e22,e21,e20,e5,e6,e4,e8,-⟩
   simp only at e22 e21 e20 e5 e6 e4 e8
   have n6:=p7.nx
   have fl:=(nC_sl p6).len
   rw[List.length_map,List.length_map] at fl
   have hlen:=(tr_len nx N s k).1
   have a6:LL h6 (h3.next+1) a out:=j3.cong fun c q1 q2=>p7.gt c (by omega) q2
   have X6:Ext h3.next h3 h6:=j4.trans ((p7.mono (m:=h3.next) (by omega)).toExt (Nat.le_refl _))
   by_cases q:(tr nx N s k).1=[]
   ·have c0:decide ((0:Int)<(((tr nx N s k).1.length:Nat):Int))=false:=decide_eq_false (by rw[q]; simp)
    refine W.seq (W.run (by simp only[am,evOp,simprocAttr,e8,fl,c0]<;>rfl) ?_)
    refine W.no (by simp only[am,evOp,simprocAttr]) (W.skip ?_)
    exact⟨(a,out,(tr nx N s k).2),⟨by rw[hsucc,faceStep,if_pos q],p7.get,a6,X6⟩,by simp only[hl,am,evOp,simprocAttr,e22,e21,e20,e5,e6,e4]⟩
   ·have hpos:0<(tr nx N s k).1.length:=List.length_pos_iff.2 q
    have c0:decide ((0:Int)<(((tr nx N s k).1.length:Nat):Int))=true:=decide_eq_true (by omega)
    refine W.seq (W.run (by simp only[am,evOp,simprocAttr,e8,fl,c0]<;>rfl) ?_)
    refine W.yes (by simp only[am,evOp,simprocAttr]) ?_
    have x7:Ext h6.next h6 (h6.new (.cells [fv] 1 false)):=Ext.new (Nat.le_refl _)
    have g7:(h6.new (.cells [fv] 1 false)).get h6.next=some (.cells [fv] 1 false):=by rw[AH.get_new,if_pos rfl]
    have n7:(h6.new (.cells [fv] 1 false)).next=h6.next+1:=rfl
    obtain⟨fc,fo⟩:=p6.cells
    obtain⟨a',h8,b1,b2,b3,b4,b5,b6⟩:=(a6.ext x7 (Nat.le_refl _)).push (x:=h6.next) (v:=fv) (xs:=(tr nx N s k).1) (by omega) ((p6.ext x7 (Nat.le_refl _)).mono (by omega)) g7 (by omega) (fun b m e=>by have:=a6.lt e; omega)
     (fun b m b' m' e1 e2=>by
      have l1:=j3.lt e2
      rcases p6 with ⟨h1,_⟩|⟨fb,fm,h1,h2,_⟩
      ·rw[h1] at e1; cases e1
      ·rw[h2] at e1; cases e1; omega) (by unfold tooMany; omega)
    refine W.run (by simp only[am,evOp,simprocAttr,e4,e8,fc,fo,b1]<;>rfl) ?_
    refine⟨(a',out++[(tr nx N s k).1],(tr nx N s k).2),⟨by rw[hsucc,faceStep,if_neg q],?_,b2,X6.trans ((x7.mono (by omega)).trans (b3.mono (by omega)))⟩,by simp only[hl,am,evOp,simprocAttr,e22,e21,e20,e5,e6]⟩
    rw[b3.gt _ (by omega),x7.gt _ (by omega)]
    exact p7.get
 ·rintro⟨a,out,s⟩ ts h5 ⟨j1,j2,j3,j4⟩ ⟨e20,e5,e6,e4,-⟩
  simp only at e20 e5 e6 e4 j1 j2 j3 j4
  have ac:a.cells=[a]:=by
   obtain⟨vs,h1,_⟩:=j3
   exact h1.cells.1
  refine W.seq (W.run (by simp only[am,evOp,simprocAttr,e4]<;>rfl) ?_)
  refine W.ret ⟨a,(by simp only[rs,rf48,am,evOp,simprocAttr,ac]<;>rfl),?_,X3.trans (j4.mono (by omega))⟩
  have e:out=facesF nx N:=by
   unfold facesF
   rw[← j1]
  rw[← e]
  exact j3.mono (by omega)
end Go.Proofs.YticaalcbgikjjaaGreatDoor
namespace Go.Proofs.YticaalcbgikjjaaGreatDoor
open Go.Am
theorem Sl.self {h:AH}{e:Nat}{v:AV}{xs:List (List AV)} (hs:Sl h e v xs):v.same v=true:=by
 rcases hs with ⟨rfl,rfl|rfl⟩|⟨b,o,c,cs,ro,rfl,h2,h3⟩
 ·rfl
 ·rfl
 ·simp [AV.same]
def emptyN (T:List (List Int)):Nat:=T.countP fun l=>l.length==0
noncomputable def genF (n:Nat) (E:List (Int×Int)) (T:List (List Int)):Int :=
 IntKind.i64.wrap ((IntKind.i64.wrap (IntKind.i64.wrap (IntKind.i64.wrap (IntKind.i64.wrap (2*(((partsN n E).length:Nat):Int))-((n:Nat):Int))+((E.length:Nat):Int))-(((facesR n E T).length+emptyN T:Nat):Int))).tdiv 2)
noncomputable def genR (n:Nat) (E:List (Int×Int)) (T:List (List Int)):AV:=if rightB n E T then .tup [.int .i64 (genF n E T),.int .i64 0] else .tup [.int .i64 0,.int .i64 1]
set_option maxHeartbeats 1000000 in
theorem rtgenus_ok {h:AH}{n:Nat}{ev tv:AV}{E:List (Int×Int)}{T:List (List Int)} (he:SlE h ev E) (hm:mayB (n:Nat) E=true) (hT:SlL h tv T) (hT1:T.length<2 ^ 40) (hT2:∀ l∈T,l.length<2 ^ 40) :
 C prg 97 [.agg [.int .i64 (n:Nat),ev],tv] h fun r h'=>r=genR n E T∧Ext h.next h h':=by
 obtain⟨ec,eo⟩:=he.cells
 obtain⟨tc,to⟩:=hT.cells
 obtain⟨m1,m2,m3,m4⟩:=may_of hm
 have tl:=hT.len
 have el:=he.len
 rw[List.length_map] at el
 refine C.func pf97 ?_
 refine W.seq (W.run (by simp only[am,evOp,simprocAttr,initTm]<;>rfl) ?_)
 have x0:Ext h.next h (h.new (.cells [.int .i64 (n:Nat),ev] 2 false)):=Ext.new (Nat.le_refl _)
 have g0:(h.new (.cells [.int .i64 (n:Nat),ev] 2 false)).get h.next=some (.cells [.int .i64 (n:Nat),ev] 2 false):=by rw[AH.get_new,if_pos rfl]
 have n0:(h.new (.cells [.int .i64 (n:Nat),ev] 2 false)).next=h.next+1:=rfl
 generalize (h.new (.cells [.int .i64 (n:Nat),ev] 2 false))=h1 at *
 have rA:rdCells h1 h.next 0 2=some [.int .i64 (n:Nat),ev]:=by rw[rdCells_of g0]; rfl
 refine W.seq (W.seq (W.reg (G.gcall 2 (by simp only[am,evOp,simprocAttr,initTm,rA]<;>rfl) rfl (by simp only[am,evOp,simprocAttr,initTm,rA]) (by simp only[am,evOp,simprocAttr,initTm,rA]<;>rfl) (rtright_ok (n:=n) (he.ext x0 (Nat.le_refl _)) hm (hT.ext x0) hT1 hT2) fun r h2 hq=>?_)))
 obtain⟨rfl,x2⟩:=hq
 refine G.run (by simp only[am,evOp,simprocAttr]<;>rfl) ?_
 have n2:=x2.nx
 have X2:Ext h.next h h2:=x0.trans (x2.mono (by omega))
 cases hR:rightB n E T with
 | false =>
   refine W.yes (by simp only[am,evOp,simprocAttr]) (W.seq (W.run (by simp only[am,evOp,simprocAttr]<;>rfl) ?_))
   exact W.ret ⟨_,(by simp only[rs,rf97,am,evOp,simprocAttr]<;>rfl),by rw[genR,hR]; rfl,X2⟩
 | true =>
 obtain⟨hTn,hin⟩:=right_in hR
 refine W.no (by simp only[am,evOp,simprocAttr]) (W.skip ?_)
 have g2:h2.get h.next=some (.cells [.int .i64 (n:Nat),ev] 2 false):=by rw[x2.gt _ (by omega)]; exact g0
 have rA2:rdCells h2 h.next 0 2=some [.int .i64 (n:Nat),ev]:=by rw[rdCells_of g2]; rfl
 refine W.seq (W.reg (G.gcall 2 (by simp only[am,evOp,simprocAttr,initTm,rA2]<;>rfl) rfl (by simp only[am,evOp,simprocAttr,initTm,rA2]) (by simp only[am,evOp,simprocAttr,initTm,rA2]<;>rfl) (rtfaces_ok (n:=n) (he.ext X2 (Nat.le_refl _)) hm (hT.ext X2) hT1 hT2) fun r h3 hq=>?_))
 obtain⟨fl,x3⟩:=hq
 have n3:=x3.nx
 have X3:Ext h.next h h3:=X2.trans (x3.mono (by omega))
 have hlen:=fl.len
 have hfl:=(facesR_ok (n:=n) (E:=E) (T:=T)).1
 refine G.run (by simp only[am,evOp,simprocAttr,hlen]<;>rfl) ?_
 refine W.seq (W.seq (W.run (by simp only[am,evOp,simprocAttr,initTm,tl]<;>rfl) ?_))
 have g3:h3.get h.next=some (.cells [.int .i64 (n:Nat),ev] 2 false):=by rw[x3.gt _ (by omega)]; exact g2
 have hz:emptyN []=0:=rfl
 refine W.rng (α:=Unit) (N:=T.length) (fun k _=>[(17,tv),(2,.ptr h.next 0),(6,.int .i64 (((facesR n E T).length+emptyN (T.take k):Nat):Int))]) (fun k _ h'=>h'=h3) () (fun _ _=>rfl) (by omega) (by simp only[hl,am,evOp,simprocAttr,initTm,tc,to,hz,Nat.add_zero]) rfl ?_ ?_
 ·rintro k _ ts h4 hk rfl ⟨ei,en,e17,e2,e6,-⟩
  simp only at ei en e17 e2 e6
  obtain⟨rb,rp,w,a1,r1,rw1,lb⟩:=(hT.ext X3).at hk
  have wl:=rw1.len
  rw[List.length_map] at wl
  have hcs:emptyN (T.take (k+1))=emptyN (T.take k)+if T[k].length=0 then 1 else 0:=by
   unfold emptyN
   rw[List.take_succ_eq_append_getElem hk,List.countP_append,List.countP_singleton]
   congr 1
   by_cases q:T[k].length=0<;>simp [q]
  have hcl:emptyN (T.take k)≤k:=by
   have:=List.countP_le_length (p:=fun l:List Int=>l.length==0) (l:=T.take k)
   rw[List.length_take] at this
   unfold emptyN
   omega
  refine W.seq (W.run (by simp only[am,evOp,simprocAttr,e17,ei,a1,r1]<;>rfl) ?_)
  by_cases q:T[k].length=0
  ·have c0:decide (((T[k].length:Nat):Int)=0)=true:=decide_eq_true (by omega)
   have w1:IntKind.i64.wrap ((((facesR n E T).length+emptyN (T.take k):Nat):Int)+1)=(((facesR n E T).length+emptyN (T.take (k+1)):Nat):Int):=by rw[wr64 (by omega) (by omega),hcs,if_pos q]; omega
   refine W.seq (W.run (by simp only[am,evOp,simprocAttr,wl,c0]<;>rfl) ?_)
   refine W.yes (by simp only[am,evOp,simprocAttr]) (W.run (by simp only[am,evOp,simprocAttr,e6,w1]<;>rfl) ?_)
   exact⟨(),rfl,by simp only[hl,am,evOp,simprocAttr,ei,en,e17,e2,e6]⟩
  ·have c0:decide (((T[k].length:Nat):Int)=0)=false:=decide_eq_false (by omega)
   refine W.seq (W.run (by simp only[am,evOp,simprocAttr,wl,c0]<;>rfl) ?_)
   refine W.no (by simp only[am,evOp,simprocAttr]) (W.skip ⟨(),rfl,?_⟩)
   rw[hcs,if_neg q,Nat.add_zero]
   exact by simp only[hl,am,evOp,simprocAttr,ei,en,e17,e2,e6]
 ·rintro _ ts h4 rfl ⟨e17,e2,e6,-⟩
  simp only at e17 e2 e6
  rw[List.take_length] at e6
  have rA4:rdCells h4 h.next 0 2=some [.int .i64 (n:Nat),ev]:=by rw[rdCells_of g3]; rfl
  have r0:rdCells h4 h.next 0 1=some [.int .i64 (n:Nat)]:=rd_at g3 rfl
  have r1:rdCells h4 h.next 1 1=some [ev]:=rd_at g3 rfl
  refine W.seq (W.reg (G.gcallc 7 (by simp only[am,evOp,simprocAttr,e2,e6,rA4,r0,r1,el]<;>rfl) rfl (by simp only[am,evOp,simprocAttr,e2,e6,rA4,r0,r1,el]) (by simp only[am,evOp,simprocAttr,e2,e6,rA4,r0,r1,el]<;>rfl) (rcparts_ok (n:=n) (he.ext X3 (Nat.le_refl _)) hm) fun r h5 hq=>?_))
  obtain⟨pl,x5⟩:=hq
  have g5:h5.get h.next=some (.cells [.int .i64 (n:Nat),ev] 2 false):=by rw[x5.gt _ (by omega)]; exact g3
  have s0:rdCells h5 h.next 0 1=some [.int .i64 (n:Nat)]:=rd_at g5 rfl
  have s1:rdCells h5 h.next 1 1=some [ev]:=rd_at g5 rfl
  have hself:=Sl.self he
  refine⟨by simp only[am,evOp,simprocAttr,s0,s1,hself],?_⟩
  have plen:=(IsSl.sl (f:=uI) (e:=1) (by omega) (fun _=>rfl) pl).len
  rw[List.length_map] at plen
  refine G.run (by simp only[am,evOp,simprocAttr,plen,two0]<;>rfl) ?_
  refine W.ret ⟨_,(by simp only[rs,rf97,am,evOp,simprocAttr]<;>rfl),?_,X3.trans (x5.mono (by omega))⟩
  rw[genR,hR]
  rfl
def kindF (a b:Int):Int:=if a.tmod 2=0∧b.tmod 2=0 then 1 else if a.tmod 2=1∧b.tmod 2=1 then 2 else 0
theorem akind_ok {h:AH}{a b:Int}:C prg 58 [.int .i64 a,.int .i64 b] h fun r h'=>r=.int .i64 (kindF a b)∧h'=h:=by
 refine C.func pf58 ?_
 refine W.seq (W.run (by simp only[am,evOp,simprocAttr,initTm]<;>rfl) ?_)
 refine W.seq (W.block ?_)
 by_cases a0:a.tmod 2=0
 ·have c0:decide (a.tmod 2=0)=true:=decide_eq_true a0
  have c1:decide (a.tmod 2=1)=false:=decide_eq_false (by omega)
  by_cases b0:b.tmod 2=0
  ·have d0:decide (b.tmod 2=0)=true:=decide_eq_true b0
   refine W.seq (W.run (by simp only[am,evOp,simprocAttr,initTm,two0,c0,d0]<;>rfl) ?_)
   refine W.yes (by simp only[am,evOp,simprocAttr]) (W.seq (W.run (by simp only[am,evOp,simprocAttr]<;>rfl) ?_))
   exact W.ret ⟨_,(by simp only[rs,rf58,am,evOp,simprocAttr]<;>rfl),by rw[kindF,if_pos ⟨a0,b0⟩],rfl⟩
  ·have d0:decide (b.tmod 2=0)=false:=decide_eq_false b0
   refine W.seq (W.run (by simp only[am,evOp,simprocAttr,initTm,two0,c0,d0]<;>rfl) ?_)
   refine W.no (by simp only[am,evOp,simprocAttr]) (W.seq (W.run (by simp only[am,evOp,simprocAttr,initTm,two0,c1]<;>rfl) ?_))
   refine W.no (by simp only[am,evOp,simprocAttr]) (W.skip (W.seq (W.run (by simp only[am,evOp,simprocAttr]<;>rfl) ?_)))
   exact W.ret ⟨_,(by simp only[rs,rf58,am,evOp,simprocAttr]<;>rfl),by rw[kindF,if_neg (fun q=>b0 q.2),if_neg (fun q=>by omega)],rfl⟩
 ·have c0:decide (a.tmod 2=0)=false:=decide_eq_false a0
  refine W.seq (W.run (by simp only[am,evOp,simprocAttr,initTm,two0,c0]<;>rfl) ?_)
  refine W.no (by simp only[am,evOp,simprocAttr]) ?_
  by_cases a1:a.tmod 2=1
  ·have c1:decide (a.tmod 2=1)=true:=decide_eq_true a1
   by_cases b1:b.tmod 2=1
   ·have d1:decide (b.tmod 2=1)=true:=decide_eq_true b1
    refine W.seq (W.run (by simp only[am,evOp,simprocAttr,initTm,two0,c1,d1]<;>rfl) ?_)
    refine W.yes (by simp only[am,evOp,simprocAttr]) (W.seq (W.run (by simp only[am,evOp,simprocAttr]<;>rfl) ?_))
    exact W.ret ⟨_,(by simp only[rs,rf58,am,evOp,simprocAttr]<;>rfl),by rw[kindF,if_neg (fun q=>a0 q.1),if_pos ⟨a1,b1⟩],rfl⟩
   ·have d1:decide (b.tmod 2=1)=false:=decide_eq_false b1
    refine W.seq (W.run (by simp only[am,evOp,simprocAttr,initTm,two0,c1,d1]<;>rfl) ?_)
    refine W.no (by simp only[am,evOp,simprocAttr]) (W.skip (W.seq (W.run (by simp only[am,evOp,simprocAttr]<;>rfl) ?_)))
    exact W.ret ⟨_,(by simp only[rs,rf58,am,evOp,simprocAttr]<;>rfl),by rw[kindF,if_neg (fun q=>a0 q.1),if_neg (fun q=>b1 q.2)],rfl⟩
  ·have c1:decide (a.tmod 2=1)=false:=decide_eq_false a1
   refine W.seq (W.run (by simp only[am,evOp,simprocAttr,initTm,two0,c1]<;>rfl) ?_)
   refine W.no (by simp only[am,evOp,simprocAttr]) (W.skip (W.seq (W.run (by simp only[am,evOp,simprocAttr]<;>rfl) ?_)))
   exact W.ret ⟨_,(by simp only[rs,rf58,am,evOp,simprocAttr]<;>rfl),by rw[kindF,if_neg (fun q=>a0 q.1),if_neg (fun q=>a1 q.1)],rfl⟩
end Go.Proofs.YticaalcbgikjjaaGreatDoor
namespace Go.Proofs.YticaalcbgikjjaaGreatDoor
open Go.Am
theorem Kahn.full {n:Nat}{es:List (Int×Int)}{out ws:List Int} (k:Kahn n es out ws) (he:es.all (okE n)=true) (hz:∀ v:Nat,v<n→ws.getD v 0≠0) (ha:Acy es):out.length=n:=by
 have hle:=(k.acy he hz).2 ha
 have h1:out ⊆ (List.range n).map fun x=>((x:Nat):Int):=fun v hv=>by
  have:=k.rng v hv
  exact List.mem_map.2 ⟨v.toNat,List.mem_range.2 (by omega),by omega⟩
 have h2:(List.range n).map (fun x=>((x:Nat):Int)) ⊆ out:=fun v hv=>by
  obtain⟨x,hx,rfl⟩:=List.mem_map.1 hv
  have hx:=List.mem_range.1 hx
  refine Classical.byContradiction fun hm=>?_
  have h3:=k.cnt x hx hm
  have h4:=hle x hx
  have h5:=hz x hx
  omega
 have h3:=k.nd.length_le_of_subset h1
 have nd:((List.range n).map fun x=>((x:Nat):Int)).Nodup:=by
  rw[List.Nodup,List.pairwise_map]
  exact List.nodup_range.imp fun h e=>h (by omega)
 have h4:=nd.length_le_of_subset h2
 simp only[List.length_map,List.length_range] at h3 h4
 omega
theorem gorder_ok {h:AH}{vp:AV}{n:Nat}{es:List (Int×Int)} (hv:IsView h vp n es) (ha:Acy es):C prg 100 [vp] h fun r h'=>(∃ a,r=.tup [a,.bool true])∧Ext h.next h h':=by
 have hv0:=hv
 obtain⟨b,ev,os,is,ob,ib,rfl,g1,g2,g3,g4,g5,g6,g7,g8,m1,m2,m3,m4⟩:=hv
 refine C.func pf100 ?_
 refine W.seq (W.run (by simp only[am,evOp,simprocAttr,initTm]<;>rfl) ?_)
 refine W.seq (W.reg (G.gcall 1 (by simp only[am,evOp,simprocAttr,initTm]<;>rfl) rfl (by simp only[am,evOp,simprocAttr,initTm]) (by simp only[am,evOp,simprocAttr,initTm]<;>rfl) (grun_ok hv0) fun r h1 hq=>?_))
 obtain⟨a,w,out,ws,rfl,iw,k,hz,x1,la⟩:=hq
 have hfull:=k.full m4 hz ha
 have rn:rdCells h1 b 0 1=some [.int .i64 (n:Nat)]:=rd_at (by rw[x1.gt _ (AH.lt_of_get g1)]; exact g1) rfl
 have c0:decide (((n:Nat):Int)<((n:Nat):Int))=false:=decide_eq_false (by omega)
 rw[hfull] at la
 refine G.run (by simp only[am,evOp,simprocAttr]<;>rfl) ?_
 refine W.seq (W.seq (W.run (by simp only[am,evOp,simprocAttr,initTm,la,rn,c0]<;>rfl) ?_))
 refine W.no (by simp only[am,evOp,simprocAttr]) (W.skip (W.seq (W.run (by simp only[am,evOp,simprocAttr]<;>rfl) ?_)))
 exact W.ret ⟨_,(by simp only[rs,rf100,am,evOp,simprocAttr]<;>rfl),⟨_,rfl⟩,x1⟩
noncomputable def askB (n:Nat) (E:List (Int×Int)) (T:List (List Int)):Bool:=rightB n E T&&(decide (genF n E T=0)&&decide ((partsN n E).length=1))
noncomputable def askF (n:Nat) (E:List (Int×Int)) (T:List (List Int)):Bool:=rightB n E T&&decide (genF n E T=0)
theorem genR_eq (n:Nat) (E:List (Int×Int)) (T:List (List Int)):∃ a b,genR n E T=.tup [.int .i64 a,.int .i64 b]∧decide (b=0)=rightB n E T∧(rightB n E T=true→a=genF n E T):=by
 unfold genR
 cases rightB n E T with
 | true=>exact⟨_,_,rfl,by simp,fun _=>rfl⟩
 | false=>exact⟨_,_,rfl,by simp,fun e=>by cases e⟩
set_option maxHeartbeats 1000000 in
theorem aasked_ok {h:AH}{n:Nat}{ev tv:AV}{E:List (Int×Int)}{T:List (List Int)} (he:SlE h ev E) (hG:GoodP (n:Nat) E) (hT:SlL h tv T) (hT1:T.length<2 ^ 40) (hT2:∀ l∈T,l.length<2 ^ 40) :
 C prg 57 [.agg [.int .i64 (n:Nat),ev],tv] h fun r h'=>r=.bool (askB n E T)∧Ext h.next h h':=by
 obtain⟨ec,eo⟩:=he.cells
 have hm:=hG.1
 have hA:=hG.2.2.2.1
 refine C.func pf57 ?_
 refine W.seq (W.run (by simp only[am,evOp,simprocAttr,initTm]<;>rfl) ?_)
 have x0:Ext h.next h (h.new (.cells [.int .i64 (n:Nat),ev] 2 false)):=Ext.new (Nat.le_refl _)
 have g0:(h.new (.cells [.int .i64 (n:Nat),ev] 2 false)).get h.next=some (.cells [.int .i64 (n:Nat),ev] 2 false):=by rw[AH.get_new,if_pos rfl]
 have n0:(h.new (.cells [.int .i64 (n:Nat),ev] 2 false)).next=h.next+1:=rfl
 generalize (h.new (.cells [.int .i64 (n:Nat),ev] 2 false))=h1 at *
 have rA:rdCells h1 h.next 0 2=some [.int .i64 (n:Nat),ev]:=by rw[rdCells_of g0]; rfl
 refine W.seq (W.reg (G.gcall 2 (by simp only[am,evOp,simprocAttr,initTm,rA]<;>rfl) rfl (by simp only[am,evOp,simprocAttr,initTm,rA]) (by simp only[am,evOp,simprocAttr,initTm,rA]<;>rfl) (rtgenus_ok (n:=n) (he.ext x0 (Nat.le_refl _)) hm (hT.ext x0) hT1 hT2) fun r h2 hq=>?_))
 obtain⟨rfl,x2⟩:=hq
 obtain⟨a,b,hab,hb,hga⟩:=genR_eq n E T
 rw[hab]
 refine G.run (by simp only[am,evOp,simprocAttr]<;>rfl) ?_
 have n2:=x2.nx
 have X2:Ext h.next h h2:=x0.trans (x2.mono (by omega))
 have g2:h2.get h.next=some (.cells [.int .i64 (n:Nat),ev] 2 false):=by rw[x2.gt _ (by omega)]; exact g0
 have rA2:rdCells h2 h.next 0 2=some [.int .i64 (n:Nat),ev]:=by rw[rdCells_of g2]; rfl
 refine W.seq (W.reg (G.gcall 1 (by simp only[am,evOp,simprocAttr,initTm,rA2]<;>rfl) rfl (by simp only[am,evOp,simprocAttr,initTm,rA2]) (by simp only[am,evOp,simprocAttr,initTm,rA2]<;>rfl) (gof_ok (n:=n) (he.ext X2 (Nat.le_refl _)) hm) fun r h3 hq=>?_))
 obtain⟨hv,x3⟩:=hq
 refine G.callq (by simp only[am,evOp,simprocAttr]) (by simp only[am,evOp,simprocAttr]<;>rfl) (gorder_ok hv hA) fun r h4 hq=>?_
 obtain⟨⟨o,rfl⟩,x4⟩:=hq
 refine G.run (by simp only[am,evOp,simprocAttr]<;>rfl) ?_
 have n3:=x3.nx
 have n4:=x4.nx
 have X4:Ext h.next h h4:=X2.trans ((x3.mono (by omega)).trans (x4.mono (by omega)))
 have g4:h4.get h.next=some (.cells [.int .i64 (n:Nat),ev] 2 false):=by rw[x4.gt _ (by omega),x3.gt _ (by omega)]; exact g2
 have rA4:rdCells h4 h.next 0 2=some [.int .i64 (n:Nat),ev]:=by rw[rdCells_of g4]; rfl
 cases hR:rightB n E T with
 | false =>
   rw[hR] at hb
   refine W.seq (W.reg (G.nocall 11 (by simp only[am,evOp,simprocAttr,initTm,hb]<;>rfl) rfl (by simp only[am,evOp,simprocAttr]) ?_))
   refine G.run (by simp only[am,evOp,simprocAttr]<;>rfl) ?_
   exact W.ret ⟨_,(by simp only[rs,rf57,am,evOp,simprocAttr]<;>rfl),by rw[askB,hR,Bool.false_and],X4⟩
 | true =>
   rw[hR] at hb
   have hga:=hga hR
   rw[hga]
   by_cases q:genF n E T=0
   ·have c0:decide (genF n E T=0)=true:=decide_eq_true q
    refine W.seq (W.reg (G.gcall 11 (by simp only[am,evOp,simprocAttr,initTm,hb,c0,rA4]<;>rfl) rfl (by simp only[am,evOp,simprocAttr,initTm,hb,c0,rA4]) (by simp only[am,evOp,simprocAttr,initTm,hb,c0,rA4]<;>rfl) (rcparts_ok (n:=n) (he.ext X4 (Nat.le_refl _)) hm) fun r h5 hq=>?_))
    obtain⟨pl,x5⟩:=hq
    have plen:=(IsSl.sl (f:=uI) (e:=1) (by omega) (fun _=>rfl) pl).len
    rw[List.length_map] at plen
    have e1:decide ((((partsN n E).length:Nat):Int)=1)=decide ((partsN n E).length=1):=by rw[decide_eq_decide]; omega
    refine G.run (by simp only[am,evOp,simprocAttr,plen,e1]<;>rfl) ?_
    exact W.ret ⟨_,(by simp only[rs,rf57,am,evOp,simprocAttr]<;>rfl),by rw[askB,hR,c0]; rfl,X4.trans (x5.mono (by omega))⟩
   ·have c0:decide (genF n E T=0)=false:=decide_eq_false q
    refine W.seq (W.reg (G.nocall 11 (by simp only[am,evOp,simprocAttr,initTm,hb,c0]<;>rfl) rfl (by simp only[am,evOp,simprocAttr]) ?_))
    refine G.run (by simp only[am,evOp,simprocAttr]<;>rfl) ?_
    exact W.ret ⟨_,(by simp only[rs,rf57,am,evOp,simprocAttr]<;>rfl),by rw[askB,hR,c0]; rfl,X4⟩
theorem fldZ {x:AV}{r:List AV}:fldA false 0 1 (.agg (x::r))=some x:=rfl
theorem fasked_ok {h:AH}{n:Nat}{ev tv:AV}{E:List (Int×Int)}{T:List (List Int)} (he:SlE h ev E) (hG:GoodP (n:Nat) E) (hT:SlL h tv T) (hT1:T.length<2 ^ 40) (hT2:∀ l∈T,l.length<2 ^ 40) :
 C prg 47 [.agg [.int .i64 (n:Nat),ev],tv] h fun r h'=>r=.bool (askF n E T)∧Ext h.next h h':=by
 obtain⟨ec,eo⟩:=he.cells
 have hm:=hG.1
 obtain⟨m1,m2,m3,m4⟩:=may_of hm
 refine C.func pf47 ?_
 refine W.seq (W.run (by simp only[am,evOp,simprocAttr,initTm]<;>rfl) ?_)
 have x0:Ext h.next h (h.new (.cells [.int .i64 (n:Nat),ev] 2 false)):=Ext.new (Nat.le_refl _)
 have g0:(h.new (.cells [.int .i64 (n:Nat),ev] 2 false)).get h.next=some (.cells [.int .i64 (n:Nat),ev] 2 false):=by rw[AH.get_new,if_pos rfl]
 have n0:(h.new (.cells [.int .i64 (n:Nat),ev] 2 false)).next=h.next+1:=rfl
 generalize (h.new (.cells [.int .i64 (n:Nat),ev] 2 false))=h1 at *
 have rA:rdCells h1 h.next 0 2=some [.int .i64 (n:Nat),ev]:=by rw[rdCells_of g0]; rfl
 refine W.seq (W.reg (G.gcall 2 (by simp only[am,evOp,simprocAttr,initTm,rA]<;>rfl) rfl (by simp only[am,evOp,simprocAttr,initTm,rA]) (by simp only[am,evOp,simprocAttr,initTm,rA]<;>rfl) (rtgenus_ok (n:=n) (he.ext x0 (Nat.le_refl _)) hm (hT.ext x0) hT1 hT2) fun r h2 hq=>?_))
 obtain⟨rfl,x2⟩:=hq
 obtain⟨a,b,hab,hb,hga⟩:=genR_eq n E T
 rw[hab]
 clear hab
 refine G.run (by simp only[am,evOp,simprocAttr]<;>rfl) ?_
 have n2:=x2.nx
 have X2:Ext h.next h h2:=x0.trans (x2.mono (by omega))
 have g2:h2.get h.next=some (.cells [.int .i64 (n:Nat),ev] 2 false):=by rw[x2.gt _ (by omega)]; exact g0
 have rA2:rdCells h2 h.next 0 2=some [.int .i64 (n:Nat),ev]:=by rw[rdCells_of g2]; rfl
 have b00:decide ((0:Int)=0)=true:=rfl
 refine W.seq (W.reg (G.gcall 1 (by simp only[am,evOp,simprocAttr,initTm,rA2]<;>rfl) rfl (by simp only[am,evOp,simprocAttr,initTm,rA2]) (by simp only[am,evOp,simprocAttr,initTm,rA2]<;>rfl) (check_ok (n:=((n:Nat):Int)) (he.ext X2 (Nat.le_refl _)) (by omega)) fun r h3 hq=>?_))
 obtain⟨⟨c,at_,v,rfl,hc⟩,x3⟩:=hq
 have hc0:=hc.2 hG
 subst hc0
 have X3:Ext h.next h h3:=X2.trans (x3.mono (by omega))
 cases hR:rightB n E T with
 | false =>
   rw[hR] at hb
   have e:askF n E T=false:=by rw[askF,hR,Bool.false_and]
   rw[e]
   refine G.run (by simp only[am,evOp,simprocAttr,initTm,fldZ,decide_true,hb]<;>rfl) ?_
   exact W.ret ⟨_,(by simp only[rs,rf47,am,evOp,simprocAttr]<;>rfl),rfl,X3⟩
 | true =>
   rw[hR] at hb
   rw[hga hR]
   have e:askF n E T=decide (genF n E T=0):=by rw[askF,hR,Bool.true_and]
   rw[e]
   generalize genF n E T=gz
   refine G.run (by simp only[am,evOp,simprocAttr,initTm,fldZ,decide_true,hb]<;>rfl) ?_
   exact W.ret ⟨_,(by simp only[rs,rf47,am,evOp,simprocAttr]<;>rfl),rfl,X3⟩
end Go.Proofs.YticaalcbgikjjaaGreatDoor
