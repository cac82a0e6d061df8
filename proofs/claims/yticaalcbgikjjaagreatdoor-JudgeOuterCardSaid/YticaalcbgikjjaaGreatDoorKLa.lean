/-
  slices.IndexFunc, Index, ContainsFunc, Contains (printed by tools/mkfnd.py). slices.Clone, slices.Equal (printed by tools/mkcln.py). slices.Grow of nothing, Concat, Min, Reverse (printed by tools/mkcat.py). graph.May.
-/
import Derived.Test.YticaalcbgikjjaaGreatDoorKRf
import Derived.Test.YticaalcbgikjjaaGreatDoorKAmL
import Derived.Test.YticaalcbgikjjaaGreatDoorKAmR
set_option linter.all false
namespace Go.Proofs.YticaalcbgikjjaaGreatDoor
open Go.Am
theorem eq_flat2 {a b:Int×Int}:binA .eql (.flat [.i64,.i64]) (.agg (eE a)) (.agg (eE b))=some (.bool (a==b)):=by
 obtain⟨a1,a2⟩:=a
 obtain⟨b1,b2⟩:=b
 show Option.map AV.bool (eqAV (.flat [.i64,.i64]) (.agg (eE (a1,a2))) (.agg (eE (b1,b2))))=_
 simp only[eqAV,eqF,eE,flatEq,and_self,if_true]
 by_cases h1:a1=b1
 ·subst h1
  by_cases h2:a2=b2
  ·subst h2; simp
  ·simp [h2]
 ·simp [h1]
theorem idxfE_ok {h:AH}{v:AV}{xs:List (Int×Int)}{P:Int×Int→Bool}{k:FuncId}{caps:List AV} (hv:SlE h v xs) (hl:xs.length<2 ^ 40)
 (hf:∀ x∈xs,∀ h',Ext h.next h h'→C prg k ([.agg (eE x)]++caps) h' fun r h''=>r=.bool (P x)∧Ext h'.next h' h'') :
 C prg 38 [v,.fn k caps] h fun r h'=>r=.int .i64 (fidx P xs 0)∧Ext h.next h h':=by
 refine C.func pf38 ?_
 have hlen:=hv.len
 rw[List.length_map] at hlen
 refine W.seq (W.run (by simp only[am,evOp,simprocAttr,initTm]<;>rfl) ?_)
 refine W.seq (W.seq (W.run (by simp only[am,evOp,simprocAttr,initTm,hlen]<;>rfl) ?_))
 refine W.seq (W.cut (fun ts h1=>fidx P xs 0=-1∧Ext h.next h h1) (W.block (W.loop (fun n ts h1=>∃ i,n=xs.length-i∧i≤xs.length∧Ext h.next h h1∧fidx P (xs.drop i) i=fidx P xs 0∧tget ts 0=v∧tget ts 1=.fn k caps∧tget ts 7=.int .i64 (xs.length:Nat)∧tget ts 8=.int .i64 (i:Nat)) ?_ (n:=xs.length) ⟨0,rfl,Nat.zero_le _,Ext.refl,by rw[List.drop_zero],by simp only[am,evOp,↓reduceIte,Nat.reduceEqDiff,Int.reduceEq,Nat.reduceAdd,Nat.reduceLeDiff,reduceCtorEq,initTm],by simp only[am,evOp,↓reduceIte,Nat.reduceEqDiff,Int.reduceEq,Nat.reduceAdd,Nat.reduceLeDiff,reduceCtorEq,initTm],by simp only[am,evOp,↓reduceIte,Nat.reduceEqDiff,Int.reduceEq,Nat.reduceAdd,Nat.reduceLeDiff,reduceCtorEq,initTm],by simp only[am,evOp,↓reduceIte,Nat.reduceEqDiff,Int.reduceEq,Nat.reduceAdd,Nat.reduceLeDiff,reduceCtorEq,initTm]; rfl⟩)) ?_)
 ·rintro n ts h1 ⟨i,rfl,hi,ex,hF,e0,e1,e7,e8⟩
  refine W.seq (W.run (by simp only[am,evOp,simprocAttr,e7,e8]<;>rfl) ?_)
  refine W.seq (W.cond (t:=decide (i<xs.length)) (by simp only[am,evOp,simprocAttr,Int.ofNat_lt]) (fun q=>?_) fun q=>?_)
  ·have q:i<xs.length:=of_decide_eq_true q
   obtain⟨b,p,a1,r1,_,_⟩:=(hv.ext ex (Nat.le_refl _)).at (map_at (f:=eE) q)
   refine W.skip (W.seq (W.block (W.seq (W.run (by simp only[am,evOp,simprocAttr,e8]<;>rfl) ?_))))
   have hc:=hf _ (List.getElem_mem q) h1 ex
   refine W.seq (W.reg (G.gcallv 5 (by simp only[am,evOp,simprocAttr,e0,e1,e7,e8,a1,r1]<;>rfl) rfl (by simp only[am,evOp,simprocAttr,e0,e1,e7,e8,a1,r1]) (by simp only[am,evOp,simprocAttr,e0,e1,e7,e8,a1,r1]<;>rfl) (by simp only[am,evOp,simprocAttr,e0,e1,e7,e8,a1,r1]<;>rfl) (hc) fun r h2 hq=>?_))
   obtain⟨rfl,ex2⟩:=hq
   have ex3:=ex.trans (ex2.mono ex.nx)
   refine G.run (by simp only[am,evOp,simprocAttr]<;>rfl) ?_
   refine W.cond (t:=P xs[i]) (by simp only[am,evOp,simprocAttr]) (fun q2=>?_) fun q2=>?_
   ·refine W.seq (W.run (by simp only[am,evOp,simprocAttr]<;>rfl) ?_)
    refine W.ret ⟨.int .i64 (i:Nat),(by simp only[rs,rf38,am,evOp,simprocAttr]<;>rfl),?_,ex3⟩
    rw[← hF,fidx_drop P q,if_pos q2]
   ·have w1:IntKind.i64.wrap (((i:Nat):Int)+1)=((i+1:Nat):Int):=wr64 (by omega) (by omega)
    refine W.skip (W.run (by simp only[am,evOp,simprocAttr,e8,w1]<;>rfl) ?_)
    refine⟨xs.length-(i+1),by omega,i+1,rfl,by omega,ex3,?_,by simp only[am,evOp,simprocAttr,e0],by simp only[am,evOp,simprocAttr,e1],by simp only[am,evOp,simprocAttr,e7],by simp only[am,evOp,simprocAttr,e8,w1]⟩
    rw[← hF,fidx_drop P q,if_neg (by simp [q2])]
  ·have q:¬ i<xs.length:=of_decide_eq_false q
   refine W.exit ⟨fun _=>⟨?_,ex⟩,fun e=>absurd rfl e⟩
   rw[← hF,List.drop_eq_nil_of_le (by omega)]
   rfl
 ·rintro ts h1 ⟨hF,ex⟩
  refine W.seq (W.run (by simp only[am,evOp,simprocAttr]<;>rfl) ?_)
  exact W.ret ⟨.int .i64 (-1),(by simp only[rs,rf38,am,evOp,simprocAttr]<;>rfl),by rw[hF],ex⟩
theorem idxfI_ok {h:AH}{v:AV}{xs:List (Int)}{P:Int→Bool}{k:FuncId}{caps:List AV} (hv:SlI h v xs) (hl:xs.length<2 ^ 40)
 (hf:∀ x∈xs,∀ h',Ext h.next h h'→C prg k ([.int .i64 x]++caps) h' fun r h''=>r=.bool (P x)∧Ext h'.next h' h'') :
 C prg 54 [v,.fn k caps] h fun r h'=>r=.int .i64 (fidx P xs 0)∧Ext h.next h h':=by
 refine C.func pf54 ?_
 have hlen:=hv.len
 rw[List.length_map] at hlen
 refine W.seq (W.run (by simp only[am,evOp,simprocAttr,initTm]<;>rfl) ?_)
 refine W.seq (W.seq (W.run (by simp only[am,evOp,simprocAttr,initTm,hlen]<;>rfl) ?_))
 refine W.seq (W.cut (fun ts h1=>fidx P xs 0=-1∧Ext h.next h h1) (W.block (W.loop (fun n ts h1=>∃ i,n=xs.length-i∧i≤xs.length∧Ext h.next h h1∧fidx P (xs.drop i) i=fidx P xs 0∧tget ts 0=v∧tget ts 1=.fn k caps∧tget ts 7=.int .i64 (xs.length:Nat)∧tget ts 8=.int .i64 (i:Nat)) ?_ (n:=xs.length) ⟨0,rfl,Nat.zero_le _,Ext.refl,by rw[List.drop_zero],by simp only[am,evOp,↓reduceIte,Nat.reduceEqDiff,Int.reduceEq,Nat.reduceAdd,Nat.reduceLeDiff,reduceCtorEq,initTm],by simp only[am,evOp,↓reduceIte,Nat.reduceEqDiff,Int.reduceEq,Nat.reduceAdd,Nat.reduceLeDiff,reduceCtorEq,initTm],by simp only[am,evOp,↓reduceIte,Nat.reduceEqDiff,Int.reduceEq,Nat.reduceAdd,Nat.reduceLeDiff,reduceCtorEq,initTm],by simp only[am,evOp,↓reduceIte,Nat.reduceEqDiff,Int.reduceEq,Nat.reduceAdd,Nat.reduceLeDiff,reduceCtorEq,initTm]; rfl⟩)) ?_)
 ·rintro n ts h1 ⟨i,rfl,hi,ex,hF,e0,e1,e7,e8⟩
  refine W.seq (W.run (by simp only[am,evOp,simprocAttr,e7,e8]<;>rfl) ?_)
  refine W.seq (W.cond (t:=decide (i<xs.length)) (by simp only[am,evOp,simprocAttr,Int.ofNat_lt]) (fun q=>?_) fun q=>?_)
  ·have q:i<xs.length:=of_decide_eq_true q
   obtain⟨b,p,a1,r1,_,_⟩:=(hv.ext ex (Nat.le_refl _)).at (map_at (f:=eI) q)
   refine W.skip (W.seq (W.block (W.seq (W.run (by simp only[am,evOp,simprocAttr,e8]<;>rfl) ?_))))
   have hc:=hf _ (List.getElem_mem q) h1 ex
   refine W.seq (W.reg (G.gcallv 5 (by simp only[am,evOp,simprocAttr,e0,e1,e7,e8,a1,r1,packA_one,eI]<;>rfl) rfl (by simp only[am,evOp,simprocAttr,e0,e1,e7,e8,a1,r1,packA_one,eI]) (by simp only[am,evOp,simprocAttr,e0,e1,e7,e8,a1,r1,packA_one,eI]<;>rfl) (by simp only[am,evOp,simprocAttr,e0,e1,e7,e8,a1,r1,packA_one,eI]<;>rfl) (hc) fun r h2 hq=>?_))
   obtain⟨rfl,ex2⟩:=hq
   have ex3:=ex.trans (ex2.mono ex.nx)
   refine G.run (by simp only[am,evOp,simprocAttr]<;>rfl) ?_
   refine W.cond (t:=P xs[i]) (by simp only[am,evOp,simprocAttr]) (fun q2=>?_) fun q2=>?_
   ·refine W.seq (W.run (by simp only[am,evOp,simprocAttr]<;>rfl) ?_)
    refine W.ret ⟨.int .i64 (i:Nat),(by simp only[rs,rf54,am,evOp,simprocAttr]<;>rfl),?_,ex3⟩
    rw[← hF,fidx_drop P q,if_pos q2]
   ·have w1:IntKind.i64.wrap (((i:Nat):Int)+1)=((i+1:Nat):Int):=wr64 (by omega) (by omega)
    refine W.skip (W.run (by simp only[am,evOp,simprocAttr,e8,w1]<;>rfl) ?_)
    refine⟨xs.length-(i+1),by omega,i+1,rfl,by omega,ex3,?_,by simp only[am,evOp,simprocAttr,e0],by simp only[am,evOp,simprocAttr,e1],by simp only[am,evOp,simprocAttr,e7],by simp only[am,evOp,simprocAttr,e8,w1]⟩
    rw[← hF,fidx_drop P q,if_neg (by simp [q2])]
  ·have q:¬ i<xs.length:=of_decide_eq_false q
   refine W.exit ⟨fun _=>⟨?_,ex⟩,fun e=>absurd rfl e⟩
   rw[← hF,List.drop_eq_nil_of_le (by omega)]
   rfl
 ·rintro ts h1 ⟨hF,ex⟩
  refine W.seq (W.run (by simp only[am,evOp,simprocAttr]<;>rfl) ?_)
  exact W.ret ⟨.int .i64 (-1),(by simp only[rs,rf54,am,evOp,simprocAttr]<;>rfl),by rw[hF],ex⟩
theorem contfE_ok {h:AH}{v:AV}{xs:List (Int×Int)}{P:Int×Int→Bool}{k:FuncId}{caps:List AV} (hv:SlE h v xs) (hl:xs.length<2 ^ 40)
 (hf:∀ x∈xs,∀ h',Ext h.next h h'→C prg k ([.agg (eE x)]++caps) h' fun r h''=>r=.bool (P x)∧Ext h'.next h' h'') :
 C prg 73 [v,.fn k caps] h fun r h'=>r=.bool (xs.any P)∧Ext h.next h h':=by
 refine C.func pf73 ?_
 refine W.seq (W.run (by simp only[am,evOp,simprocAttr,initTm]<;>rfl) ?_)
 refine W.seq (W.reg (G.gcall 2 (by simp only[am,evOp,simprocAttr,initTm]<;>rfl) rfl (by simp only[am,evOp,simprocAttr,initTm]) (by simp only[am,evOp,simprocAttr,initTm]<;>rfl) (idxfE_ok hv hl hf) fun r h2 hq=>?_))
 obtain⟨rfl,ex⟩:=hq
 have hb:decide ((0:Int)≤fidx P xs 0)=xs.any P:=by
  have:=(fidx_lo P xs 0).2
  cases hq:xs.any P with
  | true=>rw[decide_eq_true_eq]; rw[hq] at this; simp at this; omega
  | false=>rw[decide_eq_false_iff_not]; have:=this.2 hq; omega
 refine G.run (by simp only[am,evOp,simprocAttr,hb]<;>rfl) ?_
 exact W.ret ⟨_,(by simp only[rs,rf73,am,evOp,simprocAttr]<;>rfl),rfl,ex⟩
theorem idxI_ok {h:AH}{v:AV}{xs:List (Int)}{y:Int} (hv:SlI h v xs) (hl:xs.length<2 ^ 40) :
 C prg 59 [v,.int .i64 y] h fun r h'=>r=.int .i64 (fidx (y==·) xs 0)∧Ext h.next h h':=by
 refine C.func pf59 ?_
 have hlen:=hv.len
 rw[List.length_map] at hlen
 have ex0:Ext h.next h h:=Ext.refl
 refine W.seq (W.run (by simp only[am,evOp,simprocAttr,initTm]<;>rfl) ?_)
 refine W.seq (W.seq (W.run (by simp only[am,evOp,simprocAttr,initTm,hlen]<;>rfl) ?_))
 refine W.seq (W.cut (fun ts h1=>fidx (y==·) xs 0=-1∧h1=h) (W.block (W.loop (fun n ts h1=>∃ i,n=xs.length-i∧i≤xs.length∧h1=h∧fidx (y==·) (xs.drop i) i=fidx (y==·) xs 0∧tget ts 0=v∧tget ts 1=.int .i64 y∧tget ts 7=.int .i64 (xs.length:Nat)∧tget ts 8=.int .i64 (i:Nat)) ?_ (n:=xs.length) ⟨0,rfl,Nat.zero_le _,rfl,by rw[List.drop_zero],by simp only[am,evOp,↓reduceIte,Nat.reduceEqDiff,Int.reduceEq,Nat.reduceAdd,Nat.reduceLeDiff,reduceCtorEq,initTm],by simp only[am,evOp,↓reduceIte,Nat.reduceEqDiff,Int.reduceEq,Nat.reduceAdd,Nat.reduceLeDiff,reduceCtorEq,initTm],by simp only[am,evOp,↓reduceIte,Nat.reduceEqDiff,Int.reduceEq,Nat.reduceAdd,Nat.reduceLeDiff,reduceCtorEq,initTm],by simp only[am,evOp,↓reduceIte,Nat.reduceEqDiff,Int.reduceEq,Nat.reduceAdd,Nat.reduceLeDiff,reduceCtorEq,initTm]; rfl⟩)) ?_)
 ·rintro n ts h1 ⟨i,rfl,hi,rfl,hF,e0,ek,e7,e8⟩
  refine W.seq (W.run (by simp only[am,evOp,simprocAttr,e7,e8]<;>rfl) ?_)
  refine W.seq (W.cond (t:=decide (i<xs.length)) (by simp only[am,evOp,simprocAttr,Int.ofNat_lt]) (fun q=>?_) fun q=>?_)
  ·have q:i<xs.length:=of_decide_eq_true q
   obtain⟨b,p,a1,r1,_,_⟩:=(hv.ext ex0 (Nat.le_refl _)).at (map_at (f:=eI) q)
   refine W.skip (W.seq (W.block (W.seq (W.run (by simp only[am,evOp,simprocAttr,e8]<;>rfl) ?_))))
   have ceq:decide (y=xs[i])=(y==xs[i]):=rfl
   refine W.seq (W.run (by simp only[am,evOp,simprocAttr,e0,ek,e7,e8,a1,r1,ceq,eI]<;>rfl) ?_)
   refine W.cond (t:=y==xs[i]) (by simp only[am,evOp,simprocAttr]) (fun q2=>?_) fun q2=>?_
   ·refine W.seq (W.run (by simp only[am,evOp,simprocAttr]<;>rfl) ?_)
    refine W.ret ⟨.int .i64 (i:Nat),(by simp only[rs,rf59,am,evOp,simprocAttr]<;>rfl),?_,ex0⟩
    rw[← hF,fidx_drop _ q,if_pos q2]
   ·have w1:IntKind.i64.wrap (((i:Nat):Int)+1)=((i+1:Nat):Int):=wr64 (by omega) (by omega)
    refine W.skip (W.run (by simp only[am,evOp,simprocAttr,e8,w1]<;>rfl) ?_)
    refine⟨xs.length-(i+1),by omega,i+1,rfl,by omega,rfl,?_,by simp only[am,evOp,simprocAttr,e0],by simp only[am,evOp,simprocAttr,ek],by simp only[am,evOp,simprocAttr,e7],by simp only[am,evOp,simprocAttr,e8,w1]⟩
    rw[← hF,fidx_drop _ q,if_neg (by simp [q2])]
  ·have q:¬ i<xs.length:=of_decide_eq_false q
   refine W.exit ⟨fun _=>⟨?_,rfl⟩,fun e=>absurd rfl e⟩
   rw[← hF,List.drop_eq_nil_of_le (by omega)]
   rfl
 ·rintro ts h1 ⟨hF,rfl⟩
  refine W.seq (W.run (by simp only[am,evOp,simprocAttr]<;>rfl) ?_)
  exact W.ret ⟨.int .i64 (-1),(by simp only[rs,rf59,am,evOp,simprocAttr]<;>rfl),by rw[hF],ex0⟩
theorem idxE_ok {h:AH}{v:AV}{xs:List (Int×Int)}{y:Int×Int} (hv:SlE h v xs) (hl:xs.length<2 ^ 40) :
 C prg 75 [v,.agg (eE y)] h fun r h'=>r=.int .i64 (fidx (y==·) xs 0)∧Ext h.next h h':=by
 refine C.func pf75 ?_
 have hlen:=hv.len
 rw[List.length_map] at hlen
 have hlen':[AV.int .i64 y.1,.int .i64 y.2].length=2:=rfl
 refine W.seq (W.run (by simp only[am,evOp,simprocAttr,initTm,eE]<;>rfl) ?_)
 have ex0:Ext h.next h (h.new (.cells [.int .i64 y.1,.int .i64 y.2] 2 false)):=Ext.new (Nat.le_refl _)
 have rb:rdCells (h.new (.cells [.int .i64 y.1,.int .i64 y.2] 2 false)) h.next 0 2=some [.int .i64 y.1,.int .i64 y.2]:=by rw[rdCells_of (by rw[AH.get_new,if_pos rfl])]; rfl
 have hlt:h.next<(h.new (.cells [.int .i64 y.1,.int .i64 y.2] 2 false)).next:=by simp
 generalize h.new (.cells [.int .i64 y.1,.int .i64 y.2] 2 false)=h0 at *
 refine W.seq (W.seq (W.run (by simp only[am,evOp,simprocAttr,initTm,hlen]<;>rfl) ?_))
 refine W.seq (W.cut (fun ts h1=>fidx (y==·) xs 0=-1∧h1=h0) (W.block (W.loop (fun n ts h1=>∃ i,n=xs.length-i∧i≤xs.length∧h1=h0∧fidx (y==·) (xs.drop i) i=fidx (y==·) xs 0∧tget ts 0=v∧tget ts 3=.ptr h.next 0∧tget ts 7=.int .i64 (xs.length:Nat)∧tget ts 8=.int .i64 (i:Nat)) ?_ (n:=xs.length) ⟨0,rfl,Nat.zero_le _,rfl,by rw[List.drop_zero],by simp only[am,evOp,↓reduceIte,Nat.reduceEqDiff,Int.reduceEq,Nat.reduceAdd,Nat.reduceLeDiff,reduceCtorEq,initTm],by simp only[am,evOp,↓reduceIte,Nat.reduceEqDiff,Int.reduceEq,Nat.reduceAdd,Nat.reduceLeDiff,reduceCtorEq,initTm],by simp only[am,evOp,↓reduceIte,Nat.reduceEqDiff,Int.reduceEq,Nat.reduceAdd,Nat.reduceLeDiff,reduceCtorEq,initTm],by simp only[am,evOp,↓reduceIte,Nat.reduceEqDiff,Int.reduceEq,Nat.reduceAdd,Nat.reduceLeDiff,reduceCtorEq,initTm]; rfl⟩)) ?_)
 ·rintro n ts h1 ⟨i,rfl,hi,rfl,hF,e0,ek,e7,e8⟩
  refine W.seq (W.run (by simp only[am,evOp,simprocAttr,e7,e8]<;>rfl) ?_)
  refine W.seq (W.cond (t:=decide (i<xs.length)) (by simp only[am,evOp,simprocAttr,Int.ofNat_lt]) (fun q=>?_) fun q=>?_)
  ·have q:i<xs.length:=of_decide_eq_true q
   obtain⟨b,p,a1,r1,_,_⟩:=(hv.ext ex0 (Nat.le_refl _)).at (map_at (f:=eE) q)
   refine W.skip (W.seq (W.block (W.seq (W.run (by simp only[am,evOp,simprocAttr,e8]<;>rfl) ?_))))
   have ceq:binA .eql (.flat [.i64,.i64]) (.agg [.int .i64 y.1,.int .i64 y.2]) (.agg [.int .i64 xs[i].1,.int .i64 xs[i].2])=some (.bool (y==xs[i])):=eq_flat2
   refine W.seq (W.run (by simp only[am,evOp,simprocAttr,e0,ek,e7,e8,a1,r1,rb,ceq,eE]<;>rfl) ?_)
   refine W.cond (t:=y==xs[i]) (by simp only[am,evOp,simprocAttr]) (fun q2=>?_) fun q2=>?_
   ·refine W.seq (W.run (by simp only[am,evOp,simprocAttr]<;>rfl) ?_)
    refine W.ret ⟨.int .i64 (i:Nat),(by simp only[rs,rf75,am,evOp,simprocAttr]<;>rfl),?_,ex0⟩
    rw[← hF,fidx_drop _ q,if_pos q2]
   ·have w1:IntKind.i64.wrap (((i:Nat):Int)+1)=((i+1:Nat):Int):=wr64 (by omega) (by omega)
    refine W.skip (W.run (by simp only[am,evOp,simprocAttr,e8,w1]<;>rfl) ?_)
    refine⟨xs.length-(i+1),by omega,i+1,rfl,by omega,rfl,?_,by simp only[am,evOp,simprocAttr,e0],by simp only[am,evOp,simprocAttr,ek],by simp only[am,evOp,simprocAttr,e7],by simp only[am,evOp,simprocAttr,e8,w1]⟩
    rw[← hF,fidx_drop _ q,if_neg (by simp [q2])]
  ·have q:¬ i<xs.length:=of_decide_eq_false q
   refine W.exit ⟨fun _=>⟨?_,rfl⟩,fun e=>absurd rfl e⟩
   rw[← hF,List.drop_eq_nil_of_le (by omega)]
   rfl
 ·rintro ts h1 ⟨hF,rfl⟩
  refine W.seq (W.run (by simp only[am,evOp,simprocAttr]<;>rfl) ?_)
  exact W.ret ⟨.int .i64 (-1),(by simp only[rs,rf75,am,evOp,simprocAttr]<;>rfl),by rw[hF],ex0⟩
theorem contI_ok {h:AH}{v:AV}{xs:List (Int)}{y:Int} (hv:SlI h v xs) (hl:xs.length<2 ^ 40) :
 C prg 27 [v,.int .i64 y] h fun r h'=>r=.bool (xs.any (y==·))∧Ext h.next h h':=by
 refine C.func pf27 ?_
 refine W.seq (W.run (by simp only[am,evOp,simprocAttr,initTm]<;>rfl) ?_)
 have ex0:Ext h.next h h:=Ext.refl
 have hc:=idxI_ok (y:=y) hv hl
 refine W.seq (W.reg (G.gcall 2 (by simp only[am,evOp,simprocAttr,initTm]<;>rfl) rfl (by simp only[am,evOp,simprocAttr,initTm]) (by simp only[am,evOp,simprocAttr,initTm]<;>rfl) (hc) fun r h2 hq=>?_))
 obtain⟨rfl,ex⟩:=hq
 have hb:decide ((0:Int)≤fidx (y==·) xs 0)=xs.any (y==·):=by
  have:=(fidx_lo (y==·) xs 0).2
  cases hq:xs.any (y==·) with
  | true=>rw[decide_eq_true_eq]; rw[hq] at this; simp at this; omega
  | false=>rw[decide_eq_false_iff_not]; have:=this.2 hq; omega
 refine G.run (by simp only[am,evOp,simprocAttr,hb]<;>rfl) ?_
 exact W.ret ⟨_,(by simp only[rs,rf27,am,evOp,simprocAttr]<;>rfl),rfl,ex0.trans (ex.mono ex0.nx)⟩
theorem contE_ok {h:AH}{v:AV}{xs:List (Int×Int)}{y:Int×Int} (hv:SlE h v xs) (hl:xs.length<2 ^ 40) :
 C prg 40 [v,.agg (eE y)] h fun r h'=>r=.bool (xs.any (y==·))∧Ext h.next h h':=by
 refine C.func pf40 ?_
 refine W.seq (W.run (by simp only[am,evOp,simprocAttr,initTm,eE]<;>rfl) ?_)
 have ex0:Ext h.next h (h.new (.cells [.int .i64 y.1,.int .i64 y.2] 2 false)):=Ext.new (Nat.le_refl _)
 have rb:rdCells (h.new (.cells [.int .i64 y.1,.int .i64 y.2] 2 false)) h.next 0 2=some [.int .i64 y.1,.int .i64 y.2]:=by rw[rdCells_of (by rw[AH.get_new,if_pos rfl])]; rfl
 generalize h.new (.cells [.int .i64 y.1,.int .i64 y.2] 2 false)=h0 at *
 have hv0:=hv.ext ex0 (Nat.le_refl _)
 have hc:=idxE_ok (y:=y) hv0 hl
 rw[show eE y=[.int .i64 y.1,.int .i64 y.2] from rfl] at hc
 refine W.seq (W.reg (G.gcall 2 (by simp only[am,evOp,simprocAttr,initTm,rb]<;>rfl) rfl (by simp only[am,evOp,simprocAttr,initTm,rb]) (by simp only[am,evOp,simprocAttr,initTm,rb]<;>rfl) (hc) fun r h2 hq=>?_))
 obtain⟨rfl,ex⟩:=hq
 have hb:decide ((0:Int)≤fidx (y==·) xs 0)=xs.any (y==·):=by
  have:=(fidx_lo (y==·) xs 0).2
  cases hq:xs.any (y==·) with
  | true=>rw[decide_eq_true_eq]; rw[hq] at this; simp at this; omega
  | false=>rw[decide_eq_false_iff_not]; have:=this.2 hq; omega
 refine G.run (by simp only[am,evOp,simprocAttr,hb]<;>rfl) ?_
 exact W.ret ⟨_,(by simp only[rs,rf40,am,evOp,simprocAttr]<;>rfl),rfl,ex0.trans (ex.mono ex0.nx)⟩
end Go.Proofs.YticaalcbgikjjaaGreatDoor
namespace Go.Proofs.YticaalcbgikjjaaGreatDoor
open Go.Am
theorem ones_I {xs:List Int}:(xs.flatMap eI).all AV.one=true:=by
 rw[List.all_eq_true]
 intro x hx
 obtain⟨y,_,hy⟩:=List.mem_flatMap.1 hx
 simp only[eI,List.mem_cons,List.not_mem_nil,or_false] at hy
 subst hy; rfl
theorem ones_E {xs:List (Int×Int)}:(xs.flatMap eE).all AV.one=true:=by
 rw[List.all_eq_true]
 intro x hx
 obtain⟨y,_,hy⟩:=List.mem_flatMap.1 hx
 simp only[eE,List.mem_cons,List.not_mem_nil,or_false] at hy
 rcases hy with rfl|rfl<;>rfl
theorem eql_nls {v:AV}{h:AH}{e:Nat}{xs:List (List AV)} (hv:Sl h e v xs):∃ b,binA .eql .nls v .nils=some (.bool b)∧(b=true→v=.nils∧xs=[])∧(b=false→v≠.nils):=by
 rcases hv with ⟨rfl,rfl|rfl⟩|⟨b,o,c,cs,ro,rfl,hg,hc,hle,hx⟩
 ·exact⟨true,rfl,fun _=>⟨rfl,rfl⟩,fun q=>by cases q⟩
 ·exact⟨false,rfl,fun q=>(by cases q),fun _=>(by simp)⟩
 ·exact⟨false,rfl,fun q=>(by cases q),fun _=>(by simp)⟩
theorem app_own {h:AH}{e bytes:Nat}{v:AV}{xs:List (List AV)} (hv:Sl h e v xs) (ho:xs.flatten.all AV.one=true) (hl:xs.length*bytes<tooMany) (hl2:xs.length<tooMany) :
 ∃ r h',appA (h.new (.cells [] e false)) e bytes (.sl h.next 0 0 0) v=some (r,h')∧IsSl h' e h.next r xs.flatten∧Ext h.next h h'∧r≠.nils:=by
 have hv':=hv.ext (Ext.new (o:=.cells [] e false) (Nat.le_refl _)) (Nat.le_refl _)
 obtain⟨s1,s2⟩:=hv'.src
 have g0:(h.new (.cells [] e false)).get h.next=some (.cells [] e false):=by rw[AH.get_new,if_pos rfl]
 by_cases hz:xs.length=0
 ·refine⟨.sl h.next 0 0 0,_,?_,.inr ⟨h.next,0,Nat.le_refl _,rfl,by rw[g0,List.length_eq_zero_iff.1 hz]; rfl,by rw[s2,hz]⟩,Ext.new (Nat.le_refl _),by simp⟩
  simp only[appA,s1,ho,if_true,hz]
 ·refine⟨.sl (h.next+1) 0 xs.length xs.length,((h.new (.cells [] e false)).put h.next .dead).new (.cells xs.flatten e false),?_,.inr ⟨h.next+1,xs.length,by omega,rfl,by rw[AH.get_new,if_pos (by simp)],s2⟩,(Ext.new (Nat.le_refl _)).trans ((Ext.put (Nat.le_refl _)).trans (Ext.new (by simp))),by simp⟩
  simp only[appA,s1,ho,if_true,if_neg hz,g0,rdCells_of g0]
  rw[Nat.zero_add,if_neg (by omega),if_pos ⟨hl,hl2⟩]
  simp
theorem cloneI_ok {h:AH}{v:AV}{xs:List (Int)} (hv:SlI h v xs) (hl:xs.length<2 ^ 34) :
 C prg 21 [v] h fun r h'=>IsSl h' 1 h.next r (xs.flatMap eI)∧Ext h.next h h'∧(r=.nils↔v=.nils):=by
 refine C.func pf21 ?_
 refine W.seq (W.run (by simp only[am,evOp,simprocAttr,initTm]<;>rfl) ?_)
 obtain⟨b,hb,k1,k2⟩:=eql_nls hv
 refine W.seq (W.seq (W.run (by simp only[am,evOp,simprocAttr,initTm,hb]<;>rfl) ?_))
 refine W.cond (t:=b) (by simp only[am,evOp,simprocAttr]) (fun q=>?_) fun q=>?_
 ·obtain⟨rfl,hx⟩:=k1 q
  rw[List.map_eq_nil_iff] at hx
  subst hx
  refine W.seq (W.run (by simp only[am,evOp,simprocAttr]<;>rfl) ?_)
  exact W.ret ⟨.nils,(by simp only[rs,rf21,am,evOp,simprocAttr]<;>rfl),.inl ⟨rfl,rfl⟩,Ext.refl,by simp⟩
 ·have hvv:=k2 q
  refine W.skip ?_
  obtain⟨r,h',a1,a2,a3,a4⟩:=app_own (bytes:=8) hv ones_I (by rw[List.length_map]; unfold tooMany; omega) (by rw[List.length_map]; unfold tooMany; omega)
  refine W.seq (W.run (by simp only[am,evOp,simprocAttr,initTm,a1]<;>rfl) ?_)
  exact W.ret ⟨r,(by simp only[rs,rf21,am,evOp,simprocAttr]<;>rfl),a2,a3,by simp [a4,hvv]⟩
theorem cloneE_ok {h:AH}{v:AV}{xs:List (Int×Int)} (hv:SlE h v xs) (hl:xs.length<2 ^ 34) :
 C prg 53 [v] h fun r h'=>IsSl h' 2 h.next r (xs.flatMap eE)∧Ext h.next h h'∧(r=.nils↔v=.nils):=by
 refine C.func pf53 ?_
 refine W.seq (W.run (by simp only[am,evOp,simprocAttr,initTm]<;>rfl) ?_)
 obtain⟨b,hb,k1,k2⟩:=eql_nls hv
 refine W.seq (W.seq (W.run (by simp only[am,evOp,simprocAttr,initTm,hb]<;>rfl) ?_))
 refine W.cond (t:=b) (by simp only[am,evOp,simprocAttr]) (fun q=>?_) fun q=>?_
 ·obtain⟨rfl,hx⟩:=k1 q
  rw[List.map_eq_nil_iff] at hx
  subst hx
  refine W.seq (W.run (by simp only[am,evOp,simprocAttr]<;>rfl) ?_)
  exact W.ret ⟨.nils,(by simp only[rs,rf53,am,evOp,simprocAttr]<;>rfl),.inl ⟨rfl,rfl⟩,Ext.refl,by simp⟩
 ·have hvv:=k2 q
  refine W.skip ?_
  obtain⟨r,h',a1,a2,a3,a4⟩:=app_own (bytes:=16) hv ones_E (by rw[List.length_map]; unfold tooMany; omega) (by rw[List.length_map]; unfold tooMany; omega)
  refine W.seq (W.run (by simp only[am,evOp,simprocAttr,initTm,a1]<;>rfl) ?_)
  exact W.ret ⟨r,(by simp only[rs,rf53,am,evOp,simprocAttr]<;>rfl),a2,a3,by simp [a4,hvv]⟩
end Go.Proofs.YticaalcbgikjjaaGreatDoor
namespace Go.Proofs.YticaalcbgikjjaaGreatDoor
open Go.Am
theorem app_in {h:AH}{gb len cap e bytes:Nat}{A Z:List AV}{v:AV}{xs:List (List AV)} (hg:h.get gb=some (.cells (A++Z) e false)) (hA:A.length=len*e) (hv:Sl h e v xs) (ho:xs.flatten.all AV.one=true) (hc:len+xs.length≤cap) (hz:xs.length*e≤Z.length) :
 ∃ h',appA h e bytes (.sl gb 0 len cap) v=some (.sl gb 0 (len+xs.length) cap,h')∧Upd h h' gb (.cells (A++xs.flatten++Z.drop (xs.length*e)) e false):=by
 obtain⟨s1,s2⟩:=hv.src
 by_cases hn:xs.length=0
 ·refine⟨h,?_,?_⟩
  ·simp only[appA,s1,ho,if_true,hn,Nat.add_zero]
  ·have:xs=[]:=List.length_eq_zero_iff.1 hn
   subst this
   simp only[List.flatten_nil,List.append_nil,List.length_nil,Nat.zero_mul,List.drop_zero]
   exact Upd.refl hg
 ·have w:wrCells h gb (0+len*e) xs.flatten=some (h.put gb (.cells (A++xs.flatten++Z.drop (xs.length*e)) e false)):=by
   rw[wrCells_of hg,Nat.zero_add,if_pos (by rw[s2,List.length_append]; omega)]
   congr 3
   unfold splice
   rw[← hA,List.take_left',List.drop_append,List.drop_of_length_le (by omega),s2]
   ·simp
   ·rfl
  refine⟨_,?_,Upd.put hg⟩
  simp only[appA,s1,ho,if_true,if_neg hn,if_pos hc,w,Option.map_some]
theorem flatten_take_succ {α:Type}{xss:List (List α)}{k:Nat} (hk:k<xss.length):(xss.take (k+1)).flatten=(xss.take k).flatten++xss[k]:=by
 rw[List.take_succ_eq_append_getElem hk,List.flatten_append]
 simp
theorem flatten_take_le {α:Type} (xss:List (List α)) (k:Nat):(xss.take k).flatten.length≤xss.flatten.length:=by
 conv=>rhs; rw[← List.take_append_drop k xss]
 rw[List.flatten_append,List.length_append]
 omega
theorem slV_nils {h:AH}{e:Nat}:slV h e .nils none (some (.int .i64 0)) none=some .nils:=rfl
theorem repl_len {z:List AV}:∀ n,(repl z n).length=n*z.length
 | 0=>by simp [repl]
 | n+1=>by simp only[repl,List.length_append,repl_len n,Nat.add_mul]; omega
theorem repl_drop {z:List AV}:∀ k n,(repl z (k+n)).drop (k*z.length)=repl z n
 | 0,n=>by simp
 | k+1,n=>by
   have e1:repl z (k+1+n)=z++repl z (k+n):=by rw[show k+1+n=(k+n)+1 by omega]; rfl
   have e2:(k+1)*z.length=z.length+k*z.length:=by rw[Nat.add_mul]; omega
   rw[e1,e2,← List.drop_drop,List.drop_left,repl_drop k n]
theorem growI_ok {h:AH}{N:Nat} (hN:N<2 ^ 34):C prg 113 [.nils,.int .i64 (N:Nat)] h fun r h'=>(N=0∧r=.nils∧h'=h)∨(0<N∧r=.sl h.next 0 0 N∧h'=h.new (.cells (repl [.int .i64 0] N) 1 false)):=by
 refine C.func pf113 ?_
 have c1:decide (((N:Nat):Int)<0)=false:=decide_eq_false (by omega)
 have w1:IntKind.i64.wrap (0-0)=0:=by decide
 have w2:IntKind.i64.wrap (((N:Nat):Int)-0)=((N:Nat):Int):=by rw[wr64 (by omega) (by omega)]; omega
 have cp:capA .nils=some (.int .i64 0):=rfl
 refine W.seq (W.run (by simp only[am,evOp,simprocAttr,initTm]<;>rfl) ?_)
 refine W.seq (W.seq (W.run (by simp only[am,evOp,simprocAttr,initTm]<;>rfl) ?_))
 refine W.no (by simp only[am,evOp,↓reduceIte,Nat.reduceEqDiff,Int.reduceEq,Nat.reduceAdd,Nat.reduceLeDiff,reduceCtorEq,c1]) (W.skip ?_)
 refine W.seq (W.seq (W.run (by simp only[am,evOp,↓reduceIte,Nat.reduceEqDiff,Int.reduceEq,Nat.reduceAdd,Nat.reduceLeDiff,reduceCtorEq,initTm,cp,w1,w2]<;>rfl) ?_))
 refine W.seq (W.seq (W.run (by simp only[am,evOp,↓reduceIte,Nat.reduceEqDiff,Int.reduceEq,Nat.reduceAdd,Nat.reduceLeDiff,reduceCtorEq]<;>rfl) ?_))
 refine W.cond (t:=decide (0<N)) (by simp only[am,evOp,↓reduceIte,Nat.reduceEqDiff,Int.reduceEq,Nat.reduceAdd,Nat.reduceLeDiff,reduceCtorEq]; exact congrArg AV.bool (by simp only[decide_eq_decide]; omega)) (fun q=>?_) fun q=>?_
 ·have q:0<N:=of_decide_eq_true q
  have q0:¬ ((N:Nat):Int)=0:=by omega
  have az:apzA h [.int .i64 0] 8 .nils (.int .i64 (N:Nat))=some (.sl h.next 0 N N,h.new (.cells (repl [.int .i64 0] N) 1 false)):=by
   simp only[apzA,if_neg q0]
   rw[if_pos ⟨by omega,by unfold tooMany; omega,by unfold tooMany; omega⟩]
   simp
  have g1:(h.new (.cells (repl [.int .i64 0] N) 1 false)).get h.next=some (.cells (repl [.int .i64 0] N) 1 false):=by rw[AH.get_new,if_pos rfl]
  have s1:slV (h.new (.cells (repl [.int .i64 0] N) 1 false)) 1 (.sl h.next 0 N N) none (some (.int .i64 0)) none=some (.sl h.next 0 0 N):=by
   have:=bnd_nat (k:=.i64) (show 0≤N by omega)
   simp only[slV,g1,if_true,bnds,this,Option.map_some]
   have h0:bnd (.int .i64 0) N=some 0:=this
   rw[h0]
   simp only[Option.map_some]
   split<;>simp
  refine W.run (by simp only[am,evOp,simprocAttr,initTm,slLA_eq,Option.map_none,cp,slV_nils,az,s1]<;>rfl) ?_
  refine W.seq (W.run (by simp only[am,evOp,simprocAttr]<;>rfl) ?_)
  exact W.ret ⟨_,(by simp only[rs,rf113,am,evOp,simprocAttr]<;>rfl),.inr ⟨q,rfl,rfl⟩⟩
 ·have q:¬ 0<N:=of_decide_eq_false q
  refine W.skip (W.seq (W.run (by simp only[am,evOp,simprocAttr,initTm]<;>rfl) ?_))
  exact W.ret ⟨_,(by simp only[rs,rf113,am,evOp,simprocAttr]<;>rfl),.inl ⟨by omega,rfl,rfl⟩⟩
theorem concatI_ok {h:AH}{v:AV}{vs:List AV}{xss:List (List (Int))} (hv:Sl h 1 v (vs.map fun x=>[x])) (hl:vs.length=xss.length) (hx:∀ (i:Nat) (w:AV) (xs:List (Int)),vs[i]?=some w→xss[i]?=some xs→SlI h w xs) (hn:xss.length<2 ^ 30) (hs:xss.flatten.length<2 ^ 34) :
 C prg 62 [v] h fun r h'=>IsSl h' 1 h.next r (xss.flatten.flatMap eI)∧Ext h.next h h':=by
 have el:=hv.len
 rw[List.length_map,hl] at el
 have hvk:∀ (k:Nat) (hk:k<xss.length),∃ b p,iadrL 1 v (.int .i64 (k:Nat))=some (.ptr b p)∧rdCells h b p 1=some [vs[k]'(by omega)]∧b<h.next:=fun k hk=>hv.at1 (by rw[List.getElem?_map,List.getElem?_eq_getElem (by omega)]; rfl)
 have hxk:∀ (k:Nat) (hk:k<xss.length),SlI h (vs[k]'(by omega)) xss[k]:=fun k hk=>hx k _ _ (List.getElem?_eq_getElem _) (List.getElem?_eq_getElem hk)
 refine C.func pf62 ?_
 refine W.seq (W.run (by simp only[am,evOp,simprocAttr,initTm]<;>rfl) ?_)
 refine W.seq (W.run (by simp only[am,evOp,simprocAttr]<;>rfl) ?_)
 refine W.seq (W.seq (W.run (by simp only[am,evOp,simprocAttr,initTm,el]<;>rfl) ?_))
 refine W.rng (α:=Unit) (N:=xss.length) (fun k _=>[(0,v),(9,v),(3,.int .i64 ((xss.take k).flatten.length:Nat))]) (fun _ _ h'=>h'=h) () (fun _ _=>rfl) (by omega) (by simp only[held_cons,held_nil,am,evOp,↓reduceIte,Nat.reduceEqDiff,Int.reduceEq,Nat.reduceAdd,Nat.reduceLeDiff,reduceCtorEq,initTm,List.take_zero,List.flatten_nil,Int.natCast_zero]) rfl ?_ ?_
 ·rintro k _ ts h1 hk rfl ⟨ei,en,e0,e9,e3,-⟩
  simp only at ei en e0 e9 e3
  obtain⟨b1,p1,a1,r1,_⟩:=hvk k hk
  have lk:=(hxk k hk).len
  rw[List.length_map] at lk
  have hle:=flatten_take_le xss (k+1)
  rw[flatten_take_succ hk,List.length_append] at hle
  have w1:IntKind.i64.wrap ((((xss.take k).flatten.length:Nat):Int)+((xss[k].length:Nat):Int))=(((xss.take (k+1)).flatten.length:Nat):Int):=by
   rw[wr64 (by omega) (by omega),flatten_take_succ hk,List.length_append]
   omega
  have c1:decide ((((xss.take (k+1)).flatten.length:Nat):Int)<0)=false:=decide_eq_false (by omega)
  refine W.seq (W.run (by simp only[am,evOp,simprocAttr,e9,ei,a1,r1]<;>rfl) ?_)
  refine W.seq (W.run (by simp only[am,evOp,simprocAttr,e3,lk,w1]<;>rfl) ?_)
  refine W.seq (W.run (by simp only[am,evOp,simprocAttr,c1]<;>rfl) ?_)
  refine W.no (by simp only[am,evOp,↓reduceIte,Nat.reduceEqDiff,Int.reduceEq,Nat.reduceAdd,Nat.reduceLeDiff,reduceCtorEq]) (W.skip ⟨(),rfl,by simp only[held_cons,held_nil,am,evOp,↓reduceIte,Nat.reduceEqDiff,Int.reduceEq,Nat.reduceAdd,Nat.reduceLeDiff,reduceCtorEq,ei,en,e0,e9]⟩)
 ·rintro _ ts h1 rfl ⟨e0,e9,e3,-⟩
  simp only at e0 e9 e3
  rw[List.take_length] at e3
  refine W.seq (W.reg (G.gcall 1 (by simp only[am,evOp,simprocAttr,e3]<;>rfl) rfl (by simp only[am,evOp,simprocAttr,e3]) (by simp only[am,evOp,simprocAttr,e3]<;>rfl) (growI_ok hs) fun g h2 hq=>?_))
  refine G.run (by simp only[am,evOp,simprocAttr]<;>rfl) ?_
  refine W.seq (W.seq (W.run (by simp only[am,evOp,simprocAttr,e0,el]<;>rfl) ?_))
  rcases hq with ⟨hz,rfl,rfl⟩|⟨hz,rfl,rfl⟩
  ·refine W.rng (α:=Unit) (N:=xss.length) (fun _ _=>[(25,v),(6,.nils)]) (fun _ _ h'=>h'=h2) () (fun _ _=>rfl) (by omega) (by simp only[held_cons,held_nil,am,evOp,↓reduceIte,Nat.reduceEqDiff,Int.reduceEq,Nat.reduceAdd,Nat.reduceLeDiff,reduceCtorEq,e0]) rfl ?_ ?_
   ·rintro k _ ts h1 hk rfl ⟨ei,en,e25,e6,-⟩
    simp only at ei en e25 e6
    obtain⟨b1,p1,a1,r1,_⟩:=hvk k hk
    have hle:=flatten_take_le xss (k+1)
    rw[flatten_take_succ hk,List.length_append] at hle
    have hk0:xss[k]=[]:=List.length_eq_zero_iff.1 (by omega)
    have s1:=(hxk k hk).src.1
    rw[hk0] at s1
    have ap:appA h1 1 8 .nils (vs[k]'(by omega))=some (.nils,h1):=by simp [appA,s1]
    refine W.seq (W.run (by simp only[am,evOp,simprocAttr,e25,ei,a1,r1]<;>rfl) ?_)
    refine W.run (by simp only[am,evOp,simprocAttr,e6,ap]<;>rfl) ?_
    exact⟨(),rfl,by simp only[held_cons,held_nil,am,evOp,↓reduceIte,Nat.reduceEqDiff,Int.reduceEq,Nat.reduceAdd,Nat.reduceLeDiff,reduceCtorEq,ei,en,e25]⟩
   ·rintro _ ts h1 rfl ⟨e25,e6,-⟩
    simp only at e25 e6
    refine W.seq (W.run (by simp only[am,evOp,simprocAttr,e6]<;>rfl) ?_)
    exact W.ret ⟨_,(by simp only[rs,rf62,am,evOp,simprocAttr]<;>rfl),.inl ⟨rfl,by rw[List.length_eq_zero_iff.1 hz]; rfl⟩,Ext.refl⟩
  ·have g2:(h1.new (.cells (repl [.int .i64 0] xss.flatten.length) 1 false)).get h1.next=some (.cells (repl [.int .i64 0] xss.flatten.length) 1 false):=by rw[AH.get_new,if_pos rfl]
   have x2:Ext h1.next h1 (h1.new (.cells (repl [.int .i64 0] xss.flatten.length) 1 false)):=Ext.new (Nat.le_refl _)
   generalize h1.new (.cells (repl [.int .i64 0] xss.flatten.length) 1 false)=h2 at *
   refine W.rng (α:=Unit) (N:=xss.length) (fun k _=>[(25,v),(6,.sl h1.next 0 (xss.take k).flatten.length xss.flatten.length)])
    (fun k _ h'=>h'.get h1.next=some (.cells ((xss.take k).flatten.flatMap eI++repl [.int .i64 0] (xss.flatten.length-(xss.take k).flatten.length)) 1 false)∧Ext h1.next h1 h') () (fun _ _=>rfl) (by omega) (by simp only[held_cons,held_nil,am,evOp,↓reduceIte,Nat.reduceEqDiff,Int.reduceEq,Nat.reduceAdd,Nat.reduceLeDiff,reduceCtorEq,e0,List.take_zero,List.flatten_nil,List.length_nil]) ⟨g2,x2⟩ ?_ ?_
   ·rintro k _ ts h3 hk ⟨j1,j2⟩ ⟨ei,en,e25,e6,-⟩
    simp only at ei en e25 e6
    obtain⟨b1,p1,a1,r1,hb⟩:=hvk k hk
    have hle:=flatten_take_le xss (k+1)
    rw[flatten_take_succ hk,List.length_append] at hle
    have fl:((xss.take k).flatten.flatMap eI).length=(xss.take k).flatten.length*1:=flat_len (f:=eI) (e:=1) (fun _=>rfl) _
    obtain⟨h4,p4,u4⟩:=app_in (bytes:=8) (cap:=xss.flatten.length) j1 fl ((hxk k hk).ext j2 (Nat.le_refl _)) ones_I (by rw[List.length_map]; omega) (by rw[List.length_map,repl_len]; simp only[List.length_cons,List.length_nil]; omega)
    have ef:(xss.take k).flatten.length+xss[k].length=(xss.take (k+1)).flatten.length:=by rw[flatten_take_succ hk,List.length_append]
    rw[List.length_map,ef] at p4
    have e2:(xss.take k).flatten.flatMap eI++(xss[k].map eI).flatten++(repl [.int .i64 0] (xss.flatten.length-(xss.take k).flatten.length)).drop ((xss[k].map eI).length*1)=(xss.take (k+1)).flatten.flatMap eI++repl [.int .i64 0] (xss.flatten.length-(xss.take (k+1)).flatten.length):=by
     rw[flatten_take_succ hk,List.flatMap_append,← List.flatMap_def,List.length_map,List.length_append]
     congr 1
     rw[show xss.flatten.length-(xss.take k).flatten.length=xss[k].length+(xss.flatten.length-((xss.take k).flatten.length+xss[k].length)) by omega]
     exact repl_drop (z:=[.int .i64 0]) _ _
    rw[e2] at u4
    have r1':rdCells h3 b1 p1 1=some [vs[k]'(by omega)]:=by rw[rdCells_eq (j2.gt _ hb)]; exact r1
    refine W.seq (W.run (by simp only[am,evOp,simprocAttr,e25,ei,a1,r1']<;>rfl) ?_)
    refine W.run (by simp only[am,evOp,simprocAttr,e6,p4]<;>rfl) ?_
    exact⟨(),⟨u4.get,j2.trans (u4.ext (Nat.le_refl _))⟩,by simp only[held_cons,held_nil,am,evOp,↓reduceIte,Nat.reduceEqDiff,Int.reduceEq,Nat.reduceAdd,Nat.reduceLeDiff,reduceCtorEq,ei,en,e25]⟩
   ·rintro _ ts h3 ⟨j1,j2⟩ ⟨e25,e6,-⟩
    simp only at e25 e6
    rw[List.take_length] at j1 e6
    refine W.seq (W.run (by simp only[am,evOp,simprocAttr,e6]<;>rfl) ?_)
    refine W.ret ⟨_,(by simp only[rs,rf62,am,evOp,simprocAttr]<;>rfl),.inr ⟨h1.next,xss.flatten.length,Nat.le_refl _,rfl,?_,flat_len (f:=eI) (e:=1) (fun _=>rfl) _⟩,j2⟩
    rw[j1,Nat.sub_self]
    simp [repl]
end Go.Proofs.YticaalcbgikjjaaGreatDoor
namespace Go.Proofs.YticaalcbgikjjaaGreatDoor
open Go.Am
def okE (v:Int) (e:Int×Int):Bool:=decide (0≤e.1)&&decide (0≤e.2)&&decide (e.1<v)&&decide (e.2<v)
def mayB (v:Int) (es:List (Int×Int)):Bool:=decide (1≤v)&&decide (v≤64)&&decide (es.length≤128)&&es.all (okE v)
def outB (v x:Int):Bool:=decide (x<0)||decide (v≤x)
theorem gmay1_ok {h:AH}{b:Nat}{x n:Int} (hr:rdCells h b 0 1=some [.int .i64 n]):C prg 72 [.int .i64 x,.ptr b 0] h fun r h'=>r=.bool (outB n x)∧h'=h:=by
 refine C.func pf72 ?_
 refine W.seq (W.run (by simp only[am,evOp,simprocAttr,initTm]<;>rfl) ?_)
 by_cases q:x<0
 ·have c1:decide (x<0)=true:=decide_eq_true q
  refine W.seq (W.run (by simp only[am,evOp,simprocAttr,initTm,c1]<;>rfl) ?_)
  exact W.ret ⟨.bool true,(by simp only[rs,rf72,am,evOp,simprocAttr,c1]<;>rfl),by simp [outB,q],rfl⟩
 ·have c1:decide (x<0)=false:=decide_eq_false q
  refine W.seq (W.run (by simp only[am,evOp,simprocAttr,initTm,c1,hr]<;>rfl) ?_)
  exact W.ret ⟨.bool (decide (n≤x)),(by simp only[rs,rf72,am,evOp,simprocAttr,c1]<;>rfl),by simp [outB,q],rfl⟩
theorem gmay2_ok {h:AH}{b s:Nat}{x:Int×Int}{n:Int} (hr:rdCells h b 0 1=some [.int .i64 n]) (hs:rdCells h s 0 1=some [.fn 72 [.ptr b 0]]) (hb:b<h.next) (hsn:s<h.next) :
 C prg 74 ([.agg (eE x)]++[.ptr s 0]) h fun r h'=>r=.bool (!okE n x)∧Ext h.next h h':=by
 refine C.func pf74 ?_
 have fin:(!okE n x)=(outB n x.1||outB n x.2):=by
  obtain⟨x1,x2⟩:=x
  simp only[okE,outB]
  by_cases a1:x1<0<;>by_cases a2:x2<0<;>by_cases a3:n≤x1<;>by_cases a4:n≤x2<;>simp [a1,a2,a3,a4]<;>omega
 rw[fin]
 refine W.seq (W.run (by simp only[am,evOp,simprocAttr,initTm,eE]<;>rfl) ?_)
 have ex:Ext h.next h (h.new (.cells [.int .i64 x.1,.int .i64 x.2] 2 false)):=Ext.new (Nat.le_refl _)
 have g:(h.new (.cells [.int .i64 x.1,.int .i64 x.2] 2 false)).get h.next=some (.cells [.int .i64 x.1,.int .i64 x.2] 2 false):=by rw[AH.get_new,if_pos rfl]
 generalize h.new (.cells [.int .i64 x.1,.int .i64 x.2] 2 false)=h1 at *
 have r1:rdCells h1 h.next 0 1=some [.int .i64 x.1]:=by rw[rdCells_of g]; rfl
 have r2:rdCells h1 h.next 1 1=some [.int .i64 x.2]:=by rw[rdCells_of g]; rfl
 have hr1:rdCells h1 b 0 1=some [.int .i64 n]:=by rw[← hr]; exact rdCells_eq (ex.gt b hb)
 have hs1:rdCells h1 s 0 1=some [.fn 72 [.ptr b 0]]:=by rw[← hs]; exact rdCells_eq (ex.gt s hsn)
 refine W.seq (W.reg (G.gcallv 3 (by simp only[am,evOp,simprocAttr,initTm,eE,hs1,r1]<;>rfl) rfl (by simp only[am,evOp,simprocAttr,initTm,eE,hs1,r1]) (by simp only[am,evOp,simprocAttr,initTm,eE,hs1,r1]<;>rfl) (by simp only[am,evOp,simprocAttr,initTm,eE,hs1,r1]<;>rfl) (gmay1_ok (x:=x.1) hr1) fun r h2 hq=>?_))
 obtain⟨rfl,rfl⟩:=hq
 cases q:outB n x.1 with
 | true =>
   refine G.nocallv 4 (by simp only[am,evOp,simprocAttr]<;>rfl) rfl (by simp only[am,evOp,simprocAttr]) ?_
   refine G.run (by simp only[am,evOp,simprocAttr]<;>rfl) ?_
   exact W.ret ⟨.bool true,(by simp only[rs,rf74,am,evOp,simprocAttr]<;>rfl),rfl,ex⟩
 | false =>
   refine G.gcallv 4 (by simp only[am,evOp,simprocAttr,initTm,eE,hs1,r2]<;>rfl) rfl (by simp only[am,evOp,simprocAttr,initTm,eE,hs1,r2]) (by simp only[am,evOp,simprocAttr,initTm,eE,hs1,r2]<;>rfl) (by simp only[am,evOp,simprocAttr,initTm,eE,hs1,r2]<;>rfl) (gmay1_ok (x:=x.2) hr1) fun r h3 hq=>?_
   obtain⟨rfl,rfl⟩:=hq
   refine G.run (by simp only[am,evOp,simprocAttr]<;>rfl) ?_
   exact W.ret ⟨.bool (outB n x.2),(by simp only[rs,rf74,am,evOp,simprocAttr]<;>rfl),rfl,ex⟩
theorem gmay_ok {h:AH}{n:Int}{ev:AV}{es:List (Int×Int)} (he:SlE h ev es) (hl:es.length<2 ^ 40):C prg 37 [.agg [.int .i64 n,ev]] h fun r h'=>r=.bool (mayB n es)∧Ext h.next h h':=by
 refine C.func pf37 ?_
 obtain⟨ec,eo⟩:=he.cells
 have hlen:=he.len
 rw[List.length_map] at hlen
 refine W.seq (W.run (by simp only[am,evOp,simprocAttr,initTm]<;>rfl) ?_)
 have ex0:Ext h.next h (h.new (.cells [.int .i64 n,ev] 2 false)):=Ext.new (Nat.le_refl _)
 have g0:(h.new (.cells [.int .i64 n,ev] 2 false)).get h.next=some (.cells [.int .i64 n,ev] 2 false):=by rw[AH.get_new,if_pos rfl]
 have n0:(h.new (.cells [.int .i64 n,ev] 2 false)).next=h.next+1:=rfl
 generalize h.new (.cells [.int .i64 n,ev] 2 false)=h0 at *
 have gN:(h0.new (.cells [.nilf] 1 false)).get h0.next=some (.cells [.nilf] 1 false):=by rw[AH.get_new,if_pos rfl]
 have w1:wrCells (h0.new (.cells [.nilf] 1 false)) h0.next 0 [.fn 72 [.ptr h.next 0]]=some ((h0.new (.cells [.nilf] 1 false)).put h0.next (.cells [.fn 72 [.ptr h.next 0]] 1 false)):=by rw[wrCells_of gN]; rfl
 have u1:Upd (h0.new (.cells [.nilf] 1 false)) ((h0.new (.cells [.nilf] 1 false)).put h0.next (.cells [.fn 72 [.ptr h.next 0]] 1 false)) h0.next (.cells [.fn 72 [.ptr h.next 0]] 1 false):=Upd.put gN
 refine W.seq (W.run (by simp only[am,evOp,simprocAttr,initTm,w1]<;>rfl) ?_)
 have ex1:Ext h0.next h0 ((h0.new (.cells [.nilf] 1 false)).put h0.next (.cells [.fn 72 [.ptr h.next 0]] 1 false)):=(Ext.new (Nat.le_refl _)).trans (u1.ext (Nat.le_refl _))
 have n1:((h0.new (.cells [.nilf] 1 false)).put h0.next (.cells [.fn 72 [.ptr h.next 0]] 1 false)).next=h0.next+1:=rfl
 have g1:=u1.get
 generalize (h0.new (.cells [.nilf] 1 false)).put h0.next (.cells [.fn 72 [.ptr h.next 0]] 1 false)=h1 at *
 clear gN w1 u1
 have g0':h1.get h.next=some (.cells [.int .i64 n,ev] 2 false):=by rw[ex1.gt _ (by omega)]; exact g0
 have r1:rdCells h1 h.next 0 1=some [.int .i64 n]:=by rw[rdCells_of g0']; rfl
 have r2:rdCells h1 h.next 1 1=some [ev]:=by rw[rdCells_of g0']; rfl
 have r3:rdCells h1 h0.next 0 1=some [.fn 72 [.ptr h.next 0]]:=by rw[rdCells_of g1]; rfl
 have ex:Ext h.next h h1:=ex0.trans (ex1.mono (by omega))
 have he1:=he.ext ex (Nat.le_refl _)
 by_cases q1:0<n
 case neg =>
  have c1:decide (0<n)=false:=decide_eq_false q1
  refine W.seq (W.reg (G.nocall 18 (by simp only[am,evOp,simprocAttr,initTm,r1,c1]<;>rfl) rfl (by simp only[am,evOp,simprocAttr,c1]) ?_))
  refine G.run (by simp only[am,evOp,simprocAttr]<;>rfl) ?_
  exact W.ret ⟨.bool false,(by simp only[rs,rf37,am,evOp,simprocAttr]<;>rfl),by simp [mayB]; omega,ex⟩
 have c1:decide (0<n)=true:=decide_eq_true q1
 by_cases q2:n≤64
 case neg =>
  have c2:decide (n≤64)=false:=decide_eq_false q2
  refine W.seq (W.reg (G.nocall 18 (by simp only[am,evOp,simprocAttr,initTm,r1,c1,c2]<;>rfl) rfl (by simp only[am,evOp,simprocAttr]) ?_))
  refine G.run (by simp only[am,evOp,simprocAttr]<;>rfl) ?_
  exact W.ret ⟨.bool false,(by simp only[rs,rf37,am,evOp,simprocAttr]<;>rfl),by simp [mayB,q2],ex⟩
 have c2:decide (n≤64)=true:=decide_eq_true q2
 by_cases q3:es.length≤128
 case neg =>
  have c3:decide (((es.length:Nat):Int)≤128)=false:=decide_eq_false (by omega)
  refine W.seq (W.reg (G.nocall 18 (by simp only[am,evOp,simprocAttr,initTm,r1,r2,hlen,c1,c2,c3]<;>rfl) rfl (by simp only[am,evOp,simprocAttr]) ?_))
  refine G.run (by simp only[am,evOp,simprocAttr]<;>rfl) ?_
  exact W.ret ⟨.bool false,(by simp only[rs,rf37,am,evOp,simprocAttr]<;>rfl),by simp [mayB,q3],ex⟩
 have c3:decide (((es.length:Nat):Int)≤128)=true:=decide_eq_true (by omega)
 have hcf:∀ x∈es,∀ h',Ext h1.next h1 h'→C prg 74 ([.agg (eE x)]++[.ptr h0.next 0]) h' fun r h''=>r=.bool (!okE n x)∧Ext h'.next h' h'':=fun x _ h' hx =>
  gmay2_ok (by rw[← r1]; exact rdCells_eq (hx.gt _ (by omega))) (by rw[← r3]; exact rdCells_eq (hx.gt _ (by omega))) (by have:=hx.nx; omega) (by have:=hx.nx; omega)
 refine W.seq (W.reg (G.gcall 18 (by simp only[am,evOp,simprocAttr,initTm,r1,r2,hlen,c1,c2,c3]<;>rfl) rfl (by simp only[am,evOp,simprocAttr,initTm,r1,r2,hlen,c1,c2,c3]) (by simp only[am,evOp,simprocAttr,initTm,r1,r2,hlen,c1,c2,c3]<;>rfl) (contfE_ok he1 hl hcf) fun r h2 hq=>?_))
 obtain⟨rfl,ex2⟩:=hq
 refine G.run (by simp only[am,evOp,simprocAttr]<;>rfl) ?_
 refine W.ret ⟨_,(by simp only[rs,rf37,am,evOp,simprocAttr]<;>rfl),?_,ex.trans (ex2.mono ex.nx)⟩
 have c4:decide (1≤n)=true:=decide_eq_true (by omega)
 have c5:(!es.any fun x=>!okE n x)=es.all (okE n):=by
  rw[List.not_any_eq_all_not]
  simp
 simp only[mayB,c4,c2,q3,decide_true,Bool.true_and,c5]
end Go.Proofs.YticaalcbgikjjaaGreatDoor
