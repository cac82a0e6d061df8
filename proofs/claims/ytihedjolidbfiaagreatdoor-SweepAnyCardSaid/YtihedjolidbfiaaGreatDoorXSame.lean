/-
  What the laws compare with: SameItems, SameInts, SameEnds, Turned, Great.
-/
import Derived.Test.YtihedjolidbfiaaGreatDoorXLj
set_option linter.all false
namespace Go.Proofs.YtihedjolidbfiaaGreatDoor
open Go.Am
theorem flat3 {a b:It}:flatEq [.i64,.i64,.i64] (eT a) (eT b)=some (decide (a=b)):=by
 obtain⟨a1,a2,a3⟩:=a
 obtain⟨b1,b2,b3⟩:=b
 simp only[eT,flatEq,and_self,if_true]
 by_cases h1:a1=b1
 ·subst h1
  by_cases h2:a2=b2
  ·subst h2
   by_cases h3:a3=b3
   ·subst h3; simp
   ·simp [h3]
  ·simp [h2]
 ·simp [h1]
theorem take_eq_succ {α:Type}{xs ys:List α} (hl:xs.length=ys.length) {k:Nat} (hk:k<xs.length) (h:xs.take k=ys.take k) (e:xs[k]=ys[k]'(by omega)):xs.take (k+1)=ys.take (k+1):=by
 rw[List.take_succ_eq_append_getElem hk,List.take_succ_eq_append_getElem (show k<ys.length by omega),h,e]
theorem sameT_ok {h:AH}{v w:AV}{xs ys:List It} (hv:SlT h v xs) (hw:SlT h w ys) (hl:xs.length<2 ^ 40) (hl2:ys.length<2 ^ 40):C prg 12 [v,w] h fun r h'=>r=.bool (decide (xs=ys))∧h'=h:=by
 have e1:=hv.len
 have e2:=hw.len
 rw[List.length_map] at e1 e2
 refine C.func pf12 ?_
 refine W.seq (W.run (by simp only[am,evOp,↓reduceIte,Nat.reduceEqDiff,Int.reduceEq,Nat.reduceAdd,Nat.reduceLeDiff,reduceCtorEq,initTm]<;>rfl) ?_)
 refine W.seq (W.seq (W.run (by simp only[am,evOp,simprocAttr,initTm,e1,e2]<;>rfl) ?_))
 refine W.cond (t:=!decide (xs.length=ys.length)) (by simp only[am,evOp,simprocAttr]; exact congrArg AV.bool (by congr 1; simp only[decide_eq_decide]; omega)) (fun q=>?_) fun q=>?_
 ·have q:¬ xs.length=ys.length:=by simpa using q
  refine W.seq (W.run (by simp only[am,evOp,simprocAttr]<;>rfl) ?_)
  exact W.ret ⟨.bool false,(by simp only[rs,rf12,am,evOp,simprocAttr]<;>rfl),by rw[decide_eq_false (fun e=>q (by rw[e]))],rfl⟩
 have q:xs.length=ys.length:=by simpa using q
 refine W.skip ?_
 refine W.seq (W.seq (W.run (by simp only[am,evOp,simprocAttr,initTm]<;>rfl) ?_))
 refine W.whl (α:=Unit) (N:=xs.length) (fun k _=>[(0,v),(1,w),(5,.int .i64 (k:Nat))]) (fun k _ h'=>h'=h∧xs.take k=ys.take k) () (by simp only[held_cons,held_nil,am,evOp,↓reduceIte,Nat.reduceEqDiff,Int.reduceEq,Nat.reduceAdd,Nat.reduceLeDiff,reduceCtorEq,initTm,Int.natCast_zero]) ⟨rfl,rfl⟩ ?_ ?_ ?_
 ·rintro k _ ts h1 hk ⟨rfl,j1⟩ ⟨f0,f1,f5,-⟩
  simp only at f0 f1 f5
  exact⟨_,(by simp only[am,evOp,↓reduceIte,Nat.reduceEqDiff,Int.reduceEq,Nat.reduceAdd,Nat.reduceLeDiff,reduceCtorEq,f0,f5,e1,Int.ofNat_lt]<;>rfl),by simp only[am,evOp,↓reduceIte,Nat.reduceEqDiff,Int.reduceEq,Nat.reduceAdd,Nat.reduceLeDiff,reduceCtorEq],by simp only[held_cons,held_nil,am,evOp,↓reduceIte,Nat.reduceEqDiff,Int.reduceEq,Nat.reduceAdd,Nat.reduceLeDiff,reduceCtorEq,f0,f1,f5]⟩
 ·rintro k _ ts h1 hk ⟨rfl,j1⟩ ⟨f0,f1,f5,-⟩
  simp only at f0 f1 f5
  obtain⟨b1,p1,a1,r1,_⟩:=hv.at (map_at (f:=eT) hk)
  obtain⟨b2,p2,a2,r2,_⟩:=hw.at (map_at (f:=eT) (show k<ys.length by omega))
  have w1:=w1_ok (k:=k) (by omega)
  refine W.seq (W.run (by simp only[am,evOp,simprocAttr,f0,f1,f5,a1,a2,r1,r2,flat3]<;>rfl) ?_)
  refine W.cond (t:=!decide (xs[k]=ys[k]'(by omega))) (by simp only[am,evOp,simprocAttr]) (fun p=>?_) fun p=>?_
  ·have p:¬ xs[k]=ys[k]'(by omega):=by simpa using p
   refine W.seq (W.run (by simp only[am,evOp,simprocAttr]<;>rfl) ?_)
   refine W.ret ⟨.bool false,(by simp only[rs,rf12,am,evOp,simprocAttr]<;>rfl),?_,rfl⟩
   rw[decide_eq_false]
   intro e
   subst e
   exact p rfl
  ·have p:xs[k]=ys[k]'(by omega):=by simpa using p
   exact W.skip ⟨(),⟨rfl,take_eq_succ q hk j1 p⟩,_,(by simp only[am,evOp,↓reduceIte,Nat.reduceEqDiff,Int.reduceEq,Nat.reduceAdd,Nat.reduceLeDiff,reduceCtorEq,f5,w1]<;>rfl),by simp only[held_cons,held_nil,am,evOp,↓reduceIte,Nat.reduceEqDiff,Int.reduceEq,Nat.reduceAdd,Nat.reduceLeDiff,reduceCtorEq,f0,f1]⟩
 ·rintro _ ts h1 ⟨rfl,j1⟩ ⟨f0,f1,f5,-⟩
  rw[List.take_length,q,List.take_length] at j1
  refine W.seq (W.run (by simp only[am,evOp,simprocAttr]<;>rfl) ?_)
  exact W.ret ⟨.bool true,(by simp only[rs,rf12,am,evOp,simprocAttr]<;>rfl),by rw[decide_eq_true j1],rfl⟩
theorem len_cells {v x:AV} (h:lenLA v=some x):v.cells=[v]∧v.one=true:=by
 unfold lenLA at h
 split at h
 ·exact⟨rfl,rfl⟩
 ·exact⟨rfl,rfl⟩
 ·exact⟨rfl,rfl⟩
 ·cases h
theorem great_ok {h:AH}{n:Int}{ne no nu:Nat}{ev ordv outv:AV}{outs:List (List Int)} (he:lenLA ev=some (.int .i64 (ne:Nat))) (hp:lenLA ordv=some (.int .i64 (no:Nat))) (hu:lenLA outv=some (.int .i64 (nu:Nat))) (hq:nu≤100→SlL h outv outs) :
 C prg 8 [.agg [.int .i64 n,ev],.agg [ordv,outv]] h fun r h'=>(∃ b,r=.bool b∧(b=false→ne≤200∧no≤100∧nu≤100∧∀ l∈outs,l.length≤200))∧Ext h.next h h':=by
 obtain⟨ec,eo⟩:=len_cells he
 obtain⟨oc,oo⟩:=len_cells hp
 obtain⟨qc,qo⟩:=len_cells hu
 refine C.func pf8 ?_
 refine W.seq (W.run (by simp only[am,evOp,↓reduceIte,Nat.reduceEqDiff,Int.reduceEq,Nat.reduceAdd,Nat.reduceLeDiff,reduceCtorEq,initTm]<;>rfl) ?_)
 have ga:∀ c,((h.new (.cells [.int .i64 n,ev] 2 false)).new (.cells [ordv,outv] 2 false)).get c=if c=h.next+1 then some (.cells [ordv,outv] 2 false) else if c=h.next then some (.cells [.int .i64 n,ev] 2 false) else h.get c:=fun c=>by
  rw[AH.get_new,AH.get_new]
  rfl
 have x0:Ext h.next h ((h.new (.cells [.int .i64 n,ev] 2 false)).new (.cells [ordv,outv] 2 false)):=(Ext.new (Nat.le_refl _)).trans (Ext.new (by simp))
 generalize ((h.new (.cells [.int .i64 n,ev] 2 false)).new (.cells [ordv,outv] 2 false))=h1 at *
 have gG:h1.get h.next=some (.cells [.int .i64 n,ev] 2 false):=by rw[ga,if_neg (by omega),if_pos rfl]
 have gP:h1.get (h.next+1)=some (.cells [ordv,outv] 2 false):=by rw[ga,if_pos rfl]
 have re:rdCells h1 h.next 1 1=some [ev]:=rd_at gG rfl
 have ra:rdCells h1 (h.next+1) 0 1=some [ordv]:=rd_at gP rfl
 have rb:rdCells h1 (h.next+1) 1 1=some [outv]:=rd_at gP rfl
 by_cases q1:200<ne
 ·have c1:decide ((200:Int)<((ne:Nat):Int))=true:=decide_eq_true (by omega)
  refine W.seq (W.seq (W.run (by simp only[am,evOp,simprocAttr,initTm,re,he,c1]<;>rfl) ?_))
  refine W.yes (by simp only[am,evOp,simprocAttr]) (W.seq (W.run (by simp only[am,evOp,simprocAttr]<;>rfl) ?_))
  exact W.ret ⟨.bool true,(by simp only[rs,rf8,am,evOp,simprocAttr]<;>rfl),⟨true,rfl,fun h=>by cases h⟩,x0⟩
 have c1:decide ((200:Int)<((ne:Nat):Int))=false:=decide_eq_false (by omega)
 by_cases q2:100<no
 ·have c2:decide ((100:Int)<((no:Nat):Int))=true:=decide_eq_true (by omega)
  refine W.seq (W.seq (W.run (by simp only[am,evOp,simprocAttr,initTm,re,he,c1,ra,hp,c2]<;>rfl) ?_))
  refine W.yes (by simp only[am,evOp,simprocAttr]) (W.seq (W.run (by simp only[am,evOp,simprocAttr]<;>rfl) ?_))
  exact W.ret ⟨.bool true,(by simp only[rs,rf8,am,evOp,simprocAttr]<;>rfl),⟨true,rfl,fun h=>by cases h⟩,x0⟩
 have c2:decide ((100:Int)<((no:Nat):Int))=false:=decide_eq_false (by omega)
 by_cases q3:100<nu
 ·have c3:decide ((100:Int)<((nu:Nat):Int))=true:=decide_eq_true (by omega)
  refine W.seq (W.seq (W.run (by simp only[am,evOp,simprocAttr,initTm,re,he,c1,ra,hp,c2,rb,hu,c3]<;>rfl) ?_))
  refine W.yes (by simp only[am,evOp,simprocAttr]) (W.seq (W.run (by simp only[am,evOp,simprocAttr]<;>rfl) ?_))
  exact W.ret ⟨.bool true,(by simp only[rs,rf8,am,evOp,simprocAttr]<;>rfl),⟨true,rfl,fun h=>by cases h⟩,x0⟩
 have c3:decide ((100:Int)<((nu:Nat):Int))=false:=decide_eq_false (by omega)
 have hs:=(hq (by omega)).ext x0
 have hlu:outs.length=nu:=by
  have:=hs.len
  rw[hu] at this
  simp only[Option.some.injEq,AV.int.injEq,true_and] at this
  omega
 refine W.seq (W.seq (W.run (by simp only[am,evOp,simprocAttr,initTm,re,he,c1,ra,hp,c2,rb,hu,c3]<;>rfl) ?_))
 refine W.no (by simp only[am,evOp,simprocAttr]) (W.skip ?_)
 refine W.seq (W.seq (W.run (by simp only[am,evOp,simprocAttr,initTm,rb,hu]<;>rfl) ?_))
 refine W.rng (α:=Unit) (N:=nu) (fun _ _=>[(24,outv)]) (fun k _ h'=>h'=h1∧∀ l∈outs.take k,l.length≤200) () (fun _ _=>rfl) (by omega) (by simp only[hl,am,evOp,simprocAttr,initTm]) ⟨rfl,by simp⟩ ?_ ?_
 ·rintro k _ ts h2 hk ⟨rfl,j1⟩ ⟨ei,en,e24,-⟩
  simp only at ei en e24
  obtain⟨b1,p1,w,a1,r1,sw,_⟩:=hs.at (show k<outs.length by omega)
  have lw:=sw.len
  rw[List.length_map] at lw
  refine W.seq (W.run (by simp only[am,evOp,simprocAttr,ei,e24,a1,r1]<;>rfl) ?_)
  refine W.seq (W.run (by simp only[am,evOp,simprocAttr,lw]<;>rfl) ?_)
  refine W.cond (t:=decide (200<(outs[k]'(by omega)).length)) (by simp only[am,evOp,simprocAttr]; exact congrArg AV.bool (by simp only[decide_eq_decide]; omega)) (fun p=>?_) fun p=>?_
  ·refine W.seq (W.run (by simp only[am,evOp,simprocAttr]<;>rfl) ?_)
   exact W.ret ⟨.bool true,(by simp only[rs,rf8,am,evOp,simprocAttr]<;>rfl),⟨true,rfl,fun h=>by cases h⟩,x0⟩
  ·have p:¬ 200<(outs[k]'(by omega)).length:=of_decide_eq_false p
   refine W.skip ⟨(),⟨rfl,fun l hl=>?_⟩,by simp only[hl,am,evOp,simprocAttr,ei,en,e24]⟩
   rw[List.take_succ_eq_append_getElem (by omega),List.mem_append] at hl
   rcases hl with hl|hl
   ·exact j1 l hl
   ·simp only[List.mem_cons,List.not_mem_nil,or_false] at hl
    subst hl
    omega
 ·rintro _ ts h2 ⟨rfl,j1⟩ ⟨e24,-⟩
  rw[List.take_of_length_le (by omega)] at j1
  refine W.seq (W.run (by simp only[am,evOp,simprocAttr]<;>rfl) ?_)
  exact W.ret ⟨.bool false,(by simp only[rs,rf8,am,evOp,simprocAttr]<;>rfl),⟨false,rfl,fun _=>⟨by omega,by omega,by omega,j1⟩⟩,x0⟩
end Go.Proofs.YtihedjolidbfiaaGreatDoor
