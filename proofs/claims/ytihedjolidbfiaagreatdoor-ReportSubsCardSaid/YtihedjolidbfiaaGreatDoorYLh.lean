/-
  The definition's side: has, Ends, Each, Bare, May. The definition's side: which vertices are left (plain law, and the code). The definition's side: May, Bare, cycle.
-/
import Derived.Test.YtihedjolidbfiaaGreatDoorYLg
set_option linter.all false
namespace Go.Proofs.YtihedjolidbfiaaGreatDoor
open Go.Am
theorem w1_ok {k:Nat} (h:k<2 ^ 62):IntKind.i64.wrap (((k:Nat):Int)+1)=((k+1:Nat):Int):=wr64 (by omega) (by omega)
end Go.Proofs.YtihedjolidbfiaaGreatDoor
namespace Go.Proofs.YtihedjolidbfiaaGreatDoor
open Go.Am
end Go.Proofs.YtihedjolidbfiaaGreatDoor
namespace Go.Proofs.YtihedjolidbfiaaGreatDoor
open Go.Am
theorem rmay_ok {h:AH}{n:Int}{ev:AV}{es:List (Int×Int)} (he:SlE h ev es) (hl:es.length<2 ^ 40):C prg 51 [.agg [.int .i64 n,ev]] h fun r h'=>r=.bool (mayB n es)∧Ext h.next h h':=by
 have el:=he.len
 rw[List.length_map] at el
 obtain⟨ec,eo⟩:=he.cells
 refine C.func pf51 ?_
 have x0:Ext h.next h (h.new (.cells [.int .i64 n,ev] 2 false)):=Ext.new (Nat.le_refl _)
 have g0:(h.new (.cells [.int .i64 n,ev] 2 false)).get h.next=some (.cells [.int .i64 n,ev] 2 false):=by rw[AH.get_new,if_pos rfl]
 have n0:(h.new (.cells [.int .i64 n,ev] 2 false)).next=h.next+1:=rfl
 refine W.seq (W.run (by simp only[am,evOp,simprocAttr,initTm]<;>rfl) ?_)
 generalize h.new (.cells [.int .i64 n,ev] 2 false)=h0 at *
 have rn:rdCells h0 h.next 0 1=some [.int .i64 n]:=rd_at g0 rfl
 have re:rdCells h0 h.next 1 1=some [ev]:=rd_at g0 rfl
 by_cases q1:n<1
 ·have c1:decide (n<1)=true:=decide_eq_true q1
  have hB:mayB n es=false:=by
   have:decide (1≤n)=false:=decide_eq_false (by omega)
   simp only[mayB,this,Bool.false_and]
  refine W.seq (W.seq (W.run (by simp only[am,evOp,simprocAttr,initTm,rn,c1]<;>rfl) ?_))
  refine W.yes (by simp only[am,evOp,simprocAttr]) (W.seq (W.run (by simp only[am,evOp,simprocAttr]<;>rfl) ?_))
  exact W.ret ⟨.bool false,(by simp only[rs,rf51,am,evOp,simprocAttr]<;>rfl),by rw[hB],x0⟩
 have c1:decide (n<1)=false:=decide_eq_false q1
 by_cases q2:64<n
 ·have c2:decide (64<n)=true:=decide_eq_true q2
  have hB:mayB n es=false:=by
   have:decide (n≤64)=false:=decide_eq_false (by omega)
   simp only[mayB,this,Bool.and_false,Bool.false_and]
  refine W.seq (W.seq (W.run (by simp only[am,evOp,simprocAttr,initTm,rn,c1,c2]<;>rfl) ?_))
  refine W.yes (by simp only[am,evOp,simprocAttr]) (W.seq (W.run (by simp only[am,evOp,simprocAttr]<;>rfl) ?_))
  exact W.ret ⟨.bool false,(by simp only[rs,rf51,am,evOp,simprocAttr]<;>rfl),by rw[hB],x0⟩
 have c2:decide (64<n)=false:=decide_eq_false q2
 by_cases q3:128<es.length
 ·have c3:decide ((128:Int)<((es.length:Nat):Int))=true:=decide_eq_true (by omega)
  have hB:mayB n es=false:=by
   have:decide (es.length≤128)=false:=decide_eq_false (by omega)
   simp only[mayB,this,Bool.and_false,Bool.false_and]
  refine W.seq (W.seq (W.run (by simp only[am,evOp,simprocAttr,initTm,rn,re,el,c1,c2,c3]<;>rfl) ?_))
  refine W.yes (by simp only[am,evOp,simprocAttr]) (W.seq (W.run (by simp only[am,evOp,simprocAttr]<;>rfl) ?_))
  exact W.ret ⟨.bool false,(by simp only[rs,rf51,am,evOp,simprocAttr]<;>rfl),by rw[hB],x0⟩
 have c3:decide ((128:Int)<((es.length:Nat):Int))=false:=decide_eq_false (by omega)
 have hB:mayB n es=es.all (okE n):=by
  have d1:decide (1≤n)=true:=decide_eq_true (by omega)
  have d2:decide (n≤64)=true:=decide_eq_true (by omega)
  have d3:decide (es.length≤128)=true:=decide_eq_true (by omega)
  simp only[mayB,d1,d2,d3,Bool.true_and]
 refine W.seq (W.seq (W.run (by simp only[am,evOp,simprocAttr,initTm,rn,re,el,c1,c2,c3]<;>rfl) ?_))
 refine W.no (by simp only[am,evOp,simprocAttr]) (W.skip ?_)
 refine W.seq (W.seq (W.run (by simp only[am,evOp,simprocAttr]<;>rfl) ?_))
 refine W.whl (α:=Unit) (N:=es.length) (fun k _=>[(1,.ptr h.next 0),(3,.int .i64 (k:Nat))]) (fun k _ h'=>Ext (h.next+1) h0 h'∧(es.take k).all (okE n)=true) () (by simp only[held_cons,held_nil,am,evOp,↓reduceIte,Nat.reduceEqDiff,Int.reduceEq,Nat.reduceAdd,Nat.reduceLeDiff,reduceCtorEq,initTm,Int.natCast_zero]) ⟨Ext.refl,rfl⟩ ?_ ?_ ?_
 ·rintro k _ ts h1 hk ⟨jx,j1⟩ ⟨e1,e3,-⟩
  simp only at e1 e3
  have re1:rdCells h1 h.next 1 1=some [ev]:=by rw[rdCells_eq (jx.gt _ (by omega))]; exact re
  exact⟨_,(by simp only[am,evOp,↓reduceIte,Nat.reduceEqDiff,Int.reduceEq,Nat.reduceAdd,Nat.reduceLeDiff,reduceCtorEq,e1,e3,re1,el,Int.ofNat_lt]<;>rfl),by simp only[am,evOp,↓reduceIte,Nat.reduceEqDiff,Int.reduceEq,Nat.reduceAdd,Nat.reduceLeDiff,reduceCtorEq],by simp only[held_cons,held_nil,am,evOp,↓reduceIte,Nat.reduceEqDiff,Int.reduceEq,Nat.reduceAdd,Nat.reduceLeDiff,reduceCtorEq,e1,e3]⟩
 ·rintro k _ ts h1 hk ⟨jx,j1⟩ ⟨e1,e3,-⟩
  simp only at e1 e3
  have re1:rdCells h1 h.next 1 1=some [ev]:=by rw[rdCells_eq (jx.gt _ (by omega))]; exact re
  have jn:=jx.nx
  have X1:Ext h.next h h1:=x0.trans (jx.mono (by omega))
  obtain⟨b1,p1,a1,r4,_⟩:=(he.ext X1 (Nat.le_refl _)).at (map_at (f:=eE) hk)
  obtain⟨h2,w2,x2,g2,n2⟩:=mk_loc (h:=h1) (z:=[.int .i64 0,.int .i64 0]) (cs:=[.int .i64 es[k].1,.int .i64 es[k].2]) (e:=2) rfl
  refine W.seq (W.run (by simp only[am,evOp,simprocAttr,e1,e3,re1,a1,r4,eE,w2]<;>rfl) ?_)
  have ra:rdCells h2 h1.next 0 1=some [.int .i64 es[k].1]:=rd_at g2 rfl
  have rb:rdCells h2 h1.next 1 1=some [.int .i64 es[k].2]:=rd_at g2 rfl
  have rn2:rdCells h2 h.next 0 1=some [.int .i64 n]:=by rw[rdCells_eq (x2.gt _ (by omega)),rdCells_eq (jx.gt _ (by omega))]; exact rn
  have w1:=w1_ok (k:=k) (by omega)
  have Y2:Ext (h.next+1) h0 h2:=jx.trans (x2.mono (by omega))
  have X2:Ext h.next h h2:=X1.trans (x2.mono X1.nx)
  have bad:okE n es[k]=false→mayB n es=false:=fun hb=>by
   rw[hB]
   cases hh:es.all (okE n) with
   | false=>rfl
   | true=>rw[List.all_eq_true.1 hh _ (List.getElem_mem hk)] at hb; cases hb
  by_cases p1:es[k].1<0
  ·have d1:decide (es[k].1<0)=true:=decide_eq_true p1
   have hb:=bad (by have:decide (0≤es[k].1)=false:=decide_eq_false (by omega)
                    simp only[okE,this,Bool.false_and])
   refine W.seq (W.run (by simp only[am,evOp,simprocAttr,ra,d1]<;>rfl) ?_)
   refine W.yes (by simp only[am,evOp,simprocAttr]) (W.seq (W.run (by simp only[am,evOp,simprocAttr]<;>rfl) ?_))
   exact W.ret ⟨.bool false,(by simp only[rs,rf51,am,evOp,simprocAttr]<;>rfl),by rw[hb],X2⟩
  have d1:decide (es[k].1<0)=false:=decide_eq_false p1
  by_cases p2:es[k].2<0
  ·have d2:decide (es[k].2<0)=true:=decide_eq_true p2
   have hb:=bad (by have:decide (0≤es[k].2)=false:=decide_eq_false (by omega)
                    simp only[okE,this,Bool.false_and,Bool.and_false])
   refine W.seq (W.run (by simp only[am,evOp,simprocAttr,ra,rb,d1,d2]<;>rfl) ?_)
   refine W.yes (by simp only[am,evOp,simprocAttr]) (W.seq (W.run (by simp only[am,evOp,simprocAttr]<;>rfl) ?_))
   exact W.ret ⟨.bool false,(by simp only[rs,rf51,am,evOp,simprocAttr]<;>rfl),by rw[hb],X2⟩
  have d2:decide (es[k].2<0)=false:=decide_eq_false p2
  by_cases p3:n≤es[k].1
  ·have d3:decide (n≤es[k].1)=true:=decide_eq_true p3
   have hb:=bad (by have:decide (es[k].1<n)=false:=decide_eq_false (by omega)
                    simp only[okE,this,Bool.false_and,Bool.and_false])
   refine W.seq (W.run (by simp only[am,evOp,simprocAttr,ra,rb,rn2,e1,d1,d2,d3]<;>rfl) ?_)
   refine W.yes (by simp only[am,evOp,simprocAttr]) (W.seq (W.run (by simp only[am,evOp,simprocAttr]<;>rfl) ?_))
   exact W.ret ⟨.bool false,(by simp only[rs,rf51,am,evOp,simprocAttr]<;>rfl),by rw[hb],X2⟩
  have d3:decide (n≤es[k].1)=false:=decide_eq_false p3
  by_cases p4:n≤es[k].2
  ·have d4:decide (n≤es[k].2)=true:=decide_eq_true p4
   have hb:=bad (by have:decide (es[k].2<n)=false:=decide_eq_false (by omega)
                    simp only[okE,this,Bool.and_false])
   refine W.seq (W.run (by simp only[am,evOp,simprocAttr,ra,rb,rn2,e1,d1,d2,d3,d4]<;>rfl) ?_)
   refine W.yes (by simp only[am,evOp,simprocAttr]) (W.seq (W.run (by simp only[am,evOp,simprocAttr]<;>rfl) ?_))
   exact W.ret ⟨.bool false,(by simp only[rs,rf51,am,evOp,simprocAttr]<;>rfl),by rw[hb],X2⟩
  have d4:decide (n≤es[k].2)=false:=decide_eq_false p4
  refine W.seq (W.run (by simp only[am,evOp,simprocAttr,ra,rb,rn2,e1,d1,d2,d3,d4]<;>rfl) ?_)
  refine W.no (by simp only[am,evOp,↓reduceIte,Nat.reduceEqDiff,Int.reduceEq,Nat.reduceAdd,Nat.reduceLeDiff,reduceCtorEq]) (W.skip ⟨(),⟨Y2,?_⟩,_,(by simp only[am,evOp,↓reduceIte,Nat.reduceEqDiff,Int.reduceEq,Nat.reduceAdd,Nat.reduceLeDiff,reduceCtorEq,e3,w1]<;>rfl),by simp only[held_cons,held_nil,am,evOp,↓reduceIte,Nat.reduceEqDiff,Int.reduceEq,Nat.reduceAdd,Nat.reduceLeDiff,reduceCtorEq,e1]⟩)
  rw[List.take_succ_eq_append_getElem hk,List.all_append,j1]
  have f1:decide (0≤es[k].1)=true:=decide_eq_true (by omega)
  have f2:decide (0≤es[k].2)=true:=decide_eq_true (by omega)
  have f3:decide (es[k].1<n)=true:=decide_eq_true (by omega)
  have f4:decide (es[k].2<n)=true:=decide_eq_true (by omega)
  simp only[List.all_cons,List.all_nil,okE,f1,f2,f3,f4,Bool.and_self]
 ·rintro _ ts h1 ⟨jx,j1⟩ ⟨e1,e3,-⟩
  rw[List.take_length] at j1
  refine W.seq (W.run (by simp only[am,evOp,simprocAttr]<;>rfl) ?_)
  exact W.ret ⟨.bool true,(by simp only[rs,rf51,am,evOp,simprocAttr]<;>rfl),by rw[hB,j1],x0.trans (jx.mono (by have:=x0.nx; omega))⟩
end Go.Proofs.YtihedjolidbfiaaGreatDoor
