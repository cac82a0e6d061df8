/-
  What the laws compare with: SameItems, SameInts, SameEnds, Turned, Great. arborref01.Same: are two graphs one?
-/
import Derived.Test.YtihedjolidbfiaaGreatDoorYLj
set_option linter.all false
namespace Go.Proofs.YtihedjolidbfiaaGreatDoor
open Go.Am
theorem take_eq_succ {α:Type}{xs ys:List α} (hl:xs.length=ys.length) {k:Nat} (hk:k<xs.length) (h:xs.take k=ys.take k) (e:xs[k]=ys[k]'(by omega)):xs.take (k+1)=ys.take (k+1):=by
 rw[List.take_succ_eq_append_getElem hk,List.take_succ_eq_append_getElem (show k<ys.length by omega),h,e]
end Go.Proofs.YtihedjolidbfiaaGreatDoor
namespace Go.Proofs.YtihedjolidbfiaaGreatDoor
open Go.Am
theorem flat2 {a b:Int×Int}:flatEq [.i64,.i64] (eE a) (eE b)=some (decide (a=b)):=by
 obtain⟨a1,a2⟩:=a
 obtain⟨b1,b2⟩:=b
 simp only[eE,flatEq,and_self,if_true]
 by_cases h1:a1=b1
 ·subst h1
  by_cases h2:a2=b2
  ·subst h2; simp
  ·simp [h2]
 ·simp [h1]
theorem rsame_ok {h:AH}{n m:Int}{v w:AV}{xs ys:List (Int×Int)} (hv:SlE h v xs) (hw:SlE h w ys) (hxl:xs.length<2 ^ 40) (hl2:ys.length<2 ^ 40) :
 C prg 24 [.agg [.int .i64 n,v],.agg [.int .i64 m,w]] h fun r h'=>r=.bool (decide (n=m)&&decide (xs=ys))∧Ext h.next h h':=by
 have e1:=hv.len
 have e2:=hw.len
 rw[List.length_map] at e1 e2
 obtain⟨vc,vo⟩:=hv.cells
 obtain⟨wc,wo⟩:=hw.cells
 refine C.func pf24 ?_
 refine W.seq (W.run (by simp only[am,evOp,simprocAttr,initTm]<;>rfl) ?_)
 have ga:∀ c,((h.new (.cells [.int .i64 n,v] 2 false)).new (.cells [.int .i64 m,w] 2 false)).get c=if c=h.next+1 then some (.cells [.int .i64 m,w] 2 false) else if c=h.next then some (.cells [.int .i64 n,v] 2 false) else h.get c:=fun c=>by
  rw[AH.get_new,AH.get_new]
  rfl
 have x0:Ext h.next h ((h.new (.cells [.int .i64 n,v] 2 false)).new (.cells [.int .i64 m,w] 2 false)):=(Ext.new (Nat.le_refl _)).trans (Ext.new (by simp))
 generalize ((h.new (.cells [.int .i64 n,v] 2 false)).new (.cells [.int .i64 m,w] 2 false))=h1 at *
 have gA:h1.get h.next=some (.cells [.int .i64 n,v] 2 false):=by rw[ga,if_neg (by omega),if_pos rfl]
 have gB:h1.get (h.next+1)=some (.cells [.int .i64 m,w] 2 false):=by rw[ga,if_pos rfl]
 have ra0:rdCells h1 h.next 0 1=some [.int .i64 n]:=rd_at gA rfl
 have ra1:rdCells h1 h.next 1 1=some [v]:=rd_at gA rfl
 have rb0:rdCells h1 (h.next+1) 0 1=some [.int .i64 m]:=rd_at gB rfl
 have rb1:rdCells h1 (h.next+1) 1 1=some [w]:=rd_at gB rfl
 have hv1:=hv.ext x0 (Nat.le_refl _)
 have hw1:=hw.ext x0 (Nat.le_refl _)
 by_cases q0:n=m
 case neg =>
  have c0:decide (n=m)=false:=decide_eq_false q0
  refine W.seq (W.seq (W.run (by simp only[am,evOp,simprocAttr,initTm,ra0,rb0,c0]<;>rfl) ?_))
  refine W.yes (by simp only[am,evOp,simprocAttr]) (W.seq (W.run (by simp only[am,evOp,simprocAttr]<;>rfl) ?_))
  exact W.ret ⟨.bool false,(by simp only[rs,rf24,am,evOp,simprocAttr]<;>rfl),by rw[c0]; rfl,x0⟩
 have c0:decide (n=m)=true:=decide_eq_true q0
 by_cases q:xs.length=ys.length
 case neg =>
  have c1:decide (((xs.length:Nat):Int)=((ys.length:Nat):Int))=false:=decide_eq_false (by omega)
  refine W.seq (W.seq (W.run (by simp only[am,evOp,simprocAttr,initTm,ra0,rb0,ra1,rb1,e1,e2,c0,c1]<;>rfl) ?_))
  refine W.yes (by simp only[am,evOp,simprocAttr]) (W.seq (W.run (by simp only[am,evOp,simprocAttr]<;>rfl) ?_))
  exact W.ret ⟨.bool false,(by simp only[rs,rf24,am,evOp,simprocAttr]<;>rfl),by rw[decide_eq_false (p:=xs=ys) (fun e=>q (by rw[e])),Bool.and_false],x0⟩
 have hn2:((xs.length:Nat):Int)=((ys.length:Nat):Int):=by rw[q]
 have c1:decide (((xs.length:Nat):Int)=((ys.length:Nat):Int))=true:=decide_eq_true hn2
 refine W.seq (W.seq (W.run (by simp only[am,evOp,simprocAttr,initTm,ra0,rb0,ra1,rb1,e1,e2,c0,c1]<;>rfl) ?_))
 refine W.no (by simp only[am,evOp,simprocAttr]) (W.skip ?_)
 refine W.seq (W.seq (W.run (by simp only[am,evOp,simprocAttr]<;>rfl) ?_))
 refine W.whl (α:=Unit) (N:=xs.length) (fun k _=>[(2,.ptr h.next 0),(3,.ptr (h.next+1) 0),(5,.int .i64 (k:Nat))]) (fun k _ h'=>h'=h1∧xs.take k=ys.take k) () (by simp only[hl,am,evOp,simprocAttr,initTm,Int.natCast_zero]) ⟨rfl,rfl⟩ ?_ ?_ ?_
 ·rintro k _ ts h2 hk ⟨rfl,j1⟩ ⟨f2,f3,f5,-⟩
  simp only at f2 f3 f5
  exact⟨_,(by simp only[am,evOp,simprocAttr,f2,f5,ra1,e1,Int.ofNat_lt]<;>rfl),by simp only[am,evOp,simprocAttr],by simp only[hl,am,evOp,simprocAttr,f2,f3,f5]⟩
 ·rintro k _ ts h2 hk ⟨rfl,j1⟩ ⟨f2,f3,f5,-⟩
  simp only at f2 f3 f5
  obtain⟨b1,p1,a1,r1,_⟩:=hv1.at (map_at (f:=eE) hk)
  obtain⟨b2,p2,a2,r2,_⟩:=hw1.at (map_at (f:=eE) (show k<ys.length by omega))
  have w1:=w1_ok (k:=k) (by omega)
  refine W.seq (W.run (by simp only[am,evOp,simprocAttr,f2,f3,f5,ra1,rb1,a1,a2,r1,r2,flat2]<;>rfl) ?_)
  refine W.cond (t:=!decide (xs[k]=ys[k]'(by omega))) (by simp only[am,evOp,simprocAttr]) (fun p=>?_) fun p=>?_
  ·have p:¬ xs[k]=ys[k]'(by omega):=by simpa using p
   refine W.seq (W.run (by simp only[am,evOp,simprocAttr]<;>rfl) ?_)
   refine W.ret ⟨.bool false,(by simp only[rs,rf24,am,evOp,simprocAttr]<;>rfl),?_,x0⟩
   rw[decide_eq_false (p:=xs=ys),Bool.and_false]
   intro e
   subst e
   exact p rfl
  ·have p:xs[k]=ys[k]'(by omega):=by simpa using p
   exact W.skip ⟨(),⟨rfl,take_eq_succ q hk j1 p⟩,_,(by simp only[am,evOp,simprocAttr,f5,w1]<;>rfl),by simp only[hl,am,evOp,simprocAttr,f2,f3]⟩
 ·rintro _ ts h2 ⟨rfl,j1⟩ ⟨f2,f3,f5,-⟩
  rw[List.take_length,q,List.take_length] at j1
  refine W.seq (W.run (by simp only[am,evOp,simprocAttr]<;>rfl) ?_)
  exact W.ret ⟨.bool true,(by simp only[rs,rf24,am,evOp,simprocAttr]<;>rfl),by rw[c0,decide_eq_true j1]; rfl,x0⟩
end Go.Proofs.YtihedjolidbfiaaGreatDoor
