/-
  planar.Plain, arborref07.Plain: a graph without loops, no two of whose edges are alike.
-/
import Derived.Test.YtpeemonpdlifbaaQTAK
import Derived.Test.YtpeemonpdlifbaaQTAX
import Derived.Test.YtpeemonpdlifbaaQTAD
import Derived.Test.YtpeemonpdlifbaaQTAE
import Derived.Test.YtpeemonpdlifbaaQTAV
set_option linter.all false
namespace Go.Proofs.Ytpeemonpdlifbaa
open Go.Am
open Go.Spl (addG addAllG_len addAllG_mem addAllG_nodup)
def mnI (a b:Int):Int:=if b<a then b else a
def mxI (a b:Int):Int:=if b>a then b else a
def mnx (e:Int×Int):Int×Int:=(mnI e.1 e.2,mxI e.1 e.2)
theorem mx_two {k:IntKind}{a b:Int}:foldA mxA [.int k a,.int k b]=some (.int k (if b>a then b else a)):=by
 simp [foldA,mxA]
theorem mnx_iff {a b:Int×Int}:mnx a=mnx b↔a=b∨(a.1=b.2∧a.2=b.1):=by
 obtain⟨a1,a2⟩:=a
 obtain⟨b1,b2⟩:=b
 simp only[mnx,mnI,mxI,Prod.mk.injEq]
 constructor
 ·rintro⟨h1,h2⟩
  split at h1<;>split at h1<;>split at h2<;>split at h2<;>omega
 ·rintro (⟨rfl,rfl⟩|⟨rfl,rfl⟩)
  ·exact⟨rfl,rfl⟩
  ·constructor<;>split<;>split<;>omega
def PlainP (n:Int) (E:List (Int×Int)):Prop:=mayB n E=true∧(∀ e∈E,e.1≠e.2)∧(E.map mnx).Nodup
set_option maxHeartbeats 1000000 in
theorem pplain_ok {h:AH}{n:Int}{ev:AV}{E:List (Int×Int)} (he:SlE h ev E) (hxl:E.length<2 ^ 40):C prg 9 [.agg [.int .i64 n,ev]] h fun r h'=>∃ b,r=.bool b∧(b=true↔PlainP n E)∧Ext h.next h h':=by
 obtain⟨ec,eo⟩:=he.cells
 have el:=he.len
 rw[List.length_map] at el
 refine C.func pf9 ?_
 refine W.seq (W.run (by simp only[am,evOp,simprocAttr,initTm]<;>rfl) ?_)
 have x0:Ext h.next h (h.new (.cells [.int .i64 n,ev] 2 false)):=Ext.new (Nat.le_refl _)
 have g0:(h.new (.cells [.int .i64 n,ev] 2 false)).get h.next=some (.cells [.int .i64 n,ev] 2 false):=by rw[AH.get_new,if_pos rfl]
 have n0:(h.new (.cells [.int .i64 n,ev] 2 false)).next=h.next+1:=rfl
 generalize (h.new (.cells [.int .i64 n,ev] 2 false))=h1 at *
 have rA:rdCells h1 h.next 0 2=some [.int .i64 n,ev]:=by rw[rdCells_of g0]; rfl
 refine W.seq (W.seq (W.reg (G.gcall 1 (by simp only[am,evOp,simprocAttr,initTm,rA]<;>rfl) rfl (by simp only[am,evOp,simprocAttr,initTm,rA]) (by simp only[am,evOp,simprocAttr,initTm,rA]<;>rfl) (gmay_ok (n:=n) (he.ext x0 (Nat.le_refl _)) hxl) fun r h2 hq=>?_)))
 obtain⟨rfl,x2⟩:=hq
 have X2:Ext h.next h h2:=x0.trans (x2.mono (by omega))
 refine G.run (by simp only[am,evOp,simprocAttr]<;>rfl) ?_
 cases hm:mayB n E with
 | false =>
   refine W.yes (by simp only[am,evOp,simprocAttr]) (W.seq (W.run (by simp only[am,evOp,simprocAttr]<;>rfl) ?_))
   exact W.ret ⟨.bool false,(by simp only[rs,rf9,am,evOp,simprocAttr]<;>rfl),false,rfl,⟨(fun q=>by cases q),fun q=>by rw[q.1] at hm; cases hm⟩,X2⟩
 | true =>
 refine W.no (by simp only[am,evOp,simprocAttr]) (W.skip ?_)
 have n2:=x2.nx
 have g2:h2.get h.next=some (.cells [.int .i64 n,ev] 2 false):=by rw[x2.gt _ (by omega)]; exact g0
 have rE:rdCells h2 h.next 1 1=some [ev]:=rd_at g2 rfl
 have x3:Ext h2.next h2 (h2.new (.mapo [] 0)):=Ext.new (Nat.le_refl _)
 have g3:(h2.new (.mapo [] 0)).get h2.next=some (.mapo [] 0):=by rw[AH.get_new,if_pos rfl]
 have n3:(h2.new (.mapo [] 0)).next=h2.next+1:=rfl
 refine W.seq (W.run (by simp only[am,evOp,simprocAttr]<;>rfl) ?_)
 generalize (h2.new (.mapo [] 0))=h3 at *
 have rE3:rdCells h3 h.next 1 1=some [ev]:=by rw[rdCells_eq (x3.gt _ (by omega))]; exact rE
 have X3:Ext h.next h h3:=X2.trans (x3.mono (by omega))
 refine W.seq (W.seq (W.run (by simp only[am,evOp,simprocAttr,initTm,rE3,el]<;>rfl) ?_))
 refine W.rng (α:=List ((Int×Int)×AV)) (N:=E.length) (fun _ _=>[(1,.ptr h.next 0),(3,.mp h2.next),(11,ev)])
  (fun k l h'=>MapG (fun k:Int×Int=>AV.agg [.int .i64 k.1,.int .i64 k.2]) h' h2.next l∧l.map (·.1)=((E.take k).map mnx).foldl addG []∧(∀ p∈l,∃ z,p.2=.int .i64 z)∧(∀ i (hi:i<E.length),i<k→E[i].1≠E[i].2)∧h'.get h.next=some (.cells [.int .i64 n,ev] 2 false)∧Ext h.next h h'∧h3.next≤h'.next) [] (fun _ _=>rfl) (by omega) (by simp only[hl,am,evOp,simprocAttr,initTm])
  ⟨MapG.nil g3,rfl,(fun p hp=>by cases hp),(fun i hi q=>absurd q (Nat.not_lt_zero _)),by rw[x3.gt _ (by omega)]; exact g2,X3,Nat.le_refl _⟩ ?_ ?_
 ·rintro k l ts h4 hk ⟨j1,j2,j3,j4,j5,j6,j7⟩ ⟨ei,en,e1,e3,e11,-⟩
  simp only at ei en e1 e3 e11
  obtain⟨b1,p1,a1,r1,_⟩:=(he.ext j6 (Nat.le_refl _)).at (map_at (f:=eE) hk)
  have hst:(((E.take (k+1)).map mnx).foldl addG [])=addG (((E.take k).map mnx).foldl addG []) (mnx E[k]):=by
   rw[List.take_succ_eq_append_getElem hk,List.map_append,List.foldl_append]; rfl
  have hEk:E[k]∈E:=List.getElem_mem hk
  have hj4:E[k].1≠E[k].2→∀ i (hi:i<E.length),i<k+1→E[i].1≠E[i].2:=fun q i hi hik=>by
   by_cases e:i=k
   ·subst e; exact q
   ·exact j4 i hi (by omega)
  generalize E[k]=e at *
  obtain⟨a,b⟩:=e
  have r1:rdCells h4 b1 p1 2=some [.int .i64 a,.int .i64 b]:=r1
  obtain⟨h5,w5,x5,g5,n5⟩:=mk_loc (h:=h4) (z:=[.int .i64 0,.int .i64 0]) (cs:=[.int .i64 a,.int .i64 b]) (e:=2) rfl
  refine W.block (W.seq (W.run (by simp only[am,evOp,simprocAttr,e11,ei,a1,r1,w5]<;>rfl) ?_))
  have ra:rdCells h5 h4.next 0 1=some [.int .i64 a]:=rd_at g5 rfl
  have rb:rdCells h5 h4.next 1 1=some [.int .i64 b]:=rd_at g5 rfl
  have m5:=j1.cong (x5.gt _ j1.lt)
  have hlk:∃ z,(lkG l (mnx (a,b))).getD (AV.int .i64 0)=.int .i64 z:=by
   cases q:lkG l (mnx (a,b)) with
   | none=>exact⟨0,rfl⟩
   | some v =>
     obtain⟨z,hz⟩:=j3 _ (mem_lkG q)
     exact⟨z,hz⟩
  obtain⟨z,hz⟩:=hlk
  have lk:=m5.look keyP (.int .i64 0) (mnx (a,b))
  obtain⟨h6,sn,m6,⟨o6,u6⟩,lk6,hm6⟩:=m5.men keyP (.int .i64 0) (mnx (a,b))
  rw[hz] at lk m6 lk6
  obtain⟨h7,s7,m7,o7,u7⟩:=hm6 (.int .i64 (IntKind.i64.wrap (z+1)))
  have lk:mlkA h5 (.flat [.i64,.i64]) false (.int .i64 0) (.mp h2.next) (.agg [.int .i64 (if b<a then b else a),.int .i64 (if b>a then b else a)])=some (.int .i64 z):=lk
  have m6:menA h5 (.flat [.i64,.i64]) (.int .i64 0) (.mp h2.next) (.agg [.int .i64 (if b<a then b else a),.int .i64 (if b>a then b else a)])=some (.tup [.int .i64 z,.int .i64 ((sn:Nat):Int)],h6):=m6
  have lk6:mlkA h6 (.flat [.i64,.i64]) false (.int .i64 0) (.mp h2.next) (.agg [.int .i64 (if b<a then b else a),.int .i64 (if b>a then b else a)])=some (.int .i64 z):=lk6
  refine W.seq (W.run (by simp only[am,evOp,simprocAttr,e3,ra,rb,mn_two,mx_two,lk,m6,lk6,s7]<;>rfl) ?_)
  have hmb:=j1.lt
  have ra7:rdCells h7 h4.next 0 1=some [.int .i64 a]:=by rw[rdCells_eq (u7.ne (by omega)),rdCells_eq (u6.ne (by omega))]; exact ra
  have rb7:rdCells h7 h4.next 1 1=some [.int .i64 b]:=by rw[rdCells_eq (u7.ne (by omega)),rdCells_eq (u6.ne (by omega))]; exact rb
  have X7:Ext h.next h h7:=((j6.trans (x5.mono (by have:=j6.nx; omega))).trans (u6.ext (by omega))).trans (u7.ext (by omega))
  by_cases q:a=b
  ·have c1:decide (a=b)=true:=decide_eq_true q
   refine W.seq (W.run (by simp only[am,evOp,simprocAttr,ra7,rb7,c1]<;>rfl) ?_)
   refine W.yes (by simp only[am,evOp,simprocAttr]) (W.seq (W.run (by simp only[am,evOp,simprocAttr]<;>rfl) ?_))
   exact W.ret ⟨.bool false,(by simp only[rs,rf9,am,evOp,simprocAttr]<;>rfl),false,rfl,⟨(fun q=>by cases q),fun p=>absurd q (p.2.1 _ hEk)⟩,X7⟩
  ·have c1:decide (a=b)=false:=decide_eq_false q
   refine W.seq (W.run (by simp only[am,evOp,simprocAttr,ra7,rb7,c1]<;>rfl) ?_)
   refine W.no (by simp only[am,evOp,simprocAttr]) (W.skip ?_)
   refine⟨upG l (mnx (a,b)) (.int .i64 (IntKind.i64.wrap (z+1))),⟨m7,?_,fun p hp=>?_,hj4 q,?_,X7,?_⟩,by simp only[hl,am,evOp,simprocAttr,ei,en,e1,e3,e11]⟩
   ·rw[upG_keys,hst,← j2]
    rfl
   ·have hn:=m7.nod
    have hl:=lkG_mem hn p hp
    rw[lkG_up] at hl
    split at hl
    ·injection hl with hl; exact⟨_,hl.symm⟩
    ·exact j3 _ (mem_lkG hl)
   ·have:=AH.lt_of_get j5
    rw[u7.ne (by omega),u6.ne (by omega),x5.gt _ this]
    exact j5
   ·rw[u7.nx,u6.nx,n5]; omega
 ·rintro l ts h4 ⟨j1,j2,j3,j4,j5,j6,j7⟩ ⟨e1,e3,e11,-⟩
  simp only at e1 e3 e11
  have rE4:rdCells h4 h.next 1 1=some [ev]:=rd_at j5 rfl
  have ml:=j1.len
  refine W.seq (W.run (by simp only[am,evOp,simprocAttr,e1,e3,ml,rE4,el]<;>rfl) ?_)
  refine W.ret ⟨.bool (decide (((l.length:Nat):Int)=((E.length:Nat):Int))),(by simp only[rs,rf9,am,evOp,simprocAttr]<;>rfl),_,rfl,?_,j6⟩
  have hl:=congrArg List.length j2
  rw[List.length_map,List.take_length] at hl
  have hk:=(addAllG_len (E.map mnx) []).2
  rw[← hl,List.length_map,List.length_nil,Nat.zero_add] at hk
  rw[decide_eq_true_eq]
  have:(((l.length:Nat):Int)=((E.length:Nat):Int))↔l.length=E.length:=by omega
  rw[this,hk]
  constructor
  ·rintro⟨q,_⟩
   exact⟨hm,fun e he=>by
    obtain⟨i,hi,rfl⟩:=List.getElem_of_mem he
    exact j4 i hi hi,q⟩
  ·exact fun q=>⟨q.2.2,fun x _ hx=>by cases hx⟩
end Go.Proofs.Ytpeemonpdlifbaa
