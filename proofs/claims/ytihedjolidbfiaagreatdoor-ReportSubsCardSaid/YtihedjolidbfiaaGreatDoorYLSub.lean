/-
  ReportSubs' law in the clean machine.
-/
import Derived.Test.YtihedjolidbfiaaGreatDoorYLl
import Derived.Test.YtihedjolidbfiaaGreatDoorYLm
import Derived.Test.YtihedjolidbfiaaGreatDoorYNws
import Derived.Test.YtihedjolidbfiaaGreatDoorYSq
import Derived.KernelRfl
set_option linter.all false
namespace Go.Proofs.YtihedjolidbfiaaGreatDoor
open Go.Am
theorem sqH0_eq:sqH0=AH.zero.keep 3:=by kernel_rfl
theorem great24_ok {h:AH}{n:Int}{ev iv:AV}{a b:Nat} (ec:ev.cells=[ev]) (eo:ev.one=true) (el:lenLA ev=some (.int .i64 (a:Nat))) (il:lenLA iv=some (.int .i64 (b:Nat))) :
 C prg 21 [.agg [.int .i64 n,ev],iv] h fun r h'=>r=.bool (decide (200<a)||decide (200<b))∧Ext h.next h h':=by
 refine C.func pf21 ?_
 refine W.seq (W.run (by simp only[am,evOp,simprocAttr,initTm]<;>rfl) ?_)
 have x0:Ext h.next h (h.new (.cells [.int .i64 n,ev] 2 false)):=Ext.new (Nat.le_refl _)
 have g0:(h.new (.cells [.int .i64 n,ev] 2 false)).get h.next=some (.cells [.int .i64 n,ev] 2 false):=by rw[AH.get_new,if_pos rfl]
 generalize (h.new (.cells [.int .i64 n,ev] 2 false))=h1 at *
 have r1:rdCells h1 h.next 1 1=some [ev]:=rd_at g0 rfl
 by_cases q:200<a
 ·have c1:decide ((200:Int)<((a:Nat):Int))=true:=decide_eq_true (by omega)
  refine W.seq (W.run (by simp only[am,evOp,simprocAttr,initTm,r1,el,c1]<;>rfl) ?_)
  exact W.ret ⟨.bool true,(by simp only[rs,rf21,am,evOp,simprocAttr]<;>rfl),by rw[decide_eq_true q]; rfl,x0⟩
 ·have c1:decide ((200:Int)<((a:Nat):Int))=false:=decide_eq_false (by omega)
  refine W.seq (W.run (by simp only[am,evOp,simprocAttr,initTm,r1,el,il,c1]<;>rfl) ?_)
  refine W.ret ⟨.bool (decide ((200:Int)<((b:Nat):Int))),(by simp only[rs,rf21,am,evOp,simprocAttr]<;>rfl),?_,x0⟩
  rw[decide_eq_false q,Bool.false_or]
  congr 1
  simp only[decide_eq_decide]
  omega
theorem subs_law {os:List AO}{n:Int}{ev iv:AV}{E:List (Int×Int)}{es:List Int} (hos:os.length=2) (he:SlE (news os AH.zero) ev E) (hi:SlI (news os AH.zero) iv es) :
 C prg 6 [.agg [.int .i64 n,ev],iv] (news os AH.zero) fun v _=>v=.bool true:=by
 obtain⟨ec,eo⟩:=he.cells
 have hnx:(news os AH.zero).next=10:=by rw[news_next,hos]; rfl
 refine C.func pf6 ?_
 refine W.seq (W.run (by simp only[am,evOp,simprocAttr,initTm]<;>rfl) ?_)
 have hsp:=speaks_at (f:=20) sq_good sqH0_eq (os:=os++[.cells [.int .i64 n,ev] 2 false]) (by rw[List.length_append,hos]; rfl) (by decide)
 rw[← news_one] at hsp
 have ga:∀ c,((news os AH.zero).new (.cells [.int .i64 n,ev] 2 false)).get c=if c=(news os AH.zero).next then some (.cells [.int .i64 n,ev] 2 false) else (news os AH.zero).get c:=fun c=>by
  rw[AH.get_new]
 have hk0:∀ b o,(news os AH.zero).get b=some o→((news os AH.zero).new (.cells [.int .i64 n,ev] 2 false)).get b=some o:=fun b o hb=>by
  have:=AH.lt_of_get hb
  rw[ga,if_neg (by omega)]
  exact hb
 generalize ((news os AH.zero).new (.cells [.int .i64 n,ev] 2 false))=h1 at *
 have gG:h1.get (news os AH.zero).next=some (.cells [.int .i64 n,ev] 2 false):=by rw[ga,if_pos rfl]
 generalize (news os AH.zero).next=nx at *
 subst hnx
 refine W.seq (W.seq (W.reg (G.callq (by simp only[am,evOp,simprocAttr]) (by simp only[am,evOp,simprocAttr]<;>rfl) (hsp) fun r h2 hq=>?_)))
 obtain⟨rfl,hn2,hk2⟩:=hq
 refine G.run (by simp only[am,evOp,simprocAttr]<;>rfl) ?_
 refine W.no (by simp only[am,evOp,simprocAttr]) (W.skip ?_)
 have hk02:∀ b o,(news os AH.zero).get b=some o→h2.get b=some o:=fun b o hb=>hk2 b o (hk0 b o hb)
 have he2:SlE h2 ev E:=Sl.stay hk02 he
 have hi2:SlI h2 iv es:=Sl.stay hk02 hi
 have el:=he2.len
 have il_:=hi2.len
 rw[List.length_map] at el il_
 have gG2:=hk2 _ _ gG
 have rG:rdCells h2 10 0 2=some [.int .i64 n,ev]:=by rw[rdCells_of gG2]; rfl
 refine W.seq (W.seq (W.reg (G.gcall 2 (by simp only[am,evOp,simprocAttr,initTm,rG]<;>rfl) rfl (by simp only[am,evOp,simprocAttr,initTm,rG]) (by simp only[am,evOp,simprocAttr,initTm,rG]<;>rfl) (great24_ok ec eo el il_) fun r h3 hq=>?_)))
 obtain⟨rfl,x3⟩:=hq
 refine G.run (by simp only[am,evOp,simprocAttr]<;>rfl) ?_
 refine W.cond (t:=decide (200<E.length)||decide (200<es.length)) (by simp only[am,evOp,simprocAttr]) (fun q=>W.seq (W.run (by simp only[am,evOp,simprocAttr]<;>rfl) ?_)) fun q=>?_
 ·exact W.ret ⟨.bool true,(by simp only[rs,rf6,am,evOp,simprocAttr]<;>rfl),rfl⟩
 rw[Bool.or_eq_false_iff] at q
 have q1:=of_decide_eq_false q.1
 have q2:=of_decide_eq_false q.2
 refine W.skip ?_
 have n3:=x3.nx
 have he3:=he2.ext x3 (Nat.le_refl _)
 have hi3:=hi2.ext x3 (Nat.le_refl _)
 have gG3:h3.get 10=some (.cells [.int .i64 n,ev] 2 false):=by rw[x3.gt _ (by omega)]; exact gG2
 have rG3:rdCells h3 10 0 2=some [.int .i64 n,ev]:=by rw[rdCells_of gG3]; rfl
 refine W.seq (W.reg (G.gcall 2 (by simp only[am,evOp,simprocAttr,initTm,rG3]<;>rfl) rfl (by simp only[am,evOp,simprocAttr,initTm,rG3]) (by simp only[am,evOp,simprocAttr,initTm,rG3]<;>rfl) (sub_ok (n:=n) he3 hi3 (by omega) (by omega)) fun r h4 hq=>?_))
 obtain⟨x4,hbad,hgood⟩:=hq
 have n4:=x4.nx
 have he4:=he3.ext x4 (Nat.le_refl _)
 have hi4:=hi3.ext x4 (Nat.le_refl _)
 have gG4:h4.get 10=some (.cells [.int .i64 n,ev] 2 false):=by rw[x4.gt _ (by omega)]; exact gG3
 by_cases ok:okSub n E es
 ·obtain⟨v,rfl,sv⟩:=hgood ok
  obtain⟨vc,vo⟩:=sv.cells
  obtain⟨h5,w5,x5,g5,n5⟩:=mk_loc (h:=h4) (z:=[.int .i64 0,.nils]) (cs:=[.int .i64 ((vsM n.toNat E es).length:Nat),v]) (e:=2) rfl
  refine G.run (by simp only[am,evOp,simprocAttr,vo,w5]<;>rfl) ?_
  have X5:=x4.trans (x5.mono n4)
  have he5:=he4.ext x5 (Nat.le_refl _)
  have hi5:=hi4.ext x5 (Nat.le_refl _)
  have sv5:=sv.ext x5 (Nat.le_refl _)
  have rG5:rdCells h5 10 0 2=some [.int .i64 n,ev]:=by rw[rdCells_of (by rw[x5.gt _ (by omega)]; exact gG4)]; rfl
  refine W.seq (W.reg (G.gcall 2 (by simp only[am,evOp,simprocAttr,initTm,rG5]<;>rfl) rfl (by simp only[am,evOp,simprocAttr,initTm,rG5]) (by simp only[am,evOp,simprocAttr,initTm,rG5]<;>rfl) (rsub_ok (n:=n) he5 hi5 (by omega) (by omega)) fun r h6 hq=>?_))
  obtain⟨x6,_,hgood6⟩:=hq
  obtain⟨w,rfl,sw⟩:=hgood6 ok
  obtain⟨wc,wo⟩:=sw.cells
  have n6:=x6.nx
  obtain⟨h7,w7,x7,g7,n7⟩:=mk_loc (h:=h6) (z:=[.int .i64 0,.nils]) (cs:=[.int .i64 ((vsM n.toNat E es).length:Nat),w]) (e:=2) rfl
  refine G.run (by simp only[am,evOp,simprocAttr,wo,w7]<;>rfl) ?_
  have X7:=x6.trans (x7.mono n6)
  have sv7:=sv5.ext X7 (Nat.le_refl _)
  have sw7:=sw.ext x7 (Nat.le_refl _)
  have r57:rdCells h7 h4.next 0 2=some [.int .i64 ((vsM n.toNat E es).length:Nat),v]:=by rw[rdCells_of (by rw[X7.gt _ (by omega)]; exact g5)]; rfl
  have r77:rdCells h7 h6.next 0 2=some [.int .i64 ((vsM n.toNat E es).length:Nat),w]:=by rw[rdCells_of g7]; rfl
  refine W.seq (W.seq (W.run (by simp only[am,evOp,simprocAttr]<;>rfl) ?_))
  refine W.no (by simp only[am,evOp,simprocAttr]) (W.skip ?_)
  have hsl:(subM n.toNat E es).length≤200:=by unfold subM; rw[List.length_map]; omega
  refine W.seq (W.reg (G.gcall 5 (by simp only[am,evOp,simprocAttr,decide_true,r57,r77]<;>rfl) rfl (by simp only[am,evOp,simprocAttr,decide_true,r57,r77]) (by simp only[am,evOp,simprocAttr,decide_true,r57,r77]<;>rfl) (rsame_ok sv7 sw7 (by omega) (by omega)) fun r h8 hq=>?_))
  obtain⟨rfl,x8⟩:=hq
  rw[decide_eq_true (rfl:(((vsM n.toNat E es).length:Nat):Int)=_),decide_eq_true (rfl:subM n.toNat E es=_)]
  refine G.run (by simp only[am,evOp,simprocAttr]<;>rfl) ?_
  exact W.ret ⟨.bool true,(by simp only[rs,rf6,am,evOp,simprocAttr]<;>rfl),rfl⟩
 ·have:=hbad ok
  subst this
  obtain⟨h5,w5,x5,g5,n5⟩:=mk_loc (h:=h4) (z:=[.int .i64 0,.nils]) (cs:=[.int .i64 0,.nils]) (e:=2) rfl
  refine G.run (by simp only[am,evOp,simprocAttr,w5]<;>rfl) ?_
  have X5:=x4.trans (x5.mono n4)
  have he5:=he4.ext x5 (Nat.le_refl _)
  have hi5:=hi4.ext x5 (Nat.le_refl _)
  have rG5:rdCells h5 10 0 2=some [.int .i64 n,ev]:=by rw[rdCells_of (by rw[x5.gt _ (by omega)]; exact gG4)]; rfl
  refine W.seq (W.reg (G.gcall 2 (by simp only[am,evOp,simprocAttr,initTm,rG5]<;>rfl) rfl (by simp only[am,evOp,simprocAttr,initTm,rG5]) (by simp only[am,evOp,simprocAttr,initTm,rG5]<;>rfl) (rsub_ok (n:=n) he5 hi5 (by omega) (by omega)) fun r h6 hq=>?_))
  obtain⟨x6,hbad6,_⟩:=hq
  obtain⟨w,rfl,rfl⟩:=hbad6 ok
  have n6:=x6.nx
  obtain⟨h7,w7,x7,g7,n7⟩:=mk_loc (h:=h6) (z:=[.int .i64 0,.nils]) (cs:=[.int .i64 0,.nils]) (e:=2) rfl
  refine G.run (by simp only[am,evOp,simprocAttr,w7]<;>rfl) ?_
  have X7:=x6.trans (x7.mono n6)
  have r57:rdCells h7 h4.next 0 2=some [.int .i64 0,.nils]:=by rw[rdCells_of (by rw[X7.gt _ (by omega)]; exact g5)]; rfl
  refine W.seq (W.seq (W.run (by simp only[am,evOp,simprocAttr]<;>rfl) ?_))
  have sn:∀ h:AH,SlE h .nils []:=fun h=>.inl ⟨rfl,.inl rfl⟩
  refine W.yes (by simp only[am,evOp,simprocAttr]) (W.seq (W.reg (G.gcall 5 (by simp only[am,evOp,simprocAttr,decide_true,r57]<;>rfl) rfl (by simp only[am,evOp,simprocAttr,decide_true,r57]) (by simp only[am,evOp,simprocAttr,decide_true,r57]<;>rfl) (rsame_ok (n:=0) (m:=0) (sn h7) (sn h7) (by simp) (by simp)) fun r h8 hq=>?_)))
  obtain⟨rfl,x8⟩:=hq
  refine G.run (by simp only[am,evOp,simprocAttr,decide_true]<;>rfl) ?_
  exact W.ret ⟨.bool true,(by simp only[rs,rf6,am,evOp,simprocAttr,decide_true]<;>rfl),rfl⟩
end Go.Proofs.YtihedjolidbfiaaGreatDoor
