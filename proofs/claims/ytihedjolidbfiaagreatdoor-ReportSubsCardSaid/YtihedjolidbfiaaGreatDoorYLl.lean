/-
  report.Sub: the graph of some edges. arborref24.Sub: the graph of some edges, by definition.
-/
import Derived.Test.YtihedjolidbfiaaGreatDoorYLk
import Derived.Test.YtihedjolidbfiaaGreatDoorYLh
set_option linter.all false
namespace Go.Proofs.YtihedjolidbfiaaGreatDoor
open Go.Am
instance someDec (E:List (Int×Int)) (es:List Int):Decidable (SomeP E es):=by unfold SomeP; infer_instance
def okSub (n:Int) (E:List (Int×Int)) (es:List Int):Prop:=mayB n E=true∧es≠[]∧SomeP E es
theorem any_take {es:List Int}{k:Nat} (hk:k<es.length):((es.take k).any (es[k]==·))=decide (es[k]∈es.take k):=by
 rw[Bool.eq_iff_iff,List.any_eq_true,decide_eq_true_eq]
 constructor
 ·rintro⟨x,h1,h2⟩
  have:=eq_of_beq h2
  rwa [this]
 ·exact fun h=>⟨_,h,by simp⟩
theorem some_step {E:List (Int×Int)}{es:List Int}{k:Nat} (hk:k<es.length):SomeP E (es.take (k+1))↔SomeP E (es.take k)∧(0≤es[k]∧es[k]<(E.length:Nat))∧es[k]∉es.take k:=by
 unfold SomeP
 rw[List.take_succ_eq_append_getElem hk,List.nodup_append]
 constructor
 ·rintro⟨h1,h2,h3,h4⟩
  exact⟨⟨fun i hi=>h1 i (List.mem_append_left _ hi),h2⟩,h1 _ (List.mem_append_right _ (List.mem_cons_self ..)),fun hm=>h4 _ hm _ (List.mem_cons_self ..) rfl⟩
 ·rintro⟨⟨h1,h2⟩,h3,h4⟩
  refine⟨fun i hi=>?_,h2,by simp,fun a ha b hb e=>?_⟩
  ·rcases List.mem_append.1 hi with hi|hi
   ·exact h1 i hi
   ·simp only[List.mem_cons,List.not_mem_nil,or_false] at hi
    rw[hi]; exact h3
  ·simp only[List.mem_cons,List.not_mem_nil,or_false] at hb
   subst hb
   exact h4 (e▸ha)
theorem some_take {E:List (Int×Int)}{es:List Int}{k:Nat} (h:SomeP E es):SomeP E (es.take k) :=
 ⟨fun i hi=>h.1 i (List.mem_of_mem_take hi),h.2.sublist (List.take_sublist ..)⟩
theorem ends_step {E:List (Int×Int)}{es:List Int}{k:Nat} (hk:k<es.length):endsS E (es.take (k+1))=endsS E (es.take k)++[(edM E es[k]).1,(edM E es[k]).2]:=by
 unfold endsS
 rw[List.take_succ_eq_append_getElem hk,List.flatMap_append]
 rfl
theorem ends_len (E:List (Int×Int)):∀ es:List Int,(endsS E es).length=2*es.length
 | []=>rfl
 | i::r=>by
   have:=ends_len E r
   unfold endsS at *
   rw[List.flatMap_cons,List.length_append,this]
   simp only[List.length_cons,List.length_nil]
   omega
theorem sub_step {n:Nat}{E:List (Int×Int)}{es F:List Int}{k:Nat} (hk:k<es.length):((es.take (k+1)).map fun i=>(((rankM n E F (edM E i).1:Nat):Int),((rankM n E F (edM E i).2:Nat):Int)))=((es.take k).map fun i=>(((rankM n E F (edM E i).1:Nat):Int),((rankM n E F (edM E i).2:Nat):Int)))++[(((rankM n E F (edM E es[k]).1:Nat):Int),((rankM n E F (edM E es[k]).2:Nat):Int))]:=by
 rw[List.take_succ_eq_append_getElem hk,List.map_append]
 rfl
theorem ed_at {E:List (Int×Int)}{i:Int}{m:Nat} (hm:i=(m:Nat)) (h:m<E.length):edM E i=E[m]:=by
 subst hm
 unfold edM
 rw[Int.toNat_natCast,List.getD_eq_getElem?_getD,List.getElem?_eq_getElem h]
 rfl
theorem blk_pre {h:AH}{b c m:Nat}{cs:List AV}{d:Array Int} (hg:h.get b=some (blkI cs 0 d)) (hr:0+d.size≤cs.length) (hm:m≤d.size) (hc:m≤c):SlI h (.sl b 0 m c) (d.toList.take m):=by
 have hr':0+(ints d).length≤cs.length:=by rw[ints_len]; exact hr
 have hl:=splice_len hr'
 have hlt:(d.toList.take m).length=m:=by rw[List.length_take,Array.length_toList]; omega
 refine .inr ⟨b,0,c,_,false,by rw[List.length_map,hlt],hg,by rw[List.length_map,hlt]; exact hc,by rw[List.length_map,hl,hlt]; omega,fun i x hi=>?_⟩
 rw[List.getElem?_map] at hi
 obtain⟨y,hy,rfl⟩:=Option.map_eq_some_iff.1 hi
 have him:i<m:=by have:=(List.getElem?_eq_some_iff.1 hy).1; omega
 rw[List.getElem?_take,if_pos him] at hy
 have hk:(splice cs 0 (ints d))[0+i]?=some (.int .i64 y):=by
  rw[splice_at hr',if_pos ⟨by omega,by rw[ints_len]; omega⟩,show 0+i-0=i by omega]
  unfold ints
  rw[List.getElem?_map,hy]
  rfl
 obtain⟨hlt2,hk2⟩:=List.getElem?_eq_some_iff.1 hk
 refine⟨by omega,?_⟩
 rw[Nat.mul_one,List.drop_eq_getElem_cons hlt2,hk2]
 rfl
set_option maxHeartbeats 1000000 in
theorem sub_ok {h:AH}{n:Int}{ev iv:AV}{E:List (Int×Int)}{es:List Int} (he:SlE h ev E) (hi:SlI h iv es) (hxl:E.length<2 ^ 30) (hil:es.length<2 ^ 30) :
 C prg 22 [.agg [.int .i64 n,ev],iv] h fun r h'=>Ext h.next h h'∧(¬ okSub n E es→r=.tup [.agg [.int .i64 0,.nils],.int .i64 1]) ∧
   (okSub n E es→∃ v,r=.tup [.agg [.int .i64 ((vsM n.toNat E es).length:Nat),v],.int .i64 0]∧SlE h' v (subM n.toNat E es)):=by
 have el:=he.len
 have il:=hi.len
 rw[List.length_map] at el il
 obtain⟨ec,eo⟩:=he.cells
 obtain⟨ic,io⟩:=hi.cells
 refine C.func pf22 ?_
 refine W.seq (W.run (by simp only[am,evOp,simprocAttr,initTm]<;>rfl) ?_)
 have ga:∀ c,((h.new (.cells [.int .i64 n,ev] 2 false)).new (.cells [.int .i64 0,.nils] 2 false)).get c=if c=h.next+1 then some (.cells [.int .i64 0,.nils] 2 false) else if c=h.next then some (.cells [.int .i64 n,ev] 2 false) else h.get c:=fun c=>by
  rw[AH.get_new,AH.get_new]
  rfl
 have x0:Ext h.next h ((h.new (.cells [.int .i64 n,ev] 2 false)).new (.cells [.int .i64 0,.nils] 2 false)):=(Ext.new (Nat.le_refl _)).trans (Ext.new (by simp))
 have n0:((h.new (.cells [.int .i64 n,ev] 2 false)).new (.cells [.int .i64 0,.nils] 2 false)).next=h.next+2:=rfl
 generalize ((h.new (.cells [.int .i64 n,ev] 2 false)).new (.cells [.int .i64 0,.nils] 2 false))=h1 at *
 have gA:h1.get h.next=some (.cells [.int .i64 n,ev] 2 false):=by rw[ga,if_neg (by omega),if_pos rfl]
 have gB:h1.get (h.next+1)=some (.cells [.int .i64 0,.nils] 2 false):=by rw[ga,if_pos rfl]
 have he1:=he.ext x0 (Nat.le_refl _)
 have hi1:=hi.ext x0 (Nat.le_refl _)
 have rA:rdCells h1 h.next 0 2=some [.int .i64 n,ev]:=by rw[rdCells_of gA]; rfl
 refine W.seq (W.seq (W.reg (G.gcall 1 (by simp only[am,evOp,simprocAttr,initTm,rA]<;>rfl) rfl (by simp only[am,evOp,simprocAttr,initTm,rA]) (by simp only[am,evOp,simprocAttr,initTm,rA]<;>rfl) (gmay_ok (n:=n) he1 (by omega)) fun r h2 hq=>?_)))
 obtain⟨rfl,x2⟩:=hq
 have X2:Ext h.next h h2:=x0.trans (x2.mono (by omega))
 have n2:=x2.nx
 have gA2:h2.get h.next=some (.cells [.int .i64 n,ev] 2 false):=by rw[x2.gt _ (by omega)]; exact gA
 have gB2:h2.get (h.next+1)=some (.cells [.int .i64 0,.nils] 2 false):=by rw[x2.gt _ (by omega)]; exact gB
 have rA2:rdCells h2 h.next 1 1=some [ev]:=rd_at gA2 rfl
 have he2:=he1.ext x2 (Nat.le_refl _)
 have hi2:=hi1.ext x2 (Nat.le_refl _)
 have bad:∀ {h':AH},Ext h2.next h2 h'→∃ h3,wrCells h' (h.next+1) 0 [.int .i64 0,.nils]=some h3∧rdCells h3 (h.next+1) 0 2=some [.int .i64 0,.nils]∧Ext h.next h h3:=fun {h'} hx=>by
  have g:h'.get (h.next+1)=some (.cells [.int .i64 0,.nils] 2 false):=by rw[hx.gt _ (by omega)]; exact gB2
  refine⟨h'.put (h.next+1) (.cells [.int .i64 0,.nils] 2 false),by rw[wrCells_of g]; rfl,by rw[rdCells_of (Upd.put g).get]; rfl,X2.trans ((hx.mono (by omega)).trans (Ext.put (by omega)))⟩
 cases qm:mayB n E with
 | false =>
   refine G.run (by simp only[am,evOp,simprocAttr]<;>rfl) ?_
   obtain⟨h3,b1,b2,b3⟩:=bad Ext.refl
   refine W.yes (by simp only[am,evOp,simprocAttr]) (W.seq (W.run (by simp only[am,evOp,simprocAttr,initTm,b1]<;>rfl) ?_))
   exact W.ret ⟨.tup [.agg [.int .i64 0,.nils],.int .i64 1],(by simp only[rs,rf22,am,evOp,simprocAttr,initTm,b2]<;>rfl),b3,fun _=>rfl,fun q=>by have:=q.1; rw[qm] at this; cases this⟩
 | true =>
 have hm:=qm
 unfold mayB at hm
 simp only[Bool.and_eq_true,decide_eq_true_eq] at hm
 obtain⟨⟨⟨m1,m2⟩,m3⟩,m4⟩:=hm
 by_cases q1:es=[]
 ·subst q1
  simp only[List.length_nil] at il
  refine G.run (by simp only[am,evOp,simprocAttr,initTm,il,Int.natCast_zero,decide_true]<;>rfl) ?_
  obtain⟨h3,b1,b2,b3⟩:=bad Ext.refl
  refine W.yes (by simp only[am,evOp,simprocAttr]) (W.seq (W.run (by simp only[am,evOp,simprocAttr,initTm,b1]<;>rfl) ?_))
  exact W.ret ⟨.tup [.agg [.int .i64 0,.nils],.int .i64 1],(by simp only[rs,rf22,am,evOp,simprocAttr,initTm,b2]<;>rfl),b3,fun _=>rfl,fun q=>absurd rfl q.2.1⟩
 have q1':decide (((es.length:Nat):Int)=0)=false:=decide_eq_false (fun e=>q1 (List.length_eq_zero_iff.1 (by omega)))
 by_cases q2:E.length<es.length
 ·have q2':decide (((E.length:Nat):Int)<((es.length:Nat):Int))=true:=decide_eq_true (by omega)
  refine G.run (by simp only[am,evOp,simprocAttr,initTm,il,el,rA2,q1',q2']<;>rfl) ?_
  obtain⟨h3,b1,b2,b3⟩:=bad Ext.refl
  refine W.yes (by simp only[am,evOp,simprocAttr]) (W.seq (W.run (by simp only[am,evOp,simprocAttr,initTm,b1]<;>rfl) ?_))
  refine W.ret ⟨.tup [.agg [.int .i64 0,.nils],.int .i64 1],(by simp only[rs,rf22,am,evOp,simprocAttr,initTm,b2]<;>rfl),b3,fun _=>rfl,fun q=>?_⟩
  have:=some_len q.2.2
  omega
 have q2':decide (((E.length:Nat):Int)<((es.length:Nat):Int))=false:=decide_eq_false (by omega)
 refine G.run (by simp only[am,evOp,simprocAttr,initTm,il,el,rA2,q1',q2']<;>rfl) ?_
 refine W.no (by simp only[am,evOp,simprocAttr]) (W.skip ?_)
 refine W.seq (W.seq (W.run (by simp only[am,evOp,simprocAttr,initTm]<;>rfl) ?_))
 refine W.seq (W.seq (W.run (by simp only[am,evOp,simprocAttr,initTm,il]<;>rfl) ?_))
 refine W.rng (α:=AV) (N:=es.length) (fun _ a=>[(1,iv),(2,.ptr h.next 0),(4,.ptr (h.next+1) 0),(33,iv),(6,a)]) (fun k a h'=>SomeP E (es.take k)∧IsSl h' 1 h2.next a ((endsS E (es.take k)).flatMap eI)∧Ext h2.next h2 h') .nils (fun _ _=>rfl) (by omega) (by simp only[hl,am,evOp,simprocAttr,initTm])
  ⟨⟨by simp,by simp⟩,.inl ⟨rfl,by simp [endsS]⟩,Ext.refl⟩ ?_ ?_
 ·rintro k a ts h3 hk ⟨j1,j2,jx⟩ ⟨e35,e34,e1,e2,e4,e33,e6,-⟩
  simp only at e35 e34 e1 e2 e4 e33 e6
  have jn:=jx.nx
  have he3:=he2.ext jx (Nat.le_refl _)
  have hi3:=hi2.ext jx (Nat.le_refl _)
  have rA3:rdCells h3 h.next 1 1=some [ev]:=by rw[← rA2]; exact rdCells_eq (jx.gt _ (by omega))
  obtain⟨b1,p1,a1,r1,_⟩:=hi3.at1 (map_at (f:=eI) hk)
  refine W.seq (W.run (by simp only[am,evOp,simprocAttr,e33,e35,a1,r1]<;>rfl) ?_)
  have hst:=some_step (E:=E) hk
  by_cases k1:es[k]<0
  ·have c1:decide (es[k]<0)=true:=decide_eq_true k1
   refine W.seq (W.seq (W.reg (G.nocall 14 (by simp only[am,evOp,simprocAttr,c1]<;>rfl) rfl (by simp only[am,evOp,simprocAttr]) ?_)))
   refine G.run (by simp only[am,evOp,simprocAttr]<;>rfl) ?_
   obtain⟨h4,b1,b2,b3⟩:=bad jx
   refine W.yes (by simp only[am,evOp,simprocAttr]) (W.seq (W.run (by simp only[am,evOp,simprocAttr,e4,b1]<;>rfl) ?_))
   refine W.ret ⟨.tup [.agg [.int .i64 0,.nils],.int .i64 1],(by simp only[rs,rf22,am,evOp,simprocAttr,e4,b2]<;>rfl),b3,fun _=>rfl,fun q=>?_⟩
   have:=(hst.1 (some_take q.2.2)).2.1.1
   omega
  have c1:decide (es[k]<0)=false:=decide_eq_false k1
  by_cases k2:((E.length:Nat):Int)≤es[k]
  ·have c2:decide (((E.length:Nat):Int)≤es[k])=true:=decide_eq_true k2
   refine W.seq (W.seq (W.reg (G.nocall 14 (by simp only[am,evOp,simprocAttr,e2,rA3,el,c1,c2]<;>rfl) rfl (by simp only[am,evOp,simprocAttr]) ?_)))
   refine G.run (by simp only[am,evOp,simprocAttr]<;>rfl) ?_
   obtain⟨h4,b1,b2,b3⟩:=bad jx
   refine W.yes (by simp only[am,evOp,simprocAttr]) (W.seq (W.run (by simp only[am,evOp,simprocAttr,e4,b1]<;>rfl) ?_))
   refine W.ret ⟨.tup [.agg [.int .i64 0,.nils],.int .i64 1],(by simp only[rs,rf22,am,evOp,simprocAttr,e4,b2]<;>rfl),b3,fun _=>rfl,fun q=>?_⟩
   have:=(hst.1 (some_take q.2.2)).2.1.2
   omega
  have c2:decide (((E.length:Nat):Int)≤es[k])=false:=decide_eq_false k2
  obtain⟨w,s1,s2,_⟩:=hi3.upto (hi:=k) (by rw[List.length_map]; omega)
  rw[← List.map_take] at s2
  refine W.seq (W.seq (W.reg (G.gcall 14 (by simp only[am,evOp,simprocAttr,e1,e2,rA3,el,c1,c2,slLA_eq,Option.map_none,s1]<;>rfl) rfl (by simp only[am,evOp,simprocAttr,e1,e2,rA3,el,c1,c2,slLA_eq,Option.map_none,s1]) (by simp only[am,evOp,simprocAttr,e1,e2,rA3,el,c1,c2,slLA_eq,Option.map_none,s1]<;>rfl) (contI_ok (y:=es[k]) s2 (by rw[List.length_take]; omega)) fun r h4 hq=>?_)))
  obtain⟨rfl,x4⟩:=hq
  rw[any_take hk]
  refine G.run (by simp only[am,evOp,simprocAttr]<;>rfl) ?_
  have X4:Ext h2.next h2 h4:=jx.trans (x4.mono jn)
  by_cases k3:es[k]∈es.take k
  ·rw[decide_eq_true k3]
   obtain⟨h5,b1,b2,b3⟩:=bad X4
   refine W.yes (by simp only[am,evOp,simprocAttr]) (W.seq (W.run (by simp only[am,evOp,simprocAttr,e4,b1]<;>rfl) ?_))
   refine W.ret ⟨.tup [.agg [.int .i64 0,.nils],.int .i64 1],(by simp only[rs,rf22,am,evOp,simprocAttr,e4,b2]<;>rfl),b3,fun _=>rfl,fun q=>?_⟩
   exact absurd k3 (hst.1 (some_take q.2.2)).2.2
  rw[decide_eq_false k3]
  refine W.no (by simp only[am,evOp,simprocAttr]) (W.skip ?_)
  have n4:=X4.nx
  obtain⟨m,hm⟩:∃ m:Nat,es[k]=m:=⟨es[k].toNat,by omega⟩
  have hml:m<E.length:=by omega
  have hk5:∀ c,c<h4.next→(h4.keep 1).get c=h4.get c:=fun c hc=>by rw[AH.keep_get,if_neg (by omega)]
  have q7:(h4.keep 1).get h4.next=some .resv:=keep1_get
  have he5:SlE (h4.keep 1) ev E:=by
   have s:=he2.ext X4 (Nat.le_refl _)
   exact s.cong fun b o m c hb=>hk5 _ (s.lt hb)
  obtain⟨eb1,ep,a7,_,r7,_⟩:=he5.at (map_at (f:=eE) hml)
  have r70:=r7 0 (.int .i64 E[m].1) rfl
  have r71:=r7 1 (.int .i64 E[m].2) rfl
  have re:rdCells (h4.keep 1) h.next 1 1=some [ev]:=by rw[rdCells_eq (hk5 _ (by omega)),← rA2]; exact rdCells_eq (X4.gt _ (by omega))
  obtain⟨p1',p2,p3,p4⟩:=keep1_put (h:=h4) (o:=.cells [.int .i64 E[m].1,.int .i64 E[m].2] 1 false)
  have hlenk:((endsS E (es.take k)).flatMap eI).length=2*k:=by
   rw[flat_len (f:=eI) (e:=1) (fun _=>rfl),ends_len,List.length_take,Nat.min_eq_left (by omega)]; omega
  obtain⟨s',h6,a6,i6,x6,hs6,n6⟩:=appN (bytes:=8) (m:=2) (x:=h4.next) ((j2.ext x4 (Nat.le_refl _)).ext p1' (Nat.le_refl _)) (by rw[p3]; omega) (by omega) (by omega) p2 rfl rfl
   (by rw[hlenk,Nat.div_one]; unfold tooMany; omega) (by rw[hlenk,Nat.div_one]; unfold tooMany; omega)
  rw[Nat.add_zero] at r70
  have rp2:repl [AV.int .i64 0] 2=[.int .i64 0,.int .i64 0]:=rfl
  refine W.runK (by simp only[am,evOp,simprocAttr,hm,e2,e6,re,a7,r70,r71,evN_some,evNew_mksl q7,rp2,a6]<;>rfl) ?_
  refine⟨s',⟨hst.2 ⟨j1,by omega,k3⟩,?_,X4.trans ((p1'.mono n4).trans x6)⟩,by simp only[hl,am,evOp,simprocAttr,e35,e34,e1,e2,e4,e33]⟩
  rw[ends_step hk,ed_at hm hml,List.flatMap_append]
  exact i6
 rintro a ts h3 ⟨j1,j2,jx⟩ ⟨e1,e2,e4,e33,e6,-⟩
 simp only at e1 e2 e4 e33 e6
 rw[List.take_length] at j1 j2
 have hok:okSub n E es:=⟨qm,q1,j1⟩
 have hnm:=names_eq qm j1.1
 have hel:=ends_len E es
 have hes:0<es.length:=List.length_pos_iff.2 q1
 have hsm:=some_len j1
 generalize endsS E es=xs at *
 rcases j2 with ⟨rfl,hz⟩|⟨b,m,hbn,rfl,hg,hln⟩
 ·have:xs.length=0:=by
   have:=congrArg List.length hz
   rw[flat_len (f:=eI) (e:=1) (fun _=>rfl)] at this
   simpa using this
  omega
 have hmn:m=xs.length:=by rw[flat_len (f:=eI) (e:=1) (fun _=>rfl)] at hln; omega
 subst hmn
 have e1':xs.flatMap eI=ints xs.toArray:=flat_ints xs
 have hg':h3.get b=some (blkI (xs.flatMap eI) 0 xs.toArray):=by
  rw[hg]
  unfold blkI
  rw[e1']
  congr 2
  exact (splice_self (by simp) (by rw[List.drop_zero,List.take_length])).symm
 have hs:=sort_ok (c:=xs.length) hg' (by rw[List.size_toArray,hln]; omega) (by rw[List.size_toArray]; omega)
 rw[List.size_toArray] at hs
 refine W.seq (W.reg (G.gcall 1 (by simp only[am,evOp,simprocAttr,e6]<;>rfl) rfl (by simp only[am,evOp,simprocAttr,e6]) (by simp only[am,evOp,simprocAttr,e6]<;>rfl) (hs) fun v h4 hq=>?_))
 refine G.run (by simp only[am,evOp,simprocAttr]<;>rfl) ?_
 have jn:=jx.nx
 have X4:Ext h2.next h2 h4:=jx.trans ((hq.mono jn).toExt hbn)
 have hg4:=hq.get
 rw[show (xs.toArray.toList.mergeSort fun x y=>decide (x≤y))=isort xs from rfl] at hg4
 have hcp:=compact_ok (c:=xs.length) hg4 (by rw[List.size_toArray,isort_len,hln]; omega) (by rw[List.size_toArray,isort_len]; omega) (by rw[List.size_toArray,isort_len]; omega)
 rw[List.size_toArray,isort_len] at hcp
 refine W.seq (W.reg (G.gcall 1 (by simp only[am,evOp,simprocAttr,e6]<;>rfl) rfl (by simp only[am,evOp,simprocAttr,e6]) (by simp only[am,evOp,simprocAttr,e6]<;>rfl) (hcp) fun v h5 hq5=>?_))
 obtain⟨d',m,rfl,hm1,hm2,u5,hd⟩:=hq5
 rw[List.toList_toArray] at hd
 rw[hnm] at hd
 refine G.run (by simp only[am,evOp,simprocAttr]<;>rfl) ?_
 have n4:=X4.nx
 have X5:Ext h2.next h2 h5:=X4.trans (u5.ext hbn)
 have n5:=X5.nx
 have hvl:(vsM n.toNat E es).length=m:=by rw[← hd,List.length_take,Array.length_toList,hm2]; omega
 have sV:SlI h5 (.sl b 0 m xs.length) (vsM n.toNat E es):=by
  rw[← hd]
  exact blk_pre u5.get (by rw[hm2,hln]; omega) (by omega) (by omega)
 have lV:=sV.len
 rw[List.length_map] at lV
 obtain⟨h6,w6,x6,g6,n6⟩:=mk_loc (h:=h5) (z:=[.int .i64 0,.nils]) (cs:=[.int .i64 ((vsM n.toNat E es).length:Nat),.nils]) (e:=2) rfl
 refine W.seq (W.run (by simp only[am,evOp,simprocAttr,lV,w6]<;>rfl) ?_)
 have X6:Ext h2.next h2 h6:=X5.trans (x6.mono n5)
 have sV6:=sV.ext x6 (Nat.le_refl _)
 have hvs:=(vs_lt n.toNat E es).imp (fun {a b} (q:a<b)=>Int.le_of_lt q)
 have hvlen:(vsM n.toNat E es).length≤2 ^ 34:=by rw[hvl]; omega
 have fin:∀ (ts:Tm) (h':AH) (a:AV),Ext h5.next h6 h'→h'.get h5.next=some (.cells [.int .i64 ((vsM n.toNat E es).length:Nat),a] 2 false)→IsSl h' 2 (h5.next+1) a ((subM n.toNat E es).flatMap eE)→Held [(4,.ptr (h.next+1) 0),(9,.ptr h5.next 0)] ts →
  W prg (.seq (.reg [⟨some 117,.load true 2 (.t 9),none,none,[]⟩,⟨none,.store 2 (.t 4) (.t 117),none,none,[]⟩,⟨some 5,.mov (.c (.int .i64 0)),none,none,[]⟩]) .ret) ts h' (fun ts h=>False) (fun ts h''=>∃ v,Am.results rf22 ts h''=some v∧(Ext h.next h h''∧(¬ okSub n E es→v=.tup [.agg [.int .i64 0,.nils],.int .i64 1]) ∧
  (okSub n E es→∃ w,v=.tup [.agg [.int .i64 ((vsM n.toNat E es).length:Nat),w],.int .i64 0]∧SlE h'' w (subM n.toNat E es)))) (fun _ _ _=>False):=by
  rintro ts h' a hx hga hia ⟨e4,e9,-⟩
  simp only at e4 e9
  have X':Ext h2.next h2 h':=X6.trans (hx.mono n5)
  have rg:rdCells h' h5.next 0 2=some [.int .i64 ((vsM n.toNat E es).length:Nat),a]:=by rw[rdCells_of hga]; rfl
  have gB':h'.get (h.next+1)=some (.cells [.int .i64 0,.nils] 2 false):=by rw[X'.gt _ (by omega)]; exact gB2
  obtain⟨ac,ao⟩:=hia.cells
  have u:=Upd.put (o:=.cells [.int .i64 ((vsM n.toNat E es).length:Nat),a] 2 false) gB'
  have wB:wrCells h' (h.next+1) 0 [.int .i64 ((vsM n.toNat E es).length:Nat),a]=some (h'.put (h.next+1) (.cells [.int .i64 ((vsM n.toNat E es).length:Nat),a] 2 false)):=by rw[wrCells_of gB']; rfl
  refine W.seq (W.run (by simp only[am,evOp,simprocAttr,e4,e9,rg,wB,ao]<;>rfl) ?_)
  have rB:rdCells (h'.put (h.next+1) (.cells [.int .i64 ((vsM n.toNat E es).length:Nat),a] 2 false)) (h.next+1) 0 2=some [.int .i64 ((vsM n.toNat E es).length:Nat),a]:=by rw[rdCells_of u.get]; rfl
  refine W.ret ⟨.tup [.agg [.int .i64 ((vsM n.toNat E es).length:Nat),a],.int .i64 0],(by simp only[rs,rf22,am,evOp,simprocAttr,e4,rB]<;>rfl),X2.trans ((X'.mono (by omega)).trans (u.ext (by omega))),fun q=>absurd hok q,fun _=>⟨a,rfl,?_⟩⟩
  exact IsSl.sl (by omega) (fun _=>rfl) (hia.cong fun b n _ hb=>u.ne (by omega))
 refine W.seq ?_
 have il6:=il
 refine W.seq (W.run (by simp only[am,evOp,simprocAttr,e1,il6]<;>rfl) ?_)
 refine W.rng (α:=AV) (N:=es.length) (fun _ _=>[(2,.ptr h.next 0),(4,.ptr (h.next+1) 0),(6,.sl b 0 m xs.length),(9,.ptr h5.next 0),(80,iv)])
  (fun k a h'=>Ext h5.next h6 h'∧h'.get h5.next=some (.cells [.int .i64 ((vsM n.toNat E es).length:Nat),a] 2 false)∧IsSl h' 2 (h5.next+1) a (((es.take k).map fun i=>(((rankM n.toNat E es (edM E i).1:Nat):Int),((rankM n.toNat E es (edM E i).2:Nat):Int))).flatMap eE)) .nils (fun _ _=>rfl) (by omega) (by simp only[hl,am,evOp,simprocAttr,e2,e4])
  ⟨Ext.refl,g6,.inl ⟨rfl,by simp⟩⟩ ?_ ?_
 ·clear e1 e2 e4 e33 e6
  rintro k a ts h7 hk ⟨jx7,jg,ja⟩ ⟨e82,e81,e2,e4,e6,e9,e80,-⟩
  simp only at e82 e81 e2 e4 e6 e9 e80
  have X7:Ext h2.next h2 h7:=X6.trans (jx7.mono n5)
  have n7:=jx7.nx
  have he7:=he2.ext X7 (Nat.le_refl _)
  have hi7:=hi2.ext X7 (Nat.le_refl _)
  have sV7:SlI h7 (.sl b 0 m xs.length) (vsM n.toNat E es):=sV6.cong fun b' o' l' c' e=>by
   cases e
   exact jx7.gt _ (by have:=sV.lt rfl; omega)
  have rA7:rdCells h7 h.next 1 1=some [ev]:=by rw[← rA2]; exact rdCells_eq (X7.gt _ (by omega))
  obtain⟨b1,p1,a1,r1,_⟩:=hi7.at1 (map_at (f:=eI) hk)
  have hin:=j1.1 _ (List.getElem_mem hk)
  obtain⟨z,hz⟩:∃ z:Nat,es[k]=z:=⟨es[k].toNat,by omega⟩
  have hzl:z<E.length:=by omega
  rw[hz] at r1
  obtain⟨eb1,ep,a7,_,r7,_⟩:=he7.at (map_at (f:=eE) hzl)
  have r70:=r7 0 (.int .i64 E[z].1) rfl
  have r71:=r7 1 (.int .i64 E[z].2) rfl
  rw[Nat.add_zero] at r70
  refine W.seq (W.run (by simp only[am,evOp,simprocAttr,e80,e82,a1,r1]<;>rfl) ?_)
  refine W.seq (W.reg (G.gcall 7 (by simp only[am,evOp,simprocAttr,e2,e6,rA7,a7,r70]<;>rfl) rfl (by simp only[am,evOp,simprocAttr,e2,e6,rA7,a7,r70]) (by simp only[am,evOp,simprocAttr,e2,e6,rA7,a7,r70]<;>rfl) (bsearch_ok (t:=E[z].1) sV7 hvs (by omega)) fun r h8 hq8=>?_))
  obtain⟨rfl,rfl⟩:=hq8
  refine G.run (by simp only[am,evOp,simprocAttr]<;>rfl) ?_
  refine W.seq (W.reg (G.gcall 7 (by simp only[am,evOp,simprocAttr,e2,e6,rA7,a7,r71]<;>rfl) rfl (by simp only[am,evOp,simprocAttr,e2,e6,rA7,a7,r71]) (by simp only[am,evOp,simprocAttr,e2,e6,rA7,a7,r71]<;>rfl) (bsearch_ok (t:=E[z].2) sV7 hvs (by omega)) fun r h9 hq9=>?_))
  obtain⟨rfl,rfl⟩:=hq9
  refine G.run (by simp only[am,evOp,simprocAttr]<;>rfl) ?_
  have ed:edM E es[k]=E[z]:=ed_at hz hzl
  have hst:=sub_step (n:=n.toNat) (E:=E) (F:=es) hk
  rw[ed] at hst
  have r9:rdCells h9 h5.next 1 1=some [a]:=rd_at jg rfl
  have hlenk:(((es.take k).map fun i=>(((rankM n.toNat E es (edM E i).1:Nat):Int),((rankM n.toNat E es (edM E i).2:Nat):Int))).flatMap eE).length=k*2:=by
   rw[flat_len (f:=eE) (e:=2) (fun _=>rfl),List.length_map,List.length_take,Nat.min_eq_left (by omega)]
  obtain⟨s',h10,a10,i10,x10,n10⟩:=ja.push (bytes:=16) [.int .i64 ((rankM n.toNat E es E[z].1:Nat):Int),.int .i64 ((rankM n.toNat E es E[z].2:Nat):Int)] (by omega) (by omega) rfl rfl
   (by rw[hlenk,Nat.mul_div_cancel _ (by omega)]; unfold tooMany; omega) (by rw[hlenk,Nat.mul_div_cancel _ (by omega)]; unfold tooMany; omega)
  have g10:h10.get h5.next=some (.cells [.int .i64 ((vsM n.toNat E es).length:Nat),a] 2 false):=by rw[x10.gt _ (by omega)]; exact jg
  obtain⟨sc,so⟩:=i10.cells
  have w10:=wr_at (v:=s') g10 (i:=1) (by simp)
  have u10:=Upd.put (o:=.cells ([.int .i64 ((vsM n.toNat E es).length:Nat),a].set 1 s') 2 false) g10
  change appA (h9.new (.cells [.int .i64 (((vsM n.toNat E es).countP fun u=>decide (u<E[z].1):Nat):Int),.int .i64 (((vsM n.toNat E es).countP fun u=>decide (u<E[z].2):Nat):Int)] 2 false)) 2 16 a (.sl h9.next 0 1 1)=some (s',h10) at a10
  refine W.run (by simp only[am,evOp,simprocAttr,e9,r9,a10,w10,sc,so]<;>rfl) ?_
  refine⟨s',⟨jx7.trans ((x10.mono (by omega)).trans (u10.ext (Nat.le_refl _))),u10.get,?_⟩,by simp only[hl,am,evOp,simprocAttr,e82,e81,e2,e4,e6,e9,e80]⟩
  rw[hst,List.flatMap_append]
  exact i10.cong fun b n _ hb=>u10.ne (by omega)
 ·clear e1 e2 e4 e33 e6
  rintro a ts h7 ⟨jx7,jg,ja⟩ ⟨e2,e4,e6,e9,e80,-⟩
  simp only at e4 e9
  rw[List.take_length] at ja
  exact fin ts h7 a jx7 jg ja ⟨e4,e9,trivial⟩
end Go.Proofs.YtihedjolidbfiaaGreatDoor
namespace Go.Proofs.YtihedjolidbfiaaGreatDoor
open Go.Am
def bl (n:Nat) (p:Nat→Bool):List AV:=(List.range n).map fun i=>.bool (p i)
def il (n:Nat) (f:Nat→Int):List AV:=(List.range n).map fun i=>.int .i64 (f i)
theorem bl_len (n:Nat) (p:Nat→Bool):(bl n p).length=n:=by simp [bl]
theorem il_len (n:Nat) (f:Nat→Int):(il n f).length=n:=by simp [il]
theorem bl_at {n i:Nat}{p:Nat→Bool} (h:i<n):(bl n p)[i]?=some (.bool (p i)):=by
 unfold bl
 rw[List.getElem?_map,List.getElem?_range h]
 rfl
theorem il_at {n i:Nat}{f:Nat→Int} (h:i<n):(il n f)[i]?=some (.int .i64 (f i)):=by
 unfold il
 rw[List.getElem?_map,List.getElem?_range h]
 rfl
theorem bl_set {n i:Nat}{p:Nat→Bool}{b:Bool}:(bl n p).set i (.bool b)=bl n fun j=>if j=i then b else p j:=by
 refine List.ext_getElem? fun j=>?_
 rw[List.getElem?_set,bl_len]
 by_cases hj:j<n
 ·rw[bl_at hj,bl_at hj]
  by_cases e:i=j
  ·subst e; simp [hj]
  ·rw[if_neg e,if_neg (fun q=>e q.symm)]
 ·rw[List.getElem?_eq_none (l:=bl n p) (by rw[bl_len]; omega),List.getElem?_eq_none (by rw[bl_len]; omega)]
  split
  ·rw[if_neg (by omega)]
  ·rfl
theorem il_set {n i:Nat}{f:Nat→Int}{b:Int}:(il n f).set i (.int .i64 b)=il n fun j=>if j=i then b else f j:=by
 refine List.ext_getElem? fun j=>?_
 rw[List.getElem?_set,il_len]
 by_cases hj:j<n
 ·rw[il_at hj,il_at hj]
  by_cases e:i=j
  ·subst e; simp [hj]
  ·rw[if_neg e,if_neg (fun q=>e q.symm)]
 ·rw[List.getElem?_eq_none (l:=il n f) (by rw[il_len]; omega),List.getElem?_eq_none (by rw[il_len]; omega)]
  split
  ·rw[if_neg (by omega)]
  ·rfl
theorem bl_repl (n:Nat):repl [AV.bool false] n=bl n fun _=>false:=by
 rw[repl_rep]
 unfold bl
 rw[List.map_const',List.length_range]
theorem il_repl (n:Nat):repl [AV.int .i64 0] n=il n fun _=>0:=by
 rw[repl_rep]
 unfold il
 rw[List.map_const',List.length_range]
theorem bl_congr {n:Nat}{p q:Nat→Bool} (h:∀ i,i<n→p i=q i):bl n p=bl n q:=by
 unfold bl
 exact List.map_congr_left fun i hi=>by rw[h i (List.mem_range.1 hi)]
theorem il_congr {n:Nat}{p q:Nat→Int} (h:∀ i,i<n→p i=q i):il n p=il n q:=by
 unfold il
 exact List.map_congr_left fun i hi=>by rw[h i (List.mem_range.1 hi)]
theorem mem_take_step {es:List Int}{k:Nat} (hk:k<es.length) (x:Int):decide (x∈es.take (k+1))=if x=es[k] then true else decide (x∈es.take k):=by
 rw[List.take_succ_eq_append_getElem hk]
 by_cases e:x=es[k]
 ·rw[if_pos e,e]
  exact decide_eq_true (List.mem_append_right _ (List.mem_cons_self ..))
 ·rw[if_neg e]
  simp only[List.mem_append,List.mem_cons,List.not_mem_nil,or_false,e]
theorem mem_ends_step {E:List (Int×Int)}{es:List Int}{k:Nat} (hk:k<es.length) (x:Int):decide (x∈endsS E (es.take (k+1)))=if x=(edM E es[k]).2 then true else if x=(edM E es[k]).1 then true else decide (x∈endsS E (es.take k)):=by
 rw[ends_step hk]
 by_cases e2:x=(edM E es[k]).2
 ·rw[if_pos e2,decide_eq_true]
  rw[e2]
  simp
 ·rw[if_neg e2]
  by_cases e1:x=(edM E es[k]).1
  ·rw[if_pos e1,decide_eq_true]
   rw[e1]
   simp
  ·rw[if_neg e1]
   simp only[List.mem_append,List.mem_cons,List.not_mem_nil,or_false,e1,e2]
set_option maxHeartbeats 2000000 in
theorem rsub_ok {h:AH}{n:Int}{ev iv:AV}{E:List (Int×Int)}{es:List Int} (he:SlE h ev E) (hi:SlI h iv es) (hxl:E.length<2 ^ 30) (hil:es.length<2 ^ 30) :
 C prg 23 [.agg [.int .i64 n,ev],iv] h fun r h'=>Ext h.next h h'∧(¬ okSub n E es→∃ v,r=.tup [v,.bool false]∧v=.agg [.int .i64 0,.nils]) ∧
   (okSub n E es→∃ v,r=.tup [.agg [.int .i64 ((vsM n.toNat E es).length:Nat),v],.bool true]∧SlE h' v (subM n.toNat E es)):=by
 have el:=he.len
 have il_:=hi.len
 rw[List.length_map] at el il_
 obtain⟨ec,eo⟩:=he.cells
 obtain⟨ic,io⟩:=hi.cells
 refine C.func pf23 ?_
 refine W.seq (W.run (by simp only[am,evOp,simprocAttr,initTm]<;>rfl) ?_)
 have ga:∀ c,((h.new (.cells [.int .i64 n,ev] 2 false)).new (.cells [.int .i64 0,.nils] 2 false)).get c=if c=h.next+1 then some (.cells [.int .i64 0,.nils] 2 false) else if c=h.next then some (.cells [.int .i64 n,ev] 2 false) else h.get c:=fun c=>by
  rw[AH.get_new,AH.get_new]
  rfl
 have x0:Ext h.next h ((h.new (.cells [.int .i64 n,ev] 2 false)).new (.cells [.int .i64 0,.nils] 2 false)):=(Ext.new (Nat.le_refl _)).trans (Ext.new (by simp))
 have n0:((h.new (.cells [.int .i64 n,ev] 2 false)).new (.cells [.int .i64 0,.nils] 2 false)).next=h.next+2:=rfl
 generalize ((h.new (.cells [.int .i64 n,ev] 2 false)).new (.cells [.int .i64 0,.nils] 2 false))=h1 at *
 have gA:h1.get h.next=some (.cells [.int .i64 n,ev] 2 false):=by rw[ga,if_neg (by omega),if_pos rfl]
 have gB:h1.get (h.next+1)=some (.cells [.int .i64 0,.nils] 2 false):=by rw[ga,if_pos rfl]
 have he1:=he.ext x0 (Nat.le_refl _)
 have hi1:=hi.ext x0 (Nat.le_refl _)
 have rA:rdCells h1 h.next 0 2=some [.int .i64 n,ev]:=by rw[rdCells_of gA]; rfl
 refine W.seq (W.seq (W.reg (G.gcall 1 (by simp only[am,evOp,simprocAttr,initTm,rA]<;>rfl) rfl (by simp only[am,evOp,simprocAttr,initTm,rA]) (by simp only[am,evOp,simprocAttr,initTm,rA]<;>rfl) (rmay_ok (n:=n) he1 (by omega)) fun r h2 hq=>?_)))
 obtain⟨rfl,x2⟩:=hq
 have X2:Ext h.next h h2:=x0.trans (x2.mono (by omega))
 have n2:=x2.nx
 have gA2:h2.get h.next=some (.cells [.int .i64 n,ev] 2 false):=by rw[x2.gt _ (by omega)]; exact gA
 have gB2:h2.get (h.next+1)=some (.cells [.int .i64 0,.nils] 2 false):=by rw[x2.gt _ (by omega)]; exact gB
 have rA2:rdCells h2 h.next 1 1=some [ev]:=rd_at gA2 rfl
 have rN2:rdCells h2 h.next 0 1=some [.int .i64 n]:=rd_at gA2 rfl
 have he2:=he1.ext x2 (Nat.le_refl _)
 have hi2:=hi1.ext x2 (Nat.le_refl _)
 have bad:∀ {h':AH},Ext h2.next h2 h'→∃ h3,wrCells h' (h.next+1) 0 [.int .i64 0,.nils]=some h3∧rdCells h3 (h.next+1) 0 2=some [.int .i64 0,.nils]∧Ext h.next h h3:=fun {h'} hx=>by
  have g:h'.get (h.next+1)=some (.cells [.int .i64 0,.nils] 2 false):=by rw[hx.gt _ (by omega)]; exact gB2
  refine⟨h'.put (h.next+1) (.cells [.int .i64 0,.nils] 2 false),by rw[wrCells_of g]; rfl,by rw[rdCells_of (Upd.put g).get]; rfl,X2.trans ((hx.mono (by omega)).trans (Ext.put (by omega)))⟩
 cases qm:mayB n E with
 | false =>
   refine G.run (by simp only[am,evOp,simprocAttr]<;>rfl) ?_
   obtain⟨h3,b1,b2,b3⟩:=bad Ext.refl
   refine W.yes (by simp only[am,evOp,simprocAttr]) (W.seq (W.run (by simp only[am,evOp,simprocAttr,initTm,b1]<;>rfl) ?_))
   exact W.ret ⟨.tup [.agg [.int .i64 0,.nils],.bool false],(by simp only[rs,rf23,am,evOp,simprocAttr,initTm,b2]<;>rfl),b3,fun _=>⟨_,rfl,rfl⟩,fun q=>by have:=q.1; rw[qm] at this; cases this⟩
 | true =>
 have hm:=qm
 unfold mayB at hm
 simp only[Bool.and_eq_true,decide_eq_true_eq] at hm
 obtain⟨⟨⟨m1,m2⟩,m3⟩,m4⟩:=hm
 obtain⟨nn,rfl⟩:∃ nn:Nat,n=nn:=⟨n.toNat,by omega⟩
 rw[Int.toNat_natCast]
 by_cases q1:es=[]
 ·subst q1
  simp only[List.length_nil] at il_
  refine G.run (by simp only[am,evOp,simprocAttr,initTm,il_,Int.natCast_zero,decide_true]<;>rfl) ?_
  obtain⟨h3,b1,b2,b3⟩:=bad Ext.refl
  refine W.yes (by simp only[am,evOp,simprocAttr]) (W.seq (W.run (by simp only[am,evOp,simprocAttr,initTm,b1]<;>rfl) ?_))
  exact W.ret ⟨.tup [.agg [.int .i64 0,.nils],.bool false],(by simp only[rs,rf23,am,evOp,simprocAttr,initTm,b2]<;>rfl),b3,fun _=>⟨_,rfl,rfl⟩,fun q=>absurd rfl q.2.1⟩
 have q1':decide (((es.length:Nat):Int)=0)=false:=decide_eq_false (fun e=>q1 (List.length_eq_zero_iff.1 (by omega)))
 refine G.run (by simp only[am,evOp,simprocAttr,initTm,il_,q1']<;>rfl) ?_
 refine W.no (by simp only[am,evOp,simprocAttr]) (W.skip ?_)
 have mu:=mksA_nat (h:=h2) (z:=[.bool false]) (e:=1) (bytes:=1) (n:=E.length) (by unfold tooMany; omega) (by unfold tooMany; omega)
 have x3:Ext h2.next h2 (h2.new (.cells (repl [.bool false] E.length) 1 false)):=Ext.new (Nat.le_refl _)
 have g3:(h2.new (.cells (repl [.bool false] E.length) 1 false)).get h2.next=some (.cells (repl [.bool false] E.length) 1 false):=by rw[AH.get_new,if_pos rfl]
 have n3:(h2.new (.cells (repl [.bool false] E.length) 1 false)).next=h2.next+1:=rfl
 refine W.seq (W.run (by simp only[am,evOp,simprocAttr,initTm,rA2,el,mu]<;>rfl) ?_)
 generalize (h2.new (.cells (repl [.bool false] E.length) 1 false))=h3 at *
 have rN3:rdCells h3 h.next 0 1=some [.int .i64 ((nn:Nat):Int)]:=by rw[← rN2]; exact rdCells_eq (x3.gt _ (by omega))
 have mi:=mksA_nat (h:=h3) (z:=[.bool false]) (e:=1) (bytes:=1) (n:=nn) (by unfold tooMany; omega) (by unfold tooMany; omega)
 have x4:Ext h3.next h3 (h3.new (.cells (repl [.bool false] nn) 1 false)):=Ext.new (Nat.le_refl _)
 have g4:(h3.new (.cells (repl [.bool false] nn) 1 false)).get h3.next=some (.cells (repl [.bool false] nn) 1 false):=by rw[AH.get_new,if_pos rfl]
 have n4:(h3.new (.cells (repl [.bool false] nn) 1 false)).next=h3.next+1:=rfl
 refine W.seq (W.run (by simp only[am,evOp,simprocAttr,initTm,rN3,mi]<;>rfl) ?_)
 generalize (h3.new (.cells (repl [.bool false] nn) 1 false))=h4 at *
 have X4:Ext h2.next h2 h4:=x3.trans (x4.mono (by omega))
 have gu:h4.get h2.next=some (.cells (repl [.bool false] E.length) 1 false):=by rw[x4.gt _ (by omega)]; exact g3
 rw[bl_repl] at gu g4
 rw[n3] at g4 n4
 clear g3 mu mi
 refine W.seq (W.seq (W.run (by simp only[am,evOp,simprocAttr,initTm,n3]<;>rfl) ?_))
 refine W.whl (α:=Unit) (N:=es.length) (fun k _=>[(1,iv),(2,.ptr h.next 0),(4,.ptr (h.next+1) 0),(6,.sl h2.next 0 E.length E.length),(7,.sl (h2.next+1) 0 nn nn),(8,.int .i64 (k:Nat))])
  (fun k _ h'=>SomeP E (es.take k)∧h'.next=h4.next∧Ext h2.next h2 h'∧h'.get h2.next=some (.cells (bl E.length fun i=>decide (((i:Nat):Int)∈es.take k)) 1 false)∧h'.get (h2.next+1)=some (.cells (bl nn fun v=>decide (((v:Nat):Int)∈endsS E (es.take k))) 1 false)) () (by simp only[hl,am,evOp,simprocAttr,initTm,n3,Int.natCast_zero])
  ⟨⟨by simp,by simp⟩,rfl,X4,by rw[gu]; simp,by rw[g4]; simp [endsS]⟩ ?_ ?_ ?_
 ·rintro k _ ts h5 hk ⟨j1,j2,jx,ju,ji⟩ ⟨e1,e2,e4,e6,e7,e8,-⟩
  simp only at e1 e2 e4 e6 e7 e8
  exact⟨_,(by simp only[am,evOp,simprocAttr,e1,e8,il_,Int.ofNat_lt]<;>rfl),by simp only[am,evOp,simprocAttr],by simp only[hl,am,evOp,simprocAttr,e1,e2,e4,e6,e7,e8]⟩
 ·rintro k _ ts h5 hk ⟨j1,j2,jx,ju,ji⟩ ⟨e1,e2,e4,e6,e7,e8,-⟩
  simp only at e1 e2 e4 e6 e7 e8
  have he5:=he2.ext jx (Nat.le_refl _)
  have hi5:=hi2.ext jx (Nat.le_refl _)
  obtain⟨b1,p1,a1,r1,_⟩:=hi5.at1 (map_at (f:=eI) hk)
  have w1:=w1_ok (k:=k) (by omega)
  refine W.seq (W.run (by simp only[am,evOp,simprocAttr,e1,e8,a1,r1]<;>rfl) ?_)
  have hst:=some_step (E:=E) hk
  by_cases k1:es[k]<0
  ·have c1:decide (es[k]<0)=true:=decide_eq_true k1
   refine W.seq (W.seq (W.run (by simp only[am,evOp,simprocAttr,c1]<;>rfl) ?_))
   obtain⟨h6,b1,b2,b3⟩:=bad jx
   refine W.yes (by simp only[am,evOp,simprocAttr]) (W.seq (W.run (by simp only[am,evOp,simprocAttr,e4,b1]<;>rfl) ?_))
   refine W.ret ⟨.tup [.agg [.int .i64 0,.nils],.bool false],(by simp only[rs,rf23,am,evOp,simprocAttr,e4,b2]<;>rfl),b3,fun _=>⟨_,rfl,rfl⟩,fun q=>?_⟩
   have:=(hst.1 (some_take q.2.2)).2.1.1
   omega
  have c1:decide (es[k]<0)=false:=decide_eq_false k1
  by_cases k2:((E.length:Nat):Int)≤es[k]
  ·have c2:decide (((E.length:Nat):Int)≤es[k])=true:=decide_eq_true k2
   refine W.seq (W.seq (W.run (by simp only[am,evOp,simprocAttr,e6,c1,c2]<;>rfl) ?_))
   obtain⟨h6,b1,b2,b3⟩:=bad jx
   refine W.yes (by simp only[am,evOp,simprocAttr]) (W.seq (W.run (by simp only[am,evOp,simprocAttr,e4,b1]<;>rfl) ?_))
   refine W.ret ⟨.tup [.agg [.int .i64 0,.nils],.bool false],(by simp only[rs,rf23,am,evOp,simprocAttr,e4,b2]<;>rfl),b3,fun _=>⟨_,rfl,rfl⟩,fun q=>?_⟩
   have:=(hst.1 (some_take q.2.2)).2.1.2
   omega
  have c2:decide (((E.length:Nat):Int)≤es[k])=false:=decide_eq_false k2
  obtain⟨m,hm⟩:∃ m:Nat,es[k]=m:=⟨es[k].toNat,by omega⟩
  have hml:m<E.length:=by omega
  have i1:idx? ((m:Nat):Int) E.length=some m:=idx_nat hml
  have ru:rdCells h5 h2.next m 1=some [.bool (decide (((m:Nat):Int)∈es.take k))]:=rd_at ju (bl_at hml)
  rw[hm] at c1 c2
  refine W.seq (W.seq (W.run (by simp only[am,evOp,simprocAttr,hm,e6,c1,c2,i1,Nat.mul_one,ru]<;>rfl) ?_))
  by_cases k3:((m:Nat):Int)∈es.take k
  ·rw[decide_eq_true k3]
   obtain⟨h6,b1,b2,b3⟩:=bad jx
   refine W.yes (by simp only[am,evOp,simprocAttr]) (W.seq (W.run (by simp only[am,evOp,simprocAttr,e4,b1]<;>rfl) ?_))
   refine W.ret ⟨.tup [.agg [.int .i64 0,.nils],.bool false],(by simp only[rs,rf23,am,evOp,simprocAttr,e4,b2]<;>rfl),b3,fun _=>⟨_,rfl,rfl⟩,fun q=>?_⟩
   exact absurd (by rw[hm]; exact k3) (hst.1 (some_take q.2.2)).2.2
  rw[decide_eq_false k3]
  refine W.no (by simp only[am,evOp,simprocAttr]) (W.skip ?_)
  obtain⟨eb1,ep,a7,_,r7,_⟩:=he5.at (map_at (f:=eE) hml)
  have r70:=r7 0 (.int .i64 E[m].1) rfl
  have r71:=r7 1 (.int .i64 E[m].2) rfl
  rw[Nat.add_zero] at r70
  have hin:=ends_in (es:=[((m:Nat):Int)]) qm (fun i hi=>by simp only[List.mem_cons,List.not_mem_nil,or_false] at hi; subst hi; omega)
  have ed:edM E es[k]=E[m]:=ed_at hm hml
  have t1:=hin E[m].1 (by rw[endsS,List.flatMap_cons,ed_at rfl hml]; simp)
  have t2:=hin E[m].2 (by rw[endsS,List.flatMap_cons,ed_at rfl hml]; simp)
  obtain⟨x,hx⟩:∃ x:Nat,E[m].1=x:=⟨E[m].1.toNat,by omega⟩
  obtain⟨y,hy⟩:∃ y:Nat,E[m].2=y:=⟨E[m].2.toNat,by omega⟩
  rw[hx] at r70 t1
  rw[hy] at r71 t2
  have ix:idx? ((x:Nat):Int) nn=some x:=idx_nat (by omega)
  have iy:idx? ((y:Nat):Int) nn=some y:=idx_nat (by omega)
  have rA5:rdCells h5 h.next 1 1=some [ev]:=by rw[← rA2]; exact rdCells_eq (jx.gt _ (by omega))
  have wu:=wr_at (v:=.bool true) ju (i:=m) (by rw[bl_len]; exact hml)
  have uu:=Upd.put (o:=.cells ((bl E.length fun i=>decide (((i:Nat):Int)∈es.take k)).set m (.bool true)) 1 false) ju
  refine W.seq (W.run (by simp only[am,evOp,simprocAttr,e6,i1,Nat.mul_one,wu]<;>rfl) ?_)
  generalize (h5.put h2.next (.cells ((bl E.length fun i=>decide (((i:Nat):Int)∈es.take k)).set m (.bool true)) 1 false))=h6 at *
  have X6:Ext h2.next h2 h6:=jx.trans (uu.ext (Nat.le_refl _))
  have ju6:=uu.get
  have ji6:h6.get (h2.next+1)=some (.cells (bl nn fun v=>decide (((v:Nat):Int)∈endsS E (es.take k))) 1 false):=by rw[uu.ne (by omega)]; exact ji
  have n6:=uu.nx
  have rA6:rdCells h6 h.next 1 1=some [ev]:=by rw[← rA2]; exact rdCells_eq (X6.gt _ (by omega))
  have rr:∀ {j:Nat}{v:AV}{h':AH},Ext h2.next h5 h'→rdCells h5 eb1 j 1=some [v]→rdCells h' eb1 j 1=some [v]:=fun {j v h'} hx hr=>by
   rw[← hr]
   refine rdCells_eq (hx.gt _ ?_)
   rcases he2 with ⟨q,_⟩|⟨bb,oo,cc,cs',ro',rfl,hg2,_⟩
   ·have hE:(E.map eE).length=0:=by rw[q]; rfl
    rw[List.length_map] at hE
    omega
   ·have hb2:=AH.lt_of_get hg2
    rw[iadrL_sl] at a7
    obtain⟨_,_,ea⟩:=Option.map_eq_some_iff.1 a7
    cases ea
    exact hb2
  have r70':=rr (uu.ext (Nat.le_refl _)) r70
  have wi:=wr_at (v:=.bool true) ji6 (i:=x) (by rw[bl_len]; omega)
  have ui:=Upd.put (o:=.cells ((bl nn fun v=>decide (((v:Nat):Int)∈endsS E (es.take k))).set x (.bool true)) 1 false) ji6
  refine W.seq (W.run (by simp only[am,evOp,simprocAttr,e2,e7,rA6,a7,r70',ix,Nat.mul_one,wi]<;>rfl) ?_)
  generalize (h6.put (h2.next+1) (.cells ((bl nn fun v=>decide (((v:Nat):Int)∈endsS E (es.take k))).set x (.bool true)) 1 false))=h7 at *
  have X7:Ext h2.next h2 h7:=X6.trans (ui.ext (by omega))
  have ju7:h7.get h2.next=some (.cells ((bl E.length fun i=>decide (((i:Nat):Int)∈es.take k)).set m (.bool true)) 1 false):=by rw[ui.ne (by omega)]; exact ju6
  have ji7:=ui.get
  have n7:=ui.nx
  have rA7:rdCells h7 h.next 1 1=some [ev]:=by rw[← rA2]; exact rdCells_eq (X7.gt _ (by omega))
  have r71':=rr ((uu.ext (Nat.le_refl _)).trans (ui.ext (by omega))) r71
  have wj:=wr_at (v:=.bool true) ji7 (i:=y) (by rw[List.length_set,bl_len]; omega)
  have uj:=Upd.put (o:=.cells (((bl nn fun v=>decide (((v:Nat):Int)∈endsS E (es.take k))).set x (.bool true)).set y (.bool true)) 1 false) ji7
  refine W.run (by simp only[am,evOp,simprocAttr,e2,e7,rA7,a7,r71',iy,Nat.mul_one,wj]<;>rfl) ?_
  generalize (h7.put (h2.next+1) (.cells (((bl nn fun v=>decide (((v:Nat):Int)∈endsS E (es.take k))).set x (.bool true)).set y (.bool true)) 1 false))=h8 at *
  refine⟨(),⟨hst.2 ⟨j1,by omega,by rw[hm]; exact k3⟩,by rw[uj.nx,n7,n6]; exact j2,X7.trans (uj.ext (by omega)),?_,?_⟩,_,(by simp only[am,evOp,simprocAttr,e8,w1]<;>rfl),by simp only[hl,am,evOp,simprocAttr,e1,e2,e4,e6,e7]⟩
  ·rw[uj.ne (by omega),ju7,bl_set]
   congr 2
   refine bl_congr fun i _=>?_
   rw[mem_take_step hk,hm]
   by_cases e:i=m
   ·subst e; simp
   ·rw[if_neg e,if_neg (show ¬ ((i:Nat):Int)=((m:Nat):Int) by omega)]
  ·rw[uj.get,bl_set,bl_set]
   congr 2
   refine bl_congr fun i _=>?_
   rw[mem_ends_step hk,ed,hx,hy]
   by_cases e:i=y
   ·subst e; simp
   ·rw[if_neg e,if_neg (show ¬ ((i:Nat):Int)=((y:Nat):Int) by omega)]
    by_cases e':i=x
    ·subst e'; simp
    ·rw[if_neg e',if_neg (show ¬ ((i:Nat):Int)=((x:Nat):Int) by omega)]
 clear gu g4
 rintro _ ts h5 ⟨j1,j2,jx,ju,ji⟩ ⟨e1,e2,e4,e6,e7,e8,-⟩
 simp only at e1 e2 e4 e6 e7
 rw[List.take_length] at j1 ju ji
 have hok:okSub ((nn:Nat):Int) E es:=⟨qm,q1,j1⟩
 have hsm:=some_len j1
 have hin:=ends_in qm j1.1
 have n5:h5.next=h2.next+2:=by rw[j2,n4]
 have rN5:rdCells h5 h.next 0 1=some [.int .i64 ((nn:Nat):Int)]:=by rw[← rN2]; exact rdCells_eq (jx.gt _ (by omega))
 have mi:=mksA_nat (h:=h5) (z:=[.int .i64 0]) (e:=1) (bytes:=8) (n:=nn) (by unfold tooMany; omega) (by unfold tooMany; omega)
 have x6:Ext h5.next h5 (h5.new (.cells (repl [.int .i64 0] nn) 1 false)):=Ext.new (Nat.le_refl _)
 have g6:(h5.new (.cells (repl [.int .i64 0] nn) 1 false)).get h5.next=some (.cells (repl [.int .i64 0] nn) 1 false):=by rw[AH.get_new,if_pos rfl]
 have n6:(h5.new (.cells (repl [.int .i64 0] nn) 1 false)).next=h5.next+1:=rfl
 refine W.seq (W.run (by simp only[am,evOp,simprocAttr,e2,rN5,mi]<;>rfl) ?_)
 generalize (h5.new (.cells (repl [.int .i64 0] nn) 1 false))=h6 at *
 rw[il_repl] at g6
 obtain⟨h7,w7,x7,g7,n7⟩:=mk_loc (h:=h6) (z:=[.int .i64 0,.nils]) (cs:=[.int .i64 0,.nils]) (e:=2) rfl
 refine W.seq (W.run (by simp only[am,evOp,simprocAttr,w7]<;>rfl) ?_)
 rw[n6] at g7 n7
 have X7:Ext h5.next h5 h7:=x6.trans (x7.mono (by omega))
 have g67:h7.get h5.next=some (.cells (il nn fun _=>0) 1 false):=by rw[x7.gt _ (by omega)]; exact g6
 clear mi w7 g6
 refine W.seq (W.seq (W.run (by simp only[am,evOp,simprocAttr]<;>rfl) ?_))
 refine W.whl (α:=Unit) (N:=nn) (fun k _=>[(1,iv),(2,.ptr h.next 0),(4,.ptr (h.next+1) 0),(7,.sl (h2.next+1) 0 nn nn),(10,.sl h5.next 0 nn nn),(11,.ptr (h5.next+1) 0),(12,.int .i64 (k:Nat))])
  (fun k _ h'=>h'.next=h7.next∧Ext h5.next h5 h'∧h'.get h5.next=some (.cells (il nn fun v=>if v<k∧((v:Nat):Int)∈endsS E es then (((vsM v E es).length:Nat):Int) else 0) 1 false)∧h'.get (h5.next+1)=some (.cells [.int .i64 ((vsM k E es).length:Nat),.nils] 2 false)) () (by simp only[hl,am,evOp,simprocAttr,e1,e2,e4,e7,n6,Int.natCast_zero])
  ⟨rfl,X7,by rw[g67]; simp,by rw[g7]; rfl⟩ ?_ ?_ ?_
 ·clear e1 e2 e4 e6 e7 e8
  rintro k _ ts h8 hk ⟨l1,lx,lu,lg⟩ ⟨e1,e2,e4,e7,e10,e11,e12,-⟩
  simp only at e1 e2 e4 e7 e10 e11 e12
  have rN8:rdCells h8 h.next 0 1=some [.int .i64 ((nn:Nat):Int)]:=by rw[← rN5]; exact rdCells_eq (lx.gt _ (by omega))
  exact⟨_,(by simp only[am,evOp,simprocAttr,e2,e12,rN8,Int.ofNat_lt]<;>rfl),by simp only[am,evOp,simprocAttr],by simp only[hl,am,evOp,simprocAttr,e1,e2,e4,e7,e10,e11,e12]⟩
 ·clear e1 e2 e4 e6 e7 e8
  rintro k _ ts h8 hk ⟨l1,lx,lu,lg⟩ ⟨e1,e2,e4,e7,e10,e11,e12,-⟩
  simp only at e1 e2 e4 e7 e10 e11 e12
  have w1:=w1_ok (k:=k) (by omega)
  have ik:idx? ((k:Nat):Int) nn=some k:=idx_nat hk
  have ri:rdCells h8 (h2.next+1) k 1=some [.bool (decide (((k:Nat):Int)∈endsS E es))]:=by
   rw[rdCells_eq (lx.gt _ (by omega))]
   exact rd_at ji (bl_at hk)
  refine W.seq (W.run (by simp only[am,evOp,simprocAttr,e7,e12,ik,Nat.mul_one,ri]<;>rfl) ?_)
  have hvs:=vs_succ k E es
  refine W.cond (t:=decide (((k:Nat):Int)∈endsS E es)) (by simp only[am,evOp,simprocAttr]) (fun p=>?_) fun p=>?_
  ·have p:((k:Nat):Int)∈endsS E es:=of_decide_eq_true p
   rw[if_pos p] at hvs
   have rg:rdCells h8 (h5.next+1) 0 1=some [.int .i64 ((vsM k E es).length:Nat)]:=rd_at lg rfl
   have hvl:(vsM k E es).length≤k:=by
    unfold vsM
    exact Nat.le_trans (List.length_filter_le ..) (by rw[upTo_len]; omega)
   have w2:=w1_ok (k:=(vsM k E es).length) (by omega)
   have wn:=wr_at (v:=.int .i64 ((vsM k E es).length:Nat)) lu (i:=k) (by rw[il_len]; exact hk)
   have un:=Upd.put (o:=.cells ((il nn fun v=>if v<k∧((v:Nat):Int)∈endsS E es then (((vsM v E es).length:Nat):Int) else 0).set k (.int .i64 ((vsM k E es).length:Nat))) 1 false) lu
   refine W.seq (W.run (by simp only[am,evOp,simprocAttr,e10,e11,e12,ik,Nat.mul_one,rg,wn]<;>rfl) ?_)
   generalize (h8.put h5.next (.cells ((il nn fun v=>if v<k∧((v:Nat):Int)∈endsS E es then (((vsM v E es).length:Nat):Int) else 0).set k (.int .i64 ((vsM k E es).length:Nat))) 1 false))=h9 at *
   have lg9:h9.get (h5.next+1)=some (.cells [.int .i64 ((vsM k E es).length:Nat),.nils] 2 false):=by rw[un.ne (by omega)]; exact lg
   have rg9:rdCells h9 (h5.next+1) 0 1=some [.int .i64 ((vsM k E es).length:Nat)]:=rd_at lg9 rfl
   have wg:=wr_at (v:=.int .i64 (((vsM k E es).length+1:Nat):Int)) lg9 (i:=0) (by simp)
   have ug:=Upd.put (o:=.cells ([.int .i64 ((vsM k E es).length:Nat),.nils].set 0 (.int .i64 (((vsM k E es).length+1:Nat):Int))) 2 false) lg9
   refine W.run (by simp only[am,evOp,simprocAttr,e11,rg9,w2,wg]<;>rfl) ?_
   refine⟨(),⟨by rw[ug.nx,un.nx]; exact l1,lx.trans ((un.ext (Nat.le_refl _)).trans (ug.ext (by omega))),?_,?_⟩,_,(by simp only[am,evOp,simprocAttr,e12,w1]<;>rfl),by simp only[hl,am,evOp,simprocAttr,e1,e2,e4,e7,e10,e11]⟩
   ·rw[ug.ne (by omega),un.get,il_set]
    congr 2
    refine il_congr fun i _=>?_
    by_cases e:i=k
    ·subst e
     rw[if_pos rfl,if_pos ⟨Nat.lt_succ_self _,p⟩]
    ·rw[if_neg e]
     by_cases e2:i<k
     ·simp only[e2,show i<k+1 by omega]
     ·simp only[e2,show ¬ i<k+1 by omega]
   ·rw[ug.get,hvs,List.length_append]
    rfl
  ·have p:¬ ((k:Nat):Int)∈endsS E es:=of_decide_eq_false p
   rw[if_neg p,List.append_nil] at hvs
   refine W.skip ⟨(),⟨l1,lx,?_,?_⟩,_,(by simp only[am,evOp,simprocAttr,e12,w1]<;>rfl),by simp only[hl,am,evOp,simprocAttr,e1,e2,e4,e7,e10,e11]⟩
   ·rw[lu]
    congr 2
    refine il_congr fun i _=>?_
    by_cases e:i=k
    ·subst e
     rw[if_neg (fun q=>absurd q.2 p),if_neg (fun q=>absurd q.2 p)]
    ·by_cases e2:i<k
     ·simp only[e2,show i<k+1 by omega]
     ·simp only[e2,show ¬ i<k+1 by omega]
   ·rw[lg,hvs]
 clear e1 e2 e4 e6 e7 e8
 rintro _ ts h8 ⟨l1,lx,lu,lg⟩ ⟨e1,e2,e4,e7,e10,e11,e12,-⟩
 simp only at e1 e2 e4 e7 e10 e11
 have X8:Ext h2.next h2 h8:=jx.trans (lx.mono (by omega))
 have hnm:∀ v:Nat,((v:Nat):Int)∈endsS E es→v<nn∧(il nn fun v=>if v<nn∧((v:Nat):Int)∈endsS E es then (((vsM v E es).length:Nat):Int) else 0)[v]?=some (.int .i64 ((rankM nn E es ((v:Nat):Int):Nat):Int)):=fun v hv=>by
  have:=hin _ hv
  have hvn:v<nn:=by omega
  refine⟨hvn,?_⟩
  rw[il_at hvn,if_pos ⟨hvn,hv⟩]
  have hr:=rank_below (E:=E) (es:=es) (v:=v) (nn-v)
  rw[show v+(nn-v)=nn by omega] at hr
  rw[hr]
 refine W.seq ?_
 refine W.seq (W.run (by simp only[am,evOp,simprocAttr]<;>rfl) ?_)
 refine W.whl (α:=AV) (N:=es.length) (fun k _=>[(1,iv),(2,.ptr h.next 0),(4,.ptr (h.next+1) 0),(10,.sl h5.next 0 nn nn),(11,.ptr (h5.next+1) 0),(13,.int .i64 (k:Nat))])
  (fun k a h'=>Ext (h5.next+1) h8 h'∧h'.get (h5.next+1)=some (.cells [.int .i64 ((vsM nn E es).length:Nat),a] 2 false)∧IsSl h' 2 (h5.next+2) a (((es.take k).map fun i=>(((rankM nn E es (edM E i).1:Nat):Int),((rankM nn E es (edM E i).2:Nat):Int))).flatMap eE)) .nils (by simp only[hl,am,evOp,simprocAttr,e1,e2,e4,e10,e11,Int.natCast_zero])
  ⟨Ext.refl,lg,.inl ⟨rfl,by simp⟩⟩ ?_ ?_ ?_
 ·clear e1 e2 e4 e7 e10 e11 e12
  rintro k a ts h9 hk ⟨kx,kg,ka⟩ ⟨e1,e2,e4,e10,e11,e13,-⟩
  simp only at e1 e2 e4 e10 e11 e13
  exact⟨_,(by simp only[am,evOp,simprocAttr,e1,e13,il_,Int.ofNat_lt]<;>rfl),by simp only[am,evOp,simprocAttr],by simp only[hl,am,evOp,simprocAttr,e1,e2,e4,e10,e11,e13]⟩
 ·clear e1 e2 e4 e7 e10 e11 e12
  rintro k a ts h9 hk ⟨kx,kg,ka⟩ ⟨e1,e2,e4,e10,e11,e13,-⟩
  simp only at e1 e2 e4 e10 e11 e13
  have w1:=w1_ok (k:=k) (by omega)
  have n9:=kx.nx
  have n8:=X8.nx
  have X9:Ext h2.next h2 h9:=X8.trans (kx.mono (by omega))
  have he9:=he2.ext X9 (Nat.le_refl _)
  have hi9:=hi2.ext X9 (Nat.le_refl _)
  have rA9:rdCells h9 h.next 1 1=some [ev]:=by rw[← rA2]; exact rdCells_eq (X9.gt _ (by omega))
  obtain⟨b1,p1,a1,r1,_⟩:=hi9.at1 (map_at (f:=eI) hk)
  have hiz:=j1.1 _ (List.getElem_mem hk)
  obtain⟨z,hz⟩:∃ z:Nat,es[k]=z:=⟨es[k].toNat,by omega⟩
  have hzl:z<E.length:=by omega
  rw[hz] at r1
  obtain⟨eb1,ep,a7,r7,_,_⟩:=he9.at (map_at (f:=eE) hzl)
  have ed:edM E es[k]=E[z]:=ed_at hz hzl
  have hmem:E[z].1∈endsS E es∧E[z].2∈endsS E es:=by
   unfold endsS
   rw[List.mem_flatMap,List.mem_flatMap]
   exact⟨⟨es[k],List.getElem_mem hk,by rw[ed]; simp⟩,⟨es[k],List.getElem_mem hk,by rw[ed]; simp⟩⟩
  have t1:=hin _ hmem.1
  have t2:=hin _ hmem.2
  obtain⟨x,hx⟩:∃ x:Nat,E[z].1=x:=⟨E[z].1.toNat,by omega⟩
  obtain⟨y,hy⟩:∃ y:Nat,E[z].2=y:=⟨E[z].2.toNat,by omega⟩
  have hst:=sub_step (n:=nn) (E:=E) (F:=es) hk
  rw[ed,hx,hy] at hst
  rw[hx,hy] at hmem
  obtain⟨xl,xa⟩:=hnm x hmem.1
  obtain⟨yl,ya⟩:=hnm y hmem.2
  have eEz:eE E[z]=[.int .i64 ((x:Nat):Int),.int .i64 ((y:Nat):Int)]:=by rw[← hx,← hy]; rfl
  rw[eEz] at r7
  obtain⟨h10,w10,x10,g10,n10⟩:=mk_loc (h:=h9) (z:=[.int .i64 0,.int .i64 0]) (cs:=[.int .i64 ((x:Nat):Int),.int .i64 ((y:Nat):Int)]) (e:=2) rfl
  refine W.seq (W.run (by simp only[am,evOp,simprocAttr,e1,e2,e13,rA9,a1,r1,a7,r7,w10]<;>rfl) ?_)
  have kx10:Ext (h5.next+1) h8 h10:=kx.trans (x10.mono (by omega))
  have hk5:∀ c,c<h10.next→(h10.keep 1).get c=h10.get c:=fun c hc=>by rw[AH.keep_get,if_neg (by omega)]
  have q7:(h10.keep 1).get h10.next=some .resv:=keep1_get
  have kg10:h10.get (h5.next+1)=some (.cells [.int .i64 ((vsM nn E es).length:Nat),a] 2 false):=by rw[x10.gt _ (by omega)]; exact kg
  have lu10:h10.get h5.next=some (.cells (il nn fun v=>if v<nn∧((v:Nat):Int)∈endsS E es then (((vsM v E es).length:Nat):Int) else 0) 1 false):=by rw[kx10.gt _ (by omega)]; exact lu
  have rg:rdCells (h10.keep 1) (h5.next+1) 1 1=some [a]:=by rw[rdCells_eq (hk5 _ (by omega))]; exact rd_at kg10 rfl
  have rx:rdCells (h10.keep 1) h5.next x 1=some [.int .i64 ((rankM nn E es ((x:Nat):Int):Nat):Int)]:=by rw[rdCells_eq (hk5 _ (by omega))]; exact rd_at lu10 xa
  have ry:rdCells (h10.keep 1) h5.next y 1=some [.int .i64 ((rankM nn E es ((y:Nat):Int):Nat):Int)]:=by rw[rdCells_eq (hk5 _ (by omega))]; exact rd_at lu10 ya
  have rl0:rdCells (h10.keep 1) h9.next 0 1=some [.int .i64 ((x:Nat):Int)]:=by rw[rdCells_eq (hk5 _ (by omega))]; exact rd_at g10 rfl
  have rl1:rdCells (h10.keep 1) h9.next 1 1=some [.int .i64 ((y:Nat):Int)]:=by rw[rdCells_eq (hk5 _ (by omega))]; exact rd_at g10 rfl
  have ix:idx? ((x:Nat):Int) nn=some x:=idx_nat xl
  have iy:idx? ((y:Nat):Int) nn=some y:=idx_nat yl
  obtain⟨p1',p2,p3,p4⟩:=keep1_put (h:=h10) (o:=.cells [.int .i64 ((rankM nn E es ((x:Nat):Int):Nat):Int),.int .i64 ((rankM nn E es ((y:Nat):Int):Nat):Int)] 2 false)
  have hlenk:(((es.take k).map fun i=>(((rankM nn E es (edM E i).1:Nat):Int),((rankM nn E es (edM E i).2:Nat):Int))).flatMap eE).length=k*2:=by
   rw[flat_len (f:=eE) (e:=2) (fun _=>rfl),List.length_map,List.length_take,Nat.min_eq_left (by omega)]
  have ka10:=(ka.ext x10 (Nat.le_refl _)).ext p1' (Nat.le_refl _)
  obtain⟨s',h12,a12,i12,x12,hs12,n12,k12,t12⟩:=ka10.app (bytes:=16) (x:=h10.next) (new:=[.int .i64 ((rankM nn E es ((x:Nat):Int):Nat):Int),.int .i64 ((rankM nn E es ((y:Nat):Int):Nat):Int)]) (by rw[p3]; omega) (by omega) p2 (by omega) (fun b m hb=>by have:=(ka.ext x10 (Nat.le_refl _)).lt hb; omega) rfl rfl
   (by rw[hlenk,Nat.mul_div_cancel _ (by omega)]; unfold tooMany; omega) (by rw[hlenk,Nat.mul_div_cancel _ (by omega)]; unfold tooMany; omega)
  have kg12:h12.get (h5.next+1)=some (.cells [.int .i64 ((vsM nn E es).length:Nat),a] 2 false):=by rw[x12.gt _ (by omega),p1'.gt _ (by omega)]; exact kg10
  obtain⟨sc,so⟩:=i12.cells
  have w12:=wr_at (v:=s') kg12 (i:=1) (by simp)
  have u12:=Upd.put (o:=.cells ([.int .i64 ((vsM nn E es).length:Nat),a].set 1 s') 2 false) kg12
  refine W.runK (by simp only[am,evOp,simprocAttr,e10,e11,rg,rx,ry,rl0,rl1,ix,iy,Nat.mul_one,evN_some,evNew_mksl q7,a12,w12,sc,so]<;>rfl) ?_
  refine⟨s',⟨kx10.trans ((p1'.mono (by omega)).trans ((x12.mono (by omega)).trans (u12.ext (by omega)))),u12.get,?_⟩,_,(by simp only[am,evOp,simprocAttr,e13,w1]<;>rfl),by simp only[hl,am,evOp,simprocAttr,e1,e2,e4,e10,e11]⟩
  rw[hst,List.flatMap_append]
  exact i12.cong fun b n _ hb=>u12.ne (by omega)
 clear e1 e2 e4 e7 e10 e11 e12
 rintro a ts h9 ⟨kx,kg,ka⟩ ⟨e1,e2,e4,e10,e11,e13,-⟩
 simp only at e4 e11
 rw[List.take_length] at ka
 have n8:=X8.nx
 have X9:Ext h2.next h2 h9:=X8.trans (kx.mono (by omega))
 have rg:rdCells h9 (h5.next+1) 0 2=some [.int .i64 ((vsM nn E es).length:Nat),a]:=by rw[rdCells_of kg]; rfl
 have gB9:h9.get (h.next+1)=some (.cells [.int .i64 0,.nils] 2 false):=by rw[X9.gt _ (by omega)]; exact gB2
 obtain⟨ac,ao⟩:=ka.cells
 have u:=Upd.put (o:=.cells [.int .i64 ((vsM nn E es).length:Nat),a] 2 false) gB9
 have wB:wrCells h9 (h.next+1) 0 [.int .i64 ((vsM nn E es).length:Nat),a]=some (h9.put (h.next+1) (.cells [.int .i64 ((vsM nn E es).length:Nat),a] 2 false)):=by rw[wrCells_of gB9]; rfl
 refine W.seq (W.run (by simp only[am,evOp,simprocAttr,e4,e11,rg,wB,ao]<;>rfl) ?_)
 have rB:rdCells (h9.put (h.next+1) (.cells [.int .i64 ((vsM nn E es).length:Nat),a] 2 false)) (h.next+1) 0 2=some [.int .i64 ((vsM nn E es).length:Nat),a]:=by rw[rdCells_of u.get]; rfl
 refine W.ret ⟨.tup [.agg [.int .i64 ((vsM nn E es).length:Nat),a],.bool true],(by simp only[rs,rf23,am,evOp,simprocAttr,e4,rB]<;>rfl),X2.trans ((X9.mono (by omega)).trans (u.ext (by omega))),fun q=>absurd hok q,fun _=>⟨a,rfl,?_⟩⟩
 exact IsSl.sl (by omega) (fun _=>rfl) (ka.cong fun b n _ hb=>u.ne (by omega))
end Go.Proofs.YtihedjolidbfiaaGreatDoor
