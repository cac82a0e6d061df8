/-
  slices.IndexFunc, Index, ContainsFunc, Contains (printed by tools/mkfnd.py). slices.Clone, slices.Equal (printed by tools/mkcln.py). slices.Grow of nothing, Concat, Min, Reverse (printed by tools/mkcat.py). graph.May.
-/
import Derived.Test.YtihedjolidbfiaaGreatDoorYRf
import Derived.Test.YtihedjolidbfiaaGreatDoorYAmL
import Derived.Test.YtihedjolidbfiaaGreatDoorYAmR
set_option linter.all false
namespace Go.Proofs.YtihedjolidbfiaaGreatDoor
open Go.Am
theorem idxfE_ok {h:AH}{v:AV}{xs:List (Int×Int)}{P:Int×Int→Bool}{k:FuncId}{caps:List AV} (hv:SlE h v xs) (hl:xs.length<2 ^ 40)
 (hf:∀ x∈xs,∀ h',Ext h.next h h'→C prg k ([.agg (eE x)]++caps) h' fun r h''=>r=.bool (P x)∧Ext h'.next h' h'') :
 C prg 62 [v,.fn k caps] h fun r h'=>r=.int .i64 (fidx P xs 0)∧Ext h.next h h':=by
 refine C.func pf62 ?_
 have hlen:=hv.len
 rw[List.length_map] at hlen
 refine W.seq (W.run (by simp only[am,evOp,simprocAttr,initTm]<;>rfl) ?_)
 refine W.seq (W.seq (W.run (by simp only[am,evOp,simprocAttr,initTm,hlen]<;>rfl) ?_))
 refine W.seq (W.cut (fun ts h1=>fidx P xs 0=-1∧Ext h.next h h1) (W.block (W.loop (fun n ts h1=>∃ i,n=xs.length-i∧i≤xs.length∧Ext h.next h h1∧fidx P (xs.drop i) i=fidx P xs 0∧tget ts 0=v∧tget ts 1=.fn k caps∧tget ts 7=.int .i64 (xs.length:Nat)∧tget ts 8=.int .i64 (i:Nat)) ?_ (n:=xs.length) ⟨0,rfl,Nat.zero_le _,Ext.refl,by rw[List.drop_zero],by simp only[am,evOp,↓reduceIte,Nat.reduceEqDiff,Int.reduceEq,Nat.reduceAdd,Nat.reduceLeDiff,reduceCtorEq,initTm],by simp only[am,evOp,↓reduceIte,Nat.reduceEqDiff,Int.reduceEq,Nat.reduceAdd,Nat.reduceLeDiff,reduceCtorEq,initTm],by simp only[am,evOp,↓reduceIte,Nat.reduceEqDiff,Int.reduceEq,Nat.reduceAdd,Nat.reduceLeDiff,reduceCtorEq,initTm],by simp only[am,evOp,↓reduceIte,Nat.reduceEqDiff,Int.reduceEq,Nat.reduceAdd,Nat.reduceLeDiff,reduceCtorEq,initTm]; rfl⟩)) ?_)
 ·rintro n ts h1 ⟨i,rfl,hi,ex,hF,e0,e1,e7,e8⟩
  refine W.seq (W.run (by simp only[am,evOp,simprocAttr,e7,e8]<;>rfl) ?_)
  refine W.seq (W.cond (t:=decide (i<xs.length)) (by simp only[am,evOp,simprocAttr,Int.ofNat_lt]) (fun q=>?_) fun q=>?_)
  ·have q:i<xs.length:=of_decide_eq_true q
   obtain⟨b,p,a1,r1,_,_⟩:=(hv.ext ex (Nat.le_refl _)).at (map_at (f:=eE) q)
   refine W.skip (W.seq (W.block (W.seq (W.run (by simp only[am,evOp,simprocAttr,e8]<;>rfl) ?_))))
   have hc:=hf _ (List.getElem_mem q) h1 ex
   refine W.seq (W.reg (G.gcallv 5 (by simp only[am,evOp,simprocAttr,e0,e1,e7,e8,a1,r1]<;>rfl) rfl (by simp only[am,evOp,simprocAttr,e0,e1,e7,e8,a1,r1]) (by simp only[am,evOp,simprocAttr,e0,e1,e7,e8,a1,r1]<;>rfl) (by simp only[am,evOp,simprocAttr,e0,e1,e7,e8,a1,r1]<;>rfl) (hc) fun r h2 hq=>?_))
   obtain⟨rfl,ex2⟩:=hq
   have ex3:=ex.trans (ex2.mono ex.nx)
   refine G.run (by simp only[am,evOp,simprocAttr]<;>rfl) ?_
   refine W.cond (t:=P xs[i]) (by simp only[am,evOp,simprocAttr]) (fun q2=>?_) fun q2=>?_
   ·refine W.seq (W.run (by simp only[am,evOp,simprocAttr]<;>rfl) ?_)
    refine W.ret ⟨.int .i64 (i:Nat),(by simp only[rs,rf62,am,evOp,simprocAttr]<;>rfl),?_,ex3⟩
    rw[← hF,fidx_drop P q,if_pos q2]
   ·have w1:IntKind.i64.wrap (((i:Nat):Int)+1)=((i+1:Nat):Int):=wr64 (by omega) (by omega)
    refine W.skip (W.run (by simp only[am,evOp,simprocAttr,e8,w1]<;>rfl) ?_)
    refine⟨xs.length-(i+1),by omega,i+1,rfl,by omega,ex3,?_,by simp only[am,evOp,simprocAttr,e0],by simp only[am,evOp,simprocAttr,e1],by simp only[am,evOp,simprocAttr,e7],by simp only[am,evOp,simprocAttr,e8,w1]⟩
    rw[← hF,fidx_drop P q,if_neg (by simp [q2])]
  ·have q:¬ i<xs.length:=of_decide_eq_false q
   refine W.exit ⟨fun _=>⟨?_,ex⟩,fun e=>absurd rfl e⟩
   rw[← hF,List.drop_eq_nil_of_le (by omega)]
   rfl
 ·rintro ts h1 ⟨hF,ex⟩
  refine W.seq (W.run (by simp only[am,evOp,simprocAttr]<;>rfl) ?_)
  exact W.ret ⟨.int .i64 (-1),(by simp only[rs,rf62,am,evOp,simprocAttr]<;>rfl),by rw[hF],ex⟩
theorem contfE_ok {h:AH}{v:AV}{xs:List (Int×Int)}{P:Int×Int→Bool}{k:FuncId}{caps:List AV} (hv:SlE h v xs) (hl:xs.length<2 ^ 40)
 (hf:∀ x∈xs,∀ h',Ext h.next h h'→C prg k ([.agg (eE x)]++caps) h' fun r h''=>r=.bool (P x)∧Ext h'.next h' h'') :
 C prg 80 [v,.fn k caps] h fun r h'=>r=.bool (xs.any P)∧Ext h.next h h':=by
 refine C.func pf80 ?_
 refine W.seq (W.run (by simp only[am,evOp,simprocAttr,initTm]<;>rfl) ?_)
 refine W.seq (W.reg (G.gcall 2 (by simp only[am,evOp,simprocAttr,initTm]<;>rfl) rfl (by simp only[am,evOp,simprocAttr,initTm]) (by simp only[am,evOp,simprocAttr,initTm]<;>rfl) (idxfE_ok hv hl hf) fun r h2 hq=>?_))
 obtain⟨rfl,ex⟩:=hq
 have hb:decide ((0:Int)≤fidx P xs 0)=xs.any P:=by
  have:=(fidx_lo P xs 0).2
  cases hq:xs.any P with
  | true=>rw[decide_eq_true_eq]; rw[hq] at this; simp at this; omega
  | false=>rw[decide_eq_false_iff_not]; have:=this.2 hq; omega
 refine G.run (by simp only[am,evOp,simprocAttr,hb]<;>rfl) ?_
 exact W.ret ⟨_,(by simp only[rs,rf80,am,evOp,simprocAttr]<;>rfl),rfl,ex⟩
theorem idxI_ok {h:AH}{v:AV}{xs:List (Int)}{y:Int} (hv:SlI h v xs) (hl:xs.length<2 ^ 40) :
 C prg 82 [v,.int .i64 y] h fun r h'=>r=.int .i64 (fidx (y==·) xs 0)∧Ext h.next h h':=by
 refine C.func pf82 ?_
 have hlen:=hv.len
 rw[List.length_map] at hlen
 have ex0:Ext h.next h h:=Ext.refl
 refine W.seq (W.run (by simp only[am,evOp,simprocAttr,initTm]<;>rfl) ?_)
 refine W.seq (W.seq (W.run (by simp only[am,evOp,simprocAttr,initTm,hlen]<;>rfl) ?_))
 refine W.seq (W.cut (fun ts h1=>fidx (y==·) xs 0=-1∧h1=h) (W.block (W.loop (fun n ts h1=>∃ i,n=xs.length-i∧i≤xs.length∧h1=h∧fidx (y==·) (xs.drop i) i=fidx (y==·) xs 0∧tget ts 0=v∧tget ts 1=.int .i64 y∧tget ts 7=.int .i64 (xs.length:Nat)∧tget ts 8=.int .i64 (i:Nat)) ?_ (n:=xs.length) ⟨0,rfl,Nat.zero_le _,rfl,by rw[List.drop_zero],by simp only[am,evOp,↓reduceIte,Nat.reduceEqDiff,Int.reduceEq,Nat.reduceAdd,Nat.reduceLeDiff,reduceCtorEq,initTm],by simp only[am,evOp,↓reduceIte,Nat.reduceEqDiff,Int.reduceEq,Nat.reduceAdd,Nat.reduceLeDiff,reduceCtorEq,initTm],by simp only[am,evOp,↓reduceIte,Nat.reduceEqDiff,Int.reduceEq,Nat.reduceAdd,Nat.reduceLeDiff,reduceCtorEq,initTm],by simp only[am,evOp,↓reduceIte,Nat.reduceEqDiff,Int.reduceEq,Nat.reduceAdd,Nat.reduceLeDiff,reduceCtorEq,initTm]; rfl⟩)) ?_)
 ·rintro n ts h1 ⟨i,rfl,hi,rfl,hF,e0,ek,e7,e8⟩
  refine W.seq (W.run (by simp only[am,evOp,simprocAttr,e7,e8]<;>rfl) ?_)
  refine W.seq (W.cond (t:=decide (i<xs.length)) (by simp only[am,evOp,simprocAttr,Int.ofNat_lt]) (fun q=>?_) fun q=>?_)
  ·have q:i<xs.length:=of_decide_eq_true q
   obtain⟨b,p,a1,r1,_,_⟩:=(hv.ext ex0 (Nat.le_refl _)).at (map_at (f:=eI) q)
   refine W.skip (W.seq (W.block (W.seq (W.run (by simp only[am,evOp,simprocAttr,e8]<;>rfl) ?_))))
   have ceq:decide (y=xs[i])=(y==xs[i]):=rfl
   refine W.seq (W.run (by simp only[am,evOp,simprocAttr,e0,ek,e7,e8,a1,r1,ceq,eI]<;>rfl) ?_)
   refine W.cond (t:=y==xs[i]) (by simp only[am,evOp,simprocAttr]) (fun q2=>?_) fun q2=>?_
   ·refine W.seq (W.run (by simp only[am,evOp,simprocAttr]<;>rfl) ?_)
    refine W.ret ⟨.int .i64 (i:Nat),(by simp only[rs,rf82,am,evOp,simprocAttr]<;>rfl),?_,ex0⟩
    rw[← hF,fidx_drop _ q,if_pos q2]
   ·have w1:IntKind.i64.wrap (((i:Nat):Int)+1)=((i+1:Nat):Int):=wr64 (by omega) (by omega)
    refine W.skip (W.run (by simp only[am,evOp,simprocAttr,e8,w1]<;>rfl) ?_)
    refine⟨xs.length-(i+1),by omega,i+1,rfl,by omega,rfl,?_,by simp only[am,evOp,simprocAttr,e0],by simp only[am,evOp,simprocAttr,ek],by simp only[am,evOp,simprocAttr,e7],by simp only[am,evOp,simprocAttr,e8,w1]⟩
    rw[← hF,fidx_drop _ q,if_neg (by simp [q2])]
  ·have q:¬ i<xs.length:=of_decide_eq_false q
   refine W.exit ⟨fun _=>⟨?_,rfl⟩,fun e=>absurd rfl e⟩
   rw[← hF,List.drop_eq_nil_of_le (by omega)]
   rfl
 ·rintro ts h1 ⟨hF,rfl⟩
  refine W.seq (W.run (by simp only[am,evOp,simprocAttr]<;>rfl) ?_)
  exact W.ret ⟨.int .i64 (-1),(by simp only[rs,rf82,am,evOp,simprocAttr]<;>rfl),by rw[hF],ex0⟩
theorem contI_ok {h:AH}{v:AV}{xs:List (Int)}{y:Int} (hv:SlI h v xs) (hl:xs.length<2 ^ 40) :
 C prg 47 [v,.int .i64 y] h fun r h'=>r=.bool (xs.any (y==·))∧Ext h.next h h':=by
 refine C.func pf47 ?_
 refine W.seq (W.run (by simp only[am,evOp,simprocAttr,initTm]<;>rfl) ?_)
 have ex0:Ext h.next h h:=Ext.refl
 have hc:=idxI_ok (y:=y) hv hl
 refine W.seq (W.reg (G.gcall 2 (by simp only[am,evOp,simprocAttr,initTm]<;>rfl) rfl (by simp only[am,evOp,simprocAttr,initTm]) (by simp only[am,evOp,simprocAttr,initTm]<;>rfl) (hc) fun r h2 hq=>?_))
 obtain⟨rfl,ex⟩:=hq
 have hb:decide ((0:Int)≤fidx (y==·) xs 0)=xs.any (y==·):=by
  have:=(fidx_lo (y==·) xs 0).2
  cases hq:xs.any (y==·) with
  | true=>rw[decide_eq_true_eq]; rw[hq] at this; simp at this; omega
  | false=>rw[decide_eq_false_iff_not]; have:=this.2 hq; omega
 refine G.run (by simp only[am,evOp,simprocAttr,hb]<;>rfl) ?_
 exact W.ret ⟨_,(by simp only[rs,rf47,am,evOp,simprocAttr]<;>rfl),rfl,ex0.trans (ex.mono ex0.nx)⟩
end Go.Proofs.YtihedjolidbfiaaGreatDoor
namespace Go.Proofs.YtihedjolidbfiaaGreatDoor
open Go.Am
end Go.Proofs.YtihedjolidbfiaaGreatDoor
namespace Go.Proofs.YtihedjolidbfiaaGreatDoor
open Go.Am
theorem slV_nils {h:AH}{e:Nat}:slV h e .nils none (some (.int .i64 0)) none=some .nils:=rfl
end Go.Proofs.YtihedjolidbfiaaGreatDoor
namespace Go.Proofs.YtihedjolidbfiaaGreatDoor
open Go.Am
def okE (v:Int) (e:Int×Int):Bool:=decide (0≤e.1)&&decide (0≤e.2)&&decide (e.1<v)&&decide (e.2<v)
def mayB (v:Int) (es:List (Int×Int)):Bool:=decide (1≤v)&&decide (v≤64)&&decide (es.length≤128)&&es.all (okE v)
def outB (v x:Int):Bool:=decide (x<0)||decide (v≤x)
theorem gmay1_ok {h:AH}{b:Nat}{x n:Int} (hr:rdCells h b 0 1=some [.int .i64 n]):C prg 79 [.int .i64 x,.ptr b 0] h fun r h'=>r=.bool (outB n x)∧h'=h:=by
 refine C.func pf79 ?_
 refine W.seq (W.run (by simp only[am,evOp,simprocAttr,initTm]<;>rfl) ?_)
 by_cases q:x<0
 ·have c1:decide (x<0)=true:=decide_eq_true q
  refine W.seq (W.run (by simp only[am,evOp,simprocAttr,initTm,c1]<;>rfl) ?_)
  exact W.ret ⟨.bool true,(by simp only[rs,rf79,am,evOp,simprocAttr,c1]<;>rfl),by simp [outB,q],rfl⟩
 ·have c1:decide (x<0)=false:=decide_eq_false q
  refine W.seq (W.run (by simp only[am,evOp,simprocAttr,initTm,c1,hr]<;>rfl) ?_)
  exact W.ret ⟨.bool (decide (n≤x)),(by simp only[rs,rf79,am,evOp,simprocAttr,c1]<;>rfl),by simp [outB,q],rfl⟩
theorem gmay2_ok {h:AH}{b s:Nat}{x:Int×Int}{n:Int} (hr:rdCells h b 0 1=some [.int .i64 n]) (hs:rdCells h s 0 1=some [.fn 79 [.ptr b 0]]) (hb:b<h.next) (hsn:s<h.next) :
 C prg 81 ([.agg (eE x)]++[.ptr s 0]) h fun r h'=>r=.bool (!okE n x)∧Ext h.next h h':=by
 refine C.func pf81 ?_
 have fin:(!okE n x)=(outB n x.1||outB n x.2):=by
  obtain⟨x1,x2⟩:=x
  simp only[okE,outB]
  by_cases a1:x1<0<;>by_cases a2:x2<0<;>by_cases a3:n≤x1<;>by_cases a4:n≤x2<;>simp [a1,a2,a3,a4]<;>omega
 rw[fin]
 refine W.seq (W.run (by simp only[am,evOp,simprocAttr,initTm,eE]<;>rfl) ?_)
 have ex:Ext h.next h (h.new (.cells [.int .i64 x.1,.int .i64 x.2] 2 false)):=Ext.new (Nat.le_refl _)
 have g:(h.new (.cells [.int .i64 x.1,.int .i64 x.2] 2 false)).get h.next=some (.cells [.int .i64 x.1,.int .i64 x.2] 2 false):=by rw[AH.get_new,if_pos rfl]
 generalize h.new (.cells [.int .i64 x.1,.int .i64 x.2] 2 false)=h1 at *
 have r1:rdCells h1 h.next 0 1=some [.int .i64 x.1]:=by rw[rdCells_of g]; rfl
 have r2:rdCells h1 h.next 1 1=some [.int .i64 x.2]:=by rw[rdCells_of g]; rfl
 have hr1:rdCells h1 b 0 1=some [.int .i64 n]:=by rw[← hr]; exact rdCells_eq (ex.gt b hb)
 have hs1:rdCells h1 s 0 1=some [.fn 79 [.ptr b 0]]:=by rw[← hs]; exact rdCells_eq (ex.gt s hsn)
 refine W.seq (W.reg (G.gcallv 3 (by simp only[am,evOp,simprocAttr,initTm,eE,hs1,r1]<;>rfl) rfl (by simp only[am,evOp,simprocAttr,initTm,eE,hs1,r1]) (by simp only[am,evOp,simprocAttr,initTm,eE,hs1,r1]<;>rfl) (by simp only[am,evOp,simprocAttr,initTm,eE,hs1,r1]<;>rfl) (gmay1_ok (x:=x.1) hr1) fun r h2 hq=>?_))
 obtain⟨rfl,rfl⟩:=hq
 cases q:outB n x.1 with
 | true =>
   refine G.nocallv 4 (by simp only[am,evOp,simprocAttr]<;>rfl) rfl (by simp only[am,evOp,simprocAttr]) ?_
   refine G.run (by simp only[am,evOp,simprocAttr]<;>rfl) ?_
   exact W.ret ⟨.bool true,(by simp only[rs,rf81,am,evOp,simprocAttr]<;>rfl),rfl,ex⟩
 | false =>
   refine G.gcallv 4 (by simp only[am,evOp,simprocAttr,initTm,eE,hs1,r2]<;>rfl) rfl (by simp only[am,evOp,simprocAttr,initTm,eE,hs1,r2]) (by simp only[am,evOp,simprocAttr,initTm,eE,hs1,r2]<;>rfl) (by simp only[am,evOp,simprocAttr,initTm,eE,hs1,r2]<;>rfl) (gmay1_ok (x:=x.2) hr1) fun r h3 hq=>?_
   obtain⟨rfl,rfl⟩:=hq
   refine G.run (by simp only[am,evOp,simprocAttr]<;>rfl) ?_
   exact W.ret ⟨.bool (outB n x.2),(by simp only[rs,rf81,am,evOp,simprocAttr]<;>rfl),rfl,ex⟩
theorem gmay_ok {h:AH}{n:Int}{ev:AV}{es:List (Int×Int)} (he:SlE h ev es) (hl:es.length<2 ^ 40):C prg 46 [.agg [.int .i64 n,ev]] h fun r h'=>r=.bool (mayB n es)∧Ext h.next h h':=by
 refine C.func pf46 ?_
 obtain⟨ec,eo⟩:=he.cells
 have hlen:=he.len
 rw[List.length_map] at hlen
 refine W.seq (W.run (by simp only[am,evOp,simprocAttr,initTm]<;>rfl) ?_)
 have ex0:Ext h.next h (h.new (.cells [.int .i64 n,ev] 2 false)):=Ext.new (Nat.le_refl _)
 have g0:(h.new (.cells [.int .i64 n,ev] 2 false)).get h.next=some (.cells [.int .i64 n,ev] 2 false):=by rw[AH.get_new,if_pos rfl]
 have n0:(h.new (.cells [.int .i64 n,ev] 2 false)).next=h.next+1:=rfl
 generalize h.new (.cells [.int .i64 n,ev] 2 false)=h0 at *
 have gN:(h0.new (.cells [.nilf] 1 false)).get h0.next=some (.cells [.nilf] 1 false):=by rw[AH.get_new,if_pos rfl]
 have w1:wrCells (h0.new (.cells [.nilf] 1 false)) h0.next 0 [.fn 79 [.ptr h.next 0]]=some ((h0.new (.cells [.nilf] 1 false)).put h0.next (.cells [.fn 79 [.ptr h.next 0]] 1 false)):=by rw[wrCells_of gN]; rfl
 have u1:Upd (h0.new (.cells [.nilf] 1 false)) ((h0.new (.cells [.nilf] 1 false)).put h0.next (.cells [.fn 79 [.ptr h.next 0]] 1 false)) h0.next (.cells [.fn 79 [.ptr h.next 0]] 1 false):=Upd.put gN
 refine W.seq (W.run (by simp only[am,evOp,simprocAttr,initTm,w1]<;>rfl) ?_)
 have ex1:Ext h0.next h0 ((h0.new (.cells [.nilf] 1 false)).put h0.next (.cells [.fn 79 [.ptr h.next 0]] 1 false)):=(Ext.new (Nat.le_refl _)).trans (u1.ext (Nat.le_refl _))
 have n1:((h0.new (.cells [.nilf] 1 false)).put h0.next (.cells [.fn 79 [.ptr h.next 0]] 1 false)).next=h0.next+1:=rfl
 have g1:=u1.get
 generalize (h0.new (.cells [.nilf] 1 false)).put h0.next (.cells [.fn 79 [.ptr h.next 0]] 1 false)=h1 at *
 clear gN w1 u1
 have g0':h1.get h.next=some (.cells [.int .i64 n,ev] 2 false):=by rw[ex1.gt _ (by omega)]; exact g0
 have r1:rdCells h1 h.next 0 1=some [.int .i64 n]:=by rw[rdCells_of g0']; rfl
 have r2:rdCells h1 h.next 1 1=some [ev]:=by rw[rdCells_of g0']; rfl
 have r3:rdCells h1 h0.next 0 1=some [.fn 79 [.ptr h.next 0]]:=by rw[rdCells_of g1]; rfl
 have ex:Ext h.next h h1:=ex0.trans (ex1.mono (by omega))
 have he1:=he.ext ex (Nat.le_refl _)
 by_cases q1:0<n
 case neg =>
  have c1:decide (0<n)=false:=decide_eq_false q1
  refine W.seq (W.reg (G.nocall 18 (by simp only[am,evOp,simprocAttr,initTm,r1,c1]<;>rfl) rfl (by simp only[am,evOp,simprocAttr,c1]) ?_))
  refine G.run (by simp only[am,evOp,simprocAttr]<;>rfl) ?_
  exact W.ret ⟨.bool false,(by simp only[rs,rf46,am,evOp,simprocAttr]<;>rfl),by simp [mayB]; omega,ex⟩
 have c1:decide (0<n)=true:=decide_eq_true q1
 by_cases q2:n≤64
 case neg =>
  have c2:decide (n≤64)=false:=decide_eq_false q2
  refine W.seq (W.reg (G.nocall 18 (by simp only[am,evOp,simprocAttr,initTm,r1,c1,c2]<;>rfl) rfl (by simp only[am,evOp,simprocAttr]) ?_))
  refine G.run (by simp only[am,evOp,simprocAttr]<;>rfl) ?_
  exact W.ret ⟨.bool false,(by simp only[rs,rf46,am,evOp,simprocAttr]<;>rfl),by simp [mayB,q2],ex⟩
 have c2:decide (n≤64)=true:=decide_eq_true q2
 by_cases q3:es.length≤128
 case neg =>
  have c3:decide (((es.length:Nat):Int)≤128)=false:=decide_eq_false (by omega)
  refine W.seq (W.reg (G.nocall 18 (by simp only[am,evOp,simprocAttr,initTm,r1,r2,hlen,c1,c2,c3]<;>rfl) rfl (by simp only[am,evOp,simprocAttr]) ?_))
  refine G.run (by simp only[am,evOp,simprocAttr]<;>rfl) ?_
  exact W.ret ⟨.bool false,(by simp only[rs,rf46,am,evOp,simprocAttr]<;>rfl),by simp [mayB,q3],ex⟩
 have c3:decide (((es.length:Nat):Int)≤128)=true:=decide_eq_true (by omega)
 have hcf:∀ x∈es,∀ h',Ext h1.next h1 h'→C prg 81 ([.agg (eE x)]++[.ptr h0.next 0]) h' fun r h''=>r=.bool (!okE n x)∧Ext h'.next h' h'':=fun x _ h' hx =>
  gmay2_ok (by rw[← r1]; exact rdCells_eq (hx.gt _ (by omega))) (by rw[← r3]; exact rdCells_eq (hx.gt _ (by omega))) (by have:=hx.nx; omega) (by have:=hx.nx; omega)
 refine W.seq (W.reg (G.gcall 18 (by simp only[am,evOp,simprocAttr,initTm,r1,r2,hlen,c1,c2,c3]<;>rfl) rfl (by simp only[am,evOp,simprocAttr,initTm,r1,r2,hlen,c1,c2,c3]) (by simp only[am,evOp,simprocAttr,initTm,r1,r2,hlen,c1,c2,c3]<;>rfl) (contfE_ok he1 hl hcf) fun r h2 hq=>?_))
 obtain⟨rfl,ex2⟩:=hq
 refine G.run (by simp only[am,evOp,simprocAttr]<;>rfl) ?_
 refine W.ret ⟨_,(by simp only[rs,rf46,am,evOp,simprocAttr]<;>rfl),?_,ex.trans (ex2.mono ex.nx)⟩
 have c4:decide (1≤n)=true:=decide_eq_true (by omega)
 have c5:(!es.any fun x=>!okE n x)=es.all (okE n):=by
  rw[List.not_any_eq_all_not]
  simp
 simp only[mayB,c4,c2,q3,decide_true,Bool.true_and,c5]
end Go.Proofs.YtihedjolidbfiaaGreatDoor
