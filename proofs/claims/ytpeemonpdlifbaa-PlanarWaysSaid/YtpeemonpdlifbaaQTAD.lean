/-
  graph.May. graph.Of; there, Outs, Ins. Taking vertices away one by one: plain facts. graph.View.run, Sources. slices.Min, Reverse of numbers. slices.Sort of ints: cmp.Less, the insertion sort. slices.Sort of ints: the heap. slices.Sort of ints: the partitions (printed by tools/mksrt3.py). slices.Sort of ints: the partial insertion sort, the pivot (printed by tools/mksrt4.py). How many bits a number has. slices.Sort of ints: the pivot; patterns. slices.Sort of ints: where the pivot is; breaking patterns. slices.Sort of ints (printed by tools/mksrt7.py). slices.Values, Collect, Sorted of numbers. graph.View.cycle: that there is one. graph.Check: whether there is a fault; front.New. front: span, bare, swap, above. front: a front; swap, above, ready. The row's laws: where a vertex's edges stand, what stays ready, orders, mirrors. front: Place, Ready, Done, Row, New. front: Ready, Done, Row, New. sweep: of, Run. sweep: Run. The definition's side: has, Ends, Each, Bare, May.
-/
import Derived.Test.YtpeemonpdlifbaaQTAC
import Derived.Test.YtpeemonpdlifbaaQAmA
set_option linter.all false
namespace Go.Proofs.Ytpeemonpdlifbaa
open Go.Am
def okE (v:Int) (e:Int×Int):Bool:=decide (0≤e.1)&&decide (0≤e.2)&&decide (e.1<v)&&decide (e.2<v)
def mayB (v:Int) (es:List (Int×Int)):Bool:=decide (1≤v)&&decide (v≤64)&&decide (es.length≤128)&&es.all (okE v)
def outB (v x:Int):Bool:=decide (x<0)||decide (v≤x)
theorem gmay1_ok {h:AH}{b:Nat}{x n:Int} (hr:rdCells h b 0 1=some [.int .i64 n]):C prg 41 [.int .i64 x,.ptr b 0] h fun r h'=>r=.bool (outB n x)∧h'=h:=by
 refine C.func pf41 ?_
 refine W.seq (W.run (by simp only[am,evOp,simprocAttr,initTm]<;>rfl) ?_)
 by_cases q:x<0
 ·have c1:decide (x<0)=true:=decide_eq_true q
  refine W.seq (W.run (by simp only[am,evOp,simprocAttr,initTm,c1]<;>rfl) ?_)
  exact W.ret ⟨.bool true,(by simp only[rs,rf41,am,evOp,simprocAttr,c1]<;>rfl),by simp [outB,q],rfl⟩
 ·have c1:decide (x<0)=false:=decide_eq_false q
  refine W.seq (W.run (by simp only[am,evOp,simprocAttr,initTm,c1,hr]<;>rfl) ?_)
  exact W.ret ⟨.bool (decide (n≤x)),(by simp only[rs,rf41,am,evOp,simprocAttr,c1]<;>rfl),by simp [outB,q],rfl⟩
theorem gmay2_ok {h:AH}{b s:Nat}{x:Int×Int}{n:Int} (hr:rdCells h b 0 1=some [.int .i64 n]) (hs:rdCells h s 0 1=some [.fn 41 [.ptr b 0]]) (hb:b<h.next) (hsn:s<h.next) :
 C prg 42 ([.agg (eE x)]++[.ptr s 0]) h fun r h'=>r=.bool (!okE n x)∧Ext h.next h h':=by
 refine C.func pf42 ?_
 have fin:(!okE n x)=(outB n x.1||outB n x.2):=by
  obtain⟨x1,x2⟩:=x
  simp only[okE,outB]
  by_cases a1:x1<0<;>by_cases a2:x2<0<;>by_cases a3:n≤x1<;>by_cases a4:n≤x2<;>simp [a1,a2,a3,a4]<;>omega
 rw[fin]
 refine W.seq (W.run (by simp only[am,evOp,simprocAttr,initTm,eE]<;>rfl) ?_)
 have ex:Ext h.next h (h.new (.cells [.int .i64 x.1,.int .i64 x.2] 2 false)):=Ext.new (Nat.le_refl _)
 have g:(h.new (.cells [.int .i64 x.1,.int .i64 x.2] 2 false)).get h.next=some (.cells [.int .i64 x.1,.int .i64 x.2] 2 false):=by rw[AH.get_new,if_pos rfl]
 generalize h.new (.cells [.int .i64 x.1,.int .i64 x.2] 2 false)=h1 at *
 have r1:rdCells h1 h.next 0 1=some [.int .i64 x.1]:=by rw[rdCells_of g]; rfl
 have r2:rdCells h1 h.next 1 1=some [.int .i64 x.2]:=by rw[rdCells_of g]; rfl
 have hr1:rdCells h1 b 0 1=some [.int .i64 n]:=by rw[← hr]; exact rdCells_eq (ex.gt b hb)
 have hs1:rdCells h1 s 0 1=some [.fn 41 [.ptr b 0]]:=by rw[← hs]; exact rdCells_eq (ex.gt s hsn)
 refine W.seq (W.reg (G.gcallv 3 (by simp only[am,evOp,simprocAttr,initTm,eE,hs1,r1]<;>rfl) rfl (by simp only[am,evOp,simprocAttr,initTm,eE,hs1,r1]) (by simp only[am,evOp,simprocAttr,initTm,eE,hs1,r1]<;>rfl) (by simp only[am,evOp,simprocAttr,initTm,eE,hs1,r1]<;>rfl) (gmay1_ok (x:=x.1) hr1) fun r h2 hq=>?_))
 obtain⟨rfl,rfl⟩:=hq
 cases q:outB n x.1 with
 | true =>
   refine G.nocallv 4 (by simp only[am,evOp,simprocAttr]<;>rfl) rfl (by simp only[am,evOp,simprocAttr]) ?_
   refine G.run (by simp only[am,evOp,simprocAttr]<;>rfl) ?_
   exact W.ret ⟨.bool true,(by simp only[rs,rf42,am,evOp,simprocAttr]<;>rfl),rfl,ex⟩
 | false =>
   refine G.gcallv 4 (by simp only[am,evOp,simprocAttr,initTm,eE,hs1,r2]<;>rfl) rfl (by simp only[am,evOp,simprocAttr,initTm,eE,hs1,r2]) (by simp only[am,evOp,simprocAttr,initTm,eE,hs1,r2]<;>rfl) (by simp only[am,evOp,simprocAttr,initTm,eE,hs1,r2]<;>rfl) (gmay1_ok (x:=x.2) hr1) fun r h3 hq=>?_
   obtain⟨rfl,rfl⟩:=hq
   refine G.run (by simp only[am,evOp,simprocAttr]<;>rfl) ?_
   exact W.ret ⟨.bool (outB n x.2),(by simp only[rs,rf42,am,evOp,simprocAttr]<;>rfl),rfl,ex⟩
theorem gmay_ok {h:AH}{n:Int}{ev:AV}{es:List (Int×Int)} (he:SlE h ev es) (hl:es.length<2 ^ 40):C prg 24 [.agg [.int .i64 n,ev]] h fun r h'=>r=.bool (mayB n es)∧Ext h.next h h':=by
 refine C.func pf24 ?_
 obtain⟨ec,eo⟩:=he.cells
 have hlen:=he.len
 rw[List.length_map] at hlen
 refine W.seq (W.run (by simp only[am,evOp,simprocAttr,initTm]<;>rfl) ?_)
 have ex0:Ext h.next h (h.new (.cells [.int .i64 n,ev] 2 false)):=Ext.new (Nat.le_refl _)
 have g0:(h.new (.cells [.int .i64 n,ev] 2 false)).get h.next=some (.cells [.int .i64 n,ev] 2 false):=by rw[AH.get_new,if_pos rfl]
 have n0:(h.new (.cells [.int .i64 n,ev] 2 false)).next=h.next+1:=rfl
 generalize h.new (.cells [.int .i64 n,ev] 2 false)=h0 at *
 have gN:(h0.new (.cells [.nilf] 1 false)).get h0.next=some (.cells [.nilf] 1 false):=by rw[AH.get_new,if_pos rfl]
 have w1:wrCells (h0.new (.cells [.nilf] 1 false)) h0.next 0 [.fn 41 [.ptr h.next 0]]=some ((h0.new (.cells [.nilf] 1 false)).put h0.next (.cells [.fn 41 [.ptr h.next 0]] 1 false)):=by rw[wrCells_of gN]; rfl
 have u1:Upd (h0.new (.cells [.nilf] 1 false)) ((h0.new (.cells [.nilf] 1 false)).put h0.next (.cells [.fn 41 [.ptr h.next 0]] 1 false)) h0.next (.cells [.fn 41 [.ptr h.next 0]] 1 false):=Upd.put gN
 refine W.seq (W.run (by simp only[am,evOp,simprocAttr,initTm,w1]<;>rfl) ?_)
 have ex1:Ext h0.next h0 ((h0.new (.cells [.nilf] 1 false)).put h0.next (.cells [.fn 41 [.ptr h.next 0]] 1 false)):=(Ext.new (Nat.le_refl _)).trans (u1.ext (Nat.le_refl _))
 have n1:((h0.new (.cells [.nilf] 1 false)).put h0.next (.cells [.fn 41 [.ptr h.next 0]] 1 false)).next=h0.next+1:=rfl
 have g1:=u1.get
 generalize (h0.new (.cells [.nilf] 1 false)).put h0.next (.cells [.fn 41 [.ptr h.next 0]] 1 false)=h1 at *
 clear gN w1 u1
 have g0':h1.get h.next=some (.cells [.int .i64 n,ev] 2 false):=by rw[ex1.gt _ (by omega)]; exact g0
 have r1:rdCells h1 h.next 0 1=some [.int .i64 n]:=by rw[rdCells_of g0']; rfl
 have r2:rdCells h1 h.next 1 1=some [ev]:=by rw[rdCells_of g0']; rfl
 have r3:rdCells h1 h0.next 0 1=some [.fn 41 [.ptr h.next 0]]:=by rw[rdCells_of g1]; rfl
 have ex:Ext h.next h h1:=ex0.trans (ex1.mono (by omega))
 have he1:=he.ext ex (Nat.le_refl _)
 by_cases q1:0<n
 case neg =>
  have c1:decide (0<n)=false:=decide_eq_false q1
  refine W.seq (W.reg (G.nocall 18 (by simp only[am,evOp,simprocAttr,initTm,r1,c1]<;>rfl) rfl (by simp only[am,evOp,simprocAttr,c1]) ?_))
  refine G.run (by simp only[am,evOp,simprocAttr]<;>rfl) ?_
  exact W.ret ⟨.bool false,(by simp only[rs,rf24,am,evOp,simprocAttr]<;>rfl),by simp [mayB]; omega,ex⟩
 have c1:decide (0<n)=true:=decide_eq_true q1
 by_cases q2:n≤64
 case neg =>
  have c2:decide (n≤64)=false:=decide_eq_false q2
  refine W.seq (W.reg (G.nocall 18 (by simp only[am,evOp,simprocAttr,initTm,r1,c1,c2]<;>rfl) rfl (by simp only[am,evOp,simprocAttr]) ?_))
  refine G.run (by simp only[am,evOp,simprocAttr]<;>rfl) ?_
  exact W.ret ⟨.bool false,(by simp only[rs,rf24,am,evOp,simprocAttr]<;>rfl),by simp [mayB,q2],ex⟩
 have c2:decide (n≤64)=true:=decide_eq_true q2
 by_cases q3:es.length≤128
 case neg =>
  have c3:decide (((es.length:Nat):Int)≤128)=false:=decide_eq_false (by omega)
  refine W.seq (W.reg (G.nocall 18 (by simp only[am,evOp,simprocAttr,initTm,r1,r2,hlen,c1,c2,c3]<;>rfl) rfl (by simp only[am,evOp,simprocAttr]) ?_))
  refine G.run (by simp only[am,evOp,simprocAttr]<;>rfl) ?_
  exact W.ret ⟨.bool false,(by simp only[rs,rf24,am,evOp,simprocAttr]<;>rfl),by simp [mayB,q3],ex⟩
 have c3:decide (((es.length:Nat):Int)≤128)=true:=decide_eq_true (by omega)
 have hcf:∀ x∈es,∀ h',Ext h1.next h1 h'→C prg 42 ([.agg (eE x)]++[.ptr h0.next 0]) h' fun r h''=>r=.bool (!okE n x)∧Ext h'.next h' h'':=fun x _ h' hx =>
  gmay2_ok (by rw[← r1]; exact rdCells_eq (hx.gt _ (by omega))) (by rw[← r3]; exact rdCells_eq (hx.gt _ (by omega))) (by have:=hx.nx; omega) (by have:=hx.nx; omega)
 refine W.seq (W.reg (G.gcall 18 (by simp only[am,evOp,simprocAttr,initTm,r1,r2,hlen,c1,c2,c3]<;>rfl) rfl (by simp only[am,evOp,simprocAttr,initTm,r1,r2,hlen,c1,c2,c3]) (by simp only[am,evOp,simprocAttr,initTm,r1,r2,hlen,c1,c2,c3]<;>rfl) (contfE_ok he1 hl hcf) fun r h2 hq=>?_))
 obtain⟨rfl,ex2⟩:=hq
 refine G.run (by simp only[am,evOp,simprocAttr]<;>rfl) ?_
 refine W.ret ⟨_,(by simp only[rs,rf24,am,evOp,simprocAttr]<;>rfl),?_,ex.trans (ex2.mono ex.nx)⟩
 have c4:decide (1≤n)=true:=decide_eq_true (by omega)
 have c5:(!es.any fun x=>!okE n x)=es.all (okE n):=by
  rw[List.not_any_eq_all_not]
  simp
 simp only[mayB,c4,c2,q3,decide_true,Bool.true_and,c5]
end Go.Proofs.Ytpeemonpdlifbaa
namespace Go.Proofs.Ytpeemonpdlifbaa
open Go.Am
def Rw (h:AH) (lo:Nat) (vs:List AV) (xss:List (List Int)):Prop :=
 vs.length=xss.length∧(∀ (i:Nat) (v:AV) (xs:List Int),vs[i]?=some v→xss[i]?=some xs→IsSl h 1 lo v (xs.flatMap eI))∧∀ (i j b n b' n':Nat),i≠j→vs[i]?=some (AV.sl b 0 n n)→vs[j]?=some (AV.sl b' 0 n' n')→b≠b'
theorem Rw.cong {h h':AH}{lo:Nat}{vs:List AV}{xss:List (List Int)} (hr:Rw h lo vs xss) (hk:∀ c,lo≤c→c<h.next→h'.get c=h.get c):Rw h' lo vs xss :=
 ⟨hr.1,fun i v xs h1 h2=>(hr.2.1 i v xs h1 h2).cong fun b n e hb=>hk b hb ((hr.2.1 i v xs h1 h2).lt e),hr.2.2⟩
theorem Rw.lt {h:AH}{lo:Nat}{vs:List AV}{xss:List (List Int)} (hr:Rw h lo vs xss) {j b n:Nat} (hj:vs[j]?=some (AV.sl b 0 n n)):b<h.next∧lo≤b:=by
 have hjl:j<vs.length:=(List.getElem?_eq_some_iff.1 hj).1
 have:=hr.2.1 j _ (xss[j]'(by rw[← hr.1]; exact hjl)) hj (List.getElem?_eq_getElem _)
 rcases this with ⟨q,_⟩|⟨b',n',q1,q2,q3,_⟩
 ·cases q
 ·cases q2; exact⟨AH.lt_of_get q3,q1⟩
theorem Rw.push {h:AH}{lo:Nat}{vs:List AV}{xss:List (List Int)} (hr:Rw h lo vs xss) {i x:Nat}{k:Int}{xs:List Int} (hi:xss[i]?=some xs) (hlo:lo≤h.next) (hx:h.get x=some (.cells [.int .i64 k] 1 false)) (hxl:lo≤x) (hxn:∀ (j b n:Nat),vs[j]?=some (AV.sl b 0 n n)→b≠x) (hl:xs.length<2 ^ 30) :
 ∃ v v' h',vs[i]?=some v∧appA h 1 8 v (.sl x 0 1 1)=some (v',h')∧v'.cells=[v']∧v'.one=true∧Rw h' lo (vs.set i v') (xss.set i (xs++[k]))∧Ext lo h h'∧h'.next=h.next+1∧∀ c,c<h.next→(∀ (j b n:Nat),vs[j]?=some (AV.sl b 0 n n)→b≠c)→h'.get c=h.get c∧∀ (j b n:Nat),(vs.set i v')[j]?=some (AV.sl b 0 n n)→b≠c:=by
 obtain⟨r1,r2,r3⟩:=hr
 have hil:i<xss.length:=(List.getElem?_eq_some_iff.1 hi).1
 have hv:vs[i]?=some vs[i]:=List.getElem?_eq_getElem (by omega)
 have hlen:(xs.flatMap eI).length=xs.length:=by rw[flat_len (f:=eI) (e:=1) (fun _=>rfl)]; omega
 obtain⟨v',h',a1,a2,a3,a4,a5,a6,a7⟩:=(r2 i _ xs hv hi).app (bytes:=8) hlo (by omega) hx hxl (fun b n e=>hxn i b n (by rw[hv,e])) rfl rfl (by rw[hlen]; unfold tooMany; omega) (by rw[hlen]; unfold tooMany; omega)
 obtain⟨c1,c2⟩:=a2.cells
 refine⟨_,v',h',hv,a1,c1,c2,⟨by rw[List.length_set,List.length_set,r1],?_,?_⟩,a3,a5,fun c hc hne=>⟨a6 c hc fun b n e=>(hne i b n (by rw[hv,e])).symm,fun j b n hj=>?_⟩⟩
 rotate_right
 ·by_cases e:i=j
  ·subst e
   rw[List.getElem?_set_self (by omega),Option.some.injEq,a4] at hj
   cases hj
   omega
  ·rw[List.getElem?_set_ne e] at hj
   exact hne j b n hj
 ·intro j w ys hw hy
  by_cases e:i=j
  ·subst e
   rw[List.getElem?_set_self (by omega),Option.some.injEq] at hw hy
   subst hw hy
   rw[List.flatMap_append]
   exact a2
  ·rw[List.getElem?_set_ne e] at hw hy
   refine (r2 j w ys hw hy).cong fun b n eb hb=>a6 b ((r2 j w ys hw hy).lt eb) fun b' n' e'=>?_
   exact (r3 i j b' n' b n e (by rw[hv,e']) (by rw[hw,eb])).symm
 ·have hlt:∀ j b n,vs[j]?=some (AV.sl b 0 n n)→b<h.next:=fun j b n hj=>by
   have hjl:j<vs.length:=(List.getElem?_eq_some_iff.1 hj).1
   exact (r2 j _ xss[j] hj (List.getElem?_eq_getElem (by omega))).lt rfl
  intro j1 j2 b n b' n' hne h1 h2
  by_cases e:i=j1
  ·subst e
   rw[List.getElem?_set_self (by omega),Option.some.injEq,a4] at h1
   rw[List.getElem?_set_ne hne] at h2
   have:=hlt _ _ _ h2
   cases h1
   omega
  ·rw[List.getElem?_set_ne e] at h1
   by_cases e2:i=j2
   ·subst e2
    rw[List.getElem?_set_self (by omega),Option.some.injEq,a4] at h2
    have:=hlt _ _ _ h1
    cases h2
    omega
   ·rw[List.getElem?_set_ne e2] at h2
    exact r3 _ _ _ _ _ _ hne h1 h2
theorem may_of {n:Nat}{es:List (Int×Int)} (hm:mayB (n:Nat) es=true):1≤n∧n≤64∧es.length≤128∧es.all (okE n)=true:=by
 simp only[mayB,Bool.and_eq_true,decide_eq_true_eq] at hm
 exact⟨by omega,by omega,by omega,hm.2⟩
theorem okE_nat {n:Nat}{e:Int×Int} (h:okE n e=true):∃ a b:Nat,e=(((a:Nat):Int),((b:Nat):Int))∧a<n∧b<n:=by
 obtain⟨x,y⟩:=e
 simp only[okE,Bool.and_eq_true,decide_eq_true_eq] at h
 exact⟨x.toNat,y.toNat,by rw[Int.toNat_of_nonneg (by omega),Int.toNat_of_nonneg (by omega)],by omega,by omega⟩
end Go.Proofs.Ytpeemonpdlifbaa
namespace Go.Proofs.Ytpeemonpdlifbaa
open Go.Am
end Go.Proofs.Ytpeemonpdlifbaa
namespace Go.Proofs.Ytpeemonpdlifbaa
open Go.Am
theorem flat_cI (xs:List Int):xs.flatMap eI=xs.map (AV.int .i64):=by
 induction xs with
 | nil=>rfl
 | cons x r ih=>rw[List.flatMap_cons,ih]; rfl
end Go.Proofs.Ytpeemonpdlifbaa
namespace Go.Proofs.Ytpeemonpdlifbaa
open Go.Am Go.Sort
theorem reverse_nil {h:AH}:C prg 57 [.nils] h fun _ h'=>h'=h:=by
 refine C.func pf57 ?_
 have w0:IntKind.i64.wrap (0-1)=-1:=by decide
 refine W.seq (W.run (by simp only[am,evOp,↓reduceIte,Nat.reduceEqDiff,Int.reduceEq,Nat.reduceAdd,Nat.reduceLeDiff,reduceCtorEq,initTm,lenLA_nils,w0]<;>rfl) ?_)
 refine W.block (W.loop (fun n ts h1=>h1=h∧tget ts 2=.int .i64 0∧tget ts 3=.int .i64 (-1)) ?_ (n:=0) ⟨rfl,by simp only[am,evOp,↓reduceIte,Nat.reduceEqDiff,Int.reduceEq,Nat.reduceAdd,Nat.reduceLeDiff,reduceCtorEq,initTm],by simp only[am,evOp,↓reduceIte,Nat.reduceEqDiff,Int.reduceEq,Nat.reduceAdd,Nat.reduceLeDiff,reduceCtorEq,initTm]⟩)
 rintro n ts h1 ⟨rfl,e2,e3⟩
 refine W.seq (W.seq (W.run (by simp only[am,evOp,simprocAttr,e2,e3]<;>rfl) ?_))
 refine W.no (by simp only[am,evOp,simprocAttr]; rfl) ?_
 exact W.exit ⟨fun _=>⟨.tup [],rfl,rfl⟩,fun e=>absurd rfl e⟩
theorem reverse_ok {h:AH}{b o c:Nat}{cs:List AV}{d:Array Int} (hg:h.get b=some (blkI cs o d)) (hr:o+d.size≤cs.length) (hs:d.size<2 ^ 40) :
 C prg 57 [.sl b o d.size c] h fun _ h'=>Upd h h' b (blkI cs o d.reverse):=by
 refine C.func pf57 ?_
 have w0:IntKind.i64.wrap (((d.size:Nat):Int)-1)=((d.size:Nat):Int)-1-((0:Nat):Int):=by rw[wr64 (by omega) (by omega)]; omega
 refine W.seq (W.run (by simp only[am,evOp,simprocAttr,initTm,w0]<;>rfl) ?_)
 refine W.whl (α:=Array Int) (N:=d.size / 2) (fun k a=>[(0,.sl b o d.size c),(2,.int .i64 (k:Nat)),(3,.int .i64 (((d.size:Nat):Int)-1-((k:Nat):Int)))])
  (fun k a h'=>Upd h h' b (blkI cs o a)∧a.size=d.size∧∀ x,x<d.size→a[x]! = if x<k∨d.size-1-x<k then d[d.size-1-x]! else d[x]!) d (by simp only[hl,am,evOp,simprocAttr,initTm,Int.natCast_zero]) ⟨Upd.refl hg,rfl,fun x _=>by rw[if_neg (by omega)]⟩ ?_ ?_ ?_
 ·rintro k a ts h1 hk ⟨j1,j2,j3⟩ ⟨e0,e2,e3,-⟩
  simp only at e0 e2 e3
  have c2:decide (((k:Nat):Int)<((d.size:Nat):Int)-1-((k:Nat):Int))=decide (k<d.size / 2):=by simp only[decide_eq_decide]; omega
  exact⟨_,(by simp only[am,evOp,simprocAttr,e2,e3,c2]<;>rfl),by simp only[am,evOp,simprocAttr],by simp only[hl,am,evOp,simprocAttr,e0,e2,e3]⟩
 ·rintro k a ts h1 hk ⟨j1,j2,j3⟩ ⟨e0,e2,e3,-⟩
  simp only at e0 e2 e3
  have hm:((d.size:Nat):Int)-1-((k:Nat):Int)=((d.size-1-k:Nat):Int):=by omega
  have i1:idx? ((k:Nat):Int) d.size=some k:=idx_nat (by omega)
  have i2:idx? ((d.size-1-k:Nat):Int) d.size=some (d.size-1-k):=idx_nat (by omega)
  have r1:=rd_blk (i:=k) j1.get (by omega) (by omega)
  have r2:=rd_blk (i:=d.size-1-k) j1.get (by omega) (by omega)
  obtain⟨m1,m2,s1,s2,u2⟩:=swp_blk (i:=k) (j:=d.size-1-k) j1.get (by omega) (by omega) (by omega)
  have w1:IntKind.i64.wrap (((k:Nat):Int)+1)=((k+1:Nat):Int):=wr64 (by omega) (by omega)
  have w2:IntKind.i64.wrap (((d.size-1-k:Nat):Int)-1)=((d.size:Nat):Int)-1-((k+1:Nat):Int):=by rw[wr64 (by omega) (by omega)]; omega
  refine W.run (by simp only[am,evOp,simprocAttr,e0,e2,e3,hm,i1,i2,r1,r2,s1,s2,Nat.mul_one]<;>rfl) ?_
  refine⟨_,⟨j1.trans u2,by rw[swp_size',j2],?_⟩,_,(by simp only[am,evOp,simprocAttr,e2,e3,hm,w1,w2]<;>rfl),by simp only[hl,am,evOp,simprocAttr,e0]⟩
  intro x hx
  by_cases x1:x=k
  ·subst x1
   rw[swp_left _ _ _ (by omega) (by omega),j3 _ (by omega),if_neg (by omega),if_pos (by omega)]
  ·by_cases x2:x=d.size-1-k
   ·rw[x2,swp_right _ _ _ (by omega),j3 _ (by omega),if_neg (by omega),if_pos (by omega)]
    congr 1
    omega
   ·rw[swp_other _ _ _ _ x1 x2,j3 _ hx]
    by_cases q:x<k∨d.size-1-x<k
    ·rw[if_pos q,if_pos (by omega)]
    ·rw[if_neg q,if_neg (by omega)]
 ·rintro a ts h1 ⟨j1,j2,j3⟩ _
  refine⟨.tup [],rfl,?_⟩
  have:a=d.reverse:=by
   refine Array.ext (by simpa using j2) fun i h1 h2=>?_
   have:=j3 i (by omega)
   rw[getElem!_pos a i h1] at this
   rw[this,Array.getElem_reverse]
   rw[getElem!_pos d _ (by omega)]
   split
   ·rfl
   ·rw[getElem!_pos d _ (by omega)]
    congr 1
    omega
  rw[← this]
  exact j1
end Go.Proofs.Ytpeemonpdlifbaa
namespace Go.Proofs.Ytpeemonpdlifbaa
open Go.Am
open Go.Sort (swp ltInt)
open Go.Sort (insInner insOuter insertionSort)
end Go.Proofs.Ytpeemonpdlifbaa
namespace Go.Proofs.Ytpeemonpdlifbaa
open Go.Am
open Go.Sort (swp ltInt siftDown heapBuild heapPop heapSort)
end Go.Proofs.Ytpeemonpdlifbaa
namespace Go.Proofs.Ytpeemonpdlifbaa
open Go.Am
open Go.Sort (swp ltInt reverseLoop reverseRange scanUp scanDown partLoop partition partEqLoop partitionEqual scanUp_spec scanDown_spec scanUp_ge scanDown_le partLoop_eq partEqLoop_eq)
end Go.Proofs.Ytpeemonpdlifbaa
namespace Go.Proofs.Ytpeemonpdlifbaa
open Go.Am
open Go.Sort (swp ltInt scanSorted shiftDown shiftUp partialIns partialInsertionSort fixDown fixUp partialIns_succ)
end Go.Proofs.Ytpeemonpdlifbaa
namespace Go.Proofs.Ytpeemonpdlifbaa
open Go.Am
set_option maxRecDepth 8000 in
theorem len64_zero {h:AH}:C prg 74 [.int .u64 0] h fun v h'=>v=.int .i64 0∧h'=h:=by
 refine C.func pf74 ?_
 refine W.seq (W.run (by simp only[am,evOp,↓reduceIte,Nat.reduceEqDiff,Int.reduceEq,Nat.reduceAdd,Nat.reduceLeDiff,reduceCtorEq,initTm]<;>rfl) ?_)
 have c1:decide ((4294967296:Int)≤0)=false:=by decide
 have c2:decide ((65536:Int)≤0)=false:=by decide
 have c3:decide ((256:Int)≤0)=false:=by decide
 refine W.seq (W.seq (W.run (by simp only[am,evOp,↓reduceIte,Nat.reduceEqDiff,Int.reduceEq,Nat.reduceAdd,Nat.reduceLeDiff,reduceCtorEq,initTm,c1]<;>rfl) ?_))
 refine W.no (by simp only[am,evOp,↓reduceIte,Nat.reduceEqDiff,Int.reduceEq,Nat.reduceAdd,Nat.reduceLeDiff,reduceCtorEq,c1]) (W.skip ?_)
 refine W.seq (W.seq (W.run (by simp only[am,evOp,↓reduceIte,Nat.reduceEqDiff,Int.reduceEq,Nat.reduceAdd,Nat.reduceLeDiff,reduceCtorEq,initTm,c2]<;>rfl) ?_))
 refine W.no (by simp only[am,evOp,↓reduceIte,Nat.reduceEqDiff,Int.reduceEq,Nat.reduceAdd,Nat.reduceLeDiff,reduceCtorEq,c2]) (W.skip ?_)
 refine W.seq (W.seq (W.run (by simp only[am,evOp,↓reduceIte,Nat.reduceEqDiff,Int.reduceEq,Nat.reduceAdd,Nat.reduceLeDiff,reduceCtorEq,initTm,c3]<;>rfl) ?_))
 refine W.no (by simp only[am,evOp,↓reduceIte,Nat.reduceEqDiff,Int.reduceEq,Nat.reduceAdd,Nat.reduceLeDiff,reduceCtorEq,c3]) (W.skip ?_)
 have w1:IntKind.u8.wrap 0=0:=by decide
 have w2:IntKind.i64.wrap 0=0:=by decide
 have w3:IntKind.i64.wrap (0+0)=0:=by decide
 have hi:idxSA (.str [0,1,2,2,3,3,3,3,4,4,4,4,4,4,4,4,5,5,5,5,5,5,5,5,5,5,5,5,5,5,5,5,6,6,6,6,6,6,6,6,6,6,6,6,6,6,6,6,6,6,6,6,6,6,6,6,6,6,6,6,6,6,6,6,7,7,7,7,7,7,7,7,7,7,7,7,7,7,7,7,7,7,7,7,7,7,7,7,7,7,7,7,7,7,7,7,7,7,7,7,7,7,7,7,7,7,7,7,7,7,7,7,7,7,7,7,7,7,7,7,7,7,7,7,7,7,7,7,8,8,8,8,8,8,8,8,8,8,8,8,8,8,8,8,8,8,8,8,8,8,8,8,8,8,8,8,8,8,8,8,8,8,8,8,8,8,8,8,8,8,8,8,8,8,8,8,8,8,8,8,8,8,8,8,8,8,8,8,8,8,8,8,8,8,8,8,8,8,8,8,8,8,8,8,8,8,8,8,8,8,8,8,8,8,8,8,8,8,8,8,8,8,8,8,8,8,8,8,8,8,8,8,8,8,8,8,8,8,8,8,8,8,8,8,8,8,8,8,8,8,8,8,8,8,8,8]) (.int .u8 0)=some (.int .u8 0):=rfl
 refine W.seq (W.runs (fun ts h5=>h5=h∧tget ts 2=.int .i64 0) ?_ fun ts h5 ⟨eh,e2⟩=>W.ret ⟨.int .i64 0,(by simp only[rs,rf74,am,evOp,simprocAttr,e2]<;>rfl),rfl,eh⟩)
 simp only[am,evOp,simprocAttr,initTm,w1,hi,w2,w3]
theorem blen_zero {h:AH}:C prg 51 [.int .u64 0] h fun v h'=>v=.int .i64 0∧h'=h:=by
 refine C.func pf51 ?_
 refine W.seq (W.run (by simp only[am,evOp,↓reduceIte,Nat.reduceEqDiff,Int.reduceEq,Nat.reduceAdd,Nat.reduceLeDiff,reduceCtorEq,initTm]<;>rfl) ?_)
 refine W.seq (W.no rfl (W.skip ?_))
 refine W.seq (W.reg (G.gcall 1 (by simp only[am,evOp,simprocAttr,initTm]<;>rfl) rfl (by simp only[am,evOp,simprocAttr,initTm]) (by simp only[am,evOp,simprocAttr,initTm]<;>rfl) (len64_zero) fun v h' hq=>?_))
 obtain⟨rfl,rfl⟩:=hq
 refine G.run (by simp only[am,evOp,simprocAttr]<;>rfl) ?_
 exact W.ret ⟨_,(by simp only[rs,rf51,am,evOp,simprocAttr]<;>rfl),rfl,rfl⟩
end Go.Proofs.Ytpeemonpdlifbaa
namespace Go.Proofs.Ytpeemonpdlifbaa
open Go.Am
open Go.Sort (swp ltInt PermIn)
end Go.Proofs.Ytpeemonpdlifbaa
namespace Go.Proofs.Ytpeemonpdlifbaa
open Go.Am
open Go.Sort (swp ltInt PermIn swp_permIn permIn_refl permIn_trans)
end Go.Proofs.Ytpeemonpdlifbaa
namespace Go.Proofs.Ytpeemonpdlifbaa
open Go.Am
open Go.Sort (swp ltInt PermIn SortedIn Below permIn_refl permIn_trans insertionSort_holds heapSort_holds partialInsertionSort_holds partition_holds partitionEqual_holds reverseRange_holds swo_ltInt round_eq round_part)
theorem splice_over {cs a v:List AV}{o:Nat} (hr:o+a.length≤cs.length) (hl:v.length=a.length):splice (splice cs o a) o v=splice cs o v:=by
 refine List.ext_getElem? fun i=>?_
 have hs:=splice_len hr
 rw[splice_at (cs:=splice cs o a) (by rw[hs]; omega),splice_at (cs:=cs) (vs:=a) hr,splice_at (cs:=cs) (vs:=v) (by omega)]
 by_cases q:o≤i∧i<o+v.length
 ·rw[if_pos q,if_pos q]
 ·rw[if_neg q,if_neg q,if_neg (by omega)]
theorem sort_ok {h:AH}{b o c:Nat}{cs:List AV}{d:Array Int} (hg:h.get b=some (blkI cs o d)) (hr:o+d.size≤cs.length) (hs:d.size<2 ^ 38) :
 C prg 83 [.sl b o d.size c] h fun v h'=>Mod h.next h h' b (blkI cs o (d.toList.mergeSort (fun x y=>decide (x≤y))).toArray):=by
 have hi:(ints d).length=d.size:=by simp [ints]
 have hsp:(splice cs o (ints d)).length=cs.length:=splice_len (by omega)
 have hsl:(d.toList.mergeSort fun x y=>decide (x≤y)).length=d.size:=by rw[List.length_mergeSort,Array.length_toList]
 have hg':h.get b=some (.cells (splice cs o (ints d)) 1 false):=hg
 have hrd:rdCells h b o d.size=some (d.toList.map (AV.int .i64)):=by
  rw[rdCells_of hg',if_pos (by omega)]
  congr 1
  refine List.ext_getElem? fun i=>?_
  rw[List.getElem?_take,List.getElem?_drop,splice_at (by omega)]
  by_cases q:i<d.size
  ·rw[if_pos q,if_pos (by omega),Nat.add_sub_cancel_left]
   rfl
  ·rw[if_neg q,List.getElem?_eq_none (by simp; omega)]
 have hwr:wrCells h b o (srtI d.toList)=some (h.put b (blkI cs o (d.toList.mergeSort (fun x y=>decide (x≤y))).toArray)):=by
  have hl:(srtI d.toList).length=d.size:=by unfold srtI; rw[List.length_map,hsl]
  rw[wrCells_of hg',if_pos (by omega),splice_over (by omega) (by omega)]
  rfl
 exact BS.srt ps83 hrd hwr (by omega) ⟨_,_,rfl,(Upd.put hg).mod⟩
end Go.Proofs.Ytpeemonpdlifbaa
namespace Go.Proofs.Ytpeemonpdlifbaa
open Go.Am Go.Sort
theorem ins_nil {h:AH}:C prg 95 [.nils,.int .i64 0,.int .i64 0] h fun _ h'=>h'=h:=by
 refine C.func pf95 ?_
 refine W.seq (W.run (by simp only[am,evOp,↓reduceIte,Nat.reduceEqDiff,Int.reduceEq,Nat.reduceAdd,Nat.reduceLeDiff,reduceCtorEq,initTm,wr64 (z:=0+1) (by decide) (by decide)]<;>rfl) ?_)
 refine W.block (W.loop (fun n ts h1=>h1=h∧tget ts 2=.int .i64 0∧tget ts 6=.int .i64 (0+1)) ?_ (n:=0) ⟨rfl,by simp only[am,evOp,↓reduceIte,Nat.reduceEqDiff,Int.reduceEq,Nat.reduceAdd,Nat.reduceLeDiff,reduceCtorEq,initTm],by simp only[am,evOp,↓reduceIte,Nat.reduceEqDiff,Int.reduceEq,Nat.reduceAdd,Nat.reduceLeDiff,reduceCtorEq,initTm]⟩)
 rintro n ts h1 ⟨rfl,e2,e6⟩
 refine W.seq (W.seq (W.run (by simp only[am,evOp,simprocAttr,e2,e6]<;>rfl) ?_))
 refine W.no (by simp only[am,evOp,simprocAttr]; rfl) ?_
 exact W.exit ⟨fun _=>⟨.tup [],rfl,rfl⟩,fun e=>absurd rfl e⟩
theorem pdq_nil {h:AH}{l:Int}:C prg 93 [.nils,.int .i64 0,.int .i64 0,.int .i64 l] h fun _ h'=>h'=h:=by
 refine C.func pf93 ?_
 refine W.seq (W.run (by simp only[am,evOp,simprocAttr,initTm]<;>rfl) ?_)
 refine W.seq (W.run (by simp only[am,evOp,simprocAttr,initTm]<;>rfl) ?_)
 refine W.block (W.loop (fun n ts h1=>h1=h∧tget ts 0=.nils∧tget ts 1=.int .i64 0∧tget ts 2=.int .i64 0) ?_ (n:=0) ⟨rfl,by simp only[am,evOp,simprocAttr,initTm],by simp only[am,evOp,simprocAttr,initTm],by simp only[am,evOp,simprocAttr,initTm]⟩)
 rintro n ts h1 ⟨rfl,e0,e1,e2⟩
 refine W.block (W.seq (W.run (by simp only[am,evOp,simprocAttr,e1,e2,wr64 (z:=0-0) (by decide) (by decide)]<;>rfl) ?_))
 refine W.seq (W.seq (W.run (by simp only[am,evOp,simprocAttr]<;>rfl) ?_))
 refine W.yes (by simp only[am,evOp,simprocAttr]; rfl) ?_
 refine W.seq (W.reg (G.gcall 3 (by simp only[am,evOp,simprocAttr,e0,e1,e2]<;>rfl) rfl (by simp only[am,evOp,simprocAttr,e0,e1,e2]) (by simp only[am,evOp,simprocAttr,e0,e1,e2]<;>rfl) (ins_nil) fun v h2 u=>?_))
 subst u
 refine G.run (by simp only[am,evOp,simprocAttr]<;>rfl) ?_
 exact W.ret ⟨.tup [],rfl,rfl⟩
theorem sort_nil {h:AH}:C prg 83 [.nils] h fun _ h'=>h'=h:=by
 refine C.func pf83 ?_
 refine W.seq (W.run (by simp only[am,evOp,simprocAttr,initTm,lenLA_nils]<;>rfl) ?_)
 have wu:IntKind.u64.wrap 0=0:=by decide
 refine W.reg (G.gcall 4 (by simp only[am,evOp,simprocAttr,initTm,wu]<;>rfl) rfl (by simp only[am,evOp,simprocAttr,initTm,wu]) (by simp only[am,evOp,simprocAttr,initTm,wu]<;>rfl) (blen_zero) fun v h1 hq=>?_)
 obtain⟨rfl,rfl⟩:=hq
 refine G.callq (by simp only[am,evOp,simprocAttr,initTm]) (by simp only[am,evOp,simprocAttr,initTm]<;>rfl) (pdq_nil) fun v h2 hq=>?_
 subst hq
 refine G.run (by simp only[am,evOp,simprocAttr]<;>rfl) ?_
 exact⟨.tup [],rfl,rfl⟩
theorem values_ok {h:AH}{v:AV} (hv:v.cells=[v]):C prg 64 [v] h fun r h'=>r=.fn 84 [.ptr h.next 0]∧h'=h.new (.cells [v] 1 false):=by
 refine C.func pf64 ?_
 refine W.seq (W.run (by simp only[am,evOp,simprocAttr,initTm,hv]<;>rfl) ?_)
 refine W.seq (W.run (by simp only[am,evOp,simprocAttr]<;>rfl) ?_)
 exact W.ret ⟨_,(by simp only[rs,rf64,am,evOp,simprocAttr]<;>rfl),rfl,rfl⟩
theorem values1_ok {h:AH}{lb L:Nat}{v:AV}{xs:List Int} (J:Nat→AH→Prop) (hJ:∀ i h,J i h→rdCells h lb 0 1=some [v]∧SlI h v xs) (hl:xs.length<2 ^ 40)
 (hY:∀ i (hi:i<xs.length) h,J i h→Y prg L [.int .i64 xs[i]] h fun r h'=>r=.bool true∧J (i+1) h') (h0:J 0 h) :
 C prg 84 [.yld L,.ptr lb 0] h fun _ h'=>J xs.length h':=by
 refine C.func pf84 ?_
 obtain⟨r0,s0⟩:=hJ 0 h h0
 have e1:=s0.len
 rw[List.length_map] at e1
 refine W.seq (W.run (by simp only[am,evOp,simprocAttr,initTm,r0,e1]<;>rfl) ?_)
 refine W.rng (α:=Unit) (N:=xs.length) (fun _ _=>[(0,.yld L),(5,v)]) (fun k _ h1=>J k h1) () (fun _ _=>rfl) (by omega) (by simp only[held_cons,held_nil,am,evOp,↓reduceIte,Nat.reduceEqDiff,Int.reduceEq,Nat.reduceAdd,Nat.reduceLeDiff,reduceCtorEq,initTm]) h0 ?_ ?_
 ·rintro k _ ts h1 hk hj ⟨ei,en,e0,e5,-⟩
  simp only at ei en e0 e5
  obtain⟨b1,p1,a1,r1,_⟩:=(hJ k h1 hj).2.at1 (map_at (f:=eI) hk)
  refine W.seq (W.run (by simp only[am,evOp,simprocAttr,e5,ei,a1,r1]<;>rfl) ?_)
  refine W.seq (W.reg (G.gyield 2 (by simp only[am,evOp,simprocAttr,e0]<;>rfl) rfl (by simp only[am,evOp,simprocAttr,e0]) (by simp only[am,evOp,simprocAttr,e0]<;>rfl) (by simp only[am,evOp,simprocAttr,e0]<;>rfl) (hY k hk h1 hj) fun r h2 hq=>?_))
  obtain⟨rfl,hj2⟩:=hq
  refine G.run (by simp only[am,evOp,simprocAttr]<;>rfl) ?_
  refine W.no (by simp only[am,evOp,simprocAttr]) ?_
  exact W.skip ⟨(),hj2,by simp only[held_cons,held_nil,am,evOp,↓reduceIte,Nat.reduceEqDiff,Int.reduceEq,Nat.reduceAdd,Nat.reduceLeDiff,reduceCtorEq,ei,en,e0,e5]⟩
 ·rintro _ ts h1 hj _
  exact⟨.tup [],rfl,hj⟩
theorem appseq_ok {h:AH}{lb:Nat}{v:AV}{xs:List Int} (hr:rdCells h lb 0 1=some [v]) (hv:SlI h v xs) (hb:lb<h.next) (hl:xs.length<2 ^ 34) :
 C prg 92 [.nils,.fn 84 [.ptr lb 0]] h fun r h'=>IsSl h' 1 h.next r (xs.flatMap eI)∧Ext h.next h h':=by
 refine C.func pf92 ?_
 refine W.seq (W.run (by simp only[am,evOp,simprocAttr,initTm]<;>rfl) ?_)
 have g0:(h.new (.cells [.nils] 1 false)).get h.next=some (.cells [.nils] 1 false):=by rw[AH.get_new,if_pos rfl]
 have x0:Ext h.next h (h.new (.cells [.nils] 1 false)):=Ext.new (Nat.le_refl _)
 have n0:(h.new (.cells [.nils] 1 false)).next=h.next+1:=rfl
 generalize h.new (.cells [.nils] 1 false)=h0 at *
 refine W.seq (W.seq (W.runs (fun ts h1=>h1=h0∧tget ts 2=.ptr h.next 0∧tget ts 6=.fn 84 [.ptr lb 0]) (by simp only[am,evOp,simprocAttr,initTm]) fun ts h1 hq=>?_))
 obtain⟨rfl,e2,e6⟩:=hq
 refine W.block (W.rangeF (Q:=fun _ h'=>h'.get h1.next=some (.lp 92 [true,false,true,false] ts [7] .ready none)∧(∃ s,h'.get h.next=some (.cells [s] 1 false)∧IsSl h' 1 (h.next+2) s (xs.flatMap eI))∧Ext h.next h h'∧h.next+2≤h'.next) (by simp only[am,evOp,simprocAttr,e6]; rfl) ?_ ?_)
 ·refine (values1_ok (xs:=xs) (v:=v) (fun i h'=>h'.get h1.next=some (.lp 92 [true,false,true,false] ts [7] .ready none)∧(∃ s,h'.get h.next=some (.cells [s] 1 false)∧IsSl h' 1 (h.next+2) s ((xs.take i).flatMap eI))∧Ext h.next h h'∧h.next+2≤h'.next) ?_ (by omega) ?_ ?_).mono fun r h' q=>by simpa using q
  ·rintro i h' ⟨_,_,hx,_⟩
   exact⟨by rw[← hr]; exact rdCells_eq (hx.gt _ hb),hv.ext hx (Nat.le_refl _)⟩
  ·rintro i hi h' ⟨hL,⟨s,hs,hsl⟩,hx,hn⟩
   refine Y.round hL rfl pf92 rfl ?_
   refine W.run (by simp only[am,evOp,simprocAttr,setAll]<;>rfl) ?_
   refine⟨rfl,?_⟩
   have uB:=Upd.put (o:=.lp 92 [true,false,true,false] ts [7] .busy none) hL
   generalize h'.put h1.next (.lp 92 [true,false,true,false] ts [7] .busy none)=hb at *
   have hsl':IsSl hb 1 (h.next+2) s ((xs.take i).flatMap eI):=hsl.upd uB (by omega)
   have gs:hb.get h.next=some (.cells [s] 1 false):=by rw[uB.ne (by omega)]; exact hs
   have rs:rdCells hb h.next 0 1=some [s]:=by rw[rdCells_of gs]; rfl
   have hlen:((xs.take i).flatMap eI).length=i:=by
    rw[flat_len (f:=eI) (e:=1) (fun _=>rfl),List.length_take]; omega
   obtain⟨s',h2,a1,i1,x1,n1⟩:=hsl'.push (bytes:=8) (eI xs[i]) (by rw[uB.nx]; omega) (by omega) rfl rfl (by rw[hlen]; unfold tooMany; omega) (by rw[hlen]; unfold tooMany; omega)
   rw[show eI xs[i]=[.int .i64 xs[i]] from rfl] at a1 i1
   have gs2:h2.get h.next=some (.cells [s] 1 false):=by rw[x1.gt _ (by omega)]; exact gs
   obtain⟨sc,so⟩:=i1.cells
   have w1:wrCells h2 h.next 0 [s']=some (h2.put h.next (.cells [s'] 1 false)):=by rw[wrCells_of gs2]; rfl
   have uS:=Upd.put (o:=.cells [s'] 1 false) gs2
   refine W.block ?_
   refine W.run (by simp only[am,evOp,simprocAttr,e2,rs,a1,sc,so,w1]<;>rfl) ?_
   have gL:(h2.put h.next (.cells [s'] 1 false)).get h1.next=some (.lp 92 [true,false,true,false] ts [7] .busy none):=by rw[uS.ne (by omega),x1.gt _ (by omega),uB.get]
   have uR:=Upd.put (o:=.lp 92 [true,false,true,false] ts [7] .ready none) gL
   refine⟨gL,rfl,uR.get,⟨s',by rw[uR.ne (by omega)]; exact uS.get,?_⟩,?_,?_⟩
   ·have e:(xs.take (i+1)).flatMap eI=(xs.take i).flatMap eI++[.int .i64 xs[i]]:=by
     rw[List.take_succ_eq_append_getElem hi,List.flatMap_append]; rfl
    rw[e]
    exact (i1.upd uS (by omega)).upd uR (by omega)
   ·exact hx.trans ((uB.ext (by omega)).trans ((x1.mono (by omega)).trans ((uS.ext (Nat.le_refl _)).trans (uR.ext (by omega)))))
   ·rw[uR.nx,uS.nx]
    have:=uB.nx
    omega
  ·have gN:(h1.new (.lp 92 [true,false,true,false] ts [7] .ready none)).get h1.next=some (.lp 92 [true,false,true,false] ts [7] .ready none):=by rw[AH.get_new,if_pos rfl]
   refine⟨gN,⟨.nils,?_,.inl ⟨rfl,rfl⟩⟩,x0.trans (Ext.new (by omega)),by rw[AH.next_new]; omega⟩
   rw[AH.get_new,if_neg (by omega)]
   exact g0
 ·rintro _ h' ⟨hL,⟨s,hs,hsl⟩,hx,hn⟩
  refine⟨⟨_,_,_,_,hL⟩,fun f1 p1 t1 q1=>?_⟩
  have uO:=Upd.put (o:=.lp f1 p1 t1 q1 .over none) hL
  have rs:rdCells (h'.put h1.next (.lp f1 p1 t1 q1 .over none)) h.next 0 1=some [s]:=by rw[rdCells_of (by rw[uO.ne (by omega)]; exact hs)]; rfl
  refine W.seq (W.run (by simp only[am,evOp,simprocAttr,e2,rs]<;>rfl) ?_)
  exact W.ret ⟨s,(by simp only[Am.results,rdAll,rdRes,rf92,am,evOp,↓reduceIte,Nat.reduceEqDiff,Int.reduceEq,Nat.reduceAdd,Nat.reduceLeDiff,reduceCtorEq]<;>rfl),(hsl.upd uO (by omega)).mono (by omega),hx.trans (uO.ext (by omega))⟩
theorem flat_ints:∀ xs:List Int,xs.flatMap eI=ints xs.toArray
 | []=>rfl
 | x::r=>by
   have:=flat_ints r
   unfold ints at *
   rw[List.toList_toArray] at *
   rw[List.flatMap_cons,this]
   rfl
def isort (xs:List Int):List Int:=xs.mergeSort (fun x y=>decide (x≤y))
theorem isort_len (xs:List Int):(isort xs).length=xs.length:=List.length_mergeSort _
theorem sorted_ok {h:AH}{lb:Nat}{v:AV}{xs:List Int} (hr:rdCells h lb 0 1=some [v]) (hv:SlI h v xs) (hb:lb<h.next) (hl:xs.length<2 ^ 34) :
 C prg 63 [.fn 84 [.ptr lb 0]] h fun r h'=>IsSl h' 1 h.next r ((isort xs).flatMap eI)∧Ext h.next h h':=by
 have hcol:C prg 82 [.fn 84 [.ptr lb 0]] h fun r h'=>IsSl h' 1 h.next r (xs.flatMap eI)∧Ext h.next h h':=by
  refine C.func pf82 ?_
  refine W.seq (W.run (by simp only[am,evOp,simprocAttr,initTm]<;>rfl) ?_)
  refine W.seq (W.reg (G.gcall 1 (by simp only[am,evOp,simprocAttr,initTm]<;>rfl) rfl (by simp only[am,evOp,simprocAttr,initTm]) (by simp only[am,evOp,simprocAttr,initTm]<;>rfl) (appseq_ok hr hv hb hl) fun r h2 hq=>?_))
  refine G.run (by simp only[am,evOp,simprocAttr]<;>rfl) ?_
  exact W.ret ⟨r,(by simp only[rs,rf82,am,evOp,simprocAttr]<;>rfl),hq⟩
 refine C.func pf63 ?_
 refine W.seq (W.run (by simp only[am,evOp,simprocAttr,initTm]<;>rfl) ?_)
 refine W.seq (W.reg (G.gcall 1 (by simp only[am,evOp,simprocAttr,initTm]<;>rfl) rfl (by simp only[am,evOp,simprocAttr,initTm]) (by simp only[am,evOp,simprocAttr,initTm]<;>rfl) (hcol) fun r h2 hq=>?_))
 obtain⟨i1,x1⟩:=hq
 refine G.run (by simp only[am,evOp,simprocAttr]<;>rfl) ?_
 rcases i1 with ⟨rfl,hz⟩|⟨b,n,hbn,rfl,hg,hln⟩
 ·have:xs=[]:=by
   cases xs with
   | nil=>rfl
   | cons x r=>simp [eI] at hz
  subst this
  refine W.seq (W.reg (G.gcall 1 (by simp only[am,evOp,simprocAttr]<;>rfl) rfl (by simp only[am,evOp,simprocAttr]) (by simp only[am,evOp,simprocAttr]<;>rfl) (sort_nil) fun v h3 hq=>?_))
  subst hq
  refine G.run (by simp only[am,evOp,simprocAttr]<;>rfl) ?_
  refine W.seq (W.run (by simp only[am,evOp,simprocAttr]<;>rfl) ?_)
  exact W.ret ⟨.nils,(by simp only[rs,rf63,am,evOp,simprocAttr]<;>rfl),.inl ⟨rfl,by simp [isort]⟩,x1⟩
 ·have hn:n=xs.length:=by rw[flat_len (f:=eI) (e:=1) (fun _=>rfl)] at hln; omega
  subst hn
  have e1:xs.flatMap eI=ints xs.toArray:=flat_ints xs
  have hg':h2.get b=some (blkI (xs.flatMap eI) 0 xs.toArray):=by
   rw[hg]
   unfold blkI
   rw[e1]
   congr 2
   exact (splice_self (by simp) (by rw[List.drop_zero,List.take_length])).symm
  have hs:=sort_ok (c:=xs.length) hg' (by rw[List.size_toArray,hln]; omega) (by rw[List.size_toArray]; omega)
  rw[List.size_toArray] at hs
  refine W.seq (W.reg (G.gcall 1 (by simp only[am,evOp,simprocAttr]<;>rfl) rfl (by simp only[am,evOp,simprocAttr]) (by simp only[am,evOp,simprocAttr]<;>rfl) (hs) fun v h3 hq=>?_))
  refine G.run (by simp only[am,evOp,simprocAttr]<;>rfl) ?_
  refine W.seq (W.run (by simp only[am,evOp,simprocAttr]<;>rfl) ?_)
  refine W.ret ⟨_,(by simp only[rs,rf63,am,evOp,simprocAttr]<;>rfl),.inr ⟨b,xs.length,hbn,rfl,?_,?_⟩,x1.trans ((hq.mono x1.nx).toExt hbn)⟩
  ·rw[hq.get]
   unfold blkI
   have e2:ints (isort xs).toArray=(isort xs).flatMap eI:=(flat_ints _).symm
   rw[show (xs.toArray.toList.mergeSort fun x y=>decide (x≤y))=isort xs from rfl,e2]
   simp only[splice,List.take_zero,List.nil_append,Nat.zero_add]
   rw[flat_len (f:=eI) (e:=1) (fun _=>rfl),isort_len,List.drop_eq_nil_of_le (by rw[hln]; omega),List.append_nil]
  ·rw[flat_len (f:=eI) (e:=1) (fun _=>rfl),isort_len]
end Go.Proofs.Ytpeemonpdlifbaa
namespace Go.Proofs.Ytpeemonpdlifbaa
open Go.Am Go.Sort
end Go.Proofs.Ytpeemonpdlifbaa
namespace Go.Proofs.Ytpeemonpdlifbaa
open Go.Am
end Go.Proofs.Ytpeemonpdlifbaa
namespace Go.Proofs.Ytpeemonpdlifbaa
open Go.Am
end Go.Proofs.Ytpeemonpdlifbaa
namespace Go.Proofs.Ytpeemonpdlifbaa
open Go.Am
end Go.Proofs.Ytpeemonpdlifbaa
namespace Go.Proofs.Ytpeemonpdlifbaa
open Go.Am
end Go.Proofs.Ytpeemonpdlifbaa
namespace Go.Proofs.Ytpeemonpdlifbaa
open Go.Am
theorem G.gcallc {P:RP}{b:Nat}{l l2:List ROper}{s:Option (Tm×AH)}{K:Tm→AH→Prop}{ts:Tm}{h:AH}{d:Option Nat}{f:FuncId}{args:List RO}{g:Option (Nat×Bool)}{nm:Option Nat}{cs:List (Nat×ROp×Option (Nat×Bool))}{vs:List AV}{Q:AV→AH→Prop} (n:Nat)
 (hs:stps b (l.take n) s=some (ts,h)) (hd:l.drop n=⟨d,.call f args,g,nm,cs⟩::l2) (hw:wanted ts g=some true) (ha:args.map (RO.ev ts)=vs) (hc:C P f vs h Q)
 (hk:∀ v h',Q v h'→chks (dput ts d v) h' cs=true∧G P b l2 (some (dput ts d v,h')) K):G P b l s K:=by
 subst ha
 rw[← List.take_append_drop n l]
 refine G.ops ?_
 rw[hs,hd]
 exact G.callc hw (hc.mono hk)
end Go.Proofs.Ytpeemonpdlifbaa
namespace Go.Proofs.Ytpeemonpdlifbaa
open Go.Am
end Go.Proofs.Ytpeemonpdlifbaa
namespace Go.Proofs.Ytpeemonpdlifbaa
open Go.Am
end Go.Proofs.Ytpeemonpdlifbaa
namespace Go.Proofs.Ytpeemonpdlifbaa
open Go.Am
end Go.Proofs.Ytpeemonpdlifbaa
namespace Go.Proofs.Ytpeemonpdlifbaa
open Go.Am
theorem w1_ok {k:Nat} (h:k<2 ^ 62):IntKind.i64.wrap (((k:Nat):Int)+1)=((k+1:Nat):Int):=wr64 (by omega) (by omega)
end Go.Proofs.Ytpeemonpdlifbaa
