/-
  arborref07.Plain. The low bits of a number. PlanarWays' law in the clean machine. slices.Sort of ints and slices.SortFunc of rows of ints: the kit's contracts, laid at this program (in plain words, after the kit's own command).
-/
import Derived.Test.YtpeemonpdlifbaaQTAY
import Derived.Test.YtpeemonpdlifbaaQTAE
import Derived.Test.YtpeemonpdlifbaaQAmR
import Derived.Test.YtpeemonpdlifbaaQTBA
import Derived.Test.YtpeemonpdlifbaaQTAV
import Derived.Test.YtpeemonpdlifbaaQTAC
import Derived.Test.YtpeemonpdlifbaaQAmSrt
import Derived.Shelf.Slices.In.SortAlone
import Derived.KernelRfl
import Derived.Deep.QuietTactic
import Derived.BigQuiet
import Derived.Shelf.SlSortCmp.Whole1
set_option linter.all false
namespace Go.Proofs.Ytpeemonpdlifbaa
open Go.Am
theorem eql_agg {ks:List IntKind}{xs ys:List AV}:binA .eql (.flat ks) (.agg xs) (.agg ys)=(flatEq ks xs ys).map .bool:=by
 simp only[binA,eqAV,eqF]
theorem flat_two {a b c d:Int}:flatEq [.i64,.i64] [.int .i64 a,.int .i64 b] [.int .i64 c,.int .i64 d]=some (decide ((a,b)=(c,d))):=by
 by_cases e:a=c
 ·subst e
  by_cases e:b=d
  ·subst e; simp [flatEq]
  ·have:(b==d)=false:=by rw[beq_eq_false_iff_ne]; exact e
   simp [flatEq,this,e]
 ·have:(a==c)=false:=by rw[beq_eq_false_iff_ne]; exact e
  simp [flatEq,this,e]
theorem nodup_get {α:Type}{l:List α}:l.Nodup↔∀ i (hi:i<l.length),∀ k (hk:k<l.length),k<i→l[i]≠l[k]:=by
 rw[List.Nodup,List.pairwise_iff_getElem]
 constructor
 ·intro h i hi k hk hki e
  exact h k i hk hi hki e.symm
 ·intro h i j hi hj hij e
  exact h j hj i hi hij e.symm
theorem plain_iff {n:Int}{E:List (Int×Int)}:PlainP n E↔mayB n E=true∧∀ i (hi:i<E.length),E[i].1≠E[i].2∧∀ k (hk:k<E.length),k<i→¬ (E[i]=E[k]∨(E[i].1=E[k].2∧E[i].2=E[k].1)):=by
 unfold PlainP
 rw[nodup_get]
 constructor
 ·rintro⟨h1,h2,h3⟩
  refine⟨h1,fun i hi=>⟨h2 _ (List.getElem_mem hi),fun k hk hki q=>?_⟩⟩
  have:=h3 i (by simpa using hi) k (by simpa using hk) hki
  rw[List.getElem_map,List.getElem_map] at this
  exact this (mnx_iff.2 q)
 ·rintro⟨h1,h2⟩
  refine⟨h1,fun e he=>?_,fun i hi k hk hki q=>?_⟩
  ·obtain⟨i,hi,rfl⟩:=List.getElem_of_mem he
   exact (h2 i hi).1
  ·rw[List.getElem_map,List.getElem_map] at q
   exact (h2 i (by simpa using hi)).2 k (by simpa using hk) hki (mnx_iff.1 q)
set_option maxHeartbeats 1000000 in
theorem rplain_any {h:AH}{n:Int}{ev:AV}{E:List (Int×Int)} (he:SlE h ev E):C prg 7 [.agg [.int .i64 n,ev]] h fun r h'=>∃ b,r=.bool b∧(b=true↔PlainP n E)∧Ext h.next h h':=by
 obtain⟨ec,eo⟩:=he.cells
 have el:=he.len
 rw[List.length_map] at el
 refine C.func pf7 ?_
 refine W.seq (W.run (by simp only[am,evOp,simprocAttr,initTm]<;>rfl) ?_)
 have x0:Ext h.next h (h.new (.cells [.int .i64 n,ev] 2 false)):=Ext.new (Nat.le_refl _)
 have g0:(h.new (.cells [.int .i64 n,ev] 2 false)).get h.next=some (.cells [.int .i64 n,ev] 2 false):=by rw[AH.get_new,if_pos rfl]
 have n0:(h.new (.cells [.int .i64 n,ev] 2 false)).next=h.next+1:=rfl
 generalize (h.new (.cells [.int .i64 n,ev] 2 false))=h1 at *
 have rA:rdCells h1 h.next 0 2=some [.int .i64 n,ev]:=by rw[rdCells_of g0]; rfl
 refine W.seq (W.seq (W.reg (G.gcall 1 (by simp only[am,evOp,simprocAttr,initTm,rA]<;>rfl) rfl (by simp only[am,evOp,simprocAttr,initTm,rA]) (by simp only[am,evOp,simprocAttr,initTm,rA]<;>rfl) (rmay_any (n:=n) (he.ext x0 (Nat.le_refl _))) fun r h2 hq=>?_)))
 obtain⟨rfl,x2⟩:=hq
 have X2:Ext h.next h h2:=x0.trans (x2.mono (by omega))
 refine G.run (by simp only[am,evOp,simprocAttr]<;>rfl) ?_
 cases hm:mayB n E with
 | false =>
   refine W.yes (by simp only[am,evOp,simprocAttr]) (W.seq (W.run (by simp only[am,evOp,simprocAttr]<;>rfl) ?_))
   exact W.ret ⟨.bool false,(by simp only[rs,rf7,am,evOp,simprocAttr]<;>rfl),false,rfl,⟨(fun q=>by cases q),fun q=>by rw[q.1] at hm; cases hm⟩,X2⟩
 | true =>
 have hxl:E.length<2 ^ 40:=by
  have q:=hm
  unfold mayB at q
  simp only[Bool.and_eq_true,decide_eq_true_eq] at q
  omega
 refine W.no (by simp only[am,evOp,simprocAttr]) (W.skip ?_)
 have n2:=x2.nx
 have g2:h2.get h.next=some (.cells [.int .i64 n,ev] 2 false):=by rw[x2.gt _ (by omega)]; exact g0
 have hP:=plain_iff (n:=n) (E:=E)
 refine W.seq (W.seq (W.run (by simp only[am,evOp,simprocAttr,initTm]<;>rfl) ?_))
 refine W.whl (α:=Unit) (N:=E.length) (fun i _=>[(1,.ptr h.next 0),(3,.int .i64 (i:Nat))])
  (fun i _ h'=>(∀ j (hj:j<E.length),j<i→E[j].1≠E[j].2∧∀ k (hk:k<E.length),k<j→¬ (E[j]=E[k]∨(E[j].1=E[k].2∧E[j].2=E[k].1)))∧h'.get h.next=some (.cells [.int .i64 n,ev] 2 false)∧Ext h.next h h') () (by simp only[hl,am,evOp,simprocAttr,initTm,Int.natCast_zero])
  ⟨fun j hj q=>absurd q (Nat.not_lt_zero _),g2,X2⟩ ?_ ?_ ?_
 ·rintro i _ ts h4 hi ⟨j1,j2,j3⟩ ⟨e1,e3,-⟩
  simp only at e1 e3
  have rE:rdCells h4 h.next 1 1=some [ev]:=rd_at j2 rfl
  exact⟨_,(by simp only[am,evOp,simprocAttr,e1,e3,rE,el,Int.ofNat_lt]<;>rfl),by simp only[am,evOp,simprocAttr],by simp only[hl,am,evOp,simprocAttr,e1,e3]⟩
 ·rintro i _ ts h4 hi ⟨j1,j2,j3⟩ ⟨e1,e3,-⟩
  simp only at e1 e3
  have w3:=w1_ok (k:=i) (by omega)
  have rE:rdCells h4 h.next 1 1=some [ev]:=rd_at j2 rfl
  obtain⟨b1,p1,a1,r1,_⟩:=(he.ext j3 (Nat.le_refl _)).at (map_at (f:=eE) hi)
  have n4:=j3.nx
  have hnl:=AH.lt_of_get j2
  obtain⟨h5,w5,x5,g5,n5⟩:=mk_loc (h:=h4) (z:=[.int .i64 0,.int .i64 0]) (cs:=[.int .i64 E[i].1,.int .i64 E[i].2]) (e:=2) rfl
  have r1:rdCells h4 b1 p1 2=some [.int .i64 E[i].1,.int .i64 E[i].2]:=r1
  refine W.seq (W.run (by simp only[am,evOp,simprocAttr,e1,e3,rE,a1,r1,w5]<;>rfl) ?_)
  have g5':h5.get h.next=some (.cells [.int .i64 n,ev] 2 false):=by rw[x5.gt _ hnl]; exact j2
  have X5:Ext h.next h h5:=j3.trans (x5.mono n4)
  refine W.seq (W.seq (W.run (by simp only[am,evOp,simprocAttr]<;>rfl) ?_))
  refine W.whl (α:=Unit) (N:=i) (fun k _=>[(1,.ptr h.next 0),(3,.int .i64 (i:Nat)),(4,.ptr h4.next 0),(5,.int .i64 (k:Nat))])
   (fun k _ h'=>(∀ k' (hk:k'<E.length),k'<k→¬ (E[i]=E[k']∨(E[i].1=E[k'].2∧E[i].2=E[k'].1)))∧h'.get h.next=some (.cells [.int .i64 n,ev] 2 false)∧h'.get h4.next=some (.cells [.int .i64 E[i].1,.int .i64 E[i].2] 2 false)∧Ext h.next h h') () (by simp only[hl,am,evOp,simprocAttr,e1,e3,Int.natCast_zero])
   ⟨fun k' hk q=>absurd q (Nat.not_lt_zero _),g5',g5,X5⟩ ?_ ?_ ?_
  ·clear e1 e3
   rintro k _ ts h6 hk ⟨k1,k2,k3,k4⟩ ⟨e1,e3,e4,e5,-⟩
   simp only at e1 e3 e4 e5
   exact⟨_,(by simp only[am,evOp,simprocAttr,e3,e5,Int.ofNat_lt]<;>rfl),by simp only[am,evOp,simprocAttr],by simp only[hl,am,evOp,simprocAttr,e1,e3,e4,e5]⟩
  ·clear e1 e3
   rintro k _ ts h6 hk ⟨k1,k2,k3,k4⟩ ⟨e1,e3,e4,e5,-⟩
   simp only at e1 e3 e4 e5
   have hk':k<E.length:=by omega
   have w5:=w1_ok (k:=k) (by omega)
   have rE:rdCells h6 h.next 1 1=some [ev]:=rd_at k2 rfl
   obtain⟨b2,p2,a2,r2,_⟩:=(he.ext k4 (Nat.le_refl _)).at (map_at (f:=eE) hk')
   have hnl6:=AH.lt_of_get k2
   have hnl7:=AH.lt_of_get k3
   obtain⟨h7,w7,x7,g7,n7⟩:=mk_loc (h:=h6) (z:=[.int .i64 0,.int .i64 0]) (cs:=[.int .i64 E[k].1,.int .i64 E[k].2]) (e:=2) rfl
   have r2:rdCells h6 b2 p2 2=some [.int .i64 E[k].1,.int .i64 E[k].2]:=r2
   refine W.seq (W.run (by simp only[am,evOp,simprocAttr,e1,e5,rE,a2,r2,w7]<;>rfl) ?_)
   have X7:Ext h.next h h7:=k4.trans (x7.mono k4.nx)
   have g72:h7.get h4.next=some (.cells [.int .i64 E[i].1,.int .i64 E[i].2] 2 false):=by rw[x7.gt _ hnl7]; exact k3
   have rI:rdCells h7 h4.next 0 2=some [.int .i64 E[i].1,.int .i64 E[i].2]:=by rw[rdCells_of g72]; rfl
   have rK:rdCells h7 h6.next 0 2=some [.int .i64 E[k].1,.int .i64 E[k].2]:=by rw[rdCells_of g7]; rfl
   have rI0:rdCells h7 h4.next 0 1=some [.int .i64 E[i].1]:=rd_at g72 rfl
   have rI1:rdCells h7 h4.next 1 1=some [.int .i64 E[i].2]:=rd_at g72 rfl
   have rK0:rdCells h7 h6.next 0 1=some [.int .i64 E[k].1]:=rd_at g7 rfl
   have rK1:rdCells h7 h6.next 1 1=some [.int .i64 E[k].2]:=rd_at g7 rfl
   have hbad:(E[i]=E[k]∨(E[i].1=E[k].2∧E[i].2=E[k].1))→∃ v,rdAll ((tput (tput ts 2 (.bool false)) 2 (.bool false))) h7 []=some v:=fun _=>⟨_,rfl⟩
   have hnext:¬ (E[i]=E[k]∨(E[i].1=E[k].2∧E[i].2=E[k].1))→∀ k' (hk:k'<E.length),k'<k+1→¬ (E[i]=E[k']∨(E[i].1=E[k'].2∧E[i].2=E[k'].1)):=fun q k' hk2 hlt=>by
    by_cases e:k'=k
    ·subst e; exact q
    ·exact k1 k' hk2 (by omega)
   have hno:(E[i]=E[k]∨(E[i].1=E[k].2∧E[i].2=E[k].1))→¬ PlainP n E:=fun q p=>(hP.1 p).2 i hi |>.2 k hk' hk q
   have g71:h7.get h.next=some (.cells [.int .i64 n,ev] 2 false):=by rw[x7.gt _ hnl6]; exact k2
   by_cases q1:E[i]=E[k]
   ·have c1:decide ((E[i].1,E[i].2)=(E[k].1,E[k].2))=true:=decide_eq_true (by rw[q1])
    refine W.seq (W.run (by simp only[am,evOp,simprocAttr,e4,rI,rK,eql_agg,flat_two,c1]<;>rfl) ?_)
    refine W.yes (by simp only[am,evOp,simprocAttr]) (W.seq (W.run (by simp only[am,evOp,simprocAttr]<;>rfl) ?_))
    exact W.ret ⟨.bool false,(by simp only[rs,rf7,am,evOp,simprocAttr]<;>rfl),false,rfl,⟨(fun q=>by cases q),fun q=>absurd q (hno (.inl q1))⟩,X7⟩
   have c1:decide ((E[i].1,E[i].2)=(E[k].1,E[k].2))=false:=decide_eq_false fun q=>q1 (Prod.ext (congrArg Prod.fst q) (congrArg Prod.snd q))
   by_cases q2:E[i].1=E[k].2
   ·have c2:decide (E[i].1=E[k].2)=true:=decide_eq_true q2
    by_cases q3:E[i].2=E[k].1
    ·have c3:decide (E[i].2=E[k].1)=true:=decide_eq_true q3
     refine W.seq (W.run (by simp only[am,evOp,simprocAttr,e4,rI,rK,rI0,rI1,rK0,rK1,eql_agg,flat_two,c1,c2,c3]<;>rfl) ?_)
     refine W.yes (by simp only[am,evOp,simprocAttr]) (W.seq (W.run (by simp only[am,evOp,simprocAttr]<;>rfl) ?_))
     exact W.ret ⟨.bool false,(by simp only[rs,rf7,am,evOp,simprocAttr]<;>rfl),false,rfl,⟨(fun q=>by cases q),fun q=>absurd q (hno (.inr ⟨q2,q3⟩))⟩,X7⟩
    ·have c3:decide (E[i].2=E[k].1)=false:=decide_eq_false q3
     refine W.seq (W.run (by simp only[am,evOp,simprocAttr,e4,rI,rK,rI0,rI1,rK0,rK1,eql_agg,flat_two,c1,c2,c3]<;>rfl) ?_)
     refine W.no (by simp only[am,evOp,simprocAttr]) (W.skip ?_)
     exact⟨(),⟨hnext fun q=>q.elim q1 fun q=>q3 q.2,g71,g72,X7⟩,_,(by simp only[am,evOp,simprocAttr,e5,w5]<;>rfl),by simp only[hl,am,evOp,simprocAttr,e1,e3,e4]⟩
   ·have c2:decide (E[i].1=E[k].2)=false:=decide_eq_false q2
    refine W.seq (W.run (by simp only[am,evOp,simprocAttr,e4,rI,rK,rI0,rI1,rK0,rK1,eql_agg,flat_two,c1,c2]<;>rfl) ?_)
    refine W.no (by simp only[am,evOp,simprocAttr]) (W.skip ?_)
    exact⟨(),⟨hnext fun q=>q.elim q1 fun q=>q2 q.1,g71,g72,X7⟩,_,(by simp only[am,evOp,simprocAttr,e5,w5]<;>rfl),by simp only[hl,am,evOp,simprocAttr,e1,e3,e4]⟩
  ·clear e1 e3
   rintro _ ts h6 ⟨k1,k2,k3,k4⟩ ⟨e1,e3,e4,e5,-⟩
   simp only at e1 e3 e4 e5
   have rI0:rdCells h6 h4.next 0 1=some [.int .i64 E[i].1]:=rd_at k3 rfl
   have rI1:rdCells h6 h4.next 1 1=some [.int .i64 E[i].2]:=rd_at k3 rfl
   by_cases q:E[i].1=E[i].2
   ·have c1:decide (E[i].1=E[i].2)=true:=decide_eq_true q
    refine W.seq (W.run (by simp only[am,evOp,simprocAttr,e4,rI0,rI1,c1]<;>rfl) ?_)
    refine W.yes (by simp only[am,evOp,simprocAttr]) (W.seq (W.run (by simp only[am,evOp,simprocAttr]<;>rfl) ?_))
    exact W.ret ⟨.bool false,(by simp only[rs,rf7,am,evOp,simprocAttr]<;>rfl),false,rfl,⟨(fun q=>by cases q),fun p=>absurd q ((hP.1 p).2 i hi).1⟩,k4⟩
   ·have c1:decide (E[i].1=E[i].2)=false:=decide_eq_false q
    refine W.seq (W.run (by simp only[am,evOp,simprocAttr,e4,rI0,rI1,c1]<;>rfl) ?_)
    refine W.no (by simp only[am,evOp,simprocAttr]) (W.skip ?_)
    refine⟨(),⟨fun j hj hji=>?_,k2,k4⟩,_,(by simp only[am,evOp,simprocAttr,e3,w3]<;>rfl),by simp only[hl,am,evOp,simprocAttr,e1]⟩
    by_cases e:j=i
    ·subst e; exact⟨q,fun k hk hkj=>k1 k hk hkj⟩
    ·exact j1 j hj (by omega)
 ·rintro _ ts h4 ⟨j1,j2,j3⟩ ⟨e1,e3,-⟩
  refine W.seq (W.run (by simp only[am,evOp,simprocAttr]<;>rfl) ?_)
  exact W.ret ⟨.bool true,(by simp only[rs,rf7,am,evOp,simprocAttr]<;>rfl),true,rfl,⟨fun _=>hP.2 ⟨hm,fun i hi=>j1 i hi hi⟩,fun _=>rfl⟩,j3⟩
end Go.Proofs.Ytpeemonpdlifbaa
namespace Go.Proofs.Ytpeemonpdlifbaa
open Go.Am
def lowB (z:Int):Nat:=(BitVec.ofInt 64 z &&& BitVec.ofInt 64 65535).toNat
theorem lowB_le (z:Int):lowB z≤65535:=by
 unfold lowB
 rw[BitVec.toNat_and]
 exact Nat.le_trans Nat.and_le_right (Nat.le_refl _)
theorem lowB_bits (z:Int):Am.bits .and .i64 z 65535=some ((lowB z:Nat):Int):=by
 have h:Am.bits .and .i64 z 65535=some (IntKind.i64.wrap ((lowB z:Nat):Int)):=rfl
 rw[h,IntWalk.i64_in _ (by have:=lowB_le z; omega)]
end Go.Proofs.Ytpeemonpdlifbaa
namespace Go.Proofs.Ytpeemonpdlifbaa
open Go.Am
open Go.Pla (Dual at_)
theorem bin_bneq {x y:Bool}:binA .neq .bl (.bool x) (.bool y)=some (.bool (x != y)):=rfl
theorem one_map {E:List (Int×Int)}:(E.map eE).flatten.all AV.one=true:=by
 rw[List.all_eq_true]
 intro v hv
 obtain⟨l,hl,hv⟩:=List.mem_flatten.1 hv
 obtain⟨e,_,rfl⟩:=List.mem_map.1 hl
 simp only[eE,List.mem_cons,List.not_mem_nil,or_false] at hv
 rcases hv with rfl|rfl<;>rfl
theorem cop0 {h:AH}{ev:AV}{E:List (Int×Int)}{K:Nat} (he:SlE h ev E) (hl:E.length<2 ^ 30) (hK:1≤K) :
 ∃ m1 v' m2,m1=(h.keep K).put h.next (.cells [] 2 false)∧(h.keep K).get h.next=some .resv∧appA m1 2 16 (.sl h.next 0 0 0) ev=some (v',m2)∧IsSl m2 2 h.next v' (E.flatMap eE)∧Ext h.next h m2∧(∀ c,h.next<c→c<h.next+K→m2.get c=some .resv)∧h.next+K≤m2.next:=by
 have kn:(h.keep K).next=h.next+K:=AH.keep_next K h
 have kg:∀ c,(h.keep K).get c=if h.next≤c∧c<h.next+K then some .resv else h.get c:=fun c=>AH.keep_get K h
 have q0:(h.keep K).get h.next=some .resv:=by rw[kg,if_pos ⟨by omega,by omega⟩]
 have v1:=Upd.put (o:=.cells [] 2 false) q0
 obtain⟨m1,hm1⟩:∃ m,m=(h.keep K).put h.next (.cells [] 2 false):=⟨_,rfl⟩
 rw[← hm1] at v1
 have hi:IsSl m1 2 h.next (.sl h.next 0 0 0) []:=.inr ⟨h.next,0,Nat.le_refl _,rfl,v1.get,rfl⟩
 have he1:SlE m1 ev E:=he.cong fun b o n c e=>by
  have:=he.lt e
  rw[v1.ne (by omega),kg,if_neg (by omega)]
 have n1:m1.next=h.next+K:=by rw[v1.nx,kn]
 obtain⟨v',m2,a2,i2,x2,n2,s2⟩:=apps (bytes:=16) hi (by omega) (by omega) he1 one_map (by simp only[List.length_nil,List.length_map]; unfold tooMany; omega) (by simp only[List.length_nil,List.length_map]; unfold tooMany; omega)
 refine⟨m1,v',m2,hm1,q0,a2,?_,⟨by omega,fun c hc=>?_,fun c hc=>?_⟩,fun c h1 h2=>?_,by omega⟩
 ·have:(E.map eE).flatten=E.flatMap eE:=by rw[List.flatMap_def]
  rwa [List.nil_append,this] at i2
 ·rw[x2.gt _ hc,v1.ne (by omega),kg,if_neg (by omega)]
 ·rw[x2.ty _ hc,v1.ty]; exact AH.keep_tyOf K h
 ·rw[s2 c (by omega) (fun b n e=>by cases e; omega),v1.ne (by omega),kg,if_pos ⟨by omega,h2⟩]
theorem cop1 {m:AH}{v:AV}{E:List (Int×Int)}{lo q:Nat}{a b:Int} (hv:IsSl m 2 lo v (E.flatMap eE)) (hlo:lo≤m.next) (hq:m.get q=some .resv) (hql:lo≤q) (hl:E.length<2 ^ 30) :
 ∃ m3 v' m4,m3=m.put q (.cells [.int .i64 a,.int .i64 b] 2 false)∧appA m3 2 16 v (.sl q 0 1 1)=some (v',m4)∧IsSl m4 2 lo v' ((E++[(a,b)]).flatMap eE)∧Ext lo m m4∧(∀ c,m.get c=some .resv→c≠q→m4.get c=some .resv)∧m.next≤m4.next∧∀ c,c<m.next→c≠q→(∀ b n,v=.sl b 0 n n→c≠b)→m4.get c=m.get c:=by
 have v1:=Upd.put (o:=.cells [.int .i64 a,.int .i64 b] 2 false) hq
 obtain⟨m3,hm3⟩:∃ x,x=m.put q (.cells [.int .i64 a,.int .i64 b] 2 false):=⟨_,rfl⟩
 rw[← hm3] at v1
 have hne:∀ b n,v=.sl b 0 n n→b≠q:=fun b n e=>by
  rcases hv with ⟨e2,_⟩|⟨b',n',_,e2,g,_⟩
  ·rw[e2] at e; cases e
  ·rw[e2] at e; cases e
   intro e3; subst e3
   rw[hq] at g; cases g
 have h3:IsSl m3 2 lo v (E.flatMap eE):=hv.cong fun b n e _=>v1.ne (hne b n e)
 have hd:(E.flatMap eE).length / 2=E.length:=by rw[cE_len]; omega
 obtain⟨v',m4,a4,i4,x4,_,n4,s4,_⟩:=h3.app (bytes:=16) (x:=q) (new:=[.int .i64 a,.int .i64 b]) (by rw[v1.nx]; exact hlo) (by omega) v1.get hql hne rfl rfl (by rw[hd]; unfold tooMany; omega) (by rw[hd]; unfold tooMany; omega)
 refine⟨m3,v',m4,hm3,a4,?_,(v1.ext hql).trans x4,fun c hc hne2=>?_,by rw[n4,v1.nx]; omega,fun c hc hne2 hv2=>by rw[s4 c (by rw[v1.nx]; exact hc) hv2,v1.ne hne2]⟩
 ·rw[List.flatMap_append]; exact i4
 ·have hlt:c<m3.next:=by rw[v1.nx]; exact AH.lt_of_get hc
  rw[s4 c hlt (fun b n e=>?_),v1.ne hne2]
  ·exact hc
  ·intro e2; subst e2
   rcases hv with ⟨e2,_⟩|⟨b',n',_,e2,g,_⟩
   ·rw[e2] at e; cases e
   ·rw[e2] at e; cases e
    rw[hc] at g; cases g
theorem isSl_resv {m m':AH}{v:AV}{cs:List AV}{e lo q:Nat}{o:AO} (hv:IsSl m e lo v cs) (hq:m.get q=some .resv) (u:Upd m m' q o):IsSl m' e lo v cs:=hv.cong fun b n e _=>u.ne fun h=>by
 rcases hv with ⟨e2,_⟩|⟨b',n',_,e2,g,_⟩
 ·rw[e2] at e; cases e
 ·rw[e2] at e; cases e
  subst h
  rw[hq] at g; cases g
theorem keepx {h:AH}{K:Nat}:∀ c,(h.keep K).get c=if h.next≤c∧c<h.next+K then some .resv else h.get c:=fun c=>AH.keep_get K h
theorem set_snd:∀ {E:List (Int×Int)}{k:Nat}{y:Int} (hk:k<E.length),(E.flatMap eE).set (k*2+1) (.int .i64 y)=(E.set k (E[k].1,y)).flatMap eE
 | e::E,0,y,_=>by simp [eE]
 | e::E,k+1,y,hk=>by
   have:=set_snd (E:=E) (k:=k) (y:=y) (by simpa using hk)
   simp only[List.flatMap_cons,List.set_cons_succ,List.getElem_cons_succ]
   rw[← this]
   have e1:(k+1)*2+1=(k*2+1)+1+1:=by omega
   rw[e1]
   simp [eE]
theorem tmod_nat {a b:Nat}:(((a:Nat):Int)).tmod ((b:Nat):Int)=((a % b:Nat):Int):=by
 rw[Int.tmod_eq_emod_of_nonneg (by omega)]; rfl
set_option maxHeartbeats 4000000 in
theorem ways_law {h:AH}{n z x:Int}{ev:AV}{E:List (Int×Int)} (he:SlE h ev E) :
 C prg 5 [.agg [.int .i64 n,ev],.int .i64 z,.int .i64 x] h fun v _=>v=.bool true:=by
 obtain⟨ec,eo⟩:=he.cells
 refine C.func pf5 ?_
 refine W.seq (W.run (by simp only[am,evOp,simprocAttr,initTm]<;>rfl) ?_)
 have x0:Ext h.next h (h.new (.cells [.int .i64 n,ev] 2 false)):=Ext.new (Nat.le_refl _)
 have g0:(h.new (.cells [.int .i64 n,ev] 2 false)).get h.next=some (.cells [.int .i64 n,ev] 2 false):=by rw[AH.get_new,if_pos rfl]
 have n0:(h.new (.cells [.int .i64 n,ev] 2 false)).next=h.next+1:=rfl
 generalize (h.new (.cells [.int .i64 n,ev] 2 false))=h1 at *
 refine W.seq (W.seq (W.reg (G.callq (by simp only[am,evOp,simprocAttr]) (by simp only[am,evOp,simprocAttr]<;>rfl) (speaks07_ok) fun r h2 hq=>?_)))
 obtain⟨rfl,x2⟩:=hq
 refine G.run (by simp only[am,evOp,simprocAttr]<;>rfl) ?_
 refine W.no (by simp only[am,evOp,simprocAttr]) (W.skip ?_)
 have X2:Ext h.next h h2:=x0.trans (x2.mono (by omega))
 have n2:=x2.nx
 have g2:h2.get h.next=some (.cells [.int .i64 n,ev] 2 false):=by rw[x2.gt _ (by omega)]; exact g0
 have rA:rdCells h2 h.next 0 2=some [.int .i64 n,ev]:=by rw[rdCells_of g2]; rfl
 have he2:=he.ext X2 (Nat.le_refl _)
 refine W.seq (W.seq (W.reg (G.gcall 1 (by simp only[am,evOp,simprocAttr,initTm,rA]<;>rfl) rfl (by simp only[am,evOp,simprocAttr,initTm,rA]) (by simp only[am,evOp,simprocAttr,initTm,rA]<;>rfl) (rplain_any (n:=n) he2) fun r h3 hq=>?_)))
 obtain⟨b,rfl,hb,x3⟩:=hq
 have X3:Ext h.next h h3:=X2.trans (x3.mono (by omega))
 have n3:=x3.nx
 have g3:h3.get h.next=some (.cells [.int .i64 n,ev] 2 false):=by rw[x3.gt _ (by omega)]; exact g2
 have rA3:rdCells h3 h.next 0 2=some [.int .i64 n,ev]:=by rw[rdCells_of g3]; rfl
 have r0:rdCells h3 h.next 0 1=some [.int .i64 n]:=rd_at g3 rfl
 have r1:rdCells h3 h.next 1 1=some [ev]:=rd_at g3 rfl
 have he3:=he.ext X3 (Nat.le_refl _)
 have el:=he3.len
 rw[List.length_map] at el
 cases b with
 | false =>
   refine G.run (by simp only[am,evOp,simprocAttr,initTm]<;>rfl) ?_
   refine W.yes (by simp only[am,evOp,simprocAttr]) (W.seq (W.run (by simp only[am,evOp,simprocAttr]<;>rfl) ?_))
   exact W.ret ⟨_,(by simp only[rs,rf5,am,evOp,simprocAttr]<;>rfl),rfl⟩
 | true =>
 have hP:=hb.1 rfl
 obtain⟨k,rfl⟩:=plain_nat hP
 have hE:InG k E:=by simpa using ing_of hP.1
 obtain⟨m1,m2,m3,m4⟩:=may_of hP.1
 by_cases q1:20<k
 ·have c1:decide ((20:Int)<((k:Nat):Int))=true:=decide_eq_true (by omega)
  refine G.run (by simp only[am,evOp,simprocAttr,initTm,r0,c1]<;>rfl) ?_
  refine W.yes (by simp only[am,evOp,simprocAttr]) (W.seq (W.run (by simp only[am,evOp,simprocAttr]<;>rfl) ?_))
  exact W.ret ⟨_,(by simp only[rs,rf5,am,evOp,simprocAttr]<;>rfl),rfl⟩
 have c1:decide ((20:Int)<((k:Nat):Int))=false:=decide_eq_false (by omega)
 by_cases q2:40<E.length
 ·have c2:decide ((40:Int)<((E.length:Nat):Int))=true:=decide_eq_true (by omega)
  refine G.run (by simp only[am,evOp,simprocAttr,initTm,r0,c1,r1,el,c2]<;>rfl) ?_
  refine W.yes (by simp only[am,evOp,simprocAttr]) (W.seq (W.run (by simp only[am,evOp,simprocAttr]<;>rfl) ?_))
  exact W.ret ⟨_,(by simp only[rs,rf5,am,evOp,simprocAttr]<;>rfl),rfl⟩
 have c2:decide ((40:Int)<((E.length:Nat):Int))=false:=decide_eq_false (by omega)
 refine G.run (by simp only[am,evOp,simprocAttr,initTm,r0,c1,r1,el,c2]<;>rfl) ?_
 refine W.no (by simp only[am,evOp,simprocAttr]) (W.skip ?_)
 refine W.seq (W.reg (G.gcall 1 (by simp only[am,evOp,simprocAttr,initTm,rA3]<;>rfl) rfl (by simp only[am,evOp,simprocAttr,initTm,rA3]) (by simp only[am,evOp,simprocAttr,initTm,rA3]<;>rfl) (pis_ok (n:=(k:Nat)) he3 (by omega)) fun r h4 hq=>?_))
 obtain⟨b,rfl,hb4,x4⟩:=hq
 refine G.runs (fun ts h'=>h'=h4∧tget ts 1=.int .i64 z∧tget ts 2=.int .i64 x∧tget ts 3=.ptr h.next 0∧tget ts 7=.bool b) (by simp only[am,evOp,simprocAttr,initTm]) ?_
 rintro ts h4' ⟨rfl,e1,e2,e3,e7⟩
 have X4:Ext h.next h h4':=X3.trans (x4.mono (by omega))
 have n4:=x4.nx
 have g4:h4'.get h.next=some (.cells [.int .i64 (k:Nat),ev] 2 false):=by rw[x4.gt _ (by omega)]; exact g3
 have he4:=he.ext X4 (Nat.le_refl _)
 clear x0 x2 x3 x4 X2 X3 g0 g2 g3 rA rA3 r0 r1 he2 he3
 obtain⟨p1,v1,p2,hp1,q1',a1,i1,y1,s1,t1⟩:=cop0 (K:=3) he4 (by omega) (by omega)
 have kg:∀ c,(h4'.keep 3).get c=if h4'.next≤c∧c<h4'.next+3 then some .resv else h4'.get c:=fun c=>AH.keep_get 3 h4'
 have gK:(h4'.keep 3).get h.next=some (.cells [.int .i64 (k:Nat),ev] 2 false):=by rw[kg,if_neg (by omega)]; exact g4
 have rK0:rdCells (h4'.keep 3) h.next 0 1=some [.int .i64 (k:Nat)]:=rd_at gK rfl
 have rK1:rdCells (h4'.keep 3) h.next 1 1=some [ev]:=rd_at gK rfl
 obtain⟨w,hw⟩:∃ w,w=lowB x % k:=⟨_,rfl⟩
 have hwk:w<k:=by rw[hw]; exact Nat.mod_lt _ (by omega)
 obtain⟨p3,v2,p4,hp3,a2,i2,y2,s2,t2,_⟩:=cop1 (a:=(w:Nat)) (b:=(k:Nat)) i1 (by omega) (s1 (h4'.next+1) (by omega) (by omega)) (by omega) (by omega)
 have gP2:p2.get h.next=some (.cells [.int .i64 (k:Nat),ev] 2 false):=by rw[y1.gt _ (by omega)]; exact g4
 have r20:rdCells p2 h.next 0 1=some [.int .i64 (k:Nat)]:=rd_at gP2 rfl
 have gP4:p4.get h.next=some (.cells [.int .i64 (k:Nat),ev] 2 false):=by rw[y2.gt _ (by omega)]; exact gP2
 have r40:rdCells p4 h.next 0 1=some [.int .i64 (k:Nat)]:=rd_at gP4 rfl
 have q4:p4.get (h4'.next+2)=some .resv:=s2 _ (s1 _ (by omega) (by omega)) (by omega)
 obtain⟨p5,hp5⟩:∃ p,p=p4.put (h4'.next+2) (.cells [.int .i64 0,.nils] 2 false):=⟨_,rfl⟩
 have u5:Upd p4 p5 (h4'.next+2) (.cells [.int .i64 0,.nils] 2 false):=by rw[hp5]; exact Upd.put q4
 have w6:wrCells p5 (h4'.next+2) 0 [.int .i64 (k+1:Nat),v2]=some (p5.put (h4'.next+2) (.cells [.int .i64 (k+1:Nat),v2] 2 false)):=by rw[wrCells_of u5.get]; rfl
 obtain⟨p6,hp6⟩:∃ p,p=p5.put (h4'.next+2) (.cells [.int .i64 (k+1:Nat),v2] 2 false):=⟨_,rfl⟩
 have u6:Upd p5 p6 (h4'.next+2) (.cells [.int .i64 (k+1:Nat),v2] 2 false):=by rw[hp6]; exact Upd.put u5.get
 rw[← hp6] at w6
 have wk:IntKind.i64.wrap (((k:Nat):Int)+1)=((k+1:Nat):Int):=wr64 (by omega) (by omega)
 have lb:=lowB_bits x
 have hk0:¬ ((k:Nat):Int)=0:=by omega
 have hmod:(((lowB x:Nat):Int)).tmod ((k:Nat):Int)=((w:Nat):Int):=by rw[tmod_nat,hw]
 have rp1:repl [AV.int .i64 0,.int .i64 0] 1=[.int .i64 0,.int .i64 0]:=rfl
 refine W.seq (W.runsK (fun ts h'=>h'=p6∧tget ts 1=.int .i64 z∧tget ts 3=.ptr h.next 0∧tget ts 7=.bool b∧tget ts 8=.ptr (h4'.next+2) 0)
  (by simp only[am,evOp,simprocAttr,e1,e2,e3,e7,rK0,rK1,wk,bin_band,lb,Option.map_some,if_neg hk0,hmod,evN_some,evNew_mksl q1',repl_zero,← hp1,a1,r20,evNew_mksl (s1 (h4'.next+1) (by omega) (by omega)),rp1,← hp3,a2,r40,i2.cells.1,i2.cells.2,evNew_new q4,← hp5,w6,List.take_succ_cons]) ?_)
 rintro ts p6' ⟨rfl,e1,e3,e7,e8⟩
 have u56:=u5.trans u6
 have y6:Ext h4'.next h4' p6':=y1.trans (y2.trans (u56.ext (by omega)))
 have n6:=y6.nx
 have i6:=isSl_resv i2 q4 u56
 have hS6:SlE p6' v2 (E++[(((w:Nat):Int),((k:Nat):Int))]):=IsSl.sl (by omega) eE_len i6
 have r6:rdCells p6' (h4'.next+2) 0 2=some [.int .i64 (k+1:Nat),v2]:=by rw[rdCells_of u56.get]; rfl
 have X6:=X4.trans (y6.mono (by omega))
 have g6:p6'.get h.next=some (.cells [.int .i64 (k:Nat),ev] 2 false):=by rw[y6.gt _ (by omega)]; exact g4
 clear hp1 q1' a1 i1 y1 s1 t1 hp3 a2 i2 y2 s2 t2 hp5 u5 w6 hp6 u6 u56 gK rK0 rK1 gP2 r20 gP4 r40 q4 i6 kg
 refine W.seq (W.seq (W.reg (G.gcall 1 (by simp only[am,evOp,simprocAttr,e8,r6]<;>rfl) rfl (by simp only[am,evOp,simprocAttr,e8,r6]) (by simp only[am,evOp,simprocAttr,e8,r6]<;>rfl) (pis_ok (n:=(k+1:Nat)) hS6 (by rw[List.length_append]; simp; omega)) fun r h7 hq=>?_)))
 obtain⟨b7,rfl,hb7,x7⟩:=hq
 have hbb:b7=b:=by
  have:=hung_isP hP hwk (by omega) (by omega)
  rw[← hb7,← hb4] at this
  cases b7<;>cases b<;>simp_all
 subst hbb
 have hne:(b7 != b7)=false:=by cases b7<;>rfl
 refine G.runs (fun ts h'=>h'=h7∧tget ts 1=.int .i64 z∧tget ts 3=.ptr h.next 0∧tget ts 7=.bool b7∧tget ts 50=.bool false) (by simp only[am,evOp,simprocAttr,e1,e3,e7,bin_bneq,hne]) ?_
 clear e1 e3 e7 e8
 rintro ts h7' ⟨rfl,e1,e3,e7,e50⟩
 refine W.no (by simp only[am,evOp,simprocAttr,e50]) (W.skip ?_)
 have n7:=x7.nx
 have X7:=X6.trans (x7.mono (by have:=X6.nx; omega))
 have g7:h7'.get h.next=some (.cells [.int .i64 (k:Nat),ev] 2 false):=by rw[x7.gt _ (by omega)]; exact g6
 have he7:=he.ext X7 (Nat.le_refl _)
 have el7:=he7.len
 rw[List.length_map] at el7
 have r70:rdCells h7' h.next 0 1=some [.int .i64 (k:Nat)]:=rd_at g7 rfl
 have r71:rdCells h7' h.next 1 1=some [ev]:=rd_at g7 rfl
 clear x7 hS6 r6 y6 g6 X6 hb7
 by_cases hz:E.length=0
 ·have hE0:E=[]:=List.length_eq_zero_iff.1 hz
  have d0:decide (((E.length:Nat):Int)=0)=true:=decide_eq_true (by omega)
  refine W.seq (W.seq (W.run (by simp only[am,evOp,simprocAttr,e3,r71,el7,d0]<;>rfl) ?_))
  refine W.yes (by simp only[am,evOp,simprocAttr]) (W.seq (W.run (by simp only[am,evOp,simprocAttr,e7]<;>rfl) ?_))
  refine W.ret ⟨.bool b7,(by simp only[rs,rf5,am,evOp,simprocAttr]<;>rfl),?_⟩
  have:IsP ((k:Nat):Int) E:=⟨hP,fun hE hL=>⟨Unit,fun _=>(),fun _=>(),by rw[hz]; exact Go.Pla.dual_nil⟩⟩
  rw[hb4.2 this]
 have d0:decide (((E.length:Nat):Int)=0)=false:=decide_eq_false (by omega)
 refine W.seq (W.seq (W.run (by simp only[am,evOp,simprocAttr,e3,r71,el7,d0]<;>rfl) ?_))
 refine W.no (by simp only[am,evOp,simprocAttr]) (W.skip ?_)
 obtain⟨j,hj⟩:∃ j,j=lowB z % E.length:=⟨_,rfl⟩
 have hjE:j<E.length:=by rw[hj]; exact Nat.mod_lt _ (by omega)
 have lz:=lowB_bits z
 have hE0:¬ ((E.length:Nat):Int)=0:=by omega
 have hmodz:(((lowB z:Nat):Int)).tmod ((E.length:Nat):Int)=((j:Nat):Int):=by rw[tmod_nat,hj]
 refine W.seq (W.runs (fun ts h'=>h'=h7'∧tget ts 3=.ptr h.next 0∧tget ts 7=.bool b7∧tget ts 9=.int .i64 (j:Nat)) (by simp only[am,evOp,simprocAttr,e1,e3,e7,bin_band,lz,Option.map_some,r71,el7,if_neg hE0,hmodz]) ?_)
 clear e1 e3 e7 e50
 rintro ts h7 ⟨rfl,e3,e7,e9⟩
 obtain⟨p1,v1,p2,hp1,q1',a1,i1,y1,s1,t1⟩:=cop0 (K:=2) he7 (by omega) (by omega)
 have gK:(h7.keep 2).get h.next=some (.cells [.int .i64 (k:Nat),ev] 2 false):=by rw[keepx,if_neg (by omega)]; exact g7
 have rK0:rdCells (h7.keep 2) h.next 0 1=some [.int .i64 (k:Nat)]:=rd_at gK rfl
 have rK1:rdCells (h7.keep 2) h.next 1 1=some [ev]:=rd_at gK rfl
 have gP2:p2.get h.next=some (.cells [.int .i64 (k:Nat),ev] 2 false):=by rw[y1.gt _ (by omega)]; exact g7
 have r20:rdCells p2 h.next 0 1=some [.int .i64 (k:Nat)]:=rd_at gP2 rfl
 have q2':p2.get (h7.next+1)=some .resv:=s1 _ (by omega) (by omega)
 obtain⟨p5,hp5⟩:∃ p,p=p2.put (h7.next+1) (.cells [.int .i64 0,.nils] 2 false):=⟨_,rfl⟩
 have u5:Upd p2 p5 (h7.next+1) (.cells [.int .i64 0,.nils] 2 false):=by rw[hp5]; exact Upd.put q2'
 have w6:wrCells p5 (h7.next+1) 0 [.int .i64 (k+1:Nat),v1]=some (p5.put (h7.next+1) (.cells [.int .i64 (k+1:Nat),v1] 2 false)):=by rw[wrCells_of u5.get]; rfl
 obtain⟨p6,hp6⟩:∃ p,p=p5.put (h7.next+1) (.cells [.int .i64 (k+1:Nat),v1] 2 false):=⟨_,rfl⟩
 have u6:Upd p5 p6 (h7.next+1) (.cells [.int .i64 (k+1:Nat),v1] 2 false):=by rw[hp6]; exact Upd.put u5.get
 rw[← hp6] at w6
 refine W.seq (W.runsK (fun ts h'=>h'=p6∧tget ts 3=.ptr h.next 0∧tget ts 7=.bool b7∧tget ts 9=.int .i64 (j:Nat)∧tget ts 10=.ptr (h7.next+1) 0)
  (by simp only[am,evOp,simprocAttr,e3,e7,e9,rK0,rK1,wk,evN_some,evNew_mksl q1',repl_zero,← hp1,a1,r20,i1.cells.1,i1.cells.2,evNew_new q2',← hp5,w6,List.take_succ_cons]) ?_)
 clear e3 e7 e9
 rintro ts p6' ⟨rfl,e3,e7,e9,e10⟩
 have u56:=u5.trans u6
 have y6:Ext h7.next h7 p6':=y1.trans (u56.ext (by omega))
 have n6:=y6.nx
 have i6:=isSl_resv i1 q2' u56
 have g6b:=u56.get
 have n6b:h7.next+2≤p6'.next:=by rw[u56.nx]; exact t1
 clear hp1 q1' a1 i1 y1 s1 t1 hp5 u5 w6 hp6 u6 u56 gK rK0 rK1 gP2 r20 q2'
 have g6:p6'.get h.next=some (.cells [.int .i64 (k:Nat),ev] 2 false):=by rw[y6.gt _ (by omega)]; exact g7
 have r60:rdCells p6' h.next 0 1=some [.int .i64 (k:Nat)]:=rd_at g6 rfl
 have r6v:rdCells p6' (h7.next+1) 1 1=some [v1]:=rd_at g6b rfl
 obtain⟨vb,hvb,hvl,hvg⟩:∃ vb,v1=.sl vb 0 E.length E.length∧h7.next≤vb∧p6'.get vb=some (.cells (E.flatMap eE) 2 false):=by
  rcases i6 with ⟨_,q⟩|⟨vb,nn,hv1,hv2,hv3,hv4⟩
  ·have:=cE_len E
   rw[q] at this
   simp at this
   omega
  ·have:nn=E.length:=by rw[cE_len] at hv4; omega
   subst this
   exact⟨vb,hv2,hv1,hv3⟩
 subst hvb
 have hvn:vb≠h7.next+1:=fun q=>by
  subst q
  rw[g6b] at hvg
  injection hvg with hvg
  injection hvg with q1 q2 q3
  have:(E.flatMap eE)[1]?=some (.sl (h7.next+1) 0 E.length E.length):=by rw[← q1]; rfl
  obtain⟨e,he,hm⟩:=List.mem_flatMap.1 (List.mem_of_getElem? this)
  simp [eE] at hm
 have hjl:j*2+1<(E.flatMap eE).length:=by rw[cE_len]; omega
 have w8:=wr_at (v:=.int .i64 (k:Nat)) hvg hjl
 rw[set_snd hjE] at w8
 have u8:=Upd.put (o:=.cells ((E.set j (E[j].1,((k:Nat):Int))).flatMap eE) 2 false) hvg
 have ix:=idx_nat hjE
 refine W.seq (W.runs (fun ts h'=>h'=p6'.put vb (.cells ((E.set j (E[j].1,((k:Nat):Int))).flatMap eE) 2 false)∧tget ts 3=.ptr h.next 0∧tget ts 7=.bool b7∧tget ts 9=.int .i64 (j:Nat)∧tget ts 10=.ptr (h7.next+1) 0)
  (by simp only[am,evOp,simprocAttr,e3,e7,e9,e10,r60,r6v,ix,Nat.zero_add,w8]) ?_)
 clear e3 e7 e9 e10
 rintro ts p8 ⟨hp8,e3,e7,e9,e10⟩
 rw[← hp8] at u8
 clear hp8 w8
 have y8:Ext h7.next h7 p8:=y6.trans (u8.ext hvl)
 have X8:=X7.trans (y8.mono (by omega))
 have n8:p8.next=p6'.next:=u8.nx
 have g8:p8.get h.next=some (.cells [.int .i64 (k:Nat),ev] 2 false):=by rw[y8.gt _ (by omega)]; exact g7
 have g8b:p8.get (h7.next+1)=some (.cells [.int .i64 (k+1:Nat),.sl vb 0 E.length E.length] 2 false):=by rw[u8.ne (Ne.symm hvn)]; exact g6b
 have i8:IsSl p8 2 h7.next (.sl vb 0 E.length E.length) ((E.set j (E[j].1,((k:Nat):Int))).flatMap eE):=.inr ⟨vb,E.length,hvl,rfl,u8.get,by rw[cE_len,List.length_set]⟩
 have he8:=he.ext X8 (Nat.le_refl _)
 have kn8:(p8.keep 1).next=p8.next+1:=AH.keep_next 1 p8
 have kg8:∀ c,c<p8.next→(p8.keep 1).get c=p8.get c:=fun c hc=>by rw[keepx,if_neg (by omega)]
 have i8k:IsSl (p8.keep 1) 2 h7.next (.sl vb 0 E.length E.length) ((E.set j (E[j].1,((k:Nat):Int))).flatMap eE):=i8.cong fun b n e _=>kg8 _ (i8.lt e)
 have he8k:SlE (p8.keep 1) ev E:=he8.cong fun b o n c e=>kg8 _ (he8.lt e)
 have g8k:(p8.keep 1).get h.next=some (.cells [.int .i64 (k:Nat),ev] 2 false):=by rw[kg8 _ (by omega)]; exact g8
 have g8bk:(p8.keep 1).get (h7.next+1)=some (.cells [.int .i64 (k+1:Nat),.sl vb 0 E.length E.length] 2 false):=by rw[kg8 _ (by omega)]; exact g8b
 have q8:(p8.keep 1).get p8.next=some .resv:=by rw[keepx,if_pos ⟨by omega,by omega⟩]
 obtain⟨ob,oo,ao,ro,ro1,_⟩:=he8k.at (i:=j) (x:=eE E[j]) (map_at hjE)
 have rh:=ro1 1 (.int .i64 E[j].2) rfl
 have rk0:rdCells (p8.keep 1) h.next 0 1=some [.int .i64 (k:Nat)]:=rd_at g8k rfl
 have rk1:rdCells (p8.keep 1) h.next 1 1=some [ev]:=rd_at g8k rfl
 have rkv:rdCells (p8.keep 1) (h7.next+1) 1 1=some [.sl vb 0 E.length E.length]:=rd_at g8bk rfl
 obtain⟨m3,v9,m4,hm3,a9,i9,y9,_,t9,s9⟩:=cop1 (a:=(k:Nat)) (b:=E[j].2) i8k (by omega) q8 (by omega) (by rw[List.length_set]; omega)
 have g9:m4.get (h7.next+1)=some (.cells [.int .i64 (k+1:Nat),.sl vb 0 E.length E.length] 2 false):=by
  rw[s9 _ (by omega) (by omega) (fun b n e=>by cases e; exact Ne.symm hvn)]
  exact g8bk
 have w9:=wr_at (v:=v9) g9 (i:=1) (by simp)
 have u9:=Upd.put (o:=.cells ([AV.int .i64 (k+1:Nat),.sl vb 0 E.length E.length].set 1 v9) 2 false) g9
 refine W.seq (W.runsK (fun ts h'=>h'=m4.put (h7.next+1) (.cells ([AV.int .i64 (k+1:Nat),.sl vb 0 E.length E.length].set 1 v9) 2 false)∧tget ts 7=.bool b7∧tget ts 10=.ptr (h7.next+1) 0)
  (by simp only[am,evOp,simprocAttr,e3,e7,e9,e10,rk0,rk1,rkv,ao,rh,evN_some,evNew_mksl q8,rp1,← hm3,a9,i9.cells.1,i9.cells.2,Nat.zero_add,w9]) ?_)
 clear e3 e7 e9 e10
 rintro ts m5 ⟨hm5,e7,e10⟩
 rw[← hm5] at u9
 have hvq:∀ b n,v9=.sl b 0 n n→b≠h7.next+1:=fun b n e q=>by
  rcases i9 with ⟨e2,_⟩|⟨b',n',_,e2,g,_⟩
  ·rw[e2] at e; cases e
  ·rw[e2] at e; cases e
   subst q
   rw[g9] at g
   injection g with g
   injection g with q1 q2 q3
   have:((E.set j (E[j].1,((k:Nat):Int))++[(((k:Nat):Int),E[j].2)]).flatMap eE)[1]?=some (.sl vb 0 E.length E.length):=by rw[← q1]; rfl
   obtain⟨e,he,hm⟩:=List.mem_flatMap.1 (List.mem_of_getElem? this)
   simp [eE] at hm
 have i10:IsSl m5 2 h7.next v9 ((E.set j (E[j].1,((k:Nat):Int))++[(((k:Nat):Int),E[j].2)]).flatMap eE):=i9.cong fun b n e _=>u9.ne (hvq b n e)
 have hS:SlE m5 v9 (E.set j (E[j].1,((k:Nat):Int))++[(((k:Nat):Int),E[j].2)]):=IsSl.sl (by omega) eE_len i10
 have r10:rdCells m5 (h7.next+1) 0 2=some [.int .i64 (k+1:Nat),v9]:=by rw[rdCells_of u9.get]; rfl
 refine W.seq (W.reg (G.gcall 1 (by simp only[am,evOp,simprocAttr,e10,r10]<;>rfl) rfl (by simp only[am,evOp,simprocAttr,e10,r10]) (by simp only[am,evOp,simprocAttr,e10,r10]<;>rfl) (pis_ok (n:=(k+1:Nat)) hS (by rw[List.length_append,List.length_set]; simp; omega)) fun r h11 hq=>?_))
 obtain⟨b11,rfl,hb11,x11⟩:=hq
 have hfin:b11=b7:=by
  have hEj:=hE j hjE
  have:=way_isP hP hjE (by omega) (by omega)
  have e1:E[j].1=((tlE E j:Nat):Int):=by rw[hEj.1]
  have e2:E[j].2=((hdE E j:Nat):Int):=by rw[hEj.1]
  rw[e1,e2] at hb11
  rw[← hb11,← hb4] at this
  cases b11<;>cases b7<;>simp_all
 subst hfin
 have hee:(b11==b11)=true:=by cases b11<;>rfl
 refine G.run (by simp only[am,evOp,simprocAttr,e7,hee]<;>rfl) ?_
 exact W.ret ⟨_,(by simp only[rs,rf5,am,evOp,simprocAttr]<;>rfl),rfl⟩
end Go.Proofs.Ytpeemonpdlifbaa
namespace Go.Proofs.Ytpeemonpdlifbaa
open Go.Am Go.Shelf
def sren:Ren:=⟨fun x=>match x with|189=>83|125=>51|257=>93|128=>73|129=>74|294=>95|295=>96|296=>97|297=>98|298=>99|299=>100|216=>101|300=>102|301=>103|328=>104|329=>86|330=>87|331=>105|332=>106|215=>107|343=>108|n=>n,fun x=>match x with|28=>34|46=>80|51=>103|53=>105|183=>97|182=>96|131=>89|218=>109|222=>113|228=>119|229=>120|n=>n,fun n=>n⟩
def sre2:Ren:=⟨fun x=>match x with|6=>34|15=>51|14=>50|28=>73|29=>74|20=>65|21=>66|22=>67|23=>68|24=>69|25=>70|26=>71|27=>72|46=>85|47=>86|48=>87|49=>88|50=>89|57=>94|n=>n,fun x=>match x with|22=>27|24=>34|25=>66|39=>80|53=>103|55=>105|46=>97|45=>96|50=>89|66=>109|70=>113|76=>119|77=>120|n=>n,fun n=>n⟩
theorem brs {f:FuncId}{B:Func} (h1:((Try.prog.funcs[f]?.getD Try.f34).name== "runtime.NumGoroutine")=false) (h2:Try.prog.funcs[f]?=some { B with name:=(Try.prog.funcs[f]?.getD Try.f34).name}):Bears Try.prog f B:=⟨_,h1,h2⟩
theorem slay:Lays.n189 Try.prog sren:=by
 constructor<;>first|kernel_rfl|(intro; kernel_rfl)
theorem sla2:SlLaysF.n6 Try.prog sre2:=by
 constructor<;>first|kernel_rfl|exact brs (by kernel_rfl) (by kernel_rfl)|(intro; kernel_rfl)
theorem cmp35:CmpOK Try.prog 35:=by
 intro W b1 o1 n1 c1 b2 o2 n2 c2 k1 k2 h1 h2 a1 a2 a3 a4
 go_enter Try.func35,Try.ntmps35
 go_wp2
 go_quiet (fail)
 go_wp2
 go_ret
 exact⟨rfl,_,rfl⟩
theorem ssrt:SrtOK Try.prog 83:=fun blk off cap zs w hH hb hz=>calls_of_every_depth fun D=>AnyS.slices_Sort_int_alone slay D blk off cap zs w hH hb hz
theorem srts:Marks Try.prog mks:=by
 have c:∀ {k:Nat}{r:RF},(cFunc Try.prog k).bind detF=some r→∃ rf,cFunc Try.prog k=some rf:=fun h=>let ⟨rf,h,_⟩:=Option.bind_eq_some_iff.1 h; ⟨rf,h⟩
 exact List.forall_mem_cons.2 ⟨.inl ⟨rfl,srts_of ssrt (c cf83)⟩,List.forall_mem_cons.2 ⟨.inr ⟨35,rfl,srfs_of sla2 rfl (enters_of Try.func35 (by kernel_rfl) rfl) cmp35 (c cf34)⟩,fun _ h=>by cases h⟩⟩
end Go.Proofs.Ytpeemonpdlifbaa
