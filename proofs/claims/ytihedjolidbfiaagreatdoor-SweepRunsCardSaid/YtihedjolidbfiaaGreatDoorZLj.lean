/-
  The definition's side: a front: Ready. The definition's side: a front: Place. The definition's side: Of: is a plan one of a good graph? The definition's side: Run.
-/
import Derived.Test.YtihedjolidbfiaaGreatDoorZLi
set_option linter.all false
namespace Go.Proofs.YtihedjolidbfiaaGreatDoor
open Go.Am
structure IsRef (h:AH) (fb n:Nat) (es:List (Int×Int)) (row:List It) (pl:List Int) (ev rv pv:AV):Prop where
 g:h.get fb=some (.cells [.int .i64 (n:Nat),ev,rv,pv] 4 false)
 e:SlE h ev es
 r:SlT h rv row
 p:SlI h pv pl
 oe:∀ b o m c,ev=.sl b o m c→b≠fb
 or:∀ b o m c,rv=.sl b o m c→b≠fb
 op:∀ b o m c,pv=.sl b o m c→b≠fb
 hm:mayB (n:Nat) es=true
theorem IsRef.ext {h h':AH}{fb n:Nat}{es:List (Int×Int)}{row:List It}{pl:List Int}{ev rv pv:AV} (hr:IsRef h fb n es row pl ev rv pv) (hx:Ext h.next h h'):IsRef h' fb n es row pl ev rv pv :=
 ⟨by rw[hx.gt _ (AH.lt_of_get hr.g)]; exact hr.g,hr.e.ext hx (Nat.le_refl _),hr.r.ext hx (Nat.le_refl _),hr.p.ext hx (Nat.le_refl _),hr.oe,hr.or,hr.op,hr.hm⟩
theorem rready_ok {h:AH}{fb n:Nat}{es:List (Int×Int)}{row:List It}{pl:List Int}{ev rv pv:AV}{x:Int} (hr:IsRef h fb n es row pl ev rv pv) (hl:row.length<2 ^ 30) (hl2:pl.length<2 ^ 30) :
 C prg 59 [.ptr fb 0,.int .i64 x] h fun r h'=>r=.bool (rreadyM n es row pl x)∧Ext h.next h h':=by
 obtain⟨m1,m2,m3,m4⟩:=may_of hr.hm
 have rn:rdCells h fb 0 1=some [.int .i64 (n:Nat)]:=rd_at hr.g rfl
 have rp:rdCells h fb 3 1=some [pv]:=rd_at hr.g rfl
 refine C.func pf59 ?_
 refine W.seq (W.run (by simp only[am,evOp,↓reduceIte,Nat.reduceEqDiff,Int.reduceEq,Nat.reduceAdd,Nat.reduceLeDiff,reduceCtorEq,initTm]<;>rfl) ?_)
 by_cases q1:x<0
 ·have c1:decide (x<0)=true:=decide_eq_true q1
  refine W.seq (W.seq (W.reg (G.nocall 17 (by simp only[am,evOp,↓reduceIte,Nat.reduceEqDiff,Int.reduceEq,Nat.reduceAdd,Nat.reduceLeDiff,reduceCtorEq,initTm,c1]<;>rfl) rfl (by simp only[am,evOp,↓reduceIte,Nat.reduceEqDiff,Int.reduceEq,Nat.reduceAdd,Nat.reduceLeDiff,reduceCtorEq]) ?_)))
  refine G.run (by simp only[am,evOp,↓reduceIte,Nat.reduceEqDiff,Int.reduceEq,Nat.reduceAdd,Nat.reduceLeDiff,reduceCtorEq]<;>rfl) ?_
  refine W.yes (by simp only[am,evOp,↓reduceIte,Nat.reduceEqDiff,Int.reduceEq,Nat.reduceAdd,Nat.reduceLeDiff,reduceCtorEq]) (W.seq (W.run (by simp only[am,evOp,↓reduceIte,Nat.reduceEqDiff,Int.reduceEq,Nat.reduceAdd,Nat.reduceLeDiff,reduceCtorEq]<;>rfl) ?_))
  refine W.ret ⟨.bool false,(by simp only[Am.results,rdAll,rdRes,rf59,am,evOp,↓reduceIte,Nat.reduceEqDiff,Int.reduceEq,Nat.reduceAdd,Nat.reduceLeDiff,reduceCtorEq]<;>rfl),?_,Ext.refl⟩
  have:decide (0≤x∧x<(n:Int))=false:=decide_eq_false (by omega)
  simp only[rreadyM,this,Bool.false_and]
 have c1:decide (x<0)=false:=decide_eq_false q1
 by_cases q2:((n:Nat):Int)≤x
 ·have c2:decide (((n:Nat):Int)≤x)=true:=decide_eq_true q2
  refine W.seq (W.seq (W.reg (G.nocall 17 (by simp only[am,evOp,↓reduceIte,Nat.reduceEqDiff,Int.reduceEq,Nat.reduceAdd,Nat.reduceLeDiff,reduceCtorEq,initTm,c1,c2,rn]<;>rfl) rfl (by simp only[am,evOp,↓reduceIte,Nat.reduceEqDiff,Int.reduceEq,Nat.reduceAdd,Nat.reduceLeDiff,reduceCtorEq]) ?_)))
  refine G.run (by simp only[am,evOp,↓reduceIte,Nat.reduceEqDiff,Int.reduceEq,Nat.reduceAdd,Nat.reduceLeDiff,reduceCtorEq]<;>rfl) ?_
  refine W.yes (by simp only[am,evOp,↓reduceIte,Nat.reduceEqDiff,Int.reduceEq,Nat.reduceAdd,Nat.reduceLeDiff,reduceCtorEq]) (W.seq (W.run (by simp only[am,evOp,↓reduceIte,Nat.reduceEqDiff,Int.reduceEq,Nat.reduceAdd,Nat.reduceLeDiff,reduceCtorEq]<;>rfl) ?_))
  refine W.ret ⟨.bool false,(by simp only[Am.results,rdAll,rdRes,rf59,am,evOp,↓reduceIte,Nat.reduceEqDiff,Int.reduceEq,Nat.reduceAdd,Nat.reduceLeDiff,reduceCtorEq]<;>rfl),?_,Ext.refl⟩
  have:decide (0≤x∧x<(n:Int))=false:=decide_eq_false (by omega)
  simp only[rreadyM,this,Bool.false_and]
 have c2:decide (((n:Nat):Int)≤x)=false:=decide_eq_false q2
 have c3:decide (0≤x∧x<(n:Int))=true:=decide_eq_true (by omega)
 refine W.seq (W.seq (W.reg (G.gcall 17 (by simp only[am,evOp,↓reduceIte,Nat.reduceEqDiff,Int.reduceEq,Nat.reduceAdd,Nat.reduceLeDiff,reduceCtorEq,initTm,c1,c2,rn,rp]<;>rfl) rfl (by simp only[am,evOp,↓reduceIte,Nat.reduceEqDiff,Int.reduceEq,Nat.reduceAdd,Nat.reduceLeDiff,reduceCtorEq,initTm,c1,c2,rn,rp]) (by simp only[am,evOp,↓reduceIte,Nat.reduceEqDiff,Int.reduceEq,Nat.reduceAdd,Nat.reduceLeDiff,reduceCtorEq,initTm,c1,c2,rn,rp]<;>rfl) (rhas9_ok (x:=x) hr.p (by omega)) fun r h1 hq=>?_)))
 obtain⟨rfl,rfl⟩:=hq
 refine G.run (by simp only[am,evOp,↓reduceIte,Nat.reduceEqDiff,Int.reduceEq,Nat.reduceAdd,Nat.reduceLeDiff,reduceCtorEq]<;>rfl) ?_
 refine W.cond (t:=decide (x∈pl)) (by simp only[am,evOp,↓reduceIte,Nat.reduceEqDiff,Int.reduceEq,Nat.reduceAdd,Nat.reduceLeDiff,reduceCtorEq]) (fun q=>?_) fun q=>?_
 ·refine W.seq (W.run (by simp only[am,evOp,↓reduceIte,Nat.reduceEqDiff,Int.reduceEq,Nat.reduceAdd,Nat.reduceLeDiff,reduceCtorEq]<;>rfl) ?_)
  refine W.ret ⟨.bool false,(by simp only[Am.results,rdAll,rdRes,rf59,am,evOp,↓reduceIte,Nat.reduceEqDiff,Int.reduceEq,Nat.reduceAdd,Nat.reduceLeDiff,reduceCtorEq]<;>rfl),?_,Ext.refl⟩
  simp only[rreadyM,q,Bool.not_true,Bool.and_false,Bool.false_and]
 refine W.skip ?_
 have hred:rreadyM n es row pl x=(decide ((insM es x).length=0)||rrdF x (insM es x).length row 0):=by
  simp only[rreadyM,c3,q,Bool.not_false,Bool.true_and]
 rw[hred]
 have rg:rdCells h1 fb 0 2=some [.int .i64 (n:Nat),ev]:=by rw[rdCells_of hr.g]; rfl
 refine W.seq (W.reg (G.gcall 5 (by simp only[am,evOp,↓reduceIte,Nat.reduceEqDiff,Int.reduceEq,Nat.reduceAdd,Nat.reduceLeDiff,reduceCtorEq,initTm,rg]<;>rfl) rfl (by simp only[am,evOp,↓reduceIte,Nat.reduceEqDiff,Int.reduceEq,Nat.reduceAdd,Nat.reduceLeDiff,reduceCtorEq,initTm,rg]) (by simp only[am,evOp,↓reduceIte,Nat.reduceEqDiff,Int.reduceEq,Nat.reduceAdd,Nat.reduceLeDiff,reduceCtorEq,initTm,rg]<;>rfl) (rends_ok (x:=x) (fr:=false) hr.e (by omega)) fun r h2 hq=>?_))
 obtain⟨i2,x2⟩:=hq
 have s2:SlI h2 r (insM es x):=IsSl.sl (by omega) (fun _=>rfl) i2
 have l2:=s2.len
 rw[List.length_map] at l2
 refine G.run (by simp only[am,evOp,↓reduceIte,Nat.reduceEqDiff,Int.reduceEq,Nat.reduceAdd,Nat.reduceLeDiff,reduceCtorEq,l2]<;>rfl) ?_
 have hr2:=hr.ext x2
 refine W.seq (W.seq (W.run (by simp only[am,evOp,↓reduceIte,Nat.reduceEqDiff,Int.reduceEq,Nat.reduceAdd,Nat.reduceLeDiff,reduceCtorEq]<;>rfl) ?_))
 refine W.cond (t:=decide ((insM es x).length=0)) (by simp only[am,evOp,↓reduceIte,Nat.reduceEqDiff,Int.reduceEq,Nat.reduceAdd,Nat.reduceLeDiff,reduceCtorEq]; exact congrArg AV.bool (by simp only[decide_eq_decide]; omega)) (fun q3=>?_) fun q3=>?_
 ·refine W.seq (W.run (by simp only[am,evOp,↓reduceIte,Nat.reduceEqDiff,Int.reduceEq,Nat.reduceAdd,Nat.reduceLeDiff,reduceCtorEq]<;>rfl) ?_)
  exact W.ret ⟨.bool true,(by simp only[Am.results,rdAll,rdRes,rf59,am,evOp,↓reduceIte,Nat.reduceEqDiff,Int.reduceEq,Nat.reduceAdd,Nat.reduceLeDiff,reduceCtorEq]<;>rfl),by rw[q3]; rfl,x2⟩
 rw[q3,Bool.false_or]
 refine W.skip ?_
 have hil:(insM es x).length≤128:=Nat.le_trans (endsAt_len _ _ _) m3
 generalize (insM es x).length=need at *
 have rr:rdCells h2 fb 2 1=some [rv]:=rd_at hr2.g rfl
 have lr:=hr2.r.len
 rw[List.length_map] at lr
 refine W.seq (W.run (by simp only[am,evOp,↓reduceIte,Nat.reduceEqDiff,Int.reduceEq,Nat.reduceAdd,Nat.reduceLeDiff,reduceCtorEq]<;>rfl) ?_)
 refine W.seq (W.seq (W.run (by simp only[am,evOp,↓reduceIte,Nat.reduceEqDiff,Int.reduceEq,Nat.reduceAdd,Nat.reduceLeDiff,reduceCtorEq]<;>rfl) ?_))
 refine W.whl (α:=Nat) (N:=row.length) (fun k a=>[(0,.ptr fb 0),(1,.int .i64 x),(5,.int .i64 (need:Nat)),(6,.int .i64 (a:Nat)),(7,.int .i64 (k:Nat))]) (fun k a h'=>h'=h2∧a≤k∧rrdF x need (row.drop k) a=rrdF x need row 0) 0 (by simp only[held_cons,held_nil,am,evOp,↓reduceIte,Nat.reduceEqDiff,Int.reduceEq,Nat.reduceAdd,Nat.reduceLeDiff,reduceCtorEq,initTm,Int.natCast_zero]) ⟨rfl,Nat.le_refl _,rfl⟩ ?_ ?_ ?_
 ·rintro k a ts h3 hk ⟨rfl,ja,j1⟩ ⟨e0,e1,e5,e6,e7,-⟩
  simp only at e0 e1 e5 e6 e7
  exact⟨_,(by simp only[am,evOp,↓reduceIte,Nat.reduceEqDiff,Int.reduceEq,Nat.reduceAdd,Nat.reduceLeDiff,reduceCtorEq,e0,e7,rr,lr,Int.ofNat_lt]<;>rfl),by simp only[am,evOp,↓reduceIte,Nat.reduceEqDiff,Int.reduceEq,Nat.reduceAdd,Nat.reduceLeDiff,reduceCtorEq],by simp only[held_cons,held_nil,am,evOp,↓reduceIte,Nat.reduceEqDiff,Int.reduceEq,Nat.reduceAdd,Nat.reduceLeDiff,reduceCtorEq,e0,e1,e5,e6,e7]⟩
 ·rintro k a ts h3 hk ⟨rfl,ja,j1⟩ ⟨e0,e1,e5,e6,e7,-⟩
  simp only at e0 e1 e5 e6 e7
  obtain⟨b1,p1,a1,_,rs,_⟩:=hr2.r.at (map_at (f:=eT) hk)
  have ra:rdCells h3 b1 p1 1=some [.int .i64 row[k].1]:=rs 0 _ rfl
  have rc:rdCells h3 b1 (p1+2) 1=some [.int .i64 row[k].2.2]:=rs 2 _ rfl
  have w1:=w1_ok (k:=k) (by omega)
  have w2:=w1_ok (k:=a) (by omega)
  rw[List.drop_eq_getElem_cons hk,rrdF] at j1
  refine W.seq (W.run (by simp only[am,evOp,↓reduceIte,Nat.reduceEqDiff,Int.reduceEq,Nat.reduceAdd,Nat.reduceLeDiff,reduceCtorEq,e0,e1,e7,rr,a1,rc]<;>rfl) ?_)
  refine W.cond (t:=decide (row[k].2.2=x)) (by simp only[am,evOp,↓reduceIte,Nat.reduceEqDiff,Int.reduceEq,Nat.reduceAdd,Nat.reduceLeDiff,reduceCtorEq]) (fun p=>?_) fun p=>?_
  ·have p:row[k].2.2=x:=of_decide_eq_true p
   rw[if_pos p] at j1
   refine W.run (by simp only[am,evOp,↓reduceIte,Nat.reduceEqDiff,Int.reduceEq,Nat.reduceAdd,Nat.reduceLeDiff,reduceCtorEq,e6,w2]<;>rfl) ?_
   exact⟨a+1,⟨rfl,by omega,j1⟩,_,(by simp only[am,evOp,↓reduceIte,Nat.reduceEqDiff,Int.reduceEq,Nat.reduceAdd,Nat.reduceLeDiff,reduceCtorEq,e7,w1]<;>rfl),by simp only[held_cons,held_nil,am,evOp,↓reduceIte,Nat.reduceEqDiff,Int.reduceEq,Nat.reduceAdd,Nat.reduceLeDiff,reduceCtorEq,e0,e1,e5]⟩
  ·have p:¬ row[k].2.2=x:=of_decide_eq_false p
   rw[if_neg p] at j1
   have next:¬ (0≤row[k].1∧0<a∧a<need)→rrdF x need (row.drop (k+1)) a=rrdF x need row 0:=fun hne=>by rw[if_neg hne] at j1; exact j1
   by_cases t1:0≤row[k].1
   ·have d1:decide (0≤row[k].1)=true:=decide_eq_true t1
    by_cases t2:0<a
    ·have d2:decide ((0:Int)<((a:Nat):Int))=true:=decide_eq_true (by omega)
     refine W.seq (W.run (by simp only[am,evOp,↓reduceIte,Nat.reduceEqDiff,Int.reduceEq,Nat.reduceAdd,Nat.reduceLeDiff,reduceCtorEq,e0,e5,e6,e7,rr,a1,ra,d1,d2]<;>rfl) ?_)
     refine W.cond (t:=decide (a<need)) (by simp only[am,evOp,↓reduceIte,Nat.reduceEqDiff,Int.reduceEq,Nat.reduceAdd,Nat.reduceLeDiff,reduceCtorEq,Int.ofNat_lt]) (fun t3=>?_) fun t3=>?_
     ·have t3:a<need:=of_decide_eq_true t3
      rw[if_pos ⟨t1,t2,t3⟩] at j1
      refine W.seq (W.run (by simp only[am,evOp,↓reduceIte,Nat.reduceEqDiff,Int.reduceEq,Nat.reduceAdd,Nat.reduceLeDiff,reduceCtorEq]<;>rfl) ?_)
      exact W.ret ⟨.bool false,(by simp only[Am.results,rdAll,rdRes,rf59,am,evOp,↓reduceIte,Nat.reduceEqDiff,Int.reduceEq,Nat.reduceAdd,Nat.reduceLeDiff,reduceCtorEq]<;>rfl),by rw[j1],x2⟩
     ·have t3:¬ a<need:=of_decide_eq_false t3
      exact W.skip ⟨a,⟨rfl,by omega,next (fun hh=>t3 hh.2.2)⟩,_,(by simp only[am,evOp,↓reduceIte,Nat.reduceEqDiff,Int.reduceEq,Nat.reduceAdd,Nat.reduceLeDiff,reduceCtorEq,e7,w1]<;>rfl),by simp only[held_cons,held_nil,am,evOp,↓reduceIte,Nat.reduceEqDiff,Int.reduceEq,Nat.reduceAdd,Nat.reduceLeDiff,reduceCtorEq,e0,e1,e5,e6]⟩
    ·have d2:decide ((0:Int)<((a:Nat):Int))=false:=decide_eq_false (by omega)
     refine W.seq (W.run (by simp only[am,evOp,↓reduceIte,Nat.reduceEqDiff,Int.reduceEq,Nat.reduceAdd,Nat.reduceLeDiff,reduceCtorEq,e0,e5,e6,e7,rr,a1,ra,d1,d2]<;>rfl) ?_)
     refine W.no (by simp only[am,evOp,↓reduceIte,Nat.reduceEqDiff,Int.reduceEq,Nat.reduceAdd,Nat.reduceLeDiff,reduceCtorEq]) (W.skip ⟨a,⟨rfl,by omega,next (fun hh=>t2 hh.2.1)⟩,_,(by simp only[am,evOp,↓reduceIte,Nat.reduceEqDiff,Int.reduceEq,Nat.reduceAdd,Nat.reduceLeDiff,reduceCtorEq,e7,w1]<;>rfl),by simp only[held_cons,held_nil,am,evOp,↓reduceIte,Nat.reduceEqDiff,Int.reduceEq,Nat.reduceAdd,Nat.reduceLeDiff,reduceCtorEq,e0,e1,e5,e6]⟩)
   ·have d1:decide (0≤row[k].1)=false:=decide_eq_false t1
    refine W.seq (W.run (by simp only[am,evOp,↓reduceIte,Nat.reduceEqDiff,Int.reduceEq,Nat.reduceAdd,Nat.reduceLeDiff,reduceCtorEq,e0,e5,e6,e7,rr,a1,ra,d1]<;>rfl) ?_)
    refine W.no (by simp only[am,evOp,↓reduceIte,Nat.reduceEqDiff,Int.reduceEq,Nat.reduceAdd,Nat.reduceLeDiff,reduceCtorEq]) (W.skip ⟨a,⟨rfl,by omega,next (fun hh=>t1 hh.1)⟩,_,(by simp only[am,evOp,↓reduceIte,Nat.reduceEqDiff,Int.reduceEq,Nat.reduceAdd,Nat.reduceLeDiff,reduceCtorEq,e7,w1]<;>rfl),by simp only[held_cons,held_nil,am,evOp,↓reduceIte,Nat.reduceEqDiff,Int.reduceEq,Nat.reduceAdd,Nat.reduceLeDiff,reduceCtorEq,e0,e1,e5,e6]⟩)
 ·rintro a ts h3 ⟨rfl,ja,j1⟩ ⟨e0,e1,e5,e6,e7,-⟩
  simp only at e5 e6
  rw[List.drop_length] at j1
  refine W.seq (W.run (by simp only[am,evOp,↓reduceIte,Nat.reduceEqDiff,Int.reduceEq,Nat.reduceAdd,Nat.reduceLeDiff,reduceCtorEq,e5,e6]<;>rfl) ?_)
  refine W.ret ⟨_,(by simp only[Am.results,rdAll,rdRes,rf59,am,evOp,↓reduceIte,Nat.reduceEqDiff,Int.reduceEq,Nat.reduceAdd,Nat.reduceLeDiff,reduceCtorEq]<;>rfl),?_,x2⟩
  rw[← j1]
  exact congrArg AV.bool (by simp only[rrdF,decide_eq_decide]; omega)
end Go.Proofs.YtihedjolidbfiaaGreatDoor
namespace Go.Proofs.YtihedjolidbfiaaGreatDoor
open Go.Am
theorem appS_ok {h:AH}{esz lo bytes:Nat}{v w:AV}{cs:List AV}{xs:List (List AV)} (hv:IsSl h esz lo v cs) (hlo:lo≤h.next) (he:0<esz) (hw:Sl h esz w xs) (ho:xs.flatten.all AV.one=true)
 (hb:(cs.length / esz+xs.length)*bytes<tooMany) (hc:cs.length / esz+xs.length<tooMany):∃ v' h',appA h esz bytes v w=some (v',h')∧IsSl h' esz lo v' (cs++xs.flatten)∧Ext lo h h'∧h.next≤h'.next∧(∀ c,c<h.next→(∀ b n,v=.sl b 0 n n→c≠b)→h'.get c=h.get c)∧(∀ c,h'.tyOf c=h.tyOf c):=by
 obtain⟨s1,s2⟩:=hw.src
 rcases hv with ⟨rfl,rfl⟩|⟨b,n,h1,rfl,h3,h4⟩
 ·simp only[List.length_nil,Nat.zero_div,Nat.zero_add] at hb hc
  by_cases hz:xs.length=0
  ·refine⟨.nils,h,?_,.inl ⟨rfl,by rw[List.length_eq_zero_iff.1 hz]; rfl⟩,Ext.refl,Nat.le_refl _,fun _ _ _=>rfl,fun _=>rfl⟩
   simp only[appA,s1,ho,if_true,hz]
  ·refine⟨.sl h.next 0 xs.length xs.length,h.new (.cells xs.flatten esz false),?_,.inr ⟨h.next,xs.length,hlo,rfl,by rw[AH.get_new,if_pos rfl]; rfl,by simpa using s2⟩,Ext.new hlo,by simp,fun c hc' _=>by rw[AH.get_new,if_neg (by omega)],fun _=>rfl⟩
   simp only[appA,s1,ho,if_true,if_neg hz]
   rw[if_pos ⟨hb,hc⟩]
 ·have hnn:cs.length / esz=n:=by rw[h4,Nat.mul_div_cancel _ he]
  rw[hnn] at hb hc
  have hr2:rdCells h b 0 (n*esz)=some cs:=by
   rw[rdCells_of h3,if_pos (by omega),List.drop_zero,← h4,List.take_length]
  by_cases hz:xs.length=0
  ·refine⟨.sl b 0 n n,h,?_,.inr ⟨b,n,h1,rfl,by rw[List.length_eq_zero_iff.1 hz,List.flatten_nil,List.append_nil]; exact h3,by rw[List.length_eq_zero_iff.1 hz,List.flatten_nil,List.append_nil]; exact h4⟩,Ext.refl,Nat.le_refl _,fun _ _ _=>rfl,fun _=>rfl⟩
   simp only[appA,s1,ho,if_true,hz]
  ·refine⟨.sl h.next 0 (n+xs.length) (n+xs.length),(h.put b .dead).new (.cells (cs++xs.flatten) esz false),?_,.inr ⟨h.next,n+xs.length,hlo,rfl,by rw[AH.get_new,AH.next_put]; simp,by rw[List.length_append,s2,h4,Nat.add_mul]⟩,?_,by simp,?_,fun _=>rfl⟩
   ·simp only[appA,s1,ho,if_true,if_neg hz]
    rw[if_neg (by omega),if_pos ⟨hb,hc⟩,h3,hr2]
    simp only[if_true]
   ·exact (Ext.put h1).trans (Ext.new (by simpa using hlo))
   ·intro c hc' hne
    rw[AH.get_new,AH.next_put,if_neg (by omega),AH.get_put _ _ _ _ (AH.lt_of_get h3),if_neg (Ne.symm (hne b n rfl))]
theorem sl_same {h:AH}{e:Nat}{v:AV}{xs:List (List AV)} (hs:Sl h e v xs):AV.same v v=true:=by
 rcases hs with ⟨_,rfl|rfl⟩|⟨b,o,c,cs,ro,rfl,_⟩
 ·exact same_nils
 ·rfl
 ·exact same_sl
theorem flatT (xs:List It):(xs.map eT).flatten=xs.flatMap eT:=rfl
theorem flatI (xs:List Int):(xs.map eI).flatten=xs.flatMap eI:=rfl
theorem span_step {x:Int}{row:List It}{k:Nat} (hk:k<row.length):spanF x (row.take (k+1)) 0 (-1,0,0)=if row[k].2.2=x then (if (spanF x (row.take k) 0 (-1,0,0)).1=-1 then ((k:Nat):Int) else (spanF x (row.take k) 0 (-1,0,0)).1,((k+1:Nat):Int),(spanF x (row.take k) 0 (-1,0,0)).2.2+1) else spanF x (row.take k) 0 (-1,0,0):=by
 rw[List.take_succ_eq_append_getElem hk,spanF_app,spanF,spanF,List.length_take,Nat.min_eq_left (by omega),Nat.zero_add]
theorem rplace_ok {h:AH}{fb n:Nat}{es:List (Int×Int)}{row:List It}{pl outs:List Int}{ev rv pv ov:AV}{x:Int} (hr:IsRef h fb n es row pl ev rv pv) (hv:SlI h ov outs) (hov:∀ b o m c,ov=.sl b o m c→b≠fb) (ho:OutsOk es x outs) (hl:row.length<2 ^ 29) (hl2:pl.length<2 ^ 29) (hl3:outs.length<2 ^ 29) :
 C prg 31 [.ptr fb 0,.int .i64 x,ov] h fun r h' =>
   if rreadyM n es row pl x=true then ∃ g rv' pv',r=.tup [g,.int .i64 0]∧SlT h' g (goneM x row)∧(∀ b o m c,g=.sl b o m c→h.next≤b)∧IsRef h' fb n es (nextM es x outs row) (pl++[x]) ev rv' pv'∧(∀ b o m c,rv'=.sl b o m c→h.next≤b)∧(∀ b o m c,pv'=.sl b o m c→h.next≤b)∧Kp (·=fb) h h'
   else r=.tup [.nils,.int .i64 3]∧Ext h.next h h':=by
 obtain⟨m1,m2,m3,m4⟩:=may_of hr.hm
 have hfb:=AH.lt_of_get hr.g
 refine C.func pf31 ?_
 refine W.seq (W.run (by simp only[am,evOp,simprocAttr,initTm]<;>rfl) ?_)
 refine W.seq (W.seq (W.reg (G.gcall 2 (by simp only[am,evOp,simprocAttr,initTm]<;>rfl) rfl (by simp only[am,evOp,simprocAttr,initTm]) (by simp only[am,evOp,simprocAttr,initTm]<;>rfl) (rready_ok (x:=x) hr (by omega) (by omega)) fun r h1 hq=>?_)))
 obtain⟨rfl,x1⟩:=hq
 refine G.run (by simp only[am,evOp,simprocAttr]<;>rfl) ?_
 refine W.cond (t:=!rreadyM n es row pl x) (by simp only[am,evOp,simprocAttr]) (fun q=>?_) fun q=>?_
 ·have q:rreadyM n es row pl x=false:=by simpa using q
  refine W.seq (W.run (by simp only[am,evOp,simprocAttr]<;>rfl) ?_)
  refine W.ret ⟨.tup [.nils,.int .i64 3],(by simp only[rs,rf31,am,evOp,simprocAttr]<;>rfl),?_⟩
  rw[if_neg (by simp [q])]
  exact⟨rfl,x1⟩
 have q:rreadyM n es row pl x=true:=by simpa using q
 refine W.skip ?_
 have hr1:=hr.ext x1
 have n1:=x1.nx
 have rg:rdCells h1 fb 0 2=some [.int .i64 (n:Nat),ev]:=by rw[rdCells_of hr1.g]; rfl
 refine W.seq (W.reg (G.gcall 5 (by simp only[am,evOp,simprocAttr,initTm,rg]<;>rfl) rfl (by simp only[am,evOp,simprocAttr,initTm,rg]) (by simp only[am,evOp,simprocAttr,initTm,rg]<;>rfl) (rends_ok (x:=x) (fr:=true) hr1.e (by omega)) fun r h2 hq=>?_))
 obtain⟨i2,x2⟩:=hq
 have s2:SlI h2 r (outsM es x):=IsSl.sl (by omega) (fun _=>rfl) i2
 have l2:=s2.len
 rw[List.length_map] at l2
 refine G.run (by simp only[am,evOp,simprocAttr]<;>rfl) ?_
 have X2:=x1.trans (x2.mono n1)
 have n2:=x2.nx
 have hr2:=hr1.ext x2
 have hv2:=hv.ext X2 (Nat.le_refl _)
 have lv:=hv.len
 rw[List.length_map] at lv
 have hlen:outs.length=(outsM es x).length:=ho.length_eq
 have hnl:((outs.length:Nat):Int)=(((outsM es x).length:Nat):Int):=by rw[hlen]
 have c0:decide (((outs.length:Nat):Int)=(((outsM es x).length:Nat):Int))=true:=decide_eq_true hnl
 refine W.seq (W.seq (W.run (by simp only[am,evOp,simprocAttr,initTm,lv,l2,c0]<;>rfl) ?_))
 refine W.no (by simp only[am,evOp,simprocAttr]) (W.skip ?_)
 refine W.seq (W.seq (W.run (by simp only[am,evOp,simprocAttr,initTm]<;>rfl) ?_))
 have hol:(outsM es x).length≤128:=Nat.le_trans (endsAt_len _ _ _) m3
 refine W.whl (α:=Unit) (N:=(outsM es x).length) (fun k _=>[(0,.ptr fb 0),(1,.int .i64 x),(2,ov),(8,r),(9,.int .i64 (k:Nat))]) (fun _ _ h'=>h'=h2) () (by simp only[held_cons,held_nil,am,evOp,↓reduceIte,Nat.reduceEqDiff,Int.reduceEq,Nat.reduceAdd,Nat.reduceLeDiff,reduceCtorEq,initTm,Int.natCast_zero]) rfl ?_ ?_ ?_
 ·rintro k _ ts h3 hk rfl ⟨e0,e1,e2,e8,e9,-⟩
  simp only at e0 e1 e2 e8 e9
  exact⟨_,(by simp only[am,evOp,↓reduceIte,Nat.reduceEqDiff,Int.reduceEq,Nat.reduceAdd,Nat.reduceLeDiff,reduceCtorEq,e8,e9,l2,Int.ofNat_lt]<;>rfl),by simp only[am,evOp,↓reduceIte,Nat.reduceEqDiff,Int.reduceEq,Nat.reduceAdd,Nat.reduceLeDiff,reduceCtorEq],by simp only[held_cons,held_nil,am,evOp,↓reduceIte,Nat.reduceEqDiff,Int.reduceEq,Nat.reduceAdd,Nat.reduceLeDiff,reduceCtorEq,e0,e1,e2,e8,e9]⟩
 ·rintro k _ ts h3 hk rfl ⟨e0,e1,e2,e8,e9,-⟩
  simp only at e0 e1 e2 e8 e9
  obtain⟨b1,p1,a1,r1,_⟩:=s2.at1 (map_at (f:=eI) hk)
  have w1:=w1_ok (k:=k) (by omega)
  refine W.seq (W.reg (G.gcall 5 (by simp only[am,evOp,simprocAttr,e2,e8,e9,a1,r1]<;>rfl) rfl (by simp only[am,evOp,simprocAttr,e2,e8,e9,a1,r1]) (by simp only[am,evOp,simprocAttr,e2,e8,e9,a1,r1]<;>rfl) (rhas9_ok (x:=(outsM es x)[k]) hv2 (by omega)) fun r4 h4 hq=>?_))
  obtain⟨rfl,rfl⟩:=hq
  have c1:decide ((outsM es x)[k]∈outs)=true:=decide_eq_true (ho.mem.2 (List.getElem_mem hk))
  rw[c1]
  refine G.run (by simp only[am,evOp,simprocAttr]<;>rfl) ?_
  exact W.no (by simp only[am,evOp,↓reduceIte,Nat.reduceEqDiff,Int.reduceEq,Nat.reduceAdd,Nat.reduceLeDiff,reduceCtorEq]) (W.skip ⟨(),rfl,_,(by simp only[am,evOp,↓reduceIte,Nat.reduceEqDiff,Int.reduceEq,Nat.reduceAdd,Nat.reduceLeDiff,reduceCtorEq,e9,w1]<;>rfl),by simp only[held_cons,held_nil,am,evOp,↓reduceIte,Nat.reduceEqDiff,Int.reduceEq,Nat.reduceAdd,Nat.reduceLeDiff,reduceCtorEq,e0,e1,e2,e8]⟩)
 rintro _ ts h3 rfl ⟨e0,e1,e2,e8,e9,-⟩
 simp only at e0 e1 e2
 refine W.seq (W.run (by simp only[am,evOp,simprocAttr]<;>rfl) ?_)
 have x4:Ext h3.next h3 (h3.new (.cells [] 3 false)):=Ext.new (Nat.le_refl _)
 have g4:(h3.new (.cells [] 3 false)).get h3.next=some (.cells [] 3 false):=by rw[AH.get_new,if_pos rfl]
 have n4:(h3.new (.cells [] 3 false)).next=h3.next+1:=rfl
 generalize h3.new (.cells [] 3 false)=h4 at *
 refine W.seq (W.seq (W.run (by simp only[am,evOp,simprocAttr]<;>rfl) ?_))
 have hrr:∀ i∈outs,0≤i∧i<es.length:=fun i hi=>by
  obtain⟨k,rfl,t,ht⟩:=mem_outs.1 (ho.mem.1 hi)
  have:=(List.getElem?_eq_some_iff.1 ht).1
  omega
 refine W.whl (α:=AV) (N:=outs.length) (fun k a=>[(0,.ptr fb 0),(1,.int .i64 x),(2,ov),(10,a),(11,.int .i64 (k:Nat))]) (fun k a h'=>IsSl h' 3 h3.next a (((outs.map fun i=>(i,x,((es[i.toNat]?).getD (0,0)).2)).take k).flatMap eT)∧Ext h3.next h3 h') (.sl h3.next 0 0 0) (by simp only[held_cons,held_nil,am,evOp,↓reduceIte,Nat.reduceEqDiff,Int.reduceEq,Nat.reduceAdd,Nat.reduceLeDiff,reduceCtorEq,e0,e1,e2,Int.natCast_zero])
  ⟨.inr ⟨h3.next,0,Nat.le_refl _,rfl,g4,rfl⟩,x4⟩ ?_ ?_ ?_
 ·rintro k a ts h5 hk ⟨j1,jx⟩ ⟨e0,e1,e2,e10,e11,-⟩
  simp only at e0 e1 e2 e10 e11
  exact⟨_,(by simp only[am,evOp,↓reduceIte,Nat.reduceEqDiff,Int.reduceEq,Nat.reduceAdd,Nat.reduceLeDiff,reduceCtorEq,e2,e11,lv,Int.ofNat_lt]<;>rfl),by simp only[am,evOp,↓reduceIte,Nat.reduceEqDiff,Int.reduceEq,Nat.reduceAdd,Nat.reduceLeDiff,reduceCtorEq],by simp only[held_cons,held_nil,am,evOp,↓reduceIte,Nat.reduceEqDiff,Int.reduceEq,Nat.reduceAdd,Nat.reduceLeDiff,reduceCtorEq,e0,e1,e2,e10,e11]⟩
 ·rintro k a ts h5 hk ⟨j1,jx⟩ ⟨e0,e1,e2,e10,e11,-⟩
  simp only at e0 e1 e2 e10 e11
  have jn:=jx.nx
  have hk5:∀ c,c<h5.next→(h5.keep 1).get c=h5.get c:=fun c hc=>by rw[AH.keep_get,if_neg (by omega)]
  have q7:(h5.keep 1).get h5.next=some .resv:=keep1_get
  have hv5:SlI (h5.keep 1) ov outs:=by
   have s:=hv2.ext jx (Nat.le_refl _)
   exact s.cong fun b o m c hb=>hk5 _ (s.lt hb)
  have he5:SlE (h5.keep 1) ev es:=by
   have s:=hr2.e.ext jx (Nat.le_refl _)
   exact s.cong fun b o m c hb=>hk5 _ (s.lt hb)
  have hr5:=hr2.ext jx
  obtain⟨b1,p1,a1,r4,_⟩:=hv5.at1 (map_at (f:=eI) hk)
  obtain⟨hi1,hi2⟩:=hrr _ (List.getElem_mem hk)
  obtain⟨i,hi⟩:∃ i:Nat,outs[k]=i:=⟨outs[k].toNat,by omega⟩
  rw[hi] at r4 hi2
  have hil:i<es.length:=by omega
  obtain⟨eb1,ep,a7,_,r7,_⟩:=he5.at (map_at (f:=eE) hil)
  have r7:=r7 1 (.int .i64 es[i].2) rfl
  have re:rdCells (h5.keep 1) fb 1 1=some [ev]:=rd_at (by rw[hk5 _ (by omega)]; exact hr5.g) rfl
  obtain⟨p1',p2,p3,p4⟩:=keep1_put (h:=h5) (o:=.cells [.int .i64 ((i:Nat):Int),.int .i64 x,.int .i64 es[i].2] 3 false)
  have hlenk:(((outs.map fun i=>(i,x,((es[i.toNat]?).getD (0,0)).2)).take k).flatMap eT).length=k*3:=by
   rw[flat_len (f:=eT) (e:=3) (fun _=>rfl),List.length_take,List.length_map,Nat.min_eq_left (by omega)]
  obtain⟨s',h6,a6,i6,x6,hs6,n6,k6,t6⟩:=(j1.ext p1' (Nat.le_refl _)).app (bytes:=24) (x:=h5.next) (new:=[.int .i64 ((i:Nat):Int),.int .i64 x,.int .i64 es[i].2]) (by rw[p3]; omega) (by omega) p2 (by omega) (fun b m hb=>by have:=j1.lt hb; omega) rfl rfl
   (by rw[hlenk,Nat.mul_div_cancel _ (by omega)]; unfold tooMany; omega) (by rw[hlenk,Nat.mul_div_cancel _ (by omega)]; unfold tooMany; omega)
  have w1:=w1_ok (k:=k) (by omega)
  refine W.runK (by simp only[am,evOp,simprocAttr,e0,e1,e2,e10,e11,a1,r4,re,a7,r7,evN_some,evNew_mksl q7,a6]<;>rfl) ?_
  refine⟨s',⟨?_,jx.trans ((p1'.mono jn).trans x6)⟩,_,(by simp only[am,evOp,↓reduceIte,Nat.reduceEqDiff,Int.reduceEq,Nat.reduceAdd,Nat.reduceLeDiff,reduceCtorEq,e11,w1]<;>rfl),by simp only[held_cons,held_nil,am,evOp,↓reduceIte,Nat.reduceEqDiff,Int.reduceEq,Nat.reduceAdd,Nat.reduceLeDiff,reduceCtorEq,e0,e1,e2]⟩
  have e1':(outs.map fun i=>(i,x,((es[i.toNat]?).getD (0,0)).2)).take (k+1)=(outs.map fun i=>(i,x,((es[i.toNat]?).getD (0,0)).2)).take k++[(((i:Nat):Int),x,es[i].2)]:=by
   rw[List.take_succ_eq_append_getElem (by rw[List.length_map]; exact hk),List.getElem_map,hi,Int.toNat_natCast,List.getElem?_eq_getElem hil,Option.getD_some]
  rw[e1',List.flatMap_append]
  exact i6
 rintro a ts h5 ⟨j1,jx⟩ ⟨e0,e1,e2,e10,e11,-⟩
 simp only at e0 e1 e2 e10
 rw[List.take_of_length_le (by rw[List.length_map]; exact Nat.le_refl _)] at j1
 have n5:=jx.nx
 refine W.seq (W.cut (fun ts h6=>∃ a,IsSl h6 3 h3.next a ((aboveM es x outs).flatMap eT)∧Ext h3.next h3 h6∧Held [(0,.ptr fb 0),(1,.int .i64 x),(2,ov),(10,a)] ts) ?_ ?_)
 ·refine W.seq (W.run (by simp only[am,evOp,simprocAttr,e2,lv]<;>rfl) ?_)
  refine W.cond (t:=decide (outs.length=0)) (by simp only[am,evOp,simprocAttr]; exact congrArg AV.bool (by simp only[decide_eq_decide]; omega)) (fun p=>?_) fun p=>?_
  ·have p:outs=[]:=List.length_eq_zero_iff.1 (of_decide_eq_true p)
   subst p
   obtain⟨s',h6,a6,i6,x6,n6⟩:=j1.push (bytes:=24) [.int .i64 (-1),.int .i64 x,.int .i64 (-1)] n5 (by omega) rfl rfl (by simp only[List.map_nil,List.flatMap_nil,List.length_nil]; unfold tooMany; omega) (by simp only[List.map_nil,List.flatMap_nil,List.length_nil]; unfold tooMany; omega)
   refine W.run (by simp only[am,evOp,simprocAttr,e1,e10,a6]<;>rfl) ?_
   exact⟨s',i6,jx.trans x6,by simp only[held_cons,held_nil,am,evOp,↓reduceIte,Nat.reduceEqDiff,Int.reduceEq,Nat.reduceAdd,Nat.reduceLeDiff,reduceCtorEq,e0,e1,e2]⟩
  ·have p:¬ outs=[]:=fun e=>of_decide_eq_false p (by rw[e]; rfl)
   refine W.skip ⟨a,?_,jx,by simp only[held_cons,held_nil,am,evOp,↓reduceIte,Nat.reduceEqDiff,Int.reduceEq,Nat.reduceAdd,Nat.reduceLeDiff,reduceCtorEq,e0,e1,e2,e10]⟩
   unfold aboveM
   rw[if_neg p]
   exact j1
 clear j1 jx e0 e1 e2 e10 n5
 rintro ts h6 ⟨av,ia,jx,e0,e1,e2,e10,-⟩
 simp only at e0 e1 e2 e10
 have n6:=jx.nx
 have hr6:=hr2.ext jx
 have rr6:rdCells h6 fb 2 1=some [rv]:=rd_at hr6.g rfl
 have lr:=hr6.r.len
 rw[List.length_map] at lr
 refine W.seq (W.run (by simp only[am,evOp,simprocAttr]<;>rfl) ?_)
 refine W.seq (W.seq (W.run (by simp only[am,evOp,simprocAttr]<;>rfl) ?_))
 refine W.whl (α:=Unit) (N:=row.length) (fun k _=>[(0,.ptr fb 0),(1,.int .i64 x),(10,av),(12,.int .i64 (spanF x (row.take k) 0 (-1,0,0)).1),(13,.int .i64 ((spanF x (row.take k) 0 (-1,0,0)).2.1-1)),(14,.int .i64 (k:Nat))]) (fun _ _ h'=>h'=h6) () (by simp only[held_cons,held_nil,am,evOp,↓reduceIte,Nat.reduceEqDiff,Int.reduceEq,Nat.reduceAdd,Nat.reduceLeDiff,reduceCtorEq,e0,e1,e10,Int.natCast_zero,List.take_zero,spanF,Int.reduceSub,Int.zero_sub]) rfl ?_ ?_ ?_
 ·rintro k _ ts h7 hk rfl ⟨e0,e1,e10,e12,e13,e14,-⟩
  simp only at e0 e1 e10 e12 e13 e14
  exact⟨_,(by simp only[am,evOp,↓reduceIte,Nat.reduceEqDiff,Int.reduceEq,Nat.reduceAdd,Nat.reduceLeDiff,reduceCtorEq,e0,e14,rr6,lr,Int.ofNat_lt]<;>rfl),by simp only[am,evOp,↓reduceIte,Nat.reduceEqDiff,Int.reduceEq,Nat.reduceAdd,Nat.reduceLeDiff,reduceCtorEq],by simp only[held_cons,held_nil,am,evOp,↓reduceIte,Nat.reduceEqDiff,Int.reduceEq,Nat.reduceAdd,Nat.reduceLeDiff,reduceCtorEq,e0,e1,e10,e12,e13,e14]⟩
 ·rintro k _ ts h7 hk rfl ⟨e0,e1,e10,e12,e13,e14,-⟩
  simp only at e0 e1 e10 e12 e13 e14
  obtain⟨b1,p1,a1,_,rs,_⟩:=hr6.r.at (map_at (f:=eT) hk)
  have rc:rdCells h7 b1 (p1+2) 1=some [.int .i64 row[k].2.2]:=rs 2 _ rfl
  have w1:=w1_ok (k:=k) (by omega)
  have hst:=span_step (x:=x) hk
  have hsok:=spanM_ok x (row.take k)
  have hs0:spanM x (row.take k)=spanF x (row.take k) 0 (-1,0,0):=rfl
  rw[hs0] at hsok
  generalize spanF x (row.take k) 0 (-1,0,0)=S at *
  refine W.seq (W.run (by simp only[am,evOp,simprocAttr,e0,e1,e14,rr6,a1,rc]<;>rfl) ?_)
  refine W.cond (t:=decide (row[k].2.2=x)) (by simp only[am,evOp,simprocAttr]) (fun p=>?_) fun p=>?_
  ·have p:row[k].2.2=x:=of_decide_eq_true p
   rw[if_pos p] at hst
   rw[hst]
   have hk1:((k+1:Nat):Int)-1=((k:Nat):Int):=by omega
   refine W.seq (W.seq (W.run (by simp only[am,evOp,simprocAttr,e12]<;>rfl) ?_))
   refine W.cond (t:=decide (S.1<0)) (by simp only[am,evOp,simprocAttr]) (fun p2=>?_) fun p2=>?_
   ·have p2:S.1=-1:=by have:=of_decide_eq_true p2; omega
    refine W.run (by simp only[am,evOp,simprocAttr,e14]<;>rfl) ?_
    refine W.run (by simp only[am,evOp,simprocAttr,e14]<;>rfl) ?_
    exact⟨(),rfl,_,(by simp only[am,evOp,↓reduceIte,Nat.reduceEqDiff,Int.reduceEq,Nat.reduceAdd,Nat.reduceLeDiff,reduceCtorEq,e14,w1]<;>rfl),by simp only[held_cons,held_nil,am,evOp,↓reduceIte,Nat.reduceEqDiff,Int.reduceEq,Nat.reduceAdd,Nat.reduceLeDiff,reduceCtorEq,e0,e1,e10,e14,p2,hk1]⟩
   ·have p2:¬ S.1=-1:=by have:=of_decide_eq_false p2; omega
    refine W.skip (W.run (by simp only[am,evOp,simprocAttr,e14]<;>rfl) ?_)
    exact⟨(),rfl,_,(by simp only[am,evOp,↓reduceIte,Nat.reduceEqDiff,Int.reduceEq,Nat.reduceAdd,Nat.reduceLeDiff,reduceCtorEq,e14,w1]<;>rfl),by simp only[held_cons,held_nil,am,evOp,↓reduceIte,Nat.reduceEqDiff,Int.reduceEq,Nat.reduceAdd,Nat.reduceLeDiff,reduceCtorEq,e0,e1,e10,e12,e14,if_neg p2,hk1]⟩
  ·have p:¬ row[k].2.2=x:=of_decide_eq_false p
   rw[if_neg p] at hst
   rw[hst]
   exact W.skip ⟨(),rfl,_,(by simp only[am,evOp,↓reduceIte,Nat.reduceEqDiff,Int.reduceEq,Nat.reduceAdd,Nat.reduceLeDiff,reduceCtorEq,e14,w1]<;>rfl),by simp only[held_cons,held_nil,am,evOp,↓reduceIte,Nat.reduceEqDiff,Int.reduceEq,Nat.reduceAdd,Nat.reduceLeDiff,reduceCtorEq,e0,e1,e10,e12,e13]⟩
 rintro _ ts h7 rfl ⟨e0,e1,e10,e12,e13,e14,-⟩
 simp only at e0 e1 e10 e12 e13
 rw[List.take_length] at e12 e13
 have hs0:spanF x row 0 (-1,0,0)=spanM x row:=rfl
 rw[hs0] at e12 e13
 have sok:=spanM_ok x row
 have rp7:rdCells h7 fb 3 1=some [pv]:=rd_at hr6.g rfl
 have rp8:rdCells (h7.new (.cells [] 1 false)) fb 3 1=some [pv]:=by rw[rdCells_eq ((Ext.new (Nat.le_refl _):Ext h7.next h7 _).gt _ (AH.lt_of_get hr6.g))]; exact rp7
 obtain⟨p1,h8,a8,i8,x8,_⟩:=app_own (bytes:=8) hr6.p (by rw[flatI]; exact ones_I) (by rw[List.length_map]; unfold tooMany; omega) (by rw[List.length_map]; unfold tooMany; omega)
 rw[flatI] at i8
 have n8:=x8.nx
 obtain⟨p2,h9,a9,i9,x9,n9⟩:=i8.push (bytes:=8) [.int .i64 x] n8 (by omega) rfl rfl (by rw[len_cI]; unfold tooMany; omega) (by rw[len_cI]; unfold tooMany; omega)
 have X9:=x8.trans x9
 have hr9:=hr6.ext X9
 have u:=Upd.put (o:=.cells [.int .i64 (n:Nat),ev,rv,p2] 4 false) hr9.g
 have w9:wrCells h9 fb 3 [p2]=some (h9.put fb (.cells [.int .i64 (n:Nat),ev,rv,p2] 4 false)):=by rw[wrCells_of hr9.g]; rfl
 obtain⟨pc,po⟩:=i9.cells
 refine W.seq (W.run (by simp only[am,evOp,simprocAttr,e0,e1,rp8,a8,a9,w9,pc,po]<;>rfl) ?_)
 have hnx:(h9.put fb (.cells [.int .i64 (n:Nat),ev,rv,p2] 4 false)).next=h9.next:=rfl
 generalize h9.put fb (.cells [.int .i64 (n:Nat),ev,rv,p2] 4 false)=hA at *
 have rowA:SlT hA rv row:=hr9.r.cong fun b o m c hb=>u.ne (hr9.or b o m c hb)
 have evA:SlE hA ev es:=hr9.e.cong fun b o m c hb=>u.ne (hr9.oe b o m c hb)
 have pI:IsSl hA 1 h7.next p2 ((pl++[x]).flatMap eI):=by
  rw[List.flatMap_append]
  exact i9.cong fun b m hb hlo=>u.ne (by omega)
 have iaA:IsSl hA 3 h3.next av ((aboveM es x outs).flatMap eT):=by
  have s:=ia.ext X9 (Nat.le_refl _)
  exact s.cong fun b m hb hlo=>u.ne (by omega)
 have KA:Kp (·=fb) h hA:=(X2.kp (S:=(·=fb)) (Nat.le_refl _)).trans ((jx.kp (Nat.le_refl _)).trans ((X9.kp (Nat.le_refl _)).trans (u.kp (S:=(·=fb)) rfl) (fun _ _ e=>e)) (fun _ _ e=>e)) (fun _ _ e=>e)
 have nA:=KA.nx
 have hal:(aboveM es x outs).length≤outs.length+1:=by
  unfold aboveM
  split
  ·simp
  ·simp
 have hla:((aboveM es x outs).flatMap eT).length / 3=(aboveM es x outs).length:=by
  rw[flat_len (f:=eT) (e:=3) (fun _=>rfl),Nat.mul_div_cancel _ (by omega)]
 have rA:rdCells hA fb 2 1=some [rv]:=rd_at u.get rfl
 have Xm:Ext h3.next h3 h9:=jx.trans (X9.mono n6)
 refine W.seq (W.seq (W.run (by simp only[am,evOp,simprocAttr,e12]<;>rfl) ?_))
 refine W.cond (t:=decide ((spanM x row).1<0)) (by simp only[am,evOp,simprocAttr]) (fun p=>?_) fun p=>?_
 ·have p:(spanM x row).1<0:=of_decide_eq_true p
  obtain⟨r',hB,aB,iB,xB,nB,kB,tB⟩:=appS_ok iaA (bytes:=24) (by omega) (by omega) rowA (by rw[flatT]; exact ones_T) (by rw[hla,List.length_map]; unfold tooMany; omega) (by rw[hla,List.length_map]; unfold tooMany; omega)
  rw[flatT,← List.flatMap_append] at iB
  have gB:hB.get fb=some (.cells [.int .i64 (n:Nat),ev,rv,p2] 4 false):=by rw[xB.gt _ (by omega)]; exact u.get
  have wB:wrCells hB fb 2 [r']=some (hB.put fb (.cells [.int .i64 (n:Nat),ev,r',p2] 4 false)):=by rw[wrCells_of gB]; rfl
  have uB:=Upd.put (o:=.cells [.int .i64 (n:Nat),ev,r',p2] 4 false) gB
  obtain⟨rc,ro⟩:=iB.cells
  refine W.seq (W.run (by simp only[am,evOp,simprocAttr,e0,e10,rA,aB,wB,rc,ro]<;>rfl) ?_)
  refine W.seq (W.run (by simp only[am,evOp,simprocAttr]<;>rfl) ?_)
  have hnB:(hB.put fb (.cells [.int .i64 (n:Nat),ev,r',p2] 4 false)).next=hB.next:=rfl
  generalize hB.put fb (.cells [.int .i64 (n:Nat),ev,r',p2] 4 false)=hC at *
  refine W.ret ⟨.tup [.nils,.int .i64 0],(by simp only[rs,rf31,am,evOp,simprocAttr]<;>rfl),?_⟩
  rw[if_pos q]
  have hnone:∀ i∈row,i.2.2≠x:=by
   rcases cut_ex x row with hh|⟨A,X,C,c⟩
   ·exact hh
   ·rw[c.span] at p
    simp only at p
    omega
  refine⟨.nils,r',p2,rfl,.inl ⟨by rw[gone_none hnone]; rfl,.inl rfl⟩,fun b o m c e=>(by cases e),⟨uB.get,?_,?_,?_,hr.oe,fun b o m c hb=>?_,fun b o m c hb=>?_,hr.hm⟩,fun b o m c hb=>?_,fun b o m c hb=>?_,(⟨by omega,fun c hc hn=>by rw[xB.gt c (by omega)]; exact KA.gt c hc hn,fun c hc=>by rw[xB.ty c (by omega)]; exact KA.ty c hc⟩:Kp (·=fb) h hB).trans (uB.kp (S:=(·=fb)) rfl) fun _ _ e=>e⟩
  ·refine evA.cong fun b o m c hb=>?_
   have hbl:b<h3.next:=by have:=hr2.e.lt hb; omega
   rw[uB.ne (hr.oe b o m c hb),xB.gt _ hbl]
  ·rw[next_none hnone]
   exact (IsSl.sl (by omega) (fun _=>rfl) iB:SlT hB r' _).cong fun b o m c hb=>by
    refine uB.ne ?_
    rcases iB with ⟨rfl,_⟩|⟨b',m',hb',rfl,_,_⟩
    ·cases hb
    ·cases hb; omega
  ·refine (IsSl.sl (by omega) (fun _=>rfl) pI:SlI hA p2 _).cong fun b o m c hb=>?_
   have hpb:h7.next≤b∧b<hA.next:=by
    refine⟨?_,pI.lt hb⟩
    rcases pI with ⟨rfl,_⟩|⟨b',m',hb',rfl,_,_⟩
    ·cases hb
    ·cases hb; exact hb'
   rw[uB.ne (by omega)]
   refine kB b (by omega) fun b' m' hb' e=>?_
   have:=ia.lt hb'
   omega
  ·rcases iB with ⟨rfl,_⟩|⟨b',m',hb',rfl,_,_⟩
   ·cases hb
   ·cases hb; omega
  ·rcases pI with ⟨rfl,_⟩|⟨b',m',hb',rfl,_,_⟩
   ·cases hb
   ·cases hb; omega
  ·rcases iB with ⟨rfl,_⟩|⟨b',m',hb',rfl,_,_⟩
   ·cases hb
   ·cases hb; omega
  ·rcases pI with ⟨rfl,_⟩|⟨b',m',hb',rfl,_,_⟩
   ·cases hb
   ·cases hb; omega
 have p:¬ (spanM x row).1<0:=of_decide_eq_false p
 refine W.skip ?_
 obtain⟨lo,hlo⟩:∃ lo:Nat,(spanM x row).1=lo:=⟨(spanM x row).1.toNat,by omega⟩
 obtain⟨hi,hhi⟩:∃ hi:Nat,(spanM x row).2.1=hi:=⟨(spanM x row).2.1.toNat,by omega⟩
 rw[hlo] at e12
 rw[hhi] at e13
 have wl:IntKind.i64.wrap (((hi:Nat):Int)-1+1)=((hi:Nat):Int):=by rw[wr64 (by omega) (by omega)]; omega
 have hlm:loM x row=lo:=by unfold loM; omega
 have hgone:goneM x row=(row.drop lo).take (hi-lo):=by unfold goneM; rw[hlm,hhi]; rfl
 have hnext:nextM es x outs row=row.take lo++aboveM es x outs++row.drop hi:=by unfold nextM; rw[hlm,hhi]; rfl
 have x10:Ext hA.next hA (hA.new (.cells [] 3 false)):=Ext.new (Nat.le_refl _)
 obtain⟨v1,s1,t1,_⟩:=(rowA.ext x10 (Nat.le_refl _)).part (lo:=lo) (hi:=hi) (by omega) (by rw[List.length_map]; omega)
 obtain⟨v1',s1',t1',_⟩:=rowA.part (lo:=lo) (hi:=hi) (by omega) (by rw[List.length_map]; omega)
 have hvv:v1=v1':=by
  have e1:slV (hA.new (.cells [] 3 false)) 3 rv (some (.int .i64 (lo:Nat))) (some (.int .i64 (hi:Nat))) none=slV hA 3 rv (some (.int .i64 (lo:Nat))) (some (.int .i64 (hi:Nat))) none:=by
   rcases rowA with ⟨_,rfl|rfl⟩|⟨b,o,c,cs,ro,rfl,hg,_⟩
   ·rfl
   ·rfl
   ·simp only[slV,x10.gt _ (AH.lt_of_get hg)]
  rw[e1,s1'] at s1
  exact (Option.some.inj s1).symm
 subst hvv
 rw[← List.map_drop,← List.map_take] at t1'
 obtain⟨gv,hB,aB,iB,xB,_⟩:=app_own (bytes:=24) t1' (by rw[flatT]; exact ones_T) (by rw[List.length_map,List.length_take,List.length_drop]; unfold tooMany; omega) (by rw[List.length_map,List.length_take,List.length_drop]; unfold tooMany; omega)
 rw[flatT,← hgone] at iB
 have rA':rdCells (hA.new (.cells [] 3 false)) fb 2 1=some [rv]:=by rw[rdCells_eq (x10.gt _ (by omega))]; exact rA
 refine W.seq (W.run (by simp only[am,evOp,simprocAttr,e0,e12,e13,rA',wl,slLA_eq,Option.map_none,s1,aB]<;>rfl) ?_)
 have nB:=xB.nx
 have rowB:=rowA.ext xB (Nat.le_refl _)
 have x11:Ext hB.next hB (hB.new (.cells [] 3 false)):=Ext.new (Nat.le_refl _)
 obtain⟨v2,s2',t2,_⟩:=rowB.upto (hi:=lo) (by rw[List.length_map]; omega)
 have s2'':slV (hB.new (.cells [] 3 false)) 3 rv none (some (.int .i64 (lo:Nat))) none=some v2:=by
  rw[← s2']
  rcases rowB with ⟨_,rfl|rfl⟩|⟨b,o,c,cs,ro,rfl,hg,_⟩
  ·rfl
  ·rfl
  ·simp only[slV,x11.gt _ (AH.lt_of_get hg)]
 rw[← List.map_take] at t2
 obtain⟨nv,hC,aC,iC,xC,_⟩:=app_own (bytes:=24) t2 (by rw[flatT]; exact ones_T) (by rw[List.length_map,List.length_take]; unfold tooMany; omega) (by rw[List.length_map,List.length_take]; unfold tooMany; omega)
 rw[flatT] at iC
 have rB':rdCells (hB.new (.cells [] 3 false)) fb 2 1=some [rv]:=by rw[rdCells_eq (x11.gt _ (by omega)),rdCells_eq (xB.gt _ (by omega))]; exact rA
 refine W.seq (W.run (by simp only[am,evOp,simprocAttr,e0,e12,rB',slLA_eq,Option.map_none,s2'',aC]<;>rfl) ?_)
 have nC:=xC.nx
 have XC:=xB.trans (xC.mono nB)
 have rowC:=rowB.ext xC (Nat.le_refl _)
 have iaC:=iaA.ext XC (Nat.le_refl _)
 have saC:SlT hC av (aboveM es x outs):=IsSl.sl (by omega) (fun _=>rfl) iaC
 have hln:((row.take lo).flatMap eT).length / 3=lo:=by
  rw[flat_len (f:=eT) (e:=3) (fun _=>rfl),Nat.mul_div_cancel _ (by omega),List.length_take,Nat.min_eq_left (by omega)]
 obtain⟨nv2,hD,aD,iD,xD,nD,kD,tD⟩:=appS_ok iC (bytes:=24) nC (by omega) saC (by rw[flatT]; exact ones_T) (by rw[hln,List.length_map]; unfold tooMany; omega) (by rw[hln,List.length_map]; unfold tooMany; omega)
 rw[flatT,← List.flatMap_append] at iD
 have rC:rdCells hC fb 2 1=some [rv]:=by rw[rdCells_eq (XC.gt _ (by omega))]; exact rA
 have rD:rdCells hD fb 2 1=some [rv]:=by rw[rdCells_eq (xD.gt _ (by omega))]; exact rC
 obtain⟨v3,s3,t3,_⟩:=rowC.from (lo:=hi) (by rw[List.length_map]; omega)
 have hrl:∀ b o m c,rv=.sl b o m c→b<hB.next:=fun b o m c hb=>by have:=rowA.lt hb; omega
 have s3':slV hD 3 rv (some (.int .i64 (hi:Nat))) none none=some v3:=by
  rw[← s3]
  rcases rowC with ⟨_,rfl|rfl⟩|⟨b,o,c,cs,ro,rfl,hg,_⟩
  ·rfl
  ·rfl
  ·simp only[slV,xD.gt _ (hrl _ _ _ _ rfl)]
 have rowD:SlT hD rv row:=rowC.cong fun b o m c hb=>xD.gt b (hrl b o m c hb)
 obtain⟨v3',s3'',t3',_⟩:=rowD.from (lo:=hi) (by rw[List.length_map]; omega)
 rw[s3'] at s3''
 cases s3''
 have same3:=sl_same t3'
 have samer:=sl_same rowD
 rw[← List.map_drop] at t3'
 have hl4:((row.take lo++aboveM es x outs).flatMap eT).length / 3=lo+(aboveM es x outs).length:=by
  rw[flat_len (f:=eT) (e:=3) (fun _=>rfl),Nat.mul_div_cancel _ (by omega),List.length_append,List.length_take,Nat.min_eq_left (by omega)]
 obtain⟨rv',hE,aE,iE,xE,nE,kE,tE⟩:=appS_ok iD (bytes:=24) (by omega) (by omega) t3' (by rw[flatT]; exact ones_T) (by rw[hl4,List.length_map,List.length_drop]; unfold tooMany; omega) (by rw[hl4,List.length_map,List.length_drop]; unfold tooMany; omega)
 rw[flatT,← List.flatMap_append,← hnext] at iE
 have xCE:Ext hB.next hC hE:=xD.trans xE
 have gE:hE.get fb=some (.cells [.int .i64 (n:Nat),ev,rv,p2] 4 false):=by rw[xCE.gt _ (by omega),XC.gt _ (by omega)]; exact u.get
 have wE:wrCells hE fb 2 [rv']=some (hE.put fb (.cells [.int .i64 (n:Nat),ev,rv',p2] 4 false)):=by rw[wrCells_of gE]; rfl
 have uE:=Upd.put (o:=.cells [.int .i64 (n:Nat),ev,rv',p2] 4 false) gE
 obtain⟨rc,ro⟩:=iE.cells
 refine W.seq (W.run (by simp only[am,evOp,simprocAttr,e0,e10,e13,rC,rD,wl,slLA_eq,Option.map_none,s3,s3',same3,samer,aD,aE,wE,rc,ro]<;>rfl) ?_)
 refine W.seq (W.run (by simp only[am,evOp,simprocAttr]<;>rfl) ?_)
 have hnE:(hE.put fb (.cells [.int .i64 (n:Nat),ev,rv',p2] 4 false)).next=hE.next:=rfl
 generalize hE.put fb (.cells [.int .i64 (n:Nat),ev,rv',p2] 4 false)=hF at *
 have low:∀ c,c<hB.next→c≠fb→hF.get c=hB.get c:=fun c hc hn=>by rw[uE.ne hn,xCE.gt _ hc,xC.gt _ hc]
 refine W.ret ⟨.tup [gv,.int .i64 0],(by simp only[rs,rf31,am,evOp,simprocAttr]<;>rfl),?_⟩
 rw[if_pos q]
 refine⟨gv,rv',p2,rfl,?_,fun b o m c hb=>?_,⟨uE.get,?_,?_,?_,hr.oe,fun b o m c hb=>?_,fun b o m c hb=>?_,hr.hm⟩,fun b o m c hb=>?_,fun b o m c hb=>?_,?_⟩
 ·refine (IsSl.sl (by omega) (fun _=>rfl) iB:SlT hB gv _).cong fun b o m c hb=>low b (iB.lt hb) ?_
  rcases iB with ⟨rfl,_⟩|⟨b',m',hb',rfl,_,_⟩
  ·cases hb
  ·cases hb; omega
 ·rcases iB with ⟨rfl,_⟩|⟨b',m',hb',rfl,_,_⟩
  ·cases hb
  ·cases hb; omega
 ·exact evA.cong fun b o m c hb=>by rw[low b (by have:=evA.lt hb; omega) (hr.oe b o m c hb),xB.gt _ (evA.lt hb)]
 ·refine (IsSl.sl (by omega) (fun _=>rfl) iE:SlT hE rv' _).cong fun b o m c hb=>uE.ne ?_
  rcases iE with ⟨rfl,_⟩|⟨b',m',hb',rfl,_,_⟩
  ·cases hb
  ·cases hb; omega
 ·refine (IsSl.sl (by omega) (fun _=>rfl) pI:SlI hA p2 _).cong fun b o m c hb=>?_
  have hpb:=pI.lt hb
  rw[low b (by omega) ?_,xB.gt _ hpb]
  rcases pI with ⟨rfl,_⟩|⟨b',m',hb',rfl,_,_⟩
  ·cases hb
  ·cases hb; omega
 ·rcases iE with ⟨rfl,_⟩|⟨b',m',hb',rfl,_,_⟩
  ·cases hb
  ·cases hb; omega
 ·rcases pI with ⟨rfl,_⟩|⟨b',m',hb',rfl,_,_⟩
  ·cases hb
  ·cases hb; omega
 ·rcases iE with ⟨rfl,_⟩|⟨b',m',hb',rfl,_,_⟩
  ·cases hb
  ·cases hb; omega
 ·rcases pI with ⟨rfl,_⟩|⟨b',m',hb',rfl,_,_⟩
  ·cases hb
  ·cases hb; omega
 ·refine⟨by have:=xCE.nx; omega,fun c hc hn=>?_,fun c hc=>?_⟩
  ·rw[low c (by omega) hn,xB.gt _ (by omega)]
   exact KA.gt c hc hn
  ·rw[uE.ty,xCE.ty _ (by omega),XC.ty _ (by omega)]
   exact KA.ty c hc
end Go.Proofs.YtihedjolidbfiaaGreatDoor
namespace Go.Proofs.YtihedjolidbfiaaGreatDoor
open Go.Am
def DoneM (outs:List (List Int)) (x k:Nat) (i:Int):Prop:=(∃ y,y<x∧i∈outs.getD y [])∨i∈(outs.getD x []).take k
structure CntI (es:List (Int×Int)) (outs:List (List Int)) (x k:Nat) (cs:List Int):Prop where
 len:cs.length=es.length
 one:∀ i:Nat,i<es.length→DoneM outs x k ((i:Nat):Int)→cs.getD i 0=1
 zero:∀ i:Nat,i<es.length→¬ DoneM outs x k ((i:Nat):Int)→cs.getD i 0=0
 old:∀ y,y<x→(outs.getD y []).Nodup∧∀ i∈outs.getD y [],i∈outsM es ((y:Nat):Int)
 now:((outs.getD x []).take k).Nodup∧∀ i∈(outs.getD x []).take k,i∈outsM es ((x:Nat):Int)
theorem CntI.start {es:List (Int×Int)}{outs:List (List Int)}:CntI es outs 0 0 (List.replicate es.length 0) where
 len:=by simp
 one:=fun i hi hd=>by
  rcases hd with ⟨y,hy,_⟩|hd
  ·omega
  ·simp at hd
 zero:=fun i hi _=>by rw[List.getD_eq_getElem?_getD,List.getElem?_replicate,if_pos hi]; rfl
 old:=fun y hy=>by omega
 now:=by simp
theorem CntI.row {es:List (Int×Int)}{outs:List (List Int)}{x:Nat}{cs:List Int} (c:CntI es outs x (outs.getD x []).length cs):CntI es outs (x+1) 0 cs:=by
 have hd:∀ i,DoneM outs (x+1) 0 i↔DoneM outs x (outs.getD x []).length i:=fun i=>by
  unfold DoneM
  rw[List.take_length]
  constructor
  ·rintro (⟨y,hy,hi⟩|hi)
   ·by_cases e:y=x
    ·subst e; exact .inr hi
    ·exact .inl ⟨y,by omega,hi⟩
   ·simp at hi
  ·rintro (⟨y,hy,hi⟩|hi)
   ·exact .inl ⟨y,by omega,hi⟩
   ·exact .inl ⟨x,by omega,hi⟩
 refine⟨c.len,fun i hi h=>c.one i hi ((hd _).1 h),fun i hi h=>c.zero i hi fun h'=>h ((hd _).2 h'),fun y hy=>?_,by simp⟩
 by_cases e:y=x
 ·subst e
  have:=c.now
  rwa [List.take_length] at this
 ·exact c.old y (by omega)
theorem tail_uniq {es:List (Int×Int)}{i y z:Int} (h1:i∈outsM es y) (h2:i∈outsM es z):y=z:=by
 obtain⟨k,rfl,t,ht⟩:=mem_outs.1 h1
 obtain⟨k',hk,t',ht'⟩:=mem_outs.1 h2
 have:k'=k:=by omega
 subst this
 rw[ht] at ht'
 simp only[Option.some.injEq,Prod.mk.injEq] at ht'
 exact ht'.1
theorem CntI.step {es:List (Int×Int)}{outs:List (List Int)}{x k v:Nat}{cs:List Int} (c:CntI es outs x k cs) (hk:k<(outs.getD x []).length) (hv:(outs.getD x [])[k]=((v:Nat):Int)) (hvl:v<es.length) (ht:es[v].1=((x:Nat):Int)) (h0:cs.getD v 0=0):CntI es outs x (k+1) (cs.set v 1):=by
 have hm:((v:Nat):Int)∈outsM es ((x:Nat):Int):=mem_outs.2 ⟨v,rfl,es[v].2,by rw[List.getElem?_eq_getElem hvl,← ht]⟩
 have htk:(outs.getD x []).take (k+1)=(outs.getD x []).take k++[((v:Nat):Int)]:=by rw[List.take_succ_eq_append_getElem hk,hv]
 have hnew:¬ DoneM outs x k ((v:Nat):Int):=fun hd=>by have:=c.one v hvl hd; omega
 have hd:∀ i,DoneM outs x (k+1) i↔DoneM outs x k i∨i=((v:Nat):Int):=fun i=>by
  unfold DoneM
  rw[htk,List.mem_append]
  simp only[List.mem_cons,List.not_mem_nil,or_false,or_assoc]
 have hset:∀ i:Nat,(cs.set v 1).getD i 0=if v=i then 1 else cs.getD i 0:=fun i=>getD_set (by rw[c.len]; exact hvl)
 refine⟨by rw[List.length_set,c.len],fun i hi h=>?_,fun i hi h=>?_,c.old,?_⟩
 ·rw[hset]
  split
  ·rfl
  ·rename_i hne
   rcases (hd _).1 h with h|h
   ·exact c.one i hi h
   ·omega
 ·rw[hset,if_neg (fun e=>h ((hd _).2 (.inr (by omega))))]
  exact c.zero i hi fun h'=>h ((hd _).2 (.inl h'))
 ·rw[htk]
  refine⟨?_,fun i hi=>?_⟩
  ·rw[List.nodup_append]
   refine⟨c.now.1,by simp,fun a ha b hb e=>?_⟩
   simp only[List.mem_cons,List.not_mem_nil,or_false] at hb
   subst hb
   exact hnew (.inr (e▸ha))
  ·rcases List.mem_append.1 hi with hi|hi
   ·exact c.now.2 i hi
   ·simp only[List.mem_cons,List.not_mem_nil,or_false] at hi
    subst hi
    exact hm
theorem CntI.done {n:Nat}{es:List (Int×Int)}{outs:List (List Int)}{cs:List Int} (c:CntI es outs n 0 cs) (hall:∀ i:Nat,i<es.length→cs.getD i 0≠0):∀ x:Nat,x<n→OutsOk es x (outs.getD x []):=by
 intro x hx
 obtain⟨nd,sub⟩:=c.old x hx
 have sup:∀ i∈outsM es ((x:Nat):Int),i∈outs.getD x []:=fun i hi=>by
  obtain⟨k,rfl,t,ht⟩:=mem_outs.1 hi
  have hk:=(List.getElem?_eq_some_iff.1 ht).1
  by_cases hd:DoneM outs n 0 ((k:Nat):Int)
  ·rcases hd with ⟨y,hy,hm⟩|hd
   ·have:=tail_uniq hi ((c.old y hy).2 _ hm)
    have:x=y:=by omega
    subst this
    exact hm
   ·simp at hd
  ·exact absurd (c.zero k hk hd) (hall k hk)
 refine perm_of_subset nd sub ?_
 have h1:=nd_len nd sub
 have h2:=nd_len (endsAt_nodup (fun e=>decide (e.1=((x:Nat):Int))) es 0) sup
 exact Nat.le_antisymm h2 h1
theorem PlanP.tail {n:Nat}{es:List (Int×Int)}{order:List Int}{outs:List (List Int)} (hP:PlanP n es order outs) (he:es.all (okE n)=true) {i:Nat} (hi:i<es.length):∃ y:Nat,y<n∧((i:Nat):Int)∈outs.getD y []:=by
 obtain⟨a,b,hab,ha,_⟩:=okE_nat (List.all_eq_true.1 he _ (List.getElem_mem hi))
 exact⟨a,ha,(hP.2.2 a ha).mem.2 (mem_outs.2 ⟨i,rfl,_,by rw[List.getElem?_eq_getElem hi,hab]⟩)⟩
theorem mks_ints {h:AH}{n:Nat} (hn:n≤200):mksA h [.int .i64 0] 1 8 (.int .i64 (n:Nat)) (.int .i64 (n:Nat))=some (.sl h.next 0 n n,h.new (.cells ((List.replicate n (0:Int)).flatMap eI) 1 false)):=by
 rw[mksA_nat (by unfold tooMany; omega) (by unfold tooMany; omega),repl_rep,flat_cI,List.map_replicate]
theorem rof_ok {h:AH}{n:Int}{ev ordv outv:AV}{es:List (Int×Int)}{order:List Int}{outs:List (List Int)} (he:SlE h ev es) (hl0:es.length<2 ^ 30) (hp:SlI h ordv order) (hq:SlL h outv outs) (hl:order.length≤200) (hl2:outs.length≤200) (hl3:∀ l∈outs,l.length≤200) :
 C prg 30 [.agg [.int .i64 n,ev],.agg [ordv,outv]] h fun r h'=>(∃ b,r=.bool b∧(b=true↔GoodP n es∧PlanP n.toNat es order outs))∧Ext h.next h h':=by
 obtain⟨ec,eo⟩:=he.cells
 obtain⟨oc,oo⟩:=hp.cells
 obtain⟨qc,qo⟩:=hq.cells
 have el:=he.len
 rw[List.length_map] at el
 have lq:=hq.len
 refine C.func pf30 ?_
 refine W.seq (W.run (by simp only[am,evOp,simprocAttr,initTm]<;>rfl) ?_)
 have ga:∀ c,((h.new (.cells [.int .i64 n,ev] 2 false)).new (.cells [ordv,outv] 2 false)).get c=if c=h.next+1 then some (.cells [ordv,outv] 2 false) else if c=h.next then some (.cells [.int .i64 n,ev] 2 false) else h.get c:=fun c=>by
  rw[AH.get_new,AH.get_new]
  rfl
 have x0:Ext h.next h ((h.new (.cells [.int .i64 n,ev] 2 false)).new (.cells [ordv,outv] 2 false)):=(Ext.new (Nat.le_refl _)).trans (Ext.new (by simp))
 have n0:((h.new (.cells [.int .i64 n,ev] 2 false)).new (.cells [ordv,outv] 2 false)).next=h.next+2:=rfl
 generalize ((h.new (.cells [.int .i64 n,ev] 2 false)).new (.cells [ordv,outv] 2 false))=h1 at *
 have gG:h1.get h.next=some (.cells [.int .i64 n,ev] 2 false):=by rw[ga,if_neg (by omega),if_pos rfl]
 have gP:h1.get (h.next+1)=some (.cells [ordv,outv] 2 false):=by rw[ga,if_pos rfl]
 have rG:rdCells h1 h.next 0 2=some [.int .i64 n,ev]:=by rw[rdCells_of gG]; rfl
 refine W.seq (W.seq (W.reg (G.gcall 1 (by simp only[am,evOp,simprocAttr,initTm,rG]<;>rfl) rfl (by simp only[am,evOp,simprocAttr,initTm,rG]) (by simp only[am,evOp,simprocAttr,initTm,rG]<;>rfl) (rgood_ok (he.ext x0 (Nat.le_refl _)) hl0) fun r h2 hq'=>?_)))
 obtain⟨⟨bg,rfl,hbg⟩,x2⟩:=hq'
 have X2:=x0.trans (x2.mono x0.nx)
 have n2:=x2.nx
 cases bg with
 | false =>
   refine G.nocall 6 (by simp only[am,evOp,simprocAttr]<;>rfl) rfl (by simp only[am,evOp,simprocAttr]) ?_
   refine G.run (by simp only[am,evOp,simprocAttr]<;>rfl) ?_
   refine W.yes (by simp only[am,evOp,simprocAttr]) (W.seq (W.run (by simp only[am,evOp,simprocAttr]<;>rfl) ?_))
   exact W.ret ⟨.bool false,(by simp only[rs,rf30,am,evOp,simprocAttr]<;>rfl),⟨false,rfl,⟨fun h=>(by cases h),fun hh=>by have:=hbg.2 hh.1; cases this⟩⟩,X2⟩
 | true =>
 have hgood:=hbg.1 rfl
 have hm:=hgood.1
 obtain⟨nn,rfl⟩:∃ nn:Nat,n=nn:=⟨n.toNat,by
  simp only[mayB,Bool.and_eq_true,decide_eq_true_eq] at hm; omega⟩
 obtain⟨m1,m2,m3,m4⟩:=may_of hm
 rw[Int.toNat_natCast]
 have gG2:h2.get h.next=some (.cells [.int .i64 (nn:Nat),ev] 2 false):=by rw[x2.gt _ (by omega)]; exact gG
 have gP2:h2.get (h.next+1)=some (.cells [ordv,outv] 2 false):=by rw[x2.gt _ (by omega)]; exact gP
 have rn:rdCells h2 h.next 0 1=some [.int .i64 (nn:Nat)]:=rd_at gG2 rfl
 have re:rdCells h2 h.next 1 1=some [ev]:=rd_at gG2 rfl
 have ra:rdCells h2 (h.next+1) 0 1=some [ordv]:=rd_at gP2 rfl
 have rb:rdCells h2 (h.next+1) 1 1=some [outv]:=rd_at gP2 rfl
 refine G.gcall 6 (by simp only[am,evOp,simprocAttr,initTm,rn,ra]<;>rfl) rfl (by simp only[am,evOp,simprocAttr,initTm,rn,ra]) (by simp only[am,evOp,simprocAttr,initTm,rn,ra]<;>rfl) (reach_ok (hp.ext X2 (Nat.le_refl _)) (by omega) (by omega:nn<2 ^ 40)) fun r h3 hq'=>?_
 obtain⟨⟨be,rfl,hbe⟩,rfl⟩:=hq'
 cases be with
 | false =>
   refine G.run (by simp only[am,evOp,simprocAttr]<;>rfl) ?_
   refine W.yes (by simp only[am,evOp,simprocAttr]) (W.seq (W.run (by simp only[am,evOp,simprocAttr]<;>rfl) ?_))
   exact W.ret ⟨.bool false,(by simp only[rs,rf30,am,evOp,simprocAttr]<;>rfl),⟨false,rfl,⟨fun h=>(by cases h),fun hh=>by have:=hbe.2 hh.2.1; cases this⟩⟩,X2⟩
 | true =>
 have hperm:=hbe.1 rfl
 refine G.run (by simp only[am,evOp,simprocAttr,initTm,rb,rn,lq]<;>rfl) ?_
 refine W.cond (t:=!decide (outs.length=nn)) (by simp only[am,evOp,simprocAttr]; exact congrArg AV.bool (by congr 1; simp only[decide_eq_decide]; omega)) (fun q=>?_) fun q=>?_
 ·have q:¬ outs.length=nn:=by simpa using q
  refine W.seq (W.run (by simp only[am,evOp,simprocAttr]<;>rfl) ?_)
  exact W.ret ⟨.bool false,(by simp only[rs,rf30,am,evOp,simprocAttr]<;>rfl),⟨false,rfl,⟨fun h=>(by cases h),fun hh=>absurd hh.2.2.1 q⟩⟩,X2⟩
 have q:outs.length=nn:=by simpa using q
 refine W.skip ?_
 refine W.seq (W.run (by simp only[am,evOp,simprocAttr,initTm,re,el,mks_ints (show es.length≤200 by omega)]<;>rfl) ?_)
 have x4:Ext h3.next h3 (h3.new (.cells ((List.replicate es.length (0:Int)).flatMap eI) 1 false)):=Ext.new (Nat.le_refl _)
 have g4:(h3.new (.cells ((List.replicate es.length (0:Int)).flatMap eI) 1 false)).get h3.next=some (.cells ((List.replicate es.length (0:Int)).flatMap eI) 1 false):=by rw[AH.get_new,if_pos rfl]
 have n4:(h3.new (.cells ((List.replicate es.length (0:Int)).flatMap eI) 1 false)).next=h3.next+1:=rfl
 generalize h3.new (.cells ((List.replicate es.length (0:Int)).flatMap eI) 1 false)=h4 at *
 have hq2:=hq.ext X2
 have he2:=he.ext X2 (Nat.le_refl _)
 have keepP:∀ {h':AH},Ext h3.next h3 h'→rdCells h' (h.next+1) 1 1=some [outv]:=fun hx=>by rw[rdCells_eq (hx.gt _ (by omega))]; exact rb
 have keepE:∀ {h':AH},Ext h3.next h3 h'→rdCells h' h.next 1 1=some [ev]:=fun hx=>by rw[rdCells_eq (hx.gt _ (by omega))]; exact re
 refine W.seq (W.seq (W.run (by simp only[am,evOp,simprocAttr,initTm]<;>rfl) ?_))
 refine W.whl (α:=List Int) (N:=outs.length) (fun k _=>[(2,.ptr h.next 0),(3,.ptr (h.next+1) 0),(5,.sl h3.next 0 es.length es.length),(6,.int .i64 (k:Nat))]) (fun k a h'=>CntI es outs k 0 a∧h'.get h3.next=some (.cells (a.flatMap eI) 1 false)∧Ext h3.next h3 h') (List.replicate es.length 0) (by simp only[held_cons,held_nil,am,evOp,↓reduceIte,Nat.reduceEqDiff,Int.reduceEq,Nat.reduceAdd,Nat.reduceLeDiff,reduceCtorEq,initTm,Int.natCast_zero])
  ⟨CntI.start,g4,x4⟩ ?_ ?_ ?_
 ·rintro k a ts h5 hk ⟨j1,j2,jx⟩ ⟨e2,e3,e5,e6,-⟩
  simp only at e2 e3 e5 e6
  exact⟨_,(by simp only[am,evOp,↓reduceIte,Nat.reduceEqDiff,Int.reduceEq,Nat.reduceAdd,Nat.reduceLeDiff,reduceCtorEq,e3,e6,keepP jx,lq,Int.ofNat_lt]<;>rfl),by simp only[am,evOp,↓reduceIte,Nat.reduceEqDiff,Int.reduceEq,Nat.reduceAdd,Nat.reduceLeDiff,reduceCtorEq],by simp only[held_cons,held_nil,am,evOp,↓reduceIte,Nat.reduceEqDiff,Int.reduceEq,Nat.reduceAdd,Nat.reduceLeDiff,reduceCtorEq,e2,e3,e5,e6]⟩
 ·rintro k a ts h5 hk ⟨j1,j2,jx⟩ ⟨e2,e3,e5,e6,-⟩
  simp only at e2 e3 e5 e6
  have w1:=w1_ok (k:=k) (by omega)
  have hgd:outs.getD k []=outs[k]:=getD_at hk
  have hlk:=hl3 _ (List.getElem_mem hk)
  refine W.seq (W.run (by simp only[am,evOp,simprocAttr]<;>rfl) ?_)
  refine W.whl (α:=List Int) (N:=outs[k].length) (fun j _=>[(2,.ptr h.next 0),(3,.ptr (h.next+1) 0),(5,.sl h3.next 0 es.length es.length),(6,.int .i64 (k:Nat)),(7,.int .i64 (j:Nat))]) (fun j a h'=>CntI es outs k j a∧h'.get h3.next=some (.cells (a.flatMap eI) 1 false)∧Ext h3.next h3 h') a (by simp only[held_cons,held_nil,am,evOp,↓reduceIte,Nat.reduceEqDiff,Int.reduceEq,Nat.reduceAdd,Nat.reduceLeDiff,reduceCtorEq,e2,e3,e5,e6,Int.natCast_zero])
   ⟨j1,j2,jx⟩ ?_ ?_ ?_
  ·rintro j a ts h6 hj ⟨i1,i2,ix⟩ ⟨e2,e3,e5,e6,e7,-⟩
   simp only at e2 e3 e5 e6 e7
   obtain⟨b1,p1,w,a1,r1,sw,_⟩:=(hq2.ext ix).at hk
   have lw:=sw.len
   rw[List.length_map] at lw
   exact⟨_,(by simp only[am,evOp,↓reduceIte,Nat.reduceEqDiff,Int.reduceEq,Nat.reduceAdd,Nat.reduceLeDiff,reduceCtorEq,e3,e6,e7,keepP ix,a1,r1,lw,Int.ofNat_lt]<;>rfl),by simp only[am,evOp,↓reduceIte,Nat.reduceEqDiff,Int.reduceEq,Nat.reduceAdd,Nat.reduceLeDiff,reduceCtorEq],by simp only[held_cons,held_nil,am,evOp,↓reduceIte,Nat.reduceEqDiff,Int.reduceEq,Nat.reduceAdd,Nat.reduceLeDiff,reduceCtorEq,e2,e3,e5,e6,e7]⟩
  ·rintro j a ts h6 hj ⟨i1,i2,ix⟩ ⟨e2,e3,e5,e6,e7,-⟩
   simp only at e2 e3 e5 e6 e7
   have X6:Ext h.next h h6:=X2.trans (ix.mono (by omega))
   obtain⟨b1,p1,w,a1,r1,sw,_⟩:=(hq2.ext ix).at hk
   obtain⟨b2,p2,a2,r2,_⟩:=sw.at1 (map_at (f:=eI) hj)
   have w2:=w1_ok (k:=j) (by omega)
   have hmem:outs[k][j]∈outs.getD k []:=by rw[hgd]; exact List.getElem_mem hj
   refine W.seq (W.run (by simp only[am,evOp,simprocAttr,e3,e6,e7,keepP ix,a1,r1,a2,r2]<;>rfl) ?_)
   have bad:(PlanP nn es order outs→False)→C prg 30 [] h6 (fun _ _=>True)∨True:=fun _=>.inr trivial
   by_cases q1:outs[k][j]<0
   ·have c1:decide (outs[k][j]<0)=true:=decide_eq_true q1
    refine W.seq (W.seq (W.run (by simp only[am,evOp,simprocAttr,c1]<;>rfl) ?_))
    refine W.yes (by simp only[am,evOp,simprocAttr]) (W.seq (W.run (by simp only[am,evOp,simprocAttr]<;>rfl) ?_))
    refine W.ret ⟨.bool false,(by simp only[rs,rf30,am,evOp,simprocAttr]<;>rfl),⟨false,rfl,⟨fun h=>(by cases h),fun hh=>?_⟩⟩,X6⟩
    exfalso
    obtain⟨kk,hkk,_⟩:=mem_outs.1 ((hh.2.2.2 k (by omega)).mem.1 hmem)
    omega
   have c1:decide (outs[k][j]<0)=false:=decide_eq_false q1
   obtain⟨v,hv⟩:∃ v:Nat,outs[k][j]=v:=⟨outs[k][j].toNat,by omega⟩
   rw[hv] at c1 hmem ⊢
   by_cases q2:((es.length:Nat):Int)≤((v:Nat):Int)
   ·have c2:decide (((es.length:Nat):Int)≤((v:Nat):Int))=true:=decide_eq_true q2
    refine W.seq (W.seq (W.run (by simp only[am,evOp,simprocAttr,e5,c1,c2]<;>rfl) ?_))
    refine W.yes (by simp only[am,evOp,simprocAttr]) (W.seq (W.run (by simp only[am,evOp,simprocAttr]<;>rfl) ?_))
    refine W.ret ⟨.bool false,(by simp only[rs,rf30,am,evOp,simprocAttr]<;>rfl),⟨false,rfl,⟨fun h=>(by cases h),fun hh=>?_⟩⟩,X6⟩
    exfalso
    obtain⟨kk,hkk,t,ht⟩:=mem_outs.1 ((hh.2.2.2 k (by omega)).mem.1 hmem)
    have:=(List.getElem?_eq_some_iff.1 ht).1
    omega
   have c2:decide (((es.length:Nat):Int)≤((v:Nat):Int))=false:=decide_eq_false q2
   have hvl:v<es.length:=by omega
   obtain⟨b3,p3,a3,_,rr3,_⟩:=(he2.ext ix (Nat.le_refl _)).at (map_at (f:=eE) hvl)
   have r3:rdCells h6 b3 p3 1=some [.int .i64 es[v].1]:=rr3 0 _ rfl
   by_cases q3:es[v].1=((k:Nat):Int)
   case neg =>
    have c3:decide (es[v].1=((k:Nat):Int))=false:=decide_eq_false q3
    refine W.seq (W.seq (W.run (by simp only[am,evOp,simprocAttr,e2,e5,e6,keepE ix,a3,r3,c1,c2,c3]<;>rfl) ?_))
    refine W.yes (by simp only[am,evOp,simprocAttr]) (W.seq (W.run (by simp only[am,evOp,simprocAttr]<;>rfl) ?_))
    refine W.ret ⟨.bool false,(by simp only[rs,rf30,am,evOp,simprocAttr]<;>rfl),⟨false,rfl,⟨fun h=>(by cases h),fun hh=>?_⟩⟩,X6⟩
    exfalso
    obtain⟨kk,hkk,t,ht⟩:=mem_outs.1 ((hh.2.2.2 k (by omega)).mem.1 hmem)
    have:kk=v:=by omega
    subst this
    rw[List.getElem?_eq_getElem hvl] at ht
    simp only[Option.some.injEq] at ht
    exact q3 (by rw[ht])
   have c3:decide (es[v].1=((k:Nat):Int))=true:=decide_eq_true q3
   have iv:idx? ((v:Nat):Int) es.length=some v:=idx_nat hvl
   have r4:rdCells h6 h3.next v 1=some [.int .i64 (a.getD v 0)]:=rd_at i2 (at_cI (by rw[i1.len]; exact hvl))
   by_cases q4:DoneM outs k j ((v:Nat):Int)
   ·have h1:=i1.one v hvl q4
    have c4:decide ((0:Int)<a.getD v 0)=true:=decide_eq_true (by omega)
    refine W.seq (W.seq (W.run (by simp only[am,evOp,simprocAttr,e2,e5,e6,keepE ix,a3,r3,iv,r4,Nat.mul_one,c1,c2,c3,c4]<;>rfl) ?_))
    refine W.yes (by simp only[am,evOp,simprocAttr]) (W.seq (W.run (by simp only[am,evOp,simprocAttr]<;>rfl) ?_))
    refine W.ret ⟨.bool false,(by simp only[rs,rf30,am,evOp,simprocAttr]<;>rfl),⟨false,rfl,⟨fun h=>(by cases h),fun hh=>?_⟩⟩,X6⟩
    exfalso
    have hok:=hh.2.2.2 k (by omega)
    rcases q4 with ⟨y,hy,hm'⟩|hm'
    ·have:=tail_uniq ((i1.old y hy).2 _ hm') (hok.mem.1 hmem)
     omega
    ·have hnd:=hok.nodup
     rw[hgd] at hnd hm'
     rw[← List.take_append_drop j outs[k],List.drop_eq_getElem_cons hj,List.nodup_append] at hnd
     exact hnd.2.2 _ hm' _ (List.mem_cons_self ..) hv.symm
   ·have h1:=i1.zero v hvl q4
    have c4:decide ((0:Int)<a.getD v 0)=false:=decide_eq_false (by omega)
    have w6:wrCells h6 h3.next v [.int .i64 1]=some (h6.put h3.next (.cells ((a.set v 1).flatMap eI) 1 false)):=by rw[wr_at i2 (by rw[len_cI,i1.len]; exact hvl),set_cI]
    have u:=Upd.put (o:=.cells ((a.set v 1).flatMap eI) 1 false) i2
    refine W.seq (W.seq (W.run (by simp only[am,evOp,simprocAttr,e2,e5,e6,keepE ix,a3,r3,iv,r4,Nat.mul_one,c1,c2,c3,c4]<;>rfl) ?_))
    refine W.no (by simp only[am,evOp,simprocAttr]) (W.skip (W.run (by simp only[am,evOp,simprocAttr,e5,iv,Nat.mul_one,w6]<;>rfl) ?_))
    refine⟨a.set v 1,⟨i1.step (by rw[hgd]; exact hj) (by simp only[hgd,hv]) hvl q3 h1,u.get,ix.trans (u.ext (Nat.le_refl _))⟩,_,(by simp only[am,evOp,↓reduceIte,Nat.reduceEqDiff,Int.reduceEq,Nat.reduceAdd,Nat.reduceLeDiff,reduceCtorEq,e7,w2]<;>rfl),by simp only[held_cons,held_nil,am,evOp,↓reduceIte,Nat.reduceEqDiff,Int.reduceEq,Nat.reduceAdd,Nat.reduceLeDiff,reduceCtorEq,e2,e3,e5,e6]⟩
  ·rintro a ts h6 ⟨i1,i2,ix⟩ ⟨e2,e3,e5,e6,e7,-⟩
   simp only at e2 e3 e5 e6
   refine⟨a,⟨CntI.row (by rw[hgd]; exact i1),i2,ix⟩,_,(by simp only[am,evOp,↓reduceIte,Nat.reduceEqDiff,Int.reduceEq,Nat.reduceAdd,Nat.reduceLeDiff,reduceCtorEq,e6,w1]<;>rfl),by simp only[held_cons,held_nil,am,evOp,↓reduceIte,Nat.reduceEqDiff,Int.reduceEq,Nat.reduceAdd,Nat.reduceLeDiff,reduceCtorEq,e2,e3,e5]⟩
 rintro a ts h5 ⟨j1,j2,jx⟩ ⟨e2,e3,e5,e6,-⟩
 simp only at e5
 rw[q] at j1
 have X5:Ext h.next h h5:=X2.trans (jx.mono (by omega))
 refine W.seq (W.seq (W.run (by simp only[am,evOp,simprocAttr]<;>rfl) ?_))
 refine W.whl (α:=Unit) (N:=es.length) (fun k _=>[(5,.sl h3.next 0 es.length es.length),(9,.int .i64 (k:Nat))]) (fun k _ h'=>h'=h5∧∀ i:Nat,i<k→a.getD i 0≠0) () (by simp only[held_cons,held_nil,am,evOp,↓reduceIte,Nat.reduceEqDiff,Int.reduceEq,Nat.reduceAdd,Nat.reduceLeDiff,reduceCtorEq,e5,Int.natCast_zero]) ⟨rfl,fun i hi=>absurd hi (by omega)⟩ ?_ ?_ ?_
 ·rintro k _ ts h6 hk ⟨rfl,i1⟩ ⟨e5,e9,-⟩
  simp only at e5 e9
  exact⟨_,(by simp only[am,evOp,↓reduceIte,Nat.reduceEqDiff,Int.reduceEq,Nat.reduceAdd,Nat.reduceLeDiff,reduceCtorEq,e5,e9,Int.ofNat_lt]<;>rfl),by simp only[am,evOp,↓reduceIte,Nat.reduceEqDiff,Int.reduceEq,Nat.reduceAdd,Nat.reduceLeDiff,reduceCtorEq],by simp only[held_cons,held_nil,am,evOp,↓reduceIte,Nat.reduceEqDiff,Int.reduceEq,Nat.reduceAdd,Nat.reduceLeDiff,reduceCtorEq,e5,e9]⟩
 ·rintro k _ ts h6 hk ⟨rfl,i1⟩ ⟨e5,e9,-⟩
  simp only at e5 e9
  have ik:idx? ((k:Nat):Int) es.length=some k:=idx_nat hk
  have r4:rdCells h6 h3.next k 1=some [.int .i64 (a.getD k 0)]:=rd_at j2 (at_cI (by rw[j1.len]; exact hk))
  have w1:=w1_ok (k:=k) (by omega)
  refine W.seq (W.run (by simp only[am,evOp,simprocAttr,e5,e9,ik,r4,Nat.mul_one]<;>rfl) ?_)
  refine W.cond (t:=decide (a.getD k 0=0)) (by simp only[am,evOp,simprocAttr]) (fun p=>?_) fun p=>?_
  ·have p:a.getD k 0=0:=of_decide_eq_true p
   refine W.seq (W.run (by simp only[am,evOp,simprocAttr]<;>rfl) ?_)
   refine W.ret ⟨.bool false,(by simp only[rs,rf30,am,evOp,simprocAttr]<;>rfl),⟨false,rfl,⟨fun h=>(by cases h),fun hh=>?_⟩⟩,X5⟩
   exfalso
   obtain⟨y,hy,hm'⟩:=hh.2.tail m4 hk
   have:=j1.one k hk (.inl ⟨y,hy,hm'⟩)
   omega
  ·have p:¬ a.getD k 0=0:=of_decide_eq_false p
   refine W.skip ⟨(),⟨rfl,fun i hi=>?_⟩,_,(by simp only[am,evOp,↓reduceIte,Nat.reduceEqDiff,Int.reduceEq,Nat.reduceAdd,Nat.reduceLeDiff,reduceCtorEq,e9,w1]<;>rfl),by simp only[held_cons,held_nil,am,evOp,↓reduceIte,Nat.reduceEqDiff,Int.reduceEq,Nat.reduceAdd,Nat.reduceLeDiff,reduceCtorEq,e5]⟩
   by_cases e:i=k
   ·subst e; exact p
   ·exact i1 i (by omega)
 ·rintro _ ts h6 ⟨rfl,i1⟩ ⟨e5,e9,-⟩
  refine W.seq (W.run (by simp only[am,evOp,simprocAttr]<;>rfl) ?_)
  exact W.ret ⟨.bool true,(by simp only[rs,rf30,am,evOp,simprocAttr]<;>rfl),⟨true,rfl,⟨fun _=>⟨hgood,hperm,q,j1.done i1⟩,fun _=>rfl⟩⟩,X5⟩
end Go.Proofs.YtihedjolidbfiaaGreatDoor
namespace Go.Proofs.YtihedjolidbfiaaGreatDoor
open Go.Am
theorem one_src {n:Nat}{es:List (Int×Int)} (hl:(srcM n es).length≤1):∀ a b:Nat,a<n→b<n→(insM es a).length=0→(insM es b).length=0→a=b:=by
 intro a b ha hb h1 h2
 refine Decidable.byContradiction fun hne=>?_
 have mem:∀ c:Nat,c<n→(insM es c).length=0→((c:Nat):Int)∈srcM n es:=fun c hc h=>by
  unfold srcM
  exact List.mem_map.2 ⟨c,List.mem_filter.2 ⟨List.mem_range.2 hc,by simpa using h⟩,rfl⟩
 have:=nd_len (l:=[((a:Nat):Int),((b:Nat):Int)]) (m:=srcM n es) (by simp; omega) (fun x hx=>by
  simp only[List.mem_cons,List.not_mem_nil,or_false] at hx
  rcases hx with rfl|rfl
  ·exact mem a ha h1
  ·exact mem b hb h2)
 simp only[List.length_cons,List.length_nil] at this
 omega
theorem rrun_ok {h:AH}{n:Int}{ev ordv outv:AV}{es:List (Int×Int)}{order:List Int}{outs:List (List Int)} (he:SlE h ev es) (hl0:es.length<2 ^ 30) (hp:SlI h ordv order) (hq:SlL h outv outs) (hl:order.length≤200) (hl2:outs.length≤200) (hl3:∀ l∈outs,l.length≤200) :
 C prg 10 [.agg [.int .i64 n,ev],.agg [ordv,outv]] h fun r h'=>Ext h.next h h' ∧
   ((¬ (GoodP n es∧PlanP n.toNat es order outs)∧r=.tup ([.nils,.nils]++tlR 1 0))∨((GoodP n es∧PlanP n.toNat es order outs)∧RunR h' r n.toNat es order outs tlR)):=by
 obtain⟨ec,eo⟩:=he.cells
 obtain⟨oc,oo⟩:=hp.cells
 obtain⟨qc,qo⟩:=hq.cells
 have lp:=hp.len
 rw[List.length_map] at lp
 refine C.func pf10 ?_
 refine W.seq (W.run (by simp only[am,evOp,simprocAttr,initTm]<;>rfl) ?_)
 have ga:∀ c,((h.new (.cells [.int .i64 n,ev] 2 false)).new (.cells [ordv,outv] 2 false)).get c=if c=h.next+1 then some (.cells [ordv,outv] 2 false) else if c=h.next then some (.cells [.int .i64 n,ev] 2 false) else h.get c:=fun c=>by
  rw[AH.get_new,AH.get_new]
  rfl
 have x0:Ext h.next h ((h.new (.cells [.int .i64 n,ev] 2 false)).new (.cells [ordv,outv] 2 false)):=(Ext.new (Nat.le_refl _)).trans (Ext.new (by simp))
 have n0:((h.new (.cells [.int .i64 n,ev] 2 false)).new (.cells [ordv,outv] 2 false)).next=h.next+2:=rfl
 generalize ((h.new (.cells [.int .i64 n,ev] 2 false)).new (.cells [ordv,outv] 2 false))=h1 at *
 have gG:h1.get h.next=some (.cells [.int .i64 n,ev] 2 false):=by rw[ga,if_neg (by omega),if_pos rfl]
 have gP:h1.get (h.next+1)=some (.cells [ordv,outv] 2 false):=by rw[ga,if_pos rfl]
 have rG:rdCells h1 h.next 0 2=some [.int .i64 n,ev]:=by rw[rdCells_of gG]; rfl
 have rP:rdCells h1 (h.next+1) 0 2=some [ordv,outv]:=by rw[rdCells_of gP]; rfl
 refine W.seq (W.seq (W.reg (G.gcall 2 (by simp only[am,evOp,simprocAttr,initTm,rG,rP]<;>rfl) rfl (by simp only[am,evOp,simprocAttr,initTm,rG,rP]) (by simp only[am,evOp,simprocAttr,initTm,rG,rP]<;>rfl) (rof_ok (he.ext x0 (Nat.le_refl _)) hl0 (hp.ext x0 (Nat.le_refl _)) (hq.ext x0) hl hl2 hl3) fun r h2 hq'=>?_)))
 obtain⟨⟨bb,rfl,hbb⟩,x2⟩:=hq'
 have X2:=x0.trans (x2.mono x0.nx)
 have n2:=x2.nx
 refine G.run (by simp only[am,evOp,simprocAttr]<;>rfl) ?_
 cases bb with
 | false =>
   refine W.yes (by simp only[am,evOp,simprocAttr]) (W.seq (W.run (by simp only[am,evOp,simprocAttr]<;>rfl) ?_))
   exact W.ret ⟨.tup [.nils,.nils,.int .i64 1,.int .i64 0],(by simp only[rs,rf10,am,evOp,simprocAttr]<;>rfl),X2,.inl ⟨fun hh=>(by have:=hbb.2 hh; cases this),rfl⟩⟩
 | true =>
 obtain⟨hgood,hP⟩:=hbb.1 rfl
 have hm:=hgood.1
 obtain⟨nn,rfl⟩:∃ nn:Nat,n=nn:=⟨n.toNat,by
  simp only[mayB,Bool.and_eq_true,decide_eq_true_eq] at hm; omega⟩
 obtain⟨m1,m2,m3,m4⟩:=may_of hm
 have hone:=one_src hgood.2.2.2.2
 rw[Int.toNat_natCast] at hP hone ⊢
 refine W.no (by simp only[am,evOp,simprocAttr]) (W.skip ?_)
 have gG2:h2.get h.next=some (.cells [.int .i64 (nn:Nat),ev] 2 false):=by rw[x2.gt _ (by omega)]; exact gG
 have gP2:h2.get (h.next+1)=some (.cells [ordv,outv] 2 false):=by rw[x2.gt _ (by omega)]; exact gP
 have rG2:rdCells h2 h.next 0 2=some [.int .i64 (nn:Nat),ev]:=by rw[rdCells_of gG2]; rfl
 refine W.seq (W.run (by simp only[am,evOp,simprocAttr,initTm,rG2]<;>rfl) ?_)
 have x3:Ext h2.next h2 (h2.new (.cells [.int .i64 (nn:Nat),ev,.nils,.nils] 4 false)):=Ext.new (Nat.le_refl _)
 have g3:(h2.new (.cells [.int .i64 (nn:Nat),ev,.nils,.nils] 4 false)).get h2.next=some (.cells [.int .i64 (nn:Nat),ev,.nils,.nils] 4 false):=by rw[AH.get_new,if_pos rfl]
 have n3:(h2.new (.cells [.int .i64 (nn:Nat),ev,.nils,.nils] 4 false)).next=h2.next+1:=rfl
 generalize h2.new (.cells [.int .i64 (nn:Nat),ev,.nils,.nils] 4 false)=h3 at *
 have rn3:rdCells h3 h.next 0 1=some [.int .i64 (nn:Nat)]:=rd_at (by rw[x3.gt _ (by omega)]; exact gG2) rfl
 refine W.seq (W.run (by simp only[am,evOp,simprocAttr,initTm,rn3,mks_rows m2]<;>rfl) ?_)
 have x4:Ext h3.next h3 (h3.new (.cells (repl [.nils] nn) 1 false)):=Ext.new (Nat.le_refl _)
 have g4:(h3.new (.cells (repl [.nils] nn) 1 false)).get h3.next=some (.cells (repl [.nils] nn) 1 false):=by rw[AH.get_new,if_pos rfl]
 have n4:(h3.new (.cells (repl [.nils] nn) 1 false)).next=h3.next+1:=rfl
 generalize h3.new (.cells (repl [.nils] nn) 1 false)=h4 at *
 have Y4:Ext h2.next h2 h4:=x3.trans (x4.mono (by omega))
 have X4:=X2.trans (Y4.mono X2.nx)
 have hf4:IsRef h4 h2.next nn es [] [] ev .nils .nils:=by
  have e2:=he.ext X2 (Nat.le_refl _)
  refine⟨by rw[x4.gt _ (by omega)]; exact g3,he.ext X4 (Nat.le_refl _),.inl ⟨rfl,.inl rfl⟩,.inl ⟨rfl,.inl rfl⟩,fun b o m c hb=>?_,fun b o m c hb=>(by cases hb),fun b o m c hb=>(by cases hb),hm⟩
  have:=e2.lt hb
  omega
 obtain⟨hperm,hol,hout⟩:=hP
 have hrl:(repl [AV.nils] nn).length=nn:=by rw[repl_rep,List.length_replicate]
 have keepP:∀ {h':AH},Ext h2.next h2 h'→h'.get (h.next+1)=some (.cells [ordv,outv] 2 false):=fun hx=>by rw[hx.gt _ (by omega)]; exact gP2
 refine W.seq (W.seq (W.run (by simp only[am,evOp,simprocAttr,initTm]<;>rfl) ?_))
 refine W.whl (α:=List It×List (List It)×List AV×AV×AV) (N:=order.length) (fun k _=>[(3,.ptr (h.next+1) 0),(8,.ptr h2.next 0),(9,.sl h3.next 0 nn nn),(10,.int .i64 (k:Nat))])
  (fun k a h'=>runM nn es outs (order.drop k) (order.take k) a.1 a.2.1 k=runM nn es outs order [] [] (List.replicate nn []) 0∧Inv nn es a.1 (order.take k)∧IsRef h' h2.next nn es a.1 (order.take k) ev a.2.2.2.1 a.2.2.2.2∧(∀ b o m c,a.2.2.2.1=.sl b o m c→h3.next<b)∧(∀ b o m c,a.2.2.2.2=.sl b o m c→h3.next<b) ∧
   h'.get h3.next=some (.cells a.2.2.1 1 false)∧a.2.2.1.length=nn∧a.2.1.length=nn ∧
   (∀ (i:Nat) (v:AV) (l:List It),a.2.2.1[i]?=some v→a.2.1[i]?=some l→SlT h' v l∧∀ b o m c,v=.sl b o m c→h3.next<b)∧Ext h2.next h2 h'∧h4.next≤h'.next∧a.1.length≤300*k)
  ([],List.replicate nn [],repl [.nils] nn,.nils,.nils) (by simp only[held_cons,held_nil,am,evOp,↓reduceIte,Nat.reduceEqDiff,Int.reduceEq,Nat.reduceAdd,Nat.reduceLeDiff,reduceCtorEq,initTm,Int.natCast_zero])
  ⟨by simp,by simpa using Inv.start,by simpa using hf4,fun b o m c hb=>(by cases hb),fun b o m c hb=>(by cases hb),g4,hrl,by simp,fun i v l h1 h2=>?_,Y4,Nat.le_refl _,by simp⟩ ?_ ?_ ?_
 ·simp only[repl_rep] at h1
  rw[List.getElem?_replicate] at h1 h2
  split at h1
  ·rename_i hi
   rw[if_pos hi] at h2
   simp only[Option.some.injEq] at h1 h2
   subst h1 h2
   exact⟨.inl ⟨rfl,.inl rfl⟩,fun b o m c e=>by cases e⟩
  ·cases h1
 ·rintro k ⟨row,ends,ls,rv,pv⟩ ts h5 hk ⟨j1,jv,j2,jr,jp,j3,j4,j5,j6,jx,jn,jl⟩ ⟨e3,e8,e9,e10,-⟩
  simp only at e3 e8 e9 e10
  have ra:rdCells h5 (h.next+1) 0 1=some [ordv]:=rd_at (keepP jx) rfl
  exact⟨_,(by simp only[am,evOp,↓reduceIte,Nat.reduceEqDiff,Int.reduceEq,Nat.reduceAdd,Nat.reduceLeDiff,reduceCtorEq,e3,e10,ra,lp,Int.ofNat_lt]<;>rfl),by simp only[am,evOp,↓reduceIte,Nat.reduceEqDiff,Int.reduceEq,Nat.reduceAdd,Nat.reduceLeDiff,reduceCtorEq],by simp only[held_cons,held_nil,am,evOp,↓reduceIte,Nat.reduceEqDiff,Int.reduceEq,Nat.reduceAdd,Nat.reduceLeDiff,reduceCtorEq,e3,e8,e9,e10]⟩
 ·rintro k ⟨row,ends,ls,rv,pv⟩ ts h5 hk ⟨j1,jv,j2,jr,jp,j3,j4,j5,j6,jx,jn,jl⟩ ⟨e3,e8,e9,e10,-⟩
  simp only at e3 e8 e9 e10 j1 jv j2 jr jp j3 j4 j5 j6 jl
  have X5:Ext h.next h h5:=X2.trans (jx.mono X2.nx)
  have w1:=w1_ok (k:=k) (by omega)
  have ra:rdCells h5 (h.next+1) 0 1=some [ordv]:=rd_at (keepP jx) rfl
  have rb:rdCells h5 (h.next+1) 1 1=some [outv]:=rd_at (keepP jx) rfl
  obtain⟨b1,p1,a1,r1,_⟩:=(hp.ext X5 (Nat.le_refl _)).at1 (map_at (f:=eI) hk)
  have hxm:order[k]∈upTo nn:=hperm.mem_iff.1 (List.getElem_mem hk)
  obtain⟨hx0,hx1⟩:=mem_upTo.1 hxm
  obtain⟨x,hx⟩:∃ x:Nat,order[k]=x:=⟨order[k].toNat,by omega⟩
  rw[List.drop_eq_getElem_cons hk,runM_step] at j1
  rw[hx] at r1 j1
  have hxn:x<nn:=by omega
  refine W.seq (W.run (by simp only[am,evOp,simprocAttr,e3,e10,ra,a1,r1]<;>rfl) ?_)
  obtain⟨b2,p2,w,a2,r2,sw,_⟩:=(hq.ext X5).at (k:=x) (by omega)
  have hswl:∀ b o m c,w=.sl b o m c→b≠h2.next:=by
   intro b o m c hb
   obtain⟨b2',p2',w',a2',r2',sw',_⟩:=(hq.ext X2).at (k:=x) (by omega)
   rw[a2] at a2'
   cases a2'
   rw[rdCells_eq (jx.gt _ (by assumption)),r2'] at r2
   simp only[Option.some.injEq,List.cons.injEq,and_true] at r2
   subst r2
   have:=sw'.lt hb
   omega
  have htl:(order.take k).length=k:=by rw[List.length_take]; omega
  have hlk:=hl3 _ (List.getElem_mem (show x<outs.length by omega))
  have hgd:outs.getD x []=outs[x]'(by omega):=getD_at (by omega)
  have ho:=hout x hxn
  rw[hgd] at ho
  refine W.seq (W.reg (G.gcall 7 (by simp only[am,evOp,simprocAttr,e3,e8,rb,a2,r2]<;>rfl) rfl (by simp only[am,evOp,simprocAttr,e3,e8,rb,a2,r2]) (by simp only[am,evOp,simprocAttr,e3,e8,rb,a2,r2]<;>rfl) (rplace_ok (x:=((x:Nat):Int)) j2 sw hswl ho (by omega) (by omega) (by omega)) fun r h6 hq'=>?_))
  rw[Int.toNat_natCast,hgd] at j1
  have ix:idx? ((x:Nat):Int) nn=some x:=idx_nat hxn
  rw[rready_eq m4 jv] at hq'
  by_cases hrd:readyM nn es row (order.take k) ((x:Nat):Int)=true
  ·rw[if_pos hrd] at hq' j1
   obtain⟨gv,rv',pv',rfl,sg,hgb,hf6,hrb,hpb,K6⟩:=hq'
   have n6:=K6.nx
   refine G.run (by simp only[am,evOp,simprocAttr]<;>rfl) ?_
   refine W.seq (W.seq (W.run (by simp only[am,evOp,simprocAttr]<;>rfl) ?_))
   refine W.no (by simp only[am,evOp,simprocAttr,decide_true,decide_false]) (W.skip ?_)
   have hfb5:=AH.lt_of_get j2.g
   have gE6:h6.get h3.next=some (.cells ls 1 false):=by rw[K6.gt _ (by omega) (by omega)]; exact j3
   obtain⟨gc,go⟩:=sg.cells
   have wE:wrCells h6 h3.next x [gv]=some (h6.put h3.next (.cells (ls.set x gv) 1 false)):=wr_at gE6 (by omega)
   refine W.run (by simp only[am,evOp,simprocAttr,e9,ix,Nat.mul_one,wE,gc,go]<;>rfl) ?_
   have u:=Upd.put (o:=.cells (ls.set x gv) 1 false) gE6
   have n7:(h6.put h3.next (.cells (ls.set x gv) 1 false)).next=h6.next:=rfl
   generalize h6.put h3.next (.cells (ls.set x gv) 1 false)=h7 at *
   have X7:Ext h2.next h2 h7:=by
    refine jx.trans ⟨by omega,fun c hc=>?_,fun c hc=>?_⟩
    ·rw[u.ne (by omega),K6.gt c (by omega) (by omega)]
    ·rw[u.ty,K6.ty c (by omega)]
   obtain⟨h1',h2',h3'⟩:=ready_rdy.1 hrd
   have htk:order.take (k+1)=order.take k++[((x:Nat):Int)]:=by rw[List.take_succ_eq_append_getElem hk,hx]
   have hf7:IsRef h7 h2.next nn es (nextM es ((x:Nat):Int) (outs[x]'(by omega)) row) (order.take k++[((x:Nat):Int)]) ev rv' pv':=by
    refine⟨by rw[u.ne (by omega)]; exact hf6.g,?_,?_,?_,hf6.oe,hf6.or,hf6.op,hm⟩
    ·refine he.ext X2 (Nat.le_refl _) |>.cong fun b o m c hb=>X7.gt b ?_
     exact (he.ext X2 (Nat.le_refl _)).lt hb
    ·exact hf6.r.cong fun b o m c hb=>u.ne (by have:=hrb b o m c hb; omega)
    ·exact hf6.p.cong fun b o m c hb=>u.ne (by have:=hpb b o m c hb; omega)
   refine⟨(nextM es ((x:Nat):Int) (outs[x]'(by omega)) row,ends.set x (goneM ((x:Nat):Int) row),ls.set x gv,rv',pv'),⟨by rw[htk]; exact j1,by rw[htk]; exact jv.next ho h2' h3' hone h1',by rw[htk]; exact hf7,fun b o m c hb=>(by have:=hrb b o m c hb; omega),fun b o m c hb=>(by have:=hpb b o m c hb; omega),u.get,by simpa using j4,by simpa using j5,fun i v l g1 g2=>?_,X7,by omega,?_⟩,_,(by simp only[am,evOp,↓reduceIte,Nat.reduceEqDiff,Int.reduceEq,Nat.reduceAdd,Nat.reduceLeDiff,reduceCtorEq,e10,w1]<;>rfl),by simp only[held_cons,held_nil,am,evOp,↓reduceIte,Nat.reduceEqDiff,Int.reduceEq,Nat.reduceAdd,Nat.reduceLeDiff,reduceCtorEq,e3,e8,e9]⟩
   ·simp only at g1 g2
    by_cases e:x=i
    ·subst e
     rw[List.getElem?_set_self (by omega),Option.some.injEq] at g1 g2
     subst g1 g2
     exact⟨sg.cong fun b o m c hb=>u.ne (by have:=hgb b o m c hb; omega),fun b o m c hb=>by have:=hgb b o m c hb; omega⟩
    ·rw[List.getElem?_set_ne e] at g1 g2
     obtain⟨s1,s2⟩:=j6 i v l g1 g2
     refine⟨s1.cong fun b o m c hb=>?_,s2⟩
     have:=s2 b o m c hb
     rw[u.ne (by omega),K6.gt b (s1.lt hb) (by omega)]
   ·have:=next_len (es:=es) (x:=((x:Nat):Int)) (outs:=outs[x]'(by omega)) (row:=row)
    simp only
    omega
  ·rw[if_neg hrd] at hq' j1
   obtain⟨rfl,x6⟩:=hq'
   refine G.run (by simp only[am,evOp,simprocAttr]<;>rfl) ?_
   refine W.seq (W.seq (W.run (by simp only[am,evOp,simprocAttr]<;>rfl) ?_))
   refine W.yes (by simp only[am,evOp,simprocAttr,decide_true,decide_false]) (W.seq (W.run (by simp only[am,evOp,simprocAttr,e10]<;>rfl) ?_))
   exact W.ret ⟨.tup [.nils,.nils,.int .i64 3,.int .i64 (k:Nat)],(by simp only[rs,rf10,am,evOp,simprocAttr,e10]<;>rfl),X5.trans (x6.mono X5.nx),.inr ⟨⟨hgood,hperm,hol,hout⟩,.inl ⟨k,j1.symm,rfl⟩⟩⟩
 ·rintro⟨row,ends,ls,rv,pv⟩ ts h5 ⟨j1,jv,j2,jr,jp,j3,j4,j5,j6,jx,jn,jl⟩ ⟨e3,e8,e9,e10,-⟩
  simp only at e8 e9 j1 jv j2 jr jp j3 j4 j5 j6 jl
  rw[List.drop_length] at j1
  have rr:rdCells h5 h2.next 2 1=some [rv]:=rd_at j2.g rfl
  refine W.seq (W.run (by simp only[am,evOp,simprocAttr,e8,e9,rr]<;>rfl) ?_)
  exact W.ret ⟨.tup [.sl h3.next 0 nn nn,rv,.int .i64 0,.int .i64 0],(by simp only[rs,rf10,am,evOp,simprocAttr]<;>rfl),X2.trans (jx.mono X2.nx),.inr ⟨⟨hgood,hperm,hol,hout⟩,.inr ⟨ends,row,_,_,j1.symm,rfl,⟨ls,Sl.row j3 j4 (Nat.le_refl _),by rw[j4,j5],fun i v l h1 h2=>(j6 i v l h1 h2).1⟩,j2.r⟩⟩⟩
end Go.Proofs.YtihedjolidbfiaaGreatDoor
