/-
  front: span, bare, swap, above. front: a front; swap, above, ready. The row's laws: where a vertex's edges stand, what stays ready, orders, mirrors. front: Place, Ready, Done, Row, New. front: Ready, Done, Row, New.
-/
import Derived.Test.YtihedjolidbfiaaGreatDoorXLe
set_option linter.all false
namespace Go.Proofs.YtihedjolidbfiaaGreatDoor
open Go.Am
abbrev It:=Int×Int×Int
def spanF (x:Int):List It→Nat→Int×Int×Int→Int×Int×Int
 | [],_,s=>s
 | it::r,i,s=>spanF x r (i+1) (if it.2.2=x then (if s.1=-1 then ((i:Nat):Int) else s.1,((i+1:Nat):Int),s.2.2+1) else s)
def spanM (x:Int) (row:List It):Int×Int×Int:=spanF x row 0 (-1,0,0)
theorem spanF_ok (x:Int):∀ (row:List It) (i:Nat) (s:Int×Int×Int),(s.1=-1∧s.2.1=0∧s.2.2=0∨0≤s.1∧s.1<s.2.1∧s.2.1≤i∧0<s.2.2∧s.2.2≤i) →
 ((spanF x row i s).1=-1∧(spanF x row i s).2.1=0∧(spanF x row i s).2.2=0∨0≤(spanF x row i s).1∧(spanF x row i s).1<(spanF x row i s).2.1∧(spanF x row i s).2.1≤((i+row.length:Nat):Int)∧0<(spanF x row i s).2.2∧(spanF x row i s).2.2≤((i+row.length:Nat):Int))
 | [],i,s,h=>by
   rcases h with h|h
   ·exact .inl h
   ·exact .inr (by simpa [spanF] using h)
 | it::r,i,s,h=>by
   unfold spanF
   have:=spanF_ok x r (i+1) (if it.2.2=x then (if s.1=-1 then ((i:Nat):Int) else s.1,((i+1:Nat):Int),s.2.2+1) else s) (by
    split
    ·right
     simp only
     split<;>omega
    ·rcases h with h|h
     ·exact .inl h
     ·exact .inr (by omega))
   rw[show i+1+r.length=i+(it::r).length by simp only[List.length_cons]; omega] at this
   exact this
theorem spanM_ok (x:Int) (row:List It):((spanM x row).1=-1∧(spanM x row).2.1=0∧(spanM x row).2.2=0)∨(0≤(spanM x row).1∧(spanM x row).1<(spanM x row).2.1∧(spanM x row).2.1≤(row.length:Nat)∧0<(spanM x row).2.2∧(spanM x row).2.2≤(row.length:Nat)):=by
 have:=spanF_ok x row 0 (-1,0,0) (.inl ⟨rfl,rfl,rfl⟩)
 rw[Nat.zero_add] at this
 exact this
theorem span_ok {h:AH}{b:Nat}{iv:AV}{rest:List AV}{row:List It}{x:Int} (hb:h.get b=some (.cells (iv::rest) 3 false)) (hv:SlT h iv row) (hl:row.length<2 ^ 30) :
 C prg 38 [.ptr b 0,.int .i64 x] h fun r h'=>r=.tup [.int .i64 (spanM x row).1,.int .i64 (spanM x row).2.1,.int .i64 (spanM x row).2.2]∧Ext h.next h h':=by
 refine C.func pf38 ?_
 have r1:rdCells h b 0 1=some [iv]:=rd_at hb rfl
 have el:=hv.len
 rw[List.length_map] at el
 refine W.seq (W.run (by simp only[am,evOp,simprocAttr,initTm]<;>rfl) ?_)
 refine W.seq (W.run (by simp only[am,evOp,simprocAttr,initTm]<;>rfl) ?_)
 refine W.seq (W.seq (W.run (by simp only[am,evOp,simprocAttr,initTm,r1,el]<;>rfl) ?_))
 refine W.rng (α:=Int×Int×Int) (N:=row.length) (fun _ a=>[(1,.int .i64 x),(12,iv),(4,.int .i64 a.1),(5,.int .i64 a.2.1),(6,.int .i64 a.2.2)])
  (fun k a h'=>spanF x (row.drop k) k a=spanM x row∧-1≤a.1∧a.1≤k∧0≤a.2.2∧a.2.2≤k∧Ext h.next h h') (-1,0,0) (fun _ _=>rfl) (by omega) (by simp only[held_cons,held_nil,am,evOp,↓reduceIte,Nat.reduceEqDiff,Int.reduceEq,Nat.reduceAdd,Nat.reduceLeDiff,reduceCtorEq,initTm]) ⟨rfl,by decide,by decide,by decide,by decide,Ext.refl⟩ ?_ ?_
 ·rintro k ⟨f,t,c⟩ ts h1 hk ⟨j1,j2,j3,j4,j5,jx⟩ ⟨ei,en,e1,e12,e4,e5,e6,-⟩
  simp only at ei en e1 e12 e4 e5 e6 j1 j2 j3 j4 j5
  obtain⟨b1,p1,a1,r4,_⟩:=(hv.ext jx (Nat.le_refl _)).at (map_at (f:=eT) hk)
  obtain⟨h6,w6,x6,g6,n6⟩:=mk_loc (h:=h1) (z:=[.int .i64 0,.int .i64 0,.int .i64 0]) (cs:=[.int .i64 row[k].1,.int .i64 row[k].2.1,.int .i64 row[k].2.2]) (e:=3) rfl
  refine W.seq (W.run (by simp only[am,evOp,simprocAttr,e12,ei,a1,r4,eT,w6]<;>rfl) ?_)
  have r6:rdCells h6 h1.next 2 1=some [.int .i64 row[k].2.2]:=rd_at g6 rfl
  have X6:=jx.trans (x6.mono jx.nx)
  rw[List.drop_eq_getElem_cons hk] at j1
  unfold spanF at j1
  refine W.seq (W.seq (W.run (by simp only[am,evOp,simprocAttr,e1,r6]<;>rfl) ?_))
  refine W.cond (t:=!decide (row[k].2.2=x)) (by simp only[am,evOp,simprocAttr]) (fun q=>?_) fun q=>?_
  ·have q:¬ row[k].2.2=x:=by simpa using q
   rw[if_neg q] at j1
   refine W.exit ⟨fun _=>⟨(f,t,c),⟨j1,j2,by simp only; omega,j4,by simp only; omega,X6⟩,by simp only[held_cons,held_nil,am,evOp,↓reduceIte,Nat.reduceEqDiff,Int.reduceEq,Nat.reduceAdd,Nat.reduceLeDiff,reduceCtorEq,ei,en,e1,e12,e4,e5,e6]⟩,fun e=>absurd rfl e⟩
  ·have q:row[k].2.2=x:=by simpa using q
   rw[if_pos q] at j1
   refine W.skip ?_
   have w1:IntKind.i64.wrap (((k:Nat):Int)+1)=((k+1:Nat):Int):=wr64 (by omega) (by omega)
   have w2:IntKind.i64.wrap (c+1)=c+1:=wr64 (by omega) (by omega)
   refine W.seq (W.seq (W.run (by simp only[am,evOp,simprocAttr,e4]<;>rfl) ?_))
   refine W.cond (t:=decide (f=-1)) (by simp only[am,evOp,simprocAttr]) (fun q2=>?_) fun q2=>?_
   ·have q2:f=-1:=of_decide_eq_true q2
    rw[if_pos q2] at j1
    refine W.run (by simp only[am,evOp,simprocAttr]<;>rfl) ?_
    refine W.seq (W.run (by simp only[am,evOp,simprocAttr,w1]<;>rfl) ?_)
    refine W.run (by simp only[am,evOp,simprocAttr,e6,w2]<;>rfl) ?_
    exact⟨(((k:Nat):Int),((k+1:Nat):Int),c+1),⟨j1,by simp only; omega,by simp only; omega,by simp only; omega,by simp only; omega,X6⟩,by simp only[held_cons,held_nil,am,evOp,↓reduceIte,Nat.reduceEqDiff,Int.reduceEq,Nat.reduceAdd,Nat.reduceLeDiff,reduceCtorEq,ei,en,e1,e12]⟩
   ·have q2:¬ f=-1:=of_decide_eq_false q2
    rw[if_neg q2] at j1
    refine W.skip ?_
    refine W.seq (W.run (by simp only[am,evOp,simprocAttr,w1]<;>rfl) ?_)
    refine W.run (by simp only[am,evOp,simprocAttr,e6,w2]<;>rfl) ?_
    exact⟨(f,((k+1:Nat):Int),c+1),⟨j1,by simp only; omega,by simp only; omega,by simp only; omega,by simp only; omega,X6⟩,by simp only[held_cons,held_nil,am,evOp,↓reduceIte,Nat.reduceEqDiff,Int.reduceEq,Nat.reduceAdd,Nat.reduceLeDiff,reduceCtorEq,ei,en,e1,e12,e4]⟩
 ·rintro⟨f,t,c⟩ ts h1 ⟨j1,j2,j3,j4,j5,jx⟩ ⟨e1,e12,e4,e5,e6,-⟩
  simp only at e1 e12 e4 e5 e6 j1
  rw[List.drop_length] at j1
  have j1:(f,t,c)=spanM x row:=j1
  rw[← j1]
  refine W.seq (W.run (by simp only[am,evOp,simprocAttr,e4,e5,e6]<;>rfl) ?_)
  exact W.ret ⟨_,(by simp only[rs,rf38,am,evOp,simprocAttr]<;>rfl),rfl,jx⟩
theorem bare1_ok {h:AH}{s:Nat}{x:Int}{it:It} (hs:rdCells h s 0 1=some [.int .i64 x]) (hsn:s<h.next):C prg 103 ([.agg (eT it)]++[.ptr s 0]) h fun r h'=>r=.bool (decide (it.2.2≠x∧it.2.2≠-1))∧Ext h.next h h':=by
 refine C.func pf103 ?_
 refine W.seq (W.run (by simp only[am,evOp,simprocAttr,initTm,eT]<;>rfl) ?_)
 have ex:Ext h.next h (h.new (.cells [.int .i64 it.1,.int .i64 it.2.1,.int .i64 it.2.2] 3 false)):=Ext.new (Nat.le_refl _)
 have g:(h.new (.cells [.int .i64 it.1,.int .i64 it.2.1,.int .i64 it.2.2] 3 false)).get h.next=some (.cells [.int .i64 it.1,.int .i64 it.2.1,.int .i64 it.2.2] 3 false):=by rw[AH.get_new,if_pos rfl]
 generalize h.new (.cells [.int .i64 it.1,.int .i64 it.2.1,.int .i64 it.2.2] 3 false)=h1 at *
 have r1:rdCells h1 h.next 2 1=some [.int .i64 it.2.2]:=rd_at g rfl
 have r2:rdCells h1 s 0 1=some [.int .i64 x]:=by rw[← hs]; exact rdCells_eq (ex.gt _ hsn)
 by_cases q1:it.2.2=x
 ·have c1:decide (it.2.2=x)=true:=decide_eq_true q1
  refine W.seq (W.run (by simp only[am,evOp,simprocAttr,initTm,r1,r2,c1]<;>rfl) ?_)
  exact W.ret ⟨.bool false,(by simp only[rs,rf103,am,evOp,simprocAttr]<;>rfl),by simp [q1],ex⟩
 ·have c1:decide (it.2.2=x)=false:=decide_eq_false q1
  refine W.seq (W.run (by simp only[am,evOp,simprocAttr,initTm,r1,r2,c1]<;>rfl) ?_)
  refine W.ret ⟨.bool (!decide (it.2.2=-1)),(by simp only[rs,rf103,am,evOp,simprocAttr]<;>rfl),by simp [q1],ex⟩
def bareM (x:Int) (row:List It):Bool:=!row.any fun it=>decide (it.2.2≠x∧it.2.2≠-1)
theorem bare_ok' {h:AH}{b:Nat}{iv:AV}{rest:List AV}{row:List It}{x:Int}{lo hi:Nat} (hb:h.get b=some (.cells (iv::rest) 3 false)) (hv:SlT h iv row) (hl:row.length<2 ^ 30) (hlo:lo≤hi) (hhi:hi≤row.length) :
 C prg 68 [.ptr b 0,.int .i64 x,.int .i64 (lo:Nat),.int .i64 (hi:Nat)] h fun r h'=>r=.bool (bareM x ((row.drop lo).take (hi-lo)))∧Ext h.next h h':=by
 refine C.func pf68 ?_
 refine W.seq (W.run (by simp only[am,evOp,simprocAttr,initTm]<;>rfl) ?_)
 have ex:Ext h.next h (h.new (.cells [.int .i64 x] 1 false)):=Ext.new (Nat.le_refl _)
 have g:(h.new (.cells [.int .i64 x] 1 false)).get h.next=some (.cells [.int .i64 x] 1 false):=by rw[AH.get_new,if_pos rfl]
 have n1:(h.new (.cells [.int .i64 x] 1 false)).next=h.next+1:=rfl
 generalize h.new (.cells [.int .i64 x] 1 false)=h1 at *
 have r1:rdCells h1 b 0 1=some [iv]:=rd_at (by rw[ex.gt _ (AH.lt_of_get hb)]; exact hb) rfl
 obtain⟨v',s1,s2,_⟩:=(hv.ext ex (Nat.le_refl _)).part hlo (by rw[List.length_map]; exact hhi)
 rw[← List.map_drop,← List.map_take] at s2
 refine W.seq (W.reg (G.gcall 8 (by simp only[am,evOp,simprocAttr,initTm,r1,slLA_eq,Option.map_none,s1]<;>rfl) rfl (by simp only[am,evOp,simprocAttr,initTm,r1,slLA_eq,Option.map_none,s1]) (by simp only[am,evOp,simprocAttr,initTm,r1,slLA_eq,Option.map_none,s1]<;>rfl) (contfT_ok (P:=fun it=>decide (it.2.2≠x∧it.2.2≠-1)) s2 (by rw[List.length_take,List.length_drop]; omega) (fun it _ h' hx=>bare1_ok (by rw[rdCells_eq (hx.gt _ (by omega))]; exact rd_at g rfl) (by have:=hx.nx; omega))) fun r h3 hq=>?_))
 obtain⟨rfl,x3⟩:=hq
 refine G.run (by simp only[am,evOp,simprocAttr]<;>rfl) ?_
 exact W.ret ⟨_,(by simp only[rs,rf68,am,evOp,simprocAttr]<;>rfl),rfl,ex.trans (x3.mono ex.nx)⟩
end Go.Proofs.YtihedjolidbfiaaGreatDoor
namespace Go.Proofs.YtihedjolidbfiaaGreatDoor
open Go.Am
def IsFront (h:AH) (fb pb n:Nat) (es:List (Int×Int)) (row:List It) (pl:List Int):Prop :=
 ∃ (iv vp pv:AV) (hV:AH),h.get fb=some (.cells [iv,vp,pv] 3 false)∧SlT h iv row∧(∀ b o n c,iv=.sl b o n c→b≠fb∧b≠pb)∧IsView hV vp n es∧Ext hV.next hV h∧hV.next≤fb∧hV.next≤pb∧pb<h.next ∧
   ((pv=.nils∧pl=[]∧pb=fb)∨∃ m,pv=.sl pb 0 m m∧h.get pb=some (.cells (pl.flatMap eI) 1 false)∧m=pl.length∧pb≠fb)
theorem IsView.at {hV h:AH}{vp:AV}{n:Nat}{es:List (Int×Int)} (hv:IsView hV vp n es) (hx:Ext hV.next hV h):IsView h vp n es:=hv.ext hx
theorem IsFront.ext {h h':AH}{fb pb n:Nat}{es:List (Int×Int)}{row:List It}{pl:List Int} (hf:IsFront h fb pb n es row pl) (hx:Ext h.next h h'):IsFront h' fb pb n es row pl:=by
 obtain⟨iv,vp,pv,hV,g,si,so,vv,vx,v1,v2,v3,pp⟩:=hf
 refine⟨iv,vp,pv,hV,by rw[hx.gt _ (AH.lt_of_get g)]; exact g,si.ext hx (Nat.le_refl _),so,vv,vx.trans (hx.mono vx.nx),v1,v2,Nat.lt_of_lt_of_le v3 hx.nx,?_⟩
 rcases pp with pp|⟨m,p1,p2,p3⟩
 ·exact .inl pp
 ·exact .inr ⟨m,p1,by rw[hx.gt _ v3]; exact p2,p3⟩
theorem placed_sl {h:AH}{pv:AV}{fb pb:Nat}{pl:List Int} (pp:(pv=.nils∧pl=[]∧pb=fb)∨∃ m,pv=.sl pb 0 m m∧h.get pb=some (.cells (pl.flatMap eI) 1 false)∧m=pl.length∧pb≠fb):SlI h pv pl:=by
 rcases pp with ⟨rfl,rfl,_⟩|⟨m,rfl,p2,rfl,_⟩
 ·exact .inl ⟨rfl,.inl rfl⟩
 ·exact IsSl.sl (lo:=0) (by omega) (fun _=>rfl) (.inr ⟨pb,_,by omega,rfl,p2,by rw[len_cI,Nat.mul_one]⟩)
theorem swap_ok {h:AH}{fb lo hi:Nat}{iv vp pv w:AV}{row items:List It} (hg:h.get fb=some (.cells [iv,vp,pv] 3 false)) (hv:SlT h iv row) (hw:SlT h w items) (hlo:lo≤hi) (hhi:hi≤row.length) (hl:row.length<2 ^ 30) (hl2:items.length<2 ^ 30) :
 C prg 39 [.ptr fb 0,.int .i64 (lo:Nat),.int .i64 (hi:Nat),w] h fun r h'=>IsSl h' 3 h.next r (((row.drop lo).take (hi-lo)).flatMap eT)∧∃ iv',h'.get fb=some (.cells [iv',vp,pv] 3 false)∧IsSl h' 3 h.next iv' ((row.take lo++items++row.drop hi).flatMap eT)∧Kp (·=fb) h h':=by
 refine C.func pf39 ?_
 refine W.seq (W.run (by simp only[am,evOp,simprocAttr,initTm]<;>rfl) ?_)
 have r1:rdCells h fb 0 1=some [iv]:=rd_at hg rfl
 obtain⟨v1,s1,t1,_⟩:=hv.part hlo (by rw[List.length_map]; exact hhi)
 rw[← List.map_drop,← List.map_take] at t1
 refine W.seq (W.reg (G.gcall 7 (by simp only[am,evOp,simprocAttr,initTm,r1,slLA_eq,Option.map_none,s1]<;>rfl) rfl (by simp only[am,evOp,simprocAttr,initTm,r1,slLA_eq,Option.map_none,s1]) (by simp only[am,evOp,simprocAttr,initTm,r1,slLA_eq,Option.map_none,s1]<;>rfl) (cloneT_ok t1 (by rw[List.length_take,List.length_drop]; omega)) fun g h1 hq=>?_))
 obtain⟨ig,x1,_⟩:=hq
 refine G.run (by simp only[am,evOp,simprocAttr]<;>rfl) ?_
 have n1:=x1.nx
 have hfb:=AH.lt_of_get hg
 have kg:∀ c,c<h1.next→(h1.keep 1).get c=h1.get c:=fun c hc=>by rw[AH.keep_get,if_neg (by omega)]
 have q7:(h1.keep 1).get h1.next=some .resv:=keep1_get
 have g1:h1.get fb=some (.cells [iv,vp,pv] 3 false):=by rw[x1.gt _ hfb]; exact hg
 have r2:rdCells (h1.keep 1) fb 0 1=some [iv]:=rd_at (by rw[kg _ (by omega)]; exact g1) rfl
 have hv1:=hv.ext x1 (Nat.le_refl _)
 have hvk:SlT (h1.keep 1) iv row:=hv1.cong fun b o n c e=>kg _ (hv1.lt e)
 obtain⟨v2,f2,t2,t2b,_⟩:=hvk.upto (hi:=lo) (by rw[List.length_map]; omega)
 obtain⟨v3,f3,t3,t3b,_⟩:=hvk.from (lo:=hi) (by rw[List.length_map]; omega)
 rw[← List.map_take] at t2
 rw[← List.map_drop] at t3
 have hw1:=hw.ext x1 (Nat.le_refl _)
 obtain⟨p1,p2,p3,p4⟩:=keep1_put (h:=h1) (o:=.cells [v2,w,v3] 1 false)
 have kgp:∀ c,c<h1.next→((h1.keep 1).put h1.next (.cells [v2,w,v3] 1 false)).get c=(h1.keep 1).get c:=fun c hc=>by rw[p4 c hc,kg c hc]
 have ivb:InB (fun b=>b<h1.next) iv:=by
  rcases hv1 with ⟨_,rfl|rfl⟩|⟨b,o,c,cs,ro,rfl,hgg,_⟩
  ·trivial
  ·trivial
  ·exact AH.lt_of_get hgg
 have t2':SlT ((h1.keep 1).put h1.next (.cells [v2,w,v3] 1 false)) v2 (row.take lo):=t2.cong fun b o n c e=>kgp _ (by have:=t2b _ ivb; rw[e] at this; exact this)
 have t3':SlT ((h1.keep 1).put h1.next (.cells [v2,w,v3] 1 false)) v3 (row.drop hi):=t3.cong fun b o n c e=>kgp _ (by have:=t3b _ ivb; rw[e] at this; exact this)
 have hw':SlT ((h1.keep 1).put h1.next (.cells [v2,w,v3] 1 false)) w items:=hw1.cong fun b o n c e=>p4 _ (hw1.lt e)
 have hcat:=concatT_ok (h:=(h1.keep 1).put h1.next (.cells [v2,w,v3] 1 false)) (v:=.sl h1.next 0 3 3) (vs:=[v2,w,v3]) (xss:=[row.take lo,items,row.drop hi]) (Sl.row p2 rfl (Nat.le_refl _)) rfl (fun i w' xs hw'' hx=>by
  match i with
  | 0 =>
    simp only[List.getElem?_cons_zero,Option.some.injEq] at hw'' hx
    subst hw'' hx
    exact t2'
  | 1 =>
    simp only[List.getElem?_cons_succ,List.getElem?_cons_zero,Option.some.injEq] at hw'' hx
    subst hw'' hx
    exact hw'
  | 2 =>
    simp only[List.getElem?_cons_succ,List.getElem?_cons_zero,Option.some.injEq] at hw'' hx
    subst hw'' hx
    exact t3'
  | i+3=>simp at hw'') (by simp) (by simp only[List.flatten_cons,List.flatten_nil,List.append_nil,List.length_append,List.length_drop,List.length_take]; omega)
 refine W.seq (W.regK (G.gcall 15 (by simp only[am,evOp,simprocAttr,initTm,r2,slLA_eq,Option.map_none,f2,f3,evN_some,evNew_mksl q7,t2.cells.1,t3.cells.1,hw.cells.1]<;>rfl) rfl (by simp only[am,evOp,simprocAttr,initTm,r2,slLA_eq,Option.map_none,f2,f3,evN_some,evNew_mksl q7,t2.cells.1,t3.cells.1,hw.cells.1]) (by simp only[am,evOp,simprocAttr,initTm,r2,slLA_eq,Option.map_none,f2,f3,evN_some,evNew_mksl q7,t2.cells.1,t3.cells.1,hw.cells.1]<;>rfl) (hcat) fun r h8 hq=>?_))
 obtain⟨i8,x8⟩:=hq
 have n8:=x8.nx
 rw[p3] at n8
 have g8:h8.get fb=some (.cells [iv,vp,pv] 3 false):=by rw[x8.gt _ (by omega),p4 _ (by omega)]; exact g1
 have w8:wrCells h8 fb 0 [r]=some (h8.put fb (.cells [r,vp,pv] 3 false)):=by rw[wrCells_of g8]; rfl
 obtain⟨rc,ro⟩:=i8.cells
 refine G.run (by simp only[am,evOp,simprocAttr,rc,ro,w8]<;>rfl) ?_
 have u9:=Upd.put (o:=.cells [r,vp,pv] 3 false) g8
 generalize h8.put fb (.cells [r,vp,pv] 3 false)=h9 at *
 refine W.seq (W.run (by simp only[am,evOp,simprocAttr]<;>rfl) ?_)
 have e8:[row.take lo,items,row.drop hi].flatten=row.take lo++items++row.drop hi:=by simp
 rw[e8,p3] at i8
 refine W.ret ⟨g,(by simp only[rs,rf39,am,evOp,simprocAttr]<;>rfl),?_,r,u9.get,(i8.upd u9 (by omega)).mono (by omega),?_⟩
 ·exact (((ig.ext p1 (Nat.le_refl _)).ext x8 (by omega)).cong fun b n e hb=>u9.ne (by omega))
 ·exact (x1.kp (S:=(·=fb)) (Nat.le_refl _)).trans ((p1.kp (Nat.le_refl _)).trans ((x8.kp (Nat.le_refl _)).trans (u9.kp (S:=(·=fb)) rfl) (fun _ _ q=>q)) (fun _ _ q=>q)) (fun _ _ q=>q)
def aboveM (es:List (Int×Int)) (x:Int) (outs:List Int):List It:=if outs=[] then [(-1,x,-1)] else outs.map fun i=>(i,x,((es[i.toNat]?).getD (0,0)).2)
theorem above_ok {h:AH}{fb n:Nat}{iv vp pv ov:AV}{es:List (Int×Int)}{x:Int}{outs:List Int} (hg:h.get fb=some (.cells [iv,vp,pv] 3 false)) (hv:IsView h vp n es) (ho:SlI h ov outs) (hr:∀ i∈outs,0≤i∧i<es.length) (hl:outs.length<2 ^ 30) :
 C prg 40 [.ptr fb 0,.int .i64 x,ov] h fun r h'=>IsSl h' 3 h.next r ((aboveM es x outs).flatMap eT)∧Ext h.next h h':=by
 obtain⟨b,ev,os,is,ob,ib,rfl,g1,g2,g3,g4,g5,g6,g7,g8,m1,m2,m3,m4⟩:=hv
 have lo:=ho.len
 rw[List.length_map] at lo
 refine C.func pf40 ?_
 refine W.seq (W.run (by simp only[am,evOp,simprocAttr,initTm]<;>rfl) ?_)
 refine W.seq (W.seq (W.run (by simp only[am,evOp,simprocAttr,initTm,lo]<;>rfl) ?_))
 by_cases q:outs=[]
 ·subst q
  refine W.yes (by simp only[am,evOp,simprocAttr]; rfl) (W.seq (W.run (by simp only[am,evOp,simprocAttr,initTm]<;>rfl) ?_))
  refine W.ret ⟨.sl h.next 0 1 1,(by simp only[rs,rf40,am,evOp,simprocAttr]<;>rfl),?_,Ext.new (Nat.le_refl _)⟩
  exact .inr ⟨h.next,1,Nat.le_refl _,rfl,by rw[AH.get_new,if_pos rfl]; rfl,rfl⟩
 have ql:outs.length≠0:=fun e=>q (List.length_eq_zero_iff.1 e)
 have c1:decide (((outs.length:Nat):Int)=0)=false:=decide_eq_false (by omega)
 refine W.no (by simp only[am,evOp,simprocAttr,c1]) (W.skip ?_)
 have hA:aboveM es x outs=outs.map fun i=>(i,x,((es[i.toNat]?).getD (0,0)).2):=by unfold aboveM; rw[if_neg q]
 rw[hA]
 refine W.seq (W.seq (W.run (by simp only[am,evOp,simprocAttr,initTm,lo]<;>rfl) ?_))
 refine W.rng (α:=AV) (N:=outs.length) (fun _ a=>[(0,.ptr fb 0),(1,.int .i64 x),(15,ov),(6,a)]) (fun k a h'=>IsSl h' 3 h.next a (((outs.map fun i=>(i,x,((es[i.toNat]?).getD (0,0)).2)).take k).flatMap eT)∧Ext h.next h h') .nils (fun _ _=>rfl) (by omega) (by simp only[held_cons,held_nil,am,evOp,↓reduceIte,Nat.reduceEqDiff,Int.reduceEq,Nat.reduceAdd,Nat.reduceLeDiff,reduceCtorEq,initTm]) ⟨.inl ⟨rfl,rfl⟩,Ext.refl⟩ ?_ ?_
 ·rintro k a ts h1 hk ⟨j1,jx⟩ ⟨ei,en,e0,e1,e15,e6,-⟩
  simp only at ei en e0 e1 e15 e6
  obtain⟨b1,p1,a1,r4,_⟩:=(ho.ext jx (Nat.le_refl _)).at1 (map_at (f:=eI) hk)
  obtain⟨hi1,hi2⟩:=hr _ (List.getElem_mem hk)
  obtain⟨i,hi⟩:∃ i:Nat,outs[k]=i:=⟨outs[k].toNat,by omega⟩
  rw[hi] at r4 hi2
  have hil:i<es.length:=by omega
  obtain⟨eb1,ep,a7,_,r7,_⟩:=(g2.ext jx (Nat.le_refl _)).at (map_at (f:=eE) hil)
  have r7:=r7 1 (.int .i64 es[i].2) rfl
  have rf1:rdCells h1 fb 1 1=some [.ptr b 0]:=rd_at (by rw[jx.gt _ (AH.lt_of_get hg)]; exact hg) rfl
  have rv:rdCells h1 b 1 1=some [ev]:=rd_at (by rw[jx.gt _ (AH.lt_of_get g1)]; exact g1) rfl
  have hlen:(((outs.map fun i=>(i,x,((es[i.toNat]?).getD (0,0)).2)).take k).flatMap eT).length=k*3:=by
   rw[flat_len (f:=eT) (e:=3) (fun _=>rfl),List.length_take,List.length_map,Nat.min_eq_left (by omega)]
  obtain⟨s',h2,a2,i2,x2,n2⟩:=j1.push (bytes:=24) (eT (((i:Nat):Int),x,es[i].2)) jx.nx (by omega) rfl rfl (by rw[hlen,Nat.mul_div_cancel _ (by omega)]; unfold tooMany; omega) (by rw[hlen,Nat.mul_div_cancel _ (by omega)]; unfold tooMany; omega)
  rw[show eT (((i:Nat):Int),x,es[i].2)=[.int .i64 ((i:Nat):Int),.int .i64 x,.int .i64 es[i].2] from rfl] at a2 i2
  refine W.seq (W.run (by simp only[am,evOp,simprocAttr,e15,ei,a1,r4]<;>rfl) ?_)
  refine W.run (by simp only[am,evOp,simprocAttr,e0,e1,e6,rf1,rv,a7,r7,a2]<;>rfl) ?_
  refine⟨s',⟨?_,jx.trans x2⟩,by simp only[held_cons,held_nil,am,evOp,↓reduceIte,Nat.reduceEqDiff,Int.reduceEq,Nat.reduceAdd,Nat.reduceLeDiff,reduceCtorEq,ei,en,e0,e1,e15]⟩
  have e1:(outs.map fun i=>(i,x,((es[i.toNat]?).getD (0,0)).2)).take (k+1)=(outs.map fun i=>(i,x,((es[i.toNat]?).getD (0,0)).2)).take k++[(((i:Nat):Int),x,es[i].2)]:=by
   rw[List.take_succ_eq_append_getElem (by rw[List.length_map]; exact hk),List.getElem_map,hi,Int.toNat_natCast,List.getElem?_eq_getElem hil,Option.getD_some]
  rw[e1,List.flatMap_append]
  exact i2
 ·rintro a ts h1 ⟨j1,jx⟩ ⟨e0,e1,e15,e6,-⟩
  simp only at e0 e1 e15 e6
  rw[List.take_of_length_le (by rw[List.length_map]; exact Nat.le_refl _)] at j1
  refine W.seq (W.run (by simp only[am,evOp,simprocAttr,e6]<;>rfl) ?_)
  exact W.ret ⟨a,(by simp only[rs,rf40,am,evOp,simprocAttr]<;>rfl),j1,jx⟩
def readyM (n:Nat) (es:List (Int×Int)) (row:List It) (pl:List Int) (x:Int):Bool :=
 decide (0≤x∧x<n)&&!decide (x∈pl)&&(decide ((spanM x row).2.2=((insM es x).length:Nat))&&(decide ((insM es x).length=0)||bareM x ((row.drop (spanM x row).1.toNat).take ((spanM x row).2.1.toNat-(spanM x row).1.toNat))))
theorem ready_ok {h:AH}{fb pb n:Nat}{es:List (Int×Int)}{row:List It}{pl:List Int}{x:Int} (hf:IsFront h fb pb n es row pl) (hl:row.length<2 ^ 30) (hl2:pl.length<2 ^ 30) :
 C prg 33 [.ptr fb 0,.int .i64 x] h fun r h'=>r=.bool (readyM n es row pl x)∧Ext h.next h h':=by
 obtain⟨iv,vp,pv,hV,g,si,so,vv,vx,v1,v2,v3,pp⟩:=hf
 have hv:=vv.at vx
 have hv0:=hv
 obtain⟨b,ev,os,is,ob,ib,rfl,g1,g2,g3,g4,g5,g6,g7,g8,m1,m2,m3,m4⟩:=hv
 have sp:=placed_sl pp
 refine C.func pf33 ?_
 have rf1:rdCells h fb 1 1=some [.ptr b 0]:=rd_at g rfl
 have rf2:rdCells h fb 2 1=some [pv]:=rd_at g rfl
 have rn:rdCells h b 0 1=some [.int .i64 (n:Nat)]:=rd_at g1 rfl
 refine W.seq (W.run (by simp only[am,evOp,simprocAttr,initTm]<;>rfl) ?_)
 by_cases q1:x<0
 ·have c1:decide (x<0)=true:=decide_eq_true q1
  refine W.seq (W.seq (W.reg (G.nocall 20 (by simp only[am,evOp,simprocAttr,initTm,c1]<;>rfl) rfl (by simp only[am,evOp,simprocAttr]) ?_)))
  refine G.run (by simp only[am,evOp,simprocAttr]<;>rfl) ?_
  refine W.yes (by simp only[am,evOp,simprocAttr]) (W.seq (W.run (by simp only[am,evOp,simprocAttr]<;>rfl) ?_))
  refine W.ret ⟨.bool false,(by simp only[rs,rf33,am,evOp,simprocAttr]<;>rfl),?_,Ext.refl⟩
  have:decide (0≤x∧x<(n:Int))=false:=decide_eq_false (by omega)
  simp only[readyM,this,Bool.false_and]
 have c1:decide (x<0)=false:=decide_eq_false q1
 by_cases q2:((n:Nat):Int)≤x
 ·have c2:decide (((n:Nat):Int)≤x)=true:=decide_eq_true q2
  refine W.seq (W.seq (W.reg (G.nocall 20 (by simp only[am,evOp,simprocAttr,initTm,c1,c2,rf1,rn]<;>rfl) rfl (by simp only[am,evOp,simprocAttr]) ?_)))
  refine G.run (by simp only[am,evOp,simprocAttr]<;>rfl) ?_
  refine W.yes (by simp only[am,evOp,simprocAttr]) (W.seq (W.run (by simp only[am,evOp,simprocAttr]<;>rfl) ?_))
  refine W.ret ⟨.bool false,(by simp only[rs,rf33,am,evOp,simprocAttr]<;>rfl),?_,Ext.refl⟩
  have:decide (0≤x∧x<(n:Int))=false:=decide_eq_false (by omega)
  simp only[readyM,this,Bool.false_and]
 have c2:decide (((n:Nat):Int)≤x)=false:=decide_eq_false q2
 have c3:decide (0≤x∧x<(n:Int))=true:=decide_eq_true (by omega)
 refine W.seq (W.seq (W.reg (G.gcall 20 (by simp only[am,evOp,simprocAttr,initTm,c1,c2,rf1,rf2,rn]<;>rfl) rfl (by simp only[am,evOp,simprocAttr,initTm,c1,c2,rf1,rf2,rn]) (by simp only[am,evOp,simprocAttr,initTm,c1,c2,rf1,rf2,rn]<;>rfl) (contI_ok (y:=x) sp (by omega)) fun r h1 hq=>?_)))
 obtain⟨rfl,x1⟩:=hq
 rw[any_mem]
 refine G.run (by simp only[am,evOp,simprocAttr]<;>rfl) ?_
 refine W.cond (t:=decide (x∈pl)) (by simp only[am,evOp,simprocAttr]) (fun q=>?_) fun q=>?_
 ·refine W.seq (W.run (by simp only[am,evOp,simprocAttr]<;>rfl) ?_)
  refine W.ret ⟨.bool false,(by simp only[rs,rf33,am,evOp,simprocAttr]<;>rfl),?_,x1⟩
  simp only[readyM,q,Bool.not_true,Bool.and_false,Bool.false_and]
 refine W.skip ?_
 have hred:readyM n es row pl x=(decide ((spanM x row).2.2=((insM es x).length:Nat))&&(decide ((insM es x).length=0)||bareM x ((row.drop (spanM x row).1.toNat).take ((spanM x row).2.1.toNat-(spanM x row).1.toNat)))):=by
  simp only[readyM,c3,q,Bool.not_false,Bool.true_and]
 rw[hred]
 have gf1:h1.get fb=some (.cells [iv,.ptr b 0,pv] 3 false):=by rw[x1.gt _ (AH.lt_of_get g)]; exact g
 have rg1:rdCells h1 fb 1 1=some [.ptr b 0]:=rd_at gf1 rfl
 refine W.seq (W.reg (G.gcall 5 (by simp only[am,evOp,simprocAttr,initTm,rg1]<;>rfl) rfl (by simp only[am,evOp,simprocAttr,initTm,rg1]) (by simp only[am,evOp,simprocAttr,initTm,rg1]<;>rfl) (ins_ok' (x:=x) (hv0.ext x1)) fun r h2 hq=>?_))
 obtain⟨i2,x2⟩:=hq
 have s2:SlI h2 r (insM es x):=IsSl.sl (by omega) (fun _=>rfl) i2
 have l2:=s2.len
 rw[List.length_map] at l2
 refine G.run (by simp only[am,evOp,simprocAttr,l2]<;>rfl) ?_
 have X2:=x1.trans (x2.mono x1.nx)
 have gf2:h2.get fb=some (.cells [iv,.ptr b 0,pv] 3 false):=by rw[X2.gt _ (AH.lt_of_get g)]; exact g
 refine W.seq (W.reg (G.gcall 4 (by simp only[am,evOp,simprocAttr,initTm]<;>rfl) rfl (by simp only[am,evOp,simprocAttr,initTm]) (by simp only[am,evOp,simprocAttr,initTm]<;>rfl) (span_ok (x:=x) gf2 (si.ext X2 (Nat.le_refl _)) hl) fun r h3 hq=>?_))
 obtain⟨rfl,x3⟩:=hq
 refine G.run (by simp only[am,evOp,simprocAttr]<;>rfl) ?_
 have X3:=X2.trans (x3.mono X2.nx)
 have gf3:h3.get fb=some (.cells [iv,.ptr b 0,pv] 3 false):=by rw[X3.gt _ (AH.lt_of_get g)]; exact g
 have sok:=spanM_ok x row
 by_cases q3:(spanM x row).2.2=((insM es x).length:Nat)
 case neg =>
  have d3:decide ((spanM x row).2.2=((insM es x).length:Nat))=false:=decide_eq_false q3
  refine W.seq (W.reg (G.nocall 13 (by simp only[am,evOp,simprocAttr,d3]<;>rfl) rfl (by simp only[am,evOp,simprocAttr]) ?_))
  refine G.run (by simp only[am,evOp,simprocAttr]<;>rfl) ?_
  exact W.ret ⟨.bool false,(by simp only[rs,rf33,am,evOp,simprocAttr]<;>rfl),by rw[d3,Bool.false_and],X3⟩
 have d3:decide ((spanM x row).2.2=((insM es x).length:Nat))=true:=decide_eq_true q3
 by_cases q4:(insM es x).length=0
 ·have d4:decide ((((insM es x).length:Nat):Int)=0)=true:=decide_eq_true (by omega)
  refine W.seq (W.reg (G.nocall 13 (by simp only[am,evOp,simprocAttr,d3,d4]<;>rfl) rfl (by simp only[am,evOp,simprocAttr]) ?_))
  refine G.run (by simp only[am,evOp,simprocAttr]<;>rfl) ?_
  exact W.ret ⟨.bool true,(by simp only[rs,rf33,am,evOp,simprocAttr]<;>rfl),by rw[d3,decide_eq_true q4]; rfl,X3⟩
 ·have d4:decide ((((insM es x).length:Nat):Int)=0)=false:=decide_eq_false (by omega)
  rcases sok with sok|sok
  ·omega
  obtain⟨lo,hlo⟩:∃ lo:Nat,(spanM x row).1=lo:=⟨(spanM x row).1.toNat,by omega⟩
  obtain⟨hi,hhi⟩:∃ hi:Nat,(spanM x row).2.1=hi:=⟨(spanM x row).2.1.toNat,by omega⟩
  rw[hlo,hhi]
  refine W.seq (W.reg (G.gcall 13 (by simp only[am,evOp,simprocAttr,initTm,d3,d4]<;>rfl) rfl (by simp only[am,evOp,simprocAttr,initTm,d3,d4]) (by simp only[am,evOp,simprocAttr,initTm,d3,d4]<;>rfl) (bare_ok' (x:=x) (lo:=lo) (hi:=hi) gf3 (si.ext X3 (Nat.le_refl _)) hl (by omega) (by omega)) fun r h4 hq=>?_))
  obtain⟨rfl,x4⟩:=hq
  refine G.run (by simp only[am,evOp,simprocAttr]<;>rfl) ?_
  exact W.ret ⟨_,(by simp only[rs,rf33,am,evOp,simprocAttr]<;>rfl),by rw[d3,decide_eq_false q4,Int.toNat_natCast,Int.toNat_natCast]; rfl,X3.trans (x4.mono X3.nx)⟩
end Go.Proofs.YtihedjolidbfiaaGreatDoor
namespace Go.Proofs.YtihedjolidbfiaaGreatDoor
open Go.Am
theorem nd_len {α:Type} [DecidableEq α]:∀ {l m:List α},l.Nodup→(∀ x∈l,x∈m)→l.length≤m.length
 | [],_,_,_=>Nat.zero_le _
 | a::l,m,hn,hs=>by
   have hm:=hs a (List.mem_cons_self ..)
   have hn':=List.nodup_cons.1 hn
   have:=nd_len (l:=l) (m:=m.erase a) hn'.2 fun x hx=>(List.mem_erase_of_ne (fun e:x=a=>hn'.1 (e▸hx))).2 (hs x (List.mem_cons_of_mem _ hx))
   rw[List.length_erase_of_mem hm] at this
   have:0<m.length:=List.length_pos_of_mem hm
   simp only[List.length_cons]
   omega
theorem endsAt_mem (p:Int×Int→Bool):∀ (es:List (Int×Int)) (i j:Nat) (e:Int×Int),es[j]?=some e→p e=true→((i+j:Nat):Int)∈endsAt p es i
 | [],i,j,e,h,_=>by simp at h
 | y::r,i,0,e,h,hp=>by
   simp only[List.getElem?_cons_zero,Option.some.injEq] at h
   subst h
   simp [endsAt,hp]
 | y::r,i,j+1,e,h,hp=>by
   simp only[List.getElem?_cons_succ] at h
   have:=endsAt_mem p r (i+1) j e h hp
   rw[show i+1+j=i+(j+1) by omega] at this
   unfold endsAt
   split
   ·exact List.mem_cons_of_mem _ this
   ·exact this
theorem endsAt_nodup (p:Int×Int→Bool):∀ (es:List (Int×Int)) (i:Nat),(endsAt p es i).Nodup
 | [],i=>List.nodup_nil
 | y::r,i=>by
   unfold endsAt
   split
   ·refine List.nodup_cons.2 ⟨fun h=>?_,endsAt_nodup p r (i+1)⟩
    obtain⟨j,hj,_⟩:=endsAt_range p r (i+1) _ h
    omega
   ·exact endsAt_nodup p r (i+1)
theorem mem_ins {es:List (Int×Int)}{y i:Int}:i∈insM es y↔∃ k:Nat,i=k∧∃ t,es[k]?=some (t,y):=by
 constructor
 ·intro h
  obtain⟨j,hj,_,e,he,hp⟩:=endsAt_range _ es 0 _ h
  rw[Nat.zero_add] at hj
  have:e.2=y:=of_decide_eq_true hp
  exact⟨j,hj,e.1,by rw[he,← this]⟩
 ·rintro⟨k,rfl,t,ht⟩
  have:=endsAt_mem (fun e=>decide (e.2=y)) es 0 k _ ht (by simp)
  rwa [Nat.zero_add] at this
theorem mem_outs {es:List (Int×Int)}{y i:Int}:i∈outsM es y↔∃ k:Nat,i=k∧∃ t,es[k]?=some (y,t):=by
 constructor
 ·intro h
  obtain⟨j,hj,_,e,he,hp⟩:=endsAt_range _ es 0 _ h
  rw[Nat.zero_add] at hj
  have:e.1=y:=of_decide_eq_true hp
  exact⟨j,hj,e.2,by rw[he,← this]⟩
 ·rintro⟨k,rfl,t,ht⟩
  have:=endsAt_mem (fun e=>decide (e.1=y)) es 0 k _ ht (by simp)
  rwa [Nat.zero_add] at this
def cntH (x:Int) (row:List It):Nat:=row.countP fun i=>decide (i.2.2=x)
structure Cut (x:Int) (row A X C:List It):Prop where
 eq:row=A++X++C
 na:∀ i∈A,i.2.2≠x
 nc:∀ i∈C,i.2.2≠x
 hd:∃ a X',X=a::X'∧a.2.2=x
 tl:∃ X' z,X=X'++[z]∧z.2.2=x
theorem cut_ex (x:Int):∀ row:List It,(∀ i∈row,i.2.2≠x)∨∃ A X C,Cut x row A X C
 | []=>.inl (by simp)
 | it::r=>by
   by_cases q:it.2.2=x
   ·refine .inr ?_
    rcases cut_ex x r with h|⟨A,X,C,c⟩
    ·exact⟨[],[it],r,by simp,by simp,h,⟨it,[],rfl,q⟩,⟨[],it,rfl,q⟩⟩
    ·obtain⟨X',z,hX,hz⟩:=c.tl
     refine⟨[],it::(A++X),C,by rw[c.eq]; simp,by simp,c.nc,⟨it,A++X,rfl,q⟩,⟨it::(A++X'),z,by rw[hX]; simp,hz⟩⟩
   ·rcases cut_ex x r with h|⟨A,X,C,c⟩
    ·refine .inl fun i hi=>?_
     rcases List.mem_cons.1 hi with rfl|hi
     ·exact q
     ·exact h i hi
    ·refine .inr ⟨it::A,X,C,by rw[c.eq]; simp,fun i hi=>?_,c.nc,c.hd,c.tl⟩
     rcases List.mem_cons.1 hi with rfl|hi
     ·exact q
     ·exact c.na i hi
theorem cntH_app (x:Int) (a b:List It):cntH x (a++b)=cntH x a+cntH x b:=List.countP_append
theorem cntH_none {x:Int}{a:List It} (h:∀ i∈a,i.2.2≠x):cntH x a=0:=by
 unfold cntH
 rw[List.countP_eq_zero]
 intro i hi
 simp [h i hi]
theorem Cut.cnt {x:Int}{row A X C:List It} (c:Cut x row A X C):cntH x row=cntH x X:=by
 rw[c.eq,cntH_app,cntH_app,cntH_none c.na,cntH_none c.nc]
 omega
theorem Cut.pos {x:Int}{row A X C:List It} (c:Cut x row A X C):0<cntH x X:=by
 obtain⟨a,X',h1,h2⟩:=c.hd
 rw[h1]
 unfold cntH
 rw[List.countP_cons]
 simp [h2]
theorem spanF_app (x:Int):∀ (a b:List It) (i:Nat) (s:Int×Int×Int),spanF x (a++b) i s=spanF x b (i+a.length) (spanF x a i s)
 | [],b,i,s=>rfl
 | it::r,b,i,s=>by
   rw[List.cons_append,spanF,spanF_app x r b (i+1),spanF,List.length_cons,show i+1+r.length=i+(r.length+1) by omega]
theorem spanF_none (x:Int):∀ (a:List It) (i:Nat) (s:Int×Int×Int),(∀ j∈a,j.2.2≠x)→spanF x a i s=s
 | [],i,s,_=>rfl
 | it::r,i,s,h=>by
   rw[spanF,if_neg (h it (List.mem_cons_self ..)),spanF_none x r _ _ fun j hj=>h j (List.mem_cons_of_mem _ hj)]
theorem spanF_cnt (x:Int):∀ (a:List It) (i:Nat) (s:Int×Int×Int),(spanF x a i s).2.2=s.2.2+(cntH x a:Nat)
 | [],i,s=>by simp [spanF,cntH]
 | it::r,i,s=>by
   rw[spanF,spanF_cnt x r]
   unfold cntH
   rw[List.countP_cons]
   by_cases q:it.2.2=x
   ·simp only[q,if_true,decide_true]
    omega
   ·simp only[q,if_false,decide_false]
    simp
theorem spanF_from (x:Int):∀ (a:List It) (i:Nat) (s:Int×Int×Int),s.1≠-1→(spanF x a i s).1=s.1
 | [],i,s,_=>rfl
 | it::r,i,s,h=>by
   rw[spanF]
   by_cases q:it.2.2=x
   ·rw[if_pos q,if_neg h]
    exact spanF_from x r _ _ h
   ·rw[if_neg q,spanF_from x r _ _ h]
theorem span_none {x:Int}{row:List It} (h:∀ i∈row,i.2.2≠x):spanM x row=(-1,0,0):=spanF_none x row 0 _ h
theorem Cut.span {x:Int}{row A X C:List It} (c:Cut x row A X C):spanM x row=(((A.length:Nat):Int),((A.length+X.length:Nat):Int),((cntH x X:Nat):Int)):=by
 unfold spanM
 rw[c.eq,List.append_assoc,spanF_app,spanF_none x A _ _ c.na,spanF_app,spanF_none x C _ _ c.nc,Nat.zero_add]
 obtain⟨a,X',h1,h2⟩:=c.hd
 obtain⟨X'',z,h3,h4⟩:=c.tl
 have p1:(spanF x X A.length (-1,0,0)).1=(A.length:Nat):=by
  rw[h1,spanF,if_pos h2,if_pos rfl,spanF_from]
  simp only
  omega
 have p2:(spanF x X A.length (-1,0,0)).2.1=(A.length+X.length:Nat):=by
  rw[h3,spanF_app,spanF,if_pos h4,List.length_append]
  rfl
 have p3:=spanF_cnt x X A.length (-1,0,0)
 simp only[Int.zero_add] at p3
 exact Prod.ext p1 (Prod.ext p2 p3)
def loM (x:Int) (row:List It):Nat:=(max (spanM x row).1 0).toNat
def goneM (x:Int) (row:List It):List It:=(row.drop (loM x row)).take ((spanM x row).2.1.toNat-loM x row)
def nextM (es:List (Int×Int)) (x:Int) (outs:List Int) (row:List It):List It:=row.take (loM x row)++aboveM es x outs++row.drop (spanM x row).2.1.toNat
theorem gone_none {x:Int}{row:List It} (h:∀ i∈row,i.2.2≠x):goneM x row=[]:=by
 unfold goneM loM
 rw[span_none h]
 simp
theorem next_none {es:List (Int×Int)}{x:Int}{outs:List Int}{row:List It} (h:∀ i∈row,i.2.2≠x):nextM es x outs row=aboveM es x outs++row:=by
 unfold nextM loM
 rw[span_none h]
 have:(max (-1:Int) 0).toNat=0:=by decide
 simp [this]
theorem Cut.lo {x:Int}{row A X C:List It} (c:Cut x row A X C):loM x row=A.length:=by
 unfold loM
 rw[c.span]
 simp only
 omega
theorem Cut.gone {x:Int}{row A X C:List It} (c:Cut x row A X C):goneM x row=X:=by
 unfold goneM
 rw[c.lo,c.span]
 simp only[Int.toNat_natCast]
 rw[c.eq,List.append_assoc,List.drop_left,Nat.add_sub_cancel_left,List.take_left]
theorem Cut.next {es:List (Int×Int)}{x:Int}{outs:List Int}{row A X C:List It} (c:Cut x row A X C):nextM es x outs row=A++aboveM es x outs++C:=by
 unfold nextM
 rw[c.lo,c.span]
 simp only[Int.toNat_natCast]
 rw[c.eq,← List.length_append,List.drop_left,List.append_assoc A X C,List.take_left]
def rdyM (es:List (Int×Int)) (row:List It) (x:Int):Bool:=decide ((spanM x row).2.2=((insM es x).length:Nat))&&(decide ((insM es x).length=0)||bareM x ((row.drop (spanM x row).1.toNat).take ((spanM x row).2.1.toNat-(spanM x row).1.toNat)))
theorem ready_rdy {n:Nat}{es:List (Int×Int)}{row:List It}{pl:List Int}{x:Int}:readyM n es row pl x=true↔(0≤x∧x<n)∧x∉pl∧rdyM es row x=true:=by
 unfold readyM rdyM
 rw[Bool.and_eq_true,Bool.and_eq_true,decide_eq_true_eq,Bool.not_eq_true',decide_eq_false_iff_not,and_assoc]
theorem bare_iff {x:Int}{X:List It}:bareM x X=true↔∀ i∈X,i.2.2=x∨i.2.2=-1:=by
 unfold bareM
 rw[Bool.not_eq_true',List.any_eq_false]
 refine forall_congr' fun i=>forall_congr' fun _=>?_
 rw[decide_eq_true_eq]
 omega
theorem rdy_iff {es:List (Int×Int)}{row:List It}{x:Int}:rdyM es row x=true↔((insM es x).length=0∧∀ i∈row,i.2.2≠x)∨∃ A X C,Cut x row A X C∧cntH x X=(insM es x).length∧∀ i∈X,i.2.2=x∨i.2.2=-1:=by
 rcases cut_ex x row with h|⟨A,X,C,c⟩
 ·unfold rdyM
  rw[span_none h]
  simp only
  constructor
  ·intro q
   rw[Bool.and_eq_true,decide_eq_true_eq] at q
   exact .inl ⟨by omega,h⟩
  ·rintro (⟨q,_⟩|⟨A,X,C,c,_⟩)
   ·rw[q]
    rfl
   ·obtain⟨a,X',h1,h2⟩:=c.hd
    exact absurd h2 (h a (by rw[c.eq,h1]; simp))
 ·have hp:=c.pos
  have hne:¬ ∀ i∈row,i.2.2≠x:=by
   obtain⟨a,X',h1,h2⟩:=c.hd
   exact fun h=>absurd h2 (h a (by rw[c.eq,h1]; simp))
  have key:rdyM es row x=true↔cntH x X=(insM es x).length∧∀ i∈X,i.2.2=x∨i.2.2=-1:=by
   unfold rdyM
   rw[c.span]
   simp only[Int.toNat_natCast,Nat.add_sub_cancel_left]
   rw[show (row.drop A.length).take X.length=X by rw[c.eq,List.append_assoc,List.drop_left,List.take_left],Bool.and_eq_true,Bool.or_eq_true,decide_eq_true_eq,decide_eq_true_eq,bare_iff]
   constructor
   ·rintro⟨h1,h2⟩
    have h1:cntH x X=(insM es x).length:=by omega
    exact⟨h1,h2.resolve_left (by omega)⟩
   ·rintro⟨h1,h2⟩
    exact⟨by omega,.inr h2⟩
  rw[key]
  constructor
  ·rintro⟨h1,h2⟩
   exact .inr ⟨A,X,C,c,h1,h2⟩
  ·rintro (⟨_,q⟩|⟨A',X',C',c',h1,h2⟩)
   ·exact absurd q hne
   ·have e:=c.gone
    rw[c'.gone] at e
    subst e
    exact⟨h1,h2⟩
structure Inv (n:Nat) (es:List (Int×Int)) (row:List It) (pl:List Int):Prop where
 it:∀ i∈row,(i.1=-1∧i.2.2=-1)∨∃ k:Nat,i.1=k∧es[k]?=some (i.2.1,i.2.2)∧i.2.1∈pl
 nd:((row.filter fun i=>decide (0≤i.1)).map (·.1)).Nodup
 src:(pl=[]∧row=[])∨∀ s:Nat,s<n→(insM es s).length=0→((s:Nat):Int)∈pl
theorem Inv.start {n:Nat}{es:List (Int×Int)}:Inv n es [] []:=⟨by simp,by simp,.inl ⟨rfl,rfl⟩⟩
def OutsOk (es:List (Int×Int)) (x:Int) (l:List Int):Prop:=l.Perm (outsM es x)
theorem OutsOk.mem {es:List (Int×Int)}{x:Int}{l:List Int} (h:OutsOk es x l) {i:Int}:i∈l↔i∈outsM es x:=h.mem_iff
theorem OutsOk.nodup {es:List (Int×Int)}{x:Int}{l:List Int} (h:OutsOk es x l):l.Nodup:=h.nodup_iff.2 (endsAt_nodup _ _ _)
theorem above_it {es:List (Int×Int)}{x:Int}{l:List Int} (h:OutsOk es x l) {i:It} (hi:i∈aboveM es x l):(i.1=-1∧i.2.2=-1)∨∃ k:Nat,i.1=k∧es[k]?=some (i.2.1,i.2.2)∧i.2.1=x∧i.1∈l:=by
 unfold aboveM at hi
 split at hi
 ·simp only[List.mem_cons,List.not_mem_nil,or_false] at hi
  subst hi
  exact .inl ⟨rfl,rfl⟩
 ·obtain⟨j,hj,rfl⟩:=List.mem_map.1 hi
  obtain⟨k,rfl,t,ht⟩:=mem_outs.1 (h.mem.1 hj)
  refine .inr ⟨k,rfl,?_,rfl,hj⟩
  simp only[Int.toNat_natCast,ht,Option.getD_some]
theorem above_edges {es:List (Int×Int)}{x:Int}{l:List Int} (h:OutsOk es x l):((aboveM es x l).filter fun i=>decide (0≤i.1)).map (·.1)=l:=by
 unfold aboveM
 split
 ·rename_i q
  subst q
  rfl
 ·rw[List.filter_eq_self.2,List.map_map]
  ·exact List.map_id' l
  ·intro i hi
   obtain⟨j,hj,rfl⟩:=List.mem_map.1 hi
   obtain⟨k,rfl,_⟩:=mem_outs.1 (h.mem.1 hj)
   simp
theorem parts (es:List (Int×Int)) (x:Int) (row:List It):∃ A X C,row=A++X++C∧goneM x row=X∧(∀ outs,nextM es x outs row=A++aboveM es x outs++C)∧((A=[]∧X=[]∧C=row∧∀ i∈row,i.2.2≠x)∨Cut x row A X C):=by
 rcases cut_ex x row with h|⟨A,X,C,c⟩
 ·exact⟨[],[],row,rfl,gone_none h,fun _=>by rw[next_none h]; rfl,.inl ⟨rfl,rfl,rfl,h⟩⟩
 ·exact⟨A,X,C,c.eq,c.gone,fun _=>c.next,.inr c⟩
theorem Inv.next {n:Nat}{es:List (Int×Int)}{row:List It}{pl:List Int}{x:Int}{l:List Int} (v:Inv n es row pl) (ho:OutsOk es x l) (hx:x∉pl) (hr:rdyM es row x=true) (hone:∀ a b:Nat,a<n→b<n→(insM es a).length=0→(insM es b).length=0→a=b) (hxn:0≤x∧x<n):Inv n es (nextM es x l row) (pl++[x]):=by
 obtain⟨A,X,C,e1,e2,e3,e4⟩:=parts es x row
 have sub:(A++C).Sublist row:=by
  rw[e1,List.append_assoc]
  exact (List.Sublist.refl A).append (List.sublist_append_right X C)
 have hmem:∀ i,i∈A++C→i∈row:=fun i hi=>sub.subset hi
 refine⟨fun i hi=>?_,?_,.inr fun s hs h0=>?_⟩
 ·rw[e3,List.mem_append,List.mem_append] at hi
  have old:i∈row→(i.1=-1∧i.2.2=-1)∨∃ k:Nat,i.1=k∧es[k]?=some (i.2.1,i.2.2)∧i.2.1∈pl++[x]:=fun hm=>by
   rcases v.it i hm with h|⟨k,h1,h2,h3⟩
   ·exact .inl h
   ·exact .inr ⟨k,h1,h2,List.mem_append_left _ h3⟩
  rcases hi with (hi|hi)|hi
  ·exact old (hmem i (List.mem_append_left _ hi))
  ·rcases above_it ho hi with h|⟨k,h1,h2,h3,_⟩
   ·exact .inl h
   ·exact .inr ⟨k,h1,h2,by rw[h3]; simp⟩
  ·exact old (hmem i (List.mem_append_right _ hi))
 ·rw[e3,List.filter_append,List.filter_append,List.map_append,List.map_append,above_edges ho]
  have nd1:(((A++C).filter fun i=>decide (0≤i.1)).map (·.1)).Nodup:=((sub.filter _).map _).nodup v.nd
  rw[List.filter_append,List.map_append,List.nodup_append] at nd1
  have dis:∀ i∈row,i.1∈l→False:=fun i hi hl=>by
   rcases v.it i hi with ⟨h,_⟩|⟨k,h1,h2,h3⟩
   ·obtain⟨k,hk,_⟩:=mem_outs.1 (ho.mem.1 hl)
    omega
   ·obtain⟨k',hk,t,ht⟩:=mem_outs.1 (ho.mem.1 hl)
    have:k'=k:=by omega
    subst this
    rw[h2] at ht
    simp only[Option.some.injEq,Prod.mk.injEq] at ht
    exact hx (ht.1▸h3)
  have disA:∀ z∈(A.filter fun i=>decide (0≤i.1)).map (·.1),z∈l→False:=fun z hz hl=>by
   obtain⟨i,hi,rfl⟩:=List.mem_map.1 hz
   exact dis i (hmem i (List.mem_append_left _ (List.mem_filter.1 hi).1)) hl
  have disC:∀ z∈(C.filter fun i=>decide (0≤i.1)).map (·.1),z∈l→False:=fun z hz hl=>by
   obtain⟨i,hi,rfl⟩:=List.mem_map.1 hz
   exact dis i (hmem i (List.mem_append_right _ (List.mem_filter.1 hi).1)) hl
  rw[List.nodup_append,List.nodup_append]
  refine⟨⟨nd1.1,ho.nodup,fun a ha b hb e=>disA a ha (e▸hb)⟩,nd1.2.1,fun a ha b hb e=>?_⟩
  rcases List.mem_append.1 ha with ha|ha
  ·exact nd1.2.2 a ha b hb e
  ·exact disC b hb (e▸ha)
 ·rcases v.src with ⟨h1,h2⟩|h
  ·subst h1 h2
   rcases rdy_iff.1 hr with ⟨q,_⟩|⟨A,X,C,c,_⟩
   ·obtain⟨m,rfl⟩:∃ m:Nat,x=m:=⟨x.toNat,by omega⟩
    have:=hone s m hs (by omega) h0 q
    subst this
    simp
   ·obtain⟨a,X',h1,_⟩:=c.hd
    have:=c.eq
    rw[h1] at this
    simp at this
  ·exact List.mem_append_left _ (h s hs h0)
theorem Inv.more {n:Nat}{es:List (Int×Int)}{row:List It}{pl:List Int}{x y:Int} (v:Inv n es row pl) (hx:x∉pl) (hy:0≤y) {k:Nat} (hk:es[k]?=some (x,y)):cntH y row<(insM es y).length:=by
 have h0:cntH y row=((row.filter fun i=>decide (i.2.2=y)).map (·.1)).length:=by
  rw[List.length_map,← List.countP_eq_length_filter]
  rfl
 have he:(row.filter fun i=>decide (i.2.2=y))=((row.filter fun i=>decide (0≤i.1)).filter fun i=>decide (i.2.2=y)):=by
  rw[List.filter_filter]
  refine List.filter_congr fun i hi=>?_
  rcases v.it i hi with ⟨_,h⟩|⟨k,h1,_⟩
  ·have:¬ i.2.2=y:=by omega
   simp [this]
  ·have:0≤i.1:=by omega
   simp [this]
 have nd:((row.filter fun i=>decide (i.2.2=y)).map (·.1)).Nodup:=by
  rw[he]
  exact (List.filter_sublist.map _).nodup v.nd
 have hm:∀ z∈(row.filter fun i=>decide (i.2.2=y)).map (·.1),z∈insM es y∧z≠(k:Nat):=fun z hz=>by
  obtain⟨i,hi,rfl⟩:=List.mem_map.1 hz
  obtain⟨hi,hq⟩:=List.mem_filter.1 hi
  have hq:i.2.2=y:=of_decide_eq_true hq
  rcases v.it i hi with ⟨_,h⟩|⟨j,h1,h2,h3⟩
  ·omega
  ·refine⟨mem_ins.2 ⟨j,h1,i.2.1,by rw[h2,hq]⟩,fun e=>?_⟩
   have:j=k:=by omega
   subst this
   rw[h2] at hk
   simp only[Option.some.injEq,Prod.mk.injEq] at hk
   exact hx (hk.1▸h3)
 have:=nd_len (l:=((k:Nat):Int)::(row.filter fun i=>decide (i.2.2=y)).map (·.1)) (m:=insM es y) (List.nodup_cons.2 ⟨fun h=>(hm _ h).2 rfl,nd⟩) (fun z hz=>by
  rcases List.mem_cons.1 hz with rfl|hz
  ·exact mem_ins.2 ⟨k,rfl,x,hk⟩
  ·exact (hm z hz).1)
 simp only[List.length_cons] at this
 omega
theorem Inv.apart {n:Nat}{es:List (Int×Int)}{row A X C:List It}{pl:List Int}{x y:Int}{l:List Int} (v:Inv n es row pl) (ho:OutsOk es x l) (hx:x∉pl) (hy:0≤y) (c:Cut y row A X C) (hn:cntH y X=(insM es y).length):∀ i∈aboveM es x l,i.2.2≠y:=by
 intro i hi e
 rcases above_it ho hi with ⟨_,h⟩|⟨k,h1,h2,h3,_⟩
 ·omega
 ·rw[h3,e] at h2
  have:=v.more hx hy h2
  rw[c.cnt] at this
  omega
theorem two_cuts {x y:Int}{row A X C A' Y C':List It} (c1:Cut x row A X C) (c2:Cut y row A' Y C') (hxy:x≠y) (hx:0≤x) (hy:0≤y) (bx:∀ i∈X,i.2.2=x∨i.2.2=-1) (by_:∀ i∈Y,i.2.2=y∨i.2.2=-1) :
 (∃ Q,A'=A++X++Q∧C=Q++Y++C')∨(∃ Q,A=A'++Y++Q∧C'=Q++X++C):=by
 have key:∀ {x y:Int}{X C Y C' a:List It},x≠y→0≤y→(∃ b Y',Y=b::Y'∧b.2.2=y)→(∀ i∈X,i.2.2=x∨i.2.2=-1)→X++C=a++(Y++C')→∃ Q,a=X++Q∧C=Q++Y++C':=by
  intro x y X C Y C' a hxy hy hd bx e
  rcases List.append_eq_append_iff.1 e with ⟨a',h1,h2⟩|⟨c',h1,h2⟩
  ·exact⟨a',h1,by rw[h2,List.append_assoc]⟩
  ·cases c' with
   | nil=>exact⟨[],by rw[h1]; simp,by simpa using h2.symm⟩
   | cons z c' =>
     obtain⟨b,Y',hb,hby⟩:=hd
     rw[hb] at h2
     simp only[List.cons_append,List.cons.injEq] at h2
     have:=bx z (by rw[h1]; simp)
     rw[← h2.1,hby] at this
     omega
 have e:A++(X++C)=A'++(Y++C'):=by rw[← List.append_assoc,← List.append_assoc,← c1.eq,← c2.eq]
 rcases List.append_eq_append_iff.1 e with ⟨a',h1,h2⟩|⟨c',h1,h2⟩
 ·obtain⟨Q,q1,q2⟩:=key hxy hy c2.hd bx h2
  exact .inl ⟨Q,by rw[h1,q1,List.append_assoc],q2⟩
 ·obtain⟨Q,q1,q2⟩:=key (Ne.symm hxy) hx c1.hd by_ h2
  exact .inr ⟨Q,by rw[h1,q1,List.append_assoc],q2⟩
def Runs (es:List (Int×Int)) (outs:Int→List Int) (E:Int→List It):List Int→List It→Prop
 | [],_=>True
 | x::q,row=>rdyM es row x=true∧E x=goneM x row∧Runs es outs E q (nextM es x (outs x) row)
theorem diamond {n:Nat}{es:List (Int×Int)}{row:List It}{pl:List Int}{x y:Int}{lx ly:List Int} (v:Inv n es row pl) (hone:∀ a b:Nat,a<n→b<n→(insM es a).length=0→(insM es b).length=0→a=b)
 (hxy:x≠y) (hx:0≤x∧x<n) (hy:0≤y∧y<n) (hxp:x∉pl) (hyp:y∉pl) (ox:OutsOk es x lx) (oy:OutsOk es y ly) (rx:rdyM es row x=true) (ry:rdyM es row y=true) :
 rdyM es (nextM es y ly row) x=true∧goneM x (nextM es y ly row)=goneM x row∧nextM es x lx (nextM es y ly row)=nextM es y ly (nextM es x lx row):=by
 have none:∀ {z w:Int},z≠w→0≤z∧z<n→0≤w∧w<n→z∉pl→w∉pl→rdyM es row w=true→(insM es z).length=0→False:=by
  intro z w hzw hz hw hzp hwp rw_ h0
  obtain⟨m,rfl⟩:∃ m:Nat,z=m:=⟨z.toNat,by omega⟩
  rcases v.src with ⟨h1,h2⟩|h
  ·subst h1 h2
   rcases rdy_iff.1 rw_ with ⟨q,_⟩|⟨A,X,C,c,_⟩
   ·obtain⟨m',rfl⟩:∃ m:Nat,w=m:=⟨w.toNat,by omega⟩
    exact hzw (by rw[hone m m' (by omega) (by omega) h0 q])
   ·obtain⟨a,X',h1,_⟩:=c.hd
    have:=c.eq
    rw[h1] at this
    simp at this
  ·exact hzp (h m (by omega) h0)
 rcases rdy_iff.1 rx with ⟨q,_⟩|⟨A,X,C,c1,n1,b1⟩
 ·exact (none hxy hx hy hxp hyp ry q).elim
 rcases rdy_iff.1 ry with ⟨q,_⟩|⟨A',Y,C',c2,n2,b2⟩
 ·exact (none (Ne.symm hxy) hy hx hyp hxp rx q).elim
 have ax:=v.apart ox hxp hy.1 c2 n2
 have ay:=v.apart oy hyp hx.1 c1 n1
 rw[c1.gone,c1.next,c2.next]
 have app3:∀ {p:It→Prop}{a b c:List It},(∀ i∈a,p i)→(∀ i∈b,p i)→(∀ i∈c,p i)→∀ i∈a++b++c,p i:=by
  intro p a b c h1 h2 h3 i hi
  rcases List.mem_append.1 hi with hi|hi
  ·rcases List.mem_append.1 hi with hi|hi
   ·exact h1 i hi
   ·exact h2 i hi
  ·exact h3 i hi
 rcases two_cuts c1 c2 hxy hx.1 hy.1 b1 b2 with ⟨Q,rfl,rfl⟩|⟨Q,rfl,rfl⟩
 ·have d1:Cut x (A++X++Q++aboveM es y ly++C') A X (Q++aboveM es y ly++C') :=
   ⟨by simp [List.append_assoc],c1.na,app3 (fun i hi=>c1.nc i (by simp [hi])) ay (fun i hi=>c1.nc i (by simp [hi])),c1.hd,c1.tl⟩
  have d2:Cut y (A++aboveM es x lx++(Q++Y++C')) (A++aboveM es x lx++Q) Y C' :=
   ⟨by simp [List.append_assoc],app3 (fun i hi=>c2.na i (by simp [hi])) ax (fun i hi=>c2.na i (by simp [hi])),c2.nc,c2.hd,c2.tl⟩
  refine⟨rdy_iff.2 (.inr ⟨_,_,_,d1,n1,b1⟩),d1.gone,?_⟩
  rw[d1.next,d2.next]
  simp [List.append_assoc]
 ·have d1:Cut x (A'++aboveM es y ly++(Q++X++C)) (A'++aboveM es y ly++Q) X C :=
   ⟨by simp [List.append_assoc],app3 (fun i hi=>c1.na i (by simp [hi])) ay (fun i hi=>c1.na i (by simp [hi])),c1.nc,c1.hd,c1.tl⟩
  have d2:Cut y (A'++Y++Q++aboveM es x lx++C) A' Y (Q++aboveM es x lx++C) :=
   ⟨by simp [List.append_assoc],c2.na,app3 (fun i hi=>c2.nc i (by simp [hi])) ax (fun i hi=>c2.nc i (by simp [hi])),c2.hd,c2.tl⟩
  refine⟨rdy_iff.2 (.inr ⟨_,_,_,d1,n1,b1⟩),d1.gone,?_⟩
  rw[d1.next,d2.next]
  simp [List.append_assoc]
theorem exch {n:Nat}{es:List (Int×Int)}{outs:Int→List Int}{E:Int→List It} (hone:∀ a b:Nat,a<n→b<n→(insM es a).length=0→(insM es b).length=0→a=b) (hout:∀ x:Int,0≤x∧x<n→OutsOk es x (outs x)) :
 ∀ (q:List Int) (row:List It) (pl:List Int),Inv n es row pl→q.Nodup→(∀ z∈q,z∉pl∧0≤z∧z<n)→Runs es outs E q row→∀ x∈q,rdyM es row x=true→E x=goneM x row∧Runs es outs E (q.erase x) (nextM es x (outs x) row)
 | [],_,_,_,_,_,_,x,hx,_=>by simp at hx
 | y::q,row,pl,v,hn,hq,⟨r1,r2,r3⟩,x,hx,rx=>by
   by_cases e:y=x
   ·subst e
    rw[List.erase_cons_head]
    exact⟨r2,r3⟩
   ·have hxq:x∈q:=by
     rcases List.mem_cons.1 hx with h|h
     ·exact absurd h.symm e
     ·exact h
    obtain⟨hyp,hy⟩:=hq y (List.mem_cons_self ..)
    obtain⟨hxp,hxx⟩:=hq x hx
    obtain⟨d1,d2,d3⟩:=diamond v hone (Ne.symm e) hxx hy hxp hyp (hout x hxx) (hout y hy) rx r1
    obtain⟨e1,e2,e3⟩:=diamond v hone e hy hxx hyp hxp (hout y hy) (hout x hxx) r1 rx
    have hn':=List.nodup_cons.1 hn
    obtain⟨f1,f2⟩:=exch hone hout q (nextM es y (outs y) row) (pl++[y]) (v.next (hout y hy) hyp r1 hone hy) hn'.2 (fun z hz=>by
     obtain⟨g1,g2⟩:=hq z (List.mem_cons_of_mem _ hz)
     refine⟨fun h=>?_,g2⟩
     rcases List.mem_append.1 h with h|h
     ·exact g1 h
     ·simp only[List.mem_cons,List.not_mem_nil,or_false] at h
      exact hn'.1 (h▸hz)) r3 x hxq d1
    refine⟨by rw[f1,d2],?_⟩
    rw[List.erase_cons_tail (by simpa using e)]
    exact⟨e1,by rw[r2,e2],by rw[← d3]; exact f2⟩
def runM (n:Nat) (es:List (Int×Int)) (outs:List (List Int)):List Int→List Int→List It→List (List It)→Nat→(List (List It)×List It) ⊕ Nat
 | [],_,row,ends,_=>.inl (ends,row)
 | x::q,pl,row,ends,i=>if readyM n es row pl x then runM n es outs q (pl++[x]) (nextM es x (outs.getD x.toNat []) row) (ends.set x.toNat (goneM x row)) (i+1) else .inr i
theorem runM_runs {n:Nat}{es:List (Int×Int)}{outs:List (List Int)}:∀ (q pl:List Int) (row:List It) (ends ends':List (List It)) (row':List It) (i:Nat),q.Nodup→ends.length=n→runM n es outs q pl row ends i=.inl (ends',row') →
 ends'.length=n∧(∀ y:Nat,((y:Nat):Int)∉q→ends'[y]?=ends[y]?)∧(∀ z∈q,z∉pl∧0≤z∧z<n)∧Runs es (fun x=>outs.getD x.toNat []) (fun x=>ends'.getD x.toNat []) q row
 | [],pl,row,ends,ends',row',i,_,hl,h=>by
   simp only[runM,Sum.inl.injEq,Prod.mk.injEq] at h
   obtain⟨rfl,rfl⟩:=h
   exact⟨hl,fun _ _=>rfl,by simp,trivial⟩
 | x::q,pl,row,ends,ends',row',i,hn,hl,h=>by
   unfold runM at h
   by_cases q1:readyM n es row pl x=true
   ·rw[if_pos q1] at h
    obtain⟨h1,h2,h3⟩:=ready_rdy.1 q1
    have hn':=List.nodup_cons.1 hn
    obtain⟨a1,a2,a3,a4⟩:=runM_runs q _ _ _ _ _ _ hn'.2 (by rw[List.length_set]; exact hl) h
    obtain⟨m,rfl⟩:∃ m:Nat,x=m:=⟨x.toNat,by omega⟩
    rw[Int.toNat_natCast] at a2
    refine⟨a1,fun y hy=>?_,fun z hz=>?_,h3,?_,a4⟩
    ·rw[a2 y (fun h=>hy (List.mem_cons_of_mem _ h)),List.getElem?_set_ne]
     rintro rfl
     exact hy (List.mem_cons_self ..)
    ·rcases List.mem_cons.1 hz with rfl|hz
     ·exact⟨h2,h1⟩
     ·exact⟨fun h=>(a3 z hz).1 (List.mem_append_left _ h),(a3 z hz).2⟩
    ·show ends'.getD (Int.toNat (m:Int)) []=_
     rw[Int.toNat_natCast,List.getD_eq_getElem?_getD,a2 m hn'.1,List.getElem?_set_self (by omega)]
     rfl
   ·rw[if_neg q1] at h
    cases h
end Go.Proofs.YtihedjolidbfiaaGreatDoor
namespace Go.Proofs.YtihedjolidbfiaaGreatDoor
open Go.Am
theorem G.gcallc {P:RP}{b:Nat}{l l2:List ROper}{s:Option (Tm×AH)}{K:Tm→AH→Prop}{ts:Tm}{h:AH}{d:Option Nat}{f:FuncId}{args:List RO}{g:Option (Nat×Bool)}{nm:Option Nat}{cs:List (Nat×ROp×Option (Nat×Bool))}{vs:List AV}{Q:AV→AH→Prop} (n:Nat)
 (hs:stps b (l.take n) s=some (ts,h)) (hd:l.drop n=⟨d,.call f args,g,nm,cs⟩::l2) (hw:wanted ts g=some true) (ha:args.map (RO.ev ts)=vs) (hc:C P f vs h Q)
 (hk:∀ v h',Q v h'→chks (dput ts d v) h' cs=true∧G P b l2 (some (dput ts d v,h')) K):G P b l s K:=by
 subst ha
 rw[← List.take_append_drop n l]
 refine G.ops ?_
 rw[hs,hd]
 exact G.callc hw (hc.mono hk)
theorem isort_perm (xs:List Int):(isort xs).Perm xs:=List.mergeSort_perm _ _
theorem next_len {es:List (Int×Int)}{x:Int}{outs:List Int}{row:List It}:(nextM es x outs row).length≤row.length+outs.length+1:=by
 obtain⟨A,X,C,e1,_,e3,_⟩:=parts es x row
 rw[e3,e1]
 simp only[List.length_append]
 have:(aboveM es x outs).length≤outs.length+1:=by
  unfold aboveM
  split
  ·simp
  ·simp
 omega
theorem fplace_ok {h:AH}{fb pb n:Nat}{es:List (Int×Int)}{row:List It}{pl outs:List Int}{x:Int}{ov:AV} (hf:IsFront h fb pb n es row pl) (ho:SlI h ov outs) (hov:∀ b o m c,ov=.sl b o m c→b≠fb∧b≠pb) (hl:row.length<2 ^ 29) (hl2:pl.length<2 ^ 29) (hl3:outs.length<2 ^ 29) :
 C prg 15 [.ptr fb 0,.int .i64 x,ov] h fun r h' =>
   if readyM n es row pl x=true then
    if isort outs=outsM es x then ∃ g pb',r=.tup [g,.int .i64 0]∧IsSl h' 3 h.next g ((goneM x row).flatMap eT)∧IsFront h' fb pb' n es (nextM es x outs row) (pl++[x])∧h.next≤pb'∧Kp (fun c=>c=fb∨c=pb) h h'
    else r=.tup [.nils,.int .i64 1]∧Ext h.next h h'
   else r=.tup [.nils,.int .i64 3]∧Ext h.next h h':=by
 refine C.func pf15 ?_
 refine W.seq (W.run (by simp only[am,evOp,simprocAttr,initTm]<;>rfl) ?_)
 refine W.seq (W.seq (W.reg (G.gcall 2 (by simp only[am,evOp,simprocAttr,initTm]<;>rfl) rfl (by simp only[am,evOp,simprocAttr,initTm]) (by simp only[am,evOp,simprocAttr,initTm]<;>rfl) (ready_ok (x:=x) hf (by omega) (by omega)) fun r h1 hq=>?_)))
 obtain⟨rfl,x1⟩:=hq
 refine G.run (by simp only[am,evOp,simprocAttr]<;>rfl) ?_
 have hf1:=hf.ext x1
 obtain⟨iv,vp,pv,hV,g,si,so,vv,vx,v1,v2,v3,pp⟩:=hf1
 have hv:=vv.at vx
 have hfb:=AH.lt_of_get g
 have hlow:fb<h.next∧pb<h.next:=by
  obtain⟨iv,vp,pv,hV,g,si,so,vv,vx,v1,v2,v3,pp⟩:=hf
  exact⟨AH.lt_of_get g,v3⟩
 refine W.cond (t:=!readyM n es row pl x) (by simp only[am,evOp,simprocAttr]) (fun q=>?_) fun q=>?_
 ·have q:readyM n es row pl x=false:=by simpa using q
  refine W.seq (W.run (by simp only[am,evOp,simprocAttr]<;>rfl) ?_)
  refine W.ret ⟨.tup [.nils,.int .i64 3],(by simp only[rs,rf15,am,evOp,simprocAttr]<;>rfl),?_⟩
  rw[if_neg (by simp [q])]
  exact⟨rfl,x1⟩
 have q:readyM n es row pl x=true:=by simpa using q
 refine W.skip ?_
 have ho1:=ho.ext x1 (Nat.le_refl _)
 have r1:rdCells h1 fb 1 1=some [vp]:=rd_at g rfl
 obtain⟨vb,hvb⟩:∃ vb,vp=.ptr vb 0:=by obtain⟨b,_,_,_,_,_,hb,_⟩:=hv; exact⟨b,hb⟩
 subst hvb
 refine W.seq (W.seq (W.reg (G.gcallc 6 (by simp only[am,evOp,simprocAttr,initTm,r1]<;>rfl) rfl (by simp only[am,evOp,simprocAttr,initTm,r1]) (by simp only[am,evOp,simprocAttr,initTm,r1]<;>rfl) (values_ok ho1.cells.1) fun r h2 hq=>?_)))
 obtain⟨rfl,hh2⟩:=hq
 have x2:Ext h1.next h1 h2:=by rw[hh2]; exact Ext.new (Nat.le_refl _)
 have n2:h2.next=h1.next+1:=by rw[hh2]; rfl
 have g2:h2.get h1.next=some (.cells [ov] 1 false):=by rw[hh2,AH.get_new,if_pos rfl]
 have r2:rdCells h2 fb 1 1=some [.ptr vb 0]:=by rw[rdCells_eq (x2.gt _ hfb)]; exact r1
 refine⟨by simp only[am,evOp,simprocAttr,r2],?_⟩
 refine G.gcallc 0 (by simp only[am,evOp,simprocAttr]<;>rfl) rfl (by simp only[am,evOp,simprocAttr]) (by simp only[am,evOp,simprocAttr]<;>rfl) (sorted_ok (rd_at g2 rfl) (ho1.ext x2 (Nat.le_refl _)) (by omega) (by omega)) fun r h3 hq=>?_
 obtain⟨i3,x3⟩:=hq
 have X3:=x2.trans (x3.mono x2.nx)
 have r3:rdCells h3 fb 1 1=some [.ptr vb 0]:=by rw[rdCells_eq (X3.gt _ hfb)]; exact r1
 refine⟨by simp only[am,evOp,simprocAttr,r3],?_⟩
 have hv3:=hv.ext X3
 refine G.callq (by simp only[am,evOp,simprocAttr]) (by simp only[am,evOp,simprocAttr]<;>rfl) (outs_ok (x:=x) hv3) fun r4 h4 hq=>?_
 obtain⟨i4,x4⟩:=hq
 have lo:=ho.len
 have s3':SlI h3 r (isort outs):=IsSl.sl (by omega) (fun _=>rfl) i3
 have s3:=s3'.ext x4 (Nat.le_refl _)
 have s4:SlI h4 r4 (outsM es x):=IsSl.sl (by omega) (fun _=>rfl) i4
 have X4:=X3.trans (x4.mono X3.nx)
 have hol:(outsM es x).length≤128:=by
  obtain⟨_,_,_,_,_,_,_,_,_,_,_,_,_,_,_,_,_,hm,_⟩:=hv
  exact Nat.le_trans (endsAt_len _ _ _) hm
 refine G.callq (by simp only[am,evOp,simprocAttr]) (by simp only[am,evOp,simprocAttr]<;>rfl) (equalI_ok s3 s4 (by rw[isort_len]; omega) (by omega)) fun r5 h5 hq=>?_
 obtain⟨rfl,e5⟩:=hq
 subst e5
 refine G.run (by simp only[am,evOp,simprocAttr]<;>rfl) ?_
 have XX4:=x1.trans (X4.mono x1.nx)
 refine W.cond (t:=!(isort outs==outsM es x)) (by simp only[am,evOp,simprocAttr]) (fun q2=>?_) fun q2=>?_
 ·have q2:¬ isort outs=outsM es x:=by simpa using q2
  refine W.seq (W.run (by simp only[am,evOp,simprocAttr]<;>rfl) ?_)
  refine W.ret ⟨.tup [.nils,.int .i64 1],(by simp only[rs,rf15,am,evOp,simprocAttr]<;>rfl),?_⟩
  rw[if_pos q,if_neg q2]
  exact⟨rfl,XX4⟩
 have q2:isort outs=outsM es x:=by simpa using q2
 refine W.skip ?_
 have g4:h5.get fb=some (.cells [iv,.ptr vb 0,pv] 3 false):=by rw[X4.gt _ hfb]; exact g
 have si4:=si.ext X4 (Nat.le_refl _)
 refine W.seq (W.reg (G.gcall 4 (by simp only[am,evOp,simprocAttr,initTm]<;>rfl) rfl (by simp only[am,evOp,simprocAttr,initTm]) (by simp only[am,evOp,simprocAttr,initTm]<;>rfl) (span_ok (x:=x) g4 si4 (by omega)) fun r6 h6 hq=>?_))
 obtain⟨rfl,x6⟩:=hq
 refine G.run (by simp only[am,evOp,simprocAttr]<;>rfl) ?_
 have X6:=X4.trans (x6.mono X4.nx)
 have XX6:=x1.trans (X6.mono x1.nx)
 have g6:h6.get fb=some (.cells [iv,.ptr vb 0,pv] 3 false):=by rw[X6.gt _ hfb]; exact g
 have nx6:=XX6.nx
 have pI:IsSl h6 1 0 pv (pl.flatMap eI):=by
  rcases pp with ⟨rfl,rfl,_⟩|⟨m,rfl,p2,rfl,_⟩
  ·exact .inl ⟨rfl,rfl⟩
  ·exact .inr ⟨pb,_,Nat.zero_le _,rfl,by rw[X6.gt _ v3]; exact p2,by rw[len_cI,Nat.mul_one]⟩
 have pb6:∀ b m,pv=.sl b 0 m m→b=pb:=fun b m hb=>by
  rcases pp with ⟨rfl,_,_⟩|⟨m',rfl,_,_,_⟩
  ·cases hb
  ·cases hb; rfl
 have pbf:∀ b m,pv=.sl b 0 m m→b≠fb:=fun b m hb=>by
  rcases pp with ⟨rfl,_,_⟩|⟨m',rfl,_,_,hne⟩
  ·cases hb
  ·cases hb; exact hne
 have x7:Ext h6.next h6 (h6.new (.cells [.int .i64 x] 1 false)):=Ext.new (Nat.le_refl _)
 have g7:(h6.new (.cells [.int .i64 x] 1 false)).get h6.next=some (.cells [.int .i64 x] 1 false):=by rw[AH.get_new,if_pos rfl]
 have n7:(h6.new (.cells [.int .i64 x] 1 false)).next=h6.next+1:=rfl
 have r6:rdCells (h6.new (.cells [.int .i64 x] 1 false)) fb 2 1=some [pv]:=by rw[rdCells_eq (x7.gt _ (AH.lt_of_get g6))]; exact rd_at g6 rfl
 have r6':rdCells h6 fb 2 1=some [pv]:=rd_at g6 rfl
 obtain⟨pv',h8,a8,i8,x8,hpv',n8,k8,t8⟩:=(pI.ext x7 (Nat.le_refl _)).app (bytes:=8) (x:=h6.next) (new:=[.int .i64 x]) (Nat.zero_le _) (by omega) g7 (Nat.zero_le _) (fun b m hb=>by have:=pb6 b m hb; omega) rfl rfl
  (by rw[len_cI]; unfold tooMany; omega) (by rw[len_cI]; unfold tooMany; omega)
 rw[n7] at hpv' n8
 rw[len_cI,Nat.div_one] at hpv'
 have g8:h8.get fb=some (.cells [iv,.ptr vb 0,pv] 3 false):=by rw[k8 fb (by omega) (fun b m hb=>(pbf b m hb).symm),x7.gt _ (AH.lt_of_get g6)]; exact g6
 have w8:wrCells h8 fb 2 [pv']=some (h8.put fb (.cells [iv,.ptr vb 0,pv'] 3 false)):=by rw[wrCells_of g8]; rfl
 obtain⟨pc,po⟩:=i8.cells
 refine W.seq (W.run (by simp only[am,evOp,simprocAttr,initTm,r6',a8,pc,po,w8]<;>rfl) ?_)
 have u9:=Upd.put (o:=.cells [iv,.ptr vb 0,pv'] 3 false) g8
 have n9:(h8.put fb (.cells [iv,.ptr vb 0,pv'] 3 false)).next=h8.next:=rfl
 have K9:Kp (fun c=>c=fb∨c=pb) h1 (h8.put fb (.cells [iv,.ptr vb 0,pv'] 3 false)):=by
  refine⟨by have:=X6.nx; omega,fun c hc hn=>?_,fun c hc=>?_⟩
  ·have:=X6.nx
   rw[u9.ne (fun e=>hn (.inl e)),k8 c (by omega) (fun b m hb e=>hn (.inr (e.trans (pb6 b m hb)))),x7.gt _ (by omega),X6.gt _ hc]
  ·rw[u9.ty,t8]
   have:=X6.nx
   rw[x7.ty _ (by omega),X6.ty _ hc]
 generalize h8.put fb (.cells [iv,.ptr vb 0,pv'] 3 false)=h9 at *
 have ho9:SlI h9 ov outs:=ho1.cong fun b o m c hb=>K9.gt _ (ho1.lt hb) fun hn=>by
  obtain⟨e1,e2⟩:=hov b o m c hb
  rcases hn with hn|hn
  ·exact e1 hn
  ·exact e2 hn
 have si9:SlT h9 iv row:=si.cong fun b o m c hb=>K9.gt _ (si.lt hb) fun hn=>by
  obtain⟨e1,e2⟩:=so b o m c hb
  rcases hn with hn|hn
  ·exact e1 hn
  ·exact e2 hn
 have xV9:Ext hV.next hV h9:=by
  refine⟨Nat.le_trans vx.nx K9.nx,fun c hc=>?_,fun c hc=>?_⟩
  ·rw[K9.gt c (Nat.lt_of_lt_of_le hc vx.nx) (by rintro (e|e)<;>omega),vx.gt _ hc]
  ·rw[K9.ty c (Nat.lt_of_lt_of_le hc vx.nx),vx.ty _ hc]
 have hv9:=vv.at xV9
 have hr9:∀ i∈outs,0≤i∧i<es.length:=fun i hi=>by
  have:i∈outsM es x:=by rw[← q2]; exact (isort_perm outs).mem_iff.2 hi
  obtain⟨k,rfl,t,ht⟩:=mem_outs.1 this
  have:=(List.getElem?_eq_some_iff.1 ht).1
  omega
 have sok:=spanM_ok x row
 have elo:(if (spanM x row).1<0 then (0:Int) else (spanM x row).1)=((loM x row:Nat):Int):=by
  unfold loM
  split<;>omega
 obtain⟨hi,hhi⟩:∃ hi:Nat,(spanM x row).2.1=hi:=⟨(spanM x row).2.1.toNat,by omega⟩
 have hlo:loM x row≤hi∧hi≤row.length:=by unfold loM; omega
 refine W.seq (W.reg (G.gcall 9 (by simp only[am,evOp,simprocAttr,initTm,mx2,elo,hhi]<;>rfl) rfl (by simp only[am,evOp,simprocAttr,initTm,mx2,elo,hhi]) (by simp only[am,evOp,simprocAttr,initTm,mx2,elo,hhi]<;>rfl) (above_ok (x:=x) u9.get hv9 ho9 hr9 (by omega)) fun w h10 hq=>?_))
 obtain⟨i10,x10⟩:=hq
 have s10:SlT h10 w (aboveM es x outs):=IsSl.sl (by omega) (fun _=>rfl) i10
 have g10:h10.get fb=some (.cells [iv,.ptr vb 0,pv'] 3 false):=by rw[x10.gt _ (AH.lt_of_get u9.get)]; exact u9.get
 have hal:(aboveM es x outs).length≤outs.length+1:=by
  unfold aboveM
  split
  ·simp
  ·simp
 refine G.callq (by simp only[am,evOp,simprocAttr]) (by simp only[am,evOp,simprocAttr]<;>rfl) (swap_ok g10 (si9.ext x10 (Nat.le_refl _)) s10 hlo.1 hlo.2 (by omega) (by omega)) fun gv h11 hq=>?_
 obtain⟨i11,iv',g11,si11,K11⟩:=hq
 refine G.run (by simp only[am,evOp,simprocAttr]<;>rfl) ?_
 have n10:=x10.nx
 have n11:=K11.nx
 have KK:Kp (fun c=>c=fb∨c=pb) h1 h11:=K9.trans ((x10.kp (S:=fun c=>c=fb∨c=pb) (Nat.le_refl _)).trans (K11.mono fun c _ e=>.inl e) (fun _ _ e=>e)) (fun _ _ e=>e)
 have hout:nextM es x outs row=row.take (loM x row)++aboveM es x outs++row.drop hi:=by unfold nextM; rw[hhi]; rfl
 have hgone:goneM x row=(row.drop (loM x row)).take (hi-loM x row):=by unfold goneM; rw[hhi]; rfl
 have nx1:=x1.nx
 have X6n:=X6.nx
 refine W.ret ⟨.tup [gv,.int .i64 0],(by simp only[rs,rf15,am,evOp,simprocAttr]<;>rfl),?_⟩
 rw[if_pos q,if_pos q2]
 refine⟨gv,h6.next+1,rfl,?_,?_,by omega,(x1.kp (Nat.le_refl _)).trans KK fun _ _ e=>e⟩
 ·rw[hgone]
  exact i11.mono (by omega)
 ·rw[hout]
  refine⟨iv',.ptr vb 0,pv',hV,g11,IsSl.sl (by omega) (fun _=>rfl) si11,fun b o m c hb=>?_,vv,?_,v1,by omega,?_,.inr ⟨pl.length+1,hpv',?_,by simp,by omega⟩⟩
  ·rcases si11 with ⟨rfl,_⟩|⟨b',m',hb',rfl,_,_⟩
   ·cases hb
   ·cases hb
    constructor<;>omega
  ·refine⟨Nat.le_trans vx.nx KK.nx,fun c hc=>?_,fun c hc=>?_⟩
   ·rw[KK.gt c (Nat.lt_of_lt_of_le hc vx.nx) (by rintro (e|e)<;>omega),vx.gt _ hc]
   ·rw[KK.ty c (Nat.lt_of_lt_of_le hc vx.nx),vx.ty _ hc]
  ·omega
  ·have h8g:h8.get (h6.next+1)=some (.cells ((pl++[x]).flatMap eI) 1 false):=by
    rw[hpv'] at i8
    rcases i8 with ⟨e,_⟩|⟨b,m,_,e,hg,_⟩
    ·cases e
    ·cases e
     rw[hg,List.flatMap_append]
     rfl
   rw[K11.gt _ (by omega) (by omega),x10.gt _ (by omega),u9.ne (by omega),h8g]
end Go.Proofs.YtihedjolidbfiaaGreatDoor
namespace Go.Proofs.YtihedjolidbfiaaGreatDoor
open Go.Am
theorem IsFront.bounds {h:AH}{fb pb n:Nat}{es:List (Int×Int)}{row:List It}{pl:List Int} (hf:IsFront h fb pb n es row pl):1≤n∧n≤64∧es.length≤128∧es.all (okE n)=true:=by
 obtain⟨iv,vp,pv,hV,g,si,so,vv,vx,v1,v2,v3,pp⟩:=hf
 obtain⟨_,_,_,_,_,_,_,_,_,_,_,_,_,_,_,q⟩:=vv
 exact q
theorem fdone_ok {h:AH}{fb pb n:Nat}{es:List (Int×Int)}{row:List It}{pl:List Int} (hf:IsFront h fb pb n es row pl):C prg 16 [.ptr fb 0] h fun r h'=>r=.bool (decide (pl.length=n))∧h'=h:=by
 obtain⟨iv,vp,pv,hV,g,si,so,vv,vx,v1,v2,v3,pp⟩:=hf
 obtain⟨b,ev,os,is,ob,ib,rfl,g1,g2,g3,g4,g5,g6,g7,g8,m1,m2,m3,m4⟩:=vv.at vx
 have sp:=placed_sl pp
 have lp:=sp.len
 rw[List.length_map] at lp
 have r1:rdCells h fb 1 1=some [.ptr b 0]:=rd_at g rfl
 have r2:rdCells h fb 2 1=some [pv]:=rd_at g rfl
 have r3:rdCells h b 0 1=some [.int .i64 (n:Nat)]:=rd_at g1 rfl
 refine C.func pf16 ?_
 refine W.seq (W.run (by simp only[am,evOp,simprocAttr,initTm]<;>rfl) ?_)
 refine W.seq (W.run (by simp only[am,evOp,simprocAttr,initTm,r1,r2,r3,lp]<;>rfl) ?_)
 refine W.ret ⟨_,(by simp only[rs,rf16,am,evOp,simprocAttr]<;>rfl),?_,rfl⟩
 exact congrArg AV.bool (by simp only[decide_eq_decide]; omega)
theorem frow_ok {h:AH}{fb pb n:Nat}{es:List (Int×Int)}{row:List It}{pl:List Int} (hf:IsFront h fb pb n es row pl) (hl:row.length<2 ^ 30):C prg 29 [.ptr fb 0] h fun r h'=>IsSl h' 3 h.next r (row.flatMap eT)∧Ext h.next h h':=by
 obtain⟨iv,vp,pv,hV,g,si,so,vv,vx,v1,v2,v3,pp⟩:=hf
 have r1:rdCells h fb 0 1=some [iv]:=rd_at g rfl
 refine C.func pf29 ?_
 refine W.seq (W.run (by simp only[am,evOp,simprocAttr,initTm]<;>rfl) ?_)
 refine W.seq (W.reg (G.gcall 4 (by simp only[am,evOp,simprocAttr,initTm,r1]<;>rfl) rfl (by simp only[am,evOp,simprocAttr,initTm,r1]) (by simp only[am,evOp,simprocAttr,initTm,r1]<;>rfl) (cloneT_ok si (by omega)) fun r h1 hq=>?_))
 obtain⟨i1,x1,_⟩:=hq
 refine G.run (by simp only[am,evOp,simprocAttr]<;>rfl) ?_
 exact W.ret ⟨_,(by simp only[rs,rf29,am,evOp,simprocAttr]<;>rfl),i1,x1⟩
def readyL (n:Nat) (es:List (Int×Int)) (row:List It) (pl:List Int) (k:Nat):List Int:=((List.range k).filter fun x=>readyM n es row pl ((x:Nat):Int)).map fun x=>((x:Nat):Int)
theorem readyL_succ {n:Nat}{es:List (Int×Int)}{row:List It}{pl:List Int}{k:Nat}:readyL n es row pl (k+1)=if readyM n es row pl ((k:Nat):Int)=true then readyL n es row pl k++[((k:Nat):Int)] else readyL n es row pl k:=by
 unfold readyL
 rw[List.range_succ,List.filter_append]
 by_cases q:readyM n es row pl ((k:Nat):Int)=true
 ·rw[if_pos q,List.filter_cons,if_pos q]; simp
 ·rw[if_neg q,List.filter_cons,if_neg q]; simp
theorem fReady_ok {h:AH}{fb pb n:Nat}{es:List (Int×Int)}{row:List It}{pl:List Int} (hf:IsFront h fb pb n es row pl) (hl:row.length<2 ^ 30) (hl2:pl.length<2 ^ 30) :
 C prg 14 [.ptr fb 0] h fun r h'=>IsSl h' 1 h.next r ((readyL n es row pl n).flatMap eI)∧Ext h.next h h':=by
 have hb:=hf.bounds
 have hf0:=hf
 obtain⟨iv,vp,pv,hV,g,si,so,vv,vx,v1,v2,v3,pp⟩:=hf
 obtain⟨b,ev,os,is,ob,ib,rfl,g1,_⟩:=vv.at vx
 have r1:rdCells h fb 1 1=some [.ptr b 0]:=rd_at g rfl
 have r3:rdCells h b 0 1=some [.int .i64 (n:Nat)]:=rd_at g1 rfl
 refine C.func pf14 ?_
 refine W.seq (W.run (by simp only[am,evOp,simprocAttr,initTm]<;>rfl) ?_)
 refine W.seq (W.seq (W.run (by simp only[am,evOp,simprocAttr,initTm,r1,r3]<;>rfl) ?_))
 refine W.rng (α:=AV) (N:=n) (fun _ a=>[(0,.ptr fb 0),(2,a)]) (fun k a h'=>IsSl h' 1 h.next a ((readyL n es row pl k).flatMap eI)∧Ext h.next h h') .nils (fun _ _=>rfl) (by omega) (by simp only[held_cons,held_nil,am,evOp,↓reduceIte,Nat.reduceEqDiff,Int.reduceEq,Nat.reduceAdd,Nat.reduceLeDiff,reduceCtorEq,initTm]) ⟨.inl ⟨rfl,rfl⟩,Ext.refl⟩ ?_ ?_
 ·rintro k a ts h1 hk ⟨j1,jx⟩ ⟨ei,en,e0,e2,-⟩
  simp only at ei en e0 e2
  refine W.seq (W.run (by simp only[am,evOp,simprocAttr,ei]<;>rfl) ?_)
  refine W.seq (W.reg (G.gcall 2 (by simp only[am,evOp,simprocAttr,ei,e0]<;>rfl) rfl (by simp only[am,evOp,simprocAttr,ei,e0]) (by simp only[am,evOp,simprocAttr,ei,e0]<;>rfl) (ready_ok (x:=((k:Nat):Int)) (hf0.ext jx) hl hl2) fun r h2 hq=>?_))
  obtain⟨rfl,x2⟩:=hq
  refine G.run (by simp only[am,evOp,simprocAttr]<;>rfl) ?_
  have X2:=jx.trans (x2.mono jx.nx)
  have j2:=j1.ext x2 (Nat.le_refl _)
  refine W.cond (t:=readyM n es row pl ((k:Nat):Int)) (by simp only[am,evOp,simprocAttr]) (fun q=>?_) fun q=>?_
  ·have hll:(readyL n es row pl k).length≤k:=by
    unfold readyL
    rw[List.length_map]
    exact Nat.le_trans (List.length_filter_le _ _) (by simp)
   obtain⟨s',h3,a3,i3,x3,n3⟩:=j2.push (bytes:=8) [.int .i64 ((k:Nat):Int)] X2.nx (by omega) rfl rfl (by rw[len_cI]; unfold tooMany; omega) (by rw[len_cI]; unfold tooMany; omega)
   refine W.run (by simp only[am,evOp,simprocAttr,e2,a3]<;>rfl) ?_
   refine⟨s',⟨?_,X2.trans x3⟩,by simp only[held_cons,held_nil,am,evOp,↓reduceIte,Nat.reduceEqDiff,Int.reduceEq,Nat.reduceAdd,Nat.reduceLeDiff,reduceCtorEq,ei,en,e0]⟩
   rw[readyL_succ,if_pos q,List.flatMap_append]
   exact i3
  ·refine W.skip ⟨a,⟨?_,X2⟩,by simp only[held_cons,held_nil,am,evOp,↓reduceIte,Nat.reduceEqDiff,Int.reduceEq,Nat.reduceAdd,Nat.reduceLeDiff,reduceCtorEq,ei,en,e0,e2]⟩
   rw[readyL_succ,if_neg (by simp [q])]
   exact j2
 ·rintro a ts h1 ⟨j1,jx⟩ ⟨e0,e2,-⟩
  simp only at e0 e2
  refine W.seq (W.run (by simp only[am,evOp,simprocAttr,e2]<;>rfl) ?_)
  exact W.ret ⟨a,(by simp only[rs,rf14,am,evOp,simprocAttr]<;>rfl),j1,jx⟩
theorem fnew_ok {h:AH}{n:Int}{ev:AV}{es:List (Int×Int)} (he:SlE h ev es) (hl:es.length<2 ^ 30) :
 C prg 13 [.agg [.int .i64 n,ev]] h fun r h'=>Ext h.next h h'∧((GoodP n es∧∃ fb,h.next≤fb∧r=.tup [.ptr fb 0,.int .i64 0]∧IsFront h' fb fb n.toNat es [] [])∨(¬ GoodP n es∧r=.tup [.nilp,.int .i64 1])):=by
 obtain⟨ec,eo⟩:=he.cells
 refine C.func pf13 ?_
 have x0:Ext h.next h (h.new (.cells [.int .i64 n,ev] 2 false)):=Ext.new (Nat.le_refl _)
 have g0:(h.new (.cells [.int .i64 n,ev] 2 false)).get h.next=some (.cells [.int .i64 n,ev] 2 false):=by rw[AH.get_new,if_pos rfl]
 have n0:(h.new (.cells [.int .i64 n,ev] 2 false)).next=h.next+1:=rfl
 refine W.seq (W.run (by simp only[am,evOp,simprocAttr,initTm]<;>rfl) ?_)
 generalize h.new (.cells [.int .i64 n,ev] 2 false)=h0 at *
 have r0:rdCells h0 h.next 0 2=some [.int .i64 n,ev]:=by rw[rdCells_of g0]; rfl
 refine W.seq (W.seq (W.reg (G.gcall 1 (by simp only[am,evOp,simprocAttr,initTm,r0]<;>rfl) rfl (by simp only[am,evOp,simprocAttr,initTm,r0]) (by simp only[am,evOp,simprocAttr,initTm,r0]<;>rfl) (check_ok (he.ext x0 (Nat.le_refl _)) hl) fun r h2 hq=>?_)))
 obtain⟨⟨c,a,v,rfl,hc⟩,x2⟩:=hq
 have X2:=x0.trans (x2.mono x0.nx)
 refine G.run (by simp only[am,evOp,simprocAttr,fldA,partA]<;>rfl) ?_
 refine W.cond (t:=!decide (c=0)) (by simp only[am,evOp,simprocAttr,Bool.false_eq_true]) (fun q=>?_) fun q=>?_
 ·have q:¬ c=0:=by simpa using q
  refine W.seq (W.run (by simp only[am,evOp,simprocAttr]<;>rfl) ?_)
  exact W.ret ⟨.tup [.nilp,.int .i64 1],(by simp only[rs,rf13,am,evOp,simprocAttr]<;>rfl),X2,.inr ⟨fun hg=>q (hc.2 hg),rfl⟩⟩
 have q:c=0:=by simpa using q
 have hg:=hc.1 q
 obtain⟨nn,rfl⟩:∃ nn:Nat,n=nn:=⟨n.toNat,by
  have:=hg.1
  simp only[mayB,Bool.and_eq_true,decide_eq_true_eq] at this; omega⟩
 refine W.skip ?_
 have r2:rdCells h2 h.next 0 2=some [.int .i64 (nn:Nat),ev]:=by rw[rdCells_eq (x2.gt _ (by omega))]; exact r0
 refine W.seq (W.reg (G.gcall 1 (by simp only[am,evOp,simprocAttr,initTm,r2]<;>rfl) rfl (by simp only[am,evOp,simprocAttr,initTm,r2]) (by simp only[am,evOp,simprocAttr,initTm,r2]<;>rfl) (gof_ok (he.ext X2 (Nat.le_refl _)) hg.1) fun vp h3 hq=>?_))
 obtain⟨hv,x3⟩:=hq
 have hvb:∃ vb,vp=.ptr vb 0:=by obtain⟨b,_,_,_,_,_,hb,_⟩:=hv; exact⟨b,hb⟩
 obtain⟨vb,rfl⟩:=hvb
 have X3:=X2.trans (x3.mono X2.nx)
 refine G.run (by simp only[am,evOp,simprocAttr]<;>rfl) ?_
 have x4:Ext h3.next h3 (h3.new (.cells [.nils,.ptr vb 0,.nils] 3 false)):=Ext.new (Nat.le_refl _)
 have g4:(h3.new (.cells [.nils,.ptr vb 0,.nils] 3 false)).get h3.next=some (.cells [.nils,.ptr vb 0,.nils] 3 false):=by rw[AH.get_new,if_pos rfl]
 have n4:(h3.new (.cells [.nils,.ptr vb 0,.nils] 3 false)).next=h3.next+1:=rfl
 generalize h3.new (.cells [.nils,.ptr vb 0,.nils] 3 false)=h4 at *
 refine W.ret ⟨.tup [.ptr h3.next 0,.int .i64 0],(by simp only[rs,rf13,am,evOp,simprocAttr]<;>rfl),X3.trans (x4.mono X3.nx),.inl ⟨hg,h3.next,X3.nx,rfl,?_⟩⟩
 rw[Int.toNat_natCast]
 exact⟨.nils,.ptr vb 0,.nils,h3,g4,.inl ⟨rfl,.inl rfl⟩,fun b o m c e=>(by cases e),hv,x4,Nat.le_refl _,Nat.le_refl _,by omega,.inl ⟨rfl,rfl,rfl⟩⟩
end Go.Proofs.YtihedjolidbfiaaGreatDoor
