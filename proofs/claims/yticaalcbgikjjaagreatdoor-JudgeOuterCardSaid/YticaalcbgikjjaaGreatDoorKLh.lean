/-
  The definition's side: has, Ends, Each, Bare, May. The definition's side: which vertices are left (plain law, and the code). The definition's side: May, Bare, cycle.
-/
import Derived.Test.YticaalcbgikjjaaGreatDoorKLf
set_option linter.all false
namespace Go.Proofs.YticaalcbgikjjaaGreatDoor
open Go.Am
theorem w1_ok {k:Nat} (h:k<2 ^ 62):IntKind.i64.wrap (((k:Nat):Int)+1)=((k+1:Nat):Int):=wr64 (by omega) (by omega)
theorem rhas_ok {h:AH}{v:AV}{xs:List Int}{x:Int} (hv:SlI h v xs) (hl:xs.length<2 ^ 40):C prg 71 [v,.int .i64 x] h fun r h'=>r=.int .i64 (fidx (x==·) xs 0)∧h'=h:=by
 have el:=hv.len
 rw[List.length_map] at el
 refine C.func pf71 ?_
 refine W.seq (W.run (by simp only[am,evOp,simprocAttr,initTm]<;>rfl) ?_)
 refine W.seq (W.seq (W.run (by simp only[am,evOp,simprocAttr,initTm]<;>rfl) ?_))
 refine W.whl (α:=Unit) (N:=xs.length) (fun k _=>[(0,v),(1,.int .i64 x),(5,.int .i64 (k:Nat))]) (fun k _ h'=>h'=h∧fidx (x==·) (xs.drop k) k=fidx (x==·) xs 0) () (by simp only[held_cons,held_nil,am,evOp,↓reduceIte,Nat.reduceEqDiff,Int.reduceEq,Nat.reduceAdd,Nat.reduceLeDiff,reduceCtorEq,initTm,Int.natCast_zero]) ⟨rfl,rfl⟩ ?_ ?_ ?_
 ·rintro k _ ts h1 hk ⟨rfl,j1⟩ ⟨e0,e1,e5,-⟩
  simp only at e0 e1 e5
  exact⟨_,(by simp only[am,evOp,↓reduceIte,Nat.reduceEqDiff,Int.reduceEq,Nat.reduceAdd,Nat.reduceLeDiff,reduceCtorEq,e0,e5,el,Int.ofNat_lt]<;>rfl),by simp only[am,evOp,↓reduceIte,Nat.reduceEqDiff,Int.reduceEq,Nat.reduceAdd,Nat.reduceLeDiff,reduceCtorEq],by simp only[held_cons,held_nil,am,evOp,↓reduceIte,Nat.reduceEqDiff,Int.reduceEq,Nat.reduceAdd,Nat.reduceLeDiff,reduceCtorEq,e0,e1,e5]⟩
 ·rintro k _ ts h1 hk ⟨rfl,j1⟩ ⟨e0,e1,e5,-⟩
  simp only at e0 e1 e5
  obtain⟨b1,p1,a1,r1,_⟩:=hv.at1 (map_at (f:=eI) hk)
  rw[fidx_drop _ hk] at j1
  have w1:=w1_ok (k:=k) (by omega)
  refine W.seq (W.run (by simp only[am,evOp,simprocAttr,e0,e1,e5,a1,r1]<;>rfl) ?_)
  refine W.cond (t:=decide (xs[k]=x)) (by simp only[am,evOp,simprocAttr]) (fun q=>?_) fun q=>?_
  ·have q:xs[k]=x:=of_decide_eq_true q
   rw[if_pos (by simp [q])] at j1
   refine W.seq (W.run (by simp only[am,evOp,simprocAttr,e5]<;>rfl) ?_)
   exact W.ret ⟨.int .i64 (k:Nat),(by simp only[rs,rf71,am,evOp,simprocAttr]<;>rfl),by rw[j1],rfl⟩
  ·have q:¬ xs[k]=x:=of_decide_eq_false q
   rw[if_neg (by simpa using fun e=>q (Eq.symm e))] at j1
   refine W.skip ⟨(),⟨rfl,j1⟩,_,(by simp only[am,evOp,↓reduceIte,Nat.reduceEqDiff,Int.reduceEq,Nat.reduceAdd,Nat.reduceLeDiff,reduceCtorEq,e5,w1]<;>rfl),by simp only[held_cons,held_nil,am,evOp,↓reduceIte,Nat.reduceEqDiff,Int.reduceEq,Nat.reduceAdd,Nat.reduceLeDiff,reduceCtorEq,e0,e1]⟩
 ·rintro _ ts h1 ⟨rfl,j1⟩ ⟨e0,e1,e5,-⟩
  rw[List.drop_length] at j1
  refine W.seq (W.run (by simp only[am,evOp,simprocAttr]<;>rfl) ?_)
  exact W.ret ⟨.int .i64 (-1),(by simp only[rs,rf71,am,evOp,simprocAttr]<;>rfl),by rw[← j1]; rfl,rfl⟩
def endB (fr:Bool) (x:Int) (e:Int×Int):Bool:=if fr then decide (e.1=x) else decide (e.2=x)
def endsM (es:List (Int×Int)) (x:Int) (fr:Bool):List Int:=if fr then outsM es x else insM es x
theorem endsM_eq {es:List (Int×Int)}{x:Int}{fr:Bool}:endsM es x fr=endsAt (endB fr x) es 0:=by
 cases fr<;>rfl
theorem rends_ok {h:AH}{n x:Int}{ev:AV}{es:List (Int×Int)}{fr:Bool} (he:SlE h ev es) (hl:es.length<2 ^ 30):C prg 33 [.agg [.int .i64 n,ev],.int .i64 x,.bool fr] h fun r h'=>IsSl h' 1 h.next r ((endsM es x fr).flatMap eI)∧Ext h.next h h':=by
 have el:=he.len
 rw[List.length_map] at el
 obtain⟨ec,eo⟩:=he.cells
 refine C.func pf33 ?_
 have x0:Ext h.next h (h.new (.cells [.int .i64 n,ev] 2 false)):=Ext.new (Nat.le_refl _)
 have g0:(h.new (.cells [.int .i64 n,ev] 2 false)).get h.next=some (.cells [.int .i64 n,ev] 2 false):=by rw[AH.get_new,if_pos rfl]
 have n0:(h.new (.cells [.int .i64 n,ev] 2 false)).next=h.next+1:=rfl
 refine W.seq (W.run (by simp only[am,evOp,simprocAttr,initTm]<;>rfl) ?_)
 generalize h.new (.cells [.int .i64 n,ev] 2 false)=h0 at *
 refine W.seq (W.run (by simp only[am,evOp,simprocAttr,initTm]<;>rfl) ?_)
 have x1:Ext h0.next h0 (h0.new (.cells [] 1 false)):=Ext.new (Nat.le_refl _)
 have g1:(h0.new (.cells [] 1 false)).get h0.next=some (.cells [] 1 false):=by rw[AH.get_new,if_pos rfl]
 have n1:(h0.new (.cells [] 1 false)).next=h0.next+1:=rfl
 generalize h0.new (.cells [] 1 false)=h1 at *
 have X1:=x0.trans (x1.mono (by omega))
 refine W.seq (W.seq (W.run (by simp only[am,evOp,simprocAttr,initTm]<;>rfl) ?_))
 refine W.whl (α:=AV) (N:=es.length) (fun k a=>[(3,.ptr h.next 0),(1,.int .i64 x),(2,.bool fr),(7,a),(8,.int .i64 (k:Nat))]) (fun k a h'=>IsSl h' 1 (h.next+1) a ((endsAt (endB fr x) (es.take k) 0).flatMap eI)∧Ext (h.next+1) h1 h') (.sl h0.next 0 0 0) (by simp only[held_cons,held_nil,am,evOp,↓reduceIte,Nat.reduceEqDiff,Int.reduceEq,Nat.reduceAdd,Nat.reduceLeDiff,reduceCtorEq,initTm,Int.natCast_zero])
  ⟨.inr ⟨h0.next,0,by omega,rfl,g1,rfl⟩,Ext.refl⟩ ?_ ?_ ?_
 ·rintro k a ts h2 hk ⟨j1,jx⟩ ⟨e3,e1,e2,e7,e8,-⟩
  simp only at e3 e1 e2 e7 e8
  have r0:rdCells h2 h.next 1 1=some [ev]:=rd_at (by rw[jx.gt _ (by omega),x1.gt _ (by omega)]; exact g0) rfl
  exact⟨_,(by simp only[am,evOp,↓reduceIte,Nat.reduceEqDiff,Int.reduceEq,Nat.reduceAdd,Nat.reduceLeDiff,reduceCtorEq,e3,e8,r0,el,Int.ofNat_lt]<;>rfl),by simp only[am,evOp,↓reduceIte,Nat.reduceEqDiff,Int.reduceEq,Nat.reduceAdd,Nat.reduceLeDiff,reduceCtorEq],by simp only[held_cons,held_nil,am,evOp,↓reduceIte,Nat.reduceEqDiff,Int.reduceEq,Nat.reduceAdd,Nat.reduceLeDiff,reduceCtorEq,e3,e1,e2,e7,e8]⟩
 ·rintro k a ts h2 hk ⟨j1,jx⟩ ⟨e3,e1,e2,e7,e8,-⟩
  simp only at e3 e1 e2 e7 e8
  have X2:Ext h.next h h2:=X1.trans (jx.mono (by omega))
  have n2:=jx.nx
  have r0:rdCells h2 h.next 1 1=some [ev]:=rd_at (by rw[jx.gt _ (by omega),x1.gt _ (by omega)]; exact g0) rfl
  obtain⟨b1,p1,a1,_,rr,_⟩:=(he.ext X2 (Nat.le_refl _)).at (map_at (f:=eE) hk)
  have ra:rdCells h2 b1 p1 1=some [.int .i64 es[k].1]:=rr 0 _ rfl
  have rb:rdCells h2 b1 (p1+1) 1=some [.int .i64 es[k].2]:=rr 1 _ rfl
  have w1:=w1_ok (k:=k) (by omega)
  have hlen:(endsAt (endB fr x) (es.take k) 0).length≤k:=Nat.le_trans (endsAt_len _ _ _) (by rw[List.length_take]; omega)
  have hs:=endsAt_succ (endB fr x) hk
  have done:∀ ts':Tm,Held [(3,.ptr h.next 0),(1,.int .i64 x),(2,.bool fr),(7,a),(8,.int .i64 (k:Nat)),(41,.bool (endB fr x es[k]))] ts' →
   W prg (.cond (.t 41) (.reg [⟨some 42,.mov (.t 7),none,none,[]⟩,⟨some 43,.mov (.t 8),none,none,[]⟩,⟨some 44,.mksl [.int .i64 0] 1 1 [(0,1,.t 43)],none,none,[]⟩,⟨some 45,.app 1 8 (.t 42) (.t 44),none,none,[]⟩,⟨some 7,.mov (.t 45),none,none,[]⟩]) .skip) ts' h2
     (fun ts' h'=>∃ a',(IsSl h' 1 (h.next+1) a' ((endsAt (endB fr x) (es.take (k+1)) 0).flatMap eI)∧Ext (h.next+1) h1 h')∧Held [(3,.ptr h.next 0),(1,.int .i64 x),(2,.bool fr),(7,a'),(8,.int .i64 (k:Nat))] ts') (fun _ _=>False) (fun _ _ _=>False):=by
   rintro ts' ⟨f3,f1,f2,f7,f8,f41,-⟩
   simp only at f3 f1 f2 f7 f8 f41
   refine W.cond (t:=endB fr x es[k]) (by simp only[am,evOp,simprocAttr,f41]) (fun q=>?_) fun q=>?_
   ·obtain⟨s',h3,a3,i3,x3,n3⟩:=j1.push (bytes:=8) [.int .i64 ((k:Nat):Int)] (by omega) (by omega) rfl rfl (by rw[len_cI]; unfold tooMany; omega) (by rw[len_cI]; unfold tooMany; omega)
    refine W.run (by simp only[am,evOp,simprocAttr,f7,f8,a3]<;>rfl) ?_
    refine⟨s',⟨?_,jx.trans x3⟩,by simp only[held_cons,held_nil,am,evOp,↓reduceIte,Nat.reduceEqDiff,Int.reduceEq,Nat.reduceAdd,Nat.reduceLeDiff,reduceCtorEq,f3,f1,f2,f8]⟩
    rw[hs,if_pos q,List.flatMap_append]
    exact i3
   ·refine W.skip ⟨a,⟨?_,jx⟩,by simp only[held_cons,held_nil,am,evOp,↓reduceIte,Nat.reduceEqDiff,Int.reduceEq,Nat.reduceAdd,Nat.reduceLeDiff,reduceCtorEq,f3,f1,f2,f7,f8]⟩
    rw[hs,if_neg (by simp [q])]
    exact j1
  have fin:∀ ts' h',(∃ a',(IsSl h' 1 (h.next+1) a' ((endsAt (endB fr x) (es.take (k+1)) 0).flatMap eI)∧Ext (h.next+1) h1 h')∧Held [(3,.ptr h.next 0),(1,.int .i64 x),(2,.bool fr),(7,a'),(8,.int .i64 (k:Nat))] ts') →
   ∃ a',(IsSl h' 1 (h.next+1) a' ((endsAt (endB fr x) (es.take (k+1)) 0).flatMap eI)∧Ext (h.next+1) h1 h')∧∃ ts'',stps h'.next [⟨some 15,.mov (.t 8),none,none,[]⟩,⟨some 16,.bin .add .no (.t 15) (.c (.int .i64 1)),none,none,[]⟩,⟨some 8,.mov (.t 16),none,none,[]⟩] (some (ts',h'))=some (ts'',h')∧Held [(3,.ptr h.next 0),(1,.int .i64 x),(2,.bool fr),(7,a'),(8,.int .i64 ((k+1:Nat):Int))] ts'':=by
   rintro ts' h' ⟨a',ha,f3,f1,f2,f7,f8,-⟩
   simp only at f3 f1 f2 f7 f8
   exact⟨a',ha,_,(by simp only[am,evOp,↓reduceIte,Nat.reduceEqDiff,Int.reduceEq,Nat.reduceAdd,Nat.reduceLeDiff,reduceCtorEq,f8,w1]<;>rfl),by simp only[held_cons,held_nil,am,evOp,↓reduceIte,Nat.reduceEqDiff,Int.reduceEq,Nat.reduceAdd,Nat.reduceLeDiff,reduceCtorEq,f3,f1,f2,f7]⟩
  refine W.seq ?_
  cases fr with
  | true =>
    by_cases q:es[k].1=x
    ·have c1:decide (es[k].1=x)=true:=decide_eq_true q
     have cE:endB true x es[k]=true:=c1
     refine W.run (by simp only[am,evOp,simprocAttr,e3,e1,e2,e8,r0,a1,ra,rb,c1]<;>rfl) ?_
     exact W.mono _ (done _ (by simp only[held_cons,held_nil,am,evOp,↓reduceIte,Nat.reduceEqDiff,Int.reduceEq,Nat.reduceAdd,Nat.reduceLeDiff,reduceCtorEq,e3,e1,e2,e7,e8,cE])) fin (fun _ _ q=>q.elim) (fun _ _ _ q=>q.elim)
    ·have c1:decide (es[k].1=x)=false:=decide_eq_false q
     have cE:endB true x es[k]=false:=c1
     refine W.run (by simp only[am,evOp,simprocAttr,e3,e1,e2,e8,r0,a1,ra,rb,c1]<;>rfl) ?_
     exact W.mono _ (done _ (by simp only[held_cons,held_nil,am,evOp,↓reduceIte,Nat.reduceEqDiff,Int.reduceEq,Nat.reduceAdd,Nat.reduceLeDiff,reduceCtorEq,e3,e1,e2,e7,e8,cE])) fin (fun _ _ q=>q.elim) (fun _ _ _ q=>q.elim)
  | false =>
    have cE:endB false x es[k]=decide (es[k].2=x):=rfl
    refine W.run (by simp only[am,evOp,simprocAttr,e3,e1,e2,e8,r0,a1,ra,rb]<;>rfl) ?_
    exact W.mono _ (done _ (by simp only[held_cons,held_nil,am,evOp,↓reduceIte,Nat.reduceEqDiff,Int.reduceEq,Nat.reduceAdd,Nat.reduceLeDiff,reduceCtorEq,e3,e1,e2,e7,e8,cE])) fin (fun _ _ q=>q.elim) (fun _ _ _ q=>q.elim)
 ·rintro a ts h2 ⟨j1,jx⟩ ⟨e3,e1,e2,e7,e8,-⟩
  simp only at e3 e1 e2 e7 e8
  rw[List.take_length] at j1
  refine W.seq (W.run (by simp only[am,evOp,simprocAttr,e7]<;>rfl) ?_)
  exact W.ret ⟨a,(by simp only[rs,rf33,am,evOp,simprocAttr]<;>rfl),by rw[endsM_eq]; exact j1.mono (by omega),X1.trans (jx.mono (by omega))⟩
end Go.Proofs.YticaalcbgikjjaaGreatDoor
namespace Go.Proofs.YticaalcbgikjjaaGreatDoor
open Go.Am
def rndF (L nx:List Bool) (e:Int×Int):List Bool:=if L.getD e.1.toNat false&&L.getD e.2.toNat false then nx.set e.2.toNat true else nx
def rnd (n:Nat) (es:List (Int×Int)) (L:List Bool):List Bool:=es.foldl (rndF L) (List.replicate n false)
def leftK (n:Nat) (es:List (Int×Int)):Nat→List Bool
 | 0=>List.replicate n true
 | k+1=>rnd n es (leftK n es k)
theorem rndF_len {L nx:List Bool}{e:Int×Int}:(rndF L nx e).length=nx.length:=by
 unfold rndF
 split<;>simp
theorem fold_len {L:List Bool}:∀ (es:List (Int×Int)) (nx:List Bool),(es.foldl (rndF L) nx).length=nx.length
 | [],nx=>rfl
 | e::r,nx=>by rw[List.foldl_cons,fold_len r,rndF_len]
theorem fold_get {L:List Bool}:∀ (es:List (Int×Int)) (nx:List Bool) (v:Nat),v<nx.length →
 ((es.foldl (rndF L) nx).getD v false=true↔nx.getD v false=true∨∃ e∈es,L.getD e.1.toNat false=true∧L.getD e.2.toNat false=true∧e.2.toNat=v)
 | [],nx,v,h=>by simp
 | e::r,nx,v,h=>by
   rw[List.foldl_cons,fold_get r _ v (by rw[rndF_len]; exact h)]
   unfold rndF
   by_cases q:(L.getD e.1.toNat false&&L.getD e.2.toNat false)=true
   ·rw[if_pos q]
    rw[Bool.and_eq_true] at q
    by_cases qe:e.2.toNat=v
    ·have:(nx.set e.2.toNat true).getD v false=true:=by
      rw[List.getD_eq_getElem?_getD,qe,List.getElem?_set_self h]; rfl
     constructor
     ·intro _
      exact .inr ⟨e,List.mem_cons_self ..,q.1,q.2,qe⟩
     ·intro _
      exact .inl this
    ·have:(nx.set e.2.toNat true).getD v false=nx.getD v false:=by
      rw[List.getD_eq_getElem?_getD,List.getElem?_set_ne qe,List.getD_eq_getElem?_getD]
     rw[this]
     constructor
     ·rintro (h1|⟨e',h1,h2⟩)
      ·exact .inl h1
      ·exact .inr ⟨e',List.mem_cons_of_mem _ h1,h2⟩
     ·rintro (h1|⟨e',h1,h2,h3,h4⟩)
      ·exact .inl h1
      ·rcases List.mem_cons.1 h1 with rfl|h1
       ·exact absurd h4 qe
       ·exact .inr ⟨e',h1,h2,h3,h4⟩
   ·rw[if_neg q]
    constructor
    ·rintro (h1|⟨e',h1,h2⟩)
     ·exact .inl h1
     ·exact .inr ⟨e',List.mem_cons_of_mem _ h1,h2⟩
    ·rintro (h1|⟨e',h1,h2,h3,h4⟩)
     ·exact .inl h1
     ·rcases List.mem_cons.1 h1 with rfl|h1
      ·exact absurd (by rw[h2,h3]; rfl) q
      ·exact .inr ⟨e',h1,h2,h3,h4⟩
theorem leftK_len (n:Nat) (es:List (Int×Int)):∀ k,(leftK n es k).length=n
 | 0=>by simp [leftK]
 | k+1=>by rw[leftK,rnd,fold_len,List.length_replicate]
def lk (n:Nat) (es:List (Int×Int)) (k v:Nat):Bool:=(leftK n es k).getD v false
theorem lk_zero {n:Nat}{es:List (Int×Int)}{v:Nat} (h:v<n):lk n es 0 v=true:=by
 unfold lk leftK
 rw[List.getD_eq_getElem?_getD,List.getElem?_replicate,if_pos h]
 rfl
theorem lk_ge {n:Nat}{es:List (Int×Int)}{k v:Nat} (h:¬ v<n):lk n es k v=false:=by
 unfold lk
 rw[List.getD_eq_getElem?_getD,List.getElem?_eq_none (by rw[leftK_len]; omega)]
 rfl
theorem lk_succ {n:Nat}{es:List (Int×Int)}{k v:Nat} (h:v<n):lk n es (k+1) v=true↔∃ e∈es,lk n es k e.1.toNat=true∧lk n es k e.2.toNat=true∧e.2.toNat=v:=by
 unfold lk
 rw[leftK,rnd,fold_get _ _ _ (by rw[List.length_replicate]; exact h)]
 rw[List.getD_eq_getElem?_getD,List.getElem?_replicate,if_pos h]
 simp
theorem lk_mono {n:Nat}{es:List (Int×Int)}{k v:Nat} (h:lk n es (k+1) v=true):lk n es k v=true:=by
 by_cases hv:v<n
 ·obtain⟨e,_,_,h2,rfl⟩:=(lk_succ hv).1 h
  exact h2
 ·rw[lk_ge hv] at h
  cases h
theorem lk_edge {n:Nat}{es:List (Int×Int)} (he:es.all (okE n)=true) {e:Int×Int} (hm:e∈es):∀ k,lk n es k e.1.toNat=true→lk n es (k+1) e.2.toNat=true:=by
 have hr:=okE_in (List.all_eq_true.1 he e hm)
 intro k
 induction k with
 | zero=>exact fun h=>(lk_succ (by omega)).2 ⟨e,hm,h,lk_zero (by omega),rfl⟩
 | succ k ih=>exact fun h=>(lk_succ (by omega)).2 ⟨e,hm,h,ih (lk_mono h),rfl⟩
theorem cnt_le:∀ (a b:List Bool),a.length=b.length→(∀ i:Nat,a.getD i false=true→b.getD i false=true)→a.count true≤b.count true∧(a.count true=b.count true→a=b)
 | [],[],_,_=>⟨Nat.le_refl _,fun _=>rfl⟩
 | [],_::_,h,_=>by simp at h
 | _::_,[],h,_=>by simp at h
 | x::a,y::b,h,hi=>by
   obtain⟨h1,h2⟩:=cnt_le a b (by simpa using h) fun i hh=>by
    have:=hi (i+1)
    simp only[List.getD_cons_succ] at this
    exact this hh
   have h0:=hi 0
   simp only[List.getD_cons_zero] at h0
   cases x<;>cases y<;>simp only[List.count_cons,beq_true,beq_false,Bool.not_true,Bool.not_false,Bool.false_eq_true,if_true,if_false] at *
   ·exact⟨by omega,fun q=>by rw[h2 (by omega)]⟩
   ·exact⟨by omega,fun q=>by omega⟩
   ·exact absurd (h0 trivial) (by simp)
   ·exact⟨by omega,fun q=>by rw[h2 (by omega)]⟩
theorem left_stable (n:Nat) (es:List (Int×Int)):leftK n es (n+1)=leftK n es n:=by
 have hle:∀ k,(leftK n es (k+1)).count true≤(leftK n es k).count true∧((leftK n es (k+1)).count true=(leftK n es k).count true→leftK n es (k+1)=leftK n es k):=fun k =>
  cnt_le _ _ (by rw[leftK_len,leftK_len]) fun i h=>lk_mono h
 have key:∀ k,(leftK n es k).count true+k≤n∨leftK n es (k+1)=leftK n es k:=by
  intro k
  induction k with
  | zero =>
    left
    have:=List.count_le_length (a:=true) (l:=leftK n es 0)
    rw[leftK_len] at this
    omega
  | succ k ih =>
    rcases ih with h|h
    ·by_cases q:leftK n es (k+1)=leftK n es k
     ·right
      rw[leftK,q]
      exact q
     ·left
      have:=hle k
      have h3:(leftK n es (k+1)).count true≠(leftK n es k).count true:=fun e=>q (this.2 e)
      omega
    ·right
     rw[leftK,h]
     exact h
 rcases key n with h|h
 ·exact (hle n).2 (by have:=(hle n).1; omega)
 ·exact h
theorem left_pred {n:Nat}{es:List (Int×Int)}{v:Nat} (h:lk n es n v=true):∃ e∈es,lk n es n e.1.toNat=true∧e.2.toNat=v:=by
 by_cases hv:v<n
 ·have:lk n es (n+1) v=true:=by unfold lk; rw[left_stable]; exact h
  obtain⟨e,h1,h2,_,h4⟩:=(lk_succ hv).1 this
  exact⟨e,h1,h2,h4⟩
 ·rw[lk_ge hv] at h
  cases h
theorem left_acy {n:Nat}{es:List (Int×Int)} (he:es.all (okE n)=true):(∀ v,v<n→lk n es n v=false)↔Acy es:=by
 constructor
 ·intro h
  refine⟨fun x=>(List.range (n+1)).countP fun k=>lk n es k x.toNat,fun e hm=>?_⟩
  have hr:=okE_in (List.all_eq_true.1 he e hm)
  have h1:((List.range (n+1)).countP fun k=>lk n es k e.1.toNat)=(List.range n).countP fun k=>lk n es k e.1.toNat:=by
   rw[List.range_succ,List.countP_append,List.countP_cons,h _ (by omega)]
   simp
  have h2:((List.range (n+1)).countP fun k=>lk n es k e.2.toNat)=1+(List.range n).countP fun k=>lk n es (k+1) e.2.toNat:=by
   rw[List.range_succ_eq_map,List.countP_cons,List.countP_map,lk_zero (by omega)]
   simp only[if_true]
   rw[Nat.add_comm]
   rfl
  have h3:((List.range n).countP fun k=>lk n es k e.1.toNat)≤(List.range n).countP fun k=>lk n es (k+1) e.2.toNat:=List.countP_mono_left fun k _ hk=>lk_edge he hm k hk
  show ((List.range (n+1)).countP fun k=>lk n es k e.1.toNat)<((List.range (n+1)).countP fun k=>lk n es k e.2.toNat)
  omega
 ·rintro⟨rank,hr⟩
  have key:∀ m v,v<n→rank v=m→lk n es n v=false:=by
   intro m
   induction m using Nat.strongRecOn with
   | _ m ih =>
     intro v hv hm
     cases hb:lk n es n v with
     | false=>rfl
     | true =>
       exfalso
       obtain⟨e,h1,h2,h3⟩:=left_pred hb
       have hin:=okE_in (List.all_eq_true.1 he e h1)
       have hlt:=hr e h1
       have e2:e.2=((v:Nat):Int):=by omega
       have e1:e.1=((e.1.toNat:Nat):Int):=by omega
       rw[e2,hm,e1] at hlt
       have:=ih _ hlt e.1.toNat (by omega) rfl
       rw[this] at h2
       cases h2
  exact fun v hv=>key _ v hv rfl
def bls (L:List Bool):List AV:=L.map AV.bool
theorem bls_len (L:List Bool):(bls L).length=L.length:=by simp [bls]
theorem bls_set (L:List Bool) (i:Nat) (b:Bool):(bls L).set i (.bool b)=bls (L.set i b):=by simp [bls,List.map_set]
theorem bls_at {L:List Bool}{i:Nat} (h:i<L.length):(bls L)[i]?=some (.bool (L.getD i false)):=by
 unfold bls
 rw[List.getElem?_map,List.getElem?_eq_getElem h,List.getD_eq_getElem?_getD,List.getElem?_eq_getElem h]
 rfl
theorem bls_rep (n:Nat):repl [.bool false] n=bls (List.replicate n false):=by
 rw[repl_rep]; simp [bls]
theorem mks_bools {h:AH}{n:Nat} (hn:n≤64):mksA h [.bool false] 1 1 (.int .i64 (n:Nat)) (.int .i64 (n:Nat))=some (.sl h.next 0 n n,h.new (.cells (bls (List.replicate n false)) 1 false)):=by
 rw[mksA_nat (by unfold tooMany; omega) (by unfold tooMany; omega),bls_rep]
theorem rleft_ok {h:AH}{n:Nat}{ev:AV}{es:List (Int×Int)} (he:SlE h ev es) (hm:mayB (n:Nat) es=true) :
 C prg 70 [.agg [.int .i64 (n:Nat),ev]] h fun r h'=>∃ lb,h.next≤lb∧r=.sl lb 0 n n∧h'.get lb=some (.cells (bls (leftK n es n)) 1 false)∧Ext h.next h h':=by
 obtain⟨m1,m2,m3,m4⟩:=may_of hm
 have el:=he.len
 rw[List.length_map] at el
 obtain⟨ec,eo⟩:=he.cells
 refine C.func pf70 ?_
 have x0:Ext h.next h (h.new (.cells [.int .i64 (n:Nat),ev] 2 false)):=Ext.new (Nat.le_refl _)
 have g0:(h.new (.cells [.int .i64 (n:Nat),ev] 2 false)).get h.next=some (.cells [.int .i64 (n:Nat),ev] 2 false):=by rw[AH.get_new,if_pos rfl]
 have n0:(h.new (.cells [.int .i64 (n:Nat),ev] 2 false)).next=h.next+1:=rfl
 refine W.seq (W.run (by simp only[am,evOp,simprocAttr,initTm]<;>rfl) ?_)
 generalize h.new (.cells [.int .i64 (n:Nat),ev] 2 false)=h0 at *
 have r0:rdCells h0 h.next 0 1=some [.int .i64 (n:Nat)]:=rd_at g0 rfl
 refine W.seq (W.run (by simp only[am,evOp,simprocAttr,initTm,r0,mks_bools m2]<;>rfl) ?_)
 have x1:Ext h0.next h0 (h0.new (.cells (bls (List.replicate n false)) 1 false)):=Ext.new (Nat.le_refl _)
 have g1:(h0.new (.cells (bls (List.replicate n false)) 1 false)).get h0.next=some (.cells (bls (List.replicate n false)) 1 false):=by rw[AH.get_new,if_pos rfl]
 have n1:(h0.new (.cells (bls (List.replicate n false)) 1 false)).next=h0.next+1:=rfl
 generalize h0.new (.cells (bls (List.replicate n false)) 1 false)=h1 at *
 have G1:h1.get h.next=some (.cells [.int .i64 (n:Nat),ev] 2 false):=by rw[x1.gt _ (by omega)]; exact g0
 refine W.seq (W.seq (W.run (by simp only[am,evOp,simprocAttr,initTm]<;>rfl) ?_))
 have rGn:∀ {h':AH},h'.get h.next=some (.cells [.int .i64 (n:Nat),ev] 2 false)→rdCells h' h.next 0 1=some [.int .i64 (n:Nat)]:=fun hg=>rd_at hg rfl
 have rGe:∀ {h':AH},h'.get h.next=some (.cells [.int .i64 (n:Nat),ev] 2 false)→rdCells h' h.next 1 1=some [ev]:=fun hg=>rd_at hg rfl
 refine W.whl (α:=List Bool) (N:=n) (fun k a=>[(1,.ptr h.next 0),(3,.sl h0.next 0 n n),(4,.int .i64 (k:Nat))]) (fun k a h'=>h'.get h0.next=some (.cells (bls a) 1 false)∧a.length=n∧(∀ v,v<k→a[v]?=some true)∧Ext h0.next h0 h'∧h1.next≤h'.next) (List.replicate n false) (by simp only[hl,am,evOp,simprocAttr,initTm,Int.natCast_zero])
  ⟨g1,by simp,fun v hv=>absurd hv (by omega),x1,Nat.le_refl _⟩ ?_ ?_ ?_
 ·rintro k a ts h2 hk ⟨j1,j2,j3,jx,jn⟩ ⟨e1,e3,e4,-⟩
  simp only at e1 e3 e4
  have rg:=rGn (h':=h2) (by rw[jx.gt _ (by omega)]; exact g0)
  exact⟨_,(by simp only[am,evOp,simprocAttr,e1,e4,rg,Int.ofNat_lt]<;>rfl),by simp only[am,evOp,simprocAttr],by simp only[hl,am,evOp,simprocAttr,e1,e3,e4]⟩
 ·rintro k a ts h2 hk ⟨j1,j2,j3,jx,jn⟩ ⟨e1,e3,e4,-⟩
  simp only at e1 e3 e4
  have ik:idx? ((k:Nat):Int) n=some k:=idx_nat hk
  have w2:wrCells h2 h0.next k [.bool true]=some (h2.put h0.next (.cells (bls (a.set k true)) 1 false)):=by rw[wr_at j1 (by rw[bls_len]; omega),bls_set]
  have w1:=w1_ok (k:=k) (by omega)
  refine W.run (by simp only[am,evOp,simprocAttr,e3,e4,ik,Nat.mul_one,w2]<;>rfl) ?_
  have u:=Upd.put (o:=.cells (bls (a.set k true)) 1 false) j1
  refine⟨a.set k true,⟨u.get,by rw[List.length_set,j2],fun v hv=>?_,jx.trans (u.ext (Nat.le_refl _)),jn⟩,_,(by simp only[am,evOp,simprocAttr,e4,w1]<;>rfl),by simp only[hl,am,evOp,simprocAttr,e1,e3]⟩
  by_cases e:k=v
  ·subst e
   rw[List.getElem?_set_self (by omega)]
  ·rw[List.getElem?_set_ne e]
   exact j3 v (by omega)
 ·rintro a ts h2 ⟨j1,j2,j3,jx,jn⟩ ⟨e1,e3,e4,-⟩
  simp only at e1 e3
  have ha:a=leftK n es 0:=by
   refine List.ext_getElem? fun v=>?_
   unfold leftK
   rw[List.getElem?_replicate]
   split
   ·exact j3 v (by omega)
   ·exact List.getElem?_eq_none (by omega)
  subst ha
  have X2:Ext h.next h h2:=x0.trans (jx.mono (by omega))
  have jxn:=jx.nx
  refine W.seq (W.seq (W.run (by simp only[am,evOp,simprocAttr]<;>rfl) ?_))
  refine W.whl (α:=Nat) (N:=n) (fun k a=>[(1,.ptr h.next 0),(3,.sl a 0 n n),(5,.int .i64 (k:Nat))]) (fun k a h'=>h'.get a=some (.cells (bls (leftK n es k)) 1 false)∧h.next<a∧Ext (h.next+1) h0 h') h0.next (by simp only[hl,am,evOp,simprocAttr,e1,e3,Int.natCast_zero])
   ⟨j1,by omega,jx.mono (by omega)⟩ ?_ ?_ ?_
  ·rintro k a ts h3 hk ⟨j1,j2,jx⟩ ⟨e1,e3,e5,-⟩
   simp only at e1 e3 e5
   have rg:=rGn (h':=h3) (by rw[jx.gt _ (by omega)]; exact g0)
   exact⟨_,(by simp only[am,evOp,simprocAttr,e1,e5,rg,Int.ofNat_lt]<;>rfl),by simp only[am,evOp,simprocAttr],by simp only[hl,am,evOp,simprocAttr,e1,e3,e5]⟩
  ·rintro k a ts h3 hk ⟨j1,j2,jx⟩ ⟨e1,e3,e5,-⟩
   simp only at e1 e3 e5
   have hG3:h3.get h.next=some (.cells [.int .i64 (n:Nat),ev] 2 false):=by rw[jx.gt _ (by omega)]; exact g0
   have rg:=rGn hG3
   have al:=AH.lt_of_get j1
   refine W.seq (W.run (by simp only[am,evOp,simprocAttr,e1,rg,mks_bools m2]<;>rfl) ?_)
   have x4:Ext h3.next h3 (h3.new (.cells (bls (List.replicate n false)) 1 false)):=Ext.new (Nat.le_refl _)
   have g4:(h3.new (.cells (bls (List.replicate n false)) 1 false)).get h3.next=some (.cells (bls (List.replicate n false)) 1 false):=by rw[AH.get_new,if_pos rfl]
   have n4:(h3.new (.cells (bls (List.replicate n false)) 1 false)).next=h3.next+1:=rfl
   generalize h3.new (.cells (bls (List.replicate n false)) 1 false)=h4 at *
   have n3:=jx.nx
   refine W.seq (W.seq (W.run (by simp only[am,evOp,simprocAttr]<;>rfl) ?_))
   refine W.whl (α:=Unit) (N:=es.length) (fun j _=>[(1,.ptr h.next 0),(3,.sl a 0 n n),(5,.int .i64 (k:Nat)),(6,.sl h3.next 0 n n),(7,.int .i64 (j:Nat))]) (fun j _ h'=>h'.get h3.next=some (.cells (bls ((es.take j).foldl (rndF (leftK n es k)) (List.replicate n false))) 1 false)∧Ext h3.next h3 h'∧h4.next≤h'.next) () (by simp only[hl,am,evOp,simprocAttr,e1,e3,e5,Int.natCast_zero])
    ⟨g4,x4,Nat.le_refl _⟩ ?_ ?_ ?_
   ·rintro j _ ts h5 hj ⟨i1,ix,inx⟩ ⟨e1,e3,e5,e6,e7,-⟩
    simp only at e1 e3 e5 e6 e7
    have rg:=rGe (h':=h5) (by rw[ix.gt _ (by omega)]; exact hG3)
    exact⟨_,(by simp only[am,evOp,simprocAttr,e1,e7,rg,el,Int.ofNat_lt]<;>rfl),by simp only[am,evOp,simprocAttr],by simp only[hl,am,evOp,simprocAttr,e1,e3,e5,e6,e7]⟩
   ·rintro j _ ts h5 hj ⟨i1,ix,inx⟩ ⟨e1,e3,e5,e6,e7,-⟩
    simp only at e1 e3 e5 e6 e7
    have rg:=rGe (h':=h5) (by rw[ix.gt _ (by omega)]; exact hG3)
    have X5:Ext h.next h h5:=x0.trans ((jx.mono (by omega)).trans (ix.mono (by omega)))
    obtain⟨b1,p1,a1,r4,_⟩:=(he.ext X5 (Nat.le_refl _)).at (map_at (f:=eE) hj)
    obtain⟨h6,w6,x6,g6,n6⟩:=mk_loc (h:=h5) (z:=[.int .i64 0,.int .i64 0]) (cs:=[.int .i64 es[j].1,.int .i64 es[j].2]) (e:=2) rfl
    refine W.seq (W.run (by simp only[am,evOp,simprocAttr,e1,e7,rg,a1,r4,eE,w6]<;>rfl) ?_)
    obtain⟨ea,eb,hab,ha,hb⟩:=okE_nat (List.all_eq_true.1 m4 _ (List.getElem_mem hj))
    have ra:rdCells h6 h5.next 0 1=some [.int .i64 (ea:Nat)]:=rd_at g6 (by rw[hab]; rfl)
    have rb:rdCells h6 h5.next 1 1=some [.int .i64 (eb:Nat)]:=rd_at g6 (by rw[hab]; rfl)
    have ia:idx? ((ea:Nat):Int) n=some ea:=idx_nat ha
    have ib:idx? ((eb:Nat):Int) n=some eb:=idx_nat hb
    have hL6:h6.get a=some (.cells (bls (leftK n es k)) 1 false):=by rw[x6.gt _ (by omega),ix.gt _ al]; exact j1
    have la:rdCells h6 a ea 1=some [.bool ((leftK n es k).getD ea false)]:=rd_at hL6 (bls_at (by rw[leftK_len]; exact ha))
    have lb:rdCells h6 a eb 1=some [.bool ((leftK n es k).getD eb false)]:=rd_at hL6 (bls_at (by rw[leftK_len]; exact hb))
    have w1:=w1_ok (k:=j) (by omega)
    have hstep:(es.take (j+1)).foldl (rndF (leftK n es k)) (List.replicate n false)=rndF (leftK n es k) ((es.take j).foldl (rndF (leftK n es k)) (List.replicate n false)) es[j]:=by
     rw[List.take_succ_eq_append_getElem hj,List.foldl_append]
     rfl
    have hsv:rndF (leftK n es k) ((es.take j).foldl (rndF (leftK n es k)) (List.replicate n false)) es[j]=if (leftK n es k).getD ea false&&(leftK n es k).getD eb false then ((es.take j).foldl (rndF (leftK n es k)) (List.replicate n false)).set eb true else (es.take j).foldl (rndF (leftK n es k)) (List.replicate n false):=by
     unfold rndF
     rw[hab]
     simp only[Int.toNat_natCast]
    rw[hsv] at hstep
    have hN6:h6.get h3.next=some (.cells (bls ((es.take j).foldl (rndF (leftK n es k)) (List.replicate n false))) 1 false):=by rw[x6.gt _ (by omega)]; exact i1
    have ix6:Ext h3.next h3 h6:=ix.trans (x6.mono ix.nx)
    cases q1:(leftK n es k).getD ea false with
    | false =>
      rw[q1] at la hstep
      refine W.seq (W.run (by simp only[am,evOp,simprocAttr,e3,ra,ia,la,Nat.mul_one]<;>rfl) ?_)
      refine W.no (by simp only[am,evOp,simprocAttr]) (W.skip ⟨(),⟨?_,ix6,by omega⟩,_,(by simp only[am,evOp,simprocAttr,e7,w1]<;>rfl),by simp only[hl,am,evOp,simprocAttr,e1,e3,e5,e6]⟩)
      rw[hstep]
      exact hN6
    | true =>
      rw[q1] at la hstep
      refine W.seq (W.run (by simp only[am,evOp,simprocAttr,e3,ra,ia,la,rb,ib,lb,Nat.mul_one]<;>rfl) ?_)
      cases q2:(leftK n es k).getD eb false with
      | false =>
        rw[q2] at hstep
        refine W.no (by simp only[am,evOp,simprocAttr]) (W.skip ⟨(),⟨?_,ix6,by omega⟩,_,(by simp only[am,evOp,simprocAttr,e7,w1]<;>rfl),by simp only[hl,am,evOp,simprocAttr,e1,e3,e5,e6]⟩)
        rw[hstep]
        exact hN6
      | true =>
        rw[q2] at hstep
        have w7:wrCells h6 h3.next eb [.bool true]=some (h6.put h3.next (.cells (bls (((es.take j).foldl (rndF (leftK n es k)) (List.replicate n false)).set eb true)) 1 false)):=by
         rw[wr_at hN6 (by rw[bls_len,fold_len,List.length_replicate]; exact hb),bls_set]
        have u:=Upd.put (o:=.cells (bls (((es.take j).foldl (rndF (leftK n es k)) (List.replicate n false)).set eb true)) 1 false) hN6
        refine W.yes (by simp only[am,evOp,simprocAttr]) (W.run (by simp only[am,evOp,simprocAttr,e6,rb,ib,Nat.mul_one,w7]<;>rfl) ?_)
        refine⟨(),⟨?_,ix6.trans (u.ext (Nat.le_refl _)),by rw[AH.next_put]; omega⟩,_,(by simp only[am,evOp,simprocAttr,e7,w1]<;>rfl),by simp only[hl,am,evOp,simprocAttr,e1,e3,e5,e6]⟩
        rw[hstep]
        exact u.get
   ·rintro _ ts h5 ⟨i1,ix,inx⟩ ⟨e1,e3,e5,e6,e7,-⟩
    simp only at e1 e3 e5 e6
    rw[List.take_length] at i1
    have w1:=w1_ok (k:=k) (by omega)
    refine W.run (by simp only[am,evOp,simprocAttr,e6]<;>rfl) ?_
    exact⟨h3.next,⟨i1,by omega,jx.trans (ix.mono (by omega))⟩,_,(by simp only[am,evOp,simprocAttr,e5,w1]<;>rfl),by simp only[hl,am,evOp,simprocAttr,e1]⟩
  ·rintro a ts h3 ⟨j1,j2,jx⟩ ⟨e1,e3,e5,-⟩
   simp only at e1 e3
   refine W.seq (W.run (by simp only[am,evOp,simprocAttr,e3]<;>rfl) ?_)
   exact W.ret ⟨.sl a 0 n n,(by simp only[rs,rf70,am,evOp,simprocAttr]<;>rfl),a,by omega,rfl,j1,x0.trans (jx.mono (by omega))⟩
end Go.Proofs.YticaalcbgikjjaaGreatDoor
namespace Go.Proofs.YticaalcbgikjjaaGreatDoor
open Go.Am
theorem rmay_any {h:AH}{n:Int}{ev:AV}{es:List (Int×Int)} (he:SlE h ev es):C prg 34 [.agg [.int .i64 n,ev]] h fun r h'=>r=.bool (mayB n es)∧Ext h.next h h':=by
 have el:=he.len
 rw[List.length_map] at el
 obtain⟨ec,eo⟩:=he.cells
 refine C.func pf34 ?_
 have x0:Ext h.next h (h.new (.cells [.int .i64 n,ev] 2 false)):=Ext.new (Nat.le_refl _)
 have g0:(h.new (.cells [.int .i64 n,ev] 2 false)).get h.next=some (.cells [.int .i64 n,ev] 2 false):=by rw[AH.get_new,if_pos rfl]
 have n0:(h.new (.cells [.int .i64 n,ev] 2 false)).next=h.next+1:=rfl
 refine W.seq (W.run (by simp only[am,evOp,simprocAttr,initTm]<;>rfl) ?_)
 generalize h.new (.cells [.int .i64 n,ev] 2 false)=h0 at *
 have rn:rdCells h0 h.next 0 1=some [.int .i64 n]:=rd_at g0 rfl
 have re:rdCells h0 h.next 1 1=some [ev]:=rd_at g0 rfl
 by_cases q1:n<1
 ·have c1:decide (n<1)=true:=decide_eq_true q1
  have hB:mayB n es=false:=by
   have:decide (1≤n)=false:=decide_eq_false (by omega)
   simp only[mayB,this,Bool.false_and]
  refine W.seq (W.seq (W.run (by simp only[am,evOp,simprocAttr,initTm,rn,c1]<;>rfl) ?_))
  refine W.yes (by simp only[am,evOp,simprocAttr]) (W.seq (W.run (by simp only[am,evOp,simprocAttr]<;>rfl) ?_))
  exact W.ret ⟨.bool false,(by simp only[rs,rf34,am,evOp,simprocAttr]<;>rfl),by rw[hB],x0⟩
 have c1:decide (n<1)=false:=decide_eq_false q1
 by_cases q2:64<n
 ·have c2:decide (64<n)=true:=decide_eq_true q2
  have hB:mayB n es=false:=by
   have:decide (n≤64)=false:=decide_eq_false (by omega)
   simp only[mayB,this,Bool.and_false,Bool.false_and]
  refine W.seq (W.seq (W.run (by simp only[am,evOp,simprocAttr,initTm,rn,c1,c2]<;>rfl) ?_))
  refine W.yes (by simp only[am,evOp,simprocAttr]) (W.seq (W.run (by simp only[am,evOp,simprocAttr]<;>rfl) ?_))
  exact W.ret ⟨.bool false,(by simp only[rs,rf34,am,evOp,simprocAttr]<;>rfl),by rw[hB],x0⟩
 have c2:decide (64<n)=false:=decide_eq_false q2
 by_cases q3:128<es.length
 ·have c3:decide ((128:Int)<((es.length:Nat):Int))=true:=decide_eq_true (by omega)
  have hB:mayB n es=false:=by
   have:decide (es.length≤128)=false:=decide_eq_false (by omega)
   simp only[mayB,this,Bool.and_false,Bool.false_and]
  refine W.seq (W.seq (W.run (by simp only[am,evOp,simprocAttr,initTm,rn,re,el,c1,c2,c3]<;>rfl) ?_))
  refine W.yes (by simp only[am,evOp,simprocAttr]) (W.seq (W.run (by simp only[am,evOp,simprocAttr]<;>rfl) ?_))
  exact W.ret ⟨.bool false,(by simp only[rs,rf34,am,evOp,simprocAttr]<;>rfl),by rw[hB],x0⟩
 have c3:decide ((128:Int)<((es.length:Nat):Int))=false:=decide_eq_false (by omega)
 have hB:mayB n es=es.all (okE n):=by
  have d1:decide (1≤n)=true:=decide_eq_true (by omega)
  have d2:decide (n≤64)=true:=decide_eq_true (by omega)
  have d3:decide (es.length≤128)=true:=decide_eq_true (by omega)
  simp only[mayB,d1,d2,d3,Bool.true_and]
 refine W.seq (W.seq (W.run (by simp only[am,evOp,simprocAttr,initTm,rn,re,el,c1,c2,c3]<;>rfl) ?_))
 refine W.no (by simp only[am,evOp,simprocAttr]) (W.skip ?_)
 refine W.seq (W.seq (W.run (by simp only[am,evOp,simprocAttr]<;>rfl) ?_))
 refine W.whl (α:=Unit) (N:=es.length) (fun k _=>[(1,.ptr h.next 0),(3,.int .i64 (k:Nat))]) (fun k _ h'=>Ext (h.next+1) h0 h'∧(es.take k).all (okE n)=true) () (by simp only[held_cons,held_nil,am,evOp,↓reduceIte,Nat.reduceEqDiff,Int.reduceEq,Nat.reduceAdd,Nat.reduceLeDiff,reduceCtorEq,initTm,Int.natCast_zero]) ⟨Ext.refl,rfl⟩ ?_ ?_ ?_
 ·rintro k _ ts h1 hk ⟨jx,j1⟩ ⟨e1,e3,-⟩
  simp only at e1 e3
  have re1:rdCells h1 h.next 1 1=some [ev]:=by rw[rdCells_eq (jx.gt _ (by omega))]; exact re
  exact⟨_,(by simp only[am,evOp,↓reduceIte,Nat.reduceEqDiff,Int.reduceEq,Nat.reduceAdd,Nat.reduceLeDiff,reduceCtorEq,e1,e3,re1,el,Int.ofNat_lt]<;>rfl),by simp only[am,evOp,↓reduceIte,Nat.reduceEqDiff,Int.reduceEq,Nat.reduceAdd,Nat.reduceLeDiff,reduceCtorEq],by simp only[held_cons,held_nil,am,evOp,↓reduceIte,Nat.reduceEqDiff,Int.reduceEq,Nat.reduceAdd,Nat.reduceLeDiff,reduceCtorEq,e1,e3]⟩
 ·rintro k _ ts h1 hk ⟨jx,j1⟩ ⟨e1,e3,-⟩
  simp only at e1 e3
  have re1:rdCells h1 h.next 1 1=some [ev]:=by rw[rdCells_eq (jx.gt _ (by omega))]; exact re
  have jn:=jx.nx
  have X1:Ext h.next h h1:=x0.trans (jx.mono (by omega))
  obtain⟨b1,p1,a1,r4,_⟩:=(he.ext X1 (Nat.le_refl _)).at (map_at (f:=eE) hk)
  obtain⟨h2,w2,x2,g2,n2⟩:=mk_loc (h:=h1) (z:=[.int .i64 0,.int .i64 0]) (cs:=[.int .i64 es[k].1,.int .i64 es[k].2]) (e:=2) rfl
  refine W.seq (W.run (by simp only[am,evOp,simprocAttr,e1,e3,re1,a1,r4,eE,w2]<;>rfl) ?_)
  have ra:rdCells h2 h1.next 0 1=some [.int .i64 es[k].1]:=rd_at g2 rfl
  have rb:rdCells h2 h1.next 1 1=some [.int .i64 es[k].2]:=rd_at g2 rfl
  have rn2:rdCells h2 h.next 0 1=some [.int .i64 n]:=by rw[rdCells_eq (x2.gt _ (by omega)),rdCells_eq (jx.gt _ (by omega))]; exact rn
  have w1:=w1_ok (k:=k) (by omega)
  have Y2:Ext (h.next+1) h0 h2:=jx.trans (x2.mono (by omega))
  have X2:Ext h.next h h2:=X1.trans (x2.mono X1.nx)
  have bad:okE n es[k]=false→mayB n es=false:=fun hb=>by
   rw[hB]
   cases hh:es.all (okE n) with
   | false=>rfl
   | true=>rw[List.all_eq_true.1 hh _ (List.getElem_mem hk)] at hb; cases hb
  by_cases p1:es[k].1<0
  ·have d1:decide (es[k].1<0)=true:=decide_eq_true p1
   have hb:=bad (by have:decide (0≤es[k].1)=false:=decide_eq_false (by omega)
                    simp only[okE,this,Bool.false_and])
   refine W.seq (W.run (by simp only[am,evOp,simprocAttr,ra,d1]<;>rfl) ?_)
   refine W.yes (by simp only[am,evOp,simprocAttr]) (W.seq (W.run (by simp only[am,evOp,simprocAttr]<;>rfl) ?_))
   exact W.ret ⟨.bool false,(by simp only[rs,rf34,am,evOp,simprocAttr]<;>rfl),by rw[hb],X2⟩
  have d1:decide (es[k].1<0)=false:=decide_eq_false p1
  by_cases p2:es[k].2<0
  ·have d2:decide (es[k].2<0)=true:=decide_eq_true p2
   have hb:=bad (by have:decide (0≤es[k].2)=false:=decide_eq_false (by omega)
                    simp only[okE,this,Bool.false_and,Bool.and_false])
   refine W.seq (W.run (by simp only[am,evOp,simprocAttr,ra,rb,d1,d2]<;>rfl) ?_)
   refine W.yes (by simp only[am,evOp,simprocAttr]) (W.seq (W.run (by simp only[am,evOp,simprocAttr]<;>rfl) ?_))
   exact W.ret ⟨.bool false,(by simp only[rs,rf34,am,evOp,simprocAttr]<;>rfl),by rw[hb],X2⟩
  have d2:decide (es[k].2<0)=false:=decide_eq_false p2
  by_cases p3:n≤es[k].1
  ·have d3:decide (n≤es[k].1)=true:=decide_eq_true p3
   have hb:=bad (by have:decide (es[k].1<n)=false:=decide_eq_false (by omega)
                    simp only[okE,this,Bool.false_and,Bool.and_false])
   refine W.seq (W.run (by simp only[am,evOp,simprocAttr,ra,rb,rn2,e1,d1,d2,d3]<;>rfl) ?_)
   refine W.yes (by simp only[am,evOp,simprocAttr]) (W.seq (W.run (by simp only[am,evOp,simprocAttr]<;>rfl) ?_))
   exact W.ret ⟨.bool false,(by simp only[rs,rf34,am,evOp,simprocAttr]<;>rfl),by rw[hb],X2⟩
  have d3:decide (n≤es[k].1)=false:=decide_eq_false p3
  by_cases p4:n≤es[k].2
  ·have d4:decide (n≤es[k].2)=true:=decide_eq_true p4
   have hb:=bad (by have:decide (es[k].2<n)=false:=decide_eq_false (by omega)
                    simp only[okE,this,Bool.and_false])
   refine W.seq (W.run (by simp only[am,evOp,simprocAttr,ra,rb,rn2,e1,d1,d2,d3,d4]<;>rfl) ?_)
   refine W.yes (by simp only[am,evOp,simprocAttr]) (W.seq (W.run (by simp only[am,evOp,simprocAttr]<;>rfl) ?_))
   exact W.ret ⟨.bool false,(by simp only[rs,rf34,am,evOp,simprocAttr]<;>rfl),by rw[hb],X2⟩
  have d4:decide (n≤es[k].2)=false:=decide_eq_false p4
  refine W.seq (W.run (by simp only[am,evOp,simprocAttr,ra,rb,rn2,e1,d1,d2,d3,d4]<;>rfl) ?_)
  refine W.no (by simp only[am,evOp,↓reduceIte,Nat.reduceEqDiff,Int.reduceEq,Nat.reduceAdd,Nat.reduceLeDiff,reduceCtorEq]) (W.skip ⟨(),⟨Y2,?_⟩,_,(by simp only[am,evOp,↓reduceIte,Nat.reduceEqDiff,Int.reduceEq,Nat.reduceAdd,Nat.reduceLeDiff,reduceCtorEq,e3,w1]<;>rfl),by simp only[held_cons,held_nil,am,evOp,↓reduceIte,Nat.reduceEqDiff,Int.reduceEq,Nat.reduceAdd,Nat.reduceLeDiff,reduceCtorEq,e1]⟩)
  rw[List.take_succ_eq_append_getElem hk,List.all_append,j1]
  have f1:decide (0≤es[k].1)=true:=decide_eq_true (by omega)
  have f2:decide (0≤es[k].2)=true:=decide_eq_true (by omega)
  have f3:decide (es[k].1<n)=true:=decide_eq_true (by omega)
  have f4:decide (es[k].2<n)=true:=decide_eq_true (by omega)
  simp only[List.all_cons,List.all_nil,okE,f1,f2,f3,f4,Bool.and_self]
 ·rintro _ ts h1 ⟨jx,j1⟩ ⟨e1,e3,-⟩
  rw[List.take_length] at j1
  refine W.seq (W.run (by simp only[am,evOp,simprocAttr]<;>rfl) ?_)
  exact W.ret ⟨.bool true,(by simp only[rs,rf34,am,evOp,simprocAttr]<;>rfl),by rw[hB,j1],x0.trans (jx.mono (by have:=x0.nx; omega))⟩
theorem rmay_ok {h:AH}{n:Int}{ev:AV}{es:List (Int×Int)} (he:SlE h ev es) (_:es.length<2 ^ 40):C prg 34 [.agg [.int .i64 n,ev]] h fun r h'=>r=.bool (mayB n es)∧Ext h.next h h':=rmay_any he
theorem rbare_ok {h:AH}{n:Nat}{ev:AV}{es:List (Int×Int)} (he:SlE h ev es) (hl:es.length<2 ^ 30) (hn:n≤64):C prg 36 [.agg [.int .i64 (n:Nat),ev],.bool true] h fun r h'=>IsSl h' 1 h.next r ((srcM n es).flatMap eI)∧Ext h.next h h':=by
 obtain⟨ec,eo⟩:=he.cells
 refine C.func pf36 ?_
 have x0:Ext h.next h (h.new (.cells [.int .i64 (n:Nat),ev] 2 false)):=Ext.new (Nat.le_refl _)
 have g0:(h.new (.cells [.int .i64 (n:Nat),ev] 2 false)).get h.next=some (.cells [.int .i64 (n:Nat),ev] 2 false):=by rw[AH.get_new,if_pos rfl]
 have n0:(h.new (.cells [.int .i64 (n:Nat),ev] 2 false)).next=h.next+1:=rfl
 refine W.seq (W.run (by simp only[am,evOp,simprocAttr,initTm]<;>rfl) ?_)
 generalize h.new (.cells [.int .i64 (n:Nat),ev] 2 false)=h0 at *
 refine W.seq (W.run (by simp only[am,evOp,simprocAttr,initTm]<;>rfl) ?_)
 have x1:Ext h0.next h0 (h0.new (.cells [] 1 false)):=Ext.new (Nat.le_refl _)
 have g1:(h0.new (.cells [] 1 false)).get h0.next=some (.cells [] 1 false):=by rw[AH.get_new,if_pos rfl]
 have n1:(h0.new (.cells [] 1 false)).next=h0.next+1:=rfl
 generalize h0.new (.cells [] 1 false)=h1 at *
 have X1:=x0.trans (x1.mono (by omega))
 refine W.seq (W.seq (W.run (by simp only[am,evOp,simprocAttr,initTm]<;>rfl) ?_))
 have hsucc:∀ k,srcM (k+1) es=if (insM es ((k:Nat):Int)).length=0 then srcM k es++[((k:Nat):Int)] else srcM k es:=fun k=>by
  unfold srcM
  rw[List.range_succ,List.filter_append,List.filter_cons]
  by_cases q:(insM es ((k:Nat):Int)).length=0
  ·rw[if_pos (by simpa using q),if_pos q]; simp
  ·rw[if_neg (by simpa using q),if_neg q]; simp
 have hle:∀ k,(srcM k es).length≤k:=fun k=>by
  unfold srcM
  rw[List.length_map]
  exact Nat.le_trans (List.length_filter_le _ _) (by simp)
 refine W.whl (α:=AV) (N:=n) (fun k a=>[(2,.ptr h.next 0),(1,.bool true),(5,a),(6,.int .i64 (k:Nat))]) (fun k a h'=>IsSl h' 1 (h.next+1) a ((srcM k es).flatMap eI)∧Ext (h.next+1) h1 h') (.sl h0.next 0 0 0) (by simp only[held_cons,held_nil,am,evOp,↓reduceIte,Nat.reduceEqDiff,Int.reduceEq,Nat.reduceAdd,Nat.reduceLeDiff,reduceCtorEq,initTm,Int.natCast_zero])
  ⟨.inr ⟨h0.next,0,by omega,rfl,g1,rfl⟩,Ext.refl⟩ ?_ ?_ ?_
 ·rintro k a ts h2 hk ⟨j1,jx⟩ ⟨e2,e1,e5,e6,-⟩
  simp only at e2 e1 e5 e6
  have rn:rdCells h2 h.next 0 1=some [.int .i64 (n:Nat)]:=rd_at (by rw[jx.gt _ (by omega),x1.gt _ (by omega)]; exact g0) rfl
  exact⟨_,(by simp only[am,evOp,↓reduceIte,Nat.reduceEqDiff,Int.reduceEq,Nat.reduceAdd,Nat.reduceLeDiff,reduceCtorEq,e2,e6,rn,Int.ofNat_lt]<;>rfl),by simp only[am,evOp,↓reduceIte,Nat.reduceEqDiff,Int.reduceEq,Nat.reduceAdd,Nat.reduceLeDiff,reduceCtorEq],by simp only[held_cons,held_nil,am,evOp,↓reduceIte,Nat.reduceEqDiff,Int.reduceEq,Nat.reduceAdd,Nat.reduceLeDiff,reduceCtorEq,e2,e1,e5,e6]⟩
 ·rintro k a ts h2 hk ⟨j1,jx⟩ ⟨e2,e1,e5,e6,-⟩
  simp only at e2 e1 e5 e6
  have jn:=jx.nx
  have X2:Ext h.next h h2:=X1.trans (jx.mono (by omega))
  have rg:rdCells h2 h.next 0 2=some [.int .i64 (n:Nat),ev]:=by rw[rdCells_of (by rw[jx.gt _ (by omega),x1.gt _ (by omega)]; exact g0)]; rfl
  have w1:=w1_ok (k:=k) (by omega)
  refine W.seq (W.reg (G.gcall 4 (by simp only[am,evOp,simprocAttr,e2,e1,e6,rg]<;>rfl) rfl (by simp only[am,evOp,simprocAttr,e2,e1,e6,rg]) (by simp only[am,evOp,simprocAttr,e2,e1,e6,rg]<;>rfl) (rends_ok (x:=((k:Nat):Int)) (fr:=false) (he.ext X2 (Nat.le_refl _)) hl) fun r h3 hq=>?_))
  obtain⟨i3,x3⟩:=hq
  have s3:SlI h3 r (insM es ((k:Nat):Int)):=IsSl.sl (by omega) (fun _=>rfl) i3
  have l3:=s3.len
  rw[List.length_map] at l3
  refine G.run (by simp only[am,evOp,simprocAttr,l3]<;>rfl) ?_
  have j3:=j1.ext x3 (Nat.le_refl _)
  have Y3:Ext (h.next+1) h1 h3:=jx.trans (x3.mono (by omega))
  refine W.cond (t:=decide ((insM es ((k:Nat):Int)).length=0)) (by simp only[am,evOp,simprocAttr]; exact congrArg AV.bool (by simp only[decide_eq_decide]; omega)) (fun q=>?_) fun q=>?_
  ·have q:(insM es ((k:Nat):Int)).length=0:=of_decide_eq_true q
   have hk2:=hle k
   have n3:=x3.nx
   obtain⟨s',h4,a4,i4,x4,n4⟩:=j3.push (bytes:=8) [.int .i64 ((k:Nat):Int)] (by omega) (by omega) rfl rfl (by rw[len_cI]; unfold tooMany; omega) (by rw[len_cI]; unfold tooMany; omega)
   refine W.run (by simp only[am,evOp,simprocAttr,e5,e6,a4]<;>rfl) ?_
   refine⟨s',⟨?_,Y3.trans x4⟩,_,(by simp only[am,evOp,↓reduceIte,Nat.reduceEqDiff,Int.reduceEq,Nat.reduceAdd,Nat.reduceLeDiff,reduceCtorEq,e6,w1]<;>rfl),by simp only[held_cons,held_nil,am,evOp,↓reduceIte,Nat.reduceEqDiff,Int.reduceEq,Nat.reduceAdd,Nat.reduceLeDiff,reduceCtorEq,e2,e1]⟩
   rw[hsucc,if_pos q,List.flatMap_append]
   exact i4
  ·have q:¬ (insM es ((k:Nat):Int)).length=0:=of_decide_eq_false q
   refine W.skip ⟨a,⟨?_,Y3⟩,_,(by simp only[am,evOp,↓reduceIte,Nat.reduceEqDiff,Int.reduceEq,Nat.reduceAdd,Nat.reduceLeDiff,reduceCtorEq,e6,w1]<;>rfl),by simp only[held_cons,held_nil,am,evOp,↓reduceIte,Nat.reduceEqDiff,Int.reduceEq,Nat.reduceAdd,Nat.reduceLeDiff,reduceCtorEq,e2,e1,e5]⟩
   rw[hsucc,if_neg q]
   exact j3
 ·rintro a ts h2 ⟨j1,jx⟩ ⟨e2,e1,e5,e6,-⟩
  simp only at e5
  refine W.seq (W.run (by simp only[am,evOp,simprocAttr,e5]<;>rfl) ?_)
  exact W.ret ⟨a,(by simp only[rs,rf36,am,evOp,simprocAttr]<;>rfl),j1.mono (by omega),X1.trans (jx.mono (by omega))⟩
end Go.Proofs.YticaalcbgikjjaaGreatDoor
