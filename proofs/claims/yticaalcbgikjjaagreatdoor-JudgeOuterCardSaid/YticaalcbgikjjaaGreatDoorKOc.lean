/-
  forest: find, join. forest.Parts: what it is made of. forest.Parts. forest.Parts, the walk.
-/
import Derived.Test.YticaalcbgikjjaaGreatDoorKOb
import Derived.Test.YticaalcbgikjjaaGreatDoorKLd
set_option linter.all false
namespace Go.Proofs.YticaalcbgikjjaaGreatDoor
open Go.Am
theorem nC_eq (l:List Nat):nC l=l.map fun x=>.int .i64 ((x:Nat):Int):=by
 unfold nC
 rw[flat_cI,List.map_map]
 rfl
theorem at_nC {l:List Nat}{i:Nat} (h:i<l.length):(nC l)[i]?=some (.int .i64 ((l.getD i 0:Nat):Int)):=by
 rw[nC_eq,List.getElem?_map,List.getD_eq_getElem?_getD,List.getElem?_eq_getElem h]
 rfl
theorem set_nC {l:List Nat}{i x:Nat}:(nC l).set i (.int .i64 ((x:Nat):Int))=nC (l.set i x):=by rw[nC_eq,nC_eq,List.map_set]
def Dn (N:Nat) (L:List Nat):Prop:=L.length=N∧∀ i,i<N→L.getD i 0≤i
theorem getD_setN {L:List Nat}{i v j:Nat} (hi:i<L.length):(L.set i v).getD j 0=if i=j then v else L.getD j 0:=by
 rw[List.getD_eq_getElem?_getD,List.getElem?_set,List.getD_eq_getElem?_getD]
 by_cases q:i=j
 ·rw[if_pos q,if_pos q,if_pos hi]; rfl
 ·rw[if_neg q,if_neg q]
theorem Dn.set {N:Nat}{L:List Nat} (h:Dn N L) {i v:Nat} (hi:i<N) (hv:v≤i):Dn N (L.set i v) :=
 ⟨by rw[List.length_set]; exact h.1,fun j hj=>by
  rw[getD_setN (by rw[h.1]; exact hi)]
  split
  ·omega
  ·exact h.2 j hj⟩
def findF:Nat→List Nat→Nat→Nat×List Nat
 | 0,L,x=>(x,L)
 | k+1,L,x=>if L.getD x 0=x then (x,L) else findF k (L.set x (L.getD (L.getD x 0) 0)) (L.getD (L.getD x 0) 0)
def findR (L:List Nat) (x:Nat):Nat×List Nat:=findF (x+1) L x
theorem findF_ok {N:Nat}:∀ (k:Nat) {L:List Nat}{x:Nat},Dn N L→x<N→(findF k L x).1≤x∧Dn N (findF k L x).2
 | 0,L,x,h,hx=>⟨Nat.le_refl _,h⟩
 | k+1,L,x,h,hx=>by
   simp only[findF]
   split
   ·exact⟨Nat.le_refl _,h⟩
   ·have h1:=h.2 x hx
    have h2:=h.2 (L.getD x 0) (by omega)
    have h3:=findF_ok k (h.set hx (show L.getD (L.getD x 0) 0≤x by omega)) (show L.getD (L.getD x 0) 0<N by omega)
    exact⟨by omega,h3.2⟩
theorem findR_ok {N:Nat}{L:List Nat}{x:Nat} (h:Dn N L) (hx:x<N):(findR L x).1≤x∧Dn N (findR L x).2:=findF_ok _ h hx
theorem ffind_ok {h:AH}{wb lb N x:Nat}{fc:AV}{L:List Nat} (hw:h.get wb=some (.cells [.sl lb 0 N N,fc] 2 false)) (hg:h.get lb=some (.cells (nC L) 1 false)) (hD:Dn N L) (hx:x<N) (hN:N<2 ^ 40) (hne:wb≠lb) :
 C prg 52 [.ptr wb 0,.int .i64 (x:Nat)] h fun r h'=>r=.int .i64 (((findR L x).1:Nat):Int)∧Upd h h' lb (.cells (nC (findR L x).2) 1 false):=by
 refine C.func pf52 ?_
 refine W.seq (W.run (by simp only[am,evOp,simprocAttr,initTm]<;>rfl) ?_)
 refine W.seq (W.block (W.loop (fun m ts h'=>∃ (L':List Nat) (y fuel:Nat),y=m∧findR L x=findF fuel L' y∧y<fuel∧y<N∧Dn N L'∧Upd h h' lb (.cells (nC L') 1 false)∧Held [(0,.ptr wb 0),(1,.int .i64 (y:Nat))] ts) ?_ (n:=x)
  ⟨L,x,x+1,rfl,rfl,Nat.lt_succ_self x,hx,hD,Upd.refl hg,by simp only[hl,am,evOp,simprocAttr,initTm]⟩))
 rintro m ts h1 ⟨L',y,fuel,rfl,p1,p2,p3,p4,p5,e0,e1,-⟩
 simp only at e0 e1
 have w1:h1.get wb=some (.cells [.sl lb 0 N N,fc] 2 false):=by rw[p5.ne hne]; exact hw
 have rw1:rdCells h1 wb 0 1=some [.sl lb 0 N N]:=rd_at w1 rfl
 have iy:idx? ((y:Nat):Int) N=some y:=idx_nat p3
 have hL:=p4.1
 have ry:rdCells h1 lb y 1=some [.int .i64 ((L'.getD y 0:Nat):Int)]:=rd_at p5.get (at_nC (by omega))
 have hy:=p4.2 y p3
 obtain⟨f',rfl⟩:∃ f',fuel=f'+1:=⟨fuel-1,by omega⟩
 by_cases q:L'.getD y 0=y
 ·have c0:decide (((L'.getD y 0:Nat):Int)=((y:Nat):Int))=true:=decide_eq_true (by omega)
  refine W.seq (W.seq (W.run (by simp only[am,evOp,simprocAttr,e0,e1,rw1,iy,Nat.mul_one,ry,c0]<;>rfl) ?_))
  refine W.no (by simp only[am,evOp,simprocAttr]) ?_
  refine W.exit ⟨fun _=>?_,fun e=>absurd rfl e⟩
  refine W.seq (W.run (by simp only[am,evOp,simprocAttr,e1]<;>rfl) ?_)
  have hf:findR L x=(y,L'):=by rw[p1]; simp only[findF]; rw[if_pos q]
  exact W.ret ⟨_,(by simp only[rs,rf52,am,evOp,simprocAttr]<;>rfl),by rw[hf],by rw[hf]; exact p5⟩
 ·have c0:decide (((L'.getD y 0:Nat):Int)=((y:Nat):Int))=false:=decide_eq_false (by omega)
  refine W.seq (W.seq (W.run (by simp only[am,evOp,simprocAttr,e0,e1,rw1,iy,Nat.mul_one,ry,c0]<;>rfl) ?_))
  refine W.yes (by simp only[am,evOp,simprocAttr]) (W.skip ?_)
  have hp:=p4.2 (L'.getD y 0) (by omega)
  have hf:findR L x=findF f' (L'.set y (L'.getD (L'.getD y 0) 0)) (L'.getD (L'.getD y 0) 0):=by rw[p1]; simp only[findF]; rw[if_neg q]
  have hgs:(L'.set y (L'.getD (L'.getD y 0) 0)).getD y 0=L'.getD (L'.getD y 0) 0:=by rw[getD_setN (by omega),if_pos rfl]
  have hDn:=p4.set p3 (show L'.getD (L'.getD y 0) 0≤y by omega)
  have ip:idx? ((L'.getD y 0:Nat):Int) N=some (L'.getD y 0):=idx_nat (by omega)
  have rp:rdCells h1 lb (L'.getD y 0) 1=some [.int .i64 ((L'.getD (L'.getD y 0) 0:Nat):Int)]:=rd_at p5.get (at_nC (by omega))
  generalize L'.getD (L'.getD y 0) 0=qv at *
  have w7:=wr_at (v:=.int .i64 ((qv:Nat):Int)) p5.get (show y<(nC L').length by rw[nC_len]; omega)
  rw[set_nC] at w7
  have u7:=Upd.put (o:=.cells (nC (L'.set y qv)) 1 false) p5.get
  refine W.block (W.seq (W.run (by simp only[am,evOp,simprocAttr,e0,e1,rw1,iy,ip,Nat.mul_one,ry,rp,w7]<;>rfl) ?_))
  generalize h1.put lb (.cells (nC (L'.set y qv)) 1 false)=h2 at *
  have w2:h2.get wb=some (.cells [.sl lb 0 N N,fc] 2 false):=by rw[u7.ne hne]; exact w1
  have rw2:rdCells h2 wb 0 1=some [.sl lb 0 N N]:=rd_at w2 rfl
  have ry2:rdCells h2 lb y 1=some [.int .i64 ((qv:Nat):Int)]:=by
   have:=rd_at u7.get (at_nC (l:=L'.set y qv) (i:=y) (by rw[List.length_set]; omega))
   rwa [hgs] at this
  refine W.run (by simp only[am,evOp,simprocAttr,e0,e1,rw2,iy,Nat.mul_one,ry2]<;>rfl) ?_
  exact⟨qv,by omega,L'.set y qv,qv,f',rfl,hf,by omega,by omega,hDn,p5.trans u7,by simp only[hl,am,evOp,simprocAttr,e0]⟩
def joinL (L:List Nat) (a b:Nat):List Nat:=(findR (findR L a).2 b).2.set (max (findR L a).1 (findR (findR L a).2 b).1) (min (findR L a).1 (findR (findR L a).2 b).1)
theorem joinL_ok {N:Nat}{L:List Nat}{a b:Nat} (h:Dn N L) (ha:a<N) (hb:b<N):Dn N (joinL L a b):=by
 obtain⟨a1,a2⟩:=findR_ok h ha
 obtain⟨b1,b2⟩:=findR_ok a2 hb
 exact b2.set (by omega) (by omega)
theorem fjoin_ok {h:AH}{wb lb N a b:Nat}{fc:AV}{L:List Nat} (hw:h.get wb=some (.cells [.sl lb 0 N N,fc] 2 false)) (hg:h.get lb=some (.cells (nC L) 1 false)) (hD:Dn N L) (ha:a<N) (hb:b<N) (hN:N<2 ^ 40) (hne:wb≠lb) :
 C prg 51 [.ptr wb 0,.int .i64 (a:Nat),.int .i64 (b:Nat)] h fun _ h'=>Upd h h' lb (.cells (nC (joinL L a b)) 1 false):=by
 refine C.func pf51 ?_
 refine W.seq (W.reg (G.gcall 2 (by simp only[am,evOp,simprocAttr,initTm]<;>rfl) rfl (by simp only[am,evOp,simprocAttr,initTm]) (by simp only[am,evOp,simprocAttr,initTm]<;>rfl) (ffind_ok hw hg hD ha hN hne) fun r h1 hq=>?_))
 obtain⟨rfl,u1⟩:=hq
 obtain⟨a1,a2⟩:=findR_ok hD ha
 have w1:h1.get wb=some (.cells [.sl lb 0 N N,fc] 2 false):=by rw[u1.ne hne]; exact hw
 refine G.gcall 2 (by simp only[am,evOp,simprocAttr,initTm]<;>rfl) rfl (by simp only[am,evOp,simprocAttr,initTm]) (by simp only[am,evOp,simprocAttr,initTm]<;>rfl) (ffind_ok w1 u1.get a2 hb hN hne) fun r h2 hq=>?_
 obtain⟨rfl,u2⟩:=hq
 obtain⟨b1,b2⟩:=findR_ok a2 hb
 have w2:h2.get wb=some (.cells [.sl lb 0 N N,fc] 2 false):=by rw[u2.ne hne]; exact w1
 have rw2:rdCells h2 wb 0 1=some [.sl lb 0 N N]:=rd_at w2 rfl
 refine G.run (by simp only[am,evOp,simprocAttr]<;>rfl) ?_
 have hJ:joinL L a b=(findR (findR L a).2 b).2.set (max (findR L a).1 (findR (findR L a).2 b).1) (min (findR L a).1 (findR (findR L a).2 b).1):=rfl
 rw[hJ]
 generalize (findR (findR L a).2 b).2=L2 at *
 generalize (findR (findR L a).2 b).1=y at *
 generalize (findR L a).1=x at *
 have hL2:=b2.1
 have im:idx? ((max x y:Nat):Int) N=some (max x y):=idx_nat (by omega)
 have w7:=wr_at (v:=.int .i64 ((min x y:Nat):Int)) u2.get (show max x y<(nC L2).length by rw[nC_len]; omega)
 rw[set_nC] at w7
 have u7:=Upd.put (o:=.cells (nC (L2.set (max x y) (min x y))) 1 false) u2.get
 have emn:foldA mnA [.int .i64 ((x:Nat):Int),.int .i64 ((y:Nat):Int)]=some (.int .i64 ((min x y:Nat):Int)):=by
  have:foldA mnA [.int .i64 ((x:Nat):Int),.int .i64 ((y:Nat):Int)]=some (.int .i64 (if ((y:Nat):Int)<((x:Nat):Int) then ((y:Nat):Int) else ((x:Nat):Int))):=by simp [foldA,mnA]
  rw[this]
  congr 2
  split<;>omega
 have emx:foldA mxA [.int .i64 ((x:Nat):Int),.int .i64 ((y:Nat):Int)]=some (.int .i64 ((max x y:Nat):Int)):=by
  rw[mx2]
  congr 2
  split<;>omega
 refine W.run (by simp only[am,evOp,simprocAttr,rw2,emn,emx,im,Nat.mul_one,w7]<;>rfl) ?_
 exact⟨.tup [],rfl,(u1.trans u2).trans u7⟩
end Go.Proofs.YticaalcbgikjjaaGreatDoor
namespace Go.Proofs.YticaalcbgikjjaaGreatDoor
open Go.Am
theorem fparts1_ok {h:AH}{a:A4}:C prg 50 ([.agg (eA a)]++[]) h fun r h'=>r=.bool (!decide (a.2.2.2=2))∧Ext h.next h h':=by
 refine C.func pf50 ?_
 refine W.seq (W.run (by simp only[am,evOp,simprocAttr,initTm,eA]<;>rfl) ?_)
 have ex:Ext h.next h (h.new (.cells [.int .i64 a.1,.int .i64 a.2.1,.int .i64 a.2.2.1,.int .i64 a.2.2.2] 4 false)):=Ext.new (Nat.le_refl _)
 have g:(h.new (.cells [.int .i64 a.1,.int .i64 a.2.1,.int .i64 a.2.2.1,.int .i64 a.2.2.2] 4 false)).get h.next=some (.cells [.int .i64 a.1,.int .i64 a.2.1,.int .i64 a.2.2.1,.int .i64 a.2.2.2] 4 false):=by rw[AH.get_new,if_pos rfl]
 generalize h.new (.cells [.int .i64 a.1,.int .i64 a.2.1,.int .i64 a.2.2.1,.int .i64 a.2.2.2] 4 false)=h1 at *
 have r3:rdCells h1 h.next 3 1=some [.int .i64 a.2.2.2]:=rd_at g rfl
 refine W.seq (W.run (by simp only[am,evOp,simprocAttr,r3]<;>rfl) ?_)
 exact W.ret ⟨_,(by simp only[rs,rf50,am,evOp,simprocAttr]<;>rfl),rfl,ex⟩
def MapI (es:List (AV×AV×Nat)) (pl:List (Nat×Nat)):Prop:=es.map (fun e=>(e.1,e.2.1))=pl.map fun p=>(AV.int .i64 ((p.1:Nat):Int),AV.int .i64 ((p.2:Nat):Int))
def lkN (pl:List (Nat×Nat)) (k:Nat):Option Nat:=(pl.find? fun p=>p.1==k).map (·.2)
def upN:List (Nat×Nat)→Nat→Nat→List (Nat×Nat)
 | [],k,v=>[(k,v)]
 | p::r,k,v=>if p.1=k then (k,v)::r else p::upN r k v
theorem kfindI:∀ {es:List (AV×AV×Nat)}{pl:List (Nat×Nat)},MapI es pl→∀ k:Nat,(kfind .ki (.int .i64 (k:Nat)) es=some none∧lkN pl k=none∧upN pl k=fun v=>pl++[(k,v)]) ∨
 ∃ i v n,kfind .ki (.int .i64 (k:Nat)) es=some (some (i,.int .i64 ((v:Nat):Int),n))∧lkN pl k=some v∧∀ u:Nat,MapI (es.set i (.int .i64 (k:Nat),.int .i64 (u:Nat),n)) (upN pl k u)
 | [],pl,h,k=>by
   have:pl=[]:=by
    have:=congrArg List.length h
    simp at this
    exact List.length_eq_zero_iff.1 this.symm
   subst this
   exact .inl ⟨rfl,rfl,rfl⟩
 | e::r,[],h,k=>by simp [MapI] at h
 | (a,b,n)::r,p::pl,h,k=>by
   have h':=h
   simp only[MapI,List.map_cons,List.cons.injEq,Prod.mk.injEq] at h'
   obtain⟨⟨rfl,rfl⟩,h2⟩:=h'
   have hk:keyEq .ki (.int .i64 ((k:Nat):Int)) (.int .i64 ((p.1:Nat):Int))=some (((k:Nat):Int)==((p.1:Nat):Int)):=by simp [keyEq]
   by_cases q:p.1=k
   ·subst q
    refine .inr ⟨0,p.2,n,?_,by simp [lkN],fun u=>?_⟩
    ·simp only[kfind,hk,beq_self_eq_true]
    ·simp only[List.set_cons_zero,upN,if_true,MapI,List.map_cons]
     rw[h2]
   ·have hne:(((k:Nat):Int)==((p.1:Nat):Int))=false:=by rw[beq_eq_false_iff_ne]; omega
    have hl:lkN (p::pl) k=lkN pl k:=by simp [lkN,q]
    rcases kfindI (es:=r) (pl:=pl) h2 k with ⟨h3,h4,h5⟩|⟨i,v,m,h3,h4,h5⟩
    ·refine .inl ⟨?_,by rw[hl,h4],?_⟩
     ·simp only[kfind,hk,hne,h3]
      rfl
     ·funext u
      simp only[upN,if_neg q,h5,List.cons_append]
    ·refine .inr ⟨i+1,v,m,?_,by rw[hl,h4],fun u=>?_⟩
     ·simp only[kfind,hk,hne,h3]
      rfl
     ·simp only[List.set_cons_succ,upN,if_neg q,MapI,List.map_cons]
      rw[show List.map (fun e=>(e.1,e.2.1)) (r.set i (AV.int .i64 ((k:Nat):Int),AV.int .i64 ((u:Nat):Int),m))=_ from h5 u]
theorem mlk_ok {h:AH}{mb c:Nat}{es:List (AV×AV×Nat)}{pl:List (Nat×Nat)} (hg:h.get mb=some (.mapo es c)) (hm:MapI es pl) (k:Nat) :
 mlkA h .ki true (.int .i64 0) (.mp mb) (.int .i64 (k:Nat))=some (.tup [.int .i64 (((lkN pl k).getD 0:Nat):Int),.bool (lkN pl k).isSome]) ∧
 mlkA h .ki false (.int .i64 0) (.mp mb) (.int .i64 (k:Nat))=some (.int .i64 (((lkN pl k).getD 0:Nat):Int)):=by
 have hk:keyOk .ki (.int .i64 ((k:Nat):Int))=true:=by simp [keyOk,keyEq]
 rcases kfindI hm k with ⟨h1,h2,_⟩|⟨i,v,n,h1,h2,_⟩
 ·simp only[mlkA,hg,hk,h1,h2,if_true]
  exact⟨rfl,rfl⟩
 ·simp only[mlkA,hg,hk,h1,h2,if_true]
  exact⟨rfl,rfl⟩
theorem mup_ok {h:AH}{mb c:Nat}{es:List (AV×AV×Nat)}{pl:List (Nat×Nat)} (hg:h.get mb=some (.mapo es c)) (hm:MapI es pl) (k v:Nat) :
 ∃ es' c',mupA h .ki (.mp mb) (.int .i64 (k:Nat)) (.int .i64 (v:Nat))=some (.un,h.put mb (.mapo es' c'))∧MapI es' (upN pl k v):=by
 have hk:keyOk .ki (.int .i64 ((k:Nat):Int))=true:=by simp [keyOk,keyEq]
 rcases kfindI hm k with ⟨h1,h2,h3⟩|⟨i,u,n,h1,h2,h3⟩
 ·refine⟨es++[(.int .i64 ((k:Nat):Int),.int .i64 ((v:Nat):Int),c)],c+1,by simp only[mupA,hg,hk,h1,if_true],?_⟩
  rw[h3]
  simp only[MapI,List.map_append,List.map_cons,List.map_nil]
  rw[hm]
 ·exact⟨_,c,by simp only[mupA,hg,hk,h1,if_true],h3 v⟩
theorem upN_val {pl:List (Nat×Nat)}{k v M:Nat} (h:∀ p∈pl,p.2<M) (hv:v<M):∀ p∈upN pl k v,p.2<M:=by
 induction pl with
 | nil=>intro p hp; simp only[upN,List.mem_singleton] at hp; subst hp; exact hv
 | cons q r ih =>
   intro p hp
   simp only[upN] at hp
   split at hp
   ·rcases List.mem_cons.1 hp with rfl|hp
    ·exact hv
    ·exact h p (List.mem_cons_of_mem _ hp)
   ·rcases List.mem_cons.1 hp with rfl|hp
    ·exact h _ (List.mem_cons_self ..)
    ·exact ih (fun p hp=>h p (List.mem_cons_of_mem _ hp)) p hp
theorem lkN_val {pl:List (Nat×Nat)}{k v M:Nat} (h:∀ p∈pl,p.2<M) (hl:lkN pl k=some v):v<M:=by
 unfold lkN at hl
 obtain⟨p,hp,rfl⟩:=Option.map_eq_some_iff.1 hl
 exact h p (List.mem_of_find?_eq_some hp)
structure P3 where
 fs:List Nat
 vs:List Nat
 an:Nat
abbrev W3:=AV×AV×AV
def eP (w:W3):List AV:=[w.1,w.2.1,w.2.2]
def IsP (h:AH) (lo:Nat) (w:W3) (p:P3):Prop:=IsSl h 1 lo w.1 (nC p.fs)∧IsSl h 1 lo w.2.1 (nC p.vs)∧w.2.2=.int .i64 ((p.an:Nat):Int)
def inn (w:W3) (s:Bool):AV:=if s then w.2.1 else w.1
def PL3 (h:AH) (lo:Nat) (a:AV) (ps:List P3):Prop :=
 ∃ ws:List W3,IsSl h 3 lo a (ws.flatMap eP)∧ws.length=ps.length∧(∀ (i:Nat) (w:W3) (p:P3),ws[i]?=some w→ps[i]?=some p→IsP h lo w p) ∧
   (∀ b n,a=.sl b 0 n n→∀ w∈ws,∀ c m,(w.1=.sl c 0 m m∨w.2.1=.sl c 0 m m)→c≠b) ∧
   ∀ (i j:Nat) (w w':W3) (s t:Bool),ws[i]?=some w→ws[j]?=some w'→(i≠j∨s≠t)→∀ c m c' m',inn w s=.sl c 0 m m→inn w' t=.sl c' 0 m' m'→c≠c'
theorem inn_or {w:W3}{s:Bool}{v:AV} (h:inn w s=v):w.1=v∨w.2.1=v:=by
 cases s
 ·exact .inl h
 ·exact .inr h
theorem or_inn {w:W3}{v:AV} (h:w.1=v∨w.2.1=v):∃ s,inn w s=v:=by
 rcases h with h|h
 ·exact⟨false,h⟩
 ·exact⟨true,h⟩
theorem IsP.cong {h h':AH}{lo:Nat}{w:W3}{p:P3} (hp:IsP h lo w p) (hk:∀ c m,(w.1=.sl c 0 m m∨w.2.1=.sl c 0 m m)→lo≤c→c<h.next→h'.get c=h.get c):IsP h' lo w p :=
 ⟨hp.1.cong fun b n e q=>hk b n (.inl e) q (hp.1.lt e),hp.2.1.cong fun b n e q=>hk b n (.inr e) q (hp.2.1.lt e),hp.2.2⟩
theorem PL3.nil {h:AH}{lo:Nat}:PL3 h lo .nils []:=⟨[],.inl ⟨rfl,rfl⟩,rfl,(fun i w p h1=>by simp at h1),(fun b n e=>by cases e),fun i j w w' s t h1=>by simp at h1⟩
theorem PL3.cong {h h':AH}{lo:Nat}{a:AV}{ps:List P3} (hp:PL3 h lo a ps) (hk:∀ c,lo≤c→c<h.next→h'.get c=h.get c):PL3 h' lo a ps:=by
 obtain⟨ws,h1,h2,h3,h4,h5⟩:=hp
 exact⟨ws,h1.cong fun b n e q=>hk b q (h1.lt e),h2,fun i w p e1 e2=>(h3 i w p e1 e2).cong fun c m _ q1 q2=>hk c q1 q2,h4,h5⟩
theorem PL3.ext {h h':AH}{lo:Nat}{a:AV}{ps:List P3} (hp:PL3 h lo a ps) (hx:Ext h.next h h'):PL3 h' lo a ps:=hp.cong fun c _ q=>hx.gt c q
theorem PL3.len {h:AH}{lo:Nat}{a:AV}{ps:List P3} (hp:PL3 h lo a ps):lenLA a=some (.int .i64 (ps.length:Nat)):=by
 obtain⟨ws,h1,h2,_⟩:=hp
 have:=(IsSl.sl (f:=eP) (e:=3) (by omega) (fun _=>rfl) h1).len
 rw[List.length_map,h2] at this
 exact this
theorem PL3.cells {h:AH}{lo:Nat}{a:AV}{ps:List P3} (hp:PL3 h lo a ps):a.cells=[a]∧a.one=true:=by
 obtain⟨ws,h1,_⟩:=hp
 exact h1.cells
theorem PL3.mono {h:AH}{lo lo':Nat}{a:AV}{ps:List P3} (hp:PL3 h lo a ps) (hl:lo'≤lo):PL3 h lo' a ps:=by
 obtain⟨ws,h1,h2,h3,h4,h5⟩:=hp
 exact⟨ws,h1.mono hl,h2,fun i w p e1 e2=>let ⟨q1,q2,q3⟩:=h3 i w p e1 e2; ⟨q1.mono hl,q2.mono hl,q3⟩,h4,h5⟩
theorem PL3.at {h:AH}{lo:Nat}{a:AV}{ps:List P3} (hp:PL3 h lo a ps) {k:Nat} (hk:k<ps.length) :
 ∃ b n w,lo≤b∧a=.sl b 0 n n∧n=ps.length∧idx? ((k:Nat):Int) n=some k∧IsP h lo w ps[k]∧rdCells h b (k*3) 1=some [w.1]∧rdCells h b (k*3+1) 1=some [w.2.1]∧rdCells h b (k*3+2) 1=some [w.2.2]∧rdCells h b (k*3) 3=some [w.1,w.2.1,w.2.2]:=by
 obtain⟨ws,h1,h2,h3,h4,_⟩:=hp
 have hkw:k<ws.length:=by omega
 have hs:=IsSl.sl (f:=eP) (e:=3) (by omega) (fun _=>rfl) h1
 rcases h1 with ⟨_,hz⟩|⟨b,n,hb,rfl,hg,hl⟩
 ·exfalso
  have:=congrArg List.length hz
  rw[flat_len (f:=eP) (e:=3) (fun _=>rfl)] at this
  have this:ws.length*3=0:=this
  omega
 ·have hn:n=ps.length:=by rw[flat_len (f:=eP) (e:=3) (fun _=>rfl)] at hl; omega
  obtain⟨b',q,a1,r1,r2,_⟩:=hs.at (map_at (f:=eP) hkw)
  have ik:idx? ((k:Nat):Int) n=some k:=idx_nat (by omega)
  have e:iadrL 3 (.sl b 0 n n) (.int .i64 ((k:Nat):Int))=some (.ptr b (k*3)):=by simp [iadrL,ik]
  rw[e] at a1
  cases a1
  exact⟨b,n,ws[k],hb,rfl,hn,ik,h3 k _ _ (List.getElem?_eq_getElem hkw) (List.getElem?_eq_getElem hk),r2 0 _ rfl,r2 1 _ rfl,r2 2 _ rfl,r1⟩
theorem PL3.push {h:AH}{lo:Nat}{a:AV}{ps:List P3} (hp:PL3 h lo a ps) (hlo:lo≤h.next) (hn:ps.length<2 ^ 30) :
 ∃ a' h',appA (h.new (.cells [.nils,.nils,.int .i64 0] 3 false)) 3 56 a (.sl h.next 0 1 1)=some (a',h')∧PL3 h' lo a' (ps++[⟨[],[],0⟩])∧Ext lo h h'∧h.next≤h'.next:=by
 obtain⟨ws,h1,h2,h3,h4,h5⟩:=hp
 have hwl:=flat_len (f:=eP) (e:=3) (fun _=>rfl) ws
 have x1:Ext h.next h (h.new (.cells [.nils,.nils,.int .i64 0] 3 false)):=Ext.new (Nat.le_refl _)
 have g1:(h.new (.cells [.nils,.nils,.int .i64 0] 3 false)).get h.next=some (.cells [.nils,.nils,.int .i64 0] 3 false):=by rw[AH.get_new,if_pos rfl]
 have n1:(h.new (.cells [.nils,.nils,.int .i64 0] 3 false)).next=h.next+1:=rfl
 generalize h.new (.cells [.nils,.nils,.int .i64 0] 3 false)=h0 at *
 obtain⟨a',h',q1,q2,q3,q4,q5,q6,_⟩:=(h1.ext x1 (Nat.le_refl _)).app (bytes:=56) (x:=h.next) (new:=[.nils,.nils,.int .i64 0]) (by omega) (by omega) g1 hlo (fun b n e=>by have:=h1.lt e; omega) rfl rfl (by rw[hwl]; unfold tooMany; omega) (by rw[hwl]; unfold tooMany; omega)
 have hbl:∀ w∈ws,∀ c m,(w.1=.sl c 0 m m∨w.2.1=.sl c 0 m m)→c<h.next:=fun w hw c m e=>by
  obtain⟨i,hi,rfl⟩:=List.getElem_of_mem hw
  obtain⟨k1,k2,_⟩:=h3 i _ _ (List.getElem?_eq_getElem hi) (List.getElem?_eq_getElem (by omega))
  rcases e with e|e
  ·exact k1.lt e
  ·exact k2.lt e
 refine⟨a',h',q1,⟨ws++[(.nils,.nils,.int .i64 0)],?_,by rw[List.length_append,List.length_append,h2]; rfl,fun i w p e1 e2=>?_,fun b n e w hw c m e2=>?_,fun i j w w' s t e1 e2 hst c m c' m' e3 e4=>?_⟩,(x1.mono hlo).trans q3,by omega⟩
 ·rw[List.flatMap_append]
  exact q2
 ·by_cases hi:i<ws.length
  ·rw[List.getElem?_append_left hi] at e1
   rw[List.getElem?_append_left (by omega)] at e2
   have hw:=List.mem_of_getElem? e1
   refine (h3 i w p e1 e2).cong fun c m e _ ql=>?_
   rw[q6 c (by omega) fun b n e'=>h4 b n e' w hw c m e,x1.gt c ql]
  ·have hil:i<(ws++[((.nils,.nils,.int .i64 0):W3)]).length:=(List.getElem?_eq_some_iff.1 e1).1
   rw[List.length_append,List.length_cons,List.length_nil] at hil
   have hi':i=ws.length:=by omega
   subst hi'
   rw[List.getElem?_append_right (by omega),Nat.sub_self] at e1
   rw[h2,List.getElem?_append_right (by omega),Nat.sub_self] at e2
   cases e1
   cases e2
   exact⟨.inl ⟨rfl,rfl⟩,.inl ⟨rfl,rfl⟩,rfl⟩
 ·rw[q4] at e
  cases e
  rcases List.mem_append.1 hw with hw|hw
  ·have:=hbl w hw c m e2; omega
  ·rw[List.mem_singleton] at hw
   subst hw
   rcases e2 with e2|e2<;>cases e2
 ·have old:∀ {i:Nat}{w:W3}{s:Bool}{c m:Nat},(ws++[((.nils,.nils,.int .i64 0):W3)])[i]?=some w→inn w s=.sl c 0 m m→ws[i]?=some w:=fun {i w s c m} e1 e3=>by
   by_cases hi:i<ws.length
   ·rwa [List.getElem?_append_left hi] at e1
   ·rw[List.getElem?_append_right (by omega)] at e1
    cases hi':i-ws.length with
    | zero=>rw[hi'] at e1; cases e1; cases s<;>cases e3
    | succ k=>rw[hi'] at e1; simp at e1
  exact h5 i j w w' s t (old e1 e3) (old e2 e4) hst c m c' m' e3 e4
theorem set_eP {j:Nat}{v:AV} (hj:j<3):∀ (xs:List W3) (k:Nat) (hk:k<xs.length) {w':W3},(eP xs[k]).set j v=eP w'→(xs.flatMap eP).set (k*3+j) v=(xs.set k w').flatMap eP:=by
 have key:∀ (xs:List W3) (k:Nat) (hk:k<xs.length),(xs.flatMap eP).set (k*3+j) v=splice (xs.flatMap eP) (k*3) ((eP xs[k]).set j v):=by
  intro xs
  induction xs with
  | nil=>intro k hk; exact absurd hk (Nat.not_lt_zero _)
  | cons y r ih =>
    intro k hk
    cases k with
    | zero =>
      simp only[splice,Nat.zero_mul,Nat.zero_add,List.take_zero,List.nil_append,List.flatMap_cons,List.getElem_cons_zero,List.length_set]
      rw[List.set_append_left _ _ (by show j<3; exact hj),show (eP y).length=3 from rfl,List.drop_left' (show (eP y).length=3 from rfl)]
    | succ k =>
      have:=ih k (Nat.lt_of_succ_lt_succ hk)
      simp only[splice,List.length_set] at this
      simp only[splice,List.flatMap_cons,List.getElem_cons_succ,List.length_set]
      have e1:(k+1)*3=(eP y).length+k*3:=by show _=3+k*3; omega
      rw[e1,List.take_length_add_append,Nat.add_assoc,Nat.add_assoc,List.drop_length_add_append,List.set_append_right _ _ (by omega),Nat.add_sub_cancel_left,this]
      simp only[List.append_assoc]
 intro xs k hk w' he
 rw[key xs k hk,he]
 exact splice_flat (f:=eP) (e:=3) (fun _=>rfl) xs k w' hk
theorem PL3.re {h h2:AH}{lo b n k:Nat}{ps:List P3}{ws:List W3}{p':P3}{w':W3}{s0:Bool} (h1:IsSl h 3 lo (.sl b 0 n n) (ws.flatMap eP)) (h2':ws.length=ps.length) (h3:∀ (i:Nat) (w:W3) (p:P3),ws[i]?=some w→ps[i]?=some p→IsP h lo w p)
 (h4:∀ w∈ws,∀ c m,(w.1=.sl c 0 m m∨w.2.1=.sl c 0 m m)→c≠b) (h5:∀ (i j:Nat) (w w':W3) (s t:Bool),ws[i]?=some w→ws[j]?=some w'→(i≠j∨s≠t)→∀ c m c' m',inn w s=.sl c 0 m m→inn w' t=.sl c' 0 m' m'→c≠c')
 (hkw:k<ws.length) (hg:h2.get b=some (.cells ((ws.set k w').flatMap eP) 3 false)) (keep:∀ (i:Nat) (w:W3),ws[i]?=some w→i≠k→∀ s c m,inn w s=.sl c 0 m m→h2.get c=h.get c)
 (hw:IsP h2 lo w' p') (hwb:∀ c m,(w'.1=.sl c 0 m m∨w'.2.1=.sl c 0 m m)→c≠b) (hfr:∀ s,inn w' s=inn ws[k] s∨s=s0∧∀ c m,inn w' s=.sl c 0 m m→h.next≤c):PL3 h2 lo (.sl b 0 n n) (ps.set k p'):=by
 have hk:k<ps.length:=by omega
 have hnx:∀ (i:Nat) (w:W3),ws[i]?=some w→∀ s c m,inn w s=.sl c 0 m m→c<h.next:=fun i w e s c m e2=>by
  have hil:=(List.getElem?_eq_some_iff.1 e).1
  obtain⟨k1,k2,_⟩:=h3 i w _ e (List.getElem?_eq_getElem (by omega))
  rcases inn_or e2 with e2|e2
  ·exact k1.lt e2
  ·exact k2.lt e2
 have hln:((ws.set k w').flatMap eP).length=(ws.flatMap eP).length:=by
  rw[flat_len (f:=eP) (e:=3) (fun _=>rfl),flat_len (f:=eP) (e:=3) (fun _=>rfl),List.length_set]
 rcases h1 with ⟨hz,_⟩|⟨b',n',hb,e0,_,hl⟩
 ·cases hz
 cases e0
 refine⟨ws.set k w',.inr ⟨b,n,hb,rfl,hg,by omega⟩,by simp [h2'],fun i w p e1 e2=>?_,fun b' m e w hw c m' e2=>?_,fun i j' w x s t e1 e2 hst c m c' m' e3 e4=>?_⟩
 ·rw[List.getElem?_set] at e1 e2
  by_cases q:k=i
  ·subst q
   rw[if_pos rfl,if_pos hkw] at e1
   rw[if_pos rfl,if_pos hk] at e2
   cases e1
   cases e2
   exact hw
  ·rw[if_neg q] at e1 e2
   exact (h3 i w p e1 e2).cong fun c m e _ _=>let ⟨s,e'⟩:=or_inn e; keep i w e1 (Ne.symm q) s c m e'
 ·cases e
  rcases List.mem_or_eq_of_mem_set hw with hw|rfl
  ·exact h4 w hw c m' e2
  ·exact hwb c m' e2
 ·have get:∀ {i:Nat}{w:W3},(ws.set k w')[i]?=some w→(i=k∧w=w')∨(i≠k∧ws[i]?=some w):=fun {i w} e=>by
   rw[List.getElem?_set] at e
   by_cases q:k=i
   ·subst q
    rw[if_pos rfl,if_pos hkw] at e
    cases e
    exact .inl ⟨rfl,rfl⟩
   ·rw[if_neg q] at e
    exact .inr ⟨fun q'=>q q'.symm,e⟩
  have hko:ws[k]?=some ws[k]:=List.getElem?_eq_getElem hkw
  rcases get e1 with ⟨rfl,rfl⟩|⟨i1,i2⟩
  ·rcases get e2 with ⟨rfl,rfl⟩|⟨j1,j2⟩
   ·have hst:s≠t:=by
     rcases hst with q|q
     ·exact absurd rfl q
     ·exact q
    rcases hfr s with f1|⟨f1,f2⟩
    ·rcases hfr t with g1|⟨g1,g2⟩
     ·exact h5 _ _ _ _ s t hko hko (.inr hst) c m c' m' (f1▸e3) (g1▸e4)
     ·have l1:=hnx _ _ hko s c m (f1▸e3)
      have l2:=g2 c' m' e4
      omega
    ·rcases hfr t with g1|⟨g1,g2⟩
     ·have l1:=hnx _ _ hko t c' m' (g1▸e4)
      have l2:=f2 c m e3
      omega
     ·exact absurd (f1.trans g1.symm) hst
   ·rcases hfr s with f1|⟨f1,f2⟩
    ·exact h5 _ _ _ _ s t hko j2 (.inl (Ne.symm j1)) c m c' m' (f1▸e3) e4
    ·have l1:=hnx _ _ j2 t c' m' e4
     have l2:=f2 c m e3
     omega
  ·rcases get e2 with ⟨rfl,rfl⟩|⟨j1,j2⟩
   ·rcases hfr t with g1|⟨g1,g2⟩
    ·exact h5 _ _ _ _ s t i2 hko (.inl i1) c m c' m' e3 (g1▸e4)
    ·have l1:=hnx _ _ i2 s c m e3
     have l2:=g2 c' m' e4
     omega
   ·exact h5 _ _ _ _ s t i2 j2 hst c m c' m' e3 e4
theorem PL3.cnt {h:AH}{lo k:Nat}{a:AV}{ps:List P3} (hp:PL3 h lo a ps) (hk:k<ps.length) :
 ∃ b n h2,lo≤b∧a=.sl b 0 n n∧idx? ((k:Nat):Int) n=some k∧rdCells h b (k*3+2) 1=some [.int .i64 ((ps[k].an:Nat):Int)]∧wrCells h b (k*3+2) [.int .i64 ((ps[k].an+1:Nat):Int)]=some h2 ∧
   PL3 h2 lo a (ps.set k { ps[k] with an:=ps[k].an+1})∧Ext lo h h2∧h2.next=h.next∧∀ c,c<lo→h2.get c=h.get c:=by
 have hp0:=hp
 obtain⟨ws,h1,h2,h3,h4,h5⟩:=hp
 have hkw:k<ws.length:=by omega
 obtain⟨b,n,w0,hb,rfl,hn,ik,_,_,_,_,_⟩:=hp0.at hk
 have h1':=h1
 rcases h1 with ⟨hz,_⟩|⟨b',n',_,e0,hg,hl⟩
 ·cases hz
 cases e0
 obtain⟨k1,k2,k3⟩:=h3 k _ _ (List.getElem?_eq_getElem hkw) (List.getElem?_eq_getElem hk)
 have hwl:=flat_len (f:=eP) (e:=3) (fun _=>rfl) ws
 have r2:rdCells h b (k*3+2) 1=some [ws[k].2.2]:=by
  obtain⟨q1,q2,q3,q4,_⟩:=(IsSl.sl (f:=eP) (e:=3) (by omega) (fun _=>rfl) h1').at (map_at (f:=eP) hkw)
  have e:iadrL 3 (.sl b 0 n n) (.int .i64 ((k:Nat):Int))=some (.ptr b (k*3)):=by simp [iadrL,ik]
  rw[e] at q3
  cases q3
  obtain⟨_,_,q6,_,q7,_⟩:=(IsSl.sl (f:=eP) (e:=3) (by omega) (fun _=>rfl) h1').at (map_at (f:=eP) hkw)
  rw[e] at q6
  cases q6
  exact q7 2 _ rfl
 rw[k3] at r2
 have w7:=wr_at (v:=.int .i64 ((ps[k].an+1:Nat):Int)) hg (show k*3+2<(ws.flatMap eP).length by omega)
 rw[set_eP (by omega) ws k hkw (w':=(ws[k].1,ws[k].2.1,.int .i64 ((ps[k].an+1:Nat):Int))) rfl] at w7
 have u:=Upd.put (o:=.cells ((ws.set k (ws[k].1,ws[k].2.1,.int .i64 ((ps[k].an+1:Nat):Int))).flatMap eP) 3 false) hg
 have hmem:∀ {i:Nat}{w:W3},ws[i]?=some w→w∈ws:=fun e=>List.mem_of_getElem? e
 have hko:ws[k]?=some ws[k]:=List.getElem?_eq_getElem hkw
 refine⟨b,n,_,hb,rfl,ik,r2,w7,PL3.re (s0:=true) h1' h2 h3 (h4 b n rfl) h5 hkw u.get (fun i w e _ s c m e2=>u.ne (h4 b n rfl w (hmem e) c m (inn_or e2))) ⟨?_,?_,rfl⟩ (fun c m e=>h4 b n rfl _ (hmem hko) c m e) (fun s=>.inl (by cases s<;>rfl)),u.ext hb,u.nx,fun c hc=>u.ne (by omega)⟩
 ·exact k1.cong fun c m e _=>u.ne (h4 b n rfl _ (hmem hko) c m (.inl e))
 ·exact k2.cong fun c m e _=>u.ne (h4 b n rfl _ (hmem hko) c m (.inr e))
def addP (p:P3) (s:Bool) (x:Nat):P3:=if s then { p with vs:=p.vs++[x]} else { p with fs:=p.fs++[x]}
def lsP (p:P3) (s:Bool):List Nat:=if s then p.vs else p.fs
theorem PL3.app {h:AH}{lo k:Nat}{a:AV}{ps:List P3} (hp:PL3 h lo a ps) (hlo:lo≤h.next) (hk:k<ps.length) (s:Bool) (x:Nat) (hll:(lsP ps[k] s).length<2 ^ 30) :
 ∃ b n v v' h1 h2,lo≤b∧a=.sl b 0 n n∧idx? ((k:Nat):Int) n=some k∧rdCells h b (k*3+(if s then 1 else 0)) 1=some [v]∧appA (h.new (.cells [.int .i64 ((x:Nat):Int)] 1 false)) 1 8 v (.sl h.next 0 1 1)=some (v',h1) ∧
   wrCells h1 b (k*3+(if s then 1 else 0)) [v']=some h2∧(v'.cells=[v']∧v'.one=true)∧PL3 h2 lo a (ps.set k (addP ps[k] s x))∧Ext lo h h2:=by
 have hp0:=hp
 obtain⟨ws,h1,h2,h3,h4,h5⟩:=hp
 have hkw:k<ws.length:=by omega
 obtain⟨b,n,w0,hb,rfl,hn,ik,_,_,_,_,_⟩:=hp0.at hk
 have h1':=h1
 rcases h1 with ⟨hz,_⟩|⟨b',n',_,e0,hg,hl⟩
 ·cases hz
 cases e0
 have hko:ws[k]?=some ws[k]:=List.getElem?_eq_getElem hkw
 obtain⟨k1,k2,k3⟩:=h3 k _ _ hko (List.getElem?_eq_getElem hk)
 have hwl:=flat_len (f:=eP) (e:=3) (fun _=>rfl) ws
 have hbn:=AH.lt_of_get hg
 have hmem:∀ {i:Nat}{w:W3},ws[i]?=some w→w∈ws:=fun e=>List.mem_of_getElem? e
 have hs:IsSl h 1 lo (inn ws[k] s) (nC (lsP ps[k] s)):=by cases s<;>assumption
 have hj:k*3+(if s then 1 else 0)<(ws.flatMap eP).length:=by rw[hwl]; cases s<;>(simp only[Bool.false_eq_true,if_false,if_true]; omega)
 have hrd:rdCells h b (k*3+(if s then 1 else 0)) 1=some [inn ws[k] s]:=by
  obtain⟨q1,q2,q3,q4,q5,_⟩:=(IsSl.sl (f:=eP) (e:=3) (by omega) (fun _=>rfl) h1').at (map_at (f:=eP) hkw)
  have e:iadrL 3 (.sl b 0 n n) (.int .i64 ((k:Nat):Int))=some (.ptr b (k*3)):=by simp [iadrL,ik]
  rw[e] at q3
  cases q3
  cases s
  ·exact q5 0 _ rfl
  ·exact q5 1 _ rfl
 have x1:Ext h.next h (h.new (.cells [.int .i64 ((x:Nat):Int)] 1 false)):=Ext.new (Nat.le_refl _)
 have g1:(h.new (.cells [.int .i64 ((x:Nat):Int)] 1 false)).get h.next=some (.cells [.int .i64 ((x:Nat):Int)] 1 false):=by rw[AH.get_new,if_pos rfl]
 have n1:(h.new (.cells [.int .i64 ((x:Nat):Int)] 1 false)).next=h.next+1:=rfl
 generalize h.new (.cells [.int .i64 ((x:Nat):Int)] 1 false)=h0 at *
 obtain⟨v',h8,q1,q2,q3,q4,q5,q6,_⟩:=(hs.ext x1 (Nat.le_refl _)).app (bytes:=8) (x:=h.next) (new:=[.int .i64 ((x:Nat):Int)]) (by omega) (by omega) g1 hlo (fun b n e=>by have:=hs.lt e; omega) rfl rfl (by rw[nC_len]; unfold tooMany; omega) (by rw[nC_len]; unfold tooMany; omega)
 have gk:∀ c,c<h.next→(∀ m,inn ws[k] s=.sl c 0 m m→False)→h8.get c=h.get c:=fun c hc hne=>by
  rw[q6 c (by omega) fun b' m e e'=>hne m (by rw[e,e']),x1.gt c hc]
 have hb8:h8.get b=some (.cells (ws.flatMap eP) 3 false):=by
  rw[gk b hbn fun m e=>h4 b n rfl _ (hmem hko) b m (inn_or e) rfl]
  exact hg
 have w7:=wr_at (v:=v') hb8 hj
 have hset:(ws.flatMap eP).set (k*3+(if s then 1 else 0)) v'=(ws.set k (if s then (ws[k].1,v',ws[k].2.2) else (v',ws[k].2.1,ws[k].2.2))).flatMap eP:=by
  cases s
  ·exact set_eP (j:=0) (by omega) ws k hkw rfl
  ·exact set_eP (j:=1) (by omega) ws k hkw rfl
 rw[hset] at w7
 have u:=Upd.put (o:=.cells ((ws.set k (if s then (ws[k].1,v',ws[k].2.2) else (v',ws[k].2.1,ws[k].2.2))).flatMap eP) 3 false) hb8
 have hlt:∀ {i:Nat}{w:W3},ws[i]?=some w→∀ {t c m},inn w t=.sl c 0 m m→c<h.next:=fun {i w} e {t c m} e2=>by
  have hil:=(List.getElem?_eq_some_iff.1 e).1
  obtain⟨k1,k2,_⟩:=h3 i w _ e (List.getElem?_eq_getElem (by omega))
  rcases inn_or e2 with e2|e2
  ·exact k1.lt e2
  ·exact k2.lt e2
 have keep:∀ (i:Nat) (w:W3),ws[i]?=some w→∀ t c m,(i≠k∨t≠s)→inn w t=.sl c 0 m m→(h8.put b (.cells ((ws.set k (if s then (ws[k].1,v',ws[k].2.2) else (v',ws[k].2.1,ws[k].2.2))).flatMap eP) 3 false)).get c=h.get c:=fun i w e t c m hd e2=>by
  rw[u.ne (h4 b n rfl w (hmem e) c m (inn_or e2)),gk c (hlt e e2) fun m' e3=>h5 i k w _ t s e hko hd c m c m' e2 e3 rfl]
 have hv':IsSl (h8.put b (.cells ((ws.set k (if s then (ws[k].1,v',ws[k].2.2) else (v',ws[k].2.1,ws[k].2.2))).flatMap eP) 3 false)) 1 lo v' (nC (lsP ps[k] s++[x])):=by
  rw[nC_app]
  exact q2.cong fun c m e _=>u.ne (by rw[q4] at e; cases e; omega)
 have hvb:∀ c m,v'=.sl c 0 m m→c=h0.next:=fun c m e=>by rw[q4] at e; cases e; rfl
 refine⟨b,n,inn ws[k] s,v',h8,_,hb,rfl,ik,hrd,q1,w7,hv'.cells,PL3.re (s0:=s) h1' h2 h3 (h4 b n rfl) h5 hkw u.get (fun i w e hne t c m e2=>keep i w e t c m (.inl hne) e2) ?_ (fun c m e=>?_) (fun t=>?_),(x1.mono hlo).trans (q3.trans (u.ext hb))⟩
 ·cases s
  ·exact⟨hv',k2.cong fun c m e _=>keep k _ hko true c m (.inr (by simp)) e,k3⟩
  ·exact⟨k1.cong fun c m e _=>keep k _ hko false c m (.inr (by simp)) e,hv',k3⟩
 ·cases s
  ·rcases e with e|e
   ·have:=hvb c m e; omega
   ·exact h4 b n rfl _ (hmem hko) c m (.inr e)
  ·rcases e with e|e
   ·exact h4 b n rfl _ (hmem hko) c m (.inl e)
   ·have:=hvb c m e; omega
 ·cases s<;>cases t
  ·exact .inr ⟨rfl,fun c m e=>by have:=hvb c m e; omega⟩
  ·exact .inl rfl
  ·exact .inl rfl
  ·exact .inr ⟨rfl,fun c m e=>by have:=hvb c m e; omega⟩
end Go.Proofs.YticaalcbgikjjaaGreatDoor
namespace Go.Proofs.YticaalcbgikjjaaGreatDoor
open Go.Am
def p0:P3:=⟨[],[],0⟩
abbrev S3:=List Nat×List (Nat×Nat)×List P3
def fstep (a:S3) (f:Nat):S3 :=
 match lkN a.2.1 (findR a.1 f).1 with
 | some k=>((findR a.1 f).2,a.2.1,a.2.2.set k (addP (a.2.2.getD k p0) false f))
 | none=>((findR (findR a.1 f).2 f).2,upN a.2.1 (findR (findR a.1 f).2 f).1 a.2.2.length,(a.2.2++[p0]).set a.2.2.length (addP p0 false f))
def vstep (F:Nat) (a:S3) (x:Nat):S3 :=
 match lkN a.2.1 (findR a.1 (F+x)).1 with
 | some k=>((findR a.1 (F+x)).2,a.2.1,a.2.2.set k (addP (a.2.2.getD k p0) true x))
 | none=>((findR a.1 (F+x)).2,a.2.1,a.2.2)
def astep (a:S3) (g:A4):S3 :=
 ((findR a.1 g.2.2.1.toNat).2,a.2.1,a.2.2.set ((lkN a.2.1 (findR a.1 g.2.2.1.toNat).1).getD 0) { a.2.2.getD ((lkN a.2.1 (findR a.1 g.2.2.1.toNat).1).getD 0) p0 with an:=(a.2.2.getD ((lkN a.2.1 (findR a.1 g.2.2.1.toNat).1).getD 0) p0).an+1})
def jstep (F:Nat) (L:List Nat) (g:A4):List Nat:=joinL L g.2.2.1.toNat (F+g.2.1.toNat)
noncomputable def highs (n:Nat) (E:List (Int×Int)) (T:List (List Int)):List A4:=(anglesF n E T).filter fun x=>!(!decide (x.2.2.2=2))
def partsA (n F:Nat) (H:List A4):List P3 :=
 (H.foldl astep ((List.range n).foldl (vstep F) ((List.range F).foldl fstep (H.foldl (jstep F) (List.range (F+n)),[],[])))).2.2
open Classical in
noncomputable def partsF (n:Nat) (E:List (Int×Int)) (T:List (List Int)):List P3:=if askF n E T=true then partsA n (facesR n E T).length (highs n E T) else []
structure Ok3 (N k:Nat) (a:S3):Prop where
 dn:Dn N a.1
 pv:∀ p∈a.2.1,p.2<a.2.2.length
 le:a.2.2.length≤k
 ls:∀ p∈a.2.2,p.fs.length≤k∧p.vs.length≤k∧p.an≤k
theorem getD_P {ps:List P3}{k:Nat} (h:k<ps.length):ps.getD k p0=ps[k]:=by
 rw[List.getD_eq_getElem?_getD,List.getElem?_eq_getElem h]
 rfl
theorem Ok3.mono {N k k':Nat}{a:S3} (h:Ok3 N k a) (hk:k≤k'):Ok3 N k' a:=⟨h.dn,h.pv,Nat.le_trans h.le hk,fun p hp=>let ⟨a,b,c⟩:=h.ls p hp; ⟨by omega,by omega,by omega⟩⟩
theorem Ok3.fstep {N k f:Nat}{a:S3} (h:Ok3 N k a) (hf:f<N):Ok3 N (k+1) (fstep a f)∧0<(fstep a f).2.2.length:=by
 obtain⟨r1,r2⟩:=findR_ok h.dn hf
 unfold Proofs.YticaalcbgikjjaaGreatDoor.fstep
 cases hl:lkN a.2.1 (findR a.1 f).1 with
 | some j =>
   have hj:=lkN_val h.pv hl
   refine⟨⟨r2,fun p hp=>by rw[List.length_set]; exact h.pv p hp,by rw[List.length_set]; exact Nat.le_succ_of_le h.le,fun p hp=>?_⟩,by rw[List.length_set]; omega⟩
   rcases List.mem_or_eq_of_mem_set hp with hp|rfl
   ·obtain⟨a,b,c⟩:=h.ls p hp
    exact⟨by omega,by omega,by omega⟩
   ·rw[getD_P hj]
    obtain⟨a,b,c⟩:=h.ls _ (List.getElem_mem hj)
    simp only[addP,Bool.false_eq_true,if_false,List.length_append,List.length_cons,List.length_nil]
    omega
 | none =>
   obtain⟨s1,s2⟩:=findR_ok r2 hf
   refine⟨⟨s2,?_,?_,fun p hp=>?_⟩,?_⟩
   ·simp only[List.length_set,List.length_append,List.length_cons,List.length_nil]
    exact upN_val (fun p hp=>Nat.lt_succ_of_lt (h.pv p hp)) (Nat.lt_succ_self _)
   ·simp only[List.length_set,List.length_append,List.length_cons,List.length_nil]
    have:=h.le
    omega
   ·rcases List.mem_or_eq_of_mem_set hp with hp|rfl
    ·rcases List.mem_append.1 hp with hp|hp
     ·obtain⟨a,b,c⟩:=h.ls p hp
      exact⟨by omega,by omega,by omega⟩
     ·rw[List.mem_singleton] at hp
      subst hp
      exact⟨Nat.zero_le _,Nat.zero_le _,Nat.zero_le _⟩
    ·simp [addP,p0]
   ·simp
theorem Ok3.vstep {N k F x:Nat}{a:S3} (h:Ok3 N k a) (hf:F+x<N):Ok3 N (k+1) (vstep F a x)∧(vstep F a x).2.2.length=a.2.2.length:=by
 obtain⟨r1,r2⟩:=findR_ok h.dn hf
 unfold Proofs.YticaalcbgikjjaaGreatDoor.vstep
 cases hl:lkN a.2.1 (findR a.1 (F+x)).1 with
 | some j =>
   have hj:=lkN_val h.pv hl
   refine⟨⟨r2,fun p hp=>by rw[List.length_set]; exact h.pv p hp,by rw[List.length_set]; exact Nat.le_succ_of_le h.le,fun p hp=>?_⟩,by rw[List.length_set]⟩
   rcases List.mem_or_eq_of_mem_set hp with hp|rfl
   ·obtain⟨a,b,c⟩:=h.ls p hp
    exact⟨by omega,by omega,by omega⟩
   ·rw[getD_P hj]
    obtain⟨a,b,c⟩:=h.ls _ (List.getElem_mem hj)
    simp only[addP,if_true,List.length_append,List.length_cons,List.length_nil]
    omega
 | none=>exact⟨⟨r2,h.pv,Nat.le_succ_of_le h.le,(h.mono (Nat.le_succ k)).ls⟩,rfl⟩
theorem lk_getD {pl:List (Nat×Nat)}{r M:Nat} (h:∀ p∈pl,p.2<M) (h0:0<M):(lkN pl r).getD 0<M:=by
 cases hl:lkN pl r with
 | none=>exact h0
 | some k=>exact lkN_val h hl
theorem Ok3.astep {N k:Nat}{a:S3}{g:A4} (h:Ok3 N k a) (hf:g.2.2.1.toNat<N) (h0:0<a.2.2.length):Ok3 N (k+1) (astep a g)∧(astep a g).2.2.length=a.2.2.length:=by
 obtain⟨r1,r2⟩:=findR_ok h.dn hf
 have hj:=lk_getD (r:=(findR a.1 g.2.2.1.toNat).1) h.pv h0
 unfold Proofs.YticaalcbgikjjaaGreatDoor.astep
 refine⟨⟨r2,fun p hp=>by simp only[List.length_set]; exact h.pv p hp,by simp only[List.length_set]; exact Nat.le_succ_of_le h.le,fun p hp=>?_⟩,by simp only[List.length_set]⟩
 rcases List.mem_or_eq_of_mem_set hp with hp|rfl
 ·obtain⟨a,b,c⟩:=h.ls p hp
  exact⟨by omega,by omega,by omega⟩
 ·rw[getD_P hj]
  obtain⟨a,b,c⟩:=h.ls _ (List.getElem_mem hj)
  exact⟨by simp only; omega,by simp only; omega,by simp only; omega⟩
theorem Dn.range (N:Nat):Dn N (List.range N):=⟨by simp,fun i hi=>by
 rw[List.getD_eq_getElem?_getD,List.getElem?_range hi]
 exact Nat.le_refl i⟩
end Go.Proofs.YticaalcbgikjjaaGreatDoor
namespace Go.Proofs.YticaalcbgikjjaaGreatDoor
open Go.Am
structure J3 (h9 h':AH) (lb mb N k:Nat) (a:AV) (s:S3):Prop where
 ok:Ok3 N k s
 mp:∃ es c,h'.get mb=some (.mapo es c)∧MapI es s.2.1
 ld:h'.get lb=some (.cells (nC s.1) 1 false)
 pl:PL3 h' h9.next a s.2.2
 kp:Kp (fun c=>c=lb∨c=mb) h9 h'
theorem kp_extn {S:Nat→Prop}{h h1 h2:AH} (a:Kp S h h1) (b:Ext h.next h1 h2):Kp S h h2:=⟨Nat.le_trans a.nx b.nx,fun c hc hn=>(b.gt c hc).trans (a.gt c hc hn),fun c hc=>(b.ty c hc).trans (a.ty c hc)⟩
theorem J3.lead {h9 h' h2:AH}{lb mb N k:Nat}{a:AV}{s:S3}{L:List Nat} (j:J3 h9 h' lb mb N k a s) (hl:lb<h9.next) (hm:lb≠mb) (hD:Dn N L) (u:Upd h' h2 lb (.cells (nC L) 1 false)):J3 h9 h2 lb mb N k a (L,s.2.1,s.2.2) :=
 ⟨⟨hD,j.ok.pv,j.ok.le,j.ok.ls⟩,by rw[u.ne (Ne.symm hm)]; exact j.mp,u.get,j.pl.cong fun c q _=>u.ne (by omega),j.kp.trans (u.kp (S:=fun c=>c=lb) rfl) fun c _ e=>.inl e⟩
set_option maxHeartbeats 4000000 in
theorem fparts_ok {h:AH}{n:Nat}{ev tv:AV}{E:List (Int×Int)}{T:List (List Int)} (he:SlE h ev E) (hG:GoodP (n:Nat) E) (h0:0<E.length) (hT:SlL h tv T) (hT1:T.length<2 ^ 40) (hT2:∀ l∈T,l.length<2 ^ 40)
 (hH:∀ g∈highs n E T,0≤g.2.1∧g.2.1<(n:Nat)∧0≤g.2.2.1∧g.2.2.1<((facesR n E T).length:Nat)) (hHl:(highs n E T).length≤256) :
 C prg 18 [.agg [.int .i64 (n:Nat),ev],tv] h fun r h'=>PL3 h' h.next r (partsF n E T)∧Ext h.next h h'∧(partsF n E T).length≤1000∧∀ p∈partsF n E T,p.fs.length≤1000∧p.vs.length≤1000:=by
 obtain⟨ec,eo⟩:=he.cells
 obtain⟨tc,to⟩:=hT.cells
 have hm:=hG.1
 obtain⟨m1,m2,m3,m4⟩:=may_of hm
 refine C.func pf18 ?_
 refine W.seq (W.run (by simp only[am,evOp,simprocAttr,initTm]<;>rfl) ?_)
 have x0:Ext h.next h (h.new (.cells [.int .i64 (n:Nat),ev] 2 false)):=Ext.new (Nat.le_refl _)
 have g0:(h.new (.cells [.int .i64 (n:Nat),ev] 2 false)).get h.next=some (.cells [.int .i64 (n:Nat),ev] 2 false):=by rw[AH.get_new,if_pos rfl]
 have n0:(h.new (.cells [.int .i64 (n:Nat),ev] 2 false)).next=h.next+1:=rfl
 generalize (h.new (.cells [.int .i64 (n:Nat),ev] 2 false))=h1 at *
 have rA:rdCells h1 h.next 0 2=some [.int .i64 (n:Nat),ev]:=by rw[rdCells_of g0]; rfl
 refine W.seq (W.seq (W.reg (G.gcall 2 (by simp only[am,evOp,simprocAttr,initTm,rA]<;>rfl) rfl (by simp only[am,evOp,simprocAttr,initTm,rA]) (by simp only[am,evOp,simprocAttr,initTm,rA]<;>rfl) (fasked_ok (n:=n) (he.ext x0 (Nat.le_refl _)) hG (hT.ext x0) hT1 hT2) fun r h2 hq=>?_)))
 obtain⟨rfl,x2⟩:=hq
 have n2:=x2.nx
 have X2:Ext h.next h h2:=x0.trans (x2.mono (by omega))
 have hPF:partsF n E T=if askF n E T=true then partsA n (facesR n E T).length (highs n E T) else []:=rfl
 rw[hPF]
 generalize askF n E T=qb at *
 refine G.run (by simp only[am,evOp,simprocAttr]<;>rfl) ?_
 cases qb with
 | false =>
   refine W.yes (by simp only[am,evOp,simprocAttr]) (W.seq (W.run (by simp only[am,evOp,simprocAttr]<;>rfl) ?_))
   exact W.ret ⟨.nils,(by simp only[rs,rf18,am,evOp,simprocAttr]<;>rfl),PL3.nil,X2,by simp,fun p hp=>by cases hp⟩
 | true =>
 rw[if_pos rfl]
 refine W.no (by simp only[am,evOp,simprocAttr]) (W.skip ?_)
 have g2:h2.get h.next=some (.cells [.int .i64 (n:Nat),ev] 2 false):=by rw[x2.gt _ (by omega)]; exact g0
 have rA2:rdCells h2 h.next 0 2=some [.int .i64 (n:Nat),ev]:=by rw[rdCells_of g2]; rfl
 refine W.seq (W.reg (G.gcall 2 (by simp only[am,evOp,simprocAttr,initTm,rA2]<;>rfl) rfl (by simp only[am,evOp,simprocAttr,initTm,rA2]) (by simp only[am,evOp,simprocAttr,initTm,rA2]<;>rfl) (rtfaces_ok (n:=n) (he.ext X2 (Nat.le_refl _)) hm (hT.ext X2) hT1 hT2) fun r h3 hq=>?_))
 obtain⟨fl,x3⟩:=hq
 have fll:=fl.len
 have n3:=x3.nx
 have X3:Ext h.next h h3:=X2.trans (x3.mono (by omega))
 have hFl:=(facesR_ok (n:=n) (E:=E) (T:=T)).1
 have g3:h3.get h.next=some (.cells [.int .i64 (n:Nat),ev] 2 false):=by rw[x3.gt _ (by omega)]; exact g2
 clear fl
 generalize (facesR n E T).length=F at *
 refine G.run (by simp only[am,evOp,simprocAttr,fll]<;>rfl) ?_
 have x4:Ext h3.next h3 (h3.new (.cells [.nils,.int .i64 (F:Nat)] 2 false)):=Ext.new (Nat.le_refl _)
 have w4:(h3.new (.cells [.nils,.int .i64 (F:Nat)] 2 false)).get h3.next=some (.cells [.nils,.int .i64 (F:Nat)] 2 false):=by rw[AH.get_new,if_pos rfl]
 have n4:(h3.new (.cells [.nils,.int .i64 (F:Nat)] 2 false)).next=h3.next+1:=rfl
 generalize (h3.new (.cells [.nils,.int .i64 (F:Nat)] 2 false))=h4 at *
 have g4:h4.get h.next=some (.cells [.int .i64 (n:Nat),ev] 2 false):=by rw[x4.gt _ (by omega)]; exact g3
 have rF4:rdCells h4 h3.next 1 1=some [.int .i64 (F:Nat)]:=rd_at w4 rfl
 have rN4:rdCells h4 h.next 0 1=some [.int .i64 (n:Nat)]:=rd_at g4 rfl
 have wN:IntKind.i64.wrap (((F:Nat):Int)+((n:Nat):Int))=((F+n:Nat):Int):=by rw[wr64 (by omega) (by omega)]; omega
 refine W.seq (W.seq (W.run (by simp only[am,evOp,simprocAttr,initTm,rF4,rN4,wN]<;>rfl) ?_))
 refine W.rng (α:=AV) (N:=F+n) (fun _ _=>[(1,tv),(2,.ptr h.next 0),(4,.nils),(5,.ptr h3.next 0)])
  (fun k a h'=>IsSl h' 1 h4.next a (nC (List.range k))∧Mod h4.next h4 h' h3.next (.cells [a,.int .i64 (F:Nat)] 2 false)) .nils (fun _ _=>rfl) (by omega) (by simp only[hl,am,evOp,simprocAttr,initTm,tc,to]) ⟨.inl ⟨rfl,rfl⟩,Mod.refl w4⟩ ?_ ?_
 ·rintro k a ts h5 hk ⟨j1,j2⟩ ⟨ei,en,e1,e2,e4,e5,-⟩
  simp only at ei en e1 e2 e4 e5
  have n5:=j2.nx
  obtain⟨ac,ao⟩:=j1.cells
  have ra:rdCells h5 h3.next 0 1=some [a]:=rd_at j2.get rfl
  obtain⟨a',h6,a1,i1,x6,n6⟩:=j1.push (bytes:=8) (eI ((k:Nat):Int)) n5 (by omega) rfl rfl (by rw[nC_len]; simp; unfold tooMany; omega) (by rw[nC_len]; simp; unfold tooMany; omega)
  rw[show eI ((k:Nat):Int)=[.int .i64 ((k:Nat):Int)] from rfl] at a1 i1
  have M6:=j2.ext (by omega) x6
  have w7:=wr_at (v:=a') M6.get (show 0<2 by omega)
  have u7:=Upd.put (o:=.cells [a',.int .i64 (F:Nat)] 2 false) M6.get
  obtain⟨ac',ao'⟩:=i1.cells
  refine W.seq (W.run (by simp only[am,evOp,simprocAttr,ei]<;>rfl) ?_)
  have w7:wrCells h6 h3.next 0 [a']=some (h6.put h3.next (.cells [a',.int .i64 (F:Nat)] 2 false)):=w7
  refine W.run (by simp only[am,evOp,simprocAttr,e5,ra,a1,ac',ao',w7]<;>rfl) ?_
  refine⟨a',⟨?_,M6.upd u7⟩,by simp only[hl,am,evOp,simprocAttr,ei,en,e1,e2,e4,e5]⟩
  rw[List.range_succ,nC_app]
  exact i1.upd u7 (by omega)
 rintro a ts h5 ⟨j1,j2⟩ ⟨e1,e2,e4,e5,-⟩
 simp only at e1 e2 e4 e5
 have n5:=j2.nx
 have hN1:1≤F+n:=by omega
 rcases j1 with ⟨_,hz⟩|⟨lb,NN,hlb,rfl,gl,hll⟩
 ·exfalso
  have:=congrArg List.length hz
  rw[nC_len,List.length_range,List.length_nil] at this
  omega
 have hNN:NN=F+n:=by rw[nC_len,List.length_range,Nat.mul_one] at hll; omega
 subst hNN
 have X5:Ext h.next h h5:=X3.trans ((x4.mono (by omega)).trans ((j2.mono (m:=h.next) (by omega)).toExt (by omega)))
 have w5:=j2.get
 have lbn:=AH.lt_of_get gl
 have g5:h5.get h.next=some (.cells [.int .i64 (n:Nat),ev] 2 false):=by rw[j2.gt _ (by omega) (by omega)]; exact g4
 have rA5:rdCells h5 h.next 0 2=some [.int .i64 (n:Nat),ev]:=by rw[rdCells_of g5]; rfl
 have hHF:highs n E T=(anglesF n E T).filter fun x=>!(!decide (x.2.2.2=2)):=rfl
 have hang:=angles_ok (n:=n) (he.ext X5 (Nat.le_refl _)) hG h0 (hT.ext X5) hT1 hT2
 refine W.seq (W.reg (G.gcall 2 (by simp only[am,evOp,simprocAttr,e1,e2,rA5]<;>rfl) rfl (by simp only[am,evOp,simprocAttr,e1,e2,rA5]) (by simp only[am,evOp,simprocAttr,e1,e2,rA5]<;>rfl) (hang) fun r h6 hq=>?_))
 obtain⟨i6,x6⟩:=hq
 have n6:=x6.nx
 have aL:(anglesF n E T).length≤256:=by
  unfold anglesF
  split
  ·have h1:=anglesA_ok (n:=T.length) (M:=(faceOf (facesR n E T) (2*E.length)).length+1) (N:=2*E.length) (T:=T) (fo:=[]) (Nat.le_refl _) (by omega) (fun z hz=>by cases hz) 0 (Nat.zero_le _)
   have:(anglesA T (faceOf (facesR n E T) (2*E.length)) (2*E.length)).length=2*E.length:=by
    unfold anglesA
    generalize faceOf (facesR n E T) (2*E.length)=fo
    have key:∀ (l:List Nat) (out:List A4),(l.foldl (fun out x=>rowA ((x:Nat):Int) fo out (T.getD x [])) out).length=out.length:=by
     intro l
     induction l with
     | nil=>intro out; rfl
     | cons x r ih =>
       intro out
       rw[List.foldl_cons,ih]
       unfold rowA
       have key2:∀ (m:List Nat) (out:List A4),(m.foldl (stepA ((x:Nat):Int) (T.getD x []) fo) out).length=out.length:=by
        intro m
        induction m with
        | nil=>intro out; rfl
        | cons y r ih=>intro out; rw[List.foldl_cons,ih]; unfold stepA; rw[List.length_set]
       exact key2 _ _
    rw[key]
    simp
   omega
  ·simp
 have hdel:=delfA_ok (lo:=h5.next) (P:=fun x=>!decide (x.2.2.2=2)) (f:=50) (caps:=[]) i6 n6 (by omega) fun x _ h' _=>fparts1_ok
 refine G.callq (by simp only[am,evOp,simprocAttr,ev_fu]) (by simp only[am,evOp,simprocAttr,ev_fu]<;>rfl) (hdel) fun hv h7 hq=>?_
 obtain⟨s7,x7,b7⟩:=hq
 rw[← hHF] at s7
 clear hHF aL hang hdel i6
 refine G.run (by simp only[am,evOp,simprocAttr]<;>rfl) ?_
 have n7:=x7.nx
 have hl7:=s7.len
 rw[List.length_map] at hl7
 obtain⟨vc,vo⟩:=s7.cells
 have X57:Ext h5.next h5 h7:=x6.trans x7
 have X7:Ext h.next h h7:=X5.trans (X57.mono (by omega))
 have w7:h7.get h3.next=some (.cells [.sl lb 0 (F+n) (F+n),.int .i64 (F:Nat)] 2 false):=by rw[X57.gt _ (by omega)]; exact w5
 have l7:h7.get lb=some (.cells (nC (List.range (F+n))) 1 false):=by rw[X57.gt _ lbn]; exact gl
 have g7:h7.get h.next=some (.cells [.int .i64 (n:Nat),ev] 2 false):=by rw[X57.gt _ (by omega)]; exact g5
 refine W.seq (W.seq (W.run (by simp only[am,evOp,simprocAttr,hl7]<;>rfl) ?_))
 generalize highs n E T=H at *
 refine W.rng (α:=List Nat) (N:=H.length) (fun _ _=>[(54,hv),(7,hv),(2,.ptr h.next 0),(4,.nils),(5,.ptr h3.next 0)])
  (fun k L h'=>L=(H.take k).foldl (jstep F) (List.range (F+n))∧Dn (F+n) L∧h'.get lb=some (.cells (nC L) 1 false)∧Kp (fun c=>c=lb) h7 h') (List.range (F+n)) (fun _ _=>rfl) (by omega) (by simp only[hl,am,evOp,simprocAttr,e2,e4,e5,vc,vo]) ⟨rfl,Dn.range _,l7,Kp.refl⟩ ?_ ?_
 ·clear e1 e2 e4 e5
  rintro k L ts h8 hk ⟨j1,j2,j3,j4⟩ ⟨ei,en,e54,e7,e2,e4,e5,-⟩
  simp only at ei en e54 e7 e2 e4 e5
  have n8:=j4.nx
  have s8:Sl h8 4 hv (H.map eA):=s7.cong fun b o m c e=>j4.gt b (s7.lt e) (by have:=b7 b o m c e; omega)
  obtain⟨qb,qp,a1,r1,_⟩:=s8.at (map_at (f:=eA) hk)
  obtain⟨b1,b2,b3,b4⟩:=hH _ (List.getElem_mem hk)
  have hst:(H.take (k+1)).foldl (jstep F) (List.range (F+n))=jstep F L H[k]:=by
   rw[List.take_succ_eq_append_getElem hk,List.foldl_append,← j1]
   rfl
  generalize H[k]=g at *
  have r1:rdCells h8 qb qp 4=some [.int .i64 g.1,.int .i64 g.2.1,.int .i64 g.2.2.1,.int .i64 g.2.2.2]:=r1
  obtain⟨h9,w9,x9,g9,n9⟩:=mk_loc (h:=h8) (z:=[.int .i64 0,.int .i64 0,.int .i64 0,.int .i64 0]) (cs:=[.int .i64 g.1,.int .i64 g.2.1,.int .i64 g.2.2.1,.int .i64 g.2.2.2]) (e:=4) rfl
  refine W.seq (W.run (by simp only[am,evOp,simprocAttr,e54,ei,a1,r1,w9]<;>rfl) ?_)
  have hwb:h3.next≠lb:=by omega
  have ww9:h9.get h3.next=some (.cells [.sl lb 0 (F+n) (F+n),.int .i64 (F:Nat)] 2 false):=by rw[x9.gt _ (by omega),j4.gt _ (by omega) hwb]; exact w7
  have ll9:h9.get lb=some (.cells (nC L) 1 false):=by rw[x9.gt _ (by omega)]; exact j3
  have r2:rdCells h9 h8.next 2 1=some [.int .i64 g.2.2.1]:=rd_at g9 rfl
  have r3:rdCells h9 h8.next 1 1=some [.int .i64 g.2.1]:=rd_at g9 rfl
  have r4:rdCells h9 h3.next 1 1=some [.int .i64 (F:Nat)]:=rd_at ww9 rfl
  obtain⟨fN,hfN⟩:=Int.eq_ofNat_of_zero_le b3
  obtain⟨vN,hvN⟩:=Int.eq_ofNat_of_zero_le b1
  rw[hfN] at r2 b4
  rw[hvN] at r3 b2
  have wV:IntKind.i64.wrap (((F:Nat):Int)+((vN:Nat):Int))=((F+vN:Nat):Int):=by rw[wr64 (by omega) (by omega)]; omega
  have hj:=fjoin_ok (N:=F+n) (a:=fN) (b:=F+vN) ww9 ll9 j2 (by omega) (by omega) (by omega) hwb
  refine W.reg (G.gcall 10 (by simp only[am,evOp,simprocAttr,e5,r2,r3,r4,wV]<;>rfl) rfl (by simp only[am,evOp,simprocAttr,e5,r2,r3,r4,wV]) (by simp only[am,evOp,simprocAttr,e5,r2,r3,r4,wV]<;>rfl) (hj) fun r h10 hq=>?_)
  refine G.run (by simp only[am,evOp,simprocAttr]<;>rfl) ?_
  have hjs:jstep F L g=joinL L fN (F+vN):=by unfold jstep; rw[hfN,hvN,Int.toNat_natCast,Int.toNat_natCast]
  refine⟨joinL L fN (F+vN),⟨by rw[hst,hjs],joinL_ok j2 (by omega) (by omega),hq.get,?_⟩,by simp only[hl,am,evOp,simprocAttr,ei,en,e54,e7,e2,e4,e5]⟩
  exact j4.trans ((x9.kp (Nat.le_refl _)).trans (hq.kp (S:=fun c=>c=lb) rfl) fun c _ e=>e) fun c _ e=>e
 clear e1 e2 e4 e5
 rintro L1 ts h8 ⟨j1,j2,j3,j4⟩ ⟨e54,e7,e2,e4,e5,-⟩
 simp only at e54 e7 e2 e4 e5
 rw[List.take_length] at j1
 have n8:=j4.nx
 have hwb:h3.next≠lb:=by omega
 have w8:h8.get h3.next=some (.cells [.sl lb 0 (F+n) (F+n),.int .i64 (F:Nat)] 2 false):=by rw[j4.gt _ (by omega) hwb]; exact w7
 have g8:h8.get h.next=some (.cells [.int .i64 (n:Nat),ev] 2 false):=by rw[j4.gt _ (by omega) (by omega)]; exact g7
 have s8:Sl h8 4 hv (H.map eA):=s7.cong fun b o m c e=>j4.gt b (s7.lt e) (by have:=b7 b o m c e; omega)
 have X8:Ext h.next h h8:=X7.trans ⟨j4.nx,fun c hc=>j4.gt c (by omega) (by omega),fun c hc=>j4.ty c (by omega)⟩
 refine W.seq (W.run (by simp only[am,evOp,simprocAttr]<;>rfl) ?_)
 have x9:Ext h8.next h8 (h8.new (.mapo [] 0)):=Ext.new (Nat.le_refl _)
 have m9:(h8.new (.mapo [] 0)).get h8.next=some (.mapo [] 0):=by rw[AH.get_new,if_pos rfl]
 have n9:(h8.new (.mapo [] 0)).next=h8.next+1:=rfl
 generalize h8.new (.mapo [] 0)=h9 at *
 have w9:h9.get h3.next=some (.cells [.sl lb 0 (F+n) (F+n),.int .i64 (F:Nat)] 2 false):=by rw[x9.gt _ (by omega)]; exact w8
 have g9:h9.get h.next=some (.cells [.int .i64 (n:Nat),ev] 2 false):=by rw[x9.gt _ (by omega)]; exact g8
 have s9:=s8.ext x9 (Nat.le_refl _)
 have X9:Ext h.next h h9:=X8.trans (x9.mono (by omega))
 have l9:h9.get lb=some (.cells (nC L1) 1 false):=by rw[x9.gt _ (by omega)]; exact j3
 have hlm:lb≠h8.next:=by omega
 have J0:J3 h9 h9 lb h8.next (F+n) 0 .nils (L1,[],[]):=⟨⟨j2,(fun p hp=>by cases hp),Nat.le_refl _,fun p hp=>by cases hp⟩,⟨[],0,m9,rfl⟩,l9,PL3.nil,Kp.refl⟩
 generalize hmb:h8.next=mb at *
 have hw9:=AH.lt_of_get w9
 have keepW:∀ {h':AH},Kp (fun c=>c=lb∨c=mb) h9 h'→h'.get h3.next=some (.cells [.sl lb 0 (F+n) (F+n),.int .i64 (F:Nat)] 2 false):=fun k=>by rw[k.gt _ hw9 (by omega)]; exact w9
 have rF9:rdCells h9 h3.next 1 1=some [.int .i64 (F:Nat)]:=rd_at w9 rfl
 refine W.seq (W.seq (W.run (by simp only[am,evOp,simprocAttr,e5,rF9]<;>rfl) ?_))
 refine W.rng (α:=AV×S3) (N:=F) (fun _ a=>[(7,hv),(2,.ptr h.next 0),(4,a.1),(5,.ptr h3.next 0),(10,.mp mb)])
  (fun k a h'=>a.2=(List.range k).foldl fstep (L1,[],[])∧(0<k→0<a.2.2.2.length)∧J3 h9 h' lb mb (F+n) k a.1 a.2) (.nils,L1,[],[]) (fun _ _=>rfl) (by omega) (by simp only[hl,am,evOp,simprocAttr,e7,e2,e4,e5]) ⟨rfl,fun e=>absurd e (Nat.lt_irrefl 0),J0⟩ ?_ ?_
 ·clear e54 e7 e2 e4 e5
  rintro k ⟨a,s⟩ ts hA hk ⟨k1,k2,k3⟩ ⟨ei,en,e7,e2,e4,e5,e10,-⟩
  simp only at ei en e7 e2 e4 e5 e10 k1 k2 k3
  have hsucc:(List.range (k+1)).foldl fstep (L1,[],[])=fstep s k:=by
   rw[List.range_succ,List.foldl_append,← k1]
   rfl
  obtain⟨o1,o2⟩:=k3.ok.fstep (f:=k) (by omega)
  refine W.seq (W.run (by simp only[am,evOp,simprocAttr,ei]<;>rfl) ?_)
  have hf:=ffind_ok (x:=k) (keepW k3.kp) k3.ld k3.ok.dn (by omega) (by omega) hwb
  refine W.seq (W.reg (G.gcall 3 (by simp only[am,evOp,simprocAttr,e5,e10]<;>rfl) rfl (by simp only[am,evOp,simprocAttr,e5,e10]) (by simp only[am,evOp,simprocAttr,e5,e10]<;>rfl) (hf) fun r hB hq=>?_))
  obtain⟨rfl,uB⟩:=hq
  have jB:=k3.lead (by omega) hlm (findR_ok k3.ok.dn (show k<F+n by omega)).2 uB
  obtain⟨es,cl,gm,mi⟩:=jB.mp
  have ml:=(mlk_ok gm mi (findR s.1 k).1).1
  refine G.run (by simp only[am,evOp,simprocAttr,e10,ml]<;>rfl) ?_
  refine W.seq (W.cut (fun ts h'=>∃ (a:AV) (t:S3) (kk:Nat),fstep s k=(t.1,t.2.1,t.2.2.set kk (addP (t.2.2.getD kk p0) false k))∧kk<t.2.2.length∧t.2.2.length≤k+1∧(∀ p∈t.2.2,p.fs.length≤k)∧(∃ es c,h'.get mb=some (.mapo es c)∧MapI es t.2.1)∧h'.get lb=some (.cells (nC t.1) 1 false)∧PL3 h' h9.next a t.2.2∧Kp (fun c=>c=lb∨c=mb) h9 h' ∧
   Held [(77,.int .i64 (k:Nat)),(76,.int .i64 (F:Nat)),(7,hv),(2,.ptr h.next 0),(4,a),(5,.ptr h3.next 0),(10,.mp mb),(11,.int .i64 (k:Nat)),(12,.int .i64 (kk:Nat))] ts) ?_ ?_)
  ·cases hlk:lkN s.2.1 (findR s.1 k).1 with
   | some j =>
     have hj:=lkN_val k3.ok.pv hlk
     refine W.seq (W.run (by simp only[am,evOp,simprocAttr,hlk]<;>rfl) ?_)
     refine W.no (by simp only[am,evOp,simprocAttr,hlk,Option.isSome_some,Bool.not_true]) (W.skip ?_)
     refine⟨a,((findR s.1 k).2,s.2.1,s.2.2),j,by unfold fstep; rw[hlk],hj,Nat.le_succ_of_le k3.ok.le,fun p hp=>(k3.ok.ls p hp).1,jB.mp,jB.ld,jB.pl,jB.kp,?_⟩
     exact by simp only[hl,am,evOp,simprocAttr,ei,en,e7,e2,e4,e5,e10,hlk,Option.getD_some]
   | none =>
     refine W.seq (W.run (by simp only[am,evOp,simprocAttr,hlk]<;>rfl) ?_)
     refine W.yes (by simp only[am,evOp,simprocAttr,hlk,Option.isSome_none,Bool.not_false]) ?_
     have lA:=jB.pl.len
     refine W.seq (W.run (by simp only[am,evOp,simprocAttr,e4,lA]<;>rfl) ?_)
     have hrk:=(findR_ok k3.ok.dn (show k<F+n by omega)).2
     have hf2:=ffind_ok (x:=k) (keepW jB.kp) jB.ld hrk (by omega) (by omega) hwb
     refine W.seq (W.reg (G.gcall 3 (by simp only[am,evOp,simprocAttr,e5,e10]<;>rfl) rfl (by simp only[am,evOp,simprocAttr,e5,e10]) (by simp only[am,evOp,simprocAttr,e5,e10]<;>rfl) (hf2) fun r hC hq=>?_))
     obtain⟨rfl,uC⟩:=hq
     have jC:=jB.lead (by omega) hlm (findR_ok hrk (show k<F+n by omega)).2 uC
     obtain⟨es2,cl2,gm2,mi2⟩:=jC.mp
     obtain⟨es3,cl3,mu,mi3⟩:=mup_ok gm2 mi2 (findR (findR s.1 k).2 k).1 s.2.2.length
     refine G.run (by simp only[am,evOp,simprocAttr,e10,mu]<;>rfl) ?_
     have uM:=Upd.put (o:=.mapo es3 cl3) gm2
     generalize hC.put mb (.mapo es3 cl3)=hD at *
     have pD:PL3 hD h9.next a s.2.2:=jC.pl.cong fun c q _=>uM.ne (by omega)
     have kD:Kp (fun c=>c=lb∨c=mb) h9 hD:=jC.kp.trans (uM.kp (S:=fun c=>c=mb) rfl) fun c _ e=>.inr e
     have lD:hD.get lb=some (.cells (nC (findR (findR s.1 k).2 k).2) 1 false):=by rw[uM.ne hlm]; exact jC.ld
     obtain⟨a',hE,a1,pE,xE,nE⟩:=pD.push (by have:=kD.nx; exact this) (by have:=k3.ok.le; omega)
     refine W.run (by simp only[am,evOp,simprocAttr,e4,a1]<;>rfl) ?_
     refine⟨a',((findR (findR s.1 k).2 k).2,upN s.2.1 (findR (findR s.1 k).2 k).1 s.2.2.length,s.2.2++[p0]),s.2.2.length,?_,by simp,by have:=k3.ok.le; simp; omega,fun p hp=>?_,⟨es3,cl3,by rw[xE.gt _ (by omega)]; exact uM.get,mi3⟩,by rw[xE.gt _ (by omega)]; exact lD,pE,kp_extn kD xE,?_⟩
     ·unfold fstep
      rw[hlk]
      simp only
      rw[getD_P (show s.2.2.length<(s.2.2++[p0]).length by simp),List.getElem_append_right (Nat.le_refl _)]
      simp
     ·rcases List.mem_append.1 hp with hp|hp
      ·exact (k3.ok.ls p hp).1
      ·rw[List.mem_singleton] at hp
       subst hp
       exact Nat.zero_le _
     ·exact by simp only[hl,am,evOp,simprocAttr,ei,en,e7,e2,e5,e10]
  ·clear ei en e7 e2 e4 e5 e10 ml
   rintro ts hC ⟨a,t,kk,t1,t2,t3,t4,t5,t6,t7,t8,e77,e76,e7,e2,e4,e5,e10,e11,e12,-⟩
   simp only at e77 e76 e7 e2 e4 e5 e10 e11 e12
   obtain⟨b,nn,v,v',hD,hE,b1,rfl,b2,b3,b4,b5,v'c,b6,b7'⟩:=t7.app (by have:=t8.nx; exact this) t2 false k (by have:=t4 _ (List.getElem_mem t2); show (t.2.2[kk].fs).length<2 ^ 30; omega)
   have b3:rdCells hC b (kk*3+0) 1=some [v]:=b3
   have b5:wrCells hD b (kk*3+0) [v']=some hE:=b5
   rw[Nat.add_zero] at b3 b5
   refine W.run (by simp only[am,evOp,simprocAttr,e4,e12,b2,b3,e11,b4,v'c.1,v'c.2,b5]<;>rfl) ?_
   have n8:=t8.nx
   have x9b:Ext h9.next hC hE:=b7'
   refine⟨(.sl b 0 nn nn,fstep s k),⟨hsucc.symm,fun _=>o2,⟨o1,?_,?_,?_,?_⟩⟩,by simp only[hl,am,evOp,simprocAttr,e77,e76,e7,e2,e4,e5,e10]⟩
   ·obtain⟨es,c,q1,q2⟩:=t5
    exact⟨es,c,by rw[x9b.gt _ (by omega)]; exact q1,by rw[t1]; exact q2⟩
   ·rw[t1,x9b.gt _ (by omega)]
    exact t6
   ·rw[t1,getD_P t2]
    exact b6
   ·exact kp_extn t8 x9b
 clear e54 e7 e2 e4 e5
 rintro⟨a,s⟩ ts hA ⟨k1,k2,k3⟩ ⟨e7,e2,e4,e5,e10,-⟩
 simp only at e7 e2 e4 e5 e10 k1 k2 k3
 have gA:hA.get h.next=some (.cells [.int .i64 (n:Nat),ev] 2 false):=by rw[k3.kp.gt _ (by omega) (by omega)]; exact g9
 have rNA:rdCells hA h.next 0 1=some [.int .i64 (n:Nat)]:=rd_at gA rfl
 refine W.seq (W.seq (W.run (by simp only[am,evOp,simprocAttr,e2,rNA]<;>rfl) ?_))
 refine W.rng (α:=AV×S3) (N:=n) (fun _ a=>[(7,hv),(4,a.1),(5,.ptr h3.next 0),(10,.mp mb)])
  (fun k b h'=>b.2=(List.range k).foldl (vstep F) s∧b.2.2.2.length=s.2.2.length∧J3 h9 h' lb mb (F+n) (F+k) b.1 b.2) (a,s) (fun _ _=>rfl) (by omega) (by simp only[hl,am,evOp,simprocAttr,e7,e4,e5,e10]) ⟨rfl,rfl,k3⟩ ?_ ?_
 ·clear e7 e2 e4 e5 e10 gA rNA
  rintro k ⟨c,t⟩ ts hB hk ⟨v1,v2,v3⟩ ⟨ei,en,e7,e4,e5,e10,-⟩
  simp only at ei en e7 e4 e5 e10 v1 v2 v3
  have hsucc:(List.range (k+1)).foldl (vstep F) s=vstep F t k:=by
   rw[List.range_succ,List.foldl_append,← v1]
   rfl
  obtain⟨o1,o2⟩:=v3.ok.vstep (F:=F) (x:=k) (by omega)
  refine W.seq (W.run (by simp only[am,evOp,simprocAttr,ei]<;>rfl) ?_)
  have rFB:rdCells hB h3.next 1 1=some [.int .i64 (F:Nat)]:=rd_at (keepW v3.kp) rfl
  have wV:IntKind.i64.wrap (((F:Nat):Int)+((k:Nat):Int))=((F+k:Nat):Int):=by rw[wr64 (by omega) (by omega)]; omega
  have hf:=ffind_ok (x:=F+k) (keepW v3.kp) v3.ld v3.ok.dn (by omega) (by omega) hwb
  refine W.seq (W.reg (G.gcall 8 (by simp only[am,evOp,simprocAttr,e5,e10,rFB,wV]<;>rfl) rfl (by simp only[am,evOp,simprocAttr,e5,e10,rFB,wV]) (by simp only[am,evOp,simprocAttr,e5,e10,rFB,wV]<;>rfl) (hf) fun r hC hq=>?_))
  obtain⟨rfl,uC⟩:=hq
  have jC:=v3.lead (by omega) hlm (findR_ok v3.ok.dn (show F+k<F+n by omega)).2 uC
  obtain⟨es,cl,gm,mi⟩:=jC.mp
  have ml:=(mlk_ok gm mi (findR t.1 (F+k)).1).1
  refine G.run (by simp only[am,evOp,simprocAttr,e10,ml]<;>rfl) ?_
  cases hlk:lkN t.2.1 (findR t.1 (F+k)).1 with
  | none =>
    refine W.seq (W.run (by simp only[am,evOp,simprocAttr,hlk]<;>rfl) ?_)
    refine W.no (by simp only[am,evOp,simprocAttr,hlk,Option.isSome_none]) (W.skip ?_)
    have e:vstep F t k=((findR t.1 (F+k)).2,t.2.1,t.2.2):=by unfold vstep; rw[hlk]
    exact⟨(c,vstep F t k),⟨hsucc.symm,o2.trans v2,by rw[e] at o1 ⊢; exact⟨o1,jC.mp,jC.ld,jC.pl,jC.kp⟩⟩,by simp only[hl,am,evOp,simprocAttr,ei,en,e7,e4,e5,e10]⟩
  | some j =>
    have hj:=lkN_val v3.ok.pv hlk
    refine W.seq (W.run (by simp only[am,evOp,simprocAttr,hlk]<;>rfl) ?_)
    refine W.yes (by simp only[am,evOp,simprocAttr,hlk,Option.isSome_some]) ?_
    obtain⟨b,nn,v,v',hD,hE,b1,rfl,b2,b3,b4,b5,v'c,b6,b7'⟩:=jC.pl.app (by have:=jC.kp.nx; exact this) hj true k (by have:=(v3.ok.ls _ (List.getElem_mem hj)).2.1; show (t.2.2[j].vs).length<2 ^ 30; omega)
    have b3:rdCells hC b (j*3+1) 1=some [v]:=b3
    have b5:wrCells hD b (j*3+1) [v']=some hE:=b5
    have e:vstep F t k=((findR t.1 (F+k)).2,t.2.1,t.2.2.set j (addP (t.2.2.getD j p0) true k)):=by unfold vstep; rw[hlk]
    refine W.run (by simp only[am,evOp,simprocAttr,e4,hlk,Option.getD_some,b2,b3,b4,v'c.1,v'c.2,b5]<;>rfl) ?_
    refine⟨(.sl b 0 nn nn,vstep F t k),⟨hsucc.symm,o2.trans v2,⟨o1,?_,?_,?_,?_⟩⟩,by simp only[hl,am,evOp,simprocAttr,ei,en,e7,e5,e10,e4]⟩
    ·rw[e]
     exact⟨es,cl,by rw[b7'.gt _ (by omega)]; exact gm,mi⟩
    ·rw[e,b7'.gt _ (by omega)]
     exact jC.ld
    ·rw[e,getD_P hj]
     exact b6
    ·exact kp_extn jC.kp b7'
 clear e7 e2 e4 e5 e10 gA rNA
 rintro⟨c,t⟩ ts hB ⟨v1,v2,v3⟩ ⟨e7,e4,e5,e10,-⟩
 simp only at e7 e4 e5 e10 v1 v2 v3
 have s9lt:∀ b o m c',hv=.sl b o m c'→b<h9.next∧b≠lb∧b≠mb:=fun b o m c' e=>by
  have q1:=b7 b o m c' e
  have q2:=s7.lt e
  omega
 refine W.seq (W.seq (W.run (by simp only[am,evOp,simprocAttr,e7,hl7]<;>rfl) ?_))
 refine W.rng (α:=AV×S3) (N:=H.length) (fun _ a=>[(146,hv),(4,a.1),(5,.ptr h3.next 0),(10,.mp mb)])
  (fun k b h'=>b.2=(H.take k).foldl astep t∧b.2.2.2.length=s.2.2.length∧J3 h9 h' lb mb (F+n) (F+n+k) b.1 b.2) (c,t) (fun _ _=>rfl) (by omega) (by simp only[hl,am,evOp,simprocAttr,e7,e4,e5,e10,vc,vo]) ⟨rfl,v2,v3⟩ ?_ ?_
 ·clear e7 e4 e5 e10
  rintro k ⟨d,u⟩ ts hC hk ⟨y1,y2,y3⟩ ⟨ei,en,e146,e4,e5,e10,-⟩
  simp only at ei en e146 e4 e5 e10 y1 y2 y3
  have hst:(H.take (k+1)).foldl astep t=astep u H[k]:=by
   rw[List.take_succ_eq_append_getElem hk,List.foldl_append,← y1]
   rfl
  have sC:Sl hC 4 hv (H.map eA):=s9.cong fun b o m c' e=>by obtain⟨q1,q2,q3⟩:=s9lt b o m c' e; exact y3.kp.gt b q1 (by omega)
  obtain⟨qb,qp,a1,r1,_⟩:=sC.at (map_at (f:=eA) hk)
  obtain⟨b1,b2,b3,b4⟩:=hH _ (List.getElem_mem hk)
  generalize H[k]=g at *
  have hu0:0<u.2.2.length:=by rw[y2]; exact k2 (by omega)
  have r1:rdCells hC qb qp 4=some [.int .i64 g.1,.int .i64 g.2.1,.int .i64 g.2.2.1,.int .i64 g.2.2.2]:=r1
  obtain⟨hD,wD,xD,gD,nD⟩:=mk_loc (h:=hC) (z:=[.int .i64 0,.int .i64 0,.int .i64 0,.int .i64 0]) (cs:=[.int .i64 g.1,.int .i64 g.2.1,.int .i64 g.2.2.1,.int .i64 g.2.2.2]) (e:=4) rfl
  refine W.seq (W.run (by simp only[am,evOp,simprocAttr,e146,ei,a1,r1,wD]<;>rfl) ?_)
  obtain⟨fN,hfN⟩:=Int.eq_ofNat_of_zero_le b3
  obtain⟨o1,o2⟩:=y3.ok.astep (g:=g) (by rw[hfN,Int.toNat_natCast]; omega) hu0
  have yn:=y3.kp.nx
  have kD:Kp (fun c=>c=lb∨c=mb) h9 hD:=kp_extn y3.kp (xD.mono yn)
  obtain⟨es0,cl0,gm0,mi0⟩:=y3.mp
  have jD:J3 h9 hD lb mb (F+n) (F+n+k) d u:=⟨y3.ok,⟨es0,cl0,by rw[xD.gt _ (AH.lt_of_get gm0)]; exact gm0,mi0⟩,by rw[xD.gt _ (AH.lt_of_get y3.ld)]; exact y3.ld,y3.pl.ext xD,kD⟩
  have rf:rdCells hD hC.next 2 1=some [.int .i64 g.2.2.1]:=rd_at gD rfl
  rw[hfN] at rf b4
  have hf:=ffind_ok (x:=fN) (keepW kD) jD.ld jD.ok.dn (by omega) (by omega) hwb
  refine W.reg (G.gcall 5 (by simp only[am,evOp,simprocAttr,e5,e10,rf]<;>rfl) rfl (by simp only[am,evOp,simprocAttr,e5,e10,rf]) (by simp only[am,evOp,simprocAttr,e5,e10,rf]<;>rfl) (hf) fun r hE hq=>?_)
  obtain⟨rfl,uE⟩:=hq
  have jE:=jD.lead (by omega) hlm (findR_ok jD.ok.dn (show fN<F+n by omega)).2 uE
  obtain⟨es,cl,gm,mi⟩:=jE.mp
  have ml:=(mlk_ok gm mi (findR u.1 fN).1).2
  have hj:=lk_getD (r:=(findR u.1 fN).1) y3.ok.pv hu0
  obtain⟨b,nn,hF2,c1,rfl,c2,c3,c4,c5,c6,c7,c8⟩:=jE.pl.cnt hj
  have hle:=(y3.ok.ls _ (List.getElem_mem hj)).2.2
  have wA:IntKind.i64.wrap (((u.2.2[(lkN u.2.1 (findR u.1 fN).1).getD 0].an:Nat):Int)+1)=((u.2.2[(lkN u.2.1 (findR u.1 fN).1).getD 0].an+1:Nat):Int):=by rw[wr64 (by omega) (by omega)]; omega
  have e:astep u g=((findR u.1 fN).2,u.2.1,u.2.2.set ((lkN u.2.1 (findR u.1 fN).1).getD 0) { u.2.2[(lkN u.2.1 (findR u.1 fN).1).getD 0] with an:=u.2.2[(lkN u.2.1 (findR u.1 fN).1).getD 0].an+1}):=by
   unfold astep
   rw[hfN,Int.toNat_natCast,getD_P hj]
  refine G.run (by simp only[am,evOp,simprocAttr,e10,e4,ml,c2,c3,wA,c4]<;>rfl) ?_
  refine⟨(.sl b 0 nn nn,astep u g),⟨hst.symm,o2.trans y2,⟨o1,?_,?_,?_,?_⟩⟩,by simp only[hl,am,evOp,simprocAttr,ei,en,e146,e4,e5,e10]⟩
  ·rw[e]
   exact⟨es,cl,by rw[c6.gt _ (by omega)]; exact gm,mi⟩
  ·rw[e,c6.gt _ (by omega)]
   exact jE.ld
  ·rw[e]
   exact c5
  ·exact kp_extn jE.kp c6
 ·rintro⟨d,u⟩ ts hC ⟨y1,y2,y3⟩ ⟨e146,e4',e5',e10',-⟩
  simp only at e4' y1 y2 y3
  rw[List.take_length] at y1
  obtain⟨dc,do_⟩:=y3.pl.cells
  refine W.seq (W.run (by simp only[am,evOp,simprocAttr,e4']<;>rfl) ?_)
  have yn:=y3.kp.nx
  have x9n:=X9.nx
  have e:partsA n F H=u.2.2:=by
   unfold partsA
   rw[← j1,← k1,← v1,← y1]
  rw[e]
  have hk1:=y3.ok.le
  refine W.ret ⟨d,(by simp only[rs,rf18,am,evOp,simprocAttr,dc]<;>rfl),y3.pl.mono (by omega),X9.trans ⟨yn,fun c hc=>y3.kp.gt c (by omega) (by omega),fun c hc=>y3.kp.ty c (by omega)⟩,by omega,fun p hp=>?_⟩
  obtain⟨q1,q2,_⟩:=y3.ok.ls p hp
  exact⟨by omega,by omega⟩
end Go.Proofs.YticaalcbgikjjaaGreatDoor
