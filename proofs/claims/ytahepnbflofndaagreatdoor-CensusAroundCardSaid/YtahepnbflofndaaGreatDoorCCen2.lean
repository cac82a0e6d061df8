/-
  census.Around, whole.
-/
import Derived.Test.YtahepnbflofndaaGreatDoorCCen
set_option linter.all false
namespace Go.Proofs.YtahepnbflofndaaGreatDoor
open Go.Am
open Go.Aro (Most timesF reck numbers from1)
theorem foldl_sum:∀ (l:List Nat) (a:Nat),l.foldl (·+·) a=a+l.sum
 | [],a=>by simp
 | b::l,a=>by rw[List.foldl_cons,foldl_sum l,List.sum_cons]; omega
theorem from1_len:∀ (n i:Nat),(from1 i n).length=n
 | 0,_=>rfl
 | n+1,i=>by rw[from1,List.length_cons,from1_len n]
theorem from1_get:∀ (n i k:Nat),k<n→(from1 i n)[k]?=some (i+k)
 | 0,_,_,h=>by omega
 | n+1,i,0,_=>by simp [from1]
 | n+1,i,k+1,h=>by
   rw[from1,List.getElem?_cons_succ,from1_get n (i+1) k (by omega)]
   congr 1
   omega
theorem reck_step (l:List Nat) (k:Nat):reck (l++[k])=timesF (reck l) k:=by
 unfold reck
 rw[List.foldl_append]
 rfl
theorem take_step {α:Type}{l:List α}{k:Nat}{x:α} (h:l[k]?=some x):l.take (k+1)=l.take k++[x]:=by
 rw[List.take_add_one,h]
 rfl
theorem paround_ok {h:AH}{p:Nat}{v:AV}{ns:List Nat} (hv:SlI h v (ns.map fun n=>((n:Nat):Int))) (hp:h.get p=some (prC (1,false))) (h1:∀ a∈ns,1≤a) (h2:ns.sum≤128) (hvp:∀ b o n c,v=.sl b o n c→b≠p) :
 C prg 34 [.ptr p 0,v] h fun r h'=>Mod h.next h h' p (prC (reck (numbers ns))):=by
 have el:=hv.len
 rw[List.length_map,List.length_map] at el
 have hpl:=AH.lt_of_get hp
 have hlen:ns.length≤ns.sum:=by
  clear h2 hv el hvp hp
  induction ns with
  | nil=>simp
  | cons a l ih =>
    have:=h1 a (List.mem_cons_self ..)
    have:=ih fun b hb=>h1 b (List.mem_cons_of_mem _ hb)
    rw[List.sum_cons,List.length_cons]
    omega
 refine C.func pf34 ?_
 refine W.seq (W.seq (W.run (by simp only[am,evOp,simprocAttr,initTm,el]<;>rfl) ?_))
 refine W.cond (t:=decide (ns.length<2)) (by simp only[am,evOp,simprocAttr]; exact congrArg AV.bool (by simp only[decide_eq_decide]; omega)) (fun q=>?_) fun q=>?_
 ·have q:ns.length<2:=of_decide_eq_true q
  have e:numbers ns=[]:=by unfold numbers; rw[if_neg (by omega)]
  rw[e]
  exact W.ret ⟨.tup [],rfl,Mod.refl hp⟩
 have q:¬ ns.length<2:=of_decide_eq_false q
 have hnum:numbers ns=ns++from1 (ns.sum-ns.length+2) (ns.length-2):=by
  unfold numbers
  rw[if_pos (by omega),foldl_sum,Nat.zero_add]
 refine W.skip (W.seq (W.run (by simp only[am,evOp,simprocAttr]<;>rfl) ?_))
 refine W.seq (W.seq (W.run (by simp only[am,evOp,simprocAttr,initTm,el]<;>rfl) ?_))
 refine W.rng (α:=Unit) (N:=ns.length) (fun k _=>[(0,.ptr p 0),(1,v),(11,v),(4,.int .i64 ((ns.take k).sum:Nat))]) (fun k _ h'=>Mod h.next h h' p (prC (reck (ns.take k)))∧1≤(reck (ns.take k)).1∧(reck (ns.take k)).1≤Most) () (fun _ _=>rfl) (by omega) (by simp only[hl,am,evOp,simprocAttr,initTm,List.take_zero,List.sum_nil,Int.natCast_zero])
  ⟨Mod.refl hp,Nat.le_refl _,(by rw[List.take_zero]; decide)⟩ ?_ ?_
 ·rintro k _ ts h3 hk ⟨jm,jv,jv2⟩ ⟨e13,e12,e0,e1,e11,e4,-⟩
  simp only at e13 e12 e0 e1 e11 e4
  have hx:(ns.map fun n=>((n:Nat):Int))[k]?=some ((ns[k]:Nat):Int):=by rw[List.getElem?_map,List.getElem?_eq_getElem hk]; rfl
  have hv3:SlI h3 v (ns.map fun n=>((n:Nat):Int)):=hv.cong fun b o n c e=>jm.gt b (hvp b o n c e) (hv.lt e)
  obtain⟨b1,p1,a1,r1,_⟩:=hv3.at1 (i:=k) (y:=.int .i64 ((ns[k]:Nat):Int)) (by rw[List.getElem?_map,hx]; rfl)
  have hk1:=h1 _ (List.getElem_mem hk)
  have hst:(ns.take (k+1))=ns.take k++[ns[k]]:=take_step (List.getElem?_eq_getElem hk)
  have hsum:(ns.take (k+1)).sum=(ns.take k).sum+ns[k]:=by rw[hst,List.sum_append]; simp
  have hsl:(ns.take (k+1)).sum≤ns.sum:=by
   conv=>rhs; rw[← List.take_append_drop (k+1) ns,List.sum_append]
   omega
  refine W.seq (W.run (by simp only[am,evOp,simprocAttr,e11,e13,a1,r1]<;>rfl) ?_)
  have g4:(h3.new (.cells [.int .i64 ((ns[k]:Nat):Int)] 1 false)).get h3.next=some (.cells [.int .i64 ((ns[k]:Nat):Int)] 1 false):=by rw[AH.get_new,if_pos rfl]
  have x4:Ext h3.next h3 (h3.new (.cells [.int .i64 ((ns[k]:Nat):Int)] 1 false)):=Ext.new (Nat.le_refl _)
  have n3:=jm.nx
  have gp:=jm.get
  have hp4:(h3.new (.cells [.int .i64 ((ns[k]:Nat):Int)] 1 false)).get p=some (prC (reck (ns.take k))):=by rw[x4.gt _ (by omega)]; exact gp
  have s4:SlI (h3.new (.cells [.int .i64 ((ns[k]:Nat):Int)] 1 false)) (.sl h3.next 0 1 1) [((ns[k]:Nat):Int)]:=Sl.row (vs:=[.int .i64 ((ns[k]:Nat):Int)]) g4 rfl (Nat.le_refl _)
  have ht:=ptimes_ok s4 hp4 hk1 (by omega) jv jv2 (fun b o n c e=>by cases e; omega)
  refine W.seq (W.reg (G.gcall 3 (by simp only[am,evOp,simprocAttr,e0,e11,e13]<;>rfl) rfl (by simp only[am,evOp,simprocAttr,e0,e11,e13]) (by simp only[am,evOp,simprocAttr,e0,e11,e13]<;>rfl) (ht) fun r h5 hq=>?_))
  obtain⟨u5,q1,q2⟩:=hq
  refine G.run (by simp only[am,evOp,simprocAttr]<;>rfl) ?_
  have w4:IntKind.i64.wrap ((((ns.take k).sum:Nat):Int)+((ns[k]:Nat):Int))=(((ns.take (k+1)).sum:Nat):Int):=by rw[hsum,wr64 (by omega) (by omega)]; omega
  refine W.run (by simp only[am,evOp,simprocAttr,e4,w4]<;>rfl) ?_
  refine⟨(),⟨?_,by rw[hst,reck_step]; exact q1,by rw[hst,reck_step]; exact q2⟩,by simp only[hl,am,evOp,simprocAttr,e13,e12,e0,e1,e11,e4,w4]⟩
  rw[hst,reck_step]
  exact (jm.ext (by omega) (x4.mono n3)).upd u5
 rintro _ ts h3 ⟨jm,jv,jv2⟩ ⟨e0,e1,e11,e4,-⟩
 simp only at e0 e1 e11 e4
 rw[List.take_length] at jm jv jv2 e4
 have w5:IntKind.i64.wrap (((ns.sum:Nat):Int)-((ns.length:Nat):Int))=((ns.sum-ns.length:Nat):Int):=by rw[wr64 (by omega) (by omega)]; omega
 have w6:IntKind.i64.wrap (((ns.sum-ns.length:Nat):Int)+2)=((ns.sum-ns.length+2:Nat):Int):=by rw[wr64 (by omega) (by omega)]; omega
 have hf1:∀ k,k<ns.length-2→(ns++(from1 (ns.sum-ns.length+2) (ns.length-2)).take (k+1))=(ns++(from1 (ns.sum-ns.length+2) (ns.length-2)).take k)++[ns.sum-ns.length+2+k]:=fun k hk=>by
  rw[take_step (from1_get _ _ _ hk),List.append_assoc]
 refine W.seq (W.run (by simp only[am,evOp,simprocAttr,e1,e4,el,w5,w6]<;>rfl) ?_)
 refine W.whl (α:=Unit) (N:=ns.length-2) (fun k _=>[(0,.ptr p 0),(4,.int .i64 (ns.sum:Nat)),(7,.int .i64 ((ns.sum-ns.length+2+k:Nat):Int))])
  (fun k _ h'=>Mod h.next h h' p (prC (reck (ns++(from1 (ns.sum-ns.length+2) (ns.length-2)).take k)))∧1≤(reck (ns++(from1 (ns.sum-ns.length+2) (ns.length-2)).take k)).1∧(reck (ns++(from1 (ns.sum-ns.length+2) (ns.length-2)).take k)).1≤Most) () (by simp only[hl,am,evOp,simprocAttr,e0,e4,Nat.add_zero])
  (by rw[List.take_zero,List.append_nil]; exact⟨jm,jv,jv2⟩) ?_ ?_ ?_
 ·clear e0 e1 e11 e4
  rintro k _ ts h4 hk _ ⟨e0,e4,e7,-⟩
  simp only at e0 e4 e7
  have c:decide (((ns.sum-ns.length+2+k:Nat):Int)<((ns.sum:Nat):Int))=decide (k<ns.length-2):=by simp only[decide_eq_decide]; omega
  exact⟨_,(by simp only[am,evOp,simprocAttr,e4,e7,c]<;>rfl),by simp only[am,evOp,simprocAttr],by simp only[hl,am,evOp,simprocAttr,e0,e4,e7]⟩
 ·clear e0 e1 e11 e4 jm jv jv2
  rintro k _ ts h4 hk ⟨jm,jv,jv2⟩ ⟨e0,e4,e7,-⟩
  simp only at e0 e4 e7
  have n4:=jm.nx
  have gp:=jm.get
  have g5:(h4.new (.cells [.int .i64 ((ns.sum-ns.length+2+k:Nat):Int)] 1 false)).get h4.next=some (.cells [.int .i64 ((ns.sum-ns.length+2+k:Nat):Int)] 1 false):=by rw[AH.get_new,if_pos rfl]
  have x5:Ext h4.next h4 (h4.new (.cells [.int .i64 ((ns.sum-ns.length+2+k:Nat):Int)] 1 false)):=Ext.new (Nat.le_refl _)
  have hp5:(h4.new (.cells [.int .i64 ((ns.sum-ns.length+2+k:Nat):Int)] 1 false)).get p=some (prC (reck (ns++(from1 (ns.sum-ns.length+2) (ns.length-2)).take k))):=by rw[x5.gt _ (by omega)]; exact gp
  have s5:SlI (h4.new (.cells [.int .i64 ((ns.sum-ns.length+2+k:Nat):Int)] 1 false)) (.sl h4.next 0 1 1) [((ns.sum-ns.length+2+k:Nat):Int)]:=Sl.row (vs:=[.int .i64 ((ns.sum-ns.length+2+k:Nat):Int)]) g5 rfl (Nat.le_refl _)
  have ht:=ptimes_ok s5 hp5 (by omega) (by omega) jv jv2 (fun b o n c e=>by cases e; omega)
  have w1:=wk1 (k:=ns.sum-ns.length+2+k) (by omega)
  refine W.reg (G.gcall 3 (by simp only[am,evOp,simprocAttr,e0,e7]<;>rfl) rfl (by simp only[am,evOp,simprocAttr,e0,e7]) (by simp only[am,evOp,simprocAttr,e0,e7]<;>rfl) (ht) fun r h6 hq=>?_)
  obtain⟨u6,q1,q2⟩:=hq
  refine G.run (by simp only[am,evOp,simprocAttr]<;>rfl) ?_
  refine⟨(),⟨?_,by rw[hf1 k hk,reck_step]; exact q1,by rw[hf1 k hk,reck_step]; exact q2⟩,_,(by simp only[am,evOp,simprocAttr,e7,w1]<;>rfl),by simp only[hl,am,evOp,simprocAttr,e0,e4,Nat.add_assoc]⟩
  rw[hf1 k hk,reck_step]
  exact (jm.ext (by omega) (x5.mono n4)).upd u6
 ·rintro _ ts h4 ⟨jm,_,_⟩ _
  refine⟨.tup [],rfl,?_⟩
  rw[hnum]
  rwa [List.take_of_length_le (by rw[from1_len]; exact Nat.le_refl _)] at jm
def okA (xs:List Int):Prop:=(∀ x∈xs,1≤x)∧xs.sum≤128
theorem caround_ok {h:AH}{v:AV}{xs:List Int} (hv:SlI h v xs) (hxl:xs.length<2 ^ 40) :
 C prg 9 [v] h fun r h'=>Ext h.next h h'∧(¬ okA xs→r=.tup [.int .i64 0,.int .i64 1]) ∧
   (okA xs→r=(if (reck (numbers (xs.map Int.toNat))).2 then .tup [.int .i64 0,.int .i64 10] else .tup [.int .i64 ((reck (numbers (xs.map Int.toNat))).1:Nat),.int .i64 0])):=by
 have el:=hv.len
 rw[List.length_map] at el
 refine C.func pf9 ?_
 refine W.seq (W.run (by simp only[am,evOp,simprocAttr,initTm]<;>rfl) ?_)
 refine W.seq (W.run (by simp only[am,evOp,simprocAttr,initTm]<;>rfl) ?_)
 refine W.seq (W.seq (W.run (by simp only[am,evOp,simprocAttr,initTm,el]<;>rfl) ?_))
 refine W.rng (α:=Unit) (N:=xs.length) (fun k _=>[(0,v),(8,v),(4,.int .i64 (xs.take k).sum)]) (fun k _ h'=>h'=h∧(∀ x∈xs.take k,1≤x)∧0≤(xs.take k).sum∧(xs.take k).sum≤128) () (fun _ _=>rfl) (by omega) (by simp only[hl,am,evOp,simprocAttr,initTm,List.take_zero,List.sum_nil])
  ⟨rfl,by simp,by simp,by simp⟩ ?_ ?_
 ·rintro k _ ts h1 hk ⟨rfl,j1,j2,j3⟩ ⟨e10,e9,e0,e8,e4,-⟩
  simp only at e10 e9 e0 e8 e4
  obtain⟨b1,p1,a1,r1,_⟩:=hv.at1 (map_at (f:=eI) hk)
  have hst:xs.take (k+1)=xs.take k++[xs[k]]:=take_step (List.getElem?_eq_getElem hk)
  have hsum:(xs.take (k+1)).sum=(xs.take k).sum+xs[k]:=by rw[hst,List.sum_append]; simp
  have hpre:okA xs→(∀ x∈xs.take (k+1),1≤x)∧(xs.take (k+1)).sum≤128:=fun o=>by
   refine⟨fun x hx=>o.1 x (List.mem_of_mem_take hx),?_⟩
   have h1:=o.2
   have h2:0≤(xs.drop (k+1)).sum:=by
    have:∀ l:List Int,(∀ x∈l,1≤x)→0≤l.sum:=by
     intro l
     induction l with
     | nil=>intro _; simp
     | cons a l ih =>
       intro h
       have:=h a (List.mem_cons_self ..)
       have:=ih fun x hx=>h x (List.mem_cons_of_mem _ hx)
       rw[List.sum_cons]; omega
    exact this _ fun x hx=>o.1 x (List.mem_of_mem_drop hx)
   rw[← List.take_append_drop (k+1) xs,List.sum_append] at h1
   omega
  have hmin:foldA mnA [AV.int .i64 xs[k],.int .i64 129]=some (.int .i64 (min xs[k] 129)):=by
   simp only[foldA,mnA,if_true]
   congr 2
   by_cases q:(129:Int)<xs[k]
   ·rw[if_pos q]; omega
   ·rw[if_neg q]; omega
  refine W.seq (W.run (by simp only[am,evOp,simprocAttr,e8,e10,a1,r1]<;>rfl) ?_)
  by_cases q1:xs[k]<1
  ·have c1:decide (xs[k]<1)=true:=decide_eq_true q1
   refine W.seq (W.run (by simp only[am,evOp,simprocAttr,e4,hmin]<;>rfl) ?_)
   refine W.seq (W.seq (W.run (by simp only[am,evOp,simprocAttr,c1]<;>rfl) ?_))
   refine W.yes (by simp only[am,evOp,simprocAttr]) (W.seq (W.run (by simp only[am,evOp,simprocAttr]<;>rfl) ?_))
   refine W.ret ⟨.tup [.int .i64 0,.int .i64 1],(by simp only[rs,rf9,am,evOp,simprocAttr]<;>rfl),Ext.refl,fun _=>rfl,fun o=>?_⟩
   have:=o.1 _ (List.getElem_mem hk)
   omega
  have w1:IntKind.i64.wrap ((xs.take k).sum+min xs[k] 129)=(xs.take k).sum+min xs[k] 129:=wr64 (by omega) (by omega)
  refine W.seq (W.run (by simp only[am,evOp,simprocAttr,e4,hmin,w1]<;>rfl) ?_)
  have c1:decide (xs[k]<1)=false:=decide_eq_false q1
  by_cases q2:128<(xs.take k).sum+min xs[k] 129
  ·have c2:decide (128<(xs.take k).sum+min xs[k] 129)=true:=decide_eq_true q2
   refine W.seq (W.seq (W.run (by simp only[am,evOp,simprocAttr,c1,c2]<;>rfl) ?_))
   refine W.yes (by simp only[am,evOp,simprocAttr]) (W.seq (W.run (by simp only[am,evOp,simprocAttr]<;>rfl) ?_))
   refine W.ret ⟨.tup [.int .i64 0,.int .i64 1],(by simp only[rs,rf9,am,evOp,simprocAttr]<;>rfl),Ext.refl,fun _=>rfl,fun o=>?_⟩
   have:=(hpre o).2
   omega
  have c2:decide (128<(xs.take k).sum+min xs[k] 129)=false:=decide_eq_false q2
  have em:min xs[k] 129=xs[k]:=by omega
  refine W.seq (W.run (by simp only[am,evOp,simprocAttr,c1,c2]<;>rfl) ?_)
  refine W.no (by simp only[am,evOp,simprocAttr]) (W.skip ⟨(),⟨rfl,fun x hx=>?_,by omega,by omega⟩,by simp only[hl,am,evOp,simprocAttr,e10,e9,e0,e8,hsum,em]⟩)
  rw[hst] at hx
  rcases List.mem_append.1 hx with hx|hx
  ·exact j1 x hx
  ·simp only[List.mem_cons,List.not_mem_nil,or_false] at hx
   rw[hx]; omega
 rintro _ ts h1 ⟨rfl,j1,j2,j3⟩ ⟨e0,e8,e4,-⟩
 simp only at e0
 rw[List.take_length] at j1 j2 j3
 have hok:okA xs:=⟨j1,j3⟩
 have hx0:Ext h1.next h1 (h1.new (.cells [.int .i64 1,.bool false] 2 false)):=Ext.new (Nat.le_refl _)
 have g2:(h1.new (.cells [.int .i64 1,.bool false] 2 false)).get h1.next=some (.cells [.int .i64 1,.bool false] 2 false):=by rw[AH.get_new,if_pos rfl]
 have n2:(h1.new (.cells [.int .i64 1,.bool false] 2 false)).next=h1.next+1:=rfl
 refine W.seq (W.run (by simp only[am,evOp,simprocAttr]<;>rfl) ?_)
 generalize (h1.new (.cells [.int .i64 1,.bool false] 2 false))=h2 at *
 have hmap:(xs.map Int.toNat).map (fun n=>((n:Nat):Int))=xs:=by
  rw[List.map_map]
  conv=>rhs; rw[← List.map_id xs]
  exact List.map_congr_left fun x hx=>by have:=j1 x hx; show ((x.toNat:Nat):Int)=x; omega
 have hs2:SlI h2 v ((xs.map Int.toNat).map fun n=>((n:Nat):Int)):=by rw[hmap]; exact hv.ext hx0 (Nat.le_refl _)
 have hsum:(xs.map Int.toNat).sum≤128:=by
  have:∀ l:List Int,(∀ x∈l,1≤x)→(((l.map Int.toNat).sum:Nat):Int)=l.sum:=by
   intro l
   induction l with
   | nil=>intro _; simp
   | cons a l ih =>
     intro h
     have h1:=h a (List.mem_cons_self ..)
     have h2:=ih fun x hx=>h x (List.mem_cons_of_mem _ hx)
     rw[List.map_cons,List.sum_cons,List.sum_cons]
     omega
  have:=this xs j1
  omega
 have hpa:=paround_ok hs2 (p:=h1.next) g2 (fun a ha=>by
  obtain⟨x,hx,rfl⟩:=List.mem_map.1 ha
  have:=j1 x hx
  omega) hsum (fun b o n c e=>by have:=hv.lt e; omega)
 refine W.seq (W.reg (G.gcall 2 (by simp only[am,evOp,simprocAttr,e0]<;>rfl) rfl (by simp only[am,evOp,simprocAttr,e0]) (by simp only[am,evOp,simprocAttr,e0]<;>rfl) (hpa) fun r h3 hq=>?_))
 refine G.run (by simp only[am,evOp,simprocAttr]<;>rfl) ?_
 have x3:Ext h1.next h1 h3:=hx0.trans ((hq.mono (by omega)).toExt (Nat.le_refl _))
 refine W.seq (W.reg (G.gcall 1 (by simp only[am,evOp,simprocAttr]<;>rfl) rfl (by simp only[am,evOp,simprocAttr]) (by simp only[am,evOp,simprocAttr]<;>rfl) (ptold_ok hq.get) fun r h4 hq4=>?_))
 obtain⟨rfl,rfl⟩:=hq4
 cases hb:(reck (numbers (xs.map Int.toNat))).2 with
 | true =>
   refine G.run (by simp only[am,evOp,simprocAttr,hb]<;>rfl) ?_
   exact W.ret ⟨.tup [.int .i64 0,.int .i64 10],(by simp only[rs,rf9,am,evOp,simprocAttr]<;>rfl),x3,fun q=>absurd hok q,fun _=>rfl⟩
 | false =>
   refine G.run (by simp only[am,evOp,simprocAttr,hb]<;>rfl) ?_
   exact W.ret ⟨.tup [.int .i64 ((reck (numbers (xs.map Int.toNat))).1:Nat),.int .i64 0],(by simp only[rs,rf9,am,evOp,simprocAttr]<;>rfl),x3,fun q=>absurd hok q,fun _=>rfl⟩
end Go.Proofs.YtahepnbflofndaaGreatDoor
