/-
  sweep.Mirror.
-/
import Derived.Test.YtihedjolidbfiaaGreatDoorYSame
import Derived.Test.YtihedjolidbfiaaGreatDoorYLc
set_option linter.all false
namespace Go.Proofs.YtihedjolidbfiaaGreatDoor
open Go.Am
theorem flat_one:∀ ws:List AV,ws.flatMap (fun w=>[w])=ws
 | []=>rfl
 | w::r=>by rw[List.flatMap_cons,flat_one r]; rfl
theorem ints_flat (xs:List Int):ints xs.toArray=xs.flatMap eI:=by rw[flat_cI]; rfl
theorem blk_ints {d e:Array Int} (he:d.size=e.size):blkI (ints d) 0 e=.cells (ints e) 1 false:=by
 unfold blkI splice
 have:(ints d).drop (0+(ints e).length)=[]:=by rw[List.drop_eq_nil_iff,ints_len,ints_len]; omega
 rw[this,List.take_zero]
 simp
theorem rev_clone {h:AH}{v:AV}{xs:List Int}{lo:Nat} (hv:IsSl h 1 lo v (xs.flatMap eI)) (hl:xs.length<2 ^ 40) :
 C prg 42 [v] h fun _ h'=>SlI h' v xs.reverse∧Ext lo h h'∧∀ b o n c,v=.sl b o n c→lo≤b∧b<h'.next:=by
 rcases hv with ⟨rfl,hz⟩|⟨b,n,h1,rfl,h3,h4⟩
 ·have hx:xs=[]:=by
   have:=congrArg List.length hz
   rw[len_cI] at this
   exact List.length_eq_zero_iff.1 (by simpa using this)
  subst hx
  refine (reverse_nil (h:=h)).mono fun _ h' e=>?_
  subst e
  exact⟨.inl ⟨rfl,.inl rfl⟩,Ext.refl,fun b o n c e=>by cases e⟩
 ·rw[len_cI] at h4
  have hn:n=xs.toArray.size:=by simp; omega
  subst hn
  have hb:=AH.lt_of_get h3
  rw[← ints_flat,← blk_ints (d:=xs.toArray) (e:=xs.toArray) rfl] at h3
  refine (reverse_ok (c:=xs.toArray.size) h3 (by rw[ints_len]; omega) (by simpa using hl)).mono fun _ h' u=>⟨?_,u.ext h1,fun b' o n c e=>?_⟩
  ·have:=blk_sl (c:=xs.toArray.size) u.get (by rw[ints_len]; simp) (by simp)
   simpa using this
  ·cases e
   exact⟨h1,by rw[u.nx]; exact hb⟩
theorem mirror_ok {h:AH}{ordv outv:AV}{order:List Int}{outs:List (List Int)} (hp:SlI h ordv order) (hq:SlL h outv outs) (hl1:order.length<2 ^ 30) (hl2:outs.length<2 ^ 30) (hl3:∀ l∈outs,l.length<2 ^ 30) :
 C prg 17 [.agg [ordv,outv]] h fun r h'=>Ext h.next h h'∧∃ a b,r=.agg [a,b]∧SlI h' a order∧SlL h' b (outs.map List.reverse):=by
 obtain⟨oc,oo⟩:=hp.cells
 obtain⟨qc,qo⟩:=hq.cells
 refine C.func pf17 ?_
 refine W.seq (W.run (by simp only[am,evOp,simprocAttr,initTm]<;>rfl) ?_)
 have ga:∀ c,((h.new (.cells [ordv,outv] 2 false)).new (.cells [.nils,.nils] 2 false)).get c=if c=h.next+1 then some (.cells [.nils,.nils] 2 false) else if c=h.next then some (.cells [ordv,outv] 2 false) else h.get c:=fun c=>by
  rw[AH.get_new,AH.get_new]
  rfl
 have x0:Ext h.next h ((h.new (.cells [ordv,outv] 2 false)).new (.cells [.nils,.nils] 2 false)):=(Ext.new (Nat.le_refl _)).trans (Ext.new (by simp))
 have n0:((h.new (.cells [ordv,outv] 2 false)).new (.cells [.nils,.nils] 2 false)).next=h.next+2:=rfl
 generalize ((h.new (.cells [ordv,outv] 2 false)).new (.cells [.nils,.nils] 2 false))=h1 at *
 have gP:h1.get h.next=some (.cells [ordv,outv] 2 false):=by rw[ga,if_neg (by omega),if_pos rfl]
 have gR:h1.get (h.next+1)=some (.cells [.nils,.nils] 2 false):=by rw[ga,if_pos rfl]
 have r0:rdCells h1 h.next 0 1=some [ordv]:=rd_at gP rfl
 refine W.seq (W.reg (G.gcall 2 (by simp only[am,evOp,simprocAttr,initTm,r0]<;>rfl) rfl (by simp only[am,evOp,simprocAttr,initTm,r0]) (by simp only[am,evOp,simprocAttr,initTm,r0]<;>rfl) (cloneI_ok (hp.ext x0 (Nat.le_refl _)) (by omega)) fun a h2 hq2=>?_))
 obtain⟨ia,x2,_⟩:=hq2
 obtain⟨ac,ao⟩:=ia.cells
 have n2:=x2.nx
 obtain⟨h3,w3,x3,g3,n3⟩:=mk_loc (h:=h2) (z:=[.nils,.nils]) (cs:=[a,.nils]) (e:=2) rfl
 refine G.run (by simp only[am,evOp,simprocAttr,ac,ao,w3]<;>rfl) ?_
 have X3:Ext h.next h h3:=x0.trans ((x2.mono (by omega)).trans (x3.mono (by omega)))
 have gP3:h3.get h.next=some (.cells [ordv,outv] 2 false):=by rw[x3.gt _ (by omega),x2.gt _ (by omega)]; exact gP
 have gR3:h3.get (h.next+1)=some (.cells [.nils,.nils] 2 false):=by rw[x3.gt _ (by omega),x2.gt _ (by omega)]; exact gR
 have ia3:IsSl h3 1 h1.next a (order.flatMap eI):=ia.ext x3 (Nat.le_refl _)
 have r1:rdCells h3 h.next 1 1=some [outv]:=rd_at gP3 rfl
 have lq:=hq.len
 refine W.seq (W.seq (W.run (by simp only[am,evOp,simprocAttr,initTm,r1,lq]<;>rfl) ?_))
 refine W.rng (α:=AV×List AV) (N:=outs.length) (fun _ _=>[(11,outv),(3,.ptr h2.next 0),(2,.ptr (h.next+1) 0)])
  (fun k p h'=>h'.get h2.next=some (.cells [a,p.1] 2 false)∧p.2.length=k∧IsSl h' 1 h3.next p.1 p.2∧(∀ (i:Nat) (w:AV) (xs:List Int),p.2[i]?=some w→outs[i]?=some xs→SlI h' w xs.reverse∧∀ b o n c,w=.sl b o n c→h3.next≤b∧∀ sb m,p.1=.sl sb 0 m m→b≠sb)∧Kp (·=h2.next) h3 h')
  (.nils,[]) (fun _ _=>rfl) (by omega) (by simp only[hl,am,evOp,simprocAttr,initTm,Int.natCast_zero]) ⟨g3,rfl,.inl ⟨rfl,rfl⟩,(fun i w xs h1=>by simp at h1),Kp.refl⟩ ?_ ?_
 ·rintro k ⟨sv,ws⟩ ts h4 hk ⟨j1,j2,j3,j4,j5⟩ ⟨ei,en,e11,e3,e2,-⟩
  simp only at ei en e11 e3 e2 j1 j2 j3 j4
  have n4:=j5.nx
  have X4:Ext h.next h h4:=⟨Nat.le_trans X3.nx j5.nx,fun c hc=>by rw[j5.gt c (by omega) (by omega),X3.gt c hc],fun c hc=>by rw[j5.ty c (by omega),X3.ty c hc]⟩
  obtain⟨b1,p1,w,a1,q1,sw,hb1⟩:=(hq.ext X4).at hk
  have hm:outs[k].length<2 ^ 30:=hl3 _ (List.getElem_mem hk)
  refine W.seq (W.run (by simp only[am,evOp,simprocAttr,ei,e11,a1,q1]<;>rfl) ?_)
  refine W.seq (W.reg (G.gcall 1 (by simp only[am,evOp,simprocAttr]<;>rfl) rfl (by simp only[am,evOp,simprocAttr]) (by simp only[am,evOp,simprocAttr]<;>rfl) (cloneI_ok sw (by omega)) fun v h5 hq5=>?_))
  obtain⟨iv,x5,_⟩:=hq5
  refine G.run (by simp only[am,evOp,simprocAttr]<;>rfl) ?_
  refine W.seq (W.reg (G.gcall 1 (by simp only[am,evOp,simprocAttr]<;>rfl) rfl (by simp only[am,evOp,simprocAttr]) (by simp only[am,evOp,simprocAttr]<;>rfl) (rev_clone iv (by omega)) fun r h6 hq6=>?_))
  obtain⟨s6,x6,b6⟩:=hq6
  refine G.run (by simp only[am,evOp,simprocAttr]<;>rfl) ?_
  have X46:Ext h4.next h4 h6:=x5.trans x6
  have n6:=X46.nx
  have g6:h6.get h2.next=some (.cells [a,sv] 2 false):=by rw[X46.gt _ (by omega)]; exact j1
  have i6:IsSl h6 1 h3.next sv ws:=j3.ext X46 (Nat.le_refl _)
  obtain⟨vc,vo⟩:=s6.cells
  obtain⟨sv',h7,a7,i7,x7,e7,n7,k7,t7⟩:=(i6.ext (Ext.new (o:=.cells [v] 1 false) (Nat.le_refl _)) (Nat.le_refl _)).app (x:=h6.next) (new:=[v]) (bytes:=24) (by simp; omega) (by omega) (by rw[AH.get_new,if_pos rfl]) (by omega) (fun b n e=>by have:=i6.lt e; omega) rfl (by simp [vo]) (by rw[j2]; unfold tooMany; omega) (by rw[j2]; unfold tooMany; omega)
  have N6:(h6.new (.cells [v] 1 false)).next=h6.next+1:=rfl
  rw[N6] at e7 n7 k7
  have K7:∀ c,c<h6.next→(∀ b n,sv=.sl b 0 n n→c≠b)→h7.get c=h6.get c:=fun c hc hn=>by rw[k7 c (by omega) hn,AH.get_new,if_neg (by omega)]
  have svb:∀ b n,sv=.sl b 0 n n→h3.next≤b∧b<h4.next:=fun b n e=>by
   refine⟨?_,j3.lt e⟩
   rcases j3 with ⟨e',_⟩|⟨b',n',q1,e',_⟩
   ·rw[e'] at e; cases e
   ·rw[e'] at e; cases e; exact q1
  have g7:h7.get h2.next=some (.cells [a,sv] 2 false):=by rw[K7 _ (by omega) (fun b n e=>by have:=svb b n e; omega)]; exact g6
  have rd6:rdCells h6 h2.next 1 1=some [sv]:=rd_at g6 rfl
  obtain⟨sc,so⟩:=i7.cells
  have w8:=wr_at (v:=sv') (i:=1) g7 (by simp)
  have u8:=Upd.put (o:=.cells ([a,sv].set 1 sv') 2 false) g7
  refine W.run (by simp only[am,evOp,simprocAttr,e3,rd6,vc,vo,a7,sc,so,w8]<;>rfl) ?_
  generalize h7.put h2.next (.cells ([a,sv].set 1 sv') 2 false)=h8 at *
  have X47:Ext h3.next h4 h7:=(X46.mono (by omega)).trans (Ext.trans (Ext.new (by omega)) x7)
  refine⟨(sv',ws++[v]),⟨u8.get,by simp [j2],i7.upd u8 (by omega),fun i w' xs hw hx=>?_,⟨by rw[u8.nx]; exact Nat.le_trans n4 X47.nx,fun c hc hn=>by rw[u8.ne hn,X47.gt c hc,j5.gt c hc hn],fun c hc=>by rw[u8.ty,X47.ty c hc,j5.ty c hc]⟩⟩,by simp only[hl,am,evOp,simprocAttr,ei,en,e11,e3,e2]⟩
  by_cases hi:i<ws.length
  ·rw[List.getElem?_append_left hi] at hw
   obtain⟨s,sb⟩:=j4 i w' xs hw hx
   refine⟨s.cong fun b o n c e=>?_,fun b o n c e=>⟨(sb b o n c e).1,fun sb' m e'=>?_⟩⟩
   ·have hb:=s.lt e
    obtain⟨q1,q2⟩:=sb b o n c e
    rw[u8.ne (by omega),K7 b (by omega) (fun b' n e'=>q2 b' n e'),X46.gt b hb]
   ·have hb:=s.lt e
    rw[e7] at e'
    cases e'
    omega
  ·have hi2:i=ws.length:=by
    have:=(List.getElem?_eq_some_iff.1 hw).1
    simp at this; omega
   subst hi2
   rw[List.getElem?_append_right (Nat.le_refl _),Nat.sub_self] at hw
   simp only[List.getElem?_cons_zero,Option.some.injEq] at hw
   subst hw
   rw[j2,List.getElem?_eq_getElem hk,Option.some.injEq] at hx
   subst hx
   refine⟨s6.cong fun b o n c e=>?_,fun b o n c e=>?_⟩
   ·obtain⟨q1,q2⟩:=b6 b o n c e
    rw[u8.ne (by omega),K7 b q2 (fun b' n e'=>by have:=svb b' n e'; omega)]
   ·obtain⟨q1,q2⟩:=b6 b o n c e
    refine⟨by omega,fun sb' m e'=>?_⟩
    rw[e7] at e'
    cases e'
    omega
 ·rintro⟨sv,ws⟩ ts h4 ⟨j1,j2,j3,j4,j5⟩ ⟨e11,e3,e2,-⟩
  simp only at e3 e2 j1 j2 j3 j4
  have n4:=j5.nx
  have X4:Ext h.next h h4:=⟨Nat.le_trans X3.nx j5.nx,fun c hc=>by rw[j5.gt c (by omega) (by omega),X3.gt c hc],fun c hc=>by rw[j5.ty c (by omega),X3.ty c hc]⟩
  have gR4:h4.get (h.next+1)=some (.cells [.nils,.nils] 2 false):=by rw[j5.gt _ (by omega) (by omega)]; exact gR3
  have rr:rdCells h4 h2.next 0 2=some [a,sv]:=by rw[rdCells_of j1]; rfl
  have u5:=Upd.put (o:=.cells [a,sv] 2 false) gR4
  have w5:wrCells h4 (h.next+1) 0 [a,sv]=some (h4.put (h.next+1) (.cells [a,sv] 2 false)):=by rw[wrCells_of gR4]; rfl
  obtain⟨sc,so⟩:=j3.cells
  refine W.seq (W.run (by simp only[am,evOp,simprocAttr,e3,e2,rr,ao,so,w5]<;>rfl) ?_)
  generalize h4.put (h.next+1) (.cells [a,sv] 2 false)=h5 at *
  have r5:rdCells h5 (h.next+1) 0 2=some [a,sv]:=by rw[rdCells_of u5.get]; rfl
  refine W.ret ⟨.agg [a,sv],(by simp only[rs,rf17,am,evOp,simprocAttr,r5,e2]<;>rfl),X4.trans (u5.ext (by omega)),a,sv,rfl,?_,ws,?_,by rw[List.length_map]; exact j2,fun i w xs hw hx=>?_⟩
  ·have ia4:IsSl h4 1 h1.next a (order.flatMap eI):=ia3.cong fun b n e hb=>j5.gt b (ia3.lt e) (by have:=ia.lt e; omega)
   exact IsSl.sl (by omega) (fun _=>rfl) (ia4.upd u5 (by omega))
  ·have:IsSl h5 1 h3.next sv (ws.flatMap fun w=>[w]):=by rw[flat_one]; exact j3.upd u5 (by omega)
   exact IsSl.sl (by omega) (fun _=>rfl) this
  ·rw[List.getElem?_map] at hx
   obtain⟨ys,hy,rfl⟩:=Option.map_eq_some_iff.1 hx
   obtain⟨s,sb⟩:=j4 i w ys hw hy
   exact s.cong fun b o n c e=>u5.ne (by have:=sb b o n c e; omega)
end Go.Proofs.YtihedjolidbfiaaGreatDoor
