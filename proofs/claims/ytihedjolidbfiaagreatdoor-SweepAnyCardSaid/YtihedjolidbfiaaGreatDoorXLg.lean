/-
  sweep: of, Run. sweep: Run.
-/
import Derived.Test.YtihedjolidbfiaaGreatDoorXLf
set_option linter.all false
namespace Go.Proofs.YtihedjolidbfiaaGreatDoor
open Go.Am
theorem isort_iff {xs ys:List Int} (hs:ys.Pairwise (·≤·)):isort xs=ys↔xs.Perm ys:=by
 constructor
 ·intro h
  rw[← h]
  exact (isort_perm xs).symm
 ·intro h
  have h1:(isort xs).Pairwise (fun a b=>decide (a≤b)=true):=List.pairwise_mergeSort (by intro a b c; simp only[decide_eq_true_eq]; omega) (by intro a b; simp only[Bool.or_eq_true,decide_eq_true_eq]; omega) xs
  refine List.Perm.eq_of_pairwise (le:=fun a b:Int=>a≤b) (fun a b _ _ h1 h2=>Int.le_antisymm h1 h2) (h1.imp fun h=>of_decide_eq_true h) hs ((isort_perm xs).trans h)
theorem endsAt_sorted (p:Int×Int→Bool):∀ (es:List (Int×Int)) (i:Nat),(endsAt p es i).Pairwise (·≤·)
 | [],i=>List.Pairwise.nil
 | y::r,i=>by
   unfold endsAt
   split
   ·refine List.pairwise_cons.2 ⟨fun z hz=>?_,endsAt_sorted p r (i+1)⟩
    obtain⟨j,hj,_⟩:=endsAt_range p r (i+1) _ hz
    omega
   ·exact endsAt_sorted p r (i+1)
theorem outs_iff {es:List (Int×Int)}{x:Int}{l:List Int}:isort l=outsM es x↔OutsOk es x l:=isort_iff (endsAt_sorted _ _ _)
def upTo (n:Nat):List Int:=(List.range n).map fun x=>((x:Nat):Int)
theorem upTo_len (n:Nat):(upTo n).length=n:=by simp [upTo]
theorem mem_upTo {n:Nat}{x:Int}:x∈upTo n↔0≤x∧x<n:=by
 unfold upTo
 rw[List.mem_map]
 constructor
 ·rintro⟨a,ha,rfl⟩
  rw[List.mem_range] at ha
  omega
 ·rintro⟨h1,h2⟩
  exact⟨x.toNat,List.mem_range.2 (by omega),by omega⟩
theorem upTo_get {n i:Nat} (h:i<n):(upTo n)[i]?=some ((i:Nat):Int):=by
 unfold upTo
 rw[List.getElem?_map,List.getElem?_range h]
 rfl
theorem upTo_sorted (n:Nat):(upTo n).Pairwise (·≤·):=by
 unfold upTo
 rw[List.pairwise_map]
 exact List.pairwise_le_range.imp fun h=>by omega
theorem upTo_nodup (n:Nat):(upTo n).Nodup:=by
 unfold upTo
 unfold List.Nodup
 rw[List.pairwise_map]
 exact List.nodup_range.imp fun h=>by omega
def PlanP (n:Nat) (es:List (Int×Int)) (order:List Int) (outs:List (List Int)):Prop:=order.Perm (upTo n)∧outs.length=n∧∀ x:Nat,x<n→OutsOk es x (outs.getD x [])
def SlL (h:AH) (v:AV) (xss:List (List Int)):Prop:=∃ ws:List AV,Sl h 1 v (ws.map fun w=>[w])∧ws.length=xss.length∧∀ (i:Nat) (w:AV) (xs:List Int),ws[i]?=some w→xss[i]?=some xs→SlI h w xs
theorem SlL.ext {h h':AH}{v:AV}{xss:List (List Int)} (hs:SlL h v xss) (hx:Ext h.next h h'):SlL h' v xss:=by
 obtain⟨ws,a,b,c⟩:=hs
 exact⟨ws,a.ext hx (Nat.le_refl _),b,fun i w xs h1 h2=>(c i w xs h1 h2).ext hx (Nat.le_refl _)⟩
theorem SlL.len {h:AH}{v:AV}{xss:List (List Int)} (hs:SlL h v xss):lenLA v=some (.int .i64 (xss.length:Nat)):=by
 obtain⟨ws,a,b,c⟩:=hs
 have:=a.len
 rw[List.length_map,b] at this
 exact this
theorem SlL.cells {h:AH}{v:AV}{xss:List (List Int)} (hs:SlL h v xss):v.cells=[v]∧v.one=true:=by
 obtain⟨ws,a,b,c⟩:=hs
 exact a.cells
theorem SlL.at {h:AH}{v:AV}{xss:List (List Int)} (hs:SlL h v xss) {k:Nat} (hk:k<xss.length):∃ b p w,iadrL 1 v (.int .i64 (k:Nat))=some (.ptr b p)∧rdCells h b p 1=some [w]∧SlI h w xss[k]∧b<h.next:=by
 obtain⟨ws,a,b,c⟩:=hs
 have hw:ws[k]?=some ws[k]:=List.getElem?_eq_getElem (by omega)
 obtain⟨b1,p1,a1,r1,l1⟩:=a.at1 (i:=k) (y:=ws[k]) (by rw[List.getElem?_map,hw]; rfl)
 exact⟨b1,p1,_,a1,r1,c k _ _ hw (List.getElem?_eq_getElem hk),l1⟩
def SlTL (h:AH) (v:AV) (xss:List (List It)):Prop:=∃ ws:List AV,Sl h 1 v (ws.map fun w=>[w])∧ws.length=xss.length∧∀ (i:Nat) (w:AV) (xs:List It),ws[i]?=some w→xss[i]?=some xs→SlT h w xs
theorem SlTL.ext {h h':AH}{v:AV}{xss:List (List It)} (hs:SlTL h v xss) (hx:Ext h.next h h'):SlTL h' v xss:=by
 obtain⟨ws,a,b,c⟩:=hs
 exact⟨ws,a.ext hx (Nat.le_refl _),b,fun i w xs h1 h2=>(c i w xs h1 h2).ext hx (Nat.le_refl _)⟩
theorem SlTL.len {h:AH}{v:AV}{xss:List (List It)} (hs:SlTL h v xss):lenLA v=some (.int .i64 (xss.length:Nat)):=by
 obtain⟨ws,a,b,c⟩:=hs
 have:=a.len
 rw[List.length_map,b] at this
 exact this
theorem SlTL.at {h:AH}{v:AV}{xss:List (List It)} (hs:SlTL h v xss) {k:Nat} (hk:k<xss.length):∃ b p w,iadrL 1 v (.int .i64 (k:Nat))=some (.ptr b p)∧rdCells h b p 1=some [w]∧SlT h w xss[k]∧b<h.next:=by
 obtain⟨ws,a,b,c⟩:=hs
 have hw:ws[k]?=some ws[k]:=List.getElem?_eq_getElem (by omega)
 obtain⟨b1,p1,a1,r1,l1⟩:=a.at1 (i:=k) (y:=ws[k]) (by rw[List.getElem?_map,hw]; rfl)
 exact⟨b1,p1,_,a1,r1,c k _ _ hw (List.getElem?_eq_getElem hk),l1⟩
theorem getD_at {α:Type}{xs:List α}{k:Nat}{d:α} (h:k<xs.length):xs.getD k d=xs[k]:=by
 rw[List.getD_eq_getElem?_getD,List.getElem?_eq_getElem h]; rfl
theorem sof_ok {h:AH}{vp ordv outv:AV}{n:Nat}{es:List (Int×Int)}{order:List Int}{outs:List (List Int)} (hv:IsView h vp n es) (hp:SlI h ordv order) (hq:SlL h outv outs) (hl:order.length≤200) (hl2:outs.length≤200) (hl3:∀ l∈outs,l.length≤200) :
 C prg 27 [vp,.agg [ordv,outv]] h fun r h'=>(∃ b,r=.bool b∧(b=true↔PlanP n es order outs))∧Ext h.next h h':=by
 have hv0:=hv
 obtain⟨b,ev,os,is,ob,ib,rfl,g1,g2,g3,g4,g5,g6,g7,g8,m1,m2,m3,m4⟩:=hv
 obtain⟨oc,oo⟩:=hp.cells
 obtain⟨qc,qo⟩:=hq.cells
 have lp:=hp.len
 rw[List.length_map] at lp
 have lq:=hq.len
 refine C.func pf27 ?_
 have x0:Ext h.next h (h.new (.cells [ordv,outv] 2 false)):=Ext.new (Nat.le_refl _)
 have g0:(h.new (.cells [ordv,outv] 2 false)).get h.next=some (.cells [ordv,outv] 2 false):=by rw[AH.get_new,if_pos rfl]
 have n0:(h.new (.cells [ordv,outv] 2 false)).next=h.next+1:=rfl
 refine W.seq (W.run (by simp only[am,evOp,simprocAttr,initTm]<;>rfl) ?_)
 generalize h.new (.cells [ordv,outv] 2 false)=h0 at *
 have ra:rdCells h0 h.next 0 1=some [ordv]:=rd_at g0 rfl
 have rb:rdCells h0 h.next 1 1=some [outv]:=rd_at g0 rfl
 have rn:rdCells h0 b 0 1=some [.int .i64 (n:Nat)]:=rd_at (by rw[x0.gt _ (AH.lt_of_get g1)]; exact g1) rfl
 have hcond:∃ t:Bool,(t=true↔¬ (outs.length=n∧order.length=n))∧((decide (((outs.length:Nat):Int)=((n:Nat):Int))=true→decide (((order.length:Nat):Int)=((n:Nat):Int))=!t)∧(decide (((outs.length:Nat):Int)=((n:Nat):Int))=false→t=true)):=by
  refine⟨decide (¬ (outs.length=n∧order.length=n)),decide_eq_true_iff,fun q=>?_,fun q=>?_⟩
  ·have q:outs.length=n:=by have:=of_decide_eq_true q; omega
   simp only[q,true_and,decide_not,Bool.not_not,decide_eq_decide]
   omega
  ·have q:¬ outs.length=n:=by have:=of_decide_eq_false q; omega
   simp [q]
 by_cases d1:outs.length=n∧order.length=n
 case neg =>
  have hno:¬ PlanP n es order outs:=fun ⟨p1,p2,_⟩=>d1 ⟨p2,by rw[p1.length_eq,upTo_len]⟩
  by_cases d2:outs.length=n
  ·have c1:decide (((outs.length:Nat):Int)=((n:Nat):Int))=true:=decide_eq_true (by omega)
   have c2:decide (((order.length:Nat):Int)=((n:Nat):Int))=false:=decide_eq_false (by omega)
   refine W.seq (W.seq (W.run (by simp only[am,evOp,simprocAttr,initTm,rb,rn,ra,lp,lq,c1,c2]<;>rfl) ?_))
   refine W.yes (by simp only[am,evOp,simprocAttr]) (W.seq (W.run (by simp only[am,evOp,simprocAttr]<;>rfl) ?_))
   exact W.ret ⟨.bool false,(by simp only[rs,rf27,am,evOp,simprocAttr]<;>rfl),⟨false,rfl,⟨fun q=>(by cases q),fun q=>absurd q hno⟩⟩,x0⟩
  ·have c1:decide (((outs.length:Nat):Int)=((n:Nat):Int))=false:=decide_eq_false (by omega)
   refine W.seq (W.seq (W.run (by simp only[am,evOp,simprocAttr,initTm,rb,rn,lq,c1]<;>rfl) ?_))
   refine W.yes (by simp only[am,evOp,simprocAttr]) (W.seq (W.run (by simp only[am,evOp,simprocAttr]<;>rfl) ?_))
   exact W.ret ⟨.bool false,(by simp only[rs,rf27,am,evOp,simprocAttr]<;>rfl),⟨false,rfl,⟨fun q=>(by cases q),fun q=>absurd q hno⟩⟩,x0⟩
 obtain⟨d1,d2⟩:=d1
 have c1:decide (((outs.length:Nat):Int)=((n:Nat):Int))=true:=decide_eq_true (by omega)
 have c2:decide (((order.length:Nat):Int)=((n:Nat):Int))=true:=decide_eq_true (by omega)
 refine W.seq (W.seq (W.run (by simp only[am,evOp,simprocAttr,initTm,rb,rn,ra,lp,lq,c1,c2]<;>rfl) ?_))
 refine W.no (by simp only[am,evOp,simprocAttr]) (W.skip ?_)
 have hp0:=hp.ext x0 (Nat.le_refl _)
 have hq0:=hq.ext x0
 refine W.seq (W.seq (W.reg (G.gcall 2 (by simp only[am,evOp,simprocAttr,initTm,ra]<;>rfl) rfl (by simp only[am,evOp,simprocAttr,initTm,ra]) (by simp only[am,evOp,simprocAttr,initTm,ra]<;>rfl) (values_ok hp0.cells.1) fun r h1 hq=>?_)))
 obtain⟨rfl,hh1⟩:=hq
 have x1:Ext h0.next h0 h1:=by rw[hh1]; exact Ext.new (Nat.le_refl _)
 have n1:h1.next=h0.next+1:=by rw[hh1]; rfl
 have gv1:h1.get h0.next=some (.cells [ordv] 1 false):=by rw[hh1,AH.get_new,if_pos rfl]
 refine G.callq (by simp only[am,evOp,simprocAttr]) (by simp only[am,evOp,simprocAttr]<;>rfl) (sorted_ok (rd_at gv1 rfl) (hp0.ext x1 (Nat.le_refl _)) (by omega) (by omega)) fun r h2 hq=>?_
 obtain⟨i2,x2⟩:=hq
 have s2:SlI h2 r (isort order):=IsSl.sl (by omega) (fun _=>rfl) i2
 have l2:=s2.len
 rw[List.length_map,isort_len] at l2
 refine G.run (by simp only[am,evOp,simprocAttr,l2]<;>rfl) ?_
 have X2:=x0.trans ((x1.trans (x2.mono (by omega))).mono (by omega))
 have g2':h2.get h.next=some (.cells [ordv,outv] 2 false):=by rw[x2.gt _ (by omega),x1.gt _ (by omega)]; exact g0
 refine W.rng (α:=Unit) (N:=order.length) (fun _ _=>[(32,r),(0,.ptr b 0),(3,.ptr h.next 0)]) (fun k _ h'=>h'=h2∧∀ j,j<k→(isort order)[j]?=some ((j:Nat):Int)) () (fun _ _=>rfl) (by omega) (by simp only[held_cons,held_nil,am,evOp,↓reduceIte,Nat.reduceEqDiff,Int.reduceEq,Nat.reduceAdd,Nat.reduceLeDiff,reduceCtorEq,initTm]) ⟨rfl,fun j hj=>absurd hj (by omega)⟩ ?_ ?_
 ·rintro k _ ts h3 hk ⟨rfl,j2⟩ ⟨ei,en,e32,e0,e3,-⟩
  simp only at ei en e32 e0 e3
  have hk':k<(isort order).length:=by rw[isort_len]; exact hk
  obtain⟨b1,p1,a1,r4,_⟩:=s2.at1 (map_at (f:=eI) hk')
  refine W.seq (W.run (by simp only[am,evOp,simprocAttr,e32,ei,a1,r4]<;>rfl) ?_)
  refine W.seq (W.seq (W.run (by simp only[am,evOp,simprocAttr]<;>rfl) ?_))
  refine W.cond (t:=!decide ((isort order)[k]=((k:Nat):Int))) (by simp only[am,evOp,simprocAttr]) (fun q=>?_) fun q=>?_
  ·have q:¬ (isort order)[k]=((k:Nat):Int):=by simpa using q
   refine W.seq (W.run (by simp only[am,evOp,simprocAttr]<;>rfl) ?_)
   refine W.ret ⟨.bool false,(by simp only[rs,rf27,am,evOp,simprocAttr]<;>rfl),⟨false,rfl,⟨fun q=>(by cases q),fun hP=>absurd ?_ q⟩⟩,X2⟩
   have:=(isort_iff (upTo_sorted n)).2 hP.1
   have h1:=upTo_get (n:=n) (i:=k) (by omega)
   rw[← this,List.getElem?_eq_getElem hk'] at h1
   simpa using h1
  ·have q:(isort order)[k]=((k:Nat):Int):=by simpa using q
   refine W.skip ⟨(),⟨rfl,fun j hj=>?_⟩,by simp only[held_cons,held_nil,am,evOp,↓reduceIte,Nat.reduceEqDiff,Int.reduceEq,Nat.reduceAdd,Nat.reduceLeDiff,reduceCtorEq,ei,en,e32,e0,e3]⟩
   by_cases e:j=k
   ·subst e
    rw[List.getElem?_eq_getElem hk',q]
   ·exact j2 j (by omega)
 ·rintro _ ts h3 ⟨rfl,j2⟩ ⟨e32,e0,e3,-⟩
  simp only at e32 e0 e3
  have hperm:order.Perm (upTo n):=by
   refine (isort_iff (upTo_sorted n)).1 (List.ext_getElem? fun j=>?_)
   by_cases hj:j<n
   ·rw[j2 j (by omega),upTo_get hj]
   ·rw[List.getElem?_eq_none (by rw[isort_len]; omega),List.getElem?_eq_none (by rw[upTo_len]; omega)]
  have rb3:rdCells h3 h.next 1 1=some [outv]:=rd_at g2' rfl
  refine W.seq (W.seq (W.run (by simp only[am,evOp,simprocAttr,e3,rb3,lq]<;>rfl) ?_))
  refine W.rng (α:=Unit) (N:=outs.length) (fun _ _=>[(44,outv),(0,.ptr b 0)]) (fun k _ h'=>Ext h3.next h3 h'∧∀ j,j<k→OutsOk es ((j:Nat):Int) (outs.getD j [])) () (fun _ _=>rfl) (by omega) (by simp only[held_cons,held_nil,am,evOp,↓reduceIte,Nat.reduceEqDiff,Int.reduceEq,Nat.reduceAdd,Nat.reduceLeDiff,reduceCtorEq,initTm,e0]) ⟨Ext.refl,fun j hj=>absurd hj (by omega)⟩ ?_ ?_
  ·rintro k _ ts h4 hk ⟨j1,j2⟩ ⟨ei,en,e44,e0,-⟩
   simp only at ei en e44 e0
   have X4:Ext h.next h h4:=X2.trans (j1.mono X2.nx)
   obtain⟨b1,p1,w,a1,r4,sw,_⟩:=(hq.ext X4).at hk
   refine W.seq (W.run (by simp only[am,evOp,simprocAttr,e44,ei,a1,r4]<;>rfl) ?_)
   refine W.seq (W.reg (G.gcall 1 (by simp only[am,evOp,simprocAttr]<;>rfl) rfl (by simp only[am,evOp,simprocAttr]) (by simp only[am,evOp,simprocAttr]<;>rfl) (values_ok sw.cells.1) fun r h5 hq=>?_))
   obtain⟨rfl,hh5⟩:=hq
   have x5:Ext h4.next h4 h5:=by rw[hh5]; exact Ext.new (Nat.le_refl _)
   have n5:h5.next=h4.next+1:=by rw[hh5]; rfl
   have gv5:h5.get h4.next=some (.cells [w] 1 false):=by rw[hh5,AH.get_new,if_pos rfl]
   have hlk:=hl3 _ (List.getElem_mem hk)
   refine G.callq (by simp only[am,evOp,simprocAttr]) (by simp only[am,evOp,simprocAttr]<;>rfl) (sorted_ok (rd_at gv5 rfl) (sw.ext x5 (Nat.le_refl _)) (by omega) (by omega)) fun r h6 hq=>?_
   obtain⟨i6,x6⟩:=hq
   have X6:Ext h.next h h6:=X4.trans ((x5.trans (x6.mono (by omega))).mono X4.nx)
   have s6:SlI h6 r (isort outs[k]):=IsSl.sl (by omega) (fun _=>rfl) i6
   refine G.gcall 2 (by simp only[am,evOp,simprocAttr,e0]<;>rfl) rfl (by simp only[am,evOp,simprocAttr,e0]) (by simp only[am,evOp,simprocAttr,e0]<;>rfl) (outs_ok (x:=((k:Nat):Int)) (hv0.ext X6)) fun r7 h7 hq=>?_
   obtain⟨i7,x7⟩:=hq
   have s7:SlI h7 r7 (outsM es ((k:Nat):Int)):=IsSl.sl (by omega) (fun _=>rfl) i7
   have ol:(outsM es ((k:Nat):Int)).length≤128:=Nat.le_trans (endsAt_len _ _ _) m3
   refine G.callq (by simp only[am,evOp,simprocAttr]) (by simp only[am,evOp,simprocAttr]<;>rfl) (equalI_ok (s6.ext x7 (Nat.le_refl _)) s7 (by rw[isort_len]; omega) (by omega)) fun r8 h8 hq=>?_
   obtain⟨rfl,e8⟩:=hq
   subst e8
   refine G.run (by simp only[am,evOp,simprocAttr]<;>rfl) ?_
   have X7:Ext h.next h h8:=X6.trans (x7.mono X6.nx)
   have Y7:Ext h3.next h3 h8:=j1.trans ((x5.trans ((x6.trans (x7.mono x6.nx)).mono (by omega))).mono j1.nx)
   have hgd:outs.getD k []=outs[k]:=getD_at hk
   refine W.cond (t:=!(isort outs[k]==outsM es ((k:Nat):Int))) (by simp only[am,evOp,simprocAttr]) (fun q=>?_) fun q=>?_
   ·have q:¬ isort outs[k]=outsM es ((k:Nat):Int):=by simpa using q
    refine W.seq (W.run (by simp only[am,evOp,simprocAttr]<;>rfl) ?_)
    refine W.ret ⟨.bool false,(by simp only[rs,rf27,am,evOp,simprocAttr]<;>rfl),⟨false,rfl,⟨fun q=>(by cases q),fun hP=>absurd ?_ q⟩⟩,X7⟩
    have:=hP.2.2 k (by omega)
    rw[hgd] at this
    exact outs_iff.2 this
   ·have q:isort outs[k]=outsM es ((k:Nat):Int):=by simpa using q
    refine W.skip ⟨(),⟨Y7,fun j hj=>?_⟩,by simp only[held_cons,held_nil,am,evOp,↓reduceIte,Nat.reduceEqDiff,Int.reduceEq,Nat.reduceAdd,Nat.reduceLeDiff,reduceCtorEq,ei,en,e44,e0]⟩
    by_cases e:j=k
    ·subst e
     rw[hgd]
     exact outs_iff.1 q
    ·exact j2 j (by omega)
  ·rintro _ ts h4 ⟨j1,j2⟩ ⟨e44,e0,-⟩
   refine W.seq (W.run (by simp only[am,evOp,simprocAttr]<;>rfl) ?_)
   exact W.ret ⟨.bool true,(by simp only[rs,rf27,am,evOp,simprocAttr]<;>rfl),⟨true,rfl,⟨fun _=>⟨hperm,d1,fun x hx=>j2 x (by omega)⟩,fun _=>rfl⟩⟩,X2.trans (j1.mono X2.nx)⟩
end Go.Proofs.YtihedjolidbfiaaGreatDoor
namespace Go.Proofs.YtihedjolidbfiaaGreatDoor
open Go.Am
theorem mks_rows {h:AH}{n:Nat} (hn:n≤64):mksA h [.nils] 1 24 (.int .i64 (n:Nat)) (.int .i64 (n:Nat))=some (.sl h.next 0 n n,h.new (.cells (repl [.nils] n) 1 false)):=mksA_nat (by unfold tooMany; omega) (by unfold tooMany; omega)
theorem runM_step {n:Nat}{es:List (Int×Int)}{outs:List (List Int)}{x:Int}{q pl:List Int}{row:List It}{ends:List (List It)}{i:Nat}:runM n es outs (x::q) pl row ends i=if readyM n es row pl x then runM n es outs q (pl++[x]) (nextM es x (outs.getD x.toNat []) row) (ends.set x.toNat (goneM x row)) (i+1) else .inr i:=rfl
def RunR (h:AH) (r:AV) (n:Nat) (es:List (Int×Int)) (order:List Int) (outs:List (List Int)) (tl:Int→Int→List AV):Prop :=
 (∃ i:Nat,runM n es outs order [] [] (List.replicate n []) 0=.inr i∧r=.tup ([.nils,.nils]++tl 3 i)) ∨
  ∃ ends row a b,runM n es outs order [] [] (List.replicate n []) 0=.inl (ends,row)∧r=.tup ([a,b]++tl 0 0)∧SlTL h a ends∧SlT h b row
def tlF (c a:Int):List AV:=[.agg [.int .i64 c,.int .i64 a,.nils]]
theorem srun_ok {h:AH}{n:Int}{ev ordv outv:AV}{es:List (Int×Int)}{order:List Int}{outs:List (List Int)} (he:SlE h ev es) (hl0:es.length<2 ^ 30) (hp:SlI h ordv order) (hq:SlL h outv outs) (hl:order.length≤200) (hl2:outs.length≤200) (hl3:∀ l∈outs,l.length≤200) :
 C prg 9 [.agg [.int .i64 n,ev],.agg [ordv,outv]] h fun r h'=>Ext h.next h h' ∧
   ((¬ (GoodP n es∧PlanP n.toNat es order outs)∧r=.tup ([.nils,.nils]++tlF 1 0))∨((GoodP n es∧PlanP n.toNat es order outs)∧RunR h' r n.toNat es order outs tlF)):=by
 obtain⟨ec,eo⟩:=he.cells
 obtain⟨oc,oo⟩:=hp.cells
 obtain⟨qc,qo⟩:=hq.cells
 have lp:=hp.len
 rw[List.length_map] at lp
 refine C.func pf9 ?_
 refine W.seq (W.run (by simp only[am,evOp,simprocAttr,initTm]<;>rfl) ?_)
 have ga:∀ c,((((h.new (.cells [.int .i64 n,ev] 2 false)).new (.cells [ordv,outv] 2 false)).new (.cells [.int .i64 0,.int .i64 0,.nils] 3 false))).get c=if c=h.next+2 then some (.cells [.int .i64 0,.int .i64 0,.nils] 3 false) else if c=h.next+1 then some (.cells [ordv,outv] 2 false) else if c=h.next then some (.cells [.int .i64 n,ev] 2 false) else h.get c:=fun c=>by
  rw[AH.get_new,AH.get_new,AH.get_new]
  rfl
 have x0:Ext h.next h ((((h.new (.cells [.int .i64 n,ev] 2 false)).new (.cells [ordv,outv] 2 false)).new (.cells [.int .i64 0,.int .i64 0,.nils] 3 false))):=(Ext.new (Nat.le_refl _)).trans ((Ext.new (by simp)).trans (Ext.new (by simp; omega)))
 have n0:((((h.new (.cells [.int .i64 n,ev] 2 false)).new (.cells [ordv,outv] 2 false)).new (.cells [.int .i64 0,.int .i64 0,.nils] 3 false))).next=h.next+3:=rfl
 generalize (((h.new (.cells [.int .i64 n,ev] 2 false)).new (.cells [ordv,outv] 2 false)).new (.cells [.int .i64 0,.int .i64 0,.nils] 3 false))=h1 at *
 have gG:h1.get h.next=some (.cells [.int .i64 n,ev] 2 false):=by rw[ga,if_neg (by omega),if_neg (by omega),if_pos rfl]
 have gP:h1.get (h.next+1)=some (.cells [ordv,outv] 2 false):=by rw[ga,if_neg (by omega),if_pos rfl]
 have gF:h1.get (h.next+2)=some (.cells [.int .i64 0,.int .i64 0,.nils] 3 false):=by rw[ga,if_pos rfl]
 have rG:rdCells h1 h.next 0 2=some [.int .i64 n,ev]:=by rw[rdCells_of gG]; rfl
 refine W.seq (W.reg (G.gcall 1 (by simp only[am,evOp,simprocAttr,initTm,rG]<;>rfl) rfl (by simp only[am,evOp,simprocAttr,initTm,rG]) (by simp only[am,evOp,simprocAttr,initTm,rG]<;>rfl) (fnew_ok (he.ext x0 (Nat.le_refl _)) hl0) fun r h2 hq'=>?_))
 obtain⟨x2,hcase⟩:=hq'
 have X2:=x0.trans (x2.mono x0.nx)
 have n2:=x2.nx
 have gF2:h2.get (h.next+2)=some (.cells [.int .i64 0,.int .i64 0,.nils] 3 false):=by rw[x2.gt _ (by omega)]; exact gF
 have gP2:h2.get (h.next+1)=some (.cells [ordv,outv] 2 false):=by rw[x2.gt _ (by omega)]; exact gP
 have gG2:h2.get h.next=some (.cells [.int .i64 n,ev] 2 false):=by rw[x2.gt _ (by omega)]; exact gG
 have rG2:rdCells h2 h.next 0 2=some [.int .i64 n,ev]:=by rw[rdCells_of gG2]; rfl
 have rP2:rdCells h2 (h.next+1) 0 2=some [ordv,outv]:=by rw[rdCells_of gP2]; rfl
 have hend:∀ (h':AH) (c a:Int),h'.get (h.next+2)=some (.cells [.int .i64 0,.int .i64 0,.nils] 3 false)→Ext h.next h h'→∃ h'',wrCells h' (h.next+2) 0 [.int .i64 c,.int .i64 a,.nils]=some h''∧rdCells h'' (h.next+2) 0 3=some [.int .i64 c,.int .i64 a,.nils]∧Ext h.next h h''∧(∀ c,c≠h.next+2→h''.get c=h'.get c):=by
  intro h' c a hg hx
  have u:=Upd.put (o:=.cells [.int .i64 c,.int .i64 a,.nils] 3 false) hg
  exact⟨h'.put (h.next+2) (.cells [.int .i64 c,.int .i64 a,.nils] 3 false),by rw[wrCells_of hg]; rfl,by rw[rdCells_of u.get]; rfl,hx.trans (u.ext (by omega)),fun c hc=>u.ne hc⟩
 rcases hcase with ⟨hgood,fb,hfb,rfl,hf⟩|⟨hno,rfl⟩
 case inr =>
  refine G.run (by simp only[am,evOp,simprocAttr]<;>rfl) ?_
  refine W.seq (W.seq (W.reg (G.run (by simp only[am,evOp,simprocAttr,chk1,decide_true,decide_false]<;>rfl) ?_)))
  obtain⟨h3,w3,r3,X3,_⟩:=hend h2 1 0 gF2 X2
  refine W.yes (by simp only[am,evOp,simprocAttr,decide_true,decide_false]) (W.seq (W.run (by simp only[am,evOp,simprocAttr,w3]<;>rfl) ?_))
  exact W.ret ⟨.tup [.nils,.nils,.agg [.int .i64 1,.int .i64 0,.nils]],(by simp only[rs,rf9,am,evOp,simprocAttr,r3]<;>rfl),X3,.inl ⟨fun h=>hno h.1,rfl⟩⟩
 refine G.run (by simp only[am,evOp,simprocAttr]<;>rfl) ?_
 obtain⟨nn,rfl⟩:∃ nn:Nat,n=nn:=⟨n.toNat,by
  have:=hgood.1
  simp only[mayB,Bool.and_eq_true,decide_eq_true_eq] at this; omega⟩
 rw[Int.toNat_natCast] at hf ⊢
 have he2:=he.ext X2 (Nat.le_refl _)
 refine W.seq (W.seq (W.reg (G.gcallc 5 (by simp only[am,evOp,simprocAttr,initTm,rG2,rP2,decide_true,decide_false]<;>rfl) rfl (by simp only[am,evOp,simprocAttr,initTm,rG2,rP2,decide_true,decide_false]) (by simp only[am,evOp,simprocAttr,initTm,rG2,rP2,decide_true,decide_false]<;>rfl) (gof_ok he2 hgood.1) fun vp h3 hq'=>?_)))
 obtain⟨hv,x3⟩:=hq'
 have X3:=X2.trans (x3.mono X2.nx)
 have rP3:rdCells h3 (h.next+1) 0 2=some [ordv,outv]:=by rw[rdCells_eq (x3.gt _ (by omega))]; exact rP2
 have sagg:AV.same (.agg [ordv,outv]) (.agg [ordv,outv])=true:=by
  have key:∀ v:AV,(v=.nils∨v=.emp∨∃ b o l c,v=.sl b o l c)→AV.same v v=true:=by
   rintro v (rfl|rfl|⟨b,o,l,c,rfl⟩)
   ·exact same_nils
   ·rfl
   ·exact same_sl
  have k1:AV.same ordv ordv=true:=by
   rcases hp with ⟨_,h|h⟩|⟨b,o,c,cs,ro,h,_⟩
   ·exact key _ (.inl h)
   ·exact key _ (.inr (.inl h))
   ·exact key _ (.inr (.inr ⟨_,_,_,_,h⟩))
  have k2:AV.same outv outv=true:=by
   obtain⟨ws,hq,_⟩:=hq
   rcases hq with ⟨_,h|h⟩|⟨b,o,c,cs,ro,h,_⟩
   ·exact key _ (.inl h)
   ·exact key _ (.inr (.inl h))
   ·exact key _ (.inr (.inr ⟨_,_,_,_,h⟩))
  simp only[AV.same,AV.sames,k1,k2,Bool.and_self]
 refine⟨by simp only[am,evOp,simprocAttr,chk1,rP3,sagg,decide_true,decide_false],?_⟩
 refine G.callq (by simp only[am,evOp,simprocAttr,decide_true,decide_false]) (by simp only[am,evOp,simprocAttr,decide_true,decide_false]<;>rfl) (sof_ok hv (hp.ext X3 (Nat.le_refl _)) (hq.ext X3) hl hl2 hl3) fun r h4 hq'=>?_
 obtain⟨⟨bb,rfl,hbb⟩,x4⟩:=hq'
 have X4:=X3.trans (x4.mono X3.nx)
 have Y4:Ext h2.next h2 h4:=x3.trans (x4.mono x3.nx)
 have n4:=Y4.nx
 have gF4:h4.get (h.next+2)=some (.cells [.int .i64 0,.int .i64 0,.nils] 3 false):=by rw[Y4.gt _ (by omega)]; exact gF2
 have gP4:h4.get (h.next+1)=some (.cells [ordv,outv] 2 false):=by rw[Y4.gt _ (by omega)]; exact gP2
 have gG4:h4.get h.next=some (.cells [.int .i64 (nn:Nat),ev] 2 false):=by rw[Y4.gt _ (by omega)]; exact gG2
 refine G.run (by simp only[am,evOp,simprocAttr,decide_true,decide_false]<;>rfl) ?_
 cases bb with
 | false =>
   have hno:¬ PlanP nn es order outs:=fun hP=>by have:=hbb.2 hP; cases this
   obtain⟨h5,w5,r5,X5,_⟩:=hend h4 1 0 gF4 X4
   refine W.yes (by simp only[am,evOp,simprocAttr,decide_true,decide_false]) (W.seq (W.run (by simp only[am,evOp,simprocAttr,w5]<;>rfl) ?_))
   exact W.ret ⟨.tup [.nils,.nils,.agg [.int .i64 1,.int .i64 0,.nils]],(by simp only[rs,rf9,am,evOp,simprocAttr,r5]<;>rfl),X5,.inl ⟨fun h=>hno h.2,rfl⟩⟩
 | true =>
 have hP:=hbb.1 rfl
 refine W.no (by simp only[am,evOp,simprocAttr,decide_true,decide_false]) (W.skip ?_)
 have hfn:=hf.bounds
 have rg4:rdCells h4 h.next 0 1=some [.int .i64 (nn:Nat)]:=rd_at gG4 rfl
 refine W.seq (W.run (by simp only[am,evOp,simprocAttr,initTm,rg4,mks_rows hfn.2.1]<;>rfl) ?_)
 have x5:Ext h4.next h4 (h4.new (.cells (repl [.nils] nn) 1 false)):=Ext.new (Nat.le_refl _)
 have g5:(h4.new (.cells (repl [.nils] nn) 1 false)).get h4.next=some (.cells (repl [.nils] nn) 1 false):=by rw[AH.get_new,if_pos rfl]
 have n5:(h4.new (.cells (repl [.nils] nn) 1 false)).next=h4.next+1:=rfl
 generalize h4.new (.cells (repl [.nils] nn) 1 false)=h5 at *
 have X5:=X4.trans (x5.mono X4.nx)
 have Y5:Ext h2.next h2 h5:=Y4.trans (x5.mono Y4.nx)
 have hf5:=hf.ext Y5
 have hfb2:fb<h2.next:=by obtain⟨iv,vp,pv,hV,g,_⟩:=hf; exact AH.lt_of_get g
 have ra5:rdCells h5 (h.next+1) 0 1=some [ordv]:=rd_at (by rw[x5.gt _ (by omega)]; exact gP4) rfl
 obtain⟨hperm,hol,hout⟩:=hP
 have hrl:(repl [AV.nils] nn).length=nn:=by rw[repl_rep,List.length_replicate]
 refine W.seq (W.seq (W.run (by simp only[am,evOp,simprocAttr,initTm,ra5,lp]<;>rfl) ?_))
 refine W.rng (α:=Nat×List It×List (List It)×List AV) (N:=order.length) (fun _ _=>[(4,.sl h4.next 0 nn nn),(7,.ptr fb 0),(3,.ptr (h.next+1) 0),(6,.ptr (h.next+2) 0),(30,ordv)])
  (fun k a h'=>runM nn es outs (order.drop k) (order.take k) a.2.1 a.2.2.1 k=runM nn es outs order [] [] (List.replicate nn []) 0∧IsFront h' fb a.1 nn es a.2.1 (order.take k)∧h'.get h4.next=some (.cells a.2.2.2 1 false)∧a.2.2.2.length=nn∧a.2.2.1.length=nn ∧
   (∀ (i:Nat) (v:AV) (l:List It),a.2.2.2[i]?=some v→a.2.2.1[i]?=some l→SlT h' v l∧∀ b o m c,v=.sl b o m c→fb<b)∧a.1≠h4.next∧fb≤a.1∧Ext h.next h h'∧h4.next<h'.next∧h'.get (h.next+1)=some (.cells [ordv,outv] 2 false)∧h'.get (h.next+2)=some (.cells [.int .i64 0,.int .i64 0,.nils] 3 false)∧a.2.1.length≤300*k)
  (fb,[],List.replicate nn [],repl [.nils] nn) (fun _ _=>rfl) (by omega) (by simp only[held_cons,held_nil,am,evOp,↓reduceIte,Nat.reduceEqDiff,Int.reduceEq,Nat.reduceAdd,Nat.reduceLeDiff,reduceCtorEq,initTm])
  ⟨by simp,by simpa using hf5,g5,hrl,by simp,fun i v l h1 h2=>?_,by simp only; omega,Nat.le_refl _,X5,by omega,by rw[x5.gt _ (by omega)]; exact gP4,by rw[x5.gt _ (by omega)]; exact gF4,by simp⟩ ?_ ?_
 ·simp only[repl_rep] at h1
  rw[List.getElem?_replicate] at h1 h2
  split at h1
  ·rename_i hi
   rw[if_pos hi] at h2
   simp only[Option.some.injEq] at h1 h2
   subst h1 h2
   exact⟨.inl ⟨rfl,.inl rfl⟩,fun b o m c e=>by cases e⟩
  ·cases h1
 ·rintro k ⟨pb,row,ends,ls⟩ ts h6 hk ⟨j1,j2,j3,j4,j5,j6,j7,j8,jx,jn,jP,jF,jl⟩ ⟨ei,en,e4,e7,e3,e6,e30,-⟩
  simp only at ei en e4 e7 e3 e6 e30 j1 j2 j3 j4 j5 j6 j7 j8 jl
  obtain⟨b1,p1,a1,r1,_⟩:=(hp.ext jx (Nat.le_refl _)).at1 (map_at (f:=eI) hk)
  have hxm:order[k]∈upTo nn:=hperm.mem_iff.1 (List.getElem_mem hk)
  obtain⟨hx0,hx1⟩:=mem_upTo.1 hxm
  obtain⟨x,hx⟩:∃ x:Nat,order[k]=x:=⟨order[k].toNat,by omega⟩
  rw[List.drop_eq_getElem_cons hk,runM_step] at j1
  rw[hx] at r1 j1
  have hxn:x<nn:=by omega
  refine W.seq (W.run (by simp only[am,evOp,simprocAttr,ei,e30,a1,r1]<;>rfl) ?_)
  have rb6:rdCells h6 (h.next+1) 1 1=some [outv]:=rd_at jP rfl
  obtain⟨b2,p2,w,a2,r2,sw,_⟩:=(hq.ext jx).at (k:=x) (by omega)
  have hswl:∀ b o m c,w=.sl b o m c→b≠fb∧b≠pb:=by
   intro b o m c hb
   obtain⟨b2',p2',w',a2',r2',sw',_⟩:=hq.at (k:=x) (by omega)
   rw[a2] at a2'
   cases a2'
   rw[rdCells_eq (jx.gt _ (by assumption)),r2'] at r2
   simp only[Option.some.injEq,List.cons.injEq,and_true] at r2
   subst r2
   have:=sw'.lt hb
   constructor<;>omega
  have htl:(order.take k).length=k:=by rw[List.length_take]; omega
  have hlk:=hl3 _ (List.getElem_mem (show x<outs.length by omega))
  have hgd:outs.getD x []=outs[x]'(by omega):=getD_at (by omega)
  refine W.seq (W.reg (G.gcall 9 (by simp only[am,evOp,simprocAttr,e7,e3,e4,rb6,a2,r2]<;>rfl) rfl (by simp only[am,evOp,simprocAttr,e7,e3,e4,rb6,a2,r2]) (by simp only[am,evOp,simprocAttr,e7,e3,e4,rb6,a2,r2]<;>rfl) (fplace_ok (x:=((x:Nat):Int)) j2 sw hswl (by omega) (by omega) (by omega)) fun r h7 hq'=>?_))
  rw[Int.toNat_natCast] at j1
  have ix:idx? ((x:Nat):Int) nn=some x:=idx_nat hxn
  by_cases hrd:readyM nn es row (order.take k) ((x:Nat):Int)=true
  ·rw[if_pos hrd] at hq' j1
   have ho:=hout x hxn
   rw[hgd] at ho j1
   rw[if_pos (outs_iff.2 ho)] at hq'
   obtain⟨gv,pb',rfl,ig,hf7,hpb',K7⟩:=hq'
   have n7:=K7.nx
   have hlsl:∀ (i:Nat) (v:AV) (l:List It),ls[i]?=some v→ends[i]?=some l→SlT h7 v l:=fun i v l h1 h2=>by
    obtain⟨s1,s2⟩:=j6 i v l h1 h2
    refine s1.cong fun b o m c hb=>K7.gt b (s1.lt hb) ?_
    have hfb':=s2 b o m c hb
    rintro (e|e)
    ·omega
    ·
     obtain⟨iv,vp2,pv,hV,g,si,so,vv,vx,v1,v2,v3,pp⟩:=j2
     rcases pp with ⟨_,_,q⟩|⟨m',_,q,_,_⟩
     ·omega
     ·rcases s1 with ⟨_,hn|hn⟩|⟨b',o',c',cs',ro',hb2,hg2,_⟩
      ·subst hn; cases hb
      ·subst hn; cases hb
      ·subst hb2
       cases hb
       rw[e,q] at hg2
       simp at hg2
   have gE7:h7.get h4.next=some (.cells ls 1 false):=by rw[K7.gt _ jn (by rintro (e|e)<;>omega)]; exact j3
   obtain⟨gc,go⟩:=ig.cells
   have wE:wrCells h7 h4.next x [gv]=some (h7.put h4.next (.cells (ls.set x gv) 1 false)):=wr_at gE7 (by omega)
   refine G.run (by simp only[am,evOp,simprocAttr,e4,ix,Nat.mul_one,wE,gc,go]<;>rfl) ?_
   have u8:=Upd.put (o:=.cells (ls.set x gv) 1 false) gE7
   have n8:(h7.put h4.next (.cells (ls.set x gv) 1 false)).next=h7.next:=rfl
   generalize h7.put h4.next (.cells (ls.set x gv) 1 false)=h8 at *
   refine W.seq (W.seq (W.run (by simp only[am,evOp,simprocAttr]<;>rfl) ?_))
   refine W.no (by simp only[am,evOp,simprocAttr,decide_true,decide_false]) (W.skip ?_)
   have hne:∀ v:AV,∀ l:List It,SlT h7 v l→SlT h8 v l:=fun v l s=>s.cong fun b o m c hb=>u8.ne fun e=>by
    rcases s with ⟨_,hn|hn⟩|⟨b',o',c',cs',ro',hb2,hg2,_⟩
    ·subst hn; cases hb
    ·subst hn; cases hb
    ·subst hb2
     cases hb
     rw[e,gE7] at hg2
     simp at hg2
   have hf8:IsFront h8 fb pb' nn es (nextM es ((x:Nat):Int) (outs[x]'(by omega)) row) (order.take k++[((x:Nat):Int)]):=by
    obtain⟨iv,vp2,pv,hV,g,si,so,vv,vx,v1,v2,v3,pp⟩:=hf7
    have hVE:hV.next≤h4.next:=by omega
    refine⟨iv,vp2,pv,hV,by rw[u8.ne (by omega)]; exact g,hne _ _ si,so,vv,⟨by rw[n8]; exact vx.nx,fun c hc=>by rw[u8.ne (by omega)]; exact vx.gt _ hc,fun c hc=>by rw[u8.ty]; exact vx.ty _ hc⟩,v1,v2,by rw[n8]; exact v3,?_⟩
    rcases pp with pp|⟨m,p1,p2,p3⟩
    ·exact .inl pp
    ·exact .inr ⟨m,p1,by rw[u8.ne (by omega)]; exact p2,p3⟩
   have htk:order.take (k+1)=order.take k++[((x:Nat):Int)]:=by rw[List.take_succ_eq_append_getElem hk,hx]
   refine⟨(pb',nextM es ((x:Nat):Int) (outs[x]'(by omega)) row,ends.set x (goneM ((x:Nat):Int) row),ls.set x gv),⟨by rw[htk]; exact j1,by rw[htk]; exact hf8,u8.get,by simpa using j4,by simpa using j5,fun i v l h1 h2=>?_,by simp only; omega,by simp only; omega,?_,by omega,?_,?_,?_⟩,by simp only[held_cons,held_nil,am,evOp,↓reduceIte,Nat.reduceEqDiff,Int.reduceEq,Nat.reduceAdd,Nat.reduceLeDiff,reduceCtorEq,ei,en,e4,e7,e3,e6,e30]⟩
   ·simp only at h1 h2
    by_cases e:x=i
    ·subst e
     rw[List.getElem?_set_self (by omega),Option.some.injEq] at h1 h2
     subst h1 h2
     refine⟨hne _ _ (IsSl.sl (by omega) (fun _=>rfl) ig),fun b o m c hb=>?_⟩
     rcases ig with ⟨rfl,_⟩|⟨b',m',hb',rfl,_,_⟩
     ·cases hb
     ·cases hb; omega
    ·rw[List.getElem?_set_ne e] at h1 h2
     exact⟨hne _ _ (hlsl i v l h1 h2),(j6 i v l h1 h2).2⟩
   ·refine jx.trans ⟨by rw[n8]; exact n7,fun c hc=>?_,fun c hc=>?_⟩
    ·rw[u8.ne (by omega),K7.gt c (by omega) (by rintro (e|e)<;>omega)]
    ·rw[u8.ty,K7.ty c (by omega)]
   ·rw[u8.ne (by omega),K7.gt _ (by omega) (by rintro (e|e)<;>omega)]; exact jP
   ·rw[u8.ne (by omega),K7.gt _ (by omega) (by rintro (e|e)<;>omega)]; exact jF
   ·have:=next_len (es:=es) (x:=((x:Nat):Int)) (outs:=outs[x]'(by omega)) (row:=row)
    simp only
    omega
  ·rw[if_neg hrd] at hq' j1
   obtain⟨rfl,x7⟩:=hq'
   have X7:=jx.trans (x7.mono jx.nx)
   have gE7:h7.get h4.next=some (.cells ls 1 false):=by rw[x7.gt _ jn]; exact j3
   have wE:wrCells h7 h4.next x [.nils]=some (h7.put h4.next (.cells (ls.set x .nils) 1 false)):=wr_at gE7 (by omega)
   refine G.run (by simp only[am,evOp,simprocAttr,e4,ix,Nat.mul_one,wE]<;>rfl) ?_
   have u8:=Upd.put (o:=.cells (ls.set x .nils) 1 false) gE7
   generalize h7.put h4.next (.cells (ls.set x .nils) 1 false)=h8 at *
   refine W.seq (W.seq (W.run (by simp only[am,evOp,simprocAttr]<;>rfl) ?_))
   have n7:=x7.nx
   have gF8:h8.get (h.next+2)=some (.cells [.int .i64 0,.int .i64 0,.nils] 3 false):=by rw[u8.ne (by omega),x7.gt _ (by omega)]; exact jF
   obtain⟨h9,w9,r9,X9,_⟩:=hend h8 3 ((k:Nat):Int) gF8 (X7.trans (u8.ext (by omega)))
   refine W.yes (by simp only[am,evOp,simprocAttr,decide_true,decide_false]) (W.seq (W.run (by simp only[am,evOp,simprocAttr,ei,e6,w9]<;>rfl) ?_))
   exact W.ret ⟨.tup [.nils,.nils,.agg [.int .i64 3,.int .i64 ((k:Nat):Int),.nils]],(by simp only[rs,rf9,am,evOp,simprocAttr,ei,e6,r9]<;>rfl),X9,.inr ⟨⟨hgood,hperm,hol,hout⟩,.inl ⟨k,j1.symm,rfl⟩⟩⟩
 ·rintro⟨pb,row,ends,ls⟩ ts h6 ⟨j1,j2,j3,j4,j5,j6,j7,j8,jx,jn,jP,jF,jl⟩ ⟨e4,e7,e3,e6,e30,-⟩
  simp only at e4 e7 e3 e6 e30 j1 j2 j3 j4 j5 j6 j7 j8 jl
  rw[List.drop_length] at j1
  refine W.seq (W.reg (G.gcall 4 (by simp only[am,evOp,simprocAttr,e4,e7]<;>rfl) rfl (by simp only[am,evOp,simprocAttr,e4,e7]) (by simp only[am,evOp,simprocAttr,e4,e7]<;>rfl) (frow_ok j2 (by omega)) fun r h7 hq'=>?_))
  obtain⟨i7,x7⟩:=hq'
  obtain⟨ic,io⟩:=i7.cells
  have X7:=jx.trans (x7.mono jx.nx)
  have n7:=x7.nx
  have gF7:h7.get (h.next+2)=some (.cells [.int .i64 0,.int .i64 0,.nils] 3 false):=by rw[x7.gt _ (by omega)]; exact jF
  obtain⟨h8,w8,r8,X8,k8⟩:=hend h7 0 0 gF7 X7
  refine G.run (by simp only[am,evOp,simprocAttr,e6,w8]<;>rfl) ?_
  have keep:∀ v:AV,∀ b o m c,v=.sl b o m c→b≠h.next+2→∀ l,SlT h6 v l→SlT h8 v l:=fun v b o m c hv hb l s=>s.cong fun b' o' m' c' hv'=>by
   rw[hv] at hv'
   cases hv'
   rw[k8 b hb,x7.gt _ (s.lt hv)]
  refine W.ret ⟨.tup [.sl h4.next 0 nn nn,r,.agg [.int .i64 0,.int .i64 0,.nils]],(by simp only[rs,rf9,am,evOp,simprocAttr,e6,r8]<;>rfl),X8,.inr ⟨⟨hgood,hperm,hol,hout⟩,.inr ⟨ends,row,_,_,j1.symm,rfl,⟨ls,?_,by rw[j4,j5],fun i v l h1 h2=>?_⟩,?_⟩⟩⟩
  ·exact Sl.row (by rw[k8 _ (by omega),x7.gt _ (by omega)]; exact j3) j4 (Nat.le_refl _)
  ·obtain⟨s1,s2⟩:=j6 i v l h1 h2
   refine s1.cong fun b o m c hv=>?_
   have:=s2 b o m c hv
   rw[k8 b (by omega),x7.gt _ (s1.lt hv)]
  ·exact (IsSl.sl (by omega) (fun _=>rfl) i7:SlT h7 r row).cong fun b o m c hv=>by
    refine k8 b fun e=>?_
    rcases i7 with ⟨rfl,_⟩|⟨b',m',hb',rfl,_,_⟩
    ·cases hv
    ·cases hv; omega
end Go.Proofs.YtihedjolidbfiaaGreatDoor
