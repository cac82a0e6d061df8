/-
  SweepRuns' law in the clean machine.
-/
import Derived.Test.YtihedjolidbfiaaGreatDoorZStn
set_option linter.all false
namespace Go.Proofs.YtihedjolidbfiaaGreatDoor
open Go.Am
def resM (n:Nat) (es:List (Int×Int)) (order:List Int) (outs:List (List Int)):Int×Int×List (List It)×List It :=
 match runM n es outs order [] [] (List.replicate n []) 0 with
 | .inl (ends,row)=>(0,0,ends,row)
 | .inr i=>(3,(i:Nat),[],[])
open Classical in
noncomputable def outM (n:Int) (es:List (Int×Int)) (order:List Int) (outs:List (List Int)):Int×Int×List (List It)×List It :=
 if GoodP n es∧PlanP n.toNat es order outs then resM n.toNat es order outs else (1,0,[],[])
theorem SlTL.nils {h:AH}:SlTL h .nils []:=⟨[],.inl ⟨rfl,.inl rfl⟩,rfl,fun i w xs h1=>by simp at h1⟩
theorem run_out {h:AH}{r:AV}{n:Int}{es:List (Int×Int)}{order:List Int}{outs:List (List Int)}{tl:Int→Int→List AV}
 (hr:(¬ (GoodP n es∧PlanP n.toNat es order outs)∧r=.tup ([.nils,.nils]++tl 1 0))∨((GoodP n es∧PlanP n.toNat es order outs)∧RunR h r n.toNat es order outs tl)) :
 ∃ a b,r=.tup ([a,b]++tl (outM n es order outs).1 (outM n es order outs).2.1)∧SlTL h a (outM n es order outs).2.2.1∧SlT h b (outM n es order outs).2.2.2:=by
 rcases hr with ⟨hn,rfl⟩|⟨hp,hr⟩
 ·unfold outM
  rw[if_neg hn]
  exact⟨_,_,rfl,SlTL.nils,.inl ⟨rfl,.inl rfl⟩⟩
 ·unfold outM
  rw[if_pos hp]
  unfold resM
  rcases hr with ⟨i,h1,rfl⟩|⟨ends,row,a,b,h1,rfl,h2,h3⟩
  ·rw[h1]
   exact⟨_,_,rfl,SlTL.nils,.inl ⟨rfl,.inl rfl⟩⟩
  ·rw[h1]
   exact⟨a,b,rfl,h2,h3⟩
theorem gone_len (x:Int) (row:List It):(goneM x row).length≤row.length:=by
 unfold goneM
 rw[List.length_take,List.length_drop]
 omega
theorem runM_len {n:Nat}{es:List (Int×Int)}{outs:List (List Int)}{M:Nat} (ho:∀ l∈outs,l.length≤200):∀ (q pl:List Int) (row:List It) (ends ends':List (List It)) (row':List It) (i:Nat),row.length+201*q.length≤M→(∀ l∈ends,l.length≤M)→runM n es outs q pl row ends i=.inl (ends',row') →
 (∀ l∈ends',l.length≤M)∧row'.length≤M
 | [],pl,row,ends,ends',row',i,hm,he,h=>by
   simp only[runM,Sum.inl.injEq,Prod.mk.injEq] at h
   obtain⟨rfl,rfl⟩:=h
   exact⟨he,by omega⟩
 | x::q,pl,row,ends,ends',row',i,hm,he,h=>by
   unfold runM at h
   split at h
   ·have hg:(outs.getD x.toNat []).length≤200:=by
     by_cases hx:x.toNat<outs.length
     ·rw[getD_at hx]; exact ho _ (List.getElem_mem hx)
     ·rw[List.getD_eq_getElem?_getD,List.getElem?_eq_none (by omega)]; simp
    have:=next_len (es:=es) (x:=x) (outs:=outs.getD x.toNat []) (row:=row)
    simp only[List.length_cons] at hm
    refine runM_len ho q _ _ _ _ _ _ (by omega) (fun l hl=>?_) h
    rcases List.mem_or_eq_of_mem_set hl with hl|hl
    ·exact he l hl
    ·rw[hl]
     have:=gone_len x row
     omega
   ·cases h
theorem runM_elen {n:Nat}{es:List (Int×Int)}{outs:List (List Int)}:∀ (q pl:List Int) (row:List It) (ends ends':List (List It)) (row':List It) (i:Nat),runM n es outs q pl row ends i=.inl (ends',row')→ends'.length=ends.length
 | [],pl,row,ends,ends',row',i,h=>by
   simp only[runM,Sum.inl.injEq,Prod.mk.injEq] at h
   rw[← h.1]
 | x::q,pl,row,ends,ends',row',i,h=>by
   unfold runM at h
   split at h
   ·rw[runM_elen q _ _ _ _ _ _ h,List.length_set]
   ·cases h
theorem out_len {n:Int}{es:List (Int×Int)}{order:List Int}{outs:List (List Int)} (hl:order.length≤100) (ho:∀ l∈outs,l.length≤200) :
 (outM n es order outs).2.2.1.length<2 ^ 30∧(∀ l∈(outM n es order outs).2.2.1,l.length<2 ^ 30)∧(outM n es order outs).2.2.2.length<2 ^ 30:=by
 unfold outM
 split
 ·rename_i hp
  unfold resM
  split
  ·rename_i ends row h1
   obtain⟨h2,h3⟩:=runM_len (M:=201*100) ho _ _ _ _ _ _ _ (by simp only[List.length_nil]; omega) (fun l hl=>by
    have:=List.eq_of_mem_replicate hl
    subst this
    simp) h1
   have h4:=runM_elen _ _ _ _ _ _ _ h1
   rw[List.length_replicate] at h4
   have h5:n.toNat=order.length:=by rw[hp.2.1.length_eq,upTo_len]
   exact⟨by simp only; omega,fun l hl=>by have:=h2 l hl; omega,by simp only; omega⟩
  ·exact⟨by simp,by simp,by simp⟩
 ·exact⟨by simp,by simp,by simp⟩
theorem runs_law {os:List AO}{n:Int}{ev ordv outv:AV}{ne no nu:Nat}{es:List (Int×Int)}{order:List Int}{outs:List (List Int)} (hos:os.length=104) (c:Came (news os AH.zero) ev ordv outv ne no nu es order outs) :
 C prg 3 [.agg [.int .i64 n,ev],.agg [ordv,outv]] (news os AH.zero) fun v _=>v=.bool true:=by
 obtain⟨ec,eo⟩:=len_cells c.le
 obtain⟨oc,oo⟩:=len_cells c.lo
 obtain⟨qc,qo⟩:=len_cells c.lu
 have hnx:(news os AH.zero).next=112:=by rw[news_next,hos]; rfl
 refine C.func pf3 ?_
 refine W.seq (W.run (by simp only[am,evOp,simprocAttr,initTm]<;>rfl) ?_)
 have hsp:=speaks_ok (os:=os++[.cells [.int .i64 n,ev] 2 false,.cells [ordv,outv] 2 false]) (by rw[List.length_append,hos]; rfl)
 rw[← news_two] at hsp
 have ga:∀ c,(((news os AH.zero).new (.cells [.int .i64 n,ev] 2 false)).new (.cells [ordv,outv] 2 false)).get c=if c=(news os AH.zero).next+1 then some (.cells [ordv,outv] 2 false) else if c=(news os AH.zero).next then some (.cells [.int .i64 n,ev] 2 false) else (news os AH.zero).get c:=fun c=>by
  rw[AH.get_new,AH.get_new]
  rfl
 have hk0:∀ b o,(news os AH.zero).get b=some o→(((news os AH.zero).new (.cells [.int .i64 n,ev] 2 false)).new (.cells [ordv,outv] 2 false)).get b=some o:=fun b o hb=>by
  have:=AH.lt_of_get hb
  rw[ga,if_neg (by omega),if_neg (by omega)]
  exact hb
 generalize ((news os AH.zero).new (.cells [.int .i64 n,ev] 2 false)).new (.cells [ordv,outv] 2 false)=h1 at *
 have gG:h1.get (news os AH.zero).next=some (.cells [.int .i64 n,ev] 2 false):=by rw[ga,if_neg (by omega),if_pos rfl]
 have gP:h1.get ((news os AH.zero).next+1)=some (.cells [ordv,outv] 2 false):=by rw[ga,if_pos rfl]
 generalize (news os AH.zero).next=nx at *
 subst hnx
 refine W.seq (W.seq (W.reg (G.callq (by simp only[am,evOp,simprocAttr]) (by simp only[am,evOp,simprocAttr]<;>rfl) (hsp) fun r h2 hq=>?_)))
 obtain⟨rfl,hn2,hk2⟩:=hq
 refine G.run (by simp only[am,evOp,simprocAttr]<;>rfl) ?_
 refine W.no (by simp only[am,evOp,simprocAttr]) (W.skip ?_)
 have c2:=c.stay (h':=h2) fun b o hb=>hk2 b o (hk0 b o hb)
 have rG:rdCells h2 112 0 2=some [.int .i64 n,ev]:=by rw[rdCells_of (hk2 _ _ gG)]; rfl
 have rP:rdCells h2 113 0 2=some [ordv,outv]:=by rw[rdCells_of (hk2 _ _ gP)]; rfl
 refine W.seq (W.seq (W.reg (G.gcall 2 (by simp only[am,evOp,simprocAttr,initTm,rG,rP]<;>rfl) rfl (by simp only[am,evOp,simprocAttr,initTm,rG,rP]) (by simp only[am,evOp,simprocAttr,initTm,rG,rP]<;>rfl) (great_ok c2.le c2.lo c2.lu c2.u) fun r h3 hq=>?_)))
 obtain⟨⟨b,rfl,hb⟩,x3⟩:=hq
 refine G.run (by simp only[am,evOp,simprocAttr]<;>rfl) ?_
 cases b with
 | true =>
   refine W.yes (by simp only[am,evOp,simprocAttr]) (W.seq (W.run (by simp only[am,evOp,simprocAttr]<;>rfl) ?_))
   exact W.ret ⟨.bool true,(by simp only[rs,rf3,am,evOp,simprocAttr]<;>rfl),rfl⟩
 | false =>
 obtain⟨b1,b2,b3,b4⟩:=hb rfl
 obtain⟨l1,l2,l3⟩:=c2.lens
 have l3:=l3 b3
 refine W.no (by simp only[am,evOp,simprocAttr]) (W.skip ?_)
 have e3:=c2.e.ext x3 (Nat.le_refl _)
 have o3:=c2.o.ext x3 (Nat.le_refl _)
 have u3:=(c2.u b3).ext x3
 have rG3:rdCells h3 112 0 2=some [.int .i64 n,ev]:=by rw[rdCells_eq (x3.gt _ (by omega))]; exact rG
 have rP3:rdCells h3 113 0 2=some [ordv,outv]:=by rw[rdCells_eq (x3.gt _ (by omega))]; exact rP
 refine W.seq (W.reg (G.gcall 2 (by simp only[am,evOp,simprocAttr,initTm,rG3,rP3]<;>rfl) rfl (by simp only[am,evOp,simprocAttr,initTm,rG3,rP3]) (by simp only[am,evOp,simprocAttr,initTm,rG3,rP3]<;>rfl) (srun_ok (n:=n) e3 (by omega) o3 u3 (by omega) (by omega) b4) fun r h4 hq=>?_))
 obtain⟨x4,hr⟩:=hq
 obtain⟨a,bb,rfl,sa,sb⟩:=run_out hr
 obtain⟨q1,q2,q3⟩:=out_len (n:=n) (es:=es) (order:=order) (outs:=outs) (by omega) b4
 obtain⟨h5,w5,x5,g5,n5⟩:=mk_loc (h:=h4) (z:=[.int .i64 0,.int .i64 0,.nils]) (cs:=[.int .i64 (outM n es order outs).1,.int .i64 (outM n es order outs).2.1,.nils]) (e:=3) rfl
 have n3:=x3.nx
 have n4:=x4.nx
 generalize hO:outM n es order outs=O at *
 refine G.run (by simp only[am,evOp,simprocAttr,tlF,w5]<;>rfl) ?_
 have x35:Ext h3.next h3 h5:=x4.trans (x5.mono n4)
 have sa5:=sa.ext x5
 have sb5:=sb.ext x5 (Nat.le_refl _)
 have rG5:rdCells h5 112 0 2=some [.int .i64 n,ev]:=by rw[rdCells_eq (x35.gt _ (by omega))]; exact rG3
 have rP5:rdCells h5 113 0 2=some [ordv,outv]:=by rw[rdCells_eq (x35.gt _ (by omega))]; exact rP3
 refine W.seq (W.reg (G.gcall 2 (by simp only[am,evOp,simprocAttr,initTm,rG5,rP5]<;>rfl) rfl (by simp only[am,evOp,simprocAttr,initTm,rG5,rP5]) (by simp only[am,evOp,simprocAttr,initTm,rG5,rP5]<;>rfl) (rrun_ok (n:=n) (e3.ext x35 (Nat.le_refl _)) (by omega) (o3.ext x35 (Nat.le_refl _)) (u3.ext x35) (by omega) (by omega) b4) fun r h6 hq=>?_))
 obtain⟨x6,hr6⟩:=hq
 obtain⟨a',b',hr',sa',sb'⟩:=run_out hr6
 rw[hO] at hr' sa' sb'
 subst hr'
 refine G.run (by simp only[am,evOp,simprocAttr,tlR]<;>rfl) ?_
 have n5':=x35.nx
 have g6:h6.get h4.next=some (.cells [.int .i64 O.1,.int .i64 O.2.1,.nils] 3 false):=by rw[x6.gt _ (by omega)]; exact g5
 have t0:rdCells h6 h4.next 0 1=some [.int .i64 O.1]:=rd_at g6 rfl
 have t1:rdCells h6 h4.next 1 1=some [.int .i64 O.2.1]:=rd_at g6 rfl
 have t2:rdCells h6 h4.next 2 1=some [.nils]:=rd_at g6 rfl
 have c1:decide (O.1=O.1)=true:=decide_eq_true rfl
 have c2':decide (O.2.1=O.2.1)=true:=decide_eq_true rfl
 refine W.seq (W.reg (G.gcall 19 (by simp only[am,evOp,simprocAttr,t0,t1,t2,c1,c2',decide_true]<;>rfl) rfl (by simp only[am,evOp,simprocAttr,t0,t1,t2,c1,c2',decide_true]) (by simp only[am,evOp,simprocAttr,t0,t1,t2,c1,c2',decide_true]<;>rfl) (sameends_ok (sa5.ext x6) sa' (by omega) (by omega) (fun l hl=>by have:=q2 l hl; omega) (fun l hl=>by have:=q2 l hl; omega)) fun r h7 hq=>?_))
 obtain⟨rfl,rfl⟩:=hq
 refine G.gcall 4 (by simp only[am,evOp,simprocAttr,decide_true]<;>rfl) rfl (by simp only[am,evOp,simprocAttr,decide_true]) (by simp only[am,evOp,simprocAttr,decide_true]<;>rfl) (sameT_ok (sb5.ext x6 (Nat.le_refl _)) sb' (by omega) (by omega)) fun r h8 hq=>?_
 obtain⟨rfl,rfl⟩:=hq
 refine G.run (by simp only[am,evOp,simprocAttr,decide_true]<;>rfl) ?_
 exact W.ret ⟨.bool true,(by simp only[rs,rf3,am,evOp,simprocAttr]<;>rfl),rfl⟩
end Go.Proofs.YtihedjolidbfiaaGreatDoor
