/-
  SweepAny's law in the clean machine.
-/
import Derived.Test.YtihedjolidbfiaaGreatDoorXLRuns
set_option linter.all false
namespace Go.Proofs.YtihedjolidbfiaaGreatDoor
open Go.Am
structure Left (n:Nat) (es:List (Int×Int)) (outs:Int→List Int) (E:Int→List It) (row:List It) (pl q:List Int):Prop where
 v:Inv n es row pl
 nd:q.Nodup
 mem:∀ z∈q,z∉pl∧0≤z∧z<n
 all:∀ z:Int,0≤z∧z<n→z∉pl→z∈q
 run:Runs es outs E q row
 len:pl.length+q.length=n
theorem Left.step {n:Nat}{es:List (Int×Int)}{outs:Int→List Int}{E:Int→List It}{row:List It}{pl q:List Int}{x:Int} (l:Left n es outs E row pl q) (hone:∀ a b:Nat,a<n→b<n→(insM es a).length=0→(insM es b).length=0→a=b) (hout:∀ x:Int,0≤x∧x<n→OutsOk es x (outs x)) (hx:readyM n es row pl x=true) :
 E x=goneM x row∧Left n es outs E (nextM es x (outs x) row) (pl++[x]) (q.erase x):=by
 obtain⟨h1,h2,h3⟩:=ready_rdy.1 hx
 have hq:=l.all x h1 h2
 obtain⟨e1,e2⟩:=exch hone hout q row pl l.v l.nd l.mem l.run x hq h3
 refine⟨e1,l.v.next (hout x h1) h2 h3 hone h1,l.nd.erase x,fun z hz=>?_,fun z hz hp=>?_,e2,?_⟩
 ·obtain⟨hz1,hz2⟩:=l.nd.mem_erase_iff.1 hz
  obtain⟨g1,g2⟩:=l.mem z hz2
  refine⟨fun h=>?_,g2⟩
  rcases List.mem_append.1 h with h|h
  ·exact g1 h
  ·simp only[List.mem_cons,List.not_mem_nil,or_false] at h
   exact hz1 h
 ·have hp1:z∉pl:=fun h=>hp (List.mem_append_left _ h)
  have hp2:z≠x:=fun h=>hp (by rw[h]; exact List.mem_append_right _ (List.mem_singleton.2 rfl))
  exact l.nd.mem_erase_iff.2 ⟨hp2,l.all z hz hp1⟩
 ·rw[List.length_append,List.length_erase_of_mem hq]
  have:=l.len
  have:=List.length_pos_of_mem hq
  simp only[List.length_cons,List.length_nil]
  omega
theorem mem_readyL {n:Nat}{es:List (Int×Int)}{row:List It}{pl:List Int}{x:Int}:x∈readyL n es row pl n↔readyM n es row pl x=true:=by
 unfold readyL
 rw[List.mem_map]
 constructor
 ·rintro⟨m,hm,rfl⟩
  exact (List.mem_filter.1 hm).2
 ·intro h
  obtain⟨h1,_,_⟩:=ready_rdy.1 h
  refine⟨x.toNat,List.mem_filter.2 ⟨List.mem_range.2 (by omega),?_⟩,by omega⟩
  rw[show ((x.toNat:Nat):Int)=x by omega]
  exact h
theorem Left.more {n:Nat}{es:List (Int×Int)}{outs:Int→List Int}{E:Int→List It}{row:List It}{pl q:List Int} (l:Left n es outs E row pl q) (hq:pl.length<n):0<(readyL n es row pl n).length:=by
 cases q with
 | nil=>have:=l.len; simp at this; omega
 | cons x q =>
   obtain⟨h1,h2⟩:=l.mem x (List.mem_cons_self ..)
   exact List.length_pos_of_mem (mem_readyL.2 (ready_rdy.2 ⟨h2,h1,l.run.1⟩))
theorem out_ok {n:Int}{es:List (Int×Int)}{order:List Int}{outs:List (List Int)} (h:(outM n es order outs).1=0):GoodP n es∧PlanP n.toNat es order outs∧∃ ends row,outM n es order outs=(0,0,ends,row)∧runM n.toNat es outs order [] [] (List.replicate n.toNat []) 0=.inl (ends,row):=by
 unfold outM at h ⊢
 split at h
 ·rename_i hp
  rw[if_pos hp]
  refine⟨hp.1,hp.2,?_⟩
  unfold resM at h ⊢
  split at h
  ·rename_i ends row h1
   rw[h1]
   exact⟨ends,row,rfl,rfl⟩
  ·cases h
 ·cases h
theorem left_start {n:Nat}{es:List (Int×Int)}{order:List Int}{outs:List (List Int)}{ends:List (List It)}{row:List It} (hp:PlanP n es order outs) (hr:runM n es outs order [] [] (List.replicate n []) 0=.inl (ends,row)) :
 ends.length=n∧Left n es (fun x=>outs.getD x.toNat []) (fun x=>ends.getD x.toNat []) [] [] order:=by
 have hnd:order.Nodup:=hp.1.nodup_iff.2 (upTo_nodup n)
 obtain⟨h1,_,_,h4⟩:=runM_runs order [] [] _ _ _ 0 hnd (List.length_replicate ..) hr
 refine⟨h1,Inv.start,hnd,fun z hz=>⟨by simp,mem_upTo.1 (hp.1.mem_iff.1 hz)⟩,fun z hz _=>hp.1.mem_iff.2 (mem_upTo.2 hz),h4,?_⟩
 rw[hp.1.length_eq,upTo_len]
 simp
def lowB (z:Int):Nat:=(BitVec.ofInt 64 z &&& BitVec.ofInt 64 65535).toNat
theorem lowB_le (z:Int):lowB z≤65535:=by
 unfold lowB
 rw[BitVec.toNat_and]
 exact Nat.le_trans Nat.and_le_right (Nat.le_refl _)
theorem lowB_bits (z:Int):Am.bits .and .i64 z 65535=some ((lowB z:Nat):Int):=by
 have h:Am.bits .and .i64 z 65535=some (IntKind.i64.wrap ((lowB z:Nat):Int)):=rfl
 rw[h,IntWalk.i64_in _ (by have:=lowB_le z; omega)]
set_option maxHeartbeats 800000 in
theorem any_law {os:List AO}{n:Int}{ev ordv outv pv:AV}{ne no nu np:Nat}{es:List (Int×Int)}{order picks:List Int}{outs:List (List Int)} (hos:os.length=104) (c:Came (news os AH.zero) ev ordv outv ne no nu es order outs) (lp:lenLA pv=some (.int .i64 (np:Nat))) (sp:SlI (news os AH.zero) pv picks) :
 C prg 4 [.agg [.int .i64 n,ev],.agg [ordv,outv],pv] (news os AH.zero) fun v _=>v=.bool true:=by
 obtain⟨ec,eo⟩:=len_cells c.le
 obtain⟨oc,oo⟩:=len_cells c.lo
 obtain⟨qc,qo⟩:=len_cells c.lu
 have hnx:(news os AH.zero).next=112:=by rw[news_next,hos]; rfl
 refine C.func pf4 ?_
 refine W.seq (W.run (by simp only[am,evOp,simprocAttr,initTm]<;>rfl) ?_)
 have hsp:=speaks_ok (os:=os++[.cells [.int .i64 n,ev] 2 false,.cells [ordv,outv] 2 false]) (by rw[List.length_append,hos]; rfl)
 rw[← news_two] at hsp
 have ga:∀ c,(((news os AH.zero).new (.cells [.int .i64 n,ev] 2 false)).new (.cells [ordv,outv] 2 false)).get c=if c=(news os AH.zero).next+1 then some (.cells [ordv,outv] 2 false) else if c=(news os AH.zero).next then some (.cells [.int .i64 n,ev] 2 false) else (news os AH.zero).get c:=fun c=>by
  rw[AH.get_new,AH.get_new]
  rfl
 have hk0:∀ b o,(news os AH.zero).get b=some o→(((news os AH.zero).new (.cells [.int .i64 n,ev] 2 false)).new (.cells [ordv,outv] 2 false)).get b=some o:=fun b o hb=>by
  have:=AH.lt_of_get hb
  rw[ga,if_neg (by omega),if_neg (by omega)]
  exact hb
 generalize ((news os AH.zero).new (.cells [.int .i64 n,ev] 2 false)).new (.cells [ordv,outv] 2 false)=h1 at *
 have gG:h1.get (news os AH.zero).next=some (.cells [.int .i64 n,ev] 2 false):=by rw[ga,if_neg (by omega),if_pos rfl]
 have gP:h1.get ((news os AH.zero).next+1)=some (.cells [ordv,outv] 2 false):=by rw[ga,if_pos rfl]
 generalize (news os AH.zero).next=nx at *
 subst hnx
 refine W.seq (W.seq (W.reg (G.callq (by simp only[am,evOp,simprocAttr]) (by simp only[am,evOp,simprocAttr]<;>rfl) (hsp) fun r h2 hq=>?_)))
 obtain⟨rfl,hn2,hk2⟩:=hq
 refine G.run (by simp only[am,evOp,simprocAttr]<;>rfl) ?_
 refine W.no (by simp only[am,evOp,simprocAttr]) (W.skip ?_)
 have hk02:∀ b o,(news os AH.zero).get b=some o→h2.get b=some o:=fun b o hb=>hk2 b o (hk0 b o hb)
 have c2:=c.stay (h':=h2) hk02
 have sp2:SlI h2 pv picks:=Sl.stay hk02 sp
 have rG:rdCells h2 112 0 2=some [.int .i64 n,ev]:=by rw[rdCells_of (hk2 _ _ gG)]; rfl
 have rP:rdCells h2 113 0 2=some [ordv,outv]:=by rw[rdCells_of (hk2 _ _ gP)]; rfl
 refine W.seq (W.seq (W.reg (G.gcall 2 (by simp only[am,evOp,simprocAttr,initTm,rG,rP]<;>rfl) rfl (by simp only[am,evOp,simprocAttr,initTm,rG,rP]) (by simp only[am,evOp,simprocAttr,initTm,rG,rP]<;>rfl) (great_ok c2.le c2.lo c2.lu c2.u) fun r h3 hq=>?_)))
 obtain⟨⟨b,rfl,hb⟩,x3⟩:=hq
 cases b with
 | true =>
   refine G.run (by simp only[am,evOp,simprocAttr,initTm]<;>rfl) ?_
   refine W.yes (by simp only[am,evOp,simprocAttr]) (W.seq (W.run (by simp only[am,evOp,simprocAttr]<;>rfl) ?_))
   exact W.ret ⟨.bool true,(by simp only[rs,rf4,am,evOp,simprocAttr]<;>rfl),rfl⟩
 | false =>
 by_cases hnp:100<np
 ·have k0:decide ((100:Int)<((np:Nat):Int))=true:=decide_eq_true (by omega)
  refine G.run (by simp only[am,evOp,simprocAttr,initTm,lp,k0]<;>rfl) ?_
  refine W.yes (by simp only[am,evOp,simprocAttr]) (W.seq (W.run (by simp only[am,evOp,simprocAttr]<;>rfl) ?_))
  exact W.ret ⟨.bool true,(by simp only[rs,rf4,am,evOp,simprocAttr]<;>rfl),rfl⟩
 have k0:decide ((100:Int)<((np:Nat):Int))=false:=decide_eq_false (by omega)
 refine G.run (by simp only[am,evOp,simprocAttr,initTm,lp,k0]<;>rfl) ?_
 obtain⟨b1,b2,b3,b4⟩:=hb rfl
 obtain⟨l1,l2,l3⟩:=c2.lens
 have l3:=l3 b3
 refine W.no (by simp only[am,evOp,simprocAttr]) (W.skip ?_)
 have e3:=c2.e.ext x3 (Nat.le_refl _)
 have o3:=c2.o.ext x3 (Nat.le_refl _)
 have u3:=(c2.u b3).ext x3
 have sp3:SlI h3 pv picks:=sp2.ext x3 (Nat.le_refl _)
 have gG3:h3.get 112=some (.cells [.int .i64 n,ev] 2 false):=by rw[x3.gt _ (by omega)]; exact hk2 _ _ gG
 have gP3:h3.get 113=some (.cells [ordv,outv] 2 false):=by rw[x3.gt _ (by omega)]; exact hk2 _ _ gP
 have rG3:rdCells h3 112 0 2=some [.int .i64 n,ev]:=by rw[rdCells_of gG3]; rfl
 have rP3:rdCells h3 113 0 2=some [ordv,outv]:=by rw[rdCells_of gP3]; rfl
 have n3:=x3.nx
 refine W.seq (W.reg (G.gcall 2 (by simp only[am,evOp,simprocAttr,initTm,rG3,rP3]<;>rfl) rfl (by simp only[am,evOp,simprocAttr,initTm,rG3,rP3]) (by simp only[am,evOp,simprocAttr,initTm,rG3,rP3]<;>rfl) (srun_ok (n:=n) e3 (by omega) o3 u3 (by omega) (by omega) b4) fun r h4 hq=>?_))
 obtain⟨x4,hr⟩:=hq
 obtain⟨A,B,rfl,sA,sB⟩:=run_out hr
 obtain⟨h5,w5,x5,g5,n5⟩:=mk_loc (h:=h4) (z:=[.int .i64 0,.int .i64 0,.nils]) (cs:=[.int .i64 (outM n es order outs).1,.int .i64 (outM n es order outs).2.1,.nils]) (e:=3) rfl
 refine G.run (by simp only[am,evOp,simprocAttr,tlF,w5]<;>rfl) ?_
 have n4:=x4.nx
 have x35:Ext h3.next h3 h5:=x4.trans (x5.mono n4)
 have n5':=x35.nx
 have t0:rdCells h5 h4.next 0 1=some [.int .i64 (outM n es order outs).1]:=rd_at g5 rfl
 by_cases hz:(outM n es order outs).1=0
 case neg =>
  have k1:decide ((outM n es order outs).1=0)=false:=decide_eq_false hz
  refine W.seq (W.seq (W.run (by simp only[am,evOp,simprocAttr,t0,k1]<;>rfl) ?_))
  refine W.yes (by simp only[am,evOp,simprocAttr]) (W.seq (W.run (by simp only[am,evOp,simprocAttr]<;>rfl) ?_))
  exact W.ret ⟨.bool true,(by simp only[rs,rf4,am,evOp,simprocAttr]<;>rfl),rfl⟩
 obtain⟨hgood,hplan,ends,lrow,hO,hrun⟩:=out_ok hz
 rw[hz] at t0
 refine W.seq (W.seq (W.run (by simp only[am,evOp,simprocAttr,t0,decide_true]<;>rfl) ?_))
 refine W.no (by simp only[am,evOp,simprocAttr]) (W.skip ?_)
 rw[hO] at sA
 simp only at sA
 obtain⟨nn,rfl⟩:∃ nn:Nat,n=nn:=⟨n.toNat,by
  have:=hgood.1
  simp only[mayB,Bool.and_eq_true,decide_eq_true_eq] at this; omega⟩
 rw[Int.toNat_natCast] at hplan hrun
 obtain⟨hel,hleft⟩:=left_start hplan hrun
 have hone:=one_src (n:=nn) (es:=es) hgood.2.2.2.2
 have hout:∀ x:Int,0≤x∧x<nn→OutsOk es x ((fun x:Int=>outs.getD x.toNat []) x):=fun x hx=>by
  have:=hplan.2.2 x.toNat (by omega)
  rwa [Int.toNat_of_nonneg hx.1] at this
 have hol:outs.length=nn:=hplan.2.1
 have hn100:nn≤100:=by omega
 have gG5:h5.get 112=some (.cells [.int .i64 (nn:Nat),ev] 2 false):=by rw[x35.gt _ (by omega)]; exact gG3
 have gP5:h5.get 113=some (.cells [ordv,outv] 2 false):=by rw[x35.gt _ (by omega)]; exact gP3
 have rG5:rdCells h5 112 0 2=some [.int .i64 (nn:Nat),ev]:=by rw[rdCells_of gG5]; rfl
 have e5:=e3.ext x35 (Nat.le_refl _)
 have u5:=u3.ext x35
 have sp5:SlI h5 pv picks:=sp3.ext x35 (Nat.le_refl _)
 have sA5:=sA.ext x5
 refine W.seq (W.reg (G.gcall 1 (by simp only[am,evOp,simprocAttr,initTm,rG5]<;>rfl) rfl (by simp only[am,evOp,simprocAttr,initTm,rG5]) (by simp only[am,evOp,simprocAttr,initTm,rG5]<;>rfl) (fnew_ok (n:=((nn:Nat):Int)) e5 (by omega)) fun r h6 hq=>?_))
 obtain⟨x6,hcase⟩:=hq
 rcases hcase with ⟨_,fb,hfb,rfl,hf⟩|⟨hno,_⟩
 case inr=>exact absurd hgood hno
 rw[Int.toNat_natCast] at hf
 refine G.run (by simp only[am,evOp,simprocAttr]<;>rfl) ?_
 have n6:=x6.nx
 have gG6:h6.get 112=some (.cells [.int .i64 (nn:Nat),ev] 2 false):=by rw[x6.gt _ (by omega)]; exact gG5
 have gP6:h6.get 113=some (.cells [ordv,outv] 2 false):=by rw[x6.gt _ (by omega)]; exact gP5
 have rn6:rdCells h6 112 0 1=some [.int .i64 (nn:Nat)]:=rd_at gG6 rfl
 have ru6:rdCells h6 113 1 1=some [outv]:=rd_at gP6 rfl
 have la:=sA5.len
 rw[hel] at la
 have lu:=u5.len
 rw[hol] at lu
 have hp1:binA .eql .ptr (.ptr fb 0) .nilp=some (.bool false):=rfl
 refine W.seq (W.seq (W.run (by simp only[am,evOp,simprocAttr,initTm,decide_true,hp1,la,rn6,ru6,lu]<;>rfl) ?_))
 refine W.no (by simp only[am,evOp,simprocAttr]) (W.skip ?_)
 have hlp:picks.length=np:=by
  have:=sp.len
  rw[lp,List.length_map] at this
  simp only[Option.some.injEq,AV.int.injEq,true_and] at this
  omega
 refine W.seq (W.seq (W.run (by simp only[am,evOp,simprocAttr,initTm]<;>rfl) ?_))
 refine W.whl (α:=List It×List Int×List Int×Nat) (N:=nn) (fun k _=>[(12,.int .i64 (k:Nat)),(2,pv),(3,.ptr 112 0),(4,.ptr 113 0),(10,.ptr fb 0),(7,A)])
  (fun k p h'=>IsFront h' fb p.2.2.2 nn es p.1 p.2.1∧Left nn es (fun x=>outs.getD x.toNat []) (fun x=>ends.getD x.toNat []) p.1 p.2.1 p.2.2.1∧p.2.1.length=k∧p.1.length≤201*k∧h5.next≤p.2.2.2∧Ext h5.next h5 h')
  ([],[],order,fb) (by simp only[hl,am,evOp,simprocAttr,initTm,Int.natCast_zero]) ⟨hf,hleft,rfl,by simp,hfb,x6⟩ ?_ ?_ ?_
 ·rintro k ⟨row,pl,q,pb⟩ ts h7 hk ⟨j1,j2,j3,j4,j5,jx⟩ ⟨e12,e2,e3',e4,e10,e7,-⟩
  simp only at e12 e2 e3' e4 e10 e7
  have rn7:rdCells h7 112 0 1=some [.int .i64 (nn:Nat)]:=rd_at (by rw[jx.gt _ (by omega)]; exact gG5) rfl
  have c2':decide (((k:Nat):Int)<((nn:Nat):Int))=decide (k<nn):=by simp only[decide_eq_decide]; omega
  exact⟨_,(by simp only[am,evOp,simprocAttr,e12,e3',rn7,c2']<;>rfl),by simp only[am,evOp,simprocAttr],by simp only[hl,am,evOp,simprocAttr,e12,e2,e3',e4,e10,e7]⟩
 ·rintro k ⟨row,pl,q,pb⟩ ts h7 hk ⟨j1,j2,j3,j4,j5,jx⟩ ⟨e12,e2,e3',e4,e10,e7,-⟩
  simp only at e12 e2 e3' e4 e10 e7 j1 j2 j3 j4 j5
  have n7:=jx.nx
  refine W.seq (W.reg (G.gcall 1 (by simp only[am,evOp,simprocAttr,e10]<;>rfl) rfl (by simp only[am,evOp,simprocAttr,e10]) (by simp only[am,evOp,simprocAttr,e10]<;>rfl) (fReady_ok j1 (by omega) (by omega)) fun r h8 hq=>?_))
  obtain⟨s8,x8⟩:=hq
  have n8:=x8.nx
  refine G.run (by simp only[am,evOp,simprocAttr]<;>rfl) ?_
  have X8:Ext h5.next h5 h8:=jx.trans (x8.mono n7)
  have f8:=j1.ext x8
  have S8:SlI h8 r (readyL nn es row pl nn):=IsSl.sl (by omega) (fun _=>rfl) s8
  have hpos:=j2.more (by omega)
  have hlen:(readyL nn es row pl nn).length≤nn:=by
   unfold readyL
   rw[List.length_map]
   exact Nat.le_trans (List.length_filter_le ..) (by simp)
  have lr:=S8.len
  rw[List.length_map] at lr
  refine W.seq (W.cut (fun ts' h'=>h'=h8∧∃ p:Nat,Held [(14,.int .i64 (p:Nat)),(13,r),(12,.int .i64 (k:Nat)),(2,pv),(3,.ptr 112 0),(4,.ptr 113 0),(10,.ptr fb 0),(7,A)] ts') ?_ ?_)
  ·refine W.seq (W.run (by simp only[am,evOp,simprocAttr,e12,e2,lp]<;>rfl) ?_)
   refine W.cond (t:=decide (k<np)) (by simp only[am,evOp,simprocAttr]; exact congrArg AV.bool (by simp only[decide_eq_decide]; omega)) (fun p=>?_) fun p=>?_
   ·have p:k<np:=of_decide_eq_true p
    obtain⟨b1',p1,a1,q1,_⟩:=(sp5.ext X8 (Nat.le_refl _)).at1 (i:=k) (map_at (f:=eI) (by omega))
    refine W.run (by simp only[am,evOp,simprocAttr,e12,e2,a1,q1,lowB_bits]<;>rfl) ?_
    exact⟨rfl,lowB picks[k],by simp only[hl,am,evOp,simprocAttr,e12,e2,e3',e4,e10,e7]⟩
   ·exact W.skip ⟨rfl,0,by simp only[hl,am,evOp,simprocAttr,e12,e2,e3',e4,e10,e7,Int.natCast_zero]⟩
  clear e12 e2 e3' e4 e10 e7
  rintro ts h9 ⟨rfl,p,e14,e13,e12,e2,e3',e4,e10,e7,-⟩
  simp only at e14 e13 e12 e2 e3' e4 e10 e7
  have k2:decide ((((readyL nn es row pl nn).length:Nat):Int)=0)=false:=decide_eq_false (by omega)
  refine W.seq (W.seq (W.run (by simp only[am,evOp,simprocAttr,e13,lr,k2]<;>rfl) ?_))
  refine W.no (by simp only[am,evOp,simprocAttr]) (W.skip ?_)
  have hm:(((p:Nat):Int)).tmod (((readyL nn es row pl nn).length:Nat):Int)=((p % (readyL nn es row pl nn).length:Nat):Int):=by
   rw[Int.tmod_eq_emod_of_nonneg (by omega)]; rfl
  have hmlt:p % (readyL nn es row pl nn).length<(readyL nn es row pl nn).length:=Nat.mod_lt _ hpos
  have hne:(((readyL nn es row pl nn).length:Nat):Int)≠0:=by omega
  obtain⟨b2',p2,a2,q2,_⟩:=S8.at1 (map_at (f:=eI) hmlt)
  have hxr:readyM nn es row pl ((readyL nn es row pl nn)[p % (readyL nn es row pl nn).length])=true:=mem_readyL.1 (List.getElem_mem hmlt)
  refine W.seq (W.run (by simp only[am,evOp,simprocAttr,e13,e14,lr,if_neg hne,hm,a2,q2]<;>rfl) ?_)
  generalize (readyL nn es row pl nn)[p % (readyL nn es row pl nn).length]=x at *
  obtain⟨hx,hxp,hrd⟩:=ready_rdy.1 hxr
  have k3:decide (x<0)=false:=decide_eq_false (by omega)
  have k4:decide (((nn:Nat):Int)≤x)=false:=decide_eq_false (by omega)
  have rn8:rdCells h9 112 0 1=some [.int .i64 (nn:Nat)]:=rd_at (by rw[X8.gt _ (by omega)]; exact gG5) rfl
  have ru8:rdCells h9 113 1 1=some [outv]:=rd_at (by rw[X8.gt _ (by omega)]; exact gP5) rfl
  refine W.seq (W.seq (W.run (by simp only[am,evOp,simprocAttr,e3',rn8,k3,k4]<;>rfl) ?_))
  refine W.no (by simp only[am,evOp,simprocAttr]) (W.skip ?_)
  obtain⟨m,rfl⟩:∃ m:Nat,x=m:=⟨x.toNat,by omega⟩
  have hmo:m<outs.length:=by omega
  obtain⟨b3',p3,w,a3,q3,sw,_⟩:=(u5.ext X8).at hmo
  have swb:∀ b o l c,w=.sl b o l c→b<h5.next:=by
   obtain⟨b3'',p3',w',a3',q3',sw',_⟩:=u5.at hmo
   rw[a3] at a3'
   cases a3'
   have:rdCells h9 b3' p3 1=some [w']:=by
    have hb:=(u5.at hmo)
    obtain⟨c1,c2,c3,d1,d2,d3,d4⟩:=hb
    rw[a3] at d1
    cases d1
    rw[rdCells_eq (X8.gt _ d4)]
    exact q3'
   rw[q3] at this
   cases this
   exact fun b o l c e=>sw'.lt e
  have hgd:outs.getD m []=outs[m]:=getD_at hmo
  have hl200:outs[m].length≤200:=b4 _ (List.getElem_mem hmo)
  refine W.seq (W.reg (G.gcall 7 (by simp only[am,evOp,simprocAttr,e10,e4,ru8,a3,q3]<;>rfl) rfl (by simp only[am,evOp,simprocAttr,e10,e4,ru8,a3,q3]) (by simp only[am,evOp,simprocAttr,e10,e4,ru8,a3,q3]<;>rfl) (fplace_ok (x:=((m:Nat):Int)) f8 sw (fun b o l c e=>by have:=swb b o l c e; omega) (by omega) (by omega) (by omega)) fun r2 h10 hq=>?_))
  rw[if_pos hxr] at hq
  have hok:=hout ((m:Nat):Int) hx
  simp only[Int.toNat_natCast,hgd] at hok
  rw[if_pos (outs_iff.2 hok)] at hq
  obtain⟨g,pb',rfl,sg,f10,hpb,K⟩:=hq
  refine G.run (by simp only[am,evOp,simprocAttr]<;>rfl) ?_
  obtain⟨hE,hL⟩:=j2.step hone hout hxr
  simp only[Int.toNat_natCast,hgd] at hE hL
  have X10:Ext h5.next h5 h10:=⟨Nat.le_trans X8.nx K.nx,fun c hc=>by rw[K.gt c (by omega) (by omega),X8.gt c hc],fun c hc=>by rw[K.ty c (by omega),X8.ty c hc]⟩
  have hme:m<ends.length:=by omega
  obtain⟨b4',p4,w4,a4,q4,sw4,_⟩:=(sA5.ext X10).at hme
  rw[getD_at hme] at hE
  have hge:goneM ((m:Nat):Int) row=ends[m]:=hE.symm
  have hgl:=gone_len ((m:Nat):Int) row
  rw[hge] at sg
  have SG:SlT h10 g ends[m]:=IsSl.sl (by omega) (fun _=>rfl) sg
  refine W.seq (W.reg (G.gcall 8 (by simp only[am,evOp,simprocAttr,decide_true,e7,a4,q4]<;>rfl) rfl (by simp only[am,evOp,simprocAttr,decide_true,e7,a4,q4]) (by simp only[am,evOp,simprocAttr,decide_true,e7,a4,q4]<;>rfl) (sameT_ok SG sw4 (by rw[← hge]; omega) (by rw[← hge]; omega)) fun r3 h11 hq=>?_))
  obtain⟨rfl,heq⟩:=hq
  subst heq
  rw[decide_eq_true (show ends[m]=ends[m] from rfl)]
  refine G.run (by simp only[am,evOp,simprocAttr]<;>rfl) ?_
  refine W.no (by simp only[am,evOp,simprocAttr]) (W.skip ?_)
  have w1:IntKind.i64.wrap (((k:Nat):Int)+1)=((k+1:Nat):Int):=wr64 (by omega) (by omega)
  refine⟨(nextM es ((m:Nat):Int) outs[m] row,pl++[((m:Nat):Int)],q.erase ((m:Nat):Int),pb'),⟨f10,hL,by simp [j3],?_,by simp only; omega,X10⟩,_,(by simp only[am,evOp,simprocAttr,e12,w1]<;>rfl),by simp only[hl,am,evOp,simprocAttr,e12,e2,e3',e4,e10,e7]⟩
  have:=next_len (es:=es) (x:=((m:Nat):Int)) (outs:=outs[m]) (row:=row)
  simp only
  omega
 ·rintro⟨row,pl,q,pb⟩ ts h7 ⟨j1,j2,j3,j4,j5,jx⟩ ⟨e12,e2,e3',e4,e10,e7,-⟩
  simp only at e10 j1 j3
  refine W.seq (W.reg (G.gcall 1 (by simp only[am,evOp,simprocAttr,e10]<;>rfl) rfl (by simp only[am,evOp,simprocAttr,e10]) (by simp only[am,evOp,simprocAttr,e10]<;>rfl) (fdone_ok j1) fun r h8 hq=>?_))
  obtain⟨rfl,heq⟩:=hq
  subst heq
  rw[decide_eq_true j3]
  refine G.run (by simp only[am,evOp,simprocAttr]<;>rfl) ?_
  exact W.ret ⟨.bool true,(by simp only[rs,rf4,am,evOp,simprocAttr]<;>rfl),rfl⟩
end Go.Proofs.YtihedjolidbfiaaGreatDoor
