/-
  SweepMirrors' law in the clean machine.
-/
import Derived.Test.YtihedjolidbfiaaGreatDoorYLRuns
import Derived.Test.YtihedjolidbfiaaGreatDoorYMirr
set_option linter.all false
namespace Go.Proofs.YtihedjolidbfiaaGreatDoor
open Go.Am
theorem mirP {n:Nat}{es:List (Int×Int)}{order:List Int}{outs:List (List Int)}:PlanP n es order (outs.map List.reverse)↔PlanP n es order outs:=by
 have e1:∀ (o:List (List Int)) (x:Nat),(o.map List.reverse).getD x []=(o.getD x []).reverse:=fun o x=>by
  rw[List.getD_eq_getElem?_getD,List.getD_eq_getElem?_getD,List.getElem?_map]
  cases o[x]?<;>rfl
 unfold PlanP
 simp only[List.length_map,e1]
 constructor
 ·rintro⟨a,b,c⟩
  exact⟨a,b,fun x hx=>by have:=(c x hx).rev; rwa [List.reverse_reverse] at this⟩
 ·rintro⟨a,b,c⟩
  exact⟨a,b,fun x hx=>(c x hx).rev⟩
theorem out_mirror {n:Int}{es:List (Int×Int)}{order:List Int}{outs:List (List Int)}:outM n es order (outs.map List.reverse)=((outM n es order outs).1,(outM n es order outs).2.1,(outM n es order outs).2.2.1.map List.reverse,(outM n es order outs).2.2.2.reverse):=by
 unfold outM
 by_cases hp:GoodP n es∧PlanP n.toNat es order outs
 ·rw[if_pos hp,if_pos ⟨hp.1,mirP.2 hp.2⟩]
  have hone:=one_src (n:=n.toNat) (es:=es) hp.1.2.2.2.2
  have hm:=run_mirror (n:=n.toNat) (es:=es) (outs:=outs) hone (fun x hx=>by
   have:=hp.2.2.2 x.toNat (by omega)
   rwa [Int.toNat_of_nonneg hx.1] at this) order [] [] (List.replicate n.toNat []) 0 Inv.start
  rw[List.reverse_nil,List.map_replicate,List.reverse_nil] at hm
  unfold resM
  rw[hm]
  cases runM n.toNat es outs order [] [] (List.replicate n.toNat []) 0 with
  | inl p=>rfl
  | inr i=>rfl
 ·rw[if_neg hp,if_neg (fun h=>hp ⟨h.1,mirP.1 h.2⟩)]
  rfl
theorem same_of {v:AV}{h:AH}{e:Nat}{xs:List (List AV)} (hs:Sl h e v xs):AV.same v v=true:=by
 rcases hs with ⟨_,h|h⟩|⟨b,o,c,cs,ro,h,_⟩
 ·subst h; exact same_nils
 ·subst h; rfl
 ·subst h; exact same_sl
set_option maxHeartbeats 800000 in
theorem mirrors_law {os:List AO}{n:Int}{ev ordv outv:AV}{ne no nu:Nat}{es:List (Int×Int)}{order:List Int}{outs:List (List Int)} (hos:os.length=104) (c:Came (news os AH.zero) ev ordv outv ne no nu es order outs) :
 C prg 5 [.agg [.int .i64 n,ev],.agg [ordv,outv]] (news os AH.zero) fun v _=>v=.bool true:=by
 obtain⟨ec,eo⟩:=len_cells c.le
 obtain⟨oc,oo⟩:=len_cells c.lo
 obtain⟨qc,qo⟩:=len_cells c.lu
 have hnx:(news os AH.zero).next=112:=by rw[news_next,hos]; rfl
 refine C.func pf5 ?_
 refine W.seq (W.run (by simp only[am,evOp,simprocAttr,initTm]<;>rfl) ?_)
 have hsp:=speaks_ok (os:=os++[.cells [.int .i64 n,ev] 2 false,.cells [ordv,outv] 2 false]) (by rw[List.length_append,hos]; rfl)
 rw[← news_two] at hsp
 have ga:∀ c,(((news os AH.zero).new (.cells [.int .i64 n,ev] 2 false)).new (.cells [ordv,outv] 2 false)).get c=if c=(news os AH.zero).next+1 then some (.cells [ordv,outv] 2 false) else if c=(news os AH.zero).next then some (.cells [.int .i64 n,ev] 2 false) else (news os AH.zero).get c:=fun c=>by
  rw[AH.get_new,AH.get_new]
  rfl
 have hk0:∀ b o,(news os AH.zero).get b=some o→(((news os AH.zero).new (.cells [.int .i64 n,ev] 2 false)).new (.cells [ordv,outv] 2 false)).get b=some o:=fun b o hb=>by
  have:=AH.lt_of_get hb
  rw[ga,if_neg (by omega),if_neg (by omega)]
  exact hb
 generalize ((news os AH.zero).new (.cells [.int .i64 n,ev] 2 false)).new (.cells [ordv,outv] 2 false)=h1 at *
 have gG:h1.get (news os AH.zero).next=some (.cells [.int .i64 n,ev] 2 false):=by rw[ga,if_neg (by omega),if_pos rfl]
 have gP:h1.get ((news os AH.zero).next+1)=some (.cells [ordv,outv] 2 false):=by rw[ga,if_pos rfl]
 generalize (news os AH.zero).next=nx at *
 subst hnx
 refine W.seq (W.seq (W.reg (G.callq (by simp only[am,evOp,simprocAttr]) (by simp only[am,evOp,simprocAttr]<;>rfl) (hsp) fun r h2 hq=>?_)))
 obtain⟨rfl,hn2,hk2⟩:=hq
 refine G.run (by simp only[am,evOp,simprocAttr]<;>rfl) ?_
 refine W.no (by simp only[am,evOp,simprocAttr]) (W.skip ?_)
 have c2:=c.stay (h':=h2) fun b o hb=>hk2 b o (hk0 b o hb)
 have rG:rdCells h2 112 0 2=some [.int .i64 n,ev]:=by rw[rdCells_of (hk2 _ _ gG)]; rfl
 have rP:rdCells h2 113 0 2=some [ordv,outv]:=by rw[rdCells_of (hk2 _ _ gP)]; rfl
 refine W.seq (W.seq (W.reg (G.gcall 2 (by simp only[am,evOp,simprocAttr,initTm,rG,rP]<;>rfl) rfl (by simp only[am,evOp,simprocAttr,initTm,rG,rP]) (by simp only[am,evOp,simprocAttr,initTm,rG,rP]<;>rfl) (great_ok c2.le c2.lo c2.lu c2.u) fun r h3 hq=>?_)))
 obtain⟨⟨b,rfl,hb⟩,x3⟩:=hq
 refine G.run (by simp only[am,evOp,simprocAttr]<;>rfl) ?_
 cases b with
 | true =>
   refine W.yes (by simp only[am,evOp,simprocAttr]) (W.seq (W.run (by simp only[am,evOp,simprocAttr]<;>rfl) ?_))
   exact W.ret ⟨.bool true,(by simp only[rs,rf5,am,evOp,simprocAttr]<;>rfl),rfl⟩
 | false =>
 obtain⟨b1,b2,b3,b4⟩:=hb rfl
 obtain⟨l1,l2,l3⟩:=c2.lens
 have l3:=l3 b3
 refine W.no (by simp only[am,evOp,simprocAttr]) (W.skip ?_)
 have e3:=c2.e.ext x3 (Nat.le_refl _)
 have o3:=c2.o.ext x3 (Nat.le_refl _)
 have u3:=(c2.u b3).ext x3
 have gG3:h3.get 112=some (.cells [.int .i64 n,ev] 2 false):=by rw[x3.gt _ (by omega)]; exact hk2 _ _ gG
 have gP3:h3.get 113=some (.cells [ordv,outv] 2 false):=by rw[x3.gt _ (by omega)]; exact hk2 _ _ gP
 have rP3:rdCells h3 113 0 2=some [ordv,outv]:=by rw[rdCells_of gP3]; rfl
 have n3:=x3.nx
 refine W.seq (W.reg (G.gcall 1 (by simp only[am,evOp,simprocAttr,initTm,rP3]<;>rfl) rfl (by simp only[am,evOp,simprocAttr,initTm,rP3]) (by simp only[am,evOp,simprocAttr,initTm,rP3]<;>rfl) (mirror_ok o3 u3 (by omega) (by omega) (fun l hl=>by have:=b4 l hl; omega)) fun r h4 hq=>?_))
 obtain⟨x4,a,b,rfl,sa,sb⟩:=hq
 obtain⟨ac,ao⟩:=sa.cells
 obtain⟨bc,bo⟩:=sb.cells
 have n4:=x4.nx
 obtain⟨h5,w5,x5,g5,n5⟩:=mk_loc (h:=h4) (z:=[.nils,.nils]) (cs:=[a,b]) (e:=2) rfl
 refine G.run (by simp only[am,evOp,simprocAttr,ac,ao,bc,bo,w5]<;>rfl) ?_
 have x35:Ext h3.next h3 h5:=x4.trans (x5.mono n4)
 have sa5:=sa.ext x5 (Nat.le_refl _)
 have sb5:=sb.ext x5
 have e5:=e3.ext x35 (Nat.le_refl _)
 have o5:=o3.ext x35 (Nat.le_refl _)
 have u5:=u3.ext x35
 have gG5:h5.get 112=some (.cells [.int .i64 n,ev] 2 false):=by rw[x35.gt _ (by omega)]; exact gG3
 have gP5:h5.get 113=some (.cells [ordv,outv] 2 false):=by rw[x35.gt _ (by omega)]; exact gP3
 have n5':=x35.nx
 have r5a:rdCells h5 h4.next 0 1=some [a]:=rd_at g5 rfl
 have r5b:rdCells h5 h4.next 1 1=some [b]:=rd_at g5 rfl
 have rPa:rdCells h5 113 0 1=some [ordv]:=rd_at gP5 rfl
 have rPb:rdCells h5 113 1 1=some [outv]:=rd_at gP5 rfl
 have lb:=sb5.len
 rw[List.length_map] at lb
 have lu:=u5.len
 refine W.seq (W.seq (W.reg (G.gcall 12 (by simp only[am,evOp,simprocAttr,initTm,r5b,lb,rPb,lu,decide_true,r5a,rPa]<;>rfl) rfl (by simp only[am,evOp,simprocAttr,initTm,r5b,lb,rPb,lu,decide_true,r5a,rPa]) (by simp only[am,evOp,simprocAttr,initTm,r5b,lb,rPb,lu,decide_true,r5a,rPa]<;>rfl) (sameI_ok sa5 o5 (by omega) (by omega)) fun r h6 hq=>?_)))
 obtain⟨rfl,heq⟩:=hq
 subst heq
 rw[decide_eq_true (show order=order from rfl)]
 refine G.run (by simp only[am,evOp,simprocAttr]<;>rfl) ?_
 refine W.no (by simp only[am,evOp,simprocAttr]) (W.skip ?_)
 refine W.seq (W.seq (W.run (by simp only[am,evOp,simprocAttr,initTm,rPb,lu]<;>rfl) ?_))
 refine W.rng (α:=Unit) (N:=outs.length) (fun _ _=>[(39,outv),(5,.ptr h4.next 0),(3,.ptr 113 0),(2,.ptr 112 0)]) (fun _ _ h'=>h'=h6) () (fun _ _=>rfl) (by omega) (by simp only[hl,am,evOp,simprocAttr,initTm,Int.natCast_zero]) rfl ?_ ?_
 ·rintro k _ ts h7 hk rfl ⟨ei,en,e39,e5',e3',e2',-⟩
  simp only at ei en e39 e5' e3' e2'
  obtain⟨b1',p1,w,a1,q1,sw,_⟩:=u5.at hk
  obtain⟨b2',p2,w2,a2,q2,sw2,_⟩:=sb5.at (k:=k) (by rw[List.length_map]; exact hk)
  rw[List.getElem_map] at sw2
  have lw:=sw.len
  have lw2:=sw2.len
  rw[List.length_map] at lw lw2
  rw[List.length_reverse] at lw2
  have hm:outs[k].length≤200:=b4 _ (List.getElem_mem hk)
  refine W.seq (W.run (by simp only[am,evOp,simprocAttr,ei,e39,a1,q1]<;>rfl) ?_)
  refine W.seq (W.seq (W.run (by simp only[am,evOp,simprocAttr,ei,e5',r5b,a2,q2,lw2,lw,decide_true]<;>rfl) ?_))
  refine W.no (by simp only[am,evOp,simprocAttr]) (W.skip ?_)
  refine W.seq (W.run (by simp only[am,evOp,simprocAttr,lw]<;>rfl) ?_)
  refine W.rng (α:=Unit) (N:=outs[k].length) (fun _ _=>[(7,w),(6,.int .i64 (k:Nat)),(41,.int .i64 (k:Nat)),(40,.int .i64 (outs.length:Nat)),(39,outv),(5,.ptr h4.next 0),(3,.ptr 113 0),(2,.ptr 112 0)]) (fun _ _ h'=>h'=h7) () (fun _ _=>rfl) (by omega) (by simp only[hl,am,evOp,simprocAttr,ei,en,e39,e5',e3',e2',Int.natCast_zero]) rfl ?_ ?_
  ·rintro m _ ts h8 hm2 rfl ⟨fi,fn,f7,f6,f41,f40,f39,f5,f3,f2,-⟩
   simp only at fi fn f7 f6 f41 f40 f39 f5 f3 f2
   have hL:outs[k].length-1-m<outs[k].length:=by omega
   obtain⟨b3',p3,a3,q3,_⟩:=sw2.at (map_at (f:=eI) (i:=m) (by rw[List.length_reverse]; exact hm2))
   obtain⟨b4',p4,a4,q4,_⟩:=sw.at (map_at (f:=eI) hL)
   rw[List.getElem_reverse] at q3
   rw[show eI outs[k][outs[k].length-1-m]=[.int .i64 outs[k][outs[k].length-1-m]] from rfl] at q3 q4
   have w1:IntKind.i64.wrap (((outs[k].length:Nat):Int)-1)=((outs[k].length:Nat):Int)-1:=wr64 (by omega) (by omega)
   have w2':IntKind.i64.wrap (((outs[k].length:Nat):Int)-1-((m:Nat):Int))=((outs[k].length-1-m:Nat):Int):=by rw[wr64 (by omega) (by omega)]; omega
   refine W.seq (W.run (by simp only[am,evOp,simprocAttr,fi]<;>rfl) ?_)
   refine W.seq (W.run (by simp only[am,evOp,simprocAttr,fi,f5,f6,f7,r5b,a2,q2,a3,q3,lw,w1,w2',a4,q4,decide_true]<;>rfl) ?_)
   refine W.no (by simp only[am,evOp,simprocAttr]) (W.skip ⟨(),rfl,by simp only[hl,am,evOp,simprocAttr,fi,fn,f7,f6,f41,f40,f39,f5,f3,f2]⟩)
  ·rintro _ ts h8 rfl ⟨f7,f6,f41,f40,f39,f5,f3,f2,-⟩
   exact⟨(),rfl,f41,f40,f39,f5,f3,f2,trivial⟩
 ·rintro _ ts h7 rfl ⟨e39,e5',e3',e2',-⟩
  simp only at e5' e3' e2'
  have rG5:rdCells h7 112 0 2=some [.int .i64 n,ev]:=by rw[rdCells_of gG5]; rfl
  have rP5:rdCells h7 113 0 2=some [ordv,outv]:=by rw[rdCells_of gP5]; rfl
  refine W.seq (W.reg (G.gcall 2 (by simp only[am,evOp,simprocAttr,e2',e3',rG5,rP5]<;>rfl) rfl (by simp only[am,evOp,simprocAttr,e2',e3',rG5,rP5]) (by simp only[am,evOp,simprocAttr,e2',e3',rG5,rP5]<;>rfl) (srun_ok (n:=n) e5 (by omega) o5 u5 (by omega) (by omega) b4) fun r h8 hq=>?_))
  obtain⟨x8,hr⟩:=hq
  obtain⟨A,B,rfl,sA,sB⟩:=run_out hr
  obtain⟨q1,q2,q3⟩:=out_len (n:=n) (es:=es) (order:=order) (outs:=outs) (by omega) b4
  have hmir:=out_mirror (n:=n) (es:=es) (order:=order) (outs:=outs)
  generalize hO:outM n es order outs=O at *
  obtain⟨h9,w9,x9,g9,n9⟩:=mk_loc (h:=h8) (z:=[.int .i64 0,.int .i64 0,.nils]) (cs:=[.int .i64 O.1,.int .i64 O.2.1,.nils]) (e:=3) rfl
  refine G.run (by simp only[am,evOp,simprocAttr,tlF,w9]<;>rfl) ?_
  have n8:=x8.nx
  have x79:Ext h7.next h7 h9:=x8.trans (x9.mono n8)
  have n9':=x79.nx
  have rG9:rdCells h9 112 0 2=some [.int .i64 n,ev]:=by rw[rdCells_eq (x79.gt _ (by omega))]; exact rG5
  have rM9:rdCells h9 h4.next 0 2=some [a,b]:=by rw[rdCells_eq (x79.gt _ (by omega)),rdCells_of g5]; rfl
  have b4r:∀ l∈outs.map List.reverse,l.length≤200:=fun l hl=>by
   obtain⟨y,hy,rfl⟩:=List.mem_map.1 hl
   rw[List.length_reverse]
   exact b4 y hy
  have lmr:(outs.map List.reverse).length≤200:=by rw[List.length_map]; omega
  refine W.seq (W.reg (G.gcall 2 (by simp only[am,evOp,simprocAttr,e2',e5',rG9,rM9]<;>rfl) rfl (by simp only[am,evOp,simprocAttr,e2',e5',rG9,rM9]) (by simp only[am,evOp,simprocAttr,e2',e5',rG9,rM9]<;>rfl) (srun_ok (n:=n) (e5.ext x79 (Nat.le_refl _)) (by omega) (sa5.ext x79 (Nat.le_refl _)) (sb5.ext x79) (by omega) lmr b4r) fun r h10 hq=>?_))
  obtain⟨x10,hr2⟩:=hq
  obtain⟨A2,B2,rfl,sA2,sB2⟩:=run_out hr2
  rw[hmir] at sA2 sB2
  simp only[hmir]
  simp only at sA2 sB2
  obtain⟨h11,w11,x11,g11,n11⟩:=mk_loc (h:=h10) (z:=[.int .i64 0,.int .i64 0,.nils]) (cs:=[.int .i64 O.1,.int .i64 O.2.1,.nils]) (e:=3) rfl
  refine G.run (by simp only[am,evOp,simprocAttr,tlF,w11]<;>rfl) ?_
  have n10:=x10.nx
  have x911:Ext h9.next h9 h11:=x10.trans (x11.mono n10)
  have sA11:=(sA.ext x9).ext x911
  have sB11:=(sB.ext x9 (Nat.le_refl _)).ext x911 (Nat.le_refl _)
  have sA211:=sA2.ext x11
  have sB211:=sB2.ext x11 (Nat.le_refl _)
  have g9':h11.get h8.next=some (.cells [.int .i64 O.1,.int .i64 O.2.1,.nils] 3 false):=by rw[x911.gt _ (by omega)]; exact g9
  have t0:rdCells h11 h8.next 0 1=some [.int .i64 O.1]:=rd_at g9' rfl
  have t1:rdCells h11 h8.next 1 1=some [.int .i64 O.2.1]:=rd_at g9' rfl
  have v0:rdCells h11 h10.next 0 1=some [.int .i64 O.1]:=rd_at g11 rfl
  have v1:rdCells h11 h10.next 1 1=some [.int .i64 O.2.1]:=rd_at g11 rfl
  have la:=sA11.len
  have la2:=sA211.len
  rw[List.length_map] at la2
  refine W.seq (W.seq (W.reg (G.gcall 22 (by simp only[am,evOp,simprocAttr,t0,t1,v0,v1,decide_true,la,la2]<;>rfl) rfl (by simp only[am,evOp,simprocAttr,t0,t1,v0,v1,decide_true,la,la2]) (by simp only[am,evOp,simprocAttr,t0,t1,v0,v1,decide_true,la,la2]<;>rfl) (turned_ok sB211 (by rw[List.length_reverse]; exact q3)) fun r h12 hq=>?_)))
  obtain⟨s12,x12⟩:=hq
  rw[List.reverse_reverse] at s12
  refine G.callq (by simp only[am,evOp,simprocAttr]) (by simp only[am,evOp,simprocAttr]<;>rfl) (sameT_ok (sB11.ext x12 (Nat.le_refl _)) (IsSl.sl (by omega) (fun _=>rfl) s12) (by omega) (by omega)) fun r h13 hq=>?_
  obtain⟨rfl,heq⟩:=hq
  subst heq
  rw[decide_eq_true (show O.2.2.2=O.2.2.2 from rfl)]
  refine G.run (by simp only[am,evOp,simprocAttr]<;>rfl) ?_
  refine W.no (by simp only[am,evOp,simprocAttr]) (W.skip ?_)
  have sA13:=sA11.ext x12
  have sA213:=sA211.ext x12
  refine W.seq (W.seq (W.run (by simp only[am,evOp,simprocAttr,la]<;>rfl) ?_))
  refine W.rng (α:=Unit) (N:=O.2.2.1.length) (fun _ _=>[(9,A),(12,A2)]) (fun _ _ h'=>Ext h13.next h13 h') () (fun _ _=>rfl) (by omega) (by simp only[hl,am,evOp,simprocAttr,Int.natCast_zero]) Ext.refl ?_ ?_
  ·rintro k _ ts h14 hk jx ⟨ei,en,e9,e12,-⟩
   simp only at ei en e9 e12
   obtain⟨b1',p1,w,a1,q1',sw,hb1⟩:=(sA13.ext jx).at hk
   obtain⟨b2',p2,w2,a2,q2',sw2,_⟩:=(sA213.ext jx).at (k:=k) (by rw[List.length_map]; exact hk)
   rw[List.getElem_map] at sw2
   have hlk:O.2.2.1[k].length<2 ^ 30:=q2 _ (List.getElem_mem hk)
   refine W.seq (W.run (by simp only[am,evOp,simprocAttr,ei]<;>rfl) ?_)
   refine W.seq (W.reg (G.gcallc 8 (by simp only[am,evOp,simprocAttr,ei,e9,e12,a1,q1',a2,q2']<;>rfl) rfl (by simp only[am,evOp,simprocAttr,ei,e9,e12,a1,q1',a2,q2']) (by simp only[am,evOp,simprocAttr,ei,e9,e12,a1,q1',a2,q2']<;>rfl) (turned_ok sw2 (by rw[List.length_reverse]; exact hlk)) fun r h15 hq=>?_))
   obtain⟨s15,x15⟩:=hq
   rw[List.reverse_reverse] at s15
   have qq:rdCells h15 b1' p1 1=some [w]:=by rw[rdCells_eq (x15.gt _ hb1)]; exact q1'
   have sme:=same_of sw
   refine⟨by simp only[am,evOp,simprocAttr,chk1,qq,sme],?_⟩
   refine G.callq (by simp only[am,evOp,simprocAttr]) (by simp only[am,evOp,simprocAttr]<;>rfl) (sameT_ok (sw.ext x15 (Nat.le_refl _)) (IsSl.sl (by omega) (fun _=>rfl) s15) (by omega) (by omega)) fun r h16 hq=>?_
   obtain⟨rfl,heq⟩:=hq
   subst heq
   rw[decide_eq_true (show O.2.2.1[k]=O.2.2.1[k] from rfl)]
   refine G.run (by simp only[am,evOp,simprocAttr]<;>rfl) ?_
   exact W.no (by simp only[am,evOp,simprocAttr]) (W.skip ⟨(),jx.trans (x15.mono jx.nx),by simp only[hl,am,evOp,simprocAttr,ei,en,e9,e12]⟩)
  ·rintro _ ts h14 jx ⟨e9,e12,-⟩
   refine W.seq (W.run (by simp only[am,evOp,simprocAttr]<;>rfl) ?_)
   exact W.ret ⟨.bool true,(by simp only[rs,rf5,am,evOp,simprocAttr]<;>rfl),rfl⟩
end Go.Proofs.YtihedjolidbfiaaGreatDoor
