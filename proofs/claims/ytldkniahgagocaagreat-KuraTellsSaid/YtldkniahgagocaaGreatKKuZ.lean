/-
  KuraTells' law in the clean machine.
-/
import Derived.Test.YtldkniahgagocaaGreatKKuR2
import Derived.Test.YtldkniahgagocaaGreatKLw
import Derived.Test.YtldkniahgagocaaGreatKSk
import Derived.KernelRfl
set_option linter.all false
namespace Go.Proofs.YtldkniahgagocaaGreat
open Go.Am
open Go.Kur
theorem G.gcallc {P:RP}{b:Nat}{l l2:List ROper}{s:Option (Tm×AH)}{K:Tm→AH→Prop}{ts:Tm}{h:AH}{d:Option Nat}{f:FuncId}{args:List RO}{g:Option (Nat×Bool)}{nm:Option Nat}{cs:List (Nat×ROp×Option (Nat×Bool))}{vs:List AV}{Q:AV→AH→Prop} (n:Nat)
 (hs:stps b (l.take n) s=some (ts,h)) (hd:l.drop n=⟨d,.call f args,g,nm,cs⟩::l2) (hw:wanted ts g=some true) (ha:args.map (RO.ev ts)=vs) (hc:C P f vs h Q)
 (hk:∀ v h',Q v h'→chks (dput ts d v) h' cs=true∧G P b l2 (some (dput ts d v,h')) K):G P b l s K:=by
 subst ha
 rw[← List.take_append_drop n l]
 refine G.ops ?_
 rw[hs,hd]
 exact G.callc hw (hc.mono hk)
theorem Sl.self {h:AH}{e:Nat}{v:AV}{xs:List (List AV)} (hs:Sl h e v xs):v.same v=true:=by
 rcases hs with ⟨rfl,rfl|rfl⟩|⟨b,o,c,cs,ro,rfl,h2,h3⟩
 ·rfl
 ·rfl
 ·simp [AV.same]
theorem skH0_eq:skH0=AH.zero.keep 3:=by kernel_rfl
theorem lay_cases {n:Int}{E:List (Int×Int)}{L:List Int} (hp:LayP n E L):LayR n E L∨∃ i∈(grK E L hp.nodup.1).E,(grK E L hp.nodup.1).tl i=(grK E L hp.nodup.1).hd i:=by
 by_cases h:∃ k,∃ hk:k<L.length,(E.getD L[k].toNat (0,0)).1=(E.getD L[k].toNat (0,0)).2
 ·obtain⟨k,hk,e⟩:=h
  refine .inr ⟨L[k].toNat,List.mem_map_of_mem (List.getElem_mem hk),?_⟩
  show tlK E _=hdK E _
  unfold tlK hdK
  rw[e]
 ·exact .inl fun k hk=>⟨⟨(hp k hk).1,fun e=>h ⟨k,hk,e⟩⟩,(hp k hk).2⟩
theorem kura_same {n:Int}{E:List (Int×Int)}{L:List Int}{r s:AV} (h1:(¬ LayP n E L∧r=.int .i64 0)∨∃ hp:LayP n E L,Told (grK E L hp.nodup.1) r) (h2:AnsR n E L s):∃ z,r=.int .i64 z∧s=.int .i64 z:=by
 rcases h1 with ⟨hn,rfl⟩|⟨hp,ht⟩
 ·rcases h2 with ⟨_,rfl⟩|⟨hR,_⟩
  ·exact⟨0,rfl,rfl⟩
  ·exact absurd hR.lay hn
 ·have hb:=below_of hp
  have i5:=found5_iff hb
  have i33:=found33_iff hb
  have none_:¬ NC (finW (grK E L hp.nodup.1) n.toNat)→r=.int .i64 0:=fun hn=>by
   rcases ht with ⟨q,_⟩|⟨_,q,_⟩|⟨_,_,q⟩
   ·exact absurd (i5.1 q).1 hn
   ·exact absurd (i33.1 q).1 hn
   ·exact q
  rcases h2 with ⟨hn,rfl⟩|⟨hR,h2⟩
  ·rcases lay_cases hp with hR|⟨i,hi,e⟩
   ·exact absurd hR hn
   ·exact⟨0,none_ fun hnc=>nc_loops hnc i hi e,rfl⟩
  ·have hnc:=ini_nc hR
   rcases finP_ok hnc n.toNat with ⟨q1,q2⟩|⟨q1,q2⟩
   ·rw[ini_l0] at q1
    rcases h2 with ⟨hnone,_⟩|⟨l,hl,hT⟩
    ·rw[q1] at hnone; cases hnone
    ·rw[q1] at hl
     cases hl
     have q1':finP ((iniW (grK E L hR.lay.nodup.1)).map prW) n.toNat=some ((finW (grK E L hR.lay.nodup.1) n.toNat).map prW):=by rw[ini_l0]; exact q1
     obtain⟨_,_,hS,hB⟩:=finP_facts hb hnc q1'
     rw[and_iff_right q2,← five_ok hS hB] at i5
     rw[and_iff_right q2,← six_ok hS hB] at i33
     rcases ht with ⟨t1,rfl⟩|⟨t1,t2,rfl⟩|⟨t1,t2,rfl⟩
     ·rcases hT with ⟨_,rfl⟩|⟨u1,_⟩|⟨u1,_⟩
      ·exact⟨5,rfl,rfl⟩
      ·exact absurd (i5.1 t1) u1
      ·exact absurd (i5.1 t1) u1
     ·rcases hT with ⟨u1,_⟩|⟨_,_,rfl⟩|⟨_,u2,_⟩
      ·exact absurd (i5.2 u1) t1
      ·exact⟨33,rfl,rfl⟩
      ·exact absurd (i33.1 t2) u2
     ·rcases hT with ⟨u1,_⟩|⟨_,u2,_⟩|⟨_,_,rfl⟩
      ·exact absurd (i5.2 u1) t1
      ·exact absurd (i33.2 u2) t2
      ·exact⟨0,rfl,rfl⟩
   ·rw[ini_l0] at q1
    rcases h2 with ⟨_,rfl⟩|⟨l,hl,_⟩
    ·exact⟨0,none_ q2,rfl⟩
    ·rw[q1] at hl; cases hl
theorem same_g {n:Int}{ev:AV} (h:ev.same ev=true):AV.same (.agg [.int .i64 n,ev]) (.agg [.int .i64 n,ev])=true:=by
 simp [AV.same,AV.sames,h]
set_option maxHeartbeats 2000000 in
theorem kura_law {os:List AO}{n:Int}{ev iv:AV}{E:List (Int×Int)}{L:List Int} (hos:os.length=2) (he:SlE (news os AH.zero) ev E) (hi:SlI (news os AH.zero) iv L) :
 C prg 3 [.agg [.int .i64 n,ev],iv] (news os AH.zero) fun v _=>v=.bool true:=by
 obtain⟨ec,eo⟩:=he.cells
 have hnx:(news os AH.zero).next=10:=by rw[news_next,hos]; rfl
 refine C.func pf3 ?_
 refine W.seq (W.run (by simp only[am,evOp,simprocAttr,initTm]<;>rfl) ?_)
 have hsp:=speaks_at (f:=4) sk_good skH0_eq (os:=os++[.cells [.int .i64 n,ev] 2 false]) (by rw[List.length_append,hos]; rfl) (by decide)
 rw[← news_one] at hsp
 have ga:∀ c,((news os AH.zero).new (.cells [.int .i64 n,ev] 2 false)).get c=if c=(news os AH.zero).next then some (.cells [.int .i64 n,ev] 2 false) else (news os AH.zero).get c:=fun c=>by
  rw[AH.get_new]
 have hk0:∀ b o,(news os AH.zero).get b=some o→((news os AH.zero).new (.cells [.int .i64 n,ev] 2 false)).get b=some o:=fun b o hb=>by
  have:=AH.lt_of_get hb
  rw[ga,if_neg (by omega)]
  exact hb
 generalize ((news os AH.zero).new (.cells [.int .i64 n,ev] 2 false))=h1 at *
 have gG:h1.get (news os AH.zero).next=some (.cells [.int .i64 n,ev] 2 false):=by rw[ga,if_pos rfl]
 generalize (news os AH.zero).next=nx at *
 subst hnx
 refine W.seq (W.seq (W.reg (G.callq (by simp only[am,evOp,simprocAttr]) (by simp only[am,evOp,simprocAttr]<;>rfl) (hsp) fun r h2 hq=>?_)))
 obtain⟨rfl,hn2,hk2⟩:=hq
 refine G.run (by simp only[am,evOp,simprocAttr]<;>rfl) ?_
 refine W.no (by simp only[am,evOp,simprocAttr]) (W.skip ?_)
 have he2:SlE h2 ev E:=Sl.stay (fun b o hb=>hk2 b o (hk0 b o hb)) he
 have hi2:SlI h2 iv L:=Sl.stay (fun b o hb=>hk2 b o (hk0 b o hb)) hi
 have el:=he2.len
 have il_:=hi2.len
 rw[List.length_map] at el il_
 have gG2:=hk2 _ _ gG
 have g10:=AH.lt_of_get gG2
 have rG:rdCells h2 10 0 2=some [.int .i64 n,ev]:=by rw[rdCells_of gG2]; rfl
 have r0:rdCells h2 10 0 1=some [.int .i64 n]:=rd_at gG2 rfl
 have r1:rdCells h2 10 1 1=some [ev]:=rd_at gG2 rfl
 refine W.seq (W.seq ?_)
 by_cases q1:64<n
 ·have c1:decide ((64:Int)<n)=true:=decide_eq_true q1
  refine W.run (by simp only[am,evOp,simprocAttr,initTm,r0,c1]<;>rfl) ?_
  refine W.yes (by simp only[am,evOp,simprocAttr]) (W.seq (W.run (by simp only[am,evOp,simprocAttr]<;>rfl) ?_))
  exact W.ret ⟨_,(by simp only[rs,rf3,am,evOp,simprocAttr]<;>rfl),rfl⟩
 have c1:decide ((64:Int)<n)=false:=decide_eq_false q1
 by_cases q2:128<E.length
 ·have c2:decide ((128:Int)<((E.length:Nat):Int))=true:=decide_eq_true (by omega)
  refine W.run (by simp only[am,evOp,simprocAttr,initTm,r0,c1,r1,el,c2]<;>rfl) ?_
  refine W.yes (by simp only[am,evOp,simprocAttr]) (W.seq (W.run (by simp only[am,evOp,simprocAttr]<;>rfl) ?_))
  exact W.ret ⟨_,(by simp only[rs,rf3,am,evOp,simprocAttr]<;>rfl),rfl⟩
 have c2:decide ((128:Int)<((E.length:Nat):Int))=false:=decide_eq_false (by omega)
 by_cases q3:128<L.length
 ·have c3:decide ((128:Int)<((L.length:Nat):Int))=true:=decide_eq_true (by omega)
  refine W.run (by simp only[am,evOp,simprocAttr,initTm,r0,c1,r1,el,c2,il_,c3]<;>rfl) ?_
  refine W.yes (by simp only[am,evOp,simprocAttr]) (W.seq (W.run (by simp only[am,evOp,simprocAttr]<;>rfl) ?_))
  exact W.ret ⟨_,(by simp only[rs,rf3,am,evOp,simprocAttr]<;>rfl),rfl⟩
 have c3:decide ((128:Int)<((L.length:Nat):Int))=false:=decide_eq_false (by omega)
 refine W.run (by simp only[am,evOp,simprocAttr,initTm,r0,c1,r1,el,c2,il_,c3]<;>rfl) ?_
 refine W.no (by simp only[am,evOp,simprocAttr]) (W.skip ?_)
 refine W.seq (W.reg (G.gcallc 4 (by simp only[am,evOp,simprocAttr,initTm,rG]<;>rfl) rfl (by simp only[am,evOp,simprocAttr,initTm,rG]) (by simp only[am,evOp,simprocAttr,initTm,rG]<;>rfl) (kwhat_ok (n:=n) he2 hi2 (by omega) (by omega) (by omega)) fun r h3 hq=>?_))
 obtain⟨x3,hr⟩:=hq
 have gG3:h3.get 10=some (.cells [.int .i64 n,ev] 2 false):=by rw[x3.gt _ (by omega)]; exact gG2
 have rG3:rdCells h3 10 0 2=some [.int .i64 n,ev]:=by rw[rdCells_of gG3]; rfl
 have hself:=same_g (n:=n) (Sl.self he)
 refine⟨by simp only[am,evOp,simprocAttr,initTm,rG3,hself],?_⟩
 refine G.callq (by simp only[am,evOp,simprocAttr]) (by simp only[am,evOp,simprocAttr]<;>rfl) (rkwhat_ok (n:=n) (he2.ext x3 (Nat.le_refl _)) (hi2.ext x3 (Nat.le_refl _)) (by omega) (by omega) (by omega)) fun s h4 hq=>?_
 obtain⟨x4,hs⟩:=hq
 obtain⟨z,rfl,rfl⟩:=kura_same hr hs
 refine G.run (by simp only[am,evOp,simprocAttr,decide_true]<;>rfl) ?_
 exact W.ret ⟨_,(by simp only[rs,rf3,am,evOp,simprocAttr]<;>rfl),rfl⟩
end Go.Proofs.YtldkniahgagocaaGreat
