/-
  arborlaw26.small. JudgeOuter's law in the clean machine.
-/
import Derived.Test.YticaalcbgikjjaaGreatDoorKOe
import Derived.Test.YticaalcbgikjjaaGreatDoorKLs
import Derived.Test.YticaalcbgikjjaaGreatDoorKSl
import Derived.KernelRfl
set_option linter.all false
namespace Go.Proofs.YticaalcbgikjjaaGreatDoor
open Go.Am
set_option maxHeartbeats 2000000 in
theorem small26_ok {h:AH}{n:Int}{ev tv:AV}{o:Int}{lu:Nat}{E:List (Int×Int)}{T:List (List Int)} (he:SlE h ev E) (hT:Turn h tv lu T) :
 C prg 5 [.agg [.int .i64 n,ev],.agg (cert26 tv o)] h fun r h'=>(∃ t,r=.bool t∧(t=true→E.length≤200∧lu≤200∧∀ l∈T,l.length≤2000))∧Ext h.next h h':=by
 obtain⟨ec,eo⟩:=he.cells
 obtain⟨tc,to⟩:=hT.cells
 have el:=he.len
 rw[List.length_map] at el
 refine C.func pf5 ?_
 have hg25:=fun {h':AH} (t:Turn h' tv lu T)=>great25_ok (o:=o) t
 unfold cert26 at hg25 ⊢
 refine W.seq (W.run (by simp only[am,evOp,simprocAttr,initTm]<;>rfl) ?_)
 have x0:Ext h.next h ((h.new (.cells [.int .i64 n,ev] 2 false)).new (.cells [.int .i64 2,.nils,.nils,tv,.int .i64 o,.nils,.nils,.nils,.nils,.nils,.nils,.nils] 12 false)):=(Ext.new (Nat.le_refl _)).trans (Ext.new (by simp))
 have ga:∀ c,((h.new (.cells [.int .i64 n,ev] 2 false)).new (.cells [.int .i64 2,.nils,.nils,tv,.int .i64 o,.nils,.nils,.nils,.nils,.nils,.nils,.nils] 12 false)).get c=if c=h.next+1 then some (.cells [.int .i64 2,.nils,.nils,tv,.int .i64 o,.nils,.nils,.nils,.nils,.nils,.nils,.nils] 12 false) else if c=h.next then some (.cells [.int .i64 n,ev] 2 false) else h.get c:=fun c=>by
  rw[AH.get_new,AH.get_new]
  rfl
 have n0:((h.new (.cells [.int .i64 n,ev] 2 false)).new (.cells [.int .i64 2,.nils,.nils,tv,.int .i64 o,.nils,.nils,.nils,.nils,.nils,.nils,.nils] 12 false)).next=h.next+2:=rfl
 generalize ((h.new (.cells [.int .i64 n,ev] 2 false)).new (.cells [.int .i64 2,.nils,.nils,tv,.int .i64 o,.nils,.nils,.nils,.nils,.nils,.nils,.nils] 12 false))=h1 at *
 have rd:∀ {h':AH},Ext h1.next h1 h'→rdCells h' h.next 0 2=some [.int .i64 n,ev]∧rdCells h' h.next 1 1=some [ev]∧rdCells h' (h.next+1) 0 12=some [.int .i64 2,.nils,.nils,tv,.int .i64 o,.nils,.nils,.nils,.nils,.nils,.nils,.nils]∧rdCells h' (h.next+1) 5 2=some [.nils,.nils]:=fun {h'} x=>by
  have gG:h'.get h.next=some (.cells [.int .i64 n,ev] 2 false):=by rw[x.gt _ (by omega),ga,if_neg (by omega),if_pos rfl]
  have gC:h'.get (h.next+1)=some (.cells [.int .i64 2,.nils,.nils,tv,.int .i64 o,.nils,.nils,.nils,.nils,.nils,.nils,.nils] 12 false):=by rw[x.gt _ (by omega),ga,if_pos rfl]
  exact⟨by rw[rdCells_of gG]; rfl,rd_at gG rfl,by rw[rdCells_of gC]; rfl,by rw[rdCells_of gC]; rfl⟩
 obtain⟨r1,r2,r3,r4⟩:=rd (h':=h1) Ext.refl
 by_cases q:¬ E.length≤200
 ·have c1:decide (((E.length:Nat):Int)≤200)=false:=decide_eq_false (by omega)
  refine W.seq (W.reg (G.nocall 6 (by simp only[am,evOp,simprocAttr,initTm,r2,el,c1]<;>rfl) rfl (by simp only[am,evOp,simprocAttr]) ?_))
  refine G.nocall 6 (by simp only[am,evOp,simprocAttr]<;>rfl) rfl (by simp only[am,evOp,simprocAttr]) ?_
  refine G.nocall 4 (by simp only[am,evOp,simprocAttr]<;>rfl) rfl (by simp only[am,evOp,simprocAttr]) ?_
  refine G.nocall 3 (by simp only[am,evOp,simprocAttr]<;>rfl) rfl (by simp only[am,evOp,simprocAttr]) ?_
  refine G.run (by simp only[am,evOp,simprocAttr]<;>rfl) ?_
  exact W.ret ⟨_,(by simp only[rs,rf5,am,evOp,simprocAttr]<;>rfl),⟨_,rfl,fun e=>by cases e⟩,x0⟩
 have q:=Classical.not_not.1 q
 have c1:decide (((E.length:Nat):Int)≤200)=true:=decide_eq_true (by omega)
 refine W.seq (W.reg (G.gcall 6 (by simp only[am,evOp,simprocAttr,initTm,r2,el,c1,r3]<;>rfl) rfl (by simp only[am,evOp,simprocAttr,initTm,r2,el,c1,r3]) (by simp only[am,evOp,simprocAttr,initTm,r2,el,c1,r3]<;>rfl) (hg25 (hT.ext x0)) fun r h2 hq=>?_))
 obtain⟨⟨t,rfl,ht⟩,x2⟩:=hq
 cases t with
 | true =>
   refine G.nocall 6 (by simp only[am,evOp,simprocAttr]<;>rfl) rfl (by simp only[am,evOp,simprocAttr]) ?_
   refine G.nocall 4 (by simp only[am,evOp,simprocAttr]<;>rfl) rfl (by simp only[am,evOp,simprocAttr]) ?_
   refine G.nocall 3 (by simp only[am,evOp,simprocAttr]<;>rfl) rfl (by simp only[am,evOp,simprocAttr]) ?_
   refine G.run (by simp only[am,evOp,simprocAttr]<;>rfl) ?_
   exact W.ret ⟨_,(by simp only[rs,rf5,am,evOp,simprocAttr]<;>rfl),⟨_,rfl,fun e=>by cases e⟩,x0.trans (x2.mono (by omega))⟩
 | false =>
 obtain⟨ht1,ht2⟩:=ht rfl
 obtain⟨s1,s2,s3,s4⟩:=rd x2
 refine G.gcall 6 (by simp only[am,evOp,simprocAttr,initTm,s4]<;>rfl) rfl (by simp only[am,evOp,simprocAttr,initTm,s4]) (by simp only[am,evOp,simprocAttr,initTm,s4]<;>rfl) (great23_ok) fun r h3 hq=>?_
 obtain⟨rfl,x3⟩:=hq
 have n2:=x2.nx
 have x3':Ext h1.next h1 h3:=x2.trans (x3.mono n2)
 obtain⟨u1,u2,u3,u4⟩:=rd x3'
 have X3:Ext h.next h h3:=x0.trans (x3'.mono (by omega))
 refine G.gcall 4 (by simp only[am,evOp,simprocAttr,initTm,u1]<;>rfl) rfl (by simp only[am,evOp,simprocAttr,initTm,u1]) (by simp only[am,evOp,simprocAttr,initTm,u1]<;>rfl) (rgood_ok (n:=n) (he.ext X3 (Nat.le_refl _)) (by omega)) fun r h4 hq=>?_
 obtain⟨⟨b,rfl,hb⟩,x4⟩:=hq
 have n3:=x3'.nx
 have x4':Ext h1.next h1 h4:=x3'.trans (x4.mono n3)
 have X4:Ext h.next h h4:=x0.trans (x4'.mono (by omega))
 cases b with
 | false =>
   refine G.nocall 3 (by simp only[am,evOp,simprocAttr]<;>rfl) rfl (by simp only[am,evOp,simprocAttr]) ?_
   refine G.run (by simp only[am,evOp,simprocAttr]<;>rfl) ?_
   exact W.ret ⟨_,(by simp only[rs,rf5,am,evOp,simprocAttr]<;>rfl),⟨_,rfl,fun _=>⟨q,ht1,ht2⟩⟩,X4⟩
 | true =>
   have hG:=hb.1 rfl
   have hn:n=((n.toNat:Nat):Int):=by
    have:=hG.1
    unfold mayB at this
    simp only[Bool.and_eq_true,decide_eq_true_eq] at this
    omega
   obtain⟨v1,v2,v3,v4⟩:=rd x4'
   rw[hn] at hG v1
   refine G.gcall 3 (by simp only[am,evOp,simprocAttr,initTm,v1]<;>rfl) rfl (by simp only[am,evOp,simprocAttr,initTm,v1]) (by simp only[am,evOp,simprocAttr,initTm,v1]<;>rfl) (small10_ok (n:=n.toNat) (he.ext X4 (Nat.le_refl _)) hG) fun r h5 hq=>?_
   obtain⟨⟨t,rfl⟩,x5⟩:=hq
   have n4:=x4'.nx
   refine G.run (by simp only[am,evOp,simprocAttr]<;>rfl) ?_
   exact W.ret ⟨_,(by simp only[rs,rf5,am,evOp,simprocAttr]<;>rfl),⟨_,rfl,fun _=>⟨q,ht1,ht2⟩⟩,X4.trans (x5.mono (by omega))⟩
end Go.Proofs.YticaalcbgikjjaaGreatDoor
namespace Go.Proofs.YticaalcbgikjjaaGreatDoor
open Go.Am
theorem slH0_eq:slH0=AH.zero.keep 203:=by kernel_rfl
theorem Turn.stay {h h':AH}{tv:AV}{lu:Nat}{T:List (List Int)} (t:Turn h tv lu T) (hk:∀ b o,h.get b=some o→h'.get b=some o):Turn h' tv lu T:=⟨t.len,t.cells,fun q=>⟨SlL.stay hk (t.sl q).1,(t.sl q).2⟩⟩
theorem same_g {n:Int}{ev:AV} (h:ev.same ev=true):AV.same (.agg [.int .i64 n,ev]) (.agg [.int .i64 n,ev])=true:=by
 simp [AV.same,AV.sames,h]
set_option maxHeartbeats 2000000 in
theorem outer_law {os:List AO}{n o:Int}{ev tv:AV}{lu:Nat}{E:List (Int×Int)}{T:List (List Int)} (hos:os.length=202) (he:SlE (news os AH.zero) ev E) (hT:Turn (news os AH.zero) tv lu T) :
 C prg 3 [.agg [.int .i64 n,ev],tv,.int .i64 o] (news os AH.zero) fun v _=>v=.bool true:=by
 obtain⟨ec,eo⟩:=he.cells
 obtain⟨tc,to⟩:=hT.cells
 have hnx:(news os AH.zero).next=210:=by rw[news_next,hos]; rfl
 refine C.func pf3 ?_
 refine W.seq (W.run (by simp only[am,evOp,simprocAttr,initTm]<;>rfl) ?_)
 have hsp:=speaks_at (f:=4) sl_good slH0_eq (os:=os++[.cells [.int .i64 n,ev] 2 false]) (by rw[List.length_append,hos]; rfl) (by decide)
 rw[← news_one] at hsp
 have ga:∀ c,((news os AH.zero).new (.cells [.int .i64 n,ev] 2 false)).get c=if c=(news os AH.zero).next then some (.cells [.int .i64 n,ev] 2 false) else (news os AH.zero).get c:=fun c=>by
  rw[AH.get_new]
 have hk0:∀ b o,(news os AH.zero).get b=some o→((news os AH.zero).new (.cells [.int .i64 n,ev] 2 false)).get b=some o:=fun b o hb=>by
  have:=AH.lt_of_get hb
  rw[ga,if_neg (by omega)]
  exact hb
 generalize ((news os AH.zero).new (.cells [.int .i64 n,ev] 2 false))=h1 at *
 have gG:h1.get (news os AH.zero).next=some (.cells [.int .i64 n,ev] 2 false):=by rw[ga,if_pos rfl]
 generalize (news os AH.zero).next=nx at *
 subst hnx
 refine W.seq (W.seq (W.reg (G.callq (by simp only[am,evOp,simprocAttr]) (by simp only[am,evOp,simprocAttr]<;>rfl) (hsp) fun r h2 hq=>?_)))
 obtain⟨rfl,hn2,hk2⟩:=hq
 refine G.run (by simp only[am,evOp,simprocAttr]<;>rfl) ?_
 refine W.no (by simp only[am,evOp,simprocAttr]) (W.skip ?_)
 have he2:SlE h2 ev E:=Sl.stay (fun b o hb=>hk2 b o (hk0 b o hb)) he
 have hT2:Turn h2 tv lu T:=hT.stay fun b o hb=>hk2 b o (hk0 b o hb)
 have el:=he2.len
 rw[List.length_map] at el
 have gG2:=hk2 _ _ gG
 have hg2n:=AH.lt_of_get gG2
 obtain⟨h3,w3,x3,g3,n3⟩:=mk_loc (h:=h2) (z:=[.int .i64 0,.nils,.nils,.nils,.int .i64 0,.nils,.nils,.nils,.nils,.nils,.nils,.nils]) (cs:=cert26 tv o) (e:=12) rfl
 unfold cert26 at w3 g3
 refine W.seq (W.run (by simp only[am,evOp,simprocAttr,initTm,tc,to,w3]<;>rfl) ?_)
 have he3:=he2.ext x3 (Nat.le_refl _)
 have hT3:=hT2.ext x3
 have rd:∀ {h':AH},Ext h3.next h3 h'→rdCells h' 210 0 2=some [.int .i64 n,ev]∧rdCells h' 210 1 1=some [ev]∧rdCells h' h2.next 0 12=some [.int .i64 2,.nils,.nils,tv,.int .i64 o,.nils,.nils,.nils,.nils,.nils,.nils,.nils]:=fun {h'} x=>by
  have gA:h'.get 210=some (.cells [.int .i64 n,ev] 2 false):=by rw[x.gt _ (by omega),x3.gt _ (by omega)]; exact gG2
  have gC:h'.get h2.next=some (.cells [.int .i64 2,.nils,.nils,tv,.int .i64 o,.nils,.nils,.nils,.nils,.nils,.nils,.nils] 12 false):=by rw[x.gt _ (by omega)]; exact g3
  exact⟨by rw[rdCells_of gA]; rfl,rd_at gA rfl,by rw[rdCells_of gC]; rfl⟩
 obtain⟨r1,r2,r3⟩:=rd (h':=h3) Ext.refl
 have hsm:=small26_ok (n:=n) (o:=o) he3 hT3
 unfold cert26 at hsm
 refine W.seq (W.seq (W.reg (G.gcall 2 (by simp only[am,evOp,simprocAttr,initTm,r1,r3]<;>rfl) rfl (by simp only[am,evOp,simprocAttr,initTm,r1,r3]) (by simp only[am,evOp,simprocAttr,initTm,r1,r3]<;>rfl) (hsm) fun r h4 hq=>?_)))
 obtain⟨⟨t,rfl,ht⟩,x4⟩:=hq
 cases t with
 | false =>
   refine G.nocall 3 (by simp only[am,evOp,simprocAttr]<;>rfl) rfl (by simp only[am,evOp,simprocAttr]) ?_
   refine G.run (by simp only[am,evOp,simprocAttr]<;>rfl) ?_
   refine W.yes (by simp only[am,evOp,simprocAttr]) (W.seq (W.run (by simp only[am,evOp,simprocAttr]<;>rfl) ?_))
   exact W.ret ⟨_,(by simp only[rs,rf3,am,evOp,simprocAttr]<;>rfl),rfl⟩
 | true =>
 obtain⟨ht0,ht1,ht2⟩:=ht rfl
 obtain⟨s1,s2,s3⟩:=rd x4
 refine G.gcall 3 (by simp only[am,evOp,simprocAttr,initTm,s1]<;>rfl) rfl (by simp only[am,evOp,simprocAttr,initTm,s1]) (by simp only[am,evOp,simprocAttr,initTm,s1]<;>rfl) (rgood_ok (n:=n) (he3.ext x4 (Nat.le_refl _)) (by omega)) fun r h5 hq=>?_
 obtain⟨⟨b,rfl,hb⟩,x5⟩:=hq
 have n4:=x4.nx
 have X5:Ext h3.next h3 h5:=x4.trans (x5.mono n4)
 obtain⟨u1,u2,u3⟩:=rd X5
 cases b with
 | false =>
   refine G.run (by simp only[am,evOp,simprocAttr]<;>rfl) ?_
   refine W.yes (by simp only[am,evOp,simprocAttr]) (W.seq (W.run (by simp only[am,evOp,simprocAttr]<;>rfl) ?_))
   exact W.ret ⟨_,(by simp only[rs,rf3,am,evOp,simprocAttr]<;>rfl),rfl⟩
 | true =>
 have hG:=hb.1 rfl
 by_cases q0:E.length=0
 ·have c0:decide (((E.length:Nat):Int)=0)=true:=decide_eq_true (by omega)
  refine G.run (by simp only[am,evOp,simprocAttr,initTm,u2,el,c0]<;>rfl) ?_
  refine W.yes (by simp only[am,evOp,simprocAttr]) (W.seq (W.run (by simp only[am,evOp,simprocAttr]<;>rfl) ?_))
  exact W.ret ⟨_,(by simp only[rs,rf3,am,evOp,simprocAttr]<;>rfl),rfl⟩
 have c0:decide (((E.length:Nat):Int)=0)=false:=decide_eq_false (by omega)
 refine G.run (by simp only[am,evOp,simprocAttr,initTm,u2,el,c0]<;>rfl) ?_
 refine W.no (by simp only[am,evOp,simprocAttr]) (W.skip ?_)
 have hn:n=((n.toNat:Nat):Int):=by
  have:=hG.1
  unfold mayB at this
  simp only[Bool.and_eq_true,decide_eq_true_eq] at this
  omega
 generalize n.toNat=nn at *
 subst hn
 have h0:0<E.length:=by omega
 obtain⟨hS,hTl⟩:=hT3.sl ht1
 have hT1:T.length<2 ^ 40:=by omega
 have hT2':∀ l∈T,l.length<2 ^ 40:=fun l hl=>by have:=ht2 l hl; omega
 have n5:=X5.nx
 have hlaid:=laid25_ok (h:=h5) (tv:=tv) (o:=o) to tc
 unfold cert26 at hlaid
 refine W.seq (W.reg (G.gcallc 2 (by simp only[am,evOp,simprocAttr,initTm,u1,u3]<;>rfl) rfl (by simp only[am,evOp,simprocAttr,initTm,u1,u3]) (by simp only[am,evOp,simprocAttr,initTm,u1,u3]<;>rfl) (hlaid) fun r h6 hq=>?_))
 obtain⟨rfl,x6⟩:=hq
 have X6:Ext h3.next h3 h6:=X5.trans (x6.mono n5)
 obtain⟨v1,v2,v3⟩:=rd X6
 have hself:=same_g (n:=((nn:Nat):Int)) (Sl.self he)
 refine⟨by simp only[am,evOp,simprocAttr,initTm,v1,hself],?_⟩
 have hw:=jWeigh_ok (n:=nn) (o:=o) (he3.ext X6 (Nat.le_refl _)) hG h0 (hS.ext X6) hT1 hT2'
 unfold cert26 at hw
 refine G.callq (by simp only[am,evOp,simprocAttr]) (by simp only[am,evOp,simprocAttr]<;>rfl) (hw) fun r h7 hq=>?_
 obtain⟨⟨a,b,rfl,hab⟩,x7⟩:=hq
 refine G.run (by simp only[am,evOp,simprocAttr]<;>rfl) ?_
 have n6:=X6.nx
 have X7:Ext h3.next h3 h7:=X6.trans (x7.mono n6)
 obtain⟨y1,y2,y3⟩:=rd X7
 refine W.seq (W.run (by simp only[am,evOp,simprocAttr]<;>rfl) ?_)
 refine W.seq (W.seq (W.reg (G.gcall 2 (by simp only[am,evOp,simprocAttr,initTm,y1]<;>rfl) rfl (by simp only[am,evOp,simprocAttr,initTm,y1]) (by simp only[am,evOp,simprocAttr,initTm,y1]<;>rfl) (fouters_ok (n:=nn) (he3.ext X7 (Nat.le_refl _)) hG h0 (hS.ext X7) hT1 hT2') fun r h8 hq=>?_)))
 obtain⟨s8,x8⟩:=hq
 have l8:=s8.len
 rw[List.length_map] at l8
 obtain⟨rc,ro⟩:=s8.cells
 have hlen:=outersF_len (n:=nn) (T:=T) h0 (may_of hG.1).2.2.1
 generalize outersF nn E T=L at *
 refine G.run (by simp only[am,evOp,simprocAttr,l8]<;>rfl) ?_
 have a0:(([]:List Int).any (o==·))=false:=rfl
 refine W.rng (α:=Unit) (N:=L.length) (fun k _=>[(42,r),(2,.int .i64 o),(8,.int .i64 a),(10,.bool ((L.take k).any (o==·)))]) (fun k _ h'=>h'=h8) () (fun _ _=>rfl) (by omega) (by simp only[hl,am,evOp,simprocAttr,initTm,rc,ro,a0]) rfl ?_ ?_
 ·rintro k _ ts h9 hk rfl ⟨ei,en,e42,e2,e8,e10,-⟩
  simp only at ei en e42 e2 e8 e10
  obtain⟨qb,qp,a1,a2,_⟩:=s8.at1 (map_at (f:=eI) hk)
  have hst:(L.take (k+1)).any (o==·)=((L.take k).any (o==·)||o==L[k]):=by
   rw[List.take_succ_eq_append_getElem hk,List.any_append]
   simp
  generalize L[k]=z at *
  have hd:decide (z=o)=(o==z):=by
   rw[Bool.eq_iff_iff,decide_eq_true_eq,beq_iff_eq]
   exact⟨fun e=>e.symm,fun e=>e.symm⟩
  refine W.seq (W.run (by simp only[am,evOp,simprocAttr,e42,ei,a1,a2]<;>rfl) ?_)
  cases hc:(L.take k).any (o==·) with
  | true =>
    rw[hc] at e10 hst
    refine W.run (by simp only[am,evOp,simprocAttr,e10]<;>rfl) ?_
    exact⟨(),rfl,by simp only[hl,am,evOp,simprocAttr,ei,en,e42,e2,e8,hst,Bool.true_or]⟩
  | false =>
    rw[hc] at e10 hst
    refine W.run (by simp only[am,evOp,simprocAttr,e10,e2,hd]<;>rfl) ?_
    exact⟨(),rfl,by simp only[hl,am,evOp,simprocAttr,ei,en,e42,e2,e8,hst,Bool.false_or]⟩
 ·rintro _ ts h9 rfl ⟨e42,e2,e8,e10,-⟩
  simp only at e8 e10
  rw[List.take_length] at e10
  refine W.seq (W.run (by simp only[am,evOp,simprocAttr,e8,e10,bin_beql,hab,beq_self_eq_true]<;>rfl) ?_)
  exact W.ret ⟨_,(by simp only[rs,rf3,am,evOp,simprocAttr]<;>rfl),rfl⟩
end Go.Proofs.YticaalcbgikjjaaGreatDoor
