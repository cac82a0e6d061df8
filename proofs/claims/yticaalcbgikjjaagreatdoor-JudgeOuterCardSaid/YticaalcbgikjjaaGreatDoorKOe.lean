/-
  judge.Weigh of a rotation. arborlaw25.Laid, Great, arborlaw23.Great, arborref10.Small. arborref10.Small, arborlaw25.Great, arborlaw26.small.
-/
import Derived.Test.YticaalcbgikjjaaGreatDoorKOd
import Derived.Test.YticaalcbgikjjaaGreatDoorKLi
set_option linter.all false
namespace Go.Proofs.YticaalcbgikjjaaGreatDoor
open Go.Am
theorem outersF_len {n:Nat}{E:List (Int×Int)}{T:List (List Int)} (h0:0<E.length) (hm:E.length≤128):(outersF n E T).length≤256:=by
 obtain⟨_,_,h3⟩:=highs_ok (n:=n) (T:=T) h0 hm
 unfold outersF
 split
 ·simp
 ·split
  ·simp
  ·refine Nat.le_trans (comp_len _) ?_
   rw[isort_len,List.length_map]
   exact Nat.le_trans (List.length_filter_le ..) h3
theorem jturned_ok {h:AH}{n:Nat}{ev tv:AV}{o:Int}{E:List (Int×Int)}{T:List (List Int)} (he:SlE h ev E) (hG:GoodP (n:Nat) E) (h0:0<E.length) (hT:SlL h tv T) (hT1:T.length<2 ^ 40) (hT2:∀ l∈T,l.length<2 ^ 40) :
 C prg 43 [.agg [.int .i64 (n:Nat),ev],tv,.int .i64 o] h fun r h'=>r=.bool ((outersF n E T).any (o==·))∧Ext h.next h h':=by
 obtain⟨ec,eo⟩:=he.cells
 obtain⟨m1,m2,m3,m4⟩:=may_of hG.1
 have el:=he.len
 rw[List.length_map] at el
 have hlen:=outersF_len (n:=n) (T:=T) h0 m3
 refine C.func pf43 ?_
 refine W.seq (W.run (by simp only[am,evOp,simprocAttr,initTm]<;>rfl) ?_)
 have x0:Ext h.next h (h.new (.cells [.int .i64 (n:Nat),ev] 2 false)):=Ext.new (Nat.le_refl _)
 have g0:(h.new (.cells [.int .i64 (n:Nat),ev] 2 false)).get h.next=some (.cells [.int .i64 (n:Nat),ev] 2 false):=by rw[AH.get_new,if_pos rfl]
 have n0:(h.new (.cells [.int .i64 (n:Nat),ev] 2 false)).next=h.next+1:=rfl
 generalize (h.new (.cells [.int .i64 (n:Nat),ev] 2 false))=h1 at *
 have rA:rdCells h1 h.next 0 2=some [.int .i64 (n:Nat),ev]:=by rw[rdCells_of g0]; rfl
 have rE:rdCells h1 h.next 1 1=some [ev]:=rd_at g0 rfl
 have c0:decide (((E.length:Nat):Int)=0)=false:=decide_eq_false (by omega)
 refine W.seq (W.seq (W.run (by simp only[am,evOp,simprocAttr,initTm,rE,el,c0]<;>rfl) ?_))
 refine W.no (by simp only[am,evOp,simprocAttr]) (W.skip ?_)
 refine W.seq (W.reg (G.gcall 2 (by simp only[am,evOp,simprocAttr,initTm,rA]<;>rfl) rfl (by simp only[am,evOp,simprocAttr,initTm,rA]) (by simp only[am,evOp,simprocAttr,initTm,rA]<;>rfl) (fouters_ok (n:=n) (he.ext x0 (Nat.le_refl _)) hG h0 (hT.ext x0) hT1 hT2) fun r h2 hq=>?_))
 obtain⟨s2,x2⟩:=hq
 generalize outersF n E T=L at *
 refine G.gcall 1 (by simp only[am,evOp,simprocAttr,initTm]<;>rfl) rfl (by simp only[am,evOp,simprocAttr,initTm]) (by simp only[am,evOp,simprocAttr,initTm]<;>rfl) (contI_ok (y:=o) s2 (by omega)) fun r h3 hq=>?_
 obtain⟨rfl,x3⟩:=hq
 have n2:=x2.nx
 refine G.run (by simp only[am,evOp,simprocAttr]<;>rfl) ?_
 exact W.ret ⟨_,(by simp only[rs,rf43,am,evOp,simprocAttr]<;>rfl),rfl,x0.trans ((x2.mono (by omega)).trans (x3.mono (by omega)))⟩
def cert26 (tv:AV) (o:Int):List AV:=[.int .i64 2,.nils,.nils,tv,.int .i64 o,.nils,.nils,.nils,.nils,.nils,.nils,.nils]
theorem jweigh_ok {h:AH}{n:Nat}{ev tv:AV}{o:Int}{E:List (Int×Int)}{T:List (List Int)} (he:SlE h ev E) (hG:GoodP (n:Nat) E) (h0:0<E.length) (hT:SlL h tv T) (hT1:T.length<2 ^ 40) (hT2:∀ l∈T,l.length<2 ^ 40) :
 C prg 17 [.agg [.int .i64 (n:Nat),ev],.agg (cert26 tv o)] h fun r h'=>r=.tup [.int .i64 1,.bool ((outersF n E T).any (o==·))]∧Ext h.next h h':=by
 obtain⟨ec,eo⟩:=he.cells
 obtain⟨tc,to⟩:=hT.cells
 refine C.func pf17 ?_
 unfold cert26
 refine W.seq (W.run (by simp only[am,evOp,simprocAttr,initTm]<;>rfl) ?_)
 have x0:Ext h.next h ((h.new (.cells [.int .i64 (n:Nat),ev] 2 false)).new (.cells [.int .i64 2,.nils,.nils,tv,.int .i64 o,.nils,.nils,.nils,.nils,.nils,.nils,.nils] 12 false)):=(Ext.new (Nat.le_refl _)).trans (Ext.new (by simp))
 have ga:∀ c,((h.new (.cells [.int .i64 (n:Nat),ev] 2 false)).new (.cells [.int .i64 2,.nils,.nils,tv,.int .i64 o,.nils,.nils,.nils,.nils,.nils,.nils,.nils] 12 false)).get c=if c=h.next+1 then some (.cells [.int .i64 2,.nils,.nils,tv,.int .i64 o,.nils,.nils,.nils,.nils,.nils,.nils,.nils] 12 false) else if c=h.next then some (.cells [.int .i64 (n:Nat),ev] 2 false) else h.get c:=fun c=>by
  rw[AH.get_new,AH.get_new]
  rfl
 have n0:((h.new (.cells [.int .i64 (n:Nat),ev] 2 false)).new (.cells [.int .i64 2,.nils,.nils,tv,.int .i64 o,.nils,.nils,.nils,.nils,.nils,.nils,.nils] 12 false)).next=h.next+2:=rfl
 generalize ((h.new (.cells [.int .i64 (n:Nat),ev] 2 false)).new (.cells [.int .i64 2,.nils,.nils,tv,.int .i64 o,.nils,.nils,.nils,.nils,.nils,.nils,.nils] 12 false))=h1 at *
 have gG:h1.get h.next=some (.cells [.int .i64 (n:Nat),ev] 2 false):=by rw[ga,if_neg (by omega),if_pos rfl]
 have gC:h1.get (h.next+1)=some (.cells [.int .i64 2,.nils,.nils,tv,.int .i64 o,.nils,.nils,.nils,.nils,.nils,.nils,.nils] 12 false):=by rw[ga,if_pos rfl]
 have rA:rdCells h1 h.next 0 2=some [.int .i64 (n:Nat),ev]:=by rw[rdCells_of gG]; rfl
 have rK:rdCells h1 (h.next+1) 0 1=some [.int .i64 2]:=rd_at gC rfl
 have rT:rdCells h1 (h.next+1) 3 1=some [tv]:=rd_at gC rfl
 have rO:rdCells h1 (h.next+1) 4 1=some [.int .i64 o]:=rd_at gC rfl
 refine W.seq (W.seq (W.run (by simp only[am,evOp,simprocAttr,initTm,rK]<;>rfl) ?_))
 refine W.block (W.seq (W.run (by simp only[am,evOp,simprocAttr]<;>rfl) ?_))
 refine W.no (by simp only[am,evOp,simprocAttr]<;>rfl) (W.seq (W.run (by simp only[am,evOp,simprocAttr,decide_true]<;>rfl) ?_))
 refine W.yes (by simp only[am,evOp,simprocAttr]) ?_
 refine W.seq (W.reg (G.gcall 5 (by simp only[am,evOp,simprocAttr,initTm,rA,rT,rO]<;>rfl) rfl (by simp only[am,evOp,simprocAttr,initTm,rA,rT,rO]) (by simp only[am,evOp,simprocAttr,initTm,rA,rT,rO]<;>rfl) (jturned_ok (n:=n) (o:=o) (he.ext x0 (Nat.le_refl _)) hG h0 (hT.ext x0) hT1 hT2) fun r h2 hq=>?_))
 obtain⟨rfl,x2⟩:=hq
 refine G.run (by simp only[am,evOp,simprocAttr]<;>rfl) ?_
 exact W.ret ⟨_,(by simp only[rs,rf17,am,evOp,simprocAttr]<;>rfl),rfl,x0.trans (x2.mono (by omega))⟩
theorem jWeigh_ok {h:AH}{n:Nat}{ev tv:AV}{o:Int}{E:List (Int×Int)}{T:List (List Int)} (he:SlE h ev E) (hG:GoodP (n:Nat) E) (h0:0<E.length) (hT:SlL h tv T) (hT1:T.length<2 ^ 40) (hT2:∀ l∈T,l.length<2 ^ 40) :
 C prg 7 [.agg [.int .i64 (n:Nat),ev],.agg (cert26 tv o)] h fun r h'=>(∃ a b,r=.tup [.int .i64 a,b]∧decide (a=1)=(outersF n E T).any (o==·))∧Ext h.next h h':=by
 obtain⟨ec,eo⟩:=he.cells
 obtain⟨tc,to⟩:=hT.cells
 obtain⟨m1,m2,m3,m4⟩:=may_of hG.1
 refine C.func pf7 ?_
 unfold cert26
 refine W.seq (W.run (by simp only[am,evOp,simprocAttr,initTm]<;>rfl) ?_)
 have x0:Ext h.next h ((h.new (.cells [.int .i64 (n:Nat),ev] 2 false)).new (.cells [.int .i64 2,.nils,.nils,tv,.int .i64 o,.nils,.nils,.nils,.nils,.nils,.nils,.nils] 12 false)):=(Ext.new (Nat.le_refl _)).trans (Ext.new (by simp))
 have ga:∀ c,((h.new (.cells [.int .i64 (n:Nat),ev] 2 false)).new (.cells [.int .i64 2,.nils,.nils,tv,.int .i64 o,.nils,.nils,.nils,.nils,.nils,.nils,.nils] 12 false)).get c=if c=h.next+1 then some (.cells [.int .i64 2,.nils,.nils,tv,.int .i64 o,.nils,.nils,.nils,.nils,.nils,.nils,.nils] 12 false) else if c=h.next then some (.cells [.int .i64 (n:Nat),ev] 2 false) else h.get c:=fun c=>by
  rw[AH.get_new,AH.get_new]
  rfl
 have n0:((h.new (.cells [.int .i64 (n:Nat),ev] 2 false)).new (.cells [.int .i64 2,.nils,.nils,tv,.int .i64 o,.nils,.nils,.nils,.nils,.nils,.nils,.nils] 12 false)).next=h.next+2:=rfl
 generalize ((h.new (.cells [.int .i64 (n:Nat),ev] 2 false)).new (.cells [.int .i64 2,.nils,.nils,tv,.int .i64 o,.nils,.nils,.nils,.nils,.nils,.nils,.nils] 12 false))=h1 at *
 have gG:h1.get h.next=some (.cells [.int .i64 (n:Nat),ev] 2 false):=by rw[ga,if_neg (by omega),if_pos rfl]
 have gC:h1.get (h.next+1)=some (.cells [.int .i64 2,.nils,.nils,tv,.int .i64 o,.nils,.nils,.nils,.nils,.nils,.nils,.nils] 12 false):=by rw[ga,if_pos rfl]
 have rA:rdCells h1 h.next 0 2=some [.int .i64 (n:Nat),ev]:=by rw[rdCells_of gG]; rfl
 refine W.seq (W.seq (W.reg (G.gcall 1 (by simp only[am,evOp,simprocAttr,initTm,rA]<;>rfl) rfl (by simp only[am,evOp,simprocAttr,initTm,rA]) (by simp only[am,evOp,simprocAttr,initTm,rA]<;>rfl) (check_ok (n:=((n:Nat):Int)) (he.ext x0 (Nat.le_refl _)) (by omega)) fun r h2 hq=>?_)))
 obtain⟨⟨c,at_,v,rfl,hc⟩,x2⟩:=hq
 have hc0:=hc.2 hG
 subst hc0
 have n2:=x2.nx
 have X2:Ext h.next h h2:=x0.trans (x2.mono (by omega))
 refine G.run (by simp only[am,evOp,simprocAttr,fldZ,decide_true]<;>rfl) ?_
 refine W.no (by simp only[am,evOp,simprocAttr,decide_true,Bool.not_true]) (W.skip ?_)
 have gG2:h2.get h.next=some (.cells [.int .i64 (n:Nat),ev] 2 false):=by rw[x2.gt _ (by omega)]; exact gG
 have gC2:h2.get (h.next+1)=some (.cells [.int .i64 2,.nils,.nils,tv,.int .i64 o,.nils,.nils,.nils,.nils,.nils,.nils,.nils] 12 false):=by rw[x2.gt _ (by omega)]; exact gC
 have rA2:rdCells h2 h.next 0 2=some [.int .i64 (n:Nat),ev]:=by rw[rdCells_of gG2]; rfl
 have rC2:rdCells h2 (h.next+1) 0 12=some [.int .i64 2,.nils,.nils,tv,.int .i64 o,.nils,.nils,.nils,.nils,.nils,.nils,.nils]:=by rw[rdCells_of gC2]; rfl
 have hw:=jweigh_ok (n:=n) (o:=o) (he.ext X2 (Nat.le_refl _)) hG h0 (hT.ext X2) hT1 hT2
 unfold cert26 at hw
 refine W.seq (W.reg (G.gcall 2 (by simp only[am,evOp,simprocAttr,initTm,rA2,rC2]<;>rfl) rfl (by simp only[am,evOp,simprocAttr,initTm,rA2,rC2]) (by simp only[am,evOp,simprocAttr,initTm,rA2,rC2]<;>rfl) (hw) fun r h3 hq=>?_))
 obtain⟨rfl,x3⟩:=hq
 have X3:Ext h.next h h3:=X2.trans (x3.mono (by omega))
 generalize (outersF n E T).any (o==·)=qb at *
 refine G.run (by simp only[am,evOp,simprocAttr]<;>rfl) ?_
 refine W.seq (W.block (W.seq (W.run (by simp only[am,evOp,simprocAttr]<;>rfl) ?_)))
 refine W.no (by simp only[am,evOp,simprocAttr]<;>rfl) (W.seq (W.run (by simp only[am,evOp,simprocAttr]<;>rfl) ?_))
 cases qb with
 | false =>
   refine W.yes (by simp only[am,evOp,simprocAttr]) (W.seq (W.run (by simp only[am,evOp,simprocAttr]<;>rfl) ?_))
   exact W.ret ⟨_,(by simp only[rs,rf7,am,evOp,simprocAttr]<;>rfl),⟨_,_,rfl,rfl⟩,X3⟩
 | true =>
   refine W.no (by simp only[am,evOp,simprocAttr]) (W.skip (W.seq (W.run (by simp only[am,evOp,simprocAttr]<;>rfl) ?_)))
   exact W.ret ⟨_,(by simp only[rs,rf7,am,evOp,simprocAttr]<;>rfl),⟨_,_,rfl,rfl⟩,X3⟩
end Go.Proofs.YticaalcbgikjjaaGreatDoor
namespace Go.Proofs.YticaalcbgikjjaaGreatDoor
open Go.Am
theorem laid25_ok {h:AH}{tv:AV}{o:Int} (hone:tv.one=true) (hcell:tv.cells=[tv]):C prg 8 [.agg (cert26 tv o)] h fun r h'=>r=.agg (cert26 tv o)∧Ext h.next h h':=by
 refine C.func pf8 ?_
 unfold cert26
 refine W.seq (W.run (by simp only[am,evOp,simprocAttr,initTm,hone]<;>rfl) ?_)
 have x0:Ext h.next h ((h.new (.cells [.int .i64 2,.nils,.nils,tv,.int .i64 o,.nils,.nils,.nils,.nils,.nils,.nils,.nils] 12 false)).new (.cells [.int .i64 0,.nils,.nils,.nils,.int .i64 0,.nils,.nils,.nils,.nils,.nils,.nils,.nils] 12 false)):=(Ext.new (Nat.le_refl _)).trans (Ext.new (by simp))
 have ga:∀ c,((h.new (.cells [.int .i64 2,.nils,.nils,tv,.int .i64 o,.nils,.nils,.nils,.nils,.nils,.nils,.nils] 12 false)).new (.cells [.int .i64 0,.nils,.nils,.nils,.int .i64 0,.nils,.nils,.nils,.nils,.nils,.nils,.nils] 12 false)).get c=if c=h.next+1 then some (.cells [.int .i64 0,.nils,.nils,.nils,.int .i64 0,.nils,.nils,.nils,.nils,.nils,.nils,.nils] 12 false) else if c=h.next then some (.cells [.int .i64 2,.nils,.nils,tv,.int .i64 o,.nils,.nils,.nils,.nils,.nils,.nils,.nils] 12 false) else h.get c:=fun c=>by
  rw[AH.get_new,AH.get_new]
  rfl
 generalize ((h.new (.cells [.int .i64 2,.nils,.nils,tv,.int .i64 o,.nils,.nils,.nils,.nils,.nils,.nils,.nils] 12 false)).new (.cells [.int .i64 0,.nils,.nils,.nils,.int .i64 0,.nils,.nils,.nils,.nils,.nils,.nils,.nils] 12 false))=h1 at *
 have gC:h1.get h.next=some (.cells [.int .i64 2,.nils,.nils,tv,.int .i64 o,.nils,.nils,.nils,.nils,.nils,.nils,.nils] 12 false):=by rw[ga,if_neg (by omega),if_pos rfl]
 have gR:h1.get (h.next+1)=some (.cells [.int .i64 0,.nils,.nils,.nils,.int .i64 0,.nils,.nils,.nils,.nils,.nils,.nils,.nils] 12 false):=by rw[ga,if_pos rfl]
 have r0:rdCells h1 h.next 0 1=some [.int .i64 2]:=rd_at gC rfl
 have r1:rdCells h1 h.next 1 2=some [.nils,.nils]:=by rw[rdCells_of gC]; rfl
 have r3:rdCells h1 h.next 3 1=some [tv]:=rd_at gC rfl
 have r4:rdCells h1 h.next 4 1=some [.int .i64 o]:=rd_at gC rfl
 have r5:rdCells h1 h.next 5 2=some [.nils,.nils]:=by rw[rdCells_of gC]; rfl
 have r7:rdCells h1 h.next 7 4=some [.nils,.nils,.nils,.nils]:=by rw[rdCells_of gC]; rfl
 have r11:rdCells h1 h.next 11 1=some [.nils]:=rd_at gC rfl
 have w2:wrCells h1 (h.next+1) 0 [.int .i64 2,.nils,.nils,tv,.int .i64 o,.nils,.nils,.nils,.nils,.nils,.nils,.nils]=some (h1.put (h.next+1) (.cells [.int .i64 2,.nils,.nils,tv,.int .i64 o,.nils,.nils,.nils,.nils,.nils,.nils,.nils] 12 false)):=by
  rw[wrCells_of gR]
  rfl
 have u:=Upd.put (o:=.cells [.int .i64 2,.nils,.nils,tv,.int .i64 o,.nils,.nils,.nils,.nils,.nils,.nils,.nils] 12 false) gR
 refine W.seq (W.run (by simp only[am,evOp,simprocAttr,initTm,r0,r1,r3,r4,r5,r7,r11,hone,hcell,w2]<;>rfl) ?_)
 have rr:rdCells (h1.put (h.next+1) (.cells [.int .i64 2,.nils,.nils,tv,.int .i64 o,.nils,.nils,.nils,.nils,.nils,.nils,.nils] 12 false)) (h.next+1) 0 12=some [.int .i64 2,.nils,.nils,tv,.int .i64 o,.nils,.nils,.nils,.nils,.nils,.nils,.nils]:=by
  rw[rdCells_of u.get]
  rfl
 exact W.ret ⟨_,(by simp only[rs,rf8,am,evOp,simprocAttr,rr,hcell,hone]<;>rfl),rfl,x0.trans (u.ext (by omega))⟩
theorem great23_ok {h:AH}:C prg 13 [.agg [.int .i64 0,.nils],.agg [.nils,.nils]] h fun r h'=>r=.bool false∧Ext h.next h h':=by
 refine C.func pf13 ?_
 refine W.seq (W.run (by simp only[am,evOp,simprocAttr,initTm]<;>rfl) ?_)
 have x0:Ext h.next h ((h.new (.cells [.int .i64 0,.nils] 2 false)).new (.cells [.nils,.nils] 2 false)):=(Ext.new (Nat.le_refl _)).trans (Ext.new (by simp))
 have ga:∀ c,((h.new (.cells [.int .i64 0,.nils] 2 false)).new (.cells [.nils,.nils] 2 false)).get c=if c=h.next+1 then some (.cells [.nils,.nils] 2 false) else if c=h.next then some (.cells [.int .i64 0,.nils] 2 false) else h.get c:=fun c=>by
  rw[AH.get_new,AH.get_new]
  rfl
 generalize ((h.new (.cells [.int .i64 0,.nils] 2 false)).new (.cells [.nils,.nils] 2 false))=h1 at *
 have gG:h1.get h.next=some (.cells [.int .i64 0,.nils] 2 false):=by rw[ga,if_neg (by omega),if_pos rfl]
 have gD:h1.get (h.next+1)=some (.cells [.nils,.nils] 2 false):=by rw[ga,if_pos rfl]
 have r1:rdCells h1 h.next 1 1=some [.nils]:=rd_at gG rfl
 have r2:rdCells h1 (h.next+1) 0 1=some [.nils]:=rd_at gD rfl
 have r3:rdCells h1 (h.next+1) 1 1=some [.nils]:=rd_at gD rfl
 have c1:decide ((40:Int)<0)=false:=rfl
 have c2:decide ((70:Int)<0)=false:=rfl
 have c3:decide ((50:Int)<0)=false:=rfl
 refine W.seq (W.seq (W.run (by simp only[am,evOp,simprocAttr,initTm,r1,r2,r3,lenLA_nils,c1,c2,c3,decide_false]<;>rfl) ?_))
 refine W.no (by simp only[am,evOp,simprocAttr]<;>rfl) (W.skip ?_)
 refine W.seq (W.seq (W.run (by simp only[am,evOp,simprocAttr,initTm,r3,lenLA_nils]<;>rfl) ?_))
 refine W.rng (α:=Unit) (N:=0) (fun _ _=>[]) (fun _ _ h'=>h'=h1) () (fun _ _=>rfl) (by omega) (by simp only[hl,am,evOp,simprocAttr,initTm,Int.natCast_zero]) rfl (fun k _ ts h' hk=>absurd hk (Nat.not_lt_zero _)) ?_
 rintro _ ts h2 rfl _
 refine W.seq (W.run (by simp only[am,evOp,simprocAttr]<;>rfl) ?_)
 exact W.ret ⟨_,(by simp only[rs,rf13,am,evOp,simprocAttr]<;>rfl),rfl,x0⟩
end Go.Proofs.YticaalcbgikjjaaGreatDoor
namespace Go.Proofs.YticaalcbgikjjaaGreatDoor
open Go.Am
theorem gBox {h:AH}{n:Nat}{ev:AV}:(h.new (.cells [.int .i64 (n:Nat),ev] 2 false)).get h.next=some (.cells [.int .i64 (n:Nat),ev] 2 false):=by rw[AH.get_new,if_pos rfl]
set_option maxHeartbeats 1000000 in
theorem small10_ok {h:AH}{n:Nat}{ev:AV}{E:List (Int×Int)} (he:SlE h ev E) (hG:GoodP (n:Nat) E):C prg 14 [.agg [.int .i64 (n:Nat),ev]] h fun r h'=>(∃ t,r=.bool t)∧Ext h.next h h':=by
 obtain⟨ec,eo⟩:=he.cells
 obtain⟨m1,m2,m3,m4⟩:=may_of hG.1
 have el:=he.len
 rw[List.length_map] at el
 refine C.func pf14 ?_
 refine W.seq (W.run (by simp only[am,evOp,simprocAttr,initTm]<;>rfl) ?_)
 have x0:Ext h.next h (h.new (.cells [.int .i64 (n:Nat),ev] 2 false)):=Ext.new (Nat.le_refl _)
 have g0:=gBox (h:=h) (n:=n) (ev:=ev)
 have n0:(h.new (.cells [.int .i64 (n:Nat),ev] 2 false)).next=h.next+1:=rfl
 generalize (h.new (.cells [.int .i64 (n:Nat),ev] 2 false))=h1 at *
 have rA:rdCells h1 h.next 0 2=some [.int .i64 (n:Nat),ev]:=by rw[rdCells_of g0]; rfl
 refine W.seq (W.seq (W.cut (fun ts h'=>∃ t,tget ts 20=.bool t∧tget ts 1=.ptr h.next 0∧Ext h1.next h1 h') ?_ ?_))
 ·refine W.reg (G.gcall 1 (by simp only[am,evOp,simprocAttr,initTm,rA]<;>rfl) rfl (by simp only[am,evOp,simprocAttr,initTm,rA]) (by simp only[am,evOp,simprocAttr,initTm,rA]<;>rfl) (rgood_ok (n:=((n:Nat):Int)) (he.ext x0 (Nat.le_refl _)) (by omega)) fun r h2 hq=>?_)
  obtain⟨⟨b,rfl,hb⟩,x2⟩:=hq
  have hbt:b=true:=hb.2 hG
  subst hbt
  have g2:h2.get h.next=some (.cells [.int .i64 (n:Nat),ev] 2 false):=by rw[x2.gt _ (by omega)]; exact g0
  have rN:rdCells h2 h.next 0 1=some [.int .i64 (n:Nat)]:=rd_at g2 rfl
  have rE:rdCells h2 h.next 1 1=some [ev]:=rd_at g2 rfl
  cases c1:decide ((9:Int)<((n:Nat):Int)) with
  | true =>
    refine G.run (by simp only[am,evOp,simprocAttr,initTm,rN,c1]<;>rfl) ?_
    exact⟨_,by simp only[am,evOp,simprocAttr]<;>rfl,by simp only[am,evOp,simprocAttr,initTm],x2⟩
  | false =>
    refine G.run (by simp only[am,evOp,simprocAttr,initTm,rN,c1,rE,el]<;>rfl) ?_
    exact⟨_,by simp only[am,evOp,simprocAttr]<;>rfl,by simp only[am,evOp,simprocAttr,initTm],x2⟩
 rintro ts h3 ⟨t,e20,e1,x2⟩
 have n2:=x2.nx
 have X2:Ext h.next h h3:=x0.trans (x2.mono (by omega))
 have g2:h3.get h.next=some (.cells [.int .i64 (n:Nat),ev] 2 false):=by rw[x2.gt _ (by omega)]; exact g0
 have rN:rdCells h3 h.next 0 1=some [.int .i64 (n:Nat)]:=rd_at g2 rfl
 refine W.cond (t:=t) (by simp only[am,evOp,simprocAttr,e20]) (fun q=>?_) fun q=>?_
 ·refine W.seq (W.run (by simp only[am,evOp,simprocAttr]<;>rfl) ?_)
  exact W.ret ⟨_,(by simp only[rs,rf14,am,evOp,simprocAttr]<;>rfl),⟨_,rfl⟩,X2⟩
 refine W.skip ?_
 refine W.seq (W.run (by simp only[am,evOp,simprocAttr]<;>rfl) ?_)
 refine W.seq (W.seq (W.run (by simp only[am,evOp,simprocAttr]<;>rfl) ?_))
 refine W.whl (α:=Int) (N:=n) (fun k z=>[(1,.ptr h.next 0),(3,.int .i64 z),(4,.int .i64 (k:Nat))]) (fun k _ h'=>Ext h3.next h3 h') 1 (by simp only[hl,am,evOp,simprocAttr,e1,Int.natCast_zero]) Ext.refl ?_ ?_ ?_
 ·rintro k z ts h4 hk j ⟨e1,e3,e4,-⟩
  simp only at e1 e3 e4
  have r4:rdCells h4 h.next 0 1=some [.int .i64 (n:Nat)]:=by rw[rdCells_eq (j.gt _ (by omega))]; exact rN
  exact⟨_,(by simp only[am,evOp,simprocAttr,e1,e4,r4,Int.ofNat_lt]<;>rfl),by simp only[am,evOp,simprocAttr],by simp only[hl,am,evOp,simprocAttr,e1,e3,e4]⟩
 ·rintro k z ts h4 hk j ⟨e1,e3,e4,-⟩
  simp only at e1 e3 e4
  have n4:=j.nx
  have X4:Ext h.next h h4:=X2.trans (j.mono (by omega))
  have r4:rdCells h4 h.next 0 2=some [.int .i64 (n:Nat),ev]:=by rw[rdCells_eq (j.gt _ (by omega)),rdCells_of g2]; rfl
  refine W.seq (W.reg (G.gcall 2 (by simp only[am,evOp,simprocAttr,e1,e4,r4]<;>rfl) rfl (by simp only[am,evOp,simprocAttr,e1,e4,r4]) (by simp only[am,evOp,simprocAttr,e1,e4,r4]<;>rfl) (rends_ok (n:=((n:Nat):Int)) (x:=((k:Nat):Int)) (fr:=true) (he.ext X4 (Nat.le_refl _)) (by omega)) fun r h5 hq=>?_))
  obtain⟨i5,x5⟩:=hq
  have l5:=(IsSl.sl (f:=eI) (e:=1) (by omega) (fun _=>rfl) i5).len
  rw[List.length_map] at l5
  have hd:(endsM E ((k:Nat):Int) true).length≤128:=by
   rw[endsM_eq]
   exact Nat.le_trans (endsAt_len _ _ _) m3
  generalize (endsM E ((k:Nat):Int) true).length=d at *
  refine G.run (by simp only[am,evOp,simprocAttr,l5]<;>rfl) ?_
  have J5:Ext h3.next h3 h5:=j.trans (x5.mono n4)
  refine W.seq (W.run (by simp only[am,evOp,simprocAttr]<;>rfl) ?_)
  refine W.whl (α:=Int) (N:=d-1) (fun i z=>[(1,.ptr h.next 0),(4,.int .i64 (k:Nat)),(3,.int .i64 z),(5,.int .i64 (d:Nat)),(6,.int .i64 ((i+2:Nat):Int))]) (fun _ _ h'=>h'=h5) z (by simp only[hl,am,evOp,simprocAttr,e1,e3,e4]) rfl ?_ ?_ ?_
  ·clear e1 e3 e4
   rintro i z ts h6 hi rfl ⟨e1,e4,e3,e5,e6,-⟩
   simp only at e1 e4 e3 e5 e6
   have c:decide (((i+2:Nat):Int)≤((d:Nat):Int))=decide (i<d-1):=by rw[decide_eq_decide]; omega
   have c':decide (i+2≤d)=decide (i<d-1):=by rw[decide_eq_decide]; omega
   exact⟨_,(by simp only[am,evOp,simprocAttr,e5,e6,c,c']<;>rfl),by simp only[am,evOp,simprocAttr,c,c'],by simp only[hl,am,evOp,simprocAttr,e1,e3,e4,e5,e6]⟩
  ·clear e1 e3 e4
   rintro i z ts h6 hi rfl ⟨e1,e4,e3,e5,e6,-⟩
   simp only at e1 e4 e3 e5 e6
   have w1:IntKind.i64.wrap (((i+2:Nat):Int)+1)=((i+1+2:Nat):Int):=by rw[wr64 (by omega) (by omega)]; omega
   refine W.run (by simp only[am,evOp,simprocAttr,e3,e6]<;>rfl) ?_
   exact⟨IntKind.i64.wrap (z*((i+2:Nat):Int)),rfl,_,(by simp only[am,evOp,simprocAttr,e6,w1]<;>rfl),by simp only[hl,am,evOp,simprocAttr,e1,e4,e5]⟩
  ·clear e1 e3 e4
   rintro z ts h6 rfl ⟨e1,e4,e3,e5,e6,-⟩
   simp only at e1 e4 e3 e5 e6
   have w1:=w1_ok (k:=k) (by omega)
   exact⟨z,J5,_,(by simp only[am,evOp,simprocAttr,e4,w1]<;>rfl),by simp only[hl,am,evOp,simprocAttr,e1,e3]⟩
 ·rintro z ts h4 j ⟨e1,e3,e4,-⟩
  simp only at e1 e3 e4
  refine W.seq (W.run (by simp only[am,evOp,simprocAttr,e3]<;>rfl) ?_)
  exact W.ret ⟨_,(by simp only[rs,rf14,am,evOp,simprocAttr]<;>rfl),⟨_,rfl⟩,X2.trans (j.mono (by have:=X2.nx; omega))⟩
structure Turn (h:AH) (tv:AV) (lu:Nat) (T:List (List Int)):Prop where
 len:lenLA tv=some (.int .i64 (lu:Nat))
 cells:tv.cells=[tv]∧tv.one=true
 sl:lu≤200→SlL h tv T∧T.length=lu
theorem Turn.ext {h h':AH}{tv:AV}{lu:Nat}{T:List (List Int)} (t:Turn h tv lu T) (x:Ext h.next h h'):Turn h' tv lu T:=⟨t.len,t.cells,fun q=>⟨(t.sl q).1.ext x,(t.sl q).2⟩⟩
theorem min3000 (l:Nat):foldA mnA [.int .i64 ((l:Nat):Int),.int .i64 3000]=some (.int .i64 ((min l 3000:Nat):Int)):=by
 have:foldA mnA [.int .i64 ((l:Nat):Int),.int .i64 3000]=some (.int .i64 (if (3000:Int)<((l:Nat):Int) then 3000 else ((l:Nat):Int))):=by simp [foldA,mnA]
 rw[this]
 congr 2
 split<;>omega
set_option maxHeartbeats 2000000 in
theorem great25_ok {h:AH}{tv:AV}{o:Int}{lu:Nat}{T:List (List Int)} (hT:Turn h tv lu T) :
 C prg 12 [.agg (cert26 tv o)] h fun r h'=>(∃ t,r=.bool t∧(t=false→lu≤200∧∀ l∈T,l.length≤2000))∧Ext h.next h h':=by
 obtain⟨tl,⟨tc,to⟩,hs⟩:=hT
 refine C.func pf12 ?_
 unfold cert26
 refine W.seq (W.run (by simp only[am,evOp,simprocAttr,initTm,to]<;>rfl) ?_)
 have x0:Ext h.next h (h.new (.cells [.int .i64 2,.nils,.nils,tv,.int .i64 o,.nils,.nils,.nils,.nils,.nils,.nils,.nils] 12 false)):=Ext.new (Nat.le_refl _)
 have gC:(h.new (.cells [.int .i64 2,.nils,.nils,tv,.int .i64 o,.nils,.nils,.nils,.nils,.nils,.nils,.nils] 12 false)).get h.next=some (.cells [.int .i64 2,.nils,.nils,tv,.int .i64 o,.nils,.nils,.nils,.nils,.nils,.nils,.nils] 12 false):=by rw[AH.get_new,if_pos rfl]
 have n0:(h.new (.cells [.int .i64 2,.nils,.nils,tv,.int .i64 o,.nils,.nils,.nils,.nils,.nils,.nils,.nils] 12 false)).next=h.next+1:=rfl
 generalize (h.new (.cells [.int .i64 2,.nils,.nils,tv,.int .i64 o,.nils,.nils,.nils,.nils,.nils,.nils,.nils] 12 false))=h1 at *
 have rc:∀ {h':AH},h'.get h.next=some (.cells [.int .i64 2,.nils,.nils,tv,.int .i64 o,.nils,.nils,.nils,.nils,.nils,.nils,.nils] 12 false)→rdCells h' h.next 1 1=some [.nils]∧rdCells h' h.next 2 1=some [.nils]∧rdCells h' h.next 3 1=some [tv]∧rdCells h' h.next 5 1=some [.nils]∧rdCells h' h.next 6 1=some [.nils]∧rdCells h' h.next 7 1=some [.nils]∧rdCells h' h.next 8 1=some [.nils]∧rdCells h' h.next 9 1=some [.nils]∧rdCells h' h.next 10 1=some [.nils]∧rdCells h' h.next 11 1=some [.nils]:=fun g=>⟨rd_at g rfl,rd_at g rfl,rd_at g rfl,rd_at g rfl,rd_at g rfl,rd_at g rfl,rd_at g rfl,rd_at g rfl,rd_at g rfl,rd_at g rfl⟩
 obtain⟨r1,r2,r3,r5,r6,r7,r8,r9,r10,r11⟩:=rc gC
 have i0:iadrR 4 1 (.ptr h.next 7) (.int .i64 0)=some (.ptr h.next 7):=rfl
 have i1:iadrR 4 1 (.ptr h.next 7) (.int .i64 1)=some (.ptr h.next 8):=rfl
 have i2:iadrR 4 1 (.ptr h.next 7) (.int .i64 2)=some (.ptr h.next 9):=rfl
 have i3:iadrR 4 1 (.ptr h.next 7) (.int .i64 3)=some (.ptr h.next 10):=rfl
 refine W.seq (W.run (by simp only[am,evOp,simprocAttr,initTm,r1,r7,r8,r9,r10,r11,i0,i1,i2,i3]<;>rfl) ?_)
 change W _ _ _ (h1.new (.cells [.nils,.nils,.nils,.nils,.nils,.nils] 1 false)) _ _ _
 have x2:Ext h1.next h1 (h1.new (.cells [.nils,.nils,.nils,.nils,.nils,.nils] 1 false)):=Ext.new (Nat.le_refl _)
 have g2:(h1.new (.cells [.nils,.nils,.nils,.nils,.nils,.nils] 1 false)).get h1.next=some (.cells [.nils,.nils,.nils,.nils,.nils,.nils] 1 false):=by rw[AH.get_new,if_pos rfl]
 generalize (h1.new (.cells [.nils,.nils,.nils,.nils,.nils,.nils] 1 false))=h2 at *
 have n2:=x2.nx
 have X2:Ext h.next h h2:=x0.trans (x2.mono (by omega))
 have gC2:h2.get h.next=some (.cells [.int .i64 2,.nils,.nils,tv,.int .i64 o,.nils,.nils,.nils,.nils,.nils,.nils,.nils] 12 false):=by rw[x2.gt _ (by omega)]; exact gC
 clear r1 r2 r3 r5 r6 r7 r8 r9 r10 r11
 obtain⟨r1,r2,r3,r5,r6,r7,r8,r9,r10,r11⟩:=rc gC2
 have d0:decide ((200:Int)<0)=false:=rfl
 by_cases q:200<lu
 ·have c1:decide ((200:Int)<((lu:Nat):Int))=true:=decide_eq_true (by omega)
  refine W.seq (W.seq (W.run (by simp only[am,evOp,simprocAttr,initTm,r2,r3,lenLA_nils,d0,decide_false,tl,c1]<;>rfl) ?_))
  refine W.yes (by simp only[am,evOp,simprocAttr]) (W.seq (W.run (by simp only[am,evOp,simprocAttr]<;>rfl) ?_))
  exact W.ret ⟨_,(by simp only[rs,rf12,am,evOp,simprocAttr]<;>rfl),⟨_,rfl,fun e=>by cases e⟩,X2⟩
 have c1:decide ((200:Int)<((lu:Nat):Int))=false:=decide_eq_false (by omega)
 obtain⟨hT,hTl⟩:=hs (by omega)
 refine W.seq (W.seq (W.run (by simp only[am,evOp,simprocAttr,initTm,r2,r3,r5,r6,lenLA_nils,d0,decide_false,tl,c1]<;>rfl) ?_))
 refine W.no (by simp only[am,evOp,simprocAttr]<;>rfl) (W.skip ?_)
 refine W.seq (W.run (by simp only[am,evOp,simprocAttr]<;>rfl) ?_)
 have hT2:=hT.ext X2
 obtain⟨ws,w1,w2,w3⟩:=hT2
 obtain⟨s1,s2⟩:=w1.src
 have hfl:(ws.map fun w=>[w]).flatten=ws:=by
  clear w1 w2 w3 s1 s2
  induction ws with
  | nil=>rfl
  | cons x r ih=>rw[List.map_cons,List.flatten_cons,ih]; rfl
 rw[hfl,List.length_map,w2,hTl] at s1
 have hall:ws.all AV.one=true:=by
  rw[List.all_eq_true]
  intro x hx
  obtain⟨i,hi,rfl⟩:=List.getElem_of_mem hx
  exact (w3 i _ _ (List.getElem?_eq_getElem hi) (List.getElem?_eq_getElem (by omega))).cells.2
 have a1:appA h2 1 24 (.sl h1.next 0 6 6) .nils=some (.sl h1.next 0 6 6,h2):=by simp [appA,srcCells]
 have a2:∃ v h3,appA h2 1 24 (.sl h1.next 0 6 6) tv=some (v,h3)∧Sl h3 1 v ((([.nils,.nils,.nils,.nils,.nils,.nils]:List AV)++ws).map fun w=>[w])∧Ext h1.next h2 h3:=by
  by_cases q0:lu=0
  ·subst q0
   have hws:ws=[]:=List.length_eq_zero_iff.1 (by omega)
   refine⟨.sl h1.next 0 6 6,h2,by rw[hws] at s1; simp [appA,s1],?_,Ext.refl⟩
   rw[hws]
   exact Sl.row g2 rfl (Nat.le_refl _)
  ·have rd6:rdCells h2 h1.next 0 6=some [.nils,.nils,.nils,.nils,.nils,.nils]:=by rw[rdCells_of g2]; rfl
   refine⟨.sl h2.next 0 (6+lu) (6+lu),(h2.put h1.next .dead).new (.cells ([.nils,.nils,.nils,.nils,.nils,.nils]++ws) 1 false),?_,?_,(Ext.put (Nat.le_refl _)).trans (Ext.new (by rw[AH.next_put]; exact n2))⟩
   ·simp only[appA,s1,hall,if_true]
    rw[if_neg q0,if_neg (by omega),if_pos ⟨by unfold tooMany; omega,by unfold tooMany; omega⟩,g2,Nat.mul_one,rd6]
    rfl
   ·refine Sl.row (ro:=false) (by rw[AH.get_new,AH.next_put,if_pos rfl]) ?_ (Nat.le_refl _)
    rw[List.length_append,w2,hTl]
    rfl
 obtain⟨v,h3,a2,sv,x3⟩:=a2
 have lv:=sv.len
 rw[List.length_map,List.length_append,w2,hTl] at lv
 have lv:lenLA v=some (.int .i64 ((6+lu:Nat):Int)):=lv
 obtain⟨vc,vo⟩:=sv.cells
 have X3:Ext h.next h h3:=X2.trans (x3.mono (by omega))
 have n3:=x3.nx
 have gC3:h3.get h.next=some (.cells [.int .i64 2,.nils,.nils,tv,.int .i64 o,.nils,.nils,.nils,.nils,.nils,.nils,.nils] 12 false):=by rw[x3.gt _ (by omega)]; exact gC2
 obtain⟨t1,t2,t3,t5,t6,t7,t8,t9,t10,t11⟩:=rc gC3
 have sameT:tv.same tv=true:=Sl.self w1
 refine W.seq (W.seq (W.run (by simp only[am,evOp,simprocAttr,initTm,r2,r3,a1,a2,lv,sameT]<;>rfl) ?_))
 have wsl:∀ i (hi:i<T.length),∃ w,ws[i]?=some w∧lenLA w=some (.int .i64 (T[i].length:Nat)):=fun i hi=>by
  have hw:i<ws.length:=by omega
  refine⟨ws[i],List.getElem?_eq_getElem hw,?_⟩
  have:=(w3 i _ _ (List.getElem?_eq_getElem hw) (List.getElem?_eq_getElem hi)).len
  rwa [List.length_map] at this
 refine W.rng (α:=Nat) (N:=6+lu) (fun _ z=>[(59,v),(1,.ptr h.next 0),(4,.int .i64 (z:Nat))]) (fun k z h'=>h'=h3∧z≤2000∧∀ l∈T.take (k-6),l.length≤2000) 0 (fun _ _=>rfl) (by omega) (by simp only[hl,am,evOp,simprocAttr,initTm,vc,vo,Int.natCast_zero]) ⟨rfl,by omega,fun l hl=>by simp at hl⟩ ?_ ?_
 ·rintro k z ts h4 hk ⟨rfl,j1,j2⟩ ⟨ei,en,e59,e1,e4,-⟩
  simp only at ei en e59 e1 e4
  have hkl:k<((([.nils,.nils,.nils,.nils,.nils,.nils]:List AV)++ws)).length:=by rw[List.length_append,w2,hTl]; exact hk
  obtain⟨qb,qp,b1,b2,_⟩:=sv.at1 (map_at (f:=fun w:AV=>[w]) hkl)
  have hel:∃ len:Nat,lenLA ((([.nils,.nils,.nils,.nils,.nils,.nils]:List AV)++ws)[k])=some (.int .i64 (len:Nat))∧(len≤2000→∀ l∈T.take (k+1-6),l.length≤2000):=by
   by_cases q6:k<6
   ·refine⟨0,?_,fun _ l hl=>by rw[show k+1-6=0 by omega] at hl; simp at hl⟩
    rw[List.getElem_append_left (show k<([.nils,.nils,.nils,.nils,.nils,.nils]:List AV).length by exact q6)]
    have:k=0∨k=1∨k=2∨k=3∨k=4∨k=5:=by omega
    rcases this with rfl|rfl|rfl|rfl|rfl|rfl<;>rfl
   ·have hi:k-6<T.length:=by omega
    obtain⟨w,e1,e2⟩:=wsl (k-6) hi
    refine⟨T[k-6].length,?_,fun hl l hm=>?_⟩
    ·rw[List.getElem_append_right (show ([.nils,.nils,.nils,.nils,.nils,.nils]:List AV).length≤k by show 6≤k; omega)]
     have:ws[k-([.nils,.nils,.nils,.nils,.nils,.nils]:List AV).length]'(by show k-6<ws.length; omega)=w:=(List.getElem?_eq_some_iff.1 e1).2
     rw[this]
     exact e2
    ·rw[show k+1-6=(k-6)+1 by omega,List.take_succ_eq_append_getElem hi,List.mem_append,List.mem_singleton] at hm
     rcases hm with hm|rfl
     ·exact j2 l hm
     ·exact hl
  obtain⟨len,l1,l2⟩:=hel
  generalize ((([.nils,.nils,.nils,.nils,.nils,.nils]:List AV)++ws)[k])=w at *
  have m3:=min3000 len
  have wz:IntKind.i64.wrap (((z:Nat):Int)+((min len 3000:Nat):Int))=((z+min len 3000:Nat):Int):=by rw[wr64 (by omega) (by omega)]; omega
  refine W.seq (W.run (by simp only[am,evOp,simprocAttr,e59,ei,b1,b2]<;>rfl) ?_)
  refine W.seq (W.run (by simp only[am,evOp,simprocAttr,e4,l1,m3,wz]<;>rfl) ?_)
  by_cases q2:2000<z+min len 3000
  ·have c2:decide ((2000:Int)<((z+min len 3000:Nat):Int))=true:=decide_eq_true (by omega)
   refine W.seq (W.run (by simp only[am,evOp,simprocAttr,c2]<;>rfl) ?_)
   refine W.yes (by simp only[am,evOp,simprocAttr]) (W.seq (W.run (by simp only[am,evOp,simprocAttr]<;>rfl) ?_))
   exact W.ret ⟨_,(by simp only[rs,rf12,am,evOp,simprocAttr]<;>rfl),⟨_,rfl,fun e=>by cases e⟩,X3⟩
  ·have c2:decide ((2000:Int)<((z+min len 3000:Nat):Int))=false:=decide_eq_false (by omega)
   refine W.seq (W.run (by simp only[am,evOp,simprocAttr,c2]<;>rfl) ?_)
   refine W.no (by simp only[am,evOp,simprocAttr]) (W.skip ?_)
   exact⟨z+min len 3000,⟨rfl,by omega,l2 (by omega)⟩,by simp only[hl,am,evOp,simprocAttr,ei,en,e59,e1]⟩
 ·rintro z ts h4 ⟨rfl,j1,j2⟩ ⟨e59,e1,e4,-⟩
  simp only at e1
  refine W.seq (W.seq (W.run (by simp only[am,evOp,simprocAttr,e1,t6,lenLA_nils]<;>rfl) ?_))
  refine W.rng (α:=Unit) (N:=0) (fun _ _=>[]) (fun _ _ h'=>h'=h4) () (fun _ _=>rfl) (by omega) (by simp only[hl,am,evOp,simprocAttr,initTm,Int.natCast_zero]) rfl (fun k _ ts h' hk=>absurd hk (Nat.not_lt_zero _)) ?_
  rintro _ ts h2 rfl _
  refine W.seq (W.run (by simp only[am,evOp,simprocAttr]<;>rfl) ?_)
  refine W.ret ⟨_,(by simp only[rs,rf12,am,evOp,simprocAttr]<;>rfl),⟨_,rfl,fun _=>⟨by omega,fun l hl=>j2 l ?_⟩⟩,X3⟩
  rw[List.take_of_length_le (by omega)]
  exact hl
end Go.Proofs.YticaalcbgikjjaaGreatDoor
