/-
  census.Around: numbers multiplied, as long as that isn't too much.
-/
import Derived.Test.YtahepnbflofndaaGreatDoorCAroQ
import Derived.Test.YtahepnbflofndaaGreatDoorCLd
import Derived.Test.YtahepnbflofndaaGreatDoorCAmR
import Derived.Test.YtahepnbflofndaaGreatDoorCLk
set_option linter.all false
namespace Go.Proofs.YtahepnbflofndaaGreatDoor
open Go.Am
open Go.Aro (Most timesF reck numbers from1)
theorem wk1 {k:Nat} (h:k<2 ^ 62):IntKind.i64.wrap (((k:Nat):Int)+1)=((k+1:Nat):Int):=wr64 (by omega) (by omega)
def prC (st:Nat×Bool):AO:=.cells [.int .i64 (st.1:Nat),.bool st.2] 2 false
theorem ptimes_ok {h:AH}{p k:Nat}{w:AV}{st:Nat×Bool} (hw:SlI h w [((k:Nat):Int)]) (hp:h.get p=some (prC st)) (hk:1≤k) (hk2:k<2 ^ 40) (hv:1≤st.1) (hv2:st.1≤Most) (hwp:∀ b o n c,w=.sl b o n c→b≠p) :
 C prg 74 [.ptr p 0,w] h fun r h'=>Upd h h' p (prC (timesF st k))∧1≤(timesF st k).1∧(timesF st k).1≤Most:=by
 obtain⟨v,o⟩:=st
 simp only at hv hv2
 have el:=hw.len
 simp only[List.map_cons,List.map_nil,List.length_cons,List.length_nil] at el
 have hq:IntKind.i64.wrap ((1000000000000000:Int).tdiv ((k:Nat):Int))=((Most / k:Nat):Int):=quo_nat (n:=1000000000000000) (by decide)
 have hk0:((k:Nat):Int)≠0:=by omega
 obtain⟨b1,p1,a1,r1,_⟩:=hw.at1 (i:=0) (y:=.int .i64 ((k:Nat):Int)) rfl
 have r0:rdCells h p 0 1=some [.int .i64 ((v:Nat):Int)]:=rd_at hp rfl
 have r2:rdCells h p 1 1=some [.bool o]:=rd_at hp rfl
 have c1:decide (((k:Nat):Int)=0)=false:=decide_eq_false hk0
 have c2:decide (((v:Nat):Int)=0)=false:=decide_eq_false (by omega)
 have hMost:Most=1000000000000000:=rfl
 refine C.func pf74 ?_
 refine W.seq (W.run (by simp only[am,evOp,simprocAttr,initTm,el]<;>rfl) ?_)
 refine W.rng (α:=Unit) (N:=1) (fun _ _=>[(0,.ptr p 0),(6,w)]) (fun k' _ h'=>(k'=0→h'=h)∧(k'=1→Upd h h' p (prC (timesF (v,o) k))∧1≤(timesF (v,o) k).1∧(timesF (v,o) k).1≤Most)) () (fun _ _=>rfl) (by decide) (by simp only[hl,am,evOp,simprocAttr,initTm,Int.natCast_one]) ⟨fun _=>rfl,fun q=>absurd q (by decide)⟩ ?_ ?_
 ·rintro k' _ ts h' hk' ⟨j1,_⟩ ⟨e8,e7,e0,e6,-⟩
  have:k'=0:=by omega
  subst this
  have:=j1 rfl
  subst this
  simp only[Int.natCast_zero] at e8 e7 e0 e6
  rw[Int.natCast_zero] at a1
  refine W.seq (W.run (by simp only[am,evOp,simprocAttr,e6,e8,a1,r1]<;>rfl) ?_)
  refine W.block (W.seq (W.run (by simp only[am,evOp,simprocAttr,c1]<;>rfl) ?_))
  refine W.no (by simp only[am,evOp,simprocAttr]) (W.seq (W.run (by simp only[am,evOp,simprocAttr,e0,r0,c2]<;>rfl) ?_))
  refine W.no (by simp only[am,evOp,simprocAttr]) ?_
  cases o with
  | true =>
    have et:timesF (v,true) k=(v,true):=rfl
    have w1:=wr_at (v:=.bool true) hp (i:=1) (by simp)
    have u1:=Upd.put (o:=.cells ([.int .i64 ((v:Nat):Int),.bool true].set 1 (.bool true)) 2 false) hp
    refine W.seq (W.run (by simp only[am,evOp,simprocAttr,e0,r2]<;>rfl) ?_)
    refine W.yes (by simp only[am,evOp,simprocAttr]) (W.run (by simp only[am,evOp,simprocAttr,e0,w1]<;>rfl) ?_)
    exact⟨(),⟨fun q=>absurd q (by decide),fun _=>⟨by rw[et]; exact u1,by rw[et]; exact hv,by rw[et]; exact hv2⟩⟩,by simp only[hl,am,evOp,simprocAttr,e8,e7,e0,e6,Int.natCast_zero]⟩
  | false =>
    refine W.seq (W.run (by simp only[am,evOp,simprocAttr,e0,r0,r2,if_neg hk0,hq]<;>rfl) ?_)
    by_cases q:Most / k<v
    ·have c3:decide (((Most / k:Nat):Int)<((v:Nat):Int))=true:=decide_eq_true (by omega)
     have et:timesF (v,false) k=(v,true):=by
      unfold timesF
      have:Nat.blt (Most / k) v=true:=Nat.ble_eq_true_of_le q
      simp only[this,Bool.or_true,cond_true]
     have w1:=wr_at (v:=.bool true) hp (i:=1) (by simp)
     have u1:=Upd.put (o:=.cells ([.int .i64 ((v:Nat):Int),.bool false].set 1 (.bool true)) 2 false) hp
     refine W.yes (by simp only[am,evOp,simprocAttr,c3]) (W.run (by simp only[am,evOp,simprocAttr,e0,w1]<;>rfl) ?_)
     exact⟨(),⟨fun q=>absurd q (by decide),fun _=>⟨by rw[et]; exact u1,by rw[et]; exact hv,by rw[et]; exact hv2⟩⟩,by simp only[hl,am,evOp,simprocAttr,e8,e7,e0,e6,Int.natCast_zero]⟩
    ·have c3:decide (((Most / k:Nat):Int)<((v:Nat):Int))=false:=decide_eq_false (by omega)
     have et:timesF (v,false) k=(v*k,false):=by
      unfold timesF
      have:Nat.blt (Most / k) v=false:=by
       cases hb:Nat.blt (Most / k) v with
       | false=>rfl
       | true=>exact absurd (Nat.le_of_ble_eq_true hb) q
      simp only[this,Bool.or_false,cond_false]
     have hle:v*k≤Most:=(Nat.le_div_iff_mul_le (by omega)).1 (by omega)
     have hpos:1≤v*k:=Nat.mul_pos hv hk
     have wm:IntKind.i64.wrap (((v:Nat):Int)*((k:Nat):Int))=((v*k:Nat):Int):=by rw[← Int.natCast_mul,wr64 (by omega) (by omega)]
     have w1:=wr_at (v:=.int .i64 ((v*k:Nat):Int)) hp (i:=0) (by simp)
     have u1:=Upd.put (o:=.cells ([.int .i64 ((v:Nat):Int),.bool false].set 0 (.int .i64 ((v*k:Nat):Int))) 2 false) hp
     refine W.no (by simp only[am,evOp,simprocAttr,c3]) (W.run (by simp only[am,evOp,simprocAttr,e0,r0,wm,w1]<;>rfl) ?_)
     exact⟨(),⟨fun q=>absurd q (by decide),fun _=>⟨by rw[et]; exact u1,by rw[et]; exact hpos,by rw[et]; exact hle⟩⟩,by simp only[hl,am,evOp,simprocAttr,e8,e7,e0,e6,Int.natCast_zero]⟩
 ·rintro _ ts h' ⟨_,j2⟩ _
  exact⟨.tup [],rfl,j2 rfl⟩
theorem ptold_ok {h:AH}{p:Nat}{st:Nat×Bool} (hp:h.get p=some (prC st)):C prg 35 [.ptr p 0] h fun r h'=>r=(if st.2 then .tup [.int .i64 0,.int .i64 10] else .tup [.int .i64 (st.1:Nat),.int .i64 0])∧h'=h:=by
 obtain⟨v,o⟩:=st
 have r0:rdCells h p 0 1=some [.int .i64 ((v:Nat):Int)]:=rd_at hp rfl
 have r2:rdCells h p 1 1=some [.bool o]:=rd_at hp rfl
 refine C.func pf35 ?_
 refine W.seq (W.run (by simp only[am,evOp,simprocAttr,initTm]<;>rfl) ?_)
 cases o with
 | true =>
   refine W.seq (W.seq (W.run (by simp only[am,evOp,simprocAttr,initTm,r2]<;>rfl) ?_))
   refine W.yes (by simp only[am,evOp,simprocAttr]) (W.seq (W.run (by simp only[am,evOp,simprocAttr]<;>rfl) ?_))
   exact W.ret ⟨.tup [.int .i64 0,.int .i64 10],(by simp only[rs,rf35,am,evOp,simprocAttr]<;>rfl),rfl,rfl⟩
 | false =>
   refine W.seq (W.seq (W.run (by simp only[am,evOp,simprocAttr,initTm,r2]<;>rfl) ?_))
   refine W.no (by simp only[am,evOp,simprocAttr]) (W.skip ?_)
   refine W.seq (W.run (by simp only[am,evOp,simprocAttr,initTm,r0]<;>rfl) ?_)
   exact W.ret ⟨.tup [.int .i64 ((v:Nat):Int),.int .i64 0],(by simp only[rs,rf35,am,evOp,simprocAttr]<;>rfl),rfl,rfl⟩
end Go.Proofs.YtahepnbflofndaaGreatDoor
