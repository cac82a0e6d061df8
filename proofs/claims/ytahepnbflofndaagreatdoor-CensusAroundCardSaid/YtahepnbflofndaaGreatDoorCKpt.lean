/-
  arborref15.kept: the edges of each block in their order.
-/
import Derived.Test.YtahepnbflofndaaGreatDoorCTrn
set_option linter.all false
namespace Go.Proofs.YtahepnbflofndaaGreatDoor
open Go.Am
open Go.Aro (nth drops dropsF keptM)
def cntD (l:List Nat) (j:Nat):Nat:=(List.range j).countP fun i=>decide (nth l ((i+1) % l.length)<nth l i)
theorem countP_shift (p:Nat→Bool) (n:Nat):(List.range (n+1)).countP p=(if p 0 then 1 else 0)+(List.range n).countP fun i=>p (i+1):=by
 rw[List.range_succ_eq_map,List.countP_cons,List.countP_map]
 have:(p ∘ Nat.succ)=fun i=>p (i+1):=rfl
 rw[this]
 omega
theorem dropsF_eq (first:Nat):∀ (r:List Nat) (prev:Nat),dropsF first prev r=((List.range r.length).countP fun i=>decide (nth (prev::r) (i+1)<nth (prev::r) i))+if first<nth (prev::r) r.length then 1 else 0
 | [],prev=>by
   show (bif Nat.blt first prev then 1 else 0)=0+if first<prev then 1 else 0
   by_cases q:first<prev
   ·have:Nat.blt first prev=true:=Nat.ble_eq_true_of_le q
    rw[this,if_pos q]; rfl
   ·have:Nat.blt first prev=false:=by
     cases hb:Nat.blt first prev with
     | false=>rfl
     | true=>exact absurd (Nat.le_of_ble_eq_true hb) q
    rw[this,if_neg q]; rfl
 | b::r,prev=>by
   rw[List.length_cons,countP_shift]
   have ih:=dropsF_eq first r b
   show (bif Nat.blt b prev then 1 else 0)+dropsF first b r=_
   rw[ih]
   have e1:(bif Nat.blt b prev then 1 else 0)=if (decide (nth (prev::b::r) (0+1)<nth (prev::b::r) 0))=true then 1 else 0:=by
    show _=if decide (b<prev)=true then 1 else 0
    by_cases q:b<prev
    ·have:Nat.blt b prev=true:=Nat.ble_eq_true_of_le q
     rw[this,decide_eq_true q]; rfl
    ·have:Nat.blt b prev=false:=by
      cases hb:Nat.blt b prev with
      | false=>rfl
      | true=>exact absurd (Nat.le_of_ble_eq_true hb) q
     rw[this,decide_eq_false q]; rfl
   rw[e1]
   show _+(_+(if first<nth (b::r) r.length then 1 else 0))=_+_+(if first<nth (b::r) r.length then 1 else 0)
   rw[Nat.add_assoc]
   rfl
theorem cntD_len (l:List Nat):cntD l l.length=drops l:=by
 cases l with
 | nil=>rfl
 | cons a r =>
   show _=dropsF a a r
   rw[dropsF_eq]
   unfold cntD
   rw[List.length_cons,List.range_succ,List.countP_append]
   congr 1
   ·refine List.countP_congr fun i hi=>?_
    have:=List.mem_range.1 hi
    rw[Nat.mod_eq_of_lt (by omega)]
   ·rw[List.countP_cons,List.countP_nil,Nat.mod_self,Nat.zero_add]
    simp only[decide_eq_true_eq]
    rfl
theorem cntD_succ (l:List Nat) (j:Nat):cntD l (j+1)=cntD l j+if nth l ((j+1) % l.length)<nth l j then 1 else 0:=by
 unfold cntD
 rw[List.range_succ,List.countP_append]
 simp [List.countP_cons]
def mineK (bk o:List Nat) (k:Nat):List Nat:=o.filter fun x=>Nat.beq (nth bk x) k
theorem mine_step {bk o:List Nat}{k i:Nat} (hi:i<o.length):mineK bk (o.take (i+1)) k=mineK bk (o.take i) k++if nth bk (nth o i)=k then [nth o i] else []:=by
 unfold mineK
 have hst:o.take (i+1)=o.take i++[nth o i]:=by rw[List.take_add_one,nth_get o i hi]; rfl
 rw[hst,List.filter_append]
 congr 1
 by_cases q:nth bk (nth o i)=k
 ·rw[if_pos q,List.filter_cons_of_pos (by rw[Nat.beq_eq]; exact q)]; rfl
 ·rw[if_neg q,List.filter_cons_of_neg (by rw[Nat.beq_eq]; exact q)]; rfl
theorem mine_len {bk o:List Nat}{k i:Nat}:(mineK bk (o.take i) k).length≤o.length:=Nat.le_trans (List.length_filter_le ..) (by rw[List.length_take]; omega)
def nC (l:List Nat):List AV:=(l.map fun n=>((n:Nat):Int)).flatMap eI
theorem nC_len (l:List Nat):(nC l).length=l.length:=by
 unfold nC
 rw[flat_len (f:=eI) (e:=1) (fun _=>rfl),List.length_map]; omega
theorem nC_app (a b:List Nat):nC (a++b)=nC a++nC b:=by
 unfold nC
 rw[List.map_append,List.flatMap_append]
theorem nC_sl {h:AH}{lo:Nat}{v:AV}{l:List Nat} (hv:IsSl h 1 lo v (nC l)):SlN h v l:=IsSl.sl (by omega) (fun _=>rfl) hv
set_option maxHeartbeats 1000000 in
theorem kept_ok {h:AH}{v w:AV}{o bk:List Nat}{m:Nat} (hv:SlN h v o) (hw:SlN h w bk) (hol:o.length<2 ^ 30) (hin:∀ i∈o,i<bk.length) (hm:m<2 ^ 40):C prg 37 [v,w,.int .i64 (m:Nat)] h fun r h'=>r=.bool (keptM bk o m)∧Ext h.next h h':=by
 have el:=Sl.len hv
 rw[List.length_map,List.length_map] at el
 refine C.func pf37 ?_
 refine W.seq (W.run (by simp only[am,evOp,simprocAttr,initTm]<;>rfl) ?_)
 refine W.seq (W.seq (W.run (by simp only[am,evOp,simprocAttr]<;>rfl) ?_))
 refine W.whl (α:=Unit) (N:=m) (fun k _=>[(0,v),(1,w),(2,.int .i64 (m:Nat)),(7,.int .i64 (k:Nat))]) (fun k _ h'=>keptM bk o k=true∧Ext h.next h h') () (by simp only[hl,am,evOp,simprocAttr,initTm,Int.natCast_zero]) ⟨rfl,Ext.refl⟩ ?_ ?_ ?_
 ·rintro k _ ts h1 hk _ ⟨e0,e1,e2,e7,-⟩
  simp only at e0 e1 e2 e7
  exact⟨_,(by simp only[am,evOp,simprocAttr,e2,e7,Int.ofNat_lt]<;>rfl),by simp only[am,evOp,simprocAttr],by simp only[hl,am,evOp,simprocAttr,e0,e1,e2,e7]⟩
 ·rintro k _ ts h1 hk ⟨j1,jx⟩ ⟨e0,e1,e2,e7,-⟩
  simp only at e0 e1 e2 e7
  have wk:=wr64 (z:=((k:Nat):Int)+1) (by omega) (by omega)
  have n1:=jx.nx
  refine W.seq (W.run (by simp only[am,evOp,simprocAttr]<;>rfl) ?_)
  have x2:Ext h1.next h1 (h1.new (.cells [] 1 false)):=Ext.new (Nat.le_refl _)
  have g2:(h1.new (.cells [] 1 false)).get h1.next=some (.cells [] 1 false):=by rw[AH.get_new,if_pos rfl]
  have n2:(h1.new (.cells [] 1 false)).next=h1.next+1:=rfl
  generalize (h1.new (.cells [] 1 false))=h2 at *
  refine W.seq (W.seq (W.run (by simp only[am,evOp,simprocAttr]<;>rfl) ?_))
  refine W.whl (α:=AV) (N:=o.length) (fun i a=>[(0,v),(1,w),(2,.int .i64 (m:Nat)),(7,.int .i64 (k:Nat)),(8,a),(9,.int .i64 (i:Nat))]) (fun i a h'=>IsSl h' 1 h1.next a (nC (mineK bk (o.take i) k))∧Ext h1.next h1 h') (.sl h1.next 0 0 0) (by simp only[hl,am,evOp,simprocAttr,e0,e1,e2,e7,Int.natCast_zero])
   ⟨.inr ⟨h1.next,0,Nat.le_refl _,rfl,g2,rfl⟩,x2⟩ ?_ ?_ ?_
  ·clear e0 e1 e2 e7
   rintro i a ts h3 hi _ ⟨e0,e1,e2,e7,e8,e9,-⟩
   simp only at e0 e1 e2 e7 e8 e9
   exact⟨_,(by simp only[am,evOp,simprocAttr,e0,e9,el,Int.ofNat_lt]<;>rfl),by simp only[am,evOp,simprocAttr],by simp only[hl,am,evOp,simprocAttr,e0,e1,e2,e7,e8,e9]⟩
  ·clear e0 e1 e2 e7
   rintro i a ts h3 hi ⟨k1,kx⟩ ⟨e0,e1,e2,e7,e8,e9,-⟩
   simp only at e0 e1 e2 e7 e8 e9
   have n3:=kx.nx
   have X3:=jx.trans (kx.mono n1)
   have hv3:SlN h3 v o:=hv.ext X3 (Nat.le_refl _)
   have hw3:SlN h3 w bk:=hw.ext X3 (Nat.le_refl _)
   obtain⟨b1,p1,a1,r1⟩:=hv3.at hi
   obtain⟨b2,p2,a2,r2⟩:=hw3.at (hin _ (nth_mem o i hi))
   have wi:=wr64 (z:=((i:Nat):Int)+1) (by omega) (by omega)
   have hst:=mine_step (bk:=bk) (k:=k) hi
   have hml:=mine_len (bk:=bk) (o:=o) (k:=k) (i:=i)
   have ei:((i:Nat):Int)+1=((i+1:Nat):Int):=rfl
   refine W.seq (W.run (by simp only[am,evOp,simprocAttr,e0,e1,e7,e9,a1,r1,a2,r2]<;>rfl) ?_)
   refine W.cond (t:=decide (nth bk (nth o i)=k)) (by simp only[am,evOp,simprocAttr]; exact congrArg AV.bool (by simp only[decide_eq_decide]; omega)) (fun q=>?_) fun q=>?_
   ·have q:nth bk (nth o i)=k:=of_decide_eq_true q
    rw[if_pos q] at hst
    obtain⟨s',h4,a4,i4,x4,n4⟩:=k1.push (bytes:=8) [.int .i64 (nth o i:Nat)] (by omega) (by omega) rfl rfl (by rw[nC_len,Nat.div_one]; unfold tooMany; omega) (by rw[nC_len,Nat.div_one]; unfold tooMany; omega)
    refine W.run (by simp only[am,evOp,simprocAttr,e0,e8,e9,a1,r1,a4]<;>rfl) ?_
    refine⟨s',⟨?_,kx.trans x4⟩,_,(by simp only[am,evOp,simprocAttr,e9,wi]<;>rfl),by simp only[hl,am,evOp,simprocAttr,e0,e1,e2,e7,ei]⟩
    rw[hst,nC_app]
    exact i4
   ·have q:¬ nth bk (nth o i)=k:=of_decide_eq_false q
    rw[if_neg q,List.append_nil] at hst
    exact W.skip ⟨a,⟨by rw[hst]; exact k1,kx⟩,_,(by simp only[am,evOp,simprocAttr,e9,wi]<;>rfl),by simp only[hl,am,evOp,simprocAttr,e0,e1,e2,e7,e8,ei]⟩
  clear e0 e1 e2 e7
  rintro a ts h3 ⟨k1,kx⟩ ⟨e0,e1,e2,e7,e8,e9,-⟩
  simp only at e0 e1 e2 e7 e8
  rw[List.take_length] at k1
  have X3:=jx.trans (kx.mono n1)
  have sa:=nC_sl k1
  have hml:=mine_len (bk:=bk) (o:=o) (k:=k) (i:=o.length)
  rw[List.take_length] at hml
  generalize hmi:mineK bk o k=l at *
  have la:=Sl.len sa
  rw[List.length_map,List.length_map] at la
  refine W.seq (W.run (by simp only[am,evOp,simprocAttr]<;>rfl) ?_)
  refine W.seq (W.seq (W.run (by simp only[am,evOp,simprocAttr]<;>rfl) ?_))
  have hcl:∀ j,cntD l j≤j:=fun j=>Nat.le_trans List.countP_le_length (by simp)
  refine W.whl (α:=Unit) (N:=l.length) (fun i _=>[(0,v),(1,w),(2,.int .i64 (m:Nat)),(7,.int .i64 (k:Nat)),(8,a),(11,.int .i64 (i:Nat)),(10,.int .i64 (cntD l i:Nat))]) (fun i _ h'=>h'=h3) () (by simp only[held_cons,held_nil,am,evOp,simprocAttr,e0,e1,e2,e7,e8,Int.natCast_zero]; trivial) rfl ?_ ?_ ?_
  ·clear e0 e1 e2 e7 e8
   rintro i _ ts h4 hi rfl ⟨e0,e1,e2,e7,e8,e11,e10,-⟩
   simp only at e0 e1 e2 e7 e8 e11 e10
   exact⟨_,(by simp only[am,evOp,simprocAttr,e8,e11,la,Int.ofNat_lt]<;>rfl),by simp only[am,evOp,simprocAttr],by simp only[held_cons,held_nil,am,evOp,simprocAttr,e0,e1,e2,e7,e8,e11,e10]⟩
  ·clear e0 e1 e2 e7 e8
   rintro i _ ts h4 hi rfl ⟨e0,e1,e2,e7,e8,e11,e10,-⟩
   simp only at e0 e1 e2 e7 e8 e11 e10
   have hmod:(i+1) % l.length<l.length:=Nat.mod_lt _ (by omega)
   obtain⟨b1,p1,a1,r1⟩:=sa.at hmod
   obtain⟨b2,p2,a2,r2⟩:=sa.at hi
   have wi:IntKind.i64.wrap (((i:Nat):Int)+1)=((i+1:Nat):Int):=wr64 (by omega) (by omega)
   have hr:(((i+1:Nat):Int)).tmod ((l.length:Nat):Int)=(((i+1) % l.length:Nat):Int):=by rw[Int.tmod_eq_emod_of_nonneg (by omega)]; rfl
   have hne:((l.length:Nat):Int)≠0:=by omega
   have hc:=hcl i
   have hs:=cntD_succ l i
   refine W.seq (W.run (by simp only[am,evOp,simprocAttr,e8,e11,la,wi,if_neg hne,hr,a1,r1,a2,r2]<;>rfl) ?_)
   refine W.cond (t:=decide (nth l ((i+1) % l.length)<nth l i)) (by simp only[am,evOp,simprocAttr,Int.ofNat_lt]) (fun q=>?_) fun q=>?_
   ·have q:nth l ((i+1) % l.length)<nth l i:=of_decide_eq_true q
    rw[if_pos q] at hs
    have wc:IntKind.i64.wrap (((cntD l i:Nat):Int)+1)=((cntD l (i+1):Nat):Int):=by rw[hs]; exact wr64 (by omega) (by omega)
    refine W.run (by simp only[am,evOp,simprocAttr,e10,wc]<;>rfl) ?_
    exact⟨(),rfl,_,(by simp only[am,evOp,simprocAttr,e11,wi]<;>rfl),by simp only[held_cons,held_nil,am,evOp,simprocAttr,e0,e1,e2,e7,e8]⟩
   ·have q:¬ nth l ((i+1) % l.length)<nth l i:=of_decide_eq_false q
    rw[if_neg q,Nat.add_zero] at hs
    exact W.skip ⟨(),rfl,_,(by simp only[am,evOp,simprocAttr,e11,wi]<;>rfl),by simp only[held_cons,held_nil,am,evOp,simprocAttr,e0,e1,e2,e7,e8,e10,hs]⟩
  clear e0 e1 e2 e7 e8
  rintro _ ts h4 rfl ⟨e0,e1,e2,e7,e8,e11,e10,-⟩
  simp only at e0 e1 e2 e7 e10
  rw[cntD_len] at e10
  have hk1:keptM bk o (k+1)=(keptM bk o k&&Nat.ble (drops l) 1):=by rw[← hmi]; rfl
  have ek:((k:Nat):Int)+1=((k+1:Nat):Int):=rfl
  refine W.seq (W.run (by simp only[am,evOp,simprocAttr,e10]<;>rfl) ?_)
  refine W.cond (t:=decide (1<drops l)) (by simp only[am,evOp,simprocAttr]; exact congrArg AV.bool (by simp only[decide_eq_decide]; omega)) (fun q=>?_) fun q=>?_
  ·have q:1<drops l:=of_decide_eq_true q
   refine W.seq (W.run (by simp only[am,evOp,simprocAttr]<;>rfl) ?_)
   refine W.ret ⟨.bool false,(by simp only[rs,rf37,am,evOp,simprocAttr]<;>rfl),?_,X3⟩
   have hb:Nat.ble (drops l) 1=false:=by
    cases hb:Nat.ble (drops l) 1 with
    | false=>rfl
    | true=>have:=Nat.le_of_ble_eq_true hb; omega
   have hle:∀ d,keptM bk o (k+1+d)=false:=by
    intro d
    induction d with
    | zero=>rw[Nat.add_zero,hk1,hb,Bool.and_false]
    | succ d ih =>
      show (keptM bk o (k+1+d)&&_)=false
      rw[ih]; rfl
   have:=hle (m-(k+1))
   rw[show k+1+(m-(k+1))=m by omega] at this
   rw[this]
  ·have q:¬ 1<drops l:=of_decide_eq_false q
   refine W.skip ⟨(),⟨?_,X3⟩,_,(by simp only[am,evOp,simprocAttr,e7,wk]<;>rfl),by simp only[hl,am,evOp,simprocAttr,e0,e1,e2,ek]⟩
   rw[hk1,j1,Bool.true_and]
   exact Nat.ble_eq_true_of_le (by omega)
 ·rintro _ ts h1 ⟨j1,jx⟩ _
  refine W.seq (W.run (by simp only[am,evOp,simprocAttr]<;>rfl) ?_)
  exact W.ret ⟨.bool true,(by simp only[rs,rf37,am,evOp,simprocAttr]<;>rfl),by rw[j1],jx⟩
end Go.Proofs.YtahepnbflofndaaGreatDoor
