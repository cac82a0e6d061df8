/-
  kura: is it the full graph of five, is it that of two times three. kura: is it that of two times three. kura: edges by their ends, laid.
-/
import Derived.Test.YtldkniahgagocaaGreatKKc
set_option linter.all false
namespace Go.Proofs.YtldkniahgagocaaGreat
open Go.Am
open Go.Kur (Gr Wk)
theorem flt_N (l:List Nat) (p:Int→Bool):(l.map fun n=>((n:Nat):Int)).filter p=(l.filter fun n=>p ((n:Nat):Int)).map fun n=>((n:Nat):Int):=by
 rw[List.filter_map]
 rfl
theorem any_N (l:List Nat) (x:Nat):(l.map fun n=>((n:Nat):Int)).any (((x:Nat):Int)==·)=decide (x∈l):=by
 rw[Bool.eq_iff_iff,decide_eq_true_eq,List.any_eq_true]
 constructor
 ·rintro⟨z,h1,h2⟩
  obtain⟨n,hn,rfl⟩:=List.mem_map.1 h1
  have:=beq_iff_eq.1 h2
  have e:x=n:=by omega
  rw[e]; exact hn
 ·intro h
  exact⟨_,List.mem_map_of_mem h,by simp⟩
theorem beq_N (l m:List Nat):((l.map fun n=>((n:Nat):Int))==(m.map fun n=>((n:Nat):Int)))=(l==m):=by
 rw[Bool.eq_iff_iff,beq_iff_eq,beq_iff_eq]
 constructor
 ·intro h
  have:=congrArg (List.map Int.toNat) h
  rw[List.map_map,List.map_map] at this
  have e:(Int.toNat ∘ fun n:Nat=>((n:Nat):Int))=id:=by funext n; simp
  rw[e,List.map_id,List.map_id] at this
  exact this
 ·rintro rfl; rfl
theorem full11_ok {h:AH}{xb:Nat}{x y:Nat} (hx:rdCells h xb 0 1=some [.int .i64 (x:Nat)]):C prg 23 ([.int .i64 (y:Nat)]++[.ptr xb 0]) h fun r h'=>r=.bool (decide (y=x))∧Ext h.next h h':=by
 refine C.func pf23 ?_
 have c:decide (((y:Nat):Int)=((x:Nat):Int))=decide (y=x):=by rw[decide_eq_decide]; omega
 refine W.seq (W.run (by simp only[am,evOp,simprocAttr,initTm]<;>rfl) ?_)
 refine W.seq (W.run (by simp only[am,evOp,simprocAttr,initTm,hx,c]<;>rfl) ?_)
 exact W.ret ⟨_,(by simp only[rs,rf23,am,evOp,simprocAttr]<;>rfl),rfl,Ext.refl⟩
def all5 (g:Gr) (hs:List Nat) (x:Nat):Bool:=meetsM g x==hs.filter fun y=>!decide (y=x)
set_option maxHeartbeats 1000000 in
theorem full1_ok {g:Gr}{h0 h:AH}{wb db hb pb qb:Nat}{n:Int}{E:List (Int×Int)}{ks hs:List Nat}{hv:AV} (w:Web g h0 wb n E) (hx:Ext h0.next h0 h) (md:MapK h db ks) (hdb:h0.next≤db)
 (rh:rdCells h hb 0 1=some [hv]) (rp:rdCells h pb 0 1=some [.ptr wb 0]) (rq:rdCells h qb 0 1=some [.mp db]) (lh:hb<h.next) (lp:pb<h.next) (lq:qb<h.next) (sh:SlN h hv hs) (hl:hs.length<2 ^ 30) {x:Nat} (ha:Alive g x) (hxb:x<2 ^ 31) :
 C prg 20 ([.int .i64 (x:Nat)]++[.ptr hb 0,.ptr pb 0,.ptr qb 0]) h fun r h'=>r=.bool (!all5 g hs x)∧Kp (fun c=>c=db) h h'∧MapK h' db (addAll ks (marksM g x)):=by
 refine C.func pf20 ?_
 refine W.seq (W.run (by simp only[am,evOp,simprocAttr,initTm]<;>rfl) ?_)
 have x1:Ext h.next h (h.new (.cells [.int .i64 ((x:Nat):Int)] 1 false)):=Ext.new (Nat.le_refl _)
 have g1:(h.new (.cells [.int .i64 ((x:Nat):Int)] 1 false)).get h.next=some (.cells [.int .i64 ((x:Nat):Int)] 1 false):=by rw[AH.get_new,if_pos rfl]
 have n1:(h.new (.cells [.int .i64 ((x:Nat):Int)] 1 false)).next=h.next+1:=rfl
 generalize h.new (.cells [.int .i64 ((x:Nat):Int)] 1 false)=hA at *
 have rd:∀ {h':AH}{b:Nat}{v:AV},Ext h.next h h'→b<h.next→rdCells h b 0 1=some [v]→rdCells h' b 0 1=some [v]:=fun {h' b v} x hb r=>by rw[rdCells_eq (x.gt b hb)]; exact r
 have sA:=Sl.ext sh x1 (Nat.le_refl _)
 have u0:=rd x1 lh rh
 refine W.seq (W.reg (G.gcall 1 (by simp only[am,evOp,simprocAttr,initTm,u0]<;>rfl) rfl (by simp only[am,evOp,simprocAttr,initTm,u0]) (by simp only[am,evOp,simprocAttr,initTm,u0]<;>rfl) (cloneI_ok sA (by rw[List.length_map]; omega)) fun r h2 hq=>?_))
 obtain⟨i2,x2,_⟩:=hq
 have n2:=x2.nx
 have X2:Ext h.next h h2:=x1.trans (x2.mono (by omega))
 have hdel:=delfI_ok (lo:=hA.next) (P:=fun z=>decide (z=((x:Nat):Int))) (f:=23) (caps:=[.ptr h.next 0]) i2 n2 (by rw[List.length_map]; exact hl) fun z hz h' x'=>by
  obtain⟨y,_,rfl⟩:=List.mem_map.1 hz
  refine (full11_ok (x:=x) (y:=y) ?_).mono fun r h'' hq=>⟨?_,hq.2⟩
  ·exact rd_at (by rw[x'.gt _ (by omega),x2.gt _ (by omega)]; exact g1) rfl
  ·rw[hq.1,show decide (((y:Nat):Int)=((x:Nat):Int))=decide (y=x) from by rw[decide_eq_decide]; omega]
 refine G.op ?_
 simp only[am,evOp,simprocAttr,initTm]
 refine G.callq (by simp only[am,evOp,simprocAttr]) (by simp only[am,evOp,simprocAttr]<;>rfl) (hdel) fun r3 h3 hq=>?_
 obtain⟨s3,x3,b3⟩:=hq
 rw[flt_N] at s3
 have n3:=x3.nx
 have X3:Ext h.next h h3:=X2.trans (x3.mono (by omega))
 refine G.run (by simp only[am,evOp,simprocAttr]<;>rfl) ?_
 have hdl:=md.lt
 have md3:MapK h3 db ks:=md.cong (X3.gt _ hdl)
 have X03:Ext h0.next h0 h3:=hx.trans (X3.mono hx.nx)
 have hm:=meets_ok w X03 md3 hdb ha hxb
 have g3:h3.get h.next=some (.cells [.int .i64 ((x:Nat):Int)] 1 false):=by rw[x3.gt _ (by omega),x2.gt _ (by omega)]; exact g1
 have u1:=rd X3 lp rp
 have u2:=rd X3 lq rq
 have u3:rdCells h3 h.next 0 1=some [.int .i64 ((x:Nat):Int)]:=rd_at g3 rfl
 refine W.seq (W.reg (G.gcall 3 (by simp only[am,evOp,simprocAttr,initTm,u1,u2,u3]<;>rfl) rfl (by simp only[am,evOp,simprocAttr,initTm,u1,u2,u3]) (by simp only[am,evOp,simprocAttr,initTm,u1,u2,u3]<;>rfl) (hm) fun r4 h4 hq=>?_))
 obtain⟨i4,k4,m4⟩:=hq
 have n4:=k4.nx
 have s4:SlN h4 r3 (hs.filter fun y=>!decide (((y:Nat):Int)=((x:Nat):Int))):=Sl.kp s3 k4 (by
  cases r3<;>first|trivial|skip
  intro e
  have:=b3 _ _ _ _ rfl
  omega)
 refine G.op ?_
 simp only[am,evOp,simprocAttr]
 have hfl:((hs.filter fun y=>!decide (((y:Nat):Int)=((x:Nat):Int))).map fun n=>((n:Nat):Int)).length<2 ^ 40:=by
  rw[List.length_map]
  have:=List.length_filter_le (fun y=>!decide (((y:Nat):Int)=((x:Nat):Int))) hs
  omega
 have hml:((meetsM g x).map fun n=>((n:Nat):Int)).length<2 ^ 40:=by
  unfold meetsM fins
  rw[List.length_map,(sortN_perm _).length_eq,List.length_map]
  have h2:=w.len.2
  have:(g.ends x).length≤2*g.E.length:=by
   unfold Gr.ends
   generalize g.E=l
   induction l with
   | nil=>exact Nat.le_refl _
   | cons a r ih =>
     rw[List.flatMap_cons,List.length_append,List.length_cons]
     have:(g.at1 x a).length≤2:=by
      unfold Gr.at1
      rw[List.length_append]
      split<;>split<;>simp
     omega
  omega
 refine G.callq (by simp only[am,evOp,simprocAttr]) (by simp only[am,evOp,simprocAttr]<;>rfl) (equalI_ok (nC_sl i4) s4 hml hfl) fun r5 h5 hq=>?_
 obtain⟨rfl,rfl⟩:=hq
 refine G.run (by simp only[am,evOp,simprocAttr]<;>rfl) ?_
 refine W.ret ⟨_,(by simp only[rs,rf20,am,evOp,simprocAttr]<;>rfl),?_,?_,m4⟩
 ·rw[beq_N]
  unfold all5
  congr 3
  refine List.filter_congr fun y _=>?_
  congr 1
  rw[decide_eq_decide]
  omega
 ·exact⟨by omega,fun c hc hn=>(k4.gt c (by omega) hn).trans (X3.gt c hc),fun c hc=>(k4.ty c (by omega)).trans (X3.ty c hc)⟩
def full5 (g:Gr) (hs:List Nat):Bool:=decide (hs.length=5)&&hs.all (all5 g hs)
set_option maxHeartbeats 1000000 in
theorem full_ok {g:Gr}{h0 h:AH}{wb db:Nat}{n:Int}{E:List (Int×Int)}{ks hs:List Nat}{hv:AV} (w:Web g h0 wb n E) (hx:Ext h0.next h0 h) (md:MapK h db ks) (hdb:h0.next≤db) (sh:SlN h hv hs) (hl:hs.length<2 ^ 30) (ha:∀ x∈hs,Alive g x∧x<2 ^ 31) :
 C prg 11 [.ptr wb 0,hv,.mp db] h fun r h'=>r=.bool (full5 g hs)∧Kp (fun c=>c=db) h h'∧∃ ks',MapK h' db ks'∧(full5 g hs=true→ks'=addAll ks (hs.flatMap (marksM g))):=by
 refine C.func pf11 ?_
 obtain⟨hc1,hc2⟩:=sh.cells
 have shl:=sh.len
 rw[List.length_map,List.length_map] at shl
 refine W.seq (W.run (by simp only[am,evOp,simprocAttr,initTm,hc1,hc2]<;>rfl) ?_)
 have e1:Ext h.next h (((h.new (.cells [.ptr wb 0] 1 false)).new (.cells [hv] 1 false)).new (.cells [.mp db] 1 false)):=(Ext.new (Nat.le_refl _)).trans ((Ext.new (by rw[AH.next_new]; omega)).trans (Ext.new (by rw[AH.next_new,AH.next_new]; omega)))
 have g1:∀ c,(((h.new (.cells [.ptr wb 0] 1 false)).new (.cells [hv] 1 false)).new (.cells [.mp db] 1 false)).get c=if c=h.next+2 then some (.cells [.mp db] 1 false) else if c=h.next+1 then some (.cells [hv] 1 false) else if c=h.next then some (.cells [.ptr wb 0] 1 false) else h.get c:=fun c=>by
  rw[AH.get_new,AH.get_new,AH.get_new]
  rfl
 have n1:(((h.new (.cells [.ptr wb 0] 1 false)).new (.cells [hv] 1 false)).new (.cells [.mp db] 1 false)).next=h.next+3:=rfl
 generalize ((h.new (.cells [.ptr wb 0] 1 false)).new (.cells [hv] 1 false)).new (.cells [.mp db] 1 false)=hA at *
 have gp:hA.get h.next=some (.cells [.ptr wb 0] 1 false):=by rw[g1,if_neg (by omega),if_neg (by omega),if_pos rfl]
 have gh:hA.get (h.next+1)=some (.cells [hv] 1 false):=by rw[g1,if_neg (by omega),if_pos rfl]
 have gq:hA.get (h.next+2)=some (.cells [.mp db] 1 false):=by rw[g1,if_pos rfl]
 have rh:rdCells hA (h.next+1) 0 1=some [hv]:=rd_at gh rfl
 have hdl:=md.lt
 have mdA:MapK hA db ks:=md.cong (e1.gt _ hdl)
 have XA:Ext h0.next h0 hA:=hx.trans (e1.mono hx.nx)
 have kA:Kp (fun c=>c=db) h hA:=e1.kp (Nat.le_refl _)
 by_cases h5:hs.length=5
 ·have c1:decide (((hs.length:Nat):Int)=5)=true:=decide_eq_true (by omega)
  have sA:=Sl.ext sh e1 (Nat.le_refl _)
  let P:Int→Bool:=fun z=>!all5 g hs z.toNat
  have hcf:=contfJ_ok (h:=hA) (v:=hv) (xs:=hs.map fun n=>((n:Nat):Int)) (P:=P) (k:=20) (caps:=[.ptr (h.next+1) 0,.ptr h.next 0,.ptr (h.next+2) 0])
   (fun i h'=>Kp (fun c=>c=db) hA h'∧MapK h' db (addAll ks ((hs.take i).flatMap (marksM g)))) (fun _ h'=>Kp (fun c=>c=db) hA h'∧∃ ks',MapK h' db ks') (by rw[List.length_map]; exact shl) (by rw[List.length_map]; omega) ⟨Kp.refl,mdA⟩
   (fun i h' q=>Sl.kp sA q.1 (mdA.off sA)) (fun i hi h' ⟨q1,q2⟩=>by
    have hi':i<hs.length:=by simpa using hi
    have qn:=q1.nx
    obtain⟨a1,a2⟩:=ha hs[i] (List.getElem_mem hi')
    have X':=kp_ext hdb XA q1
    have rd:∀ {b:Nat}{v:AV},b<hA.next→b≠db→rdCells hA b 0 1=some [v]→rdCells h' b 0 1=some [v]:=fun {b v} hb hn r=>by rw[rdCells_eq (q1.gt b hb hn)]; exact r
    have hc:=full1_ok (ks:=addAll ks ((hs.take i).flatMap (marksM g))) w X' q2 hdb (rd (by omega) (by omega) rh) (rd (by omega) (by omega) (rd_at gp rfl)) (rd (by omega) (by omega) (rd_at gq rfl)) (by omega) (by omega) (by omega) (Sl.kp sA q1 (mdA.off sA)) hl a1 a2
    have hz:(hs.map fun n=>((n:Nat):Int))[i]=((hs[i]:Nat):Int):=by simp
    rw[hz]
    refine hc.mono fun r h'' ⟨t1,t2,t3⟩=>⟨by rw[t1]; simp [P],?_⟩
    have k':=q1.trans t2 fun c _ e=>e
    split
    ·exact⟨k',_,t3⟩
    ·refine⟨k',?_⟩
     rw[List.take_succ_eq_append_getElem hi',List.flatMap_append,List.flatMap_cons,List.flatMap_nil,List.append_nil,addAll_app]
     exact t3)
  have hany:(hs.map fun n=>((n:Nat):Int)).any P=!hs.all (all5 g hs):=by
   rw[List.any_map,Bool.eq_iff_iff]
   simp [P,List.any_eq_true,List.all_eq_true]
  refine W.seq (W.reg ?_)
  refine G.gcall 6 (by simp only[am,evOp,simprocAttr,initTm,rh,shl,c1,ev_fu]<;>rfl) rfl (by simp only[am,evOp,simprocAttr,initTm,rh,shl,c1,ev_fu]) (by simp only[am,evOp,simprocAttr,initTm,rh,shl,c1,ev_fu]<;>rfl) (hcf) fun r h2 hq=>?_
  obtain⟨rfl,hq⟩:=hq
  refine G.run (by simp only[am,evOp,simprocAttr,shl,c1]<;>rfl) ?_
  have hf5:full5 g hs=hs.all (all5 g hs):=by unfold full5; rw[decide_eq_true h5]; rfl
  refine W.ret ⟨_,(by simp only[rs,rf11,am,evOp,simprocAttr]<;>rfl),by rw[hany,hf5,Bool.not_not],?_,?_⟩
  ·rcases hq with ⟨_,q,_⟩|⟨_,i,q,_⟩<;>exact kA.trans q fun c _ e=>e
  ·rcases hq with ⟨q0,_,q⟩|⟨q0,i,_,ks',q⟩
   ·refine⟨_,q,fun _=>?_⟩
    rw[List.length_map,List.take_length]
   ·refine⟨ks',q,fun e=>?_⟩
    rw[hany,← hf5,e] at q0
    cases q0
 ·have c1:decide (((hs.length:Nat):Int)=5)=false:=decide_eq_false (by omega)
  refine W.seq (W.reg ?_)
  refine G.nocall 6 (by simp only[am,evOp,simprocAttr,initTm,rh,shl,c1]<;>rfl) rfl (by simp only[am,evOp,simprocAttr]) ?_
  refine G.run (by simp only[am,evOp,simprocAttr,shl,c1]<;>rfl) ?_
  have hf5:full5 g hs=false:=by unfold full5; rw[decide_eq_false h5]; rfl
  exact W.ret ⟨_,(by simp only[rs,rf11,am,evOp,simprocAttr]<;>rfl),by rw[hf5],kA,ks,mdA,fun e=>by rw[hf5] at e; cases e⟩
end Go.Proofs.YtldkniahgagocaaGreat
namespace Go.Proofs.YtldkniahgagocaaGreat
open Go.Am
open Go.Kur (Gr Wk)
theorem ends_len (g:Gr) (x:Nat):(g.ends x).length≤2*g.E.length:=by
 unfold Gr.ends
 generalize g.E=l
 induction l with
 | nil=>exact Nat.le_refl _
 | cons a r ih =>
   rw[List.flatMap_cons,List.length_append,List.length_cons]
   have:(g.at1 x a).length≤2:=by
    unfold Gr.at1
    rw[List.length_append]
    split<;>split<;>simp
   omega
theorem meetsM_len (g:Gr) (x:Nat):(meetsM g x).length≤2*g.E.length:=by
 unfold meetsM fins
 rw[(sortN_perm _).length_eq,List.length_map]
 exact ends_len g x
theorem halves1_ok {h:AH}{tb:Nat}{y:Nat}{tv:AV}{T:List Nat} (ht:rdCells h tb 0 1=some [tv]) (hT:SlN h tv T) (hl:T.length<2 ^ 40):C prg 26 ([.int .i64 (y:Nat)]++[.ptr tb 0]) h fun r h'=>r=.bool (decide (y∈T))∧Ext h.next h h':=by
 refine C.func pf26 ?_
 refine W.seq (W.run (by simp only[am,evOp,simprocAttr,initTm]<;>rfl) ?_)
 refine W.seq (W.reg (G.gcall 2 (by simp only[am,evOp,simprocAttr,initTm,ht]<;>rfl) rfl (by simp only[am,evOp,simprocAttr,initTm,ht]) (by simp only[am,evOp,simprocAttr,initTm,ht]<;>rfl) (contI_ok (y:=((y:Nat):Int)) hT (by rw[List.length_map]; exact hl)) fun r h2 hq=>?_))
 obtain⟨rfl,x2⟩:=hq
 refine G.run (by simp only[am,evOp,simprocAttr]<;>rfl) ?_
 exact W.ret ⟨_,(by simp only[rs,rf26,am,evOp,simprocAttr]<;>rfl),by rw[any_N],x2⟩
def sideM (g:Gr) (hs:List Nat) (T:List Nat):List Nat:=hs.filter fun y=>!decide (y∈T)
def okH (g:Gr) (hs T:List Nat) (x:Nat):Bool:=(meetsM g x==if x∈T then sideM g hs T else T)&&decide ((if x∈T then sideM g hs T else T).length=3)
def full33 (g:Gr) (hs:List Nat):Bool:=decide (hs.length=6)&&hs.all (okH g hs (meetsM g (hs.headD 0)))
set_option maxHeartbeats 2000000 in
theorem halves_ok {g:Gr}{h0 h:AH}{wb db:Nat}{n:Int}{E:List (Int×Int)}{ks hs:List Nat}{hv:AV} (w:Web g h0 wb n E) (hx:Ext h0.next h0 h) (md:MapK h db ks) (hdb:h0.next≤db) (sh:SlN h hv hs) (hsl:hs.length<2 ^ 30) (ha:∀ x∈hs,Alive g x∧x<2 ^ 31) :
 C prg 12 [.ptr wb 0,hv,.mp db] h fun r h'=>r=.bool (full33 g hs)∧Kp (fun c=>c=db) h h'∧∃ ks',MapK h' db ks'∧(full33 g hs=true→ks'=addAll ks (marksM g (hs.headD 0)++hs.flatMap (marksM g))):=by
 refine C.func pf12 ?_
 obtain⟨hc1,hc2⟩:=sh.cells
 have shl:=sh.len
 rw[List.length_map,List.length_map] at shl
 refine W.seq (W.run (by simp only[am,evOp,simprocAttr,initTm]<;>rfl) ?_)
 refine W.seq ?_
 by_cases h6:hs.length=6
 case neg =>
  have c1:decide (((hs.length:Nat):Int)=6)=false:=decide_eq_false (by omega)
  have hf:full33 g hs=false:=by unfold full33; rw[decide_eq_false h6]; rfl
  refine W.seq (W.run (by simp only[am,evOp,simprocAttr,initTm,shl,c1]<;>rfl) ?_)
  refine W.yes (by simp only[am,evOp,simprocAttr]) (W.seq (W.run (by simp only[am,evOp,simprocAttr]<;>rfl) ?_))
  exact W.ret ⟨_,(by simp only[rs,rf12,am,evOp,simprocAttr]<;>rfl),by rw[hf],Kp.refl,ks,md,fun e=>by rw[hf] at e; cases e⟩
 have c1:decide (((hs.length:Nat):Int)=6)=true:=decide_eq_true (by omega)
 refine W.seq (W.run (by simp only[am,evOp,simprocAttr,initTm,shl,c1]<;>rfl) ?_)
 refine W.no (by simp only[am,evOp,simprocAttr]) (W.skip ?_)
 obtain⟨y0,r0,hcons⟩:∃ y0 r0,hs=y0::r0:=by
  cases hs with
  | nil=>simp at h6
  | cons a r=>exact⟨a,r,rfl⟩
 have hd0:hs.headD 0=y0:=by rw[hcons]; rfl
 have y0m:y0∈hs:=by rw[hcons]; exact List.mem_cons_self ..
 obtain⟨a0,a00⟩:=ha y0 y0m
 obtain⟨b1,p1,f1,f2,_⟩:=sh.at1 (i:=0) (y:=.int .i64 ((y0:Nat):Int)) (by rw[hcons]; rfl)
 have f1:iadrL 1 hv (.int .i64 0)=some (.ptr b1 p1):=f1
 have hdl:=md.lt
 have hm0:=meets_ok w hx md hdb a0 a00
 refine W.seq (W.reg (G.gcall 5 (by simp only[am,evOp,simprocAttr,initTm,f1,f2]<;>rfl) rfl (by simp only[am,evOp,simprocAttr,initTm,f1,f2]) (by simp only[am,evOp,simprocAttr,initTm,f1,f2]<;>rfl) (hm0) fun r h1 hq=>?_))
 obtain⟨iT,k1,m1⟩:=hq
 generalize hTd:meetsM g y0=T at *
 have hTl:T.length<2 ^ 32:=by
  rw[← hTd]
  have:=meetsM_len g y0
  have:=w.len.2
  omega
 have n1:=k1.nx
 obtain⟨tc1,tc2⟩:=iT.cells
 obtain⟨h2,w2,x2,g2,n2⟩:=mk_loc (h:=h1) (z:=[.nils]) (cs:=[r]) (e:=1) rfl
 refine G.run (by simp only[am,evOp,simprocAttr,tc1,tc2,w2]<;>rfl) ?_
 have k2:Kp (fun c=>c=db) h h2:=k1.trans (x2.kp (Nat.le_refl _)) fun c _ e=>e
 have m2:MapK h2 db _:=m1.cong (x2.gt _ (by omega))
 have s2:SlN h2 hv hs:=Sl.kp sh k2 (md.off sh)
 have iT2:IsSl h2 1 h.next r (nC T):=iT.ext x2 (Nat.le_refl _)
 refine W.seq (W.reg (G.gcall 1 (by simp only[am,evOp,simprocAttr,initTm]<;>rfl) rfl (by simp only[am,evOp,simprocAttr,initTm]) (by simp only[am,evOp,simprocAttr,initTm]<;>rfl) (cloneI_ok s2 (by rw[List.length_map]; omega)) fun r3 h3 hq=>?_))
 obtain⟨i3,x3,_⟩:=hq
 have n3:=x3.nx
 have hdel:=delfI_ok (lo:=h2.next) (P:=fun z=>decide (z.toNat∈T)) (f:=26) (caps:=[.ptr h1.next 0]) i3 n3 (by rw[List.length_map]; exact hsl) fun z hz h' x'=>by
  obtain⟨y,_,rfl⟩:=List.mem_map.1 hz
  refine (halves1_ok (y:=y) (T:=T) (tb:=h1.next) (tv:=r) ?_ ?_ (by omega)).mono fun r h'' hq=>⟨by rw[hq.1,Int.toNat_natCast],hq.2⟩
  ·exact rd_at (by rw[x'.gt _ (by omega),x3.gt _ (by omega)]; exact g2) rfl
  ·exact nC_sl ((iT2.ext x3 (Nat.le_refl _)).cong fun b m e _=>x'.gt b (by have:=iT2.lt e; omega))
 refine G.op ?_
 simp only[am,evOp,simprocAttr,initTm]
 refine G.callq (by simp only[am,evOp,simprocAttr]) (by simp only[am,evOp,simprocAttr]<;>rfl) (hdel) fun r4 h4 hq=>?_
 obtain⟨s4,x4,b4⟩:=hq
 rw[flt_N] at s4
 have hS:(hs.filter fun n=>!decide (((n:Nat):Int).toNat∈T))=sideM g hs T:=by
  unfold sideM
  refine List.filter_congr fun y _=>by rw[Int.toNat_natCast]
 rw[hS] at s4
 generalize hSd:sideM g hs T=S at *
 have hSl:S.length≤hs.length:=by rw[← hSd]; exact List.length_filter_le _ _
 have n4:=x4.nx
 refine G.run (by simp only[am,evOp,simprocAttr]<;>rfl) ?_
 have k4:Kp (fun c=>c=db) h h4:=⟨by have:=k2.nx; omega,fun c hc hn=>by have:=k2.nx; rw[x4.gt c (by omega),x3.gt c (by omega)]; exact k2.gt c hc hn,fun c hc=>by have:=k2.nx; rw[x4.ty c (by omega),x3.ty c (by omega)]; exact k2.ty c hc⟩
 have m4:MapK h4 db (addAll ks (marksM g y0)):=m2.cong (by rw[x4.gt _ (by omega),x3.gt _ (by omega)])
 have iT4:IsSl h4 1 h.next r (nC T):=(iT2.ext x3 (Nat.le_refl _)).cong fun b m e _=>x4.gt b (by have:=iT2.lt e; omega)
 have gT4:h4.get h1.next=some (.cells [r] 1 false):=by rw[x4.gt _ (by omega),x3.gt _ (by omega)]; exact g2
 have sh4:SlN h4 hv hs:=Sl.kp sh k4 (md.off sh)
 have X4:=kp_ext hdb hx k4
 refine W.seq (W.seq (W.run (by simp only[am,evOp,simprocAttr,initTm,shl]<;>rfl) ?_))
 refine W.rng (α:=Unit) (N:=hs.length) (fun _ _=>[(0,.ptr wb 0),(2,.mp db),(7,.ptr h1.next 0),(8,r4),(25,hv)])
  (fun k _ h'=>Kp (fun c=>c=db) h4 h'∧MapK h' db (addAll ks (marksM g y0++(hs.take k).flatMap (marksM g)))∧∀ x∈hs.take k,okH g hs T x=true) () (fun _ _=>rfl) (by omega) (by simp only[hl,am,evOp,simprocAttr,initTm])
  ⟨Kp.refl,by rw[List.take_zero,List.flatMap_nil,List.append_nil]; exact m4,fun x hx=>by rw[List.take_zero] at hx; cases hx⟩ ?_ ?_
 ·rintro k _ ts h5 hk ⟨j1,j2,j3⟩ ⟨ei,en,e0,e2,e7,e8,e25,-⟩
  simp only at ei en e0 e2 e7 e8 e25
  have n5:=j1.nx
  have X5:=kp_ext hdb X4 j1
  have sh5:SlN h5 hv hs:=Sl.kp sh4 j1 (m4.off sh4)
  obtain⟨b5,p5,q1,q2,_⟩:=sh5.at1 (i:=k) (y:=.int .i64 ((hs[k]:Nat):Int)) (by rw[List.getElem?_map,List.getElem?_map,List.getElem?_eq_getElem hk]; rfl)
  refine W.seq (W.run (by simp only[am,evOp,simprocAttr,ei,e25,q1,q2]<;>rfl) ?_)
  have gT5:h5.get h1.next=some (.cells [r] 1 false):=by rw[j1.gt _ (by omega) (by omega)]; exact gT4
  have rT5:rdCells h5 h1.next 0 1=some [r]:=rd_at gT5 rfl
  have sT4:SlN h4 r T:=nC_sl iT4
  have sT5:SlN h5 r T:=Sl.kp sT4 j1 (m4.off sT4)
  obtain⟨ax,axb⟩:=ha hs[k] (List.getElem_mem hk)
  refine W.seq (W.run (by simp only[am,evOp,simprocAttr,e7,rT5]<;>rfl) ?_)
  obtain⟨rc4,ro4⟩:=s4.cells
  let wv:AV:=if hs[k]∈T then r4 else r
  refine W.seq (W.cut (fun ts' h'=>Ext h5.next h5 h'∧Held [(27,.int .i64 (k:Nat)),(26,.int .i64 (hs.length:Nat)),(0,.ptr wb 0),(2,.mp db),(7,.ptr h1.next 0),(8,r4),(25,hv),(10,.int .i64 ((hs[k]:Nat):Int)),(11,wv)] ts') ?_ ?_)
  ·refine W.seq (W.reg (G.gcall 2 (by simp only[am,evOp,simprocAttr,e7,rT5]<;>rfl) rfl (by simp only[am,evOp,simprocAttr,e7,rT5]) (by simp only[am,evOp,simprocAttr,e7,rT5]<;>rfl) (contI_ok (y:=((hs[k]:Nat):Int)) sT5 (by rw[List.length_map]; omega)) fun rr h6 hq=>?_))
   obtain⟨rfl,x6⟩:=hq
   rw[any_N]
   refine G.run (by simp only[am,evOp,simprocAttr]<;>rfl) ?_
   by_cases hm:hs[k]∈T
   ·have hwv:wv=r4:=if_pos hm
    refine W.yes (by simp only[am,evOp,simprocAttr,decide_eq_true hm]) (W.run (by simp only[am,evOp,simprocAttr,e8]<;>rfl) ?_)
    exact⟨x6,by simp only[hl,am,evOp,simprocAttr,ei,en,e0,e2,e7,e8,e25,hwv]⟩
   ·have hwv:wv=r:=if_neg hm
    refine W.no (by simp only[am,evOp,simprocAttr,decide_eq_false hm]) (W.skip ?_)
    exact⟨x6,by simp only[hl,am,evOp,simprocAttr,ei,en,e0,e2,e7,e8,e25,hwv]⟩
  ·rintro ts6 h6 ⟨x6,f27,f26,f0,f2',f7,f8,f25,f10,f11,-⟩
   simp only at f27 f26 f0 f2' f7 f8 f25 f10 f11
   have k6:Kp (fun c=>c=db) h4 h6:=j1.trans (x6.kp (Nat.le_refl _)) fun c _ e=>e
   have X6:=kp_ext hdb X4 k6
   have m6:MapK h6 db _:=j2.cong (x6.gt _ (by omega))
   have hm6:=meets_ok w X6 m6 hdb ax axb
   refine W.seq (W.reg (G.gcall 3 (by simp only[am,evOp,simprocAttr,f0,f10,f2']<;>rfl) rfl (by simp only[am,evOp,simprocAttr,f0,f10,f2']) (by simp only[am,evOp,simprocAttr,f0,f10,f2']<;>rfl) (hm6) fun rr h7 hq=>?_))
   obtain⟨i7,k7,m7⟩:=hq
   have k47:=k6.trans k7 fun c _ e=>e
   refine G.op ?_
   simp only[am,evOp,simprocAttr,f11]
   have swv:SlN h7 wv (if hs[k]∈T then S else T):=by
    show SlN h7 (if hs[k]∈T then r4 else r) _
    split
    ·exact Sl.kp s4 k47 (m4.off s4)
    ·exact Sl.kp sT4 k47 (m4.off sT4)
   have wlen:=swv.len
   rw[List.length_map,List.length_map] at wlen
   have hwl:(if hs[k]∈T then S else T).length<2 ^ 40:=by split<;>omega
   have hml:=meetsM_len g hs[k]
   have hEl:=w.len.2
   have hok:okH g hs T hs[k]=((meetsM g hs[k]==if hs[k]∈T then S else T)&&decide ((if hs[k]∈T then S else T).length=3)):=by unfold okH; rw[hSd]
   generalize (if hs[k]∈T then S else T)=wl at *
   refine G.callq (by simp only[am,evOp,simprocAttr]) (by simp only[am,evOp,simprocAttr]<;>rfl) (equalI_ok (nC_sl i7) swv (by rw[List.length_map]; omega) (by rw[List.length_map]; exact hwl)) fun rr h8 hq=>?_
   obtain⟨rfl,rfl⟩:=hq
   rw[beq_N]
   cases hb:(meetsM g hs[k]==wl) with
   | false =>
     refine G.run (by simp only[am,evOp,simprocAttr]<;>rfl) ?_
     refine W.yes (by simp only[am,evOp,simprocAttr]) (W.seq (W.run (by simp only[am,evOp,simprocAttr]<;>rfl) ?_))
     have hf:full33 g hs=false:=by
      unfold full33
      rw[hd0,hTd,Bool.and_eq_false_iff]
      right
      rw[List.all_eq_false]
      exact⟨hs[k],List.getElem_mem hk,by rw[hok,hb]; simp⟩
     exact W.ret ⟨_,(by simp only[rs,rf12,am,evOp,simprocAttr]<;>rfl),by rw[hf],k4.trans k47 fun c _ e=>e,_,m7,fun e=>by rw[hf] at e; cases e⟩
   | true =>
     by_cases h3':wl.length=3
     ·have c3:decide (((wl.length:Nat):Int)=3)=true:=decide_eq_true (by omega)
      refine G.run (by simp only[am,evOp,simprocAttr,f11,wlen,c3]<;>rfl) ?_
      refine W.no (by simp only[am,evOp,simprocAttr]) (W.skip ?_)
      refine⟨(),⟨k47,?_,fun x hx=>?_⟩,by simp only[hl,am,evOp,simprocAttr,f27,f26,f0,f2',f7,f8,f25]⟩
      ·rw[List.take_succ_eq_append_getElem hk,List.flatMap_append,List.flatMap_cons,List.flatMap_nil,List.append_nil,← List.append_assoc,addAll_app]
       exact m7
      ·rw[List.take_succ_eq_append_getElem hk] at hx
       rcases List.mem_append.1 hx with hx|hx
       ·exact j3 x hx
       ·rw[List.mem_singleton] at hx
        rw[hx,hok,hb,decide_eq_true h3']
        rfl
     ·have c3:decide (((wl.length:Nat):Int)=3)=false:=decide_eq_false (by omega)
      refine G.run (by simp only[am,evOp,simprocAttr,f11,wlen,c3]<;>rfl) ?_
      refine W.yes (by simp only[am,evOp,simprocAttr]) (W.seq (W.run (by simp only[am,evOp,simprocAttr]<;>rfl) ?_))
      have hf:full33 g hs=false:=by
       unfold full33
       rw[hd0,hTd,Bool.and_eq_false_iff]
       right
       rw[List.all_eq_false]
       exact⟨hs[k],List.getElem_mem hk,by rw[hok,decide_eq_false h3']; simp⟩
      exact W.ret ⟨_,(by simp only[rs,rf12,am,evOp,simprocAttr]<;>rfl),by rw[hf],k4.trans k47 fun c _ e=>e,_,m7,fun e=>by rw[hf] at e; cases e⟩
 ·rintro _ ts h5 ⟨j1,j2,j3⟩ ⟨e0,e2,e7,e8,e25,-⟩
  rw[List.take_length] at j2 j3
  refine W.seq (W.run (by simp only[am,evOp,simprocAttr]<;>rfl) ?_)
  have hf:full33 g hs=true:=by
   unfold full33
   rw[hd0,hTd,decide_eq_true h6,Bool.true_and,List.all_eq_true]
   exact j3
  exact W.ret ⟨_,(by simp only[rs,rf12,am,evOp,simprocAttr]<;>rfl),by rw[hf],k4.trans j1 fun c _ e=>e,_,j2,fun _=>by rw[hd0]⟩
end Go.Proofs.YtldkniahgagocaaGreat
namespace Go.Proofs.YtldkniahgagocaaGreat
open Go.Am
open Go.Kur (Gr Wk)
theorem mn2 {k:IntKind}{x y:Int}:foldA mnA [.int k x,.int k y]=some (.int k (if y<x then y else x)):=by simp [foldA,mnA]
def tlK (E:List (Int×Int)) (i:Nat):Nat:=(E.getD i (0,0)).1.toNat
def hdK (E:List (Int×Int)) (i:Nat):Nat:=(E.getD i (0,0)).2.toNat
def endsK (E:List (Int×Int)) (l:List Nat) (x:Nat):List Nat:=l.flatMap fun i=>(if tlK E i=x then [i] else [])++(if hdK E i=x then [i] else [])
def OkE (n:Int) (E:List (Int×Int)) (i:Int):Prop:=0≤i∧i<(E.length:Nat)∧0≤(E.getD i.toNat (0,0)).1∧0≤(E.getD i.toNat (0,0)).2∧(E.getD i.toNat (0,0)).1<n∧(E.getD i.toNat (0,0)).2<n
def LayP (n:Int) (E:List (Int×Int)) (L:List Int):Prop:=∀ (k:Nat) (hk:k<L.length),OkE n E L[k]∧L[k]∉L.take k
def nL (L:List Int):List Nat:=L.map Int.toNat
theorem LayP.nodup {n:Int}{E:List (Int×Int)}{L:List Int} (h:LayP n E L):(nL L).Nodup∧∀ i∈L,OkE n E i:=by
 have h2:∀ i∈L,OkE n E i:=fun i hi=>by
  obtain⟨k,hk,rfl⟩:=List.getElem_of_mem hi
  exact (h k hk).1
 refine⟨?_,h2⟩
 unfold nL
 rw[List.Nodup,List.pairwise_iff_getElem]
 intro i j hi hj hij e
 rw[List.length_map] at hi hj
 rw[List.getElem_map,List.getElem_map] at e
 have a:=(h i hi).1.1
 have b:=(h j hj).1.1
 have e:L[i]=L[j]:=by omega
 refine (h j hj).2 ?_
 rw[← e,List.mem_take_iff_getElem]
 exact⟨i,by omega,rfl⟩
def grK (E:List (Int×Int)) (L:List Int) (h:(nL L).Nodup):Gr:=⟨tlK E,hdK E,nL L,h⟩
theorem grK_ends {E:List (Int×Int)}{L:List Int}{h:(nL L).Nodup} (x:Nat):(grK E L h).ends x=endsK E (nL L) x:=rfl
theorem endsK_len (E:List (Int×Int)) (l:List Nat) (x:Nat):(endsK E l x).length≤2*l.length:=by
 unfold endsK
 induction l with
 | nil=>exact Nat.le_refl _
 | cons a r ih =>
   rw[List.flatMap_cons,List.length_append,List.length_cons]
   have:((if tlK E a=x then [a] else [])++(if hdK E a=x then [a] else [])).length≤2:=by
    rw[List.length_append]
    split<;>split<;>simp
   omega
theorem upL_len (ml:ML) (x i:Nat):(upL ml x i).length≤ml.length+1:=by
 have:=congrArg List.length (upL_keys ml x i)
 rw[List.length_map] at this
 unfold addK at this
 split at this<;>simp at this<;>omega
set_option maxHeartbeats 4000000 in
theorem lay_ok {h:AH}{n:Int}{ev lv:AV}{E:List (Int×Int)}{L:List Int} (he:SlE h ev E) (hL:SlI h lv L) (hel:E.length<2 ^ 28) (hll:L.length<2 ^ 28) (hn:n<2 ^ 28) :
 C prg 9 [.agg [.int .i64 n,ev],lv] h fun r h'=>Ext h.next h h'∧((∃ (hp:LayP n E L) (wb:Nat),r=.tup [.ptr wb 0,.bool true]∧Web (grK E L hp.nodup.1) h' wb n E)∨(¬ LayP n E L∧r=.tup [.nilp,.bool false])):=by
 obtain⟨ec,eo⟩:=he.cells
 obtain⟨lc,lo'⟩:=hL.cells
 have hEl:=he.len
 have hLl:=hL.len
 rw[List.length_map] at hEl hLl
 refine C.func pf9 ?_
 refine W.seq (W.run (by simp only[am,evOp,simprocAttr,initTm]<;>rfl) ?_)
 have x0:Ext h.next h (h.new (.cells [.int .i64 n,ev] 2 false)):=Ext.new (Nat.le_refl _)
 have g0:(h.new (.cells [.int .i64 n,ev] 2 false)).get h.next=some (.cells [.int .i64 n,ev] 2 false):=by rw[AH.get_new,if_pos rfl]
 have n0:(h.new (.cells [.int .i64 n,ev] 2 false)).next=h.next+1:=rfl
 generalize h.new (.cells [.int .i64 n,ev] 2 false)=h1 at *
 have r0:rdCells h1 h.next 0 2=some [.int .i64 n,ev]:=by rw[rdCells_of g0]; rfl
 refine W.seq (W.run (by simp only[am,evOp,simprocAttr,initTm,r0]<;>rfl) ?_)
 have x1:Ext h1.next h1 ((h1.new (.mapo [] 0)).new (.cells [.int .i64 n,ev,.mp h1.next] 3 false)):=(Ext.new (Nat.le_refl _)).trans (Ext.new (by rw[AH.next_new]; omega))
 have g1:((h1.new (.mapo [] 0)).new (.cells [.int .i64 n,ev,.mp h1.next] 3 false)).get (h1.next+1)=some (.cells [.int .i64 n,ev,.mp h1.next] 3 false):=by rw[AH.get_new,if_pos (by rw[AH.next_new])]
 have g1':((h1.new (.mapo [] 0)).new (.cells [.int .i64 n,ev,.mp h1.next] 3 false)).get h1.next=some (.mapo [] 0):=by rw[AH.get_new,if_neg (by rw[AH.next_new]; omega),AH.get_new,if_pos rfl]
 have n1:((h1.new (.mapo [] 0)).new (.cells [.int .i64 n,ev,.mp h1.next] 3 false)).next=h1.next+2:=rfl
 generalize (h1.new (.mapo [] 0)).new (.cells [.int .i64 n,ev,.mp h1.next] 3 false)=hA at *
 have XA:Ext h.next h hA:=x0.trans (x1.mono (by omega))
 have g0A:hA.get h.next=some (.cells [.int .i64 n,ev] 2 false):=by rw[x1.gt _ (by omega)]; exact g0
 refine W.seq (W.seq (W.run (by simp only[am,evOp,simprocAttr,initTm,hLl]<;>rfl) ?_))
 refine W.rng (α:=ML) (N:=L.length) (fun _ _=>[(1,lv),(2,.ptr h.next 0),(6,.ptr (h1.next+1) 0),(14,lv)])
  (fun k ml h'=>(∀ (j:Nat) (hj:j<L.length),j<k→OkE n E L[j]∧L[j]∉L.take j)∧(∃ es c,h'.get h1.next=some (.mapo es c)∧MapL h' hA.next es c ml)∧(∀ x,lkL ml x=endsK E (nL (L.take k)) x)∧(ml.map (·.1)).Nodup∧(∀ p∈ml,p.2≠[])∧ml.length≤2*k∧Kp (fun c=>c=h1.next) hA h')
  [] (fun _ _=>rfl) (by omega) (by simp only[hl,am,evOp,simprocAttr,initTm]) ⟨fun j hj hk=>absurd hk (Nat.not_lt_zero _),⟨[],0,g1',MapL.nil⟩,fun x=>rfl,List.nodup_nil,(fun p hp=>by cases hp),Nat.zero_le _,Kp.refl⟩ ?_ ?_
 ·rintro k ml ts h2 hk ⟨j1,⟨es,c,j2,j3⟩,j4,j5,j6,j7,j8⟩ ⟨ei,en,e1,e2,e6,e14,-⟩
  simp only at ei en e1 e2 e6 e14
  have n2:=j8.nx
  have X2:Ext h.next h h2:=⟨by omega,fun c hc=>(j8.gt c (by omega) (by omega)).trans (XA.gt c hc),fun c hc=>(j8.ty c (by omega)).trans (XA.ty c hc)⟩
  have he2:=he.ext X2 (Nat.le_refl _)
  have hL2:=hL.ext X2 (Nat.le_refl _)
  obtain⟨b1,p1,a1,a2,_⟩:=hL2.at1 (map_at (f:=eI) hk)
  refine W.seq (W.run (by simp only[am,evOp,simprocAttr,ei,e14,a1,a2]<;>rfl) ?_)
  have g2:h2.get h.next=some (.cells [.int .i64 n,ev] 2 false):=by rw[j8.gt _ (by omega) (by omega)]; exact g0A
  have g2w:h2.get (h1.next+1)=some (.cells [.int .i64 n,ev,.mp h1.next] 3 false):=by rw[j8.gt _ (by omega) (by omega)]; exact g1
  have rv:rdCells h2 h.next 1 1=some [ev]:=rd_at g2 rfl
  have hkm:∀ {z:Int},L[k]=z→∀ {Q:Prop},(¬ Q→¬ (OkE n E z∧z∉L.take k))→LayP n E L→Q:=fun {z} e {Q} hq hp=>Classical.byContradiction fun hc=>hq hc (e▸hp k hk)
  generalize hz:L[k]=z at *
  have hnot:¬ (OkE n E z∧z∉L.take k)→¬ LayP n E L:=fun hb hp=>hb (hz▸hp k hk)
  clear hkm
  have hnk:0≤n∨n<0:=by omega
  refine W.seq ?_
  by_cases q1:z<0
  ·have c1:decide (z<0)=true:=decide_eq_true q1
   refine W.seq (W.reg (G.nocall 14 (by simp only[am,evOp,simprocAttr,c1]<;>rfl) rfl (by simp only[am,evOp,simprocAttr]) ?_))
   refine G.run (by simp only[am,evOp,simprocAttr]<;>rfl) ?_
   refine W.yes (by simp only[am,evOp,simprocAttr]) (W.seq (W.run (by simp only[am,evOp,simprocAttr]<;>rfl) ?_))
   exact W.ret ⟨_,(by simp only[rs,rf9,am,evOp,simprocAttr]<;>rfl),X2,.inr ⟨hnot fun q=>by have:=q.1.1; omega,rfl⟩⟩
  have c1:decide (z<0)=false:=decide_eq_false q1
  obtain⟨i,rfl⟩:=Int.eq_ofNat_of_zero_le (show 0≤z by omega)
  by_cases q2:E.length≤i
  ·have c2:decide (((E.length:Nat):Int)≤((i:Nat):Int))=true:=decide_eq_true (by omega)
   refine W.seq (W.reg (G.nocall 14 (by simp only[am,evOp,simprocAttr,c1,e2,rv,hEl,c2]<;>rfl) rfl (by simp only[am,evOp,simprocAttr]) ?_))
   refine G.run (by simp only[am,evOp,simprocAttr]<;>rfl) ?_
   refine W.yes (by simp only[am,evOp,simprocAttr]) (W.seq (W.run (by simp only[am,evOp,simprocAttr]<;>rfl) ?_))
   exact W.ret ⟨_,(by simp only[rs,rf9,am,evOp,simprocAttr]<;>rfl),X2,.inr ⟨hnot fun q=>by have:=q.1.2.1; omega,rfl⟩⟩
  have c2:decide (((E.length:Nat):Int)≤((i:Nat):Int))=false:=decide_eq_false (by omega)
  have hiE:i<E.length:=by omega
  obtain⟨vt,t1,t2,_⟩:=hL2.upto (hi:=k) (by rw[List.length_map]; omega)
  rw[← List.map_take] at t2
  have hct:=contI_ok (y:=((i:Nat):Int)) t2 (by rw[List.length_take]; omega)
  refine W.seq (W.reg (G.gcall 14 (by simp only[am,evOp,simprocAttr,c1,e2,rv,hEl,c2,e1,slLA_eq,Option.map_none,Option.map_some,t1]<;>rfl) rfl (by simp only[am,evOp,simprocAttr,c1,e2,rv,hEl,c2,e1,slLA_eq,Option.map_none,Option.map_some,t1]) (by simp only[am,evOp,simprocAttr,c1,e2,rv,hEl,c2,e1,slLA_eq,Option.map_none,Option.map_some,t1]<;>rfl) (hct) fun rr h3 hq=>?_))
  obtain⟨rfl,x3⟩:=hq
  have hany:(L.take k).any (((i:Nat):Int)==·)=decide (((i:Nat):Int)∈L.take k):=by
   rw[Bool.eq_iff_iff,decide_eq_true_eq,List.any_eq_true]
   constructor
   ·rintro⟨y,h1,h2⟩
    rw[beq_iff_eq.1 h2]; exact h1
   ·intro h
    exact⟨_,h,by simp⟩
  rw[hany]
  have n3:=x3.nx
  have X3:Ext h.next h h3:=X2.trans (x3.mono (by omega))
  refine G.run (by simp only[am,evOp,simprocAttr]<;>rfl) ?_
  by_cases q3:((i:Nat):Int)∈L.take k
  ·refine W.yes (by simp only[am,evOp,simprocAttr,decide_eq_true q3]) (W.seq (W.run (by simp only[am,evOp,simprocAttr]<;>rfl) ?_))
   exact W.ret ⟨_,(by simp only[rs,rf9,am,evOp,simprocAttr]<;>rfl),X3,.inr ⟨hnot fun q=>q.2 q3,rfl⟩⟩
  refine W.no (by simp only[am,evOp,simprocAttr,decide_eq_false q3]) (W.skip ?_)
  have he3:=he.ext X3 (Nat.le_refl _)
  obtain⟨b3,p3,f1,f2,_⟩:=he3.at (map_at (f:=eE) hiE)
  have hgd:E.getD i (0,0)=E[i]:=by rw[List.getD_eq_getElem?_getD,List.getElem?_eq_getElem hiE]; rfl
  have hok:OkE n E ((i:Nat):Int)↔0≤E[i].1∧0≤E[i].2∧E[i].1<n∧E[i].2<n:=by
   unfold OkE
   rw[Int.toNat_natCast,hgd]
   constructor
   ·rintro⟨_,_,a,b,c,d⟩; exact⟨a,b,c,d⟩
   ·rintro⟨a,b,c,d⟩; exact⟨by omega,by omega,a,b,c,d⟩
  have htl:tlK E i=E[i].1.toNat:=by unfold tlK; rw[hgd]
  have hhd:hdK E i=E[i].2.toNat:=by unfold hdK; rw[hgd]
  generalize E[i]=p at *
  obtain⟨pa,pb⟩:=p
  simp only at hok htl hhd
  have g3:h3.get h.next=some (.cells [.int .i64 n,ev] 2 false):=by rw[x3.gt _ (by omega)]; exact g2
  have rv3:rdCells h3 h.next 1 1=some [ev]:=rd_at g3 rfl
  obtain⟨h4,w4,x4,g4,n4⟩:=mk_loc (h:=h3) (z:=[.int .i64 0,.int .i64 0]) (cs:=[.int .i64 pa,.int .i64 pb]) (e:=2) rfl
  refine W.seq (W.run (by simp only[am,evOp,simprocAttr,e2,rv3,f1,f2,eE,w4]<;>rfl) ?_)
  have X4:Ext h.next h h4:=X3.trans (x4.mono (by omega))
  have s0:rdCells h4 h3.next 0 1=some [.int .i64 pa]:=rd_at g4 rfl
  have s1:rdCells h4 h3.next 1 1=some [.int .i64 pb]:=rd_at g4 rfl
  have g4g:h4.get h.next=some (.cells [.int .i64 n,ev] 2 false):=by rw[x4.gt _ (by omega)]; exact g3
  have rn4:rdCells h4 h.next 0 1=some [.int .i64 n]:=rd_at g4g rfl
  refine W.seq (W.seq ?_)
  by_cases q4:(if pb<pa then pb else pa)<0
  ·have c4:decide ((if pb<pa then pb else pa)<0)=true:=decide_eq_true q4
   refine W.run (by simp only[am,evOp,simprocAttr,s0,s1,mn2,c4]<;>rfl) ?_
   refine W.yes (by simp only[am,evOp,simprocAttr]) (W.seq (W.run (by simp only[am,evOp,simprocAttr]<;>rfl) ?_))
   exact W.ret ⟨_,(by simp only[rs,rf9,am,evOp,simprocAttr]<;>rfl),X4,.inr ⟨hnot fun q=>by have:=hok.1 q.1; split at q4<;>omega,rfl⟩⟩
  have c4:decide ((if pb<pa then pb else pa)<0)=false:=decide_eq_false q4
  by_cases q5:n≤(if pa<pb then pb else pa)
  ·have c5:decide (n≤(if pa<pb then pb else pa))=true:=decide_eq_true q5
   refine W.run (by simp only[am,evOp,simprocAttr,s0,s1,mn2,c4,mx2,e2,rn4,c5]<;>rfl) ?_
   refine W.yes (by simp only[am,evOp,simprocAttr]) (W.seq (W.run (by simp only[am,evOp,simprocAttr]<;>rfl) ?_))
   exact W.ret ⟨_,(by simp only[rs,rf9,am,evOp,simprocAttr]<;>rfl),X4,.inr ⟨hnot fun q=>by have:=hok.1 q.1; split at q5<;>omega,rfl⟩⟩
  have c5:decide (n≤(if pa<pb then pb else pa))=false:=decide_eq_false q5
  refine W.run (by simp only[am,evOp,simprocAttr,s0,s1,mn2,c4,mx2,e2,rn4,c5]<;>rfl) ?_
  refine W.no (by simp only[am,evOp,simprocAttr]) (W.skip ?_)
  have hp4:0≤pa∧0≤pb∧pa<n∧pb<n:=by split at q4<;>split at q5<;>omega
  obtain⟨a,rfl⟩:=Int.eq_ofNat_of_zero_le hp4.1
  obtain⟨b,rfl⟩:=Int.eq_ofNat_of_zero_le hp4.2.1
  have htl:tlK E i=a:=htl
  have hhd:hdK E i=b:=hhd
  have k34:∀ c,c<h2.next→h4.get c=h2.get c:=fun c hc=>by rw[x4.gt _ (by omega),x3.gt _ (by omega)]
  have hsl:∀ (j:Nat) (e:AV×AV×Nat),es[j]?=some e→∀ b n,e.2.1=.sl b 0 n n→b<h2.next:=fun j e e1 b n e3=>by
   have hj:=(List.getElem?_eq_some_iff.1 e1).1
   exact (j3.at_ j e _ e1 (List.getElem?_eq_getElem (by have:=j3.len; omega))).lt e3
  have lkl:∀ x,(lkL ml x).length<2 ^ 29:=fun x=>by
   rw[j4]
   have:=endsK_len E (nL (L.take k)) x
   unfold nL at this
   rw[List.length_map,List.length_take] at this
   unfold nL
   omega
  obtain⟨x7,p7,n7,y7⟩:=keep1_put (h:=h4) (o:=.cells [.int .i64 ((i:Nat):Int)] 1 false)
  have kg:∀ c,c<h4.next→(h4.keep 1).get c=h4.get c:=fun c hc=>by rw[AH.keep_get,if_neg (by omega)]
  have q7:(h4.keep 1).get h4.next=some .resv:=keep1_get
  have m7:MapL ((h4.keep 1).put h4.next (.cells [.int .i64 ((i:Nat):Int)] 1 false)) hA.next es c ml:=j3.cong fun c _ hc=>by rw[y7 _ (by omega),k34 _ hc]
  have gm7:((h4.keep 1).put h4.next (.cells [.int .i64 ((i:Nat):Int)] 1 false)).get h1.next=some (.mapo es c):=by rw[y7 _ (by omega),k34 _ (by omega)]; exact j2
  obtain⟨v,v',h8,h9,es',c',u1,u2,u3,u4,u5,u6,u7,u8,u9,u10,u11⟩:=m7.up gm7 (by omega) (by omega) a i p7 (by omega) (fun j e e1 b n e3=>by have:=hsl j e e1 b n e3; omega) (by have:=lkl a; omega)
  have v1:rdCells (h4.keep 1) (h1.next+1) 2 1=some [.mp h1.next]:=rd_at (by rw[kg _ (by omega),k34 _ (by omega)]; exact g2w) rfl
  have v2:rdCells (h4.keep 1) h3.next 0 1=some [.int .i64 ((a:Nat):Int)]:=by rw[rdCells_eq (kg _ (by omega))]; exact s0
  have v3:mlkA (h4.keep 1) .ki false .nils (.mp h1.next) (.int .i64 ((a:Nat):Int))=some v:=by rw[← u1]; exact mlkA_eq (by rw[kg _ (by omega),y7 _ (by omega)])
  have old7:∀ c,c<h4.next→(∀ (j:Nat) (e:AV×AV×Nat),es[j]?=some e→∀ n,e.2.1≠.sl c 0 n n)→h8.get c=h4.get c∧(c≠h1.next→h9.get c=h4.get c):=fun c hc hcn=>by
   obtain⟨o1,o2⟩:=u9 c (by omega) hcn
   exact⟨by rw[o1,y7 _ hc],fun hm=>by rw[o2 hm,y7 _ hc]⟩
  have nsl:∀ c,c<hA.next∨h2.next≤c→∀ (j:Nat) (e:AV×AV×Nat),es[j]?=some e→∀ n,e.2.1≠.sl c 0 n n:=fun c hc j e e1 n e3=>by
   have h1:=hsl j e e1 c n e3
   have hj:=(List.getElem?_eq_some_iff.1 e1).1
   rcases j3.at_ j e _ e1 (List.getElem?_eq_getElem (by have:=j3.len; omega)) with ⟨q,_⟩|⟨b',m',hb',q,_⟩
   ·rw[q] at e3; cases e3
   ·rw[q] at e3; cases e3; omega
  have w1:rdCells h8 (h1.next+1) 2 1=some [.mp h1.next]:=rd_at (by rw[(old7 _ (by omega) (nsl _ (by omega))).1,k34 _ (by omega)]; exact g2w) rfl
  have w2:rdCells h8 h3.next 0 1=some [.int .i64 ((a:Nat):Int)]:=by rw[rdCells_eq (old7 _ (by omega) (nsl _ (by omega))).1]; exact s0
  refine W.seq (W.runK (by simp only[am,evOp,simprocAttr,e6,v1,v2,v3,evN_some,evNew_mksl q7,u2,w1,w2,u4]<;>rfl) ?_)
  have n9:h9.next=h4.next+2:=by omega
  have G9:h9.get (h1.next+1)=some (.cells [.int .i64 n,ev,.mp h1.next] 3 false):=by rw[(old7 _ (by omega) (nsl _ (by omega))).2 (by omega),k34 _ (by omega)]; exact g2w
  have S1:rdCells h9 h3.next 1 1=some [.int .i64 ((b:Nat):Int)]:=by rw[rdCells_eq ((old7 _ (by omega) (nsl _ (by omega))).2 (by omega))]; exact s1
  obtain⟨X7,P7,N7,Y7⟩:=keep1_put (h:=h9) (o:=.cells [.int .i64 ((i:Nat):Int)] 1 false)
  have kg9:∀ c,c<h9.next→(h9.keep 1).get c=h9.get c:=fun c hc=>by rw[AH.keep_get,if_neg (by omega)]
  have Q7:(h9.keep 1).get h9.next=some .resv:=keep1_get
  have M7:MapL ((h9.keep 1).put h9.next (.cells [.int .i64 ((i:Nat):Int)] 1 false)) hA.next es' c' (upL ml a i):=u6.cong fun c _ hc=>Y7 _ hc
  have GM7:((h9.keep 1).put h9.next (.cells [.int .i64 ((i:Nat):Int)] 1 false)).get h1.next=some (.mapo es' c'):=by rw[Y7 _ (by omega)]; exact u5
  have hsl9:∀ (j:Nat) (e:AV×AV×Nat),es'[j]?=some e→∀ b n,e.2.1=.sl b 0 n n→b<h2.next∨b=h4.next+1:=fun j e e1 b n e3=>by
   rcases u10 j e e1 b n e3 with q|⟨j',e',n',q1,q2⟩
   ·right; omega
   ·left; exact hsl j' e' q1 b n' q2
  obtain⟨V,V',H8,H9,ES,C',U1,U2,U3,U4,U5,U6,U7,U8,U9,U10,U11⟩:=M7.up GM7 (by omega) (by omega) b i P7 (by omega) (fun j e e1 b n e3=>by have:=hsl9 j e e1 b n e3; omega) (by
   rw[lkL_upL]
   have:=lkl b
   split
   ·rw[List.length_append]; simp; omega
   ·omega)
  have V1:rdCells (h9.keep 1) (h1.next+1) 2 1=some [.mp h1.next]:=rd_at (by rw[kg9 _ (by omega)]; exact G9) rfl
  have V2:rdCells (h9.keep 1) h3.next 1 1=some [.int .i64 ((b:Nat):Int)]:=by rw[rdCells_eq (kg9 _ (by omega))]; exact S1
  have V3:mlkA (h9.keep 1) .ki false .nils (.mp h1.next) (.int .i64 ((b:Nat):Int))=some V:=by rw[← U1]; exact mlkA_eq (by rw[kg9 _ (by omega),Y7 _ (by omega)])
  have nsl9:∀ c,c<hA.next∨(h2.next≤c∧c≠h4.next+1)→∀ (j:Nat) (e:AV×AV×Nat),es'[j]?=some e→∀ n,e.2.1≠.sl c 0 n n:=fun c hc j e e1 n e3=>by
   have h1:=hsl9 j e e1 c n e3
   have hj:=(List.getElem?_eq_some_iff.1 e1).1
   rcases u6.at_ j e _ e1 (List.getElem?_eq_getElem (by have:=u6.len; omega)) with ⟨q,_⟩|⟨b',m',hb',q,_⟩
   ·rw[q] at e3; cases e3
   ·rw[q] at e3; cases e3; omega
  have W1:rdCells H8 (h1.next+1) 2 1=some [.mp h1.next]:=rd_at (by rw[(U9 _ (by omega) (nsl9 _ (by omega))).1,Y7 _ (by omega)]; exact G9) rfl
  have W2:rdCells H8 h3.next 1 1=some [.int .i64 ((b:Nat):Int)]:=by rw[rdCells_eq ((U9 _ (by omega) (nsl9 _ (by omega))).1),rdCells_eq (Y7 _ (by omega))]; exact S1
  refine W.runK (by simp only[am,evOp,simprocAttr,e6,V1,V2,V3,evN_some,evNew_mksl Q7,U2,W1,W2,U4]<;>rfl) ?_
  refine⟨upL (upL ml a i) b i,⟨fun j hj hjk=>?_,⟨ES,C',U5,U6⟩,fun x=>?_,?_,upL_ne (upL_ne j6 a i) b i,?_,?_⟩,by simp only[hl,am,evOp,simprocAttr,ei,en,e1,e2,e6,e14]⟩
  ·by_cases hjk':j=k
   ·subst hjk'
    rw[hz]
    exact⟨hok.2 (by omega),q3⟩
   ·exact j1 j hj (by omega)
  ·have hnl:nL (L.take (k+1))=nL (L.take k)++[i]:=by
    unfold nL
    rw[List.take_succ_eq_append_getElem hk,List.map_append,hz]
    rfl
   rw[lkL_upL,lkL_upL,hnl,j4]
   unfold endsK
   rw[List.flatMap_append,List.flatMap_cons,List.flatMap_nil,List.append_nil,htl,hhd]
   by_cases qa:a=x<;>by_cases qb:b=x<;>simp [qa,qb]
  ·rw[upL_keys,upL_keys]
   exact addK_nodup (addK_nodup j5)
  ·have t1:=upL_len (upL ml a i) b i
   have t2:=upL_len ml a i
   omega
  ·refine⟨by omega,fun c hc hn=>?_,fun c hc=>?_⟩
   ·have hcm:c≠h1.next:=hn
    rw[(U9 c (by omega) (nsl9 c (by omega))).2 hcm,Y7 _ (by omega),(old7 c (by omega) (nsl c (by omega))).2 hcm,k34 _ (by omega)]
    exact j8.gt c hc hn
   ·rw[U8.ty c (by omega),X7.ty c (by omega),u8.ty c (by omega),x7.ty c (by omega),x4.ty c (by omega),x3.ty c (by omega)]
    exact j8.ty c hc
 ·rintro ml ts h2 ⟨j1,⟨es,c,j2,j3⟩,j4,j5,j6,j7,j8⟩ ⟨e1,e2,e6,e14,-⟩
  simp only at e6
  have hp:LayP n E L:=fun k hk=>j1 k hk hk
  have n2:=j8.nx
  have X2:Ext h.next h h2:=⟨by omega,fun c hc=>(j8.gt c (by omega) (by omega)).trans (XA.gt c hc),fun c hc=>(j8.ty c (by omega)).trans (XA.ty c hc)⟩
  rw[List.take_length] at j4
  refine W.seq (W.run (by simp only[am,evOp,simprocAttr,e6]<;>rfl) ?_)
  refine W.ret ⟨_,(by simp only[rs,rf9,am,evOp,simprocAttr]<;>rfl),X2,.inl ⟨hp,h1.next+1,rfl,⟨ev,h1.next,by rw[j8.gt _ (by omega) (by omega)]; exact g1,he.ext X2 (Nat.le_refl _),es,c,ml,_,j2,j3,fun x=>by rw[j4,grK_ends],j5,j6,by omega⟩,fun i hi=>?_,by omega,?_⟩⟩
  ·obtain⟨z,hz,rfl⟩:=List.mem_map.1 hi
   obtain⟨o1,o2,o3,o4,o5,o6⟩:=hp.nodup.2 z hz
   have hlt:z.toNat<E.length:=by omega
   have hgd:E.getD z.toNat (0,0)=E[z.toNat]:=by rw[List.getD_eq_getElem?_getD,List.getElem?_eq_getElem hlt]; rfl
   have t1:(grK E L hp.nodup.1).tl z.toNat=E[z.toNat].1.toNat:=by show tlK E z.toNat=_; unfold tlK; rw[hgd]
   have t2:(grK E L hp.nodup.1).hd z.toNat=E[z.toNat].2.toNat:=by show hdK E z.toNat=_; unfold hdK; rw[hgd]
   rw[hgd] at o3 o4 o5 o6
   refine⟨?_,by omega,by omega⟩
   rw[List.getElem?_eq_getElem hlt,t1,t2]
   congr 1
   exact Prod.ext (by simp only[]; omega) (by simp only[]; omega)
  ·show (nL L).length<_
   unfold nL
   rw[List.length_map]
   omega
end Go.Proofs.YtldkniahgagocaaGreat
