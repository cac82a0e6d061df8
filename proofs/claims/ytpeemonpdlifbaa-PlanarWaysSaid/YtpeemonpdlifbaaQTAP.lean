/-
  block.Blocks. planar: a way through what isn't laid, the search in breadth.
-/
import Derived.Test.YtpeemonpdlifbaaQTAO
import Derived.Test.YtpeemonpdlifbaaQTAE
import Derived.Test.YtpeemonpdlifbaaQTAK
set_option linter.all false
namespace Go.Proofs.Ytpeemonpdlifbaa
open Go.Am
open Go.Blk (Gr DS Lst canon Btw visit pot unm from1)
theorem blocks1_ok {h:AH}{x:Int×Int}:C prg 31 [.agg (eE x)] h fun r h'=>r=.bool (decide (x.1=x.2))∧Ext h.next h h':=by
 refine C.func pf31 ?_
 refine W.seq (W.run (by simp only[am,evOp,simprocAttr,initTm,eE]<;>rfl) ?_)
 have ex:Ext h.next h (h.new (.cells [.int .i64 x.1,.int .i64 x.2] 2 false)):=Ext.new (Nat.le_refl _)
 have g:(h.new (.cells [.int .i64 x.1,.int .i64 x.2] 2 false)).get h.next=some (.cells [.int .i64 x.1,.int .i64 x.2] 2 false):=by rw[AH.get_new,if_pos rfl]
 generalize h.new (.cells [.int .i64 x.1,.int .i64 x.2] 2 false)=h1 at *
 have r1:rdCells h1 h.next 0 1=some [.int .i64 x.1]:=by rw[rdCells_of g]; rfl
 have r2:rdCells h1 h.next 1 1=some [.int .i64 x.2]:=by rw[rdCells_of g]; rfl
 refine W.seq (W.run (by simp only[am,evOp,simprocAttr,r1,r2]<;>rfl) ?_)
 exact W.ret ⟨_,(by simp only[rs,rf31,am,evOp,simprocAttr]<;>rfl),rfl,ex⟩
theorem cins_nil {h:AH}{w v:AV}:C prg 65 [w,.int .i64 0,.int .i64 0,v] h fun _ h'=>h'=h:=by
 refine C.func pf65 ?_
 have w1:IntKind.i64.wrap 1=1:=by decide
 refine W.seq (W.runs (fun ts h1=>h1=h∧tget ts 2=.int .i64 0∧tget ts 8=.int .i64 1) (by simp only[am,evOp,simprocAttr,initTm,Int.zero_add,w1]) ?_)
 rintro ts h0 ⟨rfl,e2,e8⟩
 refine W.block (W.loop (fun n ts h1=>h1=h0∧tget ts 2=.int .i64 0∧tget ts 8=.int .i64 1) ?_ (n:=0) ⟨rfl,e2,e8⟩)
 clear e2 e8
 rintro n ts h1 ⟨rfl,e2,e6⟩
 refine W.seq (W.seq (W.run (by simp only[am,evOp,simprocAttr,e2,e6]<;>rfl) ?_))
 refine W.no (by simp only[am,evOp,simprocAttr]; rfl) ?_
 exact W.exit ⟨fun _=>⟨.tup [],rfl,rfl⟩,fun e=>absurd rfl e⟩
theorem cpdq_nil {h:AH}{l:Int}{w v:AV}:C prg 50 [w,.int .i64 0,.int .i64 0,.int .i64 l,v] h fun _ h'=>h'=h:=by
 refine C.func pf50 ?_
 refine W.seq (W.run (by simp only[am,evOp,simprocAttr,initTm]<;>rfl) ?_)
 refine W.seq (W.run (by simp only[am,evOp,simprocAttr,initTm]<;>rfl) ?_)
 refine W.block (W.loop (fun n ts h1=>h1=h∧tget ts 0=w∧tget ts 1=.int .i64 0∧tget ts 2=.int .i64 0∧tget ts 4=v) ?_ (n:=0) ⟨rfl,by simp only[am,evOp,simprocAttr,initTm],by simp only[am,evOp,simprocAttr,initTm],by simp only[am,evOp,simprocAttr,initTm],by simp only[am,evOp,simprocAttr,initTm]⟩)
 rintro n ts h1 ⟨rfl,e0,e1,e2,e4⟩
 refine W.block (W.seq (W.run (by simp only[am,evOp,simprocAttr,e1,e2,wr64 (z:=0-0) (by decide) (by decide)]<;>rfl) ?_))
 refine W.seq (W.seq (W.run (by simp only[am,evOp,simprocAttr]<;>rfl) ?_))
 refine W.yes (by simp only[am,evOp,simprocAttr]; rfl) ?_
 refine W.seq (W.reg (G.gcall 4 (by simp only[am,evOp,simprocAttr,e0,e1,e2,e4]<;>rfl) rfl (by simp only[am,evOp,simprocAttr,e0,e1,e2,e4]) (by simp only[am,evOp,simprocAttr,e0,e1,e2,e4]<;>rfl) (cins_nil) fun v h2 u=>?_))
 subst u
 refine G.run (by simp only[am,evOp,simprocAttr]<;>rfl) ?_
 exact W.ret ⟨.tup [],rfl,rfl⟩
theorem csort_nil {h:AH}{w v:AV} (hw:lenLA w=some (.int .i64 0)):C prg 34 [w,v] h fun _ h'=>h'=h:=by
 refine C.func pf34 ?_
 refine W.seq (W.run (by simp only[am,evOp,simprocAttr,initTm,hw]<;>rfl) ?_)
 have wu:IntKind.u64.wrap 0=0:=by decide
 refine W.reg (G.gcall 4 (by simp only[am,evOp,simprocAttr,initTm,wu]<;>rfl) rfl (by simp only[am,evOp,simprocAttr,initTm,wu]) (by simp only[am,evOp,simprocAttr,initTm,wu]<;>rfl) (blen_zero) fun v h1 hq=>?_)
 obtain⟨rfl,rfl⟩:=hq
 refine G.gcall 1 (by simp only[am,evOp,simprocAttr,initTm]<;>rfl) rfl (by simp only[am,evOp,simprocAttr,initTm]) (by simp only[am,evOp,simprocAttr,initTm]<;>rfl) (cpdq_nil) fun v h2 hq=>?_
 subst hq
 refine G.run (by simp only[am,evOp,simprocAttr]<;>rfl) ?_
 exact⟨.tup [],rfl,rfl⟩
theorem nC_nL (l:List Nat):nC l=nL l:=nL_nI l
set_option maxHeartbeats 2000000 in
theorem blocks_ok {h:AH}{n:Nat}{ev:AV}{E:List (Int×Int)} (he:SlE h ev E) (hm:mayB (n:Nat) E=true) (hE:InG n E) (hL:∀ i,i<E.length→tlE E i≠hdE E i) :
 C prg 19 [.agg (gW n ev)] h fun r h'=>(∀ l,Lst (grE n E hE hL) l→LL h' h.next r (canon E.length l))∧Ext h.next h h':=by
 obtain⟨ec,eo⟩:=he.cells
 obtain⟨m1,m2,m3,m4⟩:=may_of hm
 have hBg:∀ {h':AH},SlE h' ev E→_:=fun {h'} q=>bbegin_ok (n:=n) q hE hL (by omega) (by omega)
 have hMy:∀ {h':AH},SlE h' ev E→_:=fun {h'} q=>gmay_ok (n:=((n:Nat):Int)) q (by omega)
 unfold gW at hBg ⊢
 refine C.func pf19 ?_
 refine W.seq (W.run (by simp only[am,evOp,simprocAttr,initTm]<;>rfl) ?_)
 have x0:Ext h.next h (h.new (.cells [.int .i64 (n:Nat),ev] 2 false)):=Ext.new (Nat.le_refl _)
 have g0:(h.new (.cells [.int .i64 (n:Nat),ev] 2 false)).get h.next=some (.cells [.int .i64 (n:Nat),ev] 2 false):=by rw[AH.get_new,if_pos rfl]
 have n0:(h.new (.cells [.int .i64 (n:Nat),ev] 2 false)).next=h.next+1:=rfl
 generalize (h.new (.cells [.int .i64 (n:Nat),ev] 2 false))=h1 at *
 have rA:rdCells h1 h.next 0 2=some [.int .i64 (n:Nat),ev]:=by rw[rdCells_of g0]; rfl
 refine W.seq (W.seq (W.reg (G.gcall 1 (by simp only[am,evOp,simprocAttr,initTm,rA]<;>rfl) rfl (by simp only[am,evOp,simprocAttr,initTm,rA]) (by simp only[am,evOp,simprocAttr,initTm,rA]<;>rfl) (hMy (he.ext x0 (Nat.le_refl _))) fun r h2 hq=>?_)))
 obtain⟨rfl,x2⟩:=hq
 rw[hm]
 have X2:Ext h.next h h2:=x0.trans (x2.mono (by omega))
 have n2:=x2.nx
 have g2:h2.get h.next=some (.cells [.int .i64 (n:Nat),ev] 2 false):=by rw[x2.gt _ (by omega)]; exact g0
 have rE2:rdCells h2 h.next 1 1=some [ev]:=rd_at g2 rfl
 refine G.gcall 4 (by simp only[am,evOp,simprocAttr,initTm,rE2,ev_fu]<;>rfl) rfl (by simp only[am,evOp,simprocAttr,initTm,rE2,ev_fu]) (by simp only[am,evOp,simprocAttr,initTm,rE2,ev_fu]<;>rfl) (contfE_ok (P:=fun x=>decide (x.1=x.2)) (caps:=[]) (he.ext X2 (Nat.le_refl _)) (by omega) (fun x _ h' _=>by rw[List.append_nil]; exact blocks1_ok)) fun r h3 hq=>?_
 obtain⟨rfl,x3⟩:=hq
 have hany:(E.any fun x=>decide (x.1=x.2))=false:=by
  rw[List.any_eq_false]
  intro x hx
  obtain⟨i,hi,rfl⟩:=List.getElem_of_mem hx
  have:=hL i hi
  obtain⟨q1,q2,q3⟩:=hE i hi
  rw[q1]
  simp only[decide_eq_true_eq]
  omega
 rw[hany]
 refine G.run (by simp only[am,evOp,simprocAttr]<;>rfl) ?_
 refine W.no (by simp only[am,evOp,simprocAttr]) (W.skip ?_)
 have X3:Ext h.next h h3:=X2.trans (x3.mono X2.nx)
 have n3:=x3.nx
 have g3:h3.get h.next=some (.cells [.int .i64 (n:Nat),ev] 2 false):=by rw[x3.gt _ (by omega)]; exact g2
 have rA3:rdCells h3 h.next 0 2=some [.int .i64 (n:Nat),ev]:=by rw[rdCells_of g3]; rfl
 refine W.seq (W.reg (G.gcall 1 (by simp only[am,evOp,simprocAttr,initTm,rA3]<;>rfl) rfl (by simp only[am,evOp,simprocAttr,initTm,rA3]) (by simp only[am,evOp,simprocAttr,initTm,rA3]<;>rfl) (hBg (he.ext X3 (Nat.le_refl _))) fun r h4 hq=>?_))
 obtain⟨sp,eb,nb,lb,rfl,x4,⟨lsp,lnb,llb⟩,t,r4⟩:=hq
 refine G.run (by simp only[am,evOp,simprocAttr]<;>rfl) ?_
 have X4:Ext h.next h h4:=X3.trans (x4.mono X3.nx)
 have n4:=x4.nx
 have g4:h4.get h.next=some (.cells [.int .i64 (n:Nat),ev] 2 false):=by rw[x4.gt _ (by omega)]; exact g3
 have rN4:rdCells h4 h.next 0 1=some [.int .i64 (n:Nat)]:=rd_at g4 rfl
 refine W.seq (W.seq (W.run (by simp only[am,evOp,simprocAttr,initTm,rN4]<;>rfl) ?_))
 have hends:=endsF_ok hE hL
 have hall:=Go.Blk.btw_all hends sortN_perm
 have hps:pot (grE n E hE hL) (endsF E) Go.Blk.start≤2 ^ 30:=by
  have h1:=Go.Blk.pot_start (g:=grE n E hE hL) (ends:=endsF E) (m:=E.length) fun x _=>by
   unfold endsF
   have:=List.length_filter_le (fun i=>decide (tlE E i=x)||decide (hdE E i=x)) (List.range E.length)
   rwa [List.length_range] at this
  have h2:(grE n E hE hL).n*(1+2*E.length)≤64*(1+2*128):=Nat.mul_le_mul m2 (by omega)
  omega
 refine W.rng (α:=Unit) (N:=n) (fun _ _=>[(1,.ptr h.next 0),(3,.ptr sp 0)])
  (fun k _ h'=>∃ stv blv bs,Ser h4 h' sp eb nb lb n ev ((List.range k).foldl (from1 (grE n E hE hL) (endsF E) sortN n) Go.Blk.start) stv blv bs) () (fun _ _=>rfl) (by omega) (by simp only[hl,am,evOp,simprocAttr,initTm]) ⟨_,_,_,r4⟩ ?_ ?_
 ·rintro k _ ts h5 hk ⟨stv,blv,bs,R⟩ ⟨ei,en,e1,e3,-⟩
  simp only at ei en e1 e3
  obtain⟨b1,b2,b3⟩:=hall k (by show k≤n; omega)
  have hsucc:(List.range (k+1)).foldl (from1 (grE n E hE hL) (endsF E) sortN n) Go.Blk.start=from1 (grE n E hE hL) (endsF E) sortN n ((List.range k).foldl (from1 (grE n E hE hL) (endsF E) sortN n) Go.Blk.start) k:=by
   rw[List.range_succ,List.foldl_append]
   rfl
  rw[hsucc]
  change Btw (grE n E hE hL) ((List.range k).foldl (from1 (grE n E hE hL) (endsF E) sortN n) Go.Blk.start) at b1
  change unm (grE n E hE hL) ((List.range k).foldl (from1 (grE n E hE hL) (endsF E) sortN n) Go.Blk.start)≤n at b2
  change pot (grE n E hE hL) (endsF E) ((List.range k).foldl (from1 (grE n E hE hL) (endsF E) sortN n) Go.Blk.start)≤_ at b3
  clear hsucc
  generalize (List.range k).foldl (from1 (grE n E hE hL) (endsF E) sortN n) Go.Blk.start=s at *
  have rn:rdCells h5 sp 3 1=some [.sl nb 0 n n]:=rd_at R.cell rfl
  have rk:rdCells h5 nb k 1=some [.int .i64 (s.num k:Nat)]:=rd_at R.gn (il_at hk)
  have ik:idx? ((k:Nat):Int) n=some k:=idx_nat hk
  refine W.seq (W.run (by simp only[am,evOp,simprocAttr,ei]<;>rfl) ?_)
  by_cases q:s.num k=0
  ·have c1:decide (((s.num k:Nat):Int)=0)=true:=decide_eq_true (by omega)
   refine W.seq (W.run (by simp only[am,evOp,simprocAttr,e3,rn,ik,Nat.mul_one,rk,c1]<;>rfl) ?_)
   refine W.yes (by simp only[am,evOp,simprocAttr]) ?_
   have hv:=bvisit_ok t hE hL (by omega) (by omega) n (b1.pre (show k<(grE n E hE hL).n from hk) q) b2 (by omega) R
   refine W.reg (G.gcall 2 (by simp only[am,evOp,simprocAttr,e3,byI]<;>rfl) rfl (by simp only[am,evOp,simprocAttr,e3,byI]) (by simp only[am,evOp,simprocAttr,e3,byI]<;>rfl) (hv) fun v h6 hq=>?_)
   obtain⟨stv',blv',bs',R'⟩:=hq
   refine G.run (by simp only[am,evOp,simprocAttr]<;>rfl) ?_
   refine⟨(),⟨stv',blv',bs',?_⟩,by simp only[hl,am,evOp,simprocAttr,ei,en,e1,e3]⟩
   unfold from1
   rw[if_pos q]
   exact R'
  ·have c1:decide (((s.num k:Nat):Int)=0)=false:=decide_eq_false (by omega)
   refine W.seq (W.run (by simp only[am,evOp,simprocAttr,e3,rn,ik,Nat.mul_one,rk,c1]<;>rfl) ?_)
   refine W.no (by simp only[am,evOp,simprocAttr]) (W.skip ?_)
   refine⟨(),⟨stv,blv,bs,?_⟩,by simp only[hl,am,evOp,simprocAttr,ei,en,e1,e3]⟩
   unfold from1
   rw[if_neg q]
   exact R
 rintro _ ts h5 ⟨stv,blv,bs,R⟩ ⟨e1,e3,-⟩
 simp only at e3
 obtain⟨b1,b2,b3⟩:=hall n (Nat.le_refl n)
 change pot (grE n E hE hL) (endsF E) ((List.range n).foldl (from1 (grE n E hE hL) (endsF E) sortN n) Go.Blk.start)≤_ at b3
 have hrun:(List.range n).foldl (from1 (grE n E hE hL) (endsF E) sortN n) Go.Blk.start=Go.Blk.runB (grE n E hE hL) (endsF E) sortN (grE n E hE hL).n:=rfl
 obtain⟨nd,hbk,part⟩:=Go.Blk.runB_ok hends sortN_perm (Nat.le_refl (grE n E hE hL).n)
 rw[← hrun] at nd hbk part
 have hcan:=fun l (hl:Lst (grE n E hE hL) l) cs=>Go.Blk.run_canon hends sortN_perm sortN_le hl (cs:=cs)
 rw[← hrun] at hcan
 generalize (List.range n).foldl (from1 (grE n E hE hL) (endsF E) sortN n) Go.Blk.start=s at *
 clear hrun
 have hnx:=R.kp.nx
 have hsp5:=AH.lt_of_get R.cell
 have X5:Ext h.next h h5:=X4.trans ⟨hnx,fun c hc=>R.kp.gt c (by omega) (by rintro (e|e|e)<;>omega),fun c hc=>R.kp.ty c (by omega)⟩
 have rb:rdCells h5 sp 7 1=some [blv]:=rd_at R.cell rfl
 have hblk:s.blk.length≤2 ^ 30:=by
  have h1:=Nat.le_trans b3 hps
  unfold pot at h1
  omega
 have hcells:=R.bl.cells
 have hlen:lenLA blv=some (.int .i64 (s.blk.length:Nat)):=by
  rw[← R.rl]
  rcases R.bl with ⟨hv,hbs⟩|⟨b,m,hb,hv,hg,hl⟩
  ·rw[hv,hbs]; rfl
  ·rw[hv,hl,Nat.mul_one]; rfl
 by_cases hz:s.blk.length=0
 ·have hblk0:s.blk=[]:=List.length_eq_zero_iff.1 hz
  rw[hz] at hlen
  refine W.seq (W.reg (G.gcall 4 (by simp only[am,evOp,simprocAttr,e3,rb,ev_fu]<;>rfl) rfl (by simp only[am,evOp,simprocAttr,e3,rb,ev_fu]) (by simp only[am,evOp,simprocAttr,e3,rb,ev_fu]<;>rfl) (csort_nil hlen) fun v h6 hq=>?_))
  subst hq
  refine G.run (by simp only[am,evOp,simprocAttr]<;>rfl) ?_
  refine W.seq (W.run (by simp only[am,evOp,simprocAttr,e3,rb]<;>rfl) ?_)
  refine W.ret ⟨blv,(by simp only[rs,rf19,am,evOp,simprocAttr,hcells.1]<;>rfl),fun l hl=>?_,X5⟩
  have e:=hcan l hl [] (by rw[hblk0]) List.Pairwise.nil
  change []=canon E.length l at e
  rw[← e]
  have hbs0:bs=[]:=List.length_eq_zero_iff.1 (by rw[R.rl]; exact hz)
  exact⟨bs,R.bl.mono (by omega),by rw[hbs0]; rfl,fun i v xs e=>by rw[hbs0] at e; simp at e⟩
 have hbl0:bs.length=s.blk.length:=R.rl
 rcases R.bl with ⟨hv,hbs⟩|⟨b,m,hb,hv,hg,hl⟩
 ·rw[hbs] at hbl0
  exact absurd hbl0.symm hz
 have hm0:m=s.blk.length:=by rw[← R.rl,hl,Nat.mul_one]
 subst hm0
 have hb5:=AH.lt_of_get hg
 have hpos:0<s.blk.length:=Nat.pos_of_ne_zero hz
 have hne:∀ r∈s.blk,∃ a xs,r=a::xs∧a<E.length:=fun r hr=>by
  obtain⟨q1,_⟩:=hbk r hr
  cases r with
  | nil=>exact absurd rfl q1
  | cons a xs=>exact⟨a,xs,rfl,(part a).2 ⟨_,hr,List.mem_cons_self ..⟩⟩
 have hrow:∀ i v,bs[i]?=some v→SrfRow h5 b (((s.blk.getD i []).headD 0:Nat):Int) v:=fun i v q1=>by
  have hi:i<s.blk.length:=by have:=(List.getElem?_eq_some_iff.1 q1).1; omega
  obtain⟨a,xs,e3,e4⟩:=hne _ (List.getElem_mem hi)
  have q2:s.blk[i]?=some (a::xs):=by rw[List.getElem?_eq_getElem hi,e3]
  obtain⟨z1,_,z3⟩:=R.rw i v _ q1 q2
  rcases z1 with ⟨_,e⟩|⟨b',m,hb',hv',hg',hl'⟩
  ·cases e
  ·have hm:m=xs.length+1:=by
    rw[Nat.mul_one] at hl'
    rw[← hl']
    simp [nL]
   subst hm
   refine⟨b',0,xs.length,_,hv',fun e2=>z3 b' 0 _ _ 0 _ _ hv' (by rw[hv,e2]),?_,by omega,?_⟩
   ·rw[List.getD_eq_getElem?_getD,q2]
    exact rd_at hg' rfl
   ·rw[List.getD_eq_getElem?_getD,q2]
    show ((a:Nat):Int)<_
    omega
 have hsort:=csort_ok (c:=s.blk.length) hg hbl0 hpos (by omega) hrow
 rw[hv] at rb
 refine W.seq (W.reg (G.gcall 4 (by simp only[am,evOp,simprocAttr,e3,rb,ev_fu]<;>rfl) rfl (by simp only[am,evOp,simprocAttr,e3,rb,ev_fu]) (by simp only[am,evOp,simprocAttr,e3,rb,ev_fu]<;>rfl) (hsort) fun v h6 hq=>?_))
 obtain⟨is,hp,hs,hmd⟩:=hq
 refine G.run (by simp only[am,evOp,simprocAttr]<;>rfl) ?_
 have hspb:sp≠b:=by have:=t.lt.1; omega
 have rb6:rdCells h6 sp 7 1=some [.sl b 0 s.blk.length s.blk.length]:=by rw[rdCells_eq (hmd.gt sp hspb hsp5)]; exact rb
 refine W.seq (W.run (by simp only[am,evOp,simprocAttr,e3,rb6]<;>rfl) ?_)
 have X6:Ext h.next h h6:=X5.trans (Ext.mono (hmd.mono (m:=b) (by omega) |>.toExt (Nat.le_refl _)) (by omega))
 refine W.ret ⟨.sl b 0 s.blk.length s.blk.length,(by simp only[rs,rf19,am,evOp,simprocAttr]<;>rfl),fun l hl=>?_,X6⟩
 have hil:is.length=s.blk.length:=by rw[hp.length_eq,List.length_range]
 have hperm:(is.map fun i=>s.blk.getD i []).Perm s.blk:=by
  have:=hp.map fun i=>s.blk.getD i []
  rwa [range_getD] at this
 have hord:(is.map fun i=>s.blk.getD i []).Pairwise fun a b=>a.headD 0≤b.headD 0:=by
  rw[List.pairwise_map]
  exact hs.imp fun q=>Int.ofNat_le.1 q
 have e:=hcan l hl _ hperm hord
 change _=canon E.length l at e
 rw[← e]
 refine⟨is.map fun i=>bs.getD i .un,.inr ⟨b,s.blk.length,by omega,rfl,hmd.get,by rw[List.length_map,hil,Nat.mul_one]⟩,by rw[List.length_map,List.length_map],fun i v xs q1 q2=>?_⟩
 rw[List.getElem?_map] at q1 q2
 obtain⟨x,k1,rfl⟩:=Option.map_eq_some_iff.1 q1
 rw[k1] at q2
 simp only[Option.map_some,Option.some.injEq] at q2
 subst q2
 have hx:x<s.blk.length:=List.mem_range.1 (hp.mem_iff.1 (List.mem_of_getElem? k1))
 have p3:bs[x]?=some (bs.getD x .un):=by
  rw[List.getD_eq_getElem?_getD,List.getElem?_eq_getElem (show x<bs.length by omega)]
  rfl
 have p4:s.blk[x]?=some (s.blk.getD x []):=by
  rw[List.getD_eq_getElem?_getD,List.getElem?_eq_getElem hx]
  rfl
 obtain⟨w1,_,w3⟩:=R.rw x _ _ p3 p4
 rw[nC_nL]
 have hw:∀ b' n',bs.getD x .un=.sl b' 0 n' n'→b'≠b:=fun b' n' e1 e2=>w3 b' 0 n' n' 0 s.blk.length s.blk.length e1 (by rw[hv,e2])
 refine⟨(w1.cong fun b' m' e _=>hmd.gt b' (hw b' m' e) (w1.lt e)).mono (by omega),fun b1 k1 b2 k2 e1 e2=>?_⟩
 cases e2
 exact hw b1 k1 e1
end Go.Proofs.Ytpeemonpdlifbaa
namespace Go.Proofs.Ytpeemonpdlifbaa
open Go.Am
open Go.Pla (Met ks tr tr_app at_ goes stepE full Srch Hit todo)
theorem at_incB {n:Nat}{E:List (Int×Int)}{hE:InG n E}{hL:∀ i,i<E.length→tlE E i≠hdE E i}{i x:Nat} (hi:i<E.length):at_ (grE n E hE hL) i x=incB E i x:=by
 have:=hL i hi
 show ((tlE E i==x) ^^ (hdE E i==x))=(decide (tlE E i=x)||decide (hdE E i=x))
 by_cases a:tlE E i=x
 ·have b:hdE E i≠x:=fun h=>this (a.trans h.symm)
  simp [a,b]
 ·by_cases b:hdE E i=x
  ·simp [a,b]
  ·rw[beq_eq_false_iff_ne.2 a,beq_eq_false_iff_ne.2 b,decide_eq_false a,decide_eq_false b]; rfl
theorem oth_eq {n:Nat}{E:List (Int×Int)}{hE:InG n E}{hL:∀ i,i<E.length→tlE E i≠hdE E i}{i x:Nat} (hi:incB E i x=true):othZ E i x=(((grE n E hE hL).oth i x:Nat):Int):=by
 show ((tlE E i:Nat):Int)+((hdE E i:Nat):Int)-((x:Nat):Int)=((tlE E i+hdE E i-x:Nat):Int)
 simp only[incB,Bool.or_eq_true,decide_eq_true_eq] at hi
 omega
theorem upG_new {α:Type} [DecidableEq α]:∀ {l:List (α×AV)}{k:α}{v:AV},lkG l k=none→upG l k v=l++[(k,v)]
 | [],_,_,_=>rfl
 | p::l,k,v,h=>by
   simp only[lkG] at h
   split at h
   ·cases h
   ·rename_i hne
    simp only[upG,if_neg hne]
    rw[upG_new h]; rfl
set_option maxHeartbeats 2000000 in
theorem pbway_ok {h:AH}{bb n:Nat}{ev edv:AV}{E:List (Int×Int)}{Bl:List Nat}{la pa:Nat}{H V:Nat→Bool}{fav:AV} (u:Bu h bb n ev edv E Bl la pa H V fav) (hE:InG n E) (hL:∀ i,i<E.length→tlE E i≠hdE E i) (hn:n<2 ^ 30) (hm:E.length<2 ^ 30) (hB:∀ i∈Bl,i<E.length) (hBn:Bl.length<2 ^ 30) {r:Nat} (hr:r<n) {ke kt:FuncId}{ce ct:List AV}{fin thr:Nat→Bool}
 (hend:∀ y,y<n→∀ h',Ext h.next h h'→C prg ke ([.int .i64 (y:Nat)]++ce) h' fun v h''=>v=.bool (fin y)∧Ext h'.next h' h'')
 (hthr:∀ y,y<n→∀ h',Ext h.next h h'→C prg kt ([.int .i64 (y:Nat)]++ct) h' fun v h''=>v=.bool (thr y)∧Ext h'.next h' h'') :
 C prg 53 [.ptr bb 0,.int .i64 (r:Nat),.fn ke ce,.fn kt ct] h fun v h'=>Ext h.next h h'∧∃ o,Hit (full (grE n E hE hL) Bl H thr (n+1) ([(r,r)],[r])) fin o∧(match o with|none=>v=.nils|some y=>IsSl h' 1 h.next v (nC (tr (full (grE n E hE hL) Bl H thr (n+1) ([(r,r)],[r])) y))):=by
 obtain⟨F,hF⟩:∃ F,F=full (grE n E hE hL) Bl H thr (n+1) ([(r,r)],[r]):=⟨_,rfl⟩
 rw[← hF]
 have hBg:∀ i∈Bl,i<(grE n E hE hL).m:=hB
 have hrg:r<(grE n E hE hL).n:=hr
 refine C.func pf53 ?_
 refine W.seq (W.run (by simp only[am,evOp,simprocAttr,initTm]<;>rfl) ?_)
 have x1:Ext h.next h (h.new (.mapo [] 0)):=Ext.new (Nat.le_refl _)
 have g1:(h.new (.mapo [] 0)).get h.next=some (.mapo [] 0):=by rw[AH.get_new,if_pos rfl]
 have n1:(h.new (.mapo [] 0)).next=h.next+1:=rfl
 have m1:MapL2 (h.new (.mapo [] 0)) h.next []:=MapG.nil g1
 obtain⟨h2,a2,m2,o2,u2⟩:=m1.up keyI ((r:Nat):Int) (.int .i64 (r:Nat))
 have m2:MapL2 h2 h.next [(r,r)]:=m2
 have a2:mupA (h.new (.mapo [] 0)) .ki (.mp h.next) (.int .i64 (r:Nat)) (.int .i64 (r:Nat))=some (.un,h2):=a2
 have x2:Ext h.next h h2:=x1.trans (u2.ext (Nat.le_refl _))
 have n2:h2.next=h.next+1:=by rw[u2.nx,n1]
 refine W.seq (W.runs (fun ts h'=>h'=h2∧tget ts 0=.ptr bb 0∧tget ts 1=.int .i64 (r:Nat)∧tget ts 2=.fn ke ce∧tget ts 3=.fn kt ct∧tget ts 9=.mp h.next) (by simp only[am,evOp,simprocAttr,initTm,a2]) ?_)
 rintro ts h2' ⟨rfl,e0,e1,e2,e3,e9⟩
 have x3:Ext h2'.next h2' (h2'.new (.cells [.int .i64 (r:Nat)] 1 false)):=Ext.new (Nat.le_refl _)
 have g3:(h2'.new (.cells [.int .i64 (r:Nat)] 1 false)).get h2'.next=some (.cells [.int .i64 (r:Nat)] 1 false):=by rw[AH.get_new,if_pos rfl]
 refine W.seq (W.runs (fun ts h'=>h'=h2'.new (.cells [.int .i64 (r:Nat)] 1 false)∧tget ts 0=.ptr bb 0∧tget ts 2=.fn ke ce∧tget ts 3=.fn kt ct∧tget ts 9=.mp h.next∧tget ts 10=.sl h2'.next 0 1 1) (by simp only[am,evOp,simprocAttr,e0,e1,e2,e3,e9]) ?_)
 rintro ts h3 ⟨rfl,e0,e2,e3,e9,e10⟩
 have m3:MapL2 (h2'.new (.cells [.int .i64 (r:Nat)] 1 false)) h.next [(r,r)]:=m2.cong (x3.gt _ (by omega))
 have q3:IsQ (h2'.new (.cells [.int .i64 (r:Nat)] 1 false)) (h.next+1) (.sl h2'.next 0 1 1) [r]:=IsQ.one (by omega) g3
 have x3:=x2.trans (x3.mono (by omega:h.next≤h2'.next))
 have n3:(h2'.new (.cells [.int .i64 (r:Nat)] 1 false)).next=h.next+2:=by rw[AH.next_new,n2]
 generalize h2'.new (.cells [.int .i64 (r:Nat)] 1 false)=h3 at *
 have hbd:∀ {s:Go.Pla.LQ}{cu:Option (Nat×List Nat)},Srch (grE n E hE hL) Bl H thr r s cu→(∀ z∈ks s.1,z<n)∧s.1.length≤n:=fun {s cu} hs=>by
  have a:=hs.met.lt hBg hrg
  exact⟨a,by
   have:=Go.Pla.nd_lt hs.met.nd a
   rw[ks,List.length_map] at this; exact this⟩
 have hFm:Met (grE n E hE hL) Bl H thr r F:=by
  rw[hF]
  exact (Go.Pla.full_srch hBg hrg (n+1) Srch.start (by show n-1+1≤n+1; omega)).met
 refine W.seq (W.block (W.loop (fun f ts h'=>∃ (L:List (Nat×Nat)) (Q:List Nat) (qv:AV),Srch (grE n E hE hL) Bl H thr r (L,Q) none∧full (grE n E hE hL) Bl H thr f (L,Q)=F∧todo n (L,Q)≤f∧(∀ z∈ks L.tail,fin z=false)∧MapL2 h' h.next L∧IsQ h' (h.next+1) qv Q∧todo n (L,Q)≤n+1∧Ext h.next h h'∧h.next<h'.next∧tget ts 0=.ptr bb 0∧tget ts 2=.fn ke ce∧tget ts 3=.fn kt ct∧tget ts 9=.mp h.next∧tget ts 10=qv) ?_ (n:=n+1) ⟨[(r,r)],[r],_,Srch.start,hF.symm,by show n-1+1≤n+1; omega,by simp [ks],m3,q3,by show n-1+1≤n+1; omega,x3,by omega,e0,e2,e3,e9,e10⟩))
 clear e0 e2 e3 e9 e10 m3 q3 x3 n3 g3 m2 a2 u2 x2 n2 m1 g1 n1 x1
 rintro f ts h4 ⟨L,Q,qv,hs,hff,htd,hno,m4,q4,hQn,x4,hlt4,e0,e2,e3,e9,e10⟩
 have el:=q4.len
 cases Q with
 | nil =>
   refine W.seq (W.seq (W.run (by simp only[am,evOp,simprocAttr,e10,el]<;>rfl) ?_))
   have dz:decide ((0:Int)<(([]:List Nat).length:Nat))=false:=by simp
   refine W.no (by simp only[am,evOp,simprocAttr,List.length_nil,Int.natCast_zero,Int.lt_irrefl,decide_false]) ?_
   refine W.exit ⟨fun _=>?_,fun e=>absurd rfl e⟩
   refine W.seq (W.run (by simp only[am,evOp,simprocAttr]<;>rfl) ?_)
   refine W.ret ⟨.nils,(by simp only[rs,rf53,am,evOp,simprocAttr]<;>rfl),x4,none,?_,rfl⟩
   have:F=L:=by
    rw[← hff]
    cases f<;>rfl
   rw[this]
   exact hno
 | cons x Q =>
   have hf1:1≤f:=by simp only[todo,List.length_cons] at htd; omega
   obtain⟨f',rfl⟩:∃ f',f=f'+1:=⟨f-1,by omega⟩
   have hff:full (grE n E hE hL) Bl H thr f' (Bl.foldl (stepE (grE n E hE hL) H thr x) (L,Q))=F:=hff
   have hpop:=hs.pop
   have hxn:x<n:=(hbd hs).1 x (hs.que x (by simp)).1
   rw[List.length_cons] at el
   refine W.seq (W.seq (W.run (by simp only[am,evOp,simprocAttr,e10,el]<;>rfl) ?_))
   have dz:decide ((0:Int)<((Q.length+1:Nat):Int))=true:=by rw[decide_eq_true_eq]; omega
   refine W.yes (by simp only[am,evOp,simprocAttr,dz]) (W.skip (W.block ?_))
   obtain⟨qb,qo,ha,hrd⟩:=q4.head
   obtain⟨qv',hst,q5⟩:=q4.tail
   have u4:=u.ext x4 (Nat.le_refl _)
   have rb:rdCells h4 bb 2 1=some [edv]:=rd_at u4.o rfl
   have lb:=u4.b.len
   rw[List.length_map,List.length_map] at lb
   refine W.seq (W.run (by simp only[am,evOp,simprocAttr,e10,ha,hrd]<;>rfl) ?_)
   refine W.seq (W.run (by simp only[am,evOp,simprocAttr,slLA_eq,Option.map_none,e10,hst]<;>rfl) ?_)
   refine W.seq (W.run (by simp only[am,evOp,simprocAttr,e0,rb,lb]<;>rfl) ?_)
   refine W.rng (α:=Go.Pla.LQ×AV) (N:=Bl.length) (fun _ a=>[(35,edv),(0,.ptr bb 0),(2,.fn ke ce),(3,.fn kt ct),(9,.mp h.next),(10,a.2),(11,.int .i64 (x:Nat))])
    (fun k a h'=>Srch (grE n E hE hL) Bl H thr r a.1 (some (x,Bl.drop k))∧(Bl.drop k).foldl (stepE (grE n E hE hL) H thr x) a.1=Bl.foldl (stepE (grE n E hE hL) H thr x) (L,Q)∧todo n a.1≤todo n (L,Q)∧(∀ z∈ks a.1.1.tail,fin z=false)∧MapL2 h' h.next a.1.1∧IsQ h' (h.next+1) a.2 a.1.2∧Ext h.next h h'∧h.next<h'.next)
    ((L,Q),qv') (fun _ _=>rfl) (by omega) (by simp only[hl,am,evOp,simprocAttr,e0,e2,e3,e9]) ⟨hpop,rfl,Nat.le_refl _,hno,m4,q5,x4,hlt4⟩ ?_ ?_
   ·clear e0 e2 e3 e9 e10 rb lb
    rintro k ⟨s,qw⟩ ts h5 hk ⟨j1,j2,j3,j4,j5,j6,x5,hlt5⟩ ⟨ei,en,e35,e0,e2,e3,e9,e10,e11,-⟩
    simp only at ei en e35 e0 e2 e3 e9 e10 e11 j1 j2 j3 j4 j5 j6
    have hdk:Bl.drop k=Bl[k]::Bl.drop (k+1):=List.drop_eq_getElem_cons hk
    have hBk:Bl[k]∈Bl:=List.getElem_mem hk
    have hik:=hB _ hBk
    generalize hi:Bl[k]=i at *
    rw[hdk] at j1 j2
    rw[List.foldl_cons] at j2
    have jn:=j1.step hBg hBk
    have tdn:=Go.Pla.todo_step j1 hBg hrg hBk
    have u5:=u.ext x5 (Nat.le_refl _)
    obtain⟨b5,o5,a5,r5,_⟩:=u5.b.at1 (i:=k) (y:=.int .i64 (i:Nat)) (by rw[List.getElem?_map,List.getElem?_map,List.getElem?_eq_getElem hk,hi]; rfl)
    refine W.seq (W.run (by simp only[am,evOp,simprocAttr,e35,ei,a5,r5]<;>rfl) ?_)
    have hC:=pbother_ok u5 hE (show n<2 ^ 40 by omega) hik hxn
    have skip1:goes (grE n E hE hL) H x s.1 i=false→stepE (grE n E hE hL) H thr x s i=s:=fun hg=>by rw[stepE,hg]; rfl
    cases hI:incB E i x with
    | false =>
      have hst:stepE (grE n E hE hL) H thr x s i=s:=skip1 (by rw[goes,at_incB hik,hI]; rfl)
      rw[hst] at j2 jn tdn
      rw[hI] at hC
      refine W.seq (W.reg (G.gcall 3 (by simp only[am,evOp,simprocAttr,e0,e11]<;>rfl) rfl (by simp only[am,evOp,simprocAttr,e0,e11]) (by simp only[am,evOp,simprocAttr,e0,e11]<;>rfl) (hC) fun v h6 hq=>?_))
      obtain⟨rfl,x6⟩:=hq
      refine G.run (by simp only[am,evOp,simprocAttr]<;>rfl) ?_
      have x6':=x5.trans (x6.mono x5.nx)
      have m6:=j5.cong (x6.gt _ j5.lt)
      have l6:=m6.look2 keyI (.int .i64 0) (othZ E i x)
      refine W.seq (W.run (by simp only[am,evOp,simprocAttr,e9,l6]<;>rfl) ?_)
      refine W.seq (W.seq (W.run (by simp only[am,evOp,simprocAttr,Bool.not_false]<;>rfl) ?_))
      refine W.yes (by simp only[am,evOp,simprocAttr,Bool.not_false]) (W.exit ⟨fun _=>⟨(s,qw),⟨jn,j2,j3,j4,m6,j6.ext x6 (Nat.le_refl _),x6',Nat.lt_of_lt_of_le hlt5 x6.nx⟩,by simp only[hl,am,evOp,simprocAttr,ei,en,e35,e0,e2,e3,e9,e10,e11]⟩,fun e=>absurd rfl e⟩)
    | true =>
      obtain⟨y,hy⟩:∃ y,y=(grE n E hE hL).oth i x:=⟨_,rfl⟩
      have hyo:othZ E i x=((y:Nat):Int):=by rw[hy]; exact oth_eq hI
      have hyn:y<n:=by
       have hat:at_ (grE n E hE hL) i x=true:=by rw[at_incB hik]; exact hI
       have:=(Go.Pla.at_inc hik).1 hat
       rw[hy]; exact Go.Blk.inc_lt (Go.Blk.inc_oth this).1
      rw[hI,hyo] at hC
      refine W.seq (W.reg (G.gcall 3 (by simp only[am,evOp,simprocAttr,e0,e11]<;>rfl) rfl (by simp only[am,evOp,simprocAttr,e0,e11]) (by simp only[am,evOp,simprocAttr,e0,e11]<;>rfl) (hC) fun v h6 hq=>?_))
      obtain⟨rfl,x6⟩:=hq
      refine G.run (by simp only[am,evOp,simprocAttr]<;>rfl) ?_
      have x6':=x5.trans (x6.mono x5.nx)
      have m6:=j5.cong (x6.gt _ j5.lt)
      have l6:=m6.look2 keyI (.int .i64 0) ((y:Nat):Int)
      have q6:=j6.ext x6 (Nat.le_refl _)
      have hlt6:=Nat.lt_of_lt_of_le hlt5 x6.nx
      have u6:=u.ext x6' (Nat.le_refl _)
      refine W.seq (W.run (by simp only[am,evOp,simprocAttr,e9,l6]<;>rfl) ?_)
      by_cases hky:y∈ks s.1
      ·have hso:(lkG (Lm s.1) ((y:Nat):Int)).isSome=true:=by
        cases hq:lkG (Lm s.1) ((y:Nat):Int) with
        | none=>exact absurd hky (lm_none.1 hq)
        | some _=>rfl
       have hst:stepE (grE n E hE hL) H thr x s i=s:=skip1 (by
        rw[goes,← hy]
        simp [hky])
       rw[hst] at j2 jn tdn
       refine W.seq (W.seq (W.run (by simp only[am,evOp,simprocAttr,Bool.not_true,hso]<;>rfl) ?_))
       refine W.yes (by simp only[am,evOp,simprocAttr,hso]) (W.exit ⟨fun _=>⟨(s,qw),⟨jn,j2,j3,j4,m6,q6,x6',hlt6⟩,by simp only[hl,am,evOp,simprocAttr,ei,en,e35,e0,e2,e3,e9,e10,e11]⟩,fun e=>absurd rfl e⟩)
      ·have hso:(lkG (Lm s.1) ((y:Nat):Int)).isSome=false:=by rw[lm_none.2 hky]; rfl
       have r3:rdCells h6 bb 3 1=some [.sl la 0 E.length E.length]:=rd_at u6.o rfl
       have ia:idx? ((i:Nat):Int) E.length=some i:=idx_nat hik
       have rl:rdCells h6 la i 1=some [.bool (H i)]:=rd_at u6.l (bl_at hik)
       cases hH:H i with
       | true =>
         rw[hH] at rl
         have hst:stepE (grE n E hE hL) H thr x s i=s:=skip1 (by rw[goes,hH]; simp)
         rw[hst] at j2 jn tdn
         refine W.seq (W.seq (W.run (by simp only[am,evOp,simprocAttr,Bool.not_true,hso,e0,r3,ia,Nat.mul_one,rl]<;>rfl) ?_))
         refine W.yes (by simp only[am,evOp,simprocAttr]) (W.exit ⟨fun _=>⟨(s,qw),⟨jn,j2,j3,j4,m6,q6,x6',hlt6⟩,by simp only[hl,am,evOp,simprocAttr,ei,en,e35,e0,e2,e3,e9,e10,e11]⟩,fun e=>absurd rfl e⟩)
       | false =>
         rw[hH] at rl
         have hg:goes (grE n E hE hL) H x s.1 i=true:=by
          rw[goes,← hy,at_incB hik,hI,hH]
          simp [hky]
         have hst:stepE (grE n E hE hL) H thr x s i=(s.1++[(y,x)],if thr y=true then s.2++[y] else s.2):=by rw[stepE,if_pos hg,← hy]
         rw[hst] at j2 jn tdn
         refine W.seq (W.seq (W.run (by simp only[am,evOp,simprocAttr,Bool.not_true,hso,e0,r3,ia,Nat.mul_one,rl]<;>rfl) ?_))
         refine W.no (by simp only[am,evOp,simprocAttr]) (W.skip ?_)
         obtain⟨h7,a7,m7,o7,u7⟩:=m6.up keyI ((y:Nat):Int) (.int .i64 (x:Nat))
         have m7:MapL2 h7 h.next (s.1++[(y,x)]):=by
          rw[upG_new (lm_none.2 hky)] at m7
          have:Lm s.1++[(((y:Nat):Int),AV.int .i64 ((x:Nat):Int))]=Lm (s.1++[(y,x)]):=by simp [Lm]
          rw[this] at m7; exact m7
         have a7:mupA h6 .ki (.mp h.next) (.int .i64 (y:Nat)) (.int .i64 (x:Nat))=some (.un,h7):=a7
         have x7:Ext h.next h h7:=x6'.trans (u7.ext (Nat.le_refl _))
         have hlt7:h.next<h7.next:=by rw[u7.nx]; exact hlt6
         have q7:IsQ h7 (h.next+1) qw s.2:=q6.cong fun c hc _=>u7.ne (by omega)
         refine W.seq (W.run (by simp only[am,evOp,simprocAttr,e9,e11,a7]<;>rfl) ?_)
         refine W.seq (W.seq (W.reg (G.gcallv 2 (by simp only[am,evOp,simprocAttr,e2]<;>rfl) rfl (by simp only[am,evOp,simprocAttr,e2]) (by simp only[am,evOp,simprocAttr,e2]<;>rfl) (by simp only[am,evOp,simprocAttr,e2]<;>rfl) (hend y hyn h7 x7) fun v h8 hq=>?_)))
         obtain⟨rfl,x8⟩:=hq
         refine G.run (by simp only[am,evOp,simprocAttr]<;>rfl) ?_
         have x8':=x7.trans (x8.mono x7.nx)
         have m8:=m7.cong (x8.gt _ m7.lt)
         have hlt8:=Nat.lt_of_lt_of_le hlt7 x8.nx
         have q8:=q7.ext x8 (Nat.le_refl _)
         cases hfin:fin y with
         | true =>
           refine W.yes (by simp only[am,evOp,simprocAttr]) ?_
           have hlen:(s.1++[(y,x)]).length<2 ^ 30:=by have:=(hbd jn).2; dsimp only at this; omega
           have hyk:y∈ks (s.1++[(y,x)]):=by simp [ks]
           refine W.seq (W.reg (G.gcall 2 (by simp only[am,evOp,simprocAttr,e9]<;>rfl) rfl (by simp only[am,evOp,simprocAttr,e9]) (by simp only[am,evOp,simprocAttr,e9]<;>rfl) (ptrail_ok m8 jn.met hBg hyk hlen) fun v h9 hq=>?_))
           obtain⟨i9,x9⟩:=hq
           refine G.run (by simp only[am,evOp,simprocAttr]<;>rfl) ?_
           obtain⟨C1,hC1⟩:=Go.Pla.fold_pre (g:=grE n E hE hL) (laid:=H) (thr:=thr) (x:=x) (Bl.drop (k+1)) (s.1++[(y,x)],if thr y=true then s.2++[y] else s.2)
           obtain⟨C2,hC2⟩:=Go.Pla.full_pre (g:=grE n E hE hL) (Bl:=Bl) (laid:=H) (thr:=thr) f' (Bl.foldl (stepE (grE n E hE hL) H thr x) (L,Q))
           rw[hff,← j2,hC1] at hC2
           have hC2:F=(s.1++[(y,x)])++(C1++C2):=by rw[hC2]; simp
           obtain⟨T,hT⟩:=j1.met.root
           have hne:s.1≠[]:=by rw[hT]; simp
           refine W.ret ⟨v,(by simp only[rs,rf53,am,evOp,simprocAttr]<;>rfl),x8'.trans (x9.mono x8'.nx),some y,⟨s.1,x,C1++C2,by rw[hC2]; simp,hne,j4,hfin⟩,?_⟩
           have htr:tr F y=tr (s.1++[(y,x)]) y:=by
            have nd:=hFm.nd
            rw[hC2] at nd ⊢
            exact tr_app nd hyk
           show IsSl h9 1 h.next v (nC (tr F y))
           rw[htr]
           exact i9.mono x8'.nx
         | false =>
           refine W.no (by simp only[am,evOp,simprocAttr]) (W.skip ?_)
           have j4':∀ z∈ks (s.1++[(y,x)]).tail,fin z=false:=by
            obtain⟨T,hT⟩:=j1.met.root
            have hne:s.1≠[]:=by rw[hT]; simp
            rw[Go.Pla.tail_app hne]
            intro z hz
            rcases List.mem_append.1 hz with hz|hz
            ·exact j4 z hz
            ·have:z=y:=by simpa [ks] using hz
             rw[this]; exact hfin
           refine W.seq (W.reg (G.gcallv 2 (by simp only[am,evOp,simprocAttr,e3]<;>rfl) rfl (by simp only[am,evOp,simprocAttr,e3]) (by simp only[am,evOp,simprocAttr,e3]<;>rfl) (by simp only[am,evOp,simprocAttr,e3]<;>rfl) (hthr y hyn h8 x8') fun v h9 hq=>?_))
           obtain⟨rfl,x9⟩:=hq
           refine G.run (by simp only[am,evOp,simprocAttr]<;>rfl) ?_
           have x9':=x8'.trans (x9.mono x8'.nx)
           have m9:=m8.cong (x9.gt _ m8.lt)
           have hlt9:=Nat.lt_of_lt_of_le hlt8 x9.nx
           have q9:=q8.ext x9 (Nat.le_refl _)
           cases hth:thr y with
           | true =>
             rw[hth] at j2 jn tdn
             simp only[if_true] at j2 jn tdn
             refine W.yes (by simp only[am,evOp,simprocAttr]) ?_
             have hql:s.2.length<2 ^ 34:=by
              have h1:todo n s≤n+1:=by
               have:todo n (L,x::Q)=todo n (L,Q)+1:=by simp only[todo,List.length_cons]; omega
               omega
              simp only[todo] at h1
              omega
             obtain⟨qz,h10,a10,q10,x10,n10,_,_⟩:=q9.push (by omega) hql y
             have m10:=m9.cong (x10.gt _ (by omega))
             have x10':Ext h.next h h10:=x9'.trans (x10.mono (by omega))
             refine W.runs (fun ts h'=>h'=h10∧Held [(37,.int .i64 (k:Nat)),(36,.int .i64 (Bl.length:Nat)),(35,edv),(0,.ptr bb 0),(2,.fn ke ce),(3,.fn kt ct),(9,.mp h.next),(10,qz),(11,.int .i64 (x:Nat))] ts) (by simp only[am,evOp,simprocAttr,ei,en,e35,e0,e2,e3,e9,e10,e11,a10,held_cons,held_nil]) ?_
             rintro ts h' ⟨rfl,hh⟩
             exact⟨((s.1++[(y,x)],s.2++[y]),qz),⟨jn,j2,Nat.le_trans tdn j3,j4',m10,q10,x10',by omega⟩,hh⟩
           | false =>
             rw[hth] at j2 jn tdn
             simp only[Bool.false_eq_true,if_false] at j2 jn tdn
             refine W.no (by simp only[am,evOp,simprocAttr]) (W.skip ?_)
             exact⟨((s.1++[(y,x)],s.2),qw),⟨jn,j2,Nat.le_trans tdn j3,j4',m9,q9,x9',hlt9⟩,by simp only[hl,am,evOp,simprocAttr,ei,en,e35,e0,e2,e3,e9,e10,e11]⟩
   ·rintro⟨s,qw⟩ ts h5 ⟨j1,j2,j3,j4,j5,j6,x5,hlt5⟩ ⟨e35,e0,e2,e3,e9,e10,e11,-⟩
    simp only at e35 e0 e2 e3 e9 e10 e11 j1 j2 j3 j4 j5 j6
    rw[List.drop_eq_nil_of_le (Nat.le_refl _)] at j1 j2
    have j2:s=_:=j2
    refine⟨f',by omega,s.1,s.2,qw,j1.end,by rw[← hff,← j2],?_,j4,j5,j6,?_,x5,hlt5,e0,e2,e3,e9,e10⟩
    ·have:todo n (L,x::Q)=todo n (L,Q)+1:=by simp only[todo,List.length_cons]; omega
     show todo n s≤f'
     omega
    ·have:todo n (L,x::Q)=todo n (L,Q)+1:=by simp only[todo,List.length_cons]; omega
     show todo n s≤n+1
     omega
end Go.Proofs.Ytpeemonpdlifbaa
