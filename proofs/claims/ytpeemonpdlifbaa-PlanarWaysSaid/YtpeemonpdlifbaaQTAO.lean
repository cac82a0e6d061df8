/-
  block's search: through a vertex. Blocks, sorted: they are told by the least edges. The search in depth: its blocks are sorted; between two visits; its beginning. slices.SortFunc of rows of ints, by the kit's contract.
-/
import Derived.Test.YtpeemonpdlifbaaQTAN
import Derived.Test.YtpeemonpdlifbaaQTAE
import Derived.Test.YtpeemonpdlifbaaQTAM
import Derived.Test.YtpeemonpdlifbaaQTAD
set_option linter.all false
namespace Go.Proofs.Ytpeemonpdlifbaa
open Go.Am
open Go.Blk (Gr DS upd visit edgeS enter Pre Mid pot unm)
theorem mnn {k:IntKind}{a b:Nat}:foldA mnA [.int k (a:Nat),.int k (b:Nat)]=some (.int k ((min a b:Nat):Int)):=by
 have:foldA mnA [.int k ((a:Nat):Int),.int k ((b:Nat):Int)]=some (.int k (if ((b:Nat):Int)<((a:Nat):Int) then ((b:Nat):Int) else ((a:Nat):Int))):=by simp [foldA,mnA]
 rw[this]
 congr 2
 split<;>omega
def lowS (s:DS) (x y:Nat):DS:={ s with low:=upd s.low x (min (s.low x) (s.low y))}
def byI:Option Nat→Int
 | none=>-1
 | some b=>(b:Nat)
set_option maxHeartbeats 4000000 in
theorem bvisit_ok {h0:AH}{sp eb nb lb n:Nat}{ev:AV}{E:List (Int×Int)} (t:Sta h0 sp eb nb lb n ev E) (hE:InG n E) (hL:∀ i,i<E.length→tlE E i≠hdE E i) (hn:n<2 ^ 30) (hxl:E.length<2 ^ 30) :
 ∀ (f:Nat) {h:AH}{an:List Nat}{x:Nat}{by_:Option Nat}{s:DS}{stv blv:AV}{bs:List AV},Pre (grE n E hE hL) an x by_ s→unm (grE n E hE hL) s≤f→pot (grE n E hE hL) (endsF E) s≤2 ^ 30→Ser h0 h sp eb nb lb n ev s stv blv bs →
   C prg 33 [.ptr sp 0,.int .i64 (x:Nat),.int .i64 (byI by_)] h fun _ h'=>∃ stv' blv' bs',Ser h0 h' sp eb nb lb n ev (visit (grE n E hE hL) (endsF E) sortN f x by_ s) stv' blv' bs':=by
 intro f
 induction f with
 | zero =>
   intro h an x by_ s stv blv bs p hf _ _
   have:=Go.Blk.unm_pos p.hx p.x0
   omega
 | succ f ih =>
 intro h an x by_ s stv blv bs p hf hpot r
 have hends:=endsF_ok hE hL
 have hx:x<n:=p.hx
 obtain⟨l1,l2,l3⟩:=t.lt
 have hcnt:s.cnt≤2 ^ 30:=by unfold pot at hpot; omega
 refine C.func pf33 ?_
 have r5:rdCells h sp 5 1=some [.int .i64 (s.cnt:Nat)]:=rd_at r.cell rfl
 have w1:=w1_ok (k:=s.cnt) (by omega)
 obtain⟨h1,a1,R1⟩:=r.setCnt t (s.cnt+1)
 refine W.seq (W.run (by simp only[am,evOp,simprocAttr,initTm,r5,w1,a1]<;>rfl) ?_)
 have r3:rdCells h1 sp 3 1=some [.sl nb 0 n n]:=rd_at R1.cell rfl
 have r4:rdCells h1 sp 4 1=some [.sl lb 0 n n]:=rd_at R1.cell rfl
 have r51:rdCells h1 sp 5 1=some [.int .i64 (s.cnt+1:Nat)]:=rd_at R1.cell rfl
 have ix:idx? ((x:Nat):Int) n=some x:=idx_nat hx
 obtain⟨h2,a2,R2⟩:=R1.setNum t hx (s.cnt+1)
 obtain⟨h3,a3,R3⟩:=R2.setLow t hx (s.cnt+1)
 refine W.seq (W.run (by simp only[am,evOp,simprocAttr,initTm,r3,r4,r51,ix,Nat.mul_one,a2,a3]<;>rfl) ?_)
 have R3:Ser h0 h3 sp eb nb lb n ev (enter x s) stv blv bs:=R3
 clear a1 a2 a3 R1 R2 r3 r4 r5 r51
 obtain⟨rv,e1,e2,e3o,e4⟩:=t.row R3.kp hx
 have r2:rdCells h3 sp 2 1=some [.sl eb 0 n n]:=rd_at R3.cell rfl
 have el:=e2.len
 rw[List.length_map,nI_len] at el
 refine W.seq (W.run (by simp only[am,evOp,simprocAttr,initTm,r2,ix,Nat.mul_one,e1,el]<;>rfl) ?_)
 have hm0:=Go.Blk.mid0 p
 have hpe:=Go.Blk.pot_enter (ends:=endsF E) p.hx p.x0
 have hin:∀ i∈endsF E x,(grE n E hE hL).inc i x:=fun i hi=>(hends x p.hx).2 i |>.1 hi
 have hnd:=(hends x p.hx).1
 have hvis:∀ (y i:Nat) (s:DS),y<(grE n E hE hL).n→s.num y=0→(∀ v,s.num v≠0→(visit (grE n E hE hL) (endsF E) sortN f y (some i) s).num v≠0)∧pot (grE n E hE hL) (endsF E) (visit (grE n E hE hL) (endsF E) sortN f y (some i) s)≤pot (grE n E hE hL) (endsF E) s :=
  fun y i s hy hs=>Go.Blk.pot_visit (fun x hx i hi=>(hends x hx).2 i |>.1 hi) f y (some i) s hy hs
 have hel:(endsF E x).length<2 ^ 40:=by unfold pot at hpe hpot; omega
 show W prg _ _ _ _ (fun ts h=>∃ v,_∧∃ stv' blv' bs',Ser h0 h sp eb nb lb n ev ((endsF E x).foldl (edgeS (grE n E hE hL) sortN (fun y i s=>visit (grE n E hE hL) (endsF E) sortN f y (some i) s) x by_) (enter x s)) stv' blv' bs') _
 generalize hL':endsF E x=l at *
 refine W.rng (α:=Unit) (N:=l.length) (fun _ _=>[(0,.ptr sp 0),(1,.int .i64 (x:Nat)),(2,.int .i64 (byI by_)),(42,rv)])
  (fun k _ h'=>∃ (stv:AV) (blv:AV) (bs:List AV) (new:List Nat) (cs:List (List Nat)),Ser h0 h' sp eb nb lb n ev ((l.take k).foldl (edgeS (grE n E hE hL) sortN (fun y i s=>visit (grE n E hE hL) (endsF E) sortN f y (some i) s) x by_) (enter x s)) stv blv bs ∧
   Mid (grE n E hE hL) x by_ s (l.take k) ((l.take k).foldl (edgeS (grE n E hE hL) sortN (fun y i s=>visit (grE n E hE hL) (endsF E) sortN f y (some i) s) x by_) (enter x s)) new cs) () (fun _ _=>rfl) (by omega) (by simp only[hl,am,evOp,simprocAttr,initTm])
  ⟨stv,blv,bs,[],[],R3,hm0⟩ ?_ ?_
 ·clear R3 r2 e1 e2 el
  rintro k _ ts h4 hk ⟨stv,blv,bs,new,cs,R,m⟩ ⟨ei,en,e0,ex,eb',e42,-⟩
  simp only at ei en e0 ex eb' e42
  have hii:(grE n E hE hL).inc l[k] x:=hin _ (List.getElem_mem hk)
  have hiL:l[k]∉l.take k:=fun hm=>by
   have hnd':=hnd
   rw[← List.take_append_drop k l,List.nodup_append] at hnd'
   exact hnd'.2.2 _ hm _ (by rw[List.drop_eq_getElem_cons hk]; exact List.mem_cons_self ..) rfl
  obtain⟨new',cs',m'⟩:=Go.Blk.mid_step hends sortN_perm p hf m hii hiL
  have hpk:=(Go.Blk.pot_fold (sort:=sortN) (by_:=by_) hvis (l.take k) (enter x s) fun i hi=>hin i (List.mem_of_mem_take hi)).2
  have hsucc:(l.take (k+1)).foldl (edgeS (grE n E hE hL) sortN (fun y i s=>visit (grE n E hE hL) (endsF E) sortN f y (some i) s) x by_) (enter x s)=edgeS (grE n E hE hL) sortN (fun y i s=>visit (grE n E hE hL) (endsF E) sortN f y (some i) s) x by_ ((l.take k).foldl (edgeS (grE n E hE hL) sortN (fun y i s=>visit (grE n E hE hL) (endsF E) sortN f y (some i) s) x by_) (enter x s)) l[k]:=by
   rw[List.take_succ_eq_append_getElem hk,List.foldl_append]
   rfl
  rw[List.length_take,Nat.min_eq_left (by omega)] at hpk
  rw[List.take_succ_eq_append_getElem hk]
  rw[List.take_succ_eq_append_getElem hk] at hsucc
  rw[hsucc]
  clear hsucc
  obtain⟨sN,hsN⟩:∃ sN,sN=edgeS (grE n E hE hL) sortN (fun y i s=>visit (grE n E hE hL) (endsF E) sortN f y (some i) s) x by_ ((l.take k).foldl (edgeS (grE n E hE hL) sortN (fun y i s=>visit (grE n E hE hL) (endsF E) sortN f y (some i) s) x by_) (enter x s)) l[k]:=⟨_,rfl⟩
  rw[← hsN] at m' ⊢
  generalize (l.take k).foldl (edgeS (grE n E hE hL) sortN (fun y i s=>visit (grE n E hE hL) (endsF E) sortN f y (some i) s) x by_) (enter x s)=s1 at *
  have hpot1:pot (grE n E hE hL) (endsF E) s1+2≤2 ^ 30:=by omega
  have hstk1:s1.stk.length≤2 ^ 30:=by unfold pot at hpot1; omega
  obtain⟨rv',e1,e2,_,_⟩:=t.row R.kp hx
  have e2:SlI h4 rv (nI l):=e4.kp R.kp e3o
  obtain⟨b1,p1,ia1,ir1,_⟩:=e2.at1 (map_at (f:=eI) (i:=k) (by rw[nI_len]; exact hk))
  rw[show (nI l)[k]'(by rw[nI_len]; exact hk)=((l[k]:Nat):Int) by simp [nI]] at ir1
  refine W.seq (W.run (by simp only[am,evOp,simprocAttr,ei,e42,ia1,ir1]<;>rfl) ?_)
  obtain⟨oi,one,oo⟩:=Go.Blk.inc_oth hii
  have hother:=bother_ok t R hE hL (by omega) hii
  generalize hi:l[k]=i at *
  refine W.seq (W.reg (G.gcall 3 (by simp only[am,evOp,simprocAttr,e0,ex]<;>rfl) rfl (by simp only[am,evOp,simprocAttr,e0,ex]) (by simp only[am,evOp,simprocAttr,e0,ex]<;>rfl) (hother) fun v h5 hq=>?_))
  obtain⟨rfl,x5⟩:=hq
  refine G.run (by simp only[am,evOp,simprocAttr]<;>rfl) ?_
  have hy:(grE n E hE hL).oth i x<n:=Go.Blk.inc_lt oi
  have R5:Ser h0 h5 sp eb nb lb n ev s1 stv blv bs:=by
   have hnx:=R.kp.nx
   refine { kp:=R.kp.trans (x5.kp (Nat.le_refl _)) fun _ _ q=>q,cell:=by rw[x5.gt _ (by omega)]; exact R.cell,gn:=by rw[x5.gt _ (by omega)]; exact R.gn,gl:=by rw[x5.gt _ (by omega)]; exact R.gl,st:=R.st.cong fun c _ ⟨o,m,kk,e⟩=>x5.gt _ (R.st.lt e).1,bl:=R.bl.ext x5 (Nat.le_refl _),rl:=R.rl,rw:=fun j v l a b=>⟨(R.rw j v l a b).1.ext x5 (Nat.le_refl _),(R.rw j v l a b).2⟩,sb:=R.sb}
  clear hother e1 e2 ia1 ir1 R
  have hsp:Pre (grE n E hE hL) (x::an) ((grE n E hE hL).oth i x) (some i) { s1 with stk:=s1.stk++[i]}∨s1.num ((grE n E hE hL).oth i x)≠0:=by
   by_cases q:s1.num ((grE n E hE hL).oth i x)=0
   ·exact .inl (Go.Blk.sub_pre p m hii q)
   ·exact .inr q
  have hsu:=Go.Blk.sub_unm (i:=i) p m
  have hvg:=Go.Blk.visit_good hends sortN_perm f (x::an) ((grE n E hE hL).oth i x) (some i) { s1 with stk:=s1.stk++[i]}
  generalize hyd:(grE n E hE hL).oth i x=y at *
  have iy:idx? ((y:Nat):Int) n=some y:=idx_nat hy
  have goal:∀ {h':AH}{stv blv:AV}{bs:List AV}{s':DS},sN=s'→Ser h0 h' sp eb nb lb n ev s' stv blv bs →
   ∃ (stv:AV) (blv:AV) (bs:List AV) (new:List Nat) (cs:List (List Nat)),Ser h0 h' sp eb nb lb n ev sN stv blv bs∧Mid (grE n E hE hL) x by_ s (l.take k++[i]) sN new cs :=
   fun {h' stv blv bs s'} e q=>⟨stv,blv,bs,new',cs',by rw[e]; exact q,m'⟩
  have rn5:rdCells h5 sp 3 1=some [.sl nb 0 n n]:=rd_at R5.cell rfl
  have ry5:rdCells h5 nb y 1=some [.int .i64 (s1.num y:Nat)]:=rd_at R5.gn (il_at hy)
  have rx5:rdCells h5 nb x 1=some [.int .i64 (s1.num x:Nat)]:=rd_at R5.gn (il_at hx)
  have rst5:rdCells h5 sp 6 1=some [stv]:=rd_at R5.cell rfl
  refine W.block ?_
  by_cases hb:by_=some i
  ·have c1:decide (((i:Nat):Int)=byI by_)=true:=decide_eq_true (by rw[hb]; rfl)
   refine W.seq (W.run (by simp only[am,evOp,simprocAttr,eb',c1]<;>rfl) ?_)
   refine W.yes (by simp only[am,evOp,simprocAttr]) (W.skip ?_)
   refine⟨(),goal ?_ R5,by simp only[hl,am,evOp,simprocAttr,ei,en,e0,ex,eb',e42]⟩
   rw[hsN]; unfold edgeS; rw[if_pos hb]
  have c1:decide (((i:Nat):Int)=byI by_)=false:=decide_eq_false fun e=>hb (by
   cases by_ with
   | none=>change ((i:Nat):Int)=-1 at e; omega
   | some b=>change ((i:Nat):Int)=((b:Nat):Int) at e; congr 1; omega)
  refine W.seq (W.run (by simp only[am,evOp,simprocAttr,eb',c1]<;>rfl) ?_)
  refine W.no (by simp only[am,evOp,simprocAttr]) ?_
  by_cases hy0:s1.num y=0
  ·have c2:decide (((s1.num y:Nat):Int)=0)=true:=decide_eq_true (by omega)
   refine W.seq (W.run (by simp only[am,evOp,simprocAttr,e0,rn5,iy,Nat.mul_one,ry5,c2]<;>rfl) ?_)
   refine W.yes (by simp only[am,evOp,simprocAttr]) ?_
   obtain⟨v',h6,h7,q1,q2,q3,q4,R7⟩:=R5.push t i (by omega)
   refine W.seq (W.run (by simp only[am,evOp,simprocAttr,e0,rst5,q1,q2,q3,q4]<;>rfl) ?_)
   have hpre:Pre (grE n E hE hL) (x::an) y (some i) { s1 with stk:=s1.stk++[i]}:=hsp.resolve_right (fun q=>q hy0)
   have hpp:pot (grE n E hE hL) (endsF E) { s1 with stk:=s1.stk++[i]}≤2 ^ 30:=by rw[Go.Blk.pot_push]; omega
   have hcall:=ih hpre (by omega) hpp R7
   obtain⟨new2,bs2,post⟩:=hvg hpre (by omega)
   have hp2:=(hvis y i { s1 with stk:=s1.stk++[i]} hy hy0).2
   have ed:sN=if (lowS (visit (grE n E hE hL) (endsF E) sortN f y (some i) { s1 with stk:=s1.stk++[i]}) x y).num x≤(lowS (visit (grE n E hE hL) (endsF E) sortN f y (some i) { s1 with stk:=s1.stk++[i]}) x y).low y then (lowS (visit (grE n E hE hL) (endsF E) sortN f y (some i) { s1 with stk:=s1.stk++[i]}) x y).close sortN i else lowS (visit (grE n E hE hL) (endsF E) sortN f y (some i) { s1 with stk:=s1.stk++[i]}) x y:=by
    rw[hsN]
    unfold edgeS
    rw[if_neg hb,hyd,if_pos hy0]
    rfl
   clear hsN hsp hvg
   refine W.seq (W.reg (G.gcall 3 (by simp only[am,evOp,simprocAttr,e0,byI]<;>rfl) rfl (by simp only[am,evOp,simprocAttr,e0,byI]) (by simp only[am,evOp,simprocAttr,e0,byI]<;>rfl) (hcall) fun v h8 hq=>?_))
   obtain⟨stv2,blv2,bs2',R8⟩:=hq
   have hist:i∈(visit (grE n E hE hL) (endsF E) sortN f y (some i) { s1 with stk:=s1.stk++[i]}).stk:=by rw[post.stk]; simp
   generalize visit (grE n E hE hL) (endsF E) sortN f y (some i) { s1 with stk:=s1.stk++[i]}=s2 at *
   refine G.run (by simp only[am,evOp,simprocAttr]<;>rfl) ?_
   have rl8:rdCells h8 sp 4 1=some [.sl lb 0 n n]:=rd_at R8.cell rfl
   have rx8:rdCells h8 lb x 1=some [.int .i64 (s2.low x:Nat)]:=rd_at R8.gl (il_at hx)
   have ry8:rdCells h8 lb y 1=some [.int .i64 (s2.low y:Nat)]:=rd_at R8.gl (il_at hy)
   obtain⟨h9,w9,R9⟩:=R8.setLow t hx (min (s2.low x) (s2.low y))
   refine W.seq (W.run (by simp only[am,evOp,simprocAttr,e0,ex,rl8,ix,iy,Nat.mul_one,rx8,ry8,mnn,w9]<;>rfl) ?_)
   have hp3:pot (grE n E hE hL) (endsF E) (lowS s2 x y)≤2 ^ 30:=by
    have e:pot (grE n E hE hL) (endsF E) (lowS s2 x y)=pot (grE n E hE hL) (endsF E) s2:=rfl
    rw[e]; omega
   have hist3:i∈(lowS s2 x y).stk:=hist
   have R9:Ser h0 h9 sp eb nb lb n ev (lowS s2 x y) stv2 blv2 bs2':=R9
   generalize lowS s2 x y=s3 at *
   have rl9:rdCells h9 sp 4 1=some [.sl lb 0 n n]:=rd_at R9.cell rfl
   have rn9:rdCells h9 sp 3 1=some [.sl nb 0 n n]:=rd_at R9.cell rfl
   have ry9:rdCells h9 lb y 1=some [.int .i64 (s3.low y:Nat)]:=rd_at R9.gl (il_at hy)
   have rx9:rdCells h9 nb x 1=some [.int .i64 (s3.num x:Nat)]:=rd_at R9.gn (il_at hx)
   by_cases hc:s3.num x≤s3.low y
   ·have c3:decide (((s3.num x:Nat):Int)≤((s3.low y:Nat):Int))=true:=decide_eq_true (by omega)
    refine W.seq (W.run (by simp only[am,evOp,simprocAttr,e0,ex,rl9,rn9,ix,iy,Nat.mul_one,rx9,ry9,c3]<;>rfl) ?_)
    refine W.yes (by simp only[am,evOp,simprocAttr]) ?_
    have hcl:=bclose_ok t R9 hist3 (by unfold pot at hp3; omega) (by unfold pot at hp3; omega)
    refine W.reg (G.gcall 2 (by simp only[am,evOp,simprocAttr,e0]<;>rfl) rfl (by simp only[am,evOp,simprocAttr,e0]) (by simp only[am,evOp,simprocAttr,e0]<;>rfl) (hcl) fun v h10 hq=>?_)
    obtain⟨stv3,blv3,bs3,R10⟩:=hq
    refine G.run (by simp only[am,evOp,simprocAttr]<;>rfl) ?_
    refine⟨(),goal (by rw[ed,if_pos hc]) R10,by simp only[hl,am,evOp,simprocAttr,ei,en,e0,ex,eb',e42]⟩
   ·have c3:decide (((s3.num x:Nat):Int)≤((s3.low y:Nat):Int))=false:=decide_eq_false (by omega)
    refine W.seq (W.run (by simp only[am,evOp,simprocAttr,e0,ex,rl9,rn9,ix,iy,Nat.mul_one,rx9,ry9,c3]<;>rfl) ?_)
    refine W.no (by simp only[am,evOp,simprocAttr]) (W.skip ?_)
    refine⟨(),goal (by rw[ed,if_neg hc]) R9,by simp only[hl,am,evOp,simprocAttr,ei,en,e0,ex,eb',e42]⟩
  have c2:decide (((s1.num y:Nat):Int)=0)=false:=decide_eq_false (by omega)
  refine W.seq (W.run (by simp only[am,evOp,simprocAttr,e0,rn5,iy,Nat.mul_one,ry5,c2]<;>rfl) ?_)
  refine W.no (by simp only[am,evOp,simprocAttr]) ?_
  by_cases hlt:s1.num y<s1.num x
  ·have c3:decide (((s1.num y:Nat):Int)<((s1.num x:Nat):Int))=true:=decide_eq_true (by omega)
   refine W.seq (W.run (by simp only[am,evOp,simprocAttr,e0,ex,rn5,ix,iy,Nat.mul_one,ry5,rx5,c3]<;>rfl) ?_)
   refine W.yes (by simp only[am,evOp,simprocAttr]) ?_
   obtain⟨v',h6,h7,q1,q2,q3,q4,R7⟩:=R5.push t i (by omega)
   refine W.seq (W.run (by simp only[am,evOp,simprocAttr,e0,rst5,q1,q2,q3,q4]<;>rfl) ?_)
   have rl7:rdCells h7 sp 4 1=some [.sl lb 0 n n]:=rd_at R7.cell rfl
   have rn7:rdCells h7 sp 3 1=some [.sl nb 0 n n]:=rd_at R7.cell rfl
   have rx7:rdCells h7 lb x 1=some [.int .i64 (s1.low x:Nat)]:=rd_at R7.gl (il_at hx)
   have ry7:rdCells h7 nb y 1=some [.int .i64 (s1.num y:Nat)]:=rd_at R7.gn (il_at hy)
   obtain⟨h8,w8,R8⟩:=R7.setLow t hx (min (s1.low x) (s1.num y))
   refine W.run (by simp only[am,evOp,simprocAttr,e0,ex,rl7,rn7,ix,iy,Nat.mul_one,rx7,ry7,mnn,w8]<;>rfl) ?_
   refine⟨(),goal (s':={ s1 with stk:=s1.stk++[i],low:=upd s1.low x (min (s1.low x) (s1.num y))}) ?_ R8,by simp only[hl,am,evOp,simprocAttr,ei,en,e0,ex,eb',e42]⟩
   rw[hsN]; unfold edgeS; rw[if_neg hb,hyd,if_neg hy0,if_pos hlt]
  ·have c3:decide (((s1.num y:Nat):Int)<((s1.num x:Nat):Int))=false:=decide_eq_false (by omega)
   refine W.seq (W.run (by simp only[am,evOp,simprocAttr,e0,ex,rn5,ix,iy,Nat.mul_one,ry5,rx5,c3]<;>rfl) ?_)
   refine W.no (by simp only[am,evOp,simprocAttr]) (W.skip ?_)
   refine⟨(),goal ?_ R5,by simp only[hl,am,evOp,simprocAttr,ei,en,e0,ex,eb',e42]⟩
   rw[hsN]; unfold edgeS; rw[if_neg hb,hyd,if_neg hy0,if_neg hlt]
 ·rintro _ ts h4 ⟨stv,blv,bs,new,cs,R,m⟩ _
  rw[List.take_length] at R
  refine⟨.tup [],rfl,stv,blv,bs,?_⟩
  show Ser h0 h4 sp eb nb lb n ev ((endsF E x).foldl (edgeS (grE n E hE hL) sortN (fun y i s=>visit (grE n E hE hL) (endsF E) sortN f y (some i) s) x by_) (enter x s)) stv blv bs
  rw[hL']
  exact R
end Go.Proofs.Ytpeemonpdlifbaa
namespace Go.Blk
variable {g:Gr}
theorem rise_ext:∀ {l m:List Nat},l.Pairwise (·<·)→m.Pairwise (·<·)→(∀ x,x∈l↔x∈m)→l=m
 | [],[],_,_,_=>rfl
 | [],y::m,_,_,h=>by have:=(h y).2 (List.mem_cons_self ..); cases this
 | x::l,[],_,_,h=>by have:=(h x).1 (List.mem_cons_self ..); cases this
 | x::l,y::m,h1,h2,h=>by
   obtain⟨a1,a2⟩:=List.pairwise_cons.1 h1
   obtain⟨b1,b2⟩:=List.pairwise_cons.1 h2
   have e:x=y:=by
    have hx:=(h x).1 (List.mem_cons_self ..)
    have hy:=(h y).2 (List.mem_cons_self ..)
    rcases List.mem_cons.1 hx with q|q
    ·exact q
    ·rcases List.mem_cons.1 hy with p|p
     ·exact p.symm
     ·have:=a1 y p; have:=b1 x q; omega
   subst e
   rw[rise_ext a2 b2 fun z=>?_]
   have hz:=h z
   rw[List.mem_cons,List.mem_cons] at hz
   constructor
   ·intro q
    rcases hz.1 (.inr q) with p|p
    ·have:=a1 z q; omega
    ·exact p
   ·intro q
    rcases hz.2 (.inr q) with p|p
    ·have:=b1 z q; omega
    ·exact p
theorem range_rise (n:Nat) (p:Nat→Bool):((List.range n).filter p).Pairwise (·<·):=List.pairwise_lt_range.filter _
theorem blocks_canon {bs cs:List (List Nat)} (nd:bs.flatten.Nodup) (hb:∀ b∈bs,IsBlock g b) (part:∀ i,i<g.m↔∃ b∈bs,i∈b) (hs:∀ b∈bs,b.Pairwise (·<·)) {l:Nat→Nat} (hl:Lst g l) (hp:cs.Perm bs)
 (ho:cs.Pairwise fun a b=>a.headD 0≤b.headD 0):cs=canon g.m l:=by
 have nd':cs.flatten.Nodup:=(hp.flatten.nodup_iff).2 nd
 have hm:∀ b,b∈cs↔b∈bs:=fun b=>hp.mem_iff
 have one:∀ b∈cs,b.headD 0∈b∧b.headD 0<g.m∧l (b.headD 0)=b.headD 0∧b=(List.range g.m).filter fun k=>l k==b.headD 0:=by
  intro b hbc
  have hbk:=hb b ((hm b).1 hbc)
  have hsr:=hs b ((hm b).1 hbc)
  obtain⟨a,r,rfl⟩:∃ a r,b=a::r:=by
   cases b with
   | nil=>exact absurd rfl hbk.1
   | cons a r=>exact⟨a,r,rfl⟩
  have hlt:∀ k∈a::r,k<g.m:=fun k hk=>(part k).2 ⟨_,(hm _).1 hbc,hk⟩
  have ha:=List.mem_cons_self (a:=a) (l:=r)
  have hle:∀ k∈a::r,a≤k:=fun k hk=>by
   rcases List.mem_cons.1 hk with rfl|hk
   ·exact Nat.le_refl _
   ·exact Nat.le_of_lt ((List.pairwise_cons.1 hsr).1 k hk)
  have hla:l a=a:=by
   have h1:=hl.le a (hlt a ha)
   have h2:=hle _ (hbk.cls ha (hl.cls a (hlt a ha)))
   omega
  refine⟨ha,hlt a ha,hla,?_⟩
  refine rise_ext hsr (range_rise _ _) fun k=>?_
  rw[List.mem_filter,List.mem_range,beq_iff_eq]
  show k∈a::r↔k<g.m∧l k=a
  constructor
  ·intro hk
   refine⟨hlt k hk,?_⟩
   rw[← hla]
   exact ((hl.iff (hlt k hk) (hlt a ha)).2 (hbk.2.1 k hk a ha))
  ·rintro⟨h1,h2⟩
   have:Cls g a k:=(hl.iff (hlt a ha) h1).1 (by rw[hla,h2])
   exact hbk.cls ha this
 have heads:(cs.map (·.headD 0))=(List.range g.m).filter fun i=>l i==i:=by
  refine rise_ext ?_ (range_rise _ _) fun x=>?_
  ·rw[List.pairwise_map]
   have hd:cs.Pairwise fun a b=>a.headD 0≠b.headD 0:=by
    have key:∀ (cs:List (List Nat)),cs.flatten.Nodup→(∀ b∈cs,b.headD 0∈b)→cs.Pairwise fun a b=>a.headD 0≠b.headD 0:=by
     intro cs
     induction cs with
     | nil=>intro _ _; exact List.Pairwise.nil
     | cons b cs ih =>
       intro hn hh
       rw[List.flatten_cons,List.nodup_append] at hn
       refine List.pairwise_cons.2 ⟨fun c hc e=>?_,ih hn.2.1 fun b hb=>hh b (List.mem_cons_of_mem _ hb)⟩
       exact hn.2.2 _ (hh b (List.mem_cons_self ..)) _ (List.mem_flatten.2 ⟨c,hc,hh c (List.mem_cons_of_mem _ hc)⟩) e
    exact key cs nd' fun b hb=>(one b hb).1
   exact (ho.and hd).imp fun h=>by omega
  ·rw[List.mem_map,List.mem_filter,List.mem_range,beq_iff_eq]
   constructor
   ·rintro⟨b,hb1,rfl⟩
    exact⟨(one b hb1).2.1,(one b hb1).2.2.1⟩
   ·rintro⟨h1,h2⟩
    obtain⟨b,q1,q2⟩:=(part x).1 h1
    have hbc:=(hm b).2 q1
    obtain⟨a1,a2,a3,a4⟩:=one b hbc
    rw[a4,List.mem_filter,beq_iff_eq] at q2
    exact⟨b,hbc,by rw[← q2.2,h2]⟩
 unfold canon
 rw[← heads,List.map_map]
 conv=>lhs; rw[← List.map_id cs]
 exact List.map_congr_left fun b hb=>(one b hb).2.2.2
end Go.Blk
namespace Go.Blk
variable {g:Gr}{ends:Nat→List Nat}{sort:List Nat→List Nat}
def Srd (sort:List Nat→List Nat) (s:DS):Prop:=∀ b∈s.blk,∃ l,b=sort l
theorem srd_edge {vis:Nat→Nat→DS→DS}{x:Nat}{by_:Option Nat}{i:Nat} (hv:∀ (y i:Nat) (s:DS),Srd sort s→Srd sort (vis y i s)) (s:DS) (hs:Srd sort s):Srd sort (edgeS g sort vis x by_ s i):=by
 unfold edgeS
 split
 ·exact hs
 ·split
  ·have h2:=hv (g.oth i x) i { s with stk:=s.stk++[i]} hs
   generalize vis (g.oth i x) i { s with stk:=s.stk++[i]}=s2 at *
   simp only
   split
   ·intro b hb
    have hb:b∈s2.blk++[sort (s2.stk.drop (s2.stk.idxOf i))]:=hb
    rcases List.mem_append.1 hb with hb|hb
    ·exact h2 b hb
    ·exact⟨_,by simpa using hb⟩
   ·exact h2
  ·split
   ·exact hs
   ·exact hs
theorem srd_visit:∀ (f x:Nat) (by_:Option Nat) (s:DS),Srd sort s→Srd sort (visit g ends sort f x by_ s)
 | 0,_,_,_,h=>h
 | f+1,x,by_,s,h=>by
   have key:∀ (l:List Nat) (s:DS),Srd sort s→Srd sort (l.foldl (edgeS g sort (fun y i s=>visit g ends sort f y (some i) s) x by_) s):=by
    intro l
    induction l with
    | nil=>exact fun s h=>h
    | cons i l ih=>exact fun s h=>ih _ (srd_edge (fun y i s h=>srd_visit f y (some i) s h) s h)
   exact key (ends x) (enter x s) h
theorem srd_run {f:Nat}:∀ k,Srd sort ((List.range k).foldl (from1 g ends sort f) start)
 | 0=>fun b hb=>by cases hb
 | k+1=>by
   rw[List.range_succ,List.foldl_append]
   have h:=srd_run (f:=f) k
   show Srd sort (from1 g ends sort f ((List.range k).foldl (from1 g ends sort f) start) k)
   unfold from1
   split
   ·exact srd_visit f k none _ h
   ·exact h
theorem Btw.pre {s:DS} (b:Btw g s) {x:Nat} (hx:x<g.n) (h:s.num x=0):Pre g [] x none s :=
 ⟨hx,h,fun a ha=>(by cases ha),fun v hv _=>b.black v hv,b.le,b.inj,fun z _ a ha=>(by cases ha),fun c hc=>(by cases hc),fun _=>rfl,fun j hj=>by rw[b.stk] at hj; cases hj⟩
theorem pot_start {m:Nat} (h:∀ x,x<g.n→(ends x).length≤m):pot g ends start≤g.n*(1+2*m):=by
 have key:∀ (l:List Nat),(∀ v∈l,v<g.n)→(l.map fun v=>if start.num v=0 then 1+2*(ends v).length else 0).sum≤l.length*(1+2*m):=by
  intro l
  induction l with
  | nil=>intro _; simp
  | cons a l ih =>
    intro hl
    have h1:=ih fun v hv=>hl v (List.mem_cons_of_mem _ hv)
    have h2:=h a (hl a (List.mem_cons_self ..))
    have h3:start.num a=0:=rfl
    rw[List.map_cons,List.sum_cons,if_pos h3,List.length_cons,Nat.add_mul,Nat.one_mul]
    omega
 have:=key (List.range g.n) fun v hv=>List.mem_range.1 hv
 rw[List.length_range] at this
 unfold pot wt
 show 0+0+0+_≤_
 omega
theorem btw_all (hends:∀ x,x<g.n→(ends x).Nodup∧∀ i,i∈ends x↔g.inc i x) (hsort:∀ l,(sort l).Perm l):∀ k,k≤g.n→Btw g ((List.range k).foldl (from1 g ends sort g.n) start)∧unm g ((List.range k).foldl (from1 g ends sort g.n) start)≤g.n ∧
 pot g ends ((List.range k).foldl (from1 g ends sort g.n) start)≤pot g ends start
 | 0,_=>⟨btw_start,unm_le_n,Nat.le_refl _⟩
 | k+1,hk=>by
   obtain⟨h1,h2,h3⟩:=btw_all hends hsort k (by omega)
   rw[List.range_succ,List.foldl_append]
   obtain⟨a,_,_,d⟩:=btw_step hends hsort h1 (show k<g.n by omega) h2
   refine⟨a,d,?_⟩
   show pot g ends (from1 g ends sort g.n ((List.range k).foldl (from1 g ends sort g.n) start) k)≤_
   unfold from1
   split
   ·rename_i h0
    exact Nat.le_trans (pot_visit (fun x hx i hi=>((hends x hx).2 i).1 hi) g.n k none _ (by omega) h0).2 h3
   ·exact h3
theorem run_canon (hends:∀ x,x<g.n→(ends x).Nodup∧∀ i,i∈ends x↔g.inc i x) (hsort:∀ l,(sort l).Perm l) (hle:∀ l,(sort l).Pairwise (·≤·)) {l:Nat→Nat} (hl:Lst g l) {cs:List (List Nat)} (hp:cs.Perm (runB g ends sort g.n).blk) (ho:cs.Pairwise fun a b=>a.headD 0≤b.headD 0):cs=canon g.m l:=by
 obtain⟨nd,hb,part⟩:=runB_ok hends hsort (Nat.le_refl g.n)
 refine blocks_canon nd hb part (fun b hbm=>?_) hl hp ho
 obtain⟨l',e⟩:=srd_run (g:=g) (ends:=ends) (sort:=sort) (f:=g.n) g.n b hbm
 have h1:b.Pairwise (·≤·):=by rw[e]; exact hle l'
 have h2:b.Nodup:=nd.sublist (List.sublist_flatten_of_mem hbm)
 exact (h1.and h2).imp fun h=>by omega
theorem least_ex {P:Nat→Prop}:∀ n,P n→∃ k,P k∧∀ j,P j→k≤j:=by
 intro n
 induction n using Nat.strongRecOn with
 | _ n ih =>
   intro hn
   by_cases h:∃ j,j<n∧P j
   ·obtain⟨j,h1,h2⟩:=h
    exact ih j h1 h2
   ·exact⟨n,hn,fun j hj=>Decidable.byContradiction fun hc=>h ⟨j,by omega,hj⟩⟩
theorem lst_ex (g:Gr):∃ l,Lst g l:=by
 have h:∀ i,∃ k,Cls g i k∧∀ j,Cls g i j→k≤j:=fun i=>least_ex i .refl
 obtain⟨l,hl⟩:=Classical.axiomOfChoice h
 refine⟨l,fun i _=>(hl i).1,fun i _=>(hl i).2 i .refl,fun i k _ _ r=>?_⟩
 have hc:=Cls.one r
 have h1:=(hl i).2 (l k) (hc.trans (hl k).1)
 have h2:=(hl k).2 (l i) (hc.symm.trans (hl i).1)
 omega
end Go.Blk
namespace Go.Proofs.Ytpeemonpdlifbaa
open Go.Am
theorem csort_ok {h:AH}{b n c:Nat}{vs:List AV}{kf:Nat→Int} (hg:h.get b=some (.cells vs 1 false)) (hl:vs.length=n) (h0:0<n) (hn:n<2 ^ 62) (hr:∀ i v,vs[i]?=some v→SrfRow h b (kf i) v) :
 C prg 34 [.sl b 0 n c,.fn 35 []] h fun _ h'=>∃ is:List Nat,is.Perm (List.range n)∧is.Pairwise (fun i j=>kf i≤kf j)∧Mod h.next h h' b (.cells (is.map fun i=>vs.getD i .un) 1 false):=by
 have hrd:rdCells h b 0 n=some vs:=by
  rw[rdCells_of hg,if_pos (by omega),List.drop_zero,List.take_of_length_le (by omega)]
 refine BS.srf ps34 hrd h0 hn hr fun is hp hs=>?_
 have hil:(is.map fun i=>vs.getD i .un).length=n:=by rw[List.length_map,hp.length_eq,List.length_range]
 refine⟨_,?_,_,_,rfl,is,hp,hs,(Upd.put hg).mod⟩
 rw[wrCells_of hg,if_pos (by omega)]
 simp only[splice,List.take_zero,List.nil_append,Nat.zero_add]
 rw[List.drop_eq_nil_of_le (by omega),List.append_nil]
theorem range_getD {α:Type}{d:α} (l:List α):((List.range l.length).map fun i=>l.getD i d)=l:=by
 refine List.ext_getElem? fun j=>?_
 rw[List.getElem?_map]
 by_cases hj:j<l.length
 ·rw[List.getElem?_range hj,List.getElem?_eq_getElem hj]
  simp only[Option.map_some]
  rw[List.getD_eq_getElem?_getD,List.getElem?_eq_getElem hj]
  rfl
 ·rw[List.getElem?_eq_none (by rw[List.length_range]; omega),List.getElem?_eq_none (by omega)]
  rfl
end Go.Proofs.Ytpeemonpdlifbaa
