/- block.Blocks. -/
import Derived.Test.YthbmhbldmcbnpaaGreatDoorYTAM
import Derived.Test.YthbmhbldmcbnpaaGreatDoorYTAC
import Derived.Test.YthbmhbldmcbnpaaGreatDoorYTAH
import Derived.Test.YthbmhbldmcbnpaaGreatDoorYTAI
import Derived.Test.YthbmhbldmcbnpaaGreatDoorYTAJ
set_option linter.all false
namespace Go.Proofs.YthbmhbldmcbnpaaGreatDoor
open Go.Am
open Go.Blk (Gr DS Lst canon Btw visit pot unm from1)
theorem zW {h:AH}{x:Int×Int}:C prg 51 [.agg (eE x)] h λr h'=>r=.bool (decide (x.1=x.2))∧Ext h.next h h':=by
 refine NX pf51 ?_
 refine ah (ak (by simp only[am,aC,simprocAttr,bI,eE]<;>rfl) ?_)
 have ex:Ext h.next h (h.new (.cells [.int .i64 x.1,.int .i64 x.2] 2 false)):=NU (ae _)
 have g:(h.new (.cells [.int .i64 x.1,.int .i64 x.2] 2 false)).get h.next=some (.cells [.int .i64 x.1,.int .i64 x.2] 2 false):=by rw[AH.get_new,if_pos rfl]
 generalize h.new (.cells [.int .i64 x.1,.int .i64 x.2] 2 false)=h1 at *
 have r1:aj h1 h.next 0 1=some [.int .i64 x.1]:=by rw[aP g]; rfl
 have r2:aj h1 h.next 1 1=some [.int .i64 x.2]:=by rw[aP g]; rfl
 refine ah (ak (M2 r1 r2) ?_)
 exact aV ⟨_,(by simp only[rs,rf51,am,aC,simprocAttr]<;>rfl),rfl,ex⟩
theorem Gj {h:AH}{w v:AV}:C prg 86 [w,.int .i64 0,.int .i64 0,v] h λ_ h'=>h'=h:=by
 refine NX pf86 ?_
 have w1:IntKind.i64.wrap 1=1:=by decide
 refine ah (sV (λts h1=>h1=h∧cG ts 2=.int .i64 0∧cG ts 8=.int .i64 1) (by simp only[am,aC,simprocAttr,bI,Int.zero_add,w1]) ?_)
 rintro ts h0 ⟨rfl,e2,e8⟩
 refine bL (fI (λn ts h1=>h1=h0∧cG ts 2=.int .i64 0∧cG ts 8=.int .i64 1) ?_ (n:=0) ⟨rfl,e2,e8⟩)
 clear e2 e8
 rintro n ts h1 ⟨rfl,e2,e6⟩
 refine ah (ah (ak (M2 e2 e6) ?_))
 refine cj (by simp only[am,aC,simprocAttr]; rfl) ?_
 exact eX ⟨λ_=>⟨.tup [],rfl,rfl⟩,λe=>absurd rfl e⟩
theorem Ge {h:AH}{l:Int}{w v:AV}:C prg 78 [w,.int .i64 0,.int .i64 0,.int .i64 l,v] h λ_ h'=>h'=h:=by
 refine NX pf78 ?_
 refine ah (ak (Mi0) ?_)
 refine ah (ak (Mi0) ?_)
 refine bL (fI (λn ts h1=>h1=h∧cG ts 0=w∧cG ts 1=.int .i64 0∧cG ts 2=.int .i64 0∧cG ts 4=v) ?_ (n:=0) ⟨rfl,Zi0,Zi0,Zi0,Zi0⟩)
 rintro n ts h1 ⟨rfl,e0,e1,e2,e4⟩
 refine bL (ah (ak (by simp only[am,aC,simprocAttr,e1,e2,fp (z:=0-0) (by decide) (by decide)]<;>rfl) ?_))
 refine ah (ah (ak (M0) ?_))
 refine bq (by simp only[am,aC,simprocAttr]; rfl) ?_
 refine ah (bF (bg 4 (M4 e0 e1 e2 e4) rfl (Z4 e0 e1 e2 e4) (M4 e0 e1 e2 e4) (Gj) λv h2 u=>?_))
 subst u
 refine bp (M0) ?_
 exact aV ⟨.tup [],rfl,rfl⟩
theorem CX {h:AH}{w v:AV} (hw:gD w=some (.int .i64 0)):C prg 54 [w,v] h λ_ h'=>h'=h:=by
 refine NX pf54 ?_
 refine ah (ak (Mi1 hw) ?_)
 have wu:IntKind.u64.wrap 0=0:=by decide
 refine bF (bg 4 (Mi1 wu) rfl (Zi1 wu) (Mi1 wu) (pJ) λv h1 hq=>?_)
 obtain⟨rfl,rfl⟩:=hq
 refine bg 1 (Mi0) rfl (Zi0) (Mi0) (Ge) λv h2 hq=>?_
 subst hq
 refine bp (M0) ?_
 exact⟨.tup [],rfl,rfl⟩
theorem nC_nL (l:List Nat):nC l=nL l:=MV l
set_option maxHeartbeats 2000000 in
theorem Dq {h:AH}{n:Nat}{ev:AV}{E:List (Int×Int)} (he:SlE h ev E) (hm:fE (n:Nat) E=true) (hE:InG n E) (hL:∀ i,i<E.length→tlE E i≠hdE E i) :
 C prg 26 [.agg (gW n ev)] h λr h'=>(∀ l,Lst (grE n E hE hL) l→LL h' h.next r (canon E.length l))∧Ext h.next h h':=by
 obtain⟨ec,eo⟩:=he.cells
 obtain⟨m1,m2,m3,m4⟩:=pn hm
 have hBg:∀ {h':AH},SlE h' ev E→_:=fun {h'} q=>Du (n:=n) q hE hL om om
 have hMy:∀ {h':AH},SlE h' ev E→_:=fun {h'} q=>vO (n:=((n:Nat):Int)) q om
 unfold gW at hBg ⊢
 refine NX pf26 ?_
 refine ah (ak (Mi0) ?_)
 have x0:Ext h.next h (h.new (.cells [.int .i64 (n:Nat),ev] 2 false)):=NU (ae _)
 have g0:(h.new (.cells [.int .i64 (n:Nat),ev] 2 false)).get h.next=some (.cells [.int .i64 (n:Nat),ev] 2 false):=by rw[AH.get_new,if_pos rfl]
 have n0:(h.new (.cells [.int .i64 (n:Nat),ev] 2 false)).next=h.next+1:=rfl
 generalize (h.new (.cells [.int .i64 (n:Nat),ev] 2 false))=h1 at *
 have rA:aj h1 h.next 0 2=some [.int .i64 (n:Nat),ev]:=by rw[aP g0]; rfl
 refine ah (ah (bF (bg 1 (Mi1 rA) rfl (Zi1 rA) (Mi1 rA) (hMy (he.ext x0 (ae _))) λr h2 hq=>?_)))
 obtain⟨rfl,x2⟩:=hq
 rw[hm]
 have X2:Ext h.next h h2:=x0.trans (x2.mono om)
 have n2:=x2.nx
 have g2:h2.get h.next=some (.cells [.int .i64 (n:Nat),ev] 2 false):=by rw[x2.gt _ om]; exact g0
 have rE2:aj h2 h.next 1 1=some [ev]:=aJ g2 rfl
 refine bg 4 (Mi2 rE2 @oA) rfl (Zi2 rE2 @oA) (Mi2 rE2 @oA) (uN (P:=λx=>decide (x.1=x.2)) (caps:=[]) (he.ext X2 (ae _)) om (λx _ h' _=>by rw[bZ]; exact zW)) λr h3 hq=>?_
 obtain⟨rfl,x3⟩:=hq
 have hany:(E.any λx=>decide (x.1=x.2))=false:=by
  rw[DB]
  intro x hx
  obtain⟨i,hi,rfl⟩:=db hx
  have:=hL i hi
  obtain⟨q1,q2,q3⟩:=hE i hi
  rw[q1]
  simp only[az]
  omega
 rw[hany]
 refine bp (M0) ?_
 refine cj (Z0) (be ?_)
 have X3:Ext h.next h h3:=X2.trans (x3.mono X2.nx)
 have n3:=x3.nx
 have g3:h3.get h.next=some (.cells [.int .i64 (n:Nat),ev] 2 false):=by rw[x3.gt _ om]; exact g2
 have rA3:aj h3 h.next 0 2=some [.int .i64 (n:Nat),ev]:=by rw[aP g3]; rfl
 refine ah (bF (bg 1 (Mi1 rA3) rfl (Zi1 rA3) (Mi1 rA3) (hBg (he.ext X3 (ae _))) λr h4 hq=>?_))
 obtain⟨sp,eb,nb,lb,rfl,x4,⟨lsp,lnb,llb⟩,t,r4⟩:=hq
 refine bp (M0) ?_
 have X4:Ext h.next h h4:=X3.trans (x4.mono X3.nx)
 have n4:=x4.nx
 have g4:h4.get h.next=some (.cells [.int .i64 (n:Nat),ev] 2 false):=by rw[x4.gt _ om]; exact g3
 have rN4:aj h4 h.next 0 1=some [.int .i64 (n:Nat)]:=aJ g4 rfl
 refine ah (ah (ak (Mi1 rN4) ?_))
 have hends:=ye hE hL
 have hall:=Go.Blk.btw_all hends jo
 have hps:pot (grE n E hE hL) (cT E) Go.Blk.start≤2 ^ 30:=by
  have h1:=Go.Blk.pot_start (g:=grE n E hE hL) (ends:=cT E) (m:=E.length) λx _=>by
   unfold cT
   have:=eN (λi=>decide (tlE E i=x)||decide (hdE E i=x)) (List.range E.length)
   rwa [aZ] at this
  have h2:(grE n E hE hL).n*(1+2*E.length)≤64*(1+2*128):=Nat.mul_le_mul m2 om
  omega
 refine fW (α:=Unit) (N:=n) (λ_ _=>[(1,.ptr h.next 0),(3,.ptr sp 0)])
  (λk _ h'=>∃ stv blv bs,Ser h4 h' sp eb nb lb n ev ((List.range k).foldl (from1 (grE n E hE hL) (cT E) cZ n) Go.Blk.start) stv blv bs) () (λ_ _=>rfl) om (Hi0) ⟨_,_,_,r4⟩ ?_ ?_
 ·rintro k _ ts h5 hk ⟨stv,blv,bs,R⟩ ⟨ei,en,e1,e3,-⟩
  simp only at ei en e1 e3
  obtain⟨b1,b2,b3⟩:=hall k (by show k≤n; omega)
  have hsucc:(List.range (k+1)).foldl (from1 (grE n E hE hL) (cT E) cZ n) Go.Blk.start=from1 (grE n E hE hL) (cT E) cZ n ((List.range k).foldl (from1 (grE n E hE hL) (cT E) cZ n) Go.Blk.start) k:=by
   rw[bT,dv]
   rfl
  rw[hsucc]
  change Btw (grE n E hE hL) ((List.range k).foldl (from1 (grE n E hE hL) (cT E) cZ n) Go.Blk.start) at b1
  change unm (grE n E hE hL) ((List.range k).foldl (from1 (grE n E hE hL) (cT E) cZ n) Go.Blk.start)≤n at b2
  change pot (grE n E hE hL) (cT E) ((List.range k).foldl (from1 (grE n E hE hL) (cT E) cZ n) Go.Blk.start)≤_ at b3
  clear hsucc
  generalize (List.range k).foldl (from1 (grE n E hE hL) (cT E) cZ n) Go.Blk.start=s at *
  have rn:aj h5 sp 3 1=some [.sl nb 0 n n]:=aJ R.cell rfl
  have rk:aj h5 nb k 1=some [.int .i64 (s.num k:Nat)]:=aJ R.gn (fx hk)
  have ik:eQ ((k:Nat):Int) n=some k:=cJ hk
  refine ah (ak (M1 ei) ?_)
  by_cases q:s.num k=0
  ·have c1:decide (((s.num k:Nat):Int)=0)=true:=aq om
   refine ah (ak (by simp only[am,aC,simprocAttr,e3,rn,ik,aD,rk,c1]<;>rfl) ?_)
   refine bq (Z0) ?_
   have hv:=Dl t hE hL om om n (b1.pre (show k<(grE n E hE hL).n from hk) q) b2 om R
   refine bF (bg 2 (by simp only[am,aC,simprocAttr,e3,byI]<;>rfl) rfl (by simp only[am,aC,simprocAttr,e3,byI]) (by simp only[am,aC,simprocAttr,e3,byI]<;>rfl) (hv) λv h6 hq=>?_)
   obtain⟨stv',blv',bs',R'⟩:=hq
   refine bp (M0) ?_
   refine⟨(),⟨stv',blv',bs',?_⟩,H4 ei en e1 e3⟩
   unfold from1
   rw[if_pos q]
   exact R'
  ·have c1:decide (((s.num k:Nat):Int)=0)=false:=ai om
   refine ah (ak (by simp only[am,aC,simprocAttr,e3,rn,ik,aD,rk,c1]<;>rfl) ?_)
   refine cj (Z0) (be ?_)
   refine⟨(),⟨stv,blv,bs,?_⟩,H4 ei en e1 e3⟩
   unfold from1
   rw[if_neg q]
   exact R
 rintro _ ts h5 ⟨stv,blv,bs,R⟩ ⟨e1,e3,-⟩
 simp only at e3
 obtain⟨b1,b2,b3⟩:=hall n (ae n)
 change pot (grE n E hE hL) (cT E) ((List.range n).foldl (from1 (grE n E hE hL) (cT E) cZ n) Go.Blk.start)≤_ at b3
 have hrun:(List.range n).foldl (from1 (grE n E hE hL) (cT E) cZ n) Go.Blk.start=Go.Blk.runB (grE n E hE hL) (cT E) cZ (grE n E hE hL).n:=rfl
 obtain⟨nd,hbk,part⟩:=Go.Blk.runB_ok hends jo (ae (grE n E hE hL).n)
 rw[← hrun] at nd hbk part
 have hcan:=λl (hl:Lst (grE n E hE hL) l) cs=>Go.Blk.run_canon hends jo DW hl (cs:=cs)
 rw[← hrun] at hcan
 generalize (List.range n).foldl (from1 (grE n E hE hL) (cT E) cZ n) Go.Blk.start=s at *
 clear hrun
 have hnx:=R.kp.nx
 have hsp5:=AH.lt_of_get R.cell
 have X5:Ext h.next h h5:=X4.trans ⟨hnx,λc hc=>R.kp.gt c om (by rintro (e|e|e)<;>omega),λc hc=>R.kp.ty c om⟩
 have rb:aj h5 sp 7 1=some [blv]:=aJ R.cell rfl
 have hblk:s.blk.length≤2 ^ 30:=by
  have h1:=bW b3 hps
  unfold pot at h1
  omega
 have hcells:=R.bl.cells
 have hlen:gD blv=some (.int .i64 (s.blk.length:Nat)):=by
  rw[← R.rl]
  rcases R.bl with ⟨hv,hbs⟩|⟨b,m,hb,hv,hg,hl⟩
  ·rw[hv,hbs]; rfl
  ·rw[hv,hl,aD]; rfl
 by_cases hz:s.blk.length=0
 ·have hblk0:s.blk=[]:=bk.1 hz
  rw[hz] at hlen
  refine ah (bF (bg 4 (M3 e3 rb @oA) rfl (Z3 e3 rb @oA) (M3 e3 rb @oA) (CX hlen) λv h6 hq=>?_))
  subst hq
  refine bp (M0) ?_
  refine ah (ak (M2 e3 rb) ?_)
  refine aV ⟨blv,(by simp only[rs,rf26,am,aC,simprocAttr,hcells.1]<;>rfl),λl hl=>?_,X5⟩
  have e:=hcan l hl [] (by rw[hblk0]) List.Pairwise.nil
  change []=canon E.length l at e
  rw[← e]
  have hbs0:bs=[]:=bk.1 (by rw[R.rl]; exact hz)
  exact⟨bs,R.bl.mono om,by rw[hbs0]; rfl,λi v xs e=>by rw[hbs0] at e; simp at e⟩
 have hbl0:bs.length=s.blk.length:=R.rl
 rcases R.bl with ⟨hv,hbs⟩|⟨b,m,hb,hv,hg,hl⟩
 ·rw[hbs] at hbl0
  exact absurd hbl0.symm hz
 have hm0:m=s.blk.length:=by rw[← R.rl,hl,aD]
 subst hm0
 have hb5:=AH.lt_of_get hg
 have hpos:0<s.blk.length:=Nat.pos_of_ne_zero hz
 have hne:∀ r∈s.blk,∃ a xs,r=a::xs∧a<E.length:=λr hr=>by
  obtain⟨q1,_⟩:=hbk r hr
  cases r with
  | nil=>exact absurd rfl q1
  | cons a xs=>exact⟨a,xs,rfl,(part a).2 ⟨_,hr,aK ..⟩⟩
 have hrow:∀ i v,bs[i]?=some v→pM h5 b (((s.blk.getD i []).headD 0:Nat):Int) v:=λi v q1=>by
  have hi:i<s.blk.length:=by have:=(aB.1 q1).1; omega
  obtain⟨a,xs,e3,e4⟩:=hne _ (aO hi)
  have q2:s.blk[i]?=some (a::xs):=by rw[au hi,e3]
  obtain⟨z1,_,z3⟩:=R.rw i v _ q1 q2
  rcases z1 with ⟨_,e⟩|⟨b',m,hb',hv',hg',hl'⟩
  ·cases e
  ·have hm:m=xs.length+1:=by
    rw[aD] at hl'
    rw[← hl']
    simp [nL]
   subst hm
   refine⟨b',0,xs.length,_,hv',λe2=>z3 b' 0 _ _ 0 _ _ hv' (by rw[hv,e2]),?_,om,?_⟩
   ·rw[aF,q2]
    exact aJ hg' rfl
   ·rw[aF,q2]
    show ((a:Nat):Int)<_
    omega
 have hsort:=Gd (c:=s.blk.length) hg hbl0 hpos om hrow
 rw[hv] at rb
 refine ah (bF (bg 4 (M3 e3 rb @oA) rfl (Z3 e3 rb @oA) (M3 e3 rb @oA) (hsort) λv h6 hq=>?_))
 obtain⟨is,hp,hs,hmd⟩:=hq
 refine bp (M0) ?_
 have hspb:sp≠b:=by have:=t.lt.1; omega
 have rb6:aj h6 sp 7 1=some [.sl b 0 s.blk.length s.blk.length]:=by rw[bG (hmd.gt sp hspb hsp5)]; exact rb
 refine ah (ak (M2 e3 rb6) ?_)
 have X6:Ext h.next h h6:=X5.trans (Ext.mono (hmd.mono (m:=b) om |>.toExt (ae _)) om)
 refine aV ⟨.sl b 0 s.blk.length s.blk.length,(by simp only[rs,rf26,am,aC,simprocAttr]<;>rfl),λl hl=>?_,X6⟩
 have hil:is.length=s.blk.length:=by rw[hp.length_eq,aZ]
 have hperm:(is.map λi=>s.blk.getD i []).Perm s.blk:=by
  have:=hp.map λi=>s.blk.getD i []
  rwa [zf] at this
 have hord:(is.map λi=>s.blk.getD i []).Pairwise λa b=>a.headD 0≤b.headD 0:=by
  rw[oQ]
  exact hs.imp λq=>Int.ofNat_le.1 q
 have e:=hcan l hl _ hperm hord
 change _=canon E.length l at e
 rw[← e]
 refine⟨is.map λi=>bs.getD i .un,.inr ⟨b,s.blk.length,om,rfl,hmd.get,by rw[ar,hil,aD]⟩,by rw[ar,ar],λi v xs q1 q2=>?_⟩
 rw[aE] at q1 q2
 obtain⟨x,k1,rfl⟩:=aw.1 q1
 rw[k1] at q2
 simp only[aG,aa] at q2
 subst q2
 have hx:x<s.blk.length:=aL.1 (hp.mem_iff.1 (fz k1))
 have p3:bs[x]?=some (bs.getD x .un):=by
  rw[aF,au (show x<bs.length by omega)]
  rfl
 have p4:s.blk[x]?=some (s.blk.getD x []):=by
  rw[aF,au hx]
  rfl
 obtain⟨w1,_,w3⟩:=R.rw x _ _ p3 p4
 rw[nC_nL]
 have hw:∀ b' n',bs.getD x .un=.sl b' 0 n' n'→b'≠b:=λb' n' e1 e2=>w3 b' 0 n' n' 0 s.blk.length s.blk.length e1 (by rw[hv,e2])
 refine⟨(w1.cong λb' m' e _=>hmd.gt b' (hw b' m' e) (w1.lt e)).mono om,λb1 k1 b2 k2 e1 e2=>?_⟩
 cases e2
 exact hw b1 k1 e1
open Go.Am
open Go.Blk (Gr Lst canon)
def Di (m:Nat) (l:Nat→Nat) (i:Nat):List (List Nat):=((List.range i).filter λi=>l i==i).map λi=>(List.range m).filter λk=>l k==i
def wY (l:Nat→Nat) (i k:Nat):List Nat:=(List.range k).filter λk=>l k==i
theorem uT {m i:Nat}{l:Nat→Nat}:Di m l (i+1)=Di m l i++if l i=i then [wY l i m] else []:=by
 unfold Di
 rw[bT,fm,br]
 congr 1
 by_cases q:l i=i
 ·rw[if_pos q,dY (by simpa using q)]; rfl
 ·rw[if_neg q,eT (by simpa using q)]; rfl
theorem Gp {m:Nat}{l:Nat→Nat} (i:Nat):(Di m l i).length≤i:=by
 unfold Di
 rw[ar]
 have:=eN (λi=>l i==i) (List.range i)
 rwa [aZ] at this
theorem tO {i k:Nat}{l:Nat→Nat}:wY l i (k+1)=wY l i k++if l k=i then [k] else []:=by
 unfold wY
 rw[bT,fm]
 congr 1
 by_cases q:l k=i
 ·rw[if_pos q,dY (by simpa using q)]; rfl
 ·rw[if_neg q,eT (by simpa using q)]; rfl
theorem EI {i:Nat}{l:Nat→Nat} (k:Nat):(wY l i k).length≤k:=by
 unfold wY
 have:=eN (λk=>l k==i) (List.range k)
 rwa [aZ] at this
theorem LL.nil {h:AH}{lo b:Nat} (hb:lo≤b) (hg:h.get b=some (.cells [] 1 false)):LL h lo (.sl b 0 0 0) [] :=
 ⟨[],.inr ⟨b,0,hb,rfl,hg,rfl⟩,rfl,λi v xs e=>by simp at e⟩
set_option maxHeartbeats 2000000 in
theorem ze {h:AH}{n:Nat}{ev:AV}{E:List (Int×Int)} (he:SlE h ev E) (hE:InG n E) (hL:∀ i,i<E.length→tlE E i≠hdE E i) (hxl:E.length<2 ^ 30) (hnl:n<2 ^ 30) :
 C prg 37 [.agg (gW n ev)] h λr h'=>∃ l,Lst (grE n E hE hL) l∧Ext h.next h h'∧LL h' h.next r (canon E.length l):=by
 obtain⟨ec,eo⟩:=he.cells
 have hB:∀ {h':AH},SlE h' ev E→_:=fun {h'} q=>Ce (n:=n) q hE hL hxl hnl
 unfold gW at hB ⊢
 refine NX pf37 ?_
 refine ah (ak (Mi0) ?_)
 have x0:Ext h.next h (h.new (.cells [.int .i64 (n:Nat),ev] 2 false)):=NU (ae _)
 have g0:(h.new (.cells [.int .i64 (n:Nat),ev] 2 false)).get h.next=some (.cells [.int .i64 (n:Nat),ev] 2 false):=by rw[AH.get_new,if_pos rfl]
 have n0:(h.new (.cells [.int .i64 (n:Nat),ev] 2 false)).next=h.next+1:=rfl
 generalize (h.new (.cells [.int .i64 (n:Nat),ev] 2 false))=h1 at *
 have rA:aj h1 h.next 0 2=some [.int .i64 (n:Nat),ev]:=by rw[aP g0]; rfl
 refine ah (bF (bg 1 (Mi1 rA) rfl (Zi1 rA) (Mi1 rA) (hB (he.ext x0 (ae _))) λr h2 hq=>?_))
 obtain⟨b,l,rfl,hb,x2,g2,lst⟩:=hq
 refine bp (M0) ?_
 have hb2:=AH.lt_of_get g2
 have X2:Ext h.next h h2:=x0.trans (x2.mono om)
 have x3:Ext h2.next h2 (h2.new (.cells [] 1 false)):=NU (ae _)
 have g3:(h2.new (.cells [] 1 false)).get h2.next=some (.cells [] 1 false):=by rw[AH.get_new,if_pos rfl]
 refine ah (ak (M0) ?_)
 generalize (h2.new (.cells [] 1 false))=h3 at *
 refine ah (ah (ak (M0) ?_))
 refine er (α:=AV) (N:=E.length) (λi a=>[(3,.sl b 0 E.length E.length),(4,a),(5,.int .i64 (i:Nat))])
  (λi a h'=>Ext h2.next h2 h'∧LL h' h2.next a (Di E.length l i)) (.sl h2.next 0 0 0) (H1 @aW)
  ⟨x3,LL.nil (ae _) g3⟩ ?_ ?_ ?_
 ·rintro i a ts h4 hi ⟨jx,ja⟩ ⟨e3,e4,e5,-⟩
  simp only at e3 e4 e5
  exact⟨_,(M3 e3 e5 @bw),Z0,H3 e3 e4 e5⟩
 ·rintro i a ts h4 hi ⟨jx,ja⟩ ⟨e3,e4,e5,-⟩
  simp only at e3 e4 e5
  have w5:=dF (k:=i) om
  have n4:=jx.nx
  have ii:eQ ((i:Nat):Int) E.length=some i:=cJ hi
  have g4:h4.get b=some (.cells (il E.length λi=>((l i:Nat):Int)) 1 false):=by rw[jx.gt _ hb2]; exact g2
  have rsi:aj h4 b i 1=some [.int .i64 (l i:Nat)]:=aJ g4 (fx hi)
  by_cases q:l i=i
  ·have c1:(!decide (((l i:Nat):Int)=((i:Nat):Int)))=false:=by rw[aq om]; rfl
   refine ah (ah (ak (M6 e3 e5 ii @aD rsi c1) ?_))
   refine cj (Z0) (be ?_)
   have x5:Ext h4.next h4 (h4.new (.cells [] 1 false)):=NU (ae _)
   have g5:(h4.new (.cells [] 1 false)).get h4.next=some (.cells [] 1 false):=by rw[AH.get_new,if_pos rfl]
   refine ah (ak (M0) ?_)
   generalize (h4.new (.cells [] 1 false))=h5 at *
   refine ah (ah (ak (M0) ?_))
   refine er (α:=AV) (N:=E.length) (λk r=>[(3,.sl b 0 E.length E.length),(4,a),(5,.int .i64 (i:Nat)),(6,r),(7,.int .i64 (k:Nat))])
    (λk r h'=>Ext h4.next h4 h'∧IsSl h' 1 h4.next r (nC (wY l i k))) (.sl h4.next 0 0 0) (H4 e3 e4 e5 @aW)
    ⟨x5,.inr ⟨h4.next,0,ae _,rfl,g5,rfl⟩⟩ ?_ ?_ ?_
   ·clear e3 e4 e5
    rintro k r ts h6 hk ⟨kx,ka⟩ ⟨e3,e4,e5,e6,e7,-⟩
    simp only at e3 e4 e5 e6 e7
    exact⟨_,(M3 e3 e7 @bw),Z0,H5 e3 e4 e5 e6 e7⟩
   ·clear e3 e4 e5
    rintro k r ts h6 hk ⟨kx,ka⟩ ⟨e3,e4,e5,e6,e7,-⟩
    simp only at e3 e4 e5 e6 e7
    have w7:=dF (k:=k) om
    have ik:eQ ((k:Nat):Int) E.length=some k:=cJ hk
    have g6:h6.get b=some (.cells (il E.length λi=>((l i:Nat):Int)) 1 false):=by rw[kx.gt _ om]; exact g4
    have rk:aj h6 b k 1=some [.int .i64 (l k:Nat)]:=aJ g6 (fx hk)
    by_cases q2:l k=i
    ·have c2:decide (((l k:Nat):Int)=((i:Nat):Int))=true:=aq om
     have hrl:=EI (l:=l) (i:=i) k
     obtain⟨r',h7,a7,i7,x7,n7⟩:=ka.push (bytes:=8) [.int .i64 (k:Nat)] (by have:=kx.nx; omega) om rfl rfl (by rw[fj,jH]; unfold aQ; omega) (by rw[fj,jH]; unfold aQ; omega)
     refine ah (ak (by simp only[am,aC,simprocAttr,e3,e5,e7,ik,aD,rk,c2]<;>rfl) ?_)
     refine bq (Z0) ?_
     refine ak (M3 e6 e7 a7) ?_
     refine⟨r',⟨kx.trans (x7.mono (ae _)),?_⟩,_,(M2 e7 w7),H3 e3 e4 e5⟩
     rw[tO,if_pos q2,pj]
     exact i7
    ·have c2:decide (((l k:Nat):Int)=((i:Nat):Int))=false:=ai om
     refine ah (ak (by simp only[am,aC,simprocAttr,e3,e5,e7,ik,aD,rk,c2]<;>rfl) ?_)
     refine cj (Z0) (be ?_)
     refine⟨r,⟨kx,?_⟩,_,(M2 e7 w7),H4 e3 e4 e5 e6⟩
     rw[tO,if_neg q2,bZ]
     exact ka
   ·clear e3 e4 e5
    rintro r ts h6 ⟨kx,ka⟩ ⟨e3,e4,e5,e6,e7,-⟩
    simp only at e3 e4 e5 e6
    have n6:=kx.nx
    have g7:(h6.new (.cells [r] 1 false)).get h6.next=some (.cells [r] 1 false):=by rw[AH.get_new,if_pos rfl]
    have x7:Ext h6.next h6 (h6.new (.cells [r] 1 false)):=NU (ae _)
    have n7:(h6.new (.cells [r] 1 false)).next=h6.next+1:=rfl
    have hcl:=Gp (m:=E.length) (l:=l) i
    have rc:=ka.cells
    obtain⟨a',h8,a8,i8,x8,_⟩:=((ja.ext kx (ae _)).ext x7 (ae _)).push (x:=h6.next) (v:=r) (xs:=wY l i E.length) om ((ka.ext x7 (ae _)).mono n4) g7 om (λb' m e=>by
     have:=LL.lt ja e; omega) (λb1 m1 b2 m2 e1 e2=>by
     have h1:=LL.lt ja e2
     rcases ka with ⟨rfl,_⟩|⟨b',m',hb',rfl,_⟩
     ·cases e1
     ·cases e1; omega) (by unfold aQ; omega)
    refine ak (by simp only[am,aC,simprocAttr,e4,e6,rc.1,rc.2,a8]<;>rfl) ?_
    refine⟨a',⟨jx.trans ((kx.mono n4).trans ((x7.mono om).trans x8)),?_⟩,_,(M2 e5 w5),H1 e3⟩
    rw[uT,if_pos q]
    exact i8
  ·have c1:(!decide (((l i:Nat):Int)=((i:Nat):Int)))=true:=by rw[ai om]; rfl
   refine ah (ah (ak (M6 e3 e5 ii @aD rsi c1) ?_))
   refine bq (Z0) (eX ?_)
   refine⟨λ_=>?_,λq=>absurd rfl q⟩
   refine⟨a,⟨jx,?_⟩,_,(M2 e5 w5),H2 e3 e4⟩
   rw[uT,if_neg q,bZ]
   exact ja
 ·rintro a ts h4 ⟨jx,ja⟩ ⟨e3,e4,e5,-⟩
  simp only at e4
  obtain⟨vs,j1,j2⟩:=ja
  have ac:=j1.cells
  refine ah (ak (M1 e4) ?_)
  exact aV ⟨a,(by simp only[rs,rf37,am,aC,simprocAttr,ac.1]<;>rfl),l,lst,X2.trans (jx.mono X2.nx),LL.mono ⟨vs,j1,j2⟩ X2.nx⟩
theorem IQ {h:AH}{n x:Nat}{ev bv:AV}{E:List (Int×Int)}{b:List Nat} (he:SlE h ev E) (hb:SlN h bv b) (hE:InG n E) (hlt:∀ i∈b,i<E.length) (hbl:b.length<2 ^ 40) :
 C prg 36 [.agg (gW n ev),bv,.int .i64 (x:Nat)] h λr h'=>r=.bool (b.any λi=>decide (tlE E i=x)||decide (hdE E i=x))∧Ext h.next h h':=by
 obtain⟨ec,eo⟩:=he.cells
 have bl':=hb.len
 rw[ar,ar] at bl'
 unfold gW
 refine NX pf36 ?_
 refine ah (ak (Mi0) ?_)
 have x0:Ext h.next h (h.new (.cells [.int .i64 (n:Nat),ev] 2 false)):=NU (ae _)
 have g0:(h.new (.cells [.int .i64 (n:Nat),ev] 2 false)).get h.next=some (.cells [.int .i64 (n:Nat),ev] 2 false):=by rw[AH.get_new,if_pos rfl]
 have n0:(h.new (.cells [.int .i64 (n:Nat),ev] 2 false)).next=h.next+1:=rfl
 generalize (h.new (.cells [.int .i64 (n:Nat),ev] 2 false))=h1 at *
 refine ah (ah (ak (Mi0) ?_))
 refine er (α:=Unit) (N:=b.length) (λk _=>[(1,bv),(2,.int .i64 (x:Nat)),(3,.ptr h.next 0),(7,.int .i64 (k:Nat))])
  (λk _ h'=>Ext h.next h h'∧h.next+1≤h'.next∧h'.get h.next=some (.cells [.int .i64 (n:Nat),ev] 2 false)∧(b.take k).any (λi=>decide (tlE E i=x)||decide (hdE E i=x))=false) () (Hi1 @aW) ⟨x0,om,g0,by simp⟩ ?_ ?_ ?_
 ·rintro k _ ts h2 hk ⟨jx,jn,jg,ja⟩ ⟨e1,e2,e3,e7,-⟩
  simp only at e1 e2 e3 e7
  exact⟨_,(M4 e1 e7 bl' @bw),Z0,H4 e1 e2 e3 e7⟩
 ·rintro k _ ts h2 hk ⟨jx,jn,jg,ja⟩ ⟨e1,e2,e3,e7,-⟩
  simp only at e1 e2 e3 e7
  have w7:=dF (k:=k) om
  have him:=hlt _ (aO hk)
  obtain⟨q1,q2,q3⟩:=hE _ him
  have rE:aj h2 h.next 1 1=some [ev]:=aJ jg rfl
  obtain⟨b1,p1,a1,r1,_⟩:=(hb.ext jx (ae _)).at1 (i:=k) (y:=.int .i64 (b[k]:Nat)) (by rw[aE,aE,au hk]; rfl)
  obtain⟨b2,p2,a2,r2,_⟩:=(he.ext jx (ae _)).at (dp (f:=eE) him)
  rw[q1] at r2
  have hst:(b.take (k+1)).any (λi=>decide (tlE E i=x)||decide (hdE E i=x))=((b.take k).any (λi=>decide (tlE E i=x)||decide (hdE E i=x))||(decide (tlE E b[k]=x)||decide (hdE E b[k]=x))):=by
   rw[aX hk,List.any_append]
   simp
  have hall:b.any (λi=>decide (tlE E i=x)||decide (hdE E i=x))=((b.take (k+1)).any (λi=>decide (tlE E i=x)||decide (hdE E i=x))||(b.drop (k+1)).any (λi=>decide (tlE E i=x)||decide (hdE E i=x))):=by
   rw[← List.any_append,bP]
  generalize b[k]=i at *
  obtain⟨h3,w3,x3,g3,n3⟩:=dI (h:=h2) (z:=[.int .i64 0,.int .i64 0]) (cs:=[.int .i64 (tlE E i:Nat),.int .i64 (hdE E i:Nat)]) (e:=2) rfl
  refine ah (ak (by simp only[am,aC,simprocAttr,e1,e3,e7,rE,a1,r1,a2,r2,eE,w3]<;>rfl) ?_)
  have ra:aj h3 h2.next 0 1=some [.int .i64 (tlE E i:Nat)]:=aJ g3 rfl
  have rb:aj h3 h2.next 1 1=some [.int .i64 (hdE E i:Nat)]:=aJ g3 rfl
  have X3:=jx.trans (x3.mono om)
  by_cases k1:tlE E i=x
  ·have c1:decide (((tlE E i:Nat):Int)=((x:Nat):Int))=true:=aq om
   refine ah (ak (M3 e2 ra c1) ?_)
   refine bq (Z0) (ah (ak (M0) ?_))
   refine aV ⟨.bool true,(by simp only[rs,rf36,am,aC,simprocAttr]<;>rfl),?_,X3⟩
   rw[hall,hst,aq k1]
   simp
  have c1:decide (((tlE E i:Nat):Int)=((x:Nat):Int))=false:=ai om
  by_cases k2:hdE E i=x
  ·have c2:decide (((hdE E i:Nat):Int)=((x:Nat):Int))=true:=aq om
   refine ah (ak (M5 e2 ra rb c1 c2) ?_)
   refine bq (Z0) (ah (ak (M0) ?_))
   refine aV ⟨.bool true,(by simp only[rs,rf36,am,aC,simprocAttr]<;>rfl),?_,X3⟩
   rw[hall,hst,aq k2]
   simp
  have c2:decide (((hdE E i:Nat):Int)=((x:Nat):Int))=false:=ai om
  refine ah (ak (M5 e2 ra rb c1 c2) ?_)
  refine cj (Z0) (be ?_)
  refine⟨(),⟨X3,by have:=x3.nx; omega,by rw[x3.gt _ om]; exact jg,?_⟩,_,(M2 e7 w7),H3 e1 e2 e3⟩
  rw[hst,ja,ai k1,ai k2]
  rfl
 ·rintro _ ts h2 ⟨jx,jn,jg,ja⟩ _
  refine ah (ak (M0) ?_)
  rw[bO] at ja
  exact aV ⟨.bool false,(by simp only[rs,rf36,am,aC,simprocAttr]<;>rfl),by rw[ja],jx⟩
open Go.Am
open Go.Blk (Gr Lst canon)
open Go.Spl (nBits)
theorem oC {ks:List IntKind}{xs ys:List AV}:du .eql (.flat ks) (.agg xs) (.agg ys)=(dJ ks xs ys).map .bool:=by
 simp only[du,hU,eqF]
theorem my {a b c d:Int}:dJ [.i64,.i64] [.int .i64 a,.int .i64 b] [.int .i64 c,.int .i64 d]=some (decide ((a,b)=(c,d))):=by
 by_cases e:a=c
 ·subst e
  by_cases e:b=d
  ·subst e; simp [dJ]
  ·have:(b==d)=false:=by rw[beq_eq_false_iff_ne]; exact e
   simp [dJ,this,e]
 ·have:(a==c)=false:=by rw[beq_eq_false_iff_ne]; exact e
  simp [dJ,this,e]
theorem Cn {α:Type}{l:List α}:l.Nodup↔∀ i (hi:i<l.length),∀ k (hk:k<l.length),k<i→l[i]≠l[k]:=by
 rw[List.Nodup,dh]
 constructor
 ·intro h i hi k hk hki e
  exact h k i hk hi hki e.symm
 ·intro h i j hi hj hij e
  exact h j hj i hi hij e.symm
theorem Ci {n:Int}{E:List (Int×Int)}:lF n E↔fE n E=true∧∀ i (hi:i<E.length),E[i].1≠E[i].2∧∀ k (hk:k<E.length),k<i→¬ (E[i]=E[k]∨(E[i].1=E[k].2∧E[i].2=E[k].1)):=by
 unfold lF
 rw[Cn]
 constructor
 ·rintro⟨h1,h2,h3⟩
  refine⟨h1,λi hi=>⟨h2 _ (aO hi),λk hk hki q=>?_⟩⟩
  have:=h3 i (by simpa using hi) k (by simpa using hk) hki
  rw[bt,bt] at this
  exact this (AQ.2 q)
 ·rintro⟨h1,h2⟩
  refine⟨h1,λe he=>?_,λi hi k hk hki q=>?_⟩
  ·obtain⟨i,hi,rfl⟩:=db he
   exact (h2 i hi).1
  ·rw[bt,bt] at q
   exact (h2 i (by simpa using hi)).2 k (by simpa using hk) hki (AQ.1 q)
set_option maxHeartbeats 1000000 in
theorem BW {h:AH}{n:Int}{ev:AV}{E:List (Int×Int)} (he:SlE h ev E) (hxl:E.length<2 ^ 40):C prg 35 [.agg [.int .i64 n,ev]] h λr h'=>∃ b,r=.bool b∧(b=true↔lF n E)∧Ext h.next h h':=by
 obtain⟨ec,eo⟩:=he.cells
 have el:=he.len
 rw[ar] at el
 refine NX pf35 ?_
 refine ah (ak (Mi0) ?_)
 have x0:Ext h.next h (h.new (.cells [.int .i64 n,ev] 2 false)):=NU (ae _)
 have g0:(h.new (.cells [.int .i64 n,ev] 2 false)).get h.next=some (.cells [.int .i64 n,ev] 2 false):=by rw[AH.get_new,if_pos rfl]
 have n0:(h.new (.cells [.int .i64 n,ev] 2 false)).next=h.next+1:=rfl
 generalize (h.new (.cells [.int .i64 n,ev] 2 false))=h1 at *
 have rA:aj h1 h.next 0 2=some [.int .i64 n,ev]:=by rw[aP g0]; rfl
 refine ah (ah (bF (bg 1 (Mi1 rA) rfl (Zi1 rA) (Mi1 rA) (IL (n:=n) (he.ext x0 (ae _)) hxl) λr h2 hq=>?_)))
 obtain⟨rfl,x2⟩:=hq
 have X2:Ext h.next h h2:=x0.trans (x2.mono om)
 refine bp (M0) ?_
 cases hm:fE n E with
 | false =>
   refine bq (Z0) (ah (ak (M0) ?_))
   exact aV ⟨.bool false,(by simp only[rs,rf35,am,aC,simprocAttr]<;>rfl),false,rfl,⟨(λq=>by cases q),λq=>by rw[q.1] at hm; cases hm⟩,X2⟩
 | true =>
 refine cj (Z0) (be ?_)
 have n2:=x2.nx
 have g2:h2.get h.next=some (.cells [.int .i64 n,ev] 2 false):=by rw[x2.gt _ om]; exact g0
 have hP:=Ci (n:=n) (E:=E)
 refine ah (ah (ak (Mi0) ?_))
 refine er (α:=Unit) (N:=E.length) (λi _=>[(1,.ptr h.next 0),(3,.int .i64 (i:Nat))])
  (λi _ h'=>(∀ j (hj:j<E.length),j<i→E[j].1≠E[j].2∧∀ k (hk:k<E.length),k<j→¬ (E[j]=E[k]∨(E[j].1=E[k].2∧E[j].2=E[k].1)))∧h'.get h.next=some (.cells [.int .i64 n,ev] 2 false)∧Ext h.next h h') () (Hi1 @aW)
  ⟨λj hj q=>absurd q (bm _),g2,X2⟩ ?_ ?_ ?_
 ·rintro i _ ts h4 hi ⟨j1,j2,j3⟩ ⟨e1,e3,-⟩
  simp only at e1 e3
  have rE:aj h4 h.next 1 1=some [ev]:=aJ j2 rfl
  exact⟨_,(M5 e1 e3 rE el @bw),Z0,H2 e1 e3⟩
 ·rintro i _ ts h4 hi ⟨j1,j2,j3⟩ ⟨e1,e3,-⟩
  simp only at e1 e3
  have w3:=dF (k:=i) om
  have rE:aj h4 h.next 1 1=some [ev]:=aJ j2 rfl
  obtain⟨b1,p1,a1,r1,_⟩:=(he.ext j3 (ae _)).at (dp (f:=eE) hi)
  have n4:=j3.nx
  have hnl:=AH.lt_of_get j2
  obtain⟨h5,w5,x5,g5,n5⟩:=dI (h:=h4) (z:=[.int .i64 0,.int .i64 0]) (cs:=[.int .i64 E[i].1,.int .i64 E[i].2]) (e:=2) rfl
  have r1:aj h4 b1 p1 2=some [.int .i64 E[i].1,.int .i64 E[i].2]:=r1
  refine ah (ak (M6 e1 e3 rE a1 r1 w5) ?_)
  have g5':h5.get h.next=some (.cells [.int .i64 n,ev] 2 false):=by rw[x5.gt _ hnl]; exact j2
  have X5:Ext h.next h h5:=j3.trans (x5.mono n4)
  refine ah (ah (ak (M0) ?_))
  refine er (α:=Unit) (N:=i) (λk _=>[(1,.ptr h.next 0),(3,.int .i64 (i:Nat)),(4,.ptr h4.next 0),(5,.int .i64 (k:Nat))])
   (λk _ h'=>(∀ k' (hk:k'<E.length),k'<k→¬ (E[i]=E[k']∨(E[i].1=E[k'].2∧E[i].2=E[k'].1)))∧h'.get h.next=some (.cells [.int .i64 n,ev] 2 false)∧h'.get h4.next=some (.cells [.int .i64 E[i].1,.int .i64 E[i].2] 2 false)∧Ext h.next h h') () (H3 e1 e3 @aW)
   ⟨λk' hk q=>absurd q (bm _),g5',g5,X5⟩ ?_ ?_ ?_
  ·clear e1 e3
   rintro k _ ts h6 hk ⟨k1,k2,k3,k4⟩ ⟨e1,e3,e4,e5,-⟩
   simp only at e1 e3 e4 e5
   exact⟨_,(M3 e3 e5 @bw),Z0,H4 e1 e3 e4 e5⟩
  ·clear e1 e3
   rintro k _ ts h6 hk ⟨k1,k2,k3,k4⟩ ⟨e1,e3,e4,e5,-⟩
   simp only at e1 e3 e4 e5
   have hk':k<E.length:=om
   have w5:=dF (k:=k) om
   have rE:aj h6 h.next 1 1=some [ev]:=aJ k2 rfl
   obtain⟨b2,p2,a2,r2,_⟩:=(he.ext k4 (ae _)).at (dp (f:=eE) hk')
   have hnl6:=AH.lt_of_get k2
   have hnl7:=AH.lt_of_get k3
   obtain⟨h7,w7,x7,g7,n7⟩:=dI (h:=h6) (z:=[.int .i64 0,.int .i64 0]) (cs:=[.int .i64 E[k].1,.int .i64 E[k].2]) (e:=2) rfl
   have r2:aj h6 b2 p2 2=some [.int .i64 E[k].1,.int .i64 E[k].2]:=r2
   refine ah (ak (M6 e1 e5 rE a2 r2 w7) ?_)
   have X7:Ext h.next h h7:=k4.trans (x7.mono k4.nx)
   have g72:h7.get h4.next=some (.cells [.int .i64 E[i].1,.int .i64 E[i].2] 2 false):=by rw[x7.gt _ hnl7]; exact k3
   have rI:aj h7 h4.next 0 2=some [.int .i64 E[i].1,.int .i64 E[i].2]:=by rw[aP g72]; rfl
   have rK:aj h7 h6.next 0 2=some [.int .i64 E[k].1,.int .i64 E[k].2]:=by rw[aP g7]; rfl
   have rI0:aj h7 h4.next 0 1=some [.int .i64 E[i].1]:=aJ g72 rfl
   have rI1:aj h7 h4.next 1 1=some [.int .i64 E[i].2]:=aJ g72 rfl
   have rK0:aj h7 h6.next 0 1=some [.int .i64 E[k].1]:=aJ g7 rfl
   have rK1:aj h7 h6.next 1 1=some [.int .i64 E[k].2]:=aJ g7 rfl
   have hbad:(E[i]=E[k]∨(E[i].1=E[k].2∧E[i].2=E[k].1))→∃ v,iP ((mV (mV ts 2 (.bool false)) 2 (.bool false))) h7 []=some v:=λ_=>⟨_,rfl⟩
   have hnext:¬ (E[i]=E[k]∨(E[i].1=E[k].2∧E[i].2=E[k].1))→∀ k' (hk:k'<E.length),k'<k+1→¬ (E[i]=E[k']∨(E[i].1=E[k'].2∧E[i].2=E[k'].1)):=λq k' hk2 hlt=>by
    by_cases e:k'=k
    ·subst e; exact q
    ·exact k1 k' hk2 om
   have hno:(E[i]=E[k]∨(E[i].1=E[k].2∧E[i].2=E[k].1))→¬ lF n E:=λq p=>(hP.1 p).2 i hi |>.2 k hk' hk q
   have g71:h7.get h.next=some (.cells [.int .i64 n,ev] 2 false):=by rw[x7.gt _ hnl6]; exact k2
   by_cases q1:E[i]=E[k]
   ·have c1:decide ((E[i].1,E[i].2)=(E[k].1,E[k].2))=true:=aq (by rw[q1])
    refine ah (ak (M6 e4 rI rK @oC @my c1) ?_)
    refine bq (Z0) (ah (ak (M0) ?_))
    exact aV ⟨.bool false,(by simp only[rs,rf35,am,aC,simprocAttr]<;>rfl),false,rfl,⟨(λq=>by cases q),λq=>absurd q (hno (.inl q1))⟩,X7⟩
   have c1:decide ((E[i].1,E[i].2)=(E[k].1,E[k].2))=false:=ai λq=>q1 (Prod.ext (congrArg Prod.fst q) (congrArg Prod.snd q))
   by_cases q2:E[i].1=E[k].2
   ·have c2:decide (E[i].1=E[k].2)=true:=aq q2
    by_cases q3:E[i].2=E[k].1
    ·have c3:decide (E[i].2=E[k].1)=true:=aq q3
     refine ah (ak (M12 e4 rI rK rI0 rI1 rK0 rK1 @oC @my c1 c2 c3) ?_)
     refine bq (Z0) (ah (ak (M0) ?_))
     exact aV ⟨.bool false,(by simp only[rs,rf35,am,aC,simprocAttr]<;>rfl),false,rfl,⟨(λq=>by cases q),λq=>absurd q (hno (.inr ⟨q2,q3⟩))⟩,X7⟩
    ·have c3:decide (E[i].2=E[k].1)=false:=ai q3
     refine ah (ak (M12 e4 rI rK rI0 rI1 rK0 rK1 @oC @my c1 c2 c3) ?_)
     refine cj (Z0) (be ?_)
     exact⟨(),⟨hnext λq=>q.elim q1 λq=>q3 q.2,g71,g72,X7⟩,_,(M2 e5 w5),H3 e1 e3 e4⟩
   ·have c2:decide (E[i].1=E[k].2)=false:=ai q2
    refine ah (ak (M12 e4 rI rK rI0 rI1 rK0 rK1 @oC @my c1 c2 c2) ?_)
    refine cj (Z0) (be ?_)
    exact⟨(),⟨hnext λq=>q.elim q1 λq=>q2 q.1,g71,g72,X7⟩,_,(M2 e5 w5),H3 e1 e3 e4⟩
  ·clear e1 e3
   rintro _ ts h6 ⟨k1,k2,k3,k4⟩ ⟨e1,e3,e4,e5,-⟩
   simp only at e1 e3 e4 e5
   have rI0:aj h6 h4.next 0 1=some [.int .i64 E[i].1]:=aJ k3 rfl
   have rI1:aj h6 h4.next 1 1=some [.int .i64 E[i].2]:=aJ k3 rfl
   by_cases q:E[i].1=E[i].2
   ·have c1:decide (E[i].1=E[i].2)=true:=aq q
    refine ah (ak (M4 e4 rI0 rI1 c1) ?_)
    refine bq (Z0) (ah (ak (M0) ?_))
    exact aV ⟨.bool false,(by simp only[rs,rf35,am,aC,simprocAttr]<;>rfl),false,rfl,⟨(λq=>by cases q),λp=>absurd q ((hP.1 p).2 i hi).1⟩,k4⟩
   ·have c1:decide (E[i].1=E[i].2)=false:=ai q
    refine ah (ak (M4 e4 rI0 rI1 c1) ?_)
    refine cj (Z0) (be ?_)
    refine⟨(),⟨λj hj hji=>?_,k2,k4⟩,_,(M2 e3 w3),H1 e1⟩
    by_cases e:j=i
    ·subst e; exact⟨q,λk hk hkj=>k1 k hk hkj⟩
    ·exact j1 j hj om
 ·rintro _ ts h4 ⟨j1,j2,j3⟩ ⟨e1,e3,-⟩
  refine ah (ak (M0) ?_)
  exact aV ⟨.bool true,(by simp only[rs,rf35,am,aC,simprocAttr]<;>rfl),true,rfl,⟨λ_=>hP.2 ⟨hm,λi hi=>j1 i hi hi⟩,λ_=>rfl⟩,j3⟩
end Go.Proofs.YthbmhbldmcbnpaaGreatDoor
