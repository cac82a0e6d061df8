/- block.Blocks. -/
import Derived.Test.YtklpoimdclflmaaGreatDoorTTAO
set_option linter.all false
namespace Go.Proofs.YtklpoimdclflmaaGreatDoor
open Go.Am
open Go.Blk (Gr DS Lst canon Btw visit pot unm from1)
variable {E:List (Int×Int)}{ev v w:AV}{h:AH}{l:Nat->Nat}{m n:Nat}
def Dh{x:Int×Int}:C prg 53 [.agg (eE x)] h λr h'=>r=.bool (decide (x.1=x.2))/\Ext h.next h h':=by
 refine Oj rfl ?_;refine ae (ak (by simp only[am,aL,simprocAttr,bV,eE]<;>rfl) ?_);have ex:Ext h.next h (h.new (.cells [.int .i64 x.1,.int .i64 x.2] 2 false)):=Oe (ab _);have g:(h.new (.cells [.int .i64 x.1,.int .i64 x.2] 2 false)).get h.next=some (.cells [.int .i64 x.1,.int .i64 x.2] 2 false):=by rw[AH.get_new,if_pos rfl]
 generalize h.new (.cells [.int .i64 x.1,.int .i64 x.2] 2 false)=h1 at *
 have r1:ai h1 h.next 0 1=some [.int .i64 x.1]:=by rw[aR g];rfl
 have r2:ai h1 h.next 1 1=some [.int .i64 x.2]:=by rw[aR g];rfl
 refine ae (ak (M2 r1 r2) ?_);exact bu ⟨_,(by simp only[rs,rf53,am,aL,simprocAttr]<;>rfl),rfl,ex⟩
def JI:C prg 114 [w,.int .i64 0,.int .i64 0,v] h λ_ h'=>h'=h:=by
 refine Oj rfl ?_;have w1:IntKind.i64.wrap 1=1:=by decide
 refine ae (zz (λts h1=>h1=h/\db ts 2=.int .i64 0/\db ts 8=.int .i64 1) (by simp only[am,aL,simprocAttr,bV,Int.zero_add,w1]) ?_);rintro ts h0 ⟨rfl,e2,e8⟩;refine dl (hG (λn ts h1=>h1=h0/\db ts 2=.int .i64 0/\db ts 8=.int .i64 1) ?_ (n:=0) ⟨rfl,e2,e8⟩);clear e2 e8;rintro n ts h1 ⟨rfl,e2,e6⟩;refine ae (ae (ak (M2 e2 e6) ?_));refine dC (by simp only[am,aL,simprocAttr];rfl) ?_;exact fM ⟨λ_=>⟨.tup [],rfl,rfl⟩,λe=>absurd rfl e⟩
def JB{l:Int}:C prg 92 [w,.int .i64 0,.int .i64 0,.int .i64 l,v] h λ_ h'=>h'=h:=by
 refine Oj rfl ?_;refine ae (ak (Mi0) ?_);refine ae (ak (Mi0) ?_);refine dl (hG (λn ts h1=>h1=h/\db ts 0=w/\db ts 1=.int .i64 0/\db ts 2=.int .i64 0/\db ts 4=v) ?_ (n:=0) ⟨rfl,Zi0,Zi0,Zi0,Zi0⟩);rintro n ts h1 ⟨rfl,e0,e1,e2,e4⟩;refine dl (ae (ak (by simp only[am,aL,simprocAttr,e1,e2,fU (z:=0-0) (by decide) (by decide)]<;>rfl) ?_));refine ae (ae (ak (M0) ?_));refine cZ (by simp only[am,aL,simprocAttr];rfl) ?_;refine ae (bM (bj 4 (M4 e0 e1 e2 e4) rfl (Z4 e0 e1 e2 e4) (M4 e0 e1 e2 e4) (JI) λv h2 u=>?_));subst u;refine bI (M0) ?_;exact bu ⟨.tup [],rfl,rfl⟩
def Gf(hw:fP w=some (.int .i64 0)):C prg 56 [w,v] h λ_ h'=>h'=h:=by
 refine Oj rfl ?_;refine ae (ak (Mi1 hw) ?_);have wu:IntKind.u64.wrap 0=0:=by decide
 refine bM (bj 4 (Mi1 wu) rfl (Zi1 wu) (Mi1 wu) (xZ) λv h1 hq=>?_);obtain⟨rfl,rfl⟩:=hq;refine bj 1 (Mi0) rfl (Zi0) (Mi0) (JB) λv h2 hq=>?_;subst hq;refine bI (M0) ?_;exact⟨.tup [],rfl,rfl⟩
def nC_nL(l:List Nat):nC l=nL l:=Na l
set_option maxHeartbeats 2000000 in
def GA(he:SlE h ev E)(hm:fC (n:Nat) E=true)(hE:InG n E)(hL:∀i,i<E.length->tlE E i≠hdE E i) :
 C prg 29 [.agg (gW n ev)] h λr h'=>(∀l,Lst (grE n E hE hL) l->LL h' h.next r (canon E.length l))/\Ext h.next h h':=by
 obtain⟨ec,eo⟩:=he.cells;obtain⟨m1,m2,m3,m4⟩:=iX hm;have hBg:∀{h':AH},SlE h' ev E->_:=fun {h'} q=>GC (n:=n) q hE hL om om;have hMy:∀{h':AH},SlE h' ev E->_:=fun {h'} q=>yN (n:=((n:Nat):Int)) q om;unfold gW at hBg |-;refine Oj rfl ?_;refine ae (ak (Mi0) ?_);have x0:Ext h.next h (h.new (.cells [.int .i64 (n:Nat),ev] 2 false)):=Oe (ab _);have g0:(h.new (.cells [.int .i64 (n:Nat),ev] 2 false)).get h.next=some (.cells [.int .i64 (n:Nat),ev] 2 false):=by rw[AH.get_new,if_pos rfl]
 have n0:(h.new (.cells [.int .i64 (n:Nat),ev] 2 false)).next=h.next+1:=rfl;generalize (h.new (.cells [.int .i64 (n:Nat),ev] 2 false))=h1 at *
 have rA:ai h1 h.next 0 2=some [.int .i64 (n:Nat),ev]:=by rw[aR g0];rfl
 refine ae (ae (bM (bj 1 (Mi1 rA) rfl (Zi1 rA) (Mi1 rA) (hMy (he.ext x0 (ab _))) λr h2 hq=>?_)));obtain⟨rfl,x2⟩:=hq;rw[hm];have X2:Ext h.next h h2:=x0.trans (x2.mono om);have n2:=x2.nx;have g2:h2.get h.next=some (.cells [.int .i64 (n:Nat),ev] 2 false):=by rw[x2.gt _ om];exact g0
 have rE2:ai h2 h.next 1 1=some [ev]:=bq g2 rfl;refine bj 4 (Mi2 rE2 @lT) rfl (Zi2 rE2 @lT) (Mi2 rE2 @lT) (xP (P:=λx=>decide (x.1=x.2)) (caps:=[]) (he.ext X2 (ab _)) om (λx _ h' _=>by rw[bF];exact Dh)) λr h3 hq=>?_;obtain⟨rfl,x3⟩:=hq;have hany:(E.any λx=>decide (x.1=x.2))=false:=by
  rw[sm];intro x hx;obtain⟨i,hi,rfl⟩:=iW hx;have:=hL i hi;obtain⟨q1,q2,q3⟩:=hE i hi;rw[q1];simp only[aK];omega
 rw[hany];refine bI (M0) ?_;refine dC (Z0) (bz ?_);have X3:Ext h.next h h3:=X2.trans (x3.mono X2.nx);have n3:=x3.nx;have g3:h3.get h.next=some (.cells [.int .i64 (n:Nat),ev] 2 false):=by rw[x3.gt _ om];exact g2
 have rA3:ai h3 h.next 0 2=some [.int .i64 (n:Nat),ev]:=by rw[aR g3];rfl
 refine ae (bM (bj 1 (Mi1 rA3) rfl (Zi1 rA3) (Mi1 rA3) (hBg (he.ext X3 (ab _))) λr h4 hq=>?_));obtain⟨sp,eb,nb,lb,rfl,x4,⟨lsp,lnb,llb⟩,t,r4⟩:=hq;refine bI (M0) ?_;have X4:Ext h.next h h4:=X3.trans (x4.mono X3.nx);have n4:=x4.nx;have g4:h4.get h.next=some (.cells [.int .i64 (n:Nat),ev] 2 false):=by rw[x4.gt _ om];exact g3
 have rN4:ai h4 h.next 0 1=some [.int .i64 (n:Nat)]:=bq g4 rfl;refine ae (ae (ak (Mi1 rN4) ?_));have hends:=Bj hE hL;have hall:=Go.Blk.btw_all hends lG;have hps:pot (grE n E hE hL) (dI E) Go.Blk.start<=2^30:=by
  have h1:=Go.Blk.pot_start (g:=grE n E hE hL) (ends:=dI E) (m:=E.length) λx _=>by
   unfold dI;have:=cX (λi=>decide (tlE E i=x)||decide (hdE E i=x)) (List.range E.length);rwa [cw]at this
  have h2:(grE n E hE hL).n*(1+2*E.length)<=64*(1+2*128):=Nat.mul_le_mul m2 om;omega
 refine fi (α:=Unit) (N:=n) (λ_ _=>[(1,.ptr h.next 0),(3,.ptr sp 0)])
  (λk _ h'=>∃stv blv bs,Ser h4 h' sp eb nb lb n ev ((List.range k).foldl (from1 (grE n E hE hL) (dI E) dT n) Go.Blk.start) stv blv bs) () (λ_ _=>rfl) om (Hi0) ⟨_,_,_,r4⟩ ?_ ?_
 .rintro k _ ts h5 hk ⟨stv,blv,bs,R⟩ ⟨ei,en,e1,e3,-⟩;simp only at ei en e1 e3;obtain⟨b1,b2,b3⟩:=hall k (by show k<=n;omega);have hsucc:(List.range (k+1)).foldl (from1 (grE n E hE hL) (dI E) dT n) Go.Blk.start=from1 (grE n E hE hL) (dI E) dT n ((List.range k).foldl (from1 (grE n E hE hL) (dI E) dT n) Go.Blk.start) k:=by
   rw[cP,gp];rfl
  rw[hsucc];change Btw (grE n E hE hL) ((List.range k).foldl (from1 (grE n E hE hL) (dI E) dT n) Go.Blk.start)at b1;change unm (grE n E hE hL) ((List.range k).foldl (from1 (grE n E hE hL) (dI E) dT n) Go.Blk.start)<=n at b2;change pot (grE n E hE hL) (dI E) ((List.range k).foldl (from1 (grE n E hE hL) (dI E) dT n) Go.Blk.start)<=_ at b3;clear hsucc;generalize (List.range k).foldl (from1 (grE n E hE hL) (dI E) dT n) Go.Blk.start=s at *
  have rn:ai h5 sp 3 1=some [.sl nb 0 n n]:=bq R.cell rfl;have rk:ai h5 nb k 1=some [.int .i64 (s.num k:Nat)]:=bq R.gn (lP hk);have ik:fe ((k:Nat):Int) n=some k:=cK hk;refine ae (ak (M1 ei) ?_);by_cases q:s.num k=0
  .have c1:decide (((s.num k:Nat):Int)=0)=true:=aH om;refine ae (ak (M6 e3 rn ik @aP rk c1) ?_);refine cZ (Z0) ?_;have hv:=Gx t hE hL om om n (b1.pre (show k<(grE n E hE hL).n from hk) q) b2 om R;refine bM (bj 2 (by simp only[am,aL,simprocAttr,e3,byI]<;>rfl) rfl (by simp only[am,aL,simprocAttr,e3,byI]) (by simp only[am,aL,simprocAttr,e3,byI]<;>rfl) (hv) λv h6 hq=>?_);obtain⟨stv',blv',bs',R'⟩:=hq;refine bI (M0) ?_;refine⟨(),⟨stv',blv',bs',?_⟩,H4 ei en e1 e3⟩;unfold from1;rw[if_pos q];exact R'
  .have c1:decide (((s.num k:Nat):Int)=0)=false:=aw om;refine ae (ak (M6 e3 rn ik @aP rk c1) ?_);refine dC (Z0) (bz ?_);refine⟨(),⟨stv,blv,bs,?_⟩,H4 ei en e1 e3⟩;unfold from1;rw[if_neg q];exact R
 rintro _ ts h5 ⟨stv,blv,bs,R⟩ ⟨e1,e3,-⟩;simp only at e3;obtain⟨b1,b2,b3⟩:=hall n (ab n);change pot (grE n E hE hL) (dI E) ((List.range n).foldl (from1 (grE n E hE hL) (dI E) dT n) Go.Blk.start)<=_ at b3;have hrun:(List.range n).foldl (from1 (grE n E hE hL) (dI E) dT n) Go.Blk.start=Go.Blk.runB (grE n E hE hL) (dI E) dT (grE n E hE hL).n:=rfl;obtain⟨nd,hbk,part⟩:=Go.Blk.runB_ok hends lG (ab (grE n E hE hL).n);rw[<-hrun]at nd hbk part;have hcan:=λl (hl:Lst (grE n E hE hL) l) cs=>Go.Blk.run_canon hends lG GV hl (cs:=cs);rw[<-hrun]at hcan;generalize (List.range n).foldl (from1 (grE n E hE hL) (dI E) dT n) Go.Blk.start=s at *
 clear hrun;have hnx:=R.kp.nx;have hsp5:=AH.lt_of_get R.cell;have X5:Ext h.next h h5:=X4.trans ⟨hnx,λc hc=>R.kp.gt c om (by rintro (e|e|e)<;>omega),λc hc=>R.kp.ty c om⟩;have rb:ai h5 sp 7 1=some [blv]:=bq R.cell rfl;have hblk:s.blk.length<=2^30:=by
  have h1:=cu b3 hps;unfold pot at h1;omega
 have hcells:=R.bl.cells;have hlen:fP blv=some (.int .i64 (s.blk.length:Nat)):=by
  rw[<-R.rl];rcases R.bl with⟨hv,hbs⟩|⟨b,m,hb,hv,hg,hl⟩
  .rw[hv,hbs];rfl
  .rw[hv,hl,aP];rfl
 by_cases hz:s.blk.length=0
 .have hblk0:s.blk=[]:=aW.1 hz;rw[hz]at hlen;refine ae (bM (bj 4 (M3 e3 rb @lT) rfl (Z3 e3 rb @lT) (M3 e3 rb @lT) (Gf hlen) λv h6 hq=>?_));subst hq;refine bI (M0) ?_;refine ae (ak (M2 e3 rb) ?_);refine bu ⟨blv,(by simp only[rs,rf29,am,aL,simprocAttr,hcells.1]<;>rfl),λl hl=>?_,X5⟩;have e:=hcan l hl [] (by rw[hblk0]) List.Pairwise.nil;change []=canon E.length l at e;rw[<-e];have hbs0:bs=[]:=aW.1 (by rw[R.rl];exact hz);exact⟨bs,R.bl.mono om,by rw[hbs0];rfl,λi v xs e=>by rw[hbs0]at e;simp at e⟩
 have hbl0:bs.length=s.blk.length:=R.rl;rcases R.bl with⟨hv,hbs⟩|⟨b,m,hb,hv,hg,hl⟩
 .rw[hbs]at hbl0;exact absurd hbl0.symm hz
 have hm0:m=s.blk.length:=by rw[<-R.rl,hl,aP]
 subst hm0;have hb5:=AH.lt_of_get hg;have hpos:0<s.blk.length:=Nat.pos_of_ne_zero hz;have hne:∀r∈s.blk,∃a xs,r=a::xs/\a<E.length:=λr hr=>by
  obtain⟨q1,_⟩:=hbk r hr;cases r with
  |nil=>exact absurd rfl q1
  |cons a xs=>exact⟨a,xs,rfl,(part a).2 ⟨_,hr,aM ..⟩⟩
 have hrow:∀i v,bs[i]?=some v->tc h5 b (((s.blk.getD i []).headD 0:Nat):Int) v:=λi v q1=>by
  have hi:i<s.blk.length:=by have:=(au.1 q1).1;omega
  obtain⟨a,xs,e3,e4⟩:=hne _ (ar hi);have q2:s.blk[i]?=some (a::xs):=by rw[aj hi,e3]
  obtain⟨z1,_,z3⟩:=R.rw i v _ q1 q2;rcases z1 with⟨_,e⟩|⟨b',m,hb',hv',hg',hl'⟩
  .cases e
  .have hm:m=xs.length+1:=by
    rw[aP]at hl';rw[<-hl'];simp[nL]
   subst hm;refine⟨b',0,xs.length,_,hv',λe2=>z3 b' 0 _ _ 0 _ _ hv' (by rw[hv,e2]),?_,om,?_⟩
   .rw[aA,q2];exact bq hg' rfl
   .rw[aA,q2];show((a:Nat):Int)<_;omega
 have hsort:=Jz (c:=s.blk.length) hg hbl0 hpos om hrow;rw[hv]at rb;refine ae (bM (bj 4 (M3 e3 rb @lT) rfl (Z3 e3 rb @lT) (M3 e3 rb @lT) (hsort) λv h6 hq=>?_));obtain⟨is,hp,hs,hmd⟩:=hq;refine bI (M0) ?_;have hspb:sp≠b:=by have:=t.lt.1;omega
 have rb6:ai h6 sp 7 1=some [.sl b 0 s.blk.length s.blk.length]:=by rw[bi (hmd.gt sp hspb hsp5)];exact rb
 refine ae (ak (M2 e3 rb6) ?_);have X6:Ext h.next h h6:=X5.trans (Ext.mono (hmd.mono (m:=b) om |>.toExt (ab _)) om);refine bu ⟨.sl b 0 s.blk.length s.blk.length,(by simp only[rs,rf29,am,aL,simprocAttr]<;>rfl),λl hl=>?_,X6⟩;have hil:is.length=s.blk.length:=by rw[hp.length_eq,cw]
 have hperm:(is.map λi=>s.blk.getD i []).Perm s.blk:=by
  have:=hp.map λi=>s.blk.getD i [];rwa [Ch]at this
 have hord:(is.map λi=>s.blk.getD i []).Pairwise λa b=>a.headD 0<=b.headD 0:=by
  rw[eN];exact hs.imp λq=>Int.ofNat_le.1 q
 have e:=hcan l hl _ hperm hord;change _=canon E.length l at e;rw[<-e];refine⟨is.map λi=>bs.getD i .un,.inr ⟨b,s.blk.length,om,rfl,hmd.get,by rw[ah,hil,aP]⟩,by rw[ah,ah],λi v xs q1 q2=>?_⟩;rw[aV]at q1 q2;obtain⟨x,k1,rfl⟩:=aG.1 q1;rw[k1]at q2;simp only[aQ,aa]at q2;subst q2;have hx:x<s.blk.length:=aX.1 (hp.mem_iff.1 (eP k1));have p3:bs[x]?=some (bs.getD x .un):=by
  rw[aA,aj (show x<bs.length by omega)];rfl
 have p4:s.blk[x]?=some (s.blk.getD x []):=by
  rw[aA,aj hx];rfl
 obtain⟨w1,_,w3⟩:=R.rw x _ _ p3 p4;rw[nC_nL];have hw:∀b' n',bs.getD x .un=.sl b' 0 n' n'->b'≠b:=λb' n' e1 e2=>w3 b' 0 n' n' 0 s.blk.length s.blk.length e1 (by rw[hv,e2]);refine⟨(w1.cong λb' m' e _=>hmd.gt b' (hw b' m' e) (w1.lt e)).mono om,λb1 k1 b2 k2 e1 e2=>?_⟩;cases e2;exact hw b1 k1 e1
open Go.Am
open Go.Blk (Gr Lst canon)
abbrev P3:=List Int×List (Int×Int)×List Int
def f4(t:AV×AV×AV×AV):List AV:=[t.1,t.2.1,t.2.2.1,t.2.2.2]
def PartC(h:AH)(a:AV)(x:AV×AV×AV×AV)(p:P3):Prop :=
 x.1=.int .i64 (p.1.length:Nat)/\SlE h x.2.1 p.2.1/\SlI h x.2.2.1 p.1/\SlI h x.2.2.2 p.2.2/\Sep x.2.1 a/\Sep x.2.2.1 a/\Sep x.2.2.2 a
def PL(h:AH)(lo:Nat)(a:AV)(L:List P3):Prop :=
 ∃xs:List (AV×AV×AV×AV),IsSl h 4 lo a (xs.flatMap f4)/\xs.length=L.length/\∀(i:Nat) (x:AV×AV×AV×AV) (p:P3),xs[i]?=some x->L[i]?=some p->PartC h a x p
def PartC.cong{h h':AH}{a a':AV}{x:AV×AV×AV×AV}{p:P3}(hp:PartC h a x p)(hk:∀c,c<h.next->(∀o n k,a≠.sl c o n k)->h'.get c=h.get c)(ha:∀w,(∀b o n c,w=.sl b o n c->b<h.next)->Sep w a->Sep w a'):PartC h' a' x p:=by
 obtain⟨h1,h2,h3,h4,h5,h6,h7⟩:=hp
 exact⟨h1,h2.cong λb o n c e=>hk b (h2.lt e) λo' n' c' e2=>h5 b o n c o' n' c' e e2,h3.cong λb o n c e=>hk b (h3.lt e) λo' n' c' e2=>h6 b o n c o' n' c' e e2,h4.cong λb o n c e=>hk b (h4.lt e) λo' n' c' e2=>h7 b o n c o' n' c' e e2,
  ha _ (λ_ _ _ _ e=>h2.lt e) h5,ha _ (λ_ _ _ _ e=>h3.lt e) h6,ha _ (λ_ _ _ _ e=>h4.lt e) h7⟩
def PL.ext{h h':AH}{lo hi:Nat}{a:AV}{L:List P3}(hl:PL h lo a L)(hx:Ext hi h h')(hn:h.next<=hi):PL h' lo a L:=by
 obtain⟨xs,h1,h2,h3⟩:=hl;exact⟨xs,h1.ext hx hn,h2,λi x p q1 q2=>(h3 i x p q1 q2).cong (λc hc _=>hx.gt _ om) λ_ _ q=>q⟩
def PL.mono{h:AH}{lo lo':Nat}{a:AV}{L:List P3}(hl:PL h lo a L)(hn:lo'<=lo):PL h lo' a L:=by
 obtain⟨xs,h1,h2⟩:=hl;exact⟨xs,h1.mono hn,h2⟩
def NL(xs:List (AV×AV×AV×AV)):(xs.flatMap f4).length=xs.length*4:=dE (f:=f4) (e:=4) (λ_=>rfl) xs
def PL.len{h:AH}{lo:Nat}{a:AV}{L:List P3}(hl:PL h lo a L):fP a=some (.int .i64 (L.length:Nat)):=by
 obtain⟨xs,h1,h2,h3⟩:=hl;have:=(Ob (f:=f4) om (λ_=>rfl) h1).len;rwa [ah,h2]at this
def PL.cells{h:AH}{lo:Nat}{a:AV}{L:List P3}(hl:PL h lo a L):a.cells=[a]/\a.one=true:=by
 obtain⟨xs,h1,h2,h3⟩:=hl;exact h1.cells
def PL.lt{h:AH}{lo:Nat}{a:AV}{L:List P3}(hl:PL h lo a L){b o n c:Nat}(e:a=.sl b o n c):b<h.next:=by
 obtain⟨xs,h1,h2,h3⟩:=hl;exact h1.lt e
def PL.at{h:AH}{lo:Nat}{a:AV}{L:List P3}(hl:PL h lo a L){i:Nat}(hi:i<L.length):∃b o x,jZ 4 a (.int .i64 (i:Nat))=some (.ptr b o)/\ai h b o 4=some (f4 x)/\PartC h a x L[i]/\b<h.next/\∀j y,(f4 x)[j]?=some y->ai h b (o+j) 1=some [y]:=by
 obtain⟨xs,h1,h2,h3⟩:=hl;have hs:=Ob (f:=f4) om (λ_=>rfl) h1;obtain⟨b,o,q1,q2,q3,q4⟩:=hs.at (cm (f:=f4) (i:=i) om);exact⟨b,o,_,q1,q2,h3 i _ _ (aj om) (aj hi),q4,q3⟩
def PL.push{lo q:Nat}{a:AV}{L:List P3}{x:AV×AV×AV×AV}{p:P3}(hl:PL h lo a L)(hlo:lo<=h.next)(hp:PartC h a x p)(hx:h.get q=some (.cells (f4 x) 4 false))(hxl:lo<=q)(hxa:∀b n,a=.sl b 0 n n->b≠q)(hb:L.length<2^30) :
 ∃a' h',gh h 4 80 a (.sl q 0 1 1)=some (a',h')/\PL h' lo a' (L++[p])/\Ext lo h h'/\h'.next=h.next+1/\(∀b o n c,a'=.sl b o n c->b=h.next)/\∀c,c<h.next->(∀b n,a=.sl b 0 n n->c≠b)->h'.get c=h.get c:=by
 obtain⟨xs,h1,h2,h3⟩:=hl;have ho:(f4 x).all AV.one=true:=by
  obtain⟨k1,k2,k3,k4,_⟩:=hp;simp only[f4,gQ,vW,k1,k2.cells.2,k3.cells.2,k4.cells.2,DP,te]
 have hd:(xs.flatMap f4).length/4=L.length:=by rw[NL,cQ _ om,h2]
 obtain⟨a',h',q1,q2,q3,q4,q5,q6,q7⟩:=h1.app (bytes:=80) hlo om hx hxl hxa rfl ho (by rw[hd];unfold bf;omega) (by rw[hd];unfold bf;omega);have keep:∀{x p},PartC h a x p->PartC h' a' x p:=fun {x p} hp=>hp.cong (λc hc hne=>q6 c hc λb n e e2=>hne 0 n n (by rw[e,e2])) λw hw _ b o n c o' n' c' e1 e2=>by
  have:=hw b o n c e1;rw[q4]at e2;cases e2;omega
 refine⟨a',h',q1,⟨xs++[x],?_,by rw[aJ,aJ,h2];rfl,λi y r e1 e2=>?_⟩,q3,q5,λb o n c e=>by rw[q4]at e;cases e;rfl,q6⟩
 .rw[br];simpa using q2
 .by_cases hi:i<xs.length
  .rw[bC hi]at e1;rw[bC om]at e2;exact keep (h3 i y r e1 e2)
  .have hil:i<(xs++[x]).length:=(au.1 e1).1;rw[aJ,bd,bm]at hil;have hi':i=xs.length:=om;subst hi';rw[bw om,dV]at e1;rw[h2,bw om,dV]at e2;cases e1;cases e2;exact keep hp
def lL(n:Nat)(E:List (Int×Int))(b:List Nat):P3:=(vsM n E (nI b),fo n E (nI b),nI b)
def km(hm:fC (n:Nat) E=true):InG n E:=λi hi=>by
 obtain⟨m1,m2,m3,m4⟩:=iX hm;obtain⟨a,b,e,ha,hb⟩:=nH (bK.1 m4 _ (ar hi));have hg:E.getD i (0,0)=E[i]:=by rw[aA,aj hi];rfl
 unfold tlE hdE;rw[hg,e];simp only[aO];exact⟨trivial,ha,hb⟩
def pG{n:Int}(hg:ft n E):∀i,i<E.length->tlE E i≠hdE E i:=λi hi=>by
 obtain⟨hm,hl,_⟩:=hg;have hn:n=((n.toNat:Nat):Int):=by
  have:=hm;unfold fC at this;simp only[aU,aK]at this;omega
 rw[hn]at hm;obtain⟨q1,q2,q3⟩:=km hm i hi;have:=hl _ (ar hi);rw[q1]at this;simp only at this;omega
def eG{b:List Nat}(hb:b∈canon m l):b≠[]/\(∀i∈b,i<m)/\b.length<=m/\b.Nodup:=by
 unfold canon at hb;obtain⟨i,hi,rfl⟩:=bp.1 hb;rw[bB,aX]at hi;refine⟨λe=>?_,λk hk=>?_,?_,List.nodup_range.filter _⟩
 .have:i∈(List.range m).filter λk=>l k==i:=by rw[bB,aX];exact hi
  rw[e]at this;cases this
 .rw[bB,aX]at hk;exact hk.1
 .have:=cX (λk=>l k==i) (List.range m);rwa [cw]at this
def lB:(canon m l).length<=m:=by
 unfold canon;rw[ah];have:=cX (λi=>l i==i) (List.range m);rwa [cw]at this
set_option maxHeartbeats 2000000 in
def sO{n:Int}(he:SlE h ev E)(hxl:E.length<2^30) :
 C prg 12 [.agg [.int .i64 n,ev]] h λr h'=>Ext h.next h h'/\(¬ft n E->r=.tup [.nils,.int .i64 1]) /\
   (ft n E->∃a,r=.tup [a,.int .i64 0]/\∀(hE:InG n.toNat E) (hL:∀i,i<E.length->tlE E i≠hdE E i) l,Lst (grE n.toNat E hE hL) l->PL h' h.next a ((canon E.length l).map (lL n.toNat E))):=by
 obtain⟨ec,eo⟩:=he.cells;refine Oj rfl ?_;refine ae (ak (Mi0) ?_);have x0:Ext h.next h (h.new (.cells [.int .i64 n,ev] 2 false)):=Oe (ab _);have g0:(h.new (.cells [.int .i64 n,ev] 2 false)).get h.next=some (.cells [.int .i64 n,ev] 2 false):=by rw[AH.get_new,if_pos rfl]
 have n0:(h.new (.cells [.int .i64 n,ev] 2 false)).next=h.next+1:=rfl;generalize (h.new (.cells [.int .i64 n,ev] 2 false))=h1 at *
 have rA:ai h1 h.next 0 2=some [.int .i64 n,ev]:=by rw[aR g0];rfl
 refine ae (ae (bM (bj 1 (Mi1 rA) rfl (Zi1 rA) (Mi1 rA) (Bv (n:=n) (he.ext x0 (ab _)) hxl) λr h2 hq=>?_)));obtain⟨⟨c,at_,vv,rfl,hc⟩,x2⟩:=hq;have X2:Ext h.next h h2:=x0.trans (x2.mono om);have n2:=x2.nx;by_cases hg:¬ft n E
 .have c1:(c != 0)=true:=by rw[bne_iff_ne];exact λe=>hg (hc.1 e)
  refine bI (M0) ?_;refine cZ (Z1 c1) (ae (ak (M0) ?_));exact bu ⟨_,(by simp only[rs,rf12,am,aL,simprocAttr]<;>rfl),X2,λ_=>rfl,λq=>absurd q hg⟩
 have hg:ft n E:=Classical.byContradiction hg;have c1:(c != 0)=false:=by rw[hc.2 hg];rfl
 refine bI (M0) ?_;refine dC (Z1 c1) (bz ?_);have hm:=hg.1;have hn:n=((n.toNat:Nat):Int):=by
  have:=hm;unfold fC at this;simp only[aU,aK]at this;omega
 have hL0:=pG hg;generalize n.toNat=nn at *
 subst hn;have hE0:=km hm;have m3:=(iX hm).2.2.1;have g2:h2.get h.next=some (.cells [.int .i64 (nn:Nat),ev] 2 false):=by rw[x2.gt _ om];exact g0
 have rA2:ai h2 h.next 0 2=some [.int .i64 (nn:Nat),ev]:=by rw[aR g2];rfl
 have hB:=GA (n:=nn) (he.ext X2 (ab _)) hm hE0 hL0;unfold gW at hB;refine ae (ae (bM (bj 1 (Mi1 rA2) rfl (Zi1 rA2) (Mi1 rA2) (hB) λbv h3 hq=>?_)));obtain⟨hll,x3⟩:=hq;obtain⟨B,hBl,hLL,hBm⟩:∃B:List (List Nat),(∀l,Lst (grE nn E hE0 hL0) l->B=canon E.length l)/\LL h3 h2.next bv B/\∀b∈B,b≠[]/\(∀i∈b,i<E.length)/\b.length<=E.length:=by
  obtain⟨l,hl⟩:=Go.Blk.lst_ex (grE nn E hE0 hL0);exact⟨canon E.length l,λl' hl'=>Go.Blk.canon_congr λi hi=>hl.uniq hl' hi,hll l hl,λb hb=>⟨(eG hb).1,(eG hb).2.1,(eG hb).2.2.1⟩⟩
 have hBlen:B.length<=E.length:=by
  obtain⟨l,hl⟩:=Go.Blk.lst_ex (grE nn E hE0 hL0);rw[hBl l hl];exact lB
 have bl3:=hLL.len;refine bI (M1 bl3) ?_;have X3:Ext h.next h h3:=X2.trans (x3.mono X2.nx);have n3:=x3.nx;have g3:h3.get h.next=some (.cells [.int .i64 (nn:Nat),ev] 2 false):=by rw[x3.gt _ om];exact g2
 clear hll
 refine fi (α:=AV) (N:=B.length) (λ_ a=>[(1,.ptr h.next 0),(2,a),(11,bv)])
  (λk a h'=>Ext h3.next h3 h'/\PL h' h3.next a ((B.take k).map (lL nn E))) .nils (λ_ _=>rfl) om (Hi0)
  ⟨Oh,[],.inl ⟨rfl,rfl⟩,rfl,λi x p e=>by simp at e⟩ ?_ ?_
 .rintro k a ts h4 hk ⟨jx,ja⟩ ⟨ei,en,e1,e2,e11,-⟩;simp only at ei en e1 e2 e11;have n4:=jx.nx;obtain⟨b1,p1,rv,a1,r1,i1,_⟩:=(hLL.ext jx (ab _)).at hk;refine ae (ak (M4 e11 ei a1 r1) ?_);obtain⟨k1,k2,k3⟩:=hBm _ (ar hk);have g4:h4.get h.next=some (.cells [.int .i64 (nn:Nat),ev] 2 false):=by rw[jx.gt _ om];exact g3
  have rA4:ai h4 h.next 0 2=some [.int .i64 (nn:Nat),ev]:=by rw[aR g4];rfl
  have X4:Ext h.next h h4:=X3.trans (jx.mono X3.nx);have hrv:SlI h4 rv (nI B[k]):=Ob om (λ_=>rfl) i1;have hrl:∀b o m c,rv=.sl b o m c->b<h3.next:=by
   obtain⟨vs,z1,z2,z3⟩:=hLL;intro b o m c e;obtain⟨b1',p1',rv',a1',r1',i1',_⟩:=LL.at ⟨vs,z1,z2,z3⟩ hk;have:ai h4 b1' p1' 1=some [rv']:=by
    have hlt:b1'<h3.next:=by assumption
    rw[bi (jx.gt _ hlt)];exact r1'
   rw[a1']at a1;cases a1;rw[r1]at this;cases this;exact i1'.lt e
  have hP:=IB (n:=((nn:Nat):Int)) (es:=nI B[k]) (he.ext X4 (ab _)) hrv hm (λi hi=>by
   unfold nI at hi;obtain⟨j,hj,rfl⟩:=bp.1 hi;have:=k2 j hj;omega) (λe=>k1 (by unfold nI at e;exact kQ.1 e)) (by rw[fj];omega)
  refine bM (bj 3 (M2 e1 rA4) rfl (Z2 e1 rA4) (M2 e1 rA4) (hP) λr h5 hq=>?_);simp only[aO]at hq;obtain⟨x5,edv,nmv,rfl,i5,s5,f5⟩:=hq;have n5:=x5.nx;obtain⟨rc,ro⟩:=i1.cells;obtain⟨dc,do_⟩:=i5.cells;obtain⟨mc,mo⟩:=s5.cells;have x6:Ext h5.next h5 (h5.new (.cells [.int .i64 ((vsM nn E (nI B[k])).length:Nat),edv,nmv,rv] 4 false)):=Oe (ab _);have g6:(h5.new (.cells [.int .i64 ((vsM nn E (nI B[k])).length:Nat),edv,nmv,rv] 4 false)).get h5.next=some (.cells [.int .i64 ((vsM nn E (nI B[k])).length:Nat),edv,nmv,rv] 4 false):=by rw[AH.get_new,if_pos rfl]
  have n6:(h5.new (.cells [.int .i64 ((vsM nn E (nI B[k])).length:Nat),edv,nmv,rv] 4 false)).next=h5.next+1:=rfl;have hpc:PartC (h5.new (.cells [.int .i64 ((vsM nn E (nI B[k])).length:Nat),edv,nmv,rv] 4 false)) a (.int .i64 ((vsM nn E (nI B[k])).length:Nat),edv,nmv,rv) (lL nn E B[k]):=by
   refine⟨rfl,(Ob (f:=eE) om (λ_=>rfl) i5).ext x6 (ab _),s5.ext x6 (ab _),(hrv.ext x5 (ab _)).ext x6 (ab _),λb o m c o' m' c' e1 e2=>?_,λb o m c o' m' c' e1 e2=>?_,λb o m c o' m' c' e1 e2=>?_⟩
   .have h1:=ja.lt e2;rcases i5 with⟨rfl,_⟩|⟨b',m',hb',rfl,_⟩
    .cases e1
    .cases e1;omega
   .have h1:=ja.lt e2;have h2:=f5 _ _ _ _ e1;omega
   .have h1:=hrl _ _ _ _ e1;obtain⟨xs,z1,_⟩:=ja;rcases z1 with⟨rfl,_⟩|⟨b',m',hb',rfl,_⟩
    .cases e2
    .cases e2;omega
  obtain⟨a',h7,a7,i7,x7,n7,_⟩:=((ja.ext x5 (ab _)).ext x6 (ab _)).push (q:=h5.next) om hpc g6 om (λb m e=>by have:=ja.lt e;omega) (by rw[ah,aS];omega);refine bI (by simp only[am,aL,simprocAttr,e2,rc,ro,do_,mo,dc,mc,Ah,eH,a7]<;>rfl) ?_;refine⟨a',⟨jx.trans ((x5.mono n4).trans ((x6.mono om).trans x7)),?_⟩,H4 ei en e1 e11⟩;rw[aI hk,bS];exact i7
 .rintro a ts h4 ⟨jx,ja⟩ ⟨e1,e2,e11,-⟩;simp only at e2;rw[bt]at ja;have ac:=ja.cells;refine ae (ak (M1 e2) ?_);refine bu ⟨_,(by simp only[rs,rf12,am,aL,simprocAttr,ac.1]<;>rfl),X3.trans (jx.mono X3.nx),λq=>absurd hg q,λ_=>⟨a,rfl,λhE hL l hl=>?_⟩⟩;rw[<-hBl l hl];exact ja.mono om
end Go.Proofs.YtklpoimdclflmaaGreatDoor
