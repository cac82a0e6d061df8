/- block.Blocks. -/
import Derived.Test.YtmibmlioidpogaaGreatDoorVTAQ
set_option linter.all false
namespace Go.Proofs.YtmibmlioidpogaaGreatDoor
open Go.Am
open Go.Blk (Gr DS Lst canon Btw visit pot unm from1)
variable {Bl w:List Nat}{E:List (Int×Int)}{H V:Nat->Bool}{bb i n pa x:Nat}{edv ev fav v:AV}{h:AH}
theorem AN{x:Int×Int}:C prg 59 [.agg (eE x)] h λr h'=>r=.bool (decide (x.1=x.2))/\Ext h.next h h':=by
 refine Me pf59 ?_;refine ae (ar (by simp only[am,aD,simprocAttr,bE,eE]<;>rfl) ?_);have ex:Ext h.next h (h.new (.cells [.int .i64 x.1,.int .i64 x.2] 2 false)):=Mb (ab _);have g:(h.new (.cells [.int .i64 x.1,.int .i64 x.2] 2 false)).get h.next=some (.cells [.int .i64 x.1,.int .i64 x.2] 2 false):=by rw[AH.get_new,if_pos rfl]
 generalize h.new (.cells [.int .i64 x.1,.int .i64 x.2] 2 false)=h1 at *
 have r1:ak h1 h.next 0 1=some [.int .i64 x.1]:=by rw[aU g];rfl
 have r2:ak h1 h.next 1 1=some [.int .i64 x.2]:=by rw[aU g];rfl
 refine ae (ar (M2 r1 r2) ?_);exact bG ⟨_,(by simp only[rs,rf59,am,aD,simprocAttr]<;>rfl),rfl,ex⟩
theorem Hh{w:AV}:C prg 116 [w,.int .i64 0,.int .i64 0,v] h λ_ h'=>h'=h:=by
 refine Me pf116 ?_;have w1:IntKind.i64.wrap 1=1:=by decide
 refine ae (cr (λts h1=>h1=h/\bz ts 2=.int .i64 0/\bz ts 8=.int .i64 1) (by simp only[am,aD,simprocAttr,bE,Int.zero_add,w1]) ?_);rintro ts h0 ⟨rfl,e2,e8⟩;refine cE (fI (λn ts h1=>h1=h0/\bz ts 2=.int .i64 0/\bz ts 8=.int .i64 1) ?_ (n:=0) ⟨rfl,e2,e8⟩);clear e2 e8;rintro n ts h1 ⟨rfl,e2,e6⟩;refine ae (ae (ar (M2 e2 e6) ?_));refine dQ (by simp only[am,aD,simprocAttr];rfl) ?_;exact fh ⟨λ_=>⟨.tup [],rfl,rfl⟩,λe=>absurd rfl e⟩
theorem GZ{l:Int}{w:AV}:C prg 92 [w,.int .i64 0,.int .i64 0,.int .i64 l,v] h λ_ h'=>h'=h:=by
 refine Me pf92 ?_;refine ae (ar (Mi0) ?_);refine ae (ar (Mi0) ?_);refine cE (fI (λn ts h1=>h1=h/\bz ts 0=w/\bz ts 1=.int .i64 0/\bz ts 2=.int .i64 0/\bz ts 4=v) ?_ (n:=0) ⟨rfl,Zi0,Zi0,Zi0,Zi0⟩);rintro n ts h1 ⟨rfl,e0,e1,e2,e4⟩;refine cE (ae (ar (by simp only[am,aD,simprocAttr,e1,e2,fW (z:=0-0) (by decide) (by decide)]<;>rfl) ?_));refine ae (ae (ar (M0) ?_));refine dg (by simp only[am,aD,simprocAttr];rfl) ?_;refine ae (bM (aV 4 (M4 e0 e1 e2 e4) rfl (Z4 e0 e1 e2 e4) (M4 e0 e1 e2 e4) (Hh) λv h2 u=>?_));subst u;refine bF (M0) ?_;exact bG ⟨.tup [],rfl,rfl⟩
theorem DI{w:AV}(hw:fY w=some (.int .i64 0)):C prg 62 [w,v] h λ_ h'=>h'=h:=by
 refine Me pf62 ?_;refine ae (ar (Mi1 hw) ?_);have wu:IntKind.u64.wrap 0=0:=by decide
 refine bM (aV 4 (Mi1 wu) rfl (Zi1 wu) (Mi1 wu) (vi) λv h1 hq=>?_);obtain⟨rfl,rfl⟩:=hq;refine aV 1 (Mi0) rfl (Zi0) (Mi0) (GZ) λv h2 hq=>?_;subst hq;refine bF (M0) ?_;exact⟨.tup [],rfl,rfl⟩
theorem nC_nL(l:List Nat):nC l=nL l:=KI l
set_option maxHeartbeats 2000000 in
theorem Ec(he:SlE h ev E)(hm:lW (n:Nat) E=true)(hE:InG n E)(hL:∀i,i<E.length->tlE E i≠hdE E i) :
 C prg 31 [.agg (gW n ev)] h λr h'=>(∀l,Lst (grE n E hE hL) l->LL h' h.next r (canon E.length l))/\Ext h.next h h':=by
 obtain⟨ec,eo⟩:=he.cells;obtain⟨m1,m2,m3,m4⟩:=vS hm;have hBg:∀{h':AH},SlE h' ev E->_:=fun {h'} q=>Ef (n:=n) q hE hL om om;have hMy:∀{h':AH},SlE h' ev E->_:=fun {h'} q=>rB (n:=((n:Nat):Int)) q om;unfold gW at hBg |-;refine Me pf31 ?_;refine ae (ar (Mi0) ?_);have x0:Ext h.next h (h.new (.cells [.int .i64 (n:Nat),ev] 2 false)):=Mb (ab _);have g0:(h.new (.cells [.int .i64 (n:Nat),ev] 2 false)).get h.next=some (.cells [.int .i64 (n:Nat),ev] 2 false):=by rw[AH.get_new,if_pos rfl]
 have n0:(h.new (.cells [.int .i64 (n:Nat),ev] 2 false)).next=h.next+1:=rfl;generalize (h.new (.cells [.int .i64 (n:Nat),ev] 2 false))=h1 at *
 have rA:ak h1 h.next 0 2=some [.int .i64 (n:Nat),ev]:=by rw[aU g0];rfl
 refine ae (ae (bM (aV 1 (Mi1 rA) rfl (Zi1 rA) (Mi1 rA) (hMy (he.ext x0 (ab _))) λr h2 hq=>?_)));obtain⟨rfl,x2⟩:=hq;rw[hm];have X2:Ext h.next h h2:=x0.trans (x2.mono om);have n2:=x2.nx;have g2:h2.get h.next=some (.cells [.int .i64 (n:Nat),ev] 2 false):=by rw[x2.gt _ om];exact g0
 have rE2:ak h2 h.next 1 1=some [ev]:=br g2 rfl;refine aV 4 (Mi2 rE2 @iP) rfl (Zi2 rE2 @iP) (Mi2 rE2 @iP) (uV (P:=λx=>decide (x.1=x.2)) (caps:=[]) (he.ext X2 (ab _)) om (λx _ h' _=>by rw[bW];exact AN)) λr h3 hq=>?_;obtain⟨rfl,x3⟩:=hq;have hany:(E.any λx=>decide (x.1=x.2))=false:=by
  rw[pF];intro x hx;obtain⟨i,hi,rfl⟩:=List.getElem_of_mem hx;have:=hL i hi;obtain⟨q1,q2,q3⟩:=hE i hi;rw[q1];simp only[aI];omega
 rw[hany];refine bF (M0) ?_;refine dQ (Z0) (bK ?_);have X3:Ext h.next h h3:=X2.trans (x3.mono X2.nx);have n3:=x3.nx;have g3:h3.get h.next=some (.cells [.int .i64 (n:Nat),ev] 2 false):=by rw[x3.gt _ om];exact g2
 have rA3:ak h3 h.next 0 2=some [.int .i64 (n:Nat),ev]:=by rw[aU g3];rfl
 refine ae (bM (aV 1 (Mi1 rA3) rfl (Zi1 rA3) (Mi1 rA3) (hBg (he.ext X3 (ab _))) λr h4 hq=>?_));obtain⟨sp,eb,nb,lb,rfl,x4,⟨lsp,lnb,llb⟩,t,r4⟩:=hq;refine bF (M0) ?_;have X4:Ext h.next h h4:=X3.trans (x4.mono X3.nx);have n4:=x4.nx;have g4:h4.get h.next=some (.cells [.int .i64 (n:Nat),ev] 2 false):=by rw[x4.gt _ om];exact g3
 have rN4:ak h4 h.next 0 1=some [.int .i64 (n:Nat)]:=br g4 rfl;refine ae (ae (ar (Mi1 rN4) ?_));have hends:=yP hE hL;have hall:=Go.Blk.btw_all hends kr;have hps:pot (grE n E hE hL) (dC E) Go.Blk.start<=2^30:=by
  have h1:=Go.Blk.pot_start (g:=grE n E hE hL) (ends:=dC E) (m:=E.length) λx _=>by
   unfold dC;have:=dP (λi=>decide (tlE E i=x)||decide (hdE E i=x)) (List.range E.length);rwa [cN]at this
  have h2:(grE n E hE hL).n*(1+2*E.length)<=64*(1+2*128):=LO m2 om;omega
 refine fj (α:=Unit) (N:=n) (λ_ _=>[(1,.ptr h.next 0),(3,.ptr sp 0)])
  (λk _ h'=>∃stv blv bs,Ser h4 h' sp eb nb lb n ev ((List.range k).foldl (from1 (grE n E hE hL) (dC E) dM n) Go.Blk.start) stv blv bs) () (λ_ _=>rfl) om (Hi0) ⟨_,_,_,r4⟩ ?_ ?_
 .rintro k _ ts h5 hk ⟨stv,blv,bs,R⟩ ⟨ei,en,e1,e3,-⟩;simp only at ei en e1 e3;obtain⟨b1,b2,b3⟩:=hall k (by show k<=n;omega);have hsucc:(List.range (k+1)).foldl (from1 (grE n E hE hL) (dC E) dM n) Go.Blk.start=from1 (grE n E hE hL) (dC E) dM n ((List.range k).foldl (from1 (grE n E hE hL) (dC E) dM n) Go.Blk.start) k:=by
   rw[ee,fS];rfl
  rw[hsucc];change Btw (grE n E hE hL) ((List.range k).foldl (from1 (grE n E hE hL) (dC E) dM n) Go.Blk.start)at b1;change unm (grE n E hE hL) ((List.range k).foldl (from1 (grE n E hE hL) (dC E) dM n) Go.Blk.start)<=n at b2;change pot (grE n E hE hL) (dC E) ((List.range k).foldl (from1 (grE n E hE hL) (dC E) dM n) Go.Blk.start)<=_ at b3;clear hsucc;generalize (List.range k).foldl (from1 (grE n E hE hL) (dC E) dM n) Go.Blk.start=s at *
  have rn:ak h5 sp 3 1=some [.sl nb 0 n n]:=br R.cell rfl;have rk:ak h5 nb k 1=some [.int .i64 (s.num k:Nat)]:=br R.gn (mS hk);have ik:gh ((k:Nat):Int) n=some k:=dL hk;refine ae (ar (M1 ei) ?_);by_cases q:s.num k=0
  .have c1:decide (((s.num k:Nat):Int)=0)=true:=bj om;refine ae (ar (M6 e3 rn ik @aM rk c1) ?_);refine dg (Z0) ?_;have hv:=DY t hE hL om om n (b1.pre (show k<(grE n E hE hL).n from hk) q) b2 om R;refine bM (aV 2 (by simp only[am,aD,simprocAttr,e3,byI]<;>rfl) rfl (by simp only[am,aD,simprocAttr,e3,byI]) (by simp only[am,aD,simprocAttr,e3,byI]<;>rfl) (hv) λv h6 hq=>?_);obtain⟨stv',blv',bs',R'⟩:=hq;refine bF (M0) ?_;refine⟨(),⟨stv',blv',bs',?_⟩,H4 ei en e1 e3⟩;unfold from1;rw[if_pos q];exact R'
  .have c1:decide (((s.num k:Nat):Int)=0)=false:=aN om;refine ae (ar (M6 e3 rn ik @aM rk c1) ?_);refine dQ (Z0) (bK ?_);refine⟨(),⟨stv,blv,bs,?_⟩,H4 ei en e1 e3⟩;unfold from1;rw[if_neg q];exact R
 rintro _ ts h5 ⟨stv,blv,bs,R⟩ ⟨e1,e3,-⟩;simp only at e3;obtain⟨b1,b2,b3⟩:=hall n (ab n);change pot (grE n E hE hL) (dC E) ((List.range n).foldl (from1 (grE n E hE hL) (dC E) dM n) Go.Blk.start)<=_ at b3;have hrun:(List.range n).foldl (from1 (grE n E hE hL) (dC E) dM n) Go.Blk.start=Go.Blk.runB (grE n E hE hL) (dC E) dM (grE n E hE hL).n:=rfl;obtain⟨nd,hbk,part⟩:=Go.Blk.runB_ok hends kr (ab (grE n E hE hL).n);rw[<-hrun]at nd hbk part;have hcan:=λl (hl:Lst (grE n E hE hL) l) cs=>Go.Blk.run_canon hends kr Ey hl (cs:=cs);rw[<-hrun]at hcan;generalize (List.range n).foldl (from1 (grE n E hE hL) (dC E) dM n) Go.Blk.start=s at *
 clear hrun;have hnx:=R.kp.nx;have hsp5:=AH.lt_of_get R.cell;have X5:Ext h.next h h5:=X4.trans ⟨hnx,λc hc=>R.kp.gt c om (by rintro (e|e|e)<;>omega),λc hc=>R.kp.ty c om⟩;have rb:ak h5 sp 7 1=some [blv]:=br R.cell rfl;have hblk:s.blk.length<=2^30:=by
  have h1:=cw b3 hps;unfold pot at h1;omega
 have hcells:=R.bl.cells;have hlen:fY blv=some (.int .i64 (s.blk.length:Nat)):=by
  rw[<-R.rl];rcases R.bl with⟨hv,hbs⟩|⟨b,m,hb,hv,hg,hl⟩
  .rw[hv,hbs];rfl
  .rw[hv,hl,aM];rfl
 by_cases hz:s.blk.length=0
 .have hblk0:s.blk=[]:=aY.1 hz;rw[hz]at hlen;refine ae (bM (aV 4 (M3 e3 rb @iP) rfl (Z3 e3 rb @iP) (M3 e3 rb @iP) (DI hlen) λv h6 hq=>?_));subst hq;refine bF (M0) ?_;refine ae (ar (M2 e3 rb) ?_);refine bG ⟨blv,(by simp only[rs,rf31,am,aD,simprocAttr,hcells.1]<;>rfl),λl hl=>?_,X5⟩;have e:=hcan l hl [] (by rw[hblk0]) List.Pairwise.nil;change []=canon E.length l at e;rw[<-e];have hbs0:bs=[]:=aY.1 (by rw[R.rl];exact hz);exact⟨bs,R.bl.mono om,by rw[hbs0];rfl,λi v xs e=>by rw[hbs0]at e;simp at e⟩
 have hbl0:bs.length=s.blk.length:=R.rl;rcases R.bl with⟨hv,hbs⟩|⟨b,m,hb,hv,hg,hl⟩
 .rw[hbs]at hbl0;exact absurd hbl0.symm hz
 have hm0:m=s.blk.length:=by rw[<-R.rl,hl,aM]
 subst hm0;have hb5:=AH.lt_of_get hg;have hpos:0<s.blk.length:=Nat.pos_of_ne_zero hz;have hne:∀r∈s.blk,∃a xs,r=a::xs/\a<E.length:=λr hr=>by
  obtain⟨q1,_⟩:=hbk r hr;cases r with
  |nil=>exact absurd rfl q1
  |cons a xs=>exact⟨a,xs,rfl,(part a).2 ⟨_,hr,bt ..⟩⟩
 have hrow:∀i v,bs[i]?=some v->qj h5 b (((s.blk.getD i []).headD 0:Nat):Int) v:=λi v q1=>by
  have hi:i<s.blk.length:=by have:=(aG.1 q1).1;omega
  obtain⟨a,xs,e3,e4⟩:=hne _ (aZ hi);have q2:s.blk[i]?=some (a::xs):=by rw[ai hi,e3]
  obtain⟨z1,_,z3⟩:=R.rw i v _ q1 q2;rcases z1 with⟨_,e⟩|⟨b',m,hb',hv',hg',hl'⟩
  .cases e
  .have hm:m=xs.length+1:=by
    rw[aM]at hl';rw[<-hl'];simp[nL]
   subst hm;refine⟨b',0,xs.length,_,hv',λe2=>z3 b' 0 _ _ 0 _ _ hv' (by rw[hv,e2]),?_,om,?_⟩
   .rw[aH,q2];exact br hg' rfl
   .rw[aH,q2];show((a:Nat):Int)<_;omega
 have hsort:=GX (c:=s.blk.length) hg hbl0 hpos om hrow;rw[hv]at rb;refine ae (bM (aV 4 (M3 e3 rb @iP) rfl (Z3 e3 rb @iP) (M3 e3 rb @iP) (hsort) λv h6 hq=>?_));obtain⟨is,hp,hs,hmd⟩:=hq;refine bF (M0) ?_;have hspb:sp≠b:=by have:=t.lt.1;omega
 have rb6:ak h6 sp 7 1=some [.sl b 0 s.blk.length s.blk.length]:=by rw[cS (hmd.gt sp hspb hsp5)];exact rb
 refine ae (ar (M2 e3 rb6) ?_);have X6:Ext h.next h h6:=X5.trans (Ext.mono (hmd.mono (m:=b) om |>.toExt (ab _)) om);refine bG ⟨.sl b 0 s.blk.length s.blk.length,(by simp only[rs,rf31,am,aD,simprocAttr]<;>rfl),λl hl=>?_,X6⟩;have hil:is.length=s.blk.length:=by rw[hp.length_eq,cN]
 have hperm:(is.map λi=>s.blk.getD i []).Perm s.blk:=by
  have:=hp.map λi=>s.blk.getD i [];rwa [zP]at this
 have hord:(is.map λi=>s.blk.getD i []).Pairwise λa b=>a.headD 0<=b.headD 0:=by
  rw[fC];exact hs.imp λq=>Int.ofNat_le.1 q
 have e:=hcan l hl _ hperm hord;change _=canon E.length l at e;rw[<-e];refine⟨is.map λi=>bs.getD i .un,.inr ⟨b,s.blk.length,om,rfl,hmd.get,by rw[ah,hil,aM]⟩,by rw[ah,ah],λi v xs q1 q2=>?_⟩;rw[aE]at q1 q2;obtain⟨x,k1,rfl⟩:=aA.1 q1;rw[k1]at q2;simp only[aF,aa]at q2;subst q2;have hx:x<s.blk.length:=bm.1 (hp.mem_iff.1 (dJ k1));have p3:bs[x]?=some (bs.getD x .un):=by
  rw[aH,ai (show x<bs.length by omega)];rfl
 have p4:s.blk[x]?=some (s.blk.getD x []):=by
  rw[aH,ai hx];rfl
 obtain⟨w1,_,w3⟩:=R.rw x _ _ p3 p4;rw[nC_nL];have hw:∀b' n',bs.getD x .un=.sl b' 0 n' n'->b'≠b:=λb' n' e1 e2=>w3 b' 0 n' n' 0 s.blk.length s.blk.length e1 (by rw[hv,e2]);refine⟨(w1.cong λb' m' e _=>hmd.gt b' (hw b' m' e) (w1.lt e)).mono om,λb1 k1 b2 k2 e1 e2=>?_⟩;cases e2;exact hw b1 k1 e1
open Go.Am
open Go.Pla (Met ks tr tr_app at_ goes stepE full Srch Hit todo)
theorem iY{hE:InG n E}{hL:∀i,i<E.length->tlE E i≠hdE E i}(hi:i<E.length):at_ (grE n E hE hL) i x=ll E i x:=by
 have:=hL i hi;show((tlE E i==x)^^(hdE E i==x))=(decide (tlE E i=x)||decide (hdE E i=x))
 by_cases a:tlE E i=x
 .have b:hdE E i≠x:=λh=>this (a.trans h.symm);simp[a,b]
 .by_cases b:hdE E i=x
  .simp[a,b]
  .rw[beq_eq_false_iff_ne.2 a,beq_eq_false_iff_ne.2 b,aN a,aN b];rfl
theorem Fs{hE:InG n E}{hL:∀i,i<E.length->tlE E i≠hdE E i}(hi:ll E i x=true):mG E i x=(((grE n E hE hL).oth i x:Nat):Int):=by
 show((tlE E i:Nat):Int)+((hdE E i:Nat):Int)-((x:Nat):Int)=((tlE E i+hdE E i-x:Nat):Int)
 simp only[ll,df,aI]at hi;omega
theorem Be{α:Type}[DecidableEq α]:∀{l:List (α×AV)}{k:α}{v:AV},lkG l k=none->upG l k v=l++[(k,v)]
 |[],_,_,_=>rfl
 |p::l,k,v,h=>by
   simp only[lkG]at h;split at h
   .cases h
   .rename_i hne
    simp only[upG,if_neg hne];rw[Be h];rfl
set_option maxHeartbeats 2000000 in
theorem rW{la:Nat}(u:Bu h bb n ev edv E Bl la pa H V fav)(hE:InG n E)(hL:∀i,i<E.length->tlE E i≠hdE E i)(hn:n<2^30)(hm:E.length<2^30)(hB:∀i∈Bl,i<E.length)(hBn:Bl.length<2^30){r:Nat}(hr:r<n){ke kt:FuncId}{ce ct:List AV}{fin thr:Nat->Bool}
 (hend:∀y,y<n->∀h',Ext h.next h h'->C prg ke ([.int .i64 (y:Nat)]++ce) h' λv h''=>v=.bool (fin y)/\Ext h'.next h' h'')
 (hthr:∀y,y<n->∀h',Ext h.next h h'->C prg kt ([.int .i64 (y:Nat)]++ct) h' λv h''=>v=.bool (thr y)/\Ext h'.next h' h'') :
 C prg 94 [.ptr bb 0,.int .i64 (r:Nat),.fn ke ce,.fn kt ct] h λv h'=>Ext h.next h h'/\∃o,Hit (full (grE n E hE hL) Bl H thr (n+1) ([(r,r)],[r])) fin o/\(match o with|none=>v=.nils|some y=>IsSl h' 1 h.next v (nC (tr (full (grE n E hE hL) Bl H thr (n+1) ([(r,r)],[r])) y))):=by
 obtain⟨F,hF⟩:∃F,F=full (grE n E hE hL) Bl H thr (n+1) ([(r,r)],[r]):=⟨_,rfl⟩
 rw[<-hF];have hBg:∀i∈Bl,i<(grE n E hE hL).m:=hB;have hrg:r<(grE n E hE hL).n:=hr;refine Me pf94 ?_;refine ae (ar (Mi0) ?_);have x1:Ext h.next h (h.new (.mapo [] 0)):=Mb (ab _);have g1:(h.new (.mapo [] 0)).get h.next=some (.mapo [] 0):=by rw[AH.get_new,if_pos rfl]
 have n1:(h.new (.mapo [] 0)).next=h.next+1:=rfl;have m1:qO (h.new (.mapo [] 0)) h.next []:=MapG.nil g1;obtain⟨h2,a2,m2,o2,u2⟩:=m1.up wj ((r:Nat):Int) (.int .i64 (r:Nat));have m2:qO h2 h.next [(r,r)]:=m2;have a2:tG (h.new (.mapo [] 0)) .ki (.mp h.next) (.int .i64 (r:Nat)) (.int .i64 (r:Nat))=some (.un,h2):=a2;have x2:Ext h.next h h2:=x1.trans (u2.ext (ab _));have n2:h2.next=h.next+1:=by rw[u2.nx,n1]
 refine ae (cr (λts h'=>h'=h2/\bz ts 0=.ptr bb 0/\bz ts 1=.int .i64 (r:Nat)/\bz ts 2=.fn ke ce/\bz ts 3=.fn kt ct/\bz ts 9=.mp h.next) (by simp only[am,aD,simprocAttr,bE,a2]) ?_);rintro ts h2' ⟨rfl,e0,e1,e2,e3,e9⟩;have x3:Ext h2'.next h2' (h2'.new (.cells [.int .i64 (r:Nat)] 1 false)):=Mb (ab _);have g3:(h2'.new (.cells [.int .i64 (r:Nat)] 1 false)).get h2'.next=some (.cells [.int .i64 (r:Nat)] 1 false):=by rw[AH.get_new,if_pos rfl]
 refine ae (cr (λts h'=>h'=h2'.new (.cells [.int .i64 (r:Nat)] 1 false)/\bz ts 0=.ptr bb 0/\bz ts 2=.fn ke ce/\bz ts 3=.fn kt ct/\bz ts 9=.mp h.next/\bz ts 10=.sl h2'.next 0 1 1) (by simp only[am,aD,simprocAttr,e0,e1,e2,e3,e9]) ?_);rintro ts h3 ⟨rfl,e0,e2,e3,e9,e10⟩;have m3:qO (h2'.new (.cells [.int .i64 (r:Nat)] 1 false)) h.next [(r,r)]:=m2.cong (x3.gt _ om);have q3:IsQ (h2'.new (.cells [.int .i64 (r:Nat)] 1 false)) (h.next+1) (.sl h2'.next 0 1 1) [r]:=IsQ.one om g3;have x3:=x2.trans (x3.mono (by omega:h.next<=h2'.next));have n3:(h2'.new (.cells [.int .i64 (r:Nat)] 1 false)).next=h.next+2:=by rw[AH.next_new,n2]
 generalize h2'.new (.cells [.int .i64 (r:Nat)] 1 false)=h3 at *
 have hbd:∀{s:Go.Pla.LQ}{cu:Option (Nat×List Nat)},Srch (grE n E hE hL) Bl H thr r s cu->(∀z∈ks s.1,z<n)/\s.1.length<=n:=fun {s cu} hs=>by
  have a:=hs.met.lt hBg hrg;exact⟨a,by
   have:=Go.Pla.nd_lt hs.met.nd a;rw[ks,ah]at this;exact this⟩
 have hFm:Met (grE n E hE hL) Bl H thr r F:=by
  rw[hF];exact(Go.Pla.full_srch hBg hrg (n+1) Srch.start (by show n-1+1<=n+1;omega)).met
 refine ae (cE (fI (λf ts h'=>∃(L:List (Nat×Nat)) (Q:List Nat) (qv:AV),Srch (grE n E hE hL) Bl H thr r (L,Q) none/\full (grE n E hE hL) Bl H thr f (L,Q)=F/\todo n (L,Q)<=f/\(∀z∈ks L.tail,fin z=false)/\qO h' h.next L/\IsQ h' (h.next+1) qv Q/\todo n (L,Q)<=n+1/\Ext h.next h h'/\h.next<h'.next/\bz ts 0=.ptr bb 0/\bz ts 2=.fn ke ce/\bz ts 3=.fn kt ct/\bz ts 9=.mp h.next/\bz ts 10=qv) ?_ (n:=n+1) ⟨[(r,r)],[r],_,Srch.start,hF.symm,by show n-1+1<=n+1;omega,by simp[ks],m3,q3,by show n-1+1<=n+1;omega,x3,om,e0,e2,e3,e9,e10⟩));clear e0 e2 e3 e9 e10 m3 q3 x3 n3 g3 m2 a2 u2 x2 n2 m1 g1 n1 x1;rintro f ts h4 ⟨L,Q,qv,hs,hff,htd,hno,m4,q4,hQn,x4,hlt4,e0,e2,e3,e9,e10⟩;have el:=q4.len;cases Q with
 |nil =>
   refine ae (ae (ar (M2 e10 el) ?_));have dz:decide ((0:Int)<(([]:List Nat).length:Nat))=false:=by simp
   refine dQ (by simp only[am,aD,simprocAttr,aK,dj,Int.lt_irrefl,decide_false]) ?_;refine fh ⟨λ_=>?_,λe=>absurd rfl e⟩;refine ae (ar (M0) ?_);refine bG ⟨.nils,(by simp only[rs,rf94,am,aD,simprocAttr]<;>rfl),x4,none,?_,rfl⟩;have:F=L:=by
    rw[<-hff];cases f<;>rfl
   rw[this];exact hno
 |cons x Q =>
   have hf1:1<=f:=by simp only[todo,aq]at htd;omega
   obtain⟨f',rfl⟩:∃f',f=f'+1:=⟨f-1,om⟩
   have hff:full (grE n E hE hL) Bl H thr f' (Bl.foldl (stepE (grE n E hE hL) H thr x) (L,Q))=F:=hff;have hpop:=hs.pop;have hxn:x<n:=(hbd hs).1 x (hs.que x (by simp)).1;rw[aq]at el;refine ae (ae (ar (M2 e10 el) ?_));have dz:decide ((0:Int)<((Q.length+1:Nat):Int))=true:=by rw[aI];omega
   refine dg (Z1 dz) (bK (cE ?_));obtain⟨qb,qo,ha,hrd⟩:=q4.head;obtain⟨qv',hst,q5⟩:=q4.tail;have u4:=u.ext x4 (ab _);have rb:ak h4 bb 2 1=some [edv]:=br u4.o rfl;have lb:=u4.b.len;rw[ah,ah]at lb;refine ae (ar (M3 e10 ha hrd) ?_);refine ae (ar (by simp only[am,aD,simprocAttr,cY,bh,e10,hst]<;>rfl) ?_);refine ae (ar (M3 e0 rb lb) ?_)
   refine fj (α:=Go.Pla.LQ×AV) (N:=Bl.length) (λ_ a=>[(35,edv),(0,.ptr bb 0),(2,.fn ke ce),(3,.fn kt ct),(9,.mp h.next),(10,a.2),(11,.int .i64 (x:Nat))])
    (λk a h'=>Srch (grE n E hE hL) Bl H thr r a.1 (some (x,Bl.drop k))/\(Bl.drop k).foldl (stepE (grE n E hE hL) H thr x) a.1=Bl.foldl (stepE (grE n E hE hL) H thr x) (L,Q)/\todo n a.1<=todo n (L,Q)/\(∀z∈ks a.1.1.tail,fin z=false)/\qO h' h.next a.1.1/\IsQ h' (h.next+1) a.2 a.1.2/\Ext h.next h h'/\h.next<h'.next)
    ((L,Q),qv') (λ_ _=>rfl) om (H4 e0 e2 e3 e9) ⟨hpop,rfl,ab _,hno,m4,q5,x4,hlt4⟩ ?_ ?_
   .clear e0 e2 e3 e9 e10 rb lb;rintro k ⟨s,qw⟩ ts h5 hk ⟨j1,j2,j3,j4,j5,j6,x5,hlt5⟩ ⟨ei,en,e35,e0,e2,e3,e9,e10,e11,-⟩;simp only at ei en e35 e0 e2 e3 e9 e10 e11 j1 j2 j3 j4 j5 j6;have hdk:Bl.drop k=Bl[k]::Bl.drop (k+1):=bT hk;have hBk:Bl[k]∈Bl:=aZ hk;have hik:=hB _ hBk;generalize hi:Bl[k]=i at *
    rw[hdk]at j1 j2;rw[fV]at j2;have jn:=j1.step hBg hBk;have tdn:=Go.Pla.todo_step j1 hBg hrg hBk;have u5:=u.ext x5 (ab _);obtain⟨b5,o5,a5,r5,_⟩:=u5.b.at1 (i:=k) (y:=.int .i64 (i:Nat)) (by rw[aE,aE,ai hk,hi];rfl);refine ae (ar (M4 e35 ei a5 r5) ?_);have hC:=lU u5 hE (show n<2^40 by omega) hik hxn;have skip1:goes (grE n E hE hL) H x s.1 i=false->stepE (grE n E hE hL) H thr x s i=s:=λhg=>by rw[stepE,hg];rfl
    cases hI:ll E i x with
    |false =>
      have hst:stepE (grE n E hE hL) H thr x s i=s:=skip1 (by rw[goes,iY hik,hI];rfl);rw[hst]at j2 jn tdn;rw[hI]at hC;refine ae (bM (aV 3 (M2 e0 e11) rfl (Z2 e0 e11) (M2 e0 e11) (hC) λv h6 hq=>?_));obtain⟨rfl,x6⟩:=hq;refine bF (M0) ?_;have x6':=x5.trans (x6.mono x5.nx);have m6:=j5.cong (x6.gt _ j5.lt);have l6:=m6.look2 wj (.int .i64 0) (mG E i x);refine ae (ar (M2 e9 l6) ?_);refine ae (ae (ar (by simp only[am,aD,simprocAttr,cj]<;>rfl) ?_));refine dg (by simp only[am,aD,simprocAttr,cj]) (fh ⟨λ_=>⟨(s,qw),⟨jn,j2,j3,j4,m6,j6.ext x6 (ab _),x6',bS hlt5 x6.nx⟩,H10 ei en e35 e0 e2 e3 e9 e10 e11 e11⟩,λe=>absurd rfl e⟩)
    |true =>
      obtain⟨y,hy⟩:∃y,y=(grE n E hE hL).oth i x:=⟨_,rfl⟩
      have hyo:mG E i x=((y:Nat):Int):=by rw[hy];exact Fs hI
      have hyn:y<n:=by
       have hat:at_ (grE n E hE hL) i x=true:=by rw[iY hik];exact hI
       have:=(Go.Pla.at_inc hik).1 hat;rw[hy];exact Go.Blk.inc_lt (Go.Blk.inc_oth this).1
      rw[hI,hyo]at hC;refine ae (bM (aV 3 (M2 e0 e11) rfl (Z2 e0 e11) (M2 e0 e11) (hC) λv h6 hq=>?_));obtain⟨rfl,x6⟩:=hq;refine bF (M0) ?_;have x6':=x5.trans (x6.mono x5.nx);have m6:=j5.cong (x6.gt _ j5.lt);have l6:=m6.look2 wj (.int .i64 0) ((y:Nat):Int);have q6:=j6.ext x6 (ab _);have hlt6:=bS hlt5 x6.nx;have u6:=u.ext x6' (ab _);refine ae (ar (M2 e9 l6) ?_);by_cases hky:y∈ks s.1
      .have hso:(lkG (Lm s.1) ((y:Nat):Int)).isSome=true:=by
        cases hq:lkG (Lm s.1) ((y:Nat):Int)with
        |none=>exact absurd hky (rj.1 hq)
        |some _=>rfl
       have hst:stepE (grE n E hE hL) H thr x s i=s:=skip1 (by
        rw[goes,<-hy];simp[hky])
       rw[hst]at j2 jn tdn;refine ae (ae (ar (M2 @cz hso) ?_));refine dg (Z1 hso) (fh ⟨λ_=>⟨(s,qw),⟨jn,j2,j3,j4,m6,q6,x6',hlt6⟩,H10 ei en e35 e0 e2 e3 e9 e10 e11 e11⟩,λe=>absurd rfl e⟩)
      .have hso:(lkG (Lm s.1) ((y:Nat):Int)).isSome=false:=by rw[rj.2 hky];rfl
       have r3:ak h6 bb 3 1=some [.sl la 0 E.length E.length]:=br u6.o rfl;have ia:gh ((i:Nat):Int) E.length=some i:=dL hik;have rl:ak h6 la i 1=some [.bool (H i)]:=br u6.l (mD hik);cases hH:H i with
       |true =>
         rw[hH]at rl;have hst:stepE (grE n E hE hL) H thr x s i=s:=skip1 (by rw[goes,hH];simp);rw[hst]at j2 jn tdn;refine ae (ae (ar (by simp only[am,aD,simprocAttr,cz,hso,e0,r3,ia,aM,rl]<;>rfl) ?_));refine dg (Z0) (fh ⟨λ_=>⟨(s,qw),⟨jn,j2,j3,j4,m6,q6,x6',hlt6⟩,H10 ei en e35 e0 e2 e3 e9 e10 e11 e11⟩,λe=>absurd rfl e⟩)
       |false =>
         rw[hH]at rl;have hg:goes (grE n E hE hL) H x s.1 i=true:=by
          rw[goes,<-hy,iY hik,hI,hH];simp[hky]
         have hst:stepE (grE n E hE hL) H thr x s i=(s.1++[(y,x)],if thr y=true then s.2++[y]else s.2):=by rw[stepE,if_pos hg,<-hy]
         rw[hst]at j2 jn tdn;refine ae (ae (ar (by simp only[am,aD,simprocAttr,cz,hso,e0,r3,ia,aM,rl]<;>rfl) ?_));refine dQ (Z0) (bK ?_);obtain⟨h7,a7,m7,o7,u7⟩:=m6.up wj ((y:Nat):Int) (.int .i64 (x:Nat));have m7:qO h7 h.next (s.1++[(y,x)]):=by
          rw[Be (rj.2 hky)]at m7;have:Lm s.1++[(((y:Nat):Int),AV.int .i64 ((x:Nat):Int))]=Lm (s.1++[(y,x)]):=by simp[Lm]
          rw[this]at m7;exact m7
         have a7:tG h6 .ki (.mp h.next) (.int .i64 (y:Nat)) (.int .i64 (x:Nat))=some (.un,h7):=a7;have x7:Ext h.next h h7:=x6'.trans (u7.ext (ab _));have hlt7:h.next<h7.next:=by rw[u7.nx];exact hlt6
         have q7:IsQ h7 (h.next+1) qw s.2:=q6.cong λc hc _=>u7.ne om;refine ae (ar (M3 e9 e11 a7) ?_);refine ae (ae (bM (jK 2 (M1 e2) rfl (Z1 e2) (M1 e2) (M1 e2) (hend y hyn h7 x7) λv h8 hq=>?_)));obtain⟨rfl,x8⟩:=hq;refine bF (M0) ?_;have x8':=x7.trans (x8.mono x7.nx);have m8:=m7.cong (x8.gt _ m7.lt);have hlt8:=bS hlt7 x8.nx;have q8:=q7.ext x8 (ab _);cases hfin:fin y with
         |true =>
           refine dg (Z0) ?_;have hlen:(s.1++[(y,x)]).length<2^30:=by have:=(hbd jn).2;dsimp only at this;omega
           have hyk:y∈ks (s.1++[(y,x)]):=by simp[ks]
           refine ae (bM (aV 2 (M1 e9) rfl (Z1 e9) (M1 e9) (CP m8 jn.met hBg hyk hlen) λv h9 hq=>?_));obtain⟨i9,x9⟩:=hq;refine bF (M0) ?_;obtain⟨C1,hC1⟩:=Go.Pla.fold_pre (g:=grE n E hE hL) (laid:=H) (thr:=thr) (x:=x) (Bl.drop (k+1)) (s.1++[(y,x)],if thr y=true then s.2++[y]else s.2);obtain⟨C2,hC2⟩:=Go.Pla.full_pre (g:=grE n E hE hL) (Bl:=Bl) (laid:=H) (thr:=thr) f' (Bl.foldl (stepE (grE n E hE hL) H thr x) (L,Q));rw[hff,<-j2,hC1]at hC2;have hC2:F=(s.1++[(y,x)])++(C1++C2):=by rw[hC2];simp
           obtain⟨T,hT⟩:=j1.met.root;have hne:s.1≠[]:=by rw[hT];simp
           refine bG ⟨v,(by simp only[rs,rf94,am,aD,simprocAttr]<;>rfl),x8'.trans (x9.mono x8'.nx),some y,⟨s.1,x,C1++C2,by rw[hC2];simp,hne,j4,hfin⟩,?_⟩;have htr:tr F y=tr (s.1++[(y,x)]) y:=by
            have nd:=hFm.nd;rw[hC2]at nd |-;exact tr_app nd hyk
           show IsSl h9 1 h.next v (nC (tr F y));rw[htr];exact i9.mono x8'.nx
         |false =>
           refine dQ (Z0) (bK ?_);have j4':∀z∈ks (s.1++[(y,x)]).tail,fin z=false:=by
            obtain⟨T,hT⟩:=j1.met.root;have hne:s.1≠[]:=by rw[hT];simp
            rw[Go.Pla.tail_app hne];intro z hz;rcases aw.1 hz with hz|hz
            .exact j4 z hz
            .have:z=y:=by simpa[ks]using hz
             rw[this];exact hfin
           refine ae (bM (jK 2 (M1 e3) rfl (Z1 e3) (M1 e3) (M1 e3) (hthr y hyn h8 x8') λv h9 hq=>?_));obtain⟨rfl,x9⟩:=hq;refine bF (M0) ?_;have x9':=x8'.trans (x9.mono x8'.nx);have m9:=m8.cong (x9.gt _ m8.lt);have hlt9:=bS hlt8 x9.nx;have q9:=q8.ext x9 (ab _);cases hth:thr y with
           |true =>
             rw[hth]at j2 jn tdn;simp only[if_true]at j2 jn tdn;refine dg (Z0) ?_;have hql:s.2.length<2^34:=by
              have h1:todo n s<=n+1:=by
               have:todo n (L,x::Q)=todo n (L,Q)+1:=by simp only[todo,aq];omega
               omega
              simp only[todo]at h1;omega
             obtain⟨qz,h10,a10,q10,x10,n10,_,_⟩:=q9.push om hql y;have m10:=m9.cong (x10.gt _ om);have x10':Ext h.next h h10:=x9'.trans (x10.mono om);refine cr (λts h'=>h'=h10/\Held [(37,.int .i64 (k:Nat)),(36,.int .i64 (Bl.length:Nat)),(35,edv),(0,.ptr bb 0),(2,.fn ke ce),(3,.fn kt ct),(9,.mp h.next),(10,qz),(11,.int .i64 (x:Nat))] ts) (by simp only[am,aD,simprocAttr,ei,en,e35,e0,e2,e3,e9,e10,e11,a10,cm,cI]) ?_;rintro ts h' ⟨rfl,hh⟩;exact⟨((s.1++[(y,x)],s.2++[y]),qz),⟨jn,j2,cw tdn j3,j4',m10,q10,x10',om⟩,hh⟩
           |false =>
             rw[hth]at j2 jn tdn;simp only[bu,if_false]at j2 jn tdn;refine dQ (Z0) (bK ?_);exact⟨((s.1++[(y,x)],s.2),qw),⟨jn,j2,cw tdn j3,j4',m9,q9,x9',hlt9⟩,H10 ei en e35 e0 e2 e3 e9 e10 e11 e11⟩
   .rintro⟨s,qw⟩ ts h5 ⟨j1,j2,j3,j4,j5,j6,x5,hlt5⟩ ⟨e35,e0,e2,e3,e9,e10,e11,-⟩;simp only at e35 e0 e2 e3 e9 e10 e11 j1 j2 j3 j4 j5 j6;rw[cW (ab _)]at j1 j2;have j2:s=_:=j2;refine⟨f',om,s.1,s.2,qw,j1.end,by rw[<-hff,<-j2],?_,j4,j5,j6,?_,x5,hlt5,e0,e2,e3,e9,e10⟩
    .have:todo n (L,x::Q)=todo n (L,Q)+1:=by simp only[todo,aq];omega
     show todo n s<=f';omega
    .have:todo n (L,x::Q)=todo n (L,Q)+1:=by simp only[todo,aq];omega
     show todo n s<=n+1;omega
open Go.Am
open Go.Pla (at_ jn On)
theorem Bz{g:Go.Blk.Gr}{k:Nat}(hk:k<w.length):On g (w.take (k+1)) i↔On g (w.take k) i\/∃j,k=j+1/\jn g i (w.getD j 0) (w.getD k 0)=true:=by
 have h1:w.take (k+1)=w.take k++[w[k]]:=by rw[fB,ai hk];rfl
 have hd:w.getD k 0=w[k]:=by simp[List.getD,hk]
 constructor
 .rintro⟨a,x,y,b,h2,h3⟩;rw[h1]at h2;rcases cU b with rfl|⟨b,q,rfl⟩
  .have h4:w.take k++[w[k]]=(a++[x])++[y]:=by rw[h2];simp
   obtain⟨h5,h6⟩:=di h4 rfl;injection h6 with h6;have hl:=congrArg List.length h5;rw[bB,aC,tN]at hl;have hk1:k=a.length+1:=om;refine .inr ⟨a.length,hk1,?_⟩;have:w.getD a.length 0=x:=by
    have h7:(w.take k)[a.length]?=some x:=by rw[h5];simp
    rw[cF]at h7;rw[if_pos om]at h7;simp[List.getD,h7]
   rw[this,hd,h6];exact h3
  .rw[dl]at h2;have h4:w.take k++[w[k]]=(a++x::y::b)++[q]:=by rw[h2];simp
   obtain⟨h5,_⟩:=di h4 rfl;exact .inl ⟨a,x,y,b,h5,h3⟩
 .rintro (⟨a,x,y,b,h2,h3⟩|⟨j,rfl,h3⟩)
  .exact⟨a,x,y,b++[w[k]],by rw[h1,h2];simp,h3⟩
  .have hj:j<w.length:=om;have h4:w.take (j+1)=w.take j++[w[j]]:=by rw[fB,ai hj];rfl
   have hdj:w.getD j 0=w[j]:=by simp[List.getD,hj]
   rw[hd,hdj]at h3;exact⟨w.take j,w[j],w[j+1],[],by rw[h1,h4,bD];rfl,h3⟩
theorem KM{hE:InG n E}{hL:∀i,i<E.length->tlE E i≠hdE E i}{y:Nat}:jn (grE n E hE hL) i y x=true↔ll E i x=true/\mG E i x=((y:Nat):Int):=by
 rw[Go.Pla.jn_iff];show((tlE E i=y/\hdE E i=x)\/(tlE E i=x/\hdE E i=y))↔_;simp only[ll,mG,df,aI];omega
set_option maxHeartbeats 2000000 in
theorem yc{wv:AV}{la:Nat}(u:Bu h bb n ev edv E Bl la pa H V fav)(hE:InG n E)(hL:∀i,i<E.length->tlE E i≠hdE E i)(hn:n<2^30)(hm:E.length<2^30)(hB:∀i∈Bl,i<E.length)(hBn:Bl.length<2^30)(hw:SlN h wv w)(hwn:∀x∈w,x<n)(hwl:w.length<2^30)(ho:Off (λc=>c=la\/c=pa) wv) :
 C prg 96 [.ptr bb 0,wv] h λ_ h'=>∃H' V',Bu h' bb n ev edv E Bl la pa H' V' fav/\Kp (λc=>c=la\/c=pa) h h'/\(∀i,H' i=true↔H i=true\/(i∈Bl/\On (grE n E hE hL) w i))/\(∀v,V' v=true↔V v=true\/v∈w):=by
 refine Me pf96 ?_;have wl:=hw.len;rw[ah,ah]at wl;refine ae (ar (Mi1 wl) ?_)
 refine fj (α:=(Nat->Bool)×(Nat->Bool)) (N:=w.length) (λ_ _=>[(10,wv),(0,.ptr bb 0),(1,wv)])
  (λk a h'=>Bu h' bb n ev edv E Bl la pa a.1 a.2 fav/\Kp (λc=>c=la\/c=pa) h h'/\(∀i,a.1 i=true↔H i=true\/(i∈Bl/\On (grE n E hE hL) (w.take k) i))/\(∀v,a.2 v=true↔V v=true\/v∈w.take k))
  (H,V) (λ_ _=>rfl) om (Hi1 @dj) ⟨u,Kp.refl,λi=>?_,λv=>by simp⟩ ?_ ?_
 .constructor
  .exact .inl
  .rintro (h|⟨_,a,x,y,b,h,_⟩)
   .exact h
   .have:=congrArg List.length h;simp at this
 .rintro k ⟨Hk,Vk⟩ ts h1 hk ⟨j1,j2,j3,j4⟩ ⟨ei,en,e10,e0,e1,-⟩;simp only at ei en e10 e0 e1 j1 j2 j3 j4;have hw1:=hw.kp j2 ho;obtain⟨b,o,a,rr,_⟩:=hw1.at1 (i:=k) (y:=.int .i64 (w[k]:Nat)) (by rw[aE,aE,ai hk];rfl);have hxn:=hwn _ (aZ hk);have hgd:w.getD k 0=w[k]:=by simp[List.getD,hk]
  have htk:w.take (k+1)=w.take k++[w[k]]:=by rw[fB,ai hk];rfl
  generalize hx:w[k]=x at *
  refine ae (ar (M4 e10 ei a rr) ?_);have r4:ak h1 bb 4 1=some [.sl pa 0 n n]:=br j1.o rfl;have ix:gh ((x:Nat):Int) n=some x:=dL hxn;obtain⟨h2,w2,u2,up2⟩:=j1.putV hxn;refine ae (cr (λts h'=>h'=h2/\Held [(12,.int .i64 (k:Nat)),(11,.int .i64 (w.length:Nat)),(10,wv),(0,.ptr bb 0),(1,wv),(4,.int .i64 (k:Nat)),(5,.int .i64 (x:Nat))] ts) (by simp only[am,aD,simprocAttr,ei,en,e10,e0,e1,r4,ix,aM,w2,cm,cI]) ?_);rintro ts h2' ⟨rfl,ei,en,e10,e0,e1,e4,e5,-⟩;have k2:=j2.trans (up2.kp (S:=λc=>c=la\/c=pa) (.inr rfl)) (λ_ _ q=>q);have hV2:∀v,(if v=x then true else Vk v)=true↔V v=true\/v∈w.take (k+1):=λv=>by
   rw[htk,aw,cV];by_cases q:v=x
   .simp[q]
   .simp[q,j4 v]
  by_cases hk0:k=0
  .subst hk0;refine ae (ae (ar (M3 e4 @dj @decide_true) ?_));refine dg (Z1 @decide_true) (fh ⟨λ_=>⟨(Hk,λj=>if j=x then true else Vk j),⟨u2,k2,λi=>?_,hV2⟩,H5 ei en e10 e0 e1⟩,λe=>absurd rfl e⟩);rw[Bz hk,j3];constructor
   .rintro (h|⟨h1,h2⟩)
    .exact .inl h
    .exact .inr ⟨h1,.inl h2⟩
   .rintro (h|⟨h1,h2|⟨j,h2,_⟩⟩)
    .exact .inl h
    .exact .inr ⟨h1,h2⟩
    .omega
  .obtain⟨k',rfl⟩:∃k',k=k'+1:=⟨k-1,om⟩
   have d0:decide (((k'+1:Nat):Int)=0)=false:=by rw[aO];omega
   refine ae (ae (ar (M2 e4 d0) ?_));refine dQ (Z1 d0) (bK ?_);have rb:ak h2' bb 2 1=some [edv]:=br u2.o rfl;have lb:=u2.b.len;rw[ah,ah]at lb;refine ae (ar (M3 e0 rb lb) ?_);have hk':k'<w.length:=om;have hgd':w.getD k' 0=w[k']:=by simp[List.getD,hk']
   have w1:IntKind.i64.wrap (((k'+1:Nat):Int)-1)=((k':Nat):Int):=by
    have:((k'+1:Nat):Int)-1=((k':Nat):Int):=om;rw[this];exact fW om om
   refine fj (α:=Nat->Bool) (N:=Bl.length) (λ_ _=>[(28,edv),(12,.int .i64 ((k'+1:Nat):Int)),(11,.int .i64 (w.length:Nat)),(10,wv),(0,.ptr bb 0),(1,wv),(4,.int .i64 ((k'+1:Nat):Int)),(5,.int .i64 (x:Nat))])
    (λi a h'=>Bu h' bb n ev edv E Bl la pa a (λj=>if j=x then true else Vk j) fav/\Kp (λc=>c=la\/c=pa) h h'/\∀j,a j=true↔Hk j=true\/(j∈Bl.take i/\jn (grE n E hE hL) j (w.getD k' 0) x=true))
    Hk (λ_ _=>rfl) om (H7 ei en e10 e0 e1 e4 e5) ⟨u2,k2,λj=>by simp⟩ ?_ ?_
   .clear ei en e10 e0 e1 e4 e5 rb lb r4 a rr;rintro i Hi ts h3 hi ⟨i1,i2,i3⟩ ⟨f30,f29,f28,ei,en,e10,e0,e1,e4,e5,-⟩;simp only at f30 f29 f28 ei en e10 e0 e1 e4 e5 i1 i2 i3;obtain⟨b3,o3,a3,r3,_⟩:=i1.b.at1 (i:=i) (y:=.int .i64 (Bl[i]:Nat)) (by rw[aE,aE,ai hi];rfl);have hBi:=aZ hi;have htb:Bl.take (i+1)=Bl.take i++[Bl[i]]:=by rw[fB,ai hi];rfl
    have hei:=hB _ hBi;generalize hq:Bl[i]=q at *
    refine ae (ar (M4 f28 f30 a3 r3) ?_);have hC:=lU i1 hE (show n<2^40 by omega) hei hxn;refine ae (bM (aV 3 (M2 e0 e5) rfl (Z2 e0 e5) (M2 e0 e5) (hC) λv h4 hv=>?_));obtain⟨rfl,x4⟩:=hv;refine bF (M0) ?_;have u4:=i1.ext x4 (ab _);have k4:Kp (λc=>c=la\/c=pa) h h4:=i2.trans (x4.kp (S:=λc=>c=la\/c=pa) (ab _)) (λ_ _ q=>q);have hw4:=hw.kp k4 ho;obtain⟨b5,o5,a5,r5,_⟩:=hw4.at1 (i:=k') (y:=.int .i64 (w[k']:Nat)) (by rw[aE,aE,ai hk'];rfl);have jiff:=KM (n:=n) (E:=E) (hE:=hE) (hL:=hL) (i:=q) (x:=x) (y:=w.getD k' 0);have step:∀(a':Nat->Bool),(∀j,a' j=true↔Hi j=true\/(j=q/\jn (grE n E hE hL) q (w.getD k' 0) x=true))->∀j,a' j=true↔Hk j=true\/(j∈Bl.take (i+1)/\jn (grE n E hE hL) j (w.getD k' 0) x=true):=λa' ha' j=>by
     rw[ha',i3,htb,aw,cV];constructor
     .rintro ((h|⟨h1,h2⟩)|⟨rfl,h2⟩)
      .exact .inl h
      .exact .inr ⟨.inl h1,h2⟩
      .exact .inr ⟨.inr rfl,h2⟩
     .rintro (h|⟨h1|h1,h2⟩)
      .exact .inl (.inl h)
      .exact .inl (.inr ⟨h1,h2⟩)
      .subst h1;exact .inr ⟨rfl,h2⟩
    cases hI:ll E q x with
    |false =>
      refine ae (ar (M0) ?_);refine dQ (Z0) (bK ?_);exact⟨Hi,⟨u4,k4,step Hi λj=>by rw[jiff,hI];simp⟩,H10 f30 f29 f28 ei en e10 e0 e1 e4 e5⟩
    |true =>
      by_cases hy:mG E q x=((w[k']:Nat):Int)
      .have dy:decide (mG E q x=((w[k']:Nat):Int))=true:=bj hy;refine ae (ar (M6 e1 e4 w1 a5 r5 dy) ?_);refine dg (Z1 dy) ?_;have r6:ak h4 bb 3 1=some [.sl la 0 E.length E.length]:=br u4.o rfl;have iq:gh ((q:Nat):Int) E.length=some q:=dL hei;obtain⟨h6,w6,u6,up6⟩:=u4.putH hei;refine cr (λts h'=>h'=h6/\Held [(30,.int .i64 (i:Nat)),(29,.int .i64 (Bl.length:Nat)),(28,edv),(12,.int .i64 ((k'+1:Nat):Int)),(11,.int .i64 (w.length:Nat)),(10,wv),(0,.ptr bb 0),(1,wv),(4,.int .i64 ((k'+1:Nat):Int)),(5,.int .i64 (x:Nat))] ts) (by simp only[am,aD,simprocAttr,f30,f29,f28,ei,en,e10,e0,e1,e4,e5,r6,iq,aM,w6,cm,cI]) ?_;rintro ts h6' ⟨rfl,hh⟩;refine⟨_,⟨u6,k4.trans (up6.kp (S:=λc=>c=la\/c=pa) (.inl rfl)) (λ_ _ q=>q),step _ λj=>?_⟩,hh⟩;have hj:jn (grE n E hE hL) q (w.getD k' 0) x=true:=jiff.2 ⟨hI,by rw[hgd'];exact hy⟩;by_cases hjq:j=q
       .subst hjq;exact⟨λ_=>.inr ⟨rfl,hj⟩,λ_=>by simp⟩
       .simp[hjq]
      .have dy:decide (mG E q x=((w[k']:Nat):Int))=false:=aN hy;refine ae (ar (M6 e1 e4 w1 a5 r5 dy) ?_);refine dQ (Z1 dy) (bK ?_);refine⟨Hi,⟨u4,k4,step Hi λj=>?_⟩,H10 f30 f29 f28 ei en e10 e0 e1 e4 e5⟩;rw[jiff,hgd'];simp[hy]
   .rintro Hi ts h3 ⟨i1,i2,i3⟩ ⟨f28,ei,en,e10,e0,e1,e4,e5,-⟩;simp only at f28 ei en e10 e0 e1 e4 e5 i1 i2 i3;refine⟨(Hi,λj=>if j=x then true else Vk j),⟨i1,i2,λj=>?_,hV2⟩,H5 ei en e10 e0 e1⟩;rw[cB (ab _)]at i3;rw[i3,j3,Bz hk,hgd];constructor
    .rintro ((h|⟨h1,h2⟩)|⟨h1,h2⟩)
     .exact .inl h
     .exact .inr ⟨h1,.inl h2⟩
     .exact .inr ⟨h1,.inr ⟨k',rfl,h2⟩⟩
    .rintro (h|⟨h1,h2|⟨j',h3,h2⟩⟩)
     .exact .inl (.inl h)
     .exact .inl (.inr ⟨h1,h2⟩)
     .have:j'=k':=om;subst this;exact .inr ⟨h1,h2⟩
 .rintro⟨Hk,Vk⟩ ts h1 ⟨j1,j2,j3,j4⟩ ⟨e10,e0,e1,-⟩;rw[cB (ab _)]at j3 j4;exact⟨.tup [],rfl,Hk,Vk,j1,j2,j3,j4⟩
end Go.Proofs.YtmibmlioidpogaaGreatDoor
