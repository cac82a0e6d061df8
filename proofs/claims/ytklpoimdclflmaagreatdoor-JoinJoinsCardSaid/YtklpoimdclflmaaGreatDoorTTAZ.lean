/- arborref13.Join. -/
import Derived.Test.YtklpoimdclflmaaGreatDoorTTAY
import Derived.Test.YtklpoimdclflmaaGreatDoorTAmF
set_option linter.all false
namespace Go.Proofs.YtklpoimdclflmaaGreatDoor
open Go.Am
open Go.Blk (Gr Lst canon IsBlock)
variable {E:List (Int×Int)}{a:AO}{ev qv v:AV}{h:AH}{n:Int}{os:List AO}
def FK(he:SlE h ev E)(hxl:E.length<2^30)(hg:¬ft n E) :
 C prg 7 [.agg [.int .i64 n,ev],qv] h λr h'=>Ext h.next h h'/\r=.tup [.agg [.nils,.nils],.int .i64 1]:=by
 obtain⟨ec,eo⟩:=he.cells;refine Oj rfl ?_;refine ae (ak (Mi0) ?_);have ga:∀c,((h.new (.cells [.int .i64 n,ev] 2 false)).new (.cells [.nils,.nils] 2 false)).get c=if c=h.next+1 then some (.cells [.nils,.nils] 2 false)else if c=h.next then some (.cells [.int .i64 n,ev] 2 false)else h.get c:=λc=>by
  rw[AH.get_new,AH.get_new];rfl
 have x0:Ext h.next h ((h.new (.cells [.int .i64 n,ev] 2 false)).new (.cells [.nils,.nils] 2 false)):=(Oe (ab _)).trans (Oe (by simp));have n0:((h.new (.cells [.int .i64 n,ev] 2 false)).new (.cells [.nils,.nils] 2 false)).next=h.next+2:=rfl;generalize ((h.new (.cells [.int .i64 n,ev] 2 false)).new (.cells [.nils,.nils] 2 false))=h1 at *
 have gG:h1.get h.next=some (.cells [.int .i64 n,ev] 2 false):=by rw[ga,if_neg om,if_pos rfl]
 have gR:h1.get (h.next+1)=some (.cells [.nils,.nils] 2 false):=by rw[ga,if_pos rfl]
 have rG:ai h1 h.next 0 2=some [.int .i64 n,ev]:=by rw[aR gG];rfl
 refine ae (bM (bj 1 (Mi1 rG) rfl (Zi1 rG) (Mi1 rG) (sO (n:=n) (he.ext x0 (ab _)) hxl) λr h2 hq=>?_));obtain⟨x2,hbad,_⟩:=hq;have hr:=hbad hg;obtain⟨c,hc⟩:∃c:Int,1=c:=⟨1,rfl⟩
 have c1:(c != 0)=true:=by rw[<-hc];rfl
 have c2:decide (c=0)=false:=by rw[<-hc];rfl
 rw[hc]at hr;subst hr;have gR2:h2.get (h.next+1)=some (.cells [.nils,.nils] 2 false):=by rw[x2.gt _ om];exact gR
 have w3:=oJ (cs':=[.nils,.nils]) gR2 rfl;have u:=Oi (o:=.cells [.nils,.nils] 2 false) gR2;have r3:ai (h2.put (h.next+1) (.cells [.nils,.nils] 2 false)) (h.next+1) 0 2=some [.nils,.nils]:=by rw[aR u.get];rfl
 refine bI (M0) ?_;refine ae (ae (ak (by simp only[am,aL,simprocAttr,c1,c2,fI]<;>rfl) ?_));refine cZ (by simp only[am,aL,simprocAttr,c1,c2,fI]) (ae (ak (M1 w3) ?_));exact bu ⟨_,(by simp only[rs,rf7,am,aL,simprocAttr,r3]<;>rfl),(x0.trans (x2.mono om)).trans (u.ext om),rfl⟩
def Ff(he:SlE h ev E)(hxl:E.length<2^30)(hg:¬ft n E) :
 C prg 8 [.agg [.int .i64 n,ev],qv] h λr h'=>Ext h.next h h'/\r=.tup [.agg [.nils,.nils],.bool false]:=by
 obtain⟨ec,eo⟩:=he.cells;refine Oj rfl ?_;refine ae (ak (Mi0) ?_);have ga:∀c,((h.new (.cells [.int .i64 n,ev] 2 false)).new (.cells [.nils,.nils] 2 false)).get c=if c=h.next+1 then some (.cells [.nils,.nils] 2 false)else if c=h.next then some (.cells [.int .i64 n,ev] 2 false)else h.get c:=λc=>by
  rw[AH.get_new,AH.get_new];rfl
 have x0:Ext h.next h ((h.new (.cells [.int .i64 n,ev] 2 false)).new (.cells [.nils,.nils] 2 false)):=(Oe (ab _)).trans (Oe (by simp));have n0:((h.new (.cells [.int .i64 n,ev] 2 false)).new (.cells [.nils,.nils] 2 false)).next=h.next+2:=rfl;generalize ((h.new (.cells [.int .i64 n,ev] 2 false)).new (.cells [.nils,.nils] 2 false))=h1 at *
 have gG:h1.get h.next=some (.cells [.int .i64 n,ev] 2 false):=by rw[ga,if_neg om,if_pos rfl]
 have gR:h1.get (h.next+1)=some (.cells [.nils,.nils] 2 false):=by rw[ga,if_pos rfl]
 have rG:ai h1 h.next 0 2=some [.int .i64 n,ev]:=by rw[aR gG];rfl
 refine ae (ae (bM (bj 1 (Mi1 rG) rfl (Zi1 rG) (Mi1 rG) (uD (n:=n) (he.ext x0 (ab _)) hxl) λr h2 hq=>?_)));obtain⟨⟨b,rfl,hb⟩,x2⟩:=hq;have hbf:b=false:=by
  cases b with
  |false=>rfl
  |true=>exact absurd (hb.1 rfl) hg
 subst hbf;have gR2:h2.get (h.next+1)=some (.cells [.nils,.nils] 2 false):=by rw[x2.gt _ om];exact gR
 have w3:=oJ (cs':=[.nils,.nils]) gR2 rfl;have u:=Oi (o:=.cells [.nils,.nils] 2 false) gR2;have r3:ai (h2.put (h.next+1) (.cells [.nils,.nils] 2 false)) (h.next+1) 0 2=some [.nils,.nils]:=by rw[aR u.get];rfl
 refine bI (M0) ?_;refine cZ (Z0) (ae (ak (M1 w3) ?_));exact bu ⟨_,(by simp only[rs,rf8,am,aL,simprocAttr,r3]<;>rfl),(x0.trans (x2.mono om)).trans (u.ext om),rfl⟩
set_option maxHeartbeats 16000000 in
def Ae{n s:Nat}{ps:List Pl2}{l:Nat->Nat}{rank:Nat->Nat}{M:Nat}(he:SlE h ev E)(hg:ft (n:Nat) E)(hE:InG n E)(hL:∀i,i<E.length->tlE E i≠hdE E i)(hlst:Lst (grE n E hE hL) l)(qr:QR h qv ps)
 (hl1:∀p∈ps,p.1.length<=200) (hl2:∀p∈ps,p.2.length<=200) (hl3:∀p∈ps,∀l∈p.2,l.length<=200) (hs:gU n E=[((s:Nat):Int)]) (hpl30:ps.length<2^30)
 (hjk:ji n E (canon E.length l) ps->JK n E (canon E.length l) ps rank M) (hW:ji n E (canon E.length l) ps->((jB n E (canon E.length l) ps).W (M+1) s).length<=64) :
 C prg 8 [.agg [.int .i64 (n:Nat),ev],qv] h λr h'=>Ext h.next h h'/\(¬ji n E (canon E.length l) ps->r=.tup [.agg [.nils,.nils],.bool false]) /\
   (ji n E (canon E.length l) ps->∃ov uv,r=.tup [.agg [ov,uv],.bool true]/\SlI h' ov (qC (jB n E (canon E.length l) ps) M s)/\SlL h' uv (oE n (jB n E (canon E.length l) ps))):=by
 obtain⟨ec,eo⟩:=he.cells;obtain⟨qc,qo⟩:=qr.cells;obtain⟨m1,m2,m3,m4⟩:=iX hg.1;have hBm:=λb hb=>eG (m:=E.length) (l:=l) (b:=b) hb;have hBg:=λb hb=>jI hg hE hL hlst (b:=b) hb;have hBlen:=lB (m:=E.length) (l:=l);have ql:=qr.len;refine Oj rfl ?_;refine ae (ak (Mi0) ?_);have ga:∀c,((h.new (.cells [.int .i64 (n:Nat),ev] 2 false)).new (.cells [.nils,.nils] 2 false)).get c=if c=h.next+1 then some (.cells [.nils,.nils] 2 false)else if c=h.next then some (.cells [.int .i64 (n:Nat),ev] 2 false)else h.get c:=λc=>by
  rw[AH.get_new,AH.get_new];rfl
 have x0:Ext h.next h ((h.new (.cells [.int .i64 (n:Nat),ev] 2 false)).new (.cells [.nils,.nils] 2 false)):=(Oe (ab _)).trans (Oe (by simp));have n0:((h.new (.cells [.int .i64 (n:Nat),ev] 2 false)).new (.cells [.nils,.nils] 2 false)).next=h.next+2:=rfl;generalize ((h.new (.cells [.int .i64 (n:Nat),ev] 2 false)).new (.cells [.nils,.nils] 2 false))=h1 at *
 have gG:h1.get h.next=some (.cells [.int .i64 (n:Nat),ev] 2 false):=by rw[ga,if_neg om,if_pos rfl]
 have gR:h1.get (h.next+1)=some (.cells [.nils,.nils] 2 false):=by rw[ga,if_pos rfl]
 have rG:ai h1 h.next 0 2=some [.int .i64 (n:Nat),ev]:=by rw[aR gG];rfl
 refine ae (ae (bM (bj 1 (Mi1 rG) rfl (Zi1 rG) (Mi1 rG) (uD (n:=((n:Nat):Int)) (he.ext x0 (ab _)) om) λr hA hq=>?_)));obtain⟨⟨b,rfl,hb⟩,xA⟩:=hq;have hbt:b=true:=hb.2 hg;subst hbt;refine bI (M0) ?_;refine dC (Z0) (bz ?_);have nA:=xA.nx;have XA:Ext h.next h hA:=x0.trans (xA.mono om);have gGA:hA.get h.next=some (.cells [.int .i64 (n:Nat),ev] 2 false):=by rw[xA.gt _ om];exact gG
 have gRA:hA.get (h.next+1)=some (.cells [.nils,.nils] 2 false):=by rw[xA.gt _ om];exact gR
 have rGA:ai hA h.next 0 2=some [.int .i64 (n:Nat),ev]:=by rw[aR gGA];rfl
 have hrp:=EZ (n:=n) (he.ext XA (ab _)) hE hL m3 m2;unfold gW at hrp;refine ae (bM (bj 1 (Mi1 rGA) rfl (Zi1 rGA) (Mi1 rGA) (hrp) λpv h2 hq=>?_));obtain⟨x2,l',hlst',pl⟩:=hq;rw[show canon E.length l'=canon E.length l from Go.Blk.canon_congr λi hi=>hlst'.uniq hlst hi]at pl;clear hlst' ga;generalize canon E.length l=B at *
 have pln:=pl.len;rw[ah]at pln;have n2:=x2.nx;have X2:Ext h.next h h2:=XA.trans (x2.mono om);have gG2:h2.get h.next=some (.cells [.int .i64 (n:Nat),ev] 2 false):=by rw[x2.gt _ om];exact gGA
 have gR2:h2.get (h.next+1)=some (.cells [.nils,.nils] 2 false):=by rw[x2.gt _ om];exact gRA
 have bad:∀{h':AH},Ext h2.next h2 h'->∃h'',bP h' (h.next+1) 0 [.nils,.nils]=some h''/\Ext h.next h h''/\ai h'' (h.next+1) 0 2=some [.nils,.nils]:=fun {h'} x=>by
  have g:h'.get (h.next+1)=some (.cells [.nils,.nils] 2 false):=by rw[x.gt _ om];exact gR2
  have u:=Oi (o:=.cells [.nils,.nils] 2 false) g;exact⟨_,oJ g rfl,(X2.trans (x.mono om)).trans (u.ext om),by rw[aR u.get];rfl⟩
 refine bI (M0) ?_;by_cases hlen:¬ps.length=B.length
 .have c1:(((ps.length:Nat):Int) != ((B.length:Nat):Int))=true:=by rw[bne_iff_ne];omega
  have c2:decide (((ps.length:Nat):Int)=((B.length:Nat):Int))=false:=aw om;obtain⟨h3,w3,x3,r3⟩:=bad (h':=h2) Oh;refine ae (ae (ak (M4 ql pln c1 c2) ?_));refine cZ (by simp only[am,aL,simprocAttr,c1,c2,fI]) (ae (ak (M1 w3) ?_));exact bu ⟨_,(by simp only[rs,rf8,am,aL,simprocAttr,r3]<;>rfl),x3,λ_=>rfl,λq=>absurd q.1 hlen⟩
 have hlen:ps.length=B.length:=Classical.byContradiction hlen;have c1:(((ps.length:Nat):Int) != ((B.length:Nat):Int))=false:=by rw[hlen];simp
 have c2:decide (((ps.length:Nat):Int)=((B.length:Nat):Int))=true:=aH (by rw[hlen]);refine ae (ae (ak (M4 ql pln c1 c2) ?_));refine dC (Z3 c1 c2 @dp) (bz ?_);have rN2:ai h2 h.next 0 1=some [.int .i64 (n:Nat)]:=bq gG2 rfl;have mk:=oY (h:=h2) (n:=n) om;have gM:∀c,((h2.new (.cells (cq [.nils] n) 1 false)).new (.cells [.nils,.nils] 2 false)).get c=if c=h2.next+1 then some (.cells [.nils,.nils] 2 false)else if c=h2.next then some (.cells (cq [.nils] n) 1 false)else h2.get c:=λc=>by
  rw[AH.get_new,AH.get_new];rfl
 have x3:Ext h2.next h2 ((h2.new (.cells (cq [.nils] n) 1 false)).new (.cells [.nils,.nils] 2 false)):=(Oe (ab _)).trans (Oe (by simp));have n3:((h2.new (.cells (cq [.nils] n) 1 false)).new (.cells [.nils,.nils] 2 false)).next=h2.next+2:=rfl;have nx1:(h2.new (.cells (cq [.nils] n) 1 false)).next=h2.next+1:=rfl;have rl:(cq [AV.nils] n).length=n:=by rw[eQ,cA]
 have rnil:∀(i:Nat) (v:AV),(cq [AV.nils] n)[i]?=some v->v=.nils:=λi v hv=>by
  rw[eQ,cz]at hv;split at hv
  .cases hv;rfl
  .cases hv
 generalize cq [AV.nils] n=ws0 at *
 have gL0:((h2.new (.cells ws0 1 false)).new (.cells [.nils,.nils] 2 false)).get (h2.next+1)=some (.cells [.nils,.nils] 2 false):=by rw[gM,if_pos rfl]
 have w4:=oJ (cs':=[.nils,.sl h2.next 0 n n]) gL0 rfl;have u4:=Oi (o:=.cells [.nils,.sl h2.next 0 n n] 2 false) gL0;refine ae (ak (M4 rN2 mk nx1 w4) ?_);generalize hh4:((h2.new (.cells ws0 1 false)).new (.cells [.nils,.nils] 2 false)).put (h2.next+1) (.cells [.nils,.sl h2.next 0 n n] 2 false)=h4 at *
 have n4:h4.next=h2.next+2:=by rw[u4.nx,n3]
 have gL4:=u4.get;have gO4:h4.get h2.next=some (.cells ws0 1 false):=by rw[u4.ne om,gM,if_neg om,if_pos rfl]
 have x4:Ext h2.next h2 h4:=x3.trans (u4.ext om);clear u4 w4 gL0 hh4 nx1 n3 x3 gM mk;have qr2:=qr.ext X2;have keepB:∀{h':AH},Kp (λc=>c=h2.next) h4 h'->Ext h2.next h2 h':=fun {h'} q=>⟨by have:=q.nx;omega,λc hc=>(q.gt c om om).trans (x4.gt c hc),λc hc=>(q.ty c om).trans (x4.ty c hc)⟩
 refine ae (ae (ak (M0) ?_))
 refine dX (α:=List AV) (N:=B.length) (λk _=>[(1,qv),(2,.ptr h.next 0),(4,.ptr (h.next+1) 0),(6,pv),(7,.ptr (h2.next+1) 0),(8,.int .i64 (k:Nat))])
  (λk vs h'=>Kp (λc=>c=h2.next) h4 h'/\h'.get h2.next=some (.cells vs 1 false)/\vs.length=n/\Rw h' h4.next vs (jH n (jU n E B ps k))/\∀j (hj:j<B.length),j<k->fR n E B[j] (ps.getD j ([],[]))) ws0 (Hi1 @bh)
  ⟨Kp.refl,gO4,rl,⟨by unfold jH;rw[rl,ah,cw],λi v xs q1 q2=>by
   obtain rfl:=rnil i v q1;unfold jH at q2;rw[aV]at q2;obtain⟨x,_,rfl⟩:=aG.1 q2;exact .inl ⟨rfl,rfl⟩,λi j b m b' m' _ q=>by have:=rnil i _ q;cases this⟩,λj _ hj=>absurd hj (gz _)⟩ ?_ ?_ ?_
 .rintro k vs ts h5 hk _ ⟨e1,e2,e4,e6,e7,e8,-⟩;simp only at e1 e2 e4 e6 e7 e8;exact⟨_,(M4 e6 e8 pln @bE),Z0,H6 e1 e2 e4 e6 e7 e8⟩
 .rintro k vs ts h5 hk ⟨jk,jo,jl,jr,jp⟩ ⟨e1,e2,e4,e6,e7,e8,-⟩;simp only at e1 e2 e4 e6 e7 e8 jo jl jr;have w8:=dW (k:=k) om;have n5:=jk.nx;have x5:=keepB jk;have hbk:=ar hk;obtain⟨k1,k2,k3,k4⟩:=hBm _ hbk;have hgk:=hBg _ hbk;have hEk:=km hgk.1;have hkp:k<ps.length:=om;obtain⟨b1,o1,x,a1,q1,cc,lb1,ry⟩:=pl.at (i:=k) (by rw[ah];exact hk);rw[dz]at cc;obtain⟨b2,o2,av,uv,a2,q2,_,q2u,s1,s2,lb2⟩:=qr2.at hkp;have hpl1:=hl1 _ (ar hkp);have hpl2:=hl2 _ (ar hkp);have hpl3:=hl3 _ (ar hkp);have hokp:=Au (n:=n) (E:=E) (p:=ps[k]) hgk;have hpk:fR n E B[k] (ps.getD k ([],[]))↔fR n E B[k] ps[k]:=by rw[fT hkp]
  have hjp:ji n E B ps->fR n E B[k] ps[k]:=λq=>hpk.1 (q.2 k hk);have hjp2:fR n E B[k] ps[k]->∀j (hj:j<B.length),j<k+1->fR n E B[j] (ps.getD j ([],[])):=λq j hj hjk=>by
   by_cases e:j=k
   .subst e;exact hpk.2 q
   .exact jp j hj om
  have hbn:=λz=>yb (n:=n) (E:=E) (B:=B) (ps:=ps) (z:=z) hk;rw[fT hkp]at hbn;have hbl:∀z,(jU n E B ps k z).length<=k*200:=λz=>BB hl3;clear hpk;generalize ps[k]=p at *
  generalize B[k]=bk at *
  obtain⟨xV,xe,xn,xu⟩:=x;obtain⟨p1,p2,p3,p4,_⟩:=cc;simp only[lL]at p1 p2 p3 p4;subst p1;have r1:=yr q1 (show 2<=4 by omega);change ai h2 b1 o1 2=some [.int .i64 ((vsM n E (nI bk)).length:Nat),xe]at r1;have hvl:=oM n E (nI bk);have hsl:(fo n E (nI bk)).length<2^30:=by
   unfold fo;rw[ah,fj];omega
  have r15:ai h5 b1 o1 2=some [.int .i64 ((vsM n E (nI bk)).length:Nat),xe]:=by rw[bi (x5.gt _ lb1)];exact r1
  have r25:ai h5 b2 o2 2=some [av,uv]:=by rw[bi (x5.gt _ lb2)];exact q2
  refine ae (ae (bM (bj 9 (M7 e1 e6 e8 a1 r15 a2 r25) rfl (Z7 e1 e6 e8 a1 r15 a2 r25) (M7 e1 e6 e8 a1 r15 a2 r25) (zY (n:=(((vsM n E (nI bk)).length:Nat):Int)) (p2.ext x5 (ab _)) hsl (s1.ext x5 (ab _)) (s2.ext x5) hpl1 hpl2 hpl3) λr h6 hq=>?_)));obtain⟨⟨b,rfl,hb⟩,x6⟩:=hq;refine bI (M0) ?_;have n6:=x6.nx;have X6:Ext h2.next h2 h6:=x5.trans (x6.mono om);by_cases hok:¬fR n E bk p
  .have hbf:b=false:=by
    cases b with
    |false=>rfl
    |true=>exact absurd (hokp.1 (hb.1 rfl)) hok
   subst hbf;obtain⟨h9,w9,x9,r9⟩:=bad X6;refine cZ (Z0) (ae (ak (M2 e4 w9) ?_));exact bu ⟨_,(by simp only[rs,rf8,am,aL,simprocAttr,e4,r9]<;>rfl),x9,λ_=>rfl,λq=>absurd (hjp q) hok⟩
  have hok:fR n E bk p:=Classical.byContradiction hok;have hbt:b=true:=hb.2 (hokp.2 hok);subst hbt;refine dC (Z0) (bz ?_);have hul:p.2.length=(vsM n E (nI bk)).length:=hok.1.2.1;have hbn:=λz=>hbn z hul;have jk6:Kp (λc=>c=h2.next) h4 h6:=jk.trans (x6.kp (ab _)) λ_ _ q=>q;have jr6:Rw h6 h4.next vs (jH n (jU n E B ps k)):=jr.cong λc _ hc=>x6.gt _ hc;have jo6:h6.get h2.next=some (.cells vs 1 false):=by rw[x6.gt _ om];exact jo
  obtain⟨xnc,xno⟩:=p3.cells;have ln:=p3.len;rw[ah]at ln;have rd2:∀{h':AH},Kp (λc=>c=h2.next) h4 h'->ai h' b2 (o2+1) 1=some [uv]/\ai h' b1 (o1+2) 1=some [xn]/\ai h' b1 (o1+3) 1=some [xu]/\h'.get (h2.next+1)=some (.cells [.nils,.sl h2.next 0 n n] 2 false):=fun {h'} q=>by
   have x:=keepB q;refine⟨?_,?_,?_,?_⟩
   .rw[bi (x.gt _ lb2)];exact q2u
   .rw[bi (x.gt _ lb1)];exact ry 2 _ rfl
   .rw[bi (x.gt _ lb1)];exact ry 3 _ rfl
   .rw[q.gt _ om om];exact gL4
  refine ae (ak (M0) ?_)
  refine dX (α:=List AV) (N:=(vsM n E (nI bk)).length) (λi _=>[(1,qv),(2,.ptr h.next 0),(4,.ptr (h.next+1) 0),(6,pv),(7,.ptr (h2.next+1) 0),(8,.int .i64 (k:Nat)),(9,.int .i64 (i:Nat))])
   (λi vs h'=>Kp (λc=>c=h2.next) h4 h'/\h'.get h2.next=some (.cells vs 1 false)/\vs.length=n/\Rw h' h4.next vs (jH n λz=>jU n E B ps k z++iP n E bk p.2 i 0 z)) vs (H7 e1 e2 e4 e6 e7 e8 @bh)
   ⟨jk6,jo6,jl,by rw[jG λz=>by rw[AR,bF]];exact jr6⟩ ?_ ?_ ?_
  .clear e1 e2 e4 e6 e7 e8;rintro i vs ts h7 hi ⟨jk,jo,jl,jr⟩ ⟨e1,e2,e4,e6,e7,e8,e9,-⟩;simp only at e1 e2 e4 e6 e7 e8 e9;obtain⟨_,t2,_,_⟩:=rd2 jk;exact⟨_,(M7 e6 e8 e9 a1 t2 ln @bE),Z0,H7 e1 e2 e4 e6 e7 e8 e9⟩
  .clear e1 e2 e4 e6 e7 e8 jk jo jl jr;rintro i vs ts h7 hi ⟨jk,jo,jl,jr⟩ ⟨e1,e2,e4,e6,e7,e8,e9,-⟩;simp only at e1 e2 e4 e6 e7 e8 e9 jo jl jr;have w9:=dW (k:=i) om;have n7:=jk.nx;have x7:=keepB jk;obtain⟨t1,t2,t3,t4⟩:=rd2 jk;have hi2:i<p.2.length:=om;obtain⟨b3,o3,rv,a3,r3,s3,lb3⟩:=s2.at hi2;obtain⟨row,hrow⟩:∃row,p.2[i]=row:=⟨_,rfl⟩
   have hnum:∀t (ht:t<row.length),∃j:Nat,row[t]=((j:Nat):Int)/\j<bk.length:=by
    subst hrow;exact λt ht=>DH hok hEk hi hi2 ht
   have hpu:∀t (x:Nat),(vsM n E (nI bk))[i]=((x:Nat):Int)->∀ht:t<row.length,iP n E bk p.2 i (t+1) x=iP n E bk p.2 i t x++[phI bk row[t]]/\∀y,y≠x->iP n E bk p.2 i (t+1) y=iP n E bk p.2 i t y:=by
    subst hrow;intro t x hx ht;have:=AS (n:=n) (E:=E) (b:=bk) (outs:=p.2) (t:=t) hi hx (by rw[fT hi2];exact ht);simpa only[fT hi2]using this
   have hnx:∀z,iP n E bk p.2 i row.length z=iP n E bk p.2 (i+1) 0 z:=by
    subst hrow;intro z;have:=AU (n:=n) (E:=E) (b:=bk) (outs:=p.2) i z;rwa [fT hi2]at this
   have hil:=λt z=>Ea (n:=n) (E:=E) (b:=bk) (outs:=p.2) (i:=i) (t:=t) (z:=z) hpl3;have hrw:row.length<=200:=hrow▸hpl3 _ (ar hi2);rw[hrow]at s3;have l3:=s3.len;rw[ah]at l3;obtain⟨b4,o4,a4,r4,lb4⟩:=p3.at1 (cm (f:=eI) hi);have hvm:=ar hi;obtain⟨v1,v2⟩:=su hvm;obtain⟨x,hx⟩:∃x:Nat,(vsM n E (nI bk))[i]=((x:Nat):Int):=⟨((vsM n E (nI bk))[i]).toNat,om⟩
   rw[hx]at r4 v1 v2;have hxn:x<n:=om;have r47:ai h7 b4 o4 1=some [.int .i64 (x:Nat)]:=by rw[bi (x7.gt _ lb4)];exact r4
   refine ae (ak (M7 e6 e8 e9 a1 t2 a4 r47) ?_);refine ae (ak (M0) ?_)
   refine dX (α:=List AV) (N:=row.length) (λt _=>[(1,qv),(2,.ptr h.next 0),(4,.ptr (h.next+1) 0),(6,pv),(7,.ptr (h2.next+1) 0),(8,.int .i64 (k:Nat)),(9,.int .i64 (i:Nat)),(10,.int .i64 (x:Nat)),(11,.int .i64 (t:Nat))])
    (λt vs h'=>Kp (λc=>c=h2.next) h4 h'/\h'.get h2.next=some (.cells vs 1 false)/\vs.length=n/\Rw h' h4.next vs (jH n λz=>jU n E B ps k z++iP n E bk p.2 i t z)) vs (H8 e1 e2 e4 e6 e7 e8 e9 @bh)
    ⟨jk,jo,jl,jr⟩ ?_ ?_ ?_
   .clear e1 e2 e4 e6 e7 e8 e9;rintro t vs ts h8 ht ⟨jk,jo,jl,jr⟩ ⟨e1,e2,e4,e6,e7,e8,e9,e10,e11,-⟩;simp only at e1 e2 e4 e6 e7 e8 e9 e10 e11;obtain⟨t1,_,_,_⟩:=rd2 jk;have r38:ai h8 b3 o3 1=some [rv]:=by rw[bi ((keepB jk).gt _ lb3)];exact r3
    exact⟨_,(M10 e1 e8 e9 e11 a2 t1 a3 r38 l3 @bE),Z0,H10 e1 e2 e4 e6 e7 e8 e9 e10 e11 e11⟩
   .clear e1 e2 e4 e6 e7 e8 e9 jk jo jl jr t1 t2 t3 t4;rintro t vs ts h5 ht ⟨jk,jo,jl,jr⟩ ⟨e1,e2,e4,e6,e7,e8,e9,e10,e11,-⟩;simp only at e1 e2 e4 e6 e7 e8 e9 e10 e11 jo jl jr;have w11:=dW (k:=t) om;have x5:=keepB jk;have n5:=jk.nx;obtain⟨t1,t2,t3,t4⟩:=rd2 jk;obtain⟨j,hj,hjb2⟩:=hnum t ht;obtain⟨q1,q2⟩:=hpu t x hx ht;rw[hj]at q1;rw[HI hjb2]at q1;obtain⟨b5,o5,a5,r5,lb5⟩:=s3.at1 (cm (f:=eI) ht);rw[hj]at r5;obtain⟨b6,o6,a6,r6,lb6⟩:=p4.at1 (cm (f:=eI) (show j<(nI bk).length by rw[fj];exact hjb2));generalize (nI bk)[j]'(by rw[fj];exact hjb2)=w at *
    obtain⟨X7,p7,n7,y7⟩:=fO (h:=h5) (o:=.cells [.int .i64 w] 1 false);have kg:∀c,c<h5.next->(h5.keep 1).get c=h5.get c:=λc hc=>by rw[AH.keep_get,if_neg om]
    have kr:∀{b o m:Nat}{cs:List AV},b<h2.next->ai h2 b o m=some cs->ai (h5.keep 1) b o m=some cs:=fun {b o m cs} hb q=>by rw[bi (kg _ om),bi (x5.gt _ hb)];exact q
    have q7:(h5.keep 1).get h5.next=some .resv:=ff;have hR:Rw ((h5.keep 1).put h5.next (.cells [.int .i64 w] 1 false)) h4.next vs (jH n λz=>jU n E B ps k z++iP n E bk p.2 i t z):=jr.cong λc _ hc=>y7 _ hc;have hfl:=hbl x;have hfi:=hil t x;obtain⟨va,va',h8,s1,s2',s3',s4,s5,s6,s7,s8⟩:=hR.push (i:=x) (x:=h5.next) (k:=w) (zZ hxn) om p7 om (λj b n q=>by have:=(jr.lt q).1;omega) (by rw[aJ];omega);rw[wJ (g:=λz=>jU n E B ps k z++iP n E bk p.2 i (t+1) z) hxn (by simp only[q1,bL]) (λy hy=>by simp only[q2 y hy])]at s5;have ix:fe ((x:Nat):Int) n=some x:=cK hxn;have v1:ai (h5.keep 1) (h2.next+1) 1 1=some [.sl h2.next 0 n n]:=bq (by rw[kg _ om];exact t4) rfl;have v2:ai (h5.keep 1) b1 (o1+3) 1=some [xu]:=kr lb1 (ry 3 _ rfl);have v3:ai (h5.keep 1) b2 (o2+1) 1=some [uv]:=kr lb2 q2u;have v4:ai (h5.keep 1) b3 o3 1=some [rv]:=kr lb3 r3;have v5:ai (h5.keep 1) h2.next x 1=some [va]:=bq (by rw[kg _ om];exact jo) s1;have v6:ai (h5.keep 1) b5 o5 1=some [.int .i64 (j:Nat)]:=kr lb5 r5;have v7:ai (h5.keep 1) b6 o6 1=some [.int .i64 w]:=kr lb6 r6;have lw:∀c,c<h4.next->h8.get c=h5.get c:=λc hc=>by rw[s6.gt _ hc,y7 _ om]
    have d1:h8.get (h2.next+1)=some (.cells [.nils,.sl h2.next 0 n n] 2 false):=by rw[lw _ om];exact t4
    have d2:h8.get h2.next=some (.cells vs 1 false):=by rw[lw _ om];exact jo
    have f1:ai h8 (h2.next+1) 1 1=some [.sl h2.next 0 n n]:=bq d1 rfl;have f5:=ew (v:=va') d2 (show x<vs.length by omega);have u9:=Oi (o:=.cells (vs.set x va') 1 false) d2;refine lY (by simp only[am,aL,simprocAttr,e1,e6,e7,e8,e9,e10,e11,v1,v2,v3,v4,v5,v6,v7,a1,a2,a3,a5,a6,eA,dR q7,ix,aP,s2',s3',s4,f1,f5,lf]<;>rfl) ?_;refine⟨vs.set x va',⟨?_,u9.get,by rw[cx];exact jl,s5.cong λc hc _=>u9.ne om⟩,_,(M2 e11 w11),H8 e1 e2 e4 e6 e7 e8 e9 e10⟩;refine⟨by rw[u9.nx,s7,n7];omega,λc hc hne=>?_,λc hc=>?_⟩
    .rw[u9.ne hne,lw _ hc];exact jk.gt c hc hne
    .rw[u9.ty,s6.ty _ om,X7.ty _ om];exact jk.ty c hc
   .clear e1 e2 e4 e6 e7 e8 e9 jk jo jl jr;rintro vs ts h5 ⟨jk,jo,jl,jr⟩ ⟨e1,e2,e4,e6,e7,e8,e9,e10,e11,-⟩;simp only at e1 e2 e4 e6 e7 e8 e9 e10 e11 jo jl jr;rw[jG λz=>by rw[hnx]]at jr;exact⟨vs,⟨jk,jo,jl,jr⟩,_,(M2 e9 w9),H6 e1 e2 e4 e6 e7 e8⟩
  .clear e1 e2 e4 e6 e7 e8 jk jo jl jr;rintro vs ts h7 ⟨jk,jo,jl,jr⟩ ⟨e1,e2,e4,e6,e7,e8,e9,-⟩;simp only at e1 e2 e4 e6 e7 e8 e9 jo jl jr;rw[jG hbn]at jr;exact⟨vs,⟨jk,jo,jl,jr,hjp2 hok⟩,_,(M2 e8 w8),H5 e1 e2 e4 e6 e7⟩
 .rintro vs ts h5 ⟨jk,jo,jl,jr,jp⟩ ⟨e1,e2,e4,e6,e7,e8,-⟩;simp only at e1 e2 e4 e6 e7 e8 jo jl jr;rw[BC]at jr;have n5:=jk.nx;have x5:=keepB jk;have hok:ji n E B ps:=⟨hlen,λk hk=>jp k hk hk⟩
  have hJ:=hjk hok;have hWl:=hW hok;have X5:Ext h.next h h5:=X2.trans (x5.mono om);have gG5:h5.get h.next=some (.cells [.int .i64 (n:Nat),ev] 2 false):=by rw[x5.gt _ om];exact gG2
  have gR5:h5.get (h.next+1)=some (.cells [.nils,.nils] 2 false):=by rw[x5.gt _ om];exact gR2
  have gL5:h5.get (h2.next+1)=some (.cells [.nils,.sl h2.next 0 n n] 2 false):=by rw[jk.gt _ om om];exact gL4
  have rG5:ai h5 h.next 0 2=some [.int .i64 (n:Nat),ev]:=by rw[aR gG5];rfl
  refine ae (bM (bj 3 (M4 e1 e2 e6 rG5) rfl (Z4 e1 e2 e6 rG5) (M4 e1 e2 e6 rG5) (uH (n:=n) (he.ext X5 (ab _)) om m2) λr h6 hq=>?_));obtain⟨is,x6⟩:=hq;have n6:=x6.nx;rw[hs]at is;have ss:SlI h6 r [((s:Nat):Int)]:=Ob om (λ_=>rfl) is;obtain⟨b3,p3',a3,q3,_⟩:=ss.at1 (i:=0) (y:=.int .i64 ((s:Nat):Int)) rfl;rw[bh]at a3;have X6:Ext h2.next h2 h6:=x5.trans (x6.mono om);have hfr:=HC (n:=n) pl qr2 (λb hb=>⟨hBg b hb,by
   unfold fo;rw[ah,fj];have:=(hBm b hb).2.2.1;omega⟩) hJ hlen hl1 m2 om s X6 om
  refine bj 2 (M4 e1 e6 a3 q3) rfl (Z4 e1 e6 a3 q3) (M4 e1 e6 a3 q3) (hfr) λr h7 hq=>?_;obtain⟨i7,x7⟩:=hq;have n7:=x7.nx;obtain⟨oc,oo⟩:=i7.cells;have x57:Ext h5.next h5 h7:=x6.trans (x7.mono om);have gL7:h7.get (h2.next+1)=some (.cells [.nils,.sl h2.next 0 n n] 2 false):=by rw[x57.gt _ om];exact gL5
  have w8:=ew (v:=r) gL7 (i:=0) (by simp);change bP h7 (h2.next+1) 0 [r]=some (h7.put (h2.next+1) (.cells [r,.sl h2.next 0 n n] 2 false))at w8;have u8:=Oi (o:=.cells [r,.sl h2.next 0 n n] 2 false) gL7;refine bI (M4 e7 oc oo w8) ?_;generalize h7.put (h2.next+1) (.cells [r,.sl h2.next 0 n n] 2 false)=h8 at *
  have r8:ai h8 (h2.next+1) 0 2=some [r,.sl h2.next 0 n n]:=by rw[aR u8.get];rfl
  have gR8:h8.get (h.next+1)=some (.cells [.nils,.nils] 2 false):=by rw[u8.ne om,x57.gt _ om];exact gR5
  have w9:=oJ (cs':=[r,.sl h2.next 0 n n]) gR8 rfl;have u9:=Oi (o:=.cells [r,.sl h2.next 0 n n] 2 false) gR8;refine ae (ak (M5 e7 e4 r8 oo w9) ?_);generalize h8.put (h.next+1) (.cells [r,.sl h2.next 0 n n] 2 false)=h9 at *
  have r9:ai h9 (h.next+1) 0 2=some [r,.sl h2.next 0 n n]:=by rw[aR u9.get];rfl
  have k9:∀c,c≠h.next+1->c≠h2.next+1->h9.get c=h7.get c:=λc h1 h2=>by rw[u9.ne h1,u8.ne h2]
  have n9:h9.next=h7.next:=by rw[u9.nx,u8.nx]
  refine bu ⟨_,(by simp only[rs,rf8,am,aL,simprocAttr,e4,r9]<;>rfl),X2.trans ⟨om,λc hc=>?_,λc hc=>?_⟩,λq=>absurd hok q,λ_=>⟨r,_,rfl,?_,?_⟩⟩
  .rw[k9 _ om om,x57.gt _ om,x5.gt _ om]
  .rw[u9.ty,u8.ty,x57.ty _ om,x5.ty _ om]
  .exact wZ (i7.cong λc _ h1 _=>k9 _ om om)
  .have k59:∀c,h4.next<=c->c<h5.next->h9.get c=h5.get c:=λc h1 h2=>by rw[k9 _ om om,x57.gt _ h2]
   exact MW (by rw[k9 _ om om,x57.gt _ om];exact jo) jl (jr.cong k59)
open Go.Am
def me{α:Type}(p:List Bool)(x:α):(T.nil:T α).set p x=(T.node .nil none .nil).set p x:=by
 cases p with
 |nil=>rfl
 |cons b p=>cases b<;>rfl
def set_same{α:Type}(x y:α):∀(p:List Bool) (t:T α),(t.set p x).set p y=t.set p y:=by
 intro p;induction p with
 |nil =>
   intro t;cases t<;>rfl
 |cons b p ih =>
   intro t;cases t with
   |nil =>
     rw[me,me (b::p) y];have i0:=ih .nil;simp only[T.set]at i0;cases b<;>simp only[T.set,i0]
   |node l v r=>cases b<;>simp only[T.set,ih]
def set_comm{α:Type}(x y:α):∀(p q:List Bool) (t:T α),p≠q->(t.set p x).set q y=(t.set q y).set p x:=by
 intro p;induction p with
 |nil =>
   intro q t h;cases q with
   |nil=>exact absurd rfl h
   |cons b q =>
     cases t with
     |nil =>
       rw[me,me (b::q) y];cases b<;>rfl
     |node l v r=>cases b<;>rfl
 |cons a p ih =>
   intro q t h;cases q with
   |nil =>
     cases t with
     |nil =>
       rw[me,me [] y];cases a<;>rfl
     |node l v r=>cases a<;>rfl
   |cons b q =>
     have key:∀(l r:T α) (v:Option α),((T.node l v r).set (a::p) x).set (b::q) y=((T.node l v r).set (b::q) y).set (a::p) x:=by
      intro l r v;cases a<;>cases b
      .simp only[T.set];rw[ih q r (λe=>h (by rw[e]))]
      .simp only[T.set]
      .simp only[T.set]
      .simp only[T.set];rw[ih q l (λe=>h (by rw[e]))]
     cases t with
     |nil =>
       rw[me,me (b::q) y];exact key _ _ _
     |node l v r=>exact key _ _ _
def DK{m n:Nat}(h:m≠n):gC m≠gC n:=λe=>h (iM.1 e)
def Lu{m:Nat}{o:AO}(hm:m≠h.next):(h.new a).put m o=(h.put m o).new a:=by
 unfold AH.put AH.new;simp only;rw[set_comm _ _ _ _ _ (DK (Ne.symm hm))]
def LF{o:AO}:(h.new a).put h.next o=h.new o:=by
 unfold AH.put AH.new;simp only;rw[set_same]
def AK:∀(k:Nat) (h:AH) (m:Nat) (o:AO),m<h.next->(h.keep k).put m o=(h.put m o).keep k
 |0,_,_,_,_=>rfl
 |k+1,h,m,o,hm=>by
   show((h.new .resv).keep k).put m o=((h.put m o).new .resv).keep k;rw[AK k (h.new .resv) m o (by simp;omega),Lu om]
def Lt{m n:Nat}{b:AO}(hmn:m≠n):(h.put m a).put n b=(h.put n b).put m a:=by
 unfold AH.put;simp only;rw[set_comm _ _ _ _ _ (DK hmn)]
def sq:List AO->Nat->List (Nat×AO×Option Nat)
 |[],_=>[]
 |o::r,n=>(n,o,none)::sq r (n+1)
def zG:∀(os:List AO) (n:Nat),(sq os n).map (·.1)=List.range' n os.length
 |[],n=>rfl
 |o::r,n=>by rw[sq,bO,zG r,bd,List.range'_succ]
def An:∀(Z:List AO) (n:Nat) (h:AH) (m:Nat) (o:AO),m<n->mD (sq Z n) (h.put m o)=(mD (sq Z n) h).put m o
 |[],_,_,_,_,_=>rfl
 |a::r,n,h,m,o,hm=>by
   show((mD (sq r (n+1)) (h.put m o))).put n a=(((mD (sq r (n+1)) h)).put n a).put m o;rw[An r (n+1) h m o om,Lt om]
def wW:∀(os:List AO) (h:AH),news os h=mD (sq os h.next) (h.keep os.length)
 |[],h=>rfl
 |o::r,h=>by
   show news r (h.new o)=(mD (sq r (h.next+1)) ((h.new .resv).keep r.length)).put h.next o;rw[wW r (h.new o),<-An _ _ _ _ _ om,AK _ _ _ _ (by simp),LF];rfl
def Sl.stay{h':AH}{e:Nat}{xs:List (List AV)}(hk:∀b o,h.get b=some o->h'.get b=some o)(hs:Sl h e v xs):Sl h' e v xs:=by
 rcases hs with hs|⟨b,o,c,cs,ro,h1,h2,h3⟩
 .exact .inl hs
 .exact .inr ⟨b,o,c,cs,ro,h1,hk _ _ h2,h3⟩
def jq:(news os h).new a=news (os++[a]) h:=by
 induction os generalizing h with
 |nil=>rfl
 |cons o r ih=>exact ih
def EG{f:FuncId}{S0:AH}{m:Nat}(hg:kb prg ⟨.call f [] S0,[]⟩)(hS:S0=AH.zero.keep m)(hl:os.length=m)(hm:0<m) :
 C prg f [] (news os AH.zero) λv h'=>v=.bool true/\8+m<=h'.next/\∀b o,(news os AH.zero).get b=some o->h'.get b=some o:=by
 have he:news os AH.zero=mD (sq os 8) S0:=by
  rw[wW,hl,hS];rfl
 have hfst:(sq os 8).map (·.1)=List.range' 8 m:=by rw[zG,hl]
 have hmem:∀b,b∈(sq os 8).map (·.1)↔8<=b/\b<8+m:=λb=>by
  rw[hfst,List.mem_range'_1]
 have h8:AH.zero.next=8:=rfl;rw[he];refine(C.of_goodS hg (sq os 8) (by rw[hfst];exact List.nodup_range') (λx hx=>?_)).mono λv h' ⟨e1,e2⟩=>⟨e1,?_,λb o hb=>?_⟩
 .have:=(hmem x.1).1 (bp.2 ⟨x,hx,rfl⟩);rw[hS,AH.keep_get,if_pos ⟨om,om⟩]
 .have:=(e2 (8+m-1) ((hmem _).2 om)).1;omega
 .have hbl:b<8+m:=by
   have:=AH.lt_of_get hb;rw[lz,hS,AH.keep_next]at this;omega
  by_cases h8:8<=b
  .rw[(e2 b ((hmem b).2 ⟨h8,hbl⟩)).2];exact hb
  .exfalso;rw[<-he,oV _ _ _ (show b<AH.zero.next from by show b<8;omega),AH.get_zero]at hb;cases hb
open Go.Am
def SlL.stay{h h':AH}{v:AV}{xss:List (List Int)}(hk:∀b o,h.get b=some o->h'.get b=some o)(hs:SlL h v xss):SlL h' v xss:=by
 obtain⟨ws,a,b,c⟩:=hs;exact⟨ws,Sl.stay hk a,b,λi w xs h1 h2=>Sl.stay hk (c i w xs h1 h2)⟩
open Go.Am
def mS{x:AV}(h:fP v=some x):v.cells=[v]/\v.one=true:=by
 unfold fP at h;split at h
 .exact⟨rfl,rfl⟩
 .exact⟨rfl,rfl⟩
 .exact⟨rfl,rfl⟩
 .cases h
def IY{ne no nu:Nat}{ordv outv:AV}{outs:List (List Int)}(he:fP ev=some (.int .i64 (ne:Nat)))(hp:fP ordv=some (.int .i64 (no:Nat)))(hu:fP outv=some (.int .i64 (nu:Nat)))(hq:nu<=100->SlL h outv outs) :
 C prg 6 [.agg [.int .i64 n,ev],.agg [ordv,outv]] h λr h'=>(∃b,r=.bool b/\(b=false->ne<=200/\no<=100/\nu<=100/\∀l∈outs,l.length<=200))/\Ext h.next h h':=by
 obtain⟨ec,eo⟩:=mS he;obtain⟨oc,oo⟩:=mS hp;obtain⟨qc,qo⟩:=mS hu;refine Oj rfl ?_;refine ae (ak (Ji0) ?_);have ga:∀c,((h.new (.cells [.int .i64 n,ev] 2 false)).new (.cells [ordv,outv] 2 false)).get c=if c=h.next+1 then some (.cells [ordv,outv] 2 false)else if c=h.next then some (.cells [.int .i64 n,ev] 2 false)else h.get c:=λc=>by
  rw[AH.get_new,AH.get_new];rfl
 have x0:Ext h.next h ((h.new (.cells [.int .i64 n,ev] 2 false)).new (.cells [ordv,outv] 2 false)):=(Oe (ab _)).trans (Oe (by simp));generalize ((h.new (.cells [.int .i64 n,ev] 2 false)).new (.cells [ordv,outv] 2 false))=h1 at *
 have gG:h1.get h.next=some (.cells [.int .i64 n,ev] 2 false):=by rw[ga,if_neg om,if_pos rfl]
 have gP:h1.get (h.next+1)=some (.cells [ordv,outv] 2 false):=by rw[ga,if_pos rfl]
 have re:ai h1 h.next 1 1=some [ev]:=bq gG rfl;have ra:ai h1 (h.next+1) 0 1=some [ordv]:=bq gP rfl;have rb:ai h1 (h.next+1) 1 1=some [outv]:=bq gP rfl;by_cases q1:200<ne
 .have c1:decide ((200:Int)<((ne:Nat):Int))=true:=aH om;refine ae (ae (ak (Mi3 re he c1) ?_));refine cZ (Z0) (ae (ak (M0) ?_));exact bu ⟨.bool true,(by simp only[rs,rf6,am,aL,simprocAttr]<;>rfl),⟨true,rfl,λh=>by cases h⟩,x0⟩
 have c1:decide ((200:Int)<((ne:Nat):Int))=false:=aw om;by_cases q2:100<no
 .have c2:decide ((100:Int)<((no:Nat):Int))=true:=aH om;refine ae (ae (ak (Mi6 re he c1 ra hp c2) ?_));refine cZ (Z0) (ae (ak (M0) ?_));exact bu ⟨.bool true,(by simp only[rs,rf6,am,aL,simprocAttr]<;>rfl),⟨true,rfl,λh=>by cases h⟩,x0⟩
 have c2:decide ((100:Int)<((no:Nat):Int))=false:=aw om;by_cases q3:100<nu
 .have c3:decide ((100:Int)<((nu:Nat):Int))=true:=aH om;refine ae (ae (ak (Mi10 re he c1 ra hp c2 rb hu c3 c3) ?_));refine cZ (Z0) (ae (ak (M0) ?_));exact bu ⟨.bool true,(by simp only[rs,rf6,am,aL,simprocAttr]<;>rfl),⟨true,rfl,λh=>by cases h⟩,x0⟩
 have c3:decide ((100:Int)<((nu:Nat):Int))=false:=aw om;have hs:=(hq om).ext x0;have hlu:outs.length=nu:=by
  have:=hs.len;rw[hu]at this;simp only[aa,AV.int.injEq,true_and]at this;omega
 refine ae (ae (ak (Mi10 re he c1 ra hp c2 rb hu c3 c3) ?_));refine dC (Z0) (bz ?_);refine ae (ae (ak (Mi2 rb hu) ?_));refine fi (α:=Unit) (N:=nu) (λ_ _=>[(24,outv)]) (λk _ h'=>h'=h1/\∀l∈outs.take k,l.length<=200) () (λ_ _=>rfl) om (Hi0) ⟨rfl,by simp⟩ ?_ ?_
 .rintro k _ ts h2 hk ⟨rfl,j1⟩ ⟨ei,en,e24,-⟩;simp only at ei en e24;obtain⟨b1,p1,w,a1,r1,sw,_⟩:=hs.at (show k<outs.length by omega);have lw:=sw.len;rw[ah]at lw;refine ae (ak (M4 ei e24 a1 r1) ?_);refine ae (ak (M1 lw) ?_);refine cF (t:=decide (200<(outs[k]'om).length)) (by simp only[am,aL,simprocAttr];exact congrArg AV.bool (by simp only[decide_eq_decide];omega)) (λp=>?_) λp=>?_
  .refine ae (ak (M0) ?_);exact bu ⟨.bool true,(by simp only[rs,rf6,am,aL,simprocAttr]<;>rfl),⟨true,rfl,λh=>by cases h⟩,x0⟩
  .have p:¬200<(outs[k]'om).length:=bo p;refine bz ⟨(),⟨rfl,λl hl=>?_⟩,H3 ei en e24⟩;rw[aI om,aZ]at hl;rcases hl with hl|hl
   .exact j1 l hl
   .simp only[aF,bA,or_false]at hl;subst hl;omega
 .rintro _ ts h2 ⟨rfl,j1⟩ ⟨e24,-⟩;rw[dx om]at j1;refine ae (ak (M0) ?_);exact bu ⟨.bool false,(by simp only[rs,rf6,am,aL,simprocAttr]<;>rfl),⟨false,rfl,λ_=>⟨om,om,om,j1⟩⟩,x0⟩
open Go.Am
def CD(he:SlE h ev E) :
 C prg 5 [.agg [.int .i64 n,ev]] h λr h'=>r=.bool ((decide (20<n)&&fC n E)||decide (30<E.length))/\Ext h.next h h':=by
 have el:=he.len;rw[ah]at el;obtain⟨ec,eo⟩:=he.cells;have e30:decide ((30:Int)<((E.length:Nat):Int))=decide (30<E.length):=by rw[decide_eq_decide];omega
 refine Oj rfl ?_;refine ae (ak (Mi0) ?_);have x0:Ext h.next h (h.new (.cells [.int .i64 n,ev] 2 false)):=Oe (ab _);have g0:(h.new (.cells [.int .i64 n,ev] 2 false)).get h.next=some (.cells [.int .i64 n,ev] 2 false):=by rw[AH.get_new,if_pos rfl]
 have n0:(h.new (.cells [.int .i64 n,ev] 2 false)).next=h.next+1:=rfl;generalize (h.new (.cells [.int .i64 n,ev] 2 false))=h1 at *
 have rN:ai h1 h.next 0 1=some [.int .i64 n]:=bq g0 rfl;have rE:ai h1 h.next 1 1=some [ev]:=bq g0 rfl;have rA:ai h1 h.next 0 2=some [.int .i64 n,ev]:=by rw[aR g0];rfl
 by_cases q:20<n
 .have c1:decide (20<n)=true:=aH q;refine ae (bM (bj 5 (Mi3 rN rA c1) rfl (Zi3 rN rA c1) (Mi3 rN rA c1) (Ad (n:=n) (he.ext x0 (ab _))) λr h2 hq=>?_));obtain⟨rfl,x2⟩:=hq;have g2:h2.get h.next=some (.cells [.int .i64 n,ev] 2 false):=by rw[x2.gt _ om];exact g0
  have rE2:ai h2 h.next 1 1=some [ev]:=bq g2 rfl;rw[c1,oB];cases hm:fC n E with
  |true =>
    refine bI (M0) ?_;exact bu ⟨.bool true,(by simp only[rs,rf5,am,aL,simprocAttr]<;>rfl),rfl,x0.trans (x2.mono om)⟩
  |false =>
    refine bI (M3 rE2 el e30) ?_;exact bu ⟨.bool (decide (30<E.length)),(by simp only[rs,rf5,am,aL,simprocAttr]<;>rfl),rfl,x0.trans (x2.mono om)⟩
 .have c1:decide (20<n)=false:=aw q;refine ae (bM (fB 5 (Mi2 rN c1) rfl (Z0) ?_));refine bI (M3 rE el e30) ?_;exact bu ⟨.bool (decide (30<E.length)),(by simp only[rs,rf5,am,aL,simprocAttr]<;>rfl),by rw[c1,eF,BN],x0⟩
def fld0{x:AV}{r:List AV}:FQ false 0 1 (.agg (x::r))=some x:=rfl
open Go.Am
set_option maxRecDepth 100000
def skH0:AH:=updH ⟨4091,.nil,.nil⟩ 4091 ((List.range' 8 4083).map (λn=>(n,AO.resv))++[]) []
def skS0:PS:=⟨.call 4 [] skH0,[]⟩
open Go.Am
set_option maxRecDepth 100000
def skEnd:yE prg 65487 skS0=true:=by kernel_rfl
open Go.Am
def KD:kb prg (skS0.load prg) :=
 yD skEnd
end Go.Proofs.YtklpoimdclflmaaGreatDoor
