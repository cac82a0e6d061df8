/- join.Join. -/
import Derived.Test.YtklpoimdclflmaaGreatDoorTTAX
set_option linter.all false
namespace Go.Proofs.YtklpoimdclflmaaGreatDoor
open Go.Am
open Go.Blk (Gr Lst canon IsBlock)
def yr{h:AH}{b o m n:Nat}{cs:List AV}(hr:ai h b o m=some cs)(hn:n<=m):ai h b o n=some (cs.take n):=by
 unfold ai at *
 split at hr
 .split at hr
  .rename_i hlt
   cases hr;rw[if_pos om,NW,cD hn]
  .cases hr
 .cases hr
def CH{ev:RO->AV}{h:AH}{n e:Nat}{z:List AV}(hg:h.get n=some .resv):iV ev h n (.new z e)=some (.ptr n 0,h.put n (.cells z e false)):=by
 rw[lU hg];rfl
def oJ{h:AH}{b e:Nat}{cs cs':List AV}(g:h.get b=some (.cells cs e false))(hl:cs.length=cs'.length):bP h b 0 cs'=some (h.put b (.cells cs' e false)):=by
 rw[dw g,if_pos om];congr 3;simp only[dG,eD,cr,bN];rw[dy om,bF]
section
variable {b:List Nat}{k x:Nat}
variable {n:Nat}{E:List (Int×Int)}{B:List (List Nat)}
def HJ(hg:ft (n:Nat) E)(hE:InG n E)(hL:∀i,i<E.length->tlE E i≠hdE E i){l:Nat->Nat}(hl:Lst (grE n E hE hL) l)(hb:b∈canon E.length l) :
 ∃j:Nat,j<(vsM n E (nI b)).length/\gU (vsM n E (nI b)).length (fo n E (nI b))=[((j:Nat):Int)]:=by
 have hg':=jI hg hE hL hl hb;have hE':InG (vsM n E (nI b)).length (fo n E (nI b)):=km hg'.1;obtain⟨s,hs,h0,_⟩:=ur hg' hE';exact⟨s,hs,qW hE' (by have:=hg'.2.2.2.2;rwa [aO]at this) hs h0⟩
def srK(n:Nat)(E:List (Int×Int))(b:List Nat):Nat:=nmV n E b ((gU (vsM n E (nI b)).length (fo n E (nI b))).headD 0).toNat
def GT{j:Nat}(h:gU (vsM n E (nI b)).length (fo n E (nI b))=[((j:Nat):Int)]):srK n E b=nmV n E b j:=by
 unfold srK;rw[h];rfl
def frK(n:Nat)(E:List (Int×Int))(B:List (List Nat))(k x:Nat):List Nat:=(List.range k).filter λj=>srK n E (B.getD j [])==x
def Mf:(frK n E B k x).length<=k:=by
 unfold frK;have:=cX (λj=>srK n E (B.getD j [])==x) (List.range k);rwa [cw]at this
def Jg(hk:k<B.length):frK n E B (k+1) x=if srK n E B[k]=x then frK n E B k x++[k]else frK n E B k x:=by
 unfold frK;rw[cP,cB,fx,fT hk];by_cases e:srK n E B[k]=x
 .rw[if_pos e,if_pos (by simpa using e)];rfl
 .rw[if_neg e,if_neg (by simpa using e)];exact bF _
def Mg{ps:List (List Int×List (List Int))}{rank:Nat->Nat}{M:Nat}(jk:JK n E B ps rank M)(x:Nat):frK n E B B.length x=mj (jB n E B ps) x:=by
 unfold frK mj;show _=(List.range B.length).filter _;refine mJ λj hj=>?_;rw[aX]at hj;obtain⟨y0,q,_,e2,_,_,e5⟩:=jk.src j hj;rw[fT hj,GT e5,e2]
def Au{p:Pl2}(hg:ft (((vsM n E (nI b)).length:Nat):Int) (fo n E (nI b))):OKP (((vsM n E (nI b)).length:Nat):Int) (fo n E (nI b)) p.1 p.2↔fR n E b p:=by
 unfold OKP fR;rw[aO];exact⟨λh=>⟨h.1.2,h.2⟩,λh=>⟨⟨hg,h.1⟩,h.2⟩⟩
end
variable {M k lo:Nat}{h:AH}{ps:List Pl2}{qv:AV}{rank:Nat->Nat}
def MW{ob n:Nat}{vs:List AV}{X:List (List Int)}(g:h.get ob=some (.cells vs 1 false))(hl:vs.length=n)(r:Rw h lo vs X):SlL h (.sl ob 0 n n) X :=
 ⟨vs,Od g om (ab _),r.1,λi w xs e1 e2=>Ob om (λ_=>rfl) (r.2.1 i w xs e1 e2)⟩
set_option maxHeartbeats 8000000 in
def AN{n s:Nat}{ev:AV}{E:List (Int×Int)}{l:Nat->Nat}(he:SlE h ev E)(hg:ft (n:Nat) E)(hE:InG n E)(hL:∀i,i<E.length->tlE E i≠hdE E i)(hlst:Lst (grE n E hE hL) l)(qr:QR h qv ps)
 (hl1:∀p∈ps,p.1.length<=200) (hl2:∀p∈ps,p.2.length<=200) (hl3:∀p∈ps,∀l∈p.2,l.length<=200) (hs:gU n E=[((s:Nat):Int)])
 (hjk:ji n E (canon E.length l) ps->JK n E (canon E.length l) ps rank M) (hW:ji n E (canon E.length l) ps->((jB n E (canon E.length l) ps).W (M+1) s).length<=64) :
 C prg 7 [.agg [.int .i64 (n:Nat),ev],qv] h λr h'=>Ext h.next h h'/\(¬ji n E (canon E.length l) ps->r=.tup [.agg [.nils,.nils],.int .i64 1]) /\
   (ji n E (canon E.length l) ps->∃ov uv,r=.tup [.agg [ov,uv],.int .i64 0]/\SlI h' ov (qC (jB n E (canon E.length l) ps) M s)/\SlL h' uv (oE n (jB n E (canon E.length l) ps))):=by
 obtain⟨ec,eo⟩:=he.cells;obtain⟨qc,qo⟩:=qr.cells;obtain⟨m1,m2,m3,m4⟩:=iX hg.1;have hBm:=λb hb=>eG (m:=E.length) (l:=l) (b:=b) hb;have hBg:=λb hb=>jI hg hE hL hlst (b:=b) hb;have hBs:=λb hb=>HJ hg hE hL hlst (b:=b) hb;have hBlen:=lB (m:=E.length) (l:=l);have ql:=qr.len;refine Oj rfl ?_;refine ae (ak (Mi0) ?_);have ga:∀c,((h.new (.cells [.int .i64 (n:Nat),ev] 2 false)).new (.cells [.nils,.nils] 2 false)).get c=if c=h.next+1 then some (.cells [.nils,.nils] 2 false)else if c=h.next then some (.cells [.int .i64 (n:Nat),ev] 2 false)else h.get c:=λc=>by
  rw[AH.get_new,AH.get_new];rfl
 have x0:Ext h.next h ((h.new (.cells [.int .i64 (n:Nat),ev] 2 false)).new (.cells [.nils,.nils] 2 false)):=(Oe (ab _)).trans (Oe (by simp));have n0:((h.new (.cells [.int .i64 (n:Nat),ev] 2 false)).new (.cells [.nils,.nils] 2 false)).next=h.next+2:=rfl;generalize ((h.new (.cells [.int .i64 (n:Nat),ev] 2 false)).new (.cells [.nils,.nils] 2 false))=h1 at *
 have gG:h1.get h.next=some (.cells [.int .i64 (n:Nat),ev] 2 false):=by rw[ga,if_neg om,if_pos rfl]
 have gR:h1.get (h.next+1)=some (.cells [.nils,.nils] 2 false):=by rw[ga,if_pos rfl]
 have rG:ai h1 h.next 0 2=some [.int .i64 (n:Nat),ev]:=by rw[aR gG];rfl
 refine ae (bM (bj 1 (Mi1 rG) rfl (Zi1 rG) (Mi1 rG) (sO (n:=((n:Nat):Int)) (he.ext x0 (ab _)) om) λr h2 hq=>?_));obtain⟨x2,_,hgood⟩:=hq;obtain⟨pv,rfl,hpl⟩:=hgood hg;simp only[aO]at hpl;have pl:=hpl hE hL l hlst;clear hgood hpl ga;generalize canon E.length l=B at *
 have pln:=pl.len;rw[ah]at pln;have n2:=x2.nx;have X2:Ext h.next h h2:=x0.trans (x2.mono om);have gG2:h2.get h.next=some (.cells [.int .i64 (n:Nat),ev] 2 false):=by rw[x2.gt _ om];exact gG
 have gR2:h2.get (h.next+1)=some (.cells [.nils,.nils] 2 false):=by rw[x2.gt _ om];exact gR
 have bad:∀{h':AH},Ext h2.next h2 h'->∃h'',bP h' (h.next+1) 0 [.nils,.nils]=some h''/\Ext h.next h h''/\ai h'' (h.next+1) 0 2=some [.nils,.nils]:=fun {h'} x=>by
  have g:h'.get (h.next+1)=some (.cells [.nils,.nils] 2 false):=by rw[x.gt _ om];exact gR2
  have u:=Oi (o:=.cells [.nils,.nils] 2 false) g;exact⟨_,oJ g rfl,(X2.trans (x.mono om)).trans (u.ext om),by rw[aR u.get];rfl⟩
 refine bI (M0) ?_;by_cases hlen:¬ps.length=B.length
 .have c1:(((ps.length:Nat):Int) != ((B.length:Nat):Int))=true:=by rw[bne_iff_ne];omega
  have c2:decide (((ps.length:Nat):Int)=((B.length:Nat):Int))=false:=aw om;obtain⟨h3,w3,x3,r3⟩:=bad (h':=h2) Oh;refine ae (ae (ak (M6 ql pln c1 c2 @decide_true @dp) ?_));refine cZ (by simp only[am,aL,simprocAttr,c1,c2,fI]) (ae (ak (M1 w3) ?_));exact bu ⟨_,(by simp only[rs,rf7,am,aL,simprocAttr,r3]<;>rfl),x3,λ_=>rfl,λq=>absurd q.1 hlen⟩
 have hlen:ps.length=B.length:=Classical.byContradiction hlen;have c1:(((ps.length:Nat):Int) != ((B.length:Nat):Int))=false:=by rw[hlen];simp
 have c2:decide (((ps.length:Nat):Int)=((B.length:Nat):Int))=true:=aH (by rw[hlen]);refine ae (ae (ak (M6 ql pln c1 c2 @decide_true @dp) ?_));refine dC (Z3 c1 c2 @dp) (bz ?_);have gM:∀c,((h2.new (.mapo [] 0)).new (.cells [pv,qv,.mp h2.next,.nils,.nils] 5 false)).get c=if c=h2.next+1 then some (.cells [pv,qv,.mp h2.next,.nils,.nils] 5 false)else if c=h2.next then some (.mapo [] 0)else h2.get c:=λc=>by
  rw[AH.get_new,AH.get_new];rfl
 have x3:Ext h2.next h2 ((h2.new (.mapo [] 0)).new (.cells [pv,qv,.mp h2.next,.nils,.nils] 5 false)):=(Oe (ab _)).trans (Oe (by simp));have n3:((h2.new (.mapo [] 0)).new (.cells [pv,qv,.mp h2.next,.nils,.nils] 5 false)).next=h2.next+2:=rfl;obtain⟨pc,po⟩:=pl.cells;have nx1:(h2.new (.mapo [] 0)).next=h2.next+1:=rfl;refine ae (ak (M5 pc po qc qo nx1) ?_);generalize ((h2.new (.mapo [] 0)).new (.cells [pv,qv,.mp h2.next,.nils,.nils] 5 false))=h3 at *
 have gm3:h3.get h2.next=some (.mapo [] 0):=by rw[gM,if_neg om,if_pos rfl]
 have gj3:h3.get (h2.next+1)=some (.cells [pv,qv,.mp h2.next,.nils,.nils] 5 false):=by rw[gM,if_pos rfl]
 clear gM;have qr2:=qr.ext X2;have keepB:∀{h':AH},Kp (λc=>c=h2.next) h3 h'->Ext h2.next h2 h':=fun {h'} q=>⟨by have:=q.nx;omega,λc hc=>(q.gt c om om).trans (x3.gt c hc),λc hc=>(q.ty c om).trans (x3.ty c hc)⟩
 refine ae (ae (ak (M1 pln) ?_))
 refine fi (α:=ML) (N:=B.length) (λ_ _=>[(1,qv),(2,.ptr h.next 0),(4,.ptr (h.next+1) 0),(6,pv),(8,.ptr (h2.next+1) 0)])
  (λk ml h'=>Kp (λc=>c=h2.next) h3 h'/\(∃es c,h'.get h2.next=some (.mapo es c)/\MapL h' h3.next es c ml)/\(∀x,lkL ml x=frK n E B k x)/\∀j (hj:j<B.length),j<k->fR n E B[j] (ps.getD j ([],[]))) [] (λ_ _=>rfl) om (Hi0)
  ⟨Kp.refl,⟨[],0,gm3,MapL.nil⟩,λx=>rfl,λj _ hj=>absurd hj (gz _)⟩ ?_ ?_
 .rintro k ml ts h4 hk ⟨jk,⟨es,c,jm,jl⟩,jf,jp⟩ ⟨ei,en,e1,e2,e4,e6,e8,-⟩;simp only at ei en e1 e2 e4 e6 e8;have n4:=jk.nx;have x4:=keepB jk;have hbk:=ar hk;obtain⟨k1,k2,k3,k4⟩:=hBm _ hbk;have hgk:=hBg _ hbk;obtain⟨js,hjs,hjs2⟩:=hBs _ hbk;have hsk:=GT hjs2;have hkp:k<ps.length:=om;obtain⟨b1,o1,x,a1,q1,cc,lb1,ry⟩:=pl.at (i:=k) (by rw[ah];exact hk);rw[dz]at cc;obtain⟨b2,o2,av,uv,a2,q2,_,_,s1,s2,lb2⟩:=qr2.at hkp;have hpl1:=hl1 _ (ar hkp);have hpl2:=hl2 _ (ar hkp);have hpl3:=hl3 _ (ar hkp);have hokp:=Au (n:=n) (E:=E) (p:=ps[k]) hgk;have hfs:=λx=>Jg (n:=n) (E:=E) (x:=x) hk;have hpk:fR n E B[k] (ps.getD k ([],[]))↔fR n E B[k] ps[k]:=by rw[fT hkp]
  have hjp:ji n E B ps->fR n E B[k] ps[k]:=λq=>hpk.1 (q.2 k hk);have hjp2:fR n E B[k] ps[k]->∀j (hj:j<B.length),j<k+1->fR n E B[j] (ps.getD j ([],[])):=λq j hj hjk=>by
   by_cases e:j=k
   .subst e;exact hpk.2 q
   .exact jp j hj om
  clear hpk;generalize ps[k]=p at *
  generalize B[k]=bk at *
  obtain⟨xV,xe,xn,xu⟩:=x;obtain⟨p1,p2,p3,p4,_⟩:=cc;simp only[lL]at p1 p2 p3 p4;subst p1;have r1:=yr q1 (show 2<=4 by omega);change ai h2 b1 o1 2=some [.int .i64 ((vsM n E (nI bk)).length:Nat),xe]at r1;have hvl:=oM n E (nI bk);have hsl:(fo n E (nI bk)).length<2^30:=by
   unfold fo;rw[ah,fj];omega
  refine ae (ak (M1 ei) ?_);have xk:Ext h4.next h4 (h4.keep 1):=Be;have kn:(h4.keep 1).next=h4.next+1:=AH.keep_next 1 h4;have g5:(h4.keep 1).get h4.next=some .resv:=ff;have x5:Ext h2.next h2 (h4.keep 1):=x4.trans (xk.mono om);have r1k:ai (h4.keep 1) b1 o1 2=some [.int .i64 ((vsM n E (nI bk)).length:Nat),xe]:=by rw[bi (x5.gt _ lb1)];exact r1
  have r2k:ai (h4.keep 1) b2 o2 2=some [av,uv]:=by rw[bi (x5.gt _ lb2)];exact q2
  refine ae (ae (pw (bj 9 (M6 e1 e6 a1 r1k a2 r2k) rfl (Z6 e1 e6 a1 r1k a2 r2k) (M6 e1 e6 a1 r1k a2 r2k) (DB (n:=(((vsM n E (nI bk)).length:Nat):Int)) (p2.ext x5 (ab _)) hsl (s1.ext x5 (ab _)) (s2.ext x5) hpl1 hpl2 hpl3) λr h6 hq=>?_)));obtain⟨x6,hr⟩:=hq;obtain⟨v1,v2,c',a0,rfl,hc⟩:=uz hr;have n6:=x6.nx;have g6:h6.get h4.next=some .resv:=by rw[x6.gt _ om];exact g5
  have u7:=Oi (o:=.cells [.int .i64 0,.int .i64 0,.nils] 3 false) g6;have w8:=oJ (cs':=[.int .i64 c',.int .i64 a0,.nils]) u7.get rfl;have u8:=Oi (o:=.cells [.int .i64 c',.int .i64 a0,.nils] 3 false) u7.get;have hnew:∀{ev:RO->AV},iV ev h6 h4.next (.new [.int .i64 0,.int .i64 0,.nils] 3)=some (.ptr h4.next 0,h6.put h4.next (.cells [.int .i64 0,.int .i64 0,.nils] 3 false)):=fun {ev}=>CH g6;have x8:Ext h4.next h4 ((h6.put h4.next (.cells [.int .i64 0,.int .i64 0,.nils] 3 false)).put h4.next (.cells [.int .i64 c',.int .i64 a0,.nils] 3 false)):=xk.trans ((x6.mono om).trans ((u7.ext (ab _)).trans (u8.ext (ab _))));refine bI (by simp only[am,aL,simprocAttr,tlF,eA,hnew,w8]<;>rfl) ?_;have g8:=u8.get;have n8:h4.next+1<=((h6.put h4.next (.cells [.int .i64 0,.int .i64 0,.nils] 3 false)).put h4.next (.cells [.int .i64 c',.int .i64 a0,.nils] 3 false)).next:=by rw[u8.nx,u7.nx];omega
  generalize (h6.put h4.next (.cells [.int .i64 0,.int .i64 0,.nils] 3 false)).put h4.next (.cells [.int .i64 c',.int .i64 a0,.nils] 3 false)=h8 at *
  clear u7 u8 w8 hnew g6 g5 r1k r2k hr;have r8:ai h8 h4.next 0 1=some [.int .i64 c']:=bq g8 rfl;have X8:Ext h2.next h2 h8:=x4.trans (x8.mono om);by_cases hok:¬fR n E bk p
  .have c1:(c' != 0)=true:=by rw[bne_iff_ne];exact λe=>hok (hokp.1 (hc.1 e))
   have c2:(!decide (c'=0))=true:=by rw[aw (λe=>hok (hokp.1 (hc.1 e)))];rfl
   obtain⟨h9,w9,x9,r9⟩:=bad X8;refine ae (ak (M3 r8 c1 c2) ?_);refine cZ (Z2 c1 c2) (ae (ak (M2 e4 w9) ?_));exact bu ⟨_,(by simp only[rs,rf7,am,aL,simprocAttr,e4,r9]<;>rfl),x9,λ_=>rfl,λq=>absurd (hjp q) hok⟩
  have hok:fR n E bk p:=Classical.byContradiction hok;have c0:=hc.2 (hokp.2 hok);subst c0;refine ae (ak (M2 r8 @decide_true) ?_);refine dC (Z1 @decide_true) (bz ?_);have y2:=p2.ext X8 (ab _);have y3:=p3.ext X8 (ab _);have r18:ai h8 b1 o1 2=some [.int .i64 ((vsM n E (nI bk)).length:Nat),xe]:=by rw[bi (X8.gt _ lb1)];exact r1
  have r38:ai h8 b1 (o1+2) 1=some [xn]:=by rw[bi (X8.gt _ lb1)];exact ry 2 _ rfl
  refine ae (bM (bj 3 (M2 e6 a1) rfl (Z2 e6 a1) (M2 e6 a1) (LP r18 r38 (by have:=X8.nx;omega) y2 hgk.1 y3 hjs2 hjs) λr h9 hq=>?_));obtain⟨rfl,x9⟩:=hq;rw[<-wV hjs,<-hsk];refine bI (M0) ?_;have n9:=x9.nx;have x49:Ext h4.next h4 h9:=x8.trans (x9.mono om);have k49:∀c,c<h4.next->h9.get c=h4.get c:=x49.gt;have jk9:Kp (λc=>c=h2.next) h3 h9:=jk.trans (x49.kp (ab _)) λ_ _ q=>q;have gj9:h9.get (h2.next+1)=some (.cells [pv,qv,.mp h2.next,.nils,.nils] 5 false):=by rw[jk9.gt _ om om];exact gj3
  have hsl:∀(j:Nat) (e:AV×AV×Nat),es[j]?=some e->∀b n,e.2.1=.sl b 0 n n->b<h4.next/\h3.next<=b:=λj e e1 b n e3=>by
   have hj:=(au.1 e1).1;have hi:=jl.at_ j e _ e1 (aj (by have:=jl.len;omega));refine⟨hi.lt e3,?_⟩;rcases hi with⟨q,_⟩|⟨b',m',hb',q,_⟩
   .rw[q]at e3;cases e3
   .rw[q]at e3;cases e3;exact hb'
  obtain⟨x7,p7,n7,y7⟩:=fO (h:=h9) (o:=.cells [.int .i64 ((k:Nat):Int)] 1 false);have kg:∀c,c<h9.next->(h9.keep 1).get c=h9.get c:=λc hc=>by rw[AH.keep_get,if_neg om]
  have q7:(h9.keep 1).get h9.next=some .resv:=ff;have m7:MapL ((h9.keep 1).put h9.next (.cells [.int .i64 ((k:Nat):Int)] 1 false)) h3.next es c ml:=jl.cong λc _ hc=>by rw[y7 _ om,k49 _ hc]
  have gm7:((h9.keep 1).put h9.next (.cells [.int .i64 ((k:Nat):Int)] 1 false)).get h2.next=some (.mapo es c):=by rw[y7 _ om,k49 _ om];exact jm
  have lkl:(lkL ml (srK n E bk)).length<2^30:=by
   rw[jf];have:=Mf (n:=n) (E:=E) (B:=B) (k:=k) (x:=srK n E bk);omega
  obtain⟨v,v',h10,h11,es',c',u1,u2,u3,u4,u5,u6,u7,u8,u9,u10,u11⟩:=m7.up gm7 om om (srK n E bk) k p7 om (λj e e1 b n e3=>by have:=(hsl j e e1 b n e3).1;omega) lkl;generalize srK n E bk=sk at *
  have v1:ai (h9.keep 1) (h2.next+1) 2 1=some [.mp h2.next]:=bq (by rw[kg _ om];exact gj9) rfl;have v3:oX (h9.keep 1) .ki false .nils (.mp h2.next) (.int .i64 ((sk:Nat):Int))=some v:=by rw[<-u1];exact DV (by rw[kg _ om,y7 _ om])
  have old:∀c,c<h3.next->h10.get c=h9.get c/\(c≠h2.next->h11.get c=h9.get c):=λc hc=>by
   obtain⟨o1,o2⟩:=u9 c om λj e e1 n e3=>by have:=(hsl j e e1 c n e3).2;omega
   exact⟨by rw[o1,y7 _ om],λhm=>by rw[o2 hm,y7 _ om]⟩
  have w1:ai h10 (h2.next+1) 2 1=some [.mp h2.next]:=bq (by rw[(old _ om).1];exact gj9) rfl;refine lY (by simp only[am,aL,simprocAttr,e8,v1,v3,eA,dR q7,u2,w1,u4]<;>rfl) ?_;refine⟨qU ml sk k,⟨⟨om,λc hc hn=>?_,λc hc=>?_⟩,⟨es',c',u5,u6⟩,λx=>?_,hjp2 hok⟩,H7 ei en e1 e2 e4 e6 e8⟩
  .rw[(old c hc).2 hn];exact jk9.gt c hc hn
  .rw[u8.ty c om,x7.ty c om];exact jk9.ty c hc
  .rw[Il,hfs,jf]
 .rintro ml ts h4 ⟨jk,⟨es,c,jm,jl⟩,jf,jp⟩ ⟨e1,e2,e4,e6,e8,-⟩;simp only at e1 e2 e4 e6 e8;have n4:=jk.nx;have x4:=keepB jk;have hok:ji n E B ps:=⟨hlen,λk hk=>jp k hk hk⟩
  have hJ:=hjk hok;have hWl:=hW hok;have gj4:h4.get (h2.next+1)=some (.cells [pv,qv,.mp h2.next,.nils,.nils] 5 false):=by rw[jk.gt _ om om];exact gj3
  have gG4:h4.get h.next=some (.cells [.int .i64 (n:Nat),ev] 2 false):=by rw[x4.gt _ om];exact gG2
  have gR4:h4.get (h.next+1)=some (.cells [.nils,.nils] 2 false):=by rw[x4.gt _ om];exact gR2
  have rN4:ai h4 h.next 0 1=some [.int .i64 (n:Nat)]:=bq gG4 rfl;refine ae (bM (bj 3 (M3 e8 e2 rN4) rfl (Z3 e8 e2 rN4) (M3 e8 e2 rN4) (IC x4 om gj4 pl qr2 hok (λk hk=>km (hBg _ (ar hk)).1) hl3 m2 om) λr h5 hq=>?_));obtain⟨kp5,ob,vs,gj5,ho5,gv5,hv5,rw5⟩:=hq;refine bI (M0) ?_;have n5:=kp5.nx;have gG5:h5.get h.next=some (.cells [.int .i64 (n:Nat),ev] 2 false):=by rw[kp5.gt _ om om];exact gG4
  have x5:Ext h2.next h2 h5:=⟨by have:=x4.nx;omega,λc hc=>(kp5.gt c om om).trans (x4.gt c hc),λc hc=>(kp5.ty c om).trans (x4.ty c hc)⟩
  have X5:Ext h.next h h5:=X2.trans (x5.mono om);have rG5:ai h5 h.next 0 2=some [.int .i64 (n:Nat),ev]:=by rw[aR gG5];rfl
  refine ae (bM (bj 2 (M3 e8 e2 rG5) rfl (Z3 e8 e2 rG5) (M3 e8 e2 rG5) (vh (he.ext X5 (ab _)) hg.1) λr h6 hq=>?_));obtain⟨hv6,x6⟩:=hq;refine jW (Z0) (M0) (qt hv6) λr h7 hq=>?_;obtain⟨is7,x7⟩:=hq;have n6:=x6.nx;have n7:=x7.nx;rw[hs]at is7;have ss:SlI h7 r [((s:Nat):Int)]:=Ob om (λ_=>rfl) is7;obtain⟨b1,p1,a1,q1,_⟩:=ss.at1 (i:=0) (y:=.int .i64 ((s:Nat):Int)) rfl;rw[bh]at a1;have x57:Ext h5.next h5 h7:=x6.trans (x7.mono om);have gj7:h7.get (h2.next+1)=some (.cells [pv,qv,.mp h2.next,.nils,.sl ob 0 n n] 5 false):=by rw[x57.gt _ om];exact gj5
  have ml5:∀c,h3.next<=c->c<h4.next->h7.get c=h4.get c:=λc h1 h2=>by rw[x57.gt _ om,kp5.gt _ om om]
  have gm7:h7.get h2.next=some (.mapo es c):=by rw[x57.gt _ om,kp5.gt _ om om];exact jm
  have hWk:=Iz (x5.trans (x57.mono om)) (show h2.next<=h2.next+1 by omega) (show h2.next+1<h7.next by omega) (uv:=.sl ob 0 n n) pl qr2 (show h2.next≠h2.next+1 by omega) gm7 (jl.cong ml5) (show h2.next+1<h3.next by omega) (λx=>by rw[jf,Mg hJ]) hJ hlen hl1 om s (h:=h7) (acc:=[]) ⟨Kp.refl,.nils,gj7,.inl ⟨rfl,rfl⟩⟩ (by rw[bm];omega);refine bj 2 (M3 e8 a1 q1) rfl (Z3 e8 a1 q1) (M3 e8 a1 q1) (hWk) λr h8 hq=>?_;rw[cr]at hq;obtain⟨kp8,ov,gj8,io8⟩:=hq;refine bI (M0) ?_;have n8:=kp8.nx;have r8:ai h8 (h2.next+1) 3 2=some [ov,.sl ob 0 n n]:=by rw[aR gj8];rfl
  have gR8:h8.get (h.next+1)=some (.cells [.nils,.nils] 2 false):=by rw[kp8.gt _ om om,x57.gt _ om,kp5.gt _ om om];exact gR4
  have w9:=oJ (cs':=[ov,.sl ob 0 n n]) gR8 rfl;have u9:=Oi (o:=.cells [ov,.sl ob 0 n n] 2 false) gR8;obtain⟨oc,oo⟩:=io8.cells;refine ae (ak (M5 e8 e4 r8 oo w9) ?_);generalize h8.put (h.next+1) (.cells [ov,.sl ob 0 n n] 2 false)=h9 at *
  have r9:ai h9 (h.next+1) 0 2=some [ov,.sl ob 0 n n]:=by rw[aR u9.get];rfl
  have s1:SlI h8 ov (qC (jB n E B ps) M s):=wZ io8;have k9:∀c,c≠h.next+1->h9.get c=h8.get c:=λc hc=>u9.ne hc;refine bu ⟨_,(by simp only[rs,rf7,am,aL,simprocAttr,e4,r9]<;>rfl),?_,λq=>absurd hok q,λ_=>⟨ov,_,rfl,?_,?_⟩⟩
  .refine X2.trans ⟨by rw[u9.nx];omega,λc hc=>?_,λc hc=>?_⟩
   .rw[k9 _ om,kp8.gt _ om om,x57.gt _ om,x5.gt _ om]
   .rw[u9.ty,kp8.ty _ om,x57.ty _ om,x5.ty _ om]
  .exact wZ (io8.upd u9 om)
  .have hob:=AH.lt_of_get gv5;have k59:∀c,h4.next<=c->c<h5.next->h9.get c=h5.get c:=λc h1 h2=>by rw[k9 _ om,kp8.gt _ om om,x57.gt _ h2]
   exact MW (by rw[k59 _ ho5 hob];exact gv5) hv5 (rw5.cong k59)
open Go.Am
open Go.Blk (Gr Lst canon IsBlock)
def NF(l:List Nat):(nC l).all AV.one=true:=by
 unfold nC;rw[bK];intro v hv;rw[cM]at hv;obtain⟨i,_,h⟩:=hv;rw[eI,eC]at h;subst h;rfl
def qE(J:Go.Jn.Blks)(k x:Nat):List Nat:=(List.range k).filter λj=>J.src j==x
def FN(J:Go.Jn.Blks)(k x:Nat):qE J (k+1) x=if J.src k=x then qE J k x++[k]else qE J k x:=by
 unfold qE;rw[cP,cB,fx];by_cases e:J.src k=x
 .rw[if_pos e,if_pos (by simpa using e)];rfl
 .rw[if_neg e,if_neg (by simpa using e)];exact bF _
def Me(J:Go.Jn.Blks){α:Type}(g:Nat->List α){m x:Nat}(h:k<=m):((qE J k x).flatMap g).length<=((qE J m x).flatMap g).length:=by
 obtain⟨d,rfl⟩:=Nat.le.dest h;unfold qE;rw[List.range_add,cB,br,aJ];omega
def FR{α β:Type}(g:α->List β){l:List α}(hk:k<l.length):(l.take (k+1)).flatMap g=(l.take k).flatMap g++g l[k]:=by
 rw[aI hk,br,bH,eY,bF]
set_option maxHeartbeats 8000000 in
def HC{hB:AH}{n:Nat}{pv:AV}{E:List (Int×Int)}{B:List (List Nat)}(pl:PL hB lo pv (B.map (lL n E)))(qr:QR hB qv ps)(hBg:∀b∈B,ft (((vsM n E (nI b)).length:Nat):Int) (fo n E (nI b))/\(fo n E (nI b)).length<2^30)
 (jk:JK n E B ps rank M) (hps:ps.length=B.length) (hol:∀p∈ps,p.1.length<=200) (hn:n<=64) (hBl:B.length<=128) :
 ∀(x:Nat) {h:AH},Ext hB.next hB h->((jB n E B ps).W (M+1) x).length<=2^29->C prg 24 [pv,qv,.int .i64 (x:Nat)] h λr h'=>IsSl h' 1 h.next r (nC ((jB n E B ps).W (M+1) x))/\Ext h.next h h':=by
 intro x;refine Go.Jn.W_ind jk.good (P:=λx=>∀{h:AH},Ext hB.next hB h->((jB n E B ps).W (M+1) x).length<=2^29->C prg 24 [pv,qv,.int .i64 (x:Nat)] h λr h'=>IsSl h' 1 h.next r (nC ((jB n E B ps).W (M+1) x))/\Ext h.next h h') ?_ x;clear x;intro x ih h hx0 hlen;have hW:=Dp jk.good x;have plB:=pl.len;rw[ah]at plB;rw[hW];rw[hW,bd]at hlen;generalize hg:(λk=>((jB n E B ps).ord k).flatMap ((jB n E B ps).W (M+1)))=g at *
 have hfr:mj (jB n E B ps) x=qE (jB n E B ps) B.length x:=rfl;rw[hfr]at hlen |-;have hle:∀k,k<=B.length->((qE (jB n E B ps) k x).flatMap g).length<=2^29:=λk hk=>by
  have:=Me (jB n E B ps) g (x:=x) hk;omega
 refine Oj rfl ?_;refine ae (ak (Mi0) ?_);have x1:Ext h.next h (h.new (.cells [.int .i64 (x:Nat)] 1 false)):=Oe (ab _);have g1:(h.new (.cells [.int .i64 (x:Nat)] 1 false)).get h.next=some (.cells [.int .i64 (x:Nat)] 1 false):=by rw[AH.get_new,if_pos rfl]
 refine ae (ak (Mi0) ?_);generalize h.new (.cells [.int .i64 (x:Nat)] 1 false)=h1 at *
 refine ae (ae (ak (M0) ?_))
 refine dX (α:=AV) (N:=B.length) (λk a=>[(0,pv),(1,qv),(2,.int .i64 (x:Nat)),(7,a),(8,.int .i64 (k:Nat))])
  (λk a h'=>Ext h.next h h'/\IsSl h' 1 h.next a (nC (x::(qE (jB n E B ps) k x).flatMap g))) (.sl h.next 0 1 1) (Hi1 @bh)
  ⟨x1,.inr ⟨h.next,1,ab _,rfl,g1,rfl⟩⟩ ?_ ?_ ?_
 .rintro k a ts h2 hk _ ⟨e0,e1,e2,e7,e8,-⟩;simp only at e0 e1 e2 e7 e8;exact⟨_,(M4 e0 e8 plB @bE),Z0,H5 e0 e1 e2 e7 e8⟩
 .rintro k a ts h2 hk ⟨jx,ja⟩ ⟨e0,e1,e2,e7,e8,-⟩;simp only at e0 e1 e2 e7 e8;have w8:=dW (k:=k) om;have n2:=jx.nx;have nB:=hx0.nx;have xB2:Ext hB.next hB h2:=hx0.trans (jx.mono nB);have hkp:k<ps.length:=om;obtain⟨hgb,hsl⟩:=hBg _ (ar hk);obtain⟨y0,q,e1',e2',_,e4',e5'⟩:=jk.src k hk;have hall:=Dx (M:=M) jk hk (x:=x);rw[fT hkp]at e1' hall;have hql:=hol _ (ar hkp);rw[e1',bd,ah]at hql;obtain⟨b1,o1,xs,a1,q1,cc,lb1,ry⟩:=pl.at (i:=k) (by rw[ah];exact hk);rw[dz]at cc;obtain⟨b2,o2,av,uv,a2,_,r2,_,s2,_,lb2⟩:=qr.at hkp;have hsu:=FN (jB n E B ps) k x;have hle1:=hle (k+1) om;have hgk:g k=((jB n E B ps).ord k).flatMap ((jB n E B ps).W (M+1)):=by rw[<-hg]
  rw[hsu,e2']at hle1;generalize ps[k]=p at *
  generalize B[k]=bk at *
  obtain⟨xV,xe,xn,xu⟩:=xs;obtain⟨p1,p2,p3,p4,_⟩:=cc;simp only[lL]at p1 p2 p3 p4;subst p1;have hvl:=oM n E (nI bk);have r1:∀{h':AH},Ext hB.next hB h'->ai h' b1 o1 2=some [.int .i64 ((vsM n E (nI bk)).length:Nat),xe]:=fun {h'} x=>by
   have:=yr q1 (show 2<=4 by omega);rw[bi (x.gt _ lb1)];exact this
  have r3:∀{h':AH},Ext hB.next hB h'->ai h' b1 (o1+2) 1=some [xn]:=fun {h'} x=>by
   rw[bi (x.gt _ lb1)];exact ry 2 _ rfl
  have r12:=r1 xB2;have r32:=r3 xB2;have sn:=qZ p3;obtain⟨xnc,xno⟩:=p3.cells;refine ae (ae (bM (ju 10 (M5 e0 e8 a1 r12 r32) rfl (Z5 e0 e8 a1 r12 r32) (M5 e0 e8 a1 r12 r32) (uH (n:=(vsM n E (nI bk)).length) (p2.ext xB2 (ab _)) hsl om) λr h3 hq=>?_)));obtain⟨is,x3⟩:=hq;have n3:=x3.nx;have xB3:Ext hB.next hB h3:=xB2.trans (x3.mono (by have:=xB2.nx;omega));have r33:=r3 xB3;refine⟨Z2 r33 sn,?_⟩;rw[e5']at is;have ss:SlI h3 r [((y0:Nat):Int)]:=Ob om (λ_=>rfl) is;obtain⟨b3,p3',a3,q3,_⟩:=ss.at1 (i:=0) (y:=.int .i64 ((y0:Nat):Int)) rfl;rw[bh]at a3;have hy0:=e4' _ (aM ..);obtain⟨b4,p4',a4,q4,_⟩:=(p3.ext xB3 (ab _)).at1 (cm (f:=eI) hy0);rw[<-wV hy0,<-e2']at q4;have ja3:=ja.ext x3 (ab _);have jx3:Ext h.next h h3:=jx.trans (x3.mono n2);by_cases hx:(jB n E B ps).src k=x
  .have c1:((((jB n E B ps).src k:Nat):Int) != ((x:Nat):Int))=false:=by rw[hx];simp
   have c2:decide ((((jB n E B ps).src k:Nat):Int)=((x:Nat):Int))=true:=aH (by rw[hx]);refine bI (M7 e2 a3 q3 a4 q4 c1 c2) ?_;refine dC (Z3 c1 c2 @dp) (bz ?_);obtain⟨z0,q',f1,f2,f3,f4,f5,_⟩:=hall hx;have hyq:y0::q=z0::q':=by
    have:=f1.symm.trans e1';rw[bO]at this;simp only[cy]at this;obtain⟨h1,h2⟩:=this;have h3:z0=y0:=om;have h4:q'=q:=by
     have:=congrArg (List.map Int.toNat) h2;rwa [qm,qm]at this
    rw[h3,h4]
   simp only[cy]at hyq;obtain⟨rfl,rfl⟩:=hyq;rw[e1']at s2;rw[if_pos (by rw[<-e2'];exact hx),br,bH,eY,bF,hgk,f3,Ki,aJ]at hle1;have htk:=λi=>yS (λy=>(jB n E B ps).W (M+1) (nmV n E bk y)) q i;have hps':x::(qE (jB n E B ps) (k+1) x).flatMap g=(x::(qE (jB n E B ps) k x).flatMap g)++q.flatMap λy=>(jB n E B ps).W (M+1) (nmV n E bk y):=by
    rw[hsu,if_pos hx,br,bH,eY,bF,hgk,f3,Ki];rfl
   have hpl:∀l,l=x::(qE (jB n E B ps) k x).flatMap g->l.length=((qE (jB n E B ps) k x).flatMap g).length+1:=λl e=>by rw[e];rfl
   clear hsu;rw[hps'];generalize hpre:x::(qE (jB n E B ps) k x).flatMap g=pre at *
   have hpl:=hpl pre rfl;have lo2:∀{h':AH},Ext hB.next hB h'->fP av=some (.int .i64 ((q.length+1:Nat):Int)):=λ_=>by
    have:=s2.len;rw[ah,bd,ah]at this;exact this
   have lav:=lo2 xB3;refine ae (ak (M0) ?_)
   refine dX (α:=AV) (N:=q.length) (λi a=>[(0,pv),(1,qv),(2,.int .i64 (x:Nat)),(7,a),(8,.int .i64 (k:Nat)),(9,.int .i64 ((i+1:Nat):Int))])
    (λi a h'=>Ext h.next h h'/\IsSl h' 1 h.next a (nC (pre++(q.take i).flatMap λy=>(jB n E B ps).W (M+1) (nmV n E bk y)))) a (by simp only[hl,am,aL,simprocAttr,e0,e1,e2,e7,e8,bN,vX,Int.cast_ofNat_Int])
    ⟨jx3,by rw[eD,eY,bF];exact ja3⟩ ?_ ?_ ?_
   .clear e0 e1 e2 e7 e8;rintro i a ts h4 hi ⟨jx,ja⟩ ⟨e0,e1,e2,e7,e8,e9,-⟩;simp only at e0 e1 e2 e7 e8 e9;have xB4:Ext hB.next hB h4:=hx0.trans (jx.mono nB);have r24:ai h4 b2 o2 1=some [av]:=by rw[bi (xB4.gt _ lb2)];exact r2
    have hd:decide (((i+1:Nat):Int)<((q.length+1:Nat):Int))=decide (i<q.length):=by rw[decide_eq_decide];omega
    exact⟨_,(M7 e1 e8 e9 a2 r24 lav hd),Z0,H6 e0 e1 e2 e7 e8 e9⟩
   .clear e0 e1 e2 e7 e8;rintro i a ts h4 hi ⟨jx,ja⟩ ⟨e0,e1,e2,e7,e8,e9,-⟩;simp only at e0 e1 e2 e7 e8 e9;have w9:=dW (k:=i+1) om;have n4:=jx.nx;have xB4:Ext hB.next hB h4:=hx0.trans (jx.mono nB);have r24:ai h4 b2 o2 1=some [av]:=by rw[bi (xB4.gt _ lb2)];exact r2
    have r34:=r3 xB4;have hil:i+1<(((y0:Nat):Int)::q.map λy=>((y:Nat):Int)).length:=by rw[bd,ah];omega
    obtain⟨b5,o5,a5,q5,_⟩:=(s2.ext xB4 (ab _)).at1 (cm (f:=eI) hil);rw[List.getElem_cons_succ,dz]at q5;have hmy:=ar hi;have hyl:=f4 _ (aN _ hmy);have hyi:=(f5 _ hmy).2;have hsu2:=FR (λy=>(jB n E B ps).W (M+1) (nmV n E bk y)) hi;have hle2:=htk (i+1);rw[hsu2,aJ]at hle2;rw[hsu2];generalize q[i]=y at *
    obtain⟨b6,o6,a6,q6,_⟩:=(p3.ext xB4 (ab _)).at1 (cm (f:=eI) hyl);rw[<-wV hyl]at q6;refine bM (bj 18 (M14 e0 e1 e7 e8 e9 a1 a2 r24 r34 a5 q5 a6 q6 q6) rfl (Z14 e0 e1 e7 e8 e9 a1 a2 r24 r34 a5 q5 a6 q6 q6) (M14 e0 e1 e7 e8 e9 a1 a2 r24 r34 a5 q5 a6 q6 q6) (ih _ hyi xB4 om) λr h5 hq=>?_);obtain⟨i5,x5⟩:=hq;have n5:=x5.nx;have hsr:=wZ i5;have ja5:=ja.ext x5 (ab _);obtain⟨a',h6,t1,t2,t3,t4,t5⟩:=apps (bytes:=8) ja5 om (by decide) hsr (NF _) (by rw[oW,dN,aJ,ah,ah];unfold bf;omega) (by rw[oW,dN,aJ,ah,ah];unfold bf;omega);obtain⟨ac,ao⟩:=t2.cells;refine bI (M1 t1) ?_;refine⟨a',⟨jx.trans ((x5.mono n4).trans t3),?_⟩,_,(M2 e9 w9),H5 e0 e1 e2 e7 e8⟩;rw[<-bL,yz];exact t2
   .clear e0 e1 e2 e7 e8;rintro a ts h4 ⟨jx,ja⟩ ⟨e0,e1,e2,e7,e8,e9,-⟩;simp only at e0 e1 e2 e7 e8 e9;rw[bt]at ja;exact⟨a,⟨jx,ja⟩,_,(M2 e8 w8),H4 e0 e1 e2 e7⟩
  .have c1:((((jB n E B ps).src k:Nat):Int) != ((x:Nat):Int))=true:=by rw[bne_iff_ne];omega
   have c2:decide ((((jB n E B ps).src k:Nat):Int)=((x:Nat):Int))=false:=aw om;refine bI (M7 e2 a3 q3 a4 q4 c1 c2) ?_;refine cZ (by simp only[am,aL,simprocAttr,c1,c2,fI]) (fM ⟨λ_=>?_,λe=>absurd rfl e⟩);rw[hsu,if_neg hx];exact⟨a,⟨jx3,ja3⟩,_,(M2 e8 w8),H4 e0 e1 e2 e7⟩
 .rintro a ts h2 ⟨jx,ja⟩ ⟨e0,e1,e2,e7,e8,-⟩;simp only at e7;obtain⟨ac,ao⟩:=ja.cells;refine ae (ak (M1 e7) ?_);exact bu ⟨_,(by simp only[rs,rf24,am,aL,simprocAttr,ac]<;>rfl),ja,jx⟩
end Go.Proofs.YtklpoimdclflmaaGreatDoor
