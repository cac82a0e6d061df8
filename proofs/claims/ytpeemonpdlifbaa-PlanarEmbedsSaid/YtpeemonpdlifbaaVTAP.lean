/- arborref05.Few, arborref07.Planar. -/
import Derived.Test.YtpeemonpdlifbaaVTAG
import Derived.Test.YtpeemonpdlifbaaVTAO
import Derived.Test.YtpeemonpdlifbaaVTAC
import Derived.Test.YtpeemonpdlifbaaVTAE
import Derived.Test.YtpeemonpdlifbaaVTAL
import Derived.Test.YtpeemonpdlifbaaVAmR
set_option linter.all false
namespace Go.Proofs.Ytpeemonpdlifbaa
open Go.Am
open Go.Pla (Rws en rnx Cuts)
set_option maxHeartbeats 2000000 in
theorem Ex {h:AH}{n:Nat}{ev:AV}{E:List (Int×Int)} (he:SlE h ev E) (hm:E.length≤128) (hn:n≤64) :
 C prg 13 [.agg [.int .i64 (n:Nat),ev],.int .i64 3000] h λr h'=>∃ b,r=.bool b∧(b=true→∀ x,x<n→(lI E x (2*E.length)).length≤7)∧Ext h.next h h':=by
 obtain⟨ec,eo⟩:=he.cells
 have el:=he.len
 rw[ae] at el
 have wd:IntKind.i64.wrap (2*((E.length:Nat):Int))=((2*E.length:Nat):Int):=by rw[et om om]; omega
 obtain⟨M,hM⟩:∃ M,M=2*E.length:=⟨_,rfl⟩
 rw[← hM] at wd ⊢
 refine KK pf13 ?_
 refine ai (au (Mi0) ?_)
 have x0:Ext h.next h (h.new (.cells [.int .i64 (n:Nat),ev] 2 false)):=KH (ab _)
 have g0:(h.new (.cells [.int .i64 (n:Nat),ev] 2 false)).get h.next=some (.cells [.int .i64 (n:Nat),ev] 2 false):=by rw[AH.get_new,if_pos rfl]
 have n0:(h.new (.cells [.int .i64 (n:Nat),ev] 2 false)).next=h.next+1:=rfl
 generalize (h.new (.cells [.int .i64 (n:Nat),ev] 2 false))=h1 at *
 refine ai (au (M0) ?_)
 refine ai (ai (au (M0) ?_))
 refine fN (α:=Nat) (N:=n) (λx p=>[(1,.int .i64 3000),(2,.ptr h.next 0),(5,.int .i64 (p:Nat)),(6,.int .i64 (x:Nat))])
  (λx p h'=>p≤3000∧(∀ y,y<x→(lI E y M).length≤7)∧h'.get h.next=some (.cells [.int .i64 (n:Nat),ev] 2 false)∧Ext h.next h h'∧h.next<h'.next) 1 (Hi2 @bg @Jn)
  ⟨om,λy hy=>absurd hy (eR _),g0,x0,om⟩ ?_ ?_ ?_
 ·rintro x p ts h2 hx ⟨_,_,b2,_,_⟩ ⟨e1,e2,e5,e6,-⟩
  simp only at e1 e2 e5 e6
  have rN:ak h2 h.next 0 1=some [.int .i64 (n:Nat)]:=br b2 rfl
  exact⟨_,(M4 e2 e6 rN @cx),Z0,H4 e1 e2 e5 e6⟩
 ·rintro x p ts h2 hx ⟨hp,j1,b2,X2,n2⟩ ⟨e1,e2,e5,e6,-⟩
  simp only at e1 e2 e5 e6
  have wx:IntKind.i64.wrap (((x:Nat):Int)+1)=((x+1:Nat):Int):=et om om
  refine ai (au (M0) ?_)
  refine ai (ju (λts h'=>aN ts 1=.int .i64 3000∧aN ts 2=.ptr h.next 0∧aN ts 5=.int .i64 (p:Nat)∧aN ts 6=.int .i64 (x:Nat)∧aN ts 7=.int .i64 ((lI E x M).length:Nat)∧h'.get h.next=some (.cells [.int .i64 (n:Nat),ev] 2 false)∧Ext h.next h h'∧h.next<h'.next) ?_ ?_)
  ·refine ai (au (M0) ?_)
   refine fN (α:=Unit) (N:=M) (λd _=>[(1,.int .i64 3000),(2,.ptr h.next 0),(5,.int .i64 (p:Nat)),(6,.int .i64 (x:Nat)),(7,.int .i64 ((lI E x d).length:Nat)),(8,.int .i64 (d:Nat))])
    (λd _ h'=>h'.get h.next=some (.cells [.int .i64 (n:Nat),ev] 2 false)∧Ext h.next h h'∧h.next<h'.next) () (by simp only[hl,am,aH,simprocAttr,e1,e2,e5,e6,show lI E x 0=[] from rfl,aO,bg]) ⟨b2,X2,n2⟩ ?_ ?_ ?_
   ·clear e1 e2 e5 e6
    rintro d _ ts h3 hd ⟨b3,_,_⟩ ⟨e1,e2,e5,e6,e7,e8,-⟩
    simp only at e1 e2 e5 e6 e7 e8
    have rE:ak h3 h.next 1 1=some [ev]:=br b3 rfl
    exact⟨_,(M6 e2 e8 rE el wd @cx),Z0,H6 e1 e2 e5 e6 e7 e8⟩
   ·clear e1 e2 e5 e6
    rintro d _ ts h3 hd ⟨b3,X3,n3⟩ ⟨e1,e2,e5,e6,e7,e8,-⟩
    simp only at e1 e2 e5 e6 e7 e8
    have wdd:IntKind.i64.wrap (((d:Nat):Int)+1)=((d+1:Nat):Int):=et om om
    have rA:ak h3 h.next 0 2=some [.int .i64 (n:Nat),ev]:=by rw[aW b3]; rfl
    have hst:=@vF E x d
    have hll:=@vG E x d
    refine ai (bU (bu 2 (M3 e2 e8 rA) rfl (Z3 e2 e8 rA) (M3 e2 e8 rA) (qr (n:=((n:Nat):Int)) (he.ext X3 (ab _)) om om) λr h4 hq=>?_))
    obtain⟨rfl,x4⟩:=hq
    have X4:Ext h.next h h4:=X3.trans (x4.mono X3.nx)
    have b4:h4.get h.next=some (.cells [.int .i64 (n:Nat),ev] 2 false):=by rw[x4.gt _ n3]; exact b3
    have n4:=x4.nx
    by_cases q:kC E d=((x:Nat):Int)
    ·rw[if_pos q] at hst
     have d1:decide (kC E d=((x:Nat):Int))=true:=aM q
     have w7:IntKind.i64.wrap ((((lI E x d).length:Nat):Int)+1)=(((lI E x (d+1)).length:Nat):Int):=by rw[hst,aC]; exact et om om
     refine bP (M2 e6 d1) ?_
     refine cE (Z0) (au (M2 e7 w7) ?_)
     exact⟨(),⟨b4,X4,om⟩,_,(M2 e8 wdd),H4 e1 e2 e5 e6⟩
    ·rw[if_neg q,cX] at hst
     have d1:decide (kC E d=((x:Nat):Int))=false:=aK q
     refine bP (M2 e6 d1) ?_
     refine dn (Z0) (bH ?_)
     exact⟨(),⟨b4,X4,om⟩,_,(M2 e8 wdd),H6 e1 e2 e5 e6 e7 hst⟩
   ·clear e1 e2 e5 e6
    rintro _ ts h3 ⟨b3,X3,n3⟩ ⟨e1,e2,e5,e6,e7,e8,-⟩
    exact⟨e1,e2,e5,e6,e7,b3,X3,n3⟩
  clear e1 e2 e5 e6
  rintro ts h3 ⟨e1,e2,e5,e6,e7,b3,X3,n3⟩
  obtain⟨D,hD⟩:∃ D,D=(lI E x M).length:=⟨_,rfl⟩
  have hDM:D≤M:=by rw[hD]; exact vG
  rw[← hD] at e7
  refine ai (au (M0) ?_)
  refine fN (α:=Nat) (N:=D-2) (λj p=>[(1,.int .i64 3000),(2,.ptr h.next 0),(5,.int .i64 (p:Nat)),(6,.int .i64 (x:Nat)),(7,.int .i64 (D:Nat)),(9,.int .i64 (j+2:Nat))])
   (λj p h'=>h'=h3∧p≤3000∧(0<j→j+1≤6)) p (by simp only[hl,am,aH,simprocAttr,e1,e2,e5,e6,e7,show (((0+2:Nat):Nat):Int)=2 from rfl]) ⟨rfl,hp,λq=>absurd q (Nat.lt_irrefl _)⟩ ?_ ?_ ?_
  ·clear e1 e2 e5 e6 e7
   rintro j p ts h4 hj ⟨rfl,_,_⟩ ⟨e1,e2,e5,e6,e7,e9,-⟩
   simp only at e1 e2 e5 e6 e7 e9
   have c1:decide (((j+2:Nat):Int)<((D:Nat):Int))=decide (j<D-2):=by rw[decide_eq_decide]; omega
   exact⟨_,(M3 e7 e9 c1),Z0,H6 e1 e2 e5 e6 e7 e9⟩
  ·clear e1 e2 e5 e6 e7
   rintro j p ts h4 hj ⟨rfl,hp4,hj6⟩ ⟨e1,e2,e5,e6,e7,e9,-⟩
   simp only at e1 e2 e5 e6 e7 e9
   have hj7:j≤5:=by
    rcases Ad j with q|q
    ·omega
    ·have:=hj6 q; omega
   have hpj:p*(j+2)≤3000*7:=kH hp4 om
   have wp:IntKind.i64.wrap (((p:Nat):Int)*((j+2:Nat):Int))=((p*(j+2):Nat):Int):=by
    rw[← Jo]; exact et om om
   have wj:IntKind.i64.wrap (((j+2:Nat):Int)+1)=((j+1+2:Nat):Int):=et om om
   refine ai (au (M3 e5 e9 wp) ?_)
   by_cases q1:3000<p*(j+2)
   ·have d1:decide ((3000:Int)<((p*(j+2):Nat):Int))=true:=aM om
    refine ai (au (M2 e1 d1) ?_)
    refine cE (Z0) (ai (au (M0) ?_))
    exact bM ⟨.bool false,(by simp only[rs,rf13,am,aH,simprocAttr]<;>rfl),false,rfl,(λq=>by cases q),X3⟩
   have d1:decide ((3000:Int)<((p*(j+2):Nat):Int))=false:=aK om
   by_cases q2:6<j+2
   ·have d2:decide ((6:Int)<((j+2:Nat):Int))=true:=aM om
    refine ai (au (M4 e1 e9 d1 d2) ?_)
    refine cE (Z0) (ai (au (M0) ?_))
    exact bM ⟨.bool false,(by simp only[rs,rf13,am,aH,simprocAttr]<;>rfl),false,rfl,(λq=>by cases q),X3⟩
   have d2:decide ((6:Int)<((j+2:Nat):Int))=false:=aK om
   refine ai (au (M4 e1 e9 d1 d2) ?_)
   refine dn (Z0) (bH ?_)
   exact⟨p*(j+2),⟨rfl,om,λ_=>by omega⟩,_,(M2 e9 wj),H4 e1 e2 e6 e7⟩
  ·clear e1 e2 e5 e6 e7
   rintro p ts h4 ⟨rfl,hp4,hj6⟩ ⟨e1,e2,e5,e6,e7,e9,-⟩
   simp only at e1 e2 e5 e6
   have hD7:D≤7:=by
    rcases Ad (D-2) with q|q
    ·omega
    ·have:=hj6 q; omega
   refine⟨p,⟨hp4,λy hy=>?_,b3,X3,n3⟩,_,(M2 e6 wx),H3 e1 e2 e5⟩
   rcases bF y x with q|q
   ·exact j1 y q
   ·obtain rfl:y=x:=om
    omega
 ·rintro p ts h2 ⟨hp,j1,b2,X2,n2⟩ ⟨e1,e2,e5,e6,-⟩
  refine ai (au (M0) ?_)
  exact bM ⟨.bool true,(by simp only[rs,rf13,am,aH,simprocAttr]<;>rfl),true,rfl,λ_=>j1,X2⟩
section
variable {n:Nat}{E:List (Int×Int)}{hE:InG n E}{hL:∀ i,i<E.length→tlE E i≠hdE E i}
theorem Fh {x:Nat}{z:Int}:z∈lI E x (2*E.length)↔okH E x z:=by
 unfold lI okH
 constructor
 ·intro h
  obtain⟨d,hd,rfl⟩:=bC.1 h
  rw[aY,aE,aJ] at hd
  exact⟨om,om,by rw[dj]; exact hd.2⟩
 ·rintro⟨h1,h2,h3⟩
  refine bC.2 ⟨z.toNat,?_,om⟩
  rw[aY,aE,aJ]
  exact⟨om,h3⟩
theorem lI_nd {x k:Nat}:(lI E x k).Nodup:=by
 unfold lI
 rw[List.Nodup,dx]
 exact List.Pairwise.imp (λh e=>h om) (List.nodup_range.filter _)
theorem Gx (hE:InG n E) (hL:∀ i,i<E.length→tlE E i≠hdE E i) {R:List (List Int)} (h:R.length=n∧∀ y,y<n→(R.getD y []).Perm (lI E y (2*E.length))):RwsI n E R:=by
 have hok:∀ x,x<n→∀ z∈R.getD x [],okH E x z:=λx hx z hz=>Fh.1 ((h.2 x hx).mem_iff.1 hz)
 have W:Rws (grE n E hE hL) (ji R):=by
  refine⟨by unfold ji; rw[ae]; exact h.1,λx hx d hd=>?_,λx hx=>?_,λd hd=>?_⟩
  ·rw[iZ] at hd
   obtain⟨z,hz,rfl⟩:=bC.1 hd
   obtain⟨d,rfl,h1,h2⟩:=(kj (hE:=hE) (hL:=hL)).1 (hok x hx z hz)
   rw[dj]
   exact⟨h1,h2⟩
  ·have hx:x<n:=hx
   rw[iZ,List.Nodup,dx]
   refine List.Pairwise.imp_of_mem (fun {a b} ha hb hab=>?_) ((h.2 x hx).nodup_iff.2 lI_nd)
   have:=(hok x hx a ha).1
   have:=(hok x hx b hb).1
   omega
  ·have hd:d<2*E.length:=hd
   have hx:en (grE n E hE hL) d<n:=Go.Pla.en_lt hd
   rw[iZ]
   refine bC.2 ⟨((d:Nat):Int),(h.2 _ hx).mem_iff.2 (Fh.2 ((kj (hE:=hE) (hL:=hL)).2 ⟨d,rfl,hd,rfl⟩)),by simp⟩
 have:=Ao W
 have e:jf (ji R)=R:=by
  refine List.ext_getElem (by unfold jf ji; rw[ae,ae]) λx h1 h2=>?_
  have e1:(jf (ji R))[x]=(jf (ji R)).getD x []:=by rw[aA,ah h1]; rfl
  rw[e1,oD,iZ,fM h2,kK]
  have hx:x<n:=by have:=h.1; omega
  conv=>rhs; rw[← GH R[x]]
  refine df λz hz=>?_
  have:=(hok x hx z (by rw[fM h2]; exact hz)).1
  simp only[Function.comp,id]
  omega
 rwa [e] at this
set_option maxHeartbeats 1000000 in
theorem xd {h:AH}{ev:AV} (he:SlE h ev E) (hE:InG n E) (hL:∀ i,i<E.length→tlE E i≠hdE E i) (hm:E.length≤128) (hn:n≤64) (hfew:∀ x,x<n→(lI E x (2*E.length)).length≤7) :
 C prg 14 [.agg [.int .i64 (n:Nat),ev],.int .i64 3000] h λr h'=>∃ b,r=.bool b∧(b=true→∃ R,RwsI n E R∧Cuts (grE n E hE hL) (rnx (grE n E hE hL) (ji R)) E.length)∧Ext h.next h h':=by
 obtain⟨ec,eo⟩:=he.cells
 refine KK pf14 ?_
 refine ai (au (Mi0) ?_)
 have x0:Ext h.next h (h.new (.cells [.int .i64 (n:Nat),ev] 2 false)):=KH (ab _)
 have g0:(h.new (.cells [.int .i64 (n:Nat),ev] 2 false)).get h.next=some (.cells [.int .i64 (n:Nat),ev] 2 false):=by rw[AH.get_new,if_pos rfl]
 have n0:(h.new (.cells [.int .i64 (n:Nat),ev] 2 false)).next=h.next+1:=rfl
 generalize (h.new (.cells [.int .i64 (n:Nat),ev] 2 false))=h1 at *
 have rA:ak h1 h.next 0 2=some [.int .i64 (n:Nat),ev]:=by rw[aW g0]; rfl
 refine ai (bU (bu 2 (Mi1 rA) rfl (Zi1 rA) (Mi1 rA) (Ey (he.ext x0 (ab _)) hm hn hfew) λv h2 hq=>?_))
 obtain⟨Q,rq,aq,hQb,x2⟩:=hq
 have X2:Ext h.next h h2:=x0.trans (x2.mono om)
 have n2:=x2.nx
 have g2:h2.get h.next=some (.cells [.int .i64 (n:Nat),ev] 2 false):=by rw[x2.gt _ om]; exact g0
 refine gv (λts h'=>h'=h2∧aN ts 2=.ptr h.next 0∧aN ts 5=v) (Zi0) ?_
 rintro ts h2' ⟨rfl,e2,e5⟩
 obtain⟨ws,sw,wl,wr⟩:=rq
 have vl:=sw.len
 rw[ae,wl] at vl
 refine ai (ai (au (M0) ?_))
 refine fN (α:=Unit) (N:=Q.length) (λi _=>[(2,.ptr h.next 0),(5,v),(6,.int .i64 (i:Nat))])
  (λi _ h'=>h'.get h.next=some (.cells [.int .i64 (n:Nat),ev] 2 false)∧Ext h2'.next h2' h'∧h.next<h'.next) () (H3 e2 e5 @bg) ⟨g2,KI,om⟩ ?_ ?_ ?_
 ·clear e2 e5
  rintro i _ ts h3 hi _ ⟨e2,e5,e6,-⟩
  simp only at e2 e5 e6
  exact⟨_,(M4 e5 e6 vl @cx),Z0,H3 e2 e5 e6⟩
 ·clear e2 e5
  rintro i _ ts h3 hi ⟨b3,X3,n3⟩ ⟨e2,e5,e6,-⟩
  simp only at e2 e5 e6
  have wi:IntKind.i64.wrap (((i:Nat):Int)+1)=((i+1:Nat):Int):=et om om
  have rA3:ak h3 h.next 0 2=some [.int .i64 (n:Nat),ev]:=by rw[aW b3]; rfl
  have hiw:i<ws.length:=om
  obtain⟨ob,op,ao,ro,_⟩:=(sw.ext X3 (ab _)).at1 (i:=i) (y:=ws[i]) (by rw[aF,ah hiw]; rfl)
  have hR:=(wr i ws[i] Q[i] (ah hiw) (ah hi)).ext X3
  have hRw:=Gx hE hL (aq Q[i] (bj hi))
  have XX3:Ext h.next h h3:=X2.trans (X3.mono om)
  refine ai (bU (bu 5 (by simp only[am,aH,simprocAttr,e2,e5,e6,ao,ro,rA3]<;>rfl) rfl (by simp only[am,aH,simprocAttr,e2,e5,e6,ao,ro,rA3]) (by simp only[am,aH,simprocAttr,e2,e5,e6,ao,ro,rA3]<;>rfl) (qU (he.ext XX3 (ab _)) hE hL hm hn hR hRw) λr h4 hq=>?_))
  obtain⟨j,rfl,hj,x4⟩:=hq
  have X4:Ext h2'.next h2' h4:=X3.trans (x4.mono X3.nx)
  have b4:h4.get h.next=some (.cells [.int .i64 (n:Nat),ev] 2 false):=by rw[x4.gt _ n3]; exact b3
  by_cases q:j=0
  ·have d1:decide (((j:Nat):Int)=0)=true:=aM om
   refine bP (M1 d1) ?_
   refine cE (Z0) (ai (au (M0) ?_))
   exact bM ⟨.bool true,(by simp only[rs,rf14,am,aH,simprocAttr]<;>rfl),true,rfl,λ_=>⟨Q[i],hRw,hj.1 q⟩,X2.trans (X4.mono om)⟩
  ·have d1:decide (((j:Nat):Int)=0)=false:=aK om
   refine bP (M1 d1) ?_
   refine dn (Z0) (bH ?_)
   exact⟨(),⟨b4,X4,by have:=x4.nx; omega⟩,_,(M2 e6 wi),H2 e2 e5⟩
 ·clear e2 e5
  rintro _ ts h3 ⟨b3,X3,n3⟩ ⟨e2,e5,e6,-⟩
  refine ai (au (M0) ?_)
  exact bM ⟨.bool false,(by simp only[rs,rf14,am,aH,simprocAttr]<;>rfl),false,rfl,(λq=>by cases q),X2.trans (X3.mono om)⟩
end
open Go.Am
abbrev SlN (h:AH) (v:AV) (l:List Nat):Prop:=SlI h v (l.map λn=>((n:Nat):Int))
def nC (l:List Nat):List AV:=(l.map λn=>((n:Nat):Int)).flatMap eI
theorem iO (l:List Nat):(nC l).length=l.length:=by
 unfold nC
 rw[eY (f:=eI) (e:=1) (λ_=>rfl),ae]; omega
theorem vq (a b:List Nat):nC (a++b)=nC a++nC b:=by
 unfold nC
 rw[ee,dU]
theorem eH {h:AH}{lo:Nat}{v:AV}{l:List Nat} (hv:IsSl h 1 lo v (nC l)):SlN h v l:=KE om (λ_=>rfl) hv
def LL (h:AH) (lo:Nat) (a:AV) (xss:List (List Nat)):Prop :=
 ∃ vs:List AV,IsSl h 1 lo a vs∧vs.length=xss.length∧∀ (i:Nat) (v:AV) (xs:List Nat),vs[i]?=some v→xss[i]?=some xs→IsSl h 1 lo v (nC xs)∧∀ b n b' n',v=.sl b 0 n n→a=.sl b' 0 n' n'→b≠b'
theorem LL.ext {h h':AH}{lo hi:Nat}{a:AV}{xss:List (List Nat)} (hl:LL h lo a xss) (hx:Ext hi h h') (hn:h.next≤hi):LL h' lo a xss:=by
 obtain⟨vs,h1,h2,h3⟩:=hl
 exact⟨vs,h1.ext hx hn,h2,λi v xs q1 q2=>⟨(h3 i v xs q1 q2).1.ext hx hn,(h3 i v xs q1 q2).2⟩⟩
theorem LL.push {h:AH}{lo x:Nat}{a v:AV}{xss:List (List Nat)}{xs:List Nat} (hl:LL h lo a xss) (hlo:lo≤h.next) (hv:IsSl h 1 lo v (nC xs)) (hx:h.get x=some (.cells [v] 1 false)) (hxl:lo≤x) (hxa:∀ b n,a=.sl b 0 n n→b≠x)
 (hva:∀ b n b' n',v=.sl b 0 n n→a=.sl b' 0 n' n'→b≠b') (hb:(xss.length+1)*24<aU) :
 ∃ a' h',fB h 1 24 a (.sl x 0 1 1)=some (a',h')∧LL h' lo a' (xss++[xs])∧Ext lo h h'∧h'.next=h.next+1∧(∀ c,c<h.next→(∀ b n,a=.sl b 0 n n→c≠b)→h'.get c=h.get c)∧∀ c n,a'=.sl c 0 n n→c=h.next:=by
 obtain⟨vs,h1,h2,h3⟩:=hl
 obtain⟨a',h',q1,q2,q3,q4,q5,q6,_⟩:=h1.app (bytes:=24) hlo om hx hxl hxa rfl (by simp [hv.cells.2]) (by rw[ew,h2]; exact hb) (by rw[ew,h2]; unfold aU at *; omega)
 have keep:∀ (w:AV) (cs:List AV),IsSl h 1 lo w cs→(∀ b n b' n',w=.sl b 0 n n→a=.sl b' 0 n' n'→b≠b')→IsSl h' 1 lo w cs∧∀ b n b' n',w=.sl b 0 n n→a'=.sl b' 0 n' n'→b≠b':=λw cs hw hn=>by
  refine⟨hw.cong λb n e _=>q6 b (hw.lt e) λb' n' e'=>hn b n b' n' e e',λb n b' n' e e'=>?_⟩
  have:=hw.lt e
  rw[q4] at e'
  cases e'
  omega
 refine⟨a',h',q1,⟨vs++[v],q2,by rw[aC,aC,h2]; rfl,λi w ys e1 e2=>?_⟩,q3,q5,q6,λc n e=>by rw[q4] at e; cases e; rfl⟩
 by_cases hi:i<vs.length
 ·rw[aX hi] at e1
  rw[aX om] at e2
  obtain⟨k1,k2⟩:=h3 i w ys e1 e2
  exact keep w _ k1 k2
 ·have hil:i<(vs++[v]).length:=(aL.1 e1).1
  rw[aC,aB,aO] at hil
  have hi':i=vs.length:=om
  subst hi'
  rw[aR om,dT] at e1
  rw[h2,aR om,dT] at e2
  cases e1
  cases e2
  exact keep v _ hv hva
theorem LL.at {h:AH}{lo:Nat}{a:AV}{xss:List (List Nat)} (hl:LL h lo a xss) {i:Nat} (hi:i<xss.length):∃ b o v,kV 1 a (.int .i64 (i:Nat))=some (.ptr b o)∧ak h b o 1=some [v]∧IsSl h 1 lo v (nC xss[i])∧b<h.next:=by
 obtain⟨vs,h1,h2,h3⟩:=hl
 have hs:Sl h 1 a (vs.map λx=>[x]):=by
  rcases h1 with ⟨rfl,rfl⟩|⟨b,n,_,rfl,hg,hn⟩
  ·exact .inl ⟨rfl,.inl rfl⟩
  ·exact KG hg om (ab _)
 have hv:vs[i]?=some (vs[i]'om):=ah _
 obtain⟨b,o,q1,q2,q3⟩:=hs.at1 (i:=i) (y:=vs[i]'om) (by rw[aF,hv]; rfl)
 exact⟨b,o,_,q1,q2,(h3 i _ _ hv (ah hi)).1,q3⟩
theorem LL.len {h:AH}{lo:Nat}{a:AV}{xss:List (List Nat)} (hl:LL h lo a xss):jc a=some (.int .i64 (xss.length:Nat)):=by
 obtain⟨vs,h1,h2,h3⟩:=hl
 rcases h1 with ⟨rfl,rfl⟩|⟨b,n,_,rfl,hg,hn⟩
 ·rw[← h2]; rfl
 ·rw[← h2,hn,aP]; rfl
theorem LL.cong {h h':AH}{lo:Nat}{a:AV}{xss:List (List Nat)} (hl:LL h lo a xss) (hk:∀ c,lo≤c→c<h.next→h'.get c=h.get c):LL h' lo a xss:=by
 obtain⟨vs,h1,h2,h3⟩:=hl
 exact⟨vs,h1.cong λb n e hb=>hk b hb (h1.lt e),h2,λi v xs q1 q2=>⟨(h3 i v xs q1 q2).1.cong λb n e hb=>hk b hb ((h3 i v xs q1 q2).1.lt e),(h3 i v xs q1 q2).2⟩⟩
theorem LL.lt {h:AH}{lo:Nat}{a:AV}{xss:List (List Nat)} (hl:LL h lo a xss) {b n:Nat} (e:a=.sl b 0 n n):b<h.next:=by
 obtain⟨vs,h1,_⟩:=hl
 exact h1.lt e
open Go.Am
structure Bu (h:AH) (bb n:Nat) (ev edv:AV) (E:List (Int×Int)) (Bl:List Nat) (la pa:Nat) (H V:Nat→Bool) (fav:AV):Prop where
 o:h.get bb=some (.cells [.int .i64 (n:Nat),ev,edv,.sl la 0 E.length E.length,.sl pa 0 n n,fav] 6 false)
 e:SlE h ev E
 b:SlN h edv Bl
 l:h.get la=some (.cells (bl E.length H) 1 false)
 v:h.get pa=some (.cells (bl n V) 1 false)
 d:bb≠la∧bb≠pa∧la≠pa
 oe:Off (λc=>c=la∨c=pa∨c=bb) ev
 ob:Off (λc=>c=la∨c=pa∨c=bb) edv
theorem Bu.ext {h h':AH}{bb n k:Nat}{ev edv:AV}{E:List (Int×Int)}{Bl:List Nat}{la pa:Nat}{H V:Nat→Bool}{fav:AV} (u:Bu h bb n ev edv E Bl la pa H V fav) (x:Ext k h h') (hk:h.next≤k):Bu h' bb n ev edv E Bl la pa H V fav where
 o:=by rw[x.gt _ (cG (AH.lt_of_get u.o) hk)]; exact u.o
 e:=u.e.ext x hk
 b:=u.b.ext x hk
 l:=by rw[x.gt _ (cG (AH.lt_of_get u.l) hk)]; exact u.l
 v:=by rw[x.gt _ (cG (AH.lt_of_get u.v) hk)]; exact u.v
 d:=u.d
 oe:=u.oe
 ob:=u.ob
theorem Bu.kp {h h':AH}{bb n:Nat}{ev edv:AV}{E:List (Int×Int)}{Bl:List Nat}{la pa:Nat}{H V:Nat→Bool}{fav:AV} (u:Bu h bb n ev edv E Bl la pa H V fav) {S:Nat→Prop} (k:Kp S h h') (hb:¬ S bb) (hl:¬ S la) (hp:¬ S pa) (he:Off S ev) (hd:Off S edv):Bu h' bb n ev edv E Bl la pa H V fav where
 o:=by rw[k.gt _ (AH.lt_of_get u.o) hb]; exact u.o
 e:=u.e.kp k he
 b:=u.b.kp k hd
 l:=by rw[k.gt _ (AH.lt_of_get u.l) hl]; exact u.l
 v:=by rw[k.gt _ (AH.lt_of_get u.v) hp]; exact u.v
 d:=u.d
 oe:=u.oe
 ob:=u.ob
theorem fQ {S T:Nat→Prop}{v:AV} (h:Off S v) (hs:∀ c,T c→S c):Off T v:=by
 cases v<;>first|trivial|exact λq=>h (hs _ q)
theorem Bu.putV {h:AH}{bb n:Nat}{ev edv:AV}{E:List (Int×Int)}{Bl:List Nat}{la pa:Nat}{H V:Nat→Bool}{fav:AV} (u:Bu h bb n ev edv E Bl la pa H V fav) {x:Nat} (hx:x<n) :
 ∃ h',bX h pa x [.bool true]=some h'∧Bu h' bb n ev edv E Bl la pa H (λj=>if j=x then true else V j) fav∧Upd h h' pa (.cells (bl n λj=>if j=x then true else V j) 1 false):=by
 have w:=gj (v:=.bool true) u.v (i:=x) (by rw[jm]; exact hx)
 rw[kD] at w
 have uu:=KJ (o:=.cells (bl n λj=>if j=x then true else V j) 1 false) u.v
 have k:=uu.kp (S:=λc=>c=pa) rfl
 refine⟨_,w,⟨?_,u.e.kp k (fQ u.oe λc h=>.inr (.inl h)),u.b.kp k (fQ u.ob λc h=>.inr (.inl h)),?_,uu.get,u.d,u.oe,u.ob⟩,uu⟩
 ·rw[uu.ne (u.d.2.1)]; exact u.o
 ·rw[uu.ne (u.d.2.2)]; exact u.l
theorem Bu.putH {h:AH}{bb n:Nat}{ev edv:AV}{E:List (Int×Int)}{Bl:List Nat}{la pa:Nat}{H V:Nat→Bool}{fav:AV} (u:Bu h bb n ev edv E Bl la pa H V fav) {x:Nat} (hx:x<E.length) :
 ∃ h',bX h la x [.bool true]=some h'∧Bu h' bb n ev edv E Bl la pa (λj=>if j=x then true else H j) V fav∧Upd h h' la (.cells (bl E.length λj=>if j=x then true else H j) 1 false):=by
 have w:=gj (v:=.bool true) u.l (i:=x) (by rw[jm]; exact hx)
 rw[kD] at w
 have uu:=KJ (o:=.cells (bl E.length λj=>if j=x then true else H j) 1 false) u.l
 have k:=uu.kp (S:=λc=>c=la) rfl
 refine⟨_,w,⟨?_,u.e.kp k (fQ u.oe λc h=>.inl h),u.b.kp k (fQ u.ob λc h=>.inl h),uu.get,?_,u.d,u.oe,u.ob⟩,uu⟩
 ·rw[uu.ne (u.d.1)]; exact u.o
 ·rw[uu.ne (Ne.symm u.d.2.2)]; exact u.v
def kz (E:List (Int×Int)) (i x:Nat):Bool:=decide (tlE E i=x)||decide (hdE E i=x)
def mg (E:List (Int×Int)) (i x:Nat):Int:=((tlE E i:Nat):Int)+((hdE E i:Nat):Int)-((x:Nat):Int)
theorem lD {h:AH}{bb n:Nat}{ev edv:AV}{E:List (Int×Int)}{Bl:List Nat}{la pa:Nat}{H V:Nat→Bool}{fav:AV} (u:Bu h bb n ev edv E Bl la pa H V fav) (hE:InG n E) (hn:n<2 ^ 40) {i x:Nat} (hi:i<E.length) (hx:x<n) :
 C prg 62 [.ptr bb 0,.int .i64 (i:Nat),.int .i64 (x:Nat)] h λv h'=>v=.tup [.int .i64 (mg E i x),.bool (kz E i x)]∧Ext h.next h h':=by
 refine KK pf62 ?_
 obtain⟨q1,q2,q3⟩:=hE i hi
 obtain⟨b,p,a,rr,_,_⟩:=u.e.at (fR (f:=eE) hi)
 rw[q1] at rr
 have rse:ak h bb 1 1=some [ev]:=br u.o rfl
 have w1:IntKind.i64.wrap (((tlE E i:Nat):Int)+((hdE E i:Nat):Int))=((tlE E i:Nat):Int)+((hdE E i:Nat):Int):=et om om
 have w2:IntKind.i64.wrap (((tlE E i:Nat):Int)+((hdE E i:Nat):Int)-((x:Nat):Int))=mg E i x:=et om om
 obtain⟨h3,w3,x3,g3,n3⟩:=gH (h:=h) (z:=[.int .i64 0,.int .i64 0]) (cs:=[.int .i64 (tlE E i:Nat),.int .i64 (hdE E i:Nat)]) (e:=2) rfl
 refine ai (au (Mi0) ?_)
 refine ai (au (by simp only[am,aH,simprocAttr,bN,rse,a,rr,eE,w3]<;>rfl) ?_)
 have ra:ak h3 h.next 0 1=some [.int .i64 (tlE E i:Nat)]:=br g3 rfl
 have rb:ak h3 h.next 1 1=some [.int .i64 (hdE E i:Nat)]:=br g3 rfl
 have d1:decide (((tlE E i:Nat):Int)=((x:Nat):Int))=decide (tlE E i=x):=by rw[decide_eq_decide]; omega
 have d2:decide (((hdE E i:Nat):Int)=((x:Nat):Int))=decide (hdE E i=x):=by rw[decide_eq_decide]; omega
 have ib:kz E i x=(decide (tlE E i=x)||decide (hdE E i=x)):=rfl
 by_cases ht:tlE E i=x
 ·rw[aM ht] at d1 ib
  refine ai (bR (λts h'=>h'=h3∧aN ts 6=.int .i64 (mg E i x)∧aN ts 7=.bool (kz E i x)) (by simp only[am,aH,simprocAttr,bN,ra,rb,w1,w2,d1,ib,Bool.true_or]) ?_)
  rintro ts h4 ⟨rfl,e6,e7⟩
  exact bM ⟨.tup [.int .i64 (mg E i x),.bool (kz E i x)],(by simp only[rs,rf62,am,aH,simprocAttr,e6,e7]<;>rfl),rfl,x3⟩
 ·rw[aK ht] at d1 ib
  refine ai (bR (λts h'=>h'=h3∧aN ts 6=.int .i64 (mg E i x)∧aN ts 7=.bool (kz E i x)) (by simp only[am,aH,simprocAttr,bN,ra,rb,w1,w2,d1,d2,ib,gw]) ?_)
  rintro ts h4 ⟨rfl,e6,e7⟩
  exact bM ⟨.tup [.int .i64 (mg E i x),.bool (kz E i x)],(by simp only[rs,rf62,am,aH,simprocAttr,e6,e7]<;>rfl),rfl,x3⟩
open Go.Am
def upG {α:Type} [DecidableEq α]:List (α×AV)→α→AV→List (α×AV)
 | [],k,v=>[(k,v)]
 | p::r,k,v=>if p.1=k then (k,v)::r else p::upG r k v
def lkG {α:Type} [DecidableEq α]:List (α×AV)→α→Option AV
 | [],_=>none
 | p::r,k=>if p.1=k then some p.2 else lkG r k
def KeyE {α:Type} [DecidableEq α] (e:RE) (κ:α→AV):Prop:=∀ a b,iI e (κ a) (κ b)=some (decide (a=b))
theorem vH:KeyE .ki (λk:Int=>AV.int .i64 k):=λa b=>by
 simp only[iI,if_true,aa]
 by_cases e:a=b
 ·subst e; simp
 ·rw[aK e,beq_eq_false_iff_ne]; exact e
theorem keyP:KeyE (.flat [.i64,.i64]) (λk:Int×Int=>AV.agg [.int .i64 k.1,.int .i64 k.2]):=λa b=>by
 obtain⟨a1,a2⟩:=a
 obtain⟨b1,b2⟩:=b
 by_cases e:a1=b1
 ·subst e
  by_cases e:a2=b2
  ·subst e
   simp [iI,eqF,eO]
  ·have:(a2==b2)=false:=by rw[beq_eq_false_iff_ne]; exact e
   simp [iI,eqF,eO,this,e]
 ·have:(a1==b1)=false:=by rw[beq_eq_false_iff_ne]; exact e
  simp [iI,eqF,eO,this,e]
theorem KeyE.ok {α:Type} [DecidableEq α] {e:RE}{κ:α→AV} (hk:KeyE e κ) (a:α):pV e (κ a)=true:=by
 unfold pV
 rw[hk a a]
 rfl
section
variable {α:Type} [DecidableEq α] {e:RE}{κ:α→AV}
theorem qE:∀ {l:List (α×AV)}{k:α}{v:AV},(upG l k v).map (·.1)=if k∈l.map (·.1) then l.map (·.1) else l.map (·.1)++[k]
 | [],k,v=>by simp [upG]
 | p::r,k,v=>by
   unfold upG
   by_cases q:p.1=k
   ·rw[if_pos q,bE,bE,if_pos (by simp [q]),q]
   ·rw[if_neg q,bE,qE,bE]
    by_cases m:k∈r.map (·.1)
    ·rw[if_pos m,if_pos (bt _ m)]
    ·rw[if_neg m,if_neg (by rw[aw]; rintro (h|h); exact q h.symm; exact m h)]
     rfl
theorem sY {l:List (α×AV)}{k:α}{v:AV} (h:(l.map (·.1)).Nodup):((upG l k v).map (·.1)).Nodup:=by
 rw[qE]
 split
 ·exact h
 ·rename_i hk
  rw[aS]
  refine⟨h,by simp,λa ha b hb=>?_⟩
  rw[bG] at hb
  subst hb
  rintro rfl
  exact hk ha
theorem jT:∀ {l:List (α×AV)}{k k':α}{v:AV},lkG (upG l k v) k'=if k'=k then some v else lkG l k'
 | [],k,k',v=>by
   simp only[upG,lkG]
   by_cases q:k=k'
   ·rw[if_pos q,if_pos q.symm]
   ·rw[if_neg q,if_neg λe=>q e.symm]
 | p::r,k,k',v=>by
   unfold upG
   by_cases q:p.1=k
   ·rw[if_pos q]
    simp only[lkG]
    by_cases m:k'=k
    ·rw[if_pos m,if_pos m.symm]
    ·rw[if_neg m,if_neg (λe=>m e.symm),if_neg (λe=>m (e.symm.trans q))]
   ·rw[if_neg q]
    simp only[lkG]
    rw[jT]
    by_cases m:p.1=k'
    ·rw[if_pos m,if_pos m,if_neg (λe=>q (m.trans e))]
    ·rw[if_neg m,if_neg m]
theorem Fa {l:List (α×AV)}{k:α}:lkG l k=none↔k∉l.map (·.1):=by
 induction l with
 | nil=>simp [lkG]
 | cons p r ih =>
   simp only[lkG,bE,aw]
   by_cases q:p.1=k
   ·rw[if_pos q]
    simp [q.symm]
   ·rw[if_neg q,ih]
    constructor
    ·rintro h (e|e)
     ·exact q e.symm
     ·exact h e
    ·exact λh e=>h (.inr e)
theorem AM:∀ {l:List (α×AV)},(l.map (·.1)).Nodup→∀ p∈l,lkG l p.1=some p.2
 | q::r,hn,p,hp=>by
   rw[bE] at hn
   obtain⟨h1,h2⟩:=aZ.1 hn
   simp only[lkG]
   rcases aw.1 hp with rfl|hp
   ·rw[if_pos rfl]
   ·rw[if_neg λe=>h1 (by rw[e]; exact List.mem_map_of_mem hp)]
    exact AM h2 p hp
theorem vw:∀ {l:List (α×AV)}{k:α}{v:AV},lkG l k=some v→(k,v)∈l
 | p::r,k,v,h=>by
   simp only[lkG] at h
   split at h
   ·rename_i q
    cases h
    subst q
    exact bA ..
   ·exact bt _ (vw h)
def EntG (κ:α→AV) (es:List (AV×AV×Nat)) (l:List (α×AV)):Prop:=es.map (λx=>(x.1,x.2.1))=l.map λp=>(κ p.1,p.2)
theorem EntG.len {es:List (AV×AV×Nat)}{l:List (α×AV)} (h:EntG κ es l):es.length=l.length:=by
 have:=congrArg List.length h
 simpa using this
theorem rL (hk:KeyE e κ):∀ {es:List (AV×AV×Nat)}{l:List (α×AV)},EntG κ es l→∀ k:α,(lkG l k=none∧ir e (κ k) es=some none∧∀ v,upG l k v=l++[(k,v)]) ∨
 ∃ i v n,ir e (κ k) es=some (some (i,v,n))∧es[i]?=some (κ k,v,n)∧lkG l k=some v∧∀ u,upG l k u=l.set i (k,u)
 | [],l,h,k=>by
   have:l=[]:=by
    have:=congrArg List.length h
    simp at this
    exact bd.1 this.symm
   subst this
   exact .inl ⟨rfl,rfl,λ_=>rfl⟩
 | x::r,[],h,k=>by simp [EntG] at h
 | (a,b,n)::r,p::l,h,k=>by
   have h':=h
   simp only[EntG,bE,eG,aj] at h'
   obtain⟨⟨rfl,rfl⟩,h2⟩:=h'
   have hq:=hk k p.1
   by_cases q:p.1=k
   ·rw[aM q.symm] at hq
    refine .inr ⟨0,p.2,n,?_,by rw[q]; rfl,?_,λu=>?_⟩
    ·simp only[ir,hq]
    ·simp only[lkG,if_pos q]
    ·simp only[upG,if_pos q,List.set_cons_zero]
   ·rw[aK (λe=>q e.symm)] at hq
    rcases rL hk (es:=r) (l:=l) h2 k with ⟨h3,h4,h5⟩|⟨i,v,m,h3,h4,h5,h6⟩
    ·refine .inl ⟨?_,?_,λv=>?_⟩
     ·simp only[lkG,if_neg q,h3]
     ·simp only[ir,hq,h4]
      rfl
     ·simp only[upG,if_neg q,h5]
      rfl
    ·refine .inr ⟨i+1,v,m,?_,h4,?_,λu=>?_⟩
     ·simp only[ir,hq,h3]
      rfl
     ·simp only[lkG,if_neg q,h5]
     ·simp only[upG,if_neg q,h6,List.set_cons_succ]
structure EsG (κ:α→AV) (es:List (AV×AV×Nat)) (c:Nat) (l:List (α×AV)):Prop where
 ent:EntG κ es l
 nod:(l.map (·.1)).Nodup
 st1:(es.map (·.2.2)).Pairwise (·<·)
 st2:∀ x∈es,x.2.2<c
def MapG (κ:α→AV) (h:AH) (mb:Nat) (l:List (α×AV)):Prop:=∃ es c,h.get mb=some (.mapo es c)∧EsG κ es c l
theorem MapG.nil {h:AH}{mb c:Nat} (hg:h.get mb=some (.mapo [] c)):MapG κ h mb []:=⟨[],c,hg,rfl,.nil,.nil,λx hx=>by cases hx⟩
theorem MapG.cong {h h':AH}{mb:Nat}{l:List (α×AV)} (m:MapG κ h mb l) (hg:h'.get mb=h.get mb):MapG κ h' mb l:=by
 obtain⟨es,c,h1,h2⟩:=m
 exact⟨es,c,by rw[hg]; exact h1,h2⟩
theorem MapG.lt {h:AH}{mb:Nat}{l:List (α×AV)} (m:MapG κ h mb l):mb<h.next:=by
 obtain⟨es,c,h1,_⟩:=m
 exact AH.lt_of_get h1
theorem MapG.len {h:AH}{mb:Nat}{l:List (α×AV)} (m:MapG κ h mb l):tP h (.mp mb)=some (.int .i64 (l.length:Nat)):=by
 obtain⟨es,c,h1,h2⟩:=m
 have:=h2.ent.len
 simp only[tP,h1,this]
theorem MapG.nod {h:AH}{mb:Nat}{l:List (α×AV)} (m:MapG κ h mb l):(l.map (·.1)).Nodup:=by
 obtain⟨es,c,h1,h2⟩:=m
 exact h2.nod
theorem MapG.look (hk:KeyE e κ) {h:AH}{mb:Nat}{l:List (α×AV)} (m:MapG κ h mb l) (z:AV) (k:α):oA h e false z (.mp mb) (κ k)=some ((lkG l k).getD z):=by
 obtain⟨es,c,h1,h2⟩:=m
 rcases rL hk h2.ent k with ⟨q1,q2,_⟩|⟨i,v,n,q1,q2,q3,_⟩
 ·simp only[oA,h1,hk.ok,q2,if_true,q1]; rfl
 ·simp only[oA,h1,hk.ok,q1,if_true,q3]; rfl
theorem MapG.look2 (hk:KeyE e κ) {h:AH}{mb:Nat}{l:List (α×AV)} (m:MapG κ h mb l) (z:AV) (k:α):oA h e true z (.mp mb) (κ k)=some (.tup [(lkG l k).getD z,.bool (lkG l k).isSome]):=by
 obtain⟨es,c,h1,h2⟩:=m
 rcases rL hk h2.ent k with ⟨q1,q2,_⟩|⟨i,v,n,q1,q2,q3,_⟩
 ·simp only[oA,h1,hk.ok,q2,if_true,q1]; rfl
 ·simp only[oA,h1,hk.ok,q1,if_true,q3]; rfl
theorem EsG.set {es:List (AV×AV×Nat)}{c i n:Nat}{l:List (α×AV)}{k:α}{v u:AV} (h:EsG κ es c l) (hi:es[i]?=some (κ k,v,n)) (hu:upG l k u=l.set i (k,u)):EsG κ (es.set i (κ k,u,n)) c (upG l k u):=by
 refine⟨?_,sY h.nod,?_,λx hx=>?_⟩
 ·unfold EntG
  rw[hu,Dw,Dw,h.ent]
 ·have:(es.set i (κ k,u,n)).map (·.2.2)=es.map (·.2.2):=by
   rw[Dw]
   refine eC λj=>?_
   rw[dW]
   split
   ·rename_i e
    subst e
    have hl:=(aL.1 hi).1
    rw[aF,hi,ae,if_pos hl]
    rfl
   ·rfl
  rw[this]
  exact h.st1
 ·rcases List.mem_or_eq_of_mem_set hx with hx|rfl
  ·exact h.st2 x hx
  ·have:=h.st2 _ (dh hi)
   exact this
theorem EsG.add {es:List (AV×AV×Nat)}{c:Nat}{l:List (α×AV)}{k:α}{v:AV} (h:EsG κ es c l) (hu:upG l k v=l++[(k,v)]):EsG κ (es++[(κ k,v,c)]) (c+1) (upG l k v):=by
 refine⟨?_,sY h.nod,?_,λx hx=>?_⟩
 ·unfold EntG
  rw[hu,ee,ee,h.ent]
  rfl
 ·rw[ee,mj]
  refine⟨h.st1,by simp,λa ha b hb=>?_⟩
  simp only[bE,Dx,bG] at hb
  subst hb
  obtain⟨x,hx,rfl⟩:=bC.1 ha
  exact h.st2 x hx
 ·rcases ar.1 hx with hx|hx
  ·have:=h.st2 x hx; omega
  ·rw[bG] at hx
   subst hx
   show c<c+1
   omega
theorem MapG.up (hk:KeyE e κ) {h:AH}{mb:Nat}{l:List (α×AV)} (m:MapG κ h mb l) (k:α) (v:AV):∃ h',vr h e (.mp mb) (κ k) v=some (.un,h')∧MapG κ h' mb (upG l k v)∧∃ o,Upd h h' mb o:=by
 obtain⟨es,c,h1,h2⟩:=m
 rcases rL hk h2.ent k with ⟨q1,q2,q3⟩|⟨i,w,n,q1,q2,q3,q4⟩
 ·have u:=KJ (o:=.mapo (es++[(κ k,v,c)]) (c+1)) h1
  exact⟨_,by simp only[vr,h1,hk.ok,q2,if_true],⟨_,_,u.get,h2.add (q3 v)⟩,_,u⟩
 ·have u:=KJ (o:=.mapo (es.set i (κ k,v,n)) c) h1
  exact⟨_,by simp only[vr,h1,hk.ok,q1,if_true],⟨_,_,u.get,h2.set q2 (q4 v)⟩,_,u⟩
theorem yJ:∀ {es:List (AV×AV×Nat)}{i n:Nat}{k v:AV},(es.map (·.2.2)).Pairwise (·<·)→es[i]?=some (k,v,n)→pM ((n:Nat):Int) es=some (i,k,n)
 | (a,b,m)::r,0,n,k,v,hp,hi=>by
   simp only[aV,aa,aj] at hi
   obtain⟨rfl,rfl,rfl⟩:=hi
   simp only[pM,if_true]
 | (a,b,m)::r,i+1,n,k,v,hp,hi=>by
   rw[cK] at hi
   rw[bE,dC] at hp
   have:=hp.1 n (bC.2 ⟨_,dh hi,rfl⟩)
   have hne:¬ ((m:Nat):Int)=((n:Nat):Int):=by have this:m<n:=this; omega
   simp only[pM,if_neg hne,yJ hp.2 hi,aG]
theorem MapG.men (hk:KeyE e κ) {h:AH}{mb:Nat}{l:List (α×AV)} (m:MapG κ h mb l) (z:AV) (k:α):∃ h1 n,xz h e z (.mp mb) (κ k)=some (.tup [(lkG l k).getD z,.int .i64 ((n:Nat):Int)],h1)∧(∃ o,Upd h h1 mb o)∧oA h1 e false z (.mp mb) (κ k)=some ((lkG l k).getD z) ∧
 ∀ v,∃ h2,zo h1 (.mp mb) (.int .i64 ((n:Nat):Int)) v=some (.un,h2)∧MapG κ h2 mb (upG l k v)∧∃ o,Upd h1 h2 mb o:=by
 obtain⟨es,c,h1,h2⟩:=m
 rcases rL hk h2.ent k with ⟨q1,q2,q3⟩|⟨i,w,n,q1,q2,q3,q4⟩
 ·have u:=KJ (o:=.mapo (es++[(κ k,z,c)]) (c+1)) h1
  have E:=h2.add (q3 z)
  have m2:MapG κ (h.put mb (.mapo (es++[(κ k,z,c)]) (c+1))) mb (upG l k z):=⟨_,_,u.get,E⟩
  refine⟨_,c,by simp only[xz,h1,hk.ok,q2,if_true,q1]; rfl,⟨_,u⟩,by rw[m2.look hk,jT,if_pos rfl,q1]; rfl,λv=>?_⟩
  have hi:(es++[(κ k,z,c)])[es.length]?=some (κ k,z,c):=by rw[aR (ab _),dT]; rfl
  have u2:=KJ (o:=.mapo ((es++[(κ k,z,c)]).set es.length (κ k,v,c)) (c+1)) u.get
  refine⟨_,by simp only[zo,u.get,yJ E.st1 hi],⟨_,_,u2.get,?_⟩,_,u2⟩
  have hs:=h2.add (q3 v)
  have:(es++[(κ k,z,c)]).set es.length (κ k,v,c)=es++[(κ k,v,c)]:=by
   rw[List.set_append_right _ _ (ab _),dT]
   rfl
  rw[this]
  exact hs
 ·have u:=KJ (o:=.mapo (es.set i (κ k,w,n)) c) h1
  have E:=h2.set q2 (q4 w)
  have m2:MapG κ (h.put mb (.mapo (es.set i (κ k,w,n)) c)) mb (upG l k w):=⟨_,_,u.get,E⟩
  refine⟨_,n,by simp only[xz,h1,hk.ok,q1,if_true,q3,eV],⟨_,u⟩,by rw[m2.look hk,jT,if_pos rfl,q3],λv=>?_⟩
  have hl:=(aL.1 q2).1
  have hi:(es.set i (κ k,w,n))[i]?=some (κ k,w,n):=cS hl
  have u2:=KJ (o:=.mapo ((es.set i (κ k,w,n)).set i (κ k,v,n)) c) u.get
  refine⟨_,by simp only[zo,u.get,yJ E.st1 hi],⟨_,_,u2.get,?_⟩,_,u2⟩
  rw[List.set_set]
  exact h2.set q2 (q4 v)
end
end Go.Proofs.Ytpeemonpdlifbaa
