/- arborref05.Next, Faces, Genus. -/
import Derived.Test.YtpeemonpdlifbaaVTAN
import Derived.Test.YtpeemonpdlifbaaVTAH
set_option linter.all false
namespace Go.Proofs.Ytpeemonpdlifbaa
open Go.Am
open Go.Pla (Rws en fl rnx ph nxl ixo cls Ob comp Back it)
section
variable {n:Nat}{E:List (Int×Int)}{hE:InG n E}{hL:∀ i,i<E.length→tlE E i≠hdE E i}{T:List (List Int)}
theorem CA {h:AH}{lo:Nat}{v:AV}{cs:List AV} (hv:IsSl h 1 lo v cs):jc v=some (.int .i64 (cs.length:Nat)):=by
 rcases hv with ⟨rfl,rfl⟩|⟨b,k,_,rfl,_,h4⟩
 ·rfl
 ·rw[h4,aP]; rfl
theorem Ap (R:RwsI n E T) (hE:InG n E) (hL:∀ i,i<E.length→tlE E i≠hdE E i) {x:Nat} (hx:x<n):(T.getD x []).length≤2*E.length:=by
 have RW:=qP (hE:=hE) (hL:=hL) R
 have:=Go.Pla.nd_lt (RW.nd x hx) (n:=2*E.length) λd hd=>(RW.at_ x hx d hd).1
 rw[iZ,ae] at this
 exact this
set_option maxHeartbeats 1000000 in
theorem Cd {h:AH}{ev tv:AV} (he:SlE h ev E) (hm:E.length≤128) (hT:SlL h tv T) (R:RwsI n E T) {d:Nat} (hd:d<2*E.length) :
 C prg 43 [.agg [.int .i64 (n:Nat),ev],tv,.int .i64 (d:Nat)] h λr h'=>r=.int .i64 (ph (rnx (grE n E hE hL) (ji T)) E.length d:Nat)∧Ext h.next h h':=by
 obtain⟨ec,eo⟩:=he.cells
 obtain⟨tc,to⟩:=hT.cells
 have RW:=qP (hE:=hE) (hL:=hL) R
 have hth:Go.Pla.th E.length d=fl d:=by unfold Go.Pla.th; rw[if_pos om]
 have hfl:fl d<2*E.length:=by rw[← hth]; exact Go.Pla.th_lt hd
 obtain⟨o,ho⟩:∃ o,o=fl d:=⟨_,rfl⟩
 rw[← ho] at hfl hth
 obtain⟨x,hx⟩:∃ x,x=en (grE n E hE hL) o:=⟨_,rfl⟩
 have hxn:x<n:=by rw[hx]; exact Go.Pla.en_lt hfl
 have hxT:x<T.length:=by rw[R.len]; exact hxn
 have hoi:kC E o=((x:Nat):Int):=by rw[hx]; exact vR hfl
 have hlen:=Ap R hE hL hxn
 rw[fM hxT] at hlen
 have hnat:(ji T).getD x []=T[x].map Int.toNat:=by rw[iZ,fM hxT]
 have hpos:∀ z∈T[x],0≤z:=λz hz=>(R.at_ x hxn z (by rw[fM hxT]; exact hz)).1
 have hans:ph (rnx (grE n E hE hL) (ji T)) E.length d=nxl (T[x].map Int.toNat) o:=by
  unfold ph rnx
  rw[hth,← hx,hnat]
 have hmem:((o:Nat):Int)∈T[x]:=by
  have:=RW.all o hfl
  rw[← hx,hnat] at this
  obtain⟨z,hz,e⟩:=bC.1 this
  have:=hpos z hz
  have e2:z=((o:Nat):Int):=om
  rw[← e2]; exact hz
 have ndx:(T[x].map Int.toNat).Nodup:=by
  have:=RW.nd x hxn
  rwa [hnat] at this
 refine KK pf43 ?_
 refine ai (au (Mi0) ?_)
 have x0:Ext h.next h (h.new (.cells [.int .i64 (n:Nat),ev] 2 false)):=KH (ab _)
 have g0:(h.new (.cells [.int .i64 (n:Nat),ev] 2 false)).get h.next=some (.cells [.int .i64 (n:Nat),ev] 2 false):=by rw[AH.get_new,if_pos rfl]
 have n0:(h.new (.cells [.int .i64 (n:Nat),ev] 2 false)).next=h.next+1:=rfl
 generalize (h.new (.cells [.int .i64 (n:Nat),ev] 2 false))=h1 at *
 have wd:IntKind.i64.wrap (((d:Nat):Int)+1)=((d+1:Nat):Int):=et om om
 refine ai (au (Mi1 wd) ?_)
 refine ai (ju (λts h'=>h'=h1∧aN ts 1=tv∧aN ts 3=.ptr h.next 0∧aN ts 7=.int .i64 (o:Nat)) ?_ ?_)
 ·by_cases q:d % 2=1
  ·have d1:decide (((d % 2:Nat):Int)=1)=true:=aM om
   have wo:IntKind.i64.wrap (((d:Nat):Int)-1)=((o:Nat):Int):=by
    have:o=d-1:=by rw[ho]; unfold fl; rw[if_neg om]
    rw[et om om]
    omega
   refine ai (au (Mi3 @lA @Ai d1) ?_)
   refine cE (Z0) (au (Mi1 wo) ?_)
   exact⟨rfl,Zi0,Zi0,Z0⟩
  ·have d1:decide (((d % 2:Nat):Int)=1)=false:=aK om
   have eo1:o=d+1:=by rw[ho]; unfold fl; rw[if_pos om]
   refine ai (au (Mi3 @lA @Ai d1) ?_)
   refine dn (Z0) (bH ?_)
   exact⟨rfl,Zi0,Zi0,Z1 eo1⟩
 rintro ts h1' ⟨rfl,e1,e3,e7⟩
 have rA:ak h1' h.next 0 2=some [.int .i64 (n:Nat),ev]:=by rw[aW g0]; rfl
 refine ai (bU (bu 3 (M4 e1 e3 e7 rA) rfl (Z4 e1 e3 e7 rA) (M4 e1 e3 e7 rA) (qr (n:=((n:Nat):Int)) (he.ext x0 (ab _)) hfl om) λr h2 hq=>?_))
 obtain⟨rfl,x2⟩:=hq
 have X2:Ext h.next h h2:=x0.trans (x2.mono om)
 obtain⟨tb,tp,w,a2,r2,i2,_⟩:=(hT.ext X2).at hxT
 have lw:=i2.len
 rw[ae] at lw
 refine gv (λts h'=>h'=h2∧aN ts 7=.int .i64 (o:Nat)∧aN ts 8=w) (Z5 e1 e7 hoi a2 r2) ?_
 clear e1 e3 e7
 rintro ts h2' ⟨rfl,e7,e8⟩
 refine ai (ai (au (M0) ?_))
 refine fN (α:=Unit) (N:=T[x].length) (λj _=>[(7,.int .i64 (o:Nat)),(8,w),(9,.int .i64 (j:Nat))])
  (λj _ h'=>h'=h2'∧∀ i (hi:i<T[x].length),i<j→T[x][i]≠((o:Nat):Int)) () (H3 e7 e8 @bg) ⟨rfl,λi _ hi=>absurd hi (eR _)⟩ ?_ ?_ ?_
 ·clear e7 e8
  rintro j _ ts h3 hj ⟨rfl,_⟩ ⟨e7,e8,e9,-⟩
  simp only at e7 e8 e9
  exact⟨_,(M4 e8 e9 lw @cx),Z0,H3 e7 e8 e9⟩
 ·clear e7 e8
  rintro j _ ts h3 hj ⟨rfl,k1⟩ ⟨e7,e8,e9,-⟩
  simp only at e7 e8 e9
  have wj:IntKind.i64.wrap (((j:Nat):Int)+1)=((j+1:Nat):Int):=et om om
  obtain⟨zb,zp,a6,r6,_⟩:=i2.at1 (i:=j) (y:=.int .i64 T[x][j]) (by rw[aF,ah hj]; rfl)
  by_cases q:T[x][j]=((o:Nat):Int)
  ·have d1:decide (T[x][j]=((o:Nat):Int))=true:=aM q
   have hlt:(j+1) % T[x].length<T[x].length:=gu _ om
   obtain⟨yb,yp,a7,r7,_⟩:=i2.at1 (i:=(j+1) % T[x].length) (y:=.int .i64 (T[x][(j+1) % T[x].length])) (by rw[aF,ah hlt]; rfl)
   have hn0:¬ ((T[x].length:Nat):Int)=0:=om
   have hmod:(((j+1:Nat):Int)).tmod ((T[x].length:Nat):Int)=(((j+1) % T[x].length:Nat):Int):=by rw[Int.tmod_eq_emod_of_nonneg om]; rfl
   refine ai (au (M6 e7 e8 e9 a6 r6 d1) ?_)
   refine cE (Z0) (ai (au (by simp only[am,aH,simprocAttr,e8,e9,wj,lw,if_neg hn0,hmod,a7,r7]<;>rfl) ?_))
   refine bM ⟨_,(by simp only[rs,rf43,am,aH,simprocAttr]<;>rfl),?_,X2⟩
   rw[hans]
   unfold nxl
   have hix:ixo (T[x].map Int.toNat) o=j:=by
    have:=Go.Pla.ixo_get ndx (i:=j) (by rw[ae]; exact hj)
    rw[aA,aF,ah hj] at this
    simp only[aG,eV,q,dj] at this
    exact this
   rw[hix,ae,aA,aF,ah hlt]
   simp only[aG,eV]
   have:=hpos _ (bj hlt)
   congr 1
   omega
  ·have d1:decide (T[x][j]=((o:Nat):Int))=false:=aK q
   refine ai (au (M6 e7 e8 e9 a6 r6 d1) ?_)
   refine dn (Z0) (bH ?_)
   refine⟨(),⟨rfl,λi hi hij=>?_⟩,_,(M2 e9 wj),H2 e7 e8⟩
   rcases bF i j with z|z
   ·exact k1 i hi z
   ·obtain rfl:i=j:=om
    exact q
 ·rintro _ ts h3 ⟨rfl,k1⟩ _
  obtain⟨i,hi,e⟩:=cJ.1 hmem
  exact absurd e (k1 i hi hi)
open Classical in
noncomputable def xA (φ:Nat→Nat) (k:Nat):Nat:=(List.range k).countP λx=>decide (∀ y,y<x→¬ Ob φ y x)
theorem EY {φ:Nat→Nat}{N:Nat}:xA φ N=cls N (Ob φ):=by
 unfold xA cls
 exact gi λx _=>by simp only[aJ]
open Classical in
theorem Cs {φ:Nat→Nat}{k:Nat}:xA φ (k+1)=xA φ k+if ∀ y,y<k→¬ Ob φ y k then 1 else 0:=by
 unfold xA
 rw[bW,nY]
 simp only[cL,mP,bS,aJ]
theorem Ic {φ:Nat→Nat}{k:Nat}:xA φ k≤k:=by
 unfold xA
 refine cM fT ?_
 rw[bV]
 exact ab _
theorem Cw {φ:Nat→Nat}{N f r:Nat} (hc:∀ d,d<N→φ d<N) (hi:∀ a b,a<N→b<N→φ a=φ b→a=b) (hf:f<N) (hb:Back φ f r):(∀ i,0<i→i<r→f<it φ i f)↔∀ y,y<f→¬ Ob φ y f:=by
 constructor
 ·intro h y hy ho
  have hs:=(Go.Pla.ob_eqv hc hi).sm y f om hf ho
  have hm:y∈Go.Pla.orb φ f r:=Ob.keep (N:=N) (P:=λz=>z∈Go.Pla.orb φ f r) hc (λd _ q=>Go.Pla.orb_nx hb q) hf hs (Go.Pla.orb_mem.2 ⟨0,hb.1,rfl⟩)
  obtain⟨i,hir,e⟩:=Go.Pla.orb_mem.1 hm
  have hi0:0<i:=nR λz=>by subst z; have:f=y:=e; omega
  have:=h i hi0 hir
  omega
 ·intro h i hi0 hir
  rcases bF f (it φ i f) with q|q
  ·exact q
  ·have hne:=hb.2.2 i hi0 hir
   have hlt:it φ i f<f:=om
   exact absurd ((Go.Pla.ob_eqv hc hi).sm f _ hf (Go.Pla.it_lt hc hf i) ⟨i,rfl⟩) (h _ hlt)
open Classical in
set_option maxHeartbeats 2000000 in
theorem yS {h:AH}{ev tv:AV} (he:SlE h ev E) (hm:E.length≤128) (hT:SlL h tv T) (R:RwsI n E T) :
 C prg 26 [.agg [.int .i64 (n:Nat),ev],tv] h λr h'=>jc r=some (.int .i64 (cls (2*E.length) (Ob (ph (rnx (grE n E hE hL) (ji T)) E.length)):Nat))∧Ext h.next h h':=by
 obtain⟨ec,eo⟩:=he.cells
 obtain⟨tc,to⟩:=hT.cells
 have hR:=(qP (hE:=hE) (hL:=hL) R).rotn
 obtain⟨φ,hφ⟩:∃ φ,φ=ph (rnx (grE n E hE hL) (ji T)) E.length:=⟨_,rfl⟩
 have hc:∀ d,d<2*E.length→φ d<2*E.length:=λd hd=>by rw[hφ]; exact Go.Pla.ph_lt hR hd
 have hi:∀ a b,a<2*E.length→b<2*E.length→φ a=φ b→a=b:=by rw[hφ]; exact Go.Pla.ph_inj hR
 have hN:∀ {h':AH},SlE h' ev E→SlL h' tv T→∀ {d:Nat},d<2*E.length→C prg 43 [.agg [.int .i64 (n:Nat),ev],tv,.int .i64 (d:Nat)] h' λr h''=>r=.int .i64 (φ d:Nat)∧Ext h'.next h' h'':=fun {h'} q1 q2 {d} hd=>by rw[hφ]; exact Cd q1 hm q2 R hd
 rw[← hφ]
 clear hφ
 have el:=he.len
 rw[ae] at el
 refine KK pf26 ?_
 refine ai (au (Mi0) ?_)
 have x0:Ext h.next h (h.new (.cells [.int .i64 (n:Nat),ev] 2 false)):=KH (ab _)
 have g0:(h.new (.cells [.int .i64 (n:Nat),ev] 2 false)).get h.next=some (.cells [.int .i64 (n:Nat),ev] 2 false):=by rw[AH.get_new,if_pos rfl]
 have n0:(h.new (.cells [.int .i64 (n:Nat),ev] 2 false)).next=h.next+1:=rfl
 generalize (h.new (.cells [.int .i64 (n:Nat),ev] 2 false))=h1 at *
 refine ai (au (Mi0) ?_)
 have x1:Ext h1.next h1 (h1.new (.cells [] 1 false)):=KH (ab _)
 have g1:(h1.new (.cells [] 1 false)).get h1.next=some (.cells [] 1 false):=by rw[AH.get_new,if_pos rfl]
 have n1:(h1.new (.cells [] 1 false)).next=h1.next+1:=rfl
 generalize (h1.new (.cells [] 1 false))=h2 at *
 have X2:Ext h.next h h2:=x0.trans (x1.mono om)
 have g2:h2.get h.next=some (.cells [.int .i64 (n:Nat),ev] 2 false):=by rw[x1.gt _ om]; exact g0
 rw[n0] at g1 n1
 have wd:IntKind.i64.wrap (2*((E.length:Nat):Int))=((2*E.length:Nat):Int):=by rw[et om om]; omega
 refine ai (ai (au (M1 n0) ?_))
 refine fN (α:=AV) (N:=2*E.length) (λf ov=>[(1,tv),(2,.ptr h.next 0),(5,ov),(6,.int .i64 (f:Nat))])
  (λf ov h'=>(∃ cs,IsSl h' 1 (h.next+1) ov cs∧cs.length=xA φ f)∧h'.get h.next=some (.cells [.int .i64 (n:Nat),ev] 2 false)∧Ext h.next h h'∧h.next+1≤h'.next) (.sl (h.next+1) 0 0 0) (Hi1 @bg)
  ⟨⟨[],.inr ⟨h.next+1,0,ab _,rfl,g1,rfl⟩,rfl⟩,g2,X2,om⟩ ?_ ?_ ?_
 ·rintro f ov ts h3 hf ⟨_,b3,_,_⟩ ⟨e1,e2,e5,e6,-⟩
  simp only at e1 e2 e5 e6
  have rE:ak h3 h.next 1 1=some [ev]:=br b3 rfl
  exact⟨_,(M6 e2 e6 rE el wd @cx),Z0,H4 e1 e2 e5 e6⟩
 ·rintro f ov ts h3 hf ⟨⟨cs,i3,lc⟩,b3,X3,n3⟩ ⟨e1,e2,e5,e6,-⟩
  simp only at e1 e2 e5 e6
  have wf:IntKind.i64.wrap (((f:Nat):Int)+1)=((f+1:Nat):Int):=et om om
  obtain⟨r,hrN,hb⟩:=Go.Pla.back_of hc hi hf
  have hr0:=hb.1
  have lcle:=@Ic φ f
  have x4:Ext h3.next h3 (h3.new (.cells [.int .i64 (f:Nat)] 1 false)):=KH (ab _)
  have g4:(h3.new (.cells [.int .i64 (f:Nat)] 1 false)).get h3.next=some (.cells [.int .i64 (f:Nat)] 1 false):=by rw[AH.get_new,if_pos rfl]
  have n4:(h3.new (.cells [.int .i64 (f:Nat)] 1 false)).next=h3.next+1:=rfl
  have rp1:cI [AV.int .i64 0] 1=[.int .i64 0]:=rfl
  refine ai (bR (λts h'=>h'=h3.new (.cells [.int .i64 (f:Nat)] 1 false)∧aN ts 1=tv∧aN ts 2=.ptr h.next 0∧aN ts 5=ov∧aN ts 6=.int .i64 (f:Nat)∧aN ts 7=.sl h3.next 0 1 1) (by simp only[am,aH,simprocAttr,e1,e2,e5,e6,rp1]) ?_)
  clear e1 e2 e5 e6
  rintro ts h4 ⟨hh4,e1,e2,e5,e6,e7⟩
  rw[← hh4] at x4 g4 n4
  clear hh4
  refine ai (au (M0) ?_)
  have X4:Ext h.next h h4:=X3.trans (x4.mono om)
  have b4:h4.get h.next=some (.cells [.int .i64 (n:Nat),ev] 2 false):=by rw[x4.gt _ om]; exact b3
  have rA4:ak h4 h.next 0 2=some [.int .i64 (n:Nat),ev]:=by rw[aW b4]; rfl
  refine ai (ju (λts h'=>∃ fv:AV,∃ cf:List AV,aN ts 1=tv∧aN ts 2=.ptr h.next 0∧aN ts 5=ov∧aN ts 6=.int .i64 (f:Nat)∧aN ts 7=fv∧IsSl h' 1 h3.next fv cf∧aN ts 8=.bool (decide (∀ y,y<f→¬ Ob φ y f))∧Ext h3.next h3 h') ?_ ?_)
  ·refine ai (bU (bu 3 (M4 e1 e2 e6 rA4) rfl (Z4 e1 e2 e6 rA4) (M4 e1 e2 e6 rA4) (hN (he.ext X4 (ab _)) (hT.ext X4) hf) λr' h5 hq=>?_))
   obtain⟨rfl,x5⟩:=hq
   refine gv (λts h'=>h'=h5∧aN ts 1=tv∧aN ts 2=.ptr h.next 0∧aN ts 5=ov∧aN ts 6=.int .i64 (f:Nat)∧aN ts 7=.sl h3.next 0 1 1∧aN ts 8=.bool true∧aN ts 9=.int .i64 (φ f:Nat)) (Z5 e1 e2 e5 e6 e7) ?_
   clear e1 e2 e5 e6 e7
   rintro ts h5' ⟨rfl,e1,e2,e5,e6,e7,e8,e9⟩
   have g5:h5'.get h3.next=some (.cells [.int .i64 (f:Nat)] 1 false):=by rw[x5.gt _ om]; exact g4
   have X5:Ext h3.next h3 h5':=x4.trans (x5.mono om)
   refine cY (W.upto (r-1) (λj ts h'=>∃ fv:AV,∃ cf:List AV,aN ts 1=tv∧aN ts 2=.ptr h.next 0∧aN ts 5=ov∧aN ts 6=.int .i64 (f:Nat)∧aN ts 7=fv∧aN ts 8=.bool (decide (∀ i,0<i→i≤j→f<it φ i f))∧aN ts 9=.int .i64 (it φ (j+1) f:Nat)∧IsSl h' 1 h3.next fv cf∧cf.length=j+1∧Ext h3.next h3 h') ?_
    ⟨.sl h3.next 0 1 1,[.int .i64 (f:Nat)],e1,e2,e5,e6,e7,by rw[e8]; exact congrArg AV.bool (aM λi h1 h2=>by omega).symm,e9,.inr ⟨h3.next,1,ab _,rfl,g5,rfl⟩,rfl,X5⟩)
   clear e1 e2 e5 e6 e7 e8 e9
   rintro j ts h6 hj ⟨fv,cf,e1,e2,e5,e6,e7,e8,e9,i6,l6,X6⟩
   have n6:=X6.nx
   by_cases q:it φ (j+1) f=f
   ·have hjr:j+1=r:=by
     rcases bF (j+1) r with z|z
     ·exact absurd q (hb.2.2 _ om z)
     ·omega
    have d1:decide (((it φ (j+1) f:Nat):Int)=((f:Nat):Int))=true:=aM om
    refine ai (ai (bR (λts h'=>h'=h6∧aN ts 1=tv∧aN ts 2=.ptr h.next 0∧aN ts 5=ov∧aN ts 6=.int .i64 (f:Nat)∧aN ts 7=fv∧aN ts 8=.bool (decide (∀ i,0<i→i≤j→f<it φ i f))∧aN ts 27=.bool false) (by simp only[am,aH,simprocAttr,e1,e2,e5,e6,e7,e8,e9,d1]) ?_))
    clear e1 e2 e5 e6 e7 e8 e9
    rintro ts h6' ⟨rfl,e1,e2,e5,e6,e7,e8,e27⟩
    refine dn (Z1 e27) (fC ⟨λ_=>⟨fv,cf,e1,e2,e5,e6,e7,i6,?_,X6⟩,λe=>absurd rfl e⟩)
    rw[e8]
    refine congrArg AV.bool ?_
    rw[decide_eq_decide]
    rw[← Cw hc hi hf hb]
    exact⟨λh i h1 h2=>h i h1 om,λh i h1 h2=>h i h1 om⟩
   ·have hjr:j+1<r:=by
     rcases bF (j+1) r with z|z
     ·exact z
     ·have:j+1=r:=om
      rw[this] at q
      exact absurd hb.2.1 q
    have d1:decide (((it φ (j+1) f:Nat):Int)=((f:Nat):Int))=false:=aK om
    refine ai (ai (bR (λts h'=>h'=h6∧aN ts 1=tv∧aN ts 2=.ptr h.next 0∧aN ts 5=ov∧aN ts 6=.int .i64 (f:Nat)∧aN ts 7=fv∧aN ts 8=.bool (decide (∀ i,0<i→i≤j→f<it φ i f))∧aN ts 9=.int .i64 (it φ (j+1) f:Nat)∧aN ts 27=.bool true) (by simp only[am,aH,simprocAttr,e1,e2,e5,e6,e7,e8,e9,d1,bJ]) ?_))
    clear e1 e2 e5 e6 e7 e8 e9
    rintro ts h6' ⟨rfl,e1,e2,e5,e6,e7,e8,e9,e27⟩
    refine cE (Z1 e27) (bH ?_)
    obtain⟨fv',h7,a7,i7,x7,n7⟩:=i6.push (bytes:=8) [.int .i64 (it φ (j+1) f:Nat)] om om rfl rfl (by rw[ew]; unfold aU; omega) (by rw[ew]; unfold aU; omega)
    have X7:Ext h3.next h3 h7:=X6.trans x7
    refine ai (cY ?_)
    refine ai (bR (λts h'=>h'=h7∧aN ts 1=tv∧aN ts 2=.ptr h.next 0∧aN ts 5=ov∧aN ts 6=.int .i64 (f:Nat)∧aN ts 7=fv'∧aN ts 8=.bool (decide (∀ i,0<i→i≤j→f<it φ i f))∧aN ts 9=.int .i64 (it φ (j+1) f:Nat)) (by simp only[am,aH,simprocAttr,e1,e2,e5,e6,e7,e8,e9,rp1,a7]) ?_)
    clear e1 e2 e5 e6 e7 e8 e9 e27
    rintro ts h7' ⟨rfl,e1,e2,e5,e6,e7,e8,e9⟩
    have hL2:decide (∀ i,0<i→i≤j+1→f<it φ i f)=(decide (∀ i,0<i→i≤j→f<it φ i f)&&decide (f<it φ (j+1) f)):=by
     rw[dA,aQ,aJ,aJ,aJ]
     constructor
     ·intro hh; exact⟨λi h1 h2=>hh i h1 om,hh (j+1) om (ab _)⟩
     ·rintro⟨u,v⟩ i h1 h2
      rcases bF i (j+1) with z|z
      ·exact u i h1 om
      ·obtain rfl:i=j+1:=om
       exact v
    have b7:h7'.get h.next=some (.cells [.int .i64 (n:Nat),ev] 2 false):=by rw[X7.gt _ om]; exact b3
    have rA7:ak h7' h.next 0 2=some [.int .i64 (n:Nat),ev]:=by rw[aW b7]; rfl
    have XX7:Ext h.next h h7':=X3.trans (X7.mono om)
    refine ju (λts h'=>h'=h7'∧aN ts 1=tv∧aN ts 2=.ptr h.next 0∧aN ts 5=ov∧aN ts 6=.int .i64 (f:Nat)∧aN ts 7=fv'∧aN ts 8=.bool (decide (∀ i,0<i→i≤j+1→f<it φ i f))∧aN ts 9=.int .i64 (it φ (j+1) f:Nat)) ?_ ?_
    ·cases hL0:decide (∀ i,0<i→i≤j→f<it φ i f) with
     | true =>
       rw[hL0,yz] at hL2
       rw[hL0] at e8
       refine bR _ (by simp only[am,aH,simprocAttr,e1,e2,e5,e6,e7,e8,e9,cx,hL2]<;>simp) λts h' q=>q
     | false =>
       rw[hL0,fE] at hL2
       rw[hL0] at e8
       refine bR _ (by simp only[am,aH,simprocAttr,e1,e2,e5,e6,e7,e8,e9,hL2]<;>simp) λts h' q=>q
    clear e1 e2 e5 e6 e7 e8 e9
    rintro ts h8 ⟨rfl,e1,e2,e5,e6,e7,e8,e9⟩
    refine bU (bu 3 (M4 e1 e2 e9 rA7) rfl (Z4 e1 e2 e9 rA7) (M4 e1 e2 e9 rA7) (hN (he.ext XX7 (ab _)) (hT.ext XX7) (Go.Pla.it_lt hc hf (j+1))) λr' h9 hq=>?_)
    obtain⟨rfl,x9⟩:=hq
    refine gv (λts h'=>h'=h9∧aN ts 1=tv∧aN ts 2=.ptr h.next 0∧aN ts 5=ov∧aN ts 6=.int .i64 (f:Nat)∧aN ts 7=fv'∧aN ts 8=.bool (decide (∀ i,0<i→i≤j+1→f<it φ i f))∧aN ts 9=.int .i64 (it φ (j+1+1) f:Nat)) (by simp only[am,aH,simprocAttr,e1,e2,e5,e6,e7,e8]; rfl) ?_
    clear e1 e2 e5 e6 e7 e8 e9
    rintro ts h9' ⟨rfl,e1,e2,e5,e6,e7,e8,e9⟩
    exact⟨om,fv',_,e1,e2,e5,e6,e7,e8,e9,i7.ext x9 (ab _),by rw[aC,l6]; rfl,X7.trans (x9.mono X7.nx)⟩
  ·clear e1 e2 e5 e6 e7
   rintro ts h5 ⟨fv,cf,e1,e2,e5,e6,e7,i5,e8,X5⟩
   have XX5:Ext h.next h h5:=X3.trans (X5.mono om)
   have b5:h5.get h.next=some (.cells [.int .i64 (n:Nat),ev] 2 false):=by rw[X5.gt _ om]; exact b3
   have n5:=X5.nx
   have i35:=i3.ext X5 (ab _)
   have hs:=@Cs φ f
   refine ai (au (M1 e8) ?_)
   by_cases q:∀ y,y<f→¬ Ob φ y f
   ·rw[if_pos q] at hs
    have d1:decide (∀ y,y<f→¬ Ob φ y f)=true:=aM q
    obtain⟨ov',h6,a6,i6,x6,n6⟩:=i35.push (bytes:=24) [fv] om om rfl (by simp only[jE,List.all_nil,i5.cells.2,Bool.and_self]) (by rw[ew]; unfold aU; omega) (by rw[ew]; unfold aU; omega)
    have rpn:cI [AV.nils] 1=[.nils]:=rfl
    refine cE (Z1 d1) (au (by simp only[am,aH,simprocAttr,e5,e7,rpn,i5.cells.1,i5.cells.2,a6]<;>rfl) ?_)
    exact⟨ov',⟨⟨_,i6,by rw[aC,lc,hs]; rfl⟩,by rw[x6.gt _ om]; exact b5,XX5.trans (x6.mono om),om⟩,_,(M2 e6 wf),H2 e1 e2⟩
   ·rw[if_neg q,cZ] at hs
    have d1:decide (∀ y,y<f→¬ Ob φ y f)=false:=aK q
    refine dn (Z1 d1) (bH ?_)
    exact⟨ov,⟨⟨cs,i35,lc.trans hs.symm⟩,b5,XX5,om⟩,_,(M2 e6 wf),H3 e1 e2 e5⟩
 ·rintro ov ts h3 ⟨⟨cs,i3,lc⟩,b3,X3,n3⟩ ⟨e1,e2,e5,e6,-⟩
  simp only at e5
  refine ai (au (M1 e5) ?_)
  refine bM ⟨_,(by simp only[rs,rf26,am,aH,simprocAttr,e5]<;>rfl),?_,X3⟩
  rw[CA i3,lc,EY]
open Classical in
noncomputable def kw (Q:Nat→Nat→Prop) (k:Nat):Nat:=(List.range k).countP λx=>decide (∀ y,y<x→¬ Q y x)
theorem lstR_cls {Q:Nat→Nat→Prop}{N:Nat}:kw Q N=cls N Q:=by
 unfold kw cls
 exact gi λx _=>by simp only[aJ]
open Classical in
theorem Cr {Q:Nat→Nat→Prop}{k:Nat}:kw Q (k+1)=kw Q k+if ∀ y,y<k→¬ Q y k then 1 else 0:=by
 unfold kw
 rw[bW,nY]
 simp only[cL,mP,bS,aJ]
theorem vA {Q:Nat→Nat→Prop}{k:Nat}:kw Q k≤k:=by
 unfold kw
 refine cM fT ?_
 rw[bV]
 exact ab _
def nM (T:List (List Int)) (k:Nat):Nat:=(List.range k).countP λx=>(T.getD x []).isEmpty
theorem CJ {T:List (List Int)}{k:Nat}:nM T (k+1)=nM T k+if (T.getD k []).length=0 then 1 else 0:=by
 unfold nM
 rw[bW,nY]
 simp only[cL,mP,bS]
 congr 1
 by_cases h:T.getD k []=[]
 ·rw[h]; rfl
 ·have:¬ (T.getD k []).length=0:=λe=>h (bd.1 e)
  rw[if_neg this,if_neg (by simpa using h)]
theorem AZ {T:List (List Int)}{k:Nat}:nM T k≤k:=by
 unfold nM
 refine cM fT ?_
 rw[bV]
 exact ab _
theorem FK {T:List (List Int)}:nM T T.length=Go.Pla.emp (ji T):=by
 unfold nM Go.Pla.emp
 rw[Go.Pla.countP_ix (z:=[]) (l:=ji T)]
 have:(ji T).length=T.length:=by unfold ji; rw[ae]
 rw[this]
 refine gi λx _=>?_
 rw[iZ,gM,gM,List.map_eq_nil_iff]
open Go.Blk (goN go_ok RC) in
theorem ze {x:Nat} (hx:x<n):me n E (λ_=>false) x=((x:Nat):Int)↔∀ y,y<x→¬ comp (grE n E hE hL) E.length y x:=by
 have Eq:=Go.Pla.comp_eqv (g:=grE n E hE hL) (k:=E.length) (ab _)
 have hp:∀ y,y<n→(goN E.length (tlE E) (hdE E) (λi=>!((λ_=>false) (tlE E i))&&!((λ_=>false) (hdE E i))) n (λv=>decide (v=x)) y=true↔comp (grE n E hE hL) E.length x y):=λy hy=>by
  have h1:=go_ok (m:=E.length) (n:=n) (tl:=tlE E) (hd:=hdE E) (c:=λ_=>true) (λi hi=>⟨(hE i hi).2.1,(hE i hi).2.2⟩) hx y
  have h2:=Go.Pla.rc_comp (g:=grE n E hE hL) (u:=x) (v:=y) hx
  exact h1.trans (h2.trans ⟨λq=>q.2,λq=>⟨hy,q⟩⟩)
 obtain⟨y,e1,_,e3,e4,e5⟩:=tO (n:=n) (p:=λy=>goN E.length (tlE E) (hdE E) (λi=>!((λ_=>false) (tlE E i))&&!((λ_=>false) (hdE E i))) n (λv=>decide (v=x)) y&&!((λ_:Nat=>false) x)) n (ab _)
  ⟨x,om,hx,by simp only[bJ,eu]; exact (hp x hx).2 (Eq.rf x hx)⟩
 have e6:me n E (λ_=>false) x=((y:Nat):Int):=e1
 simp only[bJ,eu] at e4 e5
 have hy:=(hp y e3).1 e4
 rw[e6]
 constructor
 ·intro e z hz hc
  obtain rfl:y=x:=om
  have hzn:z<n:=om
  have:=e5 z om hz
  have h2:=(hp z hzn).2 (Eq.sm z y hzn hx hc)
  simp only[bJ,eu] at h2
  rw[this] at h2
  cases h2
 ·intro h
  rcases bF y x with q|q
  ·exact absurd (Eq.sm x y hx e3 hy) (h y q)
  ·rcases bF x y with q2|q2
   ·have:=e5 x om q2
    have h2:=(hp x hx).2 (Eq.rf x hx)
    simp only[bJ,eu] at h2
    rw[this] at h2
    cases h2
   ·omega
open Classical in
set_option maxHeartbeats 2000000 in
theorem qU {h:AH}{ev tv:AV} (he:SlE h ev E) (hE:InG n E) (hL:∀ i,i<E.length→tlE E i≠hdE E i) (hm:E.length≤128) (hn:n≤64) (hT:SlL h tv T) (R:RwsI n E T) :
 C prg 12 [.agg [.int .i64 (n:Nat),ev],tv] h λr h'=>∃ j:Nat,r=.int .i64 (j:Nat)∧(j=0↔Go.Pla.Cuts (grE n E hE hL) (rnx (grE n E hE hL) (ji T)) E.length)∧Ext h.next h h':=by
 obtain⟨ec,eo⟩:=he.cells
 obtain⟨tc,to⟩:=hT.cells
 have RW:=qP (hE:=hE) (hL:=hL) R
 obtain⟨j,hj,hjC⟩:=RW.euler
 have hgm:(grE n E hE hL).m=E.length:=rfl
 have hgn:(grE n E hE hL).n=n:=rfl
 rw[hgm,hgn] at hj
 rw[hgm] at hjC
 have hF:=yS (hE:=hE) (hL:=hL) (h:=h.new (.cells [.int .i64 (n:Nat),ev] 2 false)) (he.ext (KH (ab _)) (ab _)) hm (hT.ext (KH (ab _))) R
 obtain⟨F,hFe⟩:∃ F,F=cls (2*E.length) (Ob (ph (rnx (grE n E hE hL) (ji T)) E.length)):=⟨_,rfl⟩
 rw[← hFe] at hj hF
 have hFle:F≤2*E.length:=by
  rw[hFe,← lstR_cls]; exact vA
 have hEm:Go.Pla.emp (ji T)=nM T n:=by rw[← R.len,FK]
 rw[hEm] at hj
 have hcl:cls n (comp (grE n E hE hL) E.length)=kw (comp (grE n E hE hL) E.length) n:=lstR_cls.symm
 rw[hcl] at hj
 have el:=he.len
 rw[ae] at el
 refine KK pf12 ?_
 refine ai (au (Mi0) ?_)
 have x0:Ext h.next h (h.new (.cells [.int .i64 (n:Nat),ev] 2 false)):=KH (ab _)
 have g0:(h.new (.cells [.int .i64 (n:Nat),ev] 2 false)).get h.next=some (.cells [.int .i64 (n:Nat),ev] 2 false):=by rw[AH.get_new,if_pos rfl]
 have n0:(h.new (.cells [.int .i64 (n:Nat),ev] 2 false)).next=h.next+1:=rfl
 generalize (h.new (.cells [.int .i64 (n:Nat),ev] 2 false))=h1 at *
 have rA:ak h1 h.next 0 2=some [.int .i64 (n:Nat),ev]:=by rw[aW g0]; rfl
 refine ai (bU (bu 2 (Mi1 rA) rfl (Zi1 rA) (Mi1 rA) (hF) λfv h2 hq=>?_))
 obtain⟨hfl,x2⟩:=hq
 have X2:Ext h.next h h2:=x0.trans (x2.mono om)
 have g2:h2.get h.next=some (.cells [.int .i64 (n:Nat),ev] 2 false):=by rw[x2.gt _ om]; exact g0
 have n2:=x2.nx
 refine gv (λts h'=>h'=h2∧aN ts 1=tv∧aN ts 2=.ptr h.next 0∧aN ts 5=.int .i64 (F:Nat)) (Zi1 hfl) ?_
 rintro ts h2' ⟨rfl,e1,e2,e5⟩
 refine ai (au (M0) ?_)
 have kn:(h2'.keep 1).next=h2'.next+1:=AH.keep_next 1 h2'
 have kg:∀ c,(h2'.keep 1).get c=if h2'.next≤c∧c<h2'.next+1 then some .resv else h2'.get c:=λc=>AH.keep_get 1 h2'
 have k2:(h2'.keep 1).get h.next=some (.cells [.int .i64 (n:Nat),ev] 2 false):=by rw[kg,if_neg om]; exact g2
 have q0:(h2'.keep 1).get h2'.next=some .resv:=by rw[kg,if_pos ⟨om,om⟩]
 have rk:ak (h2'.keep 1) h.next 0 2=some [.int .i64 (n:Nat),ev]:=by rw[aW k2]; rfl
 have rk0:ak (h2'.keep 1) h.next 0 1=some [.int .i64 (n:Nat)]:=br k2 rfl
 have mv:=mB (z:=[.bool false]) (bytes:=1) (n:=n) (by unfold aU; omega) (by unfold aU; omega)
 have u3:=KJ (o:=.cells (cI [.bool false] n) 1 false) q0
 obtain⟨m3,hm3⟩:∃ m,m=(h2'.keep 1).put h2'.next (.cells (cI [.bool false] n) 1 false):=⟨_,rfl⟩
 rw[← hm3] at u3
 have y3:Ext h2'.next h2' m3:=⟨by rw[u3.nx,kn]; omega,λc hc=>by rw[u3.ne om,kg,if_neg om],λc hc=>by rw[u3.ty]; exact KF 1 h2'⟩
 have gm:m3.get h2'.next=some (.cells (bl n λ_=>false) 1 false):=by rw[u3.get,mX]
 have Y3:Ext h.next h m3:=X2.trans (y3.mono om)
 have hpt:=BV (o:=λ_=>false) (he.ext Y3 (ab _)) hE om om gm
 unfold gW at hpt
 refine ai (lV (bu 4 (by simp only[am,aH,simprocAttr,e1,e2,e5,rk,rk0,dX,gY q0,mv,aG,← hm3]<;>rfl) rfl (by simp only[am,aH,simprocAttr,e1,e2,e5,rk,rk0,dX,gY q0,mv,aG,← hm3]) (by simp only[am,aH,simprocAttr,e1,e2,e5,rk,rk0,dX,gY q0,mv,aG,← hm3]<;>rfl) (hpt) λpv h4 hq=>?_))
 obtain⟨x4,i4⟩:=hq
 refine gv (λts h'=>h'=h4∧aN ts 1=tv∧aN ts 2=.ptr h.next 0∧aN ts 5=.int .i64 (F:Nat)∧aN ts 6=.int .i64 0∧aN ts 7=pv) (Z3 e1 e2 e5) ?_
 clear e1 e2 e5
 rintro ts h4' ⟨rfl,e1,e2,e5,e6,e7⟩
 have X4:Ext h.next h h4':=Y3.trans (x4.mono (by have:=Y3.nx; omega))
 have g4:h4'.get h.next=some (.cells [.int .i64 (n:Nat),ev] 2 false):=by rw[x4.gt _ (by have:=y3.nx; omega),y3.gt _ om]; exact g2
 have s4:SlI h4' pv ((List.range n).map (me n E λ_=>false)):=KE om (λ_=>rfl) i4
 have rN:ak h4' h.next 0 1=some [.int .i64 (n:Nat)]:=br g4 rfl
 have rE:ak h4' h.next 1 1=some [ev]:=br g4 rfl
 have hTl:=R.len
 obtain⟨Q,hQ⟩:∃ Q,Q=comp (grE n E hE hL) E.length:=⟨_,rfl⟩
 have hself:∀ {x:Nat},x<n→(me n E (λ_=>false) x=((x:Nat):Int)↔∀ y,y<x→¬ Q y x):=λhx=>by rw[hQ]; exact ze hx
 rw[← hQ] at hj
 refine ai (ju (λts h'=>h'=h4'∧aN ts 2=.ptr h.next 0∧aN ts 5=.int .i64 (F+nM T n:Nat)∧aN ts 6=.int .i64 (kw Q n:Nat)) ?_ ?_)
 ·refine ai (au (M0) ?_)
  refine fN (α:=Unit) (N:=n) (λx _=>[(1,tv),(2,.ptr h.next 0),(5,.int .i64 (F+nM T x:Nat)),(6,.int .i64 (kw Q x:Nat)),(7,pv),(8,.int .i64 (x:Nat))])
   (λx _ h'=>h'=h4') () (by simp only[hl,am,aH,simprocAttr,e1,e2,e5,e6,e7,bg,cZ,show nM T 0=0 from rfl,show kw Q 0=0 from rfl]) rfl ?_ ?_ ?_
  ·clear e1 e2 e5 e6 e7
   rintro x _ ts h5 hx rfl ⟨e1,e2,e5,e6,e7,e8,-⟩
   simp only at e1 e2 e5 e6 e7 e8
   exact⟨_,(M4 e2 e8 rN @cx),Z0,H6 e1 e2 e5 e6 e7 e8⟩
  ·clear e1 e2 e5 e6 e7
   rintro x _ ts h5 hx rfl ⟨e1,e2,e5,e6,e7,e8,-⟩
   simp only at e1 e2 e5 e6 e7 e8
   have wx:IntKind.i64.wrap (((x:Nat):Int)+1)=((x+1:Nat):Int):=et om om
   have hle1:=@AZ T x
   have hle2:=@vA Q x
   have w5:IntKind.i64.wrap (((F+nM T x:Nat):Int)+1)=((F+(nM T x+1):Nat):Int):=et om om
   have w6:IntKind.i64.wrap (((kw Q x:Nat):Int)+1)=((kw Q x+1:Nat):Int):=et om om
   obtain⟨pb,pp,a9,r9,_⟩:=s4.at1 (i:=x) (y:=.int .i64 (me n E (λ_=>false) x)) (by rw[aF,aF,fq hx]; rfl)
   have hxT:x<T.length:=om
   obtain⟨tb,tp,w,a2,r2,i2,_⟩:=(hT.ext X4).at hxT
   have lw:=i2.len
   rw[ae] at lw
   have sQ:=@Cr Q x
   have sE:=@CJ T x
   rw[fM hxT] at sE
   refine ai (ju (λts h'=>h'=h5∧aN ts 1=tv∧aN ts 2=.ptr h.next 0∧aN ts 5=.int .i64 (F+nM T x:Nat)∧aN ts 6=.int .i64 (kw Q (x+1):Nat)∧aN ts 7=pv∧aN ts 8=.int .i64 (x:Nat)) ?_ ?_)
   ·by_cases q:me n E (λ_=>false) x=((x:Nat):Int)
    ·rw[if_pos ((hself hx).1 q)] at sQ
     have d1:decide (me n E (λ_=>false) x=((x:Nat):Int))=true:=aM q
     refine ai (au (M5 e7 e8 a9 r9 d1) ?_)
     refine cE (Z0) (au (M2 e6 w6) ?_)
     exact⟨rfl,Z1 e1,Z1 e2,Z1 e5,Z1 sQ,Z1 e7,Z1 e8⟩
    ·rw[if_neg (λz=>q ((hself hx).2 z)),cZ] at sQ
     have d1:decide (me n E (λ_=>false) x=((x:Nat):Int))=false:=aK q
     refine ai (au (M5 e7 e8 a9 r9 d1) ?_)
     refine dn (Z0) (bH ?_)
     exact⟨rfl,Z1 e1,Z1 e2,Z1 e5,Z2 e6 sQ,Z1 e7,Z1 e8⟩
   clear e1 e2 e5 e6 e7 e8
   rintro ts h6 ⟨rfl,e1,e2,e5,e6,e7,e8⟩
   by_cases q:T[x].length=0
   ·rw[if_pos q] at sE
    have d1:decide (((T[x].length:Nat):Int)=0)=true:=aM om
    refine ai (au (M6 e1 e8 a2 r2 lw d1) ?_)
    refine cE (Z0) (au (M2 e5 w5) ?_)
    exact⟨(),rfl,_,(M2 e8 wx),H5 e1 e2 e6 e7 sE⟩
   ·rw[if_neg q,cZ] at sE
    have d1:decide (((T[x].length:Nat):Int)=0)=false:=aK om
    refine ai (au (M6 e1 e8 a2 r2 lw d1) ?_)
    refine dn (Z0) (bH ?_)
    exact⟨(),rfl,_,(M2 e8 wx),H6 e1 e2 e5 e6 e7 sE⟩
  ·clear e1 e2 e5 e6 e7
   rintro _ ts h5 rfl ⟨e1,e2,e5,e6,e7,e8,-⟩
   exact⟨rfl,e2,e5,e6⟩
 clear e1 e2 e5 e6 e7
 rintro ts h5 ⟨rfl,e2,e5,e6⟩
 have hle1:=@AZ T n
 have hle2:=@vA Q n
 have wa:IntKind.i64.wrap (2*((kw Q n:Nat):Int))=2*((kw Q n:Nat):Int):=et om om
 have wb:IntKind.i64.wrap (2*((kw Q n:Nat):Int)-((n:Nat):Int))=2*((kw Q n:Nat):Int)-((n:Nat):Int):=et om om
 have wc:IntKind.i64.wrap (2*((kw Q n:Nat):Int)-((n:Nat):Int)+((E.length:Nat):Int))=2*((kw Q n:Nat):Int)-((n:Nat):Int)+((E.length:Nat):Int):=et om om
 have wd:IntKind.i64.wrap (2*((kw Q n:Nat):Int)-((n:Nat):Int)+((E.length:Nat):Int)-((F+nM T n:Nat):Int))=((2*j:Nat):Int):=by
  rw[et om om]; omega
 have we:=quo2 (k:=2*j) om
 have h2j:2*j / 2=j:=om
 rw[h2j] at we
 refine ai (au (M12 e2 e5 e6 rN rE el wa wb wc wd @lA we) ?_)
 exact bM ⟨_,(by simp only[rs,rf12,am,aH,simprocAttr]<;>rfl),j,rfl,hjC,X4⟩
end
end Go.Proofs.Ytpeemonpdlifbaa
