/- graph.View.cycle -/
import Derived.Test.YtahepnbflofndaaGreatDoorJLc
import Derived.Test.YtahepnbflofndaaGreatDoorJLd
set_option linter.all false
namespace Go.Proofs.YtahepnbflofndaaGreatDoor
open Go.Am Go.Sort
theorem gcycle1_ok {h:AH}{x:Int}:C prg 110 [.int .i64 x] h λr h'=>r=.bool (decide (0<x))∧h'=h:=by
 refine HH pf110 ?_
 refine ab (ah (Mi0) ?_)
 refine ab (ah (Mi0) ?_)
 exact bt ⟨_,(by simp only[rs,rf110,am,aD,simprocAttr]<;>rfl),rfl,rfl⟩
theorem tS {xs:List Int}{y:Int}:xs.any (y==·)=decide (y∈xs):=by
 rw[dg]
 simp
theorem qh {xs:List Int}{y:Int} (h:y∈xs):∃ k,dK (y==·) xs 0=((k:Nat):Int)∧k<xs.length:=by
 have h1:=(kD (y==·) xs 0)
 have h2:0≤dK (y==·) xs 0:=by
  have:xs.any (y==·)=true:=by rw[tS]; simpa using h
  by_cases q:dK (y==·) xs 0<0
  ·rw[h1.2.1 q] at this; cases this
  ·omega
 obtain⟨k,h3,h4,_⟩:=jV _ _ _ h2
 exact⟨k,by simpa using h3,h4⟩
theorem Hp {h:AH}{vp:AV}{n:Nat}{es:List (Int×Int)} (hv:IsView h vp n es) :
 C prg 62 [vp] h λr h'=>∃ xs:List Int,SlI h' r xs∧(xs=[]↔Acy es)∧Ext h.next h h':=by
 have hv0:=hv
 obtain⟨b,ev,os,is,ob,ib,rfl,g1,g2,g3,g4,g5,g6,g7,g8,m1,m2,m3,m4⟩:=hv
 refine HH pf62 ?_
 refine ab (ah (Mi0) ?_)
 refine ab (aX (aP 1 (Mi0) rfl (Zi0) (Mi0) (FG hv0) λr h1 hq=>?_))
 obtain⟨a,w,out,ws,rfl,iw,k,hz,x1⟩:=hq
 refine aW (M0) ?_
 have hw:SlI h1 w ws:=HB om (λ_=>rfl) iw
 refine ab (aX (aP 1 (M1 @jj) rfl (Z1 @jj) (M1 @jj) (Da (P:=λx=>decide (0<x)) (caps:=[]) hw (by rw[k.len]; omega) (λx _ h' _=>by rw[bU]; exact gcycle1_ok.mono λr h2 hq=>⟨hq.1,by rw[hq.2]; exact HE⟩)) λr h2 hq=>?_))
 obtain⟨rfl,x2⟩:=hq
 refine aW (M0) ?_
 have hacy:=k.acy m4 hz
 by_cases q:dK (λx=>decide (0<x)) ws 0<0
 ·have hle:=qg _ _ _ q
  have ha:Acy es:=hacy.1 λv hv=>by
   have:=hle (ws[v]'(by rw[k.len]; exact hv)) (bq _)
   rw[aL,aw (by rw[k.len]; exact hv),dh]
   simpa using this
  have c1:decide (0≤dK (λx=>decide (0<x)) ws 0)=false:=aG om
  have c2:decide (dK (λx=>decide (0<x)) ws 0<0)=true:=aI q
  refine ab (ah (M0) ?_)
  refine ab (cZ (λts h3=>h3=h2∧aB ts 5=.int .i64 (dK (λx=>decide (0<x)) ws 0)) (aU (cf (λn ts h3=>h3=h2∧aB ts 5=.int .i64 (dK (λx=>decide (0<x)) ws 0)) ?_ (n:=0) ⟨rfl,Z0⟩)) ?_)
  ·rintro n ts h3 ⟨rfl,e5⟩
   refine ab (ab (aX (dF 5 (M2 e5 c1) rfl (Z0) ?_)))
   refine aW (M0) ?_
   refine cU (Z0) ?_
   exact bM ⟨λ_=>⟨rfl,Z1 e5⟩,λe=>absurd rfl e⟩
  ·rintro ts h3 ⟨rfl,e5⟩
   refine ab (ab (ah (M2 e5 c2) ?_))
   refine dv (Z0) (ab (ah (M0) ?_))
   exact bt ⟨.nils,(by simp only[rs,rf62,am,aD,simprocAttr]<;>rfl),[],.inl ⟨rfl,.inl rfl⟩,⟨λ_=>ha,λ_=>rfl⟩,x1.trans (x2.mono x1.nx)⟩
 ·obtain⟨z0,hz0,hz1,hz2⟩:=jV _ _ _ (show 0≤dK (λx=>decide (0<x)) ws 0 by omega)
  rw[bO] at hz0
  have hz2:0<ws.getD z0 0:=by
   rw[aL,aw hz1,dh]
   simpa using hz2
  have hzn:z0<n:=by rw[← k.len]; exact hz1
  have hna:¬ Acy es:=λha=>by have:=hacy.2 ha z0 hzn; omega
  rw[hz0]
  have w1:IsSl h2 1 h.next w (ws.flatMap eI):=iw.ext x2 (ae _)
  refine ab (ah (M0) ?_)
  have X2:Ext h.next h h2:=x1.trans (x2.mono x1.nx)
  refine ab (cZ (λts h3=>∃ (way:List Int) (z:Nat) (a:AV),((z:Nat):Int)∈way∧IsSl h3 1 h2.next a (way.flatMap eI)∧way.length≤n∧Ext h.next h h3∧h2.next≤h3.next∧aB ts 5=.int .i64 (z:Nat)∧aB ts 6=a)
   (aU (cf (λm ts h3=>∃ (way:List Int) (z:Nat) (a:AV),m=n-way.length∧z<n∧0<ws.getD z 0∧way.Nodup∧(∀ y∈way,0≤y∧y<n)∧IsSl h3 1 h2.next a (way.flatMap eI)∧Ext h.next h h3∧Ext h2.next h2 h3∧Held [(0,.ptr b 0),(4,w),(5,.int .i64 (z:Nat)),(6,a)] ts) ?_ (n:=n)
    ⟨[],z0,.nils,rfl,hzn,hz2,by simp,by simp,.inl ⟨rfl,rfl⟩,X2,HE,Hi0⟩)) ?_)
  ·rintro m ts h3 ⟨way,z,a,rfl,zn,zp,nd,hrg,ia,x3,x3',e0,e4,e5,e6,-⟩
   simp only at e0 e4 e5 e6
   have hwl:way.length≤n:=by
    have h1:way ⊆ (List.range n).map λx=>((x:Nat):Int):=λv hv=>by
     have:=hrg v hv
     exact bJ.2 ⟨v.toNat,bz.2 om,om⟩
    have:=nd.length_le_of_subset h1
    simpa using this
   have c1:decide (0≤((z:Nat):Int))=true:=aI om
   have hway:SlI h3 a way:=HB om (λ_=>rfl) ia
   refine ab (ab (aX (aP 5 (M3 e5 e6 c1) rfl (Z3 e5 e6 c1) (M3 e5 e6 c1) (DF (y:=((z:Nat):Int)) hway om) λr h4 hq=>?_)))
   obtain⟨rfl,x4⟩:=hq
   rw[tS]
   refine aW (M0) ?_
   by_cases hm:((z:Nat):Int)∈way
   ·have c2:decide (((z:Nat):Int)∈way)=true:=aI hm
    refine cU (Z1 c2) ?_
    have n4:=x4.nx
    have n3:=x3'.nx
    exact bM ⟨λ_=>⟨way,z,a,hm,ia.ext x4 (ae _),hwl,x3.trans (x4.mono x3.nx),om,Z1 e5,Z1 e6⟩,λe=>absurd rfl e⟩
   ·have c2:decide (((z:Nat):Int)∈way)=false:=aG hm
    refine dv (Z1 c2) (aN (aU ?_))
    have n4:=x4.nx
    have n3:=x3'.nx
    obtain⟨s',h5,a1,i5,x5,n5⟩:=(ia.ext x4 (ae _)).push (bytes:=8) (eI ((z:Nat):Int)) om om rfl rfl (by rw[dQ]; unfold bd; omega) (by rw[dQ]; unfold bd; omega)
    rw[show eI ((z:Nat):Int)=[.int .i64 ((z:Nat):Int)] from rfl] at a1 i5
    refine ab (ah (M3 e5 e6 a1) ?_)
    refine ab (ah (M0) ?_)
    have X5:Ext h.next h h5:=x3.trans ((x4.mono x3.nx).trans (x5.mono (by have:=X2.nx; omega)))
    have X5':Ext h2.next h2 h5:=x3'.trans ((x4.mono n3).trans x5)
    have r1:ar h5 b 3 1=some [.sl ib 0 n n]:=bB (by rw[X5.gt _ (AH.lt_of_get g1)]; exact g1) rfl
    have rz:ar h5 ib z 1=some [is[z]'om]:=bB (by rw[X5.gt _ (AH.lt_of_get g4)]; exact g4) (aw _)
    have iz:bN ((z:Nat):Int) n=some z:=aO zn
    have si:=(g8 z _ (aw (show z<is.length by omega))).ext X5 (ae _)
    have li:=si.len
    rw[au] at li
    have hll:(eW es ((z:Nat):Int)).length≤128:=bS (gR _ _ _) m3
    have sw:SlI h5 w ws:=hw.ext (x2.trans (X5'.mono x2.nx)) (ae _)
    have se:=g2.ext X5 (ae _)
    have rv:ar h5 b 1 1=some [ev]:=bB (by rw[X5.gt _ (AH.lt_of_get g1)]; exact g1) rfl
    refine ab (ab (ah (M7 e0 e5 r1 iz @ai rz li) ?_))
    refine hU (α:=Int) (N:=(eW es ((z:Nat):Int)).length) (λ_ a'=>[(37,is[z]'om),(0,.ptr b 0),(4,w),(6,s'),(7,.int .i64 a')])
     (λk a' h'=>h'=h5∧-1≤a'∧(0≤a'→a'.toNat<n∧0<ws.getD a'.toNat 0)∧∀ i∈(eW es ((z:Nat):Int)).take k,0<ws.getD ((es[i.toNat]?).getD (0,0)).1.toNat 0→0≤a') (-1) (λ_ _=>rfl) om (H2 e0 e4) ⟨rfl,om,om,by simp⟩ ?_ ?_
    ·clear e0 e4 e5 e6
     rintro j a' ts h6 hj ⟨rfl,j2,j3,j4⟩ ⟨ei,en,e37,e0,e4,e6,e7,-⟩
     simp only at ei en e37 e0 e4 e6 e7
     obtain⟨jb,jp,a6,r6,_⟩:=si.at1 (cF (f:=eI) hj)
     obtain⟨ed,hed1,hed2,ed',hed3,hed4⟩:=kF (λe=>decide (e.2=((z:Nat):Int))) es 0 _ (bq hj)
     rw[bO] at hed1
     have hed1:(eW es ((z:Nat):Int))[j]=((ed:Nat):Int):=hed1
     rw[hed1] at r6
     obtain⟨ea,eb,eab,hea,heb⟩:=lR (bA.1 m4 _ (bq hed2))
     obtain⟨eb1,ep,a7,_,r7,_⟩:=se.at (cF (f:=eE) hed2)
     have r7:=r7 0 (.int .i64 ((ea:Nat):Int)) (by rw[eab]; rfl)
     rw[dC] at r7
     obtain⟨wb1,wp,a8,r8,_⟩:=sw.at1 (cF (f:=eI) (show ea<ws.length by rw[k.len]; exact hea))
     have hgd:ws.getD ea 0=ws[ea]'(by rw[k.len]; exact hea):=by rw[aL,aw (by rw[k.len]; exact hea),dh]
     have hnew:(es[((eW es ((z:Nat):Int))[j]).toNat]?).getD (0,0)=(((ea:Nat):Int),((eb:Nat):Int)):=by
      rw[hed1,bK,aw hed2,dh,eab]
     refine ab (ah (M4 e37 ei a6 r6) ?_)
     refine ab (ah (M4 e0 rv a7 r7) ?_)
     have mem_succ:∀ i,i∈(eW es ((z:Nat):Int)).take (j+1)→i∈(eW es ((z:Nat):Int)).take j∨i=(eW es ((z:Nat):Int))[j]:=λi hi=>by
      rw[aK hj,aQ] at hi
      rcases hi with hi|hi
      ·exact .inl hi
      ·exact .inr (by simpa using hi)
     have hno:¬ 0<ws.getD ea 0→∀ i∈(eW es ((z:Nat):Int)).take (j+1),0<ws.getD ((es[i.toNat]?).getD (0,0)).1.toNat 0→0≤a':=λhn i hi hp=>by
      rcases mem_succ i hi with hi|rfl
      ·exact j4 i hi hp
      ·rw[hnew] at hp
       exact absurd (by simpa using hp) hn
     have hge:0≤a'→∀ i∈(eW es ((z:Nat):Int)).take (j+1),0<ws.getD ((es[i.toNat]?).getD (0,0)).1.toNat 0→0≤a':=λh0 _ _ _=>h0
     by_cases c1:0<ws[ea]'(by rw[k.len]; exact hea)
     ·have d1:decide (0<ws[ea]'(by rw[k.len]; exact hea))=true:=aI c1
      have set:∀ a'',a''=((ea:Nat):Int)→(h6=h6∧-1≤a''∧(0≤a''→a''.toNat<n∧0<ws.getD a''.toNat 0)∧∀ i∈(eW es ((z:Nat):Int)).take (j+1),0<ws.getD ((es[i.toNat]?).getD (0,0)).1.toNat 0→0≤a''):=by
       rintro _ rfl
       exact⟨rfl,om,λ_=>⟨om,by rw[bK,hgd]; exact c1⟩,λ_ _ _=>by omega⟩
      by_cases c2:a'<0
      ·have d2:decide (a'<0)=true:=aI c2
       refine ab (ah (M6 e4 e7 a8 r8 d1 d2) ?_)
       refine dv (Z0) ?_
       refine ah (M0) ?_
       exact⟨_,set _ rfl,H6 ei en e37 e0 e4 e6⟩
      ·have d2:decide (a'<0)=false:=aG c2
       by_cases c3:((ea:Nat):Int)<a'
       ·have d3:decide (((ea:Nat):Int)<a')=true:=aI c3
        refine ab (ah (M7 e4 e7 a8 r8 d1 d2 d3) ?_)
        refine dv (Z0) ?_
        refine ah (M0) ?_
        exact⟨_,set _ rfl,H6 ei en e37 e0 e4 e6⟩
       ·have d3:decide (((ea:Nat):Int)<a')=false:=aG c3
        refine ab (ah (M7 e4 e7 a8 r8 d1 d2 d3) ?_)
        refine cU (Z0) ?_
        exact aN ⟨a',⟨rfl,j2,j3,hge om⟩,H7 ei en e37 e0 e4 e6 e7⟩
     ·have d1:decide (0<ws[ea]'(by rw[k.len]; exact hea))=false:=aG c1
      refine ab (ah (M5 e4 e7 a8 r8 d1) ?_)
      refine cU (Z0) ?_
      exact aN ⟨a',⟨rfl,j2,j3,hno (by rw[hgd]; exact c1)⟩,H7 ei en e37 e0 e4 e6 e7⟩
    ·clear e0 e4 e5 e6
     rintro a' ts h6 ⟨rfl,j2,j3,j4⟩ ⟨e37,e0,e4,e6,e7,-⟩
     simp only at e37 e0 e4 e6 e7
     rw[bp] at j4
     obtain⟨e,hee,he1,he2⟩:=k.back m4 hz zn zp
     have hpos:0≤a':=by
      have hin:e∈(eW es ((z:Nat):Int)).map (λi=>(es[i.toNat]?).getD (0,0)):=by
       have:=mD (λe=>decide (e.2=((z:Nat):Int))) es []
       simp only[bh,df] at this
       unfold eW
       rw[this,bH]
       exact⟨hee,by simpa using he1⟩
      obtain⟨i,hi,rfl⟩:=bJ.1 hin
      exact j4 i hi he2
     obtain⟨z',rfl⟩:∃ z':Nat,a'=z':=⟨a'.toNat,om⟩
     obtain⟨j5,j6⟩:=j3 hpos
     rw[bK] at j5 j6
     refine ah (M1 e7) ?_
     have nd':(way++[((z:Nat):Int)]).Nodup:=by
      rw[bX]
      refine⟨nd,by simp,λx hx y hy=>?_⟩
      simp only[aC,bj,or_false] at hy
      subst hy
      exact λe=>hm (e▸hx)
     have hrg':∀ y∈way++[((z:Nat):Int)],0≤y∧y<n:=λy hy=>by
      rw[aQ] at hy
      rcases hy with hy|hy
      ·exact hrg y hy
      ·simp only[aC,bj,or_false] at hy; omega
     have hwl':(way++[((z:Nat):Int)]).length≤n:=by
      have h1:(way++[((z:Nat):Int)]) ⊆ (List.range n).map λx=>((x:Nat):Int):=λv hv=>by
       have:=hrg' v hv
       exact bJ.2 ⟨v.toNat,bz.2 om,om⟩
      have:=nd'.length_le_of_subset h1
      simpa using this
     refine⟨n-(way++[((z:Nat):Int)]).length,by simp only[aM,aV,bh] at hwl' ⊢; omega,way++[((z:Nat):Int)],z',s',rfl,j5,j6,nd',hrg',by rw[bQ]; exact i5,X5,X5',H3 e0 e4 e6⟩
  ·rintro ts h3 ⟨way,z,a,hm,ia,hwl,x3,n3,e5,e6⟩
   have c1:decide (((z:Nat):Int)<0)=false:=aG om
   refine ab (ab (ah (M2 e5 c1) ?_))
   refine cU (Z0) (aN ?_)
   have sa:SlI h3 a way:=HB om (λ_=>rfl) ia
   obtain⟨k0,hk0,hk1⟩:=qh hm
   rcases ia with ⟨rfl,hnil⟩|⟨wb,L,hwb,rfl,gw,hL⟩
   ·have h0:=congrArg List.length hnil
    rw[dQ,bh] at h0
    omega
   have hLn:L=way.length:=by rw[dQ] at hL; omega
   subst hLn
   refine ab (aX (aP 3 (M2 e5 e6) rfl (Z2 e5 e6) (M2 e5 e6) (mZ (y:=((z:Nat):Int)) sa om) λr h4 hq=>?_))
   obtain⟨rfl,x4⟩:=hq
   rw[hk0]
   have gw4:h4.get wb=some (.cells (way.flatMap eI) 1 false):=by rw[x4.gt _ (AH.lt_of_get gw)]; exact gw
   have s1:=Bk gw4 hk1 (ae _) (qJ hk1)
   rw[ai] at s1
   refine aW (by simp only[am,aD,simprocAttr,eJ,cu,e6,s1]<;>rfl) ?_
   have hds:(way.drop k0).toArray.size=way.length-k0:=by simp
   have gb:h4.get wb=some (cT (way.flatMap eI) k0 (way.drop k0).toArray):=by
    rw[gw4]
    unfold cT
    congr 2
    refine (jt (by rw[fw,hds,dQ]; omega) ?_).symm
    rw[← jU,dQ,dj,lS,lS,oh,ew (by rw[dj,au]; omega)]
   have hrv:=wJ (c:=way.length-k0) gb (by rw[hds,dQ]; omega) (by rw[hds]; omega)
   rw[hds] at hrv
   refine ab (aX (aP 1 (M0) rfl (Z0) (M0) (hrv) λr h5 u5=>?_))
   refine aW (M0) ?_
   have s5:=Ht (c:=way.length-k0) u5.get (by rw[xX,hds,dQ]; omega) (by rw[xX,hds]; omega)
   rw[xX,hds] at s5
   have hl5:(way.drop k0).toArray.reverse.toList.length=way.length-k0:=by simp
   have n4:=x4.nx
   have n5:=u5.nx
   generalize (way.drop k0).toArray.reverse.toList=rl at *
   refine ab (aX (aP 2 (M0) rfl (Z0) (M0) (Fp s5 om om) λr h6 hq=>?_))
   obtain⟨mi,rfl,hmi,_,rfl⟩:=hq
   obtain⟨j0,hj0,hj1⟩:=qh hmi
   refine kU (Z0) (M0) (mZ (y:=mi) s5 om) λr h7 hq=>?_
   obtain⟨rfl,x7⟩:=hq
   rw[hj0]
   refine aW (M0) ?_
   have s7:=s5.ext x7 (ae _)
   have n7:=x7.nx
   have kg:∀ c,c<h7.next→(h7.keep 1).get c=h7.get c:=λc hc=>by rw[AH.keep_get,if_neg om]
   have q7:(h7.keep 1).get h7.next=some .resv:=fX
   have hwb7:wb<h7.next:=by have:=AH.lt_of_get gw4; omega
   have s8:SlI (h7.keep 1) (.sl wb k0 (way.length-k0) (way.length-k0)) rl:=s7.cong λb' o' n' c' e=>kg _ (s7.lt e)
   obtain⟨v1,f1,t1,t1b,_⟩:=s8.from (lo:=j0) (by rw[au]; omega)
   obtain⟨v2,f2,t2,t2b,_⟩:=s8.upto (hi:=j0) (by rw[au]; omega)
   have cl1:=t1.cells
   have cl2:=t2.cells
   obtain⟨p1,p2,p3,p4⟩:=gO (h:=h7) (o:=.cells [v1,v2] 1 false)
   have kgp:∀ c,c<h7.next→((h7.keep 1).put h7.next (.cells [v1,v2] 1 false)).get c=(h7.keep 1).get c:=λc hc=>by rw[p4 c hc,kg c hc]
   have hcat:=xw (h:=(h7.keep 1).put h7.next (.cells [v1,v2] 1 false)) (v:=.sl h7.next 0 2 2) (vs:=[v1,v2]) (xss:=[rl.drop j0,rl.take j0]) (Sl.row p2 rfl (ae _)) rfl (λi w xs hw hx=>?_) (by simp) (by simp only[gC,hX,bU,aM,dj,aZ]; omega)
   rotate_left
   ·match i with
    | 0 =>
      simp only[cj,aa] at hw hx
      subst hw hx
      rw[← oh] at t1
      exact t1.cong λb' o' n' c' e=>kgp _ (by
       have:=t1b (λb=>b<h7.next) hwb7
       rw[e] at this
       exact this)
    | 1 =>
      simp only[eN,cj,aa] at hw hx
      subst hw hx
      rw[← od] at t2
      exact t2.cong λb' o' n' c' e=>kgp _ (by
       have:=t2b (λb=>b<h7.next) hwb7
       rw[e] at this
       exact this)
    | i+2=>simp at hw
   refine ab (qH (aP 7 (by simp only[am,aD,simprocAttr,eJ,cu,f1,f2,fc,eS q7,cl1.1,cl2.1]<;>rfl) rfl (by simp only[am,aD,simprocAttr,eJ,cu,f1,f2,fc,eS q7,cl1.1,cl2.1]) (by simp only[am,aD,simprocAttr,eJ,cu,f1,f2,fc,eS q7,cl1.1,cl2.1]<;>rfl) (hcat) λr h8 hq=>?_))
   obtain⟨i8,x8⟩:=hq
   refine aW (M0) ?_
   refine bt ⟨r,(by simp only[rs,rf62,am,aD,simprocAttr]<;>rfl),_,HB om (λ_=>rfl) i8,⟨λe=>?_,λe=>absurd e hna⟩,?_⟩
   ·exfalso
    have:=congrArg List.length e
    simp only[gC,hX,bU,aM,dj,aZ,bh] at this
    omega
   ·have:=X2.nx
    exact x3.trans ((x4.mono om).trans ((u5.ext om).trans ((x7.mono om).trans ((p1.mono om).trans (x8.mono om)))))
open Go.Am
def jr (n:Int) (es:List (Int×Int)):Prop:=eV n es=true∧(∀ e∈es,e.1≠e.2)∧es.Nodup∧Acy es∧(iR n.toNat es).length≤1
theorem xl {h:AH}{x:Int×Int}:C prg 59 [.agg (eE x)] h λr h'=>r=.bool (decide (x.1=x.2))∧Ext h.next h h':=by
 refine HH pf59 ?_
 refine ab (ah (by simp only[am,aD,simprocAttr,bL,eE]<;>rfl) ?_)
 have ex:Ext h.next h (h.new (.cells [.int .i64 x.1,.int .i64 x.2] 2 false)):=HD (ae _)
 have g:(h.new (.cells [.int .i64 x.1,.int .i64 x.2] 2 false)).get h.next=some (.cells [.int .i64 x.1,.int .i64 x.2] 2 false):=by rw[AH.get_new,if_pos rfl]
 generalize h.new (.cells [.int .i64 x.1,.int .i64 x.2] 2 false)=h1 at *
 have r1:ar h1 h.next 0 1=some [.int .i64 x.1]:=bB g rfl
 have r2:ar h1 h.next 1 1=some [.int .i64 x.2]:=bB g rfl
 refine ab (ah (M2 r1 r2) ?_)
 exact bt ⟨_,(by simp only[rs,rf59,am,aD,simprocAttr]<;>rfl),rfl,ex⟩
theorem vV {h:AH}{n:Int}{ev:AV}{es:List (Int×Int)} (he:SlE h ev es) (hl:es.length<2 ^ 30) :
 C prg 24 [.agg [.int .i64 n,ev]] h λr h'=>(∃ c a v,r=.agg [.int .i64 c,.int .i64 a,v]∧(c=0↔jr n es))∧Ext h.next h h':=by
 obtain⟨ec,eo⟩:=he.cells
 have hlen:=he.len
 rw[au] at hlen
 refine HH pf24 ?_
 have x0:Ext h.next h (h.new (.cells [.int .i64 n,ev] 2 false)):=HD (ae _)
 have g0:(h.new (.cells [.int .i64 n,ev] 2 false)).get h.next=some (.cells [.int .i64 n,ev] 2 false):=by rw[AH.get_new,if_pos rfl]
 have n0:(h.new (.cells [.int .i64 n,ev] 2 false)).next=h.next+1:=rfl
 refine ab (ah (Mi0) ?_)
 generalize h.new (.cells [.int .i64 n,ev] 2 false)=h0 at *
 rw[← n0]
 have x1:Ext h0.next h0 (h0.new (.cells [.int .i64 0,.int .i64 0,.nils] 3 false)):=HD (ae _)
 have f1:(h0.new (.cells [.int .i64 0,.int .i64 0,.nils] 3 false)).get h0.next=some (.cells [.int .i64 0,.int .i64 0,.nils] 3 false):=by rw[AH.get_new,if_pos rfl]
 have n1:(h0.new (.cells [.int .i64 0,.int .i64 0,.nils] 3 false)).next=h0.next+1:=rfl
 generalize h0.new (.cells [.int .i64 0,.int .i64 0,.nils] 3 false)=h1 at *
 have X1:Ext h.next h h1:=x0.trans (x1.mono om)
 have r0:ar h1 h.next 0 2=some [.int .i64 n,ev]:=by rw[aS (by rw[x1.gt _ om]; exact g0)]; rfl
 have hend:∀ (h':AH) (c a:Int) (v:AV),h'.get h0.next=some (.cells [.int .i64 0,.int .i64 0,.nils] 3 false)→Ext h.next h h'→(c=0↔jr n es)→∃ h'',bV h' h0.next 0 [.int .i64 c,.int .i64 a,v]=some h''∧ar h'' h0.next 0 3=some [.int .i64 c,.int .i64 a,v]∧(∃ c' a' w,AV.agg [.int .i64 c,.int .i64 a,v]=.agg [.int .i64 c',.int .i64 a',w]∧(c'=0↔jr n es))∧Ext h.next h h'':=by
  intro h' c a v hg hx hc
  refine⟨h'.put h0.next (.cells [.int .i64 c,.int .i64 a,v] 3 false),by rw[dI hg]; rfl,?_,⟨c,a,v,rfl,hc⟩,hx.trans ((HF hg).ext om)⟩
  rw[aS (HF hg).get]; rfl
 refine ab (ab (aX (aP 1 (M1 r0) rfl (Z1 r0) (M1 r0) (tw (he.ext X1 (ae _)) om) λr h2 hq=>?_)))
 obtain⟨rfl,x2⟩:=hq
 refine aW (M0) ?_
 have X2:=X1.trans (x2.mono X1.nx)
 have n2:=x2.nx
 have f2:h2.get h0.next=some (.cells [.int .i64 0,.int .i64 0,.nils] 3 false):=by rw[x2.gt _ om]; exact f1
 by_cases hm:eV n es=true
 case neg =>
  obtain⟨h3,w3,r3,hc,X3⟩:=hend h2 1 0 .nils f2 X2 ⟨λh=>om,λh=>absurd h.1 hm⟩
  simp only[ph] at hm
  rw[hm]
  refine dv (Z0) (ab (ah (M1 w3) ?_))
  exact bt ⟨_,(by simp only[rs,rf24,am,aD,simprocAttr,r3]<;>rfl),hc,X3⟩
 rw[hm]
 refine cU (Z0) (aN ?_)
 have g2:h2.get h.next=some (.cells [.int .i64 n,ev] 2 false):=by rw[x2.gt _ om,x1.gt _ om]; exact g0
 have r2:ar h2 h.next 1 1=some [ev]:=bB g2 rfl
 refine ab (ab (aX (aP 2 (M2 r2 @jj) rfl (Z2 r2 @jj) (M2 r2 @jj) (vw (P:=λx=>decide (x.1=x.2)) (caps:=[]) (he.ext X2 (ae _)) om (λx _ h' _=>by rw[bU]; exact xl)) λr h3 hq=>?_)))
 obtain⟨rfl,x3⟩:=hq
 refine aW (M0) ?_
 have X3:=X2.trans (x3.mono X2.nx)
 have n3:=x3.nx
 have f3:h3.get h0.next=some (.cells [.int .i64 0,.int .i64 0,.nils] 3 false):=by rw[x3.gt _ om]; exact f2
 have g3:h3.get h.next=some (.cells [.int .i64 n,ev] 2 false):=by rw[x3.gt _ om]; exact g2
 refine ab (ah (M0) ?_)
 by_cases q:0≤dK (λx:Int×Int=>decide (x.1=x.2)) es 0
 ·have c1:decide (0≤dK (λx:Int×Int=>decide (x.1=x.2)) es 0)=true:=aI q
  obtain⟨kk,_,hk1,hk2⟩:=jV _ _ _ q
  obtain⟨h4,w4,r4,hc,X4⟩:=hend h3 13 (dK (λx:Int×Int=>decide (x.1=x.2)) es 0) .nils f3 X3 ⟨λh=>om,λh=>absurd (aF hk2) (h.2.1 _ (bq hk1))⟩
  refine dv (Z1 c1) (ab (ah (M1 w4) ?_))
  exact bt ⟨_,(by simp only[rs,rf24,am,aD,simprocAttr,r4]<;>rfl),hc,X4⟩
 have c1:decide (0≤dK (λx:Int×Int=>decide (x.1=x.2)) es 0)=false:=aG q
 have hloop:∀ e∈es,e.1≠e.2:=λe hee=>by
  have:=qg _ _ _ (show dK (λx:Int×Int=>decide (x.1=x.2)) es 0<0 by omega) e hee
  simpa using this
 refine cU (Z1 c1) (aN ?_)
 have r3:ar h3 h.next 1 1=some [ev]:=bB g3 rfl
 refine ab (ab (ab (ah (M2 r3 hlen) ?_)))
 refine hU (α:=Unit) (N:=es.length) (λ_ _=>[(1,.ptr h.next 0),(2,.ptr h0.next 0),(21,ev)])
  (λk _ h'=>h'.get h0.next=some (.cells [.int .i64 0,.int .i64 0,.nils] 3 false)∧h'.get h.next=some (.cells [.int .i64 n,ev] 2 false)∧(es.take k).Nodup∧Ext h.next h h'∧h3.next≤h'.next) () (λ_ _=>rfl) om (Oi0) ⟨f3,g3,by simp,X3,ae _⟩ ?_ ?_
 ·rintro k _ ts h4 hk ⟨j1,j2,j3,j4,j5⟩ ⟨ei,en,e1,e2,e21,-⟩
  simp only at ei en e1 e2 e21
  have se:=he.ext j4 (ae _)
  obtain⟨b1,p1,a1,r4,_⟩:=se.at (cF (f:=eE) hk)
  obtain⟨h6,w6,x6,g6,n6⟩:=ij (h:=h4) (z:=[.int .i64 0,.int .i64 0]) (cs:=[.int .i64 es[k].1,.int .i64 es[k].2]) (e:=2) rfl
  refine ab (ah (by simp only[am,aD,simprocAttr,e21,ei,a1,r4,eE,w6]<;>rfl) ?_)
  have X6:=j4.trans (x6.mono j4.nx)
  have f6:h6.get h0.next=some (.cells [.int .i64 0,.int .i64 0,.nils] 3 false):=by rw[x6.gt _ om]; exact j1
  have g6':h6.get h.next=some (.cells [.int .i64 n,ev] 2 false):=by rw[x6.gt _ om]; exact j2
  have r6:ar h6 h.next 1 1=some [ev]:=bB g6' rfl
  obtain⟨v',s1,s2,_⟩:=(he.ext X6 (ae _)).upto (hi:=k) (by rw[au]; omega)
  rw[← od] at s2
  have r7:ar h6 h4.next 0 2=some [.int .i64 es[k].1,.int .i64 es[k].2]:=by rw[aS g6]; rfl
  have hce:=DG (y:=es[k]) s2 (by rw[aZ]; omega)
  rw[show eE es[k]=[.int .i64 es[k].1,.int .i64 es[k].2] from rfl] at hce
  refine ab (aX (aP 5 (by simp only[am,aD,simprocAttr,e1,r6,eJ,cu,s1,r7]<;>rfl) rfl (by simp only[am,aD,simprocAttr,e1,r6,eJ,cu,s1,r7]) (by simp only[am,aD,simprocAttr,e1,r6,eJ,cu,s1,r7]<;>rfl) (hce) λr h7 hq=>?_))
  obtain⟨rfl,x7⟩:=hq
  refine aW (M0) ?_
  have X7:=X6.trans (x7.mono X6.nx)
  have f7:h7.get h0.next=some (.cells [.int .i64 0,.int .i64 0,.nils] 3 false):=by rw[x7.gt _ om]; exact f6
  have g7:h7.get h.next=some (.cells [.int .i64 n,ev] 2 false):=by rw[x7.gt _ om]; exact g6'
  cases hb:(es.take k).any (es[k]==·) with
  | true =>
    obtain⟨h8,w8,r8,hc,X8⟩:=hend h7 14 (k:Nat) .nils f7 X7 ⟨λh=>om,λh=>by
     exfalso
     rw[Eg] at hb
     obtain⟨y,hy,hye⟩:=hb
     rw[beq_iff_eq] at hye
     subst hye
     have:=h.2.2.1
     rw[← cn k es,bW hk,bX] at this
     exact this.2.2 _ hy _ (aY ..) rfl⟩
    refine dv (Z0) (ab (ah (M2 e2 w8) ?_))
    exact bt ⟨_,(by simp only[rs,rf24,am,aD,simprocAttr,e2,r8]<;>rfl),hc,X8⟩
  | false =>
    refine cU (I0) (aN ⟨(),⟨f7,g7,?_,X7,by have:=x7.nx; omega⟩,O5 ei en e1 e2 e21⟩)
    rw[aK hk,bX]
    refine⟨j3,by simp,λx hx y hy=>?_⟩
    simp only[aC,bj,or_false] at hy
    subst hy
    rw[AX] at hb
    intro e
    subst e
    have:=hb _ hx
    simp at this
 ·rintro _ ts h4 ⟨j1,j2,j3,j4,j5⟩ ⟨e1,e2,e21,-⟩
  simp only at e1 e2 e21
  rw[bp] at j3
  obtain⟨nn,rfl⟩:∃ nn:Nat,n=nn:=⟨n.toNat,by
   simp only[eV,aq,aj] at hm; omega⟩
  have r4:ar h4 h.next 0 2=some [.int .i64 (nn:Nat),ev]:=by rw[aS j2]; rfl
  refine ab (aX (aP 1 (M2 e1 r4) rfl (Z2 e1 r4) (M2 e1 r4) (Hl (he.ext j4 (ae _)) hm) λvp h5 hq=>?_))
  obtain⟨hv,x5⟩:=hq
  refine aW (M0) ?_
  have X5:=j4.trans (x5.mono j4.nx)
  have n5:=x5.nx
  have f5:h5.get h0.next=some (.cells [.int .i64 0,.int .i64 0,.nils] 3 false):=by rw[x5.gt _ om]; exact j1
  refine ab (ab (aX (aP 1 (M0) rfl (Z0) (M0) (Hp hv) λcv h6 hq=>?_)))
  obtain⟨xs,sx,hxa,x6⟩:=hq
  refine aW (M0) ?_
  have X6:=X5.trans (x6.mono X5.nx)
  have n6:=x6.nx
  have f6:h6.get h0.next=some (.cells [.int .i64 0,.int .i64 0,.nils] 3 false):=by rw[x6.gt _ om]; exact f5
  have lx:=sx.len
  rw[au] at lx
  obtain⟨sc,so⟩:=sx.cells
  refine ab (ah (M1 lx) ?_)
  refine bg (t:=decide (0<xs.length)) (by simp only[am,aD,simprocAttr]; exact congrArg AV.bool (by simp only[decide_eq_decide]; omega)) (λq=>?_) λq=>?_
  ·have q:0<xs.length:=aF q
   obtain⟨h8,w8,r8,hc,X8⟩:=hend h6 15 0 cv f6 X6 ⟨λh=>om,λh=>by
    exfalso
    have:=hxa.2 h.2.2.2.1
    subst this
    simp at q⟩
   refine ab (ah (by simp only[am,aD,simprocAttr,e2,sc,so,w8]<;>rfl) ?_)
   exact bt ⟨_,(by simp only[rs,rf24,am,aD,simprocAttr,e2,r8]<;>rfl),hc,X8⟩
  have q:¬ 0<xs.length:=aE q
  have hacy:=hxa.1 (bG.1 om)
  refine aN ?_
  have hv6:=hv.ext x6
  refine ab (ab (aX (aP 1 (M0) rfl (Z0) (M0) (wC hv6) λsv h7 hq=>?_)))
  obtain⟨is,x7⟩:=hq
  refine aW (M0) ?_
  have X7:=X6.trans (x7.mono X6.nx)
  have f7:h7.get h0.next=some (.cells [.int .i64 0,.int .i64 0,.nils] 3 false):=by rw[x7.gt _ om]; exact f6
  have ss:SlI h7 sv (iR nn es):=HB om (λ_=>rfl) is
  have ls:=ss.len
  rw[au] at ls
  refine ab (ah (M1 ls) ?_)
  refine bg (t:=decide (1<(iR nn es).length)) (by simp only[am,aD,simprocAttr]; exact congrArg AV.bool (by simp only[decide_eq_decide]; omega)) (λq2=>?_) λq2=>?_
  ·have q2:1<(iR nn es).length:=aF q2
   rcases is with ⟨rfl,hz⟩|⟨sb,sn,hsb,rfl,hsg,hsl⟩
   ·exfalso
    have:=congrArg List.length hz
    rw[dQ,bh] at this
    omega
   have hsn:sn=(iR nn es).length:=by rw[dQ] at hsl; omega
   have s2:slV h7 1 (.sl sb 0 sn sn) none (some (.int .i64 2)) (some (.int .i64 2))=some (.sl sb 0 2 2):=by
    have h1:bnd (.int .i64 2) sn=some 2:=fP (k:=.i64) (n:=2) (y:=sn) om
    have h2:bnd (.int .i64 2) 2=some 2:=fP (k:=.i64) (n:=2) (y:=2) om
    simp only[slV,hsg,if_true,oW,h1,h2,aH]
    simp
   obtain⟨h8,w8,r8,hc,X8⟩:=hend h7 16 0 (.sl sb 0 2 2) f7 X7 ⟨λh=>om,λh=>by
    exfalso
    have:=h.2.2.2.2
    rw[bK] at this
    omega⟩
   refine ab (ah (by simp only[am,aD,simprocAttr,eJ,cu,s2,e2,w8]<;>rfl) ?_)
   exact bt ⟨_,(by simp only[rs,rf24,am,aD,simprocAttr,e2,r8]<;>rfl),hc,X8⟩
  ·have q2:¬ 1<(iR nn es).length:=aE q2
   obtain⟨h8,w8,r8,hc,X8⟩:=hend h7 0 0 .nils f7 X7 ⟨λ_=>⟨hm,hloop,j3,hacy,by rw[bK]; omega⟩,λ_=>rfl⟩
   refine aN (ab (ah (M2 e2 w8) ?_))
   exact bt ⟨_,(by simp only[rs,rf24,am,aD,simprocAttr,e2,r8]<;>rfl),hc,X8⟩
end Go.Proofs.YtahepnbflofndaaGreatDoor
