/- planar -/
import Derived.Test.YtpeemonpdlifbaaGreatVTAY
import Derived.Test.YtpeemonpdlifbaaGreatVTAC
import Derived.Test.YtpeemonpdlifbaaGreatVTAN
import Derived.Test.YtpeemonpdlifbaaGreatVTAE
import Derived.Test.YtpeemonpdlifbaaGreatVTAX
set_option linter.all false
namespace Go.Proofs.YtpeemonpdlifbaaGreat
open Go.Am
open Go.Pla (at_ Part Plc Hg Shut)
structure Of (g:Go.Blk.Gr) (Bl:List Nat) (H V:Nat→Bool) (pt:Nat→Nat) (p:Pc) (e0:Nat):Prop where
 mem:e0∈Bl
 new:H e0=false
 hgs:∀ z,z∈p.1↔Hg g Bl H pt (pt e0) z
 nd:p.1.Nodup
 kind:(p.2.1=-1∧V (g.tl e0)=true∧V (g.hd e0)=true∧p.1=[g.tl e0,g.hd e0])∨∃ x:Nat,p.2.1=((x:Nat):Int)∧x<g.n∧V x=false∧at_ g e0 x=true
theorem Df {g:Go.Blk.Gr}{Bl:List Nat}{H V:Nat→Bool}{pt:Nat→Nat} (p:Go.Pla.Pln g Bl) (hV:Plc g Bl H V) (P:Part g Bl H pt) {i:Nat} (hi:i∈Bl) (hH:H i=false) (h1:V (g.tl i)=true) (h2:V (g.hd i)=true) {k:Int}:Of g Bl H V pt ([g.tl i,g.hd i],-1,k) i where
 mem:=hi
 new:=hH
 hgs:=λz=>by
  have it:at_ g i (g.tl i)=true:=(Go.Pla.at_inc (p.lt i hi)).2 ⟨p.lt i hi,.inl rfl⟩
  have ih:at_ g i (g.hd i)=true:=(Go.Pla.at_inc (p.lt i hi)).2 ⟨p.lt i hi,.inr rfl⟩
  simp only[au,bp,or_false]
  constructor
  ·rintro (rfl|rfl)
   ·obtain⟨j,hj,ha,hjH⟩:=(hV _).1 h1
    exact⟨i,hi,hH,rfl,it,j,hj,ha,hjH⟩
   ·obtain⟨j,hj,ha,hjH⟩:=(hV _).1 h2
    exact⟨i,hi,hH,rfl,ih,j,hj,ha,hjH⟩
  ·rintro⟨e,he,_,hp,ha,_⟩
   have hu:=P.univ (λe=>decide (e=i)) (λv hv e he k hk hev hkv=>by
    have no:∀ e∈Bl,at_ g e v=true→e≠i:=λe _ ha q=>by
     subst q
     have hinc:=(Go.Pla.at_inc (p.lt e hi)).1 ha
     have:V v=true:=by rcases hinc.2 with q|q<;>rw[← q]<;>assumption
     obtain⟨j,hj,hja,hjH⟩:=(hV v).1 this
     rw[hv j hj hja] at hjH; cases hjH
    rw[aJ (no e he hev),aJ (no k hk hkv)])
   have h3:=hu e
   rw[hp,hu i] at h3
   have h3:e=i:=by simpa using h3.symm
   subst h3
   rcases ((Go.Pla.at_inc (p.lt e he)).1 ha).2 with q|q
   ·exact .inl q.symm
   ·exact .inr q.symm
 nd:=by
  have:=p.ne hi
  simp [this]
 kind:=.inl ⟨rfl,h1,h2,rfl⟩
set_option maxHeartbeats 4000000 in
theorem xD {h:AH}{bb n:Nat}{ev edv:AV}{E:List (Int×Int)}{Bl:List Nat}{la pa:Nat}{H V:Nat→Bool}{fav:AV} (u:Bu h bb n ev edv E Bl la pa H V fav) (hE:InG n E) (hL:∀ i,i<E.length→tlE E i≠hdE E i) (hn:n<2 ^ 30) (hm:E.length<2 ^ 30) (hB:∀ i∈Bl,i<E.length) (hBn:Bl.length<2 ^ 30)
 (hp:Go.Pla.Pln (grE n E hE hL) Bl) (hV:Plc (grE n E hE hL) Bl H V) {pt:Nat→Nat} (P:Part (grE n E hE hL) Bl H pt) :
 C prg 28 [.ptr bb 0] h λv h'=>Ext h.next h h'∧∃ ps,PcL h' h.next v ps∧ps.length≤Bl.length∧(∀ p∈ps,∃ e0,Of (grE n E hE hL) Bl H V pt p e0)∧∀ e∈Bl,H e=false→∃ p∈ps,∃ e0,Of (grE n E hE hL) Bl H V pt p e0∧pt e0=pt e:=by
 refine LB pf28 ?_
 refine aj (aB (Mi0) ?_)
 have r0:ar h bb 0 1=some [.int .i64 (n:Nat)]:=bq u.o rfl
 have mu:=oL (h:=h) (z:=[.bool false]) (e:=1) (bytes:=1) (n:=n) (by unfold be; omega) (by unfold be; omega)
 have x1:Ext h.next h (h.new (.cells (dg [.bool false] n) 1 false)):=Ly (ae _)
 have g1:(h.new (.cells (dg [.bool false] n) 1 false)).get h.next=some (.cells (dg [.bool false] n) 1 false):=by rw[AH.get_new,if_pos rfl]
 have n1:(h.new (.cells (dg [.bool false] n) 1 false)).next=h.next+1:=rfl
 rw[wH] at mu x1 g1 n1
 refine aj (bT (λts h'=>h'=h.new (.cells (bl n λ_=>false) 1 false)∧aY ts 0=.ptr bb 0∧aY ts 2=.nils∧aY ts 3=.sl h.next 0 n n) (by simp only[am,aF,simprocAttr,bH,r0,mu]) ?_)
 rintro ts h1 ⟨rfl,e0,e2,e3⟩
 generalize h.new (.cells (bl n λ_=>false) 1 false)=h1 at *
 have u1:=u.ext x1 (ae _)
 have rb:ar h1 bb 2 1=some [edv]:=bq u1.o rfl
 have lb:=u1.b.len
 rw[ak,ak] at lb
 have lt_bb:=AH.lt_of_get u.o
 have lt_la:=AH.lt_of_get u.l
 have lt_pa:=AH.lt_of_get u.v
 have oe:Off (λc=>c=h.next) ev:=by
  cases hq:ev with
  | sl b o m c=>exact λq=>by have:=u.e.lt hq; omega
  | _=>trivial
 have oed:Off (λc=>c=h.next) edv:=by
  cases hq:edv with
  | sl b o m c=>exact λq=>by have:=u.b.lt hq; omega
  | _=>trivial
 refine aj (aj (aB (M3 e0 rb lb) ?_))
 refine fB (α:=(Nat→Bool)×List Pc×AV) (N:=Bl.length) (λ_ a=>[(16,edv),(0,.ptr bb 0),(2,a.2.2),(3,.sl h.next 0 n n)])
  (λk a h'=>Ext h.next h h'∧h'.get h.next=some (.cells (bl n a.1) 1 false)∧Shut (grE n E hE hL) Bl V a.1∧PcL h' (h.next+1) a.2.2 a.2.1∧a.2.1.length≤k∧(∀ p∈a.2.1,∃ e0,Of (grE n E hE hL) Bl H V pt p e0)∧(∀ z,a.1 z=true→∃ p∈a.2.1,∃ e0,Of (grE n E hE hL) Bl H V pt p e0∧∀ e∈Bl,at_ (grE n E hE hL) e z=true→pt e=pt e0)∧(∀ e∈Bl.take k,H e=false→∃ p∈a.2.1,∃ e0,Of (grE n E hE hL) Bl H V pt p e0∧pt e0=pt e))
  ((λ_=>false),[],.nils) (λ_ _=>rfl) om (H3 e0 e2 e3) ⟨x1,g1,λz h=>by simp at h,⟨[],.inl ⟨rfl,rfl⟩,rfl,λi q p h=>by simp at h⟩,by simp,λp h=>by simp at h,λz h=>by simp at h,λe h=>by simp at h⟩ ?_ ?_
 ·clear e0 e2 e3 rb lb
  rintro k ⟨D,ps,ov⟩ ts h2 hk ⟨j1,j2,j3,j4,j5,j6,j7,j8⟩ ⟨ei,en,e16,e0,e2,e3,-⟩
  simp only at ei en e16 e0 e2 e3 j2 j3 j4 j5 j6 j7 j8
  have hBk:Bl[k]∈Bl:=aR hk
  have hik:=hB _ hBk
  have htk:Bl.take (k+1)=Bl.take k++[Bl[k]]:=by rw[eJ,ah hk]; rfl
  have u2:=u.ext j1 (ae _)
  obtain⟨b5,o5,a5,r5,_⟩:=u2.b.at1 (i:=k) (y:=.int .i64 (Bl[k]:Nat)) (by rw[aG,aG,ah hk]; rfl)
  generalize hi:Bl[k]=i at *
  refine aj (aB (M4 e16 ei a5 r5) ?_)
  have r3:ar h2 bb 3 1=some [.sl la 0 E.length E.length]:=bq u2.o rfl
  have ia:fU ((i:Nat):Int) E.length=some i:=dU hik
  have rl:ar h2 la i 1=some [.bool (H i)]:=bq u2.l (lY hik)
  cases hH:H i with
  | true =>
    rw[hH] at rl
    refine aj (aj (aB (by simp only[am,aF,simprocAttr,e0,r3,ia,aO,rl]<;>rfl) ?_))
    refine cX (Z0) (ft ⟨λ_=>⟨(D,ps,ov),⟨j1,j2,j3,j4,kG j5,j6,j7,λe he hHe=>?_⟩,by simp only[hl,am,aF,simprocAttr,ei,en,e16,e0,e2,e3]⟩,λe=>absurd rfl e⟩)
    rw[htk] at he
    rcases aC.1 he with h|h
    ·exact j8 e h hHe
    ·have:e=i:=by simpa using h
     rw[this,hH] at hHe; cases hHe
  | false =>
  rw[hH] at rl
  refine aj (aj (aB (by simp only[am,aF,simprocAttr,e0,r3,ia,aO,rl]<;>rfl) ?_))
  refine dL (Z0) (bK ?_)
  obtain⟨q1,q2,q3⟩:=hE i hik
  obtain⟨b6,o6,a6,r6,_,_⟩:=u2.e.at (fE (f:=eE) hik)
  rw[q1] at r6
  have r6:ar h2 b6 o6 2=some [.int .i64 (tlE E i:Nat),.int .i64 (hdE E i:Nat)]:=r6
  have r1:ar h2 bb 1 1=some [ev]:=bq u2.o rfl
  obtain⟨h3,w3,x3,g3,n3⟩:=gm (h:=h2) (z:=[.int .i64 0,.int .i64 0]) (cs:=[.int .i64 (tlE E i:Nat),.int .i64 (hdE E i:Nat)]) (e:=2) rfl
  have lt2:h.next<h2.next:=AH.lt_of_get j2
  refine aj (bT (λts h'=>h'=h3∧Held [(18,.int .i64 (k:Nat)),(17,.int .i64 (Bl.length:Nat)),(16,edv),(0,.ptr bb 0),(2,ov),(3,.sl h.next 0 n n),(5,.int .i64 (i:Nat)),(6,.ptr h2.next 0)] ts) (by simp only[am,aF,simprocAttr,ei,en,e16,e0,e2,e3,r1,a6,r6,w3,cz,cK]) ?_)
  rintro ts h3' ⟨rfl,ei,en,e16,e0,e2,e3,e5,e6,-⟩
  have x3':Ext h.next h h3':=j1.trans (x3.mono om)
  have u3:=u.ext x3' (ae _)
  have g3d:h3'.get h.next=some (.cells (bl n D) 1 false):=by rw[x3.gt _ lt2]; exact j2
  have p3:=j4.ext x3 (ae _)
  have rt:ar h3' h2.next 0 1=some [.int .i64 (tlE E i:Nat)]:=bq g3 rfl
  have rh:ar h3' h2.next 1 1=some [.int .i64 (hdE E i:Nat)]:=bq g3 rfl
  have r4:ar h3' bb 4 1=some [.sl pa 0 n n]:=bq u3.o rfl
  have it:fU ((tlE E i:Nat):Int) n=some (tlE E i):=dU q2
  have ih:fU ((hdE E i:Nat):Int) n=some (hdE E i):=dU q3
  have vt:ar h3' pa (tlE E i) 1=some [.bool (V (tlE E i))]:=bq u3.v (lY q2)
  have vh:ar h3' pa (hdE E i) 1=some [.bool (V (hdE E i))]:=bq u3.v (lY q3)
  have att:at_ (grE n E hE hL) i (tlE E i)=true:=by rw[iI hik]; simp [kB]
  have ath:at_ (grE n E hE hL) i (hdE E i)=true:=by rw[iI hik]; simp [kB]
  have fin:∀ (w:Nat) (hw:w<n) (hv:V w=false) (ha:at_ (grE n E hE hL) i w=true),C prg 52 [.ptr bb 0,ov,.int .i64 (w:Nat),.sl h.next 0 n n] h3' λv h'=>∃ D' ps',Ext h.next h h'∧h'.get h.next=some (.cells (bl n D') 1 false)∧Shut (grE n E hE hL) Bl V D'∧PcL h' (h.next+1) v ps'∧ps'.length≤k+1∧(∀ p∈ps',∃ e0,Of (grE n E hE hL) Bl H V pt p e0)∧(∀ z,D' z=true→∃ p∈ps',∃ e0,Of (grE n E hE hL) Bl H V pt p e0∧∀ e∈Bl,at_ (grE n E hE hL) e z=true→pt e=pt e0)∧(∀ e∈Bl.take (k+1),H e=false→∃ p∈ps',∃ e0,Of (grE n E hE hL) Bl H V pt p e0∧pt e0=pt e):=by
   intro w hw hv ha
   refine (CE u3 hE hL hn hm hB hBn hp hV P j3 hw hv hBk ha g3d ⟨om,om,om⟩ oe oed (lo:=h.next+1) (by have:=x3.nx; omega) om p3 om).mono λv h4 hq=>?_
   obtain⟨k4,D',g4,s4,d4,dw,hsame,hc⟩:=hq
   have x4:Ext h.next h h4:=⟨cN x3'.nx k4.nx,λc hc=>by rw[k4.gt c (by have:=x3'.nx; omega) om,x3'.gt c hc],λc hc=>by rw[k4.ty c (by have:=x3'.nx; omega),x3'.ty c hc]⟩
   rcases hc with ⟨hD,hP⟩|⟨hD,at',hP,hat,hnd,hins⟩
   ·refine⟨D',ps,x4,g4,s4,hP,om,j6,λz hz=>?_,λe he hHe=>?_⟩
    ·exact j7 z (by
      cases hDz:D z
      ·exact absurd (hsame hD z hz) (by rw[hDz]; simp)
      ·rfl)
    ·rw[htk] at he
     rcases aC.1 he with h|h
     ·exact j8 e h hHe
     ·have:e=i:=by simpa using h
      subst this
      obtain⟨p,hp',e1,o1,h1⟩:=j7 w hD
      exact⟨p,hp',e1,o1,(h1 e hBk ha).symm⟩
   ·have of':Of (grE n E hE hL) Bl H V pt (at',((w:Nat):Int),0) i:=⟨hBk,hH,hat,hnd,.inr ⟨w,rfl,hw,hv,ha⟩⟩
    refine⟨D',ps++[(at',((w:Nat):Int),0)],x4,g4,s4,hP,by rw[aI,tD]; omega,λp hp=>?_,λz hz=>?_,λe he hHe=>?_⟩
    ·rcases aC.1 hp with h|h
     ·exact j6 p h
     ·have:p=(at',((w:Nat):Int),0):=by simpa using h
      subst this; exact⟨i,of'⟩
    ·cases hDz:D z
     ·exact⟨_,by simp,i,of',hins z hz hDz⟩
     ·obtain⟨p,hp',e1,o1,h1⟩:=j7 z hDz
      exact⟨p,aZ _ hp',e1,o1,h1⟩
    ·rw[htk] at he
     rcases aC.1 he with h|h
     ·obtain⟨p,hp',e1,o1,h1⟩:=j8 e h hHe
      exact⟨p,aZ _ hp',e1,o1,h1⟩
     ·have:e=i:=by simpa using h
      subst this
      exact⟨_,by simp,e,of',rfl⟩
  cases hvt:V (tlE E i) with
  | false =>
    rw[hvt] at vt
    refine cL (aj (aB (by simp only[am,aF,simprocAttr,e0,e6,r4,rt,it,aO,vt]<;>rfl) ?_))
    refine dL (Z0) ?_
    refine aj (aB (by simp only[am,aF,simprocAttr,e0,e6,r4,rt,it,aO,vt]<;>rfl) ?_)
    refine dL (Z0) ?_
    refine bO (bt 5 (M5 e0 e2 e6 rt e3) rfl (Z5 e0 e2 e6 rt e3) (M5 e0 e2 e6 rt e3) (fin _ q2 hvt att) λv h4 hq=>?_)
    obtain⟨D',ps',hJ⟩:=hq
    refine bI (M0) ?_
    exact⟨(D',ps',v),hJ,by simp only[hl,am,aF,simprocAttr,ei,en,e16,e0,e2,e3]⟩
  | true =>
    rw[hvt] at vt
    cases hvh:V (hdE E i) with
    | false =>
      rw[hvh] at vh
      refine cL (aj (aB (by simp only[am,aF,simprocAttr,e0,e6,r4,rt,rh,it,ih,aO,vt,vh]<;>rfl) ?_))
      refine dL (Z0) ?_
      refine aj (aB (by simp only[am,aF,simprocAttr,e0,e6,r4,rt,it,aO,vt]<;>rfl) ?_)
      refine cX (Z0) ?_
      refine bO (bt 5 (M5 e0 e2 e6 rh e3) rfl (Z5 e0 e2 e6 rh e3) (M5 e0 e2 e6 rh e3) (fin _ q3 hvh ath) λv h4 hq=>?_)
      obtain⟨D',ps',hJ⟩:=hq
      refine bI (M0) ?_
      exact⟨(D',ps',v),hJ,by simp only[hl,am,aF,simprocAttr,ei,en,e16,e0,e2,e3]⟩
    | true =>
      rw[hvh] at vh
      refine cL (aj (aB (by simp only[am,aF,simprocAttr,e0,e6,r4,rt,rh,it,ih,aO,vt,vh]<;>rfl) ?_))
      refine cX (Z0) ?_
      have x4:Ext h3'.next h3' (h3'.new (.cells [.int .i64 (tlE E i:Nat),.int .i64 (hdE E i:Nat)] 1 false)):=Ly (ae _)
      have g4:(h3'.new (.cells [.int .i64 (tlE E i:Nat),.int .i64 (hdE E i:Nat)] 1 false)).get h3'.next=some (.cells [.int .i64 (tlE E i:Nat),.int .i64 (hdE E i:Nat)] 1 false):=by rw[AH.get_new,if_pos rfl]
      have n4:(h3'.new (.cells [.int .i64 (tlE E i:Nat),.int .i64 (hdE E i:Nat)] 1 false)).next=h3'.next+1:=rfl
      have n3':=x3.nx
      obtain⟨h4,hh4⟩:∃ h4,h4=h3'.new (.cells [.int .i64 (tlE E i:Nat),.int .i64 (hdE E i:Nat)] 1 false):=⟨_,rfl⟩
      rw[← hh4] at x4 g4 n4
      have x5:Ext h4.next h4 (h4.new (.cells [.sl h3'.next 0 2 2,.int .i64 (-1),.int .i64 (i:Nat)] 3 false)):=Ly (ae _)
      have g5:(h4.new (.cells [.sl h3'.next 0 2 2,.int .i64 (-1),.int .i64 (i:Nat)] 3 false)).get h4.next=some (.cells [.sl h3'.next 0 2 2,.int .i64 (-1),.int .i64 (i:Nat)] 3 false):=by rw[AH.get_new,if_pos rfl]
      have n5:(h4.new (.cells [.sl h3'.next 0 2 2,.int .i64 (-1),.int .i64 (i:Nat)] 3 false)).next=h4.next+1:=rfl
      have lt_ov:∀ b m,ov=.sl b 0 m m→b<h3'.next:=λb m e=>by
       obtain⟨_,h1,_⟩:=p3; exact h1.lt e
      obtain⟨v',h6,a6,p6,x6,n6,fr6,_,ty6⟩:=((p3.ext x4 (ae _)).ext x5 (ae _)).push (v:=.sl h3'.next 0 2 2) (x:=h4.next) (xs:=[tlE E i,hdE E i]) (s:=-1) (e:=((i:Nat):Int)) om (.inr ⟨h3'.next,2,om,rfl,by rw[x5.gt _ om]; exact g4,rfl⟩) g5 om (λb m e=>by have:=lt_ov b m e; omega) (λb m b' m' e e'=>by
       have:=lt_ov b' m' e'
       cases e; omega) (by unfold be; omega)
      have rp2:dg [AV.int .i64 0] 2=[.int .i64 0,.int .i64 0]:=rfl
      rw[n4,hh4] at a6
      refine bT (λts h'=>h'=h6∧Held [(18,.int .i64 (k:Nat)),(17,.int .i64 (Bl.length:Nat)),(16,edv),(0,.ptr bb 0),(2,v'),(3,.sl h.next 0 n n)] ts) (by simp only[am,aF,simprocAttr,ei,en,e16,e0,e2,e3,e5,e6,rt,rh,rp2,aw,aP,cF,bJ,Nat.reduceAdd,Nat.reduceLeDiff,if_true,AH.next_new,a6,cz,cK]) ?_
      rintro ts h6' ⟨rfl,hh⟩
      have of':Of (grE n E hE hL) Bl H V pt ([tlE E i,hdE E i],-1,((i:Nat):Int)) i:=Df hp hV P hBk hH hvt hvh
      have xx:Ext h.next h h6':=x3'.trans ((x4.mono om).trans ((x5.mono om).trans (x6.mono om)))
      refine⟨(D,ps++[([tlE E i,hdE E i],-1,((i:Nat):Int))],v'),⟨xx,?_,j3,p6,?_,λp hp=>?_,λz hz=>?_,λe he hHe=>?_⟩,hh⟩
      ·rw[x6.gt _ om,x5.gt _ om,x4.gt _ om]; exact g3d
      ·show (ps++[_]).length≤k+1
       rw[aI,tD]; omega
      ·rcases aC.1 hp with h|h
       ·exact j6 p h
       ·have:p=([tlE E i,hdE E i],-1,((i:Nat):Int)):=by simpa using h
        subst this; exact⟨i,of'⟩
      ·obtain⟨p,hp',e1,o1,h1⟩:=j7 z hz
       exact⟨p,aZ _ hp',e1,o1,h1⟩
      ·rw[htk] at he
       rcases aC.1 he with h|h
       ·obtain⟨p,hp',e1,o1,h1⟩:=j8 e h hHe
        exact⟨p,aZ _ hp',e1,o1,h1⟩
       ·have:e=i:=by simpa using h
        subst this
        exact⟨([tlE E e,hdE E e],-1,((e:Nat):Int)),by simp,e,of',rfl⟩
 ·rintro⟨D,ps,ov⟩ ts h2 ⟨j1,j2,j3,j4,j5,j6,j7,j8⟩ ⟨e16,e0,e2,e3,-⟩
  simp only at e2 j4 j5 j6 j8
  rw[de (ae _)] at j8
  refine aj (aB (M1 e2) ?_)
  exact bG ⟨ov,(by simp only[rs,rf28,am,aF,simprocAttr,e2]<;>rfl),j1,ps,by
   obtain⟨qs,q1,q2,q3⟩:=j4
   exact⟨qs,q1.mono om,q2,λi q p h1 h2=>⟨(q3 i q p h1 h2).1.mono om,(q3 i q p h1 h2).2⟩⟩,j5,j6,j8⟩
open Go.Am
theorem FT {h:AH}{v:AV}{xs:List Int}{P:Int→Bool}{k:FuncId}{caps:List AV} (J:Nat→AH→Prop) (K:Nat→AH→Prop) (hv:jS v=some (.int .i64 (xs.length:Nat))) (hl:xs.length<2 ^ 40) (h0:J 0 h) (hJ:∀ i h',J i h'→SlI h' v xs)
 (hf:∀ (i:Nat) (hi:i<xs.length) h',J i h'→C prg k ([.int .i64 xs[i]]++caps) h' λr h''=>r=.bool (P xs[i])∧(if P xs[i] then K i h'' else J (i+1) h'')) :
 C prg 86 [v,.fn k caps] h λr h'=>r=.int .i64 (gU P xs 0)∧((xs.any P=false∧J xs.length h')∨(xs.any P=true∧∃ i,K i h')):=by
 refine LB pf86 ?_
 refine aj (aB (Mi0) ?_)
 refine aj (aj (aB (Mi1 hv) ?_))
 refine aj (sV (λts h1=>gU P xs 0=-1∧J xs.length h1) (cL (fW (λn ts h1=>∃ i,n=xs.length-i∧i≤xs.length∧J i h1∧gU P (xs.drop i) i=gU P xs 0∧aY ts 0=v∧aY ts 1=.fn k caps∧aY ts 7=.int .i64 (xs.length:Nat)∧aY ts 8=.int .i64 (i:Nat)) ?_ (n:=xs.length) ⟨0,rfl,fq _,h0,by rw[bJ],Zi0,Zi0,Zi1 @cH⟩)) ?_)
 ·rintro n ts h1 ⟨i,rfl,hi,ex,hF,e0,e1,e7,e8⟩
  refine aj (aB (M2 e7 e8) ?_)
  refine aj (jq (t:=decide (i<xs.length)) (Z1 @jl) (λq=>?_) λq=>?_)
  ·have q:i<xs.length:=dV q
   obtain⟨b,p,a1,r1,_,_⟩:=(hJ i h1 ex).at (fE (f:=eI) q)
   refine bK (aj (cL (aj (aB (M1 e8) ?_))))
   have hc:=hf i q h1 ex
   refine aj (bO (ka 5 (by simp only[am,aF,simprocAttr,e0,e1,e7,e8,a1,r1,kN,eI]<;>rfl) rfl (by simp only[am,aF,simprocAttr,e0,e1,e7,e8,a1,r1,kN,eI]) (by simp only[am,aF,simprocAttr,e0,e1,e7,e8,a1,r1,kN,eI]<;>rfl) (by simp only[am,aF,simprocAttr,e0,e1,e7,e8,a1,r1,kN,eI]<;>rfl) (hc) λr h2 hq=>?_))
   obtain⟨rfl,ex2⟩:=hq
   refine bI (M0) ?_
   have hlo:=lF P xs 0
   refine jq (t:=P xs[i]) (Z0) (λq2=>?_) λq2=>?_
   ·rw[if_pos q2] at ex2
    refine aj (aB (M0) ?_)
    refine bG ⟨.int .i64 (i:Nat),(by simp only[rs,rf86,am,aF,simprocAttr]<;>rfl),?_,.inr ⟨jj.2 ⟨_,aR q,q2⟩,i,ex2⟩⟩
    rw[← hF,im P q,if_pos q2]
   ·rw[if_neg (by simp [q2])] at ex2
    have w1:IntKind.i64.wrap (((i:Nat):Int)+1)=((i+1:Nat):Int):=fz om om
    refine bK (aB (M2 e8 w1) ?_)
    refine⟨xs.length-(i+1),om,i+1,rfl,om,ex2,?_,Z1 e0,Z1 e1,Z1 e7,Z2 e8 w1⟩
    rw[← hF,im P q,if_neg (by simp [q2])]
  ·have q:¬ i<xs.length:=of_decide_eq_false q
   have e:i=xs.length:=om
   subst e
   refine ft ⟨λ_=>⟨?_,ex⟩,λe=>absurd rfl e⟩
   rw[← hF,dm om]
   rfl
 ·rintro ts h1 ⟨hF,ex⟩
  refine aj (aB (M0) ?_)
  refine bG ⟨.int .i64 (-1),(by simp only[rs,rf86,am,aF,simprocAttr]<;>rfl),by rw[hF],.inl ⟨?_,ex⟩⟩
  exact (lF P xs 0).2.1 om
theorem Dt {h:AH}{v:AV}{xs:List Int}{P:Int→Bool}{k:FuncId}{caps:List AV} (J:Nat→AH→Prop) (K:Nat→AH→Prop) (hv:jS v=some (.int .i64 (xs.length:Nat))) (hl:xs.length<2 ^ 40) (h0:J 0 h) (hJ:∀ i h',J i h'→SlI h' v xs)
 (hf:∀ (i:Nat) (hi:i<xs.length) h',J i h'→C prg k ([.int .i64 xs[i]]++caps) h' λr h''=>r=.bool (P xs[i])∧(if P xs[i] then K i h'' else J (i+1) h'')) :
 C prg 72 [v,.fn k caps] h λr h'=>r=.bool (xs.any P)∧((xs.any P=false∧J xs.length h')∨(xs.any P=true∧∃ i,K i h')):=by
 refine LB pf72 ?_
 refine aj (aB (Mi0) ?_)
 refine aj (bO (bt 2 (Mi0) rfl (Zi0) (Mi0) (FT J K hv hl h0 hJ hf) λr h2 hq=>?_))
 obtain⟨rfl,ex⟩:=hq
 have hb:decide ((0:Int)≤gU P xs 0)=xs.any P:=by
  have:=(lF P xs 0).2
  cases hq:xs.any P with
  | true=>rw[aA]; rw[hq] at this; simp at this; omega
  | false=>rw[aV]; have:=this.2 hq; omega
 refine bI (M1 hb) ?_
 exact bG ⟨_,(by simp only[rs,rf72,am,aF,simprocAttr]<;>rfl),rfl,ex⟩
open Go.Am
def lD (F:List (List Nat)) (at':List Nat) (f:Nat):Bool:=at'.all λx=>decide (x∈F.getD f [])
def eT (F:List (List Nat)) (at':List Nat):List Nat:=(List.range F.length).filter (lD F at')
theorem zr {h:AH}{fb lo:Nat}{fv:AV}{c:List Nat} (hg:h.get fb=some (.cells [fv] 1 false)) (hf:IsSl h 1 lo fv (nC c)) (hl:c.length<2 ^ 30) {x:Nat}:C prg 73 [.int .i64 (x:Nat),.ptr fb 0] h λv h'=>v=.bool (!(decide (x∈c)))∧Ext h.next h h':=by
 refine LB pf73 ?_
 have r1:ar h fb 0 1=some [fv]:=bq hg rfl
 have hct:=sG (y:=((x:Nat):Int)) (eu hf) (by rw[ak]; omega)
 rw[mP] at hct
 refine aj (aB (Mi0) ?_)
 refine aj (bO (bt 2 (Mi1 r1) rfl (Zi1 r1) (Mi1 r1) (hct) λv h1 hq=>?_))
 obtain⟨rfl,x1⟩:=hq
 refine bI (M0) ?_
 exact bG ⟨.bool (!(decide (x∈c))),(by simp only[rs,rf73,am,aF,simprocAttr]<;>rfl),rfl,x1⟩
set_option maxHeartbeats 2000000 in
theorem tZ {h:AH}{bb n lo:Nat}{ev edv atv:AV}{E:List (Int×Int)}{Bl at':List Nat}{la pa:Nat}{H V:Nat→Bool}{fav:AV}{F:List (List Nat)}{s e:Int} (u:Bu h bb n ev edv E Bl la pa H V fav) (hF:LL h lo fav F) (hFl:F.length<2 ^ 30) (hFn:∀ c∈F,c.length<2 ^ 30) (hat:SlN h atv at') (hal:at'.length<2 ^ 30) :
 C prg 53 [.ptr bb 0,.agg [atv,.int .i64 s,.int .i64 e]] h λv h'=>IsSl h' 1 h.next v (nC (eT F at'))∧Ext h.next h h':=by
 refine LB pf53 ?_
 have bx:=sP (k:=3) (cs:=[atv,.int .i64 s,.int .i64 e]) rfl
 have x1:Ext h.next h (h.new (.cells [atv,.int .i64 s,.int .i64 e] 3 false)):=Ly (ae _)
 have g1:(h.new (.cells [atv,.int .i64 s,.int .i64 e] 3 false)).get h.next=some (.cells [atv,.int .i64 s,.int .i64 e] 3 false):=by rw[AH.get_new,if_pos rfl]
 have n1:(h.new (.cells [atv,.int .i64 s,.int .i64 e] 3 false)).next=h.next+1:=rfl
 refine aj (bT (λts h'=>h'=h.new (.cells [atv,.int .i64 s,.int .i64 e] 3 false)∧aY ts 0=.ptr bb 0∧aY ts 3=.ptr h.next 0∧aY ts 4=.nils) (by simp only[am,aF,simprocAttr,bH,hat.cells.1,AV.cells,aw,aP,if_true]) ?_)
 rintro ts h1 ⟨rfl,e0,e3,e4⟩
 generalize h.new (.cells [atv,.int .i64 s,.int .i64 e] 3 false)=h1 at *
 have u1:=u.ext x1 (ae _)
 have F1:=hF.ext x1 (ae _)
 have r5:ar h1 bb 5 1=some [fav]:=bq u1.o rfl
 have lf:=F1.len
 refine aj (aj (aB (M3 e0 r5 lf) ?_))
 refine fB (α:=AV) (N:=F.length) (λ_ a=>[(10,fav),(3,.ptr h.next 0),(4,a)])
  (λk a h'=>IsSl h' 1 (h.next+1) a (nC ((List.range k).filter (lD F at')))∧Ext h.next h h'∧h'.get h.next=some (.cells [atv,.int .i64 s,.int .i64 e] 3 false)∧h.next<h'.next)
  .nils (λ_ _=>rfl) om (H2 e3 e4) ⟨.inl ⟨rfl,rfl⟩,x1,g1,om⟩ ?_ ?_
 ·clear e0 e3 e4 r5 lf
  rintro k a ts h2 hk ⟨j1,j2,j3,j4⟩ ⟨ei,en,e10,e3,e4,-⟩
  have F2:=hF.ext j2 (ae _)
  obtain⟨b,o,fv,a2,r2,i2,_⟩:=F2.at hk
  obtain⟨h3,w3,x3,g3,n3⟩:=gm (h:=h2) (z:=[.nils]) (cs:=[fv]) (e:=1) rfl
  refine aj (bT (λts h'=>h'=h3∧Held [(12,.int .i64 (k:Nat)),(11,.int .i64 (F.length:Nat)),(10,fav),(3,.ptr h.next 0),(4,a),(5,.int .i64 (k:Nat)),(6,.ptr h2.next 0)] ts) (by simp only[am,aF,simprocAttr,ei,en,e10,e3,e4,a2,r2,i2.cells.1,i2.cells.2,w3,cz,cK]) ?_)
  rintro ts h3' ⟨rfl,ei,en,e10,e3,e4,e5,e6,-⟩
  have g3p:h3'.get h.next=some (.cells [atv,.int .i64 s,.int .i64 e] 3 false):=by rw[x3.gt _ j4]; exact j3
  have rp:ar h3' h.next 0 1=some [atv]:=bq g3p rfl
  have x3':Ext h.next h h3':=j2.trans (x3.mono om)
  have hat3:=hat.ext x3' (ae _)
  have hcl:F[k].length<2 ^ 30:=hFn _ (aR hk)
  have hFk:F.getD k []=F[k]:=by simp [List.getD,hk]
  have i3:=i2.ext x3 (ae _)
  have lat:=hat3.len
  rw[ak,ak] at lat
  have hcf:=Dt (h:=h3') (v:=atv) (xs:=at'.map λn=>((n:Nat):Int)) (P:=λz=>!((F[k].map λn=>((n:Nat):Int)).any (z==·))) (k:=73) (caps:=[.ptr h2.next 0]) (λ_ h'=>Ext h3'.next h3' h') (λ_ h'=>Ext h3'.next h3' h') (by rw[lat,ak]) (by rw[ak]; omega) Lz (λi h' hx=>hat3.ext hx (ae _)) (λi hi h' hx=>by
   have hi':i<at'.length:=by rw[ak] at hi; exact hi
   have hxi:(at'.map λn=>((n:Nat):Int))[i]=((at'[i]:Nat):Int):=by rw[lS]
   rw[hxi]
   refine (zr (x:=at'[i]) (by rw[hx.gt _ om]; exact g3) (i3.ext hx (ae _)) hcl).mono λr h'' hq=>?_
   rw[mP]
   refine⟨hq.1,?_⟩
   split<;>exact hx.trans (hq.2.mono hx.nx))
  have hany:(at'.map λn=>((n:Nat):Int)).any (λz=>!((F[k].map λn=>((n:Nat):Int)).any (z==·)))=!(lD F at' k):=by
   rw[List.any_map,lD,hFk,List.not_all_eq_any_not]
   congr 1
   funext x
   simp only[Function.comp]
   rw[mP]
  rw[hany] at hcf
  refine aj (bO (bt 3 (M3 e3 rp e6) rfl (Z3 e3 rp e6) (M3 e3 rp e6) (hcf) λv h4 hq=>?_))
  obtain⟨rfl,hx⟩:=hq
  have x4:Ext h3'.next h3' h4:=by
   rcases hx with ⟨_,h⟩|⟨_,_,h⟩<;>exact h
  have x4':Ext h.next h h4:=x3'.trans (x4.mono (by have:=x3'.nx; omega))
  have j14:IsSl h4 1 (h.next+1) a (nC ((List.range k).filter (lD F at'))):=(j1.ext x3 (ae _)).ext x4 (ae _)
  have n4:=x4.nx
  have g4p:h4.get h.next=some (.cells [atv,.int .i64 s,.int .i64 e] 3 false):=by rw[x4.gt _ om]; exact g3p
  cases hA:lD F at' k with
  | false =>
    refine bI (by simp only[am,aF,simprocAttr,bQ,cr]<;>rfl) ?_
    refine dL (by simp only[am,aF,simprocAttr,bQ,cr]) (bK ?_)
    exact⟨a,⟨by rw[bD,Av]; simpa [hA] using j14,x4',g4p,om⟩,by simp only[hl,am,aF,simprocAttr,ei,en,e10,e3,e4]⟩
  | true =>
    refine bI (by simp only[am,aF,simprocAttr,bQ,cr]<;>rfl) ?_
    refine cX (by simp only[am,aF,simprocAttr,bQ,cr]) ?_
    have hll:((List.range k).filter (lD F at')).length<2 ^ 34:=by
     have:=ep (lD F at') (List.range k)
     rw[bF] at this
     omega
    obtain⟨v',h5,a5,i5,x5,n5,_,_⟩:=IsSl.grow j14 om hll k
    refine bT (λts h'=>h'=h5∧Held [(12,.int .i64 (k:Nat)),(11,.int .i64 (F.length:Nat)),(10,fav),(3,.ptr h.next 0),(4,v')] ts) (by simp only[am,aF,simprocAttr,ei,en,e10,e3,e4,e5,a5,cz,cK]) ?_
    rintro ts h5' ⟨rfl,hh⟩
    exact⟨v',⟨by rw[bD,Av]; simpa [hA] using i5,x4'.trans (x5.mono om),by rw[x5.gt _ om]; exact g4p,om⟩,hh⟩
 ·rintro a ts h2 ⟨j1,j2,j3,j4⟩ ⟨e10,e3,e4,-⟩
  refine aj (aB (M1 e4) ?_)
  exact bG ⟨a,(by simp only[rs,rf53,am,aF,simprocAttr,e4]<;>rfl),j1.mono om,j2⟩
end Go.Proofs.YtpeemonpdlifbaaGreat
namespace Go.Pla
open Go.Blk
variable {g:Gr}{Bl:List Nat}{H V:Nat→Bool}{pt:Nat→Nat}{e0 y1 y2:Nat}{i:List Nat}
structure Thr (g:Gr) (Bl:List Nat) (H V:Nat→Bool) (pt:Nat→Nat) (e0:Nat) (y1 y2:Nat) (i:List Nat):Prop where
 ch:Ch g Bl (y1::i++[y2])
 nd:(y1::i++[y2]).Nodup
 fr:∀ z∈i,V z=false
 v1:V y1=true
 v2:V y2=true
 new:i=[]→∀ e∈Bl,jn g e y1 y2=true→H e=false
 part:∀ e∈Bl,On g (y1::i++[y2]) e→pt e=pt e0
theorem xK {x y u v:Nat}{a b:List Nat} (hi:i≠[]) (h1:x::i++[y]=a++u::v::b):u∈i∨v∈i:=by
 obtain⟨q,i',rfl⟩:=dT hi
 cases a with
 | nil =>
   simp only[bj,aE] at h1
   injection h1 with h3 h4
   injection h4 with h4 _
   subst h4
   exact .inr (by simp)
 | cons c a =>
   simp only[aE] at h1
   injection h1 with h3 h4
   have:u∈q::i':=by
    have h5:(q::i'++[y]).dropLast=q::i':=wS
    rw[← h5,show q::i'++[y]=(a++[u])++(v::b) by rw[aE,h4]; simp,eC (by simp)]
    simp
   exact .inl this
theorem thr_edge (p:Pln g Bl) {k:Nat} (hk:k∈Bl) (hH:H k=false) (h1:V (g.tl k)=true) (h2:V (g.hd k)=true):Thr g Bl H V pt k (g.tl k) (g.hd k) []:=by
 have jk:jn g k (g.tl k) (g.hd k)=true:=by rw[jn_iff]; exact .inl ⟨rfl,rfl⟩
 refine⟨⟨⟨k,hk,jk⟩,trivial⟩,by simp [p.ne hk],by simp,h1,h2,λ_ e he hj=>by rw[p.one e he k hk _ _ hj jk]; exact hH,λe he ho=>?_⟩
 obtain⟨a,u,v,b,h3,h4⟩:=ho
 have hl:=congrArg List.length h3
 cases a with
 | nil =>
   simp only[bj,aE] at h3
   injection h3 with h5 h6
   injection h6 with h6 _
   subst h5 h6
   rw[p.one e he k hk _ _ h4 jk]
 | cons c a=>simp at hl; omega
theorem thr_mid (p:Pln g Bl) (hV:Plc g Bl H V) (P:Part g Bl H pt) {x0:Nat}{F:List (Nat×Nat)} (d:Deep g Bl H V x0 F) (h0:V x0=false) (he0:e0∈Bl) (ha0:at_ g e0 x0=true) (v1:V y1=true) (v2:V y2=true) (nd:(y1::i++[y2]).Nodup) (ch:Ch g Bl (y1::i++[y2])) (hi:i≠[]) (hin:∀ z∈i,z∈ks F∧V z=false):Thr g Bl H V pt e0 y1 y2 i:=by
 refine⟨ch,nd,λz hz=>(hin z hz).2,v1,v2,λh=>absurd h hi,λe he ho=>?_⟩
 obtain⟨a,u,v,b,h1,h2⟩:=ho
 have key:∀ z∈i,at_ g e z=true→pt e=pt e0:=λz hz ha=>Fz p hV P h0 he0 ha0 F.length (ae _) d.met z (hin z hz).1 (hin z hz).2 e he ha
 rcases xK hi h1 with h|h
 ·exact key u h (by rw[p.jat he h2]; simp [Ne.symm (p.jne he h2)])
 ·exact key v h (by rw[p.jat he h2]; simp [p.jne he h2])
theorem Thr.fresh (p:Pln g Bl) (hV:Plc g Bl H V) (t:Thr g Bl H V pt e0 y1 y2 i):∀ e∈Bl,On g (y1::i++[y2]) e→H e=false:=λe he ho=>by
 obtain⟨a,u,v,b,h1,h2⟩:=ho
 by_cases hi:i=[]
 ·subst hi
  have hl:=congrArg List.length h1
  cases a with
  | nil =>
    simp only[bj,aE] at h1
    injection h1 with h5 h6
    injection h6 with h6 _
    subst h5 h6
    exact t.new rfl e he h2
  | cons c a=>simp at hl; omega
 ·rcases xK hi h1 with h|h
  ·exact hV.fresh (t.fr u h) e he (by rw[p.jat he h2]; simp [Ne.symm (p.jne he h2)])
  ·exact hV.fresh (t.fr v h) e he (by rw[p.jat he h2]; simp [p.jne he h2])
theorem Thr.ends (p:Pln g Bl) (hV:Plc g Bl H V) (t:Thr g Bl H V pt e0 y1 y2 i):Hg g Bl H pt (pt e0) y1∧Hg g Bl H pt (pt e0) y2:=by
 have fresh:=t.fresh p hV
 have go:∀ {a b:List Nat}{u v:Nat},y1::i++[y2]=a++u::v::b→(∃ e∈Bl,jn g e u v=true)→(V u=true→Hg g Bl H pt (pt e0) u)∧(V v=true→Hg g Bl H pt (pt e0) v):=fun {a b u v} h ⟨e,he,hj⟩=>by
  have ho:On g (y1::i++[y2]) e:=⟨a,u,v,b,h,hj⟩
  refine⟨λhv=>?_,λhv=>?_⟩
  ·obtain⟨j,hj',ha,hH⟩:=(hV u).1 hv
   exact⟨e,he,fresh e he ho,t.part e he ho,by rw[p.jat he hj]; simp [Ne.symm (p.jne he hj)],j,hj',ha,hH⟩
  ·obtain⟨j,hj',ha,hH⟩:=(hV v).1 hv
   exact⟨e,he,fresh e he ho,t.part e he ho,by rw[p.jat he hj]; simp [p.jne he hj],j,hj',ha,hH⟩
 have hch:=t.ch
 constructor
 ·cases i with
  | nil=>exact (go (a:=[]) rfl hch.1).1 t.v1
  | cons q i=>exact (go (a:=[]) rfl hch.1).1 t.v1
 ·rcases cJ i with rfl|⟨i',q,rfl⟩
  ·exact (go (a:=[]) rfl hch.1).2 t.v2
  ·have e1:y1::(i'.concat q)++[y2]=(y1::i')++q::[y2]:=by simp
   rw[e1,gI] at hch
   exact (go e1 hch.2.1).2 t.v2
end Go.Pla
