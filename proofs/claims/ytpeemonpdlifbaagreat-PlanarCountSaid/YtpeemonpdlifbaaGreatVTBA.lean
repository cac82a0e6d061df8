/- planar -/
import Derived.Test.YtpeemonpdlifbaaGreatVTAZ
import Derived.Test.YtpeemonpdlifbaaGreatVTAD
set_option linter.all false
namespace Go.Proofs.YtpeemonpdlifbaaGreat
open Go.Am
open Go.Pla (at_ jn On Part Plc Hg Pln Bond Link tr full ks Hit Ch Thr)
theorem tX {h:AH}{bb n A:Nat}{ev edv:AV}{E:List (Int×Int)}{Bl:List Nat}{la pa:Nat}{H V:Nat→Bool}{fav:AV} (u:Bu h bb n ev edv E Bl la pa H V fav) (hg:h.get A=some (.cells [.ptr bb 0] 1 false)) {y:Nat} (hy:y<n):C prg 74 [.int .i64 (y:Nat),.ptr A 0] h λv h'=>v=.bool (!(V y))∧Ext h.next h h':=by
 refine LB pf74 ?_
 have r1:ar h A 0 1=some [.ptr bb 0]:=bq hg rfl
 have r4:ar h bb 4 1=some [.sl pa 0 n n]:=bq u.o rfl
 have iy:fU ((y:Nat):Int) n=some y:=dU hy
 have rv:ar h pa y 1=some [.bool (V y)]:=bq u.v (lY hy)
 refine aj (aB (Mi0) ?_)
 refine aj (bT (λts h'=>h'=h∧aY ts 3=.bool (!(V y))) (by simp only[am,aF,simprocAttr,bH,r1,r4,iy,aO,rv]) ?_)
 rintro ts h' ⟨rfl,e3⟩
 exact bG ⟨.bool (!(V y)),(by simp only[rs,rf74,am,aF,simprocAttr,e3]<;>rfl),rfl,Lz⟩
theorem CC {h:AH}{bb n A:Nat}{ev edv:AV}{E:List (Int×Int)}{Bl:List Nat}{la pa:Nat}{H V:Nat→Bool}{fav:AV} (u:Bu h bb n ev edv E Bl la pa H V fav) (hg:h.get A=some (.cells [.ptr bb 0] 1 false)) {y:Nat} (hy:y<n):C prg 75 [.int .i64 (y:Nat),.ptr A 0] h λv h'=>v=.bool (V y)∧Ext h.next h h':=by
 refine LB pf75 ?_
 have r1:ar h A 0 1=some [.ptr bb 0]:=bq hg rfl
 have r4:ar h bb 4 1=some [.sl pa 0 n n]:=bq u.o rfl
 have iy:fU ((y:Nat):Int) n=some y:=dU hy
 have rv:ar h pa y 1=some [.bool (V y)]:=bq u.v (lY hy)
 refine aj (aB (Mi0) ?_)
 refine aj (bT (λts h'=>h'=h∧aY ts 3=.bool (V y)) (by simp only[am,aF,simprocAttr,bH,r1,r4,iy,aO,rv]) ?_)
 rintro ts h' ⟨rfl,e3⟩
 exact bG ⟨.bool (V y),(by simp only[rs,rf75,am,aF,simprocAttr,e3]<;>rfl),rfl,Lz⟩
theorem CB {h:AH}{bb n A B y1:Nat}{ev edv:AV}{E:List (Int×Int)}{Bl:List Nat}{la pa:Nat}{H V:Nat→Bool}{fav:AV} (u:Bu h bb n ev edv E Bl la pa H V fav) (hg:h.get A=some (.cells [.ptr bb 0] 1 false)) (hb:h.get B=some (.cells [.int .i64 (y1:Nat)] 1 false)) {y:Nat} (hy:y<n):C prg 76 [.int .i64 (y:Nat),.ptr A 0,.ptr B 0] h λv h'=>v=.bool (V y&&!(decide (y=y1)))∧Ext h.next h h':=by
 refine LB pf76 ?_
 have r1:ar h A 0 1=some [.ptr bb 0]:=bq hg rfl
 have r2:ar h B 0 1=some [.int .i64 (y1:Nat)]:=bq hb rfl
 have r4:ar h bb 4 1=some [.sl pa 0 n n]:=bq u.o rfl
 have iy:fU ((y:Nat):Int) n=some y:=dU hy
 have rv:ar h pa y 1=some [.bool (V y)]:=bq u.v (lY hy)
 have d1:decide (((y:Nat):Int)=((y1:Nat):Int))=decide (y=y1):=by rw[decide_eq_decide]; omega
 refine aj (aB (Mi0) ?_)
 cases hv:V y with
 | false =>
   rw[hv] at rv
   refine aj (bT (λts h'=>h'=h∧aY ts 4=.bool false) (by simp only[am,aF,simprocAttr,bH,r1,r4,iy,aO,rv]) ?_)
   rintro ts h' ⟨rfl,e4⟩
   exact bG ⟨.bool false,(by simp only[rs,rf76,am,aF,simprocAttr,e4]<;>rfl),rfl,Lz⟩
 | true =>
   rw[hv] at rv
   refine aj (bT (λts h'=>h'=h∧aY ts 4=.bool (!(decide (y=y1)))) (by simp only[am,aF,simprocAttr,bH,r1,r2,r4,iy,aO,rv,d1]) ?_)
   rintro ts h' ⟨rfl,e4⟩
   exact bG ⟨.bool (!(decide (y=y1))),(by simp only[rs,rf76,am,aF,simprocAttr,e4]<;>rfl),by simp,Lz⟩
set_option maxHeartbeats 4000000 in
theorem EX {h:AH}{bb n lo:Nat}{ev edv atv:AV}{E:List (Int×Int)}{Bl:List Nat}{la pa:Nat}{H V:Nat→Bool}{fav:AV} (u:Bu h bb n ev edv E Bl la pa H V fav) (hE:InG n E) (hL:∀ i,i<E.length→tlE E i≠hdE E i) (hn:n<2 ^ 30) (hm:E.length<2 ^ 30) (hB:∀ i∈Bl,i<E.length) (hBn:Bl.length<2 ^ 30)
 (hp:Pln (grE n E hE hL) Bl) (hb:Bond (grE n E hE hL) Bl) (hl:Link (grE n E hE hL) Bl) (hV:Plc (grE n E hE hL) Bl H V) {pt:Nat→Nat} (P:Part (grE n E hE hL) Bl H pt) (hex:∃ j∈Bl,H j=true) {p:Pc}{e0:Nat} (hof:Of (grE n E hE hL) Bl H V pt p e0) (hat:IsSl h 1 lo atv (nC p.1)) (hlo:la<lo∧pa<lo) :
 C prg 54 [.ptr bb 0,.agg [atv,.int .i64 p.2.1,.int .i64 p.2.2]] h λv h'=>Ext h.next h h'∧∃ y1 y2 i,SlN h' v (y1::i++[y2])∧Off (λc=>c<lo∧c<h.next) v∧Thr (grE n E hE hL) Bl H V pt e0 y1 y2 i:=by
 have hBg:∀ i∈Bl,i<(grE n E hE hL).m:=hB
 refine LB pf54 ?_
 have x1:Ext h.next h (h.new (.cells [.ptr bb 0] 1 false)):=Ly (ae _)
 have g1:(h.new (.cells [.ptr bb 0] 1 false)).get h.next=some (.cells [.ptr bb 0] 1 false):=by rw[AH.get_new,if_pos rfl]
 have n1:(h.new (.cells [.ptr bb 0] 1 false)).next=h.next+1:=rfl
 obtain⟨h1,hh1⟩:∃ h1,h1=h.new (.cells [.ptr bb 0] 1 false):=⟨_,rfl⟩
 rw[← hh1] at x1 g1 n1
 have x2:Ext h1.next h1 (h1.new (.cells [atv,.int .i64 p.2.1,.int .i64 p.2.2] 3 false)):=Ly (ae _)
 have g2:(h1.new (.cells [atv,.int .i64 p.2.1,.int .i64 p.2.2] 3 false)).get h1.next=some (.cells [atv,.int .i64 p.2.1,.int .i64 p.2.2] 3 false):=by rw[AH.get_new,if_pos rfl]
 have n2:(h1.new (.cells [atv,.int .i64 p.2.1,.int .i64 p.2.2] 3 false)).next=h1.next+1:=rfl
 refine aj (bT (λts h'=>h'=h1.new (.cells [atv,.int .i64 p.2.1,.int .i64 p.2.2] 3 false)∧aY ts 2=.ptr h.next 0∧aY ts 3=.ptr (h.next+1) 0) (by simp only[am,aF,simprocAttr,bH,hat.cells.1,AV.cells,aw,aP,if_true,AH.next_new,hh1]) ?_)
 rintro ts h2 ⟨rfl,e2,e3⟩
 generalize h1.new (.cells [atv,.int .i64 p.2.1,.int .i64 p.2.2] 3 false)=h2 at *
 rw[n1] at g2 n2
 have x12:Ext h.next h h2:=x1.trans (x2.mono om)
 have gA2:h2.get h.next=some (.cells [.ptr bb 0] 1 false):=by rw[x2.gt _ om]; exact g1
 have u2:=u.ext x12 (ae _)
 have hat2:=hat.ext x12 (ae _)
 have rsm:ar h2 (h.next+1) 1 1=some [.int .i64 p.2.1]:=bq g2 rfl
 have ra:ar h2 (h.next+1) 0 1=some [atv]:=bq g2 rfl
 rcases hof.kind with ⟨k1,k2,k3,k4⟩|⟨x0,k1,k2,k3,k4⟩
 ·have dz:decide (p.2.1<0)=true:=by rw[k1]; rfl
  refine aj (aj (aB (M3 e3 rsm dz) ?_))
  refine cX (Z1 dz) ?_
  refine aj (bT (λts h'=>h'=h2∧aY ts 4=atv) (by simp only[am,aF,simprocAttr,e3,ra]) ?_)
  rintro ts h2' ⟨rfl,e4⟩
  refine bG ⟨atv,(by simp only[rs,rf54,am,aF,simprocAttr,e4]<;>rfl),x12,_,_,[],?_,IsSl.off hat λc hc=>hc.1,Go.Pla.thr_edge hp hof.mem hof.new k2 k3⟩
  have:=eu hat2
  rw[k4] at this
  exact this
 ·have dz:decide (p.2.1<0)=false:=by rw[k1,aV]; omega
  refine aj (aj (aB (M3 e3 rsm dz) ?_))
  refine dL (Z1 dz) (bK ?_)
  rw[k1] at rsm
  have k2:x0<n:=k2
  refine aj (aB (M1 e2) ?_)
  obtain⟨F,hF⟩:∃ F,F=full (grE n E hE hL) Bl H (λz=>!(V z)) (n+1) ([(x0,x0)],[x0]):=⟨_,rfl⟩
  have hdeep:Go.Pla.Deep (grE n E hE hL) Bl H V x0 F:=by rw[hF]; exact Go.Pla.deep_full hp hV k3 k2 (Nat.le_succ _)
  have rA:ar h2 h.next 0 1=some [.ptr bb 0]:=bq gA2 rfl
  have hw1:=rL u2 hE hL hn hm hB hBn k2 (ke:=75) (kt:=74) (ce:=[.ptr h.next 0]) (ct:=[.ptr h.next 0]) (fin:=V) (thr:=λz=>!(V z)) (λy hy h' x'=>CC (u2.ext x' (ae _)) (by rw[x'.gt _ om]; exact gA2) hy) (λy hy h' x'=>tX (u2.ext x' (ae _)) (by rw[x'.gt _ om]; exact gA2) hy)
  rw[← hF] at hw1
  refine aj (bO (bt 5 (M4 e2 e3 rA rsm) rfl (Z4 e2 e3 rA rsm) (M4 e2 e3 rA rsm) (hw1) λfv h3 hq=>?_))
  obtain⟨x3,o1,hit1,res1⟩:=hq
  refine bI (M0) ?_
  obtain⟨y1,ho1,hy1,hv1⟩:=Go.Pla.first_end hp hl hV hdeep k3 hof.mem k4 hex hit1
  subst ho1
  have res1:IsSl h3 1 h2.next fv (nC (tr F y1)):=res1
  have x3':Ext h.next h h3:=x12.trans (x3.mono x12.nx)
  obtain⟨t1,q1,q2,q3,q4,q5⟩:=Go.Pla.tr_ok F.length (ae _) hdeep.met y1 hy1
  obtain⟨s1,hs1⟩:=Go.Pla.lst_cat (r:=x0) (t:=t1)
  rw[q2] at hs1
  have hp1:tr F y1=s1++[y1]:=by rw[q1,hs1]
  have hFl:F.length≤n:=by
   have:=Go.Pla.nd_lt hdeep.met.nd (hdeep.met.lt hBg k2)
   rw[ks,ak] at this; exact this
  have L1:(tr F y1).length≤n:=cN (Go.Pla.tr_len F y1) hFl
  have lf:=(eu res1).len
  rw[ak,ak] at lf
  have hp1l:(tr F y1).length=s1.length+1:=by rw[hp1]; simp
  have ws1:IntKind.i64.wrap (((tr F y1).length:Nat)-(1:Int))=((s1.length:Nat):Int):=by
   have:(((tr F y1).length:Nat):Int)-1=((s1.length:Nat):Int):=om
   rw[this]; exact fz om om
  obtain⟨b6,o6,a6,r6,_⟩:=(eu res1).at1 (i:=s1.length) (y:=.int .i64 (y1:Nat)) (by
   rw[aG,aG,hp1,aU (ae _),eO]; rfl)
  obtain⟨h4,w4,x4,g4,n4⟩:=gm (h:=h3) (z:=[.int .i64 0]) (cs:=[.int .i64 (y1:Nat)]) (e:=1) rfl
  refine aj (bT (λts h'=>h'=h4∧aY ts 2=.ptr h.next 0∧aY ts 3=.ptr (h.next+1) 0∧aY ts 5=.fn 74 [.ptr h.next 0]∧aY ts 6=fv∧aY ts 7=.ptr h3.next 0) (by simp only[am,aF,simprocAttr,e2,e3,lf,ws1,a6,r6,w4]) ?_)
  rintro ts h4' ⟨rfl,e2,e3,e5,e6,e7⟩
  have n3:=x3.nx
  have x4':Ext h.next h h4':=x3'.trans (x4.mono om)
  have u4:=u.ext x4' (ae _)
  have gA4:h4'.get h.next=some (.cells [.ptr bb 0] 1 false):=by rw[x4.gt _ om,x3.gt _ om]; exact gA2
  have gB4:h4'.get (h.next+1)=some (.cells [atv,.int .i64 p.2.1,.int .i64 p.2.2] 3 false):=by rw[x4.gt _ om,x3.gt _ om]; exact g2
  have rA4:ar h4' h.next 0 1=some [.ptr bb 0]:=bq gA4 rfl
  have rs4:ar h4' (h.next+1) 1 1=some [.int .i64 p.2.1]:=bq gB4 rfl
  rw[k1] at rs4
  have hw2:=rL u4 hE hL hn hm hB hBn k2 (ke:=76) (kt:=74) (ce:=[.ptr h.next 0,.ptr h3.next 0]) (ct:=[.ptr h.next 0]) (fin:=λy=>V y&&!(decide (y=y1))) (thr:=λz=>!(V z)) (λy hy h' x'=>CB (u4.ext x' (ae _)) (by rw[x'.gt _ om]; exact gA4) (by rw[x'.gt _ om]; exact g4) hy) (λy hy h' x'=>tX (u4.ext x' (ae _)) (by rw[x'.gt _ om]; exact gA4) hy)
  rw[← hF] at hw2
  refine aj (bO (bt 5 (M6 e2 e3 e5 e7 rA4 rs4) rfl (Z6 e2 e3 e5 e7 rA4 rs4) (M6 e2 e3 e5 e7 rA4 rs4) (hw2) λsv h5 hq=>?_))
  obtain⟨x5,o2,hit2,res2⟩:=hq
  refine bI (M0) ?_
  obtain⟨y2,ho2,hy2,hv2,hne⟩:=Go.Pla.second_end hp hb hV hdeep k3 hy1 hv1 hit2
  subst ho2
  have res2:IsSl h5 1 h4'.next sv (nC (tr F y2)):=res2
  have x5':Ext h.next h h5:=x4'.trans (x5.mono om)
  obtain⟨t2,r1,r2,r3,r4,r5⟩:=Go.Pla.tr_ok F.length (ae _) hdeep.met y2 hy2
  have L2:(tr F y2).length≤n:=cN (Go.Pla.tr_len F y2) hFl
  have res1':=(res1.ext x4 (ae _)).ext x5 (ae _)
  have lf:=(eu res1').len
  rw[ak,ak] at lf
  have ls:=(eu res2).len
  rw[ak,ak] at ls
  refine aj (aB (M0) ?_)
  obtain⟨P1,hP1⟩:∃ P1,P1=tr F y1:=⟨_,rfl⟩
  obtain⟨P2,hP2⟩:∃ P2,P2=tr F y2:=⟨_,rfl⟩
  rw[← hP1] at res1' lf L1 q1 hp1 hp1l
  rw[← hP2] at res2 ls L2 r1
  have at0:P1[0]?=some x0∧P2[0]?=some x0:=by rw[q1,r1]; exact⟨rfl,rfl⟩
  refine aj (sV (λts h'=>h'=h5∧aY ts 6=fv∧aY ts 8=sv∧∃ k,aY ts 9=.int .i64 (k:Nat)∧k≤P1.length∧k≤P2.length∧P1.take k=P2.take k∧(k<P1.length→k<P2.length→P1[k]?≠P2[k]?)) ?_ ?_)
  ·refine cL (fW (λm ts h'=>h'=h5∧aY ts 6=fv∧aY ts 8=sv∧∃ k,m=P1.length-k∧aY ts 9=.int .i64 (k:Nat)∧k≤P1.length∧k≤P2.length∧P1.take k=P2.take k) ?_ (n:=P1.length) ⟨rfl,Z1 e6,Z0,0,rfl,Z1 @cH,fq _,fq _,by simp⟩)
   rintro m ts h' ⟨rfl,e6,e8,k,rfl,e9,hk1,hk2,htk⟩
   by_cases c1:k<P1.length
   ·have d1:decide (((k:Nat):Int)<((P1.length:Nat):Int))=true:=by rw[aA]; omega
    by_cases c2:k<P2.length
    ·have d2:decide (((k:Nat):Int)<((P2.length:Nat):Int))=true:=by rw[aA]; omega
     obtain⟨b7,o7,a7,r7,_⟩:=(eu res1').at1 (i:=k) (y:=.int .i64 (P1[k]:Nat)) (by rw[aG,aG,ah c1]; rfl)
     obtain⟨b8,o8,a8,r8,_⟩:=(eu res2).at1 (i:=k) (y:=.int .i64 (P2[k]:Nat)) (by rw[aG,aG,ah c2]; rfl)
     by_cases c3:P1[k]=P2[k]
     ·have d3:decide (((P1[k]:Nat):Int)=((P2[k]:Nat):Int))=true:=by rw[aA,c3]
      refine aj (aj (aB (M12 e9 e6 e8 lf ls d1 d2 a7 r7 a8 r8 d3) ?_))
      refine cX (Z1 d3) (bK (cL ?_))
      have wk:IntKind.i64.wrap (((k:Nat):Int)+1)=((k+1:Nat):Int):=fz om om
      refine bT (λts h''=>h''=h'∧aY ts 6=fv∧aY ts 8=sv∧aY ts 9=.int .i64 ((k+1:Nat):Int)) (by simp only[am,aF,simprocAttr,e6,e8,e9,wk]) ?_
      rintro ts h'' ⟨rfl,e6,e8,e9⟩
      exact⟨_,om,rfl,e6,e8,k+1,rfl,e9,om,om,by rw[eJ,eJ,htk,ah c1,ah c2,c3]⟩
     ·have d3:decide (((P1[k]:Nat):Int)=((P2[k]:Nat):Int))=false:=by rw[aV]; omega
      refine aj (aj (aB (M12 e9 e6 e8 lf ls d1 d2 a7 r7 a8 r8 d3) ?_))
      refine dL (Z1 d3) (ft ⟨λ_=>⟨rfl,Z1 e6,Z1 e8,k,Z1 e9,hk1,hk2,htk,λh1 h2=>by
       rw[ah h1,ah h2]
       simpa using c3⟩,λe=>absurd rfl e⟩)
    ·have d2:decide (((k:Nat):Int)<((P2.length:Nat):Int))=false:=by rw[aV]; omega
     refine aj (aj (aB (M7 e9 e6 e8 lf ls d1 d2) ?_))
     exact dL (Z1 d2) (ft ⟨λ_=>⟨rfl,Z1 e6,Z1 e8,k,Z1 e9,hk1,hk2,htk,λ_ h2=>absurd h2 c2⟩,λe=>absurd rfl e⟩)
   ·have d1:decide (((k:Nat):Int)<((P1.length:Nat):Int))=false:=by rw[aV]; omega
    refine aj (aj (aB (M6 e9 e6 e8 lf ls d1) ?_))
    exact dL (Z1 d1) (ft ⟨λ_=>⟨rfl,Z1 e6,Z1 e8,k,Z1 e9,hk1,hk2,htk,λh1 _=>absurd h1 c1⟩,λe=>absurd rfl e⟩)
  ·clear e2 e3 e5 e6 e7
   rintro ts h5' ⟨rfl,e6,e8,k,e9,hk1,hk2,htk,hend⟩
   have hk0:0<k:=by
    refine Ar λh0=>?_
    subst h0
    have l1:0<P1.length:=by rw[q1]; simp
    have l2:0<P2.length:=by rw[r1]; simp
    exact hend l1 l2 (by rw[at0.1,at0.2])
   obtain⟨k',rfl⟩:∃ k',k=k'+1:=⟨k-1,om⟩
   have c1:k'<P1.length:=om
   have c2:k'<P2.length:=om
   have hv:P1[k']=P2[k']:=by
    have h1:(P1.take (k'+1))[k']?=(P2.take (k'+1))[k']?:=by rw[htk]
    rw[cQ,cQ,if_pos om,if_pos om,ah c1,ah c2] at h1
    injection h1
   have e1:P1=P1.take k'++P1[k']::P1.drop (k'+1):=by rw[← bX c1,cD]
   have e2:P2=P1.take k'++P1[k']::P2.drop (k'+1):=by
    have h1:P1.take k'=P2.take k':=by
     have:=congrArg (List.take k') htk
     rw[wO,wO,dZ om] at this
     exact this
    rw[h1,hv,← bX c2,cD]
   obtain⟨c,hc⟩:∃ c,c=P1.take k':=⟨_,rfl⟩
   obtain⟨v,hv'⟩:∃ v,v=P1[k']:=⟨_,rfl⟩
   obtain⟨a,ha⟩:∃ a,a=P1.drop (k'+1):=⟨_,rfl⟩
   obtain⟨b,hb'⟩:∃ b,b=P2.drop (k'+1):=⟨_,rfl⟩
   rw[← hc,← hv',← ha] at e1
   rw[← hc,← hv',← hb'] at e2
   have hdiff:∀ z a' b',a=z::a'→b=z::b'→False:=λz a' b' h1 h2=>by
    have l1:k'+1<P1.length:=by
     have:=congrArg List.length (ha▸h1:P1.drop (k'+1)=z::a')
     rw[dR,aw] at this; omega
    have l2:k'+1<P2.length:=by
     have:=congrArg List.length (hb'▸h2:P2.drop (k'+1)=z::b')
     rw[dR,aw] at this; omega
    refine hend l1 l2 ?_
    have h3:(P1.drop (k'+1))[0]?=some z:=by rw[← ha,h1]; rfl
    have h4:(P2.drop (k'+1))[0]?=some z:=by rw[← hb',h2]; rfl
    rw[ew] at h3 h4
    rw[dh] at h3 h4
    rw[h3,h4]
   obtain⟨i,m1,m2,m3,m4,m5⟩:=Go.Pla.mid_way hp hV hdeep k3 hy1 hy2 hv1 hv2 hne (hP1▸e1) (hP2▸e2) hdiff
   have hThr:=Go.Pla.thr_mid (pt:=pt) (e0:=e0) hp hV P hdeep k3 hof.mem k4 hv1 hv2 m2 m3 m4 m5
   have hPl:P1.length=c.length+1+a.length:=by rw[e1,aI,aw]; omega
   have hcl:c.length=k':=by rw[hc,bS]; omega
   rcases res1' with ⟨_,hz⟩|⟨b1,nn,hb1,rfl,gb1,hl1⟩
   ·have:=congrArg List.length hz
    rw[gT,aP] at this
    omega
   rw[gT,aO] at hl1
   subst hl1
   have wk:IntKind.i64.wrap (((k'+1:Nat):Int)-1)=((k':Nat):Int):=by
    have:((k'+1:Nat):Int)-1=((k':Nat):Int):=om
    rw[this]; exact fz om om
   have st:=Eo (L:=P1.length) (k:=k') (c:=P1.length) gb1 c1 (ae _) (Nat.le_of_lt c1)
   rw[aO] at st
   refine aj (bT (λts h'=>h'=h5'∧aY ts 6=.sl b1 k' (P1.length-k') (P1.length-k')∧aY ts 8=sv∧aY ts 9=.int .i64 ((k'+1:Nat):Int)) (by simp only[am,aF,simprocAttr,eF,bW,e6,e8,e9,wk,st]) ?_)
   rintro ts h5'' ⟨rfl,e6,e8,e9⟩
   obtain⟨d,hd⟩:∃ d:Array Int,d=((v::a).map λn=>((n:Nat):Int)).toArray:=⟨_,rfl⟩
   have hds:d.size=P1.length-k':=by rw[hd]; simp; omega
   have hdi:gH d=nC (v::a):=by rw[hd,nC,mW]; rfl
   have hn1:nC P1=nC c++nC (v::a):=by rw[← rV,← e1]
   have hsp:dI (nC P1) k' (gH d)=nC P1:=by
    refine pS ?_ ?_
    ·rw[gR,gT,hds]; omega
    ·rw[hn1,Hj,gT,hcl,eO,bJ,dm (by rw[gT]; omega),bj,hdi]
     exact de (ae _)
   have gb1':h5''.get b1=some (lN (nC P1) k' d):=by rw[lN,hsp]; exact gb1
   have hrev:=rF (c:=P1.length-k') gb1' (by rw[gT,hds]; omega) (by rw[hds]; omega)
   rw[hds] at hrev
   refine aj (bO (bt 1 (M1 e6) rfl (Z1 e6) (M1 e6) (hrev) λv6 h6 hq=>?_))
   refine bI (M0) ?_
   have hb1lt:b1<h4'.next:=by
    have:=res1.lt (b:=b1) (o:=0) (n:=P1.length) (c:=P1.length) rfl
    omega
   have s6:SlI h6 (.sl b1 k' (P1.length-k') (P1.length-k')) d.reverse.toList:=by
    have:=Lp (c:=P1.length-k') hq.get (by rw[gT]; simp; omega) (by simp; omega)
    rwa [show d.reverse.size=P1.length-k' by simp; omega] at this
   have res26:IsSl h6 1 h4'.next sv (nC P2):=res2.cong λb m e hb=>hq.ne om
   obtain⟨sv',st2,ssv,_,_⟩:=(eu res26).from (lo:=k'+1) (by rw[ak,ak]; exact hk2)
   have hdrop:((P2.map λn=>((n:Nat):Int)).map eI).drop (k'+1)=(b.map λn=>((n:Nat):Int)).map eI:=by rw[hb',← fQ,← fQ]
   rw[hdrop] at ssv
   have x7:Ext h6.next h6 (h6.new (.cells [.sl b1 k' (P1.length-k') (P1.length-k'),sv'] 1 false)):=Ly (ae _)
   have g7:(h6.new (.cells [.sl b1 k' (P1.length-k') (P1.length-k'),sv'] 1 false)).get h6.next=some (.cells [.sl b1 k' (P1.length-k') (P1.length-k'),sv'] 1 false):=by rw[AH.get_new,if_pos rfl]
   have n7:(h6.new (.cells [.sl b1 k' (P1.length-k') (P1.length-k'),sv'] 1 false)).next=h6.next+1:=rfl
   have rp2:dg [AV.nils] 2=[.nils,.nils]:=rfl
   have hrl:d.reverse.toList=((v::a).reverse).map λn=>((n:Nat):Int):=by rw[hd]; simp
   have hcat:=sH (h:=h6.new (.cells [.sl b1 k' (P1.length-k') (P1.length-k'),sv'] 1 false)) (v:=.sl h6.next 0 2 2) (vs:=[.sl b1 k' (P1.length-k') (P1.length-k'),sv']) (xss:=[((v::a).reverse).map λn=>((n:Nat):Int),b.map λn=>((n:Nat):Int)]) (Sl.row g7 rfl (ae _)) rfl (λi w xs h1 h2=>by
    have hi:i=0∨i=1:=by
     have:=(aK.1 h1).1
     simp at this; omega
    rcases hi with rfl|rfl
    ·simp only[bd,aa] at h1 h2
     subst h1 h2
     rw[← hrl]; exact s6.ext x7 (ae _)
    ·simp only[cG,bd,aa] at h1 h2
     subst h1 h2
     exact Sl.ext ssv x7 (ae _)) (by simp) (by
    have h1:b.length≤P2.length:=by rw[hb',dR]; omega
    simp only[eK,lT,dG,aI,ak,List.length_reverse,aw]
    omega)
   refine aj (bO (bt 5 (by simp only[am,aF,simprocAttr,eF,bW,e6,e8,e9,st2,ssv.cells.1,ssv.cells.2,rp2,aw,aP,cF,bJ,Nat.reduceAdd,Nat.reduceLeDiff,if_true]<;>rfl) rfl (by simp only[am,aF,simprocAttr,eF,bW,e6,e8,e9,st2,ssv.cells.1,ssv.cells.2,rp2,aw,aP,cF,bJ,Nat.reduceAdd,Nat.reduceLeDiff,if_true]) (by simp only[am,aF,simprocAttr,eF,bW,e6,e8,e9,st2,ssv.cells.1,ssv.cells.2,rp2,aw,aP,cF,bJ,Nat.reduceAdd,Nat.reduceLeDiff,if_true]<;>rfl) (hcat) λrv h8 hq8=>?_))
   obtain⟨i8,x8⟩:=hq8
   refine bI (M0) ?_
   have n6:=hq.nx
   have n5:=x5.nx
   have hfl:([((v::a).reverse).map λn=>((n:Nat):Int),b.map λn=>((n:Nat):Int)].flatten).flatMap eI=nC (y1::i++[y2]):=by
    rw[← m1,nC]
    congr 1
    simp
   rw[hfl,n7] at i8
   refine bG ⟨rv,(by simp only[rs,rf54,am,aF,simprocAttr]<;>rfl),?_,y1,y2,i,eu i8,IsSl.off i8 λc hc=>?_,hThr⟩
   ·exact x5'.trans (((hq.ext (show h.next≤b1 by have:=x12.nx; omega)).trans (x7.mono om)).trans (x8.mono (by rw[n7]; omega)))
   ·have l1:=AH.lt_of_get u.l
    have l2:=AH.lt_of_get u.v
    omega
end Go.Proofs.YtpeemonpdlifbaaGreat
