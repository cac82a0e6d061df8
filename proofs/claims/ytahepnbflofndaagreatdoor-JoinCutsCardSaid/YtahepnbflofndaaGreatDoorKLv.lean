/- arborlaw13.great. -/
import Derived.Test.YtahepnbflofndaaGreatDoorKLe
import Derived.Test.YtahepnbflofndaaGreatDoorKNi
import Derived.Test.YtahepnbflofndaaGreatDoorKLh
import Derived.Test.YtahepnbflofndaaGreatDoorKLq
import Derived.Test.YtahepnbflofndaaGreatDoorKLr
import Derived.Test.YtahepnbflofndaaGreatDoorKLs
import Derived.Test.YtahepnbflofndaaGreatDoorKLm
import Derived.Test.YtahepnbflofndaaGreatDoorKLi
import Derived.Test.YtahepnbflofndaaGreatDoorKSy
import Derived.KernelRfl
set_option linter.all false
namespace Go.Proofs.YtahepnbflofndaaGreatDoor
open Go.Am
theorem Bk {h:AH}{n:Int}{ev:AV}{E:List (Int×Int)} (he:SlE h ev E) :
 C prg 18 [.agg [.int .i64 n,ev]] h λr h'=>r=.bool ((decide (20<n)&&fy n E)||decide (30<E.length))∧Ext h.next h h':=by
 have el:=he.len;rw[ai] at el;obtain⟨ec,eo⟩:=he.cells;have e30:decide ((30:Int)<((E.length:Nat):Int))=decide (30<E.length):=by rw[decide_eq_decide]; omega
 refine Mw pf18 ?_;refine ae (aj (Mi0) ?_);have x0:Ext h.next h (h.new (.cells [.int .i64 n,ev] 2 false)):=Mt (ab _);have g0:(h.new (.cells [.int .i64 n,ev] 2 false)).get h.next=some (.cells [.int .i64 n,ev] 2 false):=by rw[AH.get_new,if_pos rfl]
 have n0:(h.new (.cells [.int .i64 n,ev] 2 false)).next=h.next+1:=rfl;generalize (h.new (.cells [.int .i64 n,ev] 2 false))=h1 at *
 have rN:ak h1 h.next 0 1=some [.int .i64 n]:=bm g0 rfl;have rE:ak h1 h.next 1 1=some [ev]:=bm g0 rfl;have rA:ak h1 h.next 0 2=some [.int .i64 n,ev]:=by rw[aU g0]; rfl
 by_cases q:20<n
 ·have c1:decide (20<n)=true:=aH q;refine ae (bN (bo 5 (Mi3 rN rA c1) rfl (Zi3 rN rA c1) (Mi3 rN rA c1) (yP (n:=n) (he.ext x0 (ab _))) λr h2 hq=>?_));obtain⟨rfl,x2⟩:=hq;have g2:h2.get h.next=some (.cells [.int .i64 n,ev] 2 false):=by rw[x2.gt _ om]; exact g0
  have rE2:ak h2 h.next 1 1=some [ev]:=bm g2 rfl;rw[c1,mX];cases hm:fy n E with
  | true =>
    refine bH (M0) ?_;exact br ⟨.bool true,(by simp only[rs,rf18,am,aK,simprocAttr]<;>rfl),rfl,x0.trans (x2.mono om)⟩
  | false =>
    refine bH (M3 rE2 el e30) ?_;exact br ⟨.bool (decide (30<E.length)),(by simp only[rs,rf18,am,aK,simprocAttr]<;>rfl),rfl,x0.trans (x2.mono om)⟩
 ·have c1:decide (20<n)=false:=aw q;refine ae (bN (eW 5 (Mi2 rN c1) rfl (Z0) ?_));refine bH (M3 rE el e30) ?_;exact br ⟨.bool (decide (30<E.length)),(by simp only[rs,rf18,am,aK,simprocAttr]<;>rfl),by rw[c1,ee,Aq],x0⟩
theorem fld0 {x:AV}{r:List AV}:Eo false 0 1 (.agg (x::r))=some x:=rfl
open Go.Am
open Go.Blk (Gr Lst canon)
theorem IZ:skH0=AH.zero.keep 106:=by kernel_rfl
theorem FR {h:AH}{a u:AV}{l:List Int}{L:List (List Int)} (s:SlI h a l) (t:SlL h u L):AV.same (.agg [a,u]) (.agg [a,u])=true:=by
 have k1:=sG s;obtain⟨ws,t1,_⟩:=t;have k2:=sG t1;simp only[AV.same,AV.sames,k1,k2,mY]
theorem DN {n:Nat}{E:List (Int×Int)}{order:List Int}{outs:List (List Int)} (ok:OKP (n:Nat) E order outs) (hE:InG n E) (hL:∀ i,i<E.length→tlE E i≠hdE E i) {l:Nat→Nat} (hl:Lst (grE n E hE hL) l) {b:List Nat} (hb:b∈canon E.length l) :
 OKP (((vsM n E (nI b)).length:Nat):Int) (fO n E (nI b)) (gj n E b order) (jS n E b outs):=by
 obtain⟨⟨hg,hp⟩,r,hr⟩:=ok;rw[aY] at hp hr;obtain⟨k1,k2,k3,k4⟩:=jD hb;have hg':=DP hg hE hL hl hb;refine⟨⟨hg',?_⟩,?_⟩
 ·rw[aY];exact HK hE k2 k4 hp
 ·rw[aY];exact HJ hE k2 k4 hg hg' hp hr
set_option maxHeartbeats 1000000 in
theorem HI {os:List AO}{n:Int}{ev ordv outv:AV}{ne no nu:Nat}{E:List (Int×Int)}{order:List Int}{outs:List (List Int)} (hos:os.length=104) (c:Came (news os AH.zero) ev ordv outv ne no nu E order outs) :
 C prg 6 [.agg [.int .i64 n,ev],.agg [ordv,outv]] (news os AH.zero) λv _=>v=.bool true:=by
 have hnx:(news os AH.zero).next=112:=by rw[vC,hos]; rfl
 refine Mw pf6 ?_;refine ae (aj (Mi0) ?_);have hsp:=De (f:=17) IY IZ (os:=os++[.cells [.int .i64 n,ev] 2 false,.cells [ordv,outv] 2 false]) (by rw[aN,hos]; rfl) (by decide);rw[← tv] at hsp;have ga:∀ c,(((news os AH.zero).new (.cells [.int .i64 n,ev] 2 false)).new (.cells [ordv,outv] 2 false)).get c=if c=(news os AH.zero).next+1 then some (.cells [ordv,outv] 2 false) else if c=(news os AH.zero).next then some (.cells [.int .i64 n,ev] 2 false) else (news os AH.zero).get c:=λc=>by
  rw[AH.get_new,AH.get_new];rfl
 have hk0:∀ b o,(news os AH.zero).get b=some o→(((news os AH.zero).new (.cells [.int .i64 n,ev] 2 false)).new (.cells [ordv,outv] 2 false)).get b=some o:=λb o hb=>by
  have:=AH.lt_of_get hb;rw[ga,if_neg om,if_neg om];exact hb
 generalize ((news os AH.zero).new (.cells [.int .i64 n,ev] 2 false)).new (.cells [ordv,outv] 2 false)=h1 at *
 have gG:h1.get (news os AH.zero).next=some (.cells [.int .i64 n,ev] 2 false):=by rw[ga,if_neg om,if_pos rfl]
 have gP:h1.get ((news os AH.zero).next+1)=some (.cells [ordv,outv] 2 false):=by rw[ga,if_pos rfl]
 generalize (news os AH.zero).next=nx at *
 subst hnx;refine ae (ae (bN (iZ (Z0) (M0) (hsp) λr h2 hq=>?_)));obtain⟨rfl,hn2,hk2⟩:=hq;refine bH (M0) ?_;refine dL (Z0) (bu ?_);have c2:=c.stay (h':=h2) λb o hb=>hk2 b o (hk0 b o hb);have gG2:=hk2 _ _ gG;have gP2:=hk2 _ _ gP;have rG:ak h2 112 0 2=some [.int .i64 n,ev]:=by rw[aU gG2]; rfl
 refine ae (ae (bN (bo 1 (Mi1 rG) rfl (Zi1 rG) (Mi1 rG) (Bk (n:=n) c2.e) λr h3 hq=>?_)));obtain⟨rfl,x3⟩:=hq;have n3:=x3.nx;have c3:=c2.ext x3;have gG3:h3.get 112=some (.cells [.int .i64 n,ev] 2 false):=by rw[x3.gt _ om]; exact gG2
 have gP3:h3.get 113=some (.cells [ordv,outv] 2 false):=by rw[x3.gt _ om]; exact gP2
 have rG3:ak h3 112 0 2=some [.int .i64 n,ev]:=by rw[aU gG3]; rfl
 have rP3:ak h3 113 0 2=some [ordv,outv]:=by rw[aU gP3]; rfl
 cases hb13:((decide (20<n)&&fy n E)||decide (30<E.length)) with
 | true =>
   refine eW 3 (M0) rfl (Z0) ?_;refine bH (M0) ?_;refine db (Z0) (ae (aj (M0) ?_));exact br ⟨.bool true,(by simp only[rs,rf6,am,aK,simprocAttr]<;>rfl),rfl⟩
 | false =>
 refine bo 3 (Mi2 rG3 rP3) rfl (Zi2 rG3 rP3) (Mi2 rG3 rP3) (Hn (n:=n) c3.le c3.lo c3.lu c3.u) λr h4 hq=>?_;obtain⟨⟨b,rfl,hb⟩,x4⟩:=hq;refine bH (M0) ?_;cases b with
 | true =>
   refine db (Z0) (ae (aj (M0) ?_));exact br ⟨.bool true,(by simp only[rs,rf6,am,aK,simprocAttr]<;>rfl),rfl⟩
 | false =>
 obtain⟨b1,b2,b3,b4⟩:=hb rfl;have c4:=c3.ext x4;obtain⟨l1,l2,l3⟩:=c4.lens;have l3:=l3 b3;refine dL (Z0) (bu ?_);have n4:=x4.nx;have gG4:h4.get 112=some (.cells [.int .i64 n,ev] 2 false):=by rw[x4.gt _ om]; exact gG3
 have gP4:h4.get 113=some (.cells [ordv,outv] 2 false):=by rw[x4.gt _ om]; exact gP3
 have rG4:ak h4 112 0 2=some [.int .i64 n,ev]:=by rw[aU gG4]; rfl
 have rP4:ak h4 113 0 2=some [ordv,outv]:=by rw[aU gP4]; rfl
 refine ae (bN (bo 2 (Mi2 rG4 rP4) rfl (Zi2 rG4 rP4) (Mi2 rG4 rP4) (Kd (n:=n) c4.e om c4.o (c4.u b3) om om b4) λr h5 hq=>?_));obtain⟨x5,hbad,hgood⟩:=hq;have n5:=x5.nx;have c5:=c4.ext x5;have gG5:h5.get 112=some (.cells [.int .i64 n,ev] 2 false):=by rw[x5.gt _ om]; exact gG4
 have gP5:h5.get 113=some (.cells [ordv,outv] 2 false):=by rw[x5.gt _ om]; exact gP4
 have rG5:ak h5 112 0 2=some [.int .i64 n,ev]:=by rw[aU gG5]; rfl
 have rP5:ak h5 113 0 2=some [ordv,outv]:=by rw[aU gP5]; rfl
 have hruns:=yL (n:=n) c5.e om c5.o (c5.u b3) om om b4;by_cases ok:¬ OKP n E order outs
 ·have hr:=hbad ok;subst hr;refine bH (M0) ?_;refine ae (ae (bN (bo 2 (Mi2 rG5 rP5) rfl (Zi2 rG5 rP5) (Mi2 rG5 rP5) (hruns) λr h6 hq=>?_)));obtain⟨⟨b,rfl,hb⟩,x6⟩:=hq;have hbf:b=false:=by
   cases b with
   | false=>rfl
   | true=>exact absurd (hb.1 rfl) ok
  subst hbf;refine bH (M0) ?_;refine db (Z0) (ae (aj (M2 @pm @decide_true) ?_));exact br ⟨.bool true,(by simp only[rs,rf6,am,aK,simprocAttr]<;>rfl),rfl⟩
 have ok:OKP n E order outs:=Classical.byContradiction ok;obtain⟨a,rfl,hql⟩:=hgood ok;have hg:=ok.1.1;have hm:=hg.1;have hn:n=((n.toNat:Nat):Int):=by
  have:=hm;unfold fy at this;simp only[aM,aJ] at this;omega
 have hL:=qJ hg;generalize n.toNat=nn at *
 subst hn;have hE:=tO hm;obtain⟨m1,m2,m3,m4⟩:=iQ hm;refine bH (M0) ?_;refine ae (ae (bN (bo 2 (Mi2 rG5 rP5) rfl (Zi2 rG5 rP5) (Mi2 rG5 rP5) (hruns) λr h6 hq=>?_)));obtain⟨⟨b,rfl,hb⟩,x6⟩:=hq;have hbt:b=true:=hb.2 ok;subst hbt;refine bH (M0) ?_;refine dL (Z0) (bu ?_);have n6:=x6.nx;have c6:=c5.ext x6;have gG6:h6.get 112=some (.cells [.int .i64 (nn:Nat),ev] 2 false):=by rw[x6.gt _ om]; exact gG5
 have gP6:h6.get 113=some (.cells [ordv,outv] 2 false):=by rw[x6.gt _ om]; exact gP5
 have rG6:ak h6 112 0 2=some [.int .i64 (nn:Nat),ev]:=by rw[aU gG6]; rfl
 have hrp:=Dy (n:=nn) c6.e hE hL m3 m2;unfold gW at hrp;refine ae (bN (bo 1 (Mi1 rG6) rfl (Zi1 rG6) (Mi1 rG6) (hrp) λw h7 hq=>?_));obtain⟨x7,l,hlst,pw⟩:=hq;refine bH (M0) ?_;have n7:=x7.nx;have c7:=c6.ext x7;have gP7:h7.get 113=some (.cells [ordv,outv] 2 false):=by rw[x7.gt _ om]; exact gP6
 have qa:=(hql hE hL l hlst).ext (x6.trans (x7.mono om)) (ab _);have hpr:=λb hb=>DN ok hE hL hlst (b:=b) hb;have hBm:=λb hb=>jD (m:=E.length) (l:=l) (b:=b) hb;have hBlen:=oG (m:=E.length) (l:=l);generalize canon E.length l=B at *
 have la:=qa.len;have lw:=pw.len;rw[ai] at la lw;refine ae (ae (aj (by simp only[am,aK,simprocAttr,la,lw,decide_true]<;>rfl) ?_));refine dL (Z0) (bu ?_);refine ae ?_;refine ae (aj (M1 lw) ?_);refine fA (α:=Unit) (N:=B.length) (λ_ _=>[(3,.ptr 113 0),(5,a),(47,w)]) (λk _ h'=>Ext h7.next h7 h') () (λ_ _=>rfl) om (Hi0) Mu ?_ ?_
 ·rintro k _ ts h8 hk jx ⟨e49,e48,e3,e5,e47,-⟩;simp only at e49 e48 e3 e5 e47;have n8:=jx.nx;have hbk:=aP hk;have okb:=hpr _ hbk;obtain⟨k1,k2,k3,k4⟩:=hBm _ hbk;have pw8:=pw.ext jx (ab _);obtain⟨b1',o1,x,a1,r1,cc,lb1,_⟩:=pw8.at (i:=k) (by rw[ai]; exact hk);have qa8:=qa.ext jx (ab _);obtain⟨b2',o2,y,a2,r2,⟨⟨yc,yo⟩,zc,zo⟩,s1,s2,lb2,_⟩:=qa8.at (i:=k) (by rw[ai]; exact hk);rw[mT] at cc s1 s2;simp only at s1 s2;generalize B[k]=bk at *
  obtain⟨x1,xe,xn,xu⟩:=x;obtain⟨p1,p2,p3,p4,_⟩:=cc;simp only[rS] at p1 p2 p3 p4;subst p1;obtain⟨y1,y2⟩:=y;simp only at s1 s2 yc yo zc zo;obtain⟨xec,xeo⟩:=p2.cells;obtain⟨xnc,xno⟩:=p3.cells;obtain⟨xuc,xuo⟩:=p4.cells;obtain⟨h9,w9,x9,g9,n9⟩:=im (h:=h8) (z:=[.int .i64 0,.nils,.nils,.nils]) (cs:=[.int .i64 ((vsM nn E (nI bk)).length:Nat),xe,xn,xu]) (e:=4) rfl;refine ae (aj (by simp only[am,aK,simprocAttr,e47,e49,a1,r1,f4,xeo,xno,xuo,w9]<;>rfl) ?_);have J9:Ext h7.next h7 h9:=jx.trans (x9.mono om);have c9:=c7.ext J9;have r29:ak h9 b2' o2 2=some [y1,y2]:=by rw[bK (x9.gt _ lb2)]; exact r2
  have r99:ak h9 h8.next 0 4=some [.int .i64 ((vsM nn E (nI bk)).length:Nat),xe,xn,xu]:=by rw[aU g9]; rfl
  have gP9:h9.get 113=some (.cells [ordv,outv] 2 false):=by rw[J9.gt _ om]; exact gP7
  have rP9:ak h9 113 0 2=some [ordv,outv]:=by rw[aU gP9]; rfl
  have hlu:outs.length=nn:=by have:=ok.1.2.2.1; rwa [aY] at this
  have hvl:=qw nn E (nI bk);refine ae (bN (jE 6 (M6 e3 e5 a2 r29 r99 rP9) rfl (Z6 e3 e5 a2 r29 r99 rP9) (M6 e3 e5 a2 r29 r99 rP9) (DH (n:=nn) (E:=E) (bk:=bk) (ev:=xe) rfl (p3.ext x9 (ab _)) (p4.ext x9 (ab _)) c9.o (c9.u b3) hlu om m2 om b4) λr h10 hq=>?_));obtain⟨x10,av,uv,rfl,⟨ac,ao⟩,⟨vc,vo⟩,t1,t2⟩:=hq;have n10:=x10.nx;have r210:ak h10 b2' o2 2=some [y1,y2]:=by rw[bK (x10.gt _ om)]; exact r29
  have x810:Ext h8.next h8 h10:=x9.trans (x10.mono om);have s1':=s1.ext x810 (ab _);have s2':=s2.ext x810;have hsame:=FR s1' s2';refine⟨Z2 r210 hsame,?_⟩;have hol:=ut (n:=nn) (E:=E) (b:=bk) (l:=order);have hul:(jS nn E bk outs).length=(vsM nn E (nI bk)).length:=by unfold jS; rw[ai]
  have hrl:∀ l∈jS nn E bk outs,l.length≤200:=λl hl'=>by
   unfold jS at hl';obtain⟨x,_,rfl⟩:=bB.1 hl';refine cn ur ?_;by_cases q:x.toNat<outs.length
   ·rw[aL,aq q];exact b4 _ (aP q)
   ·rw[aL,bG om];simp
  refine iZ (Z0) (M0) (yG s1' s2' t1 t2 om om (λl hl'=>by have:=hrl l hl'; omega)) λr h11 hq=>?_;obtain⟨rfl,x11⟩:=hq;have n11:=x11.nx;have x911:Ext h9.next h9 h11:=x10.trans (x11.mono om);have x811:Ext h8.next h8 h11:=x9.trans (x911.mono om);have r211:ak h11 b2' o2 2=some [y1,y2]:=by rw[bK (x811.gt _ lb2)]; exact r2
  have g11:h11.get h8.next=some (.cells [.int .i64 ((vsM nn E (nI bk)).length:Nat),xe,xn,xu] 4 false):=by rw[x911.gt _ om]; exact g9
  have r911:ak h11 h8.next 0 2=some [.int .i64 ((vsM nn E (nI bk)).length:Nat),xe]:=by rw[aU g11]; rfl
  have hsl:(fO nn E (nI bk)).length<2 ^ 30:=by
   unfold fO;rw[ai,fE];omega
  refine bo 8 (M4 e5 a2 r211 r911) rfl (Z4 e5 a2 r211 r911) (M4 e5 a2 r211 r911) (yL (n:=(((vsM nn E (nI bk)).length:Nat):Int)) (p2.ext x811 (ab _)) hsl (s1.ext x811 (ab _)) (s2.ext x811) om om hrl) λr h12 hq=>?_;obtain⟨⟨b,rfl,hb⟩,x12⟩:=hq;have hbt:b=true:=hb.2 okb;subst hbt;refine bH (M0) ?_;refine dL (Z0) (bu ?_);exact⟨(),jx.trans ((x811.mono om).trans (x12.mono om)),H5 e49 e48 e3 e5 e47⟩
 ·rintro _ ts h8 jx _;refine ae (aj (M0) ?_);exact br ⟨.bool true,(by simp only[rs,rf6,am,aK,simprocAttr]<;>rfl),rfl⟩
end Go.Proofs.YtahepnbflofndaaGreatDoor
