/- The definition's side -/
import Derived.Test.YtahepnbflofndaaGreatDoorKLh
set_option linter.all false
namespace Go.Proofs.YtahepnbflofndaaGreatDoor
open Go.Am
theorem DG {h:AH}{n:Nat}{ev:AV}{es:List (Int×Int)} (he:SlE h ev es) (hm:fy (n:Nat) es=true) :
 C prg 102 [.agg [.int .i64 (n:Nat),ev]] h λr h'=>∃ xs:List Int,SlI h' r xs∧(xs=[]↔Acy es)∧Ext h.next h h':=by
 obtain⟨m1,m2,m3,m4⟩:=iQ hm;have el:=he.len;rw[ai] at el;obtain⟨ec,eo⟩:=he.cells;refine Mw pf102 ?_;have x0:Ext h.next h (h.new (.cells [.int .i64 (n:Nat),ev] 2 false)):=Mt (ab _);have g0:(h.new (.cells [.int .i64 (n:Nat),ev] 2 false)).get h.next=some (.cells [.int .i64 (n:Nat),ev] 2 false):=by rw[AH.get_new,if_pos rfl]
 have n0:(h.new (.cells [.int .i64 (n:Nat),ev] 2 false)).next=h.next+1:=rfl;refine ae (aj (Mi0) ?_);generalize h.new (.cells [.int .i64 (n:Nat),ev] 2 false)=h0 at *
 have r0:ak h0 h.next 0 2=some [.int .i64 (n:Nat),ev]:=by rw[aU g0]; rfl
 refine ae (bN (bo 1 (Mi1 r0) rfl (Zi1 r0) (Mi1 r0) (FZ (he.ext x0 (ab _)) hm) λr h1 hq=>?_));obtain⟨lb,hlb,rfl,gL,x1⟩:=hq;refine bH (M0) ?_;have X1:=x0.trans (x1.mono x0.nx);have n1:=x1.nx;have hlt:=AH.lt_of_get gL;have G1:h1.get h.next=some (.cells [.int .i64 (n:Nat),ev] 2 false):=by rw[x1.gt _ om]; exact g0
 have rn:ak h1 h.next 0 1=some [.int .i64 (n:Nat)]:=bm G1 rfl;have hlk:∀ {h':AH}{v:Nat},h'.get lb=some (.cells (bls (dQ n es n)) 1 false)→v<n→ak h' lb v 1=some [.bool (lk n es n v)]:=λhg hv=>bm hg (BM (by rw[ji]; exact hv));have hacy:=GN (n:=n) (es:=es) m4;refine ae (aj (Mi0) ?_)
 refine ae (oZ (λts h'=>h'=h1∧∃ k,k≤n∧(∀ v,v<k→lk n es n v=false)∧(k<n→lk n es n k=true)∧Held [(1,.ptr h.next 0),(3,.sl lb 0 n n),(4,.int .i64 (k:Nat))] ts)
  (cY (Ir n (λk ts h'=>h'=h1∧(∀ v,v<k→lk n es n v=false)∧Held [(1,.ptr h.next 0),(3,.sl lb 0 n n),(4,.int .i64 (k:Nat))] ts) ?_ ⟨rfl,λv hv=>absurd hv om,Hi1 @bh⟩)) ?_)
 ·rintro k ts h' hk ⟨rfl,j1,e1,e3,e4,-⟩;simp only at e1 e3 e4;by_cases q:k<n
  ·have c1:decide (((k:Nat):Int)<((n:Nat):Int))=true:=aH om;have ik:eR ((k:Nat):Int) n=some k:=cJ q;have rk:=hlk gL q;have w1:=dT (k:=k) om;refine ae (ae (aj (M8 e1 e3 e4 rn c1 ik rk @aO) ?_));refine cr (t:=!lk n es n k) (Z0) (λq2=>?_) λq2=>?_
   ·have q2:lk n es n k=false:=by simpa using q2
    refine bu (cY (aj (M2 e4 w1) ?_));refine⟨q,rfl,λv hv=>?_,H2 e1 e3⟩;by_cases e:v=k
    ·subst e; exact q2
    ·exact j1 v om
   ·have q2:lk n es n k=true:=by simpa using q2
    exact fB ⟨λ_=>⟨rfl,k,om,j1,λ_=>q2,H3 e1 e3 e4⟩,λe=>absurd rfl e⟩
  ·have c1:decide (((k:Nat):Int)<((n:Nat):Int))=false:=aw om;refine ae (ae (aj (M4 e1 e4 rn c1) ?_));refine dL (Z0) ?_;exact fB ⟨λ_=>⟨rfl,k,om,j1,λq'=>absurd q' q,H3 e1 e3 e4⟩,λe=>absurd rfl e⟩
 rintro ts h' ⟨rfl,k0,hk0,j1,j2,e1,e3,e4,-⟩;simp only at e1 e3 e4;refine ae (ae (aj (M3 e1 e4 rn) ?_));refine cr (t:=decide (k0=n)) (by simp only[am,aK,simprocAttr]; exact congrArg AV.bool (by simp only[decide_eq_decide]; omega)) (λq=>?_) λq=>?_
 ·have q:k0=n:=aR q;subst q;refine ae (aj (M0) ?_);exact br ⟨.nils,(by simp only[rs,rf102,am,aK,simprocAttr]<;>rfl),[],.inl ⟨rfl,.inl rfl⟩,⟨λ_=>hacy.1 j1,λ_=>rfl⟩,X1⟩
 have q:¬ k0=n:=aZ q;have hk0n:k0<n:=om;have hleft:=j2 hk0n;have hnot:¬ Acy es:=λha=>by rw[hacy.2 ha k0 hk0n] at hleft; cases hleft
 refine bu ?_;refine ae (aj (M0) ?_);have x2:Ext h'.next h' (h'.new (.cells [] 1 false)):=Mt (ab _);have g2:(h'.new (.cells [] 1 false)).get h'.next=some (.cells [] 1 false):=by rw[AH.get_new,if_pos rfl]
 have n2:(h'.new (.cells [] 1 false)).next=h'.next+1:=rfl;generalize h'.new (.cells [] 1 false)=h2 at *
 refine ae (oZ (λts h3=>∃ way:List Int,∃ (wv:AV) (a:Nat),way.length≤n∧((a:Nat):Int)∈way∧IsSl h3 1 h'.next wv (way.flatMap eI)∧Ext h'.next h' h3∧Held [(5,wv),(4,.int .i64 (a:Nat))] ts)
  (cY (Ir n (λk ts h3=>∃ way:List Int,∃ (wv:AV) (a:Nat),way.length=k∧way.Nodup∧(∀ z∈way,z∈ju n)∧a<n∧lk n es n a=true∧IsSl h3 1 h'.next wv (way.flatMap eI)∧Ext h'.next h' h3∧Held [(1,.ptr h.next 0),(3,.sl lb 0 n n),(5,wv),(4,.int .i64 (a:Nat))] ts) ?_
   ⟨[],.sl h'.next 0 0 0,k0,rfl,pF,by simp,hk0n,hleft,.inr ⟨h'.next,0,ab _,rfl,g2,rfl⟩,x2,H3 e1 e3 e4⟩)) ?_)
 ·rintro k ts h3 hk ⟨way,wv,a,i1,i2,i3,ha,hla,iw,ix,e1,e3,e5,e4,-⟩;simp only at e1 e3 e5 e4;have sw:SlI h3 wv way:=Mq om (λ_=>rfl) iw;refine ae (ae (bN (bo 2 (M2 e5 e4) rfl (Z2 e5 e4) (M2 e5 e4) (wS (x:=((a:Nat):Int)) sw om) λr h4 hq=>?_)));obtain⟨rfl,rfl⟩:=hq;refine bH (M0) ?_;have hlo:=(jR (((a:Nat):Int)==·) way 0).2;rw[qj] at hlo;refine cr (t:=decide (dW (((a:Nat):Int)==·) way 0<0)) (Z0) (λq2=>?_) λq2=>?_
  rotate_left
  ·have q2:((a:Nat):Int)∈way:=by
    refine Decidable.byContradiction λhc=>?_;exact aZ q2 (hlo.2 (aw hc))
   exact fB ⟨λ_=>⟨way,wv,a,om,q2,iw,ix,H2 e5 e4⟩,λe=>absurd rfl e⟩
  have q2:¬ ((a:Nat):Int)∈way:=aZ (hlo.1 (aR q2));refine bu (cY ?_);obtain⟨s',h5,a5,i5,x5,n5⟩:=iw.push (bytes:=8) [.int .i64 ((a:Nat):Int)] ix.nx om rfl rfl (by rw[dS]; unfold aW; omega) (by rw[dS]; unfold aW; omega);refine ae (aj (M3 e5 e4 a5) ?_);have X5:Ext h'.next h' h5:=ix.trans x5;have rn5:ak h5 h.next 0 1=some [.int .i64 (n:Nat)]:=by rw[bK (X5.gt _ om)]; exact rn
  have re5:ak h5 h.next 1 1=some [ev]:=bm (by rw[X5.gt _ om]; exact G1) rfl;have gL5:h5.get lb=some (.cells (bls (dQ n es n)) 1 false):=by rw[X5.gt _ hlt]; exact gL
  have he5:=he.ext (X1.trans (X5.mono X1.nx)) (ab _);refine ae (aj (M2 e1 rn5) ?_);refine ae (ae (aj (M0) ?_))
  refine dV (α:=Int) (N:=es.length) (λj b=>[(1,.ptr h.next 0),(3,.sl lb 0 n n),(5,s'),(4,.int .i64 (a:Nat)),(6,.int .i64 b),(7,.int .i64 (j:Nat))])
   (λj b h6=>h6=h5∧((b=n∧∀ e∈es.take j,¬ (e.2=((a:Nat):Int)∧lk n es n e.1.toNat=true))∨(0≤b∧b<n∧lk n es n b.toNat=true))) ((n:Nat):Int) (H4 e1 e3 e4 @bh) ⟨rfl,.inl ⟨rfl,by simp⟩⟩ ?_ ?_ ?_
  ·rintro j b ts h6 hj ⟨rfl,jb⟩ ⟨e1,e3,e5,e4,e6,e7,-⟩;simp only at e1 e3 e5 e4 e6 e7;exact⟨_,(M5 e1 e7 re5 el @bz),Z0,H6 e1 e3 e5 e4 e6 e7⟩
  ·rintro j b ts h6 hj ⟨rfl,jb⟩ ⟨e1,e3,e5,e4,e6,e7,-⟩;simp only at e1 e3 e5 e4 e6 e7;obtain⟨b1,p1,a1,_,rr,_⟩:=he5.at (cq (f:=eE) hj);have ra:ak h6 b1 p1 1=some [.int .i64 es[j].1]:=rr 0 _ rfl;have rb:ak h6 b1 (p1+1) 1=some [.int .i64 es[j].2]:=rr 1 _ rfl;obtain⟨ea,eb,hab,hea,heb⟩:=mw (bD.1 m4 _ (aP hj));rw[hab] at ra rb;simp only at ra rb;have ia:eR ((ea:Nat):Int) n=some ea:=cJ hea;have la:=hlk gL5 hea;have w1:=dT (k:=j) om;have htk:es.take (j+1)=es.take j++[(((ea:Nat):Int),((eb:Nat):Int))]:=by rw[aG hj,hab]
   have keep:(¬ (((eb:Nat):Int)=((a:Nat):Int)∧lk n es n ea=true))→((b=n∧∀ e∈es.take (j+1),¬ (e.2=((a:Nat):Int)∧lk n es n e.1.toNat=true))∨(0≤b∧b<n∧lk n es n b.toNat=true)):=λhne=>by
    rcases jb with ⟨jb,ja⟩|jb
    ·refine .inl ⟨jb,λe hee=>?_⟩;rw[htk,aV] at hee;rcases hee with hee|hee
     ·exact ja e hee
     ·simp only[aA,bq,or_false] at hee;subst hee;exact hne
    ·exact .inr jb
   by_cases q3:((eb:Nat):Int)=((a:Nat):Int)
   ·have c3:decide (((eb:Nat):Int)=((a:Nat):Int))=true:=aH q3;refine ae (aj (by simp only[am,aK,simprocAttr,e1,e3,e4,e7,re5,a1,ra,rb,c3,ia,la,aO]<;>rfl) ?_);refine cr (t:=lk n es n ea) (Z0) (λq4=>?_) λq4=>?_
    ·refine aj (M7 e1 e6 e7 re5 a1 ra @mn2) ?_;refine⟨if ((ea:Nat):Int)<b then ((ea:Nat):Int) else b,⟨rfl,.inr ?_⟩,_,(M2 e7 w1),H4 e1 e3 e5 e4⟩;have hb':b=n∨(0≤b∧b<n∧lk n es n b.toNat=true):=by
      rcases jb with ⟨jb,_⟩|jb
      ·exact .inl jb
      ·exact .inr jb
     split
     ·exact⟨om,om,by rw[aY]; exact q4⟩
     ·rcases hb' with hb'|hb'
      ·omega
      ·exact hb'
    ·exact bu ⟨b,⟨rfl,keep (λhh=>by rw[hh.2] at q4; cases q4)⟩,_,(M2 e7 w1),H5 e1 e3 e5 e4 e6⟩
   ·have c3:decide (((eb:Nat):Int)=((a:Nat):Int))=false:=aw q3;refine ae (aj (M10 e1 e3 e4 e7 re5 a1 ra rb c3 c3) ?_);refine dL (Z0) (bu ⟨b,⟨rfl,keep (λhh=>q3 hh.1)⟩,_,(M2 e7 w1),H5 e1 e3 e5 e4 e6⟩)
  ·rintro b ts h6 ⟨rfl,jb⟩ ⟨e1,e3,e5,e4,e6,e7,-⟩;simp only at e1 e3 e5 e4 e6 e7;rw[bp] at jb;have hb:0≤b∧b<n∧lk n es n b.toNat=true:=by
    rcases jb with ⟨_,ja⟩|jb
    ·obtain⟨e,hee,h1,h2⟩:=vJ hla;have:=kI (bD.1 m4 e hee);exact absurd ⟨om,h1⟩ (ja e hee)
    ·exact jb
   obtain⟨bb,rfl⟩:∃ bb:Nat,b=bb:=⟨b.toNat,om⟩
   refine aj (M1 e6) ?_;have hnd:(way++[((a:Nat):Int)]).Nodup:=by
    rw[bV];refine⟨i2,by simp,λx hx y hy e=>?_⟩;simp only[aA,bq,or_false] at hy;subst hy;exact q2 (e▸hx)
   have hup:∀ z∈way++[((a:Nat):Int)],z∈ju n:=λz hz=>by
    rcases aV.1 hz with hz|hz
    ·exact i3 z hz
    ·simp only[aA,bq,or_false] at hz;subst hz;exact gf.2 ⟨om,om⟩
   have hle:=nH hnd hup;rw[kh,aN] at hle;refine⟨?_,way++[((a:Nat):Int)],s',bb,by rw[aN,i1]; rfl,hnd,hup,om,by have:=hb.2.2; rwa [aY] at this,?_,X5,H3 e1 e3 e5⟩
   ·simp only[bf,bt] at hle;omega
   ·rw[bC];exact i5
 rintro ts h3 ⟨way,wv,a,hwl,ham,iw,ix,e5,e4,-⟩;simp only at e5 e4;have sw:SlI h3 wv way:=Mq om (λ_=>rfl) iw;obtain⟨i,hi1,hi2⟩:=tV ham;obtain⟨v',s1,s2,_⟩:=sw.from (lo:=i) (by rw[ai]; omega);rw[← fT] at s2;have X3:Ext h.next h h3:=X1.trans (ix.mono X1.nx);refine ae (bN (bo 3 (M2 e5 e4) rfl (Z2 e5 e4) (M2 e5 e4) (wS (x:=((a:Nat):Int)) sw om) λr h4 hq=>?_));obtain⟨rfl,rfl⟩:=hq;rw[hi1];refine bH (by simp only[am,aK,simprocAttr,dH,bT,s1]<;>rfl) ?_;have l2:=s2.len;rw[ai] at l2;have hml:0<(way.drop i).length:=by rw[cz]; omega
 have hml2:(way.drop i).length≤64:=by rw[cz]; omega
 generalize way.drop i=ws at *
 refine ae (aj (M0) ?_);refine ae (ae (aj (M0) ?_));refine dV (α:=Nat) (N:=ws.length) (λk l=>[(5,v'),(8,.int .i64 (l:Nat)),(9,.int .i64 (k:Nat))]) (λk l h5=>h5=h4∧l<ws.length) 0 (H1 @bh) ⟨rfl,hml⟩ ?_ ?_ ?_
 ·rintro k l ts h5 hk ⟨rfl,jl⟩ ⟨e5,e8,e9,-⟩;simp only at e5 e8 e9;exact⟨_,(M4 e5 e9 l2 @bz),Z0,H3 e5 e8 e9⟩
 ·rintro k l ts h5 hk ⟨rfl,jl⟩ ⟨e5,e8,e9,-⟩;simp only at e5 e8 e9;obtain⟨b1,p1,a1,r1,_⟩:=s2.at1 (cq (f:=eI) hk);obtain⟨b2,p2,a2,r2,_⟩:=s2.at1 (cq (f:=eI) jl);have w1:=dT (k:=k) om;refine ae (aj (M7 e5 e8 e9 a1 a2 r1 r2) ?_);refine cr (t:=decide (ws[k]<ws[l])) (Z0) (λq=>?_) λq=>?_
  ·refine aj (M1 e9) ?_;exact⟨k,⟨rfl,hk⟩,_,(M2 e9 w1),H1 e5⟩
  ·exact bu ⟨l,⟨rfl,jl⟩,_,(M2 e9 w1),H2 e5 e8⟩
 ·rintro l ts h5 ⟨rfl,jl⟩ ⟨e5,e8,e9,-⟩;simp only at e5 e8;refine ae (aj (M0) ?_);have x6:Ext h5.next h5 (h5.new (.cells [] 1 false)):=Mt (ab _);have g6:(h5.new (.cells [] 1 false)).get h5.next=some (.cells [] 1 false):=by rw[AH.get_new,if_pos rfl]
  have n6:(h5.new (.cells [] 1 false)).next=h5.next+1:=rfl;generalize h5.new (.cells [] 1 false)=h6 at *
  refine ae (ae (aj (M0) ?_))
  refine dV (α:=AV×List Int) (N:=ws.length) (λk a=>[(5,v'),(8,.int .i64 (l:Nat)),(10,a.1),(11,.int .i64 (k:Nat))]) (λk a h7=>a.2.length=k∧IsSl h7 1 h5.next a.1 (a.2.flatMap eI)∧Ext h5.next h5 h7) (.sl h5.next 0 0 0,[]) (H3 e5 e8 @bh)
   ⟨rfl,.inr ⟨h5.next,0,ab _,rfl,g6,rfl⟩,x6⟩ ?_ ?_ ?_
  ·rintro k ⟨av,ys⟩ ts h7 hk ⟨k1,k2,kx⟩ ⟨e5,e8,e10,e11,-⟩;simp only at e5 e8 e10 e11 k1 k2;exact⟨_,(M4 e5 e11 l2 @bz),Z0,H4 e5 e8 e10 e11⟩
  ·rintro k ⟨av,ys⟩ ts h7 hk ⟨k1,k2,kx⟩ ⟨e5,e8,e10,e11,-⟩;simp only at e5 e8 e10 e11 k1 k2;have hidx:(l+ws.length-k) % ws.length<ws.length:=Mk _ hml;have s7:=s2.ext kx (ab _);obtain⟨b1,p1,a1,r1,_⟩:=s7.at1 (cq (f:=eI) hidx);have w1:=dT (k:=k) om;have wa:IntKind.i64.wrap (((l:Nat):Int)+((ws.length:Nat):Int))=((l+ws.length:Nat):Int):=by rw[fD om om]; omega
   have wb:IntKind.i64.wrap (((l+ws.length:Nat):Int)-((k:Nat):Int))=((l+ws.length-k:Nat):Int):=by rw[fD om om]; omega
   have wc:((l+ws.length-k:Nat):Int).tmod ((ws.length:Nat):Int)=(((l+ws.length-k) % ws.length:Nat):Int):=rfl;have wd:(if ((ws.length:Nat):Int)=0 then (none:Option AV) else some (.int .i64 (((l+ws.length-k:Nat):Int).tmod ((ws.length:Nat):Int))))=some (.int .i64 (((l+ws.length-k) % ws.length:Nat):Int)):=by rw[if_neg om,wc]
   obtain⟨s'',h8,a8,i8,x8,n8⟩:=k2.push (bytes:=8) [.int .i64 (ws[(l+ws.length-k) % ws.length])] kx.nx om rfl rfl (by rw[dS]; unfold aW; omega) (by rw[dS]; unfold aW; omega);refine aj (M12 e5 e8 e10 e11 l2 wa wb wd a1 r1 a8 a8) ?_;refine⟨(s'',ys++[ws[(l+ws.length-k) % ws.length]]),⟨by simp [k1],?_,kx.trans x8⟩,_,(M2 e11 w1),H2 e5 e8⟩;simp only;rw[bC];exact i8
  ·rintro⟨av,ys⟩ ts h7 ⟨k1,k2,kx⟩ ⟨e5,e8,e10,e11,-⟩;simp only at e10 k1 k2;refine ae (aj (M1 e10) ?_);refine br ⟨av,(by simp only[rs,rf102,am,aK,simprocAttr]<;>rfl),ys,Mq om (λ_=>rfl) k2,⟨λh=>?_,λh=>absurd h hnot⟩,X3.trans (kx.mono X3.nx)⟩;rw[h] at k1;simp only[bt] at k1;omega
open Go.Am
theorem DI {h:AH}{n:Int}{ev:AV}{es:List (Int×Int)} (he:SlE h ev es) (hl:es.length<2 ^ 30) :
 C prg 53 [.agg [.int .i64 n,ev]] h λr h'=>(∃ c a v,r=.tup [.int .i64 c,a,v]∧(c=0↔gJ n es))∧Ext h.next h h':=by
 have el:=he.len;rw[ai] at el;obtain⟨ec,eo⟩:=he.cells;refine Mw pf53 ?_;have x0:Ext h.next h (h.new (.cells [.int .i64 n,ev] 2 false)):=Mt (ab _);have g0:(h.new (.cells [.int .i64 n,ev] 2 false)).get h.next=some (.cells [.int .i64 n,ev] 2 false):=by rw[AH.get_new,if_pos rfl]
 have n0:(h.new (.cells [.int .i64 n,ev] 2 false)).next=h.next+1:=rfl;refine ae (aj (Mi0) ?_);generalize h.new (.cells [.int .i64 n,ev] 2 false)=h0 at *
 have r0:ak h0 h.next 0 2=some [.int .i64 n,ev]:=by rw[aU g0]; rfl
 refine ae (ae (bN (bo 1 (Mi1 r0) rfl (Zi1 r0) (Mi1 r0) (JI (he.ext x0 (ab _)) om) λr h1 hq=>?_)));obtain⟨rfl,x1⟩:=hq;refine bH (M0) ?_;have X1:=x0.trans (x1.mono x0.nx);have n1:=x1.nx;refine cr (t:=!fy n es) (Z0) (λq=>?_) λq=>?_
 ·have q:fy n es=false:=by simpa using q
  refine ae (aj (M0) ?_);exact br ⟨.tup [.int .i64 1,.int .i64 0,.nils],(by simp only[rs,rf53,am,aK,simprocAttr]<;>rfl),⟨1,_,_,rfl,⟨λh=>om,λh=>by rw[h.1] at q; cases q⟩⟩,X1⟩
 have hm:fy n es=true:=by simpa using q
 obtain⟨nn,rfl⟩:∃ nn:Nat,n=nn:=⟨n.toNat,by
  simp only[fy,aM,aJ] at hm; omega⟩
 refine bu ?_;have G1:h1.get h.next=some (.cells [.int .i64 (nn:Nat),ev] 2 false):=by rw[x1.gt _ om]; exact g0
 have re:ak h1 h.next 1 1=some [ev]:=bm G1 rfl;have he1:=he.ext X1 (ab _);refine ae (ae (aj (M0) ?_));refine dV (α:=Unit) (N:=es.length) (λk _=>[(1,.ptr h.next 0),(5,.int .i64 (k:Nat))]) (λk _ h'=>h'=h1∧∀ e∈es.take k,e.1≠e.2) () (Oi1 @bh) ⟨rfl,by simp⟩ ?_ ?_ ?_
 ·rintro k _ ts h2 hk ⟨rfl,j1⟩ ⟨e1,e5,-⟩;simp only at e1 e5;exact⟨_,(J5 e1 e5 re el @bz),I0,O2 e1 e5⟩
 ·rintro k _ ts h2 hk ⟨rfl,j1⟩ ⟨e1,e5,-⟩;simp only at e1 e5;obtain⟨b1,p1,a1,_,rr,_⟩:=he1.at (cq (f:=eE) hk);have ra:ak h2 b1 p1 1=some [.int .i64 es[k].1]:=rr 0 _ rfl;have rb:ak h2 b1 (p1+1) 1=some [.int .i64 es[k].2]:=rr 1 _ rfl;have w1:=dT (k:=k) om;refine ae (aj (M6 e1 e5 re a1 ra rb) ?_);refine cr (t:=decide (es[k].1=es[k].2)) (Z0) (λq=>?_) λq=>?_
  ·have q:es[k].1=es[k].2:=aR q;refine ae (aj (M1 e5) ?_);exact br ⟨.tup [.int .i64 13,.int .i64 (k:Nat),.nils],(by simp only[rs,rf53,am,aK,simprocAttr,e5]<;>rfl),⟨13,_,_,rfl,⟨λh=>om,λh=>absurd q (h.2.1 _ (aP hk))⟩⟩,X1⟩
  ·have q:¬ es[k].1=es[k].2:=aZ q;refine bu ⟨(),⟨rfl,λe hee=>?_⟩,_,(J2 e5 w1),O1 e1⟩;rw[aG hk,aV] at hee;rcases hee with hee|hee
   ·exact j1 e hee
   ·simp only[aA,bq,or_false] at hee;subst hee;exact q
 rintro _ ts h2 ⟨rfl,j1⟩ ⟨e1,-⟩;simp only at e1;rw[bp] at j1;refine ae (ae (aj (M0) ?_));refine dV (α:=Unit) (N:=es.length) (λk _=>[(1,.ptr h.next 0),(6,.int .i64 (k:Nat))]) (λk _ h'=>h'=h2∧(es.take k).Nodup) () (O2 e1 @bh) ⟨rfl,by simp⟩ ?_ ?_ ?_
 ·rintro k _ ts h3 hk ⟨rfl,j2⟩ ⟨e1,e6,-⟩;simp only at e1 e6;exact⟨_,(J5 e1 e6 re el @bz),I0,O2 e1 e6⟩
 ·rintro k _ ts h3 hk ⟨rfl,j2⟩ ⟨e1,e6,-⟩;simp only at e1 e6;have w1:=dT (k:=k) om;obtain⟨b2,p2,a2,r2,_⟩:=he1.at (cq (f:=eE) hk);refine ae (aj (M0) ?_);refine dV (α:=Unit) (N:=k) (λj _=>[(1,.ptr h.next 0),(6,.int .i64 (k:Nat)),(7,.int .i64 (j:Nat))]) (λj _ h'=>h'=h3∧es[k]∉es.take j) () (O3 e1 e6 @bh) ⟨rfl,by simp⟩ ?_ ?_ ?_
  ·rintro j _ ts h4 hj ⟨rfl,j3⟩ ⟨e1,e6,e7,-⟩;simp only at e1 e6 e7;exact⟨_,(J3 e6 e7 @bz),I0,O3 e1 e6 e7⟩
  ·rintro j _ ts h4 hj ⟨rfl,j3⟩ ⟨e1,e6,e7,-⟩;simp only at e1 e6 e7;have hjl:j<es.length:=om;have w2:=dT (k:=j) om;obtain⟨b1,p1,a1,r1,_⟩:=he1.at (cq (f:=eE) hjl);refine ae (aj (M10 e1 e6 e7 re a1 a2 r1 r2 @ud @ud) ?_);refine cr (t:=es[j]==es[k]) (Z0) (λq=>?_) λq=>?_
   ·have q:es[j]=es[k]:=by simpa using q
    refine ae (aj (M1 e6) ?_);refine br ⟨.tup [.int .i64 14,.int .i64 (k:Nat),.nils],(by simp only[rs,rf53,am,aK,simprocAttr,e6]<;>rfl),⟨14,_,_,rfl,⟨λh=>om,λh=>?_⟩⟩,X1⟩;exfalso;have:=h.2.2.1;rw[← cD k es,bX hk,bV] at this;refine this.2.2 es[k] ?_ _ (bd ..) rfl;rw[← q];exact List.mem_take_iff_getElem.2 ⟨j,om,rfl⟩
   ·have q:¬ es[j]=es[k]:=by simpa using q
    refine bu ⟨(),⟨rfl,?_⟩,_,(J2 e7 w2),O2 e1 e6⟩;rw[aG hjl,aV];rintro (h|h)
    ·exact j3 h
    ·simp only[aA,bq,or_false] at h;exact q h.symm
  ·rintro _ ts h4 ⟨rfl,j3⟩ ⟨e1,e6,e7,-⟩;simp only at e1 e6;refine⟨(),⟨rfl,?_⟩,_,(J2 e6 w1),O1 e1⟩;rw[aG hk,bV];refine⟨j2,by simp,λx hx y hy e=>?_⟩;simp only[aA,bq,or_false] at hy;subst hy;exact j3 (e▸hx)
 rintro _ ts h3 ⟨rfl,j2⟩ ⟨e1,-⟩;simp only at e1;rw[bp] at j2;have r3:ak h3 h.next 0 2=some [.int .i64 (nn:Nat),ev]:=by rw[aU G1]; rfl
 refine ae (bN (bo 1 (M2 e1 r3) rfl (Z2 e1 r3) (M2 e1 r3) (DG he1 hm) λr h4 hq=>?_));obtain⟨xs,sx,hxa,x4⟩:=hq;refine bH (M0) ?_;have X4:=X1.trans (x4.mono X1.nx);have lx:=sx.len;rw[ai] at lx;refine ae (ae (aj (M1 lx) ?_));refine cr (t:=decide (0<xs.length)) (by simp only[am,aK,simprocAttr]; exact congrArg AV.bool (by simp only[decide_eq_decide]; omega)) (λq=>?_) λq=>?_
 ·have q:0<xs.length:=aR q;refine ae (aj (M0) ?_);refine br ⟨.tup [.int .i64 15,.int .i64 0,r],(by simp only[rs,rf53,am,aK,simprocAttr]<;>rfl),⟨15,_,_,rfl,⟨λh=>om,λh=>?_⟩⟩,X4⟩;exfalso;have:=hxa.2 h.2.2.2.1;subst this;simp at q
 have q:¬ 0<xs.length:=aZ q;have hacy:=hxa.1 (bi.1 om);refine bu ?_;have r4:ak h4 h.next 0 2=some [.int .i64 (nn:Nat),ev]:=by rw[bK (x4.gt _ om)]; exact r3
 have hn64:=(iQ hm).2.1;refine ae (bN (bo 1 (M2 e1 r4) rfl (Z2 e1 r4) (M2 e1 r4) (Gf (he.ext X4 (ab _)) hl hn64) λsv h5 hq=>?_));obtain⟨is,x5⟩:=hq;refine bH (M0) ?_;have X5:=X4.trans (x5.mono X4.nx);have ss:SlI h5 sv (je nn es):=Mq om (λ_=>rfl) is;have ls:=ss.len;rw[ai] at ls;refine ae (ae (aj (M1 ls) ?_));refine cr (t:=decide (1<(je nn es).length)) (by simp only[am,aK,simprocAttr]; exact congrArg AV.bool (by simp only[decide_eq_decide]; omega)) (λq2=>?_) λq2=>?_
 ·have q2:1<(je nn es).length:=aR q2;obtain⟨v',s1,_,_⟩:=ss.upto (hi:=2) (by rw[ai]; omega);have s1:slV h5 1 sv none (some (.int .i64 2)) none=some v':=s1;refine ae (aj (by simp only[am,aK,simprocAttr,dH,bT,s1]<;>rfl) ?_);refine br ⟨.tup [.int .i64 16,.int .i64 0,v'],(by simp only[rs,rf53,am,aK,simprocAttr]<;>rfl),⟨16,_,_,rfl,⟨λh=>om,λh=>?_⟩⟩,X5⟩;exfalso;have:=h.2.2.2.2;rw[aY] at this;omega
 ·have q2:¬ 1<(je nn es).length:=aZ q2;refine bu (ae (aj (M0) ?_));exact br ⟨.tup [.int .i64 0,.int .i64 0,.nils],(by simp only[rs,rf53,am,aK,simprocAttr]<;>rfl),⟨0,_,_,rfl,⟨λ_=>⟨hm,j1,j2,hacy,by rw[aY]; omega⟩,λ_=>rfl⟩⟩,X5⟩
theorem Ga {h:AH}{n:Int}{ev:AV}{es:List (Int×Int)} (he:SlE h ev es) (hl:es.length<2 ^ 30) :
 C prg 20 [.agg [.int .i64 n,ev]] h λr h'=>(∃ b,r=.bool b∧(b=true↔gJ n es))∧Ext h.next h h':=by
 obtain⟨ec,eo⟩:=he.cells;refine Mw pf20 ?_;have x0:Ext h.next h (h.new (.cells [.int .i64 n,ev] 2 false)):=Mt (ab _);have g0:(h.new (.cells [.int .i64 n,ev] 2 false)).get h.next=some (.cells [.int .i64 n,ev] 2 false):=by rw[AH.get_new,if_pos rfl]
 refine ae (aj (Mi0) ?_);generalize h.new (.cells [.int .i64 n,ev] 2 false)=h0 at *
 have r0:ak h0 h.next 0 2=some [.int .i64 n,ev]:=by rw[aU g0]; rfl
 refine ae (bN (bo 1 (Mi1 r0) rfl (Zi1 r0) (Mi1 r0) (DI (he.ext x0 (ab _)) hl) λr h1 hq=>?_));obtain⟨⟨c,a,v,rfl,hc⟩,x1⟩:=hq;refine bH (M0) ?_;refine ae (aj (M0) ?_);exact br ⟨.bool (decide (c=0)),(by simp only[rs,rf20,am,aK,simprocAttr]<;>rfl),⟨_,rfl,by rw[aJ]; exact hc⟩,x0.trans (x1.mono x0.nx)⟩
end Go.Proofs.YtahepnbflofndaaGreatDoor
