/- The definition's side -/
import Derived.Test.YtahepnbflofndaaGreatDoorJLh
set_option linter.all false
namespace Go.Proofs.YtahepnbflofndaaGreatDoor
open Go.Am
theorem zH {h:AH}{n:Nat}{ev:AV}{es:List (Int×Int)} (he:SlE h ev es) (hm:eV (n:Nat) es=true) :
 C prg 102 [.agg [.int .i64 (n:Nat),ev]] h λr h'=>∃ xs:List Int,SlI h' r xs∧(xs=[]↔Acy es)∧Ext h.next h h':=by
 obtain⟨m1,m2,m3,m4⟩:=kz hm
 have el:=he.len
 rw[au] at el
 obtain⟨ec,eo⟩:=he.cells
 refine HH pf102 ?_
 have x0:Ext h.next h (h.new (.cells [.int .i64 (n:Nat),ev] 2 false)):=HD (ae _)
 have g0:(h.new (.cells [.int .i64 (n:Nat),ev] 2 false)).get h.next=some (.cells [.int .i64 (n:Nat),ev] 2 false):=by rw[AH.get_new,if_pos rfl]
 have n0:(h.new (.cells [.int .i64 (n:Nat),ev] 2 false)).next=h.next+1:=rfl
 refine ab (ah (Mi0) ?_)
 generalize h.new (.cells [.int .i64 (n:Nat),ev] 2 false)=h0 at *
 have r0:ar h0 h.next 0 2=some [.int .i64 (n:Nat),ev]:=by rw[aS g0]; rfl
 refine ab (aX (aP 1 (Mi1 r0) rfl (Zi1 r0) (Mi1 r0) (BQ (he.ext x0 (ae _)) hm) λr h1 hq=>?_))
 obtain⟨lb,hlb,rfl,gL,x1⟩:=hq
 refine aW (M0) ?_
 have X1:=x0.trans (x1.mono x0.nx)
 have n1:=x1.nx
 have hlt:=AH.lt_of_get gL
 have G1:h1.get h.next=some (.cells [.int .i64 (n:Nat),ev] 2 false):=by rw[x1.gt _ om]; exact g0
 have rn:ar h1 h.next 0 1=some [.int .i64 (n:Nat)]:=bB G1 rfl
 have hlk:∀ {h':AH}{v:Nat},h'.get lb=some (.cells (bls (dl n es n)) 1 false)→v<n→ar h' lb v 1=some [.bool (lk n es n v)]:=λhg hv=>bB hg (xN (by rw[gM]; exact hv))
 have hacy:=CH (n:=n) (es:=es) m4
 refine ab (ah (Mi0) ?_)
 refine ab (cZ (λts h'=>h'=h1∧∃ k,k≤n∧(∀ v,v<k→lk n es n v=false)∧(k<n→lk n es n k=true)∧Held [(1,.ptr h.next 0),(3,.sl lb 0 n n),(4,.int .i64 (k:Nat))] ts)
  (aU (Ed n (λk ts h'=>h'=h1∧(∀ v,v<k→lk n es n v=false)∧Held [(1,.ptr h.next 0),(3,.sl lb 0 n n),(4,.int .i64 (k:Nat))] ts) ?_ ⟨rfl,λv hv=>absurd hv om,Hi1 @bm⟩)) ?_)
 ·rintro k ts h' hk ⟨rfl,j1,e1,e3,e4,-⟩
  simp only at e1 e3 e4
  by_cases q:k<n
  ·have c1:decide (((k:Nat):Int)<((n:Nat):Int))=true:=aI om
   have ik:bN ((k:Nat):Int) n=some k:=aO q
   have rk:=hlk gL q
   have w1:=eF (k:=k) om
   refine ab (ab (ah (M8 e1 e3 e4 rn c1 ik rk @ai) ?_))
   refine bg (t:=!lk n es n k) (Z0) (λq2=>?_) λq2=>?_
   ·have q2:lk n es n k=false:=by simpa using q2
    refine aN (aU (ah (M2 e4 w1) ?_))
    refine⟨q,rfl,λv hv=>?_,H2 e1 e3⟩
    by_cases e:v=k
    ·subst e; exact q2
    ·exact j1 v om
   ·have q2:lk n es n k=true:=by simpa using q2
    exact bM ⟨λ_=>⟨rfl,k,om,j1,λ_=>q2,H3 e1 e3 e4⟩,λe=>absurd rfl e⟩
  ·have c1:decide (((k:Nat):Int)<((n:Nat):Int))=false:=aG om
   refine ab (ab (ah (M4 e1 e4 rn c1) ?_))
   refine cU (Z0) ?_
   exact bM ⟨λ_=>⟨rfl,k,om,j1,λq'=>absurd q' q,H3 e1 e3 e4⟩,λe=>absurd rfl e⟩
 rintro ts h' ⟨rfl,k0,hk0,j1,j2,e1,e3,e4,-⟩
 simp only at e1 e3 e4
 refine ab (ab (ah (M3 e1 e4 rn) ?_))
 refine bg (t:=decide (k0=n)) (by simp only[am,aD,simprocAttr]; exact congrArg AV.bool (by simp only[decide_eq_decide]; omega)) (λq=>?_) λq=>?_
 ·have q:k0=n:=aF q
  subst q
  refine ab (ah (M0) ?_)
  exact bt ⟨.nils,(by simp only[rs,rf102,am,aD,simprocAttr]<;>rfl),[],.inl ⟨rfl,.inl rfl⟩,⟨λ_=>hacy.1 j1,λ_=>rfl⟩,X1⟩
 have q:¬ k0=n:=aE q
 have hk0n:k0<n:=om
 have hleft:=j2 hk0n
 have hnot:¬ Acy es:=λha=>by rw[hacy.2 ha k0 hk0n] at hleft; cases hleft
 refine aN ?_
 refine ab (ah (M0) ?_)
 have x2:Ext h'.next h' (h'.new (.cells [] 1 false)):=HD (ae _)
 have g2:(h'.new (.cells [] 1 false)).get h'.next=some (.cells [] 1 false):=by rw[AH.get_new,if_pos rfl]
 have n2:(h'.new (.cells [] 1 false)).next=h'.next+1:=rfl
 generalize h'.new (.cells [] 1 false)=h2 at *
 refine ab (cZ (λts h3=>∃ way:List Int,∃ (wv:AV) (a:Nat),way.length≤n∧((a:Nat):Int)∈way∧IsSl h3 1 h'.next wv (way.flatMap eI)∧Ext h'.next h' h3∧Held [(5,wv),(4,.int .i64 (a:Nat))] ts)
  (aU (Ed n (λk ts h3=>∃ way:List Int,∃ (wv:AV) (a:Nat),way.length=k∧way.Nodup∧(∀ z∈way,z∈oN n)∧a<n∧lk n es n a=true∧IsSl h3 1 h'.next wv (way.flatMap eI)∧Ext h'.next h' h3∧Held [(1,.ptr h.next 0),(3,.sl lb 0 n n),(5,wv),(4,.int .i64 (a:Nat))] ts) ?_
   ⟨[],.sl h'.next 0 0 0,k0,rfl,tY,by simp,hk0n,hleft,.inr ⟨h'.next,0,ae _,rfl,g2,rfl⟩,x2,H3 e1 e3 e4⟩)) ?_)
 ·rintro k ts h3 hk ⟨way,wv,a,i1,i2,i3,ha,hla,iw,ix,e1,e3,e5,e4,-⟩
  simp only at e1 e3 e5 e4
  have sw:SlI h3 wv way:=HB om (λ_=>rfl) iw
  refine ab (ab (aX (aP 2 (M2 e5 e4) rfl (Z2 e5 e4) (M2 e5 e4) (yl (x:=((a:Nat):Int)) sw om) λr h4 hq=>?_)))
  obtain⟨rfl,rfl⟩:=hq
  refine aW (M0) ?_
  have hlo:=(kD (((a:Nat):Int)==·) way 0).2
  rw[tS] at hlo
  refine bg (t:=decide (dK (((a:Nat):Int)==·) way 0<0)) (Z0) (λq2=>?_) λq2=>?_
  rotate_left
  ·have q2:((a:Nat):Int)∈way:=by
    refine Decidable.byContradiction λhc=>?_
    exact aE q2 (hlo.2 (aG hc))
   exact bM ⟨λ_=>⟨way,wv,a,om,q2,iw,ix,H2 e5 e4⟩,λe=>absurd rfl e⟩
  have q2:¬ ((a:Nat):Int)∈way:=aE (hlo.1 (aF q2))
  refine aN (aU ?_)
  obtain⟨s',h5,a5,i5,x5,n5⟩:=iw.push (bytes:=8) [.int .i64 ((a:Nat):Int)] ix.nx om rfl rfl (by rw[dQ]; unfold bd; omega) (by rw[dQ]; unfold bd; omega)
  refine ab (ah (M3 e5 e4 a5) ?_)
  have X5:Ext h'.next h' h5:=ix.trans x5
  have rn5:ar h5 h.next 0 1=some [.int .i64 (n:Nat)]:=by rw[cy (X5.gt _ om)]; exact rn
  have re5:ar h5 h.next 1 1=some [ev]:=bB (by rw[X5.gt _ om]; exact G1) rfl
  have gL5:h5.get lb=some (.cells (bls (dl n es n)) 1 false):=by rw[X5.gt _ hlt]; exact gL
  have he5:=he.ext (X1.trans (X5.mono X1.nx)) (ae _)
  refine ab (ah (M2 e1 rn5) ?_)
  refine ab (ab (ah (M0) ?_))
  refine eg (α:=Int) (N:=es.length) (λj b=>[(1,.ptr h.next 0),(3,.sl lb 0 n n),(5,s'),(4,.int .i64 (a:Nat)),(6,.int .i64 b),(7,.int .i64 (j:Nat))])
   (λj b h6=>h6=h5∧((b=n∧∀ e∈es.take j,¬ (e.2=((a:Nat):Int)∧lk n es n e.1.toNat=true))∨(0≤b∧b<n∧lk n es n b.toNat=true))) ((n:Nat):Int) (H4 e1 e3 e4 @bm) ⟨rfl,.inl ⟨rfl,by simp⟩⟩ ?_ ?_ ?_
  ·rintro j b ts h6 hj ⟨rfl,jb⟩ ⟨e1,e3,e5,e4,e6,e7,-⟩
   simp only at e1 e3 e5 e4 e6 e7
   exact⟨_,(M5 e1 e7 re5 el @bi),Z0,H6 e1 e3 e5 e4 e6 e7⟩
  ·rintro j b ts h6 hj ⟨rfl,jb⟩ ⟨e1,e3,e5,e4,e6,e7,-⟩
   simp only at e1 e3 e5 e4 e6 e7
   obtain⟨b1,p1,a1,_,rr,_⟩:=he5.at (cF (f:=eE) hj)
   have ra:ar h6 b1 p1 1=some [.int .i64 es[j].1]:=rr 0 _ rfl
   have rb:ar h6 b1 (p1+1) 1=some [.int .i64 es[j].2]:=rr 1 _ rfl
   obtain⟨ea,eb,hab,hea,heb⟩:=lR (bA.1 m4 _ (bq hj))
   rw[hab] at ra rb
   simp only at ra rb
   have ia:bN ((ea:Nat):Int) n=some ea:=aO hea
   have la:=hlk gL5 hea
   have w1:=eF (k:=j) om
   have htk:es.take (j+1)=es.take j++[(((ea:Nat):Int),((eb:Nat):Int))]:=by rw[aK hj,hab]
   have keep:(¬ (((eb:Nat):Int)=((a:Nat):Int)∧lk n es n ea=true))→((b=n∧∀ e∈es.take (j+1),¬ (e.2=((a:Nat):Int)∧lk n es n e.1.toNat=true))∨(0≤b∧b<n∧lk n es n b.toNat=true)):=λhne=>by
    rcases jb with ⟨jb,ja⟩|jb
    ·refine .inl ⟨jb,λe hee=>?_⟩
     rw[htk,aQ] at hee
     rcases hee with hee|hee
     ·exact ja e hee
     ·simp only[aC,bj,or_false] at hee
      subst hee
      exact hne
    ·exact .inr jb
   by_cases q3:((eb:Nat):Int)=((a:Nat):Int)
   ·have c3:decide (((eb:Nat):Int)=((a:Nat):Int))=true:=aI q3
    refine ab (ah (by simp only[am,aD,simprocAttr,e1,e3,e4,e7,re5,a1,ra,rb,c3,ia,la,ai]<;>rfl) ?_)
    refine bg (t:=lk n es n ea) (Z0) (λq4=>?_) λq4=>?_
    ·refine ah (M7 e1 e6 e7 re5 a1 ra @mn2) ?_
     refine⟨if ((ea:Nat):Int)<b then ((ea:Nat):Int) else b,⟨rfl,.inr ?_⟩,_,(M2 e7 w1),H4 e1 e3 e5 e4⟩
     have hb':b=n∨(0≤b∧b<n∧lk n es n b.toNat=true):=by
      rcases jb with ⟨jb,_⟩|jb
      ·exact .inl jb
      ·exact .inr jb
     split
     ·exact⟨om,om,by rw[bK]; exact q4⟩
     ·rcases hb' with hb'|hb'
      ·omega
      ·exact hb'
    ·exact aN ⟨b,⟨rfl,keep (λhh=>by rw[hh.2] at q4; cases q4)⟩,_,(M2 e7 w1),H5 e1 e3 e5 e4 e6⟩
   ·have c3:decide (((eb:Nat):Int)=((a:Nat):Int))=false:=aG q3
    refine ab (ah (M10 e1 e3 e4 e7 re5 a1 ra rb c3 c3) ?_)
    refine cU (Z0) (aN ⟨b,⟨rfl,keep (λhh=>q3 hh.1)⟩,_,(M2 e7 w1),H5 e1 e3 e5 e4 e6⟩)
  ·rintro b ts h6 ⟨rfl,jb⟩ ⟨e1,e3,e5,e4,e6,e7,-⟩
   simp only at e1 e3 e5 e4 e6 e7
   rw[bp] at jb
   have hb:0≤b∧b<n∧lk n es n b.toNat=true:=by
    rcases jb with ⟨_,ja⟩|jb
    ·obtain⟨e,hee,h1,h2⟩:=rV hla
     have:=lv (bA.1 m4 e hee)
     exact absurd ⟨om,h1⟩ (ja e hee)
    ·exact jb
   obtain⟨bb,rfl⟩:∃ bb:Nat,b=bb:=⟨b.toNat,om⟩
   refine ah (M1 e6) ?_
   have hnd:(way++[((a:Nat):Int)]).Nodup:=by
    rw[bX]
    refine⟨i2,by simp,λx hx y hy e=>?_⟩
    simp only[aC,bj,or_false] at hy
    subst hy
    exact q2 (e▸hx)
   have hup:∀ z∈way++[((a:Nat):Int)],z∈oN n:=λz hz=>by
    rcases aQ.1 hz with hz|hz
    ·exact i3 z hz
    ·simp only[aC,bj,or_false] at hz
     subst hz
     exact lz.2 ⟨om,om⟩
   have hle:=Ck hnd hup
   rw[ui,aM] at hle
   refine⟨?_,way++[((a:Nat):Int)],s',bb,by rw[aM,i1]; rfl,hnd,hup,om,by have:=hb.2.2; rwa [bK] at this,?_,X5,H3 e1 e3 e5⟩
   ·simp only[aV,bh] at hle
    omega
   ·rw[bQ]
    exact i5
 rintro ts h3 ⟨way,wv,a,hwl,ham,iw,ix,e5,e4,-⟩
 simp only at e5 e4
 have sw:SlI h3 wv way:=HB om (λ_=>rfl) iw
 obtain⟨i,hi1,hi2⟩:=qh ham
 obtain⟨v',s1,s2,_⟩:=sw.from (lo:=i) (by rw[au]; omega)
 rw[← oh] at s2
 have X3:Ext h.next h h3:=X1.trans (ix.mono X1.nx)
 refine ab (aX (aP 3 (M2 e5 e4) rfl (Z2 e5 e4) (M2 e5 e4) (yl (x:=((a:Nat):Int)) sw om) λr h4 hq=>?_))
 obtain⟨rfl,rfl⟩:=hq
 rw[hi1]
 refine aW (by simp only[am,aD,simprocAttr,eJ,cu,s1]<;>rfl) ?_
 have l2:=s2.len
 rw[au] at l2
 have hml:0<(way.drop i).length:=by rw[dj]; omega
 have hml2:(way.drop i).length≤64:=by rw[dj]; omega
 generalize way.drop i=ws at *
 refine ab (ah (M0) ?_)
 refine ab (ab (ah (M0) ?_))
 refine eg (α:=Nat) (N:=ws.length) (λk l=>[(5,v'),(8,.int .i64 (l:Nat)),(9,.int .i64 (k:Nat))]) (λk l h5=>h5=h4∧l<ws.length) 0 (H1 @bm) ⟨rfl,hml⟩ ?_ ?_ ?_
 ·rintro k l ts h5 hk ⟨rfl,jl⟩ ⟨e5,e8,e9,-⟩
  simp only at e5 e8 e9
  exact⟨_,(M4 e5 e9 l2 @bi),Z0,H3 e5 e8 e9⟩
 ·rintro k l ts h5 hk ⟨rfl,jl⟩ ⟨e5,e8,e9,-⟩
  simp only at e5 e8 e9
  obtain⟨b1,p1,a1,r1,_⟩:=s2.at1 (cF (f:=eI) hk)
  obtain⟨b2,p2,a2,r2,_⟩:=s2.at1 (cF (f:=eI) jl)
  have w1:=eF (k:=k) om
  refine ab (ah (M7 e5 e8 e9 a1 a2 r1 r2) ?_)
  refine bg (t:=decide (ws[k]<ws[l])) (Z0) (λq=>?_) λq=>?_
  ·refine ah (M1 e9) ?_
   exact⟨k,⟨rfl,hk⟩,_,(M2 e9 w1),H1 e5⟩
  ·exact aN ⟨l,⟨rfl,jl⟩,_,(M2 e9 w1),H2 e5 e8⟩
 ·rintro l ts h5 ⟨rfl,jl⟩ ⟨e5,e8,e9,-⟩
  simp only at e5 e8
  refine ab (ah (M0) ?_)
  have x6:Ext h5.next h5 (h5.new (.cells [] 1 false)):=HD (ae _)
  have g6:(h5.new (.cells [] 1 false)).get h5.next=some (.cells [] 1 false):=by rw[AH.get_new,if_pos rfl]
  have n6:(h5.new (.cells [] 1 false)).next=h5.next+1:=rfl
  generalize h5.new (.cells [] 1 false)=h6 at *
  refine ab (ab (ah (M0) ?_))
  refine eg (α:=AV×List Int) (N:=ws.length) (λk a=>[(5,v'),(8,.int .i64 (l:Nat)),(10,a.1),(11,.int .i64 (k:Nat))]) (λk a h7=>a.2.length=k∧IsSl h7 1 h5.next a.1 (a.2.flatMap eI)∧Ext h5.next h5 h7) (.sl h5.next 0 0 0,[]) (H3 e5 e8 @bm)
   ⟨rfl,.inr ⟨h5.next,0,ae _,rfl,g6,rfl⟩,x6⟩ ?_ ?_ ?_
  ·rintro k ⟨av,ys⟩ ts h7 hk ⟨k1,k2,kx⟩ ⟨e5,e8,e10,e11,-⟩
   simp only at e5 e8 e10 e11 k1 k2
   exact⟨_,(M4 e5 e11 l2 @bi),Z0,H4 e5 e8 e10 e11⟩
  ·rintro k ⟨av,ys⟩ ts h7 hk ⟨k1,k2,kx⟩ ⟨e5,e8,e10,e11,-⟩
   simp only at e5 e8 e10 e11 k1 k2
   have hidx:(l+ws.length-k) % ws.length<ws.length:=Hv _ hml
   have s7:=s2.ext kx (ae _)
   obtain⟨b1,p1,a1,r1,_⟩:=s7.at1 (cF (f:=eI) hidx)
   have w1:=eF (k:=k) om
   have wa:IntKind.i64.wrap (((l:Nat):Int)+((ws.length:Nat):Int))=((l+ws.length:Nat):Int):=by rw[bE om om]; omega
   have wb:IntKind.i64.wrap (((l+ws.length:Nat):Int)-((k:Nat):Int))=((l+ws.length-k:Nat):Int):=by rw[bE om om]; omega
   have wc:((l+ws.length-k:Nat):Int).tmod ((ws.length:Nat):Int)=(((l+ws.length-k) % ws.length:Nat):Int):=rfl
   have wd:(if ((ws.length:Nat):Int)=0 then (none:Option AV) else some (.int .i64 (((l+ws.length-k:Nat):Int).tmod ((ws.length:Nat):Int))))=some (.int .i64 (((l+ws.length-k) % ws.length:Nat):Int)):=by rw[if_neg om,wc]
   obtain⟨s'',h8,a8,i8,x8,n8⟩:=k2.push (bytes:=8) [.int .i64 (ws[(l+ws.length-k) % ws.length])] kx.nx om rfl rfl (by rw[dQ]; unfold bd; omega) (by rw[dQ]; unfold bd; omega)
   refine ah (M12 e5 e8 e10 e11 l2 wa wb wd a1 r1 a8 a8) ?_
   refine⟨(s'',ys++[ws[(l+ws.length-k) % ws.length]]),⟨by simp [k1],?_,kx.trans x8⟩,_,(M2 e11 w1),H2 e5 e8⟩
   simp only
   rw[bQ]
   exact i8
  ·rintro⟨av,ys⟩ ts h7 ⟨k1,k2,kx⟩ ⟨e5,e8,e10,e11,-⟩
   simp only at e10 k1 k2
   refine ab (ah (M1 e10) ?_)
   refine bt ⟨av,(by simp only[rs,rf102,am,aD,simprocAttr]<;>rfl),ys,HB om (λ_=>rfl) k2,⟨λh=>?_,λh=>absurd h hnot⟩,X3.trans (kx.mono X3.nx)⟩
   rw[h] at k1
   simp only[bh] at k1
   omega
open Go.Am
theorem zI {h:AH}{n:Int}{ev:AV}{es:List (Int×Int)} (he:SlE h ev es) (hl:es.length<2 ^ 30) :
 C prg 53 [.agg [.int .i64 n,ev]] h λr h'=>(∃ c a v,r=.tup [.int .i64 c,a,v]∧(c=0↔jr n es))∧Ext h.next h h':=by
 have el:=he.len
 rw[au] at el
 obtain⟨ec,eo⟩:=he.cells
 refine HH pf53 ?_
 have x0:Ext h.next h (h.new (.cells [.int .i64 n,ev] 2 false)):=HD (ae _)
 have g0:(h.new (.cells [.int .i64 n,ev] 2 false)).get h.next=some (.cells [.int .i64 n,ev] 2 false):=by rw[AH.get_new,if_pos rfl]
 have n0:(h.new (.cells [.int .i64 n,ev] 2 false)).next=h.next+1:=rfl
 refine ab (ah (Mi0) ?_)
 generalize h.new (.cells [.int .i64 n,ev] 2 false)=h0 at *
 have r0:ar h0 h.next 0 2=some [.int .i64 n,ev]:=by rw[aS g0]; rfl
 refine ab (ab (aX (aP 1 (Mi1 r0) rfl (Zi1 r0) (Mi1 r0) (Fa (he.ext x0 (ae _)) om) λr h1 hq=>?_)))
 obtain⟨rfl,x1⟩:=hq
 refine aW (M0) ?_
 have X1:=x0.trans (x1.mono x0.nx)
 have n1:=x1.nx
 refine bg (t:=!eV n es) (Z0) (λq=>?_) λq=>?_
 ·have q:eV n es=false:=by simpa using q
  refine ab (ah (M0) ?_)
  exact bt ⟨.tup [.int .i64 1,.int .i64 0,.nils],(by simp only[rs,rf53,am,aD,simprocAttr]<;>rfl),⟨1,_,_,rfl,⟨λh=>om,λh=>by rw[h.1] at q; cases q⟩⟩,X1⟩
 have hm:eV n es=true:=by simpa using q
 obtain⟨nn,rfl⟩:∃ nn:Nat,n=nn:=⟨n.toNat,by
  simp only[eV,aq,aj] at hm; omega⟩
 refine aN ?_
 have G1:h1.get h.next=some (.cells [.int .i64 (nn:Nat),ev] 2 false):=by rw[x1.gt _ om]; exact g0
 have re:ar h1 h.next 1 1=some [ev]:=bB G1 rfl
 have he1:=he.ext X1 (ae _)
 refine ab (ab (ah (M0) ?_))
 refine eg (α:=Unit) (N:=es.length) (λk _=>[(1,.ptr h.next 0),(5,.int .i64 (k:Nat))]) (λk _ h'=>h'=h1∧∀ e∈es.take k,e.1≠e.2) () (Oi1 @bm) ⟨rfl,by simp⟩ ?_ ?_ ?_
 ·rintro k _ ts h2 hk ⟨rfl,j1⟩ ⟨e1,e5,-⟩
  simp only at e1 e5
  exact⟨_,(J5 e1 e5 re el @bi),I0,O2 e1 e5⟩
 ·rintro k _ ts h2 hk ⟨rfl,j1⟩ ⟨e1,e5,-⟩
  simp only at e1 e5
  obtain⟨b1,p1,a1,_,rr,_⟩:=he1.at (cF (f:=eE) hk)
  have ra:ar h2 b1 p1 1=some [.int .i64 es[k].1]:=rr 0 _ rfl
  have rb:ar h2 b1 (p1+1) 1=some [.int .i64 es[k].2]:=rr 1 _ rfl
  have w1:=eF (k:=k) om
  refine ab (ah (M6 e1 e5 re a1 ra rb) ?_)
  refine bg (t:=decide (es[k].1=es[k].2)) (Z0) (λq=>?_) λq=>?_
  ·have q:es[k].1=es[k].2:=aF q
   refine ab (ah (M1 e5) ?_)
   exact bt ⟨.tup [.int .i64 13,.int .i64 (k:Nat),.nils],(by simp only[rs,rf53,am,aD,simprocAttr,e5]<;>rfl),⟨13,_,_,rfl,⟨λh=>om,λh=>absurd q (h.2.1 _ (bq hk))⟩⟩,X1⟩
  ·have q:¬ es[k].1=es[k].2:=aE q
   refine aN ⟨(),⟨rfl,λe hee=>?_⟩,_,(J2 e5 w1),O1 e1⟩
   rw[aK hk,aQ] at hee
   rcases hee with hee|hee
   ·exact j1 e hee
   ·simp only[aC,bj,or_false] at hee
    subst hee
    exact q
 rintro _ ts h2 ⟨rfl,j1⟩ ⟨e1,-⟩
 simp only at e1
 rw[bp] at j1
 refine ab (ab (ah (M0) ?_))
 refine eg (α:=Unit) (N:=es.length) (λk _=>[(1,.ptr h.next 0),(6,.int .i64 (k:Nat))]) (λk _ h'=>h'=h2∧(es.take k).Nodup) () (O2 e1 @bm) ⟨rfl,by simp⟩ ?_ ?_ ?_
 ·rintro k _ ts h3 hk ⟨rfl,j2⟩ ⟨e1,e6,-⟩
  simp only at e1 e6
  exact⟨_,(J5 e1 e6 re el @bi),I0,O2 e1 e6⟩
 ·rintro k _ ts h3 hk ⟨rfl,j2⟩ ⟨e1,e6,-⟩
  simp only at e1 e6
  have w1:=eF (k:=k) om
  obtain⟨b2,p2,a2,r2,_⟩:=he1.at (cF (f:=eE) hk)
  refine ab (ah (M0) ?_)
  refine eg (α:=Unit) (N:=k) (λj _=>[(1,.ptr h.next 0),(6,.int .i64 (k:Nat)),(7,.int .i64 (j:Nat))]) (λj _ h'=>h'=h3∧es[k]∉es.take j) () (O3 e1 e6 @bm) ⟨rfl,by simp⟩ ?_ ?_ ?_
  ·rintro j _ ts h4 hj ⟨rfl,j3⟩ ⟨e1,e6,e7,-⟩
   simp only at e1 e6 e7
   exact⟨_,(J3 e6 e7 @bi),I0,O3 e1 e6 e7⟩
  ·rintro j _ ts h4 hj ⟨rfl,j3⟩ ⟨e1,e6,e7,-⟩
   simp only at e1 e6 e7
   have hjl:j<es.length:=om
   have w2:=eF (k:=j) om
   obtain⟨b1,p1,a1,r1,_⟩:=he1.at (cF (f:=eE) hjl)
   refine ab (ah (M10 e1 e6 e7 re a1 a2 r1 r2 @qm @qm) ?_)
   refine bg (t:=es[j]==es[k]) (Z0) (λq=>?_) λq=>?_
   ·have q:es[j]=es[k]:=by simpa using q
    refine ab (ah (M1 e6) ?_)
    refine bt ⟨.tup [.int .i64 14,.int .i64 (k:Nat),.nils],(by simp only[rs,rf53,am,aD,simprocAttr,e6]<;>rfl),⟨14,_,_,rfl,⟨λh=>om,λh=>?_⟩⟩,X1⟩
    exfalso
    have:=h.2.2.1
    rw[← cn k es,bW hk,bX] at this
    refine this.2.2 es[k] ?_ _ (aY ..) rfl
    rw[← q]
    exact List.mem_take_iff_getElem.2 ⟨j,om,rfl⟩
   ·have q:¬ es[j]=es[k]:=by simpa using q
    refine aN ⟨(),⟨rfl,?_⟩,_,(J2 e7 w2),O2 e1 e6⟩
    rw[aK hjl,aQ]
    rintro (h|h)
    ·exact j3 h
    ·simp only[aC,bj,or_false] at h
     exact q h.symm
  ·rintro _ ts h4 ⟨rfl,j3⟩ ⟨e1,e6,e7,-⟩
   simp only at e1 e6
   refine⟨(),⟨rfl,?_⟩,_,(J2 e6 w1),O1 e1⟩
   rw[aK hk,bX]
   refine⟨j2,by simp,λx hx y hy e=>?_⟩
   simp only[aC,bj,or_false] at hy
   subst hy
   exact j3 (e▸hx)
 rintro _ ts h3 ⟨rfl,j2⟩ ⟨e1,-⟩
 simp only at e1
 rw[bp] at j2
 have r3:ar h3 h.next 0 2=some [.int .i64 (nn:Nat),ev]:=by rw[aS G1]; rfl
 refine ab (aX (aP 1 (M2 e1 r3) rfl (Z2 e1 r3) (M2 e1 r3) (zH he1 hm) λr h4 hq=>?_))
 obtain⟨xs,sx,hxa,x4⟩:=hq
 refine aW (M0) ?_
 have X4:=X1.trans (x4.mono X1.nx)
 have lx:=sx.len
 rw[au] at lx
 refine ab (ab (ah (M1 lx) ?_))
 refine bg (t:=decide (0<xs.length)) (by simp only[am,aD,simprocAttr]; exact congrArg AV.bool (by simp only[decide_eq_decide]; omega)) (λq=>?_) λq=>?_
 ·have q:0<xs.length:=aF q
  refine ab (ah (M0) ?_)
  refine bt ⟨.tup [.int .i64 15,.int .i64 0,r],(by simp only[rs,rf53,am,aD,simprocAttr]<;>rfl),⟨15,_,_,rfl,⟨λh=>om,λh=>?_⟩⟩,X4⟩
  exfalso
  have:=hxa.2 h.2.2.2.1
  subst this
  simp at q
 have q:¬ 0<xs.length:=aE q
 have hacy:=hxa.1 (bG.1 om)
 refine aN ?_
 have r4:ar h4 h.next 0 2=some [.int .i64 (nn:Nat),ev]:=by rw[cy (x4.gt _ om)]; exact r3
 have hn64:=(kz hm).2.1
 refine ab (aX (aP 1 (M2 e1 r4) rfl (Z2 e1 r4) (M2 e1 r4) (BV (he.ext X4 (ae _)) hl hn64) λsv h5 hq=>?_))
 obtain⟨is,x5⟩:=hq
 refine aW (M0) ?_
 have X5:=X4.trans (x5.mono X4.nx)
 have ss:SlI h5 sv (iR nn es):=HB om (λ_=>rfl) is
 have ls:=ss.len
 rw[au] at ls
 refine ab (ab (ah (M1 ls) ?_))
 refine bg (t:=decide (1<(iR nn es).length)) (by simp only[am,aD,simprocAttr]; exact congrArg AV.bool (by simp only[decide_eq_decide]; omega)) (λq2=>?_) λq2=>?_
 ·have q2:1<(iR nn es).length:=aF q2
  obtain⟨v',s1,_,_⟩:=ss.upto (hi:=2) (by rw[au]; omega)
  have s1:slV h5 1 sv none (some (.int .i64 2)) none=some v':=s1
  refine ab (ah (by simp only[am,aD,simprocAttr,eJ,cu,s1]<;>rfl) ?_)
  refine bt ⟨.tup [.int .i64 16,.int .i64 0,v'],(by simp only[rs,rf53,am,aD,simprocAttr]<;>rfl),⟨16,_,_,rfl,⟨λh=>om,λh=>?_⟩⟩,X5⟩
  exfalso
  have:=h.2.2.2.2
  rw[bK] at this
  omega
 ·have q2:¬ 1<(iR nn es).length:=aE q2
  refine aN (ab (ah (M0) ?_))
  exact bt ⟨.tup [.int .i64 0,.int .i64 0,.nils],(by simp only[rs,rf53,am,aD,simprocAttr]<;>rfl),⟨0,_,_,rfl,⟨λ_=>⟨hm,j1,j2,hacy,by rw[bK]; omega⟩,λ_=>rfl⟩⟩,X5⟩
theorem uG {h:AH}{n:Int}{ev:AV}{es:List (Int×Int)} (he:SlE h ev es) (hl:es.length<2 ^ 30) :
 C prg 20 [.agg [.int .i64 n,ev]] h λr h'=>(∃ b,r=.bool b∧(b=true↔jr n es))∧Ext h.next h h':=by
 obtain⟨ec,eo⟩:=he.cells
 refine HH pf20 ?_
 have x0:Ext h.next h (h.new (.cells [.int .i64 n,ev] 2 false)):=HD (ae _)
 have g0:(h.new (.cells [.int .i64 n,ev] 2 false)).get h.next=some (.cells [.int .i64 n,ev] 2 false):=by rw[AH.get_new,if_pos rfl]
 refine ab (ah (Mi0) ?_)
 generalize h.new (.cells [.int .i64 n,ev] 2 false)=h0 at *
 have r0:ar h0 h.next 0 2=some [.int .i64 n,ev]:=by rw[aS g0]; rfl
 refine ab (aX (aP 1 (Mi1 r0) rfl (Zi1 r0) (Mi1 r0) (zI (he.ext x0 (ae _)) hl) λr h1 hq=>?_))
 obtain⟨⟨c,a,v,rfl,hc⟩,x1⟩:=hq
 refine aW (M0) ?_
 refine ab (ah (M0) ?_)
 exact bt ⟨.bool (decide (c=0)),(by simp only[rs,rf20,am,aD,simprocAttr]<;>rfl),⟨_,rfl,by rw[aj]; exact hc⟩,x0.trans (x1.mono x0.nx)⟩
end Go.Proofs.YtahepnbflofndaaGreatDoor
