/- arborref14.Right -/
import Derived.Test.YthbmhbldmcbnpaaGreatDoorYTAT
import Derived.Test.YthbmhbldmcbnpaaGreatDoorYTAU
set_option linter.all false
namespace Go.Proofs.YthbmhbldmcbnpaaGreatDoor
open Go.Am
open Go.Blk (RC goN go_ok)
open Go.Spl (T4 OkT tA tB tE tL FT cntF plc vs vs_len cntF_le rc_sub rc_symm)
theorem SkL.at2 {h:AH}{v:AV}{S:List SK} (hs:SkL h v S) {i:Nat} (hi:i<S.length):∃ b p w,jV 2 v (.int .i64 (i:Nat))=some (.ptr b p)∧aj h b p 2=some [.int .i64 S[i].1,w]∧aj h b (p+1) 1=some [w]∧qA h w S[i].2∧b<h.next:=by
 obtain⟨ws,h1,h2,h3⟩:=hs
 have hw:i<ws.length:=om
 obtain⟨b,p,a1,r1,r2,hb⟩:=h2.at (i:=i) (x:=[.int .i64 S[i].1,ws[i]]) (by
  rw[List.getElem?_zipWith,au hi,au hw])
 exact⟨b,p,ws[i],a1,r1,r2 1 ws[i] rfl,h3 i _ _ (au hi) (au hw),hb⟩
theorem xt {S:List SK}{k:Nat}:∀ j,k≤j→j≤S.length→∃ R,de S j=de S k++R
 | 0,h,_=>⟨[],by have:k=0:=om
                 subst this; simp⟩
 | j+1,h,hj=>by
   by_cases e:k=j+1
   ·subst e; exact⟨[],by simp⟩
   ·obtain⟨R,hR⟩:=xt (S:=S) (k:=k) j om om
    exact⟨R++S[j].2.map λt=>(j,t),by rw[fL om,hR,cr]⟩
theorem EO {S:List SK}{i:Nat} (hi:i<S.length) {k:Nat} (hk:k<S[i].2.length):∃ R,de S S.length=(de S i++(S[i].2.take k).map λt=>(i,t))++[(i,S[i].2[k])]++R:=by
 obtain⟨R,hR⟩:=xt (S:=S) (k:=i+1) S.length hi (ae _)
 refine⟨(S[i].2.drop (k+1)).map (λt=>(i,t))++R,?_⟩
 have hm:S[i].2.map (λt=>(i,t))=(S[i].2.take k).map (λt=>(i,t))++(i,S[i].2[k])::(S[i].2.drop (k+1)).map (λt=>(i,t)):=by
  rw[← aS (f:=λt=>(i,t)),← br,List.getElem_cons_drop,bP]
 rw[hR,fL hi,hm]
 simp only[cr,cK,cV]
theorem Bt (S:List SK):gv S 0=0:=rfl
theorem xg:∀ n,bX [AV.int .i64 0,.int .i64 0,.int .i64 0,.int .i64 0] n=(List.replicate n ((0,0,0,0):T4)).flatMap eT4
 | 0=>rfl
 | n+1=>by rw[bX,xg n,List.replicate_succ,cX]; rfl
theorem JD (nl:Nat):enL nl []=List.replicate nl ((0,0,0,0):T4):=by
 unfold enL
 refine fR (by simp) λi h1 h2=>?_
 rw[bt,List.getElem_replicate]
 rfl
theorem IZ {nl:Nat}{n:Int}{E:List (Int×Int)}{F:FT} (h:OkF nl n E F) (hn:n≤64) {p:Nat×T4} (hp:p∈F):OkT p.2:=by
 obtain⟨⟨h1,h2,h3⟩,_⟩:=h.1.1 p hp
 exact⟨h1,h2,om⟩
theorem tV {n:Nat}{E:List (Int×Int)} (hE:InG n E) {x:Nat} (hx:x<n):cU n E (λ_=>false) x=0↔RC E.length (tlE E) (hdE E) (λ_=>true) 0 x:=by
 have ht:∀ i,i<E.length→tlE E i<n∧hdE E i<n:=λi hi=>(hE i hi).2
 have hgo:=λy=>go_ok (c:=λi=>!false&&!false) ht hx y
 unfold cU
 obtain⟨y,e1,_,e3,e4,e5⟩:=kI (p:=λy=>goN E.length (tlE E) (hdE E) (λi=>!false&&!false) n (λv=>decide (v=x)) y&&!false) n (ae _) ⟨x,om,hx,by
  rw[(hgo x).2 .refl]; rfl⟩
 rw[e1]
 constructor
 ·intro q
  have:y=0:=om
  subst this
  simp only[wD,iW] at e4
  exact rc_symm ((hgo 0).1 e4)
 ·intro q
  by_cases e:y=0
  ·omega
  ·have:=e5 0 om om
   rw[(hgo 0).2 (rc_symm q)] at this
   cases this
theorem Hd {n nl:Nat}{F:FT} (hp:∀ k,k<nl→tP F k<n∧tQ F k<n):InG n ((List.range nl).map (tE2 F))∧∀ i,i<nl→tlE ((List.range nl).map (tE2 F)) i=tP F i∧hdE ((List.range nl).map (tE2 F)) i=tQ F i:=by
 have hat:∀ i,i<nl→tlE ((List.range nl).map (tE2 F)) i=tP F i∧hdE ((List.range nl).map (tE2 F)) i=tQ F i:=λi hi=>wK (by rw[aE,cu hi]; rfl)
 refine⟨λi hi=>?_,hat⟩
 have hi':i<nl:=by simpa using hi
 obtain⟨e1,e2⟩:=hat i hi'
 rw[e1,e2]
 exact⟨by rw[bt,jF]; rfl,hp i hi'⟩
set_option maxHeartbeats 4000000 in
theorem xj {h:AH}{n:Int}{ev v:AV}{E:List (Int×Int)}{S:List SK} (he:SlE h ev E) (hs:SkL h v S) (hEl:E.length<2 ^ 29) (hS:S.length≤70) (hT:Bv S≤200) :
 C prg 9 [.agg [.int .i64 n,ev],v] h λr h'=>∃ b,r=.bool b∧(b=true↔oN n E S)∧Ext h.next h h':=by
 obtain⟨ec,eo⟩:=he.cells
 have el:=he.len
 rw[ar] at el
 have sl:=hs.len
 refine NX pf9 ?_
 refine ah (ak (Mi0) ?_)
 have x0:Ext h.next h (h.new (.cells [.int .i64 n,ev] 2 false)):=NU (ae _)
 have g0:(h.new (.cells [.int .i64 n,ev] 2 false)).get h.next=some (.cells [.int .i64 n,ev] 2 false):=by rw[AH.get_new,if_pos rfl]
 have n0:(h.new (.cells [.int .i64 n,ev] 2 false)).next=h.next+1:=rfl
 generalize (h.new (.cells [.int .i64 n,ev] 2 false))=h1 at *
 have rA:aj h1 h.next 0 2=some [.int .i64 n,ev]:=by rw[aP g0]; rfl
 refine ah (ah (bF (bg 1 (Mi1 rA) rfl (Zi1 rA) (Mi1 rA) (Cf (n:=n) (he.ext x0 (ae _)) om) λr h2 hq=>?_)))
 obtain⟨b,rfl,hb,x2⟩:=hq
 have X2:Ext h.next h h2:=x0.trans (x2.mono om)
 have n2:=x2.nx
 have g2:h2.get h.next=some (.cells [.int .i64 n,ev] 2 false):=by rw[x2.gt _ om]; exact g0
 have rE2:aj h2 h.next 1 1=some [ev]:=aJ g2 rfl
 cases b with
 | false =>
   refine bp (M0) ?_
   refine bq (Z0) (ah (ak (M0) ?_))
   exact aV ⟨.bool false,(by simp only[rs,rf9,am,aC,simprocAttr]<;>rfl),false,rfl,⟨(λq=>by cases q),λq=>hb.2 q.1⟩,X2⟩
 | true =>
 have hmay:=hb.1 rfl
 obtain⟨nn,rfl,hInG,_,m1,m2,m3,hm⟩:=mO hmay.1
 by_cases hz:S.length=0
 ·have cz:decide (((S.length:Nat):Int)=0)=true:=aq om
  refine bp (Mi2 sl cz) ?_
  refine bq (Z0) (ah (ak (M0) ?_))
  exact aV ⟨.bool false,(by simp only[rs,rf9,am,aC,simprocAttr]<;>rfl),false,rfl,⟨(λq=>by cases q),λq=>by have:=q.2.1; omega⟩,X2⟩
 have cz:decide (((S.length:Nat):Int)=0)=false:=ai om
 by_cases h64:S.length≤64
 ·have c64':decide ((64:Int)<((S.length:Nat):Int))=false:=ai om
  refine bp (Mi3 sl cz c64') ?_
  refine cj (Z0) (be ?_)
  have hnl:IntKind.i64.wrap (((S.length:Nat):Int)-1)=((S.length-1:Nat):Int):=by rw[fp om om]; omega
  refine ah (ak (Mi2 sl hnl) ?_)
  obtain⟨nl,hnle⟩:∃ nl,nl=S.length-1:=⟨_,rfl⟩
  rw[← hnle]
  have hnl2:nl≤63:=om
  have mu1:=fS (h:=h2) (z:=[.int .i64 0]) (e:=1) (bytes:=8) (n:=E.length) (by unfold aQ; omega) (by unfold aQ; omega)
  have y1:Ext h2.next h2 (h2.new (.cells (bX [.int .i64 0] E.length) 1 false)):=NU (ae _)
  have ga1:(h2.new (.cells (bX [.int .i64 0] E.length) 1 false)).get h2.next=some (.cells (bX [.int .i64 0] E.length) 1 false):=by rw[AH.get_new,if_pos rfl]
  have na1:(h2.new (.cells (bX [.int .i64 0] E.length) 1 false)).next=h2.next+1:=rfl
  refine ah (ak (Mi3 rE2 el mu1) ?_)
  generalize (h2.new (.cells (bX [.int .i64 0] E.length) 1 false))=ha at *
  have mu2:=fS (h:=ha) (z:=[.int .i64 0]) (e:=1) (bytes:=8) (n:=nl) (by unfold aQ; omega) (by unfold aQ; omega)
  have y2:Ext ha.next ha (ha.new (.cells (bX [.int .i64 0] nl) 1 false)):=NU (ae _)
  have ga2:(ha.new (.cells (bX [.int .i64 0] nl) 1 false)).get ha.next=some (.cells (bX [.int .i64 0] nl) 1 false):=by rw[AH.get_new,if_pos rfl]
  have na2:(ha.new (.cells (bX [.int .i64 0] nl) 1 false)).next=ha.next+1:=rfl
  refine ah (ak (Mi1 mu2) ?_)
  generalize (ha.new (.cells (bX [.int .i64 0] nl) 1 false))=hb2 at *
  have mu3:=fS (h:=hb2) (z:=[.int .i64 0]) (e:=1) (bytes:=8) (n:=nl) (by unfold aQ; omega) (by unfold aQ; omega)
  have y3:Ext hb2.next hb2 (hb2.new (.cells (bX [.int .i64 0] nl) 1 false)):=NU (ae _)
  have ga3:(hb2.new (.cells (bX [.int .i64 0] nl) 1 false)).get hb2.next=some (.cells (bX [.int .i64 0] nl) 1 false):=by rw[AH.get_new,if_pos rfl]
  have na3:(hb2.new (.cells (bX [.int .i64 0] nl) 1 false)).next=hb2.next+1:=rfl
  refine ah (ak (Mi1 mu3) ?_)
  generalize (hb2.new (.cells (bX [.int .i64 0] nl) 1 false))=hc at *
  have mu4:=fS (h:=hc) (z:=[.int .i64 0,.int .i64 0,.int .i64 0,.int .i64 0]) (e:=4) (bytes:=32) (n:=nl) (by unfold aQ; omega) (by unfold aQ; omega)
  have y4:Ext hc.next hc (hc.new (.cells (bX [.int .i64 0,.int .i64 0,.int .i64 0,.int .i64 0] nl) 4 false)):=NU (ae _)
  have ga4:(hc.new (.cells (bX [.int .i64 0,.int .i64 0,.int .i64 0,.int .i64 0] nl) 4 false)).get hc.next=some (.cells (bX [.int .i64 0,.int .i64 0,.int .i64 0,.int .i64 0] nl) 4 false):=by rw[AH.get_new,if_pos rfl]
  have na4:(hc.new (.cells (bX [.int .i64 0,.int .i64 0,.int .i64 0,.int .i64 0] nl) 4 false)).next=hc.next+1:=rfl
  refine ah (ak (Mi1 mu4) ?_)
  generalize (hc.new (.cells (bX [.int .i64 0,.int .i64 0,.int .i64 0,.int .i64 0] nl) 4 false))=h3 at *
  clear mu1 mu2 mu3 mu4
  rw[na1] at *
  rw[na2] at *
  rw[na3] at *
  have z1:h3.get h2.next=some (.cells (il E.length λ_=>0) 1 false):=by rw[y4.gt _ om,y3.gt _ om,y2.gt _ om,ga1,lh]
  have z2:h3.get (h2.next+1)=some (.cells (il nl λ_=>0) 1 false):=by rw[y4.gt _ om,y3.gt _ om,ga2,lh]
  have z3:h3.get (h2.next+2)=some (.cells (il nl λ_=>0) 1 false):=by rw[y4.gt _ om,ga3,lh]
  have z4:h3.get (h2.next+3)=some (.cells ((enL nl []).flatMap eT4) 4 false):=by rw[ga4,xg,JD]
  have x3:Ext h2.next h2 h3:=y1.trans ((y2.mono om).trans ((y3.mono om).trans (y4.mono om)))
  have n3:h3.next=h2.next+4:=om
  clear y1 y2 y3 y4 ga1 ga2 ga3 ga4 na1 na2 na3 na4
  generalize he0:h2.next=e0 at *
  have hcn:∀ i,cntF ([]:FT) i=0:=λi=>rfl
  refine ah (ah (ak (M0) ?_))
  refine er (α:=Unit) (N:=nl) (λk _=>[(1,v),(2,.ptr h.next 0),(5,.int .i64 ((nl:Nat):Int)),(6,.sl e0 0 E.length E.length),(7,.sl (e0+1) 0 nl nl),(8,.sl (e0+2) 0 nl nl),(9,.sl (e0+3) 0 nl nl),(10,.int .i64 (k:Nat))])
   (λk _ h'=>h'.get e0=some (.cells (il E.length λ_=>0) 1 false)∧h'.get (e0+1)=some (.cells (il nl λi=>if i<k then -1 else 0) 1 false)∧h'.get (e0+2)=some (.cells (il nl λi=>if i<k then -1 else 0) 1 false)∧h'.get (e0+3)=some (.cells ((enL nl []).flatMap eT4) 4 false)∧Ext e0 h2 h'∧e0+4≤h'.next) () (Hi1 @aW)
   ⟨z1,by rw[z2]; simp,by rw[z3]; simp,z4,x3,om⟩ ?_ ?_ ?_
  ·rintro k _ ts h4 hk ⟨j1,j2,j3,j4,j5,j6⟩ ⟨e1,e2,e5,e6,e7,e8,e9,e10,-⟩
   simp only at e1 e2 e5 e6 e7 e8 e9 e10
   exact⟨_,(M3 e5 e10 @bw),Z0,H8 e1 e2 e5 e6 e7 e8 e9 e10⟩
  ·rintro k _ ts h4 hk ⟨j1,j2,j3,j4,j5,j6⟩ ⟨e1,e2,e5,e6,e7,e8,e9,e10,-⟩
   simp only at e1 e2 e5 e6 e7 e8 e9 e10
   have w10:=dF (k:=k) om
   have ii:eQ ((k:Nat):Int) nl=some k:=cJ hk
   have wu:=dN (v:=.int .i64 (-1)) j2 (i:=k) (by rw[fc]; exact hk)
   have uu:=NW (o:=.cells ((il nl λi=>if i<k then -1 else 0).set k (.int .i64 (-1))) 1 false) j2
   refine ah (ak (M5 e7 e10 ii @aD wu) ?_)
   generalize h4.put (e0+1) (.cells ((il nl λi=>if i<k then -1 else 0).set k (.int .i64 (-1))) 1 false)=h5 at *
   have j3':h5.get (e0+2)=some (.cells (il nl λi=>if i<k then -1 else 0) 1 false):=by rw[uu.ne om]; exact j3
   have wv:=dN (v:=.int .i64 (-1)) j3' (i:=k) (by rw[fc]; exact hk)
   have uv:=NW (o:=.cells ((il nl λi=>if i<k then -1 else 0).set k (.int .i64 (-1))) 1 false) j3'
   refine ak (M5 e8 e10 ii @aD wv) ?_
   have hil:(il nl λi=>if i<k then (-1:Int) else 0).set k (.int .i64 (-1))=il nl λi=>if i<k+1 then -1 else 0:=by
    rw[gf]
    refine dx λi _=>?_
    by_cases e:i=k
    ·subst e; rw[if_pos rfl,if_pos om]
    ·rw[if_neg e]
     by_cases e2:i<k
     ·rw[if_pos e2,if_pos om]
     ·rw[if_neg e2,if_neg om]
   exact⟨(),⟨by rw[uv.ne om,uu.ne om]; exact j1,by rw[uv.ne om,uu.get,hil],by rw[uv.get,hil],by rw[uv.ne om,uu.ne om]; exact j4,(j5.trans (uu.ext om)).trans (uv.ext om),by rw[uv.nx,uu.nx]; omega⟩,_,(M2 e10 w10),H7 e1 e2 e5 e6 e7 e8 e9⟩
  rintro _ ts h4 ⟨j1,j2,j3,j4,j5,j6⟩ ⟨e1,e2,e5,e6,e7,e8,e9,e10,-⟩
  simp only at e1 e2 e5 e6 e7 e8 e9
  have R0:RSt h4 e0 E.length nl (de S 0):=by
   refine⟨by rw[j1]; rfl,?_,?_,j4,j6⟩
   ·rw[j2]; congr 2; exact dx λi hi=>by rw[if_pos hi]; rfl
   ·rw[j3]; congr 2; exact dx λi hi=>by rw[if_pos hi]; rfl
  clear z1 z2 z3 z4 j1 j2 j3 j4 x3 hcn e10
  have hsv:=nX S S.length (ae _)
  have hs2:SkL h2 v S:=hs.ext X2 (ae _)
  have he2:SlE h2 ev E:=he.ext X2 (ae _)
  refine ah (ak (M0) ?_)
  refine ah (ah (ak (M0) ?_))
  refine er (α:=Unit) (N:=S.length) (λi _=>[(1,v),(2,.ptr h.next 0),(5,.int .i64 ((nl:Nat):Int)),(6,.sl e0 0 E.length E.length),(7,.sl (e0+1) 0 nl nl),(8,.sl (e0+2) 0 nl nl),(9,.sl (e0+3) 0 nl nl),(11,.int .i64 ((gv S i:Nat):Int)),(12,.int .i64 (i:Nat))])
   (λi _ h'=>RSt h' e0 E.length nl (de S i)∧OkF nl ((nn:Nat):Int) E (de S i)∧(∀ j (hj:j<S.length),j<i→IsK S[j].1 S[j].2)∧Ext e0 h2 h') () (H10 e1 e2 e5 e6 e7 e8 e9 @Bt @aW @aW)
   ⟨R0,Jb,λj hj q=>absurd q (bm _),j5⟩ ?_ ?_ ?_
  ·clear e1 e2 e5 e6 e7 e8 e9
   rintro i _ ts h5 hi ⟨k1,k2,k3,k4⟩ ⟨e1,e2,e5,e6,e7,e8,e9,e11,e12,-⟩
   simp only at e1 e2 e5 e6 e7 e8 e9 e11 e12
   exact⟨_,(M4 e1 e12 sl @bw),Z0,H10 e1 e2 e5 e6 e7 e8 e9 e11 e12 e12⟩
  ·clear e1 e2 e5 e6 e7 e8 e9 R0 j5 j6
   rintro i _ ts h5 hi ⟨k1,k2,k3,k4⟩ ⟨e1,e2,e5,e6,e7,e8,e9,e11,e12,-⟩
   simp only at e1 e2 e5 e6 e7 e8 e9 e11 e12
   have w12:=dF (k:=i) om
   have hpF:=vf hi
   have hsvi:=nX S i om
   have hsv1:=oV hi
   have hpS:=fL hi
   have hpre:∀ k (hk:k<S[i].2.length),∃ R,de S S.length=(de S i++(S[i].2.take k).map λt=>(i,t))++[(i,S[i].2[k])]++R:=λk hk=>EO hi hk
   have hnK:¬ IsK S[i].1 S[i].2→¬ oN ((nn:Nat):Int) E S:=λq p=>q (p.2.2.2.2.1 i hi)
   have hjK:IsK S[i].1 S[i].2→∀ j (hj:j<S.length),j<i+1→IsK S[j].1 S[j].2:=λq j hj hji=>by
    by_cases e:j=i
    ·subst e; exact q
    ·exact k3 j hj om
   obtain⟨sb,sp,w,sa,sr2,srw,st,hsb⟩:=hs2.at2 hi
   rw[hpS,hsv1]
   clear hpS hsv1 k3
   generalize S[i].1=kind at *
   generalize S[i].2=T at *
   obtain⟨wc,wo⟩:=st.cells
   have wl:=st.len
   rw[ar] at wl
   refine ah (ah (ak (M0) ?_))
   refine (oI (λts' h'=>RSt h' e0 E.length nl (de S i++T.map λt=>(i,t))∧OkF nl ((nn:Nat):Int) E (de S i++T.map λt=>(i,t))∧Ext e0 h2 h'∧Held [(1,v),(2,.ptr h.next 0),(5,.int .i64 ((nl:Nat):Int)),(6,.sl e0 0 E.length E.length),(7,.sl (e0+1) 0 nl nl),(8,.sl (e0+2) 0 nl nl),(9,.sl (e0+3) 0 nl nl),(11,.int .i64 ((gv S i:Nat):Int)),(12,.int .i64 (i:Nat))] ts') ?_ ?_)
   ·have kv:∀ (x:Nat),x<e0+4→x<h5.next:=λx hx=>by have:=k1.nx; omega
    refine er (α:=Unit) (N:=T.length) (λk _=>[(1,v),(2,.ptr h.next 0),(5,.int .i64 ((nl:Nat):Int)),(6,.sl e0 0 E.length E.length),(7,.sl (e0+1) 0 nl nl),(8,.sl (e0+2) 0 nl nl),(9,.sl (e0+3) 0 nl nl),(11,.int .i64 ((gv S i:Nat):Int)),(12,.int .i64 (i:Nat)),(13,.int .i64 (k:Nat))])
     (λk _ h'=>RSt h' e0 E.length nl (de S i++(T.take k).map λt=>(i,t))∧OkF nl ((nn:Nat):Int) E (de S i++(T.take k).map λt=>(i,t))∧Ext e0 h2 h') () (H10 e1 e2 e5 e6 e7 e8 e9 e11 e12 @aW)
     ⟨by simpa using k1,by simpa using k2,k4⟩ ?_ ?_ ?_
    ·clear e1 e2 e5 e6 e7 e8 e9 e11 e12
     rintro k _ ts h6 hk ⟨l1,l2,l3⟩ ⟨e1,e2,e5,e6,e7,e8,e9,e11,e12,e13,-⟩
     simp only at e1 e2 e5 e6 e7 e8 e9 e11 e12 e13
     have srw6:aj h6 sb (sp+1) 1=some [w]:=by rw[bG (l3.gt _ om)]; exact srw
     exact⟨_,(M7 e1 e12 e13 sa srw6 wl @bw),Z0,H10 e1 e2 e5 e6 e7 e8 e9 e11 e12 e13⟩
    ·clear e1 e2 e5 e6 e7 e8 e9 e11 e12
     rintro k _ ts h6 hk ⟨l1,l2,l3⟩ ⟨e1,e2,e5,e6,e7,e8,e9,e11,e12,e13,-⟩
     simp only at e1 e2 e5 e6 e7 e8 e9 e11 e12 e13
     have w13:=dF (k:=k) om
     have srw6:aj h6 sb (sp+1) 1=some [w]:=by rw[bG (l3.gt _ om)]; exact srw
     obtain⟨b1,p1,a1,r1,_⟩:=(st.ext l3 om).at (dp (f:=eT4) hk)
     have hFl:(de S i++(T.take k).map λt=>(i,t)).length≤200:=by rw[aN,ar,bz]; omega
     obtain⟨R,hR⟩:=hpre k hk
     have htk:T.take (k+1)=T.take k++[T[k]]:=aX hk
     rw[htk,br,← cr]
     clear htk
     have r1:aj h6 b1 p1 4=some [.int .i64 T[k].1,.int .i64 T[k].2.1,.int .i64 T[k].2.2.1,.int .i64 T[k].2.2.2]:=r1
     generalize de S i++(T.take k).map (λt=>(i,t))=F at *
     generalize T[k]=t at *
     have hbad:¬ OkF nl ((nn:Nat):Int) E (F++[(i,t)])→¬ oN ((nn:Nat):Int) E S:=λq p=>q (by
      have h1:=p.2.2.2.1
      rw[hR,← hnle] at h1
      exact Ja h1)
     have hmemT:(i,t)∈F++[(i,t)]:=dr _ (bd.2 rfl)
     have hval:OkF nl ((nn:Nat):Int) E (F++[(i,t)])→Kh ((nn:Nat):Int) E t∧tL t<((nl:Nat):Int):=λq=>⟨q.1.1 _ hmemT,q.2.1 _ hmemT⟩
     clear hR
     obtain⟨h7,w7,x7,g7,n7⟩:=dI (h:=h6) (z:=[.int .i64 0,.int .i64 0,.int .i64 0,.int .i64 0]) (cs:=[.int .i64 t.1,.int .i64 t.2.1,.int .i64 t.2.2.1,.int .i64 t.2.2.2]) (e:=4) rfl
     refine ah (ak (M8 e1 e12 e13 sa srw6 a1 r1 w7) ?_)
     have l17:=l1.ext x7
     have hn6:=l1.nx
     have l37:Ext e0 h2 h7:=l3.trans (x7.mono om)
     have X7:Ext h.next h h7:=X2.trans (l37.mono om)
     have hret:∀ {h':AH},Ext h.next h h'→¬ OkF nl ((nn:Nat):Int) E (F++[(i,t)])→∃ b,(AV.bool false)=.bool b∧(b=true↔oN ((nn:Nat):Int) E S)∧Ext h.next h h':=λx q=>⟨false,rfl,⟨(λe=>by cases e),λp=>absurd p (hbad q)⟩,x⟩
     have g27:h7.get h.next=some (.cells [.int .i64 ((nn:Nat):Int),ev] 2 false):=by rw[l37.gt _ om]; exact g2
     have rN:aj h7 h.next 0 1=some [.int .i64 ((nn:Nat):Int)]:=aJ g27 rfl
     have rE:aj h7 h.next 1 1=some [ev]:=aJ g27 rfl
     have rA:aj h7 h6.next 0 1=some [.int .i64 t.1]:=aJ g7 rfl
     have rB:aj h7 h6.next 1 1=some [.int .i64 t.2.1]:=aJ g7 rfl
     have rEd:aj h7 h6.next 2 1=some [.int .i64 t.2.2.1]:=aJ g7 rfl
     have rLk:aj h7 h6.next 3 1=some [.int .i64 t.2.2.2]:=aJ g7 rfl
     by_cases p1:t.1<0
     ·have d1:decide (t.1<0)=true:=aq p1
      refine ah (ah (ak (M2 rA d1) ?_))
      refine bq (Z0) (ah (ak (M0) ?_))
      exact aV ⟨.bool false,(by simp only[rs,rf9,am,aC,simprocAttr]<;>rfl),hret X7 λq=>by have:=(hval q).1.1.1; omega⟩
     have d1:decide (t.1<0)=false:=ai p1
     by_cases p2:t.2.1≤t.1
     ·have d2:decide (t.2.1≤t.1)=true:=aq p2
      refine ah (ah (ak (M4 rA rB d1 d2) ?_))
      refine bq (Z0) (ah (ak (M0) ?_))
      exact aV ⟨.bool false,(by simp only[rs,rf9,am,aC,simprocAttr]<;>rfl),hret X7 λq=>by have:=(hval q).1.1.2.1; omega⟩
     have d2:decide (t.2.1≤t.1)=false:=ai p2
     by_cases p3:((nn:Nat):Int)≤t.2.1
     ·have d3:decide (((nn:Nat):Int)≤t.2.1)=true:=aq p3
      refine ah (ah (ak (M7 rA rB rN e2 d1 d2 d3) ?_))
      refine bq (Z0) (ah (ak (M0) ?_))
      exact aV ⟨.bool false,(by simp only[rs,rf9,am,aC,simprocAttr]<;>rfl),hret X7 λq=>by have:=(hval q).1.1.2.2; omega⟩
     have d3:decide (((nn:Nat):Int)≤t.2.1)=false:=ai p3
     have hAB:0≤t.1∧t.1<t.2.1∧t.2.1<((nn:Nat):Int):=om
     refine ah (ah (ak (M7 rA rB rN e2 d1 d2 d3) ?_))
     refine cj (Z0) (be ?_)
     clear d1 d2 d3 p1 p2 p3
     by_cases p4:t.2.2.2=-1
     ·
      have d4:decide (t.2.2.2=-1)=true:=aq p4
      refine ah (ah (ak (M2 rLk d4) ?_))
      refine bq (Z0) ?_
      by_cases p5:t.2.2.1<0
      ·have d5:decide (t.2.2.1<0)=true:=aq p5
       refine ah (ah (ak (M2 rEd d5) ?_))
       refine bq (Z0) (ah (ak (M0) ?_))
       refine aV ⟨.bool false,(by simp only[rs,rf9,am,aC,simprocAttr]<;>rfl),hret X7 λq=>?_⟩
       rcases (hval q).1.2 with ⟨_,k',_,e,_⟩|⟨_,e⟩
       ·have e:t.2.2.1=((k':Nat):Int):=e
        omega
       ·have e:0≤t.2.2.2:=e
        omega
      have d5:decide (t.2.2.1<0)=false:=ai p5
      by_cases p6:((E.length:Nat):Int)≤t.2.2.1
      ·have d6:decide (((E.length:Nat):Int)≤t.2.2.1)=true:=aq p6
       refine ah (ah (ak (M4 rEd e6 d5 d6) ?_))
       refine bq (Z0) (ah (ak (M0) ?_))
       refine aV ⟨.bool false,(by simp only[rs,rf9,am,aC,simprocAttr]<;>rfl),hret X7 λq=>?_⟩
       rcases (hval q).1.2 with ⟨_,k',hk',e,_⟩|⟨_,e⟩
       ·have e:t.2.2.1=((k':Nat):Int):=e
        omega
       ·have e:0≤t.2.2.2:=e
        omega
      have d6:decide (((E.length:Nat):Int)≤t.2.2.1)=false:=ai p6
      refine ah (ah (ak (M4 rEd e6 d5 d6) ?_))
      refine cj (Z0) (be ?_)
      obtain⟨ke,hke⟩:=cS (by omega:(0:Int)≤t.2.2.1)
      have hke:t.2.2.1=((ke:Nat):Int):=hke
      have hkm:ke<E.length:=om
      rw[hke] at rEd
      have he7:SlE h7 ev E:=he2.ext l37 om
      obtain⟨eb1,ep,a7,r7,_⟩:=he7.at (dp (f:=eE) hkm)
      have r7:aj h7 eb1 ep 2=some [.int .i64 E[ke].1,.int .i64 E[ke].2]:=r7
      obtain⟨h8,w8,x8,g8,n8⟩:=dI (h:=h7) (z:=[.int .i64 0,.int .i64 0]) (cs:=[.int .i64 E[ke].1,.int .i64 E[ke].2]) (e:=2) rfl
      refine ah (ak (M6 e2 rE rEd a7 r7 w8) ?_)
      have l18:=l17.ext x8
      have l38:Ext e0 h2 h8:=l37.trans (x8.mono om)
      have X8:Ext h.next h h8:=X2.trans (l38.mono om)
      have ra8:aj h8 h7.next 0 1=some [.int .i64 E[ke].1]:=aJ g8 rfl
      have rb8:aj h8 h7.next 1 1=some [.int .i64 E[ke].2]:=aJ g8 rfl
      have g78:h8.get h6.next=some (.cells [.int .i64 t.1,.int .i64 t.2.1,.int .i64 t.2.2.1,.int .i64 t.2.2.2] 4 false):=by rw[x8.gt _ om]; exact g7
      have rA8:aj h8 h6.next 0 1=some [.int .i64 t.1]:=aJ g78 rfl
      have rB8:aj h8 h6.next 1 1=some [.int .i64 t.2.1]:=aJ g78 rfl
      have rEd8:aj h8 h6.next 2 1=some [.int .i64 ((ke:Nat):Int)]:=by rw[← hke]; exact aJ g78 rfl
      have hmn:OkF nl ((nn:Nat):Int) E (F++[(i,t)])→mnx E[ke]=(t.1,t.2.1):=λq=>by
       rcases (hval q).1.2 with ⟨_,k',hk',e,e2⟩|⟨_,e⟩
       ·have e:t.2.2.1=((k':Nat):Int):=e
        have:k'=ke:=om
        subst this
        exact e2
       ·have e:0≤t.2.2.2:=e
        omega
      by_cases p7:mnI E[ke].1 E[ke].2=t.1
      ·have d7:decide ((if E[ke].2<E[ke].1 then E[ke].2 else E[ke].1)=t.1)=true:=aq p7
       by_cases p8:mxI E[ke].1 E[ke].2=t.2.1
       ·have d8:decide ((if E[ke].2>E[ke].1 then E[ke].2 else E[ke].1)=t.2.1)=true:=aq p8
        refine ah (ah (ak (M8 ra8 rb8 rA8 rB8 @iH @pk d7 d8) ?_))
        refine cj (Z0) (be ?_)
        have ike:eQ ((ke:Nat):Int) E.length=some ke:=cJ hkm
        have rc8:aj h8 e0 ke 1=some [.int .i64 ((cntF F ke:Nat):Int)]:=aJ l18.ed (fx hkm)
        have hcl:=cntF_le F ke
        have wc8:=dF (k:=cntF F ke) om
        have w9:=dN (v:=.int .i64 ((cntF F ke+1:Nat):Int)) l18.ed (i:=ke) (by rw[fc]; exact hkm)
        have u9:=NW (o:=.cells ((il E.length λi=>((cntF F i:Nat):Int)).set ke (.int .i64 ((cntF F ke+1:Nat):Int))) 1 false) l18.ed
        refine ah (ak (M7 e6 rEd8 ike @aD rc8 wc8 w9) ?_)
        refine eX ⟨λ_=>⟨(),⟨l18.edge hkm p4 hke u9,rJ l2 ⟨hAB,.inl ⟨p4,ke,hkm,hke,by unfold mnx; rw[p7,p8]⟩⟩ (by show t.2.2.2<_; omega) (λk' e=>by have e:t.2.2.2=((k':Nat):Int):=e; omega),l38.trans (u9.ext (ae _))⟩,_,(M2 e13 w13),H10 e1 e2 e5 e6 e7 e8 e9 e11 e12 e12⟩,λe=>absurd rfl e⟩
       ·have d8:decide ((if E[ke].2>E[ke].1 then E[ke].2 else E[ke].1)=t.2.1)=false:=ai p8
        refine ah (ah (ak (M8 ra8 rb8 rA8 rB8 @iH @pk d7 d8) ?_))
        refine bq (Z0) (ah (ak (M0) ?_))
        exact aV ⟨.bool false,(by simp only[rs,rf9,am,aC,simprocAttr]<;>rfl),hret X8 λq=>p8 (Prod.mk.inj (hmn q)).2⟩
      ·have d7:decide ((if E[ke].2<E[ke].1 then E[ke].2 else E[ke].1)=t.1)=false:=ai p7
       refine ah (ah (ak (M7 ra8 rb8 rA8 rB8 @iH @pk d7) ?_))
       refine bq (Z0) (ah (ak (M0) ?_))
       exact aV ⟨.bool false,(by simp only[rs,rf9,am,aC,simprocAttr]<;>rfl),hret X8 λq=>p7 (Prod.mk.inj (hmn q)).1⟩
     ·
      have d4:decide (t.2.2.2=-1)=false:=ai p4
      refine ah (ah (ak (M2 rLk d4) ?_))
      refine cj (Z0) (be ?_)
      have hlk:OkF nl ((nn:Nat):Int) E (F++[(i,t)])→t.2.2.1=-1∧0≤t.2.2.2∧t.2.2.2<((nl:Nat):Int):=λq=>by
       obtain⟨a,b⟩:=hval q
       rcases a.2 with ⟨e,_⟩|⟨e1,e2⟩
       ·exact absurd e p4
       ·exact⟨e1,e2,b⟩
      by_cases p5:t.2.2.1=-1
      ·have d5:decide (t.2.2.1=-1)=true:=aq p5
       by_cases p6:t.2.2.2<0
       ·have d6:decide (t.2.2.2<0)=true:=aq p6
        refine ah (ah (ak (M4 rEd rLk d5 d6) ?_))
        refine bq (Z0) (ah (ak (M0) ?_))
        exact aV ⟨.bool false,(by simp only[rs,rf9,am,aC,simprocAttr]<;>rfl),hret X7 λq=>by have:=(hlk q).2.1; omega⟩
       have d6:decide (t.2.2.2<0)=false:=ai p6
       by_cases p7:((nl:Nat):Int)≤t.2.2.2
       ·have d7:decide (((nl:Nat):Int)≤t.2.2.2)=true:=aq p7
        refine ah (ah (ak (M6 rEd rLk e5 d5 d6 d7) ?_))
        refine bq (Z0) (ah (ak (M0) ?_))
        exact aV ⟨.bool false,(by simp only[rs,rf9,am,aC,simprocAttr]<;>rfl),hret X7 λq=>by have:=(hlk q).2.2; omega⟩
       have d7:decide (((nl:Nat):Int)≤t.2.2.2)=false:=ai p7
       obtain⟨kl,hkl⟩:=cS (by omega:(0:Int)≤t.2.2.2)
       have hkl:t.2.2.2=((kl:Nat):Int):=hkl
       have hkn:kl<nl:=om
       have hone:∀ k':Nat,tL t=((k':Nat):Int)→k'=kl:=λk' e=>by
        have e:t.2.2.2=((k':Nat):Int):=e
        omega
       rw[hkl] at rLk d6 d7
       have ikl:eQ ((kl:Nat):Int) nl=some kl:=cJ hkn
       have r2:aj h7 (e0+2) kl 1=some [.int .i64 (iR F kl)]:=aJ l17.se (fx hkn)
       have r1':aj h7 (e0+1) kl 1=some [.int .i64 (lO F kl)]:=aJ l17.fi (fx hkn)
       have hcase:(plc F kl=[]∧lO F kl=-1∧iR F kl=-1)∨(∃ p,plc F kl=[p]∧lO F kl=((p:Nat):Int)∧iR F kl=-1)∨(2≤(plc F kl).length∧0≤iR F kl):=by
        unfold lO iR
        rcases plc F kl with _|⟨p,_|⟨p',r⟩⟩
        ·exact .inl ⟨rfl,rfl,rfl⟩
        ·exact .inr (.inl ⟨p,rfl,rfl,rfl⟩)
        ·exact .inr (.inr ⟨by simp,by show (0:Int)≤((p':Nat):Int); omega⟩)
       rcases hcase with ⟨c1,c2,c3⟩|⟨p,c1,c2,c3⟩|⟨c1,c2⟩
       ·
        have d8:decide ((0:Int)≤iR F kl)=false:=ai om
        have d9:decide (lO F kl<0)=true:=aq om
        refine ah (ah (ak (M12 rEd rLk e5 e8 d5 d6 d7 ikl @aD r2 d8 d8) ?_))
        refine cj (Z0) (be ?_)
        refine ah (ah (ak (M6 rLk e7 ikl @aD r1' d9) ?_))
        refine bq (Z0) ?_
        have w8:=dN (v:=.int .i64 ((i:Nat):Int)) l17.fi (i:=kl) (by rw[fc]; exact hkn)
        have u8:=NW (o:=.cells ((il nl (lO F)).set kl (.int .i64 ((i:Nat):Int))) 1 false) l17.fi
        refine ah (ak (M6 rLk e7 e12 ikl @aD w8) ?_)
        generalize h7.put (e0+1) (.cells ((il nl (lO F)).set kl (.int .i64 ((i:Nat):Int))) 1 false)=h8 at *
        have g78:h8.get h6.next=some (.cells [.int .i64 t.1,.int .i64 t.2.1,.int .i64 t.2.2.1,.int .i64 t.2.2.2] 4 false):=by rw[u8.ne om]; exact g7
        have rT8:aj h8 h6.next 0 4=some [.int .i64 t.1,.int .i64 t.2.1,.int .i64 t.2.2.1,.int .i64 t.2.2.2]:=by rw[aP g78]; rfl
        have rL8:aj h8 h6.next 3 1=some [.int .i64 ((kl:Nat):Int)]:=by rw[← hkl]; exact aJ g78 rfl
        have en8:h8.get (e0+3)=some (.cells ((enL nl F).flatMap eT4) 4 false):=by rw[u8.ne om]; exact l17.en
        have w9:=GT (f:=eT4) (e:=4) (λ_=>rfl) (x:=t) en8 (i:=kl) (by rw[JE]; exact hkn)
        have u9:=NW (o:=.cells (((enL nl F).set kl t).flatMap eT4) 4 false) en8
        have w9:bD h8 (e0+3) (kl*4) [.int .i64 t.1,.int .i64 t.2.1,.int .i64 t.2.2.1,.int .i64 t.2.2.2]=some (h8.put (e0+3) (.cells (((enL nl F).set kl t).flatMap eT4) 4 false)):=w9
        refine ah (ak (M5 e9 rL8 rT8 ikl w9) ?_)
        refine eX ⟨λ_=>⟨(),⟨l17.fst hkn c1 hkl u8 u9,rJ l2 ⟨hAB,.inr ⟨p5,by show 0≤t.2.2.2; omega⟩⟩ (by show t.2.2.2<_; omega) (λk' e=>.inl (by rw[hone k' e]; exact c1)),(l37.trans (u8.ext om)).trans (u9.ext om)⟩,_,(M2 e13 w13),H10 e1 e2 e5 e6 e7 e8 e9 e11 e12 e12⟩,λe=>absurd rfl e⟩
       ·
        have d8:decide ((0:Int)≤iR F kl)=false:=ai om
        have d9:decide (lO F kl<0)=false:=ai om
        refine ah (ah (ak (M12 rEd rLk e5 e8 d5 d6 d7 ikl @aD r2 d8 d8) ?_))
        refine cj (Z0) (be ?_)
        refine ah (ah (ak (M6 rLk e7 ikl @aD r1' d9) ?_))
        refine cj (Z0) (be ?_)
        have w8:=dN (v:=.int .i64 ((i:Nat):Int)) l17.se (i:=kl) (by rw[fc]; exact hkn)
        have u8:=NW (o:=.cells ((il nl (iR F)).set kl (.int .i64 ((i:Nat):Int))) 1 false) l17.se
        refine ah (ak (M6 rLk e8 e12 ikl @aD w8) ?_)
        have r18:=l17.snd (s:=i) (by rw[c1]; rfl) hkl u8
        have g78:(h7.put (e0+2) (.cells ((il nl (iR F)).set kl (.int .i64 ((i:Nat):Int))) 1 false)).get h6.next=some (.cells [.int .i64 t.1,.int .i64 t.2.1,.int .i64 t.2.2.1,.int .i64 t.2.2.2] 4 false):=by rw[u8.ne om]; exact g7
        have en8:(h7.put (e0+2) (.cells ((il nl (iR F)).set kl (.int .i64 ((i:Nat):Int))) 1 false)).get (e0+3)=some (.cells ((enL nl F).flatMap eT4) 4 false):=by rw[u8.ne om]; exact l17.en
        have fi8:(h7.put (e0+2) (.cells ((il nl (iR F)).set kl (.int .i64 ((i:Nat):Int))) 1 false)).get (e0+1)=some (.cells (il nl (lO F)) 1 false):=by rw[u8.ne om]; exact l17.fi
        have l38:Ext e0 h2 (h7.put (e0+2) (.cells ((il nl (iR F)).set kl (.int .i64 ((i:Nat):Int))) 1 false)):=l37.trans (u8.ext om)
        generalize h7.put (e0+2) (.cells ((il nl (iR F)).set kl (.int .i64 ((i:Nat):Int))) 1 false)=h8 at *
        have X8:Ext h.next h h8:=X2.trans (l38.mono om)
        have rA8:aj h8 h6.next 0 1=some [.int .i64 t.1]:=aJ g78 rfl
        have rB8:aj h8 h6.next 1 1=some [.int .i64 t.2.1]:=aJ g78 rfl
        have rL8:aj h8 h6.next 3 1=some [.int .i64 ((kl:Nat):Int)]:=by rw[← hkl]; exact aJ g78 rfl
        have rn0:aj h8 (e0+3) (kl*4) 1=some [.int .i64 (jL F kl).1]:=Bd (j:=0) en8 hkn rfl om
        have rn1:aj h8 (e0+3) (kl*4+1) 1=some [.int .i64 (jL F kl).2.1]:=Bd (j:=1) en8 hkn rfl om
        have rf8:aj h8 (e0+1) kl 1=some [.int .i64 (lO F kl)]:=aJ fi8 (fx hkn)
        rw[c2] at rf8
        obtain⟨pe,pe1,pe2,pe3⟩:=yf (F:=F) (k:=kl) (by rw[c1]; simp)
        have hends:OkF nl ((nn:Nat):Int) E (F++[(i,t)])→(jL F kl).1=t.1∧(jL F kl).2.1=t.2.1:=λq=>by
         rw[pe3]
         exact q.1.2 pe (bA _ pe1) _ hmemT (by rw[pe2]; exact hkl.symm) (by rw[pe2]; omega)
        by_cases z1:(jL F kl).1=t.1
        ·have f1:decide ((jL F kl).1=t.1)=true:=aq z1
         by_cases z2:(jL F kl).2.1=t.2.1
         ·have f2:decide ((jL F kl).2.1=t.2.1)=true:=aq z2
          by_cases z3:p=i
          ·have f3:decide (((p:Nat):Int)=((i:Nat):Int))=true:=aq om
           refine ah (ak (by simp only[am,aC,simprocAttr,e7,e9,e12,rL8,rA8,rB8,ikl,aD,rn0,rn1,rf8,f1,f2,f3]<;>rfl) ?_)
           refine bq (Z0) (ah (ak (M0) ?_))
           refine aV ⟨.bool false,(by simp only[rs,rf9,am,aC,simprocAttr]<;>rfl),hret X8 λq=>?_⟩
           have:=(q.2.2 kl).2
           have hc:plc (F++[(i,t)]) kl=[p,i]:=by
            rw[Spl.plc_app,c1]
            have:tL t=((kl:Nat):Int):=hkl
            rw[if_pos this]
            rfl
           rw[hc,z3] at this
           simp at this
          ·have f3:decide (((p:Nat):Int)=((i:Nat):Int))=false:=ai om
           refine ah (ak (by simp only[am,aC,simprocAttr,e7,e9,e12,rL8,rA8,rB8,ikl,aD,rn0,rn1,rf8,f1,f2,f3]<;>rfl) ?_)
           refine cj (Z0) (be ?_)
           refine⟨(),⟨r18,rJ l2 ⟨hAB,.inr ⟨p5,by show 0≤t.2.2.2; omega⟩⟩ (by show t.2.2.2<_; omega) (λk' e=>.inr ?_),l38⟩,_,(M2 e13 w13),H10 e1 e2 e5 e6 e7 e8 e9 e11 e12 e12⟩
           rw[hone k' e]
           exact⟨p,c1,z3,z1,z2⟩
         ·have f2:decide ((jL F kl).2.1=t.2.1)=false:=ai z2
          refine ah (ak (by simp only[am,aC,simprocAttr,e7,e9,e12,rL8,rA8,rB8,ikl,aD,rn0,rn1,f1,f2]<;>rfl) ?_)
          refine bq (Z0) (ah (ak (M0) ?_))
          exact aV ⟨.bool false,(by simp only[rs,rf9,am,aC,simprocAttr]<;>rfl),hret X8 λq=>z2 (hends q).2⟩
        ·have f1:decide ((jL F kl).1=t.1)=false:=ai z1
         refine ah (ak (M10 e7 e9 e12 rL8 rA8 rB8 ikl @aD rn0 f1) ?_)
         refine bq (Z0) (ah (ak (M0) ?_))
         exact aV ⟨.bool false,(by simp only[rs,rf9,am,aC,simprocAttr]<;>rfl),hret X8 λq=>z1 (hends q).1⟩
       ·
        have d8:decide ((0:Int)≤iR F kl)=true:=aq c2
        refine ah (ah (ak (M12 rEd rLk e5 e8 d5 d6 d7 ikl @aD r2 d8 d8) ?_))
        refine bq (Z0) (ah (ak (M0) ?_))
        refine aV ⟨.bool false,(by simp only[rs,rf9,am,aC,simprocAttr]<;>rfl),hret X7 λq=>?_⟩
        have:=(q.2.2 kl).1
        have hk':tL t=((kl:Nat):Int):=hkl
        rw[Spl.plc_app,if_pos hk',aN,aR,bo] at this
        omega
      ·have d5:decide (t.2.2.1=-1)=false:=ai p5
       refine ah (ah (ak (M2 rEd d5) ?_))
       refine bq (Z0) (ah (ak (M0) ?_))
       exact aV ⟨.bool false,(by simp only[rs,rf9,am,aC,simprocAttr]<;>rfl),hret X7 λq=>p5 (hlk q).1⟩
    ·clear e1 e2 e5 e6 e7 e8 e9 e11 e12
     rintro _ ts h6 ⟨l1,l2,l3⟩ ⟨e1,e2,e5,e6,e7,e8,e9,e11,e12,e13,-⟩
     simp only at e1 e2 e5 e6 e7 e8 e9 e11 e12
     rw[bO] at l1 l2
     exact⟨l1,l2,l3,H10 e1 e2 e5 e6 e7 e8 e9 e11 e12 e12⟩
   ·clear e1 e2 e5 e6 e7 e8 e9 e11 e12
    rintro ts2 h6 ⟨l1,l2,l3,e1,e2,e5,e6,e7,e8,e9,e11,e12,-⟩
    simp only at e1 e2 e5 e6 e7 e8 e9 e11 e12
    have hokT:∀ t∈T,OkT t:=λt ht=>IZ (p:=(i,t)) l2 om (dr _ (dq ht))
    have sr6:aj h6 sb sp 2=some [.int .i64 kind,w]:=by rw[bG (l3.gt _ om)]; exact sr2
    have X6:Ext h.next h h6:=X2.trans (l3.mono om)
    refine ah (ah (bF (bg 4 (M4 e1 e12 sa sr6) rfl (Z4 e1 e12 sa sr6) (M4 e1 e12 sa sr6) (EN (kind:=kind) (st.ext l3 om) hokT om) λr h7 hq=>?_)))
    obtain⟨b,rfl,hbk,x7⟩:=hq
    have l37:Ext e0 h2 h7:=l3.trans (x7.mono (by have:=l1.nx; omega))
    have X7:Ext h.next h h7:=X2.trans (l37.mono om)
    refine bp (M0) ?_
    cases b with
    | false =>
      refine bq (Z0) (ah (ak (M0) ?_))
      exact aV ⟨.bool false,(by simp only[rs,rf9,am,aC,simprocAttr]<;>rfl),false,rfl,⟨(λq=>by cases q),λq=>absurd q (hnK λp=>by have:=hbk.2 p; cases this)⟩,X7⟩
    | true =>
      refine cj (Z0) (be ?_)
      have srw7:aj h7 sb (sp+1) 1=some [w]:=by rw[bG (l37.gt _ om)]; exact srw
      have hvT:=vs_len T
      have wadd:IntKind.i64.wrap (((gv S i:Nat):Int)+(((vs T).length:Nat):Int))=((gv S i+(vs T).length:Nat):Int):=by
       rw[fp om om]; omega
      refine bF (bg 6 (M5 e1 e11 e12 sa srw7) rfl (Z5 e1 e11 e12 sa srw7) (M5 e1 e11 e12 sa srw7) (nA (st.ext l37 om) hokT om) λr h8 hq=>?_)
      obtain⟨i8,x8⟩:=hq
      have lvl:=(kH i8).len
      rw[ar,ar] at lvl
      refine bp (M3 e11 lvl wadd) ?_
      have l1':=(l1.ext x7).ext x8
      exact⟨(),⟨l1',l2,hjK (hbk.1 rfl),l37.trans (x8.mono (by have:=l1.nx; have:=x7.nx; omega))⟩,_,(M2 e12 w12),H7 e1 e2 e5 e6 e7 e8 e9⟩
  ·clear e1 e2 e5 e6 e7 e8 e9 R0 j5 j6
   rintro _ ts h5 ⟨k1,k2,k3,k4⟩ ⟨e1,e2,e5,e6,e7,e8,e9,e11,e12,-⟩
   simp only at e1 e2 e5 e6 e7 e8 e9 e11
   clear e12
   have X5:Ext h.next h h5:=X2.trans (k4.mono om)
   have hplt:∀ p∈de S S.length,p.1<S.length:=λp hp=>AA p hp
   have hC:oN ((nn:Nat):Int) E S↔(∀ i,i<E.length→cntF (de S S.length) i=1)∧(∀ k,k<nl→(plc (de S S.length) k).length=2∧(dP S (tP (de S S.length) k)=dP S (tQ (de S S.length) k)→dP S (tP (de S S.length) k)=3)) ∧
    (∀ x,x<S.length→RC nl (tP (de S S.length)) (tQ (de S S.length)) (λ_=>true) 0 x)∧((gv S S.length:Nat):Int)=((nn:Nat):Int)+2*((nl:Nat):Int):=by
    unfold oN
    rw[← hnle]
    constructor
    ·exact λq=>q.2.2.2.2.2
    ·exact λq=>⟨hmay,om,h64,k2,λi hi=>k3 i hi hi,q⟩
   have hret:∀ {h':AH},Ext h.next h h'→¬ oN ((nn:Nat):Int) E S→∃ b,(AV.bool false)=.bool b∧(b=true↔oN ((nn:Nat):Int) E S)∧Ext h.next h h':=λx q=>⟨false,rfl,⟨(λe=>by cases e),λp=>absurd p q⟩,x⟩
   generalize gv S S.length=sv at *
   generalize de S S.length=F at *
   have hn5:=k1.nx
   refine ah (ah (ak (M0) ?_))
   refine er (α:=Unit) (N:=E.length) (λi _=>[(1,v),(2,.ptr h.next 0),(5,.int .i64 ((nl:Nat):Int)),(6,.sl e0 0 E.length E.length),(7,.sl (e0+1) 0 nl nl),(8,.sl (e0+2) 0 nl nl),(11,.int .i64 ((sv:Nat):Int)),(16,.int .i64 (i:Nat))])
    (λi _ h'=>h'=h5∧∀ j,j<i→cntF F j=1) () (H8 e1 e2 e5 e6 e7 e8 e11 @aW) ⟨rfl,λj q=>absurd q (bm _)⟩ ?_ ?_ ?_
   ·clear e1 e2 e5 e6 e7 e8 e9 e11
    rintro i _ ts h6 hi ⟨rfl,l2⟩ ⟨e1,e2,e5,e6,e7,e8,e11,e16,-⟩
    simp only at e1 e2 e5 e6 e7 e8 e11 e16
    exact⟨_,(M3 e6 e16 @bw),Z0,H8 e1 e2 e5 e6 e7 e8 e11 e16⟩
   ·clear e1 e2 e5 e6 e7 e8 e9 e11
    rintro i _ ts h6 hi ⟨rfl,l2⟩ ⟨e1,e2,e5,e6,e7,e8,e11,e16,-⟩
    simp only at e1 e2 e5 e6 e7 e8 e11 e16
    have w16:=dF (k:=i) om
    have ii:eQ ((i:Nat):Int) E.length=some i:=cJ hi
    have rr:aj h6 e0 i 1=some [.int .i64 ((cntF F i:Nat):Int)]:=aJ k1.ed (fx hi)
    by_cases q:cntF F i=1
    ·have c1:decide (((cntF F i:Nat):Int)=1)=true:=aq om
     refine ah (ak (M6 e6 e16 ii @aD rr c1) ?_)
     refine cj (Z0) (be ?_)
     refine⟨(),⟨rfl,λj hj=>?_⟩,_,(M2 e16 w16),H7 e1 e2 e5 e6 e7 e8 e11⟩
     by_cases e:j=i
     ·subst e; exact q
     ·exact l2 j om
    ·have c1:decide (((cntF F i:Nat):Int)=1)=false:=ai om
     refine ah (ak (M6 e6 e16 ii @aD rr c1) ?_)
     refine bq (Z0) (ah (ak (M0) ?_))
     exact aV ⟨.bool false,(by simp only[rs,rf9,am,aC,simprocAttr]<;>rfl),hret X5 λp=>q ((hC.1 p).1 i hi)⟩
   clear e1 e2 e5 e6 e7 e8 e9 e11
   rintro _ ts h6 ⟨rfl,hcnt⟩ ⟨e1,e2,e5,e6,e7,e8,e11,-⟩
   simp only at e1 e2 e5 e7 e8 e11
   obtain⟨h7,w7,x7,g7,n7⟩:=dI (h:=h6) (z:=[.int .i64 0,.nils]) (cs:=[.int .i64 ((S.length:Nat):Int),.nils]) (e:=2) rfl
   refine ah (ak (M3 e1 sl w7) ?_)
   have k17:=k1.ext x7
   have k47:Ext e0 h2 h7:=k4.trans (x7.mono om)
   refine ah (ah (ak (M0) ?_))
   refine er (α:=AV) (N:=nl) (λk _=>[(1,v),(2,.ptr h.next 0),(5,.int .i64 ((nl:Nat):Int)),(7,.sl (e0+1) 0 nl nl),(8,.sl (e0+2) 0 nl nl),(11,.int .i64 ((sv:Nat):Int)),(17,.ptr h6.next 0),(18,.int .i64 (k:Nat))])
    (λk a h'=>h'.get h6.next=some (.cells [.int .i64 ((S.length:Nat):Int),a] 2 false)∧IsSl h' 2 (h6.next+1) a (((List.range k).map (tE2 F)).flatMap eE)∧(∀ j,j<k→(plc F j).length=2∧(dP S (tP F j)=dP S (tQ F j)→dP S (tP F j)=3))∧RSt h' e0 E.length nl F∧Ext e0 h2 h'∧h6.next+1≤h'.next) .nils (H7 e1 e2 e5 e7 e8 e11 @aW)
    ⟨g7,.inl ⟨rfl,rfl⟩,λj q=>absurd q (bm _),k17,k47,om⟩ ?_ ?_ ?_
   ·clear e1 e2 e5 e6 e7 e8 e11
    rintro k a ts h8 hk ⟨l1,l2,l3,l4,l5,l6⟩ ⟨e1,e2,e5,e7,e8,e11,e17,e18,-⟩
    simp only at e1 e2 e5 e7 e8 e11 e17 e18
    exact⟨_,(M3 e5 e18 @bw),Z0,H8 e1 e2 e5 e7 e8 e11 e17 e18⟩
   ·clear e1 e2 e5 e6 e7 e8 e11
    rintro k a ts h8 hk ⟨l1,l2,l3,l4,l5,l6⟩ ⟨e1,e2,e5,e7,e8,e11,e17,e18,-⟩
    simp only at e1 e2 e5 e7 e8 e11 e17 e18
    have w18:=dF (k:=k) om
    have ik:eQ ((k:Nat):Int) nl=some k:=cJ hk
    have X8:Ext h.next h h8:=X2.trans (l5.mono om)
    have rs8:aj h8 (e0+2) k 1=some [.int .i64 (iR F k)]:=aJ l4.se (fx hk)
    have rf8:aj h8 (e0+1) k 1=some [.int .i64 (lO F k)]:=aJ l4.fi (fx hk)
    have hle2:=(k2.2.2 k).1
    have hcase:((plc F k).length≠2∧iR F k=-1)∨∃ p q,plc F k=[p,q]∧lO F k=((p:Nat):Int)∧iR F k=((q:Nat):Int):=by
     unfold lO iR
     revert hle2
     rcases plc F k with _|⟨p,_|⟨p',_|⟨p2,r⟩⟩⟩
     ·exact λ_=>.inl ⟨by simp,rfl⟩
     ·exact λ_=>.inl ⟨by simp,rfl⟩
     ·exact λ_=>.inr ⟨p,p',rfl,rfl,rfl⟩
     ·intro h; simp at h
    rcases hcase with ⟨c1,c2⟩|⟨p,q,c1,c2,c3⟩
    ·have d1:decide (iR F k<0)=true:=aq om
     refine ah (ah (ak (M6 e8 e18 ik @aD rs8 d1) ?_))
     refine bq (Z0) (ah (ak (M0) ?_))
     exact aV ⟨.bool false,(by simp only[rs,rf9,am,aC,simprocAttr]<;>rfl),hret X8 λz=>c1 ((hC.1 z).2.1 k hk).1⟩
    ·rw[c2] at rf8
     rw[c3] at rs8
     have d1:decide (((q:Nat):Int)<0)=false:=ai om
     have hpS:p<S.length∧q<S.length:=by
      have a1:p∈plc F k:=by rw[c1]; simp
      have a2:q∈plc F k:=by rw[c1]; simp
      obtain⟨t1,z1,_⟩:=Spl.mem_plc.1 a1
      obtain⟨t2,z2,_⟩:=Spl.mem_plc.1 a2
      exact⟨hplt _ z1,hplt _ z2⟩
     have hPQ:tP F k=p∧tQ F k=q:=by unfold tP tQ; rw[c1]; exact⟨rfl,rfl⟩
     have hs8:=hs2.ext l5 om
     obtain⟨k0b,k0p,w0,k0a,k0r2,k0r,_⟩:=hs8.at hpS.1
     obtain⟨k1b,k1p,w1',k1a,k1r2,k1r,_⟩:=hs8.at hpS.2
     rw[← ov hpS.1] at k0r
     rw[← ov hpS.2] at k1r
     refine ah (oI (λts' h'=>h8=h'∧(dP S p=dP S q→dP S p=3)∧Held [(1,v),(2,.ptr h.next 0),(5,.int .i64 ((nl:Nat):Int)),(7,.sl (e0+1) 0 nl nl),(8,.sl (e0+2) 0 nl nl),(11,.int .i64 ((sv:Nat):Int)),(17,.ptr h6.next 0),(18,.int .i64 (k:Nat))] ts') ?_ ?_)
     ·by_cases c4:dP S p=dP S q
      ·have d4:decide (dP S p=dP S q)=true:=aq c4
       by_cases c5:dP S p=3
       ·have d5:decide (dP S p=3)=true:=aq c5
        refine ah (ak (by simp only[am,aC,simprocAttr,e1,e7,e8,e18,ik,aD,rs8,rf8,d1,k0a,k0r,k1a,k1r,d4,d5]<;>rfl) ?_)
        refine cj (Z0) (be ?_)
        exact⟨rfl,λ_=>c5,H8 e1 e2 e5 e7 e8 e11 e17 e18⟩
       ·have d5:decide (dP S p=3)=false:=ai c5
        refine ah (ak (by simp only[am,aC,simprocAttr,e1,e7,e8,e18,ik,aD,rs8,rf8,d1,k0a,k0r,k1a,k1r,d4,d5]<;>rfl) ?_)
        refine bq (Z0) (ah (ak (M0) ?_))
        refine aV ⟨.bool false,(by simp only[rs,rf9,am,aC,simprocAttr]<;>rfl),hret X8 λz=>c5 ?_⟩
        have:=((hC.1 z).2.1 k hk).2
        rw[hPQ.1,hPQ.2] at this
        exact this c4
      ·have d4:decide (dP S p=dP S q)=false:=ai c4
       refine ah (ak (by simp only[am,aC,simprocAttr,e1,e7,e8,e18,ik,aD,rs8,rf8,d1,k0a,k0r,k1a,k1r,d4]<;>rfl) ?_)
       refine cj (Z0) (be ?_)
       exact⟨rfl,λe=>absurd e c4,H8 e1 e2 e5 e7 e8 e11 e17 e18⟩
     ·clear e1 e2 e5 e7 e8 e11 e17 e18
      rintro ts2 h' ⟨rfl,hkind,e1,e2,e5,e7,e8,e11,e17,e18,-⟩
      simp only at e1 e2 e5 e7 e8 e11 e17 e18
      have q7:(h8.keep 1).get h8.next=some .resv:=fN
      have kg:∀ c,c<h8.next→(h8.keep 1).get c=h8.get c:=λc hc=>by rw[AH.keep_get,if_neg om]
      obtain⟨x9,p9,n9,y9⟩:=gq (h:=h8) (o:=.cells [.int .i64 ((p:Nat):Int),.int .i64 ((q:Nat):Int)] 2 false)
      have hn8:=l4.nx
      have rsk:aj (h8.keep 1) (e0+2) k 1=some [.int .i64 ((q:Nat):Int)]:=by rw[bG (kg _ om)]; exact rs8
      have rfk:aj (h8.keep 1) (e0+1) k 1=some [.int .i64 ((p:Nat):Int)]:=by rw[bG (kg _ om)]; exact rf8
      have rtk:aj (h8.keep 1) h6.next 1 1=some [a]:=aJ (by rw[kg _ om]; exact l1) rfl
      have hlen2:(((List.range k).map (tE2 F)).flatMap eE).length=k*2:=by rw[dZ (f:=eE) (e:=2) (λ_=>rfl),ar,aZ]
      obtain⟨a',h9,t1,t2,t3,t4,t5,t6,_⟩:=(l2.ext x9 (ae _)).app (bytes:=16) om om p9 om (λb n e=>by have:=l2.lt e; omega) rfl rfl (by rw[hlen2,cM _ om]; unfold aQ; omega) (by rw[hlen2,cM _ om]; unfold aQ; omega)
      have ac:=t2.cells
      have g9:h9.get h6.next=some (.cells [.int .i64 ((S.length:Nat):Int),a] 2 false):=by rw[t3.gt _ om,y9 _ om]; exact l1
      have w9:bD h9 h6.next 1 [a']=some (h9.put h6.next (.cells [.int .i64 ((S.length:Nat):Int),a'] 2 false)):=dN (v:=a') g9 (show 1<2 by omega)
      have u9:=NW (o:=.cells [.int .i64 ((S.length:Nat):Int),a'] 2 false) g9
      refine nS (by simp only[am,aC,simprocAttr,e7,e8,e17,e18,ik,aD,rtk,rfk,rsk,eP,eV q7,t1,ac.1,ac.2,w9]<;>rfl) ?_
      have hk9:Ext h6.next h8 (h9.put h6.next (.cells [.int .i64 ((S.length:Nat):Int),a'] 2 false)):=((x9.mono om).trans (t3.mono om)).trans (u9.ext (ae _))
      refine⟨a',⟨u9.get,?_,λj hj=>?_,⟨by rw[hk9.gt _ om]; exact l4.ed,by rw[hk9.gt _ om]; exact l4.fi,by rw[hk9.gt _ om]; exact l4.se,by rw[hk9.gt _ om]; exact l4.en,by rw[u9.nx]; omega⟩,l5.trans (hk9.mono om),by rw[u9.nx]; omega⟩,_,(M2 e18 w18),H7 e1 e2 e5 e7 e8 e11 e17⟩
      ·rw[bT,br,cI]
       have:[k].map (tE2 F)=[(((p:Nat):Int),((q:Nat):Int))]:=by
        simp only[aS,mY,tE2,hPQ.1,hPQ.2]
       rw[this]
       exact t2.upd u9 om
      ·by_cases e:j=k
       ·subst e
        rw[hPQ.1,hPQ.2,c1]
        exact⟨rfl,hkind⟩
       ·exact l3 j om
   clear e1 e2 e5 e6 e7 e8 e11
   rintro a ts h8 ⟨l1,l2,l3,l4,l5,l6⟩ ⟨e1,e2,e5,e7,e8,e11,e17,e18,-⟩
   simp only at e1 e2 e5 e11 e17
   have X8:Ext h.next h h8:=X2.trans (l5.mono om)
   have hPb:∀ k,k<nl→tP F k<S.length∧tQ F k<S.length:=λk hk=>by
    have c1:=Al (l3 k hk).1
    have a1:tP F k∈plc F k:=by rw[c1]; simp [tP]
    have a2:tQ F k∈plc F k:=by rw[c1]; simp [tQ]
    obtain⟨t1,z1,_⟩:=Spl.mem_plc.1 a1
    obtain⟨t2,z2,_⟩:=Spl.mem_plc.1 a2
    exact⟨hplt _ z1,hplt _ z2⟩
   obtain⟨hInT,hat⟩:=Hd (n:=S.length) (F:=F) hPb
   have hconn:∀ x,RC ((List.range nl).map (tE2 F)).length (tlE ((List.range nl).map (tE2 F))) (hdE ((List.range nl).map (tE2 F))) (λ_=>true) 0 x↔RC nl (tP F) (tQ F) (λ_=>true) 0 x:=λx=>by
    have hl:((List.range nl).map (tE2 F)).length=nl:=by simp
    constructor
    ·exact rc_sub λi hi _=>⟨i,om,rfl,.inl ⟨(hat i om).1.symm,(hat i om).2.symm⟩⟩
    ·exact rc_sub λi hi _=>⟨i,om,rfl,.inl ⟨(hat i hi).1,(hat i hi).2⟩⟩
   have q7:(h8.keep 1).get h8.next=some .resv:=fN
   have kg:∀ c,c<h8.next→(h8.keep 1).get c=h8.get c:=λc hc=>by rw[AH.keep_get,if_neg om]
   obtain⟨x9,p9,n9,y9⟩:=gq (h:=h8) (o:=.cells (bX [.bool false] S.length) 1 false)
   have p9:((h8.keep 1).put h8.next (.cells (bX [.bool false] S.length) 1 false)).get h8.next=some (.cells (bl S.length λ_=>false) 1 false):=by rw[p9,oH]
   have mvb:=rP (z:=[.bool false]) (bytes:=1) (n:=S.length) (by unfold aQ; omega) (by unfold aQ; omega)
   have rGk:aj (h8.keep 1) h6.next 0 2=some [.int .i64 ((S.length:Nat):Int),a]:=by rw[bG (kg _ om),aP l1]; rfl
   have sE:SlE h8 a ((List.range nl).map (tE2 F)):=NT om (λ_=>rfl) l2
   have hP:=oZ (n:=S.length) (o:=λ_=>false) (sE.ext x9 (ae _)) hInT (by simp; omega) om p9
   unfold gW at hP
   refine ah (sW (bg 4 (by simp only[am,aC,simprocAttr,e1,e17,rGk,sl,eP,je q7,mvb,aG]<;>rfl) rfl (by simp only[am,aC,simprocAttr,e1,e17,rGk,sl,eP,je q7,mvb,aG]) (by simp only[am,aC,simprocAttr,e1,e17,rGk,sl,eP,je q7,mvb,aG]<;>rfl) (hP) λr h9 hq=>?_))
   obtain⟨x10,i10⟩:=hq
   generalize (h8.keep 1).put h8.next (.cells (bX [.bool false] S.length) 1 false)=hK at *
   have X10:Ext h.next h h9:=X8.trans ((x9.mono X8.nx).trans (x10.mono (by have:=X8.nx; omega)))
   have g29:h9.get h.next=some (.cells [.int .i64 ((nn:Nat):Int),ev] 2 false):=by rw[x10.gt _ om,x9.gt _ om,l5.gt _ om]; exact g2
   have rN9:aj h9 h.next 0 1=some [.int .i64 ((nn:Nat):Int)]:=aJ g29 rfl
   refine bp (M0) ?_
   refine ah (ah (ak (M0) ?_))
   have i10':SlI h9 r ((List.range S.length).map (cU S.length ((List.range nl).map (tE2 F)) λ_=>false)):=NT om (λ_=>rfl) i10
   refine er (α:=Unit) (N:=S.length) (λi _=>[(1,v),(2,.ptr h.next 0),(5,.int .i64 ((nl:Nat):Int)),(11,.int .i64 ((sv:Nat):Int)),(19,r),(20,.int .i64 (i:Nat))])
    (λi _ h'=>h'=h9∧∀ j,j<i→cU S.length ((List.range nl).map (tE2 F)) (λ_=>false) j=0) () (H5 e1 e2 e5 e11 @aW) ⟨rfl,λj q=>absurd q (bm _)⟩ ?_ ?_ ?_
   ·clear e1 e2 e5 e7 e8 e11 e17 e18
    rintro i _ ts hZ hi ⟨rfl,z2⟩ ⟨e1,e2,e5,e11,e19,e20,-⟩
    simp only at e1 e2 e5 e11 e19 e20
    exact⟨_,(M4 e1 e20 sl @bw),Z0,H6 e1 e2 e5 e11 e19 e20⟩
   ·clear e1 e2 e5 e7 e8 e11 e17 e18
    rintro i _ ts hZ hi ⟨rfl,z2⟩ ⟨e1,e2,e5,e11,e19,e20,-⟩
    simp only at e1 e2 e5 e11 e19 e20
    have w20:=dF (k:=i) om
    obtain⟨b1,p1,a1,r1,_⟩:=i10'.at1 (i:=i) (y:=.int .i64 (cU S.length ((List.range nl).map (tE2 F)) (λ_=>false) i)) (by rw[aE,aE,cu hi]; rfl)
    by_cases q:cU S.length ((List.range nl).map (tE2 F)) (λ_=>false) i=0
    ·have c1:decide (cU S.length ((List.range nl).map (tE2 F)) (λ_=>false) i=0)=true:=aq q
     refine ah (ak (M5 e19 e20 a1 r1 c1) ?_)
     refine cj (Z0) (be ?_)
     refine⟨(),⟨rfl,λj hj=>?_⟩,_,(M2 e20 w20),H5 e1 e2 e5 e11 e19⟩
     by_cases e:j=i
     ·subst e; exact q
     ·exact z2 j om
    ·have c1:decide (cU S.length ((List.range nl).map (tE2 F)) (λ_=>false) i=0)=false:=ai q
     refine ah (ak (M5 e19 e20 a1 r1 c1) ?_)
     refine bq (Z0) (ah (ak (M0) ?_))
     exact aV ⟨.bool false,(by simp only[rs,rf9,am,aC,simprocAttr]<;>rfl),hret X10 λp=>q ((tV hInT hi).2 ((hconn i).2 ((hC.1 p).2.2.1 i hi)))⟩
   ·clear e1 e2 e5 e7 e8 e11 e17 e18
    rintro _ ts hZ ⟨rfl,z2⟩ ⟨e1,e2,e5,e11,e19,e20,-⟩
    simp only at e1 e2 e5 e11
    have wmul:IntKind.i64.wrap (2*((nl:Nat):Int))=2*((nl:Nat):Int):=fp om om
    have wadd:IntKind.i64.wrap (((nn:Nat):Int)+2*((nl:Nat):Int))=((nn:Nat):Int)+2*((nl:Nat):Int):=fp om om
    refine ah (ak (M6 e2 e5 e11 rN9 wmul wadd) ?_)
    refine aV ⟨.bool (decide (((sv:Nat):Int)=((nn:Nat):Int)+2*((nl:Nat):Int))),(by simp only[rs,rf9,am,aC,simprocAttr]<;>rfl),_,rfl,?_,X10⟩
    rw[az,hC]
    exact⟨λq=>⟨hcnt,l3,λx hx=>(hconn x).1 ((tV hInT hx).1 (z2 x hx)),q⟩,λq=>q.2.2.2⟩
 ·have c64':decide ((64:Int)<((S.length:Nat):Int))=true:=aq om
  refine bp (Mi3 sl cz c64') ?_
  refine bq (Z0) (ah (ak (M0) ?_))
  exact aV ⟨.bool false,(by simp only[rs,rf9,am,aC,simprocAttr]<;>rfl),false,rfl,⟨(λq=>by cases q),λq=>absurd q.2.2.1 h64⟩,X2⟩
end Go.Proofs.YthbmhbldmcbnpaaGreatDoor
