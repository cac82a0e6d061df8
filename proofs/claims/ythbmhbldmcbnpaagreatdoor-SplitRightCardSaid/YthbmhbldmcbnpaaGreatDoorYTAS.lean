/- split.Right -/
import Derived.Test.YthbmhbldmcbnpaaGreatDoorYTAQ
import Derived.Test.YthbmhbldmcbnpaaGreatDoorYTAR
import Derived.Test.YthbmhbldmcbnpaaGreatDoorYTAF
import Derived.Test.YthbmhbldmcbnpaaGreatDoorYTAC
set_option linter.all false
namespace Go.Proofs.YthbmhbldmcbnpaaGreatDoor
open Go.Am
open Go.Spl (T4 OkT tA tB tE tL FT cntF plc vs vs_len cntF_le)
def de (S:List SK) (k:Nat):FT:=(List.range k).flatMap λi=>(S.getD i (0,[])).2.map λt=>(i,t)
def Bv (S:List SK):Nat:=(S.map λp=>p.2.length).sum
def gv (S:List SK) (k:Nat):Nat:=((S.take k).map λp=>(vs p.2).length).sum
theorem fL {S:List SK}{i:Nat} (hi:i<S.length):de S (i+1)=de S i++S[i].2.map λt=>(i,t):=by
 unfold de
 rw[bT,cI]
 simp [aF,au hi]
theorem xq {S:List SK}:∀ k,k≤S.length→(de S k).length=((S.take k).map λp=>p.2.length).sum
 | 0,_=>by simp [de]
 | k+1,h=>by
   have hk:k<S.length:=om
   rw[fL hk,aN,xq k om,ar,aX hk,br,mK]
   simp
theorem wL {l:List Nat} (k:Nat):(l.take k).sum≤l.sum:=by
 have:=congrArg List.sum (bP k l)
 rw[mK] at this
 omega
theorem AB {S:List SK}{k:Nat} (hk:k≤S.length):(de S k).length≤Bv S:=by
 rw[xq k hk,List.map_take]
 exact wL k
theorem vf {S:List SK}{i:Nat} (hi:i<S.length):(de S i).length+S[i].2.length≤Bv S:=by
 have:=AB (S:=S) (k:=i+1) hi
 rw[fL hi,aN,ar] at this
 exact this
theorem AA {S:List SK}{k:Nat}:∀ p∈de S k,p.1<k:=λp hp=>by
 unfold de at hp
 obtain⟨i,hi,h⟩:=fQ.1 hp
 obtain⟨t,_,rfl⟩:=bi.1 h
 exact aL.1 hi
theorem oV {S:List SK}{i:Nat} (hi:i<S.length):gv S (i+1)=gv S i+(vs S[i].2).length:=by
 unfold gv
 rw[aX hi,br,mK]
 simp
theorem nX (S:List SK):∀ k,k≤S.length→gv S k≤k*64
 | 0,_=>by simp [gv]
 | k+1,h=>by
   rw[oV om]
   have:=nX S k om
   have:=vs_len S[k].2
   omega
def lD (n:Int) (E:List (Int×Int)) (F:FT) (i:Nat) (T:List T4) (k:Nat):Prop:=∀ j (hj:j<T.length),j<k→mI n E (F++(T.take j).map λt=>(i,t)) T[j]
def Bl (n:Int) (E:List (Int×Int)) (S:List SK):Prop:=DA n E∧S.length≤64∧(∀ i (hi:i<S.length),lD n E (de S i) i S[i].2 S[i].2.length∧IsK S[i].1 S[i].2∧(S[i].1=3→S[i].2.length≤128)) ∧
 (∀ i,i<E.length→cntF (de S S.length) i=1)∧qv (de S S.length) S∧((gv S S.length:Nat):Int)=n+2*((S.length-1:Nat):Int)
theorem Jy {n:Nat}{S:Nat→Prop}{h0 h h':AH} (a:Ext n h0 h) (k:Kp S h h') (hs:∀ c,c<n→¬ S c) (hn:n≤h.next):Ext n h0 h' :=
 ⟨bW a.nx k.nx,λc hc=>by rw[k.gt c om (hs c hc),a.gt c hc],λc hc=>by rw[k.ty c om,a.ty c hc]⟩
theorem Chk.av {h h':AH}{lo cb eb lb nb av:Nat}{n:Int}{ev:AV}{F:FT}{cnt:Int} (c:Chk h lo cb eb lb nb av n ev F cnt) (hx:Ext h.next h h') (hn:h.next<h'.next):Chk h' lo cb eb lb nb h.next n ev F cnt:=by
 have c':=c.ext hx
 obtain⟨es,cc,ml,l1,l2,l3,l4,l5,l6⟩:=c.lm
 obtain⟨o1,o2,o3,o4,o5,o6,o7⟩:=c.ord
 refine⟨c'.cell,c'.em,c'.nm,⟨es,cc,ml,by rw[hx.gt _ (AH.lt_of_get l1)]; exact l1,l2.cong λc _ hc=>hx.gt c hc,l3,l4,l5,λj e e1 b k e3=>?_⟩,o1,o2,o3,o4,om,hn,o7⟩
 have hj:=(aB.1 e1).1
 have:=(l2.at_ j e _ e1 (au (by have:=l2.len; omega))).lt e3
 omega
theorem Chk.cnt {h h':AH}{lo cb eb lb nb av:Nat}{n:Int}{ev:AV}{F:FT}{cnt cnt':Int} (c:Chk h lo cb eb lb nb av n ev F cnt) (u:Upd h h' cb (.cells [.int .i64 n,ev,.mp eb,.mp lb,.mp nb,.int .i64 cnt'] 6 false)):Chk h' lo cb eb lb nb av n ev F cnt':=by
 obtain⟨c1,⟨m1,c2,c3⟩,⟨m2,c4,c5⟩,⟨es,cc,ml,l1,l2,l3,l4,l5,l6⟩,o1,o2,o3,o4,o5,o6,o7,o8,o9,o10,o11,o12⟩:=c
 have hn:=u.nx
 exact⟨u.get,⟨m1,c2.cong (u.ne (λe=>o7 e.symm)),c3⟩,⟨m2,c4.cong (u.ne (λe=>o9 e.symm)),c5⟩,
  ⟨es,cc,ml,by rw[u.ne (λe=>o8 e.symm)]; exact l1,l2.cong λc hb hc=>u.ne om,l3,l4,l5,l6⟩,o1,o2,o3,o4,om,om,o7,o8,o9,o10,o11,o12⟩
theorem Chk.edges {h:AH}{lo cb eb lb nb av:Nat}{n:Int}{ev:AV}{F:FT}{cnt:Int} (c:Chk h lo cb eb lb nb av n ev F cnt) (i:Nat):fZ h .ki false (.int .i64 0) (.mp eb) (.int .i64 ((i:Nat):Int))=some (.int .i64 ((cntF F i:Nat):Int)):=by
 obtain⟨m,hm,hd⟩:=c.em
 have:=hm.look to (.int .i64 0) i
 rw[hd i] at this
 rw[this]
 split
 ·rename_i e; rw[e]; rfl
 ·rfl
theorem Chk.links {h:AH}{lo cb eb lb nb av:Nat}{n:Int}{ev:AV}{F:FT}{cnt:Int}{S:List SK} (c:Chk h lo cb eb lb nb av n ev F cnt) (hh:qv F S):kJ h (.mp lb)=some (.int .i64 ((S.length-1:Nat):Int)):=by
 obtain⟨es,cc,ml,l1,l2,l3,l4,l5,l6⟩:=c.lm
 have hkk:∀ k,k∈ml.map (·.1)↔k<S.length-1:=λk=>by
  rw[← hh.2.1 k,← l3 k]
  constructor
  ·intro q
   obtain⟨p,hp,rfl⟩:=bi.1 q
   rw[vF l4 hp]
   exact l5 p hp
  ·intro q
   refine Classical.byContradiction λhc=>q (oq hc)
 have h1:=Kur.len_le_of_sub l4 (m:=List.range (S.length-1)) λk hk=>aL.2 ((hkk k).1 hk)
 have h2:=Kur.len_le_of_sub (l:=List.range (S.length-1)) iB (m:=ml.map (·.1)) λk hk=>(hkk k).2 (aL.1 hk)
 rw[ar,aZ] at h1 h2
 have:=l2.len
 simp only[kJ,l1]
 congr 3
 omega
theorem Nz {n:Int}{E:List (Int×Int)}{F:FT}{t:T4} (h:mI n E F t) (hn:n≤64):OkT t:=by
 obtain⟨⟨h1,h2,h3⟩,_⟩:=h
 exact⟨h1,h2,om⟩
set_option maxHeartbeats 4000000 in
theorem yQ {h:AH}{n:Int}{ev v:AV}{E:List (Int×Int)}{S:List SK} (he:SlE h ev E) (hs:SkL h v S) (ht:Tab h) (hnx:0<h.next) (hEl:E.length<2 ^ 40) (hS:S.length≤70) (hT:Bv S≤200) :
 C prg 7 [.agg [.int .i64 n,ev],v] h λr h'=>∃ b,r=.bool b∧(b=true↔Bl n E S)∧Ext h.next h h':=by
 obtain⟨ec,eo⟩:=he.cells
 have el:=he.len
 rw[ar] at el
 have sl:=hs.len
 refine NX pf7 ?_
 refine ah (ak (Mi0) ?_)
 have x0:Ext h.next h (h.new (.cells [.int .i64 n,ev] 2 false)):=NU (ae _)
 have g0:(h.new (.cells [.int .i64 n,ev] 2 false)).get h.next=some (.cells [.int .i64 n,ev] 2 false):=by rw[AH.get_new,if_pos rfl]
 have n0:(h.new (.cells [.int .i64 n,ev] 2 false)).next=h.next+1:=rfl
 generalize (h.new (.cells [.int .i64 n,ev] 2 false))=h1 at *
 have rA:aj h1 h.next 0 2=some [.int .i64 n,ev]:=by rw[aP g0]; rfl
 refine ah (ah (bF (bg 1 (Mi1 rA) rfl (Zi1 rA) (Mi1 rA) (DT (n:=n) (he.ext x0 (ae _)) hEl (ht.ext x0 hnx) om) λr h2 hq=>?_)))
 obtain⟨b,rfl,hb,x2⟩:=hq
 have X2:Ext h.next h h2:=x0.trans (x2.mono om)
 have n2:=x2.nx
 have g2:h2.get h.next=some (.cells [.int .i64 n,ev] 2 false):=by rw[x2.gt _ om]; exact g0
 have rA2:aj h2 h.next 0 2=some [.int .i64 n,ev]:=by rw[aP g2]; rfl
 cases b with
 | false =>
   refine bp (M0) ?_
   refine bq (Z0) (ah (ak (M0) ?_))
   exact aV ⟨.bool false,(by simp only[rs,rf7,am,aC,simprocAttr]<;>rfl),false,rfl,⟨(λq=>by cases q),λq=>hb.2 q.1⟩,X2⟩
 | true =>
 have hmay:=hb.1 rfl
 obtain⟨nn,rfl,hInG,_,m1,m2,m3,hm⟩:=mO hmay.1
 by_cases h64:S.length≤64
 ·have c64:decide (((S.length:Nat):Int)>64)=false:=ai om
  have c64':decide ((64:Int)<((S.length:Nat):Int))=false:=ai om
  refine bp (Mi3 sl c64 c64') ?_
  refine cj (Z0) (be ?_)
  have hA:∃ hC:AH,hC=((((h2.new (.mapo [] 0)).new (.mapo [] 0)).new (.mapo [] 0)).new (.cells [.int .i64 ((nn:Nat):Int),ev,.mp h2.next,.mp (h2.next+1),.mp (h2.next+2),.int .i64 0] 6 false)):=⟨_,rfl⟩
  obtain⟨hC,hCe⟩:=hA
  have y1:Ext h2.next h2 (h2.new (.mapo [] 0)):=NU (ae _)
  have y2:Ext h2.next (h2.new (.mapo [] 0)) ((h2.new (.mapo [] 0)).new (.mapo [] 0)):=NU (by simp)
  have y3:Ext h2.next ((h2.new (.mapo [] 0)).new (.mapo [] 0)) (((h2.new (.mapo [] 0)).new (.mapo [] 0)).new (.mapo [] 0)):=NU (by simp; omega)
  have y4:Ext h2.next (((h2.new (.mapo [] 0)).new (.mapo [] 0)).new (.mapo [] 0)) hC:=by rw[hCe]; exact NU (by simp; omega)
  have x3:Ext h2.next h2 hC:=((y1.trans y2).trans y3).trans y4
  have n3:hC.next=h2.next+4:=by rw[hCe]; simp
  have ge:hC.get h2.next=some (.mapo [] 0):=by
   rw[hCe,AH.get_new,if_neg (by simp only[AH.next_new]; omega),AH.get_new,if_neg (by simp only[AH.next_new]; omega),AH.get_new,if_neg (by simp only[AH.next_new]; omega),AH.get_new,if_pos rfl]
  have gl:hC.get (h2.next+1)=some (.mapo [] 0):=by
   rw[hCe,AH.get_new,if_neg (by simp only[AH.next_new]; omega),AH.get_new,if_neg (by simp only[AH.next_new]; omega),AH.get_new,if_pos (by simp only[AH.next_new])]
  have gn:hC.get (h2.next+2)=some (.mapo [] 0):=by
   rw[hCe,AH.get_new,if_neg (by simp only[AH.next_new]; omega),AH.get_new,if_pos (by simp only[AH.next_new])]
  have gc:hC.get (h2.next+3)=some (.cells [.int .i64 ((nn:Nat):Int),ev,.mp h2.next,.mp (h2.next+1),.mp (h2.next+2),.int .i64 0] 6 false):=by
   rw[hCe,AH.get_new,if_pos (by simp only[AH.next_new])]
  have X3:Ext h.next h hC:=X2.trans (x3.mono om)
  have g3:hC.get h.next=some (.cells [.int .i64 ((nn:Nat):Int),ev] 2 false):=by rw[x3.gt _ om]; exact g2
  have C0:Chk hC (h2.next+4) (h2.next+3) h2.next (h2.next+1) (h2.next+2) h.next ((nn:Nat):Int) ev (de S 0) 0:=by
   refine⟨gc,⟨[],MapG.nil ge,λi=>rfl⟩,⟨[],MapG.nil gn,λk=>⟨λ_=>rfl,λp hp=>by simp [de] at hp⟩⟩,⟨[],0,[],gl,MapL.nil,λk=>rfl,.nil,(λp hp=>by cases hp),λj e e1=>by simp at e1⟩,om⟩
  refine ah (ak (Mi3 rA2 eo ec) ?_)
  show W _ _ _ ((((h2.new (.mapo [] 0)).new (.mapo [] 0)).new (.mapo [] 0)).new (.cells [.int .i64 ((nn:Nat):Int),ev,.mp h2.next,.mp (h2.next+1),.mp (h2.next+2),.int .i64 0] 6 false)) _ _ _
  rw[← hCe]
  clear hCe y1 y2 y3 y4
  refine ah (ah (ak (Mi1 sl) ?_))
  have heo:∀ b o m k,ev=.sl b o m k→b<h2.next+4∧b≠h2.next∧b≠h2.next+2∧b≠h2.next+1:=λb o m k e=>by have:=he.lt e; omega
  have hnS:∀ av,∀ c,c<h.next+1→¬ ChS (h2.next+4) h2.next (h2.next+1) (h2.next+2) av c:=λav c hc q=>by
   rcases q with q|q|q|q<;>omega
  have hsv:=nX S S.length (ae _)
  refine fW (α:=Nat) (N:=S.length) (λ_ _=>[(1,v),(2,.ptr h.next 0),(5,.ptr (h2.next+3) 0),(27,v)])
   (λi av h'=>Chk h' (h2.next+4) (h2.next+3) h2.next (h2.next+1) (h2.next+2) av ((nn:Nat):Int) ev (de S i) ((gv S i:Nat):Int)∧h'.get h.next=some (.cells [.int .i64 ((nn:Nat):Int),ev] 2 false)∧Ext h.next h h'∧h2.next+4≤h'.next ∧
    ∀ j (hj:j<S.length),j<i→lD ((nn:Nat):Int) E (de S j) j S[j].2 S[j].2.length∧IsK S[j].1 S[j].2∧(S[j].1=3→S[j].2.length≤128)) h.next (λ_ _=>rfl) om (Hi0)
   ⟨C0,g3,X3,om,λj hj q=>absurd q (bm _)⟩ ?_ ?_
  ·rintro i av ts h4 hi ⟨jc,jg,jx,jn,jok⟩ ⟨ei,en,e1,e2,e5,e27,-⟩
   simp only at ei en e1 e2 e5 e27
   have hpF:=vf hi
   have hsvi:=nX S i om
   have hsv1:=oV hi
   have hpS:=fL hi
   obtain⟨sb,sp,w,sa,sr2,sr1,st,hsb⟩:=hs.at hi
   have hnot:(¬ (lD ((nn:Nat):Int) E (de S i) i S[i].2 S[i].2.length∧IsK S[i].1 S[i].2∧(S[i].1=3→S[i].2.length≤128)))→¬ Bl ((nn:Nat):Int) E S:=λq p=>q (p.2.2.1 i hi)
   have hjok:(lD ((nn:Nat):Int) E (de S i) i S[i].2 S[i].2.length∧IsK S[i].1 S[i].2∧(S[i].1=3→S[i].2.length≤128))→∀ j (hj:j<S.length),j<i+1→lD ((nn:Nat):Int) E (de S j) j S[j].2 S[j].2.length∧IsK S[j].1 S[j].2∧(S[j].1=3→S[j].2.length≤128):=λq j hj hji=>by
    by_cases e:j=i
    ·subst e; exact q
    ·exact jok j hj om
   rw[hpS,hsv1]
   clear hpS hsv1 jok
   generalize S[i].1=kind at *
   generalize S[i].2=T at *
   have sr2':aj h4 sb sp 2=some [.int .i64 kind,w]:=by rw[bG (jx.gt _ hsb)]; exact sr2
   obtain⟨wc,wo⟩:=st.cells
   have wl:=st.len
   rw[ar] at wl
   obtain⟨h5,w5,x5,g5,n5⟩:=dI (h:=h4) (z:=[.int .i64 0,.nils]) (cs:=[.int .i64 kind,w]) (e:=2) rfl
   refine bL (ah (ak (M6 e27 ei sa sr2' w5 wo) ?_))
   have rW5:aj h5 h4.next 1 1=some [w]:=aJ g5 rfl
   refine ah (ah (ak (M2 rW5 wl) ?_))
   have jc5:=jc.av x5 om
   refine fW (α:=Unit) (N:=T.length) (λ_ _=>[(1,v),(2,.ptr h.next 0),(5,.ptr (h2.next+3) 0),(27,v),(35,w),(6,.int .i64 ((i:Nat):Int)),(7,.ptr h4.next 0),(29,.int .i64 ((i:Nat):Int)),(28,.int .i64 ((S.length:Nat):Int))])
    (λk _ h'=>Chk h' (h2.next+4) (h2.next+3) h2.next (h2.next+1) (h2.next+2) h4.next ((nn:Nat):Int) ev (de S i++(T.take k).map λt=>(i,t)) ((gv S i:Nat):Int)∧h'.get h4.next=some (.cells [.int .i64 kind,w] 2 false)∧h'.get h.next=some (.cells [.int .i64 ((nn:Nat):Int),ev] 2 false)∧Ext h.next h h'∧h4.next<h'.next∧lD ((nn:Nat):Int) E (de S i) i T k) ()
    (λ_ _=>rfl) om (H6 ei en e1 e2 e5 e27)
    ⟨by simpa using jc5,g5,by rw[x5.gt _ om]; exact jg,jx.trans (x5.mono jx.nx),om,λj hj q=>absurd q (bm _)⟩ ?_ ?_
   ·clear ei en e1 e2 e5 e27
    rintro k _ ts h6 hk ⟨kc,kg,kg0,kx,kn,kok⟩ ⟨ei,en,e1,e2,e5,e27,e35,e6,e7,e29,e28,-⟩
    simp only at ei en e1 e2 e5 e27 e35 e6 e7 e29 e28
    obtain⟨b1,p1,a1,r1,_⟩:=(st.ext kx (ae _)).at (dp (f:=eT4) hk)
    have htk:T.take (k+1)=T.take k++[T[k]]:=aX hk
    have hkT:∀ q:mI ((nn:Nat):Int) E (de S i++(T.take k).map λt=>(i,t)) T[k],lD ((nn:Nat):Int) E (de S i) i T (k+1):=λq j hj hji=>by
     by_cases e:j=k
     ·subst e; exact q
     ·exact kok j hj om
    have hkN:(¬ mI ((nn:Nat):Int) E (de S i++(T.take k).map λt=>(i,t)) T[k])→¬ Bl ((nn:Nat):Int) E S:=λq=>hnot λp=>q (p.1 k hk hk)
    have htie:=λ(h':AH) (c:Chk h' (h2.next+4) (h2.next+3) h2.next (h2.next+1) (h2.next+2) h4.next ((nn:Nat):Int) ev (de S i++(T.take k).map λt=>(i,t)) ((gv S i:Nat):Int)) (he':SlE h' ev E)=>DR (s:=i) (t:=T[k]) c he' heo (by rw[aN,ar,bz]; omega) hEl
    unfold eT4 at htie
    rw[htk,br,← cr]
    clear htk
    have r1:aj h6 b1 p1 4=some [.int .i64 T[k].1,.int .i64 T[k].2.1,.int .i64 T[k].2.2.1,.int .i64 T[k].2.2.2]:=r1
    generalize T[k]=t at *
    obtain⟨h7,w7,x7,g7,n7⟩:=dI (h:=h6) (z:=[.int .i64 0,.int .i64 0,.int .i64 0,.int .i64 0]) (cs:=[.int .i64 t.1,.int .i64 t.2.1,.int .i64 t.2.2.1,.int .i64 t.2.2.2]) (e:=4) rfl
    refine bL (ah (ak (M5 e35 ei a1 r1 w7) ?_))
    have rT:aj h7 h6.next 0 4=some [.int .i64 t.1,.int .i64 t.2.1,.int .i64 t.2.2.1,.int .i64 t.2.2.2]:=by rw[aP g7]; rfl
    have kx7:Ext h.next h h7:=kx.trans (x7.mono kx.nx)
    refine ah (bF (bg 3 (M3 e5 e6 rT) rfl (Z3 e5 e6 rT) (M3 e5 e6 rT) (htie h7 (kc.ext x7) (he.ext kx7 (ae _))) λr h8 hq=>?_))
    obtain⟨b,rfl,hb,hbc,K8⟩:=hq
    have kx8:Ext h.next h h8:=Jy kx7 K8 (λc hc=>hnS _ c om) kx7.nx
    have h4n:¬ ChS (h2.next+4) h2.next (h2.next+1) (h2.next+2) h4.next h4.next:=λq=>by
     rcases q with q|q|q|q<;>omega
    have hn8:=K8.nx
    refine bp (M0) ?_
    cases b with
    | false =>
      refine bq (Z0) (ah (ak (M0) ?_))
      exact aV ⟨.bool false,(by simp only[rs,rf7,am,aC,simprocAttr]<;>rfl),false,rfl,⟨(λq=>by cases q),λq=>absurd q (hkN λp=>by have:=hb.2 p; cases this)⟩,kx8⟩
    | true =>
      refine cj (Z0) (be ?_)
      exact⟨(),⟨hbc rfl,by rw[K8.gt _ om h4n,x7.gt _ kn]; exact kg,by rw[K8.gt _ om (hnS _ _ om),x7.gt _ om]; exact kg0,kx8,om,hkT (hb.1 rfl)⟩,H12 ei en e1 e2 e5 e27 e35 e6 e7 e29 e28 e28⟩
   ·clear ei en e1 e2 e5 e27
    rintro _ ts h6 ⟨kc,kg,kg0,kx,kn,kok⟩ ⟨e1,e2,e5,e27,e35,e6,e7,e29,e28,-⟩
    simp only at e1 e2 e5 e27 e35 e6 e7 e29 e28
    rw[bO] at kc
    have hokT:∀ t∈T,OkT t:=λt ht=>by
     obtain⟨j,hj,rfl⟩:=db ht
     exact Nz (kok j hj hj) om
    have rW6:aj h6 h4.next 1 1=some [w]:=aJ kg rfl
    refine ah (bF (bg 2 (M2 e7 rW6) rfl (Z2 e7 rW6) (M2 e7 rW6) (oX (st.ext kx (ae _)) hokT om) λr h7 hq=>?_))
    obtain⟨lv,mb,m,rfl,i7,_,_,_,x7⟩:=hq
    refine bp (M0) ?_
    have kc7:=kc.ext x7
    have kx7:Ext h.next h h7:=kx.trans (x7.mono kx.nx)
    have lvl:=(kH i7).len
    rw[ar,ar] at lvl
    have hvT:=vs_len T
    have rC7:aj h7 (h2.next+3) 5 1=some [.int .i64 ((gv S i:Nat):Int)]:=aJ kc7.cell rfl
    have wadd:IntKind.i64.wrap (((gv S i:Nat):Int)+(((vs T).length:Nat):Int))=((gv S i+(vs T).length:Nat):Int):=by
     rw[fp om om]; omega
    have w8:bD h7 (h2.next+3) 5 [.int .i64 ((gv S i+(vs T).length:Nat):Int)]=some (h7.put (h2.next+3) (.cells [.int .i64 ((nn:Nat):Int),ev,.mp h2.next,.mp (h2.next+1),.mp (h2.next+2),.int .i64 ((gv S i+(vs T).length:Nat):Int)] 6 false)):=dN kc7.cell (show 5<6 by omega)
    have u8:=NW (o:=.cells [.int .i64 ((nn:Nat):Int),ev,.mp h2.next,.mp (h2.next+1),.mp (h2.next+2),.int .i64 ((gv S i+(vs T).length:Nat):Int)] 6 false) kc7.cell
    refine ah (ak (M5 e5 rC7 lvl wadd w8) ?_)
    have kc8:=kc7.cnt u8
    have hn7:=x7.nx
    have hn8:=u8.nx
    have kx8:=kx7.trans (u8.ext (n:=h.next) om)
    have g8:(h7.put (h2.next+3) (.cells [.int .i64 ((nn:Nat):Int),ev,.mp h2.next,.mp (h2.next+1),.mp (h2.next+2),.int .i64 ((gv S i+(vs T).length:Nat):Int)] 6 false)).get h4.next=some (.cells [.int .i64 kind,w] 2 false):=by rw[u8.ne om,x7.gt _ kn]; exact kg
    have g80:(h7.put (h2.next+3) (.cells [.int .i64 ((nn:Nat):Int),ev,.mp h2.next,.mp (h2.next+1),.mp (h2.next+2),.int .i64 ((gv S i+(vs T).length:Nat):Int)] 6 false)).get h.next=some (.cells [.int .i64 ((nn:Nat):Int),ev] 2 false):=by rw[u8.ne om,x7.gt _ om]; exact kg0
    generalize h7.put (h2.next+3) (.cells [.int .i64 ((nn:Nat):Int),ev,.mp h2.next,.mp (h2.next+1),.mp (h2.next+2),.int .i64 ((gv S i+(vs T).length:Nat):Int)] 6 false)=h8 at *
    have rS8:aj h8 h4.next 0 2=some [.int .i64 kind,w]:=by rw[aP g8]; rfl
    refine ah (bF (bg 1 (M2 e7 rS8) rfl (Z2 e7 rS8) (M2 e7 rS8) (yO (kind:=kind) (st.ext kx8 (ae _)) hokT om) λr h9 hq=>?_))
    obtain⟨b,rfl,hb,x9⟩:=hq
    have kx9:Ext h.next h h9:=kx8.trans (x9.mono kx8.nx)
    refine bp (M0) ?_
    cases b with
    | false =>
      refine bq (Z0) (ah (ak (M0) ?_))
      exact aV ⟨.bool false,(by simp only[rs,rf7,am,aC,simprocAttr]<;>rfl),false,rfl,⟨(λq=>by cases q),λq=>absurd q (hnot λp=>by have:=hb.2 p.2; cases this)⟩,kx9⟩
    | true =>
      refine cj (Z0) (be ?_)
      have hn9:=x9.nx
      exact⟨h4.next,⟨kc8.ext x9,by rw[x9.gt _ om]; exact g80,kx9,om,hjok ⟨kok,hb.1 rfl⟩⟩,H6 e1 e2 e5 e27 e29 e28⟩
  ·rintro av ts h4 ⟨jc,jg,jx,jn,jok⟩ ⟨e1,e2,e5,e27,-⟩
   simp only at e1 e2 e5 e27
   have rE4:aj h4 h.next 1 1=some [ev]:=aJ jg rfl
   refine ah (ah (ak (M3 e2 rE4 el) ?_))
   refine fW (α:=Unit) (N:=E.length) (λ_ _=>[(1,v),(2,.ptr h.next 0),(5,.ptr (h2.next+3) 0)])
    (λi _ h'=>h'=h4∧∀ j,j<i→cntF (de S S.length) j=1) () (λ_ _=>rfl) om (H3 e1 e2 e5) ⟨rfl,λj q=>absurd q (bm _)⟩ ?_ ?_
   ·clear e1 e2 e5 e27
    rintro i _ ts h5 hi ⟨rfl,k2⟩ ⟨ei,en,e1,e2,e5,-⟩
    simp only at ei en e1 e2 e5
    have lk:=jc.edges i
    have rEb:aj h5 (h2.next+3) 2 1=some [.mp h2.next]:=aJ jc.cell rfl
    refine bL (ah (ak (M1 ei) ?_))
    by_cases q:cntF (de S S.length) i=1
    ·have c1:decide (((cntF (de S S.length) i:Nat):Int)=1)=true:=aq om
     refine ah (ak (M4 e5 rEb lk c1) ?_)
     refine cj (Z0) (be ?_)
     refine⟨(),⟨rfl,λj hj=>?_⟩,H5 ei en e1 e2 e5⟩
     by_cases e:j=i
     ·subst e; exact q
     ·exact k2 j om
    ·have c1:decide (((cntF (de S S.length) i:Nat):Int)=1)=false:=ai om
     refine ah (ak (M4 e5 rEb lk c1) ?_)
     refine bq (Z0) (ah (ak (M0) ?_))
     exact aV ⟨.bool false,(by simp only[rs,rf7,am,aC,simprocAttr]<;>rfl),false,rfl,⟨(λq=>by cases q),λp=>absurd (p.2.2.2.1 i hi) q⟩,jx⟩
   ·clear e1 e2 e5 e27
    rintro _ ts h5 ⟨rfl,k2⟩ ⟨e1,e2,e5,-⟩
    simp only at e1 e2 e5
    have hpl:=AB (S:=S) (ae S.length)
    refine ah (bF (bg 2 (M2 e5 e1) rfl (Z2 e5 e1) (M2 e5 e1) (BB jc (hs.ext jx (ae _)) h64 (λp hp=>AA p hp) om) λr h6 hq=>?_))
    obtain⟨b,rfl,hb,x6⟩:=hq
    have X6:Ext h.next h h6:=jx.trans (x6.mono jx.nx)
    cases b with
    | false =>
      refine bp (M0) ?_
      exact aV ⟨.bool false,(by simp only[rs,rf7,am,aC,simprocAttr]<;>rfl),false,rfl,⟨(λq=>by cases q),λp=>hb.2 p.2.2.2.2.1⟩,X6⟩
    | true =>
      have hh:=hb.1 rfl
      have jc6:=jc.ext x6
      have rC6:aj h6 (h2.next+3) 5 1=some [.int .i64 ((gv S S.length:Nat):Int)]:=aJ jc6.cell rfl
      have rL6:aj h6 (h2.next+3) 3 1=some [.mp (h2.next+1)]:=aJ jc6.cell rfl
      have g6:h6.get h.next=some (.cells [.int .i64 ((nn:Nat):Int),ev] 2 false):=by rw[x6.gt _ om]; exact jg
      have rN6:aj h6 h.next 0 1=some [.int .i64 ((nn:Nat):Int)]:=aJ g6 rfl
      have lm:=jc6.links hh
      have wmul:IntKind.i64.wrap (2*((S.length-1:Nat):Int))=2*((S.length-1:Nat):Int):=fp om om
      have wadd:IntKind.i64.wrap (((nn:Nat):Int)+2*((S.length-1:Nat):Int))=((nn:Nat):Int)+2*((S.length-1:Nat):Int):=fp om om
      refine bp (M8 e2 e5 rC6 rL6 rN6 lm wmul wadd) ?_
      refine aV ⟨.bool (decide (((gv S S.length:Nat):Int)=((nn:Nat):Int)+2*((S.length-1:Nat):Int))),(by simp only[rs,rf7,am,aC,simprocAttr]<;>rfl),_,rfl,?_,X6⟩
      rw[az]
      exact⟨λq=>⟨hmay,h64,λi hi=>jok i hi hi,λi hi=>k2 i hi,hh,q⟩,λq=>q.2.2.2.2.2⟩
 ·have c64:decide (((S.length:Nat):Int)>64)=true:=aq om
  have c64':decide ((64:Int)<((S.length:Nat):Int))=true:=aq om
  refine bp (Mi3 sl c64 c64') ?_
  refine bq (Z0) (ah (ak (M0) ?_))
  exact aV ⟨.bool false,(by simp only[rs,rf7,am,aC,simprocAttr]<;>rfl),false,rfl,⟨(λq=>by cases q),λq=>absurd q.2.1 h64⟩,X2⟩
open Go.Am
open Go.Blk (RC)
open Go.Spl (T4 OkT tA tB tE tL FT cntF plc vs cntF_app plc_app plc_le cntF_le mem_plc)
def Kh (n:Int) (E:List (Int×Int)) (t:T4):Prop:=(0≤t.1∧t.1<t.2.1∧t.2.1<n) ∧
 ((tL t=-1∧∃ k:Nat,∃ hk:k<E.length,tE t=((k:Nat):Int)∧mnx E[k]=(t.1,t.2.1))∨(tE t=-1∧0≤tL t))
def OkE (n:Int) (E:List (Int×Int)) (F:FT):Prop:=(∀ p∈F,Kh n E p.2)∧∀ p∈F,∀ q∈F,tL p.2=tL q.2→tL p.2≠-1→p.2.1=q.2.1∧p.2.2.1=q.2.2.1
def OkF (nl:Nat) (n:Int) (E:List (Int×Int)) (F:FT):Prop:=OkE n E F∧(∀ p∈F,tL p.2<((nl:Nat):Int))∧∀ k,(plc F k).length≤2∧(plc F k).Nodup
theorem vw {n:Int}{E:List (Int×Int)}{F:FT}{i:Nat}{t:T4} (h:OkE n E F):mI n E F t↔OkE n E (F++[(i,t)]):=by
 constructor
 ·rintro⟨h1,h2⟩
  refine⟨λp hp=>?_,λp hp q hq e hne=>?_⟩
  ·rcases aI.1 hp with hp|hp
   ·exact h.1 p hp
   ·rw[bd] at hp
    subst hp
    exact⟨h1,h2.imp id λa=>⟨a.1,a.2.1⟩⟩
  ·rcases aI.1 hp with hp|hp<;>rcases aI.1 hq with hq|hq
   ·exact h.2 p hp q hq e hne
   ·rw[bd] at hq
    subst hq
    rcases h2 with ⟨a,_⟩|⟨_,_,b⟩
    ·exact absurd (e.trans a) hne
    ·exact b p hp e
   ·rw[bd] at hp
    subst hp
    rcases h2 with ⟨a,_⟩|⟨_,_,b⟩
    ·exact absurd a hne
    ·have:=b q hq e.symm
     exact⟨this.1.symm,this.2.symm⟩
   ·rw[bd] at hp hq
    subst hp
    subst hq
    exact⟨rfl,rfl⟩
 ·rintro⟨h1,h2⟩
  have hm:(i,t)∈F++[(i,t)]:=dr _ (bd.2 rfl)
  obtain⟨a,b⟩:=h1 _ hm
  refine⟨a,?_⟩
  rcases b with b|⟨b1,b2⟩
  ·exact .inl b
  ·refine .inr ⟨b1,b2,λp hp e=>h2 p (bA _ hp) _ hm e ?_⟩
   have b2:0≤tL t:=b2
   intro q
   have e:tL p.2=tL t:=e
   omega
theorem vv {n:Int}{E:List (Int×Int)}{F G:FT} (h:OkE n E (F++G)):OkE n E F :=
 ⟨λp hp=>h.1 p (bA _ hp),λp hp q hq=>h.2 p (bA _ hp) q (bA _ hq)⟩
theorem lc {F G:FT}{k:Nat}:plc (F++G) k=plc F k++plc G k:=by
 unfold plc
 rw[fm,br]
theorem Ja {nl:Nat}{n:Int}{E:List (Int×Int)}{F G:FT} (h:OkF nl n E (F++G)):OkF nl n E F:=by
 refine⟨vv h.1,λp hp=>h.2.1 p (bA _ hp),λk=>?_⟩
 obtain⟨a,b⟩:=h.2.2 k
 rw[lc] at a b
 rw[aN] at a
 exact⟨om,(bN.1 b).1⟩
theorem AI {n:Int}{E:List (Int×Int)}:OkE n E []:=⟨λp hp=>(by cases hp),λp hp=>(by cases hp)⟩
theorem Jb {nl:Nat}{n:Int}{E:List (Int×Int)}:OkF nl n E []:=⟨AI,(λp hp=>by cases hp),λk=>⟨by simp [plc],by simp [plc]⟩⟩
theorem ny {n:Int}{E:List (Int×Int)}{F:FT}{i:Nat}{T:List T4} (h:OkE n E F):∀ k,k≤T.length→(lD n E F i T k↔OkE n E (F++(T.take k).map λt=>(i,t)))
 | 0,_=>⟨λ_=>by simpa using h,λ_ j hj q=>absurd q (bm _)⟩
 | k+1,hk=>by
   have hk':k<T.length:=hk
   have ih:=ny (i:=i) (T:=T) h k om
   rw[aX hk',br,← cr]
   constructor
   ·intro q
    have h1:=ih.1 λj hj hjk=>q j hj om
    exact (vw h1).1 (q k hk' om)
   ·intro q j hj hjk
    have h1:=vv q
    by_cases e:j=k
    ·subst e
     exact (vw h1).2 q
    ·exact ih.2 h1 j hj om
theorem qt {n:Int}{E:List (Int×Int)}{S:List SK}:∀ k,k≤S.length→((∀ i (hi:i<S.length),i<k→lD n E (de S i) i S[i].2 S[i].2.length)↔OkE n E (de S k))
 | 0,_=>⟨λ_=>by simpa [de] using AI,λ_ i hi q=>absurd q (bm _)⟩
 | k+1,hk=>by
   have hk':k<S.length:=hk
   have ih:=qt (n:=n) (E:=E) (S:=S) k om
   rw[fL hk']
   constructor
   ·intro q
    have h1:=ih.1 λi hi hik=>q i hi om
    have h2:=(ny (i:=k) h1 S[k].2.length (ae _)).1 (q k hk' om)
    rwa [bO] at h2
   ·intro q i hi hik
    have h1:=vv q
    by_cases e:i=k
    ·subst e
     exact (ny h1 S[i].2.length (ae _)).2 (by rw[bO]; exact q)
    ·exact ih.2 h1 i hi om
def oN (n:Int) (E:List (Int×Int)) (S:List SK):Prop:=DA n E∧1≤S.length∧S.length≤64∧OkF (S.length-1) n E (de S S.length)∧(∀ i (hi:i<S.length),IsK S[i].1 S[i].2) ∧
 (∀ i,i<E.length→cntF (de S S.length) i=1)∧(∀ k,k<S.length-1→(plc (de S S.length) k).length=2∧(dP S (tP (de S S.length) k)=dP S (tQ (de S S.length) k)→dP S (tP (de S S.length) k)=3)) ∧
 (∀ x,x<S.length→RC (S.length-1) (tP (de S S.length)) (tQ (de S S.length)) (λ_=>true) 0 x)∧((gv S S.length:Nat):Int)=n+2*((S.length-1:Nat):Int)
theorem Al {l:List Nat} (h:l.length=2):l=[l.getD 0 0,l.getD 1 0]:=by
 match l,h with
 | [a,b],_=>rfl
theorem rQ {F:FT}{s k:Nat}{t:T4} (h:(s,t)∈F) (hk:tL t=((k:Nat):Int)):plc F k≠[]:=λe=>by
 have:=mem_plc.2 ⟨t,h,hk⟩
 rw[e] at this
 cases this
theorem DG {n:Int}{E:List (Int×Int)}{S:List SK} (hE:E.length≤30) (h64:S.length≤64) (h1:OkF (S.length-1) n E (de S S.length)) (h2:∀ i,i<E.length→cntF (de S S.length) i=1) {i:Nat} (hi:i<S.length):S[i].2.length≤128:=by
 have hsplit:∃ G H,de S S.length=G++((S[i].2.map λt=>(i,t))++H):=by
  have key:∀ k,i<k→k≤S.length→∃ G H,de S k=G++((S[i].2.map λt=>(i,t))++H):=by
   intro k hk
   induction k with
   | zero=>omega
   | succ k ih =>
     intro hks
     by_cases e:i=k
     ·subst e
      exact⟨de S i,[],by rw[fL hi,bZ]⟩
     ·obtain⟨G,H,e2⟩:=ih om om
      exact⟨G,H++S[k].2.map λt=>(k,t),by rw[fL om,e2,cr,cr]⟩
  exact key _ hi (ae _)
 obtain⟨G,H,hF⟩:=hsplit
 generalize S[i].2=T at *
 let code:T4→Nat:=λt=>if tL t=-1 then (tE t).toNat else 30+(tL t).toNat
 have hv:∀ t∈T,Kh n E t∧tL t<((S.length-1:Nat):Int):=λt ht=>by
  have hm:(i,t)∈de S S.length:=by
   rw[hF]
   exact dr _ (bA _ (dq ht))
  exact⟨h1.1.1 _ hm,h1.2.1 _ hm⟩
 have hb:∀ t∈T,code t<128:=λt ht=>by
  obtain⟨⟨_,hv1⟩,hv2⟩:=hv t ht
  show (if tL t=-1 then (tE t).toNat else 30+(tL t).toNat)<128
  rcases hv1 with ⟨a,k,hk,e,_⟩|⟨_,b⟩
  ·rw[if_pos a]; omega
  ·rw[if_neg om]; omega
 have hnd:(T.map code).Nodup:=by
  rw[List.Nodup,dh]
  intro a b ha hb' hab e
  have ha':a<T.length:=by simpa using ha
  have hb2:b<T.length:=by simpa using hb'
  rw[bt,bt] at e
  obtain⟨⟨_,va⟩,_⟩:=hv _ (aO ha')
  obtain⟨⟨_,vb⟩,_⟩:=hv _ (aO hb2)
  have hT:T=T.take a++T[a]::(T.drop (a+1)):=by rw[List.getElem_cons_drop,bP]
  have hbm:T[b]∈T.drop (a+1):=by
   rw[im]
   exact⟨b-(a+1),by rw[fh]; omega,by rw[List.getElem_drop]; congr 1; omega⟩
  generalize hta:T[a]=ta at *
  generalize htb:T[b]=tb at *
  have e:(if tL ta=-1 then (tE ta).toNat else 30+(tL ta).toNat)=(if tL tb=-1 then (tE tb).toNat else 30+(tL tb).toNat):=e
  rcases va with ⟨a1,k,hk,a2,_⟩|⟨_,a2⟩
  ·rcases vb with ⟨b1,k2,hk2,b2,_⟩|⟨_,b2⟩
   ·rw[if_pos a1,if_pos b1] at e
    have:k=k2:=om
    subst this
    have hc:=h2 k hk
    rw[hF,hT] at hc
    unfold cntF at hc
    rw[dW,dW,List.countP_map,dW,df] at hc
    have h3:0<(T.drop (a+1)).countP ((λp:Nat×T4=>decide (tL p.2=-1)&&decide (tE p.2=((k:Nat):Int))) ∘ λt=>(i,t)):=by
     rw[iJ]
     exact⟨tb,hbm,by simp [b1,b2]⟩
    have h4:((λp:Nat×T4=>decide (tL p.2=-1)&&decide (tE p.2=((k:Nat):Int))) ∘ λt=>(i,t)) ta=true:=by simp [a1,a2]
    rw[h4] at hc
    simp only[if_true] at hc
    omega
   ·rw[if_pos a1,if_neg om] at e
    omega
  ·rcases vb with ⟨b1,k2,hk2,b2,_⟩|⟨_,b2⟩
   ·rw[if_neg om,if_pos b1] at e
    omega
   ·rw[if_neg om,if_neg om] at e
    have e3:tL ta=((tL ta).toNat:Nat):=om
    have e4:tL tb=((tL ta).toNat:Nat):=om
    have hn:=(h1.2.2 (tL ta).toNat).2
    rw[hF,hT] at hn
    rw[lc,lc] at hn
    have hn2:=(bN.1 (bN.1 hn).2.1).1
    rw[br,aS,lc] at hn2
    have hn3:=(bN.1 hn2).2.1
    have:plc ((i,ta)::(T.drop (a+1)).map λt=>(i,t)) (tL ta).toNat=i::plc ((T.drop (a+1)).map λt=>(i,t)) (tL ta).toNat:=by
     unfold plc
     rw[dY (by simpa using e3),aS]
    rw[this] at hn3
    exact (bU.1 hn3).1 (mem_plc.2 ⟨tb,dq hbm,e4⟩)
 have:=Kur.len_le_of_sub hnd (m:=List.range 128) λx hx=>by
  obtain⟨t,ht,rfl⟩:=bi.1 hx
  exact aL.2 (hb t ht)
 rwa [ar,aZ] at this
theorem Cg {n:Int}{E:List (Int×Int)}{S:List SK} (hE:E.length≤30):Bl n E S↔oN n E S:=by
 have hties:=qt (n:=n) (E:=E) (S:=S) S.length (ae _)
 constructor
 ·rintro⟨m,h64,h1,h2,⟨g1,g2,g3,g4⟩,h3⟩
  have hok:=hties.1 λi hi _=>(h1 i hi).1
  refine⟨m,g1,h64,⟨hok,λp hp=>?_,λk=>?_⟩,λi hi=>(h1 i hi).2.1,h2,λk hk=>?_,λx hx=>g4 0 x om hx,h3⟩
  ·rcases (hok.1 p hp).2 with ⟨a,_⟩|⟨_,b⟩
   ·omega
   ·have e:tL p.2=((tL p.2).toNat:Nat):=om
    have:=(g2 (tL p.2).toNat).1 (rQ (s:=p.1) (t:=p.2) hp e)
    omega
  ·by_cases q:plc (de S S.length) k=[]
   ·rw[q]; exact⟨by simp,.nil⟩
   ·obtain⟨a,b,e,hne,_⟩:=g3 k ((g2 k).1 q)
    rw[e]
    exact⟨by simp,by simp [hne]⟩
  ·obtain⟨a,b,e,hne,hkind⟩:=g3 k hk
   unfold tP tQ
   rw[e]
   exact⟨rfl,hkind⟩
 ·rintro⟨m,g1,h64,hF,hK,h2,h3,h4,h5⟩
  have hok:=hties.2 hF.1
  refine⟨m,h64,λi hi=>⟨hok i hi hi,hK i hi,λ_=>DG hE h64 hF h2 hi⟩,h2,⟨g1,λk=>⟨λq=>?_,λq=>?_⟩,λk hk=>?_,λx y hx hy=>Spl.rc_trans (Spl.rc_symm (h4 x hx)) (h4 y hy)⟩,h5⟩
  ·obtain⟨s,hs⟩:=List.exists_mem_of_ne_nil _ q
   obtain⟨t,ht,e⟩:=mem_plc.1 hs
   have:=hF.2.1 _ ht
   have this:tL t<((S.length-1:Nat):Int):=this
   omega
  ·intro e
   have:=(h3 k q).1
   rw[e] at this
   cases this
  ·obtain⟨a,b⟩:=h3 k hk
   have e:=Al a
   have hn:=(hF.2.2 k).2
   refine⟨tP (de S S.length) k,tQ (de S S.length) k,e,λq=>?_,b⟩
   rw[e] at hn
   have q:(plc (de S S.length) k).getD 0 0=(plc (de S S.length) k).getD 1 0:=q
   rw[q] at hn
   simp at hn
end Go.Proofs.YthbmhbldmcbnpaaGreatDoor
