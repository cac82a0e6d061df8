/- join.part, called. -/
import Derived.Test.YtahepnbflofndaaGreatDoorKLk
import Derived.Test.YtahepnbflofndaaGreatDoorKLh
import Derived.Test.YtahepnbflofndaaGreatDoorKLd
import Derived.Test.YtahepnbflofndaaGreatDoorKLa
import Derived.Test.YtahepnbflofndaaGreatDoorKNd
import Derived.Test.YtahepnbflofndaaGreatDoorKNb
import Derived.Test.YtahepnbflofndaaGreatDoorKLe
set_option linter.all false
namespace Go.Proofs.YtahepnbflofndaaGreatDoor
open Go.Am
theorem tL {h:AH}{pb:Nat}{a0 a1 nv a3:AV}{xs:List Int}{x:Int} (hg:h.get pb=some (.cells [a0,a1,nv,a3] 4 false)) (hv:SlI h nv xs) (hs:xs.Pairwise (·≤·)) (hxl:xs.length<2 ^ 40) :
 C prg 101 [.ptr pb 0,.int .i64 x] h λr h'=>r=.tup [.int .i64 ((xs.countP (λu=>decide (u<x)):Nat):Int),.bool (decide (x∈xs))]∧h'=h:=by
 refine Mw pf101 ?_;refine ae (aj (Mi0) ?_);have r2:ak h pb 2 1=some [nv]:=bm hg rfl;refine ae (bN (bo 5 (Mi1 r2) rfl (Zi1 r2) (Mi1 r2) (pB (t:=x) hv hs hxl) λr h2 hq=>?_));obtain⟨rfl,rfl⟩:=hq;refine bH (M0) ?_;exact br ⟨_,(by simp only[rs,rf101,am,aK,simprocAttr]<;>rfl),rfl,rfl⟩
set_option maxHeartbeats 2000000 in
theorem GX {h:AH}{n:Int}{ev iv:AV}{E:List (Int×Int)}{es:List Int} (he:SlE h ev E) (hi:SlI h iv es) (hm:fy n E=true) (hes:∀ i∈es,0≤i∧i<(E.length:Nat)) (hne:es≠[]) (hil:es.length<2 ^ 30) :
 C prg 52 [.agg [.int .i64 n,ev],iv] h λr h'=>Ext h.next h h'∧∃ edv nmv,r=.agg [.int .i64 ((vsM n.toNat E es).length:Nat),edv,nmv,iv]∧IsSl h' 2 h.next edv ((fO n.toNat E es).flatMap eE)∧SlI h' nmv (vsM n.toNat E es)∧∀ b o m c,nmv=.sl b o m c→h.next≤b:=by
 have el:=he.len;have il:=hi.len;rw[ai] at el il;obtain⟨ec,eo⟩:=he.cells;obtain⟨ic,io⟩:=hi.cells;have hxl:E.length≤128:=by
  have:=hm;unfold fy at this;simp only[aM,aJ] at this;exact this.1.2
 refine Mw pf52 ?_;refine ae (aj (Mi0) ?_);have ga:∀ c,((h.new (.cells [.int .i64 n,ev] 2 false)).new (.cells [.int .i64 0,.nils,.nils,.nils] 4 false)).get c=if c=h.next+1 then some (.cells [.int .i64 0,.nils,.nils,.nils] 4 false) else if c=h.next then some (.cells [.int .i64 n,ev] 2 false) else h.get c:=λc=>by
  rw[AH.get_new,AH.get_new];rfl
 have x0:Ext h.next h ((h.new (.cells [.int .i64 n,ev] 2 false)).new (.cells [.int .i64 0,.nils,.nils,.nils] 4 false)):=(Mt (ab _)).trans (Mt (by simp));have n0:((h.new (.cells [.int .i64 n,ev] 2 false)).new (.cells [.int .i64 0,.nils,.nils,.nils] 4 false)).next=h.next+2:=rfl;generalize ((h.new (.cells [.int .i64 n,ev] 2 false)).new (.cells [.int .i64 0,.nils,.nils,.nils] 4 false))=h1 at *
 have gA:h1.get h.next=some (.cells [.int .i64 n,ev] 2 false):=by rw[ga,if_neg om,if_pos rfl]
 have gB:h1.get (h.next+1)=some (.cells [.int .i64 0,.nils,.nils,.nils] 4 false):=by rw[ga,if_pos rfl]
 obtain⟨h2,w2,x2,g2,n2⟩:=im (h:=h1) (z:=[.int .i64 0,.nils,.nils,.nils]) (cs:=[.int .i64 0,.nils,.nils,iv]) (e:=4) rfl;rw[n0] at w2 x2 g2 n2;refine ae (aj (by simp only[am,aK,simprocAttr,bS,n0,ic,io,w2,dP]<;>rfl) ?_);have X2:Ext h.next h h2:=x0.trans (x2.mono om);have gA2:h2.get h.next=some (.cells [.int .i64 n,ev] 2 false):=by rw[x2.gt _ om]; exact gA
 have gB2:h2.get (h.next+1)=some (.cells [.int .i64 0,.nils,.nils,.nils] 4 false):=by rw[x2.gt _ om]; exact gB
 have he2:=he.ext X2 (ab _);have hi2:=hi.ext X2 (ab _);clear w2 ga;refine ae (ae (aj (by simp only[am,aK,simprocAttr,bS,il]<;>rfl) ?_))
 refine fA (α:=AV) (N:=es.length) (λ_ _=>[(1,iv),(2,.ptr h.next 0),(4,.ptr (h.next+1) 0),(5,.ptr (h.next+2) 0),(16,iv)])
  (λk a h'=>Ext (h.next+2) h2 h'∧h.next+3≤h'.next∧h'.get (h.next+2)=some (.cells [.int .i64 0,.nils,a,iv] 4 false)∧IsSl h' 1 (h.next+3) a ((gI E (es.take k)).flatMap eI)) .nils (λ_ _=>rfl) om (Hi1 n0)
  ⟨Mu,om,g2,.inl ⟨rfl,by simp [gI]⟩⟩ ?_ ?_
 ·rintro k a ts h3 hk ⟨jx,jn,jg,ja⟩ ⟨e18,e17,e1,e2,e4,e5,e16,-⟩;simp only at e18 e17 e1 e2 e4 e5 e16 jg;have X3:Ext h.next h h3:=X2.trans (jx.mono om);have he3:=he.ext X3 (ab _);have hi3:=hi.ext X3 (ab _);obtain⟨b1,p1,a1,r1,_⟩:=hi3.at1 (cq (f:=eI) hk);refine ae (aj (M4 e18 e16 a1 r1) ?_);have hin:=hes _ (aP hk);obtain⟨m,hmk⟩:∃ m:Nat,es[k]=m:=⟨es[k].toNat,om⟩
  have hml:m<E.length:=om;have hk5:∀ c,c<h3.next→(h3.keep 1).get c=h3.get c:=λc hc=>by rw[AH.keep_get,if_neg om]
  have q7:(h3.keep 1).get h3.next=some .resv:=fG;have he5:SlE (h3.keep 1) ev E:=he3.cong λb o m c hb=>hk5 _ (he3.lt hb);obtain⟨eb1,ep,a7,_,r7,_⟩:=he5.at (cq (f:=eE) hml);have r70:=r7 0 (.int .i64 E[m].1) rfl;have r71:=r7 1 (.int .i64 E[m].2) rfl;have gA3:h3.get h.next=some (.cells [.int .i64 n,ev] 2 false):=by rw[jx.gt _ om]; exact gA2
  have re:ak (h3.keep 1) h.next 1 1=some [ev]:=by rw[bK (hk5 _ om)]; exact bm gA3 rfl
  have rn:ak (h3.keep 1) (h.next+2) 2 1=some [a]:=by rw[bK (hk5 _ om)]; exact bm jg rfl
  obtain⟨p1',p2,p3,p4⟩:=gr (h:=h3) (o:=.cells [.int .i64 E[m].1,.int .i64 E[m].2] 1 false);have hlenk:((gI E (es.take k)).flatMap eI).length=2*k:=by
   rw[dC (f:=eI) (e:=1) (λ_=>rfl),uf,aS,cy om]; omega
  obtain⟨s',h6,a6,i6,x6,hs6,n6⟩:=appN (bytes:=8) (m:=2) (x:=h3.next) (ja.ext p1' (ab _)) (by rw[p3]; omega) om om p2 rfl rfl
   (by rw[hlenk,dF]; unfold aW; omega) (by rw[hlenk,dF]; unfold aW; omega)
  rw[dX] at r70;have rp2:cm [AV.int .i64 0] 2=[.int .i64 0,.int .i64 0]:=rfl;obtain⟨sc,so⟩:=i6.cells;have g6:h6.get (h.next+2)=some (.cells [.int .i64 0,.nils,a,iv] 4 false):=by rw[x6.gt _ om,p4 _ om]; exact jg
  have w6:=eA (v:=s') g6 (i:=2) (by simp);change bQ h6 (h.next+2) 2 [s']=some (h6.put (h.next+2) (.cells [.int .i64 0,.nils,s',iv] 4 false)) at w6;have u6:=Mv (o:=.cells [.int .i64 0,.nils,s',iv] 4 false) g6;refine oa (by simp only[am,aK,simprocAttr,hmk,e2,e5,re,rn,a7,r70,r71,eN,et q7,rp2,a6,sc,so,w6]<;>rfl) ?_;refine⟨s',⟨jx.trans ((p1'.mono om).trans ((x6.mono om).trans (u6.ext (ab _)))),by rw[u6.nx,n6,p3]; omega,u6.get,?_⟩,H7 e18 e17 e1 e2 e4 e5 e16⟩;rw[Ew hk,HA hmk hml,bC];exact i6.upd u6 om
 rintro a ts h3 ⟨jx,jn,jg,ja⟩ ⟨e1,e2,e4,e5,e16,-⟩;simp only at e1 e2 e4 e5 e16 jg ja;rw[bp] at ja;have hnm:=Gv hm hes;have hel:=uf E es;have hes0:0<es.length:=List.length_pos_iff.2 hne;generalize gI E es=xs at *
 rcases ja with ⟨rfl,hz⟩|⟨b,m,hbn,rfl,hg,hln⟩
 ·have:xs.length=0:=by
   have:=congrArg List.length hz;rw[dC (f:=eI) (e:=1) (λ_=>rfl)] at this;simpa using this
  omega
 have hmn:m=xs.length:=by rw[dC (f:=eI) (e:=1) (λ_=>rfl)] at hln; omega
 subst hmn;have e1':xs.flatMap eI=hI xs.toArray:=lY xs;have hg':h3.get b=some (iX (xs.flatMap eI) 0 xs.toArray):=by
  rw[hg];unfold iX;rw[e1'];congr 2;exact (ny (by simp) (by rw[de,bp])).symm
 have hb3:=AH.lt_of_get hg;have hsrt:=Cf (c:=xs.length) hg' (by rw[cP,hln]; omega) (by rw[cP]; omega);rw[cP] at hsrt;have rp3:ak h3 (h.next+2) 2 1=some [.sl b 0 xs.length xs.length]:=bm jg rfl;refine ae (bN (bo 2 (M2 e5 rp3) rfl (Z2 e5 rp3) (M2 e5 rp3) (hsrt) λv h4 hq=>?_));refine bH (M0) ?_;have jn4:=hq.nx;have hg4:=hq.get;rw[show (xs.toArray.toList.mergeSort λx y=>decide (x≤y))=fz xs from rfl] at hg4;have hcp:=Bw (c:=xs.length) hg4 (by rw[cP,fQ,hln]; omega) (by rw[cP,fQ]; omega) (by rw[cP,fQ]; omega);rw[cP,fQ] at hcp;have jg4:h4.get (h.next+2)=some (.cells [.int .i64 0,.nils,.sl b 0 xs.length xs.length,iv] 4 false):=by rw[hq.gt _ om om]; exact jg
 have rp4:ak h4 (h.next+2) 2 1=some [.sl b 0 xs.length xs.length]:=bm jg4 rfl;refine ae (bN (bo 2 (M2 e5 rp4) rfl (Z2 e5 rp4) (M2 e5 rp4) (hcp) λv h5 hq5=>?_));obtain⟨d',m,rfl,hm1,hm2,u5,hd⟩:=hq5;rw[Al] at hd;rw[hnm] at hd;have jg5:h5.get (h.next+2)=some (.cells [.int .i64 0,.nils,.sl b 0 xs.length xs.length,iv] 4 false):=by rw[u5.ne om]; exact jg4
 have w5:=eA (v:=.sl b 0 m xs.length) jg5 (i:=2) (by simp);change bQ h5 (h.next+2) 2 [.sl b 0 m xs.length]=some (h5.put (h.next+2) (.cells [.int .i64 0,.nils,.sl b 0 m xs.length,iv] 4 false)) at w5;have u6:=Mv (o:=.cells [.int .i64 0,.nils,.sl b 0 m xs.length,iv] 4 false) jg5;refine bH (M2 e5 w5) ?_;generalize h5.put (h.next+2) (.cells [.int .i64 0,.nils,.sl b 0 m xs.length,iv] 4 false)=h6 at *
 have n5:=u5.nx;have n6:=u6.nx;have hvl:(vsM n.toNat E es).length=m:=by rw[← hd,aS,bP,hm2]; omega
 have gb6:h6.get b=h5.get b:=u6.ne om;have sV:SlI h6 (.sl b 0 m xs.length) (vsM n.toNat E es):=by
  rw[← hd];exact KR (by rw[gb6]; exact u5.get) (by rw[hm2,hln]; omega) om om
 have lV:=sV.len;rw[ai] at lV;have rp6:ak h6 (h.next+2) 2 1=some [.sl b 0 m xs.length]:=bm u6.get rfl;have w7:=eA (v:=.int .i64 ((vsM n.toNat E es).length:Nat)) u6.get (i:=0) (by simp);change bQ h6 (h.next+2) 0 [.int .i64 ((vsM n.toNat E es).length:Nat)]=some (h6.put (h.next+2) (.cells [.int .i64 ((vsM n.toNat E es).length:Nat),.nils,.sl b 0 m xs.length,iv] 4 false)) at w7;have u7:=Mv (o:=.cells [.int .i64 ((vsM n.toNat E es).length:Nat),.nils,.sl b 0 m xs.length,iv] 4 false) u6.get;refine ae (aj (M4 e5 rp6 lV w7) ?_);generalize h6.put (h.next+2) (.cells [.int .i64 ((vsM n.toNat E es).length:Nat),.nils,.sl b 0 m xs.length,iv] 4 false)=h7 at *
 have n7:=u7.nx;have sV7:SlI h7 (.sl b 0 m xs.length) (vsM n.toNat E es):=sV.cong λb' o' l' c' e=>by cases e; exact u7.ne om
 have hb7:=sV7.lt rfl;have K7:Ext (h.next+2) h2 h7:=jx.trans ((Ext.mono (hq.mono (m:=b) om |>.toExt (ab _)) om).trans ((u5.ext om).trans ((u6.ext (ab _)).trans (u7.ext (ab _)))));have hvs:=(pJ n.toNat E es).imp (fun {a b} (q:a<b)=>Fg q);have hvlen:(vsM n.toNat E es).length≤2 ^ 34:=by rw[hvl]; omega
 clear jg4 jg5 w5 w7 rp3 rp4 rp6 u5 u6 gb6 sV hg hg' hg4 hq jg;have g7:=u7.get;have n71:h.next+3≤h7.next:=om;clear u7;refine ae ?_;refine ae (aj (by simp only[am,aK,simprocAttr,e1,il]<;>rfl) ?_)
 refine fA (α:=AV) (N:=es.length) (λ_ _=>[(2,.ptr h.next 0),(4,.ptr (h.next+1) 0),(5,.ptr (h.next+2) 0),(52,iv)])
  (λk a h'=>Ext (h.next+2) h2 h'∧h7.next≤h'.next∧(∀ c,c<h7.next→c≠h.next+2→h'.get c=h7.get c)∧h'.get (h.next+2)=some (.cells [.int .i64 ((vsM n.toNat E es).length:Nat),a,.sl b 0 m xs.length,iv] 4 false)∧IsSl h' 2 h7.next a (((es.take k).map λi=>(((cV n.toNat E es (edM E i).1:Nat):Int),((cV n.toNat E es (edM E i).2:Nat):Int))).flatMap eE)) .nils (λ_ _=>rfl) om (H3 e2 e4 e5)
  ⟨K7,ab _,λ_ _ _=>rfl,g7,.inl ⟨rfl,by simp⟩⟩ ?_ ?_
 ·clear e1 e2 e4 e5 e16;rintro k a ts h8 hk ⟨kx,kn,kk,kg,ka⟩ ⟨e54,e53,e2,e4,e5,e52,-⟩;simp only at e54 e53 e2 e4 e5 e52 kg ka;have X8:Ext h.next h h8:=X2.trans (kx.mono om);have he8:=he.ext X8 (ab _);have hi8:=hi.ext X8 (ab _);have sV8:SlI h8 (.sl b 0 m xs.length) (vsM n.toNat E es):=sV7.cong λb' o' l' c' e=>by
   cases e;exact kk _ hb7 om
  have gA8:h8.get h.next=some (.cells [.int .i64 n,ev] 2 false):=by rw[kx.gt _ om]; exact gA2
  have rA8:ak h8 h.next 1 1=some [ev]:=bm gA8 rfl;obtain⟨b1,p1,a1,r1,_⟩:=hi8.at1 (cq (f:=eI) hk);have hin:=hes _ (aP hk);obtain⟨z,hz⟩:∃ z:Nat,es[k]=z:=⟨es[k].toNat,om⟩
  have hzl:z<E.length:=om;rw[hz] at r1;obtain⟨eb1,ep,a7,_,r7,_⟩:=he8.at (cq (f:=eE) hzl);have r70:=r7 0 (.int .i64 E[z].1) rfl;have r71:=r7 1 (.int .i64 E[z].2) rfl;rw[dX] at r70;refine ae (aj (M4 e52 e54 a1 r1) ?_);refine ae (bN (bo 6 (M5 e2 e5 rA8 a7 r70) rfl (Z5 e2 e5 rA8 a7 r70) (M5 e2 e5 rA8 a7 r70) (tL (x:=E[z].1) kg sV8 hvs om) λr h9 hq8=>?_));obtain⟨rfl,rfl⟩:=hq8;refine bH (M0) ?_;refine ae (bN (bo 6 (M5 e2 e5 rA8 a7 r71) rfl (Z5 e2 e5 rA8 a7 r71) (M5 e2 e5 rA8 a7 r71) (tL (x:=E[z].2) kg sV8 hvs om) λr h10 hq9=>?_));obtain⟨rfl,rfl⟩:=hq9;refine bH (M0) ?_;have ed:edM E es[k]=E[z]:=HA hz hzl;have hst:=yx (n:=n.toNat) (E:=E) (F:=es) hk;rw[ed] at hst;have r9:ak h10 (h.next+2) 1 1=some [a]:=bm kg rfl;have hlenk:(((es.take k).map λi=>(((cV n.toNat E es (edM E i).1:Nat):Int),((cV n.toNat E es (edM E i).2:Nat):Int))).flatMap eE).length=k*2:=by
   rw[dC (f:=eE) (e:=2) (λ_=>rfl),ai,aS,cy om]
  obtain⟨s',h11,a11,i11,x11,n11⟩:=ka.push (bytes:=16) [.int .i64 ((cV n.toNat E es E[z].1:Nat):Int),.int .i64 ((cV n.toNat E es E[z].2:Nat):Int)] om om rfl rfl
   (by rw[hlenk,cN _ om]; unfold aW; omega) (by rw[hlenk,cN _ om]; unfold aW; omega)
  have g11:h11.get (h.next+2)=some (.cells [.int .i64 ((vsM n.toNat E es).length:Nat),a,.sl b 0 m xs.length,iv] 4 false):=by rw[x11.gt _ om]; exact kg
  obtain⟨sc,so⟩:=i11.cells;have w11:=eA (v:=s') g11 (i:=1) (by simp);change bQ h11 (h.next+2) 1 [s']=some (h11.put (h.next+2) (.cells [.int .i64 ((vsM n.toNat E es).length:Nat),s',.sl b 0 m xs.length,iv] 4 false)) at w11;have u11:=Mv (o:=.cells [.int .i64 ((vsM n.toNat E es).length:Nat),s',.sl b 0 m xs.length,iv] 4 false) g11;change gp (h10.new (.cells [.int .i64 (((vsM n.toNat E es).countP λu=>decide (u<E[z].1):Nat):Int),.int .i64 (((vsM n.toNat E es).countP λu=>decide (u<E[z].2):Nat):Int)] 2 false)) 2 16 a (.sl h10.next 0 1 1)=some (s',h11) at a11;refine aj (by simp only[am,aK,simprocAttr,e5,r9,a11,w11,sc,so]<;>rfl) ?_;refine⟨s',⟨kx.trans ((x11.mono om).trans (u11.ext (ab _))),by rw[u11.nx]; omega,λc hc hne=>by rw[u11.ne hne,x11.gt _ om]; exact kk c hc hne,u11.get,?_⟩,H6 e54 e53 e2 e4 e5 e52⟩;rw[hst,bC];exact i11.cong λb n _ hb=>u11.ne om
 ·clear e1 e2 e4 e5 e16;rintro a ts h8 ⟨kx,kn,kk,kg,ka⟩ ⟨e2,e4,e5,e52,-⟩;simp only at e2 e4 e5 kg ka;rw[bp] at ka;obtain⟨ac,ao⟩:=ka.cells;have gB8:h8.get (h.next+1)=some (.cells [.int .i64 0,.nils,.nils,.nils] 4 false):=by rw[kx.gt _ om]; exact gB2
  have rg:ak h8 (h.next+2) 0 4=some [.int .i64 ((vsM n.toNat E es).length:Nat),a,.sl b 0 m xs.length,iv]:=by rw[aU kg]; rfl
  have u9:=Mv (o:=.cells [.int .i64 ((vsM n.toNat E es).length:Nat),a,.sl b 0 m xs.length,iv] 4 false) gB8;have w9:bQ h8 (h.next+1) 0 [.int .i64 ((vsM n.toNat E es).length:Nat),a,.sl b 0 m xs.length,iv]=some (h8.put (h.next+1) (.cells [.int .i64 ((vsM n.toNat E es).length:Nat),a,.sl b 0 m xs.length,iv] 4 false)):=by rw[dp gB8]; rfl
  refine ae (aj (M6 e4 e5 rg ao io w9) ?_);have rB:ak (h8.put (h.next+1) (.cells [.int .i64 ((vsM n.toNat E es).length:Nat),a,.sl b 0 m xs.length,iv] 4 false)) (h.next+1) 0 4=some [.int .i64 ((vsM n.toNat E es).length:Nat),a,.sl b 0 m xs.length,iv]:=by rw[aU u9.get]; rfl
  refine br ⟨_,(by simp only[rs,rf52,am,aK,simprocAttr,e4,rB]<;>rfl),X2.trans ((kx.mono om).trans (u9.ext om)),a,_,rfl,?_,?_,λb o m c e=>by cases e; omega⟩
  ·exact (ka.cong λb n _ hb=>u9.ne om).mono om
  ·exact sV7.cong λb' o' l' c' e=>by
    cases e;rw[u9.ne om,kk _ hb7 om]
open Go.Am
theorem HL {h:AH}{b n c:Nat}{vs:List AV}{kf:Nat→Int} (hg:h.get b=some (.cells vs 1 false)) (hl:vs.length=n) (h0:0<n) (hn:n<2 ^ 62) (hr:∀ i v,vs[i]?=some v→ru h b (kf i) v) :
 C prg 97 [.sl b 0 n c,.fn 98 []] h λ_ h'=>∃ is:List Nat,is.Perm (List.range n)∧is.Pairwise (λi j=>kf i≤kf j)∧Mod h.next h h' b (.cells (is.map λi=>vs.getD i .un) 1 false):=by
 have hrd:ak h b 0 n=some vs:=by
  rw[aU hg,if_pos om,de,da om]
 refine BS.srf ps97 hrd h0 hn hr λis hp hs=>?_;have hil:(is.map λi=>vs.getD i .un).length=n:=by rw[ai,hp.length_eq,cL]
 refine⟨_,?_,_,_,rfl,is,hp,hs,(Mv hg).mod⟩;rw[dp hg,if_pos om];simp only[dB,fF,cH,bM];rw[dG om,bO]
theorem AN {α:Type}{d:α} (l:List α):((List.range l.length).map λi=>l.getD i d)=l:=by
 refine cW λj=>?_;rw[aX];by_cases hj:j<l.length
 ·rw[dn hj,aq hj];simp only[aQ];rw[aL,aq hj];rfl
 ·rw[bG (by rw[cL]; omega),bG om];rfl
open Go.Am
abbrev SlN (h:AH) (v:AV) (l:List Nat):Prop:=SlI h v (l.map λn=>((n:Nat):Int))
def nC (l:List Nat):List AV:=(l.map λn=>((n:Nat):Int)).flatMap eI
theorem Gx (l:List Nat):(nC l).length=l.length:=by
 unfold nC;rw[dC (f:=eI) (e:=1) (λ_=>rfl),ai]; omega
theorem LX (a b:List Nat):nC (a++b)=nC a++nC b:=by
 unfold nC;rw[cj,bC]
theorem Lo {h:AH}{lo:Nat}{v:AV}{l:List Nat} (hv:IsSl h 1 lo v (nC l)):SlN h v l:=Mq om (λ_=>rfl) hv
def LL (h:AH) (lo:Nat) (a:AV) (xss:List (List Nat)):Prop :=
 ∃ vs:List AV,IsSl h 1 lo a vs∧vs.length=xss.length∧∀ (i:Nat) (v:AV) (xs:List Nat),vs[i]?=some v→xss[i]?=some xs→IsSl h 1 lo v (nC xs)∧∀ b n b' n',v=.sl b 0 n n→a=.sl b' 0 n' n'→b≠b'
theorem LL.ext {h h':AH}{lo hi:Nat}{a:AV}{xss:List (List Nat)} (hl:LL h lo a xss) (hx:Ext hi h h') (hn:h.next≤hi):LL h' lo a xss:=by
 obtain⟨vs,h1,h2,h3⟩:=hl;exact⟨vs,h1.ext hx hn,h2,λi v xs q1 q2=>⟨(h3 i v xs q1 q2).1.ext hx hn,(h3 i v xs q1 q2).2⟩⟩
theorem LL.mono {h:AH}{lo lo':Nat}{a:AV}{xss:List (List Nat)} (hl:LL h lo a xss) (hn:lo'≤lo):LL h lo' a xss:=by
 obtain⟨vs,h1,h2,h3⟩:=hl;exact⟨vs,h1.mono hn,h2,λi v xs q1 q2=>⟨(h3 i v xs q1 q2).1.mono hn,(h3 i v xs q1 q2).2⟩⟩
theorem LL.push {h:AH}{lo x:Nat}{a v:AV}{xss:List (List Nat)}{xs:List Nat} (hl:LL h lo a xss) (hlo:lo≤h.next) (hv:IsSl h 1 lo v (nC xs)) (hx:h.get x=some (.cells [v] 1 false)) (hxl:lo≤x) (hxa:∀ b n,a=.sl b 0 n n→b≠x)
 (hva:∀ b n b' n',v=.sl b 0 n n→a=.sl b' 0 n' n'→b≠b') (hb:(xss.length+1)*24<aW) :
 ∃ a' h',gp h 1 24 a (.sl x 0 1 1)=some (a',h')∧LL h' lo a' (xss++[xs])∧Ext lo h h'∧h'.next=h.next+1∧(∀ c,c<h.next→(∀ b n,a=.sl b 0 n n→c≠b)→h'.get c=h.get c)∧∀ c n,a'=.sl c 0 n n→c=h.next:=by
 obtain⟨vs,h1,h2,h3⟩:=hl;obtain⟨a',h',q1,q2,q3,q4,q5,q6,_⟩:=h1.app (bytes:=24) hlo om hx hxl hxa rfl (by simp [hv.cells.2]) (by rw[dF,h2]; exact hb) (by rw[dF,h2]; unfold aW at *; omega);have keep:∀ (w:AV) (cs:List AV),IsSl h 1 lo w cs→(∀ b n b' n',w=.sl b 0 n n→a=.sl b' 0 n' n'→b≠b')→IsSl h' 1 lo w cs∧∀ b n b' n',w=.sl b 0 n n→a'=.sl b' 0 n' n'→b≠b':=λw cs hw hn=>by
  refine⟨hw.cong λb n e _=>q6 b (hw.lt e) λb' n' e'=>hn b n b' n' e e',λb n b' n' e e'=>?_⟩;have:=hw.lt e;rw[q4] at e';cases e';omega
 refine⟨a',h',q1,⟨vs++[v],q2,by rw[aN,aN,h2]; rfl,λi w ys e1 e2=>?_⟩,q3,q5,q6,λc n e=>by rw[q4] at e; cases e; rfl⟩;by_cases hi:i<vs.length
 ·rw[bJ hi] at e1;rw[bJ om] at e2;obtain⟨k1,k2⟩:=h3 i w ys e1 e2;exact keep w _ k1 k2
 ·have hil:i<(vs++[v]).length:=(aI.1 e1).1;rw[aN,bf,bt] at hil;have hi':i=vs.length:=om;subst hi';rw[bE om,eV] at e1;rw[h2,bE om,eV] at e2;cases e1;cases e2;exact keep v _ hv hva
theorem LL.at {h:AH}{lo:Nat}{a:AV}{xss:List (List Nat)} (hl:LL h lo a xss) {i:Nat} (hi:i<xss.length):∃ b o v,jO 1 a (.int .i64 (i:Nat))=some (.ptr b o)∧ak h b o 1=some [v]∧IsSl h 1 lo v (nC xss[i])∧b<h.next:=by
 obtain⟨vs,h1,h2,h3⟩:=hl;have hs:Sl h 1 a (vs.map λx=>[x]):=by
  rcases h1 with ⟨rfl,rfl⟩|⟨b,n,_,rfl,hg,hn⟩
  ·exact .inl ⟨rfl,.inl rfl⟩
  ·exact Ms hg om (ab _)
 have hv:vs[i]?=some (vs[i]'om):=aq _;obtain⟨b,o,q1,q2,q3⟩:=hs.at1 (i:=i) (y:=vs[i]'om) (by rw[aX,hv]; rfl);exact⟨b,o,_,q1,q2,(h3 i _ _ hv (aq hi)).1,q3⟩
theorem LL.len {h:AH}{lo:Nat}{a:AV}{xss:List (List Nat)} (hl:LL h lo a xss):gD a=some (.int .i64 (xss.length:Nat)):=by
 obtain⟨vs,h1,h2,h3⟩:=hl;rcases h1 with ⟨rfl,rfl⟩|⟨b,n,_,rfl,hg,hn⟩
 ·rw[← h2]; rfl
 ·rw[← h2,hn,aO]; rfl
theorem LL.cong {h h':AH}{lo:Nat}{a:AV}{xss:List (List Nat)} (hl:LL h lo a xss) (hk:∀ c,lo≤c→c<h.next→h'.get c=h.get c):LL h' lo a xss:=by
 obtain⟨vs,h1,h2,h3⟩:=hl;exact⟨vs,h1.cong λb n e hb=>hk b hb (h1.lt e),h2,λi v xs q1 q2=>⟨(h3 i v xs q1 q2).1.cong λb n e hb=>hk b hb ((h3 i v xs q1 q2).1.lt e),(h3 i v xs q1 q2).2⟩⟩
theorem LL.lt {h:AH}{lo:Nat}{a:AV}{xss:List (List Nat)} (hl:LL h lo a xss) {b n:Nat} (e:a=.sl b 0 n n):b<h.next:=by
 obtain⟨vs,h1,_⟩:=hl;exact h1.lt e
open Go.Am
open Go.Blk (Gr DS Lst canon Btw visit pot unm from1)
theorem BN {h:AH}{x:Int×Int}:C prg 94 [.agg (eE x)] h λr h'=>r=.bool (decide (x.1=x.2))∧Ext h.next h h':=by
 refine Mw pf94 ?_;refine ae (aj (by simp only[am,aK,simprocAttr,bS,eE]<;>rfl) ?_);have ex:Ext h.next h (h.new (.cells [.int .i64 x.1,.int .i64 x.2] 2 false)):=Mt (ab _);have g:(h.new (.cells [.int .i64 x.1,.int .i64 x.2] 2 false)).get h.next=some (.cells [.int .i64 x.1,.int .i64 x.2] 2 false):=by rw[AH.get_new,if_pos rfl]
 generalize h.new (.cells [.int .i64 x.1,.int .i64 x.2] 2 false)=h1 at *
 have r1:ak h1 h.next 0 1=some [.int .i64 x.1]:=by rw[aU g]; rfl
 have r2:ak h1 h.next 1 1=some [.int .i64 x.2]:=by rw[aU g]; rfl
 refine ae (aj (M2 r1 r2) ?_);exact br ⟨_,(by simp only[rs,rf94,am,aK,simprocAttr]<;>rfl),rfl,ex⟩
theorem HV {h:AH}{w v:AV}:C prg 178 [w,.int .i64 0,.int .i64 0,v] h λ_ h'=>h'=h:=by
 refine Mw pf178 ?_;have w1:IntKind.i64.wrap 1=1:=by decide
 refine ae (yf (λts h1=>h1=h∧cU ts 2=.int .i64 0∧cU ts 8=.int .i64 1) (by simp only[am,aK,simprocAttr,bS,Int.zero_add,w1]) ?_);rintro ts h0 ⟨rfl,e2,e8⟩;refine cY (fX (λn ts h1=>h1=h0∧cU ts 2=.int .i64 0∧cU ts 8=.int .i64 1) ?_ (n:=0) ⟨rfl,e2,e8⟩);clear e2 e8;rintro n ts h1 ⟨rfl,e2,e6⟩;refine ae (ae (aj (M2 e2 e6) ?_));refine dL (by simp only[am,aK,simprocAttr]; rfl) ?_;exact fB ⟨λ_=>⟨.tup [],rfl,rfl⟩,λe=>absurd rfl e⟩
theorem HN {h:AH}{l:Int}{w v:AV}:C prg 144 [w,.int .i64 0,.int .i64 0,.int .i64 l,v] h λ_ h'=>h'=h:=by
 refine Mw pf144 ?_;refine ae (aj (Mi0) ?_);refine ae (aj (Mi0) ?_);refine cY (fX (λn ts h1=>h1=h∧cU ts 0=w∧cU ts 1=.int .i64 0∧cU ts 2=.int .i64 0∧cU ts 4=v) ?_ (n:=0) ⟨rfl,Zi0,Zi0,Zi0,Zi0⟩);rintro n ts h1 ⟨rfl,e0,e1,e2,e4⟩;refine cY (ae (aj (by simp only[am,aK,simprocAttr,e1,e2,fD (z:=0-0) (by decide) (by decide)]<;>rfl) ?_));refine ae (ae (aj (M0) ?_));refine db (by simp only[am,aK,simprocAttr]; rfl) ?_;refine ae (bN (bo 4 (M4 e0 e1 e2 e4) rfl (Z4 e0 e1 e2 e4) (M4 e0 e1 e2 e4) (HV) λv h2 u=>?_));subst u;refine bH (M0) ?_;exact br ⟨.tup [],rfl,rfl⟩
theorem ED {h:AH}{w v:AV} (hw:gD w=some (.int .i64 0)):C prg 97 [w,v] h λ_ h'=>h'=h:=by
 refine Mw pf97 ?_;refine ae (aj (Mi1 hw) ?_);have wu:IntKind.u64.wrap 0=0:=by decide
 refine bN (bo 4 (Mi1 wu) rfl (Zi1 wu) (Mi1 wu) (wD) λv h1 hq=>?_);obtain⟨rfl,rfl⟩:=hq;refine bo 1 (Mi0) rfl (Zi0) (Mi0) (HN) λv h2 hq=>?_;subst hq;refine bH (M0) ?_;exact⟨.tup [],rfl,rfl⟩
theorem nC_nL (l:List Nat):nC l=nL l:=Lm l
set_option maxHeartbeats 2000000 in
theorem EW {h:AH}{n:Nat}{ev:AV}{E:List (Int×Int)} (he:SlE h ev E) (hm:fy (n:Nat) E=true) (hE:InG n E) (hL:∀ i,i<E.length→tlE E i≠hdE E i) :
 C prg 51 [.agg (gW n ev)] h λr h'=>(∀ l,Lst (grE n E hE hL) l→LL h' h.next r (canon E.length l))∧Ext h.next h h':=by
 obtain⟨ec,eo⟩:=he.cells;obtain⟨m1,m2,m3,m4⟩:=iQ hm;have hBg:∀ {h':AH},SlE h' ev E→_:=fun {h'} q=>EY (n:=n) q hE hL om om;have hMy:∀ {h':AH},SlE h' ev E→_:=fun {h'} q=>xv (n:=((n:Nat):Int)) q om;unfold gW at hBg ⊢;refine Mw pf51 ?_;refine ae (aj (Mi0) ?_);have x0:Ext h.next h (h.new (.cells [.int .i64 (n:Nat),ev] 2 false)):=Mt (ab _);have g0:(h.new (.cells [.int .i64 (n:Nat),ev] 2 false)).get h.next=some (.cells [.int .i64 (n:Nat),ev] 2 false):=by rw[AH.get_new,if_pos rfl]
 have n0:(h.new (.cells [.int .i64 (n:Nat),ev] 2 false)).next=h.next+1:=rfl;generalize (h.new (.cells [.int .i64 (n:Nat),ev] 2 false))=h1 at *
 have rA:ak h1 h.next 0 2=some [.int .i64 (n:Nat),ev]:=by rw[aU g0]; rfl
 refine ae (ae (bN (bo 1 (Mi1 rA) rfl (Zi1 rA) (Mi1 rA) (hMy (he.ext x0 (ab _))) λr h2 hq=>?_)));obtain⟨rfl,x2⟩:=hq;rw[hm];have X2:Ext h.next h h2:=x0.trans (x2.mono om);have n2:=x2.nx;have g2:h2.get h.next=some (.cells [.int .i64 (n:Nat),ev] 2 false):=by rw[x2.gt _ om]; exact g0
 have rE2:ak h2 h.next 1 1=some [ev]:=bm g2 rfl;refine bo 4 (Mi2 rE2 @kV) rfl (Zi2 rE2 @kV) (Mi2 rE2 @kV) (wm (P:=λx=>decide (x.1=x.2)) (caps:=[]) (he.ext X2 (ab _)) om (λx _ h' _=>by rw[bO]; exact BN)) λr h3 hq=>?_;obtain⟨rfl,x3⟩:=hq;have hany:(E.any λx=>decide (x.1=x.2))=false:=by
  rw[qt];intro x hx;obtain⟨i,hi,rfl⟩:=List.getElem_of_mem hx;have:=hL i hi;obtain⟨q1,q2,q3⟩:=hE i hi;rw[q1];simp only[aJ];omega
 rw[hany];refine bH (M0) ?_;refine dL (Z0) (bu ?_);have X3:Ext h.next h h3:=X2.trans (x3.mono X2.nx);have n3:=x3.nx;have g3:h3.get h.next=some (.cells [.int .i64 (n:Nat),ev] 2 false):=by rw[x3.gt _ om]; exact g2
 have rA3:ak h3 h.next 0 2=some [.int .i64 (n:Nat),ev]:=by rw[aU g3]; rfl
 refine ae (bN (bo 1 (Mi1 rA3) rfl (Zi1 rA3) (Mi1 rA3) (hBg (he.ext X3 (ab _))) λr h4 hq=>?_));obtain⟨sp,eb,nb,lb,rfl,x4,⟨lsp,lnb,llb⟩,t,r4⟩:=hq;refine bH (M0) ?_;have X4:Ext h.next h h4:=X3.trans (x4.mono X3.nx);have n4:=x4.nx;have g4:h4.get h.next=some (.cells [.int .i64 (n:Nat),ev] 2 false):=by rw[x4.gt _ om]; exact g3
 have rN4:ak h4 h.next 0 1=some [.int .i64 (n:Nat)]:=bm g4 rfl;refine ae (ae (aj (Mi1 rN4) ?_));have hends:=zQ hE hL;have hall:=Go.Blk.btw_all hends kr;have hps:pot (grE n E hE hL) (dA E) Go.Blk.start≤2 ^ 30:=by
  have h1:=Go.Blk.pot_start (g:=grE n E hE hL) (ends:=dA E) (m:=E.length) λx _=>by
   unfold dA;have:=dj (λi=>decide (tlE E i=x)||decide (hdE E i=x)) (List.range E.length);rwa [cL] at this
  have h2:(grE n E hE hL).n*(1+2*E.length)≤64*(1+2*128):=Nat.mul_le_mul m2 om;omega
 refine fA (α:=Unit) (N:=n) (λ_ _=>[(1,.ptr h.next 0),(3,.ptr sp 0)])
  (λk _ h'=>∃ stv blv bs,Ser h4 h' sp eb nb lb n ev ((List.range k).foldl (from1 (grE n E hE hL) (dA E) dJ n) Go.Blk.start) stv blv bs) () (λ_ _=>rfl) om (Hi0) ⟨_,_,_,r4⟩ ?_ ?_
 ·rintro k _ ts h5 hk ⟨stv,blv,bs,R⟩ ⟨ei,en,e1,e3,-⟩;simp only at ei en e1 e3;obtain⟨b1,b2,b3⟩:=hall k (by show k≤n; omega);have hsucc:(List.range (k+1)).foldl (from1 (grE n E hE hL) (dA E) dJ n) Go.Blk.start=from1 (grE n E hE hL) (dA E) dJ n ((List.range k).foldl (from1 (grE n E hE hL) (dA E) dJ n) Go.Blk.start) k:=by
   rw[du,fK];rfl
  rw[hsucc];change Btw (grE n E hE hL) ((List.range k).foldl (from1 (grE n E hE hL) (dA E) dJ n) Go.Blk.start) at b1;change unm (grE n E hE hL) ((List.range k).foldl (from1 (grE n E hE hL) (dA E) dJ n) Go.Blk.start)≤n at b2;change pot (grE n E hE hL) (dA E) ((List.range k).foldl (from1 (grE n E hE hL) (dA E) dJ n) Go.Blk.start)≤_ at b3;clear hsucc;generalize (List.range k).foldl (from1 (grE n E hE hL) (dA E) dJ n) Go.Blk.start=s at *
  have rn:ak h5 sp 3 1=some [.sl nb 0 n n]:=bm R.cell rfl;have rk:ak h5 nb k 1=some [.int .i64 (s.num k:Nat)]:=bm R.gn (kN hk);have ik:eR ((k:Nat):Int) n=some k:=cJ hk;refine ae (aj (M1 ei) ?_);by_cases q:s.num k=0
  ·have c1:decide (((s.num k:Nat):Int)=0)=true:=aH om;refine ae (aj (M6 e3 rn ik @aO rk c1) ?_);refine db (Z0) ?_;have hv:=ES t hE hL om om n (b1.pre (show k<(grE n E hE hL).n from hk) q) b2 om R;refine bN (bo 2 (by simp only[am,aK,simprocAttr,e3,byI]<;>rfl) rfl (by simp only[am,aK,simprocAttr,e3,byI]) (by simp only[am,aK,simprocAttr,e3,byI]<;>rfl) (hv) λv h6 hq=>?_);obtain⟨stv',blv',bs',R'⟩:=hq;refine bH (M0) ?_;refine⟨(),⟨stv',blv',bs',?_⟩,H4 ei en e1 e3⟩;unfold from1;rw[if_pos q];exact R'
  ·have c1:decide (((s.num k:Nat):Int)=0)=false:=aw om;refine ae (aj (M6 e3 rn ik @aO rk c1) ?_);refine dL (Z0) (bu ?_);refine⟨(),⟨stv,blv,bs,?_⟩,H4 ei en e1 e3⟩;unfold from1;rw[if_neg q];exact R
 rintro _ ts h5 ⟨stv,blv,bs,R⟩ ⟨e1,e3,-⟩;simp only at e3;obtain⟨b1,b2,b3⟩:=hall n (ab n);change pot (grE n E hE hL) (dA E) ((List.range n).foldl (from1 (grE n E hE hL) (dA E) dJ n) Go.Blk.start)≤_ at b3;have hrun:(List.range n).foldl (from1 (grE n E hE hL) (dA E) dJ n) Go.Blk.start=Go.Blk.runB (grE n E hE hL) (dA E) dJ (grE n E hE hL).n:=rfl;obtain⟨nd,hbk,part⟩:=Go.Blk.runB_ok hends kr (ab (grE n E hE hL).n);rw[← hrun] at nd hbk part;have hcan:=λl (hl:Lst (grE n E hE hL) l) cs=>Go.Blk.run_canon hends kr Fq hl (cs:=cs);rw[← hrun] at hcan;generalize (List.range n).foldl (from1 (grE n E hE hL) (dA E) dJ n) Go.Blk.start=s at *
 clear hrun;have hnx:=R.kp.nx;have hsp5:=AH.lt_of_get R.cell;have X5:Ext h.next h h5:=X4.trans ⟨hnx,λc hc=>R.kp.gt c om (by rintro (e|e|e)<;>omega),λc hc=>R.kp.ty c om⟩;have rb:ak h5 sp 7 1=some [blv]:=bm R.cell rfl;have hblk:s.blk.length≤2 ^ 30:=by
  have h1:=cn b3 hps;unfold pot at h1;omega
 have hcells:=R.bl.cells;have hlen:gD blv=some (.int .i64 (s.blk.length:Nat)):=by
  rw[← R.rl];rcases R.bl with ⟨hv,hbs⟩|⟨b,m,hb,hv,hg,hl⟩
  ·rw[hv,hbs]; rfl
  ·rw[hv,hl,aO]; rfl
 by_cases hz:s.blk.length=0
 ·have hblk0:s.blk=[]:=bi.1 hz;rw[hz] at hlen;refine ae (bN (bo 4 (M3 e3 rb @kV) rfl (Z3 e3 rb @kV) (M3 e3 rb @kV) (ED hlen) λv h6 hq=>?_));subst hq;refine bH (M0) ?_;refine ae (aj (M2 e3 rb) ?_);refine br ⟨blv,(by simp only[rs,rf51,am,aK,simprocAttr,hcells.1]<;>rfl),λl hl=>?_,X5⟩;have e:=hcan l hl [] (by rw[hblk0]) List.Pairwise.nil;change []=canon E.length l at e;rw[← e];have hbs0:bs=[]:=bi.1 (by rw[R.rl]; exact hz);exact⟨bs,R.bl.mono om,by rw[hbs0]; rfl,λi v xs e=>by rw[hbs0] at e; simp at e⟩
 have hbl0:bs.length=s.blk.length:=R.rl;rcases R.bl with ⟨hv,hbs⟩|⟨b,m,hb,hv,hg,hl⟩
 ·rw[hbs] at hbl0;exact absurd hbl0.symm hz
 have hm0:m=s.blk.length:=by rw[← R.rl,hl,aO]
 subst hm0;have hb5:=AH.lt_of_get hg;have hpos:0<s.blk.length:=Nat.pos_of_ne_zero hz;have hne:∀ r∈s.blk,∃ a xs,r=a::xs∧a<E.length:=λr hr=>by
  obtain⟨q1,_⟩:=hbk r hr;cases r with
  | nil=>exact absurd rfl q1
  | cons a xs=>exact⟨a,xs,rfl,(part a).2 ⟨_,hr,bd ..⟩⟩
 have hrow:∀ i v,bs[i]?=some v→ru h5 b (((s.blk.getD i []).headD 0:Nat):Int) v:=λi v q1=>by
  have hi:i<s.blk.length:=by have:=(aI.1 q1).1; omega
  obtain⟨a,xs,e3,e4⟩:=hne _ (aP hi);have q2:s.blk[i]?=some (a::xs):=by rw[aq hi,e3]
  obtain⟨z1,_,z3⟩:=R.rw i v _ q1 q2;rcases z1 with ⟨_,e⟩|⟨b',m,hb',hv',hg',hl'⟩
  ·cases e
  ·have hm:m=xs.length+1:=by
    rw[aO] at hl';rw[← hl'];simp [nL]
   subst hm;refine⟨b',0,xs.length,_,hv',λe2=>z3 b' 0 _ _ 0 _ _ hv' (by rw[hv,e2]),?_,om,?_⟩
   ·rw[aL,q2];exact bm hg' rfl
   ·rw[aL,q2];show ((a:Nat):Int)<_;omega
 have hsort:=HL (c:=s.blk.length) hg hbl0 hpos om hrow;rw[hv] at rb;refine ae (bN (bo 4 (M3 e3 rb @kV) rfl (Z3 e3 rb @kV) (M3 e3 rb @kV) (hsort) λv h6 hq=>?_));obtain⟨is,hp,hs,hmd⟩:=hq;refine bH (M0) ?_;have hspb:sp≠b:=by have:=t.lt.1; omega
 have rb6:ak h6 sp 7 1=some [.sl b 0 s.blk.length s.blk.length]:=by rw[bK (hmd.gt sp hspb hsp5)]; exact rb
 refine ae (aj (M2 e3 rb6) ?_);have X6:Ext h.next h h6:=X5.trans (Ext.mono (hmd.mono (m:=b) om |>.toExt (ab _)) om);refine br ⟨.sl b 0 s.blk.length s.blk.length,(by simp only[rs,rf51,am,aK,simprocAttr]<;>rfl),λl hl=>?_,X6⟩;have hil:is.length=s.blk.length:=by rw[hp.length_eq,cL]
 have hperm:(is.map λi=>s.blk.getD i []).Perm s.blk:=by
  have:=hp.map λi=>s.blk.getD i [];rwa [AN] at this
 have hord:(is.map λi=>s.blk.getD i []).Pairwise λa b=>a.headD 0≤b.headD 0:=by
  rw[eP];exact hs.imp λq=>Int.ofNat_le.1 q
 have e:=hcan l hl _ hperm hord;change _=canon E.length l at e;rw[← e];refine⟨is.map λi=>bs.getD i .un,.inr ⟨b,s.blk.length,om,rfl,hmd.get,by rw[ai,hil,aO]⟩,by rw[ai,ai],λi v xs q1 q2=>?_⟩;rw[aX] at q1 q2;obtain⟨x,k1,rfl⟩:=aF.1 q1;rw[k1] at q2;simp only[aQ,aa] at q2;subst q2;have hx:x<s.blk.length:=bF.1 (hp.mem_iff.1 (ni k1));have p3:bs[x]?=some (bs.getD x .un):=by
  rw[aL,aq (show x<bs.length by omega)];rfl
 have p4:s.blk[x]?=some (s.blk.getD x []):=by
  rw[aL,aq hx];rfl
 obtain⟨w1,_,w3⟩:=R.rw x _ _ p3 p4;rw[nC_nL];have hw:∀ b' n',bs.getD x .un=.sl b' 0 n' n'→b'≠b:=λb' n' e1 e2=>w3 b' 0 n' n' 0 s.blk.length s.blk.length e1 (by rw[hv,e2]);refine⟨(w1.cong λb' m' e _=>hmd.gt b' (hw b' m' e) (w1.lt e)).mono om,λb1 k1 b2 k2 e1 e2=>?_⟩;cases e2;exact hw b1 k1 e1
open Go.Am
open Go.Blk (Gr Lst canon)
abbrev P3:=List Int×List (Int×Int)×List Int
def f4 (t:AV×AV×AV×AV):List AV:=[t.1,t.2.1,t.2.2.1,t.2.2.2]
def PartC (h:AH) (a:AV) (x:AV×AV×AV×AV) (p:P3):Prop :=
 x.1=.int .i64 (p.1.length:Nat)∧SlE h x.2.1 p.2.1∧SlI h x.2.2.1 p.1∧SlI h x.2.2.2 p.2.2∧Sep x.2.1 a∧Sep x.2.2.1 a∧Sep x.2.2.2 a
def PL (h:AH) (lo:Nat) (a:AV) (L:List P3):Prop :=
 ∃ xs:List (AV×AV×AV×AV),IsSl h 4 lo a (xs.flatMap f4)∧xs.length=L.length∧∀ (i:Nat) (x:AV×AV×AV×AV) (p:P3),xs[i]?=some x→L[i]?=some p→PartC h a x p
theorem PartC.cong {h h':AH}{a a':AV}{x:AV×AV×AV×AV}{p:P3} (hp:PartC h a x p) (hk:∀ c,c<h.next→(∀ o n k,a≠.sl c o n k)→h'.get c=h.get c) (ha:∀ w,(∀ b o n c,w=.sl b o n c→b<h.next)→Sep w a→Sep w a'):PartC h' a' x p:=by
 obtain⟨h1,h2,h3,h4,h5,h6,h7⟩:=hp
 exact⟨h1,h2.cong λb o n c e=>hk b (h2.lt e) λo' n' c' e2=>h5 b o n c o' n' c' e e2,h3.cong λb o n c e=>hk b (h3.lt e) λo' n' c' e2=>h6 b o n c o' n' c' e e2,h4.cong λb o n c e=>hk b (h4.lt e) λo' n' c' e2=>h7 b o n c o' n' c' e e2,
  ha _ (λ_ _ _ _ e=>h2.lt e) h5,ha _ (λ_ _ _ _ e=>h3.lt e) h6,ha _ (λ_ _ _ _ e=>h4.lt e) h7⟩
theorem PL.ext {h h':AH}{lo hi:Nat}{a:AV}{L:List P3} (hl:PL h lo a L) (hx:Ext hi h h') (hn:h.next≤hi):PL h' lo a L:=by
 obtain⟨xs,h1,h2,h3⟩:=hl;exact⟨xs,h1.ext hx hn,h2,λi x p q1 q2=>(h3 i x p q1 q2).cong (λc hc _=>hx.gt _ om) λ_ _ q=>q⟩
theorem PL.mono {h:AH}{lo lo':Nat}{a:AV}{L:List P3} (hl:PL h lo a L) (hn:lo'≤lo):PL h lo' a L:=by
 obtain⟨xs,h1,h2⟩:=hl;exact⟨xs,h1.mono hn,h2⟩
theorem Mc (xs:List (AV×AV×AV×AV)):(xs.flatMap f4).length=xs.length*4:=dC (f:=f4) (e:=4) (λ_=>rfl) xs
theorem PL.len {h:AH}{lo:Nat}{a:AV}{L:List P3} (hl:PL h lo a L):gD a=some (.int .i64 (L.length:Nat)):=by
 obtain⟨xs,h1,h2,h3⟩:=hl;have:=(Mq (f:=f4) om (λ_=>rfl) h1).len;rwa [ai,h2] at this
theorem PL.cells {h:AH}{lo:Nat}{a:AV}{L:List P3} (hl:PL h lo a L):a.cells=[a]∧a.one=true:=by
 obtain⟨xs,h1,h2,h3⟩:=hl;exact h1.cells
theorem PL.lt {h:AH}{lo:Nat}{a:AV}{L:List P3} (hl:PL h lo a L) {b o n c:Nat} (e:a=.sl b o n c):b<h.next:=by
 obtain⟨xs,h1,h2,h3⟩:=hl;exact h1.lt e
theorem PL.at {h:AH}{lo:Nat}{a:AV}{L:List P3} (hl:PL h lo a L) {i:Nat} (hi:i<L.length):∃ b o x,jO 4 a (.int .i64 (i:Nat))=some (.ptr b o)∧ak h b o 4=some (f4 x)∧PartC h a x L[i]∧b<h.next∧∀ j y,(f4 x)[j]?=some y→ak h b (o+j) 1=some [y]:=by
 obtain⟨xs,h1,h2,h3⟩:=hl;have hs:=Mq (f:=f4) om (λ_=>rfl) h1;obtain⟨b,o,q1,q2,q3,q4⟩:=hs.at (cq (f:=f4) (i:=i) om);exact⟨b,o,_,q1,q2,h3 i _ _ (aq om) (aq hi),q4,q3⟩
theorem PL.push {h:AH}{lo q:Nat}{a:AV}{L:List P3}{x:AV×AV×AV×AV}{p:P3} (hl:PL h lo a L) (hlo:lo≤h.next) (hp:PartC h a x p) (hx:h.get q=some (.cells (f4 x) 4 false)) (hxl:lo≤q) (hxa:∀ b n,a=.sl b 0 n n→b≠q) (hb:L.length<2 ^ 30) :
 ∃ a' h',gp h 4 80 a (.sl q 0 1 1)=some (a',h')∧PL h' lo a' (L++[p])∧Ext lo h h'∧h'.next=h.next+1∧(∀ b o n c,a'=.sl b o n c→b=h.next)∧∀ c,c<h.next→(∀ b n,a=.sl b 0 n n→c≠b)→h'.get c=h.get c:=by
 obtain⟨xs,h1,h2,h3⟩:=hl;have ho:(f4 x).all AV.one=true:=by
  obtain⟨k1,k2,k3,k4,_⟩:=hp;simp only[f4,fU,uI,k1,k2.cells.2,k3.cells.2,k4.cells.2,Cr,mY]
 have hd:(xs.flatMap f4).length / 4=L.length:=by rw[Mc,cN _ om,h2]
 obtain⟨a',h',q1,q2,q3,q4,q5,q6,q7⟩:=h1.app (bytes:=80) hlo om hx hxl hxa rfl ho (by rw[hd]; unfold aW; omega) (by rw[hd]; unfold aW; omega);have keep:∀ {x p},PartC h a x p→PartC h' a' x p:=fun {x p} hp=>hp.cong (λc hc hne=>q6 c hc λb n e e2=>hne 0 n n (by rw[e,e2])) λw hw _ b o n c o' n' c' e1 e2=>by
  have:=hw b o n c e1;rw[q4] at e2;cases e2;omega
 refine⟨a',h',q1,⟨xs++[x],?_,by rw[aN,aN,h2]; rfl,λi y r e1 e2=>?_⟩,q3,q5,λb o n c e=>by rw[q4] at e; cases e; rfl,q6⟩
 ·rw[bC];simpa using q2
 ·by_cases hi:i<xs.length
  ·rw[bJ hi] at e1;rw[bJ om] at e2;exact keep (h3 i y r e1 e2)
  ·have hil:i<(xs++[x]).length:=(aI.1 e1).1;rw[aN,bf,bt] at hil;have hi':i=xs.length:=om;subst hi';rw[bE om,eV] at e1;rw[h2,bE om,eV] at e2;cases e1;cases e2;exact keep hp
def rS (n:Nat) (E:List (Int×Int)) (b:List Nat):P3:=(vsM n E (nI b),fO n E (nI b),nI b)
theorem tO {n:Nat}{E:List (Int×Int)} (hm:fy (n:Nat) E=true):InG n E:=λi hi=>by
 obtain⟨m1,m2,m3,m4⟩:=iQ hm;obtain⟨a,b,e,ha,hb⟩:=mw (bD.1 m4 _ (aP hi));have hg:E.getD i (0,0)=E[i]:=by rw[aL,aq hi]; rfl
 unfold tlE hdE;rw[hg,e];simp only[aY];exact⟨trivial,ha,hb⟩
theorem qJ {n:Int}{E:List (Int×Int)} (hg:gJ n E):∀ i,i<E.length→tlE E i≠hdE E i:=λi hi=>by
 obtain⟨hm,hl,_⟩:=hg;have hn:n=((n.toNat:Nat):Int):=by
  have:=hm;unfold fy at this;simp only[aM,aJ] at this;omega
 rw[hn] at hm;obtain⟨q1,q2,q3⟩:=tO hm i hi;have:=hl _ (aP hi);rw[q1] at this;simp only at this;omega
theorem jD {m:Nat}{l:Nat→Nat}{b:List Nat} (hb:b∈canon m l):b≠[]∧(∀ i∈b,i<m)∧b.length≤m∧b.Nodup:=by
 unfold canon at hb;obtain⟨i,hi,rfl⟩:=bB.1 hb;rw[bj,bF] at hi;refine⟨λe=>?_,λk hk=>?_,?_,List.nodup_range.filter _⟩
 ·have:i∈(List.range m).filter λk=>l k==i:=by rw[bj,bF]; exact hi
  rw[e] at this;cases this
 ·rw[bj,bF] at hk;exact hk.1
 ·have:=dj (λk=>l k==i) (List.range m);rwa [cL] at this
theorem oG {m:Nat}{l:Nat→Nat}:(canon m l).length≤m:=by
 unfold canon;rw[ai];have:=dj (λi=>l i==i) (List.range m);rwa [cL] at this
set_option maxHeartbeats 2000000 in
theorem Ej {h:AH}{n:Int}{ev:AV}{E:List (Int×Int)} (he:SlE h ev E) (hxl:E.length<2 ^ 30) :
 C prg 19 [.agg [.int .i64 n,ev]] h λr h'=>Ext h.next h h'∧(¬ gJ n E→r=.tup [.nils,.int .i64 1]) ∧
   (gJ n E→∃ a,r=.tup [a,.int .i64 0]∧∀ (hE:InG n.toNat E) (hL:∀ i,i<E.length→tlE E i≠hdE E i) l,Lst (grE n.toNat E hE hL) l→PL h' h.next a ((canon E.length l).map (rS n.toNat E))):=by
 obtain⟨ec,eo⟩:=he.cells;refine Mw pf19 ?_;refine ae (aj (Mi0) ?_);have x0:Ext h.next h (h.new (.cells [.int .i64 n,ev] 2 false)):=Mt (ab _);have g0:(h.new (.cells [.int .i64 n,ev] 2 false)).get h.next=some (.cells [.int .i64 n,ev] 2 false):=by rw[AH.get_new,if_pos rfl]
 have n0:(h.new (.cells [.int .i64 n,ev] 2 false)).next=h.next+1:=rfl;generalize (h.new (.cells [.int .i64 n,ev] 2 false))=h1 at *
 have rA:ak h1 h.next 0 2=some [.int .i64 n,ev]:=by rw[aU g0]; rfl
 refine ae (ae (bN (bo 1 (Mi1 rA) rfl (Zi1 rA) (Mi1 rA) (Ad (n:=n) (he.ext x0 (ab _)) hxl) λr h2 hq=>?_)));obtain⟨⟨c,at_,vv,rfl,hc⟩,x2⟩:=hq;have X2:Ext h.next h h2:=x0.trans (x2.mono om);have n2:=x2.nx;by_cases hg:¬ gJ n E
 ·have c1:(c != 0)=true:=by rw[bne_iff_ne]; exact λe=>hg (hc.1 e)
  refine bH (M0) ?_;refine db (Z1 c1) (ae (aj (M0) ?_));exact br ⟨_,(by simp only[rs,rf19,am,aK,simprocAttr]<;>rfl),X2,λ_=>rfl,λq=>absurd q hg⟩
 have hg:gJ n E:=Classical.byContradiction hg;have c1:(c != 0)=false:=by rw[hc.2 hg]; rfl
 refine bH (M0) ?_;refine dL (Z1 c1) (bu ?_);have hm:=hg.1;have hn:n=((n.toNat:Nat):Int):=by
  have:=hm;unfold fy at this;simp only[aM,aJ] at this;omega
 have hL0:=qJ hg;generalize n.toNat=nn at *
 subst hn;have hE0:=tO hm;have m3:=(iQ hm).2.2.1;have g2:h2.get h.next=some (.cells [.int .i64 (nn:Nat),ev] 2 false):=by rw[x2.gt _ om]; exact g0
 have rA2:ak h2 h.next 0 2=some [.int .i64 (nn:Nat),ev]:=by rw[aU g2]; rfl
 have hB:=EW (n:=nn) (he.ext X2 (ab _)) hm hE0 hL0;unfold gW at hB;refine ae (ae (bN (bo 1 (Mi1 rA2) rfl (Zi1 rA2) (Mi1 rA2) (hB) λbv h3 hq=>?_)));obtain⟨hll,x3⟩:=hq;obtain⟨B,hBl,hLL,hBm⟩:∃ B:List (List Nat),(∀ l,Lst (grE nn E hE0 hL0) l→B=canon E.length l)∧LL h3 h2.next bv B∧∀ b∈B,b≠[]∧(∀ i∈b,i<E.length)∧b.length≤E.length:=by
  obtain⟨l,hl⟩:=Go.Blk.lst_ex (grE nn E hE0 hL0);exact⟨canon E.length l,λl' hl'=>Go.Blk.canon_congr λi hi=>hl.uniq hl' hi,hll l hl,λb hb=>⟨(jD hb).1,(jD hb).2.1,(jD hb).2.2.1⟩⟩
 have hBlen:B.length≤E.length:=by
  obtain⟨l,hl⟩:=Go.Blk.lst_ex (grE nn E hE0 hL0);rw[hBl l hl];exact oG
 have bl3:=hLL.len;refine bH (M1 bl3) ?_;have X3:Ext h.next h h3:=X2.trans (x3.mono X2.nx);have n3:=x3.nx;have g3:h3.get h.next=some (.cells [.int .i64 (nn:Nat),ev] 2 false):=by rw[x3.gt _ om]; exact g2
 clear hll
 refine fA (α:=AV) (N:=B.length) (λ_ a=>[(1,.ptr h.next 0),(2,a),(11,bv)])
  (λk a h'=>Ext h3.next h3 h'∧PL h' h3.next a ((B.take k).map (rS nn E))) .nils (λ_ _=>rfl) om (Hi0)
  ⟨Mu,[],.inl ⟨rfl,rfl⟩,rfl,λi x p e=>by simp at e⟩ ?_ ?_
 ·rintro k a ts h4 hk ⟨jx,ja⟩ ⟨ei,en,e1,e2,e11,-⟩;simp only at ei en e1 e2 e11;have n4:=jx.nx;obtain⟨b1,p1,rv,a1,r1,i1,_⟩:=(hLL.ext jx (ab _)).at hk;refine ae (aj (M4 e11 ei a1 r1) ?_);obtain⟨k1,k2,k3⟩:=hBm _ (aP hk);have g4:h4.get h.next=some (.cells [.int .i64 (nn:Nat),ev] 2 false):=by rw[jx.gt _ om]; exact g3
  have rA4:ak h4 h.next 0 2=some [.int .i64 (nn:Nat),ev]:=by rw[aU g4]; rfl
  have X4:Ext h.next h h4:=X3.trans (jx.mono X3.nx);have hrv:SlI h4 rv (nI B[k]):=Mq om (λ_=>rfl) i1;have hrl:∀ b o m c,rv=.sl b o m c→b<h3.next:=by
   obtain⟨vs,z1,z2,z3⟩:=hLL;intro b o m c e;obtain⟨b1',p1',rv',a1',r1',i1',_⟩:=LL.at ⟨vs,z1,z2,z3⟩ hk;have:ak h4 b1' p1' 1=some [rv']:=by
    have hlt:b1'<h3.next:=by assumption
    rw[bK (jx.gt _ hlt)]; exact r1'
   rw[a1'] at a1;cases a1;rw[r1] at this;cases this;exact i1'.lt e
  have hP:=GX (n:=((nn:Nat):Int)) (es:=nI B[k]) (he.ext X4 (ab _)) hrv hm (λi hi=>by
   unfold nI at hi;obtain⟨j,hj,rfl⟩:=bB.1 hi;have:=k2 j hj;omega) (λe=>k1 (by unfold nI at e; exact oK.1 e)) (by rw[fE]; omega)
  refine bN (bo 3 (M2 e1 rA4) rfl (Z2 e1 rA4) (M2 e1 rA4) (hP) λr h5 hq=>?_);simp only[aY] at hq;obtain⟨x5,edv,nmv,rfl,i5,s5,f5⟩:=hq;have n5:=x5.nx;obtain⟨rc,ro⟩:=i1.cells;obtain⟨dc,do_⟩:=i5.cells;obtain⟨mc,mo⟩:=s5.cells;have x6:Ext h5.next h5 (h5.new (.cells [.int .i64 ((vsM nn E (nI B[k])).length:Nat),edv,nmv,rv] 4 false)):=Mt (ab _);have g6:(h5.new (.cells [.int .i64 ((vsM nn E (nI B[k])).length:Nat),edv,nmv,rv] 4 false)).get h5.next=some (.cells [.int .i64 ((vsM nn E (nI B[k])).length:Nat),edv,nmv,rv] 4 false):=by rw[AH.get_new,if_pos rfl]
  have n6:(h5.new (.cells [.int .i64 ((vsM nn E (nI B[k])).length:Nat),edv,nmv,rv] 4 false)).next=h5.next+1:=rfl;have hpc:PartC (h5.new (.cells [.int .i64 ((vsM nn E (nI B[k])).length:Nat),edv,nmv,rv] 4 false)) a (.int .i64 ((vsM nn E (nI B[k])).length:Nat),edv,nmv,rv) (rS nn E B[k]):=by
   refine⟨rfl,(Mq (f:=eE) om (λ_=>rfl) i5).ext x6 (ab _),s5.ext x6 (ab _),(hrv.ext x5 (ab _)).ext x6 (ab _),λb o m c o' m' c' e1 e2=>?_,λb o m c o' m' c' e1 e2=>?_,λb o m c o' m' c' e1 e2=>?_⟩
   ·have h1:=ja.lt e2;rcases i5 with ⟨rfl,_⟩|⟨b',m',hb',rfl,_⟩
    ·cases e1
    ·cases e1; omega
   ·have h1:=ja.lt e2;have h2:=f5 _ _ _ _ e1;omega
   ·have h1:=hrl _ _ _ _ e1;obtain⟨xs,z1,_⟩:=ja;rcases z1 with ⟨rfl,_⟩|⟨b',m',hb',rfl,_⟩
    ·cases e2
    ·cases e2; omega
  obtain⟨a',h7,a7,i7,x7,n7,_⟩:=((ja.ext x5 (ab _)).ext x6 (ab _)).push (q:=h5.next) om hpc g6 om (λb m e=>by have:=ja.lt e; omega) (by rw[ai,aS]; omega);refine bH (by simp only[am,aK,simprocAttr,e2,rc,ro,do_,mo,dc,mc,td,dP,a7]<;>rfl) ?_;refine⟨a',⟨jx.trans ((x5.mono n4).trans ((x6.mono om).trans x7)),?_⟩,H4 ei en e1 e11⟩;rw[aG hk,cj];exact i7
 ·rintro a ts h4 ⟨jx,ja⟩ ⟨e1,e2,e11,-⟩;simp only at e2;rw[bp] at ja;have ac:=ja.cells;refine ae (aj (M1 e2) ?_);refine br ⟨_,(by simp only[rs,rf19,am,aK,simprocAttr,ac.1]<;>rfl),X3.trans (jx.mono X3.nx),λq=>absurd hg q,λ_=>⟨a,rfl,λhE hL l hl=>?_⟩⟩;rw[← hBl l hl];exact ja.mono om
end Go.Proofs.YtahepnbflofndaaGreatDoor
