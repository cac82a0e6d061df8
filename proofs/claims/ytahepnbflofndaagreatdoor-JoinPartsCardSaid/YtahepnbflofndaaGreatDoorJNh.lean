/- join.part, called. -/
import Derived.Test.YtahepnbflofndaaGreatDoorJLk
import Derived.Test.YtahepnbflofndaaGreatDoorJLh
import Derived.Test.YtahepnbflofndaaGreatDoorJNd
import Derived.Test.YtahepnbflofndaaGreatDoorJNb
import Derived.Test.YtahepnbflofndaaGreatDoorJNf
import Derived.Test.YtahepnbflofndaaGreatDoorJLls
import Derived.Test.YtahepnbflofndaaGreatDoorJLe
set_option linter.all false
namespace Go.Proofs.YtahepnbflofndaaGreatDoor
open Go.Am
theorem pV {h:AH}{pb:Nat}{a0 a1 nv a3:AV}{xs:List Int}{x:Int} (hg:h.get pb=some (.cells [a0,a1,nv,a3] 4 false)) (hv:SlI h nv xs) (hs:xs.Pairwise (·≤·)) (hxl:xs.length<2 ^ 40) :
 C prg 101 [.ptr pb 0,.int .i64 x] h λr h'=>r=.tup [.int .i64 ((xs.countP (λu=>decide (u<x)):Nat):Int),.bool (decide (x∈xs))]∧h'=h:=by
 refine HH pf101 ?_
 refine ab (ah (Mi0) ?_)
 have r2:ar h pb 2 1=some [nv]:=bB hg rfl
 refine ab (aX (aP 5 (Mi1 r2) rfl (Zi1 r2) (Mi1 r2) (xM (t:=x) hv hs hxl) λr h2 hq=>?_))
 obtain⟨rfl,rfl⟩:=hq
 refine aW (M0) ?_
 exact bt ⟨_,(by simp only[rs,rf101,am,aD,simprocAttr]<;>rfl),rfl,rfl⟩
set_option maxHeartbeats 2000000 in
theorem CR {h:AH}{n:Int}{ev iv:AV}{E:List (Int×Int)}{es:List Int} (he:SlE h ev E) (hi:SlI h iv es) (hm:eV n E=true) (hes:∀ i∈es,0≤i∧i<(E.length:Nat)) (hne:es≠[]) (hil:es.length<2 ^ 30) :
 C prg 52 [.agg [.int .i64 n,ev],iv] h λr h'=>Ext h.next h h'∧∃ edv nmv,r=.agg [.int .i64 ((vsM n.toNat E es).length:Nat),edv,nmv,iv]∧IsSl h' 2 h.next edv ((oP n.toNat E es).flatMap eE)∧SlI h' nmv (vsM n.toNat E es)∧∀ b o m c,nmv=.sl b o m c→h.next≤b:=by
 have el:=he.len
 have il:=hi.len
 rw[au] at el il
 obtain⟨ec,eo⟩:=he.cells
 obtain⟨ic,io⟩:=hi.cells
 have hxl:E.length≤128:=by
  have:=hm
  unfold eV at this
  simp only[aq,aj] at this
  exact this.1.2
 refine HH pf52 ?_
 refine ab (ah (Mi0) ?_)
 have ga:∀ c,((h.new (.cells [.int .i64 n,ev] 2 false)).new (.cells [.int .i64 0,.nils,.nils,.nils] 4 false)).get c=if c=h.next+1 then some (.cells [.int .i64 0,.nils,.nils,.nils] 4 false) else if c=h.next then some (.cells [.int .i64 n,ev] 2 false) else h.get c:=λc=>by
  rw[AH.get_new,AH.get_new]
  rfl
 have x0:Ext h.next h ((h.new (.cells [.int .i64 n,ev] 2 false)).new (.cells [.int .i64 0,.nils,.nils,.nils] 4 false)):=(HD (ae _)).trans (HD (by simp))
 have n0:((h.new (.cells [.int .i64 n,ev] 2 false)).new (.cells [.int .i64 0,.nils,.nils,.nils] 4 false)).next=h.next+2:=rfl
 generalize ((h.new (.cells [.int .i64 n,ev] 2 false)).new (.cells [.int .i64 0,.nils,.nils,.nils] 4 false))=h1 at *
 have gA:h1.get h.next=some (.cells [.int .i64 n,ev] 2 false):=by rw[ga,if_neg om,if_pos rfl]
 have gB:h1.get (h.next+1)=some (.cells [.int .i64 0,.nils,.nils,.nils] 4 false):=by rw[ga,if_pos rfl]
 obtain⟨h2,w2,x2,g2,n2⟩:=ij (h:=h1) (z:=[.int .i64 0,.nils,.nils,.nils]) (cs:=[.int .i64 0,.nils,.nils,iv]) (e:=4) rfl
 rw[n0] at w2 x2 g2 n2
 refine ab (ah (by simp only[am,aD,simprocAttr,bL,n0,ic,io,w2,eD]<;>rfl) ?_)
 have X2:Ext h.next h h2:=x0.trans (x2.mono om)
 have gA2:h2.get h.next=some (.cells [.int .i64 n,ev] 2 false):=by rw[x2.gt _ om]; exact gA
 have gB2:h2.get (h.next+1)=some (.cells [.int .i64 0,.nils,.nils,.nils] 4 false):=by rw[x2.gt _ om]; exact gB
 have he2:=he.ext X2 (ae _)
 have hi2:=hi.ext X2 (ae _)
 clear w2 ga
 refine ab (ab (ah (by simp only[am,aD,simprocAttr,bL,il]<;>rfl) ?_))
 refine hU (α:=AV) (N:=es.length) (λ_ _=>[(1,iv),(2,.ptr h.next 0),(4,.ptr (h.next+1) 0),(5,.ptr (h.next+2) 0),(16,iv)])
  (λk a h'=>Ext (h.next+2) h2 h'∧h.next+3≤h'.next∧h'.get (h.next+2)=some (.cells [.int .i64 0,.nils,a,iv] 4 false)∧IsSl h' 1 (h.next+3) a ((fB E (es.take k)).flatMap eI)) .nils (λ_ _=>rfl) om (Hi1 n0)
  ⟨HE,om,g2,.inl ⟨rfl,by simp [fB]⟩⟩ ?_ ?_
 ·rintro k a ts h3 hk ⟨jx,jn,jg,ja⟩ ⟨e18,e17,e1,e2,e4,e5,e16,-⟩
  simp only at e18 e17 e1 e2 e4 e5 e16 jg
  have X3:Ext h.next h h3:=X2.trans (jx.mono om)
  have he3:=he.ext X3 (ae _)
  have hi3:=hi.ext X3 (ae _)
  obtain⟨b1,p1,a1,r1,_⟩:=hi3.at1 (cF (f:=eI) hk)
  refine ab (ah (M4 e18 e16 a1 r1) ?_)
  have hin:=hes _ (bq hk)
  obtain⟨m,hmk⟩:∃ m:Nat,es[k]=m:=⟨es[k].toNat,om⟩
  have hml:m<E.length:=om
  have hk5:∀ c,c<h3.next→(h3.keep 1).get c=h3.get c:=λc hc=>by rw[AH.keep_get,if_neg om]
  have q7:(h3.keep 1).get h3.next=some .resv:=fX
  have he5:SlE (h3.keep 1) ev E:=he3.cong λb o m c hb=>hk5 _ (he3.lt hb)
  obtain⟨eb1,ep,a7,_,r7,_⟩:=he5.at (cF (f:=eE) hml)
  have r70:=r7 0 (.int .i64 E[m].1) rfl
  have r71:=r7 1 (.int .i64 E[m].2) rfl
  have gA3:h3.get h.next=some (.cells [.int .i64 n,ev] 2 false):=by rw[jx.gt _ om]; exact gA2
  have re:ar (h3.keep 1) h.next 1 1=some [ev]:=by rw[cy (hk5 _ om)]; exact bB gA3 rfl
  have rn:ar (h3.keep 1) (h.next+2) 2 1=some [a]:=by rw[cy (hk5 _ om)]; exact bB jg rfl
  obtain⟨p1',p2,p3,p4⟩:=gO (h:=h3) (o:=.cells [.int .i64 E[m].1,.int .i64 E[m].2] 1 false)
  have hlenk:((fB E (es.take k)).flatMap eI).length=2*k:=by
   rw[dS (f:=eI) (e:=1) (λ_=>rfl),qq,aZ,cw om]; omega
  obtain⟨s',h6,a6,i6,x6,hs6,n6⟩:=appN (bytes:=8) (m:=2) (x:=h3.next) (ja.ext p1' (ae _)) (by rw[p3]; omega) om om p2 rfl rfl
   (by rw[hlenk,fi]; unfold bd; omega) (by rw[hlenk,fi]; unfold bd; omega)
  rw[dC] at r70
  have rp2:cm [AV.int .i64 0] 2=[.int .i64 0,.int .i64 0]:=rfl
  obtain⟨sc,so⟩:=i6.cells
  have g6:h6.get (h.next+2)=some (.cells [.int .i64 0,.nils,a,iv] 4 false):=by rw[x6.gt _ om,p4 _ om]; exact jg
  have w6:=dW (v:=s') g6 (i:=2) (by simp)
  change bV h6 (h.next+2) 2 [s']=some (h6.put (h.next+2) (.cells [.int .i64 0,.nils,s',iv] 4 false)) at w6
  have u6:=HF (o:=.cells [.int .i64 0,.nils,s',iv] 4 false) g6
  refine oa (by simp only[am,aD,simprocAttr,hmk,e2,e5,re,rn,a7,r70,r71,fc,eS q7,rp2,a6,sc,so,w6]<;>rfl) ?_
  refine⟨s',⟨jx.trans ((p1'.mono om).trans ((x6.mono om).trans (u6.ext (ae _)))),by rw[u6.nx,n6,p3]; omega,u6.get,?_⟩,H7 e18 e17 e1 e2 e4 e5 e16⟩
  rw[Ao hk,Dt hmk hml,bQ]
  exact i6.upd u6 om
 rintro a ts h3 ⟨jx,jn,jg,ja⟩ ⟨e1,e2,e4,e5,e16,-⟩
 simp only at e1 e2 e4 e5 e16 jg ja
 rw[bp] at ja
 have hnm:=Cn hm hes
 have hel:=qq E es
 have hes0:0<es.length:=List.length_pos_iff.2 hne
 generalize fB E es=xs at *
 rcases ja with ⟨rfl,hz⟩|⟨b,m,hbn,rfl,hg,hln⟩
 ·have:xs.length=0:=by
   have:=congrArg List.length hz
   rw[dS (f:=eI) (e:=1) (λ_=>rfl)] at this
   simpa using this
  omega
 have hmn:m=xs.length:=by rw[dS (f:=eI) (e:=1) (λ_=>rfl)] at hln; omega
 subst hmn
 have e1':xs.flatMap eI=gc xs.toArray:=jU xs
 have hg':h3.get b=some (cT (xs.flatMap eI) 0 xs.toArray):=by
  rw[hg]
  unfold cT
  rw[e1']
  congr 2
  exact (jt (by simp) (by rw[cM,bp])).symm
 have hb3:=AH.lt_of_get hg
 have hsrt:=yf (c:=xs.length) hg' (by rw[cx,hln]; omega) (by rw[cx]; omega)
 rw[cx] at hsrt
 have rp3:ar h3 (h.next+2) 2 1=some [.sl b 0 xs.length xs.length]:=bB jg rfl
 refine ab (aX (aP 2 (M2 e5 rp3) rfl (Z2 e5 rp3) (M2 e5 rp3) (hsrt) λv h4 hq=>?_))
 refine aW (M0) ?_
 have jn4:=hq.nx
 have hg4:=hq.get
 rw[show (xs.toArray.toList.mergeSort λx y=>decide (x≤y))=kW xs from rfl] at hg4
 have hcp:=xx (c:=xs.length) hg4 (by rw[cx,iL,hln]; omega) (by rw[cx,iL]; omega) (by rw[cx,iL]; omega)
 rw[cx,iL] at hcp
 have jg4:h4.get (h.next+2)=some (.cells [.int .i64 0,.nils,.sl b 0 xs.length xs.length,iv] 4 false):=by rw[hq.gt _ om om]; exact jg
 have rp4:ar h4 (h.next+2) 2 1=some [.sl b 0 xs.length xs.length]:=bB jg4 rfl
 refine ab (aX (aP 2 (M2 e5 rp4) rfl (Z2 e5 rp4) (M2 e5 rp4) (hcp) λv h5 hq5=>?_))
 obtain⟨d',m,rfl,hm1,hm2,u5,hd⟩:=hq5
 rw[iu] at hd
 rw[hnm] at hd
 have jg5:h5.get (h.next+2)=some (.cells [.int .i64 0,.nils,.sl b 0 xs.length xs.length,iv] 4 false):=by rw[u5.ne om]; exact jg4
 have w5:=dW (v:=.sl b 0 m xs.length) jg5 (i:=2) (by simp)
 change bV h5 (h.next+2) 2 [.sl b 0 m xs.length]=some (h5.put (h.next+2) (.cells [.int .i64 0,.nils,.sl b 0 m xs.length,iv] 4 false)) at w5
 have u6:=HF (o:=.cells [.int .i64 0,.nils,.sl b 0 m xs.length,iv] 4 false) jg5
 refine aW (M2 e5 w5) ?_
 generalize h5.put (h.next+2) (.cells [.int .i64 0,.nils,.sl b 0 m xs.length,iv] 4 false)=h6 at *
 have n5:=u5.nx
 have n6:=u6.nx
 have hvl:(vsM n.toNat E es).length=m:=by rw[← hd,aZ,bD,hm2]; omega
 have gb6:h6.get b=h5.get b:=u6.ne om
 have sV:SlI h6 (.sl b 0 m xs.length) (vsM n.toNat E es):=by
  rw[← hd]
  exact Gg (by rw[gb6]; exact u5.get) (by rw[hm2,hln]; omega) om om
 have lV:=sV.len
 rw[au] at lV
 have rp6:ar h6 (h.next+2) 2 1=some [.sl b 0 m xs.length]:=bB u6.get rfl
 have w7:=dW (v:=.int .i64 ((vsM n.toNat E es).length:Nat)) u6.get (i:=0) (by simp)
 change bV h6 (h.next+2) 0 [.int .i64 ((vsM n.toNat E es).length:Nat)]=some (h6.put (h.next+2) (.cells [.int .i64 ((vsM n.toNat E es).length:Nat),.nils,.sl b 0 m xs.length,iv] 4 false)) at w7
 have u7:=HF (o:=.cells [.int .i64 ((vsM n.toNat E es).length:Nat),.nils,.sl b 0 m xs.length,iv] 4 false) u6.get
 refine ab (ah (M4 e5 rp6 lV w7) ?_)
 generalize h6.put (h.next+2) (.cells [.int .i64 ((vsM n.toNat E es).length:Nat),.nils,.sl b 0 m xs.length,iv] 4 false)=h7 at *
 have n7:=u7.nx
 have sV7:SlI h7 (.sl b 0 m xs.length) (vsM n.toNat E es):=sV.cong λb' o' l' c' e=>by cases e; exact u7.ne om
 have hb7:=sV7.lt rfl
 have K7:Ext (h.next+2) h2 h7:=jx.trans ((Ext.mono (hq.mono (m:=b) om |>.toExt (ae _)) om).trans ((u5.ext om).trans ((u6.ext (ae _)).trans (u7.ext (ae _)))))
 have hvs:=(qT n.toNat E es).imp (fun {a b} (q:a<b)=>Int.le_of_lt q)
 have hvlen:(vsM n.toNat E es).length≤2 ^ 34:=by rw[hvl]; omega
 clear jg4 jg5 w5 w7 rp3 rp4 rp6 u5 u6 gb6 sV hg hg' hg4 hq jg
 have g7:=u7.get
 have n71:h.next+3≤h7.next:=om
 clear u7
 refine ab ?_
 refine ab (ah (by simp only[am,aD,simprocAttr,e1,il]<;>rfl) ?_)
 refine hU (α:=AV) (N:=es.length) (λ_ _=>[(2,.ptr h.next 0),(4,.ptr (h.next+1) 0),(5,.ptr (h.next+2) 0),(52,iv)])
  (λk a h'=>Ext (h.next+2) h2 h'∧h7.next≤h'.next∧(∀ c,c<h7.next→c≠h.next+2→h'.get c=h7.get c)∧h'.get (h.next+2)=some (.cells [.int .i64 ((vsM n.toNat E es).length:Nat),a,.sl b 0 m xs.length,iv] 4 false)∧IsSl h' 2 h7.next a (((es.take k).map λi=>(((dE n.toNat E es (edM E i).1:Nat):Int),((dE n.toNat E es (edM E i).2:Nat):Int))).flatMap eE)) .nils (λ_ _=>rfl) om (H3 e2 e4 e5)
  ⟨K7,ae _,λ_ _ _=>rfl,g7,.inl ⟨rfl,by simp⟩⟩ ?_ ?_
 ·clear e1 e2 e4 e5 e16
  rintro k a ts h8 hk ⟨kx,kn,kk,kg,ka⟩ ⟨e54,e53,e2,e4,e5,e52,-⟩
  simp only at e54 e53 e2 e4 e5 e52 kg ka
  have X8:Ext h.next h h8:=X2.trans (kx.mono om)
  have he8:=he.ext X8 (ae _)
  have hi8:=hi.ext X8 (ae _)
  have sV8:SlI h8 (.sl b 0 m xs.length) (vsM n.toNat E es):=sV7.cong λb' o' l' c' e=>by
   cases e
   exact kk _ hb7 om
  have gA8:h8.get h.next=some (.cells [.int .i64 n,ev] 2 false):=by rw[kx.gt _ om]; exact gA2
  have rA8:ar h8 h.next 1 1=some [ev]:=bB gA8 rfl
  obtain⟨b1,p1,a1,r1,_⟩:=hi8.at1 (cF (f:=eI) hk)
  have hin:=hes _ (bq hk)
  obtain⟨z,hz⟩:∃ z:Nat,es[k]=z:=⟨es[k].toNat,om⟩
  have hzl:z<E.length:=om
  rw[hz] at r1
  obtain⟨eb1,ep,a7,_,r7,_⟩:=he8.at (cF (f:=eE) hzl)
  have r70:=r7 0 (.int .i64 E[z].1) rfl
  have r71:=r7 1 (.int .i64 E[z].2) rfl
  rw[dC] at r70
  refine ab (ah (M4 e52 e54 a1 r1) ?_)
  refine ab (aX (aP 6 (M5 e2 e5 rA8 a7 r70) rfl (Z5 e2 e5 rA8 a7 r70) (M5 e2 e5 rA8 a7 r70) (pV (x:=E[z].1) kg sV8 hvs om) λr h9 hq8=>?_))
  obtain⟨rfl,rfl⟩:=hq8
  refine aW (M0) ?_
  refine ab (aX (aP 6 (M5 e2 e5 rA8 a7 r71) rfl (Z5 e2 e5 rA8 a7 r71) (M5 e2 e5 rA8 a7 r71) (pV (x:=E[z].2) kg sV8 hvs om) λr h10 hq9=>?_))
  obtain⟨rfl,rfl⟩:=hq9
  refine aW (M0) ?_
  have ed:edM E es[k]=E[z]:=Dt hz hzl
  have hst:=uk (n:=n.toNat) (E:=E) (F:=es) hk
  rw[ed] at hst
  have r9:ar h10 (h.next+2) 1 1=some [a]:=bB kg rfl
  have hlenk:(((es.take k).map λi=>(((dE n.toNat E es (edM E i).1:Nat):Int),((dE n.toNat E es (edM E i).2:Nat):Int))).flatMap eE).length=k*2:=by
   rw[dS (f:=eE) (e:=2) (λ_=>rfl),au,aZ,cw om]
  obtain⟨s',h11,a11,i11,x11,n11⟩:=ka.push (bytes:=16) [.int .i64 ((dE n.toNat E es E[z].1:Nat):Int),.int .i64 ((dE n.toNat E es E[z].2:Nat):Int)] om om rfl rfl
   (by rw[hlenk,fp _ om]; unfold bd; omega) (by rw[hlenk,fp _ om]; unfold bd; omega)
  have g11:h11.get (h.next+2)=some (.cells [.int .i64 ((vsM n.toNat E es).length:Nat),a,.sl b 0 m xs.length,iv] 4 false):=by rw[x11.gt _ om]; exact kg
  obtain⟨sc,so⟩:=i11.cells
  have w11:=dW (v:=s') g11 (i:=1) (by simp)
  change bV h11 (h.next+2) 1 [s']=some (h11.put (h.next+2) (.cells [.int .i64 ((vsM n.toNat E es).length:Nat),s',.sl b 0 m xs.length,iv] 4 false)) at w11
  have u11:=HF (o:=.cells [.int .i64 ((vsM n.toNat E es).length:Nat),s',.sl b 0 m xs.length,iv] 4 false) g11
  change gz (h10.new (.cells [.int .i64 (((vsM n.toNat E es).countP λu=>decide (u<E[z].1):Nat):Int),.int .i64 (((vsM n.toNat E es).countP λu=>decide (u<E[z].2):Nat):Int)] 2 false)) 2 16 a (.sl h10.next 0 1 1)=some (s',h11) at a11
  refine ah (by simp only[am,aD,simprocAttr,e5,r9,a11,w11,sc,so]<;>rfl) ?_
  refine⟨s',⟨kx.trans ((x11.mono om).trans (u11.ext (ae _))),by rw[u11.nx]; omega,λc hc hne=>by rw[u11.ne hne,x11.gt _ om]; exact kk c hc hne,u11.get,?_⟩,H6 e54 e53 e2 e4 e5 e52⟩
  rw[hst,bQ]
  exact i11.cong λb n _ hb=>u11.ne om
 ·clear e1 e2 e4 e5 e16
  rintro a ts h8 ⟨kx,kn,kk,kg,ka⟩ ⟨e2,e4,e5,e52,-⟩
  simp only at e2 e4 e5 kg ka
  rw[bp] at ka
  obtain⟨ac,ao⟩:=ka.cells
  have gB8:h8.get (h.next+1)=some (.cells [.int .i64 0,.nils,.nils,.nils] 4 false):=by rw[kx.gt _ om]; exact gB2
  have rg:ar h8 (h.next+2) 0 4=some [.int .i64 ((vsM n.toNat E es).length:Nat),a,.sl b 0 m xs.length,iv]:=by rw[aS kg]; rfl
  have u9:=HF (o:=.cells [.int .i64 ((vsM n.toNat E es).length:Nat),a,.sl b 0 m xs.length,iv] 4 false) gB8
  have w9:bV h8 (h.next+1) 0 [.int .i64 ((vsM n.toNat E es).length:Nat),a,.sl b 0 m xs.length,iv]=some (h8.put (h.next+1) (.cells [.int .i64 ((vsM n.toNat E es).length:Nat),a,.sl b 0 m xs.length,iv] 4 false)):=by rw[dI gB8]; rfl
  refine ab (ah (M6 e4 e5 rg ao io w9) ?_)
  have rB:ar (h8.put (h.next+1) (.cells [.int .i64 ((vsM n.toNat E es).length:Nat),a,.sl b 0 m xs.length,iv] 4 false)) (h.next+1) 0 4=some [.int .i64 ((vsM n.toNat E es).length:Nat),a,.sl b 0 m xs.length,iv]:=by rw[aS u9.get]; rfl
  refine bt ⟨_,(by simp only[rs,rf52,am,aD,simprocAttr,e4,rB]<;>rfl),X2.trans ((kx.mono om).trans (u9.ext om)),a,_,rfl,?_,?_,λb o m c e=>by cases e; omega⟩
  ·exact (ka.cong λb n _ hb=>u9.ne om).mono om
  ·exact sV7.cong λb' o' l' c' e=>by
    cases e
    rw[u9.ne om,kk _ hb7 om]
open Go.Am
open Go.Blk (Gr DS Lst canon Btw visit pot unm from1)
open Go.Sort (PermIn SortedIn)
theorem xP {h:AH}{x:Int×Int}:C prg 94 [.agg (eE x)] h λr h'=>r=.bool (decide (x.1=x.2))∧Ext h.next h h':=by
 refine HH pf94 ?_
 refine ab (ah (by simp only[am,aD,simprocAttr,bL,eE]<;>rfl) ?_)
 have ex:Ext h.next h (h.new (.cells [.int .i64 x.1,.int .i64 x.2] 2 false)):=HD (ae _)
 have g:(h.new (.cells [.int .i64 x.1,.int .i64 x.2] 2 false)).get h.next=some (.cells [.int .i64 x.1,.int .i64 x.2] 2 false):=by rw[AH.get_new,if_pos rfl]
 generalize h.new (.cells [.int .i64 x.1,.int .i64 x.2] 2 false)=h1 at *
 have r1:ar h1 h.next 0 1=some [.int .i64 x.1]:=by rw[aS g]; rfl
 have r2:ar h1 h.next 1 1=some [.int .i64 x.2]:=by rw[aS g]; rfl
 refine ab (ah (M2 r1 r2) ?_)
 exact bt ⟨_,(by simp only[rs,rf94,am,aD,simprocAttr]<;>rfl),rfl,ex⟩
theorem xO {h:AH}{v w:AV}{a b:Nat}{xs ys:List Nat} (hv:SlI h v (nI (a::xs))) (hw:SlI h w (nI (b::ys))) (ha:a<2 ^ 40) (hb:b<2 ^ 40):C prg 98 [v,w] h λr h'=>r=.int .i64 (((a:Nat):Int)-((b:Nat):Int))∧h'=h:=by
 refine HH pf98 ?_
 obtain⟨b1,p1,a1,r1,_⟩:=hv.at1 (i:=0) (y:=.int .i64 (a:Nat)) rfl
 obtain⟨b2,p2,a2,r2,_⟩:=hw.at1 (i:=0) (y:=.int .i64 (b:Nat)) rfl
 change jf 1 v (.int .i64 0)=_ at a1
 change jf 1 w (.int .i64 0)=_ at a2
 have w1:IntKind.i64.wrap (((a:Nat):Int)-((b:Nat):Int))=((a:Nat):Int)-((b:Nat):Int):=bE om om
 refine ab (ah (Mi0) ?_)
 refine ab (ah (Mi5 a1 r1 a2 r2 w1) ?_)
 exact bt ⟨_,(by simp only[rs,rf98,am,aD,simprocAttr]<;>rfl),rfl,rfl⟩
theorem DM {h:AH}{w v:AV}:C prg 178 [w,.int .i64 0,.int .i64 0,v] h λ_ h'=>h'=h:=by
 refine HH pf178 ?_
 have w1:IntKind.i64.wrap 1=1:=by decide
 refine ab (fJ (λts h1=>h1=h∧aB ts 2=.int .i64 0∧aB ts 8=.int .i64 1) (by simp only[am,aD,simprocAttr,bL,Int.zero_add,w1]) ?_)
 rintro ts h0 ⟨rfl,e2,e8⟩
 refine aU (cf (λn ts h1=>h1=h0∧aB ts 2=.int .i64 0∧aB ts 8=.int .i64 1) ?_ (n:=0) ⟨rfl,e2,e8⟩)
 clear e2 e8
 rintro n ts h1 ⟨rfl,e2,e6⟩
 refine ab (ab (ah (M2 e2 e6) ?_))
 refine cU (by simp only[am,aD,simprocAttr]; rfl) ?_
 exact bM ⟨λ_=>⟨.tup [],rfl,rfl⟩,λe=>absurd rfl e⟩
theorem DD {h:AH}{l:Int}{w v:AV}:C prg 144 [w,.int .i64 0,.int .i64 0,.int .i64 l,v] h λ_ h'=>h'=h:=by
 refine HH pf144 ?_
 refine ab (ah (Mi0) ?_)
 refine ab (ah (Mi0) ?_)
 refine aU (cf (λn ts h1=>h1=h∧aB ts 0=w∧aB ts 1=.int .i64 0∧aB ts 2=.int .i64 0∧aB ts 4=v) ?_ (n:=0) ⟨rfl,Zi0,Zi0,Zi0,Zi0⟩)
 rintro n ts h1 ⟨rfl,e0,e1,e2,e4⟩
 refine aU (ab (ah (by simp only[am,aD,simprocAttr,e1,e2,bE (z:=0-0) (by decide) (by decide)]<;>rfl) ?_))
 refine ab (ab (ah (M0) ?_))
 refine dv (by simp only[am,aD,simprocAttr]; rfl) ?_
 refine ab (aX (aP 4 (M4 e0 e1 e2 e4) rfl (Z4 e0 e1 e2 e4) (M4 e0 e1 e2 e4) (DM) λv h2 u=>?_))
 subst u
 refine aW (M0) ?_
 exact bt ⟨.tup [],rfl,rfl⟩
theorem Aw {h:AH}{w v:AV} (hw:lC w=some (.int .i64 0)):C prg 97 [w,v] h λ_ h'=>h'=h:=by
 refine HH pf97 ?_
 refine ab (ah (Mi1 hw) ?_)
 have wu:IntKind.u64.wrap 0=0:=by decide
 refine aX (aP 4 (Mi1 wu) rfl (Zi1 wu) (Mi1 wu) (nY) λv h1 hq=>?_)
 obtain⟨rfl,rfl⟩:=hq
 refine aP 1 (Mi0) rfl (Zi0) (Mi0) (DD) λv h2 hq=>?_
 subst hq
 refine aW (M0) ?_
 exact⟨.tup [],rfl,rfl⟩
theorem nC_nL (l:List Nat):nC l=nL l:=Co l
def fN {α:Type} (d:α) (l:List α) (x:Int):α:=if x.toNat<l.length then l.getD x.toNat d else l.getD 0 d
theorem uQ {α:Type}{d:α}{l:List α}{x:Int} (h:0<l.length):∃ (j:Nat) (hj:j<l.length),fN d l x=l[j]∧∀ {β:Type} (d':β) (m:List β),m.length=l.length→fN d' m x=m.getD j d':=by
 unfold fN
 by_cases q:x.toNat<l.length
 ·refine⟨x.toNat,q,?_,λd' m hm=>by rw[if_pos om]⟩
  rw[if_pos q,aL,aw q]
  rfl
 ·refine⟨0,h,?_,λd' m hm=>by rw[if_neg om]⟩
  rw[if_neg q,aL,aw h]
  rfl
theorem pF {α:Type}{d:α} (l:List α):((List.range l.length).map λi=>fN d l ((i:Nat):Int))=l:=by
 refine dD λj=>?_
 rw[be]
 by_cases hj:j<l.length
 ·rw[cS hj,aw hj]
  simp only[aH,fN,bK]
  rw[if_pos hj,aL,aw hj]
  rfl
 ·rw[bI (by rw[cB]; omega),bI om]
  rfl
set_option maxHeartbeats 2000000 in
theorem AM {h:AH}{n:Nat}{ev:AV}{E:List (Int×Int)} (he:SlE h ev E) (hm:eV (n:Nat) E=true) (hE:InG n E) (hL:∀ i,i<E.length→tlE E i≠hdE E i) :
 C prg 51 [.agg (gW n ev)] h λr h'=>(∀ l,Lst (grE n E hE hL) l→LL h' h.next r (canon E.length l))∧Ext h.next h h':=by
 obtain⟨ec,eo⟩:=he.cells
 obtain⟨m1,m2,m3,m4⟩:=kz hm
 have hBg:∀ {h':AH},SlE h' ev E→_:=fun {h'} q=>AQ (n:=n) q hE hL om om
 have hMy:∀ {h':AH},SlE h' ev E→_:=fun {h'} q=>tw (n:=((n:Nat):Int)) q om
 unfold gW at hBg ⊢
 refine HH pf51 ?_
 refine ab (ah (Mi0) ?_)
 have x0:Ext h.next h (h.new (.cells [.int .i64 (n:Nat),ev] 2 false)):=HD (ae _)
 have g0:(h.new (.cells [.int .i64 (n:Nat),ev] 2 false)).get h.next=some (.cells [.int .i64 (n:Nat),ev] 2 false):=by rw[AH.get_new,if_pos rfl]
 have n0:(h.new (.cells [.int .i64 (n:Nat),ev] 2 false)).next=h.next+1:=rfl
 generalize (h.new (.cells [.int .i64 (n:Nat),ev] 2 false))=h1 at *
 have rA:ar h1 h.next 0 2=some [.int .i64 (n:Nat),ev]:=by rw[aS g0]; rfl
 refine ab (ab (aX (aP 1 (Mi1 rA) rfl (Zi1 rA) (Mi1 rA) (hMy (he.ext x0 (ae _))) λr h2 hq=>?_)))
 obtain⟨rfl,x2⟩:=hq
 rw[hm]
 have X2:Ext h.next h h2:=x0.trans (x2.mono om)
 have n2:=x2.nx
 have g2:h2.get h.next=some (.cells [.int .i64 (n:Nat),ev] 2 false):=by rw[x2.gt _ om]; exact g0
 have rE2:ar h2 h.next 1 1=some [ev]:=bB g2 rfl
 refine aP 4 (Mi2 rE2 @jj) rfl (Zi2 rE2 @jj) (Mi2 rE2 @jj) (sF (P:=λx=>decide (x.1=x.2)) (caps:=[]) (he.ext X2 (ae _)) om (λx _ h' _=>by rw[bU]; exact xP)) λr h3 hq=>?_
 obtain⟨rfl,x3⟩:=hq
 have hany:(E.any λx=>decide (x.1=x.2))=false:=by
  rw[AX]
  intro x hx
  obtain⟨i,hi,rfl⟩:=List.getElem_of_mem hx
  have:=hL i hi
  obtain⟨q1,q2,q3⟩:=hE i hi
  rw[q1]
  simp only[aj]
  omega
 rw[hany]
 refine aW (M0) ?_
 refine cU (Z0) (aN ?_)
 have X3:Ext h.next h h3:=X2.trans (x3.mono X2.nx)
 have n3:=x3.nx
 have g3:h3.get h.next=some (.cells [.int .i64 (n:Nat),ev] 2 false):=by rw[x3.gt _ om]; exact g2
 have rA3:ar h3 h.next 0 2=some [.int .i64 (n:Nat),ev]:=by rw[aS g3]; rfl
 refine ab (aX (aP 1 (Mi1 rA3) rfl (Zi1 rA3) (Mi1 rA3) (hBg (he.ext X3 (ae _))) λr h4 hq=>?_))
 obtain⟨sp,eb,nb,lb,rfl,x4,⟨lsp,lnb,llb⟩,t,r4⟩:=hq
 refine aW (M0) ?_
 have X4:Ext h.next h h4:=X3.trans (x4.mono X3.nx)
 have n4:=x4.nx
 have g4:h4.get h.next=some (.cells [.int .i64 (n:Nat),ev] 2 false):=by rw[x4.gt _ om]; exact g3
 have rN4:ar h4 h.next 0 1=some [.int .i64 (n:Nat)]:=bB g4 rfl
 refine ab (ab (ah (Mi1 rN4) ?_))
 have hends:=vK hE hL
 have hall:=Go.Blk.btw_all hends iT
 have hps:pot (grE n E hE hL) (cQ E) Go.Blk.start≤2 ^ 30:=by
  have h1:=Go.Blk.pot_start (g:=grE n E hE hL) (ends:=cQ E) (m:=E.length) λx _=>by
   unfold cQ
   have:=da (λi=>decide (tlE E i=x)||decide (hdE E i=x)) (List.range E.length)
   rwa [cB] at this
  have h2:(grE n E hE hL).n*(1+2*E.length)≤64*(1+2*128):=Nat.mul_le_mul m2 om
  omega
 refine hU (α:=Unit) (N:=n) (λ_ _=>[(1,.ptr h.next 0),(3,.ptr sp 0)])
  (λk _ h'=>∃ stv blv bs,Ser h4 h' sp eb nb lb n ev ((List.range k).foldl (from1 (grE n E hE hL) (cQ E) cX n) Go.Blk.start) stv blv bs) () (λ_ _=>rfl) om (Hi0) ⟨_,_,_,r4⟩ ?_ ?_
 ·rintro k _ ts h5 hk ⟨stv,blv,bs,R⟩ ⟨ei,en,e1,e3,-⟩
  simp only at ei en e1 e3
  obtain⟨b1,b2,b3⟩:=hall k (by show k≤n; omega)
  have hsucc:(List.range (k+1)).foldl (from1 (grE n E hE hL) (cQ E) cX n) Go.Blk.start=from1 (grE n E hE hL) (cQ E) cX n ((List.range k).foldl (from1 (grE n E hE hL) (cQ E) cX n) Go.Blk.start) k:=by
   rw[cJ,eO]
   rfl
  rw[hsucc]
  change Btw (grE n E hE hL) ((List.range k).foldl (from1 (grE n E hE hL) (cQ E) cX n) Go.Blk.start) at b1
  change unm (grE n E hE hL) ((List.range k).foldl (from1 (grE n E hE hL) (cQ E) cX n) Go.Blk.start)≤n at b2
  change pot (grE n E hE hL) (cQ E) ((List.range k).foldl (from1 (grE n E hE hL) (cQ E) cX n) Go.Blk.start)≤_ at b3
  clear hsucc
  generalize (List.range k).foldl (from1 (grE n E hE hL) (cQ E) cX n) Go.Blk.start=s at *
  have rn:ar h5 sp 3 1=some [.sl nb 0 n n]:=bB R.cell rfl
  have rk:ar h5 nb k 1=some [.int .i64 (s.num k:Nat)]:=bB R.gn (je hk)
  have ik:bN ((k:Nat):Int) n=some k:=aO hk
  refine ab (ah (M1 ei) ?_)
  by_cases q:s.num k=0
  ·have c1:decide (((s.num k:Nat):Int)=0)=true:=aI om
   refine ab (ah (M6 e3 rn ik @ai rk c1) ?_)
   refine dv (Z0) ?_
   have hv:=AJ t hE hL om om n (b1.pre (show k<(grE n E hE hL).n from hk) q) b2 om R
   refine aX (aP 2 (by simp only[am,aD,simprocAttr,e3,byI]<;>rfl) rfl (by simp only[am,aD,simprocAttr,e3,byI]) (by simp only[am,aD,simprocAttr,e3,byI]<;>rfl) (hv) λv h6 hq=>?_)
   obtain⟨stv',blv',bs',R'⟩:=hq
   refine aW (M0) ?_
   refine⟨(),⟨stv',blv',bs',?_⟩,H4 ei en e1 e3⟩
   unfold from1
   rw[if_pos q]
   exact R'
  ·have c1:decide (((s.num k:Nat):Int)=0)=false:=aG om
   refine ab (ah (M6 e3 rn ik @ai rk c1) ?_)
   refine cU (Z0) (aN ?_)
   refine⟨(),⟨stv,blv,bs,?_⟩,H4 ei en e1 e3⟩
   unfold from1
   rw[if_neg q]
   exact R
 rintro _ ts h5 ⟨stv,blv,bs,R⟩ ⟨e1,e3,-⟩
 simp only at e3
 obtain⟨b1,b2,b3⟩:=hall n (ae n)
 change pot (grE n E hE hL) (cQ E) ((List.range n).foldl (from1 (grE n E hE hL) (cQ E) cX n) Go.Blk.start)≤_ at b3
 have hrun:(List.range n).foldl (from1 (grE n E hE hL) (cQ E) cX n) Go.Blk.start=Go.Blk.runB (grE n E hE hL) (cQ E) cX (grE n E hE hL).n:=rfl
 obtain⟨nd,hbk,part⟩:=Go.Blk.runB_ok hends iT (ae (grE n E hE hL).n)
 rw[← hrun] at nd hbk part
 have hcan:=λl (hl:Lst (grE n E hE hL) l) cs=>Go.Blk.run_canon hends iT Bg hl (cs:=cs)
 rw[← hrun] at hcan
 generalize (List.range n).foldl (from1 (grE n E hE hL) (cQ E) cX n) Go.Blk.start=s at *
 clear hrun
 have hnx:=R.kp.nx
 have hsp5:=AH.lt_of_get R.cell
 have X5:Ext h.next h h5:=X4.trans ⟨hnx,λc hc=>R.kp.gt c om (by rintro (e|e|e)<;>omega),λc hc=>R.kp.ty c om⟩
 have rb:ar h5 sp 7 1=some [blv]:=bB R.cell rfl
 have hblk:s.blk.length≤2 ^ 30:=by
  have h1:=bS b3 hps
  unfold pot at h1
  omega
 have hcells:=R.bl.cells
 have hlen:lC blv=some (.int .i64 (s.blk.length:Nat)):=by
  rw[← R.rl]
  rcases R.bl with ⟨hv,hbs⟩|⟨b,m,hb,hv,hg,hl⟩
  ·rw[hv,hbs]; rfl
  ·rw[hv,hl,ai]; rfl
 by_cases hz:s.blk.length=0
 ·have hblk0:s.blk=[]:=bG.1 hz
  rw[hz] at hlen
  refine ab (aX (aP 4 (M3 e3 rb @jj) rfl (Z3 e3 rb @jj) (M3 e3 rb @jj) (Aw hlen) λv h6 hq=>?_))
  subst hq
  refine aW (M0) ?_
  refine ab (ah (M2 e3 rb) ?_)
  refine bt ⟨blv,(by simp only[rs,rf51,am,aD,simprocAttr,hcells.1]<;>rfl),λl hl=>?_,X5⟩
  have e:=hcan l hl [] (by rw[hblk0]) List.Pairwise.nil
  change []=canon E.length l at e
  rw[← e]
  have hbs0:bs=[]:=bG.1 (by rw[R.rl]; exact hz)
  exact⟨bs,R.bl.mono om,by rw[hbs0]; rfl,λi v xs e=>by rw[hbs0] at e; simp at e⟩
 have hbl0:bs.length=s.blk.length:=R.rl
 rcases R.bl with ⟨hv,hbs⟩|⟨b,m,hb,hv,hg,hl⟩
 ·rw[hbs] at hbl0
  exact absurd hbl0.symm hz
 have hm0:m=s.blk.length:=by rw[← R.rl,hl,ai]
 subst hm0
 have hb5:=AH.lt_of_get hg
 have hpos:0<s.blk.length:=Nat.pos_of_ne_zero hz
 have hne:∀ r∈s.blk,∃ a xs,r=a::xs∧a<E.length:=λr hr=>by
  obtain⟨q1,_⟩:=hbk r hr
  cases r with
  | nil=>exact absurd rfl q1
  | cons a xs=>exact⟨a,xs,rfl,(part a).2 ⟨_,hr,aY ..⟩⟩
 have hcm:Cm (fN .nils bs) (λx=>(((fN [] s.blk x).headD 0:Nat):Int)) 98 [] b h5:=by
  have key:∀ x,∃ (j:Nat) (v:AV) (a:Nat) (xs:List Nat),fN .nils bs x=v∧bs[j]?=some v∧s.blk[j]?=some (a::xs)∧fN [] s.blk x=a::xs∧a<E.length:=λx=>by
   obtain⟨j,hj,e1,e2⟩:=uQ (d:=([]:List Nat)) (x:=x) hpos
   obtain⟨a,xs,e3,e4⟩:=hne _ (bq hj)
   refine⟨j,bs[j]'om,a,xs,?_,aw _,by rw[aw hj,e3],by rw[e1,e3],e4⟩
   rw[e2 .nils bs hbl0,aL,aw om]
   rfl
  refine⟨λx=>?_,λx=>?_,λh' nx gt x y=>?_⟩
  ·obtain⟨j,v,a,xs,k1,k2,k3,k4,k5⟩:=key x
   rw[k1]; exact (R.rw j v _ k2 k3).1.cells.1
  ·obtain⟨j,v,a,xs,k1,k2,k3,k4,k5⟩:=key x
   rw[k1]; exact (R.rw j v _ k2 k3).1.cells.2
  ·obtain⟨j,v,a,xs,k1,k2,k3,k4,k5⟩:=key x
   obtain⟨j',w,a',ys,p1,p2,p3,p4,p5⟩:=key y
   have row:∀ {j v l},bs[j]?=some v→s.blk[j]?=some l→SlI h' v (nI l):=fun {j v l} q1 q2=>by
    obtain⟨z1,_,z3⟩:=R.rw j v l q1 q2
    have z2:IsSl h' 1 h4.next v (nL l):=z1.cong λb' m' e _=>gt b' (z1.lt e) λe2=>z3 b' 0 m' m' 0 s.blk.length s.blk.length e (by rw[hv,e2])
    rw[← Co] at z2
    exact HB om (λ_=>rfl) z2
   rw[k1,p1,bU]
   show C prg _ _ _ λv h''=>v=.int .i64 ((((fN [] s.blk x).headD 0:Nat):Int)-(((fN [] s.blk y).headD 0:Nat):Int))∧h''=h'
   rw[k4,p4]
   exact xO (row k2 k3) (row p2 p3) (dt k5 (bS m3 (by decide))) (dt p5 (bS m3 (by decide)))
 have hsz:((List.range s.blk.length).map λi=>((i:Nat):Int)).toArray.size=s.blk.length:=by simp
 have hencs:lc (fN .nils bs) ((List.range s.blk.length).map λi=>((i:Nat):Int)).toArray=bs:=by
  unfold lc
  rw[iu,jM,← hbl0]
  exact pF bs
 have hg':h5.get b=some (dA (fN .nils bs) bs 0 ((List.range s.blk.length).map λi=>((i:Nat):Int)).toArray):=by
  rw[hg]
  unfold dA
  rw[hencs]
  congr 2
  exact (jt (by simp) (by rw[cM,bp])).symm
 have hsort:=DA (c:=s.blk.length) hcm hg' (by rw[hsz,hbl0]; omega) (by rw[hsz]; omega) (by rw[hsz]; exact hz)
 rw[hsz] at hsort
 rw[hv] at rb
 refine ab (aX (aP 4 (M3 e3 rb @jj) rfl (Z3 e3 rb @jj) (M3 e3 rb @jj) (hsort) λv h6 hq=>?_))
 obtain⟨d',hp,hs,hmd⟩:=hq
 refine aW (M0) ?_
 have hspb:sp≠b:=by have:=t.lt.1; omega
 have rb6:ar h6 sp 7 1=some [.sl b 0 s.blk.length s.blk.length]:=by rw[cy (hmd.gt sp hspb hsp5)]; exact rb
 refine ab (ah (M2 e3 rb6) ?_)
 have X6:Ext h.next h h6:=X5.trans (Ext.mono (hmd.mono (m:=b) om |>.toExt (ae _)) om)
 refine bt ⟨.sl b 0 s.blk.length s.blk.length,(by simp only[rs,rf51,am,aD,simprocAttr]<;>rfl),λl hl=>?_,X6⟩
 obtain⟨z1,_,z3⟩:=hp
 rw[hsz] at z1
 have e1:d'.extract 0 s.blk.length=d':=by rw[← z1]; exact Array.extract_size
 have e2:((List.range s.blk.length).map λi=>((i:Nat):Int)).toArray.extract 0 s.blk.length=((List.range s.blk.length).map λi=>((i:Nat):Int)).toArray:=by
  conv=>lhs; arg 3; rw[← hsz]
  exact Array.extract_size
 rw[e1,e2,iu] at z3
 have hperm:(d'.toList.map (fN [] s.blk)).Perm s.blk:=by
  have:=z3.map (fN ([]:List Nat) s.blk)
  rw[jM] at this
  exact this.trans (by rw[show (List.map (fN [] s.blk ∘ λi=>((i:Nat):Int)) (List.range s.blk.length))=s.blk from pF s.blk])
 have hord:(d'.toList.map (fN [] s.blk)).Pairwise λa b=>a.headD 0≤b.headD 0:=by
  rw[jL,ig]
  intro i j hi hj hij
  rw[bD] at hi hj
  have:=hs i j (dL _) hij om
  rw[getElem!_pos d' j hj,getElem!_pos d' i hi] at this
  simp only[ltK,aR] at this
  rw[Array.getElem_toList,Array.getElem_toList]
  omega
 have e:=hcan l hl _ hperm hord
 change _=canon E.length l at e
 rw[← e]
 have hg6:h6.get b=some (.cells (lc (fN .nils bs) d') 1 false):=by
  rw[hmd.get]
  unfold dA
  congr 2
  simp only[cW,gV,df,bO]
  rw[jm,z1,du om,bU]
 refine⟨lc (fN .nils bs) d',.inr ⟨b,s.blk.length,om,rfl,hg6,by rw[jm,z1,ai]⟩,by rw[jm,au,bD],λi v xs q1 q2=>?_⟩
 unfold lc at q1
 rw[be] at q1 q2
 obtain⟨x,k1,rfl⟩:=aA.1 q1
 rw[k1] at q2
 simp only[aH,aa] at q2
 subst q2
 obtain⟨j,hj,p1,p2⟩:=uQ (d:=([]:List Nat)) (x:=x) hpos
 have p3:bs[j]?=some (fN .nils bs x):=by
  rw[p2 .nils bs hbl0,aL,aw (show j<bs.length by omega)]
  rfl
 obtain⟨w1,_,w3⟩:=R.rw j _ _ p3 (aw hj)
 rw[p1,nC_nL]
 have hw:∀ b' n',fN .nils bs x=.sl b' 0 n' n'→b'≠b:=λb' n' e1 e2=>w3 b' 0 n' n' 0 s.blk.length s.blk.length e1 (by rw[hv,e2])
 refine⟨(w1.cong λb' m' e _=>hmd.gt b' (hw b' m' e) (w1.lt e)).mono om,λb1 k1 b2 k2 e1 e2=>?_⟩
 cases e2
 exact hw b1 k1 e1
open Go.Am
open Go.Blk (Gr Lst canon)
abbrev P3:=List Int×List (Int×Int)×List Int
def f4 (t:AV×AV×AV×AV):List AV:=[t.1,t.2.1,t.2.2.1,t.2.2.2]
def PartC (h:AH) (a:AV) (x:AV×AV×AV×AV) (p:P3):Prop :=
 x.1=.int .i64 (p.1.length:Nat)∧SlE h x.2.1 p.2.1∧SlI h x.2.2.1 p.1∧SlI h x.2.2.2 p.2.2∧Sep x.2.1 a∧Sep x.2.2.1 a∧Sep x.2.2.2 a
def PL (h:AH) (lo:Nat) (a:AV) (L:List P3):Prop :=
 ∃ xs:List (AV×AV×AV×AV),IsSl h 4 lo a (xs.flatMap f4)∧xs.length=L.length∧∀ (i:Nat) (x:AV×AV×AV×AV) (p:P3),xs[i]?=some x→L[i]?=some p→PartC h a x p
theorem PartC.cong {h h':AH}{a a':AV}{x:AV×AV×AV×AV}{p:P3} (hp:PartC h a x p) (hk:∀ c,c<h.next→(∀ o n k,a≠.sl c o n k)→h'.get c=h.get c) (ha:∀ w,(∀ b o n c,w=.sl b o n c→b<h.next)→Sep w a→Sep w a'):PartC h' a' x p:=by
 obtain⟨h1,h2,h3,h4,h5,h6,h7⟩:=hp
 exact⟨h1,h2.cong λb o n c e=>hk b (h2.lt e) λo' n' c' e2=>h5 b o n c o' n' c' e e2,h3.cong λb o n c e=>hk b (h3.lt e) λo' n' c' e2=>h6 b o n c o' n' c' e e2,h4.cong λb o n c e=>hk b (h4.lt e) λo' n' c' e2=>h7 b o n c o' n' c' e e2,
  ha _ (λ_ _ _ _ e=>h2.lt e) h5,ha _ (λ_ _ _ _ e=>h3.lt e) h6,ha _ (λ_ _ _ _ e=>h4.lt e) h7⟩
theorem PL.ext {h h':AH}{lo hi:Nat}{a:AV}{L:List P3} (hl:PL h lo a L) (hx:Ext hi h h') (hn:h.next≤hi):PL h' lo a L:=by
 obtain⟨xs,h1,h2,h3⟩:=hl
 exact⟨xs,h1.ext hx hn,h2,λi x p q1 q2=>(h3 i x p q1 q2).cong (λc hc _=>hx.gt _ om) λ_ _ q=>q⟩
theorem PL.mono {h:AH}{lo lo':Nat}{a:AV}{L:List P3} (hl:PL h lo a L) (hn:lo'≤lo):PL h lo' a L:=by
 obtain⟨xs,h1,h2⟩:=hl
 exact⟨xs,h1.mono hn,h2⟩
theorem Hm (xs:List (AV×AV×AV×AV)):(xs.flatMap f4).length=xs.length*4:=dS (f:=f4) (e:=4) (λ_=>rfl) xs
theorem PL.len {h:AH}{lo:Nat}{a:AV}{L:List P3} (hl:PL h lo a L):lC a=some (.int .i64 (L.length:Nat)):=by
 obtain⟨xs,h1,h2,h3⟩:=hl
 have:=(HB (f:=f4) om (λ_=>rfl) h1).len
 rwa [au,h2] at this
theorem PL.cells {h:AH}{lo:Nat}{a:AV}{L:List P3} (hl:PL h lo a L):a.cells=[a]∧a.one=true:=by
 obtain⟨xs,h1,h2,h3⟩:=hl
 exact h1.cells
theorem PL.lt {h:AH}{lo:Nat}{a:AV}{L:List P3} (hl:PL h lo a L) {b o n c:Nat} (e:a=.sl b o n c):b<h.next:=by
 obtain⟨xs,h1,h2,h3⟩:=hl
 exact h1.lt e
theorem PL.at {h:AH}{lo:Nat}{a:AV}{L:List P3} (hl:PL h lo a L) {i:Nat} (hi:i<L.length):∃ b o x,jf 4 a (.int .i64 (i:Nat))=some (.ptr b o)∧ar h b o 4=some (f4 x)∧PartC h a x L[i]∧b<h.next∧∀ j y,(f4 x)[j]?=some y→ar h b (o+j) 1=some [y]:=by
 obtain⟨xs,h1,h2,h3⟩:=hl
 have hs:=HB (f:=f4) om (λ_=>rfl) h1
 obtain⟨b,o,q1,q2,q3,q4⟩:=hs.at (cF (f:=f4) (i:=i) om)
 exact⟨b,o,_,q1,q2,h3 i _ _ (aw om) (aw hi),q4,q3⟩
theorem PL.push {h:AH}{lo q:Nat}{a:AV}{L:List P3}{x:AV×AV×AV×AV}{p:P3} (hl:PL h lo a L) (hlo:lo≤h.next) (hp:PartC h a x p) (hx:h.get q=some (.cells (f4 x) 4 false)) (hxl:lo≤q) (hxa:∀ b n,a=.sl b 0 n n→b≠q) (hb:L.length<2 ^ 30) :
 ∃ a' h',gz h 4 80 a (.sl q 0 1 1)=some (a',h')∧PL h' lo a' (L++[p])∧Ext lo h h'∧h'.next=h.next+1∧(∀ b o n c,a'=.sl b o n c→b=h.next)∧∀ c,c<h.next→(∀ b n,a=.sl b 0 n n→c≠b)→h'.get c=h.get c:=by
 obtain⟨xs,h1,h2,h3⟩:=hl
 have ho:(f4 x).all AV.one=true:=by
  obtain⟨k1,k2,k3,k4,_⟩:=hp
  simp only[f4,iH,AY,k1,k2.cells.2,k3.cells.2,k4.cells.2,yq,Bool.and_self]
 have hd:(xs.flatMap f4).length / 4=L.length:=by rw[Hm,fp _ om,h2]
 obtain⟨a',h',q1,q2,q3,q4,q5,q6,q7⟩:=h1.app (bytes:=80) hlo om hx hxl hxa rfl ho (by rw[hd]; unfold bd; omega) (by rw[hd]; unfold bd; omega)
 have keep:∀ {x p},PartC h a x p→PartC h' a' x p:=fun {x p} hp=>hp.cong (λc hc hne=>q6 c hc λb n e e2=>hne 0 n n (by rw[e,e2])) λw hw _ b o n c o' n' c' e1 e2=>by
  have:=hw b o n c e1
  rw[q4] at e2
  cases e2
  omega
 refine⟨a',h',q1,⟨xs++[x],?_,by rw[aM,aM,h2]; rfl,λi y r e1 e2=>?_⟩,q3,q5,λb o n c e=>by rw[q4] at e; cases e; rfl,q6⟩
 ·rw[bQ]
  simpa using q2
 ·by_cases hi:i<xs.length
  ·rw[bC hi] at e1
   rw[bC om] at e2
   exact keep (h3 i y r e1 e2)
  ·have hil:i<(xs++[x]).length:=(aJ.1 e1).1
   rw[aM,aV,bh] at hil
   have hi':i=xs.length:=om
   subst hi'
   rw[bu om,ff] at e1
   rw[h2,bu om,ff] at e2
   cases e1
   cases e2
   exact keep hp
def mT (n:Nat) (E:List (Int×Int)) (b:List Nat):P3:=(vsM n E (nI b),oP n E (nI b),nI b)
theorem xg {n:Nat}{E:List (Int×Int)} (hm:eV (n:Nat) E=true):InG n E:=λi hi=>by
 obtain⟨m1,m2,m3,m4⟩:=kz hm
 obtain⟨a,b,e,ha,hb⟩:=lR (bA.1 m4 _ (bq hi))
 have hg:E.getD i (0,0)=E[i]:=by rw[aL,aw hi]; rfl
 unfold tlE hdE
 rw[hg,e]
 simp only[bK]
 exact⟨trivial,ha,hb⟩
theorem rK {n:Int}{E:List (Int×Int)} (hg:jr n E):∀ i,i<E.length→tlE E i≠hdE E i:=λi hi=>by
 obtain⟨hm,hl,_⟩:=hg
 have hn:n=((n.toNat:Nat):Int):=by
  have:=hm
  unfold eV at this
  simp only[aq,aj] at this
  omega
 rw[hn] at hm
 obtain⟨q1,q2,q3⟩:=xg hm i hi
 have:=hl _ (bq hi)
 rw[q1] at this
 simp only at this
 omega
theorem jZ {m:Nat}{l:Nat→Nat}{b:List Nat} (hb:b∈canon m l):b≠[]∧(∀ i∈b,i<m)∧b.length≤m∧b.Nodup:=by
 unfold canon at hb
 obtain⟨i,hi,rfl⟩:=bJ.1 hb
 rw[bH,bz] at hi
 refine⟨λe=>?_,λk hk=>?_,?_,List.nodup_range.filter _⟩
 ·have:i∈(List.range m).filter λk=>l k==i:=by rw[bH,bz]; exact hi
  rw[e] at this
  cases this
 ·rw[bH,bz] at hk
  exact hk.1
 ·have:=da (λk=>l k==i) (List.range m)
  rwa [cB] at this
theorem nV {m:Nat}{l:Nat→Nat}:(canon m l).length≤m:=by
 unfold canon
 rw[au]
 have:=da (λi=>l i==i) (List.range m)
 rwa [cB] at this
set_option maxHeartbeats 2000000 in
theorem Ae {h:AH}{n:Int}{ev:AV}{E:List (Int×Int)} (he:SlE h ev E) (hxl:E.length<2 ^ 30) :
 C prg 19 [.agg [.int .i64 n,ev]] h λr h'=>Ext h.next h h'∧(¬ jr n E→r=.tup [.nils,.int .i64 1]) ∧
   (jr n E→∃ a,r=.tup [a,.int .i64 0]∧∀ (hE:InG n.toNat E) (hL:∀ i,i<E.length→tlE E i≠hdE E i) l,Lst (grE n.toNat E hE hL) l→PL h' h.next a ((canon E.length l).map (mT n.toNat E))):=by
 obtain⟨ec,eo⟩:=he.cells
 refine HH pf19 ?_
 refine ab (ah (Mi0) ?_)
 have x0:Ext h.next h (h.new (.cells [.int .i64 n,ev] 2 false)):=HD (ae _)
 have g0:(h.new (.cells [.int .i64 n,ev] 2 false)).get h.next=some (.cells [.int .i64 n,ev] 2 false):=by rw[AH.get_new,if_pos rfl]
 have n0:(h.new (.cells [.int .i64 n,ev] 2 false)).next=h.next+1:=rfl
 generalize (h.new (.cells [.int .i64 n,ev] 2 false))=h1 at *
 have rA:ar h1 h.next 0 2=some [.int .i64 n,ev]:=by rw[aS g0]; rfl
 refine ab (ab (aX (aP 1 (Mi1 rA) rfl (Zi1 rA) (Mi1 rA) (vV (n:=n) (he.ext x0 (ae _)) hxl) λr h2 hq=>?_)))
 obtain⟨⟨c,at_,vv,rfl,hc⟩,x2⟩:=hq
 have X2:Ext h.next h h2:=x0.trans (x2.mono om)
 have n2:=x2.nx
 by_cases hg:¬ jr n E
 ·have c1:(c != 0)=true:=by rw[bne_iff_ne]; exact λe=>hg (hc.1 e)
  refine aW (M0) ?_
  refine dv (Z1 c1) (ab (ah (M0) ?_))
  exact bt ⟨_,(by simp only[rs,rf19,am,aD,simprocAttr]<;>rfl),X2,λ_=>rfl,λq=>absurd q hg⟩
 have hg:jr n E:=Classical.byContradiction hg
 have c1:(c != 0)=false:=by rw[hc.2 hg]; rfl
 refine aW (M0) ?_
 refine cU (Z1 c1) (aN ?_)
 have hm:=hg.1
 have hn:n=((n.toNat:Nat):Int):=by
  have:=hm
  unfold eV at this
  simp only[aq,aj] at this
  omega
 have hL0:=rK hg
 generalize n.toNat=nn at *
 subst hn
 have hE0:=xg hm
 have m3:=(kz hm).2.2.1
 have g2:h2.get h.next=some (.cells [.int .i64 (nn:Nat),ev] 2 false):=by rw[x2.gt _ om]; exact g0
 have rA2:ar h2 h.next 0 2=some [.int .i64 (nn:Nat),ev]:=by rw[aS g2]; rfl
 have hB:=AM (n:=nn) (he.ext X2 (ae _)) hm hE0 hL0
 unfold gW at hB
 refine ab (ab (aX (aP 1 (Mi1 rA2) rfl (Zi1 rA2) (Mi1 rA2) (hB) λbv h3 hq=>?_)))
 obtain⟨hll,x3⟩:=hq
 obtain⟨B,hBl,hLL,hBm⟩:∃ B:List (List Nat),(∀ l,Lst (grE nn E hE0 hL0) l→B=canon E.length l)∧LL h3 h2.next bv B∧∀ b∈B,b≠[]∧(∀ i∈b,i<E.length)∧b.length≤E.length:=by
  obtain⟨l,hl⟩:=Go.Blk.lst_ex (grE nn E hE0 hL0)
  exact⟨canon E.length l,λl' hl'=>Go.Blk.canon_congr λi hi=>hl.uniq hl' hi,hll l hl,λb hb=>⟨(jZ hb).1,(jZ hb).2.1,(jZ hb).2.2.1⟩⟩
 have hBlen:B.length≤E.length:=by
  obtain⟨l,hl⟩:=Go.Blk.lst_ex (grE nn E hE0 hL0)
  rw[hBl l hl]
  exact nV
 have bl3:=hLL.len
 refine aW (M1 bl3) ?_
 have X3:Ext h.next h h3:=X2.trans (x3.mono X2.nx)
 have n3:=x3.nx
 have g3:h3.get h.next=some (.cells [.int .i64 (nn:Nat),ev] 2 false):=by rw[x3.gt _ om]; exact g2
 clear hll
 refine hU (α:=AV) (N:=B.length) (λ_ a=>[(1,.ptr h.next 0),(2,a),(11,bv)])
  (λk a h'=>Ext h3.next h3 h'∧PL h' h3.next a ((B.take k).map (mT nn E))) .nils (λ_ _=>rfl) om (Hi0)
  ⟨HE,[],.inl ⟨rfl,rfl⟩,rfl,λi x p e=>by simp at e⟩ ?_ ?_
 ·rintro k a ts h4 hk ⟨jx,ja⟩ ⟨ei,en,e1,e2,e11,-⟩
  simp only at ei en e1 e2 e11
  have n4:=jx.nx
  obtain⟨b1,p1,rv,a1,r1,i1,_⟩:=(hLL.ext jx (ae _)).at hk
  refine ab (ah (M4 e11 ei a1 r1) ?_)
  obtain⟨k1,k2,k3⟩:=hBm _ (bq hk)
  have g4:h4.get h.next=some (.cells [.int .i64 (nn:Nat),ev] 2 false):=by rw[jx.gt _ om]; exact g3
  have rA4:ar h4 h.next 0 2=some [.int .i64 (nn:Nat),ev]:=by rw[aS g4]; rfl
  have X4:Ext h.next h h4:=X3.trans (jx.mono X3.nx)
  have hrv:SlI h4 rv (nI B[k]):=HB om (λ_=>rfl) i1
  have hrl:∀ b o m c,rv=.sl b o m c→b<h3.next:=by
   obtain⟨vs,z1,z2,z3⟩:=hLL
   intro b o m c e
   obtain⟨b1',p1',rv',a1',r1',i1',_⟩:=LL.at ⟨vs,z1,z2,z3⟩ hk
   have:ar h4 b1' p1' 1=some [rv']:=by
    have hlt:b1'<h3.next:=by assumption
    rw[cy (jx.gt _ hlt)]; exact r1'
   rw[a1'] at a1
   cases a1
   rw[r1] at this
   cases this
   exact i1'.lt e
  have hP:=CR (n:=((nn:Nat):Int)) (es:=nI B[k]) (he.ext X4 (ae _)) hrv hm (λi hi=>by
   unfold nI at hi
   obtain⟨j,hj,rfl⟩:=bJ.1 hi
   have:=k2 j hj
   omega) (λe=>k1 (by unfold nI at e; exact List.map_eq_nil_iff.1 e)) (by rw[eZ]; omega)
  refine aX (aP 3 (M2 e1 rA4) rfl (Z2 e1 rA4) (M2 e1 rA4) (hP) λr h5 hq=>?_)
  simp only[bK] at hq
  obtain⟨x5,edv,nmv,rfl,i5,s5,f5⟩:=hq
  have n5:=x5.nx
  obtain⟨rc,ro⟩:=i1.cells
  obtain⟨dc,do_⟩:=i5.cells
  obtain⟨mc,mo⟩:=s5.cells
  have x6:Ext h5.next h5 (h5.new (.cells [.int .i64 ((vsM nn E (nI B[k])).length:Nat),edv,nmv,rv] 4 false)):=HD (ae _)
  have g6:(h5.new (.cells [.int .i64 ((vsM nn E (nI B[k])).length:Nat),edv,nmv,rv] 4 false)).get h5.next=some (.cells [.int .i64 ((vsM nn E (nI B[k])).length:Nat),edv,nmv,rv] 4 false):=by rw[AH.get_new,if_pos rfl]
  have n6:(h5.new (.cells [.int .i64 ((vsM nn E (nI B[k])).length:Nat),edv,nmv,rv] 4 false)).next=h5.next+1:=rfl
  have hpc:PartC (h5.new (.cells [.int .i64 ((vsM nn E (nI B[k])).length:Nat),edv,nmv,rv] 4 false)) a (.int .i64 ((vsM nn E (nI B[k])).length:Nat),edv,nmv,rv) (mT nn E B[k]):=by
   refine⟨rfl,(HB (f:=eE) om (λ_=>rfl) i5).ext x6 (ae _),s5.ext x6 (ae _),(hrv.ext x5 (ae _)).ext x6 (ae _),λb o m c o' m' c' e1 e2=>?_,λb o m c o' m' c' e1 e2=>?_,λb o m c o' m' c' e1 e2=>?_⟩
   ·have h1:=ja.lt e2
    rcases i5 with ⟨rfl,_⟩|⟨b',m',hb',rfl,_⟩
    ·cases e1
    ·cases e1; omega
   ·have h1:=ja.lt e2
    have h2:=f5 _ _ _ _ e1
    omega
   ·have h1:=hrl _ _ _ _ e1
    obtain⟨xs,z1,_⟩:=ja
    rcases z1 with ⟨rfl,_⟩|⟨b',m',hb',rfl,_⟩
    ·cases e2
    ·cases e2; omega
  obtain⟨a',h7,a7,i7,x7,n7,_⟩:=((ja.ext x5 (ae _)).ext x6 (ae _)).push (q:=h5.next) om hpc g6 om (λb m e=>by have:=ja.lt e; omega) (by rw[au,aZ]; omega)
  refine aW (by simp only[am,aD,simprocAttr,e2,rc,ro,do_,mo,dc,mc,uI,eD,a7]<;>rfl) ?_
  refine⟨a',⟨jx.trans ((x5.mono n4).trans ((x6.mono om).trans x7)),?_⟩,H4 ei en e1 e11⟩
  rw[aK hk,cV]
  exact i7
 ·rintro a ts h4 ⟨jx,ja⟩ ⟨e1,e2,e11,-⟩
  simp only at e2
  rw[bp] at ja
  have ac:=ja.cells
  refine ab (ah (M1 e2) ?_)
  refine bt ⟨_,(by simp only[rs,rf19,am,aD,simprocAttr,ac.1]<;>rfl),X3.trans (jx.mono X3.nx),λq=>absurd hg q,λ_=>⟨a,rfl,λhE hL l hl=>?_⟩⟩
  rw[← hBl l hl]
  exact ja.mono om
end Go.Proofs.YtahepnbflofndaaGreatDoor
