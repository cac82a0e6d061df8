/- planar -/
import Derived.Test.YtpeemonpdlifbaaVTAZ
import Derived.Test.YtpeemonpdlifbaaVTAH
set_option linter.all false
namespace Go.Proofs.Ytpeemonpdlifbaa
open Go.Am
open Go.Pla (at_ jn On Rot)
theorem rM {h:AH}{c:Nat} (hc:c<h.next):(h.keep 1).get c=h.get c:=by rw[AH.keep_get,if_neg om]
theorem catK {h:AH}{vs:List AV}{ls:List (List Nat)} (hl:vs.length=ls.length) (hs:∀ (i:Nat) (v:AV) (l:List Nat),vs[i]?=some v→ls[i]?=some l→SlN (h.keep 1) v l∧InB (λb=>b<h.next) v) (hn:ls.length<2 ^ 30) (ht:ls.flatten.length<2 ^ 34) :
 C prg 81 [.sl h.next 0 vs.length vs.length] ((h.keep 1).put h.next (.cells vs 1 false)) λr h'=>IsSl h' 1 (h.next+1) r (nC ls.flatten)∧Ext h.next h h'∧h.next+1≤h'.next:=by
 obtain⟨p1,p2,p3,p4⟩:=pk (h:=h) (o:=.cells vs 1 false)
 refine (sj (v:=.sl h.next 0 vs.length vs.length) (vs:=vs) (xss:=ls.map λl=>l.map λn=>((n:Nat):Int)) (KG p2 rfl (ab _)) (by rw[ae]; exact hl) (λi w xs h1 h2=>?_) (by rw[ae]; exact hn) ?_).mono λr h' hq=>?_
 ·rw[aF] at h2
  obtain⟨l,hl',rfl⟩:=aD.1 h2
  obtain⟨s1,b1⟩:=hs i w l h1 hl'
  exact s1.cong λb o n c e=>by
   have hb:b<h.next:=by rw[e] at b1; exact b1
   rw[p4 b hb,rM hb]
 ·rw[← List.map_flatten,ae]; exact ht
 ·obtain⟨i,x⟩:=hq
  rw[p3] at i x
  have e:((ls.map λl=>l.map λn=>((n:Nat):Int)).flatten).flatMap eI=nC ls.flatten:=by rw[nC,← List.map_flatten]
  rw[e] at i
  exact⟨i,p1.trans (x.mono om),by have:=x.nx; rw[p3] at this; exact this⟩
theorem vN {x:Nat}:∀ (a b:List Nat) (i:Nat),x∉a→iU (((x:Nat):Int)==·) ((a++x::b).map λn=>((n:Nat):Int)) i=((i+a.length:Nat):Int)
 | [],b,i,_=>by simp [iU]
 | y::a,b,i,h=>by
   have h1:x≠y:=λe=>h (by simp [e])
   have h2:(((x:Nat):Int)==((y:Nat):Int))=false:=by rw[beq_eq_false_iff_ne]; omega
   rw[aI,bE,iU,h2,vN a b (i+1) λe=>h (bt _ e)]
   simp only[bB,if_false,aB]
   congr 1
   omega
theorem LL.set {h:AH}{lo:Nat}{a v:AV}{xss:List (List Nat)}{xs:List Nat} (hl:LL h lo a xss) {f:Nat} (hf:f<xss.length) (hv:IsSl h 1 lo v (nC xs)) (hva:∀ b n b' n',v=.sl b 0 n n→a=.sl b' 0 n' n'→b≠b') :
 ∃ b o h',kV 1 a (.int .i64 (f:Nat))=some (.ptr b o)∧bX h b o [v]=some h'∧LL h' lo a (xss.set f xs)∧lo≤b∧b<h.next∧(∃ oo,Upd h h' b oo)∧∃ n,a=.sl b 0 n n:=by
 obtain⟨vs,h1,h2,h3⟩:=hl
 rcases h1 with ⟨rfl,rfl⟩|⟨b,n,hb,rfl,hg,hn⟩
 ·simp at h2; omega
 ·rw[aP] at hn
  have hfv:f<vs.length:=om
  have w:=gj (v:=v) hg (i:=f) hfv
  have uu:=KJ (o:=.cells (vs.set f v) 1 false) hg
  refine⟨b,f,_,?_,w,⟨vs.set f v,.inr ⟨b,n,hb,rfl,uu.get,by rw[cV,hn,aP]⟩,by rw[cV,cV]; exact h2,λi w' ys e1 e2=>?_⟩,hb,AH.lt_of_get hg,⟨_,uu⟩,n,rfl⟩
  ·have:=dE (i:=f) (n:=n) om
   simp only[kV,this]
   simp
  ·have keep:∀ (w:AV) (cs:List AV),IsSl h 1 lo w cs→(∀ b' n' b'' n'',w=.sl b' 0 n' n'→AV.sl b 0 n n=.sl b'' 0 n'' n''→b'≠b'')→IsSl (h.put b (.cells (vs.set f v) 1 false)) 1 lo w cs:=λw cs hw hne=>hw.cong λb' n' e _=>uu.ne (hne b' n' b n e rfl)
   by_cases hif:i=f
   ·subst hif
    rw[cS hfv] at e1
    rw[cS hf] at e2
    cases e1
    cases e2
    exact⟨keep v _ hv hva,hva⟩
   ·rw[cW (Ne.symm hif)] at e1 e2
    obtain⟨q1,q2⟩:=h3 i w' ys e1 e2
    exact⟨keep w' _ q1 q2,q2⟩
theorem HY {z:Nat} (h:z<2 ^ 62):IntKind.i64.wrap (((z+1:Nat):Int)-1)=((z:Nat):Int):=by
 have:((z+1:Nat):Int)-1=((z:Nat):Int):=om
 rw[this]; exact et om om
theorem SlN.keep1 {h:AH}{v:AV}{l:List Nat} (s:SlN h v l):SlN (h.keep 1) v l:=Sl.cong s λ_ _ _ _ e=>rM (Sl.lt s e)
theorem SlN.inb {h:AH}{v:AV}{l:List Nat} (s:SlN h v l):InB (λb=>b<h.next) v:=by
 cases hv:v with
 | sl b o n c=>exact Sl.lt s hv
 | _=>trivial
set_option maxHeartbeats 4000000 in
theorem yZ {h:AH}{bb n lo f:Nat}{ev edv wv:AV}{E:List (Int×Int)}{Bl:List Nat}{la pa:Nat}{H V:Nat→Bool}{fav:AV}{F:List (List Nat)}{y1 y2:Nat}{i:List Nat} (u:Bu h bb n ev edv E Bl la pa H V fav) (hE:InG n E) (hL:∀ i,i<E.length→tlE E i≠hdE E i) (hn:n<2 ^ 30) (hm:E.length<2 ^ 30) (hB:∀ i∈Bl,i<E.length) (hBn:Bl.length<2 ^ 30)
 (hF:LL h lo fav F) (hFl:F.length<2 ^ 30) (hlo:la<lo∧pa<lo∧bb<lo∧lo≤h.next) (hf:f<F.length) (hcl:F[f].length<2 ^ 30) (hcn:F[f].Nodup) (hw:SlN h wv (y1::i++[y2])) (hwl:i.length<2 ^ 29) (hwn:∀ z∈y1::i++[y2],z<n) (hwd:(y1::i++[y2]).Nodup) (hwo:Off (λc=>c=la∨c=pa∨c=bb) wv) (hwf:∀ b m,fav=.sl b 0 m m→Off (λc=>c=b) wv) (m1:y1∈F[f]) (m2:y2∈F[f]) (oe2:Off (λc=>lo≤c) ev) (ob2:Off (λc=>lo≤c) edv) :
 C prg 61 [.ptr bb 0,.int .i64 (f:Nat),wv] h λ_ h'=>∃ s t H' V' fav',Rot F[f] (y1::s++y2::t)∧Bu h' bb n ev edv E Bl la pa H' V' fav'∧LL h' lo fav' (F.set f (y1::s++y2::i.reverse)++[y2::t++y1::i])∧Kp (λc=>c=la∨c=pa∨c=bb∨lo≤c) h h'∧(∀ j,H' j=true↔H j=true∨(j∈Bl∧On (grE n E hE hL) (y1::i++[y2]) j))∧(∀ v,V' v=true↔V v=true∨v∈y1::i++[y2]):=by
 have hne:y1≠y2:=by
  intro e
  rw[aS] at hwd
  exact hwd.2.2 y1 (by simp) y2 (by simp) e
 obtain⟨a0,b0,hc⟩:=bT m1
 generalize hcc:F[f]=c at *
 have ha0:y1∉a0:=by
  intro hm
  rw[hc,aS] at hcn
  exact hcn.2.2 y1 hm y1 (by simp) rfl
 have hrot:Rot c (y1::b0++a0):=⟨a0,y1::b0,hc,rfl⟩
 have hm2:y2∈b0++a0:=by
  have:=hrot.mem.2 m2
  simpa [Ne.symm hne] using this
 obtain⟨s,t,hst⟩:∃ s t,b0++a0=s++y2::t:=bT hm2
 have hface:y1::b0++a0=y1::s++y2::t:=by rw[aI,hst]; rfl
 have hnd:(y1::s++y2::t).Nodup:=by
  rw[← hface]
  have:(y1::b0++a0).Perm c:=by rw[hc]; exact sU
  exact this.nodup_iff.2 hcn
 have hs2:y2∉y1::s:=by
  intro hm
  rw[aS] at hnd
  exact hnd.2.2 y2 hm y2 (by simp) rfl
 have hlen:c.length=s.length+t.length+2:=by
  have h1:=congrArg List.length hc
  have h2:=congrArg List.length hst
  simp at h1 h2
  omega
 have hal:a0.length<c.length:=by rw[hc]; simp
 refine KK pf61 ?_
 have r5:ak h bb 5 1=some [fav]:=br u.o rfl
 obtain⟨b1,o1,fv,q1,q2,q3,_⟩:=hF.at hf
 rw[hcc] at q3
 refine ai (au (Mi3 r5 q1 q2) ?_)
 obtain⟨bw,ow,w1,w2,_⟩:=hw.at1 (i:=0) (y:=.int .i64 (y1:Nat)) rfl
 rw[bg] at w1
 have hi1:=qA (y:=((y1:Nat):Int)) (eH q3) (by rw[ae]; omega)
 rw[hc,vN a0 b0 0 ha0,bS] at hi1
 refine ai (bU (bu 4 (Mi2 w1 w2) rfl (Zi2 w1 w2) (Mi2 w1 w2) (hi1) λr h1 hq=>?_))
 obtain⟨rfl,x1⟩:=hq
 refine bP (M0) ?_
 have n1:=x1.nx
 have sf:=SlN.keep1 ((eH q3).ext x1 (ab _))
 have inf:=SlN.inb ((eH q3).ext x1 (ab _))
 obtain⟨va,fa,ta,ia,_⟩:=Sl.from sf (lo:=a0.length) (by rw[ae,ae]; omega)
 obtain⟨vb,fb,tb,ib,_⟩:=Sl.upto sf (hi:=a0.length) (by rw[ae,ae]; omega)
 have ta:SlN (h1.keep 1) va (y1::b0):=by
  rw[← fi,← fi,hc,nX] at ta; exact ta
 have tb:SlN (h1.keep 1) vb a0:=by
  rw[← fh,← fh,hc,wB] at tb; exact tb
 have hcat1:=catK (h:=h1) (vs:=[va,vb]) (ls:=[y1::b0,a0]) rfl (λj v l e1 e2=>by
  have hj:j=0∨j=1:=by
   have:=(aL.1 e1).1
   simp at this; omega
  rcases hj with rfl|rfl
  ·simp only[aV,aa] at e1 e2
   subst e1 e2; exact⟨ta,ia _ inf⟩
  ·simp only[cK,aV,aa] at e1 e2
   subst e1 e2; exact⟨tb,ib _ inf⟩) (by simp) (by simp; rw[hc] at hcl; simp at hcl; omega)
 have hl1:[y1::b0,a0].flatten=y1::s++y2::t:=by rw[← hface]; simp
 rw[hl1] at hcat1
 have rp2:cI [AV.nils] 2=[.nils,.nils]:=rfl
 have kg1:(h1.keep 1).get h1.next=some .resv:=iQ
 refine ai (lV (bu 7 (by simp only[am,aH,simprocAttr,dZ,bO,aG,fa,fb,dX,dm kg1,ta.cells.1,tb.cells.1,ta.cells.2,tb.cells.2,rp2,aB,aO,cH,bI,Nat.reduceAdd,Nat.reduceLeDiff,if_true]<;>rfl) rfl (by simp only[am,aH,simprocAttr,dZ,bO,aG,fa,fb,dX,dm kg1,ta.cells.1,tb.cells.1,ta.cells.2,tb.cells.2,rp2,aB,aO,cH,bI,Nat.reduceAdd,Nat.reduceLeDiff,if_true]) (by simp only[am,aH,simprocAttr,dZ,bO,aG,fa,fb,dX,dm kg1,ta.cells.1,tb.cells.1,ta.cells.2,tb.cells.2,rp2,aB,aO,cH,bI,Nat.reduceAdd,Nat.reduceLeDiff,if_true]<;>rfl) (hcat1) λr h2 hq=>?_))
 obtain⟨i2,x2,n2⟩:=hq
 refine bP (M0) ?_
 have x02:Ext h.next h h2:=x1.trans (x2.mono n1)
 have hw2:=Sl.ext hw x02 (ab _)
 have wl2:=hw2.len
 have wlen:(y1::i++[y2]).length=i.length+2:=by simp
 rw[ae,ae,wlen] at wl2
 have wr2:IntKind.i64.wrap (((i.length+2:Nat):Int)-1)=((i.length+1:Nat):Int):=HY (z:=i.length+1) om
 obtain⟨bl2,ol2,al2,rl2,_⟩:=hw2.at1 (i:=i.length+1) (y:=.int .i64 (y2:Nat)) (by
  rw[aF,aF,aR (by simp)]; simp [eI])
 have hfl:(y1::s++y2::t).length=c.length:=by rw[hlen]; simp; omega
 have hi2:=qA (y:=((y2:Nat):Int)) (eH i2) (by rw[ae,hfl]; omega)
 rw[vN (y1::s) t 0 hs2,bS,aB] at hi2
 refine ai (bU (bu 7 (Mi4 wl2 wr2 al2 rl2) rfl (Zi4 wl2 wr2 al2 rl2) (Mi4 wl2 wr2 al2 rl2) (hi2) λr3 h3 hq=>?_))
 obtain⟨rfl,x3⟩:=hq
 refine bP (M0) ?_
 have n3:=x3.nx
 have x03:Ext h.next h h3:=x02.trans (x3.mono om)
 have hw3:=Sl.ext hw x03 (ab _)
 have wl3:=hw3.len
 rw[ae,ae,wlen] at wl3
 obtain⟨wm,fm,tm,_,_⟩:=Sl.part hw3 (lo:=1) (hi:=i.length+1) om (by rw[ae,ae,wlen]; omega)
 rw[Jn] at fm
 have tm:SlN h3 wm i:=by
  have e:((((y1::i++[y2]).map λn=>((n:Nat):Int)).map eI).drop 1).take (i.length+1-1)=(i.map λn=>((n:Nat):Int)).map eI:=by
   rw[← fi,← fi,← fh,← fh]
   simp
  rw[e] at tm; exact tm
 refine ai (bU (bu 5 (by simp only[am,aH,simprocAttr,bN,dZ,bO,aG,wl3,wr2,fm]<;>rfl) rfl (by simp only[am,aH,simprocAttr,bN,dZ,bO,aG,wl3,wr2,fm]) (by simp only[am,aH,simprocAttr,bN,dZ,bO,aG,wl3,wr2,fm]<;>rfl) (uD tm (by rw[ae]; omega)) λiv h4 hq=>?_))
 obtain⟨i4,x4,_⟩:=hq
 have i4:IsSl h4 1 h3.next iv (nC i):=i4
 refine bP (M0) ?_
 have n4:=x4.nx
 have i24:=(i2.ext x3 (ab _)).ext x4 (ab _)
 have sf4:=SlN.keep1 (eH i24)
 have inf4:=SlN.inb (eH i24)
 obtain⟨vc,fc',tc,ic,_⟩:=Sl.from sf4 (lo:=(y1::s).length) (by rw[ae,ae,hfl,aB]; omega)
 obtain⟨vd,fd,td,id',_⟩:=Sl.upto sf4 (hi:=1) (by rw[ae,ae,hfl]; omega)
 have tc:SlN (h4.keep 1) vc (y2::t):=by
  rw[← fi,← fi,nX] at tc; exact tc
 have td:SlN (h4.keep 1) vd [y1]:=by
  rw[← fh,← fh] at td; exact td
 have ti:=SlN.keep1 (eH i4)
 have hcat2:=catK (h:=h4) (vs:=[vc,vd,iv]) (ls:=[y2::t,[y1],i]) rfl (λj v l e1 e2=>by
  have hj:j=0∨j=1∨j=2:=by
   have:=(aL.1 e1).1
   simp at this; omega
  rcases hj with rfl|rfl|rfl
  ·simp only[aV,aa] at e1 e2
   subst e1 e2; exact⟨tc,ic _ inf4⟩
  ·simp only[cK,aV,aa] at e1 e2
   subst e1 e2; exact⟨td,id' _ inf4⟩
  ·simp only[cK,aV,aa] at e1 e2
   subst e1 e2; exact⟨ti,SlN.inb (eH i4)⟩) (by simp) (by simp; omega)
 have hl2:[y2::t,[y1],i].flatten=y2::t++y1::i:=by simp
 rw[hl2] at hcat2
 have rp3:cI [AV.nils] 3=[.nils,.nils,.nils]:=rfl
 have kg4:(h4.keep 1).get h4.next=some .resv:=iQ
 rw[Jn] at fd
 rw[aB] at fc'
 refine ai (lV (bu 7 (by simp only[am,aH,simprocAttr,dZ,bO,aG,fc',fd,dX,dm kg4,tc.cells.1,td.cells.1,ti.cells.1,tc.cells.2,td.cells.2,ti.cells.2,rp3,aB,aO,cH,bI,Nat.reduceAdd,Nat.reduceLeDiff,if_true]<;>rfl) rfl (by simp only[am,aH,simprocAttr,dZ,bO,aG,fc',fd,dX,dm kg4,tc.cells.1,td.cells.1,ti.cells.1,tc.cells.2,td.cells.2,ti.cells.2,rp3,aB,aO,cH,bI,Nat.reduceAdd,Nat.reduceLeDiff,if_true]) (by simp only[am,aH,simprocAttr,dZ,bO,aG,fc',fd,dX,dm kg4,tc.cells.1,td.cells.1,ti.cells.1,tc.cells.2,td.cells.2,ti.cells.2,rp3,aB,aO,cH,bI,Nat.reduceAdd,Nat.reduceLeDiff,if_true]<;>rfl) (hcat2) λsv h5 hq=>?_))
 obtain⟨i5,x5,n5⟩:=hq
 refine bP (M0) ?_
 have i45:=i4.ext x5 (ab _)
 refine ai (bU (bu 1 (M0) rfl (Z0) (M0) (uX i45 om) λv6 h6 hq=>?_))
 obtain⟨i6,x6,n6,fr6⟩:=hq
 refine bP (M0) ?_
 have X26:Ext h2.next h2 h6:=(x3.mono (ab _)).trans ((x4.mono om).trans ((x5.mono om).trans (x6.mono om)))
 have x06:Ext h.next h h6:=x02.trans (X26.mono om)
 have N6:=x06.nx
 have u6:=u.ext x06 (ab _)
 have i26:=i2.ext X26 (ab _)
 have lt_bb:=AH.lt_of_get u.o
 have gk6:∀ c,c<h6.next→(h6.keep 1).get c=h6.get c:=λc hc=>rM hc
 have rk5:ak (h6.keep 1) bb 5 1=some [fav]:=by rw[cF (gk6 bb om)]; exact br u6.o rfl
 have sf6:=SlN.keep1 (eH i26)
 have inf6:=SlN.inb (eH i26)
 obtain⟨ve,fe,te,ie,_⟩:=Sl.upto sf6 (hi:=s.length+2) (by rw[ae,ae,hfl,hlen]; omega)
 have te:SlN (h6.keep 1) ve (y1::s++[y2]):=by
  rw[← fh,← fh] at te
  have e:(y1::s++y2::t).take (s.length+2)=y1::s++[y2]:=by
   rw[show y1::s++y2::t=(y1::s++[y2])++t by simp]
   exact List.take_left' (by simp)
  rw[e] at te; exact te
 have ti6:=SlN.keep1 (eH i6)
 have hcat3:=catK (h:=h6) (vs:=[ve,iv]) (ls:=[y1::s++[y2],i.reverse]) rfl (λj v l e1 e2=>by
  have hj:j=0∨j=1:=by
   have:=(aL.1 e1).1
   simp at this; omega
  rcases hj with rfl|rfl
  ·simp only[aV,aa] at e1 e2
   subst e1 e2; exact⟨te,ie _ inf6⟩
  ·simp only[cK,aV,aa] at e1 e2
   subst e1 e2; exact⟨ti6,SlN.inb (eH i6)⟩) (by simp) (by simp; omega)
 have hl3:[y1::s++[y2],i.reverse].flatten=y1::s++y2::i.reverse:=by simp
 rw[hl3] at hcat3
 have kg6:(h6.keep 1).get h6.next=some .resv:=iQ
 have wf1:IntKind.i64.wrap (((s.length+1:Nat):Int)+1)=((s.length+2:Nat):Int):=et om om
 refine ai (lV (li 11 (by simp only[am,aH,simprocAttr,bN,rk5,wf1,dZ,bO,aG,fe,dX,dm kg6,te.cells.1,ti6.cells.1,te.cells.2,ti6.cells.2,rp2,aB,aO,cH,bI,Nat.reduceAdd,Nat.reduceLeDiff,if_true]<;>rfl) rfl (by simp only[am,aH,simprocAttr,bN,rk5,wf1,dZ,bO,aG,fe,dX,dm kg6,te.cells.1,ti6.cells.1,te.cells.2,ti6.cells.2,rp2,aB,aO,cH,bI,Nat.reduceAdd,Nat.reduceLeDiff,if_true]) (by simp only[am,aH,simprocAttr,bN,rk5,wf1,dZ,bO,aG,fe,dX,dm kg6,te.cells.1,ti6.cells.1,te.cells.2,ti6.cells.2,rp2,aB,aO,cH,bI,Nat.reduceAdd,Nat.reduceLeDiff,if_true]<;>rfl) (hcat3) λnv h7 hq=>?_))
 obtain⟨i7,x7,n7⟩:=hq
 have x07:Ext h.next h h7:=x06.trans (x7.mono N6)
 have u7:=u.ext x07 (ab _)
 have r57:ak h7 bb 5 1=some [fav]:=br u7.o rfl
 have lt_fav:∀ b m,fav=.sl b 0 m m→b<h.next:=λb m e=>hF.lt e
 have F7:=hF.ext x07 (ab _)
 obtain⟨fb,fo,h8,s1,s2,F8,fl1,fl2,⟨oo,u8⟩,fm',hfm⟩:=F7.set (f:=f) (xs:=y1::s++y2::i.reverse) hf (i7.mono om) (λb m b' m' e e'=>by
  have l1:=lt_fav b' m' e'
  rcases i7 with ⟨h1,_⟩|⟨b2,m2,hb2,h1,_⟩
  ·rw[h1] at e; cases e
  ·rw[h1] at e; cases e; omega)
 have hsame:fav.same fav=true:=by rw[hfm]; simp [AV.same]
 refine⟨by simp only[am,aH,simprocAttr,r57]; exact hsame,?_⟩
 refine bP (by simp only[am,aH,simprocAttr,bN,s1,i7.cells.1,i7.cells.2,s2]<;>rfl) ?_
 have hfb:fb<h.next:=lt_fav fb fm' hfm
 have kfb:Kp (λc=>c=fb) h7 h8:=u8.kp rfl
 have u8':Bu h8 bb n ev edv E Bl la pa H V fav:=u7.kp kfb om om om (fQ oe2 λc e=>by omega) (fQ ob2 λc e=>by omega)
 have r58:ak h8 bb 5 1=some [fav]:=br u8'.o rfl
 have n8:=u8.nx
 have lt_sv:∀ b m,sv=.sl b 0 m m→h4.next+1≤b∧b<h5.next:=λb m e=>⟨by
  rcases i5 with ⟨h1,_⟩|⟨b2,m2,hb2,h1,_⟩
  ·rw[h1] at e; cases e
  ·rw[h1] at e; cases e; exact hb2,i5.lt e⟩
 have i58:IsSl h8 1 (h4.next+1) sv (nC (y2::t++y1::i)):=i5.cong λb m e hb=>by
  have l1:=(lt_sv b m e).2
  rw[u8.ne om,x7.gt b om,fr6 b l1 (λb' m' e'=>by have:=i4.lt e'; omega)]
 have x9:Ext h8.next h8 (h8.new (.cells [sv] 1 false)):=KH (ab _)
 have g9:(h8.new (.cells [sv] 1 false)).get h8.next=some (.cells [sv] 1 false):=by rw[AH.get_new,if_pos rfl]
 have N9:(h8.new (.cells [sv] 1 false)).next=h8.next+1:=rfl
 have hFsl:(F.set f (y1::s++y2::i.reverse)).length=F.length:=cV
 obtain⟨fav',h10,a10,F10,x10,n10,fr10,fa10⟩:=(F8.ext x9 (ab _)).push (xs:=y2::t++y1::i) om ((i58.mono om).ext x9 (ab _)) g9 om (λb m e=>by have:=lt_fav b m e; omega) (λb m b' m' e e'=>by
  have l1:=lt_fav b' m' e'
  have l2:=(lt_sv b m e).1
  omega) (by rw[hFsl]; unfold aU; omega)
 have ty10:∀ c,h10.tyOf c=(h8.new (.cells [sv] 1 false)).tyOf c:=by
  obtain⟨vs,g1,g2,_⟩:=F8.ext x9 (ab _)
  have hdv:vs.length / 1=F.length:=by rw[g2,hFsl,ew]
  obtain⟨a2,h2',e1,_,_,_,_,_,e2⟩:=g1.app (bytes:=24) (x:=h8.next) (new:=[sv]) om om g9 om (λb m e=>by have:=lt_fav b m e; omega) rfl (by simp [i58.cells.2]) (by rw[hdv]; unfold aU; omega) (by rw[hdv]; unfold aU; omega)
  rw[a10] at e1
  cases e1
  exact e2
 have k10:Kp (λc=>c=fb) (h8.new (.cells [sv] 1 false)) h10:=⟨om,λc hc hne=>fr10 c hc λb m e=>by rw[hfm] at e; cases e; exact hne,λc _=>ty10 c⟩
 have u10:Bu h10 bb n ev edv E Bl la pa H V fav:=(u8'.ext x9 (ab _)).kp k10 om om om (fQ oe2 λc e=>by omega) (fQ ob2 λc e=>by omega)
 obtain⟨h11,w11,u11,o11,up11⟩:=u10.putF fav'
 have rp1:cI [AV.nils] 1=[.nils]:=rfl
 have hone:fav'.cells=[fav']∧fav'.one=true:=by
  obtain⟨vs,g1,_⟩:=F10; exact g1.cells
 refine ai (ai (bR (λts h'=>h'=h11∧aN ts 0=.ptr bb 0∧aN ts 2=wv) (by simp only[am,aH,simprocAttr,bN,r58,i58.cells.1,i58.cells.2,rp1,aB,aO,cH,bI,Nat.reduceAdd,Nat.reduceLeDiff,if_true,a10,hone.1,hone.2,w11]) ?_))
 rintro ts h11' ⟨rfl,e0,e2⟩
 have back:∀ c,c<h.next→c≠bb→c≠fb→h11'.get c=h.get c:=λc hc h1 h2=>by
  rw[up11.ne h1,k10.gt c om h2,x9.gt c om,u8.ne h2,x07.gt c hc]
 have backT:∀ c,c<h.next→h11'.tyOf c=h.tyOf c:=λc hc=>by
  rw[up11.ty c,ty10 c,x9.ty c om,u8.ty c,x07.ty c hc]
 have hwfb:Off (λc=>c=fb) wv:=hwf fb fm' hfm
 have hw11:SlN h11' wv (y1::i++[y2]):=Sl.cong hw λb o m c e=>back b (Sl.lt hw e) (λq=>by
  rw[e] at hwo; exact hwo (.inr (.inr q))) (λq=>by rw[e] at hwfb; exact hwfb q)
 refine bU (bu 2 (M2 e0 e2) rfl (Z2 e0 e2) (M2 e0 e2) (xh u11 hE hL hn hm hB hBn hw11 hwn (by rw[wlen]; omega) (fQ hwo λc e=>by rcases e with e|e; exact .inl e; exact .inr (.inl e))) λv12 h12 hq=>?_)
 obtain⟨H',V',u12,k12,hH',hV'⟩:=hq
 refine bP (M0) ?_
 have n11:=up11.nx
 refine⟨.tup [],rfl,s,t,H',V',fav',hface▸hrot,u12,F10.cong λc h1 h2=>?_,⟨?_,λc hc hne=>?_,λc hc=>?_⟩,hH',hV'⟩
 ·rw[k12.gt c om (by rintro (q|q)<;>omega),up11.ne om]
 ·have:=k12.nx; omega
 ·have h1:c≠bb:=λq=>hne (.inr (.inr (.inl q)))
  have h2:c≠fb:=λq=>hne (.inr (.inr (.inr om)))
  rw[k12.gt c om (by rintro (q|q); exact hne (.inl q); exact hne (.inr (.inl q))),back c hc h1 h2]
 ·rw[k12.ty c om,backT c hc]
open Go.Am
open Go.Blk (Gr Lst Cls)
theorem Ka {k:IntKind}{a b:Int}:mG mnA [.int k a,.int k b]=some (.int k (if b<a then b else a)):=by
 simp [mG,mnA]
theorem CI {ev:RO→AV}{h:AH}{n e:Nat}{z:List AV} (hg:h.get n=some .resv):iJ ev h n (.new z e)=some (.ptr n 0,h.put n (.cells z e false)):=by
 rw[lK hg]
 rfl
