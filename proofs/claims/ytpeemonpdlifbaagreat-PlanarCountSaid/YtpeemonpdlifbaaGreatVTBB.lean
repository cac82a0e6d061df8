/- planar -/
import Derived.Test.YtpeemonpdlifbaaGreatVTBA
import Derived.Test.YtpeemonpdlifbaaGreatVTAF
set_option linter.all false
namespace Go.Proofs.YtpeemonpdlifbaaGreat
open Go.Am
open Go.Pla (at_ jn On Rot)
theorem sd {h:AH}{c:Nat} (hc:c<h.next):(h.keep 1).get c=h.get c:=by rw[AH.keep_get,if_neg om]
theorem catK {h:AH}{vs:List AV}{ls:List (List Nat)} (hl:vs.length=ls.length) (hs:∀ (i:Nat) (v:AV) (l:List Nat),vs[i]?=some v→ls[i]?=some l→SlN (h.keep 1) v l∧InB (λb=>b<h.next) v) (hn:ls.length<2 ^ 30) (ht:ls.flatten.length<2 ^ 34) :
 C prg 77 [.sl h.next 0 vs.length vs.length] ((h.keep 1).put h.next (.cells vs 1 false)) λr h'=>IsSl h' 1 (h.next+1) r (nC ls.flatten)∧Ext h.next h h'∧h.next+1≤h'.next:=by
 obtain⟨p1,p2,p3,p4⟩:=pw (h:=h) (o:=.cells vs 1 false)
 refine (sH (v:=.sl h.next 0 vs.length vs.length) (vs:=vs) (xss:=ls.map λl=>l.map λn=>((n:Nat):Int)) (Sl.row p2 rfl (ae _)) (by rw[ak]; exact hl) (λi w xs h1 h2=>?_) (by rw[ak]; exact hn) ?_).mono λr h' hq=>?_
 ·rw[aG] at h2
  obtain⟨l,hl',rfl⟩:=aD.1 h2
  obtain⟨s1,b1⟩:=hs i w l h1 hl'
  exact s1.cong λb o n c e=>by
   have hb:b<h.next:=by rw[e] at b1; exact b1
   rw[p4 b hb,sd hb]
 ·rw[← List.map_flatten,ak]; exact ht
 ·obtain⟨i,x⟩:=hq
  rw[p3] at i x
  have e:((ls.map λl=>l.map λn=>((n:Nat):Int)).flatten).flatMap eI=nC ls.flatten:=by rw[nC,← List.map_flatten]
  rw[e] at i
  exact⟨i,p1.trans (x.mono om),by have:=x.nx; rw[p3] at this; exact this⟩
theorem wn {x:Nat}:∀ (a b:List Nat) (i:Nat),x∉a→gU (((x:Nat):Int)==·) ((a++x::b).map λn=>((n:Nat):Int)) i=((i+a.length:Nat):Int)
 | [],b,i,_=>by simp [gU]
 | y::a,b,i,h=>by
   have h1:x≠y:=λe=>h (by simp [e])
   have h2:(((x:Nat):Int)==((y:Nat):Int))=false:=by rw[beq_eq_false_iff_ne]; omega
   rw[aE,bA,gU,h2,wn a b (i+1) λe=>h (br _ e)]
   simp only[bh,if_false,aw]
   congr 1
   omega
theorem LL.set {h:AH}{lo:Nat}{a v:AV}{xss:List (List Nat)}{xs:List Nat} (hl:LL h lo a xss) {f:Nat} (hf:f<xss.length) (hv:IsSl h 1 lo v (nC xs)) (hva:∀ b n b' n',v=.sl b 0 n n→a=.sl b' 0 n' n'→b≠b') :
 ∃ b o h',kR 1 a (.int .i64 (f:Nat))=some (.ptr b o)∧bZ h b o [v]=some h'∧LL h' lo a (xss.set f xs)∧lo≤b∧b<h.next∧(∃ oo,Upd h h' b oo)∧∃ n,a=.sl b 0 n n:=by
 obtain⟨vs,h1,h2,h3⟩:=hl
 rcases h1 with ⟨rfl,rfl⟩|⟨b,n,hb,rfl,hg,hn⟩
 ·simp at h2; omega
 ·rw[aO] at hn
  have hfv:f<vs.length:=om
  have w:=gv (v:=v) hg (i:=f) hfv
  have uu:=LA (o:=.cells (vs.set f v) 1 false) hg
  refine⟨b,f,_,?_,w,⟨vs.set f v,.inr ⟨b,n,hb,rfl,uu.get,by rw[bE,hn,aO]⟩,by rw[bE,bE]; exact h2,λi w' ys e1 e2=>?_⟩,hb,AH.lt_of_get hg,⟨_,uu⟩,n,rfl⟩
  ·have:=dU (i:=f) (n:=n) om
   simp only[kR,this]
   simp
  ·have keep:∀ (w:AV) (cs:List AV),IsSl h 1 lo w cs→(∀ b' n' b'' n'',w=.sl b' 0 n' n'→AV.sl b 0 n n=.sl b'' 0 n'' n''→b'≠b'')→IsSl (h.put b (.cells (vs.set f v) 1 false)) 1 lo w cs:=λw cs hw hne=>hw.cong λb' n' e _=>uu.ne (hne b' n' b n e rfl)
   by_cases hif:i=f
   ·subst hif
    rw[cR hfv] at e1
    rw[cR hf] at e2
    cases e1
    cases e2
    exact⟨keep v _ hv hva,hva⟩
   ·rw[cV (Ne.symm hif)] at e1 e2
    obtain⟨q1,q2⟩:=h3 i w' ys e1 e2
    exact⟨keep w' _ q1 q2,q2⟩
theorem IP {z:Nat} (h:z<2 ^ 62):IntKind.i64.wrap (((z+1:Nat):Int)-1)=((z:Nat):Int):=by
 have:((z+1:Nat):Int)-1=((z:Nat):Int):=om
 rw[this]; exact fz om om
theorem SlN.keep1 {h:AH}{v:AV}{l:List Nat} (s:SlN h v l):SlN (h.keep 1) v l:=Sl.cong s λ_ _ _ _ e=>sd (Sl.lt s e)
theorem SlN.inb {h:AH}{v:AV}{l:List Nat} (s:SlN h v l):InB (λb=>b<h.next) v:=by
 cases hv:v with
 | sl b o n c=>exact Sl.lt s hv
 | _=>trivial
set_option maxHeartbeats 4000000 in
theorem zq {h:AH}{bb n lo f:Nat}{ev edv wv:AV}{E:List (Int×Int)}{Bl:List Nat}{la pa:Nat}{H V:Nat→Bool}{fav:AV}{F:List (List Nat)}{y1 y2:Nat}{i:List Nat} (u:Bu h bb n ev edv E Bl la pa H V fav) (hE:InG n E) (hL:∀ i,i<E.length→tlE E i≠hdE E i) (hn:n<2 ^ 30) (hm:E.length<2 ^ 30) (hB:∀ i∈Bl,i<E.length) (hBn:Bl.length<2 ^ 30)
 (hF:LL h lo fav F) (hFl:F.length<2 ^ 30) (hlo:la<lo∧pa<lo∧bb<lo∧lo≤h.next) (hf:f<F.length) (hcl:F[f].length<2 ^ 30) (hcn:F[f].Nodup) (hw:SlN h wv (y1::i++[y2])) (hwl:i.length<2 ^ 29) (hwn:∀ z∈y1::i++[y2],z<n) (hwd:(y1::i++[y2]).Nodup) (hwo:Off (λc=>c=la∨c=pa∨c=bb) wv) (hwf:∀ b m,fav=.sl b 0 m m→Off (λc=>c=b) wv) (m1:y1∈F[f]) (m2:y2∈F[f]) (oe2:Off (λc=>lo≤c) ev) (ob2:Off (λc=>lo≤c) edv) :
 C prg 55 [.ptr bb 0,.int .i64 (f:Nat),wv] h λ_ h'=>∃ s t H' V' fav',Rot F[f] (y1::s++y2::t)∧Bu h' bb n ev edv E Bl la pa H' V' fav'∧LL h' lo fav' (F.set f (y1::s++y2::i.reverse)++[y2::t++y1::i])∧Kp (λc=>c=la∨c=pa∨c=bb∨lo≤c) h h'∧(∀ j,H' j=true↔H j=true∨(j∈Bl∧On (grE n E hE hL) (y1::i++[y2]) j))∧(∀ v,V' v=true↔V v=true∨v∈y1::i++[y2]):=by
 have hne:y1≠y2:=by
  intro e
  rw[aN] at hwd
  exact hwd.2.2 y1 (by simp) y2 (by simp) e
 obtain⟨a0,b0,hc⟩:=bL m1
 generalize hcc:F[f]=c at *
 have ha0:y1∉a0:=by
  intro hm
  rw[hc,aN] at hcn
  exact hcn.2.2 y1 hm y1 (by simp) rfl
 have hrot:Rot c (y1::b0++a0):=⟨a0,y1::b0,hc,rfl⟩
 have hm2:y2∈b0++a0:=by
  have:=hrot.mem.2 m2
  simpa [Ne.symm hne] using this
 obtain⟨s,t,hst⟩:∃ s t,b0++a0=s++y2::t:=bL hm2
 have hface:y1::b0++a0=y1::s++y2::t:=by rw[aE,hst]; rfl
 have hnd:(y1::s++y2::t).Nodup:=by
  rw[← hface]
  have:(y1::b0++a0).Perm c:=by rw[hc]; exact tC
  exact this.nodup_iff.2 hcn
 have hs2:y2∉y1::s:=by
  intro hm
  rw[aN] at hnd
  exact hnd.2.2 y2 hm y2 (by simp) rfl
 have hlen:c.length=s.length+t.length+2:=by
  have h1:=congrArg List.length hc
  have h2:=congrArg List.length hst
  simp at h1 h2
  omega
 have hal:a0.length<c.length:=by rw[hc]; simp
 refine LB pf55 ?_
 have r5:ar h bb 5 1=some [fav]:=bq u.o rfl
 obtain⟨b1,o1,fv,q1,q2,q3,_⟩:=hF.at hf
 rw[hcc] at q3
 refine aj (aB (Mi3 r5 q1 q2) ?_)
 obtain⟨bw,ow,w1,w2,_⟩:=hw.at1 (i:=0) (y:=.int .i64 (y1:Nat)) rfl
 rw[cH] at w1
 have hi1:=qG (y:=((y1:Nat):Int)) (eu q3) (by rw[ak]; omega)
 rw[hc,wn a0 b0 0 ha0,bM] at hi1
 refine aj (bO (bt 4 (Mi2 w1 w2) rfl (Zi2 w1 w2) (Mi2 w1 w2) (hi1) λr h1 hq=>?_))
 obtain⟨rfl,x1⟩:=hq
 refine bI (M0) ?_
 have n1:=x1.nx
 have sf:=SlN.keep1 ((eu q3).ext x1 (ae _))
 have inf:=SlN.inb ((eu q3).ext x1 (ae _))
 obtain⟨va,fa,ta,ia,_⟩:=Sl.from sf (lo:=a0.length) (by rw[ak,ak]; omega)
 obtain⟨vb,fb,tb,ib,_⟩:=Sl.upto sf (hi:=a0.length) (by rw[ak,ak]; omega)
 have ta:SlN (h1.keep 1) va (y1::b0):=by
  rw[← fQ,← fQ,hc,oz] at ta; exact ta
 have tb:SlN (h1.keep 1) vb a0:=by
  rw[← fP,← fP,hc,wP] at tb; exact tb
 have hcat1:=catK (h:=h1) (vs:=[va,vb]) (ls:=[y1::b0,a0]) rfl (λj v l e1 e2=>by
  have hj:j=0∨j=1:=by
   have:=(aK.1 e1).1
   simp at this; omega
  rcases hj with rfl|rfl
  ·simp only[bd,aa] at e1 e2
   subst e1 e2; exact⟨ta,ia _ inf⟩
  ·simp only[cG,bd,aa] at e1 e2
   subst e1 e2; exact⟨tb,ib _ inf⟩) (by simp) (by simp; rw[hc] at hcl; simp at hcl; omega)
 have hl1:[y1::b0,a0].flatten=y1::s++y2::t:=by rw[← hface]; simp
 rw[hl1] at hcat1
 have rp2:dg [AV.nils] 2=[.nils,.nils]:=rfl
 have kg1:(h1.keep 1).get h1.next=some .resv:=iR
 refine aj (nY (bt 7 (by simp only[am,aF,simprocAttr,eF,bW,aH,fa,fb,fA,eZ kg1,ta.cells.1,tb.cells.1,ta.cells.2,tb.cells.2,rp2,aw,aP,cF,bJ,Nat.reduceAdd,Nat.reduceLeDiff,if_true]<;>rfl) rfl (by simp only[am,aF,simprocAttr,eF,bW,aH,fa,fb,fA,eZ kg1,ta.cells.1,tb.cells.1,ta.cells.2,tb.cells.2,rp2,aw,aP,cF,bJ,Nat.reduceAdd,Nat.reduceLeDiff,if_true]) (by simp only[am,aF,simprocAttr,eF,bW,aH,fa,fb,fA,eZ kg1,ta.cells.1,tb.cells.1,ta.cells.2,tb.cells.2,rp2,aw,aP,cF,bJ,Nat.reduceAdd,Nat.reduceLeDiff,if_true]<;>rfl) (hcat1) λr h2 hq=>?_))
 obtain⟨i2,x2,n2⟩:=hq
 refine bI (M0) ?_
 have x02:Ext h.next h h2:=x1.trans (x2.mono n1)
 have hw2:=Sl.ext hw x02 (ae _)
 have wl2:=hw2.len
 have wlen:(y1::i++[y2]).length=i.length+2:=by simp
 rw[ak,ak,wlen] at wl2
 have wr2:IntKind.i64.wrap (((i.length+2:Nat):Int)-1)=((i.length+1:Nat):Int):=IP (z:=i.length+1) om
 obtain⟨bl2,ol2,al2,rl2,_⟩:=hw2.at1 (i:=i.length+1) (y:=.int .i64 (y2:Nat)) (by
  rw[aG,aG,aU (by simp)]; simp [eI])
 have hfl:(y1::s++y2::t).length=c.length:=by rw[hlen]; simp; omega
 have hi2:=qG (y:=((y2:Nat):Int)) (eu i2) (by rw[ak,hfl]; omega)
 rw[wn (y1::s) t 0 hs2,bM,aw] at hi2
 refine aj (bO (bt 7 (Mi4 wl2 wr2 al2 rl2) rfl (Zi4 wl2 wr2 al2 rl2) (Mi4 wl2 wr2 al2 rl2) (hi2) λr3 h3 hq=>?_))
 obtain⟨rfl,x3⟩:=hq
 refine bI (M0) ?_
 have n3:=x3.nx
 have x03:Ext h.next h h3:=x02.trans (x3.mono om)
 have hw3:=Sl.ext hw x03 (ae _)
 have wl3:=hw3.len
 rw[ak,ak,wlen] at wl3
 obtain⟨wm,fm,tm,_,_⟩:=Sl.part hw3 (lo:=1) (hi:=i.length+1) om (by rw[ak,ak,wlen]; omega)
 rw[Int.natCast_one] at fm
 have tm:SlN h3 wm i:=by
  have e:((((y1::i++[y2]).map λn=>((n:Nat):Int)).map eI).drop 1).take (i.length+1-1)=(i.map λn=>((n:Nat):Int)).map eI:=by
   rw[← fQ,← fQ,← fP,← fP]
   simp
  rw[e] at tm; exact tm
 refine aj (bO (bt 5 (by simp only[am,aF,simprocAttr,bH,eF,bW,aH,wl3,wr2,fm]<;>rfl) rfl (by simp only[am,aF,simprocAttr,bH,eF,bW,aH,wl3,wr2,fm]) (by simp only[am,aF,simprocAttr,bH,eF,bW,aH,wl3,wr2,fm]<;>rfl) (uX tm (by rw[ak]; omega)) λiv h4 hq=>?_))
 obtain⟨i4,x4,_⟩:=hq
 have i4:IsSl h4 1 h3.next iv (nC i):=i4
 refine bI (M0) ?_
 have n4:=x4.nx
 have i24:=(i2.ext x3 (ae _)).ext x4 (ae _)
 have sf4:=SlN.keep1 (eu i24)
 have inf4:=SlN.inb (eu i24)
 obtain⟨vc,fc',tc,ic,_⟩:=Sl.from sf4 (lo:=(y1::s).length) (by rw[ak,ak,hfl,aw]; omega)
 obtain⟨vd,fd,td,id',_⟩:=Sl.upto sf4 (hi:=1) (by rw[ak,ak,hfl]; omega)
 have tc:SlN (h4.keep 1) vc (y2::t):=by
  rw[← fQ,← fQ,oz] at tc; exact tc
 have td:SlN (h4.keep 1) vd [y1]:=by
  rw[← fP,← fP] at td; exact td
 have ti:=SlN.keep1 (eu i4)
 have hcat2:=catK (h:=h4) (vs:=[vc,vd,iv]) (ls:=[y2::t,[y1],i]) rfl (λj v l e1 e2=>by
  have hj:j=0∨j=1∨j=2:=by
   have:=(aK.1 e1).1
   simp at this; omega
  rcases hj with rfl|rfl|rfl
  ·simp only[bd,aa] at e1 e2
   subst e1 e2; exact⟨tc,ic _ inf4⟩
  ·simp only[cG,bd,aa] at e1 e2
   subst e1 e2; exact⟨td,id' _ inf4⟩
  ·simp only[cG,bd,aa] at e1 e2
   subst e1 e2; exact⟨ti,SlN.inb (eu i4)⟩) (by simp) (by simp; omega)
 have hl2:[y2::t,[y1],i].flatten=y2::t++y1::i:=by simp
 rw[hl2] at hcat2
 have rp3:dg [AV.nils] 3=[.nils,.nils,.nils]:=rfl
 have kg4:(h4.keep 1).get h4.next=some .resv:=iR
 rw[Int.natCast_one] at fd
 rw[aw] at fc'
 refine aj (nY (bt 7 (by simp only[am,aF,simprocAttr,eF,bW,aH,fc',fd,fA,eZ kg4,tc.cells.1,td.cells.1,ti.cells.1,tc.cells.2,td.cells.2,ti.cells.2,rp3,aw,aP,cF,bJ,Nat.reduceAdd,Nat.reduceLeDiff,if_true]<;>rfl) rfl (by simp only[am,aF,simprocAttr,eF,bW,aH,fc',fd,fA,eZ kg4,tc.cells.1,td.cells.1,ti.cells.1,tc.cells.2,td.cells.2,ti.cells.2,rp3,aw,aP,cF,bJ,Nat.reduceAdd,Nat.reduceLeDiff,if_true]) (by simp only[am,aF,simprocAttr,eF,bW,aH,fc',fd,fA,eZ kg4,tc.cells.1,td.cells.1,ti.cells.1,tc.cells.2,td.cells.2,ti.cells.2,rp3,aw,aP,cF,bJ,Nat.reduceAdd,Nat.reduceLeDiff,if_true]<;>rfl) (hcat2) λsv h5 hq=>?_))
 obtain⟨i5,x5,n5⟩:=hq
 refine bI (M0) ?_
 have i45:=i4.ext x5 (ae _)
 refine aj (bO (bt 1 (M0) rfl (Z0) (M0) (vF i45 om) λv6 h6 hq=>?_))
 obtain⟨i6,x6,n6,fr6⟩:=hq
 refine bI (M0) ?_
 have X26:Ext h2.next h2 h6:=(x3.mono (ae _)).trans ((x4.mono om).trans ((x5.mono om).trans (x6.mono om)))
 have x06:Ext h.next h h6:=x02.trans (X26.mono om)
 have N6:=x06.nx
 have u6:=u.ext x06 (ae _)
 have i26:=i2.ext X26 (ae _)
 have lt_bb:=AH.lt_of_get u.o
 have gk6:∀ c,c<h6.next→(h6.keep 1).get c=h6.get c:=λc hc=>sd hc
 have rk5:ar (h6.keep 1) bb 5 1=some [fav]:=by rw[cM (gk6 bb om)]; exact bq u6.o rfl
 have sf6:=SlN.keep1 (eu i26)
 have inf6:=SlN.inb (eu i26)
 obtain⟨ve,fe,te,ie,_⟩:=Sl.upto sf6 (hi:=s.length+2) (by rw[ak,ak,hfl,hlen]; omega)
 have te:SlN (h6.keep 1) ve (y1::s++[y2]):=by
  rw[← fP,← fP] at te
  have e:(y1::s++y2::t).take (s.length+2)=y1::s++[y2]:=by
   rw[show y1::s++y2::t=(y1::s++[y2])++t by simp]
   exact List.take_left' (by simp)
  rw[e] at te; exact te
 have ti6:=SlN.keep1 (eu i6)
 have hcat3:=catK (h:=h6) (vs:=[ve,iv]) (ls:=[y1::s++[y2],i.reverse]) rfl (λj v l e1 e2=>by
  have hj:j=0∨j=1:=by
   have:=(aK.1 e1).1
   simp at this; omega
  rcases hj with rfl|rfl
  ·simp only[bd,aa] at e1 e2
   subst e1 e2; exact⟨te,ie _ inf6⟩
  ·simp only[cG,bd,aa] at e1 e2
   subst e1 e2; exact⟨ti6,SlN.inb (eu i6)⟩) (by simp) (by simp; omega)
 have hl3:[y1::s++[y2],i.reverse].flatten=y1::s++y2::i.reverse:=by simp
 rw[hl3] at hcat3
 have kg6:(h6.keep 1).get h6.next=some .resv:=iR
 have wf1:IntKind.i64.wrap (((s.length+1:Nat):Int)+1)=((s.length+2:Nat):Int):=fz om om
 refine aj (nY (lh 11 (by simp only[am,aF,simprocAttr,bH,rk5,wf1,eF,bW,aH,fe,fA,eZ kg6,te.cells.1,ti6.cells.1,te.cells.2,ti6.cells.2,rp2,aw,aP,cF,bJ,Nat.reduceAdd,Nat.reduceLeDiff,if_true]<;>rfl) rfl (by simp only[am,aF,simprocAttr,bH,rk5,wf1,eF,bW,aH,fe,fA,eZ kg6,te.cells.1,ti6.cells.1,te.cells.2,ti6.cells.2,rp2,aw,aP,cF,bJ,Nat.reduceAdd,Nat.reduceLeDiff,if_true]) (by simp only[am,aF,simprocAttr,bH,rk5,wf1,eF,bW,aH,fe,fA,eZ kg6,te.cells.1,ti6.cells.1,te.cells.2,ti6.cells.2,rp2,aw,aP,cF,bJ,Nat.reduceAdd,Nat.reduceLeDiff,if_true]<;>rfl) (hcat3) λnv h7 hq=>?_))
 obtain⟨i7,x7,n7⟩:=hq
 have x07:Ext h.next h h7:=x06.trans (x7.mono N6)
 have u7:=u.ext x07 (ae _)
 have r57:ar h7 bb 5 1=some [fav]:=bq u7.o rfl
 have lt_fav:∀ b m,fav=.sl b 0 m m→b<h.next:=λb m e=>hF.lt e
 have F7:=hF.ext x07 (ae _)
 obtain⟨fb,fo,h8,s1,s2,F8,fl1,fl2,⟨oo,u8⟩,fm',hfm⟩:=F7.set (f:=f) (xs:=y1::s++y2::i.reverse) hf (i7.mono om) (λb m b' m' e e'=>by
  have l1:=lt_fav b' m' e'
  rcases i7 with ⟨h1,_⟩|⟨b2,m2,hb2,h1,_⟩
  ·rw[h1] at e; cases e
  ·rw[h1] at e; cases e; omega)
 have hsame:fav.same fav=true:=by rw[hfm]; simp [AV.same]
 refine⟨by simp only[am,aF,simprocAttr,r57]; exact hsame,?_⟩
 refine bI (by simp only[am,aF,simprocAttr,bH,s1,i7.cells.1,i7.cells.2,s2]<;>rfl) ?_
 have hfb:fb<h.next:=lt_fav fb fm' hfm
 have kfb:Kp (λc=>c=fb) h7 h8:=u8.kp rfl
 have u8':Bu h8 bb n ev edv E Bl la pa H V fav:=u7.kp kfb om om om (fT oe2 λc e=>by omega) (fT ob2 λc e=>by omega)
 have r58:ar h8 bb 5 1=some [fav]:=bq u8'.o rfl
 have n8:=u8.nx
 have lt_sv:∀ b m,sv=.sl b 0 m m→h4.next+1≤b∧b<h5.next:=λb m e=>⟨by
  rcases i5 with ⟨h1,_⟩|⟨b2,m2,hb2,h1,_⟩
  ·rw[h1] at e; cases e
  ·rw[h1] at e; cases e; exact hb2,i5.lt e⟩
 have i58:IsSl h8 1 (h4.next+1) sv (nC (y2::t++y1::i)):=i5.cong λb m e hb=>by
  have l1:=(lt_sv b m e).2
  rw[u8.ne om,x7.gt b om,fr6 b l1 (λb' m' e'=>by have:=i4.lt e'; omega)]
 have x9:Ext h8.next h8 (h8.new (.cells [sv] 1 false)):=Ly (ae _)
 have g9:(h8.new (.cells [sv] 1 false)).get h8.next=some (.cells [sv] 1 false):=by rw[AH.get_new,if_pos rfl]
 have N9:(h8.new (.cells [sv] 1 false)).next=h8.next+1:=rfl
 have hFsl:(F.set f (y1::s++y2::i.reverse)).length=F.length:=bE
 obtain⟨fav',h10,a10,F10,x10,n10,fr10,fa10⟩:=(F8.ext x9 (ae _)).push (xs:=y2::t++y1::i) om ((i58.mono om).ext x9 (ae _)) g9 om (λb m e=>by have:=lt_fav b m e; omega) (λb m b' m' e e'=>by
  have l1:=lt_fav b' m' e'
  have l2:=(lt_sv b m e).1
  omega) (by rw[hFsl]; unfold be; omega)
 have ty10:∀ c,h10.tyOf c=(h8.new (.cells [sv] 1 false)).tyOf c:=by
  obtain⟨vs,g1,g2,_⟩:=F8.ext x9 (ae _)
  have hdv:vs.length / 1=F.length:=by rw[g2,hFsl,kb]
  obtain⟨a2,h2',e1,_,_,_,_,_,e2⟩:=g1.app (bytes:=24) (x:=h8.next) (new:=[sv]) om om g9 om (λb m e=>by have:=lt_fav b m e; omega) rfl (by simp [i58.cells.2]) (by rw[hdv]; unfold be; omega) (by rw[hdv]; unfold be; omega)
  rw[a10] at e1
  cases e1
  exact e2
 have k10:Kp (λc=>c=fb) (h8.new (.cells [sv] 1 false)) h10:=⟨om,λc hc hne=>fr10 c hc λb m e=>by rw[hfm] at e; cases e; exact hne,λc _=>ty10 c⟩
 have u10:Bu h10 bb n ev edv E Bl la pa H V fav:=(u8'.ext x9 (ae _)).kp k10 om om om (fT oe2 λc e=>by omega) (fT ob2 λc e=>by omega)
 obtain⟨h11,w11,u11,o11,up11⟩:=u10.putF fav'
 have rp1:dg [AV.nils] 1=[.nils]:=rfl
 have hone:fav'.cells=[fav']∧fav'.one=true:=by
  obtain⟨vs,g1,_⟩:=F10; exact g1.cells
 refine aj (aj (bT (λts h'=>h'=h11∧aY ts 0=.ptr bb 0∧aY ts 2=wv) (by simp only[am,aF,simprocAttr,bH,r58,i58.cells.1,i58.cells.2,rp1,aw,aP,cF,bJ,Nat.reduceAdd,Nat.reduceLeDiff,if_true,a10,hone.1,hone.2,w11]) ?_))
 rintro ts h11' ⟨rfl,e0,e2⟩
 have back:∀ c,c<h.next→c≠bb→c≠fb→h11'.get c=h.get c:=λc hc h1 h2=>by
  rw[up11.ne h1,k10.gt c om h2,x9.gt c om,u8.ne h2,x07.gt c hc]
 have backT:∀ c,c<h.next→h11'.tyOf c=h.tyOf c:=λc hc=>by
  rw[up11.ty c,ty10 c,x9.ty c om,u8.ty c,x07.ty c hc]
 have hwfb:Off (λc=>c=fb) wv:=hwf fb fm' hfm
 have hw11:SlN h11' wv (y1::i++[y2]):=Sl.cong hw λb o m c e=>back b (Sl.lt hw e) (λq=>by
  rw[e] at hwo; exact hwo (.inr (.inr q))) (λq=>by rw[e] at hwfb; exact hwfb q)
 refine bO (bt 2 (M2 e0 e2) rfl (Z2 e0 e2) (M2 e0 e2) (xE u11 hE hL hn hm hB hBn hw11 hwn (by rw[wlen]; omega) (fT hwo λc e=>by rcases e with e|e; exact .inl e; exact .inr (.inl e))) λv12 h12 hq=>?_)
 obtain⟨H',V',u12,k12,hH',hV'⟩:=hq
 refine bI (M0) ?_
 have n11:=up11.nx
 refine⟨.tup [],rfl,s,t,H',V',fav',hface▸hrot,u12,F10.cong λc h1 h2=>?_,⟨?_,λc hc hne=>?_,λc hc=>?_⟩,hH',hV'⟩
 ·rw[k12.gt c om (by rintro (q|q)<;>omega),up11.ne om]
 ·have:=k12.nx; omega
 ·have h1:c≠bb:=λq=>hne (.inr (.inr (.inl q)))
  have h2:c≠fb:=λq=>hne (.inr (.inr (.inr om)))
  rw[k12.gt c om (by rintro (q|q); exact hne (.inl q); exact hne (.inr (.inl q))),back c hc h1 h2]
 ·rw[k12.ty c om,backT c hc]
open Go.Am
open Go.Blk (Gr Lst Cls)
theorem KV {k:IntKind}{a b:Int}:mI mnA [.int k a,.int k b]=some (.int k (if b<a then b else a)):=by
 simp [mI,mnA]
theorem De {ev:RO→AV}{h:AH}{n e:Nat}{z:List AV} (hg:h.get n=some .resv):iM ev h n (.new z e)=some (.ptr n 0,h.put n (.cells z e false)):=by
 rw[lG hg]
 rfl
end Go.Proofs.YtpeemonpdlifbaaGreat
