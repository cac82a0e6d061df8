/- planar -/
import Derived.Test.YtlolkmcdimgplaaGreatVTAT
set_option linter.all false
namespace Go.Proofs.YtlolkmcdimgplaaGreat
open Go.Am
open Go.Pla (at_ jn On Rot)
variable {Bl i l:List Nat}{E:List (Int×Int)}{F:List (List Nat)}{H V:Nat->Bool}{bb e e0 f lo n pa y2:Nat}{edv ev fav v:AV}{g:Go.Blk.Gr}{h:AH}{p:Pc}{ps:List Pc}{pt:Nat->Nat}{z:List AV}
theorem ui{c:Nat}(hc:c<h.next):(h.keep 1).get c=h.get c:=by rw[AH.keep_get,if_neg om]
theorem catK{vs:List AV}{ls:List (List Nat)}(hl:vs.length=ls.length)(hs:∀(i:Nat) (v:AV) (l:List Nat),vs[i]?=some v->ls[i]?=some l->SlN (h.keep 1) v l/\InB (λb=>b<h.next) v)(hn:ls.length<2^30)(ht:ls.flatten.length<2^34) :
 C prg 99 [.sl h.next 0 vs.length vs.length] ((h.keep 1).put h.next (.cells vs 1 false)) λr h'=>IsSl h' 1 (h.next+1) r (nC ls.flatten)/\Ext h.next h h'/\h.next+1<=h'.next:=by
 obtain⟨p1,p2,p3,p4⟩:=mC (h:=h) (o:=.cells vs 1 false);refine(uK (v:=.sl h.next 0 vs.length vs.length) (vs:=vs) (xss:=ls.map λl=>l.map λn=>((n:Nat):Int)) (Sl.row p2 rfl (ab _)) (by rw[ah];exact hl) (λi w xs h1 h2=>?_) (by rw[ah];exact hn) ?_).mono λr h' hq=>?_
 .rw[aG]at h2;obtain⟨l,hl',rfl⟩:=aE.1 h2;obtain⟨s1,b1⟩:=hs i w l h1 hl';exact s1.cong λb o n c e=>by
   have hb:b<h.next:=by rw[e]at b1;exact b1
   rw[p4 b hb,ui hb]
 .rw[<-List.map_flatten,ah];exact ht
 .obtain⟨i,x⟩:=hq;rw[p3]at i x;have e:((ls.map λl=>l.map λn=>((n:Nat):Int)).flatten).flatMap eI=nC ls.flatten:=by rw[nC,<-List.map_flatten]
  rw[e]at i;exact⟨i,p1.trans (x.mono om),by have:=x.nx;rw[p3]at this;exact this⟩
theorem yc{x:Nat}:∀(a b:List Nat) (i:Nat),x∉a->iB (((x:Nat):Int)==·) ((a++x::b).map λn=>((n:Nat):Int)) i=((i+a.length:Nat):Int)
 |[],b,i,_=>by simp[iB]
 |y::a,b,i,h=>by
   have h1:x≠y:=λe=>h (by simp[e]);have h2:(((x:Nat):Int)==((y:Nat):Int))=false:=by rw[beq_eq_false_iff_ne];omega
   rw[aH,aS,iB,h2,yc a b (i+1) λe=>h (aQ _ e)];simp only[bC,if_false,ar];congr 1;omega
theorem LL.set{h:AH}{lo:Nat}{a v:AV}{xss:List (List Nat)}{xs:List Nat}(hl:LL h lo a xss){f:Nat}(hf:f<xss.length)(hv:IsSl h 1 lo v (nC xs))(hva:∀b n b' n',v=.sl b 0 n n->a=.sl b' 0 n' n'->b≠b') :
 ∃b o h',lz 1 a (.int .i64 (f:Nat))=some (.ptr b o)/\cj h b o [v]=some h'/\LL h' lo a (xss.set f xs)/\lo<=b/\b<h.next/\(∃oo,Upd h h' b oo)/\∃n,a=.sl b 0 n n:=by
 obtain⟨vs,h1,h2,h3⟩:=hl;rcases h1 with⟨rfl,rfl⟩|⟨b,n,hb,rfl,hg,hn⟩
 .simp at h2;omega
 .rw[bh]at hn;have hfv:f<vs.length:=om;have w:=iP (v:=v) hg (i:=f) hfv;have uu:=Nv (o:=.cells (vs.set f v) 1 false) hg;refine⟨b,f,_,?_,w,⟨vs.set f v,.inr ⟨b,n,hb,rfl,uu.get,by rw[dh,hn,bh]⟩,by rw[dh,dh];exact h2,λi w' ys e1 e2=>?_⟩,hb,AH.lt_of_get hg,⟨_,uu⟩,n,rfl⟩
  .have:=eU (i:=f) (n:=n) om;simp only[lz,this];simp
  .have keep:∀(w:AV) (cs:List AV),IsSl h 1 lo w cs->(∀b' n' b'' n'',w=.sl b' 0 n' n'->AV.sl b 0 n n=.sl b'' 0 n'' n''->b'≠b'')->IsSl (h.put b (.cells (vs.set f v) 1 false)) 1 lo w cs:=λw cs hw hne=>hw.cong λb' n' e _=>uu.ne (hne b' n' b n e rfl);by_cases hif:i=f
   .subst hif;rw[cK hfv]at e1;rw[cK hf]at e2;cases e1;cases e2;exact⟨keep v _ hv hva,hva⟩
   .rw[cQ (Ne.symm hif)]at e1 e2;obtain⟨q1,q2⟩:=h3 i w' ys e1 e2;exact⟨keep w' _ q1 q2,q2⟩
theorem KJ{z:Nat}(h:z<2^62):IntKind.i64.wrap (((z+1:Nat):Int)-1)=((z:Nat):Int):=by
 have:((z+1:Nat):Int)-1=((z:Nat):Int):=om;rw[this];exact fx om om
theorem SlN.keep1(s:SlN h v l):SlN (h.keep 1) v l:=Sl.cong s λ_ _ _ _ e=>ui (Sl.lt s e)
theorem SlN.inb(s:SlN h v l):InB (λb=>b<h.next) v:=by
 cases hv:v with
 |sl b o n c=>exact Sl.lt s hv
 |_=>trivial
set_option maxHeartbeats 4000000 in
theorem Bp{f:Nat}{wv:AV}{la:Nat}{y1:Nat}(u:Bu h bb n ev edv E Bl la pa H V fav)(hE:InG n E)(hL:∀i,i<E.length->tlE E i≠hdE E i)(hn:n<2^30)(hm:E.length<2^30)(hB:∀i∈Bl,i<E.length)(hBn:Bl.length<2^30)
 (hF:LL h lo fav F) (hFl:F.length<2^30) (hlo:la<lo/\pa<lo/\bb<lo/\lo<=h.next) (hf:f<F.length) (hcl:F[f].length<2^30) (hcn:F[f].Nodup) (hw:SlN h wv (y1::i++[y2])) (hwl:i.length<2^29) (hwn:∀z∈y1::i++[y2],z<n) (hwd:(y1::i++[y2]).Nodup) (hwo:Off (λc=>c=la\/c=pa\/c=bb) wv) (hwf:∀b m,fav=.sl b 0 m m->Off (λc=>c=b) wv) (m1:y1∈F[f]) (m2:y2∈F[f]) (oe2:Off (λc=>lo<=c) ev) (ob2:Off (λc=>lo<=c) edv) :
 C prg 76 [.ptr bb 0,.int .i64 (f:Nat),wv] h λ_ h'=>∃s t H' V' fav',Rot F[f] (y1::s++y2::t)/\Bu h' bb n ev edv E Bl la pa H' V' fav'/\LL h' lo fav' (F.set f (y1::s++y2::i.reverse)++[y2::t++y1::i])/\Kp (λc=>c=la\/c=pa\/c=bb\/lo<=c) h h'/\(∀j,H' j=true↔H j=true\/(j∈Bl/\On (grE n E hE hL) (y1::i++[y2]) j))/\(∀v,V' v=true↔V v=true\/v∈y1::i++[y2]):=by
 have hne:y1≠y2:=by
  intro e;rw[aN]at hwd;exact hwd.2.2 y1 (by simp) y2 (by simp) e
 obtain⟨a0,b0,hc⟩:=cw m1;generalize hcc:F[f]=c at *
 have ha0:y1∉a0:=by
  intro hm;rw[hc,aN]at hcn;exact hcn.2.2 y1 hm y1 (by simp) rfl
 have hrot:Rot c (y1::b0++a0):=⟨a0,y1::b0,hc,rfl⟩
 have hm2:y2∈b0++a0:=by
  have:=hrot.mem.2 m2;simpa[Ne.symm hne]using this
 obtain⟨s,t,hst⟩:∃s t,b0++a0=s++y2::t:=cw hm2;have hface:y1::b0++a0=y1::s++y2::t:=by rw[aH,hst];rfl
 have hnd:(y1::s++y2::t).Nodup:=by
  rw[<-hface];have:(y1::b0++a0).Perm c:=by rw[hc];exact jC
  exact this.nodup_iff.2 hcn
 have hs2:y2∉y1::s:=by
  intro hm;rw[aN]at hnd;exact hnd.2.2 y2 hm y2 (by simp) rfl
 have hlen:c.length=s.length+t.length+2:=by
  have h1:=congrArg List.length hc;have h2:=congrArg List.length hst;simp at h1 h2;omega
 have hal:a0.length<c.length:=by rw[hc];simp
 refine Ny pf76 ?_;have r5:aA h bb 5 1=some [fav]:=bJ u.o rfl;obtain⟨b1,o1,fv,q1,q2,q3,_⟩:=hF.at hf;rw[hcc]at q3;refine ai (aD (Mi3 r5 q1 q2) ?_);obtain⟨bw,ow,w1,w2,_⟩:=hw.at1 (i:=0) (y:=.int .i64 (y1:Nat)) rfl;rw[de]at w1;have hi1:=tj (y:=((y1:Nat):Int)) (et q3) (by rw[ah];omega);rw[hc,yc a0 b0 0 ha0,cq]at hi1;refine ai (bS (bE 4 (Mi2 w1 w2) rfl (Zi2 w1 w2) (Mi2 w1 w2) (hi1) λr h1 hq=>?_));obtain⟨rfl,x1⟩:=hq;refine bM (M0) ?_;have n1:=x1.nx;have sf:=SlN.keep1 ((et q3).ext x1 (ab _));have inf:=SlN.inb ((et q3).ext x1 (ab _));obtain⟨va,fa,ta,ia,_⟩:=Sl.from sf (lo:=a0.length) (by rw[ah,ah];omega);obtain⟨vb,fb,tb,ib,_⟩:=Sl.upto sf (hi:=a0.length) (by rw[ah,ah];omega);have ta:SlN (h1.keep 1) va (y1::b0):=by
  rw[<-fE,<-fE,hc,qh]at ta;exact ta
 have tb:SlN (h1.keep 1) vb a0:=by
  rw[<-eM,<-eM,hc,yG]at tb;exact tb
 have hcat1:=catK (h:=h1) (vs:=[va,vb]) (ls:=[y1::b0,a0]) rfl (λj v l e1 e2=>by
  have hj:j=0\/j=1:=by
   have:=(aF.1 e1).1;simp at this;omega
  rcases hj with rfl|rfl
  .simp only[aW,aa]at e1 e2;subst e1 e2;exact⟨ta,ia _ inf⟩
  .simp only[cR,aW,aa]at e1 e2;subst e1 e2;exact⟨tb,ib _ inf⟩) (by simp) (by simp;rw[hc]at hcl;simp at hcl;omega)
 have hl1:[y1::b0,a0].flatten=y1::s++y2::t:=by rw[<-hface];simp
 rw[hl1]at hcat1;have rp2:dA [AV.nils] 2=[.nils,.nils]:=rfl;have kg1:(h1.keep 1).get h1.next=some .resv:=iA;refine ai (pZ (bE 7 (by simp only[am,aI,simprocAttr,dY,bN,aC,fa,fb,fz,eV kg1,ta.cells.1,tb.cells.1,ta.cells.2,tb.cells.2,rp2,ar,aU,cN,bT,Nat.reduceAdd,Nat.reduceLeDiff,if_true]<;>rfl) rfl (by simp only[am,aI,simprocAttr,dY,bN,aC,fa,fb,fz,eV kg1,ta.cells.1,tb.cells.1,ta.cells.2,tb.cells.2,rp2,ar,aU,cN,bT,Nat.reduceAdd,Nat.reduceLeDiff,if_true]) (by simp only[am,aI,simprocAttr,dY,bN,aC,fa,fb,fz,eV kg1,ta.cells.1,tb.cells.1,ta.cells.2,tb.cells.2,rp2,ar,aU,cN,bT,Nat.reduceAdd,Nat.reduceLeDiff,if_true]<;>rfl) (hcat1) λr h2 hq=>?_));obtain⟨i2,x2,n2⟩:=hq;refine bM (M0) ?_;have x02:Ext h.next h h2:=x1.trans (x2.mono n1);have hw2:=Sl.ext hw x02 (ab _);have wl2:=hw2.len;have wlen:(y1::i++[y2]).length=i.length+2:=by simp
 rw[ah,ah,wlen]at wl2;have wr2:IntKind.i64.wrap (((i.length+2:Nat):Int)-1)=((i.length+1:Nat):Int):=KJ (z:=i.length+1) om;obtain⟨bl2,ol2,al2,rl2,_⟩:=hw2.at1 (i:=i.length+1) (y:=.int .i64 (y2:Nat)) (by
  rw[aG,aG,aV (by simp)];simp[eI])
 have hfl:(y1::s++y2::t).length=c.length:=by rw[hlen];simp;omega
 have hi2:=tj (y:=((y2:Nat):Int)) (et i2) (by rw[ah,hfl];omega);rw[yc (y1::s) t 0 hs2,cq,ar]at hi2;refine ai (bS (bE 7 (Mi4 wl2 wr2 al2 rl2) rfl (Zi4 wl2 wr2 al2 rl2) (Mi4 wl2 wr2 al2 rl2) (hi2) λr3 h3 hq=>?_));obtain⟨rfl,x3⟩:=hq;refine bM (M0) ?_;have n3:=x3.nx;have x03:Ext h.next h h3:=x02.trans (x3.mono om);have hw3:=Sl.ext hw x03 (ab _);have wl3:=hw3.len;rw[ah,ah,wlen]at wl3;obtain⟨wm,fm,tm,_,_⟩:=Sl.part hw3 (lo:=1) (hi:=i.length+1) om (by rw[ah,ah,wlen];omega);rw[Int.natCast_one]at fm;have tm:SlN h3 wm i:=by
  have e:((((y1::i++[y2]).map λn=>((n:Nat):Int)).map eI).drop 1).take (i.length+1-1)=(i.map λn=>((n:Nat):Int)).map eI:=by
   rw[<-fE,<-fE,<-eM,<-eM];simp
  rw[e]at tm;exact tm
 refine ai (bS (bE 5 (by simp only[am,aI,simprocAttr,bP,dY,bN,aC,wl3,wr2,fm]<;>rfl) rfl (by simp only[am,aI,simprocAttr,bP,dY,bN,aC,wl3,wr2,fm]) (by simp only[am,aI,simprocAttr,bP,dY,bN,aC,wl3,wr2,fm]<;>rfl) (oW tm (by rw[ah];omega)) λiv h4 hq=>?_));obtain⟨i4,x4,_⟩:=hq;have i4:IsSl h4 1 h3.next iv (nC i):=i4;refine bM (M0) ?_;have n4:=x4.nx;have i24:=(i2.ext x3 (ab _)).ext x4 (ab _);have sf4:=SlN.keep1 (et i24);have inf4:=SlN.inb (et i24);obtain⟨vc,fc',tc,ic,_⟩:=Sl.from sf4 (lo:=(y1::s).length) (by rw[ah,ah,hfl,ar];omega);obtain⟨vd,fd,td,id',_⟩:=Sl.upto sf4 (hi:=1) (by rw[ah,ah,hfl];omega);have tc:SlN (h4.keep 1) vc (y2::t):=by
  rw[<-fE,<-fE,qh]at tc;exact tc
 have td:SlN (h4.keep 1) vd [y1]:=by
  rw[<-eM,<-eM]at td;exact td
 have ti:=SlN.keep1 (et i4);have hcat2:=catK (h:=h4) (vs:=[vc,vd,iv]) (ls:=[y2::t,[y1],i]) rfl (λj v l e1 e2=>by
  have hj:j=0\/j=1\/j=2:=by
   have:=(aF.1 e1).1;simp at this;omega
  rcases hj with rfl|rfl|rfl
  .simp only[aW,aa]at e1 e2;subst e1 e2;exact⟨tc,ic _ inf4⟩
  .simp only[cR,aW,aa]at e1 e2;subst e1 e2;exact⟨td,id' _ inf4⟩
  .simp only[cR,aW,aa]at e1 e2;subst e1 e2;exact⟨ti,SlN.inb (et i4)⟩) (by simp) (by simp;omega)
 have hl2:[y2::t,[y1],i].flatten=y2::t++y1::i:=by simp
 rw[hl2]at hcat2;have rp3:dA [AV.nils] 3=[.nils,.nils,.nils]:=rfl;have kg4:(h4.keep 1).get h4.next=some .resv:=iA;rw[Int.natCast_one]at fd;rw[ar]at fc';refine ai (pZ (bE 7 (by simp only[am,aI,simprocAttr,dY,bN,aC,fc',fd,fz,eV kg4,tc.cells.1,td.cells.1,ti.cells.1,tc.cells.2,td.cells.2,ti.cells.2,rp3,ar,aU,cN,bT,Nat.reduceAdd,Nat.reduceLeDiff,if_true]<;>rfl) rfl (by simp only[am,aI,simprocAttr,dY,bN,aC,fc',fd,fz,eV kg4,tc.cells.1,td.cells.1,ti.cells.1,tc.cells.2,td.cells.2,ti.cells.2,rp3,ar,aU,cN,bT,Nat.reduceAdd,Nat.reduceLeDiff,if_true]) (by simp only[am,aI,simprocAttr,dY,bN,aC,fc',fd,fz,eV kg4,tc.cells.1,td.cells.1,ti.cells.1,tc.cells.2,td.cells.2,ti.cells.2,rp3,ar,aU,cN,bT,Nat.reduceAdd,Nat.reduceLeDiff,if_true]<;>rfl) (hcat2) λsv h5 hq=>?_));obtain⟨i5,x5,n5⟩:=hq;refine bM (M0) ?_;have i45:=i4.ext x5 (ab _);refine ai (bS (bE 1 (M0) rfl (Z0) (M0) (xy i45 om) λv6 h6 hq=>?_));obtain⟨i6,x6,n6,fr6⟩:=hq;refine bM (M0) ?_;have X26:Ext h2.next h2 h6:=(x3.mono (ab _)).trans ((x4.mono om).trans ((x5.mono om).trans (x6.mono om)));have x06:Ext h.next h h6:=x02.trans (X26.mono om);have N6:=x06.nx;have u6:=u.ext x06 (ab _);have i26:=i2.ext X26 (ab _);have lt_bb:=AH.lt_of_get u.o;have gk6:∀c,c<h6.next->(h6.keep 1).get c=h6.get c:=λc hc=>ui hc;have rk5:aA (h6.keep 1) bb 5 1=some [fav]:=by rw[cU (gk6 bb om)];exact bJ u6.o rfl
 have sf6:=SlN.keep1 (et i26);have inf6:=SlN.inb (et i26);obtain⟨ve,fe,te,ie,_⟩:=Sl.upto sf6 (hi:=s.length+2) (by rw[ah,ah,hfl,hlen];omega);have te:SlN (h6.keep 1) ve (y1::s++[y2]):=by
  rw[<-eM,<-eM]at te;have e:(y1::s++y2::t).take (s.length+2)=y1::s++[y2]:=by
   rw[show y1::s++y2::t=(y1::s++[y2])++t by simp];exact jj (by simp)
  rw[e]at te;exact te
 have ti6:=SlN.keep1 (et i6);have hcat3:=catK (h:=h6) (vs:=[ve,iv]) (ls:=[y1::s++[y2],i.reverse]) rfl (λj v l e1 e2=>by
  have hj:j=0\/j=1:=by
   have:=(aF.1 e1).1;simp at this;omega
  rcases hj with rfl|rfl
  .simp only[aW,aa]at e1 e2;subst e1 e2;exact⟨te,ie _ inf6⟩
  .simp only[cR,aW,aa]at e1 e2;subst e1 e2;exact⟨ti6,SlN.inb (et i6)⟩) (by simp) (by simp;omega)
 have hl3:[y1::s++[y2],i.reverse].flatten=y1::s++y2::i.reverse:=by simp
 rw[hl3]at hcat3;have kg6:(h6.keep 1).get h6.next=some .resv:=iA;have wf1:IntKind.i64.wrap (((s.length+1:Nat):Int)+1)=((s.length+2:Nat):Int):=fx om om;refine ai (pZ (oK 11 (by simp only[am,aI,simprocAttr,bP,rk5,wf1,dY,bN,aC,fe,fz,eV kg6,te.cells.1,ti6.cells.1,te.cells.2,ti6.cells.2,rp2,ar,aU,cN,bT,Nat.reduceAdd,Nat.reduceLeDiff,if_true]<;>rfl) rfl (by simp only[am,aI,simprocAttr,bP,rk5,wf1,dY,bN,aC,fe,fz,eV kg6,te.cells.1,ti6.cells.1,te.cells.2,ti6.cells.2,rp2,ar,aU,cN,bT,Nat.reduceAdd,Nat.reduceLeDiff,if_true]) (by simp only[am,aI,simprocAttr,bP,rk5,wf1,dY,bN,aC,fe,fz,eV kg6,te.cells.1,ti6.cells.1,te.cells.2,ti6.cells.2,rp2,ar,aU,cN,bT,Nat.reduceAdd,Nat.reduceLeDiff,if_true]<;>rfl) (hcat3) λnv h7 hq=>?_));obtain⟨i7,x7,n7⟩:=hq;have x07:Ext h.next h h7:=x06.trans (x7.mono N6);have u7:=u.ext x07 (ab _);have r57:aA h7 bb 5 1=some [fav]:=bJ u7.o rfl;have lt_fav:∀b m,fav=.sl b 0 m m->b<h.next:=λb m e=>hF.lt e;have F7:=hF.ext x07 (ab _);obtain⟨fb,fo,h8,s1,s2,F8,fl1,fl2,⟨oo,u8⟩,fm',hfm⟩:=F7.set (f:=f) (xs:=y1::s++y2::i.reverse) hf (i7.mono om) (λb m b' m' e e'=>by
  have l1:=lt_fav b' m' e';rcases i7 with⟨h1,_⟩|⟨b2,m2,hb2,h1,_⟩
  .rw[h1]at e;cases e
  .rw[h1]at e;cases e;omega)
 have hsame:fav.same fav=true:=by rw[hfm];simp[AV.same]
 refine⟨by simp only[am,aI,simprocAttr,r57];exact hsame,?_⟩;refine bM (by simp only[am,aI,simprocAttr,bP,s1,i7.cells.1,i7.cells.2,s2]<;>rfl) ?_;have hfb:fb<h.next:=lt_fav fb fm' hfm;have kfb:Kp (λc=>c=fb) h7 h8:=u8.kp rfl;have u8':Bu h8 bb n ev edv E Bl la pa H V fav:=u7.kp kfb om om om (gH oe2 λc e=>by omega) (gH ob2 λc e=>by omega);have r58:aA h8 bb 5 1=some [fav]:=bJ u8'.o rfl;have n8:=u8.nx;have lt_sv:∀b m,sv=.sl b 0 m m->h4.next+1<=b/\b<h5.next:=λb m e=>⟨by
  rcases i5 with⟨h1,_⟩|⟨b2,m2,hb2,h1,_⟩
  .rw[h1]at e;cases e
  .rw[h1]at e;cases e;exact hb2,i5.lt e⟩
 have i58:IsSl h8 1 (h4.next+1) sv (nC (y2::t++y1::i)):=i5.cong λb m e hb=>by
  have l1:=(lt_sv b m e).2;rw[u8.ne om,x7.gt b om,fr6 b l1 (λb' m' e'=>by have:=i4.lt e';omega)]
 have x9:Ext h8.next h8 (h8.new (.cells [sv] 1 false)):=Nt (ab _);have g9:(h8.new (.cells [sv] 1 false)).get h8.next=some (.cells [sv] 1 false):=by rw[AH.get_new,if_pos rfl]
 have N9:(h8.new (.cells [sv] 1 false)).next=h8.next+1:=rfl;have hFsl:(F.set f (y1::s++y2::i.reverse)).length=F.length:=dh;obtain⟨fav',h10,a10,F10,x10,n10,fr10,fa10⟩:=(F8.ext x9 (ab _)).push (xs:=y2::t++y1::i) om ((i58.mono om).ext x9 (ab _)) g9 om (λb m e=>by have:=lt_fav b m e;omega) (λb m b' m' e e'=>by
  have l1:=lt_fav b' m' e';have l2:=(lt_sv b m e).1;omega) (by rw[hFsl];unfold bq;omega)
 have ty10:∀c,h10.tyOf c=(h8.new (.cells [sv] 1 false)).tyOf c:=by
  obtain⟨vs,g1,g2,_⟩:=F8.ext x9 (ab _);have hdv:vs.length/1=F.length:=by rw[g2,hFsl,lG]
  obtain⟨a2,h2',e1,_,_,_,_,_,e2⟩:=g1.app (bytes:=24) (x:=h8.next) (new:=[sv]) om om g9 om (λb m e=>by have:=lt_fav b m e;omega) rfl (by simp[i58.cells.2]) (by rw[hdv];unfold bq;omega) (by rw[hdv];unfold bq;omega);rw[a10]at e1;cases e1;exact e2
 have k10:Kp (λc=>c=fb) (h8.new (.cells [sv] 1 false)) h10:=⟨om,λc hc hne=>fr10 c hc λb m e=>by rw[hfm]at e;cases e;exact hne,λc _=>ty10 c⟩
 have u10:Bu h10 bb n ev edv E Bl la pa H V fav:=(u8'.ext x9 (ab _)).kp k10 om om om (gH oe2 λc e=>by omega) (gH ob2 λc e=>by omega);obtain⟨h11,w11,u11,o11,up11⟩:=u10.putF fav';have rp1:dA [AV.nils] 1=[.nils]:=rfl;have hone:fav'.cells=[fav']/\fav'.one=true:=by
  obtain⟨vs,g1,_⟩:=F10;exact g1.cells
 refine ai (ai (bW (λts h'=>h'=h11/\aR ts 0=.ptr bb 0/\aR ts 2=wv) (by simp only[am,aI,simprocAttr,bP,r58,i58.cells.1,i58.cells.2,rp1,ar,aU,cN,bT,Nat.reduceAdd,Nat.reduceLeDiff,if_true,a10,hone.1,hone.2,w11]) ?_));rintro ts h11' ⟨rfl,e0,e2⟩;have back:∀c,c<h.next->c≠bb->c≠fb->h11'.get c=h.get c:=λc hc h1 h2=>by
  rw[up11.ne h1,k10.gt c om h2,x9.gt c om,u8.ne h2,x07.gt c hc]
 have backT:∀c,c<h.next->h11'.tyOf c=h.tyOf c:=λc hc=>by
  rw[up11.ty c,ty10 c,x9.ty c om,u8.ty c,x07.ty c hc]
 have hwfb:Off (λc=>c=fb) wv:=hwf fb fm' hfm;have hw11:SlN h11' wv (y1::i++[y2]):=Sl.cong hw λb o m c e=>back b (Sl.lt hw e) (λq=>by
  rw[e]at hwo;exact hwo (.inr (.inr q))) (λq=>by rw[e]at hwfb;exact hwfb q)
 refine bS (bE 2 (M2 e0 e2) rfl (Z2 e0 e2) (M2 e0 e2) (zt u11 hE hL hn hm hB hBn hw11 hwn (by rw[wlen];omega) (gH hwo λc e=>by rcases e with e|e;exact .inl e;exact .inr (.inl e))) λv12 h12 hq=>?_);obtain⟨H',V',u12,k12,hH',hV'⟩:=hq;refine bM (M0) ?_;have n11:=up11.nx;refine⟨.tup [],rfl,s,t,H',V',fav',hface▸hrot,u12,F10.cong λc h1 h2=>?_,⟨?_,λc hc hne=>?_,λc hc=>?_⟩,hH',hV'⟩
 .rw[k12.gt c om (by rintro (q|q)<;>omega),up11.ne om]
 .have:=k12.nx;omega
 .have h1:c≠bb:=λq=>hne (.inr (.inr (.inl q)));have h2:c≠fb:=λq=>hne (.inr (.inr (.inr om)));rw[k12.gt c om (by rintro (q|q);exact hne (.inl q);exact hne (.inr (.inl q))),back c hc h1 h2]
 .rw[k12.ty c om,backT c hc]
open Go.Am
open Go.Blk (Gr Lst Cls)
theorem MH{k:IntKind}{a b:Int}:lA mnA [.int k a,.int k b]=some (.int k (if b<a then b else a)):=by
 simp[lA,mnA]
theorem Fm{ev:RO->AV}(hg:h.get n=some .resv):jJ ev h n (.new z e)=some (.ptr n 0,h.put n (.cells z e false)):=by
 rw[ng hg];rfl
open Go.Am
open Go.Pla (at_ jn On Rot Pln Bond Link Part Plc Hg Bld Dual Thr)
theorem PcL.at{h:AH}{lo:Nat}{v:AV}{ps:List Pc}(hl:PcL h lo v ps){i:Nat}(hi:i<ps.length):∃b o atv,lz 3 v (.int .i64 (i:Nat))=some (.ptr b o)/\aA h b o 3=some [atv,.int .i64 ps[i].2.1,.int .i64 ps[i].2.2]/\IsSl h 1 lo atv (nC ps[i].1)/\b<h.next:=by
 obtain⟨qs,h1,h2,h3⟩:=hl;have hs:Sl h 3 v (qs.map cP):=Nq om (λ_=>rfl) h1;have hq:qs[i]?=some (qs[i]'om):=ae _;obtain⟨b,o,q1,q2,_,q3⟩:=hs.at (i:=i) (x:=cP (qs[i]'om)) (by rw[aG,hq];rfl);obtain⟨s1,s2,_⟩:=h3 i _ _ hq (ae hi);refine⟨b,o,(qs[i]'om).1,q1,?_,s1,q3⟩;rw[q2,cP,s2]
theorem PcL.len(hl:PcL h lo v ps):ly v=some (.int .i64 (ps.length:Nat)):=by
 obtain⟨qs,h1,h2,h3⟩:=hl;rcases h1 with⟨rfl,hz⟩|⟨b,n,_,rfl,hg,hn⟩
 .have:=congrArg List.length hz;rw[Cf,aU]at this;have:ps.length=0:=om;rw[this];rfl
 .rw[Cf]at hn;have:n=ps.length:=om;rw[this];rfl
theorem jY:f∈fq F l↔f<F.length/\∀x∈l,x∈Go.Pla.fcs F f:=by
 simp[fq,mY,Go.Pla.fcs]
theorem Li:(fq F l).Nodup:=List.nodup_range.filter _
theorem Mg{g:Go.Blk.Gr}{B:List Nat}(p:Pln g B):∀{t:List Nat}{x:Nat},Go.Pla.Ch g B (x::t)->t≠[]->∀z∈x::t,∃e∈B,at_ g e z=true
 |[],_,_,h,_,_=>absurd rfl h
 |y::t,x,hc,_,z,hz=>by
   obtain⟨⟨e,he,hj⟩,hc'⟩:=hc;rcases ao.1 hz with rfl|hz
   .exact⟨e,he,by rw[p.jat he hj];simp[Ne.symm (p.jne he hj)]⟩
   .cases t with
    |nil =>
      have:z=y:=by simpa using hz
      subst this;exact⟨e,he,by rw[p.jat he hj];simp[p.jne he hj]⟩
    |cons q t=>exact Mg p hc' (by simp) z hz
theorem MN{cs:List AV}{o:AO}(hg:h.get n=some o)(hl:z.length=cs.length):∃h2,cj (h.put n (.cells z e false)) n 0 cs=some h2/\Upd h h2 n (.cells cs e false):=by
 have u1:=Nv (o:=.cells z e false) hg;have u2:=Nv (o:=.cells cs e false) u1.get;refine⟨(h.put n (.cells z e false)).put n (.cells cs e false),?_,⟨by rw[u2.nx,u1.nx],λc=>by rw[u2.gt c,u1.gt c];split<;>rfl,λc=>by rw[u2.ty c,u1.ty c]⟩⟩;rw[ez u1.get,if_pos om];congr 3;simp only[dD,eZ,bt,cq];rw[cL om,bV]
theorem KI(hp:Pln g Bl)(hb:Bond g Bl)(I:Bld g Bl H V F)(P:Part g Bl H pt)(o:Of g Bl H V pt p e0)(h:fq F p.1=[]):¬ ∃(Φ:Type) (l r:Nat->Φ),Dual g Bl l r:=λhd=>by
 obtain⟨f,hf,hv⟩:=Go.Pla.part_fits hp hb P (I.can hd) o.mem;have:f∈fq F p.1:=jY.2 ⟨hf,λx hx=>hv x ((o.hgs x).1 hx)⟩;rw[h]at this;simp at this
theorem JC(hp:Pln g Bl)(hb:Bond g Bl)(hl:Link g Bl)(I:Bld g Bl H V F)(P:Part g Bl H pt)(hps:∀e∈Bl,H e=false->∃p∈ps,∃e0,Of g Bl H V pt p e0/\pt e0=pt e)(o:Of g Bl H V pt p e0)(hmin:∀q∈ps,(fq F p.1).length<=(fq F q.1).length){rest:List Nat}(hfit:fq F p.1=f::rest){y1:Nat}(t:Thr g Bl H V pt e0 y1 y2 i){s tl':List Nat}(hr:Rot (Go.Pla.fcs F f) (y1::s++y2::tl')){H' V':Nat->Bool}(hH':∀j,H' j=true↔H j=true\/(j∈Bl/\On g (y1::i++[y2]) j))(hV':∀v,V' v=true↔V v=true\/v∈y1::i++[y2]) :
 Bld g Bl H' V' (F.set f (y1::s++y2::i.reverse)++[y2::tl'++y1::i])/\∃e∈Bl,H e=false/\H' e=true:=by
 have hff:f∈fq F p.1:=by rw[hfit];simp
 obtain⟨hf,hfv⟩:=jY.1 hff;constructor
 .refine Go.Pla.inv_cut hp hb hl I P hf hr t.ch t.nd t.fr t.new (λe he ho v hv=>?_) ?_ (λe he=>?_) hV'
  .rw[t.part e he ho]at hv;exact hfv v ((o.hgs v).2 hv)
  .cases rest with
   |nil =>
     refine .inl λe he ho h hh hv=>?_;have:h∈fq F p.1:=jY.2 ⟨hh,λx hx=>hv x (by rw[t.part e he ho];exact(o.hgs x).1 hx)⟩;rw[hfit]at this;simpa using this
   |cons f2 rest =>
     refine .inr λe he hH=>?_;obtain⟨q,hq,e1,o1,h1⟩:=hps e he hH;have h2:=hmin q hq;rw[hfit]at h2;cases hfq:fq F q.1 with
     |nil=>rw[hfq]at h2;simp at h2
     |cons a l =>
       cases l with
       |nil=>rw[hfq]at h2;simp at h2
       |cons b l =>
         have nd:=Li (F:=F) (l:=q.1);rw[hfq]at nd;have ha:a∈fq F q.1:=by rw[hfq];simp
         have hb':b∈fq F q.1:=by rw[hfq];simp
         refine⟨a,b,(jY.1 ha).1,(jY.1 hb').1,λe=>by subst e;simp at nd,λv hv=>?_⟩;have:v∈q.1:=(o1.hgs v).2 (by rw[h1];exact hv);exact⟨(jY.1 ha).2 v this,(jY.1 hb').2 v this⟩
  .rw[hH'];constructor
   .rintro (h|⟨_,h⟩)
    .exact .inl h
    .exact .inr h
   .rintro (h|h)
    .exact .inl h
    .exact .inr ⟨he,h⟩
 .have hch:=t.ch;have key:∃e∈Bl,On g (y1::i++[y2]) e:=by
   cases i with
   |nil=>obtain⟨⟨e,he,hj⟩,_⟩:=hch;exact⟨e,he,[],y1,y2,[],rfl,hj⟩
   |cons q i=>obtain⟨⟨e,he,hj⟩,_⟩:=hch;exact⟨e,he,[],y1,q,i++[y2],rfl,hj⟩
  obtain⟨e,he,ho⟩:=key;exact⟨e,he,t.fresh hp I.plc e he ho,(hH' e).2 (.inr ⟨he,ho⟩)⟩
set_option maxHeartbeats 4000000 in
theorem EA{lo2:Nat}{pv:AV}{la:Nat}(u:Bu h bb n ev edv E Bl la pa H V fav)(hE:InG n E)(hL:∀i,i<E.length->tlE E i≠hdE E i)(hn:n<2^29)(hm:E.length<2^29)(hB:∀i∈Bl,i<E.length)(hBn:Bl.length<2^29)
 (hp:Pln (grE n E hE hL) Bl) (hb:Bond (grE n E hE hL) Bl) (hlk:Link (grE n E hE hL) Bl) (I:Bld (grE n E hE hL) Bl H V F) {pt:Nat->Nat} (P:Part (grE n E hE hL) Bl H pt)
 (hF:LL h lo fav F) (hFl:F.length<2^29) (hlo:la<lo/\pa<lo/\bb<lo/\lo<=h.next) (oe2:Off (λc=>lo<=c) ev) (ob2:Off (λc=>lo<=c) edv)
 (hps:PcL h lo2 pv ps) (hlo2:lo<=lo2) (hfl2:∀b m,fav=.sl b 0 m m->b<lo2) (hpl:0<ps.length) (hpl2:ps.length<2^29) (hof:∀p∈ps,∃e0,Of (grE n E hE hL) Bl H V pt p e0) (hcov:∀e∈Bl,H e=false->∃p∈ps,∃e0,Of (grE n E hE hL) Bl H V pt p e0/\pt e0=pt e) :
 C prg 51 [.ptr bb 0,pv] h λr h'=>Kp (λc=>c=la\/c=pa\/c=bb\/lo<=c) h h'/\((r=.bool false/\¬ ∃(Φ:Type) (l r:Nat->Φ),Dual (grE n E hE hL) Bl l r)\/(r=.bool true/\∃H' V' fav' F',Bu h' bb n ev edv E Bl la pa H' V' fav'/\LL h' lo fav' F'/\F'.length=F.length+1/\Bld (grE n E hE hL) Bl H' V' F'/\(∀e,H e=true->H' e=true)/\∃e∈Bl,H e=false/\H' e=true)):=by
 have hpn:∀p∈ps,p.1.length<2^29:=λp hq=>by
  obtain⟨e0,o⟩:=hof p hq;have:=Go.Pla.nd_lt o.nd (n:=n) λz hz=>by
   obtain⟨e,he,_,_,ha,_⟩:=(o.hgs z).1 hz;exact Go.Pla.at_lt (hp.lt e he) ha
  omega
 have hFn:∀c∈F,c.length<2^30:=λc hc=>by
  obtain⟨k,hk,rfl⟩:=hG.1 hc;have hcc:=I.lay.circ k hk;have hq:Go.Pla.fcs F k=F[k]:=by simp[Go.Pla.fcs,List.getD,hk]
  rw[hq]at hcc;have:=Go.Pla.nd_lt hcc.nodup (n:=n) λz hz=>by
   obtain⟨e,he,ha,_⟩:=Go.Pla.cy_at hp hcc hz;exact Go.Pla.at_lt (hp.lt e he) ha
  omega
 refine Ny pf51 ?_;refine ai (aD (Mi0) ?_);have hps1:PcL (h.keep 1) lo2 pv ps:=hps.cong λc _ hc=>ui hc;obtain⟨b1,o1,av,a1,r1,i1,lb1⟩:=hps1.at (i:=0) hpl;rw[de]at a1;have xk:Ext h.next h (h.keep 1):=⟨by rw[AH.keep_next];omega,λc hc=>ui hc,λc _=>Nr 1 h⟩
 have nk:(h.keep 1).next=h.next+1:=AH.keep_next 1 h;have uk:=u.ext xk (ab _);have Fk:=hF.ext xk (ab _);have hm0:ps[0]∈ps:=aO hpl;have hfit0:=vS (s:=ps[0].2.1) (e:=ps[0].2.2) uk Fk om hFn (et i1) (by have:=hpn _ hm0;omega);refine ai (pZ (oK 7 (Mi2 a1 r1) rfl (Zi2 a1 r1) (Mi2 a1 r1) (hfit0) λrv h1 hq=>?_));obtain⟨f1,x1⟩:=hq;rw[nk]at f1 x1;have n1:=x1.nx;rw[nk]at n1;have r1':aA h1 b1 o1 3=some [av,.int .i64 ps[0].2.1,.int .i64 ps[0].2.2]:=by rw[cU (x1.gt b1 (by rw[nk]at lb1;exact lb1))];exact r1
 have g1:h1.get h.next=some .resv:=by rw[x1.gt _ om];exact iA
 have hsame:av.same av=true:=by rcases i1 with⟨rfl,_⟩|⟨b,n,_,rfl,_⟩<;>simp[AV.same]
 obtain⟨h2,w2,u2⟩:=MN (e:=3) (z:=[.nils,.int .i64 0,.int .i64 0]) (cs:=[av,.int .i64 ps[0].2.1,.int .i64 ps[0].2.2]) g1 rfl;refine⟨by simp only[am,aI,simprocAttr,r1'];simp[AV.same,AV.sames,hsame],?_⟩;refine bM (by simp only[am,aI,simprocAttr,bP,fz,Fm g1,i1.cells.1,i1.cells.2,w2,ar,aU,if_true,Nat.reduceAdd]<;>rfl) ?_;have n2:=u2.nx;have x2:Ext h.next h h2:=⟨om,λc hc=>by rw[u2.ne om,x1.gt c om,ui hc],λc hc=>by rw[u2.ty c,x1.ty c om,Nr]⟩
 have f2:IsSl h2 1 (h.next+1) rv (nC (fq F ps[0].1)):=f1.cong λb m e hb=>u2.ne om;have lp:=hps.len;refine ai (ai (ai (bW (λts h'=>h'=h2/\aR ts 0=.ptr bb 0/\aR ts 5=.ptr h.next 0/\aR ts 6=rv/\aR ts 19=pv/\aR ts 20=.int .i64 (ps.length:Nat)/\aR ts 21=.int .i64 0) (by simp only[am,aI,simprocAttr,lp]) ?_)));rintro ts h2' ⟨rfl,e0,e5,e6,e19,e20,e21⟩;have gD:∀{i:Nat} (hi:i<ps.length),ps.getD i ([],0,0)=ps[i]:=λhi=>by simp[List.getD,hi]
 have hi0:IsSl h 1 lo2 av (nC (ps.getD 0 ([],0,0)).1):=by
  rw[gD hpl];obtain⟨b0,o0,av0,a0,r0,i0,lb0⟩:=hps.at (i:=0) hpl;rw[de,a1]at a0;cases a0;rw[cU (ui lb0),r0]at r1;simp only[aa,fh,and_true]at r1;rw[<-r1];exact i0
 refine gA (α:=Nat×AV) (N:=ps.length) (λ_ a=>[(19,pv),(0,.ptr bb 0),(5,.ptr h.next 0),(6,a.2)])
  (λk a h'=>Ext h.next h h'/\h.next<h'.next/\(∃atv s e,h'.get h.next=some (.cells [atv,.int .i64 s,.int .i64 e] 3 false)/\IsSl h 1 lo2 atv (nC (ps.getD a.1 ([],0,0)).1)/\s=(ps.getD a.1 ([],0,0)).2.1/\e=(ps.getD a.1 ([],0,0)).2.2)/\a.1<ps.length/\IsSl h' 1 (h.next+1) a.2 (nC (fq F (ps.getD a.1 ([],0,0)).1))/\∀i,i<k->fq F (ps.getD i ([],0,0)).1≠[]/\(fq F (ps.getD a.1 ([],0,0)).1).length<=(fq F (ps.getD i ([],0,0)).1).length)
  (0,rv) (λ_ _=>rfl) om (H6 e0 e5 e6 e19 e20 e21) ⟨x2,om,⟨av,_,_,u2.get,hi0,by rw[gD hpl],by rw[gD hpl]⟩,hpl,by rw[gD hpl];exact f2,λi hi=>by omega⟩ ?_ ?_
 .clear e0 e5 e6 e19 e20 e21;rintro k ⟨j,fv⟩ ts h3 hk ⟨j1,j2,⟨atv,s,e,j3,j4,j5,j6⟩,j7,j8,j9⟩ ⟨e21,e20,e19,e0,e5,e6,-⟩;simp only at e21 e20 e19 e0 e5 e6 j3 j4 j5 j6 j7 j8 j9;obtain⟨b4,o4,av4,a4,r4,i4,lb4⟩:=hps.at hk;have r4':aA h3 b4 o4 3=some [av4,.int .i64 ps[k].2.1,.int .i64 ps[k].2.2]:=by rw[cU (j1.gt b4 lb4)];exact r4
  obtain⟨h4,w4,x4,g4,n4⟩:=gv (h:=h3) (z:=[.nils,.int .i64 0,.int .i64 0]) (cs:=[av4,.int .i64 ps[k].2.1,.int .i64 ps[k].2.2]) (e:=3) rfl;refine ai (bW (λts h'=>h'=h4/\Held [(21,.int .i64 (k:Nat)),(20,.int .i64 (ps.length:Nat)),(19,pv),(0,.ptr bb 0),(5,.ptr h.next 0),(6,fv),(8,.ptr h3.next 0)] ts) (by simp only[am,aI,simprocAttr,e21,e20,e19,e0,e5,e6,a4,r4',i4.cells.1,i4.cells.2,w4,cG,dl,ar,aU,if_true]) ?_);rintro ts h4' ⟨rfl,e21,e20,e19,e0,e5,e6,e8,-⟩;have x4':Ext h.next h h4':=j1.trans (x4.mono om);have u4:=u.ext x4' (ab _);have F4:=hF.ext x4' (ab _);have i4':=i4.ext x4' (ab _);have hmk:ps[k]∈ps:=aO hk;have r8:aA h4' h3.next 0 3=some [av4,.int .i64 ps[k].2.1,.int .i64 ps[k].2.2]:=by rw[bI g4];rfl
  refine ai (bS (bE 2 (M3 e0 e8 r8) rfl (Z3 e0 e8 r8) (M3 e0 e8 r8) (vS (s:=ps[k].2.1) (e:=ps[k].2.2) u4 F4 om hFn (et i4') (by have:=hpn _ hmk;omega)) λrv' h5 hq=>?_));obtain⟨f5,x5⟩:=hq;refine bM (M0) ?_;have n5:=x5.nx;have x5':Ext h.next h h5:=x4'.trans (x5.mono om);have lf:=(et f5).len;rw[ah,ah]at lf;have g5:h5.get h.next=some (.cells [atv,.int .i64 s,.int .i64 e] 3 false):=by rw[x5.gt _ om,x4.gt _ j2];exact j3
  have lb:=(et j8).len;rw[ah,ah]at lb;by_cases hz:fq F ps[k].1=[]
  .have dz:decide (((fq F ps[k].1).length:Nat)=(0:Int))=true:=by rw[hz];rfl
   refine ai (ai (aD (M2 lf dz) ?_));refine dv (Z1 dz) ?_;refine ai (aD (M0) ?_);obtain⟨e0,o0⟩:=hof _ hmk;exact bU ⟨.bool false,(by simp only[rs,rf51,am,aI,simprocAttr]<;>rfl),⟨x5'.nx,λc hc _=>x5'.gt c hc,λc hc=>x5'.ty c hc⟩,.inl ⟨rfl,KI hp hb I P o0 hz⟩⟩
  .have hz':(fq F ps[k].1).length≠0:=λq=>hz (List.eq_nil_of_length_eq_zero q);have dz:decide (((fq F ps[k].1).length:Nat)=(0:Int))=false:=by rw[aZ];omega
   refine ai (ai (bW (λts h'=>h'=h5/\Held [(21,.int .i64 (k:Nat)),(20,.int .i64 (ps.length:Nat)),(19,pv),(0,.ptr bb 0),(5,.ptr h.next 0),(6,fv),(8,.ptr h3.next 0),(9,rv'),(30,.bool false)] ts) (by simp only[am,aI,simprocAttr,e21,e20,e19,e0,e5,e6,e8,lf,dz,cG,dl]) ?_));rintro ts h5' ⟨rfl,e21,e20,e19,e0,e5,e6,e8,e9,e30,-⟩;refine dR (Z1 e30) (bQ ?_);have j8':IsSl h5' 1 (h.next+1) fv (nC (fq F (ps.getD j ([],0,0)).1)):=(j8.ext x4 (ab _)).ext x5 (ab _);by_cases hc:(fq F ps[k].1).length<(fq F (ps.getD j ([],0,0)).1).length
   .have dc:decide (((fq F ps[k].1).length:Nat)<(((fq F (ps.getD j ([],0,0)).1).length:Nat):Int))=true:=by rw[decide_eq_true_iff];omega
    refine ai (aD (M5 e9 e6 lf lb dc) ?_);refine dv (Z1 dc) ?_;have r8':aA h5' h3.next 0 3=some [av4,.int .i64 ps[k].2.1,.int .i64 ps[k].2.2]:=by rw[cU (x5.gt _ om)];exact r8
    have u6:=Nv (o:=.cells [av4,.int .i64 ps[k].2.1,.int .i64 ps[k].2.2] 3 false) g5;have w6:cj h5' h.next 0 [av4,.int .i64 ps[k].2.1,.int .i64 ps[k].2.2]=some (h5'.put h.next (.cells [av4,.int .i64 ps[k].2.1,.int .i64 ps[k].2.2] 3 false)):=by rw[ez g5];rfl
    have n6:=u6.nx;refine bW (λts h'=>h'=h5'.put h.next (.cells [av4,.int .i64 ps[k].2.1,.int .i64 ps[k].2.2] 3 false)/\Held [(21,.int .i64 (k:Nat)),(20,.int .i64 (ps.length:Nat)),(19,pv),(0,.ptr bb 0),(5,.ptr h.next 0),(6,rv')] ts) (by simp only[am,aI,simprocAttr,e21,e20,e19,e0,e5,e6,e8,e9,r8',i4.cells.1,i4.cells.2,w6,cG,dl,ar,aU,if_true]) ?_;rintro ts h6 ⟨rfl,hh⟩;refine⟨(k,rv'),⟨?_,om,⟨av4,_,_,u6.get,by rw[gD hk];exact i4,by rw[gD hk],by rw[gD hk]⟩,hk,?_,λi hi=>?_⟩,hh⟩
    .exact⟨by have:=x5'.nx;omega,λc hc=>by rw[u6.ne om,x5'.gt c hc],λc hc=>by rw[u6.ty c,x5'.ty c hc]⟩
    .rw[gD hk];exact(f5.mono om).cong λb m e hb=>u6.ne om
    .rw[gD hk];rcases eF i k with h|h
     .obtain⟨q1,q2⟩:=j9 i h;exact⟨q1,om⟩
     .have:i=k:=om;subst this;rw[gD hk];exact⟨hz,ab _⟩
   .have dc:decide (((fq F ps[k].1).length:Nat)<(((fq F (ps.getD j ([],0,0)).1).length:Nat):Int))=false:=by rw[aZ];omega
    refine ai (bW (λts h'=>h'=h5'/\Held [(21,.int .i64 (k:Nat)),(20,.int .i64 (ps.length:Nat)),(19,pv),(0,.ptr bb 0),(5,.ptr h.next 0),(6,fv),(35,.bool false)] ts) (by simp only[am,aI,simprocAttr,e21,e20,e19,e0,e5,e6,e9,lf,lb,dc,cG,dl]) ?_);rintro ts h6 ⟨rfl,e21,e20,e19,e0,e5,e6,e35,-⟩;refine dR (Z1 e35) (bQ ?_);refine⟨(j,fv),⟨x5',om,⟨atv,s,e,g5,j4,j5,j6⟩,j7,j8',λi hi=>?_⟩,H6 e21 e20 e19 e0 e5 e6⟩;rcases eF i k with h|h
    .exact j9 i h
    .have:i=k:=om;subst this;rw[gD hk];exact⟨hz,Nat.le_of_not_lt hc⟩
 .rintro⟨j,fv⟩ ts h3 ⟨j1,j2,⟨atv,s,e,j3,j4,j5,j6⟩,j7,j8,j9⟩ ⟨e19,e0,e5,e6,-⟩;simp only at e19 e0 e5 e6 j3 j4 j5 j6 j7 j8 j9;rw[gD j7]at j4 j5 j6 j8 j9;subst j5 j6;have hmj:ps[j]∈ps:=aO j7;have lb:=(et j8).len;rw[ah,ah]at lb;have hnz:fq F ps[j].1≠[]:=by have:=(j9 j j7).1;rw[gD j7]at this;exact this
  have hmin:∀q∈ps,(fq F ps[j].1).length<=(fq F q.1).length:=λq hq=>by
   obtain⟨i,hi,rfl⟩:=hG.1 hq;have:=(j9 i hi).2;rw[gD hi]at this;exact this
  obtain⟨e0',o0⟩:=hof _ hmj;obtain⟨f,rest,hfit⟩:∃f rest,fq F ps[j].1=f::rest:=dL hnz;have dz:decide (((fq F ps[j].1).length:Nat)=(0:Int))=false:=by rw[hfit,ar,aZ];omega
  refine ai (ai (bW (λts h'=>h'=h3/\aR ts 0=.ptr bb 0/\aR ts 5=.ptr h.next 0/\aR ts 6=fv/\aR ts 41=.bool false) (by simp only[am,aI,simprocAttr,e0,e5,e6,lb,dz]) ?_));rintro ts h3' ⟨rfl,e0,e5,e6,e41⟩;refine dR (Z1 e41) (bQ ?_);have u3:=u.ext j1 (ab _);have r5:aA h3' h.next 0 3=some [atv,.int .i64 ps[j].2.1,.int .i64 ps[j].2.2]:=by rw[bI j3];rfl
  have i4:=j4.ext j1 (ab _);refine ai (bS (bE 2 (M3 e0 e5 r5) rfl (Z3 e0 e5 r5) (M3 e0 e5 r5) (GV u3 hE hL om om hB om hp hb hlk I.plc P I.ex o0 i4 om) λwv h4 hq=>?_));obtain⟨x4,y1,y2,i,hw,hwo,t⟩:=hq;refine bM (M0) ?_;have n4:=x4.nx;have x4':Ext h.next h h4:=j1.trans (x4.mono om);have u4:=u.ext x4' (ab _);have F4:=hF.ext x4' (ab _);have j84:=j8.ext x4 (ab _);obtain⟨bf,of,af,rf',_⟩:=(et j84).at1 (i:=0) (y:=.int .i64 (f:Nat)) (by rw[hfit];rfl);rw[de]at af;have hff:f∈fq F ps[j].1:=by rw[hfit];simp
  obtain⟨hf,hfv⟩:=jY.1 hff;have hFf:Go.Pla.fcs F f=F[f]:=by simp[Go.Pla.fcs,List.getD,hf]
  have lt_la:=AH.lt_of_get u.l;have lt_pa:=AH.lt_of_get u.v;have lt_bb:=AH.lt_of_get u.o;have hyn:∀z∈y1::i++[y2],z<n:=λz hz=>by
   obtain⟨e,he,ha⟩:=Mg hp t.ch (by simp) z hz;exact Go.Pla.at_lt (hp.lt e he) ha
  have hil:i.length<2^29:=by
   have:=Go.Pla.nd_lt t.nd (n:=n) hyn;simp at this;omega
  obtain⟨ey1,ey2⟩:=t.ends hp I.plc;have mem1:y1∈F[f]:=by rw[<-hFf];exact hfv y1 ((o0.hgs y1).2 ey1)
  have mem2:y2∈F[f]:=by rw[<-hFf];exact hfv y2 ((o0.hgs y2).2 ey2)
  have hcn:F[f].Nodup:=by rw[<-hFf];exact(I.lay.circ f hf).nodup
  refine ai (bS (bE 5 (M4 e0 e6 af rf') rfl (Z4 e0 e6 af rf') (M4 e0 e6 af rf') (Bp u4 hE hL om om hB om F4 om ⟨om,om,om,om⟩ hf (hFn _ (aO hf)) hcn hw hil hyn t.nd (gH hwo λc hc=>by rcases hc with h|h|h<;>omega) (λb m hb=>gH hwo λc hc=>by have h1:=hfl2 b m hb;have h2:=hF.lt hb;omega) mem1 mem2 oe2 ob2) λ_ h5 hq=>?_));obtain⟨s,tl',H',V',fav',hr,u5,F5,k5,hH',hV'⟩:=hq;refine bM (M0) ?_;rw[<-hFf]at hr;obtain⟨I5,hnew⟩:=JC hp hb hlk I P hcov o0 hmin hfit t hr hH' hV';refine ai (aD (M0) ?_);refine bU ⟨.bool true,(by simp only[rs,rf51,am,aI,simprocAttr]<;>rfl),⟨by have:=k5.nx;omega,λc hc hne=>by rw[k5.gt c om hne,x4'.gt c hc],λc hc=>by rw[k5.ty c om,x4'.ty c hc]⟩,.inr ⟨rfl,H',V',fav',_,u5,F5,by simp,I5,λe he=>(hH' e).2 (.inl he),hnew⟩⟩
open Go.Am
open Go.Pla (at_ jn On Rot Pln Bond Link Part Plc Hg Bld Dual Thr)
def unl(Bl:List Nat)(H:Nat->Bool):Nat:=(Bl.filter λe=>!(H e)).length
theorem Ga{H H':Nat->Bool}(hs:∀e,H e=true->H' e=true):∀{Bl:List Nat},unl Bl H'<=unl Bl H
 |[]=>ab _
 |b::Bl=>by
   have ih:=Ga hs (Bl:=Bl);unfold unl at ih |-;rw[eQ,eQ];cases hb:H b with
   |true=>rw[hs b hb];simpa using ih
   |false =>
     cases hb':H' b with
     |true=>simp only[cD,bC,if_false,cr,if_true,ar];omega
     |false=>simp only[cr,if_true,ar];omega
theorem FZ{H H':Nat->Bool}(hs:∀e,H e=true->H' e=true):∀{Bl:List Nat},(∃e∈Bl,H e=false/\H' e=true)->unl Bl H'<unl Bl H
 |[],⟨_,h,_⟩=>by simp at h
 |b::Bl,⟨e,he,h1,h2⟩=>by
   have ih:=Ga hs (Bl:=Bl);have ih2:=FZ hs (Bl:=Bl);unfold unl at ih ih2 |-;rw[eQ,eQ];rcases ao.1 he with rfl|he
   .rw[h1,h2];simp only[cD,bC,if_false,cr,if_true,ar];omega
   .have ih2:=ih2 ⟨e,he,h1,h2⟩;cases hb:H b with
    |true=>rw[hs b hb];simpa using ih2
    |false =>
      cases hb':H' b with
      |true=>simp only[cD,bC,if_false,cr,if_true,ar];omega
      |false=>simp only[cr,if_true,ar];omega
theorem Jw:unl Bl H<=Bl.length:=cF _ _
set_option maxHeartbeats 4000000 in
theorem GW{e0 k0:Nat}{Bl':List Nat}{la:Nat}(u:Bu h bb n ev edv E (e0::Bl') la pa (λ_=>false) (λ_=>false) .nils)(hE:InG n E)(hL:∀i,i<E.length->tlE E i≠hdE E i)(hn:n<2^29)(hm:E.length<2^29)(hB:∀i∈e0::Bl',i<E.length)(hBn:(e0::Bl').length<2^28)(hp:Pln (grE n E hE hL) (e0::Bl'))(hbo:Bond (grE n E hE hL) (e0::Bl'))(hli:Link (grE n E hE hL) (e0::Bl'))(hk0:k0∈e0::Bl')(hke:k0≠e0) :
 C prg 33 [.ptr bb 0] h λr h'=>Kp (λc=>c=la\/c=pa\/c=bb) h h'/\((r=.bool false/\¬ ∃(Φ:Type) (l r:Nat->Φ),Dual (grE n E hE hL) (e0::Bl') l r)\/(r=.bool true/\∃H V fav F,Bu h' bb n ev edv E (e0::Bl') la pa H V fav/\LL h' h.next fav F/\F.length<=(e0::Bl').length+2/\Bld (grE n E hE hL) (e0::Bl') H V F/\∀e∈e0::Bl',H e=true)):=by
 have lt_bb:=AH.lt_of_get u.o;have lt_la:=AH.lt_of_get u.l;have lt_pa:=AH.lt_of_get u.v;have oe2:Off (λc=>h.next<=c) ev:=by
  cases hq:ev with
  |sl b o m c=>exact λq=>by have:=u.e.lt hq;omega
  |_=>trivial
 have ob2:Off (λc=>h.next<=c) edv:=by
  cases hq:edv with
  |sl b o m c=>exact λq=>by have:=u.b.lt hq;omega
  |_=>trivial
 refine Ny pf33 ?_;refine ai (aD (Mi0) ?_);refine ai (bS (bE 1 (Mi0) rfl (Zi0) (Mi0) (Br u hE hL om om hB om hp hbo hli hk0 hke) λ_ h1 hq=>?_));obtain⟨H,V,fav,F,u1,k1,F1,fl1,I1⟩:=hq;refine bM (M0) ?_;generalize hBl:e0::Bl'=Bl at *
 refine cA (fO (λm ts h'=>aR ts 0=.ptr bb 0/\Kp (λc=>c=la\/c=pa\/c=bb) h h'/\∃H V fav F,Bu h' bb n ev edv E Bl la pa H V fav/\LL h' h.next fav F/\F.length+unl Bl H<=Bl.length+2/\Bld (grE n E hE hL) Bl H V F/\m=unl Bl H) ?_ (n:=unl Bl H) ⟨Zi0,k1,H,V,fav,F,u1,F1,by have:=Jw (Bl:=Bl) (H:=H);omega,I1,rfl⟩);clear u1 k1 F1 fl1 I1;rintro m ts h2 ⟨e0',k2,H,V,fav,F,u2,F2,fl2,I2,rfl⟩;obtain⟨pt,P⟩:=Go.Pla.part_ex (grE n E hE hL) Bl H;have n2:=k2.nx;refine cA ?_;refine ai (bS (bE 1 (M1 e0') rfl (Z1 e0') (M1 e0') (zr u2 hE hL om om hB om hp I2.plc P) λpv h3 hq=>?_));obtain⟨x3,ps,hps,hpl,hof,hcov⟩:=hq;refine bM (M0) ?_;have n3:=x3.nx;have lp:=hps.len;have k3:Kp (λc=>c=la\/c=pa\/c=bb) h h3:=k2.trans (x3.kp (S:=λ_=>False) (ab _)) (λ_ _ q=>q.elim);have u3:=u2.ext x3 (ab _);have F3:=F2.ext x3 (ab _);have fl3:F.length<2^29:=om;cases hz:ps with
 |nil =>
   subst hz;have dz:decide ((([]:List Pc).length:Nat)=(0:Int))=true:=rfl;refine ai (ai (aD (M2 lp dz) ?_));refine dv (M1 dz) ?_;refine ai (aD (M0) ?_);refine bU ⟨.bool true,(by simp only[rs,rf33,am,aI,simprocAttr]<;>rfl),k3,.inr ⟨rfl,H,V,fav,F,u3,F3,om,I2,λe he=>?_⟩⟩;cases hHe:H e with
   |true=>rfl
   |false =>
     obtain⟨p,hp',_⟩:=hcov e he hHe;simp at hp'
 |cons p ps' =>
   have hpos:0<ps.length:=by rw[hz];simp
   rw[<-hz]at *
   clear hz;have dz:decide (((ps.length:Nat):Int)=0)=false:=by rw[aZ];omega
   refine ai (ai (bW (λts h'=>h'=h3/\aR ts 0=.ptr bb 0/\aR ts 3=pv/\aR ts 10=.bool false) (by simp only[am,aI,simprocAttr,e0',lp,dz]) ?_));rintro ts h3' ⟨rfl,e0',e3,e10⟩;refine dR (Z1 e10) (bQ ?_);refine ai (bS (bE 2 (M2 e0' e3) rfl (Z2 e0' e3) (M2 e0' e3) (EA u3 hE hL hn hm hB om hp hbo hli I2 P F3 fl3 ⟨om,om,om,om⟩ oe2 ob2 hps om (λb m hb=>F2.lt hb) hpos om hof hcov) λrv h4 hq=>?_));obtain⟨k4,hq⟩:=hq;have k4':Kp (λc=>c=la\/c=pa\/c=bb) h h4:=k3.trans k4 (λc hc q=>by
    rcases q with q|q|q|q
    .exact .inl q
    .exact .inr (.inl q)
    .exact .inr (.inr q)
    .omega)
   rcases hq with⟨rfl,hno⟩|⟨rfl,H',V',fav',F',u4,F4,fl4,I4,hs,hnew⟩
   .refine bM (M0) ?_;refine dv (by simp only[am,aI,simprocAttr,cr]) ?_;refine ai (aD (M0) ?_);exact bU ⟨.bool false,(by simp only[rs,rf33,am,aI,simprocAttr]<;>rfl),k4',.inl ⟨rfl,hno⟩⟩
   .refine bM (M0) ?_;refine dR (Z1 @cD) (bQ ?_);have hlt:=FZ hs hnew;exact⟨unl Bl H',hlt,Z1 e0',k4',H',V',fav',F',u4,F4,om,I4,rfl⟩
end Go.Proofs.YtlolkmcdimgplaaGreat
