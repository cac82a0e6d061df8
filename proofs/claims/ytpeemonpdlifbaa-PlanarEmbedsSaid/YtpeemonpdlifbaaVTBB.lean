/- planar -/
import Derived.Test.YtpeemonpdlifbaaVTBA
import Derived.Test.YtpeemonpdlifbaaVTAW
set_option linter.all false
namespace Go.Proofs.Ytpeemonpdlifbaa
open Go.Am
open Go.Pla (at_ jn On Rot Pln Bond Link Part Plc Hg Bld Dual Thr)
theorem PcL.at {h:AH}{lo:Nat}{v:AV}{ps:List Pc} (hl:PcL h lo v ps) {i:Nat} (hi:i<ps.length):∃ b o atv,kV 3 v (.int .i64 (i:Nat))=some (.ptr b o)∧ak h b o 3=some [atv,.int .i64 ps[i].2.1,.int .i64 ps[i].2.2]∧IsSl h 1 lo atv (nC ps[i].1)∧b<h.next:=by
 obtain⟨qs,h1,h2,h3⟩:=hl
 have hs:Sl h 3 v (qs.map cP):=KE om (λ_=>rfl) h1
 have hq:qs[i]?=some (qs[i]'om):=ah _
 obtain⟨b,o,q1,q2,_,q3⟩:=hs.at (i:=i) (x:=cP (qs[i]'om)) (by rw[aF,hq]; rfl)
 obtain⟨s1,s2,_⟩:=h3 i _ _ hq (ah hi)
 refine⟨b,o,(qs[i]'om).1,q1,?_,s1,q3⟩
 rw[q2,cP,s2]
theorem PcL.len {h:AH}{lo:Nat}{v:AV}{ps:List Pc} (hl:PcL h lo v ps):jc v=some (.int .i64 (ps.length:Nat)):=by
 obtain⟨qs,h1,h2,h3⟩:=hl
 rcases h1 with ⟨rfl,hz⟩|⟨b,n,_,rfl,hg,hn⟩
 ·have:=congrArg List.length hz
  rw[zQ,aO] at this
  have:ps.length=0:=om
  rw[this]; rfl
 ·rw[zQ] at hn
  have:n=ps.length:=om
  rw[this]; rfl
theorem jg {F:List (List Nat)}{l:List Nat}{f:Nat}:f∈eU F l↔f<F.length∧∀ x∈l,x∈Go.Pla.fcs F f:=by
 simp [eU,lH,Go.Pla.fcs]
theorem Iu {F:List (List Nat)}{l:List Nat}:(eU F l).Nodup:=List.nodup_range.filter _
theorem JA {g:Go.Blk.Gr}{B:List Nat} (p:Pln g B):∀ {t:List Nat}{x:Nat},Go.Pla.Ch g B (x::t)→t≠[]→∀ z∈x::t,∃ e∈B,at_ g e z=true
 | [],_,_,h,_,_=>absurd rfl h
 | y::t,x,hc,_,z,hz=>by
   obtain⟨⟨e,he,hj⟩,hc'⟩:=hc
   rcases aw.1 hz with rfl|hz
   ·exact⟨e,he,by rw[p.jat he hj]; simp [Ne.symm (p.jne he hj)]⟩
   ·cases t with
    | nil =>
      have:z=y:=by simpa using hz
      subst this
      exact⟨e,he,by rw[p.jat he hj]; simp [p.jne he hj]⟩
    | cons q t=>exact JA p hc' (by simp) z hz
theorem Kd {h:AH}{n e:Nat}{z cs:List AV}{o:AO} (hg:h.get n=some o) (hl:z.length=cs.length):∃ h2,bX (h.put n (.cells z e false)) n 0 cs=some h2∧Upd h h2 n (.cells cs e false):=by
 have u1:=KJ (o:=.cells z e false) hg
 have u2:=KJ (o:=.cells cs e false) u1.get
 refine⟨(h.put n (.cells z e false)).put n (.cells cs e false),?_,⟨by rw[u2.nx,u1.nx],λc=>by rw[u2.gt c,u1.gt c]; split<;>rfl,λc=>by rw[u2.ty c,u1.ty c]⟩⟩
 rw[fz u1.get,if_pos om]
 congr 3
 simp only[dL,eD,bp,bS]
 rw[dP om,cX]
theorem HX {g:Go.Blk.Gr}{Bl:List Nat}{H V:Nat→Bool}{F:List (List Nat)} (hp:Pln g Bl) (hb:Bond g Bl) (I:Bld g Bl H V F) {pt:Nat→Nat} (P:Part g Bl H pt) {p:Pc}{e0:Nat} (o:Of g Bl H V pt p e0) (h:eU F p.1=[]):¬ ∃ (Φ:Type) (l r:Nat→Φ),Dual g Bl l r:=λhd=>by
 obtain⟨f,hf,hv⟩:=Go.Pla.part_fits hp hb P (I.can hd) o.mem
 have:f∈eU F p.1:=jg.2 ⟨hf,λx hx=>hv x ((o.hgs x).1 hx)⟩
 rw[h] at this
 simp at this
theorem GR {g:Go.Blk.Gr}{Bl:List Nat}{H V:Nat→Bool}{F:List (List Nat)} (hp:Pln g Bl) (hb:Bond g Bl) (hl:Link g Bl) (I:Bld g Bl H V F) {pt:Nat→Nat} (P:Part g Bl H pt) {ps:List Pc} (hps:∀ e∈Bl,H e=false→∃ p∈ps,∃ e0,Of g Bl H V pt p e0∧pt e0=pt e) {p:Pc}{e0:Nat} (o:Of g Bl H V pt p e0) (hmin:∀ q∈ps,(eU F p.1).length≤(eU F q.1).length) {f:Nat}{rest:List Nat} (hfit:eU F p.1=f::rest) {y1 y2:Nat}{i:List Nat} (t:Thr g Bl H V pt e0 y1 y2 i) {s tl':List Nat} (hr:Rot (Go.Pla.fcs F f) (y1::s++y2::tl')) {H' V':Nat→Bool} (hH':∀ j,H' j=true↔H j=true∨(j∈Bl∧On g (y1::i++[y2]) j)) (hV':∀ v,V' v=true↔V v=true∨v∈y1::i++[y2]) :
 Bld g Bl H' V' (F.set f (y1::s++y2::i.reverse)++[y2::tl'++y1::i])∧∃ e∈Bl,H e=false∧H' e=true:=by
 have hff:f∈eU F p.1:=by rw[hfit]; simp
 obtain⟨hf,hfv⟩:=jg.1 hff
 constructor
 ·refine Go.Pla.inv_cut hp hb hl I P hf hr t.ch t.nd t.fr t.new (λe he ho v hv=>?_) ?_ (λe he=>?_) hV'
  ·rw[t.part e he ho] at hv
   exact hfv v ((o.hgs v).2 hv)
  ·cases rest with
   | nil =>
     refine .inl λe he ho h hh hv=>?_
     have:h∈eU F p.1:=jg.2 ⟨hh,λx hx=>hv x (by rw[t.part e he ho]; exact (o.hgs x).1 hx)⟩
     rw[hfit] at this
     simpa using this
   | cons f2 rest =>
     refine .inr λe he hH=>?_
     obtain⟨q,hq,e1,o1,h1⟩:=hps e he hH
     have h2:=hmin q hq
     rw[hfit] at h2
     cases hfq:eU F q.1 with
     | nil=>rw[hfq] at h2; simp at h2
     | cons a l =>
       cases l with
       | nil=>rw[hfq] at h2; simp at h2
       | cons b l =>
         have nd:=Iu (F:=F) (l:=q.1)
         rw[hfq] at nd
         have ha:a∈eU F q.1:=by rw[hfq]; simp
         have hb':b∈eU F q.1:=by rw[hfq]; simp
         refine⟨a,b,(jg.1 ha).1,(jg.1 hb').1,λe=>by subst e; simp at nd,λv hv=>?_⟩
         have:v∈q.1:=(o1.hgs v).2 (by rw[h1]; exact hv)
         exact⟨(jg.1 ha).2 v this,(jg.1 hb').2 v this⟩
  ·rw[hH']
   constructor
   ·rintro (h|⟨_,h⟩)
    ·exact .inl h
    ·exact .inr h
   ·rintro (h|h)
    ·exact .inl h
    ·exact .inr ⟨he,h⟩
 ·have hch:=t.ch
  have key:∃ e∈Bl,On g (y1::i++[y2]) e:=by
   cases i with
   | nil=>obtain⟨⟨e,he,hj⟩,_⟩:=hch; exact⟨e,he,[],y1,y2,[],rfl,hj⟩
   | cons q i=>obtain⟨⟨e,he,hj⟩,_⟩:=hch; exact⟨e,he,[],y1,q,i++[y2],rfl,hj⟩
  obtain⟨e,he,ho⟩:=key
  exact⟨e,he,t.fresh hp I.plc e he ho,(hH' e).2 (.inr ⟨he,ho⟩)⟩
set_option maxHeartbeats 4000000 in
theorem Ck {h:AH}{bb n lo lo2:Nat}{ev edv pv:AV}{E:List (Int×Int)}{Bl:List Nat}{la pa:Nat}{H V:Nat→Bool}{fav:AV}{F:List (List Nat)}{ps:List Pc} (u:Bu h bb n ev edv E Bl la pa H V fav) (hE:InG n E) (hL:∀ i,i<E.length→tlE E i≠hdE E i) (hn:n<2 ^ 29) (hm:E.length<2 ^ 29) (hB:∀ i∈Bl,i<E.length) (hBn:Bl.length<2 ^ 29)
 (hp:Pln (grE n E hE hL) Bl) (hb:Bond (grE n E hE hL) Bl) (hlk:Link (grE n E hE hL) Bl) (I:Bld (grE n E hE hL) Bl H V F) {pt:Nat→Nat} (P:Part (grE n E hE hL) Bl H pt)
 (hF:LL h lo fav F) (hFl:F.length<2 ^ 29) (hlo:la<lo∧pa<lo∧bb<lo∧lo≤h.next) (oe2:Off (λc=>lo≤c) ev) (ob2:Off (λc=>lo≤c) edv)
 (hps:PcL h lo2 pv ps) (hlo2:lo≤lo2) (hfl2:∀ b m,fav=.sl b 0 m m→b<lo2) (hpl:0<ps.length) (hpl2:ps.length<2 ^ 29) (hof:∀ p∈ps,∃ e0,Of (grE n E hE hL) Bl H V pt p e0) (hcov:∀ e∈Bl,H e=false→∃ p∈ps,∃ e0,Of (grE n E hE hL) Bl H V pt p e0∧pt e0=pt e) :
 C prg 38 [.ptr bb 0,pv] h λr h'=>Kp (λc=>c=la∨c=pa∨c=bb∨lo≤c) h h'∧((r=.bool false∧¬ ∃ (Φ:Type) (l r:Nat→Φ),Dual (grE n E hE hL) Bl l r)∨(r=.bool true∧∃ H' V' fav' F',Bu h' bb n ev edv E Bl la pa H' V' fav'∧LL h' lo fav' F'∧F'.length=F.length+1∧Bld (grE n E hE hL) Bl H' V' F'∧(∀ e,H e=true→H' e=true)∧∃ e∈Bl,H e=false∧H' e=true)):=by
 have hpn:∀ p∈ps,p.1.length<2 ^ 29:=λp hq=>by
  obtain⟨e0,o⟩:=hof p hq
  have:=Go.Pla.nd_lt o.nd (n:=n) λz hz=>by
   obtain⟨e,he,_,_,ha,_⟩:=(o.hgs z).1 hz
   exact Go.Pla.at_lt (hp.lt e he) ha
  omega
 have hFn:∀ c∈F,c.length<2 ^ 30:=λc hc=>by
  obtain⟨k,hk,rfl⟩:=cJ.1 hc
  have hcc:=I.lay.circ k hk
  have hq:Go.Pla.fcs F k=F[k]:=by simp [Go.Pla.fcs,List.getD,hk]
  rw[hq] at hcc
  have:=Go.Pla.nd_lt hcc.nodup (n:=n) λz hz=>by
   obtain⟨e,he,ha,_⟩:=Go.Pla.cy_at hp hcc hz
   exact Go.Pla.at_lt (hp.lt e he) ha
  omega
 refine KK pf38 ?_
 refine ai (au (Mi0) ?_)
 have hps1:PcL (h.keep 1) lo2 pv ps:=hps.cong λc _ hc=>rM hc
 obtain⟨b1,o1,av,a1,r1,i1,lb1⟩:=hps1.at (i:=0) hpl
 rw[bg] at a1
 have xk:Ext h.next h (h.keep 1):=⟨by rw[AH.keep_next]; omega,λc hc=>rM hc,λc _=>KF 1 h⟩
 have nk:(h.keep 1).next=h.next+1:=AH.keep_next 1 h
 have uk:=u.ext xk (ab _)
 have Fk:=hF.ext xk (ab _)
 have hm0:ps[0]∈ps:=bj hpl
 have hfit0:=tF (s:=ps[0].2.1) (e:=ps[0].2.2) uk Fk om hFn (eH i1) (by have:=hpn _ hm0; omega)
 refine ai (lV (li 7 (Mi2 a1 r1) rfl (Zi2 a1 r1) (Mi2 a1 r1) (hfit0) λrv h1 hq=>?_))
 obtain⟨f1,x1⟩:=hq
 rw[nk] at f1 x1
 have n1:=x1.nx
 rw[nk] at n1
 have r1':ak h1 b1 o1 3=some [av,.int .i64 ps[0].2.1,.int .i64 ps[0].2.2]:=by rw[cF (x1.gt b1 (by rw[nk] at lb1; exact lb1))]; exact r1
 have g1:h1.get h.next=some .resv:=by rw[x1.gt _ om]; exact iQ
 have hsame:av.same av=true:=by rcases i1 with ⟨rfl,_⟩|⟨b,n,_,rfl,_⟩<;>simp [AV.same]
 obtain⟨h2,w2,u2⟩:=Kd (e:=3) (z:=[.nils,.int .i64 0,.int .i64 0]) (cs:=[av,.int .i64 ps[0].2.1,.int .i64 ps[0].2.2]) g1 rfl
 refine⟨by simp only[am,aH,simprocAttr,r1']; simp [AV.same,AV.sames,hsame],?_⟩
 refine bP (by simp only[am,aH,simprocAttr,bN,dX,CI g1,i1.cells.1,i1.cells.2,w2,aB,aO,if_true,Nat.reduceAdd]<;>rfl) ?_
 have n2:=u2.nx
 have x2:Ext h.next h h2:=⟨om,λc hc=>by rw[u2.ne om,x1.gt c om,rM hc],λc hc=>by rw[u2.ty c,x1.ty c om,KF]⟩
 have f2:IsSl h2 1 (h.next+1) rv (nC (eU F ps[0].1)):=f1.cong λb m e hb=>u2.ne om
 have lp:=hps.len
 refine ai (ai (ai (bR (λts h'=>h'=h2∧aN ts 0=.ptr bb 0∧aN ts 5=.ptr h.next 0∧aN ts 6=rv∧aN ts 19=pv∧aN ts 20=.int .i64 (ps.length:Nat)∧aN ts 21=.int .i64 0) (by simp only[am,aH,simprocAttr,lp]) ?_)))
 rintro ts h2' ⟨rfl,e0,e5,e6,e19,e20,e21⟩
 have gD:∀ {i:Nat} (hi:i<ps.length),ps.getD i ([],0,0)=ps[i]:=λhi=>by simp [List.getD,hi]
 have hi0:IsSl h 1 lo2 av (nC (ps.getD 0 ([],0,0)).1):=by
  rw[gD hpl]
  obtain⟨b0,o0,av0,a0,r0,i0,lb0⟩:=hps.at (i:=0) hpl
  rw[bg,a1] at a0
  cases a0
  rw[cF (rM lb0),r0] at r1
  simp only[aa,eG,and_true] at r1
  rw[← r1]; exact i0
 refine ig (α:=Nat×AV) (N:=ps.length) (λ_ a=>[(19,pv),(0,.ptr bb 0),(5,.ptr h.next 0),(6,a.2)])
  (λk a h'=>Ext h.next h h'∧h.next<h'.next∧(∃ atv s e,h'.get h.next=some (.cells [atv,.int .i64 s,.int .i64 e] 3 false)∧IsSl h 1 lo2 atv (nC (ps.getD a.1 ([],0,0)).1)∧s=(ps.getD a.1 ([],0,0)).2.1∧e=(ps.getD a.1 ([],0,0)).2.2)∧a.1<ps.length∧IsSl h' 1 (h.next+1) a.2 (nC (eU F (ps.getD a.1 ([],0,0)).1))∧∀ i,i<k→eU F (ps.getD i ([],0,0)).1≠[]∧(eU F (ps.getD a.1 ([],0,0)).1).length≤(eU F (ps.getD i ([],0,0)).1).length)
  (0,rv) (λ_ _=>rfl) om (H6 e0 e5 e6 e19 e20 e21) ⟨x2,om,⟨av,_,_,u2.get,hi0,by rw[gD hpl],by rw[gD hpl]⟩,hpl,by rw[gD hpl]; exact f2,λi hi=>by omega⟩ ?_ ?_
 ·clear e0 e5 e6 e19 e20 e21
  rintro k ⟨j,fv⟩ ts h3 hk ⟨j1,j2,⟨atv,s,e,j3,j4,j5,j6⟩,j7,j8,j9⟩ ⟨e21,e20,e19,e0,e5,e6,-⟩
  simp only at e21 e20 e19 e0 e5 e6 j3 j4 j5 j6 j7 j8 j9
  obtain⟨b4,o4,av4,a4,r4,i4,lb4⟩:=hps.at hk
  have r4':ak h3 b4 o4 3=some [av4,.int .i64 ps[k].2.1,.int .i64 ps[k].2.2]:=by rw[cF (j1.gt b4 lb4)]; exact r4
  obtain⟨h4,w4,x4,g4,n4⟩:=gH (h:=h3) (z:=[.nils,.int .i64 0,.int .i64 0]) (cs:=[av4,.int .i64 ps[k].2.1,.int .i64 ps[k].2.2]) (e:=3) rfl
  refine ai (bR (λts h'=>h'=h4∧Held [(21,.int .i64 (k:Nat)),(20,.int .i64 (ps.length:Nat)),(19,pv),(0,.ptr bb 0),(5,.ptr h.next 0),(6,fv),(8,.ptr h3.next 0)] ts) (by simp only[am,aH,simprocAttr,e21,e20,e19,e0,e5,e6,a4,r4',i4.cells.1,i4.cells.2,w4,cq,cQ,aB,aO,if_true]) ?_)
  rintro ts h4' ⟨rfl,e21,e20,e19,e0,e5,e6,e8,-⟩
  have x4':Ext h.next h h4':=j1.trans (x4.mono om)
  have u4:=u.ext x4' (ab _)
  have F4:=hF.ext x4' (ab _)
  have i4':=i4.ext x4' (ab _)
  have hmk:ps[k]∈ps:=bj hk
  have r8:ak h4' h3.next 0 3=some [av4,.int .i64 ps[k].2.1,.int .i64 ps[k].2.2]:=by rw[aW g4]; rfl
  refine ai (bU (bu 2 (M3 e0 e8 r8) rfl (Z3 e0 e8 r8) (M3 e0 e8 r8) (tF (s:=ps[k].2.1) (e:=ps[k].2.2) u4 F4 om hFn (eH i4') (by have:=hpn _ hmk; omega)) λrv' h5 hq=>?_))
  obtain⟨f5,x5⟩:=hq
  refine bP (M0) ?_
  have n5:=x5.nx
  have x5':Ext h.next h h5:=x4'.trans (x5.mono om)
  have lf:=(eH f5).len
  rw[ae,ae] at lf
  have g5:h5.get h.next=some (.cells [atv,.int .i64 s,.int .i64 e] 3 false):=by rw[x5.gt _ om,x4.gt _ j2]; exact j3
  have lb:=(eH j8).len
  rw[ae,ae] at lb
  by_cases hz:eU F ps[k].1=[]
  ·have dz:decide (((eU F ps[k].1).length:Nat)=(0:Int))=true:=by rw[hz]; rfl
   refine ai (ai (au (M2 lf dz) ?_))
   refine cE (Z1 dz) ?_
   refine ai (au (M0) ?_)
   obtain⟨e0,o0⟩:=hof _ hmk
   exact bM ⟨.bool false,(by simp only[rs,rf38,am,aH,simprocAttr]<;>rfl),⟨x5'.nx,λc hc _=>x5'.gt c hc,λc hc=>x5'.ty c hc⟩,.inl ⟨rfl,HX hp hb I P o0 hz⟩⟩
  ·have hz':(eU F ps[k].1).length≠0:=λq=>hz (List.eq_nil_of_length_eq_zero q)
   have dz:decide (((eU F ps[k].1).length:Nat)=(0:Int))=false:=by rw[bh]; omega
   refine ai (ai (bR (λts h'=>h'=h5∧Held [(21,.int .i64 (k:Nat)),(20,.int .i64 (ps.length:Nat)),(19,pv),(0,.ptr bb 0),(5,.ptr h.next 0),(6,fv),(8,.ptr h3.next 0),(9,rv'),(30,.bool false)] ts) (by simp only[am,aH,simprocAttr,e21,e20,e19,e0,e5,e6,e8,lf,dz,cq,cQ]) ?_))
   rintro ts h5' ⟨rfl,e21,e20,e19,e0,e5,e6,e8,e9,e30,-⟩
   refine dn (Z1 e30) (bH ?_)
   have j8':IsSl h5' 1 (h.next+1) fv (nC (eU F (ps.getD j ([],0,0)).1)):=(j8.ext x4 (ab _)).ext x5 (ab _)
   by_cases hc:(eU F ps[k].1).length<(eU F (ps.getD j ([],0,0)).1).length
   ·have dc:decide (((eU F ps[k].1).length:Nat)<(((eU F (ps.getD j ([],0,0)).1).length:Nat):Int))=true:=by rw[decide_eq_true_iff]; omega
    refine ai (au (M5 e9 e6 lf lb dc) ?_)
    refine cE (Z1 dc) ?_
    have r8':ak h5' h3.next 0 3=some [av4,.int .i64 ps[k].2.1,.int .i64 ps[k].2.2]:=by rw[cF (x5.gt _ om)]; exact r8
    have u6:=KJ (o:=.cells [av4,.int .i64 ps[k].2.1,.int .i64 ps[k].2.2] 3 false) g5
    have w6:bX h5' h.next 0 [av4,.int .i64 ps[k].2.1,.int .i64 ps[k].2.2]=some (h5'.put h.next (.cells [av4,.int .i64 ps[k].2.1,.int .i64 ps[k].2.2] 3 false)):=by rw[fz g5]; rfl
    have n6:=u6.nx
    refine bR (λts h'=>h'=h5'.put h.next (.cells [av4,.int .i64 ps[k].2.1,.int .i64 ps[k].2.2] 3 false)∧Held [(21,.int .i64 (k:Nat)),(20,.int .i64 (ps.length:Nat)),(19,pv),(0,.ptr bb 0),(5,.ptr h.next 0),(6,rv')] ts) (by simp only[am,aH,simprocAttr,e21,e20,e19,e0,e5,e6,e8,e9,r8',i4.cells.1,i4.cells.2,w6,cq,cQ,aB,aO,if_true]) ?_
    rintro ts h6 ⟨rfl,hh⟩
    refine⟨(k,rv'),⟨?_,om,⟨av4,_,_,u6.get,by rw[gD hk]; exact i4,by rw[gD hk],by rw[gD hk]⟩,hk,?_,λi hi=>?_⟩,hh⟩
    ·exact⟨by have:=x5'.nx; omega,λc hc=>by rw[u6.ne om,x5'.gt c hc],λc hc=>by rw[u6.ty c,x5'.ty c hc]⟩
    ·rw[gD hk]; exact (f5.mono om).cong λb m e hb=>u6.ne om
    ·rw[gD hk]
     rcases bF i k with h|h
     ·obtain⟨q1,q2⟩:=j9 i h
      exact⟨q1,om⟩
     ·have:i=k:=om
      subst this
      rw[gD hk]; exact⟨hz,ab _⟩
   ·have dc:decide (((eU F ps[k].1).length:Nat)<(((eU F (ps.getD j ([],0,0)).1).length:Nat):Int))=false:=by rw[bh]; omega
    refine ai (bR (λts h'=>h'=h5'∧Held [(21,.int .i64 (k:Nat)),(20,.int .i64 (ps.length:Nat)),(19,pv),(0,.ptr bb 0),(5,.ptr h.next 0),(6,fv),(35,.bool false)] ts) (by simp only[am,aH,simprocAttr,e21,e20,e19,e0,e5,e6,e9,lf,lb,dc,cq,cQ]) ?_)
    rintro ts h6 ⟨rfl,e21,e20,e19,e0,e5,e6,e35,-⟩
    refine dn (Z1 e35) (bH ?_)
    refine⟨(j,fv),⟨x5',om,⟨atv,s,e,g5,j4,j5,j6⟩,j7,j8',λi hi=>?_⟩,H6 e21 e20 e19 e0 e5 e6⟩
    rcases bF i k with h|h
    ·exact j9 i h
    ·have:i=k:=om
     subst this
     rw[gD hk]; exact⟨hz,fP hc⟩
 ·rintro⟨j,fv⟩ ts h3 ⟨j1,j2,⟨atv,s,e,j3,j4,j5,j6⟩,j7,j8,j9⟩ ⟨e19,e0,e5,e6,-⟩
  simp only at e19 e0 e5 e6 j3 j4 j5 j6 j7 j8 j9
  rw[gD j7] at j4 j5 j6 j8 j9
  subst j5 j6
  have hmj:ps[j]∈ps:=bj j7
  have lb:=(eH j8).len
  rw[ae,ae] at lb
  have hnz:eU F ps[j].1≠[]:=by have:=(j9 j j7).1; rw[gD j7] at this; exact this
  have hmin:∀ q∈ps,(eU F ps[j].1).length≤(eU F q.1).length:=λq hq=>by
   obtain⟨i,hi,rfl⟩:=cJ.1 hq
   have:=(j9 i hi).2
   rw[gD hi] at this; exact this
  obtain⟨e0',o0⟩:=hof _ hmj
  obtain⟨f,rest,hfit⟩:∃ f rest,eU F ps[j].1=f::rest:=dV hnz
  have dz:decide (((eU F ps[j].1).length:Nat)=(0:Int))=false:=by rw[hfit,aB,bh]; omega
  refine ai (ai (bR (λts h'=>h'=h3∧aN ts 0=.ptr bb 0∧aN ts 5=.ptr h.next 0∧aN ts 6=fv∧aN ts 41=.bool false) (by simp only[am,aH,simprocAttr,e0,e5,e6,lb,dz]) ?_))
  rintro ts h3' ⟨rfl,e0,e5,e6,e41⟩
  refine dn (Z1 e41) (bH ?_)
  have u3:=u.ext j1 (ab _)
  have r5:ak h3' h.next 0 3=some [atv,.int .i64 ps[j].2.1,.int .i64 ps[j].2.2]:=by rw[aW j3]; rfl
  have i4:=j4.ext j1 (ab _)
  refine ai (bU (bu 2 (M3 e0 e5 r5) rfl (Z3 e0 e5 r5) (M3 e0 e5 r5) (EB u3 hE hL om om hB om hp hb hlk I.plc P I.ex o0 i4 om) λwv h4 hq=>?_))
  obtain⟨x4,y1,y2,i,hw,hwo,t⟩:=hq
  refine bP (M0) ?_
  have n4:=x4.nx
  have x4':Ext h.next h h4:=j1.trans (x4.mono om)
  have u4:=u.ext x4' (ab _)
  have F4:=hF.ext x4' (ab _)
  have j84:=j8.ext x4 (ab _)
  obtain⟨bf,of,af,rf',_⟩:=(eH j84).at1 (i:=0) (y:=.int .i64 (f:Nat)) (by rw[hfit]; rfl)
  rw[bg] at af
  have hff:f∈eU F ps[j].1:=by rw[hfit]; simp
  obtain⟨hf,hfv⟩:=jg.1 hff
  have hFf:Go.Pla.fcs F f=F[f]:=by simp [Go.Pla.fcs,List.getD,hf]
  have lt_la:=AH.lt_of_get u.l
  have lt_pa:=AH.lt_of_get u.v
  have lt_bb:=AH.lt_of_get u.o
  have hyn:∀ z∈y1::i++[y2],z<n:=λz hz=>by
   obtain⟨e,he,ha⟩:=JA hp t.ch (by simp) z hz
   exact Go.Pla.at_lt (hp.lt e he) ha
  have hil:i.length<2 ^ 29:=by
   have:=Go.Pla.nd_lt t.nd (n:=n) hyn
   simp at this; omega
  obtain⟨ey1,ey2⟩:=t.ends hp I.plc
  have mem1:y1∈F[f]:=by rw[← hFf]; exact hfv y1 ((o0.hgs y1).2 ey1)
  have mem2:y2∈F[f]:=by rw[← hFf]; exact hfv y2 ((o0.hgs y2).2 ey2)
  have hcn:F[f].Nodup:=by rw[← hFf]; exact (I.lay.circ f hf).nodup
  refine ai (bU (bu 5 (M4 e0 e6 af rf') rfl (Z4 e0 e6 af rf') (M4 e0 e6 af rf') (yZ u4 hE hL om om hB om F4 om ⟨om,om,om,om⟩ hf (hFn _ (bj hf)) hcn hw hil hyn t.nd (fQ hwo λc hc=>by rcases hc with h|h|h<;>omega) (λb m hb=>fQ hwo λc hc=>by have h1:=hfl2 b m hb; have h2:=hF.lt hb; omega) mem1 mem2 oe2 ob2) λ_ h5 hq=>?_))
  obtain⟨s,tl',H',V',fav',hr,u5,F5,k5,hH',hV'⟩:=hq
  refine bP (M0) ?_
  rw[← hFf] at hr
  obtain⟨I5,hnew⟩:=GR hp hb hlk I P hcov o0 hmin hfit t hr hH' hV'
  refine ai (au (M0) ?_)
  refine bM ⟨.bool true,(by simp only[rs,rf38,am,aH,simprocAttr]<;>rfl),⟨by have:=k5.nx; omega,λc hc hne=>by rw[k5.gt c om hne,x4'.gt c hc],λc hc=>by rw[k5.ty c om,x4'.ty c hc]⟩,.inr ⟨rfl,H',V',fav',_,u5,F5,by simp,I5,λe he=>(hH' e).2 (.inl he),hnew⟩⟩
open Go.Am
open Go.Pla (at_ jn On Rot Pln Bond Link Part Plc Hg Bld Dual Thr)
def unl (Bl:List Nat) (H:Nat→Bool):Nat:=(Bl.filter λe=>!(H e)).length
theorem DD {H H':Nat→Bool} (hs:∀ e,H e=true→H' e=true):∀ {Bl:List Nat},unl Bl H'≤unl Bl H
 | []=>ab _
 | b::Bl=>by
   have ih:=DD hs (Bl:=Bl)
   unfold unl at ih ⊢
   rw[jh,jh]
   cases hb:H b with
   | true=>rw[hs b hb]; simpa using ih
   | false =>
     cases hb':H' b with
     | true=>simp only[cm,bB,if_false,bJ,if_true,aB]; omega
     | false=>simp only[bJ,if_true,aB]; omega
theorem DC {H H':Nat→Bool} (hs:∀ e,H e=true→H' e=true):∀ {Bl:List Nat},(∃ e∈Bl,H e=false∧H' e=true)→unl Bl H'<unl Bl H
 | [],⟨_,h,_⟩=>by simp at h
 | b::Bl,⟨e,he,h1,h2⟩=>by
   have ih:=DD hs (Bl:=Bl)
   have ih2:=DC hs (Bl:=Bl)
   unfold unl at ih ih2 ⊢
   rw[jh,jh]
   rcases aw.1 he with rfl|he
   ·rw[h1,h2]
    simp only[cm,bB,if_false,bJ,if_true,aB]; omega
   ·have ih2:=ih2 ⟨e,he,h1,h2⟩
    cases hb:H b with
    | true=>rw[hs b hb]; simpa using ih2
    | false =>
      cases hb':H' b with
      | true=>simp only[cm,bB,if_false,bJ,if_true,aB]; omega
      | false=>simp only[bJ,if_true,aB]; omega
theorem GK {H:Nat→Bool}{Bl:List Nat}:unl Bl H≤Bl.length:=eQ _ _
set_option maxHeartbeats 4000000 in
theorem EC {h:AH}{bb n:Nat}{ev edv:AV}{E:List (Int×Int)}{e0 k0:Nat}{Bl':List Nat}{la pa:Nat} (u:Bu h bb n ev edv E (e0::Bl') la pa (λ_=>false) (λ_=>false) .nils) (hE:InG n E) (hL:∀ i,i<E.length→tlE E i≠hdE E i) (hn:n<2 ^ 29) (hm:E.length<2 ^ 29) (hB:∀ i∈e0::Bl',i<E.length) (hBn:(e0::Bl').length<2 ^ 28) (hp:Pln (grE n E hE hL) (e0::Bl')) (hbo:Bond (grE n E hE hL) (e0::Bl')) (hli:Link (grE n E hE hL) (e0::Bl')) (hk0:k0∈e0::Bl') (hke:k0≠e0) :
 C prg 20 [.ptr bb 0] h λr h'=>Kp (λc=>c=la∨c=pa∨c=bb) h h'∧((r=.bool false∧¬ ∃ (Φ:Type) (l r:Nat→Φ),Dual (grE n E hE hL) (e0::Bl') l r)∨(r=.bool true∧∃ H V fav F,Bu h' bb n ev edv E (e0::Bl') la pa H V fav∧LL h' h.next fav F∧F.length≤(e0::Bl').length+2∧Bld (grE n E hE hL) (e0::Bl') H V F∧∀ e∈e0::Bl',H e=true)):=by
 have lt_bb:=AH.lt_of_get u.o
 have lt_la:=AH.lt_of_get u.l
 have lt_pa:=AH.lt_of_get u.v
 have oe2:Off (λc=>h.next≤c) ev:=by
  cases hq:ev with
  | sl b o m c=>exact λq=>by have:=u.e.lt hq; omega
  | _=>trivial
 have ob2:Off (λc=>h.next≤c) edv:=by
  cases hq:edv with
  | sl b o m c=>exact λq=>by have:=u.b.lt hq; omega
  | _=>trivial
 refine KK pf20 ?_
 refine ai (au (Mi0) ?_)
 refine ai (bU (bu 1 (Mi0) rfl (Zi0) (Mi0) (zc u hE hL om om hB om hp hbo hli hk0 hke) λ_ h1 hq=>?_))
 obtain⟨H,V,fav,F,u1,k1,F1,fl1,I1⟩:=hq
 refine bP (M0) ?_
 generalize hBl:e0::Bl'=Bl at *
 refine cY (fX (λm ts h'=>aN ts 0=.ptr bb 0∧Kp (λc=>c=la∨c=pa∨c=bb) h h'∧∃ H V fav F,Bu h' bb n ev edv E Bl la pa H V fav∧LL h' h.next fav F∧F.length+unl Bl H≤Bl.length+2∧Bld (grE n E hE hL) Bl H V F∧m=unl Bl H) ?_ (n:=unl Bl H) ⟨Zi0,k1,H,V,fav,F,u1,F1,by have:=GK (Bl:=Bl) (H:=H); omega,I1,rfl⟩)
 clear u1 k1 F1 fl1 I1
 rintro m ts h2 ⟨e0',k2,H,V,fav,F,u2,F2,fl2,I2,rfl⟩
 obtain⟨pt,P⟩:=Go.Pla.part_ex (grE n E hE hL) Bl H
 have n2:=k2.nx
 refine cY ?_
 refine ai (bU (bu 1 (M1 e0') rfl (Z1 e0') (M1 e0') (xg u2 hE hL om om hB om hp I2.plc P) λpv h3 hq=>?_))
 obtain⟨x3,ps,hps,hpl,hof,hcov⟩:=hq
 refine bP (M0) ?_
 have n3:=x3.nx
 have lp:=hps.len
 have k3:Kp (λc=>c=la∨c=pa∨c=bb) h h3:=k2.trans (x3.kp (S:=λ_=>False) (ab _)) (λ_ _ q=>q.elim)
 have u3:=u2.ext x3 (ab _)
 have F3:=F2.ext x3 (ab _)
 have fl3:F.length<2 ^ 29:=om
 cases hz:ps with
 | nil =>
   subst hz
   have dz:decide ((([]:List Pc).length:Nat)=(0:Int))=true:=rfl
   refine ai (ai (au (M2 lp dz) ?_))
   refine cE (M1 dz) ?_
   refine ai (au (M0) ?_)
   refine bM ⟨.bool true,(by simp only[rs,rf20,am,aH,simprocAttr]<;>rfl),k3,.inr ⟨rfl,H,V,fav,F,u3,F3,om,I2,λe he=>?_⟩⟩
   cases hHe:H e with
   | true=>rfl
   | false =>
     obtain⟨p,hp',_⟩:=hcov e he hHe
     simp at hp'
 | cons p ps' =>
   have hpos:0<ps.length:=by rw[hz]; simp
   rw[← hz] at *
   clear hz
   have dz:decide (((ps.length:Nat):Int)=0)=false:=by rw[bh]; omega
   refine ai (ai (bR (λts h'=>h'=h3∧aN ts 0=.ptr bb 0∧aN ts 3=pv∧aN ts 10=.bool false) (by simp only[am,aH,simprocAttr,e0',lp,dz]) ?_))
   rintro ts h3' ⟨rfl,e0',e3,e10⟩
   refine dn (Z1 e10) (bH ?_)
   refine ai (bU (bu 2 (M2 e0' e3) rfl (Z2 e0' e3) (M2 e0' e3) (Ck u3 hE hL hn hm hB om hp hbo hli I2 P F3 fl3 ⟨om,om,om,om⟩ oe2 ob2 hps om (λb m hb=>F2.lt hb) hpos om hof hcov) λrv h4 hq=>?_))
   obtain⟨k4,hq⟩:=hq
   have k4':Kp (λc=>c=la∨c=pa∨c=bb) h h4:=k3.trans k4 (λc hc q=>by
    rcases q with q|q|q|q
    ·exact .inl q
    ·exact .inr (.inl q)
    ·exact .inr (.inr q)
    ·omega)
   rcases hq with ⟨rfl,hno⟩|⟨rfl,H',V',fav',F',u4,F4,fl4,I4,hs,hnew⟩
   ·refine bP (M0) ?_
    refine cE (by simp only[am,aH,simprocAttr,bJ]) ?_
    refine ai (au (M0) ?_)
    exact bM ⟨.bool false,(by simp only[rs,rf20,am,aH,simprocAttr]<;>rfl),k4',.inl ⟨rfl,hno⟩⟩
   ·refine bP (M0) ?_
    refine dn (Z1 @cm) (bH ?_)
    have hlt:=DC hs hnew
    exact⟨unl Bl H',hlt,Z1 e0',k4',H',V',fav',F',u4,F4,om,I4,rfl⟩
open Go.Am
open Go.Pla (at_ jn On Rot Pln Bond Link Part Plc Hg Bld Dual Thr)
theorem Ev {h:AH}{b o:Nat}{x y:AV} (hr:ak h b o 2=some [x,y]):ak h b o 1=some [x]:=by
 unfold ak at hr ⊢
 revert hr
 cases h.get b with
 | none=>simp
 | some c =>
   cases c<;>simp
   intro h1 h2
   refine⟨om,?_⟩
   have:=congrArg (List.take 1) h2
   rw[wA] at this
   simpa using this
def hfE (E:List (Int×Int)) (i x:Nat):Nat:=if tlE E i=x then 2*i else 2*i+1
set_option maxHeartbeats 4000000 in
theorem tE {h:AH}{bb n:Nat}{ev edv:AV}{E:List (Int×Int)}{Bl:List Nat}{la pa:Nat}{H V:Nat→Bool}{fav:AV} (u:Bu h bb n ev edv E Bl la pa H V fav) (hE:InG n E) (hL:∀ i,i<E.length→tlE E i≠hdE E i) (hn:n<2 ^ 30) (hm:E.length<2 ^ 30) (hB:∀ i∈Bl,i<E.length) (hBn:Bl.length<2 ^ 30) (hp:Pln (grE n E hE hL) Bl) {x y i:Nat} (hx:x<n) (hy:y<n) (hi:i∈Bl) (hj:jn (grE n E hE hL) i x y=true) :
 C prg 39 [.ptr bb 0,.int .i64 (x:Nat),.int .i64 (y:Nat)] h λr h'=>r=.int .i64 (hfE E i x:Nat)∧Ext h.next h h':=by
 refine KK pf39 ?_
 have rb:ak h bb 2 1=some [edv]:=br u.o rfl
 have lb:=u.b.len
 rw[ae,ae] at lb
 refine ai (au (Mi0) ?_)
 refine ai (ai (au (Mi2 rb lb) ?_))
 refine ig (α:=Unit) (N:=Bl.length) (λ_ _=>[(14,edv),(0,.ptr bb 0),(1,.int .i64 (x:Nat)),(2,.int .i64 (y:Nat))])
  (λk _ h'=>Ext h.next h h'∧i∉Bl.take k) () (λ_ _=>rfl) om (Hi0) ⟨KI,by simp⟩ ?_ ?_
 ·rintro k _ ts h1 hk ⟨j1,j2⟩ ⟨ei,en,e14,e0,e1,e2,-⟩
  simp only at ei en e14 e0 e1 e2
  have u1:=u.ext j1 (ab _)
  obtain⟨b3,o3,a3,r3,_⟩:=u1.b.at1 (i:=k) (y:=.int .i64 (Bl[k]:Nat)) (by rw[aF,aF,ah hk]; rfl)
  have hBk:=bj hk
  have htk:Bl.take (k+1)=Bl.take k++[Bl[k]]:=by rw[eB,ah hk]; rfl
  generalize hq:Bl[k]=q at *
  have hqE:=hB q hBk
  refine ai (au (M4 e14 ei a3 r3) ?_)
  refine ai (bU (bu 3 (M2 e0 e1) rfl (Z2 e0 e1) (M2 e0 e1) (lD u1 hE (show n<2 ^ 40 by omega) hqE hx) λv h2 hv=>?_))
  obtain⟨rfl,x2⟩:=hv
  refine bP (M0) ?_
  have x2':Ext h.next h h2:=j1.trans (x2.mono j1.nx)
  have u2:=u.ext x2' (ab _)
  have jiff:=Ju (n:=n) (E:=E) (hE:=hE) (hL:=hL) (i:=q) (x:=x) (y:=y)
  have skip:jn (grE n E hE hL) q y x≠true→i∉Bl.take (k+1):=λh hc=>by
   rw[htk,ar,bG] at hc
   rcases hc with hc|hc
   ·exact j2 hc
   ·subst hc
    rw[Go.Pla.jn_iff] at hj
    exact h (by rw[Go.Pla.jn_iff]; rcases hj with h|h; exact .inr h; exact .inl h)
  cases hI:kz E q x with
  | false =>
    refine ai (au (M0) ?_)
    refine dn (Z0) (bH ?_)
    exact⟨(),⟨x2',skip (by rw[ne_eq,jiff,hI]; simp)⟩,by simp only[hl,am,aH,simprocAttr,ei,en,e14,e0,e1,e2]⟩
  | true =>
    by_cases hy':mg E q x=((y:Nat):Int)
    ·have dy:decide (mg E q x=((y:Nat):Int))=true:=aM hy'
     have hji:=jiff.2 ⟨hI,hy'⟩
     have:q=i:=hp.one q hBk i hi x y (by rw[Go.Pla.jn_iff] at hji ⊢; rcases hji with h|h; exact .inr h; exact .inl h) hj
     subst this
     obtain⟨q1,q2,q3⟩:=hE q hqE
     obtain⟨b6,o6,a6,r6,_,_⟩:=u2.e.at (fR (f:=eE) hqE)
     rw[q1] at r6
     have r6:ak h2 b6 o6 2=some [.int .i64 (tlE E q:Nat),.int .i64 (hdE E q:Nat)]:=r6
     have r7:ak h2 b6 o6 1=some [.int .i64 (tlE E q:Nat)]:=Ev r6
     have r1:ak h2 bb 1 1=some [ev]:=br u2.o rfl
     have w2q:IntKind.i64.wrap (2*((q:Nat):Int))=((2*q:Nat):Int):=by
      have:(2*((q:Nat):Int))=((2*q:Nat):Int):=om
      rw[this]; exact et om om
     have w2q1:IntKind.i64.wrap (((2*q:Nat):Int)+1)=((2*q+1:Nat):Int):=et om om
     refine ai (bR (λts h'=>h'=h2∧aN ts 0=.ptr bb 0∧aN ts 1=.int .i64 (x:Nat)∧aN ts 8=.int .i64 (q:Nat)∧aN ts 32=.bool true) (by simp only[am,aH,simprocAttr,e0,e1,e2,dy]) ?_)
     rintro ts h2' ⟨rfl,e0,e1,e8,e32⟩
     refine cE (Z1 e32) ?_
     by_cases ht:tlE E q=x
     ·have dt:decide (((tlE E q:Nat):Int)=((x:Nat):Int))=true:=by rw[decide_eq_true_iff,ht]
      refine ai (ai (au (M7 e0 e1 e8 r1 a6 r7 dt) ?_))
      refine cE (Z1 dt) ?_
      refine ai (bR (λts h'=>h'=h2'∧aN ts 6=.int .i64 ((2*q:Nat):Int)) (by simp only[am,aH,simprocAttr,e8,w2q]) ?_)
      rintro ts h3 ⟨rfl,e6⟩
      exact bM ⟨.int .i64 ((2*q:Nat):Int),(by simp only[rs,rf39,am,aH,simprocAttr,e6]<;>rfl),by rw[hfE,if_pos ht],x2'⟩
     ·have dt:decide (((tlE E q:Nat):Int)=((x:Nat):Int))=false:=by rw[bh]; omega
      refine ai (ai (bR (λts h'=>h'=h2'∧aN ts 8=.int .i64 (q:Nat)∧aN ts 43=.bool false) (by simp only[am,aH,simprocAttr,e0,e1,e8,r1,a6,r7,dt]) ?_))
      rintro ts h3 ⟨rfl,e8,e43⟩
      refine dn (Z1 e43) (bH ?_)
      refine ai (bR (λts h'=>h'=h3∧aN ts 6=.int .i64 ((2*q+1:Nat):Int)) (by simp only[am,aH,simprocAttr,e8,w2q,w2q1]) ?_)
      rintro ts h4 ⟨rfl,e6⟩
      exact bM ⟨.int .i64 ((2*q+1:Nat):Int),(by simp only[rs,rf39,am,aH,simprocAttr,e6]<;>rfl),by rw[hfE,if_neg ht],x2'⟩
    ·have dy:decide (mg E q x=((y:Nat):Int))=false:=aK hy'
     refine ai (au (M2 e2 dy) ?_)
     refine dn (Z1 dy) (bH ?_)
     exact⟨(),⟨x2',skip (by rw[ne_eq,jiff]; simp [hy'])⟩,by simp only[hl,am,aH,simprocAttr,ei,en,e14,e0,e1,e2]⟩
 ·rintro _ ts h1 ⟨j1,j2⟩ _
  rw[dg (ab _)] at j2
  exact absurd hi j2
end Go.Proofs.Ytpeemonpdlifbaa
