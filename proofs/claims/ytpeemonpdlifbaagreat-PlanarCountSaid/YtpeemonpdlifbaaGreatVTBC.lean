/- planar -/
import Derived.Test.YtpeemonpdlifbaaGreatVTBB
import Derived.Test.YtpeemonpdlifbaaGreatVTAX
set_option linter.all false
namespace Go.Proofs.YtpeemonpdlifbaaGreat
open Go.Am
open Go.Pla (at_ jn On Rot Pln Bond Link Part Plc Hg Bld Dual Thr)
theorem PcL.at {h:AH}{lo:Nat}{v:AV}{ps:List Pc} (hl:PcL h lo v ps) {i:Nat} (hi:i<ps.length):∃ b o atv,kR 3 v (.int .i64 (i:Nat))=some (.ptr b o)∧ar h b o 3=some [atv,.int .i64 ps[i].2.1,.int .i64 ps[i].2.2]∧IsSl h 1 lo atv (nC ps[i].1)∧b<h.next:=by
 obtain⟨qs,h1,h2,h3⟩:=hl
 have hs:Sl h 3 v (qs.map cP):=IsSl.sl om (λ_=>rfl) h1
 have hq:qs[i]?=some (qs[i]'om):=ah _
 obtain⟨b,o,q1,q2,_,q3⟩:=hs.at (i:=i) (x:=cP (qs[i]'om)) (by rw[aG,hq]; rfl)
 obtain⟨s1,s2,_⟩:=h3 i _ _ hq (ah hi)
 refine⟨b,o,(qs[i]'om).1,q1,?_,s1,q3⟩
 rw[q2,cP,s2]
theorem PcL.len {h:AH}{lo:Nat}{v:AV}{ps:List Pc} (hl:PcL h lo v ps):jS v=some (.int .i64 (ps.length:Nat)):=by
 obtain⟨qs,h1,h2,h3⟩:=hl
 rcases h1 with ⟨rfl,hz⟩|⟨b,n,_,rfl,hg,hn⟩
 ·have:=congrArg List.length hz
  rw[Ab,aP] at this
  have:ps.length=0:=om
  rw[this]; rfl
 ·rw[Ab] at hn
  have:n=ps.length:=om
  rw[this]; rfl
theorem ji {F:List (List Nat)}{l:List Nat}{f:Nat}:f∈eT F l↔f<F.length∧∀ x∈l,x∈Go.Pla.fcs F f:=by
 simp [eT,lD,Go.Pla.fcs]
theorem Jl {F:List (List Nat)}{l:List Nat}:(eT F l).Nodup:=List.nodup_range.filter _
theorem Kq {g:Go.Blk.Gr}{B:List Nat} (p:Pln g B):∀ {t:List Nat}{x:Nat},Go.Pla.Ch g B (x::t)→t≠[]→∀ z∈x::t,∃ e∈B,at_ g e z=true
 | [],_,_,h,_,_=>absurd rfl h
 | y::t,x,hc,_,z,hz=>by
   obtain⟨⟨e,he,hj⟩,hc'⟩:=hc
   rcases au.1 hz with rfl|hz
   ·exact⟨e,he,by rw[p.jat he hj]; simp [Ne.symm (p.jne he hj)]⟩
   ·cases t with
    | nil =>
      have:z=y:=by simpa using hz
      subst this
      exact⟨e,he,by rw[p.jat he hj]; simp [p.jne he hj]⟩
    | cons q t=>exact Kq p hc' (by simp) z hz
theorem KZ {h:AH}{n e:Nat}{z cs:List AV}{o:AO} (hg:h.get n=some o) (hl:z.length=cs.length):∃ h2,bZ (h.put n (.cells z e false)) n 0 cs=some h2∧Upd h h2 n (.cells cs e false):=by
 have u1:=LA (o:=.cells z e false) hg
 have u2:=LA (o:=.cells cs e false) u1.get
 refine⟨(h.put n (.cells z e false)).put n (.cells cs e false),?_,⟨by rw[u2.nx,u1.nx],λc=>by rw[u2.gt c,u1.gt c]; split<;>rfl,λc=>by rw[u2.ty c,u1.ty c]⟩⟩
 rw[fy u1.get,if_pos om]
 congr 3
 simp only[dI,gO,bj,bM]
 rw[dm om,dG]
theorem IL {g:Go.Blk.Gr}{Bl:List Nat}{H V:Nat→Bool}{F:List (List Nat)} (hp:Pln g Bl) (hb:Bond g Bl) (I:Bld g Bl H V F) {pt:Nat→Nat} (P:Part g Bl H pt) {p:Pc}{e0:Nat} (o:Of g Bl H V pt p e0) (h:eT F p.1=[]):¬ ∃ (Φ:Type) (l r:Nat→Φ),Dual g Bl l r:=λhd=>by
 obtain⟨f,hf,hv⟩:=Go.Pla.part_fits hp hb P (I.can hd) o.mem
 have:f∈eT F p.1:=ji.2 ⟨hf,λx hx=>hv x ((o.hgs x).1 hx)⟩
 rw[h] at this
 simp at this
theorem Hz {g:Go.Blk.Gr}{Bl:List Nat}{H V:Nat→Bool}{F:List (List Nat)} (hp:Pln g Bl) (hb:Bond g Bl) (hl:Link g Bl) (I:Bld g Bl H V F) {pt:Nat→Nat} (P:Part g Bl H pt) {ps:List Pc} (hps:∀ e∈Bl,H e=false→∃ p∈ps,∃ e0,Of g Bl H V pt p e0∧pt e0=pt e) {p:Pc}{e0:Nat} (o:Of g Bl H V pt p e0) (hmin:∀ q∈ps,(eT F p.1).length≤(eT F q.1).length) {f:Nat}{rest:List Nat} (hfit:eT F p.1=f::rest) {y1 y2:Nat}{i:List Nat} (t:Thr g Bl H V pt e0 y1 y2 i) {s tl':List Nat} (hr:Rot (Go.Pla.fcs F f) (y1::s++y2::tl')) {H' V':Nat→Bool} (hH':∀ j,H' j=true↔H j=true∨(j∈Bl∧On g (y1::i++[y2]) j)) (hV':∀ v,V' v=true↔V v=true∨v∈y1::i++[y2]) :
 Bld g Bl H' V' (F.set f (y1::s++y2::i.reverse)++[y2::tl'++y1::i])∧∃ e∈Bl,H e=false∧H' e=true:=by
 have hff:f∈eT F p.1:=by rw[hfit]; simp
 obtain⟨hf,hfv⟩:=ji.1 hff
 constructor
 ·refine Go.Pla.inv_cut hp hb hl I P hf hr t.ch t.nd t.fr t.new (λe he ho v hv=>?_) ?_ (λe he=>?_) hV'
  ·rw[t.part e he ho] at hv
   exact hfv v ((o.hgs v).2 hv)
  ·cases rest with
   | nil =>
     refine .inl λe he ho h hh hv=>?_
     have:h∈eT F p.1:=ji.2 ⟨hh,λx hx=>hv x (by rw[t.part e he ho]; exact (o.hgs x).1 hx)⟩
     rw[hfit] at this
     simpa using this
   | cons f2 rest =>
     refine .inr λe he hH=>?_
     obtain⟨q,hq,e1,o1,h1⟩:=hps e he hH
     have h2:=hmin q hq
     rw[hfit] at h2
     cases hfq:eT F q.1 with
     | nil=>rw[hfq] at h2; simp at h2
     | cons a l =>
       cases l with
       | nil=>rw[hfq] at h2; simp at h2
       | cons b l =>
         have nd:=Jl (F:=F) (l:=q.1)
         rw[hfq] at nd
         have ha:a∈eT F q.1:=by rw[hfq]; simp
         have hb':b∈eT F q.1:=by rw[hfq]; simp
         refine⟨a,b,(ji.1 ha).1,(ji.1 hb').1,λe=>by subst e; simp at nd,λv hv=>?_⟩
         have:v∈q.1:=(o1.hgs v).2 (by rw[h1]; exact hv)
         exact⟨(ji.1 ha).2 v this,(ji.1 hb').2 v this⟩
  ·rw[hH']
   constructor
   ·rintro (h|⟨_,h⟩)
    ·exact .inl h
    ·exact .inr h
   ·rintro (h|h)
    ·exact .inl h
    ·exact .inr ⟨he,h⟩
 ·have hch:=t.ch
  have key:∃ e∈Bl,On g (y1::i++[y2]) e:=by
   cases i with
   | nil=>obtain⟨⟨e,he,hj⟩,_⟩:=hch; exact⟨e,he,[],y1,y2,[],rfl,hj⟩
   | cons q i=>obtain⟨⟨e,he,hj⟩,_⟩:=hch; exact⟨e,he,[],y1,q,i++[y2],rfl,hj⟩
  obtain⟨e,he,ho⟩:=key
  exact⟨e,he,t.fresh hp I.plc e he ho,(hH' e).2 (.inr ⟨he,ho⟩)⟩
set_option maxHeartbeats 4000000 in
theorem CD {h:AH}{bb n lo lo2:Nat}{ev edv pv:AV}{E:List (Int×Int)}{Bl:List Nat}{la pa:Nat}{H V:Nat→Bool}{fav:AV}{F:List (List Nat)}{ps:List Pc} (u:Bu h bb n ev edv E Bl la pa H V fav) (hE:InG n E) (hL:∀ i,i<E.length→tlE E i≠hdE E i) (hn:n<2 ^ 29) (hm:E.length<2 ^ 29) (hB:∀ i∈Bl,i<E.length) (hBn:Bl.length<2 ^ 29)
 (hp:Pln (grE n E hE hL) Bl) (hb:Bond (grE n E hE hL) Bl) (hlk:Link (grE n E hE hL) Bl) (I:Bld (grE n E hE hL) Bl H V F) {pt:Nat→Nat} (P:Part (grE n E hE hL) Bl H pt)
 (hF:LL h lo fav F) (hFl:F.length<2 ^ 29) (hlo:la<lo∧pa<lo∧bb<lo∧lo≤h.next) (oe2:Off (λc=>lo≤c) ev) (ob2:Off (λc=>lo≤c) edv)
 (hps:PcL h lo2 pv ps) (hlo2:lo≤lo2) (hfl2:∀ b m,fav=.sl b 0 m m→b<lo2) (hpl:0<ps.length) (hpl2:ps.length<2 ^ 29) (hof:∀ p∈ps,∃ e0,Of (grE n E hE hL) Bl H V pt p e0) (hcov:∀ e∈Bl,H e=false→∃ p∈ps,∃ e0,Of (grE n E hE hL) Bl H V pt p e0∧pt e0=pt e) :
 C prg 29 [.ptr bb 0,pv] h λr h'=>Kp (λc=>c=la∨c=pa∨c=bb∨lo≤c) h h'∧((r=.bool false∧¬ ∃ (Φ:Type) (l r:Nat→Φ),Dual (grE n E hE hL) Bl l r)∨(r=.bool true∧∃ H' V' fav' F',Bu h' bb n ev edv E Bl la pa H' V' fav'∧LL h' lo fav' F'∧F'.length=F.length+1∧Bld (grE n E hE hL) Bl H' V' F'∧(∀ e,H e=true→H' e=true)∧∃ e∈Bl,H e=false∧H' e=true)):=by
 have hpn:∀ p∈ps,p.1.length<2 ^ 29:=λp hq=>by
  obtain⟨e0,o⟩:=hof p hq
  have:=Go.Pla.nd_lt o.nd (n:=n) λz hz=>by
   obtain⟨e,he,_,_,ha,_⟩:=(o.hgs z).1 hz
   exact Go.Pla.at_lt (hp.lt e he) ha
  omega
 have hFn:∀ c∈F,c.length<2 ^ 30:=λc hc=>by
  obtain⟨k,hk,rfl⟩:=dp.1 hc
  have hcc:=I.lay.circ k hk
  have hq:Go.Pla.fcs F k=F[k]:=by simp [Go.Pla.fcs,List.getD,hk]
  rw[hq] at hcc
  have:=Go.Pla.nd_lt hcc.nodup (n:=n) λz hz=>by
   obtain⟨e,he,ha,_⟩:=Go.Pla.cy_at hp hcc hz
   exact Go.Pla.at_lt (hp.lt e he) ha
  omega
 refine LB pf29 ?_
 refine aj (aB (Mi0) ?_)
 have hps1:PcL (h.keep 1) lo2 pv ps:=hps.cong λc _ hc=>sd hc
 obtain⟨b1,o1,av,a1,r1,i1,lb1⟩:=hps1.at (i:=0) hpl
 rw[cH] at a1
 have xk:Ext h.next h (h.keep 1):=⟨by rw[AH.keep_next]; omega,λc hc=>sd hc,λc _=>Lx 1 h⟩
 have nk:(h.keep 1).next=h.next+1:=AH.keep_next 1 h
 have uk:=u.ext xk (ae _)
 have Fk:=hF.ext xk (ae _)
 have hm0:ps[0]∈ps:=aR hpl
 have hfit0:=tZ (s:=ps[0].2.1) (e:=ps[0].2.2) uk Fk om hFn (eu i1) (by have:=hpn _ hm0; omega)
 refine aj (nY (lh 7 (Mi2 a1 r1) rfl (Zi2 a1 r1) (Mi2 a1 r1) (hfit0) λrv h1 hq=>?_))
 obtain⟨f1,x1⟩:=hq
 rw[nk] at f1 x1
 have n1:=x1.nx
 rw[nk] at n1
 have r1':ar h1 b1 o1 3=some [av,.int .i64 ps[0].2.1,.int .i64 ps[0].2.2]:=by rw[cM (x1.gt b1 (by rw[nk] at lb1; exact lb1))]; exact r1
 have g1:h1.get h.next=some .resv:=by rw[x1.gt _ om]; exact iR
 have hsame:av.same av=true:=by rcases i1 with ⟨rfl,_⟩|⟨b,n,_,rfl,_⟩<;>simp [AV.same]
 obtain⟨h2,w2,u2⟩:=KZ (e:=3) (z:=[.nils,.int .i64 0,.int .i64 0]) (cs:=[av,.int .i64 ps[0].2.1,.int .i64 ps[0].2.2]) g1 rfl
 refine⟨by simp only[am,aF,simprocAttr,r1']; simp [AV.same,AV.sames,hsame],?_⟩
 refine bI (by simp only[am,aF,simprocAttr,bH,fA,De g1,i1.cells.1,i1.cells.2,w2,aw,aP,if_true,Nat.reduceAdd]<;>rfl) ?_
 have n2:=u2.nx
 have x2:Ext h.next h h2:=⟨om,λc hc=>by rw[u2.ne om,x1.gt c om,sd hc],λc hc=>by rw[u2.ty c,x1.ty c om,Lx]⟩
 have f2:IsSl h2 1 (h.next+1) rv (nC (eT F ps[0].1)):=f1.cong λb m e hb=>u2.ne om
 have lp:=hps.len
 refine aj (aj (aj (bT (λts h'=>h'=h2∧aY ts 0=.ptr bb 0∧aY ts 5=.ptr h.next 0∧aY ts 6=rv∧aY ts 19=pv∧aY ts 20=.int .i64 (ps.length:Nat)∧aY ts 21=.int .i64 0) (by simp only[am,aF,simprocAttr,lp]) ?_)))
 rintro ts h2' ⟨rfl,e0,e5,e6,e19,e20,e21⟩
 have gD:∀ {i:Nat} (hi:i<ps.length),ps.getD i ([],0,0)=ps[i]:=λhi=>by simp [List.getD,hi]
 have hi0:IsSl h 1 lo2 av (nC (ps.getD 0 ([],0,0)).1):=by
  rw[gD hpl]
  obtain⟨b0,o0,av0,a0,r0,i0,lb0⟩:=hps.at (i:=0) hpl
  rw[cH,a1] at a0
  cases a0
  rw[cM (sd lb0),r0] at r1
  simp only[aa,eR,and_true] at r1
  rw[← r1]; exact i0
 refine fB (α:=Nat×AV) (N:=ps.length) (λ_ a=>[(19,pv),(0,.ptr bb 0),(5,.ptr h.next 0),(6,a.2)])
  (λk a h'=>Ext h.next h h'∧h.next<h'.next∧(∃ atv s e,h'.get h.next=some (.cells [atv,.int .i64 s,.int .i64 e] 3 false)∧IsSl h 1 lo2 atv (nC (ps.getD a.1 ([],0,0)).1)∧s=(ps.getD a.1 ([],0,0)).2.1∧e=(ps.getD a.1 ([],0,0)).2.2)∧a.1<ps.length∧IsSl h' 1 (h.next+1) a.2 (nC (eT F (ps.getD a.1 ([],0,0)).1))∧∀ i,i<k→eT F (ps.getD i ([],0,0)).1≠[]∧(eT F (ps.getD a.1 ([],0,0)).1).length≤(eT F (ps.getD i ([],0,0)).1).length)
  (0,rv) (λ_ _=>rfl) om (H6 e0 e5 e6 e19 e20 e21) ⟨x2,om,⟨av,_,_,u2.get,hi0,by rw[gD hpl],by rw[gD hpl]⟩,hpl,by rw[gD hpl]; exact f2,λi hi=>by omega⟩ ?_ ?_
 ·clear e0 e5 e6 e19 e20 e21
  rintro k ⟨j,fv⟩ ts h3 hk ⟨j1,j2,⟨atv,s,e,j3,j4,j5,j6⟩,j7,j8,j9⟩ ⟨e21,e20,e19,e0,e5,e6,-⟩
  simp only at e21 e20 e19 e0 e5 e6 j3 j4 j5 j6 j7 j8 j9
  obtain⟨b4,o4,av4,a4,r4,i4,lb4⟩:=hps.at hk
  have r4':ar h3 b4 o4 3=some [av4,.int .i64 ps[k].2.1,.int .i64 ps[k].2.2]:=by rw[cM (j1.gt b4 lb4)]; exact r4
  obtain⟨h4,w4,x4,g4,n4⟩:=gm (h:=h3) (z:=[.nils,.int .i64 0,.int .i64 0]) (cs:=[av4,.int .i64 ps[k].2.1,.int .i64 ps[k].2.2]) (e:=3) rfl
  refine aj (bT (λts h'=>h'=h4∧Held [(21,.int .i64 (k:Nat)),(20,.int .i64 (ps.length:Nat)),(19,pv),(0,.ptr bb 0),(5,.ptr h.next 0),(6,fv),(8,.ptr h3.next 0)] ts) (by simp only[am,aF,simprocAttr,e21,e20,e19,e0,e5,e6,a4,r4',i4.cells.1,i4.cells.2,w4,cz,cK,aw,aP,if_true]) ?_)
  rintro ts h4' ⟨rfl,e21,e20,e19,e0,e5,e6,e8,-⟩
  have x4':Ext h.next h h4':=j1.trans (x4.mono om)
  have u4:=u.ext x4' (ae _)
  have F4:=hF.ext x4' (ae _)
  have i4':=i4.ext x4' (ae _)
  have hmk:ps[k]∈ps:=aR hk
  have r8:ar h4' h3.next 0 3=some [av4,.int .i64 ps[k].2.1,.int .i64 ps[k].2.2]:=by rw[bg g4]; rfl
  refine aj (bO (bt 2 (M3 e0 e8 r8) rfl (Z3 e0 e8 r8) (M3 e0 e8 r8) (tZ (s:=ps[k].2.1) (e:=ps[k].2.2) u4 F4 om hFn (eu i4') (by have:=hpn _ hmk; omega)) λrv' h5 hq=>?_))
  obtain⟨f5,x5⟩:=hq
  refine bI (M0) ?_
  have n5:=x5.nx
  have x5':Ext h.next h h5:=x4'.trans (x5.mono om)
  have lf:=(eu f5).len
  rw[ak,ak] at lf
  have g5:h5.get h.next=some (.cells [atv,.int .i64 s,.int .i64 e] 3 false):=by rw[x5.gt _ om,x4.gt _ j2]; exact j3
  have lb:=(eu j8).len
  rw[ak,ak] at lb
  by_cases hz:eT F ps[k].1=[]
  ·have dz:decide (((eT F ps[k].1).length:Nat)=(0:Int))=true:=by rw[hz]; rfl
   refine aj (aj (aB (M2 lf dz) ?_))
   refine cX (Z1 dz) ?_
   refine aj (aB (M0) ?_)
   obtain⟨e0,o0⟩:=hof _ hmk
   exact bG ⟨.bool false,(by simp only[rs,rf29,am,aF,simprocAttr]<;>rfl),⟨x5'.nx,λc hc _=>x5'.gt c hc,λc hc=>x5'.ty c hc⟩,.inl ⟨rfl,IL hp hb I P o0 hz⟩⟩
  ·have hz':(eT F ps[k].1).length≠0:=λq=>hz (List.eq_nil_of_length_eq_zero q)
   have dz:decide (((eT F ps[k].1).length:Nat)=(0:Int))=false:=by rw[aV]; omega
   refine aj (aj (bT (λts h'=>h'=h5∧Held [(21,.int .i64 (k:Nat)),(20,.int .i64 (ps.length:Nat)),(19,pv),(0,.ptr bb 0),(5,.ptr h.next 0),(6,fv),(8,.ptr h3.next 0),(9,rv'),(30,.bool false)] ts) (by simp only[am,aF,simprocAttr,e21,e20,e19,e0,e5,e6,e8,lf,dz,cz,cK]) ?_))
   rintro ts h5' ⟨rfl,e21,e20,e19,e0,e5,e6,e8,e9,e30,-⟩
   refine dL (Z1 e30) (bK ?_)
   have j8':IsSl h5' 1 (h.next+1) fv (nC (eT F (ps.getD j ([],0,0)).1)):=(j8.ext x4 (ae _)).ext x5 (ae _)
   by_cases hc:(eT F ps[k].1).length<(eT F (ps.getD j ([],0,0)).1).length
   ·have dc:decide (((eT F ps[k].1).length:Nat)<(((eT F (ps.getD j ([],0,0)).1).length:Nat):Int))=true:=by rw[decide_eq_true_iff]; omega
    refine aj (aB (M5 e9 e6 lf lb dc) ?_)
    refine cX (Z1 dc) ?_
    have r8':ar h5' h3.next 0 3=some [av4,.int .i64 ps[k].2.1,.int .i64 ps[k].2.2]:=by rw[cM (x5.gt _ om)]; exact r8
    have u6:=LA (o:=.cells [av4,.int .i64 ps[k].2.1,.int .i64 ps[k].2.2] 3 false) g5
    have w6:bZ h5' h.next 0 [av4,.int .i64 ps[k].2.1,.int .i64 ps[k].2.2]=some (h5'.put h.next (.cells [av4,.int .i64 ps[k].2.1,.int .i64 ps[k].2.2] 3 false)):=by rw[fy g5]; rfl
    have n6:=u6.nx
    refine bT (λts h'=>h'=h5'.put h.next (.cells [av4,.int .i64 ps[k].2.1,.int .i64 ps[k].2.2] 3 false)∧Held [(21,.int .i64 (k:Nat)),(20,.int .i64 (ps.length:Nat)),(19,pv),(0,.ptr bb 0),(5,.ptr h.next 0),(6,rv')] ts) (by simp only[am,aF,simprocAttr,e21,e20,e19,e0,e5,e6,e8,e9,r8',i4.cells.1,i4.cells.2,w6,cz,cK,aw,aP,if_true]) ?_
    rintro ts h6 ⟨rfl,hh⟩
    refine⟨(k,rv'),⟨?_,om,⟨av4,_,_,u6.get,by rw[gD hk]; exact i4,by rw[gD hk],by rw[gD hk]⟩,hk,?_,λi hi=>?_⟩,hh⟩
    ·exact⟨by have:=x5'.nx; omega,λc hc=>by rw[u6.ne om,x5'.gt c hc],λc hc=>by rw[u6.ty c,x5'.ty c hc]⟩
    ·rw[gD hk]; exact (f5.mono om).cong λb m e hb=>u6.ne om
    ·rw[gD hk]
     rcases bU i k with h|h
     ·obtain⟨q1,q2⟩:=j9 i h
      exact⟨q1,om⟩
     ·have:i=k:=om
      subst this
      rw[gD hk]; exact⟨hz,ae _⟩
   ·have dc:decide (((eT F ps[k].1).length:Nat)<(((eT F (ps.getD j ([],0,0)).1).length:Nat):Int))=false:=by rw[aV]; omega
    refine aj (bT (λts h'=>h'=h5'∧Held [(21,.int .i64 (k:Nat)),(20,.int .i64 (ps.length:Nat)),(19,pv),(0,.ptr bb 0),(5,.ptr h.next 0),(6,fv),(35,.bool false)] ts) (by simp only[am,aF,simprocAttr,e21,e20,e19,e0,e5,e6,e9,lf,lb,dc,cz,cK]) ?_)
    rintro ts h6 ⟨rfl,e21,e20,e19,e0,e5,e6,e35,-⟩
    refine dL (Z1 e35) (bK ?_)
    refine⟨(j,fv),⟨x5',om,⟨atv,s,e,g5,j4,j5,j6⟩,j7,j8',λi hi=>?_⟩,H6 e21 e20 e19 e0 e5 e6⟩
    rcases bU i k with h|h
    ·exact j9 i h
    ·have:i=k:=om
     subst this
     rw[gD hk]; exact⟨hz,gM hc⟩
 ·rintro⟨j,fv⟩ ts h3 ⟨j1,j2,⟨atv,s,e,j3,j4,j5,j6⟩,j7,j8,j9⟩ ⟨e19,e0,e5,e6,-⟩
  simp only at e19 e0 e5 e6 j3 j4 j5 j6 j7 j8 j9
  rw[gD j7] at j4 j5 j6 j8 j9
  subst j5 j6
  have hmj:ps[j]∈ps:=aR j7
  have lb:=(eu j8).len
  rw[ak,ak] at lb
  have hnz:eT F ps[j].1≠[]:=by have:=(j9 j j7).1; rw[gD j7] at this; exact this
  have hmin:∀ q∈ps,(eT F ps[j].1).length≤(eT F q.1).length:=λq hq=>by
   obtain⟨i,hi,rfl⟩:=dp.1 hq
   have:=(j9 i hi).2
   rw[gD hi] at this; exact this
  obtain⟨e0',o0⟩:=hof _ hmj
  obtain⟨f,rest,hfit⟩:∃ f rest,eT F ps[j].1=f::rest:=dT hnz
  have dz:decide (((eT F ps[j].1).length:Nat)=(0:Int))=false:=by rw[hfit,aw,aV]; omega
  refine aj (aj (bT (λts h'=>h'=h3∧aY ts 0=.ptr bb 0∧aY ts 5=.ptr h.next 0∧aY ts 6=fv∧aY ts 41=.bool false) (by simp only[am,aF,simprocAttr,e0,e5,e6,lb,dz]) ?_))
  rintro ts h3' ⟨rfl,e0,e5,e6,e41⟩
  refine dL (Z1 e41) (bK ?_)
  have u3:=u.ext j1 (ae _)
  have r5:ar h3' h.next 0 3=some [atv,.int .i64 ps[j].2.1,.int .i64 ps[j].2.2]:=by rw[bg j3]; rfl
  have i4:=j4.ext j1 (ae _)
  refine aj (bO (bt 2 (M3 e0 e5 r5) rfl (Z3 e0 e5 r5) (M3 e0 e5 r5) (EX u3 hE hL om om hB om hp hb hlk I.plc P I.ex o0 i4 om) λwv h4 hq=>?_))
  obtain⟨x4,y1,y2,i,hw,hwo,t⟩:=hq
  refine bI (M0) ?_
  have n4:=x4.nx
  have x4':Ext h.next h h4:=j1.trans (x4.mono om)
  have u4:=u.ext x4' (ae _)
  have F4:=hF.ext x4' (ae _)
  have j84:=j8.ext x4 (ae _)
  obtain⟨bf,of,af,rf',_⟩:=(eu j84).at1 (i:=0) (y:=.int .i64 (f:Nat)) (by rw[hfit]; rfl)
  rw[cH] at af
  have hff:f∈eT F ps[j].1:=by rw[hfit]; simp
  obtain⟨hf,hfv⟩:=ji.1 hff
  have hFf:Go.Pla.fcs F f=F[f]:=by simp [Go.Pla.fcs,List.getD,hf]
  have lt_la:=AH.lt_of_get u.l
  have lt_pa:=AH.lt_of_get u.v
  have lt_bb:=AH.lt_of_get u.o
  have hyn:∀ z∈y1::i++[y2],z<n:=λz hz=>by
   obtain⟨e,he,ha⟩:=Kq hp t.ch (by simp) z hz
   exact Go.Pla.at_lt (hp.lt e he) ha
  have hil:i.length<2 ^ 29:=by
   have:=Go.Pla.nd_lt t.nd (n:=n) hyn
   simp at this; omega
  obtain⟨ey1,ey2⟩:=t.ends hp I.plc
  have mem1:y1∈F[f]:=by rw[← hFf]; exact hfv y1 ((o0.hgs y1).2 ey1)
  have mem2:y2∈F[f]:=by rw[← hFf]; exact hfv y2 ((o0.hgs y2).2 ey2)
  have hcn:F[f].Nodup:=by rw[← hFf]; exact (I.lay.circ f hf).nodup
  refine aj (bO (bt 5 (M4 e0 e6 af rf') rfl (Z4 e0 e6 af rf') (M4 e0 e6 af rf') (zq u4 hE hL om om hB om F4 om ⟨om,om,om,om⟩ hf (hFn _ (aR hf)) hcn hw hil hyn t.nd (fT hwo λc hc=>by rcases hc with h|h|h<;>omega) (λb m hb=>fT hwo λc hc=>by have h1:=hfl2 b m hb; have h2:=hF.lt hb; omega) mem1 mem2 oe2 ob2) λ_ h5 hq=>?_))
  obtain⟨s,tl',H',V',fav',hr,u5,F5,k5,hH',hV'⟩:=hq
  refine bI (M0) ?_
  rw[← hFf] at hr
  obtain⟨I5,hnew⟩:=Hz hp hb hlk I P hcov o0 hmin hfit t hr hH' hV'
  refine aj (aB (M0) ?_)
  refine bG ⟨.bool true,(by simp only[rs,rf29,am,aF,simprocAttr]<;>rfl),⟨by have:=k5.nx; omega,λc hc hne=>by rw[k5.gt c om hne,x4'.gt c hc],λc hc=>by rw[k5.ty c om,x4'.ty c hc]⟩,.inr ⟨rfl,H',V',fav',_,u5,F5,by simp,I5,λe he=>(hH' e).2 (.inl he),hnew⟩⟩
open Go.Am
open Go.Pla (at_ jn On Rot Pln Bond Link Part Plc Hg Bld Dual Thr)
def unl (Bl:List Nat) (H:Nat→Bool):Nat:=(Bl.filter λe=>!(H e)).length
theorem DX {H H':Nat→Bool} (hs:∀ e,H e=true→H' e=true):∀ {Bl:List Nat},unl Bl H'≤unl Bl H
 | []=>ae _
 | b::Bl=>by
   have ih:=DX hs (Bl:=Bl)
   unfold unl at ih ⊢
   rw[lU,lU]
   cases hb:H b with
   | true=>rw[hs b hb]; simpa using ih
   | false =>
     cases hb':H' b with
     | true=>simp only[cr,bh,if_false,bQ,if_true,aw]; omega
     | false=>simp only[bQ,if_true,aw]; omega
theorem DW {H H':Nat→Bool} (hs:∀ e,H e=true→H' e=true):∀ {Bl:List Nat},(∃ e∈Bl,H e=false∧H' e=true)→unl Bl H'<unl Bl H
 | [],⟨_,h,_⟩=>by simp at h
 | b::Bl,⟨e,he,h1,h2⟩=>by
   have ih:=DX hs (Bl:=Bl)
   have ih2:=DW hs (Bl:=Bl)
   unfold unl at ih ih2 ⊢
   rw[lU,lU]
   rcases au.1 he with rfl|he
   ·rw[h1,h2]
    simp only[cr,bh,if_false,bQ,if_true,aw]; omega
   ·have ih2:=ih2 ⟨e,he,h1,h2⟩
    cases hb:H b with
    | true=>rw[hs b hb]; simpa using ih2
    | false =>
      cases hb':H' b with
      | true=>simp only[cr,bh,if_false,bQ,if_true,aw]; omega
      | false=>simp only[bQ,if_true,aw]; omega
theorem Hr {H:Nat→Bool}{Bl:List Nat}:unl Bl H≤Bl.length:=ep _ _
set_option maxHeartbeats 4000000 in
theorem EY {h:AH}{bb n:Nat}{ev edv:AV}{E:List (Int×Int)}{e0 k0:Nat}{Bl':List Nat}{la pa:Nat} (u:Bu h bb n ev edv E (e0::Bl') la pa (λ_=>false) (λ_=>false) .nils) (hE:InG n E) (hL:∀ i,i<E.length→tlE E i≠hdE E i) (hn:n<2 ^ 29) (hm:E.length<2 ^ 29) (hB:∀ i∈e0::Bl',i<E.length) (hBn:(e0::Bl').length<2 ^ 28) (hp:Pln (grE n E hE hL) (e0::Bl')) (hbo:Bond (grE n E hE hL) (e0::Bl')) (hli:Link (grE n E hE hL) (e0::Bl')) (hk0:k0∈e0::Bl') (hke:k0≠e0) :
 C prg 13 [.ptr bb 0] h λr h'=>Kp (λc=>c=la∨c=pa∨c=bb) h h'∧((r=.bool false∧¬ ∃ (Φ:Type) (l r:Nat→Φ),Dual (grE n E hE hL) (e0::Bl') l r)∨(r=.bool true∧∃ H V fav F,Bu h' bb n ev edv E (e0::Bl') la pa H V fav∧LL h' h.next fav F∧F.length≤(e0::Bl').length+2∧Bld (grE n E hE hL) (e0::Bl') H V F∧∀ e∈e0::Bl',H e=true)):=by
 have lt_bb:=AH.lt_of_get u.o
 have lt_la:=AH.lt_of_get u.l
 have lt_pa:=AH.lt_of_get u.v
 have oe2:Off (λc=>h.next≤c) ev:=by
  cases hq:ev with
  | sl b o m c=>exact λq=>by have:=u.e.lt hq; omega
  | _=>trivial
 have ob2:Off (λc=>h.next≤c) edv:=by
  cases hq:edv with
  | sl b o m c=>exact λq=>by have:=u.b.lt hq; omega
  | _=>trivial
 refine LB pf13 ?_
 refine aj (aB (Mi0) ?_)
 refine aj (bO (bt 1 (Mi0) rfl (Zi0) (Mi0) (zt u hE hL om om hB om hp hbo hli hk0 hke) λ_ h1 hq=>?_))
 obtain⟨H,V,fav,F,u1,k1,F1,fl1,I1⟩:=hq
 refine bI (M0) ?_
 generalize hBl:e0::Bl'=Bl at *
 refine cL (fW (λm ts h'=>aY ts 0=.ptr bb 0∧Kp (λc=>c=la∨c=pa∨c=bb) h h'∧∃ H V fav F,Bu h' bb n ev edv E Bl la pa H V fav∧LL h' h.next fav F∧F.length+unl Bl H≤Bl.length+2∧Bld (grE n E hE hL) Bl H V F∧m=unl Bl H) ?_ (n:=unl Bl H) ⟨Zi0,k1,H,V,fav,F,u1,F1,by have:=Hr (Bl:=Bl) (H:=H); omega,I1,rfl⟩)
 clear u1 k1 F1 fl1 I1
 rintro m ts h2 ⟨e0',k2,H,V,fav,F,u2,F2,fl2,I2,rfl⟩
 obtain⟨pt,P⟩:=Go.Pla.part_ex (grE n E hE hL) Bl H
 have n2:=k2.nx
 refine cL ?_
 refine aj (bO (bt 1 (M1 e0') rfl (Z1 e0') (M1 e0') (xD u2 hE hL om om hB om hp I2.plc P) λpv h3 hq=>?_))
 obtain⟨x3,ps,hps,hpl,hof,hcov⟩:=hq
 refine bI (M0) ?_
 have n3:=x3.nx
 have lp:=hps.len
 have k3:Kp (λc=>c=la∨c=pa∨c=bb) h h3:=k2.trans (x3.kp (S:=λ_=>False) (ae _)) (λ_ _ q=>q.elim)
 have u3:=u2.ext x3 (ae _)
 have F3:=F2.ext x3 (ae _)
 have fl3:F.length<2 ^ 29:=om
 cases hz:ps with
 | nil =>
   subst hz
   have dz:decide ((([]:List Pc).length:Nat)=(0:Int))=true:=rfl
   refine aj (aj (aB (M2 lp dz) ?_))
   refine cX (M1 dz) ?_
   refine aj (aB (M0) ?_)
   refine bG ⟨.bool true,(by simp only[rs,rf13,am,aF,simprocAttr]<;>rfl),k3,.inr ⟨rfl,H,V,fav,F,u3,F3,om,I2,λe he=>?_⟩⟩
   cases hHe:H e with
   | true=>rfl
   | false =>
     obtain⟨p,hp',_⟩:=hcov e he hHe
     simp at hp'
 | cons p ps' =>
   have hpos:0<ps.length:=by rw[hz]; simp
   rw[← hz] at *
   clear hz
   have dz:decide (((ps.length:Nat):Int)=0)=false:=by rw[aV]; omega
   refine aj (aj (bT (λts h'=>h'=h3∧aY ts 0=.ptr bb 0∧aY ts 3=pv∧aY ts 10=.bool false) (by simp only[am,aF,simprocAttr,e0',lp,dz]) ?_))
   rintro ts h3' ⟨rfl,e0',e3,e10⟩
   refine dL (Z1 e10) (bK ?_)
   refine aj (bO (bt 2 (M2 e0' e3) rfl (Z2 e0' e3) (M2 e0' e3) (CD u3 hE hL hn hm hB om hp hbo hli I2 P F3 fl3 ⟨om,om,om,om⟩ oe2 ob2 hps om (λb m hb=>F2.lt hb) hpos om hof hcov) λrv h4 hq=>?_))
   obtain⟨k4,hq⟩:=hq
   have k4':Kp (λc=>c=la∨c=pa∨c=bb) h h4:=k3.trans k4 (λc hc q=>by
    rcases q with q|q|q|q
    ·exact .inl q
    ·exact .inr (.inl q)
    ·exact .inr (.inr q)
    ·omega)
   rcases hq with ⟨rfl,hno⟩|⟨rfl,H',V',fav',F',u4,F4,fl4,I4,hs,hnew⟩
   ·refine bI (M0) ?_
    refine cX (by simp only[am,aF,simprocAttr,bQ]) ?_
    refine aj (aB (M0) ?_)
    exact bG ⟨.bool false,(by simp only[rs,rf13,am,aF,simprocAttr]<;>rfl),k4',.inl ⟨rfl,hno⟩⟩
   ·refine bI (M0) ?_
    refine dL (Z1 @cr) (bK ?_)
    have hlt:=DW hs hnew
    exact⟨unl Bl H',hlt,Z1 e0',k4',H',V',fav',F',u4,F4,om,I4,rfl⟩
open Go.Am
open Go.Pla (at_ jn On Rot Pln Bond Link Part Plc Hg Bld Dual Thr)
theorem ER {h:AH}{b o:Nat}{x y:AV} (hr:ar h b o 2=some [x,y]):ar h b o 1=some [x]:=by
 unfold ar at hr ⊢
 revert hr
 cases h.get b with
 | none=>simp
 | some c =>
   cases c<;>simp
   intro h1 h2
   refine⟨om,?_⟩
   have:=congrArg (List.take 1) h2
   rw[wO] at this
   simpa using this
def hfE (E:List (Int×Int)) (i x:Nat):Nat:=if tlE E i=x then 2*i else 2*i+1
set_option maxHeartbeats 4000000 in
theorem tY {h:AH}{bb n:Nat}{ev edv:AV}{E:List (Int×Int)}{Bl:List Nat}{la pa:Nat}{H V:Nat→Bool}{fav:AV} (u:Bu h bb n ev edv E Bl la pa H V fav) (hE:InG n E) (hL:∀ i,i<E.length→tlE E i≠hdE E i) (hn:n<2 ^ 30) (hm:E.length<2 ^ 30) (hB:∀ i∈Bl,i<E.length) (hBn:Bl.length<2 ^ 30) (hp:Pln (grE n E hE hL) Bl) {x y i:Nat} (hx:x<n) (hy:y<n) (hi:i∈Bl) (hj:jn (grE n E hE hL) i x y=true) :
 C prg 30 [.ptr bb 0,.int .i64 (x:Nat),.int .i64 (y:Nat)] h λr h'=>r=.int .i64 (hfE E i x:Nat)∧Ext h.next h h':=by
 refine LB pf30 ?_
 have rb:ar h bb 2 1=some [edv]:=bq u.o rfl
 have lb:=u.b.len
 rw[ak,ak] at lb
 refine aj (aB (Mi0) ?_)
 refine aj (aj (aB (Mi2 rb lb) ?_))
 refine fB (α:=Unit) (N:=Bl.length) (λ_ _=>[(14,edv),(0,.ptr bb 0),(1,.int .i64 (x:Nat)),(2,.int .i64 (y:Nat))])
  (λk _ h'=>Ext h.next h h'∧i∉Bl.take k) () (λ_ _=>rfl) om (Hi0) ⟨Lz,by simp⟩ ?_ ?_
 ·rintro k _ ts h1 hk ⟨j1,j2⟩ ⟨ei,en,e14,e0,e1,e2,-⟩
  simp only at ei en e14 e0 e1 e2
  have u1:=u.ext j1 (ae _)
  obtain⟨b3,o3,a3,r3,_⟩:=u1.b.at1 (i:=k) (y:=.int .i64 (Bl[k]:Nat)) (by rw[aG,aG,ah hk]; rfl)
  have hBk:=aR hk
  have htk:Bl.take (k+1)=Bl.take k++[Bl[k]]:=by rw[eJ,ah hk]; rfl
  generalize hq:Bl[k]=q at *
  have hqE:=hB q hBk
  refine aj (aB (M4 e14 ei a3 r3) ?_)
  refine aj (bO (bt 3 (M2 e0 e1) rfl (Z2 e0 e1) (M2 e0 e1) (lz u1 hE (show n<2 ^ 40 by omega) hqE hx) λv h2 hv=>?_))
  obtain⟨rfl,x2⟩:=hv
  refine bI (M0) ?_
  have x2':Ext h.next h h2:=j1.trans (x2.mono j1.nx)
  have u2:=u.ext x2' (ae _)
  have jiff:=Ki (n:=n) (E:=E) (hE:=hE) (hL:=hL) (i:=q) (x:=x) (y:=y)
  have skip:jn (grE n E hE hL) q y x≠true→i∉Bl.take (k+1):=λh hc=>by
   rw[htk,aC,cq] at hc
   rcases hc with hc|hc
   ·exact j2 hc
   ·subst hc
    rw[Go.Pla.jn_iff] at hj
    exact h (by rw[Go.Pla.jn_iff]; rcases hj with h|h; exact .inr h; exact .inl h)
  cases hI:kB E q x with
  | false =>
    refine aj (aB (M0) ?_)
    refine dL (Z0) (bK ?_)
    exact⟨(),⟨x2',skip (by rw[ne_eq,jiff,hI]; simp)⟩,by simp only[hl,am,aF,simprocAttr,ei,en,e14,e0,e1,e2]⟩
  | true =>
    by_cases hy':mf E q x=((y:Nat):Int)
    ·have dy:decide (mf E q x=((y:Nat):Int))=true:=aL hy'
     have hji:=jiff.2 ⟨hI,hy'⟩
     have:q=i:=hp.one q hBk i hi x y (by rw[Go.Pla.jn_iff] at hji ⊢; rcases hji with h|h; exact .inr h; exact .inl h) hj
     subst this
     obtain⟨q1,q2,q3⟩:=hE q hqE
     obtain⟨b6,o6,a6,r6,_,_⟩:=u2.e.at (fE (f:=eE) hqE)
     rw[q1] at r6
     have r6:ar h2 b6 o6 2=some [.int .i64 (tlE E q:Nat),.int .i64 (hdE E q:Nat)]:=r6
     have r7:ar h2 b6 o6 1=some [.int .i64 (tlE E q:Nat)]:=ER r6
     have r1:ar h2 bb 1 1=some [ev]:=bq u2.o rfl
     have w2q:IntKind.i64.wrap (2*((q:Nat):Int))=((2*q:Nat):Int):=by
      have:(2*((q:Nat):Int))=((2*q:Nat):Int):=om
      rw[this]; exact fz om om
     have w2q1:IntKind.i64.wrap (((2*q:Nat):Int)+1)=((2*q+1:Nat):Int):=fz om om
     refine aj (bT (λts h'=>h'=h2∧aY ts 0=.ptr bb 0∧aY ts 1=.int .i64 (x:Nat)∧aY ts 8=.int .i64 (q:Nat)∧aY ts 32=.bool true) (by simp only[am,aF,simprocAttr,e0,e1,e2,dy]) ?_)
     rintro ts h2' ⟨rfl,e0,e1,e8,e32⟩
     refine cX (Z1 e32) ?_
     by_cases ht:tlE E q=x
     ·have dt:decide (((tlE E q:Nat):Int)=((x:Nat):Int))=true:=by rw[decide_eq_true_iff,ht]
      refine aj (aj (aB (M7 e0 e1 e8 r1 a6 r7 dt) ?_))
      refine cX (Z1 dt) ?_
      refine aj (bT (λts h'=>h'=h2'∧aY ts 6=.int .i64 ((2*q:Nat):Int)) (by simp only[am,aF,simprocAttr,e8,w2q]) ?_)
      rintro ts h3 ⟨rfl,e6⟩
      exact bG ⟨.int .i64 ((2*q:Nat):Int),(by simp only[rs,rf30,am,aF,simprocAttr,e6]<;>rfl),by rw[hfE,if_pos ht],x2'⟩
     ·have dt:decide (((tlE E q:Nat):Int)=((x:Nat):Int))=false:=by rw[aV]; omega
      refine aj (aj (bT (λts h'=>h'=h2'∧aY ts 8=.int .i64 (q:Nat)∧aY ts 43=.bool false) (by simp only[am,aF,simprocAttr,e0,e1,e8,r1,a6,r7,dt]) ?_))
      rintro ts h3 ⟨rfl,e8,e43⟩
      refine dL (Z1 e43) (bK ?_)
      refine aj (bT (λts h'=>h'=h3∧aY ts 6=.int .i64 ((2*q+1:Nat):Int)) (by simp only[am,aF,simprocAttr,e8,w2q,w2q1]) ?_)
      rintro ts h4 ⟨rfl,e6⟩
      exact bG ⟨.int .i64 ((2*q+1:Nat):Int),(by simp only[rs,rf30,am,aF,simprocAttr,e6]<;>rfl),by rw[hfE,if_neg ht],x2'⟩
    ·have dy:decide (mf E q x=((y:Nat):Int))=false:=aJ hy'
     refine aj (aB (M2 e2 dy) ?_)
     refine dL (Z1 dy) (bK ?_)
     exact⟨(),⟨x2',skip (by rw[ne_eq,jiff]; simp [hy'])⟩,by simp only[hl,am,aF,simprocAttr,ei,en,e14,e0,e1,e2]⟩
 ·rintro _ ts h1 ⟨j1,j2⟩ _
  rw[de (ae _)] at j2
  exact absurd hi j2
end Go.Proofs.YtpeemonpdlifbaaGreat
