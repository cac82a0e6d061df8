/-
  planar: one more way, through the part that has the fewest faces. planar: a block is laid, or it can't be. planar: an edge's half at a vertex.
-/
import Derived.Test.YtpeemonpdlifbaaQTAV
import Derived.Test.YtpeemonpdlifbaaQTAR
set_option linter.all false
namespace Go.Proofs.Ytpeemonpdlifbaa
open Go.Am
open Go.Pla (at_ jn On Rot Pln Bond Link Part Plc Hg Bld Dual Thr)
theorem PcL.at {h:AH}{lo:Nat}{v:AV}{ps:List Pc} (hl:PcL h lo v ps) {i:Nat} (hi:i<ps.length):∃ b o atv,iadrL 3 v (.int .i64 (i:Nat))=some (.ptr b o)∧rdCells h b o 3=some [atv,.int .i64 ps[i].2.1,.int .i64 ps[i].2.2]∧IsSl h 1 lo atv (nC ps[i].1)∧b<h.next:=by
 obtain⟨qs,h1,h2,h3⟩:=hl
 have hs:Sl h 3 v (qs.map cP):=IsSl.sl (by omega) (fun _=>rfl) h1
 have hq:qs[i]?=some (qs[i]'(by omega)):=List.getElem?_eq_getElem _
 obtain⟨b,o,q1,q2,_,q3⟩:=hs.at (i:=i) (x:=cP (qs[i]'(by omega))) (by rw[List.getElem?_map,hq]; rfl)
 obtain⟨s1,s2,_⟩:=h3 i _ _ hq (List.getElem?_eq_getElem hi)
 refine⟨b,o,(qs[i]'(by omega)).1,q1,?_,s1,q3⟩
 rw[q2,cP,s2]
theorem PcL.len {h:AH}{lo:Nat}{v:AV}{ps:List Pc} (hl:PcL h lo v ps):lenLA v=some (.int .i64 (ps.length:Nat)):=by
 obtain⟨qs,h1,h2,h3⟩:=hl
 rcases h1 with ⟨rfl,hz⟩|⟨b,n,_,rfl,hg,hn⟩
 ·have:=congrArg List.length hz
  rw[cP_len,List.length_nil] at this
  have:ps.length=0:=by omega
  rw[this]; rfl
 ·rw[cP_len] at hn
  have:n=ps.length:=by omega
  rw[this]; rfl
theorem fits_mem {F:List (List Nat)}{l:List Nat}{f:Nat}:f∈fitsL F l↔f<F.length∧∀ x∈l,x∈Go.Pla.fcs F f:=by
 simp [fitsL,hasAll,Go.Pla.fcs]
theorem fits_nd {F:List (List Nat)}{l:List Nat}:(fitsL F l).Nodup:=List.nodup_range.filter _
theorem ch_at {g:Go.Blk.Gr}{B:List Nat} (p:Pln g B):∀ {t:List Nat}{x:Nat},Go.Pla.Ch g B (x::t)→t≠[]→∀ z∈x::t,∃ e∈B,at_ g e z=true
 | [],_,_,h,_,_=>absurd rfl h
 | y::t,x,hc,_,z,hz=>by
   obtain⟨⟨e,he,hj⟩,hc'⟩:=hc
   rcases List.mem_cons.1 hz with rfl|hz
   ·exact⟨e,he,by rw[p.jat he hj]; simp [Ne.symm (p.jne he hj)]⟩
   ·cases t with
    | nil =>
      have:z=y:=by simpa using hz
      subst this
      exact⟨e,he,by rw[p.jat he hj]; simp [p.jne he hj]⟩
    | cons q t=>exact ch_at p hc' (by simp) z hz
theorem kp_loc {h:AH}{n e:Nat}{z cs:List AV}{o:AO} (hg:h.get n=some o) (hl:z.length=cs.length):∃ h2,wrCells (h.put n (.cells z e false)) n 0 cs=some h2∧Upd h h2 n (.cells cs e false):=by
 have u1:=Upd.put (o:=.cells z e false) hg
 have u2:=Upd.put (o:=.cells cs e false) u1.get
 refine⟨(h.put n (.cells z e false)).put n (.cells cs e false),?_,⟨by rw[u2.nx,u1.nx],fun c=>by rw[u2.gt c,u1.gt c]; split<;>rfl,fun c=>by rw[u2.ty c,u1.ty c]⟩⟩
 rw[wrCells_of u1.get,if_pos (by omega)]
 congr 3
 simp only[splice,List.take_zero,List.nil_append,Nat.zero_add]
 rw[List.drop_eq_nil_of_le (by omega),List.append_nil]
theorem no_dual {g:Go.Blk.Gr}{Bl:List Nat}{H V:Nat→Bool}{F:List (List Nat)} (hp:Pln g Bl) (hb:Bond g Bl) (I:Bld g Bl H V F) {pt:Nat→Nat} (P:Part g Bl H pt) {p:Pc}{e0:Nat} (o:Of g Bl H V pt p e0) (h:fitsL F p.1=[]):¬ ∃ (Φ:Type) (l r:Nat→Φ),Dual g Bl l r:=fun hd=>by
 obtain⟨f,hf,hv⟩:=Go.Pla.part_fits hp hb P (I.can hd) o.mem
 have:f∈fitsL F p.1:=fits_mem.2 ⟨hf,fun x hx=>hv x ((o.hgs x).1 hx)⟩
 rw[h] at this
 simp at this
theorem step_ok {g:Go.Blk.Gr}{Bl:List Nat}{H V:Nat→Bool}{F:List (List Nat)} (hp:Pln g Bl) (hb:Bond g Bl) (hl:Link g Bl) (I:Bld g Bl H V F) {pt:Nat→Nat} (P:Part g Bl H pt) {ps:List Pc} (hps:∀ e∈Bl,H e=false→∃ p∈ps,∃ e0,Of g Bl H V pt p e0∧pt e0=pt e) {p:Pc}{e0:Nat} (o:Of g Bl H V pt p e0) (hmin:∀ q∈ps,(fitsL F p.1).length≤(fitsL F q.1).length) {f:Nat}{rest:List Nat} (hfit:fitsL F p.1=f::rest) {y1 y2:Nat}{i:List Nat} (t:Thr g Bl H V pt e0 y1 y2 i) {s tl':List Nat} (hr:Rot (Go.Pla.fcs F f) (y1::s++y2::tl')) {H' V':Nat→Bool} (hH':∀ j,H' j=true↔H j=true∨(j∈Bl∧On g (y1::i++[y2]) j)) (hV':∀ v,V' v=true↔V v=true∨v∈y1::i++[y2]) :
 Bld g Bl H' V' (F.set f (y1::s++y2::i.reverse)++[y2::tl'++y1::i])∧∃ e∈Bl,H e=false∧H' e=true:=by
 have hff:f∈fitsL F p.1:=by rw[hfit]; simp
 obtain⟨hf,hfv⟩:=fits_mem.1 hff
 constructor
 ·refine Go.Pla.inv_cut hp hb hl I P hf hr t.ch t.nd t.fr t.new (fun e he ho v hv=>?_) ?_ (fun e he=>?_) hV'
  ·rw[t.part e he ho] at hv
   exact hfv v ((o.hgs v).2 hv)
  ·cases rest with
   | nil =>
     refine .inl fun e he ho h hh hv=>?_
     have:h∈fitsL F p.1:=fits_mem.2 ⟨hh,fun x hx=>hv x (by rw[t.part e he ho]; exact (o.hgs x).1 hx)⟩
     rw[hfit] at this
     simpa using this
   | cons f2 rest =>
     refine .inr fun e he hH=>?_
     obtain⟨q,hq,e1,o1,h1⟩:=hps e he hH
     have h2:=hmin q hq
     rw[hfit] at h2
     cases hfq:fitsL F q.1 with
     | nil=>rw[hfq] at h2; simp at h2
     | cons a l =>
       cases l with
       | nil=>rw[hfq] at h2; simp at h2
       | cons b l =>
         have nd:=fits_nd (F:=F) (l:=q.1)
         rw[hfq] at nd
         have ha:a∈fitsL F q.1:=by rw[hfq]; simp
         have hb':b∈fitsL F q.1:=by rw[hfq]; simp
         refine⟨a,b,(fits_mem.1 ha).1,(fits_mem.1 hb').1,fun e=>by subst e; simp at nd,fun v hv=>?_⟩
         have:v∈q.1:=(o1.hgs v).2 (by rw[h1]; exact hv)
         exact⟨(fits_mem.1 ha).2 v this,(fits_mem.1 hb').2 v this⟩
  ·rw[hH']
   constructor
   ·rintro (h|⟨_,h⟩)
    ·exact .inl h
    ·exact .inr h
   ·rintro (h|h)
    ·exact .inl h
    ·exact .inr ⟨he,h⟩
 ·have hch:=t.ch
  have key:∃ e∈Bl,On g (y1::i++[y2]) e:=by
   cases i with
   | nil=>obtain⟨⟨e,he,hj⟩,_⟩:=hch; exact⟨e,he,[],y1,y2,[],rfl,hj⟩
   | cons q i=>obtain⟨⟨e,he,hj⟩,_⟩:=hch; exact⟨e,he,[],y1,q,i++[y2],rfl,hj⟩
  obtain⟨e,he,ho⟩:=key
  exact⟨e,he,t.fresh hp I.plc e he ho,(hH' e).2 (.inr ⟨he,ho⟩)⟩
set_option maxHeartbeats 4000000 in
theorem pbstep_ok {h:AH}{bb n lo lo2:Nat}{ev edv pv:AV}{E:List (Int×Int)}{Bl:List Nat}{la pa:Nat}{H V:Nat→Bool}{fav:AV}{F:List (List Nat)}{ps:List Pc} (u:Bu h bb n ev edv E Bl la pa H V fav) (hE:InG n E) (hL:∀ i,i<E.length→tlE E i≠hdE E i) (hn:n<2 ^ 29) (hm:E.length<2 ^ 29) (hB:∀ i∈Bl,i<E.length) (hBn:Bl.length<2 ^ 29)
 (hp:Pln (grE n E hE hL) Bl) (hb:Bond (grE n E hE hL) Bl) (hlk:Link (grE n E hE hL) Bl) (I:Bld (grE n E hE hL) Bl H V F) {pt:Nat→Nat} (P:Part (grE n E hE hL) Bl H pt)
 (hF:LL h lo fav F) (hFl:F.length<2 ^ 29) (hlo:la<lo∧pa<lo∧bb<lo∧lo≤h.next) (oe2:Off (fun c=>lo≤c) ev) (ob2:Off (fun c=>lo≤c) edv)
 (hps:PcL h lo2 pv ps) (hlo2:lo≤lo2) (hfl2:∀ b m,fav=.sl b 0 m m→b<lo2) (hpl:0<ps.length) (hpl2:ps.length<2 ^ 29) (hof:∀ p∈ps,∃ e0,Of (grE n E hE hL) Bl H V pt p e0) (hcov:∀ e∈Bl,H e=false→∃ p∈ps,∃ e0,Of (grE n E hE hL) Bl H V pt p e0∧pt e0=pt e) :
 C prg 38 [.ptr bb 0,pv] h fun r h'=>Kp (fun c=>c=la∨c=pa∨c=bb∨lo≤c) h h'∧((r=.bool false∧¬ ∃ (Φ:Type) (l r:Nat→Φ),Dual (grE n E hE hL) Bl l r)∨(r=.bool true∧∃ H' V' fav' F',Bu h' bb n ev edv E Bl la pa H' V' fav'∧LL h' lo fav' F'∧F'.length=F.length+1∧Bld (grE n E hE hL) Bl H' V' F'∧(∀ e,H e=true→H' e=true)∧∃ e∈Bl,H e=false∧H' e=true)):=by
 have hpn:∀ p∈ps,p.1.length<2 ^ 29:=fun p hq=>by
  obtain⟨e0,o⟩:=hof p hq
  have:=Go.Pla.nd_lt o.nd (n:=n) fun z hz=>by
   obtain⟨e,he,_,_,ha,_⟩:=(o.hgs z).1 hz
   exact Go.Pla.at_lt (hp.lt e he) ha
  omega
 have hFn:∀ c∈F,c.length<2 ^ 30:=fun c hc=>by
  obtain⟨k,hk,rfl⟩:=List.mem_iff_getElem.1 hc
  have hcc:=I.lay.circ k hk
  have hq:Go.Pla.fcs F k=F[k]:=by simp [Go.Pla.fcs,List.getD,hk]
  rw[hq] at hcc
  have:=Go.Pla.nd_lt hcc.nodup (n:=n) fun z hz=>by
   obtain⟨e,he,ha,_⟩:=Go.Pla.cy_at hp hcc hz
   exact Go.Pla.at_lt (hp.lt e he) ha
  omega
 refine C.func pf38 ?_
 refine W.seq (W.run (by simp only[am,evOp,simprocAttr,initTm]<;>rfl) ?_)
 have hps1:PcL (h.keep 1) lo2 pv ps:=hps.cong fun c _ hc=>keepg hc
 obtain⟨b1,o1,av,a1,r1,i1,lb1⟩:=hps1.at (i:=0) hpl
 rw[Int.natCast_zero] at a1
 have xk:Ext h.next h (h.keep 1):=⟨by rw[AH.keep_next]; omega,fun c hc=>keepg hc,fun c _=>AH.keep_tyOf 1 h⟩
 have nk:(h.keep 1).next=h.next+1:=AH.keep_next 1 h
 have uk:=u.ext xk (Nat.le_refl _)
 have Fk:=hF.ext xk (Nat.le_refl _)
 have hm0:ps[0]∈ps:=List.getElem_mem hpl
 have hfit0:=pbfits_ok (s:=ps[0].2.1) (e:=ps[0].2.2) uk Fk (by omega) hFn (nC_sl i1) (by have:=hpn _ hm0; omega)
 refine W.seq (W.regK (G.gcallc 7 (by simp only[am,evOp,simprocAttr,initTm,a1,r1]<;>rfl) rfl (by simp only[am,evOp,simprocAttr,initTm,a1,r1]) (by simp only[am,evOp,simprocAttr,initTm,a1,r1]<;>rfl) (hfit0) fun rv h1 hq=>?_))
 obtain⟨f1,x1⟩:=hq
 rw[nk] at f1 x1
 have n1:=x1.nx
 rw[nk] at n1
 have r1':rdCells h1 b1 o1 3=some [av,.int .i64 ps[0].2.1,.int .i64 ps[0].2.2]:=by rw[rdCells_eq (x1.gt b1 (by rw[nk] at lb1; exact lb1))]; exact r1
 have g1:h1.get h.next=some .resv:=by rw[x1.gt _ (by omega)]; exact keep1_get
 have hsame:av.same av=true:=by rcases i1 with ⟨rfl,_⟩|⟨b,n,_,rfl,_⟩<;>simp [AV.same]
 obtain⟨h2,w2,u2⟩:=kp_loc (e:=3) (z:=[.nils,.int .i64 0,.int .i64 0]) (cs:=[av,.int .i64 ps[0].2.1,.int .i64 ps[0].2.2]) g1 rfl
 refine⟨by simp only[am,evOp,simprocAttr,r1']; simp [AV.same,AV.sames,hsame],?_⟩
 refine G.run (by simp only[am,evOp,simprocAttr,initTm,evN_some,evNew_new g1,i1.cells.1,i1.cells.2,w2,List.length_cons,List.length_nil,if_true,Nat.reduceAdd]<;>rfl) ?_
 have n2:=u2.nx
 have x2:Ext h.next h h2:=⟨by omega,fun c hc=>by rw[u2.ne (by omega),x1.gt c (by omega),keepg hc],fun c hc=>by rw[u2.ty c,x1.ty c (by omega),AH.keep_tyOf]⟩
 have f2:IsSl h2 1 (h.next+1) rv (nC (fitsL F ps[0].1)):=f1.cong fun b m e hb=>u2.ne (by omega)
 have lp:=hps.len
 refine W.seq (W.seq (W.seq (W.runs (fun ts h'=>h'=h2∧tget ts 0=.ptr bb 0∧tget ts 5=.ptr h.next 0∧tget ts 6=rv∧tget ts 19=pv∧tget ts 20=.int .i64 (ps.length:Nat)∧tget ts 21=.int .i64 0) (by simp only[am,evOp,simprocAttr,lp]) ?_)))
 rintro ts h2' ⟨rfl,e0,e5,e6,e19,e20,e21⟩
 have gD:∀ {i:Nat} (hi:i<ps.length),ps.getD i ([],0,0)=ps[i]:=fun hi=>by simp [List.getD,hi]
 have hi0:IsSl h 1 lo2 av (nC (ps.getD 0 ([],0,0)).1):=by
  rw[gD hpl]
  obtain⟨b0,o0,av0,a0,r0,i0,lb0⟩:=hps.at (i:=0) hpl
  rw[Int.natCast_zero,a1] at a0
  cases a0
  rw[rdCells_eq (keepg lb0),r0] at r1
  simp only[Option.some.injEq,List.cons.injEq,and_true] at r1
  rw[← r1]; exact i0
 refine W.rng (α:=Nat×AV) (N:=ps.length) (fun _ a=>[(19,pv),(0,.ptr bb 0),(5,.ptr h.next 0),(6,a.2)])
  (fun k a h'=>Ext h.next h h'∧h.next<h'.next∧(∃ atv s e,h'.get h.next=some (.cells [atv,.int .i64 s,.int .i64 e] 3 false)∧IsSl h 1 lo2 atv (nC (ps.getD a.1 ([],0,0)).1)∧s=(ps.getD a.1 ([],0,0)).2.1∧e=(ps.getD a.1 ([],0,0)).2.2)∧a.1<ps.length∧IsSl h' 1 (h.next+1) a.2 (nC (fitsL F (ps.getD a.1 ([],0,0)).1))∧∀ i,i<k→fitsL F (ps.getD i ([],0,0)).1≠[]∧(fitsL F (ps.getD a.1 ([],0,0)).1).length≤(fitsL F (ps.getD i ([],0,0)).1).length)
  (0,rv) (fun _ _=>rfl) (by omega) (by simp only[hl,am,evOp,simprocAttr,e0,e5,e6,e19,e20,e21]) ⟨x2,by omega,⟨av,_,_,u2.get,hi0,by rw[gD hpl],by rw[gD hpl]⟩,hpl,by rw[gD hpl]; exact f2,fun i hi=>by omega⟩ ?_ ?_
 ·clear e0 e5 e6 e19 e20 e21
  rintro k ⟨j,fv⟩ ts h3 hk ⟨j1,j2,⟨atv,s,e,j3,j4,j5,j6⟩,j7,j8,j9⟩ ⟨e21,e20,e19,e0,e5,e6,-⟩
  simp only at e21 e20 e19 e0 e5 e6 j3 j4 j5 j6 j7 j8 j9
  obtain⟨b4,o4,av4,a4,r4,i4,lb4⟩:=hps.at hk
  have r4':rdCells h3 b4 o4 3=some [av4,.int .i64 ps[k].2.1,.int .i64 ps[k].2.2]:=by rw[rdCells_eq (j1.gt b4 lb4)]; exact r4
  obtain⟨h4,w4,x4,g4,n4⟩:=mk_loc (h:=h3) (z:=[.nils,.int .i64 0,.int .i64 0]) (cs:=[av4,.int .i64 ps[k].2.1,.int .i64 ps[k].2.2]) (e:=3) rfl
  refine W.seq (W.runs (fun ts h'=>h'=h4∧Held [(21,.int .i64 (k:Nat)),(20,.int .i64 (ps.length:Nat)),(19,pv),(0,.ptr bb 0),(5,.ptr h.next 0),(6,fv),(8,.ptr h3.next 0)] ts) (by simp only[am,evOp,simprocAttr,e21,e20,e19,e0,e5,e6,a4,r4',i4.cells.1,i4.cells.2,w4,held_cons,held_nil,List.length_cons,List.length_nil,if_true]) ?_)
  rintro ts h4' ⟨rfl,e21,e20,e19,e0,e5,e6,e8,-⟩
  have x4':Ext h.next h h4':=j1.trans (x4.mono (by omega))
  have u4:=u.ext x4' (Nat.le_refl _)
  have F4:=hF.ext x4' (Nat.le_refl _)
  have i4':=i4.ext x4' (Nat.le_refl _)
  have hmk:ps[k]∈ps:=List.getElem_mem hk
  have r8:rdCells h4' h3.next 0 3=some [av4,.int .i64 ps[k].2.1,.int .i64 ps[k].2.2]:=by rw[rdCells_of g4]; rfl
  refine W.seq (W.reg (G.gcall 2 (by simp only[am,evOp,simprocAttr,e0,e8,r8]<;>rfl) rfl (by simp only[am,evOp,simprocAttr,e0,e8,r8]) (by simp only[am,evOp,simprocAttr,e0,e8,r8]<;>rfl) (pbfits_ok (s:=ps[k].2.1) (e:=ps[k].2.2) u4 F4 (by omega) hFn (nC_sl i4') (by have:=hpn _ hmk; omega)) fun rv' h5 hq=>?_))
  obtain⟨f5,x5⟩:=hq
  refine G.run (by simp only[am,evOp,simprocAttr]<;>rfl) ?_
  have n5:=x5.nx
  have x5':Ext h.next h h5:=x4'.trans (x5.mono (by omega))
  have lf:=(nC_sl f5).len
  rw[List.length_map,List.length_map] at lf
  have g5:h5.get h.next=some (.cells [atv,.int .i64 s,.int .i64 e] 3 false):=by rw[x5.gt _ (by omega),x4.gt _ j2]; exact j3
  have lb:=(nC_sl j8).len
  rw[List.length_map,List.length_map] at lb
  by_cases hz:fitsL F ps[k].1=[]
  ·have dz:decide (((fitsL F ps[k].1).length:Nat)=(0:Int))=true:=by rw[hz]; rfl
   refine W.seq (W.seq (W.run (by simp only[am,evOp,simprocAttr,lf,dz]<;>rfl) ?_))
   refine W.yes (by simp only[am,evOp,simprocAttr,dz]) ?_
   refine W.seq (W.run (by simp only[am,evOp,simprocAttr]<;>rfl) ?_)
   obtain⟨e0,o0⟩:=hof _ hmk
   exact W.ret ⟨.bool false,(by simp only[rs,rf38,am,evOp,simprocAttr]<;>rfl),⟨x5'.nx,fun c hc _=>x5'.gt c hc,fun c hc=>x5'.ty c hc⟩,.inl ⟨rfl,no_dual hp hb I P o0 hz⟩⟩
  ·have hz':(fitsL F ps[k].1).length≠0:=fun q=>hz (List.eq_nil_of_length_eq_zero q)
   have dz:decide (((fitsL F ps[k].1).length:Nat)=(0:Int))=false:=by rw[decide_eq_false_iff_not]; omega
   refine W.seq (W.seq (W.runs (fun ts h'=>h'=h5∧Held [(21,.int .i64 (k:Nat)),(20,.int .i64 (ps.length:Nat)),(19,pv),(0,.ptr bb 0),(5,.ptr h.next 0),(6,fv),(8,.ptr h3.next 0),(9,rv'),(30,.bool false)] ts) (by simp only[am,evOp,simprocAttr,e21,e20,e19,e0,e5,e6,e8,lf,dz,held_cons,held_nil]) ?_))
   rintro ts h5' ⟨rfl,e21,e20,e19,e0,e5,e6,e8,e9,e30,-⟩
   refine W.no (by simp only[am,evOp,simprocAttr,e30]) (W.skip ?_)
   have j8':IsSl h5' 1 (h.next+1) fv (nC (fitsL F (ps.getD j ([],0,0)).1)):=(j8.ext x4 (Nat.le_refl _)).ext x5 (Nat.le_refl _)
   by_cases hc:(fitsL F ps[k].1).length<(fitsL F (ps.getD j ([],0,0)).1).length
   ·have dc:decide (((fitsL F ps[k].1).length:Nat)<(((fitsL F (ps.getD j ([],0,0)).1).length:Nat):Int))=true:=by rw[decide_eq_true_iff]; omega
    refine W.seq (W.run (by simp only[am,evOp,simprocAttr,e9,e6,lf,lb,dc]<;>rfl) ?_)
    refine W.yes (by simp only[am,evOp,simprocAttr,dc]) ?_
    have r8':rdCells h5' h3.next 0 3=some [av4,.int .i64 ps[k].2.1,.int .i64 ps[k].2.2]:=by rw[rdCells_eq (x5.gt _ (by omega))]; exact r8
    have u6:=Upd.put (o:=.cells [av4,.int .i64 ps[k].2.1,.int .i64 ps[k].2.2] 3 false) g5
    have w6:wrCells h5' h.next 0 [av4,.int .i64 ps[k].2.1,.int .i64 ps[k].2.2]=some (h5'.put h.next (.cells [av4,.int .i64 ps[k].2.1,.int .i64 ps[k].2.2] 3 false)):=by rw[wrCells_of g5]; rfl
    have n6:=u6.nx
    refine W.runs (fun ts h'=>h'=h5'.put h.next (.cells [av4,.int .i64 ps[k].2.1,.int .i64 ps[k].2.2] 3 false)∧Held [(21,.int .i64 (k:Nat)),(20,.int .i64 (ps.length:Nat)),(19,pv),(0,.ptr bb 0),(5,.ptr h.next 0),(6,rv')] ts) (by simp only[am,evOp,simprocAttr,e21,e20,e19,e0,e5,e6,e8,e9,r8',i4.cells.1,i4.cells.2,w6,held_cons,held_nil,List.length_cons,List.length_nil,if_true]) ?_
    rintro ts h6 ⟨rfl,hh⟩
    refine⟨(k,rv'),⟨?_,by omega,⟨av4,_,_,u6.get,by rw[gD hk]; exact i4,by rw[gD hk],by rw[gD hk]⟩,hk,?_,fun i hi=>?_⟩,hh⟩
    ·exact⟨by have:=x5'.nx; omega,fun c hc=>by rw[u6.ne (by omega),x5'.gt c hc],fun c hc=>by rw[u6.ty c,x5'.ty c hc]⟩
    ·rw[gD hk]; exact (f5.mono (by omega)).cong fun b m e hb=>u6.ne (by omega)
    ·rw[gD hk]
     rcases Nat.lt_or_ge i k with h|h
     ·obtain⟨q1,q2⟩:=j9 i h
      exact⟨q1,by omega⟩
     ·have:i=k:=by omega
      subst this
      rw[gD hk]; exact⟨hz,Nat.le_refl _⟩
   ·have dc:decide (((fitsL F ps[k].1).length:Nat)<(((fitsL F (ps.getD j ([],0,0)).1).length:Nat):Int))=false:=by rw[decide_eq_false_iff_not]; omega
    refine W.seq (W.runs (fun ts h'=>h'=h5'∧Held [(21,.int .i64 (k:Nat)),(20,.int .i64 (ps.length:Nat)),(19,pv),(0,.ptr bb 0),(5,.ptr h.next 0),(6,fv),(35,.bool false)] ts) (by simp only[am,evOp,simprocAttr,e21,e20,e19,e0,e5,e6,e9,lf,lb,dc,held_cons,held_nil]) ?_)
    rintro ts h6 ⟨rfl,e21,e20,e19,e0,e5,e6,e35,-⟩
    refine W.no (by simp only[am,evOp,simprocAttr,e35]) (W.skip ?_)
    refine⟨(j,fv),⟨x5',by omega,⟨atv,s,e,g5,j4,j5,j6⟩,j7,j8',fun i hi=>?_⟩,by simp only[hl,am,evOp,simprocAttr,e21,e20,e19,e0,e5,e6]⟩
    rcases Nat.lt_or_ge i k with h|h
    ·exact j9 i h
    ·have:i=k:=by omega
     subst this
     rw[gD hk]; exact⟨hz,Nat.le_of_not_lt hc⟩
 ·rintro⟨j,fv⟩ ts h3 ⟨j1,j2,⟨atv,s,e,j3,j4,j5,j6⟩,j7,j8,j9⟩ ⟨e19,e0,e5,e6,-⟩
  simp only at e19 e0 e5 e6 j3 j4 j5 j6 j7 j8 j9
  rw[gD j7] at j4 j5 j6 j8 j9
  subst j5 j6
  have hmj:ps[j]∈ps:=List.getElem_mem j7
  have lb:=(nC_sl j8).len
  rw[List.length_map,List.length_map] at lb
  have hnz:fitsL F ps[j].1≠[]:=by have:=(j9 j j7).1; rw[gD j7] at this; exact this
  have hmin:∀ q∈ps,(fitsL F ps[j].1).length≤(fitsL F q.1).length:=fun q hq=>by
   obtain⟨i,hi,rfl⟩:=List.mem_iff_getElem.1 hq
   have:=(j9 i hi).2
   rw[gD hi] at this; exact this
  obtain⟨e0',o0⟩:=hof _ hmj
  obtain⟨f,rest,hfit⟩:∃ f rest,fitsL F ps[j].1=f::rest:=List.exists_cons_of_ne_nil hnz
  have dz:decide (((fitsL F ps[j].1).length:Nat)=(0:Int))=false:=by rw[hfit,List.length_cons,decide_eq_false_iff_not]; omega
  refine W.seq (W.seq (W.runs (fun ts h'=>h'=h3∧tget ts 0=.ptr bb 0∧tget ts 5=.ptr h.next 0∧tget ts 6=fv∧tget ts 41=.bool false) (by simp only[am,evOp,simprocAttr,e0,e5,e6,lb,dz]) ?_))
  rintro ts h3' ⟨rfl,e0,e5,e6,e41⟩
  refine W.no (by simp only[am,evOp,simprocAttr,e41]) (W.skip ?_)
  have u3:=u.ext j1 (Nat.le_refl _)
  have r5:rdCells h3' h.next 0 3=some [atv,.int .i64 ps[j].2.1,.int .i64 ps[j].2.2]:=by rw[rdCells_of j3]; rfl
  have i4:=j4.ext j1 (Nat.le_refl _)
  refine W.seq (W.reg (G.gcall 2 (by simp only[am,evOp,simprocAttr,e0,e5,r5]<;>rfl) rfl (by simp only[am,evOp,simprocAttr,e0,e5,r5]) (by simp only[am,evOp,simprocAttr,e0,e5,r5]<;>rfl) (pbthr_ok u3 hE hL (by omega) (by omega) hB (by omega) hp hb hlk I.plc P I.ex o0 i4 (by omega)) fun wv h4 hq=>?_))
  obtain⟨x4,y1,y2,i,hw,hwo,t⟩:=hq
  refine G.run (by simp only[am,evOp,simprocAttr]<;>rfl) ?_
  have n4:=x4.nx
  have x4':Ext h.next h h4:=j1.trans (x4.mono (by omega))
  have u4:=u.ext x4' (Nat.le_refl _)
  have F4:=hF.ext x4' (Nat.le_refl _)
  have j84:=j8.ext x4 (Nat.le_refl _)
  obtain⟨bf,of,af,rf',_⟩:=(nC_sl j84).at1 (i:=0) (y:=.int .i64 (f:Nat)) (by rw[hfit]; rfl)
  rw[Int.natCast_zero] at af
  have hff:f∈fitsL F ps[j].1:=by rw[hfit]; simp
  obtain⟨hf,hfv⟩:=fits_mem.1 hff
  have hFf:Go.Pla.fcs F f=F[f]:=by simp [Go.Pla.fcs,List.getD,hf]
  have lt_la:=AH.lt_of_get u.l
  have lt_pa:=AH.lt_of_get u.v
  have lt_bb:=AH.lt_of_get u.o
  have hyn:∀ z∈y1::i++[y2],z<n:=fun z hz=>by
   obtain⟨e,he,ha⟩:=ch_at hp t.ch (by simp) z hz
   exact Go.Pla.at_lt (hp.lt e he) ha
  have hil:i.length<2 ^ 29:=by
   have:=Go.Pla.nd_lt t.nd (n:=n) hyn
   simp at this; omega
  obtain⟨ey1,ey2⟩:=t.ends hp I.plc
  have mem1:y1∈F[f]:=by rw[← hFf]; exact hfv y1 ((o0.hgs y1).2 ey1)
  have mem2:y2∈F[f]:=by rw[← hFf]; exact hfv y2 ((o0.hgs y2).2 ey2)
  have hcn:F[f].Nodup:=by rw[← hFf]; exact (I.lay.circ f hf).nodup
  refine W.seq (W.reg (G.gcall 5 (by simp only[am,evOp,simprocAttr,e0,e6,af,rf']<;>rfl) rfl (by simp only[am,evOp,simprocAttr,e0,e6,af,rf']) (by simp only[am,evOp,simprocAttr,e0,e6,af,rf']<;>rfl) (pbsplit_ok u4 hE hL (by omega) (by omega) hB (by omega) F4 (by omega) ⟨by omega,by omega,by omega,by omega⟩ hf (hFn _ (List.getElem_mem hf)) hcn hw hil hyn t.nd (off_imp hwo fun c hc=>by rcases hc with h|h|h<;>omega) (fun b m hb=>off_imp hwo fun c hc=>by have h1:=hfl2 b m hb; have h2:=hF.lt hb; omega) mem1 mem2 oe2 ob2) fun _ h5 hq=>?_))
  obtain⟨s,tl',H',V',fav',hr,u5,F5,k5,hH',hV'⟩:=hq
  refine G.run (by simp only[am,evOp,simprocAttr]<;>rfl) ?_
  rw[← hFf] at hr
  obtain⟨I5,hnew⟩:=step_ok hp hb hlk I P hcov o0 hmin hfit t hr hH' hV'
  refine W.seq (W.run (by simp only[am,evOp,simprocAttr]<;>rfl) ?_)
  refine W.ret ⟨.bool true,(by simp only[rs,rf38,am,evOp,simprocAttr]<;>rfl),⟨by have:=k5.nx; omega,fun c hc hne=>by rw[k5.gt c (by omega) hne,x4'.gt c hc],fun c hc=>by rw[k5.ty c (by omega),x4'.ty c hc]⟩,.inr ⟨rfl,H',V',fav',_,u5,F5,by simp,I5,fun e he=>(hH' e).2 (.inl he),hnew⟩⟩
end Go.Proofs.Ytpeemonpdlifbaa
namespace Go.Proofs.Ytpeemonpdlifbaa
open Go.Am
open Go.Pla (at_ jn On Rot Pln Bond Link Part Plc Hg Bld Dual Thr)
def unl (Bl:List Nat) (H:Nat→Bool):Nat:=(Bl.filter fun e=>!(H e)).length
theorem unl_le {H H':Nat→Bool} (hs:∀ e,H e=true→H' e=true):∀ {Bl:List Nat},unl Bl H'≤unl Bl H
 | []=>Nat.le_refl _
 | b::Bl=>by
   have ih:=unl_le hs (Bl:=Bl)
   unfold unl at ih ⊢
   rw[List.filter_cons,List.filter_cons]
   cases hb:H b with
   | true=>rw[hs b hb]; simpa using ih
   | false =>
     cases hb':H' b with
     | true=>simp only[Bool.not_true,Bool.false_eq_true,if_false,Bool.not_false,if_true,List.length_cons]; omega
     | false=>simp only[Bool.not_false,if_true,List.length_cons]; omega
theorem unl_lt {H H':Nat→Bool} (hs:∀ e,H e=true→H' e=true):∀ {Bl:List Nat},(∃ e∈Bl,H e=false∧H' e=true)→unl Bl H'<unl Bl H
 | [],⟨_,h,_⟩=>by simp at h
 | b::Bl,⟨e,he,h1,h2⟩=>by
   have ih:=unl_le hs (Bl:=Bl)
   have ih2:=unl_lt hs (Bl:=Bl)
   unfold unl at ih ih2 ⊢
   rw[List.filter_cons,List.filter_cons]
   rcases List.mem_cons.1 he with rfl|he
   ·rw[h1,h2]
    simp only[Bool.not_true,Bool.false_eq_true,if_false,Bool.not_false,if_true,List.length_cons]; omega
   ·have ih2:=ih2 ⟨e,he,h1,h2⟩
    cases hb:H b with
    | true=>rw[hs b hb]; simpa using ih2
    | false =>
      cases hb':H' b with
      | true=>simp only[Bool.not_true,Bool.false_eq_true,if_false,Bool.not_false,if_true,List.length_cons]; omega
      | false=>simp only[Bool.not_false,if_true,List.length_cons]; omega
theorem unl_all {H:Nat→Bool}{Bl:List Nat}:unl Bl H≤Bl.length:=List.length_filter_le _ _
set_option maxHeartbeats 4000000 in
theorem pbrun_ok {h:AH}{bb n:Nat}{ev edv:AV}{E:List (Int×Int)}{e0 k0:Nat}{Bl':List Nat}{la pa:Nat} (u:Bu h bb n ev edv E (e0::Bl') la pa (fun _=>false) (fun _=>false) .nils) (hE:InG n E) (hL:∀ i,i<E.length→tlE E i≠hdE E i) (hn:n<2 ^ 29) (hm:E.length<2 ^ 29) (hB:∀ i∈e0::Bl',i<E.length) (hBn:(e0::Bl').length<2 ^ 28) (hp:Pln (grE n E hE hL) (e0::Bl')) (hbo:Bond (grE n E hE hL) (e0::Bl')) (hli:Link (grE n E hE hL) (e0::Bl')) (hk0:k0∈e0::Bl') (hke:k0≠e0) :
 C prg 20 [.ptr bb 0] h fun r h'=>Kp (fun c=>c=la∨c=pa∨c=bb) h h'∧((r=.bool false∧¬ ∃ (Φ:Type) (l r:Nat→Φ),Dual (grE n E hE hL) (e0::Bl') l r)∨(r=.bool true∧∃ H V fav F,Bu h' bb n ev edv E (e0::Bl') la pa H V fav∧LL h' h.next fav F∧F.length≤(e0::Bl').length+2∧Bld (grE n E hE hL) (e0::Bl') H V F∧∀ e∈e0::Bl',H e=true)):=by
 have lt_bb:=AH.lt_of_get u.o
 have lt_la:=AH.lt_of_get u.l
 have lt_pa:=AH.lt_of_get u.v
 have oe2:Off (fun c=>h.next≤c) ev:=by
  cases hq:ev with
  | sl b o m c=>exact fun q=>by have:=u.e.lt hq; omega
  | _=>trivial
 have ob2:Off (fun c=>h.next≤c) edv:=by
  cases hq:edv with
  | sl b o m c=>exact fun q=>by have:=u.b.lt hq; omega
  | _=>trivial
 refine C.func pf20 ?_
 refine W.seq (W.run (by simp only[am,evOp,simprocAttr,initTm]<;>rfl) ?_)
 refine W.seq (W.reg (G.gcall 1 (by simp only[am,evOp,simprocAttr,initTm]<;>rfl) rfl (by simp only[am,evOp,simprocAttr,initTm]) (by simp only[am,evOp,simprocAttr,initTm]<;>rfl) (pbbegin_ok u hE hL (by omega) (by omega) hB (by omega) hp hbo hli hk0 hke) fun _ h1 hq=>?_))
 obtain⟨H,V,fav,F,u1,k1,F1,fl1,I1⟩:=hq
 refine G.run (by simp only[am,evOp,simprocAttr]<;>rfl) ?_
 generalize hBl:e0::Bl'=Bl at *
 refine W.block (W.loop (fun m ts h'=>tget ts 0=.ptr bb 0∧Kp (fun c=>c=la∨c=pa∨c=bb) h h'∧∃ H V fav F,Bu h' bb n ev edv E Bl la pa H V fav∧LL h' h.next fav F∧F.length+unl Bl H≤Bl.length+2∧Bld (grE n E hE hL) Bl H V F∧m=unl Bl H) ?_ (n:=unl Bl H) ⟨by simp only[am,evOp,simprocAttr,initTm],k1,H,V,fav,F,u1,F1,by have:=unl_all (Bl:=Bl) (H:=H); omega,I1,rfl⟩)
 clear u1 k1 F1 fl1 I1
 rintro m ts h2 ⟨e0',k2,H,V,fav,F,u2,F2,fl2,I2,rfl⟩
 obtain⟨pt,P⟩:=Go.Pla.part_ex (grE n E hE hL) Bl H
 have n2:=k2.nx
 refine W.block ?_
 refine W.seq (W.reg (G.gcall 1 (by simp only[am,evOp,simprocAttr,e0']<;>rfl) rfl (by simp only[am,evOp,simprocAttr,e0']) (by simp only[am,evOp,simprocAttr,e0']<;>rfl) (pbpieces_ok u2 hE hL (by omega) (by omega) hB (by omega) hp I2.plc P) fun pv h3 hq=>?_))
 obtain⟨x3,ps,hps,hpl,hof,hcov⟩:=hq
 refine G.run (by simp only[am,evOp,simprocAttr]<;>rfl) ?_
 have n3:=x3.nx
 have lp:=hps.len
 have k3:Kp (fun c=>c=la∨c=pa∨c=bb) h h3:=k2.trans (x3.kp (S:=fun _=>False) (Nat.le_refl _)) (fun _ _ q=>q.elim)
 have u3:=u2.ext x3 (Nat.le_refl _)
 have F3:=F2.ext x3 (Nat.le_refl _)
 have fl3:F.length<2 ^ 29:=by omega
 cases hz:ps with
 | nil =>
   subst hz
   have dz:decide ((([]:List Pc).length:Nat)=(0:Int))=true:=rfl
   refine W.seq (W.seq (W.run (by simp only[am,evOp,simprocAttr,lp,dz]<;>rfl) ?_))
   refine W.yes (by simp only[am,evOp,simprocAttr,dz]<;>rfl) ?_
   refine W.seq (W.run (by simp only[am,evOp,simprocAttr]<;>rfl) ?_)
   refine W.ret ⟨.bool true,(by simp only[rs,rf20,am,evOp,simprocAttr]<;>rfl),k3,.inr ⟨rfl,H,V,fav,F,u3,F3,by omega,I2,fun e he=>?_⟩⟩
   cases hHe:H e with
   | true=>rfl
   | false =>
     obtain⟨p,hp',_⟩:=hcov e he hHe
     simp at hp'
 | cons p ps' =>
   have hpos:0<ps.length:=by rw[hz]; simp
   rw[← hz] at *
   clear hz
   have dz:decide (((ps.length:Nat):Int)=0)=false:=by rw[decide_eq_false_iff_not]; omega
   refine W.seq (W.seq (W.runs (fun ts h'=>h'=h3∧tget ts 0=.ptr bb 0∧tget ts 3=pv∧tget ts 10=.bool false) (by simp only[am,evOp,simprocAttr,e0',lp,dz]) ?_))
   rintro ts h3' ⟨rfl,e0',e3,e10⟩
   refine W.no (by simp only[am,evOp,simprocAttr,e10]) (W.skip ?_)
   refine W.seq (W.reg (G.gcall 2 (by simp only[am,evOp,simprocAttr,e0',e3]<;>rfl) rfl (by simp only[am,evOp,simprocAttr,e0',e3]) (by simp only[am,evOp,simprocAttr,e0',e3]<;>rfl) (pbstep_ok u3 hE hL hn hm hB (by omega) hp hbo hli I2 P F3 fl3 ⟨by omega,by omega,by omega,by omega⟩ oe2 ob2 hps (by omega) (fun b m hb=>F2.lt hb) hpos (by omega) hof hcov) fun rv h4 hq=>?_))
   obtain⟨k4,hq⟩:=hq
   have k4':Kp (fun c=>c=la∨c=pa∨c=bb) h h4:=k3.trans k4 (fun c hc q=>by
    rcases q with q|q|q|q
    ·exact .inl q
    ·exact .inr (.inl q)
    ·exact .inr (.inr q)
    ·omega)
   rcases hq with ⟨rfl,hno⟩|⟨rfl,H',V',fav',F',u4,F4,fl4,I4,hs,hnew⟩
   ·refine G.run (by simp only[am,evOp,simprocAttr]<;>rfl) ?_
    refine W.yes (by simp only[am,evOp,simprocAttr,Bool.not_false]) ?_
    refine W.seq (W.run (by simp only[am,evOp,simprocAttr]<;>rfl) ?_)
    exact W.ret ⟨.bool false,(by simp only[rs,rf20,am,evOp,simprocAttr]<;>rfl),k4',.inl ⟨rfl,hno⟩⟩
   ·refine G.run (by simp only[am,evOp,simprocAttr]<;>rfl) ?_
    refine W.no (by simp only[am,evOp,simprocAttr,Bool.not_true]) (W.skip ?_)
    have hlt:=unl_lt hs hnew
    exact⟨unl Bl H',hlt,by simp only[am,evOp,simprocAttr,e0'],k4',H',V',fav',F',u4,F4,by omega,I4,rfl⟩
end Go.Proofs.Ytpeemonpdlifbaa
namespace Go.Proofs.Ytpeemonpdlifbaa
open Go.Am
open Go.Pla (at_ jn On Rot Pln Bond Link Part Plc Hg Bld Dual Thr)
theorem rd_first {h:AH}{b o:Nat}{x y:AV} (hr:rdCells h b o 2=some [x,y]):rdCells h b o 1=some [x]:=by
 unfold rdCells at hr ⊢
 revert hr
 cases h.get b with
 | none=>simp
 | some c =>
   cases c<;>simp
   intro h1 h2
   refine⟨by omega,?_⟩
   have:=congrArg (List.take 1) h2
   rw[List.take_take] at this
   simpa using this
def hfE (E:List (Int×Int)) (i x:Nat):Nat:=if tlE E i=x then 2*i else 2*i+1
set_option maxHeartbeats 4000000 in
theorem pbhalf_ok {h:AH}{bb n:Nat}{ev edv:AV}{E:List (Int×Int)}{Bl:List Nat}{la pa:Nat}{H V:Nat→Bool}{fav:AV} (u:Bu h bb n ev edv E Bl la pa H V fav) (hE:InG n E) (hL:∀ i,i<E.length→tlE E i≠hdE E i) (hn:n<2 ^ 30) (hm:E.length<2 ^ 30) (hB:∀ i∈Bl,i<E.length) (hBn:Bl.length<2 ^ 30) (hp:Pln (grE n E hE hL) Bl) {x y i:Nat} (hx:x<n) (hy:y<n) (hi:i∈Bl) (hj:jn (grE n E hE hL) i x y=true) :
 C prg 39 [.ptr bb 0,.int .i64 (x:Nat),.int .i64 (y:Nat)] h fun r h'=>r=.int .i64 (hfE E i x:Nat)∧Ext h.next h h':=by
 refine C.func pf39 ?_
 have rb:rdCells h bb 2 1=some [edv]:=rd_at u.o rfl
 have lb:=u.b.len
 rw[List.length_map,List.length_map] at lb
 refine W.seq (W.run (by simp only[am,evOp,simprocAttr,initTm]<;>rfl) ?_)
 refine W.seq (W.seq (W.run (by simp only[am,evOp,simprocAttr,initTm,rb,lb]<;>rfl) ?_))
 refine W.rng (α:=Unit) (N:=Bl.length) (fun _ _=>[(14,edv),(0,.ptr bb 0),(1,.int .i64 (x:Nat)),(2,.int .i64 (y:Nat))])
  (fun k _ h'=>Ext h.next h h'∧i∉Bl.take k) () (fun _ _=>rfl) (by omega) (by simp only[hl,am,evOp,simprocAttr,initTm]) ⟨Ext.refl,by simp⟩ ?_ ?_
 ·rintro k _ ts h1 hk ⟨j1,j2⟩ ⟨ei,en,e14,e0,e1,e2,-⟩
  simp only at ei en e14 e0 e1 e2
  have u1:=u.ext j1 (Nat.le_refl _)
  obtain⟨b3,o3,a3,r3,_⟩:=u1.b.at1 (i:=k) (y:=.int .i64 (Bl[k]:Nat)) (by rw[List.getElem?_map,List.getElem?_map,List.getElem?_eq_getElem hk]; rfl)
  have hBk:=List.getElem_mem hk
  have htk:Bl.take (k+1)=Bl.take k++[Bl[k]]:=by rw[List.take_add_one,List.getElem?_eq_getElem hk]; rfl
  generalize hq:Bl[k]=q at *
  have hqE:=hB q hBk
  refine W.seq (W.run (by simp only[am,evOp,simprocAttr,e14,ei,a3,r3]<;>rfl) ?_)
  refine W.seq (W.reg (G.gcall 3 (by simp only[am,evOp,simprocAttr,e0,e1]<;>rfl) rfl (by simp only[am,evOp,simprocAttr,e0,e1]) (by simp only[am,evOp,simprocAttr,e0,e1]<;>rfl) (pbother_ok u1 hE (show n<2 ^ 40 by omega) hqE hx) fun v h2 hv=>?_))
  obtain⟨rfl,x2⟩:=hv
  refine G.run (by simp only[am,evOp,simprocAttr]<;>rfl) ?_
  have x2':Ext h.next h h2:=j1.trans (x2.mono j1.nx)
  have u2:=u.ext x2' (Nat.le_refl _)
  have jiff:=jn_of (n:=n) (E:=E) (hE:=hE) (hL:=hL) (i:=q) (x:=x) (y:=y)
  have skip:jn (grE n E hE hL) q y x≠true→i∉Bl.take (k+1):=fun h hc=>by
   rw[htk,List.mem_append,List.mem_singleton] at hc
   rcases hc with hc|hc
   ·exact j2 hc
   ·subst hc
    rw[Go.Pla.jn_iff] at hj
    exact h (by rw[Go.Pla.jn_iff]; rcases hj with h|h; exact .inr h; exact .inl h)
  cases hI:incB E q x with
  | false =>
    refine W.seq (W.run (by simp only[am,evOp,simprocAttr]<;>rfl) ?_)
    refine W.no (by simp only[am,evOp,simprocAttr]) (W.skip ?_)
    exact⟨(),⟨x2',skip (by rw[ne_eq,jiff,hI]; simp)⟩,by simp only[hl,am,evOp,simprocAttr,ei,en,e14,e0,e1,e2]⟩
  | true =>
    by_cases hy':othZ E q x=((y:Nat):Int)
    ·have dy:decide (othZ E q x=((y:Nat):Int))=true:=decide_eq_true hy'
     have hji:=jiff.2 ⟨hI,hy'⟩
     have:q=i:=hp.one q hBk i hi x y (by rw[Go.Pla.jn_iff] at hji ⊢; rcases hji with h|h; exact .inr h; exact .inl h) hj
     subst this
     obtain⟨q1,q2,q3⟩:=hE q hqE
     obtain⟨b6,o6,a6,r6,_,_⟩:=u2.e.at (map_at (f:=eE) hqE)
     rw[q1] at r6
     have r6:rdCells h2 b6 o6 2=some [.int .i64 (tlE E q:Nat),.int .i64 (hdE E q:Nat)]:=r6
     have r7:rdCells h2 b6 o6 1=some [.int .i64 (tlE E q:Nat)]:=rd_first r6
     have r1:rdCells h2 bb 1 1=some [ev]:=rd_at u2.o rfl
     have w2q:IntKind.i64.wrap (2*((q:Nat):Int))=((2*q:Nat):Int):=by
      have:(2*((q:Nat):Int))=((2*q:Nat):Int):=by omega
      rw[this]; exact wr64 (by omega) (by omega)
     have w2q1:IntKind.i64.wrap (((2*q:Nat):Int)+1)=((2*q+1:Nat):Int):=wr64 (by omega) (by omega)
     refine W.seq (W.runs (fun ts h'=>h'=h2∧tget ts 0=.ptr bb 0∧tget ts 1=.int .i64 (x:Nat)∧tget ts 8=.int .i64 (q:Nat)∧tget ts 32=.bool true) (by simp only[am,evOp,simprocAttr,e0,e1,e2,dy]) ?_)
     rintro ts h2' ⟨rfl,e0,e1,e8,e32⟩
     refine W.yes (by simp only[am,evOp,simprocAttr,e32]) ?_
     by_cases ht:tlE E q=x
     ·have dt:decide (((tlE E q:Nat):Int)=((x:Nat):Int))=true:=by rw[decide_eq_true_iff,ht]
      refine W.seq (W.seq (W.run (by simp only[am,evOp,simprocAttr,e0,e1,e8,r1,a6,r7,dt]<;>rfl) ?_))
      refine W.yes (by simp only[am,evOp,simprocAttr,dt]) ?_
      refine W.seq (W.runs (fun ts h'=>h'=h2'∧tget ts 6=.int .i64 ((2*q:Nat):Int)) (by simp only[am,evOp,simprocAttr,e8,w2q]) ?_)
      rintro ts h3 ⟨rfl,e6⟩
      exact W.ret ⟨.int .i64 ((2*q:Nat):Int),(by simp only[rs,rf39,am,evOp,simprocAttr,e6]<;>rfl),by rw[hfE,if_pos ht],x2'⟩
     ·have dt:decide (((tlE E q:Nat):Int)=((x:Nat):Int))=false:=by rw[decide_eq_false_iff_not]; omega
      refine W.seq (W.seq (W.runs (fun ts h'=>h'=h2'∧tget ts 8=.int .i64 (q:Nat)∧tget ts 43=.bool false) (by simp only[am,evOp,simprocAttr,e0,e1,e8,r1,a6,r7,dt]) ?_))
      rintro ts h3 ⟨rfl,e8,e43⟩
      refine W.no (by simp only[am,evOp,simprocAttr,e43]) (W.skip ?_)
      refine W.seq (W.runs (fun ts h'=>h'=h3∧tget ts 6=.int .i64 ((2*q+1:Nat):Int)) (by simp only[am,evOp,simprocAttr,e8,w2q,w2q1]) ?_)
      rintro ts h4 ⟨rfl,e6⟩
      exact W.ret ⟨.int .i64 ((2*q+1:Nat):Int),(by simp only[rs,rf39,am,evOp,simprocAttr,e6]<;>rfl),by rw[hfE,if_neg ht],x2'⟩
    ·have dy:decide (othZ E q x=((y:Nat):Int))=false:=decide_eq_false hy'
     refine W.seq (W.run (by simp only[am,evOp,simprocAttr,e2,dy]<;>rfl) ?_)
     refine W.no (by simp only[am,evOp,simprocAttr,dy]) (W.skip ?_)
     exact⟨(),⟨x2',skip (by rw[ne_eq,jiff]; simp [hy'])⟩,by simp only[hl,am,evOp,simprocAttr,ei,en,e14,e0,e1,e2]⟩
 ·rintro _ ts h1 ⟨j1,j2⟩ _
  rw[List.take_of_length_le (Nat.le_refl _)] at j2
  exact absurd hi j2
end Go.Proofs.Ytpeemonpdlifbaa
