/- planar -/
import Derived.Test.YtcfncejilmimpaaGreatVTAN
set_option linter.all false
namespace Go.Proofs.YtcfncejilmimpaaGreat
open Go.Am
open Go.Pla (at_ jn On Rot Pln Bond Link Part Plc Hg Bld Dual Thr)
variable {Bl l:List Nat}{E:List (Int×Int)}{F:List (List Nat)}{V:Nat->Bool}{bb e0 f lo n pa:Nat}{edv ev fav:AV}{h:AH}{p:Pc}{ps:List Pc}{pt:Nat->Nat}
theorem PcL.at{h:AH}{lo:Nat}{v:AV}{ps:List Pc}(hl:PcL h lo v ps){i:Nat}(hi:i<ps.length):∃b o atv,iQ 3 v (.int .i64 (i:Nat))=some (.ptr b o)/\ar h b o 3=some [atv,.int .i64 ps[i].2.1,.int .i64 ps[i].2.2]/\IsSl h 1 lo atv (nC ps[i].1)/\b<h.next:=by
 obtain⟨qs,h1,h2,h3⟩:=hl;have hs:Sl h 3 v (qs.map cP):=IsSl.sl om (λ_=>rfl) h1;have hq:qs[i]?=some (qs[i]'om):=ae _;obtain⟨b,o,q1,q2,_,q3⟩:=hs.at (i:=i) (x:=cP (qs[i]'om)) (by rw[aF,hq];rfl);obtain⟨s1,s2,_⟩:=h3 i _ _ hq (ae hi);refine⟨b,o,(qs[i]'om).1,q1,?_,s1,q3⟩;rw[q2,cP,s2]
theorem PcL.len{v:AV}(hl:PcL h lo v ps):jb v=some (.int .i64 (ps.length:Nat)):=by
 obtain⟨qs,h1,h2,h3⟩:=hl;rcases h1 with⟨rfl,hz⟩|⟨b,n,_,rfl,hg,hn⟩
 .have:=congrArg List.length hz;rw[Cb,aQ]at this;have:ps.length=0:=om;rw[this];rfl
 .rw[Cb]at hn;have:n=ps.length:=om;rw[this];rfl
theorem jS:f∈fh F l↔f<F.length/\∀x∈l,x∈Go.Pla.fcs F f:=by
 simp[fh,mN,Go.Pla.fcs]
theorem Lx:(fh F l).Nodup:=List.nodup_range.filter _
theorem MG{g:Go.Blk.Gr}{B:List Nat}(p:Pln g B):∀{t:List Nat}{x:Nat},Go.Pla.Ch g B (x::t)->t≠[]->∀z∈x::t,∃e∈B,at_ g e z=true
 |[],_,_,h,_,_=>absurd rfl h
 |y::t,x,hc,_,z,hz=>by
   obtain⟨⟨e,he,hj⟩,hc'⟩:=hc;rcases aw.1 hz with rfl|hz
   .exact⟨e,he,by rw[p.jat he hj];simp[Ne.symm (p.jne he hj)]⟩
   .cases t with
    |nil =>
      have:z=y:=by simpa using hz
      subst this;exact⟨e,he,by rw[p.jat he hj];simp[p.jne he hj]⟩
    |cons q t=>exact MG p hc' (by simp) z hz
theorem Ny{e:Nat}{z cs:List AV}{o:AO}(hg:h.get n=some o)(hl:z.length=cs.length):∃h2,bV (h.put n (.cells z e false)) n 0 cs=some h2/\Upd h h2 n (.cells cs e false):=by
 have u1:=Oi (o:=.cells z e false) hg;have u2:=Oi (o:=.cells cs e false) u1.get;refine⟨(h.put n (.cells z e false)).put n (.cells cs e false),?_,⟨by rw[u2.nx,u1.nx],λc=>by rw[u2.gt c,u1.gt c];split<;>rfl,λc=>by rw[u2.ty c,u1.ty c]⟩⟩;rw[fI u1.get,if_pos om];congr 3;simp only[dQ,eT,bz,bX];rw[dS om,cH]
theorem KX{g:Go.Blk.Gr}{H:Nat->Bool}(hp:Pln g Bl)(hb:Bond g Bl)(I:Bld g Bl H V F)(P:Part g Bl H pt)(o:Of g Bl H V pt p e0)(h:fh F p.1=[]):¬ ∃(Φ:Type) (l r:Nat->Φ),Dual g Bl l r:=λhd=>by
 obtain⟨f,hf,hv⟩:=Go.Pla.part_fits hp hb P (I.can hd) o.mem;have:f∈fh F p.1:=jS.2 ⟨hf,λx hx=>hv x ((o.hgs x).1 hx)⟩;rw[h]at this;simp at this
theorem JM{g:Go.Blk.Gr}{H:Nat->Bool}(hp:Pln g Bl)(hb:Bond g Bl)(hl:Link g Bl)(I:Bld g Bl H V F)(P:Part g Bl H pt)(hps:∀e∈Bl,H e=false->∃p∈ps,∃e0,Of g Bl H V pt p e0/\pt e0=pt e)(o:Of g Bl H V pt p e0)(hmin:∀q∈ps,(fh F p.1).length<=(fh F q.1).length){rest:List Nat}(hfit:fh F p.1=f::rest){y1 y2:Nat}{i:List Nat}(t:Thr g Bl H V pt e0 y1 y2 i){s tl':List Nat}(hr:Rot (Go.Pla.fcs F f) (y1::s++y2::tl')){H' V':Nat->Bool}(hH':∀j,H' j=true↔H j=true\/(j∈Bl/\On g (y1::i++[y2]) j))(hV':∀v,V' v=true↔V v=true\/v∈y1::i++[y2]) :
 Bld g Bl H' V' (F.set f (y1::s++y2::i.reverse)++[y2::tl'++y1::i])/\∃e∈Bl,H e=false/\H' e=true:=by
 have hff:f∈fh F p.1:=by rw[hfit];simp
 obtain⟨hf,hfv⟩:=jS.1 hff;constructor
 .refine Go.Pla.inv_cut hp hb hl I P hf hr t.ch t.nd t.fr t.new (λe he ho v hv=>?_) ?_ (λe he=>?_) hV'
  .rw[t.part e he ho]at hv;exact hfv v ((o.hgs v).2 hv)
  .cases rest with
   |nil =>
     refine .inl λe he ho h hh hv=>?_;have:h∈fh F p.1:=jS.2 ⟨hh,λx hx=>hv x (by rw[t.part e he ho];exact(o.hgs x).1 hx)⟩;rw[hfit]at this;simpa using this
   |cons f2 rest =>
     refine .inr λe he hH=>?_;obtain⟨q,hq,e1,o1,h1⟩:=hps e he hH;have h2:=hmin q hq;rw[hfit]at h2;cases hfq:fh F q.1 with
     |nil=>rw[hfq]at h2;simp at h2
     |cons a l =>
       cases l with
       |nil=>rw[hfq]at h2;simp at h2
       |cons b l =>
         have nd:=Lx (F:=F) (l:=q.1);rw[hfq]at nd;have ha:a∈fh F q.1:=by rw[hfq];simp
         have hb':b∈fh F q.1:=by rw[hfq];simp
         refine⟨a,b,(jS.1 ha).1,(jS.1 hb').1,λe=>by subst e;simp at nd,λv hv=>?_⟩;have:v∈q.1:=(o1.hgs v).2 (by rw[h1];exact hv);exact⟨(jS.1 ha).2 v this,(jS.1 hb').2 v this⟩
  .rw[hH'];constructor
   .rintro (h|⟨_,h⟩)
    .exact .inl h
    .exact .inr h
   .rintro (h|h)
    .exact .inl h
    .exact .inr ⟨he,h⟩
 .have hch:=t.ch;have key:∃e∈Bl,On g (y1::i++[y2]) e:=by
   cases i with
   |nil=>obtain⟨⟨e,he,hj⟩,_⟩:=hch;exact⟨e,he,[],y1,y2,[],rfl,hj⟩
   |cons q i=>obtain⟨⟨e,he,hj⟩,_⟩:=hch;exact⟨e,he,[],y1,q,i++[y2],rfl,hj⟩
  obtain⟨e,he,ho⟩:=key;exact⟨e,he,t.fresh hp I.plc e he ho,(hH' e).2 (.inr ⟨he,ho⟩)⟩
set_option maxHeartbeats 4000000 in
theorem Ew{lo2:Nat}{pv:AV}{la:Nat}{H:Nat->Bool}(u:Bu h bb n ev edv E Bl la pa H V fav)(hE:InG n E)(hL:∀i,i<E.length->tlE E i≠hdE E i)(hn:n<2^29)(hm:E.length<2^29)(hB:∀i∈Bl,i<E.length)(hBn:Bl.length<2^29)
 (hp:Pln (grE n E hE hL) Bl) (hb:Bond (grE n E hE hL) Bl) (hlk:Link (grE n E hE hL) Bl) (I:Bld (grE n E hE hL) Bl H V F) {pt:Nat->Nat} (P:Part (grE n E hE hL) Bl H pt)
 (hF:LL h lo fav F) (hFl:F.length<2^29) (hlo:la<lo/\pa<lo/\bb<lo/\lo<=h.next) (oe2:Off (λc=>lo<=c) ev) (ob2:Off (λc=>lo<=c) edv)
 (hps:PcL h lo2 pv ps) (hlo2:lo<=lo2) (hfl2:∀b m,fav=.sl b 0 m m->b<lo2) (hpl:0<ps.length) (hpl2:ps.length<2^29) (hof:∀p∈ps,∃e0,Of (grE n E hE hL) Bl H V pt p e0) (hcov:∀e∈Bl,H e=false->∃p∈ps,∃e0,Of (grE n E hE hL) Bl H V pt p e0/\pt e0=pt e) :
 C prg 46 [.ptr bb 0,pv] h λr h'=>Kp (λc=>c=la\/c=pa\/c=bb\/lo<=c) h h'/\((r=.bool false/\¬ ∃(Φ:Type) (l r:Nat->Φ),Dual (grE n E hE hL) Bl l r)\/(r=.bool true/\∃H' V' fav' F',Bu h' bb n ev edv E Bl la pa H' V' fav'/\LL h' lo fav' F'/\F'.length=F.length+1/\Bld (grE n E hE hL) Bl H' V' F'/\(∀e,H e=true->H' e=true)/\∃e∈Bl,H e=false/\H' e=true)):=by
 have hpn:∀p∈ps,p.1.length<2^29:=λp hq=>by
  obtain⟨e0,o⟩:=hof p hq;have:=Go.Pla.nd_lt o.nd (n:=n) λz hz=>by
   obtain⟨e,he,_,_,ha,_⟩:=(o.hgs z).1 hz;exact Go.Pla.at_lt (hp.lt e he) ha
  omega
 have hFn:∀c∈F,c.length<2^30:=λc hc=>by
  obtain⟨k,hk,rfl⟩:=fQ.1 hc;have hcc:=I.lay.circ k hk;have hq:Go.Pla.fcs F k=F[k]:=by simp[Go.Pla.fcs,List.getD,hk]
  rw[hq]at hcc;have:=Go.Pla.nd_lt hcc.nodup (n:=n) λz hz=>by
   obtain⟨e,he,ha,_⟩:=Go.Pla.cy_at hp hcc hz;exact Go.Pla.at_lt (hp.lt e he) ha
  omega
 refine Oj pf46 ?_;refine ai (aE (Mi0) ?_);have hps1:PcL (h.keep 1) lo2 pv ps:=hps.cong λc _ hc=>tN hc;obtain⟨b1,o1,av,a1,r1,i1,lb1⟩:=hps1.at (i:=0) hpl;rw[bJ]at a1;have xk:Ext h.next h (h.keep 1):=⟨by rw[AH.keep_next];omega,λc hc=>tN hc,λc _=>Oe 1 h⟩
 have nk:(h.keep 1).next=h.next+1:=AH.keep_next 1 h;have uk:=u.ext xk (ab _);have Fk:=hF.ext xk (ab _);have hm0:ps[0]∈ps:=aR hpl;have hfit0:=vL (s:=ps[0].2.1) (e:=ps[0].2.2) uk Fk om hFn (et i1) (by have:=hpn _ hm0;omega);refine ai (nZ (od 7 (Mi2 a1 r1) rfl (Zi2 a1 r1) (Mi2 a1 r1) (hfit0) λrv h1 hq=>?_));obtain⟨f1,x1⟩:=hq;rw[nk]at f1 x1;have n1:=x1.nx;rw[nk]at n1;have r1':ar h1 b1 o1 3=some [av,.int .i64 ps[0].2.1,.int .i64 ps[0].2.2]:=by rw[cN (x1.gt b1 (by rw[nk]at lb1;exact lb1))];exact r1
 have g1:h1.get h.next=some .resv:=by rw[x1.gt _ om];exact jE
 have hsame:av.same av=true:=by rcases i1 with⟨rfl,_⟩|⟨b,n,_,rfl,_⟩<;>simp[AV.same]
 obtain⟨h2,w2,u2⟩:=Ny (e:=3) (z:=[.nils,.int .i64 0,.int .i64 0]) (cs:=[av,.int .i64 ps[0].2.1,.int .i64 ps[0].2.2]) g1 rfl;refine⟨by simp only[am,aJ,simprocAttr,r1'];simp[AV.same,AV.sames,hsame],?_⟩;refine bU (by simp only[am,aJ,simprocAttr,bL,eO,Fa g1,i1.cells.1,i1.cells.2,w2,aA,aQ,if_true,Nat.reduceAdd]<;>rfl) ?_;have n2:=u2.nx;have x2:Ext h.next h h2:=⟨om,λc hc=>by rw[u2.ne om,x1.gt c om,tN hc],λc hc=>by rw[u2.ty c,x1.ty c om,Oe]⟩
 have f2:IsSl h2 1 (h.next+1) rv (nC (fh F ps[0].1)):=f1.cong λb m e hb=>u2.ne om;have lp:=hps.len;refine ai (ai (ai (bW (λts h'=>h'=h2/\bt ts 0=.ptr bb 0/\bt ts 5=.ptr h.next 0/\bt ts 6=rv/\bt ts 19=pv/\bt ts 20=.int .i64 (ps.length:Nat)/\bt ts 21=.int .i64 0) (by simp only[am,aJ,simprocAttr,lp]) ?_)));rintro ts h2' ⟨rfl,e0,e5,e6,e19,e20,e21⟩;have gD:∀{i:Nat} (hi:i<ps.length),ps.getD i ([],0,0)=ps[i]:=λhi=>by simp[List.getD,hi]
 have hi0:IsSl h 1 lo2 av (nC (ps.getD 0 ([],0,0)).1):=by
  rw[gD hpl];obtain⟨b0,o0,av0,a0,r0,i0,lb0⟩:=hps.at (i:=0) hpl;rw[bJ,a1]at a0;cases a0;rw[cN (tN lb0),r0]at r1;simp only[aa,eY,and_true]at r1;rw[<-r1];exact i0
 refine iI (α:=Nat×AV) (N:=ps.length) (λ_ a=>[(19,pv),(0,.ptr bb 0),(5,.ptr h.next 0),(6,a.2)])
  (λk a h'=>Ext h.next h h'/\h.next<h'.next/\(∃atv s e,h'.get h.next=some (.cells [atv,.int .i64 s,.int .i64 e] 3 false)/\IsSl h 1 lo2 atv (nC (ps.getD a.1 ([],0,0)).1)/\s=(ps.getD a.1 ([],0,0)).2.1/\e=(ps.getD a.1 ([],0,0)).2.2)/\a.1<ps.length/\IsSl h' 1 (h.next+1) a.2 (nC (fh F (ps.getD a.1 ([],0,0)).1))/\∀i,i<k->fh F (ps.getD i ([],0,0)).1≠[]/\(fh F (ps.getD a.1 ([],0,0)).1).length<=(fh F (ps.getD i ([],0,0)).1).length)
  (0,rv) (λ_ _=>rfl) om (H6 e0 e5 e6 e19 e20 e21) ⟨x2,om,⟨av,_,_,u2.get,hi0,by rw[gD hpl],by rw[gD hpl]⟩,hpl,by rw[gD hpl];exact f2,λi hi=>by omega⟩ ?_ ?_
 .clear e0 e5 e6 e19 e20 e21;rintro k ⟨j,fv⟩ ts h3 hk ⟨j1,j2,⟨atv,s,e,j3,j4,j5,j6⟩,j7,j8,j9⟩ ⟨e21,e20,e19,e0,e5,e6,-⟩;simp only at e21 e20 e19 e0 e5 e6 j3 j4 j5 j6 j7 j8 j9;obtain⟨b4,o4,av4,a4,r4,i4,lb4⟩:=hps.at hk;have r4':ar h3 b4 o4 3=some [av4,.int .i64 ps[k].2.1,.int .i64 ps[k].2.2]:=by rw[cN (j1.gt b4 lb4)];exact r4
  obtain⟨h4,w4,x4,g4,n4⟩:=ip (h:=h3) (z:=[.nils,.int .i64 0,.int .i64 0]) (cs:=[av4,.int .i64 ps[k].2.1,.int .i64 ps[k].2.2]) (e:=3) rfl;refine ai (bW (λts h'=>h'=h4/\Held [(21,.int .i64 (k:Nat)),(20,.int .i64 (ps.length:Nat)),(19,pv),(0,.ptr bb 0),(5,.ptr h.next 0),(6,fv),(8,.ptr h3.next 0)] ts) (by simp only[am,aJ,simprocAttr,e21,e20,e19,e0,e5,e6,a4,r4',i4.cells.1,i4.cells.2,w4,cE,cX,aA,aQ,if_true]) ?_);rintro ts h4' ⟨rfl,e21,e20,e19,e0,e5,e6,e8,-⟩;have x4':Ext h.next h h4':=j1.trans (x4.mono om);have u4:=u.ext x4' (ab _);have F4:=hF.ext x4' (ab _);have i4':=i4.ext x4' (ab _);have hmk:ps[k]∈ps:=aR hk;have r8:ar h4' h3.next 0 3=some [av4,.int .i64 ps[k].2.1,.int .i64 ps[k].2.2]:=by rw[bC g4];rfl
  refine ai (cJ (bK 2 (M3 e0 e8 r8) rfl (Z3 e0 e8 r8) (M3 e0 e8 r8) (vL (s:=ps[k].2.1) (e:=ps[k].2.2) u4 F4 om hFn (et i4') (by have:=hpn _ hmk;omega)) λrv' h5 hq=>?_));obtain⟨f5,x5⟩:=hq;refine bU (M0) ?_;have n5:=x5.nx;have x5':Ext h.next h h5:=x4'.trans (x5.mono om);have lf:=(et f5).len;rw[ah,ah]at lf;have g5:h5.get h.next=some (.cells [atv,.int .i64 s,.int .i64 e] 3 false):=by rw[x5.gt _ om,x4.gt _ j2];exact j3
  have lb:=(et j8).len;rw[ah,ah]at lb;by_cases hz:fh F ps[k].1=[]
  .have dz:decide (((fh F ps[k].1).length:Nat)=(0:Int))=true:=by rw[hz];rfl
   refine ai (ai (aE (M2 lf dz) ?_));refine cI (Z1 dz) ?_;refine ai (aE (M0) ?_);obtain⟨e0,o0⟩:=hof _ hmk;exact bP ⟨.bool false,(by simp only[rs,rf46,am,aJ,simprocAttr]<;>rfl),⟨x5'.nx,λc hc _=>x5'.gt c hc,λc hc=>x5'.ty c hc⟩,.inl ⟨rfl,KX hp hb I P o0 hz⟩⟩
  .have hz':(fh F ps[k].1).length≠0:=λq=>hz (List.eq_nil_of_length_eq_zero q);have dz:decide (((fh F ps[k].1).length:Nat)=(0:Int))=false:=by rw[be];omega
   refine ai (ai (bW (λts h'=>h'=h5/\Held [(21,.int .i64 (k:Nat)),(20,.int .i64 (ps.length:Nat)),(19,pv),(0,.ptr bb 0),(5,.ptr h.next 0),(6,fv),(8,.ptr h3.next 0),(9,rv'),(30,.bool false)] ts) (by simp only[am,aJ,simprocAttr,e21,e20,e19,e0,e5,e6,e8,lf,dz,cE,cX]) ?_));rintro ts h5' ⟨rfl,e21,e20,e19,e0,e5,e6,e8,e9,e30,-⟩;refine dJ (Z1 e30) (bM ?_);have j8':IsSl h5' 1 (h.next+1) fv (nC (fh F (ps.getD j ([],0,0)).1)):=(j8.ext x4 (ab _)).ext x5 (ab _);by_cases hc:(fh F ps[k].1).length<(fh F (ps.getD j ([],0,0)).1).length
   .have dc:decide (((fh F ps[k].1).length:Nat)<(((fh F (ps.getD j ([],0,0)).1).length:Nat):Int))=true:=by rw[decide_eq_true_iff];omega
    refine ai (aE (M5 e9 e6 lf lb dc) ?_);refine cI (Z1 dc) ?_;have r8':ar h5' h3.next 0 3=some [av4,.int .i64 ps[k].2.1,.int .i64 ps[k].2.2]:=by rw[cN (x5.gt _ om)];exact r8
    have u6:=Oi (o:=.cells [av4,.int .i64 ps[k].2.1,.int .i64 ps[k].2.2] 3 false) g5;have w6:bV h5' h.next 0 [av4,.int .i64 ps[k].2.1,.int .i64 ps[k].2.2]=some (h5'.put h.next (.cells [av4,.int .i64 ps[k].2.1,.int .i64 ps[k].2.2] 3 false)):=by rw[fI g5];rfl
    have n6:=u6.nx;refine bW (λts h'=>h'=h5'.put h.next (.cells [av4,.int .i64 ps[k].2.1,.int .i64 ps[k].2.2] 3 false)/\Held [(21,.int .i64 (k:Nat)),(20,.int .i64 (ps.length:Nat)),(19,pv),(0,.ptr bb 0),(5,.ptr h.next 0),(6,rv')] ts) (by simp only[am,aJ,simprocAttr,e21,e20,e19,e0,e5,e6,e8,e9,r8',i4.cells.1,i4.cells.2,w6,cE,cX,aA,aQ,if_true]) ?_;rintro ts h6 ⟨rfl,hh⟩;refine⟨(k,rv'),⟨?_,om,⟨av4,_,_,u6.get,by rw[gD hk];exact i4,by rw[gD hk],by rw[gD hk]⟩,hk,?_,λi hi=>?_⟩,hh⟩
    .exact⟨by have:=x5'.nx;omega,λc hc=>by rw[u6.ne om,x5'.gt c hc],λc hc=>by rw[u6.ty c,x5'.ty c hc]⟩
    .rw[gD hk];exact(f5.mono om).cong λb m e hb=>u6.ne om
    .rw[gD hk];rcases dZ i k with h|h
     .obtain⟨q1,q2⟩:=j9 i h;exact⟨q1,om⟩
     .have:i=k:=om;subst this;rw[gD hk];exact⟨hz,ab _⟩
   .have dc:decide (((fh F ps[k].1).length:Nat)<(((fh F (ps.getD j ([],0,0)).1).length:Nat):Int))=false:=by rw[be];omega
    refine ai (bW (λts h'=>h'=h5'/\Held [(21,.int .i64 (k:Nat)),(20,.int .i64 (ps.length:Nat)),(19,pv),(0,.ptr bb 0),(5,.ptr h.next 0),(6,fv),(35,.bool false)] ts) (by simp only[am,aJ,simprocAttr,e21,e20,e19,e0,e5,e6,e9,lf,lb,dc,cE,cX]) ?_);rintro ts h6 ⟨rfl,e21,e20,e19,e0,e5,e6,e35,-⟩;refine dJ (Z1 e35) (bM ?_);refine⟨(j,fv),⟨x5',om,⟨atv,s,e,g5,j4,j5,j6⟩,j7,j8',λi hi=>?_⟩,H6 e21 e20 e19 e0 e5 e6⟩;rcases dZ i k with h|h
    .exact j9 i h
    .have:i=k:=om;subst this;rw[gD hk];exact⟨hz,Nat.le_of_not_lt hc⟩
 .rintro⟨j,fv⟩ ts h3 ⟨j1,j2,⟨atv,s,e,j3,j4,j5,j6⟩,j7,j8,j9⟩ ⟨e19,e0,e5,e6,-⟩;simp only at e19 e0 e5 e6 j3 j4 j5 j6 j7 j8 j9;rw[gD j7]at j4 j5 j6 j8 j9;subst j5 j6;have hmj:ps[j]∈ps:=aR j7;have lb:=(et j8).len;rw[ah,ah]at lb;have hnz:fh F ps[j].1≠[]:=by have:=(j9 j j7).1;rw[gD j7]at this;exact this
  have hmin:∀q∈ps,(fh F ps[j].1).length<=(fh F q.1).length:=λq hq=>by
   obtain⟨i,hi,rfl⟩:=fQ.1 hq;have:=(j9 i hi).2;rw[gD hi]at this;exact this
  obtain⟨e0',o0⟩:=hof _ hmj;obtain⟨f,rest,hfit⟩:∃f rest,fh F ps[j].1=f::rest:=dF hnz;have dz:decide (((fh F ps[j].1).length:Nat)=(0:Int))=false:=by rw[hfit,aA,be];omega
  refine ai (ai (bW (λts h'=>h'=h3/\bt ts 0=.ptr bb 0/\bt ts 5=.ptr h.next 0/\bt ts 6=fv/\bt ts 41=.bool false) (by simp only[am,aJ,simprocAttr,e0,e5,e6,lb,dz]) ?_));rintro ts h3' ⟨rfl,e0,e5,e6,e41⟩;refine dJ (Z1 e41) (bM ?_);have u3:=u.ext j1 (ab _);have r5:ar h3' h.next 0 3=some [atv,.int .i64 ps[j].2.1,.int .i64 ps[j].2.2]:=by rw[bC j3];rfl
  have i4:=j4.ext j1 (ab _);refine ai (cJ (bK 2 (M3 e0 e5 r5) rfl (Z3 e0 e5 r5) (M3 e0 e5 r5) (Ha u3 hE hL om om hB om hp hb hlk I.plc P I.ex o0 i4 om) λwv h4 hq=>?_));obtain⟨x4,y1,y2,i,hw,hwo,t⟩:=hq;refine bU (M0) ?_;have n4:=x4.nx;have x4':Ext h.next h h4:=j1.trans (x4.mono om);have u4:=u.ext x4' (ab _);have F4:=hF.ext x4' (ab _);have j84:=j8.ext x4 (ab _);obtain⟨bf,of,af,rf',_⟩:=(et j84).at1 (i:=0) (y:=.int .i64 (f:Nat)) (by rw[hfit];rfl);rw[bJ]at af;have hff:f∈fh F ps[j].1:=by rw[hfit];simp
  obtain⟨hf,hfv⟩:=jS.1 hff;have hFf:Go.Pla.fcs F f=F[f]:=by simp[Go.Pla.fcs,List.getD,hf]
  have lt_la:=AH.lt_of_get u.l;have lt_pa:=AH.lt_of_get u.v;have lt_bb:=AH.lt_of_get u.o;have hyn:∀z∈y1::i++[y2],z<n:=λz hz=>by
   obtain⟨e,he,ha⟩:=MG hp t.ch (by simp) z hz;exact Go.Pla.at_lt (hp.lt e he) ha
  have hil:i.length<2^29:=by
   have:=Go.Pla.nd_lt t.nd (n:=n) hyn;simp at this;omega
  obtain⟨ey1,ey2⟩:=t.ends hp I.plc;have mem1:y1∈F[f]:=by rw[<-hFf];exact hfv y1 ((o0.hgs y1).2 ey1)
  have mem2:y2∈F[f]:=by rw[<-hFf];exact hfv y2 ((o0.hgs y2).2 ey2)
  have hcn:F[f].Nodup:=by rw[<-hFf];exact(I.lay.circ f hf).nodup
  refine ai (cJ (bK 5 (M4 e0 e6 af rf') rfl (Z4 e0 e6 af rf') (M4 e0 e6 af rf') (Bj u4 hE hL om om hB om F4 om ⟨om,om,om,om⟩ hf (hFn _ (aR hf)) hcn hw hil hyn t.nd (gm hwo λc hc=>by rcases hc with h|h|h<;>omega) (λb m hb=>gm hwo λc hc=>by have h1:=hfl2 b m hb;have h2:=hF.lt hb;omega) mem1 mem2 oe2 ob2) λ_ h5 hq=>?_));obtain⟨s,tl',H',V',fav',hr,u5,F5,k5,hH',hV'⟩:=hq;refine bU (M0) ?_;rw[<-hFf]at hr;obtain⟨I5,hnew⟩:=JM hp hb hlk I P hcov o0 hmin hfit t hr hH' hV';refine ai (aE (M0) ?_);refine bP ⟨.bool true,(by simp only[rs,rf46,am,aJ,simprocAttr]<;>rfl),⟨by have:=k5.nx;omega,λc hc hne=>by rw[k5.gt c om hne,x4'.gt c hc],λc hc=>by rw[k5.ty c om,x4'.ty c hc]⟩,.inr ⟨rfl,H',V',fav',_,u5,F5,by simp,I5,λe he=>(hH' e).2 (.inl he),hnew⟩⟩
open Go.Am
open Go.Pla (at_ jn On Rot Pln Bond Link Part Plc Hg Bld Dual Thr)
def unl(Bl:List Nat)(H:Nat->Bool):Nat:=(Bl.filter λe=>!(H e)).length
theorem FT{H H':Nat->Bool}(hs:∀e,H e=true->H' e=true):∀{Bl:List Nat},unl Bl H'<=unl Bl H
 |[]=>ab _
 |b::Bl=>by
   have ih:=FT hs (Bl:=Bl);unfold unl at ih |-;rw[iB,iB];cases hb:H b with
   |true=>rw[hs b hb];simpa using ih
   |false =>
     cases hb':H' b with
     |true=>simp only[cA,bu,if_false,cq,if_true,aA];omega
     |false=>simp only[cq,if_true,aA];omega
theorem FS{H H':Nat->Bool}(hs:∀e,H e=true->H' e=true):∀{Bl:List Nat},(∃e∈Bl,H e=false/\H' e=true)->unl Bl H'<unl Bl H
 |[],⟨_,h,_⟩=>by simp at h
 |b::Bl,⟨e,he,h1,h2⟩=>by
   have ih:=FT hs (Bl:=Bl);have ih2:=FS hs (Bl:=Bl);unfold unl at ih ih2 |-;rw[iB,iB];rcases aw.1 he with rfl|he
   .rw[h1,h2];simp only[cA,bu,if_false,cq,if_true,aA];omega
   .have ih2:=ih2 ⟨e,he,h1,h2⟩;cases hb:H b with
    |true=>rw[hs b hb];simpa using ih2
    |false =>
      cases hb':H' b with
      |true=>simp only[cA,bu,if_false,cq,if_true,aA];omega
      |false=>simp only[cq,if_true,aA];omega
theorem JF{H:Nat->Bool}:unl Bl H<=Bl.length:=cS _ _
set_option maxHeartbeats 4000000 in
theorem Hb{e0 k0:Nat}{Bl':List Nat}{la:Nat}(u:Bu h bb n ev edv E (e0::Bl') la pa (λ_=>false) (λ_=>false) .nils)(hE:InG n E)(hL:∀i,i<E.length->tlE E i≠hdE E i)(hn:n<2^29)(hm:E.length<2^29)(hB:∀i∈e0::Bl',i<E.length)(hBn:(e0::Bl').length<2^28)(hp:Pln (grE n E hE hL) (e0::Bl'))(hbo:Bond (grE n E hE hL) (e0::Bl'))(hli:Link (grE n E hE hL) (e0::Bl'))(hk0:k0∈e0::Bl')(hke:k0≠e0) :
 C prg 22 [.ptr bb 0] h λr h'=>Kp (λc=>c=la\/c=pa\/c=bb) h h'/\((r=.bool false/\¬ ∃(Φ:Type) (l r:Nat->Φ),Dual (grE n E hE hL) (e0::Bl') l r)\/(r=.bool true/\∃H V fav F,Bu h' bb n ev edv E (e0::Bl') la pa H V fav/\LL h' h.next fav F/\F.length<=(e0::Bl').length+2/\Bld (grE n E hE hL) (e0::Bl') H V F/\∀e∈e0::Bl',H e=true)):=by
 have lt_bb:=AH.lt_of_get u.o;have lt_la:=AH.lt_of_get u.l;have lt_pa:=AH.lt_of_get u.v;have oe2:Off (λc=>h.next<=c) ev:=by
  cases hq:ev with
  |sl b o m c=>exact λq=>by have:=u.e.lt hq;omega
  |_=>trivial
 have ob2:Off (λc=>h.next<=c) edv:=by
  cases hq:edv with
  |sl b o m c=>exact λq=>by have:=u.b.lt hq;omega
  |_=>trivial
 refine Oj pf22 ?_;refine ai (aE (Mi0) ?_);refine ai (cJ (bK 1 (Mi0) rfl (Zi0) (Mi0) (Bm u hE hL om om hB om hp hbo hli hk0 hke) λ_ h1 hq=>?_));obtain⟨H,V,fav,F,u1,k1,F1,fl1,I1⟩:=hq;refine bU (M0) ?_;generalize hBl:e0::Bl'=Bl at *
 refine cZ (gY (λm ts h'=>bt ts 0=.ptr bb 0/\Kp (λc=>c=la\/c=pa\/c=bb) h h'/\∃H V fav F,Bu h' bb n ev edv E Bl la pa H V fav/\LL h' h.next fav F/\F.length+unl Bl H<=Bl.length+2/\Bld (grE n E hE hL) Bl H V F/\m=unl Bl H) ?_ (n:=unl Bl H) ⟨Zi0,k1,H,V,fav,F,u1,F1,by have:=JF (Bl:=Bl) (H:=H);omega,I1,rfl⟩);clear u1 k1 F1 fl1 I1;rintro m ts h2 ⟨e0',k2,H,V,fav,F,u2,F2,fl2,I2,rfl⟩;obtain⟨pt,P⟩:=Go.Pla.part_ex (grE n E hE hL) Bl H;have n2:=k2.nx;refine cZ ?_;refine ai (cJ (bK 1 (M1 e0') rfl (Z1 e0') (M1 e0') (zi u2 hE hL om om hB om hp I2.plc P) λpv h3 hq=>?_));obtain⟨x3,ps,hps,hpl,hof,hcov⟩:=hq;refine bU (M0) ?_;have n3:=x3.nx;have lp:=hps.len;have k3:Kp (λc=>c=la\/c=pa\/c=bb) h h3:=k2.trans (x3.kp (S:=λ_=>False) (ab _)) (λ_ _ q=>q.elim);have u3:=u2.ext x3 (ab _);have F3:=F2.ext x3 (ab _);have fl3:F.length<2^29:=om;cases hz:ps with
 |nil =>
   subst hz;have dz:decide ((([]:List Pc).length:Nat)=(0:Int))=true:=rfl;refine ai (ai (aE (M2 lp dz) ?_));refine cI (M1 dz) ?_;refine ai (aE (M0) ?_);refine bP ⟨.bool true,(by simp only[rs,rf22,am,aJ,simprocAttr]<;>rfl),k3,.inr ⟨rfl,H,V,fav,F,u3,F3,om,I2,λe he=>?_⟩⟩;cases hHe:H e with
   |true=>rfl
   |false =>
     obtain⟨p,hp',_⟩:=hcov e he hHe;simp at hp'
 |cons p ps' =>
   have hpos:0<ps.length:=by rw[hz];simp
   rw[<-hz]at *
   clear hz;have dz:decide (((ps.length:Nat):Int)=0)=false:=by rw[be];omega
   refine ai (ai (bW (λts h'=>h'=h3/\bt ts 0=.ptr bb 0/\bt ts 3=pv/\bt ts 10=.bool false) (by simp only[am,aJ,simprocAttr,e0',lp,dz]) ?_));rintro ts h3' ⟨rfl,e0',e3,e10⟩;refine dJ (Z1 e10) (bM ?_);refine ai (cJ (bK 2 (M2 e0' e3) rfl (Z2 e0' e3) (M2 e0' e3) (Ew u3 hE hL hn hm hB om hp hbo hli I2 P F3 fl3 ⟨om,om,om,om⟩ oe2 ob2 hps om (λb m hb=>F2.lt hb) hpos om hof hcov) λrv h4 hq=>?_));obtain⟨k4,hq⟩:=hq;have k4':Kp (λc=>c=la\/c=pa\/c=bb) h h4:=k3.trans k4 (λc hc q=>by
    rcases q with q|q|q|q
    .exact .inl q
    .exact .inr (.inl q)
    .exact .inr (.inr q)
    .omega)
   rcases hq with⟨rfl,hno⟩|⟨rfl,H',V',fav',F',u4,F4,fl4,I4,hs,hnew⟩
   .refine bU (M0) ?_;refine cI (by simp only[am,aJ,simprocAttr,cq]) ?_;refine ai (aE (M0) ?_);exact bP ⟨.bool false,(by simp only[rs,rf22,am,aJ,simprocAttr]<;>rfl),k4',.inl ⟨rfl,hno⟩⟩
   .refine bU (M0) ?_;refine dJ (Z1 @cA) (bM ?_);have hlt:=FS hs hnew;exact⟨unl Bl H',hlt,Z1 e0',k4',H',V',fav',F',u4,F4,om,I4,rfl⟩
open Go.Am
open Go.Pla (at_ jn On Rot Pln Bond Link Part Plc Hg Bld Dual Thr)
theorem GU{b o:Nat}{x y:AV}(hr:ar h b o 2=some [x,y]):ar h b o 1=some [x]:=by
 unfold ar at hr |-;revert hr;cases h.get b with
 |none=>simp
 |some c =>
   cases c<;>simp;intro h1 h2;refine⟨om,?_⟩;have:=congrArg (List.take 1) h2;rw[yz]at this;simpa using this
def hfE(E:List (Int×Int))(i x:Nat):Nat:=if tlE E i=x then 2*i else 2*i+1
set_option maxHeartbeats 4000000 in
theorem vK{E:List (Int×Int)}{la:Nat}{H:Nat->Bool}(u:Bu h bb n ev edv E Bl la pa H V fav)(hE:InG n E)(hL:∀i,i<E.length->tlE E i≠hdE E i)(hn:n<2^30)(hm:E.length<2^30)(hB:∀i∈Bl,i<E.length)(hBn:Bl.length<2^30)(hp:Pln (grE n E hE hL) Bl){x y i:Nat}(hx:x<n)(hy:y<n)(hi:i∈Bl)(hj:jn (grE n E hE hL) i x y=true) :
 C prg 47 [.ptr bb 0,.int .i64 (x:Nat),.int .i64 (y:Nat)] h λr h'=>r=.int .i64 (hfE E i x:Nat)/\Ext h.next h h':=by
 refine Oj pf47 ?_;have rb:ar h bb 2 1=some [edv]:=bF u.o rfl;have lb:=u.b.len;rw[ah,ah]at lb;refine ai (aE (Mi0) ?_);refine ai (ai (aE (Mi2 rb lb) ?_))
 refine iI (α:=Unit) (N:=Bl.length) (λ_ _=>[(14,edv),(0,.ptr bb 0),(1,.int .i64 (x:Nat)),(2,.int .i64 (y:Nat))])
  (λk _ h'=>Ext h.next h h'/\i∉Bl.take k) () (λ_ _=>rfl) om (Hi0) ⟨Oh,by simp⟩ ?_ ?_
 .rintro k _ ts h1 hk ⟨j1,j2⟩ ⟨ei,en,e14,e0,e1,e2,-⟩;simp only at ei en e14 e0 e1 e2;have u1:=u.ext j1 (ab _);obtain⟨b3,o3,a3,r3,_⟩:=u1.b.at1 (i:=k) (y:=.int .i64 (Bl[k]:Nat)) (by rw[aF,aF,ae hk];rfl);have hBk:=aR hk;have htk:Bl.take (k+1)=Bl.take k++[Bl[k]]:=by rw[eP,ae hk];rfl
  generalize hq:Bl[k]=q at *
  have hqE:=hB q hBk;refine ai (aE (M4 e14 ei a3 r3) ?_);refine ai (cJ (bK 3 (M2 e0 e1) rfl (Z2 e0 e1) (M2 e0 e1) (mK u1 hE (show n<2^40 by omega) hqE hx) λv h2 hv=>?_));obtain⟨rfl,x2⟩:=hv;refine bU (M0) ?_;have x2':Ext h.next h h2:=j1.trans (x2.mono j1.nx);have u2:=u.ext x2' (ab _);have jiff:=MB (n:=n) (E:=E) (hE:=hE) (hL:=hL) (i:=q) (x:=x) (y:=y);have skip:jn (grE n E hE hL) q y x≠true->i∉Bl.take (k+1):=λh hc=>by
   rw[htk,aC,bI]at hc;rcases hc with hc|hc
   .exact j2 hc
   .subst hc;rw[Go.Pla.jn_iff]at hj;exact h (by rw[Go.Pla.jn_iff];rcases hj with h|h;exact .inr h;exact .inl h)
  cases hI:lR E q x with
  |false =>
    refine ai (aE (M0) ?_);refine dJ (Z0) (bM ?_);exact⟨(),⟨x2',skip (by rw[ne_eq,jiff,hI];simp)⟩,H6 ei en e14 e0 e1 e2⟩
  |true =>
    by_cases hy':nr E q x=((y:Nat):Int)
    .have dy:decide (nr E q x=((y:Nat):Int))=true:=aP hy';have hji:=jiff.2 ⟨hI,hy'⟩;have:q=i:=hp.one q hBk i hi x y (by rw[Go.Pla.jn_iff]at hji |-;rcases hji with h|h;exact .inr h;exact .inl h) hj;subst this;obtain⟨q1,q2,q3⟩:=hE q hqE;obtain⟨b6,o6,a6,r6,_,_⟩:=u2.e.at (fX (f:=eE) hqE);rw[q1]at r6;have r6:ar h2 b6 o6 2=some [.int .i64 (tlE E q:Nat),.int .i64 (hdE E q:Nat)]:=r6;have r7:ar h2 b6 o6 1=some [.int .i64 (tlE E q:Nat)]:=GU r6;have r1:ar h2 bb 1 1=some [ev]:=bF u2.o rfl;have w2q:IntKind.i64.wrap (2*((q:Nat):Int))=((2*q:Nat):Int):=by
      have:(2*((q:Nat):Int))=((2*q:Nat):Int):=om;rw[this];exact ft om om
     have w2q1:IntKind.i64.wrap (((2*q:Nat):Int)+1)=((2*q+1:Nat):Int):=ft om om;refine ai (bW (λts h'=>h'=h2/\bt ts 0=.ptr bb 0/\bt ts 1=.int .i64 (x:Nat)/\bt ts 8=.int .i64 (q:Nat)/\bt ts 32=.bool true) (by simp only[am,aJ,simprocAttr,e0,e1,e2,dy]) ?_);rintro ts h2' ⟨rfl,e0,e1,e8,e32⟩;refine cI (Z1 e32) ?_;by_cases ht:tlE E q=x
     .have dt:decide (((tlE E q:Nat):Int)=((x:Nat):Int))=true:=by rw[decide_eq_true_iff,ht]
      refine ai (ai (aE (M7 e0 e1 e8 r1 a6 r7 dt) ?_));refine cI (Z1 dt) ?_;refine ai (bW (λts h'=>h'=h2'/\bt ts 6=.int .i64 ((2*q:Nat):Int)) (by simp only[am,aJ,simprocAttr,e8,w2q]) ?_);rintro ts h3 ⟨rfl,e6⟩;exact bP ⟨.int .i64 ((2*q:Nat):Int),(by simp only[rs,rf47,am,aJ,simprocAttr,e6]<;>rfl),by rw[hfE,if_pos ht],x2'⟩
     .have dt:decide (((tlE E q:Nat):Int)=((x:Nat):Int))=false:=by rw[be];omega
      refine ai (ai (bW (λts h'=>h'=h2'/\bt ts 8=.int .i64 (q:Nat)/\bt ts 43=.bool false) (by simp only[am,aJ,simprocAttr,e0,e1,e8,r1,a6,r7,dt]) ?_));rintro ts h3 ⟨rfl,e8,e43⟩;refine dJ (Z1 e43) (bM ?_);refine ai (bW (λts h'=>h'=h3/\bt ts 6=.int .i64 ((2*q+1:Nat):Int)) (by simp only[am,aJ,simprocAttr,e8,w2q,w2q1]) ?_);rintro ts h4 ⟨rfl,e6⟩;exact bP ⟨.int .i64 ((2*q+1:Nat):Int),(by simp only[rs,rf47,am,aJ,simprocAttr,e6]<;>rfl),by rw[hfE,if_neg ht],x2'⟩
    .have dy:decide (nr E q x=((y:Nat):Int))=false:=aL hy';refine ai (aE (M2 e2 dy) ?_);refine dJ (Z1 dy) (bM ?_);exact⟨(),⟨x2',skip (by rw[ne_eq,jiff];simp[hy'])⟩,H6 ei en e14 e0 e1 e2⟩
 .rintro _ ts h1 ⟨j1,j2⟩ _;rw[de (ab _)]at j2;exact absurd hi j2
end Go.Proofs.YtcfncejilmimpaaGreat
namespace Go.Pla
open Go.Blk
variable {c d:List Nat}{e f1 f2 k n p x y z z':Nat}
variable {g:Gr}{B:List Nat}{H:Nat->Bool}{nf:Nat}{fc:Nat->List Nat}
def Tri(c:List Nat)(y x z:Nat):Prop:=∃t,Rot c (y::x::z::t)
theorem Tri.nx1(h:Tri c y x z):Nx c y x:=by
 obtain⟨t,h⟩:=h;exact⟨z::t,h⟩
theorem Tri.nx2(h:Tri c y x z):Nx c x z:=by
 obtain⟨t,h⟩:=h;exact⟨t++[y],h.trans ⟨[y],x::z::t,rfl,rfl⟩⟩
theorem tri_of_nx(h:Nx c y x)(h3:3<=c.length):∃z,Tri c y x z:=by
 obtain⟨t,h⟩:=h;cases t with
 |nil =>
   obtain⟨a,b,h1,h2⟩:=h;have e1:=congrArg List.length h1;have e2:=congrArg List.length h2;simp at e1 e2;omega
 |cons z t=>exact⟨z,t,h⟩
theorem CF(hp:p<c.length){j:Nat}(hj:j<c.length):(c.drop p++c.take p)[j]?=c[(p+j)%c.length]?:=by
 by_cases h:j<c.length-p
 .rw[bE (by rw[dh];exact h),eG,eL om]
 .rw[bp (by rw[dh];omega),dh,cK,if_pos om];have:(p+j)%c.length=p+j-c.length:=by
   rw[Nat.mod_eq_sub_mod om,eL om]
  rw[this];congr 1;omega
theorem Nf(h:Rot c d)(hc:0<c.length):∃p,p<c.length/\d=c.drop p++c.take p:=by
 obtain⟨a,b,rfl,rfl⟩:=h;cases b with
 |nil=>exact⟨0,hc,by simp⟩
 |cons x b=>exact⟨a.length,by simp,by rw[pK,yA]⟩
theorem GO:Rot c (c.drop p++c.take p):=⟨c.take p,c.drop p,by rw[cQ],rfl⟩
theorem zu(hk:k<n):((k+n-1)%n+1)%n=k:=by
 by_cases h:k=0
 .subst h;have h1:(0+n-1)%n=n-1:=by rw[show 0+n-1=n-1 by omega];exact eL om
  rw[h1,show n-1+1=n by omega,Nat.mod_self]
 .have h1:(k+n-1)%n=k-1:=by
   rw[show k+n-1=(k-1)+n by omega,Nat.add_mod_right,eL om]
  rw[h1,show k-1+1=k by omega,eL hk]
theorem CV(hk:k<n):((k+n-1)%n+2)%n=(k+1)%n:=by
 have h:=zu hk;rw[show(k+n-1)%n+2=((k+n-1)%n+1)+1 by omega,Nat.add_mod,h];simp
theorem tri_at(hk:k<c.length)(h3:3<=c.length):Tri c (c.getD ((k+c.length-1)%c.length) 0) (c.getD k 0) (c.getD ((k+1)%c.length) 0):=by
 obtain⟨p,hp⟩:∃p,p=(k+c.length-1)%c.length:=⟨_,rfl⟩
 have hpl:p<c.length:=by rw[hp];exact pF _ om
 obtain⟨d,hd⟩:∃d,d=c.drop p++c.take p:=⟨_,rfl⟩
 have hr:Rot c d:=hd▸GO;have hdl:d.length=c.length:=by rw[hd];simp;omega
 match d,hd,hr,hdl with
 |[],_,_,h=>exact absurd h (by simp;omega)
 |[_],_,_,h=>exact absurd h (by simp;omega)
 |[_,_],_,_,h=>exact absurd h (by simp;omega)
 |y::x::z::t,hd,hr,_ =>
   have g:∀j,j<c.length->(y::x::z::t)[j]?=c[(p+j)%c.length]?:=λj hj=>by rw[hd];exact CF hpl hj
   have g0:=g 0 om;have g1:=g 1 om;have g2:=g 2 om;rw[ep,eL hpl]at g0;rw[hp,zu hk]at g1;rw[hp,CV hk]at g2;refine⟨t,?_⟩;have e0:c.getD p 0=y:=by simp only[aj,<-g0];rfl
   have e1:c.getD k 0=x:=by simp only[aj,<-g1];rfl
   have e2:c.getD ((k+1)%c.length) 0=z:=by simp only[aj,<-g2];rfl
   rw[<-hp,e0,e1,e2];exact hr
theorem tri_ix(h:Tri c y x z):∃k,k<c.length/\y=c.getD ((k+c.length-1)%c.length) 0/\x=c.getD k 0/\z=c.getD ((k+1)%c.length) 0:=by
 obtain⟨t,h⟩:=h;have hl:c.length=(y::x::z::t).length:=by
  obtain⟨a,b,rfl,h2⟩:=h;rw[h2];simp[Nat.add_comm]
 have h3:3<=c.length:=by rw[hl];simp
 obtain⟨p,hp,hd⟩:=Nf h om;have g:∀j,j<c.length->(y::x::z::t)[j]?=c[(p+j)%c.length]?:=λj hj=>by rw[hd];exact CF hp hj
 have g0:=g 0 om;have g1:=g 1 om;have g2:=g 2 om;rw[ep,eL hp]at g0;obtain⟨k,hk⟩:∃k,k=(p+1)%c.length:=⟨_,rfl⟩
 have hkl:k<c.length:=by rw[hk];exact pF _ om
 have hpk:(k+c.length-1)%c.length=p:=by
  by_cases h:p+1<c.length
  .rw[eL h]at hk;subst hk;rw[show p+1+c.length-1=p+c.length by omega,Nat.add_mod_right,eL hp]
  .have:p+1=c.length:=om;rw[this,Nat.mod_self]at hk;subst hk;rw[bX,eL om];omega
 have hk2:(p+2)%c.length=(k+1)%c.length:=by
  rw[<-CV hkl,hpk]
 refine⟨k,hkl,?_,?_,?_⟩
 .rw[hpk,aj,<-g0];rfl
 .rw[hk,aj,<-g1];rfl
 .rw[<-hk2,aj,<-g2];rfl
theorem AW(h:Rot c d)(hc:c.Nodup):d.Nodup:=by
 obtain⟨a,b,rfl,rfl⟩:=h;exact List.perm_append_comm.nodup_iff.1 hc
theorem yV{s t:List Nat}(h:Rot (x::s) (x::t))(nd:(x::s).Nodup):s=t:=by
 obtain⟨a,b,h1,h2⟩:=h;cases a with
 |nil =>
   simp only[bz,cH]at h1 h2;rw[<-h1]at h2;injection h2 with _ h2;exact h2.symm
 |cons q a =>
   simp only[aH]at h1;injection h1 with h3 h4;subst h3;cases b with
   |nil =>
     simp only[bz,cH]at h2 h4;injection h2 with _ h2;rw[h4,h2]
   |cons r b =>
     simp only[aH]at h2;injection h2 with h5 _;subst h5;exfalso;rw[h4]at nd;exact(aX.1 nd).1 (by simp)
theorem Np(nd:c.Nodup)(h1:Nx c x z)(h2:Nx c x z'):z=z':=by
 obtain⟨t,h1⟩:=h1;obtain⟨t',h2⟩:=h2;have:=yV (h1.symm.trans h2) (AW h1 nd);injection this
theorem FX{y':Nat}(nd:c.Nodup)(h1:Tri c y x z)(h2:Tri c y' x z'):y=y':=by
 obtain⟨t,h1⟩:=h1;obtain⟨t',h2⟩:=h2;have a1:Rot c (x::(z::t++[y])):=h1.trans ⟨[y],x::z::t,rfl,rfl⟩;have a2:Rot c (x::(z'::t'++[y'])):=h2.trans ⟨[y'],x::z'::t',rfl,rfl⟩;have:=yV (a1.symm.trans a2) (AW a1 nd);obtain⟨_,h⟩:=dP this rfl;injection h
theorem CS(nd:c.Nodup)(h3:3<=c.length)(h1:Nx c x z)(h2:Nx c z x):False:=by
 obtain⟨w,hw⟩:=tri_of_nx h2 h3;have e1:=Np nd h1 hw.nx2;subst e1;obtain⟨t,ht⟩:=hw;have:=AW ht nd;simp at this
theorem KV(p:Pln g B)(L:Lay g B H nf fc)(O:Ori g B H nf fc)(he:e∈B)(hH:H e=true)(hj:jn g e x z=true)(h1:f1<nf)(h2:f2<nf)(n1:Nx (fc f1) x z)(n2:Nx (fc f2) x z):f1=f2:=by
 have hj':jn g e z x=true:=by rw[jn_iff]at hj |-;rcases hj with h|h;exact .inr h;exact .inl h
 obtain⟨f3,h3,n3⟩:=O e he hH z x hj';have on:∀{f u v},f<nf->jn g e u v=true->Nx (fc f) u v->cy g (fc f) e=true:=fun {f u v} hf hj hn=>by
  obtain⟨t,hr⟩:=hn;rw[<-hr.cy];exact ji p (hr.cc (L.circ f hf)) he hj
 obtain⟨a,b,_,_,_,hab⟩:=L.two e he hH;have c1:=on h1 hj n1;have c2:=on h2 hj n2;have c3:=on h3 hj' n3;rw[hab f1 h1]at c1;rw[hab f2 h2]at c2;rw[hab f3 h3]at c3;simp only[dn,beq_iff_eq]at c1 c2 c3;have len:∀f,f<nf->3<=(fc f).length:=λf hf=>by
  have:=L.circ f hf;cases hfc:fc f with
  |nil=>rw[hfc]at this;exact this.elim
  |cons q s=>rw[hfc]at this;exact this.2.2
 refine Classical.byContradiction λhne=>?_;have:f3=f1\/f3=f2:=om;rcases this with rfl|rfl
 .exact CS (L.circ _ h1).nodup (len _ h1) n1 n3
 .exact CS (L.circ _ h2).nodup (len _ h2) n2 n3
theorem tri_inj(p:Pln g B)(L:Lay g B H nf fc)(O:Ori g B H nf fc){y1 y2:Nat}(he:e∈B)(hH:H e=true)(hj:jn g e x z=true)(h1:f1<nf)(h2:f2<nf)(t1:Tri (fc f1) y1 x z)(t2:Tri (fc f2) y2 x z):y1=y2:=by
 have:=KV p L O he hH hj h1 h2 t1.nx2 t2.nx2;subst this;exact FX (L.circ _ h1).nodup t1 t2
theorem cc_len(h:Cc g B c):3<=c.length:=by
 cases c with
 |nil=>exact h.elim
 |cons q s=>exact h.2.2
theorem nx_edge(hc:Cc g B c)(h:Nx c x z):∃e∈B,jn g e x z=true:=by
 obtain⟨t,hr⟩:=h;have:=hr.cc hc;obtain⟨⟨e,he,hj⟩,_⟩:=this.1;exact⟨e,he,hj⟩
end Go.Pla
namespace Go.Proofs.YtcfncejilmimpaaGreat
open Go.Am
open Go.Pla (at_ jn On Rot Pln Bond Link Part Plc Hg Bld Dual Thr Tri Cc)
variable {Bl:List Nat}{E:List (Int×Int)}{F:List (List Nat)}{f:Nat}{l l':List (Int×AV)}
abbrev pG(h:AH)(mb:Nat)(l:List (Int×AV)):Prop:=MapG (λk:Int=>AV.int .i64 k) h mb l
def Du(g:Go.Blk.Gr)(E:List (Int×Int))(Bl:List Nat)(F:List (List Nat))(d v:Nat):Prop:=∃f y x z i j,f<F.length/\Tri (Go.Pla.fcs F f) y x z/\i∈Bl/\j∈Bl/\jn g i x y=true/\jn g j x z=true/\d=hfE E i x/\v=hfE E j x
structure Trn(g:Go.Blk.Gr)(E:List (Int×Int))(Bl:List Nat)(F:List (List Nat))(l l':List (Int×AV))(f k:Nat):Prop where
 old:∀q,lkG l' q=lkG l q\/∃d v:Nat,q=((d:Nat):Int)/\lkG l' q=some (.int .i64 (v:Nat))/\Du g E Bl F d v
 new:∀f' k',f'<F.length->k'<(Go.Pla.fcs F f').length->(f'<f\/f'=f/\k'<k)->∀i∈Bl,jn g i ((Go.Pla.fcs F f').getD k' 0) ((Go.Pla.fcs F f').getD ((k'+(Go.Pla.fcs F f').length-1)%(Go.Pla.fcs F f').length) 0)=true->∃v:Nat,lkG l' ((hfE E i ((Go.Pla.fcs F f').getD k' 0):Nat):Int)=some (.int .i64 (v:Nat))/\Du g E Bl F (hfE E i ((Go.Pla.fcs F f').getD k' 0)) v
theorem Trn.step{g:Go.Blk.Gr}{k:Nat}(t:Trn g E Bl F l l' f k)(p:Pln g Bl){d v i:Nat}(hT:Du g E Bl F d v)(hi:i∈Bl)(hj:jn g i ((Go.Pla.fcs F f).getD k 0) ((Go.Pla.fcs F f).getD ((k+(Go.Pla.fcs F f).length-1)%(Go.Pla.fcs F f).length) 0)=true)(hd:d=hfE E i ((Go.Pla.fcs F f).getD k 0)):Trn g E Bl F l (upG l' ((d:Nat):Int) (.int .i64 (v:Nat))) f (k+1):=by
 refine⟨λq=>?_,λf' k' hf' hk' ho j hj' hjj=>?_⟩
 .rw[lg];by_cases h:q=((d:Nat):Int)
  .rw[if_pos h];exact .inr ⟨d,v,h,rfl,hT⟩
  .rw[if_neg h];exact t.old q
 .rw[lg];by_cases h:((hfE E j ((Go.Pla.fcs F f').getD k' 0):Nat):Int)=((d:Nat):Int)
  .rw[if_pos h];have h:hfE E j ((Go.Pla.fcs F f').getD k' 0)=d:=om;exact⟨v,rfl,by rw[h];exact hT⟩
  .rw[if_neg h];have ho':f'<f\/f'=f/\k'<k:=by
    rcases ho with ho|⟨rfl,ho⟩
    .exact .inl ho
    .rcases dZ k' k with h1|h1
     .exact .inr ⟨rfl,h1⟩
     .exfalso;have:k'=k:=om;subst this;have:=p.one i hi j hj' _ _ hj hjj;subst this;exact h (by rw[hd])
   exact t.new f' k' hf' hk' ho' j hj' hjj
theorem Trn.next{g:Go.Blk.Gr}(t:Trn g E Bl F l l' f (Go.Pla.fcs F f).length):Trn g E Bl F l l' (f+1) 0:=by
 refine⟨t.old,λf' k' hf' hk' ho=>t.new f' k' hf' hk' ?_⟩;rcases ho with ho|⟨_,ho⟩
 .rcases dZ f' f with h|h
  .exact .inl h
  .have:f'=f:=om;subst this;exact .inr ⟨rfl,hk'⟩
 .omega
set_option maxHeartbeats 4000000 in
theorem Bi{h:AH}{bb n lo mb:Nat}{ev edv:AV}{la pa:Nat}{H V:Nat->Bool}{fav:AV}(u:Bu h bb n ev edv E Bl la pa H V fav)(hE:InG n E)(hL:∀i,i<E.length->tlE E i≠hdE E i)(hn:n<2^29)(hm:E.length<2^29)(hB:∀i∈Bl,i<E.length)(hBn:Bl.length<2^29)(hp:Pln (grE n E hE hL) Bl)(hF:LL h lo fav F)(hFl:F.length<2^29)(hcc:∀f,f<F.length->Cc (grE n E hE hL) Bl (Go.Pla.fcs F f))(hmp:pG h mb l)(hne:mb≠bb/\mb≠la/\mb≠pa/\mb<lo)(ome:Off (λc=>c=mb) ev)(omd:Off (λc=>c=mb) edv) :
 C prg 23 [.ptr bb 0,.mp mb] h λ_ h'=>∃l',pG h' mb l'/\Kp (λc=>c=mb) h h'/\Trn (grE n E hE hL) E Bl F l l' F.length 0:=by
 have kE:KeyE .ki (λk:Int=>AV.int .i64 k):=xQ;refine Oj pf23 ?_;have r5:ar h bb 5 1=some [fav]:=bF u.o rfl;have lf:=hF.len;refine ai (aE (Mi2 r5 lf) ?_)
 refine iI (α:=List (Int×AV)) (N:=F.length) (λ_ _=>[(12,fav),(0,.ptr bb 0),(1,.mp mb)])
  (λf l' h'=>pG h' mb l'/\Kp (λc=>c=mb) h h'/\Trn (grE n E hE hL) E Bl F l l' f 0) l (λ_ _=>rfl) om (Hi0) ⟨hmp,Kp.refl,λq=>.inl rfl,λf' k' _ _ ho=>by omega⟩ ?_ ?_
 .rintro f l1 ts h1 hf ⟨m1,k1,t1⟩ ⟨ei,en,e12,e0,e1,-⟩;simp only at ei en e12 e0 e1;have F1:=hF.cong λc h1 h2=>k1.gt c h2 om;obtain⟨b2,o2,fv,a2,r2,i2,_⟩:=F1.at hf;have hFf:Go.Pla.fcs F f=F[f]:=by simp[Go.Pla.fcs,List.getD,hf]
  have hcf:=hcc f hf;rw[<-hFf]at i2;have hc3:=Go.Pla.cc_len hcf;have hcn:(Go.Pla.fcs F f).length<=n:=Go.Pla.nd_lt hcf.nodup λz hz=>by
   obtain⟨e,he,ha,_⟩:=Go.Pla.cy_at hp hcf hz;exact Go.Pla.at_lt (hp.lt e he) ha
  have hvn:∀x∈Go.Pla.fcs F f,x<n:=λx hx=>by
   obtain⟨e,he,ha,_⟩:=Go.Pla.cy_at hp hcf hx;exact Go.Pla.at_lt (hp.lt e he) ha
  have lc:=(et i2).len;rw[ah,ah]at lc;refine ai (aE (M4 e12 ei a2 r2) ?_);refine ai (aE (M1 lc) ?_);refine ai (bW (λts h'=>h'=h1/\Held [(22,.int .i64 0),(21,.int .i64 ((Go.Pla.fcs F f).length:Nat)),(20,fv),(14,.int .i64 (f:Nat)),(13,.int .i64 (F.length:Nat)),(12,fav),(0,.ptr bb 0),(1,.mp mb),(5,fv),(6,.int .i64 ((Go.Pla.fcs F f).length:Nat))] ts) (by simp only[am,aJ,simprocAttr,ei,en,e12,e0,e1,lc,cE,cX]) ?_);rintro ts h1' ⟨rfl,hh⟩;obtain⟨c,hcd⟩:∃c,c=Go.Pla.fcs F f:=⟨_,rfl⟩
  rw[<-hcd]at i2 hcf hc3 hcn hvn lc hh
  refine iI (α:=List (Int×AV)) (N:=c.length) (λ_ _=>[(20,fv),(14,.int .i64 (f:Nat)),(13,.int .i64 (F.length:Nat)),(12,fav),(0,.ptr bb 0),(1,.mp mb),(5,fv),(6,.int .i64 (c.length:Nat))])
   (λk l' h'=>pG h' mb l'/\Kp (λc=>c=mb) h h'/\Kp (λc=>c=mb) h1' h'/\Trn (grE n E hE hL) E Bl F l l' f k) l1 (λ_ _=>rfl) om hh ⟨m1,k1,Kp.refl,t1⟩ ?_ ?_
  .clear hh;rintro k l2 ts h2 hk ⟨m2,k2,k12,t2⟩ ⟨e22,e21,e20,ei,en,e12,e0,e1,e5,e6,-⟩;simp only at e22 e21 e20 ei en e12 e0 e1 e5 e6;have n1:=k1.nx;have n2:=k2.nx;have ltm:=m1.lt;have iS:∀{h':AH},Kp (λc=>c=mb) h1' h'->IsSl h' 1 lo fv (nC c):=fun {h'} q=>i2.cong λb m _ hb=>q.gt b (i2.lt ‹_›) om;have iF:=iS k12;obtain⟨b3,o3,a3,r3,_⟩:=(et iF).at1 (i:=k) (y:=.int .i64 (c[k]:Nat)) (by rw[aF,aF,ae hk];rfl);have hxm:=aR hk;have hxg:c.getD k 0=c[k]:=by simp[List.getD,hk]
   obtain⟨kp,hkp⟩:∃kp,kp=(k+c.length-1)%c.length:=⟨_,rfl⟩
   obtain⟨kn,hkn⟩:∃kn,kn=(k+1)%c.length:=⟨_,rfl⟩
   have hkpl:kp<c.length:=by rw[hkp];exact pF _ om
   have hknl:kn<c.length:=by rw[hkn];exact pF _ om
   have hpg:c.getD kp 0=c[kp]:=by simp[List.getD,hkpl]
   have hng:c.getD kn 0=c[kn]:=by simp[List.getD,hknl]
   have tri:=Go.Pla.tri_at hk hc3;rw[<-hkp,<-hkn,hxg,hpg,hng]at tri;obtain⟨i,hi,hji⟩:=Go.Pla.nx_edge hcf tri.nx1;obtain⟨j,hj,hjj⟩:=Go.Pla.nx_edge hcf tri.nx2;have hji':jn (grE n E hE hL) i c[k] c[kp]=true:=by rw[Go.Pla.jn_iff]at hji |-;rcases hji with h|h;exact .inr h;exact .inl h
   have hxn:=hvn _ hxm;have hpn:=hvn _ (aR hkpl);have hnn:=hvn _ (aR hknl);obtain⟨b4,o4,a4,r4,_⟩:=(et iF).at1 (i:=kp) (y:=.int .i64 (c[kp]:Nat)) (by rw[aF,aF,ae hkpl];rfl);obtain⟨b6,o6,a6,r6,lb6⟩:=(et iF).at1 (i:=kn) (y:=.int .i64 (c[kn]:Nat)) (by rw[aF,aF,ae hknl];rfl);have wa:IntKind.i64.wrap (((k:Nat):Int)+((c.length:Nat):Int))=((k+c.length:Nat):Int):=by rw[ft om om];omega
   have wb:IntKind.i64.wrap (((k+c.length:Nat):Int)-1)=((k+c.length-1:Nat):Int):=by rw[ft om om];omega
   have wc:((k+c.length-1:Nat):Int).tmod ((c.length:Nat):Int)=((kp:Nat):Int):=by rw[hkp];rfl
   have we:IntKind.i64.wrap (((k:Nat):Int)+1)=((k+1:Nat):Int):=ft om om;have wf:((k+1:Nat):Int).tmod ((c.length:Nat):Int)=((kn:Nat):Int):=by rw[hkn];rfl
   have hne0:((c.length:Nat):Int)≠0:=om;have u2:=u.kp k2 om om om ome omd;refine ai (aE (M4 e20 e22 a3 r3) ?_);have hf1:=vK u2 hE hL om om hB om hp hxn hpn hi hji';refine cJ (od 21 (by simp only[am,aJ,simprocAttr,e0,e1,e5,e6,wa,wb,wc,if_neg hne0,we,wf,a4,r4,a6,r6]<;>rfl) rfl (by simp only[am,aJ,simprocAttr,e0,e1,e5,e6,wa,wb,wc,if_neg hne0,we,wf,a4,r4,a6,r6]) (by simp only[am,aJ,simprocAttr,e0,e1,e5,e6,wa,wb,wc,if_neg hne0,we,wf,a4,r4,a6,r6]<;>rfl) (hf1) λv3 h3 hq=>?_);obtain⟨rfl,x3⟩:=hq;have r63:ar h3 b6 o6 1=some [.int .i64 (c[kn]:Nat)]:=by rw[cN (x3.gt b6 lb6)];exact r6
   refine⟨Z1 r63,?_⟩;have u3:=u2.ext x3 (ab _);have hf2:=vK u3 hE hL om om hB om hp hxn hnn hj hjj;refine qq (Z4 e0 e1 e5 e6) (M4 e0 e1 e5 e6) (hf2) λv4 h4 hq=>?_;obtain⟨rfl,x4⟩:=hq;have n3:=x3.nx;have x24:Ext h2.next h2 h4:=x3.trans (x4.mono n3);have ltm2:=m2.lt;have m4:pG h4 mb l2:=m2.cong (x24.gt _ ltm2);obtain⟨h5,w5,m5,o5,u5⟩:=m4.up kE ((hfE E i c[k]:Nat):Int) (.int .i64 (hfE E j c[k]:Nat));refine bU (M1 w5) ?_;have k25:Kp (λc=>c=mb) h2 h5:=(x24.kp (S:=λc=>c=mb) (ab _)).trans (u5.kp (S:=λc=>c=mb) rfl) (λ_ _ q=>q);refine⟨_,⟨m5,k2.trans k25 (λ_ _ q=>q),k12.trans k25 (λ_ _ q=>q),?_⟩,H10 e22 e21 e20 ei en e12 e0 e1 e5 e6⟩;refine t2.step hp (i:=i) ⟨f,c[kp],c[k],c[kn],i,j,hf,by rw[<-hcd];exact tri,hi,hj,hji',hjj,rfl,rfl⟩ hi ?_ ?_
   .rw[<-hcd,hxg,<-hkp,hpg];exact hji'
   .rw[<-hcd,hxg]
  .rintro l2 ts h2 ⟨m2,k2,k12,t2⟩ ⟨e20,ei,en,e12,e0,e1,e5,e6,-⟩;simp only at ei en e12 e0 e1;rw[hcd]at t2;exact⟨l2,⟨m2,k2,t2.next⟩,H5 ei en e12 e0 e1⟩
 .rintro l1 ts h1 ⟨m1,k1,t1⟩ _;exact⟨.tup [],rfl,l1,m1,k1,t1⟩
end Go.Proofs.YtcfncejilmimpaaGreat
namespace Go.Pla
def it(nx:Nat->Nat):Nat->Nat->Nat
 |0,d=>d
 |k+1,d=>nx (it nx k d)
variable {nx:Nat->Nat}{N:Nat}
theorem it_lt(hc:∀d,d<N->nx d<N){d:Nat}(hd:d<N):∀k,it nx k d<N
 |0=>hd
 |k+1=>hc _ (it_lt hc hd k)
theorem NB(a b d:Nat):it nx (a+b) d=it nx a (it nx b d):=by
 induction a with
 |zero=>rw[bX];rfl
 |succ a ih=>rw[show a+1+b=(a+b)+1 by omega];show nx _=nx _;rw[ih]
theorem wi(hc:∀d,d<N->nx d<N)(hi:∀a b,a<N->b<N->nx a=nx b->a=b){a b:Nat}(ha:a<N)(hb:b<N):∀k,it nx k a=it nx k b->a=b
 |0,h=>h
 |k+1,h=>wi hc hi ha hb k (hi _ _ (it_lt hc ha k) (it_lt hc hb k) h)
theorem least{P:Nat->Prop}{q:Nat}(h:P q):∃r,r<=q/\P r/\∀k,k<r->¬P k:=by
 induction q using Nat.strongRecOn with
 |_ q ih =>
   by_cases hk:∃k,k<q/\P k
   .obtain⟨k,h1,h2⟩:=hk;obtain⟨r,a,b,c⟩:=ih k h1 h2;exact⟨r,om,b,c⟩
   .exact⟨q,ab _,h,λk hk' hp=>hk ⟨k,hk',hp⟩⟩
def Back(nx:Nat->Nat)(d r:Nat):Prop:=0<r/\it nx r d=d/\∀k,0<k->k<r->it nx k d≠d
theorem back_of(hc:∀d,d<N->nx d<N)(hi:∀a b,a<N->b<N->nx a=nx b->a=b){d:Nat}(hd:d<N):∃r,r<=N/\Back nx d r:=by
 have h1:∃q,0<q/\q<=N/\it nx q d=d:=by
  refine Classical.byContradiction λhno=>?_;have nd:((List.range (N+1)).map λk=>it nx k d).Nodup:=by
   rw[List.Nodup,dR];refine List.Pairwise.imp_of_mem ?_ (List.pairwise_lt_range (n:=N+1));intro a b ha hb hab he;rw[aB]at ha hb;obtain⟨k,rfl⟩:∃k,b=k+a:=⟨b-a,om⟩
   rw[show k+a=a+k by omega,NB]at he;have:=wi hc hi hd (it_lt hc hd k) a he;exact hno ⟨k,om,om,this.symm⟩
  have:=nd_lt nd (n:=N) λx hx=>by
   obtain⟨k,_,rfl⟩:=bh.1 hx;exact it_lt hc hd k
  rw[ah,bH]at this;omega
 obtain⟨q,h2,h3,h4⟩:=h1;obtain⟨r,a,b,c⟩:=least (P:=λq=>0<q/\it nx q d=d) ⟨h2,h4⟩;exact⟨r,om,b.1,b.2,λk hk hkr he=>c k hkr ⟨hk,he⟩⟩
def orb(nx:Nat->Nat)(d r:Nat):List Nat:=(List.range r).map λk=>it nx k d
theorem orb_len{d r:Nat}:(orb nx d r).length=r:=by simp[orb]
theorem orb_succ{d k:Nat}:orb nx d (k+1)=orb nx d k++[it nx k d]:=by
 rw[orb,dl,dm];rfl
end Go.Pla
namespace Go.Proofs.YtcfncejilmimpaaGreat
open Go.Am
open Go.Pla (it orb Back orb_succ orb_len)
set_option maxHeartbeats 2000000 in
theorem Bn{h:AH}{lo mb N r d:Nat}{lv:AV}{xs:List Nat}{l:List (Int×AV)}{nx:Nat->Nat}(hl:IsSl h 1 lo lv (nC xs))(hlo:lo<=h.next)(hm:pG h mb l)(hc:∀d,d<N->nx d<N)(hk:∀d,d<N->lkG l ((d:Nat):Int)=some (.int .i64 (nx d:Nat)))(hd:d<N)(hb:Back nx d r)(hx:xs.length+r<2^34) :
 C prg 25 [lv,.int .i64 (d:Nat),.mp mb] h λv h'=>IsSl h' 1 lo v (nC (xs++orb nx d r))/\Ext lo h h'/\h.next<=h'.next/\(∀c,c<h.next->(∀b n,lv=.sl b 0 n n->c≠b)->h'.get c=h.get c)/\∀b n,v=.sl b 0 n n->h.next<=b:=by
 have kE:KeyE .ki (λk:Int=>AV.int .i64 k):=xQ;have hmb:∀b n,lv=.sl b 0 n n->mb≠b:=λb n e=>by
  rintro rfl;obtain⟨es,c,g,_⟩:=hm;rcases hl with⟨h1,_⟩|⟨b',m,_,h1,h2,_⟩
  .rw[h1]at e;cases e
  .rw[h1]at e;cases e;rw[g]at h2;cases h2
 refine Oj pf25 ?_;refine ai (aE (Mi0) ?_);refine ai (aE (Mi0) ?_);refine cZ (gY (λm ts h'=>∃k v,m=r-k/\k<r/\bt ts 0=v/\bt ts 1=.int .i64 (d:Nat)/\bt ts 2=.mp mb/\bt ts 7=.int .i64 (it nx k d:Nat)/\IsSl h' 1 lo v (nC (xs++orb nx d k))/\Ext lo h h'/\h.next<=h'.next/\(∀c,c<h.next->(∀b n,lv=.sl b 0 n n->c≠b)->h'.get c=h.get c)/\∀b n,v=.sl b 0 n n->(v=lv\/h.next<=b)) ?_ (n:=r) ⟨0,lv,rfl,hb.1,Zi0,Zi0,Zi0,by simp only[am,aJ,simprocAttr,bL];rfl,by simpa[orb]using hl,Oh,ab _,λ_ _ _=>rfl,λ_ _ _=>.inl rfl⟩);rintro m ts h1 ⟨k,v,rfl,hkr,e0,e1,e2,e7,i1,x1,n1,fr,nw⟩;refine cZ ?_;obtain⟨v',h2,a2,i2,x2,n2,fr2,nw2⟩:=IsSl.grow i1 om (by rw[aG,orb_len];omega) (it nx k d);refine ai (bW (λts h'=>h'=h2/\bt ts 0=v'/\bt ts 1=.int .i64 (d:Nat)/\bt ts 2=.mp mb/\bt ts 7=.int .i64 (it nx k d:Nat)) (by simp only[am,aJ,simprocAttr,e0,e1,e2,e7,a2]) ?_);rintro ts h2' ⟨rfl,e0,e1,e2,e7⟩;have hkN:=Go.Pla.it_lt hc hd k;have frT:∀c,c<h.next->(∀b n,lv=.sl b 0 n n->c≠b)->h2'.get c=h.get c:=λc hcl hno=>by
  rw[fr2 c om λb n e=>?_,fr c hcl hno];rcases nw b n e with q|q
  .exact hno b n (q▸e)
  .omega
 have m2:pG h2' mb l:=hm.cong (frT mb hm.lt hmb);have lk:=m2.look kE (.int .i64 0) ((it nx k d:Nat):Int);rw[hk _ hkN,eu]at lk;refine ai (bW (λts h'=>h'=h2'/\bt ts 0=v'/\bt ts 1=.int .i64 (d:Nat)/\bt ts 2=.mp mb/\bt ts 7=.int .i64 (it nx (k+1) d:Nat)) (by simp only[am,aJ,simprocAttr,e0,e1,e2,e7,lk];rfl) ?_);rintro ts h3 ⟨rfl,e0,e1,e2,e7⟩;rw[cn,<-orb_succ]at i2;by_cases q:it nx (k+1) d=d
 .have dq:decide (((it nx (k+1) d:Nat):Int)=((d:Nat):Int))=true:=by rw[decide_eq_true_iff,q]
  refine ai (aE (M3 e1 e7 dq) ?_);refine cI (Z1 dq) ?_;refine ai (aE (M1 e0) ?_);have:k+1=r:=by
   rcases dZ (k+1) r with h1|h1
   .exact absurd q (hb.2.2 _ om h1)
   .omega
  subst this;exact bP ⟨v',(by simp only[rs,rf25,am,aJ,simprocAttr,e0]<;>rfl),i2,x1.trans x2,om,frT,λb n e=>by have:=nw2 b n e;omega⟩
 .have dq:decide (((it nx (k+1) d:Nat):Int)=((d:Nat):Int))=false:=by rw[be];omega
  refine ai (bW (λts h'=>h'=h3/\bt ts 0=v'/\bt ts 1=.int .i64 (d:Nat)/\bt ts 2=.mp mb/\bt ts 7=.int .i64 (it nx (k+1) d:Nat)/\bt ts 18=.bool false) (by simp only[am,aJ,simprocAttr,e0,e1,e2,e7,dq]) ?_);rintro ts h4 ⟨rfl,e0,e1,e2,e7,e18⟩;refine dJ (Z1 e18) (bM ?_);have hlt:k+1<r:=by
   rcases dZ (k+1) r with h1|h1
   .exact h1
   .exfalso;have:k+1=r:=om;rw[this]at q;exact q hb.2.1
  exact⟨r-(k+1),om,k+1,v',rfl,hlt,e0,e1,e2,e7,i2,x1.trans x2,om,frT,λb n e=>.inr (by have:=nw2 b n e;omega)⟩
end Go.Proofs.YtcfncejilmimpaaGreat
