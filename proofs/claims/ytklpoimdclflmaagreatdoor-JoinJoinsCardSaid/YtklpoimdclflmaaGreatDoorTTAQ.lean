/- arborref04.Block -/
import Derived.Test.YtklpoimdclflmaaGreatDoorTTAL
set_option linter.all false
namespace Go.Proofs.YtklpoimdclflmaaGreatDoor
open Go.Am
open Go.Blk (Gr Lst Cls)
def FH{h:AH}{z1 z2 c1 c2:List AV}{e1 e2:Nat}(l1:z1.length=c1.length)(l2:z2.length=c2.length) :
 ∃h1 h2,bP ((((h.keep 2).put h.next (.cells z1 e1 false)).put (h.next+1) (.cells z2 e2 false))) h.next 0 c1=some h1/\bP h1 (h.next+1) 0 c2=some h2 /\
   Ext h.next h h1/\Ext h.next h h2/\h2.get h.next=some (.cells c1 e1 false)/\h2.get (h.next+1)=some (.cells c2 e2 false)/\h2.next=h.next+2:=by
 have hn:(h.keep 2).next=h.next+2:=AH.keep_next 2 h;have kg:∀c,(((h.keep 2).put h.next (.cells z1 e1 false)).put (h.next+1) (.cells z2 e2 false)).get c=if c=h.next+1 then some (.cells z2 e2 false)else if c=h.next then some (.cells z1 e1 false)else(h.keep 2).get c:=λc=>by
  rw[AH.get_put _ _ _ _ (by rw[AH.next_put,hn];omega),AH.get_put _ _ _ _ (by rw[hn];omega)];simp only[eq_comm (a:=c)]
 have kn:(((h.keep 2).put h.next (.cells z1 e1 false)).put (h.next+1) (.cells z2 e2 false)).next=h.next+2:=by rw[AH.next_put,AH.next_put,hn]
 have kx:Ext h.next h (((h.keep 2).put h.next (.cells z1 e1 false)).put (h.next+1) (.cells z2 e2 false)):=⟨by rw[kn];omega,λc hc=>by rw[kg,if_neg om,if_neg om,AH.keep_get,if_neg om],λc hc=>Oc 2 h⟩
 generalize (((h.keep 2).put h.next (.cells z1 e1 false)).put (h.next+1) (.cells z2 e2 false))=k at *
 have g1:k.get h.next=some (.cells z1 e1 false):=by rw[kg,if_neg om,if_pos rfl]
 have g2:k.get (h.next+1)=some (.cells z2 e2 false):=by rw[kg,if_pos rfl]
 have u1:=Oi (o:=.cells c1 e1 false) g1;have g2':(k.put h.next (.cells c1 e1 false)).get (h.next+1)=some (.cells z2 e2 false):=by rw[u1.ne om];exact g2
 have u2:=Oi (o:=.cells c2 e2 false) g2';have sp:∀{z c:List AV},z.length=c.length->dG z 0 c=c:=fun {z c} hl=>by
  simp only[dG,eD,cr,bN];rw[dy om,bF]
 refine⟨k.put h.next (.cells c1 e1 false),(k.put h.next (.cells c1 e1 false)).put (h.next+1) (.cells c2 e2 false),?_,?_,kx.trans (u1.ext (ab _)),(kx.trans (u1.ext (ab _))).trans (u2.ext om),by rw[u2.ne om];exact u1.get,u2.get,by rw[u2.nx,u1.nx,kn]⟩
 .rw[dw g1,if_pos om,sp l1]
 .rw[dw g2',if_pos om,sp l2]
def yA{k:IntKind}{a b:Int}:lR mnA [.int k a,.int k b]=some (.int k (if b<a then b else a)):=by
 simp[lR,mnA]
def ER{k k':IntKind}{a b:Int}:AV.same (.agg [.int k a,.int k' b]) (.agg [.int k a,.int k' b])=true:=by
 simp[AV.same,AV.sames]
def xz{ev:RO->AV}{h:AH}{n e:Nat}{z:List AV}(hg:h.get n=some .resv):iV ev h n (.new z e)=some (.ptr n 0,h.put n (.cells z e false)):=by
 rw[lU hg];rfl
set_option maxHeartbeats 2000000 in
def Fm{h:AH}{n:Nat}{ev:AV}{E:List (Int×Int)}(he:SlE h ev E)(hE:InG n E)(hL:∀i,i<E.length->tlE E i≠hdE E i)(hxl:E.length<2^30)(hnl:n<2^30) :
 C prg 75 [.agg (gW n ev)] h λr h'=>∃b l,r=.sl b 0 E.length E.length/\h.next<=b/\Ext h.next h h'/\h'.get b=some (.cells (il E.length λi=>((l i:Nat):Int)) 1 false)/\Lst (grE n E hE hL) l:=by
 have el:=he.len;rw[ah]at el;obtain⟨ec,eo⟩:=he.cells;have hPa:∀{h':AH}{ob:Nat}{o:Nat->Bool},SlE h' ev E->h'.get ob=some (.cells (bl n o) 1 false)->_:=fun {h' ob o} q1 q2=>Fa (n:=n) (o:=o) q1 hE om hnl q2;unfold gW at hPa |-;refine Oj rfl ?_;refine ae (ak (Mi0) ?_);have ga:∀c,(h.new (.cells [.int .i64 (n:Nat),ev] 2 false)).get c=if c=h.next then some (.cells [.int .i64 (n:Nat),ev] 2 false)else h.get c:=λc=>by
  rw[AH.get_new]
 have x0:Ext h.next h (h.new (.cells [.int .i64 (n:Nat),ev] 2 false)):=Oe (ab _);have n0:(h.new (.cells [.int .i64 (n:Nat),ev] 2 false)).next=h.next+1:=rfl;generalize (h.new (.cells [.int .i64 (n:Nat),ev] 2 false))=h1 at *
 have gA:h1.get h.next=some (.cells [.int .i64 (n:Nat),ev] 2 false):=by rw[ga,if_pos rfl]
 have rE:ai h1 h.next 1 1=some [ev]:=bq gA rfl;refine ae (ak (Mi2 rE el) ?_);have mu:=lN (h:=h1) (z:=[.int .i64 0]) (e:=1) (bytes:=8) (n:=E.length) (by unfold bf;omega) (by unfold bf;omega);have x3:Ext h1.next h1 (h1.new (.cells (cq [.int .i64 0] E.length) 1 false)):=Oe (ab _);have g3:(h1.new (.cells (cq [.int .i64 0] E.length) 1 false)).get h1.next=some (.cells (cq [.int .i64 0] E.length) 1 false):=by rw[AH.get_new,if_pos rfl]
 have n3:(h1.new (.cells (cq [.int .i64 0] E.length) 1 false)).next=h1.next+1:=rfl;refine ae (ak (Mi1 mu) ?_);generalize (h1.new (.cells (cq [.int .i64 0] E.length) 1 false))=h2 at *
 rw[yL,n0]at g3;rw[n0]at x3 n3;clear mu;have X2:Ext h.next h h2:=x0.trans (x3.mono om);have gA2:h2.get h.next=some (.cells [.int .i64 (n:Nat),ev] 2 false):=by rw[x3.gt _ om];exact gA
 refine ae (ae (ak (Mi1 n0) ?_))
 refine dX (α:=Unit) (N:=E.length) (λk _=>[(1,.ptr h.next 0),(3,.int .i64 (E.length:Nat)),(4,.sl (h.next+1) 0 E.length E.length),(5,.int .i64 (k:Nat))])
  (λk _ h'=>Ext h.next h h'/\h.next+2<=h'.next/\h'.get h.next=some (.cells [.int .i64 (n:Nat),ev] 2 false)/\h'.get (h.next+1)=some (.cells (il E.length λi=>if i<k then((i:Nat):Int)else 0) 1 false)) () (Hi2 n0 @bh)
  ⟨X2,om,gA2,by rw[g3];simp⟩ ?_ ?_ ?_
 .rintro k _ ts h5 hk _ ⟨e1,e3,e4,e5,-⟩;simp only at e1 e3 e4 e5;exact⟨_,(M3 e3 e5 @bE),Z0,H4 e1 e3 e4 e5⟩
 .rintro k _ ts h5 hk ⟨jx,jn,jA,j⟩ ⟨e1,e3,e4,e5,-⟩;simp only at e1 e3 e4 e5;have w1:=dW (k:=k) om;have ii:fe ((k:Nat):Int) E.length=some k:=cK hk;have wu:=ew (v:=.int .i64 (k:Nat)) j (i:=k) (by rw[jM];exact hk);have uu:=Oi (o:=.cells ((il E.length λi=>if i<k then((i:Nat):Int)else 0).set k (.int .i64 (k:Nat))) 1 false) j;refine ak (M5 e4 e5 ii @aP wu) ?_;refine⟨(),⟨jx.trans (uu.ext om),by rw[uu.nx];omega,by rw[uu.ne om];exact jA,?_⟩,_,(M2 e5 w1),H3 e1 e3 e4⟩;rw[uu.get,mE];congr 2;refine lO λi _=>?_;by_cases e:i=k
  .subst e;rw[if_pos rfl,if_pos om]
  .rw[if_neg e];by_cases e2:i<k
   .rw[if_pos e2,if_pos om]
   .rw[if_neg e2,if_neg om]
 rintro _ ts h5 ⟨jx,jn,jA,j⟩ ⟨e1,e3,e4,e5,-⟩;simp only at e1 e3 e4;have j':h5.get (h.next+1)=some (.cells (il E.length λi=>((i:Nat):Int)) 1 false):=by
  rw[j];congr 2;exact lO λi hi=>by rw[if_pos hi]
 clear j g3 gA2 gA;refine ae (ae (ak (M0) ?_))
 refine dl (hG (λN ts h'=>∃(l:Nat->Nat) (more:Bool),Held [(1,.ptr h.next 0),(3,.int .i64 (E.length:Nat)),(4,.sl (h.next+1) 0 E.length E.length),(6,.bool more)] ts/\Ext h.next h h'/\h.next+2<=h'.next/\h'.get h.next=some (.cells [.int .i64 (n:Nat),ev] 2 false) /\
  h'.get (h.next+1)=some (.cells (il E.length λi=>((l i:Nat):Int)) 1 false)/\InvL (grE n E hE hL) l/\((more=true/\N=tP E.length l+1)\/(more=false/\N=0/\Lst (grE n E hE hL) l))) ?_ (n:=tP E.length (λi=>i)+1)
  ⟨λi=>i,true,H3 e1 e3 e4,jx,jn,jA,j',⟨λi _=>.refl,λi _=>ab _⟩,.inl ⟨rfl,rfl⟩⟩)
 clear e1 e3 e4 e5;rintro N ts h6 ⟨l,more,⟨e1,e3,e4,e6,-⟩,kx,kn,kA,k,inv,hm⟩;simp only at e1 e3 e4 e6;rcases hm with⟨rfl,rfl⟩|⟨rfl,rfl,lst⟩
 .refine ae (ae (ak (M1 e6) ?_));refine cZ (Z0) (bz (dl ?_));refine ae (ak (M0) ?_);refine ae (ak (M0) ?_);generalize hg:grE n E hE hL=g at inv;have gm:g.m=E.length:=by rw[<-hg];rfl
  have gn:g.n=n:=by rw[<-hg];rfl
  refine dX (α:=(Nat->Nat)×Bool) (N:=n) (λx a=>[(1,.ptr h.next 0),(3,.int .i64 (E.length:Nat)),(4,.sl (h.next+1) 0 E.length E.length),(6,.bool a.2),(7,.int .i64 (x:Nat))])
   (λx a h'=>Ext h.next h h'/\h.next+2<=h'.next/\h'.get h.next=some (.cells [.int .i64 (n:Nat),ev] 2 false)/\h'.get (h.next+1)=some (.cells (il E.length λi=>((a.1 i:Nat):Int)) 1 false)/\Rnd g l a.1 a.2 λx' _ _=>x'<x) (l,false) (H4 e1 e3 e4 @bh)
   ⟨kx,kn,kA,k,inv,λ_ _=>ab _,λe=>(by cases e),λ_=>⟨λ_ _=>rfl,λx i k hd=>absurd hd (gz _)⟩⟩ ?_ ?_ ?_
  .clear e1 e3 e4 e6;rintro x ⟨l',more⟩ ts h7 hx ⟨jx,jn,jA,j,rd⟩ ⟨e1,e3,e4,e6,e7,-⟩;simp only at e1 e3 e4 e6 e7;have rN:ai h7 h.next 0 1=some [.int .i64 (n:Nat)]:=bq jA rfl;exact⟨_,(M4 e1 e7 rN @bE),Z0,H5 e1 e3 e4 e6 e7⟩
  .clear e1 e3 e4 e6;rintro x ⟨l',more⟩ ts h7 hx ⟨jx,jn,jA,j,rd⟩ ⟨e1,e3,e4,e6,e7,-⟩;simp only at e1 e3 e4 e6 e7 j rd;have w7:=dW (k:=x) om;have rN:ai h7 h.next 0 1=some [.int .i64 (n:Nat)]:=bq jA rfl;have mu:=lN (h:=h7) (z:=[.bool false]) (e:=1) (bytes:=1) (n:=n) (by unfold bf;omega) (by unfold bf;omega);have x8:Ext h7.next h7 (h7.new (.cells (cq [.bool false] n) 1 false)):=Oe (ab _);have g8:(h7.new (.cells (cq [.bool false] n) 1 false)).get h7.next=some (.cells (cq [.bool false] n) 1 false):=by rw[AH.get_new,if_pos rfl]
   have n8:(h7.new (.cells (cq [.bool false] n) 1 false)).next=h7.next+1:=rfl;refine ae (ak (M3 e1 rN mu) ?_);generalize (h7.new (.cells (cq [.bool false] n) 1 false))=h8 at *
   rw[zi]at g8;clear mu;have i0:fe ((x:Nat):Int) n=some x:=cK hx;have w0:=ew (v:=.bool true) g8 (i:=x) (by rw[nZ];exact hx);have u0:=Oi (o:=.cells ((bl n λ_=>false).set x (.bool true)) 1 false) g8;refine ae (ak (M4 e7 i0 @aP w0) ?_);generalize (h8.put h7.next (.cells ((bl n λ_=>false).set x (.bool true)) 1 false))=h9 at *
   have x9:Ext h7.next h7 h9:=x8.trans (u0.ext (ab _));have n9:h9.next=h7.next+1:=by rw[u0.nx,n8]
   have X9:Ext h.next h h9:=jx.trans (x9.mono om);have gA9:h9.get h.next=some (.cells [.int .i64 (n:Nat),ev] 2 false):=by rw[x9.gt _ om];exact jA
   have j9:h9.get (h.next+1)=some (.cells (il E.length λi=>((l' i:Nat):Int)) 1 false):=by rw[x9.gt _ om];exact j
   have g9:h9.get h7.next=some (.cells (bl n λv=>decide (v=x)) 1 false):=by
    rw[u0.get,qO];congr 2
   have rA9:ai h9 h.next 0 2=some [.int .i64 (n:Nat),ev]:=by rw[aR gA9];rfl
   refine ae (bM (bj 2 (M2 e1 rA9) rfl (Z2 e1 rA9) (M2 e1 rA9) (hPa (he.ext X9 (ab _)) g9) λpv h10 hq=>?_));obtain⟨x10,pi⟩:=hq;refine bI (M0) ?_;refine ae (ak (M0) ?_);have n10:=x10.nx;have X10:Ext h.next h h10:=X9.trans (x10.mono om);have gA10:h10.get h.next=some (.cells [.int .i64 (n:Nat),ev] 2 false):=by rw[x10.gt _ om];exact gA9
   have j10:h10.get (h.next+1)=some (.cells (il E.length λi=>((l' i:Nat):Int)) 1 false):=by rw[x10.gt _ om];exact j9
   refine dX (α:=(Nat->Nat)×Bool) (N:=E.length) (λi a=>[(1,.ptr h.next 0),(3,.int .i64 (E.length:Nat)),(4,.sl (h.next+1) 0 E.length E.length),(6,.bool a.2),(7,.int .i64 (x:Nat)),(9,pv),(10,.int .i64 (i:Nat))])
    (λi a h'=>Ext h.next h h'/\h.next+2<=h'.next/\h'.get h.next=some (.cells [.int .i64 (n:Nat),ev] 2 false)/\h'.get (h.next+1)=some (.cells (il E.length λi=>((a.1 i:Nat):Int)) 1 false)/\IsSl h' 1 h9.next pv (rH n E (λv=>decide (v=x)) n) /\
     Rnd g l a.1 a.2 λx' i' _=>x'<x\/(x'=x/\i'<i)) (l',more) (H6 e1 e3 e4 e6 e7 @bh)
    ⟨X10,om,gA10,j10,pi,rd.keep λx' i' k' hd=>.inl om⟩ ?_ ?_ ?_
   .clear e1 e3 e4 e6 e7 rd j j9 j10;rintro i ⟨l1,mo⟩ ts h11 hi ⟨jx,jn,jA,j,pi,rd⟩ ⟨e1,e3,e4,e6,e7,e9,e10,-⟩;simp only at e1 e3 e4 e6 e7 e9 e10;exact⟨_,(M3 e3 e10 @bE),Z0,H7 e1 e3 e4 e6 e7 e9 e10⟩
   .clear e1 e3 e4 e6 e7 rd j j9 j10;rintro i ⟨l1,mo⟩ ts h11 hi ⟨jx,jn,jA,j,pi,rd⟩ ⟨e1,e3,e4,e6,e7,e9,e10,-⟩;simp only at e1 e3 e4 e6 e7 e9 e10 j rd;have w10:=dW (k:=i) om;refine ae (ak (M0) ?_)
    refine dX (α:=(Nat->Nat)×Bool) (N:=E.length) (λk a=>[(1,.ptr h.next 0),(3,.int .i64 (E.length:Nat)),(4,.sl (h.next+1) 0 E.length E.length),(6,.bool a.2),(7,.int .i64 (x:Nat)),(9,pv),(10,.int .i64 (i:Nat)),(11,.int .i64 (k:Nat))])
     (λk a h'=>Ext h.next h h'/\h.next+2<=h'.next/\h'.get h.next=some (.cells [.int .i64 (n:Nat),ev] 2 false)/\h'.get (h.next+1)=some (.cells (il E.length λi=>((a.1 i:Nat):Int)) 1 false)/\IsSl h' 1 h9.next pv (rH n E (λv=>decide (v=x)) n) /\
      Rnd g l a.1 a.2 λx' i' k'=>x'<x\/(x'=x/\(i'<i\/(i'=i/\k'<k)))) (l1,mo) (H8 e1 e3 e4 e6 e7 e9 e10 @bh)
     ⟨jx,jn,jA,j,pi,rd.keep λx' i' k' hd=>.inl om⟩ ?_ ?_ ?_
    .clear e1 e3 e4 e6 e7 e9 e10 rd j;rintro k ⟨l1,mo⟩ ts h11 hk ⟨jx,jn,jA,j,pi,rd⟩ ⟨e1,e3,e4,e6,e7,e9,e10,e11,-⟩;simp only at e1 e3 e4 e6 e7 e9 e10 e11;exact⟨_,(M3 e3 e11 @bE),Z0,H8 e1 e3 e4 e6 e7 e9 e10 e11⟩
    .clear e1 e3 e4 e6 e7 e9 e10 rd j;rintro k ⟨l1,mo⟩ ts h11 hk ⟨jx,jn,jA,j,pi,rd⟩ ⟨e1,e3,e4,e6,e7,e9,e10,e11,-⟩;simp only at e1 e3 e4 e6 e7 e9 e10 e11 j rd;have w11:=dW (k:=k) om;obtain⟨qi1,qi2,qi3⟩:=hE i hi;obtain⟨qk1,qk2,qk3⟩:=hE k hk;have hkK:∀c,c<h11.next->(h11.keep 2).get c=h11.get c:=λc hc=>by rw[AH.keep_get,if_neg om]
     have q7:(h11.keep 2).get h11.next=some .resv:=by rw[AH.keep_get,if_pos ⟨om,om⟩]
     have q8:((h11.keep 2).put h11.next (.cells [.int .i64 0,.int .i64 0] 2 false)).get (h11.next+1)=some .resv:=by
      have nK:(h11.keep 2).next=h11.next+2:=AH.keep_next 2 h11;rw[AH.get_put _ _ _ _ (by rw[nK];omega),if_neg om,AH.keep_get,if_pos ⟨om,om⟩]
     have he11:=he.ext jx (ab _);obtain⟨b1,p1,a1,r1,_,lb1⟩:=he11.at (cm (f:=eE) hi);obtain⟨b2,p2,a2,r2,_,lb2⟩:=he11.at (cm (f:=eE) hk);rw[qi1]at r1;rw[qk1]at r2;obtain⟨h12,h13,w12,w13,y12,y13,ga,gb,n13⟩:=FH (h:=h11) (z1:=[.int .i64 0,.int .i64 0]) (z2:=[.int .i64 0,.int .i64 0]) (c1:=[.int .i64 (tlE E i:Nat),.int .i64 (hdE E i:Nat)]) (c2:=[.int .i64 (tlE E k:Nat),.int .i64 (hdE E k:Nat)]) (e1:=2) (e2:=2) rfl rfl;have rEK:ai (h11.keep 2) h.next 1 1=some [ev]:=by rw[bi (hkK _ om)];exact bq jA rfl
     have r1K:ai (h11.keep 2) b1 p1 2=some [.int .i64 (tlE E i:Nat),.int .i64 (hdE E i:Nat)]:=by rw[bi (hkK _ lb1)];exact r1
     have r2K:ai (h11.keep 2) b2 p2 2=some [.int .i64 (tlE E k:Nat),.int .i64 (hdE E k:Nat)]:=by rw[bi (hkK _ lb2)];exact r2
     have rE12:ai h12 h.next 1 1=some [ev]:=by rw[bi (y12.gt _ om)];exact bq jA rfl
     have r212:ai h12 b2 p2 2=some [.int .i64 (tlE E k:Nat),.int .i64 (hdE E k:Nat)]:=by rw[bi (y12.gt _ lb2)];exact r2
     have sv:ev.same ev=true:=by rcases he with⟨_,rfl|rfl⟩|⟨b,o,c,cs,ro,rfl,_⟩<;>first|rfl|exact lf
     have sp:=ER (k:=.i64) (k':=.i64) (a:=((tlE E k:Nat):Int)) (b:=((hdE E k:Nat):Int));refine ae (lY (by simp only[am,aL,simprocAttr,e1,e10,e11,sv,sp,te,rEK,a1,r1K,a2,r2K,eE,eA,xz q7,xz q8,w12,w13,rE12,r212]<;>rfl) ?_);have X13:Ext h.next h h13:=jx.trans (y13.mono om);have gA13:h13.get h.next=some (.cells [.int .i64 (n:Nat),ev] 2 false):=by rw[y13.gt _ om];exact jA
     have j13:h13.get (h.next+1)=some (.cells (il E.length λi=>((l1 i:Nat):Int)) 1 false):=by rw[y13.gt _ om];exact j
     have pi13:=pi.ext y13 (ab _);have ra0:ai h13 h11.next 0 1=some [.int .i64 (tlE E i:Nat)]:=bq ga rfl;have ra1:ai h13 h11.next 1 1=some [.int .i64 (hdE E i:Nat)]:=bq ga rfl;have rb0:ai h13 (h11.next+1) 0 1=some [.int .i64 (tlE E k:Nat)]:=bq gb rfl;have rb1:ai h13 (h11.next+1) 1 1=some [.int .i64 (hdE E k:Nat)]:=bq gb rfl;have inc_i:g.inc i x↔(tlE E i=x\/hdE E i=x):=by rw[<-hg];exact⟨λq=>q.2,λq=>⟨hi,q⟩⟩
     have inc_k:g.inc k x↔(tlE E k=x\/hdE E k=x):=by rw[<-hg];exact⟨λq=>q.2,λq=>⟨hk,q⟩⟩
     have out:¬Lk g x i k->Rnd g l l1 mo (λx' i' k'=>x'<x\/(x'=x/\(i'<i\/(i'=i/\k'<k))))->Rnd g l l1 mo (λx' i' k'=>x'<x\/(x'=x/\(i'<i\/(i'=i/\k'<k+1)))):=λhn r=>r.keep λx' i' k' hd=>by
      by_cases q:x'=x/\i'=i/\k'=k
      .obtain⟨rfl,rfl,rfl⟩:=q;exact .inr λlk=>absurd lk hn
      .exact .inl om
     have pS:SlI h13 pv ((List.range n).map (fK n E λv=>decide (v=x))):=Ob (f:=eI) om (λ_=>rfl) pi13;have pAt:∀u,u<n->∃b q,jZ 1 pv (.int .i64 (u:Nat))=some (.ptr b q)/\ai h13 b q 1=some [.int .i64 (fK n E (λv=>decide (v=x)) u)]:=λu hu=>by
      obtain⟨b,q,a,r,_⟩:=pS.at1 (cm (f:=eI) (i:=u) (by rw[ah,cw];exact hu));refine⟨b,q,a,?_⟩;rw[dz,List.getElem_range]at r;exact r
     have ii:fe ((i:Nat):Int) E.length=some i:=cK hi;have ik:fe ((k:Nat):Int) E.length=some k:=cK hk;have rsi:ai h13 (h.next+1) i 1=some [.int .i64 (l1 i:Nat)]:=bq j13 (lP hi);have rsk:ai h13 (h.next+1) k 1=some [.int .i64 (l1 k:Nat)]:=bq j13 (lP hk);have wi1:IntKind.i64.wrap (((tlE E i:Nat):Int)+((hdE E i:Nat):Int))=((tlE E i:Nat):Int)+((hdE E i:Nat):Int):=fU om om;have wk1:IntKind.i64.wrap (((tlE E k:Nat):Int)+((hdE E k:Nat):Int))=((tlE E k:Nat):Int)+((hdE E k:Nat):Int):=fU om om;by_cases ti:tlE E i=x
     .have c1:decide (((tlE E i:Nat):Int)=((x:Nat):Int))=true:=aH om;by_cases tk:tlE E k=x
      .have c3:decide (((tlE E k:Nat):Int)=((x:Nat):Int))=true:=aH om;have eu:((tlE E i:Nat):Int)+((hdE E i:Nat):Int)-((x:Nat):Int)=((hdE E i:Nat):Int):=om;have ek:((tlE E k:Nat):Int)+((hdE E k:Nat):Int)-((x:Nat):Int)=((hdE E k:Nat):Int):=om;have wi2:IntKind.i64.wrap (((tlE E i:Nat):Int)+((hdE E i:Nat):Int)-((x:Nat):Int))=((hdE E i:Nat):Int):=by rw[eu];exact fU om om
       have wk2:IntKind.i64.wrap (((tlE E k:Nat):Int)+((hdE E k:Nat):Int)-((x:Nat):Int))=((hdE E k:Nat):Int):=by rw[ek];exact fU om om
       obtain⟨b3,q3,a3,r3⟩:=pAt (hdE E i) om;obtain⟨b4,q4,a4,r4⟩:=pAt (hdE E k) om;refine ae (ae (ak (M5 e7 ra0 rb0 c1 c3) ?_));refine dC (Z0) (bz ?_);by_cases qp:fK n E (λv=>decide (v=x)) (hdE E i)=fK n E (λv=>decide (v=x)) (hdE E k)
       .have cp:decide (fK n E (λv=>decide (v=x)) (hdE E i)=fK n E (λv=>decide (v=x)) (hdE E k))=true:=aH qp;by_cases qs:l1 i=l1 k
        .have cs:decide (((l1 i:Nat):Int)=((l1 k:Nat):Int))=true:=aH om;refine ae (ak (by simp only[am,aL,simprocAttr,e4,e7,e9,e10,e11,ra0,ra1,rb0,rb1,wi1,wi2,wk1,wk2,a3,r3,a4,r4,ii,ik,aP,rsi,rsk,cp,cs]<;>rfl) ?_);refine dC (Z0) (bz ?_);refine⟨(l1,mo),⟨X13,om,gA13,j13,pi13,rd.keep λx' i' k' hd=>?_⟩,_,(M2 e11 w11),H7 e1 e3 e4 e6 e7 e9 e10⟩;by_cases q:x'=x/\i'=i/\k'=k
         .obtain⟨rfl,rfl,rfl⟩:=q;exact .inr λ_=>qs
         .exact .inl om
        .have cs:decide (((l1 i:Nat):Int)=((l1 k:Nat):Int))=false:=aw om;refine ae (ak (by simp only[am,aL,simprocAttr,e4,e7,e9,e10,e11,ra0,ra1,rb0,rb1,wi1,wi2,wk1,wk2,a3,r3,a4,r4,ii,ik,aP,rsi,rsk,cp,cs]<;>rfl) ?_);refine cZ (Z0) ?_;have em:(if ((l1 k:Nat):Int)<((l1 i:Nat):Int)then((l1 k:Nat):Int)else((l1 i:Nat):Int))=((min (l1 i) (l1 k):Nat):Int):=by split<;>omega
         refine ae (ak (M10 e4 e10 e11 ii ik @aP rsi rsk @yA em) ?_);have hLi:=hL i hi;have hLk:=hL k hk;have lk:Lk g x i k:=by
          refine⟨inc_i.2 om,inc_k.2 om,?_⟩;have cc:=(iO hE hL (x:=x) (u:=hdE E i) (v:=hdE E k) om om om om).1 qp;rw[<-hg,show(grE n E hE hL).oth i x=hdE E i from (by show tlE E i+hdE E i-x=_;omega),show(grE n E hE hL).oth k x=hdE E k from (by show tlE E k+hdE E k-x=_;omega)];exact cc
         have wa:=ew (v:=.int .i64 (min (l1 i) (l1 k):Nat)) j13 (i:=i) (by rw[jM];exact hi);have ua:=Oi (o:=.cells ((il E.length λi=>((l1 i:Nat):Int)).set i (.int .i64 (min (l1 i) (l1 k):Nat))) 1 false) j13;refine ae (ak (M5 e4 e10 ii @aP wa) ?_);generalize (h13.put (h.next+1) (.cells ((il E.length λi=>((l1 i:Nat):Int)).set i (.int .i64 (min (l1 i) (l1 k):Nat))) 1 false))=h14 at *
         have wb:=ew (v:=.int .i64 (min (l1 i) (l1 k):Nat)) ua.get (i:=k) (by rw[cx,jM];exact hk);have ub:=Oi (o:=.cells (((il E.length λi=>((l1 i:Nat):Int)).set i (.int .i64 (min (l1 i) (l1 k):Nat))).set k (.int .i64 (min (l1 i) (l1 k):Nat))) 1 false) ua.get;refine ae (ak (M5 e4 e11 ik @aP wb) ?_);generalize (h14.put (h.next+1) (.cells (((il E.length λi=>((l1 i:Nat):Int)).set i (.int .i64 (min (l1 i) (l1 k):Nat))).set k (.int .i64 (min (l1 i) (l1 k):Nat))) 1 false))=h15 at *
         refine ak (M0) ?_;refine⟨(upL l1 i k,true),⟨(X13.trans (ua.ext om)).trans (ub.ext om),by rw[ub.nx,ua.nx];omega,by rw[ub.ne om,ua.ne om];exact gA13,?_,(pi13.upd ua om).upd ub om,rd.up lk qs⟩,_,(M2 e11 w11),H6 e1 e3 e4 e7 e9 e10⟩;rw[ub.get,mE,mE];congr 2;refine lO λv _=>?_;show _=((upL l1 i k v:Nat):Int)
         unfold upL;by_cases p1:v=k
         .rw[if_pos p1,if_pos p1]
         .rw[if_neg p1,if_neg p1];by_cases p2:v=i
          .rw[if_pos p2,if_pos p2]
          .rw[if_neg p2,if_neg p2]
       .have cp:decide (fK n E (λv=>decide (v=x)) (hdE E i)=fK n E (λv=>decide (v=x)) (hdE E k))=false:=aw qp;refine ae (ak (by simp only[am,aL,simprocAttr,e4,e7,e9,e10,e11,ra0,ra1,rb0,rb1,wi1,wi2,wk1,wk2,a3,r3,a4,r4,ii,ik,aP,rsi,rsk,cp]<;>rfl) ?_);refine dC (Z0) (bz ?_);refine⟨(l1,mo),⟨X13,om,gA13,j13,pi13,out (λlk=>?_) rd⟩,_,(M2 e11 w11),H7 e1 e3 e4 e6 e7 e9 e10⟩;have hLi:=hL i hi;have hLk:=hL k hk;refine absurd ((iO hE hL (x:=x) (u:=hdE E i) (v:=hdE E k) om om om om).2 ?_) qp;have cc:=lk.2.2;rw[<-hg,show(grE n E hE hL).oth i x=hdE E i from (by show tlE E i+hdE E i-x=_;omega),show(grE n E hE hL).oth k x=hdE E k from (by show tlE E k+hdE E k-x=_;omega)]at cc;exact cc
      .by_cases dk:hdE E k=x
       .have c3:decide (((tlE E k:Nat):Int)=((x:Nat):Int))=false:=aw om;have c4:decide (((hdE E k:Nat):Int)=((x:Nat):Int))=true:=aH om;have eu:((tlE E i:Nat):Int)+((hdE E i:Nat):Int)-((x:Nat):Int)=((hdE E i:Nat):Int):=om;have ek:((tlE E k:Nat):Int)+((hdE E k:Nat):Int)-((x:Nat):Int)=((tlE E k:Nat):Int):=om;have wi2:IntKind.i64.wrap (((tlE E i:Nat):Int)+((hdE E i:Nat):Int)-((x:Nat):Int))=((hdE E i:Nat):Int):=by rw[eu];exact fU om om
        have wk2:IntKind.i64.wrap (((tlE E k:Nat):Int)+((hdE E k:Nat):Int)-((x:Nat):Int))=((tlE E k:Nat):Int):=by rw[ek];exact fU om om
        obtain⟨b3,q3,a3,r3⟩:=pAt (hdE E i) om;obtain⟨b4,q4,a4,r4⟩:=pAt (tlE E k) om;refine ae (ae (ak (M7 e7 ra0 rb0 rb1 c1 c3 c4) ?_));refine dC (Z0) (bz ?_);by_cases qp:fK n E (λv=>decide (v=x)) (hdE E i)=fK n E (λv=>decide (v=x)) (tlE E k)
        .have cp:decide (fK n E (λv=>decide (v=x)) (hdE E i)=fK n E (λv=>decide (v=x)) (tlE E k))=true:=aH qp;by_cases qs:l1 i=l1 k
         .have cs:decide (((l1 i:Nat):Int)=((l1 k:Nat):Int))=true:=aH om;refine ae (ak (by simp only[am,aL,simprocAttr,e4,e7,e9,e10,e11,ra0,ra1,rb0,rb1,wi1,wi2,wk1,wk2,a3,r3,a4,r4,ii,ik,aP,rsi,rsk,cp,cs]<;>rfl) ?_);refine dC (Z0) (bz ?_);refine⟨(l1,mo),⟨X13,om,gA13,j13,pi13,rd.keep λx' i' k' hd=>?_⟩,_,(M2 e11 w11),H7 e1 e3 e4 e6 e7 e9 e10⟩;by_cases q:x'=x/\i'=i/\k'=k
          .obtain⟨rfl,rfl,rfl⟩:=q;exact .inr λ_=>qs
          .exact .inl om
         .have cs:decide (((l1 i:Nat):Int)=((l1 k:Nat):Int))=false:=aw om;refine ae (ak (by simp only[am,aL,simprocAttr,e4,e7,e9,e10,e11,ra0,ra1,rb0,rb1,wi1,wi2,wk1,wk2,a3,r3,a4,r4,ii,ik,aP,rsi,rsk,cp,cs]<;>rfl) ?_);refine cZ (Z0) ?_;have em:(if ((l1 k:Nat):Int)<((l1 i:Nat):Int)then((l1 k:Nat):Int)else((l1 i:Nat):Int))=((min (l1 i) (l1 k):Nat):Int):=by split<;>omega
          refine ae (ak (M10 e4 e10 e11 ii ik @aP rsi rsk @yA em) ?_);have hLi:=hL i hi;have hLk:=hL k hk;have lk:Lk g x i k:=by
           refine⟨inc_i.2 om,inc_k.2 om,?_⟩;have cc:=(iO hE hL (x:=x) (u:=hdE E i) (v:=tlE E k) om om om om).1 qp;rw[<-hg,show(grE n E hE hL).oth i x=hdE E i from (by show tlE E i+hdE E i-x=_;omega),show(grE n E hE hL).oth k x=tlE E k from (by show tlE E k+hdE E k-x=_;omega)];exact cc
          have wa:=ew (v:=.int .i64 (min (l1 i) (l1 k):Nat)) j13 (i:=i) (by rw[jM];exact hi);have ua:=Oi (o:=.cells ((il E.length λi=>((l1 i:Nat):Int)).set i (.int .i64 (min (l1 i) (l1 k):Nat))) 1 false) j13;refine ae (ak (M5 e4 e10 ii @aP wa) ?_);generalize (h13.put (h.next+1) (.cells ((il E.length λi=>((l1 i:Nat):Int)).set i (.int .i64 (min (l1 i) (l1 k):Nat))) 1 false))=h14 at *
          have wb:=ew (v:=.int .i64 (min (l1 i) (l1 k):Nat)) ua.get (i:=k) (by rw[cx,jM];exact hk);have ub:=Oi (o:=.cells (((il E.length λi=>((l1 i:Nat):Int)).set i (.int .i64 (min (l1 i) (l1 k):Nat))).set k (.int .i64 (min (l1 i) (l1 k):Nat))) 1 false) ua.get;refine ae (ak (M5 e4 e11 ik @aP wb) ?_);generalize (h14.put (h.next+1) (.cells (((il E.length λi=>((l1 i:Nat):Int)).set i (.int .i64 (min (l1 i) (l1 k):Nat))).set k (.int .i64 (min (l1 i) (l1 k):Nat))) 1 false))=h15 at *
          refine ak (M0) ?_;refine⟨(upL l1 i k,true),⟨(X13.trans (ua.ext om)).trans (ub.ext om),by rw[ub.nx,ua.nx];omega,by rw[ub.ne om,ua.ne om];exact gA13,?_,(pi13.upd ua om).upd ub om,rd.up lk qs⟩,_,(M2 e11 w11),H6 e1 e3 e4 e7 e9 e10⟩;rw[ub.get,mE,mE];congr 2;refine lO λv _=>?_;show _=((upL l1 i k v:Nat):Int)
          unfold upL;by_cases p1:v=k
          .rw[if_pos p1,if_pos p1]
          .rw[if_neg p1,if_neg p1];by_cases p2:v=i
           .rw[if_pos p2,if_pos p2]
           .rw[if_neg p2,if_neg p2]
        .have cp:decide (fK n E (λv=>decide (v=x)) (hdE E i)=fK n E (λv=>decide (v=x)) (tlE E k))=false:=aw qp;refine ae (ak (by simp only[am,aL,simprocAttr,e4,e7,e9,e10,e11,ra0,ra1,rb0,rb1,wi1,wi2,wk1,wk2,a3,r3,a4,r4,ii,ik,aP,rsi,rsk,cp]<;>rfl) ?_);refine dC (Z0) (bz ?_);refine⟨(l1,mo),⟨X13,om,gA13,j13,pi13,out (λlk=>?_) rd⟩,_,(M2 e11 w11),H7 e1 e3 e4 e6 e7 e9 e10⟩;have hLi:=hL i hi;have hLk:=hL k hk;refine absurd ((iO hE hL (x:=x) (u:=hdE E i) (v:=tlE E k) om om om om).2 ?_) qp;have cc:=lk.2.2;rw[<-hg,show(grE n E hE hL).oth i x=hdE E i from (by show tlE E i+hdE E i-x=_;omega),show(grE n E hE hL).oth k x=tlE E k from (by show tlE E k+hdE E k-x=_;omega)]at cc;exact cc
       .have c3:decide (((tlE E k:Nat):Int)=((x:Nat):Int))=false:=aw om;have c4:decide (((hdE E k:Nat):Int)=((x:Nat):Int))=false:=aw om;refine ae (ae (ak (M7 e7 ra0 rb0 rb1 c1 c3 c4) ?_));refine cZ (Z0) (fM ?_);refine⟨λ_=>?_,λq=>absurd rfl q⟩;exact⟨(l1,mo),⟨X13,om,gA13,j13,pi13,out (λlk=>by rcases inc_k.1 lk.2.1 with q|q;exact absurd q tk;exact absurd q dk) rd⟩,_,(M2 e11 w11),H7 e1 e3 e4 e6 e7 e9 e10⟩
     .by_cases di:hdE E i=x
      .have c1:decide (((tlE E i:Nat):Int)=((x:Nat):Int))=false:=aw om;have c2:decide (((hdE E i:Nat):Int)=((x:Nat):Int))=true:=aH om;by_cases tk:tlE E k=x
       .have c3:decide (((tlE E k:Nat):Int)=((x:Nat):Int))=true:=aH om;have eu:((tlE E i:Nat):Int)+((hdE E i:Nat):Int)-((x:Nat):Int)=((tlE E i:Nat):Int):=om;have ek:((tlE E k:Nat):Int)+((hdE E k:Nat):Int)-((x:Nat):Int)=((hdE E k:Nat):Int):=om;have wi2:IntKind.i64.wrap (((tlE E i:Nat):Int)+((hdE E i:Nat):Int)-((x:Nat):Int))=((tlE E i:Nat):Int):=by rw[eu];exact fU om om
        have wk2:IntKind.i64.wrap (((tlE E k:Nat):Int)+((hdE E k:Nat):Int)-((x:Nat):Int))=((hdE E k:Nat):Int):=by rw[ek];exact fU om om
        obtain⟨b3,q3,a3,r3⟩:=pAt (tlE E i) om;obtain⟨b4,q4,a4,r4⟩:=pAt (hdE E k) om;refine ae (ae (ak (M7 e7 ra0 ra1 rb0 c1 c2 c3) ?_));refine dC (Z0) (bz ?_);by_cases qp:fK n E (λv=>decide (v=x)) (tlE E i)=fK n E (λv=>decide (v=x)) (hdE E k)
        .have cp:decide (fK n E (λv=>decide (v=x)) (tlE E i)=fK n E (λv=>decide (v=x)) (hdE E k))=true:=aH qp;by_cases qs:l1 i=l1 k
         .have cs:decide (((l1 i:Nat):Int)=((l1 k:Nat):Int))=true:=aH om;refine ae (ak (by simp only[am,aL,simprocAttr,e4,e7,e9,e10,e11,ra0,ra1,rb0,rb1,wi1,wi2,wk1,wk2,a3,r3,a4,r4,ii,ik,aP,rsi,rsk,cp,cs]<;>rfl) ?_);refine dC (Z0) (bz ?_);refine⟨(l1,mo),⟨X13,om,gA13,j13,pi13,rd.keep λx' i' k' hd=>?_⟩,_,(M2 e11 w11),H7 e1 e3 e4 e6 e7 e9 e10⟩;by_cases q:x'=x/\i'=i/\k'=k
          .obtain⟨rfl,rfl,rfl⟩:=q;exact .inr λ_=>qs
          .exact .inl om
         .have cs:decide (((l1 i:Nat):Int)=((l1 k:Nat):Int))=false:=aw om;refine ae (ak (by simp only[am,aL,simprocAttr,e4,e7,e9,e10,e11,ra0,ra1,rb0,rb1,wi1,wi2,wk1,wk2,a3,r3,a4,r4,ii,ik,aP,rsi,rsk,cp,cs]<;>rfl) ?_);refine cZ (Z0) ?_;have em:(if ((l1 k:Nat):Int)<((l1 i:Nat):Int)then((l1 k:Nat):Int)else((l1 i:Nat):Int))=((min (l1 i) (l1 k):Nat):Int):=by split<;>omega
          refine ae (ak (M10 e4 e10 e11 ii ik @aP rsi rsk @yA em) ?_);have hLi:=hL i hi;have hLk:=hL k hk;have lk:Lk g x i k:=by
           refine⟨inc_i.2 om,inc_k.2 om,?_⟩;have cc:=(iO hE hL (x:=x) (u:=tlE E i) (v:=hdE E k) om om om om).1 qp;rw[<-hg,show(grE n E hE hL).oth i x=tlE E i from (by show tlE E i+hdE E i-x=_;omega),show(grE n E hE hL).oth k x=hdE E k from (by show tlE E k+hdE E k-x=_;omega)];exact cc
          have wa:=ew (v:=.int .i64 (min (l1 i) (l1 k):Nat)) j13 (i:=i) (by rw[jM];exact hi);have ua:=Oi (o:=.cells ((il E.length λi=>((l1 i:Nat):Int)).set i (.int .i64 (min (l1 i) (l1 k):Nat))) 1 false) j13;refine ae (ak (M5 e4 e10 ii @aP wa) ?_);generalize (h13.put (h.next+1) (.cells ((il E.length λi=>((l1 i:Nat):Int)).set i (.int .i64 (min (l1 i) (l1 k):Nat))) 1 false))=h14 at *
          have wb:=ew (v:=.int .i64 (min (l1 i) (l1 k):Nat)) ua.get (i:=k) (by rw[cx,jM];exact hk);have ub:=Oi (o:=.cells (((il E.length λi=>((l1 i:Nat):Int)).set i (.int .i64 (min (l1 i) (l1 k):Nat))).set k (.int .i64 (min (l1 i) (l1 k):Nat))) 1 false) ua.get;refine ae (ak (M5 e4 e11 ik @aP wb) ?_);generalize (h14.put (h.next+1) (.cells (((il E.length λi=>((l1 i:Nat):Int)).set i (.int .i64 (min (l1 i) (l1 k):Nat))).set k (.int .i64 (min (l1 i) (l1 k):Nat))) 1 false))=h15 at *
          refine ak (M0) ?_;refine⟨(upL l1 i k,true),⟨(X13.trans (ua.ext om)).trans (ub.ext om),by rw[ub.nx,ua.nx];omega,by rw[ub.ne om,ua.ne om];exact gA13,?_,(pi13.upd ua om).upd ub om,rd.up lk qs⟩,_,(M2 e11 w11),H6 e1 e3 e4 e7 e9 e10⟩;rw[ub.get,mE,mE];congr 2;refine lO λv _=>?_;show _=((upL l1 i k v:Nat):Int)
          unfold upL;by_cases p1:v=k
          .rw[if_pos p1,if_pos p1]
          .rw[if_neg p1,if_neg p1];by_cases p2:v=i
           .rw[if_pos p2,if_pos p2]
           .rw[if_neg p2,if_neg p2]
        .have cp:decide (fK n E (λv=>decide (v=x)) (tlE E i)=fK n E (λv=>decide (v=x)) (hdE E k))=false:=aw qp;refine ae (ak (by simp only[am,aL,simprocAttr,e4,e7,e9,e10,e11,ra0,ra1,rb0,rb1,wi1,wi2,wk1,wk2,a3,r3,a4,r4,ii,ik,aP,rsi,rsk,cp]<;>rfl) ?_);refine dC (Z0) (bz ?_);refine⟨(l1,mo),⟨X13,om,gA13,j13,pi13,out (λlk=>?_) rd⟩,_,(M2 e11 w11),H7 e1 e3 e4 e6 e7 e9 e10⟩;have hLi:=hL i hi;have hLk:=hL k hk;refine absurd ((iO hE hL (x:=x) (u:=tlE E i) (v:=hdE E k) om om om om).2 ?_) qp;have cc:=lk.2.2;rw[<-hg,show(grE n E hE hL).oth i x=tlE E i from (by show tlE E i+hdE E i-x=_;omega),show(grE n E hE hL).oth k x=hdE E k from (by show tlE E k+hdE E k-x=_;omega)]at cc;exact cc
       .by_cases dk:hdE E k=x
        .have c3:decide (((tlE E k:Nat):Int)=((x:Nat):Int))=false:=aw om;have c4:decide (((hdE E k:Nat):Int)=((x:Nat):Int))=true:=aH om;have eu:((tlE E i:Nat):Int)+((hdE E i:Nat):Int)-((x:Nat):Int)=((tlE E i:Nat):Int):=om;have ek:((tlE E k:Nat):Int)+((hdE E k:Nat):Int)-((x:Nat):Int)=((tlE E k:Nat):Int):=om;have wi2:IntKind.i64.wrap (((tlE E i:Nat):Int)+((hdE E i:Nat):Int)-((x:Nat):Int))=((tlE E i:Nat):Int):=by rw[eu];exact fU om om
         have wk2:IntKind.i64.wrap (((tlE E k:Nat):Int)+((hdE E k:Nat):Int)-((x:Nat):Int))=((tlE E k:Nat):Int):=by rw[ek];exact fU om om
         obtain⟨b3,q3,a3,r3⟩:=pAt (tlE E i) om;obtain⟨b4,q4,a4,r4⟩:=pAt (tlE E k) om;refine ae (ae (ak (M10 e7 ra0 ra1 rb0 rb1 c1 c2 c3 c4 c4) ?_));refine dC (Z0) (bz ?_);by_cases qp:fK n E (λv=>decide (v=x)) (tlE E i)=fK n E (λv=>decide (v=x)) (tlE E k)
         .have cp:decide (fK n E (λv=>decide (v=x)) (tlE E i)=fK n E (λv=>decide (v=x)) (tlE E k))=true:=aH qp;by_cases qs:l1 i=l1 k
          .have cs:decide (((l1 i:Nat):Int)=((l1 k:Nat):Int))=true:=aH om;refine ae (ak (by simp only[am,aL,simprocAttr,e4,e7,e9,e10,e11,ra0,ra1,rb0,rb1,wi1,wi2,wk1,wk2,a3,r3,a4,r4,ii,ik,aP,rsi,rsk,cp,cs]<;>rfl) ?_);refine dC (Z0) (bz ?_);refine⟨(l1,mo),⟨X13,om,gA13,j13,pi13,rd.keep λx' i' k' hd=>?_⟩,_,(M2 e11 w11),H7 e1 e3 e4 e6 e7 e9 e10⟩;by_cases q:x'=x/\i'=i/\k'=k
           .obtain⟨rfl,rfl,rfl⟩:=q;exact .inr λ_=>qs
           .exact .inl om
          .have cs:decide (((l1 i:Nat):Int)=((l1 k:Nat):Int))=false:=aw om;refine ae (ak (by simp only[am,aL,simprocAttr,e4,e7,e9,e10,e11,ra0,ra1,rb0,rb1,wi1,wi2,wk1,wk2,a3,r3,a4,r4,ii,ik,aP,rsi,rsk,cp,cs]<;>rfl) ?_);refine cZ (Z0) ?_;have em:(if ((l1 k:Nat):Int)<((l1 i:Nat):Int)then((l1 k:Nat):Int)else((l1 i:Nat):Int))=((min (l1 i) (l1 k):Nat):Int):=by split<;>omega
           refine ae (ak (M10 e4 e10 e11 ii ik @aP rsi rsk @yA em) ?_);have hLi:=hL i hi;have hLk:=hL k hk;have lk:Lk g x i k:=by
            refine⟨inc_i.2 om,inc_k.2 om,?_⟩;have cc:=(iO hE hL (x:=x) (u:=tlE E i) (v:=tlE E k) om om om om).1 qp;rw[<-hg,show(grE n E hE hL).oth i x=tlE E i from (by show tlE E i+hdE E i-x=_;omega),show(grE n E hE hL).oth k x=tlE E k from (by show tlE E k+hdE E k-x=_;omega)];exact cc
           have wa:=ew (v:=.int .i64 (min (l1 i) (l1 k):Nat)) j13 (i:=i) (by rw[jM];exact hi);have ua:=Oi (o:=.cells ((il E.length λi=>((l1 i:Nat):Int)).set i (.int .i64 (min (l1 i) (l1 k):Nat))) 1 false) j13;refine ae (ak (M5 e4 e10 ii @aP wa) ?_);generalize (h13.put (h.next+1) (.cells ((il E.length λi=>((l1 i:Nat):Int)).set i (.int .i64 (min (l1 i) (l1 k):Nat))) 1 false))=h14 at *
           have wb:=ew (v:=.int .i64 (min (l1 i) (l1 k):Nat)) ua.get (i:=k) (by rw[cx,jM];exact hk);have ub:=Oi (o:=.cells (((il E.length λi=>((l1 i:Nat):Int)).set i (.int .i64 (min (l1 i) (l1 k):Nat))).set k (.int .i64 (min (l1 i) (l1 k):Nat))) 1 false) ua.get;refine ae (ak (M5 e4 e11 ik @aP wb) ?_);generalize (h14.put (h.next+1) (.cells (((il E.length λi=>((l1 i:Nat):Int)).set i (.int .i64 (min (l1 i) (l1 k):Nat))).set k (.int .i64 (min (l1 i) (l1 k):Nat))) 1 false))=h15 at *
           refine ak (M0) ?_;refine⟨(upL l1 i k,true),⟨(X13.trans (ua.ext om)).trans (ub.ext om),by rw[ub.nx,ua.nx];omega,by rw[ub.ne om,ua.ne om];exact gA13,?_,(pi13.upd ua om).upd ub om,rd.up lk qs⟩,_,(M2 e11 w11),H6 e1 e3 e4 e7 e9 e10⟩;rw[ub.get,mE,mE];congr 2;refine lO λv _=>?_;show _=((upL l1 i k v:Nat):Int)
           unfold upL;by_cases p1:v=k
           .rw[if_pos p1,if_pos p1]
           .rw[if_neg p1,if_neg p1];by_cases p2:v=i
            .rw[if_pos p2,if_pos p2]
            .rw[if_neg p2,if_neg p2]
         .have cp:decide (fK n E (λv=>decide (v=x)) (tlE E i)=fK n E (λv=>decide (v=x)) (tlE E k))=false:=aw qp;refine ae (ak (by simp only[am,aL,simprocAttr,e4,e7,e9,e10,e11,ra0,ra1,rb0,rb1,wi1,wi2,wk1,wk2,a3,r3,a4,r4,ii,ik,aP,rsi,rsk,cp]<;>rfl) ?_);refine dC (Z0) (bz ?_);refine⟨(l1,mo),⟨X13,om,gA13,j13,pi13,out (λlk=>?_) rd⟩,_,(M2 e11 w11),H7 e1 e3 e4 e6 e7 e9 e10⟩;have hLi:=hL i hi;have hLk:=hL k hk;refine absurd ((iO hE hL (x:=x) (u:=tlE E i) (v:=tlE E k) om om om om).2 ?_) qp;have cc:=lk.2.2;rw[<-hg,show(grE n E hE hL).oth i x=tlE E i from (by show tlE E i+hdE E i-x=_;omega),show(grE n E hE hL).oth k x=tlE E k from (by show tlE E k+hdE E k-x=_;omega)]at cc;exact cc
        .have c3:decide (((tlE E k:Nat):Int)=((x:Nat):Int))=false:=aw om;have c4:decide (((hdE E k:Nat):Int)=((x:Nat):Int))=false:=aw om;refine ae (ae (ak (M10 e7 ra0 ra1 rb0 rb1 c1 c2 c3 c4 c4) ?_));refine cZ (Z0) (fM ?_);refine⟨λ_=>?_,λq=>absurd rfl q⟩;exact⟨(l1,mo),⟨X13,om,gA13,j13,pi13,out (λlk=>by rcases inc_k.1 lk.2.1 with q|q;exact absurd q tk;exact absurd q dk) rd⟩,_,(M2 e11 w11),H7 e1 e3 e4 e6 e7 e9 e10⟩
      .have c1:decide (((tlE E i:Nat):Int)=((x:Nat):Int))=false:=aw om;have c2:decide (((hdE E i:Nat):Int)=((x:Nat):Int))=false:=aw om;refine ae (ae (ak (M5 e7 ra0 ra1 c1 c2) ?_));refine cZ (Z0) (fM ?_);refine⟨λ_=>?_,λq=>absurd rfl q⟩;refine⟨(l1,mo),⟨X13,om,gA13,j13,pi13,rd.keep λx' i' k' hd=>?_⟩,_,(M2 e11 w11),H7 e1 e3 e4 e6 e7 e9 e10⟩;by_cases q:x'=x/\i'=i/\k'=k
       .obtain⟨rfl,rfl,rfl⟩:=q;exact .inr λlk=>by rcases inc_i.1 lk.1 with q|q;exact absurd q ti;exact absurd q di
       .exact .inl om
    .clear e1 e3 e4 e6 e7 e9 e10 rd j;rintro⟨l1,mo⟩ ts h11 ⟨jx,jn,jA,j,pi,rd⟩ ⟨e1,e3,e4,e6,e7,e9,e10,e11,-⟩;simp only at e1 e3 e4 e6 e7 e9 e10 j rd;refine⟨(l1,mo),⟨jx,jn,jA,j,pi,rd.keep λx' i' k' hd=>?_⟩,_,(M2 e10 w10),H6 e1 e3 e4 e6 e7 e9⟩;rcases eW k' E.length with q|q
     .exact .inl om
     .exact .inr λlk=>absurd lk.2.1.1 (by rw[gm];omega)
   .clear e1 e3 e4 e6 e7 rd j j9 j10;rintro⟨l1,mo⟩ ts h11 ⟨jx,jn,jA,j,pi,rd⟩ ⟨e1,e3,e4,e6,e7,e9,e10,-⟩;simp only at e1 e3 e4 e6 e7 j rd;refine⟨(l1,mo),⟨jx,jn,jA,j,rd.keep λx' i' k' hd=>?_⟩,_,(M2 e7 w7),H4 e1 e3 e4 e6⟩;rcases eW i' E.length with q|q
    .exact .inl om
    .exact .inr λlk=>absurd lk.1.1 (by rw[gm];omega)
  .clear e1 e3 e4 e6;rintro⟨l',more⟩ ts h7 ⟨jx,jn,jA,j,rd⟩ ⟨e1,e3,e4,e6,e7,-⟩;simp only at e1 e3 e4 e6 e7 j rd;subst hg;cases more with
   |true=>exact⟨tP E.length l'+1,Nat.succ_lt_succ (rd.yes rfl),l',true,H4 e1 e3 e4 e6,jx,jn,jA,j,rd.inv,.inl ⟨rfl,rfl⟩⟩
   |false=>exact⟨0,Nat.succ_pos _,l',false,H4 e1 e3 e4 e6,jx,jn,jA,j,rd.inv,.inr ⟨rfl,rfl,rd.lst λx i k hx _ _=>hx⟩⟩
 .refine ae (ae (ak (M1 e6) ?_));refine dC (Z0) (fM ?_);refine⟨λ_=>?_,λq=>absurd rfl q⟩;refine ae (ak (M1 e4) ?_);exact bu ⟨_,(by simp only[rs,rf75,am,aL,simprocAttr]<;>rfl),_,l,rfl,om,kx,k,lst⟩
end Go.Proofs.YtklpoimdclflmaaGreatDoor
