/- arborref07.Plain. -/
import Derived.Test.YtcfncejilmimpaaGreatVTAS
import Derived.Test.YtcfncejilmimpaaGreatVAmF
set_option linter.all false
namespace Go.Proofs.YtcfncejilmimpaaGreat
open Go.Am
variable {E:List (Int×Int)}{L a:List Int}{e lo m:Nat}{ev v:AV}{h h':AH}{n:Int}{o:AO}{os:List AO}{xs:List (List AV)}
theorem sJ{ks:List IntKind}{xs ys:List AV}:fj .eql (.flat ks) (.agg xs) (.agg ys)=(eK ks xs ys).map .bool:=by
 simp only[fj,jf,eqF]
theorem pW{a b c d:Int}:eK [.i64,.i64] [.int .i64 a,.int .i64 b] [.int .i64 c,.int .i64 d]=some (decide ((a,b)=(c,d))):=by
 by_cases e:a=c
 .subst e;by_cases e:b=d
  .subst e;simp[eK]
  .have:(b==d)=false:=by rw[beq_eq_false_iff_ne];exact e
   simp[eK,this,e]
 .have:(a==c)=false:=by rw[beq_eq_false_iff_ne];exact e
  simp[eK,this,e]
theorem EB{α:Type}{l:List α}:l.Nodup↔∀i (hi:i<l.length),∀k (hk:k<l.length),k<i->l[i]≠l[k]:=by
 rw[List.Nodup,du];constructor
 .intro h i hi k hk hki e;exact h k i hk hi hki e.symm
 .intro h i j hi hj hij e;exact h j hj i hi hij e.symm
theorem Es:gH n E↔jC n E=true/\∀i (hi:i<E.length),E[i].1≠E[i].2/\∀k (hk:k<E.length),k<i->¬(E[i]=E[k]\/(E[i].1=E[k].2/\E[i].2=E[k].1)):=by
 unfold gH;rw[EB];constructor
 .rintro⟨h1,h2,h3⟩;refine⟨h1,λi hi=>⟨h2 _ (aR hi),λk hk hki q=>?_⟩⟩;have:=h3 i (by simpa using hi) k (by simpa using hk) hki;rw[iA,iA]at this;exact this (pQ.2 q)
 .rintro⟨h1,h2⟩;refine⟨h1,λe he=>?_,λi hi k hk hki q=>?_⟩
  .obtain⟨i,hi,rfl⟩:=ii he;exact(h2 i hi).1
  .rw[iA,iA]at q;exact(h2 i (by simpa using hi)).2 k (by simpa using hk) hki (pQ.1 q)
set_option maxHeartbeats 1000000 in
theorem AU(he:SlE h ev E):C prg 5 [.agg [.int .i64 n,ev]] h λr h'=>∃b,r=.bool b/\(b=true↔gH n E)/\Ext h.next h h':=by
 obtain⟨ec,eo⟩:=he.cells;have el:=he.len;rw[ah]at el;refine Oj pf5 ?_;refine ai (aE (Mi0) ?_);have x0:Ext h.next h (h.new (.cells [.int .i64 n,ev] 2 false)):=Og (ab _);have g0:(h.new (.cells [.int .i64 n,ev] 2 false)).get h.next=some (.cells [.int .i64 n,ev] 2 false):=by rw[AH.get_new,if_pos rfl]
 have n0:(h.new (.cells [.int .i64 n,ev] 2 false)).next=h.next+1:=rfl;generalize (h.new (.cells [.int .i64 n,ev] 2 false))=h1 at *
 have rA:ar h1 h.next 0 2=some [.int .i64 n,ev]:=by rw[bC g0];rfl
 refine ai (ai (cJ (bK 1 (Mi1 rA) rfl (Zi1 rA) (Mi1 rA) (GP (n:=n) (he.ext x0 (ab _))) λr h2 hq=>?_)));obtain⟨rfl,x2⟩:=hq;have X2:Ext h.next h h2:=x0.trans (x2.mono om);refine bU (M0) ?_;cases hm:jC n E with
 |false =>
   refine cI (Z0) (ai (aE (M0) ?_));exact bP ⟨.bool false,(by simp only[rs,rf5,am,aJ,simprocAttr]<;>rfl),false,rfl,⟨(λq=>by cases q),λq=>by rw[q.1]at hm;cases hm⟩,X2⟩
 |true =>
 have hxl:E.length<2^40:=by
  have q:=hm;unfold jC at q;simp only[aK,aN]at q;omega
 refine dJ (Z0) (bM ?_);have n2:=x2.nx;have g2:h2.get h.next=some (.cells [.int .i64 n,ev] 2 false):=by rw[x2.gt _ om];exact g0
 have hP:=Es (n:=n) (E:=E);refine ai (ai (aE (Mi0) ?_))
 refine lw (α:=Unit) (N:=E.length) (λi _=>[(1,.ptr h.next 0),(3,.int .i64 (i:Nat))])
  (λi _ h'=>(∀j (hj:j<E.length),j<i->E[j].1≠E[j].2/\∀k (hk:k<E.length),k<j->¬(E[j]=E[k]\/(E[j].1=E[k].2/\E[j].2=E[k].1)))/\h'.get h.next=some (.cells [.int .i64 n,ev] 2 false)/\Ext h.next h h') () (Hi1 @bJ)
  ⟨λj hj q=>absurd q (eX _),g2,X2⟩ ?_ ?_ ?_
 .rintro i _ ts h4 hi ⟨j1,j2,j3⟩ ⟨e1,e3,-⟩;simp only at e1 e3;have rE:ar h4 h.next 1 1=some [ev]:=bF j2 rfl;exact⟨_,(M5 e1 e3 rE el @eq),Z0,H2 e1 e3⟩
 .rintro i _ ts h4 hi ⟨j1,j2,j3⟩ ⟨e1,e3,-⟩;simp only at e1 e3;have w3:=Cu (k:=i) om;have rE:ar h4 h.next 1 1=some [ev]:=bF j2 rfl;obtain⟨b1,p1,a1,r1,_⟩:=(he.ext j3 (ab _)).at (fX (f:=eE) hi);have n4:=j3.nx;have hnl:=AH.lt_of_get j2;obtain⟨h5,w5,x5,g5,n5⟩:=ip (h:=h4) (z:=[.int .i64 0,.int .i64 0]) (cs:=[.int .i64 E[i].1,.int .i64 E[i].2]) (e:=2) rfl;have r1:ar h4 b1 p1 2=some [.int .i64 E[i].1,.int .i64 E[i].2]:=r1;refine ai (aE (M6 e1 e3 rE a1 r1 w5) ?_);have g5':h5.get h.next=some (.cells [.int .i64 n,ev] 2 false):=by rw[x5.gt _ hnl];exact j2
  have X5:Ext h.next h h5:=j3.trans (x5.mono n4);refine ai (ai (aE (M0) ?_))
  refine lw (α:=Unit) (N:=i) (λk _=>[(1,.ptr h.next 0),(3,.int .i64 (i:Nat)),(4,.ptr h4.next 0),(5,.int .i64 (k:Nat))])
   (λk _ h'=>(∀k' (hk:k'<E.length),k'<k->¬(E[i]=E[k']\/(E[i].1=E[k'].2/\E[i].2=E[k'].1)))/\h'.get h.next=some (.cells [.int .i64 n,ev] 2 false)/\h'.get h4.next=some (.cells [.int .i64 E[i].1,.int .i64 E[i].2] 2 false)/\Ext h.next h h') () (H3 e1 e3 @bJ)
   ⟨λk' hk q=>absurd q (eX _),g5',g5,X5⟩ ?_ ?_ ?_
  .clear e1 e3;rintro k _ ts h6 hk ⟨k1,k2,k3,k4⟩ ⟨e1,e3,e4,e5,-⟩;simp only at e1 e3 e4 e5;exact⟨_,(M3 e3 e5 @eq),Z0,H4 e1 e3 e4 e5⟩
  .clear e1 e3;rintro k _ ts h6 hk ⟨k1,k2,k3,k4⟩ ⟨e1,e3,e4,e5,-⟩;simp only at e1 e3 e4 e5;have hk':k<E.length:=om;have w5:=Cu (k:=k) om;have rE:ar h6 h.next 1 1=some [ev]:=bF k2 rfl;obtain⟨b2,p2,a2,r2,_⟩:=(he.ext k4 (ab _)).at (fX (f:=eE) hk');have hnl6:=AH.lt_of_get k2;have hnl7:=AH.lt_of_get k3;obtain⟨h7,w7,x7,g7,n7⟩:=ip (h:=h6) (z:=[.int .i64 0,.int .i64 0]) (cs:=[.int .i64 E[k].1,.int .i64 E[k].2]) (e:=2) rfl;have r2:ar h6 b2 p2 2=some [.int .i64 E[k].1,.int .i64 E[k].2]:=r2;refine ai (aE (M6 e1 e5 rE a2 r2 w7) ?_);have X7:Ext h.next h h7:=k4.trans (x7.mono k4.nx);have g72:h7.get h4.next=some (.cells [.int .i64 E[i].1,.int .i64 E[i].2] 2 false):=by rw[x7.gt _ hnl7];exact k3
   have rI:ar h7 h4.next 0 2=some [.int .i64 E[i].1,.int .i64 E[i].2]:=by rw[bC g72];rfl
   have rK:ar h7 h6.next 0 2=some [.int .i64 E[k].1,.int .i64 E[k].2]:=by rw[bC g7];rfl
   have rI0:ar h7 h4.next 0 1=some [.int .i64 E[i].1]:=bF g72 rfl;have rI1:ar h7 h4.next 1 1=some [.int .i64 E[i].2]:=bF g72 rfl;have rK0:ar h7 h6.next 0 1=some [.int .i64 E[k].1]:=bF g7 rfl;have rK1:ar h7 h6.next 1 1=some [.int .i64 E[k].2]:=bF g7 rfl;have hbad:(E[i]=E[k]\/(E[i].1=E[k].2/\E[i].2=E[k].1))->∃v,kj ((oL (oL ts 2 (.bool false)) 2 (.bool false))) h7 []=some v:=λ_=>⟨_,rfl⟩
   have hnext:¬(E[i]=E[k]\/(E[i].1=E[k].2/\E[i].2=E[k].1))->∀k' (hk:k'<E.length),k'<k+1->¬(E[i]=E[k']\/(E[i].1=E[k'].2/\E[i].2=E[k'].1)):=λq k' hk2 hlt=>by
    by_cases e:k'=k
    .subst e;exact q
    .exact k1 k' hk2 om
   have hno:(E[i]=E[k]\/(E[i].1=E[k].2/\E[i].2=E[k].1))->¬gH n E:=λq p=>(hP.1 p).2 i hi |>.2 k hk' hk q;have g71:h7.get h.next=some (.cells [.int .i64 n,ev] 2 false):=by rw[x7.gt _ hnl6];exact k2
   by_cases q1:E[i]=E[k]
   .have c1:decide ((E[i].1,E[i].2)=(E[k].1,E[k].2))=true:=aP (by rw[q1]);refine ai (aE (M6 e4 rI rK @sJ @pW c1) ?_);refine cI (Z0) (ai (aE (M0) ?_));exact bP ⟨.bool false,(by simp only[rs,rf5,am,aJ,simprocAttr]<;>rfl),false,rfl,⟨(λq=>by cases q),λq=>absurd q (hno (.inl q1))⟩,X7⟩
   have c1:decide ((E[i].1,E[i].2)=(E[k].1,E[k].2))=false:=aL λq=>q1 (Prod.ext (congrArg Prod.fst q) (congrArg Prod.snd q));by_cases q2:E[i].1=E[k].2
   .have c2:decide (E[i].1=E[k].2)=true:=aP q2;by_cases q3:E[i].2=E[k].1
    .have c3:decide (E[i].2=E[k].1)=true:=aP q3;refine ai (aE (M12 e4 rI rK rI0 rI1 rK0 rK1 @sJ @pW c1 c2 c3) ?_);refine cI (Z0) (ai (aE (M0) ?_));exact bP ⟨.bool false,(by simp only[rs,rf5,am,aJ,simprocAttr]<;>rfl),false,rfl,⟨(λq=>by cases q),λq=>absurd q (hno (.inr ⟨q2,q3⟩))⟩,X7⟩
    .have c3:decide (E[i].2=E[k].1)=false:=aL q3;refine ai (aE (M12 e4 rI rK rI0 rI1 rK0 rK1 @sJ @pW c1 c2 c3) ?_);refine dJ (Z0) (bM ?_);exact⟨(),⟨hnext λq=>q.elim q1 λq=>q3 q.2,g71,g72,X7⟩,_,(M2 e5 w5),H3 e1 e3 e4⟩
   .have c2:decide (E[i].1=E[k].2)=false:=aL q2;refine ai (aE (M12 e4 rI rK rI0 rI1 rK0 rK1 @sJ @pW c1 c2 c2) ?_);refine dJ (Z0) (bM ?_);exact⟨(),⟨hnext λq=>q.elim q1 λq=>q2 q.1,g71,g72,X7⟩,_,(M2 e5 w5),H3 e1 e3 e4⟩
  .clear e1 e3;rintro _ ts h6 ⟨k1,k2,k3,k4⟩ ⟨e1,e3,e4,e5,-⟩;simp only at e1 e3 e4 e5;have rI0:ar h6 h4.next 0 1=some [.int .i64 E[i].1]:=bF k3 rfl;have rI1:ar h6 h4.next 1 1=some [.int .i64 E[i].2]:=bF k3 rfl;by_cases q:E[i].1=E[i].2
   .have c1:decide (E[i].1=E[i].2)=true:=aP q;refine ai (aE (M4 e4 rI0 rI1 c1) ?_);refine cI (Z0) (ai (aE (M0) ?_));exact bP ⟨.bool false,(by simp only[rs,rf5,am,aJ,simprocAttr]<;>rfl),false,rfl,⟨(λq=>by cases q),λp=>absurd q ((hP.1 p).2 i hi).1⟩,k4⟩
   .have c1:decide (E[i].1=E[i].2)=false:=aL q;refine ai (aE (M4 e4 rI0 rI1 c1) ?_);refine dJ (Z0) (bM ?_);refine⟨(),⟨λj hj hji=>?_,k2,k4⟩,_,(M2 e3 w3),H1 e1⟩;by_cases e:j=i
    .subst e;exact⟨q,λk hk hkj=>k1 k hk hkj⟩
    .exact j1 j hj om
 .rintro _ ts h4 ⟨j1,j2,j3⟩ ⟨e1,e3,-⟩;refine ai (aE (M0) ?_);exact bP ⟨.bool true,(by simp only[rs,rf5,am,aJ,simprocAttr]<;>rfl),true,rfl,⟨λ_=>hP.2 ⟨hm,λi hi=>j1 i hi hi⟩,λ_=>rfl⟩,j3⟩
open Go.Am
open Go.Am
open Go.Pla (Dual at_)
theorem bin_bneq{x y:Bool}:fj .neq .bl (.bool x) (.bool y)=some (.bool (x != y)):=rfl
theorem cop1{m:AH}{q:Nat}{a b:Int}(hv:IsSl m 2 lo v (E.flatMap eE))(hlo:lo<=m.next)(hq:m.get q=some .resv)(hql:lo<=q)(hl:E.length<2^30) :
 ∃m3 v' m4,m3=m.put q (.cells [.int .i64 a,.int .i64 b] 2 false)/\gI m3 2 16 v (.sl q 0 1 1)=some (v',m4)/\IsSl m4 2 lo v' ((E++[(a,b)]).flatMap eE)/\Ext lo m m4/\(∀c,m.get c=some .resv->c≠q->m4.get c=some .resv)/\m.next<=m4.next/\∀c,c<m.next->c≠q->(∀b n,v=.sl b 0 n n->c≠b)->m4.get c=m.get c:=by
 have v1:=Oi (o:=.cells [.int .i64 a,.int .i64 b] 2 false) hq;obtain⟨m3,hm3⟩:∃x,x=m.put q (.cells [.int .i64 a,.int .i64 b] 2 false):=⟨_,rfl⟩
 rw[<-hm3]at v1;have hne:∀b n,v=.sl b 0 n n->b≠q:=λb n e=>by
  rcases hv with⟨e2,_⟩|⟨b',n',_,e2,g,_⟩
  .rw[e2]at e;cases e
  .rw[e2]at e;cases e;intro e3;subst e3;rw[hq]at g;cases g
 have h3:IsSl m3 2 lo v (E.flatMap eE):=hv.cong λb n e _=>v1.ne (hne b n e);have hd:(E.flatMap eE).length/2=E.length:=by rw[NU];omega
 obtain⟨v',m4,a4,i4,x4,_,n4,s4,_⟩:=h3.app (bytes:=16) (x:=q) (new:=[.int .i64 a,.int .i64 b]) (by rw[v1.nx];exact hlo) om v1.get hql hne rfl rfl (by rw[hd];unfold bd;omega) (by rw[hd];unfold bd;omega);refine⟨m3,v',m4,hm3,a4,?_,(v1.ext hql).trans x4,λc hc hne2=>?_,by rw[n4,v1.nx];omega,λc hc hne2 hv2=>by rw[s4 c (by rw[v1.nx];exact hc) hv2,v1.ne hne2]⟩
 .rw[da];exact i4
 .have hlt:c<m3.next:=by rw[v1.nx];exact AH.lt_of_get hc
  rw[s4 c hlt (λb n e=>?_),v1.ne hne2]
  .exact hc
  .intro e2;subst e2;rcases hv with⟨e2,_⟩|⟨b',n',_,e2,g,_⟩
   .rw[e2]at e;cases e
   .rw[e2]at e;cases e;rw[hc]at g;cases g
open Go.Am
theorem EO{k:Nat}(hk:k<L.length):jd E (L.take (k+1))=jd E (L.take k)++[E.getD L[k].toNat (0,0)]:=by
 unfold jd;rw[eP,ae hk,dm];rfl
set_option maxHeartbeats 1000000 in
theorem vH{iv:AV}(he:SlE h ev E)(hi:SlI h iv L)(hL:L.length<2^28)(hin:∀i∈L,0<=i/\i<((E.length:Nat):Int)) :
 C prg 8 [.agg [.int .i64 n,ev],iv] h λr h'=>∃ev',r=.agg [.int .i64 n,ev']/\SlE h' ev' (jd E L)/\Ext h.next h h':=by
 obtain⟨ec,eo⟩:=he.cells;obtain⟨ic,io⟩:=hi.cells;have il:=hi.len;rw[ah]at il;refine Oj pf8 ?_;refine ai (aE (Mi0) ?_);have x0:Ext h.next h (h.new (.cells [.int .i64 n,ev] 2 false)):=Og (ab _);have g0:(h.new (.cells [.int .i64 n,ev] 2 false)).get h.next=some (.cells [.int .i64 n,ev] 2 false):=by rw[AH.get_new,if_pos rfl]
 have n0:(h.new (.cells [.int .i64 n,ev] 2 false)).next=h.next+1:=rfl;generalize (h.new (.cells [.int .i64 n,ev] 2 false))=h1 at *
 have x1:Ext h1.next h1 (h1.new (.cells [.int .i64 0,.nils] 2 false)):=Og (ab _);have g1:(h1.new (.cells [.int .i64 0,.nils] 2 false)).get h1.next=some (.cells [.int .i64 0,.nils] 2 false):=by rw[AH.get_new,if_pos rfl]
 have n1:(h1.new (.cells [.int .i64 0,.nils] 2 false)).next=h1.next+1:=rfl;generalize (h1.new (.cells [.int .i64 0,.nils] 2 false))=h2 at *
 rw[n0]at g1;have g2:h2.get h.next=some (.cells [.int .i64 n,ev] 2 false):=by rw[x1.gt _ om];exact g0
 have X2:Ext h.next h h2:=x0.trans (x1.mono om);have rN:ar h2 h.next 0 1=some [.int .i64 n]:=bF g2 rfl;obtain⟨h3,w3,x3,g3,n3⟩:=ip (h:=h2) (z:=[.int .i64 0,.nils]) (cs:=[.int .i64 n,.nils]) (e:=2) rfl;refine ai (bW (λts h'=>h'=h3/\bt ts 1=iv/\bt ts 2=.ptr h.next 0/\bt ts 4=.ptr (h.next+1) 0/\bt ts 5=.ptr h2.next 0) (by simp only[am,aJ,simprocAttr,bL,rN,w3]) ?_);rintro ts h3' ⟨rfl,e1,e2,e4,e5⟩;have n1':h2.next=h.next+2:=om;rw[n1']at e5;rw[n1']at g3 n3;have X3:Ext h.next h h3':=X2.trans (x3.mono om);have gA:h3'.get h.next=some (.cells [.int .i64 n,ev] 2 false):=by rw[x3.gt _ om];exact g2
 have gR:h3'.get (h.next+1)=some (.cells [.int .i64 0,.nils] 2 false):=by rw[x3.gt _ om];exact g1
 refine ai (xg (λts h'=>∃av,bt ts 4=.ptr (h.next+1) 0/\bt ts 5=.ptr (h.next+2) 0/\IsSl h' 2 (h.next+3) av ((jd E L).flatMap eE)/\h'.get (h.next+2)=some (.cells [.int .i64 n,av] 2 false)/\h'.get (h.next+1)=some (.cells [.int .i64 0,.nils] 2 false)/\Ext h.next h h') ?_ ?_)
 .refine ai (aE (M0) ?_)
  refine lw (α:=AV) (N:=L.length) (λk av=>[(1,iv),(2,.ptr h.next 0),(4,.ptr (h.next+1) 0),(5,.ptr (h.next+2) 0),(6,.int .i64 (k:Nat))])
   (λk av h'=>IsSl h' 2 (h.next+3) av ((jd E (L.take k)).flatMap eE)/\h'.get (h.next+2)=some (.cells [.int .i64 n,av] 2 false)/\h'.get (h.next+1)=some (.cells [.int .i64 0,.nils] 2 false)/\h'.get h.next=some (.cells [.int .i64 n,ev] 2 false)/\Ext h.next h h'/\h.next+3<=h'.next) .nils (H5 e1 e2 e4 e5 @bJ) ⟨.inl ⟨rfl,rfl⟩,g3,gR,gA,X3,om⟩ ?_ ?_ ?_
  .clear e1 e2 e4 e5;rintro k av ts h4 hk _ ⟨e1,e2,e4,e5,e6,-⟩;simp only at e1 e2 e4 e5 e6;exact⟨_,(by simp only[am,aJ,simprocAttr,e1,e6,il,eq]<;>rfl),Z0,H5 e1 e2 e4 e5 e6⟩
  .clear e1 e2 e4 e5;rintro k av ts h4 hk ⟨i4,g4,r4,a4,X4,n4⟩ ⟨e1,e2,e4,e5,e6,-⟩;simp only at e1 e2 e4 e5 e6;have w1:IntKind.i64.wrap (((k:Nat):Int)+1)=((k+1:Nat):Int):=ft om om;obtain⟨ob,op,ao,ro,lo_⟩:=(hi.ext X4 (ab _)).at1 (i:=k) (y:=.int .i64 L[k]) (by rw[aF,ae hk];rfl);have hpk:=EO (E:=E) hk;obtain⟨p1,p2⟩:=hin _ (aR hk);obtain⟨q,hq⟩:∃q:Nat,L[k]=((q:Nat):Int):=⟨L[k].toNat,om⟩
   rw[hq]at ro hpk p2;rw[fE]at hpk;have hqE:q<E.length:=om;rw[aj,ae hqE,eu]at hpk;obtain⟨qb,qp,a5,r5,l5⟩:=(he.ext X4 (ab _)).at (fX (f:=eE) hqE);have r5:ar h4 qb qp 2=some [.int .i64 E[q].1,.int .i64 E[q].2]:=r5;generalize E[q]=p at *
   have kn:(h4.keep 1).next=h4.next+1:=AH.keep_next 1 h4;have kg:∀c,c<h4.next->(h4.keep 1).get c=h4.get c:=λc hc=>by rw[AH.keep_get,if_neg om]
   have q8:(h4.keep 1).get h4.next=some .resv:=by rw[AH.keep_get,if_pos ⟨om,om⟩]
   have k2:(h4.keep 1).get (h.next+2)=some (.cells [.int .i64 n,av] 2 false):=by rw[kg _ om];exact g4
   have kA:(h4.keep 1).get h.next=some (.cells [.int .i64 n,ev] 2 false):=by rw[kg _ om];exact a4
   have rv:ar (h4.keep 1) (h.next+2) 1 1=some [av]:=bF k2 rfl;have rE:ar (h4.keep 1) h.next 1 1=some [ev]:=bF kA rfl;have ro2:ar (h4.keep 1) ob op 1=some [.int .i64 (q:Nat)]:=by rw[cN (kg _ lo_)];exact ro
   have r52:ar (h4.keep 1) qb qp 2=some [.int .i64 p.1,.int .i64 p.2]:=by rw[cN (kg _ l5.2)];exact r5
   have ik:IsSl (h4.keep 1) 2 (h.next+3) av ((jd E (L.take k)).flatMap eE):=i4.cong λb c e _=>kg _ (i4.lt e);have hll:(jd E (L.take k)).length=k:=by unfold jd;rw[ah,bG];omega
   obtain⟨m3,v9,m4,hm3,a9,i9,y9,_,t9,s9⟩:=cop1 (a:=p.1) (b:=p.2) ik om q8 om (by rw[hll];omega);have g9:m4.get (h.next+2)=some (.cells [.int .i64 n,av] 2 false):=by rw[y9.gt _ om];exact k2
   have w9:=iE (v:=v9) g9 (i:=1) (by simp);have u9:=Oi (o:=.cells ([AV.int .i64 n,av].set 1 v9) 2 false) g9;have rp1:df [AV.int .i64 0,.int .i64 0] 1=[.int .i64 0,.int .i64 0]:=rfl;refine Cp (by simp only[am,aJ,simprocAttr,e1,e2,e5,e6,rv,rE,ao,ro2,a5,r52,eO,ez q8,rp1,<-hm3,a9,i9.cells.1,i9.cells.2,bX,w9]<;>rfl) ?_;generalize m4.put (h.next+2) (.cells ([AV.int .i64 n,av].set 1 v9) 2 false)=m5 at *
   have yk:∀c,c<h.next+3->m4.get c=h4.get c:=λc hc=>by rw[y9.gt _ hc,kg _ om]
   refine⟨v9,⟨?_,u9.get,by rw[u9.ne om,yk _ om];exact r4,by rw[u9.ne om,yk _ om];exact a4,⟨?_,λc hc=>?_,λc hc=>?_⟩,by rw[u9.nx];omega⟩,_,(M2 e6 w1),H4 e1 e2 e4 e5⟩
   .rw[hpk];exact i9.upd u9 om
   .rw[u9.nx];have:=X4.nx;omega
   .rw[u9.ne om,yk _ om];exact X4.gt c hc
   .rw[u9.ty,y9.ty _ om,Oe];exact X4.ty c hc
  .clear e1 e2 e4 e5;rintro av ts h4 ⟨i4,g4,r4,a4,X4,n4⟩ ⟨e1,e2,e4,e5,e6,-⟩;rw[dL]at i4;exact⟨av,e4,e5,i4,g4,r4,X4⟩
 clear e1 e2 e4 e5;rintro ts h4 ⟨av,e4,e5,i4,g4,r4,X4⟩;have rg:ar h4 (h.next+2) 0 2=some [.int .i64 n,av]:=by rw[bC g4];rfl
 have w4:bV h4 (h.next+1) 0 [.int .i64 n,av]=some (h4.put (h.next+1) (.cells [.int .i64 n,av] 2 false)):=by rw[fI r4];rfl
 have u4:=Oi (o:=.cells [.int .i64 n,av] 2 false) r4;refine ai (aE (by simp only[am,aJ,simprocAttr,e4,e5,rg,w4,i4.cells.2]<;>rfl) ?_);generalize h4.put (h.next+1) (.cells [.int .i64 n,av] 2 false)=h5 at *
 have r5:ar h5 (h.next+1) 0 2=some [.int .i64 n,av]:=by rw[bC u4.get];rfl
 exact bP ⟨.agg [.int .i64 n,av],(by simp only[rs,rf8,am,aJ,simprocAttr,e4,r5]<;>rfl),av,rfl,IsSl.sl om IG (i4.upd u4 om),X4.trans (u4.ext om)⟩
open Go.Am
theorem slc{lo hi mx:Option AV}(hk:∀b o n c,v=.sl b o n c->h'.get b=h.get b):slV h' e v lo hi mx=slV h e v lo hi mx:=by
 cases v with
 |sl b o n c=>simp only[slV,hk b o n c rfl]
 |_=>rfl
theorem Cz(hs:Sl h e v xs):AV.same v v=true:=by
 rcases hs with⟨_,rfl|rfl⟩|⟨b,o,c,cs,ro,rfl,_⟩
 .rfl
 .rfl
 .exact xn
theorem Gh(hs:Sl h e v xs):InB (λb=>b<h.next) v:=by
 rcases hs with⟨_,rfl|rfl⟩|⟨b,o,c,cs,ro,rfl,hg,_⟩
 .trivial
 .trivial
 .exact AH.lt_of_get hg
theorem zM(l:List Int):((l.map eI).flatten).all AV.one=true:=by
 rw[cF];intro x hx;obtain⟨y,hy,hx⟩:=fk.1 hx;obtain⟨z,_,rfl⟩:=bh.1 hy;simp only[eI,aw,aZ,or_false]at hx;subst hx;rfl
theorem wy(l:List Int):(l.map eI).flatten=l.flatMap eI:=by rw[Jy]
theorem catA{x:AV}{K:Nat}(hx:SlI h x a)(hl:a.length<2^30)(hK:1<=K) :
 ∃m1 v' m2,m1=(h.keep K).put h.next (.cells [] 1 false)/\(h.keep K).get h.next=some .resv/\gI m1 1 8 (.sl h.next 0 0 0) x=some (v',m2)/\IsSl m2 1 h.next v' (a.flatMap eI)/\Ext h.next h m2/\(∀c,h.next<c->c<h.next+K->m2.get c=some .resv)/\h.next+K<=m2.next:=by
 have kn:(h.keep K).next=h.next+K:=AH.keep_next K h;have kg:∀c,(h.keep K).get c=if h.next<=c/\c<h.next+K then some .resv else h.get c:=λc=>AH.keep_get K h
 have q0:(h.keep K).get h.next=some .resv:=by rw[kg,if_pos ⟨om,om⟩]
 have v1:=Oi (o:=.cells [] 1 false) q0;obtain⟨m1,hm1⟩:∃m,m=(h.keep K).put h.next (.cells [] 1 false):=⟨_,rfl⟩
 rw[<-hm1]at v1;have hi:IsSl m1 1 h.next (.sl h.next 0 0 0) []:=.inr ⟨h.next,0,ab _,rfl,v1.get,rfl⟩;have hx1:SlI m1 x a:=hx.cong λb o n c e=>by
  have:=hx.lt e;rw[v1.ne om,kg,if_neg om]
 have n1:m1.next=h.next+K:=by rw[v1.nx,kn]
 obtain⟨v',m2,a2,i2,x2,n2,s2⟩:=apps (bytes:=8) hi om om hx1 (zM a) (by simp only[aQ,ah];unfold bd;omega) (by simp only[aQ,ah];unfold bd;omega);refine⟨m1,v',m2,hm1,q0,a2,?_,⟨om,λc hc=>?_,λc hc=>?_⟩,λc h1 h2=>?_,om⟩
 .rwa [bz,wy]at i2
 .rw[x2.gt _ hc,v1.ne om,kg,if_neg om]
 .rw[x2.ty _ hc,v1.ty];exact Oe K h
 .rw[s2 c om (λb n e=>by cases e;omega),v1.ne om,kg,if_pos ⟨om,h2⟩]
theorem MP(hv:IsSl h 1 lo v (a.flatMap eI)):SlI h v a:=IsSl.sl (f:=eI) om (λ_=>rfl) hv
open Go.Am
theorem lF{α:Type}(p:List Bool)(x:α):(T.nil:T α).set p x=(T.node .nil none .nil).set p x:=by
 cases p with
 |nil=>rfl
 |cons b p=>cases b<;>rfl
theorem set_same{α:Type}(x y:α):∀(p:List Bool) (t:T α),(t.set p x).set p y=t.set p y:=by
 intro p;induction p with
 |nil =>
   intro t;cases t<;>rfl
 |cons b p ih =>
   intro t;cases t with
   |nil =>
     rw[lF,lF (b::p) y];have i0:=ih .nil;simp only[T.set]at i0;cases b<;>simp only[T.set,i0]
   |node l v r=>cases b<;>simp only[T.set,ih]
theorem set_comm{α:Type}(x y:α):∀(p q:List Bool) (t:T α),p≠q->(t.set p x).set q y=(t.set q y).set p x:=by
 intro p;induction p with
 |nil =>
   intro q t h;cases q with
   |nil=>exact absurd rfl h
   |cons b q =>
     cases t with
     |nil =>
       rw[lF,lF (b::q) y];cases b<;>rfl
     |node l v r=>cases b<;>rfl
 |cons a p ih =>
   intro q t h;cases q with
   |nil =>
     cases t with
     |nil =>
       rw[lF,lF [] y];cases a<;>rfl
     |node l v r=>cases a<;>rfl
   |cons b q =>
     have key:∀(l r:T α) (v:Option α),((T.node l v r).set (a::p) x).set (b::q) y=((T.node l v r).set (b::q) y).set (a::p) x:=by
      intro l r v;cases a<;>cases b
      .simp only[T.set];rw[ih q r (λe=>h (by rw[e]))]
      .simp only[T.set]
      .simp only[T.set]
      .simp only[T.set];rw[ih q l (λe=>h (by rw[e]))]
     cases t with
     |nil =>
       rw[lF,lF (b::q) y];exact key _ _ _
     |node l v r=>exact key _ _ _
theorem CM{n:Nat}(h:m≠n):fW m≠fW n:=λe=>h (gT.1 e)
theorem KH{a:AO}(hm:m≠h.next):(h.new a).put m o=(h.put m o).new a:=by
 unfold AH.put AH.new;simp only;rw[set_comm _ _ _ _ _ (CM (Ne.symm hm))]
theorem KY{a:AO}:(h.new a).put h.next o=h.new o:=by
 unfold AH.put AH.new;simp only;rw[set_same]
theorem zG:∀(k:Nat) (h:AH) (m:Nat) (o:AO),m<h.next->(h.keep k).put m o=(h.put m o).keep k
 |0,_,_,_,_=>rfl
 |k+1,h,m,o,hm=>by
   show((h.new .resv).keep k).put m o=((h.put m o).new .resv).keep k;rw[zG k (h.new .resv) m o (by simp;omega),KH om]
theorem KG{n:Nat}{a b:AO}(hmn:m≠n):(h.put m a).put n b=(h.put n b).put m a:=by
 unfold AH.put;simp only;rw[set_comm _ _ _ _ _ (CM hmn)]
def qt:List AO->Nat->List (Nat×AO×Option Nat)
 |[],_=>[]
 |o::r,n=>(n,o,none)::qt r (n+1)
theorem yF:∀(os:List AO) (n:Nat),(qt os n).map (·.1)=List.range' n os.length
 |[],n=>rfl
 |o::r,n=>by rw[qt,bm,yF r,aA,List.range'_succ]
theorem zc:∀(Z:List AO) (n:Nat) (h:AH) (m:Nat) (o:AO),m<n->jw (qt Z n) (h.put m o)=(jw (qt Z n) h).put m o
 |[],_,_,_,_,_=>rfl
 |a::r,n,h,m,o,hm=>by
   show((jw (qt r (n+1)) (h.put m o))).put n a=(((jw (qt r (n+1)) h)).put n a).put m o;rw[zc r (n+1) h m o om,KG om]
theorem vQ:∀(os:List AO) (h:AH),news os h=jw (qt os h.next) (h.keep os.length)
 |[],h=>rfl
 |o::r,h=>by
   show news r (h.new o)=(jw (qt r (h.next+1)) ((h.new .resv).keep r.length)).put h.next o;rw[vQ r (h.new o),<-zc _ _ _ _ _ om,zG _ _ _ _ (by simp),KY];rfl
theorem Sl.stay(hk:∀b o,h.get b=some o->h'.get b=some o)(hs:Sl h e v xs):Sl h' e v xs:=by
 rcases hs with hs|⟨b,o,c,cs,ro,h1,h2,h3⟩
 .exact .inl hs
 .exact .inr ⟨b,o,c,cs,ro,h1,hk _ _ h2,h3⟩
theorem Hz{a:AO}:(news os h).new a=news (os++[a]) h:=by
 induction os generalizing h with
 |nil=>rfl
 |cons o r ih=>exact ih
theorem DI{f:FuncId}{S0:AH}(hg:GoodS prg ⟨.call f [] S0,[]⟩)(hS:S0=AH.zero.keep m)(hl:os.length=m)(hm:0<m) :
 C prg f [] (news os AH.zero) λv h'=>v=.bool true/\8+m<=h'.next/\∀b o,(news os AH.zero).get b=some o->h'.get b=some o:=by
 have he:news os AH.zero=jw (qt os 8) S0:=by
  rw[vQ,hl,hS];rfl
 have hfst:(qt os 8).map (·.1)=List.range' 8 m:=by rw[yF,hl]
 have hmem:∀b,b∈(qt os 8).map (·.1)↔8<=b/\b<8+m:=λb=>by
  rw[hfst,List.mem_range'_1]
 have h8:AH.zero.next=8:=rfl;rw[he];refine(C.of_goodS hg (qt os 8) (by rw[hfst];exact List.nodup_range') (λx hx=>?_)).mono λv h' ⟨e1,e2⟩=>⟨e1,?_,λb o hb=>?_⟩
 .have:=(hmem x.1).1 (bh.2 ⟨x,hx,rfl⟩);rw[hS,AH.keep_get,if_pos ⟨om,om⟩]
 .have:=(e2 (8+m-1) ((hmem _).2 om)).1;omega
 .have hbl:b<8+m:=by
   have:=AH.lt_of_get hb;rw[kJ,hS,AH.keep_next]at this;omega
  by_cases h8:8<=b
  .rw[(e2 b ((hmem b).2 ⟨h8,hbl⟩)).2];exact hb
  .exfalso;rw[<-he,zr _ _ _ (show b<AH.zero.next from by show b<8;omega),AH.get_zero]at hb;cases hb
open Go.Am
set_option maxRecDepth 100000
def skH0:AH:=oY ⟨11,.nil,.nil⟩ 11 ([8,9,10].map (λn=>(n,AO.resv))++[]) []
def skS0:PS:=⟨.call 4 [] skH0,[]⟩
def skU0(h:AH):AH:=oY h 11 [] []
def skG1:List Nat:=gOf [(11,21),(35,509)]
def skU1(h:AH):AH:=oY (skU0 h) 547 ([].map (λn=>(n,AO.resv))++[(32,(.cells [(iv 0),(iv 1),(iv 0),(iv 2),(iv 0),(iv 3),(iv 0),(iv 4),(iv 1),(iv 2),(iv 1),(iv 3),(iv 1),(iv 4),(iv 2),(iv 3),(iv 2),(iv 4),(iv 3),(iv 4)] 2 false)),(33,(.cells [(iv 5),(.sl 32 0 10 10)] 2 false)),(34,(.cells [(iv 5),(.sl 32 0 10 10)] 2 false)),(544,.dead),(545,(.cells [(iv 9)] 1 false)),(546,(.cells [(iv 0),(iv 1),(iv 2),(iv 3),(iv 4),(iv 5),(iv 6),(iv 7),(iv 8),(iv 9)] 1 false))]) []
def skH1:AH:=skU1 (frH 547)
def uV:PFr:=(.seqK 10 [1,0,0,1,0,0,1,0,1,1,1,1,1])
def uU:PFr:=(.seqK 10 [1,1,0,0,1,0,1,1,1,1,1])
def uT:PFr:=(.loopK 10 [0,0,1,0,1,1,1,1,1])
def uQ:PFr:=(.seqK 10 [1,1,1,1,1,1])
def uP:PFr:=(.opsK 34 4 [0,1,1] 1 (qx [(0,(.bool false)),(1,(.ptr 33 0)),(4,(.agg [(iv 5),(.sl 32 0 10 10)])),(6,(.agg [(iv 5),(.sl 32 0 10 10)]))]))
def skT1:List (Nat×AV):=[(0,(.agg [(iv 5),(.sl 32 0 10 10)])),(1,(.ptr 34 0)),(2,.nils),(3,(iv 0)),(4,(.sl 546 0 10 10)),(5,(iv 9)),(6,(.sl 32 0 10 10)),(9,(.bool false)),(10,(.agg [(iv 5),(.sl 32 0 10 10)])),(11,(.bool true)),(12,(.bool false)),(13,(.bool false)),(14,(.agg [(iv 5),(.sl 32 0 10 10)])),(15,(.bool false)),(16,(.ptr 34 1)),(17,(.sl 32 0 10 10)),(18,(iv 10)),(19,(iv 10)),(20,(.bool false)),(21,(iv 9)),(22,(.sl 544 0 9 9)),(23,(iv 9)),(24,(.sl 545 0 1 1)),(25,(.sl 546 0 10 10)),(26,(iv 10)),(27,(.ptr 34 1)),(28,(.sl 32 0 10 10)),(29,(.ptr 34 1)),(30,(.sl 32 0 10 10)),(31,(iv 10)),(32,(iv 9)),(34,(.bool true)),(37,(.sl 32 0 10 10))]
def skS1:PS:=⟨.call 15 [(.sl 32 0 10 10),(iv 9)] skH1,[(.opsK 547 10 [0,0,0,1,0,0,1,0,1,1,1,1,1] 2 (qx (skT1++[(7,(iv 9)),(33,(iv 9)),(38,(iv 9))]))),uV,(.blockK 4),uU,uT,(.blockK 3),uQ,(.callK 10),uP,(.seqK 4 [1,1,1]),(.callK 4)]⟩
def skG2:List Nat:=gOf [(547,1),(549,763)]
def skU2(h:AH):AH:=oY (skU1 h) 1312 ([].map (λn=>(n,AO.resv))++[(548,(.cells [(iv 0),(iv 1),(iv 0),(iv 2),(iv 0),(iv 3),(iv 0),(iv 4),(iv 1),(iv 2),(iv 1),(iv 3),(iv 1),(iv 4),(iv 2),(iv 3),(iv 2),(iv 4),(iv 0),(iv 0)] 2 false))]) []
def skH2:AH:=skU2 (frH 1312)
def skS2:PS:=⟨.call 15 [(.sl 32 0 10 10),(iv 8)] skH2,[(.opsK 1312 10 [0,0,0,1,0,0,1,0,1,1,1,1,1] 2 (qx (skT1++[(7,(iv 8)),(8,(.sl 548 0 9 10)),(33,(iv 8)),(35,(iv 9)),(36,(iv 8)),(38,(iv 8)),(39,(.sl 548 0 9 10)),(40,(.ptr 34 0)),(41,(iv 5)),(42,(.sl 548 0 9 10)),(43,(.agg [(iv 5),(.sl 548 0 9 10)])),(44,(.bool true)),(45,(.bool false))]))),uV,(.blockK 4),uU,uT,(.blockK 3),uQ,(.callK 10),uP,(.seqK 4 [1,1,1]),(.callK 4)]⟩
def skG3:List Nat:=gOf [(548,1),(1312,1),(1314,747)]
def skU3(h:AH):AH:=oY (skU2 h) 2061 ([548].map (λn=>(n,AO.resv))++[(1313,(.cells [(iv 0),(iv 1),(iv 0),(iv 2),(iv 0),(iv 3),(iv 0),(iv 4),(iv 1),(iv 2),(iv 1),(iv 3),(iv 1),(iv 4),(iv 2),(iv 3),(iv 3),(iv 4),(iv 0),(iv 0)] 2 false))]) []
def skH3:AH:=skU3 (frH 2061)
def skS3:PS:=⟨.call 15 [(.sl 32 0 10 10),(iv 7)] skH3,[(.opsK 2061 10 [0,0,0,1,0,0,1,0,1,1,1,1,1] 2 (qx (skT1++[(7,(iv 7)),(8,(.sl 1313 0 9 10)),(33,(iv 7)),(35,(iv 8)),(36,(iv 7)),(38,(iv 7)),(39,(.sl 1313 0 9 10)),(40,(.ptr 34 0)),(41,(iv 5)),(42,(.sl 1313 0 9 10)),(43,(.agg [(iv 5),(.sl 1313 0 9 10)])),(44,(.bool true)),(45,(.bool false))]))),uV,(.blockK 4),uU,uT,(.blockK 3),uQ,(.callK 10),uP,(.seqK 4 [1,1,1]),(.callK 4)]⟩
def skG4:List Nat:=gOf [(1313,1),(2061,1),(2063,729)]
def skU4(h:AH):AH:=oY (skU3 h) 2792 ([1313].map (λn=>(n,AO.resv))++[(2062,(.cells [(iv 0),(iv 1),(iv 0),(iv 2),(iv 0),(iv 3),(iv 0),(iv 4),(iv 1),(iv 2),(iv 1),(iv 3),(iv 1),(iv 4),(iv 2),(iv 4),(iv 3),(iv 4),(iv 0),(iv 0)] 2 false))]) []
def skH4:AH:=skU4 (frH 2792)
def skS4:PS:=⟨.call 15 [(.sl 32 0 10 10),(iv 6)] skH4,[(.opsK 2792 10 [0,0,0,1,0,0,1,0,1,1,1,1,1] 2 (qx (skT1++[(7,(iv 6)),(8,(.sl 2062 0 9 10)),(33,(iv 6)),(35,(iv 7)),(36,(iv 6)),(38,(iv 6)),(39,(.sl 2062 0 9 10)),(40,(.ptr 34 0)),(41,(iv 5)),(42,(.sl 2062 0 9 10)),(43,(.agg [(iv 5),(.sl 2062 0 9 10)])),(44,(.bool true)),(45,(.bool false))]))),uV,(.blockK 4),uU,uT,(.blockK 3),uQ,(.callK 10),uP,(.seqK 4 [1,1,1]),(.callK 4)]⟩
def skG5:List Nat:=gOf [(2062,1),(2792,1),(2794,738)]
def skU5(h:AH):AH:=oY (skU4 h) 3532 ([2062].map (λn=>(n,AO.resv))++[(2793,(.cells [(iv 0),(iv 1),(iv 0),(iv 2),(iv 0),(iv 3),(iv 0),(iv 4),(iv 1),(iv 2),(iv 1),(iv 3),(iv 2),(iv 3),(iv 2),(iv 4),(iv 3),(iv 4),(iv 0),(iv 0)] 2 false))]) []
def skH5:AH:=skU5 (frH 3532)
def skS5:PS:=⟨.call 15 [(.sl 32 0 10 10),(iv 5)] skH5,[(.opsK 3532 10 [0,0,0,1,0,0,1,0,1,1,1,1,1] 2 (qx (skT1++[(7,(iv 5)),(8,(.sl 2793 0 9 10)),(33,(iv 5)),(35,(iv 6)),(36,(iv 5)),(38,(iv 5)),(39,(.sl 2793 0 9 10)),(40,(.ptr 34 0)),(41,(iv 5)),(42,(.sl 2793 0 9 10)),(43,(.agg [(iv 5),(.sl 2793 0 9 10)])),(44,(.bool true)),(45,(.bool false))]))),uV,(.blockK 4),uU,uT,(.blockK 3),uQ,(.callK 10),uP,(.seqK 4 [1,1,1]),(.callK 4)]⟩
def skG6:List Nat:=gOf [(2793,1),(3532,1),(3534,729)]
def skU6(h:AH):AH:=oY (skU5 h) 4263 ([2793].map (λn=>(n,AO.resv))++[(3533,(.cells [(iv 0),(iv 1),(iv 0),(iv 2),(iv 0),(iv 3),(iv 0),(iv 4),(iv 1),(iv 2),(iv 1),(iv 4),(iv 2),(iv 3),(iv 2),(iv 4),(iv 3),(iv 4),(iv 0),(iv 0)] 2 false))]) []
def skH6:AH:=skU6 (frH 4263)
def skS6:PS:=⟨.call 15 [(.sl 32 0 10 10),(iv 4)] skH6,[(.opsK 4263 10 [0,0,0,1,0,0,1,0,1,1,1,1,1] 2 (qx (skT1++[(7,(iv 4)),(8,(.sl 3533 0 9 10)),(33,(iv 4)),(35,(iv 5)),(36,(iv 4)),(38,(iv 4)),(39,(.sl 3533 0 9 10)),(40,(.ptr 34 0)),(41,(iv 5)),(42,(.sl 3533 0 9 10)),(43,(.agg [(iv 5),(.sl 3533 0 9 10)])),(44,(.bool true)),(45,(.bool false))]))),uV,(.blockK 4),uU,uT,(.blockK 3),uQ,(.callK 10),uP,(.seqK 4 [1,1,1]),(.callK 4)]⟩
def skG7:List Nat:=gOf [(3533,1),(4263,1),(4265,737)]
def skU7(h:AH):AH:=oY (skU6 h) 5002 ([3533].map (λn=>(n,AO.resv))++[(4264,(.cells [(iv 0),(iv 1),(iv 0),(iv 2),(iv 0),(iv 3),(iv 0),(iv 4),(iv 1),(iv 3),(iv 1),(iv 4),(iv 2),(iv 3),(iv 2),(iv 4),(iv 3),(iv 4),(iv 0),(iv 0)] 2 false))]) []
def skH7:AH:=skU7 (frH 5002)
def skS7:PS:=⟨.call 15 [(.sl 32 0 10 10),(iv 3)] skH7,[(.opsK 5002 10 [0,0,0,1,0,0,1,0,1,1,1,1,1] 2 (qx (skT1++[(7,(iv 3)),(8,(.sl 4264 0 9 10)),(33,(iv 3)),(35,(iv 4)),(36,(iv 3)),(38,(iv 3)),(39,(.sl 4264 0 9 10)),(40,(.ptr 34 0)),(41,(iv 5)),(42,(.sl 4264 0 9 10)),(43,(.agg [(iv 5),(.sl 4264 0 9 10)])),(44,(.bool true)),(45,(.bool false))]))),uV,(.blockK 4),uU,uT,(.blockK 3),uQ,(.callK 10),uP,(.seqK 4 [1,1,1]),(.callK 4)]⟩
def skG8:List Nat:=gOf [(4264,1),(5002,1),(5004,736)]
def skU8(h:AH):AH:=oY (skU7 h) 5740 ([4264].map (λn=>(n,AO.resv))++[(5003,(.cells [(iv 0),(iv 1),(iv 0),(iv 2),(iv 0),(iv 3),(iv 1),(iv 2),(iv 1),(iv 3),(iv 1),(iv 4),(iv 2),(iv 3),(iv 2),(iv 4),(iv 3),(iv 4),(iv 0),(iv 0)] 2 false))]) []
def skH8:AH:=skU8 (frH 5740)
def skS8:PS:=⟨.call 15 [(.sl 32 0 10 10),(iv 2)] skH8,[(.opsK 5740 10 [0,0,0,1,0,0,1,0,1,1,1,1,1] 2 (qx (skT1++[(7,(iv 2)),(8,(.sl 5003 0 9 10)),(33,(iv 2)),(35,(iv 3)),(36,(iv 2)),(38,(iv 2)),(39,(.sl 5003 0 9 10)),(40,(.ptr 34 0)),(41,(iv 5)),(42,(.sl 5003 0 9 10)),(43,(.agg [(iv 5),(.sl 5003 0 9 10)])),(44,(.bool true)),(45,(.bool false))]))),uV,(.blockK 4),uU,uT,(.blockK 3),uQ,(.callK 10),uP,(.seqK 4 [1,1,1]),(.callK 4)]⟩
def skG9:List Nat:=gOf [(5003,1),(5740,1),(5742,735)]
def skU9(h:AH):AH:=oY (skU8 h) 6477 ([5003].map (λn=>(n,AO.resv))++[(5741,(.cells [(iv 0),(iv 1),(iv 0),(iv 2),(iv 0),(iv 4),(iv 1),(iv 2),(iv 1),(iv 3),(iv 1),(iv 4),(iv 2),(iv 3),(iv 2),(iv 4),(iv 3),(iv 4),(iv 0),(iv 0)] 2 false))]) []
def skH9:AH:=skU9 (frH 6477)
def skS9:PS:=⟨.call 15 [(.sl 32 0 10 10),(iv 1)] skH9,[(.opsK 6477 10 [0,0,0,1,0,0,1,0,1,1,1,1,1] 2 (qx (skT1++[(7,(iv 1)),(8,(.sl 5741 0 9 10)),(33,(iv 1)),(35,(iv 2)),(36,(iv 1)),(38,(iv 1)),(39,(.sl 5741 0 9 10)),(40,(.ptr 34 0)),(41,(iv 5)),(42,(.sl 5741 0 9 10)),(43,(.agg [(iv 5),(.sl 5741 0 9 10)])),(44,(.bool true)),(45,(.bool false))]))),uV,(.blockK 4),uU,uT,(.blockK 3),uQ,(.callK 10),uP,(.seqK 4 [1,1,1]),(.callK 4)]⟩
def skG10:List Nat:=gOf [(5741,1),(6477,1),(6479,735)]
def Mr(h:AH):AH:=oY (skU9 h) 7214 ([5741].map (λn=>(n,AO.resv))++[(6478,(.cells [(iv 0),(iv 1),(iv 0),(iv 3),(iv 0),(iv 4),(iv 1),(iv 2),(iv 1),(iv 3),(iv 1),(iv 4),(iv 2),(iv 3),(iv 2),(iv 4),(iv 3),(iv 4),(iv 0),(iv 0)] 2 false))]) []
def skH10:AH:=Mr (frH 7214)
def Mt:PS:=⟨.call 15 [(.sl 32 0 10 10),(iv 0)] skH10,[(.opsK 7214 10 [0,0,0,1,0,0,1,0,1,1,1,1,1] 2 (qx (skT1++[(7,(iv 0)),(8,(.sl 6478 0 9 10)),(33,(iv 0)),(35,(iv 1)),(36,(iv 0)),(38,(iv 0)),(39,(.sl 6478 0 9 10)),(40,(.ptr 34 0)),(41,(iv 5)),(42,(.sl 6478 0 9 10)),(43,(.agg [(iv 5),(.sl 6478 0 9 10)])),(44,(.bool true)),(45,(.bool false))]))),uV,(.blockK 4),uU,uT,(.blockK 3),uQ,(.callK 10),uP,(.seqK 4 [1,1,1]),(.callK 4)]⟩
def skG11:List Nat:=gOf [(34,1),(544,2),(6478,1),(7214,743)]
def Mq(h:AH):AH:=oY (Mr h) 7957 ([34,544,545,6478].map (λn=>(n,AO.resv))++[]) []
def skH11:AH:=Mq (frH 7957)
def skF6:PFr:=(.opsK 7957 4 [0,1,1,1] 10 (qx [(0,(.bool false)),(1,(.ptr 33 0)),(2,(.sl 546 0 10 10)),(3,(iv 0)),(4,(.agg [(iv 5),(.sl 32 0 10 10)])),(5,(.tup [(.sl 546 0 10 10),(iv 0)])),(6,(.agg [(iv 5),(.sl 32 0 10 10)])),(7,(.tup [(.sl 546 0 10 10),(iv 0)])),(8,(.sl 546 0 10 10)),(9,(iv 0)),(10,(iv 0)),(11,(.bool true)),(12,(.bool true)),(13,(.sl 546 0 10 10)),(14,(iv 10)),(15,(.bool true)),(16,(.bool true)),(17,(.bool true)),(18,(.agg [(iv 5),(.sl 32 0 10 10)])),(19,(.sl 546 0 10 10))]))
def Ms:PS:=⟨.call 11 [(.agg [(iv 5),(.sl 32 0 10 10)]),(.sl 546 0 10 10)] skH11,[skF6,(.seqK 4 [1,1,1,1]),(.callK 4)]⟩
def skG12:List Nat:=gOf [(7958,1),(7961,17),(7979,14),(7994,9),(8004,4),(8009,1)]
def Mp(h:AH):AH:=oY (Mq h) 8012 ([].map (λn=>(n,AO.resv))++[(7957,(.cells [(iv 5),(.sl 32 0 10 10)] 2 false)),(7959,(.mapo [((iv 0),(.sl 7978 0 4 4),0),((iv 1),(.sl 7993 0 4 4),1),((iv 2),(.sl 8003 0 4 4),2),((iv 3),(.sl 8008 0 4 4),3),((iv 4),(.sl 8010 0 4 4),4)] 5)),(7960,(.cells [(iv 5),(.sl 32 0 10 10),(.mp 7959)] 3 false)),(7978,(.cells [(iv 0),(iv 1),(iv 2),(iv 3)] 1 false)),(7993,(.cells [(iv 0),(iv 4),(iv 5),(iv 6)] 1 false)),(8003,(.cells [(iv 1),(iv 4),(iv 7),(iv 8)] 1 false)),(8008,(.cells [(iv 2),(iv 5),(iv 7),(iv 9)] 1 false)),(8010,(.cells [(iv 3),(iv 6),(iv 8),(iv 9)] 1 false)),(8011,(.mapo [] 0))]) []
def skH12:AH:=Mp (frH 8012)
def skF7:PFr:=(.opsK 8012 11 [0,0,1,1,1,1] 1 (qx [(0,(.agg [(iv 5),(.sl 32 0 10 10)])),(1,(.sl 546 0 10 10)),(2,(.ptr 7957 0)),(4,(iv 0)),(5,(.ptr 7960 0)),(6,(.bool true)),(7,(.mp 8011)),(12,(.tup [(.ptr 7960 0),(.bool true)])),(13,(.agg [(iv 5),(.sl 32 0 10 10)])),(14,(.sl 546 0 10 10)),(15,(.tup [(.ptr 7960 0),(.bool true)])),(16,(.ptr 7960 0)),(17,(.bool true)),(18,(.bool true)),(19,(.bool false)),(20,(.mp 8011)),(22,(.ptr 7960 0))]))
def skF8:PFr:=(.seqK 11 [1,0,1,1,1,1])
def skF9:PFr:=(.seqK 11 [1,1,1,1,1])
def sY:PS:=⟨.call 18 [(.ptr 7960 0),(iv 4)] skH12,[skF7,skF8,skF9,(.callK 11),skF6,(.seqK 4 [1,1,1,1]),(.callK 4)]⟩
def yP:List Nat:=gOf [(8012,10)]
def skU13(h:AH):AH:=oY (Mp h) 8023 ([].map (λn=>(n,AO.resv))++[(8022,(.cells [(iv 0),(iv 1),(iv 2),(iv 3),(iv 4)] 1 false))]) []
def skH13:AH:=skU13 (frH 8023)
def vz:PS:=⟨.out (.val (.tup [(.sl 8022 0 5 5),(.bool true)]) skH13),[skF7,skF8,skF9,(.callK 11),skF6,(.seqK 4 [1,1,1,1]),(.callK 4)]⟩
end Go.Proofs.YtcfncejilmimpaaGreat
