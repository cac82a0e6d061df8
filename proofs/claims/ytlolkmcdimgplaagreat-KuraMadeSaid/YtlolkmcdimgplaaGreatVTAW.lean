/- planar.Plain, arborref07.Plain -/
import Derived.Test.YtlolkmcdimgplaaGreatVTAV
set_option linter.all false
namespace Go.Proofs.YtlolkmcdimgplaaGreat
open Go.Am
open Go.Spl (addG addAllG_len addAllG_mem addAllG_nodup)
variable {E:List (Int×Int)}{N d n x:Nat}{ev:AV}{h:AH}{nx:Nat->Nat}{out:List (List Nat)}
def mnI(a b:Int):Int:=if b<a then b else a
def mxI(a b:Int):Int:=if b>a then b else a
def mnx(e:Int×Int):Int×Int:=(mnI e.1 e.2,mxI e.1 e.2)
theorem MG{k:IntKind}{a b:Int}:lA mxA [.int k a,.int k b]=some (.int k (if b>a then b else a)):=by
 simp[lA,mxA]
theorem sX{a b:Int×Int}:mnx a=mnx b↔a=b\/(a.1=b.2/\a.2=b.1):=by
 obtain⟨a1,a2⟩:=a;obtain⟨b1,b2⟩:=b;simp only[mnx,mnI,mxI,ak];constructor
 .rintro⟨h1,h2⟩;split at h1<;>split at h1<;>split at h2<;>split at h2<;>omega
 .rintro (⟨rfl,rfl⟩|⟨rfl,rfl⟩)
  .exact⟨rfl,rfl⟩
  .constructor<;>split<;>split<;>omega
def ip(n:Int)(E:List (Int×Int)):Prop:=pM n E=true/\(∀e∈E,e.1≠e.2)/\(E.map mnx).Nodup
set_option maxHeartbeats 1000000 in
theorem vN{n:Int}(he:SlE h ev E)(hxl:E.length<2^40):C prg 11 [.agg [.int .i64 n,ev]] h λr h'=>∃b,r=.bool b/\(b=true↔ip n E)/\Ext h.next h h':=by
 obtain⟨ec,eo⟩:=he.cells;have el:=he.len;rw[ah]at el;refine Ny pf11 ?_;refine ai (aD (Mi0) ?_);have x0:Ext h.next h (h.new (.cells [.int .i64 n,ev] 2 false)):=Nt (ab _);have g0:(h.new (.cells [.int .i64 n,ev] 2 false)).get h.next=some (.cells [.int .i64 n,ev] 2 false):=by rw[AH.get_new,if_pos rfl]
 have n0:(h.new (.cells [.int .i64 n,ev] 2 false)).next=h.next+1:=rfl;generalize (h.new (.cells [.int .i64 n,ev] 2 false))=h1 at *
 have rA:aA h1 h.next 0 2=some [.int .i64 n,ev]:=by rw[bI g0];rfl
 refine ai (ai (bS (bE 1 (Mi1 rA) rfl (Zi1 rA) (Mi1 rA) (Dj (n:=n) (he.ext x0 (ab _)) hxl) λr h2 hq=>?_)));obtain⟨rfl,x2⟩:=hq;have X2:Ext h.next h h2:=x0.trans (x2.mono om);refine bM (M0) ?_;cases hm:pM n E with
 |false =>
   refine dv (Z0) (ai (aD (M0) ?_));exact bU ⟨.bool false,(by simp only[rs,rf11,am,aI,simprocAttr]<;>rfl),false,rfl,⟨(λq=>by cases q),λq=>by rw[q.1]at hm;cases hm⟩,X2⟩
 |true =>
 refine dR (Z0) (bQ ?_);have n2:=x2.nx;have g2:h2.get h.next=some (.cells [.int .i64 n,ev] 2 false):=by rw[x2.gt _ om];exact g0
 have rE:aA h2 h.next 1 1=some [ev]:=bJ g2 rfl;have x3:Ext h2.next h2 (h2.new (.mapo [] 0)):=Nt (ab _);have g3:(h2.new (.mapo [] 0)).get h2.next=some (.mapo [] 0):=by rw[AH.get_new,if_pos rfl]
 have n3:(h2.new (.mapo [] 0)).next=h2.next+1:=rfl;refine ai (aD (M0) ?_);generalize (h2.new (.mapo [] 0))=h3 at *
 have rE3:aA h3 h.next 1 1=some [ev]:=by rw[cU (x3.gt _ om)];exact rE
 have X3:Ext h.next h h3:=X2.trans (x3.mono om);refine ai (ai (aD (Mi2 rE3 el) ?_))
 refine gA (α:=List ((Int×Int)×AV)) (N:=E.length) (λ_ _=>[(1,.ptr h.next 0),(3,.mp h2.next),(11,ev)])
  (λk l h'=>MapG (λk:Int×Int=>AV.agg [.int .i64 k.1,.int .i64 k.2]) h' h2.next l/\l.map (·.1)=((E.take k).map mnx).foldl addG []/\(∀p∈l,∃z,p.2=.int .i64 z)/\(∀i (hi:i<E.length),i<k->E[i].1≠E[i].2)/\h'.get h.next=some (.cells [.int .i64 n,ev] 2 false)/\Ext h.next h h'/\h3.next<=h'.next) [] (λ_ _=>rfl) om (Hi0)
  ⟨MapG.nil g3,rfl,(λp hp=>by cases hp),(λi hi q=>absurd q (gY _)),by rw[x3.gt _ om];exact g2,X3,ab _⟩ ?_ ?_
 .rintro k l ts h4 hk ⟨j1,j2,j3,j4,j5,j6,j7⟩ ⟨ei,en,e1,e3,e11,-⟩;simp only at ei en e1 e3 e11;obtain⟨b1,p1,a1,r1,_⟩:=(he.ext j6 (ab _)).at (fR (f:=eE) hk);have hst:(((E.take (k+1)).map mnx).foldl addG [])=addG (((E.take k).map mnx).foldl addG []) (mnx E[k]):=by
   rw[bu hk,bR,eW];rfl
  have hEk:E[k]∈E:=aO hk;have hj4:E[k].1≠E[k].2->∀i (hi:i<E.length),i<k+1->E[i].1≠E[i].2:=λq i hi hik=>by
   by_cases e:i=k
   .subst e;exact q
   .exact j4 i hi om
  generalize E[k]=e at *
  obtain⟨a,b⟩:=e;have r1:aA h4 b1 p1 2=some [.int .i64 a,.int .i64 b]:=r1;obtain⟨h5,w5,x5,g5,n5⟩:=gv (h:=h4) (z:=[.int .i64 0,.int .i64 0]) (cs:=[.int .i64 a,.int .i64 b]) (e:=2) rfl;refine cA (ai (aD (M5 e11 ei a1 r1 w5) ?_));have ra:aA h5 h4.next 0 1=some [.int .i64 a]:=bJ g5 rfl;have rb:aA h5 h4.next 1 1=some [.int .i64 b]:=bJ g5 rfl;have m5:=j1.cong (x5.gt _ j1.lt);have hlk:∃z,(lkG l (mnx (a,b))).getD (AV.int .i64 0)=.int .i64 z:=by
   cases q:lkG l (mnx (a,b))with
   |none=>exact⟨0,rfl⟩
   |some v =>
     obtain⟨z,hz⟩:=j3 _ (xM q);exact⟨z,hz⟩
  obtain⟨z,hz⟩:=hlk;have lk:=m5.look keyP (.int .i64 0) (mnx (a,b));obtain⟨h6,sn,m6,⟨o6,u6⟩,lk6,hm6⟩:=m5.men keyP (.int .i64 0) (mnx (a,b));rw[hz]at lk m6 lk6;obtain⟨h7,s7,m7,o7,u7⟩:=hm6 (.int .i64 (IntKind.i64.wrap (z+1)));have lk:jr h5 (.flat [.i64,.i64]) false (.int .i64 0) (.mp h2.next) (.agg [.int .i64 (if b<a then b else a),.int .i64 (if b>a then b else a)])=some (.int .i64 z):=lk;have m6:zK h5 (.flat [.i64,.i64]) (.int .i64 0) (.mp h2.next) (.agg [.int .i64 (if b<a then b else a),.int .i64 (if b>a then b else a)])=some (.tup [.int .i64 z,.int .i64 ((sn:Nat):Int)],h6):=m6;have lk6:jr h6 (.flat [.i64,.i64]) false (.int .i64 0) (.mp h2.next) (.agg [.int .i64 (if b<a then b else a),.int .i64 (if b>a then b else a)])=some (.int .i64 z):=lk6;refine ai (aD (M10 e3 ra rb @MH @MG lk m6 lk6 s7 s7) ?_);have hmb:=j1.lt;have ra7:aA h7 h4.next 0 1=some [.int .i64 a]:=by rw[cU (u7.ne om),cU (u6.ne om)];exact ra
  have rb7:aA h7 h4.next 1 1=some [.int .i64 b]:=by rw[cU (u7.ne om),cU (u6.ne om)];exact rb
  have X7:Ext h.next h h7:=((j6.trans (x5.mono (by have:=j6.nx;omega))).trans (u6.ext om)).trans (u7.ext om);by_cases q:a=b
  .have c1:decide (a=b)=true:=bp q;refine ai (aD (M3 ra7 rb7 c1) ?_);refine dv (Z0) (ai (aD (M0) ?_));exact bU ⟨.bool false,(by simp only[rs,rf11,am,aI,simprocAttr]<;>rfl),false,rfl,⟨(λq=>by cases q),λp=>absurd q (p.2.1 _ hEk)⟩,X7⟩
  .have c1:decide (a=b)=false:=aX q;refine ai (aD (M3 ra7 rb7 c1) ?_);refine dR (Z0) (bQ ?_);refine⟨upG l (mnx (a,b)) (.int .i64 (IntKind.i64.wrap (z+1))),⟨m7,?_,λp hp=>?_,hj4 q,?_,X7,?_⟩,H5 ei en e1 e3 e11⟩
   .rw[tw,hst,<-j2];rfl
   .have hn:=m7.nod;have hl:=Dc hn p hp;rw[lw]at hl;split at hl
    .injection hl with hl;exact⟨_,hl.symm⟩
    .exact j3 _ (xM hl)
   .have:=AH.lt_of_get j5;rw[u7.ne om,u6.ne om,x5.gt _ this];exact j5
   .rw[u7.nx,u6.nx,n5];omega
 .rintro l ts h4 ⟨j1,j2,j3,j4,j5,j6,j7⟩ ⟨e1,e3,e11,-⟩;simp only at e1 e3 e11;have rE4:aA h4 h.next 1 1=some [ev]:=bJ j5 rfl;have ml:=j1.len;refine ai (aD (M5 e1 e3 ml rE4 el) ?_);refine bU ⟨.bool (decide (((l.length:Nat):Int)=((E.length:Nat):Int))),(by simp only[rs,rf11,am,aI,simprocAttr]<;>rfl),_,rfl,?_,j6⟩;have hl:=congrArg List.length j2;rw[ah,cZ]at hl;have hk:=(addAllG_len (E.map mnx) []).2;rw[<-hl,ah,aU,cq]at hk;rw[aK];have:(((l.length:Nat):Int)=((E.length:Nat):Int))↔l.length=E.length:=om;rw[this,hk];constructor
  .rintro⟨q,_⟩;exact⟨hm,λe he=>by
    obtain⟨i,hi,rfl⟩:=fK he;exact j4 i hi hi,q⟩
  .exact λq=>⟨q.2.2,λx _ hx=>by cases hx⟩
open Go.Am
open Go.Pla (at_ jn On Rot Pln Bond Link Part Plc Hg Bld Dual Thr Tri Cc it orb Back)
open Go.Blk (Lst canon IsBlock)
theorem GS{hE:InG n E}{hL:∀i,i<E.length->tlE E i≠hdE E i}(hp:(E.map mnx).Nodup):Pln (grE n E hE hL) (List.range E.length) where
 nd:=be
 lt:=λe he=>aq.1 he
 one:=λe he k hk x y h1 h2=>by
  have he:e<E.length:=aq.1 he;have hk:k<E.length:=aq.1 hk;rw[Go.Pla.jn_iff]at h1 h2;have h1:(tlE E e=x/\hdE E e=y)\/(tlE E e=y/\hdE E e=x):=h1;have h2:(tlE E k=x/\hdE E k=y)\/(tlE E k=y/\hdE E k=x):=h2;obtain⟨a1,_,_⟩:=hE e he;obtain⟨b1,_,_⟩:=hE k hk;have:mnx E[e]=mnx E[k]:=by
   rw[sX,a1,b1];simp only[ak];omega
  have h3:(E.map mnx)[e]?=(E.map mnx)[k]?:=by
   rw[aG,aG,ae he,ae hk,aC,aC,this]
  exact(List.getElem?_inj (by rw[ah];exact he) hp).1 h3
theorem Kt{g:Go.Blk.Gr}{A B:List Nat}(p:Pln g A)(nd:B.Nodup)(hs:∀e∈B,e∈A):Pln g B where
 nd:=nd
 lt:=λe he=>p.lt e (hs e he)
 one:=λe he k hk=>p.one e (hs e he) k (hs k hk)
open Classical in
noncomputable def bk(nx:Nat->Nat)(d:Nat):Nat:=if h:∃r,Back nx d r then Classical.choose h else 0
theorem Mh(hc:∀d,d<N->nx d<N)(hi:∀a b,a<N->b<N->nx a=nx b->a=b)(hd:d<N):Back nx d (bk nx d)/\bk nx d<=N:=by
 obtain⟨r,hr,hb⟩:=Go.Pla.back_of hc hi hd;have h:∃r,Back nx d r:=⟨r,hb⟩
 have hs:=Classical.choose_spec h;have e:bk nx d=Classical.choose h:=by unfold bk;rw[dif_pos h]
 rw[e];refine⟨hs,?_⟩;rcases eF r (Classical.choose h)with q|q
 .exact absurd hb.2.1 (hs.2.2 r hb.1 q)
 .omega
noncomputable def qF(nx:Nat->Nat)(out:List (List Nat))(x d:Nat):List (List Nat):=if d∈out.getD x []then out else out.set x (out.getD x []++orb nx d (bk nx d))
noncomputable def nO(nx:Nat->Nat)(E:List (Int×Int))(n k:Nat):List (List Nat):=(List.range k).foldl (λout i=>qF nx (qF nx out (tlE E i) (2*i)) (hdE E i) (2*i+1)) (List.replicate n [])
theorem mX(hm:pM (n:Nat) E=true):InG n E:=λi hi=>by
 obtain⟨m1,m2,m3,m4⟩:=xO hm;obtain⟨a,b,e,ha,hb⟩:=KE (bZ.1 m4 _ (aO hi));have hg:E.getD i (0,0)=E[i]:=by rw[aj,ae hi];rfl
 unfold tlE hdE;rw[hg,e];simp only[dn];exact⟨trivial,ha,hb⟩
theorem vW(hm:pM (n:Nat) E=true)(hl:∀e∈E,e.1≠e.2):∀i,i<E.length->tlE E i≠hdE E i:=λi hi=>by
 obtain⟨q1,q2,q3⟩:=mX hm i hi;have:=hl _ (aO hi);rw[q1]at this;simp only at this;omega
theorem vP{n:Int}(h:ip n E):∃k:Nat,n=((k:Nat):Int):=by
 have:=h.1;unfold pM at this;simp only[aL,aK]at this;exact⟨n.toNat,om⟩
theorem FM{hE:InG n E}{hL:∀i,i<E.length->tlE E i≠hdE E i}{b:List Nat}{l:List (Int×AV)}(t:BlkT (grE n E hE hL) E b l)(p:Pln (grE n E hE hL) b):∃(Φ:Type) (l r:Nat->Φ),Dual (grE n E hE hL) b l r:=by
 rcases t with⟨e,rfl,_,_⟩|⟨H,V,F,I,hall,_⟩
 .refine⟨Unit,λ_=>(),λ_=>(),λS v=>by simp[Go.Pla.par],λX hX=>⟨λ_=>false,λk hk=>?_⟩⟩;have:k=e:=by simpa using hk
  subst this;have h1:=hX ((grE n E hE hL).tl k);have h2:at_ (grE n E hE hL) k ((grE n E hE hL).tl k)=true:=(Go.Pla.at_inc (p.lt k (by simp))).2 ⟨p.lt k (by simp),.inl rfl⟩;simpa[Go.Pla.par,h2]using h1
 .obtain⟨l,r,d⟩:=Go.Pla.lay_dual I.lay hall p.nd p;exact⟨Nat,l,r,d⟩
theorem oE:(qF nx out x d).length=out.length:=by
 unfold qF;split
 .rfl
 .rw[dh]
theorem wT{k:Nat}:nO nx E n (k+1)=qF nx (qF nx (nO nx E n k) (tlE E k) (2*k)) (hdE E k) (2*k+1):=by
 unfold nO;rw[cJ,eW];rfl
theorem qG{nx:Nat->Nat}{E:List (Int×Int)}{n:Nat}:∀{k:Nat},(nO nx E n k).length=n
 |0=>by simp[nO]
 |k+1=>by rw[wT,oE,oE,qG]
theorem Lo{c:Nat}(hc:∀d,d<N->nx d<N)(hi:∀a b,a<N->b<N->nx a=nx b->a=b)(hd:d<N)(h:∀x,(out.getD x []).length<=c):∀y,((qF nx out x d).getD y []).length<=c+N:=λy=>by
 unfold qF;split
 .have:=h y;omega
 .rw[aj,dB];split
  .split
   .rw[er,aB,Go.Pla.orb_len];have:=h x;have:=(Mh hc hi hd).2;omega
   .simp
  .have:=h y;rw[aj]at this;omega
abbrev xN(rows:List (List Nat)):List (List Int):=rows.map λl=>l.map λn=>((n:Nat):Int)
theorem Rw.setN{h':AH}{lo:Nat}{vs:List AV}{v v':AV}{xs':List Nat}(R:Rw h lo vs (xN out))(hx:x<out.length)(hv:vs[x]?=some v)(i':IsSl h' 1 lo v' (nC xs'))(fr:∀c,c<h.next->(∀b n,v=.sl b 0 n n->c≠b)->h'.get c=h.get c)(nw:∀b n,v'=.sl b 0 n n->h.next<=b):Rw h' lo (vs.set x v') (xN (out.set x xs')):=by
 have hxv:x<vs.length:=by rw[R.1];simpa[xN]using hx
 refine⟨by rw[dh,R.1];simp[xN],λi w ys e1 e2=>?_,λi j b n b' n' hij e1 e2=>?_⟩
 .by_cases hix:i=x
  .subst hix;rw[cK hxv]at e1;simp only[xN,aG]at e2;rw[cK hx]at e2;simp only[aa,aC]at e1 e2;subst e1 e2;exact i'
  .rw[cQ (Ne.symm hix)]at e1;simp only[xN,aG]at e2;rw[cQ (Ne.symm hix)]at e2;have:=R.2.1 i w ys e1 (by simp only[xN,aG];exact e2);refine this.cong λb n e hb=>fr b (this.lt e) λb' n' e'=>?_;exact R.2.2 i x b n b' n' hix (by rw[e1,e]) (by rw[hv,e'])
 .by_cases hix:i=x
  .subst hix;rw[cK hxv]at e1;rw[cQ hij]at e2;have h1:=nw b n (by simpa using e1);have h2:=(R.lt e2).1;omega
  .rw[cQ (Ne.symm hix)]at e1;by_cases hjx:j=x
   .subst hjx;rw[cK hxv]at e2;have h1:=nw b' n' (by simpa using e2);have h2:=(R.lt e1).1;omega
   .rw[cQ (Ne.symm hjx)]at e2;exact R.2.2 i j b n b' n' hij e1 e2
structure EmbI(n:Nat)(E:List (Int×Int))(hE:InG n E)(hL:∀i,i<E.length->tlE E i≠hdE E i)(rows:List (List Nat)):Prop where
 dual:∃(Φ:Type) (l r:Nat->Φ),Dual (grE n E hE hL) (List.range E.length) l r
 ex:∃(lm:List (Int×AV)) (nx:Nat->Nat),(∀l,Lst (grE n E hE hL) l->∀b∈canon E.length l,BlkT (grE n E hE hL) E b lm)/\(∀d,d<2*E.length->nx d<2*E.length)/\(∀d,d<2*E.length->lkG lm ((d:Nat):Int)=some (.int .i64 (nx d:Nat)))/\(∀a b,a<2*E.length->b<2*E.length->nx a=nx b->a=b)/\(∀d,d<2*E.length->sL E (nx d)=sL E d)/\rows=nO nx E n E.length
set_option maxHeartbeats 8000000 in
theorem Ex{n:Int}(he:SlE h ev E)(hxl:E.length<2^40) :
 C prg 18 [.agg [.int .i64 n,ev]] h λr h'=>Ext h.next h h'/\((r=.tup [.nils,.bool false]/\(ip n E->∀hE hL,¬ ∃(Φ:Type) (l r:Nat->Φ),Dual (grE n.toNat E hE hL) (List.range E.length) l r))\/(ip n E/\∃ob vs rows,r=.tup [.sl ob 0 n.toNat n.toNat,.bool true]/\h.next<=ob/\h'.get ob=some (.cells vs 1 false)/\vs.length=n.toNat/\Rw h' (ob+1) vs (xN rows)/\∀hE hL,EmbI n.toNat E hE hL rows)):=by
 obtain⟨ec,eo⟩:=he.cells;have el:=he.len;rw[ah]at el;refine Ny pf18 ?_;refine ai (aD (Mi0) ?_);have x0:Ext h.next h (h.new (.cells [.int .i64 n,ev] 2 false)):=Nt (ab _);have g0:(h.new (.cells [.int .i64 n,ev] 2 false)).get h.next=some (.cells [.int .i64 n,ev] 2 false):=by rw[AH.get_new,if_pos rfl]
 have n0:(h.new (.cells [.int .i64 n,ev] 2 false)).next=h.next+1:=rfl;generalize (h.new (.cells [.int .i64 n,ev] 2 false))=h1 at *
 have rA:aA h1 h.next 0 2=some [.int .i64 n,ev]:=by rw[bI g0];rfl
 refine ai (ai (bS (bE 1 (Mi1 rA) rfl (Zi1 rA) (Mi1 rA) (vN (he.ext x0 (ab _)) hxl) λr h2 hq=>?_)));obtain⟨b,rfl,hb,x2⟩:=hq;have X2:Ext h.next h h2:=x0.trans (x2.mono om);refine bM (M0) ?_;cases hbv:b with
 |false =>
   refine dv (by simp only[am,aI,simprocAttr,hbv,cr]) ?_;refine ai (aD (M0) ?_);refine bU ⟨.tup [.nils,.bool false],(by simp only[rs,rf18,am,aI,simprocAttr]<;>rfl),X2,.inl ⟨rfl,λhp=>?_⟩⟩;rw[hbv]at hb;exact absurd (hb.2 hp) (by simp)
 |true =>
 rw[hbv]at hb;have hP:=hb.1 rfl;clear hb;obtain⟨k,rfl⟩:=vP hP;refine dR (Z2 hbv @cD) (bQ ?_);have hE:=mX hP.1;have hL:=vW hP.1 hP.2.1;obtain⟨m1,m2,m3,m4⟩:=xO hP.1;have hW:Pln (grE k E hE hL) (List.range E.length):=GS hP.2.2;have n2:=x2.nx;have g2:h2.get h.next=some (.cells [.int .i64 (k:Nat),ev] 2 false):=by rw[x2.gt _ om];exact g0
 refine ai (bW (λts h'=>h'=h2.new (.mapo [] 0)/\aR ts 1=.ptr h.next 0/\aR ts 4=.mp h2.next) (by simp only[am,aI,simprocAttr,bP]) ?_);rintro ts h3 ⟨rfl,e1,e4⟩;have x3:Ext h2.next h2 (h2.new (.mapo [] 0)):=Nt (ab _);have g3:(h2.new (.mapo [] 0)).get h2.next=some (.mapo [] 0):=by rw[AH.get_new,if_pos rfl]
 have n3:(h2.new (.mapo [] 0)).next=h2.next+1:=rfl;generalize h2.new (.mapo [] 0)=h3 at *
 obtain⟨mb,hmb⟩:∃mb,mb=h2.next:=⟨_,rfl⟩
 rw[<-hmb]at e4 g3;have X3:Ext h.next h h3:=X2.trans (x3.mono om);have g3b:h3.get h.next=some (.cells [.int .i64 (k:Nat),ev] 2 false):=by rw[x3.gt _ om];exact g2
 have rA3:aA h3 h.next 0 2=some [.int .i64 (k:Nat),ev]:=by rw[bI g3b];rfl
 have hbl:=FL (n:=k) (he.ext X3 (ab _)) hP.1 hE hL;unfold gW at hbl;refine ai (ai (bS (bE 1 (M2 e1 rA3) rfl (Z2 e1 rA3) (M2 e1 rA3) (hbl) λblv h4 hq=>?_)));obtain⟨hbs,x4⟩:=hq;obtain⟨lst,hlst⟩:=Go.Blk.lst_ex (grE k E hE hL);have bl4:=hbs lst hlst;obtain⟨bs,hbse⟩:∃bs,bs=canon E.length lst:=⟨_,rfl⟩
 rw[<-hbse]at bl4;have lb:=bl4.len;refine bM (M1 lb) ?_;have n4:=x4.nx;have X4:Ext h.next h h4:=X3.trans (x4.mono om);have bsl:bs.length<=E.length:=by rw[hbse];exact Nc
 have mem:∀b∈bs,IsBlock (grE k E hE hL) b/\b≠[]/\(∀i∈b,i<E.length)/\b.length<=E.length/\b.Nodup:=λb hb=>by
  rw[hbse]at hb;exact⟨IC hlst hb,cn_lt hb⟩
 have pl:∀b∈bs,Pln (grE k E hE hL) b:=λb hb=>Kt hW (mem b hb).2.2.2.2 λe he=>aq.2 ((mem b hb).2.2.1 e he);have dis:∀b∈bs,∀c∈bs,∀i,i∈b->i∈c->b=c:=λb hb c hc i h1 h2=>by
  rw[hbse]at hb hc;exact Nd hb hc h1 h2
 have low:=KN hlst;have cov:∀i,i<E.length->∃b∈bs,i∈b:=λi hi=>by rw[hbse];exact Nf low.1 low.2 hi
 have m4':qc h4 mb []:=MapG.nil (c:=0) (by rw[x4.gt _ om];exact g3)
 refine gA (α:=List (Int×AV)) (N:=bs.length) (λ_ _=>[(19,blv),(1,.ptr h.next 0),(4,.mp mb)])
  (λj lm h'=>qc h' mb lm/\Ext h.next h h'/\Kp (λc=>c=mb) h4 h'/\∀b∈bs.take j,BlkT (grE k E hE hL) E b lm) [] (λ_ _=>rfl) om (H2 e1 e4) ⟨m4',X4,Ns,by simp⟩ ?_ ?_
 .clear e1 e4;rintro j lm ts h5 hj ⟨m5,X5,k5,t5⟩ ⟨e21,e20,e19,e1,e4,-⟩;simp only at e21 e20 e19 e1 e4;have n5:=k5.nx;have bl5:=bl4.cong λc h1 h2=>k5.gt c h2 om;obtain⟨bo,oo,bv,a1,r1,i1,_⟩:=bl5.at hj;have hbm:bs[j]∈bs:=aO hj;have htk:bs.take (j+1)=bs.take j++[bs[j]]:=by rw[fH,ae hj];rfl
  obtain⟨b,hbe⟩:∃b,b=bs[j]:=⟨_,rfl⟩
  rw[<-hbe]at i1 hbm htk;obtain⟨hblk,hbne,hblt,hbln,hbnd⟩:=mem b hbm;have g5:h5.get h.next=some (.cells [.int .i64 (k:Nat),ev] 2 false):=by rw[k5.gt _ om om,x4.gt _ om];exact g3b
  have hnew:b∉bs.take j:=λhc=>by
   obtain⟨i,hi⟩:=dE b hbne;obtain⟨q,hq,hqe⟩:=hG.1 hc;rw[bK]at hq;rw[List.getElem_take]at hqe;have hfl:bs.flatten.Nodup:=by rw[hbse];exact Dx
   have h2:=(vz.1 hfl).2;rw[dm]at h2;have:=h2 q j om hj om i (by rw[hqe];exact hi) i (by rw[<-hbe];exact hi);exact this rfl
  refine ai (aD (M4 e19 e21 a1 r1) ?_);have lv:=(et i1).len;rw[ah,ah]at lv;have kn:(h5.keep 3).next=h5.next+3:=AH.keep_next 3 h5;have kg:∀c,(h5.keep 3).get c=if h5.next<=c/\c<h5.next+3 then some .resv else h5.get c:=λc=>AH.keep_get 3 h5
  have k1:(h5.keep 3).get h.next=some (.cells [.int .i64 (k:Nat),ev] 2 false):=by rw[kg,if_neg om];exact g5
  have ra:aA (h5.keep 3) h.next 0 2=some [.int .i64 (k:Nat),ev]:=by rw[bI k1];rfl
  have rb:aA (h5.keep 3) h.next 1 1=some [ev]:=bJ k1 rfl;have rc:aA (h5.keep 3) h.next 0 1=some [.int .i64 (k:Nat)]:=bJ k1 rfl;have mva:=qx (z:=[.bool false]) (bytes:=1) (n:=E.length) (by unfold bq;omega) (by unfold bq;omega);have mvb:=qx (z:=[.bool false]) (bytes:=1) (n:=k) (by unfold bq;omega) (by unfold bq;omega);have q0:(h5.keep 3).get h5.next=some .resv:=by rw[kg,if_pos ⟨om,om⟩]
  obtain⟨m1',hm1⟩:∃m,m=(h5.keep 3).put h5.next (.cells (dA [.bool false] E.length) 1 false):=⟨_,rfl⟩
  have v1:Upd (h5.keep 3) m1' h5.next (.cells (dA [.bool false] E.length) 1 false):=by rw[hm1];exact Nv q0
  have q1:m1'.get (h5.next+1)=some .resv:=by rw[v1.ne om,kg,if_pos ⟨om,om⟩]
  obtain⟨m2',hm2⟩:∃m,m=m1'.put (h5.next+1) (.cells (dA [.bool false] k) 1 false):=⟨_,rfl⟩
  have v2:Upd m1' m2' (h5.next+1) (.cells (dA [.bool false] k) 1 false):=by rw[hm2];exact Nv q1
  have q2:m2'.get (h5.next+2)=some .resv:=by rw[v2.ne om,v1.ne om,kg,if_pos ⟨om,om⟩]
  obtain⟨m3',hm3⟩:∃m,m=m2'.put (h5.next+2) (.cells [.int .i64 (k:Nat),ev,bv,.sl h5.next 0 E.length E.length,.sl (h5.next+1) 0 k k,.nils] 6 false):=⟨_,rfl⟩
  have v3:Upd m2' m3' (h5.next+2) (.cells [.int .i64 (k:Nat),ev,bv,.sl h5.next 0 E.length E.length,.sl (h5.next+1) 0 k k,.nils] 6 false):=by rw[hm3];exact Nv q2
  have bx:=uT (k:=6) (cs:=[.int .i64 (k:Nat),ev,bv,.sl h5.next 0 E.length E.length,.sl (h5.next+1) 0 k k,.nils]) rfl
  refine ai (DH (λts h2=>h2=m3'/\Held [(21,.int .i64 (j:Nat)),(20,.int .i64 (bs.length:Nat)),(19,blv),(1,.ptr h.next 0),(4,.mp mb),(6,bv),(7,.ptr (h5.next+2) 0)] ts)
   (by simp only[am,aI,simprocAttr,e21,e20,e19,e1,e4,cG,dl,ra,rb,rc,el,fz,mG q0,<-hm1,mG q1,<-hm2,wN q2,mva,mvb,bx,ec,eo,i1.cells.1,i1.cells.2,oY,<-hm3]) ?_)
  rintro ts h6 ⟨hh6,e21,e20,e19,e1,e4,e6,e7,-⟩;subst hh6;clear hm1 hm2 hm3;have n6:h6.next=h5.next+3:=by rw[v3.nx,v2.nx,v1.nx,kn]
  have gk:∀c,c<h5.next->h6.get c=h5.get c:=λc hc=>by rw[v3.ne om,v2.ne om,v1.ne om,kg,if_neg om]
  have x6:Ext h5.next h5 h6:=⟨om,gk,λc hc=>by rw[v3.ty,v2.ty,v1.ty];exact Nr 3 h5⟩
  have gL:h6.get h5.next=some (.cells (bl E.length λ_=>false) 1 false):=by rw[v3.ne om,v2.ne om,v1.get,yx]
  have gV:h6.get (h5.next+1)=some (.cells (bl k λ_=>false) 1 false):=by rw[v3.ne om,v2.get,yx]
  have gB:=v3.get;clear v1 v2 v3 q0 q1 q2 kg kn k1 ra rb rc bx mva mvb;have X6:Ext h.next h h6:=X5.trans (x6.mono om);have he6:=he.ext X6 (ab _);have i6:=i1.ext x6 (ab _);have m6:qc h6 mb lm:=m5.cong (gk _ m5.lt);have ltm:=m5.lt;have hmbg:h.next<=mb:=by have:=X2.nx;omega
  have Xe:∀{h':AH},Kp (λc=>c=mb) h5 h'->Ext h.next h h':=fun {h'} q=>⟨cI X5.nx q.nx,λc hc=>by rw[q.gt c (by have:=X5.nx;omega) om];exact X5.gt c hc,λc hc=>by rw[q.ty c (by have:=X5.nx;omega)];exact X5.ty c hc⟩
  have lev:∀{c o q z},ev=.sl c o q z->c<h.next:=fun {c o q z} e=>he.lt e;have lbv:∀{c q},bv=.sl c 0 q q->h3.next<=c/\c<h5.next:=fun {c q} e=>⟨by
   rcases i1 with⟨h1,_⟩|⟨b',m',hb,h1,_⟩
   .rw[h1]at e;cases e
   .rw[h1]at e;cases e;exact hb,i1.lt e⟩
  have oev:Off (λc=>h.next<=c) ev:=by
   cases hq:ev with
   |sl c o q z=>exact λq=>by have:=lev hq;omega
   |_=>trivial
  have obv:∀S:Nat->Prop,(∀c,S c->c<h3.next\/h5.next<=c)->Off S bv:=λS hS=>by
   rcases i1 with⟨h1,_⟩|⟨b',m',hb,h1,_⟩
   .rw[h1];trivial
   .rw[h1];intro q;have:=lbv h1;have:=hS _ q;omega
  have u6:Bu h6 (h5.next+2) k ev bv E b h5.next (h5.next+1) (λ_=>false) (λ_=>false) .nils :=
   ⟨gB,he6,et i6,gL,gV,⟨om,om,om⟩,gH oev λc q=>by omega,obv _ λc q=>by omega⟩
  have lv6:=(et i6).len;rw[ah,ah]at lv6;by_cases hone:b.length=1
  .obtain⟨e,rfl⟩:∃e,b=[e]:=by
    match b,hone with
    |[e],_=>exact⟨e,rfl⟩
   have d1:decide ((([e]:List Nat).length:Nat)=(1:Int))=true:=rfl;refine ai (ai (bW (λts h'=>h'=h6/\Held [(21,.int .i64 (j:Nat)),(20,.int .i64 (bs.length:Nat)),(19,blv),(1,.ptr h.next 0),(4,.mp mb),(6,bv),(38,.bool true)] ts) (by simp only[am,aI,simprocAttr,e21,e20,e19,e1,e4,e6,lv6,cG,dl]<;>rfl) ?_));rintro ts h6' ⟨rfl,e21,e20,e19,e1,e4,e6,e38,-⟩;refine dv (Z1 e38) ?_;obtain⟨b8,o8,a8,r8,lb8⟩:=(et i6).at1 (i:=0) (y:=.int .i64 (e:Nat)) rfl;rw[de]at a8;have heE:e<E.length:=hblt e (by simp);have w2q:IntKind.i64.wrap (2*((e:Nat):Int))=((2*e:Nat):Int):=by
    have:(2*((e:Nat):Int))=((2*e:Nat):Int):=om;rw[this];exact fx om om
   have w2q1:IntKind.i64.wrap (((2*e:Nat):Int)+1)=((2*e+1:Nat):Int):=fx om om;obtain⟨h7,s7,men7,⟨oo7,U7⟩,_,st7⟩:=m6.men xW (.int .i64 0) ((2*e:Nat):Int);obtain⟨h8,mst8,m8,oo8,U8⟩:=st7 (.int .i64 ((2*e:Nat):Int));obtain⟨h9,s9,men9,⟨oo9,U9⟩,_,st9⟩:=m8.men xW (.int .i64 0) ((2*e+1:Nat):Int);obtain⟨h10,mst10,m10,oo10,U10⟩:=st9 (.int .i64 ((2*e+1:Nat):Int));have hb8:b8≠mb:=λq=>by
    obtain⟨es,c,g,_⟩:=m6;rw[<-q]at g;unfold aA at r8;rw[g]at r8;simp at r8
   have r87:aA h7 b8 o8 1=some [.int .i64 (e:Nat)]:=by rw[cU (U7.ne hb8)];exact r8
   refine ai (bW (λts h'=>h'=h10/\Held [(21,.int .i64 (j:Nat)),(20,.int .i64 (bs.length:Nat)),(19,blv),(1,.ptr h.next 0),(4,.mp mb)] ts) (by simp only[am,aI,simprocAttr,e21,e20,e19,e1,e4,e6,a8,r8,w2q,w2q1,men7,r87,mst8,men9,mst10,cG,dl]) ?_);rintro ts h11 ⟨rfl,hh⟩;have k6:Kp (λc=>c=mb) h6' h11:=(((U7.kp (S:=λc=>c=mb) rfl).trans (U8.kp (S:=λc=>c=mb) rfl) (λ_ _ q=>q)).trans (U9.kp (S:=λc=>c=mb) rfl) (λ_ _ q=>q)).trans (U10.kp (S:=λc=>c=mb) rfl) (λ_ _ q=>q);have k5':Kp (λc=>c=mb) h5 h11:=(x6.kp (S:=λc=>c=mb) (ab _)).trans k6 (λ_ _ q=>q);refine fp ⟨λ_=>⟨_,⟨m10,Xe k5',k5.trans k5' (λ_ _ q=>q),λb' hb'=>?_⟩,hh⟩,λe=>absurd rfl e⟩;rw[htk,aw,aP]at hb';rcases hb' with hb'|rfl
   .refine(t5 b' hb').keep λd hd=>?_;have hne:d/2≠e:=λq=>by
     rw[q]at hd;exact hnew (dis b' (yI hb') _ hbm e hd (by simp)▸hb')
    rw[lw,if_neg om,lw,if_neg om]
   .exact .inl ⟨e,rfl,by rw[lw,if_neg om,lw,if_pos rfl],by rw[lw,if_pos rfl]⟩
  .have d1:decide (((b.length:Nat):Int)=1)=false:=by rw[aZ];omega
   refine ai (ai (bW (λts h'=>h'=h6/\Held [(21,.int .i64 (j:Nat)),(20,.int .i64 (bs.length:Nat)),(19,blv),(1,.ptr h.next 0),(4,.mp mb),(7,.ptr (h5.next+2) 0),(38,.bool false)] ts) (by simp only[am,aI,simprocAttr,e21,e20,e19,e1,e4,e6,e7,lv6,d1,cG,dl]<;>rfl) ?_));rintro ts h6' ⟨rfl,e21,e20,e19,e1,e4,e7,e38,-⟩;refine dR (Z1 e38) (bQ ?_);obtain⟨e0,b',rfl⟩:=dL hbne;obtain⟨k0,b'',rfl⟩:∃k0 b'',b'=k0::b'':=dL λq=>by subst q;exact hone rfl
   have hke:k0≠e0:=λq=>by subst q;simp at hbnd
   have hbond:=Go.Pla.blk_bond hW hblk hbnd hblt;have hlink:=Go.Pla.blk_link hblk hblt;have hplb:=pl _ hbm;refine ai (ai (bS (bE 1 (M1 e7) rfl (Z1 e7) (M1 e7) (GW u6 hE hL om om hblt om hplb hbond hlink (k0:=k0) (by simp) hke) λrv h7 hq=>?_)));obtain⟨k7,hq⟩:=hq;have k57:Kp (λc=>c=mb) h5 h7:=(x6.kp (S:=λc=>c=mb) (ab _)).trans k7 (λc hc q=>by rcases q with q|q|q<;>omega);have n7:=k7.nx;rcases hq with⟨rfl,hno⟩|⟨rfl,H,V,fav,F,u7,F7,fl7,I7,hall⟩
   .refine bM (M0) ?_;refine dv (by simp only[am,aI,simprocAttr,cr]) ?_;refine ai (aD (M0) ?_);refine bU ⟨.tup [.nils,.bool false],(by simp only[rs,rf18,am,aI,simprocAttr]<;>rfl),Xe k57,.inl ⟨rfl,λ_ hE' hL' ⟨Φ,l,r,d⟩=>hno ?_⟩⟩;obtain⟨l',r',d'⟩:=Go.Pla.sub_dual be hbnd (λe he=>aq.2 (hblt e he)) d;exact⟨Φ,l',r',d'⟩
   .refine bM (M0) ?_;refine dR (Z1 @cD) (bQ ?_);have m7:qc h7 mb lm:=m6.cong (k7.gt mb om om);refine bS (bE 2 (M2 e7 e4) rfl (Z2 e7 e4) (M2 e7 e4) (Bo u7 hE hL om om hblt om hplb F7 om (λf hf=>I7.lay.circ f hf) m7 ⟨om,om,om,om⟩ (gH oev λc q=>by omega) (obv _ λc q=>by omega)) λ_ h8 hq=>?_);obtain⟨lm',m8,k8,t8⟩:=hq;refine bM (M0) ?_;have k58:=k57.trans k8 (λ_ _ q=>q);refine⟨lm',⟨m8,Xe k58,k5.trans k58 (λ_ _ q=>q),λc hc=>?_⟩,H5 e21 e20 e19 e1 e4⟩;rw[htk,aw,aP]at hc;rcases hc with hc|rfl
    .refine(t5 c hc).keep λd hd=>Gc t8 λq=>?_;exact hnew (dis c (yI hc) _ hbm _ hd q▸hc)
    .exact Jz t8 I7 hall
 .rintro lm ts h5 ⟨m5,X5,k5,t5⟩ ⟨e19,e1,e4,-⟩;rw[cV (ab _)]at t5;obtain⟨nx,nc,nk,ni,nend⟩:=Ho t5 pl cov dis;have hdual:∃(Φ:Type) (l r:Nat->Φ),Dual (grE k E hE hL) (List.range E.length) l r:=Go.Pla.whole_dual (bs:=bs) (by rw[hbse];exact Dx) (λb hb=>(mem b hb).1) (λi=>⟨λhi=>cov i hi,λ⟨b,hb,hib⟩=>(mem b hb).2.2.1 i hib⟩) λb hb=>FM (t5 b hb) (pl b hb);have hEmb:∀hE hL,EmbI k E hE hL (nO nx E k E.length):=λ_ _=>⟨hdual,lm,nx,λl hl b hb=>t5 b (by rw[hbse,Go.Blk.canon_congr (m:=E.length) (l:=lst) (l':=l) λi hi=>hlst.uniq hl hi];exact hb),nc,nk,ni,nend,rfl⟩
  have n5:=k5.nx;have g5:h5.get h.next=some (.cells [.int .i64 (k:Nat),ev] 2 false):=by rw[k5.gt _ om (by have:=X2.nx;omega),x4.gt _ om];exact g3b
  have r5a:aA h5 h.next 0 1=some [.int .i64 (k:Nat)]:=bJ g5 rfl;have mk:=zH (h:=h5) (z:=[.nils]) (e:=1) (bytes:=24) (n:=k) (by unfold bq;omega) (by unfold bq;omega);have x6:Ext h5.next h5 (h5.new (.cells (dA [.nils] k) 1 false)):=Nt (ab _);have g6:(h5.new (.cells (dA [.nils] k) 1 false)).get h5.next=some (.cells (dA [.nils] k) 1 false):=by rw[AH.get_new,if_pos rfl]
  have n6:(h5.new (.cells (dA [.nils] k) 1 false)).next=h5.next+1:=rfl;refine ai (bW (λts h'=>h'=h5.new (.cells (dA [.nils] k) 1 false)/\aR ts 1=.ptr h.next 0/\aR ts 4=.mp mb/\aR ts 8=.sl h5.next 0 k k) (by simp only[am,aI,simprocAttr,e1,e4,r5a,mk]) ?_);rintro ts h6 ⟨rfl,e1,e4,e8⟩;generalize h5.new (.cells (dA [.nils] k) 1 false)=h6 at *
  obtain⟨ob,hob⟩:∃ob,ob=h5.next:=⟨_,rfl⟩
  rw[<-hob]at e8 g6 n6;have X6:Ext h.next h h6:=X5.trans (x6.mono X5.nx);have ltm:=m5.lt;have hnX:=X5.nx;have m6:qc h6 mb lm:=m5.cong (x6.gt mb ltm);have g6b:h6.get h.next=some (.cells [.int .i64 (k:Nat),ev] 2 false):=by rw[x6.gt _ (by have:=X2.nx;omega)];exact g5
  have r6b:aA h6 h.next 1 1=some [ev]:=bJ g6b rfl;have rl:(dA [AV.nils] k).length=k:=by rw[li,vB]
  have Rw0:Rw h6 (ob+1) (dA [.nils] k) (xN (nO nx E k 0)):=by
   have e0:xN (nO nx E k 0)=List.replicate k []:=by simp[xN,nO]
   rw[e0,li];refine⟨by simp,λi v xs h1 h2=>?_,λi j b n' b' n'' _ h1=>?_⟩
   .rw[gj]at h1 h2;split at h1
    .rename_i hi
     rw[if_pos hi]at h2;simp only[aa]at h1 h2;subst h1 h2;exact .inl ⟨rfl,rfl⟩
    .cases h1
   .rw[gj]at h1;split at h1<;>cases h1
  refine ai (ai (aD (M3 e1 r6b el) ?_))
  refine gA (α:=List AV) (N:=E.length) (λ_ _=>[(74,ev),(8,.sl ob 0 k k),(4,.mp mb)])
   (λi vs h'=>h'.get ob=some (.cells vs 1 false)/\vs.length=k/\Rw h' (ob+1) vs (xN (nO nx E k i))/\Ext h.next h h'/\qc h' mb lm/\h6.next<=h'.next/\∀x,((nO nx E k i).getD x []).length<=i*(4*E.length)) (dA [.nils] k) (λ_ _=>rfl) om (H2 e8 e4) ⟨g6,rl,Rw0,X6,m6,ab _,λx=>by simp[nO,List.getD,gj];split<;>simp⟩ ?_ ?_
  .clear e1 e4 e8;rintro i vs ts h7 hi ⟨g7,vl,R7,X7,m7,n7,len7⟩ ⟨e76,e75,e74,e8,e4,-⟩;simp only at e76 e75 e74 e8 e4;obtain⟨q1,q2,q3⟩:=hE i hi;obtain⟨b9,o9,a9,r9,_,_⟩:=(he.ext X7 (ab _)).at (fR (f:=eE) hi);rw[q1]at r9;have r9:aA h7 b9 o9 2=some [.int .i64 (tlE E i:Nat),.int .i64 (hdE E i:Nat)]:=r9;obtain⟨h8,w8,x8,g8,n8⟩:=gv (h:=h7) (z:=[.int .i64 0,.int .i64 0]) (cs:=[.int .i64 (tlE E i:Nat),.int .i64 (hdE E i:Nat)]) (e:=2) rfl;refine ai (bW (λts h'=>h'=h8/\Held [(76,.int .i64 (i:Nat)),(75,.int .i64 (E.length:Nat)),(74,ev),(8,.sl ob 0 k k),(4,.mp mb),(9,.int .i64 (i:Nat)),(10,.ptr h7.next 0)] ts) (by simp only[am,aI,simprocAttr,e76,e75,e74,e8,e4,a9,r9,w8,cG,dl]) ?_);rintro ts h8' ⟨rfl,e76,e75,e74,e8,e4,e9,e10,-⟩;have rt:aA h8' h7.next 0 1=some [.int .i64 (tlE E i:Nat)]:=bJ g8 rfl;have rh:aA h8' h7.next 1 1=some [.int .i64 (hdE E i:Nat)]:=bJ g8 rfl;refine ai (bW (λts h'=>h'=h8'/\Held [(76,.int .i64 (i:Nat)),(75,.int .i64 (E.length:Nat)),(74,ev),(8,.sl ob 0 k k),(4,.mp mb),(9,.int .i64 (i:Nat)),(85,.agg [.int .i64 (tlE E i:Nat),.int .i64 (hdE E i:Nat)]),(86,.int .i64 0)] ts) (by simp only[am,aI,simprocAttr,e76,e75,e74,e8,e4,e9,e10,rt,rh,cG,dl]) ?_);rintro ts h8'' ⟨rfl,hh⟩;obtain⟨oq,hoq⟩:∃oq:Nat->List (List Nat),oq=λq=>match q with|0=>nO nx E k i|1=>qF nx (nO nx E k i) (tlE E i) (2*i)|_=>nO nx E k (i+1):=⟨_,rfl⟩
   have oq0:oq 0=nO nx E k i:=by rw[hoq];rfl
   have oq1:oq 1=qF nx (oq 0) (tlE E i) (2*i+0):=by rw[hoq];rfl
   have oq2:oq 2=qF nx (oq 1) (hdE E i) (2*i+1):=by rw[hoq];exact wT
   have oq2':oq 2=nO nx E k (i+1):=by rw[hoq];rfl
   have oql:∀q,q<=2->(oq q).length=k:=λq hq=>by
    have:q=0\/q=1\/q=2:=om;rcases this with rfl|rfl|rfl
    .rw[oq0,qG]
    .rw[oq1,oE,oq0,qG]
    .rw[oq2,oE,oq1,oE,oq0,qG]
   refine cA (fO (λm ts h'=>∃q vs,m=2-q/\q<=2/\Held [(76,.int .i64 (i:Nat)),(75,.int .i64 (E.length:Nat)),(74,ev),(8,.sl ob 0 k k),(4,.mp mb),(9,.int .i64 (i:Nat)),(85,.agg [.int .i64 (tlE E i:Nat),.int .i64 (hdE E i:Nat)]),(86,.int .i64 (q:Nat))] ts/\h'.get ob=some (.cells vs 1 false)/\vs.length=k/\Rw h' (ob+1) vs (xN (oq q))/\Ext h.next h h'/\qc h' mb lm/\h6.next<=h'.next/\∀x,((oq q).getD x []).length<=i*(4*E.length)+q*(2*E.length)) ?_ (n:=2) ⟨0,vs,rfl,om,hh,by rw[x8.gt ob om];exact g7,vl,by rw[oq0];exact R7.cong λc _ hc=>x8.gt c hc,X7.trans (x8.mono X7.nx),m7.cong (x8.gt mb m7.lt),om,by rw[oq0,lY,dX];exact len7⟩);clear hh g7 vl R7 X7 m7 n7 rt rh x8 g8 n8 w8 r9 a9;rintro m ts h9 ⟨q,vs,rfl,hq2,⟨e76,e75,e74,e8,e4,e9,e85,e86,-⟩,g9,vl,R9,X9,m9,n9,len9⟩;rcases eF q 2 with hq|hq
   .have dq:decide (((q:Nat):Int)<2)=true:=by rw[aK];omega
    obtain⟨x,hx⟩:∃x,x=if q=0 then tlE E i else hdE E i:=⟨_,rfl⟩
    have hxn:x<k:=by rw[hx];split;exact q2;exact q3
    have ix:Di false 2 1 (.agg [.int .i64 (tlE E i:Nat),.int .i64 (hdE E i:Nat)]) (.int .i64 (q:Nat))=some (.int .i64 (x:Nat)):=by
     rw[hx];have:q=0\/q=1:=om;rcases this with rfl|rfl<;>rfl
    have onext:oq (q+1)=qF nx (oq q) x (2*i+q):=by
     rw[hx];have:q=0\/q=1:=om;rcases this with rfl|rfl
     .exact oq1
     .exact oq2
    refine ai (bW (λts h'=>h'=h9/\Held [(76,.int .i64 (i:Nat)),(75,.int .i64 (E.length:Nat)),(74,ev),(8,.sl ob 0 k k),(4,.mp mb),(9,.int .i64 (i:Nat)),(85,.agg [.int .i64 (tlE E i:Nat),.int .i64 (hdE E i:Nat)]),(86,.int .i64 (q:Nat)),(87,.bool true)] ts) (by simp only[am,aI,simprocAttr,e76,e75,e74,e8,e4,e9,e85,e86,dq,cG,dl]) ?_);rintro ts h9' ⟨rfl,e76,e75,e74,e8,e4,e9,e85,e86,e87,-⟩;refine ai (dv (Z1 e87) (bQ ?_));have hoql:=oql q hq2;have hgl:(xN (oq q))[x]?=some (((oq q).getD x []).map λn=>((n:Nat):Int)):=by
     simp only[xN,aG,aj];rw[ae om];rfl
    obtain⟨v,hv⟩:∃v,vs[x]?=some v:=⟨_,ae om⟩
    obtain⟨row,hrow⟩:∃row,row=(oq q).getD x []:=⟨_,rfl⟩
    rw[<-hrow]at hgl;have iv:IsSl h9' 1 (ob+1) v (nC row):=R9.2.1 x v _ hv hgl;have hrl:=len9 x;rw[<-hrow]at hrl;have hib:i*(4*E.length)<=128*(4*128):=yF om om;have hqb:q*(2*E.length)<=2*(2*128):=yF om om;have wd:IntKind.i64.wrap (2*((i:Nat):Int))=((2*i:Nat):Int):=by
     have:(2*((i:Nat):Int))=((2*i:Nat):Int):=om;rw[this];exact fx om om
    have wd2:IntKind.i64.wrap (((2*i:Nat):Int)+((q:Nat):Int))=((2*i+q:Nat):Int):=by
     have:((2*i:Nat):Int)+((q:Nat):Int)=((2*i+q:Nat):Int):=om;rw[this];exact fx om om
    have ixk:iV ((x:Nat):Int) k=some x:=eU hxn;have rv:aA h9' ob x 1=some [v]:=bJ g9 hv;have hct:=mI (y:=((2*i+q:Nat):Int)) (et iv) (by rw[ah];omega);rw[oI]at hct;have wq:IntKind.i64.wrap (((q:Nat):Int)+1)=((q+1:Nat):Int):=fx om om;refine ai (cA ?_);refine ai (aD (M3 e85 e86 ix) ?_);refine ai (bW (λts h'=>h'=h9'/\Held [(76,.int .i64 (i:Nat)),(75,.int .i64 (E.length:Nat)),(74,ev),(8,.sl ob 0 k k),(4,.mp mb),(9,.int .i64 (i:Nat)),(85,.agg [.int .i64 (tlE E i:Nat),.int .i64 (hdE E i:Nat)]),(86,.int .i64 (q:Nat)),(12,.int .i64 (x:Nat)),(13,.int .i64 ((2*i+q:Nat):Int))] ts) (by simp only[am,aI,simprocAttr,e76,e75,e74,e8,e4,e9,e85,e86,wd,wd2,cG,dl]) ?_);rintro ts h9 ⟨rfl,e76,e75,e74,e8,e4,e9,e85,e86,e12,e13,-⟩;refine ai (bS (bE 5 (M6 e8 e12 e13 ixk @bh rv) rfl (Z6 e8 e12 e13 ixk @bh rv) (M6 e8 e12 e13 ixk @bh rv) (hct) λr h10 hq'=>?_));obtain⟨rfl,x10⟩:=hq';have n10:=x10.nx;have g10:h10.get ob=some (.cells vs 1 false):=by rw[x10.gt ob om];exact g9
    have R10:Rw h10 (ob+1) vs (xN (oq q)):=R9.cong λc _ hc=>x10.gt c hc;have m10:qc h10 mb lm:=m9.cong (x10.gt mb m9.lt);have X10:Ext h.next h h10:=X9.trans (x10.mono X9.nx);have iv10:=iv.ext x10 (ab _);have hds:(oq q).set x row=oq q:=by
     rw[hrow,aj];refine dI λy=>?_;rw[dB];split
     .rename_i hxy
      subst hxy;rw[if_pos om,ae om];rfl
     .rfl
    by_cases hc:2*i+q∈row
    .have hn:oq (q+1)=oq q:=by rw[onext,qF,<-hrow,if_pos hc]
     refine bM (by simp only[am,aI,simprocAttr,bp hc,cD]<;>rfl) ?_;refine dR (Z1 @cD) (bQ ?_);refine bW (λts h'=>h'=h10/\Held [(76,.int .i64 (i:Nat)),(75,.int .i64 (E.length:Nat)),(74,ev),(8,.sl ob 0 k k),(4,.mp mb),(9,.int .i64 (i:Nat)),(85,.agg [.int .i64 (tlE E i:Nat),.int .i64 (hdE E i:Nat)]),(86,.int .i64 ((q+1:Nat):Int))] ts) (by simp only[am,aI,simprocAttr,e76,e75,e74,e8,e4,e9,e85,e86,wq,cG,dl]) ?_;rintro ts h11 ⟨rfl,hh⟩;refine⟨2-(q+1),om,q+1,vs,rfl,om,hh,g10,vl,by rw[hn];exact R10,X10,m10,om,λy=>?_⟩;rw[hn];have:=len9 y;rw[cT];omega
    .have hdN:2*i+q<2*E.length:=om;obtain⟨hbk,hbl'⟩:=Mh nc ni hdN;have hn:oq (q+1)=(oq q).set x (row++orb nx (2*i+q) (bk nx (2*i+q))):=by rw[onext,qF,<-hrow,if_neg hc]
     refine bM (by simp only[am,aI,simprocAttr,aX hc,cr]<;>rfl) ?_;refine dv (by simp only[am,aI,simprocAttr,cr]) ?_;have rv10:aA h10 ob x 1=some [v]:=bJ g10 hv;refine bS (bE 8 (M7 e8 e12 e13 e4 ixk @bh rv10) rfl (Z7 e8 e12 e13 e4 ixk @bh rv10) (M7 e8 e12 e13 e4 ixk @bh rv10) (Bt iv10 om m10 nc nk hdN hbk om) λv' h11 hq'=>?_);obtain⟨i11,x11,n11,fr11,nw11⟩:=hq';have g11:h11.get ob=some (.cells vs 1 false):=by rw[x11.gt ob om];exact g10
     have w12:=iP (v:=v') g11 (i:=x) om;have u12:=Nv (o:=.cells (vs.set x v') 1 false) g11;obtain⟨h12,hh12⟩:∃h12,h12=h11.put ob (.cells (vs.set x v') 1 false):=⟨_,rfl⟩
     rw[<-hh12]at w12 u12;refine bM (by simp only[am,aI,simprocAttr,e8,e12,ixk,bh,i11.cells.1,i11.cells.2,w12]<;>rfl) ?_;refine bW (λts h'=>h'=h12/\Held [(76,.int .i64 (i:Nat)),(75,.int .i64 (E.length:Nat)),(74,ev),(8,.sl ob 0 k k),(4,.mp mb),(9,.int .i64 (i:Nat)),(85,.agg [.int .i64 (tlE E i:Nat),.int .i64 (hdE E i:Nat)]),(86,.int .i64 ((q+1:Nat):Int))] ts) (by simp only[am,aI,simprocAttr,e76,e75,e74,e8,e4,e9,e85,e86,wq,cG,dl]) ?_;rintro ts h12' ⟨rfl,hh⟩;have n12:=u12.nx;have R12:Rw h12' (ob+1) (vs.set x v') (xN (oq (q+1))):=by
      rw[hn];exact(R10.setN om hv i11 fr11 nw11).cong λc hc _=>u12.ne om
     have x12:Ext h.next h10 h12':=⟨om,λc hc=>by rw[u12.ne om,x11.gt c om],λc hc=>by rw[u12.ty c,x11.ty c om]⟩
     have hvm:∀b n,v=.sl b 0 n n->mb≠b:=λb n e=>by
      have:=(R10.lt (j:=x) (b:=b) (n:=n) (by rw[hv,e])).2;omega
     refine⟨2-(q+1),om,q+1,_,rfl,om,hh,u12.get,by rw[dh];exact vl,R12,X10.trans x12,m10.cong (by rw[u12.ne om,fr11 mb m10.lt hvm]),om,λy=>?_⟩;rw[onext];have:=Lo nc ni hdN (out:=oq q) (x:=x) (λy=>len9 y) y;rw[cT];omega
   .have:q=2:=om;subst this;have dq:decide (((2:Nat):Int)<2)=false:=rfl;refine ai (bW (λts h'=>h'=h9/\Held [(76,.int .i64 (i:Nat)),(75,.int .i64 (E.length:Nat)),(74,ev),(8,.sl ob 0 k k),(4,.mp mb),(87,.bool false)] ts) (by simp only[am,aI,simprocAttr,e76,e75,e74,e8,e4,e9,e85,e86,dq,cG,dl]<;>rfl) ?_);rintro ts h9' ⟨rfl,e76,e75,e74,e8,e4,e87,-⟩;refine ai (dR (Z1 e87) (fp ⟨λ_=>⟨vs,⟨g9,vl,?_,X9,m9,n9,λy=>?_⟩,H5 e76 e75 e74 e8 e4⟩,λe=>absurd rfl e⟩))
    .rw[<-oq2'];exact R9
    .rw[<-oq2'];have:=len9 y;rw[cT];omega
  .rintro vs ts h7 ⟨g7,vl,R7,X7,m7,n7,len7⟩ ⟨e74,e8,e4,-⟩;refine ai (aD (M1 e8) ?_);exact bU ⟨.tup [.sl ob 0 k k,.bool true],(by simp only[rs,rf18,am,aI,simprocAttr,e8]<;>rfl),X7,.inr ⟨hP,ob,vs,_,rfl,om,g7,vl,R7,hEmb⟩⟩
open Go.Am
open Go.Pla (Dual)
def IsP(n:Int)(E:List (Int×Int)):Prop:=ip n E/\∀(hE:InG n.toNat E) (hL:∀i,i<E.length->tlE E i≠hdE E i),∃(Φ:Type) (l r:Nat->Φ),Dual (grE n.toNat E hE hL) (List.range E.length) l r
theorem Bk{n:Int}(he:SlE h ev E)(hxl:E.length<2^40):C prg 9 [.agg [.int .i64 n,ev]] h λr h'=>∃b,r=.bool b/\(b=true↔IsP n E)/\Ext h.next h h':=by
 obtain⟨ec,eo⟩:=he.cells;refine Ny pf9 ?_;refine ai (aD (Mi0) ?_);have x0:Ext h.next h (h.new (.cells [.int .i64 n,ev] 2 false)):=Nt (ab _);have g0:(h.new (.cells [.int .i64 n,ev] 2 false)).get h.next=some (.cells [.int .i64 n,ev] 2 false):=by rw[AH.get_new,if_pos rfl]
 have n0:(h.new (.cells [.int .i64 n,ev] 2 false)).next=h.next+1:=rfl;generalize (h.new (.cells [.int .i64 n,ev] 2 false))=h1 at *
 have rA:aA h1 h.next 0 2=some [.int .i64 n,ev]:=by rw[bI g0];rfl
 refine ai (bS (bE 1 (Mi1 rA) rfl (Zi1 rA) (Mi1 rA) (Ex (he.ext x0 (ab _)) hxl) λr h2 hq=>?_));obtain⟨x2,hq⟩:=hq;have X2:Ext h.next h h2:=x0.trans (x2.mono om);rcases hq with⟨rfl,hno⟩|⟨hP,ob,vs,rows,rfl,_,_,_,_,hEmb⟩
 .refine bM (M0) ?_;refine ai (aD (M0) ?_);refine bU ⟨.bool false,(by simp only[rs,rf9,am,aI,simprocAttr]<;>rfl),false,rfl,⟨λh=>(by cases h),λ⟨hP,hd⟩=>?_⟩,X2⟩;obtain⟨k,rfl⟩:=vP hP;have hE:=mX hP.1;have hL:=vW hP.1 hP.2.1;exact absurd (hd hE hL) (hno hP hE hL)
 .refine bM (M0) ?_;refine ai (aD (M0) ?_);exact bU ⟨.bool true,(by simp only[rs,rf9,am,aI,simprocAttr]<;>rfl),true,rfl,⟨λ_=>⟨hP,λhE hL=>(hEmb hE hL).dual⟩,λ_=>rfl⟩,X2⟩
end Go.Proofs.YtlolkmcdimgplaaGreat
