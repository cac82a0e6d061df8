/- block's search -/
import Derived.Test.YtlolkmcdimgplaaGreatVTAO
set_option linter.all false
namespace Go.Proofs.YtlolkmcdimgplaaGreat
open Go.Am
open Go.Blk (Gr DS upd visit edgeS enter Pre Mid pot unm)
theorem mnn{k:IntKind}{a b:Nat}:lA mnA [.int k (a:Nat),.int k (b:Nat)]=some (.int k ((min a b:Nat):Int)):=by
 have:lA mnA [.int k ((a:Nat):Int),.int k ((b:Nat):Int)]=some (.int k (if ((b:Nat):Int)<((a:Nat):Int)then((b:Nat):Int)else((a:Nat):Int))):=by simp[lA,mnA]
 rw[this];congr 2;split<;>omega
def xQ(s:DS)(x y:Nat):DS:={ s with low:=upd s.low x (min (s.low x) (s.low y))}
def byI:Option Nat->Int
 |none=>-1
 |some b=>(b:Nat)
set_option maxHeartbeats 4000000 in
theorem FJ{h0:AH}{sp eb nb lb n:Nat}{ev:AV}{E:List (Int×Int)}(t:Sta h0 sp eb nb lb n ev E)(hE:InG n E)(hL:∀i,i<E.length->tlE E i≠hdE E i)(hn:n<2^30)(hxl:E.length<2^30) :
 ∀(f:Nat) {h:AH}{an:List Nat}{x:Nat}{by_:Option Nat}{s:DS}{stv blv:AV}{bs:List AV},Pre (grE n E hE hL) an x by_ s->unm (grE n E hE hL) s<=f->pot (grE n E hE hL) (dS E) s<=2^30->Ser h0 h sp eb nb lb n ev s stv blv bs ->
   C prg 46 [.ptr sp 0,.int .i64 (x:Nat),.int .i64 (byI by_)] h λ_ h'=>∃stv' blv' bs',Ser h0 h' sp eb nb lb n ev (visit (grE n E hE hL) (dS E) dZ f x by_ s) stv' blv' bs':=by
 intro f;induction f with
 |zero =>
   intro h an x by_ s stv blv bs p hf _ _;have:=Go.Blk.unm_pos p.hx p.x0;omega
 |succ f ih =>
 intro h an x by_ s stv blv bs p hf hpot r;have hends:=Ao hE hL;have hx:x<n:=p.hx;obtain⟨l1,l2,l3⟩:=t.lt;have hcnt:s.cnt<=2^30:=by unfold pot at hpot;omega
 refine Ny pf46 ?_;have r5:aA h sp 5 1=some [.int .i64 (s.cnt:Nat)]:=bJ r.cell rfl;have w1:=LV (k:=s.cnt) om;obtain⟨h1,a1,R1⟩:=r.setCnt t (s.cnt+1);refine ai (aD (Mi3 r5 w1 a1) ?_);have r3:aA h1 sp 3 1=some [.sl nb 0 n n]:=bJ R1.cell rfl;have r4:aA h1 sp 4 1=some [.sl lb 0 n n]:=bJ R1.cell rfl;have r51:aA h1 sp 5 1=some [.int .i64 (s.cnt+1:Nat)]:=bJ R1.cell rfl;have ix:iV ((x:Nat):Int) n=some x:=eU hx;obtain⟨h2,a2,R2⟩:=R1.setNum t hx (s.cnt+1);obtain⟨h3,a3,R3⟩:=R2.setLow t hx (s.cnt+1);refine ai (aD (Mi7 r3 r4 r51 ix @bh a2 a3) ?_);have R3:Ser h0 h3 sp eb nb lb n ev (enter x s) stv blv bs:=R3;clear a1 a2 a3 R1 R2 r3 r4 r5 r51;obtain⟨rv,e1,e2,e3o,e4⟩:=t.row R3.kp hx;have r2:aA h3 sp 2 1=some [.sl eb 0 n n]:=bJ R3.cell rfl;have el:=e2.len;rw[ah,kv]at el;refine ai (aD (Mi5 r2 ix @bh e1 el) ?_);have hm0:=Go.Blk.mid0 p;have hpe:=Go.Blk.pot_enter (ends:=dS E) p.hx p.x0;have hin:∀i∈dS E x,(grE n E hE hL).inc i x:=λi hi=>(hends x p.hx).2 i |>.1 hi;have hnd:=(hends x p.hx).1
 have hvis:∀(y i:Nat) (s:DS),y<(grE n E hE hL).n->s.num y=0->(∀v,s.num v≠0->(visit (grE n E hE hL) (dS E) dZ f y (some i) s).num v≠0)/\pot (grE n E hE hL) (dS E) (visit (grE n E hE hL) (dS E) dZ f y (some i) s)<=pot (grE n E hE hL) (dS E) s :=
  λy i s hy hs=>Go.Blk.pot_visit (λx hx i hi=>(hends x hx).2 i |>.1 hi) f y (some i) s hy hs
 have hel:(dS E x).length<2^40:=by unfold pot at hpe hpot;omega
 show W prg _ _ _ _ (λts h=>∃v,_/\∃stv' blv' bs',Ser h0 h sp eb nb lb n ev ((dS E x).foldl (edgeS (grE n E hE hL) dZ (λy i s=>visit (grE n E hE hL) (dS E) dZ f y (some i) s) x by_) (enter x s)) stv' blv' bs') _;generalize hL':dS E x=l at *
 refine gA (α:=Unit) (N:=l.length) (λ_ _=>[(0,.ptr sp 0),(1,.int .i64 (x:Nat)),(2,.int .i64 (byI by_)),(42,rv)])
  (λk _ h'=>∃(stv:AV) (blv:AV) (bs:List AV) (new:List Nat) (cs:List (List Nat)),Ser h0 h' sp eb nb lb n ev ((l.take k).foldl (edgeS (grE n E hE hL) dZ (λy i s=>visit (grE n E hE hL) (dS E) dZ f y (some i) s) x by_) (enter x s)) stv blv bs /\
   Mid (grE n E hE hL) x by_ s (l.take k) ((l.take k).foldl (edgeS (grE n E hE hL) dZ (λy i s=>visit (grE n E hE hL) (dS E) dZ f y (some i) s) x by_) (enter x s)) new cs) () (λ_ _=>rfl) om (Hi0)
  ⟨stv,blv,bs,[],[],R3,hm0⟩ ?_ ?_
 .clear R3 r2 e1 e2 el;rintro k _ ts h4 hk ⟨stv,blv,bs,new,cs,R,m⟩ ⟨ei,en,e0,ex,eb',e42,-⟩;simp only at ei en e0 ex eb' e42;have hii:(grE n E hE hL).inc l[k] x:=hin _ (aO hk);have hiL:l[k]∉l.take k:=λhm=>by
   have hnd':=hnd;rw[<-cm k l,aN]at hnd';exact hnd'.2.2 _ hm _ (by rw[cn hk];exact aM ..) rfl
  obtain⟨new',cs',m'⟩:=Go.Blk.mid_step hends kY p hf m hii hiL;have hpk:=(Go.Blk.pot_fold (sort:=dZ) (by_:=by_) hvis (l.take k) (enter x s) λi hi=>hin i (yI hi)).2;have hsucc:(l.take (k+1)).foldl (edgeS (grE n E hE hL) dZ (λy i s=>visit (grE n E hE hL) (dS E) dZ f y (some i) s) x by_) (enter x s)=edgeS (grE n E hE hL) dZ (λy i s=>visit (grE n E hE hL) (dS E) dZ f y (some i) s) x by_ ((l.take k).foldl (edgeS (grE n E hE hL) dZ (λy i s=>visit (grE n E hE hL) (dS E) dZ f y (some i) s) x by_) (enter x s)) l[k]:=by
   rw[bu hk,eW];rfl
  rw[bK,dU om]at hpk;rw[bu hk];rw[bu hk]at hsucc;rw[hsucc];clear hsucc;obtain⟨sN,hsN⟩:∃sN,sN=edgeS (grE n E hE hL) dZ (λy i s=>visit (grE n E hE hL) (dS E) dZ f y (some i) s) x by_ ((l.take k).foldl (edgeS (grE n E hE hL) dZ (λy i s=>visit (grE n E hE hL) (dS E) dZ f y (some i) s) x by_) (enter x s)) l[k]:=⟨_,rfl⟩
  rw[<-hsN]at m' |-;generalize (l.take k).foldl (edgeS (grE n E hE hL) dZ (λy i s=>visit (grE n E hE hL) (dS E) dZ f y (some i) s) x by_) (enter x s)=s1 at *
  have hpot1:pot (grE n E hE hL) (dS E) s1+2<=2^30:=om;have hstk1:s1.stk.length<=2^30:=by unfold pot at hpot1;omega
  obtain⟨rv',e1,e2,_,_⟩:=t.row R.kp hx;have e2:SlI h4 rv (nI l):=e4.kp R.kp e3o;obtain⟨b1,p1,ia1,ir1,_⟩:=e2.at1 (fR (f:=eI) (i:=k) (by rw[kv];exact hk));rw[show(nI l)[k]'(by rw[kv];exact hk)=((l[k]:Nat):Int) by simp[nI]]at ir1;refine ai (aD (M4 ei e42 ia1 ir1) ?_);obtain⟨oi,one,oo⟩:=Go.Blk.inc_oth hii;have hother:=FK t R hE hL om hii;generalize hi:l[k]=i at *
  refine ai (bS (bE 3 (by simp only[am,aI,simprocAttr,e0,ex]<;>rfl) rfl (by simp only[am,aI,simprocAttr,e0,ex]) (by simp only[am,aI,simprocAttr,e0,ex]<;>rfl) (hother) λv h5 hq=>?_));obtain⟨rfl,x5⟩:=hq;refine bM (M0) ?_;have hy:(grE n E hE hL).oth i x<n:=Go.Blk.inc_lt oi;have R5:Ser h0 h5 sp eb nb lb n ev s1 stv blv bs:=by
   have hnx:=R.kp.nx;refine { kp:=R.kp.trans (x5.kp (ab _)) λ_ _ q=>q,cell:=by rw[x5.gt _ om];exact R.cell,gn:=by rw[x5.gt _ om];exact R.gn,gl:=by rw[x5.gt _ om];exact R.gl,st:=R.st.cong λc _ ⟨o,m,kk,e⟩=>x5.gt _ (R.st.lt e).1,bl:=R.bl.ext x5 (ab _),rl:=R.rl,rw:=λj v l a b=>⟨(R.rw j v l a b).1.ext x5 (ab _),(R.rw j v l a b).2⟩,sb:=R.sb}
  clear hother e1 e2 ia1 ir1 R;have hsp:Pre (grE n E hE hL) (x::an) ((grE n E hE hL).oth i x) (some i) { s1 with stk:=s1.stk++[i]}\/s1.num ((grE n E hE hL).oth i x)≠0:=by
   by_cases q:s1.num ((grE n E hE hL).oth i x)=0
   .exact .inl (Go.Blk.sub_pre p m hii q)
   .exact .inr q
  have hsu:=Go.Blk.sub_unm (i:=i) p m;have hvg:=Go.Blk.visit_good hends kY f (x::an) ((grE n E hE hL).oth i x) (some i) { s1 with stk:=s1.stk++[i]};generalize hyd:(grE n E hE hL).oth i x=y at *
  have iy:iV ((y:Nat):Int) n=some y:=eU hy
  have goal:∀{h':AH}{stv blv:AV}{bs:List AV}{s':DS},sN=s'->Ser h0 h' sp eb nb lb n ev s' stv blv bs ->
   ∃(stv:AV) (blv:AV) (bs:List AV) (new:List Nat) (cs:List (List Nat)),Ser h0 h' sp eb nb lb n ev sN stv blv bs/\Mid (grE n E hE hL) x by_ s (l.take k++[i]) sN new cs :=
   fun {h' stv blv bs s'} e q=>⟨stv,blv,bs,new',cs',by rw[e];exact q,m'⟩
  have rn5:aA h5 sp 3 1=some [.sl nb 0 n n]:=bJ R5.cell rfl;have ry5:aA h5 nb y 1=some [.int .i64 (s1.num y:Nat)]:=bJ R5.gn (oz hy);have rx5:aA h5 nb x 1=some [.int .i64 (s1.num x:Nat)]:=bJ R5.gn (oz hx);have rst5:aA h5 sp 6 1=some [stv]:=bJ R5.cell rfl;refine cA ?_;by_cases hb:by_=some i
  .have c1:decide (((i:Nat):Int)=byI by_)=true:=bp (by rw[hb];rfl);refine ai (aD (M2 eb' c1) ?_);refine dv (Z0) (bQ ?_);refine⟨(),goal ?_ R5,by simp only[hl,am,aI,simprocAttr,ei,en,e0,ex,eb',e42]⟩;rw[hsN];unfold edgeS;rw[if_pos hb]
  have c1:decide (((i:Nat):Int)=byI by_)=false:=aX λe=>hb (by
   cases by_ with
   |none=>change ((i:Nat):Int)=-1 at e;omega
   |some b=>change ((i:Nat):Int)=((b:Nat):Int)at e;congr 1;omega)
  refine ai (aD (M2 eb' c1) ?_);refine dR (Z0) ?_;by_cases hy0:s1.num y=0
  .have c2:decide (((s1.num y:Nat):Int)=0)=true:=bp om;refine ai (aD (M6 e0 rn5 iy @bh ry5 c2) ?_);refine dv (Z0) ?_;obtain⟨v',h6,h7,q1,q2,q3,q4,R7⟩:=R5.push t i om;refine ai (aD (M6 e0 rst5 q1 q2 q3 q4) ?_);have hpre:Pre (grE n E hE hL) (x::an) y (some i) { s1 with stk:=s1.stk++[i]}:=hsp.resolve_right (λq=>q hy0);have hpp:pot (grE n E hE hL) (dS E) { s1 with stk:=s1.stk++[i]}<=2^30:=by rw[Go.Blk.pot_push];omega
   have hcall:=ih hpre om hpp R7;obtain⟨new2,bs2,post⟩:=hvg hpre om;have hp2:=(hvis y i { s1 with stk:=s1.stk++[i]} hy hy0).2;have ed:sN=if (xQ (visit (grE n E hE hL) (dS E) dZ f y (some i) { s1 with stk:=s1.stk++[i]}) x y).num x<=(xQ (visit (grE n E hE hL) (dS E) dZ f y (some i) { s1 with stk:=s1.stk++[i]}) x y).low y then(xQ (visit (grE n E hE hL) (dS E) dZ f y (some i) { s1 with stk:=s1.stk++[i]}) x y).close dZ i else xQ (visit (grE n E hE hL) (dS E) dZ f y (some i) { s1 with stk:=s1.stk++[i]}) x y:=by
    rw[hsN];unfold edgeS;rw[if_neg hb,hyd,if_pos hy0];rfl
   clear hsN hsp hvg;refine ai (bS (bE 3 (by simp only[am,aI,simprocAttr,e0,byI]<;>rfl) rfl (by simp only[am,aI,simprocAttr,e0,byI]) (by simp only[am,aI,simprocAttr,e0,byI]<;>rfl) (hcall) λv h8 hq=>?_));obtain⟨stv2,blv2,bs2',R8⟩:=hq;have hist:i∈(visit (grE n E hE hL) (dS E) dZ f y (some i) { s1 with stk:=s1.stk++[i]}).stk:=by rw[post.stk];simp
   generalize visit (grE n E hE hL) (dS E) dZ f y (some i) { s1 with stk:=s1.stk++[i]}=s2 at *
   refine bM (M0) ?_;have rl8:aA h8 sp 4 1=some [.sl lb 0 n n]:=bJ R8.cell rfl;have rx8:aA h8 lb x 1=some [.int .i64 (s2.low x:Nat)]:=bJ R8.gl (oz hx);have ry8:aA h8 lb y 1=some [.int .i64 (s2.low y:Nat)]:=bJ R8.gl (oz hy);obtain⟨h9,w9,R9⟩:=R8.setLow t hx (min (s2.low x) (s2.low y));refine ai (aD (by simp only[am,aI,simprocAttr,e0,ex,rl8,ix,iy,bh,rx8,ry8,mnn,w9]<;>rfl) ?_);have hp3:pot (grE n E hE hL) (dS E) (xQ s2 x y)<=2^30:=by
    have e:pot (grE n E hE hL) (dS E) (xQ s2 x y)=pot (grE n E hE hL) (dS E) s2:=rfl;rw[e];omega
   have hist3:i∈(xQ s2 x y).stk:=hist;have R9:Ser h0 h9 sp eb nb lb n ev (xQ s2 x y) stv2 blv2 bs2':=R9;generalize xQ s2 x y=s3 at *
   have rl9:aA h9 sp 4 1=some [.sl lb 0 n n]:=bJ R9.cell rfl;have rn9:aA h9 sp 3 1=some [.sl nb 0 n n]:=bJ R9.cell rfl;have ry9:aA h9 lb y 1=some [.int .i64 (s3.low y:Nat)]:=bJ R9.gl (oz hy);have rx9:aA h9 nb x 1=some [.int .i64 (s3.num x:Nat)]:=bJ R9.gn (oz hx);by_cases hc:s3.num x<=s3.low y
   .have c3:decide (((s3.num x:Nat):Int)<=((s3.low y:Nat):Int))=true:=bp om;refine ai (aD (by simp only[am,aI,simprocAttr,e0,ex,rl9,rn9,ix,iy,bh,rx9,ry9,c3]<;>rfl) ?_);refine dv (Z0) ?_;have hcl:=FN t R9 hist3 (by unfold pot at hp3;omega) (by unfold pot at hp3;omega);refine bS (bE 2 (M1 e0) rfl (Z1 e0) (M1 e0) (hcl) λv h10 hq=>?_);obtain⟨stv3,blv3,bs3,R10⟩:=hq;refine bM (M0) ?_;refine⟨(),goal (by rw[ed,if_pos hc]) R10,by simp only[hl,am,aI,simprocAttr,ei,en,e0,ex,eb',e42]⟩
   .have c3:decide (((s3.num x:Nat):Int)<=((s3.low y:Nat):Int))=false:=aX om;refine ai (aD (by simp only[am,aI,simprocAttr,e0,ex,rl9,rn9,ix,iy,bh,rx9,ry9,c3]<;>rfl) ?_);refine dR (Z0) (bQ ?_);refine⟨(),goal (by rw[ed,if_neg hc]) R9,by simp only[hl,am,aI,simprocAttr,ei,en,e0,ex,eb',e42]⟩
  have c2:decide (((s1.num y:Nat):Int)=0)=false:=aX om;refine ai (aD (M6 e0 rn5 iy @bh ry5 c2) ?_);refine dR (Z0) ?_;by_cases hlt:s1.num y<s1.num x
  .have c3:decide (((s1.num y:Nat):Int)<((s1.num x:Nat):Int))=true:=bp om;refine ai (aD (by simp only[am,aI,simprocAttr,e0,ex,rn5,ix,iy,bh,ry5,rx5,c3]<;>rfl) ?_);refine dv (Z0) ?_;obtain⟨v',h6,h7,q1,q2,q3,q4,R7⟩:=R5.push t i om;refine ai (aD (M6 e0 rst5 q1 q2 q3 q4) ?_);have rl7:aA h7 sp 4 1=some [.sl lb 0 n n]:=bJ R7.cell rfl;have rn7:aA h7 sp 3 1=some [.sl nb 0 n n]:=bJ R7.cell rfl;have rx7:aA h7 lb x 1=some [.int .i64 (s1.low x:Nat)]:=bJ R7.gl (oz hx);have ry7:aA h7 nb y 1=some [.int .i64 (s1.num y:Nat)]:=bJ R7.gn (oz hy);obtain⟨h8,w8,R8⟩:=R7.setLow t hx (min (s1.low x) (s1.num y));refine aD (by simp only[am,aI,simprocAttr,e0,ex,rl7,rn7,ix,iy,bh,rx7,ry7,mnn,w8]<;>rfl) ?_;refine⟨(),goal (s':={ s1 with stk:=s1.stk++[i],low:=upd s1.low x (min (s1.low x) (s1.num y))}) ?_ R8,by simp only[hl,am,aI,simprocAttr,ei,en,e0,ex,eb',e42]⟩;rw[hsN];unfold edgeS;rw[if_neg hb,hyd,if_neg hy0,if_pos hlt]
  .have c3:decide (((s1.num y:Nat):Int)<((s1.num x:Nat):Int))=false:=aX om;refine ai (aD (by simp only[am,aI,simprocAttr,e0,ex,rn5,ix,iy,bh,ry5,rx5,c3]<;>rfl) ?_);refine dR (Z0) (bQ ?_);refine⟨(),goal ?_ R5,by simp only[hl,am,aI,simprocAttr,ei,en,e0,ex,eb',e42]⟩;rw[hsN];unfold edgeS;rw[if_neg hb,hyd,if_neg hy0,if_neg hlt]
 .rintro _ ts h4 ⟨stv,blv,bs,new,cs,R,m⟩ _;rw[cZ]at R;refine⟨.tup [],rfl,stv,blv,bs,?_⟩;show Ser h0 h4 sp eb nb lb n ev ((dS E x).foldl (edgeS (grE n E hE hL) dZ (λy i s=>visit (grE n E hE hL) (dS E) dZ f y (some i) s) x by_) (enter x s)) stv blv bs;rw[hL'];exact R
end Go.Proofs.YtlolkmcdimgplaaGreat
namespace Go.Blk
variable {g:Gr}
theorem rise_ext:∀{l m:List Nat},l.Pairwise (·<·)->m.Pairwise (·<·)->(∀x,x∈l↔x∈m)->l=m
 |[],[],_,_,_=>rfl
 |[],y::m,_,_,h=>by have:=(h y).2 (aM ..);cases this
 |x::l,[],_,_,h=>by have:=(h x).1 (aM ..);cases this
 |x::l,y::m,h1,h2,h=>by
   obtain⟨a1,a2⟩:=cW.1 h1;obtain⟨b1,b2⟩:=cW.1 h2;have e:x=y:=by
    have hx:=(h x).1 (aM ..);have hy:=(h y).2 (aM ..);rcases ao.1 hx with q|q
    .exact q
    .rcases ao.1 hy with p|p
     .exact p.symm
     .have:=a1 y p;have:=b1 x q;omega
   subst e;rw[rise_ext a2 b2 λz=>?_];have hz:=h z;rw[ao,ao]at hz;constructor
   .intro q;rcases hz.1 (.inr q)with p|p
    .have:=a1 z q;omega
    .exact p
   .intro q;rcases hz.2 (.inr q)with p|p
    .have:=b1 z q;omega
    .exact p
theorem tM(n:Nat)(p:Nat->Bool):((List.range n).filter p).Pairwise (·<·):=List.pairwise_lt_range.filter _
theorem yv{bs cs:List (List Nat)}(nd:bs.flatten.Nodup)(hb:∀b∈bs,IsBlock g b)(part:∀i,i<g.m↔∃b∈bs,i∈b)(hs:∀b∈bs,b.Pairwise (·<·)){l:Nat->Nat}(hl:Lst g l)(hp:cs.Perm bs)
 (ho:cs.Pairwise λa b=>a.headD 0<=b.headD 0):cs=canon g.m l:=by
 have nd':cs.flatten.Nodup:=(hp.flatten.nodup_iff).2 nd;have hm:∀b,b∈cs↔b∈bs:=λb=>hp.mem_iff;have one:∀b∈cs,b.headD 0∈b/\b.headD 0<g.m/\l (b.headD 0)=b.headD 0/\b=(List.range g.m).filter λk=>l k==b.headD 0:=by
  intro b hbc;have hbk:=hb b ((hm b).1 hbc);have hsr:=hs b ((hm b).1 hbc);obtain⟨a,r,rfl⟩:∃a r,b=a::r:=by
   cases b with
   |nil=>exact absurd rfl hbk.1
   |cons a r=>exact⟨a,r,rfl⟩
  have hlt:∀k∈a::r,k<g.m:=λk hk=>(part k).2 ⟨_,(hm _).1 hbc,hk⟩;have ha:=aM (a:=a) (l:=r);have hle:∀k∈a::r,a<=k:=λk hk=>by
   rcases ao.1 hk with rfl|hk
   .exact ab _
   .exact pp ((cW.1 hsr).1 k hk)
  have hla:l a=a:=by
   have h1:=hl.le a (hlt a ha);have h2:=hle _ (hbk.cls ha (hl.cls a (hlt a ha)));omega
  refine⟨ha,hlt a ha,hla,?_⟩;refine rise_ext hsr (tM _ _) λk=>?_;rw[aJ,aq,beq_iff_eq];show k∈a::r↔k<g.m/\l k=a;constructor
  .intro hk;refine⟨hlt k hk,?_⟩;rw[<-hla];exact((hl.iff (hlt k hk) (hlt a ha)).2 (hbk.2.1 k hk a ha))
  .rintro⟨h1,h2⟩;have:Cls g a k:=(hl.iff (hlt a ha) h1).1 (by rw[hla,h2]);exact hbk.cls ha this
 have heads:(cs.map (·.headD 0))=(List.range g.m).filter λi=>l i==i:=by
  refine rise_ext ?_ (tM _ _) λx=>?_
  .rw[dH];have hd:cs.Pairwise λa b=>a.headD 0≠b.headD 0:=by
    have key:∀(cs:List (List Nat)),cs.flatten.Nodup->(∀b∈cs,b.headD 0∈b)->cs.Pairwise λa b=>a.headD 0≠b.headD 0:=by
     intro cs;induction cs with
     |nil=>intro _ _;exact List.Pairwise.nil
     |cons b cs ih =>
       intro hn hh;rw[jI,aN]at hn;refine cW.2 ⟨λc hc e=>?_,ih hn.2.1 λb hb=>hh b (aQ _ hb)⟩;exact hn.2.2 _ (hh b (aM ..)) _ (fT.2 ⟨c,hc,hh c (aQ _ hc)⟩) e
    exact key cs nd' λb hb=>(one b hb).1
   exact(ho.and hd).imp λh=>by omega
  .rw[bG,aJ,aq,beq_iff_eq];constructor
   .rintro⟨b,hb1,rfl⟩;exact⟨(one b hb1).2.1,(one b hb1).2.2.1⟩
   .rintro⟨h1,h2⟩;obtain⟨b,q1,q2⟩:=(part x).1 h1;have hbc:=(hm b).2 q1;obtain⟨a1,a2,a3,a4⟩:=one b hbc;rw[a4,aJ,beq_iff_eq]at q2;exact⟨b,hbc,by rw[<-q2.2,h2]⟩
 unfold canon;rw[<-heads,gC]
 conv=>lhs;rw[<-yK cs]
 exact da λb hb=>(one b hb).2.2.2
variable {g:Gr}{ends:Nat->List Nat}{sort:List Nat->List Nat}
def Srd(sort:List Nat->List Nat)(s:DS):Prop:=∀b∈s.blk,∃l,b=sort l
theorem Gg{vis:Nat->Nat->DS->DS}{x:Nat}{by_:Option Nat}{i:Nat}(hv:∀(y i:Nat) (s:DS),Srd sort s->Srd sort (vis y i s))(s:DS)(hs:Srd sort s):Srd sort (edgeS g sort vis x by_ s i):=by
 unfold edgeS;split
 .exact hs
 .split
  .have h2:=hv (g.oth i x) i { s with stk:=s.stk++[i]} hs;generalize vis (g.oth i x) i { s with stk:=s.stk++[i]}=s2 at *
   simp only;split
   .intro b hb;have hb:b∈s2.blk++[sort (s2.stk.drop (s2.stk.idxOf i))]:=hb;rcases aw.1 hb with hb|hb
    .exact h2 b hb
    .exact⟨_,by simpa using hb⟩
   .exact h2
  .split
   .exact hs
   .exact hs
theorem vG:∀(f x:Nat) (by_:Option Nat) (s:DS),Srd sort s->Srd sort (visit g ends sort f x by_ s)
 |0,_,_,_,h=>h
 |f+1,x,by_,s,h=>by
   have key:∀(l:List Nat) (s:DS),Srd sort s->Srd sort (l.foldl (edgeS g sort (λy i s=>visit g ends sort f y (some i) s) x by_) s):=by
    intro l;induction l with
    |nil=>exact λs h=>h
    |cons i l ih=>exact λs h=>ih _ (Gg (λy i s h=>vG f y (some i) s h) s h)
   exact key (ends x) (enter x s) h
theorem CD{f:Nat}:∀k,Srd sort ((List.range k).foldl (from1 g ends sort f) start)
 |0=>λb hb=>by cases hb
 |k+1=>by
   rw[cJ,eW];have h:=CD (f:=f) k;show Srd sort (from1 g ends sort f ((List.range k).foldl (from1 g ends sort f) start) k);unfold from1;split
   .exact vG f k none _ h
   .exact h
theorem Btw.pre{s:DS}(b:Btw g s){x:Nat}(hx:x<g.n)(h:s.num x=0):Pre g [] x none s :=
 ⟨hx,h,λa ha=>(by cases ha),λv hv _=>b.black v hv,b.le,b.inj,λz _ a ha=>(by cases ha),λc hc=>(by cases hc),λ_=>rfl,λj hj=>by rw[b.stk]at hj;cases hj⟩
theorem pot_start{m:Nat}(h:∀x,x<g.n->(ends x).length<=m):pot g ends start<=g.n*(1+2*m):=by
 have key:∀(l:List Nat),(∀v∈l,v<g.n)->(l.map λv=>if start.num v=0 then 1+2*(ends v).length else 0).sum<=l.length*(1+2*m):=by
  intro l;induction l with
  |nil=>intro _;simp
  |cons a l ih =>
    intro hl;have h1:=ih λv hv=>hl v (aQ _ hv);have h2:=h a (hl a (aM ..));have h3:start.num a=0:=rfl;rw[aS,eA,if_pos h3,ar,cT,nQ];omega
 have:=key (List.range g.n) λv hv=>aq.1 hv;rw[br]at this;unfold pot wt;show 0+0+0+_<=_;omega
theorem btw_all(hends:∀x,x<g.n->(ends x).Nodup/\∀i,i∈ends x↔g.inc i x)(hsort:∀l,(sort l).Perm l):∀k,k<=g.n->Btw g ((List.range k).foldl (from1 g ends sort g.n) start)/\unm g ((List.range k).foldl (from1 g ends sort g.n) start)<=g.n /\
 pot g ends ((List.range k).foldl (from1 g ends sort g.n) start)<=pot g ends start
 |0,_=>⟨xh,yS,ab _⟩
 |k+1,hk=>by
   obtain⟨h1,h2,h3⟩:=btw_all hends hsort k om;rw[cJ,eW];obtain⟨a,_,_,d⟩:=AC hends hsort h1 (show k<g.n by omega) h2;refine⟨a,d,?_⟩;show pot g ends (from1 g ends sort g.n ((List.range k).foldl (from1 g ends sort g.n) start) k)<=_;unfold from1;split
   .rename_i h0
    exact cI (pot_visit (λx hx i hi=>((hends x hx).2 i).1 hi) g.n k none _ om h0).2 h3
   .exact h3
theorem run_canon(hends:∀x,x<g.n->(ends x).Nodup/\∀i,i∈ends x↔g.inc i x)(hsort:∀l,(sort l).Perm l)(hle:∀l,(sort l).Pairwise (·<=·)){l:Nat->Nat}(hl:Lst g l){cs:List (List Nat)}(hp:cs.Perm (runB g ends sort g.n).blk)(ho:cs.Pairwise λa b=>a.headD 0<=b.headD 0):cs=canon g.m l:=by
 obtain⟨nd,hb,part⟩:=runB_ok hends hsort (ab g.n);refine yv nd hb part (λb hbm=>?_) hl hp ho;obtain⟨l',e⟩:=CD (g:=g) (ends:=ends) (sort:=sort) (f:=g.n) g.n b hbm;have h1:b.Pairwise (·<=·):=by rw[e];exact hle l'
 have h2:b.Nodup:=nd.sublist (List.sublist_flatten_of_mem hbm);exact(h1.and h2).imp λh=>by omega
theorem HF{P:Nat->Prop}:∀n,P n->∃k,P k/\∀j,P j->k<=j:=by
 intro n;induction n using Nat.strongRecOn with
 |_ n ih =>
   intro hn;by_cases h:∃j,j<n/\P j
   .obtain⟨j,h1,h2⟩:=h;exact ih j h1 h2
   .exact⟨n,hn,λj hj=>Decidable.byContradiction λhc=>h ⟨j,om,hj⟩⟩
theorem lst_ex(g:Gr):∃l,Lst g l:=by
 have h:∀i,∃k,Cls g i k/\∀j,Cls g i j->k<=j:=λi=>HF i .refl;obtain⟨l,hl⟩:=Classical.axiomOfChoice h;refine⟨l,λi _=>(hl i).1,λi _=>(hl i).2 i .refl,λi k _ _ r=>?_⟩;have hc:=Cls.one r;have h1:=(hl i).2 (l k) (hc.trans (hl k).1);have h2:=(hl k).2 (l i) (hc.symm.trans (hl i).1);omega
end Go.Blk
namespace Go.Proofs.YtlolkmcdimgplaaGreat
open Go.Am
variable {h:AH}{n:Nat}{v w:AV}
theorem Iz{b c:Nat}{vs:List AV}{kf:Nat->Int}(hg:h.get b=some (.cells vs 1 false))(hl:vs.length=n)(h0:0<n)(hn:n<2^62)(hr:∀i v,vs[i]?=some v->rW h b (kf i) v) :
 C prg 47 [.sl b 0 n c,.fn 48 []] h λ_ h'=>∃is:List Nat,is.Perm (List.range n)/\is.Pairwise (λi j=>kf i<=kf j)/\Mod h.next h h' b (.cells (is.map λi=>vs.getD i .un) 1 false):=by
 have hrd:aA h b 0 n=some vs:=by
  rw[bI hg,if_pos om,bT,cV om]
 refine BS.srf ps47 hrd h0 hn hr λis hp hs=>?_;have hil:(is.map λi=>vs.getD i .un).length=n:=by rw[ah,hp.length_eq,br]
 refine⟨_,?_,_,_,rfl,is,hp,hs,(Nv hg).mod⟩;rw[ez hg,if_pos om];simp only[dD,eZ,bt,cq];rw[cL om,bV]
theorem Bh{α:Type}{d:α}(l:List α):((List.range l.length).map λi=>l.getD i d)=l:=by
 refine dI λj=>?_;rw[aG];by_cases hj:j<l.length
 .rw[fL hj,ae hj];simp only[aC];rw[aj,ae hj];rfl
 .rw[bX (by rw[br];omega),bX om];rfl
open Go.Am
open Go.Blk (Gr DS Lst canon Btw visit pot unm from1)
theorem Ck{x:Int×Int}:C prg 44 [.agg (eE x)] h λr h'=>r=.bool (decide (x.1=x.2))/\Ext h.next h h':=by
 refine Ny pf44 ?_;refine ai (aD (by simp only[am,aI,simprocAttr,bP,eE]<;>rfl) ?_);have ex:Ext h.next h (h.new (.cells [.int .i64 x.1,.int .i64 x.2] 2 false)):=Nt (ab _);have g:(h.new (.cells [.int .i64 x.1,.int .i64 x.2] 2 false)).get h.next=some (.cells [.int .i64 x.1,.int .i64 x.2] 2 false):=by rw[AH.get_new,if_pos rfl]
 generalize h.new (.cells [.int .i64 x.1,.int .i64 x.2] 2 false)=h1 at *
 have r1:aA h1 h.next 0 1=some [.int .i64 x.1]:=by rw[bI g];rfl
 have r2:aA h1 h.next 1 1=some [.int .i64 x.2]:=by rw[bI g];rfl
 refine ai (aD (M2 r1 r2) ?_);exact bU ⟨_,(by simp only[rs,rf44,am,aI,simprocAttr]<;>rfl),rfl,ex⟩
theorem IH:C prg 86 [w,.int .i64 0,.int .i64 0,v] h λ_ h'=>h'=h:=by
 refine Ny pf86 ?_;have w1:IntKind.i64.wrap 1=1:=by decide
 refine ai (bW (λts h1=>h1=h/\aR ts 2=.int .i64 0/\aR ts 8=.int .i64 1) (by simp only[am,aI,simprocAttr,bP,Int.zero_add,w1]) ?_);rintro ts h0 ⟨rfl,e2,e8⟩;refine cA (fO (λn ts h1=>h1=h0/\aR ts 2=.int .i64 0/\aR ts 8=.int .i64 1) ?_ (n:=0) ⟨rfl,e2,e8⟩);clear e2 e8;rintro n ts h1 ⟨rfl,e2,e6⟩;refine ai (ai (aD (M2 e2 e6) ?_));refine dR (by simp only[am,aI,simprocAttr];rfl) ?_;exact fp ⟨λ_=>⟨.tup [],rfl,rfl⟩,λe=>absurd rfl e⟩
theorem IA{l:Int}:C prg 67 [w,.int .i64 0,.int .i64 0,.int .i64 l,v] h λ_ h'=>h'=h:=by
 refine Ny pf67 ?_;refine ai (aD (Mi0) ?_);refine ai (aD (Mi0) ?_);refine cA (fO (λn ts h1=>h1=h/\aR ts 0=w/\aR ts 1=.int .i64 0/\aR ts 2=.int .i64 0/\aR ts 4=v) ?_ (n:=0) ⟨rfl,Zi0,Zi0,Zi0,Zi0⟩);rintro n ts h1 ⟨rfl,e0,e1,e2,e4⟩;refine cA (ai (aD (by simp only[am,aI,simprocAttr,e1,e2,fx (z:=0-0) (by decide) (by decide)]<;>rfl) ?_));refine ai (ai (aD (M0) ?_));refine dv (by simp only[am,aI,simprocAttr];rfl) ?_;refine ai (bS (bE 4 (M4 e0 e1 e2 e4) rfl (Z4 e0 e1 e2 e4) (M4 e0 e1 e2 e4) (IH) λv h2 u=>?_));subst u;refine bM (M0) ?_;exact bU ⟨.tup [],rfl,rfl⟩
theorem Fy(hw:ly w=some (.int .i64 0)):C prg 47 [w,v] h λ_ h'=>h'=h:=by
 refine Ny pf47 ?_;refine ai (aD (Mi1 hw) ?_);have wu:IntKind.u64.wrap 0=0:=by decide
 refine bS (bE 4 (Mi1 wu) rfl (Zi1 wu) (Mi1 wu) (rU) λv h1 hq=>?_);obtain⟨rfl,rfl⟩:=hq;refine bE 1 (Mi0) rfl (Zi0) (Mi0) (IA) λv h2 hq=>?_;subst hq;refine bM (M0) ?_;exact⟨.tup [],rfl,rfl⟩
theorem nC_nL(l:List Nat):nC l=nL l:=LY l
set_option maxHeartbeats 2000000 in
theorem FL{ev:AV}{E:List (Int×Int)}(he:SlE h ev E)(hm:pM (n:Nat) E=true)(hE:InG n E)(hL:∀i,i<E.length->tlE E i≠hdE E i) :
 C prg 32 [.agg (gW n ev)] h λr h'=>(∀l,Lst (grE n E hE hL) l->LL h' h.next r (canon E.length l))/\Ext h.next h h':=by
 obtain⟨ec,eo⟩:=he.cells;obtain⟨m1,m2,m3,m4⟩:=xO hm;have hBg:∀{h':AH},SlE h' ev E->_:=fun {h'} q=>FO (n:=n) q hE hL om om;have hMy:∀{h':AH},SlE h' ev E->_:=fun {h'} q=>Dj (n:=((n:Nat):Int)) q om;unfold gW at hBg |-;refine Ny pf32 ?_;refine ai (aD (Mi0) ?_);have x0:Ext h.next h (h.new (.cells [.int .i64 (n:Nat),ev] 2 false)):=Nt (ab _);have g0:(h.new (.cells [.int .i64 (n:Nat),ev] 2 false)).get h.next=some (.cells [.int .i64 (n:Nat),ev] 2 false):=by rw[AH.get_new,if_pos rfl]
 have n0:(h.new (.cells [.int .i64 (n:Nat),ev] 2 false)).next=h.next+1:=rfl;generalize (h.new (.cells [.int .i64 (n:Nat),ev] 2 false))=h1 at *
 have rA:aA h1 h.next 0 2=some [.int .i64 (n:Nat),ev]:=by rw[bI g0];rfl
 refine ai (ai (bS (bE 1 (Mi1 rA) rfl (Zi1 rA) (Mi1 rA) (hMy (he.ext x0 (ab _))) λr h2 hq=>?_)));obtain⟨rfl,x2⟩:=hq;rw[hm];have X2:Ext h.next h h2:=x0.trans (x2.mono om);have n2:=x2.nx;have g2:h2.get h.next=some (.cells [.int .i64 (n:Nat),ev] 2 false):=by rw[x2.gt _ om];exact g0
 have rE2:aA h2 h.next 1 1=some [ev]:=bJ g2 rfl;refine bE 4 (Mi2 rE2 @kD) rfl (Zi2 rE2 @kD) (Mi2 rE2 @kD) (xc (P:=λx=>decide (x.1=x.2)) (caps:=[]) (he.ext X2 (ab _)) om (λx _ h' _=>by rw[bV];exact Ck)) λr h3 hq=>?_;obtain⟨rfl,x3⟩:=hq;have hany:(E.any λx=>decide (x.1=x.2))=false:=by
  rw[List.any_eq_false];intro x hx;obtain⟨i,hi,rfl⟩:=fK hx;have:=hL i hi;obtain⟨q1,q2,q3⟩:=hE i hi;rw[q1];simp only[aK];omega
 rw[hany];refine bM (M0) ?_;refine dR (Z0) (bQ ?_);have X3:Ext h.next h h3:=X2.trans (x3.mono X2.nx);have n3:=x3.nx;have g3:h3.get h.next=some (.cells [.int .i64 (n:Nat),ev] 2 false):=by rw[x3.gt _ om];exact g2
 have rA3:aA h3 h.next 0 2=some [.int .i64 (n:Nat),ev]:=by rw[bI g3];rfl
 refine ai (bS (bE 1 (Mi1 rA3) rfl (Zi1 rA3) (Mi1 rA3) (hBg (he.ext X3 (ab _))) λr h4 hq=>?_));obtain⟨sp,eb,nb,lb,rfl,x4,⟨lsp,lnb,llb⟩,t,r4⟩:=hq;refine bM (M0) ?_;have X4:Ext h.next h h4:=X3.trans (x4.mono X3.nx);have n4:=x4.nx;have g4:h4.get h.next=some (.cells [.int .i64 (n:Nat),ev] 2 false):=by rw[x4.gt _ om];exact g3
 have rN4:aA h4 h.next 0 1=some [.int .i64 (n:Nat)]:=bJ g4 rfl;refine ai (ai (aD (Mi1 rN4) ?_));have hends:=Ao hE hL;have hall:=Go.Blk.btw_all hends kY;have hps:pot (grE n E hE hL) (dS E) Go.Blk.start<=2^30:=by
  have h1:=Go.Blk.pot_start (g:=grE n E hE hL) (ends:=dS E) (m:=E.length) λx _=>by
   unfold dS;have:=cF (λi=>decide (tlE E i=x)||decide (hdE E i=x)) (List.range E.length);rwa [br]at this
  have h2:(grE n E hE hL).n*(1+2*E.length)<=64*(1+2*128):=yF m2 om;omega
 refine gA (α:=Unit) (N:=n) (λ_ _=>[(1,.ptr h.next 0),(3,.ptr sp 0)])
  (λk _ h'=>∃stv blv bs,Ser h4 h' sp eb nb lb n ev ((List.range k).foldl (from1 (grE n E hE hL) (dS E) dZ n) Go.Blk.start) stv blv bs) () (λ_ _=>rfl) om (Hi0) ⟨_,_,_,r4⟩ ?_ ?_
 .rintro k _ ts h5 hk ⟨stv,blv,bs,R⟩ ⟨ei,en,e1,e3,-⟩;simp only at ei en e1 e3;obtain⟨b1,b2,b3⟩:=hall k (by show k<=n;omega);have hsucc:(List.range (k+1)).foldl (from1 (grE n E hE hL) (dS E) dZ n) Go.Blk.start=from1 (grE n E hE hL) (dS E) dZ n ((List.range k).foldl (from1 (grE n E hE hL) (dS E) dZ n) Go.Blk.start) k:=by
   rw[cJ,eW];rfl
  rw[hsucc];change Btw (grE n E hE hL) ((List.range k).foldl (from1 (grE n E hE hL) (dS E) dZ n) Go.Blk.start)at b1;change unm (grE n E hE hL) ((List.range k).foldl (from1 (grE n E hE hL) (dS E) dZ n) Go.Blk.start)<=n at b2;change pot (grE n E hE hL) (dS E) ((List.range k).foldl (from1 (grE n E hE hL) (dS E) dZ n) Go.Blk.start)<=_ at b3;clear hsucc;generalize (List.range k).foldl (from1 (grE n E hE hL) (dS E) dZ n) Go.Blk.start=s at *
  have rn:aA h5 sp 3 1=some [.sl nb 0 n n]:=bJ R.cell rfl;have rk:aA h5 nb k 1=some [.int .i64 (s.num k:Nat)]:=bJ R.gn (oz hk);have ik:iV ((k:Nat):Int) n=some k:=eU hk;refine ai (aD (M1 ei) ?_);by_cases q:s.num k=0
  .have c1:decide (((s.num k:Nat):Int)=0)=true:=bp om;refine ai (aD (M6 e3 rn ik @bh rk c1) ?_);refine dv (Z0) ?_;have hv:=FJ t hE hL om om n (b1.pre (show k<(grE n E hE hL).n from hk) q) b2 om R;refine bS (bE 2 (by simp only[am,aI,simprocAttr,e3,byI]<;>rfl) rfl (by simp only[am,aI,simprocAttr,e3,byI]) (by simp only[am,aI,simprocAttr,e3,byI]<;>rfl) (hv) λv h6 hq=>?_);obtain⟨stv',blv',bs',R'⟩:=hq;refine bM (M0) ?_;refine⟨(),⟨stv',blv',bs',?_⟩,H4 ei en e1 e3⟩;unfold from1;rw[if_pos q];exact R'
  .have c1:decide (((s.num k:Nat):Int)=0)=false:=aX om;refine ai (aD (M6 e3 rn ik @bh rk c1) ?_);refine dR (Z0) (bQ ?_);refine⟨(),⟨stv,blv,bs,?_⟩,H4 ei en e1 e3⟩;unfold from1;rw[if_neg q];exact R
 rintro _ ts h5 ⟨stv,blv,bs,R⟩ ⟨e1,e3,-⟩;simp only at e3;obtain⟨b1,b2,b3⟩:=hall n (ab n);change pot (grE n E hE hL) (dS E) ((List.range n).foldl (from1 (grE n E hE hL) (dS E) dZ n) Go.Blk.start)<=_ at b3;have hrun:(List.range n).foldl (from1 (grE n E hE hL) (dS E) dZ n) Go.Blk.start=Go.Blk.runB (grE n E hE hL) (dS E) dZ (grE n E hE hL).n:=rfl;obtain⟨nd,hbk,part⟩:=Go.Blk.runB_ok hends kY (ab (grE n E hE hL).n);rw[<-hrun]at nd hbk part;have hcan:=λl (hl:Lst (grE n E hE hL) l) cs=>Go.Blk.run_canon hends kY Gi hl (cs:=cs);rw[<-hrun]at hcan;generalize (List.range n).foldl (from1 (grE n E hE hL) (dS E) dZ n) Go.Blk.start=s at *
 clear hrun;have hnx:=R.kp.nx;have hsp5:=AH.lt_of_get R.cell;have X5:Ext h.next h h5:=X4.trans ⟨hnx,λc hc=>R.kp.gt c om (by rintro (e|e|e)<;>omega),λc hc=>R.kp.ty c om⟩;have rb:aA h5 sp 7 1=some [blv]:=bJ R.cell rfl;have hblk:s.blk.length<=2^30:=by
  have h1:=cI b3 hps;unfold pot at h1;omega
 have hcells:=R.bl.cells;have hlen:ly blv=some (.int .i64 (s.blk.length:Nat)):=by
  rw[<-R.rl];rcases R.bl with⟨hv,hbs⟩|⟨b,m,hb,hv,hg,hl⟩
  .rw[hv,hbs];rfl
  .rw[hv,hl,bh];rfl
 by_cases hz:s.blk.length=0
 .have hblk0:s.blk=[]:=bF.1 hz;rw[hz]at hlen;refine ai (bS (bE 4 (M3 e3 rb @kD) rfl (Z3 e3 rb @kD) (M3 e3 rb @kD) (Fy hlen) λv h6 hq=>?_));subst hq;refine bM (M0) ?_;refine ai (aD (M2 e3 rb) ?_);refine bU ⟨blv,(by simp only[rs,rf32,am,aI,simprocAttr,hcells.1]<;>rfl),λl hl=>?_,X5⟩;have e:=hcan l hl [] (by rw[hblk0]) List.Pairwise.nil;change []=canon E.length l at e;rw[<-e];have hbs0:bs=[]:=bF.1 (by rw[R.rl];exact hz);exact⟨bs,R.bl.mono om,by rw[hbs0];rfl,λi v xs e=>by rw[hbs0]at e;simp at e⟩
 have hbl0:bs.length=s.blk.length:=R.rl;rcases R.bl with⟨hv,hbs⟩|⟨b,m,hb,hv,hg,hl⟩
 .rw[hbs]at hbl0;exact absurd hbl0.symm hz
 have hm0:m=s.blk.length:=by rw[<-R.rl,hl,bh]
 subst hm0;have hb5:=AH.lt_of_get hg;have hpos:0<s.blk.length:=Nat.pos_of_ne_zero hz;have hne:∀r∈s.blk,∃a xs,r=a::xs/\a<E.length:=λr hr=>by
  obtain⟨q1,_⟩:=hbk r hr;cases r with
  |nil=>exact absurd rfl q1
  |cons a xs=>exact⟨a,xs,rfl,(part a).2 ⟨_,hr,aM ..⟩⟩
 have hrow:∀i v,bs[i]?=some v->rW h5 b (((s.blk.getD i []).headD 0:Nat):Int) v:=λi v q1=>by
  have hi:i<s.blk.length:=by have:=(aF.1 q1).1;omega
  obtain⟨a,xs,e3,e4⟩:=hne _ (aO hi);have q2:s.blk[i]?=some (a::xs):=by rw[ae hi,e3]
  obtain⟨z1,_,z3⟩:=R.rw i v _ q1 q2;rcases z1 with⟨_,e⟩|⟨b',m,hb',hv',hg',hl'⟩
  .cases e
  .have hm:m=xs.length+1:=by
    rw[bh]at hl';rw[<-hl'];simp[nL]
   subst hm;refine⟨b',0,xs.length,_,hv',λe2=>z3 b' 0 _ _ 0 _ _ hv' (by rw[hv,e2]),?_,om,?_⟩
   .rw[aj,q2];exact bJ hg' rfl
   .rw[aj,q2];show((a:Nat):Int)<_;omega
 have hsort:=Iz (c:=s.blk.length) hg hbl0 hpos om hrow;rw[hv]at rb;refine ai (bS (bE 4 (M3 e3 rb @kD) rfl (Z3 e3 rb @kD) (M3 e3 rb @kD) (hsort) λv h6 hq=>?_));obtain⟨is,hp,hs,hmd⟩:=hq;refine bM (M0) ?_;have hspb:sp≠b:=by have:=t.lt.1;omega
 have rb6:aA h6 sp 7 1=some [.sl b 0 s.blk.length s.blk.length]:=by rw[cU (hmd.gt sp hspb hsp5)];exact rb
 refine ai (aD (M2 e3 rb6) ?_);have X6:Ext h.next h h6:=X5.trans (Ext.mono (hmd.mono (m:=b) om |>.toExt (ab _)) om);refine bU ⟨.sl b 0 s.blk.length s.blk.length,(by simp only[rs,rf32,am,aI,simprocAttr]<;>rfl),λl hl=>?_,X6⟩;have hil:is.length=s.blk.length:=by rw[hp.length_eq,br]
 have hperm:(is.map λi=>s.blk.getD i []).Perm s.blk:=by
  have:=hp.map λi=>s.blk.getD i [];rwa [Bh]at this
 have hord:(is.map λi=>s.blk.getD i []).Pairwise λa b=>a.headD 0<=b.headD 0:=by
  rw[dH];exact hs.imp λq=>Int.ofNat_le.1 q
 have e:=hcan l hl _ hperm hord;change _=canon E.length l at e;rw[<-e];refine⟨is.map λi=>bs.getD i .un,.inr ⟨b,s.blk.length,om,rfl,hmd.get,by rw[ah,hil,bh]⟩,by rw[ah,ah],λi v xs q1 q2=>?_⟩;rw[aG]at q1 q2;obtain⟨x,k1,rfl⟩:=aE.1 q1;rw[k1]at q2;simp only[aC,aa]at q2;subst q2;have hx:x<s.blk.length:=aq.1 (hp.mem_iff.1 (df k1));have p3:bs[x]?=some (bs.getD x .un):=by
  rw[aj,ae (show x<bs.length by omega)];rfl
 have p4:s.blk[x]?=some (s.blk.getD x []):=by
  rw[aj,ae hx];rfl
 obtain⟨w1,_,w3⟩:=R.rw x _ _ p3 p4;rw[nC_nL];have hw:∀b' n',bs.getD x .un=.sl b' 0 n' n'->b'≠b:=λb' n' e1 e2=>w3 b' 0 n' n' 0 s.blk.length s.blk.length e1 (by rw[hv,e2]);refine⟨(w1.cong λb' m' e _=>hmd.gt b' (hw b' m' e) (w1.lt e)).mono om,λb1 k1 b2 k2 e1 e2=>?_⟩;cases e2;exact hw b1 k1 e1
end Go.Proofs.YtlolkmcdimgplaaGreat
