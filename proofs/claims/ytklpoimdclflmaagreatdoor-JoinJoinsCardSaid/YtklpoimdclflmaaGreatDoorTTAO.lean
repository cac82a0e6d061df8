/- block's search -/
import Derived.Test.YtklpoimdclflmaaGreatDoorTTAN
set_option linter.all false
namespace Go.Proofs.YtklpoimdclflmaaGreatDoor
open Go.Am
open Go.Blk (Gr DS upd)
variable {E:List (Int×Int)}{eb lb n nb sp:Nat}{ev:AV}{h0:AH}
def dT(l:List Nat):List Nat:=l.mergeSort λa b=>decide (a<=b)
def lG(l:List Nat):(dT l).Perm l:=kP l _
def zQ(l:List Nat):fQ (nI l)=nI (dT l):=by
 unfold fQ nI dT;exact(List.map_mergeSort λa _ b _=>by rw[decide_eq_decide];omega).symm
def GV(l:List Nat):(dT l).Pairwise (·<=·):=by
 have:=iY (le:=λa b:Nat=>decide (a<=b)) (λa b c h1 h2=>by simp only[aK]at *;omega) (λa b=>by simp only[dm,aK];omega) l;exact this.imp λh=>aY h
def Ei{l:List Nat}{i:Nat}(h:i∈l):∀k:Nat,eM (((i:Nat):Int)==·) (nI l) k=((k+l.idxOf i:Nat):Int):=by
 induction l with
 |nil=>cases h
 |cons a l ih =>
   intro k;show(if (((i:Nat):Int)==((a:Nat):Int))=true then((k:Nat):Int)else eM _ (nI l) (k+1))=_;by_cases e:a=i
   .subst e;rw[if_pos (by simp),List.idxOf_cons_self,eB]
   .have hm:i∈l:=by
     rcases aF.1 h with q|q
     .exact absurd q.symm e
     .exact q
    have hne:¬((((i:Nat):Int)==((a:Nat):Int))=true):=by
     rw[beq_iff_eq];omega
    have hb:(a==i)=false:=by rw[beq_eq_false_iff_ne];exact e
    rw[if_neg hne,ih hm (k+1),List.idxOf_cons,hb,cond_false];congr 1;omega
set_option maxHeartbeats 1000000 in
def GB{h:AH}{s:DS}{stv blv:AV}{bs:List AV}(t:Sta h0 sp eb nb lb n ev E)(r:Ser h0 h sp eb nb lb n ev s stv blv bs){i:Nat}(hi:i∈s.stk)(hl1:s.stk.length<2^32)(hl2:s.blk.length<2^32) :
 C prg 91 [.ptr sp 0,.int .i64 (i:Nat)] h λ_ h'=>∃stv' blv' bs',Ser h0 h' sp eb nb lb n ev (s.close dT i) stv' blv' bs':=by
 obtain⟨n1,n2,n3,n4,n5,n6⟩:=t.ne;obtain⟨l1,l2,l3⟩:=t.lt;have hnx:=r.kp.nx;have hs:=r.st.sl;refine Oj rfl ?_;have r6:ai h sp 6 1=some [stv]:=bq r.cell rfl;refine ae (bM (bj 5 (Mi1 r6) rfl (Zi1 r6) (Mi1 r6) (rR (y:=((i:Nat):Int)) hs (by rw[fj];omega)) λv h1 hq=>?_));obtain⟨rfl,x1⟩:=hq;rw[Ei hi 0,bN];have hat:s.stk.idxOf i<s.stk.length:=List.idxOf_lt_length_iff.2 hi;have hclose:s.close dT i={ s with blk:=s.blk++[dT (s.stk.drop (s.stk.idxOf i))],stk:=s.stk.take (s.stk.idxOf i)}:=rfl;rw[hclose];generalize s.stk.idxOf i=k at *
 refine bI (M0) ?_;have y1:=x1.nx;have kg:∀c,c<h1.next->(h1.keep 1).get c=h1.get c:=λc hc=>by rw[AH.keep_get,if_neg om]
 have kn:(h1.keep 1).next=h1.next+1:=AH.keep_next 1 h1;have kq:(h1.keep 1).get h1.next=some .resv:=ff;have xk:Ext h1.next h1 (h1.keep 1):=⟨om,kg,λc hc=>Oc 1 h1⟩
 have X1:Ext h.next h (h1.keep 1):=x1.trans (xk.mono y1);have hsp:sp<h.next:=om;have c1:(h1.keep 1).get sp=some (.cells [.int .i64 (n:Nat),ev,.sl eb 0 n n,.sl nb 0 n n,.sl lb 0 n n,.int .i64 (s.cnt:Nat),stv,blv] 8 false):=by rw[X1.gt _ hsp];exact r.cell
 have r61:ai (h1.keep 1) sp 6 1=some [stv]:=bq c1 rfl;have r71:ai (h1.keep 1) sp 7 1=some [blv]:=bq c1 rfl;have hs1:=hs.ext X1 (ab _);obtain⟨w,s1,s2,_⟩:=hs1.from (lo:=k) (by rw[ah,fj];omega);rw[<-gJ]at s2;refine ae (pw (ju 11 (by simp only[am,aL,simprocAttr,r61,r71,dQ,bW,s1]<;>rfl) rfl (by simp only[am,aL,simprocAttr,r61,r71,dQ,bW,s1]) (by simp only[am,aL,simprocAttr,r61,r71,dQ,bW,s1]<;>rfl) (pA s2.cells.1) λrv h2 hq=>?_));obtain⟨rfl,hh2⟩:=hq;have x2:Ext (h1.next+1) (h1.keep 1) h2:=by rw[hh2];exact Oe om
 have g2:h2.get (h1.next+1)=some (.cells [w] 1 false):=by rw[hh2,AH.get_new,kn,if_pos rfl]
 have n2:h2.next=h1.next+2:=by rw[hh2,AH.next_new,kn]
 rw[kn];have X2:Ext h.next h h2:=X1.trans (x2.mono om);have c2:h2.get sp=some (.cells [.int .i64 (n:Nat),ev,.sl eb 0 n n,.sl nb 0 n n,.sl lb 0 n n,.int .i64 (s.cnt:Nat),stv,blv] 8 false):=by rw[X2.gt _ hsp];exact r.cell
 have r72:ai h2 sp 7 1=some [blv]:=bq c2 rfl;have bc:=r.bl.cells;have sb:blv.same blv=true:=by rcases r.bl with⟨rfl,_⟩|⟨_,_,_,rfl,_⟩<;>first|rfl|exact lf
 refine⟨Z2 r72 sb,?_⟩;have s22:=s2.ext x2 om;refine ju 0 (M0) rfl (Z0) (M0) (pD (bq g2 rfl) s22 om (by rw[cI,fj];omega)) λrv h3 hq=>?_;obtain⟨i3,x3⟩:=hq;have X3:Ext h.next h h3:=X2.trans (x3.mono om);have n3':=x3.nx;have c3:h3.get sp=some (.cells [.int .i64 (n:Nat),ev,.sl eb 0 n n,.sl nb 0 n n,.sl lb 0 n n,.int .i64 (s.cnt:Nat),stv,blv] 8 false):=by rw[X3.gt _ hsp];exact r.cell
 have r73:ai h3 sp 7 1=some [blv]:=bq c3 rfl;refine⟨Z2 r73 sb,?_⟩;have q3:h3.get h1.next=some .resv:=by rw[x3.gt _ om,x2.gt _ om];exact kq
 have hrow:IsSl h3 1 h2.next rv (nL (dT (s.stk.drop k))):=by
  have e:nI (s.stk.drop k)=(nI s.stk).drop k:=by unfold nI;rw[gJ]
  rw[<-e,zQ,Na]at i3;exact i3
 have u4:=Oi (o:=.cells [rv] 1 false) q3;obtain⟨rc,ro⟩:=i3.cells;have bl4:IsSl (h3.put h1.next (.cells [rv] 1 false)) 1 h0.next blv bs:=r.bl.cong λb m e hb=>by
  have:=r.bl.lt e;rw[u4.ne om,X3.gt _ this]
 have n4':=u4.nx
 obtain⟨blv',h5,a5,i5,x5,e5,n5',k5,t5⟩:=bl4.app (bytes:=24) (x:=h1.next) (new:=[rv]) om om u4.get om (λb m e=>by have:=r.bl.lt e;omega) rfl (by simp[ro])
  (by rw[dN,r.rl];unfold bf;omega) (by rw[dN,r.rl];unfold bf;omega)
 obtain⟨bc',bo'⟩:=i5.cells;have hb5:∀c,c<h.next->(∀b m,blv=.sl b 0 m m->c≠b)->h5.get c=h.get c:=λc hc hne=>by
  rw[k5 c om hne,u4.ne om,X3.gt _ hc]
 have hbl0:∀c,c<h0.next->h5.get c=h.get c:=λc hc=>hb5 c om λb m e q=>by
  rcases r.bl with⟨rfl,_⟩|⟨b',m',z1,rfl,_⟩
  .cases e
  .cases e;omega
 have c5:h5.get sp=some (.cells [.int .i64 (n:Nat),ev,.sl eb 0 n n,.sl nb 0 n n,.sl lb 0 n n,.int .i64 (s.cnt:Nat),stv,blv] 8 false):=by rw[hbl0 sp l1];exact r.cell
 have w6:=ew (v:=blv') c5 (i:=7) (by simp);have u6:=Oi (o:=.cells [.int .i64 (n:Nat),ev,.sl eb 0 n n,.sl nb 0 n n,.sl lb 0 n n,.int .i64 (s.cnt:Nat),stv,blv'] 8 false) c5;change bP h5 sp 7 [blv']=some (h5.put sp (.cells [.int .i64 (n:Nat),ev,.sl eb 0 n n,.sl nb 0 n n,.sl lb 0 n n,.int .i64 (s.cnt:Nat),stv,blv'] 8 false))at w6;have rp:cq [AV.nils] 1=[.nils]:=rfl;refine bI (by simp only[am,aL,simprocAttr,eA,dR q3,rp,rc,ro,a5,bo',bc',w6]<;>rfl) ?_;generalize h5.put sp (.cells [.int .i64 (n:Nat),ev,.sl eb 0 n n,.sl nb 0 n n,.sl lb 0 n n,.int .i64 (s.cnt:Nat),stv,blv'] 8 false)=h6 at *
 have n6':=u6.nx;have ty6:∀c,c<h.next->h6.tyOf c=h.tyOf c:=λc hc=>by rw[u6.ty,t5,u4.ty,X3.ty _ hc]
 have hlow:∀c,c<h0.next->c≠sp->h6.get c=h.get c:=λc hc hne=>by rw[u6.ne hne,hbl0 c hc]
 have keepS:∀c,h0.next<=c->c<h.next->(∀b m,blv=.sl b 0 m m->c≠b)->h6.get c=h.get c:=λc hc hc2 hne=>by rw[u6.ne om,hb5 c hc2 hne]
 have st6:Stk h6 h0.next stv s.stk:=r.st.cong λc hc ⟨o,m,kk,e⟩=>keepS c hc (r.st.lt e).1 λb m' e' q=>r.sb b 0 m' m' o m kk e' (by rw[e,q]);have R6:Ser h0 h6 sp eb nb lb n ev { s with blk:=s.blk++[dT (s.stk.drop k)]} stv blv' (bs++[rv]):=by
  refine { kp:=⟨om,λc hc hn'=>?_,λc hc=>?_⟩,cell:=u6.get,gn:=by rw[hlow nb l2 n4];exact r.gn,gl:=by rw[hlow lb l3 n6];exact r.gl,st:=st6,bl:=i5.upd u6 om,rl:=by rw[aJ,aJ,r.rl];rfl,rw:=λj v l a b=>?_,sb:=?_}
  .rw[hlow c hc λe=>hn' (.inl e)];exact r.kp.gt c hc hn'
  .rw[ty6 c om];exact r.kp.ty c hc
  .by_cases hj:j<bs.length
   .rw[bC hj]at a;rw[bC (by rw[<-r.rl];exact hj)]at b;obtain⟨z1,z2,z3⟩:=r.rw j v l a b;refine⟨z1.cong λb m e hb=>keepS b hb (z1.lt e) λb' m' e' q=>z3 b 0 m m 0 m' m' e (by rw[e',q]),z2,λb o m c o' m' c' e e'=>?_⟩;rw[e5]at e';cases e';have:=z1.lt e;omega
   .rw[bw om]at a;rw[bw (by rw[<-r.rl];omega),<-r.rl]at b;have hj0:j-bs.length=0:=by
     have:=(au.1 a).1;simp only[bd,bm]at this;omega
    rw[hj0]at a b;simp only[bD,aa]at a b;subst a b;refine⟨(hrow.cong λb m e hb=>?_).mono om,λb o m c o' m' c' e e'=>?_,λb o m c o' m' c' e e'=>?_⟩
    .have:=hrow.lt e;rw[u6.ne om,k5 b om (λb' m' e'=>by have:=r.bl.lt e';omega),u4.ne om]
    .have:=(r.st.lt e').1;rcases hrow with⟨rfl,_⟩|⟨b',m'',z1,rfl,_⟩
     .cases e
     .cases e;omega
    .rw[e5]at e';cases e';have:=hrow.lt e;omega
  .intro b o m c o' m' c' e e';rw[e5]at e;cases e;have:=(r.st.lt e').1;omega
 have r66:ai h6 sp 6 1=some [stv]:=bq R6.cell rfl;obtain⟨v',cv,cs,csep,cin⟩:=R6.st.cut (k:=k) (by show k<=s.stk.length;omega);obtain⟨h7,w7,R7⟩:=R6.setStk t (ab _) (λ_ _ _=>rfl) (λ_=>rfl) cs (λw _ q=>csep w q);have co:=cs.cells;refine ak (by simp only[am,aL,simprocAttr,bV,r66,dQ,bW,cv,co.1,co.2,w7]<;>rfl) ?_;exact⟨.tup [],rfl,v',blv',_,R7⟩
open Go.Am
open Go.Blk (Gr DS upd visit edgeS enter Pre Mid pot unm)
def mnn{k:IntKind}{a b:Nat}:lR mnA [.int k (a:Nat),.int k (b:Nat)]=some (.int k ((min a b:Nat):Int)):=by
 have:lR mnA [.int k ((a:Nat):Int),.int k ((b:Nat):Int)]=some (.int k (if ((b:Nat):Int)<((a:Nat):Int)then((b:Nat):Int)else((a:Nat):Int))):=by simp[lR,mnA]
 rw[this];congr 2;split<;>omega
def yC(s:DS)(x y:Nat):DS:={ s with low:=upd s.low x (min (s.low x) (s.low y))}
def byI:Option Nat->Int
 |none=>-1
 |some b=>(b:Nat)
set_option maxHeartbeats 4000000 in
def Gx(t:Sta h0 sp eb nb lb n ev E)(hE:InG n E)(hL:∀i,i<E.length->tlE E i≠hdE E i)(hn:n<2^30)(hxl:E.length<2^30) :
 ∀(f:Nat) {h:AH}{an:List Nat}{x:Nat}{by_:Option Nat}{s:DS}{stv blv:AV}{bs:List AV},Pre (grE n E hE hL) an x by_ s->unm (grE n E hE hL) s<=f->pot (grE n E hE hL) (dI E) s<=2^30->Ser h0 h sp eb nb lb n ev s stv blv bs ->
   C prg 55 [.ptr sp 0,.int .i64 (x:Nat),.int .i64 (byI by_)] h λ_ h'=>∃stv' blv' bs',Ser h0 h' sp eb nb lb n ev (visit (grE n E hE hL) (dI E) dT f x by_ s) stv' blv' bs':=by
 intro f;induction f with
 |zero =>
   intro h an x by_ s stv blv bs p hf _ _;have:=Go.Blk.unm_pos p.hx p.x0;omega
 |succ f ih =>
 intro h an x by_ s stv blv bs p hf hpot r;have hends:=Bj hE hL;have hx:x<n:=p.hx;obtain⟨l1,l2,l3⟩:=t.lt;have hcnt:s.cnt<=2^30:=by unfold pot at hpot;omega
 refine Oj rfl ?_;have r5:ai h sp 5 1=some [.int .i64 (s.cnt:Nat)]:=bq r.cell rfl;have w1:=dW (k:=s.cnt) om;obtain⟨h1,a1,R1⟩:=r.setCnt t (s.cnt+1);refine ae (ak (Mi3 r5 w1 a1) ?_);have r3:ai h1 sp 3 1=some [.sl nb 0 n n]:=bq R1.cell rfl;have r4:ai h1 sp 4 1=some [.sl lb 0 n n]:=bq R1.cell rfl;have r51:ai h1 sp 5 1=some [.int .i64 (s.cnt+1:Nat)]:=bq R1.cell rfl;have ix:fe ((x:Nat):Int) n=some x:=cK hx;obtain⟨h2,a2,R2⟩:=R1.setNum t hx (s.cnt+1);obtain⟨h3,a3,R3⟩:=R2.setLow t hx (s.cnt+1);refine ae (ak (Mi7 r3 r4 r51 ix @aP a2 a3) ?_);have R3:Ser h0 h3 sp eb nb lb n ev (enter x s) stv blv bs:=R3;clear a1 a2 a3 R1 R2 r3 r4 r5 r51;obtain⟨rv,e1,e2,e3o,e4⟩:=t.row R3.kp hx;have r2:ai h3 sp 2 1=some [.sl eb 0 n n]:=bq R3.cell rfl;have el:=e2.len;rw[ah,fj]at el;refine ae (ak (Mi5 r2 ix @aP e1 el) ?_);have hm0:=Go.Blk.mid0 p;have hpe:=Go.Blk.pot_enter (ends:=dI E) p.hx p.x0;have hin:∀i∈dI E x,(grE n E hE hL).inc i x:=λi hi=>(hends x p.hx).2 i |>.1 hi;have hnd:=(hends x p.hx).1
 have hvis:∀(y i:Nat) (s:DS),y<(grE n E hE hL).n->s.num y=0->(∀v,s.num v≠0->(visit (grE n E hE hL) (dI E) dT f y (some i) s).num v≠0)/\pot (grE n E hE hL) (dI E) (visit (grE n E hE hL) (dI E) dT f y (some i) s)<=pot (grE n E hE hL) (dI E) s :=
  λy i s hy hs=>Go.Blk.pot_visit (λx hx i hi=>(hends x hx).2 i |>.1 hi) f y (some i) s hy hs
 have hel:(dI E x).length<2^40:=by unfold pot at hpe hpot;omega
 show W prg _ _ _ _ (λts h=>∃v,_/\∃stv' blv' bs',Ser h0 h sp eb nb lb n ev ((dI E x).foldl (edgeS (grE n E hE hL) dT (λy i s=>visit (grE n E hE hL) (dI E) dT f y (some i) s) x by_) (enter x s)) stv' blv' bs') _;generalize hL':dI E x=l at *
 refine fi (α:=Unit) (N:=l.length) (λ_ _=>[(0,.ptr sp 0),(1,.int .i64 (x:Nat)),(2,.int .i64 (byI by_)),(42,rv)])
  (λk _ h'=>∃(stv:AV) (blv:AV) (bs:List AV) (new:List Nat) (cs:List (List Nat)),Ser h0 h' sp eb nb lb n ev ((l.take k).foldl (edgeS (grE n E hE hL) dT (λy i s=>visit (grE n E hE hL) (dI E) dT f y (some i) s) x by_) (enter x s)) stv blv bs /\
   Mid (grE n E hE hL) x by_ s (l.take k) ((l.take k).foldl (edgeS (grE n E hE hL) dT (λy i s=>visit (grE n E hE hL) (dI E) dT f y (some i) s) x by_) (enter x s)) new cs) () (λ_ _=>rfl) om (Hi0)
  ⟨stv,blv,bs,[],[],R3,hm0⟩ ?_ ?_
 .clear R3 r2 e1 e2 el;rintro k _ ts h4 hk ⟨stv,blv,bs,new,cs,R,m⟩ ⟨ei,en,e0,ex,eb',e42,-⟩;simp only at ei en e0 ex eb' e42;have hii:(grE n E hE hL).inc l[k] x:=hin _ (ar hk);have hiL:l[k]∉l.take k:=λhm=>by
   have hnd':=hnd;rw[<-cH k l,bQ]at hnd';exact hnd'.2.2 _ hm _ (by rw[cj hk];exact aM ..) rfl
  obtain⟨new',cs',m'⟩:=Go.Blk.mid_step hends lG p hf m hii hiL;have hpk:=(Go.Blk.pot_fold (sort:=dT) (by_:=by_) hvis (l.take k) (enter x s) λi hi=>hin i (kH hi)).2;have hsucc:(l.take (k+1)).foldl (edgeS (grE n E hE hL) dT (λy i s=>visit (grE n E hE hL) (dI E) dT f y (some i) s) x by_) (enter x s)=edgeS (grE n E hE hL) dT (λy i s=>visit (grE n E hE hL) (dI E) dT f y (some i) s) x by_ ((l.take k).foldl (edgeS (grE n E hE hL) dT (λy i s=>visit (grE n E hE hL) (dI E) dT f y (some i) s) x by_) (enter x s)) l[k]:=by
   rw[aI hk,gp];rfl
  rw[aS,cD om]at hpk;rw[aI hk];rw[aI hk]at hsucc;rw[hsucc];clear hsucc;obtain⟨sN,hsN⟩:∃sN,sN=edgeS (grE n E hE hL) dT (λy i s=>visit (grE n E hE hL) (dI E) dT f y (some i) s) x by_ ((l.take k).foldl (edgeS (grE n E hE hL) dT (λy i s=>visit (grE n E hE hL) (dI E) dT f y (some i) s) x by_) (enter x s)) l[k]:=⟨_,rfl⟩
  rw[<-hsN]at m' |-;generalize (l.take k).foldl (edgeS (grE n E hE hL) dT (λy i s=>visit (grE n E hE hL) (dI E) dT f y (some i) s) x by_) (enter x s)=s1 at *
  have hpot1:pot (grE n E hE hL) (dI E) s1+2<=2^30:=om;have hstk1:s1.stk.length<=2^30:=by unfold pot at hpot1;omega
  obtain⟨rv',e1,e2,_,_⟩:=t.row R.kp hx;have e2:SlI h4 rv (nI l):=e4.kp R.kp e3o;obtain⟨b1,p1,ia1,ir1,_⟩:=e2.at1 (cm (f:=eI) (i:=k) (by rw[fj];exact hk));rw[show(nI l)[k]'(by rw[fj];exact hk)=((l[k]:Nat):Int) by simp[nI]]at ir1;refine ae (ak (M4 ei e42 ia1 ir1) ?_);obtain⟨oi,one,oo⟩:=Go.Blk.inc_oth hii;have hother:=Gz t R hE hL om hii;generalize hi:l[k]=i at *
  refine ae (bM (bj 3 (by simp only[am,aL,simprocAttr,e0,ex]<;>rfl) rfl (by simp only[am,aL,simprocAttr,e0,ex]) (by simp only[am,aL,simprocAttr,e0,ex]<;>rfl) (hother) λv h5 hq=>?_));obtain⟨rfl,x5⟩:=hq;refine bI (M0) ?_;have hy:(grE n E hE hL).oth i x<n:=Go.Blk.inc_lt oi;have R5:Ser h0 h5 sp eb nb lb n ev s1 stv blv bs:=by
   have hnx:=R.kp.nx;refine { kp:=R.kp.trans (x5.kp (ab _)) λ_ _ q=>q,cell:=by rw[x5.gt _ om];exact R.cell,gn:=by rw[x5.gt _ om];exact R.gn,gl:=by rw[x5.gt _ om];exact R.gl,st:=R.st.cong λc _ ⟨o,m,kk,e⟩=>x5.gt _ (R.st.lt e).1,bl:=R.bl.ext x5 (ab _),rl:=R.rl,rw:=λj v l a b=>⟨(R.rw j v l a b).1.ext x5 (ab _),(R.rw j v l a b).2⟩,sb:=R.sb}
  clear hother e1 e2 ia1 ir1 R;have hsp:Pre (grE n E hE hL) (x::an) ((grE n E hE hL).oth i x) (some i) { s1 with stk:=s1.stk++[i]}\/s1.num ((grE n E hE hL).oth i x)≠0:=by
   by_cases q:s1.num ((grE n E hE hL).oth i x)=0
   .exact .inl (Go.Blk.sub_pre p m hii q)
   .exact .inr q
  have hsu:=Go.Blk.sub_unm (i:=i) p m;have hvg:=Go.Blk.visit_good hends lG f (x::an) ((grE n E hE hL).oth i x) (some i) { s1 with stk:=s1.stk++[i]};generalize hyd:(grE n E hE hL).oth i x=y at *
  have iy:fe ((y:Nat):Int) n=some y:=cK hy
  have goal:∀{h':AH}{stv blv:AV}{bs:List AV}{s':DS},sN=s'->Ser h0 h' sp eb nb lb n ev s' stv blv bs ->
   ∃(stv:AV) (blv:AV) (bs:List AV) (new:List Nat) (cs:List (List Nat)),Ser h0 h' sp eb nb lb n ev sN stv blv bs/\Mid (grE n E hE hL) x by_ s (l.take k++[i]) sN new cs :=
   fun {h' stv blv bs s'} e q=>⟨stv,blv,bs,new',cs',by rw[e];exact q,m'⟩
  have rn5:ai h5 sp 3 1=some [.sl nb 0 n n]:=bq R5.cell rfl;have ry5:ai h5 nb y 1=some [.int .i64 (s1.num y:Nat)]:=bq R5.gn (lP hy);have rx5:ai h5 nb x 1=some [.int .i64 (s1.num x:Nat)]:=bq R5.gn (lP hx);have rst5:ai h5 sp 6 1=some [stv]:=bq R5.cell rfl;refine dl ?_;by_cases hb:by_=some i
  .have c1:decide (((i:Nat):Int)=byI by_)=true:=aH (by rw[hb];rfl);refine ae (ak (M2 eb' c1) ?_);refine cZ (Z0) (bz ?_);refine⟨(),goal ?_ R5,by simp only[hl,am,aL,simprocAttr,ei,en,e0,ex,eb',e42]⟩;rw[hsN];unfold edgeS;rw[if_pos hb]
  have c1:decide (((i:Nat):Int)=byI by_)=false:=aw λe=>hb (by
   cases by_ with
   |none=>change ((i:Nat):Int)=-1 at e;omega
   |some b=>change ((i:Nat):Int)=((b:Nat):Int)at e;congr 1;omega)
  refine ae (ak (M2 eb' c1) ?_);refine dC (Z0) ?_;by_cases hy0:s1.num y=0
  .have c2:decide (((s1.num y:Nat):Int)=0)=true:=aH om;refine ae (ak (M6 e0 rn5 iy @aP ry5 c2) ?_);refine cZ (Z0) ?_;obtain⟨v',h6,h7,q1,q2,q3,q4,R7⟩:=R5.push t i om;refine ae (ak (M6 e0 rst5 q1 q2 q3 q4) ?_);have hpre:Pre (grE n E hE hL) (x::an) y (some i) { s1 with stk:=s1.stk++[i]}:=hsp.resolve_right (λq=>q hy0);have hpp:pot (grE n E hE hL) (dI E) { s1 with stk:=s1.stk++[i]}<=2^30:=by rw[Go.Blk.pot_push];omega
   have hcall:=ih hpre om hpp R7;obtain⟨new2,bs2,post⟩:=hvg hpre om;have hp2:=(hvis y i { s1 with stk:=s1.stk++[i]} hy hy0).2;have ed:sN=if (yC (visit (grE n E hE hL) (dI E) dT f y (some i) { s1 with stk:=s1.stk++[i]}) x y).num x<=(yC (visit (grE n E hE hL) (dI E) dT f y (some i) { s1 with stk:=s1.stk++[i]}) x y).low y then(yC (visit (grE n E hE hL) (dI E) dT f y (some i) { s1 with stk:=s1.stk++[i]}) x y).close dT i else yC (visit (grE n E hE hL) (dI E) dT f y (some i) { s1 with stk:=s1.stk++[i]}) x y:=by
    rw[hsN];unfold edgeS;rw[if_neg hb,hyd,if_pos hy0];rfl
   clear hsN hsp hvg;refine ae (bM (bj 3 (by simp only[am,aL,simprocAttr,e0,byI]<;>rfl) rfl (by simp only[am,aL,simprocAttr,e0,byI]) (by simp only[am,aL,simprocAttr,e0,byI]<;>rfl) (hcall) λv h8 hq=>?_));obtain⟨stv2,blv2,bs2',R8⟩:=hq;have hist:i∈(visit (grE n E hE hL) (dI E) dT f y (some i) { s1 with stk:=s1.stk++[i]}).stk:=by rw[post.stk];simp
   generalize visit (grE n E hE hL) (dI E) dT f y (some i) { s1 with stk:=s1.stk++[i]}=s2 at *
   refine bI (M0) ?_;have rl8:ai h8 sp 4 1=some [.sl lb 0 n n]:=bq R8.cell rfl;have rx8:ai h8 lb x 1=some [.int .i64 (s2.low x:Nat)]:=bq R8.gl (lP hx);have ry8:ai h8 lb y 1=some [.int .i64 (s2.low y:Nat)]:=bq R8.gl (lP hy);obtain⟨h9,w9,R9⟩:=R8.setLow t hx (min (s2.low x) (s2.low y));refine ae (ak (by simp only[am,aL,simprocAttr,e0,ex,rl8,ix,iy,aP,rx8,ry8,mnn,w9]<;>rfl) ?_);have hp3:pot (grE n E hE hL) (dI E) (yC s2 x y)<=2^30:=by
    have e:pot (grE n E hE hL) (dI E) (yC s2 x y)=pot (grE n E hE hL) (dI E) s2:=rfl;rw[e];omega
   have hist3:i∈(yC s2 x y).stk:=hist;have R9:Ser h0 h9 sp eb nb lb n ev (yC s2 x y) stv2 blv2 bs2':=R9;generalize yC s2 x y=s3 at *
   have rl9:ai h9 sp 4 1=some [.sl lb 0 n n]:=bq R9.cell rfl;have rn9:ai h9 sp 3 1=some [.sl nb 0 n n]:=bq R9.cell rfl;have ry9:ai h9 lb y 1=some [.int .i64 (s3.low y:Nat)]:=bq R9.gl (lP hy);have rx9:ai h9 nb x 1=some [.int .i64 (s3.num x:Nat)]:=bq R9.gn (lP hx);by_cases hc:s3.num x<=s3.low y
   .have c3:decide (((s3.num x:Nat):Int)<=((s3.low y:Nat):Int))=true:=aH om;refine ae (ak (by simp only[am,aL,simprocAttr,e0,ex,rl9,rn9,ix,iy,aP,rx9,ry9,c3]<;>rfl) ?_);refine cZ (Z0) ?_;have hcl:=GB t R9 hist3 (by unfold pot at hp3;omega) (by unfold pot at hp3;omega);refine bM (bj 2 (M1 e0) rfl (Z1 e0) (M1 e0) (hcl) λv h10 hq=>?_);obtain⟨stv3,blv3,bs3,R10⟩:=hq;refine bI (M0) ?_;refine⟨(),goal (by rw[ed,if_pos hc]) R10,by simp only[hl,am,aL,simprocAttr,ei,en,e0,ex,eb',e42]⟩
   .have c3:decide (((s3.num x:Nat):Int)<=((s3.low y:Nat):Int))=false:=aw om;refine ae (ak (by simp only[am,aL,simprocAttr,e0,ex,rl9,rn9,ix,iy,aP,rx9,ry9,c3]<;>rfl) ?_);refine dC (Z0) (bz ?_);refine⟨(),goal (by rw[ed,if_neg hc]) R9,by simp only[hl,am,aL,simprocAttr,ei,en,e0,ex,eb',e42]⟩
  have c2:decide (((s1.num y:Nat):Int)=0)=false:=aw om;refine ae (ak (M6 e0 rn5 iy @aP ry5 c2) ?_);refine dC (Z0) ?_;by_cases hlt:s1.num y<s1.num x
  .have c3:decide (((s1.num y:Nat):Int)<((s1.num x:Nat):Int))=true:=aH om;refine ae (ak (by simp only[am,aL,simprocAttr,e0,ex,rn5,ix,iy,aP,ry5,rx5,c3]<;>rfl) ?_);refine cZ (Z0) ?_;obtain⟨v',h6,h7,q1,q2,q3,q4,R7⟩:=R5.push t i om;refine ae (ak (M6 e0 rst5 q1 q2 q3 q4) ?_);have rl7:ai h7 sp 4 1=some [.sl lb 0 n n]:=bq R7.cell rfl;have rn7:ai h7 sp 3 1=some [.sl nb 0 n n]:=bq R7.cell rfl;have rx7:ai h7 lb x 1=some [.int .i64 (s1.low x:Nat)]:=bq R7.gl (lP hx);have ry7:ai h7 nb y 1=some [.int .i64 (s1.num y:Nat)]:=bq R7.gn (lP hy);obtain⟨h8,w8,R8⟩:=R7.setLow t hx (min (s1.low x) (s1.num y));refine ak (by simp only[am,aL,simprocAttr,e0,ex,rl7,rn7,ix,iy,aP,rx7,ry7,mnn,w8]<;>rfl) ?_;refine⟨(),goal (s':={ s1 with stk:=s1.stk++[i],low:=upd s1.low x (min (s1.low x) (s1.num y))}) ?_ R8,by simp only[hl,am,aL,simprocAttr,ei,en,e0,ex,eb',e42]⟩;rw[hsN];unfold edgeS;rw[if_neg hb,hyd,if_neg hy0,if_pos hlt]
  .have c3:decide (((s1.num y:Nat):Int)<((s1.num x:Nat):Int))=false:=aw om;refine ae (ak (by simp only[am,aL,simprocAttr,e0,ex,rn5,ix,iy,aP,ry5,rx5,c3]<;>rfl) ?_);refine dC (Z0) (bz ?_);refine⟨(),goal ?_ R5,by simp only[hl,am,aL,simprocAttr,ei,en,e0,ex,eb',e42]⟩;rw[hsN];unfold edgeS;rw[if_neg hb,hyd,if_neg hy0,if_neg hlt]
 .rintro _ ts h4 ⟨stv,blv,bs,new,cs,R,m⟩ _;rw[bt]at R;refine⟨.tup [],rfl,stv,blv,bs,?_⟩;show Ser h0 h4 sp eb nb lb n ev ((dI E x).foldl (edgeS (grE n E hE hL) dT (λy i s=>visit (grE n E hE hL) (dI E) dT f y (some i) s) x by_) (enter x s)) stv blv bs;rw[hL'];exact R
end Go.Proofs.YtklpoimdclflmaaGreatDoor
namespace Go.Blk
variable {g:Gr}
def uC:∀{l m:List Nat},l.Pairwise (·<·)->m.Pairwise (·<·)->(∀x,x∈l↔x∈m)->l=m
 |[],[],_,_,_=>rfl
 |[],y::m,_,_,h=>by have:=(h y).2 (aM ..);cases this
 |x::l,[],_,_,h=>by have:=(h x).1 (aM ..);cases this
 |x::l,y::m,h1,h2,h=>by
   obtain⟨a1,a2⟩:=dh.1 h1;obtain⟨b1,b2⟩:=dh.1 h2;have e:x=y:=by
    have hx:=(h x).1 (aM ..);have hy:=(h y).2 (aM ..);rcases aF.1 hx with q|q
    .exact q
    .rcases aF.1 hy with p|p
     .exact p.symm
     .have:=a1 y p;have:=b1 x q;omega
   subst e;rw[uC a2 b2 λz=>?_];have hz:=h z;rw[aF,aF]at hz;constructor
   .intro q;rcases hz.1 (.inr q)with p|p
    .have:=a1 z q;omega
    .exact p
   .intro q;rcases hz.2 (.inr q)with p|p
    .have:=b1 z q;omega
    .exact p
def uJ(n:Nat)(p:Nat->Bool):((List.range n).filter p).Pairwise (·<·):=List.pairwise_lt_range.filter _
def zh{bs cs:List (List Nat)}(nd:bs.flatten.Nodup)(hb:∀b∈bs,IsBlock g b)(part:∀i,i<g.m↔∃b∈bs,i∈b)(hs:∀b∈bs,b.Pairwise (·<·)){l:Nat->Nat}(hl:Lst g l)(hp:cs.Perm bs)
 (ho:cs.Pairwise λa b=>a.headD 0<=b.headD 0):cs=canon g.m l:=by
 have nd':cs.flatten.Nodup:=(hp.flatten.nodup_iff).2 nd;have hm:∀b,b∈cs↔b∈bs:=λb=>hp.mem_iff;have one:∀b∈cs,b.headD 0∈b/\b.headD 0<g.m/\l (b.headD 0)=b.headD 0/\b=(List.range g.m).filter λk=>l k==b.headD 0:=by
  intro b hbc;have hbk:=hb b ((hm b).1 hbc);have hsr:=hs b ((hm b).1 hbc);obtain⟨a,r,rfl⟩:∃a r,b=a::r:=by
   cases b with
   |nil=>exact absurd rfl hbk.1
   |cons a r=>exact⟨a,r,rfl⟩
  have hlt:∀k∈a::r,k<g.m:=λk hk=>(part k).2 ⟨_,(hm _).1 hbc,hk⟩;have ha:=aM (a:=a) (l:=r);have hle:∀k∈a::r,a<=k:=λk hk=>by
   rcases aF.1 hk with rfl|hk
   .exact ab _
   .exact vU ((dh.1 hsr).1 k hk)
  have hla:l a=a:=by
   have h1:=hl.le a (hlt a ha);have h2:=hle _ (hbk.cls ha (hl.cls a (hlt a ha)));omega
  refine⟨ha,hlt a ha,hla,?_⟩;refine uC hsr (uJ _ _) λk=>?_;rw[bB,aX,beq_iff_eq];show k∈a::r↔k<g.m/\l k=a;constructor
  .intro hk;refine⟨hlt k hk,?_⟩;rw[<-hla];exact((hl.iff (hlt k hk) (hlt a ha)).2 (hbk.2.1 k hk a ha))
  .rintro⟨h1,h2⟩;have:Cls g a k:=(hl.iff (hlt a ha) h1).1 (by rw[hla,h2]);exact hbk.cls ha this
 have heads:(cs.map (·.headD 0))=(List.range g.m).filter λi=>l i==i:=by
  refine uC ?_ (uJ _ _) λx=>?_
  .rw[eN];have hd:cs.Pairwise λa b=>a.headD 0≠b.headD 0:=by
    have key:∀(cs:List (List Nat)),cs.flatten.Nodup->(∀b∈cs,b.headD 0∈b)->cs.Pairwise λa b=>a.headD 0≠b.headD 0:=by
     intro cs;induction cs with
     |nil=>intro _ _;exact List.Pairwise.nil
     |cons b cs ih =>
       intro hn hh;rw[iJ,bQ]at hn;refine dh.2 ⟨λc hc e=>?_,ih hn.2.1 λb hb=>hh b (aN _ hb)⟩;exact hn.2.2 _ (hh b (aM ..)) _ (iZ.2 ⟨c,hc,hh c (aN _ hc)⟩) e
    exact key cs nd' λb hb=>(one b hb).1
   exact(ho.and hd).imp λh=>by omega
  .rw[bp,bB,aX,beq_iff_eq];constructor
   .rintro⟨b,hb1,rfl⟩;exact⟨(one b hb1).2.1,(one b hb1).2.2.1⟩
   .rintro⟨h1,h2⟩;obtain⟨b,q1,q2⟩:=(part x).1 h1;have hbc:=(hm b).2 q1;obtain⟨a1,a2,a3,a4⟩:=one b hbc;rw[a4,bB,beq_iff_eq]at q2;exact⟨b,hbc,by rw[<-q2.2,h2]⟩
 unfold canon;rw[<-heads,de]
 conv=>lhs;rw[<-ma cs]
 exact cT λb hb=>(one b hb).2.2.2
variable {g:Gr}{ends:Nat->List Nat}{sort:List Nat->List Nat}
def Srd(sort:List Nat->List Nat)(s:DS):Prop:=∀b∈s.blk,∃l,b=sort l
def GR{vis:Nat->Nat->DS->DS}{x:Nat}{by_:Option Nat}{i:Nat}(hv:∀(y i:Nat) (s:DS),Srd sort s->Srd sort (vis y i s))(s:DS)(hs:Srd sort s):Srd sort (edgeS g sort vis x by_ s i):=by
 unfold edgeS;split
 .exact hs
 .split
  .have h2:=hv (g.oth i x) i { s with stk:=s.stk++[i]} hs;generalize vis (g.oth i x) i { s with stk:=s.stk++[i]}=s2 at *
   simp only;split
   .intro b hb;have hb:b∈s2.blk++[sort (s2.stk.drop (s2.stk.idxOf i))]:=hb;rcases aZ.1 hb with hb|hb
    .exact h2 b hb
    .exact⟨_,by simpa using hb⟩
   .exact h2
  .split
   .exact hs
   .exact hs
def wA:∀(f x:Nat) (by_:Option Nat) (s:DS),Srd sort s->Srd sort (visit g ends sort f x by_ s)
 |0,_,_,_,h=>h
 |f+1,x,by_,s,h=>by
   have key:∀(l:List Nat) (s:DS),Srd sort s->Srd sort (l.foldl (edgeS g sort (λy i s=>visit g ends sort f y (some i) s) x by_) s):=by
    intro l;induction l with
    |nil=>exact λs h=>h
    |cons i l ih=>exact λs h=>ih _ (GR (λy i s h=>wA f y (some i) s h) s h)
   exact key (ends x) (enter x s) h
def DC{f:Nat}:∀k,Srd sort ((List.range k).foldl (from1 g ends sort f) start)
 |0=>λb hb=>by cases hb
 |k+1=>by
   rw[cP,gp];have h:=DC (f:=f) k;show Srd sort (from1 g ends sort f ((List.range k).foldl (from1 g ends sort f) start) k);unfold from1;split
   .exact wA f k none _ h
   .exact h
def Btw.pre{s:DS}(b:Btw g s){x:Nat}(hx:x<g.n)(h:s.num x=0):Pre g [] x none s :=
 ⟨hx,h,λa ha=>(by cases ha),λv hv _=>b.black v hv,b.le,b.inj,λz _ a ha=>(by cases ha),λc hc=>(by cases hc),λ_=>rfl,λj hj=>by rw[b.stk]at hj;cases hj⟩
def pot_start{m:Nat}(h:∀x,x<g.n->(ends x).length<=m):pot g ends start<=g.n*(1+2*m):=by
 have key:∀(l:List Nat),(∀v∈l,v<g.n)->(l.map λv=>if start.num v=0 then 1+2*(ends v).length else 0).sum<=l.length*(1+2*m):=by
  intro l;induction l with
  |nil=>intro _;simp
  |cons a l ih =>
    intro hl;have h1:=ih λv hv=>hl v (aN _ hv);have h2:=h a (hl a (aM ..));have h3:start.num a=0:=rfl;rw[bO,List.sum_cons,if_pos h3,bd,dF,oH];omega
 have:=key (List.range g.n) λv hv=>aX.1 hv;rw[cw]at this;unfold pot wt;show 0+0+0+_<=_;omega
def btw_all(hends:∀x,x<g.n->(ends x).Nodup/\∀i,i∈ends x↔g.inc i x)(hsort:∀l,(sort l).Perm l):∀k,k<=g.n->Btw g ((List.range k).foldl (from1 g ends sort g.n) start)/\unm g ((List.range k).foldl (from1 g ends sort g.n) start)<=g.n /\
 pot g ends ((List.range k).foldl (from1 g ends sort g.n) start)<=pot g ends start
 |0,_=>⟨xY,zK,ab _⟩
 |k+1,hk=>by
   obtain⟨h1,h2,h3⟩:=btw_all hends hsort k om;rw[cP,gp];obtain⟨a,_,_,d⟩:=Bz hends hsort h1 (show k<g.n by omega) h2;refine⟨a,d,?_⟩;show pot g ends (from1 g ends sort g.n ((List.range k).foldl (from1 g ends sort g.n) start) k)<=_;unfold from1;split
   .rename_i h0
    exact cu (pot_visit (λx hx i hi=>((hends x hx).2 i).1 hi) g.n k none _ om h0).2 h3
   .exact h3
def run_canon(hends:∀x,x<g.n->(ends x).Nodup/\∀i,i∈ends x↔g.inc i x)(hsort:∀l,(sort l).Perm l)(hle:∀l,(sort l).Pairwise (·<=·)){l:Nat->Nat}(hl:Lst g l){cs:List (List Nat)}(hp:cs.Perm (runB g ends sort g.n).blk)(ho:cs.Pairwise λa b=>a.headD 0<=b.headD 0):cs=canon g.m l:=by
 obtain⟨nd,hb,part⟩:=runB_ok hends hsort (ab g.n);refine zh nd hb part (λb hbm=>?_) hl hp ho;obtain⟨l',e⟩:=DC (g:=g) (ends:=ends) (sort:=sort) (f:=g.n) g.n b hbm;have h1:b.Pairwise (·<=·):=by rw[e];exact hle l'
 have h2:b.Nodup:=nd.sublist (List.sublist_flatten_of_mem hbm);exact(h1.and h2).imp λh=>by omega
def Iq{P:Nat->Prop}:∀n,P n->∃k,P k/\∀j,P j->k<=j:=by
 intro n;induction n using Nat.strongRecOn with
 |_ n ih =>
   intro hn;by_cases h:∃j,j<n/\P j
   .obtain⟨j,h1,h2⟩:=h;exact ih j h1 h2
   .exact⟨n,hn,λj hj=>Decidable.byContradiction λhc=>h ⟨j,om,hj⟩⟩
def lst_ex(g:Gr):∃l,Lst g l:=by
 have h:∀i,∃k,Cls g i k/\∀j,Cls g i j->k<=j:=λi=>Iq i .refl;obtain⟨l,hl⟩:=Classical.axiomOfChoice h;refine⟨l,λi _=>(hl i).1,λi _=>(hl i).2 i .refl,λi k _ _ r=>?_⟩;have hc:=Cls.one r;have h1:=(hl i).2 (l k) (hc.trans (hl k).1);have h2:=(hl k).2 (l i) (hc.symm.trans (hl i).1);omega
end Go.Blk
namespace Go.Proofs.YtklpoimdclflmaaGreatDoor
open Go.Am
variable {a v:AV}{h:AH}{lo:Nat}{xss:List (List Nat)}
def Jz{b n c:Nat}{vs:List AV}{kf:Nat->Int}(hg:h.get b=some (.cells vs 1 false))(hl:vs.length=n)(h0:0<n)(hn:n<2^62)(hr:∀i v,vs[i]?=some v->tc h b (kf i) v) :
 C prg 56 [.sl b 0 n c,.fn 57 []] h λ_ h'=>∃is:List Nat,is.Perm (List.range n)/\is.Pairwise (λi j=>kf i<=kf j)/\Mod h.next h h' b (.cells (is.map λi=>vs.getD i .un) 1 false):=by
 have hrd:ai h b 0 n=some vs:=by
  rw[aR hg,if_pos om,df,dx om]
 refine BS.srf ps56 hrd h0 hn hr λis hp hs=>?_;have hil:(is.map λi=>vs.getD i .un).length=n:=by rw[ah,hp.length_eq,cw]
 refine⟨_,?_,_,_,rfl,is,hp,hs,(Oi hg).mod⟩;rw[dw hg,if_pos om];simp only[dG,eD,cr,bN];rw[dy om,bF]
def Ch{α:Type}{d:α}(l:List α):((List.range l.length).map λi=>l.getD i d)=l:=by
 refine cV λj=>?_;rw[aV];by_cases hj:j<l.length
 .rw[da hj,aj hj];simp only[aQ];rw[aA,aj hj];rfl
 .rw[bJ (by rw[cw];omega),bJ om];rfl
open Go.Am
abbrev SlN(h:AH)(v:AV)(l:List Nat):Prop:=SlI h v (l.map λn=>((n:Nat):Int))
def nC(l:List Nat):List AV:=(l.map λn=>((n:Nat):Int)).flatMap eI
def oW(l:List Nat):(nC l).length=l.length:=by
 unfold nC;rw[dE (f:=eI) (e:=1) (λ_=>rfl),ah];omega
def yz(a b:List Nat):nC (a++b)=nC a++nC b:=by
 unfold nC;rw[bS,br]
def wZ{l:List Nat}(hv:IsSl h 1 lo v (nC l)):SlN h v l:=Ob om (λ_=>rfl) hv
def LL(h:AH)(lo:Nat)(a:AV)(xss:List (List Nat)):Prop :=
 ∃vs:List AV,IsSl h 1 lo a vs/\vs.length=xss.length/\∀(i:Nat) (v:AV) (xs:List Nat),vs[i]?=some v->xss[i]?=some xs->IsSl h 1 lo v (nC xs)/\∀b n b' n',v=.sl b 0 n n->a=.sl b' 0 n' n'->b≠b'
def LL.ext{h h':AH}{lo hi:Nat}{a:AV}{xss:List (List Nat)}(hl:LL h lo a xss)(hx:Ext hi h h')(hn:h.next<=hi):LL h' lo a xss:=by
 obtain⟨vs,h1,h2,h3⟩:=hl;exact⟨vs,h1.ext hx hn,h2,λi v xs q1 q2=>⟨(h3 i v xs q1 q2).1.ext hx hn,(h3 i v xs q1 q2).2⟩⟩
def LL.mono{h:AH}{lo lo':Nat}{a:AV}{xss:List (List Nat)}(hl:LL h lo a xss)(hn:lo'<=lo):LL h lo' a xss:=by
 obtain⟨vs,h1,h2,h3⟩:=hl;exact⟨vs,h1.mono hn,h2,λi v xs q1 q2=>⟨(h3 i v xs q1 q2).1.mono hn,(h3 i v xs q1 q2).2⟩⟩
def LL.push{x:Nat}{xs:List Nat}(hl:LL h lo a xss)(hlo:lo<=h.next)(hv:IsSl h 1 lo v (nC xs))(hx:h.get x=some (.cells [v] 1 false))(hxl:lo<=x)(hxa:∀b n,a=.sl b 0 n n->b≠x)
 (hva:∀b n b' n',v=.sl b 0 n n->a=.sl b' 0 n' n'->b≠b') (hb:(xss.length+1)*24<bf) :
 ∃a' h',gh h 1 24 a (.sl x 0 1 1)=some (a',h')/\LL h' lo a' (xss++[xs])/\Ext lo h h'/\h'.next=h.next+1/\(∀c,c<h.next->(∀b n,a=.sl b 0 n n->c≠b)->h'.get c=h.get c)/\∀c n,a'=.sl c 0 n n->c=h.next:=by
 obtain⟨vs,h1,h2,h3⟩:=hl;obtain⟨a',h',q1,q2,q3,q4,q5,q6,_⟩:=h1.app (bytes:=24) hlo om hx hxl hxa rfl (by simp[hv.cells.2]) (by rw[dN,h2];exact hb) (by rw[dN,h2];unfold bf at *;omega);have keep:∀(w:AV) (cs:List AV),IsSl h 1 lo w cs->(∀b n b' n',w=.sl b 0 n n->a=.sl b' 0 n' n'->b≠b')->IsSl h' 1 lo w cs/\∀b n b' n',w=.sl b 0 n n->a'=.sl b' 0 n' n'->b≠b':=λw cs hw hn=>by
  refine⟨hw.cong λb n e _=>q6 b (hw.lt e) λb' n' e'=>hn b n b' n' e e',λb n b' n' e e'=>?_⟩;have:=hw.lt e;rw[q4]at e';cases e';omega
 refine⟨a',h',q1,⟨vs++[v],q2,by rw[aJ,aJ,h2];rfl,λi w ys e1 e2=>?_⟩,q3,q5,q6,λc n e=>by rw[q4]at e;cases e;rfl⟩;by_cases hi:i<vs.length
 .rw[bC hi]at e1;rw[bC om]at e2;obtain⟨k1,k2⟩:=h3 i w ys e1 e2;exact keep w _ k1 k2
 .have hil:i<(vs++[v]).length:=(au.1 e1).1;rw[aJ,bd,bm]at hil;have hi':i=vs.length:=om;subst hi';rw[bw om,dV]at e1;rw[h2,bw om,dV]at e2;cases e1;cases e2;exact keep v _ hv hva
def LL.at(hl:LL h lo a xss){i:Nat}(hi:i<xss.length):∃b o v,jZ 1 a (.int .i64 (i:Nat))=some (.ptr b o)/\ai h b o 1=some [v]/\IsSl h 1 lo v (nC xss[i])/\b<h.next:=by
 obtain⟨vs,h1,h2,h3⟩:=hl;have hs:Sl h 1 a (vs.map λx=>[x]):=by
  rcases h1 with⟨rfl,rfl⟩|⟨b,n,_,rfl,hg,hn⟩
  .exact .inl ⟨rfl,.inl rfl⟩
  .exact Od hg om (ab _)
 have hv:vs[i]?=some (vs[i]'om):=aj _;obtain⟨b,o,q1,q2,q3⟩:=hs.at1 (i:=i) (y:=vs[i]'om) (by rw[aV,hv];rfl);exact⟨b,o,_,q1,q2,(h3 i _ _ hv (aj hi)).1,q3⟩
def LL.len(hl:LL h lo a xss):fP a=some (.int .i64 (xss.length:Nat)):=by
 obtain⟨vs,h1,h2,h3⟩:=hl;rcases h1 with⟨rfl,rfl⟩|⟨b,n,_,rfl,hg,hn⟩
 .rw[<-h2];rfl
 .rw[<-h2,hn,aP];rfl
def LL.lt{h:AH}{lo:Nat}{a:AV}{xss:List (List Nat)}(hl:LL h lo a xss){b n:Nat}(e:a=.sl b 0 n n):b<h.next:=by
 obtain⟨vs,h1,_⟩:=hl;exact h1.lt e
end Go.Proofs.YtklpoimdclflmaaGreatDoor
