/- block's search -/
import Derived.Test.YtmibmlioidpogaaGreatDoorVTAP
set_option linter.all false
namespace Go.Proofs.YtmibmlioidpogaaGreatDoor
open Go.Am
open Go.Blk (Gr DS upd)
variable {E:List (Int×Int)}{eb lb n sp:Nat}{ev:AV}{h0:AH}
def dM(l:List Nat):List Nat:=l.mergeSort λa b=>decide (a<=b)
theorem kr(l:List Nat):(dM l).Perm l:=nM l _
theorem xG(l:List Nat):gf (nI l)=nI (dM l):=by
 unfold gf nI dM;exact(List.map_mergeSort λa _ b _=>by rw[decide_eq_decide];omega).symm
theorem Ey(l:List Nat):(dM l).Pairwise (·<=·):=by
 have:=kJ (le:=λa b:Nat=>decide (a<=b)) (λa b c h1 h2=>by simp only[aI]at *;omega) (λa b=>by simp only[df,aI];omega) l;exact this.imp λh=>bN h
theorem JQ{l:List Nat}{i:Nat}(h:i∈l):∀k:Nat,eM (((i:Nat):Int)==·) (nI l) k=((k+l.idxOf i:Nat):Int):=by
 induction l with
 |nil=>cases h
 |cons a l ih =>
   intro k;show(if (((i:Nat):Int)==((a:Nat):Int))=true then((k:Nat):Int)else eM _ (nI l) (k+1))=_;by_cases e:a=i
   .subst e;rw[if_pos (by simp),List.idxOf_cons_self,eG]
   .have hm:i∈l:=by
     rcases au.1 h with q|q
     .exact absurd q.symm e
     .exact q
    have hne:¬((((i:Nat):Int)==((a:Nat):Int))=true):=by
     rw[beq_iff_eq];omega
    have hb:(a==i)=false:=by rw[beq_eq_false_iff_ne];exact e
    rw[if_neg hne,ih hm (k+1),List.idxOf_cons,hb,cond_false];congr 1;omega
set_option maxHeartbeats 1000000 in
theorem Ee{h:AH}{nb:Nat}{s:DS}{stv blv:AV}{bs:List AV}(t:Sta h0 sp eb nb lb n ev E)(r:Ser h0 h sp eb nb lb n ev s stv blv bs){i:Nat}(hi:i∈s.stk)(hl1:s.stk.length<2^32)(hl2:s.blk.length<2^32) :
 C prg 91 [.ptr sp 0,.int .i64 (i:Nat)] h λ_ h'=>∃stv' blv' bs',Ser h0 h' sp eb nb lb n ev (s.close dM i) stv' blv' bs':=by
 obtain⟨n1,n2,n3,n4,n5,n6⟩:=t.ne;obtain⟨l1,l2,l3⟩:=t.lt;have hnx:=r.kp.nx;have hs:=r.st.sl;refine Me pf91 ?_;have r6:ak h sp 6 1=some [stv]:=br r.cell rfl;refine ae (bM (aV 5 (Mi1 r6) rfl (Zi1 r6) (Mi1 r6) (lY (y:=((i:Nat):Int)) hs (by rw[jN];omega)) λv h1 hq=>?_));obtain⟨rfl,x1⟩:=hq;rw[JQ hi 0,bL];have hat:s.stk.idxOf i<s.stk.length:=List.idxOf_lt_length_iff.2 hi;have hclose:s.close dM i={ s with blk:=s.blk++[dM (s.stk.drop (s.stk.idxOf i))],stk:=s.stk.take (s.stk.idxOf i)}:=rfl;rw[hclose];generalize s.stk.idxOf i=k at *
 refine bF (M0) ?_;have y1:=x1.nx;have kg:∀c,c<h1.next->(h1.keep 1).get c=h1.get c:=λc hc=>by rw[AH.keep_get,if_neg om]
 have kn:(h1.keep 1).next=h1.next+1:=AH.keep_next 1 h1;have kq:(h1.keep 1).get h1.next=some .resv:=fZ;have xk:Ext h1.next h1 (h1.keep 1):=⟨om,kg,λc hc=>LZ 1 h1⟩
 have X1:Ext h.next h (h1.keep 1):=x1.trans (xk.mono y1);have hsp:sp<h.next:=om;have c1:(h1.keep 1).get sp=some (.cells [.int .i64 (n:Nat),ev,.sl eb 0 n n,.sl nb 0 n n,.sl lb 0 n n,.int .i64 (s.cnt:Nat),stv,blv] 8 false):=by rw[X1.gt _ hsp];exact r.cell
 have r61:ak (h1.keep 1) sp 6 1=some [stv]:=br c1 rfl;have r71:ak (h1.keep 1) sp 7 1=some [blv]:=br c1 rfl;have hs1:=hs.ext X1 (ab _);obtain⟨w,s1,s2,_⟩:=hs1.from (lo:=k) (by rw[ah,jN];omega);rw[<-ez]at s2;refine ae (my (jL 11 (by simp only[am,aD,simprocAttr,r61,r71,cY,bh,s1]<;>rfl) rfl (by simp only[am,aD,simprocAttr,r61,r71,cY,bh,s1]) (by simp only[am,aD,simprocAttr,r61,r71,cY,bh,s1]<;>rfl) (nz s2.cells.1) λrv h2 hq=>?_));obtain⟨rfl,hh2⟩:=hq;have x2:Ext (h1.next+1) (h1.keep 1) h2:=by rw[hh2];exact Mb om
 have g2:h2.get (h1.next+1)=some (.cells [w] 1 false):=by rw[hh2,AH.get_new,kn,if_pos rfl]
 have n2:h2.next=h1.next+2:=by rw[hh2,AH.next_new,kn]
 rw[kn];have X2:Ext h.next h h2:=X1.trans (x2.mono om);have c2:h2.get sp=some (.cells [.int .i64 (n:Nat),ev,.sl eb 0 n n,.sl nb 0 n n,.sl lb 0 n n,.int .i64 (s.cnt:Nat),stv,blv] 8 false):=by rw[X2.gt _ hsp];exact r.cell
 have r72:ak h2 sp 7 1=some [blv]:=br c2 rfl;have bc:=r.bl.cells;have sb:blv.same blv=true:=by rcases r.bl with⟨rfl,_⟩|⟨_,_,_,rfl,_⟩<;>first|rfl|exact vD
 refine⟨Z2 r72 sb,?_⟩;have s22:=s2.ext x2 om;refine jL 0 (M0) rfl (Z0) (M0) (nD (br g2 rfl) s22 om (by rw[cH,jN];omega)) λrv h3 hq=>?_;obtain⟨i3,x3⟩:=hq;have X3:Ext h.next h h3:=X2.trans (x3.mono om);have n3':=x3.nx;have c3:h3.get sp=some (.cells [.int .i64 (n:Nat),ev,.sl eb 0 n n,.sl nb 0 n n,.sl lb 0 n n,.int .i64 (s.cnt:Nat),stv,blv] 8 false):=by rw[X3.gt _ hsp];exact r.cell
 have r73:ak h3 sp 7 1=some [blv]:=br c3 rfl;refine⟨Z2 r73 sb,?_⟩;have q3:h3.get h1.next=some .resv:=by rw[x3.gt _ om,x2.gt _ om];exact kq
 have hrow:IsSl h3 1 h2.next rv (nL (dM (s.stk.drop k))):=by
  have e:nI (s.stk.drop k)=(nI s.stk).drop k:=by unfold nI;rw[ez]
  rw[<-e,xG,KI]at i3;exact i3
 have u4:=Md (o:=.cells [rv] 1 false) q3;obtain⟨rc,ro⟩:=i3.cells;have bl4:IsSl (h3.put h1.next (.cells [rv] 1 false)) 1 h0.next blv bs:=r.bl.cong λb m e hb=>by
  have:=r.bl.lt e;rw[u4.ne om,X3.gt _ this]
 have n4':=u4.nx
 obtain⟨blv',h5,a5,i5,x5,e5,n5',k5,t5⟩:=bl4.app (bytes:=24) (x:=h1.next) (new:=[rv]) om om u4.get om (λb m e=>by have:=r.bl.lt e;omega) rfl (by simp[ro])
  (by rw[jy,r.rl];unfold bd;omega) (by rw[jy,r.rl];unfold bd;omega)
 obtain⟨bc',bo'⟩:=i5.cells;have hb5:∀c,c<h.next->(∀b m,blv=.sl b 0 m m->c≠b)->h5.get c=h.get c:=λc hc hne=>by
  rw[k5 c om hne,u4.ne om,X3.gt _ hc]
 have hbl0:∀c,c<h0.next->h5.get c=h.get c:=λc hc=>hb5 c om λb m e q=>by
  rcases r.bl with⟨rfl,_⟩|⟨b',m',z1,rfl,_⟩
  .cases e
  .cases e;omega
 have c5:h5.get sp=some (.cells [.int .i64 (n:Nat),ev,.sl eb 0 n n,.sl nb 0 n n,.sl lb 0 n n,.int .i64 (s.cnt:Nat),stv,blv] 8 false):=by rw[hbl0 sp l1];exact r.cell
 have w6:=hG (v:=blv') c5 (i:=7) (by simp);have u6:=Md (o:=.cells [.int .i64 (n:Nat),ev,.sl eb 0 n n,.sl nb 0 n n,.sl lb 0 n n,.int .i64 (s.cnt:Nat),stv,blv'] 8 false) c5;change bV h5 sp 7 [blv']=some (h5.put sp (.cells [.int .i64 (n:Nat),ev,.sl eb 0 n n,.sl nb 0 n n,.sl lb 0 n n,.int .i64 (s.cnt:Nat),stv,blv'] 8 false))at w6;have rp:cA [AV.nils] 1=[.nils]:=rfl;refine bF (by simp only[am,aD,simprocAttr,dS,dG q3,rp,rc,ro,a5,bo',bc',w6]<;>rfl) ?_;generalize h5.put sp (.cells [.int .i64 (n:Nat),ev,.sl eb 0 n n,.sl nb 0 n n,.sl lb 0 n n,.int .i64 (s.cnt:Nat),stv,blv'] 8 false)=h6 at *
 have n6':=u6.nx;have ty6:∀c,c<h.next->h6.tyOf c=h.tyOf c:=λc hc=>by rw[u6.ty,t5,u4.ty,X3.ty _ hc]
 have hlow:∀c,c<h0.next->c≠sp->h6.get c=h.get c:=λc hc hne=>by rw[u6.ne hne,hbl0 c hc]
 have keepS:∀c,h0.next<=c->c<h.next->(∀b m,blv=.sl b 0 m m->c≠b)->h6.get c=h.get c:=λc hc hc2 hne=>by rw[u6.ne om,hb5 c hc2 hne]
 have st6:Stk h6 h0.next stv s.stk:=r.st.cong λc hc ⟨o,m,kk,e⟩=>keepS c hc (r.st.lt e).1 λb m' e' q=>r.sb b 0 m' m' o m kk e' (by rw[e,q]);have R6:Ser h0 h6 sp eb nb lb n ev { s with blk:=s.blk++[dM (s.stk.drop k)]} stv blv' (bs++[rv]):=by
  refine { kp:=⟨om,λc hc hn'=>?_,λc hc=>?_⟩,cell:=u6.get,gn:=by rw[hlow nb l2 n4];exact r.gn,gl:=by rw[hlow lb l3 n6];exact r.gl,st:=st6,bl:=i5.upd u6 om,rl:=by rw[aC,aC,r.rl];rfl,rw:=λj v l a b=>?_,sb:=?_}
  .rw[hlow c hc λe=>hn' (.inl e)];exact r.kp.gt c hc hn'
  .rw[ty6 c om];exact r.kp.ty c hc
  .by_cases hj:j<bs.length
   .rw[bC hj]at a;rw[bC (by rw[<-r.rl];exact hj)]at b;obtain⟨z1,z2,z3⟩:=r.rw j v l a b;refine⟨z1.cong λb m e hb=>keepS b hb (z1.lt e) λb' m' e' q=>z3 b 0 m m 0 m' m' e (by rw[e',q]),z2,λb o m c o' m' c' e e'=>?_⟩;rw[e5]at e';cases e';have:=z1.lt e;omega
   .rw[aX om]at a;rw[aX (by rw[<-r.rl];omega),<-r.rl]at b;have hj0:j-bs.length=0:=by
     have:=(aG.1 a).1;simp only[aq,aK]at this;omega
    rw[hj0]at a b;simp only[aP,aa]at a b;subst a b;refine⟨(hrow.cong λb m e hb=>?_).mono om,λb o m c o' m' c' e e'=>?_,λb o m c o' m' c' e e'=>?_⟩
    .have:=hrow.lt e;rw[u6.ne om,k5 b om (λb' m' e'=>by have:=r.bl.lt e';omega),u4.ne om]
    .have:=(r.st.lt e').1;rcases hrow with⟨rfl,_⟩|⟨b',m'',z1,rfl,_⟩
     .cases e
     .cases e;omega
    .rw[e5]at e';cases e';have:=hrow.lt e;omega
  .intro b o m c o' m' c' e e';rw[e5]at e;cases e;have:=(r.st.lt e').1;omega
 have r66:ak h6 sp 6 1=some [stv]:=br R6.cell rfl;obtain⟨v',cv,cs,csep,cin⟩:=R6.st.cut (k:=k) (by show k<=s.stk.length;omega);obtain⟨h7,w7,R7⟩:=R6.setStk t (ab _) (λ_ _ _=>rfl) (λ_=>rfl) cs (λw _ q=>csep w q);have co:=cs.cells;refine ar (by simp only[am,aD,simprocAttr,bE,r66,cY,bh,cv,co.1,co.2,w7]<;>rfl) ?_;exact⟨.tup [],rfl,v',blv',_,R7⟩
open Go.Am
open Go.Blk (Gr DS upd visit edgeS enter Pre Mid pot unm)
theorem mnn{k:IntKind}{a b:Nat}:jG mnA [.int k (a:Nat),.int k (b:Nat)]=some (.int k ((min a b:Nat):Int)):=by
 have:jG mnA [.int k ((a:Nat):Int),.int k ((b:Nat):Int)]=some (.int k (if ((b:Nat):Int)<((a:Nat):Int)then((b:Nat):Int)else((a:Nat):Int))):=by simp[jG,mnA]
 rw[this];congr 2;split<;>omega
def vU(s:DS)(x y:Nat):DS:={ s with low:=upd s.low x (min (s.low x) (s.low y))}
def byI:Option Nat->Int
 |none=>-1
 |some b=>(b:Nat)
set_option maxHeartbeats 4000000 in
theorem DY{nb:Nat}(t:Sta h0 sp eb nb lb n ev E)(hE:InG n E)(hL:∀i,i<E.length->tlE E i≠hdE E i)(hn:n<2^30)(hxl:E.length<2^30) :
 ∀(f:Nat) {h:AH}{an:List Nat}{x:Nat}{by_:Option Nat}{s:DS}{stv blv:AV}{bs:List AV},Pre (grE n E hE hL) an x by_ s->unm (grE n E hE hL) s<=f->pot (grE n E hE hL) (dC E) s<=2^30->Ser h0 h sp eb nb lb n ev s stv blv bs ->
   C prg 61 [.ptr sp 0,.int .i64 (x:Nat),.int .i64 (byI by_)] h λ_ h'=>∃stv' blv' bs',Ser h0 h' sp eb nb lb n ev (visit (grE n E hE hL) (dC E) dM f x by_ s) stv' blv' bs':=by
 intro f;induction f with
 |zero =>
   intro h an x by_ s stv blv bs p hf _ _;have:=Go.Blk.unm_pos p.hx p.x0;omega
 |succ f ih =>
 intro h an x by_ s stv blv bs p hf hpot r;have hends:=yP hE hL;have hx:x<n:=p.hx;obtain⟨l1,l2,l3⟩:=t.lt;have hcnt:s.cnt<=2^30:=by unfold pot at hpot;omega
 refine Me pf61 ?_;have r5:ak h sp 5 1=some [.int .i64 (s.cnt:Nat)]:=br r.cell rfl;have w1:=w1_ok (k:=s.cnt) om;obtain⟨h1,a1,R1⟩:=r.setCnt t (s.cnt+1);refine ae (ar (Mi3 r5 w1 a1) ?_);have r3:ak h1 sp 3 1=some [.sl nb 0 n n]:=br R1.cell rfl;have r4:ak h1 sp 4 1=some [.sl lb 0 n n]:=br R1.cell rfl;have r51:ak h1 sp 5 1=some [.int .i64 (s.cnt+1:Nat)]:=br R1.cell rfl;have ix:gh ((x:Nat):Int) n=some x:=dL hx;obtain⟨h2,a2,R2⟩:=R1.setNum t hx (s.cnt+1);obtain⟨h3,a3,R3⟩:=R2.setLow t hx (s.cnt+1);refine ae (ar (Mi7 r3 r4 r51 ix @aM a2 a3) ?_);have R3:Ser h0 h3 sp eb nb lb n ev (enter x s) stv blv bs:=R3;clear a1 a2 a3 R1 R2 r3 r4 r5 r51;obtain⟨rv,e1,e2,e3o,e4⟩:=t.row R3.kp hx;have r2:ak h3 sp 2 1=some [.sl eb 0 n n]:=br R3.cell rfl;have el:=e2.len;rw[ah,jN]at el;refine ae (ar (Mi5 r2 ix @aM e1 el) ?_);have hm0:=Go.Blk.mid0 p;have hpe:=Go.Blk.pot_enter (ends:=dC E) p.hx p.x0;have hin:∀i∈dC E x,(grE n E hE hL).inc i x:=λi hi=>(hends x p.hx).2 i |>.1 hi;have hnd:=(hends x p.hx).1
 have hvis:∀(y i:Nat) (s:DS),y<(grE n E hE hL).n->s.num y=0->(∀v,s.num v≠0->(visit (grE n E hE hL) (dC E) dM f y (some i) s).num v≠0)/\pot (grE n E hE hL) (dC E) (visit (grE n E hE hL) (dC E) dM f y (some i) s)<=pot (grE n E hE hL) (dC E) s :=
  λy i s hy hs=>Go.Blk.pot_visit (λx hx i hi=>(hends x hx).2 i |>.1 hi) f y (some i) s hy hs
 have hel:(dC E x).length<2^40:=by unfold pot at hpe hpot;omega
 show W prg _ _ _ _ (λts h=>∃v,_/\∃stv' blv' bs',Ser h0 h sp eb nb lb n ev ((dC E x).foldl (edgeS (grE n E hE hL) dM (λy i s=>visit (grE n E hE hL) (dC E) dM f y (some i) s) x by_) (enter x s)) stv' blv' bs') _;generalize hL':dC E x=l at *
 refine fj (α:=Unit) (N:=l.length) (λ_ _=>[(0,.ptr sp 0),(1,.int .i64 (x:Nat)),(2,.int .i64 (byI by_)),(42,rv)])
  (λk _ h'=>∃(stv:AV) (blv:AV) (bs:List AV) (new:List Nat) (cs:List (List Nat)),Ser h0 h' sp eb nb lb n ev ((l.take k).foldl (edgeS (grE n E hE hL) dM (λy i s=>visit (grE n E hE hL) (dC E) dM f y (some i) s) x by_) (enter x s)) stv blv bs /\
   Mid (grE n E hE hL) x by_ s (l.take k) ((l.take k).foldl (edgeS (grE n E hE hL) dM (λy i s=>visit (grE n E hE hL) (dC E) dM f y (some i) s) x by_) (enter x s)) new cs) () (λ_ _=>rfl) om (Hi0)
  ⟨stv,blv,bs,[],[],R3,hm0⟩ ?_ ?_
 .clear R3 r2 e1 e2 el;rintro k _ ts h4 hk ⟨stv,blv,bs,new,cs,R,m⟩ ⟨ei,en,e0,ex,eb',e42,-⟩;simp only at ei en e0 ex eb' e42;have hii:(grE n E hE hL).inc l[k] x:=hin _ (aZ hk);have hiL:l[k]∉l.take k:=λhm=>by
   have hnd':=hnd;rw[<-cT k l,aJ]at hnd';exact hnd'.2.2 _ hm _ (by rw[bT hk];exact bt ..) rfl
  obtain⟨new',cs',m'⟩:=Go.Blk.mid_step hends kr p hf m hii hiL;have hpk:=(Go.Blk.pot_fold (sort:=dM) (by_:=by_) hvis (l.take k) (enter x s) λi hi=>hin i (gJ hi)).2;have hsucc:(l.take (k+1)).foldl (edgeS (grE n E hE hL) dM (λy i s=>visit (grE n E hE hL) (dC E) dM f y (some i) s) x by_) (enter x s)=edgeS (grE n E hE hL) dM (λy i s=>visit (grE n E hE hL) (dC E) dM f y (some i) s) x by_ ((l.take k).foldl (edgeS (grE n E hE hL) dM (λy i s=>visit (grE n E hE hL) (dC E) dM f y (some i) s) x by_) (enter x s)) l[k]:=by
   rw[be hk,fS];rfl
  rw[bB,dZ om]at hpk;rw[be hk];rw[be hk]at hsucc;rw[hsucc];clear hsucc;obtain⟨sN,hsN⟩:∃sN,sN=edgeS (grE n E hE hL) dM (λy i s=>visit (grE n E hE hL) (dC E) dM f y (some i) s) x by_ ((l.take k).foldl (edgeS (grE n E hE hL) dM (λy i s=>visit (grE n E hE hL) (dC E) dM f y (some i) s) x by_) (enter x s)) l[k]:=⟨_,rfl⟩
  rw[<-hsN]at m' |-;generalize (l.take k).foldl (edgeS (grE n E hE hL) dM (λy i s=>visit (grE n E hE hL) (dC E) dM f y (some i) s) x by_) (enter x s)=s1 at *
  have hpot1:pot (grE n E hE hL) (dC E) s1+2<=2^30:=om;have hstk1:s1.stk.length<=2^30:=by unfold pot at hpot1;omega
  obtain⟨rv',e1,e2,_,_⟩:=t.row R.kp hx;have e2:SlI h4 rv (nI l):=e4.kp R.kp e3o;obtain⟨b1,p1,ia1,ir1,_⟩:=e2.at1 (eJ (f:=eI) (i:=k) (by rw[jN];exact hk));rw[show(nI l)[k]'(by rw[jN];exact hk)=((l[k]:Nat):Int) by simp[nI]]at ir1;refine ae (ar (M4 ei e42 ia1 ir1) ?_);obtain⟨oi,one,oo⟩:=Go.Blk.inc_oth hii;have hother:=Ea t R hE hL om hii;generalize hi:l[k]=i at *
  refine ae (bM (aV 3 (by simp only[am,aD,simprocAttr,e0,ex]<;>rfl) rfl (by simp only[am,aD,simprocAttr,e0,ex]) (by simp only[am,aD,simprocAttr,e0,ex]<;>rfl) (hother) λv h5 hq=>?_));obtain⟨rfl,x5⟩:=hq;refine bF (M0) ?_;have hy:(grE n E hE hL).oth i x<n:=Go.Blk.inc_lt oi;have R5:Ser h0 h5 sp eb nb lb n ev s1 stv blv bs:=by
   have hnx:=R.kp.nx;refine { kp:=R.kp.trans (x5.kp (ab _)) λ_ _ q=>q,cell:=by rw[x5.gt _ om];exact R.cell,gn:=by rw[x5.gt _ om];exact R.gn,gl:=by rw[x5.gt _ om];exact R.gl,st:=R.st.cong λc _ ⟨o,m,kk,e⟩=>x5.gt _ (R.st.lt e).1,bl:=R.bl.ext x5 (ab _),rl:=R.rl,rw:=λj v l a b=>⟨(R.rw j v l a b).1.ext x5 (ab _),(R.rw j v l a b).2⟩,sb:=R.sb}
  clear hother e1 e2 ia1 ir1 R;have hsp:Pre (grE n E hE hL) (x::an) ((grE n E hE hL).oth i x) (some i) { s1 with stk:=s1.stk++[i]}\/s1.num ((grE n E hE hL).oth i x)≠0:=by
   by_cases q:s1.num ((grE n E hE hL).oth i x)=0
   .exact .inl (Go.Blk.sub_pre p m hii q)
   .exact .inr q
  have hsu:=Go.Blk.sub_unm (i:=i) p m;have hvg:=Go.Blk.visit_good hends kr f (x::an) ((grE n E hE hL).oth i x) (some i) { s1 with stk:=s1.stk++[i]};generalize hyd:(grE n E hE hL).oth i x=y at *
  have iy:gh ((y:Nat):Int) n=some y:=dL hy
  have goal:∀{h':AH}{stv blv:AV}{bs:List AV}{s':DS},sN=s'->Ser h0 h' sp eb nb lb n ev s' stv blv bs ->
   ∃(stv:AV) (blv:AV) (bs:List AV) (new:List Nat) (cs:List (List Nat)),Ser h0 h' sp eb nb lb n ev sN stv blv bs/\Mid (grE n E hE hL) x by_ s (l.take k++[i]) sN new cs :=
   fun {h' stv blv bs s'} e q=>⟨stv,blv,bs,new',cs',by rw[e];exact q,m'⟩
  have rn5:ak h5 sp 3 1=some [.sl nb 0 n n]:=br R5.cell rfl;have ry5:ak h5 nb y 1=some [.int .i64 (s1.num y:Nat)]:=br R5.gn (mS hy);have rx5:ak h5 nb x 1=some [.int .i64 (s1.num x:Nat)]:=br R5.gn (mS hx);have rst5:ak h5 sp 6 1=some [stv]:=br R5.cell rfl;refine cE ?_;by_cases hb:by_=some i
  .have c1:decide (((i:Nat):Int)=byI by_)=true:=bj (by rw[hb];rfl);refine ae (ar (M2 eb' c1) ?_);refine dg (Z0) (bK ?_);refine⟨(),goal ?_ R5,by simp only[hl,am,aD,simprocAttr,ei,en,e0,ex,eb',e42]⟩;rw[hsN];unfold edgeS;rw[if_pos hb]
  have c1:decide (((i:Nat):Int)=byI by_)=false:=aN λe=>hb (by
   cases by_ with
   |none=>change ((i:Nat):Int)=-1 at e;omega
   |some b=>change ((i:Nat):Int)=((b:Nat):Int)at e;congr 1;omega)
  refine ae (ar (M2 eb' c1) ?_);refine dQ (Z0) ?_;by_cases hy0:s1.num y=0
  .have c2:decide (((s1.num y:Nat):Int)=0)=true:=bj om;refine ae (ar (M6 e0 rn5 iy @aM ry5 c2) ?_);refine dg (Z0) ?_;obtain⟨v',h6,h7,q1,q2,q3,q4,R7⟩:=R5.push t i om;refine ae (ar (M6 e0 rst5 q1 q2 q3 q4) ?_);have hpre:Pre (grE n E hE hL) (x::an) y (some i) { s1 with stk:=s1.stk++[i]}:=hsp.resolve_right (λq=>q hy0);have hpp:pot (grE n E hE hL) (dC E) { s1 with stk:=s1.stk++[i]}<=2^30:=by rw[Go.Blk.pot_push];omega
   have hcall:=ih hpre om hpp R7;obtain⟨new2,bs2,post⟩:=hvg hpre om;have hp2:=(hvis y i { s1 with stk:=s1.stk++[i]} hy hy0).2;have ed:sN=if (vU (visit (grE n E hE hL) (dC E) dM f y (some i) { s1 with stk:=s1.stk++[i]}) x y).num x<=(vU (visit (grE n E hE hL) (dC E) dM f y (some i) { s1 with stk:=s1.stk++[i]}) x y).low y then(vU (visit (grE n E hE hL) (dC E) dM f y (some i) { s1 with stk:=s1.stk++[i]}) x y).close dM i else vU (visit (grE n E hE hL) (dC E) dM f y (some i) { s1 with stk:=s1.stk++[i]}) x y:=by
    rw[hsN];unfold edgeS;rw[if_neg hb,hyd,if_pos hy0];rfl
   clear hsN hsp hvg;refine ae (bM (aV 3 (by simp only[am,aD,simprocAttr,e0,byI]<;>rfl) rfl (by simp only[am,aD,simprocAttr,e0,byI]) (by simp only[am,aD,simprocAttr,e0,byI]<;>rfl) (hcall) λv h8 hq=>?_));obtain⟨stv2,blv2,bs2',R8⟩:=hq;have hist:i∈(visit (grE n E hE hL) (dC E) dM f y (some i) { s1 with stk:=s1.stk++[i]}).stk:=by rw[post.stk];simp
   generalize visit (grE n E hE hL) (dC E) dM f y (some i) { s1 with stk:=s1.stk++[i]}=s2 at *
   refine bF (M0) ?_;have rl8:ak h8 sp 4 1=some [.sl lb 0 n n]:=br R8.cell rfl;have rx8:ak h8 lb x 1=some [.int .i64 (s2.low x:Nat)]:=br R8.gl (mS hx);have ry8:ak h8 lb y 1=some [.int .i64 (s2.low y:Nat)]:=br R8.gl (mS hy);obtain⟨h9,w9,R9⟩:=R8.setLow t hx (min (s2.low x) (s2.low y));refine ae (ar (by simp only[am,aD,simprocAttr,e0,ex,rl8,ix,iy,aM,rx8,ry8,mnn,w9]<;>rfl) ?_);have hp3:pot (grE n E hE hL) (dC E) (vU s2 x y)<=2^30:=by
    have e:pot (grE n E hE hL) (dC E) (vU s2 x y)=pot (grE n E hE hL) (dC E) s2:=rfl;rw[e];omega
   have hist3:i∈(vU s2 x y).stk:=hist;have R9:Ser h0 h9 sp eb nb lb n ev (vU s2 x y) stv2 blv2 bs2':=R9;generalize vU s2 x y=s3 at *
   have rl9:ak h9 sp 4 1=some [.sl lb 0 n n]:=br R9.cell rfl;have rn9:ak h9 sp 3 1=some [.sl nb 0 n n]:=br R9.cell rfl;have ry9:ak h9 lb y 1=some [.int .i64 (s3.low y:Nat)]:=br R9.gl (mS hy);have rx9:ak h9 nb x 1=some [.int .i64 (s3.num x:Nat)]:=br R9.gn (mS hx);by_cases hc:s3.num x<=s3.low y
   .have c3:decide (((s3.num x:Nat):Int)<=((s3.low y:Nat):Int))=true:=bj om;refine ae (ar (by simp only[am,aD,simprocAttr,e0,ex,rl9,rn9,ix,iy,aM,rx9,ry9,c3]<;>rfl) ?_);refine dg (Z0) ?_;have hcl:=Ee t R9 hist3 (by unfold pot at hp3;omega) (by unfold pot at hp3;omega);refine bM (aV 2 (M1 e0) rfl (Z1 e0) (M1 e0) (hcl) λv h10 hq=>?_);obtain⟨stv3,blv3,bs3,R10⟩:=hq;refine bF (M0) ?_;refine⟨(),goal (by rw[ed,if_pos hc]) R10,by simp only[hl,am,aD,simprocAttr,ei,en,e0,ex,eb',e42]⟩
   .have c3:decide (((s3.num x:Nat):Int)<=((s3.low y:Nat):Int))=false:=aN om;refine ae (ar (by simp only[am,aD,simprocAttr,e0,ex,rl9,rn9,ix,iy,aM,rx9,ry9,c3]<;>rfl) ?_);refine dQ (Z0) (bK ?_);refine⟨(),goal (by rw[ed,if_neg hc]) R9,by simp only[hl,am,aD,simprocAttr,ei,en,e0,ex,eb',e42]⟩
  have c2:decide (((s1.num y:Nat):Int)=0)=false:=aN om;refine ae (ar (M6 e0 rn5 iy @aM ry5 c2) ?_);refine dQ (Z0) ?_;by_cases hlt:s1.num y<s1.num x
  .have c3:decide (((s1.num y:Nat):Int)<((s1.num x:Nat):Int))=true:=bj om;refine ae (ar (by simp only[am,aD,simprocAttr,e0,ex,rn5,ix,iy,aM,ry5,rx5,c3]<;>rfl) ?_);refine dg (Z0) ?_;obtain⟨v',h6,h7,q1,q2,q3,q4,R7⟩:=R5.push t i om;refine ae (ar (M6 e0 rst5 q1 q2 q3 q4) ?_);have rl7:ak h7 sp 4 1=some [.sl lb 0 n n]:=br R7.cell rfl;have rn7:ak h7 sp 3 1=some [.sl nb 0 n n]:=br R7.cell rfl;have rx7:ak h7 lb x 1=some [.int .i64 (s1.low x:Nat)]:=br R7.gl (mS hx);have ry7:ak h7 nb y 1=some [.int .i64 (s1.num y:Nat)]:=br R7.gn (mS hy);obtain⟨h8,w8,R8⟩:=R7.setLow t hx (min (s1.low x) (s1.num y));refine ar (by simp only[am,aD,simprocAttr,e0,ex,rl7,rn7,ix,iy,aM,rx7,ry7,mnn,w8]<;>rfl) ?_;refine⟨(),goal (s':={ s1 with stk:=s1.stk++[i],low:=upd s1.low x (min (s1.low x) (s1.num y))}) ?_ R8,by simp only[hl,am,aD,simprocAttr,ei,en,e0,ex,eb',e42]⟩;rw[hsN];unfold edgeS;rw[if_neg hb,hyd,if_neg hy0,if_pos hlt]
  .have c3:decide (((s1.num y:Nat):Int)<((s1.num x:Nat):Int))=false:=aN om;refine ae (ar (by simp only[am,aD,simprocAttr,e0,ex,rn5,ix,iy,aM,ry5,rx5,c3]<;>rfl) ?_);refine dQ (Z0) (bK ?_);refine⟨(),goal ?_ R5,by simp only[hl,am,aD,simprocAttr,ei,en,e0,ex,eb',e42]⟩;rw[hsN];unfold edgeS;rw[if_neg hb,hyd,if_neg hy0,if_neg hlt]
 .rintro _ ts h4 ⟨stv,blv,bs,new,cs,R,m⟩ _;rw[da]at R;refine⟨.tup [],rfl,stv,blv,bs,?_⟩;show Ser h0 h4 sp eb nb lb n ev ((dC E x).foldl (edgeS (grE n E hE hL) dM (λy i s=>visit (grE n E hE hL) (dC E) dM f y (some i) s) x by_) (enter x s)) stv blv bs;rw[hL'];exact R
end Go.Proofs.YtmibmlioidpogaaGreatDoor
namespace Go.Blk
variable {g:Gr}
theorem rT:∀{l m:List Nat},l.Pairwise (·<·)->m.Pairwise (·<·)->(∀x,x∈l↔x∈m)->l=m
 |[],[],_,_,_=>rfl
 |[],y::m,_,_,h=>by have:=(h y).2 (bt ..);cases this
 |x::l,[],_,_,h=>by have:=(h x).1 (bt ..);cases this
 |x::l,y::m,h1,h2,h=>by
   obtain⟨a1,a2⟩:=dm.1 h1;obtain⟨b1,b2⟩:=dm.1 h2;have e:x=y:=by
    have hx:=(h x).1 (bt ..);have hy:=(h y).2 (bt ..);rcases au.1 hx with q|q
    .exact q
    .rcases au.1 hy with p|p
     .exact p.symm
     .have:=a1 y p;have:=b1 x q;omega
   subst e;rw[rT a2 b2 λz=>?_];have hz:=h z;rw[au,au]at hz;constructor
   .intro q;rcases hz.1 (.inr q)with p|p
    .have:=a1 z q;omega
    .exact p
   .intro q;rcases hz.2 (.inr q)with p|p
    .have:=b1 z q;omega
    .exact p
theorem rV(n:Nat)(p:Nat->Bool):((List.range n).filter p).Pairwise (·<·):=List.pairwise_lt_range.filter _
theorem wS{bs cs:List (List Nat)}(nd:bs.flatten.Nodup)(hb:∀b∈bs,IsBlock g b)(part:∀i,i<g.m↔∃b∈bs,i∈b)(hs:∀b∈bs,b.Pairwise (·<·)){l:Nat->Nat}(hl:Lst g l)(hp:cs.Perm bs)
 (ho:cs.Pairwise λa b=>a.headD 0<=b.headD 0):cs=canon g.m l:=by
 have nd':cs.flatten.Nodup:=(hp.flatten.nodup_iff).2 nd;have hm:∀b,b∈cs↔b∈bs:=λb=>hp.mem_iff;have one:∀b∈cs,b.headD 0∈b/\b.headD 0<g.m/\l (b.headD 0)=b.headD 0/\b=(List.range g.m).filter λk=>l k==b.headD 0:=by
  intro b hbc;have hbk:=hb b ((hm b).1 hbc);have hsr:=hs b ((hm b).1 hbc);obtain⟨a,r,rfl⟩:∃a r,b=a::r:=by
   cases b with
   |nil=>exact absurd rfl hbk.1
   |cons a r=>exact⟨a,r,rfl⟩
  have hlt:∀k∈a::r,k<g.m:=λk hk=>(part k).2 ⟨_,(hm _).1 hbc,hk⟩;have ha:=bt (a:=a) (l:=r);have hle:∀k∈a::r,a<=k:=λk hk=>by
   rcases au.1 hk with rfl|hk
   .exact ab _
   .exact Nat.le_of_lt ((dm.1 hsr).1 k hk)
  have hla:l a=a:=by
   have h1:=hl.le a (hlt a ha);have h2:=hle _ (hbk.cls ha (hl.cls a (hlt a ha)));omega
  refine⟨ha,hlt a ha,hla,?_⟩;refine rT hsr (rV _ _) λk=>?_;rw[bq,bm,beq_iff_eq];show k∈a::r↔k<g.m/\l k=a;constructor
  .intro hk;refine⟨hlt k hk,?_⟩;rw[<-hla];exact((hl.iff (hlt k hk) (hlt a ha)).2 (hbk.2.1 k hk a ha))
  .rintro⟨h1,h2⟩;have:Cls g a k:=(hl.iff (hlt a ha) h1).1 (by rw[hla,h2]);exact hbk.cls ha this
 have heads:(cs.map (·.headD 0))=(List.range g.m).filter λi=>l i==i:=by
  refine rT ?_ (rV _ _) λx=>?_
  .rw[fC];have hd:cs.Pairwise λa b=>a.headD 0≠b.headD 0:=by
    have key:∀(cs:List (List Nat)),cs.flatten.Nodup->(∀b∈cs,b.headD 0∈b)->cs.Pairwise λa b=>a.headD 0≠b.headD 0:=by
     intro cs;induction cs with
     |nil=>intro _ _;exact List.Pairwise.nil
     |cons b cs ih =>
       intro hn hh;rw[fD,aJ]at hn;refine dm.2 ⟨λc hc e=>?_,ih hn.2.1 λb hb=>hh b (aQ _ hb)⟩;exact hn.2.2 _ (hh b (bt ..)) _ (fJ.2 ⟨c,hc,hh c (aQ _ hc)⟩) e
    exact key cs nd' λb hb=>(one b hb).1
   exact(ho.and hd).imp λh=>by omega
  .rw[bA,bq,bm,beq_iff_eq];constructor
   .rintro⟨b,hb1,rfl⟩;exact⟨(one b hb1).2.1,(one b hb1).2.2.1⟩
   .rintro⟨h1,h2⟩;obtain⟨b,q1,q2⟩:=(part x).1 h1;have hbc:=(hm b).2 q1;obtain⟨a1,a2,a3,a4⟩:=one b hbc;rw[a4,bq,beq_iff_eq]at q2;exact⟨b,hbc,by rw[<-q2.2,h2]⟩
 unfold canon;rw[<-heads,jI]
 conv=>lhs;rw[<-List.map_id cs]
 exact eA λb hb=>(one b hb).2.2.2
variable {g:Gr}{ends:Nat->List Nat}{sort:List Nat->List Nat}
def Srd(sort:List Nat->List Nat)(s:DS):Prop:=∀b∈s.blk,∃l,b=sort l
theorem Ew{vis:Nat->Nat->DS->DS}{x:Nat}{by_:Option Nat}{i:Nat}(hv:∀(y i:Nat) (s:DS),Srd sort s->Srd sort (vis y i s))(s:DS)(hs:Srd sort s):Srd sort (edgeS g sort vis x by_ s i):=by
 unfold edgeS;split
 .exact hs
 .split
  .have h2:=hv (g.oth i x) i { s with stk:=s.stk++[i]} hs;generalize vis (g.oth i x) i { s with stk:=s.stk++[i]}=s2 at *
   simp only;split
   .intro b hb;have hb:b∈s2.blk++[sort (s2.stk.drop (s2.stk.idxOf i))]:=hb;rcases aw.1 hb with hb|hb
    .exact h2 b hb
    .exact⟨_,by simpa using hb⟩
   .exact h2
  .split
   .exact hs
   .exact hs
theorem tU:∀(f x:Nat) (by_:Option Nat) (s:DS),Srd sort s->Srd sort (visit g ends sort f x by_ s)
 |0,_,_,_,h=>h
 |f+1,x,by_,s,h=>by
   have key:∀(l:List Nat) (s:DS),Srd sort s->Srd sort (l.foldl (edgeS g sort (λy i s=>visit g ends sort f y (some i) s) x by_) s):=by
    intro l;induction l with
    |nil=>exact λs h=>h
    |cons i l ih=>exact λs h=>ih _ (Ew (λy i s h=>tU f y (some i) s h) s h)
   exact key (ends x) (enter x s) h
theorem Bg{f:Nat}:∀k,Srd sort ((List.range k).foldl (from1 g ends sort f) start)
 |0=>λb hb=>by cases hb
 |k+1=>by
   rw[ee,fS];have h:=Bg (f:=f) k;show Srd sort (from1 g ends sort f ((List.range k).foldl (from1 g ends sort f) start) k);unfold from1;split
   .exact tU f k none _ h
   .exact h
theorem Btw.pre{s:DS}(b:Btw g s){x:Nat}(hx:x<g.n)(h:s.num x=0):Pre g [] x none s :=
 ⟨hx,h,λa ha=>(by cases ha),λv hv _=>b.black v hv,b.le,b.inj,λz _ a ha=>(by cases ha),λc hc=>(by cases hc),λ_=>rfl,λj hj=>by rw[b.stk]at hj;cases hj⟩
theorem pot_start{m:Nat}(h:∀x,x<g.n->(ends x).length<=m):pot g ends start<=g.n*(1+2*m):=by
 have key:∀(l:List Nat),(∀v∈l,v<g.n)->(l.map λv=>if start.num v=0 then 1+2*(ends v).length else 0).sum<=l.length*(1+2*m):=by
  intro l;induction l with
  |nil=>intro _;simp
  |cons a l ih =>
    intro hl;have h1:=ih λv hv=>hl v (aQ _ hv);have h2:=h a (hl a (bt ..));have h3:start.num a=0:=rfl;rw[bI,List.sum_cons,if_pos h3,aq,dI,pD];omega
 have:=key (List.range g.n) λv hv=>bm.1 hv;rw[cN]at this;unfold pot wt;show 0+0+0+_<=_;omega
theorem btw_all(hends:∀x,x<g.n->(ends x).Nodup/\∀i,i∈ends x↔g.inc i x)(hsort:∀l,(sort l).Perm l):∀k,k<=g.n->Btw g ((List.range k).foldl (from1 g ends sort g.n) start)/\unm g ((List.range k).foldl (from1 g ends sort g.n) start)<=g.n /\
 pot g ends ((List.range k).foldl (from1 g ends sort g.n) start)<=pot g ends start
 |0,_=>⟨vg,xz,ab _⟩
 |k+1,hk=>by
   obtain⟨h1,h2,h3⟩:=btw_all hends hsort k om;rw[ee,fS];obtain⟨a,_,_,d⟩:=ze hends hsort h1 (show k<g.n by omega) h2;refine⟨a,d,?_⟩;show pot g ends (from1 g ends sort g.n ((List.range k).foldl (from1 g ends sort g.n) start) k)<=_;unfold from1;split
   .rename_i h0
    exact cw (pot_visit (λx hx i hi=>((hends x hx).2 i).1 hi) g.n k none _ om h0).2 h3
   .exact h3
theorem run_canon(hends:∀x,x<g.n->(ends x).Nodup/\∀i,i∈ends x↔g.inc i x)(hsort:∀l,(sort l).Perm l)(hle:∀l,(sort l).Pairwise (·<=·)){l:Nat->Nat}(hl:Lst g l){cs:List (List Nat)}(hp:cs.Perm (runB g ends sort g.n).blk)(ho:cs.Pairwise λa b=>a.headD 0<=b.headD 0):cs=canon g.m l:=by
 obtain⟨nd,hb,part⟩:=runB_ok hends hsort (ab g.n);refine wS nd hb part (λb hbm=>?_) hl hp ho;obtain⟨l',e⟩:=Bg (g:=g) (ends:=ends) (sort:=sort) (f:=g.n) g.n b hbm;have h1:b.Pairwise (·<=·):=by rw[e];exact hle l'
 have h2:b.Nodup:=nd.sublist (List.sublist_flatten_of_mem hbm);exact(h1.and h2).imp λh=>by omega
theorem Ga{P:Nat->Prop}:∀n,P n->∃k,P k/\∀j,P j->k<=j:=by
 intro n;induction n using Nat.strongRecOn with
 |_ n ih =>
   intro hn;by_cases h:∃j,j<n/\P j
   .obtain⟨j,h1,h2⟩:=h;exact ih j h1 h2
   .exact⟨n,hn,λj hj=>Decidable.byContradiction λhc=>h ⟨j,om,hj⟩⟩
theorem lst_ex(g:Gr):∃l,Lst g l:=by
 have h:∀i,∃k,Cls g i k/\∀j,Cls g i j->k<=j:=λi=>Ga i .refl;obtain⟨l,hl⟩:=Classical.axiomOfChoice h;refine⟨l,λi _=>(hl i).1,λi _=>(hl i).2 i .refl,λi k _ _ r=>?_⟩;have hc:=Cls.one r;have h1:=(hl i).2 (l k) (hc.trans (hl k).1);have h2:=(hl k).2 (l i) (hc.symm.trans (hl i).1);omega
end Go.Blk
namespace Go.Proofs.YtmibmlioidpogaaGreatDoor
open Go.Am
theorem GX{h:AH}{b n c:Nat}{vs:List AV}{kf:Nat->Int}(hg:h.get b=some (.cells vs 1 false))(hl:vs.length=n)(h0:0<n)(hn:n<2^62)(hr:∀i v,vs[i]?=some v->qj h b (kf i) v) :
 C prg 62 [.sl b 0 n c,.fn 63 []] h λ_ h'=>∃is:List Nat,is.Perm (List.range n)/\is.Pairwise (λi j=>kf i<=kf j)/\Mod h.next h h' b (.cells (is.map λi=>vs.getD i .un) 1 false):=by
 have hrd:ak h b 0 n=some vs:=by
  rw[aU hg,if_pos om,bQ,cB om]
 refine BS.srf ps62 hrd h0 hn hr λis hp hs=>?_;have hil:(is.map λi=>vs.getD i .un).length=n:=by rw[ah,hp.length_eq,cN]
 refine⟨_,?_,_,_,rfl,is,hp,hs,(Md hg).mod⟩;rw[eL hg,if_pos om];simp only[dH,fK,aW,bL];rw[cW om,bW]
theorem zP{α:Type}{d:α}(l:List α):((List.range l.length).map λi=>l.getD i d)=l:=by
 refine du λj=>?_;rw[aE];by_cases hj:j<l.length
 .rw[dp hj,ai hj];simp only[aF];rw[aH,ai hj];rfl
 .rw[bO (by rw[cN];omega),bO om];rfl
end Go.Proofs.YtmibmlioidpogaaGreatDoor
