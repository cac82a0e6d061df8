/- block's search -/
import Derived.Test.YtpeemonpdlifbaaVTAS
import Derived.Test.YtpeemonpdlifbaaVTAC
import Derived.Test.YtpeemonpdlifbaaVTAD
import Derived.Test.YtpeemonpdlifbaaVTAE
import Derived.Test.YtpeemonpdlifbaaVTAR
set_option linter.all false
namespace Go.Proofs.Ytpeemonpdlifbaa
open Go.Am
open Go.Blk (Gr DS upd)
def dR (l:List Nat):List Nat:=l.mergeSort λa b=>decide (a≤b)
theorem jO (l:List Nat):(dR l).Perm l:=yt l _
theorem wN (l:List Nat):pX (nI l)=nI (dR l):=by
 unfold pX nI dR
 exact (List.map_mergeSort λa _ b _=>by rw[decide_eq_decide]; omega).symm
theorem DP (l:List Nat):(dR l).Pairwise (·≤·):=by
 have:=qi (le:=λa b:Nat=>decide (a≤b)) (λa b c h1 h2=>by simp only[aJ] at *; omega) (λa b=>by simp only[cD,aJ]; omega) l
 exact this.imp λh=>du h
theorem Iv {l:List Nat}{i:Nat} (h:i∈l):∀ k:Nat,iU (((i:Nat):Int)==·) (nI l) k=((k+l.idxOf i:Nat):Int):=by
 induction l with
 | nil=>cases h
 | cons a l ih =>
   intro k
   show (if (((i:Nat):Int)==((a:Nat):Int))=true then ((k:Nat):Int) else iU _ (nI l) (k+1))=_
   by_cases e:a=i
   ·subst e
    rw[if_pos (by simp),List.idxOf_cons_self,cZ]
   ·have hm:i∈l:=by
     rcases aw.1 h with q|q
     ·exact absurd q.symm e
     ·exact q
    have hne:¬ ((((i:Nat):Int)==((a:Nat):Int))=true):=by
     rw[beq_iff_eq]; omega
    have hb:(a==i)=false:=by rw[beq_eq_false_iff_ne]; exact e
    rw[if_neg hne,ih hm (k+1),List.idxOf_cons,hb,cond_false]
    congr 1
    omega
set_option maxHeartbeats 1000000 in
theorem Dp {h0 h:AH}{sp eb nb lb n:Nat}{ev:AV}{E:List (Int×Int)}{s:DS}{stv blv:AV}{bs:List AV} (t:Sta h0 sp eb nb lb n ev E) (r:Ser h0 h sp eb nb lb n ev s stv blv bs) {i:Nat} (hi:i∈s.stk) (hl1:s.stk.length<2 ^ 32) (hl2:s.blk.length<2 ^ 32) :
 C prg 49 [.ptr sp 0,.int .i64 (i:Nat)] h λ_ h'=>∃ stv' blv' bs',Ser h0 h' sp eb nb lb n ev (s.close dR i) stv' blv' bs':=by
 obtain⟨n1,n2,n3,n4,n5,n6⟩:=t.ne
 obtain⟨l1,l2,l3⟩:=t.lt
 have hnx:=r.kp.nx
 have hs:=r.st.sl
 refine KK pf49 ?_
 have r6:ak h sp 6 1=some [stv]:=br r.cell rfl
 refine ai (bU (bu 5 (Mi1 r6) rfl (Zi1 r6) (Mi1 r6) (qA (y:=((i:Nat):Int)) hs (by rw[jj]; omega)) λv h1 hq=>?_))
 obtain⟨rfl,x1⟩:=hq
 rw[Iv hi 0,bS]
 have hat:s.stk.idxOf i<s.stk.length:=List.idxOf_lt_length_iff.2 hi
 have hclose:s.close dR i={ s with blk:=s.blk++[dR (s.stk.drop (s.stk.idxOf i))],stk:=s.stk.take (s.stk.idxOf i)}:=rfl
 rw[hclose]
 generalize s.stk.idxOf i=k at *
 refine bP (M0) ?_
 have y1:=x1.nx
 have kg:∀ c,c<h1.next→(h1.keep 1).get c=h1.get c:=λc hc=>by rw[AH.keep_get,if_neg om]
 have kn:(h1.keep 1).next=h1.next+1:=AH.keep_next 1 h1
 have kq:(h1.keep 1).get h1.next=some .resv:=iQ
 have xk:Ext h1.next h1 (h1.keep 1):=⟨om,kg,λc hc=>KF 1 h1⟩
 have X1:Ext h.next h (h1.keep 1):=x1.trans (xk.mono y1)
 have hsp:sp<h.next:=om
 have c1:(h1.keep 1).get sp=some (.cells [.int .i64 (n:Nat),ev,.sl eb 0 n n,.sl nb 0 n n,.sl lb 0 n n,.int .i64 (s.cnt:Nat),stv,blv] 8 false):=by rw[X1.gt _ hsp]; exact r.cell
 have r61:ak (h1.keep 1) sp 6 1=some [stv]:=br c1 rfl
 have r71:ak (h1.keep 1) sp 7 1=some [blv]:=br c1 rfl
 have hs1:=hs.ext X1 (ab _)
 obtain⟨w,s1,s2,_⟩:=hs1.from (lo:=k) (by rw[ae,jj]; omega)
 rw[← fi] at s2
 refine ai (lV (li 11 (by simp only[am,aH,simprocAttr,r61,r71,dZ,bO,s1]<;>rfl) rfl (by simp only[am,aH,simprocAttr,r61,r71,dZ,bO,s1]) (by simp only[am,aH,simprocAttr,r61,r71,dZ,bO,s1]<;>rfl) (BA s2.cells.1) λrv h2 hq=>?_))
 obtain⟨rfl,hh2⟩:=hq
 have x2:Ext (h1.next+1) (h1.keep 1) h2:=by rw[hh2]; exact KH om
 have g2:h2.get (h1.next+1)=some (.cells [w] 1 false):=by rw[hh2,AH.get_new,kn,if_pos rfl]
 have n2:h2.next=h1.next+2:=by rw[hh2,AH.next_new,kn]
 rw[kn]
 have X2:Ext h.next h h2:=X1.trans (x2.mono om)
 have c2:h2.get sp=some (.cells [.int .i64 (n:Nat),ev,.sl eb 0 n n,.sl nb 0 n n,.sl lb 0 n n,.int .i64 (s.cnt:Nat),stv,blv] 8 false):=by rw[X2.gt _ hsp]; exact r.cell
 have r72:ak h2 sp 7 1=some [blv]:=br c2 rfl
 have bc:=r.bl.cells
 have sb:blv.same blv=true:=by rcases r.bl with ⟨rfl,_⟩|⟨_,_,_,rfl,_⟩<;>first|rfl|exact uU
 refine⟨Z2 r72 sb,?_⟩
 have s22:=s2.ext x2 om
 refine li 0 (M0) rfl (Z0) (M0) (BF (br g2 rfl) s22 om (by rw[de,jj]; omega)) λrv h3 hq=>?_
 obtain⟨i3,x3⟩:=hq
 have X3:Ext h.next h h3:=X2.trans (x3.mono om)
 have n3':=x3.nx
 have c3:h3.get sp=some (.cells [.int .i64 (n:Nat),ev,.sl eb 0 n n,.sl nb 0 n n,.sl lb 0 n n,.int .i64 (s.cnt:Nat),stv,blv] 8 false):=by rw[X3.gt _ hsp]; exact r.cell
 have r73:ak h3 sp 7 1=some [blv]:=br c3 rfl
 refine⟨Z2 r73 sb,?_⟩
 have q3:h3.get h1.next=some .resv:=by rw[x3.gt _ om,x2.gt _ om]; exact kq
 have hrow:IsSl h3 1 h2.next rv (nL (dR (s.stk.drop k))):=by
  have e:nI (s.stk.drop k)=(nI s.stk).drop k:=by unfold nI; rw[fi]
  rw[← e,wN,Js] at i3
  exact i3
 have u4:=KJ (o:=.cells [rv] 1 false) q3
 obtain⟨rc,ro⟩:=i3.cells
 have bl4:IsSl (h3.put h1.next (.cells [rv] 1 false)) 1 h0.next blv bs:=r.bl.cong λb m e hb=>by
  have:=r.bl.lt e
  rw[u4.ne om,X3.gt _ this]
 have n4':=u4.nx
 obtain⟨blv',h5,a5,i5,x5,e5,n5',k5,t5⟩:=bl4.app (bytes:=24) (x:=h1.next) (new:=[rv]) om om u4.get om (λb m e=>by have:=r.bl.lt e; omega) rfl (by simp [ro])
  (by rw[ew,r.rl]; unfold aU; omega) (by rw[ew,r.rl]; unfold aU; omega)
 obtain⟨bc',bo'⟩:=i5.cells
 have hb5:∀ c,c<h.next→(∀ b m,blv=.sl b 0 m m→c≠b)→h5.get c=h.get c:=λc hc hne=>by
  rw[k5 c om hne,u4.ne om,X3.gt _ hc]
 have hbl0:∀ c,c<h0.next→h5.get c=h.get c:=λc hc=>hb5 c om λb m e q=>by
  rcases r.bl with ⟨rfl,_⟩|⟨b',m',z1,rfl,_⟩
  ·cases e
  ·cases e; omega
 have c5:h5.get sp=some (.cells [.int .i64 (n:Nat),ev,.sl eb 0 n n,.sl nb 0 n n,.sl lb 0 n n,.int .i64 (s.cnt:Nat),stv,blv] 8 false):=by rw[hbl0 sp l1]; exact r.cell
 have w6:=gj (v:=blv') c5 (i:=7) (by simp)
 have u6:=KJ (o:=.cells [.int .i64 (n:Nat),ev,.sl eb 0 n n,.sl nb 0 n n,.sl lb 0 n n,.int .i64 (s.cnt:Nat),stv,blv'] 8 false) c5
 change bX h5 sp 7 [blv']=some (h5.put sp (.cells [.int .i64 (n:Nat),ev,.sl eb 0 n n,.sl nb 0 n n,.sl lb 0 n n,.int .i64 (s.cnt:Nat),stv,blv'] 8 false)) at w6
 have rp:cI [AV.nils] 1=[.nils]:=rfl
 refine bP (by simp only[am,aH,simprocAttr,dX,dm q3,rp,rc,ro,a5,bo',bc',w6]<;>rfl) ?_
 generalize h5.put sp (.cells [.int .i64 (n:Nat),ev,.sl eb 0 n n,.sl nb 0 n n,.sl lb 0 n n,.int .i64 (s.cnt:Nat),stv,blv'] 8 false)=h6 at *
 have n6':=u6.nx
 have ty6:∀ c,c<h.next→h6.tyOf c=h.tyOf c:=λc hc=>by rw[u6.ty,t5,u4.ty,X3.ty _ hc]
 have hlow:∀ c,c<h0.next→c≠sp→h6.get c=h.get c:=λc hc hne=>by rw[u6.ne hne,hbl0 c hc]
 have keepS:∀ c,h0.next≤c→c<h.next→(∀ b m,blv=.sl b 0 m m→c≠b)→h6.get c=h.get c:=λc hc hc2 hne=>by rw[u6.ne om,hb5 c hc2 hne]
 have st6:Stk h6 h0.next stv s.stk:=r.st.cong λc hc ⟨o,m,kk,e⟩=>keepS c hc (r.st.lt e).1 λb m' e' q=>r.sb b 0 m' m' o m kk e' (by rw[e,q])
 have R6:Ser h0 h6 sp eb nb lb n ev { s with blk:=s.blk++[dR (s.stk.drop k)]} stv blv' (bs++[rv]):=by
  refine { kp:=⟨om,λc hc hn'=>?_,λc hc=>?_⟩,cell:=u6.get,gn:=by rw[hlow nb l2 n4]; exact r.gn,gl:=by rw[hlow lb l3 n6]; exact r.gl,st:=st6,bl:=i5.upd u6 om,rl:=by rw[aC,aC,r.rl]; rfl,rw:=λj v l a b=>?_,sb:=?_}
  ·rw[hlow c hc λe=>hn' (.inl e)]; exact r.kp.gt c hc hn'
  ·rw[ty6 c om]; exact r.kp.ty c hc
  ·by_cases hj:j<bs.length
   ·rw[aX hj] at a
    rw[aX (by rw[← r.rl]; exact hj)] at b
    obtain⟨z1,z2,z3⟩:=r.rw j v l a b
    refine⟨z1.cong λb m e hb=>keepS b hb (z1.lt e) λb' m' e' q=>z3 b 0 m m 0 m' m' e (by rw[e',q]),z2,λb o m c o' m' c' e e'=>?_⟩
    rw[e5] at e'
    cases e'
    have:=z1.lt e
    omega
   ·rw[aR om] at a
    rw[aR (by rw[← r.rl]; omega),← r.rl] at b
    have hj0:j-bs.length=0:=by
     have:=(aL.1 a).1
     simp only[aB,aO] at this
     omega
    rw[hj0] at a b
    simp only[aV,aa] at a b
    subst a b
    refine⟨(hrow.cong λb m e hb=>?_).mono om,λb o m c o' m' c' e e'=>?_,λb o m c o' m' c' e e'=>?_⟩
    ·have:=hrow.lt e
     rw[u6.ne om,k5 b om (λb' m' e'=>by have:=r.bl.lt e'; omega),u4.ne om]
    ·have:=(r.st.lt e').1
     rcases hrow with ⟨rfl,_⟩|⟨b',m'',z1,rfl,_⟩
     ·cases e
     ·cases e; omega
    ·rw[e5] at e'
     cases e'
     have:=hrow.lt e
     omega
  ·intro b o m c o' m' c' e e'
   rw[e5] at e
   cases e
   have:=(r.st.lt e').1
   omega
 have r66:ak h6 sp 6 1=some [stv]:=br R6.cell rfl
 obtain⟨v',cv,cs,csep,cin⟩:=R6.st.cut (k:=k) (by show k≤s.stk.length; omega)
 obtain⟨h7,w7,R7⟩:=R6.setStk t (ab _) (λ_ _ _=>rfl) (λ_=>rfl) cs (λw _ q=>csep w q)
 have co:=cs.cells
 refine au (by simp only[am,aH,simprocAttr,bN,r66,dZ,bO,cv,co.1,co.2,w7]<;>rfl) ?_
 exact⟨.tup [],rfl,v',blv',_,R7⟩
open Go.Am
open Go.Blk (Gr DS upd visit edgeS enter Pre Mid pot unm)
theorem mnn {k:IntKind}{a b:Nat}:mG mnA [.int k (a:Nat),.int k (b:Nat)]=some (.int k ((min a b:Nat):Int)):=by
 have:mG mnA [.int k ((a:Nat):Int),.int k ((b:Nat):Int)]=some (.int k (if ((b:Nat):Int)<((a:Nat):Int) then ((b:Nat):Int) else ((a:Nat):Int))):=by simp [mG,mnA]
 rw[this]
 congr 2
 split<;>omega
def vB (s:DS) (x y:Nat):DS:={ s with low:=upd s.low x (min (s.low x) (s.low y))}
def byI:Option Nat→Int
 | none=>-1
 | some b=>(b:Nat)
set_option maxHeartbeats 4000000 in
theorem Di {h0:AH}{sp eb nb lb n:Nat}{ev:AV}{E:List (Int×Int)} (t:Sta h0 sp eb nb lb n ev E) (hE:InG n E) (hL:∀ i,i<E.length→tlE E i≠hdE E i) (hn:n<2 ^ 30) (hxl:E.length<2 ^ 30) :
 ∀ (f:Nat) {h:AH}{an:List Nat}{x:Nat}{by_:Option Nat}{s:DS}{stv blv:AV}{bs:List AV},Pre (grE n E hE hL) an x by_ s→unm (grE n E hE hL) s≤f→pot (grE n E hE hL) (dG E) s≤2 ^ 30→Ser h0 h sp eb nb lb n ev s stv blv bs →
   C prg 33 [.ptr sp 0,.int .i64 (x:Nat),.int .i64 (byI by_)] h λ_ h'=>∃ stv' blv' bs',Ser h0 h' sp eb nb lb n ev (visit (grE n E hE hL) (dG E) dR f x by_ s) stv' blv' bs':=by
 intro f
 induction f with
 | zero =>
   intro h an x by_ s stv blv bs p hf _ _
   have:=Go.Blk.unm_pos p.hx p.x0
   omega
 | succ f ih =>
 intro h an x by_ s stv blv bs p hf hpot r
 have hends:=xY hE hL
 have hx:x<n:=p.hx
 obtain⟨l1,l2,l3⟩:=t.lt
 have hcnt:s.cnt≤2 ^ 30:=by unfold pot at hpot; omega
 refine KK pf33 ?_
 have r5:ak h sp 5 1=some [.int .i64 (s.cnt:Nat)]:=br r.cell rfl
 have w1:=nZ (k:=s.cnt) om
 obtain⟨h1,a1,R1⟩:=r.setCnt t (s.cnt+1)
 refine ai (au (Mi3 r5 w1 a1) ?_)
 have r3:ak h1 sp 3 1=some [.sl nb 0 n n]:=br R1.cell rfl
 have r4:ak h1 sp 4 1=some [.sl lb 0 n n]:=br R1.cell rfl
 have r51:ak h1 sp 5 1=some [.int .i64 (s.cnt+1:Nat)]:=br R1.cell rfl
 have ix:fL ((x:Nat):Int) n=some x:=dE hx
 obtain⟨h2,a2,R2⟩:=R1.setNum t hx (s.cnt+1)
 obtain⟨h3,a3,R3⟩:=R2.setLow t hx (s.cnt+1)
 refine ai (au (Mi7 r3 r4 r51 ix @aP a2 a3) ?_)
 have R3:Ser h0 h3 sp eb nb lb n ev (enter x s) stv blv bs:=R3
 clear a1 a2 a3 R1 R2 r3 r4 r5 r51
 obtain⟨rv,e1,e2,e3o,e4⟩:=t.row R3.kp hx
 have r2:ak h3 sp 2 1=some [.sl eb 0 n n]:=br R3.cell rfl
 have el:=e2.len
 rw[ae,jj] at el
 refine ai (au (Mi5 r2 ix @aP e1 el) ?_)
 have hm0:=Go.Blk.mid0 p
 have hpe:=Go.Blk.pot_enter (ends:=dG E) p.hx p.x0
 have hin:∀ i∈dG E x,(grE n E hE hL).inc i x:=λi hi=>(hends x p.hx).2 i |>.1 hi
 have hnd:=(hends x p.hx).1
 have hvis:∀ (y i:Nat) (s:DS),y<(grE n E hE hL).n→s.num y=0→(∀ v,s.num v≠0→(visit (grE n E hE hL) (dG E) dR f y (some i) s).num v≠0)∧pot (grE n E hE hL) (dG E) (visit (grE n E hE hL) (dG E) dR f y (some i) s)≤pot (grE n E hE hL) (dG E) s :=
  λy i s hy hs=>Go.Blk.pot_visit (λx hx i hi=>(hends x hx).2 i |>.1 hi) f y (some i) s hy hs
 have hel:(dG E x).length<2 ^ 40:=by unfold pot at hpe hpot; omega
 show W prg _ _ _ _ (λts h=>∃ v,_∧∃ stv' blv' bs',Ser h0 h sp eb nb lb n ev ((dG E x).foldl (edgeS (grE n E hE hL) dR (λy i s=>visit (grE n E hE hL) (dG E) dR f y (some i) s) x by_) (enter x s)) stv' blv' bs') _
 generalize hL':dG E x=l at *
 refine ig (α:=Unit) (N:=l.length) (λ_ _=>[(0,.ptr sp 0),(1,.int .i64 (x:Nat)),(2,.int .i64 (byI by_)),(42,rv)])
  (λk _ h'=>∃ (stv:AV) (blv:AV) (bs:List AV) (new:List Nat) (cs:List (List Nat)),Ser h0 h' sp eb nb lb n ev ((l.take k).foldl (edgeS (grE n E hE hL) dR (λy i s=>visit (grE n E hE hL) (dG E) dR f y (some i) s) x by_) (enter x s)) stv blv bs ∧
   Mid (grE n E hE hL) x by_ s (l.take k) ((l.take k).foldl (edgeS (grE n E hE hL) dR (λy i s=>visit (grE n E hE hL) (dG E) dR f y (some i) s) x by_) (enter x s)) new cs) () (λ_ _=>rfl) om (Hi0)
  ⟨stv,blv,bs,[],[],R3,hm0⟩ ?_ ?_
 ·clear R3 r2 e1 e2 el
  rintro k _ ts h4 hk ⟨stv,blv,bs,new,cs,R,m⟩ ⟨ei,en,e0,ex,eb',e42,-⟩
  simp only at ei en e0 ex eb' e42
  have hii:(grE n E hE hL).inc l[k] x:=hin _ (bj hk)
  have hiL:l[k]∉l.take k:=λhm=>by
   have hnd':=hnd
   rw[← cA k l,aS] at hnd'
   exact hnd'.2.2 _ hm _ (by rw[cw hk]; exact bA ..) rfl
  obtain⟨new',cs',m'⟩:=Go.Blk.mid_step hends jO p hf m hii hiL
  have hpk:=(Go.Blk.pot_fold (sort:=dR) (by_:=by_) hvis (l.take k) (enter x s) λi hi=>hin i (wC hi)).2
  have hsucc:(l.take (k+1)).foldl (edgeS (grE n E hE hL) dR (λy i s=>visit (grE n E hE hL) (dG E) dR f y (some i) s) x by_) (enter x s)=edgeS (grE n E hE hL) dR (λy i s=>visit (grE n E hE hL) (dG E) dR f y (some i) s) x by_ ((l.take k).foldl (edgeS (grE n E hE hL) dR (λy i s=>visit (grE n E hE hL) (dG E) dR f y (some i) s) x by_) (enter x s)) l[k]:=by
   rw[dN hk,fI]
   rfl
  rw[bK,eS om] at hpk
  rw[dN hk]
  rw[dN hk] at hsucc
  rw[hsucc]
  clear hsucc
  obtain⟨sN,hsN⟩:∃ sN,sN=edgeS (grE n E hE hL) dR (λy i s=>visit (grE n E hE hL) (dG E) dR f y (some i) s) x by_ ((l.take k).foldl (edgeS (grE n E hE hL) dR (λy i s=>visit (grE n E hE hL) (dG E) dR f y (some i) s) x by_) (enter x s)) l[k]:=⟨_,rfl⟩
  rw[← hsN] at m' ⊢
  generalize (l.take k).foldl (edgeS (grE n E hE hL) dR (λy i s=>visit (grE n E hE hL) (dG E) dR f y (some i) s) x by_) (enter x s)=s1 at *
  have hpot1:pot (grE n E hE hL) (dG E) s1+2≤2 ^ 30:=om
  have hstk1:s1.stk.length≤2 ^ 30:=by unfold pot at hpot1; omega
  obtain⟨rv',e1,e2,_,_⟩:=t.row R.kp hx
  have e2:SlI h4 rv (nI l):=e4.kp R.kp e3o
  obtain⟨b1,p1,ia1,ir1,_⟩:=e2.at1 (fR (f:=eI) (i:=k) (by rw[jj]; exact hk))
  rw[show (nI l)[k]'(by rw[jj]; exact hk)=((l[k]:Nat):Int) by simp [nI]] at ir1
  refine ai (au (M4 ei e42 ia1 ir1) ?_)
  obtain⟨oi,one,oo⟩:=Go.Blk.inc_oth hii
  have hother:=Dj t R hE hL om hii
  generalize hi:l[k]=i at *
  refine ai (bU (bu 3 (by simp only[am,aH,simprocAttr,e0,ex]<;>rfl) rfl (by simp only[am,aH,simprocAttr,e0,ex]) (by simp only[am,aH,simprocAttr,e0,ex]<;>rfl) (hother) λv h5 hq=>?_))
  obtain⟨rfl,x5⟩:=hq
  refine bP (M0) ?_
  have hy:(grE n E hE hL).oth i x<n:=Go.Blk.inc_lt oi
  have R5:Ser h0 h5 sp eb nb lb n ev s1 stv blv bs:=by
   have hnx:=R.kp.nx
   refine { kp:=R.kp.trans (x5.kp (ab _)) λ_ _ q=>q,cell:=by rw[x5.gt _ om]; exact R.cell,gn:=by rw[x5.gt _ om]; exact R.gn,gl:=by rw[x5.gt _ om]; exact R.gl,st:=R.st.cong λc _ ⟨o,m,kk,e⟩=>x5.gt _ (R.st.lt e).1,bl:=R.bl.ext x5 (ab _),rl:=R.rl,rw:=λj v l a b=>⟨(R.rw j v l a b).1.ext x5 (ab _),(R.rw j v l a b).2⟩,sb:=R.sb}
  clear hother e1 e2 ia1 ir1 R
  have hsp:Pre (grE n E hE hL) (x::an) ((grE n E hE hL).oth i x) (some i) { s1 with stk:=s1.stk++[i]}∨s1.num ((grE n E hE hL).oth i x)≠0:=by
   by_cases q:s1.num ((grE n E hE hL).oth i x)=0
   ·exact .inl (Go.Blk.sub_pre p m hii q)
   ·exact .inr q
  have hsu:=Go.Blk.sub_unm (i:=i) p m
  have hvg:=Go.Blk.visit_good hends jO f (x::an) ((grE n E hE hL).oth i x) (some i) { s1 with stk:=s1.stk++[i]}
  generalize hyd:(grE n E hE hL).oth i x=y at *
  have iy:fL ((y:Nat):Int) n=some y:=dE hy
  have goal:∀ {h':AH}{stv blv:AV}{bs:List AV}{s':DS},sN=s'→Ser h0 h' sp eb nb lb n ev s' stv blv bs →
   ∃ (stv:AV) (blv:AV) (bs:List AV) (new:List Nat) (cs:List (List Nat)),Ser h0 h' sp eb nb lb n ev sN stv blv bs∧Mid (grE n E hE hL) x by_ s (l.take k++[i]) sN new cs :=
   fun {h' stv blv bs s'} e q=>⟨stv,blv,bs,new',cs',by rw[e]; exact q,m'⟩
  have rn5:ak h5 sp 3 1=some [.sl nb 0 n n]:=br R5.cell rfl
  have ry5:ak h5 nb y 1=some [.int .i64 (s1.num y:Nat)]:=br R5.gn (kU hy)
  have rx5:ak h5 nb x 1=some [.int .i64 (s1.num x:Nat)]:=br R5.gn (kU hx)
  have rst5:ak h5 sp 6 1=some [stv]:=br R5.cell rfl
  refine cY ?_
  by_cases hb:by_=some i
  ·have c1:decide (((i:Nat):Int)=byI by_)=true:=aM (by rw[hb]; rfl)
   refine ai (au (M2 eb' c1) ?_)
   refine cE (Z0) (bH ?_)
   refine⟨(),goal ?_ R5,by simp only[hl,am,aH,simprocAttr,ei,en,e0,ex,eb',e42]⟩
   rw[hsN]; unfold edgeS; rw[if_pos hb]
  have c1:decide (((i:Nat):Int)=byI by_)=false:=aK λe=>hb (by
   cases by_ with
   | none=>change ((i:Nat):Int)=-1 at e; omega
   | some b=>change ((i:Nat):Int)=((b:Nat):Int) at e; congr 1; omega)
  refine ai (au (M2 eb' c1) ?_)
  refine dn (Z0) ?_
  by_cases hy0:s1.num y=0
  ·have c2:decide (((s1.num y:Nat):Int)=0)=true:=aM om
   refine ai (au (M6 e0 rn5 iy @aP ry5 c2) ?_)
   refine cE (Z0) ?_
   obtain⟨v',h6,h7,q1,q2,q3,q4,R7⟩:=R5.push t i om
   refine ai (au (M6 e0 rst5 q1 q2 q3 q4) ?_)
   have hpre:Pre (grE n E hE hL) (x::an) y (some i) { s1 with stk:=s1.stk++[i]}:=hsp.resolve_right (λq=>q hy0)
   have hpp:pot (grE n E hE hL) (dG E) { s1 with stk:=s1.stk++[i]}≤2 ^ 30:=by rw[Go.Blk.pot_push]; omega
   have hcall:=ih hpre om hpp R7
   obtain⟨new2,bs2,post⟩:=hvg hpre om
   have hp2:=(hvis y i { s1 with stk:=s1.stk++[i]} hy hy0).2
   have ed:sN=if (vB (visit (grE n E hE hL) (dG E) dR f y (some i) { s1 with stk:=s1.stk++[i]}) x y).num x≤(vB (visit (grE n E hE hL) (dG E) dR f y (some i) { s1 with stk:=s1.stk++[i]}) x y).low y then (vB (visit (grE n E hE hL) (dG E) dR f y (some i) { s1 with stk:=s1.stk++[i]}) x y).close dR i else vB (visit (grE n E hE hL) (dG E) dR f y (some i) { s1 with stk:=s1.stk++[i]}) x y:=by
    rw[hsN]
    unfold edgeS
    rw[if_neg hb,hyd,if_pos hy0]
    rfl
   clear hsN hsp hvg
   refine ai (bU (bu 3 (by simp only[am,aH,simprocAttr,e0,byI]<;>rfl) rfl (by simp only[am,aH,simprocAttr,e0,byI]) (by simp only[am,aH,simprocAttr,e0,byI]<;>rfl) (hcall) λv h8 hq=>?_))
   obtain⟨stv2,blv2,bs2',R8⟩:=hq
   have hist:i∈(visit (grE n E hE hL) (dG E) dR f y (some i) { s1 with stk:=s1.stk++[i]}).stk:=by rw[post.stk]; simp
   generalize visit (grE n E hE hL) (dG E) dR f y (some i) { s1 with stk:=s1.stk++[i]}=s2 at *
   refine bP (M0) ?_
   have rl8:ak h8 sp 4 1=some [.sl lb 0 n n]:=br R8.cell rfl
   have rx8:ak h8 lb x 1=some [.int .i64 (s2.low x:Nat)]:=br R8.gl (kU hx)
   have ry8:ak h8 lb y 1=some [.int .i64 (s2.low y:Nat)]:=br R8.gl (kU hy)
   obtain⟨h9,w9,R9⟩:=R8.setLow t hx (min (s2.low x) (s2.low y))
   refine ai (au (by simp only[am,aH,simprocAttr,e0,ex,rl8,ix,iy,aP,rx8,ry8,mnn,w9]<;>rfl) ?_)
   have hp3:pot (grE n E hE hL) (dG E) (vB s2 x y)≤2 ^ 30:=by
    have e:pot (grE n E hE hL) (dG E) (vB s2 x y)=pot (grE n E hE hL) (dG E) s2:=rfl
    rw[e]; omega
   have hist3:i∈(vB s2 x y).stk:=hist
   have R9:Ser h0 h9 sp eb nb lb n ev (vB s2 x y) stv2 blv2 bs2':=R9
   generalize vB s2 x y=s3 at *
   have rl9:ak h9 sp 4 1=some [.sl lb 0 n n]:=br R9.cell rfl
   have rn9:ak h9 sp 3 1=some [.sl nb 0 n n]:=br R9.cell rfl
   have ry9:ak h9 lb y 1=some [.int .i64 (s3.low y:Nat)]:=br R9.gl (kU hy)
   have rx9:ak h9 nb x 1=some [.int .i64 (s3.num x:Nat)]:=br R9.gn (kU hx)
   by_cases hc:s3.num x≤s3.low y
   ·have c3:decide (((s3.num x:Nat):Int)≤((s3.low y:Nat):Int))=true:=aM om
    refine ai (au (by simp only[am,aH,simprocAttr,e0,ex,rl9,rn9,ix,iy,aP,rx9,ry9,c3]<;>rfl) ?_)
    refine cE (Z0) ?_
    have hcl:=Dp t R9 hist3 (by unfold pot at hp3; omega) (by unfold pot at hp3; omega)
    refine bU (bu 2 (M1 e0) rfl (Z1 e0) (M1 e0) (hcl) λv h10 hq=>?_)
    obtain⟨stv3,blv3,bs3,R10⟩:=hq
    refine bP (M0) ?_
    refine⟨(),goal (by rw[ed,if_pos hc]) R10,by simp only[hl,am,aH,simprocAttr,ei,en,e0,ex,eb',e42]⟩
   ·have c3:decide (((s3.num x:Nat):Int)≤((s3.low y:Nat):Int))=false:=aK om
    refine ai (au (by simp only[am,aH,simprocAttr,e0,ex,rl9,rn9,ix,iy,aP,rx9,ry9,c3]<;>rfl) ?_)
    refine dn (Z0) (bH ?_)
    refine⟨(),goal (by rw[ed,if_neg hc]) R9,by simp only[hl,am,aH,simprocAttr,ei,en,e0,ex,eb',e42]⟩
  have c2:decide (((s1.num y:Nat):Int)=0)=false:=aK om
  refine ai (au (M6 e0 rn5 iy @aP ry5 c2) ?_)
  refine dn (Z0) ?_
  by_cases hlt:s1.num y<s1.num x
  ·have c3:decide (((s1.num y:Nat):Int)<((s1.num x:Nat):Int))=true:=aM om
   refine ai (au (by simp only[am,aH,simprocAttr,e0,ex,rn5,ix,iy,aP,ry5,rx5,c3]<;>rfl) ?_)
   refine cE (Z0) ?_
   obtain⟨v',h6,h7,q1,q2,q3,q4,R7⟩:=R5.push t i om
   refine ai (au (M6 e0 rst5 q1 q2 q3 q4) ?_)
   have rl7:ak h7 sp 4 1=some [.sl lb 0 n n]:=br R7.cell rfl
   have rn7:ak h7 sp 3 1=some [.sl nb 0 n n]:=br R7.cell rfl
   have rx7:ak h7 lb x 1=some [.int .i64 (s1.low x:Nat)]:=br R7.gl (kU hx)
   have ry7:ak h7 nb y 1=some [.int .i64 (s1.num y:Nat)]:=br R7.gn (kU hy)
   obtain⟨h8,w8,R8⟩:=R7.setLow t hx (min (s1.low x) (s1.num y))
   refine au (by simp only[am,aH,simprocAttr,e0,ex,rl7,rn7,ix,iy,aP,rx7,ry7,mnn,w8]<;>rfl) ?_
   refine⟨(),goal (s':={ s1 with stk:=s1.stk++[i],low:=upd s1.low x (min (s1.low x) (s1.num y))}) ?_ R8,by simp only[hl,am,aH,simprocAttr,ei,en,e0,ex,eb',e42]⟩
   rw[hsN]; unfold edgeS; rw[if_neg hb,hyd,if_neg hy0,if_pos hlt]
  ·have c3:decide (((s1.num y:Nat):Int)<((s1.num x:Nat):Int))=false:=aK om
   refine ai (au (by simp only[am,aH,simprocAttr,e0,ex,rn5,ix,iy,aP,ry5,rx5,c3]<;>rfl) ?_)
   refine dn (Z0) (bH ?_)
   refine⟨(),goal ?_ R5,by simp only[hl,am,aH,simprocAttr,ei,en,e0,ex,eb',e42]⟩
   rw[hsN]; unfold edgeS; rw[if_neg hb,hyd,if_neg hy0,if_neg hlt]
 ·rintro _ ts h4 ⟨stv,blv,bs,new,cs,R,m⟩ _
  rw[dI] at R
  refine⟨.tup [],rfl,stv,blv,bs,?_⟩
  show Ser h0 h4 sp eb nb lb n ev ((dG E x).foldl (edgeS (grE n E hE hL) dR (λy i s=>visit (grE n E hE hL) (dG E) dR f y (some i) s) x by_) (enter x s)) stv blv bs
  rw[hL']
  exact R
end Go.Proofs.Ytpeemonpdlifbaa
namespace Go.Blk
variable {g:Gr}
theorem qQ:∀ {l m:List Nat},l.Pairwise (·<·)→m.Pairwise (·<·)→(∀ x,x∈l↔x∈m)→l=m
 | [],[],_,_,_=>rfl
 | [],y::m,_,_,h=>by have:=(h y).2 (bA ..); cases this
 | x::l,[],_,_,h=>by have:=(h x).1 (bA ..); cases this
 | x::l,y::m,h1,h2,h=>by
   obtain⟨a1,a2⟩:=dC.1 h1
   obtain⟨b1,b2⟩:=dC.1 h2
   have e:x=y:=by
    have hx:=(h x).1 (bA ..)
    have hy:=(h y).2 (bA ..)
    rcases aw.1 hx with q|q
    ·exact q
    ·rcases aw.1 hy with p|p
     ·exact p.symm
     ·have:=a1 y p; have:=b1 x q; omega
   subst e
   rw[qQ a2 b2 λz=>?_]
   have hz:=h z
   rw[aw,aw] at hz
   constructor
   ·intro q
    rcases hz.1 (.inr q) with p|p
    ·have:=a1 z q; omega
    ·exact p
   ·intro q
    rcases hz.2 (.inr q) with p|p
    ·have:=b1 z q; omega
    ·exact p
theorem qS (n:Nat) (p:Nat→Bool):((List.range n).filter p).Pairwise (·<·):=List.pairwise_lt_range.filter _
theorem vY {bs cs:List (List Nat)} (nd:bs.flatten.Nodup) (hb:∀ b∈bs,IsBlock g b) (part:∀ i,i<g.m↔∃ b∈bs,i∈b) (hs:∀ b∈bs,b.Pairwise (·<·)) {l:Nat→Nat} (hl:Lst g l) (hp:cs.Perm bs)
 (ho:cs.Pairwise λa b=>a.headD 0≤b.headD 0):cs=canon g.m l:=by
 have nd':cs.flatten.Nodup:=(hp.flatten.nodup_iff).2 nd
 have hm:∀ b,b∈cs↔b∈bs:=λb=>hp.mem_iff
 have one:∀ b∈cs,b.headD 0∈b∧b.headD 0<g.m∧l (b.headD 0)=b.headD 0∧b=(List.range g.m).filter λk=>l k==b.headD 0:=by
  intro b hbc
  have hbk:=hb b ((hm b).1 hbc)
  have hsr:=hs b ((hm b).1 hbc)
  obtain⟨a,r,rfl⟩:∃ a r,b=a::r:=by
   cases b with
   | nil=>exact absurd rfl hbk.1
   | cons a r=>exact⟨a,r,rfl⟩
  have hlt:∀ k∈a::r,k<g.m:=λk hk=>(part k).2 ⟨_,(hm _).1 hbc,hk⟩
  have ha:=bA (a:=a) (l:=r)
  have hle:∀ k∈a::r,a≤k:=λk hk=>by
   rcases aw.1 hk with rfl|hk
   ·exact ab _
   ·exact Nat.le_of_lt ((dC.1 hsr).1 k hk)
  have hla:l a=a:=by
   have h1:=hl.le a (hlt a ha)
   have h2:=hle _ (hbk.cls ha (hl.cls a (hlt a ha)))
   omega
  refine⟨ha,hlt a ha,hla,?_⟩
  refine qQ hsr (qS _ _) λk=>?_
  rw[aY,aE,beq_iff_eq]
  show k∈a::r↔k<g.m∧l k=a
  constructor
  ·intro hk
   refine⟨hlt k hk,?_⟩
   rw[← hla]
   exact ((hl.iff (hlt k hk) (hlt a ha)).2 (hbk.2.1 k hk a ha))
  ·rintro⟨h1,h2⟩
   have:Cls g a k:=(hl.iff (hlt a ha) h1).1 (by rw[hla,h2])
   exact hbk.cls ha this
 have heads:(cs.map (·.headD 0))=(List.range g.m).filter λi=>l i==i:=by
  refine qQ ?_ (qS _ _) λx=>?_
  ·rw[dx]
   have hd:cs.Pairwise λa b=>a.headD 0≠b.headD 0:=by
    have key:∀ (cs:List (List Nat)),cs.flatten.Nodup→(∀ b∈cs,b.headD 0∈b)→cs.Pairwise λa b=>a.headD 0≠b.headD 0:=by
     intro cs
     induction cs with
     | nil=>intro _ _; exact List.Pairwise.nil
     | cons b cs ih =>
       intro hn hh
       rw[gf,aS] at hn
       refine dC.2 ⟨λc hc e=>?_,ih hn.2.1 λb hb=>hh b (bt _ hb)⟩
       exact hn.2.2 _ (hh b (bA ..)) _ (dJ.2 ⟨c,hc,hh c (bt _ hc)⟩) e
    exact key cs nd' λb hb=>(one b hb).1
   exact (ho.and hd).imp λh=>by omega
  ·rw[bC,aY,aE,beq_iff_eq]
   constructor
   ·rintro⟨b,hb1,rfl⟩
    exact⟨(one b hb1).2.1,(one b hb1).2.2.1⟩
   ·rintro⟨h1,h2⟩
    obtain⟨b,q1,q2⟩:=(part x).1 h1
    have hbc:=(hm b).2 q1
    obtain⟨a1,a2,a3,a4⟩:=one b hbc
    rw[a4,aY,beq_iff_eq] at q2
    exact⟨b,hbc,by rw[← q2.2,h2]⟩
 unfold canon
 rw[← heads,kK]
 conv=>lhs; rw[← GH cs]
 exact df λb hb=>(one b hb).2.2.2
variable {g:Gr}{ends:Nat→List Nat}{sort:List Nat→List Nat}
def Srd (sort:List Nat→List Nat) (s:DS):Prop:=∀ b∈s.blk,∃ l,b=sort l
theorem DM {vis:Nat→Nat→DS→DS}{x:Nat}{by_:Option Nat}{i:Nat} (hv:∀ (y i:Nat) (s:DS),Srd sort s→Srd sort (vis y i s)) (s:DS) (hs:Srd sort s):Srd sort (edgeS g sort vis x by_ s i):=by
 unfold edgeS
 split
 ·exact hs
 ·split
  ·have h2:=hv (g.oth i x) i { s with stk:=s.stk++[i]} hs
   generalize vis (g.oth i x) i { s with stk:=s.stk++[i]}=s2 at *
   simp only
   split
   ·intro b hb
    have hb:b∈s2.blk++[sort (s2.stk.drop (s2.stk.idxOf i))]:=hb
    rcases ar.1 hb with hb|hb
    ·exact h2 b hb
    ·exact⟨_,by simpa using hb⟩
   ·exact h2
  ·split
   ·exact hs
   ·exact hs
theorem tq:∀ (f x:Nat) (by_:Option Nat) (s:DS),Srd sort s→Srd sort (visit g ends sort f x by_ s)
 | 0,_,_,_,h=>h
 | f+1,x,by_,s,h=>by
   have key:∀ (l:List Nat) (s:DS),Srd sort s→Srd sort (l.foldl (edgeS g sort (λy i s=>visit g ends sort f y (some i) s) x by_) s):=by
    intro l
    induction l with
    | nil=>exact λs h=>h
    | cons i l ih=>exact λs h=>ih _ (DM (λy i s h=>tq f y (some i) s h) s h)
   exact key (ends x) (enter x s) h
theorem Ak {f:Nat}:∀ k,Srd sort ((List.range k).foldl (from1 g ends sort f) start)
 | 0=>λb hb=>by cases hb
 | k+1=>by
   rw[bW,fI]
   have h:=Ak (f:=f) k
   show Srd sort (from1 g ends sort f ((List.range k).foldl (from1 g ends sort f) start) k)
   unfold from1
   split
   ·exact tq f k none _ h
   ·exact h
theorem Btw.pre {s:DS} (b:Btw g s) {x:Nat} (hx:x<g.n) (h:s.num x=0):Pre g [] x none s :=
 ⟨hx,h,λa ha=>(by cases ha),λv hv _=>b.black v hv,b.le,b.inj,λz _ a ha=>(by cases ha),λc hc=>(by cases hc),λ_=>rfl,λj hj=>by rw[b.stk] at hj; cases hj⟩
theorem pot_start {m:Nat} (h:∀ x,x<g.n→(ends x).length≤m):pot g ends start≤g.n*(1+2*m):=by
 have key:∀ (l:List Nat),(∀ v∈l,v<g.n)→(l.map λv=>if start.num v=0 then 1+2*(ends v).length else 0).sum≤l.length*(1+2*m):=by
  intro l
  induction l with
  | nil=>intro _; simp
  | cons a l ih =>
    intro hl
    have h1:=ih λv hv=>hl v (bt _ hv)
    have h2:=h a (hl a (bA ..))
    have h3:start.num a=0:=rfl
    rw[bE,jD,if_pos h3,aB,da,mh]
    omega
 have:=key (List.range g.n) λv hv=>aE.1 hv
 rw[bV] at this
 unfold pot wt
 show 0+0+0+_≤_
 omega
theorem btw_all (hends:∀ x,x<g.n→(ends x).Nodup∧∀ i,i∈ends x↔g.inc i x) (hsort:∀ l,(sort l).Perm l):∀ k,k≤g.n→Btw g ((List.range k).foldl (from1 g ends sort g.n) start)∧unm g ((List.range k).foldl (from1 g ends sort g.n) start)≤g.n ∧
 pot g ends ((List.range k).foldl (from1 g ends sort g.n) start)≤pot g ends start
 | 0,_=>⟨uH,wI,ab _⟩
 | k+1,hk=>by
   obtain⟨h1,h2,h3⟩:=btw_all hends hsort k om
   rw[bW,fI]
   obtain⟨a,_,_,d⟩:=ym hends hsort h1 (show k<g.n by omega) h2
   refine⟨a,d,?_⟩
   show pot g ends (from1 g ends sort g.n ((List.range k).foldl (from1 g ends sort g.n) start) k)≤_
   unfold from1
   split
   ·rename_i h0
    exact cM (pot_visit (λx hx i hi=>((hends x hx).2 i).1 hi) g.n k none _ om h0).2 h3
   ·exact h3
theorem run_canon (hends:∀ x,x<g.n→(ends x).Nodup∧∀ i,i∈ends x↔g.inc i x) (hsort:∀ l,(sort l).Perm l) (hle:∀ l,(sort l).Pairwise (·≤·)) {l:Nat→Nat} (hl:Lst g l) {cs:List (List Nat)} (hp:cs.Perm (runB g ends sort g.n).blk) (ho:cs.Pairwise λa b=>a.headD 0≤b.headD 0):cs=canon g.m l:=by
 obtain⟨nd,hb,part⟩:=runB_ok hends hsort (ab g.n)
 refine vY nd hb part (λb hbm=>?_) hl hp ho
 obtain⟨l',e⟩:=Ak (g:=g) (ends:=ends) (sort:=sort) (f:=g.n) g.n b hbm
 have h1:b.Pairwise (·≤·):=by rw[e]; exact hle l'
 have h2:b.Nodup:=nd.sublist (List.sublist_flatten_of_mem hbm)
 exact (h1.and h2).imp λh=>by omega
theorem Fc {P:Nat→Prop}:∀ n,P n→∃ k,P k∧∀ j,P j→k≤j:=by
 intro n
 induction n using Nat.strongRecOn with
 | _ n ih =>
   intro hn
   by_cases h:∃ j,j<n∧P j
   ·obtain⟨j,h1,h2⟩:=h
    exact ih j h1 h2
   ·exact⟨n,hn,λj hj=>Decidable.byContradiction λhc=>h ⟨j,om,hj⟩⟩
theorem lst_ex (g:Gr):∃ l,Lst g l:=by
 have h:∀ i,∃ k,Cls g i k∧∀ j,Cls g i j→k≤j:=λi=>Fc i .refl
 obtain⟨l,hl⟩:=Classical.axiomOfChoice h
 refine⟨l,λi _=>(hl i).1,λi _=>(hl i).2 i .refl,λi k _ _ r=>?_⟩
 have hc:=Cls.one r
 have h1:=(hl i).2 (l k) (hc.trans (hl k).1)
 have h2:=(hl k).2 (l i) (hc.symm.trans (hl i).1)
 omega
end Go.Blk
namespace Go.Proofs.Ytpeemonpdlifbaa
open Go.Am
theorem FV {h:AH}{b n c:Nat}{vs:List AV}{kf:Nat→Int} (hg:h.get b=some (.cells vs 1 false)) (hl:vs.length=n) (h0:0<n) (hn:n<2 ^ 62) (hr:∀ i v,vs[i]?=some v→pE h b (kf i) v) :
 C prg 34 [.sl b 0 n c,.fn 35 []] h λ_ h'=>∃ is:List Nat,is.Perm (List.range n)∧is.Pairwise (λi j=>kf i≤kf j)∧Mod h.next h h' b (.cells (is.map λi=>vs.getD i .un) 1 false):=by
 have hrd:ak h b 0 n=some vs:=by
  rw[aW hg,if_pos om,bI,dg om]
 refine BS.srf ps34 hrd h0 hn hr λis hp hs=>?_
 have hil:(is.map λi=>vs.getD i .un).length=n:=by rw[ae,hp.length_eq,bV]
 refine⟨_,?_,_,_,rfl,is,hp,hs,(KJ hg).mod⟩
 rw[fz hg,if_pos om]
 simp only[dL,eD,bp,bS]
 rw[dP om,cX]
theorem yQ {α:Type}{d:α} (l:List α):((List.range l.length).map λi=>l.getD i d)=l:=by
 refine eC λj=>?_
 rw[aF]
 by_cases hj:j<l.length
 ·rw[fq hj,ah hj]
  simp only[aG]
  rw[aA,ah hj]
  rfl
 ·rw[cn (by rw[bV]; omega),cn om]
  rfl
end Go.Proofs.Ytpeemonpdlifbaa
