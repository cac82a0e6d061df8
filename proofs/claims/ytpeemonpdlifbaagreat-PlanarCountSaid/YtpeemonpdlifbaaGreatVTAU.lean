/- block's search -/
import Derived.Test.YtpeemonpdlifbaaGreatVTAT
import Derived.Test.YtpeemonpdlifbaaGreatVTAF
import Derived.Test.YtpeemonpdlifbaaGreatVTAS
import Derived.Test.YtpeemonpdlifbaaGreatVTAE
set_option linter.all false
namespace Go.Proofs.YtpeemonpdlifbaaGreat
open Go.Am
open Go.Blk (Gr DS upd visit edgeS enter Pre Mid pot unm)
theorem mnn {k:IntKind}{a b:Nat}:mI mnA [.int k (a:Nat),.int k (b:Nat)]=some (.int k ((min a b:Nat):Int)):=by
 have:mI mnA [.int k ((a:Nat):Int),.int k ((b:Nat):Int)]=some (.int k (if ((b:Nat):Int)<((a:Nat):Int) then ((b:Nat):Int) else ((a:Nat):Int))):=by simp [mI,mnA]
 rw[this]
 congr 2
 split<;>omega
def vV (s:DS) (x y:Nat):DS:={ s with low:=upd s.low x (min (s.low x) (s.low y))}
def byI:Option Nat→Int
 | none=>-1
 | some b=>(b:Nat)
set_option maxHeartbeats 4000000 in
theorem DD {h0:AH}{sp eb nb lb n:Nat}{ev:AV}{E:List (Int×Int)} (t:Sta h0 sp eb nb lb n ev E) (hE:InG n E) (hL:∀ i,i<E.length→tlE E i≠hdE E i) (hn:n<2 ^ 30) (hxl:E.length<2 ^ 30) :
 ∀ (f:Nat) {h:AH}{an:List Nat}{x:Nat}{by_:Option Nat}{s:DS}{stv blv:AV}{bs:List AV},Pre (grE n E hE hL) an x by_ s→unm (grE n E hE hL) s≤f→pot (grE n E hE hL) (dB E) s≤2 ^ 30→Ser h0 h sp eb nb lb n ev s stv blv bs →
   C prg 24 [.ptr sp 0,.int .i64 (x:Nat),.int .i64 (byI by_)] h λ_ h'=>∃ stv' blv' bs',Ser h0 h' sp eb nb lb n ev (visit (grE n E hE hL) (dB E) dM f x by_ s) stv' blv' bs':=by
 intro f
 induction f with
 | zero =>
   intro h an x by_ s stv blv bs p hf _ _
   have:=Go.Blk.unm_pos p.hx p.x0
   omega
 | succ f ih =>
 intro h an x by_ s stv blv bs p hf hpot r
 have hends:=yu hE hL
 have hx:x<n:=p.hx
 obtain⟨l1,l2,l3⟩:=t.lt
 have hcnt:s.cnt≤2 ^ 30:=by unfold pot at hpot; omega
 refine LB pf24 ?_
 have r5:ar h sp 5 1=some [.int .i64 (s.cnt:Nat)]:=bq r.cell rfl
 have w1:=Aw (k:=s.cnt) om
 obtain⟨h1,a1,R1⟩:=r.setCnt t (s.cnt+1)
 refine aj (aB (Mi3 r5 w1 a1) ?_)
 have r3:ar h1 sp 3 1=some [.sl nb 0 n n]:=bq R1.cell rfl
 have r4:ar h1 sp 4 1=some [.sl lb 0 n n]:=bq R1.cell rfl
 have r51:ar h1 sp 5 1=some [.int .i64 (s.cnt+1:Nat)]:=bq R1.cell rfl
 have ix:fU ((x:Nat):Int) n=some x:=dU hx
 obtain⟨h2,a2,R2⟩:=R1.setNum t hx (s.cnt+1)
 obtain⟨h3,a3,R3⟩:=R2.setLow t hx (s.cnt+1)
 refine aj (aB (Mi7 r3 r4 r51 ix @aO a2 a3) ?_)
 have R3:Ser h0 h3 sp eb nb lb n ev (enter x s) stv blv bs:=R3
 clear a1 a2 a3 R1 R2 r3 r4 r5 r51
 obtain⟨rv,e1,e2,e3o,e4⟩:=t.row R3.kp hx
 have r2:ar h3 sp 2 1=some [.sl eb 0 n n]:=bq R3.cell rfl
 have el:=e2.len
 rw[ak,jm] at el
 refine aj (aB (Mi5 r2 ix @aO e1 el) ?_)
 have hm0:=Go.Blk.mid0 p
 have hpe:=Go.Blk.pot_enter (ends:=dB E) p.hx p.x0
 have hin:∀ i∈dB E x,(grE n E hE hL).inc i x:=λi hi=>(hends x p.hx).2 i |>.1 hi
 have hnd:=(hends x p.hx).1
 have hvis:∀ (y i:Nat) (s:DS),y<(grE n E hE hL).n→s.num y=0→(∀ v,s.num v≠0→(visit (grE n E hE hL) (dB E) dM f y (some i) s).num v≠0)∧pot (grE n E hE hL) (dB E) (visit (grE n E hE hL) (dB E) dM f y (some i) s)≤pot (grE n E hE hL) (dB E) s :=
  λy i s hy hs=>Go.Blk.pot_visit (λx hx i hi=>(hends x hx).2 i |>.1 hi) f y (some i) s hy hs
 have hel:(dB E x).length<2 ^ 40:=by unfold pot at hpe hpot; omega
 show W prg _ _ _ _ (λts h=>∃ v,_∧∃ stv' blv' bs',Ser h0 h sp eb nb lb n ev ((dB E x).foldl (edgeS (grE n E hE hL) dM (λy i s=>visit (grE n E hE hL) (dB E) dM f y (some i) s) x by_) (enter x s)) stv' blv' bs') _
 generalize hL':dB E x=l at *
 refine fB (α:=Unit) (N:=l.length) (λ_ _=>[(0,.ptr sp 0),(1,.int .i64 (x:Nat)),(2,.int .i64 (byI by_)),(42,rv)])
  (λk _ h'=>∃ (stv:AV) (blv:AV) (bs:List AV) (new:List Nat) (cs:List (List Nat)),Ser h0 h' sp eb nb lb n ev ((l.take k).foldl (edgeS (grE n E hE hL) dM (λy i s=>visit (grE n E hE hL) (dB E) dM f y (some i) s) x by_) (enter x s)) stv blv bs ∧
   Mid (grE n E hE hL) x by_ s (l.take k) ((l.take k).foldl (edgeS (grE n E hE hL) dM (λy i s=>visit (grE n E hE hL) (dB E) dM f y (some i) s) x by_) (enter x s)) new cs) () (λ_ _=>rfl) om (Hi0)
  ⟨stv,blv,bs,[],[],R3,hm0⟩ ?_ ?_
 ·clear R3 r2 e1 e2 el
  rintro k _ ts h4 hk ⟨stv,blv,bs,new,cs,R,m⟩ ⟨ei,en,e0,ex,eb',e42,-⟩
  simp only at ei en e0 ex eb' e42
  have hii:(grE n E hE hL).inc l[k] x:=hin _ (aR hk)
  have hiL:l[k]∉l.take k:=λhm=>by
   have hnd':=hnd
   rw[← cD k l,aN] at hnd'
   exact hnd'.2.2 _ hm _ (by rw[bX hk]; exact bB ..) rfl
  obtain⟨new',cs',m'⟩:=Go.Blk.mid_step hends jL p hf m hii hiL
  have hpk:=(Go.Blk.pot_fold (sort:=dM) (by_:=by_) hvis (l.take k) (enter x s) λi hi=>hin i (wQ hi)).2
  have hsucc:(l.take (k+1)).foldl (edgeS (grE n E hE hL) dM (λy i s=>visit (grE n E hE hL) (dB E) dM f y (some i) s) x by_) (enter x s)=edgeS (grE n E hE hL) dM (λy i s=>visit (grE n E hE hL) (dB E) dM f y (some i) s) x by_ ((l.take k).foldl (edgeS (grE n E hE hL) dM (λy i s=>visit (grE n E hE hL) (dB E) dM f y (some i) s) x by_) (enter x s)) l[k]:=by
   rw[bV hk,cS]
   rfl
  rw[bS,dZ om] at hpk
  rw[bV hk]
  rw[bV hk] at hsucc
  rw[hsucc]
  clear hsucc
  obtain⟨sN,hsN⟩:∃ sN,sN=edgeS (grE n E hE hL) dM (λy i s=>visit (grE n E hE hL) (dB E) dM f y (some i) s) x by_ ((l.take k).foldl (edgeS (grE n E hE hL) dM (λy i s=>visit (grE n E hE hL) (dB E) dM f y (some i) s) x by_) (enter x s)) l[k]:=⟨_,rfl⟩
  rw[← hsN] at m' ⊢
  generalize (l.take k).foldl (edgeS (grE n E hE hL) dM (λy i s=>visit (grE n E hE hL) (dB E) dM f y (some i) s) x by_) (enter x s)=s1 at *
  have hpot1:pot (grE n E hE hL) (dB E) s1+2≤2 ^ 30:=om
  have hstk1:s1.stk.length≤2 ^ 30:=by unfold pot at hpot1; omega
  obtain⟨rv',e1,e2,_,_⟩:=t.row R.kp hx
  have e2:SlI h4 rv (nI l):=e4.kp R.kp e3o
  obtain⟨b1,p1,ia1,ir1,_⟩:=e2.at1 (fE (f:=eI) (i:=k) (by rw[jm]; exact hk))
  rw[show (nI l)[k]'(by rw[jm]; exact hk)=((l[k]:Nat):Int) by simp [nI]] at ir1
  refine aj (aB (M4 ei e42 ia1 ir1) ?_)
  obtain⟨oi,one,oo⟩:=Go.Blk.inc_oth hii
  have hother:=DE t R hE hL om hii
  generalize hi:l[k]=i at *
  refine aj (bO (bt 3 (by simp only[am,aF,simprocAttr,e0,ex]<;>rfl) rfl (by simp only[am,aF,simprocAttr,e0,ex]) (by simp only[am,aF,simprocAttr,e0,ex]<;>rfl) (hother) λv h5 hq=>?_))
  obtain⟨rfl,x5⟩:=hq
  refine bI (M0) ?_
  have hy:(grE n E hE hL).oth i x<n:=Go.Blk.inc_lt oi
  have R5:Ser h0 h5 sp eb nb lb n ev s1 stv blv bs:=by
   have hnx:=R.kp.nx
   refine { kp:=R.kp.trans (x5.kp (ae _)) λ_ _ q=>q,cell:=by rw[x5.gt _ om]; exact R.cell,gn:=by rw[x5.gt _ om]; exact R.gn,gl:=by rw[x5.gt _ om]; exact R.gl,st:=R.st.cong λc _ ⟨o,m,kk,e⟩=>x5.gt _ (R.st.lt e).1,bl:=R.bl.ext x5 (ae _),rl:=R.rl,rw:=λj v l a b=>⟨(R.rw j v l a b).1.ext x5 (ae _),(R.rw j v l a b).2⟩,sb:=R.sb}
  clear hother e1 e2 ia1 ir1 R
  have hsp:Pre (grE n E hE hL) (x::an) ((grE n E hE hL).oth i x) (some i) { s1 with stk:=s1.stk++[i]}∨s1.num ((grE n E hE hL).oth i x)≠0:=by
   by_cases q:s1.num ((grE n E hE hL).oth i x)=0
   ·exact .inl (Go.Blk.sub_pre p m hii q)
   ·exact .inr q
  have hsu:=Go.Blk.sub_unm (i:=i) p m
  have hvg:=Go.Blk.visit_good hends jL f (x::an) ((grE n E hE hL).oth i x) (some i) { s1 with stk:=s1.stk++[i]}
  generalize hyd:(grE n E hE hL).oth i x=y at *
  have iy:fU ((y:Nat):Int) n=some y:=dU hy
  have goal:∀ {h':AH}{stv blv:AV}{bs:List AV}{s':DS},sN=s'→Ser h0 h' sp eb nb lb n ev s' stv blv bs →
   ∃ (stv:AV) (blv:AV) (bs:List AV) (new:List Nat) (cs:List (List Nat)),Ser h0 h' sp eb nb lb n ev sN stv blv bs∧Mid (grE n E hE hL) x by_ s (l.take k++[i]) sN new cs :=
   fun {h' stv blv bs s'} e q=>⟨stv,blv,bs,new',cs',by rw[e]; exact q,m'⟩
  have rn5:ar h5 sp 3 1=some [.sl nb 0 n n]:=bq R5.cell rfl
  have ry5:ar h5 nb y 1=some [.int .i64 (s1.num y:Nat)]:=bq R5.gn (mH hy)
  have rx5:ar h5 nb x 1=some [.int .i64 (s1.num x:Nat)]:=bq R5.gn (mH hx)
  have rst5:ar h5 sp 6 1=some [stv]:=bq R5.cell rfl
  refine cL ?_
  by_cases hb:by_=some i
  ·have c1:decide (((i:Nat):Int)=byI by_)=true:=aL (by rw[hb]; rfl)
   refine aj (aB (M2 eb' c1) ?_)
   refine cX (Z0) (bK ?_)
   refine⟨(),goal ?_ R5,by simp only[hl,am,aF,simprocAttr,ei,en,e0,ex,eb',e42]⟩
   rw[hsN]; unfold edgeS; rw[if_pos hb]
  have c1:decide (((i:Nat):Int)=byI by_)=false:=aJ λe=>hb (by
   cases by_ with
   | none=>change ((i:Nat):Int)=-1 at e; omega
   | some b=>change ((i:Nat):Int)=((b:Nat):Int) at e; congr 1; omega)
  refine aj (aB (M2 eb' c1) ?_)
  refine dL (Z0) ?_
  by_cases hy0:s1.num y=0
  ·have c2:decide (((s1.num y:Nat):Int)=0)=true:=aL om
   refine aj (aB (M6 e0 rn5 iy @aO ry5 c2) ?_)
   refine cX (Z0) ?_
   obtain⟨v',h6,h7,q1,q2,q3,q4,R7⟩:=R5.push t i om
   refine aj (aB (M6 e0 rst5 q1 q2 q3 q4) ?_)
   have hpre:Pre (grE n E hE hL) (x::an) y (some i) { s1 with stk:=s1.stk++[i]}:=hsp.resolve_right (λq=>q hy0)
   have hpp:pot (grE n E hE hL) (dB E) { s1 with stk:=s1.stk++[i]}≤2 ^ 30:=by rw[Go.Blk.pot_push]; omega
   have hcall:=ih hpre om hpp R7
   obtain⟨new2,bs2,post⟩:=hvg hpre om
   have hp2:=(hvis y i { s1 with stk:=s1.stk++[i]} hy hy0).2
   have ed:sN=if (vV (visit (grE n E hE hL) (dB E) dM f y (some i) { s1 with stk:=s1.stk++[i]}) x y).num x≤(vV (visit (grE n E hE hL) (dB E) dM f y (some i) { s1 with stk:=s1.stk++[i]}) x y).low y then (vV (visit (grE n E hE hL) (dB E) dM f y (some i) { s1 with stk:=s1.stk++[i]}) x y).close dM i else vV (visit (grE n E hE hL) (dB E) dM f y (some i) { s1 with stk:=s1.stk++[i]}) x y:=by
    rw[hsN]
    unfold edgeS
    rw[if_neg hb,hyd,if_pos hy0]
    rfl
   clear hsN hsp hvg
   refine aj (bO (bt 3 (by simp only[am,aF,simprocAttr,e0,byI]<;>rfl) rfl (by simp only[am,aF,simprocAttr,e0,byI]) (by simp only[am,aF,simprocAttr,e0,byI]<;>rfl) (hcall) λv h8 hq=>?_))
   obtain⟨stv2,blv2,bs2',R8⟩:=hq
   have hist:i∈(visit (grE n E hE hL) (dB E) dM f y (some i) { s1 with stk:=s1.stk++[i]}).stk:=by rw[post.stk]; simp
   generalize visit (grE n E hE hL) (dB E) dM f y (some i) { s1 with stk:=s1.stk++[i]}=s2 at *
   refine bI (M0) ?_
   have rl8:ar h8 sp 4 1=some [.sl lb 0 n n]:=bq R8.cell rfl
   have rx8:ar h8 lb x 1=some [.int .i64 (s2.low x:Nat)]:=bq R8.gl (mH hx)
   have ry8:ar h8 lb y 1=some [.int .i64 (s2.low y:Nat)]:=bq R8.gl (mH hy)
   obtain⟨h9,w9,R9⟩:=R8.setLow t hx (min (s2.low x) (s2.low y))
   refine aj (aB (by simp only[am,aF,simprocAttr,e0,ex,rl8,ix,iy,aO,rx8,ry8,mnn,w9]<;>rfl) ?_)
   have hp3:pot (grE n E hE hL) (dB E) (vV s2 x y)≤2 ^ 30:=by
    have e:pot (grE n E hE hL) (dB E) (vV s2 x y)=pot (grE n E hE hL) (dB E) s2:=rfl
    rw[e]; omega
   have hist3:i∈(vV s2 x y).stk:=hist
   have R9:Ser h0 h9 sp eb nb lb n ev (vV s2 x y) stv2 blv2 bs2':=R9
   generalize vV s2 x y=s3 at *
   have rl9:ar h9 sp 4 1=some [.sl lb 0 n n]:=bq R9.cell rfl
   have rn9:ar h9 sp 3 1=some [.sl nb 0 n n]:=bq R9.cell rfl
   have ry9:ar h9 lb y 1=some [.int .i64 (s3.low y:Nat)]:=bq R9.gl (mH hy)
   have rx9:ar h9 nb x 1=some [.int .i64 (s3.num x:Nat)]:=bq R9.gn (mH hx)
   by_cases hc:s3.num x≤s3.low y
   ·have c3:decide (((s3.num x:Nat):Int)≤((s3.low y:Nat):Int))=true:=aL om
    refine aj (aB (by simp only[am,aF,simprocAttr,e0,ex,rl9,rn9,ix,iy,aO,rx9,ry9,c3]<;>rfl) ?_)
    refine cX (Z0) ?_
    have hcl:=DH t R9 hist3 (by unfold pot at hp3; omega) (by unfold pot at hp3; omega)
    refine bO (bt 2 (M1 e0) rfl (Z1 e0) (M1 e0) (hcl) λv h10 hq=>?_)
    obtain⟨stv3,blv3,bs3,R10⟩:=hq
    refine bI (M0) ?_
    refine⟨(),goal (by rw[ed,if_pos hc]) R10,by simp only[hl,am,aF,simprocAttr,ei,en,e0,ex,eb',e42]⟩
   ·have c3:decide (((s3.num x:Nat):Int)≤((s3.low y:Nat):Int))=false:=aJ om
    refine aj (aB (by simp only[am,aF,simprocAttr,e0,ex,rl9,rn9,ix,iy,aO,rx9,ry9,c3]<;>rfl) ?_)
    refine dL (Z0) (bK ?_)
    refine⟨(),goal (by rw[ed,if_neg hc]) R9,by simp only[hl,am,aF,simprocAttr,ei,en,e0,ex,eb',e42]⟩
  have c2:decide (((s1.num y:Nat):Int)=0)=false:=aJ om
  refine aj (aB (M6 e0 rn5 iy @aO ry5 c2) ?_)
  refine dL (Z0) ?_
  by_cases hlt:s1.num y<s1.num x
  ·have c3:decide (((s1.num y:Nat):Int)<((s1.num x:Nat):Int))=true:=aL om
   refine aj (aB (by simp only[am,aF,simprocAttr,e0,ex,rn5,ix,iy,aO,ry5,rx5,c3]<;>rfl) ?_)
   refine cX (Z0) ?_
   obtain⟨v',h6,h7,q1,q2,q3,q4,R7⟩:=R5.push t i om
   refine aj (aB (M6 e0 rst5 q1 q2 q3 q4) ?_)
   have rl7:ar h7 sp 4 1=some [.sl lb 0 n n]:=bq R7.cell rfl
   have rn7:ar h7 sp 3 1=some [.sl nb 0 n n]:=bq R7.cell rfl
   have rx7:ar h7 lb x 1=some [.int .i64 (s1.low x:Nat)]:=bq R7.gl (mH hx)
   have ry7:ar h7 nb y 1=some [.int .i64 (s1.num y:Nat)]:=bq R7.gn (mH hy)
   obtain⟨h8,w8,R8⟩:=R7.setLow t hx (min (s1.low x) (s1.num y))
   refine aB (by simp only[am,aF,simprocAttr,e0,ex,rl7,rn7,ix,iy,aO,rx7,ry7,mnn,w8]<;>rfl) ?_
   refine⟨(),goal (s':={ s1 with stk:=s1.stk++[i],low:=upd s1.low x (min (s1.low x) (s1.num y))}) ?_ R8,by simp only[hl,am,aF,simprocAttr,ei,en,e0,ex,eb',e42]⟩
   rw[hsN]; unfold edgeS; rw[if_neg hb,hyd,if_neg hy0,if_pos hlt]
  ·have c3:decide (((s1.num y:Nat):Int)<((s1.num x:Nat):Int))=false:=aJ om
   refine aj (aB (by simp only[am,aF,simprocAttr,e0,ex,rn5,ix,iy,aO,ry5,rx5,c3]<;>rfl) ?_)
   refine dL (Z0) (bK ?_)
   refine⟨(),goal ?_ R5,by simp only[hl,am,aF,simprocAttr,ei,en,e0,ex,eb',e42]⟩
   rw[hsN]; unfold edgeS; rw[if_neg hb,hyd,if_neg hy0,if_neg hlt]
 ·rintro _ ts h4 ⟨stv,blv,bs,new,cs,R,m⟩ _
  rw[dF] at R
  refine⟨.tup [],rfl,stv,blv,bs,?_⟩
  show Ser h0 h4 sp eb nb lb n ev ((dB E x).foldl (edgeS (grE n E hE hL) dM (λy i s=>visit (grE n E hE hL) (dB E) dM f y (some i) s) x by_) (enter x s)) stv blv bs
  rw[hL']
  exact R
end Go.Proofs.YtpeemonpdlifbaaGreat
namespace Go.Blk
variable {g:Gr}
theorem rB:∀ {l m:List Nat},l.Pairwise (·<·)→m.Pairwise (·<·)→(∀ x,x∈l↔x∈m)→l=m
 | [],[],_,_,_=>rfl
 | [],y::m,_,_,h=>by have:=(h y).2 (bB ..); cases this
 | x::l,[],_,_,h=>by have:=(h x).1 (bB ..); cases this
 | x::l,y::m,h1,h2,h=>by
   obtain⟨a1,a2⟩:=dx.1 h1
   obtain⟨b1,b2⟩:=dx.1 h2
   have e:x=y:=by
    have hx:=(h x).1 (bB ..)
    have hy:=(h y).2 (bB ..)
    rcases au.1 hx with q|q
    ·exact q
    ·rcases au.1 hy with p|p
     ·exact p.symm
     ·have:=a1 y p; have:=b1 x q; omega
   subst e
   rw[rB a2 b2 λz=>?_]
   have hz:=h z
   rw[au,au] at hz
   constructor
   ·intro q
    rcases hz.1 (.inr q) with p|p
    ·have:=a1 z q; omega
    ·exact p
   ·intro q
    rcases hz.2 (.inr q) with p|p
    ·have:=b1 z q; omega
    ·exact p
theorem rH (n:Nat) (p:Nat→Bool):((List.range n).filter p).Pairwise (·<·):=List.pairwise_lt_range.filter _
theorem wF {bs cs:List (List Nat)} (nd:bs.flatten.Nodup) (hb:∀ b∈bs,IsBlock g b) (part:∀ i,i<g.m↔∃ b∈bs,i∈b) (hs:∀ b∈bs,b.Pairwise (·<·)) {l:Nat→Nat} (hl:Lst g l) (hp:cs.Perm bs)
 (ho:cs.Pairwise λa b=>a.headD 0≤b.headD 0):cs=canon g.m l:=by
 have nd':cs.flatten.Nodup:=(hp.flatten.nodup_iff).2 nd
 have hm:∀ b,b∈cs↔b∈bs:=λb=>hp.mem_iff
 have one:∀ b∈cs,b.headD 0∈b∧b.headD 0<g.m∧l (b.headD 0)=b.headD 0∧b=(List.range g.m).filter λk=>l k==b.headD 0:=by
  intro b hbc
  have hbk:=hb b ((hm b).1 hbc)
  have hsr:=hs b ((hm b).1 hbc)
  obtain⟨a,r,rfl⟩:∃ a r,b=a::r:=by
   cases b with
   | nil=>exact absurd rfl hbk.1
   | cons a r=>exact⟨a,r,rfl⟩
  have hlt:∀ k∈a::r,k<g.m:=λk hk=>(part k).2 ⟨_,(hm _).1 hbc,hk⟩
  have ha:=bB (a:=a) (l:=r)
  have hle:∀ k∈a::r,a≤k:=λk hk=>by
   rcases au.1 hk with rfl|hk
   ·exact ae _
   ·exact Nat.le_of_lt ((dx.1 hsr).1 k hk)
  have hla:l a=a:=by
   have h1:=hl.le a (hlt a ha)
   have h2:=hle _ (hbk.cls ha (hl.cls a (hlt a ha)))
   omega
  refine⟨ha,hlt a ha,hla,?_⟩
  refine rB hsr (rH _ _) λk=>?_
  rw[aS,ao,beq_iff_eq]
  show k∈a::r↔k<g.m∧l k=a
  constructor
  ·intro hk
   refine⟨hlt k hk,?_⟩
   rw[← hla]
   exact ((hl.iff (hlt k hk) (hlt a ha)).2 (hbk.2.1 k hk a ha))
  ·rintro⟨h1,h2⟩
   have:Cls g a k:=(hl.iff (hlt a ha) h1).1 (by rw[hla,h2])
   exact hbk.cls ha this
 have heads:(cs.map (·.headD 0))=(List.range g.m).filter λi=>l i==i:=by
  refine rB ?_ (rH _ _) λx=>?_
  ·rw[di]
   have hd:cs.Pairwise λa b=>a.headD 0≠b.headD 0:=by
    have key:∀ (cs:List (List Nat)),cs.flatten.Nodup→(∀ b∈cs,b.headD 0∈b)→cs.Pairwise λa b=>a.headD 0≠b.headD 0:=by
     intro cs
     induction cs with
     | nil=>intro _ _; exact List.Pairwise.nil
     | cons b cs ih =>
       intro hn hh
       rw[eK,aN] at hn
       refine dx.2 ⟨λc hc e=>?_,ih hn.2.1 λb hb=>hh b (br _ hb)⟩
       exact hn.2.2 _ (hh b (bB ..)) _ (dQ.2 ⟨c,hc,hh c (br _ hc)⟩) e
    exact key cs nd' λb hb=>(one b hb).1
   exact (ho.and hd).imp λh=>by omega
  ·rw[bu,aS,ao,beq_iff_eq]
   constructor
   ·rintro⟨b,hb1,rfl⟩
    exact⟨(one b hb1).2.1,(one b hb1).2.2.1⟩
   ·rintro⟨h1,h2⟩
    obtain⟨b,q1,q2⟩:=(part x).1 h1
    have hbc:=(hm b).2 q1
    obtain⟨a1,a2,a3,a4⟩:=one b hbc
    rw[a4,aS,beq_iff_eq] at q2
    exact⟨b,hbc,by rw[← q2.2,h2]⟩
 unfold canon
 rw[← heads,nr]
 conv=>lhs; rw[← List.map_id cs]
 exact dC λb hb=>(one b hb).2.2.2
variable {g:Gr}{ends:Nat→List Nat}{sort:List Nat→List Nat}
def Srd (sort:List Nat→List Nat) (s:DS):Prop:=∀ b∈s.blk,∃ l,b=sort l
theorem Ei {vis:Nat→Nat→DS→DS}{x:Nat}{by_:Option Nat}{i:Nat} (hv:∀ (y i:Nat) (s:DS),Srd sort s→Srd sort (vis y i s)) (s:DS) (hs:Srd sort s):Srd sort (edgeS g sort vis x by_ s i):=by
 unfold edgeS
 split
 ·exact hs
 ·split
  ·have h2:=hv (g.oth i x) i { s with stk:=s.stk++[i]} hs
   generalize vis (g.oth i x) i { s with stk:=s.stk++[i]}=s2 at *
   simp only
   split
   ·intro b hb
    have hb:b∈s2.blk++[sort (s2.stk.drop (s2.stk.idxOf i))]:=hb
    rcases aC.1 hb with hb|hb
    ·exact h2 b hb
    ·exact⟨_,by simpa using hb⟩
   ·exact h2
  ·split
   ·exact hs
   ·exact hs
theorem tN:∀ (f x:Nat) (by_:Option Nat) (s:DS),Srd sort s→Srd sort (visit g ends sort f x by_ s)
 | 0,_,_,_,h=>h
 | f+1,x,by_,s,h=>by
   have key:∀ (l:List Nat) (s:DS),Srd sort s→Srd sort (l.foldl (edgeS g sort (λy i s=>visit g ends sort f y (some i) s) x by_) s):=by
    intro l
    induction l with
    | nil=>exact λs h=>h
    | cons i l ih=>exact λs h=>ih _ (Ei (λy i s h=>tN f y (some i) s h) s h)
   exact key (ends x) (enter x s) h
theorem AA {f:Nat}:∀ k,Srd sort ((List.range k).foldl (from1 g ends sort f) start)
 | 0=>λb hb=>by cases hb
 | k+1=>by
   rw[bD,cS]
   have h:=AA (f:=f) k
   show Srd sort (from1 g ends sort f ((List.range k).foldl (from1 g ends sort f) start) k)
   unfold from1
   split
   ·exact tN f k none _ h
   ·exact h
theorem Btw.pre {s:DS} (b:Btw g s) {x:Nat} (hx:x<g.n) (h:s.num x=0):Pre g [] x none s :=
 ⟨hx,h,λa ha=>(by cases ha),λv hv _=>b.black v hv,b.le,b.inj,λz _ a ha=>(by cases ha),λc hc=>(by cases hc),λ_=>rfl,λj hj=>by rw[b.stk] at hj; cases hj⟩
theorem pot_start {m:Nat} (h:∀ x,x<g.n→(ends x).length≤m):pot g ends start≤g.n*(1+2*m):=by
 have key:∀ (l:List Nat),(∀ v∈l,v<g.n)→(l.map λv=>if start.num v=0 then 1+2*(ends v).length else 0).sum≤l.length*(1+2*m):=by
  intro l
  induction l with
  | nil=>intro _; simp
  | cons a l ih =>
    intro hl
    have h1:=ih λv hv=>hl v (br _ hv)
    have h2:=h a (hl a (bB ..))
    have h3:start.num a=0:=rfl
    rw[bA,fO,if_pos h3,aw,dl,pg]
    omega
 have:=key (List.range g.n) λv hv=>ao.1 hv
 rw[bF] at this
 unfold pot wt
 show 0+0+0+_≤_
 omega
theorem btw_all (hends:∀ x,x<g.n→(ends x).Nodup∧∀ i,i∈ends x↔g.inc i x) (hsort:∀ l,(sort l).Perm l):∀ k,k≤g.n→Btw g ((List.range k).foldl (from1 g ends sort g.n) start)∧unm g ((List.range k).foldl (from1 g ends sort g.n) start)≤g.n ∧
 pot g ends ((List.range k).foldl (from1 g ends sort g.n) start)≤pot g ends start
 | 0,_=>⟨vg,wY,ae _⟩
 | k+1,hk=>by
   obtain⟨h1,h2,h3⟩:=btw_all hends hsort k om
   rw[bD,cS]
   obtain⟨a,_,_,d⟩:=yE hends hsort h1 (show k<g.n by omega) h2
   refine⟨a,d,?_⟩
   show pot g ends (from1 g ends sort g.n ((List.range k).foldl (from1 g ends sort g.n) start) k)≤_
   unfold from1
   split
   ·rename_i h0
    exact cN (pot_visit (λx hx i hi=>((hends x hx).2 i).1 hi) g.n k none _ om h0).2 h3
   ·exact h3
theorem run_canon (hends:∀ x,x<g.n→(ends x).Nodup∧∀ i,i∈ends x↔g.inc i x) (hsort:∀ l,(sort l).Perm l) (hle:∀ l,(sort l).Pairwise (·≤·)) {l:Nat→Nat} (hl:Lst g l) {cs:List (List Nat)} (hp:cs.Perm (runB g ends sort g.n).blk) (ho:cs.Pairwise λa b=>a.headD 0≤b.headD 0):cs=canon g.m l:=by
 obtain⟨nd,hb,part⟩:=runB_ok hends hsort (ae g.n)
 refine wF nd hb part (λb hbm=>?_) hl hp ho
 obtain⟨l',e⟩:=AA (g:=g) (ends:=ends) (sort:=sort) (f:=g.n) g.n b hbm
 have h1:b.Pairwise (·≤·):=by rw[e]; exact hle l'
 have h2:b.Nodup:=nd.sublist (List.sublist_flatten_of_mem hbm)
 exact (h1.and h2).imp λh=>by omega
theorem FF {P:Nat→Prop}:∀ n,P n→∃ k,P k∧∀ j,P j→k≤j:=by
 intro n
 induction n using Nat.strongRecOn with
 | _ n ih =>
   intro hn
   by_cases h:∃ j,j<n∧P j
   ·obtain⟨j,h1,h2⟩:=h
    exact ih j h1 h2
   ·exact⟨n,hn,λj hj=>Decidable.byContradiction λhc=>h ⟨j,om,hj⟩⟩
theorem lst_ex (g:Gr):∃ l,Lst g l:=by
 have h:∀ i,∃ k,Cls g i k∧∀ j,Cls g i j→k≤j:=λi=>FF i .refl
 obtain⟨l,hl⟩:=Classical.axiomOfChoice h
 refine⟨l,λi _=>(hl i).1,λi _=>(hl i).2 i .refl,λi k _ _ r=>?_⟩
 have hc:=Cls.one r
 have h1:=(hl i).2 (l k) (hc.trans (hl k).1)
 have h2:=(hl k).2 (l i) (hc.symm.trans (hl i).1)
 omega
end Go.Blk
namespace Go.Proofs.YtpeemonpdlifbaaGreat
open Go.Am
theorem Gw {h:AH}{b n c:Nat}{vs:List AV}{kf:Nat→Int} (hg:h.get b=some (.cells vs 1 false)) (hl:vs.length=n) (h0:0<n) (hn:n<2 ^ 62) (hr:∀ i v,vs[i]?=some v→pM h b (kf i) v) :
 C prg 25 [.sl b 0 n c,.fn 26 []] h λ_ h'=>∃ is:List Nat,is.Perm (List.range n)∧is.Pairwise (λi j=>kf i≤kf j)∧Mod h.next h h' b (.cells (is.map λi=>vs.getD i .un) 1 false):=by
 have hrd:ar h b 0 n=some vs:=by
  rw[bg hg,if_pos om,bJ,de om]
 refine BS.srf ps25 hrd h0 hn hr λis hp hs=>?_
 have hil:(is.map λi=>vs.getD i .un).length=n:=by rw[ak,hp.length_eq,bF]
 refine⟨_,?_,_,_,rfl,is,hp,hs,(LA hg).mod⟩
 rw[fy hg,if_pos om]
 simp only[dI,gO,bj,bM]
 rw[dm om,dG]
theorem zi {α:Type}{d:α} (l:List α):((List.range l.length).map λi=>l.getD i d)=l:=by
 refine et λj=>?_
 rw[aG]
 by_cases hj:j<l.length
 ·rw[fk hj,ah hj]
  simp only[aH]
  rw[ai,ah hj]
  rfl
 ·rw[cx (by rw[bF]; omega),cx om]
  rfl
end Go.Proofs.YtpeemonpdlifbaaGreat
