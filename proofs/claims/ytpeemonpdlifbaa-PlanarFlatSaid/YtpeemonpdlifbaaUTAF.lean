/- What hangs together, round by round; the least edges of bloc -/
import Derived.Test.YtpeemonpdlifbaaUTAE
import Derived.Test.YtpeemonpdlifbaaUTAC
set_option linter.all false
namespace Go.Blk
section
variable (m n:Nat) (tl hd:Nat→Nat) (c:Nat→Bool)
def goE (s:Nat→Bool) (i:Nat):Nat→Bool:=if c i=true∧(s (tl i)=true∨s (hd i)=true) then λv=>decide (v=tl i)||(decide (v=hd i)||s v) else s
def goP (s:Nat→Bool):Nat→Bool:=(List.range m).foldl (goE tl hd c) s
def goN:Nat→(Nat→Bool)→Nat→Bool
 | 0,s=>s
 | k+1,s=>goP m tl hd c (goN k s)
inductive RC:Nat→Nat→Prop
 | refl {u:Nat}:RC u u
 | one {u v i:Nat}:RC u v→i<m→c i=true→tl i=v→RC u (hd i)
 | two {u v i:Nat}:RC u v→i<m→c i=true→hd i=v→RC u (tl i)
end
section
variable {m n:Nat}{tl hd:Nat→Nat}{c:Nat→Bool}
theorem Fb {s:Nat→Bool}{i v:Nat} (h:s v=true):goE tl hd c s i v=true:=by
 unfold goE
 split
 ·simp [h]
 ·exact h
theorem vn:∀ (l:List Nat) {s:Nat→Bool}{v:Nat},s v=true→l.foldl (goE tl hd c) s v=true
 | [],_,_,h=>h
 | _::l,_,_,h=>vn l (Fb h)
theorem zh {s:Nat→Bool}{v:Nat} (h:s v=true):goP m tl hd c s v=true:=vn _ h
theorem AA {f:Nat}:∀ (l:List Nat) {s:Nat→Bool},(∀ i∈l,i<m)→(∀ v,s v=true→RC m tl hd c f v)→∀ v,l.foldl (goE tl hd c) s v=true→RC m tl hd c f v
 | [],_,_,h=>h
 | i::l,s,hl,h=>by
   refine AA l (λk hk=>hl k (be _ hk)) λv hv=>?_
   unfold goE at hv
   split at hv
   ·rename_i hc
    simp only[cN,aH] at hv
    rcases hv with rfl|rfl|hv
    ·rcases hc.2 with q|q
     ·exact h _ q
     ·exact .two (h _ q) (hl i (bq ..)) hc.1 rfl
    ·rcases hc.2 with q|q
     ·exact .one (h _ q) (hl i (bq ..)) hc.1 rfl
     ·exact h _ q
    ·exact h v hv
   ·exact h v hv
theorem zi {f:Nat}{s:Nat→Bool} (h:∀ v,s v=true→RC m tl hd c f v):∀ k v,goN m tl hd c k s v=true→RC m tl hd c f v
 | 0=>h
 | k+1=>AA _ (λi hi=>aF.1 hi) (zi h k)
def Shut (m:Nat) (tl hd:Nat→Nat) (c:Nat→Bool) (s:Nat→Bool):Prop:=∀ i,i<m→c i=true→s (tl i)=s (hd i)
theorem tP:∀ (l:List Nat) {s:Nat→Bool},(∀ v,l.foldl (goE tl hd c) s v=true→s v=true)→∀ i∈l,c i=true→s (tl i)=s (hd i)
 | [],_,_,i,hi,_=>by cases hi
 | k::l,s,h,i,hi,hc=>by
   have e1:∀ v,goE tl hd c s k v=s v:=λv=>by
    rw[de]
    exact⟨λhv=>h v (vn l hv),Fb⟩
   rcases aq.1 hi with rfl|hi
   ·rw[de]
    constructor
    ·intro q
     rw[← e1 (hd i)]
     unfold goE
     rw[if_pos ⟨hc,.inl q⟩]
     simp
    ·intro q
     rw[← e1 (tl i)]
     unfold goE
     rw[if_pos ⟨hc,.inr q⟩]
     simp
   ·have e2:goE tl hd c s k=s:=funext e1
    refine tP l (s:=s) (λv hv=>h v ?_) i hi hc
    show l.foldl (goE tl hd c) (goE tl hd c s k) v=true
    rw[e2]; exact hv
def cnt (n:Nat) (s:Nat→Bool):Nat:=(List.range n).countP s
theorem JS {s:Nat→Bool}:cnt n s≤n:=cR fT (by simp)
theorem Shut.rc {s:Nat→Bool} (hs:Shut m tl hd c s) {u v:Nat} (h:RC m tl hd c u v) (hu:s u=true):s v=true:=by
 induction h with
 | refl=>exact hu
 | one _ a b e ih=>rw[← hs _ a b,e]; exact ih
 | two _ a b e ih=>rw[hs _ a b,e]; exact ih
theorem xB (ht:∀ i,i<m→tl i<n∧hd i<n) {s:Nat→Bool} (hs:∀ v,s v=true→v<n):∀ k,Shut m tl hd c (goN m tl hd c k s)∨cnt n s+k≤cnt n (goN m tl hd c k s)
 | 0=>.inr (ab _)
 | k+1=>by
   have hin:∀ k v,goN m tl hd c k s v=true→v<n:=by
    intro k
    induction k with
    | zero=>exact hs
    | succ k ih =>
      have:∀ (l:List Nat) (s:Nat→Bool),(∀ i∈l,i<m)→(∀ v,s v=true→v<n)→∀ v,l.foldl (goE tl hd c) s v=true→v<n:=by
       intro l
       induction l with
       | nil=>intro s _ h; exact h
       | cons i l ihl =>
         intro s hl h
         refine ihl _ (λk hk=>hl k (be _ hk)) λv hv=>?_
         unfold goE at hv
         have:=ht i (hl i (bq ..))
         split at hv
         ·simp only[cN,aH] at hv
          rcases hv with rfl|rfl|hv
          ·exact this.1
          ·exact this.2
          ·exact h v hv
         ·exact h v hv
      exact this _ _ (λi hi=>aF.1 hi) ih
   by_cases q:∀ v,goP m tl hd c (goN m tl hd c k s) v=true→goN m tl hd c k s v=true
   ·left
    have e:goP m tl hd c (goN m tl hd c k s)=goN m tl hd c k s:=funext λv=>by
     rw[de]
     exact⟨q v,zh⟩
    show Shut m tl hd c (goP m tl hd c (goN m tl hd c k s))
    rw[e]
    exact λi hi hc=>tP _ q i (aF.2 hi) hc
   ·right
    have ⟨v,hv⟩:=Classical.not_forall.1 q
    have ⟨h1,h2⟩:=Classical.not_imp.1 hv
    have hlt:cnt n (goN m tl hd c k s)<cnt n (goN m tl hd c (k+1) s) :=
     lF (a:=v) (λx _ hx=>zh hx) (aF.2 (hin (k+1) v h1)) (by simpa using h2) h1
    rcases xB ht hs k with h|h
    ·exfalso
     apply h2
     have:=zi (m:=m) (tl:=tl) (hd:=hd) (c:=c) (f:=v) (s:=goN m tl hd c k s)
     have e:∀ (l:List Nat),(∀ i∈l,i<m)→l.foldl (goE tl hd c) (goN m tl hd c k s)=goN m tl hd c k s:=by
      intro l
      induction l with
      | nil=>intro _; rfl
      | cons i l ihl =>
        intro hl
        have e1:goE tl hd c (goN m tl hd c k s) i=goN m tl hd c k s:=by
         unfold goE
         split
         ·rename_i hc
          have hh:=h i (hl i (bq ..)) hc.1
          funext w
          rw[de]
          simp only[cN,aH]
          constructor
          ·rintro (rfl|rfl|q)
           ·rcases hc.2 with q|q
            ·exact q
            ·rw[hh]; exact q
           ·rcases hc.2 with q|q
            ·rw[← hh]; exact q
            ·exact q
           ·exact q
          ·exact λq=>.inr (.inr q)
         ·rfl
        rw[fp,e1]
        exact ihl λk hk=>hl k (be _ hk)
     have:=e (List.range m) λi hi=>aF.1 hi
     rw[← this]
     exact h1
    ·omega
theorem go_ok (ht:∀ i,i<m→tl i<n∧hd i<n) {f:Nat} (hf:f<n) (v:Nat):goN m tl hd c n (λv=>decide (v=f)) v=true↔RC m tl hd c f v:=by
 constructor
 ·exact zi (λv hv=>by rw[cn hv]; exact .refl) n v
 ·intro h
  have hs:Shut m tl hd c (goN m tl hd c n λv=>decide (v=f)):=by
   rcases xB (c:=c) ht (s:=λv=>decide (v=f)) (λv hv=>by rw[cn hv]; exact hf) n with h|h
   ·exact h
   ·have h1:0<cnt n (λv=>decide (v=f)):=by
     unfold cnt
     rw[yg]
     exact⟨f,aF.2 hf,by simp⟩
    have h2:=JS (n:=n) (s:=goN m tl hd c n λv=>decide (v=f))
    omega
  refine hs.rc h ?_
  have:∀ k,goN m tl hd c k (λv=>decide (v=f)) f=true:=by
   intro k
   induction k with
   | zero=>simp [goN]
   | succ k ih=>exact zh ih
  exact this n
end
variable {g:Gr}
structure Lst (g:Gr) (l:Nat→Nat):Prop where
 cls:∀ i,i<g.m→Cls g i (l i)
 le:∀ i,i<g.m→l i≤i
 same:∀ i k,i<g.m→k<g.m→Rel g i k→l i=l k
theorem zq {i k:Nat} (h:Cls g i k) (hi:i<g.m):k<g.m:=by
 induction h with
 | refl=>exact hi
 | step _ r _=>obtain⟨x,_,b,_⟩:=r; exact b.1
theorem Lst.eqc {l:Nat→Nat} (h:Lst g l) {i k:Nat} (hi:i<g.m) (hc:Cls g i k):l i=l k:=by
 induction hc with
 | refl=>rfl
 | step a r ih=>exact ih.trans (h.same _ _ (zq a hi) (by obtain⟨x,_,b,_⟩:=r; exact b.1) r)
theorem Lst.uniq {l l':Nat→Nat} (h:Lst g l) (h':Lst g l') {i:Nat} (hi:i<g.m):l i=l' i:=by
 have a:l i≤l' i:=by
  rw[h.eqc hi (h'.cls i hi)]
  exact h.le _ (zq (h'.cls i hi) hi)
 have b:l' i≤l i:=by
  rw[h'.eqc hi (h.cls i hi)]
  exact h'.le _ (zq (h.cls i hi) hi)
 omega
theorem Lst.iff {l:Nat→Nat} (h:Lst g l) {i k:Nat} (hi:i<g.m) (hk:k<g.m):l i=l k↔Cls g i k:=by
 refine⟨λe=>?_,h.eqc hi⟩
 have:=(h.cls k hk).symm
 rw[← e] at this
 exact (h.cls i hi).trans this
def canon (m:Nat) (l:Nat→Nat):List (List Nat):=((List.range m).filter λi=>l i==i).map λi=>(List.range m).filter λk=>l k==i
theorem canon_congr {m:Nat}{l l':Nat→Nat} (h:∀ i,i<m→l i=l' i):canon m l=canon m l':=by
 unfold canon
 have e1:((List.range m).filter λi=>l i==i)=(List.range m).filter λi=>l' i==i:=List.filter_congr λi hi=>by rw[h i (aF.1 hi)]
 rw[e1]
 refine dJ λi _=>?_
 exact List.filter_congr λk hk=>by rw[h k (aF.1 hk)]
end Go.Blk
namespace Go.Proofs.Ytpeemonpdlifbaa
open Go.Am
def gW (n:Nat) (ev:AV):List AV:=[.int .i64 (n:Nat),ev]
set_option maxHeartbeats 1000000 in
theorem BG {h:AH}{n:Nat}{ev:AV}{E:List (Int×Int)} (he:SlE h ev E) (hxl:E.length<2 ^ 40) :
 C prg 44 [.agg (gW n ev)] h λr h'=>∃ b,r=.sl b 0 E.length E.length∧h.next≤b∧Ext h.next h h'∧h'.get b=some (.cells (bl E.length λ_=>true) 1 false):=by
 have el:=he.len
 rw[ah] at el
 obtain⟨ec,eo⟩:=he.cells
 unfold gW
 refine Kl pf44 ?_
 refine ae (ar (Mi0) ?_)
 have ga:∀ c,(h.new (.cells [.int .i64 (n:Nat),ev] 2 false)).get c=if c=h.next then some (.cells [.int .i64 (n:Nat),ev] 2 false) else h.get c:=λc=>by
  rw[AH.get_new]
 have x0:Ext h.next h (h.new (.cells [.int .i64 (n:Nat),ev] 2 false)):=Ki (ab _)
 have n0:(h.new (.cells [.int .i64 (n:Nat),ev] 2 false)).next=h.next+1:=rfl
 generalize (h.new (.cells [.int .i64 (n:Nat),ev] 2 false))=h1 at *
 have gA:h1.get h.next=some (.cells [.int .i64 (n:Nat),ev] 2 false):=by rw[ga,if_pos rfl]
 have rA:ak h1 h.next 1 1=some [ev]:=bd gA rfl
 have mu:=mw (h:=h1) (z:=[.bool false]) (e:=1) (bytes:=1) (n:=E.length) (by unfold aX; omega) (by unfold aX; omega)
 have x3:Ext h1.next h1 (h1.new (.cells (cJ [.bool false] E.length) 1 false)):=Ki (ab _)
 have g3:(h1.new (.cells (cJ [.bool false] E.length) 1 false)).get h1.next=some (.cells (cJ [.bool false] E.length) 1 false):=by rw[AH.get_new,if_pos rfl]
 have n3:(h1.new (.cells (cJ [.bool false] E.length) 1 false)).next=h1.next+1:=rfl
 refine ae (ar (Mi3 rA el mu) ?_)
 generalize (h1.new (.cells (cJ [.bool false] E.length) 1 false))=h2 at *
 rw[mV,n0] at g3
 rw[n0] at x3 n3
 clear mu
 have X2:Ext h.next h h2:=x0.trans (x3.mono om)
 refine ae (ae (ar (Mi1 n0) ?_))
 refine gU (α:=Unit) (N:=E.length) (λk _=>[(3,.sl (h.next+1) 0 E.length E.length),(4,.int .i64 (k:Nat))])
  (λk _ h'=>Ext h.next h h'∧h'.get (h.next+1)=some (.cells (bl E.length λi=>decide (i<k)) 1 false)) () (Hi2 n0 @bh)
  ⟨X2,by rw[g3]; simp⟩ ?_ ?_ ?_
 ·rintro k _ ts h5 hk ⟨jx,j⟩ ⟨e3,e4,-⟩
  simp only at e3 e4
  exact⟨_,(M3 e3 e4 @cX),Z0,H2 e3 e4⟩
 ·rintro k _ ts h5 hk ⟨jx,j⟩ ⟨e3,e4,-⟩
  simp only at e3 e4
  have i1:fM ((k:Nat):Int) E.length=some k:=dm hk
  have w1:=me (k:=k) om
  have wu:=fV (v:=.bool true) j (i:=k) (by rw[jt]; exact hk)
  have uu:=Kk (o:=.cells ((bl E.length λi=>decide (i<k)).set k (.bool true)) 1 false) j
  refine ar (M5 e3 e4 i1 @aM wu) ?_
  refine⟨(),⟨jx.trans (uu.ext om),?_⟩,_,(M2 e4 w1),H1 e3⟩
  rw[uu.get,kC]
  congr 2
  refine mI λi _=>?_
  by_cases e:i=k
  ·subst e; simp
  ·rw[if_neg e]
   exact decide_eq_decide.2 om
 ·rintro _ ts h5 ⟨jx,j⟩ ⟨e3,e4,-⟩
  simp only at e3
  refine ae (ar (M1 e3) ?_)
  refine bH ⟨_,(by simp only[rs,rf44,am,aC,simprocAttr]<;>rfl),_,rfl,om,jx,?_⟩
  rw[j]
  congr 2
  exact mI λi hi=>aN hi
def tlE (E:List (Int×Int)) (i:Nat):Nat:=((E.getD i (0,0)).1).toNat
def hdE (E:List (Int×Int)) (i:Nat):Nat:=((E.getD i (0,0)).2).toNat
def InG (n:Nat) (E:List (Int×Int)):Prop:=∀ i (hi:i<E.length),E[i]=(((tlE E i:Nat):Int),((hdE E i:Nat):Int))∧tlE E i<n∧hdE E i<n
theorem ny {β:Type} (f:β→Nat→β) (s:β) (k:Nat):(List.range (k+1)).foldl f s=f ((List.range k).foldl f s) k:=by
 rw[bS,fG]
 rfl
open Go.Blk (goE goP goN) in
set_option maxHeartbeats 2000000 in
theorem Jv {h:AH}{n f cb:Nat}{ev:AV}{E:List (Int×Int)}{c:Nat→Bool} (he:SlE h ev E) (hE:InG n E) (hxl:E.length<2 ^ 40) (hnl:n<2 ^ 40) (hf:f<n)
 (hc:h.get cb=some (.cells (bl E.length c) 1 false)) :
 C prg 45 [.agg (gW n ev),.int .i64 (f:Nat),.bool true,.sl cb 0 E.length E.length] h λr h'=>∃ b,r=.sl b 0 n n∧h.next≤b∧Ext h.next h h'∧h'.get b=some (.cells (bl n (goN E.length (tlE E) (hdE E) c n λv=>decide (v=f))) 1 false):=by
 have el:=he.len
 rw[ah] at el
 obtain⟨ec,eo⟩:=he.cells
 have hcl:=AH.lt_of_get hc
 unfold gW
 refine Kl pf45 ?_
 refine ae (ar (Mi0) ?_)
 have ga:∀ c,(h.new (.cells [.int .i64 (n:Nat),ev] 2 false)).get c=if c=h.next then some (.cells [.int .i64 (n:Nat),ev] 2 false) else h.get c:=λc=>by
  rw[AH.get_new]
 have x0:Ext h.next h (h.new (.cells [.int .i64 (n:Nat),ev] 2 false)):=Ki (ab _)
 have n0:(h.new (.cells [.int .i64 (n:Nat),ev] 2 false)).next=h.next+1:=rfl
 generalize (h.new (.cells [.int .i64 (n:Nat),ev] 2 false))=h1 at *
 have gA:h1.get h.next=some (.cells [.int .i64 (n:Nat),ev] 2 false):=by rw[ga,if_pos rfl]
 have rN:ak h1 h.next 0 1=some [.int .i64 (n:Nat)]:=bd gA rfl
 have mu:=mw (h:=h1) (z:=[.bool false]) (e:=1) (bytes:=1) (n:=n) (by unfold aX; omega) (by unfold aX; omega)
 have x3:Ext h1.next h1 (h1.new (.cells (cJ [.bool false] n) 1 false)):=Ki (ab _)
 have g3:(h1.new (.cells (cJ [.bool false] n) 1 false)).get h1.next=some (.cells (cJ [.bool false] n) 1 false):=by rw[AH.get_new,if_pos rfl]
 have n3:(h1.new (.cells (cJ [.bool false] n) 1 false)).next=h1.next+1:=rfl
 refine ae (ar (Mi2 rN mu) ?_)
 generalize (h1.new (.cells (cJ [.bool false] n) 1 false))=h2 at *
 rw[mV,n0] at g3
 rw[n0] at x3 n3
 clear mu
 have X2:Ext h.next h h2:=x0.trans (x3.mono om)
 have gA2:h2.get h.next=some (.cells [.int .i64 (n:Nat),ev] 2 false):=by rw[x3.gt _ om]; exact gA
 have i0:fM ((f:Nat):Int) n=some f:=dm hf
 have w0:=fV (v:=.bool true) g3 (i:=f) (by rw[jt]; exact hf)
 have u0:=Kk (o:=.cells ((bl n λ_=>false).set f (.bool true)) 1 false) g3
 refine ae (ar (Mi4 n0 i0 @aM w0) ?_)
 generalize (h2.put (h.next+1) (.cells ((bl n λ_=>false).set f (.bool true)) 1 false))=h3 at *
 have X3:Ext h.next h h3:=X2.trans (u0.ext om)
 have gA3:h3.get h.next=some (.cells [.int .i64 (n:Nat),ev] 2 false):=by rw[u0.ne om]; exact gA2
 have n3':h3.next=h.next+2:=by rw[u0.nx,n3]
 have g3':h3.get (h.next+1)=some (.cells (bl n λv=>decide (v=f)) 1 false):=by
  rw[u0.get,kC]
  congr 2
 refine ae (ae (ar (Mi1 n0) ?_))
 refine gU (α:=Unit) (N:=n) (λk _=>[(2,.bool true),(3,.sl cb 0 E.length E.length),(4,.ptr h.next 0),(9,.sl (h.next+1) 0 n n),(10,.int .i64 (k:Nat))])
  (λk _ h'=>Ext h.next h h'∧h.next+2≤h'.next∧h'.get h.next=some (.cells [.int .i64 (n:Nat),ev] 2 false)∧h'.get (h.next+1)=some (.cells (bl n (goN E.length (tlE E) (hdE E) c k λv=>decide (v=f))) 1 false)) () (Hi2 n0 @bh)
  ⟨X3,om,gA3,g3'⟩ ?_ ?_ ?_
 ·rintro k _ ts h5 hk ⟨jx,jn,jA,j⟩ ⟨e2,e3,e4,e9,e10,-⟩
  simp only at e2 e3 e4 e9 e10
  have rN5:ak h5 h.next 0 1=some [.int .i64 (n:Nat)]:=bd jA rfl
  exact⟨_,(M4 e4 e10 rN5 @cX),Z0,H5 e2 e3 e4 e9 e10⟩
 ·rintro k _ ts h5 hk ⟨jx,jn,jA,j⟩ ⟨e2,e3,e4,e9,e10,-⟩
  simp only at e2 e3 e4 e9 e10
  have w1:=me (k:=k) om
  refine ae (ar (M0) ?_)
  generalize hs0:goN E.length (tlE E) (hdE E) c k (λv=>decide (v=f))=s0 at j
  refine gU (α:=Unit) (N:=E.length) (λi _=>[(2,.bool true),(3,.sl cb 0 E.length E.length),(4,.ptr h.next 0),(9,.sl (h.next+1) 0 n n),(10,.int .i64 (k:Nat)),(11,.int .i64 (i:Nat))])
   (λi _ h'=>Ext h.next h h'∧h.next+2≤h'.next∧h'.get h.next=some (.cells [.int .i64 (n:Nat),ev] 2 false)∧h'.get (h.next+1)=some (.cells (bl n ((List.range i).foldl (goE (tlE E) (hdE E) c) s0)) 1 false)) () (H6 e2 e3 e4 e9 e10 @bh)
   ⟨jx,jn,jA,j⟩ ?_ ?_ ?_
  ·rintro i _ ts h6 hi ⟨jx,jn,jA,j⟩ ⟨e2,e3,e4,e9,e10,e11,-⟩
   simp only at e2 e3 e4 e9 e10 e11
   have rE:ak h6 h.next 1 1=some [ev]:=bd jA rfl
   exact⟨_,(M5 e4 e11 rE el @cX),Z0,H6 e2 e3 e4 e9 e10 e11⟩
  ·rintro i _ ts h6 hi ⟨jx,jn,jA,j⟩ ⟨e2,e3,e4,e9,e10,e11,-⟩
   simp only at e2 e3 e4 e9 e10 e11
   have w2:=me (k:=i) om
   obtain⟨q1,q2,q3⟩:=hE i hi
   have rE:ak h6 h.next 1 1=some [ev]:=bd jA rfl
   obtain⟨eb,ep,a7,r7,_,_⟩:=(he.ext jx (ab _)).at (fy (f:=eE) hi)
   rw[q1] at r7
   obtain⟨h7,w7,x7,g7,n7⟩:=fL (h:=h6) (z:=[.int .i64 0,.int .i64 0]) (cs:=[.int .i64 (tlE E i:Nat),.int .i64 (hdE E i:Nat)]) (e:=2) rfl
   refine ae (ar (by simp only[am,aC,simprocAttr,e4,e11,rE,a7,r7,eE,w7]<;>rfl) ?_)
   generalize hs:(List.range i).foldl (goE (tlE E) (hdE E) c) s0=s at j
   have X7:Ext h.next h h7:=jx.trans (x7.mono om)
   have gA7:h7.get h.next=some (.cells [.int .i64 (n:Nat),ev] 2 false):=by rw[x7.gt _ om]; exact jA
   have j7:h7.get (h.next+1)=some (.cells (bl n s) 1 false):=by rw[x7.gt _ om]; exact j
   have gc7:h7.get cb=some (.cells (bl E.length c) 1 false):=by rw[X7.gt _ hcl]; exact hc
   have rc:ak h7 cb i 1=some [.bool (c i)]:=bd gc7 (iu hi)
   have ii:fM ((i:Nat):Int) E.length=some i:=dm hi
   have it:fM ((tlE E i:Nat):Int) n=some (tlE E i):=dm q2
   have ih:fM ((hdE E i:Nat):Int) n=some (hdE E i):=dm q3
   have rt:ak h7 (h.next+1) (tlE E i) 1=some [.bool (s (tlE E i))]:=bd j7 (iu q2)
   have rh:ak h7 (h.next+1) (hdE E i) 1=some [.bool (s (hdE E i))]:=bd j7 (iu q3)
   have r0:ak h7 h6.next 0 1=some [.int .i64 (tlE E i:Nat)]:=bd g7 rfl
   have r1:ak h7 h6.next 1 1=some [.int .i64 (hdE E i:Nat)]:=bd g7 rfl
   cases kc:c i with
   | false =>
     rw[kc] at rc
     refine ae (ar (M5 e3 e11 ii @aM rc) ?_)
     refine dB (Z0) (bJ ?_)
     refine⟨(),⟨X7,om,gA7,?_⟩,_,(M2 e11 w2),H5 e2 e3 e4 e9 e10⟩
     rw[j7,ny,hs]
     congr 2
     unfold goE
     rw[if_neg (by rw[kc]; simp)]
   | true =>
   rw[kc] at rc
   by_cases ks:s (tlE E i)=true∨s (hdE E i)=true
   ·have wa:=fV (v:=.bool true) j7 (i:=hdE E i) (by rw[jt]; exact q3)
    have ua:=Kk (o:=.cells ((bl n s).set (hdE E i) (.bool true)) 1 false) j7
    have rt':ak (h7.put (h.next+1) (.cells ((bl n s).set (hdE E i) (.bool true)) 1 false)) (h.next+1) (tlE E i) 1=some [.bool (if tlE E i=hdE E i then true else s (tlE E i))]:=by
     rw[kC] at ua ⊢
     exact bd ua.get (iu q2)
    have r0':ak (h7.put (h.next+1) (.cells ((bl n s).set (hdE E i) (.bool true)) 1 false)) h6.next 0 1=some [.int .i64 (tlE E i:Nat)]:=by rw[← r0]; exact cY (ua.ne om)
    have wb:=fV (v:=.bool true) ua.get (i:=tlE E i) (by rw[cV,jt]; exact q2)
    have ub:=Kk (o:=.cells (((bl n s).set (hdE E i) (.bool true)).set (tlE E i) (.bool true)) 1 false) ua.get
    have eq:bl n ((List.range (i+1)).foldl (goE (tlE E) (hdE E) c) s0)=((bl n s).set (hdE E i) (.bool true)).set (tlE E i) (.bool true):=by
     rw[ny,hs,kC,kC]
     refine mI λv _=>?_
     unfold goE
     rw[if_pos ⟨kc,ks⟩]
     by_cases e1:v=tlE E i
     ·rw[if_pos e1,aN e1]; rfl
     ·rw[if_neg e1,aK e1]
      by_cases e2:v=hdE E i
      ·rw[if_pos e2,aN e2]; rfl
      ·rw[if_neg e2,aK e2]; rfl
    rcases (show s (tlE E i)=true∨(s (tlE E i)=false∧s (hdE E i)=true) by cases q:s (tlE E i)<;>simp_all) with k1|⟨k1,k2⟩
    ·rw[k1] at rt rt'
     rw[show (if tlE E i=hdE E i then true else true)=true by split<;>rfl] at rt'
     refine ae (ar (by simp only[am,aC,simprocAttr,e2,e3,e9,e11,ii,aM,rc,it,rt,r0,r1]<;>rfl) ?_)
     refine cE (Z0) (ae (ar (M5 e9 r1 ih @aM wa) ?_))
     refine ar (by simp only[am,aC,simprocAttr,e2,e9,r0',it,rt',aM,wb]<;>rfl) ?_
     exact⟨(),⟨X7.trans ((ua.ext om).trans (ub.ext om)),by rw[ub.nx,ua.nx]; omega,by rw[ub.ne om,ua.ne om]; exact gA7,by rw[ub.get,eq]⟩,_,(M2 e11 w2),H5 e2 e3 e4 e9 e10⟩
    ·rw[k1] at rt rt'
     rw[k2] at rh
     have k3:tlE E i≠hdE E i:=λe=>by rw[e,k2] at k1; cases k1
     rw[if_neg k3] at rt'
     refine ae (ar (by simp only[am,aC,simprocAttr,e2,e3,e9,e11,ii,aM,rc,it,ih,rt,rh,r0,r1]<;>rfl) ?_)
     refine cE (Z0) (ae (ar (M5 e9 r1 ih @aM wa) ?_))
     refine ar (by simp only[am,aC,simprocAttr,e2,e9,r0',it,rt',aM,wb]<;>rfl) ?_
     exact⟨(),⟨X7.trans ((ua.ext om).trans (ub.ext om)),by rw[ub.nx,ua.nx]; omega,by rw[ub.ne om,ua.ne om]; exact gA7,by rw[ub.get,eq]⟩,_,(M2 e11 w2),H5 e2 e3 e4 e9 e10⟩
   ·have k1:s (tlE E i)=false:=by simpa using λe=>ks (.inl e)
    have k2:s (hdE E i)=false:=by simpa using λe=>ks (.inr e)
    rw[k1] at rt
    rw[k2] at rh
    refine ae (ar (by simp only[am,aC,simprocAttr,e2,e3,e9,e11,ii,aM,rc,it,ih,rt,rh,r0,r1]<;>rfl) ?_)
    refine dB (Z0) (bJ ?_)
    refine⟨(),⟨X7,om,gA7,?_⟩,_,(M2 e11 w2),H5 e2 e3 e4 e9 e10⟩
    rw[j7,ny,hs]
    congr 2
    unfold goE
    rw[if_neg (λe=>ks e.2)]
  ·rintro _ ts h6 ⟨jx,jn,jA,j⟩ ⟨e2,e3,e4,e9,e10,e11,-⟩
   simp only at e2 e3 e4 e9 e10
   refine⟨(),⟨jx,jn,jA,?_⟩,_,(M2 e10 w1),H4 e2 e3 e4 e9⟩
   rw[j,← hs0]
   rfl
 ·rintro _ ts h5 ⟨jx,jn,jA,j⟩ ⟨e2,e3,e4,e9,e10,-⟩
  simp only at e9
  refine ae (ar (M1 e9) ?_)
  exact bH ⟨_,(by simp only[rs,rf45,am,aC,simprocAttr]<;>rfl),_,rfl,om,jx,j⟩
open Go.Am
abbrev SlN (h:AH) (v:AV) (l:List Nat):Prop:=SlI h v (l.map λn=>((n:Nat):Int))
def nC (l:List Nat):List AV:=(l.map λn=>((n:Nat):Int)).flatMap eI
theorem iX (l:List Nat):(nC l).length=l.length:=by
 unfold nC
 rw[fN (f:=eI) (e:=1) (λ_=>rfl),ah]; omega
theorem uQ (a b:List Nat):nC (a++b)=nC a++nC b:=by
 unfold nC
 rw[dK,dV]
theorem eu {h:AH}{lo:Nat}{v:AV}{l:List Nat} (hv:IsSl h 1 lo v (nC l)):SlN h v l:=Kg om (λ_=>rfl) hv
def LL (h:AH) (lo:Nat) (a:AV) (xss:List (List Nat)):Prop :=
 ∃ vs:List AV,IsSl h 1 lo a vs∧vs.length=xss.length∧∀ (i:Nat) (v:AV) (xs:List Nat),vs[i]?=some v→xss[i]?=some xs→IsSl h 1 lo v (nC xs)∧∀ b n b' n',v=.sl b 0 n n→a=.sl b' 0 n' n'→b≠b'
theorem LL.ext {h h':AH}{lo hi:Nat}{a:AV}{xss:List (List Nat)} (hl:LL h lo a xss) (hx:Ext hi h h') (hn:h.next≤hi):LL h' lo a xss:=by
 obtain⟨vs,h1,h2,h3⟩:=hl
 exact⟨vs,h1.ext hx hn,h2,λi v xs q1 q2=>⟨(h3 i v xs q1 q2).1.ext hx hn,(h3 i v xs q1 q2).2⟩⟩
theorem LL.push {h:AH}{lo x:Nat}{a v:AV}{xss:List (List Nat)}{xs:List Nat} (hl:LL h lo a xss) (hlo:lo≤h.next) (hv:IsSl h 1 lo v (nC xs)) (hx:h.get x=some (.cells [v] 1 false)) (hxl:lo≤x) (hxa:∀ b n,a=.sl b 0 n n→b≠x)
 (hva:∀ b n b' n',v=.sl b 0 n n→a=.sl b' 0 n' n'→b≠b') (hb:(xss.length+1)*24<aX) :
 ∃ a' h',iQ h 1 24 a (.sl x 0 1 1)=some (a',h')∧LL h' lo a' (xss++[xs])∧Ext lo h h'∧h'.next=h.next+1∧(∀ c,c<h.next→(∀ b n,a=.sl b 0 n n→c≠b)→h'.get c=h.get c)∧∀ c n,a'=.sl c 0 n n→c=h.next:=by
 obtain⟨vs,h1,h2,h3⟩:=hl
 obtain⟨a',h',q1,q2,q3,q4,q5,q6,_⟩:=h1.app (bytes:=24) hlo om hx hxl hxa rfl (by simp [hv.cells.2]) (by rw[fk,h2]; exact hb) (by rw[fk,h2]; unfold aX at *; omega)
 have keep:∀ (w:AV) (cs:List AV),IsSl h 1 lo w cs→(∀ b n b' n',w=.sl b 0 n n→a=.sl b' 0 n' n'→b≠b')→IsSl h' 1 lo w cs∧∀ b n b' n',w=.sl b 0 n n→a'=.sl b' 0 n' n'→b≠b':=λw cs hw hn=>by
  refine⟨hw.cong λb n e _=>q6 b (hw.lt e) λb' n' e'=>hn b n b' n' e e',λb n b' n' e e'=>?_⟩
  have:=hw.lt e
  rw[q4] at e'
  cases e'
  omega
 refine⟨a',h',q1,⟨vs++[v],q2,by rw[aJ,aJ,h2]; rfl,λi w ys e1 e2=>?_⟩,q3,q5,q6,λc n e=>by rw[q4] at e; cases e; rfl⟩
 by_cases hi:i<vs.length
 ·rw[bC hi] at e1
  rw[bC om] at e2
  obtain⟨k1,k2⟩:=h3 i w ys e1 e2
  exact keep w _ k1 k2
 ·have hil:i<(vs++[v]).length:=(aI.1 e1).1
  rw[aJ,au,aQ] at hil
  have hi':i=vs.length:=om
  subst hi'
  rw[br om,eM] at e1
  rw[h2,br om,eM] at e2
  cases e1
  cases e2
  exact keep v _ hv hva
theorem LL.at {h:AH}{lo:Nat}{a:AV}{xss:List (List Nat)} (hl:LL h lo a xss) {i:Nat} (hi:i<xss.length):∃ b o v,kP 1 a (.int .i64 (i:Nat))=some (.ptr b o)∧ak h b o 1=some [v]∧IsSl h 1 lo v (nC xss[i])∧b<h.next:=by
 obtain⟨vs,h1,h2,h3⟩:=hl
 have hs:Sl h 1 a (vs.map λx=>[x]):=by
  rcases h1 with ⟨rfl,rfl⟩|⟨b,n,_,rfl,hg,hn⟩
  ·exact .inl ⟨rfl,.inl rfl⟩
  ·exact Sl.row hg om (ab _)
 have hv:vs[i]?=some (vs[i]'om):=ai _
 obtain⟨b,o,q1,q2,q3⟩:=hs.at1 (i:=i) (y:=vs[i]'om) (by rw[aw,hv]; rfl)
 exact⟨b,o,_,q1,q2,(h3 i _ _ hv (ai hi)).1,q3⟩
theorem LL.len {h:AH}{lo:Nat}{a:AV}{xss:List (List Nat)} (hl:LL h lo a xss):ip a=some (.int .i64 (xss.length:Nat)):=by
 obtain⟨vs,h1,h2,h3⟩:=hl
 rcases h1 with ⟨rfl,rfl⟩|⟨b,n,_,rfl,hg,hn⟩
 ·rw[← h2]; rfl
 ·rw[← h2,hn,aM]; rfl
theorem LL.cong {h h':AH}{lo:Nat}{a:AV}{xss:List (List Nat)} (hl:LL h lo a xss) (hk:∀ c,lo≤c→c<h.next→h'.get c=h.get c):LL h' lo a xss:=by
 obtain⟨vs,h1,h2,h3⟩:=hl
 exact⟨vs,h1.cong λb n e hb=>hk b hb (h1.lt e),h2,λi v xs q1 q2=>⟨(h3 i v xs q1 q2).1.cong λb n e hb=>hk b hb ((h3 i v xs q1 q2).1.lt e),(h3 i v xs q1 q2).2⟩⟩
theorem LL.lt {h:AH}{lo:Nat}{a:AV}{xss:List (List Nat)} (hl:LL h lo a xss) {b n:Nat} (e:a=.sl b 0 n n):b<h.next:=by
 obtain⟨vs,h1,_⟩:=hl
 exact h1.lt e
end Go.Proofs.Ytpeemonpdlifbaa
namespace Go.Pla
open Go.Blk
def par {α:Type}:List α→(α→Bool)→Bool
 | [],_=>false
 | e::l,p=>p e ^^ par l p
theorem aW {α:Type}:∀ {l:List α}{p q:α→Bool},(∀ e∈l,p e=q e)→par l p=par l q
 | [],_,_,_=>rfl
 | e::l,p,q,h=>by
   simp only[par]; rw[h e (by simp),aW (l:=l) λk hk=>h k (by simp [hk])]
theorem dN {α:Type}{p q:α→Bool}:∀ {l:List α},par l (λe=>p e ^^ q e)=(par l p ^^ par l q)
 | []=>rfl
 | e::l=>by
   simp only[par]; rw[dN (l:=l)]
   cases p e<;>cases q e<;>cases par l p<;>cases par l q<;>rfl
theorem ez {α:Type}{p:α→Bool}:∀ {l:List α},(∀ e∈l,p e=false)→par l p=false
 | [],_=>rfl
 | e::l,h=>by simp only[par]; rw[h e (by simp),ez λk hk=>h k (by simp [hk])]; rfl
theorem fZ {α:Type}{c:Bool}{p:α→Bool}:∀ {l:List α},par l (λe=>c&&p e)=(c&&par l p)
 | []=>by cases c<;>rfl
 | e::l=>by
   simp only[par]; rw[fZ (l:=l)]
   cases c<;>cases p e<;>cases par l p<;>rfl
theorem lz {α:Type}{p:α→Bool}:∀ {l m:List α},par (l++m) p=(par l p ^^ par m p)
 | [],m=>by simp [par]
 | e::l,m=>by
   simp only[aE,par]; rw[lz (l:=l)]
   cases p e<;>cases par l p<;>cases par m p<;>rfl
theorem wT {α:Type}{p:α→Bool}{l m:List α} (h:l.Perm m):par l p=par m p:=by
 induction h with
 | nil=>rfl
 | cons x _ ih=>simp only[par]; rw[ih]
 | swap x y l=>simp only[par]; cases p x<;>cases p y<;>cases par l p<;>rfl
 | trans _ _ h1 h2=>rw[h1,h2]
theorem ji {α β:Type}{p:α→β→Bool}{m:List β}:∀ {l:List α},par l (λe=>par m (λf=>p e f))=par m (λf=>par l (λe=>p e f))
 | []=>by simp only[par]; exact (ez λ_ _=>rfl).symm
 | e::l=>by
   simp only[par]; rw[ji (l:=l),← dN]
theorem dx {k:Nat}{p:Nat→Bool}:∀ {l:List Nat},l.Nodup→k∈l→par l (λe=>(e==k)&&p e)=p k
 | [],_,h=>by simp at h
 | e::l,nd,h=>by
   simp only[par]
   rw[aS] at nd
   by_cases he:e=k
   ·subst he
    rw[ez (l:=l) λj hj=>by
     have:j≠e:=λx=>nd.1 (x▸hj)
     simp [this]]
    simp
   ·rw[dx (l:=l) nd.2 (by simpa [Ne.symm he] using h)]
    have:(e==k)=false:=by simp [he]
    rw[this]; cases p k<;>rfl
theorem Ej {k:Nat}{p:Nat→Bool}{l:List Nat} (h:k∉l):par l (λe=>(e==k)&&p e)=false :=
 ez λe he=>by
  have:e≠k:=λx=>h (x▸he)
  simp [this]
variable {g:Gr}{B:List Nat}{Φ:Type}
def at_ (g:Gr) (e v:Nat):Bool:=(g.tl e==v) ^^ (g.hd e==v)
def Even (g:Gr) (B:List Nat) (X:Nat→Bool):Prop:=∀ v,par B (λe=>X e&&at_ g e v)=false
theorem Even.congr {X Y:Nat→Bool} (h:Even g B X) (hx:∀ e∈B,X e=Y e):Even g B Y:=λv=>by
 rw[← h v]; exact aW λe he=>by rw[hx e he]
theorem Even.xor {X Y:Nat→Bool} (h:Even g B X) (h':Even g B Y):Even g B (λe=>X e ^^ Y e):=λv=>by
 rw[aW (q:=λe=>(X e&&at_ g e v) ^^ (Y e&&at_ g e v)) (λe _=>by dsimp only; cases X e<;>cases Y e<;>cases at_ g e v<;>rfl),dN,h v,h' v]; rfl
theorem vr:Even g B (λ_=>false):=λ_=>ez λ_ _=>rfl
theorem Even.sum {α:Type}{X:α→Nat→Bool}:∀ {l:List α},(∀ f∈l,Even g B (X f))→Even g B (λe=>par l (λf=>X f e))
 | [],_=>vr
 | f::l,h=>(h f (by simp)).xor (Even.sum (l:=l) λk hk=>h k (by simp [hk]))
structure Dual (g:Gr) (B:List Nat) (l r:Nat→Φ):Prop where
 two:∀ S:Φ→Bool,Even g B (λe=>S (l e) ^^ S (r e))
 one:∀ X,Even g B X→∃ S:Φ→Bool,∀ e∈B,X e=(S (l e) ^^ S (r e))
def Bond (g:Gr) (B:List Nat):Prop:=∀ v e k,e∈B→k∈B→at_ g e v=true→at_ g k v=true→e≠k→∃ Z,Even g B Z∧∀ j∈B,at_ g j v=true→Z j=((j==e)||(j==k))
def Link (g:Gr) (B:List Nat):Prop:=∀ P:Nat→Bool,(∀ v e k,e∈B→k∈B→at_ g e v=true→at_ g k v=true→P e=P k)→∀ e∈B,∀ k∈B,P e=P k
theorem oK (nd:B.Nodup) (hb:Bond g B) {Y:Nat→Bool}{v:Nat} (h:∀ X,Even g B X→par B (λe=>X e&&(Y e&&at_ g e v))=false) {e k:Nat} (he:e∈B) (hk:k∈B) (hev:at_ g e v=true) (hkv:at_ g k v=true):Y e=Y k:=by
 by_cases hne:e=k
 ·rw[hne]
 obtain⟨Z,hZ,hz⟩:=hb v e k he hk hev hkv hne
 have h1:=h Z hZ
 rw[aW (q:=λj=>((j==e)&&Y j) ^^ ((j==k)&&Y j)) (λj hj=>by
  by_cases hjv:at_ g j v=true
  ·rw[hz j hj hjv,hjv]
   by_cases h1:j=e
   ·subst h1
    have:(j==k)=false:=by simp [hne]
    simp [this]
   ·have:(j==e)=false:=by simp [h1]
    simp [this]
  ·have a:j≠e:=λx=>hjv (x▸hev)
   have b:j≠k:=λx=>hjv (x▸hkv)
   have a':(j==e)=false:=by simp [a]
   have b':(j==k)=false:=by simp [b]
   have c:at_ g j v=false:=by simpa using hjv
   rw[a',b',c]; cases Z j<;>cases Y j<;>rfl),dN,dx nd he,dx nd hk] at h1
 cases hy:Y e<;>cases hy':Y k<;>simp [hy,hy'] at h1 ⊢
variable {l r:Nat→Φ}
theorem Dual.conn (nd:B.Nodup) (d:Dual g B l r) (hb:Bond g B) (hl:Link g B) {T:Φ→Bool} (h:∀ e∈B,T (l e)=T (r e)) {e k:Nat} (he:e∈B) (hk:k∈B):T (l e)=T (l k):=by
 refine hl (λj=>T (l j)) (λv e k he hk hev hkv=>oK nd hb (Y:=λj=>T (l j)) (λX hX=>?_) he hk hev hkv) e he k hk
 obtain⟨S,hS⟩:=d.one X hX
 have h1:=d.two (λa=>S a&&T a) v
 rw[← h1]
 refine aW λj hj=>?_
 dsimp only
 rw[hS j hj,← h j hj]
 cases S (l j)<;>cases S (r j)<;>cases T (l j)<;>cases at_ g j v<;>rfl
def Circ (g:Gr) (B:List Nat) (Z:Nat→Bool):Prop:=Even g B Z∧∀ Y,Even g B Y→(∀ e∈B,Y e=true→Z e=true)→(∀ e∈B,Y e=false)∨(∀ e∈B,Y e=Z e)
structure Ext (g:Gr) (B:List Nat) (l r:Nat→Φ) (H:Nat→Bool) (nf:Nat) (Z:Nat→Nat→Bool) (pf:Φ→Nat):Prop where
 side:∀ f,f<nf→∀ e∈B,Z f e=((pf (l e)==f) ^^ (pf (r e)==f))
 lt:∀ e∈B,pf (l e)<nf∧pf (r e)<nf
 lay:∀ e∈B,H e=(pf (l e) != pf (r e))
variable {H:Nat→Bool}{nf:Nat}{Z:Nat→Nat→Bool}{pf:Φ→Nat}
theorem Ext.step (nd:B.Nodup) (d:Dual g B l r) (hb:Bond g B) (hl:Link g B) (x:Ext g B l r H nf Z pf) {f:Nat} (hf:f<nf) (hc:Circ g B (Z f)) {e0:Nat} (h0:e0∈B) (hz0:Z f e0=true) {w Z1 Z2:Nat→Bool}
 (hw:∀ e∈B,w e=true→pf (l e)=f∧pf (r e)=f) (he1:Even g B Z1) (h1:∀ e∈B,Z1 e=true→Z f e=true∨w e=true) (h1w:∀ e∈B,w e=true→Z1 e=true)
 (h2:∀ e∈B,(Z1 e ^^ Z2 e)=Z f e):∃ pf':Φ→Nat,Ext g B l r (λe=>H e||w e) (nf+1) (λk e=>if k=f then Z1 e else if k=nf then Z2 e else Z k e) pf'∧(∀ a,pf a≠f→pf' a=pf a)∧(∀ a,pf a=f→pf' a=f∨pf' a=nf):=by
 obtain⟨S,hS⟩:=d.one Z1 he1
 have hT:=d.two (λa=>S a&&!(pf a==f))
 have sub:∀ e∈B,((S (l e)&&!(pf (l e)==f)) ^^ (S (r e)&&!(pf (r e)==f)))=true→Z f e=true:=by
  intro e he h
  rw[x.side f hf e he]
  have hs:=hS e he
  have hwe:=hw e he
  have h1e:=h1 e he
  rw[x.side f hf e he] at h1e
  by_cases a:pf (l e)=f<;>by_cases b:pf (r e)=f
  ·simp [a,b] at h
  ·simp [a,b]
  ·simp [a,b]
  ·simp only[a,b,beq_eq_false_iff_ne.2 a,beq_eq_false_iff_ne.2 b,bG,et,cZ] at h h1e ⊢
   rw[h] at hs
   rcases h1e hs with q|q
   ·exact q
   ·exact absurd (hwe q).1 a
 have key:∃ S':Φ→Bool,(∀ e∈B,Z1 e=(S' (l e) ^^ S' (r e)))∧(∀ e∈B,(S' (l e)=true→pf (l e)=f)∧(S' (r e)=true→pf (r e)=f)):=by
  have hz0':=x.side f hf e0 h0
  rw[hz0] at hz0'
  rcases hc.2 _ hT sub with hn|ha
  ·refine⟨S,hS,?_⟩
   have hcon:∀ e∈B,(S (l e)&&!(pf (l e)==f))=false∧(S (r e)&&!(pf (r e)==f))=false:=by
    have hq:∀ e∈B,(S (l e)&&!(pf (l e)==f))=(S (r e)&&!(pf (r e)==f)):=λe he=>by
     have:=hn e he
     revert this
     cases (S (l e)&&!(pf (l e)==f))<;>cases (S (r e)&&!(pf (r e)==f))<;>simp
    have h00:(S (l e0)&&!(pf (l e0)==f))=false:=by
     by_cases a:pf (l e0)=f
     ·simp [a]
     ·have b:pf (r e0)=f:=by
       by_cases b:pf (r e0)=f
       ·exact b
       ·rw[beq_eq_false_iff_ne.2 a,beq_eq_false_iff_ne.2 b] at hz0'; cases hz0'
      rw[hq e0 h0]; simp [b]
    intro e he
    have h3:=d.conn nd hb hl (T:=λa=>S a&&!(pf a==f)) hq he h0
    exact⟨by rw[h3,h00],by rw[← hq e he,h3,h00]⟩
   intro e he
   obtain⟨a,b⟩:=hcon e he
   constructor
   ·intro h; rw[h] at a; simpa using a
   ·intro h; rw[h] at b; simpa using b
  ·refine⟨λa=>!(S a),λe he=>?_,?_⟩
   ·rw[hS e he]; dsimp only; cases S (l e)<;>cases S (r e)<;>rfl
   have hq:∀ e∈B,((S (l e)&&!(pf (l e)==f)) ^^ !(pf (l e)==f))=((S (r e)&&!(pf (r e)==f)) ^^ !(pf (r e)==f)):=λe he=>by
    have:=ha e he
    rw[x.side f hf e he] at this
    revert this
    cases S (l e)<;>cases S (r e)<;>cases pf (l e)==f<;>cases pf (r e)==f<;>simp
   have h00:((S (l e0)&&!(pf (l e0)==f)) ^^ !(pf (l e0)==f))=false:=by
    by_cases a:pf (l e0)=f
    ·simp [a]
    ·have b:pf (r e0)=f:=by
      by_cases b:pf (r e0)=f
      ·exact b
      ·rw[beq_eq_false_iff_ne.2 a,beq_eq_false_iff_ne.2 b] at hz0'; cases hz0'
     rw[hq e0 h0]; simp [b]
   intro e he
   have h3:=d.conn nd hb hl (T:=λa=>(S a&&!(pf a==f)) ^^ !(pf a==f)) hq he h0
   have a:((S (l e)&&!(pf (l e)==f)) ^^ !(pf (l e)==f))=false:=by rw[h3,h00]
   have b:((S (r e)&&!(pf (r e)==f)) ^^ !(pf (r e)==f))=false:=by rw[← hq e he,h3,h00]
   constructor
   ·intro h
    by_cases q:pf (l e)=f
    ·exact q
    ·have:S (l e)=false:=by simpa using h
     simp [q,this] at a
   ·intro h
    by_cases q:pf (r e)=f
    ·exact q
    ·have:S (r e)=false:=by simpa using h
     simp [q,this] at b
 obtain⟨S',hS',hin⟩:=key
 refine⟨λa=>if pf a=f then (if S' a=true then f else nf) else pf a,⟨?_,?_,?_⟩,λa h=>by simp [h],λa h=>by simp only[h,if_true]; split<;>simp⟩
 ·intro k hk e he
  have hlt:=x.lt e he
  have hse:=hS' e he
  have hie:=hin e he
  have h2e:=h2 e he
  have hside:=x.side f hf e he
  by_cases hkf:k=f
  ·subst hkf
   simp only[if_true]
   rw[hse]
   have q1:((if pf (l e)=k then (if S' (l e)=true then k else nf) else pf (l e))==k)=S' (l e):=by
    by_cases a:pf (l e)=k
    ·cases hs:S' (l e)
     ·simp [a]; omega
     ·simp [a]
    ·have:S' (l e)=false:=by
      cases hs:S' (l e)
      ·rfl
      ·exact absurd (hie.1 hs) a
     simp [a,this]
   have q2:((if pf (r e)=k then (if S' (r e)=true then k else nf) else pf (r e))==k)=S' (r e):=by
    by_cases a:pf (r e)=k
    ·cases hs:S' (r e)
     ·simp [a]; omega
     ·simp [a]
    ·have:S' (r e)=false:=by
      cases hs:S' (r e)
      ·rfl
      ·exact absurd (hie.2 hs) a
     simp [a,this]
   rw[q1,q2]
  ·by_cases hkn:k=nf
   ·subst hkn
    simp only[hkf,if_false,if_true]
    have q1:((if pf (l e)=f then (if S' (l e)=true then f else k) else pf (l e))==k)=((pf (l e)==f) ^^ S' (l e)):=by
     by_cases a:pf (l e)=f
     ·cases hs:S' (l e)
      ·simp [a]
      ·simp [a]; omega
     ·have:S' (l e)=false:=by
       cases hs:S' (l e)
       ·rfl
       ·exact absurd (hie.1 hs) a
      rw[this,if_neg a,beq_eq_false_iff_ne.2 a]; simp; omega
    have q2:((if pf (r e)=f then (if S' (r e)=true then f else k) else pf (r e))==k)=((pf (r e)==f) ^^ S' (r e)):=by
     by_cases a:pf (r e)=f
     ·cases hs:S' (r e)
      ·simp [a]
      ·simp [a]; omega
     ·have:S' (r e)=false:=by
       cases hs:S' (r e)
       ·rfl
       ·exact absurd (hie.2 hs) a
      rw[this,if_neg a,beq_eq_false_iff_ne.2 a]; simp; omega
    rw[q1,q2]
    rw[hside,hse] at h2e
    revert h2e
    cases Z2 e<;>cases S' (l e)<;>cases S' (r e)<;>cases pf (l e)==f<;>cases pf (r e)==f<;>simp
   ·have hk':k<nf:=om
    simp only[hkf,hkn,if_false]
    rw[x.side k hk' e he]
    have q:∀ a,((if pf a=f then (if S' a=true then f else nf) else pf a)==k)=(pf a==k):=λa=>by
     by_cases b:pf a=f
     ·have:(pf a==k)=false:=by rw[b]; simp; omega
      rw[this]; simp only[b,if_true]
      split<;>simp<;>omega
     ·simp [b]
    rw[q,q]
 ·intro e he
  have hlt:=x.lt e he
  constructor<;>(split<;>(try split)<;>omega)
 ·intro e he
  have hlt:=x.lt e he
  have hse:=hS' e he
  have hie:=hin e he
  have hH:=x.lay e he
  have hwe:=hw e he
  have h1e:=h1 e he
  have h1we:=h1w e he
  rw[hH]
  by_cases a:pf (l e)=f<;>by_cases b:pf (r e)=f
  ·have hz:Z f e=false:=by rw[x.side f hf e he]; simp [a,b]
   have:w e=Z1 e:=by
    cases hw1:w e
    ·cases hz1:Z1 e
     ·rfl
     ·rcases h1e hz1 with q|q
      ·rw[hz] at q; simp at q
      ·rw[hw1] at q; simp at q
    ·exact (h1we hw1).symm
   rw[this,hse]
   simp only[a,b,if_true]
   cases S' (l e)<;>cases S' (r e)<;>simp<;>omega
  ·have hw0:w e=false:=by
    cases hw1:w e
    ·rfl
    ·exact absurd (hwe hw1).2 b
   rw[hw0,if_pos a,if_neg b,a,gz]
   have b':=Ne.symm b
   split
   ·rfl
   ·rw[bne_iff_ne.2 b',bne_iff_ne.2 (show nf≠pf (r e) by omega)]
  ·have hw0:w e=false:=by
    cases hw1:w e
    ·rfl
    ·exact absurd (hwe hw1).1 a
   rw[hw0,if_neg a,if_pos b,b,gz]
   split
   ·rfl
   ·rw[bne_iff_ne.2 a,bne_iff_ne.2 (show pf (l e)≠nf by omega)]
  ·have hw0:w e=false:=by
    cases hw1:w e
    ·rfl
    ·exact absurd (hwe hw1).1 a
   simp [a,b,hw0]
end Go.Pla
