/- arborref03.Every, Go -/
import Derived.Test.YthbmhbldmcbnpaaGreatDoorYTAF
import Derived.Test.YthbmhbldmcbnpaaGreatDoorYTAD
set_option linter.all false
namespace Go.Proofs.YthbmhbldmcbnpaaGreatDoor
open Go.Am
def gW (n:Nat) (ev:AV):List AV:=[.int .i64 (n:Nat),ev]
set_option maxHeartbeats 1000000 in
theorem Ca {h:AH}{n:Nat}{ev:AV}{E:List (Int×Int)} (he:SlE h ev E) (hxl:E.length<2 ^ 40) :
 C prg 40 [.agg (gW n ev)] h λr h'=>∃ b,r=.sl b 0 E.length E.length∧h.next≤b∧Ext h.next h h'∧h'.get b=some (.cells (bl E.length λ_=>true) 1 false):=by
 have el:=he.len
 rw[ar] at el
 obtain⟨ec,eo⟩:=he.cells
 unfold gW
 refine NX pf40 ?_
 refine ah (ak (Mi0) ?_)
 have ga:∀ c,(h.new (.cells [.int .i64 (n:Nat),ev] 2 false)).get c=if c=h.next then some (.cells [.int .i64 (n:Nat),ev] 2 false) else h.get c:=λc=>by
  rw[AH.get_new]
 have x0:Ext h.next h (h.new (.cells [.int .i64 (n:Nat),ev] 2 false)):=NU (ae _)
 have n0:(h.new (.cells [.int .i64 (n:Nat),ev] 2 false)).next=h.next+1:=rfl
 generalize (h.new (.cells [.int .i64 (n:Nat),ev] 2 false))=h1 at *
 have gA:h1.get h.next=some (.cells [.int .i64 (n:Nat),ev] 2 false):=by rw[ga,if_pos rfl]
 have rA:aj h1 h.next 1 1=some [ev]:=aJ gA rfl
 have mu:=fS (h:=h1) (z:=[.bool false]) (e:=1) (bytes:=1) (n:=E.length) (by unfold aQ; omega) (by unfold aQ; omega)
 have x3:Ext h1.next h1 (h1.new (.cells (bX [.bool false] E.length) 1 false)):=NU (ae _)
 have g3:(h1.new (.cells (bX [.bool false] E.length) 1 false)).get h1.next=some (.cells (bX [.bool false] E.length) 1 false):=by rw[AH.get_new,if_pos rfl]
 have n3:(h1.new (.cells (bX [.bool false] E.length) 1 false)).next=h1.next+1:=rfl
 refine ah (ak (Mi3 rA el mu) ?_)
 generalize (h1.new (.cells (bX [.bool false] E.length) 1 false))=h2 at *
 rw[oH,n0] at g3
 rw[n0] at x3 n3
 clear mu
 have X2:Ext h.next h h2:=x0.trans (x3.mono om)
 refine ah (ah (ak (Mi1 n0) ?_))
 refine er (α:=Unit) (N:=E.length) (λk _=>[(3,.sl (h.next+1) 0 E.length E.length),(4,.int .i64 (k:Nat))])
  (λk _ h'=>Ext h.next h h'∧h'.get (h.next+1)=some (.cells (bl E.length λi=>decide (i<k)) 1 false)) () (Hi2 n0 @aW)
  ⟨X2,by rw[g3]; simp⟩ ?_ ?_ ?_
 ·rintro k _ ts h5 hk ⟨jx,j⟩ ⟨e3,e4,-⟩
  simp only at e3 e4
  exact⟨_,(M3 e3 e4 @bw),Z0,H2 e3 e4⟩
 ·rintro k _ ts h5 hk ⟨jx,j⟩ ⟨e3,e4,-⟩
  simp only at e3 e4
  have i1:eQ ((k:Nat):Int) E.length=some k:=cJ hk
  have w1:=dF (k:=k) om
  have wu:=dN (v:=.bool true) j (i:=k) (by rw[kr]; exact hk)
  have uu:=NW (o:=.cells ((bl E.length λi=>decide (i<k)).set k (.bool true)) 1 false) j
  refine ak (M5 e3 e4 i1 @aD wu) ?_
  refine⟨(),⟨jx.trans (uu.ext om),?_⟩,_,(M2 e4 w1),H1 e3⟩
  rw[uu.get,mE]
  congr 2
  refine jC λi _=>?_
  by_cases e:i=k
  ·subst e; simp
  ·rw[if_neg e]
   exact decide_eq_decide.2 om
 ·rintro _ ts h5 ⟨jx,j⟩ ⟨e3,e4,-⟩
  simp only at e3
  refine ah (ak (M1 e3) ?_)
  refine aV ⟨_,(by simp only[rs,rf40,am,aC,simprocAttr]<;>rfl),_,rfl,om,jx,?_⟩
  rw[j]
  congr 2
  exact jC λi hi=>aq hi
def tlE (E:List (Int×Int)) (i:Nat):Nat:=((E.getD i (0,0)).1).toNat
def hdE (E:List (Int×Int)) (i:Nat):Nat:=((E.getD i (0,0)).2).toNat
def InG (n:Nat) (E:List (Int×Int)):Prop:=∀ i (hi:i<E.length),E[i]=(((tlE E i:Nat):Int),((hdE E i:Nat):Int))∧tlE E i<n∧hdE E i<n
theorem nz {β:Type} (f:β→Nat→β) (s:β) (k:Nat):(List.range (k+1)).foldl f s=f ((List.range k).foldl f s) k:=by
 rw[bT,dv]
 rfl
open Go.Blk (goE goP goN) in
set_option maxHeartbeats 2000000 in
theorem Nr {h:AH}{n f cb:Nat}{ev:AV}{E:List (Int×Int)}{c:Nat→Bool} (he:SlE h ev E) (hE:InG n E) (hxl:E.length<2 ^ 40) (hnl:n<2 ^ 40) (hf:f<n)
 (hc:h.get cb=some (.cells (bl E.length c) 1 false)) :
 C prg 41 [.agg (gW n ev),.int .i64 (f:Nat),.bool true,.sl cb 0 E.length E.length] h λr h'=>∃ b,r=.sl b 0 n n∧h.next≤b∧Ext h.next h h'∧h'.get b=some (.cells (bl n (goN E.length (tlE E) (hdE E) c n λv=>decide (v=f))) 1 false):=by
 have el:=he.len
 rw[ar] at el
 obtain⟨ec,eo⟩:=he.cells
 have hcl:=AH.lt_of_get hc
 unfold gW
 refine NX pf41 ?_
 refine ah (ak (Mi0) ?_)
 have ga:∀ c,(h.new (.cells [.int .i64 (n:Nat),ev] 2 false)).get c=if c=h.next then some (.cells [.int .i64 (n:Nat),ev] 2 false) else h.get c:=λc=>by
  rw[AH.get_new]
 have x0:Ext h.next h (h.new (.cells [.int .i64 (n:Nat),ev] 2 false)):=NU (ae _)
 have n0:(h.new (.cells [.int .i64 (n:Nat),ev] 2 false)).next=h.next+1:=rfl
 generalize (h.new (.cells [.int .i64 (n:Nat),ev] 2 false))=h1 at *
 have gA:h1.get h.next=some (.cells [.int .i64 (n:Nat),ev] 2 false):=by rw[ga,if_pos rfl]
 have rN:aj h1 h.next 0 1=some [.int .i64 (n:Nat)]:=aJ gA rfl
 have mu:=fS (h:=h1) (z:=[.bool false]) (e:=1) (bytes:=1) (n:=n) (by unfold aQ; omega) (by unfold aQ; omega)
 have x3:Ext h1.next h1 (h1.new (.cells (bX [.bool false] n) 1 false)):=NU (ae _)
 have g3:(h1.new (.cells (bX [.bool false] n) 1 false)).get h1.next=some (.cells (bX [.bool false] n) 1 false):=by rw[AH.get_new,if_pos rfl]
 have n3:(h1.new (.cells (bX [.bool false] n) 1 false)).next=h1.next+1:=rfl
 refine ah (ak (Mi2 rN mu) ?_)
 generalize (h1.new (.cells (bX [.bool false] n) 1 false))=h2 at *
 rw[oH,n0] at g3
 rw[n0] at x3 n3
 clear mu
 have X2:Ext h.next h h2:=x0.trans (x3.mono om)
 have gA2:h2.get h.next=some (.cells [.int .i64 (n:Nat),ev] 2 false):=by rw[x3.gt _ om]; exact gA
 have i0:eQ ((f:Nat):Int) n=some f:=cJ hf
 have w0:=dN (v:=.bool true) g3 (i:=f) (by rw[kr]; exact hf)
 have u0:=NW (o:=.cells ((bl n λ_=>false).set f (.bool true)) 1 false) g3
 refine ah (ak (Mi4 n0 i0 @aD w0) ?_)
 generalize (h2.put (h.next+1) (.cells ((bl n λ_=>false).set f (.bool true)) 1 false))=h3 at *
 have X3:Ext h.next h h3:=X2.trans (u0.ext om)
 have gA3:h3.get h.next=some (.cells [.int .i64 (n:Nat),ev] 2 false):=by rw[u0.ne om]; exact gA2
 have n3':h3.next=h.next+2:=by rw[u0.nx,n3]
 have g3':h3.get (h.next+1)=some (.cells (bl n λv=>decide (v=f)) 1 false):=by
  rw[u0.get,mE]
  congr 2
 refine ah (ah (ak (Mi1 n0) ?_))
 refine er (α:=Unit) (N:=n) (λk _=>[(2,.bool true),(3,.sl cb 0 E.length E.length),(4,.ptr h.next 0),(9,.sl (h.next+1) 0 n n),(10,.int .i64 (k:Nat))])
  (λk _ h'=>Ext h.next h h'∧h.next+2≤h'.next∧h'.get h.next=some (.cells [.int .i64 (n:Nat),ev] 2 false)∧h'.get (h.next+1)=some (.cells (bl n (goN E.length (tlE E) (hdE E) c k λv=>decide (v=f))) 1 false)) () (Hi2 n0 @aW)
  ⟨X3,om,gA3,g3'⟩ ?_ ?_ ?_
 ·rintro k _ ts h5 hk ⟨jx,jn,jA,j⟩ ⟨e2,e3,e4,e9,e10,-⟩
  simp only at e2 e3 e4 e9 e10
  have rN5:aj h5 h.next 0 1=some [.int .i64 (n:Nat)]:=aJ jA rfl
  exact⟨_,(M4 e4 e10 rN5 @bw),Z0,H5 e2 e3 e4 e9 e10⟩
 ·rintro k _ ts h5 hk ⟨jx,jn,jA,j⟩ ⟨e2,e3,e4,e9,e10,-⟩
  simp only at e2 e3 e4 e9 e10
  have w1:=dF (k:=k) om
  refine ah (ak (M0) ?_)
  generalize hs0:goN E.length (tlE E) (hdE E) c k (λv=>decide (v=f))=s0 at j
  refine er (α:=Unit) (N:=E.length) (λi _=>[(2,.bool true),(3,.sl cb 0 E.length E.length),(4,.ptr h.next 0),(9,.sl (h.next+1) 0 n n),(10,.int .i64 (k:Nat)),(11,.int .i64 (i:Nat))])
   (λi _ h'=>Ext h.next h h'∧h.next+2≤h'.next∧h'.get h.next=some (.cells [.int .i64 (n:Nat),ev] 2 false)∧h'.get (h.next+1)=some (.cells (bl n ((List.range i).foldl (goE (tlE E) (hdE E) c) s0)) 1 false)) () (H6 e2 e3 e4 e9 e10 @aW)
   ⟨jx,jn,jA,j⟩ ?_ ?_ ?_
  ·rintro i _ ts h6 hi ⟨jx,jn,jA,j⟩ ⟨e2,e3,e4,e9,e10,e11,-⟩
   simp only at e2 e3 e4 e9 e10 e11
   have rE:aj h6 h.next 1 1=some [ev]:=aJ jA rfl
   exact⟨_,(M5 e4 e11 rE el @bw),Z0,H6 e2 e3 e4 e9 e10 e11⟩
  ·rintro i _ ts h6 hi ⟨jx,jn,jA,j⟩ ⟨e2,e3,e4,e9,e10,e11,-⟩
   simp only at e2 e3 e4 e9 e10 e11
   have w2:=dF (k:=i) om
   obtain⟨q1,q2,q3⟩:=hE i hi
   have rE:aj h6 h.next 1 1=some [ev]:=aJ jA rfl
   obtain⟨eb,ep,a7,r7,_,_⟩:=(he.ext jx (ae _)).at (dp (f:=eE) hi)
   rw[q1] at r7
   obtain⟨h7,w7,x7,g7,n7⟩:=dI (h:=h6) (z:=[.int .i64 0,.int .i64 0]) (cs:=[.int .i64 (tlE E i:Nat),.int .i64 (hdE E i:Nat)]) (e:=2) rfl
   refine ah (ak (by simp only[am,aC,simprocAttr,e4,e11,rE,a7,r7,eE,w7]<;>rfl) ?_)
   generalize hs:(List.range i).foldl (goE (tlE E) (hdE E) c) s0=s at j
   have X7:Ext h.next h h7:=jx.trans (x7.mono om)
   have gA7:h7.get h.next=some (.cells [.int .i64 (n:Nat),ev] 2 false):=by rw[x7.gt _ om]; exact jA
   have j7:h7.get (h.next+1)=some (.cells (bl n s) 1 false):=by rw[x7.gt _ om]; exact j
   have gc7:h7.get cb=some (.cells (bl E.length c) 1 false):=by rw[X7.gt _ hcl]; exact hc
   have rc:aj h7 cb i 1=some [.bool (c i)]:=aJ gc7 (nu hi)
   have ii:eQ ((i:Nat):Int) E.length=some i:=cJ hi
   have it:eQ ((tlE E i:Nat):Int) n=some (tlE E i):=cJ q2
   have ih:eQ ((hdE E i:Nat):Int) n=some (hdE E i):=cJ q3
   have rt:aj h7 (h.next+1) (tlE E i) 1=some [.bool (s (tlE E i))]:=aJ j7 (nu q2)
   have rh:aj h7 (h.next+1) (hdE E i) 1=some [.bool (s (hdE E i))]:=aJ j7 (nu q3)
   have r0:aj h7 h6.next 0 1=some [.int .i64 (tlE E i:Nat)]:=aJ g7 rfl
   have r1:aj h7 h6.next 1 1=some [.int .i64 (hdE E i:Nat)]:=aJ g7 rfl
   cases kc:c i with
   | false =>
     rw[kc] at rc
     refine ah (ak (M5 e3 e11 ii @aD rc) ?_)
     refine cj (Z0) (be ?_)
     refine⟨(),⟨X7,om,gA7,?_⟩,_,(M2 e11 w2),H5 e2 e3 e4 e9 e10⟩
     rw[j7,nz,hs]
     congr 2
     unfold goE
     rw[if_neg (by rw[kc]; simp)]
   | true =>
   rw[kc] at rc
   by_cases ks:s (tlE E i)=true∨s (hdE E i)=true
   ·have wa:=dN (v:=.bool true) j7 (i:=hdE E i) (by rw[kr]; exact q3)
    have ua:=NW (o:=.cells ((bl n s).set (hdE E i) (.bool true)) 1 false) j7
    have rt':aj (h7.put (h.next+1) (.cells ((bl n s).set (hdE E i) (.bool true)) 1 false)) (h.next+1) (tlE E i) 1=some [.bool (if tlE E i=hdE E i then true else s (tlE E i))]:=by
     rw[mE] at ua ⊢
     exact aJ ua.get (nu q2)
    have r0':aj (h7.put (h.next+1) (.cells ((bl n s).set (hdE E i) (.bool true)) 1 false)) h6.next 0 1=some [.int .i64 (tlE E i:Nat)]:=by rw[← r0]; exact bG (ua.ne om)
    have wb:=dN (v:=.bool true) ua.get (i:=tlE E i) (by rw[dc,kr]; exact q2)
    have ub:=NW (o:=.cells (((bl n s).set (hdE E i) (.bool true)).set (tlE E i) (.bool true)) 1 false) ua.get
    have eq:bl n ((List.range (i+1)).foldl (goE (tlE E) (hdE E) c) s0)=((bl n s).set (hdE E i) (.bool true)).set (tlE E i) (.bool true):=by
     rw[nz,hs,mE,mE]
     refine jC λv _=>?_
     unfold goE
     rw[if_pos ⟨kc,ks⟩]
     by_cases e1:v=tlE E i
     ·rw[if_pos e1,aq e1]; rfl
     ·rw[if_neg e1,ai e1]
      by_cases e2:v=hdE E i
      ·rw[if_pos e2,aq e2]; rfl
      ·rw[if_neg e2,ai e2]; rfl
    rcases (show s (tlE E i)=true∨(s (tlE E i)=false∧s (hdE E i)=true) by cases q:s (tlE E i)<;>simp_all) with k1|⟨k1,k2⟩
    ·rw[k1] at rt rt'
     rw[show (if tlE E i=hdE E i then true else true)=true by split<;>rfl] at rt'
     refine ah (ak (M12 e2 e3 e9 e11 ii @aD rc it rt r0 r1 r1) ?_)
     refine bq (Z0) (ah (ak (M5 e9 r1 ih @aD wa) ?_))
     refine ak (M7 e2 e9 r0' it rt' @aD wb) ?_
     exact⟨(),⟨X7.trans ((ua.ext om).trans (ub.ext om)),by rw[ub.nx,ua.nx]; omega,by rw[ub.ne om,ua.ne om]; exact gA7,by rw[ub.get,eq]⟩,_,(M2 e11 w2),H5 e2 e3 e4 e9 e10⟩
    ·rw[k1] at rt rt'
     rw[k2] at rh
     have k3:tlE E i≠hdE E i:=λe=>by rw[e,k2] at k1; cases k1
     rw[if_neg k3] at rt'
     refine ah (ak (M14 e2 e3 e9 e11 ii @aD rc it ih rt rh r0 r1 r1) ?_)
     refine bq (Z0) (ah (ak (M5 e9 r1 ih @aD wa) ?_))
     refine ak (M7 e2 e9 r0' it rt' @aD wb) ?_
     exact⟨(),⟨X7.trans ((ua.ext om).trans (ub.ext om)),by rw[ub.nx,ua.nx]; omega,by rw[ub.ne om,ua.ne om]; exact gA7,by rw[ub.get,eq]⟩,_,(M2 e11 w2),H5 e2 e3 e4 e9 e10⟩
   ·have k1:s (tlE E i)=false:=by simpa using λe=>ks (.inl e)
    have k2:s (hdE E i)=false:=by simpa using λe=>ks (.inr e)
    rw[k1] at rt
    rw[k2] at rh
    refine ah (ak (M14 e2 e3 e9 e11 ii @aD rc it ih rt rh r0 r1 r1) ?_)
    refine cj (Z0) (be ?_)
    refine⟨(),⟨X7,om,gA7,?_⟩,_,(M2 e11 w2),H5 e2 e3 e4 e9 e10⟩
    rw[j7,nz,hs]
    congr 2
    unfold goE
    rw[if_neg (λe=>ks e.2)]
  ·rintro _ ts h6 ⟨jx,jn,jA,j⟩ ⟨e2,e3,e4,e9,e10,e11,-⟩
   simp only at e2 e3 e4 e9 e10
   refine⟨(),⟨jx,jn,jA,?_⟩,_,(M2 e10 w1),H4 e2 e3 e4 e9⟩
   rw[j,← hs0]
   rfl
 ·rintro _ ts h5 ⟨jx,jn,jA,j⟩ ⟨e2,e3,e4,e9,e10,-⟩
  simp only at e9
  refine ah (ak (M1 e9) ?_)
  exact aV ⟨_,(by simp only[rs,rf41,am,aC,simprocAttr]<;>rfl),_,rfl,om,jx,j⟩
open Go.Am
def lN (n:Nat) (p:Nat→Bool):Nat→Int
 | 0=>-1
 | k+1=>if p (n-1-k) then ((n-1-k:Nat):Int) else lN n p k
theorem ui {n:Nat}{p:Nat→Bool} (hp:∀ i,i<n→p i=false):∀ k,k≤n→lN n p k=-1
 | 0,_=>rfl
 | k+1,h=>by
   unfold lN
   rw[hp _ om]
   exact ui hp k om
theorem kI {n:Nat}{p:Nat→Bool}:∀ k,k≤n→(∃ y,n-k≤y∧y<n∧p y=true)→∃ y:Nat,lN n p k=y∧n-k≤y∧y<n∧p y=true∧∀ z,n-k≤z→z<y→p z=false
 | 0,_,⟨y,h1,h2,_⟩=>by omega
 | k+1,h,⟨y,h1,h2,h3⟩=>by
   unfold lN
   cases q:p (n-1-k) with
   | true=>exact⟨n-1-k,by simp,om,om,q,λz _ _=>by omega⟩
   | false =>
     have hy:n-k≤y:=by
      rcases dl y (n-k) with hlt|hge
      ·have:y=n-1-k:=om
       rw[this,q] at h3; cases h3
      ·exact hge
     obtain⟨y',e1,e2,e3,e4,e5⟩:=kI k om ⟨y,hy,h2,h3⟩
     refine⟨y',by simpa using e1,om,e3,e4,λz z1 z2=>?_⟩
     rcases dl z (n-k) with hlt|hge
     ·have:z=n-1-k:=om
      rw[this,q]
     ·exact e5 z hge z2
theorem rS {n:Nat}{p q:Nat→Bool} (h:∀ i,i<n→p i=q i):∀ k,k≤n→lN n p k=lN n q k
 | 0,_=>rfl
 | k+1,hk=>by
   unfold lN
   rw[h _ om,rS h k om]
open Go.Blk (goN) in
def cU (n:Nat) (E:List (Int×Int)) (o:Nat→Bool) (x:Nat):Int :=
 lN n (λy=>goN E.length (tlE E) (hdE E) (λi=>!(o (tlE E i))&&!(o (hdE E i))) n (λv=>decide (v=x)) y&&!(o x)) n
def oa (n:Nat) (E:List (Int×Int)) (o:Nat→Bool) (k:Nat):List AV:=((List.range k).map (cU n E o)).flatMap eI
theorem zj {n:Nat}{E:List (Int×Int)}{o:Nat→Bool}{k:Nat}:oa n E o (k+1)=oa n E o k++[.int .i64 (cU n E o k)]:=by
 unfold oa
 rw[bT,br,cI]
 rfl
theorem tW {n:Nat}{E:List (Int×Int)}{o:Nat→Bool}{k:Nat}:(oa n E o k).length=k:=by
 unfold oa
 rw[dZ (f:=eI) (e:=1) (λ_=>rfl),ar,aZ,aD]
set_option maxHeartbeats 2000000 in
theorem oZ {h:AH}{n ob:Nat}{ev:AV}{E:List (Int×Int)}{o:Nat→Bool} (he:SlE h ev E) (hE:InG n E) (hxl:E.length<2 ^ 40) (hnl:n<2 ^ 30)
 (ho:h.get ob=some (.cells (bl n o) 1 false)) :
 C prg 20 [.agg (gW n ev),.sl ob 0 n n] h λr h'=>Ext h.next h h'∧IsSl h' 1 h.next r (oa n E o n):=by
 have el:=he.len
 rw[ar] at el
 obtain⟨ec,eo⟩:=he.cells
 have hol:=AH.lt_of_get ho
 refine NX pf20 ?_
 have hEv:∀ {h':AH},SlE h' ev E→_:=fun {h'} q=>Ca (n:=n) q hxl
 have hGo:∀ {h':AH}{f cb:Nat}{c:Nat→Bool},SlE h' ev E→f<n→h'.get cb=some (.cells (bl E.length c) 1 false)→_:=fun {h' f cb c} q1 q2 q3=>Nr (n:=n) (c:=c) q1 hE hxl om q2 q3
 unfold gW at hEv hGo ⊢
 refine ah (ak (Mi0) ?_)
 have ga:∀ c,(h.new (.cells [.int .i64 (n:Nat),ev] 2 false)).get c=if c=h.next then some (.cells [.int .i64 (n:Nat),ev] 2 false) else h.get c:=λc=>by
  rw[AH.get_new]
 have x0:Ext h.next h (h.new (.cells [.int .i64 (n:Nat),ev] 2 false)):=NU (ae _)
 have n0:(h.new (.cells [.int .i64 (n:Nat),ev] 2 false)).next=h.next+1:=rfl
 generalize (h.new (.cells [.int .i64 (n:Nat),ev] 2 false))=h1 at *
 have gA:h1.get h.next=some (.cells [.int .i64 (n:Nat),ev] 2 false):=by rw[ga,if_pos rfl]
 have rA:aj h1 h.next 0 2=some [.int .i64 (n:Nat),ev]:=by rw[aP gA]; rfl
 refine ah (bF (bg 1 (Mi1 rA) rfl (Zi1 rA) (Mi1 rA) (hEv (he.ext x0 (ae _))) λr h2 hq=>?_))
 obtain⟨cb,rfl,hcb,x2,g2⟩:=hq
 rw[n0] at hcb x2
 refine bp (M0) ?_
 have X2:Ext h.next h h2:=x0.trans (x2.mono om)
 have gA2:h2.get h.next=some (.cells [.int .i64 (n:Nat),ev] 2 false):=by rw[x2.gt _ om]; exact gA
 have n2:=x2.nx
 refine ah (ah (ak (M0) ?_))
 refine er (α:=Unit) (N:=E.length) (λk _=>[(1,.sl ob 0 n n),(2,.ptr h.next 0),(5,.sl cb 0 E.length E.length),(6,.int .i64 (k:Nat))])
  (λk _ h'=>Ext h.next h h'∧h.next+1≤h'.next∧h'.get h.next=some (.cells [.int .i64 (n:Nat),ev] 2 false)∧h'.get cb=some (.cells (bl E.length λi=>if i<k then !(o (tlE E i))&&!(o (hdE E i)) else true) 1 false)) () (Hi1 @aW)
  ⟨X2,om,gA2,by rw[g2]; simp⟩ ?_ ?_ ?_
 ·rintro k _ ts h5 hk ⟨jx,jn,jA,j⟩ ⟨e1,e2,e5,e6,-⟩
  simp only at e1 e2 e5 e6
  have rE:aj h5 h.next 1 1=some [ev]:=aJ jA rfl
  exact⟨_,(M5 e2 e6 rE el @bw),Z0,H4 e1 e2 e5 e6⟩
 ·rintro k _ ts h5 hk ⟨jx,jn,jA,j⟩ ⟨e1,e2,e5,e6,-⟩
  simp only at e1 e2 e5 e6
  have w1:=dF (k:=k) om
  obtain⟨q1,q2,q3⟩:=hE k hk
  have rE:aj h5 h.next 1 1=some [ev]:=aJ jA rfl
  obtain⟨eb,ep,a7,_,r7,_⟩:=(he.ext jx (ae _)).at (dp (f:=eE) hk)
  rw[q1] at r7
  have r70:=r7 0 (.int .i64 (tlE E k:Nat)) rfl
  have r71:=r7 1 (.int .i64 (hdE E k:Nat)) rfl
  rw[ce] at r70
  have go5:h5.get ob=some (.cells (bl n o) 1 false):=by rw[jx.gt _ hol]; exact ho
  have rt:aj h5 ob (tlE E k) 1=some [.bool (o (tlE E k))]:=aJ go5 (nu q2)
  have rh:aj h5 ob (hdE E k) 1=some [.bool (o (hdE E k))]:=aJ go5 (nu q3)
  have ii:eQ ((k:Nat):Int) E.length=some k:=cJ hk
  have it:eQ ((tlE E k:Nat):Int) n=some (tlE E k):=cJ q2
  have ih:eQ ((hdE E k:Nat):Int) n=some (hdE E k):=cJ q3
  have wu:=λb=>dN (v:=.bool b) j (i:=k) (by rw[kr]; exact hk)
  have uu:=λb=>NW (o:=.cells ((bl E.length λi=>if i<k then !(o (tlE E i))&&!(o (hdE E i)) else true).set k (.bool b)) 1 false) j
  have eq:∀ b,b=(!(o (tlE E k))&&!(o (hdE E k)))→(bl E.length λi=>if i<k then !(o (tlE E i))&&!(o (hdE E i)) else true).set k (.bool b)=bl E.length λi=>if i<k+1 then !(o (tlE E i))&&!(o (hdE E i)) else true:=λb hb=>by
   rw[mE,hb]
   refine jC λi _=>?_
   by_cases e:i=k
   ·subst e; rw[if_pos rfl,if_pos om]
   ·rw[if_neg e]
    by_cases e2:i<k
    ·rw[if_pos e2,if_pos om]
    ·rw[if_neg e2,if_neg om]
  cases ot:o (tlE E k) with
  | true =>
    rw[ot] at rt
    refine ak (M12 e1 e2 e5 e6 rE a7 r70 it ii @aD rt (wu false)) ?_
    exact⟨(),⟨jx.trans ((uu false).ext om),by rw[(uu false).nx]; omega,by rw[(uu false).ne om]; exact jA,by rw[(uu false).get,eq false (by rw[ot]; rfl)]⟩,_,(M2 e6 w1),H3 e1 e2 e5⟩
  | false =>
    rw[ot] at rt
    refine ak (by simp only[am,aC,simprocAttr,e1,e2,e5,e6,rE,a7,r70,r71,it,ih,ii,aD,rt,rh,wu (!(o (hdE E k)))]<;>rfl) ?_
    exact⟨(),⟨jx.trans ((uu _).ext om),by rw[(uu _).nx]; omega,by rw[(uu _).ne om]; exact jA,by rw[(uu _).get,eq _ (by rw[ot]; rfl)]⟩,_,(M2 e6 w1),H3 e1 e2 e5⟩
 rintro _ ts h5 ⟨jx,jn,jA,j⟩ ⟨e1,e2,e5,e6,-⟩
 simp only at e1 e2 e5
 have j':h5.get cb=some (.cells (bl E.length λi=>!(o (tlE E i))&&!(o (hdE E i))) 1 false):=by
  rw[j]
  congr 2
  exact jC λi hi=>by rw[if_pos hi]
 have hcb5:=AH.lt_of_get j'
 clear j g2 gA2
 have x3:Ext h5.next h5 (h5.new (.cells [] 1 false)):=NU (ae _)
 have g3:(h5.new (.cells [] 1 false)).get h5.next=some (.cells [] 1 false):=by rw[AH.get_new,if_pos rfl]
 have n3:(h5.new (.cells [] 1 false)).next=h5.next+1:=rfl
 refine ah (ak (M1 e1) ?_)
 generalize (h5.new (.cells [] 1 false))=h6 at *
 refine ah (ah (ak (M0) ?_))
 refine er (α:=AV) (N:=n) (λk a=>[(1,.sl ob 0 n n),(2,.ptr h.next 0),(5,.sl cb 0 E.length E.length),(7,a),(8,.int .i64 (k:Nat))])
  (λk a h'=>Ext h5.next h5 h'∧IsSl h' 1 h5.next a (oa n E o k)) (.sl h5.next 0 0 0) (H4 e1 e2 e5 @aW)
  ⟨x3,.inr ⟨h5.next,0,ae _,rfl,g3,rfl⟩⟩ ?_ ?_ ?_
 ·clear e1 e2 e5
  rintro k a ts h7 hk ⟨kx,k1⟩ ⟨e1,e2,e5,e7,e8,-⟩
  simp only at e1 e2 e5 e7 e8
  have rN:aj h7 h.next 0 1=some [.int .i64 (n:Nat)]:=aJ (by rw[kx.gt _ om]; exact jA) rfl
  exact⟨_,(M4 e2 e8 rN @bw),Z0,H5 e1 e2 e5 e7 e8⟩
 ·clear e1 e2 e5
  rintro k a ts h7 hk ⟨kx,k1⟩ ⟨e1,e2,e5,e7,e8,-⟩
  simp only at e1 e2 e5 e7 e8
  have w1:=dF (k:=k) om
  have gA7:h7.get h.next=some (.cells [.int .i64 (n:Nat),ev] 2 false):=by rw[kx.gt _ om]; exact jA
  have rA7:aj h7 h.next 0 2=some [.int .i64 (n:Nat),ev]:=by rw[aP gA7]; rfl
  have gc7:h7.get cb=some (.cells (bl E.length λi=>!(o (tlE E i))&&!(o (hdE E i))) 1 false):=by rw[kx.gt _ hcb5]; exact j'
  have X7:Ext h.next h h7:=jx.trans (kx.mono jx.nx)
  refine ah (ak (M1 e1) ?_)
  refine ah (bF (bg 3 (M4 e2 e5 e8 rA7) rfl (Z4 e2 e5 e8 rA7) (M4 e2 e5 e8 rA7) (hGo (he.ext X7 (ae _)) hk gc7) λr h8 hq=>?_))
  obtain⟨sb,rfl,hsb,x8,g8⟩:=hq
  refine bp (M0) ?_
  have kn:=kx.nx
  have gA8:h8.get h.next=some (.cells [.int .i64 (n:Nat),ev] 2 false):=by rw[x8.gt _ om]; exact gA7
  have rN8:aj h8 h.next 0 1=some [.int .i64 (n:Nat)]:=aJ gA8 rfl
  have X8:Ext h.next h h8:=X7.trans (x8.mono X7.nx)
  have go8:h8.get ob=some (.cells (bl n o) 1 false):=by rw[X8.gt _ hol]; exact ho
  have ro8:aj h8 ob k 1=some [.bool (o k)]:=aJ go8 (nu hk)
  have ik:eQ ((k:Nat):Int) n=some k:=cJ hk
  have wn:IntKind.i64.wrap (((n:Nat):Int)-1)=((n:Nat):Int)-1:=fp om om
  generalize hp:Go.Blk.goN E.length (tlE E) (hdE E) (λi=>!(o (tlE E i))&&!(o (hdE E i))) n (λv=>decide (v=k))=s at g8
  refine ah (ah (ak (M3 e2 rN8 wn) ?_))
  refine er (α:=Unit) (N:=n) (λy _=>[(1,.sl ob 0 n n),(2,.ptr h.next 0),(5,.sl cb 0 E.length E.length),(7,a),(8,.int .i64 (k:Nat)),(9,.int .i64 (lN n (λy=>s y&&!(o k)) y)),(10,.sl sb 0 n n),(11,.int .i64 (((n:Nat):Int)-1-((y:Nat):Int)))])
   (λy _ h'=>h8=h') () (by simp only[hl,am,aC,simprocAttr,e1,e2,e5,e7,e8,lN,aW,Int.sub_zero]) rfl ?_ ?_ ?_
  ·clear e1 e2 e5 e7 e8
   rintro y _ ts _ hy rfl ⟨e1,e2,e5,e7,e8,e9,e10,e11,-⟩
   simp only at e1 e2 e5 e7 e8 e9 e10 e11
   have c1:decide ((0:Int)≤((n:Nat):Int)-1-((y:Nat):Int))=decide (y<n):=by simp only[decide_eq_decide]; omega
   exact⟨_,(by simp only[am,aC,simprocAttr,e11,ge_iff_le,c1]<;>rfl),Z0,H8 e1 e2 e5 e7 e8 e9 e10 e11⟩
  ·clear e1 e2 e5 e7 e8
   rintro y _ ts _ hy rfl ⟨e1,e2,e5,e7,e8,e9,e10,e11,-⟩
   simp only at e1 e2 e5 e7 e8 e9 e10 e11
   have ey:((n:Nat):Int)-1-((y:Nat):Int)=((n-1-y:Nat):Int):=om
   rw[ey] at e11
   have wy:IntKind.i64.wrap (((n-1-y:Nat):Int)-1)=((n:Nat):Int)-1-((y+1:Nat):Int):=by rw[fp om om]; omega
   have iy:eQ ((n-1-y:Nat):Int) n=some (n-1-y):=cJ om
   have rs:aj h8 sb (n-1-y) 1=some [.bool (s (n-1-y))]:=aJ g8 (nu om)
   cases ks:s (n-1-y) with
   | false =>
     rw[ks] at rs
     have hl0:lN n (λy=>s y&&!(o k)) (y+1)=lN n (λy=>s y&&!(o k)) y:=by
      show (if (s (n-1-y)&&!(o k))=true then _ else _)=_
      rw[ks]; rfl
     refine ah (ak (by simp only[am,aC,simprocAttr,e10,e11,iy,aD,rs]<;>rfl) ?_)
     refine cj (Z0) (be ?_)
     exact⟨(),rfl,_,(M2 e11 wy),H8 e1 e2 e5 e7 e8 e9 e10 hl0⟩
   | true =>
     rw[ks] at rs
     rcases Bool.eq_false_or_eq_true (o k) with ko|ko
     ·rw[ko] at ro8
      have hl0:lN n (λy=>s y&&!(o k)) (y+1)=lN n (λy=>s y&&!(o k)) y:=by
       show (if (s (n-1-y)&&!(o k))=true then _ else _)=_
       rw[ks,ko]; rfl
      refine ah (ak (by simp only[am,aC,simprocAttr,e1,e8,e10,e11,iy,ik,aD,rs,ro8]<;>rfl) ?_)
      refine cj (Z0) (be ?_)
      exact⟨(),rfl,_,(M2 e11 wy),H8 e1 e2 e5 e7 e8 e9 e10 hl0⟩
     ·rw[ko] at ro8
      have hl0:lN n (λy=>s y&&!(o k)) (y+1)=((n-1-y:Nat):Int):=by
       show (if (s (n-1-y)&&!(o k))=true then _ else _)=_
       rw[ks,ko]; rfl
      refine ah (ak (by simp only[am,aC,simprocAttr,e1,e8,e10,e11,iy,ik,aD,rs,ro8]<;>rfl) ?_)
      refine bq (Z0) (ak (M1 e11) ?_)
      exact⟨(),rfl,_,(M2 e11 wy),H7 e1 e2 e5 e7 e8 e10 hl0⟩
  ·clear e1 e2 e5 e7 e8
   rintro _ ts _ rfl ⟨e1,e2,e5,e7,e8,e9,e10,e11,-⟩
   simp only at e1 e2 e5 e7 e8 e9
   have k8:=k1.ext (x8.mono (ae _)) (ae _)
   obtain⟨s',h9,a9,i9,x9,n9⟩:=k8.push (bytes:=8) [.int .i64 (lN n (λy=>s y&&!(o k)) n)] (by have:=x8.nx; omega) om rfl rfl (by rw[tW,jH]; unfold aQ; omega) (by rw[tW,jH]; unfold aQ; omega)
   refine ak (M3 e7 e9 a9) ?_
   refine⟨s',⟨kx.trans ((x8.mono kn).trans x9),?_⟩,_,(M2 e8 w1),H3 e1 e2 e5⟩
   rw[zj,show cU n E o k=lN n (λy=>s y&&!(o k)) n by unfold cU; rw[hp]]
   exact i9
 ·clear e1 e2 e5
  rintro a ts h7 ⟨kx,k1⟩ ⟨e1,e2,e5,e7,e8,-⟩
  simp only at e7
  have c7:=k1.cells
  refine ah (ak (M1 e7) ?_)
  exact aV ⟨a,(by simp only[rs,rf20,am,aC,simprocAttr,c7.1]<;>rfl),jx.trans (kx.mono jx.nx),k1.mono jx.nx⟩
open Go.Blk
def grE (n:Nat) (E:List (Int×Int)) (hE:InG n E) (hl:∀ i,i<E.length→tlE E i≠hdE E i):Gr:=⟨E.length,n,tlE E,hdE E,λi hi=>⟨(hE i hi).2.1,(hE i hi).2.2,hl i hi⟩⟩
section
variable {n:Nat}{E:List (Int×Int)} (hE:InG n E) (hl:∀ i,i<E.length→tlE E i≠hdE E i)
theorem kL {x u:Nat} (hu:u≠x) (hun:u<n) (y:Nat) :
 goN E.length (tlE E) (hdE E) (λi=>!(decide (tlE E i=x))&&!(decide (hdE E i=x))) n (λv=>decide (v=u)) y=true↔Conn (grE n E hE hl) (·≠x) u y:=by
 rw[go_ok (λi hi=>(hE i hi).2) hun]
 exact Gf (g:=grE n E hE hl) hu
theorem fD {x u v:Nat} (hu:u≠x) (hv:v≠x) (hun:u<n) (hvn:v<n) :
 cU n E (λv=>decide (v=x)) u=cU n E (λv=>decide (v=x)) v↔Conn (grE n E hE hl) (·≠x) u v:=by
 have ku:(!(decide (u=x)))=true:=by simpa using hu
 have kv:(!(decide (v=x)))=true:=by simpa using hv
 unfold cU
 simp only[ku,kv,iW]
 constructor
 ·intro h
  obtain⟨y1,a1,_,_,a2,_⟩:=kI (n:=n) (p:=λy=>goN E.length (tlE E) (hdE E) (λi=>!(decide (tlE E i=x))&&!(decide (hdE E i=x))) n (λv=>decide (v=u)) y) n (ae _) ⟨u,om,hun,(kL hE hl hu hun u).2 (.refl hu)⟩
  obtain⟨y2,b1,_,_,b2,_⟩:=kI (n:=n) (p:=λy=>goN E.length (tlE E) (hdE E) (λi=>!(decide (tlE E i=x))&&!(decide (hdE E i=x))) n (λz=>decide (z=v)) y) n (ae _) ⟨v,om,hvn,(kL hE hl hv hvn v).2 (.refl hv)⟩
  have e:y1=y2:=by
   have:=a1.symm.trans (h.trans b1)
   omega
  subst e
  exact ((kL hE hl hu hun y1).1 a2).trans ((kL hE hl hv hvn y1).1 b2).symm
 ·intro h
  refine rS (λy _=>?_) n (ae _)
  rw[cW,kL hE hl hu hun,kL hE hl hv hvn]
  exact⟨λq=>h.symm.trans q,λq=>h.trans q⟩
end
def qw (m:Nat) (l:Nat→Nat):Nat:=((List.range m).map l).sum
theorem mN (m:Nat) (l:Nat→Nat):qw (m+1) l=qw m l+l m:=by
 unfold qw
 rw[bT,br,mK]
 simp
theorem vh {l l':Nat→Nat}:∀ m,(∀ i,i<m→l i≤l' i)→qw m l≤qw m l'
 | 0,_=>ae _
 | m+1,h=>by
   rw[mN,mN]
   have:=vh m λi hi=>h i om
   have:=h m om
   omega
theorem An {l l':Nat→Nat}:∀ m,(∀ i,i<m→l i≤l' i)→(∃ i,i<m∧l i<l' i)→qw m l<qw m l'
 | 0,_,⟨i,hi,_⟩=>by omega
 | m+1,h,⟨i,hi,hlt⟩=>by
   rw[mN,mN]
   have h1:=vh m λi hi=>h i om
   have h2:=h m om
   rcases dl i m with q|q
   ·have:=An m (λi hi=>h i om) ⟨i,q,hlt⟩
    omega
   ·have:i=m:=om
    subst this
    omega
structure InvL (g:Gr) (l:Nat→Nat):Prop where
 cls:∀ i,i<g.m→Cls g i (l i)
 le:∀ i,i<g.m→l i≤i
def Lk (g:Gr) (x i k:Nat):Prop:=g.inc i x∧g.inc k x∧Conn g (·≠x) (g.oth i x) (g.oth k x)
def upL (l:Nat→Nat) (i k:Nat):Nat→Nat:=λj=>if j=k then min (l i) (l k) else if j=i then min (l i) (l k) else l j
structure Rnd (g:Gr) (l0 l:Nat→Nat) (more:Bool) (D:Nat→Nat→Nat→Prop):Prop where
 inv:InvL g l
 le:∀ i,i<g.m→l i≤l0 i
 yes:more=true→qw g.m l<qw g.m l0
 no:more=false→(∀ i,i<g.m→l i=l0 i)∧∀ x i k,D x i k→Lk g x i k→l0 i=l0 k
theorem Rnd.up {g:Gr}{l0 l:Nat→Nat}{more:Bool}{D D':Nat→Nat→Nat→Prop}{x i k:Nat} (h:Rnd g l0 l more D) (hk:Lk g x i k) (hne:l i≠l k):Rnd g l0 (upL l i k) true D':=by
 obtain⟨a,b,c⟩:=hk
 have hm:Cls g i k:=.one ⟨x,a,b,c⟩
 have hi:=a.1
 have hk:=b.1
 have le:∀ j,j<g.m→upL l i k j≤l j:=λj _=>by
  unfold upL
  split
  ·next e=>subst e; omega
  ·split
   ·next e=>subst e; omega
   ·omega
 refine⟨⟨λj hj=>?_,λj hj=>bW (le j hj) (h.inv.le j hj)⟩,λj hj=>bW (le j hj) (h.le j hj),λ_=>?_,λe=>by cases e⟩
 ·have ci:=h.inv.cls i hi
  have ck:=h.inv.cls k hk
  unfold upL
  split
  ·next e =>
   subst e
   rcases Nat.le_total (l i) (l j) with q|q
   ·rw[dA q]; exact hm.symm.trans ci
   ·rw[qC q]; exact ck
  ·split
   ·next e =>
    subst e
    rcases Nat.le_total (l j) (l k) with q|q
    ·rw[dA q]; exact ci
    ·rw[qC q]; exact hm.trans ck
   ·exact h.inv.cls j hj
 ·refine cY (An g.m le ?_) (vh g.m h.le)
  rcases Nat.lt_or_gt_of_ne hne with q|q
  ·exact⟨k,hk,by unfold upL; rw[if_pos rfl]; omega⟩
  ·refine⟨i,hi,?_⟩
   unfold upL
   split
   ·next e=>subst e; omega
   ·rw[if_pos rfl]; omega
theorem Rnd.keep {g:Gr}{l0 l:Nat→Nat}{more:Bool}{D D':Nat→Nat→Nat→Prop} (h:Rnd g l0 l more D) (hD:∀ x i k,D' x i k→D x i k∨(Lk g x i k→l i=l k)):Rnd g l0 l more D':=by
 refine⟨h.inv,h.le,h.yes,λe=>?_⟩
 obtain⟨a,b⟩:=h.no e
 refine⟨a,λx i k hd hk=>?_⟩
 rcases hD x i k hd with q|q
 ·exact b x i k q hk
 ·rw[← a i hk.1.1,← a k hk.2.1.1]
  exact q hk
theorem Rnd.lst {g:Gr}{l0 l:Nat→Nat}{D:Nat→Nat→Nat→Prop} (h:Rnd g l0 l false D) (hD:∀ x i k,x<g.n→i<g.m→k<g.m→D x i k):Lst g l:=by
 obtain⟨a,b⟩:=h.no rfl
 refine⟨h.inv.cls,h.inv.le,λi k hi hk r=>?_⟩
 rw[a i hi,a k hk]
 obtain⟨x,r1,r2,r3⟩:=r
 exact b x i k (hD x i k (inc_lt r1) hi hk) ⟨r1,r2,r3⟩
end Go.Proofs.YthbmhbldmcbnpaaGreatDoor
