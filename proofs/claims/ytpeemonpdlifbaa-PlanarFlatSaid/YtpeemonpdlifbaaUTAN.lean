/- arborref03.Part -/
import Derived.Test.YtpeemonpdlifbaaUTAF
import Derived.Test.YtpeemonpdlifbaaUTAM
import Derived.Test.YtpeemonpdlifbaaUTAD
set_option linter.all false
namespace Go.Proofs.Ytpeemonpdlifbaa
open Go.Am
def pj (n:Nat) (p:Nat→Bool):Nat→Int
 | 0=>-1
 | k+1=>if p (n-1-k) then ((n-1-k:Nat):Int) else pj n p k
theorem tF {n:Nat}{p:Nat→Bool}:∀ k,k≤n→(∃ y,n-k≤y∧y<n∧p y=true)→∃ y:Nat,pj n p k=y∧n-k≤y∧y<n∧p y=true∧∀ z,n-k≤z→z<y→p z=false
 | 0,_,⟨y,h1,h2,_⟩=>by omega
 | k+1,h,⟨y,h1,h2,h3⟩=>by
   unfold pj
   cases q:p (n-1-k) with
   | true=>exact⟨n-1-k,by simp,om,om,q,λz _ _=>by omega⟩
   | false =>
     have hy:n-k≤y:=by
      rcases bO y (n-k) with hlt|hge
      ·have:y=n-1-k:=om
       rw[this,q] at h3; cases h3
      ·exact hge
     obtain⟨y',e1,e2,e3,e4,e5⟩:=tF k om ⟨y,hy,h2,h3⟩
     refine⟨y',by simpa using e1,om,e3,e4,λz z1 z2=>?_⟩
     rcases bO z (n-k) with hlt|hge
     ·have:z=n-1-k:=om
      rw[this,q]
     ·exact e5 z hge z2
open Go.Blk (goN) in
def lV (n:Nat) (E:List (Int×Int)) (o:Nat→Bool) (x:Nat):Int :=
 pj n (λy=>goN E.length (tlE E) (hdE E) (λi=>!(o (tlE E i))&&!(o (hdE E i))) n (λv=>decide (v=x)) y&&!(o x)) n
def qZ (n:Nat) (E:List (Int×Int)) (o:Nat→Bool) (k:Nat):List AV:=((List.range k).map (lV n E o)).flatMap eI
theorem yR {n:Nat}{E:List (Int×Int)}{o:Nat→Bool}{k:Nat}:qZ n E o (k+1)=qZ n E o k++[.int .i64 (lV n E o k)]:=by
 unfold qZ
 rw[bS,dK,dV]
 rfl
theorem tz {n:Nat}{E:List (Int×Int)}{o:Nat→Bool}{k:Nat}:(qZ n E o k).length=k:=by
 unfold qZ
 rw[fN (f:=eI) (e:=1) (λ_=>rfl),ah,bR,aM]
set_option maxHeartbeats 2000000 in
theorem BC {h:AH}{n ob:Nat}{ev:AV}{E:List (Int×Int)}{o:Nat→Bool} (he:SlE h ev E) (hE:InG n E) (hxl:E.length<2 ^ 40) (hnl:n<2 ^ 30)
 (ho:h.get ob=some (.cells (bl n o) 1 false)) :
 C prg 27 [.agg (gW n ev),.sl ob 0 n n] h λr h'=>Ext h.next h h'∧IsSl h' 1 h.next r (qZ n E o n):=by
 have el:=he.len
 rw[ah] at el
 obtain⟨ec,eo⟩:=he.cells
 have hol:=AH.lt_of_get ho
 refine Kl pf27 ?_
 have hEv:∀ {h':AH},SlE h' ev E→_:=fun {h'} q=>BG (n:=n) q hxl
 have hGo:∀ {h':AH}{f cb:Nat}{c:Nat→Bool},SlE h' ev E→f<n→h'.get cb=some (.cells (bl E.length c) 1 false)→_:=fun {h' f cb c} q1 q2 q3=>Jv (n:=n) (c:=c) q1 hE hxl om q2 q3
 unfold gW at hEv hGo ⊢
 refine ae (ar (Mi0) ?_)
 have ga:∀ c,(h.new (.cells [.int .i64 (n:Nat),ev] 2 false)).get c=if c=h.next then some (.cells [.int .i64 (n:Nat),ev] 2 false) else h.get c:=λc=>by
  rw[AH.get_new]
 have x0:Ext h.next h (h.new (.cells [.int .i64 (n:Nat),ev] 2 false)):=Ki (ab _)
 have n0:(h.new (.cells [.int .i64 (n:Nat),ev] 2 false)).next=h.next+1:=rfl
 generalize (h.new (.cells [.int .i64 (n:Nat),ev] 2 false))=h1 at *
 have gA:h1.get h.next=some (.cells [.int .i64 (n:Nat),ev] 2 false):=by rw[ga,if_pos rfl]
 have rA:ak h1 h.next 0 2=some [.int .i64 (n:Nat),ev]:=by rw[aU gA]; rfl
 refine ae (bW (bt 1 (Mi1 rA) rfl (Zi1 rA) (Mi1 rA) (hEv (he.ext x0 (ab _))) λr h2 hq=>?_))
 obtain⟨cb,rfl,hcb,x2,g2⟩:=hq
 rw[n0] at hcb x2
 refine bK (M0) ?_
 have X2:Ext h.next h h2:=x0.trans (x2.mono om)
 have gA2:h2.get h.next=some (.cells [.int .i64 (n:Nat),ev] 2 false):=by rw[x2.gt _ om]; exact gA
 have n2:=x2.nx
 refine ae (ae (ar (M0) ?_))
 refine gU (α:=Unit) (N:=E.length) (λk _=>[(1,.sl ob 0 n n),(2,.ptr h.next 0),(5,.sl cb 0 E.length E.length),(6,.int .i64 (k:Nat))])
  (λk _ h'=>Ext h.next h h'∧h.next+1≤h'.next∧h'.get h.next=some (.cells [.int .i64 (n:Nat),ev] 2 false)∧h'.get cb=some (.cells (bl E.length λi=>if i<k then !(o (tlE E i))&&!(o (hdE E i)) else true) 1 false)) () (Hi1 @bh)
  ⟨X2,om,gA2,by rw[g2]; simp⟩ ?_ ?_ ?_
 ·rintro k _ ts h5 hk ⟨jx,jn,jA,j⟩ ⟨e1,e2,e5,e6,-⟩
  simp only at e1 e2 e5 e6
  have rE:ak h5 h.next 1 1=some [ev]:=bd jA rfl
  exact⟨_,(M5 e2 e6 rE el @cX),Z0,H4 e1 e2 e5 e6⟩
 ·rintro k _ ts h5 hk ⟨jx,jn,jA,j⟩ ⟨e1,e2,e5,e6,-⟩
  simp only at e1 e2 e5 e6
  have w1:=me (k:=k) om
  obtain⟨q1,q2,q3⟩:=hE k hk
  have rE:ak h5 h.next 1 1=some [ev]:=bd jA rfl
  obtain⟨eb,ep,a7,_,r7,_⟩:=(he.ext jx (ab _)).at (fy (f:=eE) hk)
  rw[q1] at r7
  have r70:=r7 0 (.int .i64 (tlE E k:Nat)) rfl
  have r71:=r7 1 (.int .i64 (hdE E k:Nat)) rfl
  rw[cS] at r70
  have go5:h5.get ob=some (.cells (bl n o) 1 false):=by rw[jx.gt _ hol]; exact ho
  have rt:ak h5 ob (tlE E k) 1=some [.bool (o (tlE E k))]:=bd go5 (iu q2)
  have rh:ak h5 ob (hdE E k) 1=some [.bool (o (hdE E k))]:=bd go5 (iu q3)
  have ii:fM ((k:Nat):Int) E.length=some k:=dm hk
  have it:fM ((tlE E k:Nat):Int) n=some (tlE E k):=dm q2
  have ih:fM ((hdE E k:Nat):Int) n=some (hdE E k):=dm q3
  have wu:=λb=>fV (v:=.bool b) j (i:=k) (by rw[jt]; exact hk)
  have uu:=λb=>Kk (o:=.cells ((bl E.length λi=>if i<k then !(o (tlE E i))&&!(o (hdE E i)) else true).set k (.bool b)) 1 false) j
  have eq:∀ b,b=(!(o (tlE E k))&&!(o (hdE E k)))→(bl E.length λi=>if i<k then !(o (tlE E i))&&!(o (hdE E i)) else true).set k (.bool b)=bl E.length λi=>if i<k+1 then !(o (tlE E i))&&!(o (hdE E i)) else true:=λb hb=>by
   rw[kC,hb]
   refine mI λi _=>?_
   by_cases e:i=k
   ·subst e; rw[if_pos rfl,if_pos om]
   ·rw[if_neg e]
    by_cases e2:i<k
    ·rw[if_pos e2,if_pos om]
    ·rw[if_neg e2,if_neg om]
  cases ot:o (tlE E k) with
  | true =>
    rw[ot] at rt
    refine ar (by simp only[am,aC,simprocAttr,e1,e2,e5,e6,rE,a7,r70,it,ii,aM,rt,wu false]<;>rfl) ?_
    exact⟨(),⟨jx.trans ((uu false).ext om),by rw[(uu false).nx]; omega,by rw[(uu false).ne om]; exact jA,by rw[(uu false).get,eq false (by rw[ot]; rfl)]⟩,_,(M2 e6 w1),H3 e1 e2 e5⟩
  | false =>
    rw[ot] at rt
    refine ar (by simp only[am,aC,simprocAttr,e1,e2,e5,e6,rE,a7,r70,r71,it,ih,ii,aM,rt,rh,wu (!(o (hdE E k)))]<;>rfl) ?_
    exact⟨(),⟨jx.trans ((uu _).ext om),by rw[(uu _).nx]; omega,by rw[(uu _).ne om]; exact jA,by rw[(uu _).get,eq _ (by rw[ot]; rfl)]⟩,_,(M2 e6 w1),H3 e1 e2 e5⟩
 rintro _ ts h5 ⟨jx,jn,jA,j⟩ ⟨e1,e2,e5,e6,-⟩
 simp only at e1 e2 e5
 have j':h5.get cb=some (.cells (bl E.length λi=>!(o (tlE E i))&&!(o (hdE E i))) 1 false):=by
  rw[j]
  congr 2
  exact mI λi hi=>by rw[if_pos hi]
 have hcb5:=AH.lt_of_get j'
 clear j g2 gA2
 have x3:Ext h5.next h5 (h5.new (.cells [] 1 false)):=Ki (ab _)
 have g3:(h5.new (.cells [] 1 false)).get h5.next=some (.cells [] 1 false):=by rw[AH.get_new,if_pos rfl]
 have n3:(h5.new (.cells [] 1 false)).next=h5.next+1:=rfl
 refine ae (ar (M1 e1) ?_)
 generalize (h5.new (.cells [] 1 false))=h6 at *
 refine ae (ae (ar (M0) ?_))
 refine gU (α:=AV) (N:=n) (λk a=>[(1,.sl ob 0 n n),(2,.ptr h.next 0),(5,.sl cb 0 E.length E.length),(7,a),(8,.int .i64 (k:Nat))])
  (λk a h'=>Ext h5.next h5 h'∧IsSl h' 1 h5.next a (qZ n E o k)) (.sl h5.next 0 0 0) (H4 e1 e2 e5 @bh)
  ⟨x3,.inr ⟨h5.next,0,ab _,rfl,g3,rfl⟩⟩ ?_ ?_ ?_
 ·clear e1 e2 e5
  rintro k a ts h7 hk ⟨kx,k1⟩ ⟨e1,e2,e5,e7,e8,-⟩
  simp only at e1 e2 e5 e7 e8
  have rN:ak h7 h.next 0 1=some [.int .i64 (n:Nat)]:=bd (by rw[kx.gt _ om]; exact jA) rfl
  exact⟨_,(M4 e2 e8 rN @cX),Z0,H5 e1 e2 e5 e7 e8⟩
 ·clear e1 e2 e5
  rintro k a ts h7 hk ⟨kx,k1⟩ ⟨e1,e2,e5,e7,e8,-⟩
  simp only at e1 e2 e5 e7 e8
  have w1:=me (k:=k) om
  have gA7:h7.get h.next=some (.cells [.int .i64 (n:Nat),ev] 2 false):=by rw[kx.gt _ om]; exact jA
  have rA7:ak h7 h.next 0 2=some [.int .i64 (n:Nat),ev]:=by rw[aU gA7]; rfl
  have gc7:h7.get cb=some (.cells (bl E.length λi=>!(o (tlE E i))&&!(o (hdE E i))) 1 false):=by rw[kx.gt _ hcb5]; exact j'
  have X7:Ext h.next h h7:=jx.trans (kx.mono jx.nx)
  refine ae (ar (M1 e1) ?_)
  refine ae (bW (bt 3 (M4 e2 e5 e8 rA7) rfl (Z4 e2 e5 e8 rA7) (M4 e2 e5 e8 rA7) (hGo (he.ext X7 (ab _)) hk gc7) λr h8 hq=>?_))
  obtain⟨sb,rfl,hsb,x8,g8⟩:=hq
  refine bK (M0) ?_
  have kn:=kx.nx
  have gA8:h8.get h.next=some (.cells [.int .i64 (n:Nat),ev] 2 false):=by rw[x8.gt _ om]; exact gA7
  have rN8:ak h8 h.next 0 1=some [.int .i64 (n:Nat)]:=bd gA8 rfl
  have X8:Ext h.next h h8:=X7.trans (x8.mono X7.nx)
  have go8:h8.get ob=some (.cells (bl n o) 1 false):=by rw[X8.gt _ hol]; exact ho
  have ro8:ak h8 ob k 1=some [.bool (o k)]:=bd go8 (iu hk)
  have ik:fM ((k:Nat):Int) n=some k:=dm hk
  have wn:IntKind.i64.wrap (((n:Nat):Int)-1)=((n:Nat):Int)-1:=eL om om
  generalize hp:Go.Blk.goN E.length (tlE E) (hdE E) (λi=>!(o (tlE E i))&&!(o (hdE E i))) n (λv=>decide (v=k))=s at g8
  refine ae (ae (ar (M3 e2 rN8 wn) ?_))
  refine gU (α:=Unit) (N:=n) (λy _=>[(1,.sl ob 0 n n),(2,.ptr h.next 0),(5,.sl cb 0 E.length E.length),(7,a),(8,.int .i64 (k:Nat)),(9,.int .i64 (pj n (λy=>s y&&!(o k)) y)),(10,.sl sb 0 n n),(11,.int .i64 (((n:Nat):Int)-1-((y:Nat):Int)))])
   (λy _ h'=>h8=h') () (by simp only[hl,am,aC,simprocAttr,e1,e2,e5,e7,e8,pj,bh,Int.sub_zero]) rfl ?_ ?_ ?_
  ·clear e1 e2 e5 e7 e8
   rintro y _ ts _ hy rfl ⟨e1,e2,e5,e7,e8,e9,e10,e11,-⟩
   simp only at e1 e2 e5 e7 e8 e9 e10 e11
   have c1:decide ((0:Int)≤((n:Nat):Int)-1-((y:Nat):Int))=decide (y<n):=by simp only[decide_eq_decide]; omega
   exact⟨_,(by simp only[am,aC,simprocAttr,e11,ge_iff_le,c1]<;>rfl),Z0,H8 e1 e2 e5 e7 e8 e9 e10 e11⟩
  ·clear e1 e2 e5 e7 e8
   rintro y _ ts _ hy rfl ⟨e1,e2,e5,e7,e8,e9,e10,e11,-⟩
   simp only at e1 e2 e5 e7 e8 e9 e10 e11
   have ey:((n:Nat):Int)-1-((y:Nat):Int)=((n-1-y:Nat):Int):=om
   rw[ey] at e11
   have wy:IntKind.i64.wrap (((n-1-y:Nat):Int)-1)=((n:Nat):Int)-1-((y+1:Nat):Int):=by rw[eL om om]; omega
   have iy:fM ((n-1-y:Nat):Int) n=some (n-1-y):=dm om
   have rs:ak h8 sb (n-1-y) 1=some [.bool (s (n-1-y))]:=bd g8 (iu om)
   cases ks:s (n-1-y) with
   | false =>
     rw[ks] at rs
     have hl0:pj n (λy=>s y&&!(o k)) (y+1)=pj n (λy=>s y&&!(o k)) y:=by
      show (if (s (n-1-y)&&!(o k))=true then _ else _)=_
      rw[ks]; rfl
     refine ae (ar (by simp only[am,aC,simprocAttr,e10,e11,iy,aM,rs]<;>rfl) ?_)
     refine dB (Z0) (bJ ?_)
     exact⟨(),rfl,_,(M2 e11 wy),H8 e1 e2 e5 e7 e8 e9 e10 hl0⟩
   | true =>
     rw[ks] at rs
     rcases Bool.eq_false_or_eq_true (o k) with ko|ko
     ·rw[ko] at ro8
      have hl0:pj n (λy=>s y&&!(o k)) (y+1)=pj n (λy=>s y&&!(o k)) y:=by
       show (if (s (n-1-y)&&!(o k))=true then _ else _)=_
       rw[ks,ko]; rfl
      refine ae (ar (by simp only[am,aC,simprocAttr,e1,e8,e10,e11,iy,ik,aM,rs,ro8]<;>rfl) ?_)
      refine dB (Z0) (bJ ?_)
      exact⟨(),rfl,_,(M2 e11 wy),H8 e1 e2 e5 e7 e8 e9 e10 hl0⟩
     ·rw[ko] at ro8
      have hl0:pj n (λy=>s y&&!(o k)) (y+1)=((n-1-y:Nat):Int):=by
       show (if (s (n-1-y)&&!(o k))=true then _ else _)=_
       rw[ks,ko]; rfl
      refine ae (ar (by simp only[am,aC,simprocAttr,e1,e8,e10,e11,iy,ik,aM,rs,ro8]<;>rfl) ?_)
      refine cE (Z0) (ar (M1 e11) ?_)
      exact⟨(),rfl,_,(M2 e11 wy),H7 e1 e2 e5 e7 e8 e10 hl0⟩
  ·clear e1 e2 e5 e7 e8
   rintro _ ts _ rfl ⟨e1,e2,e5,e7,e8,e9,e10,e11,-⟩
   simp only at e1 e2 e5 e7 e8 e9
   have k8:=k1.ext (x8.mono (ab _)) (ab _)
   obtain⟨s',h9,a9,i9,x9,n9⟩:=k8.push (bytes:=8) [.int .i64 (pj n (λy=>s y&&!(o k)) n)] (by have:=x8.nx; omega) om rfl rfl (by rw[tz,fk]; unfold aX; omega) (by rw[tz,fk]; unfold aX; omega)
   refine ar (M3 e7 e9 a9) ?_
   refine⟨s',⟨kx.trans ((x8.mono kn).trans x9),?_⟩,_,(M2 e8 w1),H3 e1 e2 e5⟩
   rw[yR,show lV n E o k=pj n (λy=>s y&&!(o k)) n by unfold lV; rw[hp]]
   exact i9
 ·clear e1 e2 e5
  rintro a ts h7 ⟨kx,k1⟩ ⟨e1,e2,e5,e7,e8,-⟩
  simp only at e7
  have c7:=k1.cells
  refine ae (ar (M1 e7) ?_)
  exact bH ⟨a,(by simp only[rs,rf27,am,aC,simprocAttr,c7.1]<;>rfl),jx.trans (kx.mono jx.nx),k1.mono jx.nx⟩
open Go.Blk
def grE (n:Nat) (E:List (Int×Int)) (hE:InG n E) (hl:∀ i,i<E.length→tlE E i≠hdE E i):Gr:=⟨E.length,n,tlE E,hdE E,λi hi=>⟨(hE i hi).2.1,(hE i hi).2.2,hl i hi⟩⟩
section
variable {n:Nat}{E:List (Int×Int)} (hE:InG n E) (hl:∀ i,i<E.length→tlE E i≠hdE E i)
end
open Go.Am
open Go.Blk (Gr DS upd)
def nI (l:List Nat):List Int:=l.map λi=>((i:Nat):Int)
def nL (l:List Nat):List AV:=l.map λi=>.int .i64 (i:Nat)
theorem jq (l:List Nat):(nI l).length=l.length:=by simp [nI]
theorem Jb (l:List Nat):(nI l).flatMap eI=nL l:=by
 induction l with
 | nil=>rfl
 | cons a l ih=>simp only[nI,nL,bB,fH] at *; rw[ih]; rfl
theorem Ez (l m:List Nat):nL (l++m)=nL l++nL m:=by simp [nL]
def Sep (v w:AV):Prop:=∀ b o n c o' n' c',v=.sl b o n c→w≠.sl b o' n' c'
theorem Sep.nill {v:AV}:Sep .nils v:=λ_ _ _ _ _ _ _ e=>by cases e
def Stk (h:AH) (lo:Nat) (v:AV) (l:List Nat):Prop :=
 (v=.nils∧l=[])∨∃ b c cs,lo≤b∧v=.sl b 0 l.length c∧h.get b=some (.cells cs 1 false)∧cs.length=c∧l.length≤c∧cs.take l.length=nL l
theorem Stk.cong {h h':AH}{lo:Nat}{v:AV}{l:List Nat} (hs:Stk h lo v l) (hk:∀ c,lo≤c→(∃ o n k,v=.sl c o n k)→h'.get c=h.get c):Stk h' lo v l:=by
 rcases hs with hs|⟨b,c,cs,h1,h2,h3,h4⟩
 ·exact .inl hs
 ·exact .inr ⟨b,c,cs,h1,h2,by rw[hk b h1 ⟨_,_,_,h2⟩]; exact h3,h4⟩
theorem Stk.lt {h:AH}{lo:Nat}{v:AV}{l:List Nat} (hs:Stk h lo v l) {b o n c:Nat} (e:v=.sl b o n c):b<h.next∧lo≤b:=by
 rcases hs with ⟨rfl,_⟩|⟨b',c',cs,h1,rfl,h3,_⟩
 ·cases e
 ·cases e; exact⟨AH.lt_of_get h3,h1⟩
theorem Stk.cells {h:AH}{lo:Nat}{v:AV}{l:List Nat} (hs:Stk h lo v l):v.cells=[v]∧v.one=true:=by
 rcases hs with ⟨rfl,_⟩|⟨b',c',cs,h1,rfl,h3,_⟩<;>exact⟨rfl,rfl⟩
theorem Stk.sl {h:AH}{lo:Nat}{v:AV}{l:List Nat} (hs:Stk h lo v l):SlI h v (nI l):=by
 rcases hs with ⟨rfl,rfl⟩|⟨b,c,cs,h1,rfl,h3,h4,h5,h6⟩
 ·exact .inl ⟨rfl,.inl rfl⟩
 ·refine .inr ⟨b,0,c,cs,false,by rw[ah,jq],h3,by rw[ah,jq]; exact h5,by rw[ah,jq]; omega,λi x hi=>?_⟩
  rw[aw] at hi
  obtain⟨y,hy,rfl⟩:=aB.1 hi
  have hil:i<l.length:=by have:=(aI.1 hy).1; rwa [jq] at this
  have e1:(cs.take l.length)[i]?=some (.int .i64 y):=by
   rw[h6]
   unfold nL
   unfold nI at hy
   rw[aw] at hy ⊢
   obtain⟨z,hz,rfl⟩:=aB.1 hy
   rw[hz]
   rfl
  rw[cw,if_pos hil] at e1
  obtain⟨h7,h8⟩:=aI.1 e1
  refine⟨om,?_⟩
  rw[bM,aM,cF h7,h8]
  rfl
theorem Stk.push {h:AH}{lo:Nat}{v:AV}{l:List Nat} (hs:Stk h lo v l) (i:Nat) (hlo:lo≤h.next) (hl:l.length<2 ^ 34) :
 ∃ v' h',iQ (h.new (.cells [.int .i64 (i:Nat)] 1 false)) 1 8 v (.sl h.next 0 1 1)=some (v',h')∧Stk h' lo v' (l++[i])∧h.next≤h'.next∧(∀ c,c<h.next→(∀ o n k,v≠.sl c o n k)→h'.get c=h.get c)∧(∀ c,h'.tyOf c=h.tyOf c) ∧
   ∀ w,(∀ b o n c,w=.sl b o n c→b<h.next)→Sep w v→Sep w v':=by
 have hx:(h.new (.cells [.int .i64 (i:Nat)] 1 false)).get h.next=some (.cells [.int .i64 (i:Nat)] 1 false):=by rw[AH.get_new,if_pos rfl]
 have hg:∀ c,c<h.next→(h.new (.cells [.int .i64 (i:Nat)] 1 false)).get c=h.get c:=λc hc=>by rw[AH.get_new,if_neg om]
 have hn:(h.new (.cells [.int .i64 (i:Nat)] 1 false)).next=h.next+1:=rfl
 have ht:∀ c,(h.new (.cells [.int .i64 (i:Nat)] 1 false)).tyOf c=h.tyOf c:=λ_=>rfl
 generalize h.new (.cells [.int .i64 (i:Nat)] 1 false)=h1 at *
 have hr:ak h1 h.next 0 (1*1)=some [.int .i64 (i:Nat)]:=by rw[aU hx]; rfl
 have ho:([.int .i64 (i:Nat)]:List AV).all AV.one=true:=rfl
 rcases hs with ⟨rfl,rfl⟩|⟨b,c,cs,k1,rfl,k3,k4,k5,k6⟩
 ·refine⟨.sl h1.next 0 1 1,h1.new (.cells [.int .i64 (i:Nat)] 1 false),?_,.inr ⟨h1.next,1,_,om,rfl,by rw[AH.get_new,if_pos rfl],rfl,ab _,rfl⟩,by rw[AH.next_new]; omega,λc hc _=>by rw[AH.get_new,if_neg om,hg c hc],λc=>ht c,λw hw _ b o n c o' n' c' e1 e2=>?_⟩
  ·simp only[iQ,eV,hr,aD,ho,if_true,jI,if_false]
   rw[if_pos ⟨by unfold aX; omega,by unfold aX; omega⟩]
  ·have:=hw b o n c e1
   cases e2
   omega
 ·have hb:=AH.lt_of_get k3
  have k3':h1.get b=some (.cells cs 1 false):=by rw[hg b hb]; exact k3
  by_cases hc:l.length+1≤c
  ·have hw:=fV (v:=.int .i64 (i:Nat)) k3' (i:=l.length) om
   have u:=Kk (o:=.cells (cs.set l.length (.int .i64 (i:Nat))) 1 false) k3'
   refine⟨.sl b 0 (l.length+1) c,h1.put b (.cells (cs.set l.length (.int .i64 (i:Nat))) 1 false),?_,.inr ⟨b,c,_,k1,by rw[aJ]; rfl,u.get,by rw[cV]; exact k4,by rw[aJ]; exact hc,?_⟩,by rw[u.nx]; omega,λc' hc' hne=>?_,λc'=>(u.ty c').trans (ht c'),λw _ hs b1 o n c1 o' n' c' e1 e2=>?_⟩
   ·simp only[iQ,eV,hr,aD,ho,if_true,jI,if_false,if_pos hc,bM,aM,hw]
   ·rw[aJ,au,aQ,Ez,← k6]
    refine dZ λj=>?_
    rw[cw,dY,List.getElem?_append,bF,eO om,cw]
    by_cases q:j<l.length
    ·rw[if_pos om,if_neg om,if_pos q,if_pos q]
    ·by_cases q2:j=l.length
     ·subst q2
      rw[if_pos om,if_pos rfl,if_pos om,if_neg om,eM]
      rfl
     ·rw[if_neg om,if_neg q,cq (by simp [nL]; omega)]
   ·rw[u.ne (λe=>hne 0 l.length c (by rw[e])),hg _ hc']
   ·cases e2
    exact hs b o n c1 _ _ _ e1 rfl
  ·have hcl:c=l.length:=om
   have hcs:cs=nL l:=by rw[← k6,cW om]
   have hr2:ak h1 b 0 (l.length*1)=some cs:=by
    rw[aU k3',if_pos om,bN,cW om]
   refine⟨.sl h1.next 0 (l.length+1) (l.length+1),(h1.put b .dead).new (.cells (cs++[.int .i64 (i:Nat)]) 1 false),?_,.inr ⟨h1.next,l.length+1,_,om,by rw[aJ]; rfl,by rw[AH.get_new,AH.next_put,if_pos rfl],by rw[aJ,k4,hcl]; rfl,by rw[aJ]; exact ab _,?_⟩,by rw[AH.next_new,AH.next_put]; omega,λc' hc' hne=>?_,λc'=>ht c',λw hw _ b1 o n c1 o' n' c' e1 e2=>?_⟩
   ·simp only[iQ,eV,hr,aD,ho,if_true,jI,if_false]
    rw[if_neg hc,if_pos ⟨by unfold aX; omega,by unfold aX; omega⟩,k3',hr2]
    simp only[if_true]
   ·rw[Ez,← hcs,cW (by rw[aJ,aJ,k4,hcl]; exact ab _)]
    rfl
   ·rw[AH.get_new,AH.next_put,if_neg om,AH.get_put _ _ _ _ om,if_neg (λe=>hne 0 l.length c (by rw[e])),hg _ hc']
   ·have:=hw b1 o n c1 e1
    cases e2
    omega
theorem Stk.cut {h:AH}{lo:Nat}{v:AV}{l:List Nat} (hs:Stk h lo v l) {k:Nat} (hk:k≤l.length) :
 ∃ v',slV h 1 v none (some (.int .i64 (k:Nat))) none=some v'∧Stk h lo v' (l.take k)∧(∀ w,Sep w v→Sep w v')∧∀ c,(∃ o n k,v'=.sl c o n k)→∃ o n k,v=.sl c o n k:=by
 rcases hs with ⟨rfl,rfl⟩|⟨b,c,cs,k1,rfl,k3,k4,k5,k6⟩
 ·have:k=0:=by simpa using hk
  subst this
  exact⟨.nils,rfl,.inl ⟨rfl,rfl⟩,λ_ q=>q,λ_ q=>q⟩
 ·have hb:=jB (k:=.i64) (show k≤c by omega)
  refine⟨.sl b 0 k c,?_,.inr ⟨b,c,cs,k1,by rw[bF,eO hk],k3,k4,by rw[bF]; omega,?_⟩,λw hs b1 o n c1 o' n' c' e1 e2=>?_,λc' ⟨o,n,k',e⟩=>?_⟩
  ·simp only[slV,k3,if_true,sK,hb,aD,mZ,cS,Nat.sub_zero,ite_self]
  ·rw[bF,eO hk]
   have:cs.take k=(cs.take l.length).take k:=by rw[vP,eO hk]
   rw[this,k6]
   unfold nL
   rw[fO]
  ·cases e2
   exact hs b o n c1 _ _ _ e1 rfl
  ·cases e
   exact⟨_,_,_,rfl⟩
def dp (E:List (Int×Int)) (x:Nat):List Nat:=(List.range E.length).filter λi=>decide (tlE E i=x)||decide (hdE E i=x)
theorem xJ {n:Nat}{E:List (Int×Int)} (hE:InG n E) (hl:∀ i,i<E.length→tlE E i≠hdE E i):∀ x,x<(grE n E hE hl).n→(dp E x).Nodup∧∀ i,i∈dp E x↔(grE n E hE hl).inc i x:=λx _=>by
 refine⟨List.nodup_range.filter _,λi=>?_⟩
 unfold dp
 rw[bD,aF,cN,aH,aH]
 rfl
def SS (sp nb lb:Nat) (c:Nat):Prop:=c=sp∨c=nb∨c=lb
structure Sta (h0:AH) (sp eb nb lb n:Nat) (ev:AV) (E:List (Int×Int)):Prop where
 he:SlE h0 ev E
 oe:Off (SS sp nb lb) ev
 ge:∃ es,h0.get eb=some (.cells es 1 false)∧es.length=n∧∀ (x:Nat) (v:AV),es[x]?=some v→SlI h0 v (nI (dp E x))∧Off (SS sp nb lb) v
 ne:eb≠sp∧eb≠nb∧eb≠lb∧nb≠sp∧nb≠lb∧lb≠sp
 lt:sp<h0.next∧nb<h0.next∧lb<h0.next
structure Ser (h0 h:AH) (sp eb nb lb n:Nat) (ev:AV) (s:DS) (stv blv:AV) (bs:List AV):Prop where
 kp:Kp (SS sp nb lb) h0 h
 cell:h.get sp=some (.cells [.int .i64 (n:Nat),ev,.sl eb 0 n n,.sl nb 0 n n,.sl lb 0 n n,.int .i64 (s.cnt:Nat),stv,blv] 8 false)
 gn:h.get nb=some (.cells (il n λv=>((s.num v:Nat):Int)) 1 false)
 gl:h.get lb=some (.cells (il n λv=>((s.low v:Nat):Int)) 1 false)
 st:Stk h h0.next stv s.stk
 bl:IsSl h 1 h0.next blv bs
 rl:bs.length=s.blk.length
 rw:∀ (j:Nat) (v:AV) (l:List Nat),bs[j]?=some v→s.blk[j]?=some l→IsSl h 1 h0.next v (nL l)∧Sep v stv∧Sep v blv
 sb:Sep blv stv
section
variable {h0 h:AH}{sp eb nb lb n:Nat}{ev:AV}{E:List (Int×Int)}{s:DS}{stv blv:AV}{bs:List AV}
theorem Sta.edges (t:Sta h0 sp eb nb lb n ev E) (kp:Kp (SS sp nb lb) h0 h):SlE h ev E:=t.he.kp kp t.oe
theorem Sta.row (t:Sta h0 sp eb nb lb n ev E) (kp:Kp (SS sp nb lb) h0 h) {x:Nat} (hx:x<n):∃ v,ak h eb x 1=some [v]∧SlI h v (nI (dp E x))∧Off (SS sp nb lb) v∧SlI h0 v (nI (dp E x)):=by
 obtain⟨es,g,l,r⟩:=t.ge
 obtain⟨n1,n2,n3,_⟩:=t.ne
 have hv:es[x]?=some es[x]:=ai om
 obtain⟨r1,r2⟩:=r x _ hv
 have g':h.get eb=some (.cells es 1 false):=by
  rw[kp.gt eb (AH.lt_of_get g) (by rintro (e|e|e); exact n1 e; exact n2 e; exact n3 e)]; exact g
 exact⟨_,bd g' hv,r1.kp kp r2,r2,r1⟩
theorem Ser.wr (r:Ser h0 h sp eb nb lb n ev s stv blv bs) {h':AH}{c:Nat}{o:AO} (u:Upd h h' c o) (hc:SS sp nb lb c) (hl:c<h0.next):Kp (SS sp nb lb) h0 h'∧Stk h' h0.next stv s.stk∧IsSl h' 1 h0.next blv bs ∧
 ∀ (j:Nat) (v:AV) (l:List Nat),bs[j]?=some v→s.blk[j]?=some l→IsSl h' 1 h0.next v (nL l)∧Sep v stv∧Sep v blv :=
 ⟨r.kp.trans (u.kp hc) λ_ _ q=>q,r.st.cong λc' hc' _=>u.ne om,r.bl.upd u om,λj v l a b=>⟨(r.rw j v l a b).1.upd u om,(r.rw j v l a b).2⟩⟩
theorem Ser.setCnt (t:Sta h0 sp eb nb lb n ev E) (r:Ser h0 h sp eb nb lb n ev s stv blv bs) (k:Nat):∃ h',bU h sp 5 [.int .i64 (k:Nat)]=some h'∧Ser h0 h' sp eb nb lb n ev { s with cnt:=k} stv blv bs:=by
 obtain⟨n1,n2,n3,n4,n5,n6⟩:=t.ne
 have w:=fV (v:=.int .i64 (k:Nat)) r.cell (i:=5) (by simp)
 change bU h sp 5 [.int .i64 (k:Nat)]=some (h.put sp (.cells [.int .i64 (n:Nat),ev,.sl eb 0 n n,.sl nb 0 n n,.sl lb 0 n n,.int .i64 (k:Nat),stv,blv] 8 false)) at w
 have u:=Kk (o:=.cells [.int .i64 (n:Nat),ev,.sl eb 0 n n,.sl nb 0 n n,.sl lb 0 n n,.int .i64 (k:Nat),stv,blv] 8 false) r.cell
 obtain⟨a1,a2,a3,a4⟩:=r.wr u (.inl rfl) t.lt.1
 exact⟨_,w,{ kp:=a1,cell:=u.get,gn:=by rw[u.ne n4]; exact r.gn,gl:=by rw[u.ne n6]; exact r.gl,st:=a2,bl:=a3,rl:=r.rl,rw:=a4,sb:=r.sb}⟩
theorem EU {f:Nat→Nat}{x k:Nat}:(il n λv=>((f v:Nat):Int)).set x (.int .i64 (k:Nat))=il n λv=>((upd f x k v:Nat):Int):=by
 rw[EW]
 refine xy λi _=>?_
 by_cases e:i=x
 ·subst e; rw[if_pos rfl,Go.Blk.upd_same]
 ·rw[if_neg e,Go.Blk.upd_ne e]
theorem Ser.setNum (t:Sta h0 sp eb nb lb n ev E) (r:Ser h0 h sp eb nb lb n ev s stv blv bs) {x:Nat} (hx:x<n) (k:Nat):∃ h',bU h nb x [.int .i64 (k:Nat)]=some h'∧Ser h0 h' sp eb nb lb n ev { s with num:=upd s.num x k} stv blv bs:=by
 obtain⟨n1,n2,n3,n4,n5,n6⟩:=t.ne
 have w:=fV (v:=.int .i64 (k:Nat)) r.gn (i:=x) (by rw[px]; exact hx)
 rw[EU] at w
 have u:=Kk (o:=.cells (il n λv=>((upd s.num x k v:Nat):Int)) 1 false) r.gn
 obtain⟨a1,a2,a3,a4⟩:=r.wr u (.inr (.inl rfl)) t.lt.2.1
 exact⟨_,w,{ kp:=a1,cell:=by rw[u.ne (Ne.symm n4)]; exact r.cell,gn:=u.get,gl:=by rw[u.ne (Ne.symm n5)]; exact r.gl,st:=a2,bl:=a3,rl:=r.rl,rw:=a4,sb:=r.sb}⟩
theorem Ser.setLow (t:Sta h0 sp eb nb lb n ev E) (r:Ser h0 h sp eb nb lb n ev s stv blv bs) {x:Nat} (hx:x<n) (k:Nat):∃ h',bU h lb x [.int .i64 (k:Nat)]=some h'∧Ser h0 h' sp eb nb lb n ev { s with low:=upd s.low x k} stv blv bs:=by
 obtain⟨n1,n2,n3,n4,n5,n6⟩:=t.ne
 have w:=fV (v:=.int .i64 (k:Nat)) r.gl (i:=x) (by rw[px]; exact hx)
 rw[EU] at w
 have u:=Kk (o:=.cells (il n λv=>((upd s.low x k v:Nat):Int)) 1 false) r.gl
 obtain⟨a1,a2,a3,a4⟩:=r.wr u (.inr (.inr rfl)) t.lt.2.2
 exact⟨_,w,{ kp:=a1,cell:=by rw[u.ne (Ne.symm n6)]; exact r.cell,gn:=by rw[u.ne n5]; exact r.gn,gl:=u.get,st:=a2,bl:=a3,rl:=r.rl,rw:=a4,sb:=r.sb}⟩
theorem Ser.setStk (t:Sta h0 sp eb nb lb n ev E) (r:Ser h0 h sp eb nb lb n ev s stv blv bs) {h1:AH}{v':AV}{l:List Nat} (hn:h.next≤h1.next) (hk:∀ c,c<h.next→(∀ o n k,stv≠.sl c o n k)→h1.get c=h.get c) (ht:∀ c,h1.tyOf c=h.tyOf c) (hs:Stk h1 h0.next v' l)
 (hsep:∀ w,(∀ b o n c,w=.sl b o n c→b<h.next)→Sep w stv→Sep w v'):∃ h2,bU h1 sp 6 [v']=some h2∧Ser h0 h2 sp eb nb lb n ev { s with stk:=l} v' blv bs:=by
 obtain⟨n1,n2,n3,n4,n5,n6⟩:=t.ne
 obtain⟨l1,l2,l3⟩:=t.lt
 have hnx:=r.kp.nx
 have low:∀ c,c<h0.next→h1.get c=h.get c:=λc hc=>hk c om λo n k e=>by have:=(r.st.lt e).2; omega
 have c1:h1.get sp=some (.cells [.int .i64 (n:Nat),ev,.sl eb 0 n n,.sl nb 0 n n,.sl lb 0 n n,.int .i64 (s.cnt:Nat),stv,blv] 8 false):=by rw[low sp l1]; exact r.cell
 have w:=fV (v:=v') c1 (i:=6) (by simp)
 change bU h1 sp 6 [v']=some (h1.put sp (.cells [.int .i64 (n:Nat),ev,.sl eb 0 n n,.sl nb 0 n n,.sl lb 0 n n,.int .i64 (s.cnt:Nat),v',blv] 8 false)) at w
 have u:=Kk (o:=.cells [.int .i64 (n:Nat),ev,.sl eb 0 n n,.sl nb 0 n n,.sl lb 0 n n,.int .i64 (s.cnt:Nat),v',blv] 8 false) c1
 have kp1:Kp (SS sp nb lb) h0 h1:=⟨om,λc hc hn'=>by rw[low c hc]; exact r.kp.gt c hc hn',λc hc=>(ht c).trans (r.kp.ty c hc)⟩
 have keep:∀ {w cs},IsSl h 1 h0.next w cs→Sep w stv→IsSl h1 1 h0.next w cs:=fun {w cs} q hsw=>q.cong λb m e hb=>hk b (q.lt e) λo n' k e2=>hsw b 0 m m o n' k e e2
 refine⟨_,w,{ kp:=kp1.trans (u.kp (.inl rfl)) λ_ _ q=>q,cell:=u.get,gn:=by rw[u.ne n4,low nb l2]; exact r.gn,gl:=by rw[u.ne n6,low lb l3]; exact r.gl,st:=hs.cong λc hc _=>u.ne om,bl:=(keep r.bl r.sb).upd u om,rl:=r.rl,rw:=λj v q a b=>?_,sb:=hsep _ (λb o n' c e=>r.bl.lt e) r.sb}⟩
 obtain⟨a1,a2,a3⟩:=r.rw j v q a b
 exact⟨(keep a1 a2).upd u om,hsep _ (λb o n' c e=>a1.lt e) a2,a3⟩
theorem Ser.push (t:Sta h0 sp eb nb lb n ev E) (r:Ser h0 h sp eb nb lb n ev s stv blv bs) (i:Nat) (hl:s.stk.length<2 ^ 34) :
 ∃ v' h1 h2,iQ (h.new (.cells [.int .i64 (i:Nat)] 1 false)) 1 8 stv (.sl h.next 0 1 1)=some (v',h1)∧v'.cells=[v']∧v'.one=true∧bU h1 sp 6 [v']=some h2∧Ser h0 h2 sp eb nb lb n ev { s with stk:=s.stk++[i]} v' blv bs:=by
 obtain⟨v',h1,a1,a2,a3,a4,a5,a6⟩:=r.st.push i r.kp.nx hl
 obtain⟨h2,b1,b2⟩:=r.setStk t a3 a4 a5 a2 a6
 exact⟨v',h1,h2,a1,a2.cells.1,a2.cells.2,b1,b2⟩
end
end Go.Proofs.Ytpeemonpdlifbaa
