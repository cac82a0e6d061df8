/- arborref03.Part -/
import Derived.Test.YtpeemonpdlifbaaVTAE
set_option linter.all false
namespace Go.Proofs.Ytpeemonpdlifbaa
open Go.Am
def pe (n:Nat) (p:Nat→Bool):Nat→Int
 | 0=>-1
 | k+1=>if p (n-1-k) then ((n-1-k:Nat):Int) else pe n p k
theorem tO {n:Nat}{p:Nat→Bool}:∀ k,k≤n→(∃ y,n-k≤y∧y<n∧p y=true)→∃ y:Nat,pe n p k=y∧n-k≤y∧y<n∧p y=true∧∀ z,n-k≤z→z<y→p z=false
 | 0,_,⟨y,h1,h2,_⟩=>by omega
 | k+1,h,⟨y,h1,h2,h3⟩=>by
   unfold pe
   cases q:p (n-1-k) with
   | true=>exact⟨n-1-k,by simp,om,om,q,λz _ _=>by omega⟩
   | false =>
     have hy:n-k≤y:=by
      rcases bF y (n-k) with hlt|hge
      ·have:y=n-1-k:=om
       rw[this,q] at h3; cases h3
      ·exact hge
     obtain⟨y',e1,e2,e3,e4,e5⟩:=tO k om ⟨y,hy,h2,h3⟩
     refine⟨y',by simpa using e1,om,e3,e4,λz z1 z2=>?_⟩
     rcases bF z (n-k) with hlt|hge
     ·have:z=n-1-k:=om
      rw[this,q]
     ·exact e5 z hge z2
open Go.Blk (goN) in
def me (n:Nat) (E:List (Int×Int)) (o:Nat→Bool) (x:Nat):Int :=
 pe n (λy=>goN E.length (tlE E) (hdE E) (λi=>!(o (tlE E i))&&!(o (hdE E i))) n (λv=>decide (v=x)) y&&!(o x)) n
def qX (n:Nat) (E:List (Int×Int)) (o:Nat→Bool) (k:Nat):List AV:=((List.range k).map (me n E o)).flatMap eI
theorem zd {n:Nat}{E:List (Int×Int)}{o:Nat→Bool}{k:Nat}:qX n E o (k+1)=qX n E o k++[.int .i64 (me n E o k)]:=by
 unfold qX
 rw[bW,ee,dU]
 rfl
theorem tG {n:Nat}{E:List (Int×Int)}{o:Nat→Bool}{k:Nat}:(qX n E o k).length=k:=by
 unfold qX
 rw[eY (f:=eI) (e:=1) (λ_=>rfl),ae,bV,aP]
set_option maxHeartbeats 2000000 in
theorem BV {h:AH}{n ob:Nat}{ev:AV}{E:List (Int×Int)}{o:Nat→Bool} (he:SlE h ev E) (hE:InG n E) (hxl:E.length<2 ^ 40) (hnl:n<2 ^ 30)
 (ho:h.get ob=some (.cells (bl n o) 1 false)) :
 C prg 27 [.agg (gW n ev),.sl ob 0 n n] h λr h'=>Ext h.next h h'∧IsSl h' 1 h.next r (qX n E o n):=by
 have el:=he.len
 rw[ae] at el
 obtain⟨ec,eo⟩:=he.cells
 have hol:=AH.lt_of_get ho
 refine KK pf27 ?_
 have hEv:∀ {h':AH},SlE h' ev E→_:=fun {h'} q=>Ca (n:=n) q hxl
 have hGo:∀ {h':AH}{f cb:Nat}{c:Nat→Bool},SlE h' ev E→f<n→h'.get cb=some (.cells (bl E.length c) 1 false)→_:=fun {h' f cb c} q1 q2 q3=>JN (n:=n) (c:=c) q1 hE hxl om q2 q3
 unfold gW at hEv hGo ⊢
 refine ai (au (Mi0) ?_)
 have ga:∀ c,(h.new (.cells [.int .i64 (n:Nat),ev] 2 false)).get c=if c=h.next then some (.cells [.int .i64 (n:Nat),ev] 2 false) else h.get c:=λc=>by
  rw[AH.get_new]
 have x0:Ext h.next h (h.new (.cells [.int .i64 (n:Nat),ev] 2 false)):=KH (ab _)
 have n0:(h.new (.cells [.int .i64 (n:Nat),ev] 2 false)).next=h.next+1:=rfl
 generalize (h.new (.cells [.int .i64 (n:Nat),ev] 2 false))=h1 at *
 have gA:h1.get h.next=some (.cells [.int .i64 (n:Nat),ev] 2 false):=by rw[ga,if_pos rfl]
 have rA:ak h1 h.next 0 2=some [.int .i64 (n:Nat),ev]:=by rw[aW gA]; rfl
 refine ai (bU (bu 1 (Mi1 rA) rfl (Zi1 rA) (Mi1 rA) (hEv (he.ext x0 (ab _))) λr h2 hq=>?_))
 obtain⟨cb,rfl,hcb,x2,g2⟩:=hq
 rw[n0] at hcb x2
 refine bP (M0) ?_
 have X2:Ext h.next h h2:=x0.trans (x2.mono om)
 have gA2:h2.get h.next=some (.cells [.int .i64 (n:Nat),ev] 2 false):=by rw[x2.gt _ om]; exact gA
 have n2:=x2.nx
 refine ai (ai (au (M0) ?_))
 refine fN (α:=Unit) (N:=E.length) (λk _=>[(1,.sl ob 0 n n),(2,.ptr h.next 0),(5,.sl cb 0 E.length E.length),(6,.int .i64 (k:Nat))])
  (λk _ h'=>Ext h.next h h'∧h.next+1≤h'.next∧h'.get h.next=some (.cells [.int .i64 (n:Nat),ev] 2 false)∧h'.get cb=some (.cells (bl E.length λi=>if i<k then !(o (tlE E i))&&!(o (hdE E i)) else true) 1 false)) () (Hi1 @bg)
  ⟨X2,om,gA2,by rw[g2]; simp⟩ ?_ ?_ ?_
 ·rintro k _ ts h5 hk ⟨jx,jn,jA,j⟩ ⟨e1,e2,e5,e6,-⟩
  simp only at e1 e2 e5 e6
  have rE:ak h5 h.next 1 1=some [ev]:=br jA rfl
  exact⟨_,(M5 e2 e6 rE el @cx),Z0,H4 e1 e2 e5 e6⟩
 ·rintro k _ ts h5 hk ⟨jx,jn,jA,j⟩ ⟨e1,e2,e5,e6,-⟩
  simp only at e1 e2 e5 e6
  have w1:=nZ (k:=k) om
  obtain⟨q1,q2,q3⟩:=hE k hk
  have rE:ak h5 h.next 1 1=some [ev]:=br jA rfl
  obtain⟨eb,ep,a7,_,r7,_⟩:=(he.ext jx (ab _)).at (fR (f:=eE) hk)
  rw[q1] at r7
  have r70:=r7 0 (.int .i64 (tlE E k:Nat)) rfl
  have r71:=r7 1 (.int .i64 (hdE E k:Nat)) rfl
  rw[cZ] at r70
  have go5:h5.get ob=some (.cells (bl n o) 1 false):=by rw[jx.gt _ hol]; exact ho
  have rt:ak h5 ob (tlE E k) 1=some [.bool (o (tlE E k))]:=br go5 (gZ q2)
  have rh:ak h5 ob (hdE E k) 1=some [.bool (o (hdE E k))]:=br go5 (gZ q3)
  have ii:fL ((k:Nat):Int) E.length=some k:=dE hk
  have it:fL ((tlE E k:Nat):Int) n=some (tlE E k):=dE q2
  have ih:fL ((hdE E k:Nat):Int) n=some (hdE E k):=dE q3
  have wu:=λb=>gj (v:=.bool b) j (i:=k) (by rw[jm]; exact hk)
  have uu:=λb=>KJ (o:=.cells ((bl E.length λi=>if i<k then !(o (tlE E i))&&!(o (hdE E i)) else true).set k (.bool b)) 1 false) j
  have eq:∀ b,b=(!(o (tlE E k))&&!(o (hdE E k)))→(bl E.length λi=>if i<k then !(o (tlE E i))&&!(o (hdE E i)) else true).set k (.bool b)=bl E.length λi=>if i<k+1 then !(o (tlE E i))&&!(o (hdE E i)) else true:=λb hb=>by
   rw[kD,hb]
   refine mM λi _=>?_
   by_cases e:i=k
   ·subst e; rw[if_pos rfl,if_pos om]
   ·rw[if_neg e]
    by_cases e2:i<k
    ·rw[if_pos e2,if_pos om]
    ·rw[if_neg e2,if_neg om]
  cases ot:o (tlE E k) with
  | true =>
    rw[ot] at rt
    refine au (by simp only[am,aH,simprocAttr,e1,e2,e5,e6,rE,a7,r70,it,ii,aP,rt,wu false]<;>rfl) ?_
    exact⟨(),⟨jx.trans ((uu false).ext om),by rw[(uu false).nx]; omega,by rw[(uu false).ne om]; exact jA,by rw[(uu false).get,eq false (by rw[ot]; rfl)]⟩,_,(M2 e6 w1),H3 e1 e2 e5⟩
  | false =>
    rw[ot] at rt
    refine au (by simp only[am,aH,simprocAttr,e1,e2,e5,e6,rE,a7,r70,r71,it,ih,ii,aP,rt,rh,wu (!(o (hdE E k)))]<;>rfl) ?_
    exact⟨(),⟨jx.trans ((uu _).ext om),by rw[(uu _).nx]; omega,by rw[(uu _).ne om]; exact jA,by rw[(uu _).get,eq _ (by rw[ot]; rfl)]⟩,_,(M2 e6 w1),H3 e1 e2 e5⟩
 rintro _ ts h5 ⟨jx,jn,jA,j⟩ ⟨e1,e2,e5,e6,-⟩
 simp only at e1 e2 e5
 have j':h5.get cb=some (.cells (bl E.length λi=>!(o (tlE E i))&&!(o (hdE E i))) 1 false):=by
  rw[j]
  congr 2
  exact mM λi hi=>by rw[if_pos hi]
 have hcb5:=AH.lt_of_get j'
 clear j g2 gA2
 have x3:Ext h5.next h5 (h5.new (.cells [] 1 false)):=KH (ab _)
 have g3:(h5.new (.cells [] 1 false)).get h5.next=some (.cells [] 1 false):=by rw[AH.get_new,if_pos rfl]
 have n3:(h5.new (.cells [] 1 false)).next=h5.next+1:=rfl
 refine ai (au (M1 e1) ?_)
 generalize (h5.new (.cells [] 1 false))=h6 at *
 refine ai (ai (au (M0) ?_))
 refine fN (α:=AV) (N:=n) (λk a=>[(1,.sl ob 0 n n),(2,.ptr h.next 0),(5,.sl cb 0 E.length E.length),(7,a),(8,.int .i64 (k:Nat))])
  (λk a h'=>Ext h5.next h5 h'∧IsSl h' 1 h5.next a (qX n E o k)) (.sl h5.next 0 0 0) (H4 e1 e2 e5 @bg)
  ⟨x3,.inr ⟨h5.next,0,ab _,rfl,g3,rfl⟩⟩ ?_ ?_ ?_
 ·clear e1 e2 e5
  rintro k a ts h7 hk ⟨kx,k1⟩ ⟨e1,e2,e5,e7,e8,-⟩
  simp only at e1 e2 e5 e7 e8
  have rN:ak h7 h.next 0 1=some [.int .i64 (n:Nat)]:=br (by rw[kx.gt _ om]; exact jA) rfl
  exact⟨_,(M4 e2 e8 rN @cx),Z0,H5 e1 e2 e5 e7 e8⟩
 ·clear e1 e2 e5
  rintro k a ts h7 hk ⟨kx,k1⟩ ⟨e1,e2,e5,e7,e8,-⟩
  simp only at e1 e2 e5 e7 e8
  have w1:=nZ (k:=k) om
  have gA7:h7.get h.next=some (.cells [.int .i64 (n:Nat),ev] 2 false):=by rw[kx.gt _ om]; exact jA
  have rA7:ak h7 h.next 0 2=some [.int .i64 (n:Nat),ev]:=by rw[aW gA7]; rfl
  have gc7:h7.get cb=some (.cells (bl E.length λi=>!(o (tlE E i))&&!(o (hdE E i))) 1 false):=by rw[kx.gt _ hcb5]; exact j'
  have X7:Ext h.next h h7:=jx.trans (kx.mono jx.nx)
  refine ai (au (M1 e1) ?_)
  refine ai (bU (bu 3 (M4 e2 e5 e8 rA7) rfl (Z4 e2 e5 e8 rA7) (M4 e2 e5 e8 rA7) (hGo (he.ext X7 (ab _)) hk gc7) λr h8 hq=>?_))
  obtain⟨sb,rfl,hsb,x8,g8⟩:=hq
  refine bP (M0) ?_
  have kn:=kx.nx
  have gA8:h8.get h.next=some (.cells [.int .i64 (n:Nat),ev] 2 false):=by rw[x8.gt _ om]; exact gA7
  have rN8:ak h8 h.next 0 1=some [.int .i64 (n:Nat)]:=br gA8 rfl
  have X8:Ext h.next h h8:=X7.trans (x8.mono X7.nx)
  have go8:h8.get ob=some (.cells (bl n o) 1 false):=by rw[X8.gt _ hol]; exact ho
  have ro8:ak h8 ob k 1=some [.bool (o k)]:=br go8 (gZ hk)
  have ik:fL ((k:Nat):Int) n=some k:=dE hk
  have wn:IntKind.i64.wrap (((n:Nat):Int)-1)=((n:Nat):Int)-1:=et om om
  generalize hp:Go.Blk.goN E.length (tlE E) (hdE E) (λi=>!(o (tlE E i))&&!(o (hdE E i))) n (λv=>decide (v=k))=s at g8
  refine ai (ai (au (M3 e2 rN8 wn) ?_))
  refine fN (α:=Unit) (N:=n) (λy _=>[(1,.sl ob 0 n n),(2,.ptr h.next 0),(5,.sl cb 0 E.length E.length),(7,a),(8,.int .i64 (k:Nat)),(9,.int .i64 (pe n (λy=>s y&&!(o k)) y)),(10,.sl sb 0 n n),(11,.int .i64 (((n:Nat):Int)-1-((y:Nat):Int)))])
   (λy _ h'=>h8=h') () (by simp only[hl,am,aH,simprocAttr,e1,e2,e5,e7,e8,pe,bg,Int.sub_zero]) rfl ?_ ?_ ?_
  ·clear e1 e2 e5 e7 e8
   rintro y _ ts _ hy rfl ⟨e1,e2,e5,e7,e8,e9,e10,e11,-⟩
   simp only at e1 e2 e5 e7 e8 e9 e10 e11
   have c1:decide ((0:Int)≤((n:Nat):Int)-1-((y:Nat):Int))=decide (y<n):=by simp only[decide_eq_decide]; omega
   exact⟨_,(by simp only[am,aH,simprocAttr,e11,ge_iff_le,c1]<;>rfl),Z0,H8 e1 e2 e5 e7 e8 e9 e10 e11⟩
  ·clear e1 e2 e5 e7 e8
   rintro y _ ts _ hy rfl ⟨e1,e2,e5,e7,e8,e9,e10,e11,-⟩
   simp only at e1 e2 e5 e7 e8 e9 e10 e11
   have ey:((n:Nat):Int)-1-((y:Nat):Int)=((n-1-y:Nat):Int):=om
   rw[ey] at e11
   have wy:IntKind.i64.wrap (((n-1-y:Nat):Int)-1)=((n:Nat):Int)-1-((y+1:Nat):Int):=by rw[et om om]; omega
   have iy:fL ((n-1-y:Nat):Int) n=some (n-1-y):=dE om
   have rs:ak h8 sb (n-1-y) 1=some [.bool (s (n-1-y))]:=br g8 (gZ om)
   cases ks:s (n-1-y) with
   | false =>
     rw[ks] at rs
     have hl0:pe n (λy=>s y&&!(o k)) (y+1)=pe n (λy=>s y&&!(o k)) y:=by
      show (if (s (n-1-y)&&!(o k))=true then _ else _)=_
      rw[ks]; rfl
     refine ai (au (by simp only[am,aH,simprocAttr,e10,e11,iy,aP,rs]<;>rfl) ?_)
     refine dn (Z0) (bH ?_)
     exact⟨(),rfl,_,(M2 e11 wy),H8 e1 e2 e5 e7 e8 e9 e10 hl0⟩
   | true =>
     rw[ks] at rs
     rcases Bool.eq_false_or_eq_true (o k) with ko|ko
     ·rw[ko] at ro8
      have hl0:pe n (λy=>s y&&!(o k)) (y+1)=pe n (λy=>s y&&!(o k)) y:=by
       show (if (s (n-1-y)&&!(o k))=true then _ else _)=_
       rw[ks,ko]; rfl
      refine ai (au (by simp only[am,aH,simprocAttr,e1,e8,e10,e11,iy,ik,aP,rs,ro8]<;>rfl) ?_)
      refine dn (Z0) (bH ?_)
      exact⟨(),rfl,_,(M2 e11 wy),H8 e1 e2 e5 e7 e8 e9 e10 hl0⟩
     ·rw[ko] at ro8
      have hl0:pe n (λy=>s y&&!(o k)) (y+1)=((n-1-y:Nat):Int):=by
       show (if (s (n-1-y)&&!(o k))=true then _ else _)=_
       rw[ks,ko]; rfl
      refine ai (au (by simp only[am,aH,simprocAttr,e1,e8,e10,e11,iy,ik,aP,rs,ro8]<;>rfl) ?_)
      refine cE (Z0) (au (M1 e11) ?_)
      exact⟨(),rfl,_,(M2 e11 wy),H7 e1 e2 e5 e7 e8 e10 hl0⟩
  ·clear e1 e2 e5 e7 e8
   rintro _ ts _ rfl ⟨e1,e2,e5,e7,e8,e9,e10,e11,-⟩
   simp only at e1 e2 e5 e7 e8 e9
   have k8:=k1.ext (x8.mono (ab _)) (ab _)
   obtain⟨s',h9,a9,i9,x9,n9⟩:=k8.push (bytes:=8) [.int .i64 (pe n (λy=>s y&&!(o k)) n)] (by have:=x8.nx; omega) om rfl rfl (by rw[tG,ew]; unfold aU; omega) (by rw[tG,ew]; unfold aU; omega)
   refine au (M3 e7 e9 a9) ?_
   refine⟨s',⟨kx.trans ((x8.mono kn).trans x9),?_⟩,_,(M2 e8 w1),H3 e1 e2 e5⟩
   rw[zd,show me n E o k=pe n (λy=>s y&&!(o k)) n by unfold me; rw[hp]]
   exact i9
 ·clear e1 e2 e5
  rintro a ts h7 ⟨kx,k1⟩ ⟨e1,e2,e5,e7,e8,-⟩
  simp only at e7
  have c7:=k1.cells
  refine ai (au (M1 e7) ?_)
  exact bM ⟨a,(by simp only[rs,rf27,am,aH,simprocAttr,c7.1]<;>rfl),jx.trans (kx.mono jx.nx),k1.mono jx.nx⟩
open Go.Blk
def grE (n:Nat) (E:List (Int×Int)) (hE:InG n E) (hl:∀ i,i<E.length→tlE E i≠hdE E i):Gr:=⟨E.length,n,tlE E,hdE E,λi hi=>⟨(hE i hi).2.1,(hE i hi).2.2,hl i hi⟩⟩
section
variable {n:Nat}{E:List (Int×Int)} (hE:InG n E) (hl:∀ i,i<E.length→tlE E i≠hdE E i)
end
end Go.Proofs.Ytpeemonpdlifbaa
namespace Go.Pla
open Go.Blk
def par {α:Type}:List α→(α→Bool)→Bool
 | [],_=>false
 | e::l,p=>p e ^^ par l p
theorem par_congr {α:Type}:∀ {l:List α}{p q:α→Bool},(∀ e∈l,p e=q e)→par l p=par l q
 | [],_,_,_=>rfl
 | e::l,p,q,h=>by
   simp only[par]; rw[h e (by simp),par_congr (l:=l) λk hk=>h k (by simp [hk])]
theorem dD {α:Type}{p q:α→Bool}:∀ {l:List α},par l (λe=>p e ^^ q e)=(par l p ^^ par l q)
 | []=>rfl
 | e::l=>by
   simp only[par]; rw[dD (l:=l)]
   cases p e<;>cases q e<;>cases par l p<;>cases par l q<;>rfl
theorem eN {α:Type}{p:α→Bool}:∀ {l:List α},(∀ e∈l,p e=false)→par l p=false
 | [],_=>rfl
 | e::l,h=>by simp only[par]; rw[h e (by simp),eN λk hk=>h k (by simp [hk])]; rfl
theorem fY {α:Type}{c:Bool}{p:α→Bool}:∀ {l:List α},par l (λe=>c&&p e)=(c&&par l p)
 | []=>by cases c<;>rfl
 | e::l=>by
   simp only[par]; rw[fY (l:=l)]
   cases c<;>cases p e<;>cases par l p<;>rfl
theorem lF {α:Type}{p:α→Bool}:∀ {l m:List α},par (l++m) p=(par l p ^^ par m p)
 | [],m=>by simp [par]
 | e::l,m=>by
   simp only[aI,par]; rw[lF (l:=l)]
   cases p e<;>cases par l p<;>cases par m p<;>rfl
theorem qZ {α:Type}{p:α→Bool}{l m:List α} (h:l.Perm m):par l p=par m p:=by
 induction h with
 | nil=>rfl
 | cons x _ ih=>simp only[par]; rw[ih]
 | swap x y l=>simp only[par]; cases p x<;>cases p y<;>cases par l p<;>rfl
 | trans _ _ h1 h2=>rw[h1,h2]
theorem io {α β:Type}{p:α→β→Bool}{m:List β}:∀ {l:List α},par l (λe=>par m (λf=>p e f))=par m (λf=>par l (λe=>p e f))
 | []=>by simp only[par]; exact (eN λ_ _=>rfl).symm
 | e::l=>by
   simp only[par]; rw[io (l:=l),← dD]
theorem dp {k:Nat}{p:Nat→Bool}:∀ {l:List Nat},l.Nodup→k∈l→par l (λe=>(e==k)&&p e)=p k
 | [],_,h=>by simp at h
 | e::l,nd,h=>by
   simp only[par]
   rw[aZ] at nd
   by_cases he:e=k
   ·subst he
    rw[eN (l:=l) λj hj=>by
     have:j≠e:=λx=>nd.1 (x▸hj)
     simp [this]]
    simp
   ·rw[dp (l:=l) nd.2 (by simpa [Ne.symm he] using h)]
    have:(e==k)=false:=by simp [he]
    rw[this]; cases p k<;>rfl
theorem ED {k:Nat}{p:Nat→Bool}{l:List Nat} (h:k∉l):par l (λe=>(e==k)&&p e)=false :=
 eN λe he=>by
  have:e≠k:=λx=>h (x▸he)
  simp [this]
variable {g:Gr}{B:List Nat}{Φ:Type}
def at_ (g:Gr) (e v:Nat):Bool:=(g.tl e==v) ^^ (g.hd e==v)
def Even (g:Gr) (B:List Nat) (X:Nat→Bool):Prop:=∀ v,par B (λe=>X e&&at_ g e v)=false
theorem Even.congr {X Y:Nat→Bool} (h:Even g B X) (hx:∀ e∈B,X e=Y e):Even g B Y:=λv=>by
 rw[← h v]; exact par_congr λe he=>by rw[hx e he]
theorem Even.xor {X Y:Nat→Bool} (h:Even g B X) (h':Even g B Y):Even g B (λe=>X e ^^ Y e):=λv=>by
 rw[par_congr (q:=λe=>(X e&&at_ g e v) ^^ (Y e&&at_ g e v)) (λe _=>by dsimp only; cases X e<;>cases Y e<;>cases at_ g e v<;>rfl),dD,h v,h' v]; rfl
theorem even_no:Even g B (λ_=>false):=λ_=>eN λ_ _=>rfl
theorem Even.sum {α:Type}{X:α→Nat→Bool}:∀ {l:List α},(∀ f∈l,Even g B (X f))→Even g B (λe=>par l (λf=>X f e))
 | [],_=>even_no
 | f::l,h=>(h f (by simp)).xor (Even.sum (l:=l) λk hk=>h k (by simp [hk]))
structure Dual (g:Gr) (B:List Nat) (l r:Nat→Φ):Prop where
 two:∀ S:Φ→Bool,Even g B (λe=>S (l e) ^^ S (r e))
 one:∀ X,Even g B X→∃ S:Φ→Bool,∀ e∈B,X e=(S (l e) ^^ S (r e))
def Bond (g:Gr) (B:List Nat):Prop:=∀ v e k,e∈B→k∈B→at_ g e v=true→at_ g k v=true→e≠k→∃ Z,Even g B Z∧∀ j∈B,at_ g j v=true→Z j=((j==e)||(j==k))
def Link (g:Gr) (B:List Nat):Prop:=∀ P:Nat→Bool,(∀ v e k,e∈B→k∈B→at_ g e v=true→at_ g k v=true→P e=P k)→∀ e∈B,∀ k∈B,P e=P k
theorem mL (nd:B.Nodup) (hb:Bond g B) {Y:Nat→Bool}{v:Nat} (h:∀ X,Even g B X→par B (λe=>X e&&(Y e&&at_ g e v))=false) {e k:Nat} (he:e∈B) (hk:k∈B) (hev:at_ g e v=true) (hkv:at_ g k v=true):Y e=Y k:=by
 by_cases hne:e=k
 ·rw[hne]
 obtain⟨Z,hZ,hz⟩:=hb v e k he hk hev hkv hne
 have h1:=h Z hZ
 rw[par_congr (q:=λj=>((j==e)&&Y j) ^^ ((j==k)&&Y j)) (λj hj=>by
  by_cases hjv:at_ g j v=true
  ·rw[hz j hj hjv,hjv]
   by_cases h1:j=e
   ·subst h1
    have:(j==k)=false:=by simp [hne]
    simp [this]
   ·have:(j==e)=false:=by simp [h1]
    simp [this]
  ·have a:j≠e:=λx=>hjv (x▸hev)
   have b:j≠k:=λx=>hjv (x▸hkv)
   have a':(j==e)=false:=by simp [a]
   have b':(j==k)=false:=by simp [b]
   have c:at_ g j v=false:=by simpa using hjv
   rw[a',b',c]; cases Z j<;>cases Y j<;>rfl),dD,dp nd he,dp nd hk] at h1
 cases hy:Y e<;>cases hy':Y k<;>simp [hy,hy'] at h1 ⊢
variable {l r:Nat→Φ}
theorem Dual.conn (nd:B.Nodup) (d:Dual g B l r) (hb:Bond g B) (hl:Link g B) {T:Φ→Bool} (h:∀ e∈B,T (l e)=T (r e)) {e k:Nat} (he:e∈B) (hk:k∈B):T (l e)=T (l k):=by
 refine hl (λj=>T (l j)) (λv e k he hk hev hkv=>mL nd hb (Y:=λj=>T (l j)) (λX hX=>?_) he hk hev hkv) e he k hk
 obtain⟨S,hS⟩:=d.one X hX
 have h1:=d.two (λa=>S a&&T a) v
 rw[← h1]
 refine par_congr λj hj=>?_
 dsimp only
 rw[hS j hj,← h j hj]
 cases S (l j)<;>cases S (r j)<;>cases T (l j)<;>cases at_ g j v<;>rfl
def Circ (g:Gr) (B:List Nat) (Z:Nat→Bool):Prop:=Even g B Z∧∀ Y,Even g B Y→(∀ e∈B,Y e=true→Z e=true)→(∀ e∈B,Y e=false)∨(∀ e∈B,Y e=Z e)
structure Ext (g:Gr) (B:List Nat) (l r:Nat→Φ) (H:Nat→Bool) (nf:Nat) (Z:Nat→Nat→Bool) (pf:Φ→Nat):Prop where
 side:∀ f,f<nf→∀ e∈B,Z f e=((pf (l e)==f) ^^ (pf (r e)==f))
 lt:∀ e∈B,pf (l e)<nf∧pf (r e)<nf
 lay:∀ e∈B,H e=(pf (l e) != pf (r e))
variable {H:Nat→Bool}{nf:Nat}{Z:Nat→Nat→Bool}{pf:Φ→Nat}
theorem Ext.step (nd:B.Nodup) (d:Dual g B l r) (hb:Bond g B) (hl:Link g B) (x:Ext g B l r H nf Z pf) {f:Nat} (hf:f<nf) (hc:Circ g B (Z f)) {e0:Nat} (h0:e0∈B) (hz0:Z f e0=true) {w Z1 Z2:Nat→Bool}
 (hw:∀ e∈B,w e=true→pf (l e)=f∧pf (r e)=f) (he1:Even g B Z1) (h1:∀ e∈B,Z1 e=true→Z f e=true∨w e=true) (h1w:∀ e∈B,w e=true→Z1 e=true)
 (h2:∀ e∈B,(Z1 e ^^ Z2 e)=Z f e):∃ pf':Φ→Nat,Ext g B l r (λe=>H e||w e) (nf+1) (λk e=>if k=f then Z1 e else if k=nf then Z2 e else Z k e) pf'∧(∀ a,pf a≠f→pf' a=pf a)∧(∀ a,pf a=f→pf' a=f∨pf' a=nf):=by
 obtain⟨S,hS⟩:=d.one Z1 he1
 have hT:=d.two (λa=>S a&&!(pf a==f))
 have sub:∀ e∈B,((S (l e)&&!(pf (l e)==f)) ^^ (S (r e)&&!(pf (r e)==f)))=true→Z f e=true:=by
  intro e he h
  rw[x.side f hf e he]
  have hs:=hS e he
  have hwe:=hw e he
  have h1e:=h1 e he
  rw[x.side f hf e he] at h1e
  by_cases a:pf (l e)=f<;>by_cases b:pf (r e)=f
  ·simp [a,b] at h
  ·simp [a,b]
  ·simp [a,b]
  ·simp only[a,b,beq_eq_false_iff_ne.2 a,beq_eq_false_iff_ne.2 b,bJ,eu,di] at h h1e ⊢
   rw[h] at hs
   rcases h1e hs with q|q
   ·exact q
   ·exact absurd (hwe q).1 a
 have key:∃ S':Φ→Bool,(∀ e∈B,Z1 e=(S' (l e) ^^ S' (r e)))∧(∀ e∈B,(S' (l e)=true→pf (l e)=f)∧(S' (r e)=true→pf (r e)=f)):=by
  have hz0':=x.side f hf e0 h0
  rw[hz0] at hz0'
  rcases hc.2 _ hT sub with hn|ha
  ·refine⟨S,hS,?_⟩
   have hcon:∀ e∈B,(S (l e)&&!(pf (l e)==f))=false∧(S (r e)&&!(pf (r e)==f))=false:=by
    have hq:∀ e∈B,(S (l e)&&!(pf (l e)==f))=(S (r e)&&!(pf (r e)==f)):=λe he=>by
     have:=hn e he
     revert this
     cases (S (l e)&&!(pf (l e)==f))<;>cases (S (r e)&&!(pf (r e)==f))<;>simp
    have h00:(S (l e0)&&!(pf (l e0)==f))=false:=by
     by_cases a:pf (l e0)=f
     ·simp [a]
     ·have b:pf (r e0)=f:=by
       by_cases b:pf (r e0)=f
       ·exact b
       ·rw[beq_eq_false_iff_ne.2 a,beq_eq_false_iff_ne.2 b] at hz0'; cases hz0'
      rw[hq e0 h0]; simp [b]
    intro e he
    have h3:=d.conn nd hb hl (T:=λa=>S a&&!(pf a==f)) hq he h0
    exact⟨by rw[h3,h00],by rw[← hq e he,h3,h00]⟩
   intro e he
   obtain⟨a,b⟩:=hcon e he
   constructor
   ·intro h; rw[h] at a; simpa using a
   ·intro h; rw[h] at b; simpa using b
  ·refine⟨λa=>!(S a),λe he=>?_,?_⟩
   ·rw[hS e he]; dsimp only; cases S (l e)<;>cases S (r e)<;>rfl
   have hq:∀ e∈B,((S (l e)&&!(pf (l e)==f)) ^^ !(pf (l e)==f))=((S (r e)&&!(pf (r e)==f)) ^^ !(pf (r e)==f)):=λe he=>by
    have:=ha e he
    rw[x.side f hf e he] at this
    revert this
    cases S (l e)<;>cases S (r e)<;>cases pf (l e)==f<;>cases pf (r e)==f<;>simp
   have h00:((S (l e0)&&!(pf (l e0)==f)) ^^ !(pf (l e0)==f))=false:=by
    by_cases a:pf (l e0)=f
    ·simp [a]
    ·have b:pf (r e0)=f:=by
      by_cases b:pf (r e0)=f
      ·exact b
      ·rw[beq_eq_false_iff_ne.2 a,beq_eq_false_iff_ne.2 b] at hz0'; cases hz0'
     rw[hq e0 h0]; simp [b]
   intro e he
   have h3:=d.conn nd hb hl (T:=λa=>(S a&&!(pf a==f)) ^^ !(pf a==f)) hq he h0
   have a:((S (l e)&&!(pf (l e)==f)) ^^ !(pf (l e)==f))=false:=by rw[h3,h00]
   have b:((S (r e)&&!(pf (r e)==f)) ^^ !(pf (r e)==f))=false:=by rw[← hq e he,h3,h00]
   constructor
   ·intro h
    by_cases q:pf (l e)=f
    ·exact q
    ·have:S (l e)=false:=by simpa using h
     simp [q,this] at a
   ·intro h
    by_cases q:pf (r e)=f
    ·exact q
    ·have:S (r e)=false:=by simpa using h
     simp [q,this] at b
 obtain⟨S',hS',hin⟩:=key
 refine⟨λa=>if pf a=f then (if S' a=true then f else nf) else pf a,⟨?_,?_,?_⟩,λa h=>by simp [h],λa h=>by simp only[h,if_true]; split<;>simp⟩
 ·intro k hk e he
  have hlt:=x.lt e he
  have hse:=hS' e he
  have hie:=hin e he
  have h2e:=h2 e he
  have hside:=x.side f hf e he
  by_cases hkf:k=f
  ·subst hkf
   simp only[if_true]
   rw[hse]
   have q1:((if pf (l e)=k then (if S' (l e)=true then k else nf) else pf (l e))==k)=S' (l e):=by
    by_cases a:pf (l e)=k
    ·cases hs:S' (l e)
     ·simp [a]; omega
     ·simp [a]
    ·have:S' (l e)=false:=by
      cases hs:S' (l e)
      ·rfl
      ·exact absurd (hie.1 hs) a
     simp [a,this]
   have q2:((if pf (r e)=k then (if S' (r e)=true then k else nf) else pf (r e))==k)=S' (r e):=by
    by_cases a:pf (r e)=k
    ·cases hs:S' (r e)
     ·simp [a]; omega
     ·simp [a]
    ·have:S' (r e)=false:=by
      cases hs:S' (r e)
      ·rfl
      ·exact absurd (hie.2 hs) a
     simp [a,this]
   rw[q1,q2]
  ·by_cases hkn:k=nf
   ·subst hkn
    simp only[hkf,if_false,if_true]
    have q1:((if pf (l e)=f then (if S' (l e)=true then f else k) else pf (l e))==k)=((pf (l e)==f) ^^ S' (l e)):=by
     by_cases a:pf (l e)=f
     ·cases hs:S' (l e)
      ·simp [a]
      ·simp [a]; omega
     ·have:S' (l e)=false:=by
       cases hs:S' (l e)
       ·rfl
       ·exact absurd (hie.1 hs) a
      rw[this,if_neg a,beq_eq_false_iff_ne.2 a]; simp; omega
    have q2:((if pf (r e)=f then (if S' (r e)=true then f else k) else pf (r e))==k)=((pf (r e)==f) ^^ S' (r e)):=by
     by_cases a:pf (r e)=f
     ·cases hs:S' (r e)
      ·simp [a]
      ·simp [a]; omega
     ·have:S' (r e)=false:=by
       cases hs:S' (r e)
       ·rfl
       ·exact absurd (hie.2 hs) a
      rw[this,if_neg a,beq_eq_false_iff_ne.2 a]; simp; omega
    rw[q1,q2]
    rw[hside,hse] at h2e
    revert h2e
    cases Z2 e<;>cases S' (l e)<;>cases S' (r e)<;>cases pf (l e)==f<;>cases pf (r e)==f<;>simp
   ·have hk':k<nf:=om
    simp only[hkf,hkn,if_false]
    rw[x.side k hk' e he]
    have q:∀ a,((if pf a=f then (if S' a=true then f else nf) else pf a)==k)=(pf a==k):=λa=>by
     by_cases b:pf a=f
     ·have:(pf a==k)=false:=by rw[b]; simp; omega
      rw[this]; simp only[b,if_true]
      split<;>simp<;>omega
     ·simp [b]
    rw[q,q]
 ·intro e he
  have hlt:=x.lt e he
  constructor<;>(split<;>(try split)<;>omega)
 ·intro e he
  have hlt:=x.lt e he
  have hse:=hS' e he
  have hie:=hin e he
  have hH:=x.lay e he
  have hwe:=hw e he
  have h1e:=h1 e he
  have h1we:=h1w e he
  rw[hH]
  by_cases a:pf (l e)=f<;>by_cases b:pf (r e)=f
  ·have hz:Z f e=false:=by rw[x.side f hf e he]; simp [a,b]
   have:w e=Z1 e:=by
    cases hw1:w e
    ·cases hz1:Z1 e
     ·rfl
     ·rcases h1e hz1 with q|q
      ·rw[hz] at q; simp at q
      ·rw[hw1] at q; simp at q
    ·exact (h1we hw1).symm
   rw[this,hse]
   simp only[a,b,if_true]
   cases S' (l e)<;>cases S' (r e)<;>simp<;>omega
  ·have hw0:w e=false:=by
    cases hw1:w e
    ·rfl
    ·exact absurd (hwe hw1).2 b
   rw[hw0,if_pos a,if_neg b,a,im]
   have b':=Ne.symm b
   split
   ·rfl
   ·rw[bne_iff_ne.2 b',bne_iff_ne.2 (show nf≠pf (r e) by omega)]
  ·have hw0:w e=false:=by
    cases hw1:w e
    ·rfl
    ·exact absurd (hwe hw1).1 a
   rw[hw0,if_neg a,if_pos b,b,im]
   split
   ·rfl
   ·rw[bne_iff_ne.2 a,bne_iff_ne.2 (show pf (l e)≠nf by omega)]
  ·have hw0:w e=false:=by
    cases hw1:w e
    ·rfl
    ·exact absurd (hwe hw1).1 a
   simp [a,b,hw0]
open Go.Blk
variable {g:Gr}{B:List Nat}{Φ:Type}{l r:Nat→Φ}{H:Nat→Bool}{nf:Nat}{Z:Nat→Nat→Bool}{pf:Φ→Nat}
theorem Ext.same (nd:B.Nodup) (d:Dual g B l r) (hb:Bond g B) (x:Ext g B l r H nf Z pf) {v:Nat} (hv:∀ e∈B,at_ g e v=true→H e=false) {e k:Nat} (he:e∈B) (hk:k∈B) (hev:at_ g e v=true) (hkv:at_ g k v=true):pf (l e)=pf (l k):=by
 have:=mL nd hb (Y:=λj=>pf (l j)==pf (l e)) (v:=v) (λX hX=>?_) he hk hev hkv
 ·simp only[beq_self_eq_true] at this
  exact (beq_iff_eq.1 this.symm).symm
 obtain⟨S,hS⟩:=d.one X hX
 have h1:=d.two (λa=>S a&&pf a==pf (l e)) v
 rw[← h1]
 refine par_congr λj hj=>?_
 dsimp only
 by_cases hjv:at_ g j v=true
 ·have hl:=x.lay j hj
  rw[hv j hj hjv] at hl
  have hl':pf (l j)=pf (r j):=by simpa using hl.symm
  rw[hS j hj,← hl']
  cases S (l j)<;>cases S (r j)<;>cases pf (l j)==pf (l e)<;>cases at_ g j v<;>rfl
 ·have:at_ g j v=false:=by simpa using hjv
  rw[this]; simp
theorem Ext.hangs (nd:B.Nodup) (d:Dual g B l r) (hb:Bond g B) (x:Ext g B l r H nf Z pf) {v e k:Nat} (he:e∈B) (hk:k∈B) (hev:at_ g e v=true) (hkv:at_ g k v=true) (hne:H e=false) (hkh:H k=true):∃ j∈B,at_ g j v=true∧Z (pf (l e)) j=true:=by
 refine Classical.byContradiction λhno=>?_
 have hno':∀ j∈B,at_ g j v=true→Z (pf (l e)) j=false:=λj hj hjv=>by
  cases h:Z (pf (l e)) j
  ·rfl
  ·exact absurd ⟨j,hj,hjv,h⟩ hno
 have hlt:=(x.lt e he).1
 have hiff:∀ j∈B,at_ g j v=true→(pf (l j)==pf (l e))=(pf (r j)==pf (l e)):=λj hj hjv=>by
  have h1:=hno' j hj hjv
  rw[x.side _ hlt j hj] at h1
  revert h1
  cases pf (l j)==pf (l e)<;>cases pf (r j)==pf (l e)<;>simp
 have:=mL nd hb (Y:=λj=>pf (l j)==pf (l e)) (v:=v) (λX hX=>?_) he hk hev hkv
 ·have a:pf (l k)=pf (l e):=by simpa using this.symm
  have b:=hiff k hk hkv
  rw[a] at b
  have b':pf (r k)=pf (l e):=by simpa using b.symm
  rw[x.lay k hk,a,b'] at hkh
  simp at hkh
 obtain⟨S,hS⟩:=d.one X hX
 have h1:=d.two (λa=>S a&&pf a==pf (l e)) v
 rw[← h1]
 refine par_congr λj hj=>?_
 dsimp only
 by_cases hjv:at_ g j v=true
 ·rw[hS j hj,← hiff j hj hjv]
  cases S (l j)<;>cases S (r j)<;>cases pf (l j)==pf (l e)<;>cases at_ g j v<;>rfl
 ·have:at_ g j v=false:=by simpa using hjv
  rw[this]; simp
def jn (g:Gr) (e x y:Nat):Bool:=(g.tl e==x&&g.hd e==y)||(g.tl e==y&&g.hd e==x)
theorem jn_symm {e x y:Nat}:jn g e x y=jn g e y x:=by
 unfold jn; exact Bool.or_comm _ _
theorem jn_iff {e x y:Nat}:jn g e x y=true↔(g.tl e=x∧g.hd e=y)∨(g.tl e=y∧g.hd e=x):=by
 simp [jn]
structure Pln (g:Gr) (B:List Nat):Prop where
 nd:B.Nodup
 lt:∀ e∈B,e<g.m
 one:∀ e∈B,∀ k∈B,∀ x y,jn g e x y=true→jn g k x y=true→e=k
theorem Pln.ne (p:Pln g B) {e:Nat} (he:e∈B):g.tl e≠g.hd e:=(g.ok e (p.lt e he)).2.2
theorem Pln.jne (p:Pln g B) {e x y:Nat} (he:e∈B) (h:jn g e x y=true):x≠y:=by
 have:=p.ne he
 rcases jn_iff.1 h with ⟨a,b⟩|⟨a,b⟩<;>omega
theorem Pln.jat (p:Pln g B) {e x y v:Nat} (he:e∈B) (h:jn g e x y=true):at_ g e v=((x==v) ^^ (y==v)):=by
 unfold at_
 rcases jn_iff.1 h with ⟨a,b⟩|⟨a,b⟩
 ·rw[a,b]
 ·rw[a,b,Bool.xor_comm]
def wk (g:Gr):List Nat→Nat→Bool
 | [],_=>false
 | [_],_=>false
 | x::y::t,e=>jn g e x y ^^ wk g (y::t) e
def Ch (g:Gr) (B:List Nat):List Nat→Prop
 | []=>True
 | [_]=>True
 | x::y::t=>(∃ e∈B,jn g e x y=true)∧Ch g B (y::t)
def lst:Nat→List Nat→Nat
 | x,[]=>x
 | _,y::t=>lst y t
theorem vz {x y:Nat}:∀ {t s:List Nat},lst x (t++y::s)=lst y s
 | [],_=>rfl
 | z::t,s=>by rw[aI,lst]; exact vz
theorem qY (p:Pln g B) {v:Nat}:∀ {x:Nat}{t:List Nat},Ch g B (x::t)→par B (λe=>wk g (x::t) e&&at_ g e v)=((x==v) ^^ (lst x t==v))
 | x,[],_=>by
   rw[eN λ_ _=>by simp [wk]]
   simp [lst]
 | x,y::t,h=>by
   obtain⟨⟨e,he,hj⟩,h2⟩:=h
   have ih:=qY p (v:=v) h2
   rw[par_congr (q:=λk=>(jn g k x y&&at_ g k v) ^^ (wk g (y::t) k&&at_ g k v)) (λk _=>by
    simp only[wk]; cases jn g k x y<;>cases wk g (y::t) k<;>cases at_ g k v<;>rfl),dD,ih,
    par_congr (q:=λk=>(k==e)&&at_ g k v) (λk hk=>by
     by_cases hke:k=e
     ·subst hke; simp [hj]
     ·have:jn g k x y=false:=by
       cases h:jn g k x y
       ·rfl
       ·exact absurd (p.one k hk e he x y h hj) hke
      simp [this,hke]),dp p.nd he,p.jat he hj]
   simp only[lst]
   cases x==v<;>cases y==v<;>cases lst y t==v<;>rfl
theorem gG {x e:Nat}:∀ {a b:List Nat},wk g (a++x::b) e=(wk g (a++[x]) e ^^ wk g (x::b) e)
 | [],b=>by simp [wk]
 | [y],b=>by simp [wk]
 | y::z::a,b=>by
   have ih:=gG (x:=x) (e:=e) (a:=z::a) (b:=b)
   simp only[aI,wk] at ih ⊢
   rw[ih]
   cases jn g e y z<;>cases wk g (z::(a++[x])) e<;>cases wk g (x::b) e<;>rfl
theorem gJ {x:Nat}:∀ {a b:List Nat},Ch g B (a++x::b)↔Ch g B (a++[x])∧Ch g B (x::b)
 | [],b=>by simp [Ch]
 | [y],b=>by simp [Ch]
 | y::z::a,b=>by
   have ih:=gJ (x:=x) (a:=z::a) (b:=b)
   simp only[aI,Ch] at ih ⊢
   rw[ih,and_assoc]
theorem uN {e:Nat}:∀ {a:List Nat},wk g a.reverse e=wk g a e
 | []=>rfl
 | [_]=>rfl
 | x::y::t=>by
   have ih:=uN (e:=e) (a:=y::t)
   simp only[kJ,bQ,aI,bp] at ih ⊢
   rw[gG,ih,wk,jn_symm]
   simp [wk,Bool.xor_comm]
theorem vV:∀ {a:List Nat},Ch g B a.reverse↔Ch g B a
 | []=>by simp [Ch]
 | [_]=>by simp [Ch]
 | x::y::t=>by
   have ih:=vV (a:=y::t)
   simp only[kJ,bQ,aI,bp] at ih ⊢
   rw[gJ,ih]
   simp only[Ch,and_true]
   rw[and_comm]
   constructor
   ·rintro⟨⟨e,he,h⟩,h2⟩; exact⟨⟨e,he,jn_symm.trans h⟩,h2⟩
   ·rintro⟨⟨e,he,h⟩,h2⟩; exact⟨⟨e,he,jn_symm.trans h⟩,h2⟩
theorem lr {e:Nat}:∀ {a:List Nat},wk g a e=true→∃ p x y q,a=p++x::y::q∧jn g e x y=true
 | [],h=>by simp [wk] at h
 | [_],h=>by simp [wk] at h
 | x::y::t,h=>by
   by_cases hj:jn g e x y=true
   ·exact⟨[],x,y,t,rfl,hj⟩
   ·have hj':jn g e x y=false:=by simpa using hj
    rw[wk,hj',er] at h
    obtain⟨p,a,b,q,h1,h2⟩:=lr h
    exact⟨x::p,a,b,q,by rw[h1]; rfl,h2⟩
theorem wG (p:Pln g B) {e v:Nat} (he:e∈B) {a:List Nat} (h:wk g a e=true) (hv:at_ g e v=true):v∈a:=by
 obtain⟨s,x,y,q,rfl,hj⟩:=lr h
 rw[p.jat he hj] at hv
 by_cases a:x=v
 ·subst a; simp
 by_cases b:y=v
 ·subst b; simp
 rw[beq_eq_false_iff_ne.2 a,beq_eq_false_iff_ne.2 b] at hv; cases hv
theorem jL (p:Pln g B) {e v:Nat} (he:e∈B) {a:List Nat} (hv:at_ g e v=true) (h:v∉a):wk g a e=false:=by
 cases hw:wk g a e
 ·rfl
 ·exact absurd (wG p he hw hv) h
def cy (g:Gr):List Nat→Nat→Bool
 | [],_=>false
 | x::t,e=>wk g (x::t++[x]) e
def Cc (g:Gr) (B:List Nat):List Nat→Prop
 | []=>False
 | x::t=>Ch g B (x::t++[x])∧(x::t).Nodup∧3≤(x::t).length
theorem py {a b:List Nat}{e:Nat}:cy g (a++b) e=cy g (b++a) e:=by
 cases a with
 | nil=>simp
 | cons x a =>
   cases b with
   | nil=>simp
   | cons y b =>
     show wk g (x::(a++y::b)++[x]) e=wk g (y::(b++x::a)++[y]) e
     have h1:x::(a++y::b)++[x]=(x::a)++y::(b++[x]):=by simp
     have h2:y::(b++x::a)++[y]=(y::b)++x::(a++[y]):=by simp
     rw[h1,h2,gG,gG (x:=x),Bool.xor_comm]
     rfl
theorem nN {a b:List Nat} (h:Cc g B (a++b)):Cc g B (b++a):=by
 cases a with
 | nil=>simpa using h
 | cons x a =>
   cases b with
   | nil=>simpa using h
   | cons y b =>
     obtain⟨h1,h2,h3⟩:=h
     have e1:x::(a++y::b)++[x]=(x::a)++y::(b++[x]):=by simp
     have e2:y::(b++x::a)++[y]=(y::b)++x::(a++[y]):=by simp
     refine⟨?_,?_,?_⟩
     ·show Ch g B (y::(b++x::a)++[y])
      change Ch g B (x::(a++y::b)++[x]) at h1
      rw[e1,gJ] at h1
      rw[e2,gJ]
      exact⟨h1.2,h1.1⟩
     ·exact (sU (l₁:=x::a) (l₂:=y::b)).nodup h2
     ·simp at h3
      show 3≤(y::(b++x::a)).length
      simp; omega
theorem iw (p:Pln g B) {c:List Nat} (h:Cc g B c):Even g B (cy g c):=by
 cases c with
 | nil=>exact h.elim
 | cons x t =>
   intro v
   have:=qY p (v:=v) (x:=x) (t:=t++[x]) h.1
   rw[vz] at this
   simp only[lst,pG] at this
   exact this
theorem uv (p:Pln g B) {x y z:Nat}{s:List Nat} (hc:Cc g B (y::z::(s++[x]))) {Y:Nat→Bool} (hY:par B (λe=>Y e&&at_ g e y)=false) (hs:∀ e∈B,Y e=true→cy g (y::z::(s++[x])) e=true) {e k:Nat} (he:e∈B) (hk:k∈B) (hje:jn g e x y=true) (hjk:jn g k y z=true):Y e=Y k:=by
 obtain⟨_,hn,_⟩:=hc
 have hxz:x≠z:=by
  intro h; subst h
  simp [aZ] at hn
 have hek:e≠k:=by
  intro h; subst h
  have:=p.ne he
  rcases jn_iff.1 hje with ⟨a,b⟩|⟨a,b⟩<;>rcases jn_iff.1 hjk with ⟨c,d⟩|⟨c,d⟩<;>omega
 have h1:=hY
 rw[par_congr (q:=λj=>((j==e)&&Y j) ^^ ((j==k)&&Y j)) (λj hj=>by
  by_cases hjv:at_ g j y=true
  ·rw[hjv,eu]
   by_cases a:j=e
   ·subst a
    have:(j==k)=false:=by simp [hek]
    simp [this]
   ·by_cases b:j=k
    ·subst b
     have:(j==e)=false:=by simp [a]
     simp [this]
    ·have:Y j=false:=by
      cases hy:Y j
      ·rfl
      ·have hz:=hs j hj hy
       have e1:y::z::(s++[x])++[y]=y::z::(s++[x,y]):=by simp
       change wk g (y::z::(s++[x])++[y]) j=true at hz
       rw[e1,wk] at hz
       have e2:z::(s++[x,y])=(z::s)++x::[y]:=by simp
       rw[e2,gG] at hz
       have n1:jn g j y z=false:=by
        cases h:jn g j y z
        ·rfl
        ·exact absurd (p.one j hj k hk y z h hjk) b
       have n2:jn g j x y=false:=by
        cases h:jn g j x y
        ·rfl
        ·exact absurd (p.one j hj e he x y h hje) a
       have n3:wk g (z::s++[x]) j=false:=jL p hj hjv (by
        simp only[aZ] at hn
        simpa using hn.1)
       rw[n1,n3] at hz
       simp [wk,n2] at hz
     simp [this]
  ·have a:j≠e:=λq=>hjv (by rw[q,p.jat he hje]; simp [p.jne he hje])
   have b:j≠k:=λq=>hjv (by rw[q,p.jat hk hjk]; simp [Ne.symm (p.jne hk hjk)])
   have c:at_ g j y=false:=by simpa using hjv
   rw[c,beq_eq_false_iff_ne.2 a,beq_eq_false_iff_ne.2 b]; simp),dD,dp p.nd he,dp p.nd hk] at h1
 cases hy:Y e<;>cases hy':Y k<;>simp [hy,hy'] at h1 ⊢
def ro:List Nat→List Nat
 | []=>[]
 | x::t=>t++[x]
theorem yM:∀ {p q:List Nat},Nat.repeat ro p.length (p++q)=q++p
 | [],q=>by simp [Nat.repeat]
 | x::p,q=>by
   have:∀ n (c:List Nat),Nat.repeat ro (n+1) c=Nat.repeat ro n (ro c):=by
    intro n
    induction n with
    | zero=>intro c; rfl
    | succ n ih=>intro c; rw[Nat.repeat,ih]; rfl
   rw[aB,this]
   show Nat.repeat ro p.length (p++q++[x])=_
   rw[bQ,yM]
   simp
theorem cc_ro {c:List Nat} (h:Cc g B c):Cc g B (ro c):=by
 cases c with
 | nil=>exact h
 | cons x t=>exact nN (a:=[x]) h
theorem Jy {c:List Nat}{e:Nat}:cy g (ro c) e=cy g c e:=by
 cases c with
 | nil=>rfl
 | cons x t=>exact (py (a:=[x]) (b:=t)).symm
theorem Bb (p:Pln g B) {c:List Nat} (hc:Cc g B c):Circ g B (cy g c):=by
 refine⟨iw p hc,λY hY hs=>?_⟩
 have first:∀ n,∃ y z s,Nat.repeat ro n c=y::z::s∧s≠[]∧Cc g B (y::z::s)∧(∀ e∈B,cy g (y::z::s) e=cy g c e):=by
  intro n
  have h1:Cc g B (Nat.repeat ro n c)∧∀ e,cy g (Nat.repeat ro n c) e=cy g c e:=by
   induction n with
   | zero=>exact⟨hc,λ_=>rfl⟩
   | succ n ih=>exact⟨cc_ro ih.1,λe=>(Jy).trans (ih.2 e)⟩
  revert h1
  generalize Nat.repeat ro n c=d
  intro h1
  match d,h1 with
  | [],h1=>exact h1.1.elim
  | [_],h1=>have:=h1.1.2.2; simp at this
  | [_,_],h1=>have:=h1.1.2.2; simp at this
  | y::z::w::s,h1=>exact⟨y,z,w::s,rfl,by simp,h1.1,λe _=>h1.2 e⟩
 have same:∀ n,∀ y z s,Nat.repeat ro n c=y::z::s→∀ e∈B,jn g e y z=true→∀ y0 z0 s0,c=y0::z0::s0→∀ e0∈B,jn g e0 y0 z0=true→Y e=Y e0:=by
  intro n
  induction n with
  | zero =>
    intro y z s h e he hj y0 z0 s0 h0 e0 he0 hj0
    change c=_ at h
    rw[h0] at h
    injection h with a b
    injection b with b c
    subst a b
    rw[p.one e he e0 he0 _ _ hj hj0]
  | succ n ih =>
    intro y z s h e he hj y0 z0 s0 h0 e0 he0 hj0
    obtain⟨x,w,t,h1,h2,h3,h4⟩:=first n
    rw[Nat.repeat,h1] at h
    change w::t++[x]=_ at h
    rw[aI] at h
    injection h with a b
    subst a
    obtain⟨⟨e1,he1,hj1⟩,_⟩:=h3.1
    rw[← ih x w t h1 e1 he1 hj1 y0 z0 s0 h0 e0 he0 hj0]
    cases t with
    | nil=>exact absurd rfl h2
    | cons q t =>
      rw[aI] at b
      injection b with b b'
      subst b
      have hcc:Cc g B (w::q::(t++[x])):=nN (a:=[x]) (b:=w::q::t) h3
      refine (uv p hcc (hY _) (λk hk hy=>?_) he1 he hj1 hj).symm
      rw[show w::q::(t++[x])=ro (x::w::q::t) from rfl,Jy,h4 k hk]
      exact hs k hk hy
 obtain⟨y0,z0,s0,h0,h0',h0c,_⟩:=first 0
 change c=_ at h0
 obtain⟨⟨e0,he0,hj0⟩,_⟩:=h0c.1
 have all:∀ e∈B,cy g c e=true→Y e=Y e0:=by
  intro e he hz
  subst h0
  obtain⟨a,u,w,b,hab,hj⟩:=lr (show wk g (y0::z0::s0++[y0]) e=true from hz)
  rcases cN b with rfl|⟨b',q,rfl⟩
  ·have h2:(y0::z0::s0)++[y0]=(a++[u])++[w]:=by rw[hab]; simp
   obtain⟨h3,h4⟩:=dK h2 rfl
   injection h4 with h4
   subst h4
   cases a with
   | nil=>simp at h3
   | cons v a =>
     rw[aI] at h3
     injection h3 with h5 h6
     subst h5
     have h7:=yM (p:=y0::a) (q:=[u])
     rw[aI,← h6] at h7
     exact same _ u y0 a h7 e he hj y0 z0 s0 rfl e0 he0 hj0
  ·have h2:(y0::z0::s0)++[y0]=(a++u::w::b')++[q]:=by rw[hab]; simp
   obtain⟨h3,_⟩:=dK h2 rfl
   have h7:=yM (p:=a) (q:=u::w::b')
   rw[← h3] at h7
   exact same _ u w (b'++a) (by rw[h7]; simp) e he hj y0 z0 s0 rfl e0 he0 hj0
 cases hy:Y e0
 ·refine .inl λe he=>?_
  cases h:Y e
  ·rfl
  ·rw[← h,all e he (hs e he h),hy]
 ·refine .inr λe he=>?_
  cases h:cy g c e
  ·cases h':Y e
   ·rfl
   ·rw[hs e he h'] at h; exact absurd h (by simp)
  ·rw[all e he h,hy]
end Go.Pla
