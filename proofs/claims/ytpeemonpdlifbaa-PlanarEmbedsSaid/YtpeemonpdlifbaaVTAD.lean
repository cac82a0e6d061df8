/- graph.May. -/
import Derived.Test.YtpeemonpdlifbaaVTAC
import Derived.Test.YtpeemonpdlifbaaVAmA
set_option linter.all false
namespace Go.Proofs.Ytpeemonpdlifbaa
open Go.Am
def okE (v:Int) (e:Int×Int):Bool:=decide (0≤e.1)&&decide (0≤e.2)&&decide (e.1<v)&&decide (e.2<v)
def iP (v:Int) (es:List (Int×Int)):Bool:=decide (1≤v)&&decide (v≤64)&&decide (es.length≤128)&&es.all (okE v)
def xn (v x:Int):Bool:=decide (x<0)||decide (v≤x)
theorem xR {h:AH}{b:Nat}{x n:Int} (hr:ak h b 0 1=some [.int .i64 n]):C prg 41 [.int .i64 x,.ptr b 0] h λr h'=>r=.bool (xn n x)∧h'=h:=by
 refine KK pf41 ?_
 refine ai (au (Mi0) ?_)
 by_cases q:x<0
 ·have c1:decide (x<0)=true:=aM q
  refine ai (au (Mi1 c1) ?_)
  exact bM ⟨.bool true,(by simp only[rs,rf41,am,aH,simprocAttr,c1]<;>rfl),by simp [xn,q],rfl⟩
 ·have c1:decide (x<0)=false:=aK q
  refine ai (au (Mi2 c1 hr) ?_)
  exact bM ⟨.bool (decide (n≤x)),(by simp only[rs,rf41,am,aH,simprocAttr,c1]<;>rfl),by simp [xn,q],rfl⟩
theorem FB {h:AH}{b s:Nat}{x:Int×Int}{n:Int} (hr:ak h b 0 1=some [.int .i64 n]) (hs:ak h s 0 1=some [.fn 41 [.ptr b 0]]) (hb:b<h.next) (hsn:s<h.next) :
 C prg 42 ([.agg (eE x)]++[.ptr s 0]) h λr h'=>r=.bool (!okE n x)∧Ext h.next h h':=by
 refine KK pf42 ?_
 have fin:(!okE n x)=(xn n x.1||xn n x.2):=by
  obtain⟨x1,x2⟩:=x
  simp only[okE,xn]
  by_cases a1:x1<0<;>by_cases a2:x2<0<;>by_cases a3:n≤x1<;>by_cases a4:n≤x2<;>simp [a1,a2,a3,a4]<;>omega
 rw[fin]
 refine ai (au (by simp only[am,aH,simprocAttr,bN,eE]<;>rfl) ?_)
 have ex:Ext h.next h (h.new (.cells [.int .i64 x.1,.int .i64 x.2] 2 false)):=KH (ab _)
 have g:(h.new (.cells [.int .i64 x.1,.int .i64 x.2] 2 false)).get h.next=some (.cells [.int .i64 x.1,.int .i64 x.2] 2 false):=by rw[AH.get_new,if_pos rfl]
 generalize h.new (.cells [.int .i64 x.1,.int .i64 x.2] 2 false)=h1 at *
 have r1:ak h1 h.next 0 1=some [.int .i64 x.1]:=by rw[aW g]; rfl
 have r2:ak h1 h.next 1 1=some [.int .i64 x.2]:=by rw[aW g]; rfl
 have hr1:ak h1 b 0 1=some [.int .i64 n]:=by rw[← hr]; exact cF (ex.gt b hb)
 have hs1:ak h1 s 0 1=some [.fn 41 [.ptr b 0]]:=by rw[← hs]; exact cF (ex.gt s hsn)
 refine ai (bU (lh 3 (by simp only[am,aH,simprocAttr,bN,eE,hs1,r1]<;>rfl) rfl (by simp only[am,aH,simprocAttr,bN,eE,hs1,r1]) (by simp only[am,aH,simprocAttr,bN,eE,hs1,r1]<;>rfl) (by simp only[am,aH,simprocAttr,bN,eE,hs1,r1]<;>rfl) (xR (x:=x.1) hr1) λr h2 hq=>?_))
 obtain⟨rfl,rfl⟩:=hq
 cases q:xn n x.1 with
 | true =>
   refine G.nocallv 4 (M0) rfl (Z0) ?_
   refine bP (M0) ?_
   exact bM ⟨.bool true,(by simp only[rs,rf42,am,aH,simprocAttr]<;>rfl),rfl,ex⟩
 | false =>
   refine lh 4 (by simp only[am,aH,simprocAttr,bN,eE,hs1,r2]<;>rfl) rfl (by simp only[am,aH,simprocAttr,bN,eE,hs1,r2]) (by simp only[am,aH,simprocAttr,bN,eE,hs1,r2]<;>rfl) (by simp only[am,aH,simprocAttr,bN,eE,hs1,r2]<;>rfl) (xR (x:=x.2) hr1) λr h3 hq=>?_
   obtain⟨rfl,rfl⟩:=hq
   refine bP (M0) ?_
   exact bM ⟨.bool (xn n x.2),(by simp only[rs,rf42,am,aH,simprocAttr]<;>rfl),rfl,ex⟩
theorem AU {h:AH}{n:Int}{ev:AV}{es:List (Int×Int)} (he:SlE h ev es) (hl:es.length<2 ^ 40):C prg 24 [.agg [.int .i64 n,ev]] h λr h'=>r=.bool (iP n es)∧Ext h.next h h':=by
 refine KK pf24 ?_
 obtain⟨ec,eo⟩:=he.cells
 have hlen:=he.len
 rw[ae] at hlen
 refine ai (au (Mi0) ?_)
 have ex0:Ext h.next h (h.new (.cells [.int .i64 n,ev] 2 false)):=KH (ab _)
 have g0:(h.new (.cells [.int .i64 n,ev] 2 false)).get h.next=some (.cells [.int .i64 n,ev] 2 false):=by rw[AH.get_new,if_pos rfl]
 have n0:(h.new (.cells [.int .i64 n,ev] 2 false)).next=h.next+1:=rfl
 generalize h.new (.cells [.int .i64 n,ev] 2 false)=h0 at *
 have gN:(h0.new (.cells [.nilf] 1 false)).get h0.next=some (.cells [.nilf] 1 false):=by rw[AH.get_new,if_pos rfl]
 have w1:bX (h0.new (.cells [.nilf] 1 false)) h0.next 0 [.fn 41 [.ptr h.next 0]]=some ((h0.new (.cells [.nilf] 1 false)).put h0.next (.cells [.fn 41 [.ptr h.next 0]] 1 false)):=by rw[fz gN]; rfl
 have u1:Upd (h0.new (.cells [.nilf] 1 false)) ((h0.new (.cells [.nilf] 1 false)).put h0.next (.cells [.fn 41 [.ptr h.next 0]] 1 false)) h0.next (.cells [.fn 41 [.ptr h.next 0]] 1 false):=KJ gN
 refine ai (au (Mi1 w1) ?_)
 have ex1:Ext h0.next h0 ((h0.new (.cells [.nilf] 1 false)).put h0.next (.cells [.fn 41 [.ptr h.next 0]] 1 false)):=(KH (ab _)).trans (u1.ext (ab _))
 have n1:((h0.new (.cells [.nilf] 1 false)).put h0.next (.cells [.fn 41 [.ptr h.next 0]] 1 false)).next=h0.next+1:=rfl
 have g1:=u1.get
 generalize (h0.new (.cells [.nilf] 1 false)).put h0.next (.cells [.fn 41 [.ptr h.next 0]] 1 false)=h1 at *
 clear gN w1 u1
 have g0':h1.get h.next=some (.cells [.int .i64 n,ev] 2 false):=by rw[ex1.gt _ om]; exact g0
 have r1:ak h1 h.next 0 1=some [.int .i64 n]:=by rw[aW g0']; rfl
 have r2:ak h1 h.next 1 1=some [ev]:=by rw[aW g0']; rfl
 have r3:ak h1 h0.next 0 1=some [.fn 41 [.ptr h.next 0]]:=by rw[aW g1]; rfl
 have ex:Ext h.next h h1:=ex0.trans (ex1.mono om)
 have he1:=he.ext ex (ab _)
 by_cases q1:0<n
 case neg =>
  have c1:decide (0<n)=false:=aK q1
  refine ai (bU (mR 18 (Mi2 r1 c1) rfl (Z1 c1) ?_))
  refine bP (M0) ?_
  exact bM ⟨.bool false,(by simp only[rs,rf24,am,aH,simprocAttr]<;>rfl),by simp [iP]; omega,ex⟩
 have c1:decide (0<n)=true:=aM q1
 by_cases q2:n≤64
 case neg =>
  have c2:decide (n≤64)=false:=aK q2
  refine ai (bU (mR 18 (Mi3 r1 c1 c2) rfl (Z0) ?_))
  refine bP (M0) ?_
  exact bM ⟨.bool false,(by simp only[rs,rf24,am,aH,simprocAttr]<;>rfl),by simp [iP,q2],ex⟩
 have c2:decide (n≤64)=true:=aM q2
 by_cases q3:es.length≤128
 case neg =>
  have c3:decide (((es.length:Nat):Int)≤128)=false:=aK om
  refine ai (bU (mR 18 (Mi6 r1 r2 hlen c1 c2 c3) rfl (Z0) ?_))
  refine bP (M0) ?_
  exact bM ⟨.bool false,(by simp only[rs,rf24,am,aH,simprocAttr]<;>rfl),by simp [iP,q3],ex⟩
 have c3:decide (((es.length:Nat):Int)≤128)=true:=aM om
 have hcf:∀ x∈es,∀ h',Ext h1.next h1 h'→C prg 42 ([.agg (eE x)]++[.ptr h0.next 0]) h' λr h''=>r=.bool (!okE n x)∧Ext h'.next h' h'':=λx _ h' hx =>
  FB (by rw[← r1]; exact cF (hx.gt _ om)) (by rw[← r3]; exact cF (hx.gt _ om)) (by have:=hx.nx; omega) (by have:=hx.nx; omega)
 refine ai (bU (bu 18 (Mi6 r1 r2 hlen c1 c2 c3) rfl (Zi6 r1 r2 hlen c1 c2 c3) (Mi6 r1 r2 hlen c1 c2 c3) (uA he1 hl hcf) λr h2 hq=>?_))
 obtain⟨rfl,ex2⟩:=hq
 refine bP (M0) ?_
 refine bM ⟨_,(by simp only[rs,rf24,am,aH,simprocAttr]<;>rfl),?_,ex.trans (ex2.mono ex.nx)⟩
 have c4:decide (1≤n)=true:=aM om
 have c5:(!es.any λx=>!okE n x)=es.all (okE n):=by
  rw[List.not_any_eq_all_not]
  simp
 simp only[iP,c4,c2,q3,decide_true,yz,c5]
open Go.Am
def Rw (h:AH) (lo:Nat) (vs:List AV) (xss:List (List Int)):Prop :=
 vs.length=xss.length∧(∀ (i:Nat) (v:AV) (xs:List Int),vs[i]?=some v→xss[i]?=some xs→IsSl h 1 lo v (xs.flatMap eI))∧∀ (i j b n b' n':Nat),i≠j→vs[i]?=some (AV.sl b 0 n n)→vs[j]?=some (AV.sl b' 0 n' n')→b≠b'
theorem Rw.cong {h h':AH}{lo:Nat}{vs:List AV}{xss:List (List Int)} (hr:Rw h lo vs xss) (hk:∀ c,lo≤c→c<h.next→h'.get c=h.get c):Rw h' lo vs xss :=
 ⟨hr.1,λi v xs h1 h2=>(hr.2.1 i v xs h1 h2).cong λb n e hb=>hk b hb ((hr.2.1 i v xs h1 h2).lt e),hr.2.2⟩
theorem Rw.lt {h:AH}{lo:Nat}{vs:List AV}{xss:List (List Int)} (hr:Rw h lo vs xss) {j b n:Nat} (hj:vs[j]?=some (AV.sl b 0 n n)):b<h.next∧lo≤b:=by
 have hjl:j<vs.length:=(aL.1 hj).1
 have:=hr.2.1 j _ (xss[j]'(by rw[← hr.1]; exact hjl)) hj (ah _)
 rcases this with ⟨q,_⟩|⟨b',n',q1,q2,q3,_⟩
 ·cases q
 ·cases q2; exact⟨AH.lt_of_get q3,q1⟩
theorem Rw.push {h:AH}{lo:Nat}{vs:List AV}{xss:List (List Int)} (hr:Rw h lo vs xss) {i x:Nat}{k:Int}{xs:List Int} (hi:xss[i]?=some xs) (hlo:lo≤h.next) (hx:h.get x=some (.cells [.int .i64 k] 1 false)) (hxl:lo≤x) (hxn:∀ (j b n:Nat),vs[j]?=some (AV.sl b 0 n n)→b≠x) (hl:xs.length<2 ^ 30) :
 ∃ v v' h',vs[i]?=some v∧fB h 1 8 v (.sl x 0 1 1)=some (v',h')∧v'.cells=[v']∧v'.one=true∧Rw h' lo (vs.set i v') (xss.set i (xs++[k]))∧Ext lo h h'∧h'.next=h.next+1∧∀ c,c<h.next→(∀ (j b n:Nat),vs[j]?=some (AV.sl b 0 n n)→b≠c)→h'.get c=h.get c∧∀ (j b n:Nat),(vs.set i v')[j]?=some (AV.sl b 0 n n)→b≠c:=by
 obtain⟨r1,r2,r3⟩:=hr
 have hil:i<xss.length:=(aL.1 hi).1
 have hv:vs[i]?=some vs[i]:=ah om
 have hlen:(xs.flatMap eI).length=xs.length:=by rw[eY (f:=eI) (e:=1) (λ_=>rfl)]; omega
 obtain⟨v',h',a1,a2,a3,a4,a5,a6,a7⟩:=(r2 i _ xs hv hi).app (bytes:=8) hlo om hx hxl (λb n e=>hxn i b n (by rw[hv,e])) rfl rfl (by rw[hlen]; unfold aU; omega) (by rw[hlen]; unfold aU; omega)
 obtain⟨c1,c2⟩:=a2.cells
 refine⟨_,v',h',hv,a1,c1,c2,⟨by rw[cV,cV,r1],?_,?_⟩,a3,a5,λc hc hne=>⟨a6 c hc λb n e=>(hne i b n (by rw[hv,e])).symm,λj b n hj=>?_⟩⟩
 rotate_right
 ·by_cases e:i=j
  ·subst e
   rw[cS om,aa,a4] at hj
   cases hj
   omega
  ·rw[cW e] at hj
   exact hne j b n hj
 ·intro j w ys hw hy
  by_cases e:i=j
  ·subst e
   rw[cS om,aa] at hw hy
   subst hw hy
   rw[dU]
   exact a2
  ·rw[cW e] at hw hy
   refine (r2 j w ys hw hy).cong λb n eb hb=>a6 b ((r2 j w ys hw hy).lt eb) λb' n' e'=>?_
   exact (r3 i j b' n' b n e (by rw[hv,e']) (by rw[hw,eb])).symm
 ·have hlt:∀ j b n,vs[j]?=some (AV.sl b 0 n n)→b<h.next:=λj b n hj=>by
   have hjl:j<vs.length:=(aL.1 hj).1
   exact (r2 j _ xss[j] hj (ah om)).lt rfl
  intro j1 j2 b n b' n' hne h1 h2
  by_cases e:i=j1
  ·subst e
   rw[cS om,aa,a4] at h1
   rw[cW hne] at h2
   have:=hlt _ _ _ h2
   cases h1
   omega
  ·rw[cW e] at h1
   by_cases e2:i=j2
   ·subst e2
    rw[cS om,aa,a4] at h2
    have:=hlt _ _ _ h1
    cases h2
    omega
   ·rw[cW e2] at h2
    exact r3 _ _ _ _ _ _ hne h1 h2
theorem rF {n:Nat}{es:List (Int×Int)} (hm:iP (n:Nat) es=true):1≤n∧n≤64∧es.length≤128∧es.all (okE n)=true:=by
 simp only[iP,aQ,aJ] at hm
 exact⟨om,om,om,hm.2⟩
theorem HT {n:Nat}{e:Int×Int} (h:okE n e=true):∃ a b:Nat,e=(((a:Nat):Int),((b:Nat):Int))∧a<n∧b<n:=by
 obtain⟨x,y⟩:=e
 simp only[okE,aQ,aJ] at h
 exact⟨x.toNat,y.toNat,by rw[Int.toNat_of_nonneg om,Int.toNat_of_nonneg om],om,om⟩
open Go.Am
open Go.Am
theorem AX (xs:List Int):xs.flatMap eI=xs.map (AV.int .i64):=by
 induction xs with
 | nil=>rfl
 | cons x r ih=>rw[gh,ih]; rfl
open Go.Am Go.Sort
theorem reverse_nil {h:AH}:C prg 57 [.nils] h λ_ h'=>h'=h:=by
 refine KK pf57 ?_
 have w0:IntKind.i64.wrap (0-1)=-1:=by decide
 refine ai (au (Ji2 @nH w0) ?_)
 refine cY (fX (λn ts h1=>h1=h∧aN ts 2=.int .i64 0∧aN ts 3=.int .i64 (-1)) ?_ (n:=0) ⟨rfl,Ii0,Ii0⟩)
 rintro n ts h1 ⟨rfl,e2,e3⟩
 refine ai (ai (au (M2 e2 e3) ?_))
 refine dn (by simp only[am,aH,simprocAttr]; rfl) ?_
 exact fC ⟨λ_=>⟨.tup [],rfl,rfl⟩,λe=>absurd rfl e⟩
theorem qR {h:AH}{b o c:Nat}{cs:List AV}{d:Array Int} (hg:h.get b=some (lS cs o d)) (hr:o+d.size≤cs.length) (hs:d.size<2 ^ 40) :
 C prg 57 [.sl b o d.size c] h λ_ h'=>Upd h h' b (lS cs o d.reverse):=by
 refine KK pf57 ?_
 have w0:IntKind.i64.wrap (((d.size:Nat):Int)-1)=((d.size:Nat):Int)-1-((0:Nat):Int):=by rw[et om om]; omega
 refine ai (au (Mi1 w0) ?_)
 refine fN (α:=Array Int) (N:=d.size / 2) (λk a=>[(0,.sl b o d.size c),(2,.int .i64 (k:Nat)),(3,.int .i64 (((d.size:Nat):Int)-1-((k:Nat):Int)))])
  (λk a h'=>Upd h h' b (lS cs o a)∧a.size=d.size∧∀ x,x<d.size→a[x]! = if x<k∨d.size-1-x<k then d[d.size-1-x]! else d[x]!) d (Hi1 @bg) ⟨Upd.refl hg,rfl,λx _=>by rw[if_neg om]⟩ ?_ ?_ ?_
 ·rintro k a ts h1 hk ⟨j1,j2,j3⟩ ⟨e0,e2,e3,-⟩
  simp only at e0 e2 e3
  have c2:decide (((k:Nat):Int)<((d.size:Nat):Int)-1-((k:Nat):Int))=decide (k<d.size / 2):=by simp only[decide_eq_decide]; omega
  exact⟨_,(M3 e2 e3 c2),Z0,H3 e0 e2 e3⟩
 ·rintro k a ts h1 hk ⟨j1,j2,j3⟩ ⟨e0,e2,e3,-⟩
  simp only at e0 e2 e3
  have hm:((d.size:Nat):Int)-1-((k:Nat):Int)=((d.size-1-k:Nat):Int):=om
  have i1:fL ((k:Nat):Int) d.size=some k:=dE om
  have i2:fL ((d.size-1-k:Nat):Int) d.size=some (d.size-1-k):=dE om
  have r1:=Ew (i:=k) j1.get om om
  have r2:=Ew (i:=d.size-1-k) j1.get om om
  obtain⟨m1,m2,s1,s2,u2⟩:=GQ (i:=k) (j:=d.size-1-k) j1.get om om om
  have w1:IntKind.i64.wrap (((k:Nat):Int)+1)=((k+1:Nat):Int):=et om om
  have w2:IntKind.i64.wrap (((d.size-1-k:Nat):Int)-1)=((d.size:Nat):Int)-1-((k+1:Nat):Int):=by rw[et om om]; omega
  refine au (M12 e0 e2 e3 hm i1 i2 r1 r2 s1 s2 @aP @aP) ?_
  refine⟨_,⟨j1.trans u2,by rw[BC,j2],?_⟩,_,(M5 e2 e3 hm w1 w2),H1 e0⟩
  intro x hx
  by_cases x1:x=k
  ·subst x1
   rw[swp_left _ _ _ om om,j3 _ om,if_neg om,if_pos om]
  ·by_cases x2:x=d.size-1-k
   ·rw[x2,swp_right _ _ _ om,j3 _ om,if_neg om,if_pos om]
    congr 1
    omega
   ·rw[swp_other _ _ _ _ x1 x2,j3 _ hx]
    by_cases q:x<k∨d.size-1-x<k
    ·rw[if_pos q,if_pos om]
    ·rw[if_neg q,if_neg om]
 ·rintro a ts h1 ⟨j1,j2,j3⟩ _
  refine⟨.tup [],rfl,?_⟩
  have:a=d.reverse:=by
   refine Array.ext (by simpa using j2) λi h1 h2=>?_
   have:=j3 i om
   rw[getElem!_pos a i h1] at this
   rw[this,Array.getElem_reverse]
   rw[getElem!_pos d _ om]
   split
   ·rfl
   ·rw[getElem!_pos d _ om]
    congr 1
    omega
  rw[← this]
  exact j1
open Go.Am
open Go.Sort (swp ltInt)
open Go.Sort (insInner insOuter insertionSort)
open Go.Am
open Go.Sort (swp ltInt siftDown heapBuild heapPop heapSort)
open Go.Am
open Go.Sort (swp ltInt reverseLoop reverseRange scanUp scanDown partLoop partition partEqLoop partitionEqual scanUp_spec scanDown_spec scanUp_ge scanDown_le partLoop_eq partEqLoop_eq)
open Go.Am
open Go.Sort (swp ltInt scanSorted shiftDown shiftUp partialIns partialInsertionSort fixDown fixUp partialIns_succ)
open Go.Am
set_option maxRecDepth 8000 in
theorem zq {h:AH}:C prg 74 [.int .u64 0] h λv h'=>v=.int .i64 0∧h'=h:=by
 refine KK pf74 ?_
 refine ai (au (Ji0) ?_)
 have c1:decide ((4294967296:Int)≤0)=false:=by decide
 have c2:decide ((65536:Int)≤0)=false:=by decide
 have c3:decide ((256:Int)≤0)=false:=by decide
 refine ai (ai (au (Ji1 c1) ?_))
 refine dn (I1 c1) (bH ?_)
 refine ai (ai (au (Ji1 c2) ?_))
 refine dn (I1 c2) (bH ?_)
 refine ai (ai (au (Ji1 c3) ?_))
 refine dn (I1 c3) (bH ?_)
 have w1:IntKind.u8.wrap 0=0:=by decide
 have w2:IntKind.i64.wrap 0=0:=by decide
 have w3:IntKind.i64.wrap (0+0)=0:=by decide
 have hi:xO (.str [0,1,2,2,3,3,3,3,4,4,4,4,4,4,4,4,5,5,5,5,5,5,5,5,5,5,5,5,5,5,5,5,6,6,6,6,6,6,6,6,6,6,6,6,6,6,6,6,6,6,6,6,6,6,6,6,6,6,6,6,6,6,6,6,7,7,7,7,7,7,7,7,7,7,7,7,7,7,7,7,7,7,7,7,7,7,7,7,7,7,7,7,7,7,7,7,7,7,7,7,7,7,7,7,7,7,7,7,7,7,7,7,7,7,7,7,7,7,7,7,7,7,7,7,7,7,7,7,8,8,8,8,8,8,8,8,8,8,8,8,8,8,8,8,8,8,8,8,8,8,8,8,8,8,8,8,8,8,8,8,8,8,8,8,8,8,8,8,8,8,8,8,8,8,8,8,8,8,8,8,8,8,8,8,8,8,8,8,8,8,8,8,8,8,8,8,8,8,8,8,8,8,8,8,8,8,8,8,8,8,8,8,8,8,8,8,8,8,8,8,8,8,8,8,8,8,8,8,8,8,8,8,8,8,8,8,8,8,8,8,8,8,8,8,8,8,8,8,8,8,8,8,8,8,8,8]) (.int .u8 0)=some (.int .u8 0):=rfl
 refine ai (bR (λts h5=>h5=h∧aN ts 2=.int .i64 0) ?_ λts h5 ⟨eh,e2⟩=>bM ⟨.int .i64 0,(by simp only[rs,rf74,am,aH,simprocAttr,e2]<;>rfl),rfl,eh⟩)
 simp only[am,aH,simprocAttr,bN,w1,hi,w2,w3]
theorem uI {h:AH}:C prg 51 [.int .u64 0] h λv h'=>v=.int .i64 0∧h'=h:=by
 refine KK pf51 ?_
 refine ai (au (Ji0) ?_)
 refine ai (dn rfl (bH ?_))
 refine ai (bU (bu 1 (Mi0) rfl (Zi0) (Mi0) (zq) λv h' hq=>?_))
 obtain⟨rfl,rfl⟩:=hq
 refine bP (M0) ?_
 exact bM ⟨_,(by simp only[rs,rf51,am,aH,simprocAttr]<;>rfl),rfl,rfl⟩
open Go.Am
open Go.Sort (swp ltInt PermIn)
open Go.Am
open Go.Sort (swp ltInt PermIn swp_permIn permIn_refl permIn_trans)
open Go.Am
open Go.Sort (swp ltInt PermIn SortedIn Below permIn_refl permIn_trans insertionSort_holds heapSort_holds partialInsertionSort_holds partition_holds partitionEqual_holds reverseRange_holds swo_ltInt round_eq round_part)
theorem wL {cs a v:List AV}{o:Nat} (hr:o+a.length≤cs.length) (hl:v.length=a.length):dL (dL cs o a) o v=dL cs o v:=by
 refine eC λi=>?_
 have hs:=jN hr
 rw[fV (cs:=dL cs o a) (by rw[hs]; omega),fV (cs:=cs) (vs:=a) hr,fV (cs:=cs) (vs:=v) om]
 by_cases q:o≤i∧i<o+v.length
 ·rw[if_pos q,if_pos q]
 ·rw[if_neg q,if_neg q,if_neg om]
theorem GV {h:AH}{b o c:Nat}{cs:List AV}{d:Array Int} (hg:h.get b=some (lS cs o d)) (hr:o+d.size≤cs.length) (hs:d.size<2 ^ 38) :
 C prg 83 [.sl b o d.size c] h λv h'=>Mod h.next h h' b (lS cs o (d.toList.mergeSort (λx y=>decide (x≤y))).toArray):=by
 have hi:(gI d).length=d.size:=by simp [gI]
 have hsp:(dL cs o (gI d)).length=cs.length:=jN om
 have hsl:(d.toList.mergeSort λx y=>decide (x≤y)).length=d.size:=by rw[sW,gF]
 have hg':h.get b=some (.cells (dL cs o (gI d)) 1 false):=hg
 have hrd:ak h b o d.size=some (d.toList.map (AV.int .i64)):=by
  rw[aW hg',if_pos om]
  congr 1
  refine eC λi=>?_
  rw[cR,eF,fV om]
  by_cases q:i<d.size
  ·rw[if_pos q,if_pos om,Nat.add_sub_cancel_left]
   rfl
  ·rw[if_neg q,cn (by simp; omega)]
 have hwr:bX h b o (yF d.toList)=some (h.put b (lS cs o (d.toList.mergeSort (λx y=>decide (x≤y))).toArray)):=by
  have hl:(yF d.toList).length=d.size:=by unfold yF; rw[ae,hsl]
  rw[fz hg',if_pos om,wL om om]
  rfl
 exact BS.srt ps83 hrd hwr om ⟨_,_,rfl,(KJ hg).mod⟩
open Go.Am Go.Sort
theorem Ip {h:AH}:C prg 95 [.nils,.int .i64 0,.int .i64 0] h λ_ h'=>h'=h:=by
 refine KK pf95 ?_
 refine ai (au (by simp only[am,aH,↓reduceIte,Nat.reduceEqDiff,Int.reduceEq,Nat.reduceAdd,Nat.reduceLeDiff,reduceCtorEq,bN,et (z:=0+1) (by decide) (by decide)]<;>rfl) ?_)
 refine cY (fX (λn ts h1=>h1=h∧aN ts 2=.int .i64 0∧aN ts 6=.int .i64 (0+1)) ?_ (n:=0) ⟨rfl,Ii0,Ii0⟩)
 rintro n ts h1 ⟨rfl,e2,e6⟩
 refine ai (ai (au (M2 e2 e6) ?_))
 refine dn (by simp only[am,aH,simprocAttr]; rfl) ?_
 exact fC ⟨λ_=>⟨.tup [],rfl,rfl⟩,λe=>absurd rfl e⟩
theorem HJ {h:AH}{l:Int}:C prg 93 [.nils,.int .i64 0,.int .i64 0,.int .i64 l] h λ_ h'=>h'=h:=by
 refine KK pf93 ?_
 refine ai (au (Mi0) ?_)
 refine ai (au (Mi0) ?_)
 refine cY (fX (λn ts h1=>h1=h∧aN ts 0=.nils∧aN ts 1=.int .i64 0∧aN ts 2=.int .i64 0) ?_ (n:=0) ⟨rfl,Zi0,Zi0,Zi0⟩)
 rintro n ts h1 ⟨rfl,e0,e1,e2⟩
 refine cY (ai (au (by simp only[am,aH,simprocAttr,e1,e2,et (z:=0-0) (by decide) (by decide)]<;>rfl) ?_))
 refine ai (ai (au (M0) ?_))
 refine cE (by simp only[am,aH,simprocAttr]; rfl) ?_
 refine ai (bU (bu 3 (M3 e0 e1 e2) rfl (Z3 e0 e1 e2) (M3 e0 e1 e2) (Ip) λv h2 u=>?_))
 subst u
 refine bP (M0) ?_
 exact bM ⟨.tup [],rfl,rfl⟩
theorem DN {h:AH}:C prg 83 [.nils] h λ_ h'=>h'=h:=by
 refine KK pf83 ?_
 refine ai (au (Mi1 @nH) ?_)
 have wu:IntKind.u64.wrap 0=0:=by decide
 refine bU (bu 4 (Mi1 wu) rfl (Zi1 wu) (Mi1 wu) (uI) λv h1 hq=>?_)
 obtain⟨rfl,rfl⟩:=hq
 refine mc (Zi0) (Mi0) (HJ) λv h2 hq=>?_
 subst hq
 refine bP (M0) ?_
 exact⟨.tup [],rfl,rfl⟩
theorem BA {h:AH}{v:AV} (hv:v.cells=[v]):C prg 64 [v] h λr h'=>r=.fn 84 [.ptr h.next 0]∧h'=h.new (.cells [v] 1 false):=by
 refine KK pf64 ?_
 refine ai (au (Mi1 hv) ?_)
 refine ai (au (M0) ?_)
 exact bM ⟨_,(by simp only[rs,rf64,am,aH,simprocAttr]<;>rfl),rfl,rfl⟩
theorem yB {h:AH}{lb L:Nat}{v:AV}{xs:List Int} (J:Nat→AH→Prop) (hJ:∀ i h,J i h→ak h lb 0 1=some [v]∧SlI h v xs) (hl:xs.length<2 ^ 40)
 (hY:∀ i (hi:i<xs.length) h,J i h→Y prg L [.int .i64 xs[i]] h λr h'=>r=.bool true∧J (i+1) h') (h0:J 0 h) :
 C prg 84 [.yld L,.ptr lb 0] h λ_ h'=>J xs.length h':=by
 refine KK pf84 ?_
 obtain⟨r0,s0⟩:=hJ 0 h h0
 have e1:=s0.len
 rw[ae] at e1
 refine ai (au (Mi2 r0 e1) ?_)
 refine ig (α:=Unit) (N:=xs.length) (λ_ _=>[(0,.yld L),(5,v)]) (λk _ h1=>J k h1) () (λ_ _=>rfl) om (Oi0) h0 ?_ ?_
 ·rintro k _ ts h1 hk hj ⟨ei,en,e0,e5,-⟩
  simp only at ei en e0 e5
  obtain⟨b1,p1,a1,r1,_⟩:=(hJ k h1 hj).2.at1 (fR (f:=eI) hk)
  refine ai (au (M4 e5 ei a1 r1) ?_)
  refine ai (bU (G.gyield 2 (M1 e0) rfl (Z1 e0) (M1 e0) (M1 e0) (hY k hk h1 hj) λr h2 hq=>?_))
  obtain⟨rfl,hj2⟩:=hq
  refine bP (M0) ?_
  refine dn (Z0) ?_
  exact bH ⟨(),hj2,by simp only[cq,cQ,am,aH,↓reduceIte,Nat.reduceEqDiff,Int.reduceEq,Nat.reduceAdd,Nat.reduceLeDiff,reduceCtorEq,ei,en,e0,e5]⟩
 ·rintro _ ts h1 hj _
  exact⟨.tup [],rfl,hj⟩
theorem Ds {h:AH}{lb:Nat}{v:AV}{xs:List Int} (hr:ak h lb 0 1=some [v]) (hv:SlI h v xs) (hb:lb<h.next) (hl:xs.length<2 ^ 34) :
 C prg 92 [.nils,.fn 84 [.ptr lb 0]] h λr h'=>IsSl h' 1 h.next r (xs.flatMap eI)∧Ext h.next h h':=by
 refine KK pf92 ?_
 refine ai (au (Mi0) ?_)
 have g0:(h.new (.cells [.nils] 1 false)).get h.next=some (.cells [.nils] 1 false):=by rw[AH.get_new,if_pos rfl]
 have x0:Ext h.next h (h.new (.cells [.nils] 1 false)):=KH (ab _)
 have n0:(h.new (.cells [.nils] 1 false)).next=h.next+1:=rfl
 generalize h.new (.cells [.nils] 1 false)=h0 at *
 refine ai (ai (bR (λts h1=>h1=h0∧aN ts 2=.ptr h.next 0∧aN ts 6=.fn 84 [.ptr lb 0]) (by simp only[am,aH,simprocAttr,bN]) λts h1 hq=>?_))
 obtain⟨rfl,e2,e6⟩:=hq
 refine cY (W.rangeF (Q:=λ_ h'=>h'.get h1.next=some (.lp 92 [true,false,true,false] ts [7] .ready none)∧(∃ s,h'.get h.next=some (.cells [s] 1 false)∧IsSl h' 1 (h.next+2) s (xs.flatMap eI))∧Ext h.next h h'∧h.next+2≤h'.next) (by simp only[am,aH,simprocAttr,e6]; rfl) ?_ ?_)
 ·refine (yB (xs:=xs) (v:=v) (λi h'=>h'.get h1.next=some (.lp 92 [true,false,true,false] ts [7] .ready none)∧(∃ s,h'.get h.next=some (.cells [s] 1 false)∧IsSl h' 1 (h.next+2) s ((xs.take i).flatMap eI))∧Ext h.next h h'∧h.next+2≤h'.next) ?_ om ?_ ?_).mono λr h' q=>by simpa using q
  ·rintro i h' ⟨_,_,hx,_⟩
   exact⟨by rw[← hr]; exact cF (hx.gt _ hb),hv.ext hx (ab _)⟩
  ·rintro i hi h' ⟨hL,⟨s,hs,hsl⟩,hx,hn⟩
   refine Y.round hL rfl pf92 rfl ?_
   refine au (by simp only[am,aH,simprocAttr,lB]<;>rfl) ?_
   refine⟨rfl,?_⟩
   have uB:=KJ (o:=.lp 92 [true,false,true,false] ts [7] .busy none) hL
   generalize h'.put h1.next (.lp 92 [true,false,true,false] ts [7] .busy none)=hb at *
   have hsl':IsSl hb 1 (h.next+2) s ((xs.take i).flatMap eI):=hsl.upd uB om
   have gs:hb.get h.next=some (.cells [s] 1 false):=by rw[uB.ne om]; exact hs
   have rs:ak hb h.next 0 1=some [s]:=by rw[aW gs]; rfl
   have hlen:((xs.take i).flatMap eI).length=i:=by
    rw[eY (f:=eI) (e:=1) (λ_=>rfl),bK]; omega
   obtain⟨s',h2,a1,i1,x1,n1⟩:=hsl'.push (bytes:=8) (eI xs[i]) (by rw[uB.nx]; omega) om rfl rfl (by rw[hlen]; unfold aU; omega) (by rw[hlen]; unfold aU; omega)
   rw[show eI xs[i]=[.int .i64 xs[i]] from rfl] at a1 i1
   have gs2:h2.get h.next=some (.cells [s] 1 false):=by rw[x1.gt _ om]; exact gs
   obtain⟨sc,so⟩:=i1.cells
   have w1:bX h2 h.next 0 [s']=some (h2.put h.next (.cells [s'] 1 false)):=by rw[fz gs2]; rfl
   have uS:=KJ (o:=.cells [s'] 1 false) gs2
   refine cY ?_
   refine au (by simp only[am,aH,simprocAttr,e2,rs,a1,sc,so,w1]<;>rfl) ?_
   have gL:(h2.put h.next (.cells [s'] 1 false)).get h1.next=some (.lp 92 [true,false,true,false] ts [7] .busy none):=by rw[uS.ne om,x1.gt _ om,uB.get]
   have uR:=KJ (o:=.lp 92 [true,false,true,false] ts [7] .ready none) gL
   refine⟨gL,rfl,uR.get,⟨s',by rw[uR.ne om]; exact uS.get,?_⟩,?_,?_⟩
   ·have e:(xs.take (i+1)).flatMap eI=(xs.take i).flatMap eI++[.int .i64 xs[i]]:=by
     rw[dN hi,dU]; rfl
    rw[e]
    exact (i1.upd uS om).upd uR om
   ·exact hx.trans ((uB.ext om).trans ((x1.mono om).trans ((uS.ext (ab _)).trans (uR.ext om))))
   ·rw[uR.nx,uS.nx]
    have:=uB.nx
    omega
  ·have gN:(h1.new (.lp 92 [true,false,true,false] ts [7] .ready none)).get h1.next=some (.lp 92 [true,false,true,false] ts [7] .ready none):=by rw[AH.get_new,if_pos rfl]
   refine⟨gN,⟨.nils,?_,.inl ⟨rfl,rfl⟩⟩,x0.trans (KH om),by rw[AH.next_new]; omega⟩
   rw[AH.get_new,if_neg om]
   exact g0
 ·rintro _ h' ⟨hL,⟨s,hs,hsl⟩,hx,hn⟩
  refine⟨⟨_,_,_,_,hL⟩,λf1 p1 t1 q1=>?_⟩
  have uO:=KJ (o:=.lp f1 p1 t1 q1 .over none) hL
  have rs:ak (h'.put h1.next (.lp f1 p1 t1 q1 .over none)) h.next 0 1=some [s]:=by rw[aW (by rw[uO.ne om]; exact hs)]; rfl
  refine ai (au (by simp only[am,aH,simprocAttr,e2,rs]<;>rfl) ?_)
  exact bM ⟨s,(by simp only[Am.results,jr,np,rf92,am,aH,↓reduceIte,Nat.reduceEqDiff,Int.reduceEq,Nat.reduceAdd,Nat.reduceLeDiff,reduceCtorEq]<;>rfl),(hsl.upd uO om).mono om,hx.trans (uO.ext om)⟩
theorem pu:∀ xs:List Int,xs.flatMap eI=gI xs.toArray
 | []=>rfl
 | x::r=>by
   have:=pu r
   unfold gI at *
   rw[List.toList_toArray] at *
   rw[gh,this]
   rfl
def pX (xs:List Int):List Int:=xs.mergeSort (λx y=>decide (x≤y))
theorem tR (xs:List Int):(pX xs).length=xs.length:=sW _
theorem BF {h:AH}{lb:Nat}{v:AV}{xs:List Int} (hr:ak h lb 0 1=some [v]) (hv:SlI h v xs) (hb:lb<h.next) (hl:xs.length<2 ^ 34) :
 C prg 63 [.fn 84 [.ptr lb 0]] h λr h'=>IsSl h' 1 h.next r ((pX xs).flatMap eI)∧Ext h.next h h':=by
 have hcol:C prg 82 [.fn 84 [.ptr lb 0]] h λr h'=>IsSl h' 1 h.next r (xs.flatMap eI)∧Ext h.next h h':=by
  refine KK pf82 ?_
  refine ai (au (Mi0) ?_)
  refine ai (bU (bu 1 (Mi0) rfl (Zi0) (Mi0) (Ds hr hv hb hl) λr h2 hq=>?_))
  refine bP (M0) ?_
  exact bM ⟨r,(by simp only[rs,rf82,am,aH,simprocAttr]<;>rfl),hq⟩
 refine KK pf63 ?_
 refine ai (au (Mi0) ?_)
 refine ai (bU (bu 1 (Mi0) rfl (Zi0) (Mi0) (hcol) λr h2 hq=>?_))
 obtain⟨i1,x1⟩:=hq
 refine bP (M0) ?_
 rcases i1 with ⟨rfl,hz⟩|⟨b,n,hbn,rfl,hg,hln⟩
 ·have:xs=[]:=by
   cases xs with
   | nil=>rfl
   | cons x r=>simp [eI] at hz
  subst this
  refine ai (bU (bu 1 (M0) rfl (Z0) (M0) (DN) λv h3 hq=>?_))
  subst hq
  refine bP (M0) ?_
  refine ai (au (M0) ?_)
  exact bM ⟨.nils,(by simp only[rs,rf63,am,aH,simprocAttr]<;>rfl),.inl ⟨rfl,by simp [pX]⟩,x1⟩
 ·have hn:n=xs.length:=by rw[eY (f:=eI) (e:=1) (λ_=>rfl)] at hln; omega
  subst hn
  have e1:xs.flatMap eI=gI xs.toArray:=pu xs
  have hg':h2.get b=some (lS (xs.flatMap eI) 0 xs.toArray):=by
   rw[hg]
   unfold lS
   rw[e1]
   congr 2
   exact (pK (by simp) (by rw[bI,dI])).symm
  have hs:=GV (c:=xs.length) hg' (by rw[gc,hln]; omega) (by rw[gc]; omega)
  rw[gc] at hs
  refine ai (bU (bu 1 (M0) rfl (Z0) (M0) (hs) λv h3 hq=>?_))
  refine bP (M0) ?_
  refine ai (au (M0) ?_)
  refine bM ⟨_,(by simp only[rs,rf63,am,aH,simprocAttr]<;>rfl),.inr ⟨b,xs.length,hbn,rfl,?_,?_⟩,x1.trans ((hq.mono x1.nx).toExt hbn)⟩
  ·rw[hq.get]
   unfold lS
   have e2:gI (pX xs).toArray=(pX xs).flatMap eI:=(pu _).symm
   rw[show (xs.toArray.toList.mergeSort λx y=>decide (x≤y))=pX xs from rfl,e2]
   simp only[dL,eD,bp,bS]
   rw[eY (f:=eI) (e:=1) (λ_=>rfl),tR,dP (by rw[hln]; omega),cX]
  ·rw[eY (f:=eI) (e:=1) (λ_=>rfl),tR]
open Go.Am Go.Sort
open Go.Am
open Go.Am
open Go.Am
open Go.Am
open Go.Am
theorem li {P:RP}{b:Nat}{l l2:List ROper}{s:Option (Tm×AH)}{K:Tm→AH→Prop}{ts:Tm}{h:AH}{d:Option Nat}{f:FuncId}{args:List RO}{g:Option (Nat×Bool)}{nm:Option Nat}{cs:List (Nat×ROp×Option (Nat×Bool))}{vs:List AV}{Q:AV→AH→Prop} (n:Nat)
 (hs:kb b (l.take n) s=some (ts,h)) (hd:l.drop n=⟨d,.call f args,g,nm,cs⟩::l2) (hw:wanted ts g=some true) (ha:args.map (RO.ev ts)=vs) (hc:C P f vs h Q)
 (hk:∀ v h',Q v h'→ij (dY ts d v) h' cs=true∧G P b l2 (some (dY ts d v,h')) K):G P b l s K:=by
 subst ha
 rw[← cA n l]
 refine qd ?_
 rw[hs,hd]
 exact Bw hw (hc.mono hk)
open Go.Am
open Go.Am
def SlL (h:AH) (v:AV) (xss:List (List Int)):Prop:=∃ ws:List AV,Sl h 1 v (ws.map λw=>[w])∧ws.length=xss.length∧∀ (i:Nat) (w:AV) (xs:List Int),ws[i]?=some w→xss[i]?=some xs→SlI h w xs
theorem SlL.ext {h h':AH}{v:AV}{xss:List (List Int)} (hs:SlL h v xss) (hx:Ext h.next h h'):SlL h' v xss:=by
 obtain⟨ws,a,b,c⟩:=hs
 exact⟨ws,a.ext hx (ab _),b,λi w xs h1 h2=>(c i w xs h1 h2).ext hx (ab _)⟩
theorem SlL.len {h:AH}{v:AV}{xss:List (List Int)} (hs:SlL h v xss):jc v=some (.int .i64 (xss.length:Nat)):=by
 obtain⟨ws,a,b,c⟩:=hs
 have:=a.len
 rw[ae,b] at this
 exact this
theorem SlL.cells {h:AH}{v:AV}{xss:List (List Int)} (hs:SlL h v xss):v.cells=[v]∧v.one=true:=by
 obtain⟨ws,a,b,c⟩:=hs
 exact a.cells
theorem SlL.at {h:AH}{v:AV}{xss:List (List Int)} (hs:SlL h v xss) {k:Nat} (hk:k<xss.length):∃ b p w,kV 1 v (.int .i64 (k:Nat))=some (.ptr b p)∧ak h b p 1=some [w]∧SlI h w xss[k]∧b<h.next:=by
 obtain⟨ws,a,b,c⟩:=hs
 have hw:ws[k]?=some ws[k]:=ah om
 obtain⟨b1,p1,a1,r1,l1⟩:=a.at1 (i:=k) (y:=ws[k]) (by rw[aF,hw]; rfl)
 exact⟨b1,p1,_,a1,r1,c k _ _ hw (ah hk),l1⟩
open Go.Am
open Go.Am
theorem nZ {k:Nat} (h:k<2 ^ 62):IntKind.i64.wrap (((k:Nat):Int)+1)=((k+1:Nat):Int):=et om om
open Go.Am
end Go.Proofs.Ytpeemonpdlifbaa
