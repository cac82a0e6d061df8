/- slices.Values, Collect, Sorted of numbers. -/
import Derived.Test.YthbmhbldmcbnpaaGreatDoorYTAC
import Derived.Test.YthbmhbldmcbnpaaGreatDoorYTAE
import Derived.Test.YthbmhbldmcbnpaaGreatDoorYTAD
set_option linter.all false
namespace Go.Proofs.YthbmhbldmcbnpaaGreatDoor
open Go.Am Go.Sort
theorem Jr {h:AH}:C prg 96 [.nils,.int .i64 0,.int .i64 0] h λ_ h'=>h'=h:=by
 refine NX pf96 ?_
 refine ah (ak (by simp only[am,aC,↓reduceIte,Nat.reduceEqDiff,Int.reduceEq,Nat.reduceAdd,Nat.reduceLeDiff,reduceCtorEq,bI,fp (z:=0+1) (by decide) (by decide)]<;>rfl) ?_)
 refine bL (fI (λn ts h1=>h1=h∧cG ts 2=.int .i64 0∧cG ts 6=.int .i64 (0+1)) ?_ (n:=0) ⟨rfl,Ii0,Ii0⟩)
 rintro n ts h1 ⟨rfl,e2,e6⟩
 refine ah (ah (ak (M2 e2 e6) ?_))
 refine cj (by simp only[am,aC,simprocAttr]; rfl) ?_
 exact eX ⟨λ_=>⟨.tup [],rfl,rfl⟩,λe=>absurd rfl e⟩
theorem IU {h:AH}{l:Int}:C prg 81 [.nils,.int .i64 0,.int .i64 0,.int .i64 l] h λ_ h'=>h'=h:=by
 refine NX pf81 ?_
 refine ah (ak (Mi0) ?_)
 refine ah (ak (Mi0) ?_)
 refine bL (fI (λn ts h1=>h1=h∧cG ts 0=.nils∧cG ts 1=.int .i64 0∧cG ts 2=.int .i64 0) ?_ (n:=0) ⟨rfl,Zi0,Zi0,Zi0⟩)
 rintro n ts h1 ⟨rfl,e0,e1,e2⟩
 refine bL (ah (ak (by simp only[am,aC,simprocAttr,e1,e2,fp (z:=0-0) (by decide) (by decide)]<;>rfl) ?_))
 refine ah (ah (ak (M0) ?_))
 refine bq (by simp only[am,aC,simprocAttr]; rfl) ?_
 refine ah (bF (bg 3 (M3 e0 e1 e2) rfl (Z3 e0 e1 e2) (M3 e0 e1 e2) (Jr) λv h2 u=>?_))
 subst u
 refine bp (M0) ?_
 exact aV ⟨.tup [],rfl,rfl⟩
theorem DU {h:AH}:C prg 58 [.nils] h λ_ h'=>h'=h:=by
 refine NX pf58 ?_
 refine ah (ak (Mi1 @nH) ?_)
 have wu:IntKind.u64.wrap 0=0:=by decide
 refine bF (bg 4 (Mi1 wu) rfl (Zi1 wu) (Mi1 wu) (pJ) λv h1 hq=>?_)
 obtain⟨rfl,rfl⟩:=hq
 refine mU (Zi0) (Mi0) (IU) λv h2 hq=>?_
 subst hq
 refine bp (M0) ?_
 exact⟨.tup [],rfl,rfl⟩
theorem Bq {h:AH}{v:AV} (hv:v.cells=[v]):C prg 85 [v] h λr h'=>r=.fn 105 [.ptr h.next 0]∧h'=h.new (.cells [v] 1 false):=by
 refine NX pf85 ?_
 refine ah (ak (Mi1 hv) ?_)
 refine ah (ak (M0) ?_)
 exact aV ⟨_,(by simp only[rs,rf85,am,aC,simprocAttr]<;>rfl),rfl,rfl⟩
theorem yF {h:AH}{lb L:Nat}{v:AV}{xs:List Int} (J:Nat→AH→Prop) (hJ:∀ i h,J i h→aj h lb 0 1=some [v]∧SlI h v xs) (hl:xs.length<2 ^ 40)
 (hY:∀ i (hi:i<xs.length) h,J i h→Y prg L [.int .i64 xs[i]] h λr h'=>r=.bool true∧J (i+1) h') (h0:J 0 h) :
 C prg 105 [.yld L,.ptr lb 0] h λ_ h'=>J xs.length h':=by
 refine NX pf105 ?_
 obtain⟨r0,s0⟩:=hJ 0 h h0
 have e1:=s0.len
 rw[ar] at e1
 refine ah (ak (Mi2 r0 e1) ?_)
 refine fW (α:=Unit) (N:=xs.length) (λ_ _=>[(0,.yld L),(5,v)]) (λk _ h1=>J k h1) () (λ_ _=>rfl) om (Oi0) h0 ?_ ?_
 ·rintro k _ ts h1 hk hj ⟨ei,en,e0,e5,-⟩
  simp only at ei en e0 e5
  obtain⟨b1,p1,a1,r1,_⟩:=(hJ k h1 hj).2.at1 (dp (f:=eI) hk)
  refine ah (ak (M4 e5 ei a1 r1) ?_)
  refine ah (bF (yB 2 (M1 e0) rfl (Z1 e0) (M1 e0) (M1 e0) (hY k hk h1 hj) λr h2 hq=>?_))
  obtain⟨rfl,hj2⟩:=hq
  refine bp (M0) ?_
  refine cj (Z0) ?_
  exact be ⟨(),hj2,O4 ei en e0 e5⟩
 ·rintro _ ts h1 hj _
  exact⟨.tup [],rfl,hj⟩
theorem Dw {h:AH}{lb:Nat}{v:AV}{xs:List Int} (hr:aj h lb 0 1=some [v]) (hv:SlI h v xs) (hb:lb<h.next) (hl:xs.length<2 ^ 34) :
 C prg 80 [.nils,.fn 105 [.ptr lb 0]] h λr h'=>IsSl h' 1 h.next r (xs.flatMap eI)∧Ext h.next h h':=by
 refine NX pf80 ?_
 refine ah (ak (Mi0) ?_)
 have g0:(h.new (.cells [.nils] 1 false)).get h.next=some (.cells [.nils] 1 false):=by rw[AH.get_new,if_pos rfl]
 have x0:Ext h.next h (h.new (.cells [.nils] 1 false)):=NU (ae _)
 have n0:(h.new (.cells [.nils] 1 false)).next=h.next+1:=rfl
 generalize h.new (.cells [.nils] 1 false)=h0 at *
 refine ah (ah (sV (λts h1=>h1=h0∧cG ts 2=.ptr h.next 0∧cG ts 6=.fn 105 [.ptr lb 0]) (by simp only[am,aC,simprocAttr,bI]) λts h1 hq=>?_))
 obtain⟨rfl,e2,e6⟩:=hq
 refine bL (yw (Q:=λ_ h'=>h'.get h1.next=some (.lp 80 [true,false,true,false] ts [7] .ready none)∧(∃ s,h'.get h.next=some (.cells [s] 1 false)∧IsSl h' 1 (h.next+2) s (xs.flatMap eI))∧Ext h.next h h'∧h.next+2≤h'.next) (by simp only[am,aC,simprocAttr,e6]; rfl) ?_ ?_)
 ·refine (yF (xs:=xs) (v:=v) (λi h'=>h'.get h1.next=some (.lp 80 [true,false,true,false] ts [7] .ready none)∧(∃ s,h'.get h.next=some (.cells [s] 1 false)∧IsSl h' 1 (h.next+2) s ((xs.take i).flatMap eI))∧Ext h.next h h'∧h.next+2≤h'.next) ?_ om ?_ ?_).mono λr h' q=>by simpa using q
  ·rintro i h' ⟨_,_,hx,_⟩
   exact⟨by rw[← hr]; exact bG (hx.gt _ hb),hv.ext hx (ae _)⟩
  ·rintro i hi h' ⟨hL,⟨s,hs,hsl⟩,hx,hn⟩
   refine Y.round hL rfl pf80 rfl ?_
   refine ak (by simp only[am,aC,simprocAttr,jp]<;>rfl) ?_
   refine⟨rfl,?_⟩
   have uB:=NW (o:=.lp 80 [true,false,true,false] ts [7] .busy none) hL
   generalize h'.put h1.next (.lp 80 [true,false,true,false] ts [7] .busy none)=hb at *
   have hsl':IsSl hb 1 (h.next+2) s ((xs.take i).flatMap eI):=hsl.upd uB om
   have gs:hb.get h.next=some (.cells [s] 1 false):=by rw[uB.ne om]; exact hs
   have rs:aj hb h.next 0 1=some [s]:=by rw[aP gs]; rfl
   have hlen:((xs.take i).flatMap eI).length=i:=by
    rw[dZ (f:=eI) (e:=1) (λ_=>rfl),bz]; omega
   obtain⟨s',h2,a1,i1,x1,n1⟩:=hsl'.push (bytes:=8) (eI xs[i]) (by rw[uB.nx]; omega) om rfl rfl (by rw[hlen]; unfold aQ; omega) (by rw[hlen]; unfold aQ; omega)
   rw[show eI xs[i]=[.int .i64 xs[i]] from rfl] at a1 i1
   have gs2:h2.get h.next=some (.cells [s] 1 false):=by rw[x1.gt _ om]; exact gs
   obtain⟨sc,so⟩:=i1.cells
   have w1:bD h2 h.next 0 [s']=some (h2.put h.next (.cells [s'] 1 false)):=by rw[et gs2]; rfl
   have uS:=NW (o:=.cells [s'] 1 false) gs2
   refine bL ?_
   refine ak (by simp only[am,aC,simprocAttr,e2,rs,a1,sc,so,w1]<;>rfl) ?_
   have gL:(h2.put h.next (.cells [s'] 1 false)).get h1.next=some (.lp 80 [true,false,true,false] ts [7] .busy none):=by rw[uS.ne om,x1.gt _ om,uB.get]
   have uR:=NW (o:=.lp 80 [true,false,true,false] ts [7] .ready none) gL
   refine⟨gL,rfl,uR.get,⟨s',by rw[uR.ne om]; exact uS.get,?_⟩,?_,?_⟩
   ·have e:(xs.take (i+1)).flatMap eI=(xs.take i).flatMap eI++[.int .i64 xs[i]]:=by
     rw[aX hi,cI]; rfl
    rw[e]
    exact (i1.upd uS om).upd uR om
   ·exact hx.trans ((uB.ext om).trans ((x1.mono om).trans ((uS.ext (ae _)).trans (uR.ext om))))
   ·rw[uR.nx,uS.nx]
    have:=uB.nx
    omega
  ·have gN:(h1.new (.lp 80 [true,false,true,false] ts [7] .ready none)).get h1.next=some (.lp 80 [true,false,true,false] ts [7] .ready none):=by rw[AH.get_new,if_pos rfl]
   refine⟨gN,⟨.nils,?_,.inl ⟨rfl,rfl⟩⟩,x0.trans (NU om),by rw[AH.next_new]; omega⟩
   rw[AH.get_new,if_neg om]
   exact g0
 ·rintro _ h' ⟨hL,⟨s,hs,hsl⟩,hx,hn⟩
  refine⟨⟨_,_,_,_,hL⟩,λf1 p1 t1 q1=>?_⟩
  have uO:=NW (o:=.lp f1 p1 t1 q1 .over none) hL
  have rs:aj (h'.put h1.next (.lp f1 p1 t1 q1 .over none)) h.next 0 1=some [s]:=by rw[aP (by rw[uO.ne om]; exact hs)]; rfl
  refine ah (ak (by simp only[am,aC,simprocAttr,e2,rs]<;>rfl) ?_)
  exact aV ⟨s,(by simp only[Am.results,iP,nh,rf80,am,aC,↓reduceIte,Nat.reduceEqDiff,Int.reduceEq,Nat.reduceAdd,Nat.reduceLeDiff,reduceCtorEq]<;>rfl),(hsl.upd uO om).mono om,hx.trans (uO.ext om)⟩
theorem pz:∀ xs:List Int,xs.flatMap eI=ints xs.toArray
 | []=>rfl
 | x::r=>by
   have:=pz r
   unfold ints at *
   rw[List.toList_toArray] at *
   rw[cX,this]
   rfl
def qk (xs:List Int):List Int:=xs.mergeSort (λx y=>decide (x≤y))
theorem uq (xs:List Int):(qk xs).length=xs.length:=tu _
theorem BC {h:AH}{lb:Nat}{v:AV}{xs:List Int} (hr:aj h lb 0 1=some [v]) (hv:SlI h v xs) (hb:lb<h.next) (hl:xs.length<2 ^ 34) :
 C prg 28 [.fn 105 [.ptr lb 0]] h λr h'=>IsSl h' 1 h.next r ((qk xs).flatMap eI)∧Ext h.next h h':=by
 have hcol:C prg 57 [.fn 105 [.ptr lb 0]] h λr h'=>IsSl h' 1 h.next r (xs.flatMap eI)∧Ext h.next h h':=by
  refine NX pf57 ?_
  refine ah (ak (Mi0) ?_)
  refine ah (bF (bg 1 (Mi0) rfl (Zi0) (Mi0) (Dw hr hv hb hl) λr h2 hq=>?_))
  refine bp (M0) ?_
  exact aV ⟨r,(by simp only[rs,rf57,am,aC,simprocAttr]<;>rfl),hq⟩
 refine NX pf28 ?_
 refine ah (ak (Mi0) ?_)
 refine ah (bF (bg 1 (Mi0) rfl (Zi0) (Mi0) (hcol) λr h2 hq=>?_))
 obtain⟨i1,x1⟩:=hq
 refine bp (M0) ?_
 rcases i1 with ⟨rfl,hz⟩|⟨b,n,hbn,rfl,hg,hln⟩
 ·have:xs=[]:=by
   cases xs with
   | nil=>rfl
   | cons x r=>simp [eI] at hz
  subst this
  refine ah (bF (bg 1 (M0) rfl (Z0) (M0) (DU) λv h3 hq=>?_))
  subst hq
  refine bp (M0) ?_
  refine ah (ak (M0) ?_)
  exact aV ⟨.nils,(by simp only[rs,rf28,am,aC,simprocAttr]<;>rfl),.inl ⟨rfl,by simp [qk]⟩,x1⟩
 ·have hn:n=xs.length:=by rw[dZ (f:=eI) (e:=1) (λ_=>rfl)] at hln; omega
  subst hn
  have e1:xs.flatMap eI=ints xs.toArray:=pz xs
  have hg':h2.get b=some (Dr (xs.flatMap eI) 0 xs.toArray):=by
   rw[hg]
   unfold Dr
   rw[e1]
   congr 2
   exact (wO (by simp) (by rw[dz,bO])).symm
  have hs:=Hj (c:=xs.length) hg' (by rw[fy,hln]; omega) (by rw[fy]; omega)
  rw[fy] at hs
  refine ah (bF (bg 1 (M0) rfl (Z0) (M0) (hs) λv h3 hq=>?_))
  refine bp (M0) ?_
  refine ah (ak (M0) ?_)
  refine aV ⟨_,(by simp only[rs,rf28,am,aC,simprocAttr]<;>rfl),.inr ⟨b,xs.length,hbn,rfl,?_,?_⟩,x1.trans ((hq.mono x1.nx).toExt hbn)⟩
  ·rw[hq.get]
   unfold Dr
   have e2:ints (qk xs).toArray=(qk xs).flatMap eI:=(pz _).symm
   rw[show (xs.toArray.toList.mergeSort λx y=>decide (x≤y))=qk xs from rfl,e2]
   simp only[dj,fl,cV,bM]
   rw[dZ (f:=eI) (e:=1) (λ_=>rfl),uq,dE (by rw[hln]; omega),bZ]
  ·rw[dZ (f:=eI) (e:=1) (λ_=>rfl),uq]
open Go.Am Go.Sort
open Go.Am
open Go.Am
open Go.Am
open Go.Am
open Go.Am
theorem kU {P:RP}{b:Nat}{l l2:List ROper}{s:Option (Tm×AH)}{K:Tm→AH→Prop}{ts:Tm}{h:AH}{d:Option Nat}{f:FuncId}{args:List RO}{g:Option (Nat×Bool)}{nm:Option Nat}{cs:List (Nat×ROp×Option (Nat×Bool))}{vs:List AV}{Q:AV→AH→Prop} (n:Nat)
 (hs:jk b (l.take n) s=some (ts,h)) (hd:l.drop n=⟨d,.call f args,g,nm,cs⟩::l2) (hw:wanted ts g=some true) (ha:args.map (RO.ev ts)=vs) (hc:C P f vs h Q)
 (hk:∀ v h',Q v h'→eW (cD ts d v) h' cs=true∧G P b l2 (some (cD ts d v,h')) K):G P b l s K:=by
 subst ha
 rw[← bP n l]
 refine oM ?_
 rw[hs,hd]
 exact Bn hw (hc.mono hk)
open Go.Am
open Go.Am
open Go.Am
open Go.Am
theorem dF {k:Nat} (h:k<2 ^ 62):IntKind.i64.wrap (((k:Nat):Int)+1)=((k+1:Nat):Int):=fp om om
open Go.Am
open Go.Spl (T4 OkT tA tB deg vs rk rkE mem_vs vs_len vs_rise deg_take deg_le deg_pos end_vs rk_mem)
def eT4 (t:T4):List AV:=[.int .i64 t.1,.int .i64 t.2.1,.int .i64 t.2.2.1,.int .i64 t.2.2.2]
abbrev qA (h:AH) (v:AV) (l:List T4):Prop:=Sl h 4 v (l.map eT4)
abbrev kN:Nat→AV:=λk:Nat=>AV.int .i64 ((k:Nat):Int)
def DegM (l:List T4) (m:List (Nat×AV)):Prop:=∀ x,lkG m x=if deg l x=0 then none else some (.int .i64 ((deg l x:Nat):Int))
theorem DegM.get {l:List T4}{m:List (Nat×AV)} (h:DegM l m) (x:Nat):(lkG m x).getD (.int .i64 0)=.int .i64 ((deg l x:Nat):Int):=by
 rw[h x]
 split
 ·rename_i e; rw[e]; rfl
 ·rfl
theorem DegM.keys {l:List T4}{m:List (Nat×AV)} (h:DegM l m) (hok:∀ t∈l,OkT t) (x:Nat):x∈m.map (·.1)↔x∈vs l:=by
 have h1:=h x
 rw[mem_vs]
 constructor
 ·intro q
  have:lkG m x≠none:=λe=>xG.1 e q
  rw[h1] at this
  have hd:0<deg l x:=by
   refine Nat.pos_of_ne_zero λe=>this ?_
   rw[if_pos e]
  obtain⟨t,ht,e⟩:=deg_pos.1 hd
  obtain⟨_,_,a,b⟩:=(hok t ht).nat
  exact⟨om,hd⟩
 ·rintro⟨_,q⟩
  refine Classical.byContradiction λhc=>?_
  rw[xG.2 hc,if_neg om] at h1
  cases h1
theorem DegM.step {l:List T4}{m:List (Nat×AV)}{k:Nat} (hk:k<l.length) (hn:tA l[k]≠tB l[k]) (h:DegM (l.take k) m) :
 DegM (l.take (k+1)) (upG (upG m (tA l[k]) (.int .i64 ((deg (l.take k) (tA l[k])+1:Nat):Int))) (tB l[k]) (.int .i64 ((deg (l.take k) (tB l[k])+1:Nat):Int))):=λx=>by
 rw[kh,kh,deg_take hk]
 by_cases q1:x=tB l[k]
 ·subst q1
  have e:(if tA l[k]=tB l[k]∨tB l[k]=tB l[k] then 1 else 0)=1:=if_pos (.inr rfl)
  rw[if_pos rfl,e,if_neg om]
 ·rw[if_neg q1]
  by_cases q2:x=tA l[k]
  ·subst q2
   have e:(if tA l[k]=tA l[k]∨tB l[k]=tA l[k] then 1 else 0)=1:=if_pos (.inl rfl)
   rw[if_pos rfl,e,if_neg om]
  ·have e:(if tA l[k]=x∨tB l[k]=x then 1 else 0)=0:=if_neg (by rintro (e|e); exact q2 e.symm; exact q1 e.symm)
   rw[if_neg q2,e,ce]
   exact h x
set_option maxHeartbeats 1000000 in
theorem oX {h:AH}{v:AV}{T:List T4} (hv:qA h v T) (hok:∀ t∈T,OkT t) (hxl:T.length<2 ^ 40) :
 C prg 14 [v] h λr h'=>∃ lv mb m,r=.tup [lv,.mp mb]∧IsSl h' 1 h.next lv (nC (vs T))∧MapG kN h' mb m∧DegM T m∧h.next≤mb∧Ext h.next h h':=by
 have el:=hv.len
 rw[ar] at el
 refine NX pf14 ?_
 refine ah (ak (Mi0) ?_)
 have x0:Ext h.next h (h.new (.mapo [] 0)):=NU (ae _)
 have g0:(h.new (.mapo [] 0)).get h.next=some (.mapo [] 0):=by rw[AH.get_new,if_pos rfl]
 have n0:(h.new (.mapo [] 0)).next=h.next+1:=rfl
 refine ah (ak (M0) ?_)
 generalize (h.new (.mapo [] 0))=h1 at *
 refine ah (ah (ak (Mi1 el) ?_))
 refine fW (α:=List (Nat×AV)) (N:=T.length) (λ_ _=>[(3,.mp h.next),(7,v)])
  (λk m h'=>MapG kN h' h.next m∧DegM (T.take k) m∧Ext h.next h h'∧h.next+1≤h'.next) [] (λ_ _=>rfl) om (Hi0) ⟨MapG.nil g0,λx=>rfl,x0,om⟩ ?_ ?_
 ·rintro k m ts h2 hk ⟨j1,j2,j3,j4⟩ ⟨ei,en,e3,e7,-⟩
  simp only at ei en e3 e7
  obtain⟨b1,p1,a1,r1,_⟩:=(hv.ext j3 (ae _)).at (dp (f:=eT4) hk)
  obtain⟨q1,q2,q3,q4⟩:=(hok _ (aO hk)).nat
  have hst:=j2.step hk om
  have hdA:=deg_le (T.take k) (tA T[k])
  have hdB:=deg_le (T.take k) (tB T[k])
  have gA:=j2.get (tA T[k])
  rw[bz] at hdA hdB
  have r1:aj h2 b1 p1 4=some [.int .i64 T[k].1,.int .i64 T[k].2.1,.int .i64 T[k].2.2.1,.int .i64 T[k].2.2.2]:=r1
  rw[q1,q2] at r1
  generalize T[k].2.2.1=c1 at *
  generalize T[k].2.2.2=c2 at *
  have gB:(lkG (upG m (tA T[k]) (.int .i64 ((deg (T.take k) (tA T[k])+1:Nat):Int))) (tB T[k])).getD (.int .i64 0)=.int .i64 ((deg (T.take k) (tB T[k]):Nat):Int):=by
   rw[kh,if_neg om]
   exact j2.get _
  generalize tA T[k]=a at *
  generalize tB T[k]=b at *
  obtain⟨h3,w3,x3,g3,n3⟩:=dI (h:=h2) (z:=[.int .i64 0,.int .i64 0,.int .i64 0,.int .i64 0]) (cs:=[.int .i64 ((a:Nat):Int),.int .i64 ((b:Nat):Int),.int .i64 c1,.int .i64 c2]) (e:=4) rfl
  refine bL (ah (ak (M5 e7 ei a1 r1 w3) ?_))
  have ra:aj h3 h2.next 0 1=some [.int .i64 ((a:Nat):Int)]:=aJ g3 rfl
  have m3:=j1.cong (x3.gt _ j1.lt)
  have lkA:=m3.look to (.int .i64 0) a
  rw[gA] at lkA
  have wA:=dF (k:=deg (T.take k) a) om
  obtain⟨h4,u4,m4,o4,U4⟩:=m3.up to a (.int .i64 ((deg (T.take k) a+1:Nat):Int))
  have lkA:fZ h3 .ki false (.int .i64 0) (.mp h.next) (.int .i64 ((a:Nat):Int))=some (.int .i64 ((deg (T.take k) a:Nat):Int)):=lkA
  have u4:mj h3 .ki (.mp h.next) (.int .i64 ((a:Nat):Int)) (.int .i64 ((deg (T.take k) a+1:Nat):Int))=some (.un,h4):=u4
  refine ah (ak (M5 e3 ra lkA wA u4) ?_)
  have g4:h4.get h2.next=some (.cells [.int .i64 ((a:Nat):Int),.int .i64 ((b:Nat):Int),.int .i64 c1,.int .i64 c2] 4 false):=by rw[U4.ne om]; exact g3
  have rb:aj h4 h2.next 1 1=some [.int .i64 ((b:Nat):Int)]:=aJ g4 rfl
  have lkB:=m4.look to (.int .i64 0) b
  rw[gB] at lkB
  have wB:=dF (k:=deg (T.take k) b) om
  obtain⟨h5,u5,m5,o5,U5⟩:=m4.up to b (.int .i64 ((deg (T.take k) b+1:Nat):Int))
  have lkB:fZ h4 .ki false (.int .i64 0) (.mp h.next) (.int .i64 ((b:Nat):Int))=some (.int .i64 ((deg (T.take k) b:Nat):Int)):=lkB
  have u5:mj h4 .ki (.mp h.next) (.int .i64 ((b:Nat):Int)) (.int .i64 ((deg (T.take k) b+1:Nat):Int))=some (.un,h5):=u5
  refine ak (M5 e3 rb lkB wB u5) ?_
  exact⟨_,⟨m5,hst,((j3.trans (x3.mono om)).trans (U4.ext (ae _))).trans (U5.ext (ae _)),by rw[U5.nx,U4.nx,n3]; omega⟩,H4 ei en e3 e7⟩
 ·rintro m ts h2 ⟨j1,j2,j3,j4⟩ ⟨e3,e7,-⟩
  simp only at e3 e7
  rw[bO] at j2
  have hkeys:=j2.keys hok
  have gk:(h2.new (.cells [.mp h.next] 1 false)).get h2.next=some (.cells [.mp h.next] 1 false):=by rw[AH.get_new,if_pos rfl]
  have xk:Ext h2.next h2 (h2.new (.cells [.mp h.next] 1 false)):=NU (ae _)
  have mk:=j1.cong (xk.gt _ j1.lt)
  have hml:m.length≤64:=by
   have:=Kur.len_le_of_sub j1.nod (m:=vs T) λx hx=>(hkeys x).1 hx
   rw[ar] at this
   exact bW this (vs_len T)
  refine ah (bF (bg 1 (M1 e3) rfl (Z1 e3) (M1 e3) (Fm (v:=.mp h.next) rfl) λr h3 hq=>?_))
  obtain⟨rfl,rfl⟩:=hq
  generalize (h2.new (.cells [.mp h.next] 1 false))=h3 at *
  refine mU (Z0) (M0) (yR mk gk om) λr h4 hq=>?_
  obtain⟨ks,k1,k2,k3,x4⟩:=hq
  have hks:ks=vs T:=tS k1 (vs_rise T) λx=>(k2 x).trans (hkeys x)
  subst hks
  have m4:=mk.cong (x4.gt _ mk.lt)
  have n3:=xk.nx
  refine bp (M1 e3) ?_
  exact aV ⟨.tup [r,.mp h.next],(by simp only[rs,rf14,am,aC,simprocAttr,k3.cells.1]<;>rfl),r,h.next,m,rfl,k3.mono om,m4,j2,ae _,(j3.trans (xk.mono om)).trans (x4.mono om)⟩
end Go.Proofs.YthbmhbldmcbnpaaGreatDoor
namespace Go.Spl
def addG {α:Type} [DecidableEq α] (ks:List α) (k:α):List α:=if k∈ks then ks else ks++[k]
section
variable {α:Type} [DecidableEq α]
theorem GD {ks:List α}{k x:α}:x∈addG ks k↔x∈ks∨x=k:=by
 unfold addG
 split
 ·rename_i h
  constructor
  ·exact .inl
  ·rintro (h'|rfl)
   ·exact h'
   ·exact h
 ·simp
theorem Ae {ks:List α}{k:α} (h:ks.Nodup):(addG ks k).Nodup:=by
 unfold addG
 split
 ·exact h
 ·rename_i hk
  rw[bN]
  refine⟨h,by simp,λa ha b hb=>?_⟩
  rw[bd] at hb
  subst hb
  rintro rfl
  exact hk ha
theorem addAllG_mem:∀ {l ks:List α}{x:α},x∈l.foldl addG ks↔x∈ks∨x∈l
 | [],ks,x=>by simp
 | a::r,ks,x=>by rw[dB,addAllG_mem,GD,aA,or_assoc]
theorem addAllG_nodup:∀ {l ks:List α},ks.Nodup→(l.foldl addG ks).Nodup
 | [],_,h=>h
 | _::r,_,h=>addAllG_nodup (l:=r) (Ae h)
theorem addAllG_len:∀ (l ks:List α),(l.foldl addG ks).length≤ks.length+l.length∧((l.foldl addG ks).length=ks.length+l.length↔l.Nodup∧∀ x∈l,x∉ks)
 | [],ks=>by simp
 | a::r,ks=>by
   obtain⟨h1,h2⟩:=addAllG_len r (addG ks a)
   rw[dB,aR]
   by_cases q:a∈ks
   ·have e:addG ks a=ks:=if_pos q
    rw[e] at h1 h2
    rw[e]
    refine⟨om,⟨λh=>by omega,λh=>absurd q (h.2 a (aK ..))⟩⟩
   ·have e:addG ks a=ks++[a]:=if_neg q
    rw[e] at h1 h2
    rw[e]
    rw[aN,aR,bo] at h1 h2
    refine⟨om,?_⟩
    have:((r.foldl addG (ks++[a])).length=ks.length+(r.length+1))↔((r.foldl addG (ks++[a])).length=ks.length+(0+1)+r.length):=om
    rw[this,h2,bU]
    constructor
    ·rintro⟨n1,n2⟩
     refine⟨⟨λh=>n2 a h (by simp),n1⟩,λx hx=>?_⟩
     rcases aA.1 hx with rfl|hx
     ·exact q
     ·exact λh=>n2 x hx (bA _ h)
    ·rintro⟨⟨n1,n2⟩,n3⟩
     refine⟨n2,λx hx hm=>?_⟩
     rcases aI.1 hm with h|h
     ·exact n3 x (aM _ hx) h
     ·rw[bd] at h
      subst h
      exact n1 hx
end
end Go.Spl
namespace Go.Proofs.YthbmhbldmcbnpaaGreatDoor
open Go.Am
open Go.Am
theorem EJ {h:AH}{n:Int}{ev:AV}{es:List (Int×Int)} (he:SlE h ev es):C prg 66 [.agg [.int .i64 n,ev]] h λr h'=>r=.bool (fE n es)∧Ext h.next h h':=by
 have el:=he.len
 rw[ar] at el
 obtain⟨ec,eo⟩:=he.cells
 refine NX pf66 ?_
 have x0:Ext h.next h (h.new (.cells [.int .i64 n,ev] 2 false)):=NU (ae _)
 have g0:(h.new (.cells [.int .i64 n,ev] 2 false)).get h.next=some (.cells [.int .i64 n,ev] 2 false):=by rw[AH.get_new,if_pos rfl]
 have n0:(h.new (.cells [.int .i64 n,ev] 2 false)).next=h.next+1:=rfl
 refine ah (ak (Mi0) ?_)
 generalize h.new (.cells [.int .i64 n,ev] 2 false)=h0 at *
 have rn:aj h0 h.next 0 1=some [.int .i64 n]:=aJ g0 rfl
 have re:aj h0 h.next 1 1=some [ev]:=aJ g0 rfl
 by_cases q1:n<1
 ·have c1:decide (n<1)=true:=aq q1
  have hB:fE n es=false:=by
   have:decide (1≤n)=false:=ai om
   simp only[fE,this,eD]
  refine ah (ah (ak (Mi2 rn c1) ?_))
  refine bq (Z0) (ah (ak (M0) ?_))
  exact aV ⟨.bool false,(by simp only[rs,rf66,am,aC,simprocAttr]<;>rfl),by rw[hB],x0⟩
 have c1:decide (n<1)=false:=ai q1
 by_cases q2:64<n
 ·have c2:decide (64<n)=true:=aq q2
  have hB:fE n es=false:=by
   have:decide (n≤64)=false:=ai om
   simp only[fE,this,nW,eD]
  refine ah (ah (ak (Mi3 rn c1 c2) ?_))
  refine bq (Z0) (ah (ak (M0) ?_))
  exact aV ⟨.bool false,(by simp only[rs,rf66,am,aC,simprocAttr]<;>rfl),by rw[hB],x0⟩
 have c2:decide (64<n)=false:=ai q2
 by_cases q3:128<es.length
 ·have c3:decide ((128:Int)<((es.length:Nat):Int))=true:=aq om
  have hB:fE n es=false:=by
   have:decide (es.length≤128)=false:=ai om
   simp only[fE,this,nW,eD]
  refine ah (ah (ak (Mi6 rn re el c1 c2 c3) ?_))
  refine bq (Z0) (ah (ak (M0) ?_))
  exact aV ⟨.bool false,(by simp only[rs,rf66,am,aC,simprocAttr]<;>rfl),by rw[hB],x0⟩
 have c3:decide ((128:Int)<((es.length:Nat):Int))=false:=ai om
 have hB:fE n es=es.all (okE n):=by
  have d1:decide (1≤n)=true:=aq om
  have d2:decide (n≤64)=true:=aq om
  have d3:decide (es.length≤128)=true:=aq om
  simp only[fE,d1,d2,d3,fK]
 refine ah (ah (ak (Mi6 rn re el c1 c2 c3) ?_))
 refine cj (Z0) (be ?_)
 refine ah (ah (ak (M0) ?_))
 refine er (α:=Unit) (N:=es.length) (λk _=>[(1,.ptr h.next 0),(3,.int .i64 (k:Nat))]) (λk _ h'=>Ext (h.next+1) h0 h'∧(es.take k).all (okE n)=true) () (Oi1 @aW) ⟨NV,rfl⟩ ?_ ?_ ?_
 ·rintro k _ ts h1 hk ⟨jx,j1⟩ ⟨e1,e3,-⟩
  simp only at e1 e3
  have re1:aj h1 h.next 1 1=some [ev]:=by rw[bG (jx.gt _ om)]; exact re
  exact⟨_,(J5 e1 e3 re1 el @bw),I0,O2 e1 e3⟩
 ·rintro k _ ts h1 hk ⟨jx,j1⟩ ⟨e1,e3,-⟩
  simp only at e1 e3
  have re1:aj h1 h.next 1 1=some [ev]:=by rw[bG (jx.gt _ om)]; exact re
  have jn:=jx.nx
  have X1:Ext h.next h h1:=x0.trans (jx.mono om)
  obtain⟨b1,p1,a1,r4,_⟩:=(he.ext X1 (ae _)).at (dp (f:=eE) hk)
  obtain⟨h2,w2,x2,g2,n2⟩:=dI (h:=h1) (z:=[.int .i64 0,.int .i64 0]) (cs:=[.int .i64 es[k].1,.int .i64 es[k].2]) (e:=2) rfl
  refine ah (ak (by simp only[am,aC,simprocAttr,e1,e3,re1,a1,r4,eE,w2]<;>rfl) ?_)
  have ra:aj h2 h1.next 0 1=some [.int .i64 es[k].1]:=aJ g2 rfl
  have rb:aj h2 h1.next 1 1=some [.int .i64 es[k].2]:=aJ g2 rfl
  have rn2:aj h2 h.next 0 1=some [.int .i64 n]:=by rw[bG (x2.gt _ om),bG (jx.gt _ om)]; exact rn
  have w1:=dF (k:=k) om
  have Y2:Ext (h.next+1) h0 h2:=jx.trans (x2.mono om)
  have X2:Ext h.next h h2:=X1.trans (x2.mono X1.nx)
  have bad:okE n es[k]=false→fE n es=false:=λhb=>by
   rw[hB]
   cases hh:es.all (okE n) with
   | false=>rfl
   | true=>rw[bS.1 hh _ (aO hk)] at hb; cases hb
  by_cases p1:es[k].1<0
  ·have d1:decide (es[k].1<0)=true:=aq p1
   have hb:=bad (by have:decide (0≤es[k].1)=false:=ai om
                    simp only[okE,this,eD])
   refine ah (ak (M2 ra d1) ?_)
   refine bq (Z0) (ah (ak (M0) ?_))
   exact aV ⟨.bool false,(by simp only[rs,rf66,am,aC,simprocAttr]<;>rfl),by rw[hb],X2⟩
  have d1:decide (es[k].1<0)=false:=ai p1
  by_cases p2:es[k].2<0
  ·have d2:decide (es[k].2<0)=true:=aq p2
   have hb:=bad (by have:decide (0≤es[k].2)=false:=ai om
                    simp only[okE,this,eD,nW])
   refine ah (ak (M4 ra rb d1 d2) ?_)
   refine bq (Z0) (ah (ak (M0) ?_))
   exact aV ⟨.bool false,(by simp only[rs,rf66,am,aC,simprocAttr]<;>rfl),by rw[hb],X2⟩
  have d2:decide (es[k].2<0)=false:=ai p2
  by_cases p3:n≤es[k].1
  ·have d3:decide (n≤es[k].1)=true:=aq p3
   have hb:=bad (by have:decide (es[k].1<n)=false:=ai om
                    simp only[okE,this,eD,nW])
   refine ah (ak (M7 ra rb rn2 e1 d1 d2 d3) ?_)
   refine bq (Z0) (ah (ak (M0) ?_))
   exact aV ⟨.bool false,(by simp only[rs,rf66,am,aC,simprocAttr]<;>rfl),by rw[hb],X2⟩
  have d3:decide (n≤es[k].1)=false:=ai p3
  by_cases p4:n≤es[k].2
  ·have d4:decide (n≤es[k].2)=true:=aq p4
   have hb:=bad (by have:decide (es[k].2<n)=false:=ai om
                    simp only[okE,this,nW])
   refine ah (ak (M8 ra rb rn2 e1 d1 d2 d3 d4) ?_)
   refine bq (Z0) (ah (ak (M0) ?_))
   exact aV ⟨.bool false,(by simp only[rs,rf66,am,aC,simprocAttr]<;>rfl),by rw[hb],X2⟩
  have d4:decide (n≤es[k].2)=false:=ai p4
  refine ah (ak (M8 ra rb rn2 e1 d1 d2 d3 d4) ?_)
  refine cj (I0) (be ⟨(),⟨Y2,?_⟩,_,(J2 e3 w1),O1 e1⟩)
  rw[aX hk,List.all_append,j1]
  have f1:decide (0≤es[k].1)=true:=aq om
  have f2:decide (0≤es[k].2)=true:=aq om
  have f3:decide (es[k].1<n)=true:=aq om
  have f4:decide (es[k].2<n)=true:=aq om
  simp only[gu,DC,okE,f1,f2,f3,f4,Bool.and_self]
 ·rintro _ ts h1 ⟨jx,j1⟩ ⟨e1,e3,-⟩
  rw[bO] at j1
  refine ah (ak (M0) ?_)
  exact aV ⟨.bool true,(by simp only[rs,rf66,am,aC,simprocAttr]<;>rfl),by rw[hB,j1],x0.trans (jx.mono (by have:=x0.nx; omega))⟩
theorem IL {h:AH}{n:Int}{ev:AV}{es:List (Int×Int)} (he:SlE h ev es) (_:es.length<2 ^ 40):C prg 66 [.agg [.int .i64 n,ev]] h λr h'=>r=.bool (fE n es)∧Ext h.next h h':=EJ he
open Go.Am
def bl (n:Nat) (p:Nat→Bool):List AV:=(List.range n).map λi=>.bool (p i)
def il (n:Nat) (f:Nat→Int):List AV:=(List.range n).map λi=>.int .i64 (f i)
theorem kr (n:Nat) (p:Nat→Bool):(bl n p).length=n:=by simp [bl]
theorem fc (n:Nat) (f:Nat→Int):(il n f).length=n:=by simp [il]
theorem nu {n i:Nat}{p:Nat→Bool} (h:i<n):(bl n p)[i]?=some (.bool (p i)):=by
 unfold bl
 rw[aE,cu h]
 rfl
theorem fx {n i:Nat}{f:Nat→Int} (h:i<n):(il n f)[i]?=some (.int .i64 (f i)):=by
 unfold il
 rw[aE,cu h]
 rfl
theorem mE {n i:Nat}{p:Nat→Bool}{b:Bool}:(bl n p).set i (.bool b)=bl n λj=>if j=i then b else p j:=by
 refine dg λj=>?_
 rw[cn,kr]
 by_cases hj:j<n
 ·rw[nu hj,nu hj]
  by_cases e:i=j
  ·subst e; simp [hj]
  ·rw[if_neg e,if_neg (λq=>e q.symm)]
 ·rw[bu (l:=bl n p) (by rw[kr]; omega),bu (by rw[kr]; omega)]
  split
  ·rw[if_neg om]
  ·rfl
theorem gf {n i:Nat}{f:Nat→Int}{b:Int}:(il n f).set i (.int .i64 b)=il n λj=>if j=i then b else f j:=by
 refine dg λj=>?_
 rw[cn,fc]
 by_cases hj:j<n
 ·rw[fx hj,fx hj]
  by_cases e:i=j
  ·subst e; simp [hj]
  ·rw[if_neg e,if_neg (λq=>e q.symm)]
 ·rw[bu (l:=il n f) (by rw[fc]; omega),bu (by rw[fc]; omega)]
  split
  ·rw[if_neg om]
  ·rfl
theorem oH (n:Nat):bX [AV.bool false] n=bl n λ_=>false:=by
 rw[md]
 unfold bl
 rw[List.map_const',aZ]
theorem lh (n:Nat):bX [AV.int .i64 0] n=il n λ_=>0:=by
 rw[md]
 unfold il
 rw[List.map_const',aZ]
theorem jC {n:Nat}{p q:Nat→Bool} (h:∀ i,i<n→p i=q i):bl n p=bl n q:=by
 unfold bl
 exact ct λi hi=>by rw[h i (aL.1 hi)]
theorem dx {n:Nat}{p q:Nat→Int} (h:∀ i,i<n→p i=q i):il n p=il n q:=by
 unfold il
 exact ct λi hi=>by rw[h i (aL.1 hi)]
end Go.Proofs.YthbmhbldmcbnpaaGreatDoor
