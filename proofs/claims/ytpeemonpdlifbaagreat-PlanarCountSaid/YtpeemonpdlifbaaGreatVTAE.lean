/- slices.Min, Reverse of numbers. -/
import Derived.Test.YtpeemonpdlifbaaGreatVTAD
import Derived.Test.YtpeemonpdlifbaaGreatVTAC
import Derived.Test.YtpeemonpdlifbaaGreatVAmA
set_option linter.all false
namespace Go.Proofs.YtpeemonpdlifbaaGreat
open Go.Am Go.Sort
theorem reverse_nil {h:AH}:C prg 51 [.nils] h λ_ h'=>h'=h:=by
 refine LB pf51 ?_
 have w0:IntKind.i64.wrap (0-1)=-1:=by decide
 refine aj (aB (Ji2 @nP w0) ?_)
 refine cL (fW (λn ts h1=>h1=h∧aY ts 2=.int .i64 0∧aY ts 3=.int .i64 (-1)) ?_ (n:=0) ⟨rfl,Ii0,Ii0⟩)
 rintro n ts h1 ⟨rfl,e2,e3⟩
 refine aj (aj (aB (M2 e2 e3) ?_))
 refine dL (by simp only[am,aF,simprocAttr]; rfl) ?_
 exact ft ⟨λ_=>⟨.tup [],rfl,rfl⟩,λe=>absurd rfl e⟩
theorem rF {h:AH}{b o c:Nat}{cs:List AV}{d:Array Int} (hg:h.get b=some (lN cs o d)) (hr:o+d.size≤cs.length) (hs:d.size<2 ^ 40) :
 C prg 51 [.sl b o d.size c] h λ_ h'=>Upd h h' b (lN cs o d.reverse):=by
 refine LB pf51 ?_
 have w0:IntKind.i64.wrap (((d.size:Nat):Int)-1)=((d.size:Nat):Int)-1-((0:Nat):Int):=by rw[fz om om]; omega
 refine aj (aB (Mi1 w0) ?_)
 refine vq (α:=Array Int) (N:=d.size / 2) (λk a=>[(0,.sl b o d.size c),(2,.int .i64 (k:Nat)),(3,.int .i64 (((d.size:Nat):Int)-1-((k:Nat):Int)))])
  (λk a h'=>Upd h h' b (lN cs o a)∧a.size=d.size∧∀ x,x<d.size→a[x]! = if x<k∨d.size-1-x<k then d[d.size-1-x]! else d[x]!) d (Hi1 @cH) ⟨Upd.refl hg,rfl,λx _=>by rw[if_neg om]⟩ ?_ ?_ ?_
 ·rintro k a ts h1 hk ⟨j1,j2,j3⟩ ⟨e0,e2,e3,-⟩
  simp only at e0 e2 e3
  have c2:decide (((k:Nat):Int)<((d.size:Nat):Int)-1-((k:Nat):Int))=decide (k<d.size / 2):=by simp only[decide_eq_decide]; omega
  exact⟨_,(M3 e2 e3 c2),Z0,H3 e0 e2 e3⟩
 ·rintro k a ts h1 hk ⟨j1,j2,j3⟩ ⟨e0,e2,e3,-⟩
  simp only at e0 e2 e3
  have hm:((d.size:Nat):Int)-1-((k:Nat):Int)=((d.size-1-k:Nat):Int):=om
  have i1:fU ((k:Nat):Int) d.size=some k:=dU om
  have i2:fU ((d.size-1-k:Nat):Int) d.size=some (d.size-1-k):=dU om
  have r1:=ES (i:=k) j1.get om om
  have r2:=ES (i:=d.size-1-k) j1.get om om
  obtain⟨m1,m2,s1,s2,u2⟩:=Hy (i:=k) (j:=d.size-1-k) j1.get om om om
  have w1:IntKind.i64.wrap (((k:Nat):Int)+1)=((k+1:Nat):Int):=fz om om
  have w2:IntKind.i64.wrap (((d.size-1-k:Nat):Int)-1)=((d.size:Nat):Int)-1-((k+1:Nat):Int):=by rw[fz om om]; omega
  refine aB (M12 e0 e2 e3 hm i1 i2 r1 r2 s1 s2 @aO @aO) ?_
  refine⟨_,⟨j1.trans u2,by rw[BW,j2],?_⟩,_,(M5 e2 e3 hm w1 w2),H1 e0⟩
  intro x hx
  by_cases x1:x=k
  ·subst x1
   rw[swp_left _ _ _ om om,j3 _ om,if_neg om,if_pos om]
  ·by_cases x2:x=d.size-1-k
   ·rw[x2,swp_right _ _ _ om,j3 _ om,if_neg om,if_pos om]
    congr 1
    omega
   ·rw[swp_other _ _ _ _ x1 x2,j3 _ hx]
    by_cases q:x<k∨d.size-1-x<k
    ·rw[if_pos q,if_pos om]
    ·rw[if_neg q,if_neg om]
 ·rintro a ts h1 ⟨j1,j2,j3⟩ _
  refine⟨.tup [],rfl,?_⟩
  have:a=d.reverse:=by
   refine Array.ext (by simpa using j2) λi h1 h2=>?_
   have:=j3 i om
   rw[getElem!_pos a i h1] at this
   rw[this,Array.getElem_reverse]
   rw[getElem!_pos d _ om]
   split
   ·rfl
   ·rw[getElem!_pos d _ om]
    congr 1
    omega
  rw[← this]
  exact j1
open Go.Am
open Go.Sort (swp ltInt)
open Go.Sort (insInner insOuter insertionSort)
open Go.Am
open Go.Sort (swp ltInt siftDown heapBuild heapPop heapSort)
open Go.Am
open Go.Sort (swp ltInt reverseLoop reverseRange scanUp scanDown partLoop partition partEqLoop partitionEqual scanUp_spec scanDown_spec scanUp_ge scanDown_le partLoop_eq partEqLoop_eq)
open Go.Am
open Go.Sort (swp ltInt scanSorted shiftDown shiftUp partialIns partialInsertionSort fixDown fixUp partialIns_succ)
open Go.Am
set_option maxRecDepth 8000 in
theorem zG {h:AH}:C prg 70 [.int .u64 0] h λv h'=>v=.int .i64 0∧h'=h:=by
 refine LB pf70 ?_
 refine aj (aB (Ji0) ?_)
 have c1:decide ((4294967296:Int)≤0)=false:=by decide
 have c2:decide ((65536:Int)≤0)=false:=by decide
 have c3:decide ((256:Int)≤0)=false:=by decide
 refine aj (aj (aB (Ji1 c1) ?_))
 refine dL (I1 c1) (bK ?_)
 refine aj (aj (aB (Ji1 c2) ?_))
 refine dL (I1 c2) (bK ?_)
 refine aj (aj (aB (Ji1 c3) ?_))
 refine dL (I1 c3) (bK ?_)
 have w1:IntKind.u8.wrap 0=0:=by decide
 have w2:IntKind.i64.wrap 0=0:=by decide
 have w3:IntKind.i64.wrap (0+0)=0:=by decide
 have hi:yi (.str [0,1,2,2,3,3,3,3,4,4,4,4,4,4,4,4,5,5,5,5,5,5,5,5,5,5,5,5,5,5,5,5,6,6,6,6,6,6,6,6,6,6,6,6,6,6,6,6,6,6,6,6,6,6,6,6,6,6,6,6,6,6,6,6,7,7,7,7,7,7,7,7,7,7,7,7,7,7,7,7,7,7,7,7,7,7,7,7,7,7,7,7,7,7,7,7,7,7,7,7,7,7,7,7,7,7,7,7,7,7,7,7,7,7,7,7,7,7,7,7,7,7,7,7,7,7,7,7,8,8,8,8,8,8,8,8,8,8,8,8,8,8,8,8,8,8,8,8,8,8,8,8,8,8,8,8,8,8,8,8,8,8,8,8,8,8,8,8,8,8,8,8,8,8,8,8,8,8,8,8,8,8,8,8,8,8,8,8,8,8,8,8,8,8,8,8,8,8,8,8,8,8,8,8,8,8,8,8,8,8,8,8,8,8,8,8,8,8,8,8,8,8,8,8,8,8,8,8,8,8,8,8,8,8,8,8,8,8,8,8,8,8,8,8,8,8,8,8,8,8,8,8,8,8,8,8]) (.int .u8 0)=some (.int .u8 0):=rfl
 refine aj (bT (λts h5=>h5=h∧aY ts 2=.int .i64 0) ?_ λts h5 ⟨eh,e2⟩=>bG ⟨.int .i64 0,(by simp only[rs,rf70,am,aF,simprocAttr,e2]<;>rfl),rfl,eh⟩)
 simp only[am,aF,simprocAttr,bH,w1,hi,w2,w3]
theorem vi {h:AH}:C prg 45 [.int .u64 0] h λv h'=>v=.int .i64 0∧h'=h:=by
 refine LB pf45 ?_
 refine aj (aB (Ji0) ?_)
 refine aj (dL rfl (bK ?_))
 refine aj (bO (bt 1 (Mi0) rfl (Zi0) (Mi0) (zG) λv h' hq=>?_))
 obtain⟨rfl,rfl⟩:=hq
 refine bI (M0) ?_
 exact bG ⟨_,(by simp only[rs,rf45,am,aF,simprocAttr]<;>rfl),rfl,rfl⟩
open Go.Am
open Go.Sort (swp ltInt PermIn)
open Go.Am
open Go.Sort (swp ltInt PermIn swp_permIn permIn_refl permIn_trans)
theorem Ix {n k:Nat} (hn:n<2 ^ 62):IntKind.i64.wrap (((n:Nat):Int).tdiv ((k:Nat):Int))=((n / k:Nat):Int):=by
 rw[Int.tdiv_eq_ediv_of_nonneg om,← Int.natCast_ediv]
 have h2:n / k≤n:=Nat.div_le_self n k
 generalize n / k=q at *
 exact fz om om
open Go.Am
open Go.Sort (swp ltInt PermIn SortedIn Below permIn_refl permIn_trans insertionSort_holds heapSort_holds partialInsertionSort_holds partition_holds partitionEqual_holds reverseRange_holds swo_ltInt round_eq round_part)
theorem xc {cs a v:List AV}{o:Nat} (hr:o+a.length≤cs.length) (hl:v.length=a.length):dI (dI cs o a) o v=dI cs o v:=by
 refine et λi=>?_
 have hs:=jK hr
 rw[gf (cs:=dI cs o a) (by rw[hs]; omega),gf (cs:=cs) (vs:=a) hr,gf (cs:=cs) (vs:=v) om]
 by_cases q:o≤i∧i<o+v.length
 ·rw[if_pos q,if_pos q]
 ·rw[if_neg q,if_neg q,if_neg om]
theorem HD {h:AH}{b o c:Nat}{cs:List AV}{d:Array Int} (hg:h.get b=some (lN cs o d)) (hr:o+d.size≤cs.length) (hs:d.size<2 ^ 38) :
 C prg 79 [.sl b o d.size c] h λv h'=>Mod h.next h h' b (lN cs o (d.toList.mergeSort (λx y=>decide (x≤y))).toArray):=by
 have hi:(gH d).length=d.size:=by simp [gH]
 have hsp:(dI cs o (gH d)).length=cs.length:=jK om
 have hsl:(d.toList.mergeSort λx y=>decide (x≤y)).length=d.size:=by rw[tF,gC]
 have hg':h.get b=some (.cells (dI cs o (gH d)) 1 false):=hg
 have hrd:ar h b o d.size=some (d.toList.map (AV.int .i64)):=by
  rw[bg hg',if_pos om]
  congr 1
  refine et λi=>?_
  rw[cQ,ew,gf om]
  by_cases q:i<d.size
  ·rw[if_pos q,if_pos om,Nat.add_sub_cancel_left]
   rfl
  ·rw[if_neg q,cx (by simp; omega)]
 have hwr:bZ h b o (yS d.toList)=some (h.put b (lN cs o (d.toList.mergeSort (λx y=>decide (x≤y))).toArray)):=by
  have hl:(yS d.toList).length=d.size:=by unfold yS; rw[ak,hsl]
  rw[fy hg',if_pos om,xc om om]
  rfl
 exact BS.srt ps79 hrd hwr om ⟨_,_,rfl,(LA hg).mod⟩
open Go.Am Go.Sort
theorem Jf {h:AH}:C prg 91 [.nils,.int .i64 0,.int .i64 0] h λ_ h'=>h'=h:=by
 refine LB pf91 ?_
 refine aj (aB (by simp only[am,aF,↓reduceIte,Nat.reduceEqDiff,Int.reduceEq,Nat.reduceAdd,Nat.reduceLeDiff,reduceCtorEq,bH,fz (z:=0+1) (by decide) (by decide)]<;>rfl) ?_)
 refine cL (fW (λn ts h1=>h1=h∧aY ts 2=.int .i64 0∧aY ts 6=.int .i64 (0+1)) ?_ (n:=0) ⟨rfl,Ii0,Ii0⟩)
 rintro n ts h1 ⟨rfl,e2,e6⟩
 refine aj (aj (aB (M2 e2 e6) ?_))
 refine dL (by simp only[am,aF,simprocAttr]; rfl) ?_
 exact ft ⟨λ_=>⟨.tup [],rfl,rfl⟩,λe=>absurd rfl e⟩
theorem Iy {h:AH}{l:Int}:C prg 89 [.nils,.int .i64 0,.int .i64 0,.int .i64 l] h λ_ h'=>h'=h:=by
 refine LB pf89 ?_
 refine aj (aB (Mi0) ?_)
 refine aj (aB (Mi0) ?_)
 refine cL (fW (λn ts h1=>h1=h∧aY ts 0=.nils∧aY ts 1=.int .i64 0∧aY ts 2=.int .i64 0) ?_ (n:=0) ⟨rfl,Zi0,Zi0,Zi0⟩)
 rintro n ts h1 ⟨rfl,e0,e1,e2⟩
 refine cL (aj (aB (by simp only[am,aF,simprocAttr,e1,e2,fz (z:=0-0) (by decide) (by decide)]<;>rfl) ?_))
 refine aj (aj (aB (M0) ?_))
 refine cX (by simp only[am,aF,simprocAttr]; rfl) ?_
 refine aj (bO (bt 3 (M3 e0 e1 e2) rfl (Z3 e0 e1 e2) (M3 e0 e1 e2) (Jf) λv h2 u=>?_))
 subst u
 refine bI (M0) ?_
 exact bG ⟨.tup [],rfl,rfl⟩
theorem Ek {h:AH}:C prg 79 [.nils] h λ_ h'=>h'=h:=by
 refine LB pf79 ?_
 refine aj (aB (Mi1 @nP) ?_)
 have wu:IntKind.u64.wrap 0=0:=by decide
 refine bO (bt 4 (Mi1 wu) rfl (Zi1 wu) (Mi1 wu) (vi) λv h1 hq=>?_)
 obtain⟨rfl,rfl⟩:=hq
 refine nh (Zi0) (Mi0) (Iy) λv h2 hq=>?_
 subst hq
 refine bI (M0) ?_
 exact⟨.tup [],rfl,rfl⟩
theorem BV {h:AH}{v:AV} (hv:v.cells=[v]):C prg 60 [v] h λr h'=>r=.fn 80 [.ptr h.next 0]∧h'=h.new (.cells [v] 1 false):=by
 refine LB pf60 ?_
 refine aj (aB (Mi1 hv) ?_)
 refine aj (aB (M0) ?_)
 exact bG ⟨_,(by simp only[rs,rf60,am,aF,simprocAttr]<;>rfl),rfl,rfl⟩
theorem yP {h:AH}{lb L:Nat}{v:AV}{xs:List Int} (J:Nat→AH→Prop) (hJ:∀ i h,J i h→ar h lb 0 1=some [v]∧SlI h v xs) (hl:xs.length<2 ^ 40)
 (hY:∀ i (hi:i<xs.length) h,J i h→Y prg L [.int .i64 xs[i]] h λr h'=>r=.bool true∧J (i+1) h') (h0:J 0 h) :
 C prg 80 [.yld L,.ptr lb 0] h λ_ h'=>J xs.length h':=by
 refine LB pf80 ?_
 obtain⟨r0,s0⟩:=hJ 0 h h0
 have e1:=s0.len
 rw[ak] at e1
 refine aj (aB (Mi2 r0 e1) ?_)
 refine fB (α:=Unit) (N:=xs.length) (λ_ _=>[(0,.yld L),(5,v)]) (λk _ h1=>J k h1) () (λ_ _=>rfl) om (Oi0) h0 ?_ ?_
 ·rintro k _ ts h1 hk hj ⟨ei,en,e0,e5,-⟩
  simp only at ei en e0 e5
  obtain⟨b1,p1,a1,r1,_⟩:=(hJ k h1 hj).2.at1 (fE (f:=eI) hk)
  refine aj (aB (M4 e5 ei a1 r1) ?_)
  refine aj (bO (G.gyield 2 (M1 e0) rfl (Z1 e0) (M1 e0) (M1 e0) (hY k hk h1 hj) λr h2 hq=>?_))
  obtain⟨rfl,hj2⟩:=hq
  refine bI (M0) ?_
  refine dL (Z0) ?_
  exact bK ⟨(),hj2,by simp only[cz,cK,am,aF,↓reduceIte,Nat.reduceEqDiff,Int.reduceEq,Nat.reduceAdd,Nat.reduceLeDiff,reduceCtorEq,ei,en,e0,e5]⟩
 ·rintro _ ts h1 hj _
  exact⟨.tup [],rfl,hj⟩
theorem DK {h:AH}{lb:Nat}{v:AV}{xs:List Int} (hr:ar h lb 0 1=some [v]) (hv:SlI h v xs) (hb:lb<h.next) (hl:xs.length<2 ^ 34) :
 C prg 88 [.nils,.fn 80 [.ptr lb 0]] h λr h'=>IsSl h' 1 h.next r (xs.flatMap eI)∧Ext h.next h h':=by
 refine LB pf88 ?_
 refine aj (aB (Mi0) ?_)
 have g0:(h.new (.cells [.nils] 1 false)).get h.next=some (.cells [.nils] 1 false):=by rw[AH.get_new,if_pos rfl]
 have x0:Ext h.next h (h.new (.cells [.nils] 1 false)):=Ly (ae _)
 have n0:(h.new (.cells [.nils] 1 false)).next=h.next+1:=rfl
 generalize h.new (.cells [.nils] 1 false)=h0 at *
 refine aj (aj (bT (λts h1=>h1=h0∧aY ts 2=.ptr h.next 0∧aY ts 6=.fn 80 [.ptr lb 0]) (by simp only[am,aF,simprocAttr,bH]) λts h1 hq=>?_))
 obtain⟨rfl,e2,e6⟩:=hq
 refine cL (W.rangeF (Q:=λ_ h'=>h'.get h1.next=some (.lp 88 [true,false,true,false] ts [7] .ready none)∧(∃ s,h'.get h.next=some (.cells [s] 1 false)∧IsSl h' 1 (h.next+2) s (xs.flatMap eI))∧Ext h.next h h'∧h.next+2≤h'.next) (by simp only[am,aF,simprocAttr,e6]; rfl) ?_ ?_)
 ·refine (yP (xs:=xs) (v:=v) (λi h'=>h'.get h1.next=some (.lp 88 [true,false,true,false] ts [7] .ready none)∧(∃ s,h'.get h.next=some (.cells [s] 1 false)∧IsSl h' 1 (h.next+2) s ((xs.take i).flatMap eI))∧Ext h.next h h'∧h.next+2≤h'.next) ?_ om ?_ ?_).mono λr h' q=>by simpa using q
  ·rintro i h' ⟨_,_,hx,_⟩
   exact⟨by rw[← hr]; exact cM (hx.gt _ hb),hv.ext hx (ae _)⟩
  ·rintro i hi h' ⟨hL,⟨s,hs,hsl⟩,hx,hn⟩
   refine Y.round hL rfl pf88 rfl ?_
   refine aB (by simp only[am,aF,simprocAttr,lw]<;>rfl) ?_
   refine⟨rfl,?_⟩
   have uB:=LA (o:=.lp 88 [true,false,true,false] ts [7] .busy none) hL
   generalize h'.put h1.next (.lp 88 [true,false,true,false] ts [7] .busy none)=hb at *
   have hsl':IsSl hb 1 (h.next+2) s ((xs.take i).flatMap eI):=hsl.upd uB om
   have gs:hb.get h.next=some (.cells [s] 1 false):=by rw[uB.ne om]; exact hs
   have rs:ar hb h.next 0 1=some [s]:=by rw[bg gs]; rfl
   have hlen:((xs.take i).flatMap eI).length=i:=by
    rw[gc (f:=eI) (e:=1) (λ_=>rfl),bS]; omega
   obtain⟨s',h2,a1,i1,x1,n1⟩:=hsl'.push (bytes:=8) (eI xs[i]) (by rw[uB.nx]; omega) om rfl rfl (by rw[hlen]; unfold be; omega) (by rw[hlen]; unfold be; omega)
   rw[show eI xs[i]=[.int .i64 xs[i]] from rfl] at a1 i1
   have gs2:h2.get h.next=some (.cells [s] 1 false):=by rw[x1.gt _ om]; exact gs
   obtain⟨sc,so⟩:=i1.cells
   have w1:bZ h2 h.next 0 [s']=some (h2.put h.next (.cells [s'] 1 false)):=by rw[fy gs2]; rfl
   have uS:=LA (o:=.cells [s'] 1 false) gs2
   refine cL ?_
   refine aB (by simp only[am,aF,simprocAttr,e2,rs,a1,sc,so,w1]<;>rfl) ?_
   have gL:(h2.put h.next (.cells [s'] 1 false)).get h1.next=some (.lp 88 [true,false,true,false] ts [7] .busy none):=by rw[uS.ne om,x1.gt _ om,uB.get]
   have uR:=LA (o:=.lp 88 [true,false,true,false] ts [7] .ready none) gL
   refine⟨gL,rfl,uR.get,⟨s',by rw[uR.ne om]; exact uS.get,?_⟩,?_,?_⟩
   ·have e:(xs.take (i+1)).flatMap eI=(xs.take i).flatMap eI++[.int .i64 xs[i]]:=by
     rw[bV hi,eH]; rfl
    rw[e]
    exact (i1.upd uS om).upd uR om
   ·exact hx.trans ((uB.ext om).trans ((x1.mono om).trans ((uS.ext (ae _)).trans (uR.ext om))))
   ·rw[uR.nx,uS.nx]
    have:=uB.nx
    omega
  ·have gN:(h1.new (.lp 88 [true,false,true,false] ts [7] .ready none)).get h1.next=some (.lp 88 [true,false,true,false] ts [7] .ready none):=by rw[AH.get_new,if_pos rfl]
   refine⟨gN,⟨.nils,?_,.inl ⟨rfl,rfl⟩⟩,x0.trans (Ly om),by rw[AH.next_new]; omega⟩
   rw[AH.get_new,if_neg om]
   exact g0
 ·rintro _ h' ⟨hL,⟨s,hs,hsl⟩,hx,hn⟩
  refine⟨⟨_,_,_,_,hL⟩,λf1 p1 t1 q1=>?_⟩
  have uO:=LA (o:=.lp f1 p1 t1 q1 .over none) hL
  have rs:ar (h'.put h1.next (.lp f1 p1 t1 q1 .over none)) h.next 0 1=some [s]:=by rw[bg (by rw[uO.ne om]; exact hs)]; rfl
  refine aj (aB (by simp only[am,aF,simprocAttr,e2,rs]<;>rfl) ?_)
  exact bG ⟨s,(by simp only[Am.results,jt,nA,rf88,am,aF,↓reduceIte,Nat.reduceEqDiff,Int.reduceEq,Nat.reduceAdd,Nat.reduceLeDiff,reduceCtorEq]<;>rfl),(hsl.upd uO om).mono om,hx.trans (uO.ext om)⟩
theorem pA:∀ xs:List Int,xs.flatMap eI=gH xs.toArray
 | []=>rfl
 | x::r=>by
   have:=pA r
   unfold gH at *
   rw[List.toList_toArray] at *
   rw[fh,this]
   rfl
def qh (xs:List Int):List Int:=xs.mergeSort (λx y=>decide (x≤y))
theorem ul (xs:List Int):(qh xs).length=xs.length:=tF _
theorem Ca {h:AH}{lb:Nat}{v:AV}{xs:List Int} (hr:ar h lb 0 1=some [v]) (hv:SlI h v xs) (hb:lb<h.next) (hl:xs.length<2 ^ 34) :
 C prg 59 [.fn 80 [.ptr lb 0]] h λr h'=>IsSl h' 1 h.next r ((qh xs).flatMap eI)∧Ext h.next h h':=by
 have hcol:C prg 78 [.fn 80 [.ptr lb 0]] h λr h'=>IsSl h' 1 h.next r (xs.flatMap eI)∧Ext h.next h h':=by
  refine LB pf78 ?_
  refine aj (aB (Mi0) ?_)
  refine aj (bO (bt 1 (Mi0) rfl (Zi0) (Mi0) (DK hr hv hb hl) λr h2 hq=>?_))
  refine bI (M0) ?_
  exact bG ⟨r,(by simp only[rs,rf78,am,aF,simprocAttr]<;>rfl),hq⟩
 refine LB pf59 ?_
 refine aj (aB (Mi0) ?_)
 refine aj (bO (bt 1 (Mi0) rfl (Zi0) (Mi0) (hcol) λr h2 hq=>?_))
 obtain⟨i1,x1⟩:=hq
 refine bI (M0) ?_
 rcases i1 with ⟨rfl,hz⟩|⟨b,n,hbn,rfl,hg,hln⟩
 ·have:xs=[]:=by
   cases xs with
   | nil=>rfl
   | cons x r=>simp [eI] at hz
  subst this
  refine aj (bO (bt 1 (M0) rfl (Z0) (M0) (Ek) λv h3 hq=>?_))
  subst hq
  refine bI (M0) ?_
  refine aj (aB (M0) ?_)
  exact bG ⟨.nils,(by simp only[rs,rf59,am,aF,simprocAttr]<;>rfl),.inl ⟨rfl,by simp [qh]⟩,x1⟩
 ·have hn:n=xs.length:=by rw[gc (f:=eI) (e:=1) (λ_=>rfl)] at hln; omega
  subst hn
  have e1:xs.flatMap eI=gH xs.toArray:=pA xs
  have hg':h2.get b=some (lN (xs.flatMap eI) 0 xs.toArray):=by
   rw[hg]
   unfold lN
   rw[e1]
   congr 2
   exact (pS (by simp) (by rw[bJ,dF])).symm
  have hs:=HD (c:=xs.length) hg' (by rw[gi,hln]; omega) (by rw[gi]; omega)
  rw[gi] at hs
  refine aj (bO (bt 1 (M0) rfl (Z0) (M0) (hs) λv h3 hq=>?_))
  refine bI (M0) ?_
  refine aj (aB (M0) ?_)
  refine bG ⟨_,(by simp only[rs,rf59,am,aF,simprocAttr]<;>rfl),.inr ⟨b,xs.length,hbn,rfl,?_,?_⟩,x1.trans ((hq.mono x1.nx).toExt hbn)⟩
  ·rw[hq.get]
   unfold lN
   have e2:gH (qh xs).toArray=(qh xs).flatMap eI:=(pA _).symm
   rw[show (xs.toArray.toList.mergeSort λx y=>decide (x≤y))=qh xs from rfl,e2]
   simp only[dI,gO,bj,bM]
   rw[gc (f:=eI) (e:=1) (λ_=>rfl),ul,dm (by rw[hln]; omega),dG]
  ·rw[gc (f:=eI) (e:=1) (λ_=>rfl),ul]
open Go.Am Go.Sort
open Go.Am
open Go.Am
open Go.Am
open Go.Am
open Go.Am
theorem lh {P:RP}{b:Nat}{l l2:List ROper}{s:Option (Tm×AH)}{K:Tm→AH→Prop}{ts:Tm}{h:AH}{d:Option Nat}{f:FuncId}{args:List RO}{g:Option (Nat×Bool)}{nm:Option Nat}{cs:List (Nat×ROp×Option (Nat×Bool))}{vs:List AV}{Q:AV→AH→Prop} (n:Nat)
 (hs:km b (l.take n) s=some (ts,h)) (hd:l.drop n=⟨d,.call f args,g,nm,cs⟩::l2) (hw:wanted ts g=some true) (ha:args.map (RO.ev ts)=vs) (hc:C P f vs h Q)
 (hk:∀ v h',Q v h'→io (dY ts d v) h' cs=true∧G P b l2 (some (dY ts d v,h')) K):G P b l s K:=by
 subst ha
 rw[← cD n l]
 refine qq ?_
 rw[hs,hd]
 exact BR hw (hc.mono hk)
open Go.Am
open Go.Am
def SlL (h:AH) (v:AV) (xss:List (List Int)):Prop:=∃ ws:List AV,Sl h 1 v (ws.map λw=>[w])∧ws.length=xss.length∧∀ (i:Nat) (w:AV) (xs:List Int),ws[i]?=some w→xss[i]?=some xs→SlI h w xs
theorem SlL.ext {h h':AH}{v:AV}{xss:List (List Int)} (hs:SlL h v xss) (hx:Ext h.next h h'):SlL h' v xss:=by
 obtain⟨ws,a,b,c⟩:=hs
 exact⟨ws,a.ext hx (ae _),b,λi w xs h1 h2=>(c i w xs h1 h2).ext hx (ae _)⟩
theorem SlL.len {h:AH}{v:AV}{xss:List (List Int)} (hs:SlL h v xss):jS v=some (.int .i64 (xss.length:Nat)):=by
 obtain⟨ws,a,b,c⟩:=hs
 have:=a.len
 rw[ak,b] at this
 exact this
theorem SlL.cells {h:AH}{v:AV}{xss:List (List Int)} (hs:SlL h v xss):v.cells=[v]∧v.one=true:=by
 obtain⟨ws,a,b,c⟩:=hs
 exact a.cells
theorem SlL.at {h:AH}{v:AV}{xss:List (List Int)} (hs:SlL h v xss) {k:Nat} (hk:k<xss.length):∃ b p w,kR 1 v (.int .i64 (k:Nat))=some (.ptr b p)∧ar h b p 1=some [w]∧SlI h w xss[k]∧b<h.next:=by
 obtain⟨ws,a,b,c⟩:=hs
 have hw:ws[k]?=some ws[k]:=ah om
 obtain⟨b1,p1,a1,r1,l1⟩:=a.at1 (i:=k) (y:=ws[k]) (by rw[aG,hw]; rfl)
 exact⟨b1,p1,_,a1,r1,c k _ _ hw (ah hk),l1⟩
open Go.Am
open Go.Am
theorem Aw {k:Nat} (h:k<2 ^ 62):IntKind.i64.wrap (((k:Nat):Int)+1)=((k+1:Nat):Int):=fz om om
open Go.Am
def bls (L:List Bool):List AV:=L.map AV.bool
theorem BF (L:List Bool):(bls L).length=L.length:=by simp [bls]
theorem BE (L:List Bool) (i:Nat) (b:Bool):(bls L).set i (.bool b)=bls (L.set i b):=by simp [bls,kI]
theorem Af {L:List Bool}{i:Nat} (h:i<L.length):(bls L)[i]?=some (.bool (L.getD i false)):=by
 unfold bls
 rw[aG,ah h,ai,ah h]
 rfl
theorem JM (n:Nat):dg [.bool false] n=bls (List.replicate n false):=by
 rw[jf]; simp [bls]
end Go.Proofs.YtpeemonpdlifbaaGreat
