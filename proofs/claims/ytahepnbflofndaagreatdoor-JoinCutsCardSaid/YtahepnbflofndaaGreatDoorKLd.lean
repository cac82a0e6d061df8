/- slices.Sort of ints -/
import Derived.Test.YtahepnbflofndaaGreatDoorKLc
import Derived.Test.YtahepnbflofndaaGreatDoorKRf
import Derived.Test.YtahepnbflofndaaGreatDoorKAmA
import Derived.Test.YtahepnbflofndaaGreatDoorKLa
set_option linter.all false
namespace Go.Proofs.YtahepnbflofndaaGreatDoor
open Go.Am
open Go.Sort (swp ltInt scanSorted shiftDown shiftUp partialIns partialInsertionSort fixDown fixUp partialIns_succ)
open Go.Am
theorem Jz {a k:Nat} (hk:k<64):eU .shr .no (.int .u64 (a:Nat)) (.int .u64 (k:Nat))=some (.int .u64 ((a / 2 ^ k:Nat):Int)):=by
 have h1:min ((k:Nat):Int).toNat IntKind.u64.bits=k:=by
  have:IntKind.u64.bits=64:=rfl;rw[this,aY];omega
 have h2:((a:Nat):Int).fdiv (2 ^ k)=((a / 2 ^ k:Nat):Int):=by
  rw[Int.fdiv_eq_ediv_of_nonneg _ (Fg (Int.pow_pos (by decide)))];simp
 have:eU .shr .no (.int .u64 (a:Nat)) (.int .u64 (k:Nat))=FO .shr .u64 (a:Nat) (k:Nat):=by simp [eU,fx]
 rw[this];have hk0:¬ ((k:Nat):Int)<0:=om;simp only[FO,h1,h2,hk0,if_false]
set_option maxRecDepth 8000 in
theorem Bd {h:AH}:C prg 187 [.int .u64 0] h λv h'=>v=.int .i64 0∧h'=h:=by
 refine Mw pf187 ?_;refine ae (aj (Ji0) ?_);have c1:decide ((4294967296:Int)≤0)=false:=by decide
 have c2:decide ((65536:Int)≤0)=false:=by decide
 have c3:decide ((256:Int)≤0)=false:=by decide
 refine ae (ae (aj (Ji1 c1) ?_));refine dL (I1 c1) (bu ?_);refine ae (ae (aj (Ji1 c2) ?_));refine dL (I1 c2) (bu ?_);refine ae (ae (aj (Ji1 c3) ?_));refine dL (I1 c3) (bu ?_);have w1:IntKind.u8.wrap 0=0:=by decide
 have w2:IntKind.i64.wrap 0=0:=by decide
 have w3:IntKind.i64.wrap (0+0)=0:=by decide
 have hi:vS (.str [0,1,2,2,3,3,3,3,4,4,4,4,4,4,4,4,5,5,5,5,5,5,5,5,5,5,5,5,5,5,5,5,6,6,6,6,6,6,6,6,6,6,6,6,6,6,6,6,6,6,6,6,6,6,6,6,6,6,6,6,6,6,6,6,7,7,7,7,7,7,7,7,7,7,7,7,7,7,7,7,7,7,7,7,7,7,7,7,7,7,7,7,7,7,7,7,7,7,7,7,7,7,7,7,7,7,7,7,7,7,7,7,7,7,7,7,7,7,7,7,7,7,7,7,7,7,7,7,8,8,8,8,8,8,8,8,8,8,8,8,8,8,8,8,8,8,8,8,8,8,8,8,8,8,8,8,8,8,8,8,8,8,8,8,8,8,8,8,8,8,8,8,8,8,8,8,8,8,8,8,8,8,8,8,8,8,8,8,8,8,8,8,8,8,8,8,8,8,8,8,8,8,8,8,8,8,8,8,8,8,8,8,8,8,8,8,8,8,8,8,8,8,8,8,8,8,8,8,8,8,8,8,8,8,8,8,8,8,8,8,8,8,8,8,8,8,8,8,8,8,8,8,8,8,8,8]) (.int .u8 0)=some (.int .u8 0):=rfl;refine ae (yf (λts h5=>h5=h∧cU ts 2=.int .i64 0) ?_ λts h5 ⟨eh,e2⟩=>br ⟨.int .i64 0,(by simp only[rs,rf187,am,aK,simprocAttr,e2]<;>rfl),rfl,eh⟩);simp only[am,aK,simprocAttr,bS,w1,hi,w2,w3]
theorem wD {h:AH}:C prg 145 [.int .u64 0] h λv h'=>v=.int .i64 0∧h'=h:=by
 refine Mw pf145 ?_;refine ae (aj (Ji0) ?_);refine ae (dL rfl (bu ?_));refine ae (bN (bo 1 (Mi0) rfl (Zi0) (Mi0) (Bd) λv h' hq=>?_));obtain⟨rfl,rfl⟩:=hq;refine bH (M0) ?_;exact br ⟨_,(by simp only[rs,rf145,am,aK,simprocAttr]<;>rfl),rfl,rfl⟩
open Go.Am
open Go.Sort (swp ltInt PermIn)
open Go.Am
open Go.Sort (swp ltInt PermIn swp_permIn permIn_refl permIn_trans)
theorem Ly {n:Nat} (h:n<2 ^ 64):IntKind.u64.wrap ((n:Nat):Int)=((n:Nat):Int):=IntWalk.u64_in _ ⟨om,om⟩
open Go.Am
open Go.Sort (swp ltInt PermIn SortedIn Below permIn_refl permIn_trans insertionSort_holds heapSort_holds partialInsertionSort_holds partition_holds partitionEqual_holds reverseRange_holds swo_ltInt round_eq round_part)
theorem yz {cs a v:List AV}{o:Nat} (hr:o+a.length≤cs.length) (hl:v.length=a.length):dB (dB cs o a) o v=dB cs o v:=by
 refine cW λi=>?_;have hs:=gT hr;rw[fi (cs:=dB cs o a) (by rw[hs]; omega),fi (cs:=cs) (vs:=a) hr,fi (cs:=cs) (vs:=v) om];by_cases q:o≤i∧i<o+v.length
 ·rw[if_pos q,if_pos q]
 ·rw[if_neg q,if_neg q,if_neg om]
theorem Cf {h:AH}{b o c:Nat}{cs:List AV}{d:Array Int} (hg:h.get b=some (iX cs o d)) (hr:o+d.size≤cs.length) (hs:d.size<2 ^ 38) :
 C prg 99 [.sl b o d.size c] h λv h'=>Mod h.next h h' b (iX cs o (d.toList.mergeSort (λx y=>decide (x≤y))).toArray):=by
 have hi:(hI d).length=d.size:=by simp [hI]
 have hsp:(dB cs o (hI d)).length=cs.length:=gT om;have hsl:(d.toList.mergeSort λx y=>decide (x≤y)).length=d.size:=by rw[uX,bP]
 have hg':h.get b=some (.cells (dB cs o (hI d)) 1 false):=hg;have hrd:ak h b o d.size=some (d.toList.map (AV.int .i64)):=by
  rw[aU hg',if_pos om];congr 1;refine cW λi=>?_;rw[cQ,fC,fi om];by_cases q:i<d.size
  ·rw[if_pos q,if_pos om,eD];rfl
  ·rw[if_neg q,bG (by simp; omega)]
 have hwr:bQ h b o (Az d.toList)=some (h.put b (iX cs o (d.toList.mergeSort (λx y=>decide (x≤y))).toArray)):=by
  have hl:(Az d.toList).length=d.size:=by unfold Az; rw[ai,hsl]
  rw[dp hg',if_pos om,yz om om];rfl
 exact BS.srt ps99 hrd hwr om ⟨_,_,rfl,(Mv hg).mod⟩
open Go.Am Go.Sort
theorem Ki {h:AH}:C prg 188 [.nils,.int .i64 0,.int .i64 0] h λ_ h'=>h'=h:=by
 refine Mw pf188 ?_;refine ae (aj (by simp only[am,aK,↓reduceIte,Nat.reduceEqDiff,Int.reduceEq,Nat.reduceAdd,Nat.reduceLeDiff,reduceCtorEq,bS,fD (z:=0+1) (by decide) (by decide)]<;>rfl) ?_);refine cY (fX (λn ts h1=>h1=h∧cU ts 2=.int .i64 0∧cU ts 6=.int .i64 (0+1)) ?_ (n:=0) ⟨rfl,Ii0,Ii0⟩);rintro n ts h1 ⟨rfl,e2,e6⟩;refine ae (ae (aj (M2 e2 e6) ?_));refine dL (by simp only[am,aK,simprocAttr]; rfl) ?_;exact fB ⟨λ_=>⟨.tup [],rfl,rfl⟩,λe=>absurd rfl e⟩
theorem JN {h:AH}{l:Int}:C prg 146 [.nils,.int .i64 0,.int .i64 0,.int .i64 l] h λ_ h'=>h'=h:=by
 refine Mw pf146 ?_;refine ae (aj (Mi0) ?_);refine ae (aj (Mi0) ?_);refine cY (fX (λn ts h1=>h1=h∧cU ts 0=.nils∧cU ts 1=.int .i64 0∧cU ts 2=.int .i64 0) ?_ (n:=0) ⟨rfl,Zi0,Zi0,Zi0⟩);rintro n ts h1 ⟨rfl,e0,e1,e2⟩;refine cY (ae (aj (by simp only[am,aK,simprocAttr,e1,e2,fD (z:=0-0) (by decide) (by decide)]<;>rfl) ?_));refine ae (ae (aj (M0) ?_));refine db (by simp only[am,aK,simprocAttr]; rfl) ?_;refine ae (bN (bo 3 (M3 e0 e1 e2) rfl (Z3 e0 e1 e2) (M3 e0 e1 e2) (Ki) λv h2 u=>?_));subst u;refine bH (M0) ?_;exact br ⟨.tup [],rfl,rfl⟩
theorem Fp {h:AH}:C prg 99 [.nils] h λ_ h'=>h'=h:=by
 refine Mw pf99 ?_;refine ae (aj (Mi1 @pm) ?_);have wu:IntKind.u64.wrap 0=0:=by decide
 refine bN (bo 4 (Mi1 wu) rfl (Zi1 wu) (Mi1 wu) (wD) λv h1 hq=>?_);obtain⟨rfl,rfl⟩:=hq;refine iZ (Zi0) (Mi0) (JN) λv h2 hq=>?_;subst hq;refine bH (M0) ?_;exact⟨.tup [],rfl,rfl⟩
theorem oj {h:AH}{v:AV} (hv:v.cells=[v]):C prg 150 [v] h λr h'=>r=.fn 196 [.ptr h.next 0]∧h'=h.new (.cells [v] 1 false):=by
 refine Mw pf150 ?_;refine ae (aj (Mi1 hv) ?_);refine ae (aj (M0) ?_);exact br ⟨_,(by simp only[rs,rf150,am,aK,simprocAttr]<;>rfl),rfl,rfl⟩
theorem As {h:AH}{lb L:Nat}{v:AV}{xs:List Int} (J:Nat→AH→Prop) (hJ:∀ i h,J i h→ak h lb 0 1=some [v]∧SlI h v xs) (hl:xs.length<2 ^ 40)
 (hY:∀ i (hi:i<xs.length) h,J i h→Y prg L [.int .i64 xs[i]] h λr h'=>r=.bool true∧J (i+1) h') (h0:J 0 h) :
 C prg 196 [.yld L,.ptr lb 0] h λ_ h'=>J xs.length h':=by
 refine Mw pf196 ?_;obtain⟨r0,s0⟩:=hJ 0 h h0;have e1:=s0.len;rw[ai] at e1;refine ae (aj (Mi2 r0 e1) ?_);refine fA (α:=Unit) (N:=xs.length) (λ_ _=>[(0,.yld L),(5,v)]) (λk _ h1=>J k h1) () (λ_ _=>rfl) om (Oi0) h0 ?_ ?_
 ·rintro k _ ts h1 hk hj ⟨ei,en,e0,e5,-⟩;simp only at ei en e0 e5;obtain⟨b1,p1,a1,r1,_⟩:=(hJ k h1 hj).2.at1 (cq (f:=eI) hk);refine ae (aj (M4 e5 ei a1 r1) ?_);refine ae (bN (G.gyield 2 (M1 e0) rfl (Z1 e0) (M1 e0) (M1 e0) (hY k hk h1 hj) λr h2 hq=>?_));obtain⟨rfl,hj2⟩:=hq;refine bH (M0) ?_;refine dL (Z0) ?_;exact bu ⟨(),hj2,O4 ei en e0 e5⟩
 ·rintro _ ts h1 hj _;exact⟨.tup [],rfl,hj⟩
theorem EZ {h:AH}{lb:Nat}{v:AV}{xs:List Int} (hr:ak h lb 0 1=some [v]) (hv:SlI h v xs) (hb:lb<h.next) (hl:xs.length<2 ^ 34) :
 C prg 169 [.nils,.fn 196 [.ptr lb 0]] h λr h'=>IsSl h' 1 h.next r (xs.flatMap eI)∧Ext h.next h h':=by
 refine Mw pf169 ?_;refine ae (aj (Mi0) ?_);have g0:(h.new (.cells [.nils] 1 false)).get h.next=some (.cells [.nils] 1 false):=by rw[AH.get_new,if_pos rfl]
 have x0:Ext h.next h (h.new (.cells [.nils] 1 false)):=Mt (ab _);have n0:(h.new (.cells [.nils] 1 false)).next=h.next+1:=rfl;generalize h.new (.cells [.nils] 1 false)=h0 at *
 refine ae (ae (yf (λts h1=>h1=h0∧cU ts 2=.ptr h.next 0∧cU ts 6=.fn 196 [.ptr lb 0]) (by simp only[am,aK,simprocAttr,bS]) λts h1 hq=>?_));obtain⟨rfl,e2,e6⟩:=hq;refine cY (W.rangeF (Q:=λ_ h'=>h'.get h1.next=some (.lp 169 [true,false,true,false] ts [7] .ready none)∧(∃ s,h'.get h.next=some (.cells [s] 1 false)∧IsSl h' 1 (h.next+2) s (xs.flatMap eI))∧Ext h.next h h'∧h.next+2≤h'.next) (by simp only[am,aK,simprocAttr,e6]; rfl) ?_ ?_)
 ·refine (As (xs:=xs) (v:=v) (λi h'=>h'.get h1.next=some (.lp 169 [true,false,true,false] ts [7] .ready none)∧(∃ s,h'.get h.next=some (.cells [s] 1 false)∧IsSl h' 1 (h.next+2) s ((xs.take i).flatMap eI))∧Ext h.next h h'∧h.next+2≤h'.next) ?_ om ?_ ?_).mono λr h' q=>by simpa using q
  ·rintro i h' ⟨_,_,hx,_⟩;exact⟨by rw[← hr]; exact bK (hx.gt _ hb),hv.ext hx (ab _)⟩
  ·rintro i hi h' ⟨hL,⟨s,hs,hsl⟩,hx,hn⟩;refine Y.round hL rfl pf169 rfl ?_;refine aj (by simp only[am,aK,simprocAttr,lI]<;>rfl) ?_;refine⟨rfl,?_⟩;have uB:=Mv (o:=.lp 169 [true,false,true,false] ts [7] .busy none) hL;generalize h'.put h1.next (.lp 169 [true,false,true,false] ts [7] .busy none)=hb at *
   have hsl':IsSl hb 1 (h.next+2) s ((xs.take i).flatMap eI):=hsl.upd uB om;have gs:hb.get h.next=some (.cells [s] 1 false):=by rw[uB.ne om]; exact hs
   have rs:ak hb h.next 0 1=some [s]:=by rw[aU gs]; rfl
   have hlen:((xs.take i).flatMap eI).length=i:=by
    rw[dC (f:=eI) (e:=1) (λ_=>rfl),aS]; omega
   obtain⟨s',h2,a1,i1,x1,n1⟩:=hsl'.push (bytes:=8) (eI xs[i]) (by rw[uB.nx]; omega) om rfl rfl (by rw[hlen]; unfold aW; omega) (by rw[hlen]; unfold aW; omega);rw[show eI xs[i]=[.int .i64 xs[i]] from rfl] at a1 i1;have gs2:h2.get h.next=some (.cells [s] 1 false):=by rw[x1.gt _ om]; exact gs
   obtain⟨sc,so⟩:=i1.cells;have w1:bQ h2 h.next 0 [s']=some (h2.put h.next (.cells [s'] 1 false)):=by rw[dp gs2]; rfl
   have uS:=Mv (o:=.cells [s'] 1 false) gs2;refine cY ?_;refine aj (by simp only[am,aK,simprocAttr,e2,rs,a1,sc,so,w1]<;>rfl) ?_;have gL:(h2.put h.next (.cells [s'] 1 false)).get h1.next=some (.lp 169 [true,false,true,false] ts [7] .busy none):=by rw[uS.ne om,x1.gt _ om,uB.get]
   have uR:=Mv (o:=.lp 169 [true,false,true,false] ts [7] .ready none) gL;refine⟨gL,rfl,uR.get,⟨s',by rw[uR.ne om]; exact uS.get,?_⟩,?_,?_⟩
   ·have e:(xs.take (i+1)).flatMap eI=(xs.take i).flatMap eI++[.int .i64 xs[i]]:=by
     rw[aG hi,bC]; rfl
    rw[e];exact (i1.upd uS om).upd uR om
   ·exact hx.trans ((uB.ext om).trans ((x1.mono om).trans ((uS.ext (ab _)).trans (uR.ext om))))
   ·rw[uR.nx,uS.nx];have:=uB.nx;omega
  ·have gN:(h1.new (.lp 169 [true,false,true,false] ts [7] .ready none)).get h1.next=some (.lp 169 [true,false,true,false] ts [7] .ready none):=by rw[AH.get_new,if_pos rfl]
   refine⟨gN,⟨.nils,?_,.inl ⟨rfl,rfl⟩⟩,x0.trans (Mt om),by rw[AH.next_new]; omega⟩;rw[AH.get_new,if_neg om];exact g0
 ·rintro _ h' ⟨hL,⟨s,hs,hsl⟩,hx,hn⟩;refine⟨⟨_,_,_,_,hL⟩,λf1 p1 t1 q1=>?_⟩;have uO:=Mv (o:=.lp f1 p1 t1 q1 .over none) hL;have rs:ak (h'.put h1.next (.lp f1 p1 t1 q1 .over none)) h.next 0 1=some [s]:=by rw[aU (by rw[uO.ne om]; exact hs)]; rfl
  refine ae (aj (by simp only[am,aK,simprocAttr,e2,rs]<;>rfl) ?_);exact br ⟨s,(by simp only[Am.results,iu,jN,rf169,am,aK,↓reduceIte,Nat.reduceEqDiff,Int.reduceEq,Nat.reduceAdd,Nat.reduceLeDiff,reduceCtorEq]<;>rfl),(hsl.upd uO om).mono om,hx.trans (uO.ext om)⟩
theorem lY:∀ xs:List Int,xs.flatMap eI=hI xs.toArray
 | []=>rfl
 | x::r=>by
   have:=lY r;unfold hI at *
   rw[Al] at *
   rw[fo,this];rfl
def fz (xs:List Int):List Int:=xs.mergeSort (λx y=>decide (x≤y))
theorem fQ (xs:List Int):(fz xs).length=xs.length:=uX _
theorem ow {h:AH}{lb:Nat}{v:AV}{xs:List Int} (hr:ak h lb 0 1=some [v]) (hv:SlI h v xs) (hb:lb<h.next) (hl:xs.length<2 ^ 34) :
 C prg 80 [.fn 196 [.ptr lb 0]] h λr h'=>IsSl h' 1 h.next r ((fz xs).flatMap eI)∧Ext h.next h h':=by
 have hcol:C prg 134 [.fn 196 [.ptr lb 0]] h λr h'=>IsSl h' 1 h.next r (xs.flatMap eI)∧Ext h.next h h':=by
  refine Mw pf134 ?_;refine ae (aj (Mi0) ?_);refine ae (bN (bo 1 (Mi0) rfl (Zi0) (Mi0) (EZ hr hv hb hl) λr h2 hq=>?_));refine bH (M0) ?_;exact br ⟨r,(by simp only[rs,rf134,am,aK,simprocAttr]<;>rfl),hq⟩
 refine Mw pf80 ?_;refine ae (aj (Mi0) ?_);refine ae (bN (bo 1 (Mi0) rfl (Zi0) (Mi0) (hcol) λr h2 hq=>?_));obtain⟨i1,x1⟩:=hq;refine bH (M0) ?_;rcases i1 with ⟨rfl,hz⟩|⟨b,n,hbn,rfl,hg,hln⟩
 ·have:xs=[]:=by
   cases xs with
   | nil=>rfl
   | cons x r=>simp [eI] at hz
  subst this;refine ae (bN (bo 1 (M0) rfl (Z0) (M0) (Fp) λv h3 hq=>?_));subst hq;refine bH (M0) ?_;refine ae (aj (M0) ?_);exact br ⟨.nils,(by simp only[rs,rf80,am,aK,simprocAttr]<;>rfl),.inl ⟨rfl,by simp [fz]⟩,x1⟩
 ·have hn:n=xs.length:=by rw[dC (f:=eI) (e:=1) (λ_=>rfl)] at hln; omega
  subst hn;have e1:xs.flatMap eI=hI xs.toArray:=lY xs;have hg':h2.get b=some (iX (xs.flatMap eI) 0 xs.toArray):=by
   rw[hg];unfold iX;rw[e1];congr 2;exact (ny (by simp) (by rw[de,bp])).symm
  have hs:=Cf (c:=xs.length) hg' (by rw[cP,hln]; omega) (by rw[cP]; omega);rw[cP] at hs;refine ae (bN (bo 1 (M0) rfl (Z0) (M0) (hs) λv h3 hq=>?_));refine bH (M0) ?_;refine ae (aj (M0) ?_);refine br ⟨_,(by simp only[rs,rf80,am,aK,simprocAttr]<;>rfl),.inr ⟨b,xs.length,hbn,rfl,?_,?_⟩,x1.trans ((hq.mono x1.nx).toExt hbn)⟩
  ·rw[hq.get];unfold iX;have e2:hI (fz xs).toArray=(fz xs).flatMap eI:=(lY _).symm;rw[show (xs.toArray.toList.mergeSort λx y=>decide (x≤y))=fz xs from rfl,e2];simp only[dB,fF,cH,bM];rw[dC (f:=eI) (e:=1) (λ_=>rfl),fQ,dG (by rw[hln]; omega),bO]
  ·rw[dC (f:=eI) (e:=1) (λ_=>rfl),fQ]
end Go.Proofs.YtahepnbflofndaaGreatDoor
