/- slices.Min, Reverse of numbers. -/
import Derived.Test.YtlolkmcdimgplaaGreatVTAH
set_option linter.all false
namespace Go.Proofs.YtlolkmcdimgplaaGreat
open Go.Am Go.Sort
variable {b c i lb n o:Nat}{d:Array Int}{f:Nat->Int}{h:AH}{p:Nat->Bool}{v:AV}{xs:List Int}
theorem reverse_nil:C prg 72 [.nils] h λ_ h'=>h'=h:=by
 refine Ny pf72 ?_;have w0:IntKind.i64.wrap (0-1)=-1:=by decide
 refine ai (aD (Ji2 @mT w0) ?_);refine cA (fO (λn ts h1=>h1=h/\aR ts 2=.int .i64 0/\aR ts 3=.int .i64 (-1)) ?_ (n:=0) ⟨rfl,Ii0,Ii0⟩);rintro n ts h1 ⟨rfl,e2,e3⟩;refine ai (ai (aD (M2 e2 e3) ?_));refine dR (by simp only[am,aI,simprocAttr];rfl) ?_;exact fp ⟨λ_=>⟨.tup [],rfl,rfl⟩,λe=>absurd rfl e⟩
theorem tL{cs:List AV}(hg:h.get b=some (nu cs o d))(hr:o+d.size<=cs.length)(hs:d.size<2^40) :
 C prg 72 [.sl b o d.size c] h λ_ h'=>Upd h h' b (nu cs o d.reverse):=by
 refine Ny pf72 ?_;have w0:IntKind.i64.wrap (((d.size:Nat):Int)-1)=((d.size:Nat):Int)-1-((0:Nat):Int):=by rw[fx om om];omega
 refine ai (aD (Mi1 w0) ?_)
 refine uW (α:=Array Int) (N:=d.size/2) (λk a=>[(0,.sl b o d.size c),(2,.int .i64 (k:Nat)),(3,.int .i64 (((d.size:Nat):Int)-1-((k:Nat):Int)))])
  (λk a h'=>Upd h h' b (nu cs o a)/\a.size=d.size/\∀x,x<d.size->a[x]! = if x<k\/d.size-1-x<k then d[d.size-1-x]! else d[x]!) d (Hi1 @de) ⟨Upd.refl hg,rfl,λx _=>by rw[if_neg om]⟩ ?_ ?_ ?_
 .rintro k a ts h1 hk ⟨j1,j2,j3⟩ ⟨e0,e2,e3,-⟩;simp only at e0 e2 e3;have c2:decide (((k:Nat):Int)<((d.size:Nat):Int)-1-((k:Nat):Int))=decide (k<d.size/2):=by simp only[decide_eq_decide];omega
  exact⟨_,(M3 e2 e3 c2),Z0,H3 e0 e2 e3⟩
 .rintro k a ts h1 hk ⟨j1,j2,j3⟩ ⟨e0,e2,e3,-⟩;simp only at e0 e2 e3;have hm:((d.size:Nat):Int)-1-((k:Nat):Int)=((d.size-1-k:Nat):Int):=om;have i1:iV ((k:Nat):Int) d.size=some k:=eU om;have i2:iV ((d.size-1-k:Nat):Int) d.size=some (d.size-1-k):=eU om;have r1:=GO (i:=k) j1.get om om;have r2:=GO (i:=d.size-1-k) j1.get om om;obtain⟨m1,m2,s1,s2,u2⟩:=JB (i:=k) (j:=d.size-1-k) j1.get om om om;have w1:IntKind.i64.wrap (((k:Nat):Int)+1)=((k+1:Nat):Int):=fx om om;have w2:IntKind.i64.wrap (((d.size-1-k:Nat):Int)-1)=((d.size:Nat):Int)-1-((k+1:Nat):Int):=by rw[fx om om];omega
  refine aD (M12 e0 e2 e3 hm i1 i2 r1 r2 s1 s2 @bh @bh) ?_;refine⟨_,⟨j1.trans u2,by rw[DT,j2],?_⟩,_,(M5 e2 e3 hm w1 w2),H1 e0⟩;intro x hx;by_cases x1:x=k
  .subst x1;rw[swp_left _ _ _ om om,j3 _ om,if_neg om,if_pos om]
  .by_cases x2:x=d.size-1-k
   .rw[x2,swp_right _ _ _ om,j3 _ om,if_neg om,if_pos om];congr 1;omega
   .rw[swp_other _ _ _ _ x1 x2,j3 _ hx];by_cases q:x<k\/d.size-1-x<k
    .rw[if_pos q,if_pos om]
    .rw[if_neg q,if_neg om]
 .rintro a ts h1 ⟨j1,j2,j3⟩ _;refine⟨.tup [],rfl,?_⟩;have:a=d.reverse:=by
   refine Array.ext (by simpa using j2) λi h1 h2=>?_;have:=j3 i om;rw[getElem!_pos a i h1]at this;rw[this,Array.getElem_reverse];rw[getElem!_pos d _ om];split
   .rfl
   .rw[getElem!_pos d _ om];congr 1;omega
  rw[<-this];exact j1
open Go.Am
open Go.Sort (swp ltInt)
open Go.Sort (insInner insOuter insertionSort)
open Go.Am
open Go.Sort (swp ltInt siftDown heapBuild heapPop heapSort)
open Go.Am
open Go.Sort (swp ltInt reverseLoop reverseRange scanUp scanDown partLoop partition partEqLoop partitionEqual scanUp_spec scanDown_spec scanUp_ge scanDown_le partLoop_eq partEqLoop_eq)
open Go.Am
open Go.Sort (swp ltInt scanSorted shiftDown shiftUp partialIns partialInsertionSort fixDown fixUp partialIns_succ)
open Go.Am
open Go.Sort (swp ltInt PermIn)
open Go.Am
open Go.Sort (swp ltInt PermIn swp_permIn permIn_refl permIn_trans)
open Go.Am
open Go.Sort (swp ltInt PermIn SortedIn Below permIn_refl permIn_trans insertionSort_holds heapSort_holds partialInsertionSort_holds partition_holds partitionEqual_holds reverseRange_holds swo_ltInt round_eq round_part)
theorem yV{cs a v:List AV}(hr:o+a.length<=cs.length)(hl:v.length=a.length):dD (dD cs o a) o v=dD cs o v:=by
 refine dI λi=>?_;have hs:=kX hr;rw[gR (cs:=dD cs o a) (by rw[hs];omega),gR (cs:=cs) (vs:=a) hr,gR (cs:=cs) (vs:=v) om];by_cases q:o<=i/\i<o+v.length
 .rw[if_pos q,if_pos q]
 .rw[if_neg q,if_neg q,if_neg om]
theorem JH{cs:List AV}(hg:h.get b=some (nu cs o d))(hr:o+d.size<=cs.length)(hs:d.size<2^38) :
 C prg 23 [.sl b o d.size c] h λv h'=>Mod h.next h h' b (nu cs o (d.toList.mergeSort (λx y=>decide (x<=y))).toArray):=by
 have hi:(iJ d).length=d.size:=by simp[iJ]
 have hsp:(dD cs o (iJ d)).length=cs.length:=kX om;have hsl:(d.toList.mergeSort λx y=>decide (x<=y)).length=d.size:=by rw[vC,iH]
 have hg':h.get b=some (.cells (dD cs o (iJ d)) 1 false):=hg;have hrd:aA h b o d.size=some (d.toList.map (AV.int .i64)):=by
  rw[bI hg',if_pos om];congr 1;refine dI λi=>?_;rw[cM,eK,gR om];by_cases q:i<d.size
  .rw[if_pos q,if_pos om,Nat.add_sub_cancel_left];rfl
  .rw[if_neg q,bX (by simp;omega)]
 have hwr:cj h b o (vn d.toList)=some (h.put b (nu cs o (d.toList.mergeSort (λx y=>decide (x<=y))).toArray)):=by
  have hl:(vn d.toList).length=d.size:=by unfold vn;rw[ah,hsl]
  rw[ez hg',if_pos om,yV om om];rfl
 exact BS.srt ps23 hrd hwr om ⟨_,_,rfl,(Nv hg).mod⟩
open Go.Am Go.Sort
theorem La:C prg 54 [.nils,.int .i64 0,.int .i64 0] h λ_ h'=>h'=h:=by
 refine Ny pf54 ?_;refine ai (aD (by simp only[am,aI,↓reduceIte,Nat.reduceEqDiff,Int.reduceEq,Nat.reduceAdd,Nat.reduceLeDiff,reduceCtorEq,bP,fx (z:=0+1) (by decide) (by decide)]<;>rfl) ?_);refine cA (fO (λn ts h1=>h1=h/\aR ts 2=.int .i64 0/\aR ts 6=.int .i64 (0+1)) ?_ (n:=0) ⟨rfl,Ii0,Ii0⟩);rintro n ts h1 ⟨rfl,e2,e6⟩;refine ai (ai (aD (M2 e2 e6) ?_));refine dR (by simp only[am,aI,simprocAttr];rfl) ?_;exact fp ⟨λ_=>⟨.tup [],rfl,rfl⟩,λe=>absurd rfl e⟩
theorem Ku{l:Int}:C prg 40 [.nils,.int .i64 0,.int .i64 0,.int .i64 l] h λ_ h'=>h'=h:=by
 refine Ny pf40 ?_;refine ai (aD (Mi0) ?_);refine ai (aD (Mi0) ?_);refine cA (fO (λn ts h1=>h1=h/\aR ts 0=.nils/\aR ts 1=.int .i64 0/\aR ts 2=.int .i64 0) ?_ (n:=0) ⟨rfl,Zi0,Zi0,Zi0⟩);rintro n ts h1 ⟨rfl,e0,e1,e2⟩;refine cA (ai (aD (by simp only[am,aI,simprocAttr,e1,e2,fx (z:=0-0) (by decide) (by decide)]<;>rfl) ?_));refine ai (ai (aD (M0) ?_));refine dv (by simp only[am,aI,simprocAttr];rfl) ?_;refine ai (bS (bE 3 (M3 e0 e1 e2) rfl (Z3 e0 e1 e2) (M3 e0 e1 e2) (La) λv h2 u=>?_));subst u;refine bM (M0) ?_;exact bU ⟨.tup [],rfl,rfl⟩
theorem Gh:C prg 23 [.nils] h λ_ h'=>h'=h:=by
 refine Ny pf23 ?_;refine ai (aD (Mi1 @mT) ?_);have wu:IntKind.u64.wrap 0=0:=by decide
 refine bS (bE 4 (Mi1 wu) rfl (Zi1 wu) (Mi1 wu) (rU) λv h1 hq=>?_);obtain⟨rfl,rfl⟩:=hq;refine jU (Zi0) (Mi0) (Ku) λv h2 hq=>?_;subst hq;refine bM (M0) ?_;exact⟨.tup [],rfl,rfl⟩
theorem DR(hv:v.cells=[v]):C prg 85 [v] h λr h'=>r=.fn 102 [.ptr h.next 0]/\h'=h.new (.cells [v] 1 false):=by
 refine Ny pf85 ?_;refine ai (aD (Mi1 hv) ?_);refine ai (aD (M0) ?_);exact bU ⟨_,(by simp only[rs,rf85,am,aI,simprocAttr]<;>rfl),rfl,rfl⟩
theorem AR{L:Nat}(J:Nat->AH->Prop)(hJ:∀i h,J i h->aA h lb 0 1=some [v]/\SlI h v xs)(hl:xs.length<2^40)
 (hY:∀i (hi:i<xs.length) h,J i h->Y prg L [.int .i64 xs[i]] h λr h'=>r=.bool true/\J (i+1) h') (h0:J 0 h) :
 C prg 102 [.yld L,.ptr lb 0] h λ_ h'=>J xs.length h':=by
 refine Ny pf102 ?_;obtain⟨r0,s0⟩:=hJ 0 h h0;have e1:=s0.len;rw[ah]at e1;refine ai (aD (Mi2 r0 e1) ?_);refine gA (α:=Unit) (N:=xs.length) (λ_ _=>[(0,.yld L),(5,v)]) (λk _ h1=>J k h1) () (λ_ _=>rfl) om (Oi0) h0 ?_ ?_
 .rintro k _ ts h1 hk hj ⟨ei,en,e0,e5,-⟩;simp only at ei en e0 e5;obtain⟨b1,p1,a1,r1,_⟩:=(hJ k h1 hj).2.at1 (fR (f:=eI) hk);refine ai (aD (M4 e5 ei a1 r1) ?_);refine ai (bS (G.gyield 2 (M1 e0) rfl (Z1 e0) (M1 e0) (M1 e0) (hY k hk h1 hj) λr h2 hq=>?_));obtain⟨rfl,hj2⟩:=hq;refine bM (M0) ?_;refine dR (Z0) ?_;exact bQ ⟨(),hj2,O4 ei en e0 e5⟩
 .rintro _ ts h1 hj _;exact⟨.tup [],rfl,hj⟩
theorem FR(hr:aA h lb 0 1=some [v])(hv:SlI h v xs)(hb:lb<h.next)(hl:xs.length<2^34) :
 C prg 107 [.nils,.fn 102 [.ptr lb 0]] h λr h'=>IsSl h' 1 h.next r (xs.flatMap eI)/\Ext h.next h h':=by
 refine Ny pf107 ?_;refine ai (aD (Mi0) ?_);have g0:(h.new (.cells [.nils] 1 false)).get h.next=some (.cells [.nils] 1 false):=by rw[AH.get_new,if_pos rfl]
 have x0:Ext h.next h (h.new (.cells [.nils] 1 false)):=Nt (ab _);have n0:(h.new (.cells [.nils] 1 false)).next=h.next+1:=rfl;generalize h.new (.cells [.nils] 1 false)=h0 at *
 refine ai (ai (bW (λts h1=>h1=h0/\aR ts 2=.ptr h.next 0/\aR ts 6=.fn 102 [.ptr lb 0]) (by simp only[am,aI,simprocAttr,bP]) λts h1 hq=>?_));obtain⟨rfl,e2,e6⟩:=hq;refine cA (W.rangeF (Q:=λ_ h'=>h'.get h1.next=some (.lp 107 [true,false,true,false] ts [7] .ready none)/\(∃s,h'.get h.next=some (.cells [s] 1 false)/\IsSl h' 1 (h.next+2) s (xs.flatMap eI))/\Ext h.next h h'/\h.next+2<=h'.next) (by simp only[am,aI,simprocAttr,e6];rfl) ?_ ?_)
 .refine(AR (xs:=xs) (v:=v) (λi h'=>h'.get h1.next=some (.lp 107 [true,false,true,false] ts [7] .ready none)/\(∃s,h'.get h.next=some (.cells [s] 1 false)/\IsSl h' 1 (h.next+2) s ((xs.take i).flatMap eI))/\Ext h.next h h'/\h.next+2<=h'.next) ?_ om ?_ ?_).mono λr h' q=>by simpa using q
  .rintro i h' ⟨_,_,hx,_⟩;exact⟨by rw[<-hr];exact cU (hx.gt _ hb),hv.ext hx (ab _)⟩
  .rintro i hi h' ⟨hL,⟨s,hs,hsl⟩,hx,hn⟩;refine Y.round hL rfl pf107 rfl ?_;refine aD (by simp only[am,aI,simprocAttr,mP]<;>rfl) ?_;refine⟨rfl,?_⟩;have uB:=Nv (o:=.lp 107 [true,false,true,false] ts [7] .busy none) hL;generalize h'.put h1.next (.lp 107 [true,false,true,false] ts [7] .busy none)=hb at *
   have hsl':IsSl hb 1 (h.next+2) s ((xs.take i).flatMap eI):=hsl.upd uB om;have gs:hb.get h.next=some (.cells [s] 1 false):=by rw[uB.ne om];exact hs
   have rs:aA hb h.next 0 1=some [s]:=by rw[bI gs];rfl
   have hlen:((xs.take i).flatMap eI).length=i:=by
    rw[dN (f:=eI) (e:=1) (λ_=>rfl),bK];omega
   obtain⟨s',h2,a1,i1,x1,n1⟩:=hsl'.push (bytes:=8) (eI xs[i]) (by rw[uB.nx];omega) om rfl rfl (by rw[hlen];unfold bq;omega) (by rw[hlen];unfold bq;omega);rw[show eI xs[i]=[.int .i64 xs[i]] from rfl]at a1 i1;have gs2:h2.get h.next=some (.cells [s] 1 false):=by rw[x1.gt _ om];exact gs
   obtain⟨sc,so⟩:=i1.cells;have w1:cj h2 h.next 0 [s']=some (h2.put h.next (.cells [s'] 1 false)):=by rw[ez gs2];rfl
   have uS:=Nv (o:=.cells [s'] 1 false) gs2;refine cA ?_;refine aD (by simp only[am,aI,simprocAttr,e2,rs,a1,sc,so,w1]<;>rfl) ?_;have gL:(h2.put h.next (.cells [s'] 1 false)).get h1.next=some (.lp 107 [true,false,true,false] ts [7] .busy none):=by rw[uS.ne om,x1.gt _ om,uB.get]
   have uR:=Nv (o:=.lp 107 [true,false,true,false] ts [7] .ready none) gL;refine⟨gL,rfl,uR.get,⟨s',by rw[uR.ne om];exact uS.get,?_⟩,?_,?_⟩
   .have e:(xs.take (i+1)).flatMap eI=(xs.take i).flatMap eI++[.int .i64 xs[i]]:=by
     rw[bu hi,bL];rfl
    rw[e];exact(i1.upd uS om).upd uR om
   .exact hx.trans ((uB.ext om).trans ((x1.mono om).trans ((uS.ext (ab _)).trans (uR.ext om))))
   .rw[uR.nx,uS.nx];have:=uB.nx;omega
  .have gN:(h1.new (.lp 107 [true,false,true,false] ts [7] .ready none)).get h1.next=some (.lp 107 [true,false,true,false] ts [7] .ready none):=by rw[AH.get_new,if_pos rfl]
   refine⟨gN,⟨.nils,?_,.inl ⟨rfl,rfl⟩⟩,x0.trans (Nt om),by rw[AH.next_new];omega⟩;rw[AH.get_new,if_neg om];exact g0
 .rintro _ h' ⟨hL,⟨s,hs,hsl⟩,hx,hn⟩;refine⟨⟨_,_,_,_,hL⟩,λf1 p1 t1 q1=>?_⟩;have uO:=Nv (o:=.lp f1 p1 t1 q1 .over none) hL;have rs:aA (h'.put h1.next (.lp f1 p1 t1 q1 .over none)) h.next 0 1=some [s]:=by rw[bI (by rw[uO.ne om];exact hs)];rfl
  refine ai (aD (by simp only[am,aI,simprocAttr,e2,rs]<;>rfl) ?_);exact bU ⟨s,(by simp only[Am.results,lu,px,rf107,am,aI,↓reduceIte,Nat.reduceEqDiff,Int.reduceEq,Nat.reduceAdd,Nat.reduceLeDiff,reduceCtorEq]<;>rfl),(hsl.upd uO om).mono om,hx.trans (uO.ext om)⟩
theorem rM:∀xs:List Int,xs.flatMap eI=iJ xs.toArray
 |[]=>rfl
 |x::r=>by
   have:=rM r;unfold iJ at *
   rw[List.toList_toArray]at *
   rw[bm,this];rfl
def sD(xs:List Int):List Int:=xs.mergeSort (λx y=>decide (x<=y))
theorem wy(xs:List Int):(sD xs).length=xs.length:=vC _
theorem DW(hr:aA h lb 0 1=some [v])(hv:SlI h v xs)(hb:lb<h.next)(hl:xs.length<2^34) :
 C prg 84 [.fn 102 [.ptr lb 0]] h λr h'=>IsSl h' 1 h.next r ((sD xs).flatMap eI)/\Ext h.next h h':=by
 have hcol:C prg 101 [.fn 102 [.ptr lb 0]] h λr h'=>IsSl h' 1 h.next r (xs.flatMap eI)/\Ext h.next h h':=by
  refine Ny pf101 ?_;refine ai (aD (Mi0) ?_);refine ai (bS (bE 1 (Mi0) rfl (Zi0) (Mi0) (FR hr hv hb hl) λr h2 hq=>?_));refine bM (M0) ?_;exact bU ⟨r,(by simp only[rs,rf101,am,aI,simprocAttr]<;>rfl),hq⟩
 refine Ny pf84 ?_;refine ai (aD (Mi0) ?_);refine ai (bS (bE 1 (Mi0) rfl (Zi0) (Mi0) (hcol) λr h2 hq=>?_));obtain⟨i1,x1⟩:=hq;refine bM (M0) ?_;rcases i1 with⟨rfl,hz⟩|⟨b,n,hbn,rfl,hg,hln⟩
 .have:xs=[]:=by
   cases xs with
   |nil=>rfl
   |cons x r=>simp[eI]at hz
  subst this;refine ai (bS (bE 1 (M0) rfl (Z0) (M0) (Gh) λv h3 hq=>?_));subst hq;refine bM (M0) ?_;refine ai (aD (M0) ?_);exact bU ⟨.nils,(by simp only[rs,rf84,am,aI,simprocAttr]<;>rfl),.inl ⟨rfl,by simp[sD]⟩,x1⟩
 .have hn:n=xs.length:=by rw[dN (f:=eI) (e:=1) (λ_=>rfl)]at hln;omega
  subst hn;have e1:xs.flatMap eI=iJ xs.toArray:=rM xs;have hg':h2.get b=some (nu (xs.flatMap eI) 0 xs.toArray):=by
   rw[hg];unfold nu;rw[e1];congr 2;exact(sa (by simp) (by rw[bT,cZ])).symm
  have hs:=JH (c:=xs.length) hg' (by rw[jG,hln];omega) (by rw[jG];omega);rw[jG]at hs;refine ai (bS (bE 1 (M0) rfl (Z0) (M0) (hs) λv h3 hq=>?_));refine bM (M0) ?_;refine ai (aD (M0) ?_);refine bU ⟨_,(by simp only[rs,rf84,am,aI,simprocAttr]<;>rfl),.inr ⟨b,xs.length,hbn,rfl,?_,?_⟩,x1.trans ((hq.mono x1.nx).toExt hbn)⟩
  .rw[hq.get];unfold nu;have e2:iJ (sD xs).toArray=(sD xs).flatMap eI:=(rM _).symm;rw[show(xs.toArray.toList.mergeSort λx y=>decide (x<=y))=sD xs from rfl,e2];simp only[dD,eZ,bt,cq];rw[dN (f:=eI) (e:=1) (λ_=>rfl),wy,cL (by rw[hln];omega),bV]
  .rw[dN (f:=eI) (e:=1) (λ_=>rfl),wy]
open Go.Am Go.Sort
open Go.Am
open Go.Am
open Go.Am
open Go.Am
open Go.Am
theorem oK{P:RP}{l l2:List ROper}{s:Option (Tm×AH)}{K:Tm->AH->Prop}{ts:Tm}{d:Option Nat}{f:FuncId}{args:List RO}{g:Option (Nat×Bool)}{nm:Option Nat}{cs:List (Nat×ROp×Option (Nat×Bool))}{vs:List AV}{Q:AV->AH->Prop}(n:Nat)
 (hs:lK b (l.take n) s=some (ts,h)) (hd:l.drop n=⟨d,.call f args,g,nm,cs⟩::l2) (hw:wanted ts g=some true) (ha:args.map (RO.ev ts)=vs) (hc:C P f vs h Q)
 (hk:∀v h',Q v h'->ja (eu ts d v) h' cs=true/\G P b l2 (some (eu ts d v,h')) K):G P b l s K:=by
 subst ha;rw[<-cm n l];refine sI ?_;rw[hs,hd];exact DM hw (hc.mono hk)
open Go.Am
open Go.Am
open Go.Am
open Go.Am
theorem LV{k:Nat}(h:k<2^62):IntKind.i64.wrap (((k:Nat):Int)+1)=((k+1:Nat):Int):=fx om om
open Go.Am
open Go.Am
open Go.Am
def bl(n:Nat)(p:Nat->Bool):List AV:=(List.range n).map λi=>.bool (p i)
def il(n:Nat)(f:Nat->Int):List AV:=(List.range n).map λi=>.int .i64 (f i)
theorem pW(n:Nat)(p:Nat->Bool):(bl n p).length=n:=by simp[bl]
theorem um(n:Nat)(f:Nat->Int):(il n f).length=n:=by simp[il]
theorem nJ(h:i<n):(bl n p)[i]?=some (.bool (p i)):=by
 unfold bl;rw[aG,fL h];rfl
theorem oz(h:i<n):(il n f)[i]?=some (.int .i64 (f i)):=by
 unfold il;rw[aG,fL h];rfl
theorem yw{b:Bool}:(bl n p).set i (.bool b)=bl n λj=>if j=i then b else p j:=by
 refine dI λj=>?_;rw[dB,pW];by_cases hj:j<n
 .rw[nJ hj,nJ hj];by_cases e:i=j
  .subst e;simp[hj]
  .rw[if_neg e,if_neg (λq=>e q.symm)]
 .rw[bX (l:=bl n p) (by rw[pW];omega),bX (by rw[pW];omega)];split
  .rw[if_neg om]
  .rfl
theorem MU{b:Int}:(il n f).set i (.int .i64 b)=il n λj=>if j=i then b else f j:=by
 refine dI λj=>?_;rw[dB,um];by_cases hj:j<n
 .rw[oz hj,oz hj];by_cases e:i=j
  .subst e;simp[hj]
  .rw[if_neg e,if_neg (λq=>e q.symm)]
 .rw[bX (l:=il n f) (by rw[um];omega),bX (by rw[um];omega)];split
  .rw[if_neg om]
  .rfl
theorem yx(n:Nat):dA [AV.bool false] n=bl n λ_=>false:=by
 rw[li];unfold bl;rw[vi,br]
theorem Dh(n:Nat):dA [AV.int .i64 0] n=il n λ_=>0:=by
 rw[li];unfold il;rw[vi,br]
theorem HU{p q:Nat->Int}(h:∀i,i<n->p i=q i):il n p=il n q:=by
 unfold il;exact da λi hi=>by rw[h i (aq.1 hi)]
end Go.Proofs.YtlolkmcdimgplaaGreat
namespace Go.Blk
variable {S:Nat->Prop}{f l':Nat->Nat}{i k u v x:Nat}
structure Gr where
 m:Nat
 n:Nat
 tl:Nat->Nat
 hd:Nat->Nat
 ok:∀i,i<m->tl i<n/\hd i<n/\tl i≠hd i
variable {g:Gr}
def Gr.oth(g:Gr)(i x:Nat):Nat:=g.tl i+g.hd i-x
def Gr.inc(g:Gr)(i x:Nat):Prop:=i<g.m/\(g.tl i=x\/g.hd i=x)
instance (i x:Nat):Decidable (g.inc i x):=by unfold Gr.inc;infer_instance
theorem inc_lt(h:g.inc i x):x<g.n:=by
 obtain⟨h1,h2⟩:=h;have:=g.ok i h1;rcases h2 with rfl|rfl
 .exact this.1
 .exact this.2.1
theorem inc_oth(h:g.inc i x):g.inc i (g.oth i x)/\g.oth i x≠x/\g.oth i (g.oth i x)=x:=by
 obtain⟨h1,h2⟩:=h;have:=g.ok i h1;unfold Gr.inc Gr.oth;rcases h2 with rfl|rfl
 .exact⟨⟨h1,.inr om⟩,om,om⟩
 .exact⟨⟨h1,.inl om⟩,om,om⟩
theorem ga{y:Nat}(hx:g.inc i x)(hy:g.inc i y)(hne:y≠x):y=g.oth i x:=by
 obtain⟨h1,h2⟩:=hx;obtain⟨_,h3⟩:=hy;have:=g.ok i h1;unfold Gr.oth;omega
inductive Conn(g:Gr)(S:Nat->Prop):Nat->Nat->Prop
 |refl {u:Nat}:S u->Conn g S u u
 |step {u v i:Nat}:Conn g S u v->g.inc i v->S (g.oth i v)->Conn g S u (g.oth i v)
theorem Conn.right(h:Conn g S u v):S v:=by
 cases h with
 |refl h=>exact h
 |step _ _ h=>exact h
theorem Conn.trans{w:Nat}(h1:Conn g S u v)(h2:Conn g S v w):Conn g S u w:=by
 induction h2 with
 |refl _=>exact h1
 |step _ a b ih=>exact .step ih a b
theorem Conn.edge(hu:S u)(hi:g.inc i u)(hv:S (g.oth i u)):Conn g S u (g.oth i u):=.step (.refl hu) hi hv
theorem Conn.symm(h:Conn g S u v):Conn g S v u:=by
 induction h with
 |refl h=>exact .refl h
 |@step v i h1 h2 h3 ih =>
   obtain⟨a,b,c⟩:=inc_oth h2;have:=Conn.edge (S:=S) h3 a (by rw[c];exact h1.right);rw[c]at this;exact this.trans ih
theorem Conn.mono{S':Nat->Prop}(h:Conn g S u v)(hs:∀z,S z->S' z):Conn g S' u v:=by
 induction h with
 |refl h=>exact .refl (hs _ h)
 |step _ a b ih=>exact .step ih a (hs _ b)
theorem Conn.stays{T:Nat->Prop}(h:Conn g S u v)(ht:∀u i,T u->g.inc i u->S (g.oth i u)->T (g.oth i u))(hu:T u):T v:=by
 induction h with
 |refl _=>exact hu
 |step _ a b ih=>exact ht _ _ ih a b
def Rel(g:Gr)(i k:Nat):Prop:=∃x,g.inc i x/\g.inc k x/\Conn g (·≠x) (g.oth i x) (g.oth k x)
theorem Rel.symm{i k:Nat}(h:Rel g i k):Rel g k i:=by
 obtain⟨x,a,b,c⟩:=h;exact⟨x,b,a,c.symm⟩
inductive Cls(g:Gr):Nat->Nat->Prop
 |refl {i:Nat}:Cls g i i
 |step {i j k:Nat}:Cls g i j->Rel g j k->Cls g i k
theorem Cls.trans{j:Nat}(h1:Cls g i j)(h2:Cls g j k):Cls g i k:=by
 induction h2 with
 |refl=>exact h1
 |step _ b ih=>exact .step ih b
theorem Cls.one(h:Rel g i k):Cls g i k:=.step .refl h
theorem Cls.symm{i k:Nat}(h:Cls g i k):Cls g k i:=by
 induction h with
 |refl=>exact .refl
 |step _ b ih=>exact(Cls.one b.symm).trans ih
def IsBlock(g:Gr)(b:List Nat):Prop:=b≠[]/\(∀i∈b,∀k∈b,Cls g i k)/\∀i∈b,∀k,Rel g i k->k∈b
theorem IsBlock.cls{b:List Nat}(h:IsBlock g b)(hi:i∈b)(hk:Cls g i k):k∈b:=by
 induction hk with
 |refl=>exact hi
 |step _ r ih=>exact h.2.2 _ ih _ r
structure DS where
 num:Nat->Nat
 low:Nat->Nat
 cnt:Nat
 stk:List Nat
 blk:List (List Nat)
def upd(f:Nat->Nat)(x v:Nat):Nat->Nat:=λz=>if z=x then v else f z
theorem upd_same:upd f x v x=v:=if_pos rfl
theorem upd_ne{z:Nat}(h:z≠x):upd f x v z=f z:=if_neg h
def DS.close(sort:List Nat->List Nat)(s:DS)(i:Nat):DS:={ s with blk:=s.blk++[sort (s.stk.drop (s.stk.idxOf i))],stk:=s.stk.take (s.stk.idxOf i)}
def enter(x:Nat)(s:DS):DS:={ s with cnt:=s.cnt+1,num:=upd s.num x (s.cnt+1),low:=upd s.low x (s.cnt+1)}
def edgeS(g:Gr)(sort:List Nat->List Nat)(vis:Nat->Nat->DS->DS)(x:Nat)(by_:Option Nat)(s:DS)(i:Nat):DS :=
 if by_=some i then s
 else if s.num (g.oth i x)=0 then
  let s2:=vis (g.oth i x) i { s with stk:=s.stk++[i]}
  let s3:DS:={ s2 with low:=upd s2.low x (min (s2.low x) (s2.low (g.oth i x)))}
  if s3.num x<=s3.low (g.oth i x)then s3.close sort i else s3
 else if s.num (g.oth i x)<s.num x then { s with stk:=s.stk++[i],low:=upd s.low x (min (s.low x) (s.num (g.oth i x)))}
 else s
def visit(g:Gr)(ends:Nat->List Nat)(sort:List Nat->List Nat):Nat->Nat->Option Nat->DS->DS
 |0,_,_,s=>s
 |f+1,x,by_,s=>(ends x).foldl (edgeS g sort (λy i s=>visit g ends sort f y (some i) s) x by_) (enter x s)
def unm(g:Gr)(s:DS):Nat:=(List.range g.n).countP λv=>s.num v==0
theorem kI{α:Type}{p q:α->Bool}:∀{l:List α},(∀x∈l,p x=true->q x=true)->l.countP p<=l.countP q
 |[],_=>ab _
 |a::l,h=>by
   have ih:=kI (l:=l) λx hx=>h x (aQ _ hx);rw[dV,dV];have ha:=h a (aM ..);cases hp:p a with
   |true=>rw[ha hp];simp;exact ih
   |false=>cases q a<;>simp<;>omega
theorem qJ{α:Type}{p q:α->Bool}:∀{l:List α}{a:α},(∀x∈l,p x=true->q x=true)->a∈l->p a=false->q a=true->l.countP p<l.countP q
 |[],a,_,hm,_,_=>by cases hm
 |b::l,a,h,hm,hp,hq=>by
   rw[dV,dV];rcases ao.1 hm with rfl|hm
   .have:=kI (l:=l) λx hx=>h x (aQ _ hx);rw[hp,hq];simp;omega
   .have ih:=qJ (l:=l) (λx hx=>h x (aQ _ hx)) hm hp hq;have hb:=h b (aM ..);cases hp':p b with
    |true=>rw[hb hp'];simp;omega
    |false=>cases q b<;>simp<;>omega
variable {s s':DS}
theorem Mm(h:∀v,s.num v≠0->s'.num v≠0):unm g s'<=unm g s:=by
 refine kI λv _ hv=>?_;have hv:s'.num v=0:=by simpa using hv
 have:s.num v=0:=Decidable.byContradiction λhc=>h v hc hv;simp[this]
theorem AS(h:∀v,s.num v≠0->s'.num v≠0)(hx:x<g.n)(h0:s.num x=0)(h1:s'.num x≠0):unm g s'<unm g s:=by
 refine qJ (a:=x) (λv _ hv=>?_) (aq.2 hx) (by simpa using h1) (by simpa using h0);have hv:s'.num v=0:=by simpa using hv
 have:s.num v=0:=Decidable.byContradiction λhc=>h v hc hv;simp[this]
variable {g:Gr}
structure Lst(g:Gr)(l:Nat->Nat):Prop where
 cls:∀i,i<g.m->Cls g i (l i)
 le:∀i,i<g.m->l i<=i
 same:∀i k,i<g.m->k<g.m->Rel g i k->l i=l k
theorem BU(h:Cls g i k)(hi:i<g.m):k<g.m:=by
 induction h with
 |refl=>exact hi
 |step _ r _=>obtain⟨x,_,b,_⟩:=r;exact b.1
theorem Lst.eqc{l:Nat->Nat}(h:Lst g l)(hi:i<g.m)(hc:Cls g i k):l i=l k:=by
 induction hc with
 |refl=>rfl
 |step a r ih=>exact ih.trans (h.same _ _ (BU a hi) (by obtain⟨x,_,b,_⟩:=r;exact b.1) r)
theorem Lst.uniq{l:Nat->Nat}(h:Lst g l)(h':Lst g l')(hi:i<g.m):l i=l' i:=by
 have a:l i<=l' i:=by
  rw[h.eqc hi (h'.cls i hi)];exact h.le _ (BU (h'.cls i hi) hi)
 have b:l' i<=l i:=by
  rw[h'.eqc hi (h.cls i hi)];exact h'.le _ (BU (h.cls i hi) hi)
 omega
theorem Lst.iff{l:Nat->Nat}(h:Lst g l)(hi:i<g.m)(hk:k<g.m):l i=l k↔Cls g i k:=by
 refine⟨λe=>?_,h.eqc hi⟩;have:=(h.cls k hk).symm;rw[<-e]at this;exact(h.cls i hi).trans this
def canon(m:Nat)(l:Nat->Nat):List (List Nat):=((List.range m).filter λi=>l i==i).map λi=>(List.range m).filter λk=>l k==i
theorem canon_congr{m:Nat}{l:Nat->Nat}(h:∀i,i<m->l i=l' i):canon m l=canon m l':=by
 unfold canon;have e1:((List.range m).filter λi=>l i==i)=(List.range m).filter λi=>l' i==i:=hU λi hi=>by rw[h i (aq.1 hi)]
 rw[e1];refine da λi _=>?_;exact hU λk hk=>by rw[h k (aq.1 hk)]
end Go.Blk
namespace Go.Proofs.YtlolkmcdimgplaaGreat
open Go.Am
def gW(n:Nat)(ev:AV):List AV:=[.int .i64 (n:Nat),ev]
def tlE(E:List (Int×Int))(i:Nat):Nat:=((E.getD i (0,0)).1).toNat
def hdE(E:List (Int×Int))(i:Nat):Nat:=((E.getD i (0,0)).2).toNat
def InG(n:Nat)(E:List (Int×Int)):Prop:=∀i (hi:i<E.length),E[i]=(((tlE E i:Nat):Int),((hdE E i:Nat):Int))/\tlE E i<n/\hdE E i<n
end Go.Proofs.YtlolkmcdimgplaaGreat
namespace Go.Pla
open Go.Blk
def par{α:Type}:List α->(α->Bool)->Bool
 |[],_=>false
 |e::l,p=>p e^^par l p
theorem bD{α:Type}:∀{l:List α}{p q:α->Bool},(∀e∈l,p e=q e)->par l p=par l q
 |[],_,_,_=>rfl
 |e::l,p,q,h=>by
   simp only[par];rw[h e (by simp),bD (l:=l) λk hk=>h k (by simp[hk])]
theorem ew{α:Type}{p q:α->Bool}:∀{l:List α},par l (λe=>p e^^q e)=(par l p^^par l q)
 |[]=>rfl
 |e::l=>by
   simp only[par];rw[ew (l:=l)];cases p e<;>cases q e<;>cases par l p<;>cases par l q<;>rfl
theorem eH{α:Type}{p:α->Bool}:∀{l:List α},(∀e∈l,p e=false)->par l p=false
 |[],_=>rfl
 |e::l,h=>by simp only[par];rw[h e (by simp),eH λk hk=>h k (by simp[hk])];rfl
theorem iu{α:Type}{c:Bool}{p:α->Bool}:∀{l:List α},par l (λe=>c&&p e)=(c&&par l p)
 |[]=>by cases c<;>rfl
 |e::l=>by
   simp only[par];rw[iu (l:=l)];cases c<;>cases p e<;>cases par l p<;>rfl
theorem sW{α:Type}{p:α->Bool}:∀{l m:List α},par (l++m) p=(par l p^^par m p)
 |[],m=>by simp[par]
 |e::l,m=>by
   simp only[aH,par];rw[sW (l:=l)];cases p e<;>cases par l p<;>cases par m p<;>rfl
theorem GX{α:Type}{p:α->Bool}{l m:List α}(h:l.Perm m):par l p=par m p:=by
 induction h with
 |nil=>rfl
 |cons x _ ih=>simp only[par];rw[ih]
 |swap x y l=>simp only[par];cases p x<;>cases p y<;>cases par l p<;>rfl
 |trans _ _ h1 h2=>rw[h1,h2]
theorem jV{α β:Type}{p:α->β->Bool}{m:List β}:∀{l:List α},par l (λe=>par m (λf=>p e f))=par m (λf=>par l (λe=>p e f))
 |[]=>by simp only[par];exact(eH λ_ _=>rfl).symm
 |e::l=>by
   simp only[par];rw[jV (l:=l),<-ew]
theorem dG{k:Nat}{p:Nat->Bool}:∀{l:List Nat},l.Nodup->k∈l->par l (λe=>(e==k)&&p e)=p k
 |[],_,h=>by simp at h
 |e::l,nd,h=>by
   simp only[par];rw[aY]at nd;by_cases he:e=k
   .subst he;rw[eH (l:=l) λj hj=>by
     have:j≠e:=λx=>nd.1 (x▸hj);simp[this]]
    simp
   .rw[dG (l:=l) nd.2 (by simpa[Ne.symm he]using h)];have:(e==k)=false:=by simp[he]
    rw[this];cases p k<;>rfl
theorem GY{k:Nat}{p:Nat->Bool}{l:List Nat}(h:k∉l):par l (λe=>(e==k)&&p e)=false :=
 eH λe he=>by
  have:e≠k:=λx=>h (x▸he);simp[this]
variable {g:Gr}{B:List Nat}{Φ:Type}
def at_(g:Gr)(e v:Nat):Bool:=(g.tl e==v)^^(g.hd e==v)
def Even(g:Gr)(B:List Nat)(X:Nat->Bool):Prop:=∀v,par B (λe=>X e&&at_ g e v)=false
theorem Even.congr{X Y:Nat->Bool}(h:Even g B X)(hx:∀e∈B,X e=Y e):Even g B Y:=λv=>by
 rw[<-h v];exact bD λe he=>by rw[hx e he]
theorem Even.xor{X Y:Nat->Bool}(h:Even g B X)(h':Even g B Y):Even g B (λe=>X e^^Y e):=λv=>by
 rw[bD (q:=λe=>(X e&&at_ g e v)^^(Y e&&at_ g e v)) (λe _=>by dsimp only;cases X e<;>cases Y e<;>cases at_ g e v<;>rfl),ew,h v,h' v];rfl
theorem ye:Even g B (λ_=>false):=λ_=>eH λ_ _=>rfl
theorem Even.sum{α:Type}{X:α->Nat->Bool}:∀{l:List α},(∀f∈l,Even g B (X f))->Even g B (λe=>par l (λf=>X f e))
 |[],_=>ye
 |f::l,h=>(h f (by simp)).xor (Even.sum (l:=l) λk hk=>h k (by simp[hk]))
structure Dual(g:Gr)(B:List Nat)(l r:Nat->Φ):Prop where
 two:∀S:Φ->Bool,Even g B (λe=>S (l e)^^S (r e))
 one:∀X,Even g B X->∃S:Φ->Bool,∀e∈B,X e=(S (l e)^^S (r e))
def Bond(g:Gr)(B:List Nat):Prop:=∀v e k,e∈B->k∈B->at_ g e v=true->at_ g k v=true->e≠k->∃Z,Even g B Z/\∀j∈B,at_ g j v=true->Z j=((j==e)||(j==k))
def Link(g:Gr)(B:List Nat):Prop:=∀P:Nat->Bool,(∀v e k,e∈B->k∈B->at_ g e v=true->at_ g k v=true->P e=P k)->∀e∈B,∀k∈B,P e=P k
theorem qL(nd:B.Nodup)(hb:Bond g B){Y:Nat->Bool}{v:Nat}(h:∀X,Even g B X->par B (λe=>X e&&(Y e&&at_ g e v))=false){e k:Nat}(he:e∈B)(hk:k∈B)(hev:at_ g e v=true)(hkv:at_ g k v=true):Y e=Y k:=by
 by_cases hne:e=k
 .rw[hne]
 obtain⟨Z,hZ,hz⟩:=hb v e k he hk hev hkv hne;have h1:=h Z hZ;rw[bD (q:=λj=>((j==e)&&Y j)^^((j==k)&&Y j)) (λj hj=>by
  by_cases hjv:at_ g j v=true
  .rw[hz j hj hjv,hjv];by_cases h1:j=e
   .subst h1;have:(j==k)=false:=by simp[hne]
    simp[this]
   .have:(j==e)=false:=by simp[h1]
    simp[this]
  .have a:j≠e:=λx=>hjv (x▸hev);have b:j≠k:=λx=>hjv (x▸hkv);have a':(j==e)=false:=by simp[a]
   have b':(j==k)=false:=by simp[b]
   have c:at_ g j v=false:=by simpa using hjv
   rw[a',b',c];cases Z j<;>cases Y j<;>rfl),ew,dG nd he,dG nd hk]at h1
 cases hy:Y e<;>cases hy':Y k<;>simp[hy,hy']at h1 |-
variable {l r:Nat->Φ}
theorem Dual.conn(nd:B.Nodup)(d:Dual g B l r)(hb:Bond g B)(hl:Link g B){T:Φ->Bool}(h:∀e∈B,T (l e)=T (r e)){e k:Nat}(he:e∈B)(hk:k∈B):T (l e)=T (l k):=by
 refine hl (λj=>T (l j)) (λv e k he hk hev hkv=>qL nd hb (Y:=λj=>T (l j)) (λX hX=>?_) he hk hev hkv) e he k hk;obtain⟨S,hS⟩:=d.one X hX;have h1:=d.two (λa=>S a&&T a) v;rw[<-h1];refine bD λj hj=>?_;dsimp only;rw[hS j hj,<-h j hj];cases S (l j)<;>cases S (r j)<;>cases T (l j)<;>cases at_ g j v<;>rfl
def Circ(g:Gr)(B:List Nat)(Z:Nat->Bool):Prop:=Even g B Z/\∀Y,Even g B Y->(∀e∈B,Y e=true->Z e=true)->(∀e∈B,Y e=false)\/(∀e∈B,Y e=Z e)
structure Ext(g:Gr)(B:List Nat)(l r:Nat->Φ)(H:Nat->Bool)(nf:Nat)(Z:Nat->Nat->Bool)(pf:Φ->Nat):Prop where
 side:∀f,f<nf->∀e∈B,Z f e=((pf (l e)==f)^^(pf (r e)==f))
 lt:∀e∈B,pf (l e)<nf/\pf (r e)<nf
 lay:∀e∈B,H e=(pf (l e) != pf (r e))
variable {H:Nat->Bool}{nf:Nat}{Z:Nat->Nat->Bool}{pf:Φ->Nat}
theorem Ext.step(nd:B.Nodup)(d:Dual g B l r)(hb:Bond g B)(hl:Link g B)(x:Ext g B l r H nf Z pf){f:Nat}(hf:f<nf)(hc:Circ g B (Z f)){e0:Nat}(h0:e0∈B)(hz0:Z f e0=true){w Z1 Z2:Nat->Bool}
 (hw:∀e∈B,w e=true->pf (l e)=f/\pf (r e)=f) (he1:Even g B Z1) (h1:∀e∈B,Z1 e=true->Z f e=true\/w e=true) (h1w:∀e∈B,w e=true->Z1 e=true)
 (h2:∀e∈B,(Z1 e^^Z2 e)=Z f e):∃pf':Φ->Nat,Ext g B l r (λe=>H e||w e) (nf+1) (λk e=>if k=f then Z1 e else if k=nf then Z2 e else Z k e) pf'/\(∀a,pf a≠f->pf' a=pf a)/\(∀a,pf a=f->pf' a=f\/pf' a=nf):=by
 obtain⟨S,hS⟩:=d.one Z1 he1;have hT:=d.two (λa=>S a&&!(pf a==f));have sub:∀e∈B,((S (l e)&&!(pf (l e)==f))^^(S (r e)&&!(pf (r e)==f)))=true->Z f e=true:=by
  intro e he h;rw[x.side f hf e he];have hs:=hS e he;have hwe:=hw e he;have h1e:=h1 e he;rw[x.side f hf e he]at h1e;by_cases a:pf (l e)=f<;>by_cases b:pf (r e)=f
  .simp[a,b]at h
  .simp[a,b]
  .simp[a,b]
  .simp only[a,b,beq_eq_false_iff_ne.2 a,beq_eq_false_iff_ne.2 b,cr,fW,cX]at h h1e |-;rw[h]at hs;rcases h1e hs with q|q
   .exact q
   .exact absurd (hwe q).1 a
 have key:∃S':Φ->Bool,(∀e∈B,Z1 e=(S' (l e)^^S' (r e)))/\(∀e∈B,(S' (l e)=true->pf (l e)=f)/\(S' (r e)=true->pf (r e)=f)):=by
  have hz0':=x.side f hf e0 h0;rw[hz0]at hz0';rcases hc.2 _ hT sub with hn|ha
  .refine⟨S,hS,?_⟩;have hcon:∀e∈B,(S (l e)&&!(pf (l e)==f))=false/\(S (r e)&&!(pf (r e)==f))=false:=by
    have hq:∀e∈B,(S (l e)&&!(pf (l e)==f))=(S (r e)&&!(pf (r e)==f)):=λe he=>by
     have:=hn e he;revert this;cases (S (l e)&&!(pf (l e)==f))<;>cases (S (r e)&&!(pf (r e)==f))<;>simp
    have h00:(S (l e0)&&!(pf (l e0)==f))=false:=by
     by_cases a:pf (l e0)=f
     .simp[a]
     .have b:pf (r e0)=f:=by
       by_cases b:pf (r e0)=f
       .exact b
       .rw[beq_eq_false_iff_ne.2 a,beq_eq_false_iff_ne.2 b]at hz0';cases hz0'
      rw[hq e0 h0];simp[b]
    intro e he;have h3:=d.conn nd hb hl (T:=λa=>S a&&!(pf a==f)) hq he h0;exact⟨by rw[h3,h00],by rw[<-hq e he,h3,h00]⟩
   intro e he;obtain⟨a,b⟩:=hcon e he;constructor
   .intro h;rw[h]at a;simpa using a
   .intro h;rw[h]at b;simpa using b
  .refine⟨λa=>!(S a),λe he=>?_,?_⟩
   .rw[hS e he];dsimp only;cases S (l e)<;>cases S (r e)<;>rfl
   have hq:∀e∈B,((S (l e)&&!(pf (l e)==f))^^!(pf (l e)==f))=((S (r e)&&!(pf (r e)==f))^^!(pf (r e)==f)):=λe he=>by
    have:=ha e he;rw[x.side f hf e he]at this;revert this;cases S (l e)<;>cases S (r e)<;>cases pf (l e)==f<;>cases pf (r e)==f<;>simp
   have h00:((S (l e0)&&!(pf (l e0)==f))^^!(pf (l e0)==f))=false:=by
    by_cases a:pf (l e0)=f
    .simp[a]
    .have b:pf (r e0)=f:=by
      by_cases b:pf (r e0)=f
      .exact b
      .rw[beq_eq_false_iff_ne.2 a,beq_eq_false_iff_ne.2 b]at hz0';cases hz0'
     rw[hq e0 h0];simp[b]
   intro e he;have h3:=d.conn nd hb hl (T:=λa=>(S a&&!(pf a==f))^^!(pf a==f)) hq he h0;have a:((S (l e)&&!(pf (l e)==f))^^!(pf (l e)==f))=false:=by rw[h3,h00]
   have b:((S (r e)&&!(pf (r e)==f))^^!(pf (r e)==f))=false:=by rw[<-hq e he,h3,h00]
   constructor
   .intro h;by_cases q:pf (l e)=f
    .exact q
    .have:S (l e)=false:=by simpa using h
     simp[q,this]at a
   .intro h;by_cases q:pf (r e)=f
    .exact q
    .have:S (r e)=false:=by simpa using h
     simp[q,this]at b
 obtain⟨S',hS',hin⟩:=key;refine⟨λa=>if pf a=f then(if S' a=true then f else nf)else pf a,⟨?_,?_,?_⟩,λa h=>by simp[h],λa h=>by simp only[h,if_true];split<;>simp⟩
 .intro k hk e he;have hlt:=x.lt e he;have hse:=hS' e he;have hie:=hin e he;have h2e:=h2 e he;have hside:=x.side f hf e he;by_cases hkf:k=f
  .subst hkf;simp only[if_true];rw[hse];have q1:((if pf (l e)=k then(if S' (l e)=true then k else nf)else pf (l e))==k)=S' (l e):=by
    by_cases a:pf (l e)=k
    .cases hs:S' (l e)
     .simp[a];omega
     .simp[a]
    .have:S' (l e)=false:=by
      cases hs:S' (l e)
      .rfl
      .exact absurd (hie.1 hs) a
     simp[a,this]
   have q2:((if pf (r e)=k then(if S' (r e)=true then k else nf)else pf (r e))==k)=S' (r e):=by
    by_cases a:pf (r e)=k
    .cases hs:S' (r e)
     .simp[a];omega
     .simp[a]
    .have:S' (r e)=false:=by
      cases hs:S' (r e)
      .rfl
      .exact absurd (hie.2 hs) a
     simp[a,this]
   rw[q1,q2]
  .by_cases hkn:k=nf
   .subst hkn;simp only[hkf,if_false,if_true];have q1:((if pf (l e)=f then(if S' (l e)=true then f else k)else pf (l e))==k)=((pf (l e)==f)^^S' (l e)):=by
     by_cases a:pf (l e)=f
     .cases hs:S' (l e)
      .simp[a]
      .simp[a];omega
     .have:S' (l e)=false:=by
       cases hs:S' (l e)
       .rfl
       .exact absurd (hie.1 hs) a
      rw[this,if_neg a,beq_eq_false_iff_ne.2 a];simp;omega
    have q2:((if pf (r e)=f then(if S' (r e)=true then f else k)else pf (r e))==k)=((pf (r e)==f)^^S' (r e)):=by
     by_cases a:pf (r e)=f
     .cases hs:S' (r e)
      .simp[a]
      .simp[a];omega
     .have:S' (r e)=false:=by
       cases hs:S' (r e)
       .rfl
       .exact absurd (hie.2 hs) a
      rw[this,if_neg a,beq_eq_false_iff_ne.2 a];simp;omega
    rw[q1,q2];rw[hside,hse]at h2e;revert h2e;cases Z2 e<;>cases S' (l e)<;>cases S' (r e)<;>cases pf (l e)==f<;>cases pf (r e)==f<;>simp
   .have hk':k<nf:=om;simp only[hkf,hkn,if_false];rw[x.side k hk' e he];have q:∀a,((if pf a=f then(if S' a=true then f else nf)else pf a)==k)=(pf a==k):=λa=>by
     by_cases b:pf a=f
     .have:(pf a==k)=false:=by rw[b];simp;omega
      rw[this];simp only[b,if_true];split<;>simp<;>omega
     .simp[b]
    rw[q,q]
 .intro e he;have hlt:=x.lt e he;constructor<;>(split<;>(try split)<;>omega)
 .intro e he;have hlt:=x.lt e he;have hse:=hS' e he;have hie:=hin e he;have hH:=x.lay e he;have hwe:=hw e he;have h1e:=h1 e he;have h1we:=h1w e he;rw[hH];by_cases a:pf (l e)=f<;>by_cases b:pf (r e)=f
  .have hz:Z f e=false:=by rw[x.side f hf e he];simp[a,b]
   have:w e=Z1 e:=by
    cases hw1:w e
    .cases hz1:Z1 e
     .rfl
     .rcases h1e hz1 with q|q
      .rw[hz]at q;simp at q
      .rw[hw1]at q;simp at q
    .exact(h1we hw1).symm
   rw[this,hse];simp only[a,b,if_true];cases S' (l e)<;>cases S' (r e)<;>simp<;>omega
  .have hw0:w e=false:=by
    cases hw1:w e
    .rfl
    .exact absurd (hwe hw1).2 b
   rw[hw0,if_pos a,if_neg b,a,jl];have b':=Ne.symm b;split
   .rfl
   .rw[bne_iff_ne.2 b',bne_iff_ne.2 (show nf≠pf (r e) by omega)]
  .have hw0:w e=false:=by
    cases hw1:w e
    .rfl
    .exact absurd (hwe hw1).1 a
   rw[hw0,if_neg a,if_pos b,b,jl];split
   .rfl
   .rw[bne_iff_ne.2 a,bne_iff_ne.2 (show pf (l e)≠nf by omega)]
  .have hw0:w e=false:=by
    cases hw1:w e
    .rfl
    .exact absurd (hwe hw1).1 a
   simp[a,b,hw0]
end Go.Pla
