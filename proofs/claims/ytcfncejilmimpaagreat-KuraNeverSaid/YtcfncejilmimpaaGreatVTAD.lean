/- graph.May. -/
import Derived.Test.YtcfncejilmimpaaGreatVTAC
set_option linter.all false
namespace Go.Proofs.YtcfncejilmimpaaGreat
open Go.Am
variable {b c i lb lo n o:Nat}{d:Array Int}{es:List (Int×Int)}{ev v:AV}{f:Nat->Int}{h:AH}{p:Nat->Bool}{vs:List AV}{xs:List Int}{xss:List (List Int)}
def okE(v:Int)(e:Int×Int):Bool:=decide (0<=e.1)&&decide (0<=e.2)&&decide (e.1<v)&&decide (e.2<v)
def jC(v:Int)(es:List (Int×Int)):Bool:=decide (1<=v)&&decide (v<=64)&&decide (es.length<=128)&&es.all (okE v)
def zn(v x:Int):Bool:=decide (x<0)||decide (v<=x)
theorem zR{x n:Int}(hr:ar h b 0 1=some [.int .i64 n]):C prg 49 [.int .i64 x,.ptr b 0] h λr h'=>r=.bool (zn n x)/\h'=h:=by
 refine Oj pf49 ?_;refine ai (aE (Mi0) ?_);by_cases q:x<0
 .have c1:decide (x<0)=true:=aP q;refine ai (aE (Mi1 c1) ?_);exact bP ⟨.bool true,(by simp only[rs,rf49,am,aJ,simprocAttr,c1]<;>rfl),by simp[zn,q],rfl⟩
 .have c1:decide (x<0)=false:=aL q;refine ai (aE (Mi2 c1 hr) ?_);exact bP ⟨.bool (decide (n<=x)),(by simp only[rs,rf49,am,aJ,simprocAttr,c1]<;>rfl),by simp[zn,q],rfl⟩
theorem It{s:Nat}{x:Int×Int}{n:Int}(hr:ar h b 0 1=some [.int .i64 n])(hs:ar h s 0 1=some [.fn 49 [.ptr b 0]])(hb:b<h.next)(hsn:s<h.next) :
 C prg 50 ([.agg (eE x)]++[.ptr s 0]) h λr h'=>r=.bool (!okE n x)/\Ext h.next h h':=by
 refine Oj pf50 ?_;have fin:(!okE n x)=(zn n x.1||zn n x.2):=by
  obtain⟨x1,x2⟩:=x;simp only[okE,zn];by_cases a1:x1<0<;>by_cases a2:x2<0<;>by_cases a3:n<=x1<;>by_cases a4:n<=x2<;>simp[a1,a2,a3,a4]<;>omega
 rw[fin];refine ai (aE (by simp only[am,aJ,simprocAttr,bL,eE]<;>rfl) ?_);have ex:Ext h.next h (h.new (.cells [.int .i64 x.1,.int .i64 x.2] 2 false)):=Og (ab _);have g:(h.new (.cells [.int .i64 x.1,.int .i64 x.2] 2 false)).get h.next=some (.cells [.int .i64 x.1,.int .i64 x.2] 2 false):=by rw[AH.get_new,if_pos rfl]
 generalize h.new (.cells [.int .i64 x.1,.int .i64 x.2] 2 false)=h1 at *
 have r1:ar h1 h.next 0 1=some [.int .i64 x.1]:=by rw[bC g];rfl
 have r2:ar h1 h.next 1 1=some [.int .i64 x.2]:=by rw[bC g];rfl
 have hr1:ar h1 b 0 1=some [.int .i64 n]:=by rw[<-hr];exact cN (ex.gt b hb)
 have hs1:ar h1 s 0 1=some [.fn 49 [.ptr b 0]]:=by rw[<-hs];exact cN (ex.gt s hsn)
 refine ai (cJ (mD 3 (by simp only[am,aJ,simprocAttr,bL,eE,hs1,r1]<;>rfl) rfl (by simp only[am,aJ,simprocAttr,bL,eE,hs1,r1]) (by simp only[am,aJ,simprocAttr,bL,eE,hs1,r1]<;>rfl) (by simp only[am,aJ,simprocAttr,bL,eE,hs1,r1]<;>rfl) (zR (x:=x.1) hr1) λr h2 hq=>?_));obtain⟨rfl,rfl⟩:=hq;cases q:zn n x.1 with
 |true =>
   refine G.nocallv 4 (M0) rfl (Z0) ?_;refine bU (M0) ?_;exact bP ⟨.bool true,(by simp only[rs,rf50,am,aJ,simprocAttr]<;>rfl),rfl,ex⟩
 |false =>
   refine mD 4 (by simp only[am,aJ,simprocAttr,bL,eE,hs1,r2]<;>rfl) rfl (by simp only[am,aJ,simprocAttr,bL,eE,hs1,r2]) (by simp only[am,aJ,simprocAttr,bL,eE,hs1,r2]<;>rfl) (by simp only[am,aJ,simprocAttr,bL,eE,hs1,r2]<;>rfl) (zR (x:=x.2) hr1) λr h3 hq=>?_;obtain⟨rfl,rfl⟩:=hq;refine bU (M0) ?_;exact bP ⟨.bool (zn n x.2),(by simp only[rs,rf50,am,aJ,simprocAttr]<;>rfl),rfl,ex⟩
theorem Dc{n:Int}(he:SlE h ev es)(hl:es.length<2^40):C prg 26 [.agg [.int .i64 n,ev]] h λr h'=>r=.bool (jC n es)/\Ext h.next h h':=by
 refine Oj pf26 ?_;obtain⟨ec,eo⟩:=he.cells;have hlen:=he.len;rw[ah]at hlen;refine ai (aE (Mi0) ?_);have ex0:Ext h.next h (h.new (.cells [.int .i64 n,ev] 2 false)):=Og (ab _);have g0:(h.new (.cells [.int .i64 n,ev] 2 false)).get h.next=some (.cells [.int .i64 n,ev] 2 false):=by rw[AH.get_new,if_pos rfl]
 have n0:(h.new (.cells [.int .i64 n,ev] 2 false)).next=h.next+1:=rfl;generalize h.new (.cells [.int .i64 n,ev] 2 false)=h0 at *
 have gN:(h0.new (.cells [.nilf] 1 false)).get h0.next=some (.cells [.nilf] 1 false):=by rw[AH.get_new,if_pos rfl]
 have w1:bV (h0.new (.cells [.nilf] 1 false)) h0.next 0 [.fn 49 [.ptr h.next 0]]=some ((h0.new (.cells [.nilf] 1 false)).put h0.next (.cells [.fn 49 [.ptr h.next 0]] 1 false)):=by rw[fI gN];rfl
 have u1:Upd (h0.new (.cells [.nilf] 1 false)) ((h0.new (.cells [.nilf] 1 false)).put h0.next (.cells [.fn 49 [.ptr h.next 0]] 1 false)) h0.next (.cells [.fn 49 [.ptr h.next 0]] 1 false):=Oi gN;refine ai (aE (Mi1 w1) ?_);have ex1:Ext h0.next h0 ((h0.new (.cells [.nilf] 1 false)).put h0.next (.cells [.fn 49 [.ptr h.next 0]] 1 false)):=(Og (ab _)).trans (u1.ext (ab _));have n1:((h0.new (.cells [.nilf] 1 false)).put h0.next (.cells [.fn 49 [.ptr h.next 0]] 1 false)).next=h0.next+1:=rfl;have g1:=u1.get;generalize (h0.new (.cells [.nilf] 1 false)).put h0.next (.cells [.fn 49 [.ptr h.next 0]] 1 false)=h1 at *
 clear gN w1 u1;have g0':h1.get h.next=some (.cells [.int .i64 n,ev] 2 false):=by rw[ex1.gt _ om];exact g0
 have r1:ar h1 h.next 0 1=some [.int .i64 n]:=by rw[bC g0'];rfl
 have r2:ar h1 h.next 1 1=some [ev]:=by rw[bC g0'];rfl
 have r3:ar h1 h0.next 0 1=some [.fn 49 [.ptr h.next 0]]:=by rw[bC g1];rfl
 have ex:Ext h.next h h1:=ex0.trans (ex1.mono om);have he1:=he.ext ex (ab _);by_cases q1:0<n
 case neg =>
  have c1:decide (0<n)=false:=aL q1;refine ai (cJ (ly 18 (Mi2 r1 c1) rfl (Z1 c1) ?_));refine bU (M0) ?_;exact bP ⟨.bool false,(by simp only[rs,rf26,am,aJ,simprocAttr]<;>rfl),by simp[jC];omega,ex⟩
 have c1:decide (0<n)=true:=aP q1;by_cases q2:n<=64
 case neg =>
  have c2:decide (n<=64)=false:=aL q2;refine ai (cJ (ly 18 (Mi3 r1 c1 c2) rfl (Z0) ?_));refine bU (M0) ?_;exact bP ⟨.bool false,(by simp only[rs,rf26,am,aJ,simprocAttr]<;>rfl),by simp[jC,q2],ex⟩
 have c2:decide (n<=64)=true:=aP q2;by_cases q3:es.length<=128
 case neg =>
  have c3:decide (((es.length:Nat):Int)<=128)=false:=aL om;refine ai (cJ (ly 18 (Mi6 r1 r2 hlen c1 c2 c3) rfl (Z0) ?_));refine bU (M0) ?_;exact bP ⟨.bool false,(by simp only[rs,rf26,am,aJ,simprocAttr]<;>rfl),by simp[jC,q3],ex⟩
 have c3:decide (((es.length:Nat):Int)<=128)=true:=aP om
 have hcf:∀x∈es,∀h',Ext h1.next h1 h'->C prg 50 ([.agg (eE x)]++[.ptr h0.next 0]) h' λr h''=>r=.bool (!okE n x)/\Ext h'.next h' h'':=λx _ h' hx =>
  It (by rw[<-r1];exact cN (hx.gt _ om)) (by rw[<-r3];exact cN (hx.gt _ om)) (by have:=hx.nx;omega) (by have:=hx.nx;omega)
 refine ai (cJ (bK 18 (Mi6 r1 r2 hlen c1 c2 c3) rfl (Zi6 r1 r2 hlen c1 c2 c3) (Mi6 r1 r2 hlen c1 c2 c3) (wS he1 hl hcf) λr h2 hq=>?_));obtain⟨rfl,ex2⟩:=hq;refine bU (M0) ?_;refine bP ⟨_,(by simp only[rs,rf26,am,aJ,simprocAttr]<;>rfl),?_,ex.trans (ex2.mono ex.nx)⟩;have c4:decide (1<=n)=true:=aP om;have c5:(!es.any λx=>!okE n x)=es.all (okE n):=by
  rw[List.not_any_eq_all_not];simp
 simp only[jC,c4,c2,q3,decide_true,kH,c5]
open Go.Am
def Rw(h:AH)(lo:Nat)(vs:List AV)(xss:List (List Int)):Prop :=
 vs.length=xss.length/\(∀(i:Nat) (v:AV) (xs:List Int),vs[i]?=some v->xss[i]?=some xs->IsSl h 1 lo v (xs.flatMap eI))/\∀(i j b n b' n':Nat),i≠j->vs[i]?=some (AV.sl b 0 n n)->vs[j]?=some (AV.sl b' 0 n' n')->b≠b'
theorem Rw.cong{h h':AH}{lo:Nat}{vs:List AV}{xss:List (List Int)}(hr:Rw h lo vs xss)(hk:∀c,lo<=c->c<h.next->h'.get c=h.get c):Rw h' lo vs xss :=
 ⟨hr.1,λi v xs h1 h2=>(hr.2.1 i v xs h1 h2).cong λb n e hb=>hk b hb ((hr.2.1 i v xs h1 h2).lt e),hr.2.2⟩
theorem Rw.lt(hr:Rw h lo vs xss){j:Nat}(hj:vs[j]?=some (AV.sl b 0 n n)):b<h.next/\lo<=b:=by
 have hjl:j<vs.length:=(aM.1 hj).1;have:=hr.2.1 j _ (xss[j]'(by rw[<-hr.1];exact hjl)) hj (ae _);rcases this with⟨q,_⟩|⟨b',n',q1,q2,q3,_⟩
 .cases q
 .cases q2;exact⟨AH.lt_of_get q3,q1⟩
theorem Rw.push(hr:Rw h lo vs xss){x:Nat}{k:Int}(hi:xss[i]?=some xs)(hlo:lo<=h.next)(hx:h.get x=some (.cells [.int .i64 k] 1 false))(hxl:lo<=x)(hxn:∀(j b n:Nat),vs[j]?=some (AV.sl b 0 n n)->b≠x)(hl:xs.length<2^30) :
 ∃v v' h',vs[i]?=some v/\gI h 1 8 v (.sl x 0 1 1)=some (v',h')/\v'.cells=[v']/\v'.one=true/\Rw h' lo (vs.set i v') (xss.set i (xs++[k]))/\Ext lo h h'/\h'.next=h.next+1/\∀c,c<h.next->(∀(j b n:Nat),vs[j]?=some (AV.sl b 0 n n)->b≠c)->h'.get c=h.get c/\∀(j b n:Nat),(vs.set i v')[j]?=some (AV.sl b 0 n n)->b≠c:=by
 obtain⟨r1,r2,r3⟩:=hr;have hil:i<xss.length:=(aM.1 hi).1;have hv:vs[i]?=some vs[i]:=ae om;have hlen:(xs.flatMap eI).length=xs.length:=by rw[fJ (f:=eI) (e:=1) (λ_=>rfl)];omega
 obtain⟨v',h',a1,a2,a3,a4,a5,a6,a7⟩:=(r2 i _ xs hv hi).app (bytes:=8) hlo om hx hxl (λb n e=>hxn i b n (by rw[hv,e])) rfl rfl (by rw[hlen];unfold bd;omega) (by rw[hlen];unfold bd;omega);obtain⟨c1,c2⟩:=a2.cells;refine⟨_,v',h',hv,a1,c1,c2,⟨by rw[cB,cB,r1],?_,?_⟩,a3,a5,λc hc hne=>⟨a6 c hc λb n e=>(hne i b n (by rw[hv,e])).symm,λj b n hj=>?_⟩⟩
 rotate_right
 .by_cases e:i=j
  .subst e;rw[cU om,aa,a4]at hj;cases hj;omega
  .rw[cM e]at hj;exact hne j b n hj
 .intro j w ys hw hy;by_cases e:i=j
  .subst e;rw[cU om,aa]at hw hy;subst hw hy;rw[da];exact a2
  .rw[cM e]at hw hy;refine(r2 j w ys hw hy).cong λb n eb hb=>a6 b ((r2 j w ys hw hy).lt eb) λb' n' e'=>?_;exact(r3 i j b' n' b n e (by rw[hv,e']) (by rw[hw,eb])).symm
 .have hlt:∀j b n,vs[j]?=some (AV.sl b 0 n n)->b<h.next:=λj b n hj=>by
   have hjl:j<vs.length:=(aM.1 hj).1;exact(r2 j _ xss[j] hj (ae om)).lt rfl
  intro j1 j2 b n b' n' hne h1 h2;by_cases e:i=j1
  .subst e;rw[cU om,aa,a4]at h1;rw[cM hne]at h2;have:=hlt _ _ _ h2;cases h1;omega
  .rw[cM e]at h1;by_cases e2:i=j2
   .subst e2;rw[cU om,aa,a4]at h2;have:=hlt _ _ _ h1;cases h2;omega
   .rw[cM e2]at h2;exact r3 _ _ _ _ _ _ hne h1 h2
theorem xG(hm:jC (n:Nat) es=true):1<=n/\n<=64/\es.length<=128/\es.all (okE n)=true:=by
 simp only[jC,aK,aN]at hm;exact⟨om,om,om,hm.2⟩
theorem KR{e:Int×Int}(h:okE n e=true):∃a b:Nat,e=(((a:Nat):Int),((b:Nat):Int))/\a<n/\b<n:=by
 obtain⟨x,y⟩:=e;simp only[okE,aK,aN]at h;exact⟨x.toNat,y.toNat,by rw[Int.toNat_of_nonneg om,Int.toNat_of_nonneg om],om,om⟩
open Go.Am
open Go.Am
theorem Dd(xs:List Int):xs.flatMap eI=xs.map (AV.int .i64):=by
 induction xs with
 |nil=>rfl
 |cons x r ih=>rw[cm,ih];rfl
open Go.Am Go.Sort
theorem reverse_nil:C prg 63 [.nils] h λ_ h'=>h'=h:=by
 refine Oj pf63 ?_;have w0:IntKind.i64.wrap (0-1)=-1:=by decide
 refine ai (aE (Ji2 @pr w0) ?_);refine cZ (gY (λn ts h1=>h1=h/\bt ts 2=.int .i64 0/\bt ts 3=.int .i64 (-1)) ?_ (n:=0) ⟨rfl,Ii0,Ii0⟩);rintro n ts h1 ⟨rfl,e2,e3⟩;refine ai (ai (aE (M2 e2 e3) ?_));refine dJ (by simp only[am,aJ,simprocAttr];rfl) ?_;exact fO ⟨λ_=>⟨.tup [],rfl,rfl⟩,λe=>absurd rfl e⟩
theorem tk{cs:List AV}(hg:h.get b=some (mW cs o d))(hr:o+d.size<=cs.length)(hs:d.size<2^40) :
 C prg 63 [.sl b o d.size c] h λ_ h'=>Upd h h' b (mW cs o d.reverse):=by
 refine Oj pf63 ?_;have w0:IntKind.i64.wrap (((d.size:Nat):Int)-1)=((d.size:Nat):Int)-1-((0:Nat):Int):=by rw[ft om om];omega
 refine ai (aE (Mi1 w0) ?_)
 refine lw (α:=Array Int) (N:=d.size/2) (λk a=>[(0,.sl b o d.size c),(2,.int .i64 (k:Nat)),(3,.int .i64 (((d.size:Nat):Int)-1-((k:Nat):Int)))])
  (λk a h'=>Upd h h' b (mW cs o a)/\a.size=d.size/\∀x,x<d.size->a[x]! = if x<k\/d.size-1-x<k then d[d.size-1-x]! else d[x]!) d (Hi1 @bJ) ⟨Upd.refl hg,rfl,λx _=>by rw[if_neg om]⟩ ?_ ?_ ?_
 .rintro k a ts h1 hk ⟨j1,j2,j3⟩ ⟨e0,e2,e3,-⟩;simp only at e0 e2 e3;have c2:decide (((k:Nat):Int)<((d.size:Nat):Int)-1-((k:Nat):Int))=decide (k<d.size/2):=by simp only[decide_eq_decide];omega
  exact⟨_,(M3 e2 e3 c2),Z0,H3 e0 e2 e3⟩
 .rintro k a ts h1 hk ⟨j1,j2,j3⟩ ⟨e0,e2,e3,-⟩;simp only at e0 e2 e3;have hm:((d.size:Nat):Int)-1-((k:Nat):Int)=((d.size-1-k:Nat):Int):=om;have i1:gz ((k:Nat):Int) d.size=some k:=dW om;have i2:gz ((d.size-1-k:Nat):Int) d.size=some (d.size-1-k):=dW om;have r1:=GV (i:=k) j1.get om om;have r2:=GV (i:=d.size-1-k) j1.get om om;obtain⟨m1,m2,s1,s2,u2⟩:=JL (i:=k) (j:=d.size-1-k) j1.get om om om;have w1:IntKind.i64.wrap (((k:Nat):Int)+1)=((k+1:Nat):Int):=ft om om;have w2:IntKind.i64.wrap (((d.size-1-k:Nat):Int)-1)=((d.size:Nat):Int)-1-((k+1:Nat):Int):=by rw[ft om om];omega
  refine aE (M12 e0 e2 e3 hm i1 i2 r1 r2 s1 s2 @aU @aU) ?_;refine⟨_,⟨j1.trans u2,by rw[DD,j2],?_⟩,_,(M5 e2 e3 hm w1 w2),H1 e0⟩;intro x hx;by_cases x1:x=k
  .subst x1;rw[swp_left _ _ _ om om,j3 _ om,if_neg om,if_pos om]
  .by_cases x2:x=d.size-1-k
   .rw[x2,swp_right _ _ _ om,j3 _ om,if_neg om,if_pos om];congr 1;omega
   .rw[swp_other _ _ _ _ x1 x2,j3 _ hx];by_cases q:x<k\/d.size-1-x<k
    .rw[if_pos q,if_pos om]
    .rw[if_neg q,if_neg om]
 .rintro a ts h1 ⟨j1,j2,j3⟩ _;refine⟨.tup [],rfl,?_⟩;have:a=d.reverse:=by
   refine Array.ext (by simpa using j2) λi h1 h2=>?_;have:=j3 i om;rw[getElem!_pos a i h1]at this;rw[this,Array.getElem_reverse];rw[getElem!_pos d _ om];split
   .rfl
   .rw[getElem!_pos d _ om];congr 1;omega
  rw[<-this];exact j1
open Go.Am
open Go.Sort (swp ltInt)
open Go.Sort (insInner insOuter insertionSort)
open Go.Am
open Go.Sort (swp ltInt siftDown heapBuild heapPop heapSort)
open Go.Am
open Go.Sort (swp ltInt reverseLoop reverseRange scanUp scanDown partLoop partition partEqLoop partitionEqual scanUp_spec scanDown_spec scanUp_ge scanDown_le partLoop_eq partEqLoop_eq)
open Go.Am
open Go.Sort (swp ltInt scanSorted shiftDown shiftUp partialIns partialInsertionSort fixDown fixUp partialIns_succ)
open Go.Am
set_option maxRecDepth 8000 in
theorem BB:C prg 79 [.int .u64 0] h λv h'=>v=.int .i64 0/\h'=h:=by
 refine Oj pf79 ?_;refine ai (aE (Ji0) ?_);have c1:decide ((4294967296:Int)<=0)=false:=by decide
 have c2:decide ((65536:Int)<=0)=false:=by decide
 have c3:decide ((256:Int)<=0)=false:=by decide
 refine ai (ai (aE (Ji1 c1) ?_));refine dJ (I1 c1) (bM ?_);refine ai (ai (aE (Ji1 c2) ?_));refine dJ (I1 c2) (bM ?_);refine ai (ai (aE (Ji1 c3) ?_));refine dJ (I1 c3) (bM ?_);have w1:IntKind.u8.wrap 0=0:=by decide
 have w2:IntKind.i64.wrap 0=0:=by decide
 have w3:IntKind.i64.wrap (0+0)=0:=by decide
 have hi:wC (.str [0,1,2,2,3,3,3,3,4,4,4,4,4,4,4,4,5,5,5,5,5,5,5,5,5,5,5,5,5,5,5,5,6,6,6,6,6,6,6,6,6,6,6,6,6,6,6,6,6,6,6,6,6,6,6,6,6,6,6,6,6,6,6,6,7,7,7,7,7,7,7,7,7,7,7,7,7,7,7,7,7,7,7,7,7,7,7,7,7,7,7,7,7,7,7,7,7,7,7,7,7,7,7,7,7,7,7,7,7,7,7,7,7,7,7,7,7,7,7,7,7,7,7,7,7,7,7,7,8,8,8,8,8,8,8,8,8,8,8,8,8,8,8,8,8,8,8,8,8,8,8,8,8,8,8,8,8,8,8,8,8,8,8,8,8,8,8,8,8,8,8,8,8,8,8,8,8,8,8,8,8,8,8,8,8,8,8,8,8,8,8,8,8,8,8,8,8,8,8,8,8,8,8,8,8,8,8,8,8,8,8,8,8,8,8,8,8,8,8,8,8,8,8,8,8,8,8,8,8,8,8,8,8,8,8,8,8,8,8,8,8,8,8,8,8,8,8,8,8,8,8,8,8,8,8,8]) (.int .u8 0)=some (.int .u8 0):=rfl;refine ai (bW (λts h5=>h5=h/\bt ts 2=.int .i64 0) ?_ λts h5 ⟨eh,e2⟩=>bP ⟨.int .i64 0,(by simp only[rs,rf79,am,aJ,simprocAttr,e2]<;>rfl),rfl,eh⟩);simp only[am,aJ,simprocAttr,bL,w1,hi,w2,w3]
theorem wZ:C prg 52 [.int .u64 0] h λv h'=>v=.int .i64 0/\h'=h:=by
 refine Oj pf52 ?_;refine ai (aE (Ji0) ?_);refine ai (dJ rfl (bM ?_));refine ai (cJ (bK 1 (Mi0) rfl (Zi0) (Mi0) (BB) λv h' hq=>?_));obtain⟨rfl,rfl⟩:=hq;refine bU (M0) ?_;exact bP ⟨_,(by simp only[rs,rf52,am,aJ,simprocAttr]<;>rfl),rfl,rfl⟩
open Go.Am
open Go.Sort (swp ltInt PermIn)
open Go.Am
open Go.Sort (swp ltInt PermIn swp_permIn permIn_refl permIn_trans)
open Go.Am
open Go.Sort (swp ltInt PermIn SortedIn Below permIn_refl permIn_trans insertionSort_holds heapSort_holds partialInsertionSort_holds partition_holds partitionEqual_holds reverseRange_holds swo_ltInt round_eq round_part)
theorem yM{cs a v:List AV}(hr:o+a.length<=cs.length)(hl:v.length=a.length):dQ (dQ cs o a) o v=dQ cs o v:=by
 refine cY λi=>?_;have hs:=kP hr;rw[gC (cs:=dQ cs o a) (by rw[hs];omega),gC (cs:=cs) (vs:=a) hr,gC (cs:=cs) (vs:=v) om];by_cases q:o<=i/\i<o+v.length
 .rw[if_pos q,if_pos q]
 .rw[if_neg q,if_neg q,if_neg om]
theorem JQ{cs:List AV}(hg:h.get b=some (mW cs o d))(hr:o+d.size<=cs.length)(hs:d.size<2^38) :
 C prg 29 [.sl b o d.size c] h λv h'=>Mod h.next h h' b (mW cs o (d.toList.mergeSort (λx y=>decide (x<=y))).toArray):=by
 have hi:(iu d).length=d.size:=by simp[iu]
 have hsp:(dQ cs o (iu d)).length=cs.length:=kP om;have hsl:(d.toList.mergeSort λx y=>decide (x<=y)).length=d.size:=by rw[vj,ij]
 have hg':h.get b=some (.cells (dQ cs o (iu d)) 1 false):=hg;have hrd:ar h b o d.size=some (d.toList.map (AV.int .i64)):=by
  rw[bC hg',if_pos om];congr 1;refine cY λi=>?_;rw[cK,eG,gC om];by_cases q:i<d.size
  .rw[if_pos q,if_pos om,Nat.add_sub_cancel_left];rfl
  .rw[if_neg q,bA (by simp;omega)]
 have hwr:bV h b o (AM d.toList)=some (h.put b (mW cs o (d.toList.mergeSort (λx y=>decide (x<=y))).toArray)):=by
  have hl:(AM d.toList).length=d.size:=by unfold AM;rw[ah,hsl]
  rw[fI hg',if_pos om,yM om om];rfl
 exact BS.srt ps29 hrd hwr om ⟨_,_,rfl,(Oi hg).mod⟩
open Go.Am Go.Sort
theorem Lq:C prg 69 [.nils,.int .i64 0,.int .i64 0] h λ_ h'=>h'=h:=by
 refine Oj pf69 ?_;refine ai (aE (by simp only[am,aJ,↓reduceIte,Nat.reduceEqDiff,Int.reduceEq,Nat.reduceAdd,Nat.reduceLeDiff,reduceCtorEq,bL,ft (z:=0+1) (by decide) (by decide)]<;>rfl) ?_);refine cZ (gY (λn ts h1=>h1=h/\bt ts 2=.int .i64 0/\bt ts 6=.int .i64 (0+1)) ?_ (n:=0) ⟨rfl,Ii0,Ii0⟩);rintro n ts h1 ⟨rfl,e2,e6⟩;refine ai (ai (aE (M2 e2 e6) ?_));refine dJ (by simp only[am,aJ,simprocAttr];rfl) ?_;exact fO ⟨λ_=>⟨.tup [],rfl,rfl⟩,λe=>absurd rfl e⟩
theorem KJ{l:Int}:C prg 51 [.nils,.int .i64 0,.int .i64 0,.int .i64 l] h λ_ h'=>h'=h:=by
 refine Oj pf51 ?_;refine ai (aE (Mi0) ?_);refine ai (aE (Mi0) ?_);refine cZ (gY (λn ts h1=>h1=h/\bt ts 0=.nils/\bt ts 1=.int .i64 0/\bt ts 2=.int .i64 0) ?_ (n:=0) ⟨rfl,Zi0,Zi0,Zi0⟩);rintro n ts h1 ⟨rfl,e0,e1,e2⟩;refine cZ (ai (aE (by simp only[am,aJ,simprocAttr,e1,e2,ft (z:=0-0) (by decide) (by decide)]<;>rfl) ?_));refine ai (ai (aE (M0) ?_));refine cI (by simp only[am,aJ,simprocAttr];rfl) ?_;refine ai (cJ (bK 3 (M3 e0 e1 e2) rfl (Z3 e0 e1 e2) (M3 e0 e1 e2) (Lq) λv h2 u=>?_));subst u;refine bU (M0) ?_;exact bP ⟨.tup [],rfl,rfl⟩
theorem Gd:C prg 29 [.nils] h λ_ h'=>h'=h:=by
 refine Oj pf29 ?_;refine ai (aE (Mi1 @pr) ?_);have wu:IntKind.u64.wrap 0=0:=by decide
 refine cJ (bK 4 (Mi1 wu) rfl (Zi1 wu) (Mi1 wu) (wZ) λv h1 hq=>?_);obtain⟨rfl,rfl⟩:=hq;refine qq (Zi0) (Mi0) (KJ) λv h2 hq=>?_;subst hq;refine bU (M0) ?_;exact⟨.tup [],rfl,rfl⟩
theorem DB(hv:v.cells=[v]):C prg 81 [v] h λr h'=>r=.fn 103 [.ptr h.next 0]/\h'=h.new (.cells [v] 1 false):=by
 refine Oj pf81 ?_;refine ai (aE (Mi1 hv) ?_);refine ai (aE (M0) ?_);exact bP ⟨_,(by simp only[rs,rf81,am,aJ,simprocAttr]<;>rfl),rfl,rfl⟩
theorem AG{L:Nat}(J:Nat->AH->Prop)(hJ:∀i h,J i h->ar h lb 0 1=some [v]/\SlI h v xs)(hl:xs.length<2^40)
 (hY:∀i (hi:i<xs.length) h,J i h->Y prg L [.int .i64 xs[i]] h λr h'=>r=.bool true/\J (i+1) h') (h0:J 0 h) :
 C prg 103 [.yld L,.ptr lb 0] h λ_ h'=>J xs.length h':=by
 refine Oj pf103 ?_;obtain⟨r0,s0⟩:=hJ 0 h h0;have e1:=s0.len;rw[ah]at e1;refine ai (aE (Mi2 r0 e1) ?_);refine iI (α:=Unit) (N:=xs.length) (λ_ _=>[(0,.yld L),(5,v)]) (λk _ h1=>J k h1) () (λ_ _=>rfl) om (Oi0) h0 ?_ ?_
 .rintro k _ ts h1 hk hj ⟨ei,en,e0,e5,-⟩;simp only at ei en e0 e5;obtain⟨b1,p1,a1,r1,_⟩:=(hJ k h1 hj).2.at1 (fX (f:=eI) hk);refine ai (aE (M4 e5 ei a1 r1) ?_);refine ai (cJ (G.gyield 2 (M1 e0) rfl (Z1 e0) (M1 e0) (M1 e0) (hY k hk h1 hj) λr h2 hq=>?_));obtain⟨rfl,hj2⟩:=hq;refine bU (M0) ?_;refine dJ (Z0) ?_;exact bM ⟨(),hj2,O4 ei en e0 e5⟩
 .rintro _ ts h1 hj _;exact⟨.tup [],rfl,hj⟩
theorem FK(hr:ar h lb 0 1=some [v])(hv:SlI h v xs)(hb:lb<h.next)(hl:xs.length<2^34) :
 C prg 109 [.nils,.fn 103 [.ptr lb 0]] h λr h'=>IsSl h' 1 h.next r (xs.flatMap eI)/\Ext h.next h h':=by
 refine Oj pf109 ?_;refine ai (aE (Mi0) ?_);have g0:(h.new (.cells [.nils] 1 false)).get h.next=some (.cells [.nils] 1 false):=by rw[AH.get_new,if_pos rfl]
 have x0:Ext h.next h (h.new (.cells [.nils] 1 false)):=Og (ab _);have n0:(h.new (.cells [.nils] 1 false)).next=h.next+1:=rfl;generalize h.new (.cells [.nils] 1 false)=h0 at *
 refine ai (ai (bW (λts h1=>h1=h0/\bt ts 2=.ptr h.next 0/\bt ts 6=.fn 103 [.ptr lb 0]) (by simp only[am,aJ,simprocAttr,bL]) λts h1 hq=>?_));obtain⟨rfl,e2,e6⟩:=hq;refine cZ (W.rangeF (Q:=λ_ h'=>h'.get h1.next=some (.lp 109 [true,false,true,false] ts [7] .ready none)/\(∃s,h'.get h.next=some (.cells [s] 1 false)/\IsSl h' 1 (h.next+2) s (xs.flatMap eI))/\Ext h.next h h'/\h.next+2<=h'.next) (by simp only[am,aJ,simprocAttr,e6];rfl) ?_ ?_)
 .refine(AG (xs:=xs) (v:=v) (λi h'=>h'.get h1.next=some (.lp 109 [true,false,true,false] ts [7] .ready none)/\(∃s,h'.get h.next=some (.cells [s] 1 false)/\IsSl h' 1 (h.next+2) s ((xs.take i).flatMap eI))/\Ext h.next h h'/\h.next+2<=h'.next) ?_ om ?_ ?_).mono λr h' q=>by simpa using q
  .rintro i h' ⟨_,_,hx,_⟩;exact⟨by rw[<-hr];exact cN (hx.gt _ hb),hv.ext hx (ab _)⟩
  .rintro i hi h' ⟨hL,⟨s,hs,hsl⟩,hx,hn⟩;refine Y.round hL rfl pf109 rfl ?_;refine aE (by simp only[am,aJ,simprocAttr,lQ]<;>rfl) ?_;refine⟨rfl,?_⟩;have uB:=Oi (o:=.lp 109 [true,false,true,false] ts [7] .busy none) hL;generalize h'.put h1.next (.lp 109 [true,false,true,false] ts [7] .busy none)=hb at *
   have hsl':IsSl hb 1 (h.next+2) s ((xs.take i).flatMap eI):=hsl.upd uB om;have gs:hb.get h.next=some (.cells [s] 1 false):=by rw[uB.ne om];exact hs
   have rs:ar hb h.next 0 1=some [s]:=by rw[bC gs];rfl
   have hlen:((xs.take i).flatMap eI).length=i:=by
    rw[fJ (f:=eI) (e:=1) (λ_=>rfl),bG];omega
   obtain⟨s',h2,a1,i1,x1,n1⟩:=hsl'.push (bytes:=8) (eI xs[i]) (by rw[uB.nx];omega) om rfl rfl (by rw[hlen];unfold bd;omega) (by rw[hlen];unfold bd;omega);rw[show eI xs[i]=[.int .i64 xs[i]] from rfl]at a1 i1;have gs2:h2.get h.next=some (.cells [s] 1 false):=by rw[x1.gt _ om];exact gs
   obtain⟨sc,so⟩:=i1.cells;have w1:bV h2 h.next 0 [s']=some (h2.put h.next (.cells [s'] 1 false)):=by rw[fI gs2];rfl
   have uS:=Oi (o:=.cells [s'] 1 false) gs2;refine cZ ?_;refine aE (by simp only[am,aJ,simprocAttr,e2,rs,a1,sc,so,w1]<;>rfl) ?_;have gL:(h2.put h.next (.cells [s'] 1 false)).get h1.next=some (.lp 109 [true,false,true,false] ts [7] .busy none):=by rw[uS.ne om,x1.gt _ om,uB.get]
   have uR:=Oi (o:=.lp 109 [true,false,true,false] ts [7] .ready none) gL;refine⟨gL,rfl,uR.get,⟨s',by rw[uR.ne om];exact uS.get,?_⟩,?_,?_⟩
   .have e:(xs.take (i+1)).flatMap eI=(xs.take i).flatMap eI++[.int .i64 xs[i]]:=by
     rw[cj hi,da];rfl
    rw[e];exact(i1.upd uS om).upd uR om
   .exact hx.trans ((uB.ext om).trans ((x1.mono om).trans ((uS.ext (ab _)).trans (uR.ext om))))
   .rw[uR.nx,uS.nx];have:=uB.nx;omega
  .have gN:(h1.new (.lp 109 [true,false,true,false] ts [7] .ready none)).get h1.next=some (.lp 109 [true,false,true,false] ts [7] .ready none):=by rw[AH.get_new,if_pos rfl]
   refine⟨gN,⟨.nils,?_,.inl ⟨rfl,rfl⟩⟩,x0.trans (Og om),by rw[AH.next_new];omega⟩;rw[AH.get_new,if_neg om];exact g0
 .rintro _ h' ⟨hL,⟨s,hs,hsl⟩,hx,hn⟩;refine⟨⟨_,_,_,_,hL⟩,λf1 p1 t1 q1=>?_⟩;have uO:=Oi (o:=.lp f1 p1 t1 q1 .over none) hL;have rs:ar (h'.put h1.next (.lp f1 p1 t1 q1 .over none)) h.next 0 1=some [s]:=by rw[bC (by rw[uO.ne om];exact hs)];rfl
  refine ai (aE (by simp only[am,aJ,simprocAttr,e2,rs]<;>rfl) ?_);exact bP ⟨s,(by simp only[Am.results,kj,oS,rf109,am,aJ,↓reduceIte,Nat.reduceEqDiff,Int.reduceEq,Nat.reduceAdd,Nat.reduceLeDiff,reduceCtorEq]<;>rfl),(hsl.upd uO om).mono om,hx.trans (uO.ext om)⟩
theorem qR:∀xs:List Int,xs.flatMap eI=iu xs.toArray
 |[]=>rfl
 |x::r=>by
   have:=qR r;unfold iu at *
   rw[List.toList_toArray]at *
   rw[cm,this];rfl
def rW(xs:List Int):List Int:=xs.mergeSort (λx y=>decide (x<=y))
theorem wj(xs:List Int):(rW xs).length=xs.length:=vj _
theorem DJ(hr:ar h lb 0 1=some [v])(hv:SlI h v xs)(hb:lb<h.next)(hl:xs.length<2^34) :
 C prg 80 [.fn 103 [.ptr lb 0]] h λr h'=>IsSl h' 1 h.next r ((rW xs).flatMap eI)/\Ext h.next h h':=by
 have hcol:C prg 102 [.fn 103 [.ptr lb 0]] h λr h'=>IsSl h' 1 h.next r (xs.flatMap eI)/\Ext h.next h h':=by
  refine Oj pf102 ?_;refine ai (aE (Mi0) ?_);refine ai (cJ (bK 1 (Mi0) rfl (Zi0) (Mi0) (FK hr hv hb hl) λr h2 hq=>?_));refine bU (M0) ?_;exact bP ⟨r,(by simp only[rs,rf102,am,aJ,simprocAttr]<;>rfl),hq⟩
 refine Oj pf80 ?_;refine ai (aE (Mi0) ?_);refine ai (cJ (bK 1 (Mi0) rfl (Zi0) (Mi0) (hcol) λr h2 hq=>?_));obtain⟨i1,x1⟩:=hq;refine bU (M0) ?_;rcases i1 with⟨rfl,hz⟩|⟨b,n,hbn,rfl,hg,hln⟩
 .have:xs=[]:=by
   cases xs with
   |nil=>rfl
   |cons x r=>simp[eI]at hz
  subst this;refine ai (cJ (bK 1 (M0) rfl (Z0) (M0) (Gd) λv h3 hq=>?_));subst hq;refine bU (M0) ?_;refine ai (aE (M0) ?_);exact bP ⟨.nils,(by simp only[rs,rf80,am,aJ,simprocAttr]<;>rfl),.inl ⟨rfl,by simp[rW]⟩,x1⟩
 .have hn:n=xs.length:=by rw[fJ (f:=eI) (e:=1) (λ_=>rfl)]at hln;omega
  subst hn;have e1:xs.flatMap eI=iu xs.toArray:=qR xs;have hg':h2.get b=some (mW (xs.flatMap eI) 0 xs.toArray):=by
   rw[hg];unfold mW;rw[e1];congr 2;exact(rC (by simp) (by rw[bN,dL])).symm
  have hs:=JQ (c:=xs.length) hg' (by rw[gJ,hln];omega) (by rw[gJ];omega);rw[gJ]at hs;refine ai (cJ (bK 1 (M0) rfl (Z0) (M0) (hs) λv h3 hq=>?_));refine bU (M0) ?_;refine ai (aE (M0) ?_);refine bP ⟨_,(by simp only[rs,rf80,am,aJ,simprocAttr]<;>rfl),.inr ⟨b,xs.length,hbn,rfl,?_,?_⟩,x1.trans ((hq.mono x1.nx).toExt hbn)⟩
  .rw[hq.get];unfold mW;have e2:iu (rW xs).toArray=(rW xs).flatMap eI:=(qR _).symm;rw[show(xs.toArray.toList.mergeSort λx y=>decide (x<=y))=rW xs from rfl,e2];simp only[dQ,eT,bz,bX];rw[fJ (f:=eI) (e:=1) (λ_=>rfl),wj,dS (by rw[hln];omega),cH]
  .rw[fJ (f:=eI) (e:=1) (λ_=>rfl),wj]
open Go.Am Go.Sort
open Go.Am
open Go.Am
open Go.Am
open Go.Am
open Go.Am
theorem od{P:RP}{l l2:List ROper}{s:Option (Tm×AH)}{K:Tm->AH->Prop}{ts:Tm}{d:Option Nat}{f:FuncId}{args:List RO}{g:Option (Nat×Bool)}{nm:Option Nat}{cs:List (Nat×ROp×Option (Nat×Bool))}{Q:AV->AH->Prop}(n:Nat)
 (hs:lD b (l.take n) s=some (ts,h)) (hd:l.drop n=⟨d,.call f args,g,nm,cs⟩::l2) (hw:wanted ts g=some true) (ha:args.map (RO.ev ts)=vs) (hc:C P f vs h Q)
 (hk:∀v h',Q v h'->fZ (dB ts d v) h' cs=true/\G P b l2 (some (dB ts d v,h')) K):G P b l s K:=by
 subst ha;rw[<-cQ n l];refine sg ?_;rw[hs,hd];exact Dy hw (hc.mono hk)
open Go.Am
open Go.Am
open Go.Am
open Go.Am
theorem Cu{k:Nat}(h:k<2^62):IntKind.i64.wrap (((k:Nat):Int)+1)=((k+1:Nat):Int):=ft om om
open Go.Am
open Go.Am
theorem GP{n:Int}(he:SlE h ev es):C prg 12 [.agg [.int .i64 n,ev]] h λr h'=>r=.bool (jC n es)/\Ext h.next h h':=by
 have el:=he.len;rw[ah]at el;obtain⟨ec,eo⟩:=he.cells;refine Oj pf12 ?_;have x0:Ext h.next h (h.new (.cells [.int .i64 n,ev] 2 false)):=Og (ab _);have g0:(h.new (.cells [.int .i64 n,ev] 2 false)).get h.next=some (.cells [.int .i64 n,ev] 2 false):=by rw[AH.get_new,if_pos rfl]
 have n0:(h.new (.cells [.int .i64 n,ev] 2 false)).next=h.next+1:=rfl;refine ai (aE (Mi0) ?_);generalize h.new (.cells [.int .i64 n,ev] 2 false)=h0 at *
 have rn:ar h0 h.next 0 1=some [.int .i64 n]:=bF g0 rfl;have re:ar h0 h.next 1 1=some [ev]:=bF g0 rfl;by_cases q1:n<1
 .have c1:decide (n<1)=true:=aP q1;have hB:jC n es=false:=by
   have:decide (1<=n)=false:=aL om;simp only[jC,this,eU]
  refine ai (ai (aE (Mi2 rn c1) ?_));refine cI (Z0) (ai (aE (M0) ?_));exact bP ⟨.bool false,(by simp only[rs,rf12,am,aJ,simprocAttr]<;>rfl),by rw[hB],x0⟩
 have c1:decide (n<1)=false:=aL q1;by_cases q2:64<n
 .have c2:decide (64<n)=true:=aP q2;have hB:jC n es=false:=by
   have:decide (n<=64)=false:=aL om;simp only[jC,this,eV,eU]
  refine ai (ai (aE (Mi3 rn c1 c2) ?_));refine cI (Z0) (ai (aE (M0) ?_));exact bP ⟨.bool false,(by simp only[rs,rf12,am,aJ,simprocAttr]<;>rfl),by rw[hB],x0⟩
 have c2:decide (64<n)=false:=aL q2;by_cases q3:128<es.length
 .have c3:decide ((128:Int)<((es.length:Nat):Int))=true:=aP om;have hB:jC n es=false:=by
   have:decide (es.length<=128)=false:=aL om;simp only[jC,this,eV,eU]
  refine ai (ai (aE (Mi6 rn re el c1 c2 c3) ?_));refine cI (Z0) (ai (aE (M0) ?_));exact bP ⟨.bool false,(by simp only[rs,rf12,am,aJ,simprocAttr]<;>rfl),by rw[hB],x0⟩
 have c3:decide ((128:Int)<((es.length:Nat):Int))=false:=aL om;have hB:jC n es=es.all (okE n):=by
  have d1:decide (1<=n)=true:=aP om;have d2:decide (n<=64)=true:=aP om;have d3:decide (es.length<=128)=true:=aP om;simp only[jC,d1,d2,d3,kH]
 refine ai (ai (aE (Mi6 rn re el c1 c2 c3) ?_));refine dJ (Z0) (bM ?_);refine ai (ai (aE (M0) ?_));refine lw (α:=Unit) (N:=es.length) (λk _=>[(1,.ptr h.next 0),(3,.int .i64 (k:Nat))]) (λk _ h'=>Ext (h.next+1) h0 h'/\(es.take k).all (okE n)=true) () (Oi1 @bJ) ⟨Oh,rfl⟩ ?_ ?_ ?_
 .rintro k _ ts h1 hk ⟨jx,j1⟩ ⟨e1,e3,-⟩;simp only at e1 e3;have re1:ar h1 h.next 1 1=some [ev]:=by rw[cN (jx.gt _ om)];exact re
  exact⟨_,(J5 e1 e3 re1 el @eq),I0,O2 e1 e3⟩
 .rintro k _ ts h1 hk ⟨jx,j1⟩ ⟨e1,e3,-⟩;simp only at e1 e3;have re1:ar h1 h.next 1 1=some [ev]:=by rw[cN (jx.gt _ om)];exact re
  have jn:=jx.nx;have X1:Ext h.next h h1:=x0.trans (jx.mono om);obtain⟨b1,p1,a1,r4,_⟩:=(he.ext X1 (ab _)).at (fX (f:=eE) hk);obtain⟨h2,w2,x2,g2,n2⟩:=ip (h:=h1) (z:=[.int .i64 0,.int .i64 0]) (cs:=[.int .i64 es[k].1,.int .i64 es[k].2]) (e:=2) rfl;refine ai (aE (by simp only[am,aJ,simprocAttr,e1,e3,re1,a1,r4,eE,w2]<;>rfl) ?_);have ra:ar h2 h1.next 0 1=some [.int .i64 es[k].1]:=bF g2 rfl;have rb:ar h2 h1.next 1 1=some [.int .i64 es[k].2]:=bF g2 rfl;have rn2:ar h2 h.next 0 1=some [.int .i64 n]:=by rw[cN (x2.gt _ om),cN (jx.gt _ om)];exact rn
  have w1:=Cu (k:=k) om;have Y2:Ext (h.next+1) h0 h2:=jx.trans (x2.mono om);have X2:Ext h.next h h2:=X1.trans (x2.mono X1.nx);have bad:okE n es[k]=false->jC n es=false:=λhb=>by
   rw[hB];cases hh:es.all (okE n)with
   |false=>rfl
   |true=>rw[cF.1 hh _ (aR hk)]at hb;cases hb
  by_cases p1:es[k].1<0
  .have d1:decide (es[k].1<0)=true:=aP p1
   have hb:=bad (by have:decide (0<=es[k].1)=false:=aL om
                    simp only[okE,this,eU])
   refine ai (aE (M2 ra d1) ?_);refine cI (Z0) (ai (aE (M0) ?_));exact bP ⟨.bool false,(by simp only[rs,rf12,am,aJ,simprocAttr]<;>rfl),by rw[hb],X2⟩
  have d1:decide (es[k].1<0)=false:=aL p1;by_cases p2:es[k].2<0
  .have d2:decide (es[k].2<0)=true:=aP p2
   have hb:=bad (by have:decide (0<=es[k].2)=false:=aL om
                    simp only[okE,this,eU,eV])
   refine ai (aE (M4 ra rb d1 d2) ?_);refine cI (Z0) (ai (aE (M0) ?_));exact bP ⟨.bool false,(by simp only[rs,rf12,am,aJ,simprocAttr]<;>rfl),by rw[hb],X2⟩
  have d2:decide (es[k].2<0)=false:=aL p2;by_cases p3:n<=es[k].1
  .have d3:decide (n<=es[k].1)=true:=aP p3
   have hb:=bad (by have:decide (es[k].1<n)=false:=aL om
                    simp only[okE,this,eU,eV])
   refine ai (aE (M7 ra rb rn2 e1 d1 d2 d3) ?_);refine cI (Z0) (ai (aE (M0) ?_));exact bP ⟨.bool false,(by simp only[rs,rf12,am,aJ,simprocAttr]<;>rfl),by rw[hb],X2⟩
  have d3:decide (n<=es[k].1)=false:=aL p3;by_cases p4:n<=es[k].2
  .have d4:decide (n<=es[k].2)=true:=aP p4
   have hb:=bad (by have:decide (es[k].2<n)=false:=aL om
                    simp only[okE,this,eV])
   refine ai (aE (M8 ra rb rn2 e1 d1 d2 d3 d4) ?_);refine cI (Z0) (ai (aE (M0) ?_));exact bP ⟨.bool false,(by simp only[rs,rf12,am,aJ,simprocAttr]<;>rfl),by rw[hb],X2⟩
  have d4:decide (n<=es[k].2)=false:=aL p4;refine ai (aE (M8 ra rb rn2 e1 d1 d2 d3 d4) ?_);refine dJ (I0) (bM ⟨(),⟨Y2,?_⟩,_,(J2 e3 w1),O1 e1⟩);rw[cj hk,List.all_append,j1];have f1:decide (0<=es[k].1)=true:=aP om;have f2:decide (0<=es[k].2)=true:=aP om;have f3:decide (es[k].1<n)=true:=aP om;have f4:decide (es[k].2<n)=true:=aP om;simp only[kC,List.all_nil,okE,f1,f2,f3,f4,Bool.and_self]
 .rintro _ ts h1 ⟨jx,j1⟩ ⟨e1,e3,-⟩;rw[dL]at j1;refine ai (aE (M0) ?_);exact bP ⟨.bool true,(by simp only[rs,rf12,am,aJ,simprocAttr]<;>rfl),by rw[hB,j1],x0.trans (jx.mono (by have:=x0.nx;omega))⟩
open Go.Am
def bl(n:Nat)(p:Nat->Bool):List AV:=(List.range n).map λi=>.bool (p i)
def il(n:Nat)(f:Nat->Int):List AV:=(List.range n).map λi=>.int .i64 (f i)
theorem pD(n:Nat)(p:Nat->Bool):(bl n p).length=n:=by simp[bl]
theorem tR(n:Nat)(f:Nat->Int):(il n f).length=n:=by simp[il]
theorem np(h:i<n):(bl n p)[i]?=some (.bool (p i)):=by
 unfold bl;rw[aF,ew h];rfl
theorem nR(h:i<n):(il n f)[i]?=some (.int .i64 (f i)):=by
 unfold il;rw[aF,ew h];rfl
theorem yr{b:Bool}:(bl n p).set i (.bool b)=bl n λj=>if j=i then b else p j:=by
 refine cY λj=>?_;rw[dA,pD];by_cases hj:j<n
 .rw[np hj,np hj];by_cases e:i=j
  .subst e;simp[hj]
  .rw[if_neg e,if_neg (λq=>e q.symm)]
 .rw[bA (l:=bl n p) (by rw[pD];omega),bA (by rw[pD];omega)];split
  .rw[if_neg om]
  .rfl
theorem NJ{b:Int}:(il n f).set i (.int .i64 b)=il n λj=>if j=i then b else f j:=by
 refine cY λj=>?_;rw[dA,tR];by_cases hj:j<n
 .rw[nR hj,nR hj];by_cases e:i=j
  .subst e;simp[hj]
  .rw[if_neg e,if_neg (λq=>e q.symm)]
 .rw[bA (l:=il n f) (by rw[tR];omega),bA (by rw[tR];omega)];split
  .rw[if_neg om]
  .rfl
theorem yt(n:Nat):df [AV.bool false] n=bl n λ_=>false:=by
 rw[iX];unfold bl;rw[List.map_const',bH]
theorem CZ(n:Nat):df [AV.int .i64 0] n=il n λ_=>0:=by
 rw[iX];unfold il;rw[List.map_const',bH]
theorem Im{p q:Nat->Int}(h:∀i,i<n->p i=q i):il n p=il n q:=by
 unfold il;exact dI λi hi=>by rw[h i (aB.1 hi)]
end Go.Proofs.YtcfncejilmimpaaGreat
namespace Go.Blk
variable {S:Nat->Prop}{f l l':Nat->Nat}{i k u v x:Nat}
structure Gr where
 m:Nat
 n:Nat
 tl:Nat->Nat
 hd:Nat->Nat
 ok:∀i,i<m->tl i<n/\hd i<n/\tl i≠hd i
variable {g:Gr}
def Gr.oth(g:Gr)(i x:Nat):Nat:=g.tl i+g.hd i-x
def Gr.inc(g:Gr)(i x:Nat):Prop:=i<g.m/\(g.tl i=x\/g.hd i=x)
instance (i x:Nat):Decidable (g.inc i x):=by unfold Gr.inc;infer_instance
theorem inc_lt(h:g.inc i x):x<g.n:=by
 obtain⟨h1,h2⟩:=h;have:=g.ok i h1;rcases h2 with rfl|rfl
 .exact this.1
 .exact this.2.1
theorem inc_oth(h:g.inc i x):g.inc i (g.oth i x)/\g.oth i x≠x/\g.oth i (g.oth i x)=x:=by
 obtain⟨h1,h2⟩:=h;have:=g.ok i h1;unfold Gr.inc Gr.oth;rcases h2 with rfl|rfl
 .exact⟨⟨h1,.inr om⟩,om,om⟩
 .exact⟨⟨h1,.inl om⟩,om,om⟩
theorem fT{y:Nat}(hx:g.inc i x)(hy:g.inc i y)(hne:y≠x):y=g.oth i x:=by
 obtain⟨h1,h2⟩:=hx;obtain⟨_,h3⟩:=hy;have:=g.ok i h1;unfold Gr.oth;omega
inductive Conn(g:Gr)(S:Nat->Prop):Nat->Nat->Prop
 |refl {u:Nat}:S u->Conn g S u u
 |step {u v i:Nat}:Conn g S u v->g.inc i v->S (g.oth i v)->Conn g S u (g.oth i v)
theorem Conn.right(h:Conn g S u v):S v:=by
 cases h with
 |refl h=>exact h
 |step _ _ h=>exact h
theorem Conn.trans{w:Nat}(h1:Conn g S u v)(h2:Conn g S v w):Conn g S u w:=by
 induction h2 with
 |refl _=>exact h1
 |step _ a b ih=>exact .step ih a b
theorem Conn.edge(hu:S u)(hi:g.inc i u)(hv:S (g.oth i u)):Conn g S u (g.oth i u):=.step (.refl hu) hi hv
theorem Conn.symm(h:Conn g S u v):Conn g S v u:=by
 induction h with
 |refl h=>exact .refl h
 |@step v i h1 h2 h3 ih =>
   obtain⟨a,b,c⟩:=inc_oth h2;have:=Conn.edge (S:=S) h3 a (by rw[c];exact h1.right);rw[c]at this;exact this.trans ih
theorem Conn.mono{S':Nat->Prop}(h:Conn g S u v)(hs:∀z,S z->S' z):Conn g S' u v:=by
 induction h with
 |refl h=>exact .refl (hs _ h)
 |step _ a b ih=>exact .step ih a (hs _ b)
theorem Conn.stays{T:Nat->Prop}(h:Conn g S u v)(ht:∀u i,T u->g.inc i u->S (g.oth i u)->T (g.oth i u))(hu:T u):T v:=by
 induction h with
 |refl _=>exact hu
 |step _ a b ih=>exact ht _ _ ih a b
def Rel(g:Gr)(i k:Nat):Prop:=∃x,g.inc i x/\g.inc k x/\Conn g (·≠x) (g.oth i x) (g.oth k x)
theorem Rel.symm{i k:Nat}(h:Rel g i k):Rel g k i:=by
 obtain⟨x,a,b,c⟩:=h;exact⟨x,b,a,c.symm⟩
inductive Cls(g:Gr):Nat->Nat->Prop
 |refl {i:Nat}:Cls g i i
 |step {i j k:Nat}:Cls g i j->Rel g j k->Cls g i k
theorem Cls.trans{j:Nat}(h1:Cls g i j)(h2:Cls g j k):Cls g i k:=by
 induction h2 with
 |refl=>exact h1
 |step _ b ih=>exact .step ih b
theorem Cls.one(h:Rel g i k):Cls g i k:=.step .refl h
theorem Cls.symm{i k:Nat}(h:Cls g i k):Cls g k i:=by
 induction h with
 |refl=>exact .refl
 |step _ b ih=>exact(Cls.one b.symm).trans ih
def IsBlock(g:Gr)(b:List Nat):Prop:=b≠[]/\(∀i∈b,∀k∈b,Cls g i k)/\∀i∈b,∀k,Rel g i k->k∈b
theorem IsBlock.cls{b:List Nat}(h:IsBlock g b)(hi:i∈b)(hk:Cls g i k):k∈b:=by
 induction hk with
 |refl=>exact hi
 |step _ r ih=>exact h.2.2 _ ih _ r
structure DS where
 num:Nat->Nat
 low:Nat->Nat
 cnt:Nat
 stk:List Nat
 blk:List (List Nat)
def upd(f:Nat->Nat)(x v:Nat):Nat->Nat:=λz=>if z=x then v else f z
theorem upd_same:upd f x v x=v:=if_pos rfl
theorem upd_ne{z:Nat}(h:z≠x):upd f x v z=f z:=if_neg h
def DS.close(sort:List Nat->List Nat)(s:DS)(i:Nat):DS:={ s with blk:=s.blk++[sort (s.stk.drop (s.stk.idxOf i))],stk:=s.stk.take (s.stk.idxOf i)}
def enter(x:Nat)(s:DS):DS:={ s with cnt:=s.cnt+1,num:=upd s.num x (s.cnt+1),low:=upd s.low x (s.cnt+1)}
def edgeS(g:Gr)(sort:List Nat->List Nat)(vis:Nat->Nat->DS->DS)(x:Nat)(by_:Option Nat)(s:DS)(i:Nat):DS :=
 if by_=some i then s
 else if s.num (g.oth i x)=0 then
  let s2:=vis (g.oth i x) i { s with stk:=s.stk++[i]}
  let s3:DS:={ s2 with low:=upd s2.low x (min (s2.low x) (s2.low (g.oth i x)))}
  if s3.num x<=s3.low (g.oth i x)then s3.close sort i else s3
 else if s.num (g.oth i x)<s.num x then { s with stk:=s.stk++[i],low:=upd s.low x (min (s.low x) (s.num (g.oth i x)))}
 else s
def visit(g:Gr)(ends:Nat->List Nat)(sort:List Nat->List Nat):Nat->Nat->Option Nat->DS->DS
 |0,_,_,s=>s
 |f+1,x,by_,s=>(ends x).foldl (edgeS g sort (λy i s=>visit g ends sort f y (some i) s) x by_) (enter x s)
def unm(g:Gr)(s:DS):Nat:=(List.range g.n).countP λv=>s.num v==0
theorem ko{α:Type}{p q:α->Bool}:∀{l:List α},(∀x∈l,p x=true->q x=true)->l.countP p<=l.countP q
 |[],_=>ab _
 |a::l,h=>by
   have ih:=ko (l:=l) λx hx=>h x (aV _ hx);rw[dN,dN];have ha:=h a (bD ..);cases hp:p a with
   |true=>rw[ha hp];simp;exact ih
   |false=>cases q a<;>simp<;>omega
theorem qe{α:Type}{p q:α->Bool}:∀{l:List α}{a:α},(∀x∈l,p x=true->q x=true)->a∈l->p a=false->q a=true->l.countP p<l.countP q
 |[],a,_,hm,_,_=>by cases hm
 |b::l,a,h,hm,hp,hq=>by
   rw[dN,dN];rcases aw.1 hm with rfl|hm
   .have:=ko (l:=l) λx hx=>h x (aV _ hx);rw[hp,hq];simp;omega
   .have ih:=qe (l:=l) (λx hx=>h x (aV _ hx)) hm hp hq;have hb:=h b (bD ..);cases hp':p b with
    |true=>rw[hb hp'];simp;omega
    |false=>cases q b<;>simp<;>omega
variable {s s':DS}
theorem MM(h:∀v,s.num v≠0->s'.num v≠0):unm g s'<=unm g s:=by
 refine ko λv _ hv=>?_;have hv:s'.num v=0:=by simpa using hv
 have:s.num v=0:=Decidable.byContradiction λhc=>h v hc hv;simp[this]
theorem AI(h:∀v,s.num v≠0->s'.num v≠0)(hx:x<g.n)(h0:s.num x=0)(h1:s'.num x≠0):unm g s'<unm g s:=by
 refine qe (a:=x) (λv _ hv=>?_) (aB.2 hx) (by simpa using h1) (by simpa using h0);have hv:s'.num v=0:=by simpa using hv
 have:s.num v=0:=Decidable.byContradiction λhc=>h v hc hv;simp[this]
variable {g:Gr}
structure Lst(g:Gr)(l:Nat->Nat):Prop where
 cls:∀i,i<g.m->Cls g i (l i)
 le:∀i,i<g.m->l i<=i
 same:∀i k,i<g.m->k<g.m->Rel g i k->l i=l k
theorem BP(h:Cls g i k)(hi:i<g.m):k<g.m:=by
 induction h with
 |refl=>exact hi
 |step _ r _=>obtain⟨x,_,b,_⟩:=r;exact b.1
theorem Lst.eqc(h:Lst g l)(hi:i<g.m)(hc:Cls g i k):l i=l k:=by
 induction hc with
 |refl=>rfl
 |step a r ih=>exact ih.trans (h.same _ _ (BP a hi) (by obtain⟨x,_,b,_⟩:=r;exact b.1) r)
theorem Lst.uniq(h:Lst g l)(h':Lst g l')(hi:i<g.m):l i=l' i:=by
 have a:l i<=l' i:=by
  rw[h.eqc hi (h'.cls i hi)];exact h.le _ (BP (h'.cls i hi) hi)
 have b:l' i<=l i:=by
  rw[h'.eqc hi (h.cls i hi)];exact h'.le _ (BP (h.cls i hi) hi)
 omega
theorem Lst.iff(h:Lst g l)(hi:i<g.m)(hk:k<g.m):l i=l k↔Cls g i k:=by
 refine⟨λe=>?_,h.eqc hi⟩;have:=(h.cls k hk).symm;rw[<-e]at this;exact(h.cls i hi).trans this
def canon(m:Nat)(l:Nat->Nat):List (List Nat):=((List.range m).filter λi=>l i==i).map λi=>(List.range m).filter λk=>l k==i
theorem canon_congr{m:Nat}(h:∀i,i<m->l i=l' i):canon m l=canon m l':=by
 unfold canon;have e1:((List.range m).filter λi=>l i==i)=(List.range m).filter λi=>l' i==i:=FN λi hi=>by rw[h i (aB.1 hi)]
 rw[e1];refine dI λi _=>?_;exact FN λk hk=>by rw[h k (aB.1 hk)]
end Go.Blk
namespace Go.Proofs.YtcfncejilmimpaaGreat
open Go.Am
def gW(n:Nat)(ev:AV):List AV:=[.int .i64 (n:Nat),ev]
def tlE(E:List (Int×Int))(i:Nat):Nat:=((E.getD i (0,0)).1).toNat
def hdE(E:List (Int×Int))(i:Nat):Nat:=((E.getD i (0,0)).2).toNat
def InG(n:Nat)(E:List (Int×Int)):Prop:=∀i (hi:i<E.length),E[i]=(((tlE E i:Nat):Int),((hdE E i:Nat):Int))/\tlE E i<n/\hdE E i<n
end Go.Proofs.YtcfncejilmimpaaGreat
