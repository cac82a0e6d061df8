/- Ties -/
import Derived.Test.YthbmhbldmcbnpaaGreatDoorYTAD
import Derived.Test.YthbmhbldmcbnpaaGreatDoorYTAB
import Derived.Test.YthbmhbldmcbnpaaGreatDoorYAmA
import Derived.Test.YthbmhbldmcbnpaaGreatDoorYTAC
import Derived.Test.YthbmhbldmcbnpaaGreatDoorYAmR
set_option linter.all false
namespace Go.Spl
abbrev T4:=Int×Int×Int×Int
def tA (t:T4):Nat:=t.1.toNat
def tB (t:T4):Nat:=t.2.1.toNat
def OkT (t:T4):Prop:=0≤t.1∧t.1<t.2.1∧t.2.1<64
def atT (x:Nat) (t:T4):Bool:=decide (tA t=x)||decide (tB t=x)
def deg (l:List T4) (x:Nat):Nat:=l.countP (atT x)
def vs (l:List T4):List Nat:=(List.range 64).filter λx=>decide (0<deg l x)
def rk (l:List T4) (x:Nat):Nat:=(vs l).countP λy=>decide (y<x)
def rkE (l:List T4):List (Int×Int):=l.map λt=>(((rk l (tA t):Nat):Int),((rk l (tB t):Nat):Int))
theorem OkT.nat {t:T4} (h:OkT t):t.1=((tA t:Nat):Int)∧t.2.1=((tB t:Nat):Int)∧tA t<tB t∧tB t<64:=by
 obtain⟨h1,h2,h3⟩:=h
 unfold tA tB
 omega
theorem vs_rise (l:List T4):(vs l).Pairwise (·<·):=List.Pairwise.filter _ List.pairwise_lt_range
theorem vs_nodup (l:List T4):(vs l).Nodup:=(vs_rise l).imp λh=>Nat.ne_of_lt h
theorem mem_vs {l:List T4}{x:Nat}:x∈vs l↔x<64∧0<deg l x:=by
 unfold vs
 rw[bC,aL,az]
theorem vs_len (l:List T4):(vs l).length≤64:=by
 unfold vs
 refine bW (eN _ _) ?_
 rw[aZ]
 exact ae _
theorem deg_pos {l:List T4}{x:Nat}:0<deg l x↔∃ t∈l,tA t=x∨tB t=x:=by
 unfold deg
 rw[iJ]
 simp only[atT,bV,az]
theorem end_vs {l:List T4} (hok:∀ t∈l,OkT t) {t:T4} (ht:t∈l):tA t∈vs l∧tB t∈vs l:=by
 obtain⟨h1,h2,h3,h4⟩:=(hok t ht).nat
 exact⟨mem_vs.2 ⟨om,deg_pos.2 ⟨t,ht,.inl rfl⟩⟩,mem_vs.2 ⟨h4,deg_pos.2 ⟨t,ht,.inr rfl⟩⟩⟩
theorem mD:∀ {l:List Nat},l.Pairwise (·<·)→∀ (i:Nat) (hi:i<l.length),l.countP (λy=>decide (y<l[i]))=i
 | a::r,h,0,_=>by
   obtain⟨h1,h2⟩:=cN.1 h
   rw[List.getElem_cons_zero,yA]
   intro y hy
   rcases aA.1 hy with rfl|hy
   ·simp
   ·have:=h1 y hy
    simp; omega
 | a::r,h,i+1,hi=>by
   obtain⟨h1,h2⟩:=cN.1 h
   have hi':i<r.length:=by simpa using hi
   rw[List.getElem_cons_succ,df,mD h2 i hi']
   rw[if_pos (by simpa using h1 _ (aO hi'))]
theorem rk_get {l:List T4}{i:Nat} (hi:i<(vs l).length):rk l (vs l)[i]=i:=mD (vs_rise l) i hi
theorem rk_mem {l:List T4}{x:Nat} (hx:x∈vs l):∃ h:rk l x<(vs l).length,(vs l)[rk l x]=x:=by
 obtain⟨i,hi,rfl⟩:=db hx
 have:=rk_get hi
 refine⟨by rw[this]; exact hi,?_⟩
 simp only[this]
theorem rk_inj {l:List T4}{x y:Nat} (hx:x∈vs l) (hy:y∈vs l) (h:rk l x=rk l y):x=y:=by
 obtain⟨h1,e1⟩:=rk_mem hx
 obtain⟨h2,e2⟩:=rk_mem hy
 rw[← e1,← e2]
 simp only[h]
theorem rk_lt {l:List T4}{x y:Nat} (hx:x∈vs l) (hy:y∈vs l) (h:x<y):rk l x<rk l y:=by
 obtain⟨h1,e1⟩:=rk_mem hx
 obtain⟨h2,e2⟩:=rk_mem hy
 rcases dl (rk l x) (rk l y) with q|q
 ·exact q
 ·rcases dl (rk l y) (rk l x) with p|p
  ·have:=dh.1 (vs_rise l) _ _ h2 h1 p
   rw[e1,e2] at this
   omega
  ·have:=rk_inj hx hy om
   omega
theorem rkE_len (l:List T4):(rkE l).length=l.length:=ar ..
theorem deg_take {l:List T4}{k:Nat} (hk:k<l.length) (x:Nat):deg (l.take (k+1)) x=deg (l.take k) x+if tA l[k]=x∨tB l[k]=x then 1 else 0:=by
 unfold deg
 rw[aX hk,dW,df,jh,bM]
 congr 1
 simp only[atT,bV,az]
theorem deg_le (l:List T4) (x:Nat):deg l x≤l.length:=dQ
end Go.Spl
namespace Go.Proofs.YthbmhbldmcbnpaaGreatDoor
open Go.Am
open Go.Sort (swp ltInt)
theorem cnan_ok {h:AH}{x:Int}:C prg 104 [.int .i64 x] h λv h'=>v=.bool false∧h'=h:=by
 refine NX pf104 ?_
 refine ah (ak (Mi0) ?_)
 have e:(!decide (x=x))=false:=by simp
 refine ah (ak (Mi1 e) ?_)
 exact aV ⟨.bool false,(by simp only[rs,rf104,am,aC,simprocAttr,bI,decide_true]<;>rfl),rfl,rfl⟩
theorem Jk {h:AH}{x y:Int}:C prg 82 [.int .i64 x,.int .i64 y] h λv h'=>v=.bool (ltInt x y)∧h'=h:=by
 refine NX pf82 ?_
 refine ah (ak (Mi0) ?_)
 refine ah (bF (GN ?_))
 simp only[am,aC,simprocAttr,bI]
 refine G.call ?_
 simp only[am,aC,simprocAttr,bI]
 refine cnan_ok.mono λv h' ⟨ev,eh⟩=>?_
 subst ev eh
 refine bp (by simp only[am,aC,simprocAttr,bI]; rfl) ?_
 exact aV ⟨.bool (ltInt x y),(by simp only[rs,rf82,am,aC,simprocAttr,bI,ltInt]<;>rfl),rfl,rfl⟩
open Go.Sort (insInner insOuter insertionSort)
open Go.Am
open Go.Sort (swp ltInt siftDown heapBuild heapPop heapSort)
open Go.Am
open Go.Sort (swp ltInt reverseLoop reverseRange scanUp scanDown partLoop partition partEqLoop partitionEqual scanUp_spec scanDown_spec scanUp_ge scanDown_le partLoop_eq partEqLoop_eq)
open Go.Am
open Go.Sort (swp ltInt scanSorted shiftDown shiftUp partialIns partialInsertionSort fixDown fixUp partialIns_succ)
open Go.Am
open Go.Sort (swp ltInt PermIn)
open Go.Am
open Go.Sort (swp ltInt PermIn swp_permIn permIn_refl permIn_trans)
theorem Nb {n:Nat} (h:n<2 ^ 64):IntKind.u64.wrap ((n:Nat):Int)=((n:Nat):Int):=IntWalk.u64_in _ ⟨om,om⟩
def xr (a b:Int):Int:=IntKind.u64.wrap ((BitVec.ofInt 64 a ^^^ BitVec.ofInt 64 b).toNat)
theorem NS {a b:Int}:du .xor .no (.int .u64 a) (.int .u64 b)=some (.int .u64 (xr a b)):=rfl
open Go.Am
theorem Hk {h:AH}{x:Int}:C prg 83 [.int .i64 x] h λv h'=>v=.bool false∧h'=h:=by
 refine NX pf83 ?_
 refine ah (ak (Mi0) ?_)
 have e:(!decide (x=x))=false:=by simp
 refine ah (ak (Mi1 e) ?_)
 exact aV ⟨.bool false,(by simp only[rs,rf83,am,aC,simprocAttr,bI,decide_true]<;>rfl),rfl,rfl⟩
theorem vY {xs:List Int}{t:Int}{i:Nat} (hi:i≤xs.length) (h1:∀ k (hk:k<xs.length),k<i→xs[k]<t) (h2:∀ k (hk:k<xs.length),i≤k→¬ xs[k]<t):(xs.countP λu=>decide (u<t))=i:=by
 have e:=dW (p:=λu=>decide (u<t)) (l₁:=xs.take i) (l₂:=xs.drop i)
 rw[bP] at e
 rw[e]
 have a:(xs.take i).countP (λu=>decide (u<t))=(xs.take i).length:=by
  rw[tv]
  intro u hu
  obtain⟨k,hk,rfl⟩:=im.1 hu
  rw[bz] at hk
  rw[List.getElem_take]
  exact aq (h1 k om om)
 have b:(xs.drop i).countP (λu=>decide (u<t))=0:=by
  rw[yA]
  intro u hu
  obtain⟨k,hk,rfl⟩:=im.1 hu
  rw[fh] at hk
  rw[List.getElem_drop]
  simpa using h2 (i+k) om om
 rw[a,b,bz]
 omega
theorem sQ {h:AH}{v:AV}{xs:List Int}{t:Int} (hv:SlI h v xs) (hs:xs.Pairwise (·≤·)) (hl:xs.length<2 ^ 40) :
 C prg 60 [v,.int .i64 t] h λr h'=>r=.tup [.int .i64 ((xs.countP (λu=>decide (u<t)):Nat):Int),.bool (decide (t∈xs))]∧h'=h:=by
 have el:=hv.len
 rw[ar] at el
 have hle:∀ i j (hi:i<xs.length) (hj:j<xs.length),i≤j→xs[i]≤xs[j]:=λi j hi hj hij=>by
  rcases dl i j with q|q
  ·exact dh.1 hs i j hi hj q
  ·have:i=j:=om
   subst this
   exact Int.le_refl _
 refine NX pf60 ?_
 refine ah (ak (Mi0) ?_)
 refine ah (ak (Mi1 el) ?_)
 refine ah (ak (Mi0) ?_)
 refine ah (bL (fI (λn ts h1=>∃ i j:Nat,n=j-i∧i≤j∧j≤xs.length∧h1=h∧(∀ k (hk:k<xs.length),k<i→xs[k]<t)∧(∀ k (hk:k<xs.length),j≤k→¬ xs[k]<t) ∧
  cG ts 0=v∧cG ts 1=.int .i64 t∧cG ts 6=.int .i64 (xs.length:Nat)∧cG ts 7=.int .i64 (i:Nat)∧cG ts 8=.int .i64 (j:Nat)) ?_ (n:=xs.length)
  ⟨0,xs.length,rfl,ff _,ae _,rfl,λk hk q=>absurd q (bm _),λk hk q=>by omega,Zi0,Zi0,Zi0,Zi1 @aW,Zi0⟩))
 rintro n ts h1 ⟨i,j,rfl,hij,hj,rfl,q1,q2,e0,e1,e6,e7,e8⟩
 refine ah (ah (ak (M2 e7 e8) ?_))
 refine jE (t:=decide (i<j)) (Z1 @bw) (λq=>?_) λq=>?_
 ·have q:i<j:=cm q
  have w1:IntKind.i64.wrap (((i:Nat):Int)+((j:Nat):Int))=((i+j:Nat):Int):=by rw[fp om om]; omega
  have w2:IntKind.u64.wrap ((i+j:Nat):Int)=((i+j:Nat):Int):=Nb om
  have w3:du .shr .no (.int .u64 ((i+j:Nat):Int)) (.int .u64 1)=some (.int .u64 (((i+j) / 2:Nat):Int)):=Aw (k:=1) om
  have w4:IntKind.i64.wrap (((i+j) / 2:Nat):Int)=(((i+j) / 2:Nat):Int):=fp om om
  refine be (bL (ah (ak (M6 e7 e8 w1 w2 w3 w4) ?_)))
  have hm:(i+j) / 2<xs.length:=om
  have hm1:i≤(i+j) / 2:=om
  have hm2:(i+j) / 2<j:=om
  generalize (i+j) / 2=m at *
  obtain⟨b1,p1,a1,r1,_⟩:=hv.at1 (dp (f:=eI) hm)
  refine ah (bF (bg 5 (M4 e0 e1 a1 r1) rfl (Z4 e0 e1 a1 r1) (M4 e0 e1 a1 r1) (Jk) λv h' hq=>?_))
  obtain⟨rfl,rfl⟩:=hq
  refine bp (by simp only[am,aC,simprocAttr]; rfl) ?_
  refine jE (t:=Go.Sort.ltInt xs[m] t) (Z0) (λp=>?_) λp=>?_
  ·have p:xs[m]<t:=cm p
   have w5:IntKind.i64.wrap (((m:Nat):Int)+1)=((m+1:Nat):Int):=fp om om
   refine ak (M1 w5) ?_
   refine⟨j-(m+1),om,m+1,j,rfl,om,hj,rfl,λk hk hk2=>?_,q2,Z1 e0,Z1 e1,Z1 e6,Z1 w5,Z1 e8⟩
   have:=hle k m hk hm om
   omega
  ·have p:¬ xs[m]<t:=eO p
   refine ak (M0) ?_
   refine⟨m-i,om,i,m,rfl,om,om,rfl,q1,λk hk hk2=>?_,Z1 e0,Z1 e1,Z1 e6,Z1 e7,Z0⟩
   have:=hle m k hm hk om
   omega
 ·have q:¬ i<j:=eO q
  have:j=i:=om
  subst this
  have ec:=vY hj q1 q2
  refine eX ⟨λ_=>?_,λe=>absurd rfl e⟩
  by_cases c1:j<xs.length
  ·have d1:decide (((j:Nat):Int)<((xs.length:Nat):Int))=true:=aq om
   obtain⟨b1,p1,a1,r1,_⟩:=hv.at1 (dp (f:=eI) c1)
   by_cases c2:xs[j]=t
   ·have d2:decide (xs[j]=t)=true:=aq c2
    refine ah (bF (ee 16 (M8 e0 e1 e6 e7 d1 a1 r1 d2) rfl (Z2 d1 d2) (ee 2 (M2 d1 d2) rfl (Z2 d1 d2) ?_)))
    refine bp (M2 d1 d2) ?_
    refine aV ⟨_,(by simp only[rs,rf60,am,aC,simprocAttr]<;>rfl),?_,rfl⟩
    rw[ec,aq (c2▸aO c1)]
   ·have d2:decide (xs[j]=t)=false:=ai c2
    refine ah (bF (bg 16 (M8 e0 e1 e6 e7 d1 a1 r1 d2) rfl (Z8 e0 e1 e6 e7 d1 a1 r1 d2) (M8 e0 e1 e6 e7 d1 a1 r1 d2) (Hk) λv h' hq=>?_))
    obtain⟨rfl,rfl⟩:=hq
    refine ee 2 (M2 d1 d2) rfl (Z2 d1 d2) ?_
    refine bp (M2 d1 d2) ?_
    refine aV ⟨_,(by simp only[rs,rf60,am,aC,simprocAttr]<;>rfl),?_,rfl⟩
    rw[ec,ai]
    intro hm
    obtain⟨k,hk,ek⟩:=im.1 hm
    have f1:=q2 j c1 (ae _)
    by_cases hkj:k<j
    ·have:=q1 k hk hkj; omega
    ·have:=hle j k c1 hk om; omega
  ·have d1:decide (((j:Nat):Int)<((xs.length:Nat):Int))=false:=ai om
   refine ah (bF (ee 16 (M5 e0 e1 e6 e7 d1) rfl (Z1 d1) (ee 2 (M1 d1) rfl (Z1 d1) ?_)))
   refine bp (M1 d1) ?_
   refine aV ⟨_,(by simp only[rs,rf60,am,aC,simprocAttr]<;>rfl),?_,rfl⟩
   rw[ec,ai]
   intro hm
   obtain⟨k,hk,ek⟩:=im.1 hm
   have:=q1 k hk om
   omega
open Go.Am
theorem slV_nils {h:AH}{e:Nat}:slV h e .nils none (some (.int .i64 0)) none=some .nils:=rfl
open Go.Am
def okE (v:Int) (e:Int×Int):Bool:=decide (0≤e.1)&&decide (0≤e.2)&&decide (e.1<v)&&decide (e.2<v)
def fE (v:Int) (es:List (Int×Int)):Bool:=decide (1≤v)&&decide (v≤64)&&decide (es.length≤128)&&es.all (okE v)
def xy (v x:Int):Bool:=decide (x<0)||decide (v≤x)
theorem xT {h:AH}{b:Nat}{x n:Int} (hr:aj h b 0 1=some [.int .i64 n]):C prg 73 [.int .i64 x,.ptr b 0] h λr h'=>r=.bool (xy n x)∧h'=h:=by
 refine NX pf73 ?_
 refine ah (ak (Mi0) ?_)
 by_cases q:x<0
 ·have c1:decide (x<0)=true:=aq q
  refine ah (ak (Mi1 c1) ?_)
  exact aV ⟨.bool true,(by simp only[rs,rf73,am,aC,simprocAttr,c1]<;>rfl),by simp [xy,q],rfl⟩
 ·have c1:decide (x<0)=false:=ai q
  refine ah (ak (Mi2 c1 hr) ?_)
  exact aV ⟨.bool (decide (n≤x)),(by simp only[rs,rf73,am,aC,simprocAttr,c1]<;>rfl),by simp [xy,q],rfl⟩
theorem FR {h:AH}{b s:Nat}{x:Int×Int}{n:Int} (hr:aj h b 0 1=some [.int .i64 n]) (hs:aj h s 0 1=some [.fn 73 [.ptr b 0]]) (hb:b<h.next) (hsn:s<h.next) :
 C prg 74 ([.agg (eE x)]++[.ptr s 0]) h λr h'=>r=.bool (!okE n x)∧Ext h.next h h':=by
 refine NX pf74 ?_
 have fin:(!okE n x)=(xy n x.1||xy n x.2):=by
  obtain⟨x1,x2⟩:=x
  simp only[okE,xy]
  by_cases a1:x1<0<;>by_cases a2:x2<0<;>by_cases a3:n≤x1<;>by_cases a4:n≤x2<;>simp [a1,a2,a3,a4]<;>omega
 rw[fin]
 refine ah (ak (by simp only[am,aC,simprocAttr,bI,eE]<;>rfl) ?_)
 have ex:Ext h.next h (h.new (.cells [.int .i64 x.1,.int .i64 x.2] 2 false)):=NU (ae _)
 have g:(h.new (.cells [.int .i64 x.1,.int .i64 x.2] 2 false)).get h.next=some (.cells [.int .i64 x.1,.int .i64 x.2] 2 false):=by rw[AH.get_new,if_pos rfl]
 generalize h.new (.cells [.int .i64 x.1,.int .i64 x.2] 2 false)=h1 at *
 have r1:aj h1 h.next 0 1=some [.int .i64 x.1]:=by rw[aP g]; rfl
 have r2:aj h1 h.next 1 1=some [.int .i64 x.2]:=by rw[aP g]; rfl
 have hr1:aj h1 b 0 1=some [.int .i64 n]:=by rw[← hr]; exact bG (ex.gt b hb)
 have hs1:aj h1 s 0 1=some [.fn 73 [.ptr b 0]]:=by rw[← hs]; exact bG (ex.gt s hsn)
 refine ah (bF (mL 3 (by simp only[am,aC,simprocAttr,bI,eE,hs1,r1]<;>rfl) rfl (by simp only[am,aC,simprocAttr,bI,eE,hs1,r1]) (by simp only[am,aC,simprocAttr,bI,eE,hs1,r1]<;>rfl) (by simp only[am,aC,simprocAttr,bI,eE,hs1,r1]<;>rfl) (xT (x:=x.1) hr1) λr h2 hq=>?_))
 obtain⟨rfl,rfl⟩:=hq
 cases q:xy n x.1 with
 | true =>
   refine G.nocallv 4 (M0) rfl (Z0) ?_
   refine bp (M0) ?_
   exact aV ⟨.bool true,(by simp only[rs,rf74,am,aC,simprocAttr]<;>rfl),rfl,ex⟩
 | false =>
   refine mL 4 (by simp only[am,aC,simprocAttr,bI,eE,hs1,r2]<;>rfl) rfl (by simp only[am,aC,simprocAttr,bI,eE,hs1,r2]) (by simp only[am,aC,simprocAttr,bI,eE,hs1,r2]<;>rfl) (by simp only[am,aC,simprocAttr,bI,eE,hs1,r2]<;>rfl) (xT (x:=x.2) hr1) λr h3 hq=>?_
   obtain⟨rfl,rfl⟩:=hq
   refine bp (M0) ?_
   exact aV ⟨.bool (xy n x.2),(by simp only[rs,rf74,am,aC,simprocAttr]<;>rfl),rfl,ex⟩
theorem vO {h:AH}{n:Int}{ev:AV}{es:List (Int×Int)} (he:SlE h ev es) (hl:es.length<2 ^ 40):C prg 49 [.agg [.int .i64 n,ev]] h λr h'=>r=.bool (fE n es)∧Ext h.next h h':=by
 refine NX pf49 ?_
 obtain⟨ec,eo⟩:=he.cells
 have hlen:=he.len
 rw[ar] at hlen
 refine ah (ak (Mi0) ?_)
 have ex0:Ext h.next h (h.new (.cells [.int .i64 n,ev] 2 false)):=NU (ae _)
 have g0:(h.new (.cells [.int .i64 n,ev] 2 false)).get h.next=some (.cells [.int .i64 n,ev] 2 false):=by rw[AH.get_new,if_pos rfl]
 have n0:(h.new (.cells [.int .i64 n,ev] 2 false)).next=h.next+1:=rfl
 generalize h.new (.cells [.int .i64 n,ev] 2 false)=h0 at *
 have gN:(h0.new (.cells [.nilf] 1 false)).get h0.next=some (.cells [.nilf] 1 false):=by rw[AH.get_new,if_pos rfl]
 have w1:bD (h0.new (.cells [.nilf] 1 false)) h0.next 0 [.fn 73 [.ptr h.next 0]]=some ((h0.new (.cells [.nilf] 1 false)).put h0.next (.cells [.fn 73 [.ptr h.next 0]] 1 false)):=by rw[et gN]; rfl
 have u1:Upd (h0.new (.cells [.nilf] 1 false)) ((h0.new (.cells [.nilf] 1 false)).put h0.next (.cells [.fn 73 [.ptr h.next 0]] 1 false)) h0.next (.cells [.fn 73 [.ptr h.next 0]] 1 false):=NW gN
 refine ah (ak (Mi1 w1) ?_)
 have ex1:Ext h0.next h0 ((h0.new (.cells [.nilf] 1 false)).put h0.next (.cells [.fn 73 [.ptr h.next 0]] 1 false)):=(NU (ae _)).trans (u1.ext (ae _))
 have n1:((h0.new (.cells [.nilf] 1 false)).put h0.next (.cells [.fn 73 [.ptr h.next 0]] 1 false)).next=h0.next+1:=rfl
 have g1:=u1.get
 generalize (h0.new (.cells [.nilf] 1 false)).put h0.next (.cells [.fn 73 [.ptr h.next 0]] 1 false)=h1 at *
 clear gN w1 u1
 have g0':h1.get h.next=some (.cells [.int .i64 n,ev] 2 false):=by rw[ex1.gt _ om]; exact g0
 have r1:aj h1 h.next 0 1=some [.int .i64 n]:=by rw[aP g0']; rfl
 have r2:aj h1 h.next 1 1=some [ev]:=by rw[aP g0']; rfl
 have r3:aj h1 h0.next 0 1=some [.fn 73 [.ptr h.next 0]]:=by rw[aP g1]; rfl
 have ex:Ext h.next h h1:=ex0.trans (ex1.mono om)
 have he1:=he.ext ex (ae _)
 by_cases q1:0<n
 case neg =>
  have c1:decide (0<n)=false:=ai q1
  refine ah (bF (ee 18 (Mi2 r1 c1) rfl (Z1 c1) ?_))
  refine bp (M0) ?_
  exact aV ⟨.bool false,(by simp only[rs,rf49,am,aC,simprocAttr]<;>rfl),by simp [fE]; omega,ex⟩
 have c1:decide (0<n)=true:=aq q1
 by_cases q2:n≤64
 case neg =>
  have c2:decide (n≤64)=false:=ai q2
  refine ah (bF (ee 18 (Mi3 r1 c1 c2) rfl (Z0) ?_))
  refine bp (M0) ?_
  exact aV ⟨.bool false,(by simp only[rs,rf49,am,aC,simprocAttr]<;>rfl),by simp [fE,q2],ex⟩
 have c2:decide (n≤64)=true:=aq q2
 by_cases q3:es.length≤128
 case neg =>
  have c3:decide (((es.length:Nat):Int)≤128)=false:=ai om
  refine ah (bF (ee 18 (Mi6 r1 r2 hlen c1 c2 c3) rfl (Z0) ?_))
  refine bp (M0) ?_
  exact aV ⟨.bool false,(by simp only[rs,rf49,am,aC,simprocAttr]<;>rfl),by simp [fE,q3],ex⟩
 have c3:decide (((es.length:Nat):Int)≤128)=true:=aq om
 have hcf:∀ x∈es,∀ h',Ext h1.next h1 h'→C prg 74 ([.agg (eE x)]++[.ptr h0.next 0]) h' λr h''=>r=.bool (!okE n x)∧Ext h'.next h' h'':=λx _ h' hx =>
  FR (by rw[← r1]; exact bG (hx.gt _ om)) (by rw[← r3]; exact bG (hx.gt _ om)) (by have:=hx.nx; omega) (by have:=hx.nx; omega)
 refine ah (bF (bg 18 (Mi6 r1 r2 hlen c1 c2 c3) rfl (Zi6 r1 r2 hlen c1 c2 c3) (Mi6 r1 r2 hlen c1 c2 c3) (uN he1 hl hcf) λr h2 hq=>?_))
 obtain⟨rfl,ex2⟩:=hq
 refine bp (M0) ?_
 refine aV ⟨_,(by simp only[rs,rf49,am,aC,simprocAttr]<;>rfl),?_,ex.trans (ex2.mono ex.nx)⟩
 have c4:decide (1≤n)=true:=aq om
 have c5:(!es.any λx=>!okE n x)=es.all (okE n):=by
  rw[List.not_any_eq_all_not]
  simp
 simp only[fE,c4,c2,q3,decide_true,fK,c5]
open Go.Am
def Rw (h:AH) (lo:Nat) (vs:List AV) (xss:List (List Int)):Prop :=
 vs.length=xss.length∧(∀ (i:Nat) (v:AV) (xs:List Int),vs[i]?=some v→xss[i]?=some xs→IsSl h 1 lo v (xs.flatMap eI))∧∀ (i j b n b' n':Nat),i≠j→vs[i]?=some (AV.sl b 0 n n)→vs[j]?=some (AV.sl b' 0 n' n')→b≠b'
theorem Rw.cong {h h':AH}{lo:Nat}{vs:List AV}{xss:List (List Int)} (hr:Rw h lo vs xss) (hk:∀ c,lo≤c→c<h.next→h'.get c=h.get c):Rw h' lo vs xss :=
 ⟨hr.1,λi v xs h1 h2=>(hr.2.1 i v xs h1 h2).cong λb n e hb=>hk b hb ((hr.2.1 i v xs h1 h2).lt e),hr.2.2⟩
theorem Rw.lt {h:AH}{lo:Nat}{vs:List AV}{xss:List (List Int)} (hr:Rw h lo vs xss) {j b n:Nat} (hj:vs[j]?=some (AV.sl b 0 n n)):b<h.next∧lo≤b:=by
 have hjl:j<vs.length:=(aB.1 hj).1
 have:=hr.2.1 j _ (xss[j]'(by rw[← hr.1]; exact hjl)) hj (au _)
 rcases this with ⟨q,_⟩|⟨b',n',q1,q2,q3,_⟩
 ·cases q
 ·cases q2; exact⟨AH.lt_of_get q3,q1⟩
theorem Rw.push {h:AH}{lo:Nat}{vs:List AV}{xss:List (List Int)} (hr:Rw h lo vs xss) {i x:Nat}{k:Int}{xs:List Int} (hi:xss[i]?=some xs) (hlo:lo≤h.next) (hx:h.get x=some (.cells [.int .i64 k] 1 false)) (hxl:lo≤x) (hxn:∀ (j b n:Nat),vs[j]?=some (AV.sl b 0 n n)→b≠x) (hl:xs.length<2 ^ 30) :
 ∃ v v' h',vs[i]?=some v∧lP h 1 8 v (.sl x 0 1 1)=some (v',h')∧v'.cells=[v']∧v'.one=true∧Rw h' lo (vs.set i v') (xss.set i (xs++[k]))∧Ext lo h h'∧h'.next=h.next+1∧∀ c,c<h.next→(∀ (j b n:Nat),vs[j]?=some (AV.sl b 0 n n)→b≠c)→h'.get c=h.get c∧∀ (j b n:Nat),(vs.set i v')[j]?=some (AV.sl b 0 n n)→b≠c:=by
 obtain⟨r1,r2,r3⟩:=hr
 have hil:i<xss.length:=(aB.1 hi).1
 have hv:vs[i]?=some vs[i]:=au om
 have hlen:(xs.flatMap eI).length=xs.length:=by rw[dZ (f:=eI) (e:=1) (λ_=>rfl)]; omega
 obtain⟨v',h',a1,a2,a3,a4,a5,a6,a7⟩:=(r2 i _ xs hv hi).app (bytes:=8) hlo om hx hxl (λb n e=>hxn i b n (by rw[hv,e])) rfl rfl (by rw[hlen]; unfold aQ; omega) (by rw[hlen]; unfold aQ; omega)
 obtain⟨c1,c2⟩:=a2.cells
 refine⟨_,v',h',hv,a1,c1,c2,⟨by rw[dc,dc,r1],?_,?_⟩,a3,a5,λc hc hne=>⟨a6 c hc λb n e=>(hne i b n (by rw[hv,e])).symm,λj b n hj=>?_⟩⟩
 rotate_right
 ·by_cases e:i=j
  ·subst e
   rw[fe om,aa,a4] at hj
   cases hj
   omega
  ·rw[eR e] at hj
   exact hne j b n hj
 ·intro j w ys hw hy
  by_cases e:i=j
  ·subst e
   rw[fe om,aa] at hw hy
   subst hw hy
   rw[cI]
   exact a2
  ·rw[eR e] at hw hy
   refine (r2 j w ys hw hy).cong λb n eb hb=>a6 b ((r2 j w ys hw hy).lt eb) λb' n' e'=>?_
   exact (r3 i j b' n' b n e (by rw[hv,e']) (by rw[hw,eb])).symm
 ·have hlt:∀ j b n,vs[j]?=some (AV.sl b 0 n n)→b<h.next:=λj b n hj=>by
   have hjl:j<vs.length:=(aB.1 hj).1
   exact (r2 j _ xss[j] hj (au om)).lt rfl
  intro j1 j2 b n b' n' hne h1 h2
  by_cases e:i=j1
  ·subst e
   rw[fe om,aa,a4] at h1
   rw[eR hne] at h2
   have:=hlt _ _ _ h2
   cases h1
   omega
  ·rw[eR e] at h1
   by_cases e2:i=j2
   ·subst e2
    rw[fe om,aa,a4] at h2
    have:=hlt _ _ _ h1
    cases h2
    omega
   ·rw[eR e2] at h2
    exact r3 _ _ _ _ _ _ hne h1 h2
theorem pn {n:Nat}{es:List (Int×Int)} (hm:fE (n:Nat) es=true):1≤n∧n≤64∧es.length≤128∧es.all (okE n)=true:=by
 simp only[fE,aH,az] at hm
 exact⟨om,om,om,hm.2⟩
theorem AJ {n:Nat}{e:Int×Int} (h:okE n e=true):∃ a b:Nat,e=(((a:Nat):Int),((b:Nat):Int))∧a<n∧b<n:=by
 obtain⟨x,y⟩:=e
 simp only[okE,aH,az] at h
 exact⟨x.toNat,y.toNat,by rw[Int.toNat_of_nonneg om,Int.toNat_of_nonneg om],om,om⟩
open Go.Am
open Go.Am
open Go.Am Go.Sort
open Go.Am
open Go.Sort (swp ltInt PermIn SortedIn Below permIn_refl permIn_trans insertionSort_holds heapSort_holds partialInsertionSort_holds partition_holds partitionEqual_holds reverseRange_holds swo_ltInt round_eq round_part)
theorem wP {cs a v:List AV}{o:Nat} (hr:o+a.length≤cs.length) (hl:v.length=a.length):dj (dj cs o a) o v=dj cs o v:=by
 refine dg λi=>?_
 have hs:=qT hr
 rw[kD (cs:=dj cs o a) (by rw[hs]; omega),kD (cs:=cs) (vs:=a) hr,kD (cs:=cs) (vs:=v) om]
 by_cases q:o≤i∧i<o+v.length
 ·rw[if_pos q,if_pos q]
 ·rw[if_neg q,if_neg q,if_neg om]
theorem Hj {h:AH}{b o c:Nat}{cs:List AV}{d:Array Int} (hg:h.get b=some (Dr cs o d)) (hr:o+d.size≤cs.length) (hs:d.size<2 ^ 38) :
 C prg 58 [.sl b o d.size c] h λv h'=>Mod h.next h h' b (Dr cs o (d.toList.mergeSort (λx y=>decide (x≤y))).toArray):=by
 have hi:(ints d).length=d.size:=by simp [ints]
 have hsp:(dj cs o (ints d)).length=cs.length:=qT om
 have hsl:(d.toList.mergeSort λx y=>decide (x≤y)).length=d.size:=by rw[tu,fO]
 have hg':h.get b=some (.cells (dj cs o (ints d)) 1 false):=hg
 have hrd:aj h b o d.size=some (d.toList.map (AV.int .i64)):=by
  rw[aP hg',if_pos om]
  congr 1
  refine dg λi=>?_
  rw[cE,dV,kD om]
  by_cases q:i<d.size
  ·rw[if_pos q,if_pos om,Nat.add_sub_cancel_left]
   rfl
  ·rw[if_neg q,bu (by simp; omega)]
 have hwr:bD h b o (th d.toList)=some (h.put b (Dr cs o (d.toList.mergeSort (λx y=>decide (x≤y))).toArray)):=by
  have hl:(th d.toList).length=d.size:=by unfold th; rw[ar,hsl]
  rw[et hg',if_pos om,wP om om]
  rfl
 exact BS.srt ps58 hrd hwr om ⟨_,_,rfl,(NW hg).mod⟩
end Go.Proofs.YthbmhbldmcbnpaaGreatDoor
