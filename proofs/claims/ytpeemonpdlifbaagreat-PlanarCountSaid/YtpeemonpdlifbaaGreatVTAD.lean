/- reach.Of, Has, each, grow, Parts (of a whole graph). -/
import Derived.Test.YtpeemonpdlifbaaGreatVTAC
set_option linter.all false
namespace Go.Proofs.YtpeemonpdlifbaaGreat
open Go.Am
def kA (a b:Int):Int:=IntKind.u64.wrap ((BitVec.ofInt 64 a ||| BitVec.ofInt 64 b).toNat)
def BK (a b:Int):Int:=IntKind.u64.wrap ((BitVec.ofInt 64 a &&& BitVec.ofInt 64 b).toNat)
def qV (a x:Int):Int:=a.fdiv (2 ^ (min x.toNat IntKind.u64.bits))
def tP (a x:Int):Int:=IntKind.u64.wrap (a*2 ^ (min x.toNat IntKind.u64.bits))
def iK (s x:Int):Bool:=decide (0≤x)&&(decide (x<64)&&decide (BK (qV s x) 1=1))
def ofU (x:Int):Int:=if 0≤x∧x<64 then kA 0 (tP 1 x) else 0
theorem bin_or64 {a b:Int}:fM .or .no (.int .u64 a) (.int .u64 b)=some (.int .u64 (kA a b)):=rfl
theorem bin_and64 {a b:Int}:fM .and .no (.int .u64 a) (.int .u64 b)=some (.int .u64 (BK a b)):=rfl
theorem Ah {a x:Int} (h:0≤x):fM .shr .no (.int .u64 a) (.int .i64 x)=some (.int .u64 (qV a x)):=by
 have e:fM .shr .no (.int .u64 a) (.int .i64 x)=yV .shr .u64 a x:=by simp [fM]
 have hk0:¬ x<0:=om
 rw[e]
 simp only[yV,hk0,if_false,qV]
theorem Ai {a x:Int} (h:0≤x):fM .shl .no (.int .u64 a) (.int .i64 x)=some (.int .u64 (tP a x)):=by
 have e:fM .shl .no (.int .u64 a) (.int .i64 x)=yV .shl .u64 a x:=by simp [fM]
 have hk0:¬ x<0:=om
 rw[e]
 simp only[yV,hk0,if_false,tP]
theorem DY (z:Int):0≤IntKind.u64.wrap z∧IntKind.u64.wrap z<2 ^ 64:=by
 simp only[IntKind.wrap,IntKind.bits,IntKind.signed,ee,bh,if_false]
 omega
theorem rR {a b:Nat} (ha:a<2 ^ 64) (hb:b<2 ^ 64):kA (a:Nat) (b:Nat)=((a ||| b:Nat):Int):=by
 have h:a ||| b<2 ^ 64:=DM ha hb
 unfold kA
 have e:(BitVec.ofInt 64 ((a:Nat):Int) ||| BitVec.ofInt 64 ((b:Nat):Int)).toNat=a ||| b:=by
  rw[BitVec.toNat_or,BitVec.ofInt_natCast,BitVec.ofInt_natCast,BitVec.toNat_ofNat,BitVec.toNat_ofNat,bR ha,bR hb]
 rw[e]
 exact IntWalk.u64_in _ ⟨om,om⟩
def inU (z:Int):Prop:=0≤z∧z<2 ^ 64
theorem qB {a b:Int} (ha:inU a) (hb:inU b):a≤kA a b∧b≤kA a b∧inU (kA a b):=by
 obtain⟨a1,a2⟩:=ha
 obtain⟨b1,b2⟩:=hb
 obtain⟨x,rfl⟩:=fJ a1
 obtain⟨y,rfl⟩:=fJ b1
 have hx:x<2 ^ 64:=om
 have hy:y<2 ^ 64:=om
 rw[rR hx hy]
 have h1:x≤x ||| y:=Nat.left_le_or
 have h2:y≤x ||| y:=Nat.right_le_or
 have h3:x ||| y<2 ^ 64:=DM hx hy
 unfold inU
 omega
theorem rG {h:AH}{s x:Int}:C prg 38 [.int .u64 s,.int .i64 x] h λr h'=>r=.bool (iK s x)∧h'=h:=by
 refine LB pf38 ?_
 refine aj (aB (Mi0) ?_)
 by_cases q1:0≤x
 ·have c1:decide (0≤x)=true:=aL q1
  by_cases q2:x<64
  ·have c2:decide (x<64)=true:=aL q2
   refine aj (aB (by simp only[am,aF,simprocAttr,bH,c1,c2,Ah q1,bin_and64]<;>rfl) ?_)
   exact bG ⟨_,(by simp only[rs,rf38,am,aF,simprocAttr]<;>rfl),by rw[iK,c1,c2]; rfl,rfl⟩
  ·have c2:decide (x<64)=false:=aJ q2
   refine aj (aB (Mi2 c1 c2) ?_)
   exact bG ⟨_,(by simp only[rs,rf38,am,aF,simprocAttr]<;>rfl),by rw[iK,c1,c2]; rfl,rfl⟩
 ·have c1:decide (0≤x)=false:=aJ q1
  refine aj (aB (Mi1 c1) ?_)
  exact bG ⟨_,(by simp only[rs,rf38,am,aF,simprocAttr]<;>rfl),by rw[iK,c1]; rfl,rfl⟩
theorem FX (x:Int):iK 0 x=false:=by
 unfold iK
 have:BK (qV 0 x) 1=0:=by
  unfold qV
  rw[Int.zero_fdiv]
  decide
 rw[this]
 simp
theorem Iw {h:AH}{lb:Nat}{x:Int} (hg:h.get lb=some (.cells [.int .i64 x] 1 false)):C prg 58 [.sl lb 0 1 1] h λr h'=>r=.int .u64 (ofU x)∧h'=h:=by
 refine LB pf58 ?_
 refine aj (aB (Mi0) ?_)
 refine aj (aj (aB (Mi0) ?_))
 have i0:fU 0 1=some 0:=rfl
 refine fB (α:=Int) (N:=1) (λ_ s=>[(2,.int .u64 s),(5,.sl lb 0 1 1)]) (λk s h'=>h'=h∧s=if k=0 then 0 else ofU x) 0 (λ_ _=>rfl) om (Hi0) ⟨rfl,rfl⟩ ?_ ?_
 ·rintro k s ts h1 hk ⟨rfl,j2⟩ ⟨ei,en,e2,e5,-⟩
  simp only at ei en e2 e5
  obtain rfl:k=0:=om
  rw[if_pos rfl] at j2
  subst j2
  have r0:ar h1 lb 0 1=some [.int .i64 x]:=bq hg rfl
  refine aj (aB (M4 e5 ei i0 r0) ?_)
  by_cases q1:0≤x
  ·have c1:decide (0≤x)=true:=aL q1
   by_cases q2:x<64
   ·have c2:decide (x<64)=true:=aL q2
    refine aj (aB (M3 e2 c1 c2) ?_)
    refine cX (Z0) ?_
    refine aB (by simp only[am,aF,simprocAttr,e2,Ai q1,bin_or64]<;>rfl) ?_
    exact⟨kA 0 (tP 1 x),⟨rfl,by rw[if_neg om,ofU,if_pos ⟨q1,q2⟩]⟩,by simp only[hl,am,aF,simprocAttr,ei,en,e5]⟩
   ·have c2:decide (x<64)=false:=aJ q2
    refine aj (aB (M3 e2 c1 c2) ?_)
    refine dL (Z0) ?_
    exact bK ⟨0,⟨rfl,by rw[if_neg om,ofU,if_neg λq=>q2 q.2]⟩,by simp only[hl,am,aF,simprocAttr,ei,en,e2,e5]⟩
  ·have c1:decide (0≤x)=false:=aJ q1
   refine aj (aB (M2 e2 c1) ?_)
   refine dL (Z0) ?_
   exact bK ⟨0,⟨rfl,by rw[if_neg om,ofU,if_neg λq=>q1 q.1]⟩,by simp only[hl,am,aF,simprocAttr,ei,en,e2,e5]⟩
 ·rintro s ts h1 ⟨rfl,j2⟩ ⟨e2,e5,-⟩
  simp only at e2 e5
  rw[if_neg om] at j2
  subst j2
  refine aj (aB (M1 e2) ?_)
  exact bG ⟨_,(by simp only[rs,rf58,am,aF,simprocAttr]<;>rfl),rfl,rfl⟩
theorem AY (x:Int):inU (ofU x):=by
 unfold ofU
 split
 ·exact (qB (by unfold inU; omega) (DY _)).2.2
 ·unfold inU; omega
def uI (z:Int):List AV:=[.int .u64 z]
theorem qJ (xs:List Int):xs.flatMap uI=xs.map (AV.int .u64):=by
 induction xs with
 | nil=>rfl
 | cons x r ih=>rw[fh,ih]; rfl
theorem nO (xs:List Int):(xs.flatMap uI).length=xs.length:=by rw[qJ,ak]
theorem GV {xs:List Int}{i:Nat} (hi:i<xs.length):(xs.flatMap uI)[i]?=some (.int .u64 (xs.getD i 0)):=by
 rw[qJ,aG,ah hi,ai,ah hi]
 rfl
theorem EG {xs:List Int}{i:Nat}{z:Int}:(xs.flatMap uI).set i (.int .u64 z)=(xs.set i z).flatMap uI:=by
 rw[qJ,qJ,kI]
def sS (n:Nat):List Int:=(List.range n).map λx=>ofU ((x:Nat):Int)
theorem Cw {h:AH}{n:Nat}{ev:AV}{E:List (Int×Int)} (he:SlE h ev E) (hm:gG (n:Nat) E=true) :
 C prg 35 [.agg [.int .i64 (n:Nat),ev]] h λr h'=>IsSl h' 1 h.next r ((sS n).flatMap uI)∧Ext h.next h h':=by
 obtain⟨ec,eo⟩:=he.cells
 obtain⟨m1,m2,m3,m4⟩:=jQ hm
 refine LB pf35 ?_
 refine aj (aB (Mi0) ?_)
 have x0:Ext h.next h (h.new (.cells [.int .i64 (n:Nat),ev] 2 false)):=Ly (ae _)
 have g0:(h.new (.cells [.int .i64 (n:Nat),ev] 2 false)).get h.next=some (.cells [.int .i64 (n:Nat),ev] 2 false):=by rw[AH.get_new,if_pos rfl]
 have n0:(h.new (.cells [.int .i64 (n:Nat),ev] 2 false)).next=h.next+1:=rfl
 generalize (h.new (.cells [.int .i64 (n:Nat),ev] 2 false))=h1 at *
 have rA:ar h1 h.next 0 2=some [.int .i64 (n:Nat),ev]:=by rw[bg g0]; rfl
 refine aj (aj (bO (bt 1 (Mi1 rA) rfl (Zi1 rA) (Mi1 rA) (qI (n:=((n:Nat):Int)) (he.ext x0 (ae _)) om) λr h2 hq=>?_)))
 obtain⟨rfl,x2⟩:=hq
 rw[hm]
 refine bI (M0) ?_
 refine dL (Z0) (bK ?_)
 have n2:=x2.nx
 have X2:Ext h.next h h2:=x0.trans (x2.mono om)
 have g2:h2.get h.next=some (.cells [.int .i64 (n:Nat),ev] 2 false):=by rw[x2.gt _ om]; exact g0
 have rN:ar h2 h.next 0 1=some [.int .i64 (n:Nat)]:=bq g2 rfl
 refine aj (aj (aB (Mi1 rN) ?_))
 refine fB (α:=AV) (N:=n) (λ_ a=>[(2,a)]) (λk a h'=>IsSl h' 1 h.next a (((List.range k).map λx=>ofU ((x:Nat):Int)).flatMap uI)∧Ext h.next h h') .nils (λ_ _=>rfl) om (Hi0) ⟨.inl ⟨rfl,rfl⟩,X2⟩ ?_ ?_
 ·rintro k a ts h3 hk ⟨j1,j2⟩ ⟨ei,en,e2,-⟩
  simp only at ei en e2
  refine aj (aB (M1 ei) ?_)
  have gx:(h3.new (.cells [.int .i64 ((k:Nat):Int)] 1 false)).get h3.next=some (.cells [.int .i64 ((k:Nat):Int)] 1 false):=by rw[AH.get_new,if_pos rfl]
  have nx3:(h3.new (.cells [.int .i64 ((k:Nat):Int)] 1 false)).next=h3.next+1:=rfl
  have xx3:Ext h.next h3 (h3.new (.cells [.int .i64 ((k:Nat):Int)] 1 false)):=Ly j2.nx
  refine bO (bt 3 (M2 e2 ei) rfl (Z2 e2 ei) (M2 e2 ei) (Iw gx) λr h4 hq=>?_)
  obtain⟨rfl,rfl⟩:=hq
  have hlen:(((List.range k).map λx=>ofU ((x:Nat):Int)).flatMap uI).length=k:=by rw[nO]; simp
  have j1':=j1.ext (Ly (o:=.cells [.int .i64 ((k:Nat):Int)] 1 false) (ae h3.next)) (ae _)
  generalize (h3.new (.cells [.int .i64 ((k:Nat):Int)] 1 false))=h4 at *
  have j2n:=j2.nx
  obtain⟨s',h5,a1,i1,x1,n1⟩:=j1'.push (bytes:=8) (uI (ofU ((k:Nat):Int))) om om rfl rfl (by rw[hlen]; unfold be; omega) (by rw[hlen]; unfold be; omega)
  rw[show uI (ofU ((k:Nat):Int))=[.int .u64 (ofU ((k:Nat):Int))] from rfl] at a1 i1
  refine bI (M2 e2 a1) ?_
  refine⟨s',⟨?_,j2.trans (xx3.trans x1)⟩,by simp only[hl,am,aF,simprocAttr,ei,en]⟩
  rw[bD,ez,eH]
  exact i1
 ·rintro a ts h3 ⟨j1,j2⟩ ⟨e2,-⟩
  simp only at e2
  refine aj (aB (M1 e2) ?_)
  exact bG ⟨a,(by simp only[rs,rf35,am,aF,simprocAttr,j1.cells.1]<;>rfl),j1,j2⟩
def ip (ss:List Int) (e:Int×Int):List Int:=(ss.set e.1.toNat (kA (ss.getD e.1.toNat 0) (ss.getD e.2.toNat 0))).set e.2.toNat (kA (ss.getD e.1.toNat 0) (ss.getD e.2.toNat 0))
open Classical in
theorem vA:∀ (ss:List Int) (i:Nat) (v:Int),i<ss.length→(ss.set i v).sum=ss.sum-ss.getD i 0+v
 | [],i,v,h=>absurd h (eP _)
 | x::r,0,v,h=>by simp only[List.set_cons_zero,fO,List.getD_cons_zero]; omega
 | x::r,i+1,v,h=>by
   simp only[As,fO,ng]
   rw[vA r i v (Nat.lt_of_succ_lt_succ h)]
   omega
theorem sum_le:∀ {ss:List Int},(∀ z∈ss,inU z)→ss.sum≤(ss.length:Nat)*2 ^ 64
 | [],_=>by simp
 | x::r,h=>by
   have h1:=sum_le λz hz=>h z (br _ hz)
   have h2:=(h x (bB ..)).2
   simp only[fO,aw]
   omega
theorem getD_mem {ss:List Int}{i:Nat} (h:i<ss.length):ss.getD i 0∈ss:=by
 rw[ai,ah h]
 exact aR h
theorem AD {ss:List Int}{i:Nat}{v:Int} (h:∀ z∈ss,inU z) (hv:inU v):∀ z∈ss.set i v,inU z:=λz hz=>by
 rcases oZ hz with h1|rfl
 ·exact h z h1
 ·exact hv
theorem Ef {ss:List Int}{a b:Nat} (h:∀ z∈ss,inU z) (ha:a<ss.length) (hb:b<ss.length) :
 (ip ss (((a:Nat):Int),((b:Nat):Int))).length=ss.length∧(∀ z∈ip ss (((a:Nat):Int),((b:Nat):Int)),inU z)∧ss.sum≤(ip ss (((a:Nat):Int),((b:Nat):Int))).sum ∧
 (kA (ss.getD a 0) (ss.getD b 0)=ss.getD a 0→kA (ss.getD a 0) (ss.getD b 0)=ss.getD b 0→ip ss (((a:Nat):Int),((b:Nat):Int))=ss) ∧
 (¬ (kA (ss.getD a 0) (ss.getD b 0)=ss.getD a 0∧kA (ss.getD a 0) (ss.getD b 0)=ss.getD b 0)→ss.sum<(ip ss (((a:Nat):Int),((b:Nat):Int))).sum):=by
 unfold ip
 simp only[cB]
 obtain⟨o1,o2,o3⟩:=qB (h _ (getD_mem ha)) (h _ (getD_mem hb))
 generalize kA (ss.getD a 0) (ss.getD b 0)=v at *
 have hs:((ss.set a v).set b v).sum=ss.sum-ss.getD a 0+v-(ss.set a v).getD b 0+v:=by
  rw[vA _ _ _ (by rw[bE]; exact hb),vA _ _ _ ha]
 have hg:(ss.set a v).getD b 0=if a=b then v else ss.getD b 0:=by
  rw[ai,cZ,ai]
  by_cases q:a=b
  ·subst q; rw[if_pos rfl,if_pos rfl,if_pos ha]; rfl
  ·rw[if_neg q,if_neg q]
 refine⟨by simp,AD (AD h o3) o3,?_,λe1 e2=>?_,λhn=>?_⟩
 ·rw[hs,hg]; split<;>omega
 ·have es:∀ i,i<ss.length→v=ss.getD i 0→ss.set i v=ss:=λi hi e=>by
   rw[e,ai,ah hi]
   exact List.set_getElem_self ..
  rw[es a ha e1,es b hb e2]
 ·rw[hs,hg]
  split
  ·rename_i q; subst q; omega
  ·omega
def kz (ss:List Int) (a:List Int×Int) (k:Nat):List Int×Int:=if iK a.2 ((k:Nat):Int) then a else (a.1++[ss.getD k 0],kA a.2 (ss.getD k 0))
open Go.Am
def tz (E:List (Int×Int)) (h:Int):Int:=if h.toNat % 2=0 then (E.getD (h.toNat / 2) (0,0)).1 else (E.getD (h.toNat / 2) (0,0)).2
def me (E:List (Int×Int)) (x:Int):List Int→List Bool→Option (List Bool)
 | [],s=>some s
 | h::t,s=>if 0≤h∧h<(s.length:Nat)∧s.getD h.toNat true=false∧tz E h=x then me E x t (s.set h.toNat true) else none
def np (E:List (Int×Int)):Nat→List (List Int)→List Bool→Option (List Bool)
 | _,[],s=>some s
 | x,l::t,s=>(me E (x:Nat) l s).bind (np E (x+1) t)
theorem ru {E:List (Int×Int)}{x:Int}:∀ (a b:List Int) (s:List Bool),me E x (a++b) s=(me E x a s).bind (me E x b)
 | [],b,s=>rfl
 | h::t,b,s=>by
   simp only[aE,me]
   split
   ·exact ru t b _
   ·rfl
theorem sT {E:List (Int×Int)}:∀ (a b:List (List Int)) (x:Nat) (s:List Bool),np E x (a++b) s=(np E x a s).bind (np E (x+a.length) b)
 | [],b,x,s=>rfl
 | l::t,b,x,s=>by
   simp only[aE,np,aw]
   cases me E (x:Nat) l s with
   | none=>rfl
   | some s' =>
     simp only[eU]
     rw[sT t b (x+1) s']
     congr 2
     omega
theorem AF {E:List (Int×Int)}{x:Int}:∀ {l:List Int}{s s':List Bool},me E x l s=some s'→s'.length=s.length∧∀ h∈l,0≤h∧h<(s.length:Nat)
 | [],s,s',h=>by simp only[me,aa] at h; subst h; exact⟨rfl,λh hh=>by cases hh⟩
 | h::t,s,s',he=>by
   simp only[me] at he
   split at he
   ·rename_i q
    obtain⟨h1,h2⟩:=AF he
    rw[bE] at h1 h2
    exact⟨h1,λy hy=>by
     rcases au.1 hy with rfl|hy
     ·exact⟨q.1,q.2.1⟩
     ·exact h2 y hy⟩
   ·cases he
theorem BL {E:List (Int×Int)}:∀ {T:List (List Int)}{x:Nat}{s s':List Bool},np E x T s=some s'→s'.length=s.length∧∀ l∈T,∀ h∈l,0≤h∧h<(s.length:Nat)
 | [],x,s,s',h=>by simp only[np,aa] at h; subst h; exact⟨rfl,λl hl=>by cases hl⟩
 | l::t,x,s,s',h=>by
   simp only[np] at h
   obtain⟨s1,h1,h2⟩:=gJ.1 h
   obtain⟨a1,a2⟩:=AF h1
   obtain⟨b1,b2⟩:=BL h2
   refine⟨b1.trans a1,λy hy=>?_⟩
   rcases au.1 hy with rfl|hy
   ·exact a2
   ·rw[a1] at b2
    exact b2 y hy
def jO (n:Nat) (E:List (Int×Int)) (T:List (List Int)):Bool :=
 decide (T.length=n)&&(match np E 0 T (List.replicate (2*E.length) false) with
  | some s=>!s.contains false
  | none=>false)
theorem rC {n:Nat}{E:List (Int×Int)}{T:List (List Int)} (h:jO n E T=true):T.length=n∧∀ l∈T,∀ h∈l,0≤h∧h<((2*E.length:Nat):Int):=by
 unfold jO at h
 rw[aM,aA] at h
 obtain⟨h1,h2⟩:=h
 refine⟨h1,?_⟩
 split at h2
 ·rename_i s e
  have:=(BL e).2
  rwa [tE] at this
 ·cases h2
def DR (a b:Int):Int:=IntKind.i64.wrap ((BitVec.ofInt 64 a ^^^ BitVec.ofInt 64 b).toNat)
theorem bin_xorI {a b:Int}:fM .xor .no (.int .i64 a) (.int .i64 b)=some (.int .i64 (DR a b)):=rfl
theorem wU (h:Nat):(h ^^^ 1) / 2=h / 2:=by
 have:=Nat.xor_div_two_pow (a:=h) (b:=1) (n:=1)
 simpa using this
theorem wV {h:Nat} (hh:h<2 ^ 40):DR ((h:Nat):Int) 1=((h ^^^ 1:Nat):Int)∧∀ m,h<2*m→h ^^^ 1<2*m:=by
 have e:=wU h
 refine⟨?_,λm hm=>by omega⟩
 unfold DR
 have e1:(BitVec.ofInt 64 ((h:Nat):Int) ^^^ BitVec.ofInt 64 1).toNat=h ^^^ 1:=by
  rw[BitVec.toNat_xor,BitVec.ofInt_natCast,BitVec.toNat_ofNat,bR om]
  rfl
 rw[e1]
 exact fz om om
def lV (l:List Int) (nx:List Int) (i:Nat):List Int:=nx.set (DR (l.getD i 0) 1).toNat (l.getD ((i+1) % l.length) 0)
def vD (nx:List Int) (l:List Int):List Int:=(List.range l.length).foldl (lV l) nx
def mD (T:List (List Int)) (m:Nat):List Int:=T.foldl vD (List.replicate (2*m) 0)
def Inr (N:Nat) (nx:List Int):Prop:=nx.length=N∧∀ z∈nx,0≤z∧z<(N:Nat)
theorem Inr.set {N:Nat}{nx:List Int}{i:Nat}{v:Int} (h:Inr N nx) (hv:0≤v∧v<(N:Nat)):Inr N (nx.set i v) :=
 ⟨by rw[bE]; exact h.1,λz hz=>by
  rcases oZ hz with h1|rfl
  ·exact h.2 z h1
  ·exact hv⟩
theorem Inr.zero (N:Nat):Inr N (List.replicate N 0):=⟨by simp,λz hz=>by
 obtain⟨h1,rfl⟩:=List.mem_replicate.1 hz
 omega⟩
theorem Inr.at {N:Nat}{nx:List Int} (h:Inr N nx) {i:Nat} (hi:i<N):0≤nx.getD i 0∧nx.getD i 0<(N:Nat):=by
 have hl:=h.1
 rw[ai,ah om]
 exact h.2 _ (aR _)
theorem Jj {l:List Int}{P:Int→Prop} (h:∀ z∈l,P z) {i:Nat} (hi:i<l.length):P (l.getD i 0):=by
 rw[ai,ah hi]
 exact h _ (aR hi)
theorem AG {N:Nat}{nx l:List Int} (h:Inr N nx) (hl:∀ z∈l,0≤z∧z<(N:Nat)):∀ k,k≤l.length→Inr N ((List.range k).foldl (lV l) nx)
 | 0,_=>h
 | k+1,hk=>by
   rw[bD,cS]
   exact (AG h hl k om).set (Jj hl (fL _ om))
theorem xP {N:Nat}{T:List (List Int)} (hT:∀ l∈T,∀ z∈l,0≤z∧z<(N:Nat)):∀ {nx:List Int},Inr N nx→Inr N (T.foldl vD nx):=by
 induction T with
 | nil=>exact λh=>h
 | cons l t ih=>exact fun {nx} h=>ih (λl' hl'=>hT l' (br _ hl')) (AG h (hT l (bB ..)) _ (ae _))
def trF (nx:List Int):Nat→List Bool→Nat→List Nat×List Bool
 | 0,s,_=>([],s)
 | k+1,s,h=>if s.getD h true=true then ([],s) else (h::(trF nx k (s.set h true) (nx.getD h 0).toNat).1,(trF nx k (s.set h true) (nx.getD h 0).toNat).2)
theorem trF_stop {nx:List Int}{k:Nat}{s:List Bool}{h:Nat} (hs:s.getD h true=true):trF nx k s h=([],s):=by
 cases k with
 | zero=>rfl
 | succ k=>simp only[trF,if_pos hs]
theorem Dr {s:List Bool}{h:Nat} (hs:s.getD h true=false):(s.set h true).count false+1=s.count false:=by
 induction s generalizing h with
 | nil=>simp at hs
 | cons b r ih =>
   cases h with
   | zero=>simp at hs; subst hs; simp
   | succ h =>
     simp only[ng] at hs
     have:=ih hs
     rw[As,tj,tj]
     omega
theorem trF_len (nx:List Int):∀ (k:Nat) (s:List Bool) (h:Nat),(trF nx k s h).1.length≤k∧(trF nx k s h).2.length=s.length
 | 0,s,h=>by simp [trF]
 | k+1,s,h=>by
   simp only[trF]
   split
   ·simp
   ·have:=trF_len nx k (s.set h true) (nx.getD h 0).toNat
    rw[bE] at this
    simp only[aw]
    omega
theorem trF_in {N:Nat}{nx:List Int} (hn:Inr N nx):∀ (k:Nat) (s:List Bool) (h:Nat),h<N→∀ y∈(trF nx k s h).1,y<N
 | 0,s,h,_,y,hy=>by simp [trF] at hy
 | k+1,s,h,hh,y,hy=>by
   simp only[trF] at hy
   split at hy
   ·cases hy
   ·rcases au.1 hy with rfl|hy
    ·exact hh
    ·have:=hn.at hh
     exact trF_in hn k _ _ om y hy
def fp (nx:List Int) (N:Nat) (a:List (List Nat)×List Bool) (first:Nat):List (List Nat)×List Bool :=
 (if (trF nx N a.2 first).1=[] then a.1 else a.1++[(trF nx N a.2 first).1],(trF nx N a.2 first).2)
def pC (nx:List Int) (N:Nat):List (List Nat):=((List.range N).foldl (fp nx N) ([],List.replicate N false)).1
theorem sx {N:Nat}{nx:List Int} (hn:Inr N nx):∀ k,k≤N→((List.range k).foldl (fp nx N) ([],List.replicate N false)).1.length≤k∧((List.range k).foldl (fp nx N) ([],List.replicate N false)).2.length=N ∧
 ∀ l∈((List.range k).foldl (fp nx N) ([],List.replicate N false)).1,l.length≤N∧∀ y∈l,y<N
 | 0,_=>⟨by simp,by simp,λl hl=>by cases hl⟩
 | k+1,hk=>by
   obtain⟨h1,h2,h3⟩:=sx hn k om
   rw[bD,cS]
   generalize (List.range k).foldl (fp nx N) ([],List.replicate N false)=a at *
   simp only[dP,ou,fp]
   have hl:=trF_len nx N a.2 k
   refine⟨?_,om,λl hl'=>?_⟩
   ·split
    ·omega
    ·rw[aI,aw,aP]; omega
   ·split at hl'
    ·exact h3 l hl'
    ·rcases aC.1 hl' with hl'|hl'
     ·exact h3 l hl'
     ·rw[cq] at hl'
      subst hl'
      exact⟨hl.1,trF_in hn N _ _ om⟩
def iV (n:Nat) (E:List (Int×Int)) (T:List (List Int)):List (List Nat):=if jO n E T then pC (mD T E.length) (2*E.length) else []
theorem uz {n:Nat}{E:List (Int×Int)}{T:List (List Int)}:(iV n E T).length≤2*E.length∧∀ l∈iV n E T,l.length≤2*E.length∧∀ y∈l,y<2*E.length:=by
 unfold iV
 split
 ·rename_i q
  have h:=sx (xP (rC q).2 (Inr.zero _)) (2*E.length) (ae _)
  exact⟨h.1,h.2.2⟩
 ·exact⟨by simp,λl hl=>by cases hl⟩
open Go.Am
theorem Lq {h:AH}{gb len cap e bytes:Nat}{A Z:List AV}{v:AV}{xs:List (List AV)} (hg:h.get gb=some (.cells (A++Z) e false)) (hA:A.length=len*e) (hv:Sl h e v xs) (ho:xs.flatten.all AV.one=true) (hc:len+xs.length≤cap) (hz:xs.length*e≤Z.length) :
 ∃ h',ja h e bytes (.sl gb 0 len cap) v=some (.sl gb 0 (len+xs.length) cap,h')∧Upd h h' gb (.cells (A++xs.flatten++Z.drop (xs.length*e)) e false):=by
 obtain⟨s1,s2⟩:=hv.src
 by_cases hn:xs.length=0
 ·refine⟨h,?_,?_⟩
  ·simp only[ja,s1,ho,if_true,hn,dh]
  ·have:xs=[]:=bz.1 hn
   subst this
   simp only[lT,dG,aP,nq,bJ]
   exact Upd.refl hg
 ·have w:bZ h gb (0+len*e) xs.flatten=some (h.put gb (.cells (A++xs.flatten++Z.drop (xs.length*e)) e false)):=by
   rw[fy hg,bM,if_pos (by rw[s2,aI]; omega)]
   congr 3
   unfold dI
   rw[← hA,List.take_left',Hj,List.drop_of_length_le om,s2]
   ·simp
   ·rfl
  refine⟨_,?_,LA hg⟩
  simp only[ja,s1,ho,if_true,if_neg hn,if_pos hc,w,aH]
theorem eY {α:Type}{xss:List (List α)}{k:Nat} (hk:k<xss.length):(xss.take (k+1)).flatten=(xss.take k).flatten++xss[k]:=by
 rw[bV hk,gz]
 simp
theorem jp {α:Type} (xss:List (List α)) (k:Nat):(xss.take k).flatten.length≤xss.flatten.length:=by
 conv=>rhs; rw[← cD k xss]
 rw[gz,aI]
 omega
theorem En {h:AH}{e:Nat}:slV h e .nils none (some (.int .i64 0)) none=some .nils:=rfl
theorem xv {z:List AV}:∀ n,(dg z n).length=n*z.length
 | 0=>by simp [dg]
 | n+1=>by simp only[dg,aI,xv n,dl]; omega
theorem tU {z:List AV}:∀ k n,(dg z (k+n)).drop (k*z.length)=dg z n
 | 0,n=>by simp
 | k+1,n=>by
   have e1:dg z (k+1+n)=z++dg z (k+n):=by rw[show k+1+n=(k+n)+1 by omega]; rfl
   have e2:(k+1)*z.length=z.length+k*z.length:=by rw[dl]; omega
   rw[e1,e2,← Ls,oz,tU k n]
theorem FY {h:AH}{N:Nat} (hN:N<2 ^ 34):C prg 87 [.nils,.int .i64 (N:Nat)] h λr h'=>(N=0∧r=.nils∧h'=h)∨(0<N∧r=.sl h.next 0 0 N∧h'=h.new (.cells (dg [.int .i64 0] N) 1 false)):=by
 refine LB pf87 ?_
 have c1:decide (((N:Nat):Int)<0)=false:=aJ om
 have w1:IntKind.i64.wrap (0-0)=0:=by decide
 have w2:IntKind.i64.wrap (((N:Nat):Int)-0)=((N:Nat):Int):=by rw[fz om om]; omega
 have cp:JD .nils=some (.int .i64 0):=rfl
 refine aj (aB (Mi0) ?_)
 refine aj (aj (aB (Mi0) ?_))
 refine dL (I1 c1) (bK ?_)
 refine aj (aj (aB (Ji3 cp w1 w2) ?_))
 refine aj (aj (aB (J0) ?_))
 refine jq (t:=decide (0<N)) (by simp only[am,aF,↓reduceIte,Nat.reduceEqDiff,Int.reduceEq,Nat.reduceAdd,Nat.reduceLeDiff,reduceCtorEq]; exact congrArg AV.bool (by simp only[decide_eq_decide]; omega)) (λq=>?_) λq=>?_
 ·have q:0<N:=dV q
  have q0:¬ ((N:Nat):Int)=0:=om
  have az:DJ h [.int .i64 0] 8 .nils (.int .i64 (N:Nat))=some (.sl h.next 0 N N,h.new (.cells (dg [.int .i64 0] N) 1 false)):=by
   simp only[DJ,if_neg q0]
   rw[if_pos ⟨om,by unfold be; omega,by unfold be; omega⟩]
   simp
  have g1:(h.new (.cells (dg [.int .i64 0] N) 1 false)).get h.next=some (.cells (dg [.int .i64 0] N) 1 false):=by rw[AH.get_new,if_pos rfl]
  have s1:slV (h.new (.cells (dg [.int .i64 0] N) 1 false)) 1 (.sl h.next 0 N N) none (some (.int .i64 0)) none=some (.sl h.next 0 0 N):=by
   have:=jA (k:=.i64) (show 0≤N by omega)
   simp only[slV,g1,if_true,tB,this,aH]
   have h0:bnd (.int .i64 0) N=some 0:=this
   rw[h0]
   simp only[aH]
   split<;>simp
  refine aB (by simp only[am,aF,simprocAttr,bH,eF,bW,cp,En,az,s1]<;>rfl) ?_
  refine aj (aB (M0) ?_)
  exact bG ⟨_,(by simp only[rs,rf87,am,aF,simprocAttr]<;>rfl),.inr ⟨q,rfl,rfl⟩⟩
 ·have q:¬ 0<N:=of_decide_eq_false q
  refine bK (aj (aB (Mi0) ?_))
  exact bG ⟨_,(by simp only[rs,rf87,am,aF,simprocAttr]<;>rfl),.inl ⟨om,rfl,rfl⟩⟩
theorem sH {h:AH}{v:AV}{vs:List AV}{xss:List (List (Int))} (hv:Sl h 1 v (vs.map λx=>[x])) (hl:vs.length=xss.length) (hx:∀ (i:Nat) (w:AV) (xs:List (Int)),vs[i]?=some w→xss[i]?=some xs→SlI h w xs) (hn:xss.length<2 ^ 30) (hs:xss.flatten.length<2 ^ 34) :
 C prg 77 [v] h λr h'=>IsSl h' 1 h.next r (xss.flatten.flatMap eI)∧Ext h.next h h':=by
 have el:=hv.len
 rw[ak,hl] at el
 have hvk:∀ (k:Nat) (hk:k<xss.length),∃ b p,kR 1 v (.int .i64 (k:Nat))=some (.ptr b p)∧ar h b p 1=some [vs[k]'om]∧b<h.next:=λk hk=>hv.at1 (by rw[aG,ah om]; rfl)
 have hxk:∀ (k:Nat) (hk:k<xss.length),SlI h (vs[k]'om) xss[k]:=λk hk=>hx k _ _ (ah _) (ah hk)
 refine LB pf77 ?_
 refine aj (aB (Mi0) ?_)
 refine aj (aB (M0) ?_)
 refine aj (aj (aB (Mi1 el) ?_))
 refine fB (α:=Unit) (N:=xss.length) (λk _=>[(0,v),(9,v),(3,.int .i64 ((xss.take k).flatten.length:Nat))]) (λ_ _ h'=>h'=h) () (λ_ _=>rfl) om (by simp only[cz,cK,am,aF,↓reduceIte,Nat.reduceEqDiff,Int.reduceEq,Nat.reduceAdd,Nat.reduceLeDiff,reduceCtorEq,bH,gO,lT,cH]) rfl ?_ ?_
 ·rintro k _ ts h1 hk rfl ⟨ei,en,e0,e9,e3,-⟩
  simp only at ei en e0 e9 e3
  obtain⟨b1,p1,a1,r1,_⟩:=hvk k hk
  have lk:=(hxk k hk).len
  rw[ak] at lk
  have hle:=jp xss (k+1)
  rw[eY hk,aI] at hle
  have w1:IntKind.i64.wrap ((((xss.take k).flatten.length:Nat):Int)+((xss[k].length:Nat):Int))=(((xss.take (k+1)).flatten.length:Nat):Int):=by
   rw[fz om om,eY hk,aI]
   omega
  have c1:decide ((((xss.take (k+1)).flatten.length:Nat):Int)<0)=false:=aJ om
  refine aj (aB (M4 e9 ei a1 r1) ?_)
  refine aj (aB (M3 e3 lk w1) ?_)
  refine aj (aB (M1 c1) ?_)
  refine dL (I0) (bK ⟨(),rfl,by simp only[cz,cK,am,aF,↓reduceIte,Nat.reduceEqDiff,Int.reduceEq,Nat.reduceAdd,Nat.reduceLeDiff,reduceCtorEq,ei,en,e0,e9]⟩)
 ·rintro _ ts h1 rfl ⟨e0,e9,e3,-⟩
  simp only at e0 e9 e3
  rw[dF] at e3
  refine aj (bO (bt 1 (M1 e3) rfl (Z1 e3) (M1 e3) (FY hs) λg h2 hq=>?_))
  refine bI (M0) ?_
  refine aj (aj (aB (M2 e0 el) ?_))
  rcases hq with ⟨hz,rfl,rfl⟩|⟨hz,rfl,rfl⟩
  ·refine fB (α:=Unit) (N:=xss.length) (λ_ _=>[(25,v),(6,.nils)]) (λ_ _ h'=>h'=h2) () (λ_ _=>rfl) om (O1 e0) rfl ?_ ?_
   ·rintro k _ ts h1 hk rfl ⟨ei,en,e25,e6,-⟩
    simp only at ei en e25 e6
    obtain⟨b1,p1,a1,r1,_⟩:=hvk k hk
    have hle:=jp xss (k+1)
    rw[eY hk,aI] at hle
    have hk0:xss[k]=[]:=bz.1 om
    have s1:=(hxk k hk).src.1
    rw[hk0] at s1
    have ap:ja h1 1 8 .nils (vs[k]'om)=some (.nils,h1):=by simp [ja,s1]
    refine aj (aB (M4 e25 ei a1 r1) ?_)
    refine aB (M2 e6 ap) ?_
    exact⟨(),rfl,by simp only[cz,cK,am,aF,↓reduceIte,Nat.reduceEqDiff,Int.reduceEq,Nat.reduceAdd,Nat.reduceLeDiff,reduceCtorEq,ei,en,e25]⟩
   ·rintro _ ts h1 rfl ⟨e25,e6,-⟩
    simp only at e25 e6
    refine aj (aB (M1 e6) ?_)
    exact bG ⟨_,(by simp only[rs,rf77,am,aF,simprocAttr]<;>rfl),.inl ⟨rfl,by rw[bz.1 hz]; rfl⟩,Lz⟩
  ·have g2:(h1.new (.cells (dg [.int .i64 0] xss.flatten.length) 1 false)).get h1.next=some (.cells (dg [.int .i64 0] xss.flatten.length) 1 false):=by rw[AH.get_new,if_pos rfl]
   have x2:Ext h1.next h1 (h1.new (.cells (dg [.int .i64 0] xss.flatten.length) 1 false)):=Ly (ae _)
   generalize h1.new (.cells (dg [.int .i64 0] xss.flatten.length) 1 false)=h2 at *
   refine fB (α:=Unit) (N:=xss.length) (λk _=>[(25,v),(6,.sl h1.next 0 (xss.take k).flatten.length xss.flatten.length)])
    (λk _ h'=>h'.get h1.next=some (.cells ((xss.take k).flatten.flatMap eI++dg [.int .i64 0] (xss.flatten.length-(xss.take k).flatten.length)) 1 false)∧Ext h1.next h1 h') () (λ_ _=>rfl) om (by simp only[cz,cK,am,aF,↓reduceIte,Nat.reduceEqDiff,Int.reduceEq,Nat.reduceAdd,Nat.reduceLeDiff,reduceCtorEq,e0,gO,lT,aP]) ⟨g2,x2⟩ ?_ ?_
   ·rintro k _ ts h3 hk ⟨j1,j2⟩ ⟨ei,en,e25,e6,-⟩
    simp only at ei en e25 e6
    obtain⟨b1,p1,a1,r1,hb⟩:=hvk k hk
    have hle:=jp xss (k+1)
    rw[eY hk,aI] at hle
    have fl:((xss.take k).flatten.flatMap eI).length=(xss.take k).flatten.length*1:=gc (f:=eI) (e:=1) (λ_=>rfl) _
    obtain⟨h4,p4,u4⟩:=Lq (bytes:=8) (cap:=xss.flatten.length) j1 fl ((hxk k hk).ext j2 (ae _)) Fc (by rw[ak]; omega) (by rw[ak,xv]; simp only[aw,aP]; omega)
    have ef:(xss.take k).flatten.length+xss[k].length=(xss.take (k+1)).flatten.length:=by rw[eY hk,aI]
    rw[ak,ef] at p4
    have e2:(xss.take k).flatten.flatMap eI++(xss[k].map eI).flatten++(dg [.int .i64 0] (xss.flatten.length-(xss.take k).flatten.length)).drop ((xss[k].map eI).length*1)=(xss.take (k+1)).flatten.flatMap eI++dg [.int .i64 0] (xss.flatten.length-(xss.take (k+1)).flatten.length):=by
     rw[eY hk,eH,← Hh,ak,aI]
     congr 1
     rw[show xss.flatten.length-(xss.take k).flatten.length=xss[k].length+(xss.flatten.length-((xss.take k).flatten.length+xss[k].length)) by omega]
     exact tU (z:=[.int .i64 0]) _ _
    rw[e2] at u4
    have r1':ar h3 b1 p1 1=some [vs[k]'om]:=by rw[cM (j2.gt _ hb)]; exact r1
    refine aj (aB (M4 e25 ei a1 r1') ?_)
    refine aB (M2 e6 p4) ?_
    exact⟨(),⟨u4.get,j2.trans (u4.ext (ae _))⟩,by simp only[cz,cK,am,aF,↓reduceIte,Nat.reduceEqDiff,Int.reduceEq,Nat.reduceAdd,Nat.reduceLeDiff,reduceCtorEq,ei,en,e25]⟩
   ·rintro _ ts h3 ⟨j1,j2⟩ ⟨e25,e6,-⟩
    simp only at e25 e6
    rw[dF] at j1 e6
    refine aj (aB (M1 e6) ?_)
    refine bG ⟨_,(by simp only[rs,rf77,am,aF,simprocAttr]<;>rfl),.inr ⟨h1.next,xss.flatten.length,ae _,rfl,?_,gc (f:=eI) (e:=1) (λ_=>rfl) _⟩,j2⟩
    rw[j1,eO]
    simp [dg]
end Go.Proofs.YtpeemonpdlifbaaGreat
