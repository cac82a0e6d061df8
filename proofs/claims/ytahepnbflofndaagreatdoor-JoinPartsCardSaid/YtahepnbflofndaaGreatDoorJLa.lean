/- slices.IndexFunc, Index, ContainsFunc, Contains (printed by -/
import Derived.Test.YtahepnbflofndaaGreatDoorJRf
import Derived.Test.YtahepnbflofndaaGreatDoorJAmL
import Derived.Test.YtahepnbflofndaaGreatDoorJAmR
set_option linter.all false
namespace Go.Proofs.YtahepnbflofndaaGreatDoor
open Go.Am
theorem qm {a b:Int×Int}:dm .eql (.flat [.i64,.i64]) (.agg (eE a)) (.agg (eE b))=some (.bool (a==b)):=by
 obtain⟨a1,a2⟩:=a
 obtain⟨b1,b2⟩:=b
 show Option.map AV.bool (gF (.flat [.i64,.i64]) (.agg (eE (a1,a2))) (.agg (eE (b1,b2))))=_
 simp only[gF,eqF,eE,fm,and_self,if_true]
 by_cases h1:a1=b1
 ·subst h1
  by_cases h2:a2=b2
  ·subst h2; simp
  ·simp [h2]
 ·simp [h1]
theorem vw {h:AH}{v:AV}{xs:List (Int×Int)}{P:Int×Int→Bool}{k:FuncId}{caps:List AV} (hv:SlE h v xs) (hl:xs.length<2 ^ 40)
 (hf:∀ x∈xs,∀ h',Ext h.next h h'→C prg k ([.agg (eE x)]++caps) h' λr h''=>r=.bool (P x)∧Ext h'.next h' h'') :
 C prg 58 [v,.fn k caps] h λr h'=>r=.int .i64 (dK P xs 0)∧Ext h.next h h':=by
 refine HH pf58 ?_
 have hlen:=hv.len
 rw[au] at hlen
 refine ab (ah (Mi0) ?_)
 refine ab (ab (ah (Mi1 hlen) ?_))
 refine ab (cZ (λts h1=>dK P xs 0=-1∧Ext h.next h h1) (aU (cf (λn ts h1=>∃ i,n=xs.length-i∧i≤xs.length∧Ext h.next h h1∧dK P (xs.drop i) i=dK P xs 0∧aB ts 0=v∧aB ts 1=.fn k caps∧aB ts 7=.int .i64 (xs.length:Nat)∧aB ts 8=.int .i64 (i:Nat)) ?_ (n:=xs.length) ⟨0,rfl,dL _,HE,by rw[cM],Ii0,Ii0,Ii0,by simp only[am,aD,↓reduceIte,Nat.reduceEqDiff,Int.reduceEq,Nat.reduceAdd,Nat.reduceLeDiff,reduceCtorEq,bL]; rfl⟩)) ?_)
 ·rintro n ts h1 ⟨i,rfl,hi,ex,hF,e0,e1,e7,e8⟩
  refine ab (ah (M2 e7 e8) ?_)
  refine ab (bg (t:=decide (i<xs.length)) (Z1 @bi) (λq=>?_) λq=>?_)
  ·have q:i<xs.length:=aF q
   obtain⟨b,p,a1,r1,_,_⟩:=(hv.ext ex (ae _)).at (cF (f:=eE) q)
   refine aN (ab (aU (ab (ah (M1 e8) ?_))))
   have hc:=hf _ (bq q) h1 ex
   refine ab (aX (dT 5 (M6 e0 e1 e7 e8 a1 r1) rfl (Z6 e0 e1 e7 e8 a1 r1) (M6 e0 e1 e7 e8 a1 r1) (M6 e0 e1 e7 e8 a1 r1) (hc) λr h2 hq=>?_))
   obtain⟨rfl,ex2⟩:=hq
   have ex3:=ex.trans (ex2.mono ex.nx)
   refine aW (M0) ?_
   refine bg (t:=P xs[i]) (Z0) (λq2=>?_) λq2=>?_
   ·refine ab (ah (M0) ?_)
    refine bt ⟨.int .i64 (i:Nat),(by simp only[rs,rf58,am,aD,simprocAttr]<;>rfl),?_,ex3⟩
    rw[← hF,fz P q,if_pos q2]
   ·have w1:IntKind.i64.wrap (((i:Nat):Int)+1)=((i+1:Nat):Int):=bE om om
    refine aN (ah (M2 e8 w1) ?_)
    refine⟨xs.length-(i+1),om,i+1,rfl,om,ex3,?_,Z1 e0,Z1 e1,Z1 e7,Z2 e8 w1⟩
    rw[← hF,fz P q,if_neg (by simp [q2])]
  ·have q:¬ i<xs.length:=aE q
   refine bM ⟨λ_=>⟨?_,ex⟩,λe=>absurd rfl e⟩
   rw[← hF,du om]
   rfl
 ·rintro ts h1 ⟨hF,ex⟩
  refine ab (ah (M0) ?_)
  exact bt ⟨.int .i64 (-1),(by simp only[rs,rf58,am,aD,simprocAttr]<;>rfl),by rw[hF],ex⟩
theorem Da {h:AH}{v:AV}{xs:List (Int)}{P:Int→Bool}{k:FuncId}{caps:List AV} (hv:SlI h v xs) (hl:xs.length<2 ^ 40)
 (hf:∀ x∈xs,∀ h',Ext h.next h h'→C prg k ([.int .i64 x]++caps) h' λr h''=>r=.bool (P x)∧Ext h'.next h' h'') :
 C prg 109 [v,.fn k caps] h λr h'=>r=.int .i64 (dK P xs 0)∧Ext h.next h h':=by
 refine HH pf109 ?_
 have hlen:=hv.len
 rw[au] at hlen
 refine ab (ah (Mi0) ?_)
 refine ab (ab (ah (Mi1 hlen) ?_))
 refine ab (cZ (λts h1=>dK P xs 0=-1∧Ext h.next h h1) (aU (cf (λn ts h1=>∃ i,n=xs.length-i∧i≤xs.length∧Ext h.next h h1∧dK P (xs.drop i) i=dK P xs 0∧aB ts 0=v∧aB ts 1=.fn k caps∧aB ts 7=.int .i64 (xs.length:Nat)∧aB ts 8=.int .i64 (i:Nat)) ?_ (n:=xs.length) ⟨0,rfl,dL _,HE,by rw[cM],Ii0,Ii0,Ii0,by simp only[am,aD,↓reduceIte,Nat.reduceEqDiff,Int.reduceEq,Nat.reduceAdd,Nat.reduceLeDiff,reduceCtorEq,bL]; rfl⟩)) ?_)
 ·rintro n ts h1 ⟨i,rfl,hi,ex,hF,e0,e1,e7,e8⟩
  refine ab (ah (M2 e7 e8) ?_)
  refine ab (bg (t:=decide (i<xs.length)) (Z1 @bi) (λq=>?_) λq=>?_)
  ·have q:i<xs.length:=aF q
   obtain⟨b,p,a1,r1,_,_⟩:=(hv.ext ex (ae _)).at (cF (f:=eI) q)
   refine aN (ab (aU (ab (ah (M1 e8) ?_))))
   have hc:=hf _ (bq q) h1 ex
   refine ab (aX (dT 5 (by simp only[am,aD,simprocAttr,e0,e1,e7,e8,a1,r1,jP,eI]<;>rfl) rfl (by simp only[am,aD,simprocAttr,e0,e1,e7,e8,a1,r1,jP,eI]) (by simp only[am,aD,simprocAttr,e0,e1,e7,e8,a1,r1,jP,eI]<;>rfl) (by simp only[am,aD,simprocAttr,e0,e1,e7,e8,a1,r1,jP,eI]<;>rfl) (hc) λr h2 hq=>?_))
   obtain⟨rfl,ex2⟩:=hq
   have ex3:=ex.trans (ex2.mono ex.nx)
   refine aW (M0) ?_
   refine bg (t:=P xs[i]) (Z0) (λq2=>?_) λq2=>?_
   ·refine ab (ah (M0) ?_)
    refine bt ⟨.int .i64 (i:Nat),(by simp only[rs,rf109,am,aD,simprocAttr]<;>rfl),?_,ex3⟩
    rw[← hF,fz P q,if_pos q2]
   ·have w1:IntKind.i64.wrap (((i:Nat):Int)+1)=((i+1:Nat):Int):=bE om om
    refine aN (ah (M2 e8 w1) ?_)
    refine⟨xs.length-(i+1),om,i+1,rfl,om,ex3,?_,Z1 e0,Z1 e1,Z1 e7,Z2 e8 w1⟩
    rw[← hF,fz P q,if_neg (by simp [q2])]
  ·have q:¬ i<xs.length:=aE q
   refine bM ⟨λ_=>⟨?_,ex⟩,λe=>absurd rfl e⟩
   rw[← hF,du om]
   rfl
 ·rintro ts h1 ⟨hF,ex⟩
  refine ab (ah (M0) ?_)
  exact bt ⟨.int .i64 (-1),(by simp only[rs,rf109,am,aD,simprocAttr]<;>rfl),by rw[hF],ex⟩
theorem sF {h:AH}{v:AV}{xs:List (Int×Int)}{P:Int×Int→Bool}{k:FuncId}{caps:List AV} (hv:SlE h v xs) (hl:xs.length<2 ^ 40)
 (hf:∀ x∈xs,∀ h',Ext h.next h h'→C prg k ([.agg (eE x)]++caps) h' λr h''=>r=.bool (P x)∧Ext h'.next h' h'') :
 C prg 93 [v,.fn k caps] h λr h'=>r=.bool (xs.any P)∧Ext h.next h h':=by
 refine HH pf93 ?_
 refine ab (ah (Mi0) ?_)
 refine ab (aX (aP 2 (Mi0) rfl (Zi0) (Mi0) (vw hv hl hf) λr h2 hq=>?_))
 obtain⟨rfl,ex⟩:=hq
 have hb:decide ((0:Int)≤dK P xs 0)=xs.any P:=by
  have:=(kD P xs 0).2
  cases hq:xs.any P with
  | true=>rw[aj]; rw[hq] at this; simp at this; omega
  | false=>rw[aR]; have:=this.2 hq; omega
 refine aW (M1 hb) ?_
 exact bt ⟨_,(by simp only[rs,rf93,am,aD,simprocAttr]<;>rfl),rfl,ex⟩
theorem mZ {h:AH}{v:AV}{xs:List (Int)}{y:Int} (hv:SlI h v xs) (hl:xs.length<2 ^ 40) :
 C prg 112 [v,.int .i64 y] h λr h'=>r=.int .i64 (dK (y==·) xs 0)∧Ext h.next h h':=by
 refine HH pf112 ?_
 have hlen:=hv.len
 rw[au] at hlen
 have ex0:Ext h.next h h:=HE
 refine ab (ah (Mi0) ?_)
 refine ab (ab (ah (Mi1 hlen) ?_))
 refine ab (cZ (λts h1=>dK (y==·) xs 0=-1∧h1=h) (aU (cf (λn ts h1=>∃ i,n=xs.length-i∧i≤xs.length∧h1=h∧dK (y==·) (xs.drop i) i=dK (y==·) xs 0∧aB ts 0=v∧aB ts 1=.int .i64 y∧aB ts 7=.int .i64 (xs.length:Nat)∧aB ts 8=.int .i64 (i:Nat)) ?_ (n:=xs.length) ⟨0,rfl,dL _,rfl,by rw[cM],Ii0,Ii0,Ii0,by simp only[am,aD,↓reduceIte,Nat.reduceEqDiff,Int.reduceEq,Nat.reduceAdd,Nat.reduceLeDiff,reduceCtorEq,bL]; rfl⟩)) ?_)
 ·rintro n ts h1 ⟨i,rfl,hi,rfl,hF,e0,ek,e7,e8⟩
  refine ab (ah (M2 e7 e8) ?_)
  refine ab (bg (t:=decide (i<xs.length)) (Z1 @bi) (λq=>?_) λq=>?_)
  ·have q:i<xs.length:=aF q
   obtain⟨b,p,a1,r1,_,_⟩:=(hv.ext ex0 (ae _)).at (cF (f:=eI) q)
   refine aN (ab (aU (ab (ah (M1 e8) ?_))))
   have ceq:decide (y=xs[i])=(y==xs[i]):=rfl
   refine ab (ah (by simp only[am,aD,simprocAttr,e0,ek,e7,e8,a1,r1,ceq,eI]<;>rfl) ?_)
   refine bg (t:=y==xs[i]) (Z0) (λq2=>?_) λq2=>?_
   ·refine ab (ah (M0) ?_)
    refine bt ⟨.int .i64 (i:Nat),(by simp only[rs,rf112,am,aD,simprocAttr]<;>rfl),?_,ex0⟩
    rw[← hF,fz _ q,if_pos q2]
   ·have w1:IntKind.i64.wrap (((i:Nat):Int)+1)=((i+1:Nat):Int):=bE om om
    refine aN (ah (M2 e8 w1) ?_)
    refine⟨xs.length-(i+1),om,i+1,rfl,om,rfl,?_,Z1 e0,Z1 ek,Z1 e7,Z2 e8 w1⟩
    rw[← hF,fz _ q,if_neg (by simp [q2])]
  ·have q:¬ i<xs.length:=aE q
   refine bM ⟨λ_=>⟨?_,rfl⟩,λe=>absurd rfl e⟩
   rw[← hF,du om]
   rfl
 ·rintro ts h1 ⟨hF,rfl⟩
  refine ab (ah (M0) ?_)
  exact bt ⟨.int .i64 (-1),(by simp only[rs,rf112,am,aD,simprocAttr]<;>rfl),by rw[hF],ex0⟩
theorem FE {h:AH}{v:AV}{xs:List (Int×Int)}{y:Int×Int} (hv:SlE h v xs) (hl:xs.length<2 ^ 40) :
 C prg 106 [v,.agg (eE y)] h λr h'=>r=.int .i64 (dK (y==·) xs 0)∧Ext h.next h h':=by
 refine HH pf106 ?_
 have hlen:=hv.len
 rw[au] at hlen
 have hlen':[AV.int .i64 y.1,.int .i64 y.2].length=2:=rfl
 refine ab (ah (by simp only[am,aD,simprocAttr,bL,eE]<;>rfl) ?_)
 have ex0:Ext h.next h (h.new (.cells [.int .i64 y.1,.int .i64 y.2] 2 false)):=HD (ae _)
 have rb:ar (h.new (.cells [.int .i64 y.1,.int .i64 y.2] 2 false)) h.next 0 2=some [.int .i64 y.1,.int .i64 y.2]:=by rw[aS (by rw[AH.get_new,if_pos rfl])]; rfl
 have hlt:h.next<(h.new (.cells [.int .i64 y.1,.int .i64 y.2] 2 false)).next:=by simp
 generalize h.new (.cells [.int .i64 y.1,.int .i64 y.2] 2 false)=h0 at *
 refine ab (ab (ah (Mi1 hlen) ?_))
 refine ab (cZ (λts h1=>dK (y==·) xs 0=-1∧h1=h0) (aU (cf (λn ts h1=>∃ i,n=xs.length-i∧i≤xs.length∧h1=h0∧dK (y==·) (xs.drop i) i=dK (y==·) xs 0∧aB ts 0=v∧aB ts 3=.ptr h.next 0∧aB ts 7=.int .i64 (xs.length:Nat)∧aB ts 8=.int .i64 (i:Nat)) ?_ (n:=xs.length) ⟨0,rfl,dL _,rfl,by rw[cM],Ii0,Ii0,Ii0,by simp only[am,aD,↓reduceIte,Nat.reduceEqDiff,Int.reduceEq,Nat.reduceAdd,Nat.reduceLeDiff,reduceCtorEq,bL]; rfl⟩)) ?_)
 ·rintro n ts h1 ⟨i,rfl,hi,rfl,hF,e0,ek,e7,e8⟩
  refine ab (ah (M2 e7 e8) ?_)
  refine ab (bg (t:=decide (i<xs.length)) (Z1 @bi) (λq=>?_) λq=>?_)
  ·have q:i<xs.length:=aF q
   obtain⟨b,p,a1,r1,_,_⟩:=(hv.ext ex0 (ae _)).at (cF (f:=eE) q)
   refine aN (ab (aU (ab (ah (M1 e8) ?_))))
   have ceq:dm .eql (.flat [.i64,.i64]) (.agg [.int .i64 y.1,.int .i64 y.2]) (.agg [.int .i64 xs[i].1,.int .i64 xs[i].2])=some (.bool (y==xs[i])):=qm
   refine ab (ah (by simp only[am,aD,simprocAttr,e0,ek,e7,e8,a1,r1,rb,ceq,eE]<;>rfl) ?_)
   refine bg (t:=y==xs[i]) (Z0) (λq2=>?_) λq2=>?_
   ·refine ab (ah (M0) ?_)
    refine bt ⟨.int .i64 (i:Nat),(by simp only[rs,rf106,am,aD,simprocAttr]<;>rfl),?_,ex0⟩
    rw[← hF,fz _ q,if_pos q2]
   ·have w1:IntKind.i64.wrap (((i:Nat):Int)+1)=((i+1:Nat):Int):=bE om om
    refine aN (ah (M2 e8 w1) ?_)
    refine⟨xs.length-(i+1),om,i+1,rfl,om,rfl,?_,Z1 e0,Z1 ek,Z1 e7,Z2 e8 w1⟩
    rw[← hF,fz _ q,if_neg (by simp [q2])]
  ·have q:¬ i<xs.length:=aE q
   refine bM ⟨λ_=>⟨?_,rfl⟩,λe=>absurd rfl e⟩
   rw[← hF,du om]
   rfl
 ·rintro ts h1 ⟨hF,rfl⟩
  refine ab (ah (M0) ?_)
  exact bt ⟨.int .i64 (-1),(by simp only[rs,rf106,am,aD,simprocAttr]<;>rfl),by rw[hF],ex0⟩
theorem DF {h:AH}{v:AV}{xs:List (Int)}{y:Int} (hv:SlI h v xs) (hl:xs.length<2 ^ 40) :
 C prg 111 [v,.int .i64 y] h λr h'=>r=.bool (xs.any (y==·))∧Ext h.next h h':=by
 refine HH pf111 ?_
 refine ab (ah (Mi0) ?_)
 have ex0:Ext h.next h h:=HE
 have hc:=mZ (y:=y) hv hl
 refine ab (aX (aP 2 (Mi0) rfl (Zi0) (Mi0) (hc) λr h2 hq=>?_))
 obtain⟨rfl,ex⟩:=hq
 have hb:decide ((0:Int)≤dK (y==·) xs 0)=xs.any (y==·):=by
  have:=(kD (y==·) xs 0).2
  cases hq:xs.any (y==·) with
  | true=>rw[aj]; rw[hq] at this; simp at this; omega
  | false=>rw[aR]; have:=this.2 hq; omega
 refine aW (M1 hb) ?_
 exact bt ⟨_,(by simp only[rs,rf111,am,aD,simprocAttr]<;>rfl),rfl,ex0.trans (ex.mono ex0.nx)⟩
theorem DG {h:AH}{v:AV}{xs:List (Int×Int)}{y:Int×Int} (hv:SlE h v xs) (hl:xs.length<2 ^ 40) :
 C prg 60 [v,.agg (eE y)] h λr h'=>r=.bool (xs.any (y==·))∧Ext h.next h h':=by
 refine HH pf60 ?_
 refine ab (ah (by simp only[am,aD,simprocAttr,bL,eE]<;>rfl) ?_)
 have ex0:Ext h.next h (h.new (.cells [.int .i64 y.1,.int .i64 y.2] 2 false)):=HD (ae _)
 have rb:ar (h.new (.cells [.int .i64 y.1,.int .i64 y.2] 2 false)) h.next 0 2=some [.int .i64 y.1,.int .i64 y.2]:=by rw[aS (by rw[AH.get_new,if_pos rfl])]; rfl
 generalize h.new (.cells [.int .i64 y.1,.int .i64 y.2] 2 false)=h0 at *
 have hv0:=hv.ext ex0 (ae _)
 have hc:=FE (y:=y) hv0 hl
 rw[show eE y=[.int .i64 y.1,.int .i64 y.2] from rfl] at hc
 refine ab (aX (aP 2 (Mi1 rb) rfl (Zi1 rb) (Mi1 rb) (hc) λr h2 hq=>?_))
 obtain⟨rfl,ex⟩:=hq
 have hb:decide ((0:Int)≤dK (y==·) xs 0)=xs.any (y==·):=by
  have:=(kD (y==·) xs 0).2
  cases hq:xs.any (y==·) with
  | true=>rw[aj]; rw[hq] at this; simp at this; omega
  | false=>rw[aR]; have:=this.2 hq; omega
 refine aW (M1 hb) ?_
 exact bt ⟨_,(by simp only[rs,rf60,am,aD,simprocAttr]<;>rfl),rfl,ex0.trans (ex.mono ex0.nx)⟩
open Go.Am
theorem GY {xs:List Int}:(xs.flatMap eI).all AV.one=true:=by
 rw[bA]
 intro x hx
 obtain⟨y,_,hy⟩:=dH.1 hx
 simp only[eI,aC,bj,or_false] at hy
 subst hy; rfl
theorem GZ {xs:List (Int×Int)}:(xs.flatMap eE).all AV.one=true:=by
 rw[bA]
 intro x hx
 obtain⟨y,_,hy⟩:=dH.1 hx
 simp only[eE,aC,bj,or_false] at hy
 rcases hy with rfl|rfl<;>rfl
theorem FK {v:AV}{h:AH}{e:Nat}{xs:List (List AV)} (hv:Sl h e v xs):∃ b,dm .eql .nls v .nils=some (.bool b)∧(b=true→v=.nils∧xs=[])∧(b=false→v≠.nils):=by
 rcases hv with ⟨rfl,rfl|rfl⟩|⟨b,o,c,cs,ro,rfl,hg,hc,hle,hx⟩
 ·exact⟨true,rfl,λ_=>⟨rfl,rfl⟩,λq=>by cases q⟩
 ·exact⟨false,rfl,λq=>(by cases q),λ_=>(by simp)⟩
 ·exact⟨false,rfl,λq=>(by cases q),λ_=>(by simp)⟩
theorem Gv {h:AH}{e bytes:Nat}{v:AV}{xs:List (List AV)} (hv:Sl h e v xs) (ho:xs.flatten.all AV.one=true) (hl:xs.length*bytes<bd) (hl2:xs.length<bd) :
 ∃ r h',gz (h.new (.cells [] e false)) e bytes (.sl h.next 0 0 0) v=some (r,h')∧IsSl h' e h.next r xs.flatten∧Ext h.next h h'∧r≠.nils:=by
 have hv':=hv.ext (HD (o:=.cells [] e false) (ae _)) (ae _)
 obtain⟨s1,s2⟩:=hv'.src
 have g0:(h.new (.cells [] e false)).get h.next=some (.cells [] e false):=by rw[AH.get_new,if_pos rfl]
 by_cases hz:xs.length=0
 ·refine⟨.sl h.next 0 0 0,_,?_,.inr ⟨h.next,0,ae _,rfl,by rw[g0,bG.1 hz]; rfl,by rw[s2,hz]⟩,HD (ae _),by simp⟩
  simp only[gz,s1,ho,if_true,hz]
 ·refine⟨.sl (h.next+1) 0 xs.length xs.length,((h.new (.cells [] e false)).put h.next .dead).new (.cells xs.flatten e false),?_,.inr ⟨h.next+1,xs.length,om,rfl,by rw[AH.get_new,if_pos (by simp)],s2⟩,(HD (ae _)).trans ((Ext.put (ae _)).trans (HD (by simp))),by simp⟩
  simp only[gz,s1,ho,if_true,if_neg hz,g0,aS g0]
  rw[bO,if_neg om,if_pos ⟨hl,hl2⟩]
  simp
theorem Ay {h:AH}{v:AV}{xs:List (Int×Int)} (hv:SlE h v xs) (hl:xs.length<2 ^ 34) :
 C prg 107 [v] h λr h'=>IsSl h' 2 h.next r (xs.flatMap eE)∧Ext h.next h h'∧(r=.nils↔v=.nils):=by
 refine HH pf107 ?_
 refine ab (ah (Mi0) ?_)
 obtain⟨b,hb,k1,k2⟩:=FK hv
 refine ab (ab (ah (Mi1 hb) ?_))
 refine bg (t:=b) (Z0) (λq=>?_) λq=>?_
 ·obtain⟨rfl,hx⟩:=k1 q
  rw[List.map_eq_nil_iff] at hx
  subst hx
  refine ab (ah (M0) ?_)
  exact bt ⟨.nils,(by simp only[rs,rf107,am,aD,simprocAttr]<;>rfl),.inl ⟨rfl,rfl⟩,HE,by simp⟩
 ·have hvv:=k2 q
  refine aN ?_
  obtain⟨r,h',a1,a2,a3,a4⟩:=Gv (bytes:=16) hv GZ (by rw[au]; unfold bd; omega) (by rw[au]; unfold bd; omega)
  refine ab (ah (Mi1 a1) ?_)
  exact bt ⟨r,(by simp only[rs,rf107,am,aD,simprocAttr]<;>rfl),a2,a3,by simp [a4,hvv]⟩
open Go.Am
theorem Hu {h:AH}{gb len cap e bytes:Nat}{A Z:List AV}{v:AV}{xs:List (List AV)} (hg:h.get gb=some (.cells (A++Z) e false)) (hA:A.length=len*e) (hv:Sl h e v xs) (ho:xs.flatten.all AV.one=true) (hc:len+xs.length≤cap) (hz:xs.length*e≤Z.length) :
 ∃ h',gz h e bytes (.sl gb 0 len cap) v=some (.sl gb 0 (len+xs.length) cap,h')∧Upd h h' gb (.cells (A++xs.flatten++Z.drop (xs.length*e)) e false):=by
 obtain⟨s1,s2⟩:=hv.src
 by_cases hn:xs.length=0
 ·refine⟨h,?_,?_⟩
  ·simp only[gz,s1,ho,if_true,hn,dC]
  ·have:xs=[]:=bG.1 hn
   subst this
   simp only[hX,bU,bh,md,cM]
   exact HG hg
 ·have w:bV h gb (0+len*e) xs.flatten=some (h.put gb (.cells (A++xs.flatten++Z.drop (xs.length*e)) e false)):=by
   rw[dI hg,bO,if_pos (by rw[s2,aM]; omega)]
   congr 3
   unfold cW
   rw[← hA,List.take_left',List.drop_append,List.drop_of_length_le om,s2]
   ·simp
   ·rfl
  refine⟨_,?_,HF hg⟩
  simp only[gz,s1,ho,if_true,if_neg hn,if_pos hc,w,aH]
theorem ee {α:Type}{xss:List (List α)}{k:Nat} (hk:k<xss.length):(xss.take (k+1)).flatten=(xss.take k).flatten++xss[k]:=by
 rw[aK hk,iA]
 simp
theorem im {α:Type} (xss:List (List α)) (k:Nat):(xss.take k).flatten.length≤xss.flatten.length:=by
 conv=>rhs; rw[← cn k xss]
 rw[iA,aM]
 omega
theorem Bi {h:AH}{e:Nat}:slV h e .nils none (some (.int .i64 0)) none=some .nils:=rfl
theorem uJ {z:List AV}:∀ n,(cm z n).length=n*z.length
 | 0=>by simp [cm]
 | n+1=>by simp only[cm,aM,uJ n,dn]; omega
theorem rD {z:List AV}:∀ k n,(cm z (k+n)).drop (k*z.length)=cm z n
 | 0,n=>by simp
 | k+1,n=>by
   have e1:cm z (k+1+n)=z++cm z (k+n):=by rw[show k+1+n=(k+n)+1 by omega]; rfl
   have e2:(k+1)*z.length=z.length+k*z.length:=by rw[dn]; omega
   rw[e1,e2,← Hx,List.drop_left,rD k n]
theorem De {h:AH}{N:Nat} (hN:N<2 ^ 34):C prg 149 [.nils,.int .i64 (N:Nat)] h λr h'=>(N=0∧r=.nils∧h'=h)∨(0<N∧r=.sl h.next 0 0 N∧h'=h.new (.cells (cm [.int .i64 0] N) 1 false)):=by
 refine HH pf149 ?_
 have c1:decide (((N:Nat):Int)<0)=false:=aG om
 have w1:IntKind.i64.wrap (0-0)=0:=by decide
 have w2:IntKind.i64.wrap (((N:Nat):Int)-0)=((N:Nat):Int):=by rw[bE om om]; omega
 have cp:DT .nils=some (.int .i64 0):=rfl
 refine ab (ah (Mi0) ?_)
 refine ab (ab (ah (Mi0) ?_))
 refine cU (I1 c1) (aN ?_)
 refine ab (ab (ah (Ji3 cp w1 w2) ?_))
 refine ab (ab (ah (J0) ?_))
 refine bg (t:=decide (0<N)) (by simp only[am,aD,↓reduceIte,Nat.reduceEqDiff,Int.reduceEq,Nat.reduceAdd,Nat.reduceLeDiff,reduceCtorEq]; exact congrArg AV.bool (by simp only[decide_eq_decide]; omega)) (λq=>?_) λq=>?_
 ·have q:0<N:=aF q
  have q0:¬ ((N:Nat):Int)=0:=om
  have az:xV h [.int .i64 0] 8 .nils (.int .i64 (N:Nat))=some (.sl h.next 0 N N,h.new (.cells (cm [.int .i64 0] N) 1 false)):=by
   simp only[xV,if_neg q0]
   rw[if_pos ⟨om,by unfold bd; omega,by unfold bd; omega⟩]
   simp
  have g1:(h.new (.cells (cm [.int .i64 0] N) 1 false)).get h.next=some (.cells (cm [.int .i64 0] N) 1 false):=by rw[AH.get_new,if_pos rfl]
  have s1:slV (h.new (.cells (cm [.int .i64 0] N) 1 false)) 1 (.sl h.next 0 N N) none (some (.int .i64 0)) none=some (.sl h.next 0 0 N):=by
   have:=fP (k:=.i64) (show 0≤N by omega)
   simp only[slV,g1,if_true,oW,this,aH]
   have h0:bnd (.int .i64 0) N=some 0:=this
   rw[h0]
   simp only[aH]
   split<;>simp
  refine ah (by simp only[am,aD,simprocAttr,bL,eJ,cu,cp,Bi,az,s1]<;>rfl) ?_
  refine ab (ah (M0) ?_)
  exact bt ⟨_,(by simp only[rs,rf149,am,aD,simprocAttr]<;>rfl),.inr ⟨q,rfl,rfl⟩⟩
 ·have q:¬ 0<N:=aE q
  refine aN (ab (ah (Mi0) ?_))
  exact bt ⟨_,(by simp only[rs,rf149,am,aD,simprocAttr]<;>rfl),.inl ⟨om,rfl,rfl⟩⟩
theorem xw {h:AH}{v:AV}{vs:List AV}{xss:List (List (Int))} (hv:Sl h 1 v (vs.map λx=>[x])) (hl:vs.length=xss.length) (hx:∀ (i:Nat) (w:AV) (xs:List (Int)),vs[i]?=some w→xss[i]?=some xs→SlI h w xs) (hn:xss.length<2 ^ 30) (hs:xss.flatten.length<2 ^ 34) :
 C prg 115 [v] h λr h'=>IsSl h' 1 h.next r (xss.flatten.flatMap eI)∧Ext h.next h h':=by
 have el:=hv.len
 rw[au,hl] at el
 have hvk:∀ (k:Nat) (hk:k<xss.length),∃ b p,jf 1 v (.int .i64 (k:Nat))=some (.ptr b p)∧ar h b p 1=some [vs[k]'om]∧b<h.next:=λk hk=>hv.at1 (by rw[be,aw om]; rfl)
 have hxk:∀ (k:Nat) (hk:k<xss.length),SlI h (vs[k]'om) xss[k]:=λk hk=>hx k _ _ (aw _) (aw hk)
 refine HH pf115 ?_
 refine ab (ah (Mi0) ?_)
 refine ab (ah (M0) ?_)
 refine ab (ab (ah (Mi1 el) ?_))
 refine hU (α:=Unit) (N:=xss.length) (λk _=>[(0,v),(9,v),(3,.int .i64 ((xss.take k).flatten.length:Nat))]) (λ_ _ h'=>h'=h) () (λ_ _=>rfl) om (by simp only[eK,fx,am,aD,↓reduceIte,Nat.reduceEqDiff,Int.reduceEq,Nat.reduceAdd,Nat.reduceLeDiff,reduceCtorEq,bL,gV,hX,bm]) rfl ?_ ?_
 ·rintro k _ ts h1 hk rfl ⟨ei,en,e0,e9,e3,-⟩
  simp only at ei en e0 e9 e3
  obtain⟨b1,p1,a1,r1,_⟩:=hvk k hk
  have lk:=(hxk k hk).len
  rw[au] at lk
  have hle:=im xss (k+1)
  rw[ee hk,aM] at hle
  have w1:IntKind.i64.wrap ((((xss.take k).flatten.length:Nat):Int)+((xss[k].length:Nat):Int))=(((xss.take (k+1)).flatten.length:Nat):Int):=by
   rw[bE om om,ee hk,aM]
   omega
  have c1:decide ((((xss.take (k+1)).flatten.length:Nat):Int)<0)=false:=aG om
  refine ab (ah (M4 e9 ei a1 r1) ?_)
  refine ab (ah (by simp only[am,aD,simprocAttr,e3,lk,w1]<;>rfl) ?_)
  refine ab (ah (M1 c1) ?_)
  refine cU (I0) (aN ⟨(),rfl,O4 ei en e0 e9⟩)
 ·rintro _ ts h1 rfl ⟨e0,e9,e3,-⟩
  simp only at e0 e9 e3
  rw[bp] at e3
  refine ab (aX (aP 1 (M1 e3) rfl (Z1 e3) (M1 e3) (De hs) λg h2 hq=>?_))
  refine aW (M0) ?_
  refine ab (ab (ah (M2 e0 el) ?_))
  rcases hq with ⟨hz,rfl,rfl⟩|⟨hz,rfl,rfl⟩
  ·refine hU (α:=Unit) (N:=xss.length) (λ_ _=>[(25,v),(6,.nils)]) (λ_ _ h'=>h'=h2) () (λ_ _=>rfl) om (O1 e0) rfl ?_ ?_
   ·rintro k _ ts h1 hk rfl ⟨ei,en,e25,e6,-⟩
    simp only at ei en e25 e6
    obtain⟨b1,p1,a1,r1,_⟩:=hvk k hk
    have hle:=im xss (k+1)
    rw[ee hk,aM] at hle
    have hk0:xss[k]=[]:=bG.1 om
    have s1:=(hxk k hk).src.1
    rw[hk0] at s1
    have ap:gz h1 1 8 .nils (vs[k]'om)=some (.nils,h1):=by simp [gz,s1]
    refine ab (ah (M4 e25 ei a1 r1) ?_)
    refine ah (M2 e6 ap) ?_
    exact⟨(),rfl,O3 ei en e25⟩
   ·rintro _ ts h1 rfl ⟨e25,e6,-⟩
    simp only at e25 e6
    refine ab (ah (M1 e6) ?_)
    exact bt ⟨_,(by simp only[rs,rf115,am,aD,simprocAttr]<;>rfl),.inl ⟨rfl,by rw[bG.1 hz]; rfl⟩,HE⟩
  ·have g2:(h1.new (.cells (cm [.int .i64 0] xss.flatten.length) 1 false)).get h1.next=some (.cells (cm [.int .i64 0] xss.flatten.length) 1 false):=by rw[AH.get_new,if_pos rfl]
   have x2:Ext h1.next h1 (h1.new (.cells (cm [.int .i64 0] xss.flatten.length) 1 false)):=HD (ae _)
   generalize h1.new (.cells (cm [.int .i64 0] xss.flatten.length) 1 false)=h2 at *
   refine hU (α:=Unit) (N:=xss.length) (λk _=>[(25,v),(6,.sl h1.next 0 (xss.take k).flatten.length xss.flatten.length)])
    (λk _ h'=>h'.get h1.next=some (.cells ((xss.take k).flatten.flatMap eI++cm [.int .i64 0] (xss.flatten.length-(xss.take k).flatten.length)) 1 false)∧Ext h1.next h1 h') () (λ_ _=>rfl) om (by simp only[eK,fx,am,aD,↓reduceIte,Nat.reduceEqDiff,Int.reduceEq,Nat.reduceAdd,Nat.reduceLeDiff,reduceCtorEq,e0,gV,hX,bh]) ⟨g2,x2⟩ ?_ ?_
   ·rintro k _ ts h3 hk ⟨j1,j2⟩ ⟨ei,en,e25,e6,-⟩
    simp only at ei en e25 e6
    obtain⟨b1,p1,a1,r1,hb⟩:=hvk k hk
    have hle:=im xss (k+1)
    rw[ee hk,aM] at hle
    have fl:((xss.take k).flatten.flatMap eI).length=(xss.take k).flatten.length*1:=dS (f:=eI) (e:=1) (λ_=>rfl) _
    obtain⟨h4,p4,u4⟩:=Hu (bytes:=8) (cap:=xss.flatten.length) j1 fl ((hxk k hk).ext j2 (ae _)) GY (by rw[au]; omega) (by rw[au,uJ]; simp only[aV,bh]; omega)
    have ef:(xss.take k).flatten.length+xss[k].length=(xss.take (k+1)).flatten.length:=by rw[ee hk,aM]
    rw[au,ef] at p4
    have e2:(xss.take k).flatten.flatMap eI++(xss[k].map eI).flatten++(cm [.int .i64 0] (xss.flatten.length-(xss.take k).flatten.length)).drop ((xss[k].map eI).length*1)=(xss.take (k+1)).flatten.flatMap eI++cm [.int .i64 0] (xss.flatten.length-(xss.take (k+1)).flatten.length):=by
     rw[ee hk,bQ,← List.flatMap_def,au,aM]
     congr 1
     rw[show xss.flatten.length-(xss.take k).flatten.length=xss[k].length+(xss.flatten.length-((xss.take k).flatten.length+xss[k].length)) by omega]
     exact rD (z:=[.int .i64 0]) _ _
    rw[e2] at u4
    have r1':ar h3 b1 p1 1=some [vs[k]'om]:=by rw[cy (j2.gt _ hb)]; exact r1
    refine ab (ah (M4 e25 ei a1 r1') ?_)
    refine ah (M2 e6 p4) ?_
    exact⟨(),⟨u4.get,j2.trans (u4.ext (ae _))⟩,O3 ei en e25⟩
   ·rintro _ ts h3 ⟨j1,j2⟩ ⟨e25,e6,-⟩
    simp only at e25 e6
    rw[bp] at j1 e6
    refine ab (ah (M1 e6) ?_)
    refine bt ⟨_,(by simp only[rs,rf115,am,aD,simprocAttr]<;>rfl),.inr ⟨h1.next,xss.flatten.length,ae _,rfl,?_,dS (f:=eI) (e:=1) (λ_=>rfl) _⟩,j2⟩
    rw[j1,ff]
    simp [cm]
open Go.Am
def okE (v:Int) (e:Int×Int):Bool:=decide (0≤e.1)&&decide (0≤e.2)&&decide (e.1<v)&&decide (e.2<v)
def eV (v:Int) (es:List (Int×Int)):Bool:=decide (1≤v)&&decide (v≤64)&&decide (es.length≤128)&&es.all (okE v)
def ta (v x:Int):Bool:=decide (x<0)||decide (v≤x)
theorem vB {h:AH}{b:Nat}{x n:Int} (hr:ar h b 0 1=some [.int .i64 n]):C prg 104 [.int .i64 x,.ptr b 0] h λr h'=>r=.bool (ta n x)∧h'=h:=by
 refine HH pf104 ?_
 refine ab (ah (Mi0) ?_)
 by_cases q:x<0
 ·have c1:decide (x<0)=true:=aI q
  refine ab (ah (Mi1 c1) ?_)
  exact bt ⟨.bool true,(by simp only[rs,rf104,am,aD,simprocAttr,c1]<;>rfl),by simp [ta,q],rfl⟩
 ·have c1:decide (x<0)=false:=aG q
  refine ab (ah (Mi2 c1 hr) ?_)
  exact bt ⟨.bool (decide (n≤x)),(by simp only[rs,rf104,am,aD,simprocAttr,c1]<;>rfl),by simp [ta,q],rfl⟩
theorem Dg {h:AH}{b s:Nat}{x:Int×Int}{n:Int} (hr:ar h b 0 1=some [.int .i64 n]) (hs:ar h s 0 1=some [.fn 104 [.ptr b 0]]) (hb:b<h.next) (hsn:s<h.next) :
 C prg 105 ([.agg (eE x)]++[.ptr s 0]) h λr h'=>r=.bool (!okE n x)∧Ext h.next h h':=by
 refine HH pf105 ?_
 have fin:(!okE n x)=(ta n x.1||ta n x.2):=by
  obtain⟨x1,x2⟩:=x
  simp only[okE,ta]
  by_cases a1:x1<0<;>by_cases a2:x2<0<;>by_cases a3:n≤x1<;>by_cases a4:n≤x2<;>simp [a1,a2,a3,a4]<;>omega
 rw[fin]
 refine ab (ah (by simp only[am,aD,simprocAttr,bL,eE]<;>rfl) ?_)
 have ex:Ext h.next h (h.new (.cells [.int .i64 x.1,.int .i64 x.2] 2 false)):=HD (ae _)
 have g:(h.new (.cells [.int .i64 x.1,.int .i64 x.2] 2 false)).get h.next=some (.cells [.int .i64 x.1,.int .i64 x.2] 2 false):=by rw[AH.get_new,if_pos rfl]
 generalize h.new (.cells [.int .i64 x.1,.int .i64 x.2] 2 false)=h1 at *
 have r1:ar h1 h.next 0 1=some [.int .i64 x.1]:=by rw[aS g]; rfl
 have r2:ar h1 h.next 1 1=some [.int .i64 x.2]:=by rw[aS g]; rfl
 have hr1:ar h1 b 0 1=some [.int .i64 n]:=by rw[← hr]; exact cy (ex.gt b hb)
 have hs1:ar h1 s 0 1=some [.fn 104 [.ptr b 0]]:=by rw[← hs]; exact cy (ex.gt s hsn)
 refine ab (aX (dT 3 (by simp only[am,aD,simprocAttr,bL,eE,hs1,r1]<;>rfl) rfl (by simp only[am,aD,simprocAttr,bL,eE,hs1,r1]) (by simp only[am,aD,simprocAttr,bL,eE,hs1,r1]<;>rfl) (by simp only[am,aD,simprocAttr,bL,eE,hs1,r1]<;>rfl) (vB (x:=x.1) hr1) λr h2 hq=>?_))
 obtain⟨rfl,rfl⟩:=hq
 cases q:ta n x.1 with
 | true =>
   refine fh 4 (M0) rfl (Z0) ?_
   refine aW (M0) ?_
   exact bt ⟨.bool true,(by simp only[rs,rf105,am,aD,simprocAttr]<;>rfl),rfl,ex⟩
 | false =>
   refine dT 4 (by simp only[am,aD,simprocAttr,bL,eE,hs1,r2]<;>rfl) rfl (by simp only[am,aD,simprocAttr,bL,eE,hs1,r2]) (by simp only[am,aD,simprocAttr,bL,eE,hs1,r2]<;>rfl) (by simp only[am,aD,simprocAttr,bL,eE,hs1,r2]<;>rfl) (vB (x:=x.2) hr1) λr h3 hq=>?_
   obtain⟨rfl,rfl⟩:=hq
   refine aW (M0) ?_
   exact bt ⟨.bool (ta n x.2),(by simp only[rs,rf105,am,aD,simprocAttr]<;>rfl),rfl,ex⟩
theorem tw {h:AH}{n:Int}{ev:AV}{es:List (Int×Int)} (he:SlE h ev es) (hl:es.length<2 ^ 40):C prg 57 [.agg [.int .i64 n,ev]] h λr h'=>r=.bool (eV n es)∧Ext h.next h h':=by
 refine HH pf57 ?_
 obtain⟨ec,eo⟩:=he.cells
 have hlen:=he.len
 rw[au] at hlen
 refine ab (ah (Mi0) ?_)
 have ex0:Ext h.next h (h.new (.cells [.int .i64 n,ev] 2 false)):=HD (ae _)
 have g0:(h.new (.cells [.int .i64 n,ev] 2 false)).get h.next=some (.cells [.int .i64 n,ev] 2 false):=by rw[AH.get_new,if_pos rfl]
 have n0:(h.new (.cells [.int .i64 n,ev] 2 false)).next=h.next+1:=rfl
 generalize h.new (.cells [.int .i64 n,ev] 2 false)=h0 at *
 have gN:(h0.new (.cells [.nilf] 1 false)).get h0.next=some (.cells [.nilf] 1 false):=by rw[AH.get_new,if_pos rfl]
 have w1:bV (h0.new (.cells [.nilf] 1 false)) h0.next 0 [.fn 104 [.ptr h.next 0]]=some ((h0.new (.cells [.nilf] 1 false)).put h0.next (.cells [.fn 104 [.ptr h.next 0]] 1 false)):=by rw[dI gN]; rfl
 have u1:Upd (h0.new (.cells [.nilf] 1 false)) ((h0.new (.cells [.nilf] 1 false)).put h0.next (.cells [.fn 104 [.ptr h.next 0]] 1 false)) h0.next (.cells [.fn 104 [.ptr h.next 0]] 1 false):=HF gN
 refine ab (ah (Mi1 w1) ?_)
 have ex1:Ext h0.next h0 ((h0.new (.cells [.nilf] 1 false)).put h0.next (.cells [.fn 104 [.ptr h.next 0]] 1 false)):=(HD (ae _)).trans (u1.ext (ae _))
 have n1:((h0.new (.cells [.nilf] 1 false)).put h0.next (.cells [.fn 104 [.ptr h.next 0]] 1 false)).next=h0.next+1:=rfl
 have g1:=u1.get
 generalize (h0.new (.cells [.nilf] 1 false)).put h0.next (.cells [.fn 104 [.ptr h.next 0]] 1 false)=h1 at *
 clear gN w1 u1
 have g0':h1.get h.next=some (.cells [.int .i64 n,ev] 2 false):=by rw[ex1.gt _ om]; exact g0
 have r1:ar h1 h.next 0 1=some [.int .i64 n]:=by rw[aS g0']; rfl
 have r2:ar h1 h.next 1 1=some [ev]:=by rw[aS g0']; rfl
 have r3:ar h1 h0.next 0 1=some [.fn 104 [.ptr h.next 0]]:=by rw[aS g1]; rfl
 have ex:Ext h.next h h1:=ex0.trans (ex1.mono om)
 have he1:=he.ext ex (ae _)
 by_cases q1:0<n
 case neg =>
  have c1:decide (0<n)=false:=aG q1
  refine ab (aX (dF 18 (Mi2 r1 c1) rfl (Z1 c1) ?_))
  refine aW (M0) ?_
  exact bt ⟨.bool false,(by simp only[rs,rf57,am,aD,simprocAttr]<;>rfl),by simp [eV]; omega,ex⟩
 have c1:decide (0<n)=true:=aI q1
 by_cases q2:n≤64
 case neg =>
  have c2:decide (n≤64)=false:=aG q2
  refine ab (aX (dF 18 (Mi3 r1 c1 c2) rfl (Z0) ?_))
  refine aW (M0) ?_
  exact bt ⟨.bool false,(by simp only[rs,rf57,am,aD,simprocAttr]<;>rfl),by simp [eV,q2],ex⟩
 have c2:decide (n≤64)=true:=aI q2
 by_cases q3:es.length≤128
 case neg =>
  have c3:decide (((es.length:Nat):Int)≤128)=false:=aG om
  refine ab (aX (dF 18 (Mi6 r1 r2 hlen c1 c2 c3) rfl (Z0) ?_))
  refine aW (M0) ?_
  exact bt ⟨.bool false,(by simp only[rs,rf57,am,aD,simprocAttr]<;>rfl),by simp [eV,q3],ex⟩
 have c3:decide (((es.length:Nat):Int)≤128)=true:=aI om
 have hcf:∀ x∈es,∀ h',Ext h1.next h1 h'→C prg 105 ([.agg (eE x)]++[.ptr h0.next 0]) h' λr h''=>r=.bool (!okE n x)∧Ext h'.next h' h'':=λx _ h' hx =>
  Dg (by rw[← r1]; exact cy (hx.gt _ om)) (by rw[← r3]; exact cy (hx.gt _ om)) (by have:=hx.nx; omega) (by have:=hx.nx; omega)
 refine ab (aX (aP 18 (Mi6 r1 r2 hlen c1 c2 c3) rfl (Zi6 r1 r2 hlen c1 c2 c3) (Mi6 r1 r2 hlen c1 c2 c3) (sF he1 hl hcf) λr h2 hq=>?_))
 obtain⟨rfl,ex2⟩:=hq
 refine aW (M0) ?_
 refine bt ⟨_,(by simp only[rs,rf57,am,aD,simprocAttr]<;>rfl),?_,ex.trans (ex2.mono ex.nx)⟩
 have c4:decide (1≤n)=true:=aI om
 have c5:(!es.any λx=>!okE n x)=es.all (okE n):=by
  rw[List.not_any_eq_all_not]
  simp
 simp only[eV,c4,c2,q3,decide_true,wk,c5]
end Go.Proofs.YtahepnbflofndaaGreatDoor
