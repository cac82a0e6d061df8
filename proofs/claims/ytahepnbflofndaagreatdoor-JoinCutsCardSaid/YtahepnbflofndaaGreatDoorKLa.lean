/- slices.IndexFunc, Index, ContainsFunc, Contains (printed by -/
import Derived.Test.YtahepnbflofndaaGreatDoorKRf
import Derived.Test.YtahepnbflofndaaGreatDoorKAmL
import Derived.Test.YtahepnbflofndaaGreatDoorKAmR
set_option linter.all false
namespace Go.Proofs.YtahepnbflofndaaGreatDoor
open Go.Am
theorem ud {a b:Int×Int}:eU .eql (.flat [.i64,.i64]) (.agg (eE a)) (.agg (eE b))=some (.bool (a==b)):=by
 obtain⟨a1,a2⟩:=a;obtain⟨b1,b2⟩:=b;show Option.map AV.bool (jd (.flat [.i64,.i64]) (.agg (eE (a1,a2))) (.agg (eE (b1,b2))))=_;simp only[jd,eqF,eE,gY,and_self,if_true];by_cases h1:a1=b1
 ·subst h1;by_cases h2:a2=b2
  ·subst h2; simp
  ·simp [h2]
 ·simp [h1]
theorem zD {h:AH}{v:AV}{xs:List (Int×Int)}{P:Int×Int→Bool}{k:FuncId}{caps:List AV} (hv:SlE h v xs) (hl:xs.length<2 ^ 40)
 (hf:∀ x∈xs,∀ h',Ext h.next h h'→C prg k ([.agg (eE x)]++caps) h' λr h''=>r=.bool (P x)∧Ext h'.next h' h'') :
 C prg 58 [v,.fn k caps] h λr h'=>r=.int .i64 (dW P xs 0)∧Ext h.next h h':=by
 refine Mw pf58 ?_;have hlen:=hv.len;rw[ai] at hlen;refine ae (aj (Mi0) ?_);refine ae (ae (aj (Mi1 hlen) ?_));refine ae (oZ (λts h1=>dW P xs 0=-1∧Ext h.next h h1) (cY (fX (λn ts h1=>∃ i,n=xs.length-i∧i≤xs.length∧Ext h.next h h1∧dW P (xs.drop i) i=dW P xs 0∧cU ts 0=v∧cU ts 1=.fn k caps∧cU ts 7=.int .i64 (xs.length:Nat)∧cU ts 8=.int .i64 (i:Nat)) ?_ (n:=xs.length) ⟨0,rfl,dM _,Mu,by rw[de],Ii0,Ii0,Ii0,by simp only[am,aK,↓reduceIte,Nat.reduceEqDiff,Int.reduceEq,Nat.reduceAdd,Nat.reduceLeDiff,reduceCtorEq,bS]; rfl⟩)) ?_)
 ·rintro n ts h1 ⟨i,rfl,hi,ex,hF,e0,e1,e7,e8⟩;refine ae (aj (M2 e7 e8) ?_);refine ae (cr (t:=decide (i<xs.length)) (Z1 @bz) (λq=>?_) λq=>?_)
  ·have q:i<xs.length:=aR q;obtain⟨b,p,a1,r1,_,_⟩:=(hv.ext ex (ab _)).at (cq (f:=eE) q);refine bu (ae (cY (ae (aj (M1 e8) ?_))));have hc:=hf _ (aP q) h1 ex;refine ae (bN (od 5 (M6 e0 e1 e7 e8 a1 r1) rfl (Z6 e0 e1 e7 e8 a1 r1) (M6 e0 e1 e7 e8 a1 r1) (M6 e0 e1 e7 e8 a1 r1) (hc) λr h2 hq=>?_));obtain⟨rfl,ex2⟩:=hq;have ex3:=ex.trans (ex2.mono ex.nx);refine bH (M0) ?_;refine cr (t:=P xs[i]) (Z0) (λq2=>?_) λq2=>?_
   ·refine ae (aj (M0) ?_);refine br ⟨.int .i64 (i:Nat),(by simp only[rs,rf58,am,aK,simprocAttr]<;>rfl),?_,ex3⟩;rw[← hF,fJ P q,if_pos q2]
   ·have w1:IntKind.i64.wrap (((i:Nat):Int)+1)=((i+1:Nat):Int):=fD om om;refine bu (aj (M2 e8 w1) ?_);refine⟨xs.length-(i+1),om,i+1,rfl,om,ex3,?_,Z1 e0,Z1 e1,Z1 e7,Z2 e8 w1⟩;rw[← hF,fJ P q,if_neg (by simp [q2])]
  ·have q:¬ i<xs.length:=aZ q;refine fB ⟨λ_=>⟨?_,ex⟩,λe=>absurd rfl e⟩;rw[← hF,dG om];rfl
 ·rintro ts h1 ⟨hF,ex⟩;refine ae (aj (M0) ?_);exact br ⟨.int .i64 (-1),(by simp only[rs,rf58,am,aK,simprocAttr]<;>rfl),by rw[hF],ex⟩
theorem Hi {h:AH}{v:AV}{xs:List (Int)}{P:Int→Bool}{k:FuncId}{caps:List AV} (hv:SlI h v xs) (hl:xs.length<2 ^ 40)
 (hf:∀ x∈xs,∀ h',Ext h.next h h'→C prg k ([.int .i64 x]++caps) h' λr h''=>r=.bool (P x)∧Ext h'.next h' h'') :
 C prg 109 [v,.fn k caps] h λr h'=>r=.int .i64 (dW P xs 0)∧Ext h.next h h':=by
 refine Mw pf109 ?_;have hlen:=hv.len;rw[ai] at hlen;refine ae (aj (Mi0) ?_);refine ae (ae (aj (Mi1 hlen) ?_));refine ae (oZ (λts h1=>dW P xs 0=-1∧Ext h.next h h1) (cY (fX (λn ts h1=>∃ i,n=xs.length-i∧i≤xs.length∧Ext h.next h h1∧dW P (xs.drop i) i=dW P xs 0∧cU ts 0=v∧cU ts 1=.fn k caps∧cU ts 7=.int .i64 (xs.length:Nat)∧cU ts 8=.int .i64 (i:Nat)) ?_ (n:=xs.length) ⟨0,rfl,dM _,Mu,by rw[de],Ii0,Ii0,Ii0,by simp only[am,aK,↓reduceIte,Nat.reduceEqDiff,Int.reduceEq,Nat.reduceAdd,Nat.reduceLeDiff,reduceCtorEq,bS]; rfl⟩)) ?_)
 ·rintro n ts h1 ⟨i,rfl,hi,ex,hF,e0,e1,e7,e8⟩;refine ae (aj (M2 e7 e8) ?_);refine ae (cr (t:=decide (i<xs.length)) (Z1 @bz) (λq=>?_) λq=>?_)
  ·have q:i<xs.length:=aR q;obtain⟨b,p,a1,r1,_,_⟩:=(hv.ext ex (ab _)).at (cq (f:=eI) q);refine bu (ae (cY (ae (aj (M1 e8) ?_))));have hc:=hf _ (aP q) h1 ex;refine ae (bN (od 5 (by simp only[am,aK,simprocAttr,e0,e1,e7,e8,a1,r1,lS,eI]<;>rfl) rfl (by simp only[am,aK,simprocAttr,e0,e1,e7,e8,a1,r1,lS,eI]) (by simp only[am,aK,simprocAttr,e0,e1,e7,e8,a1,r1,lS,eI]<;>rfl) (by simp only[am,aK,simprocAttr,e0,e1,e7,e8,a1,r1,lS,eI]<;>rfl) (hc) λr h2 hq=>?_));obtain⟨rfl,ex2⟩:=hq;have ex3:=ex.trans (ex2.mono ex.nx);refine bH (M0) ?_;refine cr (t:=P xs[i]) (Z0) (λq2=>?_) λq2=>?_
   ·refine ae (aj (M0) ?_);refine br ⟨.int .i64 (i:Nat),(by simp only[rs,rf109,am,aK,simprocAttr]<;>rfl),?_,ex3⟩;rw[← hF,fJ P q,if_pos q2]
   ·have w1:IntKind.i64.wrap (((i:Nat):Int)+1)=((i+1:Nat):Int):=fD om om;refine bu (aj (M2 e8 w1) ?_);refine⟨xs.length-(i+1),om,i+1,rfl,om,ex3,?_,Z1 e0,Z1 e1,Z1 e7,Z2 e8 w1⟩;rw[← hF,fJ P q,if_neg (by simp [q2])]
  ·have q:¬ i<xs.length:=aZ q;refine fB ⟨λ_=>⟨?_,ex⟩,λe=>absurd rfl e⟩;rw[← hF,dG om];rfl
 ·rintro ts h1 ⟨hF,ex⟩;refine ae (aj (M0) ?_);exact br ⟨.int .i64 (-1),(by simp only[rs,rf109,am,aK,simprocAttr]<;>rfl),by rw[hF],ex⟩
theorem Hh {h:AH}{v:AV}{xs:List (Int×Int×Int)}{P:Int×Int×Int→Bool}{k:FuncId}{caps:List AV} (hv:SlT h v xs) (hl:xs.length<2 ^ 40)
 (hf:∀ x∈xs,∀ h',Ext h.next h h'→C prg k ([.agg (eT x)]++caps) h' λr h''=>r=.bool (P x)∧Ext h'.next h' h'') :
 C prg 230 [v,.fn k caps] h λr h'=>r=.int .i64 (dW P xs 0)∧Ext h.next h h':=by
 refine Mw pf230 ?_;have hlen:=hv.len;rw[ai] at hlen;refine ae (aj (Mi0) ?_);refine ae (ae (aj (Mi1 hlen) ?_));refine ae (oZ (λts h1=>dW P xs 0=-1∧Ext h.next h h1) (cY (fX (λn ts h1=>∃ i,n=xs.length-i∧i≤xs.length∧Ext h.next h h1∧dW P (xs.drop i) i=dW P xs 0∧cU ts 0=v∧cU ts 1=.fn k caps∧cU ts 7=.int .i64 (xs.length:Nat)∧cU ts 8=.int .i64 (i:Nat)) ?_ (n:=xs.length) ⟨0,rfl,dM _,Mu,by rw[de],Ii0,Ii0,Ii0,by simp only[am,aK,↓reduceIte,Nat.reduceEqDiff,Int.reduceEq,Nat.reduceAdd,Nat.reduceLeDiff,reduceCtorEq,bS]; rfl⟩)) ?_)
 ·rintro n ts h1 ⟨i,rfl,hi,ex,hF,e0,e1,e7,e8⟩;refine ae (aj (M2 e7 e8) ?_);refine ae (cr (t:=decide (i<xs.length)) (Z1 @bz) (λq=>?_) λq=>?_)
  ·have q:i<xs.length:=aR q;obtain⟨b,p,a1,r1,_,_⟩:=(hv.ext ex (ab _)).at (cq (f:=eT) q);refine bu (ae (cY (ae (aj (M1 e8) ?_))));have hc:=hf _ (aP q) h1 ex;refine ae (bN (od 5 (M6 e0 e1 e7 e8 a1 r1) rfl (Z6 e0 e1 e7 e8 a1 r1) (M6 e0 e1 e7 e8 a1 r1) (M6 e0 e1 e7 e8 a1 r1) (hc) λr h2 hq=>?_));obtain⟨rfl,ex2⟩:=hq;have ex3:=ex.trans (ex2.mono ex.nx);refine bH (M0) ?_;refine cr (t:=P xs[i]) (Z0) (λq2=>?_) λq2=>?_
   ·refine ae (aj (M0) ?_);refine br ⟨.int .i64 (i:Nat),(by simp only[rs,rf230,am,aK,simprocAttr]<;>rfl),?_,ex3⟩;rw[← hF,fJ P q,if_pos q2]
   ·have w1:IntKind.i64.wrap (((i:Nat):Int)+1)=((i+1:Nat):Int):=fD om om;refine bu (aj (M2 e8 w1) ?_);refine⟨xs.length-(i+1),om,i+1,rfl,om,ex3,?_,Z1 e0,Z1 e1,Z1 e7,Z2 e8 w1⟩;rw[← hF,fJ P q,if_neg (by simp [q2])]
  ·have q:¬ i<xs.length:=aZ q;refine fB ⟨λ_=>⟨?_,ex⟩,λe=>absurd rfl e⟩;rw[← hF,dG om];rfl
 ·rintro ts h1 ⟨hF,ex⟩;refine ae (aj (M0) ?_);exact br ⟨.int .i64 (-1),(by simp only[rs,rf230,am,aK,simprocAttr]<;>rfl),by rw[hF],ex⟩
theorem wm {h:AH}{v:AV}{xs:List (Int×Int)}{P:Int×Int→Bool}{k:FuncId}{caps:List AV} (hv:SlE h v xs) (hl:xs.length<2 ^ 40)
 (hf:∀ x∈xs,∀ h',Ext h.next h h'→C prg k ([.agg (eE x)]++caps) h' λr h''=>r=.bool (P x)∧Ext h'.next h' h'') :
 C prg 93 [v,.fn k caps] h λr h'=>r=.bool (xs.any P)∧Ext h.next h h':=by
 refine Mw pf93 ?_;refine ae (aj (Mi0) ?_);refine ae (bN (bo 2 (Mi0) rfl (Zi0) (Mi0) (zD hv hl hf) λr h2 hq=>?_));obtain⟨rfl,ex⟩:=hq;have hb:decide ((0:Int)≤dW P xs 0)=xs.any P:=by
  have:=(jR P xs 0).2;cases hq:xs.any P with
  | true=>rw[aJ]; rw[hq] at this; simp at this; omega
  | false=>rw[bZ]; have:=this.2 hq; omega
 refine bH (M1 hb) ?_;exact br ⟨_,(by simp only[rs,rf93,am,aK,simprocAttr]<;>rfl),rfl,ex⟩
theorem EE {h:AH}{v:AV}{xs:List (Int×Int×Int)}{P:Int×Int×Int→Bool}{k:FuncId}{caps:List AV} (hv:SlT h v xs) (hl:xs.length<2 ^ 40)
 (hf:∀ x∈xs,∀ h',Ext h.next h h'→C prg k ([.agg (eT x)]++caps) h' λr h''=>r=.bool (P x)∧Ext h'.next h' h'') :
 C prg 219 [v,.fn k caps] h λr h'=>r=.bool (xs.any P)∧Ext h.next h h':=by
 refine Mw pf219 ?_;refine ae (aj (Mi0) ?_);refine ae (bN (bo 2 (Mi0) rfl (Zi0) (Mi0) (Hh hv hl hf) λr h2 hq=>?_));obtain⟨rfl,ex⟩:=hq;have hb:decide ((0:Int)≤dW P xs 0)=xs.any P:=by
  have:=(jR P xs 0).2;cases hq:xs.any P with
  | true=>rw[aJ]; rw[hq] at this; simp at this; omega
  | false=>rw[bZ]; have:=this.2 hq; omega
 refine bH (M1 hb) ?_;exact br ⟨_,(by simp only[rs,rf219,am,aK,simprocAttr]<;>rfl),rfl,ex⟩
theorem pX {h:AH}{v:AV}{xs:List (Int)}{y:Int} (hv:SlI h v xs) (hl:xs.length<2 ^ 40) :
 C prg 112 [v,.int .i64 y] h λr h'=>r=.int .i64 (dW (y==·) xs 0)∧Ext h.next h h':=by
 refine Mw pf112 ?_;have hlen:=hv.len;rw[ai] at hlen;have ex0:Ext h.next h h:=Mu;refine ae (aj (Mi0) ?_);refine ae (ae (aj (Mi1 hlen) ?_));refine ae (oZ (λts h1=>dW (y==·) xs 0=-1∧h1=h) (cY (fX (λn ts h1=>∃ i,n=xs.length-i∧i≤xs.length∧h1=h∧dW (y==·) (xs.drop i) i=dW (y==·) xs 0∧cU ts 0=v∧cU ts 1=.int .i64 y∧cU ts 7=.int .i64 (xs.length:Nat)∧cU ts 8=.int .i64 (i:Nat)) ?_ (n:=xs.length) ⟨0,rfl,dM _,rfl,by rw[de],Ii0,Ii0,Ii0,by simp only[am,aK,↓reduceIte,Nat.reduceEqDiff,Int.reduceEq,Nat.reduceAdd,Nat.reduceLeDiff,reduceCtorEq,bS]; rfl⟩)) ?_)
 ·rintro n ts h1 ⟨i,rfl,hi,rfl,hF,e0,ek,e7,e8⟩;refine ae (aj (M2 e7 e8) ?_);refine ae (cr (t:=decide (i<xs.length)) (Z1 @bz) (λq=>?_) λq=>?_)
  ·have q:i<xs.length:=aR q;obtain⟨b,p,a1,r1,_,_⟩:=(hv.ext ex0 (ab _)).at (cq (f:=eI) q);refine bu (ae (cY (ae (aj (M1 e8) ?_))));have ceq:decide (y=xs[i])=(y==xs[i]):=rfl;refine ae (aj (by simp only[am,aK,simprocAttr,e0,ek,e7,e8,a1,r1,ceq,eI]<;>rfl) ?_);refine cr (t:=y==xs[i]) (Z0) (λq2=>?_) λq2=>?_
   ·refine ae (aj (M0) ?_);refine br ⟨.int .i64 (i:Nat),(by simp only[rs,rf112,am,aK,simprocAttr]<;>rfl),?_,ex0⟩;rw[← hF,fJ _ q,if_pos q2]
   ·have w1:IntKind.i64.wrap (((i:Nat):Int)+1)=((i+1:Nat):Int):=fD om om;refine bu (aj (M2 e8 w1) ?_);refine⟨xs.length-(i+1),om,i+1,rfl,om,rfl,?_,Z1 e0,Z1 ek,Z1 e7,Z2 e8 w1⟩;rw[← hF,fJ _ q,if_neg (by simp [q2])]
  ·have q:¬ i<xs.length:=aZ q;refine fB ⟨λ_=>⟨?_,rfl⟩,λe=>absurd rfl e⟩;rw[← hF,dG om];rfl
 ·rintro ts h1 ⟨hF,rfl⟩;refine ae (aj (M0) ?_);exact br ⟨.int .i64 (-1),(by simp only[rs,rf112,am,aK,simprocAttr]<;>rfl),by rw[hF],ex0⟩
theorem Kl {h:AH}{v:AV}{xs:List (Int×Int)}{y:Int×Int} (hv:SlE h v xs) (hl:xs.length<2 ^ 40) :
 C prg 106 [v,.agg (eE y)] h λr h'=>r=.int .i64 (dW (y==·) xs 0)∧Ext h.next h h':=by
 refine Mw pf106 ?_;have hlen:=hv.len;rw[ai] at hlen;have hlen':[AV.int .i64 y.1,.int .i64 y.2].length=2:=rfl;refine ae (aj (by simp only[am,aK,simprocAttr,bS,eE]<;>rfl) ?_);have ex0:Ext h.next h (h.new (.cells [.int .i64 y.1,.int .i64 y.2] 2 false)):=Mt (ab _);have rb:ak (h.new (.cells [.int .i64 y.1,.int .i64 y.2] 2 false)) h.next 0 2=some [.int .i64 y.1,.int .i64 y.2]:=by rw[aU (by rw[AH.get_new,if_pos rfl])]; rfl
 have hlt:h.next<(h.new (.cells [.int .i64 y.1,.int .i64 y.2] 2 false)).next:=by simp
 generalize h.new (.cells [.int .i64 y.1,.int .i64 y.2] 2 false)=h0 at *
 refine ae (ae (aj (Mi1 hlen) ?_));refine ae (oZ (λts h1=>dW (y==·) xs 0=-1∧h1=h0) (cY (fX (λn ts h1=>∃ i,n=xs.length-i∧i≤xs.length∧h1=h0∧dW (y==·) (xs.drop i) i=dW (y==·) xs 0∧cU ts 0=v∧cU ts 3=.ptr h.next 0∧cU ts 7=.int .i64 (xs.length:Nat)∧cU ts 8=.int .i64 (i:Nat)) ?_ (n:=xs.length) ⟨0,rfl,dM _,rfl,by rw[de],Ii0,Ii0,Ii0,by simp only[am,aK,↓reduceIte,Nat.reduceEqDiff,Int.reduceEq,Nat.reduceAdd,Nat.reduceLeDiff,reduceCtorEq,bS]; rfl⟩)) ?_)
 ·rintro n ts h1 ⟨i,rfl,hi,rfl,hF,e0,ek,e7,e8⟩;refine ae (aj (M2 e7 e8) ?_);refine ae (cr (t:=decide (i<xs.length)) (Z1 @bz) (λq=>?_) λq=>?_)
  ·have q:i<xs.length:=aR q;obtain⟨b,p,a1,r1,_,_⟩:=(hv.ext ex0 (ab _)).at (cq (f:=eE) q);refine bu (ae (cY (ae (aj (M1 e8) ?_))));have ceq:eU .eql (.flat [.i64,.i64]) (.agg [.int .i64 y.1,.int .i64 y.2]) (.agg [.int .i64 xs[i].1,.int .i64 xs[i].2])=some (.bool (y==xs[i])):=ud;refine ae (aj (by simp only[am,aK,simprocAttr,e0,ek,e7,e8,a1,r1,rb,ceq,eE]<;>rfl) ?_);refine cr (t:=y==xs[i]) (Z0) (λq2=>?_) λq2=>?_
   ·refine ae (aj (M0) ?_);refine br ⟨.int .i64 (i:Nat),(by simp only[rs,rf106,am,aK,simprocAttr]<;>rfl),?_,ex0⟩;rw[← hF,fJ _ q,if_pos q2]
   ·have w1:IntKind.i64.wrap (((i:Nat):Int)+1)=((i+1:Nat):Int):=fD om om;refine bu (aj (M2 e8 w1) ?_);refine⟨xs.length-(i+1),om,i+1,rfl,om,rfl,?_,Z1 e0,Z1 ek,Z1 e7,Z2 e8 w1⟩;rw[← hF,fJ _ q,if_neg (by simp [q2])]
  ·have q:¬ i<xs.length:=aZ q;refine fB ⟨λ_=>⟨?_,rfl⟩,λe=>absurd rfl e⟩;rw[← hF,dG om];rfl
 ·rintro ts h1 ⟨hF,rfl⟩;refine ae (aj (M0) ?_);exact br ⟨.int .i64 (-1),(by simp only[rs,rf106,am,aK,simprocAttr]<;>rfl),by rw[hF],ex0⟩
theorem Aa {h:AH}{v:AV}{xs:List (Int)}{y:Int} (hv:SlI h v xs) (hl:xs.length<2 ^ 40) :
 C prg 111 [v,.int .i64 y] h λr h'=>r=.bool (xs.any (y==·))∧Ext h.next h h':=by
 refine Mw pf111 ?_;refine ae (aj (Mi0) ?_);have ex0:Ext h.next h h:=Mu;have hc:=pX (y:=y) hv hl;refine ae (bN (bo 2 (Mi0) rfl (Zi0) (Mi0) (hc) λr h2 hq=>?_));obtain⟨rfl,ex⟩:=hq;have hb:decide ((0:Int)≤dW (y==·) xs 0)=xs.any (y==·):=by
  have:=(jR (y==·) xs 0).2;cases hq:xs.any (y==·) with
  | true=>rw[aJ]; rw[hq] at this; simp at this; omega
  | false=>rw[bZ]; have:=this.2 hq; omega
 refine bH (M1 hb) ?_;exact br ⟨_,(by simp only[rs,rf111,am,aK,simprocAttr]<;>rfl),rfl,ex0.trans (ex.mono ex0.nx)⟩
theorem HO {h:AH}{v:AV}{xs:List (Int×Int)}{y:Int×Int} (hv:SlE h v xs) (hl:xs.length<2 ^ 40) :
 C prg 60 [v,.agg (eE y)] h λr h'=>r=.bool (xs.any (y==·))∧Ext h.next h h':=by
 refine Mw pf60 ?_;refine ae (aj (by simp only[am,aK,simprocAttr,bS,eE]<;>rfl) ?_);have ex0:Ext h.next h (h.new (.cells [.int .i64 y.1,.int .i64 y.2] 2 false)):=Mt (ab _);have rb:ak (h.new (.cells [.int .i64 y.1,.int .i64 y.2] 2 false)) h.next 0 2=some [.int .i64 y.1,.int .i64 y.2]:=by rw[aU (by rw[AH.get_new,if_pos rfl])]; rfl
 generalize h.new (.cells [.int .i64 y.1,.int .i64 y.2] 2 false)=h0 at *
 have hv0:=hv.ext ex0 (ab _);have hc:=Kl (y:=y) hv0 hl;rw[show eE y=[.int .i64 y.1,.int .i64 y.2] from rfl] at hc;refine ae (bN (bo 2 (Mi1 rb) rfl (Zi1 rb) (Mi1 rb) (hc) λr h2 hq=>?_));obtain⟨rfl,ex⟩:=hq;have hb:decide ((0:Int)≤dW (y==·) xs 0)=xs.any (y==·):=by
  have:=(jR (y==·) xs 0).2;cases hq:xs.any (y==·) with
  | true=>rw[aJ]; rw[hq] at this; simp at this; omega
  | false=>rw[bZ]; have:=this.2 hq; omega
 refine bH (M1 hb) ?_;exact br ⟨_,(by simp only[rs,rf60,am,aK,simprocAttr]<;>rfl),rfl,ex0.trans (ex.mono ex0.nx)⟩
open Go.Am
theorem Ba {xs:List Int}:(xs.flatMap eI).all AV.one=true:=by
 rw[bD];intro x hx;obtain⟨y,_,hy⟩:=er.1 hx;simp only[eI,aA,bq,or_false] at hy;subst hy; rfl
theorem LO {xs:List (Int×Int)}:(xs.flatMap eE).all AV.one=true:=by
 rw[bD];intro x hx;obtain⟨y,_,hy⟩:=er.1 hx;simp only[eE,aA,bq,or_false] at hy;rcases hy with rfl|rfl<;>rfl
theorem pj {xs:List (Int×Int×Int)}:(xs.flatMap eT).all AV.one=true:=by
 rw[bD];intro x hx;obtain⟨y,_,hy⟩:=er.1 hx;simp only[eT,aA,bq,or_false] at hy;rcases hy with rfl|rfl|rfl<;>rfl
theorem xH {v:AV}{h:AH}{e:Nat}{xs:List (List AV)} (hv:Sl h e v xs):∃ b,eU .eql .nls v .nils=some (.bool b)∧(b=true→v=.nils∧xs=[])∧(b=false→v≠.nils):=by
 rcases hv with ⟨rfl,rfl|rfl⟩|⟨b,o,c,cs,ro,rfl,hg,hc,hle,hx⟩
 ·exact⟨true,rfl,λ_=>⟨rfl,rfl⟩,λq=>by cases q⟩
 ·exact⟨false,rfl,λq=>(by cases q),λ_=>(by simp)⟩
 ·exact⟨false,rfl,λq=>(by cases q),λ_=>(by simp)⟩
theorem oJ {h:AH}{e bytes:Nat}{v:AV}{xs:List (List AV)} (hv:Sl h e v xs) (ho:xs.flatten.all AV.one=true) (hl:xs.length*bytes<aW) (hl2:xs.length<aW) :
 ∃ r h',gp (h.new (.cells [] e false)) e bytes (.sl h.next 0 0 0) v=some (r,h')∧IsSl h' e h.next r xs.flatten∧Ext h.next h h'∧r≠.nils:=by
 have hv':=hv.ext (Mt (o:=.cells [] e false) (ab _)) (ab _);obtain⟨s1,s2⟩:=hv'.src;have g0:(h.new (.cells [] e false)).get h.next=some (.cells [] e false):=by rw[AH.get_new,if_pos rfl]
 by_cases hz:xs.length=0
 ·refine⟨.sl h.next 0 0 0,_,?_,.inr ⟨h.next,0,ab _,rfl,by rw[g0,bi.1 hz]; rfl,by rw[s2,hz]⟩,Mt (ab _),by simp⟩;simp only[gp,s1,ho,if_true,hz]
 ·refine⟨.sl (h.next+1) 0 xs.length xs.length,((h.new (.cells [] e false)).put h.next .dead).new (.cells xs.flatten e false),?_,.inr ⟨h.next+1,xs.length,om,rfl,by rw[AH.get_new,if_pos (by simp)],s2⟩,(Mt (ab _)).trans ((Ext.put (ab _)).trans (Mt (by simp))),by simp⟩;simp only[gp,s1,ho,if_true,if_neg hz,g0,aU g0];rw[bM,if_neg om,if_pos ⟨hl,hl2⟩];simp
theorem EG {h:AH}{v:AV}{xs:List (Int)} (hv:SlI h v xs) (hl:xs.length<2 ^ 34) :
 C prg 204 [v] h λr h'=>IsSl h' 1 h.next r (xs.flatMap eI)∧Ext h.next h h'∧(r=.nils↔v=.nils):=by
 refine Mw pf204 ?_;refine ae (aj (Mi0) ?_);obtain⟨b,hb,k1,k2⟩:=xH hv;refine ae (ae (aj (Mi1 hb) ?_));refine cr (t:=b) (Z0) (λq=>?_) λq=>?_
 ·obtain⟨rfl,hx⟩:=k1 q;rw[oK] at hx;subst hx;refine ae (aj (M0) ?_);exact br ⟨.nils,(by simp only[rs,rf204,am,aK,simprocAttr]<;>rfl),.inl ⟨rfl,rfl⟩,Mu,by simp⟩
 ·have hvv:=k2 q;refine bu ?_;obtain⟨r,h',a1,a2,a3,a4⟩:=oJ (bytes:=8) hv Ba (by rw[ai]; unfold aW; omega) (by rw[ai]; unfold aW; omega);refine ae (aj (Mi1 a1) ?_);exact br ⟨r,(by simp only[rs,rf204,am,aK,simprocAttr]<;>rfl),a2,a3,by simp [a4,hvv]⟩
theorem EH {h:AH}{v:AV}{xs:List (Int×Int)} (hv:SlE h v xs) (hl:xs.length<2 ^ 34) :
 C prg 107 [v] h λr h'=>IsSl h' 2 h.next r (xs.flatMap eE)∧Ext h.next h h'∧(r=.nils↔v=.nils):=by
 refine Mw pf107 ?_;refine ae (aj (Mi0) ?_);obtain⟨b,hb,k1,k2⟩:=xH hv;refine ae (ae (aj (Mi1 hb) ?_));refine cr (t:=b) (Z0) (λq=>?_) λq=>?_
 ·obtain⟨rfl,hx⟩:=k1 q;rw[oK] at hx;subst hx;refine ae (aj (M0) ?_);exact br ⟨.nils,(by simp only[rs,rf107,am,aK,simprocAttr]<;>rfl),.inl ⟨rfl,rfl⟩,Mu,by simp⟩
 ·have hvv:=k2 q;refine bu ?_;obtain⟨r,h',a1,a2,a3,a4⟩:=oJ (bytes:=16) hv LO (by rw[ai]; unfold aW; omega) (by rw[ai]; unfold aW; omega);refine ae (aj (Mi1 a1) ?_);exact br ⟨r,(by simp only[rs,rf107,am,aK,simprocAttr]<;>rfl),a2,a3,by simp [a4,hvv]⟩
theorem wq {h:AH}{v:AV}{xs:List (Int×Int×Int)} (hv:SlT h v xs) (hl:xs.length<2 ^ 34) :
 C prg 157 [v] h λr h'=>IsSl h' 3 h.next r (xs.flatMap eT)∧Ext h.next h h'∧(r=.nils↔v=.nils):=by
 refine Mw pf157 ?_;refine ae (aj (Mi0) ?_);obtain⟨b,hb,k1,k2⟩:=xH hv;refine ae (ae (aj (Mi1 hb) ?_));refine cr (t:=b) (Z0) (λq=>?_) λq=>?_
 ·obtain⟨rfl,hx⟩:=k1 q;rw[oK] at hx;subst hx;refine ae (aj (M0) ?_);exact br ⟨.nils,(by simp only[rs,rf157,am,aK,simprocAttr]<;>rfl),.inl ⟨rfl,rfl⟩,Mu,by simp⟩
 ·have hvv:=k2 q;refine bu ?_;obtain⟨r,h',a1,a2,a3,a4⟩:=oJ (bytes:=24) hv pj (by rw[ai]; unfold aW; omega) (by rw[ai]; unfold aW; omega);refine ae (aj (Mi1 a1) ?_);exact br ⟨r,(by simp only[rs,rf157,am,aK,simprocAttr]<;>rfl),a2,a3,by simp [a4,hvv]⟩
theorem eqto (xs ys:List Int) (hl:xs.length=ys.length):∀ k,k≤xs.length→(xs.take k=ys.take k)→(∀ (hk:k<xs.length),xs[k]=ys[k]'om→xs.take (k+1)=ys.take (k+1)):=by
 intro k _ h hk e;rw[aG hk,aG om,h,e]
theorem vZ {h:AH}{v w:AV}{xs ys:List Int} (hv:SlI h v xs) (hw:SlI h w ys) (hl:xs.length<2 ^ 40) (hl2:ys.length<2 ^ 40) :
 C prg 151 [v,w] h λr h'=>r=.bool (xs==ys)∧h'=h:=by
 refine Mw pf151 ?_;have e1:=hv.len;have e2:=hw.len;rw[ai] at e1 e2;refine ae (aj (Mi0) ?_);refine ae (ae (aj (Mi2 e1 e2) ?_));refine cr (t:=!decide (((xs.length:Nat):Int)=((ys.length:Nat):Int))) (Z0) (λq=>?_) λq=>?_
 ·have q:xs.length≠ys.length:=by simp at q; omega
  refine ae (aj (M0) ?_);exact br ⟨.bool false,(by simp only[rs,rf151,am,aK,simprocAttr]<;>rfl),by rw[show (xs==ys)=false from by rw[beq_eq_false_iff_ne]; intro hh; exact q (congrArg _ hh)],rfl⟩
 ·have q:xs.length=ys.length:=by simp at q; omega
  refine bu (ae (ae (aj (Mi1 e1) ?_)));refine fA (α:=Unit) (N:=xs.length) (λ_ _=>[(0,v),(1,w)]) (λk _ h1=>h1=h∧xs.take k=ys.take k) () (λ_ _=>rfl) om (Oi0) ⟨rfl,rfl⟩ ?_ ?_
  ·rintro k _ ts h1 hk ⟨rfl,hp⟩ ⟨ei,en,e0,e1',-⟩;simp only at ei en e0 e1';obtain⟨b1,p1,a1,r1,_⟩:=hv.at1 (cq (f:=eI) hk);obtain⟨b2,p2,a2,r2,_⟩:=hw.at1 (cq (f:=eI) (show k<ys.length by omega));refine ae (aj (M1 ei) ?_);refine ae (aj (M6 e0 e1' a1 r1 a2 r2) ?_);refine cr (t:=!decide (xs[k]=ys[k])) (Z0) (λq2=>?_) λq2=>?_
   ·have q2:xs[k]≠ys[k]:=by simpa using q2
    refine ae (aj (M0) ?_);refine br ⟨.bool false,(by simp only[rs,rf151,am,aK,simprocAttr]<;>rfl),?_,rfl⟩;have:(xs==ys)=false:=by
     rw[beq_eq_false_iff_ne];intro hh;subst hh;exact q2 rfl
    rw[this]
   ·have q2:xs[k]=ys[k]:=by simpa using q2
    refine bu ⟨(),⟨rfl,eqto xs ys q k om hp hk q2⟩,O4 ei en e0 e1'⟩
  ·rintro _ ts h1 ⟨rfl,hp⟩ ⟨e0,e1',-⟩;refine ae (aj (M0) ?_);refine br ⟨.bool true,(by simp only[rs,rf151,am,aK,simprocAttr]<;>rfl),?_,rfl⟩;rw[bp,q,bp] at hp;subst hp;simp
open Go.Am
theorem Io {h:AH}{gb len cap e bytes:Nat}{A Z:List AV}{v:AV}{xs:List (List AV)} (hg:h.get gb=some (.cells (A++Z) e false)) (hA:A.length=len*e) (hv:Sl h e v xs) (ho:xs.flatten.all AV.one=true) (hc:len+xs.length≤cap) (hz:xs.length*e≤Z.length) :
 ∃ h',gp h e bytes (.sl gb 0 len cap) v=some (.sl gb 0 (len+xs.length) cap,h')∧Upd h h' gb (.cells (A++xs.flatten++Z.drop (xs.length*e)) e false):=by
 obtain⟨s1,s2⟩:=hv.src;by_cases hn:xs.length=0
 ·refine⟨h,?_,?_⟩
  ·simp only[gp,s1,ho,if_true,hn,dX]
  ·have:xs=[]:=bi.1 hn;subst this;simp only[eK,bO,bt,oO,de];exact Upd.refl hg
 ·have w:bQ h gb (0+len*e) xs.flatten=some (h.put gb (.cells (A++xs.flatten++Z.drop (xs.length*e)) e false)):=by
   rw[dp hg,bM,if_pos (by rw[s2,aN]; omega)];congr 3;unfold dB;rw[← hA,List.take_left',List.drop_append,List.drop_of_length_le om,s2]
   ·simp
   ·rfl
  refine⟨_,?_,Mv hg⟩;simp only[gp,s1,ho,if_true,if_neg hn,if_pos hc,w,aQ]
theorem df {α:Type}{xss:List (List α)}{k:Nat} (hk:k<xss.length):(xss.take (k+1)).flatten=(xss.take k).flatten++xss[k]:=by
 rw[aG hk,jK];simp
theorem fI {α:Type} (xss:List (List α)) (k:Nat):(xss.take k).flatten.length≤xss.flatten.length:=by
 conv=>rhs; rw[← cD k xss]
 rw[jK,aN];omega
theorem yD {h:AH}{e:Nat}:slV h e .nils none (some (.int .i64 0)) none=some .nils:=rfl
theorem te {z:List AV}:∀ n,(cm z n).length=n*z.length
 | 0=>by simp [cm]
 | n+1=>by simp only[cm,aN,te n,dN]; omega
theorem qC {z:List AV}:∀ k n,(cm z (k+n)).drop (k*z.length)=cm z n
 | 0,n=>by simp
 | k+1,n=>by
   have e1:cm z (k+1+n)=z++cm z (k+n):=by rw[show k+1+n=(k+n)+1 by omega]; rfl
   have e2:(k+1)*z.length=z.length+k*z.length:=by rw[dN]; omega
   rw[e1,e2,← Ml,pG,qC k n]
theorem Hm {h:AH}{N:Nat} (hN:N<2 ^ 34):C prg 149 [.nils,.int .i64 (N:Nat)] h λr h'=>(N=0∧r=.nils∧h'=h)∨(0<N∧r=.sl h.next 0 0 N∧h'=h.new (.cells (cm [.int .i64 0] N) 1 false)):=by
 refine Mw pf149 ?_;have c1:decide (((N:Nat):Int)<0)=false:=aw om;have w1:IntKind.i64.wrap (0-0)=0:=by decide
 have w2:IntKind.i64.wrap (((N:Nat):Int)-0)=((N:Nat):Int):=by rw[fD om om]; omega
 have cp:EP .nils=some (.int .i64 0):=rfl;refine ae (aj (Mi0) ?_);refine ae (ae (aj (Mi0) ?_));refine dL (I1 c1) (bu ?_);refine ae (ae (aj (Ji3 cp w1 w2) ?_));refine ae (ae (aj (J0) ?_));refine cr (t:=decide (0<N)) (by simp only[am,aK,↓reduceIte,Nat.reduceEqDiff,Int.reduceEq,Nat.reduceAdd,Nat.reduceLeDiff,reduceCtorEq]; exact congrArg AV.bool (by simp only[decide_eq_decide]; omega)) (λq=>?_) λq=>?_
 ·have q:0<N:=aR q;have q0:¬ ((N:Nat):Int)=0:=om;have az:xW h [.int .i64 0] 8 .nils (.int .i64 (N:Nat))=some (.sl h.next 0 N N,h.new (.cells (cm [.int .i64 0] N) 1 false)):=by
   simp only[xW,if_neg q0];rw[if_pos ⟨om,by unfold aW; omega,by unfold aW; omega⟩];simp
  have g1:(h.new (.cells (cm [.int .i64 0] N) 1 false)).get h.next=some (.cells (cm [.int .i64 0] N) 1 false):=by rw[AH.get_new,if_pos rfl]
  have s1:slV (h.new (.cells (cm [.int .i64 0] N) 1 false)) 1 (.sl h.next 0 N N) none (some (.int .i64 0)) none=some (.sl h.next 0 0 N):=by
   have:=hU (k:=.i64) (show 0≤N by omega);simp only[slV,g1,if_true,rq,this,aQ];have h0:bnd (.int .i64 0) N=some 0:=this;rw[h0];simp only[aQ];split<;>simp
  refine aj (by simp only[am,aK,simprocAttr,bS,dH,bT,cp,yD,az,s1]<;>rfl) ?_;refine ae (aj (M0) ?_);exact br ⟨_,(by simp only[rs,rf149,am,aK,simprocAttr]<;>rfl),.inr ⟨q,rfl,rfl⟩⟩
 ·have q:¬ 0<N:=aZ q;refine bu (ae (aj (Mi0) ?_));exact br ⟨_,(by simp only[rs,rf149,am,aK,simprocAttr]<;>rfl),.inl ⟨om,rfl,rfl⟩⟩
theorem Bv {h:AH}{v:AV}{vs:List AV}{xss:List (List (Int))} (hv:Sl h 1 v (vs.map λx=>[x])) (hl:vs.length=xss.length) (hx:∀ (i:Nat) (w:AV) (xs:List (Int)),vs[i]?=some w→xss[i]?=some xs→SlI h w xs) (hn:xss.length<2 ^ 30) (hs:xss.flatten.length<2 ^ 34) :
 C prg 115 [v] h λr h'=>IsSl h' 1 h.next r (xss.flatten.flatMap eI)∧Ext h.next h h':=by
 have el:=hv.len;rw[ai,hl] at el;have hvk:∀ (k:Nat) (hk:k<xss.length),∃ b p,jO 1 v (.int .i64 (k:Nat))=some (.ptr b p)∧ak h b p 1=some [vs[k]'om]∧b<h.next:=λk hk=>hv.at1 (by rw[aX,aq om]; rfl);have hxk:∀ (k:Nat) (hk:k<xss.length),SlI h (vs[k]'om) xss[k]:=λk hk=>hx k _ _ (aq _) (aq hk);refine Mw pf115 ?_;refine ae (aj (Mi0) ?_);refine ae (aj (M0) ?_);refine ae (ae (aj (Mi1 el) ?_));refine fA (α:=Unit) (N:=xss.length) (λk _=>[(0,v),(9,v),(3,.int .i64 ((xss.take k).flatten.length:Nat))]) (λ_ _ h'=>h'=h) () (λ_ _=>rfl) om (by simp only[dU,eH,am,aK,↓reduceIte,Nat.reduceEqDiff,Int.reduceEq,Nat.reduceAdd,Nat.reduceLeDiff,reduceCtorEq,bS,fF,eK,bh]) rfl ?_ ?_
 ·rintro k _ ts h1 hk rfl ⟨ei,en,e0,e9,e3,-⟩;simp only at ei en e0 e9 e3;obtain⟨b1,p1,a1,r1,_⟩:=hvk k hk;have lk:=(hxk k hk).len;rw[ai] at lk;have hle:=fI xss (k+1);rw[df hk,aN] at hle;have w1:IntKind.i64.wrap ((((xss.take k).flatten.length:Nat):Int)+((xss[k].length:Nat):Int))=(((xss.take (k+1)).flatten.length:Nat):Int):=by
   rw[fD om om,df hk,aN];omega
  have c1:decide ((((xss.take (k+1)).flatten.length:Nat):Int)<0)=false:=aw om;refine ae (aj (M4 e9 ei a1 r1) ?_);refine ae (aj (by simp only[am,aK,simprocAttr,e3,lk,w1]<;>rfl) ?_);refine ae (aj (M1 c1) ?_);refine dL (I0) (bu ⟨(),rfl,O4 ei en e0 e9⟩)
 ·rintro _ ts h1 rfl ⟨e0,e9,e3,-⟩;simp only at e0 e9 e3;rw[bp] at e3;refine ae (bN (bo 1 (M1 e3) rfl (Z1 e3) (M1 e3) (Hm hs) λg h2 hq=>?_));refine bH (M0) ?_;refine ae (ae (aj (M2 e0 el) ?_));rcases hq with ⟨hz,rfl,rfl⟩|⟨hz,rfl,rfl⟩
  ·refine fA (α:=Unit) (N:=xss.length) (λ_ _=>[(25,v),(6,.nils)]) (λ_ _ h'=>h'=h2) () (λ_ _=>rfl) om (O1 e0) rfl ?_ ?_
   ·rintro k _ ts h1 hk rfl ⟨ei,en,e25,e6,-⟩;simp only at ei en e25 e6;obtain⟨b1,p1,a1,r1,_⟩:=hvk k hk;have hle:=fI xss (k+1);rw[df hk,aN] at hle;have hk0:xss[k]=[]:=bi.1 om;have s1:=(hxk k hk).src.1;rw[hk0] at s1;have ap:gp h1 1 8 .nils (vs[k]'om)=some (.nils,h1):=by simp [gp,s1]
    refine ae (aj (M4 e25 ei a1 r1) ?_);refine aj (M2 e6 ap) ?_;exact⟨(),rfl,O3 ei en e25⟩
   ·rintro _ ts h1 rfl ⟨e25,e6,-⟩;simp only at e25 e6;refine ae (aj (M1 e6) ?_);exact br ⟨_,(by simp only[rs,rf115,am,aK,simprocAttr]<;>rfl),.inl ⟨rfl,by rw[bi.1 hz]; rfl⟩,Mu⟩
  ·have g2:(h1.new (.cells (cm [.int .i64 0] xss.flatten.length) 1 false)).get h1.next=some (.cells (cm [.int .i64 0] xss.flatten.length) 1 false):=by rw[AH.get_new,if_pos rfl]
   have x2:Ext h1.next h1 (h1.new (.cells (cm [.int .i64 0] xss.flatten.length) 1 false)):=Mt (ab _);generalize h1.new (.cells (cm [.int .i64 0] xss.flatten.length) 1 false)=h2 at *
   refine fA (α:=Unit) (N:=xss.length) (λk _=>[(25,v),(6,.sl h1.next 0 (xss.take k).flatten.length xss.flatten.length)])
    (λk _ h'=>h'.get h1.next=some (.cells ((xss.take k).flatten.flatMap eI++cm [.int .i64 0] (xss.flatten.length-(xss.take k).flatten.length)) 1 false)∧Ext h1.next h1 h') () (λ_ _=>rfl) om (by simp only[dU,eH,am,aK,↓reduceIte,Nat.reduceEqDiff,Int.reduceEq,Nat.reduceAdd,Nat.reduceLeDiff,reduceCtorEq,e0,fF,eK,bt]) ⟨g2,x2⟩ ?_ ?_
   ·rintro k _ ts h3 hk ⟨j1,j2⟩ ⟨ei,en,e25,e6,-⟩;simp only at ei en e25 e6;obtain⟨b1,p1,a1,r1,hb⟩:=hvk k hk;have hle:=fI xss (k+1);rw[df hk,aN] at hle;have fl:((xss.take k).flatten.flatMap eI).length=(xss.take k).flatten.length*1:=dC (f:=eI) (e:=1) (λ_=>rfl) _;obtain⟨h4,p4,u4⟩:=Io (bytes:=8) (cap:=xss.flatten.length) j1 fl ((hxk k hk).ext j2 (ab _)) Ba (by rw[ai]; omega) (by rw[ai,te]; simp only[bf,bt]; omega);have ef:(xss.take k).flatten.length+xss[k].length=(xss.take (k+1)).flatten.length:=by rw[df hk,aN]
    rw[ai,ef] at p4;have e2:(xss.take k).flatten.flatMap eI++(xss[k].map eI).flatten++(cm [.int .i64 0] (xss.flatten.length-(xss.take k).flatten.length)).drop ((xss[k].map eI).length*1)=(xss.take (k+1)).flatten.flatMap eI++cm [.int .i64 0] (xss.flatten.length-(xss.take (k+1)).flatten.length):=by
     rw[df hk,bC,← List.flatMap_def,ai,aN];congr 1;rw[show xss.flatten.length-(xss.take k).flatten.length=xss[k].length+(xss.flatten.length-((xss.take k).flatten.length+xss[k].length)) by omega];exact qC (z:=[.int .i64 0]) _ _
    rw[e2] at u4;have r1':ak h3 b1 p1 1=some [vs[k]'om]:=by rw[bK (j2.gt _ hb)]; exact r1
    refine ae (aj (M4 e25 ei a1 r1') ?_);refine aj (M2 e6 p4) ?_;exact⟨(),⟨u4.get,j2.trans (u4.ext (ab _))⟩,O3 ei en e25⟩
   ·rintro _ ts h3 ⟨j1,j2⟩ ⟨e25,e6,-⟩;simp only at e25 e6;rw[bp] at j1 e6;refine ae (aj (M1 e6) ?_);refine br ⟨_,(by simp only[rs,rf115,am,aK,simprocAttr]<;>rfl),.inr ⟨h1.next,xss.flatten.length,ab _,rfl,?_,dC (f:=eI) (e:=1) (λ_=>rfl) _⟩,j2⟩;rw[j1,eV];simp [cm]
theorem Hl {h:AH}{N:Nat} (hN:N<2 ^ 34):C prg 221 [.nils,.int .i64 (N:Nat)] h λr h'=>(N=0∧r=.nils∧h'=h)∨(0<N∧r=.sl h.next 0 0 N∧h'=h.new (.cells (cm [.int .i64 0,.int .i64 0,.int .i64 0] N) 3 false)):=by
 refine Mw pf221 ?_;have c1:decide (((N:Nat):Int)<0)=false:=aw om;have w1:IntKind.i64.wrap (0-0)=0:=by decide
 have w2:IntKind.i64.wrap (((N:Nat):Int)-0)=((N:Nat):Int):=by rw[fD om om]; omega
 have cp:EP .nils=some (.int .i64 0):=rfl;refine ae (aj (Mi0) ?_);refine ae (ae (aj (Mi0) ?_));refine dL (I1 c1) (bu ?_);refine ae (ae (aj (Ji3 cp w1 w2) ?_));refine ae (ae (aj (J0) ?_));refine cr (t:=decide (0<N)) (by simp only[am,aK,↓reduceIte,Nat.reduceEqDiff,Int.reduceEq,Nat.reduceAdd,Nat.reduceLeDiff,reduceCtorEq]; exact congrArg AV.bool (by simp only[decide_eq_decide]; omega)) (λq=>?_) λq=>?_
 ·have q:0<N:=aR q;have q0:¬ ((N:Nat):Int)=0:=om;have az:xW h [.int .i64 0,.int .i64 0,.int .i64 0] 24 .nils (.int .i64 (N:Nat))=some (.sl h.next 0 N N,h.new (.cells (cm [.int .i64 0,.int .i64 0,.int .i64 0] N) 3 false)):=by
   simp only[xW,if_neg q0];rw[if_pos ⟨om,by unfold aW; omega,by unfold aW; omega⟩];simp
  have g1:(h.new (.cells (cm [.int .i64 0,.int .i64 0,.int .i64 0] N) 3 false)).get h.next=some (.cells (cm [.int .i64 0,.int .i64 0,.int .i64 0] N) 3 false):=by rw[AH.get_new,if_pos rfl]
  have s1:slV (h.new (.cells (cm [.int .i64 0,.int .i64 0,.int .i64 0] N) 3 false)) 3 (.sl h.next 0 N N) none (some (.int .i64 0)) none=some (.sl h.next 0 0 N):=by
   have:=hU (k:=.i64) (show 0≤N by omega);simp only[slV,g1,if_true,rq,this,aQ];have h0:bnd (.int .i64 0) N=some 0:=this;rw[h0];simp only[aQ];split<;>simp
  refine aj (by simp only[am,aK,simprocAttr,bS,dH,bT,cp,yD,az,s1]<;>rfl) ?_;refine ae (aj (M0) ?_);exact br ⟨_,(by simp only[rs,rf221,am,aK,simprocAttr]<;>rfl),.inr ⟨q,rfl,rfl⟩⟩
 ·have q:¬ 0<N:=aZ q;refine bu (ae (aj (Mi0) ?_));exact br ⟨_,(by simp only[rs,rf221,am,aK,simprocAttr]<;>rfl),.inl ⟨om,rfl,rfl⟩⟩
theorem Bu {h:AH}{v:AV}{vs:List AV}{xss:List (List (Int×Int×Int))} (hv:Sl h 1 v (vs.map λx=>[x])) (hl:vs.length=xss.length) (hx:∀ (i:Nat) (w:AV) (xs:List (Int×Int×Int)),vs[i]?=some w→xss[i]?=some xs→SlT h w xs) (hn:xss.length<2 ^ 30) (hs:xss.flatten.length<2 ^ 34) :
 C prg 199 [v] h λr h'=>IsSl h' 3 h.next r (xss.flatten.flatMap eT)∧Ext h.next h h':=by
 have el:=hv.len;rw[ai,hl] at el;have hvk:∀ (k:Nat) (hk:k<xss.length),∃ b p,jO 1 v (.int .i64 (k:Nat))=some (.ptr b p)∧ak h b p 1=some [vs[k]'om]∧b<h.next:=λk hk=>hv.at1 (by rw[aX,aq om]; rfl);have hxk:∀ (k:Nat) (hk:k<xss.length),SlT h (vs[k]'om) xss[k]:=λk hk=>hx k _ _ (aq _) (aq hk);refine Mw pf199 ?_;refine ae (aj (Mi0) ?_);refine ae (aj (M0) ?_);refine ae (ae (aj (Mi1 el) ?_));refine fA (α:=Unit) (N:=xss.length) (λk _=>[(0,v),(9,v),(3,.int .i64 ((xss.take k).flatten.length:Nat))]) (λ_ _ h'=>h'=h) () (λ_ _=>rfl) om (by simp only[dU,eH,am,aK,↓reduceIte,Nat.reduceEqDiff,Int.reduceEq,Nat.reduceAdd,Nat.reduceLeDiff,reduceCtorEq,bS,fF,eK,bh]) rfl ?_ ?_
 ·rintro k _ ts h1 hk rfl ⟨ei,en,e0,e9,e3,-⟩;simp only at ei en e0 e9 e3;obtain⟨b1,p1,a1,r1,_⟩:=hvk k hk;have lk:=(hxk k hk).len;rw[ai] at lk;have hle:=fI xss (k+1);rw[df hk,aN] at hle;have w1:IntKind.i64.wrap ((((xss.take k).flatten.length:Nat):Int)+((xss[k].length:Nat):Int))=(((xss.take (k+1)).flatten.length:Nat):Int):=by
   rw[fD om om,df hk,aN];omega
  have c1:decide ((((xss.take (k+1)).flatten.length:Nat):Int)<0)=false:=aw om;refine ae (aj (M4 e9 ei a1 r1) ?_);refine ae (aj (by simp only[am,aK,simprocAttr,e3,lk,w1]<;>rfl) ?_);refine ae (aj (M1 c1) ?_);refine dL (I0) (bu ⟨(),rfl,O4 ei en e0 e9⟩)
 ·rintro _ ts h1 rfl ⟨e0,e9,e3,-⟩;simp only at e0 e9 e3;rw[bp] at e3;refine ae (bN (bo 1 (M1 e3) rfl (Z1 e3) (M1 e3) (Hl hs) λg h2 hq=>?_));refine bH (M0) ?_;refine ae (ae (aj (M2 e0 el) ?_));rcases hq with ⟨hz,rfl,rfl⟩|⟨hz,rfl,rfl⟩
  ·refine fA (α:=Unit) (N:=xss.length) (λ_ _=>[(25,v),(6,.nils)]) (λ_ _ h'=>h'=h2) () (λ_ _=>rfl) om (O1 e0) rfl ?_ ?_
   ·rintro k _ ts h1 hk rfl ⟨ei,en,e25,e6,-⟩;simp only at ei en e25 e6;obtain⟨b1,p1,a1,r1,_⟩:=hvk k hk;have hle:=fI xss (k+1);rw[df hk,aN] at hle;have hk0:xss[k]=[]:=bi.1 om;have s1:=(hxk k hk).src.1;rw[hk0] at s1;have ap:gp h1 3 24 .nils (vs[k]'om)=some (.nils,h1):=by simp [gp,s1]
    refine ae (aj (M4 e25 ei a1 r1) ?_);refine aj (M2 e6 ap) ?_;exact⟨(),rfl,O3 ei en e25⟩
   ·rintro _ ts h1 rfl ⟨e25,e6,-⟩;simp only at e25 e6;refine ae (aj (M1 e6) ?_);exact br ⟨_,(by simp only[rs,rf199,am,aK,simprocAttr]<;>rfl),.inl ⟨rfl,by rw[bi.1 hz]; rfl⟩,Mu⟩
  ·have g2:(h1.new (.cells (cm [.int .i64 0,.int .i64 0,.int .i64 0] xss.flatten.length) 3 false)).get h1.next=some (.cells (cm [.int .i64 0,.int .i64 0,.int .i64 0] xss.flatten.length) 3 false):=by rw[AH.get_new,if_pos rfl]
   have x2:Ext h1.next h1 (h1.new (.cells (cm [.int .i64 0,.int .i64 0,.int .i64 0] xss.flatten.length) 3 false)):=Mt (ab _);generalize h1.new (.cells (cm [.int .i64 0,.int .i64 0,.int .i64 0] xss.flatten.length) 3 false)=h2 at *
   refine fA (α:=Unit) (N:=xss.length) (λk _=>[(25,v),(6,.sl h1.next 0 (xss.take k).flatten.length xss.flatten.length)])
    (λk _ h'=>h'.get h1.next=some (.cells ((xss.take k).flatten.flatMap eT++cm [.int .i64 0,.int .i64 0,.int .i64 0] (xss.flatten.length-(xss.take k).flatten.length)) 3 false)∧Ext h1.next h1 h') () (λ_ _=>rfl) om (by simp only[dU,eH,am,aK,↓reduceIte,Nat.reduceEqDiff,Int.reduceEq,Nat.reduceAdd,Nat.reduceLeDiff,reduceCtorEq,e0,fF,eK,bt]) ⟨g2,x2⟩ ?_ ?_
   ·rintro k _ ts h3 hk ⟨j1,j2⟩ ⟨ei,en,e25,e6,-⟩;simp only at ei en e25 e6;obtain⟨b1,p1,a1,r1,hb⟩:=hvk k hk;have hle:=fI xss (k+1);rw[df hk,aN] at hle;have fl:((xss.take k).flatten.flatMap eT).length=(xss.take k).flatten.length*3:=dC (f:=eT) (e:=3) (λ_=>rfl) _;obtain⟨h4,p4,u4⟩:=Io (bytes:=24) (cap:=xss.flatten.length) j1 fl ((hxk k hk).ext j2 (ab _)) pj (by rw[ai]; omega) (by rw[ai,te]; simp only[bf,bt]; omega);have ef:(xss.take k).flatten.length+xss[k].length=(xss.take (k+1)).flatten.length:=by rw[df hk,aN]
    rw[ai,ef] at p4;have e2:(xss.take k).flatten.flatMap eT++(xss[k].map eT).flatten++(cm [.int .i64 0,.int .i64 0,.int .i64 0] (xss.flatten.length-(xss.take k).flatten.length)).drop ((xss[k].map eT).length*3)=(xss.take (k+1)).flatten.flatMap eT++cm [.int .i64 0,.int .i64 0,.int .i64 0] (xss.flatten.length-(xss.take (k+1)).flatten.length):=by
     rw[df hk,bC,← List.flatMap_def,ai,aN];congr 1;rw[show xss.flatten.length-(xss.take k).flatten.length=xss[k].length+(xss.flatten.length-((xss.take k).flatten.length+xss[k].length)) by omega];exact qC (z:=[.int .i64 0,.int .i64 0,.int .i64 0]) _ _
    rw[e2] at u4;have r1':ak h3 b1 p1 1=some [vs[k]'om]:=by rw[bK (j2.gt _ hb)]; exact r1
    refine ae (aj (M4 e25 ei a1 r1') ?_);refine aj (M2 e6 p4) ?_;exact⟨(),⟨u4.get,j2.trans (u4.ext (ab _))⟩,O3 ei en e25⟩
   ·rintro _ ts h3 ⟨j1,j2⟩ ⟨e25,e6,-⟩;simp only at e25 e6;rw[bp] at j1 e6;refine ae (aj (M1 e6) ?_);refine br ⟨_,(by simp only[rs,rf199,am,aK,simprocAttr]<;>rfl),.inr ⟨h1.next,xss.flatten.length,ab _,rfl,?_,dC (f:=eT) (e:=3) (λ_=>rfl) _⟩,j2⟩;rw[j1,eV];simp [cm]
open Go.Am
def okE (v:Int) (e:Int×Int):Bool:=decide (0≤e.1)&&decide (0≤e.2)&&decide (e.1<v)&&decide (e.2<v)
def fy (v:Int) (es:List (Int×Int)):Bool:=decide (1≤v)&&decide (v≤64)&&decide (es.length≤128)&&es.all (okE v)
def wV (v x:Int):Bool:=decide (x<0)||decide (v≤x)
theorem zG {h:AH}{b:Nat}{x n:Int} (hr:ak h b 0 1=some [.int .i64 n]):C prg 104 [.int .i64 x,.ptr b 0] h λr h'=>r=.bool (wV n x)∧h'=h:=by
 refine Mw pf104 ?_;refine ae (aj (Mi0) ?_);by_cases q:x<0
 ·have c1:decide (x<0)=true:=aH q;refine ae (aj (Mi1 c1) ?_);exact br ⟨.bool true,(by simp only[rs,rf104,am,aK,simprocAttr,c1]<;>rfl),by simp [wV,q],rfl⟩
 ·have c1:decide (x<0)=false:=aw q;refine ae (aj (Mi2 c1 hr) ?_);exact br ⟨.bool (decide (n≤x)),(by simp only[rs,rf104,am,aK,simprocAttr,c1]<;>rfl),by simp [wV,q],rfl⟩
theorem Hp {h:AH}{b s:Nat}{x:Int×Int}{n:Int} (hr:ak h b 0 1=some [.int .i64 n]) (hs:ak h s 0 1=some [.fn 104 [.ptr b 0]]) (hb:b<h.next) (hsn:s<h.next) :
 C prg 105 ([.agg (eE x)]++[.ptr s 0]) h λr h'=>r=.bool (!okE n x)∧Ext h.next h h':=by
 refine Mw pf105 ?_;have fin:(!okE n x)=(wV n x.1||wV n x.2):=by
  obtain⟨x1,x2⟩:=x;simp only[okE,wV];by_cases a1:x1<0<;>by_cases a2:x2<0<;>by_cases a3:n≤x1<;>by_cases a4:n≤x2<;>simp [a1,a2,a3,a4]<;>omega
 rw[fin];refine ae (aj (by simp only[am,aK,simprocAttr,bS,eE]<;>rfl) ?_);have ex:Ext h.next h (h.new (.cells [.int .i64 x.1,.int .i64 x.2] 2 false)):=Mt (ab _);have g:(h.new (.cells [.int .i64 x.1,.int .i64 x.2] 2 false)).get h.next=some (.cells [.int .i64 x.1,.int .i64 x.2] 2 false):=by rw[AH.get_new,if_pos rfl]
 generalize h.new (.cells [.int .i64 x.1,.int .i64 x.2] 2 false)=h1 at *
 have r1:ak h1 h.next 0 1=some [.int .i64 x.1]:=by rw[aU g]; rfl
 have r2:ak h1 h.next 1 1=some [.int .i64 x.2]:=by rw[aU g]; rfl
 have hr1:ak h1 b 0 1=some [.int .i64 n]:=by rw[← hr]; exact bK (ex.gt b hb)
 have hs1:ak h1 s 0 1=some [.fn 104 [.ptr b 0]]:=by rw[← hs]; exact bK (ex.gt s hsn)
 refine ae (bN (od 3 (by simp only[am,aK,simprocAttr,bS,eE,hs1,r1]<;>rfl) rfl (by simp only[am,aK,simprocAttr,bS,eE,hs1,r1]) (by simp only[am,aK,simprocAttr,bS,eE,hs1,r1]<;>rfl) (by simp only[am,aK,simprocAttr,bS,eE,hs1,r1]<;>rfl) (zG (x:=x.1) hr1) λr h2 hq=>?_));obtain⟨rfl,rfl⟩:=hq;cases q:wV n x.1 with
 | true =>
   refine G.nocallv 4 (M0) rfl (Z0) ?_;refine bH (M0) ?_;exact br ⟨.bool true,(by simp only[rs,rf105,am,aK,simprocAttr]<;>rfl),rfl,ex⟩
 | false =>
   refine od 4 (by simp only[am,aK,simprocAttr,bS,eE,hs1,r2]<;>rfl) rfl (by simp only[am,aK,simprocAttr,bS,eE,hs1,r2]) (by simp only[am,aK,simprocAttr,bS,eE,hs1,r2]<;>rfl) (by simp only[am,aK,simprocAttr,bS,eE,hs1,r2]<;>rfl) (zG (x:=x.2) hr1) λr h3 hq=>?_;obtain⟨rfl,rfl⟩:=hq;refine bH (M0) ?_;exact br ⟨.bool (wV n x.2),(by simp only[rs,rf105,am,aK,simprocAttr]<;>rfl),rfl,ex⟩
theorem xv {h:AH}{n:Int}{ev:AV}{es:List (Int×Int)} (he:SlE h ev es) (hl:es.length<2 ^ 40):C prg 57 [.agg [.int .i64 n,ev]] h λr h'=>r=.bool (fy n es)∧Ext h.next h h':=by
 refine Mw pf57 ?_;obtain⟨ec,eo⟩:=he.cells;have hlen:=he.len;rw[ai] at hlen;refine ae (aj (Mi0) ?_);have ex0:Ext h.next h (h.new (.cells [.int .i64 n,ev] 2 false)):=Mt (ab _);have g0:(h.new (.cells [.int .i64 n,ev] 2 false)).get h.next=some (.cells [.int .i64 n,ev] 2 false):=by rw[AH.get_new,if_pos rfl]
 have n0:(h.new (.cells [.int .i64 n,ev] 2 false)).next=h.next+1:=rfl;generalize h.new (.cells [.int .i64 n,ev] 2 false)=h0 at *
 have gN:(h0.new (.cells [.nilf] 1 false)).get h0.next=some (.cells [.nilf] 1 false):=by rw[AH.get_new,if_pos rfl]
 have w1:bQ (h0.new (.cells [.nilf] 1 false)) h0.next 0 [.fn 104 [.ptr h.next 0]]=some ((h0.new (.cells [.nilf] 1 false)).put h0.next (.cells [.fn 104 [.ptr h.next 0]] 1 false)):=by rw[dp gN]; rfl
 have u1:Upd (h0.new (.cells [.nilf] 1 false)) ((h0.new (.cells [.nilf] 1 false)).put h0.next (.cells [.fn 104 [.ptr h.next 0]] 1 false)) h0.next (.cells [.fn 104 [.ptr h.next 0]] 1 false):=Mv gN;refine ae (aj (Mi1 w1) ?_);have ex1:Ext h0.next h0 ((h0.new (.cells [.nilf] 1 false)).put h0.next (.cells [.fn 104 [.ptr h.next 0]] 1 false)):=(Mt (ab _)).trans (u1.ext (ab _));have n1:((h0.new (.cells [.nilf] 1 false)).put h0.next (.cells [.fn 104 [.ptr h.next 0]] 1 false)).next=h0.next+1:=rfl;have g1:=u1.get;generalize (h0.new (.cells [.nilf] 1 false)).put h0.next (.cells [.fn 104 [.ptr h.next 0]] 1 false)=h1 at *
 clear gN w1 u1;have g0':h1.get h.next=some (.cells [.int .i64 n,ev] 2 false):=by rw[ex1.gt _ om]; exact g0
 have r1:ak h1 h.next 0 1=some [.int .i64 n]:=by rw[aU g0']; rfl
 have r2:ak h1 h.next 1 1=some [ev]:=by rw[aU g0']; rfl
 have r3:ak h1 h0.next 0 1=some [.fn 104 [.ptr h.next 0]]:=by rw[aU g1]; rfl
 have ex:Ext h.next h h1:=ex0.trans (ex1.mono om);have he1:=he.ext ex (ab _);by_cases q1:0<n
 case neg =>
  have c1:decide (0<n)=false:=aw q1;refine ae (bN (eW 18 (Mi2 r1 c1) rfl (Z1 c1) ?_));refine bH (M0) ?_;exact br ⟨.bool false,(by simp only[rs,rf57,am,aK,simprocAttr]<;>rfl),by simp [fy]; omega,ex⟩
 have c1:decide (0<n)=true:=aH q1;by_cases q2:n≤64
 case neg =>
  have c2:decide (n≤64)=false:=aw q2;refine ae (bN (eW 18 (Mi3 r1 c1 c2) rfl (Z0) ?_));refine bH (M0) ?_;exact br ⟨.bool false,(by simp only[rs,rf57,am,aK,simprocAttr]<;>rfl),by simp [fy,q2],ex⟩
 have c2:decide (n≤64)=true:=aH q2;by_cases q3:es.length≤128
 case neg =>
  have c3:decide (((es.length:Nat):Int)≤128)=false:=aw om;refine ae (bN (eW 18 (Mi6 r1 r2 hlen c1 c2 c3) rfl (Z0) ?_));refine bH (M0) ?_;exact br ⟨.bool false,(by simp only[rs,rf57,am,aK,simprocAttr]<;>rfl),by simp [fy,q3],ex⟩
 have c3:decide (((es.length:Nat):Int)≤128)=true:=aH om
 have hcf:∀ x∈es,∀ h',Ext h1.next h1 h'→C prg 105 ([.agg (eE x)]++[.ptr h0.next 0]) h' λr h''=>r=.bool (!okE n x)∧Ext h'.next h' h'':=λx _ h' hx =>
  Hp (by rw[← r1]; exact bK (hx.gt _ om)) (by rw[← r3]; exact bK (hx.gt _ om)) (by have:=hx.nx; omega) (by have:=hx.nx; omega)
 refine ae (bN (bo 18 (Mi6 r1 r2 hlen c1 c2 c3) rfl (Zi6 r1 r2 hlen c1 c2 c3) (Mi6 r1 r2 hlen c1 c2 c3) (wm he1 hl hcf) λr h2 hq=>?_));obtain⟨rfl,ex2⟩:=hq;refine bH (M0) ?_;refine br ⟨_,(by simp only[rs,rf57,am,aK,simprocAttr]<;>rfl),?_,ex.trans (ex2.mono ex.nx)⟩;have c4:decide (1≤n)=true:=aH om;have c5:(!es.any λx=>!okE n x)=es.all (okE n):=by
  rw[List.not_any_eq_all_not];simp
 simp only[fy,c4,c2,q3,decide_true,mX,c5]
end Go.Proofs.YtahepnbflofndaaGreatDoor
