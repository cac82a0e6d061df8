/- slices.IndexFunc, Index, ContainsFunc, Contains (printed by -/
import Derived.Test.YtklpoimdclflmaaGreatDoorTTAB
set_option linter.all false
namespace Go.Proofs.YtklpoimdclflmaaGreatDoor
open Go.Am
variable {P:Int×Int×Int->Bool}{caps:List AV}{e:Nat}{h:AH}{k:FuncId}{v:AV}{xs:List (Int×Int)}{y:Int×Int}
def vA{a b:Int×Int}:fq .eql (.flat [.i64,.i64]) (.agg (eE a)) (.agg (eE b))=some (.bool (a==b)):=by
 obtain⟨a1,a2⟩:=a;obtain⟨b1,b2⟩:=b;show Option.map AV.bool (jY (.flat [.i64,.i64]) (.agg (eE (a1,a2))) (.agg (eE (b1,b2))))=_;simp only[jY,eqF,eE,fV,and_self,if_true];by_cases h1:a1=b1
 .subst h1;by_cases h2:a2=b2
  .subst h2;simp
  .simp[h2]
 .simp[h1]
def AW{P:Int×Int->Bool}(hv:SlE h v xs)(hl:xs.length<2^40)
 (hf:∀x∈xs,∀h',Ext h.next h h'->C prg k ([.agg (eE x)]++caps) h' λr h''=>r=.bool (P x)/\Ext h'.next h' h'') :
 C prg 48 [v,.fn k caps] h λr h'=>r=.int .i64 (eM P xs 0)/\Ext h.next h h':=by
 refine Oj rfl ?_;have hlen:=hv.len;rw[ah]at hlen;refine ae (ak (Mi0) ?_);refine ae (ae (ak (Mi1 hlen) ?_));refine ae (qj (λts h1=>eM P xs 0=-1/\Ext h.next h h1) (dl (hG (λn ts h1=>∃i,n=xs.length-i/\i<=xs.length/\Ext h.next h h1/\eM P (xs.drop i) i=eM P xs 0/\db ts 0=v/\db ts 1=.fn k caps/\db ts 7=.int .i64 (xs.length:Nat)/\db ts 8=.int .i64 (i:Nat)) ?_ (n:=xs.length) ⟨0,rfl,dv _,Oh,by rw[df],Ii0,Ii0,Ii0,by simp only[am,aL,↓reduceIte,Nat.reduceEqDiff,Int.reduceEq,Nat.reduceAdd,Nat.reduceLeDiff,reduceCtorEq,bV];rfl⟩)) ?_)
 .rintro n ts h1 ⟨i,rfl,hi,ex,hF,e0,e1,e7,e8⟩;refine ae (ak (M2 e7 e8) ?_);refine ae (cF (t:=decide (i<xs.length)) (Z1 @bE) (λq=>?_) λq=>?_)
  .have q:i<xs.length:=aY q;obtain⟨b,p,a1,r1,_,_⟩:=(hv.ext ex (ab _)).at (cm (f:=eE) q);refine bz (ae (dl (ae (ak (M1 e8) ?_))));have hc:=hf _ (ar q) h1 ex;refine ae (bM (py 5 (M6 e0 e1 e7 e8 a1 r1) rfl (Z6 e0 e1 e7 e8 a1 r1) (M6 e0 e1 e7 e8 a1 r1) (M6 e0 e1 e7 e8 a1 r1) (hc) λr h2 hq=>?_));obtain⟨rfl,ex2⟩:=hq;have ex3:=ex.trans (ex2.mono ex.nx);refine bI (M0) ?_;refine cF (t:=P xs[i]) (Z0) (λq2=>?_) λq2=>?_
   .refine ae (ak (M0) ?_);refine bu ⟨.int .i64 (i:Nat),(by simp only[rs,rf48,am,aL,simprocAttr]<;>rfl),?_,ex3⟩;rw[<-hF,fZ P q,if_pos q2]
   .have w1:IntKind.i64.wrap (((i:Nat):Int)+1)=((i+1:Nat):Int):=fU om om;refine bz (ak (M2 e8 w1) ?_);refine⟨xs.length-(i+1),om,i+1,rfl,om,ex3,?_,Z1 e0,Z1 e1,Z1 e7,Z2 e8 w1⟩;rw[<-hF,fZ P q,if_neg (by simp[q2])]
  .have q:¬i<xs.length:=bo q;refine fM ⟨λ_=>⟨?_,ex⟩,λe=>absurd rfl e⟩;rw[<-hF,dy om];rfl
 .rintro ts h1 ⟨hF,ex⟩;refine ae (ak (M0) ?_);exact bu ⟨.int .i64 (-1),(by simp only[rs,rf48,am,aL,simprocAttr]<;>rfl),by rw[hF],ex⟩
def IT{xs:List (Int)}{P:Int->Bool}(hv:SlI h v xs)(hl:xs.length<2^40)
 (hf:∀x∈xs,∀h',Ext h.next h h'->C prg k ([.int .i64 x]++caps) h' λr h''=>r=.bool (P x)/\Ext h'.next h' h'') :
 C prg 83 [v,.fn k caps] h λr h'=>r=.int .i64 (eM P xs 0)/\Ext h.next h h':=by
 refine Oj rfl ?_;have hlen:=hv.len;rw[ah]at hlen;refine ae (ak (Mi0) ?_);refine ae (ae (ak (Mi1 hlen) ?_));refine ae (qj (λts h1=>eM P xs 0=-1/\Ext h.next h h1) (dl (hG (λn ts h1=>∃i,n=xs.length-i/\i<=xs.length/\Ext h.next h h1/\eM P (xs.drop i) i=eM P xs 0/\db ts 0=v/\db ts 1=.fn k caps/\db ts 7=.int .i64 (xs.length:Nat)/\db ts 8=.int .i64 (i:Nat)) ?_ (n:=xs.length) ⟨0,rfl,dv _,Oh,by rw[df],Ii0,Ii0,Ii0,by simp only[am,aL,↓reduceIte,Nat.reduceEqDiff,Int.reduceEq,Nat.reduceAdd,Nat.reduceLeDiff,reduceCtorEq,bV];rfl⟩)) ?_)
 .rintro n ts h1 ⟨i,rfl,hi,ex,hF,e0,e1,e7,e8⟩;refine ae (ak (M2 e7 e8) ?_);refine ae (cF (t:=decide (i<xs.length)) (Z1 @bE) (λq=>?_) λq=>?_)
  .have q:i<xs.length:=aY q;obtain⟨b,p,a1,r1,_,_⟩:=(hv.ext ex (ab _)).at (cm (f:=eI) q);refine bz (ae (dl (ae (ak (M1 e8) ?_))));have hc:=hf _ (ar q) h1 ex;refine ae (bM (py 5 (by simp only[am,aL,simprocAttr,e0,e1,e7,e8,a1,r1,mQ,eI]<;>rfl) rfl (by simp only[am,aL,simprocAttr,e0,e1,e7,e8,a1,r1,mQ,eI]) (by simp only[am,aL,simprocAttr,e0,e1,e7,e8,a1,r1,mQ,eI]<;>rfl) (by simp only[am,aL,simprocAttr,e0,e1,e7,e8,a1,r1,mQ,eI]<;>rfl) (hc) λr h2 hq=>?_));obtain⟨rfl,ex2⟩:=hq;have ex3:=ex.trans (ex2.mono ex.nx);refine bI (M0) ?_;refine cF (t:=P xs[i]) (Z0) (λq2=>?_) λq2=>?_
   .refine ae (ak (M0) ?_);refine bu ⟨.int .i64 (i:Nat),(by simp only[rs,rf83,am,aL,simprocAttr]<;>rfl),?_,ex3⟩;rw[<-hF,fZ P q,if_pos q2]
   .have w1:IntKind.i64.wrap (((i:Nat):Int)+1)=((i+1:Nat):Int):=fU om om;refine bz (ak (M2 e8 w1) ?_);refine⟨xs.length-(i+1),om,i+1,rfl,om,ex3,?_,Z1 e0,Z1 e1,Z1 e7,Z2 e8 w1⟩;rw[<-hF,fZ P q,if_neg (by simp[q2])]
  .have q:¬i<xs.length:=bo q;refine fM ⟨λ_=>⟨?_,ex⟩,λe=>absurd rfl e⟩;rw[<-hF,dy om];rfl
 .rintro ts h1 ⟨hF,ex⟩;refine ae (ak (M0) ?_);exact bu ⟨.int .i64 (-1),(by simp only[rs,rf83,am,aL,simprocAttr]<;>rfl),by rw[hF],ex⟩
def IR{xs:List (Int×Int×Int)}(hv:SlT h v xs)(hl:xs.length<2^40)
 (hf:∀x∈xs,∀h',Ext h.next h h'->C prg k ([.agg (eT x)]++caps) h' λr h''=>r=.bool (P x)/\Ext h'.next h' h'') :
 C prg 163 [v,.fn k caps] h λr h'=>r=.int .i64 (eM P xs 0)/\Ext h.next h h':=by
 refine Oj rfl ?_;have hlen:=hv.len;rw[ah]at hlen;refine ae (ak (Mi0) ?_);refine ae (ae (ak (Mi1 hlen) ?_));refine ae (qj (λts h1=>eM P xs 0=-1/\Ext h.next h h1) (dl (hG (λn ts h1=>∃i,n=xs.length-i/\i<=xs.length/\Ext h.next h h1/\eM P (xs.drop i) i=eM P xs 0/\db ts 0=v/\db ts 1=.fn k caps/\db ts 7=.int .i64 (xs.length:Nat)/\db ts 8=.int .i64 (i:Nat)) ?_ (n:=xs.length) ⟨0,rfl,dv _,Oh,by rw[df],Ii0,Ii0,Ii0,by simp only[am,aL,↓reduceIte,Nat.reduceEqDiff,Int.reduceEq,Nat.reduceAdd,Nat.reduceLeDiff,reduceCtorEq,bV];rfl⟩)) ?_)
 .rintro n ts h1 ⟨i,rfl,hi,ex,hF,e0,e1,e7,e8⟩;refine ae (ak (M2 e7 e8) ?_);refine ae (cF (t:=decide (i<xs.length)) (Z1 @bE) (λq=>?_) λq=>?_)
  .have q:i<xs.length:=aY q;obtain⟨b,p,a1,r1,_,_⟩:=(hv.ext ex (ab _)).at (cm (f:=eT) q);refine bz (ae (dl (ae (ak (M1 e8) ?_))));have hc:=hf _ (ar q) h1 ex;refine ae (bM (py 5 (M6 e0 e1 e7 e8 a1 r1) rfl (Z6 e0 e1 e7 e8 a1 r1) (M6 e0 e1 e7 e8 a1 r1) (M6 e0 e1 e7 e8 a1 r1) (hc) λr h2 hq=>?_));obtain⟨rfl,ex2⟩:=hq;have ex3:=ex.trans (ex2.mono ex.nx);refine bI (M0) ?_;refine cF (t:=P xs[i]) (Z0) (λq2=>?_) λq2=>?_
   .refine ae (ak (M0) ?_);refine bu ⟨.int .i64 (i:Nat),(by simp only[rs,rf163,am,aL,simprocAttr]<;>rfl),?_,ex3⟩;rw[<-hF,fZ P q,if_pos q2]
   .have w1:IntKind.i64.wrap (((i:Nat):Int)+1)=((i+1:Nat):Int):=fU om om;refine bz (ak (M2 e8 w1) ?_);refine⟨xs.length-(i+1),om,i+1,rfl,om,ex3,?_,Z1 e0,Z1 e1,Z1 e7,Z2 e8 w1⟩;rw[<-hF,fZ P q,if_neg (by simp[q2])]
  .have q:¬i<xs.length:=bo q;refine fM ⟨λ_=>⟨?_,ex⟩,λe=>absurd rfl e⟩;rw[<-hF,dy om];rfl
 .rintro ts h1 ⟨hF,ex⟩;refine ae (ak (M0) ?_);exact bu ⟨.int .i64 (-1),(by simp only[rs,rf163,am,aL,simprocAttr]<;>rfl),by rw[hF],ex⟩
def xP{P:Int×Int->Bool}(hv:SlE h v xs)(hl:xs.length<2^40)
 (hf:∀x∈xs,∀h',Ext h.next h h'->C prg k ([.agg (eE x)]++caps) h' λr h''=>r=.bool (P x)/\Ext h'.next h' h'') :
 C prg 52 [v,.fn k caps] h λr h'=>r=.bool (xs.any P)/\Ext h.next h h':=by
 refine Oj rfl ?_;refine ae (ak (Mi0) ?_);refine ae (bM (bj 2 (Mi0) rfl (Zi0) (Mi0) (AW hv hl hf) λr h2 hq=>?_));obtain⟨rfl,ex⟩:=hq;have hb:decide ((0:Int)<=eM P xs 0)=xs.any P:=by
  have:=(lj P xs 0).2;cases hq:xs.any P with
  |true=>rw[aK];rw[hq]at this;simp at this;omega
  |false=>rw[ce];have:=this.2 hq;omega
 refine bI (M1 hb) ?_;exact bu ⟨_,(by simp only[rs,rf52,am,aL,simprocAttr]<;>rfl),rfl,ex⟩
def Gg{xs:List (Int×Int×Int)}(hv:SlT h v xs)(hl:xs.length<2^40)
 (hf:∀x∈xs,∀h',Ext h.next h h'->C prg k ([.agg (eT x)]++caps) h' λr h''=>r=.bool (P x)/\Ext h'.next h' h'') :
 C prg 144 [v,.fn k caps] h λr h'=>r=.bool (xs.any P)/\Ext h.next h h':=by
 refine Oj rfl ?_;refine ae (ak (Mi0) ?_);refine ae (bM (bj 2 (Mi0) rfl (Zi0) (Mi0) (IR hv hl hf) λr h2 hq=>?_));obtain⟨rfl,ex⟩:=hq;have hb:decide ((0:Int)<=eM P xs 0)=xs.any P:=by
  have:=(lj P xs 0).2;cases hq:xs.any P with
  |true=>rw[aK];rw[hq]at this;simp at this;omega
  |false=>rw[ce];have:=this.2 hq;omega
 refine bI (M1 hb) ?_;exact bu ⟨_,(by simp only[rs,rf144,am,aL,simprocAttr]<;>rfl),rfl,ex⟩
def rR{xs:List (Int)}{y:Int}(hv:SlI h v xs)(hl:xs.length<2^40) :
 C prg 86 [v,.int .i64 y] h λr h'=>r=.int .i64 (eM (y==·) xs 0)/\Ext h.next h h':=by
 refine Oj rfl ?_;have hlen:=hv.len;rw[ah]at hlen;have ex0:Ext h.next h h:=Oh;refine ae (ak (Mi0) ?_);refine ae (ae (ak (Mi1 hlen) ?_));refine ae (qj (λts h1=>eM (y==·) xs 0=-1/\h1=h) (dl (hG (λn ts h1=>∃i,n=xs.length-i/\i<=xs.length/\h1=h/\eM (y==·) (xs.drop i) i=eM (y==·) xs 0/\db ts 0=v/\db ts 1=.int .i64 y/\db ts 7=.int .i64 (xs.length:Nat)/\db ts 8=.int .i64 (i:Nat)) ?_ (n:=xs.length) ⟨0,rfl,dv _,rfl,by rw[df],Ii0,Ii0,Ii0,by simp only[am,aL,↓reduceIte,Nat.reduceEqDiff,Int.reduceEq,Nat.reduceAdd,Nat.reduceLeDiff,reduceCtorEq,bV];rfl⟩)) ?_)
 .rintro n ts h1 ⟨i,rfl,hi,rfl,hF,e0,ek,e7,e8⟩;refine ae (ak (M2 e7 e8) ?_);refine ae (cF (t:=decide (i<xs.length)) (Z1 @bE) (λq=>?_) λq=>?_)
  .have q:i<xs.length:=aY q;obtain⟨b,p,a1,r1,_,_⟩:=(hv.ext ex0 (ab _)).at (cm (f:=eI) q);refine bz (ae (dl (ae (ak (M1 e8) ?_))));have ceq:decide (y=xs[i])=(y==xs[i]):=rfl;refine ae (ak (by simp only[am,aL,simprocAttr,e0,ek,e7,e8,a1,r1,ceq,eI]<;>rfl) ?_);refine cF (t:=y==xs[i]) (Z0) (λq2=>?_) λq2=>?_
   .refine ae (ak (M0) ?_);refine bu ⟨.int .i64 (i:Nat),(by simp only[rs,rf86,am,aL,simprocAttr]<;>rfl),?_,ex0⟩;rw[<-hF,fZ _ q,if_pos q2]
   .have w1:IntKind.i64.wrap (((i:Nat):Int)+1)=((i+1:Nat):Int):=fU om om;refine bz (ak (M2 e8 w1) ?_);refine⟨xs.length-(i+1),om,i+1,rfl,om,rfl,?_,Z1 e0,Z1 ek,Z1 e7,Z2 e8 w1⟩;rw[<-hF,fZ _ q,if_neg (by simp[q2])]
  .have q:¬i<xs.length:=bo q;refine fM ⟨λ_=>⟨?_,rfl⟩,λe=>absurd rfl e⟩;rw[<-hF,dy om];rfl
 .rintro ts h1 ⟨hF,rfl⟩;refine ae (ak (M0) ?_);exact bu ⟨.int .i64 (-1),(by simp only[rs,rf86,am,aL,simprocAttr]<;>rfl),by rw[hF],ex0⟩
def Mb(hv:SlE h v xs)(hl:xs.length<2^40) :
 C prg 81 [v,.agg (eE y)] h λr h'=>r=.int .i64 (eM (y==·) xs 0)/\Ext h.next h h':=by
 refine Oj rfl ?_;have hlen:=hv.len;rw[ah]at hlen;have hlen':[AV.int .i64 y.1,.int .i64 y.2].length=2:=rfl;refine ae (ak (by simp only[am,aL,simprocAttr,bV,eE]<;>rfl) ?_);have ex0:Ext h.next h (h.new (.cells [.int .i64 y.1,.int .i64 y.2] 2 false)):=Oe (ab _);have rb:ai (h.new (.cells [.int .i64 y.1,.int .i64 y.2] 2 false)) h.next 0 2=some [.int .i64 y.1,.int .i64 y.2]:=by rw[aR (by rw[AH.get_new,if_pos rfl])];rfl
 have hlt:h.next<(h.new (.cells [.int .i64 y.1,.int .i64 y.2] 2 false)).next:=by simp
 generalize h.new (.cells [.int .i64 y.1,.int .i64 y.2] 2 false)=h0 at *
 refine ae (ae (ak (Mi1 hlen) ?_));refine ae (qj (λts h1=>eM (y==·) xs 0=-1/\h1=h0) (dl (hG (λn ts h1=>∃i,n=xs.length-i/\i<=xs.length/\h1=h0/\eM (y==·) (xs.drop i) i=eM (y==·) xs 0/\db ts 0=v/\db ts 3=.ptr h.next 0/\db ts 7=.int .i64 (xs.length:Nat)/\db ts 8=.int .i64 (i:Nat)) ?_ (n:=xs.length) ⟨0,rfl,dv _,rfl,by rw[df],Ii0,Ii0,Ii0,by simp only[am,aL,↓reduceIte,Nat.reduceEqDiff,Int.reduceEq,Nat.reduceAdd,Nat.reduceLeDiff,reduceCtorEq,bV];rfl⟩)) ?_)
 .rintro n ts h1 ⟨i,rfl,hi,rfl,hF,e0,ek,e7,e8⟩;refine ae (ak (M2 e7 e8) ?_);refine ae (cF (t:=decide (i<xs.length)) (Z1 @bE) (λq=>?_) λq=>?_)
  .have q:i<xs.length:=aY q;obtain⟨b,p,a1,r1,_,_⟩:=(hv.ext ex0 (ab _)).at (cm (f:=eE) q);refine bz (ae (dl (ae (ak (M1 e8) ?_))));have ceq:fq .eql (.flat [.i64,.i64]) (.agg [.int .i64 y.1,.int .i64 y.2]) (.agg [.int .i64 xs[i].1,.int .i64 xs[i].2])=some (.bool (y==xs[i])):=vA;refine ae (ak (by simp only[am,aL,simprocAttr,e0,ek,e7,e8,a1,r1,rb,ceq,eE]<;>rfl) ?_);refine cF (t:=y==xs[i]) (Z0) (λq2=>?_) λq2=>?_
   .refine ae (ak (M0) ?_);refine bu ⟨.int .i64 (i:Nat),(by simp only[rs,rf81,am,aL,simprocAttr]<;>rfl),?_,ex0⟩;rw[<-hF,fZ _ q,if_pos q2]
   .have w1:IntKind.i64.wrap (((i:Nat):Int)+1)=((i+1:Nat):Int):=fU om om;refine bz (ak (M2 e8 w1) ?_);refine⟨xs.length-(i+1),om,i+1,rfl,om,rfl,?_,Z1 e0,Z1 ek,Z1 e7,Z2 e8 w1⟩;rw[<-hF,fZ _ q,if_neg (by simp[q2])]
  .have q:¬i<xs.length:=bo q;refine fM ⟨λ_=>⟨?_,rfl⟩,λe=>absurd rfl e⟩;rw[<-hF,dy om];rfl
 .rintro ts h1 ⟨hF,rfl⟩;refine ae (ak (M0) ?_);exact bu ⟨.int .i64 (-1),(by simp only[rs,rf81,am,aL,simprocAttr]<;>rfl),by rw[hF],ex0⟩
def Br{xs:List (Int)}{y:Int}(hv:SlI h v xs)(hl:xs.length<2^40) :
 C prg 85 [v,.int .i64 y] h λr h'=>r=.bool (xs.any (y==·))/\Ext h.next h h':=by
 refine Oj rfl ?_;refine ae (ak (Mi0) ?_);have ex0:Ext h.next h h:=Oh;have hc:=rR (y:=y) hv hl;refine ae (bM (bj 2 (Mi0) rfl (Zi0) (Mi0) (hc) λr h2 hq=>?_));obtain⟨rfl,ex⟩:=hq;have hb:decide ((0:Int)<=eM (y==·) xs 0)=xs.any (y==·):=by
  have:=(lj (y==·) xs 0).2;cases hq:xs.any (y==·)with
  |true=>rw[aK];rw[hq]at this;simp at this;omega
  |false=>rw[ce];have:=this.2 hq;omega
 refine bI (M1 hb) ?_;exact bu ⟨_,(by simp only[rs,rf85,am,aL,simprocAttr]<;>rfl),rfl,ex0.trans (ex.mono ex0.nx)⟩
def JC(hv:SlE h v xs)(hl:xs.length<2^40) :
 C prg 50 [v,.agg (eE y)] h λr h'=>r=.bool (xs.any (y==·))/\Ext h.next h h':=by
 refine Oj rfl ?_;refine ae (ak (by simp only[am,aL,simprocAttr,bV,eE]<;>rfl) ?_);have ex0:Ext h.next h (h.new (.cells [.int .i64 y.1,.int .i64 y.2] 2 false)):=Oe (ab _);have rb:ai (h.new (.cells [.int .i64 y.1,.int .i64 y.2] 2 false)) h.next 0 2=some [.int .i64 y.1,.int .i64 y.2]:=by rw[aR (by rw[AH.get_new,if_pos rfl])];rfl
 generalize h.new (.cells [.int .i64 y.1,.int .i64 y.2] 2 false)=h0 at *
 have hv0:=hv.ext ex0 (ab _);have hc:=Mb (y:=y) hv0 hl;rw[show eE y=[.int .i64 y.1,.int .i64 y.2] from rfl]at hc;refine ae (bM (bj 2 (Mi1 rb) rfl (Zi1 rb) (Mi1 rb) (hc) λr h2 hq=>?_));obtain⟨rfl,ex⟩:=hq;have hb:decide ((0:Int)<=eM (y==·) xs 0)=xs.any (y==·):=by
  have:=(lj (y==·) xs 0).2;cases hq:xs.any (y==·)with
  |true=>rw[aK];rw[hq]at this;simp at this;omega
  |false=>rw[ce];have:=this.2 hq;omega
 refine bI (M1 hb) ?_;exact bu ⟨_,(by simp only[rs,rf50,am,aL,simprocAttr]<;>rfl),rfl,ex0.trans (ex.mono ex0.nx)⟩
open Go.Am
def Cr{xs:List Int}:(xs.flatMap eI).all AV.one=true:=by
 rw[bK];intro x hx;obtain⟨y,_,hy⟩:=cM.1 hx;simp only[eI,aF,bA,or_false]at hy;subst hy;rfl
def Nz:(xs.flatMap eE).all AV.one=true:=by
 rw[bK];intro x hx;obtain⟨y,_,hy⟩:=cM.1 hx;simp only[eE,aF,bA,or_false]at hy;rcases hy with rfl|rfl<;>rfl
def qy{xs:List (Int×Int×Int)}:(xs.flatMap eT).all AV.one=true:=by
 rw[bK];intro x hx;obtain⟨y,_,hy⟩:=cM.1 hx;simp only[eT,aF,bA,or_false]at hy;rcases hy with rfl|rfl|rfl<;>rfl
def yW{xs:List (List AV)}(hv:Sl h e v xs):∃b,fq .eql .nls v .nils=some (.bool b)/\(b=true->v=.nils/\xs=[])/\(b=false->v≠.nils):=by
 rcases hv with⟨rfl,rfl|rfl⟩|⟨b,o,c,cs,ro,rfl,hg,hc,hle,hx⟩
 .exact⟨true,rfl,λ_=>⟨rfl,rfl⟩,λq=>by cases q⟩
 .exact⟨false,rfl,λq=>(by cases q),λ_=>(by simp)⟩
 .exact⟨false,rfl,λq=>(by cases q),λ_=>(by simp)⟩
def pR{bytes:Nat}{xs:List (List AV)}(hv:Sl h e v xs)(ho:xs.flatten.all AV.one=true)(hl:xs.length*bytes<bf)(hl2:xs.length<bf) :
 ∃r h',gh (h.new (.cells [] e false)) e bytes (.sl h.next 0 0 0) v=some (r,h')/\IsSl h' e h.next r xs.flatten/\Ext h.next h h'/\r≠.nils:=by
 have hv':=hv.ext (Oe (o:=.cells [] e false) (ab _)) (ab _);obtain⟨s1,s2⟩:=hv'.src;have g0:(h.new (.cells [] e false)).get h.next=some (.cells [] e false):=by rw[AH.get_new,if_pos rfl]
 by_cases hz:xs.length=0
 .refine⟨.sl h.next 0 0 0,_,?_,.inr ⟨h.next,0,ab _,rfl,by rw[g0,aW.1 hz];rfl,by rw[s2,hz]⟩,Oe (ab _),by simp⟩;simp only[gh,s1,ho,if_true,hz]
 .refine⟨.sl (h.next+1) 0 xs.length xs.length,((h.new (.cells [] e false)).put h.next .dead).new (.cells xs.flatten e false),?_,.inr ⟨h.next+1,xs.length,om,rfl,by rw[AH.get_new,if_pos (by simp)],s2⟩,(Oe (ab _)).trans ((Og (ab _)).trans (Oe (by simp))),by simp⟩;simp only[gh,s1,ho,if_true,if_neg hz,g0,aR g0];rw[bN,if_neg om,if_pos ⟨hl,hl2⟩];simp
def Gi{xs:List (Int)}(hv:SlI h v xs)(hl:xs.length<2^34) :
 C prg 136 [v] h λr h'=>IsSl h' 1 h.next r (xs.flatMap eI)/\Ext h.next h h'/\(r=.nils↔v=.nils):=by
 refine Oj rfl ?_;refine ae (ak (Mi0) ?_);obtain⟨b,hb,k1,k2⟩:=yW hv;refine ae (ae (ak (Mi1 hb) ?_));refine cF (t:=b) (Z0) (λq=>?_) λq=>?_
 .obtain⟨rfl,hx⟩:=k1 q;rw[kQ]at hx;subst hx;refine ae (ak (M0) ?_);exact bu ⟨.nils,(by simp only[rs,rf136,am,aL,simprocAttr]<;>rfl),.inl ⟨rfl,rfl⟩,Oh,by simp⟩
 .have hvv:=k2 q;refine bz ?_;obtain⟨r,h',a1,a2,a3,a4⟩:=pR (bytes:=8) hv Cr (by rw[ah];unfold bf;omega) (by rw[ah];unfold bf;omega);refine ae (ak (Mi1 a1) ?_);exact bu ⟨r,(by simp only[rs,rf136,am,aL,simprocAttr]<;>rfl),a2,a3,by simp[a4,hvv]⟩
def Gj(hv:SlE h v xs)(hl:xs.length<2^34) :
 C prg 37 [v] h λr h'=>IsSl h' 2 h.next r (xs.flatMap eE)/\Ext h.next h h'/\(r=.nils↔v=.nils):=by
 refine Oj rfl ?_;refine ae (ak (Mi0) ?_);obtain⟨b,hb,k1,k2⟩:=yW hv;refine ae (ae (ak (Mi1 hb) ?_));refine cF (t:=b) (Z0) (λq=>?_) λq=>?_
 .obtain⟨rfl,hx⟩:=k1 q;rw[kQ]at hx;subst hx;refine ae (ak (M0) ?_);exact bu ⟨.nils,(by simp only[rs,rf37,am,aL,simprocAttr]<;>rfl),.inl ⟨rfl,rfl⟩,Oh,by simp⟩
 .have hvv:=k2 q;refine bz ?_;obtain⟨r,h',a1,a2,a3,a4⟩:=pR (bytes:=16) hv Nz (by rw[ah];unfold bf;omega) (by rw[ah];unfold bf;omega);refine ae (ak (Mi1 a1) ?_);exact bu ⟨r,(by simp only[rs,rf37,am,aL,simprocAttr]<;>rfl),a2,a3,by simp[a4,hvv]⟩
def xR{xs:List (Int×Int×Int)}(hv:SlT h v xs)(hl:xs.length<2^34) :
 C prg 71 [v] h λr h'=>IsSl h' 3 h.next r (xs.flatMap eT)/\Ext h.next h h'/\(r=.nils↔v=.nils):=by
 refine Oj rfl ?_;refine ae (ak (Mi0) ?_);obtain⟨b,hb,k1,k2⟩:=yW hv;refine ae (ae (ak (Mi1 hb) ?_));refine cF (t:=b) (Z0) (λq=>?_) λq=>?_
 .obtain⟨rfl,hx⟩:=k1 q;rw[kQ]at hx;subst hx;refine ae (ak (M0) ?_);exact bu ⟨.nils,(by simp only[rs,rf71,am,aL,simprocAttr]<;>rfl),.inl ⟨rfl,rfl⟩,Oh,by simp⟩
 .have hvv:=k2 q;refine bz ?_;obtain⟨r,h',a1,a2,a3,a4⟩:=pR (bytes:=24) hv qy (by rw[ah];unfold bf;omega) (by rw[ah];unfold bf;omega);refine ae (ak (Mi1 a1) ?_);exact bu ⟨r,(by simp only[rs,rf71,am,aL,simprocAttr]<;>rfl),a2,a3,by simp[a4,hvv]⟩
def eqto(xs ys:List Int)(hl:xs.length=ys.length):∀k,k<=xs.length->(xs.take k=ys.take k)->(∀(hk:k<xs.length),xs[k]=ys[k]'om->xs.take (k+1)=ys.take (k+1)):=by
 intro k _ h hk e;rw[aI hk,aI om,h,e]
def xH{w:AV}{xs ys:List Int}(hv:SlI h v xs)(hw:SlI h w ys)(hl:xs.length<2^40)(hl2:ys.length<2^40) :
 C prg 65 [v,w] h λr h'=>r=.bool (xs==ys)/\h'=h:=by
 refine Oj rfl ?_;have e1:=hv.len;have e2:=hw.len;rw[ah]at e1 e2;refine ae (ak (Mi0) ?_);refine ae (ae (ak (Mi2 e1 e2) ?_));refine cF (t:=!decide (((xs.length:Nat):Int)=((ys.length:Nat):Int))) (Z0) (λq=>?_) λq=>?_
 .have q:xs.length≠ys.length:=by simp at q;omega
  refine ae (ak (M0) ?_);exact bu ⟨.bool false,(by simp only[rs,rf65,am,aL,simprocAttr]<;>rfl),by rw[show(xs==ys)=false from by rw[beq_eq_false_iff_ne];intro hh;exact q (congrArg _ hh)],rfl⟩
 .have q:xs.length=ys.length:=by simp at q;omega
  refine bz (ae (ae (ak (Mi1 e1) ?_)));refine fi (α:=Unit) (N:=xs.length) (λ_ _=>[(0,v),(1,w)]) (λk _ h1=>h1=h/\xs.take k=ys.take k) () (λ_ _=>rfl) om (Oi0) ⟨rfl,rfl⟩ ?_ ?_
  .rintro k _ ts h1 hk ⟨rfl,hp⟩ ⟨ei,en,e0,e1',-⟩;simp only at ei en e0 e1';obtain⟨b1,p1,a1,r1,_⟩:=hv.at1 (cm (f:=eI) hk);obtain⟨b2,p2,a2,r2,_⟩:=hw.at1 (cm (f:=eI) (show k<ys.length by omega));refine ae (ak (M1 ei) ?_);refine ae (ak (M6 e0 e1' a1 r1 a2 r2) ?_);refine cF (t:=!decide (xs[k]=ys[k])) (Z0) (λq2=>?_) λq2=>?_
   .have q2:xs[k]≠ys[k]:=by simpa using q2
    refine ae (ak (M0) ?_);refine bu ⟨.bool false,(by simp only[rs,rf65,am,aL,simprocAttr]<;>rfl),?_,rfl⟩;have:(xs==ys)=false:=by
     rw[beq_eq_false_iff_ne];intro hh;subst hh;exact q2 rfl
    rw[this]
   .have q2:xs[k]=ys[k]:=by simpa using q2
    refine bz ⟨(),⟨rfl,eqto xs ys q k om hp hk q2⟩,O4 ei en e0 e1'⟩
  .rintro _ ts h1 ⟨rfl,hp⟩ ⟨e0,e1',-⟩;refine ae (ak (M0) ?_);refine bu ⟨.bool true,(by simp only[rs,rf65,am,aL,simprocAttr]<;>rfl),?_,rfl⟩;rw[bt,q,bt]at hp;subst hp;simp
end Go.Proofs.YtklpoimdclflmaaGreatDoor
