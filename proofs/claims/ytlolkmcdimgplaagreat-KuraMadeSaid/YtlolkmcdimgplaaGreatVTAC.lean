/- The functions in the clean machine's form -/
import Derived.Test.YtlolkmcdimgplaaGreatVTAB
import Derived.Test.YtlolkmcdimgplaaGreatVAmK
import Derived.Test.YtlolkmcdimgplaaGreatVAmR
set_option linter.all false
namespace Go.Proofs.YtlolkmcdimgplaaGreat
open Go.Am
set_option maxRecDepth 100000
variable {P:Int×Int->Bool}{a v:AV}{caps:List AV}{e lo:Nat}{h:AH}{k:FuncId}{xs:List (Int×Int)}{xss:List (List Nat)}{y:Int}
def mks:List (Nat×RF):=[(23,tF),(47,rZ 48)]
def tab:List (Nat×RF):=[(3,rf3),(4,rf4),(5,rf5),(6,rf6),(7,rf7),(8,rf8),(9,rf9),(10,rf10),(11,rf11),(12,rf12),(14,rf14),(15,rf15),(16,rf16),(17,rf17),(18,rf18),(19,rf19),(20,rf20),(21,rf21),(22,rf22),(23,rf23),(24,rf24),(25,rf25),(26,rf26),(27,rf27),(28,rf28),(29,rf29),(30,rf30),(31,rf31),(32,rf32),(33,rf33),(34,rf34),(35,rf35),(36,rf36),(37,rf37),(38,rf38),(39,rf39),(40,rf40),(41,rf41),(42,rf42),(43,rf43),(44,rf44),(45,rf45),(46,rf46),(47,rf47),(49,rf49),(50,rf50),(51,rf51),(52,rf52),(53,rf53),(54,rf54),(64,rf64),(65,rf65),(66,rf66),(67,rf67),(68,rf68),(69,rf69),(70,rf70),(71,rf71),(72,rf72),(73,rf73),(74,rf74),(75,rf75),(76,rf76),(77,rf77),(84,rf84),(85,rf85),(86,rf86),(94,rf94),(95,rf95),(96,rf96),(97,rf97),(98,rf98),(99,rf99),(101,rf101),(102,rf102),(106,rf106),(107,rf107)]
noncomputable def prg:RP:=λf=>lkp tab f (Bj Tryz.prog mks f)
theorem pf3:prg 3=some rf3:=rfl
theorem pf4:prg 4=some rf4:=rfl
theorem pf5:prg 5=some rf5:=rfl
theorem pf6:prg 6=some rf6:=rfl
theorem pf7:prg 7=some rf7:=rfl
theorem pf8:prg 8=some rf8:=rfl
theorem pf9:prg 9=some rf9:=rfl
theorem pf10:prg 10=some rf10:=rfl
theorem pf11:prg 11=some rf11:=rfl
theorem pf12:prg 12=some rf12:=rfl
theorem pf14:prg 14=some rf14:=rfl
theorem pf15:prg 15=some rf15:=rfl
theorem pf16:prg 16=some rf16:=rfl
theorem pf17:prg 17=some rf17:=rfl
theorem pf18:prg 18=some rf18:=rfl
theorem pf19:prg 19=some rf19:=rfl
theorem pf20:prg 20=some rf20:=rfl
theorem pf21:prg 21=some rf21:=rfl
theorem pf22:prg 22=some rf22:=rfl
theorem pf23:prg 23=some rf23:=rfl
theorem pf24:prg 24=some rf24:=rfl
theorem pf25:prg 25=some rf25:=rfl
theorem pf26:prg 26=some rf26:=rfl
theorem pf27:prg 27=some rf27:=rfl
theorem pf28:prg 28=some rf28:=rfl
theorem pf29:prg 29=some rf29:=rfl
theorem pf30:prg 30=some rf30:=rfl
theorem pf31:prg 31=some rf31:=rfl
theorem pf32:prg 32=some rf32:=rfl
theorem pf33:prg 33=some rf33:=rfl
theorem pf34:prg 34=some rf34:=rfl
theorem pf35:prg 35=some rf35:=rfl
theorem pf36:prg 36=some rf36:=rfl
theorem pf37:prg 37=some rf37:=rfl
theorem pf38:prg 38=some rf38:=rfl
theorem pf39:prg 39=some rf39:=rfl
theorem pf40:prg 40=some rf40:=rfl
theorem pf41:prg 41=some rf41:=rfl
theorem pf42:prg 42=some rf42:=rfl
theorem pf43:prg 43=some rf43:=rfl
theorem pf44:prg 44=some rf44:=rfl
theorem pf45:prg 45=some rf45:=rfl
theorem pf46:prg 46=some rf46:=rfl
theorem pf47:prg 47=some rf47:=rfl
theorem pf49:prg 49=some rf49:=rfl
theorem pf50:prg 50=some rf50:=rfl
theorem pf51:prg 51=some rf51:=rfl
theorem pf52:prg 52=some rf52:=rfl
theorem pf53:prg 53=some rf53:=rfl
theorem pf54:prg 54=some rf54:=rfl
theorem pf64:prg 64=some rf64:=rfl
theorem pf65:prg 65=some rf65:=rfl
theorem pf66:prg 66=some rf66:=rfl
theorem pf67:prg 67=some rf67:=rfl
theorem pf68:prg 68=some rf68:=rfl
theorem pf69:prg 69=some rf69:=rfl
theorem pf70:prg 70=some rf70:=rfl
theorem pf71:prg 71=some rf71:=rfl
theorem pf72:prg 72=some rf72:=rfl
theorem pf73:prg 73=some rf73:=rfl
theorem pf74:prg 74=some rf74:=rfl
theorem pf75:prg 75=some rf75:=rfl
theorem pf76:prg 76=some rf76:=rfl
theorem pf77:prg 77=some rf77:=rfl
theorem pf84:prg 84=some rf84:=rfl
theorem pf85:prg 85=some rf85:=rfl
theorem pf86:prg 86=some rf86:=rfl
theorem pf94:prg 94=some rf94:=rfl
theorem pf95:prg 95=some rf95:=rfl
theorem pf96:prg 96=some rf96:=rfl
theorem pf97:prg 97=some rf97:=rfl
theorem pf98:prg 98=some rf98:=rfl
theorem pf99:prg 99=some rf99:=rfl
theorem pf101:prg 101=some rf101:=rfl
theorem pf102:prg 102=some rf102:=rfl
theorem pf106:prg 106=some rf106:=rfl
theorem pf107:prg 107=some rf107:=rfl
theorem ps23:prg (23+nM)=some tF:=rfl
theorem ps47:prg (47+nM)=some (rZ 48):=rfl
theorem det:Det (xF Tryz.prog mks) prg:=Lp (by simp only[mks,yL];exact⟨rfl,rfl,λ_ h=>by cases h⟩) rfl ⟨cf3,cf4,cf5,cf6,cf7,cf8,cf9,cf10,cf11,cf12,cf14,cf15,cf16,cf17,cf18,cf19,cf20,cf21,cf22,cf23,cf24,cf25,cf26,cf27,cf28,cf29,cf30,cf31,cf32,cf33,cf34,cf35,cf36,cf37,cf38,cf39,cf40,cf41,cf42,cf43,cf44,cf45,cf46,cf47,cf49,cf50,cf51,cf52,cf53,cf54,cf64,cf65,cf66,cf67,cf68,cf69,cf70,cf71,cf72,cf73,cf74,cf75,cf76,cf77,cf84,cf85,cf86,cf94,cf95,cf96,cf97,cf98,cf99,cf101,cf102,cf106,cf107,trivial⟩
open Go.Am
open Go.RowKit
theorem Lf(xs:List Int):xs.flatMap eI=xs.map (AV.int .i64):=by
 induction xs with
 |nil=>rfl
 |cons x r ih=>rw[bm,ih];rfl
theorem JI{α:Type}{f:α->List AV}{b n:Nat}{xs:List α}{ro:Bool}(hf:∀x,(f x).length=e)(hg:h.get b=some (.cells (xs.flatMap f) e ro))(hn:n=xs.length):Sl h e (.sl b 0 n n) (xs.map f):=by
 subst hn;have hl:=dN hf xs;refine .inr ⟨b,0,xs.length,_,ro,by rw[ah],hg,by rw[ah];exact ab _,by rw[ah,hl];omega,λi x hx=>?_⟩;rw[aG]at hx;obtain⟨y,hy,rfl⟩:=aE.1 hx;rw[cq];exact tn hf xs i y hy
theorem ints1{K:Bs}{σ:Sg}{w:World}(r:Rep K σ h w)(hB:K.B=w.heap.size){a:Option Addr}{len cap:Nat}{zs:List Int}(hr:IsRowE .i64 1 w a len cap zs) :
 ∃σ' o v,σ.le σ'/\Rep K σ' (h.new o) w/\VR σ' v (.slice a len cap)/\ly v=some (.int .i64 (len:Nat))/\SlI (h.new o) v (zs.take len):=by
 have hrow:len<=cap/\zs.length=cap/\(a=none->cap=0)/\∀x,a=some x->∀i,i<cap->w.cell? (x.add i)=some (.int .i64 (zs.getD i 0)):=by
  rcases hr with⟨rfl,rfl,rfl,rfl⟩|⟨x,rfl,h1,h2,h3,h4,h5⟩
  .exact⟨ab _,rfl,λ_=>rfl,(λx hx=>by cases hx)⟩
  .rw[bh]at h3;exact⟨h1,h3,(λh=>by cases h),(λy hy i hi=>by cases hy;exact h4 i om)⟩
 obtain⟨q1,q2,q3,q4⟩:=hrow;obtain⟨σ',o,v,b1,b2,b3,b4⟩:=r.rowB hB q1 q2 q3 q4;refine⟨σ',o,v,b1,b2,b3,?_⟩;rcases b4 with⟨h1|h1,h2⟩|⟨h1,h2⟩
 .subst h1 h2;exact⟨rfl,.inl ⟨by simp,.inl rfl⟩⟩
 .subst h1 h2;exact⟨rfl,.inl ⟨by simp,.inr rfl⟩⟩
 .subst h1 h2;refine⟨rfl,JI (f:=eI) (ro:=true) (λ_=>rfl) ?_ (by rw[bK];omega)⟩;rw[AH.get_new,if_pos rfl,Lf]
open Go.Am
theorem HX(hv:SlE h v xs)(hl:xs.length<2^40)
 (hf:∀x∈xs,∀h',Ext h.next h h'->C prg k ([.agg (eE x)]++caps) h' λr h''=>r=.bool (P x)/\Ext h'.next h' h'') :
 C prg 53 [v,.fn k caps] h λr h'=>r=.int .i64 (iB P xs 0)/\Ext h.next h h':=by
 refine Ny pf53 ?_;have hlen:=hv.len;rw[ah]at hlen;refine ai (aD (Mi0) ?_);refine ai (ai (aD (Mi1 hlen) ?_));refine ai (jB (λts h1=>iB P xs 0=-1/\Ext h.next h h1) (cA (fO (λn ts h1=>∃i,n=xs.length-i/\i<=xs.length/\Ext h.next h h1/\iB P (xs.drop i) i=iB P xs 0/\aR ts 0=v/\aR ts 1=.fn k caps/\aR ts 7=.int .i64 (xs.length:Nat)/\aR ts 8=.int .i64 (i:Nat)) ?_ (n:=xs.length) ⟨0,rfl,dx _,Nu,by rw[bT],Ii0,Ii0,Ii0,by simp only[am,aI,↓reduceIte,Nat.reduceEqDiff,Int.reduceEq,Nat.reduceAdd,Nat.reduceLeDiff,reduceCtorEq,bP];rfl⟩)) ?_)
 .rintro n ts h1 ⟨i,rfl,hi,ex,hF,e0,e1,e7,e8⟩;refine ai (aD (M2 e7 e8) ?_);refine ai (io (t:=decide (i<xs.length)) (Z1 @ma) (λq=>?_) λq=>?_)
  .have q:i<xs.length:=cE q;obtain⟨b,p,a1,r1,_,_⟩:=(hv.ext ex (ab _)).at (fR (f:=eE) q);refine bQ (ai (cA (ai (aD (M1 e8) ?_))));have hc:=hf _ (aO q) h1 ex;refine ai (bS (ku 5 (M6 e0 e1 e7 e8 a1 r1) rfl (Z6 e0 e1 e7 e8 a1 r1) (M6 e0 e1 e7 e8 a1 r1) (M6 e0 e1 e7 e8 a1 r1) (hc) λr h2 hq=>?_));obtain⟨rfl,ex2⟩:=hq;have ex3:=ex.trans (ex2.mono ex.nx);refine bM (M0) ?_;refine io (t:=P xs[i]) (Z0) (λq2=>?_) λq2=>?_
   .refine ai (aD (M0) ?_);refine bU ⟨.int .i64 (i:Nat),(by simp only[rs,rf53,am,aI,simprocAttr]<;>rfl),?_,ex3⟩;rw[<-hF,ji P q,if_pos q2]
   .have w1:IntKind.i64.wrap (((i:Nat):Int)+1)=((i+1:Nat):Int):=fx om om;refine bQ (aD (M2 e8 w1) ?_);refine⟨xs.length-(i+1),om,i+1,rfl,om,ex3,?_,Z1 e0,Z1 e1,Z1 e7,Z2 e8 w1⟩;rw[<-hF,ji P q,if_neg (by simp[q2])]
  .have q:¬i<xs.length:=of_decide_eq_false q;refine fp ⟨λ_=>⟨?_,ex⟩,λe=>absurd rfl e⟩;rw[<-hF,cL om];rfl
 .rintro ts h1 ⟨hF,ex⟩;refine ai (aD (M0) ?_);exact bU ⟨.int .i64 (-1),(by simp only[rs,rf53,am,aI,simprocAttr]<;>rfl),by rw[hF],ex⟩
theorem HW{xs:List (Int)}{P:Int->Bool}(hv:SlI h v xs)(hl:xs.length<2^40)
 (hf:∀x∈xs,∀h',Ext h.next h h'->C prg k ([.int .i64 x]++caps) h' λr h''=>r=.bool (P x)/\Ext h'.next h' h'') :
 C prg 42 [v,.fn k caps] h λr h'=>r=.int .i64 (iB P xs 0)/\Ext h.next h h':=by
 refine Ny pf42 ?_;have hlen:=hv.len;rw[ah]at hlen;refine ai (aD (Mi0) ?_);refine ai (ai (aD (Mi1 hlen) ?_));refine ai (jB (λts h1=>iB P xs 0=-1/\Ext h.next h h1) (cA (fO (λn ts h1=>∃i,n=xs.length-i/\i<=xs.length/\Ext h.next h h1/\iB P (xs.drop i) i=iB P xs 0/\aR ts 0=v/\aR ts 1=.fn k caps/\aR ts 7=.int .i64 (xs.length:Nat)/\aR ts 8=.int .i64 (i:Nat)) ?_ (n:=xs.length) ⟨0,rfl,dx _,Nu,by rw[bT],Ii0,Ii0,Ii0,by simp only[am,aI,↓reduceIte,Nat.reduceEqDiff,Int.reduceEq,Nat.reduceAdd,Nat.reduceLeDiff,reduceCtorEq,bP];rfl⟩)) ?_)
 .rintro n ts h1 ⟨i,rfl,hi,ex,hF,e0,e1,e7,e8⟩;refine ai (aD (M2 e7 e8) ?_);refine ai (io (t:=decide (i<xs.length)) (Z1 @ma) (λq=>?_) λq=>?_)
  .have q:i<xs.length:=cE q;obtain⟨b,p,a1,r1,_,_⟩:=(hv.ext ex (ab _)).at (fR (f:=eI) q);refine bQ (ai (cA (ai (aD (M1 e8) ?_))));have hc:=hf _ (aO q) h1 ex;refine ai (bS (ku 5 (by simp only[am,aI,simprocAttr,e0,e1,e7,e8,a1,r1,iw,eI]<;>rfl) rfl (by simp only[am,aI,simprocAttr,e0,e1,e7,e8,a1,r1,iw,eI]) (by simp only[am,aI,simprocAttr,e0,e1,e7,e8,a1,r1,iw,eI]<;>rfl) (by simp only[am,aI,simprocAttr,e0,e1,e7,e8,a1,r1,iw,eI]<;>rfl) (hc) λr h2 hq=>?_));obtain⟨rfl,ex2⟩:=hq;have ex3:=ex.trans (ex2.mono ex.nx);refine bM (M0) ?_;refine io (t:=P xs[i]) (Z0) (λq2=>?_) λq2=>?_
   .refine ai (aD (M0) ?_);refine bU ⟨.int .i64 (i:Nat),(by simp only[rs,rf42,am,aI,simprocAttr]<;>rfl),?_,ex3⟩;rw[<-hF,ji P q,if_pos q2]
   .have w1:IntKind.i64.wrap (((i:Nat):Int)+1)=((i+1:Nat):Int):=fx om om;refine bQ (aD (M2 e8 w1) ?_);refine⟨xs.length-(i+1),om,i+1,rfl,om,ex3,?_,Z1 e0,Z1 e1,Z1 e7,Z2 e8 w1⟩;rw[<-hF,ji P q,if_neg (by simp[q2])]
  .have q:¬i<xs.length:=of_decide_eq_false q;refine fp ⟨λ_=>⟨?_,ex⟩,λe=>absurd rfl e⟩;rw[<-hF,cL om];rfl
 .rintro ts h1 ⟨hF,ex⟩;refine ai (aD (M0) ?_);exact bU ⟨.int .i64 (-1),(by simp only[rs,rf42,am,aI,simprocAttr]<;>rfl),by rw[hF],ex⟩
theorem xc(hv:SlE h v xs)(hl:xs.length<2^40)
 (hf:∀x∈xs,∀h',Ext h.next h h'->C prg k ([.agg (eE x)]++caps) h' λr h''=>r=.bool (P x)/\Ext h'.next h' h'') :
 C prg 37 [v,.fn k caps] h λr h'=>r=.bool (xs.any P)/\Ext h.next h h':=by
 refine Ny pf37 ?_;refine ai (aD (Mi0) ?_);refine ai (bS (bE 2 (Mi0) rfl (Zi0) (Mi0) (HX hv hl hf) λr h2 hq=>?_));obtain⟨rfl,ex⟩:=hq;have hb:decide ((0:Int)<=iB P xs 0)=xs.any P:=by
  have:=(oT P xs 0).2;cases hq:xs.any P with
  |true=>rw[aK];rw[hq]at this;simp at this;omega
  |false=>rw[aZ];have:=this.2 hq;omega
 refine bM (M1 hb) ?_;exact bU ⟨_,(by simp only[rs,rf37,am,aI,simprocAttr]<;>rfl),rfl,ex⟩
theorem tj{xs:List (Int)}(hv:SlI h v xs)(hl:xs.length<2^40) :
 C prg 39 [v,.int .i64 y] h λr h'=>r=.int .i64 (iB (y==·) xs 0)/\Ext h.next h h':=by
 refine Ny pf39 ?_;have hlen:=hv.len;rw[ah]at hlen;have ex0:Ext h.next h h:=Nu;refine ai (aD (Mi0) ?_);refine ai (ai (aD (Mi1 hlen) ?_));refine ai (jB (λts h1=>iB (y==·) xs 0=-1/\h1=h) (cA (fO (λn ts h1=>∃i,n=xs.length-i/\i<=xs.length/\h1=h/\iB (y==·) (xs.drop i) i=iB (y==·) xs 0/\aR ts 0=v/\aR ts 1=.int .i64 y/\aR ts 7=.int .i64 (xs.length:Nat)/\aR ts 8=.int .i64 (i:Nat)) ?_ (n:=xs.length) ⟨0,rfl,dx _,rfl,by rw[bT],Ii0,Ii0,Ii0,by simp only[am,aI,↓reduceIte,Nat.reduceEqDiff,Int.reduceEq,Nat.reduceAdd,Nat.reduceLeDiff,reduceCtorEq,bP];rfl⟩)) ?_)
 .rintro n ts h1 ⟨i,rfl,hi,rfl,hF,e0,ek,e7,e8⟩;refine ai (aD (M2 e7 e8) ?_);refine ai (io (t:=decide (i<xs.length)) (Z1 @ma) (λq=>?_) λq=>?_)
  .have q:i<xs.length:=cE q;obtain⟨b,p,a1,r1,_,_⟩:=(hv.ext ex0 (ab _)).at (fR (f:=eI) q);refine bQ (ai (cA (ai (aD (M1 e8) ?_))));have ceq:decide (y=xs[i])=(y==xs[i]):=rfl;refine ai (aD (by simp only[am,aI,simprocAttr,e0,ek,e7,e8,a1,r1,ceq,eI]<;>rfl) ?_);refine io (t:=y==xs[i]) (Z0) (λq2=>?_) λq2=>?_
   .refine ai (aD (M0) ?_);refine bU ⟨.int .i64 (i:Nat),(by simp only[rs,rf39,am,aI,simprocAttr]<;>rfl),?_,ex0⟩;rw[<-hF,ji _ q,if_pos q2]
   .have w1:IntKind.i64.wrap (((i:Nat):Int)+1)=((i+1:Nat):Int):=fx om om;refine bQ (aD (M2 e8 w1) ?_);refine⟨xs.length-(i+1),om,i+1,rfl,om,rfl,?_,Z1 e0,Z1 ek,Z1 e7,Z2 e8 w1⟩;rw[<-hF,ji _ q,if_neg (by simp[q2])]
  .have q:¬i<xs.length:=of_decide_eq_false q;refine fp ⟨λ_=>⟨?_,rfl⟩,λe=>absurd rfl e⟩;rw[<-hF,cL om];rfl
 .rintro ts h1 ⟨hF,rfl⟩;refine ai (aD (M0) ?_);exact bU ⟨.int .i64 (-1),(by simp only[rs,rf39,am,aI,simprocAttr]<;>rfl),by rw[hF],ex0⟩
theorem mI{xs:List (Int)}(hv:SlI h v xs)(hl:xs.length<2^40) :
 C prg 22 [v,.int .i64 y] h λr h'=>r=.bool (xs.any (y==·))/\Ext h.next h h':=by
 refine Ny pf22 ?_;refine ai (aD (Mi0) ?_);have ex0:Ext h.next h h:=Nu;have hc:=tj (y:=y) hv hl;refine ai (bS (bE 2 (Mi0) rfl (Zi0) (Mi0) (hc) λr h2 hq=>?_));obtain⟨rfl,ex⟩:=hq;have hb:decide ((0:Int)<=iB (y==·) xs 0)=xs.any (y==·):=by
  have:=(oT (y==·) xs 0).2;cases hq:xs.any (y==·)with
  |true=>rw[aK];rw[hq]at this;simp at this;omega
  |false=>rw[aZ];have:=this.2 hq;omega
 refine bM (M1 hb) ?_;exact bU ⟨_,(by simp only[rs,rf22,am,aI,simprocAttr]<;>rfl),rfl,ex0.trans (ex.mono ex0.nx)⟩
open Go.Am
theorem Hb{xs:List Int}:(xs.flatMap eI).all AV.one=true:=by
 rw[bZ];intro x hx;obtain⟨y,_,hy⟩:=bH.1 hx;simp only[eI,ao,bd,or_false]at hy;subst hy;rfl
theorem Hc:(xs.flatMap eE).all AV.one=true:=by
 rw[bZ];intro x hx;obtain⟨y,_,hy⟩:=bH.1 hx;simp only[eE,ao,bd,or_false]at hy;rcases hy with rfl|rfl<;>rfl
theorem Dq{xs:List (List AV)}(hv:Sl h e v xs):∃b,iL .eql .nls v .nils=some (.bool b)/\(b=true->v=.nils/\xs=[])/\(b=false->v≠.nils):=by
 rcases hv with⟨rfl,rfl|rfl⟩|⟨b,o,c,cs,ro,rfl,hg,hc,hle,hx⟩
 .exact⟨true,rfl,λ_=>⟨rfl,rfl⟩,λq=>by cases q⟩
 .exact⟨false,rfl,λq=>(by cases q),λ_=>(by simp)⟩
 .exact⟨false,rfl,λq=>(by cases q),λ_=>(by simp)⟩
theorem DF{bytes:Nat}{xs:List (List AV)}(hv:Sl h e v xs)(ho:xs.flatten.all AV.one=true)(hl:xs.length*bytes<bq)(hl2:xs.length<bq) :
 ∃r h',iX (h.new (.cells [] e false)) e bytes (.sl h.next 0 0 0) v=some (r,h')/\IsSl h' e h.next r xs.flatten/\Ext h.next h h'/\r≠.nils:=by
 have hv':=hv.ext (Nt (o:=.cells [] e false) (ab _)) (ab _);obtain⟨s1,s2⟩:=hv'.src;have g0:(h.new (.cells [] e false)).get h.next=some (.cells [] e false):=by rw[AH.get_new,if_pos rfl]
 by_cases hz:xs.length=0
 .refine⟨.sl h.next 0 0 0,_,?_,.inr ⟨h.next,0,ab _,rfl,by rw[g0,bF.1 hz];rfl,by rw[s2,hz]⟩,Nt (ab _),by simp⟩;simp only[iX,s1,ho,if_true,hz]
 .refine⟨.sl (h.next+1) 0 xs.length xs.length,((h.new (.cells [] e false)).put h.next .dead).new (.cells xs.flatten e false),?_,.inr ⟨h.next+1,xs.length,om,rfl,by rw[AH.get_new,if_pos (by simp)],s2⟩,(Nt (ab _)).trans ((Ext.put (ab _)).trans (Nt (by simp))),by simp⟩;simp only[iX,s1,ho,if_true,if_neg hz,g0,bI g0];rw[cq,if_neg om,if_pos ⟨hl,hl2⟩];simp
theorem oW{xs:List (Int)}(hv:SlI h v xs)(hl:xs.length<2^34) :
 C prg 27 [v] h λr h'=>IsSl h' 1 h.next r (xs.flatMap eI)/\Ext h.next h h'/\(r=.nils↔v=.nils):=by
 refine Ny pf27 ?_;refine ai (aD (Mi0) ?_);obtain⟨b,hb,k1,k2⟩:=Dq hv;refine ai (ai (aD (Mi1 hb) ?_));refine io (t:=b) (Z0) (λq=>?_) λq=>?_
 .obtain⟨rfl,hx⟩:=k1 q;rw[List.map_eq_nil_iff]at hx;subst hx;refine ai (aD (M0) ?_);exact bU ⟨.nils,(by simp only[rs,rf27,am,aI,simprocAttr]<;>rfl),.inl ⟨rfl,rfl⟩,Nu,by simp⟩
 .have hvv:=k2 q;refine bQ ?_;obtain⟨r,h',a1,a2,a3,a4⟩:=DF (bytes:=8) hv Hb (by rw[ah];unfold bq;omega) (by rw[ah];unfold bq;omega);refine ai (aD (Mi1 a1) ?_);exact bU ⟨r,(by simp only[rs,rf27,am,aI,simprocAttr]<;>rfl),a2,a3,by simp[a4,hvv]⟩
theorem Fz(hv:SlE h v xs)(hl:xs.length<2^34) :
 C prg 21 [v] h λr h'=>IsSl h' 2 h.next r (xs.flatMap eE)/\Ext h.next h h'/\(r=.nils↔v=.nils):=by
 refine Ny pf21 ?_;refine ai (aD (Mi0) ?_);obtain⟨b,hb,k1,k2⟩:=Dq hv;refine ai (ai (aD (Mi1 hb) ?_));refine io (t:=b) (Z0) (λq=>?_) λq=>?_
 .obtain⟨rfl,hx⟩:=k1 q;rw[List.map_eq_nil_iff]at hx;subst hx;refine ai (aD (M0) ?_);exact bU ⟨.nils,(by simp only[rs,rf21,am,aI,simprocAttr]<;>rfl),.inl ⟨rfl,rfl⟩,Nu,by simp⟩
 .have hvv:=k2 q;refine bQ ?_;obtain⟨r,h',a1,a2,a3,a4⟩:=DF (bytes:=16) hv Hc (by rw[ah];unfold bq;omega) (by rw[ah];unfold bq;omega);refine ai (aD (Mi1 a1) ?_);exact bU ⟨r,(by simp only[rs,rf21,am,aI,simprocAttr]<;>rfl),a2,a3,by simp[a4,hvv]⟩
theorem eqto(xs ys:List Int)(hl:xs.length=ys.length):∀k,k<=xs.length->(xs.take k=ys.take k)->(∀(hk:k<xs.length),xs[k]=ys[k]'om->xs.take (k+1)=ys.take (k+1)):=by
 intro k _ h hk e;rw[bu hk,bu om,h,e]
theorem wP{w:AV}{xs ys:List Int}(hv:SlI h v xs)(hw:SlI h w ys)(hl:xs.length<2^40)(hl2:ys.length<2^40) :
 C prg 29 [v,w] h λr h'=>r=.bool (xs==ys)/\h'=h:=by
 refine Ny pf29 ?_;have e1:=hv.len;have e2:=hw.len;rw[ah]at e1 e2;refine ai (aD (Mi0) ?_);refine ai (ai (aD (Mi2 e1 e2) ?_));refine io (t:=!decide (((xs.length:Nat):Int)=((ys.length:Nat):Int))) (Z0) (λq=>?_) λq=>?_
 .have q:xs.length≠ys.length:=by simp at q;omega
  refine ai (aD (M0) ?_);exact bU ⟨.bool false,(by simp only[rs,rf29,am,aI,simprocAttr]<;>rfl),by rw[show(xs==ys)=false from by rw[beq_eq_false_iff_ne];intro hh;exact q (congrArg _ hh)],rfl⟩
 .have q:xs.length=ys.length:=by simp at q;omega
  refine bQ (ai (ai (aD (Mi1 e1) ?_)));refine gA (α:=Unit) (N:=xs.length) (λ_ _=>[(0,v),(1,w)]) (λk _ h1=>h1=h/\xs.take k=ys.take k) () (λ_ _=>rfl) om (Oi0) ⟨rfl,rfl⟩ ?_ ?_
  .rintro k _ ts h1 hk ⟨rfl,hp⟩ ⟨ei,en,e0,e1',-⟩;simp only at ei en e0 e1';obtain⟨b1,p1,a1,r1,_⟩:=hv.at1 (fR (f:=eI) hk);obtain⟨b2,p2,a2,r2,_⟩:=hw.at1 (fR (f:=eI) (show k<ys.length by omega));refine ai (aD (M1 ei) ?_);refine ai (aD (M6 e0 e1' a1 r1 a2 r2) ?_);refine io (t:=!decide (xs[k]=ys[k])) (Z0) (λq2=>?_) λq2=>?_
   .have q2:xs[k]≠ys[k]:=by simpa using q2
    refine ai (aD (M0) ?_);refine bU ⟨.bool false,(by simp only[rs,rf29,am,aI,simprocAttr]<;>rfl),?_,rfl⟩;have:(xs==ys)=false:=by
     rw[beq_eq_false_iff_ne];intro hh;subst hh;exact q2 rfl
    rw[this]
   .have q2:xs[k]=ys[k]:=by simpa using q2
    refine bQ ⟨(),⟨rfl,eqto xs ys q k om hp hk q2⟩,O4 ei en e0 e1'⟩
  .rintro _ ts h1 ⟨rfl,hp⟩ ⟨e0,e1',-⟩;refine ai (aD (M0) ?_);refine bU ⟨.bool true,(by simp only[rs,rf29,am,aI,simprocAttr]<;>rfl),?_,rfl⟩;rw[cZ,q,cZ]at hp;subst hp;simp
open Go.Am
abbrev SlN(h:AH)(v:AV)(l:List Nat):Prop:=SlI h v (l.map λn=>((n:Nat):Int))
def nC(l:List Nat):List AV:=(l.map λn=>((n:Nat):Int)).flatMap eI
theorem eJ(l:List Nat):(nC l).length=l.length:=by
 unfold nC;rw[dN (f:=eI) (e:=1) (λ_=>rfl),ah];omega
theorem lS(a b:List Nat):nC (a++b)=nC a++nC b:=by
 unfold nC;rw[bR,bL]
theorem et{l:List Nat}(hv:IsSl h 1 lo v (nC l)):SlN h v l:=Nq om (λ_=>rfl) hv
def LL(h:AH)(lo:Nat)(a:AV)(xss:List (List Nat)):Prop :=
 ∃vs:List AV,IsSl h 1 lo a vs/\vs.length=xss.length/\∀(i:Nat) (v:AV) (xs:List Nat),vs[i]?=some v->xss[i]?=some xs->IsSl h 1 lo v (nC xs)/\∀b n b' n',v=.sl b 0 n n->a=.sl b' 0 n' n'->b≠b'
theorem LL.ext{h h':AH}{lo hi:Nat}{a:AV}{xss:List (List Nat)}(hl:LL h lo a xss)(hx:Ext hi h h')(hn:h.next<=hi):LL h' lo a xss:=by
 obtain⟨vs,h1,h2,h3⟩:=hl;exact⟨vs,h1.ext hx hn,h2,λi v xs q1 q2=>⟨(h3 i v xs q1 q2).1.ext hx hn,(h3 i v xs q1 q2).2⟩⟩
theorem LL.push{x:Nat}{xs:List Nat}(hl:LL h lo a xss)(hlo:lo<=h.next)(hv:IsSl h 1 lo v (nC xs))(hx:h.get x=some (.cells [v] 1 false))(hxl:lo<=x)(hxa:∀b n,a=.sl b 0 n n->b≠x)
 (hva:∀b n b' n',v=.sl b 0 n n->a=.sl b' 0 n' n'->b≠b') (hb:(xss.length+1)*24<bq) :
 ∃a' h',iX h 1 24 a (.sl x 0 1 1)=some (a',h')/\LL h' lo a' (xss++[xs])/\Ext lo h h'/\h'.next=h.next+1/\(∀c,c<h.next->(∀b n,a=.sl b 0 n n->c≠b)->h'.get c=h.get c)/\∀c n,a'=.sl c 0 n n->c=h.next:=by
 obtain⟨vs,h1,h2,h3⟩:=hl;obtain⟨a',h',q1,q2,q3,q4,q5,q6,_⟩:=h1.app (bytes:=24) hlo om hx hxl hxa rfl (by simp[hv.cells.2]) (by rw[lG,h2];exact hb) (by rw[lG,h2];unfold bq at *;omega);have keep:∀(w:AV) (cs:List AV),IsSl h 1 lo w cs->(∀b n b' n',w=.sl b 0 n n->a=.sl b' 0 n' n'->b≠b')->IsSl h' 1 lo w cs/\∀b n b' n',w=.sl b 0 n n->a'=.sl b' 0 n' n'->b≠b':=λw cs hw hn=>by
  refine⟨hw.cong λb n e _=>q6 b (hw.lt e) λb' n' e'=>hn b n b' n' e e',λb n b' n' e e'=>?_⟩;have:=hw.lt e;rw[q4]at e';cases e';omega
 refine⟨a',h',q1,⟨vs++[v],q2,by rw[aB,aB,h2];rfl,λi w ys e1 e2=>?_⟩,q3,q5,q6,λc n e=>by rw[q4]at e;cases e;rfl⟩;by_cases hi:i<vs.length
 .rw[bA hi]at e1;rw[bA om]at e2;obtain⟨k1,k2⟩:=h3 i w ys e1 e2;exact keep w _ k1 k2
 .have hil:i<(vs++[v]).length:=(aF.1 e1).1;rw[aB,ar,aU]at hil;have hi':i=vs.length:=om;subst hi';rw[aV om,dP]at e1;rw[h2,aV om,dP]at e2;cases e1;cases e2;exact keep v _ hv hva
theorem LL.at(hl:LL h lo a xss){i:Nat}(hi:i<xss.length):∃b o v,lz 1 a (.int .i64 (i:Nat))=some (.ptr b o)/\aA h b o 1=some [v]/\IsSl h 1 lo v (nC xss[i])/\b<h.next:=by
 obtain⟨vs,h1,h2,h3⟩:=hl;have hs:Sl h 1 a (vs.map λx=>[x]):=by
  rcases h1 with⟨rfl,rfl⟩|⟨b,n,_,rfl,hg,hn⟩
  .exact .inl ⟨rfl,.inl rfl⟩
  .exact Sl.row hg om (ab _)
 have hv:vs[i]?=some (vs[i]'om):=ae _;obtain⟨b,o,q1,q2,q3⟩:=hs.at1 (i:=i) (y:=vs[i]'om) (by rw[aG,hv];rfl);exact⟨b,o,_,q1,q2,(h3 i _ _ hv (ae hi)).1,q3⟩
theorem LL.len(hl:LL h lo a xss):ly a=some (.int .i64 (xss.length:Nat)):=by
 obtain⟨vs,h1,h2,h3⟩:=hl;rcases h1 with⟨rfl,rfl⟩|⟨b,n,_,rfl,hg,hn⟩
 .rw[<-h2];rfl
 .rw[<-h2,hn,bh];rfl
theorem LL.cong{h h':AH}{lo:Nat}{a:AV}{xss:List (List Nat)}(hl:LL h lo a xss)(hk:∀c,lo<=c->c<h.next->h'.get c=h.get c):LL h' lo a xss:=by
 obtain⟨vs,h1,h2,h3⟩:=hl;exact⟨vs,h1.cong λb n e hb=>hk b hb (h1.lt e),h2,λi v xs q1 q2=>⟨(h3 i v xs q1 q2).1.cong λb n e hb=>hk b hb ((h3 i v xs q1 q2).1.lt e),(h3 i v xs q1 q2).2⟩⟩
theorem LL.lt{h:AH}{lo:Nat}{a:AV}{xss:List (List Nat)}(hl:LL h lo a xss){b n:Nat}(e:a=.sl b 0 n n):b<h.next:=by
 obtain⟨vs,h1,_⟩:=hl;exact h1.lt e
open Go.Am
set_option maxRecDepth 8000 in
theorem BF:C prg 64 [.int .u64 0] h λv h'=>v=.int .i64 0/\h'=h:=by
 refine Ny pf64 ?_;refine ai (aD (Ji0) ?_);have c1:decide ((4294967296:Int)<=0)=false:=by decide
 have c2:decide ((65536:Int)<=0)=false:=by decide
 have c3:decide ((256:Int)<=0)=false:=by decide
 refine ai (ai (aD (Ji1 c1) ?_));refine dR (I1 c1) (bQ ?_);refine ai (ai (aD (Ji1 c2) ?_));refine dR (I1 c2) (bQ ?_);refine ai (ai (aD (Ji1 c3) ?_));refine dR (I1 c3) (bQ ?_);have w1:IntKind.u8.wrap 0=0:=by decide
 have w2:IntKind.i64.wrap 0=0:=by decide
 have w3:IntKind.i64.wrap (0+0)=0:=by decide
 have hi:zW (.str [0,1,2,2,3,3,3,3,4,4,4,4,4,4,4,4,5,5,5,5,5,5,5,5,5,5,5,5,5,5,5,5,6,6,6,6,6,6,6,6,6,6,6,6,6,6,6,6,6,6,6,6,6,6,6,6,6,6,6,6,6,6,6,6,7,7,7,7,7,7,7,7,7,7,7,7,7,7,7,7,7,7,7,7,7,7,7,7,7,7,7,7,7,7,7,7,7,7,7,7,7,7,7,7,7,7,7,7,7,7,7,7,7,7,7,7,7,7,7,7,7,7,7,7,7,7,7,7,8,8,8,8,8,8,8,8,8,8,8,8,8,8,8,8,8,8,8,8,8,8,8,8,8,8,8,8,8,8,8,8,8,8,8,8,8,8,8,8,8,8,8,8,8,8,8,8,8,8,8,8,8,8,8,8,8,8,8,8,8,8,8,8,8,8,8,8,8,8,8,8,8,8,8,8,8,8,8,8,8,8,8,8,8,8,8,8,8,8,8,8,8,8,8,8,8,8,8,8,8,8,8,8,8,8,8,8,8,8,8,8,8,8,8,8,8,8,8,8,8,8,8,8,8,8,8,8]) (.int .u8 0)=some (.int .u8 0):=rfl;refine ai (bW (λts h5=>h5=h/\aR ts 2=.int .i64 0) ?_ λts h5 ⟨eh,e2⟩=>bU ⟨.int .i64 0,(by simp only[rs,rf64,am,aI,simprocAttr,e2]<;>rfl),rfl,eh⟩);simp only[am,aI,simprocAttr,bP,w1,hi,w2,w3]
theorem rU:C prg 41 [.int .u64 0] h λv h'=>v=.int .i64 0/\h'=h:=by
 refine Ny pf41 ?_;refine ai (aD (Ji0) ?_);refine ai (dR rfl (bQ ?_));refine ai (bS (bE 1 (Mi0) rfl (Zi0) (Mi0) (BF) λv h' hq=>?_));obtain⟨rfl,rfl⟩:=hq;refine bM (M0) ?_;exact bU ⟨_,(by simp only[rs,rf41,am,aI,simprocAttr]<;>rfl),rfl,rfl⟩
end Go.Proofs.YtlolkmcdimgplaaGreat
