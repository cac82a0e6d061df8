/- The functions in the clean machine's form -/
import Derived.Test.YtpeemonpdlifbaaUTAB
import Derived.Test.YtpeemonpdlifbaaUAmK
import Derived.Test.YtpeemonpdlifbaaUAmEnd
import Derived.Test.YtpeemonpdlifbaaUAmR
import Derived.Test.YtpeemonpdlifbaaUAmF
import Derived.Test.YtpeemonpdlifbaaUAmL
set_option linter.all false
namespace Go.Proofs.Ytpeemonpdlifbaa
open Go.Am
set_option maxRecDepth 100000
def mks:List (Nat×RF):=[(83,qO),(34,pN 35)]
def tab:List (Nat×RF):=[(4,rf4),(6,rf6),(7,rf7),(8,rf8),(9,rf9),(10,rf10),(11,rf11),(12,rf12),(15,rf15),(16,rf16),(17,rf17),(18,rf18),(19,rf19),(20,rf20),(21,rf21),(22,rf22),(23,rf23),(24,rf24),(25,rf25),(26,rf26),(27,rf27),(29,rf29),(30,rf30),(31,rf31),(32,rf32),(33,rf33),(34,rf34),(36,rf36),(37,rf37),(38,rf38),(39,rf39),(40,rf40),(41,rf41),(42,rf42),(43,rf43),(44,rf44),(45,rf45),(47,rf47),(48,rf48),(49,rf49),(50,rf50),(51,rf51),(52,rf52),(53,rf53),(54,rf54),(55,rf55),(56,rf56),(57,rf57),(58,rf58),(59,rf59),(60,rf60),(61,rf61),(62,rf62),(63,rf63),(64,rf64),(65,rf65),(74,rf74),(75,rf75),(76,rf76),(77,rf77),(78,rf78),(79,rf79),(80,rf80),(81,rf81),(82,rf82),(83,rf83),(84,rf84),(90,rf90),(91,rf91),(92,rf92),(93,rf93),(95,rf95)]
noncomputable def prg:RP:=λf=>lkp tab f (yK Try.prog mks f)
theorem pf4:prg 4=some rf4:=rfl
theorem pf6:prg 6=some rf6:=rfl
theorem pf7:prg 7=some rf7:=rfl
theorem pf8:prg 8=some rf8:=rfl
theorem pf9:prg 9=some rf9:=rfl
theorem pf10:prg 10=some rf10:=rfl
theorem pf11:prg 11=some rf11:=rfl
theorem pf12:prg 12=some rf12:=rfl
theorem pf15:prg 15=some rf15:=rfl
theorem pf16:prg 16=some rf16:=rfl
theorem pf17:prg 17=some rf17:=rfl
theorem pf18:prg 18=some rf18:=rfl
theorem pf19:prg 19=some rf19:=rfl
theorem pf20:prg 20=some rf20:=rfl
theorem pf21:prg 21=some rf21:=rfl
theorem pf22:prg 22=some rf22:=rfl
theorem pf23:prg 23=some rf23:=rfl
theorem pf24:prg 24=some rf24:=rfl
theorem pf25:prg 25=some rf25:=rfl
theorem pf26:prg 26=some rf26:=rfl
theorem pf27:prg 27=some rf27:=rfl
theorem pf29:prg 29=some rf29:=rfl
theorem pf30:prg 30=some rf30:=rfl
theorem pf31:prg 31=some rf31:=rfl
theorem pf32:prg 32=some rf32:=rfl
theorem pf33:prg 33=some rf33:=rfl
theorem pf34:prg 34=some rf34:=rfl
theorem pf36:prg 36=some rf36:=rfl
theorem pf37:prg 37=some rf37:=rfl
theorem pf38:prg 38=some rf38:=rfl
theorem pf39:prg 39=some rf39:=rfl
theorem pf40:prg 40=some rf40:=rfl
theorem pf41:prg 41=some rf41:=rfl
theorem pf42:prg 42=some rf42:=rfl
theorem pf43:prg 43=some rf43:=rfl
theorem pf44:prg 44=some rf44:=rfl
theorem pf45:prg 45=some rf45:=rfl
theorem pf47:prg 47=some rf47:=rfl
theorem pf48:prg 48=some rf48:=rfl
theorem pf49:prg 49=some rf49:=rfl
theorem pf50:prg 50=some rf50:=rfl
theorem pf51:prg 51=some rf51:=rfl
theorem pf52:prg 52=some rf52:=rfl
theorem pf53:prg 53=some rf53:=rfl
theorem pf54:prg 54=some rf54:=rfl
theorem pf55:prg 55=some rf55:=rfl
theorem pf56:prg 56=some rf56:=rfl
theorem pf57:prg 57=some rf57:=rfl
theorem pf58:prg 58=some rf58:=rfl
theorem pf59:prg 59=some rf59:=rfl
theorem pf60:prg 60=some rf60:=rfl
theorem pf61:prg 61=some rf61:=rfl
theorem pf62:prg 62=some rf62:=rfl
theorem pf63:prg 63=some rf63:=rfl
theorem pf64:prg 64=some rf64:=rfl
theorem pf65:prg 65=some rf65:=rfl
theorem pf74:prg 74=some rf74:=rfl
theorem pf75:prg 75=some rf75:=rfl
theorem pf76:prg 76=some rf76:=rfl
theorem pf77:prg 77=some rf77:=rfl
theorem pf78:prg 78=some rf78:=rfl
theorem pf79:prg 79=some rf79:=rfl
theorem pf80:prg 80=some rf80:=rfl
theorem pf81:prg 81=some rf81:=rfl
theorem pf82:prg 82=some rf82:=rfl
theorem pf83:prg 83=some rf83:=rfl
theorem pf84:prg 84=some rf84:=rfl
theorem pf90:prg 90=some rf90:=rfl
theorem pf91:prg 91=some rf91:=rfl
theorem pf92:prg 92=some rf92:=rfl
theorem pf93:prg 93=some rf93:=rfl
theorem pf95:prg 95=some rf95:=rfl
theorem ps83:prg (83+lX)=some qO:=rfl
theorem ps34:prg (34+lX)=some (pN 35):=rfl
theorem det:Det (uL Try.prog mks) prg:=Ik (by simp only[mks,vS]; exact⟨rfl,rfl,λ_ h=>by cases h⟩) rfl ⟨cf4,cf6,cf7,cf8,cf9,cf10,cf11,cf12,cf15,cf16,cf17,cf18,cf19,cf20,cf21,cf22,cf23,cf24,cf25,cf26,cf27,cf29,cf30,cf31,cf32,cf33,cf34,cf36,cf37,cf38,cf39,cf40,cf41,cf42,cf43,cf44,cf45,cf47,cf48,cf49,cf50,cf51,cf52,cf53,cf54,cf55,cf56,cf57,cf58,cf59,cf60,cf61,cf62,cf63,cf64,cf65,cf74,cf75,cf76,cf77,cf78,cf79,cf80,cf81,cf82,cf83,cf84,cf90,cf91,cf92,cf93,cf95,trivial⟩
open Go.Am
open Go.RowKit
theorem AB (xs:List Int):xs.flatMap eI=xs.map (AV.int .i64):=by
 induction xs with
 | nil=>rfl
 | cons x r ih=>rw[fH,ih]; rfl
theorem uD {α:Type}{f:α→List AV}{h:AH}{e b n:Nat}{xs:List α}{ro:Bool} (hf:∀ x,(f x).length=e) (hg:h.get b=some (.cells (xs.flatMap f) e ro)) (hn:n=xs.length):Sl h e (.sl b 0 n n) (xs.map f):=by
 subst hn
 have hl:=fN hf xs
 refine .inr ⟨b,0,xs.length,_,ro,by rw[ah],hg,by rw[ah]; exact ab _,by rw[ah,hl]; omega,λi x hx=>?_⟩
 rw[aw] at hx
 obtain⟨y,hy,rfl⟩:=aB.1 hx
 rw[bM]
 exact vp hf xs i y hy
def nD:List Int→List (Int×Int)
 | x::y::r=>(x,y)::nD r
 | _=>[]
theorem rT:∀ (n:Nat) (ns:List Int),ns.length=n*2→(nD ns).flatMap eE=ns.map (AV.int .i64)∧(nD ns).length=n
 | 0,[],_=>⟨rfl,rfl⟩
 | n+1,x::y::r,h=>by
   have ih:=rT n r (by simp only[au] at h; omega)
   refine⟨?_,?_⟩
   ·simp only[nD,fH,eE,bB,aE,bg]
    rw[← ih.1]
   ·simp only[nD,au,ih.2]
 | 0,_::_,h=>by simp at h
 | n+1,[],h=>by simp at h
 | n+1,[x],h=>by simp only[au,aQ] at h; omega
theorem rowE1 {K:Bs}{σ:Sg}{h:AH}{w:World} (r:Rep K σ h w) (hB:K.B=w.heap.size) {k:IntKind}{e:Nat} (he:0<e) {a:Option Addr}{len cap:Nat}{zs:List Int} (hr:IsRowE k e w a len cap zs) (hspot:∀ x,a=some x→x.spot=none) :
 ∃ σ' o v,σ.le σ'∧Rep K σ' (h.new o) w∧VR σ' v (.slice a len cap)∧((v=.nils∧len=0)∨(v=.sl h.next 0 len len∧o=.cells ((zs.take (len*e)).map (AV.int k)) e true∧(zs.take (len*e)).length=len*e)):=by
 rcases hr with ⟨rfl,rfl,rfl,rfl⟩|⟨x,rfl,h1,h2,h3,h4,h5⟩
 ·obtain⟨σ',q1,q2⟩:=r.dummy
  exact⟨σ',_,.nils,q1,q2,by simp [VR],.inl ⟨rfl,rfl⟩⟩
 ·have hsp:=hspot x rfl
  have hadd:∀ j,x.add j=⟨x.block,x.off+j,none⟩:=by
   intro j
   obtain⟨xb,xo,xs⟩:=x
   simp only at hsp
   subst hsp
   exact Addr.add_lit _ _ _
  have hle:len*e≤cap*e:=gh e h1
  have hl:(zs.take (len*e)).length=len*e:=by rw[bF]; omega
  cases zs with
  | nil =>
    simp only[aQ] at h3
    have e2:cap=0:=by
     rcases Nat.eq_zero_or_pos cap with q|q
     ·exact q
     ·have:=Nat.mul_pos q he; omega
    have e1:len=0:=om
    subst e1
    subst e2
    refine⟨σ.add h.next ⟨x.block,x.off,e,0,0⟩,.cells [] e true,.sl h.next 0 0 0,Sg.le_add r.fresh,r.came [] e _ rfl (.inl rfl),?_,.inr ⟨rfl,by rw[mZ]; rfl,hl⟩⟩
    simp only[VR]
    exact⟨_,x.off,0,Sg.add_at _ _ _,by obtain⟨xb,xo,xs⟩:=x; simp only at hsp; subst hsp; rfl,.inl trivial,ab _,ab _,.inl rfl⟩
  | cons z zs =>
    have h40:=h4 0 (by simp)
    rw[hadd] at h40
    unfold World.cell? at h40
    simp only at h40
    split at h40
    ·rename_i C t fr hC
     have hall:∀ i,i<(z::zs).length→C[x.off+i]?=some (.int k ((z::zs).getD i 0)):=by
      intro i hi
      have:=h4 i hi
      rw[hadd] at this
      simpa [World.cell?,hC] using this
     have hN:x.off+cap*e≤C.size:=by
      have:=hall (cap*e-1) (by simp at h3 ⊢; omega)
      have hlt:=(cj.1 this).1
      simp at h3
      omega
     have hblk:x.block<w.heap.size:=(cj.1 hC).1
     refine⟨σ.add h.next ⟨x.block,x.off,e,C.size,t⟩,.cells (((z::zs).take (len*e)).map (AV.int k)) e true,.sl h.next 0 len len,Sg.le_add r.fresh,r.came _ e _ rfl (.inr ⟨by rw[hB]; exact hblk,fun τ _=>?_⟩),?_,.inr ⟨rfl,rfl,hl⟩⟩
     ·refine⟨C,t,fr,hC,rfl,rfl,?_,λj y hy=>?_,λq=>by (cases q),rfl⟩
      ·show x.off+_≤C.size
       rw[ah,hl]; omega
      ·have hj:j<len*e:=by
        rcases bO j (len*e) with q|q
        ·exact q
        ·rw[cq (by rw[ah,hl]; exact q)] at hy; cases hy
       rw[aw,cw,if_pos hj] at hy
       refine⟨.int k ((z::zs).getD j 0),hall j om,?_⟩
       rw[aG]
       cases hq:(z::zs)[j]? with
       | none=>rw[hq] at hy; cases hy
       | some u=>rw[hq] at hy; simp only[aD,aa] at hy; subst hy; simp [VR]
     ·simp only[VR]
      refine⟨_,x.off,cap,Sg.add_at _ _ _,by obtain⟨xb,xo,xs⟩:=x; simp only at hsp; subst hsp; rfl,.inr (by simp),h1,ab _,.inr ⟨ab _,?_⟩⟩
      show x.off+cap*e≤C.size
      omega
    ·cases h40
theorem ET {K:Bs}{σ:Sg}{h:AH}{w:World} (r:Rep K σ h w) (hB:K.B=w.heap.size) {a:Option Addr}{len cap:Nat}{zs:List Int} (hr:IsRowE .i64 1 w a len cap zs) :
 ∃ σ' o v,σ.le σ'∧Rep K σ' (h.new o) w∧VR σ' v (.slice a len cap)∧ip v=some (.int .i64 (len:Nat))∧SlI (h.new o) v (zs.take len):=by
 have hrow:len≤cap∧zs.length=cap∧(a=none→cap=0)∧∀ x,a=some x→∀ i,i<cap→w.cell? (x.add i)=some (.int .i64 (zs.getD i 0)):=by
  rcases hr with ⟨rfl,rfl,rfl,rfl⟩|⟨x,rfl,h1,h2,h3,h4,h5⟩
  ·exact⟨ab _,rfl,λ_=>rfl,(λx hx=>by cases hx)⟩
  ·rw[aM] at h3
   exact⟨h1,h3,(λh=>by cases h),(λy hy i hi=>by cases hy; exact h4 i om)⟩
 obtain⟨q1,q2,q3,q4⟩:=hrow
 obtain⟨σ',o,v,b1,b2,b3,b4⟩:=r.rowB hB q1 q2 q3 q4
 refine⟨σ',o,v,b1,b2,b3,?_⟩
 rcases b4 with ⟨h1|h1,h2⟩|⟨h1,h2⟩
 ·subst h1 h2
  exact⟨rfl,.inl ⟨by simp,.inl rfl⟩⟩
 ·subst h1 h2
  exact⟨rfl,.inl ⟨by simp,.inr rfl⟩⟩
 ·subst h1 h2
  refine⟨rfl,uD (f:=eI) (ro:=true) (λ_=>rfl) ?_ (by rw[bF]; omega)⟩
  rw[AH.get_new,if_pos rfl,AB]
theorem gO {h:AH}{o:AO}:∀ b x,h.get b=some x→(h.new o).get b=some x:=λb x hb=>by
 rw[AH.get_new,if_neg (by have:=AH.lt_of_get hb; omega)]
 exact hb
open Go.Am
theorem Sl.stay {h h':AH}{e:Nat}{v:AV}{xs:List (List AV)} (hk:∀ b o,h.get b=some o→h'.get b=some o) (hs:Sl h e v xs):Sl h' e v xs:=by
 rcases hs with hs|⟨b,o,c,cs,ro,h1,h2,h3⟩
 ·exact .inl hs
 ·exact .inr ⟨b,o,c,cs,ro,h1,hk _ _ h2,h3⟩
theorem Ey {os:List AO}{h:AH}{a:AO}:(news os h).new a=news (os++[a]) h:=by
 induction os generalizing h with
 | nil=>rfl
 | cons o r ih=>exact ih
theorem xd {os:List AO}{h:AH}{a b:AO}:((news os h).new a).new b=news (os++[a,b]) h:=by
 induction os generalizing h with
 | nil=>rfl
 | cons o r ih=>exact ih
open Go.Am
theorem EY {h:AH}{v:AV}{xs:List (Int×Int)}{P:Int×Int→Bool}{k:FuncId}{caps:List AV} (hv:SlE h v xs) (hl:xs.length<2 ^ 40)
 (hf:∀ x∈xs,∀ h',Ext h.next h h'→C prg k ([.agg (eE x)]++caps) h' λr h''=>r=.bool (P x)∧Ext h'.next h' h'') :
 C prg 47 [v,.fn k caps] h λr h'=>r=.int .i64 (gX P xs 0)∧Ext h.next h h':=by
 refine Kl pf47 ?_
 have hlen:=hv.len
 rw[ah] at hlen
 refine ae (ar (Mi0) ?_)
 refine ae (ae (ar (Mi1 hlen) ?_))
 refine ae (ku (λts h1=>gX P xs 0=-1∧Ext h.next h h1) (cQ (fY (λn ts h1=>∃ i,n=xs.length-i∧i≤xs.length∧Ext h.next h h1∧gX P (xs.drop i) i=gX P xs 0∧aL ts 0=v∧aL ts 1=.fn k caps∧aL ts 7=.int .i64 (xs.length:Nat)∧aL ts 8=.int .i64 (i:Nat)) ?_ (n:=xs.length) ⟨0,rfl,ee _,Kj,by rw[bN],Ii0,Ii0,Ii0,by simp only[am,aC,↓reduceIte,Nat.reduceEqDiff,Int.reduceEq,Nat.reduceAdd,Nat.reduceLeDiff,reduceCtorEq,bI]; rfl⟩)) ?_)
 ·rintro n ts h1 ⟨i,rfl,hi,ex,hF,e0,e1,e7,e8⟩
  refine ae (ar (M2 e7 e8) ?_)
  refine ae (jg (t:=decide (i<xs.length)) (Z1 @cX) (λq=>?_) λq=>?_)
  ·have q:i<xs.length:=cn q
   obtain⟨b,p,a1,r1,_,_⟩:=(hv.ext ex (ab _)).at (fy (f:=eE) q)
   refine bJ (ae (cQ (ae (ar (M1 e8) ?_))))
   have hc:=hf _ (aR q) h1 ex
   refine ae (bW (kX 5 (M6 e0 e1 e7 e8 a1 r1) rfl (Z6 e0 e1 e7 e8 a1 r1) (M6 e0 e1 e7 e8 a1 r1) (M6 e0 e1 e7 e8 a1 r1) (hc) λr h2 hq=>?_))
   obtain⟨rfl,ex2⟩:=hq
   have ex3:=ex.trans (ex2.mono ex.nx)
   refine bK (M0) ?_
   refine jg (t:=P xs[i]) (Z0) (λq2=>?_) λq2=>?_
   ·refine ae (ar (M0) ?_)
    refine bH ⟨.int .i64 (i:Nat),(by simp only[rs,rf47,am,aC,simprocAttr]<;>rfl),?_,ex3⟩
    rw[← hF,jb P q,if_pos q2]
   ·have w1:IntKind.i64.wrap (((i:Nat):Int)+1)=((i+1:Nat):Int):=eL om om
    refine bJ (ar (M2 e8 w1) ?_)
    refine⟨xs.length-(i+1),om,i+1,rfl,om,ex3,?_,Z1 e0,Z1 e1,Z1 e7,Z2 e8 w1⟩
    rw[← hF,jb P q,if_neg (by simp [q2])]
  ·have q:¬ i<xs.length:=eQ q
   refine fz ⟨λ_=>⟨?_,ex⟩,λe=>absurd rfl e⟩
   rw[← hF,dE om]
   rfl
 ·rintro ts h1 ⟨hF,ex⟩
  refine ae (ar (M0) ?_)
  exact bH ⟨.int .i64 (-1),(by simp only[rs,rf47,am,aC,simprocAttr]<;>rfl),by rw[hF],ex⟩
theorem ui {h:AH}{v:AV}{xs:List (Int×Int)}{P:Int×Int→Bool}{k:FuncId}{caps:List AV} (hv:SlE h v xs) (hl:xs.length<2 ^ 40)
 (hf:∀ x∈xs,∀ h',Ext h.next h h'→C prg k ([.agg (eE x)]++caps) h' λr h''=>r=.bool (P x)∧Ext h'.next h' h'') :
 C prg 30 [v,.fn k caps] h λr h'=>r=.bool (xs.any P)∧Ext h.next h h':=by
 refine Kl pf30 ?_
 refine ae (ar (Mi0) ?_)
 refine ae (bW (bt 2 (Mi0) rfl (Zi0) (Mi0) (EY hv hl hf) λr h2 hq=>?_))
 obtain⟨rfl,ex⟩:=hq
 have hb:decide ((0:Int)≤gX P xs 0)=xs.any P:=by
  have:=(lD P xs 0).2
  cases hq:xs.any P with
  | true=>rw[aH]; rw[hq] at this; simp at this; omega
  | false=>rw[aY]; have:=this.2 hq; omega
 refine bK (M1 hb) ?_
 exact bH ⟨_,(by simp only[rs,rf30,am,aC,simprocAttr]<;>rfl),rfl,ex⟩
theorem qD {h:AH}{v:AV}{xs:List (Int)}{y:Int} (hv:SlI h v xs) (hl:xs.length<2 ^ 40) :
 C prg 40 [v,.int .i64 y] h λr h'=>r=.int .i64 (gX (y==·) xs 0)∧Ext h.next h h':=by
 refine Kl pf40 ?_
 have hlen:=hv.len
 rw[ah] at hlen
 have ex0:Ext h.next h h:=Kj
 refine ae (ar (Mi0) ?_)
 refine ae (ae (ar (Mi1 hlen) ?_))
 refine ae (ku (λts h1=>gX (y==·) xs 0=-1∧h1=h) (cQ (fY (λn ts h1=>∃ i,n=xs.length-i∧i≤xs.length∧h1=h∧gX (y==·) (xs.drop i) i=gX (y==·) xs 0∧aL ts 0=v∧aL ts 1=.int .i64 y∧aL ts 7=.int .i64 (xs.length:Nat)∧aL ts 8=.int .i64 (i:Nat)) ?_ (n:=xs.length) ⟨0,rfl,ee _,rfl,by rw[bN],Ii0,Ii0,Ii0,by simp only[am,aC,↓reduceIte,Nat.reduceEqDiff,Int.reduceEq,Nat.reduceAdd,Nat.reduceLeDiff,reduceCtorEq,bI]; rfl⟩)) ?_)
 ·rintro n ts h1 ⟨i,rfl,hi,rfl,hF,e0,ek,e7,e8⟩
  refine ae (ar (M2 e7 e8) ?_)
  refine ae (jg (t:=decide (i<xs.length)) (Z1 @cX) (λq=>?_) λq=>?_)
  ·have q:i<xs.length:=cn q
   obtain⟨b,p,a1,r1,_,_⟩:=(hv.ext ex0 (ab _)).at (fy (f:=eI) q)
   refine bJ (ae (cQ (ae (ar (M1 e8) ?_))))
   have ceq:decide (y=xs[i])=(y==xs[i]):=rfl
   refine ae (ar (by simp only[am,aC,simprocAttr,e0,ek,e7,e8,a1,r1,ceq,eI]<;>rfl) ?_)
   refine jg (t:=y==xs[i]) (Z0) (λq2=>?_) λq2=>?_
   ·refine ae (ar (M0) ?_)
    refine bH ⟨.int .i64 (i:Nat),(by simp only[rs,rf40,am,aC,simprocAttr]<;>rfl),?_,ex0⟩
    rw[← hF,jb _ q,if_pos q2]
   ·have w1:IntKind.i64.wrap (((i:Nat):Int)+1)=((i+1:Nat):Int):=eL om om
    refine bJ (ar (M2 e8 w1) ?_)
    refine⟨xs.length-(i+1),om,i+1,rfl,om,rfl,?_,Z1 e0,Z1 ek,Z1 e7,Z2 e8 w1⟩
    rw[← hF,jb _ q,if_neg (by simp [q2])]
  ·have q:¬ i<xs.length:=eQ q
   refine fz ⟨λ_=>⟨?_,rfl⟩,λe=>absurd rfl e⟩
   rw[← hF,dE om]
   rfl
 ·rintro ts h1 ⟨hF,rfl⟩
  refine ae (ar (M0) ?_)
  exact bH ⟨.int .i64 (-1),(by simp only[rs,rf40,am,aC,simprocAttr]<;>rfl),by rw[hF],ex0⟩
theorem sh {h:AH}{v:AV}{xs:List (Int)}{y:Int} (hv:SlI h v xs) (hl:xs.length<2 ^ 40) :
 C prg 22 [v,.int .i64 y] h λr h'=>r=.bool (xs.any (y==·))∧Ext h.next h h':=by
 refine Kl pf22 ?_
 refine ae (ar (Mi0) ?_)
 have ex0:Ext h.next h h:=Kj
 have hc:=qD (y:=y) hv hl
 refine ae (bW (bt 2 (Mi0) rfl (Zi0) (Mi0) (hc) λr h2 hq=>?_))
 obtain⟨rfl,ex⟩:=hq
 have hb:decide ((0:Int)≤gX (y==·) xs 0)=xs.any (y==·):=by
  have:=(lD (y==·) xs 0).2
  cases hq:xs.any (y==·) with
  | true=>rw[aH]; rw[hq] at this; simp at this; omega
  | false=>rw[aY]; have:=this.2 hq; omega
 refine bK (M1 hb) ?_
 exact bH ⟨_,(by simp only[rs,rf22,am,aC,simprocAttr]<;>rfl),rfl,ex0.trans (ex.mono ex0.nx)⟩
open Go.Am
theorem Em {xs:List Int}:(xs.flatMap eI).all AV.one=true:=by
 rw[cH]
 intro x hx
 obtain⟨y,_,hy⟩:=eB.1 hx
 simp only[eI,aq,bz,or_false] at hy
 subst hy; rfl
theorem Ih {v:AV}{h:AH}{e:Nat}{xs:List (List AV)} (hv:Sl h e v xs):∃ b,gf .eql .nls v .nils=some (.bool b)∧(b=true→v=.nils∧xs=[])∧(b=false→v≠.nils):=by
 rcases hv with ⟨rfl,rfl|rfl⟩|⟨b,o,c,cs,ro,rfl,hg,hc,hle,hx⟩
 ·exact⟨true,rfl,λ_=>⟨rfl,rfl⟩,λq=>by cases q⟩
 ·exact⟨false,rfl,λq=>(by cases q),λ_=>(by simp)⟩
 ·exact⟨false,rfl,λq=>(by cases q),λ_=>(by simp)⟩
theorem IW {h:AH}{e bytes:Nat}{v:AV}{xs:List (List AV)} (hv:Sl h e v xs) (ho:xs.flatten.all AV.one=true) (hl:xs.length*bytes<aX) (hl2:xs.length<aX) :
 ∃ r h',iQ (h.new (.cells [] e false)) e bytes (.sl h.next 0 0 0) v=some (r,h')∧IsSl h' e h.next r xs.flatten∧Ext h.next h h'∧r≠.nils:=by
 have hv':=hv.ext (Ki (o:=.cells [] e false) (ab _)) (ab _)
 obtain⟨s1,s2⟩:=hv'.src
 have g0:(h.new (.cells [] e false)).get h.next=some (.cells [] e false):=by rw[AH.get_new,if_pos rfl]
 by_cases hz:xs.length=0
 ·refine⟨.sl h.next 0 0 0,_,?_,.inr ⟨h.next,0,ab _,rfl,by rw[g0,bm.1 hz]; rfl,by rw[s2,hz]⟩,Ki (ab _),by simp⟩
  simp only[iQ,s1,ho,if_true,hz]
 ·refine⟨.sl (h.next+1) 0 xs.length xs.length,((h.new (.cells [] e false)).put h.next .dead).new (.cells xs.flatten e false),?_,.inr ⟨h.next+1,xs.length,om,rfl,by rw[AH.get_new,if_pos (by simp)],s2⟩,(Ki (ab _)).trans ((Ext.put (ab _)).trans (Ki (by simp))),by simp⟩
  simp only[iQ,s1,ho,if_true,if_neg hz,g0,aU g0]
  rw[bM,if_neg om,if_pos ⟨hl,hl2⟩]
  simp
theorem ul {h:AH}{v:AV}{xs:List (Int)} (hv:SlI h v xs) (hl:xs.length<2 ^ 34) :
 C prg 56 [v] h λr h'=>IsSl h' 1 h.next r (xs.flatMap eI)∧Ext h.next h h'∧(r=.nils↔v=.nils):=by
 refine Kl pf56 ?_
 refine ae (ar (Mi0) ?_)
 obtain⟨b,hb,k1,k2⟩:=Ih hv
 refine ae (ae (ar (Mi1 hb) ?_))
 refine jg (t:=b) (Z0) (λq=>?_) λq=>?_
 ·obtain⟨rfl,hx⟩:=k1 q
  rw[List.map_eq_nil_iff] at hx
  subst hx
  refine ae (ar (M0) ?_)
  exact bH ⟨.nils,(by simp only[rs,rf56,am,aC,simprocAttr]<;>rfl),.inl ⟨rfl,rfl⟩,Kj,by simp⟩
 ·have hvv:=k2 q
  refine bJ ?_
  obtain⟨r,h',a1,a2,a3,a4⟩:=IW (bytes:=8) hv Em (by rw[ah]; unfold aX; omega) (by rw[ah]; unfold aX; omega)
  refine ae (ar (Mi1 a1) ?_)
  exact bH ⟨r,(by simp only[rs,rf56,am,aC,simprocAttr]<;>rfl),a2,a3,by simp [a4,hvv]⟩
open Go.Am
theorem JZ {h:AH}{gb len cap e bytes:Nat}{A Z:List AV}{v:AV}{xs:List (List AV)} (hg:h.get gb=some (.cells (A++Z) e false)) (hA:A.length=len*e) (hv:Sl h e v xs) (ho:xs.flatten.all AV.one=true) (hc:len+xs.length≤cap) (hz:xs.length*e≤Z.length) :
 ∃ h',iQ h e bytes (.sl gb 0 len cap) v=some (.sl gb 0 (len+xs.length) cap,h')∧Upd h h' gb (.cells (A++xs.flatten++Z.drop (xs.length*e)) e false):=by
 obtain⟨s1,s2⟩:=hv.src
 by_cases hn:xs.length=0
 ·refine⟨h,?_,?_⟩
  ·simp only[iQ,s1,ho,if_true,hn,cS]
  ·have:xs=[]:=bm.1 hn
   subst this
   simp only[lS,du,aQ,mZ,bN]
   exact Upd.refl hg
 ·have w:bU h gb (0+len*e) xs.flatten=some (h.put gb (.cells (A++xs.flatten++Z.drop (xs.length*e)) e false)):=by
   rw[eY hg,bM,if_pos (by rw[s2,aJ]; omega)]
   congr 3
   unfold dA
   rw[← hA,List.take_left',Gi,List.drop_of_length_le om,s2]
   ·simp
   ·rfl
  refine⟨_,?_,Kk hg⟩
  simp only[iQ,s1,ho,if_true,if_neg hn,if_pos hc,w,aD]
theorem eX {α:Type}{xss:List (List α)}{k:Nat} (hk:k<xss.length):(xss.take (k+1)).flatten=(xss.take k).flatten++xss[k]:=by
 rw[dC hk,gF]
 simp
theorem jr {α:Type} (xss:List (List α)) (k:Nat):(xss.take k).flatten.length≤xss.flatten.length:=by
 conv=>rhs; rw[← cT k xss]
 rw[gF,aJ]
 omega
theorem Dz {h:AH}{e:Nat}:slV h e .nils none (some (.int .i64 0)) none=some .nils:=rfl
theorem wF {z:List AV}:∀ n,(cJ z n).length=n*z.length
 | 0=>by simp [cJ]
 | n+1=>by simp only[cJ,aJ,wF n,df]; omega
theorem tk {z:List AV}:∀ k n,(cJ z (k+n)).drop (k*z.length)=cJ z n
 | 0,n=>by simp
 | k+1,n=>by
   have e1:cJ z (k+1+n)=z++cJ z (k+n):=by rw[show k+1+n=(k+n)+1 by omega]; rfl
   have e2:(k+1)*z.length=z.length+k*z.length:=by rw[df]; omega
   rw[e1,e2,← Kb,nV,tk k n]
theorem Fa {h:AH}{N:Nat} (hN:N<2 ^ 34):C prg 91 [.nils,.int .i64 (N:Nat)] h λr h'=>(N=0∧r=.nils∧h'=h)∨(0<N∧r=.sl h.next 0 0 N∧h'=h.new (.cells (cJ [.int .i64 0] N) 1 false)):=by
 refine Kl pf91 ?_
 have c1:decide (((N:Nat):Int)<0)=false:=aK om
 have w1:IntKind.i64.wrap (0-0)=0:=by decide
 have w2:IntKind.i64.wrap (((N:Nat):Int)-0)=((N:Nat):Int):=by rw[eL om om]; omega
 have cp:Ix .nils=some (.int .i64 0):=rfl
 refine ae (ar (Mi0) ?_)
 refine ae (ae (ar (Mi0) ?_))
 refine dB (I1 c1) (bJ ?_)
 refine ae (ae (ar (Ji3 cp w1 w2) ?_))
 refine ae (ae (ar (J0) ?_))
 refine jg (t:=decide (0<N)) (by simp only[am,aC,↓reduceIte,Nat.reduceEqDiff,Int.reduceEq,Nat.reduceAdd,Nat.reduceLeDiff,reduceCtorEq]; exact congrArg AV.bool (by simp only[decide_eq_decide]; omega)) (λq=>?_) λq=>?_
 ·have q:0<N:=cn q
  have q0:¬ ((N:Nat):Int)=0:=om
  have az:CZ h [.int .i64 0] 8 .nils (.int .i64 (N:Nat))=some (.sl h.next 0 N N,h.new (.cells (cJ [.int .i64 0] N) 1 false)):=by
   simp only[CZ,if_neg q0]
   rw[if_pos ⟨om,by unfold aX; omega,by unfold aX; omega⟩]
   simp
  have g1:(h.new (.cells (cJ [.int .i64 0] N) 1 false)).get h.next=some (.cells (cJ [.int .i64 0] N) 1 false):=by rw[AH.get_new,if_pos rfl]
  have s1:slV (h.new (.cells (cJ [.int .i64 0] N) 1 false)) 1 (.sl h.next 0 N N) none (some (.int .i64 0)) none=some (.sl h.next 0 0 N):=by
   have:=jB (k:=.i64) (show 0≤N by omega)
   simp only[slV,g1,if_true,sK,this,aD]
   have h0:bnd (.int .i64 0) N=some 0:=this
   rw[h0]
   simp only[aD]
   split<;>simp
  refine ar (by simp only[am,aC,simprocAttr,bI,eF,bV,cp,Dz,az,s1]<;>rfl) ?_
  refine ae (ar (M0) ?_)
  exact bH ⟨_,(by simp only[rs,rf91,am,aC,simprocAttr]<;>rfl),.inr ⟨q,rfl,rfl⟩⟩
 ·have q:¬ 0<N:=eQ q
  refine bJ (ae (ar (Mi0) ?_))
  exact bH ⟨_,(by simp only[rs,rf91,am,aC,simprocAttr]<;>rfl),.inl ⟨om,rfl,rfl⟩⟩
theorem si {h:AH}{v:AV}{vs:List AV}{xss:List (List (Int))} (hv:Sl h 1 v (vs.map λx=>[x])) (hl:vs.length=xss.length) (hx:∀ (i:Nat) (w:AV) (xs:List (Int)),vs[i]?=some w→xss[i]?=some xs→SlI h w xs) (hn:xss.length<2 ^ 30) (hs:xss.flatten.length<2 ^ 34) :
 C prg 81 [v] h λr h'=>IsSl h' 1 h.next r (xss.flatten.flatMap eI)∧Ext h.next h h':=by
 have el:=hv.len
 rw[ah,hl] at el
 have hvk:∀ (k:Nat) (hk:k<xss.length),∃ b p,kP 1 v (.int .i64 (k:Nat))=some (.ptr b p)∧ak h b p 1=some [vs[k]'om]∧b<h.next:=λk hk=>hv.at1 (by rw[aw,ai om]; rfl)
 have hxk:∀ (k:Nat) (hk:k<xss.length),SlI h (vs[k]'om) xss[k]:=λk hk=>hx k _ _ (ai _) (ai hk)
 refine Kl pf81 ?_
 refine ae (ar (Mi0) ?_)
 refine ae (ar (M0) ?_)
 refine ae (ae (ar (Mi1 el) ?_))
 refine gC (α:=Unit) (N:=xss.length) (λk _=>[(0,v),(9,v),(3,.int .i64 ((xss.take k).flatten.length:Nat))]) (λ_ _ h'=>h'=h) () (λ_ _=>rfl) om (by simp only[bZ,cI,am,aC,↓reduceIte,Nat.reduceEqDiff,Int.reduceEq,Nat.reduceAdd,Nat.reduceLeDiff,reduceCtorEq,bI,ff,lS,bh]) rfl ?_ ?_
 ·rintro k _ ts h1 hk rfl ⟨ei,en,e0,e9,e3,-⟩
  simp only at ei en e0 e9 e3
  obtain⟨b1,p1,a1,r1,_⟩:=hvk k hk
  have lk:=(hxk k hk).len
  rw[ah] at lk
  have hle:=jr xss (k+1)
  rw[eX hk,aJ] at hle
  have w1:IntKind.i64.wrap ((((xss.take k).flatten.length:Nat):Int)+((xss[k].length:Nat):Int))=(((xss.take (k+1)).flatten.length:Nat):Int):=by
   rw[eL om om,eX hk,aJ]
   omega
  have c1:decide ((((xss.take (k+1)).flatten.length:Nat):Int)<0)=false:=aK om
  refine ae (ar (M4 e9 ei a1 r1) ?_)
  refine ae (ar (M3 e3 lk w1) ?_)
  refine ae (ar (M1 c1) ?_)
  refine dB (I0) (bJ ⟨(),rfl,by simp only[bZ,cI,am,aC,↓reduceIte,Nat.reduceEqDiff,Int.reduceEq,Nat.reduceAdd,Nat.reduceLeDiff,reduceCtorEq,ei,en,e0,e9]⟩)
 ·rintro _ ts h1 rfl ⟨e0,e9,e3,-⟩
  simp only at e0 e9 e3
  rw[dU] at e3
  refine ae (bW (bt 1 (M1 e3) rfl (Z1 e3) (M1 e3) (Fa hs) λg h2 hq=>?_))
  refine bK (M0) ?_
  refine ae (ae (ar (M2 e0 el) ?_))
  rcases hq with ⟨hz,rfl,rfl⟩|⟨hz,rfl,rfl⟩
  ·refine gC (α:=Unit) (N:=xss.length) (λ_ _=>[(25,v),(6,.nils)]) (λ_ _ h'=>h'=h2) () (λ_ _=>rfl) om (O1 e0) rfl ?_ ?_
   ·rintro k _ ts h1 hk rfl ⟨ei,en,e25,e6,-⟩
    simp only at ei en e25 e6
    obtain⟨b1,p1,a1,r1,_⟩:=hvk k hk
    have hle:=jr xss (k+1)
    rw[eX hk,aJ] at hle
    have hk0:xss[k]=[]:=bm.1 om
    have s1:=(hxk k hk).src.1
    rw[hk0] at s1
    have ap:iQ h1 1 8 .nils (vs[k]'om)=some (.nils,h1):=by simp [iQ,s1]
    refine ae (ar (M4 e25 ei a1 r1) ?_)
    refine ar (M2 e6 ap) ?_
    exact⟨(),rfl,by simp only[bZ,cI,am,aC,↓reduceIte,Nat.reduceEqDiff,Int.reduceEq,Nat.reduceAdd,Nat.reduceLeDiff,reduceCtorEq,ei,en,e25]⟩
   ·rintro _ ts h1 rfl ⟨e25,e6,-⟩
    simp only at e25 e6
    refine ae (ar (M1 e6) ?_)
    exact bH ⟨_,(by simp only[rs,rf81,am,aC,simprocAttr]<;>rfl),.inl ⟨rfl,by rw[bm.1 hz]; rfl⟩,Kj⟩
  ·have g2:(h1.new (.cells (cJ [.int .i64 0] xss.flatten.length) 1 false)).get h1.next=some (.cells (cJ [.int .i64 0] xss.flatten.length) 1 false):=by rw[AH.get_new,if_pos rfl]
   have x2:Ext h1.next h1 (h1.new (.cells (cJ [.int .i64 0] xss.flatten.length) 1 false)):=Ki (ab _)
   generalize h1.new (.cells (cJ [.int .i64 0] xss.flatten.length) 1 false)=h2 at *
   refine gC (α:=Unit) (N:=xss.length) (λk _=>[(25,v),(6,.sl h1.next 0 (xss.take k).flatten.length xss.flatten.length)])
    (λk _ h'=>h'.get h1.next=some (.cells ((xss.take k).flatten.flatMap eI++cJ [.int .i64 0] (xss.flatten.length-(xss.take k).flatten.length)) 1 false)∧Ext h1.next h1 h') () (λ_ _=>rfl) om (by simp only[bZ,cI,am,aC,↓reduceIte,Nat.reduceEqDiff,Int.reduceEq,Nat.reduceAdd,Nat.reduceLeDiff,reduceCtorEq,e0,ff,lS,aQ]) ⟨g2,x2⟩ ?_ ?_
   ·rintro k _ ts h3 hk ⟨j1,j2⟩ ⟨ei,en,e25,e6,-⟩
    simp only at ei en e25 e6
    obtain⟨b1,p1,a1,r1,hb⟩:=hvk k hk
    have hle:=jr xss (k+1)
    rw[eX hk,aJ] at hle
    have fl:((xss.take k).flatten.flatMap eI).length=(xss.take k).flatten.length*1:=fN (f:=eI) (e:=1) (λ_=>rfl) _
    obtain⟨h4,p4,u4⟩:=JZ (bytes:=8) (cap:=xss.flatten.length) j1 fl ((hxk k hk).ext j2 (ab _)) Em (by rw[ah]; omega) (by rw[ah,wF]; simp only[au,aQ]; omega)
    have ef:(xss.take k).flatten.length+xss[k].length=(xss.take (k+1)).flatten.length:=by rw[eX hk,aJ]
    rw[ah,ef] at p4
    have e2:(xss.take k).flatten.flatMap eI++(xss[k].map eI).flatten++(cJ [.int .i64 0] (xss.flatten.length-(xss.take k).flatten.length)).drop ((xss[k].map eI).length*1)=(xss.take (k+1)).flatten.flatMap eI++cJ [.int .i64 0] (xss.flatten.length-(xss.take (k+1)).flatten.length):=by
     rw[eX hk,dV,← List.flatMap_def,ah,aJ]
     congr 1
     rw[show xss.flatten.length-(xss.take k).flatten.length=xss[k].length+(xss.flatten.length-((xss.take k).flatten.length+xss[k].length)) by omega]
     exact tk (z:=[.int .i64 0]) _ _
    rw[e2] at u4
    have r1':ak h3 b1 p1 1=some [vs[k]'om]:=by rw[cY (j2.gt _ hb)]; exact r1
    refine ae (ar (M4 e25 ei a1 r1') ?_)
    refine ar (M2 e6 p4) ?_
    exact⟨(),⟨u4.get,j2.trans (u4.ext (ab _))⟩,by simp only[bZ,cI,am,aC,↓reduceIte,Nat.reduceEqDiff,Int.reduceEq,Nat.reduceAdd,Nat.reduceLeDiff,reduceCtorEq,ei,en,e25]⟩
   ·rintro _ ts h3 ⟨j1,j2⟩ ⟨e25,e6,-⟩
    simp only at e25 e6
    rw[dU] at j1 e6
    refine ae (ar (M1 e6) ?_)
    refine bH ⟨_,(by simp only[rs,rf81,am,aC,simprocAttr]<;>rfl),.inr ⟨h1.next,xss.flatten.length,ab _,rfl,?_,fN (f:=eI) (e:=1) (λ_=>rfl) _⟩,j2⟩
    rw[j1,eM]
    simp [cJ]
def Km:=@Sl.stay
end Go.Proofs.Ytpeemonpdlifbaa
