/- The functions in the clean machine's form -/
import Derived.Test.YtpeemonpdlifbaaVTAB
import Derived.Test.YtpeemonpdlifbaaVAmK
import Derived.Test.YtpeemonpdlifbaaVAmEnd
import Derived.Test.YtpeemonpdlifbaaVAmR
import Derived.Test.YtpeemonpdlifbaaVAmL
set_option linter.all false
namespace Go.Proofs.Ytpeemonpdlifbaa
open Go.Am
set_option maxRecDepth 100000
def mks:List (Nat×RF):=[(83,qK),(34,pJ 35)]
def tab:List (Nat×RF):=[(3,rf3),(6,rf6),(7,rf7),(8,rf8),(9,rf9),(10,rf10),(11,rf11),(12,rf12),(13,rf13),(14,rf14),(17,rf17),(18,rf18),(19,rf19),(20,rf20),(21,rf21),(22,rf22),(23,rf23),(24,rf24),(25,rf25),(26,rf26),(27,rf27),(28,rf28),(30,rf30),(31,rf31),(32,rf32),(33,rf33),(34,rf34),(36,rf36),(37,rf37),(38,rf38),(39,rf39),(40,rf40),(41,rf41),(42,rf42),(43,rf43),(44,rf44),(45,rf45),(46,rf46),(47,rf47),(48,rf48),(49,rf49),(50,rf50),(51,rf51),(52,rf52),(53,rf53),(54,rf54),(55,rf55),(56,rf56),(57,rf57),(58,rf58),(59,rf59),(60,rf60),(61,rf61),(62,rf62),(63,rf63),(64,rf64),(65,rf65),(74,rf74),(75,rf75),(76,rf76),(77,rf77),(78,rf78),(79,rf79),(80,rf80),(81,rf81),(82,rf82),(83,rf83),(84,rf84),(90,rf90),(91,rf91),(92,rf92),(93,rf93),(95,rf95)]
noncomputable def prg:RP:=λf=>lkp tab f (yU Try.prog mks f)
theorem pf3:prg 3=some rf3:=rfl
theorem pf6:prg 6=some rf6:=rfl
theorem pf7:prg 7=some rf7:=rfl
theorem pf8:prg 8=some rf8:=rfl
theorem pf9:prg 9=some rf9:=rfl
theorem pf10:prg 10=some rf10:=rfl
theorem pf11:prg 11=some rf11:=rfl
theorem pf12:prg 12=some rf12:=rfl
theorem pf13:prg 13=some rf13:=rfl
theorem pf14:prg 14=some rf14:=rfl
theorem pf17:prg 17=some rf17:=rfl
theorem pf18:prg 18=some rf18:=rfl
theorem pf19:prg 19=some rf19:=rfl
theorem pf20:prg 20=some rf20:=rfl
theorem pf21:prg 21=some rf21:=rfl
theorem pf22:prg 22=some rf22:=rfl
theorem pf23:prg 23=some rf23:=rfl
theorem pf24:prg 24=some rf24:=rfl
theorem pf25:prg 25=some rf25:=rfl
theorem pf26:prg 26=some rf26:=rfl
theorem pf27:prg 27=some rf27:=rfl
theorem pf28:prg 28=some rf28:=rfl
theorem pf30:prg 30=some rf30:=rfl
theorem pf31:prg 31=some rf31:=rfl
theorem pf32:prg 32=some rf32:=rfl
theorem pf33:prg 33=some rf33:=rfl
theorem pf34:prg 34=some rf34:=rfl
theorem pf36:prg 36=some rf36:=rfl
theorem pf37:prg 37=some rf37:=rfl
theorem pf38:prg 38=some rf38:=rfl
theorem pf39:prg 39=some rf39:=rfl
theorem pf40:prg 40=some rf40:=rfl
theorem pf41:prg 41=some rf41:=rfl
theorem pf42:prg 42=some rf42:=rfl
theorem pf43:prg 43=some rf43:=rfl
theorem pf44:prg 44=some rf44:=rfl
theorem pf45:prg 45=some rf45:=rfl
theorem pf46:prg 46=some rf46:=rfl
theorem pf47:prg 47=some rf47:=rfl
theorem pf48:prg 48=some rf48:=rfl
theorem pf49:prg 49=some rf49:=rfl
theorem pf50:prg 50=some rf50:=rfl
theorem pf51:prg 51=some rf51:=rfl
theorem pf52:prg 52=some rf52:=rfl
theorem pf53:prg 53=some rf53:=rfl
theorem pf54:prg 54=some rf54:=rfl
theorem pf55:prg 55=some rf55:=rfl
theorem pf56:prg 56=some rf56:=rfl
theorem pf57:prg 57=some rf57:=rfl
theorem pf58:prg 58=some rf58:=rfl
theorem pf59:prg 59=some rf59:=rfl
theorem pf60:prg 60=some rf60:=rfl
theorem pf61:prg 61=some rf61:=rfl
theorem pf62:prg 62=some rf62:=rfl
theorem pf63:prg 63=some rf63:=rfl
theorem pf64:prg 64=some rf64:=rfl
theorem pf65:prg 65=some rf65:=rfl
theorem pf74:prg 74=some rf74:=rfl
theorem pf75:prg 75=some rf75:=rfl
theorem pf76:prg 76=some rf76:=rfl
theorem pf77:prg 77=some rf77:=rfl
theorem pf78:prg 78=some rf78:=rfl
theorem pf79:prg 79=some rf79:=rfl
theorem pf80:prg 80=some rf80:=rfl
theorem pf81:prg 81=some rf81:=rfl
theorem pf82:prg 82=some rf82:=rfl
theorem pf83:prg 83=some rf83:=rfl
theorem pf84:prg 84=some rf84:=rfl
theorem pf90:prg 90=some rf90:=rfl
theorem pf91:prg 91=some rf91:=rfl
theorem pf92:prg 92=some rf92:=rfl
theorem pf93:prg 93=some rf93:=rfl
theorem pf95:prg 95=some rf95:=rfl
theorem ps83:prg (83+mf)=some qK:=rfl
theorem ps34:prg (34+mf)=some (pJ 35):=rfl
theorem det:Det (vk Try.prog mks) prg:=IB (by simp only[mks,wD]; exact⟨rfl,rfl,λ_ h=>by cases h⟩) rfl ⟨cf3,cf6,cf7,cf8,cf9,cf10,cf11,cf12,cf13,cf14,cf17,cf18,cf19,cf20,cf21,cf22,cf23,cf24,cf25,cf26,cf27,cf28,cf30,cf31,cf32,cf33,cf34,cf36,cf37,cf38,cf39,cf40,cf41,cf42,cf43,cf44,cf45,cf46,cf47,cf48,cf49,cf50,cf51,cf52,cf53,cf54,cf55,cf56,cf57,cf58,cf59,cf60,cf61,cf62,cf63,cf64,cf65,cf74,cf75,cf76,cf77,cf78,cf79,cf80,cf81,cf82,cf83,cf84,cf90,cf91,cf92,cf93,cf95,trivial⟩
open Go.Am
open Go.RowKit
theorem GW {α:Type}{f:α→List AV}{h:AH}{e b n:Nat}{xs:List α}{ro:Bool} (hf:∀ x,(f x).length=e) (hg:h.get b=some (.cells (xs.flatMap f) e ro)) (hn:n=xs.length):Sl h e (.sl b 0 n n) (xs.map f):=by
 subst hn
 have hl:=eY hf xs
 refine .inr ⟨b,0,xs.length,_,ro,by rw[ae],hg,by rw[ae]; exact ab _,by rw[ae,hl]; omega,λi x hx=>?_⟩
 rw[aF] at hx
 obtain⟨y,hy,rfl⟩:=aD.1 hx
 rw[bS]
 exact vM hf xs i y hy
def nE:List Int→List (Int×Int)
 | x::y::r=>(x,y)::nE r
 | _=>[]
theorem rT:∀ (n:Nat) (ns:List Int),ns.length=n*2→(nE ns).flatMap eE=ns.map (AV.int .i64)∧(nE ns).length=n
 | 0,[],_=>⟨rfl,rfl⟩
 | n+1,x::y::r,h=>by
   have ih:=rT n r (by simp only[aB] at h; omega)
   refine⟨?_,?_⟩
   ·simp only[nE,gh,eE,bE,aI,bp]
    rw[← ih.1]
   ·simp only[nE,aB,ih.2]
 | 0,_::_,h=>by simp at h
 | n+1,[],h=>by simp at h
 | n+1,[x],h=>by simp only[aB,aO] at h; omega
theorem rowE1 {K:Bs}{σ:Sg}{h:AH}{w:World} (r:Rep K σ h w) (hB:K.B=w.heap.size) {k:IntKind}{e:Nat} (he:0<e) {a:Option Addr}{len cap:Nat}{zs:List Int} (hr:IsRowE k e w a len cap zs) (hspot:∀ x,a=some x→x.spot=none) :
 ∃ σ' o v,σ.le σ'∧Rep K σ' (h.new o) w∧VR σ' v (.slice a len cap)∧((v=.nils∧len=0)∨(v=.sl h.next 0 len len∧o=.cells ((zs.take (len*e)).map (AV.int k)) e true∧(zs.take (len*e)).length=len*e)):=by
 rcases hr with ⟨rfl,rfl,rfl,rfl⟩|⟨x,rfl,h1,h2,h3,h4,h5⟩
 ·obtain⟨σ',q1,q2⟩:=r.dummy
  exact⟨σ',_,.nils,q1,q2,by simp [VR],.inl ⟨rfl,rfl⟩⟩
 ·have hsp:=hspot x rfl
  have hadd:∀ j,x.add j=⟨x.block,x.off+j,none⟩:=by
   intro j
   obtain⟨xb,xo,xs⟩:=x
   simp only at hsp
   subst hsp
   exact Addr.add_lit _ _ _
  have hle:len*e≤cap*e:=fD e h1
  have hl:(zs.take (len*e)).length=len*e:=by rw[bK]; omega
  cases zs with
  | nil =>
    simp only[aO] at h3
    have e2:cap=0:=by
     rcases Ad cap with q|q
     ·exact q
     ·have:=Nat.mul_pos q he; omega
    have e1:len=0:=om
    subst e1
    subst e2
    refine⟨σ.add h.next ⟨x.block,x.off,e,0,0⟩,.cells [] e true,.sl h.next 0 0 0,Sg.le_add r.fresh,r.came [] e _ rfl (.inl rfl),?_,.inr ⟨rfl,by rw[ng]; rfl,hl⟩⟩
    simp only[VR]
    exact⟨_,x.off,0,Sg.add_at _ _ _,by obtain⟨xb,xo,xs⟩:=x; simp only at hsp; subst hsp; rfl,.inl trivial,ab _,ab _,.inl rfl⟩
  | cons z zs =>
    have h40:=h4 0 (by simp)
    rw[hadd] at h40
    unfold World.cell? at h40
    simp only at h40
    split at h40
    ·rename_i C t fr hC
     have hall:∀ i,i<(z::zs).length→C[x.off+i]?=some (.int k ((z::zs).getD i 0)):=by
      intro i hi
      have:=h4 i hi
      rw[hadd] at this
      simpa [World.cell?,hC] using this
     have hN:x.off+cap*e≤C.size:=by
      have:=hall (cap*e-1) (by simp at h3 ⊢; omega)
      have hlt:=(cT.1 this).1
      simp at h3
      omega
     have hblk:x.block<w.heap.size:=(cT.1 hC).1
     refine⟨σ.add h.next ⟨x.block,x.off,e,C.size,t⟩,.cells (((z::zs).take (len*e)).map (AV.int k)) e true,.sl h.next 0 len len,Sg.le_add r.fresh,r.came _ e _ rfl (.inr ⟨by rw[hB]; exact hblk,fun τ _=>?_⟩),?_,.inr ⟨rfl,rfl,hl⟩⟩
     ·refine⟨C,t,fr,hC,rfl,rfl,?_,λj y hy=>?_,λq=>by (cases q),rfl⟩
      ·show x.off+_≤C.size
       rw[ae,hl]; omega
      ·have hj:j<len*e:=by
        rcases bF j (len*e) with q|q
        ·exact q
        ·rw[cn (by rw[ae,hl]; exact q)] at hy; cases hy
       rw[aF,cR,if_pos hj] at hy
       refine⟨.int k ((z::zs).getD j 0),hall j om,?_⟩
       rw[aA]
       cases hq:(z::zs)[j]? with
       | none=>rw[hq] at hy; cases hy
       | some u=>rw[hq] at hy; simp only[aG,aa] at hy; subst hy; simp [VR]
     ·simp only[VR]
      refine⟨_,x.off,cap,Sg.add_at _ _ _,by obtain⟨xb,xo,xs⟩:=x; simp only at hsp; subst hsp; rfl,.inr (by simp),h1,ab _,.inr ⟨ab _,?_⟩⟩
      show x.off+cap*e≤C.size
      omega
    ·cases h40
theorem Ks {w:World}{P:Program}{a0:Option Addr}{l0 c0:Nat}{z0:List Int} (w0:IsRowE .i64 2 w a0 l0 c0 z0) (s0:∀ x,a0=some x→x.spot=none) :
 ∃ (σ:Sg) (os:List AO) (v0:AV),os.length=1∧GL σ∧Rep ⟨w.heap.size,w,P,[]⟩ σ (news os AH.zero) w∧VR σ v0 (.slice a0 l0 c0)∧SlE (news os AH.zero) v0 (nE (z0.take (l0*2))):=by
 have st:=St0.zero P w
 obtain⟨σ1,o0,v0,r1,r2,r3,r4⟩:=rowE1 st.rep rfl (by decide) w0 s0
 refine⟨σ1,[o0],v0,rfl,st.gl.mono r1,r2,r3,?_⟩
 rcases r4 with ⟨h1,h2⟩|⟨h1,h2,h3⟩
 ·subst h1 h2
  exact .inl ⟨by simp [nE],.inl rfl⟩
 ·subst h1
  obtain⟨f1,f2⟩:=rT l0 (z0.take (l0*2)) h3
  refine GW (f:=eE) (ro:=true) (λ_=>rfl) ?_ (by rw[f2])
  show (AH.zero.new o0).get AH.zero.next=_
  rw[AH.get_new,if_pos rfl,h2,f1]
open Go.Am
theorem Fx {h:AH}{v:AV}{xs:List (Int×Int)}{P:Int×Int→Bool}{k:FuncId}{caps:List AV} (hv:SlE h v xs) (hl:xs.length<2 ^ 40)
 (hf:∀ x∈xs,∀ h',Ext h.next h h'→C prg k ([.agg (eE x)]++caps) h' λr h''=>r=.bool (P x)∧Ext h'.next h' h'') :
 C prg 47 [v,.fn k caps] h λr h'=>r=.int .i64 (iU P xs 0)∧Ext h.next h h':=by
 refine KK pf47 ?_
 have hlen:=hv.len
 rw[ae] at hlen
 refine ai (au (Mi0) ?_)
 refine ai (ai (au (Mi1 hlen) ?_))
 refine ai (ju (λts h1=>iU P xs 0=-1∧Ext h.next h h1) (cY (fX (λn ts h1=>∃ i,n=xs.length-i∧i≤xs.length∧Ext h.next h h1∧iU P (xs.drop i) i=iU P xs 0∧aN ts 0=v∧aN ts 1=.fn k caps∧aN ts 7=.int .i64 (xs.length:Nat)∧aN ts 8=.int .i64 (i:Nat)) ?_ (n:=xs.length) ⟨0,rfl,ft _,KI,by rw[bI],Ii0,Ii0,Ii0,by simp only[am,aH,↓reduceIte,Nat.reduceEqDiff,Int.reduceEq,Nat.reduceAdd,Nat.reduceLeDiff,reduceCtorEq,bN]; rfl⟩)) ?_)
 ·rintro n ts h1 ⟨i,rfl,hi,ex,hF,e0,e1,e7,e8⟩
  refine ai (au (M2 e7 e8) ?_)
  refine ai (kG (t:=decide (i<xs.length)) (Z1 @cx) (λq=>?_) λq=>?_)
  ·have q:i<xs.length:=du q
   obtain⟨b,p,a1,r1,_,_⟩:=(hv.ext ex (ab _)).at (fR (f:=eE) q)
   refine bH (ai (cY (ai (au (M1 e8) ?_))))
   have hc:=hf _ (bj q) h1 ex
   refine ai (bU (lh 5 (M6 e0 e1 e7 e8 a1 r1) rfl (Z6 e0 e1 e7 e8 a1 r1) (M6 e0 e1 e7 e8 a1 r1) (M6 e0 e1 e7 e8 a1 r1) (hc) λr h2 hq=>?_))
   obtain⟨rfl,ex2⟩:=hq
   have ex3:=ex.trans (ex2.mono ex.nx)
   refine bP (M0) ?_
   refine kG (t:=P xs[i]) (Z0) (λq2=>?_) λq2=>?_
   ·refine ai (au (M0) ?_)
    refine bM ⟨.int .i64 (i:Nat),(by simp only[rs,rf47,am,aH,simprocAttr]<;>rfl),?_,ex3⟩
    rw[← hF,jG P q,if_pos q2]
   ·have w1:IntKind.i64.wrap (((i:Nat):Int)+1)=((i+1:Nat):Int):=et om om
    refine bH (au (M2 e8 w1) ?_)
    refine⟨xs.length-(i+1),om,i+1,rfl,om,ex3,?_,Z1 e0,Z1 e1,Z1 e7,Z2 e8 w1⟩
    rw[← hF,jG P q,if_neg (by simp [q2])]
  ·have q:¬ i<xs.length:=of_decide_eq_false q
   refine fC ⟨λ_=>⟨?_,ex⟩,λe=>absurd rfl e⟩
   rw[← hF,dP om]
   rfl
 ·rintro ts h1 ⟨hF,ex⟩
  refine ai (au (M0) ?_)
  exact bM ⟨.int .i64 (-1),(by simp only[rs,rf47,am,aH,simprocAttr]<;>rfl),by rw[hF],ex⟩
theorem uA {h:AH}{v:AV}{xs:List (Int×Int)}{P:Int×Int→Bool}{k:FuncId}{caps:List AV} (hv:SlE h v xs) (hl:xs.length<2 ^ 40)
 (hf:∀ x∈xs,∀ h',Ext h.next h h'→C prg k ([.agg (eE x)]++caps) h' λr h''=>r=.bool (P x)∧Ext h'.next h' h'') :
 C prg 30 [v,.fn k caps] h λr h'=>r=.bool (xs.any P)∧Ext h.next h h':=by
 refine KK pf30 ?_
 refine ai (au (Mi0) ?_)
 refine ai (bU (bu 2 (Mi0) rfl (Zi0) (Mi0) (Fx hv hl hf) λr h2 hq=>?_))
 obtain⟨rfl,ex⟩:=hq
 have hb:decide ((0:Int)≤iU P xs 0)=xs.any P:=by
  have:=(mU P xs 0).2
  cases hq:xs.any P with
  | true=>rw[aJ]; rw[hq] at this; simp at this; omega
  | false=>rw[bh]; have:=this.2 hq; omega
 refine bP (M1 hb) ?_
 exact bM ⟨_,(by simp only[rs,rf30,am,aH,simprocAttr]<;>rfl),rfl,ex⟩
theorem qA {h:AH}{v:AV}{xs:List (Int)}{y:Int} (hv:SlI h v xs) (hl:xs.length<2 ^ 40) :
 C prg 40 [v,.int .i64 y] h λr h'=>r=.int .i64 (iU (y==·) xs 0)∧Ext h.next h h':=by
 refine KK pf40 ?_
 have hlen:=hv.len
 rw[ae] at hlen
 have ex0:Ext h.next h h:=KI
 refine ai (au (Mi0) ?_)
 refine ai (ai (au (Mi1 hlen) ?_))
 refine ai (ju (λts h1=>iU (y==·) xs 0=-1∧h1=h) (cY (fX (λn ts h1=>∃ i,n=xs.length-i∧i≤xs.length∧h1=h∧iU (y==·) (xs.drop i) i=iU (y==·) xs 0∧aN ts 0=v∧aN ts 1=.int .i64 y∧aN ts 7=.int .i64 (xs.length:Nat)∧aN ts 8=.int .i64 (i:Nat)) ?_ (n:=xs.length) ⟨0,rfl,ft _,rfl,by rw[bI],Ii0,Ii0,Ii0,by simp only[am,aH,↓reduceIte,Nat.reduceEqDiff,Int.reduceEq,Nat.reduceAdd,Nat.reduceLeDiff,reduceCtorEq,bN]; rfl⟩)) ?_)
 ·rintro n ts h1 ⟨i,rfl,hi,rfl,hF,e0,ek,e7,e8⟩
  refine ai (au (M2 e7 e8) ?_)
  refine ai (kG (t:=decide (i<xs.length)) (Z1 @cx) (λq=>?_) λq=>?_)
  ·have q:i<xs.length:=du q
   obtain⟨b,p,a1,r1,_,_⟩:=(hv.ext ex0 (ab _)).at (fR (f:=eI) q)
   refine bH (ai (cY (ai (au (M1 e8) ?_))))
   have ceq:decide (y=xs[i])=(y==xs[i]):=rfl
   refine ai (au (by simp only[am,aH,simprocAttr,e0,ek,e7,e8,a1,r1,ceq,eI]<;>rfl) ?_)
   refine kG (t:=y==xs[i]) (Z0) (λq2=>?_) λq2=>?_
   ·refine ai (au (M0) ?_)
    refine bM ⟨.int .i64 (i:Nat),(by simp only[rs,rf40,am,aH,simprocAttr]<;>rfl),?_,ex0⟩
    rw[← hF,jG _ q,if_pos q2]
   ·have w1:IntKind.i64.wrap (((i:Nat):Int)+1)=((i+1:Nat):Int):=et om om
    refine bH (au (M2 e8 w1) ?_)
    refine⟨xs.length-(i+1),om,i+1,rfl,om,rfl,?_,Z1 e0,Z1 ek,Z1 e7,Z2 e8 w1⟩
    rw[← hF,jG _ q,if_neg (by simp [q2])]
  ·have q:¬ i<xs.length:=of_decide_eq_false q
   refine fC ⟨λ_=>⟨?_,rfl⟩,λe=>absurd rfl e⟩
   rw[← hF,dP om]
   rfl
 ·rintro ts h1 ⟨hF,rfl⟩
  refine ai (au (M0) ?_)
  exact bM ⟨.int .i64 (-1),(by simp only[rs,rf40,am,aH,simprocAttr]<;>rfl),by rw[hF],ex0⟩
theorem si {h:AH}{v:AV}{xs:List (Int)}{y:Int} (hv:SlI h v xs) (hl:xs.length<2 ^ 40) :
 C prg 22 [v,.int .i64 y] h λr h'=>r=.bool (xs.any (y==·))∧Ext h.next h h':=by
 refine KK pf22 ?_
 refine ai (au (Mi0) ?_)
 have ex0:Ext h.next h h:=KI
 have hc:=qA (y:=y) hv hl
 refine ai (bU (bu 2 (Mi0) rfl (Zi0) (Mi0) (hc) λr h2 hq=>?_))
 obtain⟨rfl,ex⟩:=hq
 have hb:decide ((0:Int)≤iU (y==·) xs 0)=xs.any (y==·):=by
  have:=(mU (y==·) xs 0).2
  cases hq:xs.any (y==·) with
  | true=>rw[aJ]; rw[hq] at this; simp at this; omega
  | false=>rw[bh]; have:=this.2 hq; omega
 refine bP (M1 hb) ?_
 exact bM ⟨_,(by simp only[rs,rf22,am,aH,simprocAttr]<;>rfl),rfl,ex0.trans (ex.mono ex0.nx)⟩
open Go.Am
theorem EG {xs:List Int}:(xs.flatMap eI).all AV.one=true:=by
 rw[cr]
 intro x hx
 obtain⟨y,_,hy⟩:=dr.1 hx
 simp only[eI,aw,bz,or_false] at hy
 subst hy; rfl
theorem Ix {v:AV}{h:AH}{e:Nat}{xs:List (List AV)} (hv:Sl h e v xs):∃ b,fZ .eql .nls v .nils=some (.bool b)∧(b=true→v=.nils∧xs=[])∧(b=false→v≠.nils):=by
 rcases hv with ⟨rfl,rfl|rfl⟩|⟨b,o,c,cs,ro,rfl,hg,hc,hle,hx⟩
 ·exact⟨true,rfl,λ_=>⟨rfl,rfl⟩,λq=>by cases q⟩
 ·exact⟨false,rfl,λq=>(by cases q),λ_=>(by simp)⟩
 ·exact⟨false,rfl,λq=>(by cases q),λ_=>(by simp)⟩
theorem Jl {h:AH}{e bytes:Nat}{v:AV}{xs:List (List AV)} (hv:Sl h e v xs) (ho:xs.flatten.all AV.one=true) (hl:xs.length*bytes<aU) (hl2:xs.length<aU) :
 ∃ r h',fB (h.new (.cells [] e false)) e bytes (.sl h.next 0 0 0) v=some (r,h')∧IsSl h' e h.next r xs.flatten∧Ext h.next h h'∧r≠.nils:=by
 have hv':=hv.ext (KH (o:=.cells [] e false) (ab _)) (ab _)
 obtain⟨s1,s2⟩:=hv'.src
 have g0:(h.new (.cells [] e false)).get h.next=some (.cells [] e false):=by rw[AH.get_new,if_pos rfl]
 by_cases hz:xs.length=0
 ·refine⟨.sl h.next 0 0 0,_,?_,.inr ⟨h.next,0,ab _,rfl,by rw[g0,bd.1 hz]; rfl,by rw[s2,hz]⟩,KH (ab _),by simp⟩
  simp only[fB,s1,ho,if_true,hz]
 ·refine⟨.sl (h.next+1) 0 xs.length xs.length,((h.new (.cells [] e false)).put h.next .dead).new (.cells xs.flatten e false),?_,.inr ⟨h.next+1,xs.length,om,rfl,by rw[AH.get_new,if_pos (by simp)],s2⟩,(KH (ab _)).trans ((Ext.put (ab _)).trans (KH (by simp))),by simp⟩
  simp only[fB,s1,ho,if_true,if_neg hz,g0,aW g0]
  rw[bS,if_neg om,if_pos ⟨hl,hl2⟩]
  simp
theorem uD {h:AH}{v:AV}{xs:List (Int)} (hv:SlI h v xs) (hl:xs.length<2 ^ 34) :
 C prg 56 [v] h λr h'=>IsSl h' 1 h.next r (xs.flatMap eI)∧Ext h.next h h'∧(r=.nils↔v=.nils):=by
 refine KK pf56 ?_
 refine ai (au (Mi0) ?_)
 obtain⟨b,hb,k1,k2⟩:=Ix hv
 refine ai (ai (au (Mi1 hb) ?_))
 refine kG (t:=b) (Z0) (λq=>?_) λq=>?_
 ·obtain⟨rfl,hx⟩:=k1 q
  rw[List.map_eq_nil_iff] at hx
  subst hx
  refine ai (au (M0) ?_)
  exact bM ⟨.nils,(by simp only[rs,rf56,am,aH,simprocAttr]<;>rfl),.inl ⟨rfl,rfl⟩,KI,by simp⟩
 ·have hvv:=k2 q
  refine bH ?_
  obtain⟨r,h',a1,a2,a3,a4⟩:=Jl (bytes:=8) hv EG (by rw[ae]; unfold aU; omega) (by rw[ae]; unfold aU; omega)
  refine ai (au (Mi1 a1) ?_)
  exact bM ⟨r,(by simp only[rs,rf56,am,aH,simprocAttr]<;>rfl),a2,a3,by simp [a4,hvv]⟩
open Go.Am
theorem Kw {h:AH}{gb len cap e bytes:Nat}{A Z:List AV}{v:AV}{xs:List (List AV)} (hg:h.get gb=some (.cells (A++Z) e false)) (hA:A.length=len*e) (hv:Sl h e v xs) (ho:xs.flatten.all AV.one=true) (hc:len+xs.length≤cap) (hz:xs.length*e≤Z.length) :
 ∃ h',fB h e bytes (.sl gb 0 len cap) v=some (.sl gb 0 (len+xs.length) cap,h')∧Upd h h' gb (.cells (A++xs.flatten++Z.drop (xs.length*e)) e false):=by
 obtain⟨s1,s2⟩:=hv.src
 by_cases hn:xs.length=0
 ·refine⟨h,?_,?_⟩
  ·simp only[fB,s1,ho,if_true,hn,cZ]
  ·have:xs=[]:=bd.1 hn
   subst this
   simp only[lZ,cX,aO,ng,bI]
   exact Upd.refl hg
 ·have w:bX h gb (0+len*e) xs.flatten=some (h.put gb (.cells (A++xs.flatten++Z.drop (xs.length*e)) e false)):=by
   rw[fz hg,bS,if_pos (by rw[s2,aC]; omega)]
   congr 3
   unfold dL
   rw[← hA,List.take_left',GD,List.drop_of_length_le om,s2]
   ·simp
   ·rfl
  refine⟨_,?_,KJ hg⟩
  simp only[fB,s1,ho,if_true,if_neg hn,if_pos hc,w,aG]
theorem ff {α:Type}{xss:List (List α)}{k:Nat} (hk:k<xss.length):(xss.take (k+1)).flatten=(xss.take k).flatten++xss[k]:=by
 rw[dN hk,gC]
 simp
theorem jl {α:Type} (xss:List (List α)) (k:Nat):(xss.take k).flatten.length≤xss.flatten.length:=by
 conv=>rhs; rw[← cA k xss]
 rw[gC,aC]
 omega
theorem DR {h:AH}{e:Nat}:slV h e .nils none (some (.int .i64 0)) none=some .nils:=rfl
theorem wW {z:List AV}:∀ n,(cI z n).length=n*z.length
 | 0=>by simp [cI]
 | n+1=>by simp only[cI,aC,wW n,da]; omega
theorem tz {z:List AV}:∀ k n,(cI z (k+n)).drop (k*z.length)=cI z n
 | 0,n=>by simp
 | k+1,n=>by
   have e1:cI z (k+1+n)=z++cI z (k+n):=by rw[show k+1+n=(k+n)+1 by omega]; rfl
   have e2:(k+1)*z.length=z.length+k*z.length:=by rw[da]; omega
   rw[e1,e2,← Kz,nX,tz k n]
theorem Fz {h:AH}{N:Nat} (hN:N<2 ^ 34):C prg 91 [.nils,.int .i64 (N:Nat)] h λr h'=>(N=0∧r=.nils∧h'=h)∨(0<N∧r=.sl h.next 0 0 N∧h'=h.new (.cells (cI [.int .i64 0] N) 1 false)):=by
 refine KK pf91 ?_
 have c1:decide (((N:Nat):Int)<0)=false:=aK om
 have w1:IntKind.i64.wrap (0-0)=0:=by decide
 have w2:IntKind.i64.wrap (((N:Nat):Int)-0)=((N:Nat):Int):=by rw[et om om]; omega
 have cp:IP .nils=some (.int .i64 0):=rfl
 refine ai (au (Mi0) ?_)
 refine ai (ai (au (Mi0) ?_))
 refine dn (I1 c1) (bH ?_)
 refine ai (ai (au (Ji3 cp w1 w2) ?_))
 refine ai (ai (au (J0) ?_))
 refine kG (t:=decide (0<N)) (by simp only[am,aH,↓reduceIte,Nat.reduceEqDiff,Int.reduceEq,Nat.reduceAdd,Nat.reduceLeDiff,reduceCtorEq]; exact congrArg AV.bool (by simp only[decide_eq_decide]; omega)) (λq=>?_) λq=>?_
 ·have q:0<N:=du q
  have q0:¬ ((N:Nat):Int)=0:=om
  have az:Dr h [.int .i64 0] 8 .nils (.int .i64 (N:Nat))=some (.sl h.next 0 N N,h.new (.cells (cI [.int .i64 0] N) 1 false)):=by
   simp only[Dr,if_neg q0]
   rw[if_pos ⟨om,by unfold aU; omega,by unfold aU; omega⟩]
   simp
  have g1:(h.new (.cells (cI [.int .i64 0] N) 1 false)).get h.next=some (.cells (cI [.int .i64 0] N) 1 false):=by rw[AH.get_new,if_pos rfl]
  have s1:slV (h.new (.cells (cI [.int .i64 0] N) 1 false)) 1 (.sl h.next 0 N N) none (some (.int .i64 0)) none=some (.sl h.next 0 0 N):=by
   have:=jz (k:=.i64) (show 0≤N by omega)
   simp only[slV,g1,if_true,sT,this,aG]
   have h0:bnd (.int .i64 0) N=some 0:=this
   rw[h0]
   simp only[aG]
   split<;>simp
  refine au (by simp only[am,aH,simprocAttr,bN,dZ,bO,cp,DR,az,s1]<;>rfl) ?_
  refine ai (au (M0) ?_)
  exact bM ⟨_,(by simp only[rs,rf91,am,aH,simprocAttr]<;>rfl),.inr ⟨q,rfl,rfl⟩⟩
 ·have q:¬ 0<N:=of_decide_eq_false q
  refine bH (ai (au (Mi0) ?_))
  exact bM ⟨_,(by simp only[rs,rf91,am,aH,simprocAttr]<;>rfl),.inl ⟨om,rfl,rfl⟩⟩
theorem sj {h:AH}{v:AV}{vs:List AV}{xss:List (List (Int))} (hv:Sl h 1 v (vs.map λx=>[x])) (hl:vs.length=xss.length) (hx:∀ (i:Nat) (w:AV) (xs:List (Int)),vs[i]?=some w→xss[i]?=some xs→SlI h w xs) (hn:xss.length<2 ^ 30) (hs:xss.flatten.length<2 ^ 34) :
 C prg 81 [v] h λr h'=>IsSl h' 1 h.next r (xss.flatten.flatMap eI)∧Ext h.next h h':=by
 have el:=hv.len
 rw[ae,hl] at el
 have hvk:∀ (k:Nat) (hk:k<xss.length),∃ b p,kV 1 v (.int .i64 (k:Nat))=some (.ptr b p)∧ak h b p 1=some [vs[k]'om]∧b<h.next:=λk hk=>hv.at1 (by rw[aF,ah om]; rfl)
 have hxk:∀ (k:Nat) (hk:k<xss.length),SlI h (vs[k]'om) xss[k]:=λk hk=>hx k _ _ (ah _) (ah hk)
 refine KK pf81 ?_
 refine ai (au (Mi0) ?_)
 refine ai (au (M0) ?_)
 refine ai (ai (au (Mi1 el) ?_))
 refine ig (α:=Unit) (N:=xss.length) (λk _=>[(0,v),(9,v),(3,.int .i64 ((xss.take k).flatten.length:Nat))]) (λ_ _ h'=>h'=h) () (λ_ _=>rfl) om (by simp only[cq,cQ,am,aH,↓reduceIte,Nat.reduceEqDiff,Int.reduceEq,Nat.reduceAdd,Nat.reduceLeDiff,reduceCtorEq,bN,eD,lZ,bg]) rfl ?_ ?_
 ·rintro k _ ts h1 hk rfl ⟨ei,en,e0,e9,e3,-⟩
  simp only at ei en e0 e9 e3
  obtain⟨b1,p1,a1,r1,_⟩:=hvk k hk
  have lk:=(hxk k hk).len
  rw[ae] at lk
  have hle:=jl xss (k+1)
  rw[ff hk,aC] at hle
  have w1:IntKind.i64.wrap ((((xss.take k).flatten.length:Nat):Int)+((xss[k].length:Nat):Int))=(((xss.take (k+1)).flatten.length:Nat):Int):=by
   rw[et om om,ff hk,aC]
   omega
  have c1:decide ((((xss.take (k+1)).flatten.length:Nat):Int)<0)=false:=aK om
  refine ai (au (M4 e9 ei a1 r1) ?_)
  refine ai (au (M3 e3 lk w1) ?_)
  refine ai (au (M1 c1) ?_)
  refine dn (I0) (bH ⟨(),rfl,by simp only[cq,cQ,am,aH,↓reduceIte,Nat.reduceEqDiff,Int.reduceEq,Nat.reduceAdd,Nat.reduceLeDiff,reduceCtorEq,ei,en,e0,e9]⟩)
 ·rintro _ ts h1 rfl ⟨e0,e9,e3,-⟩
  simp only at e0 e9 e3
  rw[dI] at e3
  refine ai (bU (bu 1 (M1 e3) rfl (Z1 e3) (M1 e3) (Fz hs) λg h2 hq=>?_))
  refine bP (M0) ?_
  refine ai (ai (au (M2 e0 el) ?_))
  rcases hq with ⟨hz,rfl,rfl⟩|⟨hz,rfl,rfl⟩
  ·refine ig (α:=Unit) (N:=xss.length) (λ_ _=>[(25,v),(6,.nils)]) (λ_ _ h'=>h'=h2) () (λ_ _=>rfl) om (O1 e0) rfl ?_ ?_
   ·rintro k _ ts h1 hk rfl ⟨ei,en,e25,e6,-⟩
    simp only at ei en e25 e6
    obtain⟨b1,p1,a1,r1,_⟩:=hvk k hk
    have hle:=jl xss (k+1)
    rw[ff hk,aC] at hle
    have hk0:xss[k]=[]:=bd.1 om
    have s1:=(hxk k hk).src.1
    rw[hk0] at s1
    have ap:fB h1 1 8 .nils (vs[k]'om)=some (.nils,h1):=by simp [fB,s1]
    refine ai (au (M4 e25 ei a1 r1) ?_)
    refine au (M2 e6 ap) ?_
    exact⟨(),rfl,by simp only[cq,cQ,am,aH,↓reduceIte,Nat.reduceEqDiff,Int.reduceEq,Nat.reduceAdd,Nat.reduceLeDiff,reduceCtorEq,ei,en,e25]⟩
   ·rintro _ ts h1 rfl ⟨e25,e6,-⟩
    simp only at e25 e6
    refine ai (au (M1 e6) ?_)
    exact bM ⟨_,(by simp only[rs,rf81,am,aH,simprocAttr]<;>rfl),.inl ⟨rfl,by rw[bd.1 hz]; rfl⟩,KI⟩
  ·have g2:(h1.new (.cells (cI [.int .i64 0] xss.flatten.length) 1 false)).get h1.next=some (.cells (cI [.int .i64 0] xss.flatten.length) 1 false):=by rw[AH.get_new,if_pos rfl]
   have x2:Ext h1.next h1 (h1.new (.cells (cI [.int .i64 0] xss.flatten.length) 1 false)):=KH (ab _)
   generalize h1.new (.cells (cI [.int .i64 0] xss.flatten.length) 1 false)=h2 at *
   refine ig (α:=Unit) (N:=xss.length) (λk _=>[(25,v),(6,.sl h1.next 0 (xss.take k).flatten.length xss.flatten.length)])
    (λk _ h'=>h'.get h1.next=some (.cells ((xss.take k).flatten.flatMap eI++cI [.int .i64 0] (xss.flatten.length-(xss.take k).flatten.length)) 1 false)∧Ext h1.next h1 h') () (λ_ _=>rfl) om (by simp only[cq,cQ,am,aH,↓reduceIte,Nat.reduceEqDiff,Int.reduceEq,Nat.reduceAdd,Nat.reduceLeDiff,reduceCtorEq,e0,eD,lZ,aO]) ⟨g2,x2⟩ ?_ ?_
   ·rintro k _ ts h3 hk ⟨j1,j2⟩ ⟨ei,en,e25,e6,-⟩
    simp only at ei en e25 e6
    obtain⟨b1,p1,a1,r1,hb⟩:=hvk k hk
    have hle:=jl xss (k+1)
    rw[ff hk,aC] at hle
    have fl:((xss.take k).flatten.flatMap eI).length=(xss.take k).flatten.length*1:=eY (f:=eI) (e:=1) (λ_=>rfl) _
    obtain⟨h4,p4,u4⟩:=Kw (bytes:=8) (cap:=xss.flatten.length) j1 fl ((hxk k hk).ext j2 (ab _)) EG (by rw[ae]; omega) (by rw[ae,wW]; simp only[aB,aO]; omega)
    have ef:(xss.take k).flatten.length+xss[k].length=(xss.take (k+1)).flatten.length:=by rw[ff hk,aC]
    rw[ae,ef] at p4
    have e2:(xss.take k).flatten.flatMap eI++(xss[k].map eI).flatten++(cI [.int .i64 0] (xss.flatten.length-(xss.take k).flatten.length)).drop ((xss[k].map eI).length*1)=(xss.take (k+1)).flatten.flatMap eI++cI [.int .i64 0] (xss.flatten.length-(xss.take (k+1)).flatten.length):=by
     rw[ff hk,dU,← qj,ae,aC]
     congr 1
     rw[show xss.flatten.length-(xss.take k).flatten.length=xss[k].length+(xss.flatten.length-((xss.take k).flatten.length+xss[k].length)) by omega]
     exact tz (z:=[.int .i64 0]) _ _
    rw[e2] at u4
    have r1':ak h3 b1 p1 1=some [vs[k]'om]:=by rw[cF (j2.gt _ hb)]; exact r1
    refine ai (au (M4 e25 ei a1 r1') ?_)
    refine au (M2 e6 p4) ?_
    exact⟨(),⟨u4.get,j2.trans (u4.ext (ab _))⟩,by simp only[cq,cQ,am,aH,↓reduceIte,Nat.reduceEqDiff,Int.reduceEq,Nat.reduceAdd,Nat.reduceLeDiff,reduceCtorEq,ei,en,e25]⟩
   ·rintro _ ts h3 ⟨j1,j2⟩ ⟨e25,e6,-⟩
    simp only at e25 e6
    rw[dI] at j1 e6
    refine ai (au (M1 e6) ?_)
    refine bM ⟨_,(by simp only[rs,rf81,am,aH,simprocAttr]<;>rfl),.inr ⟨h1.next,xss.flatten.length,ab _,rfl,?_,eY (f:=eI) (e:=1) (λ_=>rfl) _⟩,j2⟩
    rw[j1,dT]
    simp [cI]
end Go.Proofs.Ytpeemonpdlifbaa
