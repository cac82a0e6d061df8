/- The functions in the clean machine's form -/
import Derived.Test.YtpeemonpdlifbaaGreatVTAB
import Derived.Test.YtpeemonpdlifbaaGreatVAmK
import Derived.Test.YtpeemonpdlifbaaGreatVAmEnd
import Derived.Test.YtpeemonpdlifbaaGreatVAmR
import Derived.Test.YtpeemonpdlifbaaGreatVAmL
set_option linter.all false
namespace Go.Proofs.YtpeemonpdlifbaaGreat
open Go.Am
set_option maxRecDepth 100000
def mks:List (Nat×RF):=[(79,qU),(25,pR 26)]
def tab:List (Nat×RF):=[(3,rf3),(4,rf4),(5,rf5),(6,rf6),(7,rf7),(8,rf8),(9,rf9),(10,rf10),(11,rf11),(12,rf12),(13,rf13),(14,rf14),(15,rf15),(16,rf16),(17,rf17),(18,rf18),(19,rf19),(20,rf20),(21,rf21),(22,rf22),(23,rf23),(24,rf24),(25,rf25),(27,rf27),(28,rf28),(29,rf29),(30,rf30),(31,rf31),(32,rf32),(33,rf33),(34,rf34),(35,rf35),(36,rf36),(37,rf37),(38,rf38),(39,rf39),(40,rf40),(41,rf41),(42,rf42),(43,rf43),(44,rf44),(45,rf45),(46,rf46),(47,rf47),(48,rf48),(49,rf49),(50,rf50),(51,rf51),(52,rf52),(53,rf53),(54,rf54),(55,rf55),(56,rf56),(57,rf57),(58,rf58),(59,rf59),(60,rf60),(61,rf61),(70,rf70),(71,rf71),(72,rf72),(73,rf73),(74,rf74),(75,rf75),(76,rf76),(77,rf77),(78,rf78),(79,rf79),(80,rf80),(86,rf86),(87,rf87),(88,rf88),(89,rf89),(91,rf91)]
noncomputable def prg:RP:=λf=>lkp tab f (zk Tryz.prog mks f)
theorem pf3:prg 3=some rf3:=rfl
theorem pf4:prg 4=some rf4:=rfl
theorem pf5:prg 5=some rf5:=rfl
theorem pf6:prg 6=some rf6:=rfl
theorem pf7:prg 7=some rf7:=rfl
theorem pf8:prg 8=some rf8:=rfl
theorem pf9:prg 9=some rf9:=rfl
theorem pf10:prg 10=some rf10:=rfl
theorem pf11:prg 11=some rf11:=rfl
theorem pf12:prg 12=some rf12:=rfl
theorem pf13:prg 13=some rf13:=rfl
theorem pf14:prg 14=some rf14:=rfl
theorem pf15:prg 15=some rf15:=rfl
theorem pf16:prg 16=some rf16:=rfl
theorem pf17:prg 17=some rf17:=rfl
theorem pf18:prg 18=some rf18:=rfl
theorem pf19:prg 19=some rf19:=rfl
theorem pf20:prg 20=some rf20:=rfl
theorem pf21:prg 21=some rf21:=rfl
theorem pf22:prg 22=some rf22:=rfl
theorem pf23:prg 23=some rf23:=rfl
theorem pf24:prg 24=some rf24:=rfl
theorem pf25:prg 25=some rf25:=rfl
theorem pf27:prg 27=some rf27:=rfl
theorem pf28:prg 28=some rf28:=rfl
theorem pf29:prg 29=some rf29:=rfl
theorem pf30:prg 30=some rf30:=rfl
theorem pf31:prg 31=some rf31:=rfl
theorem pf32:prg 32=some rf32:=rfl
theorem pf33:prg 33=some rf33:=rfl
theorem pf34:prg 34=some rf34:=rfl
theorem pf35:prg 35=some rf35:=rfl
theorem pf36:prg 36=some rf36:=rfl
theorem pf37:prg 37=some rf37:=rfl
theorem pf38:prg 38=some rf38:=rfl
theorem pf39:prg 39=some rf39:=rfl
theorem pf40:prg 40=some rf40:=rfl
theorem pf41:prg 41=some rf41:=rfl
theorem pf42:prg 42=some rf42:=rfl
theorem pf43:prg 43=some rf43:=rfl
theorem pf44:prg 44=some rf44:=rfl
theorem pf45:prg 45=some rf45:=rfl
theorem pf46:prg 46=some rf46:=rfl
theorem pf47:prg 47=some rf47:=rfl
theorem pf48:prg 48=some rf48:=rfl
theorem pf49:prg 49=some rf49:=rfl
theorem pf50:prg 50=some rf50:=rfl
theorem pf51:prg 51=some rf51:=rfl
theorem pf52:prg 52=some rf52:=rfl
theorem pf53:prg 53=some rf53:=rfl
theorem pf54:prg 54=some rf54:=rfl
theorem pf55:prg 55=some rf55:=rfl
theorem pf56:prg 56=some rf56:=rfl
theorem pf57:prg 57=some rf57:=rfl
theorem pf58:prg 58=some rf58:=rfl
theorem pf59:prg 59=some rf59:=rfl
theorem pf60:prg 60=some rf60:=rfl
theorem pf61:prg 61=some rf61:=rfl
theorem pf70:prg 70=some rf70:=rfl
theorem pf71:prg 71=some rf71:=rfl
theorem pf72:prg 72=some rf72:=rfl
theorem pf73:prg 73=some rf73:=rfl
theorem pf74:prg 74=some rf74:=rfl
theorem pf75:prg 75=some rf75:=rfl
theorem pf76:prg 76=some rf76:=rfl
theorem pf77:prg 77=some rf77:=rfl
theorem pf78:prg 78=some rf78:=rfl
theorem pf79:prg 79=some rf79:=rfl
theorem pf80:prg 80=some rf80:=rfl
theorem pf86:prg 86=some rf86:=rfl
theorem pf87:prg 87=some rf87:=rfl
theorem pf88:prg 88=some rf88:=rfl
theorem pf89:prg 89=some rf89:=rfl
theorem pf91:prg 91=some rf91:=rfl
theorem ps79:prg (79+md)=some qU:=rfl
theorem ps25:prg (25+md)=some (pR 26):=rfl
theorem det:Det (vM Tryz.prog mks) prg:=Js (by simp only[mks,wR]; exact⟨rfl,rfl,λ_ h=>by cases h⟩) rfl ⟨cf3,cf4,cf5,cf6,cf7,cf8,cf9,cf10,cf11,cf12,cf13,cf14,cf15,cf16,cf17,cf18,cf19,cf20,cf21,cf22,cf23,cf24,cf25,cf27,cf28,cf29,cf30,cf31,cf32,cf33,cf34,cf35,cf36,cf37,cf38,cf39,cf40,cf41,cf42,cf43,cf44,cf45,cf46,cf47,cf48,cf49,cf50,cf51,cf52,cf53,cf54,cf55,cf56,cf57,cf58,cf59,cf60,cf61,cf70,cf71,cf72,cf73,cf74,cf75,cf76,cf77,cf78,cf79,cf80,cf86,cf87,cf88,cf89,cf91,trivial⟩
open Go.Am
open Go.RowKit
theorem HE {α:Type}{f:α→List AV}{h:AH}{e b n:Nat}{xs:List α}{ro:Bool} (hf:∀ x,(f x).length=e) (hg:h.get b=some (.cells (xs.flatMap f) e ro)) (hn:n=xs.length):Sl h e (.sl b 0 n n) (xs.map f):=by
 subst hn
 have hl:=gc hf xs
 refine .inr ⟨b,0,xs.length,_,ro,by rw[ak],hg,by rw[ak]; exact ae _,by rw[ak,hl]; omega,λi x hx=>?_⟩
 rw[aG] at hx
 obtain⟨y,hy,rfl⟩:=aD.1 hx
 rw[bM]
 exact wj hf xs i y hy
def nJ:List Int→List (Int×Int)
 | x::y::r=>(x,y)::nJ r
 | _=>[]
theorem sj:∀ (n:Nat) (ns:List Int),ns.length=n*2→(nJ ns).flatMap eE=ns.map (AV.int .i64)∧(nJ ns).length=n
 | 0,[],_=>⟨rfl,rfl⟩
 | n+1,x::y::r,h=>by
   have ih:=sj n r (by simp only[aw] at h; omega)
   refine⟨?_,?_⟩
   ·simp only[nJ,fh,eE,bA,aE,bj]
    rw[← ih.1]
   ·simp only[nJ,aw,ih.2]
 | 0,_::_,h=>by simp at h
 | n+1,[],h=>by simp at h
 | n+1,[x],h=>by simp only[aw,aP] at h; omega
theorem rowE1 {K:Bs}{σ:Sg}{h:AH}{w:World} (r:Rep K σ h w) (hB:K.B=w.heap.size) {k:IntKind}{e:Nat} (he:0<e) {a:Option Addr}{len cap:Nat}{zs:List Int} (hr:IsRowE k e w a len cap zs) (hspot:∀ x,a=some x→x.spot=none) :
 ∃ σ' o v,σ.le σ'∧Rep K σ' (h.new o) w∧VR σ' v (.slice a len cap)∧((v=.nils∧len=0)∨(v=.sl h.next 0 len len∧o=.cells ((zs.take (len*e)).map (AV.int k)) e true∧(zs.take (len*e)).length=len*e)):=by
 rcases hr with ⟨rfl,rfl,rfl,rfl⟩|⟨x,rfl,h1,h2,h3,h4,h5⟩
 ·obtain⟨σ',q1,q2⟩:=r.dummy
  exact⟨σ',_,.nils,q1,q2,by simp [VR],.inl ⟨rfl,rfl⟩⟩
 ·have hsp:=hspot x rfl
  have hadd:∀ j,x.add j=⟨x.block,x.off+j,none⟩:=by
   intro j
   obtain⟨xb,xo,xs⟩:=x
   simp only at hsp
   subst hsp
   exact Addr.add_lit _ _ _
  have hle:len*e≤cap*e:=gh e h1
  have hl:(zs.take (len*e)).length=len*e:=by rw[bS]; omega
  cases zs with
  | nil =>
    simp only[aP] at h3
    have e2:cap=0:=by
     rcases Nat.eq_zero_or_pos cap with q|q
     ·exact q
     ·have:=Nat.mul_pos q he; omega
    have e1:len=0:=om
    subst e1
    subst e2
    refine⟨σ.add h.next ⟨x.block,x.off,e,0,0⟩,.cells [] e true,.sl h.next 0 0 0,Sg.le_add r.fresh,r.came [] e _ rfl (.inl rfl),?_,.inr ⟨rfl,by rw[nq]; rfl,hl⟩⟩
    simp only[VR]
    exact⟨_,x.off,0,Sg.add_at _ _ _,by obtain⟨xb,xo,xs⟩:=x; simp only at hsp; subst hsp; rfl,.inl trivial,ae _,ae _,.inl rfl⟩
  | cons z zs =>
    have h40:=h4 0 (by simp)
    rw[hadd] at h40
    unfold World.cell? at h40
    simp only at h40
    split at h40
    ·rename_i C t fr hC
     have hall:∀ i,i<(z::zs).length→C[x.off+i]?=some (.int k ((z::zs).getD i 0)):=by
      intro i hi
      have:=h4 i hi
      rw[hadd] at this
      simpa [World.cell?,hC] using this
     have hN:x.off+cap*e≤C.size:=by
      have:=hall (cap*e-1) (by simp at h3 ⊢; omega)
      have hlt:=(cT.1 this).1
      simp at h3
      omega
     have hblk:x.block<w.heap.size:=(cT.1 hC).1
     refine⟨σ.add h.next ⟨x.block,x.off,e,C.size,t⟩,.cells (((z::zs).take (len*e)).map (AV.int k)) e true,.sl h.next 0 len len,Sg.le_add r.fresh,r.came _ e _ rfl (.inr ⟨by rw[hB]; exact hblk,fun τ _=>?_⟩),?_,.inr ⟨rfl,rfl,hl⟩⟩
     ·refine⟨C,t,fr,hC,rfl,rfl,?_,λj y hy=>?_,λq=>by (cases q),rfl⟩
      ·show x.off+_≤C.size
       rw[ak,hl]; omega
      ·have hj:j<len*e:=by
        rcases bU j (len*e) with q|q
        ·exact q
        ·rw[cx (by rw[ak,hl]; exact q)] at hy; cases hy
       rw[aG,cQ,if_pos hj] at hy
       refine⟨.int k ((z::zs).getD j 0),hall j om,?_⟩
       rw[ai]
       cases hq:(z::zs)[j]? with
       | none=>rw[hq] at hy; cases hy
       | some u=>rw[hq] at hy; simp only[aH,aa] at hy; subst hy; simp [VR]
     ·simp only[VR]
      refine⟨_,x.off,cap,Sg.add_at _ _ _,by obtain⟨xb,xo,xs⟩:=x; simp only at hsp; subst hsp; rfl,.inr (by simp),h1,ae _,.inr ⟨ae _,?_⟩⟩
      show x.off+cap*e≤C.size
      omega
    ·cases h40
theorem Lk {w:World}{P:Program}{a0:Option Addr}{l0 c0:Nat}{z0:List Int} (w0:IsRowE .i64 2 w a0 l0 c0 z0) (s0:∀ x,a0=some x→x.spot=none) :
 ∃ (σ:Sg) (os:List AO) (v0:AV),os.length=1∧GL σ∧Rep ⟨w.heap.size,w,P,[]⟩ σ (news os AH.zero) w∧VR σ v0 (.slice a0 l0 c0)∧SlE (news os AH.zero) v0 (nJ (z0.take (l0*2))):=by
 have st:=St0.zero P w
 obtain⟨σ1,o0,v0,r1,r2,r3,r4⟩:=rowE1 st.rep rfl (by decide) w0 s0
 refine⟨σ1,[o0],v0,rfl,st.gl.mono r1,r2,r3,?_⟩
 rcases r4 with ⟨h1,h2⟩|⟨h1,h2,h3⟩
 ·subst h1 h2
  exact .inl ⟨by simp [nJ],.inl rfl⟩
 ·subst h1
  obtain⟨f1,f2⟩:=sj l0 (z0.take (l0*2)) h3
  refine HE (f:=eE) (ro:=true) (λ_=>rfl) ?_ (by rw[f2])
  show (AH.zero.new o0).get AH.zero.next=_
  rw[AH.get_new,if_pos rfl,h2,f1]
open Go.Am
theorem FU {h:AH}{v:AV}{xs:List (Int×Int)}{P:Int×Int→Bool}{k:FuncId}{caps:List AV} (hv:SlE h v xs) (hl:xs.length<2 ^ 40)
 (hf:∀ x∈xs,∀ h',Ext h.next h h'→C prg k ([.agg (eE x)]++caps) h' λr h''=>r=.bool (P x)∧Ext h'.next h' h'') :
 C prg 41 [v,.fn k caps] h λr h'=>r=.int .i64 (gU P xs 0)∧Ext h.next h h':=by
 refine LB pf41 ?_
 have hlen:=hv.len
 rw[ak] at hlen
 refine aj (aB (Mi0) ?_)
 refine aj (aj (aB (Mi1 hlen) ?_))
 refine aj (sV (λts h1=>gU P xs 0=-1∧Ext h.next h h1) (cL (fW (λn ts h1=>∃ i,n=xs.length-i∧i≤xs.length∧Ext h.next h h1∧gU P (xs.drop i) i=gU P xs 0∧aY ts 0=v∧aY ts 1=.fn k caps∧aY ts 7=.int .i64 (xs.length:Nat)∧aY ts 8=.int .i64 (i:Nat)) ?_ (n:=xs.length) ⟨0,rfl,fq _,Lz,by rw[bJ],Ii0,Ii0,Ii0,by simp only[am,aF,↓reduceIte,Nat.reduceEqDiff,Int.reduceEq,Nat.reduceAdd,Nat.reduceLeDiff,reduceCtorEq,bH]; rfl⟩)) ?_)
 ·rintro n ts h1 ⟨i,rfl,hi,ex,hF,e0,e1,e7,e8⟩
  refine aj (aB (M2 e7 e8) ?_)
  refine aj (jq (t:=decide (i<xs.length)) (Z1 @jl) (λq=>?_) λq=>?_)
  ·have q:i<xs.length:=dV q
   obtain⟨b,p,a1,r1,_,_⟩:=(hv.ext ex (ae _)).at (fE (f:=eE) q)
   refine bK (aj (cL (aj (aB (M1 e8) ?_))))
   have hc:=hf _ (aR q) h1 ex
   refine aj (bO (ka 5 (M6 e0 e1 e7 e8 a1 r1) rfl (Z6 e0 e1 e7 e8 a1 r1) (M6 e0 e1 e7 e8 a1 r1) (M6 e0 e1 e7 e8 a1 r1) (hc) λr h2 hq=>?_))
   obtain⟨rfl,ex2⟩:=hq
   have ex3:=ex.trans (ex2.mono ex.nx)
   refine bI (M0) ?_
   refine jq (t:=P xs[i]) (Z0) (λq2=>?_) λq2=>?_
   ·refine aj (aB (M0) ?_)
    refine bG ⟨.int .i64 (i:Nat),(by simp only[rs,rf41,am,aF,simprocAttr]<;>rfl),?_,ex3⟩
    rw[← hF,im P q,if_pos q2]
   ·have w1:IntKind.i64.wrap (((i:Nat):Int)+1)=((i+1:Nat):Int):=fz om om
    refine bK (aB (M2 e8 w1) ?_)
    refine⟨xs.length-(i+1),om,i+1,rfl,om,ex3,?_,Z1 e0,Z1 e1,Z1 e7,Z2 e8 w1⟩
    rw[← hF,im P q,if_neg (by simp [q2])]
  ·have q:¬ i<xs.length:=of_decide_eq_false q
   refine ft ⟨λ_=>⟨?_,ex⟩,λe=>absurd rfl e⟩
   rw[← hF,dm om]
   rfl
 ·rintro ts h1 ⟨hF,ex⟩
  refine aj (aB (M0) ?_)
  exact bG ⟨.int .i64 (-1),(by simp only[rs,rf41,am,aF,simprocAttr]<;>rfl),by rw[hF],ex⟩
theorem uU {h:AH}{v:AV}{xs:List (Int×Int)}{P:Int×Int→Bool}{k:FuncId}{caps:List AV} (hv:SlE h v xs) (hl:xs.length<2 ^ 40)
 (hf:∀ x∈xs,∀ h',Ext h.next h h'→C prg k ([.agg (eE x)]++caps) h' λr h''=>r=.bool (P x)∧Ext h'.next h' h'') :
 C prg 21 [v,.fn k caps] h λr h'=>r=.bool (xs.any P)∧Ext h.next h h':=by
 refine LB pf21 ?_
 refine aj (aB (Mi0) ?_)
 refine aj (bO (bt 2 (Mi0) rfl (Zi0) (Mi0) (FU hv hl hf) λr h2 hq=>?_))
 obtain⟨rfl,ex⟩:=hq
 have hb:decide ((0:Int)≤gU P xs 0)=xs.any P:=by
  have:=(lF P xs 0).2
  cases hq:xs.any P with
  | true=>rw[aA]; rw[hq] at this; simp at this; omega
  | false=>rw[aV]; have:=this.2 hq; omega
 refine bI (M1 hb) ?_
 exact bG ⟨_,(by simp only[rs,rf21,am,aF,simprocAttr]<;>rfl),rfl,ex⟩
theorem qG {h:AH}{v:AV}{xs:List (Int)}{y:Int} (hv:SlI h v xs) (hl:xs.length<2 ^ 40) :
 C prg 31 [v,.int .i64 y] h λr h'=>r=.int .i64 (gU (y==·) xs 0)∧Ext h.next h h':=by
 refine LB pf31 ?_
 have hlen:=hv.len
 rw[ak] at hlen
 have ex0:Ext h.next h h:=Lz
 refine aj (aB (Mi0) ?_)
 refine aj (aj (aB (Mi1 hlen) ?_))
 refine aj (sV (λts h1=>gU (y==·) xs 0=-1∧h1=h) (cL (fW (λn ts h1=>∃ i,n=xs.length-i∧i≤xs.length∧h1=h∧gU (y==·) (xs.drop i) i=gU (y==·) xs 0∧aY ts 0=v∧aY ts 1=.int .i64 y∧aY ts 7=.int .i64 (xs.length:Nat)∧aY ts 8=.int .i64 (i:Nat)) ?_ (n:=xs.length) ⟨0,rfl,fq _,rfl,by rw[bJ],Ii0,Ii0,Ii0,by simp only[am,aF,↓reduceIte,Nat.reduceEqDiff,Int.reduceEq,Nat.reduceAdd,Nat.reduceLeDiff,reduceCtorEq,bH]; rfl⟩)) ?_)
 ·rintro n ts h1 ⟨i,rfl,hi,rfl,hF,e0,ek,e7,e8⟩
  refine aj (aB (M2 e7 e8) ?_)
  refine aj (jq (t:=decide (i<xs.length)) (Z1 @jl) (λq=>?_) λq=>?_)
  ·have q:i<xs.length:=dV q
   obtain⟨b,p,a1,r1,_,_⟩:=(hv.ext ex0 (ae _)).at (fE (f:=eI) q)
   refine bK (aj (cL (aj (aB (M1 e8) ?_))))
   have ceq:decide (y=xs[i])=(y==xs[i]):=rfl
   refine aj (aB (by simp only[am,aF,simprocAttr,e0,ek,e7,e8,a1,r1,ceq,eI]<;>rfl) ?_)
   refine jq (t:=y==xs[i]) (Z0) (λq2=>?_) λq2=>?_
   ·refine aj (aB (M0) ?_)
    refine bG ⟨.int .i64 (i:Nat),(by simp only[rs,rf31,am,aF,simprocAttr]<;>rfl),?_,ex0⟩
    rw[← hF,im _ q,if_pos q2]
   ·have w1:IntKind.i64.wrap (((i:Nat):Int)+1)=((i+1:Nat):Int):=fz om om
    refine bK (aB (M2 e8 w1) ?_)
    refine⟨xs.length-(i+1),om,i+1,rfl,om,rfl,?_,Z1 e0,Z1 ek,Z1 e7,Z2 e8 w1⟩
    rw[← hF,im _ q,if_neg (by simp [q2])]
  ·have q:¬ i<xs.length:=of_decide_eq_false q
   refine ft ⟨λ_=>⟨?_,rfl⟩,λe=>absurd rfl e⟩
   rw[← hF,dm om]
   rfl
 ·rintro ts h1 ⟨hF,rfl⟩
  refine aj (aB (M0) ?_)
  exact bG ⟨.int .i64 (-1),(by simp only[rs,rf31,am,aF,simprocAttr]<;>rfl),by rw[hF],ex0⟩
theorem sG {h:AH}{v:AV}{xs:List (Int)}{y:Int} (hv:SlI h v xs) (hl:xs.length<2 ^ 40) :
 C prg 15 [v,.int .i64 y] h λr h'=>r=.bool (xs.any (y==·))∧Ext h.next h h':=by
 refine LB pf15 ?_
 refine aj (aB (Mi0) ?_)
 have ex0:Ext h.next h h:=Lz
 have hc:=qG (y:=y) hv hl
 refine aj (bO (bt 2 (Mi0) rfl (Zi0) (Mi0) (hc) λr h2 hq=>?_))
 obtain⟨rfl,ex⟩:=hq
 have hb:decide ((0:Int)≤gU (y==·) xs 0)=xs.any (y==·):=by
  have:=(lF (y==·) xs 0).2
  cases hq:xs.any (y==·) with
  | true=>rw[aA]; rw[hq] at this; simp at this; omega
  | false=>rw[aV]; have:=this.2 hq; omega
 refine bI (M1 hb) ?_
 exact bG ⟨_,(by simp only[rs,rf15,am,aF,simprocAttr]<;>rfl),rfl,ex0.trans (ex.mono ex0.nx)⟩
open Go.Am
def okE (v:Int) (e:Int×Int):Bool:=decide (0≤e.1)&&decide (0≤e.2)&&decide (e.1<v)&&decide (e.2<v)
def gG (v:Int) (es:List (Int×Int)):Bool:=decide (1≤v)&&decide (v≤64)&&decide (es.length≤128)&&es.all (okE v)
def xJ (v x:Int):Bool:=decide (x<0)||decide (v≤x)
theorem yl {h:AH}{b:Nat}{x n:Int} (hr:ar h b 0 1=some [.int .i64 n]):C prg 39 [.int .i64 x,.ptr b 0] h λr h'=>r=.bool (xJ n x)∧h'=h:=by
 refine LB pf39 ?_
 refine aj (aB (Mi0) ?_)
 by_cases q:x<0
 ·have c1:decide (x<0)=true:=aL q
  refine aj (aB (Mi1 c1) ?_)
  exact bG ⟨.bool true,(by simp only[rs,rf39,am,aF,simprocAttr,c1]<;>rfl),by simp [xJ,q],rfl⟩
 ·have c1:decide (x<0)=false:=aJ q
  refine aj (aB (Mi2 c1 hr) ?_)
  exact bG ⟨.bool (decide (n≤x)),(by simp only[rs,rf39,am,aF,simprocAttr,c1]<;>rfl),by simp [xJ,q],rfl⟩
theorem FZ {h:AH}{b s:Nat}{x:Int×Int}{n:Int} (hr:ar h b 0 1=some [.int .i64 n]) (hs:ar h s 0 1=some [.fn 39 [.ptr b 0]]) (hb:b<h.next) (hsn:s<h.next) :
 C prg 40 ([.agg (eE x)]++[.ptr s 0]) h λr h'=>r=.bool (!okE n x)∧Ext h.next h h':=by
 refine LB pf40 ?_
 have fin:(!okE n x)=(xJ n x.1||xJ n x.2):=by
  obtain⟨x1,x2⟩:=x
  simp only[okE,xJ]
  by_cases a1:x1<0<;>by_cases a2:x2<0<;>by_cases a3:n≤x1<;>by_cases a4:n≤x2<;>simp [a1,a2,a3,a4]<;>omega
 rw[fin]
 refine aj (aB (by simp only[am,aF,simprocAttr,bH,eE]<;>rfl) ?_)
 have ex:Ext h.next h (h.new (.cells [.int .i64 x.1,.int .i64 x.2] 2 false)):=Ly (ae _)
 have g:(h.new (.cells [.int .i64 x.1,.int .i64 x.2] 2 false)).get h.next=some (.cells [.int .i64 x.1,.int .i64 x.2] 2 false):=by rw[AH.get_new,if_pos rfl]
 generalize h.new (.cells [.int .i64 x.1,.int .i64 x.2] 2 false)=h1 at *
 have r1:ar h1 h.next 0 1=some [.int .i64 x.1]:=by rw[bg g]; rfl
 have r2:ar h1 h.next 1 1=some [.int .i64 x.2]:=by rw[bg g]; rfl
 have hr1:ar h1 b 0 1=some [.int .i64 n]:=by rw[← hr]; exact cM (ex.gt b hb)
 have hs1:ar h1 s 0 1=some [.fn 39 [.ptr b 0]]:=by rw[← hs]; exact cM (ex.gt s hsn)
 refine aj (bO (ka 3 (by simp only[am,aF,simprocAttr,bH,eE,hs1,r1]<;>rfl) rfl (by simp only[am,aF,simprocAttr,bH,eE,hs1,r1]) (by simp only[am,aF,simprocAttr,bH,eE,hs1,r1]<;>rfl) (by simp only[am,aF,simprocAttr,bH,eE,hs1,r1]<;>rfl) (yl (x:=x.1) hr1) λr h2 hq=>?_))
 obtain⟨rfl,rfl⟩:=hq
 cases q:xJ n x.1 with
 | true =>
   refine G.nocallv 4 (M0) rfl (Z0) ?_
   refine bI (M0) ?_
   exact bG ⟨.bool true,(by simp only[rs,rf40,am,aF,simprocAttr]<;>rfl),rfl,ex⟩
 | false =>
   refine ka 4 (by simp only[am,aF,simprocAttr,bH,eE,hs1,r2]<;>rfl) rfl (by simp only[am,aF,simprocAttr,bH,eE,hs1,r2]) (by simp only[am,aF,simprocAttr,bH,eE,hs1,r2]<;>rfl) (by simp only[am,aF,simprocAttr,bH,eE,hs1,r2]<;>rfl) (yl (x:=x.2) hr1) λr h3 hq=>?_
   obtain⟨rfl,rfl⟩:=hq
   refine bI (M0) ?_
   exact bG ⟨.bool (xJ n x.2),(by simp only[rs,rf40,am,aF,simprocAttr]<;>rfl),rfl,ex⟩
theorem qI {h:AH}{n:Int}{ev:AV}{es:List (Int×Int)} (he:SlE h ev es) (hl:es.length<2 ^ 40):C prg 20 [.agg [.int .i64 n,ev]] h λr h'=>r=.bool (gG n es)∧Ext h.next h h':=by
 refine LB pf20 ?_
 obtain⟨ec,eo⟩:=he.cells
 have hlen:=he.len
 rw[ak] at hlen
 refine aj (aB (Mi0) ?_)
 have ex0:Ext h.next h (h.new (.cells [.int .i64 n,ev] 2 false)):=Ly (ae _)
 have g0:(h.new (.cells [.int .i64 n,ev] 2 false)).get h.next=some (.cells [.int .i64 n,ev] 2 false):=by rw[AH.get_new,if_pos rfl]
 have n0:(h.new (.cells [.int .i64 n,ev] 2 false)).next=h.next+1:=rfl
 generalize h.new (.cells [.int .i64 n,ev] 2 false)=h0 at *
 have gN:(h0.new (.cells [.nilf] 1 false)).get h0.next=some (.cells [.nilf] 1 false):=by rw[AH.get_new,if_pos rfl]
 have w1:bZ (h0.new (.cells [.nilf] 1 false)) h0.next 0 [.fn 39 [.ptr h.next 0]]=some ((h0.new (.cells [.nilf] 1 false)).put h0.next (.cells [.fn 39 [.ptr h.next 0]] 1 false)):=by rw[fy gN]; rfl
 have u1:Upd (h0.new (.cells [.nilf] 1 false)) ((h0.new (.cells [.nilf] 1 false)).put h0.next (.cells [.fn 39 [.ptr h.next 0]] 1 false)) h0.next (.cells [.fn 39 [.ptr h.next 0]] 1 false):=LA gN
 refine aj (aB (Mi1 w1) ?_)
 have ex1:Ext h0.next h0 ((h0.new (.cells [.nilf] 1 false)).put h0.next (.cells [.fn 39 [.ptr h.next 0]] 1 false)):=(Ly (ae _)).trans (u1.ext (ae _))
 have n1:((h0.new (.cells [.nilf] 1 false)).put h0.next (.cells [.fn 39 [.ptr h.next 0]] 1 false)).next=h0.next+1:=rfl
 have g1:=u1.get
 generalize (h0.new (.cells [.nilf] 1 false)).put h0.next (.cells [.fn 39 [.ptr h.next 0]] 1 false)=h1 at *
 clear gN w1 u1
 have g0':h1.get h.next=some (.cells [.int .i64 n,ev] 2 false):=by rw[ex1.gt _ om]; exact g0
 have r1:ar h1 h.next 0 1=some [.int .i64 n]:=by rw[bg g0']; rfl
 have r2:ar h1 h.next 1 1=some [ev]:=by rw[bg g0']; rfl
 have r3:ar h1 h0.next 0 1=some [.fn 39 [.ptr h.next 0]]:=by rw[bg g1]; rfl
 have ex:Ext h.next h h1:=ex0.trans (ex1.mono om)
 have he1:=he.ext ex (ae _)
 by_cases q1:0<n
 case neg =>
  have c1:decide (0<n)=false:=aJ q1
  refine aj (bO (jZ 18 (Mi2 r1 c1) rfl (Z1 c1) ?_))
  refine bI (M0) ?_
  exact bG ⟨.bool false,(by simp only[rs,rf20,am,aF,simprocAttr]<;>rfl),by simp [gG]; omega,ex⟩
 have c1:decide (0<n)=true:=aL q1
 by_cases q2:n≤64
 case neg =>
  have c2:decide (n≤64)=false:=aJ q2
  refine aj (bO (jZ 18 (Mi3 r1 c1 c2) rfl (Z0) ?_))
  refine bI (M0) ?_
  exact bG ⟨.bool false,(by simp only[rs,rf20,am,aF,simprocAttr]<;>rfl),by simp [gG,q2],ex⟩
 have c2:decide (n≤64)=true:=aL q2
 by_cases q3:es.length≤128
 case neg =>
  have c3:decide (((es.length:Nat):Int)≤128)=false:=aJ om
  refine aj (bO (jZ 18 (Mi6 r1 r2 hlen c1 c2 c3) rfl (Z0) ?_))
  refine bI (M0) ?_
  exact bG ⟨.bool false,(by simp only[rs,rf20,am,aF,simprocAttr]<;>rfl),by simp [gG,q3],ex⟩
 have c3:decide (((es.length:Nat):Int)≤128)=true:=aL om
 have hcf:∀ x∈es,∀ h',Ext h1.next h1 h'→C prg 40 ([.agg (eE x)]++[.ptr h0.next 0]) h' λr h''=>r=.bool (!okE n x)∧Ext h'.next h' h'':=λx _ h' hx =>
  FZ (by rw[← r1]; exact cM (hx.gt _ om)) (by rw[← r3]; exact cM (hx.gt _ om)) (by have:=hx.nx; omega) (by have:=hx.nx; omega)
 refine aj (bO (bt 18 (Mi6 r1 r2 hlen c1 c2 c3) rfl (Zi6 r1 r2 hlen c1 c2 c3) (Mi6 r1 r2 hlen c1 c2 c3) (uU he1 hl hcf) λr h2 hq=>?_))
 obtain⟨rfl,ex2⟩:=hq
 refine bI (M0) ?_
 refine bG ⟨_,(by simp only[rs,rf20,am,aF,simprocAttr]<;>rfl),?_,ex.trans (ex2.mono ex.nx)⟩
 have c4:decide (1≤n)=true:=aL om
 have c5:(!es.any λx=>!okE n x)=es.all (okE n):=by
  rw[List.not_any_eq_all_not]
  simp
 simp only[gG,c4,c2,q3,decide_true,fD,c5]
open Go.Am
theorem Fc {xs:List Int}:(xs.flatMap eI).all AV.one=true:=by
 rw[cj]
 intro x hx
 obtain⟨y,_,hy⟩:=dr.1 hx
 simp only[eI,au,bp,or_false] at hy
 subst hy; rfl
theorem Jo {v:AV}{h:AH}{e:Nat}{xs:List (List AV)} (hv:Sl h e v xs):∃ b,fM .eql .nls v .nils=some (.bool b)∧(b=true→v=.nils∧xs=[])∧(b=false→v≠.nils):=by
 rcases hv with ⟨rfl,rfl|rfl⟩|⟨b,o,c,cs,ro,rfl,hg,hc,hle,hx⟩
 ·exact⟨true,rfl,λ_=>⟨rfl,rfl⟩,λq=>by cases q⟩
 ·exact⟨false,rfl,λq=>(by cases q),λ_=>(by simp)⟩
 ·exact⟨false,rfl,λq=>(by cases q),λ_=>(by simp)⟩
theorem JZ {h:AH}{e bytes:Nat}{v:AV}{xs:List (List AV)} (hv:Sl h e v xs) (ho:xs.flatten.all AV.one=true) (hl:xs.length*bytes<be) (hl2:xs.length<be) :
 ∃ r h',ja (h.new (.cells [] e false)) e bytes (.sl h.next 0 0 0) v=some (r,h')∧IsSl h' e h.next r xs.flatten∧Ext h.next h h'∧r≠.nils:=by
 have hv':=hv.ext (Ly (o:=.cells [] e false) (ae _)) (ae _)
 obtain⟨s1,s2⟩:=hv'.src
 have g0:(h.new (.cells [] e false)).get h.next=some (.cells [] e false):=by rw[AH.get_new,if_pos rfl]
 by_cases hz:xs.length=0
 ·refine⟨.sl h.next 0 0 0,_,?_,.inr ⟨h.next,0,ae _,rfl,by rw[g0,bz.1 hz]; rfl,by rw[s2,hz]⟩,Ly (ae _),by simp⟩
  simp only[ja,s1,ho,if_true,hz]
 ·refine⟨.sl (h.next+1) 0 xs.length xs.length,((h.new (.cells [] e false)).put h.next .dead).new (.cells xs.flatten e false),?_,.inr ⟨h.next+1,xs.length,om,rfl,by rw[AH.get_new,if_pos (by simp)],s2⟩,(Ly (ae _)).trans ((Ext.put (ae _)).trans (Ly (by simp))),by simp⟩
  simp only[ja,s1,ho,if_true,if_neg hz,g0,bg g0]
  rw[bM,if_neg om,if_pos ⟨hl,hl2⟩]
  simp
theorem uX {h:AH}{v:AV}{xs:List (Int)} (hv:SlI h v xs) (hl:xs.length<2 ^ 34) :
 C prg 50 [v] h λr h'=>IsSl h' 1 h.next r (xs.flatMap eI)∧Ext h.next h h'∧(r=.nils↔v=.nils):=by
 refine LB pf50 ?_
 refine aj (aB (Mi0) ?_)
 obtain⟨b,hb,k1,k2⟩:=Jo hv
 refine aj (aj (aB (Mi1 hb) ?_))
 refine jq (t:=b) (Z0) (λq=>?_) λq=>?_
 ·obtain⟨rfl,hx⟩:=k1 q
  rw[List.map_eq_nil_iff] at hx
  subst hx
  refine aj (aB (M0) ?_)
  exact bG ⟨.nils,(by simp only[rs,rf50,am,aF,simprocAttr]<;>rfl),.inl ⟨rfl,rfl⟩,Lz,by simp⟩
 ·have hvv:=k2 q
  refine bK ?_
  obtain⟨r,h',a1,a2,a3,a4⟩:=JZ (bytes:=8) hv Fc (by rw[ak]; unfold be; omega) (by rw[ak]; unfold be; omega)
  refine aj (aB (Mi1 a1) ?_)
  exact bG ⟨r,(by simp only[rs,rf50,am,aF,simprocAttr]<;>rfl),a2,a3,by simp [a4,hvv]⟩
open Go.Am
def Rw (h:AH) (lo:Nat) (vs:List AV) (xss:List (List Int)):Prop :=
 vs.length=xss.length∧(∀ (i:Nat) (v:AV) (xs:List Int),vs[i]?=some v→xss[i]?=some xs→IsSl h 1 lo v (xs.flatMap eI))∧∀ (i j b n b' n':Nat),i≠j→vs[i]?=some (AV.sl b 0 n n)→vs[j]?=some (AV.sl b' 0 n' n')→b≠b'
theorem Rw.cong {h h':AH}{lo:Nat}{vs:List AV}{xss:List (List Int)} (hr:Rw h lo vs xss) (hk:∀ c,lo≤c→c<h.next→h'.get c=h.get c):Rw h' lo vs xss :=
 ⟨hr.1,λi v xs h1 h2=>(hr.2.1 i v xs h1 h2).cong λb n e hb=>hk b hb ((hr.2.1 i v xs h1 h2).lt e),hr.2.2⟩
theorem Rw.lt {h:AH}{lo:Nat}{vs:List AV}{xss:List (List Int)} (hr:Rw h lo vs xss) {j b n:Nat} (hj:vs[j]?=some (AV.sl b 0 n n)):b<h.next∧lo≤b:=by
 have hjl:j<vs.length:=(aK.1 hj).1
 have:=hr.2.1 j _ (xss[j]'(by rw[← hr.1]; exact hjl)) hj (ah _)
 rcases this with ⟨q,_⟩|⟨b',n',q1,q2,q3,_⟩
 ·cases q
 ·cases q2; exact⟨AH.lt_of_get q3,q1⟩
theorem Rw.push {h:AH}{lo:Nat}{vs:List AV}{xss:List (List Int)} (hr:Rw h lo vs xss) {i x:Nat}{k:Int}{xs:List Int} (hi:xss[i]?=some xs) (hlo:lo≤h.next) (hx:h.get x=some (.cells [.int .i64 k] 1 false)) (hxl:lo≤x) (hxn:∀ (j b n:Nat),vs[j]?=some (AV.sl b 0 n n)→b≠x) (hl:xs.length<2 ^ 30) :
 ∃ v v' h',vs[i]?=some v∧ja h 1 8 v (.sl x 0 1 1)=some (v',h')∧v'.cells=[v']∧v'.one=true∧Rw h' lo (vs.set i v') (xss.set i (xs++[k]))∧Ext lo h h'∧h'.next=h.next+1∧∀ c,c<h.next→(∀ (j b n:Nat),vs[j]?=some (AV.sl b 0 n n)→b≠c)→h'.get c=h.get c∧∀ (j b n:Nat),(vs.set i v')[j]?=some (AV.sl b 0 n n)→b≠c:=by
 obtain⟨r1,r2,r3⟩:=hr
 have hil:i<xss.length:=(aK.1 hi).1
 have hv:vs[i]?=some vs[i]:=ah om
 have hlen:(xs.flatMap eI).length=xs.length:=by rw[gc (f:=eI) (e:=1) (λ_=>rfl)]; omega
 obtain⟨v',h',a1,a2,a3,a4,a5,a6,a7⟩:=(r2 i _ xs hv hi).app (bytes:=8) hlo om hx hxl (λb n e=>hxn i b n (by rw[hv,e])) rfl rfl (by rw[hlen]; unfold be; omega) (by rw[hlen]; unfold be; omega)
 obtain⟨c1,c2⟩:=a2.cells
 refine⟨_,v',h',hv,a1,c1,c2,⟨by rw[bE,bE,r1],?_,?_⟩,a3,a5,λc hc hne=>⟨a6 c hc λb n e=>(hne i b n (by rw[hv,e])).symm,λj b n hj=>?_⟩⟩
 rotate_right
 ·by_cases e:i=j
  ·subst e
   rw[cR om,aa,a4] at hj
   cases hj
   omega
  ·rw[cV e] at hj
   exact hne j b n hj
 ·intro j w ys hw hy
  by_cases e:i=j
  ·subst e
   rw[cR om,aa] at hw hy
   subst hw hy
   rw[eH]
   exact a2
  ·rw[cV e] at hw hy
   refine (r2 j w ys hw hy).cong λb n eb hb=>a6 b ((r2 j w ys hw hy).lt eb) λb' n' e'=>?_
   exact (r3 i j b' n' b n e (by rw[hv,e']) (by rw[hw,eb])).symm
 ·have hlt:∀ j b n,vs[j]?=some (AV.sl b 0 n n)→b<h.next:=λj b n hj=>by
   have hjl:j<vs.length:=(aK.1 hj).1
   exact (r2 j _ xss[j] hj (ah om)).lt rfl
  intro j1 j2 b n b' n' hne h1 h2
  by_cases e:i=j1
  ·subst e
   rw[cR om,aa,a4] at h1
   rw[cV hne] at h2
   have:=hlt _ _ _ h2
   cases h1
   omega
  ·rw[cV e] at h1
   by_cases e2:i=j2
   ·subst e2
    rw[cR om,aa,a4] at h2
    have:=hlt _ _ _ h1
    cases h2
    omega
   ·rw[cV e2] at h2
    exact r3 _ _ _ _ _ _ hne h1 h2
theorem jQ {n:Nat}{es:List (Int×Int)} (hm:gG (n:Nat) es=true):1≤n∧n≤64∧es.length≤128∧es.all (okE n)=true:=by
 simp only[gG,aM,aA] at hm
 exact⟨om,om,om,hm.2⟩
theorem vO {n:Nat}{e:Int×Int} (h:okE n e=true):∃ a b:Nat,e=(((a:Nat):Int),((b:Nat):Int))∧a<n∧b<n:=by
 obtain⟨x,y⟩:=e
 simp only[okE,aM,aA] at h
 exact⟨x.toNat,y.toNat,by rw[jr om,jr om],om,om⟩
open Go.Am
open Go.Am
theorem mW (xs:List Int):xs.flatMap eI=xs.map (AV.int .i64):=by
 induction xs with
 | nil=>rfl
 | cons x r ih=>rw[fh,ih]; rfl
theorem KD {xs:List Int}{i:Nat}{z:Int}:(xs.flatMap eI).set i (.int .i64 z)=(xs.set i z).flatMap eI:=by
 rw[mW,mW,kI]
theorem at_cI {xs:List Int}{i:Nat} (hi:i<xs.length):(xs.flatMap eI)[i]?=some (.int .i64 (xs.getD i 0)):=by
 rw[mW,aG,ah hi,ai,ah hi]
 rfl
theorem KY (xs:List Int):(xs.flatMap eI).length=xs.length:=by rw[mW,ak]
end Go.Proofs.YtpeemonpdlifbaaGreat
