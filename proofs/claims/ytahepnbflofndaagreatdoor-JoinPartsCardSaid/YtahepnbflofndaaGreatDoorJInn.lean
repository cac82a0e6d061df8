/- Slices that came in, as they lie in the clean machine's memo -/
import Derived.Test.YtahepnbflofndaaGreatDoorJRf
import Derived.Test.YtahepnbflofndaaGreatDoorJAmEnd
import Derived.Test.YtahepnbflofndaaGreatDoorJAmR
set_option linter.all false
namespace Go.Proofs.YtahepnbflofndaaGreatDoor
open Go.Am
open Go.RowKit
theorem Es {α:Type}{f:α→List AV}{h:AH}{e b n:Nat}{xs:List α}{ro:Bool} (hf:∀ x,(f x).length=e) (hg:h.get b=some (.cells (xs.flatMap f) e ro)) (hn:n=xs.length):Sl h e (.sl b 0 n n) (xs.map f):=by
 subst hn
 have hl:=dS hf xs
 refine .inr ⟨b,0,xs.length,_,ro,by rw[au],hg,by rw[au]; exact ae _,by rw[au,hl]; omega,λi x hx=>?_⟩
 rw[be] at hx
 obtain⟨y,hy,rfl⟩:=aA.1 hx
 rw[bO]
 exact tC hf xs i y hy
def mz:List Int→List (Int×Int)
 | x::y::r=>(x,y)::mz r
 | _=>[]
theorem qc:∀ (n:Nat) (ns:List Int),ns.length=n*2→(mz ns).flatMap eE=ns.map (AV.int .i64)∧(mz ns).length=n
 | 0,[],_=>⟨rfl,rfl⟩
 | n+1,x::y::r,h=>by
   have ih:=qc n r (by simp only[aV] at h; omega)
   refine⟨?_,?_⟩
   ·simp only[mz,eP,eE,cC,ct,df]
    rw[← ih.1]
   ·simp only[mz,aV,ih.2]
 | 0,_::_,h=>by simp at h
 | n+1,[],h=>by simp at h
 | n+1,[x],h=>by simp only[aV,bh] at h; omega
theorem rowE1 {K:Bs}{σ:Sg}{h:AH}{w:World} (r:Rep K σ h w) (hB:K.B=w.heap.size) {k:IntKind}{e:Nat} (he:0<e) {a:Option Addr}{len cap:Nat}{zs:List Int} (hr:IsRowE k e w a len cap zs) (hspot:∀ x,a=some x→x.spot=none) :
 ∃ σ' o v,σ.le σ'∧Rep K σ' (h.new o) w∧VR σ' v (.slice a len cap)∧((v=.nils∧len=0)∨(v=.sl h.next 0 len len∧o=.cells ((zs.take (len*e)).map (AV.int k)) e true∧(zs.take (len*e)).length=len*e)):=by
 rcases hr with ⟨rfl,rfl,rfl,rfl⟩|⟨x,rfl,h1,h2,h3,h4,h5⟩
 ·obtain⟨σ',q1,q2⟩:=r.dummy
  exact⟨σ',_,.nils,q1,q2,by simp [VR],.inl ⟨rfl,rfl⟩⟩
 ·have hsp:=hspot x rfl
  have hadd:∀ j,x.add j=⟨x.block,x.off+j,none⟩:=by
   intro j
   obtain⟨xb,xo,xs⟩:=x
   simp only at hsp
   subst hsp
   exact Addr.add_lit _ _ _
  have hle:len*e≤cap*e:=fD e h1
  have hl:(zs.take (len*e)).length=len*e:=by rw[aZ]; omega
  cases zs with
  | nil =>
    simp only[bh] at h3
    have e2:cap=0:=by
     rcases Nat.eq_zero_or_pos cap with q|q
     ·exact q
     ·have:=Nat.mul_pos q he; omega
    have e1:len=0:=om
    subst e1
    subst e2
    refine⟨σ.add h.next ⟨x.block,x.off,e,0,0⟩,.cells [] e true,.sl h.next 0 0 0,Sg.le_add r.fresh,r.came [] e _ rfl (.inl rfl),?_,.inr ⟨rfl,by rw[md]; rfl,hl⟩⟩
    simp only[VR]
    exact⟨_,x.off,0,Sg.add_at _ _ _,by obtain⟨xb,xo,xs⟩:=x; simp only at hsp; subst hsp; rfl,.inl trivial,ae _,ae _,.inl rfl⟩
  | cons z zs =>
    have h40:=h4 0 (by simp)
    rw[hadd] at h40
    unfold World.cell? at h40
    simp only at h40
    split at h40
    ·rename_i C t fr hC
     have hall:∀ i,i<(z::zs).length→C[x.off+i]?=some (.int k ((z::zs).getD i 0)):=by
      intro i hi
      have:=h4 i hi
      rw[hadd] at this
      simpa [World.cell?,hC] using this
     have hN:x.off+cap*e≤C.size:=by
      have:=hall (cap*e-1) (by simp at h3 ⊢; omega)
      have hlt:=(cz.1 this).1
      simp at h3
      omega
     have hblk:x.block<w.heap.size:=(cz.1 hC).1
     refine⟨σ.add h.next ⟨x.block,x.off,e,C.size,t⟩,.cells (((z::zs).take (len*e)).map (AV.int k)) e true,.sl h.next 0 len len,Sg.le_add r.fresh,r.came _ e _ rfl (.inr ⟨by rw[hB]; exact hblk,fun τ _=>?_⟩),?_,.inr ⟨rfl,rfl,hl⟩⟩
     ·refine⟨C,t,fr,hC,rfl,rfl,?_,λj y hy=>?_,λq=>by (cases q),rfl⟩
      ·show x.off+_≤C.size
       rw[au,hl]; omega
      ·have hj:j<len*e:=by
        rcases dG j (len*e) with q|q
        ·exact q
        ·rw[bI (by rw[au,hl]; exact q)] at hy; cases hy
       rw[be,cL,if_pos hj] at hy
       refine⟨.int k ((z::zs).getD j 0),hall j om,?_⟩
       rw[aL]
       cases hq:(z::zs)[j]? with
       | none=>rw[hq] at hy; cases hy
       | some u=>rw[hq] at hy; simp only[aH,aa] at hy; subst hy; simp [VR]
     ·simp only[VR]
      refine⟨_,x.off,cap,Sg.add_at _ _ _,by obtain⟨xb,xo,xs⟩:=x; simp only at hsp; subst hsp; rfl,.inr (by simp),h1,ae _,.inr ⟨ae _,?_⟩⟩
      show x.off+cap*e≤C.size
      omega
    ·cases h40
theorem Hq {w:World}{P:Program}{a0:Option Addr}{l0 c0:Nat}{z0:List Int} (w0:IsRowE .i64 2 w a0 l0 c0 z0) (s0:∀ x,a0=some x→x.spot=none) :
 ∃ (σ:Sg) (os:List AO) (v0:AV),os.length=1∧GL σ∧Rep ⟨w.heap.size,w,P,[]⟩ σ (news os AH.zero) w∧VR σ v0 (.slice a0 l0 c0)∧SlE (news os AH.zero) v0 (mz (z0.take (l0*2))):=by
 have st:=St0.zero P w
 obtain⟨σ1,o0,v0,r1,r2,r3,r4⟩:=rowE1 st.rep rfl (by decide) w0 s0
 refine⟨σ1,[o0],v0,rfl,st.gl.mono r1,r2,r3,?_⟩
 rcases r4 with ⟨h1,h2⟩|⟨h1,h2,h3⟩
 ·subst h1 h2
  exact .inl ⟨by simp [mz],.inl rfl⟩
 ·subst h1
  obtain⟨f1,f2⟩:=qc l0 (z0.take (l0*2)) h3
  refine Es (f:=eE) (ro:=true) (λ_=>rfl) ?_ (by rw[f2])
  show (AH.zero.new o0).get AH.zero.next=_
  rw[AH.get_new,if_pos rfl,h2,f1]
end Go.Proofs.YtahepnbflofndaaGreatDoor
