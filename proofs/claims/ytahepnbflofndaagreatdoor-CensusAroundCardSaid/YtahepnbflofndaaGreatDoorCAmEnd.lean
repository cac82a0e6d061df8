/-
  From a run of the clean machine to a call of the model; slices that came in.
-/
import Derived.Test.YtahepnbflofndaaGreatDoorCAmRun
import Derived.Test.YtahepnbflofndaaGreatDoorCAmW
import Derived.WideShapes
set_option linter.all false
namespace Go.Am
open Go.RowKit
theorem calls_of_bs {P:Program}{RPm:RP} (hP:Has P RPm) {f:FuncId}{args:List AV}{ts:Tm}{h:AH}{R:Out→Prop} (hb:BS RPm (.call f args) ts h R) {K:Bs} (hK:K.P=P) {σ:Sg}{w:World}{args':Array Value}
 (r:Rep K σ h w) (hgl:GL σ) (hv:VRs σ args args'.toList):Calls P f args' w (Gives K σ R) :=
 callsIn_wide.1 (snd hP hb K σ w args' hK r hgl hv)
theorem has_of {P:Program} (h:P.follows .mixedOrders=true):Has P (fun f=>cFunc P f):=⟨fun _ _ h=>h,h⟩
theorem law_of_bs {P:Program}{RPm:RP} (hP:Has P RPm) {f:FuncId}{args:List AV}{ts:Tm}{h:AH} (hb:BS RPm (.call f args) ts h fun o=>∃ v h',o=.val v h'∧v=.bool true) {D:List Nat}{σ:Sg}{w:World}{args':Array Value}
 (r:Rep ⟨w.heap.size,w,P,D⟩ σ h w) (hgl:GL σ) (hv:VRs σ args args'.toList):Calls P f args' w fun e w'=>e=.returned (.bool true)∧Below w.heap.size w w' :=
 (calls_of_bs hP hb rfl r hgl hv).mono fun e w' ⟨v,h',v',σ',⟨_,_,e1,e2⟩,he,_,hv',r'⟩=>by
  cases e1
  subst e2
  simp only[VR] at hv'
  subst hv'
  exact⟨he,r'.below⟩
theorem law_of_C {P:Program}{RPm:RP} (hP:P.follows .mixedOrders=true) (hd:Det (fun f=>cFunc P f) RPm) {f:FuncId}{args:List AV}{h:AH} (hc:C RPm f args h fun r _=>r=.bool true) {D:List Nat}{σ:Sg}{w:World}{args':Array Value}
 (r:Rep ⟨w.heap.size,w,P,D⟩ σ h w) (hgl:GL σ) (hv:VRs σ args args'.toList):Calls P f args' w fun e w'=>e=.returned (.bool true)∧Below w.heap.size w w' :=
 law_of_bs (has_of hP) (det_bs hd hc) r hgl hv
def IsRowE (k:IntKind) (e:Nat) (w:World) (a:Option Addr) (len cap:Nat) (zs:List Int):Prop :=
 (a=none∧len=0∧cap=0∧zs=[]) ∨
 ∃ x,a=some x∧len≤cap∧cap≤maxLen∧zs.length=cap*e∧(∀ i,i<zs.length→w.cell? (x.add i)=some (.int k (zs.getD i 0)))∧∀ n∈zs,(Lit.int k n).wf=true
structure St0 (K:Bs) (σ:Sg) (h:AH) (w:World):Prop where
 rep:Rep K σ h w
 gl:GL σ
 nx:h.next=NG
 ints:∀ b o,h.get b=some o→∃ (k:IntKind) (zs:List Int),o=.cells (zs.map (AV.int k)) 1 true
 ty:∀ b,h.tyOf b=none
theorem St0.zero (P:Program) (w:World):St0 ⟨w.heap.size,w,P,[]⟩ Sg.zero AH.zero w :=
 ⟨Rep.zero P w,GL.zero,rfl,(fun b o h=>by rw[AH.get_zero] at h; cases h),(fun b=>by unfold AH.tyOf AH.zero; simp [T.get])⟩
theorem St0.layX {K:Bs}{σ:Sg}{h:AH}{w:World} (s:St0 K σ h w) {g:Nat} (hg:g<NG) {k:IntKind}{zs:List Int} (hz:zs≠[]) (hc:∀ i,i<zs.length→w.cell? ⟨g,i,none⟩=some (.int k (zs.getD i 0))) :
 ∃ σ',St0 K σ' (h.put g (.cells (zs.map (AV.int k)) 1 true)) w:=by
 have hpos:0<zs.length:=List.length_pos_iff.2 hz
 have h40:=hc 0 hpos
 unfold World.cell? at h40
 simp only at h40
 split at h40
 ·rename_i C t fr hC
  have hall:∀ i,i<zs.length→C[i]?=some (.int k (zs.getD i 0)):=by
   intro i hi
   have:=hc i hi
   simpa [World.cell?,hC] using this
  have hN:zs.length≤C.size:=by
   have hlt:=(Array.getElem?_eq_some_iff.1 (hall (zs.length-1) (by omega))).1
   omega
  have hgn:g<h.next:=by rw[s.nx]; exact hg
  have hgp:∀ b,(h.put g (.cells (zs.map (AV.int k)) 1 true)).get b=if g=b then some (.cells (zs.map (AV.int k)) 1 true) else h.get b:=fun b=>AH.get_put _ _ _ _ hgn
  have hint:∀ b o,(h.put g (.cells (zs.map (AV.int k)) 1 true)).get b=some o→∃ (k:IntKind) (zs:List Int),o=.cells (zs.map (AV.int k)) 1 true:=by
   intro b o hb
   rw[hgp] at hb
   split at hb
   ·cases hb; exact⟨k,zs,rfl⟩
   ·exact s.ints b o hb
  refine⟨fun b=>if b=g then some ⟨g,0,1,C.size,t⟩ else σ b,⟨⟨⟨fun b i hi=>?_,fun b ty hty=>?_⟩,fun b o hb hl=>?_,fun b b' o o' i i' hb hb' hne hx=>?_,s.rep.below,s.rep.le,fun b cs e ro i hb hi=>?_,s.rep.dfr⟩,fun b hb=>?_,s.nx,hint,fun b=>s.ty b⟩⟩
  ·refine⟨?_,fun q=>?_⟩
   ·split at hi
    ·rename_i e; subst e; exact hgn
    ·exact (s.rep.dom.1 b i hi).1
   ·obtain⟨_,_,e⟩:=hint b _ q
    cases e
  ·rw[AH.tyOf_put,s.ty] at hty
   cases hty
  ·rw[hgp] at hb
   by_cases e:g=b
   ·subst e
    rw[if_pos rfl] at hb
    simp only[Option.some.injEq] at hb
    subst hb
    refine⟨⟨g,0,1,C.size,t⟩,by simp,C,t,fr,hC,rfl,rfl,?_,fun j y hy=>?_,fun q=>(by cases q),rfl⟩
    ·show 0+_≤C.size
     rw[List.length_map]; omega
    ·rw[List.getElem?_map] at hy
     cases hq:zs[j]? with
     | none=>rw[hq] at hy; cases hy
     | some u =>
       rw[hq] at hy
       simp only[Option.map_some,Option.some.injEq] at hy
       subst hy
       have hj:=(List.getElem?_eq_some_iff.1 hq).1
       refine⟨.int k (zs.getD j 0),by rw[Nat.zero_add]; exact hall j hj,?_⟩
       rw[List.getD_eq_getElem?_getD,hq]
       simp [VR]
   ·rw[if_neg e] at hb
    obtain⟨k',zs',rfl⟩:=s.ints b o hb
    obtain⟨i,hi,C',t',fr',r1,r2,r3,r4,r5,r6,r7⟩:=s.rep.obj b _ hb hl
    refine⟨i,by rw[if_neg (fun q=>e q.symm)]; exact hi,C',t',fr',r1,r2,r3,r4,fun j y hy=>?_,r6,r7⟩
    obtain⟨z,z1,z2⟩:=r5 j y hy
    refine⟨z,z1,?_⟩
    rw[List.getElem?_map] at hy
    cases hq:zs'[j]? with
    | none=>rw[hq] at hy; cases hy
    | some u =>
      rw[hq] at hy
      simp only[Option.map_some,Option.some.injEq] at hy
      subst hy
      simp only[VR] at z2 ⊢
      exact z2
  ·obtain⟨_,_,rfl⟩:=hint b o hb
   cases hx
  ·obtain⟨_,_,e1⟩:=hint b _ hb
   simp only[AO.cells.injEq] at e1
   obtain⟨_,rfl,_⟩:=e1
   split at hi
   ·simp only[Option.some.injEq] at hi
    subst hi
    rfl
   ·rename_i e
    rw[hgp,if_neg (fun q=>e q.symm)] at hb
    exact s.rep.esz b _ _ _ i hb hi
  ·split
   ·rename_i e; subst e; exact⟨_,rfl,rfl,rfl⟩
   ·exact s.gl b hb
 ·cases h40
theorem Rep.dummy {K:Bs}{σ:Sg}{h:AH}{w:World} (r:Rep K σ h w):∃ σ',σ.le σ'∧Rep K σ' (h.new (.cells [] 1 true)) w :=
 ⟨σ.add h.next ⟨0,0,1,0,0⟩,Sg.le_add r.fresh,r.came [] 1 ⟨0,0,1,0,0⟩ rfl (.inl rfl)⟩
theorem Rep.outer {K:Bs}{σ:Sg}{h:AH}{w:World} (r:Rep K σ h w) (hB:K.B=w.heap.size) {x:Addr}{len cap:Nat}{vs:List AV}{Y:Nat→Value} (hsp:x.spot=none) (h1:len≤cap) (hl:vs.length=len)
 (hc:∀ i,i<cap→w.cell? (x.add i)=some (Y i)) (hv:∀ i v,vs[i]?=some v→VR σ v (Y i)) :
 ∃ σ',σ.le σ'∧Rep K σ' (h.new (.cells vs 1 true)) w∧VR σ' (.sl h.next 0 len len) (.slice (some x) len cap):=by
 have hadd:∀ j,x.add j=⟨x.block,x.off+j,none⟩:=by
  intro j
  obtain⟨xb,xo,xs⟩:=x
  simp only at hsp
  subst hsp
  exact Addr.add_lit _ _ _
 have hx:x=⟨x.block,x.off,none⟩:=by
  obtain⟨xb,xo,xs⟩:=x
  simp only at hsp
  subst hsp
  rfl
 by_cases hz:cap=0
 ·have hl0:len=0:=by omega
  subst hz
  subst hl0
  have hvs:vs=[]:=List.length_eq_zero_iff.1 hl
  subst hvs
  refine⟨σ.add h.next ⟨x.block,x.off,1,0,0⟩,Sg.le_add r.fresh,r.came [] 1 _ rfl (.inl rfl),?_⟩
  simp only[VR]
  exact⟨_,x.off,0,Sg.add_at _ _ _,by rw[← hx],.inl trivial,Nat.le_refl _,Nat.le_refl _,.inl rfl⟩
 ·have h40:=hc 0 (by omega)
  rw[hadd] at h40
  unfold World.cell? at h40
  simp only at h40
  split at h40
  ·rename_i C t fr hC
   have hall:∀ i,i<cap→C[x.off+i]?=some (Y i):=by
    intro i hi
    have:=hc i hi
    rw[hadd] at this
    simpa [World.cell?,hC] using this
   have hN:x.off+cap≤C.size:=by
    have hlt:=(Array.getElem?_eq_some_iff.1 (hall (cap-1) (by omega))).1
    omega
   have hblk:x.block<w.heap.size:=(Array.getElem?_eq_some_iff.1 hC).1
   refine⟨σ.add h.next ⟨x.block,x.off,1,C.size,t⟩,Sg.le_add r.fresh,r.came vs 1 _ rfl (.inr ⟨by rw[hB]; exact hblk,fun τ hτ=>?_⟩),?_⟩
   ·refine⟨C,t,fr,hC,rfl,rfl,?_,fun j y hy=>?_,fun q=>(by cases q),rfl⟩
    ·show x.off+_≤C.size
     omega
    ·have hj:=(List.getElem?_eq_some_iff.1 hy).1
     exact⟨Y j,hall j (by omega),VR.mono hτ _ _ (hv j y hy)⟩
   ·simp only[VR]
    refine⟨_,x.off,cap,Sg.add_at _ _ _,by rw[← hx],.inr (by simp),h1,Nat.le_refl _,.inr ⟨Nat.le_refl _,?_⟩⟩
    show x.off+cap*1≤C.size
    omega
  ·cases h40
theorem Rep.rowB {K:Bs}{σ:Sg}{h:AH}{w:World} (r:Rep K σ h w) (hB:K.B=w.heap.size) {k:IntKind}{a:Option Addr}{len cap:Nat}{zs:List Int} (h1:len≤cap) (h3:zs.length=cap) (hn:a=none→cap=0)
 (hc:∀ x,a=some x→∀ i,i<cap→w.cell? (x.add i)=some (.int k (zs.getD i 0))) :
 ∃ σ' o v,σ.le σ'∧Rep K σ' (h.new o) w∧VR σ' v (.slice a len cap)∧(((v=.nils∨v=.emp)∧len=0)∨(v=.sl h.next 0 len len∧o=.cells ((zs.take len).map (AV.int k)) 1 true)):=by
 cases a with
 | none =>
   have hz:=hn rfl
   have hl0:len=0:=by omega
   subst hz
   subst hl0
   obtain⟨σ',q1,q2⟩:=r.dummy
   exact⟨σ',_,.nils,q1,q2,by simp [VR],.inl ⟨.inl rfl,rfl⟩⟩
 | some x =>
   by_cases hz:cap=0
   ·have hl0:len=0:=by omega
    subst hz
    subst hl0
    obtain⟨σ',q1,q2⟩:=r.dummy
    exact⟨σ',_,.emp,q1,q2,by simp [VR],.inl ⟨.inr rfl,rfl⟩⟩
   ·have hsp:x.spot=none:=by
     have:=hc x rfl 0 (by omega)
     have e:x.add 0=x:=rfl
     rw[e] at this
     unfold World.cell? at this
     split at this
     ·split at this
      ·cases this
      ·rename_i hs
       cases hq:x.spot with
       | none=>rfl
       | some s=>rw[hq] at hs; simp at hs
     ·cases this
    obtain⟨σ',q1,q2,q3⟩:=r.outer hB (vs:=(zs.take len).map (AV.int k)) (Y:=fun i=>.int k (zs.getD i 0)) hsp h1 (by rw[List.length_map,List.length_take]; omega) (hc x rfl) (fun i v hv=>by
     rw[List.getElem?_map] at hv
     cases hq:(zs.take len)[i]? with
     | none=>rw[hq] at hv; cases hv
     | some u =>
       rw[hq] at hv
       simp only[Option.map_some,Option.some.injEq] at hv
       subst hv
       rw[List.getElem?_take] at hq
       split at hq
       ·rw[List.getD_eq_getElem?_getD,hq]; simp [VR]
       ·cases hq)
    exact⟨σ',_,_,q1,q2,q3,.inr ⟨rfl,rfl⟩⟩
def news:List AO→AH→AH
 | [],h=>h
 | o::r,h=>news r (h.new o)
end Go.Am
