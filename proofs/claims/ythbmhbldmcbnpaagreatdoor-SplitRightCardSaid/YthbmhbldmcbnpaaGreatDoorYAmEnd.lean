/- From a run of the clean machine to a call of the model; slic -/
import Derived.Test.YthbmhbldmcbnpaaGreatDoorYAmRun
import Derived.Test.YthbmhbldmcbnpaaGreatDoorYAmW
import Derived.WideShapes
set_option linter.all false
namespace Go.Am
open Go.RowKit
theorem yq {P:Program}{RPm:RP} (hP:Has P RPm) {f:FuncId}{args:List AV}{ts:Tm}{h:AH}{R:Out→Prop} (hb:BS RPm (.call f args) ts h R) {K:Bs} (hK:K.P=P) {σ:Sg}{w:World}{args':Array Value}
 (r:Rep K σ h w) (hgl:GL σ) (hv:VRs σ args args'.toList):Calls P f args' w (Bm K σ R) :=
 callsIn_wide.1 (snd hP hb K σ w args' hK r hgl hv)
noncomputable def lkp (t:List (Nat×RF)) (f:Nat) (d:Option RF):Option RF:=List.rec d (λp _ ih=>bif Nat.beq f p.1 then some p.2 else ih) t
theorem xF {p:Nat×RF}{t:List (Nat×RF)}{f:Nat}{d:Option RF}:lkp (p::t) f d=bif Nat.beq f p.1 then some p.2 else lkp t f d:=rfl
theorem qG {f:Nat}{r:RF}:∀ {t:List (Nat×RF)},lkp t f none=some r→(f,r)∈t
 | [],h=>by cases h
 | p::t,h=>by
   rw[xF] at h
   cases q:Nat.beq f p.1 with
   | true=>rw[q] at h; cases h; rw[gO q]; exact aK ..
   | false=>rw[q] at h; exact aM _ (qG h)
noncomputable def vu (P:Program) (ms:List (Nat×RF)):RP:=λf=>bif Nat.blt f lL then bB P f else lkp ms (f-lL) none
noncomputable def zh (P:Program) (ms:List (Nat×RF)):RP:=λf=>bif Nat.blt f lL then (bB P f).bind cx else lkp ms (f-lL) none
def GJ (P:Program) (ms:List (Nat×RF)):Prop:=∀ m∈ms,(m.2=qQ∧Srts P m.1)∨∃ g,m.2=pQ g∧Srfs P m.1 g
theorem has_of {P:Program}{ms:List (Nat×RF)} (h:P.follows .mixedOrders=true) (hs:GJ P ms):Has P (vu P ms):=by
 have up:∀ f r,vu P ms (f+lL)=some r→(f,r)∈ms:=λf r hf=>by
  unfold vu at hf
  have q:Nat.blt (f+lL) lL=false:=by
   cases e:Nat.blt (f+lL) lL with
   | false=>rfl
   | true=>have:=kV e; omega
  rw[q,Nat.add_sub_cancel] at hf
  exact qG hf
 refine⟨λf rf hf=>?_,λf g hf=>?_,λf hf=>?_,h⟩
 ·unfold vu at hf
  cases q:Nat.blt f lL with
  | true=>rw[q] at hf; exact .inr hf
  | false =>
    rw[q] at hf
    rcases hs _ (qG hf) with ⟨e,_⟩|⟨g,e,_⟩<;>exact .inl ⟨_,e⟩
 ·rcases hs _ (up _ _ hf) with ⟨e,_⟩|⟨g',e,q⟩
  ·simp only[pQ,qQ,RF.mk.injEq,RC.exit.injEq,true_and] at e
   omega
  ·simp only[pQ,RF.mk.injEq,RC.exit.injEq,true_and,Nat.add_left_cancel_iff] at e
   rw[e]
   exact q
 ·rcases hs _ (up _ _ hf) with ⟨e,q⟩|⟨g',e,_⟩
  ·exact q
  ·simp only[pQ,qQ,RF.mk.injEq,RC.exit.injEq,true_and] at e
   omega
def AllD (P:Program):List (Nat×RF)→Prop
 | []=>True
 | p::t=>(bB P p.1).bind cx=some p.2∧AllD P t
theorem JF {P:Program}{ms t:List (Nat×RF)} (hs:∀ m∈ms,cx m.2=some m.2) (hb:t.all (λp=>Nat.blt p.1 lL)=true) (ht:AllD P t):Det (vu P ms) λf=>lkp t f (zh P ms f):=by
 have hd:Det (vu P ms) (zh P ms):=λf r h=>by
  unfold zh at h
  unfold vu
  cases q:Nat.blt f lL with
  | true=>rw[q] at h; exact jG.1 h
  | false =>
    rw[q] at h
    exact⟨r,h,hs _ (qG h)⟩
 intro f r h
 refine hd f r (Eq.trans (Eq.symm ?_) h)
 clear h
 show lkp t f (zh P ms f)=zh P ms f
 induction t with
 | nil=>rfl
 | cons p t ih =>
   simp only[gu,aH] at hb
   rw[xF]
   cases q:Nat.beq f p.1 with
   | false=>exact ih hb.2 ht.2
   | true =>
     have e:=gO q
     subst e
     unfold zh
     rw[hb.1]
     exact ht.1.symm
theorem CB {P:Program}{RPm:RP} (hP:Has P RPm) {f:FuncId}{args:List AV}{ts:Tm}{h:AH} (hb:BS RPm (.call f args) ts h λo=>∃ v h',o=.val v h'∧v=.bool true) {D:List Nat}{σ:Sg}{w:World}{args':Array Value}
 (r:Rep ⟨w.heap.size,w,P,D⟩ σ h w) (hgl:GL σ) (hv:VRs σ args args'.toList):Calls P f args' w λe w'=>e=.returned (.bool true)∧Below w.heap.size w w' :=
 (yq hP hb rfl r hgl hv).mono λe w' ⟨v,h',v',σ',⟨_,_,e1,e2⟩,he,_,hv',r'⟩=>by
  cases e1
  subst e2
  simp only[VR] at hv'
  subst hv'
  exact⟨he,r'.below⟩
theorem law_of_C {P:Program}{RPm:RP}{ms:List (Nat×RF)} (hP:P.follows .mixedOrders=true) (hs:GJ P ms) (hd:Det (vu P ms) RPm) {f:FuncId}{args:List AV}{h:AH} (hc:C RPm f args h λr _=>r=.bool true) {D:List Nat}{σ:Sg}{w:World}{args':Array Value}
 (r:Rep ⟨w.heap.size,w,P,D⟩ σ h w) (hgl:GL σ) (hv:VRs σ args args'.toList):Calls P f args' w λe w'=>e=.returned (.bool true)∧Below w.heap.size w w' :=
 CB (has_of hP hs) (NL hd hc) r hgl hv
def IsRowE (k:IntKind) (e:Nat) (w:World) (a:Option Addr) (len cap:Nat) (zs:List Int):Prop :=
 (a=none∧len=0∧cap=0∧zs=[]) ∨
 ∃ x,a=some x∧len≤cap∧cap≤maxLen∧zs.length=cap*e∧(∀ i,i<zs.length→w.cell? (x.add i)=some (.int k (zs.getD i 0)))∧∀ n∈zs,(Lit.int k n).wf=true
structure St0 (K:Bs) (σ:Sg) (h:AH) (w:World):Prop where
 rep:Rep K σ h w
 gl:GL σ
 nx:h.next=NG
 ints:∀ b o,h.get b=some o→∃ (k:IntKind) (zs:List Int),o=.cells (zs.map (AV.int k)) 1 true
 ty:∀ b,h.tyOf b=none
theorem St0.zero (P:Program) (w:World):St0 ⟨w.heap.size,w,P,[]⟩ Sg.zero AH.zero w :=
 ⟨Rep.zero P w,GL.zero,rfl,(λb o h=>by rw[AH.get_zero] at h; cases h),(λb=>by unfold AH.tyOf AH.zero; simp [T.get])⟩
theorem St0.layX {K:Bs}{σ:Sg}{h:AH}{w:World} (s:St0 K σ h w) {g:Nat} (hg:g<NG) {k:IntKind}{zs:List Int} (hz:zs≠[]) (hc:∀ i,i<zs.length→w.cell? ⟨g,i,none⟩=some (.int k (zs.getD i 0))) :
 ∃ σ',St0 K σ' (h.put g (.cells (zs.map (AV.int k)) 1 true)) w:=by
 have hpos:0<zs.length:=List.length_pos_iff.2 hz
 have h40:=hc 0 hpos
 unfold World.cell? at h40
 simp only at h40
 split at h40
 ·rename_i C t fr hC
  have hall:∀ i,i<zs.length→C[i]?=some (.int k (zs.getD i 0)):=by
   intro i hi
   have:=hc i hi
   simpa [World.cell?,hC] using this
  have hN:zs.length≤C.size:=by
   have hlt:=(bE.1 (hall (zs.length-1) om)).1
   omega
  have hgn:g<h.next:=by rw[s.nx]; exact hg
  have hgp:∀ b,(h.put g (.cells (zs.map (AV.int k)) 1 true)).get b=if g=b then some (.cells (zs.map (AV.int k)) 1 true) else h.get b:=λb=>AH.get_put _ _ _ _ hgn
  have hint:∀ b o,(h.put g (.cells (zs.map (AV.int k)) 1 true)).get b=some o→∃ (k:IntKind) (zs:List Int),o=.cells (zs.map (AV.int k)) 1 true:=by
   intro b o hb
   rw[hgp] at hb
   split at hb
   ·cases hb; exact⟨k,zs,rfl⟩
   ·exact s.ints b o hb
  refine⟨λb=>if b=g then some ⟨g,0,1,C.size,t⟩ else σ b,⟨⟨⟨λb i hi=>?_,λb ty hty=>?_⟩,λb o hb hl=>?_,λb b' o o' i i' hb hb' hne hx=>?_,s.rep.below,s.rep.le,λb cs e ro i hb hi=>?_,s.rep.dfr⟩,λb hb=>?_,s.nx,hint,λb=>s.ty b⟩⟩
  ·refine⟨?_,λq=>?_⟩
   ·split at hi
    ·rename_i e; subst e; exact hgn
    ·exact (s.rep.dom.1 b i hi).1
   ·obtain⟨_,_,e⟩:=hint b _ q
    cases e
  ·rw[AH.tyOf_put,s.ty] at hty
   cases hty
  ·rw[hgp] at hb
   by_cases e:g=b
   ·subst e
    rw[if_pos rfl] at hb
    simp only[aa] at hb
    subst hb
    refine⟨⟨g,0,1,C.size,t⟩,by simp,C,t,fr,hC,rfl,rfl,?_,λj y hy=>?_,λq=>(by cases q),rfl⟩
    ·show 0+_≤C.size
     rw[ar]; omega
    ·rw[aE] at hy
     cases hq:zs[j]? with
     | none=>rw[hq] at hy; cases hy
     | some u =>
       rw[hq] at hy
       simp only[aG,aa] at hy
       subst hy
       have hj:=(aB.1 hq).1
       refine⟨.int k (zs.getD j 0),by rw[bM]; exact hall j hj,?_⟩
       rw[aF,hq]
       simp [VR]
   ·rw[if_neg e] at hb
    obtain⟨k',zs',rfl⟩:=s.ints b o hb
    obtain⟨i,hi,C',t',fr',r1,r2,r3,r4,r5,r6,r7⟩:=s.rep.obj b _ hb hl
    refine⟨i,by rw[if_neg (λq=>e q.symm)]; exact hi,C',t',fr',r1,r2,r3,r4,λj y hy=>?_,r6,r7⟩
    obtain⟨z,z1,z2⟩:=r5 j y hy
    refine⟨z,z1,?_⟩
    rw[aE] at hy
    cases hq:zs'[j]? with
    | none=>rw[hq] at hy; cases hy
    | some u =>
      rw[hq] at hy
      simp only[aG,aa] at hy
      subst hy
      simp only[VR] at z2 ⊢
      exact z2
  ·obtain⟨_,_,rfl⟩:=hint b o hb
   cases hx
  ·obtain⟨_,_,e1⟩:=hint b _ hb
   simp only[AO.cells.injEq] at e1
   obtain⟨_,rfl,_⟩:=e1
   split at hi
   ·simp only[aa] at hi
    subst hi
    rfl
   ·rename_i e
    rw[hgp,if_neg (λq=>e q.symm)] at hb
    exact s.rep.esz b _ _ _ i hb hi
  ·split
   ·rename_i e; subst e; exact⟨_,rfl,rfl,rfl⟩
   ·exact s.gl b hb
 ·cases h40
theorem Rep.dummy {K:Bs}{σ:Sg}{h:AH}{w:World} (r:Rep K σ h w):∃ σ',σ.le σ'∧Rep K σ' (h.new (.cells [] 1 true)) w :=
 ⟨σ.add h.next ⟨0,0,1,0,0⟩,Sg.le_add r.fresh,r.came [] 1 ⟨0,0,1,0,0⟩ rfl (.inl rfl)⟩
def news:List AO→AH→AH
 | [],h=>h
 | o::r,h=>news r (h.new o)
theorem ud:∀ (os:List AO) (h:AH),(news os h).next=h.next+os.length
 | [],h=>rfl
 | o::r,h=>by rw[news,ud r,AH.next_new,aR]; omega
theorem xB:∀ (os:List AO) (h:AH) (b:Nat),b<h.next→(news os h).get b=h.get b
 | [],_,_,_=>rfl
 | o::r,h,b,hb=>by rw[news,xB r _ b (by simp; omega),AH.get_new,if_neg om]
structure NRow where
 a:Option Addr
 len:Nat
 cap:Nat
 zs:List Int
end Go.Am
