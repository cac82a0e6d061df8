/- From a run of the clean machine to a call of the model; slic -/
import Derived.Test.YtpeemonpdlifbaaGreatVAmRun
import Derived.Test.YtpeemonpdlifbaaGreatVAmW
import Derived.WideShapes
set_option linter.all false
namespace Go.Am
open Go.RowKit
theorem yD {P:Program}{RPm:RP} (hP:Has P RPm) {f:FuncId}{args:List AV}{ts:Tm}{h:AH}{R:Out→Prop} (hb:BS RPm (.call f args) ts h R) {K:Bs} (hK:K.P=P) {σ:Sg}{w:World}{args':Array Value}
 (r:Rep K σ h w) (hgl:GL σ) (hv:VRs σ args args'.toList):Calls P f args' w (BP K σ R) :=
 callsIn_wide.1 (snd hP hb K σ w args' hK r hgl hv)
noncomputable def lkp (t:List (Nat×RF)) (f:Nat) (d:Option RF):Option RF:=List.rec d (λp _ ih=>bif Nat.beq f p.1 then some p.2 else ih) t
theorem xX {p:Nat×RF}{t:List (Nat×RF)}{f:Nat}{d:Option RF}:lkp (p::t) f d=bif Nat.beq f p.1 then some p.2 else lkp t f d:=rfl
theorem qE {f:Nat}{r:RF}:∀ {t:List (Nat×RF)},lkp t f none=some r→(f,r)∈t
 | [],h=>by cases h
 | p::t,h=>by
   rw[xX] at h
   cases q:Nat.beq f p.1 with
   | true=>rw[q] at h; cases h; rw[Nat.eq_of_beq_eq_true q]; exact bB ..
   | false=>rw[q] at h; exact br _ (qE h)
noncomputable def vM (P:Program) (ms:List (Nat×RF)):RP:=λf=>bif Nat.blt f md then cn P f else lkp ms (f-md) none
noncomputable def zk (P:Program) (ms:List (Nat×RF)):RP:=λf=>bif Nat.blt f md then (cn P f).bind dE else lkp ms (f-md) none
def He (P:Program) (ms:List (Nat×RF)):Prop:=∀ m∈ms,(m.2=qU∧Srts P m.1)∨∃ g,m.2=pR g∧Srfs P m.1 g
theorem has_of {P:Program}{ms:List (Nat×RF)} (h:P.follows .mixedOrders=true) (hs:He P ms):Has P (vM P ms):=by
 have up:∀ f r,vM P ms (f+md)=some r→(f,r)∈ms:=λf r hf=>by
  unfold vM at hf
  have q:Nat.blt (f+md) md=false:=by
   cases e:Nat.blt (f+md) md with
   | false=>rfl
   | true=>have:=Nat.le_of_ble_eq_true e; omega
  rw[q,Nat.add_sub_cancel] at hf
  exact qE hf
 refine⟨λf rf hf=>?_,λf g hf=>?_,λf hf=>?_,h⟩
 ·unfold vM at hf
  cases q:Nat.blt f md with
  | true=>rw[q] at hf; exact .inr hf
  | false =>
    rw[q] at hf
    rcases hs _ (qE hf) with ⟨e,_⟩|⟨g,e,_⟩<;>exact .inl ⟨_,e⟩
 ·rcases hs _ (up _ _ hf) with ⟨e,_⟩|⟨g',e,q⟩
  ·simp only[pR,qU,RF.mk.injEq,RC.exit.injEq,true_and] at e
   omega
  ·simp only[pR,RF.mk.injEq,RC.exit.injEq,true_and,Nat.add_left_cancel_iff] at e
   rw[e]
   exact q
 ·rcases hs _ (up _ _ hf) with ⟨e,q⟩|⟨g',e,_⟩
  ·exact q
  ·simp only[pR,qU,RF.mk.injEq,RC.exit.injEq,true_and] at e
   omega
def AllD (P:Program):List (Nat×RF)→Prop
 | []=>True
 | p::t=>(cn P p.1).bind dE=some p.2∧AllD P t
theorem Js {P:Program}{ms t:List (Nat×RF)} (hs:∀ m∈ms,dE m.2=some m.2) (hb:t.all (λp=>Nat.blt p.1 md)=true) (ht:AllD P t):Det (vM P ms) λf=>lkp t f (zk P ms f):=by
 have hd:Det (vM P ms) (zk P ms):=λf r h=>by
  unfold zk at h
  unfold vM
  cases q:Nat.blt f md with
  | true=>rw[q] at h; exact gJ.1 h
  | false =>
    rw[q] at h
    exact⟨r,h,hs _ (qE h)⟩
 intro f r h
 refine hd f r (Eq.trans (Eq.symm ?_) h)
 clear h
 show lkp t f (zk P ms f)=zk P ms f
 induction t with
 | nil=>rfl
 | cons p t ih =>
   simp only[lZ,aM] at hb
   rw[xX]
   cases q:Nat.beq f p.1 with
   | false=>exact ih hb.2 ht.2
   | true =>
     have e:=Nat.eq_of_beq_eq_true q
     subst e
     unfold zk
     rw[hb.1]
     exact ht.1.symm
theorem CU {P:Program}{RPm:RP} (hP:Has P RPm) {f:FuncId}{args:List AV}{ts:Tm}{h:AH} (hb:BS RPm (.call f args) ts h λo=>∃ v h',o=.val v h'∧v=.bool true) {D:List Nat}{σ:Sg}{w:World}{args':Array Value}
 (r:Rep ⟨w.heap.size,w,P,D⟩ σ h w) (hgl:GL σ) (hv:VRs σ args args'.toList):Calls P f args' w λe w'=>e=.returned (.bool true)∧Below w.heap.size w w' :=
 (yD hP hb rfl r hgl hv).mono λe w' ⟨v,h',v',σ',⟨_,_,e1,e2⟩,he,_,hv',r'⟩=>by
  cases e1
  subst e2
  simp only[VR] at hv'
  subst hv'
  exact⟨he,r'.below⟩
theorem law_of_C {P:Program}{RPm:RP}{ms:List (Nat×RF)} (hP:P.follows .mixedOrders=true) (hs:He P ms) (hd:Det (vM P ms) RPm) {f:FuncId}{args:List AV}{h:AH} (hc:C RPm f args h λr _=>r=.bool true) {D:List Nat}{σ:Sg}{w:World}{args':Array Value}
 (r:Rep ⟨w.heap.size,w,P,D⟩ σ h w) (hgl:GL σ) (hv:VRs σ args args'.toList):Calls P f args' w λe w'=>e=.returned (.bool true)∧Below w.heap.size w w' :=
 CU (has_of hP hs) (Lf hd hc) r hgl hv
def IsRowE (k:IntKind) (e:Nat) (w:World) (a:Option Addr) (len cap:Nat) (zs:List Int):Prop :=
 (a=none∧len=0∧cap=0∧zs=[]) ∨
 ∃ x,a=some x∧len≤cap∧cap≤maxLen∧zs.length=cap*e∧(∀ i,i<zs.length→w.cell? (x.add i)=some (.int k (zs.getD i 0)))∧∀ n∈zs,(Lit.int k n).wf=true
structure St0 (K:Bs) (σ:Sg) (h:AH) (w:World):Prop where
 rep:Rep K σ h w
 gl:GL σ
 nx:h.next=NG
 gH:∀ b o,h.get b=some o→∃ (k:IntKind) (zs:List Int),o=.cells (zs.map (AV.int k)) 1 true
 ty:∀ b,h.tyOf b=none
theorem St0.zero (P:Program) (w:World):St0 ⟨w.heap.size,w,P,[]⟩ Sg.zero AH.zero w :=
 ⟨Rep.zero P w,GL.zero,rfl,(λb o h=>by rw[AH.get_zero] at h; cases h),(λb=>by unfold AH.tyOf AH.zero; simp [T.get])⟩
theorem Rep.dummy {K:Bs}{σ:Sg}{h:AH}{w:World} (r:Rep K σ h w):∃ σ',σ.le σ'∧Rep K σ' (h.new (.cells [] 1 true)) w :=
 ⟨σ.add h.next ⟨0,0,1,0,0⟩,Sg.le_add r.fresh,r.came [] 1 ⟨0,0,1,0,0⟩ rfl (.inl rfl)⟩
def news:List AO→AH→AH
 | [],h=>h
 | o::r,h=>news r (h.new o)
structure NRow where
 a:Option Addr
 len:Nat
 cap:Nat
 zs:List Int
end Go.Am
