/- From a run of the clean machine to a call of the model; slic -/
import Derived.Test.YtahepnbflofndaaGreatDoorJAmRun
import Derived.Test.YtahepnbflofndaaGreatDoorJAmW
import Derived.WideShapes
set_option linter.all false
namespace Go.Am
open Go.RowKit
theorem vX {P:Program}{RPm:RP} (hP:Has P RPm) {f:FuncId}{args:List AV}{ts:Tm}{h:AH}{R:Out→Prop} (hb:BS RPm (.call f args) ts h R) {K:Bs} (hK:K.P=P) {σ:Sg}{w:World}{args':Array Value}
 (r:Rep K σ h w) (hgl:GL σ) (hv:VRs σ args args'.toList):Calls P f args' w (yS K σ R) :=
 callsIn_wide.1 (snd hP hb K σ w args' hK r hgl hv)
theorem Hk {P:Program} (h:P.follows .mixedOrders=true):Has P (λf=>bo P f):=⟨λ_ _ h=>h,h⟩
theorem zZ {P:Program}{RPm:RP} (hP:Has P RPm) {f:FuncId}{args:List AV}{ts:Tm}{h:AH} (hb:BS RPm (.call f args) ts h λo=>∃ v h',o=.val v h'∧v=.bool true) {D:List Nat}{σ:Sg}{w:World}{args':Array Value}
 (r:Rep ⟨w.heap.size,w,P,D⟩ σ h w) (hgl:GL σ) (hv:VRs σ args args'.toList):Calls P f args' w λe w'=>e=.returned (.bool true)∧Below w.heap.size w w' :=
 (vX hP hb rfl r hgl hv).mono λe w' ⟨v,h',v',σ',⟨_,_,e1,e2⟩,he,_,hv',r'⟩=>by
  cases e1
  subst e2
  simp only[VR] at hv'
  subst hv'
  exact⟨he,r'.below⟩
theorem law_of_C {P:Program}{RPm:RP} (hP:P.follows .mixedOrders=true) (hd:Det (λf=>bo P f) RPm) {f:FuncId}{args:List AV}{h:AH} (hc:C RPm f args h λr _=>r=.bool true) {D:List Nat}{σ:Sg}{w:World}{args':Array Value}
 (r:Rep ⟨w.heap.size,w,P,D⟩ σ h w) (hgl:GL σ) (hv:VRs σ args args'.toList):Calls P f args' w λe w'=>e=.returned (.bool true)∧Below w.heap.size w w' :=
 zZ (Hk hP) (Ho hd hc) r hgl hv
def IsRowE (k:IntKind) (e:Nat) (w:World) (a:Option Addr) (len cap:Nat) (zs:List Int):Prop :=
 (a=none∧len=0∧cap=0∧zs=[]) ∨
 ∃ x,a=some x∧len≤cap∧cap≤maxLen∧zs.length=cap*e∧(∀ i,i<zs.length→w.cell? (x.add i)=some (.int k (zs.getD i 0)))∧∀ n∈zs,(Lit.int k n).wf=true
structure St0 (K:Bs) (σ:Sg) (h:AH) (w:World):Prop where
 rep:Rep K σ h w
 gl:GL σ
 nx:h.next=NG
 gc:∀ b o,h.get b=some o→∃ (k:IntKind) (zs:List Int),o=.cells (zs.map (AV.int k)) 1 true
 ty:∀ b,h.tyOf b=none
theorem St0.zero (P:Program) (w:World):St0 ⟨w.heap.size,w,P,[]⟩ Sg.zero AH.zero w :=
 ⟨Rep.zero P w,GL.zero,rfl,(λb o h=>by rw[AH.get_zero] at h; cases h),(λb=>by unfold AH.tyOf AH.zero; simp [T.get])⟩
theorem Rep.dummy {K:Bs}{σ:Sg}{h:AH}{w:World} (r:Rep K σ h w):∃ σ',σ.le σ'∧Rep K σ' (h.new (.cells [] 1 true)) w :=
 ⟨σ.add h.next ⟨0,0,1,0,0⟩,Sg.le_add r.fresh,r.came [] 1 ⟨0,0,1,0,0⟩ rfl (.inl rfl)⟩
def news:List AO→AH→AH
 | [],h=>h
 | o::r,h=>news r (h.new o)
theorem rO:∀ (os:List AO) (h:AH),(news os h).next=h.next+os.length
 | [],h=>rfl
 | o::r,h=>by rw[news,rO r,AH.next_new,aV]; omega
theorem uZ:∀ (os:List AO) (h:AH) (b:Nat),b<h.next→(news os h).get b=h.get b
 | [],_,_,_=>rfl
 | o::r,h,b,hb=>by rw[news,uZ r _ b (by simp; omega),AH.get_new,if_neg om]
structure NRow where
 a:Option Addr
 len:Nat
 cap:Nat
 zs:List Int
end Go.Am
