/-
  From a run of the clean machine to a call of the model; slices that came in.
-/
import Derived.Test.YtpeemonpdlifbaaQAmRun
import Derived.Test.YtpeemonpdlifbaaQAmW
import Derived.WideShapes
set_option linter.all false
namespace Go.Am
open Go.RowKit
theorem calls_of_bs {P:Program}{RPm:RP} (hP:Has P RPm) {f:FuncId}{args:List AV}{ts:Tm}{h:AH}{R:Out→Prop} (hb:BS RPm (.call f args) ts h R) {K:Bs} (hK:K.P=P) {σ:Sg}{w:World}{args':Array Value}
 (r:Rep K σ h w) (hgl:GL σ) (hv:VRs σ args args'.toList):Calls P f args' w (Gives K σ R) :=
 callsIn_wide.1 (snd hP hb K σ w args' hK r hgl hv)
noncomputable def lkp (t:List (Nat×RF)) (f:Nat) (d:Option RF):Option RF:=List.rec d (fun p _ ih=>bif Nat.beq f p.1 then some p.2 else ih) t
theorem lkp_cons {p:Nat×RF}{t:List (Nat×RF)}{f:Nat}{d:Option RF}:lkp (p::t) f d=bif Nat.beq f p.1 then some p.2 else lkp t f d:=rfl
theorem lkp_mem {f:Nat}{r:RF}:∀ {t:List (Nat×RF)},lkp t f none=some r→(f,r)∈t
 | [],h=>by cases h
 | p::t,h=>by
   rw[lkp_cons] at h
   cases q:Nat.beq f p.1 with
   | true=>rw[q] at h; cases h; rw[Nat.eq_of_beq_eq_true q]; exact List.mem_cons_self ..
   | false=>rw[q] at h; exact List.mem_cons_of_mem _ (lkp_mem h)
noncomputable def orcl (P:Program) (ms:List (Nat×RF)):RP:=fun f=>bif Nat.blt f srtN then cFunc P f else lkp ms (f-srtN) none
noncomputable def prgM (P:Program) (ms:List (Nat×RF)):RP:=fun f=>bif Nat.blt f srtN then (cFunc P f).bind detF else lkp ms (f-srtN) none
def Marks (P:Program) (ms:List (Nat×RF)):Prop:=∀ m∈ms,(m.2=srtRF∧Srts P m.1)∨∃ g,m.2=srfRF g∧Srfs P m.1 g
theorem has_of {P:Program}{ms:List (Nat×RF)} (h:P.follows .mixedOrders=true) (hs:Marks P ms):Has P (orcl P ms):=by
 have up:∀ f r,orcl P ms (f+srtN)=some r→(f,r)∈ms:=fun f r hf=>by
  unfold orcl at hf
  have q:Nat.blt (f+srtN) srtN=false:=by
   cases e:Nat.blt (f+srtN) srtN with
   | false=>rfl
   | true=>have:=Nat.le_of_ble_eq_true e; omega
  rw[q,Nat.add_sub_cancel] at hf
  exact lkp_mem hf
 refine⟨fun f rf hf=>?_,fun f g hf=>?_,fun f hf=>?_,h⟩
 ·unfold orcl at hf
  cases q:Nat.blt f srtN with
  | true=>rw[q] at hf; exact .inr hf
  | false =>
    rw[q] at hf
    rcases hs _ (lkp_mem hf) with ⟨e,_⟩|⟨g,e,_⟩<;>exact .inl ⟨_,e⟩
 ·rcases hs _ (up _ _ hf) with ⟨e,_⟩|⟨g',e,q⟩
  ·simp only[srfRF,srtRF,RF.mk.injEq,RC.exit.injEq,true_and] at e
   omega
  ·simp only[srfRF,RF.mk.injEq,RC.exit.injEq,true_and,Nat.add_left_cancel_iff] at e
   rw[e]
   exact q
 ·rcases hs _ (up _ _ hf) with ⟨e,q⟩|⟨g',e,_⟩
  ·exact q
  ·simp only[srfRF,srtRF,RF.mk.injEq,RC.exit.injEq,true_and] at e
   omega
def AllD (P:Program):List (Nat×RF)→Prop
 | []=>True
 | p::t=>(cFunc P p.1).bind detF=some p.2∧AllD P t
theorem det_lkp {P:Program}{ms t:List (Nat×RF)} (hs:∀ m∈ms,detF m.2=some m.2) (hb:t.all (fun p=>Nat.blt p.1 srtN)=true) (ht:AllD P t):Det (orcl P ms) fun f=>lkp t f (prgM P ms f):=by
 have hd:Det (orcl P ms) (prgM P ms):=fun f r h=>by
  unfold prgM at h
  unfold orcl
  cases q:Nat.blt f srtN with
  | true=>rw[q] at h; exact Option.bind_eq_some_iff.1 h
  | false =>
    rw[q] at h
    exact⟨r,h,hs _ (lkp_mem h)⟩
 intro f r h
 refine hd f r (Eq.trans (Eq.symm ?_) h)
 clear h
 show lkp t f (prgM P ms f)=prgM P ms f
 induction t with
 | nil=>rfl
 | cons p t ih =>
   simp only[List.all_cons,Bool.and_eq_true] at hb
   rw[lkp_cons]
   cases q:Nat.beq f p.1 with
   | false=>exact ih hb.2 ht.2
   | true =>
     have e:=Nat.eq_of_beq_eq_true q
     subst e
     unfold prgM
     rw[hb.1]
     exact ht.1.symm
theorem law_of_bs {P:Program}{RPm:RP} (hP:Has P RPm) {f:FuncId}{args:List AV}{ts:Tm}{h:AH} (hb:BS RPm (.call f args) ts h fun o=>∃ v h',o=.val v h'∧v=.bool true) {D:List Nat}{σ:Sg}{w:World}{args':Array Value}
 (r:Rep ⟨w.heap.size,w,P,D⟩ σ h w) (hgl:GL σ) (hv:VRs σ args args'.toList):Calls P f args' w fun e w'=>e=.returned (.bool true)∧Below w.heap.size w w' :=
 (calls_of_bs hP hb rfl r hgl hv).mono fun e w' ⟨v,h',v',σ',⟨_,_,e1,e2⟩,he,_,hv',r'⟩=>by
  cases e1
  subst e2
  simp only[VR] at hv'
  subst hv'
  exact⟨he,r'.below⟩
theorem law_of_C {P:Program}{RPm:RP}{ms:List (Nat×RF)} (hP:P.follows .mixedOrders=true) (hs:Marks P ms) (hd:Det (orcl P ms) RPm) {f:FuncId}{args:List AV}{h:AH} (hc:C RPm f args h fun r _=>r=.bool true) {D:List Nat}{σ:Sg}{w:World}{args':Array Value}
 (r:Rep ⟨w.heap.size,w,P,D⟩ σ h w) (hgl:GL σ) (hv:VRs σ args args'.toList):Calls P f args' w fun e w'=>e=.returned (.bool true)∧Below w.heap.size w w' :=
 law_of_bs (has_of hP hs) (det_bs hd hc) r hgl hv
def IsRowE (k:IntKind) (e:Nat) (w:World) (a:Option Addr) (len cap:Nat) (zs:List Int):Prop :=
 (a=none∧len=0∧cap=0∧zs=[]) ∨
 ∃ x,a=some x∧len≤cap∧cap≤maxLen∧zs.length=cap*e∧(∀ i,i<zs.length→w.cell? (x.add i)=some (.int k (zs.getD i 0)))∧∀ n∈zs,(Lit.int k n).wf=true
structure St0 (K:Bs) (σ:Sg) (h:AH) (w:World):Prop where
 rep:Rep K σ h w
 gl:GL σ
 nx:h.next=NG
 ints:∀ b o,h.get b=some o→∃ (k:IntKind) (zs:List Int),o=.cells (zs.map (AV.int k)) 1 true
 ty:∀ b,h.tyOf b=none
theorem St0.zero (P:Program) (w:World):St0 ⟨w.heap.size,w,P,[]⟩ Sg.zero AH.zero w :=
 ⟨Rep.zero P w,GL.zero,rfl,(fun b o h=>by rw[AH.get_zero] at h; cases h),(fun b=>by unfold AH.tyOf AH.zero; simp [T.get])⟩
theorem Rep.dummy {K:Bs}{σ:Sg}{h:AH}{w:World} (r:Rep K σ h w):∃ σ',σ.le σ'∧Rep K σ' (h.new (.cells [] 1 true)) w :=
 ⟨σ.add h.next ⟨0,0,1,0,0⟩,Sg.le_add r.fresh,r.came [] 1 ⟨0,0,1,0,0⟩ rfl (.inl rfl)⟩
def news:List AO→AH→AH
 | [],h=>h
 | o::r,h=>news r (h.new o)
structure NRow where
 a:Option Addr
 len:Nat
 cap:Nat
 zs:List Int
end Go.Am
