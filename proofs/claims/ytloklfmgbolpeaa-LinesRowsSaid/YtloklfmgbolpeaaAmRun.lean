/-
  The clean machine's runs are the model's: by induction over a run.
-/
import Derived.Test.YtloklfmgbolpeaaAmOps
import Derived.Orders
import Derived.CallsIn
import Derived.LoopNIn
import Derived.RangeFuncCalls
namespace Go.Am
set_option linter.unusedVariables false
set_option linter.unusedSimpArgs false
open Go.RowKit

theorem countP_lt {α : Type} {p q : α → Bool} : ∀ {l : List α}, (∀ x ∈ l, p x = true → q x = true) → (∃ x ∈ l, q x = true ∧ p x = false) → l.countP p < l.countP q
  | [], _, h => by obtain ⟨x, hx, _⟩ := h; cases hx
  | y :: l, h1, h2 => by
    have hle : l.countP p ≤ l.countP q := List.countP_mono_left fun x hx => h1 x (by simp [hx])
    obtain ⟨x, hx, hq, hp⟩ := h2
    simp only [List.mem_cons] at hx
    rcases hx with rfl | hx
    · rw [List.countP_cons_of_neg (by simp [hp]), List.countP_cons_of_pos hq]; omega
    · have := countP_lt (fun x hx => h1 x (by simp [hx])) ⟨x, hx, hq, hp⟩
      by_cases hy : p y = true
      · rw [List.countP_cons_of_pos hy, List.countP_cons_of_pos (h1 y (by simp) hy)]; omega
      · by_cases hy2 : q y = true
        · rw [List.countP_cons_of_neg hy, List.countP_cons_of_pos hy2]; omega
        · rw [List.countP_cons_of_neg hy, List.countP_cons_of_neg hy2]; omega

theorem edgesOk_spec : ∀ (es : List (List Nat)) (n : Nat), edgesOk n es = true → ∀ i j : Nat, j ∈ es.getD i [] → j < n + i
  | [], n, _, i, j, hj => by simp at hj
  | e :: r, n, h, 0, j, hj => by
    simp only [edgesOk, Bool.and_eq_true, List.all_eq_true, decide_eq_true_eq] at h
    simpa using h.1 j (by simpa using hj)
  | e :: r, n, h, i + 1, j, hj => by
    simp only [edgesOk, Bool.and_eq_true] at h
    have := edgesOk_spec r (n + 1) h.2 i j (by simpa using hj)
    omega

section
variable {ops : Array Oper}

theorem mem_edges {i : Nat} {o : Oper} (ho : ops[i]? = some o) {j : Nat} : j ∈ (ops.toList.map cEdges).getD i [] ↔ ∃ e ∈ o.after, Region.binds .any e = true ∧ e.on = j := by
  have h1 : (ops.toList.map cEdges).getD i [] = cEdges o := by
    simp [List.getD_eq_getElem?_getD, ho]
  rw [h1]
  simp only [cEdges, List.mem_map, List.mem_filter, Array.mem_toList_iff]
  constructor
  · rintro ⟨e, ⟨h1, h2⟩, h3⟩; exact ⟨e, h1, h2, h3⟩
  · rintro ⟨e, h1, h2, h3⟩; exact ⟨e, ⟨h1, h2⟩, h3⟩

theorem mem_ready {listed : Array Bool} {i : Nat} (h : i ∈ Region.ready .any ops listed) : i < ops.size ∧ listed.getD i true = false ∧ ∀ j, j ∈ (ops.toList.map cEdges).getD i [] → listed.getD j false = true := by
  unfold Region.ready at h
  rw [List.mem_filter, List.mem_range] at h
  obtain ⟨h1, h2⟩ := h
  rw [Bool.and_eq_true] at h2
  obtain ⟨h2, h3⟩ := h2
  refine ⟨h1, by simpa using h2, fun j hj => ?_⟩
  have ho : ops[i]? = some ops[i] := Array.getElem?_eq_getElem h1
  rw [ho] at h3
  simp only [Option.map_some, Option.getD_some, Array.all_eq_true'] at h3
  obtain ⟨e, he, hb, rfl⟩ := (mem_edges ho).1 hj
  have := h3 e he
  simpa [hb] using this

theorem ready_of {listed : Array Bool} {i : Nat} (h1 : i < ops.size) (h2 : listed.getD i true = false) (h3 : ∀ j, j ∈ (ops.toList.map cEdges).getD i [] → listed.getD j false = true) : i ∈ Region.ready .any ops listed := by
  unfold Region.ready
  rw [List.mem_filter, List.mem_range]
  refine ⟨h1, ?_⟩
  have ho : ops[i]? = some ops[i] := Array.getElem?_eq_getElem h1
  rw [ho, Bool.and_eq_true]
  refine ⟨by simp [h2], ?_⟩
  simp only [Option.map_some, Option.getD_some, Array.all_eq_true']
  intro e he
  by_cases hb : Region.binds .any e = true
  · simp [hb, h3 e.on ((mem_edges ho).2 ⟨e, he, hb, rfl⟩)]
  · simp [hb]

def un (ops : Array Oper) (listed : Array Bool) : Nat := (List.range ops.size).countP fun i => !listed.getD i true

theorem lin_go (hok : edgesOk 0 (ops.toList.map cEdges) = true) : ∀ (fuel t : Nat) (listed : Array Bool), listed.size = ops.size → un ops listed ≤ fuel →
    (∀ i, i ∈ Region.linearise.go .any ops fuel t listed [] ↔ i < ops.size ∧ listed.getD i true = false) ∧ (Region.linearise.go .any ops fuel t listed []).Nodup ∧
    ∀ a i b, Region.linearise.go .any ops fuel t listed [] = a ++ i :: b → ∀ j, j ∈ (ops.toList.map cEdges).getD i [] → listed.getD j false = true ∨ j ∈ a := by
  intro fuel
  induction fuel with
  | zero =>
    intro t listed hs hu
    have hno : ∀ i, i < ops.size → ¬ listed.getD i true = false := by
      intro i hi hl
      have : 0 < un ops listed := List.countP_pos_iff.2 ⟨i, by simpa using hi, by simp [hl]⟩
      omega
    refine ⟨fun i => ?_, by simp [Region.linearise.go], fun a i b h => ?_⟩
    · simp only [Region.linearise.go, List.reverse_nil, List.not_mem_nil, false_iff]
      exact fun ⟨h1, h2⟩ => hno i h1 h2
    · simp [Region.linearise.go] at h
  | succ fuel ih =>
    intro t listed hs hu
    simp only [Region.linearise.go]
    change (∀ i, i ∈ (match (Region.ready .any ops listed)[t % (Region.ready .any ops listed).length]? with
      | some i => Region.linearise.go .any ops fuel (t / (Region.ready .any ops listed).length) (listed.setIfInBounds i true) [i]
      | none => [].reverse) ↔ _) ∧ (match (Region.ready .any ops listed)[t % (Region.ready .any ops listed).length]? with
      | some i => Region.linearise.go .any ops fuel (t / (Region.ready .any ops listed).length) (listed.setIfInBounds i true) [i]
      | none => [].reverse).Nodup ∧ ∀ a i b, (match (Region.ready .any ops listed)[t % (Region.ready .any ops listed).length]? with
      | some i => Region.linearise.go .any ops fuel (t / (Region.ready .any ops listed).length) (listed.setIfInBounds i true) [i]
      | none => [].reverse) = _ → _
    cases hi : (Region.ready .any ops listed)[t % (Region.ready .any ops listed).length]? with
    | none =>
      have hnil : Region.ready .any ops listed = [] := by
        cases hr : Region.ready .any ops listed with
        | nil => rfl
        | cons x xs =>
          rw [hr] at hi
          have hlt : t % (x :: xs).length < (x :: xs).length := Nat.mod_lt _ (by simp)
          simp at hi
          simp at hlt
          omega
      have hno : ∀ i, i < ops.size → ¬ listed.getD i true = false := by
        intro i
        induction i using Nat.strongRecOn with
        | _ i ihi =>
          intro h1 h2
          have : i ∈ Region.ready .any ops listed := ready_of h1 h2 fun j hj => by
            have hlt := edgesOk_spec _ 0 hok i j hj
            have hj2 := ihi j (by omega) (by omega)
            rw [Array.getD_eq_getD_getElem?] at hj2 ⊢
            cases hq : listed[j]? with
            | none => rw [Array.getElem?_eq_none_iff] at hq; omega
            | some b => cases b <;> simp_all
          rw [hnil] at this
          cases this
      refine ⟨fun i => ?_, by simp, fun a i b h => ?_⟩
      · simp only [List.reverse_nil, List.not_mem_nil, false_iff]
        exact fun ⟨h1, h2⟩ => hno i h1 h2
      · simp at h
    | some x =>
      simp only []
      rw [linearise_go_acc, List.reverse_singleton, List.singleton_append]
      obtain ⟨x1, x2, x3⟩ := mem_ready (List.mem_of_getElem? hi)
      have hset : ∀ (j : Nat) (d : Bool), (listed.setIfInBounds x true).getD j d = if x = j then true else listed.getD j d := by
        intro j d
        rw [Array.getD_eq_getD_getElem?, Array.getElem?_setIfInBounds, Array.getD_eq_getD_getElem?]
        by_cases e : x = j
        · subst e; simp [hs, x1]
        · simp [e]
      have hun : un ops (listed.setIfInBounds x true) ≤ fuel := by
        have : un ops (listed.setIfInBounds x true) < un ops listed := by
          refine countP_lt ?_ ⟨x, by simpa using x1, by simp [x2], by simp [hset]⟩
          intro y _ hy
          rw [hset] at hy
          by_cases e : x = y
          · simp [e] at hy
          · simpa [e] using hy
        omega
      obtain ⟨i1, i2, i3⟩ := ih (t / (Region.ready .any ops listed).length) (listed.setIfInBounds x true) (by simpa using hs) hun
      refine ⟨fun i => ?_, ?_, fun a i b h j hj => ?_⟩
      · rw [List.mem_cons, i1, hset]
        by_cases e : x = i
        · subst e; simp [x1, x2]
        · have e' : ¬ i = x := fun q => e q.symm
          simp [e, e']
      · rw [List.nodup_cons]
        refine ⟨fun hm => ?_, i2⟩
        rw [i1, hset] at hm
        simp at hm
      · cases a with
        | nil =>
          simp only [List.nil_append, List.cons.injEq] at h
          obtain ⟨rfl, _⟩ := h
          exact .inl (x3 j hj)
        | cons y a =>
          simp only [List.cons_append, List.cons.injEq] at h
          obtain ⟨rfl, h⟩ := h
          rcases i3 a i b h j hj with h1 | h1
          · rw [hset] at h1
            by_cases e : x = j
            · subst e; exact .inr (by simp)
            · simp only [e, if_false] at h1; exact .inl h1
          · exact .inr (by simp [h1])

theorem lin_linearise (hok : edgesOk 0 (ops.toList.map cEdges) = true) (t : Nat) : Lin ops.size (ops.toList.map cEdges) (Region.linearise .any ops t) := by
  have hrep : ∀ (i : Nat) (d : Bool), i < ops.size → (Array.replicate ops.size false).getD i d = false := by
    intro i d hi
    simp [hi]
  obtain ⟨h1, h2, h3⟩ := lin_go hok ops.size t (Array.replicate ops.size false) (by simp) (by
    unfold un
    have := List.countP_le_length (p := fun i => !(Array.replicate ops.size false).getD i true) (l := List.range ops.size)
    simpa using this)
  refine ⟨h2, fun i => ?_, fun a i b h j hj => ?_⟩
  · show i ∈ Region.linearise.go .any ops ops.size t (Array.replicate ops.size false) [] ↔ _
    rw [h1]
    exact ⟨fun h => h.1, fun h => ⟨h, hrep i true h⟩⟩
  · rcases h3 a i b h j hj with q | q
    · exfalso
      rw [Array.getD_eq_getD_getElem?] at q
      by_cases hj2 : j < ops.size
      · simp [hj2] at q
      · simp [hj2] at q
    · exact q
end


/-- A fence without a bound, in a round or not. -/
def Fw (ro : Option Nat) : Fence := { Fence.wide with round := ro }

def CL (P : Program) (nt : Nat) (ops : Array Oper) : List Nat → List ROper → Prop
  | [], [] => True
  | i :: is, o :: os => (∃ oo, ops[i]? = some oo ∧ cOper P nt ops.toList oo = some o) ∧ CL P nt ops is os
  | _, _ => False

def Out.ex : Out → Option (Exit × Tm × AH)
  | .norm ts h => some (.normal, ts, h)
  | .exit id ts h => some (.exit id, ts, h)
  | .ret ts h => some (.ret, ts, h)
  | .val _ _ => none

/-- What lies as told goes to Q. -/
def Goes (B : Nat) (w0 : World) (σ : Sg) (a : Act) (nt : Nat) (e : Exit) (ts' : Tm) (h' : AH) (Q : Exit → Act → World → Prop) : Prop :=
  ∀ σ' a' w', σ.le σ' → Rep B w0 σ' h' w' → TR σ' ts' a'.tmps → nt ≤ a'.tmps.size → a'.defers = a.defers → Q e a' w'

def SndOps (P : Program) (l : List ROper) (ts : Tm) (h : AH) (e : Exit) (ts' : Tm) (h' : AH) : Prop :=
  ∀ (B : Nat) (w0 : World) (σ : Sg) (w : World) (a : Act) (nt : Nat) (ops : Array Oper) (idx : List Nat) (ro : Option Nat), CL P nt ops idx l → Rep B w0 σ h w → TR σ ts a.tmps → nt ≤ a.tmps.size →
    ∀ Q, Goes B w0 σ a nt e ts' h' Q → wpOpsIn (Fw ro) 0 P ops Q idx a w

def SndCode (P : Program) (c : RC) (ts : Tm) (h : AH) (e : Exit) (ts' : Tm) (h' : AH) : Prop :=
  ∀ (B : Nat) (w0 : World) (σ : Sg) (w : World) (a : Act) (nt : Nat) (cc : Code) (ro : Option Nat), cCode P nt cc = some c → Rep B w0 σ h w → TR σ ts a.tmps → nt ≤ a.tmps.size →
    ∀ Q, Goes B w0 σ a nt e ts' h' Q → cc.wpIn (Fw ro) 0 P Q a w

def SndLoop (P : Program) (c : RC) (ts : Tm) (h : AH) (e : Exit) (ts' : Tm) (h' : AH) : Prop :=
  ∀ (b : RC), c = .loop b → ∃ n, ∀ (B : Nat) (w0 : World) (σ : Sg) (w : World) (a : Act) (nt : Nat) (cc : Code) (ro : Option Nat), cCode P nt cc = some b → Rep B w0 σ h w → TR σ ts a.tmps → nt ≤ a.tmps.size →
    ∀ Q, Goes B w0 σ a nt e ts' h' Q → Code.roundsIn (Fw ro) 0 P cc Q n a w

def SndCall (P : Program) (f : FuncId) (args : List AV) (h : AH) (v : AV) (h' : AH) : Prop :=
  ∀ (B : Nat) (w0 : World) (σ : Sg) (w : World) (args' : Array Value), Rep B w0 σ h w → VRs σ args args'.toList →
    CallsIn (Fw none) 0 P f args' w fun e w' => ∃ v' σ', e = .returned v' ∧ σ.le σ' ∧ VR σ' v v' ∧ Rep B w0 σ' h' w'

def Snd (P : Program) : Task → Tm → AH → Out → Prop
  | .ops l, ts, h, r => ∀ e ts' h', r.ex = some (e, ts', h') → e = .normal ∧ SndOps P l ts h e ts' h'
  | .code c, ts, h, r => ∀ e ts' h', r.ex = some (e, ts', h') → SndCode P c ts h e ts' h' ∧ SndLoop P c ts h e ts' h'
  | .call f args, _, h, r => ∀ v h', r = .val v h' → SndCall P f args h v h'

theorem Goes.mono {B : Nat} {w0 : World} {σ τ : Sg} {a b : Act} {nt : Nat} {e : Exit} {ts' : Tm} {h' : AH} {Q : Exit → Act → World → Prop} (h : Goes B w0 σ a nt e ts' h' Q) (hl : σ.le τ) (hd : b.defers = a.defers) : Goes B w0 τ b nt e ts' h' Q :=
  fun σ' a' w' h1 h2 h3 h4 h5 => h σ' a' w' (Sg.le_trans hl h1) h2 h3 h4 (h5.trans hd)

theorem cGuard_spec {σ : Sg} {ts : Tm} {a : Act} {ops : Array Oper} {nt : Nat} (ht : TR σ ts a.tmps) (hn : nt ≤ a.tmps.size) {o : Oper} {g : Option (Nat × Bool)} (hg : cGuard nt ops.toList o.guard = some g) {b : Bool} (hw : wanted ts g = some b) :
    Region.wanted o (yielded ops a.tmps) = b := by
  unfold Region.wanted
  cases hog : o.guard with
  | none =>
    rw [hog] at hg
    simp only [cGuard, Option.some.injEq] at hg
    subst hg
    simp only [wanted, Option.some.injEq] at hw
    exact hw
  | some p =>
    obtain ⟨j, c⟩ := p
    rw [hog] at hg
    simp only [cGuard, Array.getElem?_toList] at hg
    split at hg
    · rename_i o' ho'
      split at hg
      · rename_i d hd
        split at hg
        · rename_i hdn
          simp only [Option.some.injEq] at hg
          subst hg
          simp only [wanted] at hw
          split at hw
          · rename_i c' hc'
            simp only [Option.some.injEq] at hw
            subst hw
            have hbd : d < a.tmps.size := Nat.lt_of_lt_of_le hdn hn
            have := ht d
            rw [hc'] at this
            simp only [VR] at this
            have h2 : a.tmps[d]? = some (.bool c') := by
              rw [Array.getD_eq_getD_getElem?] at this
              rw [Array.getElem?_eq_getElem hbd] at this ⊢
              simpa using this
            simp only [yielded, ho', hd, Option.bind_some, h2]
            rfl
          · rename_i hc'
            simp only [Option.some.injEq] at hw
            subst hw
            have hbd : d < a.tmps.size := Nat.lt_of_lt_of_le hdn hn
            have := ht d
            rw [hc'] at this
            simp only [VR] at this
            obtain ⟨vs, h3, h4⟩ := this
            cases vs with
            | cons _ _ => simp [VRs] at h4
            | nil =>
              have h2 : a.tmps[d]? = some (.tuple #[]) := by
                rw [Array.getD_eq_getD_getElem?] at h3
                rw [Array.getElem?_eq_getElem hbd] at h3 ⊢
                simpa using h3
              simp only [yielded, ho', hd, Option.bind_some, h2]
              rfl
          · cases hw
        · cases hg
      · cases hg
    · cases hg

/-- a frame's temporaries behind an operation -/
theorem put_ok {σ : Sg} {ts : Tm} {a : Act} {nt : Nat} (ht : TR σ ts a.tmps) (hn : nt ≤ a.tmps.size) {d : Option Nat} (hd : ∀ n, d = some n → n < nt) {v : AV} {v' : Value} (hv : VR σ v v') :
    TR σ (dput ts d v) (a.put d v').tmps ∧ nt ≤ (a.put d v').tmps.size ∧ (a.put d v').defers = a.defers := by
  cases d with
  | none => exact ⟨ht, hn, rfl⟩
  | some n =>
    have := hd n rfl
    exact ⟨ht.put (by omega) hv, by simp [Act.put]; exact hn, rfl⟩

theorem cOper_spec {P : Program} {nt : Nat} {ops : List Oper} {oo : Oper} {o : ROper} (h : cOper P nt ops oo = some o) : cOp P oo.op = some o.op ∧ cGuard nt ops oo.guard = some o.guard ∧ oo.dst = o.dst ∧ ∀ n, o.dst = some n → n < nt := by
  unfold cOper at h
  split at h
  · rename_i r g h1 h2 h3
    simp only [Option.some.injEq] at h
    subst h
    exact ⟨h1, h2, h3, fun n hn => by cases hn⟩
  · rename_i r g d h1 h2 h3
    split at h
    · rename_i hd
      simp only [Option.some.injEq] at h
      subst h
      exact ⟨h1, h2, h3, fun n hn => by simp only [Option.some.injEq] at hn; subst hn; exact hd⟩
    · cases h
  · cases h

theorem not_defer {P : Program} {op : Op} {r : ROp} (h : cOp P op = some r) : ∀ c, op ≠ .defer c := by
  rintro c rfl
  simp [cOp] at h

theorem uponIn_of_fin {P : Program} {ro : Option Nat} {o : Oper} {a : Act} {K : Act → World → Prop} {Q : Exit → Act → World → Prop} {nx : Next} {v' : Value} {w' : World} (hfin : nx = .value v' ∨ (nx = .skip ∧ v' = undef)) (h : K (a.put o.dst v') w') :
    o.uponIn (Fw ro) 0 P a K Q (.ok nx w') := by
  rcases hfin with rfl | ⟨rfl, rfl⟩
  · exact h
  · exact h

theorem CallsIn.inAny {n : Nat} {P : Program} {f : FuncId} {args : Array Value} {w : World} {R : Ending → World → Prop} (ro : Option Nat) (h : CallsIn (Fw none) n P f args w R) : CallsIn (Fw ro) n P f args w R := h

/-- a call's operation -/
theorem exec_call {P : Program} {a : Act} {o : Oper} {c : Call} (ho : o.op = .call c) {f : FuncId} {args caps : Array Value} {callee : Operand} (hc : c.callee = .value callee) (hv : a.eval callee = .func (.func f) #[] caps) {fn : Func} (hf : P.funcs[f]? = some fn) (hb : fn.body.isSome = true) (hn : fn.name ≠ "runtime.NumGoroutine")
    (ha : c.args.map a.eval = args) (w : World) : (execOp a.eval o).run P w = .ok (.enter f (args ++ caps)) w := by
  have hb' : ¬ fn.body = none := by cases h : fn.body <;> simp_all
  obtain ⟨cc, cargs, cats⟩ := c
  simp only at hc ha
  subst hc ha
  simp [execOp, ho, resolve, hv, Deferred.ofValue, invoke, callFunc, hf, hn, hb']

theorem cFunc_spec {P : Program} {f : FuncId} {rf : RF} (h : cFunc P f = some rf) : ∃ fn c, P.funcs[f]? = some fn ∧ fn.body = some c ∧ fn.name ≠ "runtime.NumGoroutine" ∧ cCode P fn.ntmps c = some rf.body ∧ cRess P fn.results.toList = some rf.results := by
  unfold cFunc at h
  cases hf : P.funcs[f]? with
  | none => simp [hf] at h
  | some fn =>
    simp only [hf, Option.bind_some, cFn] at h
    cases hb : fn.body with
    | none => simp [hb] at h
    | some c =>
      simp only [hb] at h
      split at h
      · cases h
      · rename_i hn
        split at h
        · rename_i b rs h1 h2
          simp only [Option.some.injEq] at h
          subst h
          exact ⟨fn, c, rfl, hb, hn, h1, h2⟩
        · cases h

theorem wp_op {P : Program} {ro : Option Nat} {ops : Array Oper} {Q : Exit → Act → World → Prop} {i : Nat} {is : List Nat} {a : Act} {w : World} {oo : Oper} (ho : ops[i]? = some oo) (hw : Region.wanted oo (yielded ops a.tmps) = true) (hnd : ∀ c, oo.op ≠ .defer c)
    (h : oo.uponIn (Fw ro) 0 P a (wpOpsIn (Fw ro) 0 P ops Q is) Q ((execOp a.eval oo).run P w)) : wpOpsIn (Fw ro) 0 P ops Q (i :: is) a w := by
  simp only [wpOpsIn, ho, hw, if_true, Oper.wpIn]
  refine ⟨fun _ _ => trivial, ?_⟩
  rw [Oper.semAt_eq _ _ _ hnd]
  exact h

section
variable {P : Program} {RPm : RP}

theorem snd_skipped {o : ROper} {l : List ROper} {ts : Tm} {h : AH} {ts' : Tm} {h' : AH} (hw : wanted ts o.guard = some false) (ih : SndOps P l (dput ts o.dst .un) h .normal ts' h') : SndOps P (o :: l) ts h .normal ts' h' := by
  intro B w0 σ w a nt ops idx ro hcl r ht hn Q hQ
  cases idx with
  | nil => exact hcl.elim
  | cons i is =>
    obtain ⟨⟨oo, ho, hc⟩, hcl⟩ := hcl
    obtain ⟨c1, c2, c3, c4⟩ := cOper_spec hc
    have hwt := cGuard_spec ht hn c2 hw
    simp only [wpOpsIn, ho, hwt, Bool.false_eq_true, if_false]
    refine ⟨fun _ _ => trivial, ?_⟩
    obtain ⟨p1, p2, p3⟩ := put_ok ht hn c4 (VR.un (σ := σ))
    rw [c3]
    exact ih B w0 σ w _ nt ops is ro hcl r p1 p2 Q (hQ.mono (Sg.le_refl σ) p3)

theorem snd_op {o : ROper} {l : List ROper} {ts : Tm} {h : AH} {v : AV} {h1 : AH} {ts' : Tm} {h' : AH} (hw : wanted ts o.guard = some true) (he : evOp (RO.ev ts) h o.op = some (v, h1)) (ih : SndOps P l (dput ts o.dst v) h1 .normal ts' h') : SndOps P (o :: l) ts h .normal ts' h' := by
  intro B w0 σ w a nt ops idx ro hcl r ht hn Q hQ
  cases idx with
  | nil => exact hcl.elim
  | cons i is =>
    obtain ⟨⟨oo, ho, hc⟩, hcl⟩ := hcl
    obtain ⟨c1, c2, c3, c4⟩ := cOper_spec hc
    refine wp_op ho (cGuard_spec ht hn c2 hw) (not_defer c1) ?_
    obtain ⟨nx, v', w', σ', hrun, hfin, hle, hv, r'⟩ := sim_op ht c1 r he
    rw [hrun]
    refine uponIn_of_fin hfin ?_
    obtain ⟨p1, p2, p3⟩ := put_ok (ht.mono hle) hn c4 hv
    rw [c3]
    exact ih B w0 σ' w' _ nt ops is ro hcl r' p1 p2 Q (hQ.mono hle p3)

theorem snd_callany {o : ROper} {l : List ROper} {ts : Tm} {h : AH} {f : FuncId} {args caps : List AV} {v : AV} {h1 : AH} {ts' : Tm} {h' : AH} (hok : ∀ f rf, RPm f = some rf → cFunc P f = some rf) (hf : ∃ rf, RPm f = some rf) (hw : wanted ts o.guard = some true)
    (hexec : ∀ (σ : Sg) (a : Act) (oo : Oper), TR σ ts a.tmps → cOp P oo.op = some o.op → ∃ c callee capsv, oo.op = .call c ∧ c.callee = .value callee ∧ a.eval callee = .func (.func f) #[] capsv ∧ VRs σ caps capsv.toList ∧ VRs σ args (c.args.map a.eval).toList)
    (hcall : SndCall P f (args ++ caps) h v h1) (ih : SndOps P l (dput ts o.dst v) h1 .normal ts' h') : SndOps P (o :: l) ts h .normal ts' h' := by
  intro B w0 σ w a nt ops idx ro hcl r ht hn Q hQ
  cases idx with
  | nil => exact hcl.elim
  | cons i is =>
    obtain ⟨⟨oo, ho, hc⟩, hcl⟩ := hcl
    obtain ⟨c1, c2, c3, c4⟩ := cOper_spec hc
    refine wp_op ho (cGuard_spec ht hn c2 hw) (not_defer c1) ?_
    obtain ⟨c, callee, capsv, e1, e2, e3, e4, e5⟩ := hexec σ a oo ht c1
    obtain ⟨rf, hrf⟩ := hf
    obtain ⟨fn, cd, g1, g2, g3, g4, g5⟩ := cFunc_spec (hok f rf hrf)
    rw [exec_call e1 e2 e3 g1 (by rw [g2]; rfl) g3 rfl w]
    simp only [Oper.uponIn]
    refine ⟨fun q => by simp [Fw, Fence.wide] at q, ?_⟩
    refine CallsIn.inAny ro ((hcall B w0 σ w _ r (by simpa using e5.append e4)).mono ?_)
    rintro e w' ⟨v', σ', rfl, hle, hv, r'⟩
    obtain ⟨p1, p2, p3⟩ := put_ok (ht.mono hle) hn c4 hv
    simp only
    rw [c3]
    exact ih B w0 σ' w' _ nt ops is ro hcl r' p1 p2 Q (hQ.mono hle p3)

theorem inv_call {op : Op} {f : FuncId} {args : List RO} (h : cOp P op = some (.call f args)) : ∃ c : Call, op = .call c ∧ c.callee = .value (.func f) ∧ cOs c.args.toList = some args := by
  cases op
  case call c =>
    obtain ⟨callee, cargs, cats⟩ := c
    cases callee with
    | value x =>
      cases x <;> simp only [cOp, reduceCtorEq, Option.map_eq_some_iff, ROp.call.injEq, and_false, exists_false] at h
      obtain ⟨rs, h1, rfl, rfl⟩ := h
      exact ⟨_, rfl, rfl, h1⟩
    | invoke _ _ => simp [cOp] at h
    | builtin b =>
      exfalso
      simp only [cOp] at h
      repeat' (split at h)
      all_goals simp at h
  all_goals
    exfalso
    simp only [cOp] at h
    repeat' (split at h)
    all_goals first | (simp at h; done) | simp_all

theorem inv_callv {op : Op} {x : RO} {args : List RO} (h : cOp P op = some (.callv x args)) : ∃ (c : Call) (t : Nat), op = .call c ∧ c.callee = .value (.tmp t) ∧ x = .t t ∧ cOs c.args.toList = some args := by
  cases op
  case call c =>
    obtain ⟨callee, cargs, cats⟩ := c
    cases callee with
    | value y =>
      cases y <;> simp only [cOp, reduceCtorEq, Option.map_eq_some_iff, ROp.callv.injEq, and_false, exists_false] at h
      obtain ⟨rs, h1, rfl, rfl⟩ := h
      exact ⟨_, _, rfl, rfl, rfl, h1⟩
    | invoke _ _ => simp [cOp] at h
    | builtin b =>
      exfalso
      simp only [cOp] at h
      repeat' (split at h)
      all_goals simp at h
  all_goals
    exfalso
    simp only [cOp] at h
    repeat' (split at h)
    all_goals first | (simp at h; done) | simp_all


section
variable {nt : Nat}
theorem inv_skip {cc : Code} (h : cCode P nt cc = some .skip) : cc = .skip := by
  cases cc <;> simp only [cCode, reduceCtorEq, Option.map_eq_some_iff, and_false, exists_false, Option.some.injEq] at h <;> first | rfl | (repeat' (split at h)) <;> simp at h
theorem inv_ret {cc : Code} (h : cCode P nt cc = some .ret) : cc = .ret := by
  cases cc <;> simp only [cCode, reduceCtorEq, Option.map_eq_some_iff, and_false, exists_false, Option.some.injEq] at h <;> first | rfl | (repeat' (split at h)) <;> simp at h
theorem inv_exit {cc : Code} {id : Nat} (h : cCode P nt cc = some (.exit id)) : cc = .exit id := by
  cases cc <;> simp only [cCode, reduceCtorEq, Option.map_eq_some_iff, and_false, exists_false, Option.some.injEq, RC.exit.injEq] at h <;> first | (subst h; rfl) | (repeat' (split at h)) <;> simp at h
theorem inv_seq {cc : Code} {a b : RC} (h : cCode P nt cc = some (.seq a b)) : ∃ x y, cc = .seq x y ∧ cCode P nt x = some a ∧ cCode P nt y = some b := by
  cases cc
  case seq x y =>
    simp only [cCode] at h
    split at h
    · rename_i a' b' h1 h2
      simp only [Option.some.injEq, RC.seq.injEq] at h
      obtain ⟨rfl, rfl⟩ := h
      exact ⟨x, y, rfl, h1, h2⟩
    · cases h
  all_goals
    exfalso
    simp only [cCode] at h
    repeat' (split at h)
    all_goals first | (simp at h; done) | simp_all
theorem inv_cond {cc : Code} {c : RO} {a b : RC} (h : cCode P nt cc = some (.cond c a b)) : ∃ z x y, cc = .cond z x y ∧ cO z = some c ∧ cCode P nt x = some a ∧ cCode P nt y = some b := by
  cases cc
  case cond z x y =>
    simp only [cCode] at h
    split at h
    · rename_i c' a' b' h0 h1 h2
      simp only [Option.some.injEq, RC.cond.injEq] at h
      obtain ⟨rfl, rfl, rfl⟩ := h
      exact ⟨z, x, y, rfl, h0, h1, h2⟩
    · cases h
  all_goals
    exfalso
    simp only [cCode] at h
    repeat' (split at h)
    all_goals first | (simp at h; done) | simp_all
theorem inv_block {cc : Code} {id : Nat} {a : RC} (h : cCode P nt cc = some (.block id a)) : ∃ x, cc = .block id x ∧ cCode P nt x = some a := by
  cases cc
  case block i x =>
    simp only [cCode, Option.map_eq_some_iff, RC.block.injEq] at h
    obtain ⟨a', h1, rfl, rfl⟩ := h
    exact ⟨x, rfl, h1⟩
  all_goals
    exfalso
    simp only [cCode] at h
    repeat' (split at h)
    all_goals first | (simp at h; done) | simp_all
theorem inv_loop {cc : Code} {a : RC} (h : cCode P nt cc = some (.loop a)) : ∃ x, cc = .loop x ∧ cCode P nt x = some a := by
  cases cc
  case loop x =>
    simp only [cCode, Option.map_eq_some_iff, RC.loop.injEq] at h
    obtain ⟨a', h1, rfl⟩ := h
    exact ⟨x, rfl, h1⟩
  all_goals
    exfalso
    simp only [cCode] at h
    repeat' (split at h)
    all_goals first | (simp at h; done) | simp_all
theorem inv_reg {cc : Code} {l : List ROper} (h : cCode P nt cc = some (.reg l)) : ∃ id ops, cc = .region id ops false ∧ cOpers P nt ops.toList ops.toList = some l := by
  cases cc
  case region id ops d =>
    simp only [cCode] at h
    split at h
    · rename_i l' h1
      cases d with
      | true => simp only [if_true] at h; split at h <;> simp at h
      | false =>
        simp only [Bool.false_eq_true, if_false, Option.some.injEq, RC.reg.injEq] at h
        subst h
        exact ⟨id, ops, rfl, h1⟩
    · cases h
  all_goals
    exfalso
    simp only [cCode] at h
    repeat' (split at h)
    all_goals first | (simp at h; done) | simp_all
theorem inv_regD {cc : Code} {l : List ROper} {es : List (List Nat)} (h : cCode P nt cc = some (.regD l es)) : ∃ id ops, cc = .region id ops true ∧ cOpers P nt ops.toList ops.toList = some l ∧ es = ops.toList.map cEdges ∧ edgesOk 0 (ops.toList.map cEdges) = true := by
  cases cc
  case region id ops d =>
    simp only [cCode] at h
    split at h
    · rename_i l' h1
      cases d with
      | true =>
        simp only [if_true] at h
        split at h
        · rename_i hk
          simp only [Option.some.injEq, RC.regD.injEq] at h
          obtain ⟨rfl, rfl⟩ := h
          exact ⟨id, ops, rfl, h1, rfl, hk⟩
        · cases h
      | false => simp at h
    · cases h
  all_goals
    exfalso
    simp only [cCode] at h
    repeat' (split at h)
    all_goals first | (simp at h; done) | simp_all
end

theorem cOpers_get {nt : Nat} {all : List Oper} : ∀ {os : List Oper} {l : List ROper}, cOpers P nt all os = some l → l.length = os.length ∧ ∀ (i : Nat) (oo : Oper), os[i]? = some oo → ∃ o : ROper, l[i]? = some o ∧ cOper P nt all oo = some o
  | [], l, h => by simp only [cOpers, Option.some.injEq] at h; subst h; simp
  | x :: os, l, h => by
    unfold cOpers at h
    split at h
    · rename_i a as h1 h2
      simp only [Option.some.injEq] at h
      subst h
      obtain ⟨i1, i2⟩ := cOpers_get h2
      refine ⟨by simp [i1], fun i oo hi => ?_⟩
      cases i with
      | zero => simp only [List.getElem?_cons_zero, Option.some.injEq] at hi; subst hi; exact ⟨a, by simp, h1⟩
      | succ i => obtain ⟨o, q1, q2⟩ := i2 i oo (by simpa using hi); exact ⟨o, by simpa using q1, q2⟩
    · cases h

theorem CL_of {nt : Nat} {ops : Array Oper} {l : List ROper} (h : cOpers P nt ops.toList ops.toList = some l) : ∀ (idx : List Nat), (∀ i ∈ idx, i < ops.size) → CL P nt ops idx (idx.filterMap (l[·]?))
  | [], _ => trivial
  | i :: is, hi => by
    obtain ⟨h1, h2⟩ := cOpers_get h
    have hlt := hi i (by simp)
    obtain ⟨o, q1, q2⟩ := h2 i ops[i] (by simp [hlt])
    rw [List.filterMap_cons_some (b := o) (by exact q1)]
    exact ⟨⟨ops[i], by simp [hlt], q2⟩, CL_of h is fun j hj => hi j (by simp [hj])⟩

theorem range_filterMap {α : Type} : ∀ l : List α, (List.range l.length).filterMap (l[·]?) = l
  | [] => rfl
  | x :: l => by
    rw [List.length_cons, List.range_succ_eq_map, List.filterMap_cons_some (b := x) (by simp), List.filterMap_map]
    have := range_filterMap l
    congr 1

theorem CL_all {nt : Nat} {ops : Array Oper} {l : List ROper} (h : cOpers P nt ops.toList ops.toList = some l) : CL P nt ops (List.range ops.size) l := by
  have := CL_of h (List.range ops.size) (by simp)
  have hl : (List.range ops.size).filterMap (l[·]?) = l := by
    obtain ⟨h1, _⟩ := cOpers_get h
    have h1' : l.length = ops.size := by simpa using h1
    rw [← h1']
    exact range_filterMap l
  rwa [hl] at this

/-- what the program must have -/
structure Has (P : Program) (RPm : RP) : Prop where
  fn : ∀ f rf, RPm f = some rf → cFunc P f = some rf
  mixed : P.follows .mixedOrders = true

theorem initTm_get : ∀ (args : List AV) (i n : Nat), tget (initTm i args) n = if i ≤ n then (args[n - i]?).getD AV.un else AV.un
  | [], i, n => by simp [initTm, tget, T.get]
  | v :: r, i, n => by
    simp only [initTm]
    rw [tget_tput, initTm_get r (i + 1) n]
    by_cases h : i = n
    · subst h; simp
    · by_cases h1 : i ≤ n
      · rw [if_neg h, if_pos (by omega), if_pos h1, show n - i = (n - (i + 1)) + 1 from by omega]; simp
      · rw [if_neg h, if_neg (by omega), if_neg h1]

theorem init_TR {σ : Sg} {args : List AV} {args' : Array Value} (h : VRs σ args args'.toList) (k : Nat) : TR σ (initTm 0 args) (args' ++ Array.replicate k undef) := fun n => by
  rw [initTm_get]
  have hl := h.length
  simp only [Nat.zero_le, if_true, Nat.sub_zero]
  rw [Array.getD_eq_getD_getElem?]
  cases hn : args[n]? with
  | some v =>
    obtain ⟨y, hy, ry⟩ := h.get hn
    have hlt : n < args'.size := by have := (List.getElem?_eq_some_iff.1 hy).1; simpa using this
    rw [Array.getElem?_append_left hlt]
    simp only [Array.getElem?_toList] at hy
    simp [hy, ry]
  | none =>
    have hge : args'.size ≤ n := by rw [List.getElem?_eq_none_iff] at hn; simp at hl; omega
    rw [Array.getElem?_append_right hge]
    have : ((Array.replicate k undef)[n - args'.size]?).getD undef = undef := by
      rw [Array.getElem?_replicate]
      split <;> rfl
    rw [this]
    simp only [Option.getD_none]
    exact VR.un

/-- a result's read -/
def resOne (tmps : Array Value) : ResultVar → Sem Value
  | .tmp t => pure (tmps.getD t undef)
  | .cell a t => do loadVar t (← asAddr (tmps.getD a undef))

theorem res_sim {B : Nat} {w0 : World} {σ : Sg} {h : AH} {w : World} (r : Rep B w0 σ h w) {ts : Tm} {tmps : Array Value} (ht : TR σ ts tmps) : ∀ {rs : List ResultVar} {rr : List RR} {vs : List AV}, cRess P rs = some rr → rdAll ts h rr = some vs →
    ∃ vs' : List Value, (rs.mapM (resOne tmps)).run P w = .ok vs' w ∧ VRs σ vs vs'
  | [], rr, vs, hc, hr => by
    simp only [cRess, Option.some.injEq] at hc
    subst hc
    simp only [rdAll, Option.some.injEq] at hr
    subst hr
    exact ⟨[], by simp, rfl⟩
  | x :: rs, rr, vs, hc, hr => by
    unfold cRess at hc
    split at hc
    · rename_i y ys h1 h2
      simp only [Option.some.injEq] at hc
      subst hc
      unfold rdAll at hr
      split at hr
      · rename_i v vs1 g1 g2
        simp only [Option.some.injEq] at hr
        subst hr
        obtain ⟨vs', q1, q2⟩ := res_sim r ht h2 g2
        cases x with
        | tmp t =>
          simp only [cRes, Option.some.injEq] at h1
          subst h1
          simp only [rdRes, Option.some.injEq] at g1
          subst g1
          refine ⟨tmps.getD t undef :: vs', ?_, ?_⟩
          · simp only [List.mapM_cons, Sem.run_bind, resOne, Sem.run_pure, Result.andThen_ok, q1]
          · simp only [VRs]; exact ⟨_, _, rfl, ht t, q2⟩
        | cell a t =>
          simp only [cRes] at h1
          obtain ⟨⟨g, n⟩, hl, rfl⟩ := map_some_inv h1
          simp only [rdRes] at g1
          split at g1
          · rename_i b o hb
            split at g1
            · rename_i cs hcs
              have hv := ht a
              rw [hb] at hv
              simp only [VR] at hv
              obtain ⟨i, hi, hv⟩ := hv
              obtain ⟨v', p1, p2⟩ := run_loadVar (P := P) hl r hcs hi g1
              refine ⟨v' :: vs', ?_, ?_⟩
              · simp only [List.mapM_cons, Sem.run_bind, resOne, hv, asAddr, Sem.run_pure, Result.andThen_ok, p1, q1]
              · simp only [VRs]; exact ⟨_, _, rfl, p2, q2⟩
            · cases g1
          · cases g1
      · cases hr
    · cases hc

theorem results_sim {B : Nat} {w0 : World} {σ : Sg} {h : AH} {w : World} (r : Rep B w0 σ h w) {ts : Tm} {tmps : Array Value} (ht : TR σ ts tmps) {fn : Func} {rf : RF} (hc : cRess P fn.results.toList = some rf.results) {v : AV} (hr : results rf ts h = some v) :
    ∃ v', (Go.results fn tmps).run P w = .ok v' w ∧ VR σ v v' := by
  unfold Am.results at hr
  cases hvs : rdAll ts h rf.results with
  | none => simp [hvs] at hr
  | some vs =>
    obtain ⟨vs', q1, q2⟩ := res_sim (P := P) r ht hc hvs
    have hrun : (Go.results fn tmps).run P w = .ok (if hh : vs'.toArray.size = 1 then vs'.toArray[0] else .tuple vs'.toArray) w := by
      have hres : Go.results fn tmps = (do let vs ← fn.results.mapM (resOne tmps); pure (if h : vs.size = 1 then vs[0] else .tuple vs)) := by
        unfold Go.results
        congr 1
      rw [hres, Array.mapM_eq_mapM_toList]
      simp only [Sem.run_bind, Sem.run_map, q1, Result.andThen_ok, Sem.run_pure]
    have hl := q2.length
    rw [hvs] at hr
    cases vs with
    | nil =>
      simp only [Option.some.injEq] at hr
      subst hr
      simp only [VRs] at q2
      subst q2
      exact ⟨.tuple #[], by rw [hrun]; simp, by simp [VR, VRs]⟩
    | cons x xs =>
      cases xs with
      | nil =>
        simp only [Option.some.injEq] at hr
        subst hr
        simp only [VRs] at q2
        obtain ⟨y, ys, rfl, h1, rfl⟩ := q2
        exact ⟨y, by rw [hrun]; simp, h1⟩
      | cons y ys =>
        simp only [Option.some.injEq] at hr
        subst hr
        refine ⟨.tuple vs'.toArray, ?_, by simp only [VR]; exact ⟨vs', rfl, q2⟩⟩
        rw [hrun]
        have : ¬ vs'.toArray.size = 1 := by simp at hl ⊢; omega
        rw [dif_neg this]


theorem Out.ex_unblock {id : Nat} {r : Out} {e : Exit} {ts' : Tm} {h' : AH} (h : (r.unblock id).ex = some (e, ts', h')) : ∃ e0, r.ex = some (e0, ts', h') ∧ ∀ (Q : Exit → Act → World → Prop) a w, Q e a w → Exit.inBlock id Q e0 a w := by
  cases r with
  | norm ts h0 =>
    simp only [Out.unblock, Out.ex, Option.some.injEq, Prod.mk.injEq] at h ⊢
    obtain ⟨rfl, rfl, rfl⟩ := h
    exact ⟨.normal, ⟨rfl, rfl, rfl⟩, fun Q a w hq => hq⟩
  | exit id' ts h0 =>
    by_cases hid : id' = id
    · simp only [Out.unblock, hid, if_true, Out.ex, Option.some.injEq, Prod.mk.injEq] at h ⊢
      obtain ⟨rfl, rfl, rfl⟩ := h
      exact ⟨.exit id, ⟨rfl, rfl, rfl⟩, fun Q a w hq => by simpa [Exit.inBlock] using hq⟩
    · simp only [Out.unblock, hid, if_false, Out.ex, Option.some.injEq, Prod.mk.injEq] at h ⊢
      obtain ⟨rfl, rfl, rfl⟩ := h
      exact ⟨.exit id', ⟨rfl, rfl, rfl⟩, fun Q a w hq => by simpa [Exit.inBlock, hid] using hq⟩
  | ret ts h0 =>
    simp only [Out.unblock, Out.ex, Option.some.injEq, Prod.mk.injEq] at h ⊢
    obtain ⟨rfl, rfl, rfl⟩ := h
    exact ⟨.ret, ⟨rfl, rfl, rfl⟩, fun Q a w hq => hq⟩
  | val v h0 => simp [Out.unblock, Out.ex] at h

theorem snd_func {f : FuncId} {args : List AV} {h : AH} {rf : RF} {ts' : Tm} {h' : AH} {v : AV} {e : Exit} (he : e = .normal ∨ e = .ret) (hP : Has P RPm) (hf : RPm f = some rf) (hc : SndCode P rf.body (initTm 0 args) h e ts' h') (hr : Am.results rf ts' h' = some v) : SndCall P f args h v h' := by
  intro B w0 σ w args' r hv
  obtain ⟨fn, c, g1, g2, g3, g4, g5⟩ := cFunc_spec (hP.fn f rf hf)
  refine callsIn_of_wp g1 g2 trivial ?_ rfl
  refine hc B w0 σ w _ fn.ntmps c none g4 r (init_TR hv _) (by simp; omega) _ ?_
  intro σ' a' w' hle r' ht' _ hd
  obtain ⟨v', q1, q2⟩ := results_sim (P := P) r' ht' g5 hr
  have hpost : a'.defers = [] ∧ ∃ v, (Go.results fn a'.tmps).run P w' = .ok v w' ∧ ∃ v' σ', Ending.returned v = .returned v' ∧ σ.le σ' ∧ VR σ' _ v' ∧ Rep B w0 σ' h' w' := ⟨hd, v', q1, v', σ', rfl, hle, q2, r'⟩
  rcases he with rfl | rfl
  · exact hpost
  · exact hpost

/-- WHAT THE CLEAN MACHINE DOES THE MODEL DOES. -/
theorem snd (hP : Has P RPm) {t : Task} {ts : Tm} {h : AH} {r : Out} (hb : BS RPm t ts h r) : Snd P t ts h r := by
  induction hb with
  | nil =>
    intro e ts' h' he
    simp only [Out.ex, Option.some.injEq, Prod.mk.injEq] at he
    obtain ⟨rfl, rfl, rfl⟩ := he
    refine ⟨rfl, ?_⟩
    intro B w0 σ w a nt ops idx ro hcl r ht hn Q hQ
    cases idx with
    | nil => exact hQ σ a w (Sg.le_refl σ) r ht hn rfl
    | cons i is => exact hcl.elim
  | skipped hw _ ih =>
    intro e ts' h' he
    obtain ⟨rfl, i⟩ := ih e ts' h' he
    exact ⟨rfl, snd_skipped hw i⟩
  | op hw hev _ ih =>
    intro e ts' h' he
    obtain ⟨rfl, i⟩ := ih e ts' h' he
    exact ⟨rfl, snd_op hw hev i⟩
  | @call o l ts h f args v h1 r hw ho hc _ ihc ih =>
    intro e ts' h' he
    obtain ⟨rfl, i⟩ := ih e ts' h' he
    have hcall := ihc v h1 rfl
    have hfex : ∃ rf, RPm f = some rf := by cases hc <;> exact ⟨_, by assumption⟩
    refine ⟨rfl, snd_callany (caps := []) hP.fn hfex hw ?_ (by simpa using hcall) i⟩
    intro σ a oo ht hcop
    rw [ho] at hcop
    obtain ⟨c, q1, q2, q3⟩ := inv_call hcop
    exact ⟨c, .func f, #[], q1, q2, rfl, rfl, by simpa using cOs_VR (a := a) ht q3⟩
  | @callv o l ts h x args f caps v h1 r hw ho hx hc _ ihc ih =>
    intro e ts' h' he
    obtain ⟨rfl, i⟩ := ih e ts' h' he
    have hcall := ihc v h1 rfl
    have hfex : ∃ rf, RPm f = some rf := by cases hc <;> exact ⟨_, by assumption⟩
    refine ⟨rfl, snd_callany (caps := caps) hP.fn hfex hw ?_ hcall i⟩
    intro σ a oo ht hcop
    rw [ho] at hcop
    obtain ⟨c, t, q1, q2, q3, q4⟩ := inv_callv hcop
    subst q3
    have hv := ht t
    simp only [RO.ev] at hx
    rw [hx] at hv
    simp only [VR] at hv
    obtain ⟨vs, hv1, hv2⟩ := hv
    exact ⟨c, .tmp t, vs.toArray, q1, q2, hv1, by simpa using hv2, by simpa using cOs_VR (a := a) ht q4⟩
  | skip =>
    intro e ts' h' he
    simp only [Out.ex, Option.some.injEq, Prod.mk.injEq] at he
    obtain ⟨rfl, rfl, rfl⟩ := he
    refine ⟨?_, fun b hb => by cases hb⟩
    intro B w0 σ w a nt cc ro hcc r ht hn Q hQ
    have := inv_skip hcc
    subst this
    exact wpIn_skip (hQ σ a w (Sg.le_refl σ) r ht hn rfl)
  | reg _ ih =>
    intro e ts' h' he
    obtain ⟨rfl, i⟩ := ih e ts' h' he
    refine ⟨?_, fun b hb => by cases hb⟩
    intro B w0 σ w a nt cc ro hcc r ht hn Q hQ
    obtain ⟨id, ops, rfl, ho⟩ := inv_reg hcc
    exact wpIn_region (i B w0 σ w a nt ops _ ro (CL_all ho) r ht hn Q hQ)
  | @regD ops es ts h ts1 h1 _ ih =>
    intro e ts' h' he
    simp only [Out.ex, Option.some.injEq, Prod.mk.injEq] at he
    obtain ⟨rfl, rfl, rfl⟩ := he
    refine ⟨?_, fun b hb => by cases hb⟩
    intro B w0 σ w a nt cc ro hcc r ht hn Q hQ
    obtain ⟨id, opsA, rfl, ho, rfl, hk⟩ := inv_regD hcc
    refine wpIn_region_draw fun t => ?_
    have hsch : Region.schedule (P.follows .mixedOrders) opsA t = Region.linearise .any opsA t := by simp [Region.schedule, hP.mixed]
    rw [hsch]
    have hlin := lin_linearise hk t
    have hlen : ops.length = opsA.size := by simpa using (cOpers_get ho).1
    obtain ⟨_, i⟩ := ih (Region.linearise .any opsA t) (by rw [hlen]; exact hlin) _ _ _ rfl
    exact i B w0 σ w.drew a nt opsA _ ro (CL_of ho _ fun j hj => (hlin.2.1 j).1 hj) r.drew ht hn Q hQ
  | @seq ca cb ts h ts1 h1 r _ _ iha ihb =>
    intro e ts' h' he
    refine ⟨?_, fun b hb => by cases hb⟩
    intro B w0 σ w a nt cc ro hcc r ht hn Q hQ
    obtain ⟨x, y, rfl, hx, hy⟩ := inv_seq hcc
    refine wpIn_seq ((iha _ _ _ rfl).1 B w0 σ w a nt x ro hx r ht hn _ ?_)
    intro σ' a' w' hle r' ht' hn' hd
    exact (ihb e ts' h' he).1 B w0 σ' w' a' nt y ro hy r' ht' hn' Q (hQ.mono hle hd)
  | seqx _ iha =>
    intro e ts' h' he
    simp only [Out.ex, Option.some.injEq, Prod.mk.injEq] at he
    obtain ⟨rfl, rfl, rfl⟩ := he
    refine ⟨?_, fun b hb => by cases hb⟩
    intro B w0 σ w a nt cc ro hcc r ht hn Q hQ
    obtain ⟨x, y, rfl, hx, hy⟩ := inv_seq hcc
    exact wpIn_seq ((iha _ _ _ rfl).1 B w0 σ w a nt x ro hx r ht hn _ fun σ' a' w' q1 q2 q3 q4 q5 => hQ σ' a' w' q1 q2 q3 q4 q5)
  | seqr _ iha =>
    intro e ts' h' he
    simp only [Out.ex, Option.some.injEq, Prod.mk.injEq] at he
    obtain ⟨rfl, rfl, rfl⟩ := he
    refine ⟨?_, fun b hb => by cases hb⟩
    intro B w0 σ w a nt cc ro hcc r ht hn Q hQ
    obtain ⟨x, y, rfl, hx, hy⟩ := inv_seq hcc
    exact wpIn_seq ((iha _ _ _ rfl).1 B w0 σ w a nt x ro hx r ht hn _ fun σ' a' w' q1 q2 q3 q4 q5 => hQ σ' a' w' q1 q2 q3 q4 q5)
  | @cond c ca cb ts h t r hc _ ih =>
    intro e ts' h' he
    refine ⟨?_, fun b hb => by cases hb⟩
    intro B w0 σ w a nt cc ro hcc r ht hn Q hQ
    obtain ⟨z, x, y, rfl, hz, hx, hy⟩ := inv_cond hcc
    have hv := cO_VR (a := a) ht hz
    rw [hc] at hv
    simp only [VR] at hv
    refine wpIn_cond hv ?_
    cases t
    · exact (ih e ts' h' he).1 B w0 σ w a nt y ro hy r ht hn Q hQ
    · exact (ih e ts' h' he).1 B w0 σ w a nt x ro hx r ht hn Q hQ
  | block _ ih =>
    intro e ts' h' he
    obtain ⟨e0, h0, hq⟩ := Out.ex_unblock he
    refine ⟨?_, fun b hb => by cases hb⟩
    intro B w0 σ w a nt cc ro hcc r ht hn Q hQ
    obtain ⟨x, rfl, hx⟩ := inv_block hcc
    exact wpIn_block ((ih e0 ts' h' h0).1 B w0 σ w a nt x ro hx r ht hn _ fun σ' a' w' q1 q2 q3 q4 q5 => hq Q a' w' (hQ σ' a' w' q1 q2 q3 q4 q5))
  | @loop c ts h ts1 h1 r _ _ iha ihb =>
    intro e ts' h' he
    have hl : SndLoop P (.loop c) ts h e ts' h' := by
      intro b hb
      simp only [RC.loop.injEq] at hb
      subst hb
      obtain ⟨n, hn1⟩ := (ihb e ts' h' he).2 c rfl
      refine ⟨n + 1, fun B w0 σ w a nt cc ro hcc r ht hn Q hQ => ?_⟩
      rw [roundsIn_succ]
      refine (iha _ _ _ rfl).1 B w0 σ w a nt cc ro hcc r ht hn _ ?_
      intro σ' a' w' hle r' ht' hn' hd
      exact hn1 B w0 σ' w' a' nt cc ro hcc r' ht' hn' Q (hQ.mono hle hd)
    refine ⟨?_, hl⟩
    intro B w0 σ w a nt cc ro hcc r ht hn Q hQ
    obtain ⟨x, rfl, hx⟩ := inv_loop hcc
    obtain ⟨n, hn2⟩ := hl c rfl
    exact wpIn_loop_rounds n (hn2 B w0 σ w a nt x ro hx r ht hn Q hQ)
  | @loopx c ts h id ts1 h1 _ iha =>
    intro e ts' h' he
    simp only [Out.ex, Option.some.injEq, Prod.mk.injEq] at he
    obtain ⟨rfl, rfl, rfl⟩ := he
    have hl : SndLoop P (.loop c) ts h (.exit id) ts1 h1 := by
      intro b hb
      simp only [RC.loop.injEq] at hb
      subst hb
      refine ⟨1, fun B w0 σ w a nt cc ro hcc r ht hn Q hQ => ?_⟩
      rw [roundsIn_succ]
      exact (iha _ _ _ rfl).1 B w0 σ w a nt cc ro hcc r ht hn _ fun σ' a' w' q1 q2 q3 q4 q5 => hQ σ' a' w' q1 q2 q3 q4 q5
    refine ⟨?_, hl⟩
    intro B w0 σ w a nt cc ro hcc r ht hn Q hQ
    obtain ⟨x, rfl, hx⟩ := inv_loop hcc
    obtain ⟨n, hn2⟩ := hl c rfl
    exact wpIn_loop_rounds n (hn2 B w0 σ w a nt x ro hx r ht hn Q hQ)
  | @loopr c ts h ts1 h1 _ iha =>
    intro e ts' h' he
    simp only [Out.ex, Option.some.injEq, Prod.mk.injEq] at he
    obtain ⟨rfl, rfl, rfl⟩ := he
    have hl : SndLoop P (.loop c) ts h .ret ts1 h1 := by
      intro b hb
      simp only [RC.loop.injEq] at hb
      subst hb
      refine ⟨1, fun B w0 σ w a nt cc ro hcc r ht hn Q hQ => ?_⟩
      rw [roundsIn_succ]
      exact (iha _ _ _ rfl).1 B w0 σ w a nt cc ro hcc r ht hn _ fun σ' a' w' q1 q2 q3 q4 q5 => hQ σ' a' w' q1 q2 q3 q4 q5
    refine ⟨?_, hl⟩
    intro B w0 σ w a nt cc ro hcc r ht hn Q hQ
    obtain ⟨x, rfl, hx⟩ := inv_loop hcc
    obtain ⟨n, hn2⟩ := hl c rfl
    exact wpIn_loop_rounds n (hn2 B w0 σ w a nt x ro hx r ht hn Q hQ)
  | exit =>
    intro e ts' h' he
    simp only [Out.ex, Option.some.injEq, Prod.mk.injEq] at he
    obtain ⟨rfl, rfl, rfl⟩ := he
    refine ⟨?_, fun b hb => by cases hb⟩
    intro B w0 σ w a nt cc ro hcc r ht hn Q hQ
    have := inv_exit hcc
    subst this
    exact wpIn_exit (hQ σ a w (Sg.le_refl σ) r ht hn rfl)
  | ret =>
    intro e ts' h' he
    simp only [Out.ex, Option.some.injEq, Prod.mk.injEq] at he
    obtain ⟨rfl, rfl, rfl⟩ := he
    refine ⟨?_, fun b hb => by cases hb⟩
    intro B w0 σ w a nt cc ro hcc r ht hn Q hQ
    have := inv_ret hcc
    subst this
    exact wpIn_ret (hQ σ a w (Sg.le_refl σ) r ht hn rfl)
  | func hf _ hr ih =>
    intro v h' he
    simp only [Out.val.injEq] at he
    obtain ⟨rfl, rfl⟩ := he
    exact snd_func (.inr rfl) hP hf (ih _ _ _ rfl).1 hr
  | funcn hf _ hr ih =>
    intro v h' he
    simp only [Out.val.injEq] at he
    obtain ⟨rfl, rfl⟩ := he
    exact snd_func (.inl rfl) hP hf (ih _ _ _ rfl).1 hr

end
end Go.Am
