/-
  Drawn orders fixed beforehand; weakest preconditions over the clean machine.
-/
import Derived.Test.YtloklfmgbolpeaaAmDraw
namespace Go.Am
set_option linter.unusedVariables false
set_option linter.unusedSimpArgs false

def pick1 (ops : List ROper) (es : List (List Nat)) (done : List Nat) (f : Nat → Bool) : List Nat → Option Nat
  | [] => none
  | i :: r => if (es.getD i []).all (done.contains ·) && f ((ops[i]?.map (·.op.cls)).getD 0) then some i else pick1 ops es done f r

def sched (ops : List ROper) (es : List (List Nat)) : Nat → List Nat → List Nat → List Nat
  | 0, done, _ => done
  | n + 1, done, rest =>
    match (match pick1 ops es done (· < 2) rest with | some i => some i | none => pick1 ops es done (fun _ => true) rest) with
    | some i => sched ops es n (done ++ [i]) (rest.filter (· != i))
    | none => done

/-- Each drawn region in one order that will do. -/
def detC : RC → Option RC
  | .regD ops es =>
    if okD ops es (List.range ops.length) then some (.reg (pickOps ops (List.range ops.length)))
    else if okD ops es (sched ops es ops.length [] (List.range ops.length)) then some (.reg (pickOps ops (sched ops es ops.length [] (List.range ops.length)))) else none
  | .seq a b => match detC a, detC b with
    | some a, some b => some (.seq a b)
    | _, _ => none
  | .cond c a b => match detC a, detC b with
    | some a, some b => some (.cond c a b)
    | _, _ => none
  | .block id c => (detC c).map (.block id)
  | .loop c => (detC c).map .loop
  | .reg ops => some (.reg ops)
  | .skip => some .skip
  | .exit id => some (.exit id)
  | .ret => some .ret

def detF (f : RF) : Option RF := (detC f.body).map fun b => { f with body := b }

def Det (P P' : RP) : Prop := ∀ f rf', P' f = some rf' → ∃ rf, P f = some rf ∧ detF rf = some rf'

theorem BS.ops_norm {P : RP} : ∀ {l : List ROper} {ts : Tm} {h : AH} {r : Out}, BS P (.ops l) ts h r → ∃ ts' h', r = .norm ts' h'
  | [], _, _, _, hb => by cases hb; exact ⟨_, _, rfl⟩
  | _ :: _, _, _, _, hb => by
    obtain ⟨_, _, _, hb⟩ := hb.unstep
    exact hb.ops_norm

def DetTo (P : RP) : Task → Tm → AH → Out → Prop
  | .code c', ts, h, r => ∀ c, detC c = some c' → BS P (.code c) ts h r
  | t, ts, h, r => BS P t ts h r

theorem detC_reg {c : RC} {ops : List ROper} (h : detC c = some (.reg ops)) : c = .reg ops ∨ ∃ ops0 es l, c = .regD ops0 es ∧ ops = pickOps ops0 l ∧ okD ops0 es l = true := by
  cases c <;> simp only [detC, reduceCtorEq, Option.some.injEq, RC.reg.injEq] at h
  case reg => subst h; exact .inl rfl
  case regD o es =>
    split at h
    · rename_i hk
      simp only [Option.some.injEq, RC.reg.injEq] at h
      exact .inr ⟨o, es, _, rfl, h.symm, hk⟩
    · split at h
      · rename_i hk
        simp only [Option.some.injEq, RC.reg.injEq] at h
        exact .inr ⟨o, es, _, rfl, h.symm, hk⟩
      · cases h
  case seq a b => split at h <;> simp at h
  case cond => split at h <;> simp at h
  case block => simp [Option.map_eq_some_iff] at h
  case loop => simp [Option.map_eq_some_iff] at h

theorem detC_seq {c a b : RC} (h : detC c = some (.seq a b)) : ∃ x y, c = .seq x y ∧ detC x = some a ∧ detC y = some b := by
  cases c <;> simp only [detC, reduceCtorEq, Option.some.injEq] at h
  case regD o es =>
    split at h
    · simp at h
    · split at h <;> simp at h
  case seq x y =>
    split at h
    · rename_i h1 h2
      simp only [Option.some.injEq, RC.seq.injEq] at h
      obtain ⟨rfl, rfl⟩ := h
      exact ⟨x, y, rfl, h1, h2⟩
    · cases h
  case cond => split at h <;> simp at h
  case block => simp [Option.map_eq_some_iff] at h
  case loop => simp [Option.map_eq_some_iff] at h

theorem detC_cond {c a b : RC} {v : RO} (h : detC c = some (.cond v a b)) : ∃ x y, c = .cond v x y ∧ detC x = some a ∧ detC y = some b := by
  cases c <;> simp only [detC, reduceCtorEq, Option.some.injEq] at h
  case regD o es =>
    split at h
    · simp at h
    · split at h <;> simp at h
  case seq x y => split at h <;> simp at h
  case cond w x y =>
    split at h
    · rename_i h1 h2
      simp only [Option.some.injEq, RC.cond.injEq] at h
      obtain ⟨rfl, rfl, rfl⟩ := h
      exact ⟨x, y, rfl, h1, h2⟩
    · cases h
  case block => simp [Option.map_eq_some_iff] at h
  case loop => simp [Option.map_eq_some_iff] at h

theorem detC_block {c a : RC} {id : Nat} (h : detC c = some (.block id a)) : ∃ x, c = .block id x ∧ detC x = some a := by
  cases c <;> simp only [detC, reduceCtorEq, Option.some.injEq] at h
  case regD o es =>
    split at h
    · simp at h
    · split at h <;> simp at h
  case seq => split at h <;> simp at h
  case cond => split at h <;> simp at h
  case block i x =>
    rw [Option.map_eq_some_iff] at h
    obtain ⟨y, h1, h2⟩ := h
    simp only [RC.block.injEq] at h2
    obtain ⟨rfl, rfl⟩ := h2
    exact ⟨x, rfl, h1⟩
  case loop => simp [Option.map_eq_some_iff] at h

theorem detC_loop {c a : RC} (h : detC c = some (.loop a)) : ∃ x, c = .loop x ∧ detC x = some a := by
  cases c <;> simp only [detC, reduceCtorEq, Option.some.injEq] at h
  case regD o es =>
    split at h
    · simp at h
    · split at h <;> simp at h
  case seq => split at h <;> simp at h
  case cond => split at h <;> simp at h
  case block => simp [Option.map_eq_some_iff] at h
  case loop x =>
    rw [Option.map_eq_some_iff] at h
    obtain ⟨y, h1, h2⟩ := h
    simp only [RC.loop.injEq] at h2
    obtain rfl := h2
    exact ⟨x, rfl, h1⟩

theorem detC_end {c a : RC} (h : detC c = some a) (ha : a = .skip ∨ a = .ret ∨ ∃ i, a = .exit i) : c = a := by
  cases c <;> simp only [detC, Option.some.injEq] at h
  case skip => exact h
  case ret => exact h
  case exit => exact h
  case reg => subst h; simp at ha
  case regD o es =>
    split at h
    · simp only [Option.some.injEq] at h; subst h; simp at ha
    · split at h
      · simp only [Option.some.injEq] at h; subst h; simp at ha
      · cases h
  case seq => split at h <;> simp at h; subst h; simp at ha
  case cond => split at h <;> simp at h; subst h; simp at ha
  case block => rw [Option.map_eq_some_iff] at h; obtain ⟨y, _, rfl⟩ := h; simp at ha
  case loop => rw [Option.map_eq_some_iff] at h; obtain ⟨y, _, rfl⟩ := h; simp at ha

theorem det_bs {P P' : RP} (hd : Det P P') {t : Task} {ts : Tm} {h : AH} {r : Out} (hb : BS P' t ts h r) : DetTo P t ts h r := by
  induction hb with
  | nil => exact .nil
  | skipped a _ ih => exact .skipped a ih
  | op a b _ ih => exact .op a b ih
  | call a b _ _ i1 i2 => exact .call a b i1 i2
  | callv a b c _ _ i1 i2 => exact .callv a b c i1 i2
  | skip => intro c hc; rw [detC_end hc (.inl rfl)]; exact .skip
  | @reg ops ts h r hb ih =>
    intro c hc
    rcases detC_reg hc with rfl | ⟨o, es, l, rfl, rfl, hk⟩
    · exact .reg ih
    · obtain ⟨ts', h', rfl⟩ := hb.ops_norm
      exact BS.draw l hk ih
  | regD => 
    intro c hc
    exfalso
    cases c <;> simp only [detC, reduceCtorEq, Option.some.injEq] at hc
    case regD o es =>
      split at hc
      · simp at hc
      · split at hc <;> simp at hc
    case seq => split at hc <;> simp at hc
    case cond => split at hc <;> simp at hc
    case block => simp [Option.map_eq_some_iff] at hc
    case loop => simp [Option.map_eq_some_iff] at hc
  | seq _ _ i1 i2 =>
    intro c hc
    obtain ⟨x, y, rfl, h1, h2⟩ := detC_seq hc
    exact .seq (i1 _ h1) (i2 _ h2)
  | seqx _ i1 =>
    intro c hc
    obtain ⟨x, y, rfl, h1, h2⟩ := detC_seq hc
    exact .seqx (i1 _ h1)
  | seqr _ i1 =>
    intro c hc
    obtain ⟨x, y, rfl, h1, h2⟩ := detC_seq hc
    exact .seqr (i1 _ h1)
  | @cond v a b ts h t r hv _ i1 =>
    intro c hc
    obtain ⟨x, y, rfl, h1, h2⟩ := detC_cond hc
    refine .cond hv ?_
    cases t
    · exact i1 _ h2
    · exact i1 _ h1
  | block _ i1 =>
    intro c hc
    obtain ⟨x, rfl, h1⟩ := detC_block hc
    exact .block (i1 _ h1)
  | loop _ _ i1 i2 =>
    intro c hc
    obtain ⟨x, rfl, h1⟩ := detC_loop hc
    exact .loop (i1 _ h1) (i2 _ hc)
  | loopx _ i1 =>
    intro c hc
    obtain ⟨x, rfl, h1⟩ := detC_loop hc
    exact .loopx (i1 _ h1)
  | loopr _ i1 =>
    intro c hc
    obtain ⟨x, rfl, h1⟩ := detC_loop hc
    exact .loopr (i1 _ h1)
  | exit => intro c hc; rw [detC_end hc (.inr (.inr ⟨_, rfl⟩))]; exact .exit
  | ret => intro c hc; rw [detC_end hc (.inr (.inl rfl))]; exact .ret
  | func hf _ hr i1 =>
    obtain ⟨rf, h1, h2⟩ := hd _ _ hf
    unfold detF at h2
    rw [Option.map_eq_some_iff] at h2
    obtain ⟨b, h3, rfl⟩ := h2
    exact .func h1 (i1 _ h3) hr
  | funcn hf _ hr i1 =>
    obtain ⟨rf, h1, h2⟩ := hd _ _ hf
    unfold detF at h2
    rw [Option.map_eq_some_iff] at h2
    obtain ⟨b, h3, rfl⟩ := h2
    exact .funcn h1 (i1 _ h3) hr

/-! ### weakest preconditions -/
/-- A call answers so. -/
def C (P : RP) (f : FuncId) (args : List AV) (h : AH) (Q : AV → AH → Prop) : Prop := ∃ v h', BS P (.call f args) .nil h (.val v h') ∧ Q v h'

theorem C.mono {P : RP} {f : FuncId} {args : List AV} {h : AH} {Q Q' : AV → AH → Prop} (hc : C P f args h Q) (hq : ∀ v h', Q v h' → Q' v h') : C P f args h Q' :=
  let ⟨v, h', a, b⟩ := hc
  ⟨v, h', a, hq v h' b⟩

def wop (P : RP) (ts : Tm) (h : AH) (K : AV → AH → Prop) : ROp → Prop
  | .call f args => C P f (args.map (RO.ev ts)) h K
  | .callv x args => ∃ f caps, RO.ev ts x = .fn f caps ∧ C P f (args.map (RO.ev ts) ++ caps) h K
  | op => ∃ v h', evOp (RO.ev ts) h op = some (v, h') ∧ K v h'

def wops (P : RP) : List ROper → Tm → AH → (Tm → AH → Prop) → Prop
  | [], ts, h, K => K ts h
  | o :: l, ts, h, K =>
    match wanted ts o.guard with
    | some true => wop P ts h (fun v h' => wops P l (dput ts o.dst v) h' K) o.op
    | some false => wops P l (dput ts o.dst .un) h K
    | none => False

theorem wops_sound {P : RP} : ∀ (l : List ROper) {ts : Tm} {h : AH} {K : Tm → AH → Prop}, wops P l ts h K → ∃ ts' h', BS P (.ops l) ts h (.norm ts' h') ∧ K ts' h'
  | [], ts, h, _, hw => ⟨ts, h, .nil, hw⟩
  | o :: l, ts, h, K, hw => by
    unfold wops at hw
    split at hw
    · rename_i hg
      have key : ∃ v h', SV P o ts h v h' ∧ wops P l (dput ts o.dst v) h' K := by
        unfold wop at hw
        split at hw
        · rename_i f args ho
          obtain ⟨v, h', a, b⟩ := hw
          exact ⟨v, h', .inr ⟨hg, .inr (.inl ⟨f, args, ho, a⟩)⟩, b⟩
        · rename_i x args ho
          obtain ⟨f, caps, hx, v, h', a, b⟩ := hw
          exact ⟨v, h', .inr ⟨hg, .inr (.inr ⟨x, args, f, caps, ho, hx, a⟩)⟩, b⟩
        · obtain ⟨v, h', a, b⟩ := hw
          exact ⟨v, h', .inr ⟨hg, .inl a⟩, b⟩
      obtain ⟨v, h', a, b⟩ := key
      obtain ⟨ts', h'', c, d⟩ := wops_sound l b
      exact ⟨ts', h'', BS.step a c, d⟩
    · rename_i hg
      obtain ⟨ts', h'', c, d⟩ := wops_sound l hw
      exact ⟨ts', h'', .skipped hg c, d⟩
    · exact hw.elim

/-- How code ends, seen by three. -/
def fin (Kn Kr : Tm → AH → Prop) (Kx : Nat → Tm → AH → Prop) : Out → Prop
  | .norm ts h => Kn ts h
  | .exit id ts h => Kx id ts h
  | .ret ts h => Kr ts h
  | .val _ _ => False

def W (P : RP) : RC → Tm → AH → (Tm → AH → Prop) → (Tm → AH → Prop) → (Nat → Tm → AH → Prop) → Prop
  | .skip, ts, h, Kn, _, _ => Kn ts h
  | .reg ops, ts, h, Kn, _, _ => wops P ops ts h Kn
  | .regD ops es, ts, h, Kn, Kr, Kx => ∃ r, BS P (.code (.regD ops es)) ts h r ∧ fin Kn Kr Kx r
  | .seq a b, ts, h, Kn, Kr, Kx => W P a ts h (fun ts h => W P b ts h Kn Kr Kx) Kr Kx
  | .cond c a b, ts, h, Kn, Kr, Kx => (RO.ev ts c = .bool true ∧ W P a ts h Kn Kr Kx) ∨ (RO.ev ts c = .bool false ∧ W P b ts h Kn Kr Kx)
  | .block id c, ts, h, Kn, Kr, Kx => W P c ts h Kn Kr (fun i ts h => (i = id → Kn ts h) ∧ (i ≠ id → Kx i ts h))
  | .loop c, ts, h, Kn, Kr, Kx => ∃ r, BS P (.code (.loop c)) ts h r ∧ fin Kn Kr Kx r
  | .exit id, ts, h, _, _, Kx => Kx id ts h
  | .ret, ts, h, _, Kr, _ => Kr ts h

theorem W_sound {P : RP} : ∀ (c : RC) {ts : Tm} {h : AH} {Kn Kr : Tm → AH → Prop} {Kx : Nat → Tm → AH → Prop}, W P c ts h Kn Kr Kx → ∃ r, BS P (.code c) ts h r ∧ fin Kn Kr Kx r
  | .skip, ts, h, _, _, _, hw => ⟨_, .skip, hw⟩
  | .reg ops, _, _, _, _, _, hw => by
    obtain ⟨ts', h', a, b⟩ := wops_sound ops hw
    exact ⟨_, .reg a, b⟩
  | .regD _ _, _, _, _, _, _, hw => hw
  | .seq a b, ts, h, Kn, Kr, Kx, hw => by
    obtain ⟨r, h1, h2⟩ := W_sound a hw
    cases r with
    | norm ts' h' =>
      obtain ⟨r, h3, h4⟩ := W_sound b h2
      exact ⟨r, .seq h1 h3, h4⟩
    | exit id ts' h' => exact ⟨_, .seqx h1, h2⟩
    | ret ts' h' => exact ⟨_, .seqr h1, h2⟩
    | val v h' => exact h2.elim
  | .cond c a b, ts, h, _, _, _, hw => by
    rcases hw with ⟨h1, h2⟩ | ⟨h1, h2⟩
    · obtain ⟨r, h3, h4⟩ := W_sound a h2
      exact ⟨r, .cond h1 h3, h4⟩
    · obtain ⟨r, h3, h4⟩ := W_sound b h2
      exact ⟨r, .cond h1 h3, h4⟩
  | .block id c, ts, h, Kn, Kr, Kx, hw => by
    obtain ⟨r, h1, h2⟩ := W_sound c hw
    refine ⟨_, .block h1, ?_⟩
    cases r with
    | exit i ts' h' =>
      simp only [Out.unblock]
      split
      · rename_i e; exact h2.1 e
      · rename_i e; exact h2.2 e
    | norm => exact h2
    | ret => exact h2
    | val => exact h2
  | .loop _, _, _, _, _, _, hw => hw
  | .exit id, ts, h, _, _, _, hw => ⟨_, .exit, hw⟩
  | .ret, ts, h, _, _, _, hw => ⟨_, .ret, hw⟩

theorem BS.loop_more {P : RP} {c : RC} {ts : Tm} {h : AH} {ts' : Tm} {h' : AH} {Kn Kr : Tm → AH → Prop} {Kx : Nat → Tm → AH → Prop} (hb : BS P (.code c) ts h (.norm ts' h')) (hr : ∃ r, BS P (.code (.loop c)) ts' h' r ∧ fin Kn Kr Kx r) : ∃ r, BS P (.code (.loop c)) ts h r ∧ fin Kn Kr Kx r :=
  let ⟨r, a, b⟩ := hr
  ⟨r, .loop hb a, b⟩

/-- A loop, by an invariant and a measure. -/
theorem W.loop {P : RP} {c : RC} {Kn Kr : Tm → AH → Prop} {Kx : Nat → Tm → AH → Prop} (I : Nat → Tm → AH → Prop) (hs : ∀ n ts h, I n ts h → W P c ts h (fun ts' h' => ∃ m, m < n ∧ I m ts' h') Kr Kx) {n : Nat} {ts : Tm} {h : AH} (hi : I n ts h) : W P (.loop c) ts h Kn Kr Kx := by
  induction n using Nat.strongRecOn generalizing ts h with
  | _ n ih =>
    obtain ⟨r, h1, h2⟩ := W_sound c (hs n ts h hi)
    cases r with
    | norm ts' h' =>
      obtain ⟨m, hm, hi'⟩ := h2
      exact BS.loop_more h1 (ih m hm hi')
    | exit id ts' h' => exact ⟨_, .loopx h1, h2⟩
    | ret ts' h' => exact ⟨_, .loopr h1, h2⟩
    | val v h' => exact h2.elim

theorem C.func {P : RP} {f : FuncId} {args : List AV} {h : AH} {Q : AV → AH → Prop} {rf : RF} (hf : P f = some rf)
    (hw : W P rf.body (initTm 0 args) h (fun ts h' => ∃ v, results rf ts h' = some v ∧ Q v h') (fun ts h' => ∃ v, results rf ts h' = some v ∧ Q v h') (fun _ _ _ => False)) : C P f args h Q := by
  obtain ⟨r, h1, h2⟩ := W_sound _ hw
  cases r with
  | norm ts' h' => obtain ⟨v, a, b⟩ := h2; exact ⟨v, h', .funcn hf h1 a, b⟩
  | ret ts' h' => obtain ⟨v, a, b⟩ := h2; exact ⟨v, h', .func hf h1 a, b⟩
  | exit => exact h2.elim
  | val => exact h2.elim

theorem tget_nil (n : Nat) : tget .nil n = AV.un := rfl


end Go.Am
