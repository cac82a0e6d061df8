/-
  The clean machine carried out: a run with fuel, for calls whose arguments are known; what it gives the machine gives.
-/
import Derived.Test.YtjcbcmonmmfllaaGreatDoorAmW
namespace Go.Am
set_option linter.unusedVariables false
set_option linter.unusedSimpArgs false

/-- behind a value -/
def aft (k : Tm → AH → Option Out) (ts : Tm) (o : ROper) (v : AV) (h : AH) : Option Out :=
  if chks (dput ts o.dst v) h o.cs = true then k (dput ts o.dst v) h else none

def onVal (k : AV → AH → Option Out) : Option Out → Option Out
  | some (.val v h) => k v h
  | _ => none

def onNorm (k : Tm → AH → Option Out) : Option Out → Option Out
  | some (.norm ts h) => k ts h
  | some (.exit i ts h) => some (.exit i ts h)
  | some (.ret ts h) => some (.ret ts h)
  | _ => none

def endRange (l : Nat) (ts : Tm) (h : AH) : Option Out :=
  match h.get l with
  | some (.lp fn p tl ps st pend) =>
    if st = .busy then none else
    match pend with
    | none => some (.norm ts (h.put l (.lp fn p tl ps .over none)))
    | some none => some (.ret ts (h.put l (.lp fn p tl ps .over (some none))))
    | some (some id) => some (.exit id ts (h.put l (.lp fn p tl ps .over (some (some id)))))
  | _ => none

def endRound1 (l : Nat) (st : LS) (pend : Option (Option Nat)) (b : Bool) (h : AH) : Option Out :=
  match h.get l with
  | some (.lp fn p tl ps .busy none) => some (.val (.bool b) (h.put l (.lp fn p tl ps st pend)))
  | _ => none

def endRound (l : Nat) : Option Out → Option Out
  | some (.norm _ h) => endRound1 l .ready none true h
  | some (.ret _ h) => endRound1 l .done (some none) false h
  | some (.exit id _ h) => endRound1 l .done (some (some id)) false h
  | _ => none

def goRes (rf : RF) : Option Out → Option Out
  | some (.norm ts h) => (results rf ts h).map fun v => .val v h
  | some (.ret ts h) => (results rf ts h).map fun v => .val v h
  | _ => none

def goBlock (id : Nat) : Option Out → Option Out
  | some o => some (o.unblock id)
  | none => none

/-- the body of a round -/
def busyAt (k : AH → Option Out) (b : Nat) (h : AH) : Option Out :=
  match h.get b with
  | some (.lp fn p tl ps .ready none) => k (h.put b (.lp fn p tl ps .busy none))
  | _ => none

def onlyNorm (k : Tm → AH → Option Out) : Option Out → Option Out
  | some (.norm ts h) => k ts h
  | _ => none

def go (P : RP) : Nat → Task → Tm → AH → Option Out
  | 0, _, _, _ => none
  | _ + 1, .ops _ [], ts, h => some (.norm ts h)
  | n + 1, .ops b (o :: l), ts, h =>
    match wanted ts o.guard with
    | none => none
    | some false => go P n (.ops b l) (dput ts o.dst .un) h
    | some true =>
      match o.op with
      | .call f args => onVal (aft (go P n (.ops b l)) ts o) (go P n (.call f (args.map (RO.ev ts))) .nil h)
      | .callv x args => match RO.ev ts x with
        | .fn f caps => onVal (aft (go P n (.ops b l)) ts o) (go P n (.call f (args.map (RO.ev ts) ++ caps)) .nil h)
        | .yld c => onVal (aft (go P n (.ops b l)) ts o) (go P n (.round c (args.map (RO.ev ts))) .nil h)
        | _ => none
      | _ => match evN b (RO.ev ts) h o with
        | some (v, h') => aft (go P n (.ops b l)) ts o v h'
        | none => none
  | n + 1, .code c, ts, h => match c with
    | .skip => some (.norm ts h)
    | .reg ops => go P n (.ops h.next ops) ts h
    | .regK kn ops => go P n (.ops h.next ops) ts (h.keep kn)
    | .regD _ _ _ => none
    | .seq a b => onNorm (go P n (.code b)) (go P n (.code a) ts h)
    | .cond c a b => match RO.ev ts c with
      | .bool true => go P n (.code a) ts h
      | .bool false => go P n (.code b) ts h
      | _ => none
    | .block id c => goBlock id (go P n (.code c) ts h)
    | .loop c => onNorm (go P n (.code (.loop c))) (go P n (.code c) ts h)
    | .rangeF fn p f ps _ _ => match RO.ev ts f with
      | .fn g caps => onVal (fun _ h' => endRange h.next ts h') (go P n (.call g (.yld h.next :: caps)) .nil (h.new (.lp fn p ts ps .ready none)))
      | _ => none
    | .exit id => some (.exit id ts h)
    | .ret => some (.ret ts h)
    | .bad => none
  | n + 1, .call f args, _, h => match P f with
    | some rf => goRes rf (go P n (.code rf.body) (initTm 0 args) h)
    | none => none
  | n + 1, .round b args, _, h => match h.get b with
    | some (.lp fn p tl ps .ready none) => if args.length = ps.length then
      match P fn with
      | some rf => match rf.body.node p with
        | some (.rangeF fn' p' _ ps' asg body) => if fn' = fn ∧ p' = p ∧ ps' = ps then onlyNorm (fun ts1 h1 => busyAt (fun h2 => endRound b (go P n (.code body) ts1 h2)) b h1) (go P n (.code asg) (setAll tl ps args) h) else none
        | _ => none
      | none => none
      else none
    | _ => none

theorem onVal_some {k : AV → AH → Option Out} {x : Option Out} {o : Out} (h : onVal k x = some o) : ∃ v g, x = some (.val v g) ∧ k v g = some o := by
  unfold onVal at h
  split at h
  · exact ⟨_, _, rfl, h⟩
  · cases h

theorem aft_some {k : Tm → AH → Option Out} {ts : Tm} {p : ROper} {v : AV} {h : AH} {o : Out} (ha : aft k ts p v h = some o) : chks (dput ts p.dst v) h p.cs = true ∧ k (dput ts p.dst v) h = some o := by
  unfold aft at ha
  split at ha
  · rename_i hc; exact ⟨hc, ha⟩
  · cases ha

theorem onNorm_some {k : Tm → AH → Option Out} {x : Option Out} {o : Out} (h : onNorm k x = some o) : (∃ ts g, x = some (.norm ts g) ∧ k ts g = some o) ∨ (∃ i ts g, x = some (.exit i ts g) ∧ o = .exit i ts g) ∨ ∃ ts g, x = some (.ret ts g) ∧ o = .ret ts g := by
  unfold onNorm at h
  split at h
  · exact .inl ⟨_, _, rfl, h⟩
  · exact .inr (.inl ⟨_, _, _, rfl, (Option.some.inj h).symm⟩)
  · exact .inr (.inr ⟨_, _, rfl, (Option.some.inj h).symm⟩)
  · cases h

/-- WHAT IS CARRIED OUT IS THE MACHINE'S. -/
theorem go_sound {P : RP} : ∀ (n : Nat) (t : Task) (ts : Tm) (h : AH) (o : Out), go P n t ts h = some o → BS P t ts h (· = o)
  | 0, _, _, _, _, hg => by cases hg
  | n + 1, .ops b [], ts, h, o, hg => by
    simp only [go, Option.some.injEq] at hg
    exact .nil hg
  | n + 1, .ops b (p :: l), ts, h, o, hg => by
    simp only [go] at hg
    split at hg
    · cases hg
    · rename_i hw
      exact .skipped hw (go_sound n _ _ _ _ hg)
    · rename_i hw
      split at hg
      · rename_i f args ho
        obtain ⟨v, g, h1, h2⟩ := onVal_some hg
        obtain ⟨h3, h4⟩ := aft_some h2
        have := go_sound n _ _ _ _ h1
        exact .call hw ho this (fun v' g' e => by cases e; exact h3) fun v' g' e => by cases e; exact go_sound n _ _ _ _ h4
      · rename_i x args ho
        split at hg
        · rename_i f caps hx
          obtain ⟨v, g, h1, h2⟩ := onVal_some hg
          obtain ⟨h3, h4⟩ := aft_some h2
          have := go_sound n _ _ _ _ h1
          exact .callv hw ho hx this (fun v' g' e => by cases e; exact h3) fun v' g' e => by cases e; exact go_sound n _ _ _ _ h4
        · rename_i c hx
          obtain ⟨v, g, h1, h2⟩ := onVal_some hg
          obtain ⟨h3, h4⟩ := aft_some h2
          have := go_sound n _ _ _ _ h1
          exact .yield hw ho hx this (fun v' g' e => by cases e; exact h3) fun v' g' e => by cases e; exact go_sound n _ _ _ _ h4
        · cases hg
      · split at hg
        · rename_i v h' he
          obtain ⟨h3, h4⟩ := aft_some hg
          exact .op hw he h3 (go_sound n _ _ _ _ h4)
        · cases hg
  | n + 1, .code c, ts, h, o, hg => by
    cases c <;> simp only [go, reduceCtorEq] at hg
    case skip => exact .skip (Option.some.inj hg)
    case reg => exact .reg (go_sound n _ _ _ _ hg)
    case regK => exact .regK (go_sound n _ _ _ _ hg)
    case seq =>
      rcases onNorm_some hg with ⟨ts1, g, h1, h2⟩ | ⟨i, ts1, g, h1, rfl⟩ | ⟨ts1, g, h1, rfl⟩
      · exact .seq (go_sound n _ _ _ _ h1) (fun _ _ e => by cases e; exact go_sound n _ _ _ _ h2) (fun _ _ _ e => by cases e) (fun _ _ e => by cases e)
      · exact .seq (go_sound n _ _ _ _ h1) (fun _ _ e => by cases e) (fun _ _ _ e => e) (fun _ _ e => by cases e)
      · exact .seq (go_sound n _ _ _ _ h1) (fun _ _ e => by cases e) (fun _ _ _ e => by cases e) (fun _ _ e => e)
    case cond =>
      split at hg
      · rename_i hc; exact .cond hc (go_sound n _ _ _ _ hg)
      · rename_i hc; exact .cond hc (go_sound n _ _ _ _ hg)
      · cases hg
    case block id c =>
      unfold goBlock at hg
      split at hg
      · rename_i o1 h1
        exact .block (go_sound n _ _ _ _ h1) fun o2 e => by subst e; exact Option.some.inj hg
      · cases hg
    case loop =>
      rcases onNorm_some hg with ⟨ts1, g, h1, h2⟩ | ⟨i, ts1, g, h1, rfl⟩ | ⟨ts1, g, h1, rfl⟩
      · exact .loop (go_sound n _ _ _ _ h1) (fun _ _ e => by cases e; exact go_sound n _ _ _ _ h2) (fun _ _ _ e => by cases e) (fun _ _ e => by cases e)
      · exact .loop (go_sound n _ _ _ _ h1) (fun _ _ e => by cases e) (fun _ _ _ e => e) (fun _ _ e => by cases e)
      · exact .loop (go_sound n _ _ _ _ h1) (fun _ _ e => by cases e) (fun _ _ _ e => by cases e) (fun _ _ e => e)
    case rangeF =>
      split at hg
      · rename_i g caps hf
        obtain ⟨v, g2, h1, h2⟩ := onVal_some hg
        refine .rangeF hf (go_sound n _ _ _ _ h1) fun v' h' e => ?_
        cases e
        unfold endRange at h2
        split at h2
        · rename_i fn p tl ps st pend hl
          split at h2
          · cases h2
          · rename_i hst
            refine ⟨fn, p, tl, ps, st, pend, hl, hst, ?_⟩
            split at h2 <;> exact Option.some.inj h2
        · cases h2
      · cases hg
    case exit => exact .exit (Option.some.inj hg)
    case ret => exact .ret (Option.some.inj hg)
  | n + 1, .call f args, ts, h, o, hg => by
    simp only [go] at hg
    split at hg
    · rename_i rf hf
      have key : ∀ {o1 : Out}, (∀ i ts' h', o1 ≠ .exit i ts' h') → BS P (.code rf.body) (initTm 0 args) h (· = o1) → (∀ ts' h', o1 = .norm ts' h' ∨ o1 = .ret ts' h' → ∃ v, results rf ts' h' = some v ∧ Out.val v h' = o) → BS P (.call f args) ts h (· = o) := by
        intro o1 h1 h2 h3
        refine .func hf h2 (fun i ts' h' e => h1 i ts' h' e.symm) fun ts' h' e => h3 ts' h' ?_
        rcases e with e | e
        · exact .inl e.symm
        · exact .inr e.symm
      unfold goRes at hg
      split at hg
      · rename_i ts1 h1 h2
        rw [Option.map_eq_some_iff] at hg
        obtain ⟨v, hv, rfl⟩ := hg
        exact key (by simp) (go_sound n _ _ _ _ h2) fun ts' h' e => by
          rcases e with e | e
          · cases e; exact ⟨v, hv, rfl⟩
          · cases e
      · rename_i ts1 h1 h2
        rw [Option.map_eq_some_iff] at hg
        obtain ⟨v, hv, rfl⟩ := hg
        exact key (by simp) (go_sound n _ _ _ _ h2) fun ts' h' e => by
          rcases e with e | e
          · cases e
          · cases e; exact ⟨v, hv, rfl⟩
      · cases hg
    · cases hg
  | n + 1, .round b args, ts, h, o, hg => by
    simp only [go] at hg
    split at hg
    · rename_i fn p tl ps hl
      split at hg
      · rename_i hal
        split at hg
        · rename_i rf hrf
          split at hg
          · rename_i fn' p' x ps' asg body hn
            split at hg
            · rename_i hc
              obtain ⟨rfl, rfl, rfl⟩ := hc
              unfold onlyNorm at hg
              split at hg
              · rename_i ts1 h1 ha
                simp only [busyAt] at hg
                split at hg
                · rename_i f1 p1 t1 s1 hr
                  cases hbd : go P n (.code body) ts1 (h1.put b (.lp f1 p1 t1 s1 .busy none)) with
                  | none => rw [hbd] at hg; cases hg
                  | some o2 =>
                    rw [hbd] at hg
                    refine .round hl hal hrf hn (go_sound n _ _ _ _ ha) (fun o1 e => ⟨ts1, h1, f1, p1, t1, s1, e, hr⟩) (S2 := (· = o2)) ?_ ?_
                    · intro ts2 h2 f2 p2 t2 s2 e hr2
                      cases e
                      rw [hr] at hr2
                      cases hr2
                      exact go_sound n _ _ _ _ hbd
                    · intro o3 e
                      subst e
                      have key : ∀ {st : LS} {pend : Option (Option Nat)} {bb : Bool} {h3 : AH}, endRound1 b st pend bb h3 = some o → ∃ fn p tl ps, h3.get b = some (.lp fn p tl ps .busy none) ∧ Out.val (.bool bb) (h3.put b (.lp fn p tl ps st pend)) = o := by
                        intro st pend bb h3 hk
                        unfold endRound1 at hk
                        split at hk
                        · rename_i hb; exact ⟨_, _, _, _, hb, Option.some.inj hk⟩
                        · cases hk
                      cases o3 with
                      | norm => exact key hg
                      | ret => exact key hg
                      | exit => exact key hg
                      | val => cases hg
                · cases hg
              · cases hg
            · cases hg
          · cases hg
        · cases hg
      · cases hg
    · cases hg

/-! ### what was carried out with names kept, at any memory -/
def puts : List (Nat × AO × Option Nat) → AH → AH
  | [], h => h
  | x :: r, h => (puts r h).putG x.1 x.2.1 x.2.2

theorem puts_next : ∀ (L : List (Nat × AO × Option Nat)) (h : AH), (puts L h).next = h.next
  | [], _ => rfl
  | x :: r, h => by rw [puts, AH.next_putG, puts_next r h]

theorem puts_get_ne : ∀ (L : List (Nat × AO × Option Nat)) {h : AH} {n : Nat}, (∀ x ∈ L, x.1 < h.next ∧ x.1 ≠ n) → (puts L h).get n = h.get n
  | [], _, _, _ => rfl
  | x :: r, h, n, hn => by
    rw [puts, AH.get_putG (by rw [puts_next]; exact (hn x (by simp)).1), if_neg (hn x (by simp)).2]
    exact puts_get_ne r fun y hy => hn y (by simp [hy])

theorem puts_get : ∀ (L : List (Nat × AO × Option Nat)) {h h2 : AH} {n : Nat}, (L.map (·.1)).Nodup → (∀ x ∈ L, x.1 < h.next) → (∀ x ∈ L, x.1 < h2.next) → n ∈ L.map (·.1) → (puts L h).get n = (puts L h2).get n
  | [], _, _, _, _, _, _, hn => by cases hn
  | x :: r, h, h2, n, hd, h1, h3, hn => by
    rw [puts, puts, AH.get_putG (by rw [puts_next]; exact h1 x (by simp)), AH.get_putG (by rw [puts_next]; exact h3 x (by simp))]
    rw [List.map_cons, List.nodup_cons] at hd
    by_cases e : x.1 = n
    · rw [if_pos e, if_pos e]
    · rw [if_neg e, if_neg e]
      rw [List.map_cons, List.mem_cons] at hn
      exact puts_get r hd.2 (fun y hy => h1 y (by simp [hy])) (fun y hy => h3 y (by simp [hy])) (hn.resolve_left fun q => e q.symm)

theorem Out.heap_mapH (f : AH → AH) (o : Out) : (o.mapH f).heap = f o.heap := by cases o <;> rfl
theorem Out.mapH_mapH (f g : AH → AH) (o : Out) : (o.mapH f).mapH g = o.mapH fun h => g (f h) := by cases o <;> rfl

theorem BS.frames {P : RP} {t : Task} {ts : Tm} (ht : ∀ b l, t ≠ .ops b l) {h : AH} {S : Out → Prop} (hb : BS P t ts h S) : ∀ (L : List (Nat × AO × Option Nat)), (L.map (·.1)).Nodup → (∀ x ∈ L, h.get x.1 = some .resv) →
    BS P t ts (puts L h) (fun o => ∃ o0, S o0 ∧ o = o0.mapH (puts L) ∧ ∀ x ∈ L, o0.heap.get x.1 = some .resv)
  | [], _, _ => hb.mono fun o ho => ⟨o, ho, by cases o <;> rfl, fun x hx => by cases hx⟩
  | x :: r, hd, hk => by
    rw [List.map_cons, List.nodup_cons] at hd
    have hne : ∀ y ∈ r, y.1 ≠ x.1 := fun y hy e => hd.1 (List.mem_map.2 ⟨y, hy, e⟩)
    have h1 := BS.frames ht hb r hd.2 fun y hy => hk y (by simp [hy])
    have hx : (puts r h).get x.1 = some .resv := by
      rw [puts_get_ne r fun y hy => ⟨AH.lt_of_get (hk y (by simp [hy])), hne y hy⟩]
      exact hk x (by simp)
    refine (h1.frame (o := x.2.1) (tg := x.2.2) hx (fun b l q => absurd q (ht b l))).mono ?_
    rintro o ⟨y, ⟨o0, q1, rfl, q2⟩, q3, rfl⟩
    refine ⟨o0, q1, by rw [Out.mapH_mapH]; rfl, fun z hz => ?_⟩
    rw [List.mem_cons] at hz
    rcases hz with rfl | hz
    · rw [Out.heap_mapH, puts_get_ne r fun y hy => ⟨AH.lt_of_get (q2 y hy), hne y hy⟩] at q3
      exact q3
    · exact q2 z hz

/-- Does a call that takes nothing answer true? -/
def goTrue (P : RP) (n k : Nat) (f : FuncId) : Bool :=
  match go P n (.call f []) .nil (AH.empty.keep k) with
  | some (.val (.bool true) _) => true
  | _ => false

/-- What was carried out answers so at any memory. -/
theorem C.of_go {P : RP} {n k : Nat} {f : FuncId} (hg : goTrue P n k f = true) (L : List (Nat × AO × Option Nat)) (hL : L.map (·.1) = List.range k) : C P f [] (puts L (AH.empty.keep k)) fun v h' => v = .bool true ∧ k ≤ h'.next ∧ ∀ c, c < k → h'.get c = (puts L (AH.empty.keep k)).get c := by
  unfold goTrue at hg
  split at hg
  · rename_i h1 he
    have hb := go_sound n _ _ _ _ he
    have hlt : ∀ x ∈ L, x.1 < k := fun x hx => by
      have : x.1 ∈ L.map (·.1) := List.mem_map.2 ⟨x, hx, rfl⟩
      rw [hL, List.mem_range] at this
      exact this
    have hget : ∀ c, c < k → (AH.empty.keep k).get c = some .resv := fun c hc => by
      rw [AH.keep_get, if_pos]
      show 0 ≤ c ∧ c < 0 + k
      omega
    refine (BS.frames (by simp) hb L (by rw [hL]; exact List.nodup_range) fun x hx => hget _ (hlt x hx)).mono ?_
    rintro o ⟨o0, rfl, rfl, q⟩
    have hnext : ∀ x ∈ L, x.1 < h1.next := fun x hx => AH.lt_of_get (q x hx)
    refine ⟨_, _, rfl, rfl, ?_, fun c hc => ?_⟩
    · rw [puts_next]
      cases k with
      | zero => exact Nat.zero_le _
      | succ k =>
        have hm : k ∈ L.map (·.1) := by rw [hL, List.mem_range]; omega
        obtain ⟨x, hx, e⟩ := List.mem_map.1 hm
        have := hnext x hx
        omega
    · refine puts_get L (by rw [hL]; exact List.nodup_range) hnext (fun x hx => ?_) (by rw [hL, List.mem_range]; exact hc)
      rw [AH.keep_next]
      show x.1 < 0 + k
      have := hlt x hx
      omega
  · cases hg

end Go.Am
