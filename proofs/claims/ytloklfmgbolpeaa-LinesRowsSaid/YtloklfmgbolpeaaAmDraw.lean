/-
  A region that draws its order: if it was run in one order, and what isn't ordered doesn't meddle, every order gives the same.
-/
import Derived.Test.YtloklfmgbolpeaaAmDefs
namespace Go.Am
set_option linter.unusedVariables false
set_option linter.unusedSimpArgs false

theorem T.set_comm {α : Type} (x y : α) : ∀ (t : T α) (p q : List Bool), p ≠ q → (t.set p x).set q y = (t.set q y).set p x
  | .nil, [], [], h => absurd rfl h
  | .nil, [], true :: q, _ => by simp [T.set, T.fresh]
  | .nil, [], false :: q, _ => by simp [T.set, T.fresh]
  | .nil, true :: p, [], _ => by simp [T.set, T.fresh]
  | .nil, false :: p, [], _ => by simp [T.set, T.fresh]
  | .nil, true :: p, true :: q, h => by
    have := T.set_comm x y .nil p q (by simpa using h)
    simp only [T.set] at this
    simp [T.set, T.fresh, this]
  | .nil, false :: p, false :: q, h => by
    have := T.set_comm x y .nil p q (by simpa using h)
    simp only [T.set] at this
    simp [T.set, T.fresh, this]
  | .nil, true :: p, false :: q, _ => by simp [T.set, T.fresh]
  | .nil, false :: p, true :: q, _ => by simp [T.set, T.fresh]
  | .node l v r, [], [], h => absurd rfl h
  | .node l v r, [], true :: q, _ => by simp [T.set]
  | .node l v r, [], false :: q, _ => by simp [T.set]
  | .node l v r, true :: p, [], _ => by simp [T.set]
  | .node l v r, false :: p, [], _ => by simp [T.set]
  | .node l v r, true :: p, true :: q, h => by simp [T.set, T.set_comm x y l p q (by simpa using h)]
  | .node l v r, false :: p, false :: q, h => by simp [T.set, T.set_comm x y r p q (by simpa using h)]
  | .node l v r, true :: p, false :: q, _ => by simp [T.set]
  | .node l v r, false :: p, true :: q, _ => by simp [T.set]

def RO.tm : RO → List Nat
  | .t n => [n]
  | _ => []

def oTm : Option RO → List Nat
  | some x => x.tm
  | none => []

/-- The operands. -/
def ROp.ros : ROp → List RO
  | .mov x | .box _ _ x | .load _ _ x | .nilck x | .un _ x | .cvI _ x | .cvBS x | .cvSB x | .cvSS x | .mki _ x | .fadr _ x | .fld _ _ _ x | .ext x _ | .lenL x | .lenS x | .lenM x | .capL x => [x]
  | .pick c a b => [c, a, b]
  | .new _ _ | .mkmap => []
  | .build _ ps | .mksl _ _ _ ps => ps.map (·.2.2)
  | .store _ a v | .bin _ _ a v | .mks _ _ _ a v | .iadr _ a v | .iadrA _ _ a v | .idxS a v | .idxA _ _ _ a v | .app _ _ a v | .cpy _ a v => [a, v]
  | .mkf _ cs => cs
  | .slS x lo hi => x :: (lo.toList ++ hi.toList)
  | .slL _ x lo hi m3 | .slA _ _ x lo hi m3 => x :: (lo.toList ++ hi.toList ++ m3.toList)
  | .mx xs | .mn xs => xs
  | .call _ as => as
  | .callv f as => f :: as

def ROper.looks (o : ROper) : List Nat := (o.op.ros.flatMap RO.tm) ++ (match o.guard with | some (n, _) => [n] | none => [])

/-- 0: no memory; 1: memory is read; 2: new memory; 3: anything. -/
def ROp.cls : ROp → Nat
  | .load _ _ _ | .cvBS _ | .slL _ _ _ _ _ | .cvSS _ | .lenM _ => 1
  | .new _ _ | .box _ _ _ | .mksl _ _ _ _ | .cvSB _ | .mks _ _ _ _ _ | .mkmap => 2
  | .store _ _ _ | .app _ _ _ _ | .call _ _ | .callv _ _ | .capL _ | .cpy _ _ _ => 3
  | _ => 0

def clsOk (y x : Nat) : Bool := y == 0 || x == 0 || (y == 1 && x == 1) || (y == 1 && x == 2)

def indep (y x : ROper) : Bool :=
  clsOk y.op.cls x.op.cls &&
  (match y.dst with | some d => !(x.looks.contains d) | none => true) &&
  (match x.dst with | some d => !(y.looks.contains d) | none => true) &&
  (match x.dst, y.dst with | some d, some e => d != e | _, _ => true)

def befs : List (List Nat) → List (List Nat) → List (List Nat)
  | acc, [] => acc
  | acc, e :: r => befs (acc ++ [e ++ e.flatMap fun k => acc.getD k []]) r

def okPairs (ops : List ROper) (bef : List (List Nat)) : List Nat → Bool
  | [] => true
  | y :: l => (l.all fun x => (bef.getD x []).contains y || (match ops[y]?, ops[x]? with | some a, some b => indep a b | _, _ => true)) && okPairs ops bef l

def nodupB : List Nat → Bool
  | [] => true
  | x :: l => !(l.contains x) && nodupB l

/-- An order that will do to look at one run alone. -/
def okD (ops : List ROper) (es : List (List Nat)) (l0 : List Nat) : Bool :=
  nodupB l0 && (List.range ops.length).all (l0.contains ·) && l0.all (· < ops.length) && okPairs ops (befs [] es) l0

/-! ### what one operation does -/
def SV (P : RP) (o : ROper) (ts : Tm) (h : AH) (v : AV) (h1 : AH) : Prop :=
  (wanted ts o.guard = some false ∧ v = .un ∧ h1 = h) ∨
  (wanted ts o.guard = some true ∧
    (evOp (RO.ev ts) h o.op = some (v, h1) ∨
     (∃ f args, o.op = .call f args ∧ BS P (.call f (args.map (RO.ev ts))) .nil h (.val v h1)) ∨
     (∃ x args f caps, o.op = .callv x args ∧ RO.ev ts x = .fn f caps ∧ BS P (.call f (args.map (RO.ev ts) ++ caps)) .nil h (.val v h1))))

theorem BS.step {P : RP} {o : ROper} {l : List ROper} {ts : Tm} {h : AH} {v : AV} {h1 : AH} {r : Out} (hs : SV P o ts h v h1) (hb : BS P (.ops l) (dput ts o.dst v) h1 r) : BS P (.ops (o :: l)) ts h r := by
  rcases hs with ⟨hw, rfl, rfl⟩ | ⟨hw, he | ⟨f, args, ho, hc⟩ | ⟨x, args, f, caps, ho, hx, hc⟩⟩
  · exact .skipped hw hb
  · exact .op hw he hb
  · exact .call hw ho hc hb
  · exact .callv hw ho hx hc hb

theorem BS.unstep {P : RP} {o : ROper} {l : List ROper} {ts : Tm} {h : AH} {r : Out} (hb : BS P (.ops (o :: l)) ts h r) : ∃ v h1, SV P o ts h v h1 ∧ BS P (.ops l) (dput ts o.dst v) h1 r := by
  cases hb with
  | skipped hw hb => exact ⟨_, _, .inl ⟨hw, rfl, rfl⟩, hb⟩
  | op hw he hb => exact ⟨_, _, .inr ⟨hw, .inl he⟩, hb⟩
  | call hw ho hc hb => exact ⟨_, _, .inr ⟨hw, .inr (.inl ⟨_, _, ho, hc⟩)⟩, hb⟩
  | callv hw ho hx hc hb => exact ⟨_, _, .inr ⟨hw, .inr (.inr ⟨_, _, _, _, ho, hx, hc⟩)⟩, hb⟩

theorem tget_dput {ts : Tm} {d : Option Nat} {v : AV} {m : Nat} (h : ∀ n, d = some n → n ≠ m) : tget (dput ts d v) m = tget ts m := by
  cases d with
  | none => rfl
  | some n => simp [dput, tget_tput, h n rfl]

theorem ev_look {ts ts' : Tm} {x : RO} (h : ∀ n ∈ x.tm, tget ts' n = tget ts n) : RO.ev ts' x = RO.ev ts x := by
  cases x with
  | t m => exact h m (by simp [RO.tm])
  | _ => rfl

theorem dput_comm {ts : Tm} {d e : Option Nat} {u v : AV} (h : ∀ n m, d = some n → e = some m → n ≠ m) : dput (dput ts d u) e v = dput (dput ts e v) d u := by
  cases d with
  | none => rfl
  | some n =>
    cases e with
    | none => rfl
    | some m => exact T.set_comm _ _ _ _ _ fun q => h n m rfl rfl (path_inj.1 q)

theorem fill_congr {ev ev' : RO → AV} : ∀ (ps : List (Nat × Nat × RO)) (cs : List AV), (∀ x ∈ ps.map (·.2.2), ev' x = ev x) → fill ev' cs ps = fill ev cs ps
  | [], cs, _ => rfl
  | (o, n, x) :: r, cs, h => by
    have h1 := h x (by simp)
    simp only [fill, h1]
    split
    · exact fill_congr r _ fun y hy => h y (by simp only [List.map_cons, List.mem_cons]; exact .inr hy)
    · rfl

theorem bounds_congr {ev ev' : RO → AV} {lo hi mx : Option RO} (h : ∀ x ∈ lo.toList ++ hi.toList ++ mx.toList, ev' x = ev x) (len cap : Nat) : bounds ev' lo hi mx len cap = bounds ev lo hi mx len cap := by
  unfold bounds
  have h1 : ∀ x, lo = some x → ev' x = ev x := fun x e => h x (by simp [e])
  have h2 : ∀ x, hi = some x → ev' x = ev x := fun x e => h x (by simp [e])
  have h3 : ∀ x, mx = some x → ev' x = ev x := fun x e => h x (by simp [e])
  cases lo <;> cases hi <;> cases mx <;> simp_all

theorem evOp_congr {ev ev' : RO → AV} {h : AH} {op : ROp} (hx : ∀ x ∈ op.ros, ev' x = ev x) : evOp ev' h op = evOp ev h op := by
  cases op <;> simp only [ROp.ros, List.mem_cons, List.not_mem_nil, or_false, forall_eq_or_imp, forall_eq] at hx <;> simp only [evOp]
  case build z ps => rw [fill_congr ps z hx]
  case mksl z e n ps => rw [fill_congr ps _ hx]
  case mkf f cs => rw [List.map_congr_left hx]
  case mx xs => rw [List.map_congr_left hx]
  case mn xs => rw [List.map_congr_left hx]
  case slS x lo hi =>
    rw [hx.1]
    unfold slSA
    split
    · rw [bounds_congr (by simpa using hx.2)]
    · rfl
  case slL e x lo hi mx =>
    rw [hx.1]
    unfold slLA
    split
    · rw [bounds_congr (by simpa using hx.2)]
    · split
      · split
        · rw [bounds_congr (by simpa using hx.2)]
        · rfl
      · rfl
    · rfl
  case slA n e x lo hi mx =>
    rw [hx.1]
    unfold slAA
    split
    · rw [bounds_congr (by simpa using hx.2)]
    · rfl
  all_goals first | rfl | simp only [hx]

/-- class 0 -/
theorem evOp_cls0 {ev : RO → AV} {h h' : AH} {op : ROp} {v : AV} (hc : op.cls = 0) (he : evOp ev h op = some (v, h')) : h' = h ∧ ∀ h2, evOp ev h2 op = some (v, h2) := by
  cases op <;> (try (exfalso; simp [ROp.cls] at hc; done)) <;> simp only [evOp] at he ⊢
  all_goals
    first
      | (simp only [Option.some.injEq, Prod.mk.injEq] at he; obtain ⟨rfl, rfl⟩ := he; exact ⟨rfl, fun _ => rfl⟩)
      | (rw [Option.map_eq_some_iff] at he
         obtain ⟨x, hx, he⟩ := he
         simp only [Prod.mk.injEq] at he
         obtain ⟨rfl, rfl⟩ := he
         exact ⟨rfl, fun _ => by rw [hx]; rfl⟩)

theorem rdCells_ext {h h2 : AH} {b o n : Nat} {cs : List AV} (hx : ∀ c ob, h.get c = some ob → h2.get c = some ob) (hr : rdCells h b o n = some cs) : rdCells h2 b o n = some cs := by
  unfold rdCells at hr ⊢
  cases hg : h.get b with
  | none => simp [hg] at hr
  | some ob => rw [hg] at hr; rw [hx b ob hg]; exact hr

/-- class 1 -/
theorem evOp_cls1 {ev : RO → AV} {h h' : AH} {op : ROp} {v : AV} (hc : op.cls = 1) (he : evOp ev h op = some (v, h')) : h' = h ∧ ∀ h2 : AH, (∀ c ob, h.get c = some ob → h2.get c = some ob) → evOp ev h2 op = some (v, h2) := by
  cases op <;> (try (exfalso; simp [ROp.cls] at hc; done)) <;> simp only [evOp] at he ⊢
  case load g n a =>
    unfold loadA at he ⊢
    split at he
    · split at he
      · rename_i hr
        rw [Option.map_eq_some_iff] at he
        obtain ⟨x, hx, he⟩ := he
        simp only [Prod.mk.injEq] at he
        obtain ⟨rfl, rfl⟩ := he
        refine ⟨rfl, fun h2 h3 => ?_⟩
        rw [rdCells_ext h3 hr]
        simp [hx]
      · cases he
    · cases he
  case cvBS a =>
    rw [Option.map_eq_some_iff] at he
    obtain ⟨x, hx, he⟩ := he
    simp only [Prod.mk.injEq] at he
    obtain ⟨rfl, rfl⟩ := he
    refine ⟨rfl, fun h2 h3 => ?_⟩
    unfold cvBSA at hx ⊢
    split at hx
    · simp_all
    · split at hx
      · rename_i hr
        rw [rdCells_ext h3 hr]
        simp [hx]
      · cases hx
    · cases hx
  case slL e x lo hi mx =>
    rw [Option.map_eq_some_iff] at he
    obtain ⟨y, hy, he⟩ := he
    simp only [Prod.mk.injEq] at he
    obtain ⟨rfl, rfl⟩ := he
    refine ⟨rfl, fun h2 h3 => ?_⟩
    unfold slLA at hy ⊢
    split at hy
    · simp [hy]
    · split at hy
      · rename_i hg
        rw [h3 _ _ hg]
        simp only
        simp [hy]
      · cases hy
    · cases hy
  case cvSS a =>
    rw [Option.map_eq_some_iff] at he
    obtain ⟨y, hy, he⟩ := he
    simp only [Prod.mk.injEq] at he
    obtain ⟨rfl, rfl⟩ := he
    refine ⟨rfl, fun h2 h3 => ?_⟩
    unfold cvSSA at hy ⊢
    split at hy
    · split at hy
      · rename_i hg
        rw [h3 _ _ hg]
        simp [hy]
      · cases hy
    · cases hy
  case lenM a =>
    rw [Option.map_eq_some_iff] at he
    obtain ⟨y, hy, he⟩ := he
    simp only [Prod.mk.injEq] at he
    obtain ⟨rfl, rfl⟩ := he
    refine ⟨rfl, fun h2 h3 => ?_⟩
    unfold lenMA at hy ⊢
    split at hy
    · simp [hy]
    · split at hy
      · rename_i hg
        rw [h3 _ _ hg]
        simp [hy]
      · cases hy
    · cases hy

/-- class 2 -/
theorem evOp_cls2 {ev : RO → AV} {h h' : AH} {op : ROp} {v : AV} (hc : op.cls = 2) (he : evOp ev h op = some (v, h')) : ∀ c ob, h.get c = some ob → h'.get c = some ob := by
  have key : ∀ o, ∀ c ob, h.get c = some ob → (h.new o).get c = some ob := by
    intro o c ob hg
    rw [AH.get_new, if_neg (Nat.ne_of_lt (AH.lt_of_get hg))]
    exact hg
  cases op <;> (try (exfalso; simp [ROp.cls] at hc; done)) <;> simp only [evOp] at he
  case new z e => simp only [Option.some.injEq, Prod.mk.injEq] at he; obtain ⟨_, rfl⟩ := he; exact key _
  case mkmap => simp only [Option.some.injEq, Prod.mk.injEq] at he; obtain ⟨_, rfl⟩ := he; exact key _
  case box e n x =>
    unfold boxA at he
    split at he
    · simp only [Option.some.injEq, Prod.mk.injEq] at he; obtain ⟨_, rfl⟩ := he; exact key _
    · cases he
  case mksl z e n ps =>
    rw [Option.map_eq_some_iff] at he
    obtain ⟨y, _, he⟩ := he
    simp only [Prod.mk.injEq] at he
    obtain ⟨_, rfl⟩ := he
    exact key _
  case cvSB x =>
    unfold cvSBA at he
    split at he
    · simp only [Option.some.injEq, Prod.mk.injEq] at he; obtain ⟨_, rfl⟩ := he; exact key _
    · cases he
  case mks z e b l c =>
    unfold mksA at he
    split at he
    · split at he
      · simp only [Option.some.injEq, Prod.mk.injEq] at he; obtain ⟨_, rfl⟩ := he; exact key _
      · cases he
    · cases he

/-! ### two operations change places -/
section
variable {P : RP}

theorem SV.cong {o : ROper} {ts ts' : Tm} {h : AH} {v : AV} {h1 : AH} (hl : ∀ n ∈ o.looks, tget ts' n = tget ts n) (hs : SV P o ts h v h1) : SV P o ts' h v h1 := by
  have hw : wanted ts' o.guard = wanted ts o.guard := by
    cases hg : o.guard with
    | none => rfl
    | some p =>
      obtain ⟨m, b⟩ := p
      simp only [wanted]
      rw [hl m (by simp [ROper.looks, hg])]
  have hx : ∀ x ∈ o.op.ros, RO.ev ts' x = RO.ev ts x := fun x hx => ev_look fun n hn => hl n (by
    simp only [ROper.looks, List.mem_append, List.mem_flatMap]
    exact .inl ⟨x, hx, hn⟩)
  rcases hs with ⟨h1, h2, h3⟩ | ⟨h1, h2⟩
  · exact .inl ⟨by rw [hw]; exact h1, h2, h3⟩
  · refine .inr ⟨by rw [hw]; exact h1, ?_⟩
    rcases h2 with h2 | ⟨f, args, ho, hc⟩ | ⟨x, args, f, caps, ho, hy, hc⟩
    · exact .inl (by rw [evOp_congr hx]; exact h2)
    · refine .inr (.inl ⟨f, args, ho, ?_⟩)
      rw [List.map_congr_left (fun a ha => hx a (by rw [ho]; exact ha))]
      exact hc
    · refine .inr (.inr ⟨x, args, f, caps, ho, ?_, ?_⟩)
      · rw [hx x (by rw [ho]; simp [ROp.ros])]; exact hy
      · rw [List.map_congr_left (fun a ha => hx a (by rw [ho]; simp [ROp.ros, ha]))]
        exact hc

theorem SV.ev {o : ROper} {ts : Tm} {h : AH} {v : AV} {h1 : AH} (hc : o.op.cls < 3) (hs : SV P o ts h v h1) : (wanted ts o.guard = some false ∧ v = .un ∧ h1 = h) ∨ (wanted ts o.guard = some true ∧ evOp (RO.ev ts) h o.op = some (v, h1)) := by
  rcases hs with h1 | ⟨h1, h2 | ⟨f, args, ho, _⟩ | ⟨x, args, f, caps, ho, _, _⟩⟩
  · exact .inl h1
  · exact .inr ⟨h1, h2⟩
  · rw [ho] at hc; simp [ROp.cls] at hc
  · rw [ho] at hc; simp [ROp.cls] at hc

theorem SV.pure {o : ROper} {ts : Tm} {h : AH} {v : AV} {h1 : AH} (hc : o.op.cls = 0) (hs : SV P o ts h v h1) : h1 = h ∧ ∀ g, SV P o ts g v g := by
  rcases hs.ev (by omega) with ⟨a, b, c⟩ | ⟨a, b⟩
  · exact ⟨c, fun g => .inl ⟨a, b, rfl⟩⟩
  · have := evOp_cls0 hc b
    exact ⟨this.1, fun g => .inr ⟨a, .inl (this.2 g)⟩⟩

theorem SV.reads {o : ROper} {ts : Tm} {h : AH} {v : AV} {h1 : AH} (hc : o.op.cls = 1) (hs : SV P o ts h v h1) : h1 = h ∧ ∀ g : AH, (∀ c ob, h.get c = some ob → g.get c = some ob) → SV P o ts g v g := by
  rcases hs.ev (by omega) with ⟨a, b, c⟩ | ⟨a, b⟩
  · exact ⟨c, fun g _ => .inl ⟨a, b, rfl⟩⟩
  · have := evOp_cls1 hc b
    exact ⟨this.1, fun g hg => .inr ⟨a, .inl (this.2 g hg)⟩⟩

theorem SV.news {o : ROper} {ts : Tm} {h : AH} {v : AV} {h1 : AH} (hc : o.op.cls = 2) (hs : SV P o ts h v h1) : ∀ c ob, h.get c = some ob → h1.get c = some ob := by
  rcases hs.ev (by omega) with ⟨a, b, c⟩ | ⟨a, b⟩
  · subst c; exact fun _ _ => id
  · exact evOp_cls2 hc b

theorem BS.swap {y x : ROper} {l : List ROper} {ts : Tm} {h : AH} {r : Out} (hi : indep y x = true) (hb : BS P (.ops (y :: x :: l)) ts h r) : BS P (.ops (x :: y :: l)) ts h r := by
  obtain ⟨v, h1, hy, hb⟩ := hb.unstep
  obtain ⟨u, h2, hx, hb⟩ := hb.unstep
  simp only [indep, Bool.and_eq_true] at hi
  obtain ⟨⟨⟨hc, i1⟩, i2⟩, i3⟩ := hi
  have e1 : ∀ n, y.dst = some n → ∀ m ∈ x.looks, n ≠ m := by
    intro n hn m hm e
    subst e
    rw [hn] at i1
    simp only [Bool.not_eq_true', List.contains_eq_mem, decide_eq_false_iff_not] at i1
    exact i1 hm
  have e2 : ∀ n, x.dst = some n → ∀ m ∈ y.looks, n ≠ m := by
    intro n hn m hm e
    subst e
    rw [hn] at i2
    simp only [Bool.not_eq_true', List.contains_eq_mem, decide_eq_false_iff_not] at i2
    exact i2 hm
  have e3 : ∀ n m, y.dst = some n → x.dst = some m → n ≠ m := by
    intro n m hn hm e
    subst e
    rw [hn, hm] at i3
    simp at i3
  have hx' : SV P x ts h1 u h2 := hx.cong fun m hm => (tget_dput fun n hn => e1 n hn m hm).symm
  have hcomm : dput (dput ts y.dst v) x.dst u = dput (dput ts x.dst u) y.dst v := dput_comm e3
  rw [hcomm] at hb
  have mk : ∀ {k : AH}, SV P x ts h u k → SV P y ts k v h2 → BS P (.ops (x :: y :: l)) ts h r := by
    intro k k1 k2
    exact BS.step k1 (BS.step (k2.cong fun m hm => tget_dput fun n hn => e2 n hn m hm) hb)
  simp only [clsOk, Bool.or_eq_true, Bool.and_eq_true, beq_iff_eq] at hc
  rcases hc with ((hc | hc) | hc) | hc
  · obtain ⟨rfl, q⟩ := hy.pure hc
    exact mk hx' (q _)
  · obtain ⟨rfl, q⟩ := hx'.pure hc
    exact mk (q _) hy
  · obtain ⟨rfl, q⟩ := hy.reads hc.1
    obtain ⟨rfl, q2⟩ := hx'.reads hc.2
    exact mk hx' hy
  · obtain ⟨rfl, q⟩ := hy.reads hc.1
    exact mk hx' (q _ (hx'.news hc.2))

theorem BS.bubble {x : ROper} {b : List ROper} : ∀ (a : List ROper) {ts : Tm} {h : AH} {r : Out}, (∀ y ∈ a, indep y x = true) → BS P (.ops (a ++ x :: b)) ts h r → BS P (.ops (x :: (a ++ b))) ts h r
  | [], _, _, _, _, hb => hb
  | y :: a, _, _, _, hi, hb => by
    obtain ⟨v, h1, hy, hb⟩ := BS.unstep hb
    exact (BS.step hy (BS.bubble a (fun z hz => hi z (by simp [hz])) hb)).swap (hi y (by simp))

/-- The operations of an order. -/
abbrev pickOps (ops : List ROper) (l : List Nat) : List ROper := l.filterMap (ops[·]?)

theorem pickOps_cons {ops : List ROper} {i : Nat} {l : List Nat} {o : ROper} (h : ops[i]? = some o) : pickOps ops (i :: l) = o :: pickOps ops l := by
  simp [pickOps, h]

theorem mem_pickOps {ops : List ROper} {l : List Nat} {o : ROper} (h : o ∈ pickOps ops l) : ∃ i ∈ l, ops[i]? = some o := by
  simpa [pickOps, List.mem_filterMap] using h

theorem BS.perm {ops : List ROper} : ∀ (l l0 : List Nat) {ts : Tm} {h : AH} {r : Out}, l.Perm l0 → (∀ i ∈ l, i < ops.length) →
    (∀ y x, [y, x].Sublist l0 → [x, y].Sublist l → ∀ oy ox, ops[y]? = some oy → ops[x]? = some ox → indep oy ox = true) →
    BS P (.ops (pickOps ops l0)) ts h r → BS P (.ops (pickOps ops l)) ts h r
  | [], l0, _, _, _, hp, _, _, hb => by
    have := hp.nil_eq
    subst this
    exact hb
  | x :: l, l0, ts, h, r, hp, hlt, hi, hb => by
    have hx : x ∈ l0 := hp.subset (by simp)
    obtain ⟨a, b, rfl⟩ := List.append_of_mem hx
    have hp' : l.Perm (a ++ b) := by
      have := hp.trans List.perm_middle
      exact (List.perm_cons x).1 this
    obtain ⟨ox, hox⟩ : ∃ ox, ops[x]? = some ox := ⟨_, List.getElem?_eq_getElem (hlt x (by simp))⟩
    have e1 : pickOps ops (a ++ x :: b) = pickOps ops a ++ ox :: pickOps ops b := by
      simp [pickOps, List.filterMap_append, hox]
    rw [e1] at hb
    have hb := BS.bubble _ (fun y hy => by
      obtain ⟨i, hia, hio⟩ := mem_pickOps hy
      refine hi i x ?_ ?_ y ox hio hox
      · have : [i].Sublist a := List.singleton_sublist.2 hia
        have h2 : [x].Sublist (x :: b) := List.singleton_sublist.2 (by simp)
        exact this.append h2
      · have : i ∈ l := hp'.symm.subset (by simp [hia])
        exact List.Sublist.cons_cons x (List.singleton_sublist.2 this)) hb
    rw [pickOps_cons hox]
    obtain ⟨v, h1, hs, hb⟩ := BS.unstep hb
    refine BS.step hs (BS.perm l (a ++ b) hp' (fun i hm => hlt i (by simp [hm])) (fun y z h1 h2 => hi y z (h1.trans ?_) (h2.trans (List.sublist_cons_self x l))) ?_)
    · exact (List.Sublist.refl a).append (List.sublist_cons_self x b)
    · rw [pickOps, List.filterMap_append]; exact hb

theorem before_of_befs {n : Nat} {es : List (List Nat)} {l : List Nat} (hl : Lin n es l) : ∀ (rest acc : List (List Nat)), (∃ pre, es = pre ++ rest ∧ pre.length = acc.length) →
    (∀ i y, y ∈ acc.getD i [] → ∀ p q, l = p ++ i :: q → y ∈ p) → ∀ i y, y ∈ (befs acc rest).getD i [] → ∀ p q, l = p ++ i :: q → y ∈ p
  | [], acc, _, ha, i, y, hy => ha i y hy
  | e :: r, acc, hpre, ha, i, y, hy => by
    obtain ⟨pre, he, hpl⟩ := hpre
    refine before_of_befs hl r (acc ++ [e ++ e.flatMap fun k => acc.getD k []]) ⟨pre ++ [e], by simp [he], by simp [hpl]⟩ ?_ i y hy
    intro i y hy p q hpq
    rcases Nat.lt_trichotomy i acc.length with hi | hi | hi
    · rw [List.getD_eq_getElem?_getD, List.getElem?_append_left hi, ← List.getD_eq_getElem?_getD] at hy
      exact ha i y hy p q hpq
    · subst hi
      rw [List.getD_eq_getElem?_getD, List.getElem?_append_right (Nat.le_refl _), Nat.sub_self] at hy
      simp only [List.getElem?_cons_zero, Option.getD_some, List.mem_append, List.mem_flatMap] at hy
      have hes : es.getD acc.length [] = e := by
        rw [he, List.getD_eq_getElem?_getD, List.getElem?_append_right (by omega), hpl]; simp
      rcases hy with hy | ⟨k, hk, hy⟩
      · exact hl.2.2 p _ q hpq y (by rw [hes]; exact hy)
      · have hkp : k ∈ p := hl.2.2 p _ q hpq k (by rw [hes]; exact hk)
        obtain ⟨p1, p2, rfl⟩ := List.append_of_mem hkp
        have := ha k y hy p1 (p2 ++ acc.length :: q) (by rw [hpq]; simp)
        simp [this]
    · rw [List.getD_eq_getElem?_getD, List.getElem?_eq_none (by simp; omega)] at hy
      simp at hy

theorem okPairs_sub {ops : List ROper} {bef : List (List Nat)} : ∀ {l0 : List Nat}, okPairs ops bef l0 = true → ∀ y x, [y, x].Sublist l0 → y ∈ bef.getD x [] ∨ ∀ oy ox, ops[y]? = some oy → ops[x]? = some ox → indep oy ox = true
  | [], _, y, x, hs => by simp at hs
  | z :: l, hk, y, x, hs => by
    simp only [okPairs, Bool.and_eq_true, List.all_eq_true] at hk
    cases hs with
    | cons _ hs => exact okPairs_sub hk.2 y x hs
    | cons_cons _ hs =>
      have hx : x ∈ l := List.singleton_sublist.1 hs
      have := hk.1 x hx
      simp only [Bool.or_eq_true, List.contains_eq_mem, decide_eq_true_eq] at this
      rcases this with h | h
      · exact .inl h
      · refine .inr fun oy ox h1 h2 => ?_
        rw [h1, h2] at h
        exact h

theorem nodupB_iff : ∀ {l : List Nat}, nodupB l = true → l.Nodup
  | [], _ => List.nodup_nil
  | x :: l, h => by
    simp only [nodupB, Bool.and_eq_true, Bool.not_eq_true', List.contains_eq_mem, decide_eq_false_iff_not] at h
    exact List.nodup_cons.2 ⟨h.1, nodupB_iff h.2⟩

theorem sub_skip {x y : Nat} {q : List Nat} : ∀ (p : List Nat), x ∉ p → [x, y].Sublist (p ++ x :: q) → [x, y].Sublist (x :: q)
  | [], _, h => h
  | z :: p, hxp, h => by
    simp only [List.mem_cons, not_or] at hxp
    rw [List.cons_append] at h
    cases h with
    | cons _ hs => exact sub_skip p hxp.2 hs
    | cons_cons _ hs => exact absurd rfl hxp.1

/-- One order's run is every order's run. -/
theorem BS.draw {ops : List ROper} {es : List (List Nat)} (l0 : List Nat) (hk : okD ops es l0 = true) {ts : Tm} {h : AH} {ts' : Tm} {h' : AH} (hb : BS P (.ops (pickOps ops l0)) ts h (.norm ts' h')) : BS P (.code (.regD ops es)) ts h (.norm ts' h') := by
  simp only [okD, Bool.and_eq_true, List.all_eq_true, List.mem_range, List.contains_eq_mem, decide_eq_true_eq] at hk
  obtain ⟨⟨⟨h1, h2⟩, h3⟩, h5⟩ := hk
  have hn0 := nodupB_iff h1
  refine .regD fun l hl => ?_
  refine BS.perm l l0 ?_ (fun i hi => (hl.2.1 i).1 hi) (fun y x hyx hxy oy ox e1 e2 => ?_) hb
  · exact (List.perm_ext_iff_of_nodup hl.1 hn0).2 fun i => ⟨fun hi => h2 i ((hl.2.1 i).1 hi), fun hi => (hl.2.1 i).2 (h3 i hi)⟩
  · rcases okPairs_sub h5 y x hyx with h | h
    · exfalso
      have hx : x ∈ l := hxy.subset (by simp)
      obtain ⟨p, q, rfl⟩ := List.append_of_mem hx
      have hy := before_of_befs hl es [] ⟨[], rfl, rfl⟩ (fun i y hy => by simp at hy) x y h p q rfl
      have hnd := hl.1
      have hyq : y ∈ q := by
        have hxp : x ∉ p := by
          intro hxp
          have := List.nodup_append.1 hnd
          exact this.2.2 x hxp x (by simp) rfl
        have h6 : [x, y].Sublist (x :: q) := sub_skip p hxp hxy
        have hxq : x ∉ q := by
          have := (List.nodup_append.1 hnd).2.1
          exact (List.nodup_cons.1 this).1
        cases h6 with
        | cons _ hs => exact absurd (hs.subset (by simp)) hxq
        | cons_cons _ hs => exact List.singleton_sublist.1 hs
      exact (List.nodup_append.1 hnd).2.2 y hy y (by simp [hyq]) rfl
    · exact h oy ox e1 e2

end
end Go.Am
