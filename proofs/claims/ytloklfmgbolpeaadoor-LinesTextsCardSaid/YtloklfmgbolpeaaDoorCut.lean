/-
  Plain: a graph's text is read as the graph; cut, or with more behind it, it has its fault there.
-/
import Derived.Test.YtloklfmgbolpeaaDoorDig
import Derived.Test.YtloklfmgbolpeaaDoorTxt
namespace Go.Proofs.YtloklfmgbolpeaaDoor
set_option linter.unusedVariables false
set_option linter.unusedSimpArgs false
open Go.Am

theorem num_dg {n : Nat} (hn : n ≤ 999999) (t : List UInt8) (ht : digHd t = false) : num (dg n ++ t) false = (n, t, false) := (num_itoa hn).2 t ht

theorem pr_ln {a c : Nat} (ha : a ≤ 999999) (hc : c ≤ 999999) (t : List UInt8) : pr (ln a c ++ t) false = ((a, c), t, false) := by
  have e : ln a c ++ t = dg a ++ (32 :: (dg c ++ (10 :: t))) := by simp [ln]
  have h1 := num_dg ha (32 :: (dg c ++ (10 :: t))) rfl
  have h2 := num_dg hc (10 :: t) rfl
  unfold pr
  rw [e, h1]
  simp only [tk, Bool.false_eq_true, if_false, if_true, h2]

theorem prs_lns (t : List UInt8) : ∀ es : List (Nat × Nat), (∀ e ∈ es, e.1 ≤ 999999 ∧ e.2 ≤ 999999) → prs es.length ((es.flatMap fun e => ln e.1 e.2) ++ t) false = (es, t, false)
  | [], _ => rfl
  | e :: r, h => by
    have he := h e (by simp)
    have ih := prs_lns t r fun x hx => h x (by simp [hx])
    simp only [List.flatMap_cons, List.append_assoc, List.length_cons, prs, pr_ln he.1 he.2, ih]

theorem firstOff_none (v : Nat) : ∀ (es : List (Nat × Nat)) (i : Nat), (∀ e ∈ es, e.1 < v ∧ e.2 < v) → firstOff v i es = none
  | [], _, _ => rfl
  | e :: r, i, h => by
    have he := h e (by simp)
    rw [firstOff, if_neg (by omega)]
    exact firstOff_none v r (i + 1) fun x hx => h x (by simp [hx])

theorem sm1 : ((List.range 1000).all fun n => decide ((dg n).length ≤ 3)) = true := by decide +kernel
theorem dg_small {n : Nat} (hn : n < 1000) : (dg n).length ≤ 3 := by
  have := List.all_eq_true.1 sm1 n (List.mem_range.2 hn)
  simpa using this

theorem ln_small {a c : Nat} (ha : a < 1000) (hc : c < 1000) : (ln a c).length ≤ 8 := by
  have := dg_small ha
  have := dg_small hc
  simp [ln]; omega

theorem lns_small : ∀ es : List (Nat × Nat), (∀ e ∈ es, e.1 < 1000 ∧ e.2 < 1000) → (es.flatMap fun e => ln e.1 e.2).length ≤ 8 * es.length
  | [], _ => by simp
  | e :: r, h => by
    have he := h e (by simp)
    have ih := lns_small r fun x hx => h x (by simp [hx])
    have := ln_small he.1 he.2
    simp only [List.flatMap_cons, List.length_append, List.length_cons]
    omega

theorem txt_small {v : Nat} {es : List (Nat × Nat)} (hv : v < 1000) (hl : es.length ≤ 128) (hes : ∀ e ∈ es, e.1 < 1000 ∧ e.2 < 1000) : (txtOf v es).length ≤ 1032 := by
  have := ln_small hv (show es.length < 1000 by omega)
  have := lns_small es hes
  unfold txtOf
  rw [List.length_append]
  omega

/-- the text, whatever is behind it -/
theorem read_txt {v : Nat} {es : List (Nat × Nat)} (hv : v < 1000) (hl : es.length ≤ 128) (hes : ∀ e ∈ es, e.1 < 1000 ∧ e.2 < 1000) (t : List UInt8) (ht : t.length ≤ 100) :
    rdM (txtOf v es ++ t) = if t ≠ [] then ⟨0, [], 11, (txtOf v es).length⟩ else if v < 1 ∨ 24 < v ∨ 40 < es.length then ⟨0, [], 10, 0⟩ else match firstOff v 0 es with
      | some i => ⟨0, [], 12, i⟩
      | none => ⟨v, es, 0, 0⟩ := by
  have hs := txt_small hv hl hes
  have e : txtOf v es ++ t = ln v es.length ++ ((es.flatMap fun e => ln e.1 e.2) ++ t) := by simp [txtOf]
  have h1 := pr_ln (show v ≤ 999999 by omega) (show es.length ≤ 999999 by omega) ((es.flatMap fun e => ln e.1 e.2) ++ t)
  have h2 := prs_lns t es fun e he => ⟨by have := hes e he; omega, by have := hes e he; omega⟩
  rw [← e] at h1
  unfold rdM
  rw [if_neg (by rw [List.length_append]; omega)]
  simp only [h1, h2]
  by_cases h : t = []
  · subst h
    simp only [ne_eq, not_true_eq_false, or_self, Bool.false_eq_true, if_false, List.append_nil]
    rfl
  · simp [h]

theorem cut1 : ((List.range 100).all fun n => (List.range ((dg n).length + 1)).all fun j => (num ((dg n).take j) false).2.1 == []) = true := by decide +kernel

/-- what is left of a number that is cut -/
theorem num_cut {n : Nat} (hn : n < 100) {p : List UInt8} (hp : p <+: dg n) : (num p false).2.1 = [] := by
  have h1 := List.all_eq_true.1 cut1 n (List.mem_range.2 hn)
  have hl := hp.length_le
  have h2 := List.all_eq_true.1 h1 p.length (List.mem_range.2 (by omega))
  rw [← List.prefix_iff_eq_take.1 hp] at h2
  simpa using h2

theorem tk_nil (c : UInt8) (b : Bool) : tk c [] b = ([], true) := by cases b <;> rfl
theorem num_nil (b : Bool) : num [] b = (0, [], true) := by cases b <;> rfl
theorem pr_nil (b : Bool) : (pr [] b).2 = ([], true) := by unfold pr; simp only [num_nil, tk_nil]
theorem prs_nil (m : Nat) : prs m [] true = ([], [], true) := by cases m <;> rfl

theorem pr_cut {a c : Nat} (ha : a < 100) (hc : c < 100) {p q : List UInt8} (hp : p ++ q = ln a c) (hq : q ≠ []) : (pr p false).2 = ([], true) := by
  have e : p ++ q = dg a ++ (32 :: dg c ++ [10]) := by rw [hp]; simp [ln]
  rcases List.append_eq_append_iff.1 e with ⟨s, h1, h2⟩ | ⟨s, h1, h2⟩
  · have h3 := num_cut ha (p := p) ⟨s, h1.symm⟩
    unfold pr
    simp only [h3, tk_nil, num_nil]
  · cases s with
    | nil =>
      simp only [List.append_nil] at h1
      subst h1
      have h3 := num_cut ha (List.prefix_refl (dg a))
      unfold pr
      simp only [h3, tk_nil, num_nil]
    | cons x s =>
      simp only [List.cons_append, List.cons.injEq] at h2
      obtain ⟨rfl, h2⟩ := h2
      have h4 := num_dg (show a ≤ 999999 by omega) (32 :: s) rfl
      have h5 : s <+: dg c := by
        rcases List.append_eq_append_iff.1 h2 with ⟨u, k1, k2⟩ | ⟨u, k1, k2⟩
        · have : u = [] := by
            cases u with
            | nil => rfl
            | cons y u =>
              simp only [List.cons_append, List.cons.injEq] at k2
              obtain ⟨_, k2⟩ := k2
              exact absurd (List.append_eq_nil_iff.1 k2.symm).2 hq
          subst this
          rw [List.append_nil] at k1
          exact ⟨[], by rw [List.append_nil]; exact k1⟩
        · exact ⟨u, k1.symm⟩
      have h6 := num_cut hc h5
      unfold pr
      rw [h1, h4]
      have h7 : tk 32 (32 :: s) false = (s, false) := rfl
      simp only [h7, h6, tk_nil]

theorem prs_cut : ∀ (es : List (Nat × Nat)) (p q : List UInt8), (∀ e ∈ es, e.1 < 100 ∧ e.2 < 100) → p ++ q = (es.flatMap fun e => ln e.1 e.2) → q ≠ [] → (prs es.length p false).2 = ([], true)
  | [], p, q, _, h, hq => by simp at h; exact absurd h.2 hq
  | e :: r, p, q, hes, h, hq => by
    have he := hes e (by simp)
    simp only [List.flatMap_cons] at h
    simp only [List.length_cons, prs]
    rcases List.append_eq_append_iff.1 h with ⟨s, h1, h2⟩ | ⟨s, h1, h2⟩
    · cases s with
      | nil =>
        rw [List.append_nil] at h1
        have h3 := pr_ln (show e.1 ≤ 999999 by omega) (show e.2 ≤ 999999 by omega) []
        rw [List.append_nil, h1] at h3
        rw [h3]
        exact prs_cut r [] q (fun x hx => hes x (by simp [hx])) (by simpa using h2) hq
      | cons y s =>
        have h3 := pr_cut he.1 he.2 h1.symm (by simp)
        simp only [h3, prs_nil]
    · have h3 := pr_ln (show e.1 ≤ 999999 by omega) (show e.2 ≤ 999999 by omega) s
      rw [← h1] at h3
      rw [h3]
      exact prs_cut r s q (fun x hx => hes x (by simp [hx])) h2.symm hq

/-- a text that is cut -/
theorem read_cut {v : Nat} {es : List (Nat × Nat)} (hv : v < 100) (hl : es.length < 100) (hes : ∀ e ∈ es, e.1 < 100 ∧ e.2 < 100) {k : Nat} (hk : k < (txtOf v es).length) : rdM ((txtOf v es).take k) = ⟨0, [], 11, k⟩ := by
  have hs := txt_small (show v < 1000 by omega) (show es.length ≤ 128 by omega) (fun e he => ⟨by have := hes e he; omega, by have := hes e he; omega⟩ : ∀ e ∈ es, e.1 < 1000 ∧ e.2 < 1000)
  have hlen : ((txtOf v es).take k).length = k := by rw [List.length_take]; omega
  have hq : (txtOf v es).drop k ≠ [] := by
    intro q
    have := congrArg List.length q
    rw [List.length_drop] at this
    simp at this
    omega
  have hpq := List.take_append_drop k (txtOf v es)
  generalize (txtOf v es).take k = p at *
  generalize (txtOf v es).drop k = q at *
  unfold txtOf at hpq
  have key : (prs (pr p false).1.2 (pr p false).2.1 (pr p false).2.2).2 = ([], true) := by
    rcases List.append_eq_append_iff.1 hpq with ⟨s, h1, h2⟩ | ⟨s, h1, h2⟩
    · cases s with
      | nil =>
        rw [List.append_nil] at h1
        have h3 := pr_ln (show v ≤ 999999 by omega) (show es.length ≤ 999999 by omega) []
        rw [List.append_nil, h1] at h3
        rw [h3]
        exact prs_cut es [] q hes (by simpa using h2) hq
      | cons y s =>
        have h3 := pr_cut hv hl h1.symm (by simp)
        rw [h3]
        simp only [prs_nil]
    · have h3 := pr_ln (show v ≤ 999999 by omega) (show es.length ≤ 999999 by omega) s
      rw [← h1] at h3
      rw [h3]
      exact prs_cut es s q hes h2.symm hq
  unfold rdM
  rw [if_neg (by omega)]
  simp only [key]
  rw [if_pos (.inl trivial), hlen]
  rfl

end Go.Proofs.YtloklfmgbolpeaaDoor
