/-
  Plain: byte by byte is as by lines.
-/
import Derived.Test.YtloklfmgbolpeaaRefRead
namespace Go.Proofs.Ytloklfmgbolpeaa
set_option linter.unusedVariables false
set_option linter.unusedSimpArgs false

theorem isDig_not {c : UInt8} {w : Nat} (hw : w = 10 ∨ w = 32) (h : c.toNat = w) : isDig c = false := by
  rw [Bool.eq_false_iff]
  intro q
  have := isDig_iff.1 q
  omega

theorem rf_closed (ns : List Nat) (n d i : Nat) : ∀ rest, rfLoop ns false n d i rest = rfLoop ns false 0 0 i rest
  | [] => rfl
  | c :: r => by
    simp only [rfLoop, Bool.false_eq_true, false_and, if_false, true_or, if_true]

/-- The rest of a number that has begun, and the byte behind it. -/
theorem rf_open {ns : List Nat} {w : UInt8} (hw : w.toNat = want ns) : ∀ (rest : List UInt8) (n d i : Nat), 1 ≤ n → n ≤ 999999 →
    ((tk w (numLoop n rest).2.1 (numLoop n rest).2.2).2 = true → (rfLoop ns true n d i rest = .inl (i + rest.length - (tk w (numLoop n rest).2.1 (numLoop n rest).2.2).1.length) ∨ ((tk w (numLoop n rest).2.1 (numLoop n rest).2.2).1 = [] ∧ rfLoop ns true n d i rest = .inr (ns, true)))) ∧
    ((tk w (numLoop n rest).2.1 (numLoop n rest).2.2).2 = false → rfLoop ns true n d i rest = rfLoop (ns ++ [(numLoop n rest).1]) false 0 0 (i + rest.length - (tk w (numLoop n rest).2.1 (numLoop n rest).2.2).1.length) (tk w (numLoop n rest).2.1 (numLoop n rest).2.2).1)
  | [], n, d, i, h1, h2 => by simp [numLoop, tk, rfLoop]
  | c :: r, n, d, i, h1, h2 => by
    have hwant : want ns = 10 ∨ want ns = 32 := by unfold want; split <;> simp
    by_cases hd : isDig c = true
    · by_cases ho : 999999 < 10 * n + (c.toNat - 48)
      · have hdi := isDig_iff.1 hd
        simp only [numLoop, hd, if_true, ho, tk, forall_const, rfLoop, Bool.true_eq_false, and_false, if_false]
        rw [if_pos ⟨trivial, .inr (by omega)⟩]
        refine ⟨.inl ?_, fun q => by cases q⟩
        congr 1
        omega
      · have hdi := isDig_iff.1 hd
        have ih := rf_open hw r (10 * n + (c.toNat - 48)) (d + 1) (i + 1) (by omega) (by omega)
        simp only [numLoop, hd, if_true, ho, if_false]
        have e : rfLoop ns true n d i (c :: r) = rfLoop ns true (10 * n + (c.toNat - 48)) (d + 1) (i + 1) r := by
          simp only [rfLoop, Bool.true_eq_false, and_false, if_false, hd, if_true]
          rw [if_neg (by omega)]
          congr 1
          omega
        rw [e]
        have e2 : i + (c :: r).length = i + 1 + r.length := by simp only [List.length_cons]; omega
        rw [e2]
        exact ih
    · have hd : isDig c = false := by simpa using hd
      simp only [numLoop, hd, if_false, tk, Bool.false_eq_true]
      by_cases hc : c = w
      · subst hc
        simp only [if_true, Bool.false_eq_true, if_false, false_implies, forall_const, true_and]
        have e : rfLoop ns true n d i (c :: r) = rfLoop (ns ++ [n]) false n d (i + 1) r := by
          simp only [rfLoop, Bool.true_eq_false, and_false, if_false, hd, hw, false_or, ne_eq, not_true_eq_false, Bool.false_eq_true]
        rw [e, rf_closed]
        congr 1
        simp only [List.length_cons]
        omega
      · have hc' : c.toNat ≠ want ns := fun q => hc (UInt8.toNat_inj.1 (q.trans hw.symm))
        simp only [hc, if_false, Bool.false_eq_true, forall_const]
        refine ⟨.inl ?_, fun q => by cases q⟩
        simp only [rfLoop, Bool.true_eq_false, and_false, if_false, hd, hc', ne_eq, not_false_eq_true, or_true, if_true, Bool.false_eq_true]
        congr 1
        omega

/-- A number, and the byte behind it, from where one may begin. -/
theorem rf_num {ns : List Nat} {w : UInt8} (hw : w.toNat = want ns) (hf : full ns = false) (rest : List UInt8) (i : Nat) :
    ((tk w (num rest false).2.1 (num rest false).2.2).2 = true → (rfLoop ns false 0 0 i rest = .inl (i + rest.length - (tk w (num rest false).2.1 (num rest false).2.2).1.length) ∨ ((tk w (num rest false).2.1 (num rest false).2.2).1 = [] ∧ ∃ o, rfLoop ns false 0 0 i rest = .inr (ns, o)))) ∧
    ((tk w (num rest false).2.1 (num rest false).2.2).2 = false → rfLoop ns false 0 0 i rest = rfLoop (ns ++ [(num rest false).1]) false 0 0 (i + rest.length - (tk w (num rest false).2.1 (num rest false).2.2).1.length) (tk w (num rest false).2.1 (num rest false).2.2).1) := by
  have hwant : want ns = 10 ∨ want ns = 32 := by unfold want; split <;> simp
  cases rest with
  | nil => simp [num, tk, rfLoop]
  | cons c r =>
    by_cases hd : isDig c = true
    · have hdi := isDig_iff.1 hd
      by_cases h0 : c = 48
      · subst h0
        have e : rfLoop ns false 0 0 i (48 :: r) = rfLoop ns true 0 1 (i + 1) r := by
          simp only [rfLoop, hf, Bool.false_eq_true, false_and, if_false, hd, if_true]
          rfl
        rw [e]
        simp only [num, Bool.false_eq_true, if_false, hd, if_true]
        cases r with
        | nil => simp [tk, rfLoop]
        | cons b r =>
          by_cases hb : b = w
          · subst hb
            have hnd := isDig_not hwant hw
            simp only [tk, Bool.false_eq_true, if_false, if_true, forall_const, true_and, false_implies, rfLoop, Bool.true_eq_false, and_false, hnd, hw, false_or, ne_eq, not_true_eq_false]
            rw [rf_closed]
            congr 1
            simp only [List.length_cons]
            omega
          · simp only [tk, Bool.false_eq_true, if_false, hb, forall_const]
            refine ⟨.inl ?_, fun q => by cases q⟩
            have hb' : b.toNat ≠ want ns := fun q => hb (UInt8.toNat_inj.1 (q.trans hw.symm))
            simp only [rfLoop, Bool.true_eq_false, and_false, if_false]
            split
            · rw [if_pos (by simp)]
              congr 1
              simp only [List.length_cons]
              omega
            · rw [if_pos (.inr hb')]
              congr 1
              simp only [List.length_cons]
              omega
      · have hc49 : 49 ≤ c.toNat := by
          rcases Nat.lt_or_ge c.toNat 49 with q | q
          · exfalso
            apply h0
            apply UInt8.toNat_inj.1
            show c.toNat = 48
            omega
          · exact q
        have e : rfLoop ns false 0 0 i (c :: r) = rfLoop ns true (c.toNat - 48) 1 (i + 1) r := by
          simp only [rfLoop, hf, Bool.false_eq_true, false_and, if_false, hd, if_true, Nat.mul_zero, Nat.zero_add]
        have e3 : num (c :: r) false = numLoop (c.toNat - 48) r := by
          simp only [num, Bool.false_eq_true, if_false, hd, if_true, h0, numLoop, Nat.mul_zero, Nat.zero_add]
          rw [if_neg (by omega)]
        rw [e, e3]
        have ih := rf_open hw r (c.toNat - 48) 1 (i + 1) (by omega) (by omega)
        have e2 : i + (c :: r).length = i + 1 + r.length := by simp only [List.length_cons]; omega
        rw [e2]
        refine ⟨fun q => ?_, ih.2⟩
        rcases ih.1 q with h | ⟨h, h'⟩
        · exact .inl h
        · exact .inr ⟨h, true, h'⟩
    · simp only [num, Bool.false_eq_true, if_false, hd, tk, if_true, forall_const]
      refine ⟨.inl ?_, fun q => by cases q⟩
      simp only [rfLoop, hf, Bool.false_eq_true, false_and, if_false, hd, true_or, if_true]
      congr 1
      omega

/-- What the bytes' run comes to. -/
def rfEnd (len : Nat) : Nat ⊕ (List Nat × Bool) → Rd
  | .inl i => ⟨0, [], 11, i⟩
  | .inr (ns, opn) =>
    if opn = true ∨ full ns = false then ⟨0, [], 11, len⟩ else
    if ns.getD 0 0 < 1 ∨ 24 < ns.getD 0 0 ∨ 40 < ns.getD 1 0 then ⟨0, [], 10, 0⟩ else
    match firstOff (ns.getD 0 0) 0 (pairs (ns.drop 2)) with
    | some i => ⟨0, [], 12, i⟩
    | none => ⟨ns.getD 0 0, pairs (ns.drop 2), 0, 0⟩

theorem num_bad {len : Nat} {ns : List Nat} {w : UInt8} (hw : w.toNat = want ns) (hf : full ns = false) {rest : List UInt8} {i : Nat} (hl : i + rest.length = len)
    (hb : (tk w (num rest false).2.1 (num rest false).2.2).2 = true) : rfEnd len (rfLoop ns false 0 0 i rest) = ⟨0, [], 11, len - (tk w (num rest false).2.1 (num rest false).2.2).1.length⟩ := by
  rcases (rf_num hw hf rest i).1 hb with h | ⟨h1, o, h2⟩
  · rw [h, hl]; rfl
  · rw [h1, h2]
    simp only [rfEnd, hf, or_true, if_true, List.length_nil, Nat.sub_zero]

theorem num_good {len : Nat} {ns : List Nat} {w : UInt8} (hw : w.toNat = want ns) (hf : full ns = false) {rest : List UInt8} {i : Nat} (hl : i + rest.length = len)
    (hb : (tk w (num rest false).2.1 (num rest false).2.2).2 = false) : rfLoop ns false 0 0 i rest = rfLoop (ns ++ [(num rest false).1]) false 0 0 (len - (tk w (num rest false).2.1 (num rest false).2.2).1.length) (tk w (num rest false).2.1 (num rest false).2.2).1 := by
  rw [(rf_num hw hf rest i).2 hb, hl]

theorem full_odd {ns : List Nat} (h : ns.length % 2 = 1) : full ns = false := by
  unfold full
  have : decide (ns.length % 2 = 0) = false := by simp; omega
  rw [this]
  simp

theorem num_true (r : List UInt8) : num r true = (0, r, true) := rfl
theorem tk_true (c : UInt8) (r : List UInt8) : tk c r true = (r, true) := rfl

theorem pr_ends {len : Nat} {ns : List Nat} (he : ns.length % 2 = 0) (hf : full ns = false) {rest : List UInt8} {i : Nat} (hl : i + rest.length = len) :
    ((pr rest false).2.2 = true → rfEnd len (rfLoop ns false 0 0 i rest) = ⟨0, [], 11, len - (pr rest false).2.1.length⟩) ∧
    ((pr rest false).2.2 = false → rfLoop ns false 0 0 i rest = rfLoop (ns ++ [(pr rest false).1.1, (pr rest false).1.2]) false 0 0 (len - (pr rest false).2.1.length) (pr rest false).2.1) := by
  have hw : (32 : UInt8).toNat = want ns := by unfold want; rw [if_neg (by omega)]; rfl
  have ho : (ns ++ [(num rest false).1]).length % 2 = 1 := by simp; omega
  have hw2 : (10 : UInt8).toNat = want (ns ++ [(num rest false).1]) := by unfold want; rw [if_pos ho]; rfl
  have hs := ((tk_suf 32 (num rest false).2.1 (num rest false).2.2).trans (num_suf rest false)).length_le
  simp only [pr]
  cases hb : (tk 32 (num rest false).2.1 (num rest false).2.2).2 with
  | true =>
    have := num_bad hw hf hl hb
    simp only [num_true, tk_true, forall_const, Bool.true_eq_false, false_implies, and_true]
    exact this
  | false =>
    have e1 := num_good hw hf hl hb
    have hl2 : len - (tk 32 (num rest false).2.1 (num rest false).2.2).1.length + (tk 32 (num rest false).2.1 (num rest false).2.2).1.length = len := by omega
    rw [e1]
    refine ⟨fun q => num_bad hw2 (full_odd ho) hl2 q, fun q => ?_⟩
    rw [num_good hw2 (full_odd ho) hl2 q]
    simp only [List.append_assoc, List.cons_append, List.nil_append]

def unpairs (es : List (Nat × Nat)) : List Nat := es.flatMap fun e => [e.1, e.2]

theorem pairs_unpairs : ∀ es, pairs (unpairs es) = es
  | [] => rfl
  | e :: r => by
    have := pairs_unpairs r
    simp only [unpairs, List.flatMap_cons, List.cons_append, List.nil_append, pairs] at this ⊢
    rw [this]

theorem prs_true (m : Nat) (r : List UInt8) : prs m r true = ([], r, true) := by cases m <;> rfl

theorem prs_ends {len count : Nat} : ∀ (m : Nat) {ns : List Nat} {rest : List UInt8} {i : Nat}, 2 ≤ ns.length → ns.length % 2 = 0 → ns.getD 1 0 = count → (ns.length - 2) / 2 + m = count → i + rest.length = len →
    ((prs m rest false).2.2 = true ∨ (prs m rest false).2.1 ≠ [] → rfEnd len (rfLoop ns false 0 0 i rest) = ⟨0, [], 11, len - (prs m rest false).2.1.length⟩) ∧
    (¬ ((prs m rest false).2.2 = true ∨ (prs m rest false).2.1 ≠ []) → rfLoop ns false 0 0 i rest = .inr (ns ++ unpairs (prs m rest false).1, false) ∧ (prs m rest false).1.length = m)
  | 0, ns, rest, i, h2, he, hc, hm, hl => by
    have hf : full ns = true := by
      simp only [full, h2, he, hc, decide_true, Bool.true_and, decide_eq_true_eq]
      omega
    simp only [prs, Bool.false_eq_true, false_or]
    cases rest with
    | nil => simp [rfLoop, unpairs]
    | cons b r =>
      simp only [ne_eq, reduceCtorEq, not_false_eq_true, forall_const, not_true_eq_false, false_implies, and_true, rfLoop, hf, and_self, if_true, rfEnd]
      congr 1
      omega
  | m + 1, ns, rest, i, h2, he, hc, hm, hl => by
    have hf : full ns = false := by
      unfold full
      have : decide ((ns.length - 2) / 2 = ns.getD 1 0) = false := by simp only [decide_eq_false_iff_not]; omega
      rw [this, Bool.and_false]
    have hp := pr_ends he hf hl
    have hs := (pr_suf rest false).length_le
    simp only [prs]
    cases hb : (pr rest false).2.2 with
    | true =>
      simp only [prs_true, true_or, forall_const, not_true_eq_false, false_implies, and_true]
      exact hp.1 hb
    | false =>
      rw [hp.2 hb]
      have ih := prs_ends (len := len) (count := count) m (ns := ns ++ [(pr rest false).1.1, (pr rest false).1.2]) (rest := (pr rest false).2.1) (i := len - (pr rest false).2.1.length) (by simp) (by simp; omega)
        (by rw [← hc, List.getD_eq_getElem?_getD, List.getD_eq_getElem?_getD, List.getElem?_append_left (by omega)]) (by simp only [List.length_append, List.length_cons, List.length_nil]; omega) (by omega)
      refine ⟨ih.1, fun q => ?_⟩
      obtain ⟨h1, h2⟩ := ih.2 q
      refine ⟨?_, by simp [h2]⟩
      rw [h1]
      simp [unpairs]

theorem rd_is_ref (bs : List UInt8) : rdM bs = refM bs := by
  unfold rdM refM
  by_cases hl : 4096 < bs.length
  · rw [if_pos hl, if_pos hl]
  · rw [if_neg hl, if_neg hl]
    show _ = rfEnd bs.length (rfLoop [] false 0 0 0 bs)
    have hp := pr_ends (ns := []) (len := bs.length) rfl rfl (rest := bs) (i := 0) (by omega)
    have hs := (pr_suf bs false).length_le
    generalize pr bs false = x at *
    obtain ⟨⟨v, count⟩, rest, bad⟩ := x
    simp only at hp hs ⊢
    cases bad with
    | true =>
      simp only [prs_true, true_or, if_true]
      exact (hp.1 rfl).symm
    | false =>
      rw [hp.2 rfl]
      have ih := prs_ends (len := bs.length) (count := count) count (ns := [v, count]) (rest := rest) (i := bs.length - rest.length) (by simp) (by simp) (by simp) (by simp) (by omega)
      simp only [List.nil_append]
      by_cases hq : (prs count rest false).2.2 = true ∨ (prs count rest false).2.1 ≠ []
      · rw [if_pos hq, ih.1 hq]
      · rw [if_neg hq]
        obtain ⟨h1, h2⟩ := ih.2 hq
        rw [h1]
        have hf : full ([v, count] ++ unpairs (prs count rest false).1) = true := by
          have hu : ∀ es, (unpairs es).length = es.length * 2 := by
            intro es
            induction es with
            | nil => rfl
            | cons e r ih => simp only [unpairs, List.flatMap_cons, List.length_append, List.length_cons, List.length_nil] at ih ⊢; omega
          have h3 := hu (prs count rest false).1
          rw [h2] at h3
          simp only [full, List.cons_append, List.nil_append, List.length_cons, h3, Bool.and_eq_true, decide_eq_true_eq]
          refine ⟨⟨by omega, by omega⟩, ?_⟩
          simp
        simp only [rfEnd, hf, Bool.false_eq_true, Bool.true_eq_false, or_self, if_false]
        simp only [List.cons_append, List.nil_append, List.drop_succ_cons, List.drop_zero, pairs_unpairs, List.getD_cons_zero, List.getD_cons_succ]
        rfl

end Go.Proofs.Ytloklfmgbolpeaa
