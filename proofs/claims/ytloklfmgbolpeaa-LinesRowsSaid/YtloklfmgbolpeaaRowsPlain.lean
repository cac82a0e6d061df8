/-
  Plain: digits with blanks between are read as themselves.
-/
import Derived.Test.YtloklfmgbolpeaaInts
namespace Go.Proofs.Ytloklfmgbolpeaa
set_option linter.unusedVariables false
set_option linter.unusedSimpArgs false
open Go.Am

def dig (n : Nat) : UInt8 := UInt8.ofNat (48 + n % 10)

theorem dig_toNat (n : Nat) : (dig n).toNat = 48 + n % 10 := by
  unfold dig
  rw [UInt8.toNat_ofNat']
  omega

theorem dig_is (n : Nat) : isDig (dig n) = true := isDig_iff.2 (by rw [dig_toNat]; omega)

theorem dgs_zero {f : Nat} (hf : f ≤ 19) (s : List UInt8) : dgs f 0 s = s := by
  cases f with
  | zero => rfl
  | succ f => rw [dgs, if_neg (by omega)]

theorem dgs_read : ∀ (f n : Nat), f ≤ 19 → 1 ≤ n → n < 10 ^ f → n ≤ 999999 → ∃ c r, isDig c = true ∧ c ≠ 48 ∧ (∀ s, dgs f n s = c :: r ++ s) ∧ ∀ t, numLoop 0 (c :: r ++ t) = numLoop n t
  | 0, n, _, h1, h2, _ => by simp at h2; omega
  | f + 1, n, hf, h1, h2, h3 => by
    have e : ∀ s, dgs (f + 1) n s = dgs f (n / 10) (dig n :: s) := by
      intro s
      rw [dgs, if_pos (by omega)]
      rfl
    by_cases h10 : n < 10
    · refine ⟨dig n, [], dig_is n, ?_, fun s => ?_, fun t => ?_⟩
      · intro q
        have := dig_toNat n
        rw [q] at this
        have h4 : (48 : UInt8).toNat = 48 := rfl
        omega
      · have hz : n / 10 = 0 := by omega
        rw [e, hz, dgs_zero (by omega)]
        rfl
      · simp only [List.cons_append, List.nil_append, numLoop, dig_is, if_true, dig_toNat]
        rw [if_neg (by omega)]
        congr 1
        omega
    · obtain ⟨c, r, i1, i2, i3, i4⟩ := dgs_read f (n / 10) (by omega) (by omega) (by rw [Nat.pow_succ] at h2; omega) (by omega)
      refine ⟨c, r ++ [dig n], i1, i2, fun s => ?_, fun t => ?_⟩
      · rw [e, i3]
        simp
      · have e2 : c :: (r ++ [dig n]) ++ t = c :: r ++ (dig n :: t) := by simp
        rw [e2, i4]
        simp only [numLoop, dig_is, if_true, dig_toNat]
        rw [if_neg (by omega)]
        congr 1
        omega

abbrev itoa (n : Nat) : List UInt8 := dgs 20 n []

theorem numLoop_stop {n : Nat} {t : List UInt8} (h : digHd t = false) : numLoop n t = (n, t, false) := by
  cases t with
  | nil => rfl
  | cons c r =>
    have : isDig c = false := h
    simp [numLoop, this]

theorem num_itoa {n : Nat} (hn : n ≤ 999999) : itoa n ≠ [] ∧ ∀ t, digHd t = false → num (itoa n ++ t) false = (n, t, false) := by
  have e : ∀ s, dgs 20 n s = dgs 19 (n / 10) (dig n :: s) := by
    intro s
    rw [dgs, if_pos (.inr rfl)]
    rfl
  by_cases h0 : n = 0
  · subst h0
    have e0 : itoa 0 = [48] := by decide
    rw [e0]
    refine ⟨by simp, fun t ht => ?_⟩
    simp [num, isDig]
  · obtain ⟨c, r, i1, i2, i3, i4⟩ : ∃ c r, isDig c = true ∧ c ≠ 48 ∧ (∀ s, dgs 20 n s = c :: r ++ s) ∧ ∀ t, numLoop 0 (c :: r ++ t) = numLoop n t := by
      by_cases h10 : n < 10
      · have hz : n / 10 = 0 := by omega
        obtain ⟨c, r, i1, i2, i3, i4⟩ := dgs_read 1 n (by omega) (by omega) (by omega) hn
        refine ⟨c, r, i1, i2, fun s => ?_, i4⟩
        rw [← i3, e, hz, dgs_zero (by omega), dgs, if_pos (by omega), hz]
        rfl
      · obtain ⟨c, r, i1, i2, i3, i4⟩ := dgs_read 19 (n / 10) (by omega) (by omega) (by omega) (by omega)
        refine ⟨c, r ++ [dig n], i1, i2, fun s => ?_, fun t => ?_⟩
        · rw [e, i3]; simp
        · have e2 : c :: (r ++ [dig n]) ++ t = c :: r ++ (dig n :: t) := by simp
          rw [e2, i4]
          simp only [numLoop, dig_is, if_true, dig_toNat]
          rw [if_neg (by omega)]
          congr 1
          omega
    refine ⟨by rw [itoa, i3]; simp, fun t ht => ?_⟩
    rw [itoa, i3, List.append_nil]
    have e3 : num (c :: r ++ t) false = numLoop 0 (c :: r ++ t) := by simp [num, i1, i2]
    rw [e3, i4, numLoop_stop ht]

def tailM (xs : List Nat) : List UInt8 := xs.flatMap fun x => 32 :: itoa x

def joinM : List Nat → List UInt8
  | [] => []
  | x :: r => itoa x ++ tailM r

theorem dig_tail (xs : List Nat) (t : List UInt8) (ht : digHd t = false) : digHd (tailM xs ++ t) = false := by
  cases xs with
  | nil => exact ht
  | cons x r => rfl

theorem nl_tail (t : List UInt8) (ht : t = [] ∨ t = [32]) : ∀ (xs : List Nat) (f : Nat), (∀ x ∈ xs, x ≤ 999999) → (tailM xs ++ t).length < f → (t = [] → nl f (tailM xs ++ t) false = (xs, [], false)) ∧ (t = [32] → (nl f (tailM xs ++ t) false).2.2 = true)
  | [], f, _, hf => by
    obtain ⟨f, rfl⟩ : ∃ g, f = g + 1 := ⟨f - 1, by omega⟩
    refine ⟨fun q => by subst q; rfl, fun q => by subst q; simp [tailM, nl, tk, num, nl_true]⟩
  | x :: xs, f, hx, hf => by
    obtain ⟨f, rfl⟩ : ∃ g, f = g + 1 := ⟨f - 1, by omega⟩
    have hd : digHd t = false := by rcases ht with rfl | rfl <;> rfl
    have e : tailM (x :: xs) ++ t = 32 :: (itoa x ++ (tailM xs ++ t)) := by simp [tailM]
    rw [e] at hf ⊢
    have h1 := (num_itoa (hx x (by simp))).2 (tailM xs ++ t) (dig_tail xs t hd)
    have ih := nl_tail t ht xs f (fun y hy => hx y (by simp [hy])) (by simp only [List.length_cons, List.length_append] at hf ⊢; omega)
    simp only [nl, tk, Bool.false_eq_true, if_false, if_true, h1]
    exact ⟨fun q => by rw [ih.1 q], fun q => ih.2 q⟩

theorem rows_read {xs : List Nat} (hx : ∀ x ∈ xs, x ≤ 999999) : numsM (joinM xs) = some xs ∧ numsM (joinM xs ++ [32]) = none ∧ numsM (32 :: joinM xs) = none := by
  have h3 : ∀ r, numsM (32 :: r) = none := by
    intro r
    have : num (32 :: r) false = (0, 32 :: r, true) := by simp [num, isDig]
    simp only [numsM, reduceCtorEq, if_false, this, nl_true, if_true]
  cases xs with
  | nil => exact ⟨rfl, h3 _, h3 _⟩
  | cons x r =>
    have hn := num_itoa (hx x (by simp))
    refine ⟨?_, ?_, h3 _⟩
    · have h1 := hn.2 (tailM r) (by have := dig_tail r [] rfl; simpa using this)
      have h2 := (nl_tail [] (.inl rfl) r ((tailM r).length + 1) (fun y hy => hx y (by simp [hy])) (by simp)).1 rfl
      rw [List.append_nil] at h2
      simp only [numsM, joinM, List.append_eq_nil_iff, hn.1, false_and, if_false, h1, h2, Bool.false_eq_true]
    · have h1 := hn.2 (tailM r ++ [32]) (dig_tail r [32] rfl)
      have h2 := (nl_tail [32] (.inr rfl) r ((tailM r ++ [32]).length + 1) (fun y hy => hx y (by simp [hy])) (by omega)).2 rfl
      simp only [numsM, joinM, List.append_assoc, List.append_eq_nil_iff, hn.1, false_and, if_false, h1, h2, if_true]

end Go.Proofs.Ytloklfmgbolpeaa
