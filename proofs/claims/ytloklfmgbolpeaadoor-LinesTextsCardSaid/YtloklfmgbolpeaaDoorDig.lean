/-
  Plain: a number's digits are read as it.
-/
import Derived.Test.YtloklfmgbolpeaaDoorInts
namespace Go.Proofs.YtloklfmgbolpeaaDoor
set_option linter.unusedVariables false
set_option linter.unusedSimpArgs false
open Go.Am

def dig (n : Nat) : UInt8 := UInt8.ofNat (48 + n % 10)

theorem dig_toNat (n : Nat) : (dig n).toNat = 48 + n % 10 := by
  unfold dig
  rw [UInt8.toNat_ofNat']
  omega

theorem dig_is (n : Nat) : isDig (dig n) = true := isDig_iff.2 (by rw [dig_toNat]; omega)

theorem dgs_zero {f : Nat} (hf : f ≤ 19) (s : List UInt8) : dgs f 0 s = s := by
  cases f with
  | zero => rfl
  | succ f => rw [dgs, if_neg (by omega)]

theorem dgs_read : ∀ (f n : Nat), f ≤ 19 → 1 ≤ n → n < 10 ^ f → n ≤ 999999 → ∃ c r, isDig c = true ∧ c ≠ 48 ∧ (∀ s, dgs f n s = c :: r ++ s) ∧ ∀ t, numLoop 0 (c :: r ++ t) = numLoop n t
  | 0, n, _, h1, h2, _ => by simp at h2; omega
  | f + 1, n, hf, h1, h2, h3 => by
    have e : ∀ s, dgs (f + 1) n s = dgs f (n / 10) (dig n :: s) := by
      intro s
      rw [dgs, if_pos (by omega)]
      rfl
    by_cases h10 : n < 10
    · refine ⟨dig n, [], dig_is n, ?_, fun s => ?_, fun t => ?_⟩
      · intro q
        have := dig_toNat n
        rw [q] at this
        have h4 : (48 : UInt8).toNat = 48 := rfl
        omega
      · have hz : n / 10 = 0 := by omega
        rw [e, hz, dgs_zero (by omega)]
        rfl
      · simp only [List.cons_append, List.nil_append, numLoop, dig_is, if_true, dig_toNat]
        rw [if_neg (by omega)]
        congr 1
        omega
    · obtain ⟨c, r, i1, i2, i3, i4⟩ := dgs_read f (n / 10) (by omega) (by omega) (by rw [Nat.pow_succ] at h2; omega) (by omega)
      refine ⟨c, r ++ [dig n], i1, i2, fun s => ?_, fun t => ?_⟩
      · rw [e, i3]
        simp
      · have e2 : c :: (r ++ [dig n]) ++ t = c :: r ++ (dig n :: t) := by simp
        rw [e2, i4]
        simp only [numLoop, dig_is, if_true, dig_toNat]
        rw [if_neg (by omega)]
        congr 1
        omega

abbrev itoa (n : Nat) : List UInt8 := dgs 20 n []

theorem numLoop_stop {n : Nat} {t : List UInt8} (h : digHd t = false) : numLoop n t = (n, t, false) := by
  cases t with
  | nil => rfl
  | cons c r =>
    have : isDig c = false := h
    simp [numLoop, this]

theorem num_itoa {n : Nat} (hn : n ≤ 999999) : itoa n ≠ [] ∧ ∀ t, digHd t = false → num (itoa n ++ t) false = (n, t, false) := by
  have e : ∀ s, dgs 20 n s = dgs 19 (n / 10) (dig n :: s) := by
    intro s
    rw [dgs, if_pos (.inr rfl)]
    rfl
  by_cases h0 : n = 0
  · subst h0
    have e0 : itoa 0 = [48] := by decide
    rw [e0]
    refine ⟨by simp, fun t ht => ?_⟩
    simp [num, isDig]
  · obtain ⟨c, r, i1, i2, i3, i4⟩ : ∃ c r, isDig c = true ∧ c ≠ 48 ∧ (∀ s, dgs 20 n s = c :: r ++ s) ∧ ∀ t, numLoop 0 (c :: r ++ t) = numLoop n t := by
      by_cases h10 : n < 10
      · have hz : n / 10 = 0 := by omega
        obtain ⟨c, r, i1, i2, i3, i4⟩ := dgs_read 1 n (by omega) (by omega) (by omega) hn
        refine ⟨c, r, i1, i2, fun s => ?_, i4⟩
        rw [← i3, e, hz, dgs_zero (by omega), dgs, if_pos (by omega), hz]
        rfl
      · obtain ⟨c, r, i1, i2, i3, i4⟩ := dgs_read 19 (n / 10) (by omega) (by omega) (by omega) (by omega)
        refine ⟨c, r ++ [dig n], i1, i2, fun s => ?_, fun t => ?_⟩
        · rw [e, i3]; simp
        · have e2 : c :: (r ++ [dig n]) ++ t = c :: r ++ (dig n :: t) := by simp
          rw [e2, i4]
          simp only [numLoop, dig_is, if_true, dig_toNat]
          rw [if_neg (by omega)]
          congr 1
          omega
    refine ⟨by rw [itoa, i3]; simp, fun t ht => ?_⟩
    rw [itoa, i3, List.append_nil]
    have e3 : num (c :: r ++ t) false = numLoop 0 (c :: r ++ t) := by simp [num, i1, i2]
    rw [e3, i4, numLoop_stop ht]

end Go.Proofs.YtloklfmgbolpeaaDoor
