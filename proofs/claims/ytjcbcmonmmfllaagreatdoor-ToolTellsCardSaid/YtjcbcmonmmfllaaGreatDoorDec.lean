/-
  strconv: how many digits; the tables.
-/
import Derived.Test.YtjcbcmonmmfllaaGreatDoorBase
namespace Go.Proofs.YtjcbcmonmmfllaaGreatDoor
set_option linter.unusedVariables false
set_option linter.unusedSimpArgs false
open Go.Am

/-- The table of the powers of ten, as it lies in memory. -/
def powZ : List Int := [1, 10, 100, 1000, 10000, 100000, 1000000, 10000000, 100000000, 1000000000, 10000000000, 100000000000, 1000000000000, 10000000000000, 100000000000000, 1000000000000000, 10000000000000000, 100000000000000000, 1000000000000000000, 10000000000000000000]

def pow10 : List AV := powZ.map (AV.int .u64)

theorem powZ_at : ((List.range 20).all fun k => powZ[k]? == some ((10 ^ k : Nat) : Int)) = true := by decide +kernel

theorem tb1 : ((List.range 256).all fun n => n == 0 || ([0, 1, 2, 2, 3, 3, 3, 3, 4, 4, 4, 4, 4, 4, 4, 4, 5, 5, 5, 5, 5, 5, 5, 5, 5, 5, 5, 5, 5, 5, 5, 5, 6, 6, 6, 6, 6, 6, 6, 6, 6, 6, 6, 6, 6, 6, 6, 6, 6, 6, 6, 6, 6, 6, 6, 6, 6, 6, 6, 6, 6, 6, 6, 6, 7, 7, 7, 7, 7, 7, 7, 7, 7, 7, 7, 7, 7, 7, 7, 7, 7, 7, 7, 7, 7, 7, 7, 7, 7, 7, 7, 7, 7, 7, 7, 7, 7, 7, 7, 7, 7, 7, 7, 7, 7, 7, 7, 7, 7, 7, 7, 7, 7, 7, 7, 7, 7, 7, 7, 7, 7, 7, 7, 7, 7, 7, 7, 7, 8, 8, 8, 8, 8, 8, 8, 8, 8, 8, 8, 8, 8, 8, 8, 8, 8, 8, 8, 8, 8, 8, 8, 8, 8, 8, 8, 8, 8, 8, 8, 8, 8, 8, 8, 8, 8, 8, 8, 8, 8, 8, 8, 8, 8, 8, 8, 8, 8, 8, 8, 8, 8, 8, 8, 8, 8, 8, 8, 8, 8, 8, 8, 8, 8, 8, 8, 8, 8, 8, 8, 8, 8, 8, 8, 8, 8, 8, 8, 8, 8, 8, 8, 8, 8, 8, 8, 8, 8, 8, 8, 8, 8, 8, 8, 8, 8, 8, 8, 8, 8, 8, 8, 8, 8, 8, 8, 8, 8, 8, 8, 8, 8, 8, 8, 8, 8, 8, 8, 8, 8, 8, 8, 8, 8, 8, 8, 8] : List UInt8)[n]? == some (UInt8.ofNat (Nat.log2 n + 1))) = true := by decide +kernel

theorem log2_lt8 {n : Nat} (h : n < 256) : Nat.log2 n < 8 := by
  by_cases h0 : n = 0
  · subst h0; decide
  · exact (Nat.log2_lt h0).2 h

set_option maxRecDepth 4000 in
theorem idx_len8 {n : Nat} (h1 : 1 ≤ n) (h2 : n < 256) : idxSA (.str [0, 1, 2, 2, 3, 3, 3, 3, 4, 4, 4, 4, 4, 4, 4, 4, 5, 5, 5, 5, 5, 5, 5, 5, 5, 5, 5, 5, 5, 5, 5, 5, 6, 6, 6, 6, 6, 6, 6, 6, 6, 6, 6, 6, 6, 6, 6, 6, 6, 6, 6, 6, 6, 6, 6, 6, 6, 6, 6, 6, 6, 6, 6, 6, 7, 7, 7, 7, 7, 7, 7, 7, 7, 7, 7, 7, 7, 7, 7, 7, 7, 7, 7, 7, 7, 7, 7, 7, 7, 7, 7, 7, 7, 7, 7, 7, 7, 7, 7, 7, 7, 7, 7, 7, 7, 7, 7, 7, 7, 7, 7, 7, 7, 7, 7, 7, 7, 7, 7, 7, 7, 7, 7, 7, 7, 7, 7, 7, 8, 8, 8, 8, 8, 8, 8, 8, 8, 8, 8, 8, 8, 8, 8, 8, 8, 8, 8, 8, 8, 8, 8, 8, 8, 8, 8, 8, 8, 8, 8, 8, 8, 8, 8, 8, 8, 8, 8, 8, 8, 8, 8, 8, 8, 8, 8, 8, 8, 8, 8, 8, 8, 8, 8, 8, 8, 8, 8, 8, 8, 8, 8, 8, 8, 8, 8, 8, 8, 8, 8, 8, 8, 8, 8, 8, 8, 8, 8, 8, 8, 8, 8, 8, 8, 8, 8, 8, 8, 8, 8, 8, 8, 8, 8, 8, 8, 8, 8, 8, 8, 8, 8, 8, 8, 8, 8, 8, 8, 8, 8, 8, 8, 8, 8, 8, 8, 8, 8, 8, 8, 8, 8, 8, 8, 8, 8, 8]) (.int .u8 (n : Nat)) = some (.int .u8 ((Nat.log2 n + 1 : Nat) : Int)) := by
  have hs := List.all_eq_true.1 tb1 n (List.mem_range.2 h2)
  have hn : (n == 0) = false := by simp; omega
  rw [hn, Bool.false_or, beq_iff_eq] at hs
  have c : (0 : Int) ≤ (n : Nat) := by omega
  have hl := log2_lt8 h2
  have u : (UInt8.ofNat (Nat.log2 n + 1)).toNat = Nat.log2 n + 1 := by rw [UInt8.toNat_ofNat']; omega
  simp only [idxSA_str, c, if_true, Int.toNat_natCast, hs, Option.map_some, u]

theorem sm3 : ((List.range 100).all fun n => (([48, 48, 48, 49, 48, 50, 48, 51, 48, 52, 48, 53, 48, 54, 48, 55, 48, 56, 48, 57, 49, 48, 49, 49, 49, 50, 49, 51, 49, 52, 49, 53, 49, 54, 49, 55, 49, 56, 49, 57, 50, 48, 50, 49, 50, 50, 50, 51, 50, 52, 50, 53, 50, 54, 50, 55, 50, 56, 50, 57, 51, 48, 51, 49, 51, 50, 51, 51, 51, 52, 51, 53, 51, 54, 51, 55, 51, 56, 51, 57, 52, 48, 52, 49, 52, 50, 52, 51, 52, 52, 52, 53, 52, 54, 52, 55, 52, 56, 52, 57, 53, 48, 53, 49, 53, 50, 53, 51, 53, 52, 53, 53, 53, 54, 53, 55, 53, 56, 53, 57, 54, 48, 54, 49, 54, 50, 54, 51, 54, 52, 54, 53, 54, 54, 54, 55, 54, 56, 54, 57, 55, 48, 55, 49, 55, 50, 55, 51, 55, 52, 55, 53, 55, 54, 55, 55, 55, 56, 55, 57, 56, 48, 56, 49, 56, 50, 56, 51, 56, 52, 56, 53, 56, 54, 56, 55, 56, 56, 56, 57, 57, 48, 57, 49, 57, 50, 57, 51, 57, 52, 57, 53, 57, 54, 57, 55, 57, 56, 57, 57] : List UInt8)[2 * n + 1]? == some (UInt8.ofNat (48 + n % 10))) && (([48, 48, 48, 49, 48, 50, 48, 51, 48, 52, 48, 53, 48, 54, 48, 55, 48, 56, 48, 57, 49, 48, 49, 49, 49, 50, 49, 51, 49, 52, 49, 53, 49, 54, 49, 55, 49, 56, 49, 57, 50, 48, 50, 49, 50, 50, 50, 51, 50, 52, 50, 53, 50, 54, 50, 55, 50, 56, 50, 57, 51, 48, 51, 49, 51, 50, 51, 51, 51, 52, 51, 53, 51, 54, 51, 55, 51, 56, 51, 57, 52, 48, 52, 49, 52, 50, 52, 51, 52, 52, 52, 53, 52, 54, 52, 55, 52, 56, 52, 57, 53, 48, 53, 49, 53, 50, 53, 51, 53, 52, 53, 53, 53, 54, 53, 55, 53, 56, 53, 57, 54, 48, 54, 49, 54, 50, 54, 51, 54, 52, 54, 53, 54, 54, 54, 55, 54, 56, 54, 57, 55, 48, 55, 49, 55, 50, 55, 51, 55, 52, 55, 53, 55, 54, 55, 55, 55, 56, 55, 57, 56, 48, 56, 49, 56, 50, 56, 51, 56, 52, 56, 53, 56, 54, 56, 55, 56, 56, 56, 57, 57, 48, 57, 49, 57, 50, 57, 51, 57, 52, 57, 53, 57, 54, 57, 55, 57, 56, 57, 57] : List UInt8)[2 * n]? == some (UInt8.ofNat (48 + n / 10)))) = true := by decide +kernel

set_option maxRecDepth 4000 in
theorem idx_sm {n : Nat} (h : n < 100) {k1 k2 : Int} (e1 : k1 = (2 * n + 1 : Nat)) (e2 : k2 = (2 * n : Nat)) :
    idxSA (.str [48, 48, 48, 49, 48, 50, 48, 51, 48, 52, 48, 53, 48, 54, 48, 55, 48, 56, 48, 57, 49, 48, 49, 49, 49, 50, 49, 51, 49, 52, 49, 53, 49, 54, 49, 55, 49, 56, 49, 57, 50, 48, 50, 49, 50, 50, 50, 51, 50, 52, 50, 53, 50, 54, 50, 55, 50, 56, 50, 57, 51, 48, 51, 49, 51, 50, 51, 51, 51, 52, 51, 53, 51, 54, 51, 55, 51, 56, 51, 57, 52, 48, 52, 49, 52, 50, 52, 51, 52, 52, 52, 53, 52, 54, 52, 55, 52, 56, 52, 57, 53, 48, 53, 49, 53, 50, 53, 51, 53, 52, 53, 53, 53, 54, 53, 55, 53, 56, 53, 57, 54, 48, 54, 49, 54, 50, 54, 51, 54, 52, 54, 53, 54, 54, 54, 55, 54, 56, 54, 57, 55, 48, 55, 49, 55, 50, 55, 51, 55, 52, 55, 53, 55, 54, 55, 55, 55, 56, 55, 57, 56, 48, 56, 49, 56, 50, 56, 51, 56, 52, 56, 53, 56, 54, 56, 55, 56, 56, 56, 57, 57, 48, 57, 49, 57, 50, 57, 51, 57, 52, 57, 53, 57, 54, 57, 55, 57, 56, 57, 57]) (.int .u32 k1) = some (.int .u8 ((48 + n % 10 : Nat) : Int)) ∧
    idxSA (.str [48, 48, 48, 49, 48, 50, 48, 51, 48, 52, 48, 53, 48, 54, 48, 55, 48, 56, 48, 57, 49, 48, 49, 49, 49, 50, 49, 51, 49, 52, 49, 53, 49, 54, 49, 55, 49, 56, 49, 57, 50, 48, 50, 49, 50, 50, 50, 51, 50, 52, 50, 53, 50, 54, 50, 55, 50, 56, 50, 57, 51, 48, 51, 49, 51, 50, 51, 51, 51, 52, 51, 53, 51, 54, 51, 55, 51, 56, 51, 57, 52, 48, 52, 49, 52, 50, 52, 51, 52, 52, 52, 53, 52, 54, 52, 55, 52, 56, 52, 57, 53, 48, 53, 49, 53, 50, 53, 51, 53, 52, 53, 53, 53, 54, 53, 55, 53, 56, 53, 57, 54, 48, 54, 49, 54, 50, 54, 51, 54, 52, 54, 53, 54, 54, 54, 55, 54, 56, 54, 57, 55, 48, 55, 49, 55, 50, 55, 51, 55, 52, 55, 53, 55, 54, 55, 55, 55, 56, 55, 57, 56, 48, 56, 49, 56, 50, 56, 51, 56, 52, 56, 53, 56, 54, 56, 55, 56, 56, 56, 57, 57, 48, 57, 49, 57, 50, 57, 51, 57, 52, 57, 53, 57, 54, 57, 55, 57, 56, 57, 57]) (.int .u32 k2) = some (.int .u8 ((48 + n / 10 : Nat) : Int)) := by
  have hs := List.all_eq_true.1 sm3 n (List.mem_range.2 h)
  rw [Bool.and_eq_true, beq_iff_eq, beq_iff_eq] at hs
  subst e1 e2
  have c1 : (0 : Int) ≤ (2 * n + 1 : Nat) := by omega
  have c2 : (0 : Int) ≤ (2 * n : Nat) := by omega
  have u1 : (UInt8.ofNat (48 + n % 10)).toNat = 48 + n % 10 := by rw [UInt8.toNat_ofNat']; omega
  have u2 : (UInt8.ofNat (48 + n / 10)).toNat = 48 + n / 10 := by rw [UInt8.toNat_ofNat']; omega
  refine ⟨?_, ?_⟩
  · simp only [idxSA_str, c1, if_true, Int.toNat_natCast, hs.1, Option.map_some, u1]
  · simp only [idxSA_str, c2, if_true, Int.toNat_natCast, hs.2, Option.map_some, u2]

/-! ### how long -/
theorem shr_u64 {a k : Nat} (hk : k < 64) : binA .shr .no (.int .u64 (a : Nat)) (.int .u64 (k : Nat)) = some (.int .u64 ((a / 2 ^ k : Nat) : Int)) := by
  have h1 : min ((k : Nat) : Int).toNat IntKind.u64.bits = k := by
    have : IntKind.u64.bits = 64 := rfl
    rw [this, Int.toNat_natCast]
    omega
  have h2 : ((a : Nat) : Int).fdiv (2 ^ k) = ((a / 2 ^ k : Nat) : Int) := by
    rw [Int.fdiv_eq_ediv_of_nonneg _ (Int.le_of_lt (Int.pow_pos (by decide)))]
    simp
  have : binA .shr .no (.int .u64 (a : Nat)) (.int .u64 (k : Nat)) = shft .shr .u64 (a : Nat) (k : Nat) := by simp [binA]
  rw [this]
  have hk0 : ¬ ((k : Nat) : Int) < 0 := by omega
  simp only [shft, h1, h2, hk0, if_false]

theorem log2_div {a k : Nat} (h : 2 ^ k ≤ a) : Nat.log2 (a / 2 ^ k) + k = Nat.log2 a := by
  induction k generalizing a with
  | zero => simp
  | succ k ih =>
    have h2 : 2 ^ (k + 1) = 2 ^ k * 2 := Nat.pow_succ ..
    have hp := Nat.two_pow_pos k
    have ha : 2 ≤ a := by omega
    rw [h2, ← Nat.div_div_eq_div_mul]
    have h3 : 2 ≤ a / 2 ^ k := by rw [Nat.le_div_iff_mul_le hp]; omega
    have h4 := ih (a := a) (by omega)
    have h5 : Nat.log2 (a / 2 ^ k) = Nat.log2 (a / 2 ^ k / 2) + 1 := by
      conv => lhs; rw [Nat.log2_def]
      rw [if_pos h3]
    omega

theorem res102 : rf102.results = [(.t 2)] := rfl

set_option maxRecDepth 8000 in
theorem len64_ok {h : AH} {u : Nat} (k1 : 1 ≤ u) (k2 : u < 2 ^ 64) : C prg 102 [.int .u64 (u : Nat)] h fun v h' => v = .int .i64 ((Nat.log2 u + 1 : Nat) : Int) ∧ h' = h := by
  refine C.func pf102 ?_
  refine W.seq (W.runs (fun ts h1 => h1 = h ∧ tget ts 0 = .int .u64 (u : Nat) ∧ tget ts 2 = .int .i64 ((0 : Nat) : Int)) ?_ fun ts h1 ⟨eh, e0, e2⟩ => ?_)
  · simp only [ckR_nil, evN_none, stps_nil, stps_cons, stp_some, putR_some, gd_true, wanted_none, dput_some, ev_c, okR_some, evOp, tget_tput, ↓reduceIte, reduceCtorEq, true_and, initTm]
    simp
  subst eh
  have s32 := shr_u64 (a := u) (k := 32) (by decide)
  refine W.seq (W.cut (fun ts h2 => h2 = h1 ∧ ∃ a n, 1 ≤ a ∧ a < 2 ^ 32 ∧ Nat.log2 a + n = Nat.log2 u ∧ n ≤ 32 ∧ tget ts 0 = .int .u64 (a : Nat) ∧ tget ts 2 = .int .i64 (n : Nat)) (W.seq (W.runs (fun ts h2 => h2 = h1 ∧ tget ts 0 = .int .u64 (u : Nat) ∧ tget ts 2 = .int .i64 ((0 : Nat) : Int) ∧ tget ts 4 = .bool (decide (4294967296 ≤ u))) ?_ fun ts h2 ⟨eh, e0, e2, e4⟩ => W.cond e4 (fun hc => ?_) fun hc => W.skip ?_)) fun ts h2 ⟨eh, a, n, a1, a2, a3, a4, e0, e2⟩ => ?_)
  · have : decide ((4294967296 : Int) ≤ (u : Nat)) = decide (4294967296 ≤ u) := by simp only [decide_eq_decide]; omega
    simp only [ckR_nil, evN_none, stps_nil, stps_cons, stp_some, putR_some, gd_true, wanted_none, dput_some, ev_t, ev_c, okR_some, evOp, tget_tput, bin_geq, ↓reduceIte, Nat.reduceEqDiff, Option.map_some, reduceCtorEq, and_self, e0, e2, this]
  · simp only [decide_eq_true_eq] at hc
    subst eh
    have s32' : binA .shr .no (.int .u64 (u : Nat)) (.int .u64 32) = some (.int .u64 ((u / 2 ^ 32 : Nat) : Int)) := s32
    refine W.seq (W.runs (fun ts h3 => h3 = h2 ∧ tget ts 0 = .int .u64 ((u / 2 ^ 32 : Nat) : Int)) ?_ fun ts h3 ⟨eh, e0⟩ => ?_)
    · generalize ((u / 2 ^ 32 : Nat) : Int) = q at *
      simp only [ckR_nil, evN_none, stps_nil, stps_cons, stp_some, putR_some, gd_true, wanted_none, dput_some, ev_t, ev_c, okR_some, evOp, tget_tput, ↓reduceIte, Option.map_some, and_self, e0, s32']
    subst eh
    refine W.runs (fun ts h4 => h4 = h3 ∧ tget ts 0 = .int .u64 ((u / 2 ^ 32 : Nat) : Int) ∧ tget ts 2 = .int .i64 ((32 : Nat) : Int)) ?_ fun ts h4 ⟨eh, e0, e2⟩ => ⟨eh, u / 2 ^ 32, 32, by omega, by omega, log2_div (k := 32) (by omega), by omega, e0, e2⟩
    generalize ((u / 2 ^ 32 : Nat) : Int) = q at *
    simp only [ckR_nil, evN_none, stps_nil, stps_cons, stp_some, putR_some, gd_true, wanted_none, dput_some, ev_c, okR_some, evOp, tget_tput, ↓reduceIte, reduceCtorEq, true_and, e0]
    simp
  · simp only [decide_eq_false_iff_not] at hc
    exact ⟨eh, u, 0, k1, by omega, rfl, by omega, e0, e2⟩
  subst eh
  have s16 := shr_u64 (a := a) (k := 16) (by decide)
  refine W.seq (W.cut (fun ts h3 => h3 = h2 ∧ ∃ a n, 1 ≤ a ∧ a < 2 ^ 16 ∧ Nat.log2 a + n = Nat.log2 u ∧ n ≤ 48 ∧ tget ts 0 = .int .u64 (a : Nat) ∧ tget ts 2 = .int .i64 (n : Nat)) (W.seq (W.runs (fun ts h3 => h3 = h2 ∧ tget ts 0 = .int .u64 (a : Nat) ∧ tget ts 2 = .int .i64 (n : Nat) ∧ tget ts 8 = .bool (decide (65536 ≤ a))) ?_ fun ts h3 ⟨eh, e0, e2, e4⟩ => W.cond e4 (fun hc => ?_) fun hc => W.skip ?_)) fun ts h3 ⟨eh, b, m, b1, b2, b3, b4, e0, e2⟩ => ?_)
  · have : decide ((65536 : Int) ≤ (a : Nat)) = decide (65536 ≤ a) := by simp only [decide_eq_decide]; omega
    simp only [ckR_nil, evN_none, stps_nil, stps_cons, stp_some, putR_some, gd_true, wanted_none, dput_some, ev_t, ev_c, okR_some, evOp, tget_tput, bin_geq, ↓reduceIte, Nat.reduceEqDiff, Option.map_some, reduceCtorEq, and_self, e0, e2, this]
  · simp only [decide_eq_true_eq] at hc
    subst eh
    have s16' : binA .shr .no (.int .u64 (a : Nat)) (.int .u64 16) = some (.int .u64 ((a / 2 ^ 16 : Nat) : Int)) := s16
    refine W.seq (W.runs (fun ts h4 => h4 = h3 ∧ tget ts 0 = .int .u64 ((a / 2 ^ 16 : Nat) : Int) ∧ tget ts 2 = .int .i64 (n : Nat)) ?_ fun ts h4 ⟨eh, e0, e2⟩ => ?_)
    · generalize ((a / 2 ^ 16 : Nat) : Int) = q at *
      simp only [ckR_nil, evN_none, stps_nil, stps_cons, stp_some, putR_some, gd_true, wanted_none, dput_some, ev_t, ev_c, okR_some, evOp, tget_tput, ↓reduceIte, Nat.reduceEqDiff, Option.map_some, reduceCtorEq, and_self, e0, e2, s16']
    subst eh
    have w : IntKind.i64.wrap (((n : Nat) : Int) + 16) = ((n + 16 : Nat) : Int) := IntWalk.i64_in _ (by omega)
    have hd := log2_div (a := a) (k := 16) (by omega)
    refine W.runs (fun ts h5 => h5 = h4 ∧ tget ts 0 = .int .u64 ((a / 2 ^ 16 : Nat) : Int) ∧ tget ts 2 = .int .i64 ((n + 16 : Nat) : Int)) ?_ fun ts h5 ⟨eh, e0, e2⟩ => ⟨eh, a / 2 ^ 16, n + 16, by omega, by omega, by omega, by omega, e0, e2⟩
    generalize ((a / 2 ^ 16 : Nat) : Int) = q at *
    simp only [ckR_nil, evN_none, stps_nil, stps_cons, stp_some, putR_some, gd_true, wanted_none, dput_some, ev_t, ev_c, okR_some, evOp, tget_tput, bin_add, ↓reduceIte, Option.map_some, reduceCtorEq, and_self, e0, e2, w]
  · simp only [decide_eq_false_iff_not] at hc
    exact ⟨eh, a, n, a1, by omega, a3, by omega, e0, e2⟩
  subst eh
  have s8 := shr_u64 (a := b) (k := 8) (by decide)
  refine W.seq (W.cut (fun ts h4 => h4 = h3 ∧ ∃ a n, 1 ≤ a ∧ a < 2 ^ 8 ∧ Nat.log2 a + n = Nat.log2 u ∧ n ≤ 56 ∧ tget ts 0 = .int .u64 (a : Nat) ∧ tget ts 2 = .int .i64 (n : Nat)) (W.seq (W.runs (fun ts h4 => h4 = h3 ∧ tget ts 0 = .int .u64 (b : Nat) ∧ tget ts 2 = .int .i64 (m : Nat) ∧ tget ts 14 = .bool (decide (256 ≤ b))) ?_ fun ts h4 ⟨eh, e0, e2, e4⟩ => W.cond e4 (fun hc => ?_) fun hc => W.skip ?_)) fun ts h4 ⟨eh, c, k, c1, c2, c3, c4, e0, e2⟩ => ?_)
  · have : decide ((256 : Int) ≤ (b : Nat)) = decide (256 ≤ b) := by simp only [decide_eq_decide]; omega
    simp only [ckR_nil, evN_none, stps_nil, stps_cons, stp_some, putR_some, gd_true, wanted_none, dput_some, ev_t, ev_c, okR_some, evOp, tget_tput, bin_geq, ↓reduceIte, Nat.reduceEqDiff, Option.map_some, reduceCtorEq, and_self, e0, e2, this]
  · simp only [decide_eq_true_eq] at hc
    subst eh
    have s8' : binA .shr .no (.int .u64 (b : Nat)) (.int .u64 8) = some (.int .u64 ((b / 2 ^ 8 : Nat) : Int)) := s8
    refine W.seq (W.runs (fun ts h5 => h5 = h4 ∧ tget ts 0 = .int .u64 ((b / 2 ^ 8 : Nat) : Int) ∧ tget ts 2 = .int .i64 (m : Nat)) ?_ fun ts h5 ⟨eh, e0, e2⟩ => ?_)
    · generalize ((b / 2 ^ 8 : Nat) : Int) = q at *
      simp only [ckR_nil, evN_none, stps_nil, stps_cons, stp_some, putR_some, gd_true, wanted_none, dput_some, ev_t, ev_c, okR_some, evOp, tget_tput, ↓reduceIte, Nat.reduceEqDiff, Option.map_some, reduceCtorEq, and_self, e0, e2, s8']
    subst eh
    have w : IntKind.i64.wrap (((m : Nat) : Int) + 8) = ((m + 8 : Nat) : Int) := IntWalk.i64_in _ (by omega)
    have hd := log2_div (a := b) (k := 8) (by omega)
    refine W.runs (fun ts h6 => h6 = h5 ∧ tget ts 0 = .int .u64 ((b / 2 ^ 8 : Nat) : Int) ∧ tget ts 2 = .int .i64 ((m + 8 : Nat) : Int)) ?_ fun ts h6 ⟨eh, e0, e2⟩ => ⟨eh, b / 2 ^ 8, m + 8, by omega, by omega, by omega, by omega, e0, e2⟩
    generalize ((b / 2 ^ 8 : Nat) : Int) = q at *
    simp only [ckR_nil, evN_none, stps_nil, stps_cons, stp_some, putR_some, gd_true, wanted_none, dput_some, ev_t, ev_c, okR_some, evOp, tget_tput, bin_add, ↓reduceIte, Option.map_some, reduceCtorEq, and_self, e0, e2, w]
  · simp only [decide_eq_false_iff_not] at hc
    exact ⟨eh, b, m, b1, by omega, b3, by omega, e0, e2⟩
  subst eh
  have w1 : IntKind.u8.wrap ((c : Nat) : Int) = (c : Nat) := IntWalk.u8_in _ (by omega)
  have hx := idx_len8 c1 (by omega)
  have hl := log2_lt8 (show c < 256 by omega)
  have w2 : IntKind.i64.wrap ((Nat.log2 c + 1 : Nat) : Int) = ((Nat.log2 c + 1 : Nat) : Int) := IntWalk.i64_in _ (by omega)
  have w3 : IntKind.i64.wrap (((k : Nat) : Int) + ((Nat.log2 c + 1 : Nat) : Int)) = ((Nat.log2 u + 1 : Nat) : Int) := by rw [IntWalk.i64_in _ (by omega)]; omega
  refine W.seq (W.runs (fun ts h5 => h5 = h4 ∧ tget ts 2 = .int .i64 ((Nat.log2 u + 1 : Nat) : Int)) ?_ fun ts h5 ⟨eh, e2⟩ => W.ret ⟨_, by simp only [Am.results, rdAll, res102, rdRes, e2], rfl, eh⟩)
  generalize ((Nat.log2 c + 1 : Nat) : Int) = q at *
  generalize ((Nat.log2 u + 1 : Nat) : Int) = q2 at *
  simp only [ckR_nil, evN_none, stps_nil, stps_cons, stp_some, putR_some, gd_true, wanted_none, dput_some, ev_t, ev_c, okR_some, evOp, tget_tput, bin_add, cvIA_int, ↓reduceIte, Nat.reduceEqDiff, Option.map_some, reduceCtorEq, and_self, e0, e2, w1, hx, w2, w3]

end Go.Proofs.YtjcbcmonmmfllaaGreatDoor
