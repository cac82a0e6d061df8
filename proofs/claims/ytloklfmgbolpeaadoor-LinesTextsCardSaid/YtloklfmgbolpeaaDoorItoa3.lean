/-
  strconv.Itoa of numbers of three digits, up to 128.
-/
import Derived.Test.YtloklfmgbolpeaaDoorItoa
namespace Go.Proofs.YtloklfmgbolpeaaDoor
set_option linter.unusedVariables false
set_option linter.unusedSimpArgs false
open Go.Am

/-- The table of the powers of ten, as it lies in memory. -/
def powZ : List Int := [1, 10, 100, 1000, 10000, 100000, 1000000, 10000000, 100000000, 1000000000, 10000000000, 100000000000, 1000000000000, 10000000000000, 100000000000000, 1000000000000000, 10000000000000000, 100000000000000000, 1000000000000000000, 10000000000000000000]

def pow10 : List AV := powZ.map (AV.int .u64)

theorem tb1 : ((List.range 29).all fun n => ([0, 1, 2, 2, 3, 3, 3, 3, 4, 4, 4, 4, 4, 4, 4, 4, 5, 5, 5, 5, 5, 5, 5, 5, 5, 5, 5, 5, 5, 5, 5, 5, 6, 6, 6, 6, 6, 6, 6, 6, 6, 6, 6, 6, 6, 6, 6, 6, 6, 6, 6, 6, 6, 6, 6, 6, 6, 6, 6, 6, 6, 6, 6, 6, 7, 7, 7, 7, 7, 7, 7, 7, 7, 7, 7, 7, 7, 7, 7, 7, 7, 7, 7, 7, 7, 7, 7, 7, 7, 7, 7, 7, 7, 7, 7, 7, 7, 7, 7, 7, 7, 7, 7, 7, 7, 7, 7, 7, 7, 7, 7, 7, 7, 7, 7, 7, 7, 7, 7, 7, 7, 7, 7, 7, 7, 7, 7, 7, 8, 8, 8, 8, 8, 8, 8, 8, 8, 8, 8, 8, 8, 8, 8, 8, 8, 8, 8, 8, 8, 8, 8, 8, 8, 8, 8, 8, 8, 8, 8, 8, 8, 8, 8, 8, 8, 8, 8, 8, 8, 8, 8, 8, 8, 8, 8, 8, 8, 8, 8, 8, 8, 8, 8, 8, 8, 8, 8, 8, 8, 8, 8, 8, 8, 8, 8, 8, 8, 8, 8, 8, 8, 8, 8, 8, 8, 8, 8, 8, 8, 8, 8, 8, 8, 8, 8, 8, 8, 8, 8, 8, 8, 8, 8, 8, 8, 8, 8, 8, 8, 8, 8, 8, 8, 8, 8, 8, 8, 8, 8, 8, 8, 8, 8, 8, 8, 8, 8, 8, 8, 8, 8, 8, 8, 8, 8, 8] : List UInt8)[n + 100]? == some (if n + 100 < 128 then 7 else 8)) = true := by decide +kernel

set_option maxRecDepth 4000 in
theorem idx_len8 {n : Nat} (h1 : 100 ≤ n) (h2 : n ≤ 128) : idxSA (.str [0, 1, 2, 2, 3, 3, 3, 3, 4, 4, 4, 4, 4, 4, 4, 4, 5, 5, 5, 5, 5, 5, 5, 5, 5, 5, 5, 5, 5, 5, 5, 5, 6, 6, 6, 6, 6, 6, 6, 6, 6, 6, 6, 6, 6, 6, 6, 6, 6, 6, 6, 6, 6, 6, 6, 6, 6, 6, 6, 6, 6, 6, 6, 6, 7, 7, 7, 7, 7, 7, 7, 7, 7, 7, 7, 7, 7, 7, 7, 7, 7, 7, 7, 7, 7, 7, 7, 7, 7, 7, 7, 7, 7, 7, 7, 7, 7, 7, 7, 7, 7, 7, 7, 7, 7, 7, 7, 7, 7, 7, 7, 7, 7, 7, 7, 7, 7, 7, 7, 7, 7, 7, 7, 7, 7, 7, 7, 7, 8, 8, 8, 8, 8, 8, 8, 8, 8, 8, 8, 8, 8, 8, 8, 8, 8, 8, 8, 8, 8, 8, 8, 8, 8, 8, 8, 8, 8, 8, 8, 8, 8, 8, 8, 8, 8, 8, 8, 8, 8, 8, 8, 8, 8, 8, 8, 8, 8, 8, 8, 8, 8, 8, 8, 8, 8, 8, 8, 8, 8, 8, 8, 8, 8, 8, 8, 8, 8, 8, 8, 8, 8, 8, 8, 8, 8, 8, 8, 8, 8, 8, 8, 8, 8, 8, 8, 8, 8, 8, 8, 8, 8, 8, 8, 8, 8, 8, 8, 8, 8, 8, 8, 8, 8, 8, 8, 8, 8, 8, 8, 8, 8, 8, 8, 8, 8, 8, 8, 8, 8, 8, 8, 8, 8, 8, 8, 8]) (.int .u8 (n : Nat)) = some (.int .u8 (if n < 128 then 7 else 8)) := by
  have hs := List.all_eq_true.1 tb1 (n - 100) (List.mem_range.2 (by omega))
  have e0 : n - 100 + 100 = n := by omega
  rw [e0, beq_iff_eq] at hs
  have c : (0 : Int) ≤ (n : Nat) := by omega
  simp only [idxSA_str, c, if_true, Int.toNat_natCast, hs, Option.map_some]
  by_cases q : n < 128 <;> simp [q]

theorem sm3 : ((List.range 100).all fun n => (([48, 48, 48, 49, 48, 50, 48, 51, 48, 52, 48, 53, 48, 54, 48, 55, 48, 56, 48, 57, 49, 48, 49, 49, 49, 50, 49, 51, 49, 52, 49, 53, 49, 54, 49, 55, 49, 56, 49, 57, 50, 48, 50, 49, 50, 50, 50, 51, 50, 52, 50, 53, 50, 54, 50, 55, 50, 56, 50, 57, 51, 48, 51, 49, 51, 50, 51, 51, 51, 52, 51, 53, 51, 54, 51, 55, 51, 56, 51, 57, 52, 48, 52, 49, 52, 50, 52, 51, 52, 52, 52, 53, 52, 54, 52, 55, 52, 56, 52, 57, 53, 48, 53, 49, 53, 50, 53, 51, 53, 52, 53, 53, 53, 54, 53, 55, 53, 56, 53, 57, 54, 48, 54, 49, 54, 50, 54, 51, 54, 52, 54, 53, 54, 54, 54, 55, 54, 56, 54, 57, 55, 48, 55, 49, 55, 50, 55, 51, 55, 52, 55, 53, 55, 54, 55, 55, 55, 56, 55, 57, 56, 48, 56, 49, 56, 50, 56, 51, 56, 52, 56, 53, 56, 54, 56, 55, 56, 56, 56, 57, 57, 48, 57, 49, 57, 50, 57, 51, 57, 52, 57, 53, 57, 54, 57, 55, 57, 56, 57, 57] : List UInt8)[2 * n + 1]? == some (UInt8.ofNat (48 + n % 10))) && (([48, 48, 48, 49, 48, 50, 48, 51, 48, 52, 48, 53, 48, 54, 48, 55, 48, 56, 48, 57, 49, 48, 49, 49, 49, 50, 49, 51, 49, 52, 49, 53, 49, 54, 49, 55, 49, 56, 49, 57, 50, 48, 50, 49, 50, 50, 50, 51, 50, 52, 50, 53, 50, 54, 50, 55, 50, 56, 50, 57, 51, 48, 51, 49, 51, 50, 51, 51, 51, 52, 51, 53, 51, 54, 51, 55, 51, 56, 51, 57, 52, 48, 52, 49, 52, 50, 52, 51, 52, 52, 52, 53, 52, 54, 52, 55, 52, 56, 52, 57, 53, 48, 53, 49, 53, 50, 53, 51, 53, 52, 53, 53, 53, 54, 53, 55, 53, 56, 53, 57, 54, 48, 54, 49, 54, 50, 54, 51, 54, 52, 54, 53, 54, 54, 54, 55, 54, 56, 54, 57, 55, 48, 55, 49, 55, 50, 55, 51, 55, 52, 55, 53, 55, 54, 55, 55, 55, 56, 55, 57, 56, 48, 56, 49, 56, 50, 56, 51, 56, 52, 56, 53, 56, 54, 56, 55, 56, 56, 56, 57, 57, 48, 57, 49, 57, 50, 57, 51, 57, 52, 57, 53, 57, 54, 57, 55, 57, 56, 57, 57] : List UInt8)[2 * n]? == some (UInt8.ofNat (48 + n / 10)))) = true := by decide +kernel

set_option maxRecDepth 4000 in
theorem idx_sm {n : Nat} (h : n < 100) {k1 k2 : Int} (e1 : k1 = (2 * n + 1 : Nat)) (e2 : k2 = (2 * n : Nat)) :
    idxSA (.str [48, 48, 48, 49, 48, 50, 48, 51, 48, 52, 48, 53, 48, 54, 48, 55, 48, 56, 48, 57, 49, 48, 49, 49, 49, 50, 49, 51, 49, 52, 49, 53, 49, 54, 49, 55, 49, 56, 49, 57, 50, 48, 50, 49, 50, 50, 50, 51, 50, 52, 50, 53, 50, 54, 50, 55, 50, 56, 50, 57, 51, 48, 51, 49, 51, 50, 51, 51, 51, 52, 51, 53, 51, 54, 51, 55, 51, 56, 51, 57, 52, 48, 52, 49, 52, 50, 52, 51, 52, 52, 52, 53, 52, 54, 52, 55, 52, 56, 52, 57, 53, 48, 53, 49, 53, 50, 53, 51, 53, 52, 53, 53, 53, 54, 53, 55, 53, 56, 53, 57, 54, 48, 54, 49, 54, 50, 54, 51, 54, 52, 54, 53, 54, 54, 54, 55, 54, 56, 54, 57, 55, 48, 55, 49, 55, 50, 55, 51, 55, 52, 55, 53, 55, 54, 55, 55, 55, 56, 55, 57, 56, 48, 56, 49, 56, 50, 56, 51, 56, 52, 56, 53, 56, 54, 56, 55, 56, 56, 56, 57, 57, 48, 57, 49, 57, 50, 57, 51, 57, 52, 57, 53, 57, 54, 57, 55, 57, 56, 57, 57]) (.int .u32 k1) = some (.int .u8 ((48 + n % 10 : Nat) : Int)) ∧
    idxSA (.str [48, 48, 48, 49, 48, 50, 48, 51, 48, 52, 48, 53, 48, 54, 48, 55, 48, 56, 48, 57, 49, 48, 49, 49, 49, 50, 49, 51, 49, 52, 49, 53, 49, 54, 49, 55, 49, 56, 49, 57, 50, 48, 50, 49, 50, 50, 50, 51, 50, 52, 50, 53, 50, 54, 50, 55, 50, 56, 50, 57, 51, 48, 51, 49, 51, 50, 51, 51, 51, 52, 51, 53, 51, 54, 51, 55, 51, 56, 51, 57, 52, 48, 52, 49, 52, 50, 52, 51, 52, 52, 52, 53, 52, 54, 52, 55, 52, 56, 52, 57, 53, 48, 53, 49, 53, 50, 53, 51, 53, 52, 53, 53, 53, 54, 53, 55, 53, 56, 53, 57, 54, 48, 54, 49, 54, 50, 54, 51, 54, 52, 54, 53, 54, 54, 54, 55, 54, 56, 54, 57, 55, 48, 55, 49, 55, 50, 55, 51, 55, 52, 55, 53, 55, 54, 55, 55, 55, 56, 55, 57, 56, 48, 56, 49, 56, 50, 56, 51, 56, 52, 56, 53, 56, 54, 56, 55, 56, 56, 56, 57, 57, 48, 57, 49, 57, 50, 57, 51, 57, 52, 57, 53, 57, 54, 57, 55, 57, 56, 57, 57]) (.int .u32 k2) = some (.int .u8 ((48 + n / 10 : Nat) : Int)) := by
  have hs := List.all_eq_true.1 sm3 n (List.mem_range.2 h)
  rw [Bool.and_eq_true, beq_iff_eq, beq_iff_eq] at hs
  subst e1 e2
  have c1 : (0 : Int) ≤ (2 * n + 1 : Nat) := by omega
  have c2 : (0 : Int) ≤ (2 * n : Nat) := by omega
  have u1 : (UInt8.ofNat (48 + n % 10)).toNat = 48 + n % 10 := by rw [UInt8.toNat_ofNat']; omega
  have u2 : (UInt8.ofNat (48 + n / 10)).toNat = 48 + n / 10 := by rw [UInt8.toNat_ofNat']; omega
  refine ⟨?_, ?_⟩
  · simp only [idxSA_str, c1, if_true, Int.toNat_natCast, hs.1, Option.map_some, u1]
  · simp only [idxSA_str, c2, if_true, Int.toNat_natCast, hs.2, Option.map_some, u2]

theorem res36 : rf36.results = [(.t 2)] := rfl

set_option maxRecDepth 8000 in
theorem len8_ok {h : AH} {n : Nat} (h1 : 100 ≤ n) (h2 : n ≤ 128) : C prg 36 [.int .u64 (n : Nat)] h fun v h' => v = .int .i64 (if n < 128 then 7 else 8) ∧ h' = h := by
  refine C.func pf36 ?_
  refine W.seq (W.runs (fun ts h1 => h1 = h ∧ tget ts 0 = .int .u64 (n : Nat) ∧ tget ts 2 = .int .i64 0) ?_ fun ts h1 ⟨eh, e0, e2⟩ => ?_)
  · simp only [ckR_nil, evN_none, stps_nil, stps_cons, stp_some, putR_some, gd_true, wanted_none, dput_some, ev_c, okR_some, evOp, tget_tput, ↓reduceIte, reduceCtorEq, and_self, initTm]
  subst eh
  have d1 : decide ((4294967296 : Int) ≤ (n : Nat)) = false := decide_eq_false (by omega)
  have d2 : decide ((65536 : Int) ≤ (n : Nat)) = false := decide_eq_false (by omega)
  have d3 : decide ((256 : Int) ≤ (n : Nat)) = false := decide_eq_false (by omega)
  refine W.seq (W.seq (W.runs (fun ts h2 => h2 = h1 ∧ tget ts 0 = .int .u64 (n : Nat) ∧ tget ts 2 = .int .i64 0 ∧ tget ts 4 = .bool false) ?_ fun ts h2 ⟨eh, e0, e2, e4⟩ => W.no e4 (W.skip ?_)))
  · simp only [ckR_nil, evN_none, stps_nil, stps_cons, stp_some, putR_some, gd_true, wanted_none, dput_some, ev_t, ev_c, okR_some, evOp, tget_tput, bin_geq, ↓reduceIte, Nat.reduceEqDiff, Option.map_some, reduceCtorEq, and_self, e0, e2, d1]
  subst eh
  refine W.seq (W.seq (W.runs (fun ts h3 => h3 = h2 ∧ tget ts 0 = .int .u64 (n : Nat) ∧ tget ts 2 = .int .i64 0 ∧ tget ts 8 = .bool false) ?_ fun ts h3 ⟨eh, e0, e2, e4⟩ => W.no e4 (W.skip ?_)))
  · simp only [ckR_nil, evN_none, stps_nil, stps_cons, stp_some, putR_some, gd_true, wanted_none, dput_some, ev_t, ev_c, okR_some, evOp, tget_tput, bin_geq, ↓reduceIte, Nat.reduceEqDiff, Option.map_some, reduceCtorEq, and_self, e0, e2, d2]
  subst eh
  refine W.seq (W.seq (W.runs (fun ts h4 => h4 = h3 ∧ tget ts 0 = .int .u64 (n : Nat) ∧ tget ts 2 = .int .i64 0 ∧ tget ts 14 = .bool false) ?_ fun ts h4 ⟨eh, e0, e2, e4⟩ => W.no e4 (W.skip ?_)))
  · simp only [ckR_nil, evN_none, stps_nil, stps_cons, stp_some, putR_some, gd_true, wanted_none, dput_some, ev_t, ev_c, okR_some, evOp, tget_tput, bin_geq, ↓reduceIte, Nat.reduceEqDiff, Option.map_some, reduceCtorEq, and_self, e0, e2, d3]
  subst eh
  have w1 : IntKind.u8.wrap ((n : Nat) : Int) = (n : Nat) := IntWalk.u8_in _ (by omega)
  have hx := idx_len8 h1 h2
  have w2 : IntKind.i64.wrap (if n < 128 then 7 else 8) = (if n < 128 then 7 else 8) := by split <;> decide
  refine W.seq (W.runs (fun ts h5 => h5 = h4 ∧ tget ts 2 = .int .i64 (if n < 128 then 7 else 8)) ?_ fun ts h5 ⟨eh, e2⟩ => W.ret ⟨_, by simp only [Am.results, rdAll, res36, rdRes, e2], rfl, eh⟩)
  have w3 : (((if n < 128 then (7 : Int) else 8)).toNat : Int) = (if n < 128 then 7 else 8) := by split <;> rfl
  have w4 : IntKind.i64.wrap (0 + (if n < 128 then 7 else 8)) = (if n < 128 then 7 else 8) := by split <;> decide
  generalize hq : (if n < 128 then (7 : Int) else 8) = q at *
  simp only [ckR_nil, evN_none, stps_nil, stps_cons, stp_some, putR_some, gd_true, wanted_none, dput_some, ev_t, ev_c, okR_some, evOp, tget_tput, bin_add, cvIA_int, ↓reduceIte, Nat.reduceEqDiff, Option.map_some, reduceCtorEq, and_self, e0, e2, w1, hx, w2, w4]

/-- about the logarithm -/
theorem log10_ok {h : AH} {m : Int} (hm : m = 7 ∨ m = 8) : C prg 35 [.int .i64 m] h fun v h' => v = .int .i64 2 ∧ h' = h := by
  refine C.func pf35 ?_
  refine W.seq (W.runs (fun ts h1 => h1 = h ∧ tget ts 0 = .int .i64 m) ?_ fun ts h1 ⟨eh, e0⟩ => ?_)
  · simp only [ckR_nil, evN_none, stps_nil, stps_cons, stp_some, putR_some, gd_true, wanted_none, dput_some, ev_c, okR_some, evOp, tget_tput, ↓reduceIte, reduceCtorEq, and_self, initTm]
  subst eh
  have hb : binA .shr .no (.int .i64 (IntKind.i64.wrap (m * 78913))) (.int .u64 18) = some (.int .i64 2) := by rcases hm with rfl | rfl <;> rfl
  refine W.seq (W.runs (fun ts h5 => h5 = h1 ∧ tget ts 2 = .int .i64 2) ?_ fun ts h5 ⟨eh, e2⟩ => W.ret ⟨_, by simp only [Am.results, rdAll, rdRes, e2, rf35], rfl, eh⟩)
  simp only [ckR_nil, evN_none, stps_nil, stps_cons, stp_some, putR_some, gd_true, wanted_none, dput_some, ev_t, ev_c, okR_some, evOp, tget_tput, bin_mul, ↓reduceIte, Option.map_some, and_self, e0, hb]

theorem b2i_ok {h : AH} : C prg 37 [.bool true] h fun v h' => v = .int .i64 1 ∧ h' = h := by
  refine C.func pf37 ?_
  refine W.seq (W.runs (fun ts h1 => h1 = h ∧ tget ts 0 = .bool true) ?_ fun ts h1 ⟨eh, e0⟩ => ?_)
  · simp only [ckR_nil, evN_none, stps_nil, stps_cons, stp_some, putR_some, gd_true, wanted_none, dput_some, ev_c, okR_some, evOp, tget_tput, ↓reduceIte, reduceCtorEq, and_self, initTm]
  subst eh
  refine W.seq (W.seq (W.runs (fun ts h2 => h2 = h1 ∧ tget ts 3 = .bool true) ?_ fun ts h2 ⟨eh, e3⟩ => W.yes e3 ?_))
  · simp only [ckR_nil, evN_none, stps_nil, stps_cons, stp_some, putR_some, gd_true, wanted_none, dput_some, ev_t, okR_some, evOp, tget_tput, ↓reduceIte, and_self, e0]
  subst eh
  refine W.seq (W.runs (fun ts h5 => h5 = h2 ∧ tget ts 2 = .int .i64 1) ?_ fun ts h5 ⟨eh, e2⟩ => W.ret ⟨_, by simp only [Am.results, rdAll, rdRes, e2, rf37], rfl, eh⟩)
  simp only [ckR_nil, evN_none, stps_nil, stps_cons, stp_some, putR_some, gd_true, wanted_none, dput_some, ev_c, okR_some, evOp, tget_tput, ↓reduceIte, and_self]

theorem ev_gl {ts : Tm} {n : Nat} : RO.ev ts (.gl n) = .ptr n 0 := rfl

theorem digits_ok {h : AH} {n : Nat} (k1 : 100 ≤ n) (k2 : n ≤ 128) (hg : ∃ ro, h.get 0 = some (.cells pow10 1 ro)) : C prg 31 [.int .u64 (n : Nat)] h fun v h' => v = .int .i64 3 ∧ h' = h := by
  obtain ⟨ro, hg⟩ := hg
  refine C.func pf31 ?_
  refine W.seq (W.runs (fun ts h1 => h1 = h ∧ tget ts 0 = .int .u64 (n : Nat)) ?_ fun ts h1 ⟨eh, e0⟩ => ?_)
  · simp only [ckR_nil, evN_none, stps_nil, stps_cons, stp_some, putR_some, gd_true, wanted_none, dput_some, ev_c, okR_some, evOp, tget_tput, ↓reduceIte, reduceCtorEq, and_self, initTm]
  subst eh
  refine W.seq (W.calls (fun ts h2 => h2 = h1 ∧ tget ts 0 = .int .u64 (n : Nat) ∧ tget ts 3 = .int .i64 2) ?_ fun ts h2 ⟨eh, e0, e3⟩ => ?_)
  · refine G.op ?_
    simp only [ckR_nil, evN_none, stp_some, putR_some, gd_true, wanted_none, dput_some, ev_t, evOp, e0]
    refine G.call ?_
    simp only [dput_some, ev_t, tget_tput, ↓reduceIte, List.map_cons, List.map_nil]
    refine (len8_ok k1 k2).mono fun v h' ⟨ev, eh⟩ => ?_
    subst ev eh
    refine G.call ?_
    simp only [dput_some, ev_t, tget_tput, ↓reduceIte, List.map_cons, List.map_nil]
    refine (log10_ok (by split <;> simp)).mono fun v h' ⟨ev, eh⟩ => ?_
    subst ev eh
    refine G.op ?_
    simp only [ckR_nil, evN_none, stp_some, putR_some, gd_true, wanted_none, dput_some, ev_t, evOp, tget_tput, ↓reduceIte]
    exact G.done ⟨rfl, by simp only [tget_tput, ↓reduceIte, reduceCtorEq, e0], by simp only [tget_tput, ↓reduceIte]⟩
  subst eh
  have r1 : rdCells h2 0 2 1 = some [.int .u64 100] := by
    rw [rdCells_of hg]
    rfl
  have d1 : decide ((100 : Int) ≤ (n : Nat)) = true := decide_eq_true (by omega)
  have w1 : IntKind.i64.wrap (2 + 1) = 3 := by decide
  refine W.seq (W.calls (fun ts h3 => h3 = h2 ∧ tget ts 2 = .int .i64 3) ?_ fun ts h3 ⟨eh, e2⟩ => W.ret ⟨_, by simp only [Am.results, rdAll, rdRes, e2, rf31], rfl, eh⟩)
  refine G.op (G.op (G.op (G.op (G.op (G.op ?_)))))
  have hi : iadrR 20 1 (.ptr 0 0) (.int .i64 2) = some (.ptr 0 2) := rfl
  simp only [ckR_nil, evN_none, stp_some, putR_some, gd_true, wanted_none, dput_some, ev_t, evOp, tget_tput, loadA_ptr, packA_one, bin_geq, ↓reduceIte, Nat.reduceEqDiff, Option.map_some, reduceCtorEq, e0, e3, ev_gl, hi, r1, d1]
  refine G.call ?_
  simp only [dput_some, ev_t, tget_tput, ↓reduceIte, List.map_cons, List.map_nil]
  refine b2i_ok.mono fun v h' ⟨ev, eh⟩ => ?_
  subst ev eh
  refine G.op (G.op ?_)
  simp only [ckR_nil, evN_none, stp_some, putR_some, gd_true, wanted_none, dput_some, ev_t, evOp, tget_tput, bin_add, ↓reduceIte, Nat.reduceEqDiff, Option.map_some, w1]
  exact G.done ⟨rfl, by simp only [tget_tput, ↓reduceIte]⟩

theorem up1 {h : AH} {s : Nat} {cs : List AV} {o : Nat} {v : AV} (hg : h.get s = some (.cells cs 1 false)) (ho : o < cs.length) : wrCells h s o [v] = some (h.put s (.cells (splice cs o [v]) 1 false)) := by
  rw [wrCells_of hg, if_pos (by simp; omega)]

set_option maxRecDepth 8000 in
theorem fmt_ok {h : AH} {n s : Nat} {r : List AV} (k1 : 100 ≤ n) (k2 : n ≤ 128) (hg : h.get s = some (.cells (.int .u8 0 :: .int .u8 0 :: .int .u8 0 :: .int .u8 0 :: r) 1 false)) :
    C prg 32 [.sl s 1 3 23, .int .u64 (n : Nat)] h fun v h' => v = .tup [] ∧ Upd h h' s (.cells (.int .u8 0 :: .int .u8 ((48 + n / 100 : Nat) : Int) :: .int .u8 ((48 + n % 100 / 10 : Nat) : Int) :: .int .u8 ((48 + n % 100 % 10 : Nat) : Int) :: r) 1 false) := by
  have i2 : iadrL 1 (.sl s 1 3 23) (.int .i64 2) = some (.ptr s 3) := rfl
  have i1 : iadrL 1 (.sl s 1 3 23) (.int .i64 1) = some (.ptr s 2) := rfl
  have i0 : iadrL 1 (.sl s 1 3 23) (.int .i64 0) = some (.ptr s 1) := rfl
  have x1 := up1 (o := 3) (v := .int .u8 ((48 + n % 100 % 10 : Nat) : Int)) hg (by simp)
  have u1 := Upd.put (o := .cells (splice (.int .u8 0 :: .int .u8 0 :: .int .u8 0 :: .int .u8 0 :: r) 3 [.int .u8 ((48 + n % 100 % 10 : Nat) : Int)]) 1 false) hg
  have x2 := up1 (o := 2) (v := .int .u8 ((48 + n % 100 / 10 : Nat) : Int)) u1.get (by simp [splice])
  have u2 := u1.trans (Upd.put (o := .cells (splice (splice (.int .u8 0 :: .int .u8 0 :: .int .u8 0 :: .int .u8 0 :: r) 3 [.int .u8 ((48 + n % 100 % 10 : Nat) : Int)]) 2 [.int .u8 ((48 + n % 100 / 10 : Nat) : Int)]) 1 false) u1.get)
  generalize h.put s (.cells (splice (.int .u8 0 :: .int .u8 0 :: .int .u8 0 :: .int .u8 0 :: r) 3 [.int .u8 ((48 + n % 100 % 10 : Nat) : Int)]) 1 false) = ha at *
  generalize ha.put s (.cells (splice (splice (.int .u8 0 :: .int .u8 0 :: .int .u8 0 :: .int .u8 0 :: r) 3 [.int .u8 ((48 + n % 100 % 10 : Nat) : Int)]) 2 [.int .u8 ((48 + n % 100 / 10 : Nat) : Int)]) 1 false) = hb at *
  have x3 := up1 (o := 1) (v := .int .u8 ((48 + n / 100 : Nat) : Int)) u2.get (by simp [splice])
  have u3 := u2.trans (Upd.put (o := .cells (splice (splice (splice (.int .u8 0 :: .int .u8 0 :: .int .u8 0 :: .int .u8 0 :: r) 3 [.int .u8 ((48 + n % 100 % 10 : Nat) : Int)]) 2 [.int .u8 ((48 + n % 100 / 10 : Nat) : Int)]) 1 [.int .u8 ((48 + n / 100 : Nat) : Int)]) 1 false) u2.get)
  generalize hb.put s (.cells (splice (splice (splice (.int .u8 0 :: .int .u8 0 :: .int .u8 0 :: .int .u8 0 :: r) 3 [.int .u8 ((48 + n % 100 % 10 : Nat) : Int)]) 2 [.int .u8 ((48 + n % 100 / 10 : Nat) : Int)]) 1 [.int .u8 ((48 + n / 100 : Nat) : Int)]) 1 false) = hc at *
  obtain ⟨sa, sb⟩ := idx_sm (n := n % 100) (by omega) (k1 := ((2 * (n % 100) + 1 : Nat) : Int)) (k2 := ((2 * (n % 100) : Nat) : Int)) rfl rfl
  refine C.func pf32 ?_
  refine W.seq (W.runs (fun ts h1 => h1 = h ∧ tget ts 0 = .sl s 1 3 23 ∧ tget ts 1 = .int .u64 (n : Nat) ∧ tget ts 4 = .int .i64 ((3 : Nat) : Int)) ?_ fun ts h1 ⟨eh, e0, e1, e4⟩ => ?_)
  · simp only [ckR_nil, evN_none, stps_nil, stps_cons, stp_some, putR_some, gd_true, wanted_none, dput_some, ev_t, okR_some, evOp, tget_tput, lenLA_sl, ↓reduceIte, Nat.reduceEqDiff, Option.map_some, Nat.zero_add, reduceCtorEq, and_self, initTm]
  subst eh
  refine W.seq (W.cut (fun ts h2 => h2 = h1 ∧ tget ts 0 = .sl s 1 3 23 ∧ tget ts 1 = .int .u64 (n : Nat) ∧ tget ts 4 = .int .i64 ((3 : Nat) : Int)) (W.block (W.loop (fun _ ts h2 => h2 = h1 ∧ tget ts 0 = .sl s 1 3 23 ∧ tget ts 1 = .int .u64 (n : Nat) ∧ tget ts 4 = .int .i64 ((3 : Nat) : Int)) ?_ (n := 0) ⟨rfl, e0, e1, e4⟩)) fun ts h2 ⟨eh, e0, e1, e4⟩ => ?_)
  · clear e0 e1 e4
    rintro _ ts h2 ⟨eh, e0, e1, e4⟩
    subst eh
    have d : decide ((8 : Int) ≤ ((3 : Nat) : Int)) = false := rfl
    refine W.seq (W.seq (W.runs (fun ts h3 => h3 = h2 ∧ tget ts 0 = .sl s 1 3 23 ∧ tget ts 1 = .int .u64 (n : Nat) ∧ tget ts 4 = .int .i64 ((3 : Nat) : Int) ∧ tget ts 20 = .bool false) ?_ fun ts h3 ⟨eh, e0, e1, e4, e20⟩ => W.no e20 (W.exit ⟨fun _ => ⟨eh, e0, e1, e4⟩, fun e => absurd rfl e⟩)))
    simp only [ckR_nil, evN_none, stps_nil, stps_cons, stp_some, putR_some, gd_true, wanted_none, dput_some, ev_t, ev_c, okR_some, evOp, tget_tput, bin_geq, ↓reduceIte, Nat.reduceEqDiff, Option.map_some, reduceCtorEq, and_self, e0, e1, e4, d]
  subst eh
  have w1 : IntKind.u32.wrap ((n : Nat) : Int) = (n : Nat) := IntWalk.u32_in _ (by omega)
  refine W.seq (W.runs (fun ts h3 => h3 = h2 ∧ tget ts 0 = .sl s 1 3 23 ∧ tget ts 12 = .int .u32 (n : Nat) ∧ tget ts 4 = .int .i64 ((3 : Nat) : Int)) ?_ fun ts h3 ⟨eh, e0, e12, e4⟩ => ?_)
  · simp only [ckR_nil, evN_none, stps_nil, stps_cons, stp_some, putR_some, gd_true, wanted_none, dput_some, ev_t, okR_some, evOp, tget_tput, cvIA_int, ↓reduceIte, Nat.reduceEqDiff, Option.map_some, reduceCtorEq, and_self, e0, e1, e4, w1]
  subst eh
  have d2 : decide ((4 : Int) ≤ ((3 : Nat) : Int)) = false := rfl
  refine W.seq (W.seq (W.runs (fun ts h4 => h4 = h3 ∧ tget ts 0 = .sl s 1 3 23 ∧ tget ts 12 = .int .u32 (n : Nat) ∧ tget ts 4 = .int .i64 ((3 : Nat) : Int) ∧ tget ts 99 = .bool false) ?_ fun ts h4 ⟨eh, e0, e12, e4, e99⟩ => W.no e99 (W.skip ?_)))
  · simp only [ckR_nil, evN_none, stps_nil, stps_cons, stp_some, putR_some, gd_true, wanted_none, dput_some, ev_t, ev_c, okR_some, evOp, tget_tput, bin_geq, ↓reduceIte, Nat.reduceEqDiff, Option.map_some, reduceCtorEq, and_self, e0, e12, e4, d2]
  subst eh
  have d3 : decide ((2 : Int) ≤ ((3 : Nat) : Int)) = true := rfl
  refine W.seq (W.cut (fun ts h5 => h5 = hb ∧ tget ts 0 = .sl s 1 3 23 ∧ tget ts 12 = .int .u32 ((n / 100 : Nat) : Int) ∧ tget ts 4 = .int .i64 1) (W.seq (W.runs (fun ts h5 => h5 = h4 ∧ tget ts 0 = .sl s 1 3 23 ∧ tget ts 12 = .int .u32 (n : Nat) ∧ tget ts 4 = .int .i64 ((3 : Nat) : Int) ∧ tget ts 139 = .bool true) ?_ fun ts h5 ⟨eh, e0, e12, e4, e139⟩ => W.yes e139 ?_)) fun ts h5 ⟨eh, e0, e12, e4⟩ => ?_)
  · simp only [ckR_nil, evN_none, stps_nil, stps_cons, stp_some, putR_some, gd_true, wanted_none, dput_some, ev_t, ev_c, okR_some, evOp, tget_tput, bin_geq, ↓reduceIte, Nat.reduceEqDiff, Option.map_some, reduceCtorEq, and_self, e0, e12, e4, d3]
  · subst eh
    have m1 : ((n : Nat) : Int).tmod 100 = ((n % 100 : Nat) : Int) := rfl
    have w2 : IntKind.u32.wrap (((n % 100 : Nat) : Int) * 2) = ((2 * (n % 100) : Nat) : Int) := by rw [IntWalk.u32_in _ (by omega)]; omega
    refine W.seq (W.runs (fun ts h6 => h6 = h5 ∧ tget ts 0 = .sl s 1 3 23 ∧ tget ts 12 = .int .u32 (n : Nat) ∧ tget ts 4 = .int .i64 ((3 : Nat) : Int) ∧ tget ts 16 = .int .u32 ((2 * (n % 100) : Nat) : Int)) ?_ fun ts h6 ⟨eh, e0, e12, e4, e16⟩ => ?_)
    · simp only [ckR_nil, evN_none, stps_nil, stps_cons, stp_some, putR_some, gd_true, wanted_none, dput_some, ev_t, ev_c, okR_some, evOp, tget_tput, bin_mul, bin_rem, ↓reduceIte, Nat.reduceEqDiff, Int.reduceEq, Option.map_some, reduceCtorEq, and_self, e0, e12, e4, m1, w2]
    subst eh
    have w3 : IntKind.u32.wrap (((n : Nat) : Int).tdiv 100) = ((n / 100 : Nat) : Int) := by
      have : ((n : Nat) : Int).tdiv 100 = ((n / 100 : Nat) : Int) := rfl
      rw [this, IntWalk.u32_in _ (by omega)]
    refine W.seq (W.runs (fun ts h7 => h7 = h6 ∧ tget ts 0 = .sl s 1 3 23 ∧ tget ts 12 = .int .u32 ((n / 100 : Nat) : Int) ∧ tget ts 4 = .int .i64 ((3 : Nat) : Int) ∧ tget ts 16 = .int .u32 ((2 * (n % 100) : Nat) : Int)) ?_ fun ts h7 ⟨eh, e0, e12, e4, e16⟩ => ?_)
    · simp only [ckR_nil, evN_none, stps_nil, stps_cons, stp_some, putR_some, gd_true, wanted_none, dput_some, ev_t, ev_c, okR_some, evOp, tget_tput, bin_quo, ↓reduceIte, Nat.reduceEqDiff, Int.reduceEq, Option.map_some, reduceCtorEq, and_self, e0, e12, e4, e16, w3]
    subst eh
    have w4 : IntKind.u32.wrap (((2 * (n % 100) : Nat) : Int) + 1) = ((2 * (n % 100) + 1 : Nat) : Int) := IntWalk.u32_in _ (by omega)
    have w5 : IntKind.i64.wrap (((3 : Nat) : Int) - 1) = 2 := by decide
    have w6 : IntKind.i64.wrap (((3 : Nat) : Int) - 2) = 1 := by decide
    refine W.seq (W.runs (fun ts h8 => h8 = hb ∧ tget ts 0 = .sl s 1 3 23 ∧ tget ts 12 = .int .u32 ((n / 100 : Nat) : Int) ∧ tget ts 4 = .int .i64 ((3 : Nat) : Int)) ?_ fun ts h8 ⟨eh, e0, e12, e4⟩ => ?_)
    · generalize ((2 * (n % 100) : Nat) : Int) = q1 at *
      generalize ((2 * (n % 100) + 1 : Nat) : Int) = q2 at *
      simp only [ckR_nil, evN_none, stps_nil, stps_cons, stp_some, putR_some, gd_true, wanted_none, dput_some, dput_none, ev_t, ev_c, okR_some, evOp, tget_tput, bin_add, bin_sub, storeA_ptr, ↓reduceIte, Nat.reduceEqDiff, Option.map_some, Nat.zero_add, reduceCtorEq, cells_int, one_int, List.length_cons, List.length_nil, List.all_cons, List.all_nil, Bool.and_true, and_self, AV.un, e0, e12, e4, e16, w4, w5, w6, sa, sb, i1, i2, x1, x2]
    subst eh
    refine W.runs (fun ts h9 => h9 = h8 ∧ tget ts 0 = .sl s 1 3 23 ∧ tget ts 12 = .int .u32 ((n / 100 : Nat) : Int) ∧ tget ts 4 = .int .i64 1) ?_ fun ts h9 q => q
    simp only [ckR_nil, evN_none, stps_nil, stps_cons, stp_some, putR_some, gd_true, wanted_none, dput_some, ev_t, ev_c, okR_some, evOp, tget_tput, bin_sub, ↓reduceIte, Nat.reduceEqDiff, Option.map_some, reduceCtorEq, and_self, e0, e12, e4, w6]
  subst eh
  have d4 : decide ((0 : Int) < 1) = true := rfl
  have w7 : IntKind.u32.wrap (48 + ((n / 100 : Nat) : Int)) = ((48 + n / 100 : Nat) : Int) := by rw [IntWalk.u32_in _ (by omega)]; omega
  have w8 : IntKind.u8.wrap ((48 + n / 100 : Nat) : Int) = ((48 + n / 100 : Nat) : Int) := IntWalk.u8_in _ (by omega)
  refine W.seq (W.runs (fun ts h6 => h6 = h5 ∧ tget ts 0 = .sl s 1 3 23 ∧ tget ts 12 = .int .u32 ((n / 100 : Nat) : Int) ∧ tget ts 161 = .bool true) ?_ fun ts h6 ⟨eh, e0, e12, e161⟩ => W.yes e161 ?_)
  · simp only [ckR_nil, evN_none, stps_nil, stps_cons, stp_some, putR_some, gd_true, wanted_none, dput_some, ev_t, ev_c, okR_some, evOp, tget_tput, bin_gtr, ↓reduceIte, Nat.reduceEqDiff, Option.map_some, reduceCtorEq, and_self, e0, e12, e4, d4]
  subst eh
  refine W.runs (fun ts h7 => h7 = hc) ?_ fun ts h7 eh => ⟨_, rfl, rfl, ?_⟩
  · generalize ((n / 100 : Nat) : Int) = q1 at *
    generalize ((48 + n / 100 : Nat) : Int) = q2 at *
    simp only [ckR_nil, evN_none, stps_nil, stps_cons, stp_some, putR_some, gd_true, wanted_none, dput_some, dput_none, ev_t, ev_c, okR_some, evOp, tget_tput, bin_add, cvIA_int, storeA_ptr, ↓reduceIte, Nat.reduceEqDiff, Option.map_some, Nat.zero_add, cells_int, one_int, List.length_cons, List.length_nil, List.all_cons, List.all_nil, Bool.and_true, and_self, AV.un, e0, e12, w7, w8, i0, x3]
  subst eh
  simpa [splice] using u3

theorem dg3 : ((List.range 29).all fun k => [UInt8.ofNat (48 + (k + 100) / 100), UInt8.ofNat (48 + (k + 100) % 100 / 10), UInt8.ofNat (48 + (k + 100) % 100 % 10)] == dgs 20 (k + 100) []) = true := by decide +kernel

theorem bytes3 {n : Nat} (k1 : 100 ≤ n) (k2 : n ≤ 128) : bytesOf [.int .u8 ((48 + n / 100 : Nat) : Int), .int .u8 ((48 + n % 100 / 10 : Nat) : Int), .int .u8 ((48 + n % 100 % 10 : Nat) : Int)] = some (dgs 20 n []) := by
  have hs := List.all_eq_true.1 dg3 (n - 100) (List.mem_range.2 (by omega))
  have e0 : n - 100 + 100 = n := by omega
  rw [e0, beq_iff_eq] at hs
  rw [← hs]
  rfl

def z20 : List AV := [.int .u8 0, .int .u8 0, .int .u8 0, .int .u8 0, .int .u8 0, .int .u8 0, .int .u8 0, .int .u8 0, .int .u8 0, .int .u8 0, .int .u8 0, .int .u8 0, .int .u8 0, .int .u8 0, .int .u8 0, .int .u8 0, .int .u8 0, .int .u8 0, .int .u8 0, .int .u8 0]

theorem slA_13 {ev : RO → AV} {a b : RO} {s : Nat} (h1 : ev a = .int .i64 1) (h2 : ev b = .int .i64 4) : slAA ev 24 1 (.ptr s 0) (some a) (some b) none = some (.sl s 1 3 23) := by
  simp only [slAA, bounds, bnd, h1, h2]
  rfl

theorem format3_ok {h : AH} {n : Nat} (k1 : 100 ≤ n) (k2 : n ≤ 128) (hp : ∃ ro, h.get 0 = some (.cells pow10 1 ro)) (h0 : 0 < h.next) : C prg 28 [.int .i64 (n : Nat), .int .i64 10] h fun v h' => v = .str (dgs 20 n []) ∧ Ext h.next h h' := by
  refine C.func pf28 ?_
  refine W.seq (W.runs (fun ts h1 => h1 = h ∧ tget ts 0 = .int .i64 (n : Nat) ∧ tget ts 1 = .int .i64 10) ?_ fun ts h1 ⟨eh, e0, e1⟩ => ?_)
  · simp only [ckR_nil, evN_none, stps_nil, stps_cons, stp_some, putR_some, gd_true, wanted_none, dput_some, ev_c, okR_some, evOp, tget_tput, ↓reduceIte, Nat.reduceEqDiff, Nat.zero_add, reduceCtorEq, and_self, initTm]
  subst eh
  refine W.seq (W.seq (W.runs (fun ts h2 => h2 = h1 ∧ tget ts 0 = .int .i64 (n : Nat) ∧ tget ts 11 = .bool true) ?_ fun ts h2 ⟨eh, e0, e11⟩ => W.yes e11 ?_))
  · simp only [ckR_nil, evN_none, stps_nil, stps_cons, stp_some, putR_some, gd_true, wanted_none, dput_some, ev_t, ev_c, okR_some, evOp, tget_tput, bin_eql, ↓reduceIte, Option.map_some, reduceCtorEq, and_self, e0, e1, decide_true]
  subst eh
  refine W.seq (W.seq (W.runs (fun ts h3 => h3 = h2 ∧ tget ts 0 = .int .i64 (n : Nat) ∧ tget ts 17 = .bool false) ?_ fun ts h3 ⟨eh, e0, e17⟩ => W.no e17 (W.skip ?_)))
  · have c1 : decide ((0 : Int) ≤ (n : Nat)) = true := by simp
    have c2 : decide (((n : Nat) : Int) < 100) = false := decide_eq_false (by omega)
    simp only [ckR_nil, evN_none, stps_nil, stps_cons, stp_some, putR_some, gd_true, wanted_none, wanted_some, dput_some, ev_t, ev_c, okR_some, evOp, tget_tput, pickA_true, bin_lss, bin_leq, ↓reduceIte, Nat.reduceEqDiff, Option.map_some, beq_true, reduceCtorEq, and_self, e0, c1, c2]
  subst eh
  refine W.seq (W.runs (fun ts h4 => h4.get h3.next = some (.cells (.int .u8 0 :: .int .u8 0 :: .int .u8 0 :: .int .u8 0 :: z20) 1 false) ∧ Ext h3.next h3 h4 ∧ tget ts 0 = .int .i64 (n : Nat) ∧ tget ts 5 = .ptr h3.next 0) ?_ fun ts h4 ⟨g4, x4, e0, e5⟩ => ?_)
  · simp only [ckR_nil, evN_none, stps_nil, stps_cons, stp_some, putR_some, gd_true, wanted_none, dput_some, okR_some, evOp, tget_tput, ↓reduceIte, reduceCtorEq, and_true, and_self, e0]
    exact ⟨by rw [AH.get_new, if_pos rfl]; rfl, Ext.new (Nat.le_refl _)⟩
  have w1 : IntKind.u64.wrap ((n : Nat) : Int) = (n : Nat) := IntWalk.u64_in _ (by omega)
  refine W.seq (W.runs (fun ts h5 => h5 = h4 ∧ tget ts 0 = .int .i64 (n : Nat) ∧ tget ts 5 = .ptr h3.next 0 ∧ tget ts 6 = .int .u64 (n : Nat)) ?_ fun ts h5 ⟨eh, e0, e5, e6⟩ => ?_)
  · simp only [ckR_nil, evN_none, stps_nil, stps_cons, stp_some, putR_some, gd_true, wanted_none, dput_some, ev_t, okR_some, evOp, tget_tput, cvIA_int, ↓reduceIte, Nat.reduceEqDiff, Option.map_some, reduceCtorEq, and_self, e0, e5, w1]
  subst eh
  have c3 : decide (((n : Nat) : Int) < 0) = false := decide_eq_false (by omega)
  refine W.seq (W.seq (W.runs (fun ts h6 => h6 = h5 ∧ tget ts 0 = .int .i64 (n : Nat) ∧ tget ts 5 = .ptr h3.next 0 ∧ tget ts 6 = .int .u64 (n : Nat) ∧ tget ts 23 = .bool false) ?_ fun ts h6 ⟨eh, e0, e5, e6, e23⟩ => W.no e23 (W.skip ?_)))
  · simp only [ckR_nil, evN_none, stps_nil, stps_cons, stp_some, putR_some, gd_true, wanted_none, dput_some, ev_t, ev_c, okR_some, evOp, tget_tput, bin_lss, ↓reduceIte, Nat.reduceEqDiff, Option.map_some, reduceCtorEq, and_self, e0, e5, e6, c3]
  subst eh
  have hp4 : ∃ ro, h6.get 0 = some (.cells pow10 1 ro) := by
    obtain ⟨ro, hp⟩ := hp
    exact ⟨ro, by rw [x4.2 0 h0]; exact hp⟩
  refine W.seq (W.calls (fun ts h7 => h7 = h6 ∧ tget ts 0 = .int .i64 (n : Nat) ∧ tget ts 5 = .ptr h3.next 0 ∧ tget ts 6 = .int .u64 (n : Nat) ∧ tget ts 7 = .int .i64 3) ?_ fun ts h7 ⟨eh, e0, e5, e6, e7⟩ => ?_)
  · refine G.op ?_
    simp only [ckR_nil, evN_none, stp_some, putR_some, gd_true, wanted_none, dput_some, ev_t, evOp, e6]
    refine G.call ?_
    simp only [dput_some, ev_t, tget_tput, ↓reduceIte, List.map_cons, List.map_nil]
    refine (digits_ok k1 k2 hp4).mono fun v h' ⟨ev, eh⟩ => ?_
    subst ev eh
    refine G.op ?_
    simp only [ckR_nil, evN_none, stp_some, putR_some, gd_true, wanted_none, dput_some, ev_t, evOp, tget_tput, ↓reduceIte]
    exact G.done ⟨rfl, by simp only [tget_tput, ↓reduceIte, reduceCtorEq, e0], by simp only [tget_tput, ↓reduceIte, Nat.reduceEqDiff, e5], by simp only [tget_tput, ↓reduceIte, Nat.reduceEqDiff, e6], by simp only [tget_tput, ↓reduceIte]⟩
  subst eh
  have w2 : IntKind.i64.wrap (1 + 3) = 4 := by decide
  refine W.seq (W.calls (fun ts h8 => Upd h7 h8 h3.next (.cells (.int .u8 0 :: .int .u8 ((48 + n / 100 : Nat) : Int) :: .int .u8 ((48 + n % 100 / 10 : Nat) : Int) :: .int .u8 ((48 + n % 100 % 10 : Nat) : Int) :: z20) 1 false) ∧ tget ts 0 = .int .i64 (n : Nat) ∧ tget ts 5 = .ptr h3.next 0 ∧ tget ts 7 = .int .i64 3) ?_ fun ts h8 ⟨u8, e0, e5, e7⟩ => ?_)
  · refine G.op (G.op (G.op (G.op ?_)))
    simp only [ckR_nil, evN_none, stp_some, putR_some, gd_true, wanted_none, dput_some, ev_t, ev_c, evOp, tget_tput, bin_add, ↓reduceIte, Nat.reduceEqDiff, Option.map_some, e5, e7, w2]
    rw [slA_13 (by simp only [ev_c]) (by simp only [ev_t, tget_tput, ↓reduceIte])]
    simp only [ckR_nil, evN_none, stp_some, putR_some, gd_true, wanted_none, dput_some, ev_t, evOp, tget_tput, ↓reduceIte, Nat.reduceEqDiff, Option.map_some, e6]
    refine G.call ?_
    simp only [dput_some, ev_t, tget_tput, ↓reduceIte, Nat.reduceEqDiff, List.map_cons, List.map_nil]
    refine (fmt_ok k1 k2 g4).mono fun v h' ⟨ev, u8⟩ => ?_
    subst ev
    exact G.done ⟨u8, by simp only [tget_tput, ↓reduceIte, reduceCtorEq, e0], by simp only [tget_tput, ↓reduceIte, Nat.reduceEqDiff, e5], by simp only [tget_tput, ↓reduceIte, Nat.reduceEqDiff, e7]⟩
  refine W.seq (W.seq (W.runs (fun ts h9 => h9 = h8 ∧ tget ts 5 = .ptr h3.next 0 ∧ tget ts 7 = .int .i64 3 ∧ tget ts 34 = .bool false) ?_ fun ts h9 ⟨eh, e5, e7, e34⟩ => W.no e34 (W.skip ?_)))
  · simp only [ckR_nil, evN_none, stps_nil, stps_cons, stp_some, putR_some, gd_true, wanted_none, dput_some, ev_t, ev_c, okR_some, evOp, tget_tput, bin_lss, ↓reduceIte, Nat.reduceEqDiff, Option.map_some, and_self, e0, e5, e7, c3]
  subst eh
  have g8 := u8.get
  have hr : rdCells h9 h3.next 1 3 = some [.int .u8 ((48 + n / 100 : Nat) : Int), .int .u8 ((48 + n % 100 / 10 : Nat) : Int), .int .u8 ((48 + n % 100 % 10 : Nat) : Int)] := by
    rw [rdCells_of g8]
    rfl
  refine W.seq (W.runs (fun ts h10 => h10 = h9 ∧ tget ts 4 = .str (dgs 20 n [])) ?_ fun ts h10 ⟨eh, e4⟩ => W.ret ⟨_, by simp only [Am.results, rdAll, rdRes, e4, rf28], rfl, by rw [eh]; exact x4.trans (u8.ext (Nat.le_refl _))⟩)
  have hb3 := bytes3 k1 k2
  generalize ((48 + n / 100 : Nat) : Int) = q1 at *
  generalize ((48 + n % 100 / 10 : Nat) : Int) = q2 at *
  generalize ((48 + n % 100 % 10 : Nat) : Int) = q3 at *
  simp only [ckR_nil, evN_none, stps_nil, stps_cons, stp_some, putR_some, gd_true, wanted_none, dput_some, ev_t, ev_c, evOp, tget_tput, bin_add, ↓reduceIte, Nat.reduceEqDiff, Option.map_some, e5, e7, w2]
  rw [slA_13 (by simp only [ev_c]) (by simp only [ev_t, tget_tput, ↓reduceIte])]
  simp only [ckR_nil, evN_none, stp_some, putR_some, gd_true, wanted_none, dput_some, ev_t, okR_some, evOp, tget_tput, cvBSA_sl, ↓reduceIte, Option.map_some, and_self, hr, hb3]

theorem itoa13_ok {h : AH} {n : Nat} (k1 : 100 ≤ n) (k2 : n ≤ 128) (hp : ∃ ro, h.get 0 = some (.cells pow10 1 ro)) (h0 : 0 < h.next) : C prg 24 [.int .i64 (n : Nat)] h fun v h' => v = .str (dgs 20 n []) ∧ Ext h.next h h' := by
  refine C.func pf24 ?_
  refine W.seq (W.runs (fun ts h1 => h1 = h ∧ tget ts 0 = .int .i64 (n : Nat)) ?_ fun ts h1 ⟨eh, e0⟩ => ?_)
  · simp only [ckR_nil, evN_none, stps_nil, stps_cons, stp_some, putR_some, gd_true, wanted_none, dput_some, ev_c, okR_some, evOp, tget_tput, ↓reduceIte, reduceCtorEq, and_self, initTm]
  subst eh
  refine W.seq (W.calls (fun ts h4 => Ext h1.next h1 h4 ∧ tget ts 2 = .str (dgs 20 n [])) ?_ fun ts h4 ⟨x4, e4⟩ => W.ret ⟨_, by simp only [Am.results, rdAll, rdRes, e4, rf24], rfl, x4⟩)
  refine G.op ?_
  simp only [ckR_nil, evN_none, stp_some, putR_some, gd_true, wanted_none, dput_some, ev_t, evOp, e0]
  refine G.call ?_
  simp only [dput_some, ev_t, ev_c, tget_tput, ↓reduceIte, List.map_cons, List.map_nil]
  refine (format3_ok k1 k2 hp h0).mono fun v h' ⟨ev, x⟩ => ?_
  subst ev
  refine G.op ?_
  simp only [ckR_nil, evN_none, stp_some, putR_some, gd_true, wanted_none, dput_some, ev_t, evOp, tget_tput, ↓reduceIte]
  refine G.done ?_
  simp only [tget_tput, ↓reduceIte, and_true]
  exact x

theorem itoa3_ok {h : AH} {n : Nat} (k1 : 100 ≤ n) (k2 : n ≤ 128) (hp : ∃ ro, h.get 0 = some (.cells pow10 1 ro)) (h0 : 0 < h.next) : C prg 19 [.int .i64 (n : Nat)] h fun v h' => v = .str (dgs 20 n []) ∧ Ext h.next h h' := by
  refine C.func pf19 ?_
  refine W.seq (W.runs (fun ts h1 => h1 = h ∧ tget ts 0 = .int .i64 (n : Nat)) ?_ fun ts h1 ⟨eh, e0⟩ => ?_)
  · simp only [ckR_nil, evN_none, stps_nil, stps_cons, stp_some, putR_some, gd_true, wanted_none, dput_some, ev_c, okR_some, evOp, tget_tput, ↓reduceIte, reduceCtorEq, and_self, initTm]
  subst eh
  refine W.seq (W.calls (fun ts h4 => Ext h1.next h1 h4 ∧ tget ts 2 = .str (dgs 20 n [])) ?_ fun ts h4 ⟨x4, e4⟩ => W.ret ⟨_, by simp only [Am.results, rdAll, rdRes, e4, rf19], rfl, x4⟩)
  refine G.op ?_
  simp only [ckR_nil, evN_none, stp_some, putR_some, gd_true, wanted_none, dput_some, ev_t, evOp, e0]
  refine G.call ?_
  simp only [dput_some, ev_t, tget_tput, ↓reduceIte, List.map_cons, List.map_nil]
  refine (itoa13_ok k1 k2 hp h0).mono fun v h' ⟨ev, x⟩ => ?_
  subst ev
  refine G.op ?_
  simp only [ckR_nil, evN_none, stp_some, putR_some, gd_true, wanted_none, dput_some, ev_t, evOp, tget_tput, ↓reduceIte]
  refine G.done ?_
  simp only [tget_tput, ↓reduceIte, and_true]
  exact x

end Go.Proofs.YtloklfmgbolpeaaDoor
