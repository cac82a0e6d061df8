/-
  ref.Int; strconv.Itoa of any number.
-/
import Derived.Test.YtjcbcmonmmfllaaGreatDoorFmt2
namespace Go.Proofs.YtjcbcmonmmfllaaGreatDoor
set_option linter.unusedVariables false
set_option linter.unusedSimpArgs false
open Go.Am

def dgs : Nat → Nat → List UInt8 → List UInt8
  | 0, _, s => s
  | f + 1, n, s => if 0 < n ∨ f = 19 then dgs f (n / 10) (UInt8.ofNat (48 + n % 10) :: s) else s

theorem slS_dig {ev : RO → AV} {a b : RO} {d : Nat} (hd : d < 10) (h1 : ev a = .int .i64 (d : Nat)) (h2 : ev b = .int .i64 ((d + 1 : Nat) : Int)) :
    slSA ev (.str [48, 49, 50, 51, 52, 53, 54, 55, 56, 57]) (some a) (some b) = some (.str [UInt8.ofNat (48 + d)]) := by
  simp only [slSA, bounds, h1, h2, bnd]
  have : d = 0 ∨ d = 1 ∨ d = 2 ∨ d = 3 ∨ d = 4 ∨ d = 5 ∨ d = 6 ∨ d = 7 ∨ d = 8 ∨ d = 9 := by omega
  rcases this with rfl | rfl | rfl | rfl | rfl | rfl | rfl | rfl | rfl | rfl <;> rfl

set_option maxRecDepth 4000 in
theorem int_ok {h : AH} {n : Nat} (hn : n < 2 ^ 63) : C prg 20 [.int .i64 (n : Nat)] h fun v h' => v = .str (dgs 20 n []) ∧ h' = h := by
  refine C.func pf20 ?_
  refine W.seq (W.runs (fun ts h1 => h1 = h ∧ tget ts 0 = .int .i64 (n : Nat)) ?_ fun ts h1 ⟨eh, e0⟩ => ?_)
  · simp only [ckR_nil, evN_none, stps_nil, stps_cons, stp_some, putR_some, gd_true, wanted_none, dput_some, ev_c, okR_some, evOp, tget_tput, ↓reduceIte, reduceCtorEq, and_self, initTm]
  subst eh
  refine W.seq (W.runs (fun ts h2 => h2 = h1 ∧ tget ts 0 = .int .i64 (n : Nat) ∧ tget ts 3 = .str []) ?_ fun ts h2 ⟨eh, e0, e3⟩ => ?_)
  · simp only [ckR_nil, evN_none, stps_nil, stps_cons, stp_some, putR_some, gd_true, wanted_none, dput_some, ev_c, okR_some, evOp, tget_tput, ↓reduceIte, reduceCtorEq, and_self, e0]
  subst eh
  refine W.seq (W.seq (W.runs (fun ts h3 => h3 = h2 ∧ tget ts 0 = .int .i64 (n : Nat) ∧ tget ts 3 = .str [] ∧ tget ts 4 = .int .i64 0) ?_ fun ts h3 ⟨eh, e0, e3, e4⟩ => ?_))
  · simp only [ckR_nil, evN_none, stps_nil, stps_cons, stp_some, putR_some, gd_true, wanted_none, dput_some, ev_c, okR_some, evOp, tget_tput, ↓reduceIte, Nat.reduceEqDiff, reduceCtorEq, and_self, e0, e3]
  subst eh
  refine W.block (W.loop (fun f ts h4 => h4 = h3 ∧ ∃ n' s, f ≤ 20 ∧ n' < 2 ^ 63 ∧ s.length + f ≤ 20 ∧ dgs f n' s = dgs 20 n [] ∧ tget ts 0 = .int .i64 (n' : Nat) ∧ tget ts 3 = .str s ∧ tget ts 4 = .int .i64 ((20 - f : Nat) : Int)) ?_ (n := 20) ⟨rfl, n, [], by omega, hn, by simp, rfl, e0, e3, e4⟩)
  clear e0 e3 e4
  rintro f ts h4 ⟨eh, n', s, hf, hn', hs, hdg, e0, e3, e4⟩
  subst eh
  refine W.seq (W.seq (W.runs (fun ts h5 => h5 = h4 ∧ tget ts 0 = .int .i64 (n' : Nat) ∧ tget ts 3 = .str s ∧ tget ts 4 = .int .i64 ((20 - f : Nat) : Int) ∧ tget ts 14 = .bool (decide (0 < f ∧ (0 < n' ∨ f = 20)))) ?_ fun ts h5 ⟨eh, e0, e3, e4, e14⟩ => ?_))
  · by_cases c1 : 0 < f
    · have c1' : decide (((20 - f : Nat) : Int) < 20) = true := by simp; omega
      by_cases c2 : 0 < n'
      · have c2' : decide ((0 : Int) < (n' : Nat)) = true := by simp; omega
        have hA : decide (0 < f ∧ (0 < n' ∨ f = 20)) = true := by simp [c1, c2]
        simp only [ckR_nil, evN_none, stps_nil, stps_cons, stp_some, putR_some, gd_true, gd_false, wanted_none, wanted_some, dput_some, ev_t, ev_c, okR_some, evOp, tget_tput, pickA_true, bin_lss, bin_gtr, ↓reduceIte, Nat.reduceEqDiff, Option.map_some, beq_true, beq_false, Bool.not_true, reduceCtorEq, and_self, AV.un, e0, e3, e4, c1', c2', hA]
      · have c2' : decide ((0 : Int) < (n' : Nat)) = false := by simp; omega
        have c3 : decide (((20 - f : Nat) : Int) = 0) = decide (0 < f ∧ (0 < n' ∨ f = 20)) := by
          simp only [decide_eq_decide]; omega
        simp only [ckR_nil, evN_none, stps_nil, stps_cons, stp_some, putR_some, gd_true, wanted_none, wanted_some, dput_some, ev_t, ev_c, okR_some, evOp, tget_tput, pickA_true, pickA_false, bin_eql, bin_lss, bin_gtr, ↓reduceIte, Nat.reduceEqDiff, Option.map_some, beq_true, beq_false, Bool.not_false, reduceCtorEq, and_self, e0, e3, e4, c1', c2', c3]
    · have c1' : decide (((20 - f : Nat) : Int) < 20) = false := by simp; omega
      have hA : decide (0 < f ∧ (0 < n' ∨ f = 20)) = false := by simp [c1]
      simp only [ckR_nil, evN_none, stps_nil, stps_cons, stp_some, putR_some, gd_true, gd_false, wanted_none, wanted_some, dput_some, ev_t, ev_c, okR_some, evOp, tget_tput, pickA_false, bin_lss, ↓reduceIte, Nat.reduceEqDiff, Option.map_some, beq_true, reduceCtorEq, and_self, AV.un, e0, e3, e4, c1', hA]
  subst eh
  refine W.cond e14 (fun hq => ?_) (fun hq => ?_)
  · obtain ⟨q1, q2⟩ := of_decide_eq_true hq
    obtain ⟨f, rfl⟩ : ∃ g, f = g + 1 := ⟨f - 1, by omega⟩
    have hm : ((n' : Nat) : Int).tmod 10 = ((n' % 10 : Nat) : Int) := rfl
    have hw : IntKind.i64.wrap (((n' % 10 : Nat) : Int) + 1) = ((n' % 10 + 1 : Nat) : Int) := IntWalk.i64_in _ (by omega)
    have hd : IntKind.i64.wrap (((n' : Nat) : Int).tdiv 10) = ((n' / 10 : Nat) : Int) := by
      rw [Int.tdiv_eq_ediv_of_nonneg (by omega), IntWalk.i64_in _ (by omega)]
      omega
    have hlt : n' % 10 < 10 := Nat.mod_lt _ (by omega)
    refine W.skip (W.seq (W.block (W.seq (W.runs (fun ts h6 => h6 = h5 ∧ tget ts 0 = .int .i64 (n' : Nat) ∧ tget ts 3 = .str (UInt8.ofNat (48 + n' % 10) :: s) ∧ tget ts 4 = .int .i64 ((20 - (f + 1) : Nat) : Int)) ?_ fun ts h6 ⟨eh, e0, e3, e4⟩ => ?_))))
    · have hlen : 0 + 1 + s.length < 2 ^ 62 := by omega
      simp only [ckR_nil, evN_none, stps_nil, stps_cons, stp_some, putR_some, gd_true, wanted_none, dput_some, ev_t, ev_c, evOp, tget_tput, bin_add, bin_rem, bin_sadd, ↓reduceIte, Nat.reduceEqDiff, Int.reduceEq, Option.map_some, Nat.zero_add, reduceCtorEq, List.length_cons, List.length_nil, List.cons_append, List.nil_append, e0, e3, hm, hw, slS_dig hlt]
      rw [if_pos (by omega)]
      simp only [ckR_nil, evN_none, stp_some, putR_some, gd_true, wanted_none, dput_some, ev_t, okR_some, evOp, tget_tput, ↓reduceIte, Nat.reduceEqDiff, Option.map_some, reduceCtorEq, and_self, e0, e4]
    subst eh
    refine W.runs (fun ts h7 => h7 = h6 ∧ tget ts 0 = .int .i64 ((n' / 10 : Nat) : Int) ∧ tget ts 3 = .str (UInt8.ofNat (48 + n' % 10) :: s) ∧ tget ts 4 = .int .i64 ((20 - (f + 1) : Nat) : Int)) ?_ fun ts h7 ⟨eh, e0, e3, e4⟩ => ?_
    · simp only [ckR_nil, evN_none, stps_nil, stps_cons, stp_some, putR_some, gd_true, wanted_none, dput_some, ev_t, ev_c, okR_some, evOp, tget_tput, bin_quo, ↓reduceIte, Nat.reduceEqDiff, Int.reduceEq, Option.map_some, reduceCtorEq, and_self, e0, e3, e4, hd]
    subst eh
    refine W.runs (fun ts h8 => h8 = h7 ∧ tget ts 0 = .int .i64 ((n' / 10 : Nat) : Int) ∧ tget ts 3 = .str (UInt8.ofNat (48 + n' % 10) :: s) ∧ tget ts 4 = .int .i64 ((20 - f : Nat) : Int)) ?_ fun ts h8 ⟨eh, e0, e3, e4⟩ => ?_
    · simp only [ckR_nil, evN_none, stps_nil, stps_cons, stp_some, putR_some, gd_true, wanted_none, dput_some, ev_t, ev_c, okR_some, evOp, tget_tput, bin_add, ↓reduceIte, Nat.reduceEqDiff, Option.map_some, reduceCtorEq, true_and, e0, e3, e4]
      rw [IntWalk.i64_in _ (by omega)]
      exact congrArg _ (by omega)
    subst eh
    refine ⟨f, by omega, rfl, n' / 10, _, by omega, by omega, by simp only [List.length_cons]; omega, ?_, e0, e3, e4⟩
    rw [← hdg, dgs, if_pos (by omega)]
  · have hq := of_decide_eq_false hq
    have hds : dgs 20 n [] = s := by
      rw [← hdg]
      cases f with
      | zero => rfl
      | succ f => rw [dgs, if_neg (by omega)]
    refine W.exit ⟨fun _ => ?_, fun e => absurd rfl e⟩
    refine W.seq (W.runs (fun ts h6 => h6 = h5 ∧ tget ts 2 = .str s) ?_ fun ts h6 ⟨eh, e2⟩ => W.ret ?_)
    · simp only [ckR_nil, evN_none, stps_nil, stps_cons, stp_some, putR_some, gd_true, wanted_none, dput_some, ev_t, okR_some, evOp, tget_tput, ↓reduceIte, and_self, e3]
    subst eh
    exact ⟨.str s, by simp only [Am.results, rdAll, rdRes, e2, rf20], by rw [hds], rfl⟩

theorem sml1 : ((List.range 10).all fun n => ((([48, 49, 50, 51, 52, 53, 54, 55, 56, 57, 97, 98, 99, 100, 101, 102, 103, 104, 105, 106, 107, 108, 109, 110, 111, 112, 113, 114, 115, 116, 117, 118, 119, 120, 121, 122] : List UInt8).take (n + 1)).drop n) == dgs 20 n []) = true := by decide +kernel
theorem sml2 : ((List.range 90).all fun n => ((([48, 48, 48, 49, 48, 50, 48, 51, 48, 52, 48, 53, 48, 54, 48, 55, 48, 56, 48, 57, 49, 48, 49, 49, 49, 50, 49, 51, 49, 52, 49, 53, 49, 54, 49, 55, 49, 56, 49, 57, 50, 48, 50, 49, 50, 50, 50, 51, 50, 52, 50, 53, 50, 54, 50, 55, 50, 56, 50, 57, 51, 48, 51, 49, 51, 50, 51, 51, 51, 52, 51, 53, 51, 54, 51, 55, 51, 56, 51, 57, 52, 48, 52, 49, 52, 50, 52, 51, 52, 52, 52, 53, 52, 54, 52, 55, 52, 56, 52, 57, 53, 48, 53, 49, 53, 50, 53, 51, 53, 52, 53, 53, 53, 54, 53, 55, 53, 56, 53, 57, 54, 48, 54, 49, 54, 50, 54, 51, 54, 52, 54, 53, 54, 54, 54, 55, 54, 56, 54, 57, 55, 48, 55, 49, 55, 50, 55, 51, 55, 52, 55, 53, 55, 54, 55, 55, 55, 56, 55, 57, 56, 48, 56, 49, 56, 50, 56, 51, 56, 52, 56, 53, 56, 54, 56, 55, 56, 56, 56, 57, 57, 48, 57, 49, 57, 50, 57, 51, 57, 52, 57, 53, 57, 54, 57, 55, 57, 56, 57, 57] : List UInt8).take (2 * (n + 10) + 2)).drop (2 * (n + 10))) == dgs 20 (n + 10) []) = true := by decide +kernel

theorem slS_one {ev : RO → AV} {a b : RO} {n : Nat} (hn : n < 10) (h1 : ev a = .int .i64 (n : Nat)) (h2 : ev b = .int .i64 ((n : Nat) + 1 : Int)) :
    slSA ev (.str [48, 49, 50, 51, 52, 53, 54, 55, 56, 57, 97, 98, 99, 100, 101, 102, 103, 104, 105, 106, 107, 108, 109, 110, 111, 112, 113, 114, 115, 116, 117, 118, 119, 120, 121, 122]) (some a) (some b) = some (.str (dgs 20 n [])) := by
  have hs := List.all_eq_true.1 sml1 n (List.mem_range.2 hn)
  simp only [beq_iff_eq] at hs
  have c1 : (0 : Int) ≤ (n : Int) + 1 ∧ (n : Int) + 1 ≤ ((36 : Nat) : Int) := by omega
  have c2 : (0 : Int) ≤ (n : Int) ∧ (n : Int) ≤ ((n + 1 : Nat) : Int) := by omega
  have e1 : ((n : Int) + 1).toNat = n + 1 := by omega
  have hlen : ([48, 49, 50, 51, 52, 53, 54, 55, 56, 57, 97, 98, 99, 100, 101, 102, 103, 104, 105, 106, 107, 108, 109, 110, 111, 112, 113, 114, 115, 116, 117, 118, 119, 120, 121, 122] : List UInt8).length = 36 := rfl
  simp only [slSA, bounds, h1, h2, bnd, hlen, c1, and_self, if_true, e1, c2, Int.toNat_natCast, Option.map_some, hs]

theorem slS_two {ev : RO → AV} {a b : RO} {n : Nat} (h10 : 10 ≤ n) (hn : n < 100) (h1 : ev a = .int .i64 ((n : Nat) * 2 : Int)) (h2 : ev b = .int .i64 ((n : Nat) * 2 + 2 : Int)) :
    slSA ev (.str [48, 48, 48, 49, 48, 50, 48, 51, 48, 52, 48, 53, 48, 54, 48, 55, 48, 56, 48, 57, 49, 48, 49, 49, 49, 50, 49, 51, 49, 52, 49, 53, 49, 54, 49, 55, 49, 56, 49, 57, 50, 48, 50, 49, 50, 50, 50, 51, 50, 52, 50, 53, 50, 54, 50, 55, 50, 56, 50, 57, 51, 48, 51, 49, 51, 50, 51, 51, 51, 52, 51, 53, 51, 54, 51, 55, 51, 56, 51, 57, 52, 48, 52, 49, 52, 50, 52, 51, 52, 52, 52, 53, 52, 54, 52, 55, 52, 56, 52, 57, 53, 48, 53, 49, 53, 50, 53, 51, 53, 52, 53, 53, 53, 54, 53, 55, 53, 56, 53, 57, 54, 48, 54, 49, 54, 50, 54, 51, 54, 52, 54, 53, 54, 54, 54, 55, 54, 56, 54, 57, 55, 48, 55, 49, 55, 50, 55, 51, 55, 52, 55, 53, 55, 54, 55, 55, 55, 56, 55, 57, 56, 48, 56, 49, 56, 50, 56, 51, 56, 52, 56, 53, 56, 54, 56, 55, 56, 56, 56, 57, 57, 48, 57, 49, 57, 50, 57, 51, 57, 52, 57, 53, 57, 54, 57, 55, 57, 56, 57, 57]) (some a) (some b) = some (.str (dgs 20 n [])) := by
  have hs := List.all_eq_true.1 sml2 (n - 10) (List.mem_range.2 (by omega))
  simp only [beq_iff_eq] at hs
  have e0 : n - 10 + 10 = n := by omega
  rw [e0] at hs
  have c1 : (0 : Int) ≤ (n : Int) * 2 + 2 ∧ (n : Int) * 2 + 2 ≤ ((200 : Nat) : Int) := by omega
  have c2 : (0 : Int) ≤ (n : Int) * 2 ∧ (n : Int) * 2 ≤ ((2 * n + 2 : Nat) : Int) := by omega
  have e1 : ((n : Int) * 2 + 2).toNat = 2 * n + 2 := by omega
  have e2 : ((n : Int) * 2).toNat = 2 * n := by omega
  have hlen : ([48, 48, 48, 49, 48, 50, 48, 51, 48, 52, 48, 53, 48, 54, 48, 55, 48, 56, 48, 57, 49, 48, 49, 49, 49, 50, 49, 51, 49, 52, 49, 53, 49, 54, 49, 55, 49, 56, 49, 57, 50, 48, 50, 49, 50, 50, 50, 51, 50, 52, 50, 53, 50, 54, 50, 55, 50, 56, 50, 57, 51, 48, 51, 49, 51, 50, 51, 51, 51, 52, 51, 53, 51, 54, 51, 55, 51, 56, 51, 57, 52, 48, 52, 49, 52, 50, 52, 51, 52, 52, 52, 53, 52, 54, 52, 55, 52, 56, 52, 57, 53, 48, 53, 49, 53, 50, 53, 51, 53, 52, 53, 53, 53, 54, 53, 55, 53, 56, 53, 57, 54, 48, 54, 49, 54, 50, 54, 51, 54, 52, 54, 53, 54, 54, 54, 55, 54, 56, 54, 57, 55, 48, 55, 49, 55, 50, 55, 51, 55, 52, 55, 53, 55, 54, 55, 55, 55, 56, 55, 57, 56, 48, 56, 49, 56, 50, 56, 51, 56, 52, 56, 53, 56, 54, 56, 55, 56, 56, 56, 57, 57, 48, 57, 49, 57, 50, 57, 51, 57, 52, 57, 53, 57, 54, 57, 55, 57, 56, 57, 57] : List UInt8).length = 200 := rfl
  simp only [slSA, bounds, h1, h2, bnd, hlen, c1, and_self, if_true, e1, c2, e2, Option.map_some, hs]

theorem small_ok {h : AH} {n : Nat} (hn : n < 100) : C prg 65 [.int .i64 (n : Nat)] h fun v h' => v = .str (dgs 20 n []) ∧ h' = h := by
  refine C.func pf65 ?_
  refine W.seq (W.runs (fun ts h1 => h1 = h ∧ tget ts 0 = .int .i64 (n : Nat)) ?_ fun ts h1 ⟨eh, e0⟩ => ?_)
  · simp only [ckR_nil, evN_none, stps_nil, stps_cons, stp_some, putR_some, gd_true, wanted_none, dput_some, ev_c, okR_some, evOp, tget_tput, ↓reduceIte, reduceCtorEq, and_self, initTm]
  subst eh
  refine W.seq (W.seq (W.runs (fun ts h2 => h2 = h1 ∧ tget ts 0 = .int .i64 (n : Nat) ∧ tget ts 4 = .bool (decide (n < 10))) ?_ fun ts h2 ⟨eh, e0, e4⟩ => ?_))
  · have : decide ((n : Int) < 10) = decide (n < 10) := by congr 1; simp; omega
    simp only [ckR_nil, evN_none, stps_nil, stps_cons, stp_some, putR_some, gd_true, wanted_none, dput_some, ev_t, ev_c, okR_some, evOp, tget_tput, bin_lss, ↓reduceIte, Option.map_some, reduceCtorEq, and_self, e0, this]
  subst eh
  refine W.cond e4 (fun hc => ?_) fun hc => W.skip ?_
  · simp only [decide_eq_true_eq] at hc
    refine W.seq (W.runs (fun ts h3 => h3 = h2 ∧ tget ts 2 = .str (dgs 20 n [])) ?_ fun ts h3 ⟨eh, e2⟩ => W.ret ?_)
    · have hw : IntKind.i64.wrap ((n : Int) + 1) = (n : Int) + 1 := IntWalk.i64_in _ (by omega)
      simp only [ckR_nil, evN_none, stps_nil, stps_cons, stp_some, putR_some, gd_true, wanted_none, dput_some, ev_t, ev_c, evOp, tget_tput, bin_add, ↓reduceIte, Option.map_some, reduceCtorEq, e0, hw]
      rw [slS_one hc (by simp only [ev_t, tget_tput, ↓reduceIte, Nat.reduceEqDiff]) (by simp only [ev_t, tget_tput, ↓reduceIte])]
      simp only [ckR_nil, evN_none, stp_some, putR_some, gd_true, wanted_none, dput_some, ev_t, okR_some, evOp, tget_tput, ↓reduceIte, Option.map_some, and_self]
    · subst eh; exact ⟨_, by simp only [Am.results, rdAll, rdRes, e2, rf65], rfl, rfl⟩
  · simp only [decide_eq_false_iff_not] at hc
    refine W.seq (W.runs (fun ts h3 => h3 = h2 ∧ tget ts 2 = .str (dgs 20 n [])) ?_ fun ts h3 ⟨eh, e2⟩ => W.ret ?_)
    · have hw : IntKind.i64.wrap ((n : Int) * 2) = (n : Int) * 2 := IntWalk.i64_in _ (by omega)
      have hw2 : IntKind.i64.wrap ((n : Int) * 2 + 2) = (n : Int) * 2 + 2 := IntWalk.i64_in _ (by omega)
      simp only [ckR_nil, evN_none, stps_nil, stps_cons, stp_some, putR_some, gd_true, wanted_none, dput_some, ev_t, ev_c, evOp, tget_tput, bin_add, bin_mul, ↓reduceIte, Option.map_some, reduceCtorEq, e0, hw, hw2]
      rw [slS_two (by omega) hn (by simp only [ev_t, tget_tput, ↓reduceIte, Nat.reduceEqDiff]) (by simp only [ev_t, tget_tput, ↓reduceIte])]
      simp only [ckR_nil, evN_none, stp_some, putR_some, gd_true, wanted_none, dput_some, ev_t, okR_some, evOp, tget_tput, ↓reduceIte, Option.map_some, and_self]
    · subst eh; exact ⟨_, by simp only [Am.results, rdAll, rdRes, e2, rf65], rfl, rfl⟩

/-- the bytes of the digits -/
def dw : Nat → Nat → List UInt8
  | 0, _ => []
  | m + 1, u => dw m (u / 10) ++ [UInt8.ofNat (48 + u % 10)]

theorem dw_len : ∀ (m u : Nat), (dw m u).length = m
  | 0, _ => rfl
  | m + 1, u => by simp [dw, dw_len m]

theorem bytesOf_app : ∀ (x y : List AV) (a b : List UInt8), bytesOf x = some a → bytesOf y = some b → bytesOf (x ++ y) = some (a ++ b)
  | [], y, a, b, h1, h2 => by simp only [bytesOf, Option.some.injEq] at h1; subst h1; exact h2
  | v :: x, y, a, b, h1, h2 => by
    cases v with
    | int k n =>
      cases k <;> simp only [bytesOf, reduceCtorEq] at h1
      rw [Option.map_eq_some_iff] at h1
      obtain ⟨a', h3, rfl⟩ := h1
      have := bytesOf_app x y a' b h3 h2
      simp only [List.cons_append, bytesOf, this, Option.map_some]
    | _ => simp [bytesOf] at h1

theorem bytesOf_dv : ∀ (m u : Nat), bytesOf (dv m u) = some (dw m u)
  | 0, _ => rfl
  | m + 1, u => by
    refine bytesOf_app _ _ _ _ (bytesOf_dv m (u / 10)) ?_
    have : ofBytes [UInt8.ofNat (48 + u % 10)] = [.int .u8 ((48 + u % 10 : Nat) : Int)] := by
      have u1 : (UInt8.ofNat (48 + u % 10)).toNat = 48 + u % 10 := by rw [UInt8.toNat_ofNat']; omega
      show [AV.int .u8 ((UInt8.ofNat (48 + u % 10)).toNat : Nat)] = _
      rw [u1]
    rw [← this]
    exact bytesOf_ofBytes _

theorem dgs_z (f : Nat) (hf : f ≤ 19) (s : List UInt8) : dgs f 0 s = s := by
  cases f with
  | zero => rfl
  | succ f => rw [dgs, if_neg (by omega)]

theorem dgs_dw : ∀ (m u f : Nat) (s : List UInt8), Wide u m → 1 ≤ u → m ≤ f → f ≤ 19 → dgs f u s = dw m u ++ s
  | 0, _, _, _, h, _, _, _ => absurd h.1 (by omega)
  | m + 1, u, 0, _, _, _, h, _ => by omega
  | m + 1, u, f + 1, s, h, h1, h2, h3 => by
    rw [dgs, if_pos (.inl (by omega)), dw]
    obtain ⟨w1, w2, w3, w4⟩ := h
    by_cases hm : m = 0
    · subst hm
      have : u / 10 = 0 := by simp at w3; omega
      rw [this, dgs_z f (by omega)]
      rfl
    · have hp : 10 ^ (m + 1) = 10 ^ m * 10 := Nat.pow_succ ..
      have hp2 : 10 ^ m = 10 ^ (m - 1) * 10 := by
        obtain ⟨k, rfl⟩ : ∃ k, m = k + 1 := ⟨m - 1, by omega⟩
        rfl
      have hpos : 0 < 10 ^ (m - 1) := Nat.pow_pos (by decide)
      have hw4 : 10 ^ m ≤ u := by
        rcases w4 with w4 | w4
        · omega
        · simpa using w4
      have hW : Wide (u / 10) m := ⟨by omega, by omega, by omega, .inr (by omega)⟩
      rw [dgs_dw m (u / 10) f _ hW (by omega) (by omega) (by omega)]
      simp

/-- a number's digits -/
def dg (n : Nat) : List UInt8 := dgs 20 n []

theorem dg_dw {u m : Nat} (h : Wide u m) (h1 : 1 ≤ u) : dg u = dw m u := by
  obtain ⟨w1, w2, w3, w4⟩ := h
  obtain ⟨k, rfl⟩ : ∃ k, m = k + 1 := ⟨m - 1, by omega⟩
  unfold dg
  rw [dgs, if_pos (.inr rfl), dw]
  by_cases hm : k = 0
  · subst hm
    have : u / 10 = 0 := by simp at w3; omega
    rw [this, dgs_z 19 (by omega)]
    rfl
  · have hp : 10 ^ (k + 1) = 10 ^ k * 10 := Nat.pow_succ ..
    have hp2 : 10 ^ k = 10 ^ (k - 1) * 10 := by
      obtain ⟨j, rfl⟩ : ∃ j, k = j + 1 := ⟨k - 1, by omega⟩
      rfl
    have hpos : 0 < 10 ^ (k - 1) := Nat.pow_pos (by decide)
    have hw4 : 10 ^ k ≤ u := by
      rcases w4 with w4 | w4
      · omega
      · simpa using w4
    have hW : Wide (u / 10) k := ⟨by omega, by omega, by omega, .inr (by omega)⟩
    rw [dgs_dw k (u / 10) 19 _ hW (by omega) (by omega) (by omega)]

theorem dg_len (n : Nat) : (dg n).length ≤ 20 := by
  have key : ∀ (f n : Nat) (s : List UInt8), (dgs f n s).length ≤ s.length + f := by
    intro f
    induction f with
    | zero => intro n s; simp [dgs]
    | succ f ih =>
      intro n s
      unfold dgs
      split
      · have := ih (n / 10) (UInt8.ofNat (48 + n % 10) :: s)
        simp only [List.length_cons] at this
        omega
      · omega
  simpa [dg] using key 20 n []

/-- the last digit apart -/
theorem dg_last {u : Nat} (h : 10 ≤ u) (h2 : u < 10 ^ 20) : dg u = dg (u / 10) ++ dg (u % 10) := by
  have hw : ∃ m, Wide u m := by
    have key : ∀ k, u < 10 ^ k → 1 ≤ k → k ≤ 20 → ∃ m, Wide u m := by
      intro k
      induction k with
      | zero => intro _ h; omega
      | succ k ih =>
        intro h3 _ h4
        by_cases hk : u < 10 ^ k
        · by_cases hk0 : k = 0
          · subst hk0; simp at hk; omega
          · exact ih hk (by omega) (by omega)
        · exact ⟨k + 1, by omega, h4, h3, .inr (by simpa using Nat.le_of_not_lt hk)⟩
    exact key 20 h2 (by decide) (by decide)
  obtain ⟨m, hm⟩ := hw
  have hm2 := hm
  obtain ⟨w1, w2, w3, w4⟩ := hm
  obtain ⟨k, rfl⟩ : ∃ k, m = k + 1 := ⟨m - 1, by omega⟩
  have hk0 : k ≠ 0 := by rintro rfl; simp at w3; omega
  have hp : 10 ^ (k + 1) = 10 ^ k * 10 := Nat.pow_succ ..
  have hp2 : 10 ^ k = 10 ^ (k - 1) * 10 := by
    obtain ⟨j, rfl⟩ : ∃ j, k = j + 1 := ⟨k - 1, by omega⟩
    rfl
  have hpos : 0 < 10 ^ (k - 1) := Nat.pow_pos (by decide)
  have hw4 : 10 ^ k ≤ u := by
    rcases w4 with w4 | w4
    · omega
    · simpa using w4
  have hW : Wide (u / 10) k := ⟨by omega, by omega, by omega, .inr (by omega)⟩
  rw [dg_dw hm2 (by omega), dg_dw hW (by omega), dw]
  congr 1
  have : u % 10 = 0 ∨ u % 10 = 1 ∨ u % 10 = 2 ∨ u % 10 = 3 ∨ u % 10 = 4 ∨ u % 10 = 5 ∨ u % 10 = 6 ∨ u % 10 = 7 ∨ u % 10 = 8 ∨ u % 10 = 9 := by omega
  rcases this with e | e | e | e | e | e | e | e | e | e <;> rw [e] <;> decide

/-- a number in decimal -/
def dec (n : Int) : List UInt8 := if n < 0 then 45 :: dg n.natAbs else dg n.natAbs

theorem dec_len (n : Int) : (dec n).length ≤ 21 := by
  have := dg_len n.natAbs
  unfold dec
  split
  · simp; omega
  · omega

end Go.Proofs.YtjcbcmonmmfllaaGreatDoor
