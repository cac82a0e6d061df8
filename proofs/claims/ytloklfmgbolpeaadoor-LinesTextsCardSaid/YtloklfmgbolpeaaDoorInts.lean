/-
  ref.Int; numbers told as digits are read as themselves.
-/
import Derived.Test.YtloklfmgbolpeaaDoorPair
namespace Go.Proofs.YtloklfmgbolpeaaDoor
set_option linter.unusedVariables false
set_option linter.unusedSimpArgs false
open Go.Am

def dgs : Nat → Nat → List UInt8 → List UInt8
  | 0, _, s => s
  | f + 1, n, s => if 0 < n ∨ f = 19 then dgs f (n / 10) (UInt8.ofNat (48 + n % 10) :: s) else s

theorem slS_dig {ev : RO → AV} {a b : RO} {d : Nat} (hd : d < 10) (h1 : ev a = .int .i64 (d : Nat)) (h2 : ev b = .int .i64 ((d + 1 : Nat) : Int)) :
    slSA ev (.str [48, 49, 50, 51, 52, 53, 54, 55, 56, 57]) (some a) (some b) = some (.str [UInt8.ofNat (48 + d)]) := by
  simp only [slSA, bounds, h1, h2, bnd]
  have : d = 0 ∨ d = 1 ∨ d = 2 ∨ d = 3 ∨ d = 4 ∨ d = 5 ∨ d = 6 ∨ d = 7 ∨ d = 8 ∨ d = 9 := by omega
  rcases this with rfl | rfl | rfl | rfl | rfl | rfl | rfl | rfl | rfl | rfl <;> rfl

set_option maxRecDepth 4000 in
theorem int_ok {h : AH} {n : Nat} (hn : n ≤ 999999) : C prg 17 [.int .i64 (n : Nat)] h fun v h' => v = .str (dgs 20 n []) ∧ h' = h := by
  refine C.func pf17 ?_
  refine W.seq (W.runs (fun ts h1 => h1 = h ∧ tget ts 0 = .int .i64 (n : Nat)) ?_ fun ts h1 ⟨eh, e0⟩ => ?_)
  · simp only [ckR_nil, evN_none, stps_nil, stps_cons, stp_some, putR_some, gd_true, wanted_none, dput_some, ev_c, okR_some, evOp, tget_tput, ↓reduceIte, reduceCtorEq, and_self, initTm]
  subst eh
  refine W.seq (W.runs (fun ts h2 => h2 = h1 ∧ tget ts 0 = .int .i64 (n : Nat) ∧ tget ts 3 = .str []) ?_ fun ts h2 ⟨eh, e0, e3⟩ => ?_)
  · simp only [ckR_nil, evN_none, stps_nil, stps_cons, stp_some, putR_some, gd_true, wanted_none, dput_some, ev_c, okR_some, evOp, tget_tput, ↓reduceIte, reduceCtorEq, and_self, e0]
  subst eh
  refine W.seq (W.seq (W.runs (fun ts h3 => h3 = h2 ∧ tget ts 0 = .int .i64 (n : Nat) ∧ tget ts 3 = .str [] ∧ tget ts 4 = .int .i64 0) ?_ fun ts h3 ⟨eh, e0, e3, e4⟩ => ?_))
  · simp only [ckR_nil, evN_none, stps_nil, stps_cons, stp_some, putR_some, gd_true, wanted_none, dput_some, ev_c, okR_some, evOp, tget_tput, ↓reduceIte, Nat.reduceEqDiff, reduceCtorEq, and_self, e0, e3]
  subst eh
  refine W.block (W.loop (fun f ts h4 => h4 = h3 ∧ ∃ n' s, f ≤ 20 ∧ n' ≤ 999999 ∧ s.length + f ≤ 20 ∧ dgs f n' s = dgs 20 n [] ∧ tget ts 0 = .int .i64 (n' : Nat) ∧ tget ts 3 = .str s ∧ tget ts 4 = .int .i64 ((20 - f : Nat) : Int)) ?_ (n := 20) ⟨rfl, n, [], by omega, hn, by simp, rfl, e0, e3, e4⟩)
  clear e0 e3 e4
  rintro f ts h4 ⟨eh, n', s, hf, hn', hs, hdg, e0, e3, e4⟩
  subst eh
  refine W.seq (W.seq (W.runs (fun ts h5 => h5 = h4 ∧ tget ts 0 = .int .i64 (n' : Nat) ∧ tget ts 3 = .str s ∧ tget ts 4 = .int .i64 ((20 - f : Nat) : Int) ∧ tget ts 14 = .bool (decide (0 < f ∧ (0 < n' ∨ f = 20)))) ?_ fun ts h5 ⟨eh, e0, e3, e4, e14⟩ => ?_))
  · by_cases c1 : 0 < f
    · have c1' : decide (((20 - f : Nat) : Int) < 20) = true := by simp; omega
      by_cases c2 : 0 < n'
      · have c2' : decide ((0 : Int) < (n' : Nat)) = true := by simp; omega
        have hA : decide (0 < f ∧ (0 < n' ∨ f = 20)) = true := by simp [c1, c2]
        simp only [ckR_nil, evN_none, stps_nil, stps_cons, stp_some, putR_some, gd_true, gd_false, wanted_none, wanted_some, dput_some, ev_t, ev_c, okR_some, evOp, tget_tput, pickA_true, bin_lss, bin_gtr, ↓reduceIte, Nat.reduceEqDiff, Option.map_some, beq_true, beq_false, Bool.not_true, reduceCtorEq, and_self, AV.un, e0, e3, e4, c1', c2', hA]
      · have c2' : decide ((0 : Int) < (n' : Nat)) = false := by simp; omega
        have c3 : decide (((20 - f : Nat) : Int) = 0) = decide (0 < f ∧ (0 < n' ∨ f = 20)) := by
          simp only [decide_eq_decide]; omega
        simp only [ckR_nil, evN_none, stps_nil, stps_cons, stp_some, putR_some, gd_true, wanted_none, wanted_some, dput_some, ev_t, ev_c, okR_some, evOp, tget_tput, pickA_true, pickA_false, bin_eql, bin_lss, bin_gtr, ↓reduceIte, Nat.reduceEqDiff, Option.map_some, beq_true, beq_false, Bool.not_false, reduceCtorEq, and_self, e0, e3, e4, c1', c2', c3]
    · have c1' : decide (((20 - f : Nat) : Int) < 20) = false := by simp; omega
      have hA : decide (0 < f ∧ (0 < n' ∨ f = 20)) = false := by simp [c1]
      simp only [ckR_nil, evN_none, stps_nil, stps_cons, stp_some, putR_some, gd_true, gd_false, wanted_none, wanted_some, dput_some, ev_t, ev_c, okR_some, evOp, tget_tput, pickA_false, bin_lss, ↓reduceIte, Nat.reduceEqDiff, Option.map_some, beq_true, reduceCtorEq, and_self, AV.un, e0, e3, e4, c1', hA]
  subst eh
  refine W.cond e14 (fun hq => ?_) (fun hq => ?_)
  · obtain ⟨q1, q2⟩ := of_decide_eq_true hq
    obtain ⟨f, rfl⟩ : ∃ g, f = g + 1 := ⟨f - 1, by omega⟩
    have hm : ((n' : Nat) : Int).tmod 10 = ((n' % 10 : Nat) : Int) := rfl
    have hw : IntKind.i64.wrap (((n' % 10 : Nat) : Int) + 1) = ((n' % 10 + 1 : Nat) : Int) := IntWalk.i64_in _ (by omega)
    have hd : IntKind.i64.wrap (((n' : Nat) : Int).tdiv 10) = ((n' / 10 : Nat) : Int) := by
      rw [Int.tdiv_eq_ediv_of_nonneg (by omega), IntWalk.i64_in _ (by omega)]
      omega
    have hlt : n' % 10 < 10 := Nat.mod_lt _ (by omega)
    refine W.skip (W.seq (W.block (W.seq (W.runs (fun ts h6 => h6 = h5 ∧ tget ts 0 = .int .i64 (n' : Nat) ∧ tget ts 3 = .str (UInt8.ofNat (48 + n' % 10) :: s) ∧ tget ts 4 = .int .i64 ((20 - (f + 1) : Nat) : Int)) ?_ fun ts h6 ⟨eh, e0, e3, e4⟩ => ?_))))
    · have hlen : 0 + 1 + s.length < 2 ^ 62 := by omega
      simp only [ckR_nil, evN_none, stps_nil, stps_cons, stp_some, putR_some, gd_true, wanted_none, dput_some, ev_t, ev_c, evOp, tget_tput, bin_add, bin_rem, bin_sadd, ↓reduceIte, Nat.reduceEqDiff, Int.reduceEq, Option.map_some, Nat.zero_add, reduceCtorEq, List.length_cons, List.length_nil, List.cons_append, List.nil_append, e0, e3, hm, hw, slS_dig hlt]
      rw [if_pos (by omega)]
      simp only [ckR_nil, evN_none, stp_some, putR_some, gd_true, wanted_none, dput_some, ev_t, okR_some, evOp, tget_tput, ↓reduceIte, Nat.reduceEqDiff, Option.map_some, reduceCtorEq, and_self, e0, e4]
    subst eh
    refine W.runs (fun ts h7 => h7 = h6 ∧ tget ts 0 = .int .i64 ((n' / 10 : Nat) : Int) ∧ tget ts 3 = .str (UInt8.ofNat (48 + n' % 10) :: s) ∧ tget ts 4 = .int .i64 ((20 - (f + 1) : Nat) : Int)) ?_ fun ts h7 ⟨eh, e0, e3, e4⟩ => ?_
    · simp only [ckR_nil, evN_none, stps_nil, stps_cons, stp_some, putR_some, gd_true, wanted_none, dput_some, ev_t, ev_c, okR_some, evOp, tget_tput, bin_quo, ↓reduceIte, Nat.reduceEqDiff, Int.reduceEq, Option.map_some, reduceCtorEq, and_self, e0, e3, e4, hd]
    subst eh
    refine W.runs (fun ts h8 => h8 = h7 ∧ tget ts 0 = .int .i64 ((n' / 10 : Nat) : Int) ∧ tget ts 3 = .str (UInt8.ofNat (48 + n' % 10) :: s) ∧ tget ts 4 = .int .i64 ((20 - f : Nat) : Int)) ?_ fun ts h8 ⟨eh, e0, e3, e4⟩ => ?_
    · simp only [ckR_nil, evN_none, stps_nil, stps_cons, stp_some, putR_some, gd_true, wanted_none, dput_some, ev_t, ev_c, okR_some, evOp, tget_tput, bin_add, ↓reduceIte, Nat.reduceEqDiff, Option.map_some, reduceCtorEq, true_and, e0, e3, e4]
      rw [IntWalk.i64_in _ (by omega)]
      exact congrArg _ (by omega)
    subst eh
    refine ⟨f, by omega, rfl, n' / 10, _, by omega, by omega, by simp only [List.length_cons]; omega, ?_, e0, e3, e4⟩
    rw [← hdg, dgs, if_pos (by omega)]
  · have hq := of_decide_eq_false hq
    have hds : dgs 20 n [] = s := by
      rw [← hdg]
      cases f with
      | zero => rfl
      | succ f => rw [dgs, if_neg (by omega)]
    refine W.exit ⟨fun _ => ?_, fun e => absurd rfl e⟩
    refine W.seq (W.runs (fun ts h6 => h6 = h5 ∧ tget ts 2 = .str s) ?_ fun ts h6 ⟨eh, e2⟩ => W.ret ?_)
    · simp only [ckR_nil, evN_none, stps_nil, stps_cons, stp_some, putR_some, gd_true, wanted_none, dput_some, ev_t, okR_some, evOp, tget_tput, ↓reduceIte, and_self, e3]
    subst eh
    exact ⟨.str s, by simp only [Am.results, rdAll, rdRes, e2, rf17], by rw [hds], rfl⟩

end Go.Proofs.YtloklfmgbolpeaaDoor
