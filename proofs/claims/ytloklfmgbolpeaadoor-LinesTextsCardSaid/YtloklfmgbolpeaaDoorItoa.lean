/-
  strconv.Itoa of numbers below 100.
-/
import Derived.Test.YtloklfmgbolpeaaDoorInts
import Derived.IntWalk
namespace Go.Proofs.YtloklfmgbolpeaaDoor
set_option linter.unusedVariables false
set_option linter.unusedSimpArgs false
open Go.Am

theorem sml1 : ((List.range 10).all fun n => ((([48, 49, 50, 51, 52, 53, 54, 55, 56, 57, 97, 98, 99, 100, 101, 102, 103, 104, 105, 106, 107, 108, 109, 110, 111, 112, 113, 114, 115, 116, 117, 118, 119, 120, 121, 122] : List UInt8).take (n + 1)).drop n) == dgs 20 n []) = true := by decide +kernel
theorem sml2 : ((List.range 90).all fun n => ((([48, 48, 48, 49, 48, 50, 48, 51, 48, 52, 48, 53, 48, 54, 48, 55, 48, 56, 48, 57, 49, 48, 49, 49, 49, 50, 49, 51, 49, 52, 49, 53, 49, 54, 49, 55, 49, 56, 49, 57, 50, 48, 50, 49, 50, 50, 50, 51, 50, 52, 50, 53, 50, 54, 50, 55, 50, 56, 50, 57, 51, 48, 51, 49, 51, 50, 51, 51, 51, 52, 51, 53, 51, 54, 51, 55, 51, 56, 51, 57, 52, 48, 52, 49, 52, 50, 52, 51, 52, 52, 52, 53, 52, 54, 52, 55, 52, 56, 52, 57, 53, 48, 53, 49, 53, 50, 53, 51, 53, 52, 53, 53, 53, 54, 53, 55, 53, 56, 53, 57, 54, 48, 54, 49, 54, 50, 54, 51, 54, 52, 54, 53, 54, 54, 54, 55, 54, 56, 54, 57, 55, 48, 55, 49, 55, 50, 55, 51, 55, 52, 55, 53, 55, 54, 55, 55, 55, 56, 55, 57, 56, 48, 56, 49, 56, 50, 56, 51, 56, 52, 56, 53, 56, 54, 56, 55, 56, 56, 56, 57, 57, 48, 57, 49, 57, 50, 57, 51, 57, 52, 57, 53, 57, 54, 57, 55, 57, 56, 57, 57] : List UInt8).take (2 * (n + 10) + 2)).drop (2 * (n + 10))) == dgs 20 (n + 10) []) = true := by decide +kernel

theorem slS_one {ev : RO → AV} {a b : RO} {n : Nat} (hn : n < 10) (h1 : ev a = .int .i64 (n : Nat)) (h2 : ev b = .int .i64 ((n : Nat) + 1 : Int)) :
    slSA ev (.str [48, 49, 50, 51, 52, 53, 54, 55, 56, 57, 97, 98, 99, 100, 101, 102, 103, 104, 105, 106, 107, 108, 109, 110, 111, 112, 113, 114, 115, 116, 117, 118, 119, 120, 121, 122]) (some a) (some b) = some (.str (dgs 20 n [])) := by
  have hs := List.all_eq_true.1 sml1 n (List.mem_range.2 hn)
  simp only [beq_iff_eq] at hs
  have c1 : (0 : Int) ≤ (n : Int) + 1 ∧ (n : Int) + 1 ≤ ((36 : Nat) : Int) := by omega
  have c2 : (0 : Int) ≤ (n : Int) ∧ (n : Int) ≤ ((n + 1 : Nat) : Int) := by omega
  have e1 : ((n : Int) + 1).toNat = n + 1 := by omega
  have hlen : ([48, 49, 50, 51, 52, 53, 54, 55, 56, 57, 97, 98, 99, 100, 101, 102, 103, 104, 105, 106, 107, 108, 109, 110, 111, 112, 113, 114, 115, 116, 117, 118, 119, 120, 121, 122] : List UInt8).length = 36 := rfl
  simp only [slSA, bounds, h1, h2, bnd, hlen, c1, and_self, if_true, e1, c2, Int.toNat_natCast, Option.map_some, hs]

theorem slS_two {ev : RO → AV} {a b : RO} {n : Nat} (h10 : 10 ≤ n) (hn : n < 100) (h1 : ev a = .int .i64 ((n : Nat) * 2 : Int)) (h2 : ev b = .int .i64 ((n : Nat) * 2 + 2 : Int)) :
    slSA ev (.str [48, 48, 48, 49, 48, 50, 48, 51, 48, 52, 48, 53, 48, 54, 48, 55, 48, 56, 48, 57, 49, 48, 49, 49, 49, 50, 49, 51, 49, 52, 49, 53, 49, 54, 49, 55, 49, 56, 49, 57, 50, 48, 50, 49, 50, 50, 50, 51, 50, 52, 50, 53, 50, 54, 50, 55, 50, 56, 50, 57, 51, 48, 51, 49, 51, 50, 51, 51, 51, 52, 51, 53, 51, 54, 51, 55, 51, 56, 51, 57, 52, 48, 52, 49, 52, 50, 52, 51, 52, 52, 52, 53, 52, 54, 52, 55, 52, 56, 52, 57, 53, 48, 53, 49, 53, 50, 53, 51, 53, 52, 53, 53, 53, 54, 53, 55, 53, 56, 53, 57, 54, 48, 54, 49, 54, 50, 54, 51, 54, 52, 54, 53, 54, 54, 54, 55, 54, 56, 54, 57, 55, 48, 55, 49, 55, 50, 55, 51, 55, 52, 55, 53, 55, 54, 55, 55, 55, 56, 55, 57, 56, 48, 56, 49, 56, 50, 56, 51, 56, 52, 56, 53, 56, 54, 56, 55, 56, 56, 56, 57, 57, 48, 57, 49, 57, 50, 57, 51, 57, 52, 57, 53, 57, 54, 57, 55, 57, 56, 57, 57]) (some a) (some b) = some (.str (dgs 20 n [])) := by
  have hs := List.all_eq_true.1 sml2 (n - 10) (List.mem_range.2 (by omega))
  simp only [beq_iff_eq] at hs
  have e0 : n - 10 + 10 = n := by omega
  rw [e0] at hs
  have c1 : (0 : Int) ≤ (n : Int) * 2 + 2 ∧ (n : Int) * 2 + 2 ≤ ((200 : Nat) : Int) := by omega
  have c2 : (0 : Int) ≤ (n : Int) * 2 ∧ (n : Int) * 2 ≤ ((2 * n + 2 : Nat) : Int) := by omega
  have e1 : ((n : Int) * 2 + 2).toNat = 2 * n + 2 := by omega
  have e2 : ((n : Int) * 2).toNat = 2 * n := by omega
  have hlen : ([48, 48, 48, 49, 48, 50, 48, 51, 48, 52, 48, 53, 48, 54, 48, 55, 48, 56, 48, 57, 49, 48, 49, 49, 49, 50, 49, 51, 49, 52, 49, 53, 49, 54, 49, 55, 49, 56, 49, 57, 50, 48, 50, 49, 50, 50, 50, 51, 50, 52, 50, 53, 50, 54, 50, 55, 50, 56, 50, 57, 51, 48, 51, 49, 51, 50, 51, 51, 51, 52, 51, 53, 51, 54, 51, 55, 51, 56, 51, 57, 52, 48, 52, 49, 52, 50, 52, 51, 52, 52, 52, 53, 52, 54, 52, 55, 52, 56, 52, 57, 53, 48, 53, 49, 53, 50, 53, 51, 53, 52, 53, 53, 53, 54, 53, 55, 53, 56, 53, 57, 54, 48, 54, 49, 54, 50, 54, 51, 54, 52, 54, 53, 54, 54, 54, 55, 54, 56, 54, 57, 55, 48, 55, 49, 55, 50, 55, 51, 55, 52, 55, 53, 55, 54, 55, 55, 55, 56, 55, 57, 56, 48, 56, 49, 56, 50, 56, 51, 56, 52, 56, 53, 56, 54, 56, 55, 56, 56, 56, 57, 57, 48, 57, 49, 57, 50, 57, 51, 57, 52, 57, 53, 57, 54, 57, 55, 57, 56, 57, 57] : List UInt8).length = 200 := rfl
  simp only [slSA, bounds, h1, h2, bnd, hlen, c1, and_self, if_true, e1, c2, e2, Option.map_some, hs]

theorem small_ok {h : AH} {n : Nat} (hn : n < 100) : C prg 30 [.int .i64 (n : Nat)] h fun v h' => v = .str (dgs 20 n []) ∧ h' = h := by
  refine C.func pf30 ?_
  refine W.seq (W.runs (fun ts h1 => h1 = h ∧ tget ts 0 = .int .i64 (n : Nat)) ?_ fun ts h1 ⟨eh, e0⟩ => ?_)
  · simp only [ckR_nil, evN_none, stps_nil, stps_cons, stp_some, putR_some, gd_true, wanted_none, dput_some, ev_c, okR_some, evOp, tget_tput, ↓reduceIte, reduceCtorEq, and_self, initTm]
  subst eh
  refine W.seq (W.seq (W.runs (fun ts h2 => h2 = h1 ∧ tget ts 0 = .int .i64 (n : Nat) ∧ tget ts 4 = .bool (decide (n < 10))) ?_ fun ts h2 ⟨eh, e0, e4⟩ => ?_))
  · have : decide ((n : Int) < 10) = decide (n < 10) := by congr 1; simp; omega
    simp only [ckR_nil, evN_none, stps_nil, stps_cons, stp_some, putR_some, gd_true, wanted_none, dput_some, ev_t, ev_c, okR_some, evOp, tget_tput, bin_lss, ↓reduceIte, Option.map_some, reduceCtorEq, and_self, e0, this]
  subst eh
  refine W.cond e4 (fun hc => ?_) fun hc => W.skip ?_
  · simp only [decide_eq_true_eq] at hc
    refine W.seq (W.runs (fun ts h3 => h3 = h2 ∧ tget ts 2 = .str (dgs 20 n [])) ?_ fun ts h3 ⟨eh, e2⟩ => W.ret ?_)
    · have hw : IntKind.i64.wrap ((n : Int) + 1) = (n : Int) + 1 := IntWalk.i64_in _ (by omega)
      simp only [ckR_nil, evN_none, stps_nil, stps_cons, stp_some, putR_some, gd_true, wanted_none, dput_some, ev_t, ev_c, evOp, tget_tput, bin_add, ↓reduceIte, Option.map_some, reduceCtorEq, e0, hw]
      rw [slS_one hc (by simp only [ev_t, tget_tput, ↓reduceIte, Nat.reduceEqDiff]) (by simp only [ev_t, tget_tput, ↓reduceIte])]
      simp only [ckR_nil, evN_none, stp_some, putR_some, gd_true, wanted_none, dput_some, ev_t, okR_some, evOp, tget_tput, ↓reduceIte, Option.map_some, and_self]
    · subst eh; exact ⟨_, by simp only [Am.results, rdAll, rdRes, e2, rf30], rfl, rfl⟩
  · simp only [decide_eq_false_iff_not] at hc
    refine W.seq (W.runs (fun ts h3 => h3 = h2 ∧ tget ts 2 = .str (dgs 20 n [])) ?_ fun ts h3 ⟨eh, e2⟩ => W.ret ?_)
    · have hw : IntKind.i64.wrap ((n : Int) * 2) = (n : Int) * 2 := IntWalk.i64_in _ (by omega)
      have hw2 : IntKind.i64.wrap ((n : Int) * 2 + 2) = (n : Int) * 2 + 2 := IntWalk.i64_in _ (by omega)
      simp only [ckR_nil, evN_none, stps_nil, stps_cons, stp_some, putR_some, gd_true, wanted_none, dput_some, ev_t, ev_c, evOp, tget_tput, bin_add, bin_mul, ↓reduceIte, Option.map_some, reduceCtorEq, e0, hw, hw2]
      rw [slS_two (by omega) hn (by simp only [ev_t, tget_tput, ↓reduceIte, Nat.reduceEqDiff]) (by simp only [ev_t, tget_tput, ↓reduceIte])]
      simp only [ckR_nil, evN_none, stp_some, putR_some, gd_true, wanted_none, dput_some, ev_t, okR_some, evOp, tget_tput, ↓reduceIte, Option.map_some, and_self]
    · subst eh; exact ⟨_, by simp only [Am.results, rdAll, rdRes, e2, rf30], rfl, rfl⟩

theorem format_ok {h : AH} {n : Nat} (hn : n < 100) : C prg 28 [.int .i64 (n : Nat), .int .i64 10] h fun v h' => v = .str (dgs 20 n []) ∧ h' = h := by
  refine C.func pf28 ?_
  refine W.seq (W.runs (fun ts h1 => h1 = h ∧ tget ts 0 = .int .i64 (n : Nat) ∧ tget ts 1 = .int .i64 10) ?_ fun ts h1 ⟨eh, e0, e1⟩ => ?_)
  · simp only [ckR_nil, evN_none, stps_nil, stps_cons, stp_some, putR_some, gd_true, wanted_none, dput_some, ev_c, okR_some, evOp, tget_tput, ↓reduceIte, Nat.reduceEqDiff, Nat.zero_add, reduceCtorEq, and_self, initTm]
  subst eh
  refine W.seq (W.seq (W.runs (fun ts h2 => h2 = h1 ∧ tget ts 0 = .int .i64 (n : Nat) ∧ tget ts 11 = .bool true) ?_ fun ts h2 ⟨eh, e0, e11⟩ => W.yes e11 ?_))
  · simp only [ckR_nil, evN_none, stps_nil, stps_cons, stp_some, putR_some, gd_true, wanted_none, dput_some, ev_t, ev_c, okR_some, evOp, tget_tput, bin_eql, ↓reduceIte, Option.map_some, reduceCtorEq, and_self, e0, e1, decide_true]
  subst eh
  refine W.seq (W.seq (W.runs (fun ts h3 => h3 = h2 ∧ tget ts 0 = .int .i64 (n : Nat) ∧ tget ts 17 = .bool true) ?_ fun ts h3 ⟨eh, e0, e17⟩ => W.yes e17 ?_))
  · have c1 : decide ((0 : Int) ≤ (n : Nat)) = true := by simp
    have c2 : decide (((n : Nat) : Int) < 100) = true := by simp; omega
    simp only [ckR_nil, evN_none, stps_nil, stps_cons, stp_some, putR_some, gd_true, wanted_none, wanted_some, dput_some, ev_t, ev_c, okR_some, evOp, tget_tput, pickA_true, bin_lss, bin_leq, ↓reduceIte, Nat.reduceEqDiff, Option.map_some, beq_true, reduceCtorEq, and_self, e0, c1, c2]
  subst eh
  refine W.seq (W.calls (fun ts h4 => h4 = h3 ∧ tget ts 4 = .str (dgs 20 n [])) ?_ fun ts h4 ⟨eh, e4⟩ => W.ret ?_)
  · refine G.op ?_
    simp only [ckR_nil, evN_none, stp_some, putR_some, gd_true, wanted_none, dput_some, ev_t, evOp, e0]
    refine G.call ?_
    simp only [dput_some, ev_t, tget_tput, ↓reduceIte, List.map_cons, List.map_nil]
    refine (small_ok hn).mono fun v h' ⟨ev, eh⟩ => ?_
    subst ev eh
    refine G.op ?_
    simp only [ckR_nil, evN_none, stp_some, putR_some, gd_true, wanted_none, dput_some, ev_t, evOp, tget_tput, ↓reduceIte]
    refine G.done ?_
    simp only [tget_tput, ↓reduceIte, and_self]
  · subst eh; exact ⟨_, by simp only [Am.results, rdAll, rdRes, e4, rf28], rfl, rfl⟩

theorem itoa1_ok {h : AH} {n : Nat} (hn : n < 100) : C prg 24 [.int .i64 (n : Nat)] h fun v h' => v = .str (dgs 20 n []) ∧ h' = h := by
  refine C.func pf24 ?_
  refine W.seq (W.runs (fun ts h1 => h1 = h ∧ tget ts 0 = .int .i64 (n : Nat)) ?_ fun ts h1 ⟨eh, e0⟩ => ?_)
  · simp only [ckR_nil, evN_none, stps_nil, stps_cons, stp_some, putR_some, gd_true, wanted_none, dput_some, ev_c, okR_some, evOp, tget_tput, ↓reduceIte, reduceCtorEq, and_self, initTm]
  subst eh
  refine W.seq (W.calls (fun ts h4 => h4 = h1 ∧ tget ts 2 = .str (dgs 20 n [])) ?_ fun ts h4 ⟨eh, e4⟩ => W.ret ?_)
  · refine G.op ?_
    simp only [ckR_nil, evN_none, stp_some, putR_some, gd_true, wanted_none, dput_some, ev_t, evOp, e0]
    refine G.call ?_
    simp only [dput_some, ev_t, ev_c, tget_tput, ↓reduceIte, List.map_cons, List.map_nil]
    refine (format_ok hn).mono fun v h' ⟨ev, eh⟩ => ?_
    subst ev eh
    refine G.op ?_
    simp only [ckR_nil, evN_none, stp_some, putR_some, gd_true, wanted_none, dput_some, ev_t, evOp, tget_tput, ↓reduceIte]
    refine G.done ?_
    simp only [tget_tput, ↓reduceIte, and_self]
  · subst eh; exact ⟨_, by simp only [Am.results, rdAll, rdRes, e4, rf24], rfl, rfl⟩

theorem itoa_ok {h : AH} {n : Nat} (hn : n < 100) : C prg 19 [.int .i64 (n : Nat)] h fun v h' => v = .str (dgs 20 n []) ∧ h' = h := by
  refine C.func pf19 ?_
  refine W.seq (W.runs (fun ts h1 => h1 = h ∧ tget ts 0 = .int .i64 (n : Nat)) ?_ fun ts h1 ⟨eh, e0⟩ => ?_)
  · simp only [ckR_nil, evN_none, stps_nil, stps_cons, stp_some, putR_some, gd_true, wanted_none, dput_some, ev_c, okR_some, evOp, tget_tput, ↓reduceIte, reduceCtorEq, and_self, initTm]
  subst eh
  refine W.seq (W.calls (fun ts h4 => h4 = h1 ∧ tget ts 2 = .str (dgs 20 n [])) ?_ fun ts h4 ⟨eh, e4⟩ => W.ret ?_)
  · refine G.op ?_
    simp only [ckR_nil, evN_none, stp_some, putR_some, gd_true, wanted_none, dput_some, ev_t, evOp, e0]
    refine G.call ?_
    simp only [dput_some, ev_t, tget_tput, ↓reduceIte, List.map_cons, List.map_nil]
    refine (itoa1_ok hn).mono fun v h' ⟨ev, eh⟩ => ?_
    subst ev eh
    refine G.op ?_
    simp only [ckR_nil, evN_none, stp_some, putR_some, gd_true, wanted_none, dput_some, ev_t, evOp, tget_tput, ↓reduceIte]
    refine G.done ?_
    simp only [tget_tput, ↓reduceIte, and_self]
  · subst eh; exact ⟨_, by simp only [Am.results, rdAll, rdRes, e4, rf19], rfl, rfl⟩

end Go.Proofs.YtloklfmgbolpeaaDoor
