/-
  The scanner's numbers.
-/
import Derived.Test.YtloklfmgbolpeaaDoorScan
namespace Go.Proofs.YtloklfmgbolpeaaDoor
set_option linter.unusedVariables false
set_option linter.unusedSimpArgs false
open Go.Am

/-- the digits from here on, behind a number: the number, what is left, is it bad? -/
def numLoop : Nat → List UInt8 → Nat × List UInt8 × Bool
  | n, [] => (n, [], false)
  | n, c :: r =>
    if isDig c then
      if 999999 < 10 * n + (c.toNat - 48) then (0, c :: r, true) else numLoop (10 * n + (c.toNat - 48)) r
    else (n, c :: r, false)

def num (rest : List UInt8) (bad : Bool) : Nat × List UInt8 × Bool :=
  if bad then (0, rest, true) else match rest with
    | [] => (0, [], true)
    | c :: r => if isDig c then (if c = 48 then (0, r, false) else numLoop 0 (c :: r)) else (0, c :: r, true)

theorem suf_tail {b : UInt8} {r txt : List UInt8} (h : b :: r <:+ txt) : r <:+ txt := (List.suffix_cons b r).trans h

theorem numLoop_suf : ∀ (rest : List UInt8) (n : Nat), (numLoop n rest).2.1 <:+ rest
  | [], n => by simp [numLoop]
  | c :: r, n => by
    unfold numLoop
    split
    · split
      · exact List.suffix_refl _
      · exact (numLoop_suf r _).trans (List.suffix_cons c r)
    · exact List.suffix_refl _

theorem num_suf (rest : List UInt8) (bad : Bool) : (num rest bad).2.1 <:+ rest := by
  unfold num
  split
  · exact List.suffix_refl _
  · split
    · exact List.suffix_refl _
    · split
      · split
        · exact List.suffix_cons _ _
        · exact numLoop_suf _ _
      · exact List.suffix_refl _

theorem tk_suf (c : UInt8) (rest : List UInt8) (bad : Bool) : (tk c rest bad).1 <:+ rest := by
  unfold tk
  split
  · exact List.suffix_refl _
  · split
    · exact List.suffix_refl _
    · split
      · exact List.suffix_cons _ _
      · exact List.suffix_refl _

theorem isDig_iff {c : UInt8} : isDig c = true ↔ 48 ≤ c.toNat ∧ c.toNat ≤ 57 := by simp [isDig]

/-- the value of a digit, as the machine computes it -/
theorem dig_val {b : UInt8} (hd : isDig b = true) : IntKind.u8.wrap ((b.toNat : Int) - 48) = ((b.toNat - 48 : Nat) : Int) := by
  have h := isDig_iff.1 hd
  rw [IntWalk.u8_in _ (by omega)]
  omega

set_option maxRecDepth 4000 in
theorem number_ok {h : AH} {s : Nat} {txt rest : List UInt8} {bad : Bool} (hs : h.get s = some (scn txt rest bad)) (hr : rest <:+ txt) (hl : txt.length < 2 ^ 62) :
    C prg 21 [.ptr s 0] h fun v h' => v = .int .i64 ((num rest bad).1 : Nat) ∧ Upd h h' s (scn txt (num rest bad).2.1 (num rest bad).2.2) := by
  obtain ⟨r0, r1, r2⟩ := rd_scn hs
  refine C.func pf21 ?_
  refine W.seq (W.runs (fun ts' h' => h' = h ∧ tget ts' 0 = .ptr s 0 ∧ tget ts' 2 = .int .i64 0) ?_ fun ts h' ⟨e0, e1, e6⟩ => ?_)
  · simp only [ckR_nil, evN_none, stps_nil, stps_cons, stp_some, putR_some, gd_true, wanted_none, dput_some, ev_c, okR_some, evOp, tget_tput, ↓reduceIte, reduceCtorEq, and_true, initTm]
  subst e0
  refine W.seq (W.seq (W.runs (fun ts' h'' => h'' = h' ∧ tget ts' 0 = .ptr s 0 ∧ tget ts' 2 = .int .i64 0 ∧ tget ts' 7 = .bool bad) ?_ fun ts h' ⟨e0, e1, e6, e3⟩ => ?_))
  · simp only [ckR_nil, evN_none, stps_nil, stps_cons, stp_some, putR_some, gd_true, wanted_none, dput_some, ev_t, okR_some, evOp, tget_tput, loadA_ptr, fadrA_ptr, nilckA_ptr, packA_one, ↓reduceIte, Nat.reduceEqDiff, Option.map_some, Nat.zero_add, reduceCtorEq, and_true, e1, e6, r2]
  subst e0
  refine W.cond e3 (fun hb => ?_) (fun hb => ?_)
  · subst hb
    refine W.seq (W.runs (fun ts' h'' => h'' = h' ∧ tget ts' 2 = .int .i64 0) ?_ fun ts h' ⟨e0, e1⟩ => W.ret ?_)
    · simp only [ckR_nil, evN_none, stps_nil, stps_cons, stp_some, putR_some, gd_true, wanted_none, dput_some, ev_c, okR_some, evOp, tget_tput, ↓reduceIte, and_true]
    · subst e0
      exact ⟨.int .i64 0, by simp only [Am.results, rdAll, rdRes, e1, rf21], rfl, Upd.refl hs⟩
  subst hb
  refine W.skip (W.seq (W.seq (W.calls (fun ts' h'' => h'' = h' ∧ tget ts' 0 = .ptr s 0 ∧ tget ts' 2 = .int .i64 0 ∧ tget ts' 10 = .bool !(digHd rest)) ?_ fun ts h'' ⟨e0, e1, e6, e2⟩ => ?_)))
  · refine G.op ?_
    simp only [ckR_nil, evN_none, stp_some, putR_some, gd_true, wanted_none, dput_some, ev_t, evOp, e1]
    refine G.call ?_
    simp only [dput_some, ev_t, tget_tput, ↓reduceIte, List.map_cons, List.map_nil]
    refine (digit_ok hs hr).mono fun v h'' ⟨e4, e5⟩ => ?_
    subst e4 e5
    refine G.op ?_
    simp only [ckR_nil, evN_none, stp_some, putR_some, gd_true, wanted_none, dput_some, ev_t, evOp, tget_tput, unA_not, ↓reduceIte, Option.map_some]
    exact G.done ⟨rfl, by simp only [tget_tput, ↓reduceIte, reduceCtorEq, e1], by simp only [tget_tput, ↓reduceIte, Nat.reduceEqDiff, e6], by simp only [tget_tput, ↓reduceIte]⟩
  subst e0
  refine W.cond e2 (fun hb => ?_) (fun hb => ?_)
  · have ht : num rest false = (0, rest, true) := by
      cases rest with
      | nil => rfl
      | cons b r =>
        have : isDig b = false := by simpa [digHd] using hb
        simp [num, this]
    refine W.seq (W.runs (fun ts' h1 => Upd h'' h1 s (scn txt rest true)) ?_ fun ts h1 e3 => ?_)
    · simp only [ckR_nil, evN_none, stps_nil, stps_cons, stp_some, putR_some, gd_true, wanted_none, dput_some, dput_none, ev_t, ev_c, okR_some, evOp, tget_tput, fadrA_ptr, nilckA_ptr, storeA_ptr, ↓reduceIte, Option.map_some, Nat.zero_add, and_true, e1, AV.cells, List.length_cons, List.length_nil, List.all_cons, List.all_nil, AV.one, Bool.and_true, wr_bad hs]
      exact Upd.put hs
    refine W.seq (W.runs (fun ts' h2 => h2 = h1 ∧ tget ts' 2 = .int .i64 0) ?_ fun ts h2 ⟨e0, e1⟩ => W.ret ?_)
    · simp only [ckR_nil, evN_none, stps_nil, stps_cons, stp_some, putR_some, gd_true, wanted_none, dput_some, ev_c, okR_some, evOp, tget_tput, ↓reduceIte, and_true]
    · subst e0
      exact ⟨.int .i64 0, by simp only [Am.results, rdAll, rdRes, e1, rf21], by rw [ht]; rfl, by rw [ht]; exact e3⟩
  obtain ⟨b, r, rfl⟩ : ∃ b r, rest = b :: r := by
    cases rest with
    | nil => simp [digHd] at hb
    | cons b r => exact ⟨b, r, rfl⟩
  have hd : isDig b = true := by simpa [digHd] using hb
  refine W.skip (W.seq (W.seq (W.calls (fun ts' h1 => h1 = h'' ∧ tget ts' 0 = .ptr s 0 ∧ tget ts' 2 = .int .i64 0 ∧ tget ts' 15 = .bool (b == 48)) ?_ fun ts h1 ⟨e0, e1, e7, e3⟩ => ?_)))
  · refine G.op ?_
    simp only [ckR_nil, evN_none, stp_some, putR_some, gd_true, wanted_none, dput_some, ev_t, evOp, e1]
    refine G.call ?_
    simp only [dput_some, ev_t, ev_c, tget_tput, ↓reduceIte, List.map_cons, List.map_nil]
    refine (is_ok hs hr 48).mono fun v h'' ⟨e4, e5⟩ => ?_
    subst e4 e5
    exact G.done ⟨rfl, by simp only [tget_tput, ↓reduceIte, reduceCtorEq, e1], by simp only [tget_tput, ↓reduceIte, Nat.reduceEqDiff, e6], by simp only [tget_tput, ↓reduceIte]; rfl⟩
  subst e0
  refine W.cond e3 (fun hb => ?_) (fun hb => ?_)
  · have hb : b = 48 := by simpa using hb
    subst hb
    have ht : num (48 :: r) false = (0, r, false) := by simp [num, hd]
    refine W.seq (W.runs (fun ts' h2 => Upd h1 h2 s (scn txt r false)) ?_ fun ts h2 e3 => ?_)
    · have hw : IntKind.i64.wrap (((txt.length - (48 :: r).length : Nat) : Int) + 1) = ((txt.length - (48 :: r).length : Nat) : Int) + 1 := IntWalk.i64_in _ (by have := (at_rest hr).1; simp only [List.length_cons] at this ⊢; omega)
      simp only [ckR_nil, evN_none, stps_nil, stps_cons, stp_some, putR_some, gd_true, wanted_none, dput_some, ev_t, ev_c, evOp, tget_tput, loadA_ptr, fadrA_ptr, nilckA_ptr, packA_one, bin_add, storeA_ptr, ↓reduceIte, Nat.reduceEqDiff, Option.map_some, Nat.zero_add, and_true, e1, r1, AV.cells, List.length_cons, List.length_nil, List.all_cons, List.all_nil, AV.one, Bool.and_true]
      simp only [List.length_cons] at hw
      rw [hw, wr_at hs hr (by simp only [List.length_cons])]
      exact Upd.put hs
    refine W.seq (W.runs (fun ts' h3 => h3 = h2 ∧ tget ts' 2 = .int .i64 0) ?_ fun ts h2 ⟨e0, e1⟩ => W.ret ?_)
    · simp only [ckR_nil, evN_none, stps_nil, stps_cons, stp_some, putR_some, gd_true, wanted_none, dput_some, ev_c, okR_some, evOp, tget_tput, ↓reduceIte, and_true]
    · subst e0
      exact ⟨.int .i64 0, by simp only [Am.results, rdAll, rdRes, e1, rf21], by rw [ht]; rfl, by rw [ht]; exact e3⟩
  have hb : ¬ b = 48 := by simpa using hb
  have ht : num (b :: r) false = numLoop 0 (b :: r) := by simp [num, hd, hb]
  rw [ht]
  clear ht hb hd
  generalize hrest : b :: r = rest at *
  clear hrest
  refine W.skip (W.seq (W.block (W.loop (fun m ts h' => ∃ n rest', m = rest'.length ∧ n ≤ 999999 ∧ rest' <:+ txt ∧ numLoop n rest' = numLoop 0 rest ∧ tget ts 0 = .ptr s 0 ∧ tget ts 2 = .int .i64 (n : Nat) ∧ Upd h1 h' s (scn txt rest' false)) ?_
    (n := rest.length) ⟨0, rest, rfl, by omega, hr, rfl, e1, e7, Upd.refl hs⟩)))
  clear e1 e2 e3 e6 e7
  rintro m ts h2 ⟨n, rest', rfl, hn, hr', hR, e1, e2, hu⟩
  have hs2 := hu.get
  obtain ⟨r0, r1, r2⟩ := rd_scn hs2
  refine W.seq (W.seq (W.calls (fun ts' h3 => h3 = h2 ∧ tget ts' 0 = .ptr s 0 ∧ tget ts' 2 = .int .i64 (n : Nat) ∧ tget ts' 24 = .bool (digHd rest')) ?_ fun ts h3 ⟨e0, e1, e2, e3⟩ => ?_))
  · refine G.op ?_
    simp only [ckR_nil, evN_none, stp_some, putR_some, gd_true, wanted_none, dput_some, ev_t, evOp, e1]
    refine G.call ?_
    simp only [dput_some, ev_t, tget_tput, ↓reduceIte, List.map_cons, List.map_nil]
    refine (digit_ok hs2 hr').mono fun v h'' ⟨e4, e5⟩ => ?_
    subst e4 e5
    exact G.done ⟨rfl, by simp only [tget_tput, ↓reduceIte, reduceCtorEq, e1], by simp only [tget_tput, ↓reduceIte, Nat.reduceEqDiff, e2], by simp only [tget_tput, ↓reduceIte]⟩
  subst e0
  refine W.cond e3 (fun hb => ?_) (fun hb => ?_)
  · obtain ⟨b, r, rfl⟩ : ∃ b r, rest' = b :: r := by
      cases rest' with
      | nil => simp [digHd] at hb
      | cons b r => exact ⟨b, r, rfl⟩
    have hd : isDig b = true := hb
    have hdv := isDig_iff.1 hd
    have ha := at_rest hr'
    refine W.skip (W.block (W.seq (W.runs (fun ts' h4 => h4 = h3 ∧ tget ts' 0 = .ptr s 0 ∧ tget ts' 3 = .int .i64 ((10 * n + (b.toNat - 48) : Nat) : Int)) ?_ fun ts h4 ⟨e0, e1, e2⟩ => ?_)))
    · have hz : (0 : Int) ≤ ((txt.length - (b :: r).length : Nat) : Int) := by omega
      simp only [ckR_nil, evN_none, stps_nil, stps_cons, stp_some, putR_some, gd_true, wanted_none, dput_some, ev_t, ev_c, okR_some, evOp, tget_tput, loadA_ptr, fadrA_ptr, nilckA_ptr, packA_one, bin_add, bin_sub, bin_mul, cvIA_int, idxSA_str, ↓reduceIte, Nat.reduceEqDiff, Option.map_some, Nat.zero_add, Nat.add_zero, reduceCtorEq, true_and, e1, e2, r0, r1, hz, Int.toNat_natCast, ha.2, List.head?_cons, dig_val hd]
      rw [IntWalk.i64_in (10 * (n : Int)) (by omega), IntWalk.i64_in ((b.toNat - 48 : Nat) : Int) (by omega), IntWalk.i64_in _ (by omega)]
      exact congrArg _ (by omega)
    subst e0
    refine W.seq (W.seq (W.runs (fun ts' h5 => h5 = h4 ∧ tget ts' 0 = .ptr s 0 ∧ tget ts' 3 = .int .i64 ((10 * n + (b.toNat - 48) : Nat) : Int) ∧ tget ts' 40 = .bool (decide (999999 < 10 * n + (b.toNat - 48)))) ?_ fun ts h5 ⟨e0, e1, e2, e3⟩ => ?_))
    · simp only [ckR_nil, evN_none, stps_nil, stps_cons, stp_some, putR_some, gd_true, wanted_none, dput_some, ev_t, ev_c, okR_some, evOp, tget_tput, bin_gtr, ↓reduceIte, Nat.reduceEqDiff, Option.map_some, reduceCtorEq, true_and, e1, e2]
      congr 1
      simp only [decide_eq_decide]
      omega
    subst e0
    refine W.cond e3 (fun hb => ?_) (fun hb => ?_)
    · have hb : 999999 < 10 * n + (b.toNat - 48) := by simpa using hb
      have ht : numLoop 0 rest = (0, b :: r, true) := by
        rw [← hR]; simp [numLoop, hd, hb]
      refine W.seq (W.runs (fun ts' h6 => Upd h5 h6 s (scn txt (b :: r) true)) ?_ fun ts h6 e3 => ?_)
      · simp only [ckR_nil, evN_none, stps_nil, stps_cons, stp_some, putR_some, gd_true, wanted_none, dput_some, dput_none, ev_t, ev_c, okR_some, evOp, tget_tput, fadrA_ptr, nilckA_ptr, storeA_ptr, ↓reduceIte, Option.map_some, Nat.zero_add, and_true, e1, AV.cells, List.length_cons, List.length_nil, List.all_cons, List.all_nil, AV.one, Bool.and_true, wr_bad hs2]
        exact Upd.put hs2
      refine W.seq (W.runs (fun ts' h7 => h7 = h6 ∧ tget ts' 2 = .int .i64 0) ?_ fun ts h2 ⟨e0, e1⟩ => W.ret ?_)
      · simp only [ckR_nil, evN_none, stps_nil, stps_cons, stp_some, putR_some, gd_true, wanted_none, dput_some, ev_c, okR_some, evOp, tget_tput, ↓reduceIte, and_true]
      · subst e0
        exact ⟨.int .i64 0, by simp only [Am.results, rdAll, rdRes, e1, rf21], by rw [ht]; rfl, by rw [ht]; exact hu.trans e3⟩
    · have hb : ¬ 999999 < 10 * n + (b.toNat - 48) := by simpa using hb
      refine W.skip (W.seq (W.runs (fun ts' h6 => h6 = h5 ∧ tget ts' 0 = .ptr s 0 ∧ tget ts' 2 = .int .i64 ((10 * n + (b.toNat - 48) : Nat) : Int)) ?_ fun ts h6 ⟨e0, e1, e2⟩ => ?_))
      · simp only [ckR_nil, evN_none, stps_nil, stps_cons, stp_some, putR_some, gd_true, wanted_none, dput_some, ev_t, okR_some, evOp, tget_tput, ↓reduceIte, reduceCtorEq, and_true, e1, e2]
      subst e0
      refine W.runs (fun ts' h7 => Upd h6 h7 s (scn txt r false) ∧ tget ts' 0 = .ptr s 0 ∧ tget ts' 2 = .int .i64 ((10 * n + (b.toNat - 48) : Nat) : Int)) ?_ fun ts h7 ⟨e0, e1, e2⟩ => ?_
      · have hw : IntKind.i64.wrap (((txt.length - (b :: r).length : Nat) : Int) + 1) = ((txt.length - (b :: r).length : Nat) : Int) + 1 := IntWalk.i64_in _ (by have := ha.1; simp only [List.length_cons] at this ⊢; omega)
        simp only [ckR_nil, evN_none, stps_nil, stps_cons, stp_some, putR_some, gd_true, wanted_none, dput_some, ev_t, ev_c, evOp, tget_tput, loadA_ptr, fadrA_ptr, nilckA_ptr, packA_one, bin_add, storeA_ptr, ↓reduceIte, Nat.reduceEqDiff, Option.map_some, Nat.zero_add, and_true, e1, r1, AV.cells, List.length_cons, List.length_nil, List.all_cons, List.all_nil, AV.one, Bool.and_true]
        simp only [List.length_cons] at hw
        rw [hw, wr_at hs2 hr' (by simp only [List.length_cons])]
        simp only [putR_some, dput_none, okR_some, tget_tput, ↓reduceIte, Nat.reduceEqDiff, Option.map_some, reduceCtorEq, and_true, e1, e2]
        exact Upd.put hs2
      exact ⟨r.length, by simp, 10 * n + (b.toNat - 48), r, rfl, by omega, suf_tail hr', by rw [← hR]; simp [numLoop, hd, hb], e1, e2, hu.trans e0⟩
  · have ht : numLoop 0 rest = (n, rest', false) := by
      rw [← hR]
      cases rest' with
      | nil => rfl
      | cons b r =>
        have : isDig b = false := hb
        simp [numLoop, this]
    refine W.exit ⟨fun _ => ?_, fun e => absurd rfl e⟩
    refine W.seq (W.runs (fun ts' h6 => h6 = h3 ∧ tget ts' 2 = .int .i64 (n : Nat)) ?_ fun ts h6 ⟨e0, e1⟩ => W.ret ?_)
    · simp only [ckR_nil, evN_none, stps_nil, stps_cons, stp_some, putR_some, gd_true, wanted_none, dput_some, ev_t, okR_some, evOp, tget_tput, ↓reduceIte, and_true, e2]
    · subst e0
      exact ⟨.int .i64 (n : Nat), by simp only [Am.results, rdAll, rdRes, e1, rf21], by rw [ht], by rw [ht]; exact hu⟩

end Go.Proofs.YtloklfmgbolpeaaDoor
