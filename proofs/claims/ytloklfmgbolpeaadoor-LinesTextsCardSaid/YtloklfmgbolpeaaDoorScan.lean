/-
  The scanner.
-/
import Derived.Test.YtloklfmgbolpeaaDoorRf
import Derived.Test.YtloklfmgbolpeaaDoorAmS
import Derived.IntWalk
namespace Go.Proofs.YtloklfmgbolpeaaDoor
set_option linter.unusedVariables false
set_option linter.unusedSimpArgs false
open Go.Am

/-- A scanner: the text, what is left of it, is it bad? -/
def scn (txt rest : List UInt8) (bad : Bool) : AO := .cells [.str txt, .int .i64 ((txt.length - rest.length : Nat) : Int), .bool bad] 3 false

theorem rd_scn {h : AH} {s : Nat} {txt rest : List UInt8} {bad : Bool} (hs : h.get s = some (scn txt rest bad)) : rdCells h s 0 1 = some [.str txt] ∧ rdCells h s 1 1 = some [.int .i64 ((txt.length - rest.length : Nat) : Int)] ∧ rdCells h s 2 1 = some [.bool bad] := by
  simp [rdCells, hs, scn]

theorem at_rest {txt rest : List UInt8} (hr : rest <:+ txt) : txt.length - rest.length + rest.length = txt.length ∧ txt[txt.length - rest.length]? = rest.head? := by
  obtain ⟨pre, rfl⟩ := hr
  have e : (pre ++ rest).length - rest.length = pre.length := by simp
  rw [e]
  exact ⟨by simp, by rw [List.getElem?_append_right (Nat.le_refl _), Nat.sub_self, List.head?_eq_getElem?]⟩

theorem byte_eq (b c : UInt8) : decide ((b.toNat : Int) = (c.toNat : Int)) = (b == c) := by
  rw [Bool.eq_iff_iff]
  simp only [decide_eq_true_eq, beq_iff_eq, Int.natCast_inj]
  exact ⟨fun h => UInt8.toNat_inj.1 h, fun h => by rw [h]⟩

theorem is_ok {h : AH} {s : Nat} {txt rest : List UInt8} {bad : Bool} (hs : h.get s = some (scn txt rest bad)) (hr : rest <:+ txt) (c : UInt8) :
    C prg 27 [.ptr s 0, .int .u8 c.toNat] h fun v h' => v = .bool (rest.head? == some c) ∧ h' = h := by
  obtain ⟨r0, r1, r2⟩ := rd_scn hs
  obtain ⟨q1, q2⟩ := at_rest hr
  generalize txt.length - rest.length = a at *
  refine C.func pf27 ?_
  refine W.seq (W.runs (fun ts' h' => h' = h ∧ tget ts' 0 = .ptr s 0 ∧ tget ts' 1 = .int .u8 c.toNat) ?_ fun ts h' ⟨e0, e1, e2⟩ => ?_)
  · simp only [ckR_nil, evN_none, stps_nil, stps_cons, stp_some, putR_some, gd_true, wanted_none, dput_some, ev_c, okR_some, evOp, tget_tput, ↓reduceIte, Nat.reduceEqDiff, Nat.zero_add, reduceCtorEq, and_true, initTm]
  subst e0
  refine W.seq (W.runs (fun ts' h'' => h'' = h' ∧ tget ts' 4 = .bool (rest.head? == some c)) ?_ fun ts h' ⟨e0, e1⟩ => W.ret ?_)
  · cases rest with
    | nil =>
      have hd : decide ((a : Int) < txt.length) = false := by simp at q1 ⊢; omega
      simp only [ckR_nil, evN_none, stps_nil, stps_cons, stp_some, putR_some, gd_true, gd_false, wanted_none, wanted_some, dput_some, ev_t, ev_c, okR_some, evOp, tget_tput, loadA_ptr, fadrA_ptr, nilckA_ptr, packA_one, pickA_false, bin_lss, lenSA_str, ↓reduceIte, Nat.reduceEqDiff, Option.map_some, beq_true, Nat.zero_add, Nat.add_zero, reduceCtorEq, true_and, r0, r1, e1, e2, hd, List.head?_nil]
      rfl
    | cons b r =>
      have hd : decide ((a : Int) < txt.length) = true := by simp at q1 ⊢; omega
      have hz : (0 : Int) ≤ a := by omega
      simp only [ckR_nil, evN_none, stps_nil, stps_cons, stp_some, putR_some, gd_true, wanted_none, wanted_some, dput_some, ev_t, ev_c, okR_some, evOp, tget_tput, loadA_ptr, fadrA_ptr, nilckA_ptr, packA_one, pickA_true, bin_eql, bin_lss, lenSA_str, idxSA_str, ↓reduceIte, Nat.reduceEqDiff, Option.map_some, beq_true, Nat.zero_add, Nat.add_zero, reduceCtorEq, true_and, r0, r1, e1, e2, hd, List.head?_cons, hz, q2, Int.toNat_natCast]
      rw [byte_eq]; rfl
  · subst e0; exact ⟨_, by simp only [Am.results, rdAll, rdRes, e1, rf27], rfl, rfl⟩

/-! ### a digit -/
def isDig (c : UInt8) : Bool := decide (48 ≤ c.toNat) && decide (c.toNat ≤ 57)

def digHd : List UInt8 → Bool
  | [] => false
  | c :: _ => isDig c

theorem digit_ok {h : AH} {s : Nat} {txt rest : List UInt8} {bad : Bool} (hs : h.get s = some (scn txt rest bad)) (hr : rest <:+ txt) :
    C prg 26 [.ptr s 0] h fun v h' => v = .bool (digHd rest) ∧ h' = h := by
  obtain ⟨r0, r1, r2⟩ := rd_scn hs
  obtain ⟨q1, q2⟩ := at_rest hr
  generalize txt.length - rest.length = a at *
  refine C.func pf26 ?_
  refine W.seq (W.runs (fun ts' h' => h' = h ∧ tget ts' 0 = .ptr s 0) ?_ fun ts h' ⟨e0, e1⟩ => ?_)
  · simp only [ckR_nil, evN_none, stps_nil, stps_cons, stp_some, putR_some, gd_true, wanted_none, dput_some, ev_c, okR_some, evOp, tget_tput, ↓reduceIte, reduceCtorEq, and_true, initTm]
  subst e0
  refine W.seq (W.runs (fun ts' h'' => h'' = h' ∧ tget ts' 2 = .bool (digHd rest)) ?_ fun ts h' ⟨e0, e1⟩ => W.ret ?_)
  · cases rest with
    | nil =>
      have hd : decide ((a : Int) < txt.length) = false := by simp at q1 ⊢; omega
      simp only [ckR_nil, evN_none, stps_nil, stps_cons, stp_some, putR_some, gd_true, gd_false, wanted_none, wanted_some, dput_some, ev_t, ev_c, okR_some, evOp, tget_tput, loadA_ptr, fadrA_ptr, nilckA_ptr, packA_one, pickA_false, bin_lss, lenSA_str, ↓reduceIte, Nat.reduceEqDiff, Option.map_some, beq_true, Nat.zero_add, Nat.add_zero, reduceCtorEq, and_true, r0, r1, e1, hd, digHd]
    | cons b r =>
      have hd : decide ((a : Int) < txt.length) = true := by simp at q1 ⊢; omega
      have hz : (0 : Int) ≤ a := by omega
      by_cases h1 : (48 : Nat) ≤ b.toNat
      · have h1' : decide ((48 : Int) ≤ b.toNat) = true := by simp; omega
        simp only [ckR_nil, evN_none, stps_nil, stps_cons, stp_some, putR_some, gd_true, wanted_none, wanted_some, dput_some, ev_t, ev_c, okR_some, evOp, tget_tput, loadA_ptr, fadrA_ptr, nilckA_ptr, packA_one, pickA_true, bin_lss, bin_leq, bin_geq, lenSA_str, idxSA_str, ↓reduceIte, Nat.reduceEqDiff, Option.map_some, beq_true, Nat.zero_add, Nat.add_zero, reduceCtorEq, true_and, r0, r1, e1, hd, List.head?_cons, hz, q2, Int.toNat_natCast, h1', digHd, isDig, h1, decide_true, Bool.true_and]
        congr 1
        simp only [decide_eq_decide]
        omega
      · have h1' : decide ((48 : Int) ≤ b.toNat) = false := by simp; omega
        simp only [ckR_nil, evN_none, stps_nil, stps_cons, stp_some, putR_some, gd_true, gd_false, wanted_none, wanted_some, dput_some, ev_t, ev_c, okR_some, evOp, tget_tput, loadA_ptr, fadrA_ptr, nilckA_ptr, packA_one, pickA_true, pickA_false, bin_lss, bin_geq, lenSA_str, idxSA_str, ↓reduceIte, Nat.reduceEqDiff, Option.map_some, beq_true, Nat.zero_add, Nat.add_zero, reduceCtorEq, and_true, r0, r1, e1, hd, List.head?_cons, hz, q2, Int.toNat_natCast, h1', digHd, isDig, h1, decide_false, Bool.false_and]
  · subst e0; exact ⟨_, by simp only [Am.results, rdAll, rdRes, e1, rf26], rfl, rfl⟩

/-! ### stores -/
theorem wr_at {h : AH} {s : Nat} {txt r : List UInt8} {b : UInt8} {bad : Bool} {n : Int} (hs : h.get s = some (scn txt (b :: r) bad)) (hr : b :: r <:+ txt) (hn : n = ((txt.length - (b :: r).length : Nat) : Int) + 1) : wrCells h s 1 [.int .i64 n] = some (h.put s (scn txt r bad)) := by
  obtain ⟨q1, _⟩ := at_rest hr
  simp only [List.length_cons] at q1 hn
  rw [wrCells_of (hs.trans (by rw [scn]))]
  simp only [List.length_cons, List.length_nil, splice, List.take, List.drop, List.cons_append, List.nil_append, Nat.reduceAdd, Nat.reduceLeDiff, ↓reduceIte, scn]
  have : n = ((txt.length - r.length : Nat) : Int) := by omega
  rw [this]

theorem wr_bad {h : AH} {s : Nat} {txt r : List UInt8} {bad b : Bool} (hs : h.get s = some (scn txt r bad)) : wrCells h s 2 [.bool b] = some (h.put s (scn txt r b)) := by
  rw [wrCells_of (hs.trans (by rw [scn]))]
  simp only [List.length_cons, List.length_nil, splice, List.take, List.drop, List.cons_append, List.nil_append, Nat.reduceAdd, Nat.reduceLeDiff, ↓reduceIte, scn]

/-! ### taking a byte -/
def tk (c : UInt8) (rest : List UInt8) (bad : Bool) : List UInt8 × Bool :=
  if bad then (rest, true) else match rest with
    | [] => ([], true)
    | b :: r => if b = c then (r, false) else (b :: r, true)

theorem take_ok {h : AH} {s : Nat} {txt rest : List UInt8} {bad : Bool} (hs : h.get s = some (scn txt rest bad)) (hr : rest <:+ txt) (hl : txt.length < 2 ^ 62) (c : UInt8) :
    C prg 22 [.ptr s 0, .int .u8 c.toNat] h fun v h' => v = .tup [] ∧ Upd h h' s (scn txt (tk c rest bad).1 (tk c rest bad).2) := by
  obtain ⟨r0, r1, r2⟩ := rd_scn hs
  obtain ⟨q1, q2⟩ := at_rest hr
  refine C.func pf22 ?_
  refine W.seq (W.seq (W.runs (fun ts' h' => h' = h ∧ tget ts' 0 = .ptr s 0 ∧ tget ts' 1 = .int .u8 c.toNat ∧ tget ts' 7 = .bool bad) ?_ fun ts h' ⟨e0, e1, e2, e3⟩ => ?_))
  · simp only [ckR_nil, evN_none, stps_nil, stps_cons, stp_some, putR_some, gd_true, wanted_none, dput_some, ev_t, okR_some, evOp, tget_tput, loadA_ptr, fadrA_ptr, nilckA_ptr, packA_one, ↓reduceIte, Nat.reduceEqDiff, Option.map_some, Nat.zero_add, reduceCtorEq, and_true, initTm, r2]
  subst e0
  refine W.cond e3 (fun hb => ?_) (fun hb => ?_)
  · subst hb
    exact W.ret ⟨_, rfl, rfl, Upd.refl hs⟩
  subst hb
  refine W.skip (W.seq (W.seq (W.calls (fun ts' h'' => h'' = h' ∧ tget ts' 0 = .ptr s 0 ∧ tget ts' 11 = .bool !(rest.head? == some c)) ?_ fun ts h'' ⟨e0, e1, e2⟩ => ?_)))
  · refine G.op (G.op ?_)
    simp only [ckR_nil, evN_none, stp_some, putR_some, gd_true, wanted_none, dput_some, ev_t, evOp, tget_tput, ↓reduceIte, Nat.reduceEqDiff, e1, e2]
    refine G.call ?_
    simp only [dput_some, ev_t, tget_tput, ↓reduceIte, Nat.reduceEqDiff, List.map_cons, List.map_nil]
    refine (is_ok hs hr c).mono fun v h'' ⟨e4, e5⟩ => ?_
    subst e4 e5
    refine G.op ?_
    simp only [ckR_nil, evN_none, stp_some, putR_some, gd_true, wanted_none, dput_some, ev_t, evOp, tget_tput, unA_not, ↓reduceIte, Option.map_some]
    exact G.done ⟨rfl, by simp only [tget_tput, ↓reduceIte, reduceCtorEq, e1], by simp only [tget_tput, ↓reduceIte]⟩
  subst e0
  refine W.cond e2 (fun hb => ?_) (fun hb => ?_)
  · have ht : tk c rest false = (rest, true) := by
      cases rest with
      | nil => rfl
      | cons b r =>
        have : ¬ b = c := by simpa using hb
        simp [tk, this]
    refine W.seq (W.runs (fun ts' h1 => Upd h'' h1 s (scn txt rest true)) ?_ fun ts h1 e3 => W.ret ⟨_, rfl, rfl, by rw [ht]; exact e3⟩)
    simp only [ckR_nil, evN_none, stps_nil, stps_cons, stp_some, putR_some, gd_true, wanted_none, dput_some, dput_none, ev_t, ev_c, okR_some, evOp, tget_tput, fadrA_ptr, nilckA_ptr, storeA_ptr, ↓reduceIte, Option.map_some, Nat.zero_add, and_true, e1, AV.cells, List.length_cons, List.length_nil, List.all_cons, List.all_nil, AV.one, Bool.and_true, wr_bad hs]
    exact Upd.put hs
  · obtain ⟨r, rfl⟩ : ∃ r, rest = c :: r := by
      cases rest with
      | nil => simp at hb
      | cons b r => exact ⟨r, by simp at hb; rw [hb]⟩
    have ht : tk c (c :: r) false = (r, false) := by simp [tk]
    refine W.skip (W.runs (fun ts' h1 => Upd h'' h1 s (scn txt r false)) ?_ fun ts h1 e3 => ⟨_, rfl, rfl, by rw [ht]; exact e3⟩)
    have hw : IntKind.i64.wrap (((txt.length - (c :: r).length : Nat) : Int) + 1) = ((txt.length - (c :: r).length : Nat) : Int) + 1 := IntWalk.i64_in _ (by simp only [List.length_cons] at q1 ⊢; omega)
    simp only [ckR_nil, evN_none, stps_nil, stps_cons, stp_some, putR_some, gd_true, wanted_none, dput_some, ev_t, ev_c, evOp, tget_tput, loadA_ptr, fadrA_ptr, nilckA_ptr, packA_one, bin_add, storeA_ptr, ↓reduceIte, Nat.reduceEqDiff, Option.map_some, Nat.zero_add, and_true, e1, r1, AV.cells, List.length_cons, List.length_nil, List.all_cons, List.all_nil, AV.one, Bool.and_true]
    simp only [List.length_cons] at hw
    rw [hw, wr_at hs hr (by simp only [List.length_cons])]
    exact Upd.put hs

end Go.Proofs.YtloklfmgbolpeaaDoor
