/-
  Graphs that came in; ref.May, ref.Fits.
-/
import Derived.Test.YtloklfmgbolpeaaDoorRead
import Derived.IntWalk
namespace Go.Proofs.YtloklfmgbolpeaaDoor
set_option linter.unusedVariables false
set_option linter.unusedSimpArgs false
open Go.Am

def edgI (e : Int × Int) : List AV := [.int .i64 e.1, .int .i64 e.2]
def flatI (es : List (Int × Int)) : List AV := es.flatMap edgI

theorem flatI_len (es : List (Int × Int)) : (flatI es).length = es.length * 2 := by
  induction es with
  | nil => rfl
  | cons e r ih => simp only [flatI, List.flatMap_cons, List.length_append, List.length_cons] at ih ⊢; rw [ih]; simp [edgI]; omega

theorem flatI_at : ∀ (es : List (Int × Int)) (k : Nat) (e : Int × Int), es[k]? = some e → ((flatI es).drop (k * 2)).take 2 = edgI e
  | [], k, e, h => by simp at h
  | f :: r, 0, e, h => by simp at h; subst h; simp [flatI, edgI]
  | f :: r, k + 1, e, h => by
    have := flatI_at r k e (by simpa using h)
    rw [← this]
    have e2 : (k + 1) * 2 = k * 2 + 1 + 1 := by omega
    simp only [flatI, List.flatMap_cons, edgI, List.cons_append, List.nil_append, e2, List.drop_succ_cons]

/-- Edges, as they lie in memory. -/
def EdgesAt (h : AH) (ev : AV) (es : List (Int × Int)) : Prop :=
  (es = [] ∧ ev = .nils) ∨ ∃ b n ro, ev = .sl b 0 n n ∧ h.get b = some (.cells (flatI es) 2 ro) ∧ n = es.length

theorem EdgesAt.ext {h h' : AH} {n : Nat} {ev : AV} {es : List (Int × Int)} (he : EdgesAt h ev es) (hx : Ext n h h') (hn : h.next ≤ n) : EdgesAt h' ev es := by
  rcases he with he | ⟨b, m, ro, h1, h2, h3⟩
  · exact .inl he
  · exact .inr ⟨b, m, ro, h1, by rw [hx.2 _ (by have := AH.lt_of_get h2; omega)]; exact h2, h3⟩

theorem EdgesAt.len {h : AH} {ev : AV} {es : List (Int × Int)} (he : EdgesAt h ev es) : lenLA ev = some (.int .i64 (es.length : Nat)) := by
  rcases he with ⟨rfl, rfl⟩ | ⟨b, m, ro, rfl, h2, rfl⟩ <;> rfl

theorem EdgesAt.cells {h : AH} {ev : AV} {es : List (Int × Int)} (he : EdgesAt h ev es) : ev.cells = [ev] ∧ ev.one = true := by
  rcases he with ⟨_, rfl⟩ | ⟨b, m, ro, rfl, h2, _⟩ <;> exact ⟨rfl, rfl⟩

theorem EdgesAt.at {h : AH} {ev : AV} {es : List (Int × Int)} (he : EdgesAt h ev es) {k : Nat} {e : Int × Int} (hk : es[k]? = some e) :
    ∃ b, iadrL 2 ev (.int .i64 (k : Nat)) = some (.ptr b (k * 2)) ∧ rdCells h b (k * 2) 2 = some (edgI e) ∧ rdCells h b (k * 2) 1 = some [.int .i64 e.1] ∧ rdCells h b (k * 2 + 1) 1 = some [.int .i64 e.2] := by
  have hkl : k < es.length := (List.getElem?_eq_some_iff.1 hk).1
  rcases he with ⟨rfl, _⟩ | ⟨b, n, ro, rfl, h2, rfl⟩
  · simp at hkl
  · have hl := flatI_len es
    have h2a := flatI_at es k e hk
    refine ⟨b, ?_, ?_, ?_, ?_⟩
    · have c : (0 : Int) ≤ (k : Nat) ∧ ((k : Nat) : Int) < (es.length : Nat) := by omega
      simp only [iadrL_sl, idx?, c, and_self, if_true, Int.toNat_natCast, Option.map_some, Nat.zero_add]
    · rw [rdCells_of h2, if_pos (by omega), h2a]
    · rw [rdCells_of h2, if_pos (by omega)]
      have : ((flatI es).drop (k * 2)).take 1 = (((flatI es).drop (k * 2)).take 2).take 1 := by simp [List.take_take]
      rw [this, h2a]; rfl
    · rw [rdCells_of h2, if_pos (by omega)]
      have : ((flatI es).drop (k * 2 + 1)).take 1 = ((((flatI es).drop (k * 2)).take 2).drop 1).take 1 := by
        rw [List.drop_take, List.drop_drop, List.take_take]
        simp
      rw [this, h2a]; rfl

theorem IsSl.edges {h : AH} {lo : Nat} {v : AV} {es : List (Nat × Nat)} (hv : IsSl h 2 lo v (flat es)) : EdgesAt h v (es.map fun e => ((e.1 : Int), (e.2 : Int))) := by
  have hf : flatI (es.map fun e => ((e.1 : Int), (e.2 : Int))) = flat es := by
    simp only [flatI, flat, List.flatMap_map]
    rfl
  rcases hv with ⟨rfl, h2⟩ | ⟨b, n, _, rfl, h3, h4⟩
  · have := congrArg List.length h2
    rw [flat_len] at this
    simp at this
    exact .inl ⟨by cases es with | nil => rfl | cons a r => simp at this, rfl⟩
  · rw [flat_len] at h4
    exact .inr ⟨b, n, false, rfl, by rw [hf]; exact h3, by rw [List.length_map]; omega⟩

/-- May it be an edge of a graph of so many vertices? -/
def okE (v : Int) (e : Int × Int) : Bool := decide (0 ≤ e.1) && decide (0 ≤ e.2) && decide (e.1 < v) && decide (e.2 < v)
def mayB (v : Int) (es : List (Int × Int)) : Bool := decide (1 ≤ v) && decide (v ≤ 64) && decide (es.length ≤ 128) && es.all (okE v)

theorem all_take {v : Int} {es : List (Int × Int)} {i : Nat} {e : Int × Int} (hi : es[i]? = some e) : (es.take (i + 1)).all (okE v) = ((es.take i).all (okE v) && okE v e) := by
  rw [List.take_add_one, hi]
  simp

theorem may_ok {h : AH} {v : Int} {ev : AV} {es : List (Int × Int)} (he : EdgesAt h ev es) : C prg 6 [.agg [.int .i64 v, ev]] h fun r h' => r = .bool (mayB v es) ∧ Ext h.next h h' := by
  refine C.func pf6 ?_
  have hc := he.cells
  refine W.seq (W.runs (fun ts h1 => tget ts 1 = .ptr h.next 0 ∧ h1.get h.next = some (gbox v ev) ∧ h1.next = h.next + 1 ∧ Ext h.next h h1) ?_ fun ts h1 ⟨e1, g1, n1, ex⟩ => ?_)
  · simp only [ckR_nil, evN_none, stps_nil, stps_cons, stp_some, putR_some, gd_true, wanted_none, dput_some, ev_t, ev_c, okR_some, evOp, tget_tput, ↓reduceIte, Nat.reduceEqDiff, Nat.zero_add, Nat.reduceAdd, true_and, boxA, cells_agg, List.length_cons, List.length_nil, AH.next_new, initTm]
    refine ⟨?_, Ext.new (Nat.le_refl _)⟩
    rw [AH.get_new, if_pos rfl]
  have he1 := he.ext ex (Nat.le_refl _)
  have hl := he1.len
  have hcd : ∀ {P : Tm → AH → Prop}, True := trivial
  refine W.seq (W.seq (W.runs (fun ts h2 => h2 = h1 ∧ tget ts 1 = .ptr h.next 0 ∧ tget ts 18 = .bool (!(decide (1 ≤ v) && decide (v ≤ 64) && decide (es.length ≤ 128)))) ?_ fun ts h2 ⟨eh, e1, e18⟩ => ?_))
  · by_cases c1 : v < 1
    · have d1 : decide (v < 1) = true := decide_eq_true c1
      have d2 : decide (1 ≤ v) = false := decide_eq_false (by omega)
      simp only [ckR_nil, evN_none, stps_nil, stps_cons, stp_some, putR_some, gd_true, gd_false, wanted_none, wanted_some, dput_some, ev_t, ev_c, okR_some, evOp, tget_tput, loadA_ptr, fadrA_ptr, packA_one, pickA_true, bin_lss, ↓reduceIte, Nat.reduceEqDiff, Option.map_some, beq_false, Bool.not_true, Bool.not_false, Nat.zero_add, Nat.add_zero, and_self, AV.un, e1, (rd2 g1).2.1, d1, d2, Bool.false_and]
    · have d1 : decide (v < 1) = false := decide_eq_false c1
      have d2 : decide (1 ≤ v) = true := decide_eq_true (by omega)
      by_cases c2 : 64 < v
      · have d3 : decide (64 < v) = true := decide_eq_true c2
        have d4 : decide (v ≤ 64) = false := decide_eq_false (by omega)
        simp only [ckR_nil, evN_none, stps_nil, stps_cons, stp_some, putR_some, gd_true, gd_false, wanted_none, wanted_some, dput_some, ev_t, ev_c, okR_some, evOp, tget_tput, loadA_ptr, fadrA_ptr, packA_one, pickA_true, pickA_false, bin_lss, bin_gtr, ↓reduceIte, Nat.reduceEqDiff, Option.map_some, beq_false, Bool.not_true, Bool.not_false, Nat.zero_add, Nat.add_zero, and_self, AV.un, e1, (rd2 g1).2.1, d1, d2, d3, d4, Bool.false_and, Bool.and_false]
      · have d3 : decide (64 < v) = false := decide_eq_false c2
        have d4 : decide (v ≤ 64) = true := decide_eq_true (by omega)
        have d5 : (128 : Int) < (es.length : Nat) ↔ ¬ es.length ≤ 128 := by omega
        have d6 : decide ((128 : Int) < (es.length : Nat)) = !decide (es.length ≤ 128) := by rw [← decide_not]; exact decide_eq_decide.2 d5
        simp only [ckR_nil, evN_none, stps_nil, stps_cons, stp_some, putR_some, gd_true, wanted_none, wanted_some, dput_some, ev_t, ev_c, okR_some, evOp, tget_tput, loadA_ptr, fadrA_ptr, packA_one, pickA_false, bin_lss, bin_gtr, ↓reduceIte, Nat.reduceEqDiff, Option.map_some, beq_false, Bool.not_false, Nat.zero_add, Nat.add_zero, Bool.and_true, and_self, e1, (rd2 g1).2.1, (rd2 g1).2.2, hl, d1, d2, d3, d4, d6, Bool.true_and]
  subst eh
  refine W.cond e18 (fun hq => ?_) (fun hq => W.skip ?_)
  · simp only [Bool.not_eq_true'] at hq
    refine W.seq (W.runs (fun ts h4 => h4 = h2 ∧ tget ts 2 = .bool false) ?_ fun ts h4 ⟨eh, e2⟩ => W.ret ?_)
    · simp only [ckR_nil, evN_none, stps_nil, stps_cons, stp_some, putR_some, gd_true, wanted_none, dput_some, ev_c, okR_some, evOp, tget_tput, ↓reduceIte, and_self]
    subst eh
    exact ⟨.bool (mayB v es), by simp only [Am.results, rdAll, rdRes, e2, rf6, mayB, hq, Bool.false_and], rfl, ex⟩
  simp only [Bool.not_eq_false'] at hq
  have hq2 : mayB v es = es.all (okE v) := by simp only [mayB, hq, Bool.true_and]
  have hlen : es.length ≤ 128 := by simp only [Bool.and_eq_true, decide_eq_true_eq] at hq; omega
  refine W.seq (W.seq (W.runs (fun ts h3 => h3 = h2 ∧ tget ts 1 = .ptr h.next 0 ∧ tget ts 3 = .int .i64 ((0 : Nat) : Int)) ?_ fun ts h3 ⟨eh, e1, e3⟩ => ?_))
  · simp only [ckR_nil, evN_none, stps_nil, stps_cons, stp_some, putR_some, gd_true, wanted_none, dput_some, ev_c, okR_some, evOp, tget_tput, ↓reduceIte, Nat.reduceEqDiff, true_and, e1]
    simp
  subst eh
  refine W.block (W.loop (fun m ts h4 => Ext h3.next h3 h4 ∧ ∃ i, m = es.length - i ∧ i ≤ es.length ∧ (es.take i).all (okE v) = true ∧ tget ts 1 = .ptr h.next 0 ∧ tget ts 3 = .int .i64 (i : Nat)) ?_ (n := es.length) ⟨Ext.refl, 0, rfl, Nat.zero_le _, rfl, e1, e3⟩)
  clear e1 e3 e18
  rintro m ts h4 ⟨hx, i, hm, hi, hall, e1, e3⟩
  have g4 : h4.get h.next = some (gbox v ev) := by rw [hx.2 _ (by omega)]; exact g1
  have he4 := he1.ext hx (Nat.le_refl _)
  have hl4 := he4.len
  refine W.seq (W.seq (W.runs (fun ts h5 => h5 = h4 ∧ tget ts 1 = .ptr h.next 0 ∧ tget ts 3 = .int .i64 (i : Nat) ∧ tget ts 23 = .bool (decide (i < es.length))) ?_ fun ts h5 ⟨eh, e1, e3, e23⟩ => ?_))
  · have : decide (((i : Nat) : Int) < (es.length : Nat)) = decide (i < es.length) := by simp only [decide_eq_decide]; omega
    simp only [ckR_nil, evN_none, stps_nil, stps_cons, stp_some, putR_some, gd_true, wanted_none, dput_some, ev_t, okR_some, evOp, tget_tput, loadA_ptr, fadrA_ptr, packA_one, bin_lss, ↓reduceIte, Nat.reduceEqDiff, Option.map_some, Nat.zero_add, and_self, e1, e3, (rd2 g4).2.2, hl4, this]
  subst eh
  refine W.cond e23 (fun hc => W.skip ?_) fun hc => W.exit ⟨fun _ => ?_, fun e => absurd rfl e⟩
  · simp only [decide_eq_true_eq] at hc
    obtain ⟨e, hei⟩ : ∃ e, es[i]? = some e := ⟨_, List.getElem?_eq_getElem hc⟩
    obtain ⟨b, p1, p2, _, _⟩ := he4.at hei
    have hat := all_take (v := v) hei
    rw [hall, Bool.true_and] at hat
    obtain ⟨ex1, ex2⟩ := e
    have k1 : (h5.new (.cells [.int .i64 0, .int .i64 0] 2 false)).get h5.next = some (.cells [.int .i64 0, .int .i64 0] 2 false) := by rw [AH.get_new, if_pos rfl]
    have hw := wr2 (p := .int .i64 ex1) (q := .int .i64 ex2) k1
    have k2 := Upd.put (o := .cells [.int .i64 ex1, .int .i64 ex2] 2 false) k1
    refine W.seq (W.block (W.seq (W.runs (fun ts h6 => Ext h3.next h3 h6 ∧ h6.get h5.next = some (.cells [.int .i64 ex1, .int .i64 ex2] 2 false) ∧ h6.get h.next = some (gbox v ev) ∧ tget ts 1 = .ptr h.next 0 ∧ tget ts 3 = .int .i64 (i : Nat) ∧ tget ts 4 = .ptr h5.next 0) ?_ fun ts h6 ⟨hx6, g6, g7, e1, e3, e4⟩ => ?_)))
    · have hb1 := AH.lt_of_get g4
      have hxa : Ext h3.next h5 ((h5.new (.cells [.int .i64 0, .int .i64 0] 2 false)).put h5.next (.cells [.int .i64 ex1, .int .i64 ex2] 2 false)) := (Ext.new hx.1).trans (k2.ext hx.1)
      simp only [edgI] at p2
      simp only [ckR_nil, evN_none, stps_nil, stps_cons, stp_some, putR_some, gd_true, wanted_none, dput_some, dput_none, ev_t, okR_some, evOp, tget_tput, loadA_ptr, fadrA_ptr, packA_one, packA_agg, storeA_ptr, ↓reduceIte, Nat.reduceEqDiff, Option.map_some, Nat.zero_add, Nat.reduceAdd, and_true, one_int, cells_agg, List.length_cons, List.length_nil, List.all_cons, List.all_nil, Bool.and_true, and_self, AV.un, e1, e3, (rd2 g4).2.2, p1, p2, hw]
      refine ⟨hx.trans hxa, k2.get, ?_⟩
      rw [k2.ne (by omega), AH.get_new, if_neg (by omega)]
      exact g4
    have r1 := rd2 g6
    have r2 := rd2 g7
    refine W.seq (W.cut (fun ts h7 => h7 = h6 ∧ tget ts 1 = .ptr h.next 0 ∧ tget ts 3 = .int .i64 (i : Nat) ∧ tget ts 52 = .bool (!okE v (ex1, ex2))) (W.runs (fun ts h7 => h7 = h6 ∧ tget ts 1 = .ptr h.next 0 ∧ tget ts 3 = .int .i64 (i : Nat) ∧ tget ts 52 = .bool (!okE v (ex1, ex2))) ?_ fun ts h7 q => q) fun ts h7 ⟨eh, e1, e3, e52⟩ => ?_)
    · by_cases c1 : ex1 < 0
      · have d1 : decide (ex1 < 0) = true := decide_eq_true c1
        have d2 : decide (0 ≤ ex1) = false := decide_eq_false (by omega)
        simp only [ckR_nil, evN_none, stps_nil, stps_cons, stp_some, putR_some, gd_true, gd_false, wanted_none, wanted_some, dput_some, ev_t, ev_c, okR_some, evOp, tget_tput, loadA_ptr, fadrA_ptr, packA_one, pickA_true, bin_lss, ↓reduceIte, Nat.reduceEqDiff, Option.map_some, beq_false, Bool.not_true, Bool.not_false, Nat.zero_add, Nat.add_zero, and_self, AV.un, e1, e3, e4, r1.2.1, d1, d2, okE, Bool.false_and]
      have d1 : decide (ex1 < 0) = false := decide_eq_false c1
      have d2 : decide (0 ≤ ex1) = true := decide_eq_true (by omega)
      by_cases c2 : ex2 < 0
      · have d3 : decide (ex2 < 0) = true := decide_eq_true c2
        have d4 : decide (0 ≤ ex2) = false := decide_eq_false (by omega)
        simp only [ckR_nil, evN_none, stps_nil, stps_cons, stp_some, putR_some, gd_true, gd_false, wanted_none, wanted_some, dput_some, ev_t, ev_c, okR_some, evOp, tget_tput, loadA_ptr, fadrA_ptr, packA_one, pickA_true, pickA_false, bin_lss, ↓reduceIte, Nat.reduceEqDiff, Option.map_some, beq_false, Bool.not_true, Bool.not_false, Nat.zero_add, Nat.add_zero, and_self, AV.un, e1, e3, e4, r1.2.1, r1.2.2, d1, d2, d3, d4, okE, Bool.false_and, Bool.and_false]
      have d3 : decide (ex2 < 0) = false := decide_eq_false c2
      have d4 : decide (0 ≤ ex2) = true := decide_eq_true (by omega)
      by_cases c3 : v ≤ ex1
      · have d5 : decide (v ≤ ex1) = true := decide_eq_true c3
        have d6 : decide (ex1 < v) = false := decide_eq_false (by omega)
        simp only [ckR_nil, evN_none, stps_nil, stps_cons, stp_some, putR_some, gd_true, gd_false, wanted_none, wanted_some, dput_some, ev_t, ev_c, okR_some, evOp, tget_tput, loadA_ptr, fadrA_ptr, packA_one, pickA_true, pickA_false, bin_lss, bin_geq, ↓reduceIte, Nat.reduceEqDiff, Option.map_some, beq_false, Bool.not_true, Bool.not_false, Nat.zero_add, Nat.add_zero, Bool.and_true, and_self, AV.un, e1, e3, e4, r1.2.1, r1.2.2, r2.2.1, d1, d2, d3, d4, d5, d6, okE, Bool.false_and, Bool.and_false]
      have d5 : decide (v ≤ ex1) = false := decide_eq_false c3
      have d6 : decide (ex1 < v) = true := decide_eq_true (by omega)
      have d7 : decide (v ≤ ex2) = !decide (ex2 < v) := by rw [← decide_not]; exact decide_eq_decide.2 (by omega)
      simp only [ckR_nil, evN_none, stps_nil, stps_cons, stp_some, putR_some, gd_true, wanted_none, wanted_some, dput_some, ev_t, ev_c, okR_some, evOp, tget_tput, loadA_ptr, fadrA_ptr, packA_one, pickA_false, bin_lss, bin_geq, ↓reduceIte, Nat.reduceEqDiff, Option.map_some, beq_false, Bool.not_false, Nat.zero_add, Nat.add_zero, Bool.and_true, and_self, e1, e3, e4, r1.2.1, r1.2.2, r2.2.1, d1, d2, d3, d4, d5, d6, d7, okE, Bool.true_and]
    subst eh
    refine W.cond e52 (fun hq => ?_) (fun hq => W.skip ?_)
    · refine W.seq (W.runs (fun ts h4 => h4 = h7 ∧ tget ts 2 = .bool false) ?_ fun ts h4 ⟨eh, e2⟩ => W.ret ?_)
      · simp only [ckR_nil, evN_none, stps_nil, stps_cons, stp_some, putR_some, gd_true, wanted_none, dput_some, ev_c, okR_some, evOp, tget_tput, ↓reduceIte, and_self]
      subst eh
      have hf : mayB v es = false := by
        rw [hq2, List.all_eq_false]
        exact ⟨(ex1, ex2), List.mem_of_getElem? hei, by simpa using hq⟩
      exact ⟨.bool (mayB v es), by simp only [Am.results, rdAll, rdRes, e2, rf6, hf], rfl, ex.trans (hx6.mono (by omega))⟩
    · have w4 : IntKind.i64.wrap (((i : Nat) : Int) + 1) = ((i + 1 : Nat) : Int) := IntWalk.i64_in _ (by omega)
      refine W.runs (fun ts h8 => h8 = h7 ∧ tget ts 1 = .ptr h.next 0 ∧ tget ts 3 = .int .i64 ((i + 1 : Nat) : Int)) ?_ fun ts h8 ⟨eh, e1, e3⟩ => ?_
      · simp only [ckR_nil, evN_none, stps_nil, stps_cons, stp_some, putR_some, gd_true, wanted_none, dput_some, ev_t, ev_c, okR_some, evOp, tget_tput, bin_add, ↓reduceIte, Nat.reduceEqDiff, Option.map_some, and_self, e1, e3, w4]
      subst eh
      exact ⟨es.length - (i + 1), by omega, hx6, i + 1, rfl, by omega, by rw [hat]; simpa using hq, e1, e3⟩
  · simp only [decide_eq_false_iff_not] at hc
    have : i = es.length := by omega
    subst this
    rw [List.take_length] at hall
    refine W.seq (W.runs (fun ts h6 => h6 = h5 ∧ tget ts 2 = .bool true) ?_ fun ts h6 ⟨eh, e2⟩ => W.ret ?_)
    · simp only [ckR_nil, evN_none, stps_nil, stps_cons, stp_some, putR_some, gd_true, wanted_none, dput_some, ev_c, okR_some, evOp, tget_tput, ↓reduceIte, and_self]
    subst eh
    exact ⟨.bool (mayB v es), by simp only [Am.results, rdAll, rdRes, e2, rf6, hq2, hall], rfl, ex.trans (hx.mono (by omega))⟩

end Go.Proofs.YtloklfmgbolpeaaDoor
