/-
  ref.Fits; lines.Text, ref.Text.
-/
import Derived.Test.YtloklfmgbolpeaaDoorGr
import Derived.Test.YtloklfmgbolpeaaDoorLine
namespace Go.Proofs.YtloklfmgbolpeaaDoor
set_option linter.unusedVariables false
set_option linter.unusedSimpArgs false
open Go.Am

def fitsB (v : Int) (es : List (Int × Int)) : Bool := mayB v es && (decide (v ≤ 24) && decide (es.length ≤ 40))

theorem fits_ok {h : AH} {v : Int} {ev : AV} {es : List (Int × Int)} (he : EdgesAt h ev es) : C prg 9 [.agg [.int .i64 v, ev]] h fun r h' => r = .bool (fitsB v es) ∧ Ext h.next h h' := by
  refine C.func pf9 ?_
  have hc := he.cells
  refine W.seq (W.runs (fun ts h1 => tget ts 1 = .ptr h.next 0 ∧ h1.get h.next = some (gbox v ev) ∧ h1.next = h.next + 1 ∧ Ext h.next h h1) ?_ fun ts h1 ⟨e1, g1, n1, ex⟩ => ?_)
  · simp only [ckR_nil, evN_none, stps_nil, stps_cons, stp_some, putR_some, gd_true, wanted_none, dput_some, ev_t, ev_c, okR_some, evOp, tget_tput, ↓reduceIte, Nat.reduceEqDiff, Nat.zero_add, Nat.reduceAdd, true_and, boxA, cells_agg, List.length_cons, List.length_nil, AH.next_new, initTm]
    refine ⟨?_, Ext.new (Nat.le_refl _)⟩
    rw [AH.get_new, if_pos rfl]
  have he1 := he.ext ex (Nat.le_refl _)
  refine W.seq (W.calls (fun ts h2 => Ext h1.next h1 h2 ∧ tget ts 2 = .bool (fitsB v es)) ?_ fun ts h2 ⟨hx, e2⟩ => W.ret ⟨_, by simp only [Am.results, rdAll, rdRes, e2, rf9], rfl, ex.trans (hx.mono (by omega))⟩)
  refine G.op ?_
  simp only [ckR_nil, evN_none, stp_some, putR_some, gd_true, wanted_none, dput_some, ev_t, evOp, loadA_ptr, packA_agg, Option.map_some, e1, (rd2 g1).1]
  refine G.call ?_
  simp only [dput_some, ev_t, tget_tput, ↓reduceIte, List.map_cons, List.map_nil]
  refine (may_ok he1).mono fun r h2 ⟨er, hx⟩ => ?_
  subst er
  have g2 : h2.get h.next = some (gbox v ev) := by rw [hx.2 _ (by omega)]; exact g1
  have hl := (he1.ext hx (Nat.le_refl _)).len
  refine G.op (G.op (G.op (G.op (G.op (G.op (G.op (G.op (G.op (G.op (G.op (G.op ?_)))))))))))
  cases hm : mayB v es with
  | false =>
    simp only [ckR_nil, evN_none, stp_some, putR_some, gd_true, gd_false, wanted_none, wanted_some, dput_some, ev_t, ev_c, evOp, tget_tput, fadrA_ptr, pickA_false, ↓reduceIte, Nat.reduceEqDiff, Option.map_some, beq_true, Nat.zero_add, Nat.add_zero, AV.un, e1]
    exact G.done ⟨hx, by simp only [tget_tput, ↓reduceIte, fitsB, hm, Bool.false_and]⟩
  | true =>
    cases hv : decide (v ≤ 24) with
    | false =>
      simp only [ckR_nil, evN_none, stp_some, putR_some, gd_true, gd_false, wanted_none, wanted_some, dput_some, ev_t, ev_c, evOp, tget_tput, loadA_ptr, fadrA_ptr, packA_one, pickA_true, pickA_false, bin_leq, ↓reduceIte, Nat.reduceEqDiff, Option.map_some, beq_true, Nat.zero_add, Nat.add_zero, AV.un, e1, (rd2 g2).2.1, hv]
      exact G.done ⟨hx, by simp only [tget_tput, ↓reduceIte, fitsB, hm, hv, Bool.false_and, Bool.and_false]⟩
    | true =>
      have : decide (((es.length : Nat) : Int) ≤ 40) = decide (es.length ≤ 40) := by simp only [decide_eq_decide]; omega
      simp only [ckR_nil, evN_none, stp_some, putR_some, gd_true, wanted_none, wanted_some, dput_some, ev_t, ev_c, evOp, tget_tput, loadA_ptr, fadrA_ptr, packA_one, pickA_true, bin_leq, ↓reduceIte, Nat.reduceEqDiff, Option.map_some, beq_true, Nat.zero_add, Nat.add_zero, e1, (rd2 g2).2.1, (rd2 g2).2.2, hv, hl, this]
      exact G.done ⟨hx, by simp only [tget_tput, ↓reduceIte, fitsB, hm, hv, Bool.true_and]⟩

/-- A graph's text. -/
def txtOf (v : Nat) (es : List (Nat × Nat)) : List UInt8 := ln v es.length ++ es.flatMap fun e => ln e.1 e.2

def toI (es : List (Nat × Nat)) : List (Int × Int) := es.map fun e => ((e.1 : Int), (e.2 : Int))

theorem toI_len (es : List (Nat × Nat)) : (toI es).length = es.length := List.length_map ..
theorem toI_at {es : List (Nat × Nat)} {i : Nat} {e : Nat × Nat} (hi : es[i]? = some e) : (toI es)[i]? = some ((e.1 : Int), (e.2 : Int)) := by simp [toI, hi]

theorem txt_take {v n : Nat} {es : List (Nat × Nat)} {i : Nat} {e : Nat × Nat} (hi : es[i]? = some e) : (ln v n ++ (es.take (i + 1)).flatMap fun e => ln e.1 e.2) = (ln v n ++ (es.take i).flatMap fun e => ln e.1 e.2) ++ ln e.1 e.2 := by
  rw [List.take_add_one, hi]
  simp

theorem txt_len (v n : Nat) (es : List (Nat × Nat)) : (ln v n ++ es.flatMap fun e => ln e.1 e.2).length ≤ 42 * (es.length + 1) := by
  rw [List.length_append]
  have h1 := ln_len v n
  have h2 : (es.flatMap fun e => ln e.1 e.2).length ≤ 42 * es.length := by
    induction es with
    | nil => simp
    | cons e r ih =>
      have := ln_len e.1 e.2
      simp only [List.flatMap_cons, List.length_append, List.length_cons]
      omega
  omega

theorem ln_pos (a c : Nat) : 0 < (ln a c).length := by simp [ln]; omega

theorem text_ok {h : AH} {v : Nat} {ev : AV} {es : List (Nat × Nat)} (he : EdgesAt h ev (toI es)) (hl : es.length ≤ 128) (hv : ItoaOk h v) (hn : ItoaOk h es.length) (hes : ∀ e ∈ es, ItoaOk h e.1 ∧ ItoaOk h e.2) :
    C prg 7 [.agg [.int .i64 (v : Nat), ev]] h fun r h' => r = .str (txtOf v es) ∧ Ext h.next h h' := by
  refine C.func pf7 ?_
  have hc := he.cells
  refine W.seq (W.runs (fun ts h1 => tget ts 1 = .ptr h.next 0 ∧ h1.get h.next = some (gbox (v : Nat) ev) ∧ h1.next = h.next + 1 ∧ Ext h.next h h1) ?_ fun ts h1 ⟨e1, g1, n1, ex⟩ => ?_)
  · simp only [ckR_nil, evN_none, stps_nil, stps_cons, stp_some, putR_some, gd_true, wanted_none, dput_some, ev_t, ev_c, okR_some, evOp, tget_tput, ↓reduceIte, Nat.reduceEqDiff, Nat.zero_add, Nat.reduceAdd, true_and, boxA, cells_agg, List.length_cons, List.length_nil, AH.next_new, initTm]
    refine ⟨?_, Ext.new (Nat.le_refl _)⟩
    rw [AH.get_new, if_pos rfl]
  refine W.seq (W.runs (fun ts h2 => h2 = h1.newT (.cells [.nilp, .nils] 2 false) 41 ∧ tget ts 1 = .ptr h.next 0 ∧ tget ts 3 = .ptr (h.next + 1) 0) ?_ fun ts h2 ⟨eh, e1, e3⟩ => ?_)
  · simp only [ckR_nil, evN_none, stps_nil, stps_cons, stp_some, putR_some, gd_true, wanted_none, dput_some, okR_some, evOp, tget_tput, ↓reduceIte, Nat.reduceEqDiff, and_self, e1, n1]
  have b1 : Bld (h.next + 1) h2 (h.next + 1) [] := ⟨Nat.le_refl _, by rw [eh, AH.tyOf_newT]; simp [n1], _, _, .inl rfl, by rw [eh, AH.get_newT]; simp [n1], .inl ⟨rfl, rfl⟩⟩
  have x2 : Ext (h.next + 1) h1 h2 := by rw [eh]; exact Ext.newT (by omega)
  have n2 : h2.next = h.next + 2 := by rw [eh]; simp [n1]
  clear eh
  have g2 : h2.get h.next = some (gbox (v : Nat) ev) := by rw [x2.2 _ (by omega)]; exact g1
  have xx2 : Ext h.next h h2 := ex.trans (x2.mono (by omega))
  have he2 := he.ext xx2 (Nat.le_refl _)
  have hl2 := he2.len
  rw [toI_len] at hl2
  refine W.seq (W.calls (fun ts h3 => tget ts 1 = .ptr h.next 0 ∧ tget ts 3 = .ptr (h.next + 1) 0 ∧ Bld (h.next + 1) h3 (h.next + 1) (ln v es.length) ∧ Ext (h.next + 1) h2 h3) ?_ fun ts h3 ⟨e1, e3, b3, x3⟩ => ?_)
  · have hr : repl [AV.int .i64 0] 2 = [.int .i64 0, .int .i64 0] := rfl
    refine G.op (G.op (G.op (G.op (G.op (G.op ?_)))))
    simp only [ckR_nil, evN_none, stp_some, putR_some, gd_true, wanted_none, dput_some, ev_t, evOp, tget_tput, loadA_ptr, fadrA_ptr, packA_one, ↓reduceIte, Nat.reduceEqDiff, Option.map_some, Nat.zero_add, Nat.add_zero, Nat.reduceAdd, fill, splice, cells_int, List.length_cons, List.length_nil, List.take_succ_cons, List.take_zero, List.drop_succ_cons, List.drop_zero, List.cons_append, List.nil_append, Nat.reduceLeDiff, and_self, e1, (rd2 g2).2.1, (rd2 g2).2.2, hl2, hr]
    refine G.call ?_
    simp only [dput_some, ev_t, tget_tput, ↓reduceIte, List.map_cons, List.map_nil]
    have k1 : (h2.new (.cells [.int .i64 (v : Nat), .int .i64 (es.length : Nat)] 1 false)).get h2.next = some (.cells [.int .i64 (v : Nat), .int .i64 (es.length : Nat)] 1 false) := by rw [AH.get_new, if_pos rfl]
    have xn : Ext h2.next h2 (h2.new (.cells [.int .i64 (v : Nat), .int .i64 (es.length : Nat)] 1 false)) := Ext.new (Nat.le_refl _)
    have xm : Ext h.next h (h2.new (.cells [.int .i64 (v : Nat), .int .i64 (es.length : Nat)] 1 false)) := xx2.trans (xn.mono (by omega))
    have b2 := b1.ext xn (Nat.le_refl _)
    refine (line_ok k1 (hv.ext xm) (hn.ext xm)).mono fun r h4 ⟨er, hx4⟩ => ?_
    subst er
    have b3 := b2.ext hx4 (Nat.le_refl _)
    have l1 := ln_len v es.length
    refine G.call ?_
    simp only [dput_some, ev_t, tget_tput, ↓reduceIte, Nat.reduceEqDiff, List.map_cons, List.map_nil, e3]
    refine (write_ok (x := ln v es.length) b3 (by simp; omega)).mono fun r h5 ⟨er, b4, hx5⟩ => ?_
    subst er
    have b4' : Bld (h.next + 1) h5 (h.next + 1) (ln v es.length) := by simpa using b4
    refine G.done ⟨by simp only [tget_tput, ↓reduceIte, Nat.reduceEqDiff, e1], by simp only [tget_tput, ↓reduceIte, Nat.reduceEqDiff, e3], b4', ?_⟩
    exact (Ext.new (by omega)).trans ((hx4.mono (by simp; omega)).trans hx5)
  have g3 : h3.get h.next = some (gbox (v : Nat) ev) := by rw [x3.2 _ (by omega)]; exact g2
  have xx3 : Ext h.next h h3 := xx2.trans (x3.mono (by omega))
  have he3 := he.ext xx3 (Nat.le_refl _)
  have hl3 := he3.len
  rw [toI_len] at hl3
  refine W.seq (W.seq (W.runs (fun ts h4 => h4 = h3 ∧ tget ts 3 = .ptr (h.next + 1) 0 ∧ tget ts 15 = ev ∧ tget ts 16 = .int .i64 (es.length : Nat) ∧ tget ts 17 = .int .i64 ((0 : Nat) : Int)) ?_ fun ts h4 ⟨eh, e3, e15, e16, e17⟩ => ?_))
  · simp only [ckR_nil, evN_none, stps_nil, stps_cons, stp_some, putR_some, gd_true, wanted_none, dput_some, ev_t, ev_c, okR_some, evOp, tget_tput, loadA_ptr, fadrA_ptr, packA_one, ↓reduceIte, Nat.reduceEqDiff, Option.map_some, Nat.zero_add, true_and, e1, e3, (rd2 g3).2.2, hl3]
    simp
  subst eh
  refine W.cut (fun ts h5 => tget ts 3 = .ptr (h.next + 1) 0 ∧ Bld (h.next + 1) h5 (h.next + 1) (txtOf v es) ∧ Ext h.next h h5) (W.block (W.loop (fun m ts h5 => ∃ i, m = es.length - i ∧ i ≤ es.length ∧ tget ts 3 = .ptr (h.next + 1) 0 ∧ tget ts 15 = ev ∧ tget ts 16 = .int .i64 (es.length : Nat) ∧ tget ts 17 = .int .i64 (i : Nat) ∧ Bld (h.next + 1) h5 (h.next + 1) (ln v es.length ++ (es.take i).flatMap fun e => ln e.1 e.2) ∧ Ext h.next h h5) ?_ (n := es.length) ⟨0, rfl, Nat.zero_le _, e3, e15, e16, e17, by simpa using b3, xx3⟩)) fun ts h5 ⟨e3, b5, x5⟩ => ?_
  · clear e1 e3 e15 e16 e17 b3 x3 g3 xx3 he3 hl3
    rintro m ts h5 ⟨i, hm, hi, e3, e15, e16, e17, b5, x5⟩
    refine W.seq (W.runs (fun ts h6 => h6 = h5 ∧ tget ts 3 = .ptr (h.next + 1) 0 ∧ tget ts 15 = ev ∧ tget ts 16 = .int .i64 (es.length : Nat) ∧ tget ts 17 = .int .i64 (i : Nat) ∧ tget ts 18 = .bool (decide (i < es.length))) ?_ fun ts h6 ⟨eh, e3, e15, e16, e17, e18⟩ => ?_)
    · have : decide (((i : Nat) : Int) < (es.length : Nat)) = decide (i < es.length) := by simp only [decide_eq_decide]; omega
      simp only [ckR_nil, evN_none, stps_nil, stps_cons, stp_some, putR_some, gd_true, wanted_none, dput_some, ev_t, okR_some, evOp, tget_tput, bin_lss, ↓reduceIte, Nat.reduceEqDiff, Option.map_some, and_self, e3, e15, e16, e17, this]
    subst eh
    refine W.seq (W.cond e18 (fun hc => W.skip ?_) fun hc => W.exit ⟨fun _ => ⟨e3, ?_, x5⟩, fun e => absurd rfl e⟩)
    · simp only [decide_eq_true_eq] at hc
      obtain ⟨e, hei⟩ : ∃ e, es[i]? = some e := ⟨_, List.getElem?_eq_getElem hc⟩
      have he6 := he.ext x5 (Nat.le_refl _)
      obtain ⟨b, p1, p2, _, _⟩ := he6.at (toI_at hei)
      have htk := txt_take (v := v) (n := es.length) hei
      have hln := txt_len v es.length (es.take i)
      have hio := hes e (List.mem_of_getElem? hei)
      obtain ⟨y, z⟩ := e
      simp only [edgI] at p2
      simp only at htk hio
      have k1 : (h6.new (.cells [.int .i64 0, .int .i64 0] 2 false)).get h6.next = some (.cells [.int .i64 0, .int .i64 0] 2 false) := by rw [AH.get_new, if_pos rfl]
      have hw := wr2 (p := .int .i64 (y : Nat)) (q := .int .i64 (z : Nat)) k1
      have k2 := Upd.put (o := .cells [.int .i64 (y : Nat), .int .i64 (z : Nat)] 2 false) k1
      have hxa : Ext h6.next h6 ((h6.new (.cells [.int .i64 0, .int .i64 0] 2 false)).put h6.next (.cells [.int .i64 (y : Nat), .int .i64 (z : Nat)] 2 false)) := (Ext.new (Nat.le_refl _)).trans (k2.ext (Nat.le_refl _))
      refine W.seq (W.block (W.seq (W.runs (fun ts h7 => tget ts 3 = .ptr (h.next + 1) 0 ∧ tget ts 15 = ev ∧ tget ts 16 = .int .i64 (es.length : Nat) ∧ tget ts 17 = .int .i64 (i : Nat) ∧ tget ts 5 = .ptr h6.next 0 ∧ h7.get h6.next = some (.cells [.int .i64 (y : Nat), .int .i64 (z : Nat)] 2 false) ∧ Ext h6.next h6 h7) ?_ fun ts h7 ⟨e3, e15, e16, e17, e5, g7, x7⟩ => ?_)))
      · simp only [ckR_nil, evN_none, stps_nil, stps_cons, stp_some, putR_some, gd_true, wanted_none, dput_some, dput_none, ev_t, okR_some, evOp, tget_tput, loadA_ptr, packA_agg, storeA_ptr, ↓reduceIte, Nat.reduceEqDiff, Option.map_some, Nat.zero_add, Nat.reduceAdd, true_and, one_int, cells_agg, List.length_cons, List.length_nil, List.all_cons, List.all_nil, Bool.and_true, and_self, AV.un, e3, e15, e16, e17, p1, p2, hw]
        exact ⟨k2.get, hxa⟩
      have b7 := b5.ext x7 (Nat.le_refl _)
      have x57 : Ext h.next h h7 := x5.trans (x7.mono x5.1)
      refine W.calls (fun ts h8 => tget ts 3 = .ptr (h.next + 1) 0 ∧ tget ts 15 = ev ∧ tget ts 16 = .int .i64 (es.length : Nat) ∧ tget ts 17 = .int .i64 (i : Nat) ∧ Bld (h.next + 1) h8 (h.next + 1) (ln v es.length ++ (es.take (i + 1)).flatMap fun e => ln e.1 e.2) ∧ Ext h.next h h8) ?_ fun ts h8 ⟨e3, e15, e16, e17, b8, x8⟩ => ?_
      · have hr : repl [AV.int .i64 0] 2 = [.int .i64 0, .int .i64 0] := rfl
        have k1 : (h7.new (.cells [.int .i64 (y : Nat), .int .i64 (z : Nat)] 1 false)).get h7.next = some (.cells [.int .i64 (y : Nat), .int .i64 (z : Nat)] 1 false) := by rw [AH.get_new, if_pos rfl]
        have xn : Ext h7.next h7 (h7.new (.cells [.int .i64 (y : Nat), .int .i64 (z : Nat)] 1 false)) := Ext.new (Nat.le_refl _)
        have xm : Ext h.next h (h7.new (.cells [.int .i64 (y : Nat), .int .i64 (z : Nat)] 1 false)) := x57.trans (xn.mono x57.1)
        refine G.op (G.op (G.op (G.op (G.op ?_))))
        simp only [ckR_nil, evN_none, stp_some, putR_some, gd_true, wanted_none, dput_some, ev_t, evOp, tget_tput, loadA_ptr, fadrA_ptr, packA_one, ↓reduceIte, Nat.reduceEqDiff, Option.map_some, Nat.zero_add, Nat.add_zero, Nat.reduceAdd, fill, splice, cells_int, List.length_cons, List.length_nil, List.take_succ_cons, List.take_zero, List.drop_succ_cons, List.drop_zero, List.cons_append, List.nil_append, Nat.reduceLeDiff, and_self, e5, (rd2 g7).2.1, (rd2 g7).2.2, hr]
        refine G.call ?_
        simp only [dput_some, ev_t, tget_tput, ↓reduceIte, List.map_cons, List.map_nil]
        refine (line_ok k1 (hio.1.ext xm) (hio.2.ext xm)).mono fun r h9 ⟨er, x9⟩ => ?_
        subst er
        have b9 := (b7.ext xn (Nat.le_refl _)).ext x9 (Nat.le_refl _)
        have l2 := ln_len y z
        have l3 : (es.take i).length ≤ 128 := by simp; omega
        refine G.call ?_
        simp only [dput_some, ev_t, tget_tput, ↓reduceIte, Nat.reduceEqDiff, List.map_cons, List.map_nil, e3]
        refine (write_ok (x := ln y z) b9 (by omega)).mono fun r h10 ⟨er, b10, x10⟩ => ?_
        subst er
        refine G.done ⟨by simp only [tget_tput, ↓reduceIte, Nat.reduceEqDiff, e3], by simp only [tget_tput, ↓reduceIte, Nat.reduceEqDiff, e15], by simp only [tget_tput, ↓reduceIte, Nat.reduceEqDiff, e16], by simp only [tget_tput, ↓reduceIte, Nat.reduceEqDiff, e17], by rw [htk]; exact b10, ?_⟩
        have := xm.1
        exact (xm.trans (x9.mono xm.1)).trans (x10.mono (by omega))
      have w4 : IntKind.i64.wrap (((i : Nat) : Int) + 1) = ((i + 1 : Nat) : Int) := IntWalk.i64_in _ (by omega)
      refine W.runs (fun ts h9 => h9 = h8 ∧ tget ts 3 = .ptr (h.next + 1) 0 ∧ tget ts 15 = ev ∧ tget ts 16 = .int .i64 (es.length : Nat) ∧ tget ts 17 = .int .i64 ((i + 1 : Nat) : Int)) ?_ fun ts h9 ⟨eh, e3, e15, e16, e17⟩ => ?_
      · simp only [ckR_nil, evN_none, stps_nil, stps_cons, stp_some, putR_some, gd_true, wanted_none, dput_some, ev_t, ev_c, okR_some, evOp, tget_tput, bin_add, ↓reduceIte, Nat.reduceEqDiff, Option.map_some, and_self, e3, e15, e16, e17, w4]
      subst eh
      exact ⟨es.length - (i + 1), by omega, i + 1, rfl, by omega, e3, e15, e16, e17, b8, x8⟩
    · simp only [decide_eq_false_iff_not] at hc
      have : i = es.length := by omega
      subst this
      rwa [List.take_length] at b5
  have hln := txt_len v es.length es
  have hpos := ln_pos v es.length
  have htl : (txtOf v es).length = (ln v es.length).length + (es.flatMap fun e => ln e.1 e.2).length := by rw [txtOf, List.length_append]
  refine W.seq (W.calls (fun ts hg => tget ts 2 = .str (txtOf v es) ∧ Ext (h.next + 1) h5 hg) ?_ fun ts hg ⟨e2, q7⟩ => W.ret ⟨_, by simp only [Am.results, rdAll, rdRes, e2, rf7], rfl, x5.trans (q7.mono (by omega))⟩)
  refine G.call ?_
  simp only [dput_some, ev_t, List.map_cons, List.map_nil, e3]
  refine (string_ok b5 (by unfold txtOf; omega) (by intro q; rw [q] at htl; simp at htl; omega)).mono fun r h6 ⟨ev, k1⟩ => ?_
  subst ev
  refine G.op ?_
  simp only [ckR_nil, evN_none, stp_some, putR_some, gd_true, wanted_none, dput_some, ev_t, evOp, tget_tput, ↓reduceIte]
  refine G.done ?_
  simp only [tget_tput, ↓reduceIte, true_and]
  exact k1

end Go.Proofs.YtloklfmgbolpeaaDoor
