/-
  LinesCut answers true.
-/
import Derived.Test.YtloklfmgbolpeaaDoorSpk
import Derived.Test.YtloklfmgbolpeaaDoorCut
namespace Go.Proofs.YtloklfmgbolpeaaDoor
set_option linter.unusedVariables false
set_option linter.unusedSimpArgs false
open Go.Am

theorem slS_take {ev : RO → AV} {s : List UInt8} {b : RO} {k : Nat} (h1 : ev b = .int .i64 (k : Nat)) (hk : k ≤ s.length) : slSA ev (.str s) none (some b) = some (.str (s.take k)) := by
  have c : (0 : Int) ≤ (k : Nat) ∧ ((k : Nat) : Int) ≤ (s.length : Nat) := by omega
  simp only [slSA, bounds, bnd, h1, c, and_self, if_true, Int.toNat_natCast, Option.map_some, List.drop_zero]

/-- read into two boxes -/
def ReadAt (h0 : AH) (m : Rd) (h : AH) (g1 g2 : Nat) : Prop := ∃ ev, h.get g1 = some (gbox (m.v : Nat) ev) ∧ h.get g2 = some (fbox (m.code : Nat) (m.place : Nat)) ∧ EdgesAt h ev (toI m.es) ∧ Ext h0.next h0 h

theorem cut_law {h : AH} {v : Int} {cut : Int} {ev mv : AV} {es : List (Int × Int)} {more : List UInt8} (he : EdgesAt h ev es) (hm : CameB h more mv) :
    C prg 4 [.agg [.int .i64 v, ev], .int .i64 cut, mv] h fun r _ => r = .bool true := by
  refine C.func pf4 ?_
  have hc := he.cells
  refine W.seq (W.runs (fun ts h1 => tget ts 1 = .int .i64 cut ∧ tget ts 2 = mv ∧ tget ts 3 = .ptr h.next 0 ∧ h1.get h.next = some (gbox v ev) ∧ h1.next = h.next + 1 ∧ Ext h.next h h1) ?_ fun ts h1 ⟨e1, e2, e3, g1, n1, ex⟩ => ?_)
  · simp only [ckR_nil, evN_none, stps_nil, stps_cons, stp_some, putR_some, gd_true, wanted_none, dput_some, ev_t, ev_c, okR_some, evOp, tget_tput, ↓reduceIte, Nat.reduceEqDiff, Nat.zero_add, Nat.reduceAdd, reduceCtorEq, true_and, boxA, cells_agg, List.length_cons, List.length_nil, AH.next_new, initTm]
    refine ⟨?_, Ext.new (Nat.le_refl _)⟩
    rw [AH.get_new, if_pos rfl]
  refine W.seq (W.seq (W.calls (fun ts h2 => Ext h1.next h1 h2 ∧ tget ts 1 = .int .i64 cut ∧ tget ts 2 = mv ∧ tget ts 3 = .ptr h.next 0 ∧ tget ts 14 = .bool false) ?_ fun ts h2 ⟨x2, e1, e2, e3, e14⟩ => W.no e14 (W.skip ?_)))
  · refine G.call ?_
    simp only [dput_some, List.map_nil]
    refine speaks_ok.mono fun r h2 ⟨hr, ex⟩ => ?_
    subst hr
    refine G.op ?_
    simp only [ckR_nil, evN_none, stp_some, putR_some, gd_true, wanted_none, dput_some, ev_t, evOp, tget_tput, unA_not, ↓reduceIte, Option.map_some, Bool.not_true]
    exact G.done ⟨ex, by simp only [tget_tput, ↓reduceIte, Nat.reduceEqDiff, e1], by simp only [tget_tput, ↓reduceIte, Nat.reduceEqDiff, e2], by simp only [tget_tput, ↓reduceIte, Nat.reduceEqDiff, e3], by simp only [tget_tput, ↓reduceIte]⟩
  have g2 : h2.get h.next = some (gbox v ev) := by rw [x2.2 _ (by omega)]; exact g1
  have xx2 : Ext h.next h h2 := ex.trans (x2.mono (by omega))
  have he2 := he.ext xx2 (Nat.le_refl _)
  -- does it fit
  refine W.seq (W.seq (W.calls (fun ts h3 => Ext h2.next h2 h3 ∧ tget ts 1 = .int .i64 cut ∧ tget ts 2 = mv ∧ tget ts 3 = .ptr h.next 0 ∧ tget ts 22 = .bool (!(fitsB v es && decide (more.length ≤ 100)))) ?_ fun ts h3 ⟨x3, e1, e2, e3, e22⟩ => ?_))
  · refine G.op ?_
    simp only [ckR_nil, evN_none, stp_some, putR_some, gd_true, wanted_none, dput_some, ev_t, evOp, loadA_ptr, packA_agg, Option.map_some, e3, (rd2 g2).1]
    refine G.call ?_
    simp only [dput_some, ev_t, tget_tput, ↓reduceIte, List.map_cons, List.map_nil]
    refine (fits_ok he2).mono fun r h3 ⟨hr, x3⟩ => ?_
    subst hr
    have hml := (hm.ext (xx2.trans (x3.mono xx2.1)) (Nat.le_refl _)).len
    refine G.op (G.op (G.op (G.op (G.op (G.op ?_)))))
    cases hf : fitsB v es with
    | false =>
      simp only [ckR_nil, evN_none, stp_some, putR_some, gd_true, gd_false, wanted_none, wanted_some, dput_some, ev_t, ev_c, evOp, tget_tput, pickA_true, unA_not, ↓reduceIte, Nat.reduceEqDiff, Option.map_some, beq_false, Bool.not_true, Bool.not_false, AV.un]
      exact G.done ⟨x3, by simp only [tget_tput, ↓reduceIte, Nat.reduceEqDiff, e1], by simp only [tget_tput, ↓reduceIte, Nat.reduceEqDiff, e2], by simp only [tget_tput, ↓reduceIte, Nat.reduceEqDiff, e3], by simp only [tget_tput, ↓reduceIte, Bool.not_false, Bool.false_and]⟩
    | true =>
      have : decide ((100 : Int) < (more.length : Nat)) = !decide (more.length ≤ 100) := by rw [← decide_not]; exact decide_eq_decide.2 (by omega)
      simp only [ckR_nil, evN_none, stp_some, putR_some, gd_true, wanted_none, wanted_some, dput_some, ev_t, ev_c, evOp, tget_tput, pickA_false, unA_not, bin_gtr, ↓reduceIte, Nat.reduceEqDiff, Option.map_some, beq_false, Bool.not_true, Bool.not_false, e2, hml, this]
      exact G.done ⟨x3, by simp only [tget_tput, ↓reduceIte, Nat.reduceEqDiff, e1], by simp only [tget_tput, ↓reduceIte, Nat.reduceEqDiff, e2], by simp only [tget_tput, ↓reduceIte, Nat.reduceEqDiff, e3], by simp only [tget_tput, ↓reduceIte, Bool.true_and]⟩
  refine W.cond e22 (fun _ => ?_) fun hq => W.skip ?_
  · refine W.seq (W.runs (fun ts h4 => tget ts 6 = .bool true) ?_ fun ts h4 e2 => W.ret ?_)
    · simp only [ckR_nil, evN_none, stps_nil, stps_cons, stp_some, putR_some, gd_true, wanted_none, dput_some, ev_c, okR_some, evOp, tget_tput, ↓reduceIte]
    · exact ⟨.bool true, by simp only [Am.results, rdAll, rdRes, e2, rf4], rfl⟩
  simp only [Bool.not_eq_false', Bool.and_eq_true, decide_eq_true_eq] at hq
  obtain ⟨hfit, hml⟩ := hq
  simp only [fitsB, Bool.and_eq_true, decide_eq_true_eq] at hfit
  obtain ⟨hmay, hv24, hes40⟩ := hfit
  obtain ⟨n, fs, rfl, rfl, m1, m2, m3, m4⟩ := may_nat hmay
  rw [toI_len] at hes40
  have g3 : h3.get h.next = some (gbox (n : Nat) ev) := by rw [x3.2 _ (by have := x2.1; omega)]; exact g2
  have xx3 : Ext h.next h h3 := xx2.trans (x3.mono xx2.1)
  have he3 := he.ext xx3 (Nat.le_refl _)
  have hfs : ∀ e ∈ fs, e.1 < 100 ∧ e.2 < 100 := fun e hh => by have := m4 e hh; omega
  -- the text
  refine W.seq (W.calls (fun ts h4 => Ext h3.next h3 h4 ∧ tget ts 1 = .int .i64 cut ∧ tget ts 2 = mv ∧ tget ts 7 = .str (txtOf n fs)) ?_ fun ts h4 ⟨x4, e1, e2, e7⟩ => ?_)
  · refine G.op ?_
    simp only [ckR_nil, evN_none, stp_some, putR_some, gd_true, wanted_none, dput_some, ev_t, evOp, loadA_ptr, packA_agg, Option.map_some, e3, (rd2 g3).1]
    refine G.call ?_
    simp only [dput_some, ev_t, tget_tput, ↓reduceIte, List.map_cons, List.map_nil]
    refine (text_ok he3 m3 (ItoaOk.of (by omega)) (ItoaOk.of (by omega)) fun e hh => ⟨ItoaOk.of (hfs e hh).1, ItoaOk.of (hfs e hh).2⟩).mono fun r h4 ⟨hr, x4⟩ => ?_
    subst hr
    refine G.op ?_
    simp only [ckR_nil, evN_none, stp_some, putR_some, gd_true, wanted_none, dput_some, ev_t, evOp, tget_tput, ↓reduceIte]
    exact G.done ⟨x4, by simp only [tget_tput, ↓reduceIte, Nat.reduceEqDiff, e1], by simp only [tget_tput, ↓reduceIte, Nat.reduceEqDiff, e2], by simp only [tget_tput, ↓reduceIte]⟩
  have xx4 : Ext h.next h h4 := xx3.trans (x4.mono xx3.1)
  have hts := txt_small (show n < 1000 by omega) m3 (fun e hh => ⟨by have := m4 e hh; omega, by have := m4 e hh; omega⟩ : ∀ e ∈ fs, e.1 < 1000 ∧ e.2 < 1000)
  have hcut : ∀ k, k < (txtOf n fs).length → rdM ((txtOf n fs).take k) = ⟨0, [], 11, k⟩ := fun k hk => read_cut (by omega) (by omega) hfs hk
  have hread : rdM (txtOf n fs ++ more) = if more ≠ [] then ⟨0, [], 11, (txtOf n fs).length⟩ else ⟨n, fs, 0, 0⟩ := by
    rw [read_txt (by omega) m3 (fun e hh => ⟨by have := m4 e hh; omega, by have := m4 e hh; omega⟩) more hml]
    rw [if_neg (show ¬ (n < 1 ∨ 24 < n ∨ 40 < fs.length) by omega), firstOff_none n fs 0 m4]
  generalize txtOf n fs = T at *
  -- where it is cut
  obtain ⟨k, hk⟩ : ∃ k, k = low cut % (T.length + 1) := ⟨_, rfl⟩
  have hkl : k ≤ T.length := by have := Nat.mod_lt (low cut) (show 0 < T.length + 1 by omega); omega
  refine W.seq (W.runs (fun ts h5 => h5 = h4 ∧ tget ts 2 = mv ∧ tget ts 7 = .str T ∧ tget ts 8 = .int .i64 (k : Nat)) ?_ fun ts h5 ⟨eh, e2, e7, e8⟩ => ?_)
  · have hlen : (T ++ [120]).length = T.length + 1 := by simp
    have c1 : T.length + 1 < 2 ^ 62 := by omega
    have c2 : ¬ ((T.length + 1 : Nat) : Int) = 0 := by omega
    have c3 : ((low cut : Nat) : Int).tmod ((T.length + 1 : Nat) : Int) = (k : Nat) := by rw [hk]; rfl
    simp only [ckR_nil, evN_none, stps_nil, stps_cons, stp_some, putR_some, gd_true, wanted_none, dput_some, ev_t, ev_c, evOp, tget_tput, bin_rem, bin_band, bin_sadd, lenSA_str, ↓reduceIte, Nat.reduceEqDiff, Option.map_some, Nat.zero_add, List.length_cons, List.length_nil, e1, e7, low_bits, c1]
    rw [hlen, if_neg c2]
    simp only [ckR_nil, evN_none, stp_some, putR_some, gd_true, wanted_none, dput_some, ev_t, okR_some, evOp, tget_tput, ↓reduceIte, Nat.reduceEqDiff, Option.map_some, and_self, c3, e2, e7]
  subst eh
  refine W.seq (W.cut (fun ts h6 => Ext h5.next h5 h6 ∧ tget ts 2 = mv ∧ tget ts 7 = .str T) (W.seq (W.runs (fun ts h6 => h6 = h5 ∧ tget ts 2 = mv ∧ tget ts 7 = .str T ∧ tget ts 8 = .int .i64 (k : Nat) ∧ tget ts 34 = .bool (decide (k < T.length))) ?_ fun ts h6 ⟨eh, e2, e7, e8, e34⟩ => ?_)) fun ts h6 ⟨x6, e2, e7⟩ => ?_)
  · have : decide (((k : Nat) : Int) < (T.length : Nat)) = decide (k < T.length) := by simp only [decide_eq_decide]; omega
    simp only [ckR_nil, evN_none, stps_nil, stps_cons, stp_some, putR_some, gd_true, wanted_none, dput_some, ev_t, okR_some, evOp, tget_tput, bin_lss, lenSA_str, ↓reduceIte, Nat.reduceEqDiff, Option.map_some, and_self, e2, e7, e8, this]
  · subst eh
    refine W.cond e34 (fun hq => ?_) fun hq => W.skip ⟨Ext.refl, e2, e7⟩
    simp only [decide_eq_true_eq] at hq
    have hM := hcut k hq
    refine W.seq (W.calls (fun ts h7 => ∃ g1 g2, tget ts 2 = mv ∧ tget ts 7 = .str T ∧ tget ts 8 = .int .i64 (k : Nat) ∧ tget ts 10 = .ptr g2 0 ∧ ReadAt h6 ⟨0, [], 11, k⟩ h7 g1 g2) ?_ fun ts h7 ⟨g1, g2, e2, e7, e8, e10, ev2, q1, q2, q3, q4⟩ => ?_)
    · refine G.op (G.op (G.op ?_))
      simp only [ckR_nil, evN_none, stp_some, putR_some, gd_true, wanted_none, dput_some, ev_t, evOp, tget_tput, ↓reduceIte, Nat.reduceEqDiff, e7, e8]
      rw [slS_take (by simp only [ev_t, tget_tput, ↓reduceIte]) hkl]
      simp only [putR_some, dput_some, Option.map_some]
      refine G.op ?_
      have hsb : cvSBA h6 (.str (T.take k)) = some (.sl h6.next 0 (T.take k).length (T.take k).length, h6.new (.cells (ofBytes (T.take k)) 1 false)) := rfl
      simp only [ckR_nil, evN_none, stp_some, putR_some, gd_true, wanted_none, dput_some, ev_t, evOp, tget_tput, ↓reduceIte, hsb]
      refine G.call ?_
      simp only [dput_some, ev_t, tget_tput, ↓reduceIte, List.map_cons, List.map_nil]
      refine (read_ok (txt_new h6 (T.take k)) (by simp; omega)).mono fun r h7 ⟨ev2, hv, sl, x7⟩ => ?_
      rw [hM] at hv sl
      subst hv
      have hcs := sl.cells
      obtain ⟨h8, h9, w1, w2, w3, w4, w5⟩ := box_put h7 ((0 : Nat) : Int) ((11 : Nat) : Int) ((k : Nat) : Int) ev2
      refine G.op (G.op (G.op (G.op (G.op (G.op (G.op ?_))))))
      simp only [ckR_nil, evN_none, stp_some, putR_some, gd_true, wanted_none, dput_some, dput_none, ev_t, evOp, tget_tput, extA_tup, storeA_ptr, ↓reduceIte, Nat.reduceEqDiff, Option.map_some, Nat.zero_add, Nat.reduceAdd, List.getElem?_cons_zero, List.getElem?_cons_succ, one_int, one_nils, cells_agg, List.length_cons, List.length_nil, List.all_cons, List.all_nil, Bool.and_true, AH.next_new, and_self, AV.un, hcs.2, w1, w2]
      refine G.done ⟨h7.next, h7.next + 1, by simp only [tget_tput, ↓reduceIte, Nat.reduceEqDiff, e2], by simp only [tget_tput, ↓reduceIte, Nat.reduceEqDiff, e7], by simp only [tget_tput, ↓reduceIte, Nat.reduceEqDiff, e8], by simp only [tget_tput, ↓reduceIte], ev2, w3, w4, (sl.edges.ext w5 (Nat.le_refl _)), ?_⟩
      exact (Ext.new (Nat.le_refl _)).trans ((x7.mono (by simp)).trans (w5.mono (by have := x7.1; simp at this; omega)))
    have r2 := rd3 q2
    simp only at r2
    refine W.seq (W.runs (fun ts h8 => h8 = h7 ∧ tget ts 2 = mv ∧ tget ts 7 = .str T ∧ tget ts 51 = .bool false) ?_ fun ts h8 ⟨eh, e2, e7, e51⟩ => W.no e51 (W.skip ?_))
    · have c1 : decide (((11 : Nat) : Int) = 11) = true := rfl
      simp only [ckR_nil, evN_none, stps_nil, stps_cons, stp_some, putR_some, gd_true, wanted_none, wanted_some, dput_some, ev_t, ev_c, okR_some, evOp, tget_tput, loadA_ptr, fadrA_ptr, packA_one, pickA_false, bin_neq, ↓reduceIte, Nat.reduceEqDiff, Option.map_some, beq_false, Bool.not_true, Bool.not_false, Nat.zero_add, Nat.add_zero, and_self, e2, e7, e8, e10, r2.2.1, r2.2.2.1, c1, decide_true]
    subst eh
    exact ⟨q4, e2, e7⟩
  -- more behind it
  have xx6 : Ext h.next h h6 := xx4.trans (x6.mono xx4.1)
  have hm6 := hm.ext xx6 (Nat.le_refl _)
  generalize hR : (if more ≠ [] then (⟨0, [], 11, T.length⟩ : Rd) else ⟨n, fs, 0, 0⟩) = R at hread
  refine W.seq (W.calls (fun ts h7 => ∃ g1 g2, tget ts 2 = mv ∧ tget ts 7 = .str T ∧ tget ts 12 = .ptr g2 0 ∧ ReadAt h6 R h7 g1 g2) ?_ fun ts h7 ⟨g1, g2, e2, e7, e12, ev2, q1, q2, q3, q4⟩ => ?_)
  · obtain ⟨v', h7, a1, a2, a3⟩ := appB_txt (s := T) hm6 (by omega)
    have hsb : cvSBA h6 (.str T) = some (.sl h6.next 0 T.length T.length, h6.new (.cells (ofBytes T) 1 false)) := rfl
    refine G.op (G.op (G.op (G.op ?_)))
    simp only [ckR_nil, evN_none, stp_some, putR_some, gd_true, wanted_none, dput_some, ev_t, evOp, tget_tput, ↓reduceIte, Nat.reduceEqDiff, e2, e7, hsb, a1]
    refine G.call ?_
    simp only [dput_some, ev_t, tget_tput, ↓reduceIte, List.map_cons, List.map_nil]
    refine (read_ok a2 (by rw [List.length_append]; omega)).mono fun r h8 ⟨ev2, hv, sl, x7⟩ => ?_
    rw [hread] at hv sl
    subst hv
    have hcs := sl.cells
    obtain ⟨h9, h10, w1, w2, w3, w4, w5⟩ := box_put h8 (R.v : Nat) (R.code : Nat) (R.place : Nat) ev2
    refine G.op (G.op (G.op (G.op (G.op (G.op (G.op ?_))))))
    simp only [ckR_nil, evN_none, stp_some, putR_some, gd_true, wanted_none, dput_some, dput_none, ev_t, evOp, tget_tput, extA_tup, storeA_ptr, ↓reduceIte, Nat.reduceEqDiff, Option.map_some, Nat.zero_add, Nat.reduceAdd, List.getElem?_cons_zero, List.getElem?_cons_succ, one_int, one_nils, cells_agg, List.length_cons, List.length_nil, List.all_cons, List.all_nil, Bool.and_true, AH.next_new, and_self, AV.un, hcs.2, w1, w2]
    refine G.done ⟨h8.next, h8.next + 1, by simp only [tget_tput, ↓reduceIte, Nat.reduceEqDiff, e2], by simp only [tget_tput, ↓reduceIte, Nat.reduceEqDiff, e7], by simp only [tget_tput, ↓reduceIte], ev2, w3, w4, (sl.edges.ext w5 (Nat.le_refl _)), ?_⟩
    exact a3.trans ((x7.mono a3.1).trans (w5.mono (by have := x7.1; have := a3.1; omega)))
  have hm7 := (hm6.ext q4 (Nat.le_refl _)).len
  have r2 := rd3 q2
  refine W.seq (W.runs (fun ts h8 => tget ts 6 = .bool true) ?_ fun ts h8 e6 => W.ret ⟨.bool true, by simp only [Am.results, rdAll, rdRes, e6, rf4], rfl⟩)
  by_cases hz : more = []
  · subst hz
    simp only [ne_eq, not_true_eq_false, if_false] at hR
    subst hR
    have hm0 : lenLA mv = some (.int .i64 0) := hm7
    have c0 : decide (((0 : Nat) : Int) = 0) = true := rfl
    simp only at r2
    simp only [ckR_nil, evN_none, stps_nil, stps_cons, stp_some, putR_some, gd_true, gd_false, wanted_none, wanted_some, dput_some, ev_t, ev_c, okR_some, evOp, tget_tput, loadA_ptr, fadrA_ptr, packA_one, pickA_true, bin_eql, ↓reduceIte, Nat.reduceEqDiff, Option.map_some, beq_true, beq_false, Bool.not_true, Nat.zero_add, Nat.add_zero, AV.un, e2, e7, e12, hm0, r2.2.1, c0, decide_true]
  · simp only [ne_eq, hz, not_false_eq_true, if_true] at hR
    subst hR
    have hpos : 0 < more.length := List.length_pos_iff.2 hz
    have c1 : decide (((more.length : Nat) : Int) = 0) = false := decide_eq_false (by omega)
    have c2 : decide ((0 : Int) < (more.length : Nat)) = true := decide_eq_true (by omega)
    have c3 : decide (((11 : Nat) : Int) = 11) = true := rfl
    simp only at r2
    simp only [ckR_nil, evN_none, stps_nil, stps_cons, stp_some, putR_some, gd_true, gd_false, wanted_none, wanted_some, dput_some, ev_t, ev_c, okR_some, evOp, tget_tput, loadA_ptr, fadrA_ptr, packA_one, pickA_true, pickA_false, bin_eql, bin_gtr, lenSA_str, ↓reduceIte, Nat.reduceEqDiff, Option.map_some, beq_true, beq_false, Bool.not_false, Nat.zero_add, Nat.add_zero, AV.un, e2, e7, e12, hm7, r2.2.1, r2.2.2.1, c1, c2, c3, decide_true]

end Go.Proofs.YtloklfmgbolpeaaDoor
