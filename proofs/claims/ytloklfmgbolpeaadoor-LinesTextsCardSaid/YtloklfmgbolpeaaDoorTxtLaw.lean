/-
  LinesTexts answers true.
-/
import Derived.Test.YtloklfmgbolpeaaDoorCutLaw
import Derived.Test.YtloklfmgbolpeaaDoorRTxt
import Derived.Test.YtloklfmgbolpeaaDoorItoa3
namespace Go.Proofs.YtloklfmgbolpeaaDoor
set_option linter.unusedVariables false
set_option linter.unusedSimpArgs false
open Go.Am

theorem ItoaOk.three {h : AH} {n : Nat} (hn : n ≤ 128) (hp : ∃ ro, h.get 0 = some (.cells pow10 1 ro)) (h0 : 0 < h.next) : ItoaOk h n := by
  by_cases q : n < 100
  · exact ItoaOk.of q
  · intro h' hx
    obtain ⟨ro, hp⟩ := hp
    exact itoa3_ok (by omega) hn ⟨ro, by rw [hx.2 0 h0]; exact hp⟩ (by have := hx.1; omega)

theorem texts_law {h : AH} {v : Int} {ev : AV} {es : List (Int × Int)} (he : EdgesAt h ev es) (hp : ∃ ro, h.get 0 = some (.cells pow10 1 ro)) (hh0 : 0 < h.next) :
    C prg 3 [.agg [.int .i64 v, ev]] h fun r _ => r = .bool true := by
  refine C.func pf3 ?_
  have hc := he.cells
  refine W.seq (W.runs (fun ts h1 => tget ts 1 = .ptr h.next 0 ∧ h1.get h.next = some (gbox v ev) ∧ h1.next = h.next + 1 ∧ Ext h.next h h1) ?_ fun ts h1 ⟨e1, g1, n1, ex⟩ => ?_)
  · simp only [ckR_nil, evN_none, stps_nil, stps_cons, stp_some, putR_some, gd_true, wanted_none, dput_some, ev_t, ev_c, okR_some, evOp, tget_tput, ↓reduceIte, Nat.reduceEqDiff, Nat.zero_add, Nat.reduceAdd, true_and, boxA, cells_agg, List.length_cons, List.length_nil, AH.next_new, initTm]
    refine ⟨?_, Ext.new (Nat.le_refl _)⟩
    rw [AH.get_new, if_pos rfl]
  refine W.seq (W.seq (W.calls (fun ts h2 => Ext h1.next h1 h2 ∧ tget ts 1 = .ptr h.next 0 ∧ tget ts 7 = .bool false) ?_ fun ts h2 ⟨x2, e1, e7⟩ => W.no e7 (W.skip ?_)))
  · refine G.call ?_
    simp only [dput_some, List.map_nil]
    refine speaks_ok.mono fun r h2 ⟨hr, ex⟩ => ?_
    subst hr
    refine G.op ?_
    simp only [ckR_nil, evN_none, stp_some, putR_some, gd_true, wanted_none, dput_some, ev_t, evOp, tget_tput, unA_not, ↓reduceIte, Option.map_some, Bool.not_true]
    exact G.done ⟨ex, by simp only [tget_tput, ↓reduceIte, Nat.reduceEqDiff, e1], by simp only [tget_tput, ↓reduceIte]⟩
  have g2 : h2.get h.next = some (gbox v ev) := by rw [x2.2 _ (by omega)]; exact g1
  have xx2 : Ext h.next h h2 := ex.trans (x2.mono (by omega))
  have he2 := he.ext xx2 (Nat.le_refl _)
  refine W.seq (W.seq (W.calls (fun ts h3 => Ext h2.next h2 h3 ∧ tget ts 1 = .ptr h.next 0 ∧ tget ts 10 = .bool (!(mayB v es))) ?_ fun ts h3 ⟨x3, e1, e10⟩ => ?_))
  · refine G.op ?_
    simp only [ckR_nil, evN_none, stp_some, putR_some, gd_true, wanted_none, dput_some, ev_t, evOp, loadA_ptr, packA_agg, Option.map_some, e1, (rd2 g2).1]
    refine G.call ?_
    simp only [dput_some, ev_t, tget_tput, ↓reduceIte, List.map_cons, List.map_nil]
    refine (may_ok he2).mono fun r h3 ⟨hr, x3⟩ => ?_
    subst hr
    refine G.op ?_
    simp only [ckR_nil, evN_none, stp_some, putR_some, gd_true, wanted_none, dput_some, ev_t, evOp, tget_tput, unA_not, ↓reduceIte, Option.map_some]
    exact G.done ⟨x3, by simp only [tget_tput, ↓reduceIte, Nat.reduceEqDiff, e1], by simp only [tget_tput, ↓reduceIte]⟩
  refine W.cond e10 (fun _ => ?_) fun hq => W.skip ?_
  · refine W.seq (W.runs (fun ts h4 => tget ts 2 = .bool true) ?_ fun ts h4 e2 => W.ret ?_)
    · simp only [ckR_nil, evN_none, stps_nil, stps_cons, stp_some, putR_some, gd_true, wanted_none, dput_some, ev_c, okR_some, evOp, tget_tput, ↓reduceIte]
    · exact ⟨.bool true, by simp only [Am.results, rdAll, rdRes, e2, rf3], rfl⟩
  simp only [Bool.not_eq_false'] at hq
  obtain ⟨n, fs, rfl, rfl, m1, m2, m3, m4⟩ := may_nat hq
  have g3 : h3.get h.next = some (gbox (n : Nat) ev) := by rw [x3.2 _ (by have := x2.1; omega)]; exact g2
  have xx3 : Ext h.next h h3 := xx2.trans (x3.mono xx2.1)
  have he3 := he.ext xx3 (Nat.le_refl _)
  have hp3 : ∃ ro, h3.get 0 = some (.cells pow10 1 ro) := by
    obtain ⟨ro, hp⟩ := hp
    exact ⟨ro, by rw [xx3.2 0 hh0]; exact hp⟩
  have h03 : 0 < h3.next := by have := xx3.1; omega
  -- the text
  refine W.seq (W.calls (fun ts h4 => Ext h3.next h3 h4 ∧ tget ts 1 = .ptr h.next 0 ∧ tget ts 3 = .str (txtOf n fs)) ?_ fun ts h4 ⟨x4, e1, e3⟩ => ?_)
  · refine G.op ?_
    simp only [ckR_nil, evN_none, stp_some, putR_some, gd_true, wanted_none, dput_some, ev_t, evOp, loadA_ptr, packA_agg, Option.map_some, e1, (rd2 g3).1]
    refine G.call ?_
    simp only [dput_some, ev_t, tget_tput, ↓reduceIte, List.map_cons, List.map_nil]
    refine (text_ok he3 m3 (ItoaOk.three (by omega) hp3 h03) (ItoaOk.three (by omega) hp3 h03) fun e hh => ⟨ItoaOk.three (by have := m4 e hh; omega) hp3 h03, ItoaOk.three (by have := m4 e hh; omega) hp3 h03⟩).mono fun r h4 ⟨hr, x4⟩ => ?_
    subst hr
    refine G.op ?_
    simp only [ckR_nil, evN_none, stp_some, putR_some, gd_true, wanted_none, dput_some, ev_t, evOp, tget_tput, ↓reduceIte]
    exact G.done ⟨x4, by simp only [tget_tput, ↓reduceIte, Nat.reduceEqDiff, e1], by simp only [tget_tput, ↓reduceIte]⟩
  have g4 : h4.get h.next = some (gbox (n : Nat) ev) := by rw [x4.2 _ (by have := x3.1; have := x2.1; omega)]; exact g3
  have xx4 : Ext h.next h h4 := xx3.trans (x4.mono xx3.1)
  have n4 : h.next + 1 ≤ h4.next := by have := x4.1; have := x3.1; have := x2.1; omega
  have hes3 : ∀ e ∈ fs, e.1 < 1000 ∧ e.2 < 1000 := fun e hh => by have := m4 e hh; omega
  have hts := txt_small (show n < 1000 by omega) m3 hes3
  have hread := read_txt (show n < 1000 by omega) m3 hes3 [] (by simp)
  rw [List.append_nil] at hread
  simp only [ne_eq, not_true_eq_false, if_false] at hread
  have hrt : ∀ hx, Ext h.next h hx → C prg 10 [.agg [.int .i64 (n : Nat), ev]] hx fun r h' => r = .str (txtOf n fs) ∧ Ext hx.next hx h' := fun hx hxx =>
    rtext_ok (he.ext hxx (Nat.le_refl _)) m3 (by omega) fun e hh => by have := m4 e hh; omega
  generalize txtOf n fs = T at *
  have hTT : (T == T) = true := beq_self_eq_true T
  generalize hR : rdM T = R at hread
  -- it is read
  refine W.seq (W.calls (fun ts h5 => ∃ g1 g2, tget ts 1 = .ptr h.next 0 ∧ tget ts 3 = .str T ∧ tget ts 4 = .ptr g1 0 ∧ tget ts 5 = .ptr g2 0 ∧ ReadAt h4 R h5 g1 g2) ?_ fun ts h5 ⟨c1, c2, e1, e3, e4, e5, ev2, q1, q2, q3, q4⟩ => ?_)
  · have hsb : cvSBA h4 (.str T) = some (.sl h4.next 0 T.length T.length, h4.new (.cells (ofBytes T) 1 false)) := rfl
    refine G.op (G.op ?_)
    simp only [ckR_nil, evN_none, stp_some, putR_some, gd_true, wanted_none, dput_some, ev_t, evOp, tget_tput, ↓reduceIte, e3, hsb]
    refine G.call ?_
    simp only [dput_some, ev_t, tget_tput, ↓reduceIte, List.map_cons, List.map_nil]
    refine (read_ok (txt_new h4 T) (by omega)).mono fun r h7 ⟨ev2, hv, sl, x7⟩ => ?_
    rw [hR] at hv sl
    subst hv
    have hcs := sl.cells
    obtain ⟨h8, h9, w1, w2, w3, w4, w5⟩ := box_put h7 (R.v : Nat) (R.code : Nat) (R.place : Nat) ev2
    refine G.op (G.op (G.op (G.op (G.op (G.op (G.op ?_))))))
    simp only [ckR_nil, evN_none, stp_some, putR_some, gd_true, wanted_none, dput_some, dput_none, ev_t, evOp, tget_tput, extA_tup, storeA_ptr, ↓reduceIte, Nat.reduceEqDiff, Option.map_some, Nat.zero_add, Nat.reduceAdd, List.getElem?_cons_zero, List.getElem?_cons_succ, one_int, one_nils, cells_agg, List.length_cons, List.length_nil, List.all_cons, List.all_nil, Bool.and_true, AH.next_new, and_self, AV.un, hcs.2, w1, w2]
    refine G.done ⟨h7.next, h7.next + 1, by simp only [tget_tput, ↓reduceIte, Nat.reduceEqDiff, e1], by simp only [tget_tput, ↓reduceIte, Nat.reduceEqDiff, e3], by simp only [tget_tput, ↓reduceIte, Nat.reduceEqDiff], by simp only [tget_tput, ↓reduceIte], ev2, w3, w4, (sl.edges.ext w5 (Nat.le_refl _)), ?_⟩
    exact (Ext.new (Nat.le_refl _)).trans ((x7.mono (by simp)).trans (w5.mono (by have := x7.1; simp at this; omega)))
  have g5 : h5.get h.next = some (gbox (n : Nat) ev) := by rw [q4.2 _ (by omega)]; exact g4
  have xx5 : Ext h.next h h5 := xx4.trans (q4.mono xx4.1)
  have he5 := he.ext xx5 (Nat.le_refl _)
  refine W.seq (W.seq (W.calls (fun ts h6 => Ext h5.next h5 h6 ∧ tget ts 1 = .ptr h.next 0 ∧ tget ts 3 = .str T ∧ tget ts 4 = .ptr c1 0 ∧ tget ts 5 = .ptr c2 0 ∧ tget ts 21 = .bool (!(fitsB (n : Nat) (toI fs)))) ?_ fun ts h6 ⟨x6, e1, e3, e4, e5, e21⟩ => ?_))
  · refine G.op ?_
    simp only [ckR_nil, evN_none, stp_some, putR_some, gd_true, wanted_none, dput_some, ev_t, evOp, loadA_ptr, packA_agg, Option.map_some, e1, (rd2 g5).1]
    refine G.call ?_
    simp only [dput_some, ev_t, tget_tput, ↓reduceIte, List.map_cons, List.map_nil]
    refine (fits_ok he5).mono fun r h6 ⟨hr, x6⟩ => ?_
    subst hr
    refine G.op ?_
    simp only [ckR_nil, evN_none, stp_some, putR_some, gd_true, wanted_none, dput_some, ev_t, evOp, tget_tput, unA_not, ↓reduceIte, Option.map_some]
    exact G.done ⟨x6, by simp only [tget_tput, ↓reduceIte, Nat.reduceEqDiff, e1], by simp only [tget_tput, ↓reduceIte, Nat.reduceEqDiff, e3], by simp only [tget_tput, ↓reduceIte, Nat.reduceEqDiff, e4], by simp only [tget_tput, ↓reduceIte, Nat.reduceEqDiff, e5], by simp only [tget_tput, ↓reduceIte]⟩
  have g6 : h6.get h.next = some (gbox (n : Nat) ev) := by rw [x6.2 _ (by have := q4.1; omega)]; exact g5
  have xx6 : Ext h.next h h6 := xx5.trans (x6.mono xx5.1)
  have q1' : h6.get c1 = some (gbox (R.v : Nat) ev2) := by rw [x6.2 _ (AH.lt_of_get q1)]; exact q1
  have q2' : h6.get c2 = some (fbox (R.code : Nat) (R.place : Nat)) := by rw [x6.2 _ (AH.lt_of_get q2)]; exact q2
  have q3' := q3.ext x6 (Nat.le_refl _)
  have hfit : fitsB (n : Nat) (toI fs) = decide (n ≤ 24 ∧ fs.length ≤ 40) := by
    have a1 : decide (((n : Nat) : Int) ≤ 24) = decide (n ≤ 24) := by simp only [decide_eq_decide]; omega
    simp only [fitsB, hq, Bool.true_and, toI_len, a1, Bool.decide_and]
  rw [hfit] at e21
  have r2 := rd3 q2'
  have z0 : decide (((0 : Nat) : Int) = 0) = true := rfl
  have z1 : decide (((10 : Nat) : Int) = 10) = true := rfl
  refine W.cond e21 (fun hnf => ?_) fun hf => W.skip ?_
  · -- too large
    simp only [Bool.not_eq_true', decide_eq_false_iff_not] at hnf
    rw [if_pos (by omega)] at hread
    subst hread
    simp only at q1' q2' q3' r2
    refine W.seq (W.calls (fun ts h7 => tget ts 2 = .bool true) ?_ fun ts h7 e2 => W.ret ⟨.bool true, by simp only [Am.results, rdAll, rdRes, e2, rf3], rfl⟩)
    refine G.op (G.op ?_)
    simp only [ckR_nil, evN_none, stp_some, putR_some, gd_true, wanted_none, dput_some, ev_t, evOp, tget_tput, loadA_ptr, packA_agg, ↓reduceIte, Nat.reduceEqDiff, Option.map_some, e1, e3, (rd2 g6).1]
    refine G.call ?_
    simp only [dput_some, ev_t, tget_tput, ↓reduceIte, List.map_cons, List.map_nil]
    refine (hrt h6 xx6).mono fun r h7 ⟨hr, x7⟩ => ?_
    subst hr
    have q1'' : h7.get c1 = some (gbox ((0 : Nat) : Int) ev2) := by rw [x7.2 _ (AH.lt_of_get q1')]; exact q1'
    have q2'' : h7.get c2 = some (fbox ((10 : Nat) : Int) ((0 : Nat) : Int)) := by rw [x7.2 _ (AH.lt_of_get q2')]; exact q2'
    have r3 := rd3 q2''
    have q3'' := q3'.ext x7 (Nat.le_refl _)
    refine G.op (G.op (G.op (G.op (G.op (G.op (G.op (G.op (G.op (G.op (G.op (G.op (G.op (G.op ?_)))))))))))))
    simp only [ckR_nil, evN_none, stp_some, putR_some, gd_true, wanted_none, wanted_some, dput_some, ev_t, ev_c, evOp, tget_tput, loadA_ptr, fadrA_ptr, packA_one, packA_agg, pickA_true, bin_eql, bin_seql, ↓reduceIte, Nat.reduceEqDiff, Option.map_some, beq_true, Nat.zero_add, Nat.add_zero, fill, e4, e5, hTT, r3.2.1, r3.2.2.1, z0, z1, (rd2 q1'').1, evOp]
    refine G.callg (by simp only [wanted_some, tget_tput, ↓reduceIte, Nat.reduceEqDiff, beq_true]) ?_
    simp only [dput_some, ev_t, tget_tput, ↓reduceIte, Nat.reduceEqDiff, List.map_cons, List.map_nil]
    refine (same_ok (v := ((0 : Nat) : Int)) (es := []) q3'' (.inl ⟨rfl, rfl⟩) (by simp)).mono fun r h8 ⟨hr, _⟩ => ?_
    subst hr
    refine G.op (G.op ?_)
    simp only [ckR_nil, evN_none, stp_some, putR_some, gd_true, wanted_none, dput_some, ev_t, ev_c, evOp, tget_tput, pickA_true, ↓reduceIte, Nat.reduceEqDiff, Option.map_some]
    exact G.done (by simp only [tget_tput, ↓reduceIte])
  · -- it fits
    simp only [Bool.not_eq_false', decide_eq_true_eq] at hf
    rw [if_neg (by omega), firstOff_none n fs 0 m4] at hread
    subst hread
    simp only at q1' q2' q3' r2
    refine W.seq (W.calls (fun ts h7 => tget ts 2 = .bool true) ?_ fun ts h7 e2 => W.ret ⟨.bool true, by simp only [Am.results, rdAll, rdRes, e2, rf3], rfl⟩)
    refine G.op (G.op ?_)
    simp only [ckR_nil, evN_none, stp_some, putR_some, gd_true, wanted_none, dput_some, ev_t, evOp, tget_tput, loadA_ptr, packA_agg, ↓reduceIte, Nat.reduceEqDiff, Option.map_some, e1, e3, (rd2 g6).1]
    refine G.call ?_
    simp only [dput_some, ev_t, tget_tput, ↓reduceIte, List.map_cons, List.map_nil]
    refine (hrt h6 xx6).mono fun r h7 ⟨hr, x7⟩ => ?_
    subst hr
    have g7 : h7.get h.next = some (gbox (n : Nat) ev) := by rw [x7.2 _ (AH.lt_of_get g6)]; exact g6
    have q1'' : h7.get c1 = some (gbox (n : Nat) ev2) := by rw [x7.2 _ (AH.lt_of_get q1')]; exact q1'
    have q2'' : h7.get c2 = some (fbox ((0 : Nat) : Int) ((0 : Nat) : Int)) := by rw [x7.2 _ (AH.lt_of_get q2')]; exact q2'
    have r3 := rd3 q2''
    have q3'' := q3'.ext x7 (Nat.le_refl _)
    have he7 := he.ext (xx6.trans (x7.mono xx6.1)) (Nat.le_refl _)
    refine G.op (G.op (G.op (G.op (G.op (G.op (G.op (G.op (G.op ?_))))))))
    simp only [ckR_nil, evN_none, stp_some, putR_some, gd_true, wanted_none, wanted_some, dput_some, ev_t, ev_c, evOp, tget_tput, loadA_ptr, fadrA_ptr, packA_one, packA_agg, pickA_true, bin_eql, bin_seql, ↓reduceIte, Nat.reduceEqDiff, Option.map_some, beq_true, Nat.add_zero, e1, e4, e5, hTT, r3.2.1, z0, (rd2 q1'').1, (rd2 g7).1]
    refine G.callg (by simp only [wanted_some, tget_tput, ↓reduceIte, Nat.reduceEqDiff, beq_true]) ?_
    simp only [dput_some, ev_t, tget_tput, ↓reduceIte, Nat.reduceEqDiff, List.map_cons, List.map_nil]
    refine (same_ok (v := (n : Nat)) (es := toI fs) q3'' he7 (by rw [toI_len]; omega)).mono fun r h8 ⟨hr, _⟩ => ?_
    subst hr
    refine G.op (G.op ?_)
    simp only [ckR_nil, evN_none, stp_some, putR_some, gd_true, wanted_none, dput_some, ev_t, ev_c, evOp, tget_tput, pickA_true, ↓reduceIte, Nat.reduceEqDiff, Option.map_some]
    exact G.done (by simp only [tget_tput, ↓reduceIte])

end Go.Proofs.YtloklfmgbolpeaaDoor
