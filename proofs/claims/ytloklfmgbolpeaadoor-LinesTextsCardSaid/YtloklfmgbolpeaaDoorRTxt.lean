/-
  ref.Text.
-/
import Derived.Test.YtloklfmgbolpeaaDoorTxt
namespace Go.Proofs.YtloklfmgbolpeaaDoor
set_option linter.unusedVariables false
set_option linter.unusedSimpArgs false
open Go.Am

theorem dgi_ok {h : AH} {n : Nat} (hn : n ≤ 999999) : C prg 17 [.int .i64 (n : Nat)] h fun v h' => v = .str (dg n) ∧ h' = h := int_ok hn

theorem ln_eq (s : List UInt8) (a c : Nat) : s ++ dg a ++ [32] ++ dg c ++ [10] = s ++ ln a c := by simp [ln]

theorem rtext_ok {h : AH} {v : Nat} {ev : AV} {es : List (Nat × Nat)} (he : EdgesAt h ev (toI es)) (hl : es.length ≤ 128) (hv : v ≤ 999999) (hes : ∀ e ∈ es, e.1 ≤ 999999 ∧ e.2 ≤ 999999) :
    C prg 10 [.agg [.int .i64 (v : Nat), ev]] h fun r h' => r = .str (txtOf v es) ∧ Ext h.next h h' := by
  refine C.func pf10 ?_
  have hc := he.cells
  refine W.seq (W.runs (fun ts h1 => tget ts 1 = .ptr h.next 0 ∧ h1.get h.next = some (gbox (v : Nat) ev) ∧ h1.next = h.next + 1 ∧ Ext h.next h h1) ?_ fun ts h1 ⟨e1, g1, n1, ex⟩ => ?_)
  · simp only [ckR_nil, evN_none, stps_nil, stps_cons, stp_some, putR_some, gd_true, wanted_none, dput_some, ev_t, ev_c, okR_some, evOp, tget_tput, ↓reduceIte, Nat.reduceEqDiff, Nat.zero_add, Nat.reduceAdd, true_and, boxA, cells_agg, List.length_cons, List.length_nil, AH.next_new, initTm]
    refine ⟨?_, Ext.new (Nat.le_refl _)⟩
    rw [AH.get_new, if_pos rfl]
  have he1 := he.ext ex (Nat.le_refl _)
  have hl1 := he1.len
  rw [toI_len] at hl1
  have hsame : AV.same ev ev = true := by
    rcases he with ⟨_, rfl⟩ | ⟨b, n, ro, rfl, _⟩
    · exact same_nils
    · exact same_sl
  have d1 := dg_len v
  have d2 := dg_len es.length
  refine W.seq (W.calls (fun ts h2 => h2 = h1 ∧ tget ts 1 = .ptr h.next 0 ∧ tget ts 3 = .str (ln v es.length)) ?_ fun ts h2 ⟨eh, e1, e3⟩ => ?_)
  · refine G.op (G.op (G.op (G.op (G.op ?_))))
    simp only [ckR_nil, evN_none, stp_some, putR_some, gd_true, wanted_none, dput_some, ev_t, evOp, tget_tput, loadA_ptr, fadrA_ptr, packA_one, ↓reduceIte, Nat.reduceEqDiff, Option.map_some, Nat.zero_add, Nat.add_zero, e1, (rd2 g1).2.1, (rd2 g1).2.2, hl1]
    refine G.callc rfl ?_
    simp only [chks_nil, chks_cons, chk1_none, dput_some, ev_t, evOp, tget_tput, loadA_ptr, ↓reduceIte, Nat.reduceEqDiff, List.map_cons, List.map_nil, Bool.and_true]
    refine (dgi_ok hv).mono fun r h2 ⟨er, eh⟩ => ?_
    subst er eh
    refine ⟨by simp only [packA_one, Option.map_some, (rd2 g1).2.2, hsame], ?_⟩
    have c1 : (dg v).length + 1 < 2 ^ 62 := by omega
    refine G.op ?_
    simp only [ckR_nil, evN_none, stp_some, putR_some, gd_true, wanted_none, dput_some, ev_t, ev_c, evOp, tget_tput, bin_sadd, ↓reduceIte, Option.map_some, Nat.zero_add, List.length_cons, List.length_nil, c1]
    refine G.call ?_
    simp only [dput_some, ev_t, tget_tput, ↓reduceIte, Nat.reduceEqDiff, List.map_cons, List.map_nil]
    refine (dgi_ok (by omega)).mono fun r h3 ⟨er, eh⟩ => ?_
    subst er eh
    have c2 : (dg v ++ [32]).length + (dg es.length).length < 2 ^ 62 := by simp; omega
    have c3 : (dg v ++ [32] ++ dg es.length).length + 1 < 2 ^ 62 := by simp; omega
    refine G.op (G.op (G.op ?_))
    simp only [ckR_nil, evN_none, stp_some, putR_some, gd_true, wanted_none, dput_some, ev_t, ev_c, evOp, tget_tput, bin_sadd, ↓reduceIte, Nat.reduceEqDiff, Option.map_some, Nat.zero_add, List.length_cons, List.length_nil, c2, c3]
    have := ln_eq [] v es.length
    simp only [List.nil_append] at this
    exact G.done ⟨rfl, by simp only [tget_tput, ↓reduceIte, Nat.reduceEqDiff, e1], by simp only [tget_tput, ↓reduceIte, this]⟩
  subst eh
  refine W.seq (W.seq (W.runs (fun ts h3 => h3 = h2 ∧ tget ts 1 = .ptr h.next 0 ∧ tget ts 3 = .str (ln v es.length) ∧ tget ts 4 = .int .i64 ((0 : Nat) : Int)) ?_ fun ts h3 ⟨eh, e1, e3, e4⟩ => ?_))
  · simp only [ckR_nil, evN_none, stps_nil, stps_cons, stp_some, putR_some, gd_true, wanted_none, dput_some, ev_c, okR_some, evOp, tget_tput, ↓reduceIte, Nat.reduceEqDiff, true_and, e1, e3]
    simp
  subst eh
  refine W.cut (fun ts h4 => h4 = h3 ∧ tget ts 3 = .str (txtOf v es)) (W.block (W.loop (fun m ts h4 => h4 = h3 ∧ ∃ i, m = es.length - i ∧ i ≤ es.length ∧ tget ts 1 = .ptr h.next 0 ∧ tget ts 3 = .str (ln v es.length ++ (es.take i).flatMap fun e => ln e.1 e.2) ∧ tget ts 4 = .int .i64 (i : Nat)) ?_ (n := es.length) ⟨rfl, 0, rfl, Nat.zero_le _, e1, by simpa using e3, e4⟩)) fun ts h4 ⟨eh, e3⟩ => ?_
  · clear e1 e3 e4
    rintro m ts h4 ⟨eh, i, hm, hi, e1, e3, e4⟩
    subst eh
    refine W.seq (W.seq (W.runs (fun ts h5 => h5 = h4 ∧ tget ts 1 = .ptr h.next 0 ∧ tget ts 3 = .str (ln v es.length ++ (es.take i).flatMap fun e => ln e.1 e.2) ∧ tget ts 4 = .int .i64 (i : Nat) ∧ tget ts 19 = .bool (decide (i < es.length))) ?_ fun ts h5 ⟨eh, e1, e3, e4, e19⟩ => ?_))
    · have : decide (((i : Nat) : Int) < (es.length : Nat)) = decide (i < es.length) := by simp only [decide_eq_decide]; omega
      simp only [ckR_nil, evN_none, stps_nil, stps_cons, stp_some, putR_some, gd_true, wanted_none, dput_some, ev_t, okR_some, evOp, tget_tput, loadA_ptr, fadrA_ptr, packA_one, bin_lss, ↓reduceIte, Nat.reduceEqDiff, Option.map_some, Nat.zero_add, and_self, e1, e3, e4, (rd2 g1).2.2, hl1, this]
    subst eh
    refine W.cond e19 (fun hc => W.skip ?_) fun hc => W.exit ⟨fun _ => ⟨rfl, ?_⟩, fun e => absurd rfl e⟩
    · simp only [decide_eq_true_eq] at hc
      obtain ⟨e, hei⟩ : ∃ e, es[i]? = some e := ⟨_, List.getElem?_eq_getElem hc⟩
      obtain ⟨b, p1, p2, p3, p4⟩ := he1.at (toI_at hei)
      have htk := txt_take (v := v) (n := es.length) hei
      have hln := txt_len v es.length (es.take i)
      have hli : (es.take i).length ≤ 128 := by simp; omega
      have hio := hes e (List.mem_of_getElem? hei)
      obtain ⟨y, z⟩ := e
      simp only at htk hio p3 p4
      generalize hT : (ln v es.length ++ (es.take i).flatMap fun e => ln e.1 e.2) = T at *
      have dy := dg_len y
      have dz := dg_len z
      refine W.seq (W.block (W.calls (fun ts h6 => h6 = h5 ∧ tget ts 1 = .ptr h.next 0 ∧ tget ts 3 = .str (T ++ ln y z) ∧ tget ts 4 = .int .i64 (i : Nat)) ?_ fun ts h6 ⟨eh, e1, e3, e4⟩ => ?_))
      · refine G.op (G.op (G.op (G.op (G.op (G.op (G.op (G.op (G.op (G.op (G.op (G.op (G.op ?_))))))))))))
        simp only [ckR_nil, evN_none, stp_some, putR_some, gd_true, wanted_none, dput_some, ev_t, evOp, tget_tput, loadA_ptr, fadrA_ptr, packA_one, ↓reduceIte, Nat.reduceEqDiff, Option.map_some, Nat.zero_add, Nat.add_zero, e1, e3, e4, (rd2 g1).2.2, p1, p3, p4]
        refine G.callc rfl ?_
        simp only [chks_nil, chks_cons, chk1_none, dput_some, ev_t, evOp, tget_tput, loadA_ptr, ↓reduceIte, Nat.reduceEqDiff, List.map_cons, List.map_nil, Bool.and_true]
        refine (dgi_ok hio.1).mono fun r h6 ⟨er, eh⟩ => ?_
        subst er eh
        refine ⟨by simp only [same_int, packA_one, Option.map_some, (rd2 g1).2.2, hsame, p4, Bool.and_self], ?_⟩
        have c1 : T.length + (dg y).length < 2 ^ 62 := by omega
        have c2 : (T ++ dg y).length + 1 < 2 ^ 62 := by simp; omega
        refine G.op (G.op ?_)
        simp only [ckR_nil, evN_none, stp_some, putR_some, gd_true, wanted_none, dput_some, ev_t, ev_c, evOp, tget_tput, bin_sadd, ↓reduceIte, Nat.reduceEqDiff, Option.map_some, Nat.zero_add, List.length_cons, List.length_nil, c1, c2]
        refine G.call ?_
        simp only [dput_some, ev_t, tget_tput, ↓reduceIte, Nat.reduceEqDiff, List.map_cons, List.map_nil]
        refine (dgi_ok hio.2).mono fun r h7 ⟨er, eh⟩ => ?_
        subst er eh
        have c3 : (T ++ dg y ++ [32]).length + (dg z).length < 2 ^ 62 := by simp; omega
        have c4 : (T ++ dg y ++ [32] ++ dg z).length + 1 < 2 ^ 62 := by simp; omega
        refine G.op (G.op (G.op ?_))
        simp only [ckR_nil, evN_none, stp_some, putR_some, gd_true, wanted_none, dput_some, ev_t, ev_c, evOp, tget_tput, bin_sadd, ↓reduceIte, Nat.reduceEqDiff, Option.map_some, Nat.zero_add, List.length_cons, List.length_nil, c3, c4]
        exact G.done ⟨rfl, by simp only [tget_tput, ↓reduceIte, Nat.reduceEqDiff, e1], by simp only [tget_tput, ↓reduceIte, ln_eq], by simp only [tget_tput, ↓reduceIte, Nat.reduceEqDiff, e4]⟩
      subst eh
      have w4 : IntKind.i64.wrap (((i : Nat) : Int) + 1) = ((i + 1 : Nat) : Int) := IntWalk.i64_in _ (by omega)
      refine W.runs (fun ts h9 => h9 = h6 ∧ tget ts 1 = .ptr h.next 0 ∧ tget ts 3 = .str (T ++ ln y z) ∧ tget ts 4 = .int .i64 ((i + 1 : Nat) : Int)) ?_ fun ts h9 ⟨eh, e1, e3, e4⟩ => ?_
      · simp only [ckR_nil, evN_none, stps_nil, stps_cons, stp_some, putR_some, gd_true, wanted_none, dput_some, ev_t, ev_c, okR_some, evOp, tget_tput, bin_add, ↓reduceIte, Nat.reduceEqDiff, Option.map_some, and_self, e1, e3, e4, w4]
      subst eh
      exact ⟨es.length - (i + 1), by omega, rfl, i + 1, rfl, by omega, e1, by rw [htk]; exact e3, e4⟩
    · simp only [decide_eq_false_iff_not] at hc
      have : i = es.length := by omega
      subst this
      rwa [List.take_length] at e3
  subst eh
  refine W.seq (W.runs (fun ts hg => hg = h4 ∧ tget ts 2 = .str (txtOf v es)) ?_ fun ts hg ⟨eh, e2⟩ => W.ret ⟨_, by simp only [Am.results, rdAll, rdRes, e2, rf10], rfl, by subst eh; exact ex⟩)
  simp only [ckR_nil, evN_none, stps_nil, stps_cons, stp_some, putR_some, gd_true, wanted_none, dput_some, ev_t, okR_some, evOp, tget_tput, ↓reduceIte, and_self, e3]

end Go.Proofs.YtloklfmgbolpeaaDoor
