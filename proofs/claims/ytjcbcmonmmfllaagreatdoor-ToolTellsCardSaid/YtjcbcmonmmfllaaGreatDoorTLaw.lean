/-
  ToolTells answers true.
-/
import Derived.Test.YtjcbcmonmmfllaaGreatDoorRTell
namespace Go.Proofs.YtjcbcmonmmfllaaGreatDoor
set_option linter.unusedVariables false
set_option linter.unusedSimpArgs false
open Go.Am

/-- What is in memory, of the input. -/
def Mem (h : AH) (vv cv : AV) (ns : List Int) (cs : List (List UInt8)) : Prop := IntsAt h vv ns ∧ CertsAt h cv cs ∧ (∃ ro, h.get 0 = some (.cells pow10 1 ro)) ∧ 0 < h.next

theorem Mem.ext {h h' : AH} {vv cv : AV} {ns : List Int} {cs : List (List UInt8)} (hm : Mem h vv cv ns cs) (hx : Ext h.next h h') : Mem h' vv cv ns cs := by
  obtain ⟨a, b, ⟨ro, c⟩, d⟩ := hm
  exact ⟨a.ext hx (Nat.le_refl _), b.ext hx (Nat.le_refl _), ⟨ro, by rw [hx.2 0 d]; exact c⟩, by have := hx.1; omega⟩

set_option maxRecDepth 4000 in
theorem tells_law {h : AH} {k code at_ : Int} {vv cv : AV} {ns : List Int} {cs : List (List UInt8)} {nv nc : Nat} (hk1 : I64 code) (hk2 : I64 at_) (hns : ∀ n ∈ ns, I64 n)
    (hvl : lenLA vv = some (.int .i64 (nv : Nat))) (hcl : lenLA cv = some (.int .i64 (nc : Nat)))
    (hsp : C prg 4 [] h fun r h' => r = .bool true ∧ (nv ≤ 100 → nc ≤ 10 → Mem h' vv cv ns cs)) :
    C prg 3 [.int .i64 k, .int .i64 code, .int .i64 at_, vv, cv] h fun r _ => r = .bool true := by
  refine C.func pf3 ?_
  refine W.seq (W.runs (fun ts h1 => h1 = h ∧ tget ts 0 = .int .i64 k ∧ tget ts 1 = .int .i64 code ∧ tget ts 2 = .int .i64 at_ ∧ tget ts 3 = vv ∧ tget ts 4 = cv) ?_ fun ts h1 ⟨eh, e0, e1, e2, e3, e4⟩ => ?_)
  · simp only [ckR_nil, evN_none, stps_nil, stps_cons, stp_some, putR_some, gd_true, wanted_none, dput_some, ev_c, okR_some, evOp, tget_tput, ↓reduceIte, Nat.reduceEqDiff, Nat.zero_add, Nat.reduceAdd, reduceCtorEq, and_self, initTm]
  subst eh
  refine W.seq (W.seq (W.calls (fun ts h2 => (nv ≤ 100 → nc ≤ 10 → Mem h2 vv cv ns cs) ∧ tget ts 0 = .int .i64 k ∧ tget ts 1 = .int .i64 code ∧ tget ts 2 = .int .i64 at_ ∧ tget ts 3 = vv ∧ tget ts 4 = cv ∧ tget ts 14 = .bool false) ?_ fun ts h2 ⟨hM, e0, e1, e2, e3, e4, e14⟩ => W.no e14 (W.skip ?_)))
  · refine G.call ?_
    simp only [dput_some, List.map_nil]
    refine hsp.mono fun r h2 ⟨hr, hM⟩ => ?_
    subst hr
    refine G.op ?_
    simp only [ckR_nil, evN_none, stp_some, putR_some, gd_true, wanted_none, dput_some, ev_t, evOp, tget_tput, unA_not, ↓reduceIte, Option.map_some, Bool.not_true]
    exact G.done ⟨hM, by simp only [tget_tput, ↓reduceIte, reduceCtorEq, e0], by simp only [tget_tput, ↓reduceIte, Nat.reduceEqDiff, e1], by simp only [tget_tput, ↓reduceIte, Nat.reduceEqDiff, e2], by simp only [tget_tput, ↓reduceIte, Nat.reduceEqDiff, e3], by simp only [tget_tput, ↓reduceIte, Nat.reduceEqDiff, e4], by simp only [tget_tput, ↓reduceIte]⟩
  have d1 : decide ((100 : Int) < (nv : Nat)) = decide (100 < nv) := by simp only [decide_eq_decide]; omega
  have d2 : decide ((10 : Int) < (nc : Nat)) = decide (10 < nc) := by simp only [decide_eq_decide]; omega
  refine W.seq (W.seq (W.runs (fun ts h3 => h3 = h2 ∧ tget ts 0 = .int .i64 k ∧ tget ts 1 = .int .i64 code ∧ tget ts 2 = .int .i64 at_ ∧ tget ts 3 = vv ∧ tget ts 4 = cv ∧ tget ts 22 = .bool (decide (100 < nv) || decide (10 < nc))) ?_ fun ts h3 ⟨eh, e0, e1, e2, e3, e4, e22⟩ => W.cond e22 (fun _ => ?_) fun hq => W.skip ?_))
  · by_cases c1 : 100 < nv
    · simp only [c1, decide_true] at d1
      simp only [ckR_nil, evN_none, stps_nil, stps_cons, stp_some, putR_some, gd_true, gd_false, wanted_none, wanted_some, dput_some, ev_t, ev_c, okR_some, evOp, tget_tput, pickA_true, bin_gtr, ↓reduceIte, Nat.reduceEqDiff, Option.map_some, beq_false, Bool.not_true, reduceCtorEq, and_self, AV.un, e0, e1, e2, e3, e4, hvl, d1, c1, decide_true, Bool.true_or]
    · simp only [c1, decide_false] at d1
      simp only [ckR_nil, evN_none, stps_nil, stps_cons, stp_some, putR_some, gd_true, wanted_none, wanted_some, dput_some, ev_t, ev_c, okR_some, evOp, tget_tput, pickA_false, bin_gtr, ↓reduceIte, Nat.reduceEqDiff, Option.map_some, beq_false, Bool.not_false, reduceCtorEq, and_self, e0, e1, e2, e3, e4, hvl, hcl, d1, d2, c1, decide_false, Bool.false_or]
  · refine W.seq (W.runs (fun ts h4 => tget ts 10 = .bool true) ?_ fun ts h4 e2 => W.ret ⟨.bool true, by simp only [Am.results, rdAll, rdRes, e2, rf3], rfl⟩)
    simp only [ckR_nil, evN_none, stps_nil, stps_cons, stp_some, putR_some, gd_true, wanted_none, dput_some, ev_c, okR_some, evOp, tget_tput, ↓reduceIte]
  subst eh
  simp only [Bool.or_eq_false_iff, decide_eq_false_iff_not] at hq
  obtain ⟨hv, hc, hp, h0⟩ := hM (by omega) (by omega)
  have hvl2 := hv.len
  have hcl2 := hc.len
  have e5 : ns.length = nv := by
    rw [hvl] at hvl2
    simp only [Option.some.injEq, AV.int.injEq, true_and] at hvl2
    omega
  have e6 : cs.length = nc := by
    rw [hcl] at hcl2
    simp only [Option.some.injEq, AV.int.injEq, true_and] at hcl2
    omega
  subst e5 e6
  clear hM hsp d1 d2 e22 hvl2 hcl2
  refine W.seq (W.cut (fun ts h4 => h4 = h3 ∧ tget ts 0 = .int .i64 k ∧ tget ts 1 = .int .i64 code ∧ tget ts 2 = .int .i64 at_ ∧ tget ts 3 = vv ∧ tget ts 4 = cv ∧ ∀ b ∈ cs, b.length ≤ 500) (W.seq (W.runs (fun ts h4 => h4 = h3 ∧ tget ts 0 = .int .i64 k ∧ tget ts 1 = .int .i64 code ∧ tget ts 2 = .int .i64 at_ ∧ tget ts 3 = vv ∧ tget ts 4 = cv ∧ tget ts 23 = cv ∧ tget ts 24 = .int .i64 (cs.length : Nat) ∧ tget ts 25 = .int .i64 ((0 : Nat) : Int)) ?_ fun ts h4 ⟨eh, e0, e1, e2, e3, e4, e23, e24, e25⟩ => ?_)) fun ts h4 ⟨eh, e0, e1, e2, e3, e4, hcs⟩ => ?_)
  · simp only [ckR_nil, evN_none, stps_nil, stps_cons, stp_some, putR_some, gd_true, wanted_none, dput_some, ev_t, ev_c, okR_some, evOp, tget_tput, ↓reduceIte, Nat.reduceEqDiff, Option.map_some, reduceCtorEq, true_and, e0, e1, e2, e3, e4, hcl]
    simp
  · subst eh
    refine W.block (W.loop (fun m ts h5 => h5 = h4 ∧ ∃ i, m = cs.length - i ∧ i ≤ cs.length ∧ (∀ b ∈ cs.take i, b.length ≤ 500) ∧ tget ts 0 = .int .i64 k ∧ tget ts 1 = .int .i64 code ∧ tget ts 2 = .int .i64 at_ ∧ tget ts 3 = vv ∧ tget ts 4 = cv ∧ tget ts 23 = cv ∧ tget ts 24 = .int .i64 (cs.length : Nat) ∧ tget ts 25 = .int .i64 (i : Nat)) ?_ (n := cs.length) ⟨rfl, 0, rfl, Nat.zero_le _, by simp, e0, e1, e2, e3, e4, e23, e24, e25⟩)
    clear e0 e1 e2 e3 e4 e23 e24 e25
    rintro m ts h5 ⟨eh, i, hm, hi, hall, e0, e1, e2, e3, e4, e23, e24, e25⟩
    subst eh
    refine W.seq (W.runs (fun ts h6 => h6 = h5 ∧ tget ts 0 = .int .i64 k ∧ tget ts 1 = .int .i64 code ∧ tget ts 2 = .int .i64 at_ ∧ tget ts 3 = vv ∧ tget ts 4 = cv ∧ tget ts 23 = cv ∧ tget ts 24 = .int .i64 (cs.length : Nat) ∧ tget ts 25 = .int .i64 (i : Nat) ∧ tget ts 26 = .bool (decide (i < cs.length))) ?_ fun ts h6 ⟨eh, e0, e1, e2, e3, e4, e23, e24, e25, e26⟩ => ?_)
    · have : decide (((i : Nat) : Int) < (cs.length : Nat)) = decide (i < cs.length) := by simp only [decide_eq_decide]; omega
      simp only [ckR_nil, evN_none, stps_nil, stps_cons, stp_some, putR_some, gd_true, wanted_none, dput_some, ev_t, okR_some, evOp, tget_tput, bin_lss, ↓reduceIte, Nat.reduceEqDiff, Option.map_some, reduceCtorEq, and_self, e0, e1, e2, e3, e4, e23, e24, e25, this]
    subst eh
    refine W.seq (W.cond e26 (fun hq => W.skip ?_) fun hq => W.exit ⟨fun _ => ⟨rfl, e0, e1, e2, e3, e4, ?_⟩, fun e => absurd rfl e⟩)
    · simp only [decide_eq_true_eq] at hq
      obtain ⟨c, hci⟩ : ∃ c, cs[i]? = some c := ⟨_, List.getElem?_eq_getElem hq⟩
      obtain ⟨b, x, q1, q2, q3⟩ := hc.at hci
      have hxl := q3.len
      refine W.seq (W.block (W.seq (W.runs (fun ts h7 => h7 = h6 ∧ tget ts 0 = .int .i64 k ∧ tget ts 1 = .int .i64 code ∧ tget ts 2 = .int .i64 at_ ∧ tget ts 3 = vv ∧ tget ts 4 = cv ∧ tget ts 23 = cv ∧ tget ts 24 = .int .i64 (cs.length : Nat) ∧ tget ts 25 = .int .i64 (i : Nat) ∧ tget ts 12 = x) ?_ fun ts h7 ⟨eh, e0, e1, e2, e3, e4, e23, e24, e25, e12⟩ => ?_)))
      · simp only [ckR_nil, evN_none, stps_nil, stps_cons, stp_some, putR_some, gd_true, wanted_none, dput_some, ev_t, okR_some, evOp, tget_tput, loadA_ptr, packA_one, ↓reduceIte, Nat.reduceEqDiff, Option.map_some, reduceCtorEq, and_self, e0, e1, e2, e3, e4, e23, e24, e25, q1, q2]
      subst eh
      have d5 : decide ((500 : Int) < (c.length : Nat)) = decide (500 < c.length) := by simp only [decide_eq_decide]; omega
      refine W.seq (W.runs (fun ts h8 => h8 = h7 ∧ tget ts 0 = .int .i64 k ∧ tget ts 1 = .int .i64 code ∧ tget ts 2 = .int .i64 at_ ∧ tget ts 3 = vv ∧ tget ts 4 = cv ∧ tget ts 23 = cv ∧ tget ts 24 = .int .i64 (cs.length : Nat) ∧ tget ts 25 = .int .i64 (i : Nat) ∧ tget ts 31 = .bool (decide (500 < c.length))) ?_ fun ts h8 ⟨eh, e0, e1, e2, e3, e4, e23, e24, e25, e31⟩ => W.cond e31 (fun _ => ?_) fun hq5 => W.skip ?_)
      · simp only [ckR_nil, evN_none, stps_nil, stps_cons, stp_some, putR_some, gd_true, wanted_none, dput_some, ev_t, ev_c, okR_some, evOp, tget_tput, bin_gtr, ↓reduceIte, Nat.reduceEqDiff, Option.map_some, reduceCtorEq, and_self, e0, e1, e2, e3, e4, e23, e24, e25, e12, hxl, d5]
      · refine W.seq (W.runs (fun ts h4 => tget ts 10 = .bool true) ?_ fun ts h4 e2 => W.ret ⟨.bool true, by simp only [Am.results, rdAll, rdRes, e2, rf3], rfl⟩)
        simp only [ckR_nil, evN_none, stps_nil, stps_cons, stp_some, putR_some, gd_true, wanted_none, dput_some, ev_c, okR_some, evOp, tget_tput, ↓reduceIte]
      subst eh
      simp only [decide_eq_false_iff_not] at hq5
      have w4 : IntKind.i64.wrap (((i : Nat) : Int) + 1) = ((i + 1 : Nat) : Int) := IntWalk.i64_in _ (by omega)
      refine W.runs (fun ts h9 => h9 = h8 ∧ tget ts 0 = .int .i64 k ∧ tget ts 1 = .int .i64 code ∧ tget ts 2 = .int .i64 at_ ∧ tget ts 3 = vv ∧ tget ts 4 = cv ∧ tget ts 23 = cv ∧ tget ts 24 = .int .i64 (cs.length : Nat) ∧ tget ts 25 = .int .i64 ((i + 1 : Nat) : Int)) ?_ fun ts h9 ⟨eh, e0, e1, e2, e3, e4, e23, e24, e25⟩ => ?_
      · simp only [ckR_nil, evN_none, stps_nil, stps_cons, stp_some, putR_some, gd_true, wanted_none, dput_some, ev_t, ev_c, okR_some, evOp, tget_tput, bin_add, ↓reduceIte, Nat.reduceEqDiff, Option.map_some, reduceCtorEq, and_self, e0, e1, e2, e3, e4, e23, e24, e25, w4]
      subst eh
      refine ⟨cs.length - (i + 1), by omega, rfl, i + 1, rfl, by omega, fun b hb => ?_, e0, e1, e2, e3, e4, e23, e24, e25⟩
      rw [List.take_add_one, hci] at hb
      rcases List.mem_append.1 hb with hb | hb
      · exact hall b hb
      · simp at hb
        subst hb
        omega
    · simp only [decide_eq_false_iff_not] at hq
      have : i = cs.length := by omega
      subst this
      rwa [List.take_length] at hall
  subst eh
  have hc1 := hv.cells
  have hc2 := hc.cells
  refine W.seq (W.calls (fun ts h5 => tget ts 10 = .bool true) ?_ fun ts h5 e10 => W.ret ⟨.bool true, by simp only [Am.results, rdAll, rdRes, e10, rf3], rfl⟩)
  refine G.op (G.op (G.op (G.op (G.op (G.op (G.op ?_))))))
  simp only [ckR_nil, evN_none, stp_some, putR_some, gd_true, wanted_none, dput_some, ev_t, evOp, tget_tput, ↓reduceIte, Nat.reduceEqDiff, Option.map_some, Nat.zero_add, Nat.reduceAdd, fill, splice, cells_int, cells_agg, List.length_cons, List.length_nil, List.take_succ_cons, List.take_zero, List.drop_succ_cons, List.drop_zero, List.cons_append, List.nil_append, Nat.reduceLeDiff, and_self, e0, e1, e2, e3, e4, hc1, hc2]
  refine G.call ?_
  simp only [dput_some, ev_t, tget_tput, ↓reduceIte, List.map_cons, List.map_nil]
  refine (tell_ok hk1 hk2 hns hv hc (by omega) (by omega) hcs hp h0).mono fun r h5 ⟨er, x5⟩ => ?_
  subst er
  obtain ⟨hv5, hc5, _, _⟩ := Mem.ext ⟨hv, hc, hp, h0⟩ x5
  refine G.op (G.op (G.op (G.op (G.op ?_))))
  simp only [ckR_nil, evN_none, stp_some, putR_some, gd_true, wanted_none, dput_some, ev_t, evOp, tget_tput, ↓reduceIte, Nat.reduceEqDiff, reduceCtorEq, e0, e1, e2, e3, e4]
  refine G.call ?_
  simp only [dput_some, ev_t, tget_tput, ↓reduceIte, Nat.reduceEqDiff, List.map_cons, List.map_nil]
  refine (rtell_ok hk1 hk2 hns hv5 hc5 (by omega) (by omega) hcs).mono fun r h6 ⟨er, _⟩ => ?_
  subst er
  have hTT : ((headS k code at_ ns ++ csS cs) == (headS k code at_ ns ++ csS cs)) = true := beq_self_eq_true _
  refine G.op (G.op ?_)
  simp only [ckR_nil, evN_none, stp_some, putR_some, gd_true, wanted_none, dput_some, ev_t, evOp, tget_tput, bin_seql, ↓reduceIte, Nat.reduceEqDiff, Option.map_some, hTT]
  exact G.done (by simp only [tget_tput, ↓reduceIte])

end Go.Proofs.YtjcbcmonmmfllaaGreatDoor
