/-
  ref.Tell.
-/
import Derived.Test.YtjcbcmonmmfllaaGreatDoorTell
namespace Go.Proofs.YtjcbcmonmmfllaaGreatDoor
set_option linter.unusedVariables false
set_option linter.unusedSimpArgs false
open Go.Am

set_option maxRecDepth 4000 in
theorem rtell_ok {h : AH} {k code at_ : Int} {vv cv : AV} {ns : List Int} {cs : List (List UInt8)} (hk1 : I64 code) (hk2 : I64 at_) (hns : ∀ n ∈ ns, I64 n) (hv : IntsAt h vv ns) (hcv : CertsAt h cv cs) (hnl : ns.length ≤ 100) (hcl : cs.length ≤ 10) (hcs : ∀ b ∈ cs, b.length ≤ 500) :
    C prg 6 [.int .i64 k, .int .i64 code, .int .i64 at_, vv, cv] h fun r h' => r = .str (headS k code at_ ns ++ csS cs) ∧ h' = h := by
  have hhl := headS_len (k := k) (code := code) (at_ := at_) hnl
  have hel := errS_len code at_
  have hvl := vsS_len ns
  have hlv := hv.len
  have hlc := hcv.len
  refine C.func pf6 ?_
  refine W.seq (W.runs (fun ts h1 => h1 = h ∧ tget ts 0 = .int .i64 k ∧ tget ts 1 = .int .i64 code ∧ tget ts 2 = .int .i64 at_ ∧ tget ts 3 = vv ∧ tget ts 4 = cv) ?_ fun ts h1 ⟨eh, e0, e1, e2, e3, e4⟩ => ?_)
  · simp only [ckR_nil, evN_none, stps_nil, stps_cons, stp_some, putR_some, gd_true, wanted_none, dput_some, ev_c, okR_some, evOp, tget_tput, ↓reduceIte, Nat.reduceEqDiff, Nat.zero_add, Nat.reduceAdd, reduceCtorEq, and_self, initTm]
  subst eh
  refine W.seq (W.runs (fun ts h2 => h2 = h1 ∧ tget ts 0 = .int .i64 k ∧ tget ts 1 = .int .i64 code ∧ tget ts 2 = .int .i64 at_ ∧ tget ts 3 = vv ∧ tget ts 4 = cv ∧ tget ts 11 = .str [121, 101, 115, 10]) ?_ fun ts h2 ⟨eh, e0, e1, e2, e3, e4, e11⟩ => ?_)
  · simp only [ckR_nil, evN_none, stps_nil, stps_cons, stp_some, putR_some, gd_true, wanted_none, dput_some, ev_c, okR_some, evOp, tget_tput, ↓reduceIte, Nat.reduceEqDiff, reduceCtorEq, and_self, e0, e1, e2, e3, e4]
  subst eh
  refine W.seq (W.cut (fun ts h3 => h3 = h2 ∧ tget ts 0 = .int .i64 k ∧ tget ts 1 = .int .i64 code ∧ tget ts 2 = .int .i64 at_ ∧ tget ts 3 = vv ∧ tget ts 4 = cv ∧ tget ts 11 = .str (if k = 2 then [110, 111, 10] else [121, 101, 115, 10])) (W.seq (W.runs (fun ts h3 => h3 = h2 ∧ tget ts 0 = .int .i64 k ∧ tget ts 1 = .int .i64 code ∧ tget ts 2 = .int .i64 at_ ∧ tget ts 3 = vv ∧ tget ts 4 = cv ∧ tget ts 11 = .str [121, 101, 115, 10] ∧ tget ts 15 = .bool (decide (k = 2))) ?_ fun ts h3 ⟨eh, e0, e1, e2, e3, e4, e11, e15⟩ => W.cond e15 (fun hq => ?_) fun hq => W.skip ?_)) fun ts h3 ⟨eh, e0, e1, e2, e3, e4, e11⟩ => ?_)
  · simp only [ckR_nil, evN_none, stps_nil, stps_cons, stp_some, putR_some, gd_true, wanted_none, dput_some, ev_t, ev_c, okR_some, evOp, tget_tput, bin_eql, ↓reduceIte, Nat.reduceEqDiff, Option.map_some, reduceCtorEq, and_self, e0, e1, e2, e3, e4, e11]
  · subst eh
    simp only [decide_eq_true_eq] at hq
    refine W.runs (fun ts h4 => h4 = h3 ∧ tget ts 0 = .int .i64 k ∧ tget ts 1 = .int .i64 code ∧ tget ts 2 = .int .i64 at_ ∧ tget ts 3 = vv ∧ tget ts 4 = cv ∧ tget ts 11 = .str [110, 111, 10]) ?_ fun ts h4 q => by rw [if_pos hq]; exact q
    simp only [ckR_nil, evN_none, stps_nil, stps_cons, stp_some, putR_some, gd_true, wanted_none, dput_some, ev_c, okR_some, evOp, tget_tput, ↓reduceIte, Nat.reduceEqDiff, reduceCtorEq, and_self, e0, e1, e2, e3, e4]
  · simp only [decide_eq_false_iff_not] at hq
    rw [if_neg hq]
    exact ⟨eh, e0, e1, e2, e3, e4, e11⟩
  subst eh
  refine W.seq (W.cut (fun ts h4 => h4 = h3 ∧ tget ts 4 = cv ∧ tget ts 11 = .str (headS k code at_ ns)) (W.seq (W.runs (fun ts h4 => h4 = h3 ∧ tget ts 1 = .int .i64 code ∧ tget ts 2 = .int .i64 at_ ∧ tget ts 3 = vv ∧ tget ts 4 = cv ∧ tget ts 11 = .str (if k = 2 then [110, 111, 10] else [121, 101, 115, 10]) ∧ tget ts 21 = .bool (decide (k ≠ 1 ∧ k ≠ 2))) ?_ fun ts h4 ⟨eh, e1, e2, e3, e4, e11, e21⟩ => W.cond e21 (fun hq => ?_) fun hq => W.skip ?_)) fun ts h4 ⟨eh, e4, e11⟩ => ?_)
  · generalize (if k = 2 then ([110, 111, 10] : List UInt8) else [121, 101, 115, 10]) = q at *
    by_cases c1 : k = 1
    · have d1 : decide (k = 1) = true := decide_eq_true c1
      have d2 : decide (k ≠ 1 ∧ k ≠ 2) = false := decide_eq_false (by omega)
      simp only [ckR_nil, evN_none, stps_nil, stps_cons, stp_some, putR_some, gd_true, gd_false, wanted_none, wanted_some, dput_some, ev_t, ev_c, okR_some, evOp, tget_tput, pickA_false, bin_neq, ↓reduceIte, Nat.reduceEqDiff, Option.map_some, beq_true, Bool.not_true, reduceCtorEq, and_self, AV.un, e0, e1, e2, e3, e4, e11, d1, d2]
    · have d1 : decide (k = 1) = false := decide_eq_false c1
      have d2 : decide (k ≠ 1 ∧ k ≠ 2) = !decide (k = 2) := by rw [← decide_not]; exact decide_eq_decide.2 (by omega)
      simp only [ckR_nil, evN_none, stps_nil, stps_cons, stp_some, putR_some, gd_true, wanted_none, wanted_some, dput_some, ev_t, ev_c, okR_some, evOp, tget_tput, pickA_true, bin_neq, ↓reduceIte, Nat.reduceEqDiff, Option.map_some, beq_true, Bool.not_false, reduceCtorEq, and_self, e0, e1, e2, e3, e4, e11, d1, d2]
  · subst eh
    simp only [decide_eq_true_eq] at hq
    have hh : headS k code at_ ns = errS code at_ ++ vsS ns ++ [10] := by unfold headS; rw [if_neg hq.1, if_neg hq.2]
    rw [hh]
    have la := dec_len code
    have lb := dec_len at_
    refine W.seq (W.calls (fun ts h5 => h5 = h4 ∧ tget ts 3 = vv ∧ tget ts 4 = cv ∧ tget ts 11 = .str (errS code at_)) ?_ fun ts h5 ⟨eh, e3, e4, e11⟩ => ?_)
    · refine G.op ?_
      simp only [ckR_nil, evN_none, stp_some, putR_some, gd_true, wanted_none, dput_some, ev_t, evOp, e1]
      refine G.call ?_
      simp only [dput_some, ev_t, tget_tput, ↓reduceIte, List.map_cons, List.map_nil]
      refine (refdig_ok hk1.1 hk1.2).mono fun r h5 ⟨er, eh⟩ => ?_
      subst er eh
      refine G.op ?_
      simp only [ckR_nil, evN_none, stp_some, gd_true, wanted_none, ev_t, ev_c, evOp, tget_tput, bin_sadd, ↓reduceIte, Nat.zero_add, Nat.reduceAdd, List.length_cons, List.length_nil, List.cons_append, List.nil_append]
      rw [if_pos (by omega)]
      simp only [putR_some, dput_some, Option.map_some]
      refine G.op ?_
      simp only [ckR_nil, evN_none, stp_some, gd_true, wanted_none, ev_t, ev_c, evOp, tget_tput, bin_sadd, ↓reduceIte, Nat.zero_add, List.length_cons, List.length_nil, List.cons_append]
      rw [if_pos (by omega)]
      simp only [putR_some, dput_some, Option.map_some]
      refine G.op ?_
      simp only [ckR_nil, evN_none, stp_some, putR_some, gd_true, wanted_none, dput_some, ev_t, evOp, tget_tput, ↓reduceIte, Nat.reduceEqDiff, e2]
      refine G.call ?_
      simp only [dput_some, ev_t, tget_tput, ↓reduceIte, List.map_cons, List.map_nil]
      refine (refdig_ok hk2.1 hk2.2).mono fun r h6 ⟨er, eh⟩ => ?_
      subst er eh
      refine G.op ?_
      simp only [ckR_nil, evN_none, stp_some, gd_true, wanted_none, ev_t, evOp, tget_tput, bin_sadd, ↓reduceIte, Nat.reduceEqDiff, List.length_cons, List.cons_append, List.nil_append, List.append_assoc]
      rw [if_pos (by simp only [List.length_append, List.length_cons, List.length_nil]; omega)]
      simp only [putR_some, dput_some, Option.map_some]
      refine G.op ?_
      simp only [ckR_nil, evN_none, stp_some, putR_some, gd_true, wanted_none, dput_some, ev_t, evOp, tget_tput, ↓reduceIte]
      have hE : errS code at_ = 101 :: 114 :: 114 :: 110 :: 111 :: 32 :: (dec code ++ 32 :: dec at_) := by simp [errS]
      rw [← hE]
      exact G.done ⟨rfl, by simp only [tget_tput, ↓reduceIte, Nat.reduceEqDiff, e3], by simp only [tget_tput, ↓reduceIte, Nat.reduceEqDiff, e4], by simp only [tget_tput, ↓reduceIte]⟩
    subst eh
    refine W.seq (W.cut (fun ts h6 => h6 = h5 ∧ tget ts 4 = cv ∧ tget ts 11 = .str (errS code at_ ++ vsS ns)) (W.seq (W.runs (fun ts h6 => h6 = h5 ∧ tget ts 3 = vv ∧ tget ts 4 = cv ∧ tget ts 11 = .str (errS code at_) ∧ tget ts 12 = .int .i64 ((0 : Nat) : Int)) ?_ fun ts h6 ⟨eh, e3, e4, e11, e12⟩ => ?_)) fun ts h6 ⟨eh, e4, e11⟩ => ?_)
    · simp only [ckR_nil, evN_none, stps_nil, stps_cons, stp_some, putR_some, gd_true, wanted_none, dput_some, ev_c, okR_some, evOp, tget_tput, ↓reduceIte, Nat.reduceEqDiff, true_and, e3, e4, e11]
      simp
    · subst eh
      refine W.block (W.loop (fun m ts h7 => h7 = h6 ∧ ∃ i, m = ns.length - i ∧ i ≤ ns.length ∧ tget ts 3 = vv ∧ tget ts 4 = cv ∧ tget ts 11 = .str (errS code at_ ++ vsS (ns.take i)) ∧ tget ts 12 = .int .i64 (i : Nat)) ?_ (n := ns.length) ⟨rfl, 0, rfl, Nat.zero_le _, e3, e4, by simpa [vsS] using e11, e12⟩)
      clear e0 e1 e2 e3 e4 e11 e12
      rintro m ts h7 ⟨eh, i, hm, hi, e3, e4, e11, e12⟩
      subst eh
      refine W.seq (W.seq (W.runs (fun ts h8 => h8 = h7 ∧ tget ts 3 = vv ∧ tget ts 4 = cv ∧ tget ts 11 = .str (errS code at_ ++ vsS (ns.take i)) ∧ tget ts 12 = .int .i64 (i : Nat) ∧ tget ts 32 = .bool (decide (i < ns.length))) ?_ fun ts h8 ⟨eh, e3, e4, e11, e12, e32⟩ => ?_))
      · have : decide (((i : Nat) : Int) < (ns.length : Nat)) = decide (i < ns.length) := by simp only [decide_eq_decide]; omega
        simp only [ckR_nil, evN_none, stps_nil, stps_cons, stp_some, putR_some, gd_true, wanted_none, dput_some, ev_t, okR_some, evOp, tget_tput, bin_lss, ↓reduceIte, Nat.reduceEqDiff, Option.map_some, and_self, e3, e4, e11, e12, hlv, this]
      subst eh
      refine W.cond e32 (fun hc => W.skip ?_) fun hc => W.exit ⟨fun _ => ⟨rfl, e4, ?_⟩, fun e => absurd rfl e⟩
      · simp only [decide_eq_true_eq] at hc
        obtain ⟨c, hci⟩ : ∃ c, ns[i]? = some c := ⟨_, List.getElem?_eq_getElem hc⟩
        obtain ⟨b, q1, q2⟩ := hv.at hci
        have htk := vsS_take hci
        have hI := hns c (List.mem_of_getElem? hci)
        have ld := dec_len c
        have hvt := vsS_len (ns.take i)
        have htl : (ns.take i).length ≤ ns.length := by simp; omega
        generalize hT : errS code at_ ++ vsS (ns.take i) = T at *
        have hTl : T.length ≤ 2300 := by rw [← hT, List.length_append]; omega
        have hT2 : errS code at_ ++ vsS (ns.take (i + 1)) = T ++ 32 :: dec c := by rw [htk, ← List.append_assoc, hT]
        refine W.seq (W.block (W.calls (fun ts h9 => h9 = h8 ∧ tget ts 3 = vv ∧ tget ts 4 = cv ∧ tget ts 11 = .str (T ++ 32 :: dec c) ∧ tget ts 12 = .int .i64 (i : Nat)) ?_ fun ts h9 ⟨eh, e3, e4, e11, e12⟩ => ?_))
        · refine G.op (G.op ?_)
          simp only [ckR_nil, evN_none, stp_some, putR_some, gd_true, wanted_none, dput_some, ev_t, ev_c, evOp, tget_tput, bin_sadd, ↓reduceIte, Nat.zero_add, List.length_cons, List.length_nil, e11]
          rw [if_pos (by omega)]
          simp only [putR_some, dput_some, Option.map_some]
          refine G.op (G.op (G.op (G.op ?_)))
          simp only [ckR_nil, evN_none, stp_some, putR_some, gd_true, wanted_none, dput_some, ev_t, evOp, tget_tput, loadA_ptr, packA_one, ↓reduceIte, Nat.reduceEqDiff, Option.map_some, e3, e12, q1, q2]
          refine G.call ?_
          simp only [dput_some, ev_t, tget_tput, ↓reduceIte, List.map_cons, List.map_nil]
          refine (refdig_ok hI.1 hI.2).mono fun r h9 ⟨er, eh⟩ => ?_
          subst er eh
          refine G.op ?_
          simp only [ckR_nil, evN_none, stp_some, gd_true, wanted_none, ev_t, evOp, tget_tput, bin_sadd, ↓reduceIte, Nat.reduceEqDiff, List.cons_append, List.nil_append, List.append_assoc]
          rw [if_pos (by simp only [List.length_append, List.length_cons, List.length_nil]; omega)]
          simp only [putR_some, dput_some, Option.map_some]
          refine G.op ?_
          simp only [ckR_nil, evN_none, stp_some, putR_some, gd_true, wanted_none, dput_some, ev_t, evOp, tget_tput, ↓reduceIte]
          exact G.done ⟨rfl, by simp only [tget_tput, ↓reduceIte, Nat.reduceEqDiff, e3], by simp only [tget_tput, ↓reduceIte, Nat.reduceEqDiff, e4], by simp only [tget_tput, ↓reduceIte], by simp only [tget_tput, ↓reduceIte, Nat.reduceEqDiff, e12]⟩
        subst eh
        have w4 : IntKind.i64.wrap (((i : Nat) : Int) + 1) = ((i + 1 : Nat) : Int) := IntWalk.i64_in _ (by omega)
        refine W.runs (fun ts h10 => h10 = h9 ∧ tget ts 3 = vv ∧ tget ts 4 = cv ∧ tget ts 11 = .str (T ++ 32 :: dec c) ∧ tget ts 12 = .int .i64 ((i + 1 : Nat) : Int)) ?_ fun ts h10 ⟨eh, e3, e4, e11, e12⟩ => ?_
        · simp only [ckR_nil, evN_none, stps_nil, stps_cons, stp_some, putR_some, gd_true, wanted_none, dput_some, ev_t, ev_c, okR_some, evOp, tget_tput, bin_add, ↓reduceIte, Nat.reduceEqDiff, Option.map_some, and_self, e3, e4, e11, e12, w4]
        subst eh
        exact ⟨ns.length - (i + 1), by omega, rfl, i + 1, rfl, by omega, e3, e4, by rw [hT2]; exact e11, e12⟩
      · simp only [decide_eq_false_iff_not] at hc
        have : i = ns.length := by omega
        subst this
        rwa [List.take_length] at e11
    subst eh
    have c1 : (errS code at_ ++ vsS ns).length + 1 < 2 ^ 62 := by rw [List.length_append]; omega
    refine W.runs (fun ts h7 => h7 = h6 ∧ tget ts 4 = cv ∧ tget ts 11 = .str (errS code at_ ++ vsS ns ++ [10])) ?_ fun ts h7 q => q
    simp only [ckR_nil, evN_none, stps_nil, stps_cons, stp_some, putR_some, gd_true, wanted_none, dput_some, ev_t, ev_c, okR_some, evOp, tget_tput, bin_sadd, ↓reduceIte, Nat.reduceEqDiff, Option.map_some, Nat.zero_add, List.length_cons, List.length_nil, and_self, e4, e11, c1]
  · simp only [decide_eq_false_iff_not] at hq
    have hh : headS k code at_ ns = if k = 2 then [110, 111, 10] else [121, 101, 115, 10] := by
      unfold headS
      by_cases c1 : k = 1
      · rw [if_pos c1, if_neg (by omega)]
      · have c2 : k = 2 := by omega
        rw [if_neg c1, if_pos c2, if_pos c2]
    rw [hh]
    exact ⟨eh, e4, e11⟩
  subst eh
  generalize hH : headS k code at_ ns = H at *
  refine W.seq (W.cut (fun ts h5 => h5 = h4 ∧ tget ts 11 = .str (H ++ csS cs)) (W.seq (W.runs (fun ts h5 => h5 = h4 ∧ tget ts 4 = cv ∧ tget ts 11 = .str H ∧ tget ts 13 = .int .i64 ((0 : Nat) : Int)) ?_ fun ts h5 ⟨eh, e4, e11, e13⟩ => ?_)) fun ts h5 ⟨eh, e11⟩ => ?_)
  · simp only [ckR_nil, evN_none, stps_nil, stps_cons, stp_some, putR_some, gd_true, wanted_none, dput_some, ev_c, okR_some, evOp, tget_tput, ↓reduceIte, Nat.reduceEqDiff, true_and, e4, e11]
    simp
  · subst eh
    refine W.block (W.loop (fun m ts h6 => h6 = h5 ∧ ∃ i, m = cs.length - i ∧ i ≤ cs.length ∧ tget ts 4 = cv ∧ tget ts 11 = .str (H ++ csS (cs.take i)) ∧ tget ts 13 = .int .i64 (i : Nat)) ?_ (n := cs.length) ⟨rfl, 0, rfl, Nat.zero_le _, e4, by simpa [csS] using e11, e13⟩)
    clear e0 e1 e2 e3 e4 e11 e13
    rintro m ts h6 ⟨eh, i, hm, hi, e4, e11, e13⟩
    subst eh
    refine W.seq (W.seq (W.runs (fun ts h7 => h7 = h6 ∧ tget ts 4 = cv ∧ tget ts 11 = .str (H ++ csS (cs.take i)) ∧ tget ts 13 = .int .i64 (i : Nat) ∧ tget ts 48 = .bool (decide (i < cs.length))) ?_ fun ts h7 ⟨eh, e4, e11, e13, e48⟩ => ?_))
    · have : decide (((i : Nat) : Int) < (cs.length : Nat)) = decide (i < cs.length) := by simp only [decide_eq_decide]; omega
      simp only [ckR_nil, evN_none, stps_nil, stps_cons, stp_some, putR_some, gd_true, wanted_none, dput_some, ev_t, okR_some, evOp, tget_tput, bin_lss, ↓reduceIte, Nat.reduceEqDiff, Option.map_some, and_self, e4, e11, e13, hlc, this]
    subst eh
    refine W.cond e48 (fun hc => W.skip ?_) fun hc => W.exit ⟨fun _ => ⟨rfl, ?_⟩, fun e => absurd rfl e⟩
    · simp only [decide_eq_true_eq] at hc
      obtain ⟨c, hci⟩ : ∃ c, cs[i]? = some c := ⟨_, List.getElem?_eq_getElem hc⟩
      obtain ⟨b, x, q1, q2, q3⟩ := hcv.at hci
      have htk := csS_take hci
      have hc5 := hcs c (List.mem_of_getElem? hci)
      have hct := csS_len (cs.take i) fun b hb => hcs b (List.mem_of_mem_take hb)
      have htl : (cs.take i).length ≤ cs.length := by simp; omega
      have hxl := hexOf_len c
      generalize hT : H ++ csS (cs.take i) = T at *
      have hTl : T.length ≤ 20000 := by rw [← hT, List.length_append]; omega
      have hT2 : H ++ csS (cs.take (i + 1)) = T ++ (hexOf c ++ [10]) := by rw [htk, ← List.append_assoc, hT]
      refine W.seq (W.block (W.calls (fun ts h8 => h8 = h7 ∧ tget ts 4 = cv ∧ tget ts 11 = .str (T ++ (hexOf c ++ [10])) ∧ tget ts 13 = .int .i64 (i : Nat)) ?_ fun ts h8 ⟨eh, e4, e11, e13⟩ => ?_))
      · refine G.op (G.op (G.op (G.op (G.op ?_))))
        simp only [ckR_nil, evN_none, stp_some, putR_some, gd_true, wanted_none, dput_some, ev_t, evOp, tget_tput, loadA_ptr, packA_one, ↓reduceIte, Nat.reduceEqDiff, Option.map_some, e4, e11, e13, q1, q2]
        refine G.call ?_
        simp only [dput_some, ev_t, tget_tput, ↓reduceIte, List.map_cons, List.map_nil]
        refine (refhex_ok q3 (by omega)).mono fun r h8 ⟨er, eh⟩ => ?_
        subst er eh
        have c1 : T.length + (hexOf c).length < 2 ^ 62 := by omega
        have c2 : (T ++ hexOf c).length + 1 < 2 ^ 62 := by rw [List.length_append]; omega
        refine G.op (G.op (G.op ?_))
        simp only [ckR_nil, evN_none, stp_some, putR_some, gd_true, wanted_none, dput_some, ev_t, ev_c, evOp, tget_tput, bin_sadd, ↓reduceIte, Nat.reduceEqDiff, Option.map_some, Nat.zero_add, List.length_cons, List.length_nil, c1, c2]
        exact G.done ⟨rfl, by simp only [tget_tput, ↓reduceIte, Nat.reduceEqDiff, e4], by simp only [tget_tput, ↓reduceIte, List.append_assoc], by simp only [tget_tput, ↓reduceIte, Nat.reduceEqDiff, e13]⟩
      subst eh
      have w4 : IntKind.i64.wrap (((i : Nat) : Int) + 1) = ((i + 1 : Nat) : Int) := IntWalk.i64_in _ (by omega)
      refine W.runs (fun ts h9 => h9 = h8 ∧ tget ts 4 = cv ∧ tget ts 11 = .str (T ++ (hexOf c ++ [10])) ∧ tget ts 13 = .int .i64 ((i + 1 : Nat) : Int)) ?_ fun ts h9 ⟨eh, e4, e11, e13⟩ => ?_
      · simp only [ckR_nil, evN_none, stps_nil, stps_cons, stp_some, putR_some, gd_true, wanted_none, dput_some, ev_t, ev_c, okR_some, evOp, tget_tput, bin_add, ↓reduceIte, Nat.reduceEqDiff, Option.map_some, and_self, e4, e11, e13, w4]
      subst eh
      exact ⟨cs.length - (i + 1), by omega, rfl, i + 1, rfl, by omega, e4, by rw [hT2]; exact e11, e13⟩
    · simp only [decide_eq_false_iff_not] at hc
      have : i = cs.length := by omega
      subst this
      rwa [List.take_length] at e11
  subst eh
  refine W.seq (W.runs (fun ts hg => hg = h5 ∧ tget ts 10 = .str (H ++ csS cs)) ?_ fun ts hg ⟨eh, e2⟩ => W.ret ⟨_, by simp only [Am.results, rdAll, rdRes, e2, rf6], rfl, eh⟩)
  simp only [ckR_nil, evN_none, stps_nil, stps_cons, stp_some, putR_some, gd_true, wanted_none, dput_some, ev_t, okR_some, evOp, tget_tput, ↓reduceIte, and_self, e11]

end Go.Proofs.YtjcbcmonmmfllaaGreatDoor
