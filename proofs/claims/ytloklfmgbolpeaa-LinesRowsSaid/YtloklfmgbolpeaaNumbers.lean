/-
  LinesNumbers answers true.
-/
import Derived.Test.YtloklfmgbolpeaaRefNums
namespace Go.Proofs.Ytloklfmgbolpeaa
set_option linter.unusedVariables false
set_option linter.unusedSimpArgs false
open Go.Am

/-- So many digits more may come behind numbers from lo up to hi. -/
def Dg (f lo hi : Nat) : Prop := ∀ n rest, lo ≤ n → n < hi →
  ((numLoop n rest).2.2 = true → 999999 < (dg f n rest).1) ∧ ((numLoop n rest).2.2 = false → dg f n rest = ((numLoop n rest).1, (numLoop n rest).2.1) ∧ (dg f n rest).1 ≤ 999999)

theorem Dg.one : Dg 1 100000 1000000 := by
  intro n rest h1 h2
  cases rest with
  | nil => simp only [numLoop, dg]; exact ⟨(fun q => by cases q), fun _ => ⟨trivial, by omega⟩⟩
  | cons c r =>
    by_cases hd : isDig c = true
    · simp only [numLoop, dg, hd, if_true]
      rw [if_pos (by omega)]
      exact ⟨(fun _ => by omega), fun q => by cases q⟩
    · simp only [numLoop, dg, hd, if_false, Bool.false_eq_true]
      exact ⟨(fun q => by cases q), fun _ => ⟨trivial, by omega⟩⟩

theorem Dg.more {f lo hi : Nat} (h : Dg f (10 * lo) (10 * hi)) (hh : 10 * hi ≤ 1000000) : Dg (f + 1) lo hi := by
  intro n rest h1 h2
  cases rest with
  | nil => simp only [numLoop, dg]; exact ⟨(fun q => by cases q), fun _ => ⟨trivial, by omega⟩⟩
  | cons c r =>
    by_cases hd : isDig c = true
    · have hi := isDig_iff.1 hd
      simp only [numLoop, dg, hd, if_true]
      rw [if_neg (by omega)]
      exact h _ r (by omega) (by omega)
    · simp only [numLoop, dg, hd, if_false, Bool.false_eq_true]
      exact ⟨(fun q => by cases q), fun _ => ⟨trivial, by omega⟩⟩

theorem dg6 : Dg 6 1 10 := ((((Dg.one.more (by omega) : Dg 2 10000 100000).more (by omega) : Dg 3 1000 10000).more (by omega) : Dg 4 100 1000).more (by omega) : Dg 5 10 100).more (by omega)

theorem nl_true (f : Nat) (r : List UInt8) : nl f r true = ([], r, true) := by
  cases f with
  | zero => rfl
  | succ f => cases r <;> rfl

theorem dg_zero {f : Nat} {r : List UInt8} (h : digHd r = false) : dg f 0 r = (0, r) := by
  cases f with
  | zero => rfl
  | succ f =>
    cases r with
    | nil => rfl
    | cons c r =>
      have : isDig c = false := h
      simp [dg, this]

theorem numLoop_less : ∀ (r : List UInt8) (n : Nat), (numLoop n r).2.1.length ≤ r.length := fun r n => (numLoop_suf r n).length_le

/-- The rest of a line, from a number on. -/
def lineM (f : Nat) (rest : List UInt8) : Option (List Nat) :=
  let x := num rest false
  let y := nl f x.2.1 x.2.2
  if y.2.2 then none else some (x.1 :: y.1)

/-- what comes behind a number that was taken -/
theorem behind {n : Nat} {r : List UInt8} {f f' : Nat} (hf : r.length < f) (ih : ∀ r', r'.length < r.length → r' ≠ [] → ∀ g, r'.length < g → lineM g r' = rn f' r') :
    (if (nl f r false).2.2 then none else some (n :: (nl f r false).1)) = match r with
      | [] => some [n]
      | d :: r' => if d ≠ 32 ∨ r' = [] then none else (rn f' r').map (n :: ·) := by
  obtain ⟨f, rfl⟩ : ∃ g, f = g + 1 := ⟨f - 1, by omega⟩
  cases r with
  | nil => rfl
  | cons d r' =>
    simp only [nl, tk, Bool.false_eq_true, if_false]
    by_cases h1 : d = 32
    · subst h1
      simp only [if_true, ne_eq, not_true_eq_false, false_or]
      by_cases h2 : r' = []
      · subst h2
        simp only [num, Bool.false_eq_true, if_false, nl_true, if_true]
      · simp only [List.length_cons] at hf ih
        rw [if_neg h2, ← ih r' (by omega) h2 f (by omega)]
        simp only [lineM]
        split <;> rfl
    · simp only [h1, if_false, num, if_true, nl_true, ne_eq, not_false_eq_true, true_or]

theorem line_is : ∀ (k : Nat) (rest : List UInt8), rest.length = k → rest ≠ [] → ∀ f f', (num rest false).2.1.length < f → rest.length < f' → lineM f rest = rn f' rest := by
  intro k
  induction k using Nat.strongRecOn with
  | _ k ih =>
    intro rest hk hne f f' hf hf'
    obtain ⟨c, r, rfl⟩ : ∃ c r, rest = c :: r := by
      cases rest with
      | nil => exact absurd rfl hne
      | cons c r => exact ⟨c, r, rfl⟩
    obtain ⟨f', rfl⟩ : ∃ g, f' = g + 1 := ⟨f' - 1, by omega⟩
    simp only [List.length_cons] at hf hf' hk
    have ih2 : ∀ q : List UInt8, q.length ≤ r.length → ∀ r', r'.length < q.length → r' ≠ [] → ∀ g, r'.length < g → lineM g r' = rn f' r' := by
      intro q hq r' h1 h2 g h3
      exact ih r'.length (by omega) r' rfl h2 g f' (Nat.lt_of_le_of_lt (num_suf r' false).length_le h3) (by omega)
    by_cases hd : isDig c = true
    · by_cases h0 : c = 48
      · subst h0
        have e1 : num (48 :: r) false = (0, r, false) := by simp [num, hd]
        have e2 : dg 7 0 (48 :: r) = dg 6 0 r := by simp [dg, hd]
        unfold lineM
        rw [e1]
        simp only
        rw [e1] at hf
        rw [behind hf (ih2 r (Nat.le_refl _)), rn, e2]
        by_cases h3 : digHd r = true
        · obtain ⟨c1, r1, rfl⟩ : ∃ c r', r = c :: r' := by
            cases r with
            | nil => simp [digHd] at h3
            | cons c r' => exact ⟨c, r', rfl⟩
          have h4 : isDig c1 = true := h3
          have h5 : c1 ≠ 32 := by rintro rfl; exact absurd h4 (by decide)
          have e3 : dg 6 0 (c1 :: r1) = dg 5 (c1.toNat - 48) r1 := by simp [dg, h4]
          have h6 := (dg_suf 5 (c1.toNat - 48) r1).length_le
          rw [e3]
          simp only
          rw [if_pos (.inl h5), if_pos (.inr (.inr ⟨by simp only [List.length_cons]; omega, trivial⟩))]
        · rw [dg_zero (by simpa using h3)]
          simp only
          rw [if_neg (by simp)]
          rfl
      · have hci := isDig_iff.1 hd
        have hc49 : 49 ≤ c.toNat := by
          rcases Nat.lt_or_ge c.toNat 49 with q | q
          · exfalso
            apply h0
            apply UInt8.toNat_inj.1
            show c.toNat = 48
            omega
          · exact q
        have e1 : num (c :: r) false = numLoop (c.toNat - 48) r := by
          simp only [num, Bool.false_eq_true, if_false, hd, if_true, h0, numLoop, Nat.mul_zero, Nat.zero_add]
          rw [if_neg (by omega)]
        have e2 : dg 7 0 (c :: r) = dg 6 (c.toNat - 48) r := by simp [dg, hd]
        have hg := dg6 (c.toNat - 48) r (by omega) (by omega)
        have hs := (dg_suf 6 (c.toNat - 48) r).length_le
        unfold lineM
        rw [e1, rn, e2]
        cases hb : (numLoop (c.toNat - 48) r).2.2 with
        | true =>
          simp only
          rw [hb, nl_true]
          simp only [if_true]
          rw [if_pos (.inr (.inl (hg.1 hb)))]
        | false =>
          obtain ⟨h5, h6⟩ := hg.2 hb
          simp only
          rw [e1] at hf
          rw [hb, behind hf (ih2 _ (numLoop_less r _)), h5]
          rw [h5] at h6 hs
          simp only at h6 hs ⊢
          rw [if_neg (by simp only [List.length_cons, h0, and_false, or_false]; omega)]
          rfl
    · have e1 : num (c :: r) false = (0, c :: r, true) := by simp [num, hd]
      have e2 : dg 7 0 (c :: r) = (0, c :: r) := dg_zero (by simpa [digHd] using hd)
      unfold lineM
      rw [e1, rn, e2]
      simp only [nl_true, if_true, true_or]

theorem nums_is (txt : List UInt8) : numsM txt = rn (txt.length + 1) txt := by
  by_cases h : txt = []
  · subst h; rfl
  · have h1 := (num_suf txt false).length_le
    have e : numsM txt = lineM ((num txt false).2.1.length + 1) txt := by simp [numsM, h, lineM]
    rw [e]
    exact line_is txt.length txt rfl h _ _ (by omega) (by omega)

set_option maxRecDepth 4000 in
theorem sameints_ok {h : AH} {ns : List Nat} {x y : AV} {lo lo' : Nat} (hx : IsSl h 1 lo x (ints ns)) (hy : IsSl h 1 lo' y (ints ns)) (hl : ns.length < 2 ^ 40) :
    C prg 12 [x, y] h fun r h' => r = .bool true ∧ h' = h := by
  have lx := sl_len hx
  have ly := sl_len hy
  refine C.func pf12 ?_
  refine W.seq (W.runs (fun ts h1 => h1 = h ∧ tget ts 0 = x ∧ tget ts 1 = y) ?_ fun ts h1 ⟨eh, e0, e1⟩ => ?_)
  · simp only [stps_nil, stps_cons, stp_some, putR_some, gd_true, gd_false, wanted_none, wanted_some, dput_some, dput_none, ev_t, ev_c, okR_some, evOp, tget_tput, loadA_ptr, fadrA_ptr, nilckA_ptr, packA_one, packA_agg, pickA_true, pickA_false, unA_not, bin_add, bin_sub, bin_mul, bin_quo, bin_rem, bin_eql, bin_neq, bin_lss, bin_leq, bin_gtr, bin_geq, bin_band, bin_sadd, bin_seql, bin_beql, bin_agg, lenSA_str, lenLA_sl, lenLA_nils, cvIA_int, cvBSA_sl, cvBSA_nils, iadrL_sl, idxSA_str, extA_tup, storeA_ptr, ↓reduceIte, Nat.reduceEqDiff, Int.reduceEq, Option.map_some, beq_true, beq_false, Bool.not_true, Bool.not_false, Nat.zero_add, Nat.add_zero, Nat.reduceAdd, List.getElem?_cons_zero, List.getElem?_cons_succ, reduceCtorEq, true_and, and_true, List.map_cons, List.map_nil, fill, boxA, splice, cells_int, one_int, cells_bool, one_bool, cells_str, one_str, cells_ptr, one_ptr, cells_nilp, one_nilp, cells_sl, one_sl, cells_nils, one_nils, cells_mp, one_mp, cells_nilm, one_nilm, cells_fn, one_fn, cells_nilf, one_nilf, cells_ifc, one_ifc, cells_nili, one_nili, cells_agg, List.length_cons, List.length_nil, List.all_cons, List.all_nil, List.take_succ_cons, List.take_zero, List.drop_succ_cons, List.drop_zero, List.cons_append, List.nil_append, Nat.reduceLeDiff, Bool.and_true, AH.next_new, AH.next_put, and_self, repl_one, repl_zero, AV.un, initTm]
  subst eh
  refine W.seq (W.seq (W.runs (fun ts h2 => h2 = h1 ∧ tget ts 0 = x ∧ tget ts 1 = y ∧ tget ts 10 = .bool false) ?_ fun ts h2 ⟨eh, e0, e1, e10⟩ => ?_))
  · simp only [stps_nil, stps_cons, stp_some, putR_some, gd_true, gd_false, wanted_none, wanted_some, dput_some, dput_none, ev_t, ev_c, okR_some, evOp, tget_tput, loadA_ptr, fadrA_ptr, nilckA_ptr, packA_one, packA_agg, pickA_true, pickA_false, unA_not, bin_add, bin_sub, bin_mul, bin_quo, bin_rem, bin_eql, bin_neq, bin_lss, bin_leq, bin_gtr, bin_geq, bin_band, bin_sadd, bin_seql, bin_beql, bin_agg, lenSA_str, lenLA_sl, lenLA_nils, cvIA_int, cvBSA_sl, cvBSA_nils, iadrL_sl, idxSA_str, extA_tup, storeA_ptr, ↓reduceIte, Nat.reduceEqDiff, Int.reduceEq, Option.map_some, beq_true, beq_false, Bool.not_true, Bool.not_false, Nat.zero_add, Nat.add_zero, Nat.reduceAdd, List.getElem?_cons_zero, List.getElem?_cons_succ, reduceCtorEq, true_and, and_true, List.map_cons, List.map_nil, fill, boxA, splice, cells_int, one_int, cells_bool, one_bool, cells_str, one_str, cells_ptr, one_ptr, cells_nilp, one_nilp, cells_sl, one_sl, cells_nils, one_nils, cells_mp, one_mp, cells_nilm, one_nilm, cells_fn, one_fn, cells_nilf, one_nilf, cells_ifc, one_ifc, cells_nili, one_nili, cells_agg, List.length_cons, List.length_nil, List.all_cons, List.all_nil, List.take_succ_cons, List.take_zero, List.drop_succ_cons, List.drop_zero, List.cons_append, List.nil_append, Nat.reduceLeDiff, Bool.and_true, AH.next_new, AH.next_put, and_self, repl_one, repl_zero, AV.un, e0, e1, lx, ly, decide_true]
  subst eh
  refine W.no e10 (W.skip (W.seq (W.seq (W.runs (fun ts h3 => h3 = h2 ∧ tget ts 0 = x ∧ tget ts 1 = y ∧ tget ts 5 = .int .i64 0) ?_ fun ts h3 ⟨eh, e0, e1, e5⟩ => ?_))))
  · simp only [stps_nil, stps_cons, stp_some, putR_some, gd_true, gd_false, wanted_none, wanted_some, dput_some, dput_none, ev_t, ev_c, okR_some, evOp, tget_tput, loadA_ptr, fadrA_ptr, nilckA_ptr, packA_one, packA_agg, pickA_true, pickA_false, unA_not, bin_add, bin_sub, bin_mul, bin_quo, bin_rem, bin_eql, bin_neq, bin_lss, bin_leq, bin_gtr, bin_geq, bin_band, bin_sadd, bin_seql, bin_beql, bin_agg, lenSA_str, lenLA_sl, lenLA_nils, cvIA_int, cvBSA_sl, cvBSA_nils, iadrL_sl, idxSA_str, extA_tup, storeA_ptr, ↓reduceIte, Nat.reduceEqDiff, Int.reduceEq, Option.map_some, beq_true, beq_false, Bool.not_true, Bool.not_false, Nat.zero_add, Nat.add_zero, Nat.reduceAdd, List.getElem?_cons_zero, List.getElem?_cons_succ, reduceCtorEq, true_and, and_true, List.map_cons, List.map_nil, fill, boxA, splice, cells_int, one_int, cells_bool, one_bool, cells_str, one_str, cells_ptr, one_ptr, cells_nilp, one_nilp, cells_sl, one_sl, cells_nils, one_nils, cells_mp, one_mp, cells_nilm, one_nilm, cells_fn, one_fn, cells_nilf, one_nilf, cells_ifc, one_ifc, cells_nili, one_nili, cells_agg, List.length_cons, List.length_nil, List.all_cons, List.all_nil, List.take_succ_cons, List.take_zero, List.drop_succ_cons, List.drop_zero, List.cons_append, List.nil_append, Nat.reduceLeDiff, Bool.and_true, AH.next_new, AH.next_put, and_self, repl_one, repl_zero, AV.un, e0, e1]
  subst eh
  refine W.block (W.loop (fun m ts h4 => h4 = h3 ∧ ∃ k, m + k = ns.length ∧ tget ts 0 = x ∧ tget ts 1 = y ∧ tget ts 5 = .int .i64 (k : Nat)) ?_ (n := ns.length) ⟨rfl, 0, rfl, e0, e1, e5⟩)
  clear e0 e1 e5 e10
  rintro m ts h4 ⟨eh, k, hm, e0, e1, e5⟩
  subst eh
  refine W.seq (W.seq (W.runs (fun ts h5 => h5 = h4 ∧ tget ts 0 = x ∧ tget ts 1 = y ∧ tget ts 5 = .int .i64 (k : Nat) ∧ tget ts 14 = .bool (decide (k < ns.length))) ?_ fun ts h5 ⟨eh, e0, e1, e5, e14⟩ => ?_))
  · simp only [stps_nil, stps_cons, stp_some, putR_some, gd_true, gd_false, wanted_none, wanted_some, dput_some, dput_none, ev_t, ev_c, okR_some, evOp, tget_tput, loadA_ptr, fadrA_ptr, nilckA_ptr, packA_one, packA_agg, pickA_true, pickA_false, unA_not, bin_add, bin_sub, bin_mul, bin_quo, bin_rem, bin_eql, bin_neq, bin_lss, bin_leq, bin_gtr, bin_geq, bin_band, bin_sadd, bin_seql, bin_beql, bin_agg, lenSA_str, lenLA_sl, lenLA_nils, cvIA_int, cvBSA_sl, cvBSA_nils, iadrL_sl, idxSA_str, extA_tup, storeA_ptr, ↓reduceIte, Nat.reduceEqDiff, Int.reduceEq, Option.map_some, beq_true, beq_false, Bool.not_true, Bool.not_false, Nat.zero_add, Nat.add_zero, Nat.reduceAdd, List.getElem?_cons_zero, List.getElem?_cons_succ, reduceCtorEq, true_and, and_true, List.map_cons, List.map_nil, fill, boxA, splice, cells_int, one_int, cells_bool, one_bool, cells_str, one_str, cells_ptr, one_ptr, cells_nilp, one_nilp, cells_sl, one_sl, cells_nils, one_nils, cells_mp, one_mp, cells_nilm, one_nilm, cells_fn, one_fn, cells_nilf, one_nilf, cells_ifc, one_ifc, cells_nili, one_nili, cells_agg, List.length_cons, List.length_nil, List.all_cons, List.all_nil, List.take_succ_cons, List.take_zero, List.drop_succ_cons, List.drop_zero, List.cons_append, List.nil_append, Nat.reduceLeDiff, Bool.and_true, AH.next_new, AH.next_put, and_self, repl_one, repl_zero, AV.un, e0, e1, e5, lx]
    congr 1
    simp only [decide_eq_decide]
    omega
  subst eh
  refine W.cond e14 (fun hq => ?_) (fun hq => ?_)
  · have hc := of_decide_eq_true hq
    obtain ⟨e, he⟩ : ∃ e, ns[k]? = some e := ⟨_, List.getElem?_eq_getElem hc⟩
    obtain ⟨b1, x1, x2⟩ := rd_num hx he
    obtain ⟨b2, y1, y2⟩ := rd_num hy he
    refine W.skip (W.seq (W.block (W.seq (W.runs (fun ts h6 => h6 = h5 ∧ tget ts 0 = x ∧ tget ts 1 = y ∧ tget ts 5 = .int .i64 (k : Nat) ∧ tget ts 25 = .bool false) ?_ fun ts h6 ⟨eh, e0, e1, e5, e25⟩ => ?_))))
    · simp only [stps_nil, stps_cons, stp_some, putR_some, gd_true, gd_false, wanted_none, wanted_some, dput_some, dput_none, ev_t, ev_c, okR_some, evOp, tget_tput, loadA_ptr, fadrA_ptr, nilckA_ptr, packA_one, packA_agg, pickA_true, pickA_false, unA_not, bin_add, bin_sub, bin_mul, bin_quo, bin_rem, bin_eql, bin_neq, bin_lss, bin_leq, bin_gtr, bin_geq, bin_band, bin_sadd, bin_seql, bin_beql, bin_agg, lenSA_str, lenLA_sl, lenLA_nils, cvIA_int, cvBSA_sl, cvBSA_nils, iadrL_sl, idxSA_str, extA_tup, storeA_ptr, ↓reduceIte, Nat.reduceEqDiff, Int.reduceEq, Option.map_some, beq_true, beq_false, Bool.not_true, Bool.not_false, Nat.zero_add, Nat.add_zero, Nat.reduceAdd, List.getElem?_cons_zero, List.getElem?_cons_succ, reduceCtorEq, true_and, and_true, List.map_cons, List.map_nil, fill, boxA, splice, cells_int, one_int, cells_bool, one_bool, cells_str, one_str, cells_ptr, one_ptr, cells_nilp, one_nilp, cells_sl, one_sl, cells_nils, one_nils, cells_mp, one_mp, cells_nilm, one_nilm, cells_fn, one_fn, cells_nilf, one_nilf, cells_ifc, one_ifc, cells_nili, one_nili, cells_agg, List.length_cons, List.length_nil, List.all_cons, List.all_nil, List.take_succ_cons, List.take_zero, List.drop_succ_cons, List.drop_zero, List.cons_append, List.nil_append, Nat.reduceLeDiff, Bool.and_true, AH.next_new, AH.next_put, and_self, repl_one, repl_zero, AV.un, e0, e1, e5, x1, y1, x2, y2, decide_true]
    subst eh
    refine W.no e25 (W.skip (W.runs (fun ts h7 => h7 = h6 ∧ tget ts 0 = x ∧ tget ts 1 = y ∧ tget ts 5 = .int .i64 ((k + 1 : Nat) : Int)) ?_ fun ts h7 ⟨eh, e0, e1, e5⟩ => ?_))
    · simp only [stps_nil, stps_cons, stp_some, putR_some, gd_true, gd_false, wanted_none, wanted_some, dput_some, dput_none, ev_t, ev_c, okR_some, evOp, tget_tput, loadA_ptr, fadrA_ptr, nilckA_ptr, packA_one, packA_agg, pickA_true, pickA_false, unA_not, bin_add, bin_sub, bin_mul, bin_quo, bin_rem, bin_eql, bin_neq, bin_lss, bin_leq, bin_gtr, bin_geq, bin_band, bin_sadd, bin_seql, bin_beql, bin_agg, lenSA_str, lenLA_sl, lenLA_nils, cvIA_int, cvBSA_sl, cvBSA_nils, iadrL_sl, idxSA_str, extA_tup, storeA_ptr, ↓reduceIte, Nat.reduceEqDiff, Int.reduceEq, Option.map_some, beq_true, beq_false, Bool.not_true, Bool.not_false, Nat.zero_add, Nat.add_zero, Nat.reduceAdd, List.getElem?_cons_zero, List.getElem?_cons_succ, reduceCtorEq, true_and, and_true, List.map_cons, List.map_nil, fill, boxA, splice, cells_int, one_int, cells_bool, one_bool, cells_str, one_str, cells_ptr, one_ptr, cells_nilp, one_nilp, cells_sl, one_sl, cells_nils, one_nils, cells_mp, one_mp, cells_nilm, one_nilm, cells_fn, one_fn, cells_nilf, one_nilf, cells_ifc, one_ifc, cells_nili, one_nili, cells_agg, List.length_cons, List.length_nil, List.all_cons, List.all_nil, List.take_succ_cons, List.take_zero, List.drop_succ_cons, List.drop_zero, List.cons_append, List.nil_append, Nat.reduceLeDiff, Bool.and_true, AH.next_new, AH.next_put, and_self, repl_one, repl_zero, AV.un, e0, e1, e5]
      rw [IntWalk.i64_in _ (by omega)]
      rfl
    subst eh
    exact ⟨m - 1, by omega, rfl, k + 1, by omega, e0, e1, e5⟩
  · refine W.exit ⟨fun _ => ?_, fun e => absurd rfl e⟩
    refine W.seq (W.runs (fun ts h6 => h6 = h5 ∧ tget ts 4 = .bool true) ?_ fun ts h6 ⟨eh, e4⟩ => W.ret ?_)
    · simp only [stps_nil, stps_cons, stp_some, putR_some, gd_true, gd_false, wanted_none, wanted_some, dput_some, dput_none, ev_t, ev_c, okR_some, evOp, tget_tput, loadA_ptr, fadrA_ptr, nilckA_ptr, packA_one, packA_agg, pickA_true, pickA_false, unA_not, bin_add, bin_sub, bin_mul, bin_quo, bin_rem, bin_eql, bin_neq, bin_lss, bin_leq, bin_gtr, bin_geq, bin_band, bin_sadd, bin_seql, bin_beql, bin_agg, lenSA_str, lenLA_sl, lenLA_nils, cvIA_int, cvBSA_sl, cvBSA_nils, iadrL_sl, idxSA_str, extA_tup, storeA_ptr, ↓reduceIte, Nat.reduceEqDiff, Int.reduceEq, Option.map_some, beq_true, beq_false, Bool.not_true, Bool.not_false, Nat.zero_add, Nat.add_zero, Nat.reduceAdd, List.getElem?_cons_zero, List.getElem?_cons_succ, reduceCtorEq, true_and, and_true, List.map_cons, List.map_nil, fill, boxA, splice, cells_int, one_int, cells_bool, one_bool, cells_str, one_str, cells_ptr, one_ptr, cells_nilp, one_nilp, cells_sl, one_sl, cells_nils, one_nils, cells_mp, one_mp, cells_nilm, one_nilm, cells_fn, one_fn, cells_nilf, one_nilf, cells_ifc, one_ifc, cells_nili, one_nili, cells_agg, List.length_cons, List.length_nil, List.all_cons, List.all_nil, List.take_succ_cons, List.take_zero, List.drop_succ_cons, List.drop_zero, List.cons_append, List.nil_append, Nat.reduceLeDiff, Bool.and_true, AH.next_new, AH.next_put, and_self, repl_one, repl_zero, AV.un]
    subst eh
    exact ⟨.bool true, by simp only [Am.results, rdAll, rdRes, e4, rf12], rfl, rfl⟩

theorem rn_len : ∀ (f : Nat) (r : List UInt8) (ns : List Nat), rn f r = some ns → ns.length ≤ f
  | 0, _, ns, h => by simp [rn] at h; subst h; simp
  | f + 1, [], ns, h => by simp [rn] at h; subst h; simp
  | f + 1, c :: r, ns, h => by
    simp only [rn] at h
    split at h
    · cases h
    · split at h
      · simp only [Option.some.injEq] at h; subst h; simp
      · split at h
        · cases h
        · rw [Option.map_eq_some_iff] at h
          obtain ⟨t, h1, rfl⟩ := h
          have := rn_len f _ t h1
          simp
          omega

set_option maxRecDepth 4000 in
theorem numbers_law {h : AH} {txt : List UInt8} : C prg 4 [.str txt] h fun r _ => r = .bool true := by
  refine C.func pf4 ?_
  refine W.seq (W.runs (fun ts h1 => h1 = h ∧ tget ts 0 = .str txt) ?_ fun ts h1 ⟨eh, e0⟩ => ?_)
  · simp only [stps_nil, stps_cons, stp_some, putR_some, gd_true, gd_false, wanted_none, wanted_some, dput_some, dput_none, ev_t, ev_c, okR_some, evOp, tget_tput, loadA_ptr, fadrA_ptr, nilckA_ptr, packA_one, packA_agg, pickA_true, pickA_false, unA_not, bin_add, bin_sub, bin_mul, bin_quo, bin_rem, bin_eql, bin_neq, bin_lss, bin_leq, bin_gtr, bin_geq, bin_band, bin_sadd, bin_seql, bin_beql, bin_agg, lenSA_str, lenLA_sl, lenLA_nils, cvIA_int, cvBSA_sl, cvBSA_nils, iadrL_sl, idxSA_str, extA_tup, storeA_ptr, ↓reduceIte, Nat.reduceEqDiff, Int.reduceEq, Option.map_some, beq_true, beq_false, Bool.not_true, Bool.not_false, Nat.zero_add, Nat.add_zero, Nat.reduceAdd, List.getElem?_cons_zero, List.getElem?_cons_succ, reduceCtorEq, true_and, and_true, List.map_cons, List.map_nil, fill, boxA, splice, cells_int, one_int, cells_bool, one_bool, cells_str, one_str, cells_ptr, one_ptr, cells_nilp, one_nilp, cells_sl, one_sl, cells_nils, one_nils, cells_mp, one_mp, cells_nilm, one_nilm, cells_fn, one_fn, cells_nilf, one_nilf, cells_ifc, one_ifc, cells_nili, one_nili, cells_agg, List.length_cons, List.length_nil, List.all_cons, List.all_nil, List.take_succ_cons, List.take_zero, List.drop_succ_cons, List.drop_zero, List.cons_append, List.nil_append, Nat.reduceLeDiff, Bool.and_true, AH.next_new, AH.next_put, and_self, repl_one, repl_zero, AV.un, initTm]
  subst eh
  refine W.seq (W.seq (W.calls (fun ts _ => tget ts 0 = .str txt ∧ tget ts 8 = .bool false) ?_ fun ts h2 ⟨e0, e8⟩ => ?_))
  · refine G.call ?_
    simp only [stps_nil, stps_cons, stp_some, putR_some, gd_true, gd_false, wanted_none, wanted_some, dput_some, dput_none, ev_t, ev_c, okR_some, evOp, tget_tput, loadA_ptr, fadrA_ptr, nilckA_ptr, packA_one, packA_agg, pickA_true, pickA_false, unA_not, bin_add, bin_sub, bin_mul, bin_quo, bin_rem, bin_eql, bin_neq, bin_lss, bin_leq, bin_gtr, bin_geq, bin_band, bin_sadd, bin_seql, bin_beql, bin_agg, lenSA_str, lenLA_sl, lenLA_nils, cvIA_int, cvBSA_sl, cvBSA_nils, iadrL_sl, idxSA_str, extA_tup, storeA_ptr, ↓reduceIte, Nat.reduceEqDiff, Int.reduceEq, Option.map_some, beq_true, beq_false, Bool.not_true, Bool.not_false, Nat.zero_add, Nat.add_zero, Nat.reduceAdd, List.getElem?_cons_zero, List.getElem?_cons_succ, reduceCtorEq, true_and, and_true, List.map_cons, List.map_nil, fill, boxA, splice, cells_int, one_int, cells_bool, one_bool, cells_str, one_str, cells_ptr, one_ptr, cells_nilp, one_nilp, cells_sl, one_sl, cells_nils, one_nils, cells_mp, one_mp, cells_nilm, one_nilm, cells_fn, one_fn, cells_nilf, one_nilf, cells_ifc, one_ifc, cells_nili, one_nili, cells_agg, List.length_cons, List.length_nil, List.all_cons, List.all_nil, List.take_succ_cons, List.take_zero, List.drop_succ_cons, List.drop_zero, List.cons_append, List.nil_append, Nat.reduceLeDiff, Bool.and_true, AH.next_new, AH.next_put, and_self, repl_one, repl_zero, AV.un]
    refine speaks_ok.mono fun r h2 ⟨hr, ex⟩ => ?_
    subst hr
    refine G.op ?_
    simp only [stps_nil, stps_cons, stp_some, putR_some, gd_true, gd_false, wanted_none, wanted_some, dput_some, dput_none, ev_t, ev_c, okR_some, evOp, tget_tput, loadA_ptr, fadrA_ptr, nilckA_ptr, packA_one, packA_agg, pickA_true, pickA_false, unA_not, bin_add, bin_sub, bin_mul, bin_quo, bin_rem, bin_eql, bin_neq, bin_lss, bin_leq, bin_gtr, bin_geq, bin_band, bin_sadd, bin_seql, bin_beql, bin_agg, lenSA_str, lenLA_sl, lenLA_nils, cvIA_int, cvBSA_sl, cvBSA_nils, iadrL_sl, idxSA_str, extA_tup, storeA_ptr, ↓reduceIte, Nat.reduceEqDiff, Int.reduceEq, Option.map_some, beq_true, beq_false, Bool.not_true, Bool.not_false, Nat.zero_add, Nat.add_zero, Nat.reduceAdd, List.getElem?_cons_zero, List.getElem?_cons_succ, reduceCtorEq, true_and, and_true, List.map_cons, List.map_nil, fill, boxA, splice, cells_int, one_int, cells_bool, one_bool, cells_str, one_str, cells_ptr, one_ptr, cells_nilp, one_nilp, cells_sl, one_sl, cells_nils, one_nils, cells_mp, one_mp, cells_nilm, one_nilm, cells_fn, one_fn, cells_nilf, one_nilf, cells_ifc, one_ifc, cells_nili, one_nili, cells_agg, List.length_cons, List.length_nil, List.all_cons, List.all_nil, List.take_succ_cons, List.take_zero, List.drop_succ_cons, List.drop_zero, List.cons_append, List.nil_append, Nat.reduceLeDiff, Bool.and_true, AH.next_new, AH.next_put, and_self, repl_one, repl_zero, AV.un]
    exact G.done ⟨by simp only [stps_nil, stps_cons, stp_some, putR_some, gd_true, gd_false, wanted_none, wanted_some, dput_some, dput_none, ev_t, ev_c, okR_some, evOp, tget_tput, loadA_ptr, fadrA_ptr, nilckA_ptr, packA_one, packA_agg, pickA_true, pickA_false, unA_not, bin_add, bin_sub, bin_mul, bin_quo, bin_rem, bin_eql, bin_neq, bin_lss, bin_leq, bin_gtr, bin_geq, bin_band, bin_sadd, bin_seql, bin_beql, bin_agg, lenSA_str, lenLA_sl, lenLA_nils, cvIA_int, cvBSA_sl, cvBSA_nils, iadrL_sl, idxSA_str, extA_tup, storeA_ptr, ↓reduceIte, Nat.reduceEqDiff, Int.reduceEq, Option.map_some, beq_true, beq_false, Bool.not_true, Bool.not_false, Nat.zero_add, Nat.add_zero, Nat.reduceAdd, List.getElem?_cons_zero, List.getElem?_cons_succ, reduceCtorEq, true_and, and_true, List.map_cons, List.map_nil, fill, boxA, splice, cells_int, one_int, cells_bool, one_bool, cells_str, one_str, cells_ptr, one_ptr, cells_nilp, one_nilp, cells_sl, one_sl, cells_nils, one_nils, cells_mp, one_mp, cells_nilm, one_nilm, cells_fn, one_fn, cells_nilf, one_nilf, cells_ifc, one_ifc, cells_nili, one_nili, cells_agg, List.length_cons, List.length_nil, List.all_cons, List.all_nil, List.take_succ_cons, List.take_zero, List.drop_succ_cons, List.drop_zero, List.cons_append, List.nil_append, Nat.reduceLeDiff, Bool.and_true, AH.next_new, AH.next_put, and_self, repl_one, repl_zero, AV.un, e0], by simp only [stps_nil, stps_cons, stp_some, putR_some, gd_true, gd_false, wanted_none, wanted_some, dput_some, dput_none, ev_t, ev_c, okR_some, evOp, tget_tput, loadA_ptr, fadrA_ptr, nilckA_ptr, packA_one, packA_agg, pickA_true, pickA_false, unA_not, bin_add, bin_sub, bin_mul, bin_quo, bin_rem, bin_eql, bin_neq, bin_lss, bin_leq, bin_gtr, bin_geq, bin_band, bin_sadd, bin_seql, bin_beql, bin_agg, lenSA_str, lenLA_sl, lenLA_nils, cvIA_int, cvBSA_sl, cvBSA_nils, iadrL_sl, idxSA_str, extA_tup, storeA_ptr, ↓reduceIte, Nat.reduceEqDiff, Int.reduceEq, Option.map_some, beq_true, beq_false, Bool.not_true, Bool.not_false, Nat.zero_add, Nat.add_zero, Nat.reduceAdd, List.getElem?_cons_zero, List.getElem?_cons_succ, reduceCtorEq, true_and, and_true, List.map_cons, List.map_nil, fill, boxA, splice, cells_int, one_int, cells_bool, one_bool, cells_str, one_str, cells_ptr, one_ptr, cells_nilp, one_nilp, cells_sl, one_sl, cells_nils, one_nils, cells_mp, one_mp, cells_nilm, one_nilm, cells_fn, one_fn, cells_nilf, one_nilf, cells_ifc, one_ifc, cells_nili, one_nili, cells_agg, List.length_cons, List.length_nil, List.all_cons, List.all_nil, List.take_succ_cons, List.take_zero, List.drop_succ_cons, List.drop_zero, List.cons_append, List.nil_append, Nat.reduceLeDiff, Bool.and_true, AH.next_new, AH.next_put, and_self, repl_one, repl_zero, AV.un]⟩
  refine W.no e8 (W.skip (W.seq (W.seq (W.runs (fun ts h3 => h3 = h2 ∧ tget ts 0 = .str txt ∧ tget ts 11 = .bool (decide (500 < txt.length))) ?_ fun ts h3 ⟨eh, e0, e11⟩ => ?_))))
  · simp only [stps_nil, stps_cons, stp_some, putR_some, gd_true, gd_false, wanted_none, wanted_some, dput_some, dput_none, ev_t, ev_c, okR_some, evOp, tget_tput, loadA_ptr, fadrA_ptr, nilckA_ptr, packA_one, packA_agg, pickA_true, pickA_false, unA_not, bin_add, bin_sub, bin_mul, bin_quo, bin_rem, bin_eql, bin_neq, bin_lss, bin_leq, bin_gtr, bin_geq, bin_band, bin_sadd, bin_seql, bin_beql, bin_agg, lenSA_str, lenLA_sl, lenLA_nils, cvIA_int, cvBSA_sl, cvBSA_nils, iadrL_sl, idxSA_str, extA_tup, storeA_ptr, ↓reduceIte, Nat.reduceEqDiff, Int.reduceEq, Option.map_some, beq_true, beq_false, Bool.not_true, Bool.not_false, Nat.zero_add, Nat.add_zero, Nat.reduceAdd, List.getElem?_cons_zero, List.getElem?_cons_succ, reduceCtorEq, true_and, and_true, List.map_cons, List.map_nil, fill, boxA, splice, cells_int, one_int, cells_bool, one_bool, cells_str, one_str, cells_ptr, one_ptr, cells_nilp, one_nilp, cells_sl, one_sl, cells_nils, one_nils, cells_mp, one_mp, cells_nilm, one_nilm, cells_fn, one_fn, cells_nilf, one_nilf, cells_ifc, one_ifc, cells_nili, one_nili, cells_agg, List.length_cons, List.length_nil, List.all_cons, List.all_nil, List.take_succ_cons, List.take_zero, List.drop_succ_cons, List.drop_zero, List.cons_append, List.nil_append, Nat.reduceLeDiff, Bool.and_true, AH.next_new, AH.next_put, and_self, repl_one, repl_zero, AV.un, e0]
    congr 1
    simp only [decide_eq_decide]
    omega
  subst eh
  refine W.cond e11 (fun hq => ?_) (fun hq => ?_)
  · refine W.seq (W.runs (fun ts h4 => tget ts 2 = .bool true) ?_ fun ts h4 e2 => W.ret ?_)
    · simp only [stps_nil, stps_cons, stp_some, putR_some, gd_true, gd_false, wanted_none, wanted_some, dput_some, dput_none, ev_t, ev_c, okR_some, evOp, tget_tput, loadA_ptr, fadrA_ptr, nilckA_ptr, packA_one, packA_agg, pickA_true, pickA_false, unA_not, bin_add, bin_sub, bin_mul, bin_quo, bin_rem, bin_eql, bin_neq, bin_lss, bin_leq, bin_gtr, bin_geq, bin_band, bin_sadd, bin_seql, bin_beql, bin_agg, lenSA_str, lenLA_sl, lenLA_nils, cvIA_int, cvBSA_sl, cvBSA_nils, iadrL_sl, idxSA_str, extA_tup, storeA_ptr, ↓reduceIte, Nat.reduceEqDiff, Int.reduceEq, Option.map_some, beq_true, beq_false, Bool.not_true, Bool.not_false, Nat.zero_add, Nat.add_zero, Nat.reduceAdd, List.getElem?_cons_zero, List.getElem?_cons_succ, reduceCtorEq, true_and, and_true, List.map_cons, List.map_nil, fill, boxA, splice, cells_int, one_int, cells_bool, one_bool, cells_str, one_str, cells_ptr, one_ptr, cells_nilp, one_nilp, cells_sl, one_sl, cells_nils, one_nils, cells_mp, one_mp, cells_nilm, one_nilm, cells_fn, one_fn, cells_nilf, one_nilf, cells_ifc, one_ifc, cells_nili, one_nili, cells_agg, List.length_cons, List.length_nil, List.all_cons, List.all_nil, List.take_succ_cons, List.take_zero, List.drop_succ_cons, List.drop_zero, List.cons_append, List.nil_append, Nat.reduceLeDiff, Bool.and_true, AH.next_new, AH.next_put, and_self, repl_one, repl_zero, AV.un]
    · exact ⟨.bool true, by simp only [Am.results, rdAll, rdRes, e2, rf4], rfl⟩
  have hq := of_decide_eq_false hq
  refine W.skip (W.seq (W.calls (fun ts h4 => ∃ lv, tget ts 0 = .str txt ∧ tget ts 3 = lv ∧ tget ts 4 = .bool (numsM txt).isSome ∧ IsSl h4 1 h3.next lv (ints ((numsM txt).getD []))) ?_ fun ts h4 ⟨lv, e0, e3, e4, sl⟩ => ?_))
  · refine G.op ?_
    simp only [stps_nil, stps_cons, stp_some, putR_some, gd_true, gd_false, wanted_none, wanted_some, dput_some, dput_none, ev_t, ev_c, okR_some, evOp, tget_tput, loadA_ptr, fadrA_ptr, nilckA_ptr, packA_one, packA_agg, pickA_true, pickA_false, unA_not, bin_add, bin_sub, bin_mul, bin_quo, bin_rem, bin_eql, bin_neq, bin_lss, bin_leq, bin_gtr, bin_geq, bin_band, bin_sadd, bin_seql, bin_beql, bin_agg, lenSA_str, lenLA_sl, lenLA_nils, cvIA_int, cvBSA_sl, cvBSA_nils, iadrL_sl, idxSA_str, extA_tup, storeA_ptr, ↓reduceIte, Nat.reduceEqDiff, Int.reduceEq, Option.map_some, beq_true, beq_false, Bool.not_true, Bool.not_false, Nat.zero_add, Nat.add_zero, Nat.reduceAdd, List.getElem?_cons_zero, List.getElem?_cons_succ, reduceCtorEq, true_and, and_true, List.map_cons, List.map_nil, fill, boxA, splice, cells_int, one_int, cells_bool, one_bool, cells_str, one_str, cells_ptr, one_ptr, cells_nilp, one_nilp, cells_sl, one_sl, cells_nils, one_nils, cells_mp, one_mp, cells_nilm, one_nilm, cells_fn, one_fn, cells_nilf, one_nilf, cells_ifc, one_ifc, cells_nili, one_nili, cells_agg, List.length_cons, List.length_nil, List.all_cons, List.all_nil, List.take_succ_cons, List.take_zero, List.drop_succ_cons, List.drop_zero, List.cons_append, List.nil_append, Nat.reduceLeDiff, Bool.and_true, AH.next_new, AH.next_put, and_self, repl_one, repl_zero, AV.un, e0]
    refine G.call ?_
    simp only [stps_nil, stps_cons, stp_some, putR_some, gd_true, gd_false, wanted_none, wanted_some, dput_some, dput_none, ev_t, ev_c, okR_some, evOp, tget_tput, loadA_ptr, fadrA_ptr, nilckA_ptr, packA_one, packA_agg, pickA_true, pickA_false, unA_not, bin_add, bin_sub, bin_mul, bin_quo, bin_rem, bin_eql, bin_neq, bin_lss, bin_leq, bin_gtr, bin_geq, bin_band, bin_sadd, bin_seql, bin_beql, bin_agg, lenSA_str, lenLA_sl, lenLA_nils, cvIA_int, cvBSA_sl, cvBSA_nils, iadrL_sl, idxSA_str, extA_tup, storeA_ptr, ↓reduceIte, Nat.reduceEqDiff, Int.reduceEq, Option.map_some, beq_true, beq_false, Bool.not_true, Bool.not_false, Nat.zero_add, Nat.add_zero, Nat.reduceAdd, List.getElem?_cons_zero, List.getElem?_cons_succ, reduceCtorEq, true_and, and_true, List.map_cons, List.map_nil, fill, boxA, splice, cells_int, one_int, cells_bool, one_bool, cells_str, one_str, cells_ptr, one_ptr, cells_nilp, one_nilp, cells_sl, one_sl, cells_nils, one_nils, cells_mp, one_mp, cells_nilm, one_nilm, cells_fn, one_fn, cells_nilf, one_nilf, cells_ifc, one_ifc, cells_nili, one_nili, cells_agg, List.length_cons, List.length_nil, List.all_cons, List.all_nil, List.take_succ_cons, List.take_zero, List.drop_succ_cons, List.drop_zero, List.cons_append, List.nil_append, Nat.reduceLeDiff, Bool.and_true, AH.next_new, AH.next_put, and_self, repl_one, repl_zero, AV.un]
    refine (numbers_ok (by omega)).mono fun r h4 ⟨lv, hv, sl, ex⟩ => ?_
    subst hv
    refine G.op (G.op (G.op (G.op (G.op ?_))))
    simp only [stps_nil, stps_cons, stp_some, putR_some, gd_true, gd_false, wanted_none, wanted_some, dput_some, dput_none, ev_t, ev_c, okR_some, evOp, tget_tput, loadA_ptr, fadrA_ptr, nilckA_ptr, packA_one, packA_agg, pickA_true, pickA_false, unA_not, bin_add, bin_sub, bin_mul, bin_quo, bin_rem, bin_eql, bin_neq, bin_lss, bin_leq, bin_gtr, bin_geq, bin_band, bin_sadd, bin_seql, bin_beql, bin_agg, lenSA_str, lenLA_sl, lenLA_nils, cvIA_int, cvBSA_sl, cvBSA_nils, iadrL_sl, idxSA_str, extA_tup, storeA_ptr, ↓reduceIte, Nat.reduceEqDiff, Int.reduceEq, Option.map_some, beq_true, beq_false, Bool.not_true, Bool.not_false, Nat.zero_add, Nat.add_zero, Nat.reduceAdd, List.getElem?_cons_zero, List.getElem?_cons_succ, reduceCtorEq, true_and, and_true, List.map_cons, List.map_nil, fill, boxA, splice, cells_int, one_int, cells_bool, one_bool, cells_str, one_str, cells_ptr, one_ptr, cells_nilp, one_nilp, cells_sl, one_sl, cells_nils, one_nils, cells_mp, one_mp, cells_nilm, one_nilm, cells_fn, one_fn, cells_nilf, one_nilf, cells_ifc, one_ifc, cells_nili, one_nili, cells_agg, List.length_cons, List.length_nil, List.all_cons, List.all_nil, List.take_succ_cons, List.take_zero, List.drop_succ_cons, List.drop_zero, List.cons_append, List.nil_append, Nat.reduceLeDiff, Bool.and_true, AH.next_new, AH.next_put, and_self, repl_one, repl_zero, AV.un]
    exact G.done ⟨lv, by simp only [stps_nil, stps_cons, stp_some, putR_some, gd_true, gd_false, wanted_none, wanted_some, dput_some, dput_none, ev_t, ev_c, okR_some, evOp, tget_tput, loadA_ptr, fadrA_ptr, nilckA_ptr, packA_one, packA_agg, pickA_true, pickA_false, unA_not, bin_add, bin_sub, bin_mul, bin_quo, bin_rem, bin_eql, bin_neq, bin_lss, bin_leq, bin_gtr, bin_geq, bin_band, bin_sadd, bin_seql, bin_beql, bin_agg, lenSA_str, lenLA_sl, lenLA_nils, cvIA_int, cvBSA_sl, cvBSA_nils, iadrL_sl, idxSA_str, extA_tup, storeA_ptr, ↓reduceIte, Nat.reduceEqDiff, Int.reduceEq, Option.map_some, beq_true, beq_false, Bool.not_true, Bool.not_false, Nat.zero_add, Nat.add_zero, Nat.reduceAdd, List.getElem?_cons_zero, List.getElem?_cons_succ, reduceCtorEq, true_and, and_true, List.map_cons, List.map_nil, fill, boxA, splice, cells_int, one_int, cells_bool, one_bool, cells_str, one_str, cells_ptr, one_ptr, cells_nilp, one_nilp, cells_sl, one_sl, cells_nils, one_nils, cells_mp, one_mp, cells_nilm, one_nilm, cells_fn, one_fn, cells_nilf, one_nilf, cells_ifc, one_ifc, cells_nili, one_nili, cells_agg, List.length_cons, List.length_nil, List.all_cons, List.all_nil, List.take_succ_cons, List.take_zero, List.drop_succ_cons, List.drop_zero, List.cons_append, List.nil_append, Nat.reduceLeDiff, Bool.and_true, AH.next_new, AH.next_put, and_self, repl_one, repl_zero, AV.un, e0], by simp only [stps_nil, stps_cons, stp_some, putR_some, gd_true, gd_false, wanted_none, wanted_some, dput_some, dput_none, ev_t, ev_c, okR_some, evOp, tget_tput, loadA_ptr, fadrA_ptr, nilckA_ptr, packA_one, packA_agg, pickA_true, pickA_false, unA_not, bin_add, bin_sub, bin_mul, bin_quo, bin_rem, bin_eql, bin_neq, bin_lss, bin_leq, bin_gtr, bin_geq, bin_band, bin_sadd, bin_seql, bin_beql, bin_agg, lenSA_str, lenLA_sl, lenLA_nils, cvIA_int, cvBSA_sl, cvBSA_nils, iadrL_sl, idxSA_str, extA_tup, storeA_ptr, ↓reduceIte, Nat.reduceEqDiff, Int.reduceEq, Option.map_some, beq_true, beq_false, Bool.not_true, Bool.not_false, Nat.zero_add, Nat.add_zero, Nat.reduceAdd, List.getElem?_cons_zero, List.getElem?_cons_succ, reduceCtorEq, true_and, and_true, List.map_cons, List.map_nil, fill, boxA, splice, cells_int, one_int, cells_bool, one_bool, cells_str, one_str, cells_ptr, one_ptr, cells_nilp, one_nilp, cells_sl, one_sl, cells_nils, one_nils, cells_mp, one_mp, cells_nilm, one_nilm, cells_fn, one_fn, cells_nilf, one_nilf, cells_ifc, one_ifc, cells_nili, one_nili, cells_agg, List.length_cons, List.length_nil, List.all_cons, List.all_nil, List.take_succ_cons, List.take_zero, List.drop_succ_cons, List.drop_zero, List.cons_append, List.nil_append, Nat.reduceLeDiff, Bool.and_true, AH.next_new, AH.next_put, and_self, repl_one, repl_zero, AV.un], by simp only [stps_nil, stps_cons, stp_some, putR_some, gd_true, gd_false, wanted_none, wanted_some, dput_some, dput_none, ev_t, ev_c, okR_some, evOp, tget_tput, loadA_ptr, fadrA_ptr, nilckA_ptr, packA_one, packA_agg, pickA_true, pickA_false, unA_not, bin_add, bin_sub, bin_mul, bin_quo, bin_rem, bin_eql, bin_neq, bin_lss, bin_leq, bin_gtr, bin_geq, bin_band, bin_sadd, bin_seql, bin_beql, bin_agg, lenSA_str, lenLA_sl, lenLA_nils, cvIA_int, cvBSA_sl, cvBSA_nils, iadrL_sl, idxSA_str, extA_tup, storeA_ptr, ↓reduceIte, Nat.reduceEqDiff, Int.reduceEq, Option.map_some, beq_true, beq_false, Bool.not_true, Bool.not_false, Nat.zero_add, Nat.add_zero, Nat.reduceAdd, List.getElem?_cons_zero, List.getElem?_cons_succ, reduceCtorEq, true_and, and_true, List.map_cons, List.map_nil, fill, boxA, splice, cells_int, one_int, cells_bool, one_bool, cells_str, one_str, cells_ptr, one_ptr, cells_nilp, one_nilp, cells_sl, one_sl, cells_nils, one_nils, cells_mp, one_mp, cells_nilm, one_nilm, cells_fn, one_fn, cells_nilf, one_nilf, cells_ifc, one_ifc, cells_nili, one_nili, cells_agg, List.length_cons, List.length_nil, List.all_cons, List.all_nil, List.take_succ_cons, List.take_zero, List.drop_succ_cons, List.drop_zero, List.cons_append, List.nil_append, Nat.reduceLeDiff, Bool.and_true, AH.next_new, AH.next_put, and_self, repl_one, repl_zero, AV.un], sl⟩
  refine W.seq (W.calls (fun ts h5 => ∃ lw, tget ts 3 = lv ∧ tget ts 4 = .bool (numsM txt).isSome ∧ tget ts 5 = lw ∧ tget ts 6 = .bool (numsM txt).isSome ∧ IsSl h5 1 h3.next lv (ints ((numsM txt).getD [])) ∧ IsSl h5 1 h4.next lw (ints ((numsM txt).getD []))) ?_ fun ts h5 ⟨lw, e3, e4, e5, e6, sl, sl2⟩ => ?_)
  · refine G.op ?_
    simp only [stps_nil, stps_cons, stp_some, putR_some, gd_true, gd_false, wanted_none, wanted_some, dput_some, dput_none, ev_t, ev_c, okR_some, evOp, tget_tput, loadA_ptr, fadrA_ptr, nilckA_ptr, packA_one, packA_agg, pickA_true, pickA_false, unA_not, bin_add, bin_sub, bin_mul, bin_quo, bin_rem, bin_eql, bin_neq, bin_lss, bin_leq, bin_gtr, bin_geq, bin_band, bin_sadd, bin_seql, bin_beql, bin_agg, lenSA_str, lenLA_sl, lenLA_nils, cvIA_int, cvBSA_sl, cvBSA_nils, iadrL_sl, idxSA_str, extA_tup, storeA_ptr, ↓reduceIte, Nat.reduceEqDiff, Int.reduceEq, Option.map_some, beq_true, beq_false, Bool.not_true, Bool.not_false, Nat.zero_add, Nat.add_zero, Nat.reduceAdd, List.getElem?_cons_zero, List.getElem?_cons_succ, reduceCtorEq, true_and, and_true, List.map_cons, List.map_nil, fill, boxA, splice, cells_int, one_int, cells_bool, one_bool, cells_str, one_str, cells_ptr, one_ptr, cells_nilp, one_nilp, cells_sl, one_sl, cells_nils, one_nils, cells_mp, one_mp, cells_nilm, one_nilm, cells_fn, one_fn, cells_nilf, one_nilf, cells_ifc, one_ifc, cells_nili, one_nili, cells_agg, List.length_cons, List.length_nil, List.all_cons, List.all_nil, List.take_succ_cons, List.take_zero, List.drop_succ_cons, List.drop_zero, List.cons_append, List.nil_append, Nat.reduceLeDiff, Bool.and_true, AH.next_new, AH.next_put, and_self, repl_one, repl_zero, AV.un, e0]
    refine G.call ?_
    simp only [stps_nil, stps_cons, stp_some, putR_some, gd_true, gd_false, wanted_none, wanted_some, dput_some, dput_none, ev_t, ev_c, okR_some, evOp, tget_tput, loadA_ptr, fadrA_ptr, nilckA_ptr, packA_one, packA_agg, pickA_true, pickA_false, unA_not, bin_add, bin_sub, bin_mul, bin_quo, bin_rem, bin_eql, bin_neq, bin_lss, bin_leq, bin_gtr, bin_geq, bin_band, bin_sadd, bin_seql, bin_beql, bin_agg, lenSA_str, lenLA_sl, lenLA_nils, cvIA_int, cvBSA_sl, cvBSA_nils, iadrL_sl, idxSA_str, extA_tup, storeA_ptr, ↓reduceIte, Nat.reduceEqDiff, Int.reduceEq, Option.map_some, beq_true, beq_false, Bool.not_true, Bool.not_false, Nat.zero_add, Nat.add_zero, Nat.reduceAdd, List.getElem?_cons_zero, List.getElem?_cons_succ, reduceCtorEq, true_and, and_true, List.map_cons, List.map_nil, fill, boxA, splice, cells_int, one_int, cells_bool, one_bool, cells_str, one_str, cells_ptr, one_ptr, cells_nilp, one_nilp, cells_sl, one_sl, cells_nils, one_nils, cells_mp, one_mp, cells_nilm, one_nilm, cells_fn, one_fn, cells_nilf, one_nilf, cells_ifc, one_ifc, cells_nili, one_nili, cells_agg, List.length_cons, List.length_nil, List.all_cons, List.all_nil, List.take_succ_cons, List.take_zero, List.drop_succ_cons, List.drop_zero, List.cons_append, List.nil_append, Nat.reduceLeDiff, Bool.and_true, AH.next_new, AH.next_put, and_self, repl_one, repl_zero, AV.un]
    refine (refnums_ok (by omega)).mono fun r h5 ⟨lw, hv, sl2, ex⟩ => ?_
    rw [← nums_is] at hv sl2
    subst hv
    refine G.op (G.op (G.op (G.op (G.op ?_))))
    simp only [stps_nil, stps_cons, stp_some, putR_some, gd_true, gd_false, wanted_none, wanted_some, dput_some, dput_none, ev_t, ev_c, okR_some, evOp, tget_tput, loadA_ptr, fadrA_ptr, nilckA_ptr, packA_one, packA_agg, pickA_true, pickA_false, unA_not, bin_add, bin_sub, bin_mul, bin_quo, bin_rem, bin_eql, bin_neq, bin_lss, bin_leq, bin_gtr, bin_geq, bin_band, bin_sadd, bin_seql, bin_beql, bin_agg, lenSA_str, lenLA_sl, lenLA_nils, cvIA_int, cvBSA_sl, cvBSA_nils, iadrL_sl, idxSA_str, extA_tup, storeA_ptr, ↓reduceIte, Nat.reduceEqDiff, Int.reduceEq, Option.map_some, beq_true, beq_false, Bool.not_true, Bool.not_false, Nat.zero_add, Nat.add_zero, Nat.reduceAdd, List.getElem?_cons_zero, List.getElem?_cons_succ, reduceCtorEq, true_and, and_true, List.map_cons, List.map_nil, fill, boxA, splice, cells_int, one_int, cells_bool, one_bool, cells_str, one_str, cells_ptr, one_ptr, cells_nilp, one_nilp, cells_sl, one_sl, cells_nils, one_nils, cells_mp, one_mp, cells_nilm, one_nilm, cells_fn, one_fn, cells_nilf, one_nilf, cells_ifc, one_ifc, cells_nili, one_nili, cells_agg, List.length_cons, List.length_nil, List.all_cons, List.all_nil, List.take_succ_cons, List.take_zero, List.drop_succ_cons, List.drop_zero, List.cons_append, List.nil_append, Nat.reduceLeDiff, Bool.and_true, AH.next_new, AH.next_put, and_self, repl_one, repl_zero, AV.un]
    exact G.done ⟨lw, by simp only [stps_nil, stps_cons, stp_some, putR_some, gd_true, gd_false, wanted_none, wanted_some, dput_some, dput_none, ev_t, ev_c, okR_some, evOp, tget_tput, loadA_ptr, fadrA_ptr, nilckA_ptr, packA_one, packA_agg, pickA_true, pickA_false, unA_not, bin_add, bin_sub, bin_mul, bin_quo, bin_rem, bin_eql, bin_neq, bin_lss, bin_leq, bin_gtr, bin_geq, bin_band, bin_sadd, bin_seql, bin_beql, bin_agg, lenSA_str, lenLA_sl, lenLA_nils, cvIA_int, cvBSA_sl, cvBSA_nils, iadrL_sl, idxSA_str, extA_tup, storeA_ptr, ↓reduceIte, Nat.reduceEqDiff, Int.reduceEq, Option.map_some, beq_true, beq_false, Bool.not_true, Bool.not_false, Nat.zero_add, Nat.add_zero, Nat.reduceAdd, List.getElem?_cons_zero, List.getElem?_cons_succ, reduceCtorEq, true_and, and_true, List.map_cons, List.map_nil, fill, boxA, splice, cells_int, one_int, cells_bool, one_bool, cells_str, one_str, cells_ptr, one_ptr, cells_nilp, one_nilp, cells_sl, one_sl, cells_nils, one_nils, cells_mp, one_mp, cells_nilm, one_nilm, cells_fn, one_fn, cells_nilf, one_nilf, cells_ifc, one_ifc, cells_nili, one_nili, cells_agg, List.length_cons, List.length_nil, List.all_cons, List.all_nil, List.take_succ_cons, List.take_zero, List.drop_succ_cons, List.drop_zero, List.cons_append, List.nil_append, Nat.reduceLeDiff, Bool.and_true, AH.next_new, AH.next_put, and_self, repl_one, repl_zero, AV.un, e3], by simp only [stps_nil, stps_cons, stp_some, putR_some, gd_true, gd_false, wanted_none, wanted_some, dput_some, dput_none, ev_t, ev_c, okR_some, evOp, tget_tput, loadA_ptr, fadrA_ptr, nilckA_ptr, packA_one, packA_agg, pickA_true, pickA_false, unA_not, bin_add, bin_sub, bin_mul, bin_quo, bin_rem, bin_eql, bin_neq, bin_lss, bin_leq, bin_gtr, bin_geq, bin_band, bin_sadd, bin_seql, bin_beql, bin_agg, lenSA_str, lenLA_sl, lenLA_nils, cvIA_int, cvBSA_sl, cvBSA_nils, iadrL_sl, idxSA_str, extA_tup, storeA_ptr, ↓reduceIte, Nat.reduceEqDiff, Int.reduceEq, Option.map_some, beq_true, beq_false, Bool.not_true, Bool.not_false, Nat.zero_add, Nat.add_zero, Nat.reduceAdd, List.getElem?_cons_zero, List.getElem?_cons_succ, reduceCtorEq, true_and, and_true, List.map_cons, List.map_nil, fill, boxA, splice, cells_int, one_int, cells_bool, one_bool, cells_str, one_str, cells_ptr, one_ptr, cells_nilp, one_nilp, cells_sl, one_sl, cells_nils, one_nils, cells_mp, one_mp, cells_nilm, one_nilm, cells_fn, one_fn, cells_nilf, one_nilf, cells_ifc, one_ifc, cells_nili, one_nili, cells_agg, List.length_cons, List.length_nil, List.all_cons, List.all_nil, List.take_succ_cons, List.take_zero, List.drop_succ_cons, List.drop_zero, List.cons_append, List.nil_append, Nat.reduceLeDiff, Bool.and_true, AH.next_new, AH.next_put, and_self, repl_one, repl_zero, AV.un, e4], by simp only [stps_nil, stps_cons, stp_some, putR_some, gd_true, gd_false, wanted_none, wanted_some, dput_some, dput_none, ev_t, ev_c, okR_some, evOp, tget_tput, loadA_ptr, fadrA_ptr, nilckA_ptr, packA_one, packA_agg, pickA_true, pickA_false, unA_not, bin_add, bin_sub, bin_mul, bin_quo, bin_rem, bin_eql, bin_neq, bin_lss, bin_leq, bin_gtr, bin_geq, bin_band, bin_sadd, bin_seql, bin_beql, bin_agg, lenSA_str, lenLA_sl, lenLA_nils, cvIA_int, cvBSA_sl, cvBSA_nils, iadrL_sl, idxSA_str, extA_tup, storeA_ptr, ↓reduceIte, Nat.reduceEqDiff, Int.reduceEq, Option.map_some, beq_true, beq_false, Bool.not_true, Bool.not_false, Nat.zero_add, Nat.add_zero, Nat.reduceAdd, List.getElem?_cons_zero, List.getElem?_cons_succ, reduceCtorEq, true_and, and_true, List.map_cons, List.map_nil, fill, boxA, splice, cells_int, one_int, cells_bool, one_bool, cells_str, one_str, cells_ptr, one_ptr, cells_nilp, one_nilp, cells_sl, one_sl, cells_nils, one_nils, cells_mp, one_mp, cells_nilm, one_nilm, cells_fn, one_fn, cells_nilf, one_nilf, cells_ifc, one_ifc, cells_nili, one_nili, cells_agg, List.length_cons, List.length_nil, List.all_cons, List.all_nil, List.take_succ_cons, List.take_zero, List.drop_succ_cons, List.drop_zero, List.cons_append, List.nil_append, Nat.reduceLeDiff, Bool.and_true, AH.next_new, AH.next_put, and_self, repl_one, repl_zero, AV.un], by simp only [stps_nil, stps_cons, stp_some, putR_some, gd_true, gd_false, wanted_none, wanted_some, dput_some, dput_none, ev_t, ev_c, okR_some, evOp, tget_tput, loadA_ptr, fadrA_ptr, nilckA_ptr, packA_one, packA_agg, pickA_true, pickA_false, unA_not, bin_add, bin_sub, bin_mul, bin_quo, bin_rem, bin_eql, bin_neq, bin_lss, bin_leq, bin_gtr, bin_geq, bin_band, bin_sadd, bin_seql, bin_beql, bin_agg, lenSA_str, lenLA_sl, lenLA_nils, cvIA_int, cvBSA_sl, cvBSA_nils, iadrL_sl, idxSA_str, extA_tup, storeA_ptr, ↓reduceIte, Nat.reduceEqDiff, Int.reduceEq, Option.map_some, beq_true, beq_false, Bool.not_true, Bool.not_false, Nat.zero_add, Nat.add_zero, Nat.reduceAdd, List.getElem?_cons_zero, List.getElem?_cons_succ, reduceCtorEq, true_and, and_true, List.map_cons, List.map_nil, fill, boxA, splice, cells_int, one_int, cells_bool, one_bool, cells_str, one_str, cells_ptr, one_ptr, cells_nilp, one_nilp, cells_sl, one_sl, cells_nils, one_nils, cells_mp, one_mp, cells_nilm, one_nilm, cells_fn, one_fn, cells_nilf, one_nilf, cells_ifc, one_ifc, cells_nili, one_nili, cells_agg, List.length_cons, List.length_nil, List.all_cons, List.all_nil, List.take_succ_cons, List.take_zero, List.drop_succ_cons, List.drop_zero, List.cons_append, List.nil_append, Nat.reduceLeDiff, Bool.and_true, AH.next_new, AH.next_put, and_self, repl_one, repl_zero, AV.un], sl.ext ex (Nat.le_refl _), sl2⟩
  have hln := sl_len sl
  refine W.seq (W.calls (fun ts h6 => tget ts 2 = .bool true) ?_ fun ts h6 e2 => W.ret ⟨.bool true, by simp only [Am.results, rdAll, rdRes, e2, rf4], rfl⟩)
  cases hm : numsM txt with
  | none =>
    rw [hm] at e4 e6 hln
    simp only [Option.isSome_none] at e4 e6
    have hln : lenLA lv = some (.int .i64 0) := hln
    refine G.op (G.op (G.op (G.op (G.op (G.op (G.op (G.op (G.op (G.op (G.op (G.op (G.op (G.op (G.op (G.op (G.op (G.op (G.op (G.op (G.op ?_))))))))))))))))))))
    simp only [stps_nil, stps_cons, stp_some, putR_some, gd_true, gd_false, wanted_none, wanted_some, dput_some, dput_none, ev_t, ev_c, okR_some, evOp, tget_tput, loadA_ptr, fadrA_ptr, nilckA_ptr, packA_one, packA_agg, pickA_true, pickA_false, unA_not, bin_add, bin_sub, bin_mul, bin_quo, bin_rem, bin_eql, bin_neq, bin_lss, bin_leq, bin_gtr, bin_geq, bin_band, bin_sadd, bin_seql, bin_beql, bin_agg, lenSA_str, lenLA_sl, lenLA_nils, cvIA_int, cvBSA_sl, cvBSA_nils, iadrL_sl, idxSA_str, extA_tup, storeA_ptr, ↓reduceIte, Nat.reduceEqDiff, Int.reduceEq, Option.map_some, beq_true, beq_false, Bool.not_true, Bool.not_false, Nat.zero_add, Nat.add_zero, Nat.reduceAdd, List.getElem?_cons_zero, List.getElem?_cons_succ, reduceCtorEq, true_and, and_true, List.map_cons, List.map_nil, fill, boxA, splice, cells_int, one_int, cells_bool, one_bool, cells_str, one_str, cells_ptr, one_ptr, cells_nilp, one_nilp, cells_sl, one_sl, cells_nils, one_nils, cells_mp, one_mp, cells_nilm, one_nilm, cells_fn, one_fn, cells_nilf, one_nilf, cells_ifc, one_ifc, cells_nili, one_nili, cells_agg, List.length_cons, List.length_nil, List.all_cons, List.all_nil, List.take_succ_cons, List.take_zero, List.drop_succ_cons, List.drop_zero, List.cons_append, List.nil_append, Nat.reduceLeDiff, Bool.and_true, AH.next_new, AH.next_put, and_self, repl_one, repl_zero, AV.un, e3, e4, e5, e6, hln, beq_self_eq_true, decide_true]
    exact G.done (by simp only [stps_nil, stps_cons, stp_some, putR_some, gd_true, gd_false, wanted_none, wanted_some, dput_some, dput_none, ev_t, ev_c, okR_some, evOp, tget_tput, loadA_ptr, fadrA_ptr, nilckA_ptr, packA_one, packA_agg, pickA_true, pickA_false, unA_not, bin_add, bin_sub, bin_mul, bin_quo, bin_rem, bin_eql, bin_neq, bin_lss, bin_leq, bin_gtr, bin_geq, bin_band, bin_sadd, bin_seql, bin_beql, bin_agg, lenSA_str, lenLA_sl, lenLA_nils, cvIA_int, cvBSA_sl, cvBSA_nils, iadrL_sl, idxSA_str, extA_tup, storeA_ptr, ↓reduceIte, Nat.reduceEqDiff, Int.reduceEq, Option.map_some, beq_true, beq_false, Bool.not_true, Bool.not_false, Nat.zero_add, Nat.add_zero, Nat.reduceAdd, List.getElem?_cons_zero, List.getElem?_cons_succ, reduceCtorEq, true_and, and_true, List.map_cons, List.map_nil, fill, boxA, splice, cells_int, one_int, cells_bool, one_bool, cells_str, one_str, cells_ptr, one_ptr, cells_nilp, one_nilp, cells_sl, one_sl, cells_nils, one_nils, cells_mp, one_mp, cells_nilm, one_nilm, cells_fn, one_fn, cells_nilf, one_nilf, cells_ifc, one_ifc, cells_nili, one_nili, cells_agg, List.length_cons, List.length_nil, List.all_cons, List.all_nil, List.take_succ_cons, List.take_zero, List.drop_succ_cons, List.drop_zero, List.cons_append, List.nil_append, Nat.reduceLeDiff, Bool.and_true, AH.next_new, AH.next_put, and_self, repl_one, repl_zero, AV.un])
  | some ns =>
    rw [hm] at e4 e6 sl sl2
    simp only [Option.isSome_some, Option.getD_some] at e4 e6 sl sl2
    have hns : ns.length < 2 ^ 40 := by
      rw [nums_is] at hm
      have := rn_len _ _ _ hm
      omega
    refine G.op (G.op (G.op (G.op (G.op (G.op (G.op (G.op ?_)))))))
    simp only [stps_nil, stps_cons, stp_some, putR_some, gd_true, gd_false, wanted_none, wanted_some, dput_some, dput_none, ev_t, ev_c, okR_some, evOp, tget_tput, loadA_ptr, fadrA_ptr, nilckA_ptr, packA_one, packA_agg, pickA_true, pickA_false, unA_not, bin_add, bin_sub, bin_mul, bin_quo, bin_rem, bin_eql, bin_neq, bin_lss, bin_leq, bin_gtr, bin_geq, bin_band, bin_sadd, bin_seql, bin_beql, bin_agg, lenSA_str, lenLA_sl, lenLA_nils, cvIA_int, cvBSA_sl, cvBSA_nils, iadrL_sl, idxSA_str, extA_tup, storeA_ptr, ↓reduceIte, Nat.reduceEqDiff, Int.reduceEq, Option.map_some, beq_true, beq_false, Bool.not_true, Bool.not_false, Nat.zero_add, Nat.add_zero, Nat.reduceAdd, List.getElem?_cons_zero, List.getElem?_cons_succ, reduceCtorEq, true_and, and_true, List.map_cons, List.map_nil, fill, boxA, splice, cells_int, one_int, cells_bool, one_bool, cells_str, one_str, cells_ptr, one_ptr, cells_nilp, one_nilp, cells_sl, one_sl, cells_nils, one_nils, cells_mp, one_mp, cells_nilm, one_nilm, cells_fn, one_fn, cells_nilf, one_nilf, cells_ifc, one_ifc, cells_nili, one_nili, cells_agg, List.length_cons, List.length_nil, List.all_cons, List.all_nil, List.take_succ_cons, List.take_zero, List.drop_succ_cons, List.drop_zero, List.cons_append, List.nil_append, Nat.reduceLeDiff, Bool.and_true, AH.next_new, AH.next_put, and_self, repl_one, repl_zero, AV.un, e3, e4, e5, e6, beq_self_eq_true]
    refine G.callg (by simp only [stps_nil, stps_cons, stp_some, putR_some, gd_true, gd_false, wanted_none, wanted_some, dput_some, dput_none, ev_t, ev_c, okR_some, evOp, tget_tput, loadA_ptr, fadrA_ptr, nilckA_ptr, packA_one, packA_agg, pickA_true, pickA_false, unA_not, bin_add, bin_sub, bin_mul, bin_quo, bin_rem, bin_eql, bin_neq, bin_lss, bin_leq, bin_gtr, bin_geq, bin_band, bin_sadd, bin_seql, bin_beql, bin_agg, lenSA_str, lenLA_sl, lenLA_nils, cvIA_int, cvBSA_sl, cvBSA_nils, iadrL_sl, idxSA_str, extA_tup, storeA_ptr, ↓reduceIte, Nat.reduceEqDiff, Int.reduceEq, Option.map_some, beq_true, beq_false, Bool.not_true, Bool.not_false, Nat.zero_add, Nat.add_zero, Nat.reduceAdd, List.getElem?_cons_zero, List.getElem?_cons_succ, reduceCtorEq, true_and, and_true, List.map_cons, List.map_nil, fill, boxA, splice, cells_int, one_int, cells_bool, one_bool, cells_str, one_str, cells_ptr, one_ptr, cells_nilp, one_nilp, cells_sl, one_sl, cells_nils, one_nils, cells_mp, one_mp, cells_nilm, one_nilm, cells_fn, one_fn, cells_nilf, one_nilf, cells_ifc, one_ifc, cells_nili, one_nili, cells_agg, List.length_cons, List.length_nil, List.all_cons, List.all_nil, List.take_succ_cons, List.take_zero, List.drop_succ_cons, List.drop_zero, List.cons_append, List.nil_append, Nat.reduceLeDiff, Bool.and_true, AH.next_new, AH.next_put, and_self, repl_one, repl_zero, AV.un]) ?_
    simp only [stps_nil, stps_cons, stp_some, putR_some, gd_true, gd_false, wanted_none, wanted_some, dput_some, dput_none, ev_t, ev_c, okR_some, evOp, tget_tput, loadA_ptr, fadrA_ptr, nilckA_ptr, packA_one, packA_agg, pickA_true, pickA_false, unA_not, bin_add, bin_sub, bin_mul, bin_quo, bin_rem, bin_eql, bin_neq, bin_lss, bin_leq, bin_gtr, bin_geq, bin_band, bin_sadd, bin_seql, bin_beql, bin_agg, lenSA_str, lenLA_sl, lenLA_nils, cvIA_int, cvBSA_sl, cvBSA_nils, iadrL_sl, idxSA_str, extA_tup, storeA_ptr, ↓reduceIte, Nat.reduceEqDiff, Int.reduceEq, Option.map_some, beq_true, beq_false, Bool.not_true, Bool.not_false, Nat.zero_add, Nat.add_zero, Nat.reduceAdd, List.getElem?_cons_zero, List.getElem?_cons_succ, reduceCtorEq, true_and, and_true, List.map_cons, List.map_nil, fill, boxA, splice, cells_int, one_int, cells_bool, one_bool, cells_str, one_str, cells_ptr, one_ptr, cells_nilp, one_nilp, cells_sl, one_sl, cells_nils, one_nils, cells_mp, one_mp, cells_nilm, one_nilm, cells_fn, one_fn, cells_nilf, one_nilf, cells_ifc, one_ifc, cells_nili, one_nili, cells_agg, List.length_cons, List.length_nil, List.all_cons, List.all_nil, List.take_succ_cons, List.take_zero, List.drop_succ_cons, List.drop_zero, List.cons_append, List.nil_append, Nat.reduceLeDiff, Bool.and_true, AH.next_new, AH.next_put, and_self, repl_one, repl_zero, AV.un]
    refine (sameints_ok sl sl2 hns).mono fun r h6 ⟨hr, eh⟩ => ?_
    subst hr
    refine G.op (G.op (G.op (G.op (G.op (G.op (G.op (G.op (G.op (G.op (G.op (G.op ?_)))))))))))
    simp only [stps_nil, stps_cons, stp_some, putR_some, gd_true, gd_false, wanted_none, wanted_some, dput_some, dput_none, ev_t, ev_c, okR_some, evOp, tget_tput, loadA_ptr, fadrA_ptr, nilckA_ptr, packA_one, packA_agg, pickA_true, pickA_false, unA_not, bin_add, bin_sub, bin_mul, bin_quo, bin_rem, bin_eql, bin_neq, bin_lss, bin_leq, bin_gtr, bin_geq, bin_band, bin_sadd, bin_seql, bin_beql, bin_agg, lenSA_str, lenLA_sl, lenLA_nils, cvIA_int, cvBSA_sl, cvBSA_nils, iadrL_sl, idxSA_str, extA_tup, storeA_ptr, ↓reduceIte, Nat.reduceEqDiff, Int.reduceEq, Option.map_some, beq_true, beq_false, Bool.not_true, Bool.not_false, Nat.zero_add, Nat.add_zero, Nat.reduceAdd, List.getElem?_cons_zero, List.getElem?_cons_succ, reduceCtorEq, true_and, and_true, List.map_cons, List.map_nil, fill, boxA, splice, cells_int, one_int, cells_bool, one_bool, cells_str, one_str, cells_ptr, one_ptr, cells_nilp, one_nilp, cells_sl, one_sl, cells_nils, one_nils, cells_mp, one_mp, cells_nilm, one_nilm, cells_fn, one_fn, cells_nilf, one_nilf, cells_ifc, one_ifc, cells_nili, one_nili, cells_agg, List.length_cons, List.length_nil, List.all_cons, List.all_nil, List.take_succ_cons, List.take_zero, List.drop_succ_cons, List.drop_zero, List.cons_append, List.nil_append, Nat.reduceLeDiff, Bool.and_true, AH.next_new, AH.next_put, and_self, repl_one, repl_zero, AV.un, e3, e4, e5, e6]
    exact G.done (by simp only [stps_nil, stps_cons, stp_some, putR_some, gd_true, gd_false, wanted_none, wanted_some, dput_some, dput_none, ev_t, ev_c, okR_some, evOp, tget_tput, loadA_ptr, fadrA_ptr, nilckA_ptr, packA_one, packA_agg, pickA_true, pickA_false, unA_not, bin_add, bin_sub, bin_mul, bin_quo, bin_rem, bin_eql, bin_neq, bin_lss, bin_leq, bin_gtr, bin_geq, bin_band, bin_sadd, bin_seql, bin_beql, bin_agg, lenSA_str, lenLA_sl, lenLA_nils, cvIA_int, cvBSA_sl, cvBSA_nils, iadrL_sl, idxSA_str, extA_tup, storeA_ptr, ↓reduceIte, Nat.reduceEqDiff, Int.reduceEq, Option.map_some, beq_true, beq_false, Bool.not_true, Bool.not_false, Nat.zero_add, Nat.add_zero, Nat.reduceAdd, List.getElem?_cons_zero, List.getElem?_cons_succ, reduceCtorEq, true_and, and_true, List.map_cons, List.map_nil, fill, boxA, splice, cells_int, one_int, cells_bool, one_bool, cells_str, one_str, cells_ptr, one_ptr, cells_nilp, one_nilp, cells_sl, one_sl, cells_nils, one_nils, cells_mp, one_mp, cells_nilm, one_nilm, cells_fn, one_fn, cells_nilf, one_nilf, cells_ifc, one_ifc, cells_nili, one_nili, cells_agg, List.length_cons, List.length_nil, List.all_cons, List.all_nil, List.take_succ_cons, List.take_zero, List.drop_succ_cons, List.drop_zero, List.cons_append, List.nil_append, Nat.reduceLeDiff, Bool.and_true, AH.next_new, AH.next_put, and_self, repl_one, repl_zero, AV.un])

end Go.Proofs.Ytloklfmgbolpeaa
