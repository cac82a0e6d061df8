/-
  ref.Numbers.
-/
import Derived.Test.YtloklfmgbolpeaaNums
namespace Go.Proofs.Ytloklfmgbolpeaa
set_option linter.unusedVariables false
set_option linter.unusedSimpArgs false
open Go.Am

/-- up to so many digits, behind a number -/
def dg : Nat → Nat → List UInt8 → Nat × List UInt8
  | 0, n, r => (n, r)
  | _ + 1, n, [] => (n, [])
  | f + 1, n, c :: r => if isDig c then dg f (10 * n + (c.toNat - 48)) r else (n, c :: r)

theorem dg_suf : ∀ (f n : Nat) (r : List UInt8), (dg f n r).2 <:+ r
  | 0, n, r => List.suffix_refl _
  | f + 1, n, [] => List.suffix_refl _
  | f + 1, n, c :: r => by
    unfold dg
    split
    · exact (dg_suf f _ r).trans (List.suffix_cons c r)
    · exact List.suffix_refl _

def rn : Nat → List UInt8 → Option (List Nat)
  | 0, _ => some []
  | _ + 1, [] => some []
  | f + 1, c :: r =>
    let x := dg 7 0 (c :: r)
    if x.2.length = (c :: r).length ∨ 999999 < x.1 ∨ (x.2.length + 1 < (c :: r).length ∧ c = 48) then none else
    match x.2 with
    | [] => some [x.1]
    | d :: r' => if d ≠ 32 ∨ r' = [] then none else (rn f r').map (x.1 :: ·)

theorem rn_fuel : ∀ (f f' : Nat) (r : List UInt8), r.length < f → r.length < f' → rn f r = rn f' r
  | 0, _, _, h, _ => by omega
  | _ + 1, 0, _, _, h => by omega
  | _ + 1, _ + 1, [], _, _ => rfl
  | f + 1, f' + 1, c :: r, h, h' => by
    have hs := (dg_suf 7 0 (c :: r)).length_le
    simp only [rn]
    generalize dg 7 0 (c :: r) = x at *
    obtain ⟨n, q⟩ := x
    simp only at hs ⊢
    split
    · rfl
    · cases q with
      | nil => rfl
      | cons d r' =>
        simp only
        split
        · rfl
        · simp only [List.length_cons] at hs h h'
          rw [rn_fuel f f' r' (by omega) (by omega)]

/-- Can't a line go on so behind a number? -/
def sepBad : List UInt8 → Bool
  | [] => false
  | d :: r => decide (d ≠ 32 ∨ r = [])

theorem byte_eq' (b c : UInt8) : decide ((b.toNat : Int) = (c.toNat : Int)) = decide (b = c) := by
  simp only [decide_eq_decide, Int.natCast_inj]
  exact ⟨fun h => UInt8.toNat_inj.1 h, fun h => by rw [h]⟩

theorem dig_next2 {n : Nat} {c : UInt8} (hn : n < 10 ^ 7) (hd : isDig c = true) : IntKind.i64.wrap (IntKind.i64.wrap (IntKind.i64.wrap (10 * (n : Int)) + (c.toNat : Nat)) - 48) = ((10 * n + (c.toNat - 48) : Nat) : Int) := by
  have h := isDig_iff.1 hd
  rw [IntWalk.i64_in (10 * (n : Int)) (by omega), IntWalk.i64_in (10 * (n : Int) + (c.toNat : Nat)) (by omega), IntWalk.i64_in _ (by omega)]
  omega

/-- the loop over a number's digits -/
theorem idx_hd {txt rest : List UInt8} (hr : rest <:+ txt) : idxSA (.str txt) (.int .i64 ((txt.length - rest.length : Nat) : Int)) = rest.head?.map fun c => .int .u8 (c.toNat : Nat) := by
  rw [idxSA_str, if_pos (by omega), Int.toNat_natCast, (at_rest hr).2]

set_option maxRecDepth 4000 in
theorem refnums_ok {h : AH} {txt : List UInt8} (hl : txt.length < 2 ^ 36) : C prg 11 [.str txt] h (NumsOut h (rn (txt.length + 1) txt)) := by
  refine C.func pf11 ?_
  refine W.seq (W.runs (fun ts h1 => h1 = h ∧ tget ts 0 = .str txt) ?_ fun ts h1 ⟨eh, e0⟩ => ?_)
  · simp only [stps_nil, stps_cons, stp_some, putR_some, gd_true, gd_false, wanted_none, wanted_some, dput_some, dput_none, ev_t, ev_c, okR_some, evOp, tget_tput, loadA_ptr, fadrA_ptr, nilckA_ptr, packA_one, packA_agg, pickA_true, pickA_false, unA_not, bin_add, bin_sub, bin_mul, bin_quo, bin_rem, bin_eql, bin_neq, bin_lss, bin_leq, bin_gtr, bin_geq, bin_band, bin_sadd, bin_seql, bin_beql, bin_agg, lenSA_str, lenLA_sl, lenLA_nils, cvIA_int, cvBSA_sl, cvBSA_nils, iadrL_sl, idxSA_str, extA_tup, storeA_ptr, ↓reduceIte, Nat.reduceEqDiff, Int.reduceEq, Option.map_some, beq_true, beq_false, Bool.not_true, Bool.not_false, Nat.zero_add, Nat.add_zero, Nat.reduceAdd, List.getElem?_cons_zero, List.getElem?_cons_succ, reduceCtorEq, true_and, and_true, List.map_cons, List.map_nil, fill, boxA, splice, cells_int, one_int, cells_bool, one_bool, cells_str, one_str, cells_ptr, one_ptr, cells_nilp, one_nilp, cells_sl, one_sl, cells_nils, one_nils, cells_mp, one_mp, cells_nilm, one_nilm, cells_fn, one_fn, cells_nilf, one_nilf, cells_ifc, one_ifc, cells_nili, one_nili, cells_agg, List.length_cons, List.length_nil, List.all_cons, List.all_nil, List.take_succ_cons, List.take_zero, List.drop_succ_cons, List.drop_zero, List.cons_append, List.nil_append, Nat.reduceLeDiff, Bool.and_true, AH.next_new, AH.next_put, and_self, repl_one, repl_zero, AV.un, initTm]
  subst eh
  refine W.seq (W.runs (fun ts h2 => h2 = h1.new (.cells [] 1 false) ∧ tget ts 0 = .str txt ∧ tget ts 4 = .sl h1.next 0 0 0) ?_ fun ts h2 ⟨eh, e0, e4⟩ => ?_)
  · simp only [stps_nil, stps_cons, stp_some, putR_some, gd_true, gd_false, wanted_none, wanted_some, dput_some, dput_none, ev_t, ev_c, okR_some, evOp, tget_tput, loadA_ptr, fadrA_ptr, nilckA_ptr, packA_one, packA_agg, pickA_true, pickA_false, unA_not, bin_add, bin_sub, bin_mul, bin_quo, bin_rem, bin_eql, bin_neq, bin_lss, bin_leq, bin_gtr, bin_geq, bin_band, bin_sadd, bin_seql, bin_beql, bin_agg, lenSA_str, lenLA_sl, lenLA_nils, cvIA_int, cvBSA_sl, cvBSA_nils, iadrL_sl, idxSA_str, extA_tup, storeA_ptr, ↓reduceIte, Nat.reduceEqDiff, Int.reduceEq, Option.map_some, beq_true, beq_false, Bool.not_true, Bool.not_false, Nat.zero_add, Nat.add_zero, Nat.reduceAdd, List.getElem?_cons_zero, List.getElem?_cons_succ, reduceCtorEq, true_and, and_true, List.map_cons, List.map_nil, fill, boxA, splice, cells_int, one_int, cells_bool, one_bool, cells_str, one_str, cells_ptr, one_ptr, cells_nilp, one_nilp, cells_sl, one_sl, cells_nils, one_nils, cells_mp, one_mp, cells_nilm, one_nilm, cells_fn, one_fn, cells_nilf, one_nilf, cells_ifc, one_ifc, cells_nili, one_nili, cells_agg, List.length_cons, List.length_nil, List.all_cons, List.all_nil, List.take_succ_cons, List.take_zero, List.drop_succ_cons, List.drop_zero, List.cons_append, List.nil_append, Nat.reduceLeDiff, Bool.and_true, AH.next_new, AH.next_put, and_self, repl_one, repl_zero, AV.un, e0]
  have sl : IsSl h2 1 h1.next (.sl h1.next 0 0 0) (ints []) := .inr ⟨_, _, Nat.le_refl _, rfl, by rw [eh, AH.get_new, if_pos rfl]; rfl, rfl⟩
  have ex : Ext h1.next h1 h2 := by rw [eh]; exact Ext.new (Nat.le_refl _)
  clear eh
  refine W.seq (W.seq (W.runs (fun ts h3 => h3 = h2 ∧ tget ts 0 = .str txt ∧ tget ts 4 = .sl h1.next 0 0 0 ∧ tget ts 5 = .int .i64 0) ?_ fun ts h3 ⟨eh, e0, e4, e5⟩ => ?_))
  · simp only [stps_nil, stps_cons, stp_some, putR_some, gd_true, gd_false, wanted_none, wanted_some, dput_some, dput_none, ev_t, ev_c, okR_some, evOp, tget_tput, loadA_ptr, fadrA_ptr, nilckA_ptr, packA_one, packA_agg, pickA_true, pickA_false, unA_not, bin_add, bin_sub, bin_mul, bin_quo, bin_rem, bin_eql, bin_neq, bin_lss, bin_leq, bin_gtr, bin_geq, bin_band, bin_sadd, bin_seql, bin_beql, bin_agg, lenSA_str, lenLA_sl, lenLA_nils, cvIA_int, cvBSA_sl, cvBSA_nils, iadrL_sl, idxSA_str, extA_tup, storeA_ptr, ↓reduceIte, Nat.reduceEqDiff, Int.reduceEq, Option.map_some, beq_true, beq_false, Bool.not_true, Bool.not_false, Nat.zero_add, Nat.add_zero, Nat.reduceAdd, List.getElem?_cons_zero, List.getElem?_cons_succ, reduceCtorEq, true_and, and_true, List.map_cons, List.map_nil, fill, boxA, splice, cells_int, one_int, cells_bool, one_bool, cells_str, one_str, cells_ptr, one_ptr, cells_nilp, one_nilp, cells_sl, one_sl, cells_nils, one_nils, cells_mp, one_mp, cells_nilm, one_nilm, cells_fn, one_fn, cells_nilf, one_nilf, cells_ifc, one_ifc, cells_nili, one_nili, cells_agg, List.length_cons, List.length_nil, List.all_cons, List.all_nil, List.take_succ_cons, List.take_zero, List.drop_succ_cons, List.drop_zero, List.cons_append, List.nil_append, Nat.reduceLeDiff, Bool.and_true, AH.next_new, AH.next_put, and_self, repl_one, repl_zero, AV.un, e0, e4]
  subst eh
  refine W.block (W.loop (fun m ts h4 => ∃ i ns lv, m + i = txt.length + 1 ∧ ns.length ≤ i ∧ (∀ y, y = rn (txt.length + 1 - i) (txt.drop i) → rn (txt.length + 1) txt = y.map (ns ++ ·)) ∧ tget ts 0 = .str txt ∧ tget ts 4 = lv ∧ tget ts 5 = .int .i64 (i : Nat) ∧ IsSl h4 1 h1.next lv (ints ns) ∧ Ext h1.next h1 h4) ?_
    (n := txt.length + 1) ⟨0, [], _, rfl, by simp, fun y hy => by rw [hy]; simp, e0, e4, e5, sl, ex⟩)
  clear e0 e4 e5 sl ex
  rintro m ts h4 ⟨i, ns, lv, hm, hns, hrn, e0, e4, e5, sl, ex⟩
  refine W.seq (W.seq (W.runs (fun ts h5 => h5 = h4 ∧ tget ts 0 = .str txt ∧ tget ts 4 = lv ∧ tget ts 5 = .int .i64 (i : Nat) ∧ tget ts 12 = .bool (decide (i < txt.length))) ?_ fun ts h5 ⟨eh, e0, e4, e5, e12⟩ => ?_))
  · simp only [stps_nil, stps_cons, stp_some, putR_some, gd_true, gd_false, wanted_none, wanted_some, dput_some, dput_none, ev_t, ev_c, okR_some, evOp, tget_tput, loadA_ptr, fadrA_ptr, nilckA_ptr, packA_one, packA_agg, pickA_true, pickA_false, unA_not, bin_add, bin_sub, bin_mul, bin_quo, bin_rem, bin_eql, bin_neq, bin_lss, bin_leq, bin_gtr, bin_geq, bin_band, bin_sadd, bin_seql, bin_beql, bin_agg, lenSA_str, lenLA_sl, lenLA_nils, cvIA_int, cvBSA_sl, cvBSA_nils, iadrL_sl, idxSA_str, extA_tup, storeA_ptr, ↓reduceIte, Nat.reduceEqDiff, Int.reduceEq, Option.map_some, beq_true, beq_false, Bool.not_true, Bool.not_false, Nat.zero_add, Nat.add_zero, Nat.reduceAdd, List.getElem?_cons_zero, List.getElem?_cons_succ, reduceCtorEq, true_and, and_true, List.map_cons, List.map_nil, fill, boxA, splice, cells_int, one_int, cells_bool, one_bool, cells_str, one_str, cells_ptr, one_ptr, cells_nilp, one_nilp, cells_sl, one_sl, cells_nils, one_nils, cells_mp, one_mp, cells_nilm, one_nilm, cells_fn, one_fn, cells_nilf, one_nilf, cells_ifc, one_ifc, cells_nili, one_nili, cells_agg, List.length_cons, List.length_nil, List.all_cons, List.all_nil, List.take_succ_cons, List.take_zero, List.drop_succ_cons, List.drop_zero, List.cons_append, List.nil_append, Nat.reduceLeDiff, Bool.and_true, AH.next_new, AH.next_put, and_self, repl_one, repl_zero, AV.un, e0, e4, e5]
    congr 1
    simp only [decide_eq_decide]
    omega
  subst eh
  refine W.cond e12 (fun hq => ?_) (fun hq => ?_)
  · have hq := of_decide_eq_true hq
    have hdr : txt.drop i <:+ txt := List.drop_suffix i txt
    have hdl : (txt.drop i).length = txt.length - i := List.length_drop
    generalize hrest : txt.drop i = rest at *
    have hi : i = txt.length - rest.length := by omega
    refine W.skip (W.block (W.seq (W.runs (fun ts h6 => h6 = h5 ∧ tget ts 0 = .str txt ∧ tget ts 4 = lv ∧ tget ts 5 = .int .i64 (i : Nat) ∧ tget ts 6 = .int .i64 (i : Nat)) ?_ fun ts h6 ⟨eh, e0, e4, e5, e6⟩ => ?_)))
    · simp only [stps_nil, stps_cons, stp_some, putR_some, gd_true, gd_false, wanted_none, wanted_some, dput_some, dput_none, ev_t, ev_c, okR_some, evOp, tget_tput, loadA_ptr, fadrA_ptr, nilckA_ptr, packA_one, packA_agg, pickA_true, pickA_false, unA_not, bin_add, bin_sub, bin_mul, bin_quo, bin_rem, bin_eql, bin_neq, bin_lss, bin_leq, bin_gtr, bin_geq, bin_band, bin_sadd, bin_seql, bin_beql, bin_agg, lenSA_str, lenLA_sl, lenLA_nils, cvIA_int, cvBSA_sl, cvBSA_nils, iadrL_sl, idxSA_str, extA_tup, storeA_ptr, ↓reduceIte, Nat.reduceEqDiff, Int.reduceEq, Option.map_some, beq_true, beq_false, Bool.not_true, Bool.not_false, Nat.zero_add, Nat.add_zero, Nat.reduceAdd, List.getElem?_cons_zero, List.getElem?_cons_succ, reduceCtorEq, true_and, and_true, List.map_cons, List.map_nil, fill, boxA, splice, cells_int, one_int, cells_bool, one_bool, cells_str, one_str, cells_ptr, one_ptr, cells_nilp, one_nilp, cells_sl, one_sl, cells_nils, one_nils, cells_mp, one_mp, cells_nilm, one_nilm, cells_fn, one_fn, cells_nilf, one_nilf, cells_ifc, one_ifc, cells_nili, one_nili, cells_agg, List.length_cons, List.length_nil, List.all_cons, List.all_nil, List.take_succ_cons, List.take_zero, List.drop_succ_cons, List.drop_zero, List.cons_append, List.nil_append, Nat.reduceLeDiff, Bool.and_true, AH.next_new, AH.next_put, and_self, repl_one, repl_zero, AV.un, e0, e4, e5]
    subst eh
    refine W.seq (W.runs (fun ts h7 => h7 = h6 ∧ tget ts 0 = .str txt ∧ tget ts 4 = lv ∧ tget ts 5 = .int .i64 (i : Nat) ∧ tget ts 6 = .int .i64 (i : Nat) ∧ tget ts 7 = .int .i64 0) ?_ fun ts h7 ⟨eh, e0, e4, e5, e6, e7⟩ => ?_)
    · simp only [stps_nil, stps_cons, stp_some, putR_some, gd_true, gd_false, wanted_none, wanted_some, dput_some, dput_none, ev_t, ev_c, okR_some, evOp, tget_tput, loadA_ptr, fadrA_ptr, nilckA_ptr, packA_one, packA_agg, pickA_true, pickA_false, unA_not, bin_add, bin_sub, bin_mul, bin_quo, bin_rem, bin_eql, bin_neq, bin_lss, bin_leq, bin_gtr, bin_geq, bin_band, bin_sadd, bin_seql, bin_beql, bin_agg, lenSA_str, lenLA_sl, lenLA_nils, cvIA_int, cvBSA_sl, cvBSA_nils, iadrL_sl, idxSA_str, extA_tup, storeA_ptr, ↓reduceIte, Nat.reduceEqDiff, Int.reduceEq, Option.map_some, beq_true, beq_false, Bool.not_true, Bool.not_false, Nat.zero_add, Nat.add_zero, Nat.reduceAdd, List.getElem?_cons_zero, List.getElem?_cons_succ, reduceCtorEq, true_and, and_true, List.map_cons, List.map_nil, fill, boxA, splice, cells_int, one_int, cells_bool, one_bool, cells_str, one_str, cells_ptr, one_ptr, cells_nilp, one_nilp, cells_sl, one_sl, cells_nils, one_nils, cells_mp, one_mp, cells_nilm, one_nilm, cells_fn, one_fn, cells_nilf, one_nilf, cells_ifc, one_ifc, cells_nili, one_nili, cells_agg, List.length_cons, List.length_nil, List.all_cons, List.all_nil, List.take_succ_cons, List.take_zero, List.drop_succ_cons, List.drop_zero, List.cons_append, List.nil_append, Nat.reduceLeDiff, Bool.and_true, AH.next_new, AH.next_put, and_self, repl_one, repl_zero, AV.un, e0, e4, e5, e6]
    subst eh
    refine W.seq (W.block (W.loop (fun f ts h8 => h8 = h7 ∧ f ≤ 7 ∧ ∃ n r, r <:+ txt ∧ r.length + 7 = rest.length + f ∧ r.length ≤ rest.length ∧ n < 10 ^ (7 - f) ∧ dg f n r = dg 7 0 rest ∧ tget ts 0 = .str txt ∧ tget ts 4 = lv ∧ tget ts 5 = .int .i64 (i : Nat) ∧ tget ts 6 = .int .i64 ((txt.length - r.length : Nat) : Int) ∧ tget ts 7 = .int .i64 (n : Nat)) ?_
      (n := 7) ⟨rfl, by omega, 0, rest, hdr, rfl, by omega, by simp, rfl, e0, e4, e5, by rw [← hi]; exact e6, e7⟩))
    clear e0 e4 e5 e6 e7
    rintro f ts h8 ⟨eh, hf, n, r, hr, hrl, hrl2, hn, hdg, e0, e4, e5, e6, e7⟩
    subst eh
    have hrt := hr.length_le
    have hn7 : n < 10 ^ 7 := Nat.lt_of_lt_of_le hn (Nat.pow_le_pow_right (by omega) (by omega))
    have hix := idx_hd hr
    refine W.seq (W.seq (W.runs (fun ts h9 => h9 = h8 ∧ tget ts 0 = .str txt ∧ tget ts 4 = lv ∧ tget ts 5 = .int .i64 (i : Nat) ∧ tget ts 6 = .int .i64 ((txt.length - r.length : Nat) : Int) ∧ tget ts 7 = .int .i64 (n : Nat) ∧ tget ts 35 = .bool (digHd r && decide (0 < f))) ?_ fun ts h9 ⟨eh, e0, e4, e5, e6, e7, e35⟩ => ?_))
    · cases r with
      | nil =>
        have hd : decide (((txt.length - ([] : List UInt8).length : Nat) : Int) < txt.length) = false := by simp
        simp only [stps_nil, stps_cons, stp_some, putR_some, gd_true, gd_false, wanted_none, wanted_some, dput_some, dput_none, ev_t, ev_c, okR_some, evOp, tget_tput, loadA_ptr, fadrA_ptr, nilckA_ptr, packA_one, packA_agg, pickA_true, pickA_false, unA_not, bin_add, bin_sub, bin_mul, bin_quo, bin_rem, bin_eql, bin_neq, bin_lss, bin_leq, bin_gtr, bin_geq, bin_band, bin_sadd, bin_seql, bin_beql, bin_agg, lenSA_str, lenLA_sl, lenLA_nils, cvIA_int, cvBSA_sl, cvBSA_nils, iadrL_sl, idxSA_str, extA_tup, storeA_ptr, ↓reduceIte, Nat.reduceEqDiff, Int.reduceEq, Option.map_some, beq_true, beq_false, Bool.not_true, Bool.not_false, Nat.zero_add, Nat.add_zero, Nat.reduceAdd, List.getElem?_cons_zero, List.getElem?_cons_succ, reduceCtorEq, true_and, and_true, List.map_cons, List.map_nil, fill, boxA, splice, cells_int, one_int, cells_bool, one_bool, cells_str, one_str, cells_ptr, one_ptr, cells_nilp, one_nilp, cells_sl, one_sl, cells_nils, one_nils, cells_mp, one_mp, cells_nilm, one_nilm, cells_fn, one_fn, cells_nilf, one_nilf, cells_ifc, one_ifc, cells_nili, one_nili, cells_agg, List.length_cons, List.length_nil, List.all_cons, List.all_nil, List.take_succ_cons, List.take_zero, List.drop_succ_cons, List.drop_zero, List.cons_append, List.nil_append, Nat.reduceLeDiff, Bool.and_true, AH.next_new, AH.next_put, and_self, repl_one, repl_zero, AV.un, e0, e4, e5, e6, e7, hd, digHd, Bool.false_and]
        simp only [List.length_nil] at hd
        simp only [stps_nil, stps_cons, stp_some, putR_some, gd_true, gd_false, wanted_none, wanted_some, dput_some, dput_none, ev_t, ev_c, okR_some, evOp, tget_tput, loadA_ptr, fadrA_ptr, nilckA_ptr, packA_one, packA_agg, pickA_true, pickA_false, unA_not, bin_add, bin_sub, bin_mul, bin_quo, bin_rem, bin_eql, bin_neq, bin_lss, bin_leq, bin_gtr, bin_geq, bin_band, bin_sadd, bin_seql, bin_beql, bin_agg, lenSA_str, lenLA_sl, lenLA_nils, cvIA_int, cvBSA_sl, cvBSA_nils, iadrL_sl, idxSA_str, extA_tup, storeA_ptr, ↓reduceIte, Nat.reduceEqDiff, Int.reduceEq, Option.map_some, beq_true, beq_false, Bool.not_true, Bool.not_false, Nat.zero_add, Nat.add_zero, Nat.reduceAdd, List.getElem?_cons_zero, List.getElem?_cons_succ, reduceCtorEq, true_and, and_true, List.map_cons, List.map_nil, fill, boxA, splice, cells_int, one_int, cells_bool, one_bool, cells_str, one_str, cells_ptr, one_ptr, cells_nilp, one_nilp, cells_sl, one_sl, cells_nils, one_nils, cells_mp, one_mp, cells_nilm, one_nilm, cells_fn, one_fn, cells_nilf, one_nilf, cells_ifc, one_ifc, cells_nili, one_nili, cells_agg, List.length_cons, List.length_nil, List.all_cons, List.all_nil, List.take_succ_cons, List.take_zero, List.drop_succ_cons, List.drop_zero, List.cons_append, List.nil_append, Nat.reduceLeDiff, Bool.and_true, AH.next_new, AH.next_put, and_self, repl_one, repl_zero, AV.un, e0, e4, e5, e6, e7, hd, digHd, Bool.false_and]
      | cons c r' =>
        have hz : (0 : Int) ≤ ((txt.length - (r'.length + 1) : Nat) : Int) := by omega
        have ha := (at_rest hr).2
        simp only [List.length_cons, List.head?_cons] at ha hrl hrl2 hrt
        have hd : decide (((txt.length - (r'.length + 1) : Nat) : Int) < txt.length) = true := by simp; omega
        have hsub : decide (IntKind.i64.wrap (((txt.length - (r'.length + 1) : Nat) : Int) - (i : Nat)) < 7) = decide (0 < f) := by
          rw [IntWalk.i64_in _ (by omega)]
          simp only [decide_eq_decide]
          omega
        by_cases h1 : (48 : Nat) ≤ c.toNat
        · have h1' : decide ((48 : Int) ≤ c.toNat) = true := by simp; omega
          by_cases h2 : c.toNat ≤ 57
          · have h2' : decide ((c.toNat : Int) ≤ 57) = true := by simp; omega
            have hdg : isDig c = true := isDig_iff.2 ⟨h1, h2⟩
            simp only [stps_nil, stps_cons, stp_some, putR_some, gd_true, gd_false, wanted_none, wanted_some, dput_some, dput_none, ev_t, ev_c, okR_some, evOp, tget_tput, loadA_ptr, fadrA_ptr, nilckA_ptr, packA_one, packA_agg, pickA_true, pickA_false, unA_not, bin_add, bin_sub, bin_mul, bin_quo, bin_rem, bin_eql, bin_neq, bin_lss, bin_leq, bin_gtr, bin_geq, bin_band, bin_sadd, bin_seql, bin_beql, bin_agg, lenSA_str, lenLA_sl, lenLA_nils, cvIA_int, cvBSA_sl, cvBSA_nils, iadrL_sl, idxSA_str, extA_tup, storeA_ptr, ↓reduceIte, Nat.reduceEqDiff, Int.reduceEq, Option.map_some, beq_true, beq_false, Bool.not_true, Bool.not_false, Nat.zero_add, Nat.add_zero, Nat.reduceAdd, List.getElem?_cons_zero, List.getElem?_cons_succ, reduceCtorEq, true_and, and_true, List.map_cons, List.map_nil, fill, boxA, splice, cells_int, one_int, cells_bool, one_bool, cells_str, one_str, cells_ptr, one_ptr, cells_nilp, one_nilp, cells_sl, one_sl, cells_nils, one_nils, cells_mp, one_mp, cells_nilm, one_nilm, cells_fn, one_fn, cells_nilf, one_nilf, cells_ifc, one_ifc, cells_nili, one_nili, cells_agg, List.length_cons, List.length_nil, List.all_cons, List.all_nil, List.take_succ_cons, List.take_zero, List.drop_succ_cons, List.drop_zero, List.cons_append, List.nil_append, Nat.reduceLeDiff, Bool.and_true, AH.next_new, AH.next_put, and_self, repl_one, repl_zero, AV.un, e0, e4, e5, e6, e7, hd, hz, Int.toNat_natCast, ha, h1', h2', hsub, digHd, hdg, Bool.true_and]
          · have h2' : decide ((c.toNat : Int) ≤ 57) = false := by simp; omega
            have hdg : isDig c = false := by rw [Bool.eq_false_iff]; intro q; exact h2 (isDig_iff.1 q).2
            simp only [stps_nil, stps_cons, stp_some, putR_some, gd_true, gd_false, wanted_none, wanted_some, dput_some, dput_none, ev_t, ev_c, okR_some, evOp, tget_tput, loadA_ptr, fadrA_ptr, nilckA_ptr, packA_one, packA_agg, pickA_true, pickA_false, unA_not, bin_add, bin_sub, bin_mul, bin_quo, bin_rem, bin_eql, bin_neq, bin_lss, bin_leq, bin_gtr, bin_geq, bin_band, bin_sadd, bin_seql, bin_beql, bin_agg, lenSA_str, lenLA_sl, lenLA_nils, cvIA_int, cvBSA_sl, cvBSA_nils, iadrL_sl, idxSA_str, extA_tup, storeA_ptr, ↓reduceIte, Nat.reduceEqDiff, Int.reduceEq, Option.map_some, beq_true, beq_false, Bool.not_true, Bool.not_false, Nat.zero_add, Nat.add_zero, Nat.reduceAdd, List.getElem?_cons_zero, List.getElem?_cons_succ, reduceCtorEq, true_and, and_true, List.map_cons, List.map_nil, fill, boxA, splice, cells_int, one_int, cells_bool, one_bool, cells_str, one_str, cells_ptr, one_ptr, cells_nilp, one_nilp, cells_sl, one_sl, cells_nils, one_nils, cells_mp, one_mp, cells_nilm, one_nilm, cells_fn, one_fn, cells_nilf, one_nilf, cells_ifc, one_ifc, cells_nili, one_nili, cells_agg, List.length_cons, List.length_nil, List.all_cons, List.all_nil, List.take_succ_cons, List.take_zero, List.drop_succ_cons, List.drop_zero, List.cons_append, List.nil_append, Nat.reduceLeDiff, Bool.and_true, AH.next_new, AH.next_put, and_self, repl_one, repl_zero, AV.un, e0, e4, e5, e6, e7, hd, hz, Int.toNat_natCast, ha, h1', h2', digHd, hdg, Bool.false_and]
        · have h1' : decide ((48 : Int) ≤ c.toNat) = false := by simp; omega
          have hdg : isDig c = false := by rw [Bool.eq_false_iff]; intro q; exact h1 (isDig_iff.1 q).1
          simp only [stps_nil, stps_cons, stp_some, putR_some, gd_true, gd_false, wanted_none, wanted_some, dput_some, dput_none, ev_t, ev_c, okR_some, evOp, tget_tput, loadA_ptr, fadrA_ptr, nilckA_ptr, packA_one, packA_agg, pickA_true, pickA_false, unA_not, bin_add, bin_sub, bin_mul, bin_quo, bin_rem, bin_eql, bin_neq, bin_lss, bin_leq, bin_gtr, bin_geq, bin_band, bin_sadd, bin_seql, bin_beql, bin_agg, lenSA_str, lenLA_sl, lenLA_nils, cvIA_int, cvBSA_sl, cvBSA_nils, iadrL_sl, idxSA_str, extA_tup, storeA_ptr, ↓reduceIte, Nat.reduceEqDiff, Int.reduceEq, Option.map_some, beq_true, beq_false, Bool.not_true, Bool.not_false, Nat.zero_add, Nat.add_zero, Nat.reduceAdd, List.getElem?_cons_zero, List.getElem?_cons_succ, reduceCtorEq, true_and, and_true, List.map_cons, List.map_nil, fill, boxA, splice, cells_int, one_int, cells_bool, one_bool, cells_str, one_str, cells_ptr, one_ptr, cells_nilp, one_nilp, cells_sl, one_sl, cells_nils, one_nils, cells_mp, one_mp, cells_nilm, one_nilm, cells_fn, one_fn, cells_nilf, one_nilf, cells_ifc, one_ifc, cells_nili, one_nili, cells_agg, List.length_cons, List.length_nil, List.all_cons, List.all_nil, List.take_succ_cons, List.take_zero, List.drop_succ_cons, List.drop_zero, List.cons_append, List.nil_append, Nat.reduceLeDiff, Bool.and_true, AH.next_new, AH.next_put, and_self, repl_one, repl_zero, AV.un, e0, e4, e5, e6, e7, hd, hz, Int.toNat_natCast, ha, h1', digHd, hdg, Bool.false_and]
    subst eh
    refine W.cond e35 (fun hb => ?_) (fun hb => ?_)
    · simp only [Bool.and_eq_true, decide_eq_true_eq] at hb
      obtain ⟨hb, hf0⟩ := hb
      obtain ⟨c, r', rfl⟩ : ∃ c r', r = c :: r' := by
        cases r with
        | nil => simp [digHd] at hb
        | cons c r' => exact ⟨c, r', rfl⟩
      have hdg1 : isDig c = true := hb
      have hci := isDig_iff.1 hdg1
      obtain ⟨f, rfl⟩ : ∃ f', f = f' + 1 := ⟨f - 1, by omega⟩
      have hz : (0 : Int) ≤ ((txt.length - (r'.length + 1) : Nat) : Int) := by omega
      have ha := (at_rest hr).2
      simp only [List.length_cons, List.head?_cons] at ha hrl hrl2 hrt e6
      refine W.skip (W.block (W.seq (W.runs (fun ts h10 => h10 = h9 ∧ tget ts 0 = .str txt ∧ tget ts 4 = lv ∧ tget ts 5 = .int .i64 (i : Nat) ∧ tget ts 6 = .int .i64 ((txt.length - (r'.length + 1) : Nat) : Int) ∧ tget ts 7 = .int .i64 ((10 * n + (c.toNat - 48) : Nat) : Int)) ?_ fun ts h10 ⟨eh, e0, e4, e5, e6, e7⟩ => ?_)))
      · simp only [stps_nil, stps_cons, stp_some, putR_some, gd_true, gd_false, wanted_none, wanted_some, dput_some, dput_none, ev_t, ev_c, okR_some, evOp, tget_tput, loadA_ptr, fadrA_ptr, nilckA_ptr, packA_one, packA_agg, pickA_true, pickA_false, unA_not, bin_add, bin_sub, bin_mul, bin_quo, bin_rem, bin_eql, bin_neq, bin_lss, bin_leq, bin_gtr, bin_geq, bin_band, bin_sadd, bin_seql, bin_beql, bin_agg, lenSA_str, lenLA_sl, lenLA_nils, cvIA_int, cvBSA_sl, cvBSA_nils, iadrL_sl, idxSA_str, extA_tup, storeA_ptr, ↓reduceIte, Nat.reduceEqDiff, Int.reduceEq, Option.map_some, beq_true, beq_false, Bool.not_true, Bool.not_false, Nat.zero_add, Nat.add_zero, Nat.reduceAdd, List.getElem?_cons_zero, List.getElem?_cons_succ, reduceCtorEq, true_and, and_true, List.map_cons, List.map_nil, fill, boxA, splice, cells_int, one_int, cells_bool, one_bool, cells_str, one_str, cells_ptr, one_ptr, cells_nilp, one_nilp, cells_sl, one_sl, cells_nils, one_nils, cells_mp, one_mp, cells_nilm, one_nilm, cells_fn, one_fn, cells_nilf, one_nilf, cells_ifc, one_ifc, cells_nili, one_nili, cells_agg, List.length_cons, List.length_nil, List.all_cons, List.all_nil, List.take_succ_cons, List.take_zero, List.drop_succ_cons, List.drop_zero, List.cons_append, List.nil_append, Nat.reduceLeDiff, Bool.and_true, AH.next_new, AH.next_put, and_self, repl_one, repl_zero, AV.un, e0, e4, e5, e6, e7, hz, Int.toNat_natCast, ha, byte_wrap, dig_next2 hn7 hdg1]
      subst eh
      refine W.runs (fun ts h11 => h11 = h10 ∧ tget ts 0 = .str txt ∧ tget ts 4 = lv ∧ tget ts 5 = .int .i64 (i : Nat) ∧ tget ts 6 = .int .i64 ((txt.length - r'.length : Nat) : Int) ∧ tget ts 7 = .int .i64 ((10 * n + (c.toNat - 48) : Nat) : Int)) ?_ fun ts h11 ⟨eh, e0, e4, e5, e6, e7⟩ => ?_
      · simp only [stps_nil, stps_cons, stp_some, putR_some, gd_true, gd_false, wanted_none, wanted_some, dput_some, dput_none, ev_t, ev_c, okR_some, evOp, tget_tput, loadA_ptr, fadrA_ptr, nilckA_ptr, packA_one, packA_agg, pickA_true, pickA_false, unA_not, bin_add, bin_sub, bin_mul, bin_quo, bin_rem, bin_eql, bin_neq, bin_lss, bin_leq, bin_gtr, bin_geq, bin_band, bin_sadd, bin_seql, bin_beql, bin_agg, lenSA_str, lenLA_sl, lenLA_nils, cvIA_int, cvBSA_sl, cvBSA_nils, iadrL_sl, idxSA_str, extA_tup, storeA_ptr, ↓reduceIte, Nat.reduceEqDiff, Int.reduceEq, Option.map_some, beq_true, beq_false, Bool.not_true, Bool.not_false, Nat.zero_add, Nat.add_zero, Nat.reduceAdd, List.getElem?_cons_zero, List.getElem?_cons_succ, reduceCtorEq, true_and, and_true, List.map_cons, List.map_nil, fill, boxA, splice, cells_int, one_int, cells_bool, one_bool, cells_str, one_str, cells_ptr, one_ptr, cells_nilp, one_nilp, cells_sl, one_sl, cells_nils, one_nils, cells_mp, one_mp, cells_nilm, one_nilm, cells_fn, one_fn, cells_nilf, one_nilf, cells_ifc, one_ifc, cells_nili, one_nili, cells_agg, List.length_cons, List.length_nil, List.all_cons, List.all_nil, List.take_succ_cons, List.take_zero, List.drop_succ_cons, List.drop_zero, List.cons_append, List.nil_append, Nat.reduceLeDiff, Bool.and_true, AH.next_new, AH.next_put, and_self, repl_one, repl_zero, AV.un, e0, e4, e5, e6, e7]
        rw [IntWalk.i64_in _ (by omega)]
        exact congrArg _ (by omega)
      subst eh
      refine ⟨f, by omega, rfl, by omega, _, r', suf_tail hr, by omega, by omega, ?_, ?_, e0, e4, e5, e6, e7⟩
      · have e1 : 7 - f = (7 - (f + 1)) + 1 := by omega
        rw [e1, Nat.pow_succ]
        omega
      · rw [← hdg]
        simp [dg, hdg1]
    · have hnr : dg 7 0 rest = (n, r) := by
        rw [← hdg]
        cases f with
        | zero => rfl
        | succ f =>
          cases r with
          | nil => rfl
          | cons c r' =>
            have : isDig c = false := by simpa [digHd] using hb
            simp [dg, this]
      refine W.exit ⟨fun _ => ?_, fun e => absurd rfl e⟩
      clear hdg hn e35 hb
      obtain ⟨c0, r0, rfl⟩ : ∃ c0 r0, rest = c0 :: r0 := by
        cases rest with
        | nil => simp at hdl; omega
        | cons c0 r0 => exact ⟨c0, r0, rfl⟩
      have ha0 := (at_rest hdr).2
      simp only [List.length_cons, List.head?_cons] at ha0 hdl hrl hrl2 hi
      have hz0 : (0 : Int) ≤ (i : Nat) := by omega
      rw [← hi] at ha0
      have hfu : txt.length + 1 - i = (txt.length - i) + 1 := by omega
      have hR : rn (txt.length + 1 - i) (c0 :: r0) = if r.length = r0.length + 1 ∨ 999999 < n ∨ (r.length + 1 < r0.length + 1 ∧ c0 = 48) then none else
          match r with
          | [] => some [n]
          | d :: r' => if d ≠ 32 ∨ r' = [] then none else (rn (txt.length - i) r').map (n :: ·) := by
        rw [hfu, rn, hnr]
        simp only [List.length_cons]
      have hrn := hrn _ rfl
      rw [hR] at hrn
      refine W.seq (W.seq (W.runs (fun ts h10 => h10 = h9 ∧ tget ts 0 = .str txt ∧ tget ts 4 = lv ∧ tget ts 5 = .int .i64 (i : Nat) ∧ tget ts 6 = .int .i64 ((txt.length - r.length : Nat) : Int) ∧ tget ts 7 = .int .i64 (n : Nat) ∧ tget ts 64 = .bool (decide (r.length = r0.length + 1 ∨ 999999 < n ∨ (r.length + 1 < r0.length + 1 ∧ c0 = 48)))) ?_ fun ts h10 ⟨eh, e0, e4, e5, e6, e7, e64⟩ => ?_))
      · by_cases c1 : r.length = r0.length + 1
        · have c1' : decide (((txt.length - r.length : Nat) : Int) = (i : Nat)) = true := by simp only [decide_eq_true_eq]; omega
          have hA : decide (r.length = r0.length + 1 ∨ 999999 < n ∨ (r.length + 1 < r0.length + 1 ∧ c0 = 48)) = true := by simp [c1]
          simp only [stps_nil, stps_cons, stp_some, putR_some, gd_true, gd_false, wanted_none, wanted_some, dput_some, dput_none, ev_t, ev_c, okR_some, evOp, tget_tput, loadA_ptr, fadrA_ptr, nilckA_ptr, packA_one, packA_agg, pickA_true, pickA_false, unA_not, bin_add, bin_sub, bin_mul, bin_quo, bin_rem, bin_eql, bin_neq, bin_lss, bin_leq, bin_gtr, bin_geq, bin_band, bin_sadd, bin_seql, bin_beql, bin_agg, lenSA_str, lenLA_sl, lenLA_nils, cvIA_int, cvBSA_sl, cvBSA_nils, iadrL_sl, idxSA_str, extA_tup, storeA_ptr, ↓reduceIte, Nat.reduceEqDiff, Int.reduceEq, Option.map_some, beq_true, beq_false, Bool.not_true, Bool.not_false, Nat.zero_add, Nat.add_zero, Nat.reduceAdd, List.getElem?_cons_zero, List.getElem?_cons_succ, reduceCtorEq, true_and, and_true, List.map_cons, List.map_nil, fill, boxA, splice, cells_int, one_int, cells_bool, one_bool, cells_str, one_str, cells_ptr, one_ptr, cells_nilp, one_nilp, cells_sl, one_sl, cells_nils, one_nils, cells_mp, one_mp, cells_nilm, one_nilm, cells_fn, one_fn, cells_nilf, one_nilf, cells_ifc, one_ifc, cells_nili, one_nili, cells_agg, List.length_cons, List.length_nil, List.all_cons, List.all_nil, List.take_succ_cons, List.take_zero, List.drop_succ_cons, List.drop_zero, List.cons_append, List.nil_append, Nat.reduceLeDiff, Bool.and_true, AH.next_new, AH.next_put, and_self, repl_one, repl_zero, AV.un, e0, e4, e5, e6, e7, c1', hA]
        · have c1' : decide (((txt.length - r.length : Nat) : Int) = (i : Nat)) = false := by simp only [decide_eq_false_iff_not]; omega
          by_cases c2 : 999999 < n
          · have c2' : decide ((999999 : Int) < (n : Nat)) = true := by simp; omega
            simp only [stps_nil, stps_cons, stp_some, putR_some, gd_true, gd_false, wanted_none, wanted_some, dput_some, dput_none, ev_t, ev_c, okR_some, evOp, tget_tput, loadA_ptr, fadrA_ptr, nilckA_ptr, packA_one, packA_agg, pickA_true, pickA_false, unA_not, bin_add, bin_sub, bin_mul, bin_quo, bin_rem, bin_eql, bin_neq, bin_lss, bin_leq, bin_gtr, bin_geq, bin_band, bin_sadd, bin_seql, bin_beql, bin_agg, lenSA_str, lenLA_sl, lenLA_nils, cvIA_int, cvBSA_sl, cvBSA_nils, iadrL_sl, idxSA_str, extA_tup, storeA_ptr, ↓reduceIte, Nat.reduceEqDiff, Int.reduceEq, Option.map_some, beq_true, beq_false, Bool.not_true, Bool.not_false, Nat.zero_add, Nat.add_zero, Nat.reduceAdd, List.getElem?_cons_zero, List.getElem?_cons_succ, reduceCtorEq, true_and, and_true, List.map_cons, List.map_nil, fill, boxA, splice, cells_int, one_int, cells_bool, one_bool, cells_str, one_str, cells_ptr, one_ptr, cells_nilp, one_nilp, cells_sl, one_sl, cells_nils, one_nils, cells_mp, one_mp, cells_nilm, one_nilm, cells_fn, one_fn, cells_nilf, one_nilf, cells_ifc, one_ifc, cells_nili, one_nili, cells_agg, List.length_cons, List.length_nil, List.all_cons, List.all_nil, List.take_succ_cons, List.take_zero, List.drop_succ_cons, List.drop_zero, List.cons_append, List.nil_append, Nat.reduceLeDiff, Bool.and_true, AH.next_new, AH.next_put, and_self, repl_one, repl_zero, AV.un, e0, e4, e5, e6, e7, c1', c2', c1, c2, true_or, or_true, decide_true]
          · have c2' : decide ((999999 : Int) < (n : Nat)) = false := by simp; omega
            have hw : IntKind.i64.wrap (((txt.length - r.length : Nat) : Int) - (i : Nat)) = ((txt.length - r.length - i : Nat) : Int) := by
              rw [IntWalk.i64_in _ (by omega)]; omega
            by_cases c3 : r.length + 1 < r0.length + 1
            · have c3' : decide ((1 : Int) < ((txt.length - r.length - i : Nat) : Int)) = true := by simp; omega
              have c4 : decide (((c0.toNat : Nat) : Int) = 48) = decide (c0 = 48) := byte_eq' c0 48
              simp only [stps_nil, stps_cons, stp_some, putR_some, gd_true, gd_false, wanted_none, wanted_some, dput_some, dput_none, ev_t, ev_c, okR_some, evOp, tget_tput, loadA_ptr, fadrA_ptr, nilckA_ptr, packA_one, packA_agg, pickA_true, pickA_false, unA_not, bin_add, bin_sub, bin_mul, bin_quo, bin_rem, bin_eql, bin_neq, bin_lss, bin_leq, bin_gtr, bin_geq, bin_band, bin_sadd, bin_seql, bin_beql, bin_agg, lenSA_str, lenLA_sl, lenLA_nils, cvIA_int, cvBSA_sl, cvBSA_nils, iadrL_sl, idxSA_str, extA_tup, storeA_ptr, ↓reduceIte, Nat.reduceEqDiff, Int.reduceEq, Option.map_some, beq_true, beq_false, Bool.not_true, Bool.not_false, Nat.zero_add, Nat.add_zero, Nat.reduceAdd, List.getElem?_cons_zero, List.getElem?_cons_succ, reduceCtorEq, true_and, and_true, List.map_cons, List.map_nil, fill, boxA, splice, cells_int, one_int, cells_bool, one_bool, cells_str, one_str, cells_ptr, one_ptr, cells_nilp, one_nilp, cells_sl, one_sl, cells_nils, one_nils, cells_mp, one_mp, cells_nilm, one_nilm, cells_fn, one_fn, cells_nilf, one_nilf, cells_ifc, one_ifc, cells_nili, one_nili, cells_agg, List.length_cons, List.length_nil, List.all_cons, List.all_nil, List.take_succ_cons, List.take_zero, List.drop_succ_cons, List.drop_zero, List.cons_append, List.nil_append, Nat.reduceLeDiff, Bool.and_true, AH.next_new, AH.next_put, and_self, repl_one, repl_zero, AV.un, e0, e4, e5, e6, e7, c1', c2', hw, c3', hz0, Int.toNat_natCast, ha0, c4, c1, c2, c3, false_or, true_and]
            · have c3' : decide ((1 : Int) < ((txt.length - r.length - i : Nat) : Int)) = false := by simp; omega
              simp only [stps_nil, stps_cons, stp_some, putR_some, gd_true, gd_false, wanted_none, wanted_some, dput_some, dput_none, ev_t, ev_c, okR_some, evOp, tget_tput, loadA_ptr, fadrA_ptr, nilckA_ptr, packA_one, packA_agg, pickA_true, pickA_false, unA_not, bin_add, bin_sub, bin_mul, bin_quo, bin_rem, bin_eql, bin_neq, bin_lss, bin_leq, bin_gtr, bin_geq, bin_band, bin_sadd, bin_seql, bin_beql, bin_agg, lenSA_str, lenLA_sl, lenLA_nils, cvIA_int, cvBSA_sl, cvBSA_nils, iadrL_sl, idxSA_str, extA_tup, storeA_ptr, ↓reduceIte, Nat.reduceEqDiff, Int.reduceEq, Option.map_some, beq_true, beq_false, Bool.not_true, Bool.not_false, Nat.zero_add, Nat.add_zero, Nat.reduceAdd, List.getElem?_cons_zero, List.getElem?_cons_succ, reduceCtorEq, true_and, and_true, List.map_cons, List.map_nil, fill, boxA, splice, cells_int, one_int, cells_bool, one_bool, cells_str, one_str, cells_ptr, one_ptr, cells_nilp, one_nilp, cells_sl, one_sl, cells_nils, one_nils, cells_mp, one_mp, cells_nilm, one_nilm, cells_fn, one_fn, cells_nilf, one_nilf, cells_ifc, one_ifc, cells_nili, one_nili, cells_agg, List.length_cons, List.length_nil, List.all_cons, List.all_nil, List.take_succ_cons, List.take_zero, List.drop_succ_cons, List.drop_zero, List.cons_append, List.nil_append, Nat.reduceLeDiff, Bool.and_true, AH.next_new, AH.next_put, and_self, repl_one, repl_zero, AV.un, e0, e4, e5, e6, e7, c1', c2', hw, c3', c1, c2, c3, false_or, false_and, decide_false]
      subst eh
      refine W.cond e64 (fun hb => ?_) (fun hb => ?_)
      · rw [if_pos (of_decide_eq_true hb)] at hrn
        rw [hrn]
        refine W.seq (W.runs (fun ts h11 => h11 = h10 ∧ tget ts 2 = .nils ∧ tget ts 3 = .bool false) ?_ fun ts h11 ⟨eh, e2, e3⟩ => W.ret ?_)
        · simp only [stps_nil, stps_cons, stp_some, putR_some, gd_true, gd_false, wanted_none, wanted_some, dput_some, dput_none, ev_t, ev_c, okR_some, evOp, tget_tput, loadA_ptr, fadrA_ptr, nilckA_ptr, packA_one, packA_agg, pickA_true, pickA_false, unA_not, bin_add, bin_sub, bin_mul, bin_quo, bin_rem, bin_eql, bin_neq, bin_lss, bin_leq, bin_gtr, bin_geq, bin_band, bin_sadd, bin_seql, bin_beql, bin_agg, lenSA_str, lenLA_sl, lenLA_nils, cvIA_int, cvBSA_sl, cvBSA_nils, iadrL_sl, idxSA_str, extA_tup, storeA_ptr, ↓reduceIte, Nat.reduceEqDiff, Int.reduceEq, Option.map_some, beq_true, beq_false, Bool.not_true, Bool.not_false, Nat.zero_add, Nat.add_zero, Nat.reduceAdd, List.getElem?_cons_zero, List.getElem?_cons_succ, reduceCtorEq, true_and, and_true, List.map_cons, List.map_nil, fill, boxA, splice, cells_int, one_int, cells_bool, one_bool, cells_str, one_str, cells_ptr, one_ptr, cells_nilp, one_nilp, cells_sl, one_sl, cells_nils, one_nils, cells_mp, one_mp, cells_nilm, one_nilm, cells_fn, one_fn, cells_nilf, one_nilf, cells_ifc, one_ifc, cells_nili, one_nili, cells_agg, List.length_cons, List.length_nil, List.all_cons, List.all_nil, List.take_succ_cons, List.take_zero, List.drop_succ_cons, List.drop_zero, List.cons_append, List.nil_append, Nat.reduceLeDiff, Bool.and_true, AH.next_new, AH.next_put, and_self, repl_one, repl_zero, AV.un]
        subst eh
        exact ⟨.tup [.nils, .bool false], by simp only [Am.results, rdAll, rdRes, e2, e3, rf11], .nils, rfl, .inl ⟨rfl, rfl⟩, ex⟩
      have hb := of_decide_eq_false hb
      rw [if_neg hb] at hrn
      refine W.skip (W.seq (W.runs (fun ts h11 => ∃ lv', tget ts 0 = .str txt ∧ tget ts 4 = lv' ∧ tget ts 5 = .int .i64 (i : Nat) ∧ tget ts 6 = .int .i64 ((txt.length - r.length : Nat) : Int) ∧ IsSl h11 1 h1.next lv' (ints (ns ++ [n])) ∧ Ext h1.next h1 h11) ?_ fun ts h11 ⟨lv', e0, e4, e5, e6, sl, ex⟩ => ?_))
      · obtain ⟨lv', h11, p1, p2, p3, p4⟩ := sl.push (bytes := 8) [.int .i64 (n : Nat)] ex.1 (by omega) rfl rfl (by simp only [ints, List.length_map]; unfold tooMany; omega) (by simp only [ints, List.length_map]; unfold tooMany; omega)
        simp only [stps_nil, stps_cons, stp_some, putR_some, gd_true, gd_false, wanted_none, wanted_some, dput_some, dput_none, ev_t, ev_c, okR_some, evOp, tget_tput, loadA_ptr, fadrA_ptr, nilckA_ptr, packA_one, packA_agg, pickA_true, pickA_false, unA_not, bin_add, bin_sub, bin_mul, bin_quo, bin_rem, bin_eql, bin_neq, bin_lss, bin_leq, bin_gtr, bin_geq, bin_band, bin_sadd, bin_seql, bin_beql, bin_agg, lenSA_str, lenLA_sl, lenLA_nils, cvIA_int, cvBSA_sl, cvBSA_nils, iadrL_sl, idxSA_str, extA_tup, storeA_ptr, ↓reduceIte, Nat.reduceEqDiff, Int.reduceEq, Option.map_some, beq_true, beq_false, Bool.not_true, Bool.not_false, Nat.zero_add, Nat.add_zero, Nat.reduceAdd, List.getElem?_cons_zero, List.getElem?_cons_succ, reduceCtorEq, true_and, and_true, List.map_cons, List.map_nil, fill, boxA, splice, cells_int, one_int, cells_bool, one_bool, cells_str, one_str, cells_ptr, one_ptr, cells_nilp, one_nilp, cells_sl, one_sl, cells_nils, one_nils, cells_mp, one_mp, cells_nilm, one_nilm, cells_fn, one_fn, cells_nilf, one_nilf, cells_ifc, one_ifc, cells_nili, one_nili, cells_agg, List.length_cons, List.length_nil, List.all_cons, List.all_nil, List.take_succ_cons, List.take_zero, List.drop_succ_cons, List.drop_zero, List.cons_append, List.nil_append, Nat.reduceLeDiff, Bool.and_true, AH.next_new, AH.next_put, and_self, repl_one, repl_zero, AV.un, e0, e4, e5, e6, e7, p1]
        exact ⟨lv', rfl, by simpa [ints] using p2, ex.trans p3⟩
      refine W.seq (W.seq (W.runs (fun ts h12 => h12 = h11 ∧ tget ts 0 = .str txt ∧ tget ts 4 = lv' ∧ tget ts 5 = .int .i64 (i : Nat) ∧ tget ts 6 = .int .i64 ((txt.length - r.length : Nat) : Int) ∧ tget ts 85 = .bool (sepBad r)) ?_ fun ts h12 ⟨eh, e0, e4, e5, e6, e85⟩ => ?_))
      · cases r with
        | nil =>
          have hd : decide (((txt.length - 0 : Nat) : Int) < txt.length) = false := by simp
          simp only [List.length_nil] at e6
          simp only [stps_nil, stps_cons, stp_some, putR_some, gd_true, gd_false, wanted_none, wanted_some, dput_some, dput_none, ev_t, ev_c, okR_some, evOp, tget_tput, loadA_ptr, fadrA_ptr, nilckA_ptr, packA_one, packA_agg, pickA_true, pickA_false, unA_not, bin_add, bin_sub, bin_mul, bin_quo, bin_rem, bin_eql, bin_neq, bin_lss, bin_leq, bin_gtr, bin_geq, bin_band, bin_sadd, bin_seql, bin_beql, bin_agg, lenSA_str, lenLA_sl, lenLA_nils, cvIA_int, cvBSA_sl, cvBSA_nils, iadrL_sl, idxSA_str, extA_tup, storeA_ptr, ↓reduceIte, Nat.reduceEqDiff, Int.reduceEq, Option.map_some, beq_true, beq_false, Bool.not_true, Bool.not_false, Nat.zero_add, Nat.add_zero, Nat.reduceAdd, List.getElem?_cons_zero, List.getElem?_cons_succ, reduceCtorEq, true_and, and_true, List.map_cons, List.map_nil, fill, boxA, splice, cells_int, one_int, cells_bool, one_bool, cells_str, one_str, cells_ptr, one_ptr, cells_nilp, one_nilp, cells_sl, one_sl, cells_nils, one_nils, cells_mp, one_mp, cells_nilm, one_nilm, cells_fn, one_fn, cells_nilf, one_nilf, cells_ifc, one_ifc, cells_nili, one_nili, cells_agg, List.length_cons, List.length_nil, List.all_cons, List.all_nil, List.take_succ_cons, List.take_zero, List.drop_succ_cons, List.drop_zero, List.cons_append, List.nil_append, Nat.reduceLeDiff, Bool.and_true, AH.next_new, AH.next_put, and_self, repl_one, repl_zero, AV.un, e0, e4, e5, e6, hd, sepBad]
        | cons d r' =>
          have hz : (0 : Int) ≤ ((txt.length - (r'.length + 1) : Nat) : Int) := by omega
          have ha := (at_rest hr).2
          simp only [List.length_cons, List.head?_cons] at ha hrt e6
          have hd : decide (((txt.length - (r'.length + 1) : Nat) : Int) < txt.length) = true := by simp; omega
          have hw : IntKind.i64.wrap (((txt.length - (r'.length + 1) : Nat) : Int) + 1) = ((txt.length - r'.length : Nat) : Int) := by
            rw [IntWalk.i64_in _ (by omega)]; omega
          have c4 : decide (((d.toNat : Nat) : Int) = 32) = decide (d = 32) := byte_eq' d 32
          have c5 : decide (((txt.length - r'.length : Nat) : Int) = (txt.length : Nat)) = decide (r' = []) := by
            simp only [decide_eq_decide]
            constructor
            · intro q
              exact List.length_eq_zero_iff.1 (by omega)
            · rintro rfl
              simp
          by_cases c6 : d = 32
          · have hA : decide (d ≠ 32 ∨ r' = []) = decide (r' = []) := by simp [c6]
            have c4' : decide (((d.toNat : Nat) : Int) = 32) = true := by rw [c4]; simp [c6]
            simp only [stps_nil, stps_cons, stp_some, putR_some, gd_true, gd_false, wanted_none, wanted_some, dput_some, dput_none, ev_t, ev_c, okR_some, evOp, tget_tput, loadA_ptr, fadrA_ptr, nilckA_ptr, packA_one, packA_agg, pickA_true, pickA_false, unA_not, bin_add, bin_sub, bin_mul, bin_quo, bin_rem, bin_eql, bin_neq, bin_lss, bin_leq, bin_gtr, bin_geq, bin_band, bin_sadd, bin_seql, bin_beql, bin_agg, lenSA_str, lenLA_sl, lenLA_nils, cvIA_int, cvBSA_sl, cvBSA_nils, iadrL_sl, idxSA_str, extA_tup, storeA_ptr, ↓reduceIte, Nat.reduceEqDiff, Int.reduceEq, Option.map_some, beq_true, beq_false, Bool.not_true, Bool.not_false, Nat.zero_add, Nat.add_zero, Nat.reduceAdd, List.getElem?_cons_zero, List.getElem?_cons_succ, reduceCtorEq, true_and, and_true, List.map_cons, List.map_nil, fill, boxA, splice, cells_int, one_int, cells_bool, one_bool, cells_str, one_str, cells_ptr, one_ptr, cells_nilp, one_nilp, cells_sl, one_sl, cells_nils, one_nils, cells_mp, one_mp, cells_nilm, one_nilm, cells_fn, one_fn, cells_nilf, one_nilf, cells_ifc, one_ifc, cells_nili, one_nili, cells_agg, List.length_cons, List.length_nil, List.all_cons, List.all_nil, List.take_succ_cons, List.take_zero, List.drop_succ_cons, List.drop_zero, List.cons_append, List.nil_append, Nat.reduceLeDiff, Bool.and_true, AH.next_new, AH.next_put, and_self, repl_one, repl_zero, AV.un, e0, e4, e5, e6, hd, hz, Int.toNat_natCast, ha, c4', hw, c5, sepBad, hA]
          · simp only [stps_nil, stps_cons, stp_some, putR_some, gd_true, gd_false, wanted_none, wanted_some, dput_some, dput_none, ev_t, ev_c, okR_some, evOp, tget_tput, loadA_ptr, fadrA_ptr, nilckA_ptr, packA_one, packA_agg, pickA_true, pickA_false, unA_not, bin_add, bin_sub, bin_mul, bin_quo, bin_rem, bin_eql, bin_neq, bin_lss, bin_leq, bin_gtr, bin_geq, bin_band, bin_sadd, bin_seql, bin_beql, bin_agg, lenSA_str, lenLA_sl, lenLA_nils, cvIA_int, cvBSA_sl, cvBSA_nils, iadrL_sl, idxSA_str, extA_tup, storeA_ptr, ↓reduceIte, Nat.reduceEqDiff, Int.reduceEq, Option.map_some, beq_true, beq_false, Bool.not_true, Bool.not_false, Nat.zero_add, Nat.add_zero, Nat.reduceAdd, List.getElem?_cons_zero, List.getElem?_cons_succ, reduceCtorEq, true_and, and_true, List.map_cons, List.map_nil, fill, boxA, splice, cells_int, one_int, cells_bool, one_bool, cells_str, one_str, cells_ptr, one_ptr, cells_nilp, one_nilp, cells_sl, one_sl, cells_nils, one_nils, cells_mp, one_mp, cells_nilm, one_nilm, cells_fn, one_fn, cells_nilf, one_nilf, cells_ifc, one_ifc, cells_nili, one_nili, cells_agg, List.length_cons, List.length_nil, List.all_cons, List.all_nil, List.take_succ_cons, List.take_zero, List.drop_succ_cons, List.drop_zero, List.cons_append, List.nil_append, Nat.reduceLeDiff, Bool.and_true, AH.next_new, AH.next_put, and_self, repl_one, repl_zero, AV.un, e0, e4, e5, e6, hd, hz, Int.toNat_natCast, ha, c4, sepBad, c6, decide_false, ne_eq, not_false_eq_true, true_or, decide_true]
      subst eh
      refine W.cond e85 (fun hb2 => ?_) (fun hb2 => ?_)
      · obtain ⟨d, r', rfl, hb3⟩ : ∃ d r', r = d :: r' ∧ (d ≠ 32 ∨ r' = []) := by
          cases r with
          | nil => cases hb2
          | cons d r' => exact ⟨d, r', rfl, of_decide_eq_true hb2⟩
        have hrn2 : rn (txt.length + 1) txt = none := by
          rw [hrn]
          show Option.map _ (if _ then _ else _) = none
          rw [if_pos hb3]
          rfl
        rw [hrn2]
        refine W.seq (W.runs (fun ts h13 => h13 = h12 ∧ tget ts 2 = .nils ∧ tget ts 3 = .bool false) ?_ fun ts h13 ⟨eh, e2, e3⟩ => W.ret ?_)
        · simp only [stps_nil, stps_cons, stp_some, putR_some, gd_true, gd_false, wanted_none, wanted_some, dput_some, dput_none, ev_t, ev_c, okR_some, evOp, tget_tput, loadA_ptr, fadrA_ptr, nilckA_ptr, packA_one, packA_agg, pickA_true, pickA_false, unA_not, bin_add, bin_sub, bin_mul, bin_quo, bin_rem, bin_eql, bin_neq, bin_lss, bin_leq, bin_gtr, bin_geq, bin_band, bin_sadd, bin_seql, bin_beql, bin_agg, lenSA_str, lenLA_sl, lenLA_nils, cvIA_int, cvBSA_sl, cvBSA_nils, iadrL_sl, idxSA_str, extA_tup, storeA_ptr, ↓reduceIte, Nat.reduceEqDiff, Int.reduceEq, Option.map_some, beq_true, beq_false, Bool.not_true, Bool.not_false, Nat.zero_add, Nat.add_zero, Nat.reduceAdd, List.getElem?_cons_zero, List.getElem?_cons_succ, reduceCtorEq, true_and, and_true, List.map_cons, List.map_nil, fill, boxA, splice, cells_int, one_int, cells_bool, one_bool, cells_str, one_str, cells_ptr, one_ptr, cells_nilp, one_nilp, cells_sl, one_sl, cells_nils, one_nils, cells_mp, one_mp, cells_nilm, one_nilm, cells_fn, one_fn, cells_nilf, one_nilf, cells_ifc, one_ifc, cells_nili, one_nili, cells_agg, List.length_cons, List.length_nil, List.all_cons, List.all_nil, List.take_succ_cons, List.take_zero, List.drop_succ_cons, List.drop_zero, List.cons_append, List.nil_append, Nat.reduceLeDiff, Bool.and_true, AH.next_new, AH.next_put, and_self, repl_one, repl_zero, AV.un]
        subst eh
        exact ⟨.tup [.nils, .bool false], by simp only [Am.results, rdAll, rdRes, e2, e3, rf11], .nils, rfl, .inl ⟨rfl, rfl⟩, ex⟩
      · refine W.skip (W.runs (fun ts h13 => h13 = h12 ∧ tget ts 0 = .str txt ∧ tget ts 4 = lv' ∧ tget ts 5 = .int .i64 ((txt.length - r.length + 1 : Nat) : Int)) ?_ fun ts h13 ⟨eh, e0, e4, e5⟩ => ?_)
        · simp only [stps_nil, stps_cons, stp_some, putR_some, gd_true, gd_false, wanted_none, wanted_some, dput_some, dput_none, ev_t, ev_c, okR_some, evOp, tget_tput, loadA_ptr, fadrA_ptr, nilckA_ptr, packA_one, packA_agg, pickA_true, pickA_false, unA_not, bin_add, bin_sub, bin_mul, bin_quo, bin_rem, bin_eql, bin_neq, bin_lss, bin_leq, bin_gtr, bin_geq, bin_band, bin_sadd, bin_seql, bin_beql, bin_agg, lenSA_str, lenLA_sl, lenLA_nils, cvIA_int, cvBSA_sl, cvBSA_nils, iadrL_sl, idxSA_str, extA_tup, storeA_ptr, ↓reduceIte, Nat.reduceEqDiff, Int.reduceEq, Option.map_some, beq_true, beq_false, Bool.not_true, Bool.not_false, Nat.zero_add, Nat.add_zero, Nat.reduceAdd, List.getElem?_cons_zero, List.getElem?_cons_succ, reduceCtorEq, true_and, and_true, List.map_cons, List.map_nil, fill, boxA, splice, cells_int, one_int, cells_bool, one_bool, cells_str, one_str, cells_ptr, one_ptr, cells_nilp, one_nilp, cells_sl, one_sl, cells_nils, one_nils, cells_mp, one_mp, cells_nilm, one_nilm, cells_fn, one_fn, cells_nilf, one_nilf, cells_ifc, one_ifc, cells_nili, one_nili, cells_agg, List.length_cons, List.length_nil, List.all_cons, List.all_nil, List.take_succ_cons, List.take_zero, List.drop_succ_cons, List.drop_zero, List.cons_append, List.nil_append, Nat.reduceLeDiff, Bool.and_true, AH.next_new, AH.next_put, and_self, repl_one, repl_zero, AV.un, e0, e4, e6]
          rw [IntWalk.i64_in _ (by omega)]
          rfl
        subst eh
        refine ⟨m - (txt.length - r.length + 1 - i), by omega, txt.length - r.length + 1, ns ++ [n], lv', by omega, by simp; omega, fun y hy => ?_, e0, e4, e5, sl, ex⟩
        cases r with
        | nil =>
          rw [hrn, hy]
          simp [List.length_nil, rn]
        | cons d r' =>
          have hb3 : ¬ (d ≠ 32 ∨ r' = []) := of_decide_eq_false hb2
          have hrn2 : rn (txt.length + 1) txt = Option.map (ns ++ ·) ((rn (txt.length - i) r').map (n :: ·)) := by
            rw [hrn]
            show Option.map _ (if _ then _ else _) = _
            rw [if_neg hb3]
          rw [hrn2, hy]
          have e1 : rn (txt.length - i) r' = rn (txt.length + 1 - (txt.length - (d :: r').length + 1)) r' := by
            simp only [List.length_cons] at hrl2 hrt ⊢
            exact rn_fuel _ _ _ (by omega) (by omega)
          have e2 : txt.drop (txt.length - (d :: r').length + 1) = r' := by
            obtain ⟨pre, hpre⟩ := hr
            rw [← hpre]
            have : (pre ++ d :: r').length - (d :: r').length + 1 = (pre ++ [d]).length := by simp
            rw [this]
            have e3 : pre ++ d :: r' = (pre ++ [d]) ++ r' := by simp
            rw [e3, List.drop_left]
          rw [e2, ← e1]
          cases rn (txt.length - i) r' <;> simp
  · have hq := of_decide_eq_false hq
    have hrn := hrn _ rfl
    rw [List.drop_eq_nil_of_le (by omega)] at hrn
    have e1 : rn (txt.length + 1 - i) [] = some [] := by
      cases txt.length + 1 - i <;> rfl
    rw [e1] at hrn
    simp only [Option.map_some, List.append_nil] at hrn
    rw [hrn]
    refine W.exit ⟨fun _ => ?_, fun e => absurd rfl e⟩
    refine W.seq (W.runs (fun ts h6 => h6 = h5 ∧ tget ts 2 = lv ∧ tget ts 3 = .bool true) ?_ fun ts h6 ⟨eh, e2, e3⟩ => W.ret ?_)
    · simp only [stps_nil, stps_cons, stp_some, putR_some, gd_true, gd_false, wanted_none, wanted_some, dput_some, dput_none, ev_t, ev_c, okR_some, evOp, tget_tput, loadA_ptr, fadrA_ptr, nilckA_ptr, packA_one, packA_agg, pickA_true, pickA_false, unA_not, bin_add, bin_sub, bin_mul, bin_quo, bin_rem, bin_eql, bin_neq, bin_lss, bin_leq, bin_gtr, bin_geq, bin_band, bin_sadd, bin_seql, bin_beql, bin_agg, lenSA_str, lenLA_sl, lenLA_nils, cvIA_int, cvBSA_sl, cvBSA_nils, iadrL_sl, idxSA_str, extA_tup, storeA_ptr, ↓reduceIte, Nat.reduceEqDiff, Int.reduceEq, Option.map_some, beq_true, beq_false, Bool.not_true, Bool.not_false, Nat.zero_add, Nat.add_zero, Nat.reduceAdd, List.getElem?_cons_zero, List.getElem?_cons_succ, reduceCtorEq, true_and, and_true, List.map_cons, List.map_nil, fill, boxA, splice, cells_int, one_int, cells_bool, one_bool, cells_str, one_str, cells_ptr, one_ptr, cells_nilp, one_nilp, cells_sl, one_sl, cells_nils, one_nils, cells_mp, one_mp, cells_nilm, one_nilm, cells_fn, one_fn, cells_nilf, one_nilf, cells_ifc, one_ifc, cells_nili, one_nili, cells_agg, List.length_cons, List.length_nil, List.all_cons, List.all_nil, List.take_succ_cons, List.take_zero, List.drop_succ_cons, List.drop_zero, List.cons_append, List.nil_append, Nat.reduceLeDiff, Bool.and_true, AH.next_new, AH.next_put, and_self, repl_one, repl_zero, AV.un, e4]
    subst eh
    exact ⟨.tup [lv, .bool true], by simp only [Am.results, rdAll, rdRes, e2, e3, rf11], lv, rfl, sl, ex⟩

end Go.Proofs.Ytloklfmgbolpeaa
