/-
  strings.Join.
-/
import Derived.Test.YtloklfmgbolpeaaDoorGrow
namespace Go.Proofs.YtloklfmgbolpeaaDoor
set_option linter.unusedVariables false
set_option linter.unusedSimpArgs false
open Go.Am

theorem Bld.ext {lo lo' : Nat} {h h' : AH} {s : Nat} {bs : List UInt8} (hb : Bld lo h s bs) (hx : Ext lo' h h') (hl : h.next ≤ lo') : Bld lo h' s bs := by
  obtain ⟨h1, h2, a, buf, h3, h4, h5⟩ := hb
  have := AH.lt_of_get h4
  refine ⟨h1, by rw [hx.ty _ (by omega)]; exact h2, a, buf, h3, by rw [hx.2 _ (by omega)]; exact h4, ?_⟩
  rcases h5 with h5 | ⟨b, cap, cs, k1, k2, k3, k4, k5, k6⟩
  · exact .inl h5
  · have := AH.lt_of_get k5
    exact .inr ⟨b, cap, cs, k1, k2, k3, by rw [hx.ty _ (by omega)]; exact k4, by rw [hx.2 _ (by omega)]; exact k5, k6⟩

theorem Grow_ok {lo : Nat} {h : AH} {s n : Nat} (hlo : lo ≤ h.next) (hs1 : lo ≤ s) (hs2 : h.tyOf s = some 41) (hg : h.get s = some (.cells [.nilp, .nils] 2 false)) (hn : n < 2 ^ 36) (h0 : 0 < n) : C prg 25 [.ptr s 0, .int .i64 (n : Nat)] h fun v h' => v = .tup [] ∧ Bld lo h' s [] ∧ Ext lo h h' := by
  have hlt := AH.lt_of_get hg
  refine C.func pf25 ?_
  refine W.seq (W.calls (fun ts h1 => h1 = h.put s (.cells [.ptr s 0, .nils] 2 false) ∧ tget ts 0 = .ptr s 0 ∧ tget ts 1 = .int .i64 (n : Nat)) ?_ fun ts h1 ⟨eh, e0, e1⟩ => ?_)
  · refine G.op ?_
    simp only [ckR_nil, evN_none, stp_some, putR_some, gd_true, wanted_none, dput_some, ev_t, evOp, tget_tput, ↓reduceIte, Nat.zero_add, initTm]
    refine G.call ?_
    simp only [dput_some, ev_t, tget_tput, ↓reduceIte, List.map_cons, List.map_nil]
    refine (copyCheck_new hs2 hg).mono fun v h' ⟨ev, eh⟩ => ?_
    subst ev eh
    refine G.done ?_
    simp only [tget_tput, ↓reduceIte, Nat.reduceEqDiff, reduceCtorEq, and_self]
  have c1 : decide (((n : Nat) : Int) < 0) = false := by simp
  refine W.seq (W.seq (W.runs (fun ts h2 => h2 = h1 ∧ tget ts 0 = .ptr s 0 ∧ tget ts 1 = .int .i64 (n : Nat) ∧ tget ts 7 = .bool false) ?_ fun ts h2 ⟨eh, e0, e1, e7⟩ => W.no e7 (W.skip ?_)))
  · simp only [ckR_nil, evN_none, stps_nil, stps_cons, stp_some, putR_some, gd_true, wanted_none, dput_some, ev_t, ev_c, okR_some, evOp, tget_tput, bin_lss, ↓reduceIte, Nat.reduceEqDiff, Option.map_some, reduceCtorEq, and_self, e0, e1, c1]
  subst eh
  have hg1 : h2.get s = some (.cells [.ptr s 0, .nils] 2 false) := by rw [eh, AH.get_put _ _ _ _ hlt, if_pos rfl]
  have hn1 : h2.next = h.next := by rw [eh, AH.next_put]
  have ht1 : h2.tyOf s = some 41 := by rw [eh]; exact (AH.tyOf_put ..).trans hs2
  have hx : Ext lo h h2 := by rw [eh]; exact Ext.put hs1
  clear eh
  have r1 : rdCells h2 s 1 1 = some [.nils] := by simp [rdCells, hg1]
  have hz : IntKind.i64.wrap (0 - 0) = 0 := by decide
  have c2 : decide ((0 : Int) < (n : Nat)) = true := by simp; omega
  refine W.seq (W.runs (fun ts h3 => h3 = h2 ∧ tget ts 0 = .ptr s 0 ∧ tget ts 1 = .int .i64 (n : Nat) ∧ tget ts 21 = .bool true) ?_ fun ts h3 ⟨eh, e0, e1, e21⟩ => W.yes e21 ?_)
  · simp only [ckR_nil, evN_none, stps_nil, stps_cons, stp_some, putR_some, gd_true, wanted_none, dput_some, ev_t, okR_some, evOp, tget_tput, loadA_ptr, fadrA_ptr, nilckA_ptr, packA_one, bin_sub, bin_lss, lenLA_nils, ↓reduceIte, Nat.reduceEqDiff, Option.map_some, Nat.zero_add, reduceCtorEq, and_self, e0, e1, r1, capA_nils, hz, c2]
  subst eh
  refine W.calls (fun ts h4 => Bld lo h4 s [] ∧ Ext lo h3 h4) ?_ fun ts h4 ⟨q1, q2⟩ => ⟨_, by simp only [Am.results, rdAll, rf25], rfl, q1, hx.trans q2⟩
  refine G.op ?_
  refine G.op ?_
  simp only [ckR_nil, evN_none, stp_some, putR_some, gd_true, wanted_none, dput_some, ev_t, evOp, tget_tput, ↓reduceIte, Nat.reduceEqDiff, e0, e1]
  refine G.call ?_
  simp only [dput_some, ev_t, tget_tput, ↓reduceIte, Nat.reduceEqDiff, List.map_cons, List.map_nil]
  refine (grow_ok (lo := lo) (by omega) hs1 ht1 hg1 hn).mono fun v h' ⟨ev, q1, q2⟩ => ?_
  subst ev
  exact G.done ⟨q1, q2⟩

/-- texts, with another one between each two -/
def jn (sep : List UInt8) : List (List UInt8) → List UInt8
  | [] => []
  | p :: r => p ++ r.flatMap fun x => sep ++ x

theorem str_at {h : AH} {b n : Nat} {ps : List (List UInt8)} {i : Nat} {x : List UInt8} (hg : h.get b = some (.cells (ps.map .str) 1 false)) (hi : ps[i]? = some x) (hn : n = ps.length) : rdCells h b (i * 1) 1 = some [.str x] ∧ idx? (i : Nat) n = some i := by
  have hil : i < ps.length := (List.getElem?_eq_some_iff.1 hi).1
  have e := (List.getElem?_eq_some_iff.1 hi).2
  refine ⟨?_, ?_⟩
  · rw [rdCells_of hg, if_pos (by simp; omega)]
    have : ((ps.map AV.str).drop (i * 1)).take 1 = [AV.str x] := by
      have h2 : i < (ps.map AV.str).length := by simpa using hil
      rw [Nat.mul_one, List.drop_eq_getElem_cons h2]
      simp [e]
    rw [this]
  · unfold idx?
    have c : (0 : Int) ≤ (i : Nat) ∧ ((i : Nat) : Int) < (n : Nat) := by omega
    simp only [c, and_self, if_true, Int.toNat_natCast]

/-- the lengths of the first i -/
def sl (ps : List (List UInt8)) : Nat := (ps.map List.length).sum

theorem sl_take {ps : List (List UInt8)} {i : Nat} {x : List UInt8} (hi : ps[i]? = some x) : sl (ps.take (i + 1)) = sl (ps.take i) + x.length := by
  unfold sl
  rw [List.take_add_one, hi]
  simp

theorem sl_le (ps : List (List UInt8)) (i : Nat) : sl (ps.take i) ≤ sl ps := by
  unfold sl
  conv => rhs; rw [← List.take_append_drop i ps]
  rw [List.map_append, List.sum_append]
  omega

theorem jn_len (sep : List UInt8) (p : List UInt8) (r : List (List UInt8)) : (jn sep (p :: r)).length = sl (p :: r) + sep.length * r.length := by
  simp only [jn, sl, List.length_append, List.map_cons, List.sum_cons]
  induction r with
  | nil => simp
  | cons x r ih => simp only [List.flatMap_cons, List.length_append, List.map_cons, List.sum_cons, List.length_cons, Nat.mul_add] at ih ⊢; omega

theorem jn_take {sep p : List UInt8} {r : List (List UInt8)} {i : Nat} {x : List UInt8} (hi : r[i]? = some x) : jn sep (p :: r.take (i + 1)) = jn sep (p :: r.take i) ++ sep ++ x := by
  simp only [jn]
  rw [List.take_add_one, hi]
  simp

theorem jn_le {sep p : List UInt8} {r : List (List UInt8)} {i : Nat} : (jn sep (p :: r.take i)).length ≤ (jn sep (p :: r)).length := by
  simp only [jn, List.length_append]
  conv => rhs; rw [← List.take_append_drop i r]
  rw [List.flatMap_append, List.length_append]
  omega

theorem Join_ok {h : AH} {b n : Nat} {sep p : List UInt8} {r : List (List UInt8)} (hg : h.get b = some (.cells ((p :: r).map .str) 1 false)) (hn : n = (p :: r).length) (hr : 0 < r.length) (hrl : r.length < 2 ^ 20) (hs0 : 0 < sep.length) (hsl : sep.length < 2 ^ 20) (htot : (jn sep (p :: r)).length < 2 ^ 36) :
    C prg 20 [.sl b 0 n n, .str sep] h fun v h' => v = .str (jn sep (p :: r)) ∧ Ext h.next h h' := by
  have hlt := AH.lt_of_get hg
  have hjl := jn_len sep p r
  have hsl2 : sl (p :: r) < 2 ^ 36 := by omega
  have hn1 : n = r.length + 1 := by simpa using hn
  refine C.func pf20 ?_
  refine W.seq (W.runs (fun ts h1 => h1 = h ∧ tget ts 0 = .sl b 0 n n ∧ tget ts 1 = .str sep) ?_ fun ts h1 ⟨eh, e0, e1⟩ => ?_)
  · simp only [ckR_nil, evN_none, stps_nil, stps_cons, stp_some, putR_some, gd_true, wanted_none, dput_some, ev_c, okR_some, evOp, tget_tput, ↓reduceIte, Nat.reduceEqDiff, Nat.zero_add, reduceCtorEq, and_self, initTm]
  subst eh
  refine W.seq (W.seq (W.runs (fun ts h2 => h2 = h1 ∧ tget ts 0 = .sl b 0 n n ∧ tget ts 1 = .str sep ∧ tget ts 12 = .int .i64 (n : Nat)) ?_ fun ts h2 ⟨eh, e0, e1, e12⟩ => ?_))
  · simp only [ckR_nil, evN_none, stps_nil, stps_cons, stp_some, putR_some, gd_true, wanted_none, dput_some, ev_t, okR_some, evOp, tget_tput, lenLA_sl, ↓reduceIte, Nat.reduceEqDiff, Option.map_some, reduceCtorEq, and_self, e0, e1]
  subst eh
  have d1 : decide (((n : Nat) : Int) = 0) = false := by simp; omega
  have d2 : decide (((n : Nat) : Int) = 1) = false := by simp; omega
  refine W.block (W.seq (W.runs (fun ts h3 => h3 = h2 ∧ tget ts 0 = .sl b 0 n n ∧ tget ts 1 = .str sep ∧ tget ts 12 = .int .i64 (n : Nat) ∧ tget ts 13 = .bool false) ?_ fun ts h3 ⟨eh, e0, e1, e12, e13⟩ => W.no e13 ?_))
  · simp only [ckR_nil, evN_none, stps_nil, stps_cons, stp_some, putR_some, gd_true, wanted_none, dput_some, ev_t, ev_c, okR_some, evOp, tget_tput, bin_eql, ↓reduceIte, Nat.reduceEqDiff, Option.map_some, reduceCtorEq, and_self, e0, e1, e12, d1]
  subst eh
  refine W.seq (W.runs (fun ts h4 => h4 = h3 ∧ tget ts 0 = .sl b 0 n n ∧ tget ts 1 = .str sep ∧ tget ts 15 = .bool false) ?_ fun ts h4 ⟨eh, e0, e1, e15⟩ => W.no e15 (W.skip ?_))
  · simp only [ckR_nil, evN_none, stps_nil, stps_cons, stp_some, putR_some, gd_true, wanted_none, dput_some, ev_t, ev_c, okR_some, evOp, tget_tput, bin_eql, ↓reduceIte, Nat.reduceEqDiff, Option.map_some, reduceCtorEq, and_self, e0, e1, e12, d2]
  subst eh
  refine W.seq (W.runs (fun ts h5 => h5 = h4 ∧ tget ts 0 = .sl b 0 n n ∧ tget ts 1 = .str sep ∧ tget ts 5 = .int .i64 0) ?_ fun ts h5 ⟨eh, e0, e1, e5⟩ => ?_)
  · simp only [ckR_nil, evN_none, stps_nil, stps_cons, stp_some, putR_some, gd_true, wanted_none, dput_some, ev_c, okR_some, evOp, tget_tput, ↓reduceIte, Nat.reduceEqDiff, reduceCtorEq, and_self, e0, e1]
  subst eh
  have d3 : decide ((0 : Int) < (sep.length : Nat)) = true := by simp; omega
  refine W.seq (W.seq (W.runs (fun ts h6 => h6 = h5 ∧ tget ts 0 = .sl b 0 n n ∧ tget ts 1 = .str sep ∧ tget ts 5 = .int .i64 0 ∧ tget ts 22 = .bool true) ?_ fun ts h6 ⟨eh, e0, e1, e5, e22⟩ => W.yes e22 ?_))
  · simp only [ckR_nil, evN_none, stps_nil, stps_cons, stp_some, putR_some, gd_true, wanted_none, dput_some, ev_t, ev_c, okR_some, evOp, tget_tput, bin_gtr, lenSA_str, ↓reduceIte, Nat.reduceEqDiff, Option.map_some, reduceCtorEq, and_self, e0, e1, e5, d3]
  subst eh
  have w1 : IntKind.i64.wrap (((n : Nat) : Int) - 1) = (r.length : Nat) := by rw [IntWalk.i64_in _ (by omega)]; omega
  have c4 : ¬ ((r.length : Nat) : Int) = 0 := by omega
  have h2 : (9223372036854775807 : Int).tdiv (r.length : Nat) = ((9223372036854775807 / r.length : Nat) : Int) := rfl
  have h1 : 9223372036854775807 / r.length ≤ 9223372036854775807 := Nat.div_le_self _ _
  have h3 : 9223372036854775807 / 2 ^ 20 ≤ 9223372036854775807 / r.length := Nat.div_le_div_left (by omega) hr
  have h4 : 9223372036854775807 / 2 ^ 20 = 8796093022207 := by decide
  rw [h4] at h3
  generalize 9223372036854775807 / r.length = q at h2 h1 h3
  have w2 : IntKind.i64.wrap ((9223372036854775807 : Int).tdiv (r.length : Nat)) = (q : Nat) := by rw [h2]; exact IntWalk.i64_in _ (by omega)
  have d4 : decide (((q : Nat) : Int) ≤ (sep.length : Nat)) = false := decide_eq_false (by omega)
  clear h2 h1 h3 h4
  refine W.seq (W.seq (W.runs (fun ts h7 => h7 = h6 ∧ tget ts 0 = .sl b 0 n n ∧ tget ts 1 = .str sep ∧ tget ts 5 = .int .i64 0 ∧ tget ts 29 = .bool false) ?_ fun ts h7 ⟨eh, e0, e1, e5, e29⟩ => W.no e29 (W.skip ?_)))
  · simp only [ckR_nil, evN_none, stps_nil, stps_cons, stp_some, putR_some, gd_true, wanted_none, dput_some, ev_t, ev_c, okR_some, evOp, tget_tput, bin_sub, bin_quo, bin_geq, lenSA_str, lenLA_sl, ↓reduceIte, Nat.reduceEqDiff, Option.map_some, reduceCtorEq, and_self, e0, e1, e5, w1, c4, w2, d4]
  subst eh
  have w3 : IntKind.i64.wrap (0 + IntKind.i64.wrap (((sep.length : Nat) : Int) * (r.length : Nat))) = (sep.length * r.length : Nat) := by
    rw [← Int.natCast_mul]
    generalize sep.length * r.length = K at *
    have := IntWalk.i64_in (K : Nat) (by omega)
    rw [this, Int.zero_add, this]
  generalize hK : sep.length * r.length = K at hjl w3
  refine W.runs (fun ts h8 => h8 = h7 ∧ tget ts 0 = .sl b 0 n n ∧ tget ts 1 = .str sep ∧ tget ts 5 = .int .i64 (K : Nat)) ?_ fun ts h8 ⟨eh, e0, e1, e5⟩ => ?_
  · simp only [ckR_nil, evN_none, stps_nil, stps_cons, stp_some, putR_some, gd_true, wanted_none, dput_some, ev_t, ev_c, okR_some, evOp, tget_tput, bin_add, bin_sub, bin_mul, lenSA_str, lenLA_sl, ↓reduceIte, Nat.reduceEqDiff, Option.map_some, reduceCtorEq, and_self, e0, e1, e5, w1, w3]
  subst eh
  clear w1 c4 w2 d4 w3 d1 d2 d3
  -- all lengths
  refine W.seq (W.seq (W.runs (fun ts h9 => h9 = h8 ∧ tget ts 0 = .sl b 0 n n ∧ tget ts 1 = .str sep ∧ tget ts 5 = .int .i64 (K : Nat) ∧ tget ts 39 = .sl b 0 n n ∧ tget ts 40 = .int .i64 (n : Nat) ∧ tget ts 41 = .int .i64 0) ?_ fun ts h9 ⟨eh, e0, e1, e5, e39, e40, e41⟩ => ?_))
  · simp only [ckR_nil, evN_none, stps_nil, stps_cons, stp_some, putR_some, gd_true, wanted_none, dput_some, ev_t, ev_c, okR_some, evOp, tget_tput, lenLA_sl, ↓reduceIte, Nat.reduceEqDiff, Option.map_some, reduceCtorEq, and_self, e0, e1, e5]
  subst eh
  refine W.cut (fun ts h => h = h9 ∧ tget ts 0 = .sl b 0 n n ∧ tget ts 1 = .str sep ∧ tget ts 5 = .int .i64 ((jn sep (p :: r)).length : Nat)) (W.block (W.loop (fun m ts h => h = h9 ∧ ∃ i, m = n - i ∧ i ≤ n ∧ tget ts 0 = .sl b 0 n n ∧ tget ts 1 = .str sep ∧ tget ts 5 = .int .i64 ((K + sl ((p :: r).take i) : Nat) : Int) ∧ tget ts 39 = .sl b 0 n n ∧ tget ts 40 = .int .i64 (n : Nat) ∧ tget ts 41 = .int .i64 (i : Nat)) ?_ (n := n) ⟨rfl, 0, rfl, Nat.zero_le _, e0, e1, e5, e39, e40, e41⟩)) fun ts ha ⟨eh, e0, e1, e5⟩ => ?_
  · clear e0 e1 e5 e39 e40 e41
    rintro m ts ha ⟨eh, i, hm, hi, e0, e1, e5, e39, e40, e41⟩
    subst eh
    refine W.seq (W.runs (fun ts hb => hb = ha ∧ tget ts 0 = .sl b 0 n n ∧ tget ts 1 = .str sep ∧ tget ts 5 = .int .i64 ((K + sl ((p :: r).take i) : Nat) : Int) ∧ tget ts 39 = .sl b 0 n n ∧ tget ts 40 = .int .i64 (n : Nat) ∧ tget ts 41 = .int .i64 (i : Nat) ∧ tget ts 42 = .bool (decide (i < n))) ?_ fun ts hb ⟨eh, e0, e1, e5, e39, e40, e41, e42⟩ => ?_)
    · have : decide (((i : Nat) : Int) < (n : Nat)) = decide (i < n) := by congr 1; simp
      simp only [ckR_nil, evN_none, stps_nil, stps_cons, stp_some, putR_some, gd_true, wanted_none, dput_some, ev_t, okR_some, evOp, tget_tput, bin_lss, ↓reduceIte, Nat.reduceEqDiff, Option.map_some, reduceCtorEq, and_self, e0, e1, e5, e39, e40, e41, this]
    subst eh
    refine W.seq (W.cond e42 (fun hc => W.skip ?_) fun hc => W.exit ⟨fun _ => ⟨rfl, e0, e1, ?_⟩, fun e => absurd rfl e⟩)
    · simp only [decide_eq_true_eq] at hc
      obtain ⟨x, hx⟩ : ∃ x, (p :: r)[i]? = some x := ⟨_, List.getElem?_eq_getElem (by omega)⟩
      obtain ⟨r1, r2⟩ := str_at hg hx hn
      have hst := sl_take hx
      have hsle := sl_le (p :: r) (i + 1)
      generalize sl ((p :: r).take (i + 1)) = S1 at hst hsle
      generalize hS : sl ((p :: r).take i) = S at hst e5
      subst hst
      refine W.seq (W.block (W.seq (W.runs (fun ts hc => hc = hb ∧ tget ts 0 = .sl b 0 n n ∧ tget ts 1 = .str sep ∧ tget ts 5 = .int .i64 ((K + S : Nat) : Int) ∧ tget ts 7 = .str x ∧ tget ts 39 = .sl b 0 n n ∧ tget ts 40 = .int .i64 (n : Nat) ∧ tget ts 41 = .int .i64 (i : Nat)) ?_ fun ts hc ⟨eh, e0, e1, e5, e7, e39, e40, e41⟩ => ?_)))
      · simp only [ckR_nil, evN_none, stps_nil, stps_cons, stp_some, putR_some, gd_true, wanted_none, dput_some, ev_t, okR_some, evOp, tget_tput, loadA_ptr, packA_one, iadrL_sl, ↓reduceIte, Nat.reduceEqDiff, Option.map_some, Nat.zero_add, reduceCtorEq, and_self, e0, e1, e5, e39, e40, e41, r1, r2]
      subst eh
      have w1 : IntKind.i64.wrap (9223372036854775807 - ((K + S : Nat) : Int)) = 9223372036854775807 - ((K + S : Nat) : Int) := IntWalk.i64_in _ (by omega)
      have w2 : decide (9223372036854775807 - ((K + S : Nat) : Int) < (x.length : Nat)) = false := decide_eq_false (by omega)
      refine W.seq (W.seq (W.runs (fun ts hd => hd = hc ∧ tget ts 0 = .sl b 0 n n ∧ tget ts 1 = .str sep ∧ tget ts 5 = .int .i64 ((K + S : Nat) : Int) ∧ tget ts 7 = .str x ∧ tget ts 39 = .sl b 0 n n ∧ tget ts 40 = .int .i64 (n : Nat) ∧ tget ts 41 = .int .i64 (i : Nat) ∧ tget ts 49 = .bool false) ?_ fun ts hd ⟨eh, e0, e1, e5, e7, e39, e40, e41, e49⟩ => W.no e49 (W.skip ?_)))
      · simp only [ckR_nil, evN_none, stps_nil, stps_cons, stp_some, putR_some, gd_true, wanted_none, dput_some, ev_t, ev_c, okR_some, evOp, tget_tput, bin_sub, bin_gtr, lenSA_str, ↓reduceIte, Nat.reduceEqDiff, Option.map_some, reduceCtorEq, and_self, e0, e1, e5, e7, e39, e40, e41, w1, w2]
      subst eh
      have w3 : IntKind.i64.wrap (((K + S : Nat) : Int) + (x.length : Nat)) = ((K + (S + x.length) : Nat) : Int) := by rw [IntWalk.i64_in _ (by omega)]; omega
      refine W.runs (fun ts he => he = hd ∧ tget ts 0 = .sl b 0 n n ∧ tget ts 1 = .str sep ∧ tget ts 5 = .int .i64 ((K + (S + x.length) : Nat) : Int) ∧ tget ts 39 = .sl b 0 n n ∧ tget ts 40 = .int .i64 (n : Nat) ∧ tget ts 41 = .int .i64 (i : Nat)) ?_ fun ts he ⟨eh, e0, e1, e5, e39, e40, e41⟩ => ?_
      · simp only [ckR_nil, evN_none, stps_nil, stps_cons, stp_some, putR_some, gd_true, wanted_none, dput_some, ev_t, okR_some, evOp, tget_tput, bin_add, lenSA_str, ↓reduceIte, Nat.reduceEqDiff, Option.map_some, reduceCtorEq, and_self, e0, e1, e5, e7, e39, e40, e41, w3]
      subst eh
      have w4 : IntKind.i64.wrap (((i : Nat) : Int) + 1) = ((i + 1 : Nat) : Int) := IntWalk.i64_in _ (by omega)
      refine W.runs (fun ts hf => hf = he ∧ tget ts 0 = .sl b 0 n n ∧ tget ts 1 = .str sep ∧ tget ts 5 = .int .i64 ((K + (S + x.length) : Nat) : Int) ∧ tget ts 39 = .sl b 0 n n ∧ tget ts 40 = .int .i64 (n : Nat) ∧ tget ts 41 = .int .i64 ((i + 1 : Nat) : Int)) ?_ fun ts hf ⟨eh, e0, e1, e5, e39, e40, e41⟩ => ?_
      · simp only [ckR_nil, evN_none, stps_nil, stps_cons, stp_some, putR_some, gd_true, wanted_none, dput_some, ev_t, ev_c, okR_some, evOp, tget_tput, bin_add, ↓reduceIte, Nat.reduceEqDiff, Option.map_some, reduceCtorEq, and_self, e0, e1, e5, e39, e40, e41, w4]
      subst eh
      exact ⟨n - (i + 1), by omega, rfl, i + 1, rfl, by omega, e0, e1, by rw [e5, sl_take hx, hS], e39, e40, e41⟩
    · simp only [decide_eq_false_iff_not] at hc
      have : i = n := by omega
      subst this
      rw [e5, hjl, hn, List.take_length, Nat.add_comm]
  subst eh
  -- the builder
  have hbne : ¬ ha.next = b := by omega
  refine W.seq (W.runs (fun ts hb => hb = ha.newT (.cells [.nilp, .nils] 2 false) 41 ∧ tget ts 0 = .sl b 0 n n ∧ tget ts 1 = .str sep ∧ tget ts 5 = .int .i64 ((jn sep (p :: r)).length : Nat) ∧ tget ts 8 = .ptr ha.next 0) ?_ fun ts hb ⟨eh, e0, e1, e5, e8⟩ => ?_)
  · simp only [ckR_nil, evN_none, stps_nil, stps_cons, stp_some, putR_some, gd_true, wanted_none, dput_some, okR_some, evOp, tget_tput, ↓reduceIte, Nat.reduceEqDiff, reduceCtorEq, and_self, e0, e1, e5]
  have b1 : hb.get ha.next = some (.cells [.nilp, .nils] 2 false) := by rw [eh, AH.get_newT]; simp
  have b2 : hb.tyOf ha.next = some 41 := by rw [eh, AH.tyOf_newT]; simp
  have b3 : Ext ha.next ha hb := by rw [eh]; exact Ext.newT (Nat.le_refl _)
  have b4 : ha.next + 1 = hb.next := by rw [eh]; simp
  clear eh
  have hpos : 0 < (jn sep (p :: r)).length := by rw [hjl, ← hK]; have := Nat.mul_pos hs0 hr; omega
  refine W.seq (W.calls (fun ts hc => tget ts 0 = .sl b 0 n n ∧ tget ts 1 = .str sep ∧ tget ts 8 = .ptr ha.next 0 ∧ Bld ha.next hc ha.next [] ∧ Ext ha.next hb hc) ?_ fun ts hc ⟨e0, e1, e8, q1, q2⟩ => ?_)
  · refine G.op ?_
    simp only [ckR_nil, evN_none, stp_some, putR_some, gd_true, wanted_none, dput_some, ev_t, evOp, e5]
    refine G.call ?_
    simp only [dput_some, ev_t, tget_tput, ↓reduceIte, Nat.reduceEqDiff, List.map_cons, List.map_nil, e8]
    refine (Grow_ok (lo := ha.next) (by omega) (Nat.le_refl _) b2 b1 htot hpos).mono fun v h' ⟨ev, q1, q2⟩ => ?_
    subst ev
    refine G.done ?_
    simp only [tget_tput, ↓reduceIte, Nat.reduceEqDiff, reduceCtorEq, true_and, e0, e1, e8]
    exact ⟨q1, q2⟩
  have x1 : Ext ha.next ha hc := b3.trans q2
  have hg1 : hc.get b = some (.cells ((p :: r).map .str) 1 false) := by rw [x1.2 b hlt]; exact hg
  obtain ⟨r1, r2⟩ := str_at (i := 0) (x := p) hg1 rfl hn
  refine W.seq (W.calls (fun ts hd => tget ts 0 = .sl b 0 n n ∧ tget ts 1 = .str sep ∧ tget ts 8 = .ptr ha.next 0 ∧ Bld ha.next hd ha.next p ∧ Ext ha.next hc hd) ?_ fun ts hd ⟨e0, e1, e8, q3, q4⟩ => ?_)
  · refine G.op (G.op (G.op ?_))
    simp only [Nat.zero_mul] at r1
    have r2' : idx? 0 n = some 0 := r2
    simp only [ckR_nil, evN_none, stp_some, putR_some, gd_true, wanted_none, dput_some, ev_t, ev_c, evOp, tget_tput, loadA_ptr, packA_one, iadrL_sl, ↓reduceIte, Option.map_some, Nat.zero_add, e0, r1, r2', Nat.zero_mul]
    refine G.call ?_
    simp only [dput_some, ev_t, tget_tput, ↓reduceIte, Nat.reduceEqDiff, List.map_cons, List.map_nil, e8]
    have hpl : p.length < 2 ^ 36 := by
      have : p.length ≤ sl (p :: r) := by simp [sl]
      omega
    refine (write_ok (x := p) q1 (by simpa using hpl)).mono fun v h' ⟨ev, k1, k2⟩ => ?_
    subst ev
    refine G.done ?_
    simp only [tget_tput, ↓reduceIte, Nat.reduceEqDiff, reduceCtorEq, true_and, e0, e1, e8]
    exact ⟨k1, k2⟩
  have x2 : Ext ha.next ha hd := x1.trans q4
  have hg2 : hd.get b = some (.cells ((p :: r).map .str) 1 false) := by rw [x2.2 b hlt]; exact hg
  refine W.seq (W.seq (W.runs (fun ts he => he = hd ∧ tget ts 1 = .str sep ∧ tget ts 8 = .ptr ha.next 0 ∧ tget ts 63 = .sl b 1 r.length r.length ∧ tget ts 64 = .int .i64 (r.length : Nat) ∧ tget ts 65 = .int .i64 0) ?_ fun ts he ⟨eh, e1, e8, e63, e64, e65⟩ => ?_))
  · have c1 : (0 : Int) ≤ 1 ∧ (1 : Int) ≤ (n : Nat) := by omega
    have c2 : ¬ n = 1 := by omega
    have c3 : n - 1 = r.length := by omega
    simp only [ckR_nil, evN_none, stps_nil, stps_cons, stp_some, putR_some, gd_true, wanted_none, dput_some, ev_t, ev_c, okR_some, evOp, tget_tput, lenLA_sl, ↓reduceIte, Nat.reduceEqDiff, Option.map_some, Nat.zero_add, reduceCtorEq, List.map_cons, and_self, e0, e1, e8, slLA, hg2, bounds, bnd, c1, Option.isSome, Int.toNat_one, c2, c3]
  subst eh
  refine W.cut (fun ts h => tget ts 8 = .ptr ha.next 0 ∧ Bld ha.next h ha.next (jn sep (p :: r)) ∧ Ext ha.next ha h) (W.block (W.loop (fun m ts h => ∃ i, m = r.length - i ∧ i ≤ r.length ∧ tget ts 1 = .str sep ∧ tget ts 8 = .ptr ha.next 0 ∧ tget ts 63 = .sl b 1 r.length r.length ∧ tget ts 64 = .int .i64 (r.length : Nat) ∧ tget ts 65 = .int .i64 (i : Nat) ∧ Bld ha.next h ha.next (jn sep (p :: r.take i)) ∧ Ext ha.next ha h) ?_ (n := r.length) ⟨0, rfl, Nat.zero_le _, e1, e8, e63, e64, e65, by simpa [jn] using q3, x2⟩)) fun ts hf ⟨e8, q5, q6⟩ => ?_
  · clear e0 e1 e5 e8 e63 e64 e65 q1 q2 q3 q4 x1 x2 hg1 hg2 r1 r2 b1 b2 b3 b4
    rintro m ts hf ⟨i, hm, hi, e1, e8, e63, e64, e65, q1, q2⟩
    refine W.seq (W.runs (fun ts hb => hb = hf ∧ tget ts 1 = .str sep ∧ tget ts 8 = .ptr ha.next 0 ∧ tget ts 63 = .sl b 1 r.length r.length ∧ tget ts 64 = .int .i64 (r.length : Nat) ∧ tget ts 65 = .int .i64 (i : Nat) ∧ tget ts 66 = .bool (decide (i < r.length))) ?_ fun ts hb ⟨eh, e1, e8, e63, e64, e65, e66⟩ => ?_)
    · have : decide (((i : Nat) : Int) < (r.length : Nat)) = decide (i < r.length) := by congr 1; simp
      simp only [ckR_nil, evN_none, stps_nil, stps_cons, stp_some, putR_some, gd_true, wanted_none, dput_some, ev_t, okR_some, evOp, tget_tput, bin_lss, ↓reduceIte, Nat.reduceEqDiff, Option.map_some, and_self, e1, e8, e63, e64, e65, this]
    subst eh
    refine W.seq (W.cond e66 (fun hc => W.skip ?_) fun hc => W.exit ⟨fun _ => ⟨e8, ?_, q2⟩, fun e => absurd rfl e⟩)
    · simp only [decide_eq_true_eq] at hc
      obtain ⟨x, hx⟩ : ∃ x, r[i]? = some x := ⟨_, List.getElem?_eq_getElem hc⟩
      have hg1 : hb.get b = some (.cells ((p :: r).map .str) 1 false) := by rw [q2.2 b hlt]; exact hg
      obtain ⟨r1, _⟩ := str_at (i := i + 1) (x := x) hg1 (by simpa using hx) hn
      have r2 : idx? (i : Nat) r.length = some i := by
        unfold idx?
        have c : (0 : Int) ≤ (i : Nat) ∧ ((i : Nat) : Int) < (r.length : Nat) := by omega
        simp only [c, and_self, if_true, Int.toNat_natCast]
      have r1' : rdCells hb b (1 + i * 1) 1 = some [.str x] := by rw [← r1]; congr 1; omega
      have hjt := jn_take (sep := sep) (p := p) hx
      have hjle := jn_le (sep := sep) (p := p) (r := r) (i := i + 1)
      rw [hjt, List.length_append, List.length_append] at hjle
      refine W.seq (W.block (W.seq (W.runs (fun ts hc => hc = hb ∧ tget ts 1 = .str sep ∧ tget ts 8 = .ptr ha.next 0 ∧ tget ts 63 = .sl b 1 r.length r.length ∧ tget ts 64 = .int .i64 (r.length : Nat) ∧ tget ts 65 = .int .i64 (i : Nat) ∧ tget ts 10 = .str x) ?_ fun ts hc ⟨eh, e1, e8, e63, e64, e65, e10⟩ => ?_)))
      · simp only [ckR_nil, evN_none, stps_nil, stps_cons, stp_some, putR_some, gd_true, wanted_none, dput_some, ev_t, okR_some, evOp, tget_tput, loadA_ptr, packA_one, iadrL_sl, ↓reduceIte, Nat.reduceEqDiff, Option.map_some, and_self, e1, e8, e63, e64, e65, r1', r2]
      subst eh
      refine W.seq (W.calls (fun ts hd => tget ts 1 = .str sep ∧ tget ts 8 = .ptr ha.next 0 ∧ tget ts 63 = .sl b 1 r.length r.length ∧ tget ts 64 = .int .i64 (r.length : Nat) ∧ tget ts 65 = .int .i64 (i : Nat) ∧ tget ts 10 = .str x ∧ Bld ha.next hd ha.next (jn sep (p :: r.take i) ++ sep) ∧ Ext ha.next hc hd) ?_ fun ts hd ⟨e1, e8, e63, e64, e65, e10, k1, k2⟩ => ?_)
      · refine G.op ?_
        simp only [ckR_nil, evN_none, stp_some, putR_some, gd_true, wanted_none, dput_some, ev_t, evOp, e1]
        refine G.call ?_
        simp only [dput_some, ev_t, tget_tput, ↓reduceIte, Nat.reduceEqDiff, List.map_cons, List.map_nil, e8]
        refine (write_ok (x := sep) q1 (by omega)).mono fun v h' ⟨ev, k1, k2⟩ => ?_
        subst ev
        refine G.done ?_
        simp only [tget_tput, ↓reduceIte, Nat.reduceEqDiff, true_and, e1, e8, e63, e64, e65, e10]
        exact ⟨k1, k2⟩
      refine W.calls (fun ts he => tget ts 1 = .str sep ∧ tget ts 8 = .ptr ha.next 0 ∧ tget ts 63 = .sl b 1 r.length r.length ∧ tget ts 64 = .int .i64 (r.length : Nat) ∧ tget ts 65 = .int .i64 (i : Nat) ∧ Bld ha.next he ha.next (jn sep (p :: r.take i) ++ sep ++ x) ∧ Ext ha.next hd he) ?_ fun ts he ⟨e1, e8, e63, e64, e65, k3, k4⟩ => ?_
      · refine G.op ?_
        simp only [ckR_nil, evN_none, stp_some, putR_some, gd_true, wanted_none, dput_some, ev_t, evOp, e10]
        refine G.call ?_
        simp only [dput_some, ev_t, tget_tput, ↓reduceIte, Nat.reduceEqDiff, List.map_cons, List.map_nil, e8]
        refine (write_ok (x := x) k1 (by rw [List.length_append]; omega)).mono fun v h' ⟨ev, k1, k2⟩ => ?_
        subst ev
        refine G.done ?_
        simp only [tget_tput, ↓reduceIte, Nat.reduceEqDiff, true_and, e1, e8, e63, e64, e65]
        exact ⟨k1, k2⟩
      have w4 : IntKind.i64.wrap (((i : Nat) : Int) + 1) = ((i + 1 : Nat) : Int) := IntWalk.i64_in _ (by omega)
      refine W.runs (fun ts hf => hf = he ∧ tget ts 1 = .str sep ∧ tget ts 8 = .ptr ha.next 0 ∧ tget ts 63 = .sl b 1 r.length r.length ∧ tget ts 64 = .int .i64 (r.length : Nat) ∧ tget ts 65 = .int .i64 ((i + 1 : Nat) : Int)) ?_ fun ts hf ⟨eh, e1, e8, e63, e64, e65⟩ => ?_
      · simp only [ckR_nil, evN_none, stps_nil, stps_cons, stp_some, putR_some, gd_true, wanted_none, dput_some, ev_t, ev_c, okR_some, evOp, tget_tput, bin_add, ↓reduceIte, Nat.reduceEqDiff, Option.map_some, and_self, e1, e8, e63, e64, e65, w4]
      subst eh
      exact ⟨r.length - (i + 1), by omega, i + 1, rfl, by omega, e1, e8, e63, e64, e65, by rw [hjt]; exact k3, (q2.trans k2).trans k4⟩
    · simp only [decide_eq_false_iff_not] at hc
      have : i = r.length := by omega
      subst this
      rwa [List.take_length] at q1
  refine W.seq (W.calls (fun ts hg => tget ts 4 = .str (jn sep (p :: r)) ∧ Ext ha.next hf hg) ?_ fun ts hg ⟨e4, q7⟩ => W.ret ⟨_, by simp only [Am.results, rdAll, rdRes, e4, rf20], rfl, q6.trans q7⟩)
  refine G.call ?_
  simp only [dput_some, ev_t, List.map_cons, List.map_nil, e8]
  refine (string_ok q5 htot (by intro q; rw [q] at hpos; simp at hpos)).mono fun v h' ⟨ev, k1⟩ => ?_
  subst ev
  refine G.op ?_
  simp only [ckR_nil, evN_none, stp_some, putR_some, gd_true, wanted_none, dput_some, ev_t, evOp, tget_tput, ↓reduceIte]
  refine G.done ?_
  simp only [tget_tput, ↓reduceIte, true_and]
  exact k1

end Go.Proofs.YtloklfmgbolpeaaDoor
