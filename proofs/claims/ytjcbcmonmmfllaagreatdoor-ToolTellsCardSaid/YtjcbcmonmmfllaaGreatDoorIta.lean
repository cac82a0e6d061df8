/-
  strconv.Itoa, ref.Digits: any number.
-/
import Derived.Test.YtjcbcmonmmfllaaGreatDoorIto
namespace Go.Proofs.YtjcbcmonmmfllaaGreatDoor
set_option linter.unusedVariables false
set_option linter.unusedSimpArgs false
open Go.Am

theorem un_neg {k : IntKind} {n : Int} : unA .neg (.int k n) = some (.int k (k.wrap (0 - n))) := rfl

theorem slA_lo {ev : RO → AV} {a b : RO} {s m : Nat} (hm : m ≤ 20) (h1 : ev a = .int .i64 1) (h2 : ev b = .int .i64 ((1 + m : Nat) : Int)) : slAA ev 24 1 (.ptr s 0) (some a) (some b) none = some (.sl s 1 m 23) := by
  have c1 : (0 : Int) ≤ ((1 + m : Nat) : Int) ∧ ((1 + m : Nat) : Int) ≤ ((24 : Nat) : Int) := by omega
  have c2 : (0 : Int) ≤ 1 ∧ (1 : Int) ≤ ((1 + m : Nat) : Int) := by omega
  simp only [slAA, bounds, bnd, h1, h2, c1, c2, and_self, if_true, Int.toNat_natCast, Option.map_some, Int.toNat_one]
  congr 2
  omega

theorem slA_all {ev : RO → AV} {b : RO} {s m : Nat} (hm : m ≤ 20) (h2 : ev b = .int .i64 ((1 + m : Nat) : Int)) : slAA ev 24 1 (.ptr s 0) none (some b) none = some (.sl s 0 (1 + m) 24) := by
  have c1 : (0 : Int) ≤ ((1 + m : Nat) : Int) ∧ ((1 + m : Nat) : Int) ≤ ((24 : Nat) : Int) := by omega
  simp only [slAA, bounds, bnd, h2, c1, and_self, if_true, Int.toNat_natCast, Option.map_some]
  simp

theorem z24 {m : Nat} (hm : m ≤ 20) : ([.int .u8 0, .int .u8 0, .int .u8 0, .int .u8 0, .int .u8 0, .int .u8 0, .int .u8 0, .int .u8 0, .int .u8 0, .int .u8 0, .int .u8 0, .int .u8 0, .int .u8 0, .int .u8 0, .int .u8 0, .int .u8 0, .int .u8 0, .int .u8 0, .int .u8 0, .int .u8 0, .int .u8 0, .int .u8 0, .int .u8 0, .int .u8 0] : List AV) = .int .u8 0 :: (List.replicate m (.int .u8 0) ++ List.replicate (23 - m) (.int .u8 0)) := by
  rw [List.replicate_append_replicate]
  have : m + (23 - m) = 23 := by omega
  rw [this]
  rfl

theorem wrap_neg {n : Int} (h1 : -2 ^ 63 ≤ n) (h2 : n < 0) : IntKind.u64.wrap n = n + 2 ^ 64 := by
  simp [IntKind.wrap, IntKind.bits, IntKind.signed]; omega

theorem wrap_back {n : Int} (h1 : -2 ^ 63 ≤ n) (h2 : n < 0) : IntKind.u64.wrap (0 - (n + 2 ^ 64)) = -n := by
  simp [IntKind.wrap, IntKind.bits, IntKind.signed]; omega

theorem res35 : rf35.results = [(.t 4)] := rfl

set_option maxRecDepth 4000 in
theorem format_ok {h : AH} {n : Int} (l1 : -2 ^ 63 ≤ n) (l2 : n < 2 ^ 63) (hp : ∃ ro, h.get 0 = some (.cells pow10 1 ro)) (h0 : 0 < h.next) : C prg 35 [.int .i64 n, .int .i64 10] h fun v h' => v = .str (dec n) ∧ Ext h.next h h' := by
  refine C.func pf35 ?_
  refine W.seq (W.runs (fun ts h1 => h1 = h ∧ tget ts 0 = .int .i64 n ∧ tget ts 1 = .int .i64 10) ?_ fun ts h1 ⟨eh, e0, e1⟩ => ?_)
  · simp only [ckR_nil, evN_none, stps_nil, stps_cons, stp_some, putR_some, gd_true, wanted_none, dput_some, ev_c, okR_some, evOp, tget_tput, ↓reduceIte, Nat.reduceEqDiff, Nat.zero_add, reduceCtorEq, and_self, initTm]
  subst eh
  refine W.seq (W.seq (W.runs (fun ts h2 => h2 = h1 ∧ tget ts 0 = .int .i64 n ∧ tget ts 11 = .bool true) ?_ fun ts h2 ⟨eh, e0, e11⟩ => W.yes e11 ?_))
  · simp only [ckR_nil, evN_none, stps_nil, stps_cons, stp_some, putR_some, gd_true, wanted_none, dput_some, ev_t, ev_c, okR_some, evOp, tget_tput, bin_eql, ↓reduceIte, Option.map_some, reduceCtorEq, and_self, e0, e1, decide_true]
  subst eh
  refine W.seq (W.seq (W.runs (fun ts h3 => h3 = h2 ∧ tget ts 0 = .int .i64 n ∧ tget ts 17 = .bool (decide (0 ≤ n) && decide (n < 100))) ?_ fun ts h3 ⟨eh, e0, e17⟩ => ?_))
  · by_cases q : 0 ≤ n
    · have c1 : decide (0 ≤ n) = true := decide_eq_true q
      simp only [ckR_nil, evN_none, stps_nil, stps_cons, stp_some, putR_some, gd_true, wanted_none, wanted_some, dput_some, ev_t, ev_c, okR_some, evOp, tget_tput, pickA_true, bin_lss, bin_leq, ↓reduceIte, Nat.reduceEqDiff, Option.map_some, beq_true, reduceCtorEq, and_self, e0, c1, Bool.true_and]
    · have c1 : decide (0 ≤ n) = false := decide_eq_false q
      simp only [ckR_nil, evN_none, stps_nil, stps_cons, stp_some, putR_some, gd_true, gd_false, wanted_none, wanted_some, dput_some, ev_t, ev_c, okR_some, evOp, tget_tput, pickA_false, bin_leq, ↓reduceIte, Nat.reduceEqDiff, Option.map_some, beq_true, reduceCtorEq, and_self, AV.un, e0, c1, Bool.false_and]
  subst eh
  refine W.cond e17 (fun hc => ?_) fun hc => W.skip ?_
  · simp only [Bool.and_eq_true, decide_eq_true_eq] at hc
    obtain ⟨k, rfl⟩ : ∃ k : Nat, n = k := ⟨n.toNat, by omega⟩
    have hd : dec (k : Nat) = dgs 20 k [] := by
      unfold dec
      rw [if_neg (by omega)]
      rfl
    refine W.seq (W.calls (fun ts h4 => h4 = h3 ∧ tget ts 4 = .str (dgs 20 k [])) ?_ fun ts h4 ⟨eh, e4⟩ => W.ret ⟨.str (dgs 20 k []), by simp only [Am.results, res35, rdAll, rdRes, e4], by rw [hd], by rw [eh]; exact Ext.refl⟩)
    refine G.op ?_
    simp only [ckR_nil, evN_none, stp_some, putR_some, gd_true, wanted_none, dput_some, ev_t, evOp, e0]
    refine G.call ?_
    simp only [dput_some, ev_t, tget_tput, ↓reduceIte, List.map_cons, List.map_nil]
    refine (small_ok (n := k) (by omega)).mono fun v h' ⟨ev, eh⟩ => ?_
    subst ev eh
    refine G.op ?_
    simp only [ckR_nil, evN_none, stp_some, putR_some, gd_true, wanted_none, dput_some, ev_t, evOp, tget_tput, ↓reduceIte]
    refine G.done ?_
    simp only [tget_tput, ↓reduceIte, and_self]
  have hn : n < 0 ∨ 100 ≤ n := by
    simp only [Bool.and_eq_false_iff, decide_eq_false_iff_not] at hc
    omega
  obtain ⟨u, hu⟩ : ∃ u, u = n.natAbs := ⟨_, rfl⟩
  have u1 : 1 ≤ u := by omega
  have u2 : u < 2 ^ 64 := by omega
  refine W.seq (W.runs (fun ts h4 => h4.get h3.next = some (.cells [.int .u8 0, .int .u8 0, .int .u8 0, .int .u8 0, .int .u8 0, .int .u8 0, .int .u8 0, .int .u8 0, .int .u8 0, .int .u8 0, .int .u8 0, .int .u8 0, .int .u8 0, .int .u8 0, .int .u8 0, .int .u8 0, .int .u8 0, .int .u8 0, .int .u8 0, .int .u8 0, .int .u8 0, .int .u8 0, .int .u8 0, .int .u8 0] 1 false) ∧ Ext h3.next h3 h4 ∧ tget ts 0 = .int .i64 n ∧ tget ts 5 = .ptr h3.next 0) ?_ fun ts h4 ⟨g4, x4, e0, e5⟩ => ?_)
  · simp only [ckR_nil, evN_none, stps_nil, stps_cons, stp_some, putR_some, gd_true, wanted_none, dput_some, okR_some, evOp, tget_tput, ↓reduceIte, reduceCtorEq, and_true, and_self, e0]
    exact ⟨by rw [AH.get_new, if_pos rfl], Ext.new (Nat.le_refl _)⟩
  refine W.seq (W.runs (fun ts h5 => h5 = h4 ∧ tget ts 0 = .int .i64 n ∧ tget ts 5 = .ptr h3.next 0 ∧ tget ts 6 = .int .u64 (IntKind.u64.wrap n)) ?_ fun ts h5 ⟨eh, e0, e5, e6⟩ => ?_)
  · simp only [ckR_nil, evN_none, stps_nil, stps_cons, stp_some, putR_some, gd_true, wanted_none, dput_some, ev_t, okR_some, evOp, tget_tput, cvIA_int, ↓reduceIte, Nat.reduceEqDiff, Option.map_some, reduceCtorEq, and_self, e0, e5]
  subst eh
  refine W.seq (W.cut (fun ts h6 => h6 = h5 ∧ tget ts 0 = .int .i64 n ∧ tget ts 5 = .ptr h3.next 0 ∧ tget ts 6 = .int .u64 (u : Nat)) (W.seq (W.runs (fun ts h6 => h6 = h5 ∧ tget ts 0 = .int .i64 n ∧ tget ts 5 = .ptr h3.next 0 ∧ tget ts 6 = .int .u64 (IntKind.u64.wrap n) ∧ tget ts 23 = .bool (decide (n < 0))) ?_ fun ts h6 ⟨eh, e0, e5, e6, e23⟩ => W.cond e23 (fun hc => ?_) fun hc => W.skip ?_)) fun ts h6 ⟨eh, e0, e5, e6⟩ => ?_)
  · simp only [ckR_nil, evN_none, stps_nil, stps_cons, stp_some, putR_some, gd_true, wanted_none, dput_some, ev_t, ev_c, okR_some, evOp, tget_tput, bin_lss, ↓reduceIte, Nat.reduceEqDiff, Option.map_some, reduceCtorEq, and_self, e0, e5, e6]
  · subst eh
    simp only [decide_eq_true_eq] at hc
    have w : IntKind.u64.wrap (0 - IntKind.u64.wrap n) = (u : Nat) := by
      rw [wrap_neg l1 hc, wrap_back l1 hc, hu]
      omega
    refine W.runs (fun ts h7 => h7 = h6 ∧ tget ts 0 = .int .i64 n ∧ tget ts 5 = .ptr h3.next 0 ∧ tget ts 6 = .int .u64 (u : Nat)) ?_ fun ts h7 q => q
    simp only [ckR_nil, evN_none, stps_nil, stps_cons, stp_some, putR_some, gd_true, wanted_none, dput_some, ev_t, okR_some, evOp, tget_tput, ↓reduceIte, Nat.reduceEqDiff, Option.map_some, reduceCtorEq, and_self, e0, e5, e6, un_neg, w]
  · simp only [decide_eq_false_iff_not] at hc
    refine ⟨eh, e0, e5, ?_⟩
    rw [e6, IntWalk.u64_in _ (by omega)]
    congr 1
    omega
  subst eh
  have hp4 : ∃ ro, h6.get 0 = some (.cells pow10 1 ro) := by
    obtain ⟨ro, hp⟩ := hp
    exact ⟨ro, by rw [x4.2 0 h0]; exact hp⟩
  refine W.seq (W.calls (fun ts h7 => ∃ m, Wide u m ∧ h7 = h6 ∧ tget ts 0 = .int .i64 n ∧ tget ts 5 = .ptr h3.next 0 ∧ tget ts 6 = .int .u64 (u : Nat) ∧ tget ts 7 = .int .i64 (m : Nat)) ?_ fun ts h7 ⟨m, hW, eh, e0, e5, e6, e7⟩ => ?_)
  · refine G.op ?_
    simp only [ckR_nil, evN_none, stp_some, putR_some, gd_true, wanted_none, dput_some, ev_t, evOp, e6]
    refine G.call ?_
    simp only [dput_some, ev_t, tget_tput, ↓reduceIte, List.map_cons, List.map_nil]
    refine (digits_ok u1 u2 hp4).mono fun v h' ⟨m, ev, hW, eh⟩ => ?_
    subst ev eh
    refine G.op ?_
    simp only [ckR_nil, evN_none, stp_some, putR_some, gd_true, wanted_none, dput_some, ev_t, evOp, tget_tput, ↓reduceIte]
    exact G.done ⟨m, hW, rfl, by simp only [tget_tput, ↓reduceIte, reduceCtorEq, e0], by simp only [tget_tput, ↓reduceIte, Nat.reduceEqDiff, e5], by simp only [tget_tput, ↓reduceIte, Nat.reduceEqDiff, e6], by simp only [tget_tput, ↓reduceIte]⟩
  subst eh
  have hW2 := hW
  obtain ⟨m1, m2, m3, _⟩ := hW2
  rw [z24 m2] at g4
  have w2 : IntKind.i64.wrap (1 + ((m : Nat) : Int)) = ((1 + m : Nat) : Int) := by rw [IntWalk.i64_in _ (by omega)]; omega
  refine W.seq (W.calls (fun ts h8 => Upd h7 h8 h3.next (.cells (.int .u8 0 :: (dv m u ++ List.replicate (23 - m) (.int .u8 0))) 1 false) ∧ tget ts 0 = .int .i64 n ∧ tget ts 5 = .ptr h3.next 0 ∧ tget ts 7 = .int .i64 (m : Nat)) ?_ fun ts h8 ⟨u8, e0, e5, e7⟩ => ?_)
  · refine G.op (G.op (G.op (G.op ?_)))
    simp only [ckR_nil, evN_none, stp_some, putR_some, gd_true, wanted_none, dput_some, ev_t, ev_c, evOp, tget_tput, bin_add, ↓reduceIte, Nat.reduceEqDiff, Option.map_some, e5, e7, w2]
    rw [slA_lo m2 (by simp only [ev_c]) (by simp only [ev_t, tget_tput, ↓reduceIte])]
    simp only [ckR_nil, evN_none, stp_some, putR_some, gd_true, wanted_none, dput_some, ev_t, evOp, tget_tput, ↓reduceIte, Nat.reduceEqDiff, Option.map_some, e6]
    refine G.call ?_
    simp only [dput_some, ev_t, tget_tput, ↓reduceIte, Nat.reduceEqDiff, List.map_cons, List.map_nil]
    refine (fmt_ok (A := List.replicate m (.int .u8 0)) List.length_replicate m2 m3 u2 g4).mono fun v h' ⟨ev, u8⟩ => ?_
    subst ev
    exact G.done ⟨u8, by simp only [tget_tput, ↓reduceIte, reduceCtorEq, e0], by simp only [tget_tput, ↓reduceIte, Nat.reduceEqDiff, e5], by simp only [tget_tput, ↓reduceIte, Nat.reduceEqDiff, e7]⟩
  have g8 := u8.get
  have hdl := dv_len m u
  have hdb := bytesOf_dv m u
  have hdg := dg_dw hW u1
  refine W.seq (W.seq (W.runs (fun ts h9 => h9 = h8 ∧ tget ts 5 = .ptr h3.next 0 ∧ tget ts 7 = .int .i64 (m : Nat) ∧ tget ts 34 = .bool (decide (n < 0))) ?_ fun ts h9 ⟨eh, e5, e7, e34⟩ => ?_))
  · simp only [ckR_nil, evN_none, stps_nil, stps_cons, stp_some, putR_some, gd_true, wanted_none, dput_some, ev_t, ev_c, okR_some, evOp, tget_tput, bin_lss, ↓reduceIte, Nat.reduceEqDiff, Option.map_some, and_self, e0, e5, e7]
  subst eh
  refine W.cond e34 (fun hc => ?_) fun hc => W.skip ?_
  · simp only [decide_eq_true_eq] at hc
    obtain ⟨h10, x1, v1⟩ := wr_step (P := []) (l := [.int .u8 0]) (o := 0) (j := 0) (v := .int .u8 45) g8 (by simp) rfl
    replace v1 : Upd h9 h10 h3.next (.cells (.int .u8 45 :: (dv m u ++ List.replicate (23 - m) (.int .u8 0))) 1 false) := v1
    have ia : iadrR 24 1 (.ptr h3.next 0) (.int .i64 0) = some (.ptr h3.next 0) := rfl
    refine W.seq (W.runs (fun ts h11 => h11 = h10 ∧ tget ts 5 = .ptr h3.next 0 ∧ tget ts 7 = .int .i64 (m : Nat)) ?_ fun ts h11 ⟨eh, e5, e7⟩ => ?_)
    · simp only [ckR_nil, evN_none, stps_nil, stps_cons, stp_some, putR_some, gd_true, wanted_none, dput_some, dput_none, ev_t, ev_c, okR_some, evOp, tget_tput, storeA_ptr, ↓reduceIte, Nat.reduceEqDiff, Option.map_some, Nat.zero_add, cells_int, one_int, List.length_cons, List.length_nil, List.all_cons, List.all_nil, Bool.and_true, and_self, AV.un, e5, e7, ia, x1]
    subst eh
    have hr : rdCells h11 h3.next 0 (1 + m) = some (.int .u8 45 :: dv m u) := by
      rw [rdCells_of v1.get, if_pos (by simp; omega), List.drop_zero, Nat.add_comm, List.take_succ_cons, List.take_append_of_le_length (by omega), List.take_of_length_le (by omega)]
    have hb : bytesOf (.int .u8 45 :: dv m u) = some (dec n) := by
      have : bytesOf (.int .u8 45 :: dv m u) = (bytesOf (dv m u)).map (UInt8.ofNat (45 : Int).toNat :: ·) := rfl
      rw [this, hdb]
      unfold dec
      rw [if_pos hc, ← hu, hdg]
      rfl
    refine W.seq (W.runs (fun ts h12 => h12 = h11 ∧ tget ts 4 = .str (dec n)) ?_ fun ts h12 ⟨eh, e4⟩ => W.ret ⟨_, by simp only [Am.results, res35, rdAll, rdRes, e4], rfl, by rw [eh]; exact x4.trans ((u8.ext (Nat.le_refl _)).trans (v1.ext (Nat.le_refl _)))⟩)
    simp only [ckR_nil, evN_none, stps_nil, stps_cons, stp_some, putR_some, gd_true, wanted_none, dput_some, ev_t, ev_c, evOp, tget_tput, bin_add, ↓reduceIte, Nat.reduceEqDiff, Option.map_some, e5, e7, w2]
    rw [slA_all m2 (by simp only [ev_t, tget_tput, ↓reduceIte])]
    simp only [ckR_nil, evN_none, stp_some, putR_some, gd_true, wanted_none, dput_some, ev_t, okR_some, evOp, tget_tput, cvBSA_sl, ↓reduceIte, Option.map_some, and_self, hr, hb]
  · simp only [decide_eq_false_iff_not] at hc
    have hr : rdCells h9 h3.next 1 m = some (dv m u) := by
      rw [rdCells_of g8, if_pos (by simp; omega)]
      simp only [List.drop_succ_cons, List.drop_zero]
      rw [List.take_append_of_le_length (by omega), List.take_of_length_le (by omega)]
    have hb : bytesOf (dv m u) = some (dec n) := by
      rw [hdb]
      unfold dec
      rw [if_neg hc, ← hu, hdg]
    refine W.seq (W.runs (fun ts h12 => h12 = h9 ∧ tget ts 4 = .str (dec n)) ?_ fun ts h12 ⟨eh, e4⟩ => W.ret ⟨_, by simp only [Am.results, res35, rdAll, rdRes, e4], rfl, by rw [eh]; exact x4.trans (u8.ext (Nat.le_refl _))⟩)
    simp only [ckR_nil, evN_none, stps_nil, stps_cons, stp_some, putR_some, gd_true, wanted_none, dput_some, ev_t, ev_c, evOp, tget_tput, bin_add, ↓reduceIte, Nat.reduceEqDiff, Option.map_some, e5, e7, w2]
    rw [slA_lo m2 (by simp only [ev_c]) (by simp only [ev_t, tget_tput, ↓reduceIte])]
    simp only [ckR_nil, evN_none, stp_some, putR_some, gd_true, wanted_none, dput_some, ev_t, okR_some, evOp, tget_tput, cvBSA_sl, ↓reduceIte, Option.map_some, and_self, hr, hb]

theorem itoa1_ok {h : AH} {n : Int} (l1 : -2 ^ 63 ≤ n) (l2 : n < 2 ^ 63) (hp : ∃ ro, h.get 0 = some (.cells pow10 1 ro)) (h0 : 0 < h.next) : C prg 18 [.int .i64 n] h fun v h' => v = .str (dec n) ∧ Ext h.next h h' := by
  refine C.func pf18 ?_
  refine W.seq (W.runs (fun ts h1 => h1 = h ∧ tget ts 0 = .int .i64 n) ?_ fun ts h1 ⟨eh, e0⟩ => ?_)
  · simp only [ckR_nil, evN_none, stps_nil, stps_cons, stp_some, putR_some, gd_true, wanted_none, dput_some, ev_c, okR_some, evOp, tget_tput, ↓reduceIte, reduceCtorEq, and_self, initTm]
  subst eh
  refine W.seq (W.calls (fun ts h4 => Ext h1.next h1 h4 ∧ tget ts 2 = .str (dec n)) ?_ fun ts h4 ⟨x4, e4⟩ => W.ret ⟨_, by simp only [Am.results, rdAll, rdRes, e4, rf18], rfl, x4⟩)
  refine G.op ?_
  simp only [ckR_nil, evN_none, stp_some, putR_some, gd_true, wanted_none, dput_some, ev_t, evOp, e0]
  refine G.call ?_
  simp only [dput_some, ev_t, ev_c, tget_tput, ↓reduceIte, List.map_cons, List.map_nil]
  refine (format_ok l1 l2 hp h0).mono fun v h' ⟨ev, x⟩ => ?_
  subst ev
  refine G.op ?_
  simp only [ckR_nil, evN_none, stp_some, putR_some, gd_true, wanted_none, dput_some, ev_t, evOp, tget_tput, ↓reduceIte]
  refine G.done ?_
  simp only [tget_tput, ↓reduceIte, and_true]
  exact x

theorem itoa_ok {h : AH} {n : Int} (l1 : -2 ^ 63 ≤ n) (l2 : n < 2 ^ 63) (hp : ∃ ro, h.get 0 = some (.cells pow10 1 ro)) (h0 : 0 < h.next) : C prg 9 [.int .i64 n] h fun v h' => v = .str (dec n) ∧ Ext h.next h h' := by
  refine C.func pf9 ?_
  refine W.seq (W.runs (fun ts h1 => h1 = h ∧ tget ts 0 = .int .i64 n) ?_ fun ts h1 ⟨eh, e0⟩ => ?_)
  · simp only [ckR_nil, evN_none, stps_nil, stps_cons, stp_some, putR_some, gd_true, wanted_none, dput_some, ev_c, okR_some, evOp, tget_tput, ↓reduceIte, reduceCtorEq, and_self, initTm]
  subst eh
  refine W.seq (W.calls (fun ts h4 => Ext h1.next h1 h4 ∧ tget ts 2 = .str (dec n)) ?_ fun ts h4 ⟨x4, e4⟩ => W.ret ⟨_, by simp only [Am.results, rdAll, rdRes, e4, rf9], rfl, x4⟩)
  refine G.op ?_
  simp only [ckR_nil, evN_none, stp_some, putR_some, gd_true, wanted_none, dput_some, ev_t, evOp, e0]
  refine G.call ?_
  simp only [dput_some, ev_t, tget_tput, ↓reduceIte, List.map_cons, List.map_nil]
  refine (itoa1_ok l1 l2 hp h0).mono fun v h' ⟨ev, x⟩ => ?_
  subst ev
  refine G.op ?_
  simp only [ckR_nil, evN_none, stp_some, putR_some, gd_true, wanted_none, dput_some, ev_t, evOp, tget_tput, ↓reduceIte]
  refine G.done ?_
  simp only [tget_tput, ↓reduceIte, and_true]
  exact x

/-- ref.Digits -/
theorem refdig_ok {h : AH} {n : Int} (l1 : -2 ^ 63 ≤ n) (l2 : n < 2 ^ 63) : C prg 12 [.int .i64 n] h fun v h' => v = .str (dec n) ∧ h' = h := by
  refine C.func pf12 ?_
  refine W.seq (W.runs (fun ts h1 => h1 = h ∧ tget ts 0 = .int .i64 n) ?_ fun ts h1 ⟨eh, e0⟩ => ?_)
  · simp only [ckR_nil, evN_none, stps_nil, stps_cons, stp_some, putR_some, gd_true, wanted_none, dput_some, ev_c, okR_some, evOp, tget_tput, ↓reduceIte, reduceCtorEq, and_self, initTm]
  subst eh
  refine W.seq (W.seq (W.runs (fun ts h2 => h2 = h1 ∧ tget ts 0 = .int .i64 n ∧ tget ts 6 = .bool (decide (0 ≤ n))) ?_ fun ts h2 ⟨eh, e0, e6⟩ => W.cond e6 (fun hc => ?_) fun hc => W.skip ?_))
  · simp only [ckR_nil, evN_none, stps_nil, stps_cons, stp_some, putR_some, gd_true, wanted_none, dput_some, ev_t, ev_c, okR_some, evOp, tget_tput, bin_geq, ↓reduceIte, Option.map_some, reduceCtorEq, and_self, e0]
  · subst eh
    simp only [decide_eq_true_eq] at hc
    obtain ⟨k, rfl⟩ : ∃ k : Nat, n = k := ⟨n.toNat, by omega⟩
    have hd : dec (k : Nat) = dgs 20 k [] := by
      unfold dec
      rw [if_neg (by omega)]
      rfl
    refine W.seq (W.calls (fun ts h4 => h4 = h2 ∧ tget ts 2 = .str (dgs 20 k [])) ?_ fun ts h4 ⟨eh, e4⟩ => W.ret ⟨.str (dgs 20 k []), by simp only [Am.results, rdAll, rdRes, e4, rf12], by rw [hd], eh⟩)
    refine G.op ?_
    simp only [ckR_nil, evN_none, stp_some, putR_some, gd_true, wanted_none, dput_some, ev_t, evOp, e0]
    refine G.call ?_
    simp only [dput_some, ev_t, tget_tput, ↓reduceIte, List.map_cons, List.map_nil]
    refine (int_ok (n := k) (by omega)).mono fun v h' ⟨ev, eh⟩ => ?_
    subst ev eh
    refine G.op ?_
    simp only [ckR_nil, evN_none, stp_some, putR_some, gd_true, wanted_none, dput_some, ev_t, evOp, tget_tput, ↓reduceIte]
    refine G.done ?_
    simp only [tget_tput, ↓reduceIte, and_self]
  subst eh
  simp only [decide_eq_false_iff_not] at hc
  obtain ⟨u, hu⟩ : ∃ u, u = n.natAbs := ⟨_, rfl⟩
  have hn : n = -((u : Nat) : Int) := by omega
  have hd : dec n = 45 :: dg u := by
    unfold dec
    rw [if_pos (by omega), hu]
  have r1 : n.tmod 10 = -((u % 10 : Nat) : Int) := by
    rw [hn, Int.neg_tmod]
    rfl
  have r2 : n.tdiv 10 = -((u / 10 : Nat) : Int) := by
    rw [hn, Int.neg_tdiv]
    rfl
  have w1 : IntKind.i64.wrap (0 - n.tmod 10) = ((u % 10 : Nat) : Int) := by rw [r1, IntWalk.i64_in _ (by omega)]; omega
  have w2 : IntKind.i64.wrap (0 - IntKind.i64.wrap (n.tdiv 10)) = ((u / 10 : Nat) : Int) := by
    rw [r2, IntWalk.i64_in (-((u / 10 : Nat) : Int)) (by omega), IntWalk.i64_in _ (by omega)]
    omega
  refine W.seq (W.runs (fun ts h3 => h3 = h2 ∧ tget ts 0 = .int .i64 n ∧ tget ts 3 = .int .i64 ((u % 10 : Nat) : Int)) ?_ fun ts h3 ⟨eh, e0, e3⟩ => ?_)
  · generalize ((u % 10 : Nat) : Int) = q at *
    simp only [ckR_nil, evN_none, stps_nil, stps_cons, stp_some, putR_some, gd_true, wanted_none, dput_some, ev_t, ev_c, okR_some, evOp, tget_tput, bin_rem, ↓reduceIte, Int.reduceEq, Option.map_some, reduceCtorEq, and_self, e0, un_neg, w1]
  subst eh
  refine W.seq (W.runs (fun ts h4 => h4 = h3 ∧ tget ts 3 = .int .i64 ((u % 10 : Nat) : Int) ∧ tget ts 4 = .int .i64 ((u / 10 : Nat) : Int)) ?_ fun ts h4 ⟨eh, e3, e4⟩ => ?_)
  · generalize ((u % 10 : Nat) : Int) = q at *
    generalize ((u / 10 : Nat) : Int) = q2 at *
    simp only [ckR_nil, evN_none, stps_nil, stps_cons, stp_some, putR_some, gd_true, wanted_none, dput_some, ev_t, ev_c, okR_some, evOp, tget_tput, bin_quo, ↓reduceIte, Nat.reduceEqDiff, Int.reduceEq, Option.map_some, and_self, e0, e3, un_neg, w2]
  subst eh
  have d0 : decide (((u / 10 : Nat) : Int) = 0) = decide (u < 10) := by simp only [decide_eq_decide]; omega
  have la := dg_len (u % 10)
  have lb := dg_len (u / 10)
  refine W.seq (W.seq (W.runs (fun ts h5 => h5 = h4 ∧ tget ts 3 = .int .i64 ((u % 10 : Nat) : Int) ∧ tget ts 4 = .int .i64 ((u / 10 : Nat) : Int) ∧ tget ts 16 = .bool (decide (u < 10))) ?_ fun ts h5 ⟨eh, e3, e4, e16⟩ => W.cond e16 (fun hq => ?_) fun hq => W.skip ?_))
  · generalize ((u % 10 : Nat) : Int) = q at *
    generalize ((u / 10 : Nat) : Int) = q2 at *
    simp only [ckR_nil, evN_none, stps_nil, stps_cons, stp_some, putR_some, gd_true, wanted_none, dput_some, ev_t, ev_c, okR_some, evOp, tget_tput, bin_eql, ↓reduceIte, Nat.reduceEqDiff, Option.map_some, and_self, e3, e4, d0]
  · subst eh
    simp only [decide_eq_true_eq] at hq
    have hm : u % 10 = u := Nat.mod_eq_of_lt hq
    refine W.seq (W.calls (fun ts h6 => h6 = h5 ∧ tget ts 2 = .str (dec n)) ?_ fun ts h6 ⟨eh, e2⟩ => W.ret ⟨_, by simp only [Am.results, rdAll, rdRes, e2, rf12], rfl, eh⟩)
    refine G.op ?_
    simp only [ckR_nil, evN_none, stp_some, putR_some, gd_true, wanted_none, dput_some, ev_t, evOp, e3]
    refine G.call ?_
    simp only [dput_some, ev_t, tget_tput, ↓reduceIte, List.map_cons, List.map_nil]
    refine (int_ok (n := u % 10) (by omega)).mono fun v h' ⟨ev, eh⟩ => ?_
    subst ev eh
    have c1 : 1 + (dgs 20 (u % 10) []).length < 2 ^ 62 := by
      have : (dgs 20 (u % 10) []).length ≤ 20 := la
      omega
    refine G.op (G.op ?_)
    simp only [ckR_nil, evN_none, stp_some, putR_some, gd_true, wanted_none, dput_some, ev_t, ev_c, evOp, tget_tput, bin_sadd, ↓reduceIte, Option.map_some, Nat.zero_add, List.length_cons, List.length_nil, List.cons_append, List.nil_append, c1]
    refine G.done ⟨rfl, ?_⟩
    simp only [tget_tput, ↓reduceIte, hd]
    rw [hm]
    rfl
  · subst eh
    simp only [decide_eq_false_iff_not] at hq
    have hl := dg_last (u := u) (by omega) (by omega)
    refine W.seq (W.calls (fun ts h6 => h6 = h5 ∧ tget ts 2 = .str (dec n)) ?_ fun ts h6 ⟨eh, e2⟩ => W.ret ⟨_, by simp only [Am.results, rdAll, rdRes, e2, rf12], rfl, eh⟩)
    refine G.op ?_
    simp only [ckR_nil, evN_none, stp_some, putR_some, gd_true, wanted_none, dput_some, ev_t, evOp, e4]
    refine G.call ?_
    simp only [dput_some, ev_t, tget_tput, ↓reduceIte, List.map_cons, List.map_nil]
    refine (int_ok (n := u / 10) (by omega)).mono fun v h' ⟨ev, eh⟩ => ?_
    subst ev eh
    have c1 : 1 + (dgs 20 (u / 10) []).length < 2 ^ 62 := by
      have : (dgs 20 (u / 10) []).length ≤ 20 := lb
      omega
    refine G.op (G.op ?_)
    simp only [ckR_nil, evN_none, stp_some, putR_some, gd_true, wanted_none, dput_some, ev_t, ev_c, evOp, tget_tput, bin_sadd, ↓reduceIte, Nat.reduceEqDiff, Option.map_some, Nat.zero_add, List.length_cons, List.length_nil, List.cons_append, List.nil_append, c1, e3]
    refine G.call ?_
    simp only [dput_some, ev_t, tget_tput, ↓reduceIte, List.map_cons, List.map_nil]
    refine (int_ok (n := u % 10) (by omega)).mono fun v h' ⟨ev, eh⟩ => ?_
    subst ev eh
    have c2 : (dgs 20 (u / 10) []).length + 1 + (dgs 20 (u % 10) []).length < 2 ^ 62 := by
      have h1 : (dgs 20 (u % 10) []).length ≤ 20 := la
      have h2 : (dgs 20 (u / 10) []).length ≤ 20 := lb
      omega
    refine G.op (G.op ?_)
    simp only [ckR_nil, evN_none, stp_some, putR_some, gd_true, wanted_none, dput_some, ev_t, evOp, tget_tput, bin_sadd, ↓reduceIte, Nat.reduceEqDiff, Option.map_some, List.length_cons, List.cons_append, c2]
    refine G.done ⟨rfl, ?_⟩
    simp only [tget_tput, ↓reduceIte, hd, hl]
    rfl

end Go.Proofs.YtjcbcmonmmfllaaGreatDoor
