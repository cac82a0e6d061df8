/-
  strconv.Itoa of any number: its digits.
-/
import Derived.Test.YtjcbcmonmmfllaaGreatDoorDec
import Derived.Test.YtjcbcmonmmfllaaGreatDoorBld
namespace Go.Proofs.YtjcbcmonmmfllaaGreatDoor
set_option linter.unusedVariables false
set_option linter.unusedSimpArgs false
open Go.Am

theorem shr_i64 {a k : Nat} (hk : k < 64) : binA .shr .no (.int .i64 (a : Nat)) (.int .u64 (k : Nat)) = some (.int .i64 ((a / 2 ^ k : Nat) : Int)) := by
  have h1 : min ((k : Nat) : Int).toNat IntKind.i64.bits = k := by
    have : IntKind.i64.bits = 64 := rfl
    rw [this, Int.toNat_natCast]
    omega
  have h2 : ((a : Nat) : Int).fdiv (2 ^ k) = ((a / 2 ^ k : Nat) : Int) := by
    rw [Int.fdiv_eq_ediv_of_nonneg _ (Int.le_of_lt (Int.pow_pos (by decide)))]
    simp
  have : binA .shr .no (.int .i64 (a : Nat)) (.int .u64 (k : Nat)) = shft .shr .i64 (a : Nat) (k : Nat) := by simp [binA]
  rw [this]
  have hk0 : ¬ ((k : Nat) : Int) < 0 := by omega
  simp only [shft, h1, h2, hk0, if_false]

/-- about the logarithm -/
def lg (n : Nat) : Nat := n * 78913 / 2 ^ 18

theorem log10_ok {h : AH} {n : Nat} (hn : n ≤ 64) : C prg 101 [.int .i64 (n : Nat)] h fun v h' => v = .int .i64 (lg n : Nat) ∧ h' = h := by
  refine C.func pf101 ?_
  refine W.seq (W.runs (fun ts h1 => h1 = h ∧ tget ts 0 = .int .i64 (n : Nat)) ?_ fun ts h1 ⟨eh, e0⟩ => ?_)
  · simp only [ckR_nil, evN_none, stps_nil, stps_cons, stp_some, putR_some, gd_true, wanted_none, dput_some, ev_c, okR_some, evOp, tget_tput, ↓reduceIte, reduceCtorEq, and_self, initTm]
  subst eh
  have w : IntKind.i64.wrap (((n : Nat) : Int) * 78913) = ((n * 78913 : Nat) : Int) := by rw [IntWalk.i64_in _ (by omega)]; omega
  have hb : binA .shr .no (.int .i64 ((n * 78913 : Nat) : Int)) (.int .u64 18) = some (.int .i64 (lg n : Nat)) := shr_i64 (a := n * 78913) (k := 18) (by decide)
  generalize ((n * 78913 : Nat) : Int) = q at *
  refine W.seq (W.runs (fun ts h5 => h5 = h1 ∧ tget ts 2 = .int .i64 (lg n : Nat)) ?_ fun ts h5 ⟨eh, e2⟩ => W.ret ⟨_, by simp only [Am.results, rdAll, rdRes, e2, rf101], rfl, eh⟩)
  simp only [ckR_nil, evN_none, stps_nil, stps_cons, stp_some, putR_some, gd_true, wanted_none, dput_some, ev_t, ev_c, okR_some, evOp, tget_tput, bin_mul, ↓reduceIte, Option.map_some, and_self, e0, w, hb]

theorem b2i_ok {h : AH} {b : Bool} : C prg 103 [.bool b] h fun v h' => v = .int .i64 (if b then 1 else 0) ∧ h' = h := by
  refine C.func pf103 ?_
  refine W.seq (W.runs (fun ts h1 => h1 = h ∧ tget ts 0 = .bool b) ?_ fun ts h1 ⟨eh, e0⟩ => ?_)
  · simp only [ckR_nil, evN_none, stps_nil, stps_cons, stp_some, putR_some, gd_true, wanted_none, dput_some, ev_c, okR_some, evOp, tget_tput, ↓reduceIte, reduceCtorEq, and_self, initTm]
  subst eh
  refine W.seq (W.seq (W.runs (fun ts h2 => h2 = h1 ∧ tget ts 3 = .bool b) ?_ fun ts h2 ⟨eh, e3⟩ => ?_))
  · simp only [ckR_nil, evN_none, stps_nil, stps_cons, stp_some, putR_some, gd_true, wanted_none, dput_some, ev_t, okR_some, evOp, tget_tput, ↓reduceIte, and_self, e0]
  subst eh
  refine W.cond e3 (fun hb => ?_) fun hb => W.skip ?_
  · subst hb
    refine W.seq (W.runs (fun ts h5 => h5 = h2 ∧ tget ts 2 = .int .i64 1) ?_ fun ts h5 ⟨eh, e2⟩ => W.ret ⟨.int .i64 1, by simp only [Am.results, rdAll, rdRes, e2, rf103], rfl, eh⟩)
    simp only [ckR_nil, evN_none, stps_nil, stps_cons, stp_some, putR_some, gd_true, wanted_none, dput_some, ev_c, okR_some, evOp, tget_tput, ↓reduceIte, and_self]
  · subst hb
    refine W.seq (W.runs (fun ts h5 => h5 = h2 ∧ tget ts 2 = .int .i64 0) ?_ fun ts h5 ⟨eh, e2⟩ => W.ret ⟨.int .i64 0, by simp only [Am.results, rdAll, rdRes, e2, rf103], rfl, eh⟩)
    simp only [ckR_nil, evN_none, stps_nil, stps_cons, stp_some, putR_some, gd_true, wanted_none, dput_some, ev_c, okR_some, evOp, tget_tput, ↓reduceIte, and_self]

theorem lgs : ((List.range 65).all fun n => n == 0 || (decide (lg n ≤ 19) && decide (2 ^ n ≤ 10 ^ (lg n + 1)) && (lg n == 0 || decide (10 ^ (lg n - 1) ≤ 2 ^ (n - 1))))) = true := by decide +kernel

theorem ev_gl {ts : Tm} {n : Nat} : RO.ev ts (.gl n) = .ptr n 0 := rfl

/-- the number has so many digits -/
def Wide (u m : Nat) : Prop := 1 ≤ m ∧ m ≤ 20 ∧ u < 10 ^ m ∧ (m = 1 ∨ 10 ^ (m - 1) ≤ u)

theorem digits_ok {h : AH} {u : Nat} (k1 : 1 ≤ u) (k2 : u < 2 ^ 64) (hg : ∃ ro, h.get 0 = some (.cells pow10 1 ro)) : C prg 66 [.int .u64 (u : Nat)] h fun v h' => ∃ m, v = .int .i64 (m : Nat) ∧ Wide u m ∧ h' = h := by
  obtain ⟨ro, hg⟩ := hg
  refine C.func pf66 ?_
  refine W.seq (W.runs (fun ts h1 => h1 = h ∧ tget ts 0 = .int .u64 (u : Nat)) ?_ fun ts h1 ⟨eh, e0⟩ => ?_)
  · simp only [ckR_nil, evN_none, stps_nil, stps_cons, stp_some, putR_some, gd_true, wanted_none, dput_some, ev_c, okR_some, evOp, tget_tput, ↓reduceIte, reduceCtorEq, and_self, initTm]
  subst eh
  have hlu : Nat.log2 u < 64 := (Nat.log2_lt (by omega)).2 k2
  have hlo : 2 ^ Nat.log2 u ≤ u := Nat.log2_self_le (by omega)
  have hhi : u < 2 ^ (Nat.log2 u + 1) := Nat.lt_log2_self
  have hl := List.all_eq_true.1 lgs (Nat.log2 u + 1) (List.mem_range.2 (by omega))
  have hn0 : (Nat.log2 u + 1 == 0) = false := by simp
  rw [hn0, Bool.false_or] at hl
  simp only [Bool.and_eq_true, Bool.or_eq_true, decide_eq_true_eq, beq_iff_eq, Nat.add_sub_cancel] at hl
  obtain ⟨⟨q1, q2⟩, q3⟩ := hl
  refine W.seq (W.calls (fun ts h2 => h2 = h1 ∧ tget ts 0 = .int .u64 (u : Nat) ∧ tget ts 3 = .int .i64 (lg (Nat.log2 u + 1) : Nat)) ?_ fun ts h2 ⟨eh, e0, e3⟩ => ?_)
  · refine G.op ?_
    simp only [ckR_nil, evN_none, stp_some, putR_some, gd_true, wanted_none, dput_some, ev_t, evOp, e0]
    refine G.call ?_
    simp only [dput_some, ev_t, tget_tput, ↓reduceIte, List.map_cons, List.map_nil]
    refine (len64_ok k1 k2).mono fun v h' ⟨ev, eh⟩ => ?_
    subst ev eh
    refine G.call ?_
    simp only [dput_some, ev_t, tget_tput, ↓reduceIte, List.map_cons, List.map_nil]
    refine (log10_ok (by omega)).mono fun v h' ⟨ev, eh⟩ => ?_
    subst ev eh
    refine G.op ?_
    simp only [ckR_nil, evN_none, stp_some, putR_some, gd_true, wanted_none, dput_some, ev_t, evOp, tget_tput, ↓reduceIte]
    exact G.done ⟨rfl, by simp only [tget_tput, ↓reduceIte, reduceCtorEq, e0], by simp only [tget_tput, ↓reduceIte]⟩
  subst eh
  generalize lg (Nat.log2 u + 1) = e at *
  have hp := List.all_eq_true.1 powZ_at e (List.mem_range.2 (by omega))
  rw [beq_iff_eq] at hp
  have r1 : rdCells h2 0 e 1 = some [.int .u64 ((10 ^ e : Nat) : Int)] := by
    have hel : e < pow10.length := by
      have : pow10.length = 20 := rfl
      omega
    rw [rdCells_of hg, if_pos (by omega), List.drop_eq_getElem_cons hel]
    have : pow10[e]? = some (.int .u64 ((10 ^ e : Nat) : Int)) := by
      unfold pow10
      rw [List.getElem?_map, hp]
      rfl
    have h3 := (List.getElem?_eq_some_iff.1 this).2
    rw [h3]
    rfl
  have hi : iadrR 20 1 (.ptr 0 0) (.int .i64 (e : Nat)) = some (.ptr 0 e) := by
    have c : (0 : Int) ≤ (e : Nat) ∧ ((e : Nat) : Int) < ((20 : Nat) : Int) := by omega
    simp only [iadrR, idx?, c, and_self, if_true, Int.toNat_natCast, Option.map_some, Nat.zero_add, Nat.mul_one]
  have d1 : decide (((10 ^ e : Nat) : Int) ≤ (u : Nat)) = decide (10 ^ e ≤ u) := by simp only [decide_eq_decide]; omega
  generalize ((10 ^ e : Nat) : Int) = p at r1 d1
  have w1 : IntKind.i64.wrap (((e : Nat) : Int) + (if decide (10 ^ e ≤ u) = true then 1 else 0)) = ((e + (if 10 ^ e ≤ u then 1 else 0) : Nat) : Int) := by
    by_cases q : 10 ^ e ≤ u
    · simp only [q, decide_true, if_true]; exact IntWalk.i64_in _ (by omega)
    · simp only [q, decide_false, if_false, Bool.false_eq_true]; exact IntWalk.i64_in _ (by omega)
  refine W.seq (W.calls (fun ts h3 => h3 = h2 ∧ tget ts 2 = .int .i64 ((e + (if 10 ^ e ≤ u then 1 else 0) : Nat) : Int)) ?_ fun ts h3 ⟨eh, e2⟩ => W.ret ⟨.int .i64 ((e + (if 10 ^ e ≤ u then 1 else 0) : Nat) : Int), by simp only [Am.results, rdAll, rdRes, e2, rf66], e + (if 10 ^ e ≤ u then 1 else 0), rfl, ?_, eh⟩)
  · refine G.op (G.op (G.op (G.op (G.op (G.op ?_)))))
    simp only [ckR_nil, evN_none, stp_some, putR_some, gd_true, wanted_none, dput_some, ev_t, evOp, tget_tput, loadA_ptr, packA_one, bin_geq, ↓reduceIte, Nat.reduceEqDiff, Option.map_some, reduceCtorEq, e0, e3, ev_gl, hi, r1, d1]
    refine G.call ?_
    simp only [dput_some, ev_t, tget_tput, ↓reduceIte, List.map_cons, List.map_nil]
    refine b2i_ok.mono fun v h' ⟨ev, eh⟩ => ?_
    subst ev eh
    refine G.op (G.op ?_)
    simp only [ckR_nil, evN_none, stp_some, putR_some, gd_true, wanted_none, dput_some, ev_t, evOp, tget_tput, bin_add, ↓reduceIte, Nat.reduceEqDiff, Option.map_some]
    rw [w1]
    exact G.done ⟨rfl, by simp only [tget_tput, ↓reduceIte]⟩
  · by_cases q : 10 ^ e ≤ u
    · simp only [q, if_true]
      exact ⟨by omega, by omega, by omega, .inr (by simpa using q)⟩
    · simp only [q, if_false, Nat.add_zero]
      have he : e ≠ 0 := by rintro rfl; simp at q; omega
      refine ⟨by omega, by omega, by omega, .inr ?_⟩
      rcases q3 with q3 | q3
      · exact absurd q3 he
      · omega

/-! ### the digits, so many -/
def dv : Nat → Nat → List AV
  | 0, _ => []
  | m + 1, u => dv m (u / 10) ++ [.int .u8 ((48 + u % 10 : Nat) : Int)]

theorem dv_len : ∀ (m u : Nat), (dv m u).length = m
  | 0, _ => rfl
  | m + 1, u => by simp [dv, dv_len m]

theorem dv_add (a : Nat) : ∀ (b u : Nat), dv (a + b) u = dv a (u / 10 ^ b) ++ dv b u
  | 0, u => by simp [dv]
  | b + 1, u => by
    have := dv_add a b (u / 10)
    rw [← Nat.add_assoc, dv, this, dv, List.append_assoc, Nat.div_div_eq_div_mul, Nat.pow_succ, Nat.mul_comm]

theorem wr_step {h : AH} {s o j : Nat} {P l D : List AV} {v : AV} (hg : h.get s = some (.cells (P ++ (l ++ D)) 1 false)) (hj : j < l.length) (ho : o = P.length + j) :
    ∃ h', wrCells h s o [v] = some h' ∧ Upd h h' s (.cells (P ++ (l.set j v ++ D)) 1 false) := by
  subst ho
  have e : splice (P ++ (l ++ D)) (P.length + j) [v] = P ++ (l.set j v ++ D) := by
    unfold splice
    rw [List.take_append, List.drop_append]
    have h1 : P.length + j - P.length = j := by omega
    have h2 : P.length + j + [v].length - P.length = j + 1 := by simp; omega
    have h3 : P.take (P.length + j) = P := List.take_of_length_le (by omega)
    have h4 : P.drop (P.length + j + [v].length) = [] := List.drop_of_length_le (by simp; omega)
    rw [h1, h2, h3, h4, List.take_append_of_le_length (by omega), List.drop_append_of_le_length (by omega), List.set_eq_take_append_cons_drop, if_pos hj]
    simp
  refine ⟨_, by rw [wrCells_of hg, if_pos (by simp; omega)], ?_⟩
  rw [e]
  exact Upd.put hg

theorem iadr_at {s m cap x : Nat} (hx : x < m) : iadrL 1 (.sl s 1 m cap) (.int .i64 (x : Nat)) = some (.ptr s (1 + x)) := by
  have c : (0 : Int) ≤ (x : Nat) ∧ ((x : Nat) : Int) < (m : Nat) := by omega
  simp only [iadrL_sl, idx?, c, and_self, if_true, Int.toNat_natCast, Option.map_some, Nat.mul_one]

theorem eight {α : Type} {l : List α} (h : l.length = 8) : ∃ a b c d e f g k, l = [a, b, c, d, e, f, g, k] := by
  match l, h with
  | [a, b, c, d, e, f, g, k], _ => exact ⟨a, b, c, d, e, f, g, k, rfl⟩
theorem four {α : Type} {l : List α} (h : l.length = 4) : ∃ a b c d, l = [a, b, c, d] := by
  match l, h with
  | [a, b, c, d], _ => exact ⟨a, b, c, d, rfl⟩
theorem two {α : Type} {l : List α} (h : l.length = 2) : ∃ a b, l = [a, b] := by
  match l, h with
  | [a, b], _ => exact ⟨a, b, rfl⟩
theorem one {α : Type} {l : List α} (h : l.length = 1) : ∃ a, l = [a] := by
  match l, h with
  | [a], _ => exact ⟨a, rfl⟩

theorem dv8 (u : Nat) : dv 8 u = [.int .u8 ((48 + u % 100000000 / 10000 / 100 / 10 : Nat) : Int), .int .u8 ((48 + u % 100000000 / 10000 / 100 % 10 : Nat) : Int), .int .u8 ((48 + u % 100000000 / 10000 % 100 / 10 : Nat) : Int), .int .u8 ((48 + u % 100000000 / 10000 % 100 % 10 : Nat) : Int), .int .u8 ((48 + u % 100000000 % 10000 / 100 / 10 : Nat) : Int), .int .u8 ((48 + u % 100000000 % 10000 / 100 % 10 : Nat) : Int), .int .u8 ((48 + u % 100000000 % 10000 % 100 / 10 : Nat) : Int), .int .u8 ((48 + u % 100000000 % 10000 % 100 % 10 : Nat) : Int)] := by
  simp only [dv, List.nil_append, List.cons_append, List.cons.injEq, AV.int.injEq, true_and, and_true]
  omega

theorem dv4 (u : Nat) : dv 4 u = [.int .u8 ((48 + u % 10000 / 100 / 10 : Nat) : Int), .int .u8 ((48 + u % 10000 / 100 % 10 : Nat) : Int), .int .u8 ((48 + u % 10000 % 100 / 10 : Nat) : Int), .int .u8 ((48 + u % 10000 % 100 % 10 : Nat) : Int)] := by
  simp only [dv, List.nil_append, List.cons_append, List.cons.injEq, AV.int.injEq, true_and, and_true]
  omega

theorem dv2 (u : Nat) : dv 2 u = [.int .u8 ((48 + u % 100 / 10 : Nat) : Int), .int .u8 ((48 + u % 100 % 10 : Nat) : Int)] := by
  simp only [dv, List.nil_append, List.cons_append, List.cons.injEq, AV.int.injEq, true_and, and_true]
  omega

end Go.Proofs.YtjcbcmonmmfllaaGreatDoor
