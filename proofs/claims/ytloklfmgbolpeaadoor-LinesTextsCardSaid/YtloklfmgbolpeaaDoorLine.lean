/-
  lines.line, of two numbers.
-/
import Derived.Test.YtloklfmgbolpeaaDoorJoin
namespace Go.Proofs.YtloklfmgbolpeaaDoor
set_option linter.unusedVariables false
set_option linter.unusedSimpArgs false
open Go.Am

/-- a number's digits -/
def dg (n : Nat) : List UInt8 := dgs 20 n []

theorem dgs_len : ∀ (f n : Nat) (s : List UInt8), (dgs f n s).length ≤ s.length + f
  | 0, _, s => by simp [dgs]
  | f + 1, n, s => by
    unfold dgs
    split
    · have := dgs_len f (n / 10) (UInt8.ofNat (48 + n % 10) :: s)
      simp only [List.length_cons] at this
      omega
    · omega

theorem dg_len (n : Nat) : (dg n).length ≤ 20 := by unfold dg; simpa using dgs_len 20 n []

/-- the number is told right, whatever else is made -/
def ItoaOk (h : AH) (n : Nat) : Prop := ∀ h', Ext h.next h h' → C prg 19 [.int .i64 (n : Nat)] h' fun v h'' => v = .str (dg n) ∧ Ext h'.next h' h''

theorem ItoaOk.of {h : AH} {n : Nat} (hn : n < 100) : ItoaOk h n := fun h' _ => (itoa_ok hn).mono fun v h'' ⟨ev, eh⟩ => ⟨ev, by rw [eh]; exact Ext.refl⟩

theorem ItoaOk.ext {h h' : AH} {n : Nat} (hi : ItoaOk h n) (hx : Ext h.next h h') : ItoaOk h' n := fun h2 hx2 => hi h2 (hx.trans (hx2.mono hx.1))

def nums (ns : List Nat) : List AV := ns.map fun n => .int .i64 (n : Nat)

theorem num_at {h : AH} {b n : Nat} {ns : List Nat} {i x : Nat} (hg : h.get b = some (.cells (nums ns) 1 false)) (hi : ns[i]? = some x) (hn : n = ns.length) : rdCells h b (i * 1) 1 = some [.int .i64 (x : Nat)] ∧ idx? (i : Nat) n = some i := by
  have hil : i < ns.length := (List.getElem?_eq_some_iff.1 hi).1
  have e := (List.getElem?_eq_some_iff.1 hi).2
  have h2 : i < (nums ns).length := by simpa [nums] using hil
  refine ⟨?_, ?_⟩
  · rw [rdCells_of hg, if_pos (by omega)]
    have : ((nums ns).drop (i * 1)).take 1 = [AV.int .i64 (x : Nat)] := by
      rw [Nat.mul_one, List.drop_eq_getElem_cons h2]
      simp [nums, e]
    rw [this]
  · unfold idx?
    have c : (0 : Int) ≤ (i : Nat) ∧ ((i : Nat) : Int) < (n : Nat) := by omega
    simp only [c, and_self, if_true, Int.toNat_natCast]

/-- a line -/
def ln (a c : Nat) : List UInt8 := dg a ++ 32 :: dg c ++ [10]

theorem ln_len (a c : Nat) : (ln a c).length ≤ 42 := by
  have := dg_len a
  have := dg_len c
  simp [ln]; omega

theorem line_ok {h : AH} {b a c : Nat} (hg : h.get b = some (.cells [.int .i64 (a : Nat), .int .i64 (c : Nat)] 1 false)) (ha : ItoaOk h a) (hc : ItoaOk h c) :
    C prg 13 [.sl b 0 2 2] h fun v h' => v = .str (ln a c) ∧ Ext h.next h h' := by
  have hlt := AH.lt_of_get hg
  refine C.func pf13 ?_
  refine W.seq (W.runs (fun ts h1 => h1 = h ∧ tget ts 0 = .sl b 0 2 2) ?_ fun ts h1 ⟨eh, e0⟩ => ?_)
  · simp only [ckR_nil, evN_none, stps_nil, stps_cons, stp_some, putR_some, gd_true, wanted_none, dput_some, ev_c, okR_some, evOp, tget_tput, ↓reduceIte, reduceCtorEq, and_self, initTm]
  subst eh
  refine W.seq (W.runs (fun ts h2 => h2 = h1 ∧ tget ts 0 = .sl b 0 2 2 ∧ tget ts 3 = .nils) ?_ fun ts h2 ⟨eh, e0, e3⟩ => ?_)
  · simp only [ckR_nil, evN_none, stps_nil, stps_cons, stp_some, putR_some, gd_true, wanted_none, dput_some, ev_c, okR_some, evOp, tget_tput, ↓reduceIte, reduceCtorEq, and_self, e0]
  subst eh
  refine W.seq (W.seq (W.runs (fun ts h3 => h3 = h2 ∧ tget ts 3 = .nils ∧ tget ts 6 = .sl b 0 2 2 ∧ tget ts 7 = .int .i64 ((2 : Nat) : Int) ∧ tget ts 8 = .int .i64 ((0 : Nat) : Int)) ?_ fun ts h3 ⟨eh, e3, e6, e7, e8⟩ => ?_))
  · simp only [ckR_nil, evN_none, stps_nil, stps_cons, stp_some, putR_some, gd_true, wanted_none, dput_some, ev_t, ev_c, okR_some, evOp, tget_tput, lenLA_sl, ↓reduceIte, Nat.reduceEqDiff, Option.map_some, true_and, e0, e3]
    simp
  subst eh
  refine W.cut (fun ts h => Ext h3.next h3 h ∧ ∃ v, tget ts 3 = v ∧ IsSl h 1 h3.next v [.str (dg a), .str (dg c)]) (W.block (W.loop (fun m ts h => Ext h3.next h3 h ∧ ∃ i v, m = 2 - i ∧ i ≤ 2 ∧ tget ts 3 = v ∧ tget ts 6 = .sl b 0 2 2 ∧ tget ts 7 = .int .i64 ((2 : Nat) : Int) ∧ tget ts 8 = .int .i64 (i : Nat) ∧ IsSl h 1 h3.next v (([dg a, dg c].take i).map .str)) ?_ (n := 2) ⟨Ext.refl, 0, .nils, rfl, Nat.zero_le _, e3, e6, e7, e8, .inl ⟨rfl, rfl⟩⟩)) fun ts h4 ⟨q1, v, e3, q2⟩ => ?_
  · clear e0 e3 e6 e7 e8
    rintro m ts h4 ⟨hx, i, v, hm, hi, e3, e6, e7, e8, hsl⟩
    refine W.seq (W.runs (fun ts h5 => h5 = h4 ∧ tget ts 3 = v ∧ tget ts 6 = .sl b 0 2 2 ∧ tget ts 7 = .int .i64 ((2 : Nat) : Int) ∧ tget ts 8 = .int .i64 (i : Nat) ∧ tget ts 9 = .bool (decide (i < 2))) ?_ fun ts h5 ⟨eh, e3, e6, e7, e8, e9⟩ => ?_)
    · have : decide (((i : Nat) : Int) < ((2 : Nat) : Int)) = decide (i < 2) := by simp only [decide_eq_decide]; omega
      simp only [ckR_nil, evN_none, stps_nil, stps_cons, stp_some, putR_some, gd_true, wanted_none, dput_some, ev_t, okR_some, evOp, tget_tput, bin_lss, ↓reduceIte, Nat.reduceEqDiff, Option.map_some, and_self, e3, e6, e7, e8, this]
    subst eh
    refine W.seq (W.cond e9 (fun hc => W.skip ?_) fun hc => W.exit ⟨fun _ => ⟨hx, v, e3, ?_⟩, fun e => absurd rfl e⟩)
    · simp only [decide_eq_true_eq] at hc
      obtain ⟨x, hx1, hx2, hx3⟩ : ∃ x, [a, c][i]? = some x ∧ ItoaOk h3 x ∧ [dg a, dg c].take (i + 1) = [dg a, dg c].take i ++ [dg x] := by
        have : i = 0 ∨ i = 1 := by omega
        rcases this with rfl | rfl
        · exact ⟨a, rfl, ha, rfl⟩
        · exact ⟨c, rfl, by assumption, rfl⟩
      have hg1 : h5.get b = some (.cells (nums [a, c]) 1 false) := by rw [hx.2 b hlt]; exact hg
      obtain ⟨r1, r2⟩ := num_at hg1 hx1 (n := 2) rfl
      refine W.seq (W.block (W.seq (W.runs (fun ts h6 => h6 = h5 ∧ tget ts 3 = v ∧ tget ts 6 = .sl b 0 2 2 ∧ tget ts 7 = .int .i64 ((2 : Nat) : Int) ∧ tget ts 8 = .int .i64 (i : Nat) ∧ tget ts 5 = .int .i64 (x : Nat)) ?_ fun ts h6 ⟨eh, e3, e6, e7, e8, e5⟩ => ?_)))
      · simp only [ckR_nil, evN_none, stps_nil, stps_cons, stp_some, putR_some, gd_true, wanted_none, dput_some, ev_t, okR_some, evOp, tget_tput, loadA_ptr, packA_one, iadrL_sl, ↓reduceIte, Nat.reduceEqDiff, Option.map_some, Nat.zero_add, and_self, e3, e6, e7, e8, r1, r2]
      subst eh
      refine W.calls (fun ts h7 => Ext h3.next h3 h7 ∧ ∃ v, tget ts 3 = v ∧ tget ts 6 = .sl b 0 2 2 ∧ tget ts 7 = .int .i64 ((2 : Nat) : Int) ∧ tget ts 8 = .int .i64 (i : Nat) ∧ IsSl h7 1 h3.next v (([dg a, dg c].take (i + 1)).map .str)) ?_ fun ts h7 ⟨hx, v, e3, e6, e7, e8, hsl⟩ => ?_
      · refine G.op (G.op ?_)
        simp only [ckR_nil, evN_none, stp_some, putR_some, gd_true, wanted_none, dput_some, ev_t, evOp, tget_tput, ↓reduceIte, Nat.reduceEqDiff, List.map_cons, List.take_succ_cons, e3, e5]
        refine G.call ?_
        simp only [dput_some, ev_t, tget_tput, ↓reduceIte, List.map_cons, List.map_nil]
        refine (hx2 h6 hx).mono fun w h7 ⟨ev, hx7⟩ => ?_
        subst ev
        have hsl7 := hsl.ext hx7 (Nat.le_refl _)
        have hxx := hx.trans (hx7.mono hx.1)
        have hln : (([dg a, dg c].take i).map AV.str).length ≤ 2 := by simp; omega
        obtain ⟨v', h8, p1, p2, p3, p4⟩ := hsl7.push (bytes := 16) [.str (dg x)] (by have := hxx.1; omega) (by omega) rfl rfl (by rw [Nat.div_one]; unfold tooMany; omega) (by rw [Nat.div_one]; unfold tooMany; omega)
        have p2' : IsSl h8 1 h3.next v' (([dg a, dg c].take (i + 1)).map .str) := by rw [hx3, List.map_append]; exact p2
        refine G.op (G.op (G.op ?_))
        simp only [ckR_nil, evN_none, stp_some, putR_some, gd_true, wanted_none, dput_some, ev_t, evOp, tget_tput, ↓reduceIte, Nat.reduceEqDiff, Option.map_some, Nat.zero_add, fill, splice, cells_str, List.length_cons, List.length_nil, List.take_zero, List.drop_succ_cons, List.drop_zero, List.cons_append, List.nil_append, Nat.reduceLeDiff, and_self, repl_one, p1]
        refine G.done ⟨hxx.trans p3, v', by simp only [tget_tput, ↓reduceIte], by simp only [tget_tput, ↓reduceIte, Nat.reduceEqDiff, e6], by simp only [tget_tput, ↓reduceIte, Nat.reduceEqDiff, e7], by simp only [tget_tput, ↓reduceIte, Nat.reduceEqDiff, e8], p2'⟩
      have w4 : IntKind.i64.wrap (((i : Nat) : Int) + 1) = ((i + 1 : Nat) : Int) := IntWalk.i64_in _ (by omega)
      refine W.runs (fun ts h8 => h8 = h7 ∧ tget ts 3 = v ∧ tget ts 6 = .sl b 0 2 2 ∧ tget ts 7 = .int .i64 ((2 : Nat) : Int) ∧ tget ts 8 = .int .i64 ((i + 1 : Nat) : Int)) ?_ fun ts h8 ⟨eh, e3, e6, e7, e8⟩ => ?_
      · simp only [ckR_nil, evN_none, stps_nil, stps_cons, stp_some, putR_some, gd_true, wanted_none, dput_some, ev_t, ev_c, okR_some, evOp, tget_tput, bin_add, ↓reduceIte, Nat.reduceEqDiff, Option.map_some, and_self, e3, e6, e7, e8, w4]
      subst eh
      exact ⟨2 - (i + 1), by omega, hx, i + 1, v, rfl, by omega, e3, e6, e7, e8, hsl⟩
    · simp only [decide_eq_false_iff_not] at hc
      have : i = 2 := by omega
      subst this
      exact hsl
  obtain ⟨b2, n2, k1, rfl, k3, k4⟩ : ∃ b n, h3.next ≤ b ∧ v = .sl b 0 n n ∧ h4.get b = some (.cells [.str (dg a), .str (dg c)] 1 false) ∧ n = 2 := by
    rcases q2 with ⟨_, h2⟩ | ⟨b, n, h1, h2, h3, h4⟩
    · cases h2
    · exact ⟨b, n, h1, h2, h3, by simpa using h4.symm⟩
  subst k4
  have l1 := dg_len a
  have l2 := dg_len c
  have hj : jn [32] [dg a, dg c] = dg a ++ 32 :: dg c := by simp [jn]
  refine W.seq (W.calls (fun ts h5 => tget ts 2 = .str (ln a c) ∧ Ext h3.next h3 h5) ?_ fun ts h5 ⟨e2, hx⟩ => W.ret ⟨_, by simp only [Am.results, rdAll, rdRes, e2, rf13], rfl, hx⟩)
  refine G.op ?_
  simp only [ckR_nil, evN_none, stp_some, putR_some, gd_true, wanted_none, dput_some, ev_t, evOp, e3]
  refine G.call ?_
  simp only [dput_some, ev_t, ev_c, tget_tput, ↓reduceIte, List.map_cons, List.map_nil]
  refine (Join_ok (sep := [32]) (p := dg a) (r := [dg c]) k3 rfl (by simp) (by simp) (by simp) (by simp) (by rw [hj]; simp; omega)).mono fun w h6 ⟨ev, hx⟩ => ?_
  rw [hj] at ev
  subst ev
  have hln : (dg a ++ 32 :: dg c).length + 1 < 2 ^ 62 := by simp; omega
  refine G.op (G.op ?_)
  simp only [ckR_nil, evN_none, stp_some, gd_true, wanted_none, ev_t, ev_c, evOp, tget_tput, bin_sadd, ↓reduceIte, Nat.zero_add, List.length_cons, List.length_nil]
  rw [if_pos hln]
  simp only [ckR_nil, evN_none, stp_some, putR_some, gd_true, wanted_none, dput_some, ev_t, evOp, tget_tput, ↓reduceIte, Option.map_some]
  exact G.done ⟨by simp only [tget_tput, ↓reduceIte, ln], q1.trans (hx.mono q1.1)⟩

end Go.Proofs.YtloklfmgbolpeaaDoor
