/-
  A line of two numbers; what is appended.
-/
import Derived.Test.YtloklfmgbolpeaaDoorNum
namespace Go.Proofs.YtloklfmgbolpeaaDoor
set_option linter.unusedVariables false
set_option linter.unusedSimpArgs false
open Go.Am

def pr (rest : List UInt8) (bad : Bool) : (Nat × Nat) × List UInt8 × Bool :=
  let x := num rest bad
  let y := tk 32 x.2.1 x.2.2
  let z := num y.1 y.2
  let w := tk 10 z.2.1 z.2.2
  ((x.1, z.1), w.1, w.2)

theorem pr_suf (rest : List UInt8) (bad : Bool) : (pr rest bad).2.1 <:+ rest :=
  (tk_suf _ _ _).trans ((num_suf _ _).trans ((tk_suf _ _ _).trans (num_suf _ _)))

theorem pair_ok {h : AH} {s : Nat} {txt rest : List UInt8} {bad : Bool} (hs : h.get s = some (scn txt rest bad)) (hr : rest <:+ txt) (hl : txt.length < 2 ^ 62) :
    C prg 15 [.ptr s 0] h fun v h' => v = .tup [.int .i64 ((pr rest bad).1.1 : Nat), .int .i64 ((pr rest bad).1.2 : Nat)] ∧ Upd h h' s (scn txt (pr rest bad).2.1 (pr rest bad).2.2) := by
  refine C.func pf15 ?_
  refine W.seq (W.runs (fun ts' h' => h' = h ∧ tget ts' 0 = .ptr s 0) ?_ fun ts h' ⟨e0, e1⟩ => ?_)
  · simp only [ckR_nil, evN_none, stps_nil, stps_cons, stp_some, putR_some, gd_true, wanted_none, dput_some, ev_c, okR_some, evOp, tget_tput, ↓reduceIte, reduceCtorEq, and_true, initTm]
  subst e0
  have n1 := num_suf rest bad
  have n2 := tk_suf 32 (num rest bad).2.1 (num rest bad).2.2
  have n3 := num_suf (tk 32 (num rest bad).2.1 (num rest bad).2.2).1 (tk 32 (num rest bad).2.1 (num rest bad).2.2).2
  refine W.seq (W.calls (fun ts' h1 => Upd h' h1 s (scn txt (num rest bad).2.1 (num rest bad).2.2) ∧ tget ts' 0 = .ptr s 0 ∧ tget ts' 2 = .int .i64 ((num rest bad).1 : Nat)) ?_ fun ts h1 ⟨u1, e1, e2⟩ => ?_)
  · refine G.op ?_
    simp only [ckR_nil, evN_none, stp_some, putR_some, gd_true, wanted_none, dput_some, ev_t, evOp, e1]
    refine G.call ?_
    simp only [dput_some, ev_t, tget_tput, ↓reduceIte, List.map_cons, List.map_nil]
    refine (number_ok hs hr hl).mono fun v h'' ⟨e4, e5⟩ => ?_
    subst e4
    refine G.op ?_
    simp only [ckR_nil, evN_none, stp_some, putR_some, gd_true, wanted_none, dput_some, ev_t, evOp, tget_tput, ↓reduceIte]
    exact G.done ⟨e5, by simp only [tget_tput, ↓reduceIte, reduceCtorEq, e1], by simp only [tget_tput, ↓reduceIte]⟩
  refine W.seq (W.calls (fun ts' h2 => Upd h' h2 s (scn txt (tk 32 (num rest bad).2.1 (num rest bad).2.2).1 (tk 32 (num rest bad).2.1 (num rest bad).2.2).2) ∧ tget ts' 0 = .ptr s 0 ∧ tget ts' 2 = .int .i64 ((num rest bad).1 : Nat)) ?_ fun ts h2 ⟨u2, e1, e2⟩ => ?_)
  · refine G.op ?_
    simp only [ckR_nil, evN_none, stp_some, putR_some, gd_true, wanted_none, dput_some, ev_t, evOp, e1]
    refine G.call ?_
    simp only [dput_some, ev_t, ev_c, tget_tput, ↓reduceIte, List.map_cons, List.map_nil]
    refine (take_ok u1.get (n1.trans hr) hl 32).mono fun v h'' ⟨e4, e5⟩ => ?_
    subst e4
    exact G.done ⟨u1.trans e5, by simp only [tget_tput, ↓reduceIte, reduceCtorEq, e1], by simp only [tget_tput, ↓reduceIte, Nat.reduceEqDiff, e2]⟩
  refine W.seq (W.calls (fun ts' h3 => Upd h' h3 s (scn txt (num (tk 32 (num rest bad).2.1 (num rest bad).2.2).1 (tk 32 (num rest bad).2.1 (num rest bad).2.2).2).2.1 (num (tk 32 (num rest bad).2.1 (num rest bad).2.2).1 (tk 32 (num rest bad).2.1 (num rest bad).2.2).2).2.2) ∧ tget ts' 0 = .ptr s 0 ∧ tget ts' 2 = .int .i64 ((num rest bad).1 : Nat) ∧ tget ts' 3 = .int .i64 ((pr rest bad).1.2 : Nat)) ?_ fun ts h3 ⟨u3, e1, e2, e3⟩ => ?_)
  · refine G.op ?_
    simp only [ckR_nil, evN_none, stp_some, putR_some, gd_true, wanted_none, dput_some, ev_t, evOp, e1]
    refine G.call ?_
    simp only [dput_some, ev_t, tget_tput, ↓reduceIte, List.map_cons, List.map_nil]
    refine (number_ok u2.get (n2.trans (n1.trans hr)) hl).mono fun v h'' ⟨e4, e5⟩ => ?_
    subst e4
    refine G.op ?_
    simp only [ckR_nil, evN_none, stp_some, putR_some, gd_true, wanted_none, dput_some, ev_t, evOp, tget_tput, ↓reduceIte]
    exact G.done ⟨u2.trans e5, by simp only [tget_tput, ↓reduceIte, reduceCtorEq, e1], by simp only [tget_tput, ↓reduceIte, Nat.reduceEqDiff, e2], by simp only [tget_tput, ↓reduceIte]; rfl⟩
  refine W.seq (W.calls (fun ts' h4 => Upd h' h4 s (scn txt (pr rest bad).2.1 (pr rest bad).2.2) ∧ tget ts' 0 = .ptr s 0 ∧ tget ts' 2 = .int .i64 ((num rest bad).1 : Nat) ∧ tget ts' 3 = .int .i64 ((pr rest bad).1.2 : Nat)) ?_ fun ts h4 ⟨u4, e1, e2, e3⟩ => ?_)
  · refine G.op ?_
    simp only [ckR_nil, evN_none, stp_some, putR_some, gd_true, wanted_none, dput_some, ev_t, evOp, e1]
    refine G.call ?_
    simp only [dput_some, ev_t, ev_c, tget_tput, ↓reduceIte, List.map_cons, List.map_nil]
    refine (take_ok u3.get (n3.trans (n2.trans (n1.trans hr))) hl 10).mono fun v h'' ⟨e4, e5⟩ => ?_
    subst e4
    exact G.done ⟨u3.trans e5, by simp only [tget_tput, ↓reduceIte, reduceCtorEq, e1], by simp only [tget_tput, ↓reduceIte, Nat.reduceEqDiff, e2], by simp only [tget_tput, ↓reduceIte, Nat.reduceEqDiff, e3]⟩
  refine W.seq (W.runs (fun ts' h5 => h5 = h4 ∧ tget ts' 2 = .int .i64 ((num rest bad).1 : Nat) ∧ tget ts' 3 = .int .i64 ((pr rest bad).1.2 : Nat)) ?_ fun ts h5 ⟨e0, e2, e3⟩ => W.ret ?_)
  · simp only [ckR_nil, evN_none, stps_nil, stps_cons, stp_some, putR_some, gd_true, wanted_none, dput_some, ev_t, okR_some, evOp, tget_tput, ↓reduceIte, Nat.reduceEqDiff, and_true, e2, e3]
  subst e0
  exact ⟨_, by simp only [Am.results, rdAll, rdRes, e2, e3, rf15]; rfl, rfl, u4⟩

/-! ### slices that are grown from nothing -/
/-- A slice whose cells are these, in a block of its own from lo on, or nil. -/
def IsSl (h : AH) (esz lo : Nat) (v : AV) (cs : List AV) : Prop :=
  (v = .nils ∧ cs = []) ∨ ∃ b n, lo ≤ b ∧ v = .sl b 0 n n ∧ h.get b = some (.cells cs esz false) ∧ cs.length = n * esz

theorem IsSl.ext {h h' : AH} {esz lo hi : Nat} {v : AV} {cs : List AV} (hv : IsSl h esz lo v cs) (hx : Ext hi h h') (hn : h.next ≤ hi) : IsSl h' esz lo v cs := by
  rcases hv with hv | ⟨b, n, h1, h2, h3, h4⟩
  · exact .inl hv
  · exact .inr ⟨b, n, h1, h2, by rw [hx.2 b (by have := AH.lt_of_get h3; omega)]; exact h3, h4⟩

theorem IsSl.upd {h h' : AH} {esz lo s : Nat} {v : AV} {cs : List AV} {o : AO} (hv : IsSl h esz lo v cs) (hu : Upd h h' s o) (hs : s < lo) : IsSl h' esz lo v cs := by
  rcases hv with hv | ⟨b, n, h1, h2, h3, h4⟩
  · exact .inl hv
  · exact .inr ⟨b, n, h1, h2, by rw [hu.ne (by omega)]; exact h3, h4⟩

theorem IsSl.len {h : AH} {esz lo : Nat} {v : AV} {cs : List AV} (hv : IsSl h esz lo v cs) (he : 0 < esz) : lenLA v = some (.int .i64 ((cs.length / esz : Nat) : Int)) := by
  rcases hv with ⟨rfl, rfl⟩ | ⟨b, n, h1, rfl, h3, h4⟩
  · simp [lenLA]
  · rw [h4, Nat.mul_div_cancel _ he]; rfl

theorem IsSl.cells {h : AH} {esz lo : Nat} {v : AV} {cs : List AV} (hv : IsSl h esz lo v cs) : v.cells = [v] ∧ v.one = true := by
  rcases hv with ⟨rfl, _⟩ | ⟨b, n, _, rfl, _, _⟩ <;> exact ⟨rfl, rfl⟩

theorem IsSl.mono {h : AH} {esz lo lo' : Nat} {v : AV} {cs : List AV} (hv : IsSl h esz lo v cs) (hl : lo' ≤ lo) : IsSl h esz lo' v cs := by
  rcases hv with hv | ⟨b, n, h1, h2⟩
  · exact .inl hv
  · exact .inr ⟨b, n, by omega, h2⟩

/-- One element is appended, from a fresh block. -/
theorem IsSl.app {h : AH} {esz lo bytes : Nat} {v : AV} {cs new : List AV} {x : Nat} (hv : IsSl h esz lo v cs) (hlo : lo ≤ h.next) (he : 0 < esz) (hx : h.get x = some (.cells new esz false)) (hxl : lo ≤ x) (hxv : ∀ b n, v = .sl b 0 n n → b ≠ x) (hn : new.length = esz) (ho : new.all AV.one = true)
    (hb : (cs.length / esz + 1) * bytes < tooMany) (hc : cs.length / esz + 1 < tooMany) : ∃ v' h', appA h esz bytes v (.sl x 0 1 1) = some (v', h') ∧ IsSl h' esz lo v' (cs ++ new) ∧ Ext lo h h' := by
  have hr : rdCells h x 0 (1 * esz) = some new := by
    rw [rdCells_of hx, Nat.one_mul, if_pos (by omega), List.drop_zero, ← hn, List.take_length]
  rcases hv with ⟨rfl, rfl⟩ | ⟨b, n, h1, rfl, h3, h4⟩
  · refine ⟨.sl h.next 0 1 1, h.new (.cells new esz false), ?_, .inr ⟨h.next, 1, hlo, rfl, by rw [AH.get_new]; simp, by simpa using hn⟩, Ext.new hlo⟩
    simp only [appA, srcCells, hr, Option.map_some, ho, if_true, Nat.one_ne_zero, if_false]
    simp only [List.length_nil, Nat.zero_div, Nat.zero_add] at hb hc
    rw [if_pos ⟨by simpa using hb, hc⟩]
  · have hnn : cs.length / esz = n := by rw [h4, Nat.mul_div_cancel _ he]
    rw [hnn] at hb hc
    have hr2 : rdCells h b 0 (n * esz) = some cs := by
      rw [rdCells_of h3, if_pos (by omega), List.drop_zero, ← h4, List.take_length]
    refine ⟨.sl h.next 0 (n + 1) (n + 1), (h.put b .dead).new (.cells (cs ++ new) esz false), ?_, .inr ⟨h.next, n + 1, hlo, rfl, by rw [AH.get_new, AH.next_put]; simp, by rw [List.length_append, hn, h4, Nat.add_mul, Nat.one_mul]⟩, ?_⟩
    · simp only [appA, srcCells, hr, Option.map_some, ho, if_true, Nat.one_ne_zero, if_false]
      rw [if_neg (by omega), if_pos ⟨hb, hc⟩, h3, hr2]
      simp only [if_true]
    · exact (Ext.put h1).trans (Ext.new (by simpa using hlo))

/-- append(s, x): the one element's block is made, then it is appended. -/
theorem IsSl.push {h : AH} {esz lo bytes : Nat} {v : AV} {cs : List AV} (new : List AV) (hv : IsSl h esz lo v cs) (hlo : lo ≤ h.next) (he : 0 < esz) (hn : new.length = esz) (ho : new.all AV.one = true)
    (hb : (cs.length / esz + 1) * bytes < tooMany) (hc : cs.length / esz + 1 < tooMany) : ∃ v' h', appA (h.new (.cells new esz false)) esz bytes v (.sl h.next 0 1 1) = some (v', h') ∧ IsSl h' esz lo v' (cs ++ new) ∧ Ext lo h h' ∧ h.next ≤ h'.next := by
  obtain ⟨v', h', h1, h2, h3⟩ := (hv.ext (Ext.new (o := .cells new esz false) (Nat.le_refl _)) (Nat.le_refl _)).app (x := h.next) (new := new) (bytes := bytes) (by simp; omega) he (by rw [AH.get_new]; simp) hlo
    (fun b n hbn => by
      rcases hv with ⟨rfl, _⟩ | ⟨b', n', _, rfl, h3, _⟩
      · cases hbn
      · cases hbn
        exact Nat.ne_of_lt (AH.lt_of_get h3)) hn ho hb hc
  exact ⟨v', h', h1, h2, (Ext.new hlo).trans h3, by have := h3.1; simp at this; omega⟩

theorem numLoop_le : ∀ (rest : List UInt8) (n : Nat), n ≤ 999999 → (numLoop n rest).1 ≤ 999999
  | [], n, h => h
  | c :: r, n, h => by
    unfold numLoop
    split
    · split
      · simp
      · exact numLoop_le r _ (by omega)
    · exact h

theorem num_le (rest : List UInt8) (bad : Bool) : (num rest bad).1 ≤ 999999 := by
  unfold num
  split
  · simp
  · split
    · simp
    · split
      · split
        · simp
        · exact numLoop_le _ 0 (by omega)
      · simp

theorem pr_le (rest : List UInt8) (bad : Bool) : (pr rest bad).1.1 ≤ 999999 ∧ (pr rest bad).1.2 ≤ 999999 := ⟨num_le _ _, num_le _ _⟩

theorem tk_less {c : UInt8} {rest : List UInt8} {bad : Bool} (h : (tk c rest bad).2 = false) : (tk c rest bad).1.length + 1 = rest.length := by
  unfold tk at h ⊢
  split at h
  · cases h
  · rename_i hb
    rw [if_neg hb]
    split at h
    · cases h
    · split at h
      · rename_i e; simp [e]
      · cases h

/-- A line that isn't bad takes bytes. -/
theorem pr_less {rest : List UInt8} {bad : Bool} (h : (pr rest bad).2.2 = false) : (pr rest bad).2.1.length + 1 ≤ rest.length := by
  have h1 := tk_less (c := 10) (rest := (num (tk 32 (num rest bad).2.1 (num rest bad).2.2).1 (tk 32 (num rest bad).2.1 (num rest bad).2.2).2).2.1) (bad := (num (tk 32 (num rest bad).2.1 (num rest bad).2.2).1 (tk 32 (num rest bad).2.1 (num rest bad).2.2).2).2.2) h
  have h2 := ((num_suf (tk 32 (num rest bad).2.1 (num rest bad).2.2).1 (tk 32 (num rest bad).2.1 (num rest bad).2.2).2).trans ((tk_suf 32 (num rest bad).2.1 (num rest bad).2.2).trans (num_suf rest bad))).length_le
  simp only [pr]
  omega

end Go.Proofs.YtloklfmgbolpeaaDoor
