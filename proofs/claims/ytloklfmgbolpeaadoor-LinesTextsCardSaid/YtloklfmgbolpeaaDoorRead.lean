/-
  lines.Read.
-/
import Derived.Test.YtloklfmgbolpeaaDoorPair
namespace Go.Proofs.YtloklfmgbolpeaaDoor
set_option linter.unusedVariables false
set_option linter.unusedSimpArgs false
open Go.Am

/-- the lines behind the first one -/
def prs : Nat → List UInt8 → Bool → List (Nat × Nat) × List UInt8 × Bool
  | 0, r, b => ([], r, b)
  | _ + 1, r, true => ([], r, true)
  | n + 1, r, false =>
    let x := pr r false
    let y := prs n x.2.1 x.2.2
    (x.1 :: y.1, y.2.1, y.2.2)

/-- the first edge with an end that is no vertex -/
def firstOff (v : Nat) : Nat → List (Nat × Nat) → Option Nat
  | _, [] => none
  | i, e :: r => if v ≤ max e.1 e.2 then some i else firstOff v (i + 1) r

/-- a graph, the fault's number, its place -/
structure Rd where
  v : Nat
  es : List (Nat × Nat)
  code : Nat
  place : Nat

def rdM (bs : List UInt8) : Rd :=
  if 4096 < bs.length then ⟨0, [], 10, 4096⟩ else
  let x := pr bs false
  let y := prs x.1.2 x.2.1 x.2.2
  if y.2.2 = true ∨ y.2.1 ≠ [] then ⟨0, [], 11, bs.length - y.2.1.length⟩ else
  if x.1.1 < 1 ∨ 24 < x.1.1 ∨ 40 < x.1.2 then ⟨0, [], 10, 0⟩ else
  match firstOff x.1.1 0 y.1 with
  | some i => ⟨0, [], 12, i⟩
  | none => ⟨x.1.1, y.1, 0, 0⟩

def edge (e : Nat × Nat) : List AV := [.int .i64 (e.1 : Nat), .int .i64 (e.2 : Nat)]
def flat (es : List (Nat × Nat)) : List AV := es.flatMap edge

theorem flat_len (es : List (Nat × Nat)) : (flat es).length = es.length * 2 := by
  induction es with
  | nil => rfl
  | cons e r ih => simp only [flat, List.flatMap_cons, List.length_append, List.length_cons] at ih ⊢; rw [ih]; simp [edge]; omega

theorem flat_at : ∀ (es : List (Nat × Nat)) (k : Nat) (e : Nat × Nat), es[k]? = some e → ((flat es).drop (k * 2)).take 2 = edge e
  | [], k, e, h => by simp at h
  | f :: r, 0, e, h => by simp at h; subst h; simp [flat, edge]
  | f :: r, k + 1, e, h => by
    have := flat_at r k e (by simpa using h)
    rw [← this]
    have e2 : (k + 1) * 2 = k * 2 + 1 + 1 := by omega
    simp only [flat, List.flatMap_cons, edge, List.cons_append, List.nil_append, e2, List.drop_succ_cons]

/-- What a fault's box and a graph's box hold. -/
abbrev gbox (v : Int) (ev : AV) : AO := .cells [.int .i64 v, ev] 2 false
abbrev fbox (k i : Int) : AO := .cells [.int .i64 k, .int .i64 i, .nils] 3 false

theorem wr2 {h : AH} {b : Nat} {x y p q : AV} (hg : h.get b = some (.cells [x, y] 2 false)) : wrCells h b 0 [p, q] = some (h.put b (.cells [p, q] 2 false)) := by
  rw [wrCells_of hg]; rfl
theorem wr2a {h : AH} {b : Nat} {x y p : AV} (hg : h.get b = some (.cells [x, y] 2 false)) : wrCells h b 0 [p] = some (h.put b (.cells [p, y] 2 false)) := by
  rw [wrCells_of hg]; rfl
theorem wr2b {h : AH} {b : Nat} {x y p : AV} (hg : h.get b = some (.cells [x, y] 2 false)) : wrCells h b 1 [p] = some (h.put b (.cells [x, p] 2 false)) := by
  rw [wrCells_of hg]; rfl
theorem wr3 {h : AH} {b : Nat} {x y z p q r : AV} (hg : h.get b = some (.cells [x, y, z] 3 false)) : wrCells h b 0 [p, q, r] = some (h.put b (.cells [p, q, r] 3 false)) := by
  rw [wrCells_of hg]; rfl
theorem rd2 {h : AH} {b : Nat} {x y : AV} (hg : h.get b = some (.cells [x, y] 2 false)) : rdCells h b 0 2 = some [x, y] ∧ rdCells h b 0 1 = some [x] ∧ rdCells h b 1 1 = some [y] := by
  simp [rdCells, hg]
theorem rd3 {h : AH} {b : Nat} {x y z : AV} (hg : h.get b = some (.cells [x, y, z] 3 false)) : rdCells h b 0 3 = some [x, y, z] ∧ rdCells h b 0 1 = some [x] ∧ rdCells h b 1 1 = some [y] ∧ rdCells h b 2 1 = some [z] := by
  simp [rdCells, hg]

/-- The function's memory, once all is laid: result graph, result fault, scanner, graph. -/
structure St (h0 h : AH) (txt rest : List UInt8) (bad : Bool) (v : Nat) (ev : AV) (es : List (Nat × Nat)) : Prop where
  g0 : h.get h0.next = some (gbox 0 .nils)
  f0 : h.get (h0.next + 1) = some (fbox 0 0)
  s0 : h.get (h0.next + 2) = some (scn txt rest bad)
  g1 : h.get (h0.next + 3) = some (gbox (v : Nat) ev)
  sl : IsSl h 2 (h0.next + 4) ev (flat es)
  ext : Ext h0.next h0 h
  nx : h0.next + 4 ≤ h.next

/-- What was answered. -/
def RdOut (h0 : AH) (m : Rd) (v : AV) (h : AH) : Prop := ∃ ev, v = .tup [.agg [.int .i64 (m.v : Nat), ev], .agg [.int .i64 (m.code : Nat), .int .i64 (m.place : Nat), .nils]] ∧ IsSl h 2 h0.next ev (flat m.es) ∧ Ext h0.next h0 h

theorem syntax_ok {h : AH} (n : Nat) : C prg 16 [.int .i64 (n : Nat)] h fun v h' => v = .tup [.agg [.int .i64 0, .nils], .agg [.int .i64 11, .int .i64 (n : Nat), .nils]] ∧ Ext h.next h h' := by
  refine C.func pf16 ?_
  refine W.seq (W.runs (fun ts h1 => tget ts 0 = .int .i64 (n : Nat) ∧ tget ts 2 = .ptr h.next 0 ∧ tget ts 3 = .ptr (h.next + 1) 0 ∧ h1.get h.next = some (gbox 0 .nils) ∧ h1.get (h.next + 1) = some (fbox 0 0) ∧ Ext h.next h h1) ?_ fun ts h1 ⟨e0, e2, e3, g0, g1, ex⟩ => ?_)
  · simp only [ckR_nil, evN_none, stps_nil, stps_cons, stp_some, putR_some, gd_true, wanted_none, dput_some, okR_some, evOp, tget_tput, ↓reduceIte, Nat.reduceEqDiff, reduceCtorEq, true_and, AH.next_new, initTm]
    refine ⟨?_, ?_, ?_⟩
    · rw [AH.get_new, AH.next_new, if_neg (by omega), AH.get_new, if_pos rfl]
    · rw [AH.get_new, AH.next_new, if_pos rfl]
    · exact (Ext.new (Nat.le_refl _)).trans (Ext.new (by simp))
  refine W.seq (W.runs (fun ts h2 => tget ts 2 = .ptr h.next 0 ∧ tget ts 3 = .ptr (h.next + 1) 0 ∧ h2.get h.next = some (gbox 0 .nils) ∧ h2.get (h.next + 1) = some (fbox 11 n) ∧ Ext h.next h h2) ?_ fun ts h2 ⟨e2, e3, g0, g1, ex⟩ => W.ret ?_)
  · have u1 := Upd.put (o := gbox 0 .nils) g0
    have g1' := u1.ne (c := h.next + 1) (by omega)
    rw [g1] at g1'
    simp only [ckR_nil, evN_none, stps_nil, stps_cons, stp_some, putR_some, gd_true, wanted_none, dput_some, dput_none, ev_t, ev_c, okR_some, evOp, tget_tput, storeA_ptr, ↓reduceIte, Nat.reduceEqDiff, Option.map_some, Nat.zero_add, Nat.reduceAdd, reduceCtorEq, true_and, fill, splice, cells_int, one_int, one_nils, cells_agg, List.length_cons, List.length_nil, List.all_cons, List.all_nil, List.take_succ_cons, List.take_zero, List.drop_succ_cons, List.drop_zero, List.cons_append, List.nil_append, Nat.reduceLeDiff, Bool.and_true, and_self, AV.un, e0, e2, e3, wr2 g0, wr3 g1']
    have u2 := Upd.put (o := fbox 11 n) g1'
    refine ⟨?_, u2.get, ?_⟩
    · rw [u2.ne (by omega)]; exact u1.get
    · exact ex.trans ((u1.ext (Nat.le_refl _)).trans (u2.ext (by omega)))
  · refine ⟨.tup [.agg [.int .i64 0, .nils], .agg [.int .i64 11, .int .i64 (n : Nat), .nils]], by simp only [Am.results, rdAll, rdRes, e2, e3, rf16, (rd2 g0).1, (rd3 g1).1, packA_agg], rfl, ex⟩


/-- The text as Read gets it: how long it is; the text, whatever else is made. -/
def Txt (h : AH) (v : AV) (bs : List UInt8) : Prop := lenLA v = some (.int .i64 (bs.length : Nat)) ∧ ∀ h', Ext h.next h h' → cvBSA h' v = some (.str bs)

theorem St.upd {h0 h h' : AH} {txt rest rest' : List UInt8} {bad bad' : Bool} {v : Nat} {ev : AV} {es : List (Nat × Nat)} (st : St h0 h txt rest bad v ev es) (hu : Upd h h' (h0.next + 2) (scn txt rest' bad')) : St h0 h' txt rest' bad' v ev es :=
  ⟨by rw [hu.ne (by omega)]; exact st.g0, by rw [hu.ne (by omega)]; exact st.f0, hu.get, by rw [hu.ne (by omega)]; exact st.g1, st.sl.upd hu (by omega), st.ext.trans (hu.ext (by omega)), by rw [hu.1]; exact st.nx⟩

theorem St.setV {h0 h h' : AH} {txt rest : List UInt8} {bad : Bool} {v v' : Nat} {ev : AV} {es : List (Nat × Nat)} (st : St h0 h txt rest bad v ev es) (hu : Upd h h' (h0.next + 3) (gbox (v' : Nat) ev)) : St h0 h' txt rest bad v' ev es :=
  ⟨by rw [hu.ne (by omega)]; exact st.g0, by rw [hu.ne (by omega)]; exact st.f0, by rw [hu.ne (by omega)]; exact st.s0, hu.get, st.sl.upd hu (by omega), st.ext.trans (hu.ext (by omega)), by rw [hu.1]; exact st.nx⟩

theorem St.setE {h0 h h1 h' : AH} {txt rest : List UInt8} {bad : Bool} {v : Nat} {ev ev' : AV} {es es' : List (Nat × Nat)} (st : St h0 h txt rest bad v ev es) (hx : Ext (h0.next + 4) h h1) (hsl : IsSl h1 2 (h0.next + 4) ev' (flat es')) (hu : Upd h1 h' (h0.next + 3) (gbox (v : Nat) ev')) : St h0 h' txt rest bad v ev' es' :=
  ⟨by rw [hu.ne (by omega), hx.2 _ (by omega)]; exact st.g0, by rw [hu.ne (by omega), hx.2 _ (by omega)]; exact st.f0, by rw [hu.ne (by omega), hx.2 _ (by omega)]; exact st.s0, hu.get, hsl.upd hu (by omega),
    st.ext.trans ((hx.mono (by omega)).trans (hu.ext (by omega))), by rw [hu.1]; exact Nat.le_trans st.nx hx.1⟩

theorem St.ext' {h0 h h' : AH} {txt rest : List UInt8} {bad : Bool} {v : Nat} {ev : AV} {es : List (Nat × Nat)} (st : St h0 h txt rest bad v ev es) (hx : Ext h.next h h') : St h0 h' txt rest bad v ev es :=
  have nx := st.nx
  ⟨by rw [hx.2 _ (by omega)]; exact st.g0, by rw [hx.2 _ (by omega)]; exact st.f0, by rw [hx.2 _ (by omega)]; exact st.s0, by rw [hx.2 _ (by omega)]; exact st.g1, st.sl.ext hx (Nat.le_refl _),
    st.ext.trans (hx.mono (by omega)), by have := hx.1; omega⟩

/-- A fault is answered. -/
theorem fault_out {h0 h : AH} {ts : Tm} {k i : Nat} (e2 : tget ts 2 = .ptr h0.next 0) (e3 : tget ts 3 = .ptr (h0.next + 1) 0) (g0 : h.get h0.next = some (gbox 0 .nils)) (g1 : h.get (h0.next + 1) = some (fbox (k : Nat) (i : Nat))) (ex : Ext h0.next h0 h) :
    ∃ v, Am.results rf8 ts h = some v ∧ RdOut h0 ⟨0, [], k, i⟩ v h :=
  ⟨.tup [.agg [.int .i64 0, .nils], .agg [.int .i64 (k : Nat), .int .i64 (i : Nat), .nils]], by simp only [Am.results, rdAll, rdRes, e2, e3, rf8, (rd2 g0).1, (rd3 g1).1, packA_agg], .nils, rfl, .inl ⟨rfl, rfl⟩, ex⟩

/-- A fault is stored. -/
theorem fault_put {h0 h : AH} {k i : Int} (g0 : h.get h0.next = some (gbox 0 .nils)) (g1 : h.get (h0.next + 1) = some (fbox 0 0)) (ex : Ext h0.next h0 h) :
    wrCells h h0.next 0 [.int .i64 0, .nils] = some (h.put h0.next (gbox 0 .nils)) ∧
    wrCells (h.put h0.next (gbox 0 .nils)) (h0.next + 1) 0 [.int .i64 k, .int .i64 i, .nils] = some ((h.put h0.next (gbox 0 .nils)).put (h0.next + 1) (fbox k i)) ∧
    ((h.put h0.next (gbox 0 .nils)).put (h0.next + 1) (fbox k i)).get h0.next = some (gbox 0 .nils) ∧
    ((h.put h0.next (gbox 0 .nils)).put (h0.next + 1) (fbox k i)).get (h0.next + 1) = some (fbox k i) ∧
    Ext h0.next h0 ((h.put h0.next (gbox 0 .nils)).put (h0.next + 1) (fbox k i)) := by
  have u1 := Upd.put (o := gbox 0 .nils) g0
  have g1' := u1.ne (c := h0.next + 1) (by omega)
  rw [g1] at g1'
  have u2 := Upd.put (o := fbox k i) g1'
  exact ⟨wr2 g0, wr3 g1', by rw [u2.ne (by omega)]; exact u1.get, u2.get, ex.trans ((u1.ext (Nat.le_refl _)).trans (u2.ext (by omega)))⟩

theorem rd_edge {h : AH} {lo : Nat} {ev : AV} {es : List (Nat × Nat)} {k : Nat} {e : Nat × Nat} (hv : IsSl h 2 lo ev (flat es)) (hk : es[k]? = some e) : ∃ b n, ev = .sl b 0 n n ∧ rdCells h b (k * 2) 2 = some (edge e) ∧ idx? (k : Nat) n = some k := by
  have hkl : k < es.length := (List.getElem?_eq_some_iff.1 hk).1
  rcases hv with ⟨_, h2⟩ | ⟨b, n, _, rfl, h3, h4⟩
  · have := congrArg List.length h2
    rw [flat_len] at this
    simp at this
    omega
  · rw [flat_len] at h4
    refine ⟨b, n, rfl, ?_, ?_⟩
    · rw [rdCells_of h3, if_pos (by rw [flat_len]; omega), flat_at _ _ _ hk]
    · unfold idx?
      rw [if_pos (by omega)]
      simp

set_option maxRecDepth 4000 in
theorem read_ok {h : AH} {b : AV} {bs : List UInt8} (hb : Txt h b bs) (hl : bs.length < 2 ^ 40) : C prg 8 [b] h (RdOut h (rdM bs)) := by
  refine C.func pf8 ?_
  refine W.seq (W.runs (fun ts h1 => tget ts 0 = b ∧ tget ts 2 = .ptr h.next 0 ∧ tget ts 3 = .ptr (h.next + 1) 0 ∧ h1 = (h.new (gbox 0 .nils)).new (fbox 0 0)) ?_ fun ts h1 ⟨e0, e2, e3, eh⟩ => ?_)
  · simp only [ckR_nil, evN_none, stps_nil, stps_cons, stp_some, putR_some, gd_true, wanted_none, dput_some, okR_some, evOp, tget_tput, ↓reduceIte, Nat.reduceEqDiff, reduceCtorEq, AH.next_new, and_self, initTm]
  have ex : Ext h.next h h1 := by rw [eh]; exact (Ext.new (Nat.le_refl _)).trans (Ext.new (by simp))
  have g0 : h1.get h.next = some (gbox 0 .nils) := by rw [eh, AH.get_new, AH.next_new, if_neg (by omega), AH.get_new, if_pos rfl]
  have g1 : h1.get (h.next + 1) = some (fbox 0 0) := by rw [eh, AH.get_new, AH.next_new, if_pos rfl]
  have nx : h1.next = h.next + 2 := by rw [eh]; rfl
  clear eh
  refine W.seq (W.seq (W.runs (fun ts h2 => h2 = h1 ∧ tget ts 0 = b ∧ tget ts 2 = .ptr h.next 0 ∧ tget ts 3 = .ptr (h.next + 1) 0 ∧ tget ts 14 = .bool (decide (4096 < bs.length))) ?_ fun ts h2 ⟨eh, e0, e2, e3, e4⟩ => ?_))
  · simp only [ckR_nil, evN_none, stps_nil, stps_cons, stp_some, putR_some, gd_true, wanted_none, dput_some, ev_t, ev_c, okR_some, evOp, tget_tput, bin_gtr, ↓reduceIte, Nat.reduceEqDiff, Option.map_some, reduceCtorEq, true_and, e0, e2, e3, hb.1]
    congr 1
    simp only [decide_eq_decide]
    omega
  subst eh
  refine W.cond e4 (fun hc => ?_) (fun hc => ?_)
  · have hc : 4096 < bs.length := by simpa using hc
    have hM : rdM bs = ⟨0, [], 10, 4096⟩ := by simp [rdM, hc]
    rw [hM]
    obtain ⟨f1, f2, f3, f4, f5⟩ := fault_put (k := 10) (i := 4096) g0 g1 ex
    refine W.seq (W.runs (fun ts h3 => tget ts 2 = .ptr h.next 0 ∧ tget ts 3 = .ptr (h.next + 1) 0 ∧ h3.get h.next = some (gbox 0 .nils) ∧ h3.get (h.next + 1) = some (fbox 10 4096) ∧ Ext h.next h h3) ?_ fun ts h3 ⟨e2, e3, g0, g1, ex⟩ => W.ret (fault_out e2 e3 g0 g1 ex))
    simp only [ckR_nil, evN_none, stps_nil, stps_cons, stp_some, putR_some, gd_true, wanted_none, dput_some, dput_none, ev_t, ev_c, okR_some, evOp, tget_tput, storeA_ptr, ↓reduceIte, Nat.reduceEqDiff, Option.map_some, Nat.zero_add, Nat.reduceAdd, true_and, fill, splice, cells_int, one_int, one_nils, cells_agg, List.length_cons, List.length_nil, List.all_cons, List.all_nil, List.take_succ_cons, List.take_zero, List.drop_succ_cons, List.drop_zero, List.cons_append, List.nil_append, Nat.reduceLeDiff, Bool.and_true, and_self, AV.un, e2, e3, f1, f2]
    exact ⟨f3, f4, f5⟩
  have hc : ¬ 4096 < bs.length := by simpa using hc
  refine W.skip (W.seq (W.runs (fun ts h3 => h3 = h2.new (scn bs bs false) ∧ tget ts 0 = b ∧ tget ts 2 = .ptr h.next 0 ∧ tget ts 3 = .ptr (h.next + 1) 0 ∧ tget ts 4 = .ptr (h.next + 2) 0) ?_ fun ts h3 ⟨eh3, e0, e2, e3, e4⟩ => ?_))
  · simp only [ckR_nil, evN_none, stps_nil, stps_cons, stp_some, putR_some, gd_true, wanted_none, dput_some, ev_t, okR_some, evOp, tget_tput, ↓reduceIte, Nat.reduceEqDiff, Option.map_some, Nat.zero_add, Nat.reduceAdd, reduceCtorEq, and_true, fill, boxA, splice, cells_str, cells_agg, List.length_cons, List.length_nil, List.take_zero, List.drop_succ_cons, List.drop_zero, List.cons_append, List.nil_append, Nat.reduceLeDiff, and_self, e0, e2, e3, hb.2 _ ex, nx, scn, Nat.sub_self]
    rfl
  refine W.seq (W.runs (fun ts h4 => h4 = h3.new (gbox 0 .nils) ∧ tget ts 0 = b ∧ tget ts 2 = .ptr h.next 0 ∧ tget ts 3 = .ptr (h.next + 1) 0 ∧ tget ts 4 = .ptr (h.next + 2) 0 ∧ tget ts 5 = .ptr (h.next + 3) 0) ?_ fun ts h4 ⟨eh4, e0, e2, e3, e4, e5⟩ => ?_)
  · simp only [ckR_nil, evN_none, stps_nil, stps_cons, stp_some, putR_some, gd_true, wanted_none, dput_some, okR_some, evOp, tget_tput, ↓reduceIte, Nat.reduceEqDiff, reduceCtorEq, AH.next_new, and_self, e0, e2, e3, e4, eh3, nx]
  have nx3 : h3.next = h.next + 3 := by rw [eh3]; simp [nx]
  have st : St h h4 bs bs false 0 .nils [] := by
    refine ⟨?_, ?_, ?_, ?_, .inl ⟨rfl, rfl⟩, ?_, by rw [eh4, AH.next_new, nx3]; omega⟩
    · rw [eh4, AH.get_new, if_neg (by omega), eh3, AH.get_new, if_neg (by omega)]; exact g0
    · rw [eh4, AH.get_new, if_neg (by omega), eh3, AH.get_new, if_neg (by omega)]; exact g1
    · rw [eh4, AH.get_new, if_neg (by omega), eh3, AH.get_new, if_pos (by omega)]
    · rw [eh4, AH.get_new, if_pos (by omega)]; rfl
    · rw [eh4, eh3]; exact ex.trans ((Ext.new (by omega)).trans (Ext.new (by simp; omega)))
  clear eh4 eh3 nx3 nx ex g0 g1
  refine W.seq (W.runs (fun ts h5 => h5 = h4 ∧ tget ts 0 = b ∧ tget ts 2 = .ptr h.next 0 ∧ tget ts 3 = .ptr (h.next + 1) 0 ∧ tget ts 4 = .ptr (h.next + 2) 0 ∧ tget ts 5 = .ptr (h.next + 3) 0 ∧ tget ts 6 = .int .i64 0) ?_ fun ts h5 ⟨eh, e0, e2, e3, e4, e5, e6⟩ => ?_)
  · simp only [ckR_nil, evN_none, stps_nil, stps_cons, stp_some, putR_some, gd_true, wanted_none, dput_some, ev_c, okR_some, evOp, tget_tput, ↓reduceIte, Nat.reduceEqDiff, reduceCtorEq, and_self, e0, e2, e3, e4, e5]
  subst eh
  have hlen : bs.length < 2 ^ 62 := by omega
  have hp := pr_suf bs false
  refine W.seq (W.calls (fun ts h6 => St h h6 bs (pr bs false).2.1 (pr bs false).2.2 (pr bs false).1.1 .nils [] ∧ tget ts 0 = b ∧ tget ts 2 = .ptr h.next 0 ∧ tget ts 3 = .ptr (h.next + 1) 0 ∧ tget ts 4 = .ptr (h.next + 2) 0 ∧ tget ts 5 = .ptr (h.next + 3) 0 ∧ tget ts 6 = .int .i64 ((pr bs false).1.2 : Nat)) ?_ fun ts h6 ⟨st, e0, e2, e3, e4, e5, e6⟩ => ?_)
  · refine G.op ?_
    simp only [ckR_nil, evN_none, stp_some, putR_some, gd_true, wanted_none, dput_some, ev_t, evOp, e4]
    refine G.call ?_
    simp only [dput_some, ev_t, tget_tput, ↓reduceIte, List.map_cons, List.map_nil]
    refine (pair_ok st.s0 (List.suffix_refl _) hlen).mono fun v h6 ⟨ev, u⟩ => ?_
    subst ev
    have st2 := st.upd u
    refine G.op (G.op (G.op (G.op (G.op (G.op ?_)))))
    simp only [ckR_nil, evN_none, stp_some, putR_some, gd_true, wanted_none, dput_some, dput_none, ev_t, evOp, tget_tput, fadrA_ptr, extA_tup, storeA_ptr, ↓reduceIte, Nat.reduceEqDiff, Option.map_some, Nat.zero_add, Nat.add_zero, List.getElem?_cons_zero, List.getElem?_cons_succ, cells_int, one_int, List.length_cons, List.length_nil, List.all_cons, List.all_nil, Bool.and_true, and_self, AV.un, e5, wr2a st2.g1]
    exact G.done ⟨st2.setV (Upd.put st2.g1), by simp only [tget_tput, ↓reduceIte, reduceCtorEq, e0], by simp only [tget_tput, ↓reduceIte, Nat.reduceEqDiff, e2], by simp only [tget_tput, ↓reduceIte, Nat.reduceEqDiff, e3], by simp only [tget_tput, ↓reduceIte, Nat.reduceEqDiff, e4], by simp only [tget_tput, ↓reduceIte, Nat.reduceEqDiff, e5], by simp only [tget_tput, ↓reduceIte]⟩
  generalize hx : pr bs false = x at *
  obtain ⟨⟨v, count⟩, rest0, bad0⟩ := x
  simp only at st hp e6
  refine W.seq (W.seq (W.runs (fun ts h7 => h7 = h6 ∧ tget ts 0 = b ∧ tget ts 2 = .ptr h.next 0 ∧ tget ts 3 = .ptr (h.next + 1) 0 ∧ tget ts 4 = .ptr (h.next + 2) 0 ∧ tget ts 5 = .ptr (h.next + 3) 0 ∧ tget ts 6 = .int .i64 (count : Nat) ∧ tget ts 7 = .int .i64 0) ?_ fun ts h7 ⟨eh, e0, e2, e3, e4, e5, e6, e7⟩ => ?_))
  · simp only [ckR_nil, evN_none, stps_nil, stps_cons, stp_some, putR_some, gd_true, wanted_none, dput_some, ev_c, okR_some, evOp, tget_tput, ↓reduceIte, Nat.reduceEqDiff, reduceCtorEq, and_self, e0, e2, e3, e4, e5, e6]
  subst eh
  have hcount : count ≤ 999999 := by have := (pr_le bs false).2; rw [hx] at this; exact this
  refine W.block (W.loop (fun m ts h8 => ∃ i rest bad es ev, m + i = count ∧ rest <:+ bs ∧ es.length + rest.length ≤ bs.length + (if bad then 1 else 0) ∧
      (∀ y, y = prs m rest bad → prs count rest0 bad0 = (es ++ y.1, y.2)) ∧
      St h h8 bs rest bad v ev es ∧ tget ts 0 = b ∧ tget ts 2 = .ptr h.next 0 ∧ tget ts 3 = .ptr (h.next + 1) 0 ∧ tget ts 4 = .ptr (h.next + 2) 0 ∧ tget ts 5 = .ptr (h.next + 3) 0 ∧ tget ts 6 = .int .i64 (count : Nat) ∧ tget ts 7 = .int .i64 (i : Nat)) ?_
    (n := count) ⟨0, rest0, bad0, [], .nils, rfl, hp, by have := hp.length_le; simp only [List.length_nil]; omega, fun y hy => by rw [hy]; rfl, st, e0, e2, e3, e4, e5, e6, e7⟩)
  · clear e0 e2 e3 e4 e5 e6 e7 st
    rintro m ts h8 ⟨i, rest, bad, es, ev, hm, hr, hlen2, hprs, st, e0, e2, e3, e4, e5, e6, e7⟩
    refine W.seq (W.seq (W.runs (fun ts h9 => h9 = h8 ∧ tget ts 0 = b ∧ tget ts 2 = .ptr h.next 0 ∧ tget ts 3 = .ptr (h.next + 1) 0 ∧ tget ts 4 = .ptr (h.next + 2) 0 ∧ tget ts 5 = .ptr (h.next + 3) 0 ∧ tget ts 6 = .int .i64 (count : Nat) ∧ tget ts 7 = .int .i64 (i : Nat) ∧ tget ts 36 = .bool (decide (i < count) && !bad)) ?_ fun ts h9 ⟨eh, e0, e2, e3, e4, e5, e6, e7, e8⟩ => ?_))
    · obtain ⟨r0, r1, r2⟩ := rd_scn st.s0
      by_cases hi : i < count
      · have hd : decide ((i : Int) < count) = true := by simp; omega
        simp only [ckR_nil, evN_none, stps_nil, stps_cons, stp_some, putR_some, gd_true, wanted_none, wanted_some, dput_some, ev_t, ev_c, okR_some, evOp, tget_tput, loadA_ptr, fadrA_ptr, nilckA_ptr, packA_one, pickA_true, unA_not, bin_lss, ↓reduceIte, Nat.reduceEqDiff, Option.map_some, beq_true, Nat.zero_add, reduceCtorEq, and_self, e0, e2, e3, e4, e5, e6, e7, hd, r2, hi, decide_true, Bool.true_and]
      · have hd : decide ((i : Int) < count) = false := by simp; omega
        simp only [ckR_nil, evN_none, stps_nil, stps_cons, stp_some, putR_some, gd_true, gd_false, wanted_none, wanted_some, dput_some, ev_t, ev_c, okR_some, evOp, tget_tput, pickA_false, bin_lss, ↓reduceIte, Nat.reduceEqDiff, Option.map_some, beq_true, reduceCtorEq, and_self, AV.un, e0, e2, e3, e4, e5, e6, e7, hd, hi, decide_false, Bool.false_and]
    subst eh
    refine W.cond e8 (fun hc => ?_) (fun hc => ?_)
    · simp only [Bool.and_eq_true, decide_eq_true_eq, Bool.not_eq_true'] at hc
      obtain ⟨hi, rfl⟩ := hc
      obtain ⟨m, rfl⟩ : ∃ m', m = m' + 1 := ⟨m - 1, by omega⟩
      have hp2 := pr_suf rest false
      refine W.skip (W.seq (W.block (W.seq (W.calls (fun ts h10 => St h h10 bs (pr rest false).2.1 (pr rest false).2.2 v ev es ∧ tget ts 0 = b ∧ tget ts 2 = .ptr h.next 0 ∧ tget ts 3 = .ptr (h.next + 1) 0 ∧ tget ts 4 = .ptr (h.next + 2) 0 ∧ tget ts 5 = .ptr (h.next + 3) 0 ∧ tget ts 6 = .int .i64 (count : Nat) ∧ tget ts 7 = .int .i64 (i : Nat) ∧ tget ts 8 = .int .i64 ((pr rest false).1.1 : Nat) ∧ tget ts 9 = .int .i64 ((pr rest false).1.2 : Nat)) ?_ fun ts h10 ⟨st, e0, e2, e3, e4, e5, e6, e7, e8, e9⟩ => ?_))))
      · refine G.op ?_
        simp only [ckR_nil, evN_none, stp_some, putR_some, gd_true, wanted_none, dput_some, ev_t, evOp, e4]
        refine G.call ?_
        simp only [dput_some, ev_t, tget_tput, ↓reduceIte, List.map_cons, List.map_nil]
        refine (pair_ok st.s0 hr hlen).mono fun v h6 ⟨ev, u⟩ => ?_
        subst ev
        refine G.op (G.op (G.op (G.op (G.op ?_))))
        simp only [ckR_nil, evN_none, stp_some, putR_some, gd_true, wanted_none, dput_some, ev_t, evOp, tget_tput, extA_tup, ↓reduceIte, Nat.reduceEqDiff, Option.map_some, List.getElem?_cons_zero, List.getElem?_cons_succ]
        exact G.done ⟨st.upd u, by simp only [tget_tput, ↓reduceIte, reduceCtorEq, e0], by simp only [tget_tput, ↓reduceIte, Nat.reduceEqDiff, e2], by simp only [tget_tput, ↓reduceIte, Nat.reduceEqDiff, e3], by simp only [tget_tput, ↓reduceIte, Nat.reduceEqDiff, e4], by simp only [tget_tput, ↓reduceIte, Nat.reduceEqDiff, e5], by simp only [tget_tput, ↓reduceIte, Nat.reduceEqDiff, e6], by simp only [tget_tput, ↓reduceIte, Nat.reduceEqDiff, e7], by simp only [tget_tput, ↓reduceIte, Nat.reduceEqDiff], by simp only [tget_tput, ↓reduceIte]⟩
      have hlen3 : es.length + 1 + (pr rest false).2.1.length ≤ bs.length + (if (pr rest false).2.2 then 1 else 0) := by
        simp only [Bool.false_eq_true, if_false] at hlen2
        split
        · have := hp2.length_le; omega
        · rename_i hq
          have := pr_less (rest := rest) (bad := false) (by simpa using hq)
          omega
      have hes : es.length ≤ bs.length := by simp only [Bool.false_eq_true, if_false] at hlen2; omega
      refine W.runs (fun ts h11 => ∃ ev', St h h11 bs (pr rest false).2.1 (pr rest false).2.2 v ev' (es ++ [(pr rest false).1]) ∧ tget ts 0 = b ∧ tget ts 2 = .ptr h.next 0 ∧ tget ts 3 = .ptr (h.next + 1) 0 ∧ tget ts 4 = .ptr (h.next + 2) 0 ∧ tget ts 5 = .ptr (h.next + 3) 0 ∧ tget ts 6 = .int .i64 (count : Nat) ∧ tget ts 7 = .int .i64 (i : Nat)) ?_ fun ts h11 ⟨ev', st, e0, e2, e3, e4, e5, e6, e7⟩ => ?_
      · obtain ⟨ev', h12, p1, p2, p3, p4⟩ := st.sl.push (bytes := 16) (edge (pr rest false).1) st.nx (by omega) rfl rfl (by rw [flat_len]; unfold tooMany; omega) (by rw [flat_len]; unfold tooMany; omega)
        have g12 : h12.get (h.next + 3) = some (gbox (v : Nat) ev) := by rw [p3.2 _ (by omega)]; exact st.g1
        simp only [edge] at p1
        simp only [ckR_nil, evN_none, stps_nil, stps_cons, stp_some, putR_some, gd_true, wanted_none, dput_some, dput_none, ev_t, okR_some, evOp, tget_tput, loadA_ptr, fadrA_ptr, packA_one, storeA_ptr, ↓reduceIte, Nat.reduceEqDiff, Option.map_some, Nat.zero_add, Nat.reduceAdd, reduceCtorEq, and_true, fill, splice, cells_int, cells_agg, List.length_cons, List.length_nil, List.all_cons, List.all_nil, List.take_succ_cons, List.take_zero, List.drop_succ_cons, List.drop_zero, List.cons_append, List.nil_append, Nat.reduceLeDiff, Bool.and_true, and_self, repl_one, AV.un, e0, e2, e3, e4, e5, e6, e7, e8, e9, (rd2 st.g1).2.2, p1, p2.cells.1, p2.cells.2, wr2b g12]
        refine ⟨ev', st.setE p3 ?_ (Upd.put g12)⟩
        rw [flat, List.flatMap_append]
        simpa [flat] using p2
      refine W.runs (fun ts h12 => h12 = h11 ∧ tget ts 0 = b ∧ tget ts 2 = .ptr h.next 0 ∧ tget ts 3 = .ptr (h.next + 1) 0 ∧ tget ts 4 = .ptr (h.next + 2) 0 ∧ tget ts 5 = .ptr (h.next + 3) 0 ∧ tget ts 6 = .int .i64 (count : Nat) ∧ tget ts 7 = .int .i64 ((i + 1 : Nat) : Int)) ?_ fun ts h12 ⟨eh, e0, e2, e3, e4, e5, e6, e7⟩ => ?_
      · simp only [ckR_nil, evN_none, stps_nil, stps_cons, stp_some, putR_some, gd_true, wanted_none, dput_some, ev_t, ev_c, okR_some, evOp, tget_tput, bin_add, ↓reduceIte, Nat.reduceEqDiff, Option.map_some, reduceCtorEq, true_and, e0, e2, e3, e4, e5, e6, e7]
        rw [IntWalk.i64_in _ (by omega)]
        rfl
      subst eh
      refine ⟨m, by omega, i + 1, _, _, es ++ [(pr rest false).1], ev', by omega, hp2.trans hr, by simpa using hlen3, fun y hy => ?_, st, e0, e2, e3, e4, e5, e6, e7⟩
      rw [hprs _ rfl, hy]
      simp [prs]
    · have hy : prs count rest0 bad0 = (es, rest, bad) := by
        rw [hprs _ rfl]
        cases m with
        | zero => simp [prs]
        | succ m =>
          have hi : i < count := by omega
          simp only [hi, decide_true, Bool.true_and, Bool.not_eq_false'] at hc
          subst hc
          simp [prs]
      clear hprs hc e7 e8
      refine W.exit ⟨fun _ => ?_, fun e => absurd rfl e⟩
      have hrl := hr.length_le
      have hM : rdM bs = if bad = true ∨ rest ≠ [] then ⟨0, [], 11, bs.length - rest.length⟩ else
          if v < 1 ∨ 24 < v ∨ 40 < count then ⟨0, [], 10, 0⟩ else
          match firstOff v 0 es with
          | some i => ⟨0, [], 12, i⟩
          | none => ⟨v, es, 0, 0⟩ := by
        unfold rdM
        rw [if_neg (by omega)]
        simp only [hx, hy]
      have hd64 : decide ((((bs.length - rest.length : Nat) : Int)) < (bs.length : Nat)) = decide (rest ≠ []) := by
        simp only [decide_eq_decide]
        constructor
        · rintro q rfl
          simp only [List.length_nil] at q
          omega
        · intro q
          have : 0 < rest.length := List.length_pos_iff.2 q
          omega
      refine W.seq (W.seq (W.runs (fun ts h10 => h10 = h9 ∧ tget ts 2 = .ptr h.next 0 ∧ tget ts 3 = .ptr (h.next + 1) 0 ∧ tget ts 4 = .ptr (h.next + 2) 0 ∧ tget ts 5 = .ptr (h.next + 3) 0 ∧ tget ts 6 = .int .i64 (count : Nat) ∧ tget ts 64 = .bool (bad || decide (rest ≠ []))) ?_ fun ts h10 ⟨eh, e2, e3, e4, e5, e6, e8⟩ => ?_))
      · obtain ⟨r0, r1, r2⟩ := rd_scn st.s0
        cases bad with
        | true => simp only [ckR_nil, evN_none, stps_nil, stps_cons, stp_some, putR_some, gd_true, gd_false, wanted_none, wanted_some, dput_some, ev_t, ev_c, okR_some, evOp, tget_tput, loadA_ptr, fadrA_ptr, nilckA_ptr, packA_one, pickA_true, ↓reduceIte, Nat.reduceEqDiff, Option.map_some, beq_false, Bool.not_true, Nat.zero_add, reduceCtorEq, and_self, AV.un, e0, e2, e3, e4, e5, e6, r2, Bool.true_or]
        | false => simp only [ckR_nil, evN_none, stps_nil, stps_cons, stp_some, putR_some, gd_true, wanted_none, wanted_some, dput_some, ev_t, ev_c, okR_some, evOp, tget_tput, loadA_ptr, fadrA_ptr, nilckA_ptr, packA_one, pickA_false, bin_lss, ↓reduceIte, Nat.reduceEqDiff, Option.map_some, beq_false, Bool.not_false, Nat.zero_add, reduceCtorEq, and_self, e0, e2, e3, e4, e5, e6, r1, r2, hb.1, hd64, Bool.false_or]
      subst eh
      refine W.cond e8 (fun hc => ?_) (fun hc => ?_)
      · have hM2 : rdM bs = ⟨0, [], 11, bs.length - rest.length⟩ := by
          rw [hM, if_pos (by simpa using hc)]
        rw [hM2]
        refine W.seq (W.calls (fun ts h11 => tget ts 2 = .ptr h.next 0 ∧ tget ts 3 = .ptr (h.next + 1) 0 ∧ h11.get h.next = some (gbox 0 .nils) ∧ h11.get (h.next + 1) = some (fbox 11 ((bs.length - rest.length : Nat) : Int)) ∧ Ext h.next h h11) ?_ fun ts h11 ⟨e2, e3, g0, g1, ex⟩ => W.ret (fault_out e2 e3 g0 g1 ex))
        obtain ⟨r0, r1, r2⟩ := rd_scn st.s0
        refine G.op (G.op (G.op (G.op ?_)))
        simp only [ckR_nil, evN_none, stp_some, putR_some, gd_true, wanted_none, dput_some, ev_t, evOp, tget_tput, loadA_ptr, fadrA_ptr, nilckA_ptr, packA_one, ↓reduceIte, Option.map_some, Nat.zero_add, e4, r1]
        refine G.call ?_
        simp only [dput_some, ev_t, tget_tput, ↓reduceIte, List.map_cons, List.map_nil]
        refine (syntax_ok _).mono fun v h11 ⟨ev, ex⟩ => ?_
        subst ev
        have st2 := st.ext' ex
        obtain ⟨f1, f2, f3, f4, f5⟩ := fault_put (k := 11) (i := ((bs.length - rest.length : Nat) : Int)) st2.g0 st2.f0 st2.ext
        refine G.op (G.op (G.op (G.op ?_)))
        simp only [ckR_nil, evN_none, stp_some, putR_some, gd_true, wanted_none, dput_some, dput_none, ev_t, evOp, tget_tput, extA_tup, storeA_ptr, ↓reduceIte, Nat.reduceEqDiff, Option.map_some, Nat.zero_add, Nat.reduceAdd, List.getElem?_cons_zero, List.getElem?_cons_succ, one_int, one_nils, cells_agg, List.length_cons, List.length_nil, List.all_cons, List.all_nil, Bool.and_true, and_self, AV.un, e2, e3, f1, f2]
        exact G.done ⟨by simp only [tget_tput, ↓reduceIte, Nat.reduceEqDiff, e2], by simp only [tget_tput, ↓reduceIte, Nat.reduceEqDiff, e3], f3, f4, f5⟩
      simp only [Bool.or_eq_false_iff, decide_eq_false_iff_not, ne_eq, Decidable.not_not] at hc
      obtain ⟨rfl, rfl⟩ := hc
      rw [if_neg (by simp)] at hM
      refine W.skip (W.seq (W.seq (W.runs (fun ts h11 => h11 = h10 ∧ tget ts 2 = .ptr h.next 0 ∧ tget ts 3 = .ptr (h.next + 1) 0 ∧ tget ts 5 = .ptr (h.next + 3) 0 ∧ tget ts 83 = .bool (decide (v < 1 ∨ 24 < v ∨ 40 < count))) ?_ fun ts h11 ⟨eh, e2, e3, e5, e8⟩ => ?_)))
      · have q1 : decide ((v : Int) < 1) = decide (v < 1) := by simp only [decide_eq_decide]; omega
        have q2 : decide ((24 : Int) < v) = decide (24 < v) := by simp only [decide_eq_decide]; omega
        have q3 : decide ((40 : Int) < count) = decide (40 < count) := by simp only [decide_eq_decide]; omega
        by_cases c1 : v < 1
        · simp only [ckR_nil, evN_none, stps_nil, stps_cons, stp_some, putR_some, gd_true, gd_false, wanted_none, wanted_some, dput_some, ev_t, ev_c, okR_some, evOp, tget_tput, loadA_ptr, fadrA_ptr, packA_one, pickA_true, bin_lss, ↓reduceIte, Nat.reduceEqDiff, Option.map_some, beq_false, Bool.not_true, Nat.add_zero, and_self, AV.un, e2, e3, e5, e6, (rd2 st.g1).2.1, q1, c1, decide_true, true_or]
        · by_cases c2 : 24 < v
          · simp only [ckR_nil, evN_none, stps_nil, stps_cons, stp_some, putR_some, gd_true, gd_false, wanted_none, wanted_some, dput_some, ev_t, ev_c, okR_some, evOp, tget_tput, loadA_ptr, fadrA_ptr, packA_one, pickA_true, pickA_false, bin_lss, bin_gtr, ↓reduceIte, Nat.reduceEqDiff, Option.map_some, beq_false, Bool.not_true, Bool.not_false, Nat.add_zero, and_self, AV.un, e2, e3, e5, e6, (rd2 st.g1).2.1, q1, q2, c1, c2, decide_true, decide_false, true_or, or_true]
          · simp only [ckR_nil, evN_none, stps_nil, stps_cons, stp_some, putR_some, gd_true, wanted_none, wanted_some, dput_some, ev_t, ev_c, okR_some, evOp, tget_tput, loadA_ptr, fadrA_ptr, packA_one, pickA_false, bin_lss, bin_gtr, ↓reduceIte, Nat.reduceEqDiff, Option.map_some, beq_false, Bool.not_false, Nat.add_zero, and_self, e2, e3, e5, e6, (rd2 st.g1).2.1, q1, q2, q3, c1, c2, decide_false, false_or]
      subst eh
      refine W.cond e8 (fun hc => ?_) (fun hc => ?_)
      · have hM2 : rdM bs = ⟨0, [], 10, 0⟩ := by rw [hM, if_pos (by simpa using hc)]
        rw [hM2]
        obtain ⟨f1, f2, f3, f4, f5⟩ := fault_put (k := 10) (i := 0) st.g0 st.f0 st.ext
        refine W.seq (W.runs (fun ts h12 => tget ts 2 = .ptr h.next 0 ∧ tget ts 3 = .ptr (h.next + 1) 0 ∧ h12.get h.next = some (gbox 0 .nils) ∧ h12.get (h.next + 1) = some (fbox 10 0) ∧ Ext h.next h h12) ?_ fun ts h12 ⟨e2, e3, g0, g1, ex⟩ => W.ret (fault_out e2 e3 g0 g1 ex))
        simp only [ckR_nil, evN_none, stps_nil, stps_cons, stp_some, putR_some, gd_true, wanted_none, dput_some, dput_none, ev_t, ev_c, okR_some, evOp, tget_tput, storeA_ptr, ↓reduceIte, Nat.reduceEqDiff, Option.map_some, Nat.zero_add, Nat.reduceAdd, true_and, fill, splice, cells_int, one_int, one_nils, cells_agg, List.length_cons, List.length_nil, List.all_cons, List.all_nil, List.take_zero, List.drop_succ_cons, List.drop_zero, List.cons_append, List.nil_append, Nat.reduceLeDiff, Bool.and_true, and_self, AV.un, e2, e3, f1, f2]
        exact ⟨f3, f4, f5⟩
      rw [if_neg (by simpa using hc)] at hM
      have hel : es.length < 2 ^ 41 := by simp only [List.length_nil, Bool.false_eq_true, if_false] at hlen2; omega
      clear e8 hc
      refine W.skip (W.seq (W.seq (W.runs (fun ts h12 => h12 = h11 ∧ tget ts 2 = .ptr h.next 0 ∧ tget ts 3 = .ptr (h.next + 1) 0 ∧ tget ts 5 = .ptr (h.next + 3) 0 ∧ tget ts 87 = ev ∧ tget ts 88 = .int .i64 (es.length : Nat) ∧ tget ts 89 = .int .i64 0) ?_ fun ts h12 ⟨eh, e2, e3, e5, e6, e7, e8⟩ => ?_)))
      · have hln := st.sl.len (by omega)
        rw [flat_len, Nat.mul_div_cancel _ (by omega)] at hln
        simp only [ckR_nil, evN_none, stps_nil, stps_cons, stp_some, putR_some, gd_true, wanted_none, dput_some, ev_t, ev_c, okR_some, evOp, tget_tput, loadA_ptr, fadrA_ptr, packA_one, ↓reduceIte, Nat.reduceEqDiff, Option.map_some, Nat.zero_add, and_self, e2, e3, e5, (rd2 st.g1).2.2, hln]
      subst eh
      refine W.block (W.loop (fun m ts h13 => ∃ k, m + k = es.length ∧ firstOff v k (es.drop k) = firstOff v 0 es ∧ St h h13 bs [] false v ev es ∧ tget ts 2 = .ptr h.next 0 ∧ tget ts 3 = .ptr (h.next + 1) 0 ∧ tget ts 5 = .ptr (h.next + 3) 0 ∧ tget ts 87 = ev ∧ tget ts 88 = .int .i64 (es.length : Nat) ∧ tget ts 89 = .int .i64 (k : Nat)) ?_
        (n := es.length) ⟨0, rfl, rfl, st, e2, e3, e5, e6, e7, e8⟩)
      clear e2 e3 e5 e6 e7 e8 st
      rintro m ts h13 ⟨k, hm, hk, st, e2, e3, e5, e6, e7, e8⟩
      refine W.seq (W.runs (fun ts h14 => h14 = h13 ∧ tget ts 2 = .ptr h.next 0 ∧ tget ts 3 = .ptr (h.next + 1) 0 ∧ tget ts 5 = .ptr (h.next + 3) 0 ∧ tget ts 87 = ev ∧ tget ts 88 = .int .i64 (es.length : Nat) ∧ tget ts 89 = .int .i64 (k : Nat) ∧ tget ts 90 = .bool (decide (k < es.length))) ?_ fun ts h14 ⟨eh, e2, e3, e5, e6, e7, e8, e9⟩ => W.seq ?_)
      · simp only [ckR_nil, evN_none, stps_nil, stps_cons, stp_some, putR_some, gd_true, wanted_none, dput_some, ev_t, okR_some, evOp, tget_tput, bin_lss, ↓reduceIte, Nat.reduceEqDiff, Option.map_some, true_and, e2, e3, e5, e6, e7, e8]
        congr 1
        simp only [decide_eq_decide]
        omega
      subst eh
      refine W.cond e9 (fun hc => ?_) (fun hc => ?_)
      · have hc : k < es.length := by simpa using hc
        obtain ⟨e, he⟩ : ∃ e, es[k]? = some e := ⟨_, List.getElem?_eq_getElem hc⟩
        have hdrop : es.drop k = e :: es.drop (k + 1) := by
          rw [List.drop_eq_getElem_cons hc]
          rw [List.getElem?_eq_getElem hc] at he
          cases he
          rfl
        obtain ⟨eb, en, hev, hrd, hix⟩ := rd_edge st.sl he
        have nx := st.nx
        refine W.skip (W.seq (W.block (W.seq (W.runs (fun ts h15 => St h h15 bs [] false v ev es ∧ tget ts 2 = .ptr h.next 0 ∧ tget ts 3 = .ptr (h.next + 1) 0 ∧ tget ts 5 = .ptr (h.next + 3) 0 ∧ tget ts 87 = ev ∧ tget ts 88 = .int .i64 (es.length : Nat) ∧ tget ts 89 = .int .i64 (k : Nat) ∧ tget ts 10 = .int .i64 (k : Nat) ∧ tget ts 11 = .ptr h14.next 0 ∧ h15.get h14.next = some (.cells (edge e) 2 false)) ?_ fun ts h15 ⟨st, e2, e3, e5, e6, e7, e8, e9, e10, g11⟩ => ?_))))
        · have gn : (h14.new (.cells [.int .i64 0, .int .i64 0] 2 false)).get h14.next = some (.cells [.int .i64 0, .int .i64 0] 2 false) := by rw [AH.get_new]; simp
          have u := Upd.put (o := .cells (edge e) 2 false) gn
          simp only [edge] at hrd u
          simp only [ckR_nil, evN_none, stps_nil, stps_cons, stp_some, putR_some, gd_true, wanted_none, dput_some, dput_none, ev_t, okR_some, evOp, tget_tput, loadA_ptr, packA_agg, iadrL_sl, storeA_ptr, ↓reduceIte, Nat.reduceEqDiff, Option.map_some, Nat.zero_add, Nat.reduceAdd, true_and, one_int, cells_agg, List.length_cons, List.length_nil, List.all_cons, List.all_nil, Bool.and_true, and_self, AV.un, e2, e3, e5, e6, e7, e8, hev, hix, hrd, wr2 gn]
          refine ⟨?_, u.get⟩
          rw [← hev]
          exact st.ext' ((Ext.new (Nat.le_refl _)).trans (u.ext (Nat.le_refl _)))
        refine W.seq (W.runs (fun ts h16 => h16 = h15 ∧ tget ts 2 = .ptr h.next 0 ∧ tget ts 3 = .ptr (h.next + 1) 0 ∧ tget ts 5 = .ptr (h.next + 3) 0 ∧ tget ts 87 = ev ∧ tget ts 88 = .int .i64 (es.length : Nat) ∧ tget ts 89 = .int .i64 (k : Nat) ∧ tget ts 10 = .int .i64 (k : Nat) ∧ tget ts 101 = .bool (decide (v ≤ max e.1 e.2))) ?_ fun ts h16 ⟨eh, e2, e3, e5, e6, e7, e8, e9, e10⟩ => ?_)
        · have q : decide ((v : Int) ≤ if (e.1 : Int) < (e.2 : Nat) then ((e.2 : Nat) : Int) else ((e.1 : Nat) : Int)) = decide (v ≤ max e.1 e.2) := by
            simp only [decide_eq_decide]
            split <;> omega
          simp only [edge] at g11
          simp only [ckR_nil, evN_none, stps_nil, stps_cons, stp_some, putR_some, gd_true, wanted_none, dput_some, ev_t, okR_some, evOp, tget_tput, loadA_ptr, fadrA_ptr, packA_one, bin_geq, ↓reduceIte, Nat.reduceEqDiff, Option.map_some, Nat.zero_add, Nat.add_zero, List.map_cons, List.map_nil, and_self, e2, e3, e5, e6, e7, e8, e9, e10, (rd2 g11).2.1, (rd2 g11).2.2, (rd2 st.g1).2.1, mx2, q]
        subst eh
        refine W.cond e10 (fun hc => ?_) (fun hc => ?_)
        · have hM2 : rdM bs = ⟨0, [], 12, k⟩ := by
            rw [hM, ← hk, hdrop, firstOff, if_pos (by simpa using hc)]
          rw [hM2]
          obtain ⟨f1, f2, f3, f4, f5⟩ := fault_put (k := 12) (i := (k : Nat)) st.g0 st.f0 st.ext
          refine W.seq (W.runs (fun ts h12 => tget ts 2 = .ptr h.next 0 ∧ tget ts 3 = .ptr (h.next + 1) 0 ∧ h12.get h.next = some (gbox 0 .nils) ∧ h12.get (h.next + 1) = some (fbox 12 (k : Nat)) ∧ Ext h.next h h12) ?_ fun ts h12 ⟨e2, e3, g0, g1, ex⟩ => W.ret (fault_out e2 e3 g0 g1 ex))
          simp only [ckR_nil, evN_none, stps_nil, stps_cons, stp_some, putR_some, gd_true, wanted_none, dput_some, dput_none, ev_t, ev_c, okR_some, evOp, tget_tput, storeA_ptr, ↓reduceIte, Nat.reduceEqDiff, Option.map_some, Nat.zero_add, Nat.reduceAdd, true_and, fill, splice, cells_int, one_int, one_nils, cells_agg, List.length_cons, List.length_nil, List.all_cons, List.all_nil, List.take_succ_cons, List.take_zero, List.drop_succ_cons, List.drop_zero, List.cons_append, List.nil_append, Nat.reduceLeDiff, Bool.and_true, and_self, AV.un, e2, e3, e9, f1, f2]
          exact ⟨f3, f4, f5⟩
        · refine W.skip (W.runs (fun ts h17 => h17 = h16 ∧ tget ts 2 = .ptr h.next 0 ∧ tget ts 3 = .ptr (h.next + 1) 0 ∧ tget ts 5 = .ptr (h.next + 3) 0 ∧ tget ts 87 = ev ∧ tget ts 88 = .int .i64 (es.length : Nat) ∧ tget ts 89 = .int .i64 ((k + 1 : Nat) : Int)) ?_ fun ts h17 ⟨eh, e2, e3, e5, e6, e7, e8⟩ => ?_)
          · simp only [ckR_nil, evN_none, stps_nil, stps_cons, stp_some, putR_some, gd_true, wanted_none, dput_some, ev_t, ev_c, okR_some, evOp, tget_tput, bin_add, ↓reduceIte, Nat.reduceEqDiff, Option.map_some, true_and, e2, e3, e5, e6, e7, e8]
            rw [IntWalk.i64_in _ (by omega)]
            rfl
          subst eh
          refine ⟨m - 1, by omega, k + 1, by omega, ?_, st, e2, e3, e5, e6, e7, e8⟩
          rw [← hk, hdrop, firstOff, if_neg (by simpa using hc)]
      · have hc : ¬ k < es.length := by simpa using hc
        have hk' : firstOff v 0 es = none := by
          rw [← hk, List.drop_eq_nil_of_le (by omega)]; rfl
        rw [hk'] at hM
        simp only at hM
        rw [hM]
        refine W.exit ⟨fun _ => ?_, fun e => absurd rfl e⟩
        have u1 := Upd.put (o := gbox (v : Nat) ev) st.g0
        have f1 := u1.ne (c := h.next + 1) (by omega)
        rw [st.f0] at f1
        have u2 := Upd.put (o := fbox 0 0) f1
        have hc := st.sl.cells
        refine W.seq (W.runs (fun ts h15 => tget ts 2 = .ptr h.next 0 ∧ tget ts 3 = .ptr (h.next + 1) 0 ∧ h15 = (h14.put h.next (gbox (v : Nat) ev)).put (h.next + 1) (fbox 0 0)) ?_ fun ts h15 ⟨e2, e3, eh⟩ => W.ret ?_)
        · simp only [ckR_nil, evN_none, stps_nil, stps_cons, stp_some, putR_some, gd_true, wanted_none, dput_some, dput_none, ev_t, okR_some, evOp, tget_tput, loadA_ptr, packA_agg, storeA_ptr, ↓reduceIte, Nat.reduceEqDiff, Option.map_some, Nat.zero_add, Nat.reduceAdd, fill, one_int, one_nils, cells_agg, List.length_cons, List.length_nil, List.all_cons, List.all_nil, Bool.and_true, and_self, AV.un, e2, e3, e5, (rd2 st.g1).1, hc.2, wr2 st.g0, wr3 f1]
        subst eh
        have g0 := u2.ne (c := h.next) (by omega)
        rw [u1.get] at g0
        refine ⟨.tup [.agg [.int .i64 (v : Nat), ev], .agg [.int .i64 0, .int .i64 0, .nils]], by simp only [Am.results, rdAll, rdRes, e2, e3, rf8, (rd2 g0).1, (rd3 u2.get).1, packA_agg], ev, rfl, ?_, ?_⟩
        · exact ((st.sl.upd u1 (by omega)).upd u2 (by omega)).mono (by omega)
        · exact st.ext.trans ((u1.ext (Nat.le_refl _)).trans (u2.ext (by omega)))

end Go.Proofs.YtloklfmgbolpeaaDoor
