/-
  ref.Same; the document's example; bytes of a text, and more behind them.
-/
import Derived.Test.YtloklfmgbolpeaaDoorTxt
import Derived.KernelRfl
namespace Go.Proofs.YtloklfmgbolpeaaDoor
set_option linter.unusedVariables false
set_option linter.unusedSimpArgs false
open Go.Am

theorem flatEq_edgI (e : Int × Int) : flatEq [.i64, .i64] (edgI e) (edgI e) = some true := by simp [flatEq, edgI]

theorem same_ok {h : AH} {v : Int} {es : List (Int × Int)} {x y : AV} (hx : EdgesAt h x es) (hy : EdgesAt h y es) (hl : es.length < 2 ^ 40) :
    C prg 11 [.agg [.int .i64 v, x], .agg [.int .i64 v, y]] h fun r h' => r = .bool true ∧ Ext h.next h h' := by
  refine C.func pf11 ?_
  have hcx := hx.cells
  have hcy := hy.cells
  refine W.seq (W.runs (fun ts h1 => tget ts 2 = .ptr h.next 0 ∧ tget ts 3 = .ptr (h.next + 1) 0 ∧ h1.get h.next = some (gbox v x) ∧ h1.get (h.next + 1) = some (gbox v y) ∧ Ext h.next h h1) ?_ fun ts h1 ⟨e2, e3, g2, g3, ex⟩ => ?_)
  · simp only [ckR_nil, evN_none, stps_nil, stps_cons, stp_some, putR_some, gd_true, wanted_none, dput_some, ev_t, ev_c, okR_some, evOp, tget_tput, ↓reduceIte, Nat.reduceEqDiff, Nat.zero_add, Nat.reduceAdd, reduceCtorEq, true_and, boxA, cells_agg, List.length_cons, List.length_nil, AH.next_new, initTm]
    refine ⟨?_, ?_, (Ext.new (Nat.le_refl _)).trans (Ext.new (by simp))⟩
    · rw [AH.get_new, AH.next_new, if_neg (by omega), AH.get_new, if_pos rfl]
    · rw [AH.get_new, AH.next_new, if_pos rfl]
  have hx := hx.ext ex (Nat.le_refl _)
  have hy := hy.ext ex (Nat.le_refl _)
  have lx := hx.len
  have ly := hy.len
  refine W.seq (W.seq (W.runs (fun ts h2 => h2 = h1 ∧ tget ts 2 = .ptr h.next 0 ∧ tget ts 3 = .ptr (h.next + 1) 0 ∧ tget ts 19 = .bool false) ?_ fun ts h2 ⟨eh, e2, e3, e19⟩ => ?_))
  · simp only [ckR_nil, evN_none, stps_nil, stps_cons, stp_some, putR_some, gd_true, wanted_none, wanted_some, dput_some, ev_t, ev_c, okR_some, evOp, tget_tput, loadA_ptr, fadrA_ptr, packA_one, pickA_false, bin_neq, ↓reduceIte, Nat.reduceEqDiff, Option.map_some, beq_false, Bool.not_true, Bool.not_false, Nat.zero_add, Nat.add_zero, and_self, e2, e3, (rd2 g2).2.1, (rd2 g3).2.1, (rd2 g2).2.2, (rd2 g3).2.2, lx, ly, decide_true]
  subst eh
  refine W.no e19 (W.skip (W.seq (W.seq (W.runs (fun ts h3 => h3 = h2 ∧ tget ts 2 = .ptr h.next 0 ∧ tget ts 3 = .ptr (h.next + 1) 0 ∧ tget ts 5 = .int .i64 0) ?_ fun ts h3 ⟨eh, e2, e3, e5⟩ => ?_))))
  · simp only [ckR_nil, evN_none, stps_nil, stps_cons, stp_some, putR_some, gd_true, wanted_none, dput_some, ev_c, okR_some, evOp, tget_tput, ↓reduceIte, Nat.reduceEqDiff, and_self, e2, e3]
  subst eh
  refine W.block (W.loop (fun m ts h4 => h4 = h3 ∧ ∃ k, m + k = es.length ∧ tget ts 2 = .ptr h.next 0 ∧ tget ts 3 = .ptr (h.next + 1) 0 ∧ tget ts 5 = .int .i64 (k : Nat)) ?_ (n := es.length) ⟨rfl, 0, rfl, e2, e3, e5⟩)
  clear e2 e3 e5 e19
  rintro m ts h4 ⟨eh, k, hm, e2, e3, e5⟩
  subst eh
  refine W.seq (W.seq (W.runs (fun ts h5 => h5 = h4 ∧ tget ts 2 = .ptr h.next 0 ∧ tget ts 3 = .ptr (h.next + 1) 0 ∧ tget ts 5 = .int .i64 (k : Nat) ∧ tget ts 24 = .bool (decide (k < es.length))) ?_ fun ts h5 ⟨eh, e2, e3, e5, e24⟩ => ?_))
  · have : decide (((k : Nat) : Int) < (es.length : Nat)) = decide (k < es.length) := by simp only [decide_eq_decide]; omega
    simp only [ckR_nil, evN_none, stps_nil, stps_cons, stp_some, putR_some, gd_true, wanted_none, dput_some, ev_t, okR_some, evOp, tget_tput, loadA_ptr, fadrA_ptr, packA_one, bin_lss, ↓reduceIte, Nat.reduceEqDiff, Option.map_some, Nat.zero_add, and_self, e2, e3, e5, (rd2 g2).2.2, lx, this]
  subst eh
  refine W.cond e24 (fun hq => ?_) (fun hq => ?_)
  · have hc := of_decide_eq_true hq
    obtain ⟨e, he⟩ : ∃ e, es[k]? = some e := ⟨_, List.getElem?_eq_getElem hc⟩
    obtain ⟨b1, x1, x2, _, _⟩ := hx.at he
    obtain ⟨b2, y1, y2, _, _⟩ := hy.at he
    refine W.skip (W.seq (W.block (W.seq (W.runs (fun ts h6 => h6 = h5 ∧ tget ts 2 = .ptr h.next 0 ∧ tget ts 3 = .ptr (h.next + 1) 0 ∧ tget ts 5 = .int .i64 (k : Nat) ∧ tget ts 37 = .bool false) ?_ fun ts h6 ⟨eh, e2, e3, e5, e37⟩ => ?_))))
    · simp only [ckR_nil, evN_none, stps_nil, stps_cons, stp_some, putR_some, gd_true, wanted_none, dput_some, ev_t, okR_some, evOp, tget_tput, loadA_ptr, fadrA_ptr, packA_one, packA_agg, bin_agg, ↓reduceIte, Nat.reduceEqDiff, Option.map_some, Bool.not_true, Nat.zero_add, and_self, e2, e3, e5, (rd2 g2).2.2, (rd2 g3).2.2, x1, y1, x2, y2, flatEq_edgI]
    subst eh
    refine W.no e37 (W.skip (W.runs (fun ts h7 => h7 = h6 ∧ tget ts 2 = .ptr h.next 0 ∧ tget ts 3 = .ptr (h.next + 1) 0 ∧ tget ts 5 = .int .i64 ((k + 1 : Nat) : Int)) ?_ fun ts h7 ⟨eh, e2, e3, e5⟩ => ?_))
    · simp only [ckR_nil, evN_none, stps_nil, stps_cons, stp_some, putR_some, gd_true, wanted_none, dput_some, ev_t, ev_c, okR_some, evOp, tget_tput, bin_add, ↓reduceIte, Nat.reduceEqDiff, Option.map_some, true_and, e2, e3, e5]
      rw [IntWalk.i64_in _ (by omega)]
      rfl
    subst eh
    exact ⟨m - 1, by omega, rfl, k + 1, by omega, e2, e3, e5⟩
  · refine W.exit ⟨fun _ => ?_, fun e => absurd rfl e⟩
    refine W.seq (W.runs (fun ts h6 => h6 = h5 ∧ tget ts 4 = .bool true) ?_ fun ts h6 ⟨eh, e4⟩ => W.ret ?_)
    · simp only [ckR_nil, evN_none, stps_nil, stps_cons, stp_some, putR_some, gd_true, wanted_none, dput_some, ev_c, okR_some, evOp, tget_tput, ↓reduceIte, and_self]
    subst eh
    exact ⟨.bool true, by simp only [Am.results, rdAll, rdRes, e4, rf11], rfl, ex⟩

/-- What was answered is put into two new boxes. -/
theorem box_put (h : AH) (v k i : Int) (ev : AV) : ∃ h2 h3, wrCells ((h.new (gbox 0 .nils)).new (fbox 0 0)) h.next 0 [.int .i64 v, ev] = some h2 ∧ wrCells h2 (h.next + 1) 0 [.int .i64 k, .int .i64 i, .nils] = some h3 ∧ h3.get h.next = some (gbox v ev) ∧ h3.get (h.next + 1) = some (fbox k i) ∧ Ext h.next h h3 := by
  have n1 : h.next ≤ (h.new (gbox 0 .nils)).next := by simp
  have k1 : ((h.new (gbox 0 .nils)).new (fbox 0 0)).get h.next = some (gbox 0 .nils) := by rw [AH.get_new, AH.next_new, if_neg (by omega), AH.get_new, if_pos rfl]
  have k2 : ((h.new (gbox 0 .nils)).new (fbox 0 0)).get (h.next + 1) = some (fbox 0 0) := by rw [AH.get_new, AH.next_new, if_pos rfl]
  have u1 := Upd.put (o := gbox v ev) k1
  have k3 := u1.ne (c := h.next + 1) (by omega)
  rw [k2] at k3
  have u2 := Upd.put (o := fbox k i) k3
  refine ⟨_, _, wr2 k1, wr3 k3, ?_, u2.get, (Ext.new (Nat.le_refl _)).trans ((Ext.new n1).trans ((u1.ext (Nat.le_refl _)).trans (u2.ext (by omega))))⟩
  rw [u2.ne (by omega)]
  exact u1.get

/-- The document's example is read as it says. -/
theorem speaks_ok {h : AH} : C prg 5 [] h fun r h' => r = .bool true ∧ Ext h.next h h' := by
  refine C.func pf5 ?_
  refine W.seq (W.runs (fun ts h1 => h1 = h) ?_ fun ts h1 eh => ?_)
  · simp only [ckR_nil, evN_none, stps_nil, stps_cons, stp_some, putR_some, gd_true, wanted_none, dput_some, ev_c, okR_some, evOp, initTm]
  subst eh
  have hM : rdM [50, 32, 49, 10, 48, 32, 49, 10] = ⟨2, [(0, 1)], 0, 0⟩ := by kernel_rfl
  have hg : (h1.new (.cells (ofBytes [50, 32, 49, 10, 48, 32, 49, 10]) 1 false)).get h1.next = some (.cells (ofBytes [50, 32, 49, 10, 48, 32, 49, 10]) 1 false) := by rw [AH.get_new]; simp
  have hcv : cvSSA (h1.new (.cells (ofBytes [50, 32, 49, 10, 48, 32, 49, 10]) 1 false)) (.sl h1.next 0 8 8) = some (.sl h1.next 0 8 8) := by simp only [cvSSA, hg]
  have ht : Txt (h1.new (.cells (ofBytes [50, 32, 49, 10, 48, 32, 49, 10]) 1 false)) (.sl h1.next 0 8 8) [50, 32, 49, 10, 48, 32, 49, 10] := by
    refine ⟨rfl, fun h' ex => ?_⟩
    have g : h'.get h1.next = some (.cells (ofBytes [50, 32, 49, 10, 48, 32, 49, 10]) 1 false) := by rw [ex.2 _ (by simp)]; exact hg
    rw [cvBSA_sl, rdCells_of g]
    rfl
  refine W.seq (W.calls (fun ts h2 => ∃ g1 g2 ev, tget ts 1 = .ptr g1 0 ∧ tget ts 2 = .ptr g2 0 ∧ h2.get g1 = some (gbox 2 ev) ∧ h2.get g2 = some (fbox 0 0) ∧ EdgesAt h2 ev [(0, 1)] ∧ Ext h1.next h1 h2) ?_ fun ts h2 ⟨g1, g2, ev, e1, e2, q1, q2, sl, ex⟩ => ?_)
  · refine G.op (G.op ?_)
    have hr8 : repl [AV.int .u8 0] 8 = [.int .u8 0, .int .u8 0, .int .u8 0, .int .u8 0, .int .u8 0, .int .u8 0, .int .u8 0, .int .u8 0] := rfl
    have hcv' : cvSSA (h1.new (.cells [.int .u8 50, .int .u8 32, .int .u8 49, .int .u8 10, .int .u8 48, .int .u8 32, .int .u8 49, .int .u8 10] 1 false)) (.sl h1.next 0 8 8) = some (.sl h1.next 0 8 8) := hcv
    simp only [ckR_nil, evN_none, stp_some, putR_some, gd_true, wanted_none, dput_some, ev_t, ev_c, evOp, tget_tput, ↓reduceIte, Option.map_some, Nat.zero_add, Nat.reduceAdd, fill, splice, cells_int, List.length_cons, List.length_nil, List.take_succ_cons, List.take_zero, List.drop_succ_cons, List.drop_zero, List.cons_append, List.nil_append, Nat.reduceLeDiff, and_self, hr8, hcv']
    refine G.call ?_
    simp only [dput_some, ev_t, tget_tput, ↓reduceIte, List.map_cons, List.map_nil]
    refine (read_ok ht (by simp)).mono fun v h2 ⟨ev, hv, sl, ex⟩ => ?_
    rw [hM] at hv sl
    have hv : v = .tup [.agg [.int .i64 2, ev], .agg [.int .i64 0, .int .i64 0, .nils]] := hv
    subst hv
    simp only at sl
    have hc := sl.cells
    obtain ⟨h3, h4, w1, w2, w3, w4, w5⟩ := box_put h2 2 0 0 ev
    refine G.op (G.op (G.op (G.op (G.op (G.op (G.op ?_))))))
    simp only [ckR_nil, evN_none, stp_some, putR_some, gd_true, wanted_none, dput_some, dput_none, ev_t, evOp, tget_tput, extA_tup, storeA_ptr, ↓reduceIte, Nat.reduceEqDiff, Option.map_some, Nat.zero_add, Nat.reduceAdd, List.getElem?_cons_zero, List.getElem?_cons_succ, one_int, one_nils, cells_agg, List.length_cons, List.length_nil, List.all_cons, List.all_nil, Bool.and_true, AH.next_new, and_self, AV.un, hc.2, w1, w2]
    refine G.done ⟨h2.next, h2.next + 1, ev, by simp only [tget_tput, ↓reduceIte, Nat.reduceEqDiff], by simp only [tget_tput, ↓reduceIte], w3, w4, (sl.edges.ext w5 (Nat.le_refl _)), ?_⟩
    exact (Ext.new (Nat.le_refl _)).trans ((ex.mono (by simp)).trans (w5.mono (by have := ex.1; simp at this; omega)))
  obtain ⟨eb, d1, _, _, d3⟩ := sl.at (k := 0) (e := (0, 1)) rfl
  have d1' : iadrL 2 ev (.int .i64 0) = some (.ptr eb 0) := d1
  have d3' : rdCells h2 eb 1 1 = some [.int .i64 1] := d3
  have lx' : lenLA ev = some (.int .i64 1) := sl.len
  refine W.seq (W.runs (fun ts h3 => h3 = h2 ∧ tget ts 0 = .bool true) ?_ fun ts h3 ⟨eh, e0⟩ => W.ret ?_)
  · simp only [ckR_nil, evN_none, stps_nil, stps_cons, stp_some, putR_some, gd_true, wanted_none, wanted_some, dput_some, ev_t, ev_c, okR_some, evOp, tget_tput, loadA_ptr, fadrA_ptr, packA_one, pickA_true, bin_eql, ↓reduceIte, Nat.reduceEqDiff, Option.map_some, beq_true, Nat.zero_add, Nat.add_zero, and_self, e1, e2, (rd2 q1).2.1, (rd2 q1).2.2, (rd3 q2).2.1, lx', d1', d3', decide_true]
  subst eh
  exact ⟨.bool true, by simp only [Am.results, rdAll, rdRes, e0, rf5], rfl, ex⟩

/-- Bytes that came in. -/
def CameB (h : AH) (bs : List UInt8) (v : AV) : Prop := (v = .nils ∧ bs = []) ∨ ∃ b, v = .sl b 0 bs.length bs.length ∧ h.get b = some (.cells (ofBytes bs) 1 true)

theorem CameB.ext {h h' : AH} {n : Nat} {bs : List UInt8} {v : AV} (hc : CameB h bs v) (ex : Ext n h h') (hn : h.next ≤ n) : CameB h' bs v := by
  rcases hc with hc | ⟨b, h1, h2⟩
  · exact .inl hc
  · exact .inr ⟨b, h1, by rw [ex.2 _ (by have := AH.lt_of_get h2; omega)]; exact h2⟩

theorem CameB.len {h : AH} {bs : List UInt8} {v : AV} (hc : CameB h bs v) : lenLA v = some (.int .i64 (bs.length : Nat)) := by
  rcases hc with ⟨rfl, rfl⟩ | ⟨b, rfl, h2⟩ <;> rfl

/-- []byte(s) -/
theorem txt_new (h : AH) (s : List UInt8) : Txt (h.new (.cells (ofBytes s) 1 false)) (.sl h.next 0 s.length s.length) s := by
  refine ⟨rfl, fun h' ex => ?_⟩
  have g : h'.get h.next = some (.cells (ofBytes s) 1 false) := by rw [ex.2 _ (by simp), AH.get_new, if_pos rfl]
  rw [cvBSA_sl, rdCells_of g, if_pos (by rw [ofBytes_len]; omega), List.drop_zero, ← ofBytes_len s, List.take_length]
  simp [bytesOf_ofBytes]

theorem appG_txt {h : AH} {tg : Option Nat} {s bs : List UInt8} {v : AV} (hc : CameB h bs v) (hl : s.length + bs.length < 2 ^ 39) (ht : tg = none ∨ (h.new (.cells (ofBytes s) 1 false)).tyOf h.next = tg) :
    ∃ v' h', appG (h.new (.cells (ofBytes s) 1 false)) tg 1 1 (.sl h.next 0 s.length s.length) v = some (v', h') ∧ Txt h' v' (s ++ bs) ∧ Ext h.next h h' := by
  have hg : (h.new (.cells (ofBytes s) 1 false)).get h.next = some (.cells (ofBytes s) 1 false) := by rw [AH.get_new, if_pos rfl]
  have hc2 := hc.ext (Ext.new (o := .cells (ofBytes s) 1 false) (Nat.le_refl _)) (Nat.le_refl _)
  rcases hc2 with ⟨rfl, rfl⟩ | ⟨b, rfl, h2⟩
  · exact ⟨_, _, rfl, by rw [List.append_nil]; exact txt_new h s, Ext.new (Nat.le_refl _)⟩
  · have hr : rdCells (h.new (.cells (ofBytes s) 1 false)) b 0 (bs.length * 1) = some (ofBytes bs) := by
      rw [rdCells_of h2, if_pos (by rw [ofBytes_len]; omega), List.drop_zero, Nat.mul_one, ← ofBytes_len bs, List.take_length]
    have hrs : rdCells (h.new (.cells (ofBytes s) 1 false)) h.next 0 (s.length * 1) = some (ofBytes s) := by
      rw [rdCells_of hg, if_pos (by rw [ofBytes_len]; omega), List.drop_zero, Nat.mul_one, ← ofBytes_len s, List.take_length]
    have hone := ofBytes_one bs
    by_cases h0 : bs.length = 0
    · have h00 := List.length_eq_zero_iff.1 h0
      subst h00
      refine ⟨.sl h.next 0 s.length s.length, h.new (.cells (ofBytes s) 1 false), ?_, by rw [List.append_nil]; exact txt_new h s, Ext.new (Nat.le_refl _)⟩
      simp only [appG, srcCells, hr, Option.map_some, hone, if_true, List.length_nil] at hr ⊢
    · refine ⟨.sl (h.next + 1) 0 (s.length + bs.length) (s.length + bs.length), ((h.new (.cells (ofBytes s) 1 false)).put h.next .dead).newG (.cells (ofBytes s ++ ofBytes bs) 1 false) tg, ?_, ?_, ?_⟩
      · have c1 : ¬ s.length + bs.length ≤ s.length := by omega
        have c2 : (s.length + bs.length) * 1 < tooMany ∧ s.length + bs.length < tooMany := by unfold tooMany; omega
        simp only [appG, srcCells, hr, Option.map_some, hone, if_true, h0, if_false, c1, c2, and_self, hg, hrs, ht, AH.next_new]
      · refine ⟨by rw [List.length_append]; rfl, fun h' ex => ?_⟩
        have g : h'.get (h.next + 1) = some (.cells (ofBytes (s ++ bs)) 1 false) := by
          rw [ex.2 _ (by simp), AH.get_newG, AH.next_put, AH.next_new, if_pos rfl, ofBytes_app]
        rw [cvBSA_sl, rdCells_of g, if_pos (by rw [ofBytes_len, List.length_append]; omega), List.drop_zero, ← List.length_append, ← ofBytes_len (s ++ bs), List.take_length]
        simp [bytesOf_ofBytes]
      · have x1 : Ext h.next h (h.new (.cells (ofBytes s) 1 false)) := Ext.new (Nat.le_refl _)
        have x2 : Ext h.next (h.new (.cells (ofBytes s) 1 false)) ((h.new (.cells (ofBytes s) 1 false)).put h.next .dead) := Ext.put (Nat.le_refl _)
        refine x1.trans (x2.trans ?_)
        cases tg
        · exact Ext.new (by simp)
        · exact Ext.newT (by simp)

/-- append([]byte(s), more...) -/
theorem appB_txt {h : AH} {s bs : List UInt8} {v : AV} (hc : CameB h bs v) (hl : s.length + bs.length < 2 ^ 39) :
    ∃ v' h', appBA (h.new (.cells (ofBytes s) 1 false)) 5 (.sl h.next 0 s.length s.length) v = some (v', h') ∧ Txt h' v' (s ++ bs) ∧ Ext h.next h h' := by
  simp only [appBA]
  split
  · rename_i ht
    exact appG_txt hc hl (.inr ht)
  · exact appG_txt hc hl (.inl rfl)

/-- the low bits -/
def low (z : Int) : Nat := (BitVec.ofInt 64 z &&& BitVec.ofInt 64 65535).toNat

theorem low_le (z : Int) : low z ≤ 65535 := by
  unfold low
  rw [BitVec.toNat_and]
  exact Nat.le_trans Nat.and_le_right (Nat.le_refl _)

theorem low_bits (z : Int) : Am.bits .and .i64 z 65535 = some ((low z : Nat) : Int) := by
  have h : Am.bits .and .i64 z 65535 = some (IntKind.i64.wrap ((low z : Nat) : Int)) := rfl
  rw [h, IntWalk.i64_in _ (by have := low_le z; omega)]

/-- a graph that fits, in plain numbers -/
theorem may_nat {v : Int} {es : List (Int × Int)} (h : mayB v es = true) : ∃ (n : Nat) (fs : List (Nat × Nat)), v = n ∧ es = toI fs ∧ 1 ≤ n ∧ n ≤ 64 ∧ fs.length ≤ 128 ∧ ∀ e ∈ fs, e.1 < n ∧ e.2 < n := by
  simp only [mayB, Bool.and_eq_true, decide_eq_true_eq, List.all_eq_true] at h
  obtain ⟨⟨⟨h1, h2⟩, h3⟩, h4⟩ := h
  have hk : ∀ e ∈ es, 0 ≤ e.1 ∧ 0 ≤ e.2 ∧ e.1 < v ∧ e.2 < v := by
    intro e he
    have := h4 e he
    simp only [okE, Bool.and_eq_true, decide_eq_true_eq] at this
    omega
  refine ⟨v.toNat, es.map fun e => (e.1.toNat, e.2.toNat), by omega, ?_, by omega, by omega, by simpa using h3, ?_⟩
  · simp only [toI, List.map_map]
    conv => lhs; rw [← List.map_id es]
    refine List.map_congr_left fun e he => ?_
    have := hk e he
    obtain ⟨a, b⟩ := e
    simp only [id, Function.comp]
    simp only at this
    congr 1 <;> omega
  · intro e he
    obtain ⟨f, hf, rfl⟩ := List.mem_map.1 he
    have := hk f hf
    simp only
    omega

end Go.Proofs.YtloklfmgbolpeaaDoor
