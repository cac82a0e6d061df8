/-
  tool.Tell, ref.Tell.
-/
import Derived.Test.YtjcbcmonmmfllaaGreatDoorHex
namespace Go.Proofs.YtjcbcmonmmfllaaGreatDoor
set_option linter.unusedVariables false
set_option linter.unusedSimpArgs false
open Go.Am

/-- Integers, as they lie in memory. -/
def IntsAt (h : AH) (v : AV) (ns : List Int) : Prop :=
  (ns = [] ∧ (v = .nils ∨ v = .emp)) ∨ ∃ b n ro, v = .sl b 0 n n ∧ h.get b = some (.cells (ns.map (AV.int .i64)) 1 ro) ∧ n = ns.length

theorem IntsAt.ext {h h' : AH} {n : Nat} {v : AV} {ns : List Int} (hb : IntsAt h v ns) (hx : Ext n h h') (hn : h.next ≤ n) : IntsAt h' v ns := by
  rcases hb with hb | ⟨b, m, ro, h1, h2, h3⟩
  · exact .inl hb
  · exact .inr ⟨b, m, ro, h1, by rw [hx.2 _ (by have := AH.lt_of_get h2; omega)]; exact h2, h3⟩

theorem IntsAt.len {h : AH} {v : AV} {ns : List Int} (hb : IntsAt h v ns) : lenLA v = some (.int .i64 (ns.length : Nat)) := by
  rcases hb with ⟨rfl, rfl | rfl⟩ | ⟨b, m, ro, rfl, h2, rfl⟩ <;> rfl

theorem IntsAt.cells {h : AH} {v : AV} {ns : List Int} (hb : IntsAt h v ns) : v.cells = [v] ∧ v.one = true := by
  rcases hb with ⟨_, rfl | rfl⟩ | ⟨b, m, ro, rfl, h2, _⟩ <;> exact ⟨rfl, rfl⟩

theorem IntsAt.at {h : AH} {v : AV} {ns : List Int} (hb : IntsAt h v ns) {i : Nat} {c : Int} (hi : ns[i]? = some c) : ∃ b, iadrL 1 v (.int .i64 (i : Nat)) = some (.ptr b i) ∧ rdCells h b i 1 = some [.int .i64 c] := by
  have hil := (List.getElem?_eq_some_iff.1 hi).1
  rcases hb with ⟨rfl, _⟩ | ⟨b, m, ro, rfl, h2, rfl⟩
  · simp at hi
  · refine ⟨b, ?_, ?_⟩
    · have c : (0 : Int) ≤ (i : Nat) ∧ ((i : Nat) : Int) < (ns.length : Nat) := by omega
      simp only [iadrL_sl, idx?, c, and_self, if_true, Int.toNat_natCast, Option.map_some, Nat.zero_add, Nat.mul_one]
    · rw [rdCells_of h2, if_pos (by rw [List.length_map]; omega)]
      have h3 : (ns.map (AV.int .i64))[i]? = some (.int .i64 c) := by simp [hi]
      obtain ⟨h5, h6⟩ := List.getElem?_eq_some_iff.1 h3
      rw [List.drop_eq_getElem_cons h5, h6]
      rfl

/-- Rows of bytes, as they lie in memory. -/
def CertsAt (h : AH) (v : AV) (cs : List (List UInt8)) : Prop :=
  (cs = [] ∧ v = .nils) ∨ ∃ (b n : Nat) (ro : Bool) (vs : List AV), v = .sl b 0 n n ∧ h.get b = some (.cells vs 1 ro) ∧ n = cs.length ∧ vs.length = cs.length ∧ ∀ (i : Nat) (x : AV) (bs : List UInt8), vs[i]? = some x → cs[i]? = some bs → Byts h x bs

theorem CertsAt.ext {h h' : AH} {n : Nat} {v : AV} {cs : List (List UInt8)} (hb : CertsAt h v cs) (hx : Ext n h h') (hn : h.next ≤ n) : CertsAt h' v cs := by
  rcases hb with hb | ⟨b, m, ro, vs, h1, h2, h3, h4, h5⟩
  · exact .inl hb
  · exact .inr ⟨b, m, ro, vs, h1, by rw [hx.2 _ (by have := AH.lt_of_get h2; omega)]; exact h2, h3, h4, fun i x bs a b => (h5 i x bs a b).ext hx hn⟩

theorem CertsAt.len {h : AH} {v : AV} {cs : List (List UInt8)} (hb : CertsAt h v cs) : lenLA v = some (.int .i64 (cs.length : Nat)) := by
  rcases hb with ⟨rfl, rfl⟩ | ⟨b, m, ro, vs, rfl, h2, rfl, _⟩ <;> rfl

theorem CertsAt.cells {h : AH} {v : AV} {cs : List (List UInt8)} (hb : CertsAt h v cs) : v.cells = [v] ∧ v.one = true := by
  rcases hb with ⟨_, rfl⟩ | ⟨b, m, ro, vs, rfl, h2, _⟩ <;> exact ⟨rfl, rfl⟩

theorem CertsAt.at {h : AH} {v : AV} {cs : List (List UInt8)} (hb : CertsAt h v cs) {i : Nat} {c : List UInt8} (hi : cs[i]? = some c) : ∃ b x, iadrL 1 v (.int .i64 (i : Nat)) = some (.ptr b i) ∧ rdCells h b i 1 = some [x] ∧ Byts h x c := by
  have hil := (List.getElem?_eq_some_iff.1 hi).1
  rcases hb with ⟨rfl, _⟩ | ⟨b, m, ro, vs, rfl, h2, rfl, h4, h5⟩
  · simp at hi
  · have h6 : i < vs.length := by omega
    refine ⟨b, vs[i], ?_, ?_, h5 i _ c (List.getElem?_eq_getElem h6) hi⟩
    · have c : (0 : Int) ≤ (i : Nat) ∧ ((i : Nat) : Int) < (cs.length : Nat) := by omega
      simp only [iadrL_sl, idx?, c, and_self, if_true, Int.toNat_natCast, Option.map_some, Nat.zero_add, Nat.mul_one]
    · rw [rdCells_of h2, if_pos (by omega), List.drop_eq_getElem_cons h6]
      rfl

def errS (code at_ : Int) : List UInt8 := [101, 114, 114, 110, 111, 32] ++ dec code ++ [32] ++ dec at_
def vsS (ns : List Int) : List UInt8 := ns.flatMap fun x => 32 :: dec x
def csS (cs : List (List UInt8)) : List UInt8 := cs.flatMap fun b => hexOf b ++ [10]
def headS (k code at_ : Int) (ns : List Int) : List UInt8 := if k = 1 then [121, 101, 115, 10] else if k = 2 then [110, 111, 10] else errS code at_ ++ vsS ns ++ [10]

theorem errS_len (code at_ : Int) : (errS code at_).length ≤ 49 := by
  have := dec_len code
  have := dec_len at_
  simp [errS]; omega

theorem vsS_len (ns : List Int) : (vsS ns).length ≤ 22 * ns.length := by
  induction ns with
  | nil => simp [vsS]
  | cons x r ih =>
    have := dec_len x
    simp only [vsS, List.flatMap_cons, List.length_append, List.length_cons] at ih ⊢
    omega

theorem vsS_take {ns : List Int} {i : Nat} {x : Int} (hi : ns[i]? = some x) : vsS (ns.take (i + 1)) = vsS (ns.take i) ++ (32 :: dec x) := by
  unfold vsS
  rw [List.take_add_one, hi]
  simp

theorem csS_len (cs : List (List UInt8)) (h : ∀ b ∈ cs, b.length ≤ 500) : (csS cs).length ≤ 1001 * cs.length := by
  induction cs with
  | nil => simp [csS]
  | cons x r ih =>
    have h1 := hexOf_len x
    have h2 := h x (by simp)
    have h3 := ih fun b hb => h b (by simp [hb])
    simp only [csS, List.flatMap_cons, List.length_append, List.length_cons, List.length_nil] at h3 ⊢
    omega

theorem csS_take {cs : List (List UInt8)} {i : Nat} {x : List UInt8} (hi : cs[i]? = some x) : csS (cs.take (i + 1)) = csS (cs.take i) ++ (hexOf x ++ [10]) := by
  unfold csS
  rw [List.take_add_one, hi]
  simp

theorem headS_len {k code at_ : Int} {ns : List Int} (hn : ns.length ≤ 100) : (headS k code at_ ns).length ≤ 2300 := by
  have := errS_len code at_
  have := vsS_len ns
  unfold headS
  split
  · simp
  · split
    · simp
    · simp only [List.length_append, List.length_cons, List.length_nil]; omega

/-- an int of the machine -/
def I64 (n : Int) : Prop := -2 ^ 63 ≤ n ∧ n < 2 ^ 63

abbrev obox (k code at_ : Int) (vv cv : AV) : AO := .cells [.int .i64 k, .int .i64 code, .int .i64 at_, vv, cv] 5 false

theorem rd5 {h : AH} {b : Nat} {x y z u w : AV} (hg : h.get b = some (.cells [x, y, z, u, w] 5 false)) : rdCells h b 0 1 = some [x] ∧ rdCells h b 1 1 = some [y] ∧ rdCells h b 2 1 = some [z] ∧ rdCells h b 3 1 = some [u] ∧ rdCells h b 4 1 = some [w] := by
  simp [rdCells, hg]

set_option maxRecDepth 4000 in
theorem tell_ok {h : AH} {k code at_ : Int} {vv cv : AV} {ns : List Int} {cs : List (List UInt8)} (hk1 : I64 code) (hk2 : I64 at_) (hns : ∀ n ∈ ns, I64 n) (hv : IntsAt h vv ns) (hc : CertsAt h cv cs) (hnl : ns.length ≤ 100) (hcl : cs.length ≤ 10) (hcs : ∀ b ∈ cs, b.length ≤ 500)
    (hp : ∃ ro, h.get 0 = some (.cells pow10 1 ro)) (h0 : 0 < h.next) :
    C prg 5 [.agg [.int .i64 k, .int .i64 code, .int .i64 at_, vv, cv]] h fun r h' => r = .str (headS k code at_ ns ++ csS cs) ∧ Ext h.next h h' := by
  have hhl := headS_len (k := k) (code := code) (at_ := at_) hnl
  have hel := errS_len code at_
  have hvl := vsS_len ns
  refine C.func pf5 ?_
  have hc1 := hv.cells
  have hc2 := hc.cells
  refine W.seq (W.runs (fun ts h1 => tget ts 1 = .ptr h.next 0 ∧ h1.get h.next = some (obox k code at_ vv cv) ∧ h1.next = h.next + 1 ∧ Ext h.next h h1) ?_ fun ts h1 ⟨e1, g1, n1, ex⟩ => ?_)
  · simp only [ckR_nil, evN_none, stps_nil, stps_cons, stp_some, putR_some, gd_true, wanted_none, dput_some, ev_t, ev_c, okR_some, evOp, tget_tput, ↓reduceIte, Nat.reduceEqDiff, Nat.zero_add, Nat.reduceAdd, true_and, boxA, cells_agg, List.length_cons, List.length_nil, AH.next_new, initTm]
    refine ⟨?_, Ext.new (Nat.le_refl _)⟩
    rw [AH.get_new, if_pos rfl]
  refine W.seq (W.runs (fun ts h2 => h2 = h1.newT (.cells [.nilp, .nils] 2 false) 37 ∧ tget ts 1 = .ptr h.next 0 ∧ tget ts 3 = .ptr h1.next 0) ?_ fun ts h2 ⟨eh, e1, e3⟩ => ?_)
  · simp only [ckR_nil, evN_none, stps_nil, stps_cons, stp_some, putR_some, gd_true, wanted_none, dput_some, okR_some, evOp, tget_tput, ↓reduceIte, Nat.reduceEqDiff, and_self, e1]
  have b2 : Bld h1.next h2 h1.next [] := by rw [eh]; exact Bld.fresh
  have x2 : Ext h1.next h1 h2 := by rw [eh]; exact Ext.newT (Nat.le_refl _)
  have xx2 : Ext h.next h h2 := ex.trans (x2.mono (by omega))
  clear eh
  -- all that is laid from here on lies behind h1
  have stay : ∀ h', Ext h1.next h2 h' → h'.get h.next = some (obox k code at_ vv cv) ∧ IntsAt h' vv ns ∧ CertsAt h' cv cs ∧ (∃ ro, h'.get 0 = some (.cells pow10 1 ro)) ∧ 0 < h'.next ∧ Ext h.next h h' := by
    intro h' hx
    have xx : Ext h.next h h' := xx2.trans (hx.mono (by omega))
    have xg : Ext h1.next h1 h' := x2.trans hx
    obtain ⟨ro, hp⟩ := hp
    exact ⟨by rw [xg.2 _ (by omega)]; exact g1, hv.ext xx (Nat.le_refl _), hc.ext xx (Nat.le_refl _), ⟨ro, by rw [xx.2 0 h0]; exact hp⟩, by have := xx.1; omega, xx⟩
  obtain ⟨g2, _, _, _, _, _⟩ := stay h2 Ext.refl
  have d1 : decide (k = 1) = decide (k = 1) := rfl
  refine W.seq (W.cut (fun ts h3 => tget ts 1 = .ptr h.next 0 ∧ tget ts 3 = .ptr h1.next 0 ∧ Bld h1.next h3 h1.next (headS k code at_ ns) ∧ Ext h1.next h2 h3) (W.seq (W.runs (fun ts h3 => h3 = h2 ∧ tget ts 1 = .ptr h.next 0 ∧ tget ts 3 = .ptr h1.next 0 ∧ tget ts 9 = .int .i64 k) ?_ fun ts h3 ⟨eh, e1, e3, e9⟩ => ?_)) fun ts h3 ⟨e1, e3, b3, x3⟩ => ?_)
  · simp only [ckR_nil, evN_none, stps_nil, stps_cons, stp_some, putR_some, gd_true, wanted_none, dput_some, ev_t, okR_some, evOp, tget_tput, loadA_ptr, fadrA_ptr, packA_one, ↓reduceIte, Nat.reduceEqDiff, Option.map_some, Nat.add_zero, and_self, e1, e3, (rd5 g2).1]
  · subst eh
    refine W.block (W.seq (W.runs (fun ts h4 => h4 = h3 ∧ tget ts 1 = .ptr h.next 0 ∧ tget ts 3 = .ptr h1.next 0 ∧ tget ts 9 = .int .i64 k ∧ tget ts 36 = .bool (decide (k = 1))) ?_ fun ts h4 ⟨eh, e1, e3, e9, e36⟩ => W.cond e36 (fun hq => ?_) fun hq => ?_))
    · simp only [ckR_nil, evN_none, stps_nil, stps_cons, stp_some, putR_some, gd_true, wanted_none, dput_some, ev_t, ev_c, okR_some, evOp, tget_tput, bin_eql, ↓reduceIte, Nat.reduceEqDiff, Option.map_some, and_self, e1, e3, e9]
    · subst eh
      simp only [decide_eq_true_eq] at hq
      have hh : headS k code at_ ns = [121, 101, 115, 10] := by unfold headS; rw [if_pos hq]
      rw [hh]
      refine W.calls (fun ts h5 => tget ts 1 = .ptr h.next 0 ∧ tget ts 3 = .ptr h1.next 0 ∧ Bld h1.next h5 h1.next [121, 101, 115, 10] ∧ Ext h1.next h4 h5) ?_ fun ts h5 q => q
      refine G.call ?_
      simp only [dput_some, ev_t, ev_c, List.map_cons, List.map_nil, e3]
      refine (write_ok (x := [121, 101, 115, 10]) b2 (by simp)).mono fun r h5 ⟨er, b5, x5⟩ => ?_
      subst er
      exact G.done ⟨by simp only [tget_tput, ↓reduceIte, Nat.reduceEqDiff, Nat.zero_add, Nat.reduceAdd, List.length_cons, List.length_nil, e1], by simp only [tget_tput, ↓reduceIte, Nat.reduceEqDiff, Nat.zero_add, Nat.reduceAdd, List.length_cons, List.length_nil, e3], b5, x5⟩
    subst eh
    simp only [decide_eq_false_iff_not] at hq
    refine W.seq (W.runs (fun ts h5 => h5 = h4 ∧ tget ts 1 = .ptr h.next 0 ∧ tget ts 3 = .ptr h1.next 0 ∧ tget ts 39 = .bool (decide (k = 2))) ?_ fun ts h5 ⟨eh, e1, e3, e39⟩ => W.cond e39 (fun hq2 => ?_) fun hq2 => ?_)
    · simp only [ckR_nil, evN_none, stps_nil, stps_cons, stp_some, putR_some, gd_true, wanted_none, dput_some, ev_t, ev_c, okR_some, evOp, tget_tput, bin_eql, ↓reduceIte, Nat.reduceEqDiff, Option.map_some, and_self, e1, e3, e9]
    · subst eh
      simp only [decide_eq_true_eq] at hq2
      have hh : headS k code at_ ns = [110, 111, 10] := by unfold headS; rw [if_neg hq, if_pos hq2]
      rw [hh]
      refine W.calls (fun ts h6 => tget ts 1 = .ptr h.next 0 ∧ tget ts 3 = .ptr h1.next 0 ∧ Bld h1.next h6 h1.next [110, 111, 10] ∧ Ext h1.next h5 h6) ?_ fun ts h6 q => q
      refine G.call ?_
      simp only [dput_some, ev_t, ev_c, List.map_cons, List.map_nil, e3]
      refine (write_ok (x := [110, 111, 10]) b2 (by simp)).mono fun r h6 ⟨er, b6, x6⟩ => ?_
      subst er
      exact G.done ⟨by simp only [tget_tput, ↓reduceIte, Nat.reduceEqDiff, Nat.zero_add, Nat.reduceAdd, List.length_cons, List.length_nil, e1], by simp only [tget_tput, ↓reduceIte, Nat.reduceEqDiff, Nat.zero_add, Nat.reduceAdd, List.length_cons, List.length_nil, e3], b6, x6⟩
    subst eh
    simp only [decide_eq_false_iff_not] at hq2
    have hh : headS k code at_ ns = errS code at_ ++ vsS ns ++ [10] := by unfold headS; rw [if_neg hq, if_neg hq2]
    rw [hh]
    have la := dec_len code
    have lb := dec_len at_
    refine W.seq (W.calls (fun ts h6 => tget ts 1 = .ptr h.next 0 ∧ tget ts 3 = .ptr h1.next 0 ∧ Bld h1.next h6 h1.next (errS code at_) ∧ Ext h1.next h5 h6) ?_ fun ts h6 ⟨e1, e3, b6, x6⟩ => ?_)
    · refine G.op (G.op (G.op (G.op (G.op (G.op ?_)))))
      simp only [ckR_nil, evN_none, stp_some, putR_some, gd_true, wanted_none, dput_some, ev_t, evOp, tget_tput, loadA_ptr, fadrA_ptr, packA_one, ↓reduceIte, Nat.reduceEqDiff, Option.map_some, Nat.zero_add, Nat.add_zero, Nat.reduceAdd, e1, (rd5 g2).2.1, (rd5 g2).2.2.1]
      obtain ⟨_, _, _, p5, z5, _⟩ := stay h5 Ext.refl
      refine G.callc rfl ?_
      simp only [chks_nil, chks_cons, chk1_none, dput_some, ev_t, evOp, tget_tput, loadA_ptr, ↓reduceIte, Nat.reduceEqDiff, List.map_cons, List.map_nil, Bool.and_true]
      refine (itoa_ok hk1.1 hk1.2 p5 z5).mono fun r h6 ⟨er, x6⟩ => ?_
      subst er
      have x6' : Ext h1.next h5 h6 := x6.mono x2.1
      obtain ⟨g6, _, _, p6, z6, _⟩ := stay h6 x6'
      refine ⟨by simp only [same_int, packA_one, Option.map_some, (rd5 g6).2.2.1], ?_⟩
      refine G.op ?_
      simp only [ckR_nil, evN_none, stp_some, gd_true, wanted_none, ev_t, ev_c, evOp, tget_tput, bin_sadd, ↓reduceIte, Nat.zero_add, Nat.reduceAdd, List.length_cons, List.length_nil, List.cons_append, List.nil_append]
      rw [if_pos (by omega)]
      simp only [putR_some, dput_some, Option.map_some]
      refine G.op ?_
      simp only [ckR_nil, evN_none, stp_some, gd_true, wanted_none, ev_t, ev_c, evOp, tget_tput, bin_sadd, ↓reduceIte, Nat.zero_add, List.length_cons, List.length_nil, List.cons_append]
      rw [if_pos (by omega)]
      simp only [putR_some, dput_some, Option.map_some]
      refine G.call ?_
      simp only [dput_some, ev_t, tget_tput, ↓reduceIte, Nat.reduceEqDiff, List.map_cons, List.map_nil]
      refine (itoa_ok hk2.1 hk2.2 p6 z6).mono fun r h7 ⟨er, x7⟩ => ?_
      subst er
      have x7' : Ext h1.next h5 h7 := x6'.trans (x7.mono (Nat.le_trans x2.1 x6.1))
      have b7 : Bld h1.next h7 h1.next [] := (b2.ext x6 (Nat.le_refl _)).ext x7 (Nat.le_refl _)
      refine G.op ?_
      simp only [ckR_nil, evN_none, stp_some, gd_true, wanted_none, ev_t, evOp, tget_tput, bin_sadd, ↓reduceIte, Nat.reduceEqDiff, List.length_cons, List.cons_append, List.nil_append, List.append_assoc]
      rw [if_pos (by simp only [List.length_append, List.length_cons, List.length_nil]; omega)]
      simp only [putR_some, dput_some, Option.map_some]
      refine G.call ?_
      simp only [dput_some, ev_t, tget_tput, ↓reduceIte, Nat.reduceEqDiff, List.map_cons, List.map_nil, e3]
      have hE : errS code at_ = 101 :: 114 :: 114 :: 110 :: 111 :: 32 :: (dec code ++ 32 :: dec at_) := by simp [errS]
      rw [← hE]
      refine (write_ok (x := errS code at_) b7 (by simp; omega)).mono fun r h8 ⟨er, b8, x8⟩ => ?_
      subst er
      exact G.done ⟨by simp only [tget_tput, ↓reduceIte, Nat.reduceEqDiff, e1], by simp only [tget_tput, ↓reduceIte, Nat.reduceEqDiff, e3], by simpa using b8, x7'.trans x8⟩
    obtain ⟨g6, v6, _, _, _, _⟩ := stay h6 x6
    have hl6 := v6.len
    refine W.seq (W.seq (W.runs (fun ts h7 => h7 = h6 ∧ tget ts 1 = .ptr h.next 0 ∧ tget ts 3 = .ptr h1.next 0 ∧ tget ts 24 = vv ∧ tget ts 25 = .int .i64 (ns.length : Nat) ∧ tget ts 26 = .int .i64 ((0 : Nat) : Int)) ?_ fun ts h7 ⟨eh, e1, e3, e24, e25, e26⟩ => ?_))
    · simp only [ckR_nil, evN_none, stps_nil, stps_cons, stp_some, putR_some, gd_true, wanted_none, dput_some, ev_t, ev_c, okR_some, evOp, tget_tput, loadA_ptr, fadrA_ptr, packA_one, ↓reduceIte, Nat.reduceEqDiff, Option.map_some, Nat.zero_add, Nat.reduceAdd, true_and, e1, e3, (rd5 g6).2.2.2.1, hl6]
      simp
    subst eh
    refine W.cut (fun ts h8 => tget ts 1 = .ptr h.next 0 ∧ tget ts 3 = .ptr h1.next 0 ∧ Bld h1.next h8 h1.next (errS code at_ ++ vsS ns) ∧ Ext h1.next h5 h8) (W.block (W.loop (fun m ts h8 => ∃ i, m = ns.length - i ∧ i ≤ ns.length ∧ tget ts 1 = .ptr h.next 0 ∧ tget ts 3 = .ptr h1.next 0 ∧ tget ts 24 = vv ∧ tget ts 25 = .int .i64 (ns.length : Nat) ∧ tget ts 26 = .int .i64 (i : Nat) ∧ Bld h1.next h8 h1.next (errS code at_ ++ vsS (ns.take i)) ∧ Ext h1.next h5 h8) ?_ (n := ns.length) ⟨0, rfl, Nat.zero_le _, e1, e3, e24, e25, e26, by simpa [vsS] using b6, x6⟩)) fun ts h8 ⟨e1, e3, b8, x8⟩ => ?_
    · clear e1 e3 e24 e25 e26 b6 x6 g6 v6 hl6
      rintro m ts h8 ⟨i, hm, hi, e1, e3, e24, e25, e26, b8, x8⟩
      refine W.seq (W.runs (fun ts h9 => h9 = h8 ∧ tget ts 1 = .ptr h.next 0 ∧ tget ts 3 = .ptr h1.next 0 ∧ tget ts 24 = vv ∧ tget ts 25 = .int .i64 (ns.length : Nat) ∧ tget ts 26 = .int .i64 (i : Nat) ∧ tget ts 27 = .bool (decide (i < ns.length))) ?_ fun ts h9 ⟨eh, e1, e3, e24, e25, e26, e27⟩ => ?_)
      · have : decide (((i : Nat) : Int) < (ns.length : Nat)) = decide (i < ns.length) := by simp only [decide_eq_decide]; omega
        simp only [ckR_nil, evN_none, stps_nil, stps_cons, stp_some, putR_some, gd_true, wanted_none, dput_some, ev_t, okR_some, evOp, tget_tput, bin_lss, ↓reduceIte, Nat.reduceEqDiff, Option.map_some, and_self, e1, e3, e24, e25, e26, this]
      subst eh
      refine W.seq (W.cond e27 (fun hc => W.skip ?_) fun hc => W.exit ⟨fun _ => ⟨e1, e3, ?_, x8⟩, fun e => absurd rfl e⟩)
      · simp only [decide_eq_true_eq] at hc
        obtain ⟨c, hci⟩ : ∃ c, ns[i]? = some c := ⟨_, List.getElem?_eq_getElem hc⟩
        obtain ⟨g9, v9, _, p9, z9, _⟩ := stay h9 x8
        obtain ⟨b, q1, q2⟩ := v9.at hci
        have htk := vsS_take hci
        have hI := hns c (List.mem_of_getElem? hci)
        have ld := dec_len c
        have hvt := vsS_len (ns.take i)
        have htl : (ns.take i).length ≤ ns.length := by simp; omega
        refine W.seq (W.block (W.seq (W.runs (fun ts h10 => h10 = h9 ∧ tget ts 1 = .ptr h.next 0 ∧ tget ts 3 = .ptr h1.next 0 ∧ tget ts 24 = vv ∧ tget ts 25 = .int .i64 (ns.length : Nat) ∧ tget ts 26 = .int .i64 (i : Nat) ∧ tget ts 5 = .int .i64 c) ?_ fun ts h10 ⟨eh, e1, e3, e24, e25, e26, e5⟩ => ?_)))
        · simp only [ckR_nil, evN_none, stps_nil, stps_cons, stp_some, putR_some, gd_true, wanted_none, dput_some, ev_t, okR_some, evOp, tget_tput, loadA_ptr, packA_one, ↓reduceIte, Nat.reduceEqDiff, Option.map_some, and_self, e1, e3, e24, e25, e26, q1, q2]
        subst eh
        refine W.calls (fun ts h11 => tget ts 1 = .ptr h.next 0 ∧ tget ts 3 = .ptr h1.next 0 ∧ tget ts 24 = vv ∧ tget ts 25 = .int .i64 (ns.length : Nat) ∧ tget ts 26 = .int .i64 (i : Nat) ∧ Bld h1.next h11 h1.next (errS code at_ ++ vsS (ns.take (i + 1))) ∧ Ext h1.next h5 h11) ?_ fun ts h11 ⟨e1, e3, e24, e25, e26, b11, x11⟩ => ?_
        · refine G.op ?_
          simp only [ckR_nil, evN_none, stp_some, putR_some, gd_true, wanted_none, dput_some, ev_t, evOp, e5]
          refine G.call ?_
          simp only [dput_some, ev_t, tget_tput, ↓reduceIte, List.map_cons, List.map_nil]
          refine (itoa_ok hI.1 hI.2 p9 z9).mono fun r h11 ⟨er, x11⟩ => ?_
          subst er
          have x11' : Ext h1.next h5 h11 := x8.trans (x11.mono (Nat.le_trans x2.1 x8.1))
          have b11 := b8.ext x11 (Nat.le_refl _)
          refine G.op ?_
          simp only [ckR_nil, evN_none, stp_some, gd_true, wanted_none, ev_t, ev_c, evOp, tget_tput, bin_sadd, ↓reduceIte, Nat.zero_add, List.length_cons, List.length_nil, List.cons_append, List.nil_append]
          rw [if_pos (by omega)]
          simp only [putR_some, dput_some, Option.map_some]
          refine G.call ?_
          simp only [dput_some, ev_t, tget_tput, ↓reduceIte, Nat.reduceEqDiff, List.map_cons, List.map_nil, e3]
          refine (write_ok (x := 32 :: dec c) b11 (by rw [List.length_append, List.length_cons]; omega)).mono fun r h12 ⟨er, b12, x12⟩ => ?_
          subst er
          exact G.done ⟨by simp only [tget_tput, ↓reduceIte, Nat.reduceEqDiff, List.length_cons, e1], by simp only [tget_tput, ↓reduceIte, Nat.reduceEqDiff, List.length_cons, e3], by simp only [tget_tput, ↓reduceIte, Nat.reduceEqDiff, List.length_cons, e24], by simp only [tget_tput, ↓reduceIte, Nat.reduceEqDiff, List.length_cons, e25], by simp only [tget_tput, ↓reduceIte, Nat.reduceEqDiff, List.length_cons, e26], by rw [htk, ← List.append_assoc]; exact b12, x11'.trans x12⟩
        have w4 : IntKind.i64.wrap (((i : Nat) : Int) + 1) = ((i + 1 : Nat) : Int) := IntWalk.i64_in _ (by omega)
        refine W.runs (fun ts h12 => h12 = h11 ∧ tget ts 1 = .ptr h.next 0 ∧ tget ts 3 = .ptr h1.next 0 ∧ tget ts 24 = vv ∧ tget ts 25 = .int .i64 (ns.length : Nat) ∧ tget ts 26 = .int .i64 ((i + 1 : Nat) : Int)) ?_ fun ts h12 ⟨eh, e1, e3, e24, e25, e26⟩ => ?_
        · simp only [ckR_nil, evN_none, stps_nil, stps_cons, stp_some, putR_some, gd_true, wanted_none, dput_some, ev_t, ev_c, okR_some, evOp, tget_tput, bin_add, ↓reduceIte, Nat.reduceEqDiff, Option.map_some, and_self, e1, e3, e24, e25, e26, w4]
        subst eh
        exact ⟨ns.length - (i + 1), by omega, i + 1, rfl, by omega, e1, e3, e24, e25, e26, b11, x11⟩
      · simp only [decide_eq_false_iff_not] at hc
        have : i = ns.length := by omega
        subst this
        rwa [List.take_length] at b8
    refine W.calls (fun ts h9 => tget ts 1 = .ptr h.next 0 ∧ tget ts 3 = .ptr h1.next 0 ∧ Bld h1.next h9 h1.next (errS code at_ ++ vsS ns ++ [10]) ∧ Ext h1.next h5 h9) ?_ fun ts h9 q => q
    refine G.call ?_
    simp only [dput_some, ev_t, ev_c, List.map_cons, List.map_nil, e3]
    refine (write_ok (x := [10]) b8 (by rw [List.length_append, List.length_singleton]; omega)).mono fun r h9 ⟨er, b9, x9⟩ => ?_
    subst er
    exact G.done ⟨by simp only [tget_tput, ↓reduceIte, Nat.reduceEqDiff, Nat.zero_add, List.length_cons, List.length_nil, e1], by simp only [tget_tput, ↓reduceIte, Nat.reduceEqDiff, Nat.zero_add, List.length_cons, List.length_nil, e3], b9, x8.trans x9⟩
  -- the certificates
  obtain ⟨g3, _, c3, _, _, _⟩ := stay h3 x3
  have hl3 := c3.len
  refine W.seq (W.seq (W.runs (fun ts h4 => h4 = h3 ∧ tget ts 3 = .ptr h1.next 0 ∧ tget ts 43 = cv ∧ tget ts 44 = .int .i64 (cs.length : Nat) ∧ tget ts 45 = .int .i64 ((0 : Nat) : Int)) ?_ fun ts h4 ⟨eh, e3, e43, e44, e45⟩ => ?_))
  · simp only [ckR_nil, evN_none, stps_nil, stps_cons, stp_some, putR_some, gd_true, wanted_none, dput_some, ev_t, ev_c, okR_some, evOp, tget_tput, loadA_ptr, fadrA_ptr, packA_one, ↓reduceIte, Nat.reduceEqDiff, Option.map_some, Nat.zero_add, true_and, e1, e3, (rd5 g3).2.2.2.2, hl3]
    simp
  subst eh
  generalize hH : headS k code at_ ns = H at *
  refine W.cut (fun ts h5 => tget ts 3 = .ptr h1.next 0 ∧ Bld h1.next h5 h1.next (H ++ csS cs) ∧ Ext h1.next h2 h5) (W.block (W.loop (fun m ts h5 => ∃ i, m = cs.length - i ∧ i ≤ cs.length ∧ tget ts 3 = .ptr h1.next 0 ∧ tget ts 43 = cv ∧ tget ts 44 = .int .i64 (cs.length : Nat) ∧ tget ts 45 = .int .i64 (i : Nat) ∧ Bld h1.next h5 h1.next (H ++ csS (cs.take i)) ∧ Ext h1.next h2 h5) ?_ (n := cs.length) ⟨0, rfl, Nat.zero_le _, e3, e43, e44, e45, by simpa [csS] using b3, x3⟩)) fun ts h5 ⟨e3, b5, x5⟩ => ?_
  · clear e1 e3 e43 e44 e45 b3 x3 g3 c3 hl3
    rintro m ts h5 ⟨i, hm, hi, e3, e43, e44, e45, b5, x5⟩
    refine W.seq (W.runs (fun ts h6 => h6 = h5 ∧ tget ts 3 = .ptr h1.next 0 ∧ tget ts 43 = cv ∧ tget ts 44 = .int .i64 (cs.length : Nat) ∧ tget ts 45 = .int .i64 (i : Nat) ∧ tget ts 46 = .bool (decide (i < cs.length))) ?_ fun ts h6 ⟨eh, e3, e43, e44, e45, e46⟩ => ?_)
    · have : decide (((i : Nat) : Int) < (cs.length : Nat)) = decide (i < cs.length) := by simp only [decide_eq_decide]; omega
      simp only [ckR_nil, evN_none, stps_nil, stps_cons, stp_some, putR_some, gd_true, wanted_none, dput_some, ev_t, okR_some, evOp, tget_tput, bin_lss, ↓reduceIte, Nat.reduceEqDiff, Option.map_some, and_self, e3, e43, e44, e45, this]
    subst eh
    refine W.seq (W.cond e46 (fun hc => W.skip ?_) fun hc => W.exit ⟨fun _ => ⟨e3, ?_, x5⟩, fun e => absurd rfl e⟩)
    · simp only [decide_eq_true_eq] at hc
      obtain ⟨c, hci⟩ : ∃ c, cs[i]? = some c := ⟨_, List.getElem?_eq_getElem hc⟩
      obtain ⟨g6, _, c6, p6, z6, _⟩ := stay h6 x5
      obtain ⟨b, x, q1, q2, q3⟩ := c6.at hci
      have htk := csS_take hci
      have hc5 := hcs c (List.mem_of_getElem? hci)
      have hct := csS_len (cs.take i) fun b hb => hcs b (List.mem_of_mem_take hb)
      have htl : (cs.take i).length ≤ cs.length := by simp; omega
      have hxl := hexOf_len c
      refine W.seq (W.block (W.seq (W.runs (fun ts h7 => h7 = h6 ∧ tget ts 3 = .ptr h1.next 0 ∧ tget ts 43 = cv ∧ tget ts 44 = .int .i64 (cs.length : Nat) ∧ tget ts 45 = .int .i64 (i : Nat) ∧ tget ts 7 = x) ?_ fun ts h7 ⟨eh, e3, e43, e44, e45, e7⟩ => ?_)))
      · simp only [ckR_nil, evN_none, stps_nil, stps_cons, stp_some, putR_some, gd_true, wanted_none, dput_some, ev_t, okR_some, evOp, tget_tput, loadA_ptr, packA_one, ↓reduceIte, Nat.reduceEqDiff, Option.map_some, and_self, e3, e43, e44, e45, q1, q2]
      subst eh
      refine W.calls (fun ts h8 => tget ts 3 = .ptr h1.next 0 ∧ tget ts 43 = cv ∧ tget ts 44 = .int .i64 (cs.length : Nat) ∧ tget ts 45 = .int .i64 (i : Nat) ∧ Bld h1.next h8 h1.next (H ++ csS (cs.take (i + 1))) ∧ Ext h1.next h2 h8) ?_ fun ts h8 ⟨e3, e43, e44, e45, b8, x8⟩ => ?_
      · refine G.op ?_
        simp only [ckR_nil, evN_none, stp_some, putR_some, gd_true, wanted_none, dput_some, ev_t, evOp, e7]
        refine G.call ?_
        simp only [dput_some, ev_t, tget_tput, ↓reduceIte, List.map_cons, List.map_nil]
        refine (hex_ok q3 (by omega)).mono fun r h8 ⟨er, x8⟩ => ?_
        subst er
        have x8' : Ext h1.next h2 h8 := x5.trans (x8.mono (Nat.le_trans x2.1 x5.1))
        have b8 := b5.ext x8 (Nat.le_refl _)
        refine G.op ?_
        simp only [ckR_nil, evN_none, stp_some, gd_true, wanted_none, ev_t, ev_c, evOp, tget_tput, bin_sadd, ↓reduceIte, Nat.zero_add, List.length_cons, List.length_nil]
        rw [if_pos (by omega)]
        simp only [putR_some, dput_some, Option.map_some]
        refine G.call ?_
        simp only [dput_some, ev_t, tget_tput, ↓reduceIte, Nat.reduceEqDiff, List.map_cons, List.map_nil, e3]
        refine (write_ok (x := hexOf c ++ [10]) b8 (by rw [List.length_append, List.length_append, List.length_singleton]; omega)).mono fun r h9 ⟨er, b9, x9⟩ => ?_
        subst er
        exact G.done ⟨by simp only [tget_tput, ↓reduceIte, Nat.reduceEqDiff, e3], by simp only [tget_tput, ↓reduceIte, Nat.reduceEqDiff, e43], by simp only [tget_tput, ↓reduceIte, Nat.reduceEqDiff, e44], by simp only [tget_tput, ↓reduceIte, Nat.reduceEqDiff, e45], by rw [htk, ← List.append_assoc]; exact b9, x8'.trans x9⟩
      have w4 : IntKind.i64.wrap (((i : Nat) : Int) + 1) = ((i + 1 : Nat) : Int) := IntWalk.i64_in _ (by omega)
      refine W.runs (fun ts h9 => h9 = h8 ∧ tget ts 3 = .ptr h1.next 0 ∧ tget ts 43 = cv ∧ tget ts 44 = .int .i64 (cs.length : Nat) ∧ tget ts 45 = .int .i64 ((i + 1 : Nat) : Int)) ?_ fun ts h9 ⟨eh, e3, e43, e44, e45⟩ => ?_
      · simp only [ckR_nil, evN_none, stps_nil, stps_cons, stp_some, putR_some, gd_true, wanted_none, dput_some, ev_t, ev_c, okR_some, evOp, tget_tput, bin_add, ↓reduceIte, Nat.reduceEqDiff, Option.map_some, and_self, e3, e43, e44, e45, w4]
      subst eh
      exact ⟨cs.length - (i + 1), by omega, i + 1, rfl, by omega, e3, e43, e44, e45, b8, x8⟩
    · simp only [decide_eq_false_iff_not] at hc
      have : i = cs.length := by omega
      subst this
      rwa [List.take_length] at b5
  have hctl := csS_len cs hcs
  have hHne : H ≠ [] := by
    intro q
    rw [← hH] at q
    unfold headS at q
    split at q
    · cases q
    · split at q
      · cases q
      · simp [errS] at q
  refine W.seq (W.calls (fun ts hg => tget ts 2 = .str (H ++ csS cs) ∧ Ext h1.next h5 hg) ?_ fun ts hg ⟨e2, q7⟩ => W.ret ⟨_, by simp only [Am.results, rdAll, rdRes, e2, rf5], rfl, xx2.trans ((x5.trans q7).mono (by omega))⟩)
  refine G.call ?_
  simp only [dput_some, ev_t, List.map_cons, List.map_nil, e3]
  refine (string_ok b5 (by rw [List.length_append]; omega) (by simp [hHne])).mono fun r h6 ⟨ev, k1⟩ => ?_
  subst ev
  refine G.op ?_
  simp only [ckR_nil, evN_none, stp_some, putR_some, gd_true, wanted_none, dput_some, ev_t, evOp, tget_tput, ↓reduceIte]
  refine G.done ?_
  simp only [tget_tput, ↓reduceIte, true_and]
  exact k1

end Go.Proofs.YtjcbcmonmmfllaaGreatDoor
