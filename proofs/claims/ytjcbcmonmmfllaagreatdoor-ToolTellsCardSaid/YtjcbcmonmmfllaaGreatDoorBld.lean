/-
  strings.Builder.
-/
import Derived.Test.YtjcbcmonmmfllaaGreatDoorBase
namespace Go.Proofs.YtjcbcmonmmfllaaGreatDoor
set_option linter.unusedVariables false
set_option linter.unusedSimpArgs false
open Go.Am

theorem copyCheck_new {h : AH} {s : Nat} {x : AV} (ht : h.tyOf s = some 37) (hs : h.get s = some (.cells [.nilp, x] 2 false)) : C prg 17 [.ptr s 0] h fun v h' => v = .tup [] ∧ h' = h.put s (.cells [.ptr s 0, x] 2 false) := by
  have r0 : rdCells h s 0 1 = some [.nilp] := by simp [rdCells, hs]
  refine C.func pf17 ?_
  refine W.seq (W.runs (fun ts h1 => h1 = h ∧ tget ts 0 = .ptr s 0 ∧ tget ts 6 = .bool true) ?_ fun ts h1 ⟨eh, e0, e6⟩ => W.yes e6 ?_)
  · simp only [ckR_nil, evN_none, stps_nil, stps_cons, stp_some, putR_some, gd_true, wanted_none, dput_some, ev_t, ev_c, evOp, tget_tput, loadA_ptr, fadrA_ptr, nilckA_ptr, packA_one, ↓reduceIte, Option.map_some, Nat.add_zero, initTm, r0]
    simp [binA, eqAV, eqP, okR, putR, dput, tget_tput]
  subst eh
  refine W.runs (fun ts h2 => h2 = h1.put s (.cells [.ptr s 0, x] 2 false)) ?_ fun ts h2 e => ⟨_, by simp only [Am.results, rdAll, rf17], rfl, e⟩
  have hw : wrCells h1 s 0 [.ptr s 0] = some (h1.put s (.cells [.ptr s 0, x] 2 false)) := by simp [wrCells, hs, splice]
  have hu : cvUA h1 (.ptr s 0) = some (.ptr s 0) := by simp [cvUA, hs]
  have hp : cvPA h1 37 2 (.ptr s 0) = some (.ptr s 0) := by simp [cvPA, hs, ht]
  simp only [ckR_nil, evN_none, stps_nil, stps_cons, stp_some, putR_some, gd_true, wanted_none, dput_some, dput_none, ev_t, okR_some, evOp, tget_tput, fadrA_ptr, nilckA_ptr, storeA_ptr, ↓reduceIte, Nat.reduceEqDiff, Option.map_some, Nat.zero_add, Nat.add_zero, reduceCtorEq, cells_ptr, one_ptr, List.length_cons, List.length_nil, List.all_cons, List.all_nil, Bool.and_true, and_self, AV.un, e0, hw, hu, hp]

theorem copyCheck_old {h : AH} {s : Nat} {x : AV} (hs : h.get s = some (.cells [.ptr s 0, x] 2 false)) : C prg 17 [.ptr s 0] h fun v h' => v = .tup [] ∧ h' = h := by
  have r0 : rdCells h s 0 1 = some [.ptr s 0] := by simp [rdCells, hs]
  refine C.func pf17 ?_
  refine W.seq (W.runs (fun ts h1 => h1 = h ∧ tget ts 0 = .ptr s 0 ∧ tget ts 6 = .bool false) ?_ fun ts h1 ⟨eh, e0, e6⟩ => W.no e6 ?_)
  · simp only [ckR_nil, evN_none, stps_nil, stps_cons, stp_some, putR_some, gd_true, wanted_none, dput_some, ev_t, ev_c, evOp, tget_tput, loadA_ptr, fadrA_ptr, nilckA_ptr, packA_one, ↓reduceIte, Option.map_some, Nat.add_zero, initTm, r0]
    simp [binA, eqAV, eqP, okR, putR, dput, tget_tput]
  subst eh
  refine W.seq (W.runs (fun ts h2 => h2 = h1 ∧ tget ts 19 = .bool false) ?_ fun ts h2 ⟨eh, e19⟩ => W.no e19 (W.skip ?_))
  · simp only [ckR_nil, evN_none, stps_nil, stps_cons, stp_some, putR_some, gd_true, wanted_none, dput_some, ev_t, evOp, tget_tput, loadA_ptr, fadrA_ptr, nilckA_ptr, packA_one, ↓reduceIte, Nat.reduceEqDiff, Option.map_some, Nat.add_zero, reduceCtorEq, e0, r0]
    simp [binA, eqAV, eqP, okR, putR, dput, tget_tput]
  · exact ⟨_, by simp only [Am.results, rdAll, rf17], rfl, eh⟩

/-- A builder's bytes. -/
def Buf (lo : Nat) (h : AH) (s : Nat) (buf : AV) (bs : List UInt8) : Prop :=
  (bs = [] ∧ buf = .nils) ∨ ∃ b cap cs, lo ≤ b ∧ b ≠ s ∧ buf = .sl b 0 bs.length cap ∧ h.tyOf b = some 5 ∧ h.get b = some (.cells cs 1 false) ∧ bs.length ≤ cap ∧ cap = cs.length ∧ cs.take bs.length = ofBytes bs ∧ 0 < bs.length

theorem ofBytes_one (x : List UInt8) : (ofBytes x).all AV.one = true := by
  simp only [ofBytes, List.all_map, List.all_eq_true, Function.comp]
  intro b _; rfl

theorem ofBytes_len (x : List UInt8) : (ofBytes x).length = x.length := by simp [ofBytes]
theorem ofBytes_app (x y : List UInt8) : ofBytes (x ++ y) = ofBytes x ++ ofBytes y := by simp [ofBytes]

theorem buf_app {lo s : Nat} {h : AH} {buf : AV} {bs x : List UInt8} (hlo : lo ≤ h.next) (hsn : s < h.next) (hb : Buf lo h s buf bs) (hl : bs.length + x.length < 2 ^ 36) :
    ∃ buf' h', appBA h 5 buf (.str x) = some (buf', h') ∧ Buf lo h' s buf' (bs ++ x) ∧ Ext lo h h' ∧ h'.get s = h.get s ∧ h'.tyOf s = h.tyOf s := by
  have hone := ofBytes_one x
  have hsrc : srcCells h 1 (.str x) = some (x.length, ofBytes x) := rfl
  have h40 : tooMany = 2 ^ 40 := rfl
  rcases hb with ⟨rfl, rfl⟩ | ⟨b, cap, cs, hb1, hbs, rfl, ht, hg, hc, hcap, htk, hpos⟩
  · by_cases hx : x.length = 0
    · refine ⟨.nils, h, ?_, .inl ⟨by simp [List.length_eq_zero_iff.1 hx], rfl⟩, Ext.refl, rfl, rfl⟩
      simp only [appBA, appG, hsrc, hone, if_true, hx]
    · refine ⟨.sl h.next 0 x.length x.length, h.newT (.cells (ofBytes x) 1 false) 5, ?_, ?_, ?_, ?_, ?_⟩
      · have c : x.length * 1 < tooMany ∧ x.length < tooMany := by rw [h40]; simp at hl ⊢; omega
        simp only [appBA, appG, hsrc, hone, if_true, hx, if_false, c, and_self, AH.newG]
      · refine .inr ⟨h.next, x.length, ofBytes x, hlo, by omega, by simp, ?_, ?_, by simp, (ofBytes_len x).symm, ?_, by simp; omega⟩
        · rw [AH.tyOf_newT]; simp
        · rw [AH.get_newT]; simp
        · simp only [List.nil_append]
          rw [List.take_of_length_le (by rw [ofBytes_len]; exact Nat.le_refl _)]
      · exact Ext.newT hlo
      · rw [AH.get_newT, if_neg (by omega)]
      · rw [AH.tyOf_newT, if_neg (by omega)]
  · have hblt := AH.lt_of_get hg
    by_cases hx : x.length = 0
    · have hx0 := List.length_eq_zero_iff.1 hx
      subst hx0
      refine ⟨.sl b 0 bs.length cap, h, ?_, .inr ⟨b, cap, cs, hb1, hbs, by simp, ht, hg, by simpa using hc, hcap, by simpa using htk, by simpa using hpos⟩, Ext.refl, rfl, rfl⟩
      simp only [appBA, ht, if_true, appG, hsrc, hone, List.length_nil]
    · by_cases hf : bs.length + x.length ≤ cap
      · have hlen : 0 + bs.length * 1 + (ofBytes x).length ≤ cs.length := by rw [ofBytes_len]; omega
        refine ⟨.sl b 0 (bs.length + x.length) cap, h.put b (.cells (splice cs (0 + bs.length * 1) (ofBytes x)) 1 false), ?_, ?_, ?_, ?_, rfl⟩
        · simp only [appBA, ht, if_true, appG, hsrc, hone, hx, if_false, hf, wrCells, hg, hlen, Option.map_some]
        · refine .inr ⟨b, cap, _, hb1, hbs, by simp, ht, by rw [AH.get_put _ _ _ _ hblt, if_pos rfl], by simpa using hf, ?_, ?_, by simp; omega⟩
          · simp only [splice, List.length_append, List.length_take, List.length_drop, ofBytes_len]; omega
          · have e : (cs.take bs.length).length = bs.length := by simp; omega
            simp only [splice, Nat.zero_add, Nat.mul_one, htk, ofBytes_app, List.length_append]
            rw [List.take_append_of_le_length (by simp [ofBytes_len])]
            rw [List.take_of_length_le (by simp [ofBytes_len])]
        · exact Ext.put hb1
        · rw [AH.get_put _ _ _ _ hblt, if_neg hbs]
      · have hlt := AH.lt_of_get hg
        have hrd : rdCells h b 0 (bs.length * 1) = some (ofBytes bs) := by
          simp only [rdCells, hg, Nat.mul_one, Nat.zero_add, List.drop_zero, htk]
          rw [if_pos (by omega)]
        have c : (bs.length + x.length) * 1 < tooMany ∧ bs.length + x.length < tooMany := by rw [h40]; omega
        refine ⟨.sl h.next 0 (bs.length + x.length) (bs.length + x.length), (h.put b .dead).newT (.cells (ofBytes bs ++ ofBytes x) 1 false) 5, ?_, ?_, ?_, ?_, ?_⟩
        · simp only [appBA, ht, if_true, appG, hsrc, hone, hx, if_false, hf, c, and_self, hg, hrd, or_true, AH.newG]
        · refine .inr ⟨h.next, bs.length + x.length, ofBytes bs ++ ofBytes x, hlo, by omega, by rw [List.length_append], ?_, ?_, by rw [List.length_append]; exact Nat.le_refl _, by rw [List.length_append, ofBytes_len, ofBytes_len], ?_, by simp; omega⟩
          · rw [AH.tyOf_newT]; simp
          · rw [AH.get_newT]; simp
          · rw [ofBytes_app, List.take_of_length_le (by simp [ofBytes_len])]
        · exact (Ext.put hb1).trans (Ext.newT (by simpa using hlo))
        · rw [AH.get_newT, if_neg (by simp; omega), AH.get_put _ _ _ _ hlt, if_neg hbs]
        · rw [AH.tyOf_newT, if_neg (by simp; omega)]; rfl

theorem Buf.put {lo s : Nat} {h : AH} {buf : AV} {bs : List UInt8} {o : AO} (hs : s < h.next) (hb : Buf lo h s buf bs) : Buf lo (h.put s o) s buf bs := by
  rcases hb with hb | ⟨b, cap, cs, h1, h2, h3, h4, h5, h6⟩
  · exact .inl hb
  · exact .inr ⟨b, cap, cs, h1, h2, h3, h4, by rw [AH.get_put _ _ _ _ hs, if_neg (fun q => h2 q.symm)]; exact h5, h6⟩

/-- A builder in block s; what it holds; its blocks aren't below lo. -/
def Bld (lo : Nat) (h : AH) (s : Nat) (bs : List UInt8) : Prop :=
  lo ≤ s ∧ h.tyOf s = some 37 ∧ ∃ a buf, (a = .nilp ∨ a = .ptr s 0) ∧ h.get s = some (.cells [a, buf] 2 false) ∧ Buf lo h s buf bs

/-- behind copyCheck -/
theorem copyCheck_ok {lo : Nat} {h : AH} {s : Nat} {bs : List UInt8} (hb : Bld lo h s bs) : C prg 17 [.ptr s 0] h fun v h' => v = .tup [] ∧ lo ≤ s ∧ h'.tyOf s = some 37 ∧ h'.next = h.next ∧ Ext lo h h' ∧ ∃ buf, h'.get s = some (.cells [.ptr s 0, buf] 2 false) ∧ Buf lo h' s buf bs := by
  obtain ⟨h1, h2, a, buf, rfl | rfl, h4, h5⟩ := hb
  · have hlt := AH.lt_of_get h4
    refine (copyCheck_new h2 h4).mono fun v h' ⟨e1, e2⟩ => ?_
    subst e2
    exact ⟨e1, h1, h2, rfl, Ext.put h1, buf, by rw [AH.get_put _ _ _ _ hlt, if_pos rfl], h5.put hlt⟩
  · refine (copyCheck_old h4).mono fun v h' ⟨e1, e2⟩ => ?_
    subst e2
    exact ⟨e1, h1, h2, rfl, Ext.refl, buf, h4, h5⟩

theorem write_ok {lo : Nat} {h : AH} {s : Nat} {bs x : List UInt8} (hb : Bld lo h s bs) (hl : bs.length + x.length < 2 ^ 36) : C prg 8 [.ptr s 0, .str x] h fun v h' => v = .tup [.int .i64 x.length, .nili] ∧ Bld lo h' s (bs ++ x) ∧ Ext lo h h' := by
  refine C.func pf8 ?_
  refine W.seq (W.runs (fun ts h1 => h1 = h ∧ tget ts 0 = .ptr s 0 ∧ tget ts 1 = .str x) ?_ fun ts h1 ⟨eh, e0, e1⟩ => ?_)
  · simp only [ckR_nil, evN_none, stps_nil, stps_cons, stp_some, putR_some, gd_true, wanted_none, dput_some, ev_c, okR_some, evOp, tget_tput, ↓reduceIte, Nat.reduceEqDiff, Nat.zero_add, reduceCtorEq, and_self, initTm]
  subst eh
  refine W.seq (W.calls (fun ts h2 => tget ts 0 = .ptr s 0 ∧ tget ts 1 = .str x ∧ lo ≤ s ∧ h2.tyOf s = some 37 ∧ h2.next = h1.next ∧ Ext lo h1 h2 ∧ ∃ buf, h2.get s = some (.cells [.ptr s 0, buf] 2 false) ∧ Buf lo h2 s buf bs) ?_ fun ts h2 ⟨e0, e1, q1, q2, q3, q4, buf, q5, q6⟩ => ?_)
  · refine G.op ?_
    simp only [ckR_nil, evN_none, stp_some, putR_some, gd_true, wanted_none, dput_some, ev_t, evOp, e0]
    refine G.call ?_
    simp only [dput_some, ev_t, tget_tput, ↓reduceIte, List.map_cons, List.map_nil]
    refine (copyCheck_ok hb).mono fun v h' ⟨ev, hq⟩ => ?_
    subst ev
    refine G.done ?_
    simp only [tget_tput, ↓reduceIte, Nat.reduceEqDiff, reduceCtorEq, true_and, e0, e1]
    exact hq
  have hlt := AH.lt_of_get q5
  obtain ⟨buf', h3, a1, a2, a3, a4, a5⟩ := buf_app (lo := lo) (s := s) (by omega) hlt q6 hl
  rw [q5] at a4
  have hlt3 := AH.lt_of_get a4
  have r1 : rdCells h2 s 1 1 = some [buf] := by simp [rdCells, q5]
  have hone : AV.one buf' = true ∧ buf'.cells = [buf'] := by
    rcases a2 with ⟨_, rfl⟩ | ⟨_, _, _, _, _, rfl, _⟩ <;> exact ⟨rfl, rfl⟩
  have hw : wrCells h3 s 1 [buf'] = some (h3.put s (.cells [.ptr s 0, buf'] 2 false)) := by simp [wrCells, a4, splice]
  refine W.seq (W.runs (fun ts h4 => h4 = h3.put s (.cells [.ptr s 0, buf'] 2 false) ∧ tget ts 1 = .str x) ?_ fun ts h4 ⟨eh, e1⟩ => ?_)
  · simp only [ckR_nil, evN_none, stps_nil, stps_cons, stp_some, putR_some, gd_true, wanted_none, dput_some, dput_none, ev_t, okR_some, evOp, tget_tput, loadA_ptr, fadrA_ptr, nilckA_ptr, packA_one, storeA_ptr, ↓reduceIte, Nat.reduceEqDiff, Option.map_some, Nat.zero_add, reduceCtorEq, List.length_cons, List.length_nil, List.all_cons, List.all_nil, Bool.and_true, and_self, AV.un, e0, e1, r1, a1, hone, hw]
  refine W.seq (W.runs (fun ts h5 => h5 = h4 ∧ tget ts 4 = .int .i64 x.length ∧ tget ts 5 = .nili) ?_ fun ts h5 ⟨eh5, e4, e5⟩ => W.ret ?_)
  · simp only [ckR_nil, evN_none, stps_nil, stps_cons, stp_some, putR_some, gd_true, wanted_none, dput_some, ev_t, ev_c, okR_some, evOp, tget_tput, lenSA_str, ↓reduceIte, Nat.reduceEqDiff, Option.map_some, and_self, e1]
  subst eh5 eh
  refine ⟨_, by simp only [Am.results, rdAll, rdRes, e4, e5, rf8], rfl, ⟨q1, by rw [AH.tyOf_put, a5]; exact q2, _, buf', .inr rfl, by rw [AH.get_put _ _ _ _ hlt3, if_pos rfl], a2.put hlt3⟩, q4.trans (a3.trans (Ext.put q1))⟩

theorem bytesOf_ofBytes : ∀ x : List UInt8, bytesOf (ofBytes x) = some x
  | [] => rfl
  | c :: x => by
    have := bytesOf_ofBytes x
    simp only [ofBytes] at this
    simp [ofBytes, bytesOf, this]

theorem string_ok {lo : Nat} {h : AH} {s : Nat} {bs : List UInt8} (hb : Bld lo h s bs) (hl : bs.length < 2 ^ 36) (hne : bs ≠ []) : C prg 11 [.ptr s 0] h fun v h' => v = .str bs ∧ Ext lo h h' := by
  obtain ⟨h1, h2, a, buf, ha, h4, h5⟩ := hb
  have r1 : rdCells h s 1 1 = some [buf] := by simp [rdCells, h4]
  rcases h5 with ⟨rfl, _⟩ | ⟨b, cap, cs, hb1, hbs, rfl, ht, hg, hc, hcap, htk, hpos⟩
  · exact absurd rfl hne
  have hpos : 0 < bs.length := List.length_pos_iff.2 hne
  have hrd : rdCells h b 0 bs.length = some (ofBytes bs) := by
    simp only [rdCells, hg, Nat.zero_add, List.drop_zero, htk]
    rw [if_pos (by omega)]
  have hcap0 : ¬ cap = 0 := by omega
  have hu : ustrA h 5 (.ptr b 0) (.int .i64 bs.length) = some (.str bs, h.put b (.cells cs 1 true)) := by
    have e1 : ¬ (bs.length : Int) = 0 := by omega
    have e2 : (0 : Int) < bs.length ∧ (bs.length : Int) < tooMany := by unfold tooMany; omega
    simp only [ustrA, e1, if_false, e2, and_self, if_true, hg, Int.toNat_natCast, hrd, ht, bytesOf_ofBytes, Option.map_some]
  have hsd : sdatA (.sl b 0 bs.length cap) = some (.ptr b 0) := by simp [sdatA, hcap0]
  refine C.func pf11 ?_
  refine W.seq (W.runs (fun ts h1 => h1 = h ∧ tget ts 0 = .ptr s 0) ?_ fun ts h1 ⟨eh, e0⟩ => ?_)
  · simp only [ckR_nil, evN_none, stps_nil, stps_cons, stp_some, putR_some, gd_true, wanted_none, dput_some, ev_c, okR_some, evOp, tget_tput, ↓reduceIte, reduceCtorEq, and_self, initTm]
  subst eh
  refine W.seq (W.runs (fun ts h2 => h2 = h1.put b (.cells cs 1 true) ∧ tget ts 2 = .str bs) ?_ fun ts h2 ⟨eh, e2⟩ => W.ret ?_)
  · simp only [ckR_nil, evN_none, stps_nil, stps_cons, stp_some, putR_some, gd_true, wanted_none, dput_some, ev_t, okR_some, evOp, tget_tput, loadA_ptr, fadrA_ptr, nilckA_ptr, packA_one, lenLA_sl, ↓reduceIte, Nat.reduceEqDiff, Option.map_some, Nat.zero_add, reduceCtorEq, and_self, e0, r1, hsd, hu]
  subst eh
  exact ⟨_, by simp only [Am.results, rdAll, rdRes, e2, rf11], rfl, Ext.put hb1⟩

theorem Bld.ext {lo lo' : Nat} {h h' : AH} {s : Nat} {bs : List UInt8} (hb : Bld lo h s bs) (hx : Ext lo' h h') (hl : h.next ≤ lo') : Bld lo h' s bs := by
  obtain ⟨h1, h2, a, buf, h3, h4, h5⟩ := hb
  have := AH.lt_of_get h4
  refine ⟨h1, by rw [hx.ty _ (by omega)]; exact h2, a, buf, h3, by rw [hx.2 _ (by omega)]; exact h4, ?_⟩
  rcases h5 with h5 | ⟨b, cap, cs, k1, k2, k3, k4, k5, k6⟩
  · exact .inl h5
  · have := AH.lt_of_get k5
    exact .inr ⟨b, cap, cs, k1, k2, k3, by rw [hx.ty _ (by omega)]; exact k4, by rw [hx.2 _ (by omega)]; exact k5, k6⟩

/-- a builder that is new -/
theorem Bld.fresh {h : AH} : Bld h.next (h.newT (.cells [.nilp, .nils] 2 false) 37) h.next [] :=
  ⟨Nat.le_refl _, by rw [AH.tyOf_newT]; simp, _, _, .inl rfl, by rw [AH.get_newT, if_pos rfl], .inl ⟨rfl, rfl⟩⟩

theorem Bld.low {lo lo' : Nat} {h : AH} {s : Nat} {bs : List UInt8} (hb : Bld lo h s bs) (hl : lo' ≤ lo) : Bld lo' h s bs := by
  obtain ⟨h1, h2, a, buf, h3, h4, h5⟩ := hb
  refine ⟨by omega, h2, a, buf, h3, h4, ?_⟩
  rcases h5 with h5 | ⟨b, cap, cs, k1, k6⟩
  · exact .inl h5
  · exact .inr ⟨b, cap, cs, by omega, k6⟩

/-- one byte more -/
theorem byte_app {lo s : Nat} {h : AH} {buf : AV} {bs : List UInt8} {c : UInt8} (hlo : lo ≤ h.next) (hsn : s < h.next) (hb : Buf lo h s buf bs) (hl : bs.length + 1 < 2 ^ 36) :
    ∃ buf' h', appBA (h.new (.cells [.int .u8 (c.toNat : Nat)] 1 false)) 5 buf (.sl h.next 0 1 1) = some (buf', h') ∧ Buf lo h' s buf' (bs ++ [c]) ∧ Ext lo h h' ∧ h'.get s = h.get s ∧ h'.tyOf s = h.tyOf s := by
  have hg : (h.new (.cells [.int .u8 (c.toNat : Nat)] 1 false)).get h.next = some (.cells [.int .u8 (c.toNat : Nat)] 1 false) := by rw [AH.get_new, if_pos rfl]
  have hx : Ext lo h (h.new (.cells [.int .u8 (c.toNat : Nat)] 1 false)) := Ext.new hlo
  have hsrc : srcCells (h.new (.cells [.int .u8 (c.toNat : Nat)] 1 false)) 1 (.sl h.next 0 1 1) = srcCells (h.new (.cells [.int .u8 (c.toNat : Nat)] 1 false)) 1 (.str [c]) := by
    simp only [srcCells, rdCells_of hg]
    rfl
  have hb2 : Buf lo (h.new (.cells [.int .u8 (c.toNat : Nat)] 1 false)) s buf bs := by
    rcases hb with hb | ⟨b, cap, cs, k1, k2, k3, k4, k5, k6⟩
    · exact .inl hb
    · have := AH.lt_of_get k5
      exact .inr ⟨b, cap, cs, k1, k2, k3, k4, by rw [AH.get_new, if_neg (by omega)]; exact k5, k6⟩
  obtain ⟨buf', h', a1, a2, a3, a4, a5⟩ := buf_app (x := [c]) (lo := lo) (s := s) (by simp; omega) (by simp; omega) hb2 hl
  refine ⟨buf', h', ?_, a2, hx.trans a3, by rw [a4, AH.get_new, if_neg (by omega)], a5⟩
  rw [← a1]
  unfold appBA
  split
  · unfold appG
    rw [hsrc]
  · unfold appG
    rw [hsrc]

theorem wbyte_ok {lo : Nat} {h : AH} {s : Nat} {bs : List UInt8} {c : UInt8} (hlo : lo ≤ h.next) (hb : Bld lo h s bs) (hl : bs.length + 1 < 2 ^ 36) : C prg 19 [.ptr s 0, .int .u8 (c.toNat : Nat)] h fun v h' => v = .nili ∧ Bld lo h' s (bs ++ [c]) ∧ Ext lo h h' := by
  refine C.func pf19 ?_
  refine W.seq (W.runs (fun ts h1 => h1 = h ∧ tget ts 0 = .ptr s 0 ∧ tget ts 1 = .int .u8 (c.toNat : Nat)) ?_ fun ts h1 ⟨eh, e0, e1⟩ => ?_)
  · simp only [ckR_nil, evN_none, stps_nil, stps_cons, stp_some, putR_some, gd_true, wanted_none, dput_some, ev_c, okR_some, evOp, tget_tput, ↓reduceIte, Nat.reduceEqDiff, Nat.zero_add, reduceCtorEq, and_self, initTm]
  subst eh
  refine W.seq (W.calls (fun ts h2 => tget ts 0 = .ptr s 0 ∧ tget ts 1 = .int .u8 (c.toNat : Nat) ∧ lo ≤ s ∧ h2.tyOf s = some 37 ∧ h2.next = h1.next ∧ Ext lo h1 h2 ∧ ∃ buf, h2.get s = some (.cells [.ptr s 0, buf] 2 false) ∧ Buf lo h2 s buf bs) ?_ fun ts h2 ⟨e0, e1, q1, q2, q3, q4, buf, q5, q6⟩ => ?_)
  · refine G.op ?_
    simp only [ckR_nil, evN_none, stp_some, putR_some, gd_true, wanted_none, dput_some, ev_t, evOp, e0]
    refine G.call ?_
    simp only [dput_some, ev_t, tget_tput, ↓reduceIte, List.map_cons, List.map_nil]
    refine (copyCheck_ok hb).mono fun v h' ⟨ev, hq⟩ => ?_
    subst ev
    refine G.done ?_
    simp only [tget_tput, ↓reduceIte, Nat.reduceEqDiff, reduceCtorEq, true_and, e0, e1]
    exact hq
  have hlt := AH.lt_of_get q5
  obtain ⟨buf', h3, a1, a2, a3, a4, a5⟩ := byte_app (c := c) (lo := lo) (s := s) (by omega) hlt q6 hl
  rw [q5] at a4
  have hlt3 := AH.lt_of_get a4
  have r1 : rdCells h2 s 1 1 = some [buf] := by simp [rdCells, q5]
  have hone : AV.one buf' = true ∧ buf'.cells = [buf'] := by
    rcases a2 with ⟨_, rfl⟩ | ⟨_, _, _, _, _, rfl, _⟩ <;> exact ⟨rfl, rfl⟩
  have hw : wrCells h3 s 1 [buf'] = some (h3.put s (.cells [.ptr s 0, buf'] 2 false)) := by simp [wrCells, a4, splice]
  refine W.seq (W.runs (fun ts h4 => h4 = h3.put s (.cells [.ptr s 0, buf'] 2 false)) ?_ fun ts h4 eh => ?_)
  · simp only [ckR_nil, evN_none, stps_nil, stps_cons, stp_some, putR_some, gd_true, wanted_none, dput_some, dput_none, ev_t, okR_some, evOp, tget_tput, loadA_ptr, fadrA_ptr, nilckA_ptr, packA_one, storeA_ptr, ↓reduceIte, Nat.reduceEqDiff, Option.map_some, Nat.zero_add, reduceCtorEq, fill, splice, cells_int, List.length_cons, List.length_nil, List.all_cons, List.all_nil, List.take_zero, List.drop_succ_cons, List.drop_zero, List.cons_append, List.nil_append, Nat.reduceLeDiff, Bool.and_true, and_self, repl_one, AV.un, e0, e1, r1, a1, hone, hw]
  refine W.seq (W.runs (fun ts h5 => h5 = h4 ∧ tget ts 4 = .nili) ?_ fun ts h5 ⟨eh5, e4⟩ => W.ret ?_)
  · simp only [ckR_nil, evN_none, stps_nil, stps_cons, stp_some, putR_some, gd_true, wanted_none, dput_some, ev_c, okR_some, evOp, tget_tput, ↓reduceIte, and_self]
  subst eh5 eh
  refine ⟨_, by simp only [Am.results, rdAll, rdRes, e4, rf19], rfl, ⟨q1, by rw [AH.tyOf_put, a5]; exact q2, _, buf', .inr rfl, by rw [AH.get_put _ _ _ _ hlt3, if_pos rfl], a2.put hlt3⟩, q4.trans (a3.trans (Ext.put q1))⟩

/-- the text of a builder that nothing was written to -/
theorem string0_ok {lo : Nat} {h : AH} {s : Nat} (hb : Bld lo h s []) : C prg 11 [.ptr s 0] h fun v h' => v = .str [] ∧ Ext lo h h' := by
  obtain ⟨h1, h2, a, buf, ha, h4, h5⟩ := hb
  have r1 : rdCells h s 1 1 = some [buf] := by simp [rdCells, h4]
  refine C.func pf11 ?_
  refine W.seq (W.runs (fun ts h1 => h1 = h ∧ tget ts 0 = .ptr s 0) ?_ fun ts h1 ⟨eh, e0⟩ => ?_)
  · simp only [ckR_nil, evN_none, stps_nil, stps_cons, stp_some, putR_some, gd_true, wanted_none, dput_some, ev_c, okR_some, evOp, tget_tput, ↓reduceIte, reduceCtorEq, and_self, initTm]
  subst eh
  refine W.seq (W.runs (fun ts h2 => h2 = h1 ∧ tget ts 2 = .str []) ?_ fun ts h2 ⟨eh, e2⟩ => W.ret ⟨_, by simp only [Am.results, rdAll, rdRes, e2, rf11], rfl, by rw [eh]; exact Ext.refl⟩)
  rcases h5 with ⟨_, rfl⟩ | ⟨b, cap, cs, hb1, hbs, rfl, ht, hg, hc, hcap, htk, hpos⟩
  · have hsd : sdatA .nils = some .nilp := rfl
    have hu : ustrA h1 5 .nilp (.int .i64 0) = some (.str [], h1) := rfl
    simp only [ckR_nil, evN_none, stps_nil, stps_cons, stp_some, putR_some, gd_true, wanted_none, dput_some, ev_t, okR_some, evOp, tget_tput, loadA_ptr, fadrA_ptr, nilckA_ptr, packA_one, lenLA_nils, ↓reduceIte, Nat.reduceEqDiff, Option.map_some, Nat.zero_add, reduceCtorEq, and_self, e0, r1, hsd, hu]
  · simp at hpos

end Go.Proofs.YtjcbcmonmmfllaaGreatDoor
