/-
  strings.Builder: room.
-/
import Derived.Test.YtloklfmgbolpeaaDoorBld
namespace Go.Proofs.YtloklfmgbolpeaaDoor
set_option linter.unusedVariables false
set_option linter.unusedSimpArgs false
open Go.Am

theorem slL_zero {ev : RO → AV} {h : AH} {b n : Nat} {cs : List AV} {ro : Bool} {hi : RO} (hg : h.get b = some (.cells cs 1 ro)) (h1 : ev hi = .int .i64 0) : slLA ev h 1 (.sl b 0 n n) none (some hi) none = some (.sl b 0 0 n) := by
  have c1 : (0 : Int) ≤ 0 ∧ (0 : Int) ≤ (n : Nat) := by omega
  simp only [slLA, hg, if_true, bounds, bnd, h1, c1, and_self, Int.toNat_zero, Option.map_some]
  simp

theorem mkz_ok {h : AH} {n : Nat} (hn : n < 2 ^ 36) : ∃ z cs, mkzA h 5 (.int .i64 (n : Nat)) = some (.sl h.next 0 n n, z) ∧ z.get h.next = some (.cells cs 1 false) ∧ cs.length = n ∧ z.tyOf h.next = some 5 ∧ z.next = h.next + 1 ∧ (∀ c, c ≠ h.next → z.get c = h.get c) ∧ (∀ c, c ≠ h.next → z.tyOf c = h.tyOf c) := by
  have c : (0 : Int) ≤ (n : Nat) ∧ ((n : Nat) : Int) < tooMany := by unfold tooMany; omega
  refine ⟨h.newT (.cells (List.replicate n .any) 1 false) 5, List.replicate n .any, ?_, ?_, List.length_replicate, ?_, ?_, fun c hc => ?_, fun c hc => ?_⟩
  · simp only [mkzA, c, and_self, if_true, Int.toNat_natCast]
  · rw [AH.get_newT]; simp
  · rw [AH.tyOf_newT]; simp
  · simp
  · rw [AH.get_newT, if_neg (fun q => hc q)]
  · rw [AH.tyOf_newT, if_neg (fun q => hc q.symm)]

theorem capA_nils : capA .nils = some (.int .i64 0) := rfl

theorem grow_a {ts : Tm} {b0 : Nat} {h z : AH} {s : Nat} {x y v u : AV} (e0 : tget ts 0 = .ptr s 0) (e1 : tget ts 1 = x) (ha : binA .add .no (.int .i64 0) x = some y) (hm : mkzA h 5 y = some (v, z)) (hz : IntKind.i64.wrap (2*0) = 0) (r1 : rdCells h s 1 1 = some [.nils]) (r2 : rdCells z s 1 1 = some [.nils]) (hs : ∀ (ev : RO → AV) (a : RO), ev a = .int .i64 0 → slLA ev z 1 v none (some a) none = some u) : okR (stps b0 [⟨(some 5), (.mov (.t 0)), none, none, []⟩, ⟨(some 6), (.nilck (.t 5)), none, none, []⟩, ⟨(some 7), (.fadr 1 (.t 6)), none, none, []⟩, ⟨(some 8), (.load false 1 (.t 7)), none, none, []⟩, ⟨(some 9), (.capL (.t 8)), none, none, []⟩, ⟨(some 10), (.bin .mul .no (.c (.int .i64 (2 : Int))) (.t 9)), none, none, []⟩, ⟨(some 11), (.mov (.t 1)), none, none, []⟩, ⟨(some 12), (.bin .add .no (.t 10) (.t 11)), none, none, []⟩, ⟨(some 14), (.mov (.t 0)), none, none, []⟩, ⟨(some 15), (.nilck (.t 14)), none, none, []⟩, ⟨(some 16), (.fadr 1 (.t 15)), none, none, []⟩, ⟨(some 17), (.load false 1 (.t 16)), none, none, []⟩, ⟨(some 18), (.lenL (.t 17)), none, none, []⟩, ⟨(some 13), (.mkz 5 (.t 12)), none, none, [(17, ((.load false 1 (.t 16)), none))]⟩, ⟨(some 19), (.slL 1 (.t 13) none (some (.t 18)) none), none, none, []⟩, ⟨(some 4), (.mov (.t 19)), none, none, []⟩] (some (ts, h))) fun ts h1 => h1 = z ∧ tget ts 0 = .ptr s 0 ∧ tget ts 4 = u := by
  simp only [ckR_cons, chks_nil, chks_cons, chk1_none, same_nils, ckR_nil, evN_none, stps_nil, stps_cons, stp_some, putR_some, gd_true, wanted_none, dput_some, ev_t, ev_c, evOp, tget_tput, loadA_ptr, fadrA_ptr, nilckA_ptr, packA_one, bin_mul, lenLA_nils, ↓reduceIte, Nat.reduceEqDiff, Option.map_some, Nat.zero_add, reduceCtorEq, Bool.and_true, e0, e1, r1, capA_nils, hz, ha, hm, r2]
  rw [hs _ _ (by simp only [ev_t, tget_tput, ↓reduceIte, Nat.reduceEqDiff])]
  simp only [ckR_nil, evN_none, stp_some, putR_some, gd_true, wanted_none, dput_some, ev_t, okR_some, evOp, tget_tput, ↓reduceIte, Option.map_some, reduceCtorEq, and_self, e0]

/-- room is made for a builder that has none -/
theorem grow_ok {lo : Nat} {h : AH} {s n : Nat} (hlo : lo ≤ h.next) (h1 : lo ≤ s) (h2 : h.tyOf s = some 41) (hg : h.get s = some (.cells [.ptr s 0, .nils] 2 false)) (hn : n < 2 ^ 36) : C prg 29 [.ptr s 0, .int .i64 (n : Nat)] h fun v h' => v = .tup [] ∧ Bld lo h' s [] ∧ Ext lo h h' := by
  have hlt := AH.lt_of_get hg
  have r1 : rdCells h s 1 1 = some [.nils] := by simp [rdCells, hg]
  obtain ⟨z, cs, hm, z1, z2, z3, z4, z5, z6⟩ := mkz_ok (h := h) hn
  have hw : IntKind.i64.wrap ((n : Nat) : Int) = (n : Nat) := IntWalk.i64_in _ (by omega)
  have hz : IntKind.i64.wrap (2 * 0) = 0 := by decide
  have hg2 : z.get s = some (.cells [.ptr s 0, .nils] 2 false) := by rw [z5 s (by omega)]; exact hg
  have r2 : rdCells z s 1 1 = some [.nils] := by simp [rdCells, hg2]
  have hc : cpyA z 1 (.sl h.next 0 0 n) .nils = some (.int .i64 0, z) := rfl
  have hlo' : h.next ≤ z.next := by omega
  have ht2 : z.tyOf s = some 41 := by rw [z6 s (by omega)]; exact h2
  have hx : Ext lo h z := ⟨by omega, fun c hc => z5 c (by omega), fun c hc => z6 c (by omega)⟩
  have hb : h.next ≠ s := by omega
  have ha : binA .add .no (.int .i64 0) (.int .i64 (n : Nat)) = some (.int .i64 (n : Nat)) := by rw [bin_add, Int.zero_add, hw]
  generalize h.next = b at *
  generalize AV.int .i64 (n : Nat) = x at *
  clear z5 z6
  refine C.func pf29 ?_
  refine W.seq (W.runs (fun ts h1 => h1 = z ∧ tget ts 0 = .ptr s 0 ∧ tget ts 4 = .sl b 0 0 n) ?_ fun ts h1 ⟨eh, e0, e4⟩ => ?_)
  · exact grow_a (by simp only [initTm, tget_tput, ↓reduceIte, Nat.zero_add]) (by simp only [initTm, tget_tput, ↓reduceIte, Nat.zero_add, reduceCtorEq]) ha hm hz r1 r2 (fun _ _ => slL_zero z1)
  subst eh
  have hwr : wrCells h1 s 1 [.sl b 0 0 n] = some (h1.put s (.cells [.ptr s 0, .sl b 0 0 n] 2 false)) := by simp [wrCells, hg2, splice]
  refine W.seq (W.runs (fun ts h3 => h3 = h1 ∧ tget ts 0 = .ptr s 0 ∧ tget ts 4 = .sl b 0 0 n) ?_ fun ts h3 ⟨eh, e0, e4⟩ => ?_)
  · simp only [ckR_nil, evN_none, stps_nil, stps_cons, stp_some, putR_some, gd_true, wanted_none, dput_some, ev_t, okR_some, evOp, tget_tput, loadA_ptr, fadrA_ptr, nilckA_ptr, packA_one, ↓reduceIte, Nat.reduceEqDiff, Option.map_some, Nat.zero_add, reduceCtorEq, and_self, e0, e4, r2, hc]
  subst eh
  refine W.runs (fun ts h4 => h4 = h3.put s (.cells [.ptr s 0, .sl b 0 0 n] 2 false)) ?_ fun ts h4 eh => ⟨_, by simp only [Am.results, rdAll, rf29], rfl, ?_⟩
  · simp only [ckR_nil, evN_none, stps_nil, stps_cons, stp_some, putR_some, gd_true, wanted_none, dput_some, dput_none, ev_t, okR_some, evOp, tget_tput, fadrA_ptr, nilckA_ptr, storeA_ptr, ↓reduceIte, Nat.reduceEqDiff, Option.map_some, Nat.zero_add, cells_sl, one_sl, List.length_cons, List.length_nil, List.all_cons, List.all_nil, Bool.and_true, and_self, AV.un, e0, e4, hwr]
  subst eh
  have hlt3 := AH.lt_of_get hg2
  refine ⟨⟨h1, ht2, _, _, .inr rfl, by rw [AH.get_put _ _ _ _ hlt3, if_pos rfl], ?_⟩, hx.trans (Ext.put h1)⟩
  exact Buf.put hlt3 (.inr ⟨b, n, cs, hlo, hb, rfl, z3, z1, Nat.zero_le _, z2.symm, rfl⟩)

end Go.Proofs.YtloklfmgbolpeaaDoor
