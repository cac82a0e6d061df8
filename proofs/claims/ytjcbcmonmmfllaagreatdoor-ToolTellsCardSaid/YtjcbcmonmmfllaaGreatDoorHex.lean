/-
  Bytes as signs: tool.hex, ref.Hex.
-/
import Derived.Test.YtjcbcmonmmfllaaGreatDoorIta
namespace Go.Proofs.YtjcbcmonmmfllaaGreatDoor
set_option linter.unusedVariables false
set_option linter.unusedSimpArgs false
open Go.Am

/-- Bytes, as they lie in memory. -/
def Byts (h : AH) (v : AV) (bs : List UInt8) : Prop :=
  (bs = [] ∧ (v = .nils ∨ v = .emp)) ∨ ∃ b n ro, v = .sl b 0 n n ∧ h.get b = some (.cells (ofBytes bs) 1 ro) ∧ n = bs.length

theorem Byts.ext {h h' : AH} {n : Nat} {v : AV} {bs : List UInt8} (hb : Byts h v bs) (hx : Ext n h h') (hn : h.next ≤ n) : Byts h' v bs := by
  rcases hb with hb | ⟨b, m, ro, h1, h2, h3⟩
  · exact .inl hb
  · exact .inr ⟨b, m, ro, h1, by rw [hx.2 _ (by have := AH.lt_of_get h2; omega)]; exact h2, h3⟩

theorem Byts.len {h : AH} {v : AV} {bs : List UInt8} (hb : Byts h v bs) : lenLA v = some (.int .i64 (bs.length : Nat)) := by
  rcases hb with ⟨rfl, rfl | rfl⟩ | ⟨b, m, ro, rfl, h2, rfl⟩ <;> rfl

theorem Byts.at {h : AH} {v : AV} {bs : List UInt8} (hb : Byts h v bs) {i : Nat} {c : UInt8} (hi : bs[i]? = some c) : ∃ b, iadrL 1 v (.int .i64 (i : Nat)) = some (.ptr b i) ∧ rdCells h b i 1 = some [.int .u8 (c.toNat : Nat)] := by
  have hil := (List.getElem?_eq_some_iff.1 hi).1
  rcases hb with ⟨rfl, _⟩ | ⟨b, m, ro, rfl, h2, rfl⟩
  · simp at hi
  · refine ⟨b, ?_, ?_⟩
    · have c : (0 : Int) ≤ (i : Nat) ∧ ((i : Nat) : Int) < (bs.length : Nat) := by omega
      simp only [iadrL_sl, idx?, c, and_self, if_true, Int.toNat_natCast, Option.map_some, Nat.zero_add, Nat.mul_one]
    · rw [rdCells_of h2, if_pos (by rw [ofBytes_len]; omega)]
      have h3 : (ofBytes bs)[i]? = some (.int .u8 (c.toNat : Nat)) := by simp [ofBytes, hi]
      obtain ⟨h5, h6⟩ := List.getElem?_eq_some_iff.1 h3
      rw [List.drop_eq_getElem_cons h5, h6]
      rfl

def hd (n : Nat) : UInt8 := if n < 10 then UInt8.ofNat (48 + n) else UInt8.ofNat (87 + n)

def hexOf (bs : List UInt8) : List UInt8 := bs.flatMap fun c => [hd (c.toNat / 16), hd (c.toNat % 16)]

theorem hexOf_len (bs : List UInt8) : (hexOf bs).length = 2 * bs.length := by
  induction bs with
  | nil => rfl
  | cons c r ih => simp only [hexOf, List.flatMap_cons, List.length_append, List.length_cons, List.length_nil] at ih ⊢; omega

theorem hexOf_take {bs : List UInt8} {i : Nat} {c : UInt8} (hi : bs[i]? = some c) : hexOf (bs.take (i + 1)) = hexOf (bs.take i) ++ [hd (c.toNat / 16)] ++ [hd (c.toNat % 16)] := by
  unfold hexOf
  rw [List.take_add_one, hi]
  simp

theorem hx1 : ((List.range 16).all fun n => ([48, 49, 50, 51, 52, 53, 54, 55, 56, 57, 97, 98, 99, 100, 101, 102] : List UInt8)[n]? == some (hd n)) = true := by decide +kernel

theorem idx_hex {k : IntKind} {n : Nat} (h : n < 16) : idxSA (.str [48, 49, 50, 51, 52, 53, 54, 55, 56, 57, 97, 98, 99, 100, 101, 102]) (.int k (n : Nat)) = some (.int .u8 ((hd n).toNat : Nat)) := by
  have hs := List.all_eq_true.1 hx1 n (List.mem_range.2 h)
  rw [beq_iff_eq] at hs
  have c : (0 : Int) ≤ (n : Nat) := by omega
  simp only [idxSA_str, c, if_true, Int.toNat_natCast, hs, Option.map_some]

theorem hx2 : ((List.range 256).all fun c => (Am.bits .and .u8 (c : Nat) 15 == some ((c % 16 : Nat) : Int))) = true := by decide +kernel

theorem low4 {c : Nat} (h : c < 256) : Am.bits .and .u8 (c : Nat) 15 = some ((c % 16 : Nat) : Int) := by
  have hs := List.all_eq_true.1 hx2 c (List.mem_range.2 h)
  rwa [beq_iff_eq] at hs

theorem high4 {c : Nat} : binA .shr .no (.int .u8 (c : Nat)) (.int .u64 4) = some (.int .u8 ((c / 16 : Nat) : Int)) := by
  have h1 : min ((4 : Nat) : Int).toNat IntKind.u8.bits = 4 := rfl
  have h2 : ((c : Nat) : Int).fdiv (2 ^ 4) = ((c / 16 : Nat) : Int) := by
    rw [Int.fdiv_eq_ediv_of_nonneg _ (by decide)]
    omega
  have : binA .shr .no (.int .u8 (c : Nat)) (.int .u64 4) = shft .shr .u8 (c : Nat) 4 := by simp [binA]
  rw [this]
  have h3 : min (4 : Int).toNat IntKind.u8.bits = 4 := rfl
  have h4 : ¬ (4 : Int) < 0 := by decide
  simp only [shft, h3, h2, h4, if_false]

theorem hex_ok {h : AH} {v : AV} {bs : List UInt8} (hb : Byts h v bs) (hl : bs.length < 2 ^ 30) : C prg 10 [v] h fun r h' => r = .str (hexOf bs) ∧ Ext h.next h h' := by
  refine C.func pf10 ?_
  refine W.seq (W.runs (fun ts h1 => h1 = h ∧ tget ts 0 = v) ?_ fun ts h1 ⟨eh, e0⟩ => ?_)
  · simp only [ckR_nil, evN_none, stps_nil, stps_cons, stp_some, putR_some, gd_true, wanted_none, dput_some, ev_c, okR_some, evOp, tget_tput, ↓reduceIte, reduceCtorEq, and_self, initTm]
  subst eh
  refine W.seq (W.runs (fun ts h2 => h2 = h1.newT (.cells [.nilp, .nils] 2 false) 37 ∧ tget ts 0 = v ∧ tget ts 3 = .ptr h1.next 0) ?_ fun ts h2 ⟨eh, e0, e3⟩ => ?_)
  · simp only [ckR_nil, evN_none, stps_nil, stps_cons, stp_some, putR_some, gd_true, wanted_none, dput_some, okR_some, evOp, tget_tput, ↓reduceIte, reduceCtorEq, and_self, e0]
  have b1 : Bld h1.next h2 h1.next [] := by rw [eh]; exact Bld.fresh
  have x2 : Ext h1.next h1 h2 := by rw [eh]; exact Ext.newT (Nat.le_refl _)
  have n2 : h2.next = h1.next + 1 := by rw [eh]; simp
  clear eh
  have hb2 := hb.ext x2 (Nat.le_refl _)
  have hl2 := hb2.len
  refine W.seq (W.seq (W.runs (fun ts h3 => h3 = h2 ∧ tget ts 3 = .ptr h1.next 0 ∧ tget ts 6 = v ∧ tget ts 7 = .int .i64 (bs.length : Nat) ∧ tget ts 8 = .int .i64 ((0 : Nat) : Int)) ?_ fun ts h3 ⟨eh, e3, e6, e7, e8⟩ => ?_))
  · simp only [ckR_nil, evN_none, stps_nil, stps_cons, stp_some, putR_some, gd_true, wanted_none, dput_some, ev_t, ev_c, okR_some, evOp, tget_tput, ↓reduceIte, Nat.reduceEqDiff, Option.map_some, true_and, e0, e3, hl2]
    simp
  subst eh
  refine W.cut (fun ts h4 => tget ts 3 = .ptr h1.next 0 ∧ Bld h1.next h4 h1.next (hexOf bs) ∧ Ext h1.next h1 h4) (W.block (W.loop (fun m ts h4 => ∃ i, m = bs.length - i ∧ i ≤ bs.length ∧ tget ts 3 = .ptr h1.next 0 ∧ tget ts 6 = v ∧ tget ts 7 = .int .i64 (bs.length : Nat) ∧ tget ts 8 = .int .i64 (i : Nat) ∧ Bld h1.next h4 h1.next (hexOf (bs.take i)) ∧ Ext h1.next h1 h4) ?_ (n := bs.length) ⟨0, rfl, Nat.zero_le _, e3, e6, e7, e8, b1, x2⟩)) fun ts h4 ⟨e3, b4, x4⟩ => ?_
  · clear e0 e3 e6 e7 e8 b1 hb2 hl2
    rintro m ts h4 ⟨i, hm, hi, e3, e6, e7, e8, b4, x4⟩
    refine W.seq (W.runs (fun ts h5 => h5 = h4 ∧ tget ts 3 = .ptr h1.next 0 ∧ tget ts 6 = v ∧ tget ts 7 = .int .i64 (bs.length : Nat) ∧ tget ts 8 = .int .i64 (i : Nat) ∧ tget ts 9 = .bool (decide (i < bs.length))) ?_ fun ts h5 ⟨eh, e3, e6, e7, e8, e9⟩ => ?_)
    · have : decide (((i : Nat) : Int) < (bs.length : Nat)) = decide (i < bs.length) := by simp only [decide_eq_decide]; omega
      simp only [ckR_nil, evN_none, stps_nil, stps_cons, stp_some, putR_some, gd_true, wanted_none, dput_some, ev_t, okR_some, evOp, tget_tput, bin_lss, ↓reduceIte, Nat.reduceEqDiff, Option.map_some, and_self, e3, e6, e7, e8, this]
    subst eh
    refine W.seq (W.cond e9 (fun hc => W.skip ?_) fun hc => W.exit ⟨fun _ => ⟨e3, ?_, x4⟩, fun e => absurd rfl e⟩)
    · simp only [decide_eq_true_eq] at hc
      obtain ⟨c, hci⟩ : ∃ c, bs[i]? = some c := ⟨_, List.getElem?_eq_getElem hc⟩
      obtain ⟨b, p1, p2⟩ := (hb.ext x4 (Nat.le_refl _)).at hci
      have htk := hexOf_take hci
      have hlt : c.toNat < 256 := c.toNat_lt
      have hlen := hexOf_len (bs.take i)
      have htl : (bs.take i).length ≤ bs.length := by simp; omega
      have s1 := high4 (c := c.toNat)
      have s2 := low4 hlt
      have g1 := idx_hex (k := .u8) (n := c.toNat / 16) (by omega)
      have g2 := idx_hex (k := .u8) (n := c.toNat % 16) (by omega)
      generalize hd (c.toNat / 16) = y1 at *
      generalize hd (c.toNat % 16) = y2 at *
      generalize ((c.toNat / 16 : Nat) : Int) = z1 at *
      generalize ((c.toNat % 16 : Nat) : Int) = z2 at *
      refine W.seq (W.block (W.seq (W.runs (fun ts h6 => h6 = h5 ∧ tget ts 3 = .ptr h1.next 0 ∧ tget ts 6 = v ∧ tget ts 7 = .int .i64 (bs.length : Nat) ∧ tget ts 8 = .int .i64 (i : Nat) ∧ tget ts 5 = .int .u8 (c.toNat : Nat)) ?_ fun ts h6 ⟨eh, e3, e6, e7, e8, e5⟩ => ?_)))
      · simp only [ckR_nil, evN_none, stps_nil, stps_cons, stp_some, putR_some, gd_true, wanted_none, dput_some, ev_t, okR_some, evOp, tget_tput, loadA_ptr, packA_one, ↓reduceIte, Nat.reduceEqDiff, Option.map_some, and_self, e3, e6, e7, e8, p1, p2]
      subst eh
      refine W.seq (W.calls (fun ts h7 => tget ts 3 = .ptr h1.next 0 ∧ tget ts 6 = v ∧ tget ts 7 = .int .i64 (bs.length : Nat) ∧ tget ts 8 = .int .i64 (i : Nat) ∧ tget ts 5 = .int .u8 (c.toNat : Nat) ∧ Bld h1.next h7 h1.next (hexOf (bs.take i) ++ [y1]) ∧ Ext h1.next h1 h7) ?_ fun ts h7 ⟨e3, e6, e7, e8, e5, b7, x7⟩ => ?_)
      · refine G.op (G.op (G.op ?_))
        simp only [ckR_nil, evN_none, stp_some, putR_some, gd_true, wanted_none, dput_some, ev_t, ev_c, evOp, tget_tput, ↓reduceIte, Option.map_some, e5, s1, g1]
        refine G.call ?_
        simp only [dput_some, ev_t, tget_tput, ↓reduceIte, Nat.reduceEqDiff, List.map_cons, List.map_nil, e3]
        refine (wbyte_ok (c := y1) x4.1 b4 (by omega)).mono fun r h8 ⟨er, b8, x8⟩ => ?_
        subst er
        exact G.done ⟨by simp only [tget_tput, ↓reduceIte, Nat.reduceEqDiff, e3], by simp only [tget_tput, ↓reduceIte, Nat.reduceEqDiff, e6], by simp only [tget_tput, ↓reduceIte, Nat.reduceEqDiff, e7], by simp only [tget_tput, ↓reduceIte, Nat.reduceEqDiff, e8], by simp only [tget_tput, ↓reduceIte, Nat.reduceEqDiff, e5], b8, x4.trans x8⟩
      refine W.calls (fun ts h8 => tget ts 3 = .ptr h1.next 0 ∧ tget ts 6 = v ∧ tget ts 7 = .int .i64 (bs.length : Nat) ∧ tget ts 8 = .int .i64 (i : Nat) ∧ Bld h1.next h8 h1.next (hexOf (bs.take (i + 1))) ∧ Ext h1.next h1 h8) ?_ fun ts h8 ⟨e3, e6, e7, e8, b8, x8⟩ => ?_
      · refine G.op (G.op (G.op ?_))
        simp only [ckR_nil, evN_none, stp_some, putR_some, gd_true, wanted_none, dput_some, ev_t, ev_c, evOp, tget_tput, bin_band, ↓reduceIte, Option.map_some, e5, s2, g2]
        refine G.call ?_
        simp only [dput_some, ev_t, tget_tput, ↓reduceIte, Nat.reduceEqDiff, List.map_cons, List.map_nil, e3]
        refine (wbyte_ok (c := y2) x7.1 b7 (by rw [List.length_append, List.length_singleton]; omega)).mono fun r h8 ⟨er, b8, x8⟩ => ?_
        subst er
        exact G.done ⟨by simp only [tget_tput, ↓reduceIte, Nat.reduceEqDiff, e3], by simp only [tget_tput, ↓reduceIte, Nat.reduceEqDiff, e6], by simp only [tget_tput, ↓reduceIte, Nat.reduceEqDiff, e7], by simp only [tget_tput, ↓reduceIte, Nat.reduceEqDiff, e8], by rw [htk]; exact b8, x7.trans x8⟩
      have w4 : IntKind.i64.wrap (((i : Nat) : Int) + 1) = ((i + 1 : Nat) : Int) := IntWalk.i64_in _ (by omega)
      refine W.runs (fun ts h9 => h9 = h8 ∧ tget ts 3 = .ptr h1.next 0 ∧ tget ts 6 = v ∧ tget ts 7 = .int .i64 (bs.length : Nat) ∧ tget ts 8 = .int .i64 ((i + 1 : Nat) : Int)) ?_ fun ts h9 ⟨eh, e3, e6, e7, e8⟩ => ?_
      · simp only [ckR_nil, evN_none, stps_nil, stps_cons, stp_some, putR_some, gd_true, wanted_none, dput_some, ev_t, ev_c, okR_some, evOp, tget_tput, bin_add, ↓reduceIte, Nat.reduceEqDiff, Option.map_some, and_self, e3, e6, e7, e8, w4]
      subst eh
      exact ⟨bs.length - (i + 1), by omega, i + 1, rfl, by omega, e3, e6, e7, e8, b8, x8⟩
    · simp only [decide_eq_false_iff_not] at hc
      have : i = bs.length := by omega
      subst this
      rwa [List.take_length] at b4
  have hlen := hexOf_len bs
  refine W.seq (W.calls (fun ts hg => tget ts 2 = .str (hexOf bs) ∧ Ext h1.next h4 hg) ?_ fun ts hg ⟨e2, q7⟩ => W.ret ⟨_, by simp only [Am.results, rdAll, rdRes, e2, rf10], rfl, x4.trans q7⟩)
  refine G.call ?_
  simp only [dput_some, ev_t, List.map_cons, List.map_nil, e3]
  by_cases h0 : hexOf bs = []
  · rw [h0] at b4 ⊢
    refine (string0_ok b4).mono fun r h6 ⟨ev, k1⟩ => ?_
    subst ev
    refine G.op ?_
    simp only [ckR_nil, evN_none, stp_some, putR_some, gd_true, wanted_none, dput_some, ev_t, evOp, tget_tput, ↓reduceIte]
    refine G.done ?_
    simp only [tget_tput, ↓reduceIte, true_and]
    exact k1
  · refine (string_ok b4 (by omega) h0).mono fun r h6 ⟨ev, k1⟩ => ?_
    subst ev
    refine G.op ?_
    simp only [ckR_nil, evN_none, stp_some, putR_some, gd_true, wanted_none, dput_some, ev_t, evOp, tget_tput, ↓reduceIte]
    refine G.done ?_
    simp only [tget_tput, ↓reduceIte, true_and]
    exact k1

theorem slS_hex {ev : RO → AV} {a b : RO} {d : Nat} (hd' : d < 16) (h1 : ev a = .int .i64 (d : Nat)) (h2 : ev b = .int .i64 ((d + 1 : Nat) : Int)) :
    slSA ev (.str [48, 49, 50, 51, 52, 53, 54, 55, 56, 57, 97, 98, 99, 100, 101, 102]) (some a) (some b) = some (.str [hd d]) := by
  simp only [slSA, bounds, h1, h2, bnd]
  have : d = 0 ∨ d = 1 ∨ d = 2 ∨ d = 3 ∨ d = 4 ∨ d = 5 ∨ d = 6 ∨ d = 7 ∨ d = 8 ∨ d = 9 ∨ d = 10 ∨ d = 11 ∨ d = 12 ∨ d = 13 ∨ d = 14 ∨ d = 15 := by omega
  rcases this with rfl | rfl | rfl | rfl | rfl | rfl | rfl | rfl | rfl | rfl | rfl | rfl | rfl | rfl | rfl | rfl <;> rfl

theorem refhex_ok {h : AH} {v : AV} {bs : List UInt8} (hb : Byts h v bs) (hl : bs.length < 2 ^ 30) : C prg 13 [v] h fun r h' => r = .str (hexOf bs) ∧ h' = h := by
  refine C.func pf13 ?_
  refine W.seq (W.runs (fun ts h1 => h1 = h ∧ tget ts 0 = v) ?_ fun ts h1 ⟨eh, e0⟩ => ?_)
  · simp only [ckR_nil, evN_none, stps_nil, stps_cons, stp_some, putR_some, gd_true, wanted_none, dput_some, ev_c, okR_some, evOp, tget_tput, ↓reduceIte, reduceCtorEq, and_self, initTm]
  subst eh
  refine W.seq (W.runs (fun ts h2 => h2 = h1 ∧ tget ts 0 = v ∧ tget ts 3 = .str []) ?_ fun ts h2 ⟨eh, e0, e3⟩ => ?_)
  · simp only [ckR_nil, evN_none, stps_nil, stps_cons, stp_some, putR_some, gd_true, wanted_none, dput_some, ev_c, okR_some, evOp, tget_tput, ↓reduceIte, reduceCtorEq, and_self, e0]
  subst eh
  have hl2 := hb.len
  refine W.seq (W.seq (W.runs (fun ts h3 => h3 = h2 ∧ tget ts 0 = v ∧ tget ts 3 = .str [] ∧ tget ts 4 = .int .i64 ((0 : Nat) : Int)) ?_ fun ts h3 ⟨eh, e0, e3, e4⟩ => ?_))
  · simp only [ckR_nil, evN_none, stps_nil, stps_cons, stp_some, putR_some, gd_true, wanted_none, dput_some, ev_c, okR_some, evOp, tget_tput, ↓reduceIte, Nat.reduceEqDiff, reduceCtorEq, true_and, e0, e3]
    simp
  subst eh
  refine W.cut (fun ts h4 => h4 = h3 ∧ tget ts 3 = .str (hexOf bs)) (W.block (W.loop (fun m ts h4 => h4 = h3 ∧ ∃ i, m = bs.length - i ∧ i ≤ bs.length ∧ tget ts 0 = v ∧ tget ts 3 = .str (hexOf (bs.take i)) ∧ tget ts 4 = .int .i64 (i : Nat)) ?_ (n := bs.length) ⟨rfl, 0, rfl, Nat.zero_le _, e0, e3, e4⟩)) fun ts h4 ⟨eh, e3⟩ => ?_
  · clear e0 e3 e4
    rintro m ts h4 ⟨eh, i, hm, hi, e0, e3, e4⟩
    subst eh
    refine W.seq (W.seq (W.runs (fun ts h5 => h5 = h4 ∧ tget ts 0 = v ∧ tget ts 3 = .str (hexOf (bs.take i)) ∧ tget ts 4 = .int .i64 (i : Nat) ∧ tget ts 10 = .bool (decide (i < bs.length))) ?_ fun ts h5 ⟨eh, e0, e3, e4, e10⟩ => ?_))
    · have : decide (((i : Nat) : Int) < (bs.length : Nat)) = decide (i < bs.length) := by simp only [decide_eq_decide]; omega
      simp only [ckR_nil, evN_none, stps_nil, stps_cons, stp_some, putR_some, gd_true, wanted_none, dput_some, ev_t, okR_some, evOp, tget_tput, bin_lss, ↓reduceIte, Nat.reduceEqDiff, Option.map_some, reduceCtorEq, and_self, e0, e3, e4, hl2, this]
    subst eh
    refine W.cond e10 (fun hc => W.skip ?_) fun hc => W.exit ⟨fun _ => ⟨rfl, ?_⟩, fun e => absurd rfl e⟩
    · simp only [decide_eq_true_eq] at hc
      obtain ⟨c, hci⟩ : ∃ c, bs[i]? = some c := ⟨_, List.getElem?_eq_getElem hc⟩
      obtain ⟨b, p1, p2⟩ := hb.at hci
      have htk := hexOf_take hci
      have hlt : c.toNat < 256 := c.toNat_lt
      have hlen := hexOf_len (bs.take i)
      have htl : (bs.take i).length ≤ bs.length := by simp; omega
      have w0 : IntKind.i64.wrap ((c.toNat : Nat) : Int) = (c.toNat : Nat) := IntWalk.i64_in _ (by omega)
      have w1 : IntKind.i64.wrap (((c.toNat : Nat) : Int).tdiv 16) = ((c.toNat / 16 : Nat) : Int) := by
        have : ((c.toNat : Nat) : Int).tdiv 16 = ((c.toNat / 16 : Nat) : Int) := rfl
        rw [this, IntWalk.i64_in _ (by omega)]
      have w2 : ((c.toNat : Nat) : Int).tmod 16 = ((c.toNat % 16 : Nat) : Int) := rfl
      have w5 : IntKind.i64.wrap (((c.toNat / 16 : Nat) : Int) + 1) = ((c.toNat / 16 + 1 : Nat) : Int) := IntWalk.i64_in _ (by omega)
      have w6 : IntKind.i64.wrap (((c.toNat % 16 : Nat) : Int) + 1) = ((c.toNat % 16 + 1 : Nat) : Int) := IntWalk.i64_in _ (by omega)
      have l1 : c.toNat / 16 < 16 := by omega
      have l2 : c.toNat % 16 < 16 := by omega
      obtain ⟨q1, hq1⟩ : ∃ q, q = c.toNat / 16 := ⟨_, rfl⟩
      obtain ⟨q2, hq2⟩ : ∃ q, q = c.toNat % 16 := ⟨_, rfl⟩
      rw [← hq1] at w1 w5 l1 htk
      rw [← hq2] at w2 w6 l2 htk
      clear hq1 hq2
      refine W.seq (W.block (W.seq (W.runs (fun ts h6 => h6 = h5 ∧ tget ts 0 = v ∧ tget ts 3 = .str (hexOf (bs.take i)) ∧ tget ts 4 = .int .i64 (i : Nat) ∧ tget ts 5 = .int .i64 (q1 : Nat) ∧ tget ts 6 = .int .i64 (q2 : Nat)) ?_ fun ts h6 ⟨eh, e0, e3, e4, e5, e6⟩ => ?_)))
      · simp only [ckR_nil, evN_none, stps_nil, stps_cons, stp_some, putR_some, gd_true, wanted_none, dput_some, ev_t, ev_c, okR_some, evOp, tget_tput, loadA_ptr, packA_one, bin_quo, bin_rem, cvIA_int, ↓reduceIte, Nat.reduceEqDiff, Int.reduceEq, Option.map_some, reduceCtorEq, and_self, e0, e3, e4, p1, p2, w0, w1, w2]
      subst eh
      have c1 : (hexOf (bs.take i)).length + 1 < 2 ^ 62 := by omega
      have c2 : (hexOf (bs.take i) ++ [hd q1]).length + 1 < 2 ^ 62 := by rw [List.length_append, List.length_singleton]; omega
      refine W.runs (fun ts h7 => h7 = h6 ∧ tget ts 0 = v ∧ tget ts 3 = .str (hexOf (bs.take (i + 1))) ∧ tget ts 4 = .int .i64 (i : Nat)) ?_ fun ts h7 ⟨eh, e0, e3, e4⟩ => ?_
      · simp only [ckR_nil, evN_none, stps_nil, stps_cons, stp_some, putR_some, gd_true, wanted_none, dput_some, ev_t, ev_c, evOp, tget_tput, bin_add, ↓reduceIte, Nat.reduceEqDiff, Option.map_some, e3, e5, w5]
        rw [slS_hex l1 (by simp only [ev_t, tget_tput, ↓reduceIte, Nat.reduceEqDiff]) (by simp only [ev_t, tget_tput, ↓reduceIte])]
        simp only [ckR_nil, evN_none, stp_some, putR_some, gd_true, wanted_none, dput_some, ev_t, ev_c, evOp, tget_tput, bin_add, bin_sadd, ↓reduceIte, Nat.reduceEqDiff, Option.map_some, Nat.zero_add, List.length_cons, List.length_nil, e6, w6, c1]
        rw [slS_hex l2 (by simp only [ev_t, tget_tput, ↓reduceIte, Nat.reduceEqDiff]) (by simp only [ev_t, tget_tput, ↓reduceIte])]
        simp only [ckR_nil, evN_none, stp_some, putR_some, gd_true, wanted_none, dput_some, ev_t, okR_some, evOp, tget_tput, bin_sadd, ↓reduceIte, Nat.reduceEqDiff, Option.map_some, Nat.zero_add, reduceCtorEq, List.length_cons, List.length_nil, and_self, e0, e4, c2, htk]
      subst eh
      have w4 : IntKind.i64.wrap (((i : Nat) : Int) + 1) = ((i + 1 : Nat) : Int) := IntWalk.i64_in _ (by omega)
      refine W.runs (fun ts h9 => h9 = h7 ∧ tget ts 0 = v ∧ tget ts 3 = .str (hexOf (bs.take (i + 1))) ∧ tget ts 4 = .int .i64 ((i + 1 : Nat) : Int)) ?_ fun ts h9 ⟨eh, e0, e3, e4⟩ => ?_
      · simp only [ckR_nil, evN_none, stps_nil, stps_cons, stp_some, putR_some, gd_true, wanted_none, dput_some, ev_t, ev_c, okR_some, evOp, tget_tput, bin_add, ↓reduceIte, Nat.reduceEqDiff, Option.map_some, reduceCtorEq, and_self, e0, e3, e4, w4]
      subst eh
      exact ⟨bs.length - (i + 1), by omega, rfl, i + 1, rfl, by omega, e0, e3, e4⟩
    · simp only [decide_eq_false_iff_not] at hc
      have : i = bs.length := by omega
      subst this
      rwa [List.take_length] at e3
  subst eh
  refine W.seq (W.runs (fun ts hg => hg = h4 ∧ tget ts 2 = .str (hexOf bs)) ?_ fun ts hg ⟨eh, e2⟩ => W.ret ⟨_, by simp only [Am.results, rdAll, rdRes, e2, rf13], rfl, eh⟩)
  simp only [ckR_nil, evN_none, stps_nil, stps_cons, stp_some, putR_some, gd_true, wanted_none, dput_some, ev_t, okR_some, evOp, tget_tput, ↓reduceIte, and_self, e3]

end Go.Proofs.YtjcbcmonmmfllaaGreatDoor
